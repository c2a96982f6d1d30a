/- Part 2 of the texts on which the proof rests. Conditions: none. -/
import Derived.Test.YtclhljenjphofaaProg
import Derived.Test.YtclhljenjphofaaZC1
set_option linter.unusedVariables false
set_option linter.unusedSimpArgs false
set_option linter.unusedSectionVars false
namespace Go.Nm
open Go
section
variable {P : Program} {w : World} {σ : Env} {d : Nat} {ty : TypeId} {pos : String} {af : Array Edge} {g : Option (Nat × Bool)}
theorem x_pand0 {c x y : Operand} {b : Bool} (hc : ev σ c = .bool b) (hx : b = true -> ev σ x = .bool false) (hy : ev σ y = .bool false) :
    (execOp (ev σ) ⟨some d, .pick c x y, ty, pos, af, g⟩).run P w = .ok (.value (.bool false)) w := by
  have := x_pand (P := P) (w := w) (d := d) (ty := ty) (pos := pos) (af := af) (g := g) hc hx hy
  rwa [Bool.and_false] at this
end
end Go.Nm
namespace Go.Proofs.Ytclhljenjphofaa
open Go Go.Nm
theorem cf12 : CF Try.prog 12 := ⟨_, Try.func12, rfl, by decide +kernel⟩
theorem cf13 : CF Try.prog 13 := ⟨_, Try.func13, rfl, by decide +kernel⟩
theorem cf14 : CF Try.prog 14 := ⟨_, Try.func14, rfl, by decide +kernel⟩
theorem cf15 : CF Try.prog 15 := ⟨_, Try.func15, rfl, by decide +kernel⟩
theorem cf16 : CF Try.prog 16 := ⟨_, Try.func16, rfl, by decide +kernel⟩
theorem cf17 : CF Try.prog 17 := ⟨_, Try.func17, rfl, by decide +kernel⟩
theorem cf18 : CF Try.prog 18 := ⟨_, Try.func18, rfl, by decide +kernel⟩
theorem cf19 : CF Try.prog 19 := ⟨_, Try.func19, rfl, by decide +kernel⟩
theorem cf21 : CF Try.prog 21 := ⟨_, Try.func21, rfl, by decide +kernel⟩
theorem cf23 : CF Try.prog 23 := ⟨_, Try.func23, rfl, by decide +kernel⟩
theorem cf32 : CF Try.prog 32 := ⟨_, Try.func32, rfl, by decide +kernel⟩
theorem cf37 : CF Try.prog 37 := ⟨_, Try.func37, rfl, by decide +kernel⟩
theorem cf45 : CF Try.prog 45 := ⟨_, Try.func45, rfl, by decide +kernel⟩
theorem cf48 : CF Try.prog 48 := ⟨_, Try.func48, rfl, by decide +kernel⟩
theorem cf50 : CF Try.prog 50 := ⟨_, Try.func50, rfl, by decide +kernel⟩
theorem cf52 : CF Try.prog 52 := ⟨_, Try.func52, rfl, by decide +kernel⟩
theorem cf53 : CF Try.prog 53 := ⟨_, Try.func53, rfl, by decide +kernel⟩
theorem cf54 : CF Try.prog 54 := ⟨_, Try.func54, rfl, by decide +kernel⟩
theorem cf55 : CF Try.prog 55 := ⟨_, Try.func55, rfl, by decide +kernel⟩
theorem cf56 : CF Try.prog 56 := ⟨_, Try.func56, rfl, by decide +kernel⟩
theorem cf57 : CF Try.prog 57 := ⟨_, Try.func57, rfl, by decide +kernel⟩
theorem cf58 : CF Try.prog 58 := ⟨_, Try.func58, rfl, by decide +kernel⟩
theorem cf59 : CF Try.prog 59 := ⟨_, Try.func59, rfl, by decide +kernel⟩
theorem cf60 : CF Try.prog 60 := ⟨_, Try.func60, rfl, by decide +kernel⟩
theorem cf61 : CF Try.prog 61 := ⟨_, Try.func61, rfl, by decide +kernel⟩
theorem cf62 : CF Try.prog 62 := ⟨_, Try.func62, rfl, by decide +kernel⟩
theorem cf63 : CF Try.prog 63 := ⟨_, Try.func63, rfl, by decide +kernel⟩
theorem cf65 : CF Try.prog 65 := ⟨_, Try.func65, rfl, by decide +kernel⟩
theorem cf68 : CF Try.prog 68 := ⟨_, Try.func68, rfl, by decide +kernel⟩
theorem cf74 : CF Try.prog 74 := ⟨_, Try.func74, rfl, by decide +kernel⟩
theorem cf75 : CF Try.prog 75 := ⟨_, Try.func75, rfl, by decide +kernel⟩
theorem cf76 : CF Try.prog 76 := ⟨_, Try.func76, rfl, by decide +kernel⟩
theorem cf81 : CF Try.prog 81 := ⟨_, Try.func81, rfl, by decide +kernel⟩
theorem cf82 : CF Try.prog 82 := ⟨_, Try.func82, rfl, by decide +kernel⟩
theorem cf83 : CF Try.prog 83 := ⟨_, Try.func83, rfl, by decide +kernel⟩
theorem cf84 : CF Try.prog 84 := ⟨_, Try.func84, rfl, by decide +kernel⟩
theorem cf85 : CF Try.prog 85 := ⟨_, Try.func85, rfl, by decide +kernel⟩
theorem cf86 : CF Try.prog 86 := ⟨_, Try.func86, rfl, by decide +kernel⟩
theorem cf87 : CF Try.prog 87 := ⟨_, Try.func87, rfl, by decide +kernel⟩
theorem cf88 : CF Try.prog 88 := ⟨_, Try.func88, rfl, by decide +kernel⟩
theorem cf89 : CF Try.prog 89 := ⟨_, Try.func89, rfl, by decide +kernel⟩
theorem cf90 : CF Try.prog 90 := ⟨_, Try.func90, rfl, by decide +kernel⟩
theorem cf91 : CF Try.prog 91 := ⟨_, Try.func91, rfl, by decide +kernel⟩
theorem cf92 : CF Try.prog 92 := ⟨_, Try.func92, rfl, by decide +kernel⟩
theorem cf94 : CF Try.prog 94 := ⟨_, Try.func94, rfl, by decide +kernel⟩
theorem cf95 : CF Try.prog 95 := ⟨_, Try.func95, rfl, by decide +kernel⟩
theorem cf98 : CF Try.prog 98 := ⟨_, Try.func98, rfl, by decide +kernel⟩
theorem cf99 : CF Try.prog 99 := ⟨_, Try.func99, rfl, by decide +kernel⟩
theorem cf100 : CF Try.prog 100 := ⟨_, Try.func100, rfl, by decide +kernel⟩
theorem cf101 : CF Try.prog 101 := ⟨_, Try.func101, rfl, by decide +kernel⟩
theorem cf105 : CF Try.prog 105 := ⟨_, Try.func105, rfl, by decide +kernel⟩
theorem cf106 : CF Try.prog 106 := ⟨_, Try.func106, rfl, by decide +kernel⟩
theorem cf108 : CF Try.prog 108 := ⟨_, Try.func108, rfl, by decide +kernel⟩
theorem cf109 : CF Try.prog 109 := ⟨_, Try.func109, rfl, by decide +kernel⟩
theorem T22 : SlT Try.prog 22 5 1 1 (.int .u8 0) := ⟨Try.underlying22, by kernel_rfl, rfl, by decide⟩
theorem T23 : SlT Try.prog 23 34 5 40 (.agg #[I 0, I 0, I 0, I 0, I 0]) := ⟨Try.underlying23, by kernel_rfl, rfl, by decide⟩
theorem T26 : SlT Try.prog 26 3 1 8 (I 0) := ⟨Try.underlying26, by kernel_rfl, rfl, by decide⟩
theorem T46 : SlT Try.prog 46 50 2 16 (.agg #[I 0, I 0]) := ⟨Try.underlying46, by kernel_rfl, rfl, by decide⟩
theorem T88 : SlT Try.prog 88 91 2 16 (.agg #[I 0, B false]) := ⟨Try.underlying88, by kernel_rfl, rfl, by decide⟩
theorem Sc3 : isSc (Try.prog.underlying 3) = true := by rw [Try.underlying3]; rfl
theorem Sc4 : isSc (Try.prog.underlying 4) = true := by rw [Try.underlying4]; rfl
theorem Sc5 : isSc (Try.prog.underlying 5) = true := by rw [Try.underlying5]; rfl
theorem Sc22 : isSc (Try.prog.underlying 22) = true := by rw [Try.underlying22]; rfl
theorem Sc23 : isSc (Try.prog.underlying 23) = true := by rw [Try.underlying23]; rfl
theorem Sc106 : isSc (Try.prog.underlying 106) = true := by rw [Try.underlying106]; rfl
theorem Sc111 : isSc (Try.prog.underlying 111) = true := by rw [Try.underlying111]; rfl
theorem Sc137 : isSc (Try.prog.underlying 137) = true := by rw [Try.underlying137]; rfl
theorem Sc139 : isSc (Try.prog.underlying 139) = true := by rw [Try.underlying139]; rfl
theorem Sc146 : isSc (Try.prog.underlying 146) = true := by rw [Try.underlying146]; rfl
theorem Sc151 : isSc (Try.prog.underlying 151) = true := by rw [Try.underlying151]; rfl
theorem Sc158 : isSc (Try.prog.underlying 158) = true := by rw [Try.underlying158]; rfl
theorem Sc167 : isSc (Try.prog.underlying 167) = true := by rw [Try.underlying167]; rfl
theorem Sc168 : isSc (Try.prog.underlying 168) = true := by rw [Try.underlying168]; rfl
theorem Sz3 : (Try.prog.info? 3).map (·.size) = some 1 := by kernel_rfl
theorem Sz4 : (Try.prog.info? 4).map (·.size) = some 1 := by kernel_rfl
theorem Sz22 : (Try.prog.info? 22).map (·.size) = some 1 := by kernel_rfl
theorem Sz23 : (Try.prog.info? 23).map (·.size) = some 1 := by kernel_rfl
theorem Ag25 : isAg (Try.prog.underlying 25) = true := by rw [Try.underlying25]; rfl
theorem Sz25 : (Try.prog.info? 25).map (·.size) = some 2 := by kernel_rfl
theorem Ag34 : isAg (Try.prog.underlying 34) = true := by rw [Try.underlying34]; rfl
theorem Sz34 : (Try.prog.info? 34).map (·.size) = some 5 := by kernel_rfl
theorem Ag37 : isAg (Try.prog.underlying 37) = true := by rw [Try.underlying37]; rfl
theorem Sz37 : (Try.prog.info? 37).map (·.size) = some 2 := by kernel_rfl
theorem Ag50 : isAg (Try.prog.underlying 50) = true := by rw [Try.underlying50]; rfl
theorem Sz50 : (Try.prog.info? 50).map (·.size) = some 2 := by kernel_rfl
theorem Ag91 : isAg (Try.prog.underlying 91) = true := by rw [Try.underlying91]; rfl
theorem Sz91 : (Try.prog.info? 91).map (·.size) = some 2 := by kernel_rfl
theorem Sz111 : (Try.prog.info? 111).map (·.size) = some 1 := by kernel_rfl
theorem Sz114 : (Try.prog.info? 114).map (·.size) = some 13 := by kernel_rfl
theorem Sz116 : (Try.prog.info? 116).map (·.size) = some 169 := by kernel_rfl
theorem Sz117 : (Try.prog.info? 117).map (·.size) = some 26 := by kernel_rfl
theorem Sz118 : (Try.prog.info? 118).map (·.size) = some 338 := by kernel_rfl
theorem Sz137 : (Try.prog.info? 137).map (·.size) = some 1 := by kernel_rfl
theorem Sz146 : (Try.prog.info? 146).map (·.size) = some 1 := by kernel_rfl
theorem Sz151 : (Try.prog.info? 151).map (·.size) = some 1 := by kernel_rfl
theorem Ag160 : isAg (Try.prog.underlying 160) = true := by rw [Try.underlying160]; rfl
theorem Sz160 : (Try.prog.info? 160).map (·.size) = some 1 := by kernel_rfl
theorem Sz162 : (Try.prog.info? 162).map (·.size) = some 13 := by kernel_rfl
theorem Sz167 : (Try.prog.info? 167).map (·.size) = some 1 := by kernel_rfl
theorem Sz168 : (Try.prog.info? 168).map (·.size) = some 1 := by kernel_rfl
theorem Fd25_0 : (Try.prog.underlying 25).bind (fun d => match d with | .struct fs => (fs[0]?).map (fun f => (f.offset, f.type)) | _ => none) = some (0, 3) := by rw [Try.underlying25]; rfl
theorem Fd25_1 : (Try.prog.underlying 25).bind (fun d => match d with | .struct fs => (fs[1]?).map (fun f => (f.offset, f.type)) | _ => none) = some (1, 23) := by rw [Try.underlying25]; rfl
theorem Fd34_0 : (Try.prog.underlying 34).bind (fun d => match d with | .struct fs => (fs[0]?).map (fun f => (f.offset, f.type)) | _ => none) = some (0, 3) := by rw [Try.underlying34]; rfl
theorem Fd34_1 : (Try.prog.underlying 34).bind (fun d => match d with | .struct fs => (fs[1]?).map (fun f => (f.offset, f.type)) | _ => none) = some (1, 3) := by rw [Try.underlying34]; rfl
theorem Fd34_2 : (Try.prog.underlying 34).bind (fun d => match d with | .struct fs => (fs[2]?).map (fun f => (f.offset, f.type)) | _ => none) = some (2, 3) := by rw [Try.underlying34]; rfl
theorem Fd34_3 : (Try.prog.underlying 34).bind (fun d => match d with | .struct fs => (fs[3]?).map (fun f => (f.offset, f.type)) | _ => none) = some (3, 3) := by rw [Try.underlying34]; rfl
theorem Fd34_4 : (Try.prog.underlying 34).bind (fun d => match d with | .struct fs => (fs[4]?).map (fun f => (f.offset, f.type)) | _ => none) = some (4, 3) := by rw [Try.underlying34]; rfl
theorem Fd37_0 : (Try.prog.underlying 37).bind (fun d => match d with | .struct fs => (fs[0]?).map (fun f => (f.offset, f.type)) | _ => none) = some (0, 3) := by rw [Try.underlying37]; rfl
theorem Fd37_1 : (Try.prog.underlying 37).bind (fun d => match d with | .struct fs => (fs[1]?).map (fun f => (f.offset, f.type)) | _ => none) = some (1, 3) := by rw [Try.underlying37]; rfl
theorem Fd50_0 : (Try.prog.underlying 50).bind (fun d => match d with | .struct fs => (fs[0]?).map (fun f => (f.offset, f.type)) | _ => none) = some (0, 3) := by rw [Try.underlying50]; rfl
theorem Fd50_1 : (Try.prog.underlying 50).bind (fun d => match d with | .struct fs => (fs[1]?).map (fun f => (f.offset, f.type)) | _ => none) = some (1, 3) := by rw [Try.underlying50]; rfl
theorem Fd91_0 : (Try.prog.underlying 91).bind (fun d => match d with | .struct fs => (fs[0]?).map (fun f => (f.offset, f.type)) | _ => none) = some (0, 3) := by rw [Try.underlying91]; rfl
theorem Fd91_1 : (Try.prog.underlying 91).bind (fun d => match d with | .struct fs => (fs[1]?).map (fun f => (f.offset, f.type)) | _ => none) = some (1, 4) := by rw [Try.underlying91]; rfl
theorem Fd109_0 : (Try.prog.underlying 109).bind (fun d => match d with | .struct fs => (fs[0]?).map (fun f => (f.offset, f.type)) | _ => none) = some (0, 22) := by rw [Try.underlying109]; rfl
theorem Fd109_1 : (Try.prog.underlying 109).bind (fun d => match d with | .struct fs => (fs[1]?).map (fun f => (f.offset, f.type)) | _ => none) = some (1, 3) := by rw [Try.underlying109]; rfl
theorem Fd109_2 : (Try.prog.underlying 109).bind (fun d => match d with | .struct fs => (fs[2]?).map (fun f => (f.offset, f.type)) | _ => none) = some (2, 3) := by rw [Try.underlying109]; rfl
theorem Fd120_0 : (Try.prog.underlying 120).bind (fun d => match d with | .struct fs => (fs[0]?).map (fun f => (f.offset, f.type)) | _ => none) = some (0, 25) := by rw [Try.underlying120]; rfl
theorem Fd120_1 : (Try.prog.underlying 120).bind (fun d => match d with | .struct fs => (fs[1]?).map (fun f => (f.offset, f.type)) | _ => none) = some (2, 116) := by rw [Try.underlying120]; rfl
theorem Fd120_2 : (Try.prog.underlying 120).bind (fun d => match d with | .struct fs => (fs[2]?).map (fun f => (f.offset, f.type)) | _ => none) = some (171, 118) := by rw [Try.underlying120]; rfl
theorem Fd160_0 : (Try.prog.underlying 160).bind (fun d => match d with | .struct fs => (fs[0]?).map (fun f => (f.offset, f.type)) | _ => none) = some (0, 158) := by rw [Try.underlying160]; rfl
theorem Fd164_0 : (Try.prog.underlying 164).bind (fun d => match d with | .struct fs => (fs[0]?).map (fun f => (f.offset, f.type)) | _ => none) = some (0, 114) := by rw [Try.underlying164]; rfl
theorem Fd164_1 : (Try.prog.underlying 164).bind (fun d => match d with | .struct fs => (fs[1]?).map (fun f => (f.offset, f.type)) | _ => none) = some (13, 117) := by rw [Try.underlying164]; rfl
theorem Fd164_2 : (Try.prog.underlying 164).bind (fun d => match d with | .struct fs => (fs[2]?).map (fun f => (f.offset, f.type)) | _ => none) = some (39, 162) := by rw [Try.underlying164]; rfl
theorem Al3 : (Try.prog.info? 3).map (·.zero) = some (some (I 0)) := by kernel_rfl
theorem Al4 : (Try.prog.info? 4).map (·.zero) = some (some (B false)) := by kernel_rfl
theorem Al25 : (Try.prog.info? 25).map (·.zero) = some (some (.agg #[I 0, .slice none 0 0])) := by kernel_rfl
theorem Al34 : (Try.prog.info? 34).map (·.zero) = some (some (.agg #[I 0, I 0, I 0, I 0, I 0])) := by kernel_rfl
theorem Al37 : (Try.prog.info? 37).map (·.zero) = some (some (.agg #[I 0, I 0])) := by kernel_rfl
theorem Al50 : (Try.prog.info? 50).map (·.zero) = some (some (.agg #[I 0, I 0])) := by kernel_rfl
theorem Al91 : (Try.prog.info? 91).map (·.zero) = some (some (.agg #[I 0, B false])) := by kernel_rfl
theorem Al109 : (Try.prog.info? 109).map (·.zero) = some (some (.agg #[.slice none 0 0, I 0, I 0])) := by kernel_rfl
theorem Al111 : (Try.prog.info? 111).map (·.zero) = some (some (.pointer none)) := by kernel_rfl
theorem Al137 : (Try.prog.info? 137).map (·.zero) = some (some (.nilFunc)) := by kernel_rfl
theorem Al146 : (Try.prog.info? 146).map (·.zero) = some (some (.nilFunc)) := by kernel_rfl
theorem Al151 : (Try.prog.info? 151).map (·.zero) = some (some (.map none)) := by kernel_rfl
theorem Al160 : (Try.prog.info? 160).map (·.zero) = some (some (.agg #[.nilFunc])) := by kernel_rfl
theorem Al167 : (Try.prog.info? 167).map (·.zero) = some (some (.pointer none)) := by kernel_rfl
theorem Al168 : (Try.prog.info? 168).map (·.zero) = some (some (.pointer none)) := by kernel_rfl
theorem Bd25 {fs : Array Field} (h : Try.prog.underlying 25 = some (.struct fs)) : fs.toList.mapM (fun f => (Try.prog.info? f.type).map fun i => (f.offset, i.size)) = some [(0, 1), (1, 1)] := by rw [Try.underlying25] at h; simp only [Option.some.injEq, TypeDesc.struct.injEq] at h; subst h; kernel_rfl
theorem Bd34 {fs : Array Field} (h : Try.prog.underlying 34 = some (.struct fs)) : fs.toList.mapM (fun f => (Try.prog.info? f.type).map fun i => (f.offset, i.size)) = some [(0, 1), (1, 1), (2, 1), (3, 1), (4, 1)] := by rw [Try.underlying34] at h; simp only [Option.some.injEq, TypeDesc.struct.injEq] at h; subst h; kernel_rfl
theorem Bd37 {fs : Array Field} (h : Try.prog.underlying 37 = some (.struct fs)) : fs.toList.mapM (fun f => (Try.prog.info? f.type).map fun i => (f.offset, i.size)) = some [(0, 1), (1, 1)] := by rw [Try.underlying37] at h; simp only [Option.some.injEq, TypeDesc.struct.injEq] at h; subst h; kernel_rfl
theorem Bd50 {fs : Array Field} (h : Try.prog.underlying 50 = some (.struct fs)) : fs.toList.mapM (fun f => (Try.prog.info? f.type).map fun i => (f.offset, i.size)) = some [(0, 1), (1, 1)] := by rw [Try.underlying50] at h; simp only [Option.some.injEq, TypeDesc.struct.injEq] at h; subst h; kernel_rfl
theorem Bd91 {fs : Array Field} (h : Try.prog.underlying 91 = some (.struct fs)) : fs.toList.mapM (fun f => (Try.prog.info? f.type).map fun i => (f.offset, i.size)) = some [(0, 1), (1, 1)] := by rw [Try.underlying91] at h; simp only [Option.some.injEq, TypeDesc.struct.injEq] at h; subst h; kernel_rfl
theorem Bd109 {fs : Array Field} (h : Try.prog.underlying 109 = some (.struct fs)) : fs.toList.mapM (fun f => (Try.prog.info? f.type).map fun i => (f.offset, i.size)) = some [(0, 1), (1, 1), (2, 1)] := by rw [Try.underlying109] at h; simp only [Option.some.injEq, TypeDesc.struct.injEq] at h; subst h; kernel_rfl
theorem Bd120 {fs : Array Field} (h : Try.prog.underlying 120 = some (.struct fs)) : fs.toList.mapM (fun f => (Try.prog.info? f.type).map fun i => (f.offset, i.size)) = some [(0, 2), (2, 169), (171, 338)] := by rw [Try.underlying120] at h; simp only [Option.some.injEq, TypeDesc.struct.injEq] at h; subst h; kernel_rfl
theorem Bd160 {fs : Array Field} (h : Try.prog.underlying 160 = some (.struct fs)) : fs.toList.mapM (fun f => (Try.prog.info? f.type).map fun i => (f.offset, i.size)) = some [(0, 1)] := by rw [Try.underlying160] at h; simp only [Option.some.injEq, TypeDesc.struct.injEq] at h; subst h; kernel_rfl
theorem mixed : Try.prog.follows .mixedOrders = true := by kernel_rfl
theorem Al120 : (Try.prog.info? 120).map (·.zero) = some (some (.agg (List.flatten [[I 0, .slice none 0 0], encF (α := Int) (List.replicate 169 0), encF (α := Leg) (List.replicate 169 default)]).toArray)) := by kernel_rfl
theorem Al164 : (Try.prog.info? 164).map (·.zero) = some (some (.agg (List.flatten [[], encF (α := Int) (List.replicate 13 0), encF (α := Leg) (List.replicate 13 default), encF (α := Bool) (List.replicate 13 false)]).toArray)) := by kernel_rfl

end Go.Proofs.Ytclhljenjphofaa
section
set_option maxRecDepth 100000
set_option maxHeartbeats 16000000
namespace Go.Proofs.Ytclhljenjphofaa
open Go Go.Nm
def m_level_in (n : Int) (least : Int) (greatest : Int) : M Bool :=
  M.pure ((decide (least <= n)) && (decide (n <= greatest)))
theorem level_in_ok {R : List Chunk}  (n : Int) (least : Int) (greatest : Int)  {r : Bool} (hM : (m_level_in n least greatest).Ends r) (w : World) (H : St w w [] R) : Ret Try.prog 68 #[I n, I least, I greatest] w fun v w' => ∃ (y0 : Bool), y0 = r /\ v = B y0 /\ St w w' [] R := by
 refine ret_of_W Try.func68 rfl rfl rfl ?_
 refine W.seq ?_
 refine W.region rfl ?_
 refine s_val (x_as (v := B false) rfl) ?_
 refine s_nil ?_
 refine W.seq ?_
 refine W.region rfl ?_
 refine s_val (x_mv (v := I n) rfl) ?_
 refine s_val (x_mv (v := I least) rfl) ?_
 refine s_val (x_cmp (kd := .i64) (a := n) (b := least) (r := decide (least <= n)) rfl rfl rfl) ?_
 refine s_val (x_mv (v := B (decide (least <= n))) rfl) ?_
 refine g_val (decide (least <= n)) (gy_t rfl) (fun hg => x_mv (v := I n) rfl) ?_
 refine g_val (decide (least <= n)) (gy_t rfl) (fun hg => x_mv (v := I greatest) rfl) ?_
 refine g_val (decide (least <= n)) (gy_t rfl) (fun hg => x_cmp (kd := .i64) (a := n) (b := greatest) (r := decide (n <= greatest)) (gd_of (c := decide (least <= n)) hg (I n)) (gd_of (c := decide (least <= n)) hg (I greatest)) rfl) ?_
 refine s_val (x_pand (b := decide (least <= n)) (r := decide (n <= greatest)) rfl (fun hb => gd_of (c := decide (least <= n)) (by first | exact hb | (rw [hb]; rfl) | simp_all) (B (decide (n <= greatest)))) rfl) ?_
 refine s_val (x_as (v := B ((decide (least <= n)) && (decide (n <= greatest)))) rfl) ?_
 refine s_nil ?_
 refine W.ret ?_
 have hr_ := M.e_pure hM
 exact ⟨_, resE_tmp rfl, ⟨((decide (least <= n)) && (decide (n <= greatest))), hr_, rfl, H⟩⟩

def m_slices_IndexFunc_level_Line_b0 (s : List Line) (f : Line -> M Bool) : Nat -> M (Nat ⊕ (Int ⊕ Unit)) := fun s2 =>
  bif decide ((s2 : Int) < (s.length : Int)) then (
  M.grd (decide ((s2 : Int) < (s.length : Int))) <|
  M.bind (f (s.getD s2 default)) fun r2 =>
  bif r2 then (
  M.pure (.inr (.inl (s2 : Int))))
  else (
  M.pure (.inl (s2 + 1))))
  else (
  M.pure (.inr (.inr ())))
def m_slices_IndexFunc_level_Line (s : List Line) (f : Line -> M Bool) : M Int :=
  M.bind (M.iter (m_slices_IndexFunc_level_Line_b0 s f) 0) fun x_ => match x_ with
  | (.inl s3) => (
  M.pure s3)
  | (.inr (_ : Unit)) => (
  M.pure (-1))
theorem slices_IndexFunc_level_Line_ok {R : List Chunk} {C_s : Cells} {v_s : Value} {v_f : Value} (s : List Line) (f : Line -> M Bool) (hC_s : Reads R C_s) (hs_s : Sl C_s v_s s) (hf_f : FnM Try.prog R v_f f) {r : Int} (hM : (m_slices_IndexFunc_level_Line s f).Ends r) (w : World) (H : St w w [] R) : Ret Try.prog 106 #[v_s, v_f] w fun v w' => ∃ (y0 : Int), y0 = r /\ v = I y0 /\ St w w' [] R := by
 refine ret_of_W Try.func106 rfl rfl rfl ?_
 refine W.seq ?_
 refine W.region rfl ?_
 refine s_val (x_as (v := I 0) rfl) ?_
 refine s_nil ?_
 refine W.seq ?_
 refine W.seq ?_
 refine W.region rfl ?_
 refine s_val (x_mv (v := v_s) rfl) ?_
 have hl1z := (hs_s).len_le
 refine s_val (x_lenS T23.und rfl hs_s) ?_
 refine s_val (x_mv (v := I 0) rfl) ?_
 refine s_nil ?_
 refine W.block ?_
 obtain ⟨ex2z, hi3z, hk4z⟩ := M.e_bind hM
 obtain ⟨m0_, hi3z⟩ := M.e_iter hi3z
 refine W.loop (fun m σ W => ∃ (s2 : Nat) (ρ : Env), σ = upds ρ [(0, v_s), (1, v_f), (7, I (s.length : Int)), (8, I (s2 : Int))] /\ M.iterN (m_slices_IndexFunc_level_Line_b0 s f) m s2 = some ex2z /\ St w W [] R) ?_ ?_
 ·exact ⟨_, 0, _, upds_of _ _ ⟨rfl, rfl, rfl, rfl, trivial⟩, hi3z, H⟩
 ·rintro m7z σ w5z ⟨s2, ρ, rfl, hI6z, H⟩
  obtain ⟨m8z, lt9z, x10z, hM, hN11z⟩ := M.e_iterN hI6z
  simp only [m_slices_IndexFunc_level_Line_b0] at hM
  clear hI6z
  refine W.seq ?_
  refine W.region rfl ?_
  refine s_val (x_cmp (kd := .i64) (a := (s2 : Int)) (b := (s.length : Int)) (r := decide ((s2 : Int) < (s.length : Int))) rfl rfl rfl) ?_
  refine s_nil ?_
  refine W.seq ?_
  refine W.cond (decide ((s2 : Int) < (s.length : Int))) rfl (fun c12z => ?_) (fun c12z => ?_)
  ·replace hM := M.e_t hM c12z
   simp only [decide_eq_true_eq, decide_eq_false_iff_not, beq_iff_eq, bne_iff_ne, beq_eq_false_iff_ne, bne_eq_false_iff_eq, ne_eq, Decidable.not_not] at c12z
   refine W.skip ?_
   refine W.seq ?_
   refine W.block ?_
   refine W.seq ?_
   refine W.region rfl ?_
   refine s_val (x_mv (v := I (s2 : Int)) rfl) ?_
   refine s_val (x_as (v := I (s2 : Int)) rfl) ?_
   refine s_nil ?_
   refine W.seq ?_
   refine W.region rfl ?_
   refine s_val (x_mv (v := v_f) rfl) ?_
   refine s_val (x_mv (v := v_s) rfl) ?_
   refine s_val (x_mv (v := I (s2 : Int)) rfl) ?_
   obtain ⟨sd13z, hM⟩ := M.e_grd hM
   simp only [Bool.and_eq_true, decide_eq_true_eq] at sd13z
   refine s_val (x_ix (a := v_s) (b := I (s2 : Int)) (v := vat v_s 5 (Int.toNat (s2 : Int))) rfl rfl (Sl.ix (α := Line) T23.und T23.size hs_s (by omega) (by omega))) ?_
   refine s_val (x_ld (p := vat v_s 5 (Int.toNat (s2 : Int))) (v := .agg #[I ((s.getD s2 default).src), I ((s.getD s2 default).dst), I ((s.getD s2 default).day), I ((s.getD s2 default).rise), I ((s.getD s2 default).err)]) rfl (ld_ag Ag34 Sz34 (At.mono (Line_atA hs_s (i := (s2 : Int)) (by omega) (by omega)) (hC_s.at H)))) ?_
   obtain ⟨r2, hx15z, hM⟩ := M.e_bind hM
   refine t_callM H hf_f rfl rfl (s.getD s2 default) Reads.none ⟨_, rfl, rfl⟩ hx15z ?_
   intro w14z H
   refine s_nil ?_
   refine W.cond r2 rfl (fun c16z => ?_) (fun c16z => ?_)
   ·replace hM := M.e_t hM c16z
    refine W.seq ?_
    refine W.region rfl ?_
    refine s_val (x_mv (v := I (s2 : Int)) rfl) ?_
    refine s_val (x_as (v := I (s2 : Int)) rfl) ?_
    refine s_nil ?_
    refine W.ret ?_
    have hX17z := M.e_inr hM hN11z
    subst hX17z
    replace hM := hk4z
    try dsimp only at hM
    have hr_ := M.e_pure hM
    exact ⟨_, resE_tmp rfl, ⟨(s2 : Int), hr_, rfl, H⟩⟩
   ·replace hM := M.e_f hM c16z
    refine W.skip ?_
    refine W.region rfl ?_
    refine s_val (x_ari (a := (s2 : Int)) (b := 1) (r := (s2 : Int) + 1) rfl rfl rfl (by omega)) ?_
    refine s_val (x_mv (v := I ((s2 : Int) + 1)) rfl) ?_
    refine s_nil ?_
    exact ⟨m8z, lt9z, s2 + 1, _, upds_of _ _ ⟨rfl, rfl, rfl, rfl, trivial⟩, M.e_inl hM hN11z, H⟩
  ·replace hM := M.e_f hM c12z
   simp only [decide_eq_true_eq, decide_eq_false_iff_not, beq_iff_eq, bne_iff_ne, beq_eq_false_iff_ne, bne_eq_false_iff_eq, ne_eq, Decidable.not_not] at c12z
   refine W.exit ?_
   have hX18z := M.e_inr hM hN11z
   subst hX18z
   replace hM := hk4z
   try dsimp only at hM
   refine W.seq ?_
   refine W.region rfl ?_
   refine s_val (x_as (v := I (-1)) rfl) ?_
   refine s_nil ?_
   refine W.ret ?_
   have hr_ := M.e_pure hM
   exact ⟨_, resE_tmp rfl, ⟨(-1), hr_, rfl, H⟩⟩

def m_slices_ContainsFunc_level_Line (s : List Line) (f : Line -> M Bool) : M Bool :=
  M.bind (m_slices_IndexFunc_level_Line s f) fun r2 =>
  M.pure (decide (0 <= r2))
theorem slices_ContainsFunc_level_Line_ok {R : List Chunk} {C_s : Cells} {v_s : Value} {v_f : Value} (s : List Line) (f : Line -> M Bool) (hC_s : Reads R C_s) (hs_s : Sl C_s v_s s) (hf_f : FnM Try.prog R v_f f) {r : Bool} (hM : (m_slices_ContainsFunc_level_Line s f).Ends r) (w : World) (H : St w w [] R) : Ret Try.prog 94 #[v_s, v_f] w fun v w' => ∃ (y0 : Bool), y0 = r /\ v = B y0 /\ St w w' [] R := by
 refine ret_of_W Try.func94 rfl rfl rfl ?_
 refine W.seq ?_
 refine W.region rfl ?_
 refine s_val (x_as (v := B false) rfl) ?_
 refine s_nil ?_
 refine W.seq ?_
 refine W.region rfl ?_
 refine s_val (x_mv (v := v_s) rfl) ?_
 refine s_val (x_mv (v := v_f) rfl) ?_
 obtain ⟨r2z, hx1z, hM⟩ := M.e_bind hM
 refine s_call cf106 [v_s, v_f] rfl (slices_IndexFunc_level_Line_ok s f (hC_s.app _) hs_s (hf_f.app _) hx1z _ (St.give (T := []) H rfl)) ?_
 rintro vq w3z ⟨r2, hr4z, hvq, H2_⟩
 subst hr4z
 subst vq
 try dsimp only at hM
 replace H : St w w3z [] R := H.back H2_ rfl
 clear H2_
 refine s_val (x_cmp (kd := .i64) (a := r2) (b := 0) (r := decide (0 <= r2)) rfl rfl rfl) ?_
 refine s_val (x_as (v := B (decide (0 <= r2))) rfl) ?_
 refine s_nil ?_
 refine W.ret ?_
 have hr_ := M.e_pure hM
 exact ⟨_, resE_tmp rfl, ⟨(decide (0 <= r2)), hr_, rfl, H⟩⟩

def m_level_every_level_Line__1 (x : Line) (k02 : Line -> M Bool) : M Bool :=
  M.bind (k02 x) fun r2 =>
  M.pure (!r2)
theorem level_every_level_Line__1_ok {R : List Chunk} {b_k0 : Nat} {v_k02 : Value} (x : Line) (k02 : Line -> M Bool) (hf_k02 : FnM Try.prog R v_k02 k02) (h_b_k0 : Has R (cBlk b_k0 [v_k02] 139)) {r : Bool} (hM : (m_level_every_level_Line__1 x k02).Ends r) (w : World) (H : St w w [] R) : Ret Try.prog 95 #[.agg #[I x.src, I x.dst, I x.day, I x.rise, I x.err], .pointer (some ⟨b_k0, 0, none⟩)] w fun v w' => ∃ (y0 : Bool), y0 = r /\ v = B y0 /\ St w w' [] R := by
 refine ret_of_W Try.func95 rfl rfl rfl ?_
 refine W.seq ?_
 refine W.region rfl ?_
 refine t_box (v := .agg #[I x.src, I x.dst, I x.day, I x.rise, I x.err]) (cs := [I x.src, I x.dst, I x.day, I x.rise, I x.err]) H rfl rfl ?_
 intro b_1 w1z H
 refine s_val (x_as (v := B false) rfl) ?_
 refine s_nil ?_
 refine W.seq ?_
 refine W.region rfl ?_
 refine s_val (x_ld (p := .pointer (some ⟨b_k0, 0, none⟩)) (v := v_k02) rfl (ldb_sc Sc139 (h_b_k0.blk H) rfl)) ?_
 refine s_val (x_ld (p := .pointer (some ⟨b_1, 0, none⟩)) (v := .agg #[I x.src, I x.dst, I x.day, I x.rise, I x.err]) rfl (ldb_ag (ds := [I x.src, I x.dst, I x.day, I x.rise, I x.err]) Ag34 Sz34 (H.blk (k := 0) rfl) rfl rfl)) ?_
 obtain ⟨r2, hx3z, hM⟩ := M.e_bind hM
 refine t_callM H hf_k02 rfl rfl x Reads.none ⟨_, rfl, rfl⟩ hx3z ?_
 intro w2z H
 refine s_val (x_not (b := r2) rfl) ?_
 refine s_val (x_as (v := B (!r2)) rfl) ?_
 refine s_nil ?_
 refine W.ret ?_
 have hr_ := M.e_pure hM
 exact ⟨_, resE_tmp rfl, ⟨(!r2), hr_, rfl, (H.pick [] (by decide) rfl)⟩⟩

def m_level_every_level_Line (l : List Line) (so : Line -> M Bool) : M Bool :=
  M.bind (m_slices_ContainsFunc_level_Line l (fun xqz => m_level_every_level_Line__1 xqz so)) fun r2 =>
  M.pure (!r2)
theorem level_every_level_Line_ok {R : List Chunk} {C_l : Cells} {v_l : Value} {v_so : Value} (l : List Line) (so : Line -> M Bool) (hC_l : Reads R C_l) (hs_l : Sl C_l v_l l) (hf_so : FnM Try.prog R v_so so) {r : Bool} (hM : (m_level_every_level_Line l so).Ends r) (w : World) (H : St w w [] R) : Ret Try.prog 75 #[v_l, v_so] w fun v w' => ∃ (y0 : Bool), y0 = r /\ v = B y0 /\ St w w' [] R := by
 refine ret_of_W Try.func75 rfl rfl rfl ?_
 refine W.seq ?_
 refine W.region rfl ?_
 refine t_box (v := v_so) (cs := [v_so]) H rfl (FnM.cells hf_so) ?_
 intro b_1 w1z H
 refine s_val (x_as (v := B false) rfl) ?_
 refine s_nil ?_
 refine W.seq ?_
 refine W.region rfl ?_
 refine s_val (x_mv (v := v_l) rfl) ?_
 refine s_val (x_mf (fs := []) (cs := [.pointer (some ⟨b_1, 0, none⟩)]) rfl rfl) ?_
 obtain ⟨r3z, hx2z, hM⟩ := M.e_bind hM
 refine s_call cf94 [v_l, .func (.func 95) #[] #[.pointer (some ⟨b_1, 0, none⟩)]] rfl (slices_ContainsFunc_level_Line_ok l (fun xqz => m_level_every_level_Line__1 xqz so) (hC_l.app _) hs_l ⟨95, [.pointer (some ⟨b_1, 0, none⟩)], rfl, cf95, fun wqz Lqz Cqz vqz xqz bqz hsqz hCqz hAqz hpqz => by obtain rfl := Line_arg hAqz; exact (level_every_level_Line__1_ok xqz so (FnM.app (hf_so.app _) _) (Has.app (Has.here (k := 0) rfl) _) hpqz wqz (St.refl hsqz)).mono fun vqz wqz ⟨yqz, hrqz, hvqz, Hqz⟩ => by subst hrqz; exact ⟨hvqz, Hqz⟩⟩ hx2z _ (St.give (T := [cBlk b_1 [v_so] 139]) H rfl)) ?_
 rintro vq w4z ⟨r2, hr5z, hvq, H2_⟩
 subst hr5z
 subst vq
 try dsimp only at hM
 replace H : St w w4z [cBlk b_1 [v_so] 139] R := H.back H2_ rfl
 clear H2_
 refine s_val (x_not (b := r2) rfl) ?_
 refine s_val (x_as (v := B (!r2)) rfl) ?_
 refine s_nil ?_
 refine W.ret ?_
 have hr_ := M.e_pure hM
 exact ⟨_, resE_tmp rfl, ⟨(!r2), hr_, rfl, (H.pick [] (by decide) rfl)⟩⟩

def m_level_Check_1 (i : Int) (k00 : Int) (k01 : List Line) : M Bool :=
  M.grd (decide ((-9223372036854775808 : Int) <= (k00 - 1)) && decide ((k00 - 1) <= (9223372036854775807 : Int))) <|
  M.bind (m_level_in i 0 (k00 - 1)) fun r2 =>
  M.pure r2
theorem level_Check_1_ok {R : List Chunk} {b_k0 : Nat} {C_k01 : Cells} {v_k01 : Value} (i : Int) (k00 : Int) (k01 : List Line) (hC_k01 : Reads R C_k01) (hs_k01 : Sl C_k01 v_k01 k01) (h_b_k0 : Has R (cBlk b_k0 [I k00, v_k01] 25)) {r : Bool} (hM : (m_level_Check_1 i k00 k01).Ends r) (w : World) (H : St w w [] R) : Ret Try.prog 74 #[I i, .pointer (some ⟨b_k0, 0, none⟩)] w fun v w' => ∃ (y0 : Bool), y0 = r /\ v = B y0 /\ St w w' [] R := by
 refine ret_of_W Try.func74 rfl rfl rfl ?_
 refine W.seq ?_
 refine W.region rfl ?_
 refine s_val (x_as (v := B false) rfl) ?_
 refine s_nil ?_
 refine W.seq ?_
 refine W.region rfl ?_
 refine s_val (x_mv (v := I i) rfl) ?_
 refine s_val (x_fa (a := .pointer (some ⟨b_k0, 0, none⟩)) (v := .pointer (some ⟨b_k0, 0, none⟩)) rfl (fa_blk (o := 0) Fd25_0 Sz3)) ?_
 refine s_val (x_ld (p := .pointer (some ⟨b_k0, 0, none⟩)) (v := I k00) rfl (ldb_sc Sc3 (h_b_k0.blk H) rfl)) ?_
 obtain ⟨sd1z, hM⟩ := M.e_grd hM
 simp only [Bool.and_eq_true, decide_eq_true_eq] at sd1z
 refine s_val (x_ari (a := k00) (b := 1) (r := k00 - 1) rfl rfl rfl (by omega)) ?_
 obtain ⟨r3z, hx2z, hM⟩ := M.e_bind hM
 refine s_call cf68 [I i, I 0, I (k00 - 1)] rfl (level_in_ok i 0 (k00 - 1) hx2z _ (St.give (T := []) H rfl)) ?_
 rintro vq w4z ⟨r2, hr5z, hvq, H2_⟩
 subst hr5z
 subst vq
 try dsimp only at hM
 replace H : St w w4z [] R := H.back H2_ rfl
 clear H2_
 refine s_val (x_as (v := B r2) rfl) ?_
 refine s_nil ?_
 refine W.ret ?_
 have hr_ := M.e_pure hM
 exact ⟨_, resE_tmp rfl, ⟨r2, hr_, rfl, H⟩⟩

def m_level_Check_2 (l : Line) (k0200 : Int) (k0201 : List Line) : M Bool :=
  M.bind (m_level_Check_1 l.src k0200 k0201) fun r2 =>
  M.bind (M.opt r2 (m_level_Check_1 l.dst k0200 k0201) false) fun r3 =>
  M.bind (M.opt ((r2 && r3) && (l.src != l.dst)) (m_level_in l.day 0 40000) false) fun r4 =>
  M.bind (M.opt (((r2 && r3) && (l.src != l.dst)) && r4) (m_level_in l.rise (-1000000) 1000000) false) fun r5 =>
  M.bind (M.opt ((((r2 && r3) && (l.src != l.dst)) && r4) && r5) (m_level_in l.err 0 10000) false) fun r6 =>
  M.pure (((((r2 && r3) && (l.src != l.dst)) && r4) && r5) && r6)
theorem level_Check_2_ok {R : List Chunk} {b_k0 : Nat} {b_k020 : Nat} {C_k0201 : Cells} {v_k0201 : Value} (l : Line) (k0200 : Int) (k0201 : List Line) (hC_k0201 : Reads R C_k0201) (hs_k0201 : Sl C_k0201 v_k0201 k0201) (h_b_k020 : Has R (cBlk b_k020 [I k0200, v_k0201] 25)) (h_b_k0 : Has R (cBlk b_k0 [.func (.func 74) #[] #[.pointer (some ⟨b_k020, 0, none⟩)]] 137)) {r : Bool} (hM : (m_level_Check_2 l k0200 k0201).Ends r) (w : World) (H : St w w [] R) : Ret Try.prog 76 #[.agg #[I l.src, I l.dst, I l.day, I l.rise, I l.err], .pointer (some ⟨b_k0, 0, none⟩)] w fun v w' => ∃ (y0 : Bool), y0 = r /\ v = B y0 /\ St w w' [] R := by
 refine ret_of_W Try.func76 rfl rfl rfl ?_
 refine W.seq ?_
 refine W.region rfl ?_
 refine t_box (v := .agg #[I l.src, I l.dst, I l.day, I l.rise, I l.err]) (cs := [I l.src, I l.dst, I l.day, I l.rise, I l.err]) H rfl rfl ?_
 intro b_1 w1z H
 refine s_val (x_as (v := B false) rfl) ?_
 refine s_nil ?_
 refine W.seq ?_
 refine W.region rfl ?_
 refine s_val (x_ld (p := .pointer (some ⟨b_k0, 0, none⟩)) (v := .func (.func 74) #[] #[.pointer (some ⟨b_k020, 0, none⟩)]) rfl (ldb_sc Sc137 (h_b_k0.blk H) rfl)) ?_
 refine s_val (x_fa (a := .pointer (some ⟨b_1, 0, none⟩)) (v := .pointer (some ⟨b_1, 0, none⟩)) rfl (fa_blk (o := 0) Fd34_0 Sz3)) ?_
 refine s_val (x_ld (p := .pointer (some ⟨b_1, 0, none⟩)) (v := I l.src) rfl (ldb_sc Sc3 (H.blk (k := 0) rfl) rfl)) ?_
 obtain ⟨r3z, hx2z, hM⟩ := M.e_bind hM
 refine s_callv (f := 74) rfl cf74 [I l.src] rfl (level_Check_1_ok l.src k0200 k0201 (hC_k0201.app _) hs_k0201 (h_b_k020.app _) hx2z _ (St.give (T := [cBlk b_1 [I l.src, I l.dst, I l.day, I l.rise, I l.err] 34]) H rfl)) ?_
 rintro vq w4z ⟨r2, hr5z, hvq, H2_⟩
 subst hr5z
 subst vq
 try dsimp only at hM
 replace H : St w w4z [cBlk b_1 [I l.src, I l.dst, I l.day, I l.rise, I l.err] 34] R := H.back H2_ rfl
 clear H2_
 refine s_val (x_mv (v := B r2) rfl) ?_
 refine g_val r2 (gy_t rfl) (fun hg => x_ld (p := .pointer (some ⟨b_k0, 0, none⟩)) (v := .func (.func 74) #[] #[.pointer (some ⟨b_k020, 0, none⟩)]) rfl (ldb_sc Sc137 (h_b_k0.blk H) rfl)) ?_
 refine g_val r2 (gy_t rfl) (fun hg => x_fa (a := .pointer (some ⟨b_1, 0, none⟩)) (v := .pointer (some ⟨b_1, 1, none⟩)) rfl (fa_blk (o := 0) Fd34_1 Sz3)) ?_
 refine g_val r2 (gy_t rfl) (fun hg => x_ld (p := .pointer (some ⟨b_1, 1, none⟩)) (v := I l.dst) (gd_of (c := r2) hg (.pointer (some ⟨b_1, 1, none⟩))) (ldb_sc Sc3 (H.blk (k := 0) rfl) rfl)) ?_
 obtain ⟨r3, hx6z, hM⟩ := M.e_bind hM
 refine t_gcallv (cap := [.pointer (some ⟨b_k020, 0, none⟩)]) r2 (gy_t rfl) cf74 (fun hg => (gd_of (c := r2) hg (.func (.func 74) #[] #[.pointer (some ⟨b_k020, 0, none⟩)]))) (B r3) (fun _ => [I l.dst]) (fun hg => lst1 (gd_of (c := r2) hg (I l.dst))) H (fun hg => (level_Check_1_ok l.dst k0200 k0201 (hC_k0201.app _) hs_k0201 (h_b_k020.app _) (M.e_opt hx6z hg) _ (H.give (A := []) rfl)).mono fun v_ w_ ⟨y_, hr_, hv_, H_⟩ => by subst hr_; exact ⟨hv_, H.via H_⟩) ?_
 intro w7z H
 refine s_val (x_pand (b := r2) (r := r3) rfl (fun hb => gd_of (c := r2) (by first | exact hb | (rw [hb]; rfl) | simp_all) (B r3)) rfl) ?_
 refine s_val (x_mv (v := B (r2 && r3)) rfl) ?_
 refine g_val (r2 && r3) (gy_t rfl) (fun hg => x_fa (a := .pointer (some ⟨b_1, 0, none⟩)) (v := .pointer (some ⟨b_1, 0, none⟩)) rfl (fa_blk (o := 0) Fd34_0 Sz3)) ?_
 refine g_val (r2 && r3) (gy_t rfl) (fun hg => x_ld (p := .pointer (some ⟨b_1, 0, none⟩)) (v := I l.src) (gd_of (c := (r2 && r3)) hg (.pointer (some ⟨b_1, 0, none⟩))) (ldb_sc Sc3 (H.blk (k := 0) rfl) rfl)) ?_
 refine g_val (r2 && r3) (gy_t rfl) (fun hg => x_fa (a := .pointer (some ⟨b_1, 0, none⟩)) (v := .pointer (some ⟨b_1, 1, none⟩)) rfl (fa_blk (o := 0) Fd34_1 Sz3)) ?_
 refine g_val (r2 && r3) (gy_t rfl) (fun hg => x_ld (p := .pointer (some ⟨b_1, 1, none⟩)) (v := I l.dst) (gd_of (c := (r2 && r3)) hg (.pointer (some ⟨b_1, 1, none⟩))) (ldb_sc Sc3 (H.blk (k := 0) rfl) rfl)) ?_
 refine g_val (r2 && r3) (gy_t rfl) (fun hg => x_cmp (kd := .i64) (a := l.src) (b := l.dst) (r := l.src != l.dst) (gd_of (c := (r2 && r3)) hg (I l.src)) (gd_of (c := (r2 && r3)) hg (I l.dst)) rfl) ?_
 refine s_val (x_pand (b := (r2 && r3)) (r := l.src != l.dst) rfl (fun hb => gd_of (c := (r2 && r3)) (by first | exact hb | (rw [hb]; rfl) | simp_all) (B (l.src != l.dst))) rfl) ?_
 refine s_val (x_mv (v := B ((r2 && r3) && (l.src != l.dst))) rfl) ?_
 refine g_val ((r2 && r3) && (l.src != l.dst)) (gy_t rfl) (fun hg => x_fa (a := .pointer (some ⟨b_1, 0, none⟩)) (v := .pointer (some ⟨b_1, 2, none⟩)) rfl (fa_blk (o := 0) Fd34_2 Sz3)) ?_
 refine g_val ((r2 && r3) && (l.src != l.dst)) (gy_t rfl) (fun hg => x_ld (p := .pointer (some ⟨b_1, 2, none⟩)) (v := I l.day) (gd_of (c := ((r2 && r3) && (l.src != l.dst))) hg (.pointer (some ⟨b_1, 2, none⟩))) (ldb_sc Sc3 (H.blk (k := 0) rfl) rfl)) ?_
 obtain ⟨r4, hx8z, hM⟩ := M.e_bind hM
 refine t_gcall ((r2 && r3) && (l.src != l.dst)) (gy_t rfl) cf68 (B r4) (fun _ => [I l.day, I 0, I 40000]) (fun hg => lst3 (gd_of (c := ((r2 && r3) && (l.src != l.dst))) hg (I l.day)) rfl rfl) H (fun hg => (level_in_ok l.day 0 40000 (M.e_opt hx8z hg) _ (H.give (A := []) rfl)).mono fun v_ w_ ⟨y_, hr_, hv_, H_⟩ => by subst hr_; exact ⟨hv_, H.via H_⟩) ?_
 intro w9z H
 refine s_val (x_pand (b := ((r2 && r3) && (l.src != l.dst))) (r := r4) rfl (fun hb => gd_of (c := ((r2 && r3) && (l.src != l.dst))) (by first | exact hb | (rw [hb]; rfl) | simp_all) (B r4)) rfl) ?_
 refine s_val (x_mv (v := B (((r2 && r3) && (l.src != l.dst)) && r4)) rfl) ?_
 refine g_val (((r2 && r3) && (l.src != l.dst)) && r4) (gy_t rfl) (fun hg => x_fa (a := .pointer (some ⟨b_1, 0, none⟩)) (v := .pointer (some ⟨b_1, 3, none⟩)) rfl (fa_blk (o := 0) Fd34_3 Sz3)) ?_
 refine g_val (((r2 && r3) && (l.src != l.dst)) && r4) (gy_t rfl) (fun hg => x_ld (p := .pointer (some ⟨b_1, 3, none⟩)) (v := I l.rise) (gd_of (c := (((r2 && r3) && (l.src != l.dst)) && r4)) hg (.pointer (some ⟨b_1, 3, none⟩))) (ldb_sc Sc3 (H.blk (k := 0) rfl) rfl)) ?_
 obtain ⟨r5, hx10z, hM⟩ := M.e_bind hM
 refine t_gcall (((r2 && r3) && (l.src != l.dst)) && r4) (gy_t rfl) cf68 (B r5) (fun _ => [I l.rise, I (-1000000), I 1000000]) (fun hg => lst3 (gd_of (c := (((r2 && r3) && (l.src != l.dst)) && r4)) hg (I l.rise)) rfl rfl) H (fun hg => (level_in_ok l.rise (-1000000) 1000000 (M.e_opt hx10z hg) _ (H.give (A := []) rfl)).mono fun v_ w_ ⟨y_, hr_, hv_, H_⟩ => by subst hr_; exact ⟨hv_, H.via H_⟩) ?_
 intro w11z H
 refine s_val (x_pand (b := (((r2 && r3) && (l.src != l.dst)) && r4)) (r := r5) rfl (fun hb => gd_of (c := (((r2 && r3) && (l.src != l.dst)) && r4)) (by first | exact hb | (rw [hb]; rfl) | simp_all) (B r5)) rfl) ?_
 refine s_val (x_mv (v := B ((((r2 && r3) && (l.src != l.dst)) && r4) && r5)) rfl) ?_
 refine g_val ((((r2 && r3) && (l.src != l.dst)) && r4) && r5) (gy_t rfl) (fun hg => x_fa (a := .pointer (some ⟨b_1, 0, none⟩)) (v := .pointer (some ⟨b_1, 4, none⟩)) rfl (fa_blk (o := 0) Fd34_4 Sz3)) ?_
 refine g_val ((((r2 && r3) && (l.src != l.dst)) && r4) && r5) (gy_t rfl) (fun hg => x_ld (p := .pointer (some ⟨b_1, 4, none⟩)) (v := I l.err) (gd_of (c := ((((r2 && r3) && (l.src != l.dst)) && r4) && r5)) hg (.pointer (some ⟨b_1, 4, none⟩))) (ldb_sc Sc3 (H.blk (k := 0) rfl) rfl)) ?_
 obtain ⟨r6, hx12z, hM⟩ := M.e_bind hM
 refine t_gcall ((((r2 && r3) && (l.src != l.dst)) && r4) && r5) (gy_t rfl) cf68 (B r6) (fun _ => [I l.err, I 0, I 10000]) (fun hg => lst3 (gd_of (c := ((((r2 && r3) && (l.src != l.dst)) && r4) && r5)) hg (I l.err)) rfl rfl) H (fun hg => (level_in_ok l.err 0 10000 (M.e_opt hx12z hg) _ (H.give (A := []) rfl)).mono fun v_ w_ ⟨y_, hr_, hv_, H_⟩ => by subst hr_; exact ⟨hv_, H.via H_⟩) ?_
 intro w13z H
 refine s_val (x_pand (b := ((((r2 && r3) && (l.src != l.dst)) && r4) && r5)) (r := r6) rfl (fun hb => gd_of (c := ((((r2 && r3) && (l.src != l.dst)) && r4) && r5)) (by first | exact hb | (rw [hb]; rfl) | simp_all) (B r6)) rfl) ?_
 refine s_val (x_as (v := B (((((r2 && r3) && (l.src != l.dst)) && r4) && r5) && r6)) rfl) ?_
 refine s_nil ?_
 refine W.ret ?_
 have hr_ := M.e_pure hM
 exact ⟨_, resE_tmp rfl, ⟨(((((r2 && r3) && (l.src != l.dst)) && r4) && r5) && r6), hr_, rfl, (H.pick [] (by decide) rfl)⟩⟩

def m_level_Check (n_Marks : Int) (n_Lines : List Line) : M Int :=
  M.bind (m_level_in n_Marks 1 12) fun r2 =>
  bif ((!r2) || (decide (30 < (n_Lines.length : Int)))) then (
  M.pure 3)
  else (
  M.bind (m_level_every_level_Line n_Lines (fun xqz => m_level_Check_2 xqz n_Marks n_Lines)) fun r3 =>
  bif !r3 then (
  M.pure 20)
  else (
  M.pure 0))
theorem level_Check_ok {R : List Chunk} {C_n_Lines : Cells} {v_n_Lines : Value} (n_Marks : Int) (n_Lines : List Line) (hC_n_Lines : Reads R C_n_Lines) (hs_n_Lines : Sl C_n_Lines v_n_Lines n_Lines) {r : Int} (hM : (m_level_Check n_Marks n_Lines).Ends r) (w : World) (H : St w w [] R) : Ret Try.prog 37 #[.agg #[I n_Marks, v_n_Lines]] w fun v w' => ∃ (y0 : Int), y0 = r /\ v = I y0 /\ St w w' [] R := by
 refine ret_of_W Try.func37 rfl rfl rfl ?_
 refine W.seq ?_
 refine W.region rfl ?_
 refine t_box (v := .agg #[I n_Marks, v_n_Lines]) (cs := [I n_Marks, v_n_Lines]) H rfl rfl ?_
 intro b_1 w1z H
 refine s_val (x_as (v := I 0) rfl) ?_
 refine s_nil ?_
 refine W.seq ?_
 refine W.region rfl ?_
 refine s_val (x_mf (fs := []) (cs := [.pointer (some ⟨b_1, 0, none⟩)]) rfl rfl) ?_
 refine t_alloc (cs := [.nilFunc]) H Al137 rfl ?_
 intro b_2 w2z H
 refine t_st (k := 0) (b := b_2) (off := 0) (cs := [.nilFunc]) (vs := [.func (.func 74) #[] #[.pointer (some ⟨b_1, 0, none⟩)]]) (cs' := [.func (.func 74) #[] #[.pointer (some ⟨b_1, 0, none⟩)]]) (v := .func (.func 74) #[] #[.pointer (some ⟨b_1, 0, none⟩)]) (L' := [cBlk b_2 [.func (.func 74) #[] #[.pointer (some ⟨b_1, 0, none⟩)]] 137, cBlk b_1 [I n_Marks, v_n_Lines] 25]) H rfl rfl rfl Sz137 rfl rfl rfl rfl rfl rfl ?_
 intro w3z H
 refine s_nil ?_
 refine W.seq ?_
 refine W.block ?_
 refine W.seq ?_
 refine W.region rfl ?_
 refine s_val (x_fa (a := .pointer (some ⟨b_1, 0, none⟩)) (v := .pointer (some ⟨b_1, 0, none⟩)) rfl (fa_blk (o := 0) Fd25_0 Sz3)) ?_
 refine s_val (x_ld (p := .pointer (some ⟨b_1, 0, none⟩)) (v := I n_Marks) rfl (ldb_sc Sc3 (H.blk (k := 1) rfl) rfl)) ?_
 obtain ⟨r5z, hx4z, hM⟩ := M.e_bind hM
 refine s_call cf68 [I n_Marks, I 1, I 12] rfl (level_in_ok n_Marks 1 12 hx4z _ (St.give (T := [cBlk b_2 [.func (.func 74) #[] #[.pointer (some ⟨b_1, 0, none⟩)]] 137, cBlk b_1 [I n_Marks, v_n_Lines] 25]) H rfl)) ?_
 rintro vq w6z ⟨r2, hr7z, hvq, H2_⟩
 subst hr7z
 subst vq
 try dsimp only at hM
 replace H : St w w6z [cBlk b_2 [.func (.func 74) #[] #[.pointer (some ⟨b_1, 0, none⟩)]] 137, cBlk b_1 [I n_Marks, v_n_Lines] 25] R := H.back H2_ rfl
 clear H2_
 refine s_val (x_not (b := r2) rfl) ?_
 refine s_val (x_mv (v := B (!r2)) rfl) ?_
 refine g_val (!(!r2)) (gy_f rfl) (fun hg => x_fa (a := .pointer (some ⟨b_1, 0, none⟩)) (v := .pointer (some ⟨b_1, 1, none⟩)) rfl (fa_blk (o := 0) Fd25_1 Sz23)) ?_
 refine g_val (!(!r2)) (gy_f rfl) (fun hg => x_ld (p := .pointer (some ⟨b_1, 1, none⟩)) (v := v_n_Lines) (gd_of (c := !(!r2)) hg (.pointer (some ⟨b_1, 1, none⟩))) (ldb_sc Sc23 (H.blk (k := 1) rfl) rfl)) ?_
 refine g_val (!(!r2)) (gy_f rfl) (fun hg => x_lenS T23.und (gd_of (c := !(!r2)) hg (v_n_Lines)) hs_n_Lines) ?_
 refine g_val (!(!r2)) (gy_f rfl) (fun hg => x_cmp (kd := .i64) (a := (n_Lines.length : Int)) (b := 30) (r := decide (30 < (n_Lines.length : Int))) (gd_of (c := !(!r2)) hg (I (n_Lines.length : Int))) rfl rfl) ?_
 refine s_val (x_por (b := !r2) (r := decide (30 < (n_Lines.length : Int))) rfl rfl (fun hb => gd_of (c := !(!r2)) (by first | exact hb | (rw [hb]; rfl) | simp_all) (B (decide (30 < (n_Lines.length : Int)))))) ?_
 refine s_val (x_as (v := B ((!r2) || (decide (30 < (n_Lines.length : Int))))) rfl) ?_
 refine s_nil ?_
 refine W.cond ((!r2) || (decide (30 < (n_Lines.length : Int)))) rfl (fun c9z => ?_) (fun c9z => ?_)
 ·replace hM := M.e_t hM c9z
  refine W.seq ?_
  refine W.region rfl ?_
  refine s_val (x_as (v := I 3) rfl) ?_
  refine s_nil ?_
  refine W.ret ?_
  have hr_ := M.e_pure hM
  exact ⟨_, resE_tmp rfl, ⟨3, hr_, rfl, (H.pick [] (by decide) rfl)⟩⟩
 ·replace hM := M.e_f hM c9z
  refine W.seq ?_
  refine W.region rfl ?_
  refine s_val (x_fa (a := .pointer (some ⟨b_1, 0, none⟩)) (v := .pointer (some ⟨b_1, 1, none⟩)) rfl (fa_blk (o := 0) Fd25_1 Sz23)) ?_
  refine s_val (x_ld (p := .pointer (some ⟨b_1, 1, none⟩)) (v := v_n_Lines) rfl (ldb_sc Sc23 (H.blk (k := 1) rfl) rfl)) ?_
  refine s_val (x_mf (fs := []) (cs := [.pointer (some ⟨b_2, 0, none⟩)]) rfl rfl) ?_
  obtain ⟨r11z, hx10z, hM⟩ := M.e_bind hM
  refine s_call cf75 [v_n_Lines, .func (.func 76) #[] #[.pointer (some ⟨b_2, 0, none⟩)]] rfl (level_every_level_Line_ok n_Lines (fun xqz => m_level_Check_2 xqz n_Marks n_Lines) (hC_n_Lines.app _) hs_n_Lines ⟨76, [.pointer (some ⟨b_2, 0, none⟩)], rfl, cf76, fun wqz Lqz Cqz vqz xqz bqz hsqz hCqz hAqz hpqz => by obtain rfl := Line_arg hAqz; exact (level_Check_2_ok xqz n_Marks n_Lines (Reads.app (hC_n_Lines.app _) _) hs_n_Lines (Has.app (Has.here (k := 1) rfl) _) (Has.app (Has.here (k := 0) rfl) _) hpqz wqz (St.refl hsqz)).mono fun vqz wqz ⟨yqz, hrqz, hvqz, Hqz⟩ => by subst hrqz; exact ⟨hvqz, Hqz⟩⟩ hx10z _ (St.give (T := [cBlk b_2 [.func (.func 74) #[] #[.pointer (some ⟨b_1, 0, none⟩)]] 137, cBlk b_1 [I n_Marks, v_n_Lines] 25]) H rfl)) ?_
  rintro vq w12z ⟨r3, hr13z, hvq, H2_⟩
  subst hr13z
  subst vq
  try dsimp only at hM
  replace H : St w w12z [cBlk b_2 [.func (.func 74) #[] #[.pointer (some ⟨b_1, 0, none⟩)]] 137, cBlk b_1 [I n_Marks, v_n_Lines] 25] R := H.back H2_ rfl
  clear H2_
  refine s_val (x_not (b := r3) rfl) ?_
  refine s_val (x_as (v := B (!r3)) rfl) ?_
  refine s_nil ?_
  refine W.cond (!r3) rfl (fun c14z => ?_) (fun c14z => ?_)
  ·replace hM := M.e_t hM c14z
   refine W.seq ?_
   refine W.region rfl ?_
   refine s_val (x_as (v := I 20) rfl) ?_
   refine s_nil ?_
   refine W.ret ?_
   have hr_ := M.e_pure hM
   exact ⟨_, resE_tmp rfl, ⟨20, hr_, rfl, (H.pick [] (by decide) rfl)⟩⟩
  ·replace hM := M.e_f hM c14z
   refine W.skip ?_
   refine W.seq ?_
   refine W.region rfl ?_
   refine s_val (x_as (v := I 0) rfl) ?_
   refine s_nil ?_
   refine W.ret ?_
   have hr_ := M.e_pure hM
   exact ⟨_, resE_tmp rfl, ⟨0, hr_, rfl, (H.pick [] (by decide) rfl)⟩⟩

def m_level_survey_legs (w__Net_Marks : Int) (w__Net_Lines : List Line) (mark : Int) : M Int :=
  M.pure mark
theorem level_survey_legs_ok {R : List Chunk} {b_w_ : Nat} {C_w__Net_Lines : Cells} {v_w__Net_Lines : Value} (w__Net_Marks : Int) (w__Net_Lines : List Line) (mark : Int) (hC_w__Net_Lines : Reads R C_w__Net_Lines) (hs_w__Net_Lines : Sl C_w__Net_Lines v_w__Net_Lines w__Net_Lines) (h_b_w_ : Fld R b_w_ [I w__Net_Marks, v_w__Net_Lines]) {r : Int} (hM : (m_level_survey_legs w__Net_Marks w__Net_Lines mark).Ends r) (w : World) (H : St w w [] R) : Ret Try.prog 89 #[.pointer (some ⟨b_w_, 0, none⟩), I mark] w fun v w' => ∃ (y0 : Int) (nb0 : Nat) (nb1 : Nat), y0 = r /\ v = .func (.func 101) #[] #[.pointer (some ⟨nb0, 0, none⟩), .pointer (some ⟨nb1, 0, none⟩)] /\ St w w' [cBlk nb0 [.pointer (some ⟨b_w_, 0, none⟩)] 111, cBlk nb1 [I y0] 3] R := by
 refine ret_of_W Try.func89 rfl rfl rfl ?_
 refine W.seq ?_
 refine W.region rfl ?_
 refine t_box (v := .pointer (some ⟨b_w_, 0, none⟩)) (cs := [.pointer (some ⟨b_w_, 0, none⟩)]) H rfl rfl ?_
 intro b_1 w1z H
 refine t_box (v := I mark) (cs := [I mark]) H rfl rfl ?_
 intro b_2 w2z H
 refine s_val (x_as (v := .nilFunc) rfl) ?_
 refine s_nil ?_
 refine W.seq ?_
 refine W.region rfl ?_
 refine s_val (x_mf (fs := []) (cs := [.pointer (some ⟨b_1, 0, none⟩), .pointer (some ⟨b_2, 0, none⟩)]) rfl rfl) ?_
 refine s_val (x_as (v := .func (.func 101) #[] #[.pointer (some ⟨b_1, 0, none⟩), .pointer (some ⟨b_2, 0, none⟩)]) rfl) ?_
 refine s_nil ?_
 refine W.ret ?_
 have hr_ := M.e_pure hM
 exact ⟨_, resE_tmp rfl, ⟨mark, b_1, b_2, hr_, rfl, (H.pick [1, 0] (by decide) rfl)⟩⟩

def m_level_starts (back : Bool) : M (Unit ⊕ Unit) :=
  bif back then (
  M.pure (.inl ()))
  else (
  M.pure (.inr ()))
theorem level_starts_ok {R : List Chunk}  (back : Bool)  {r : (Unit ⊕ Unit)} (hM : (m_level_starts back).Ends r) (w : World) (H : St w w [] R) : Ret Try.prog 99 #[B back] w fun v w' => ((.inl ()) = r /\ v = .agg #[.func (.func 108) #[] #[]] /\ St w w' [] R) ∨ ((.inr ()) = r /\ v = .agg #[.func (.func 109) #[] #[]] /\ St w w' [] R) := by
 refine ret_of_W Try.func99 rfl rfl rfl ?_
 refine W.seq ?_
 refine W.region rfl ?_
 refine t_alloc (cs := [.nilFunc]) H Al160 rfl ?_
 intro b_1 w1z H
 refine s_nil ?_
 refine W.seq ?_
 refine W.seq ?_
 refine W.region rfl ?_
 refine s_val (x_mv (v := B back) rfl) ?_
 refine s_nil ?_
 refine W.cond back rfl (fun c2z => ?_) (fun c2z => ?_)
 ·replace hM := M.e_t hM c2z
  refine W.seq ?_
  refine W.region rfl ?_
  refine s_val (x_bld (ps := [(0, .func (.func 108) #[] #[])]) (zs := [.nilFunc]) (L' := [.func (.func 108) #[] #[]]) rfl Try.underlying160 Al160 rfl (Bd160 Try.underlying160) (.cons (cs := [.func (.func 108) #[] #[]]) rfl rfl rfl rfl rfl <| .nil)) ?_
  refine t_st (k := 0) (b := b_1) (off := 0) (cs := [.nilFunc]) (vs := [.func (.func 108) #[] #[]]) (cs' := [.func (.func 108) #[] #[]]) (v := .agg #[.func (.func 108) #[] #[]]) (L' := [cBlk b_1 [.func (.func 108) #[] #[]] 160]) H rfl rfl rfl Sz160 rfl rfl rfl rfl rfl rfl ?_
  intro w3z H
  refine s_nil ?_
  refine W.ret ?_
  have hb4z := (H.blk (k := 0) rfl)
  have hr_ := M.e_pure hM
  exact ⟨_, (resE_of1 (v := .agg #[.func (.func 108) #[] #[]]) rfl (.cell (v := .agg #[.func (.func 108) #[] #[]]) rfl (run_loadVar_ag (ds := [.func (.func 108) #[] #[]]) Ag160 Sz160 hb4z rfl rfl) <| .nil)), .inl (⟨hr_, rfl, (H.pick [] (by decide) rfl)⟩)⟩
 ·replace hM := M.e_f hM c2z
  refine W.skip ?_
  refine W.seq ?_
  refine W.region rfl ?_
  refine s_val (x_bld (ps := [(0, .func (.func 109) #[] #[])]) (zs := [.nilFunc]) (L' := [.func (.func 109) #[] #[]]) rfl Try.underlying160 Al160 rfl (Bd160 Try.underlying160) (.cons (cs := [.func (.func 109) #[] #[]]) rfl rfl rfl rfl rfl <| .nil)) ?_
  refine t_st (k := 0) (b := b_1) (off := 0) (cs := [.nilFunc]) (vs := [.func (.func 109) #[] #[]]) (cs' := [.func (.func 109) #[] #[]]) (v := .agg #[.func (.func 109) #[] #[]]) (L' := [cBlk b_1 [.func (.func 109) #[] #[]] 160]) H rfl rfl rfl Sz160 rfl rfl rfl rfl rfl rfl ?_
  intro w5z H
  refine s_nil ?_
  refine W.ret ?_
  have hb6z := (H.blk (k := 0) rfl)
  have hr_ := M.e_pure hM
  exact ⟨_, (resE_of1 (v := .agg #[.func (.func 109) #[] #[]]) rfl (.cell (v := .agg #[.func (.func 109) #[] #[]]) rfl (run_loadVar_ag (ds := [.func (.func 109) #[] #[]]) Ag160 Sz160 hb6z rfl rfl) <| .nil)), .inr (⟨hr_, rfl, (H.pick [] (by decide) rfl)⟩)⟩

def m_level_starts_1 (l : Line) : M Int :=
  M.pure l.dst
theorem level_starts_1_ok {R : List Chunk}  (l : Line)  {r : Int} (hM : (m_level_starts_1 l).Ends r) (w : World) (H : St w w [] R) : Ret Try.prog 108 #[.agg #[I l.src, I l.dst, I l.day, I l.rise, I l.err]] w fun v w' => ∃ (y0 : Int), y0 = r /\ v = I y0 /\ St w w' [] R := by
 refine ret_of_W Try.func108 rfl rfl rfl ?_
 refine W.seq ?_
 refine W.region rfl ?_
 refine t_box (v := .agg #[I l.src, I l.dst, I l.day, I l.rise, I l.err]) (cs := [I l.src, I l.dst, I l.day, I l.rise, I l.err]) H rfl rfl ?_
 intro b_1 w1z H
 refine s_val (x_as (v := I 0) rfl) ?_
 refine s_nil ?_
 refine W.seq ?_
 refine W.region rfl ?_
 refine s_val (x_fa (a := .pointer (some ⟨b_1, 0, none⟩)) (v := .pointer (some ⟨b_1, 1, none⟩)) rfl (fa_blk (o := 0) Fd34_1 Sz3)) ?_
 refine s_val (x_ld (p := .pointer (some ⟨b_1, 1, none⟩)) (v := I l.dst) rfl (ldb_sc Sc3 (H.blk (k := 0) rfl) rfl)) ?_
 refine s_val (x_as (v := I l.dst) rfl) ?_
 refine s_nil ?_
 refine W.ret ?_
 have hr_ := M.e_pure hM
 exact ⟨_, resE_tmp rfl, ⟨l.dst, hr_, rfl, (H.pick [] (by decide) rfl)⟩⟩

def m_level_starts_2 (l : Line) : M Int :=
  M.pure l.src
theorem level_starts_2_ok {R : List Chunk}  (l : Line)  {r : Int} (hM : (m_level_starts_2 l).Ends r) (w : World) (H : St w w [] R) : Ret Try.prog 109 #[.agg #[I l.src, I l.dst, I l.day, I l.rise, I l.err]] w fun v w' => ∃ (y0 : Int), y0 = r /\ v = I y0 /\ St w w' [] R := by
 refine ret_of_W Try.func109 rfl rfl rfl ?_
 refine W.seq ?_
 refine W.region rfl ?_
 refine t_box (v := .agg #[I l.src, I l.dst, I l.day, I l.rise, I l.err]) (cs := [I l.src, I l.dst, I l.day, I l.rise, I l.err]) H rfl rfl ?_
 intro b_1 w1z H
 refine s_val (x_as (v := I 0) rfl) ?_
 refine s_nil ?_
 refine W.seq ?_
 refine W.region rfl ?_
 refine s_val (x_fa (a := .pointer (some ⟨b_1, 0, none⟩)) (v := .pointer (some ⟨b_1, 0, none⟩)) rfl (fa_blk (o := 0) Fd34_0 Sz3)) ?_
 refine s_val (x_ld (p := .pointer (some ⟨b_1, 0, none⟩)) (v := I l.src) rfl (ldb_sc Sc3 (H.blk (k := 0) rfl) rfl)) ?_
 refine s_val (x_as (v := I l.src) rfl) ?_
 refine s_nil ?_
 refine W.ret ?_
 have hr_ := M.e_pure hM
 exact ⟨_, resE_tmp rfl, ⟨l.src, hr_, rfl, (H.pick [] (by decide) rfl)⟩⟩

theorem starts_any {R : List Chunk} (back : Bool) (w : World) (hs : Sep w R) : Ret Try.prog 99 #[B back] w fun v w' => v = .agg #[.func (.func (bif back then 108 else 109)) #[] #[]] /\ St w w' [] R := by
 cases back with
 | true =>
  refine (level_starts_ok true (r := .inl ()) M.i_pure w (St.refl hs)).mono ?_
  rintro v w' (⟨_, hv, H⟩ | ⟨h, _, _⟩)
  ·exact ⟨hv, H⟩
  cases h
 | false =>
  refine (level_starts_ok false (r := .inr ()) M.i_pure w (St.refl hs)).mono ?_
  rintro v w' (⟨h, _, _⟩ | ⟨_, hv, H⟩)
  ·cases h
  exact ⟨hv, H⟩
theorem cfsel (b : Bool) : CF Try.prog (bif b then 108 else 109) := by cases b; exact cf109; exact cf108
theorem ends_any {R : List Chunk} (b : Bool) (l : Line) (w : World) (hs : Sep w R) : Ret Try.prog (bif b then 108 else 109) #[.agg #[I l.src, I l.dst, I l.day, I l.rise, I l.err]] w fun v w' => v = I (legEnd b l) /\ St w w' [] R := by
 cases b with
 | true => exact (level_starts_1_ok l M.i_pure w (St.refl hs)).mono fun v w' ⟨y, hy, hv, H⟩ => ⟨by rw [hv, hy]; rfl, H⟩
 | false => exact (level_starts_2_ok l M.i_pure w (St.refl hs)).mono fun v w' ⟨y, hy, hv, H⟩ => ⟨by rw [hv, hy]; rfl, H⟩

def m_level_survey_start (w__Net_Marks : Int) (w__Net_Lines : List Line) (g : Leg) : M Int :=
  M.grd (decide ((0 : Int) <= g.line) && decide (g.line < (w__Net_Lines.length : Int))) <|
  M.pure (legEnd g.back (w__Net_Lines.getD (Int.toNat g.line) default))
theorem level_survey_start_ok {R : List Chunk} {b_w_ : Nat} {C_w__Net_Lines : Cells} {v_w__Net_Lines : Value} (w__Net_Marks : Int) (w__Net_Lines : List Line) (g : Leg) (hC_w__Net_Lines : Reads R C_w__Net_Lines) (hs_w__Net_Lines : Sl C_w__Net_Lines v_w__Net_Lines w__Net_Lines) (h_b_w_ : Fld R b_w_ [I w__Net_Marks, v_w__Net_Lines]) {r : Int} (hM : (m_level_survey_start w__Net_Marks w__Net_Lines g).Ends r) (w : World) (H : St w w [] R) : Ret Try.prog 83 #[.pointer (some ⟨b_w_, 0, none⟩), .agg #[I g.line, B g.back]] w fun v w' => ∃ (y0 : Int), y0 = r /\ v = I y0 /\ St w w' [] R := by
 refine ret_of_W Try.func83 rfl rfl rfl ?_
 refine W.seq ?_
 refine W.region rfl ?_
 refine t_box (v := .agg #[I g.line, B g.back]) (cs := [I g.line, B g.back]) H rfl rfl ?_
 intro b_1 w1z H
 refine s_val (x_as (v := I 0) rfl) ?_
 refine s_nil ?_
 refine W.seq ?_
 refine W.draw (fun W => St w W [cBlk b_1 [I g.line, B g.back] 91] R) [(0, true), (1, true), (4, true), (5, true), (6, true), (7, true), (8, true), (9, true), (10, true), (11, true), (12, true), (2, false), (3, true), (13, false), (14, true)] mixed (by decide +kernel) rfl ?_
 intro w2z hx_
 replace H : St w w2z [cBlk b_1 [I g.line, B g.back] 91] R := H.ext hx_
 clear hx_
 refine ⟨(H.pick [0] (by decide) rfl), ?_⟩
 refine d_q rfl (fun w' H => x_fa (a := .pointer (some ⟨b_1, 0, none⟩)) (v := .pointer (some ⟨b_1, 1, none⟩)) rfl (fa_blk (o := 0) Fd91_1 Sz4)) ?_
 refine d_q rfl (fun w' H => x_ld (p := .pointer (some ⟨b_1, 1, none⟩)) (v := B g.back) rfl (ldb_sc Sc4 (H.blk (k := 0) rfl) rfl)) ?_
 refine d_q rfl (fun w' H => x_mv (v := .pointer (some ⟨b_w_, 0, none⟩)) rfl) ?_
 refine d_q rfl (fun w' H => x_nc (a := ⟨b_w_, 0, none⟩) rfl) ?_
 refine d_q rfl (fun w' H => x_fa (a := .pointer (some ⟨b_w_, 0, none⟩)) (v := .pointer (some ⟨b_w_, 0, none⟩)) rfl (fa_blk (o := 0) Fd120_0 Sz25)) ?_
 refine d_q rfl (fun w' H => x_fa (a := .pointer (some ⟨b_w_, 0, none⟩)) (v := .pointer (some ⟨b_w_, 1, none⟩)) rfl (fa_blk (o := 0) Fd25_1 Sz23)) ?_
 refine d_q rfl (fun w' H => x_ld (p := .pointer (some ⟨b_w_, 1, none⟩)) (v := v_w__Net_Lines) rfl (fld_sc (pre := [I w__Net_Marks, v_w__Net_Lines]) (i := 1) Sc23 (h_b_w_.at H) rfl)) ?_
 refine d_q rfl (fun w' H => x_fa (a := .pointer (some ⟨b_1, 0, none⟩)) (v := .pointer (some ⟨b_1, 0, none⟩)) rfl (fa_blk (o := 0) Fd91_0 Sz3)) ?_
 refine d_q rfl (fun w' H => x_ld (p := .pointer (some ⟨b_1, 0, none⟩)) (v := I g.line) rfl (ldb_sc Sc3 (H.blk (k := 0) rfl) rfl)) ?_
 obtain ⟨sd3z, hM⟩ := M.e_grd hM
 simp only [Bool.and_eq_true, decide_eq_true_eq] at sd3z
 refine d_q rfl (fun w' H => x_ix (a := v_w__Net_Lines) (b := I g.line) (v := vat v_w__Net_Lines 5 (Int.toNat g.line)) rfl rfl (Sl.ix (α := Line) T23.und T23.size hs_w__Net_Lines (by omega) (by omega))) ?_
 refine d_q rfl (fun w' H => x_ld (p := vat v_w__Net_Lines 5 (Int.toNat g.line)) (v := .agg #[I ((w__Net_Lines.getD (Int.toNat g.line) default).src), I ((w__Net_Lines.getD (Int.toNat g.line) default).dst), I ((w__Net_Lines.getD (Int.toNat g.line) default).day), I ((w__Net_Lines.getD (Int.toNat g.line) default).rise), I ((w__Net_Lines.getD (Int.toNat g.line) default).err)]) rfl (ld_ag Ag34 Sz34 (At.mono (Line_atA hs_w__Net_Lines (i := g.line) (by omega) (by omega)) (hC_w__Net_Lines.at H)))) ?_
 refine d_l rfl ?_
 refine s_call cf99 [B g.back] rfl (starts_any g.back _ H.sep) ?_
 rintro _ w4z ⟨rfl, hx_⟩
 replace H : St w w4z [cBlk b_1 [I g.line, B g.back] 91] R := H.via hx_
 clear hx_
 refine s_nil ⟨(H.pick [0] (by decide) rfl), ?_⟩
 refine d_q rfl (fun w' H => x_fd (cs := [.func (.func (bif g.back then 108 else 109)) #[] #[]]) (v := .func (.func (bif g.back then 108 else 109)) #[] #[]) Fd160_0 Sc158 rfl rfl) ?_
 refine d_l rfl ?_
 refine s_callv rfl (cfsel g.back) [.agg #[I ((w__Net_Lines.getD (Int.toNat g.line) default).src), I ((w__Net_Lines.getD (Int.toNat g.line) default).dst), I ((w__Net_Lines.getD (Int.toNat g.line) default).day), I ((w__Net_Lines.getD (Int.toNat g.line) default).rise), I ((w__Net_Lines.getD (Int.toNat g.line) default).err)]] rfl (ends_any g.back (w__Net_Lines.getD (Int.toNat g.line) default) _ H.sep) ?_
 rintro _ w5z ⟨rfl, hx_⟩
 replace H : St w w5z [cBlk b_1 [I g.line, B g.back] 91] R := H.via hx_
 clear hx_
 refine s_nil ⟨(H.pick [0] (by decide) rfl), ?_⟩
 refine d_q rfl (fun w' H => x_as (v := I (legEnd g.back (w__Net_Lines.getD (Int.toNat g.line) default))) rfl) ?_
 refine d_nil ?_
 refine W.ret ?_
 have hr_ := M.e_pure hM
 exact ⟨_, resE_tmp rfl, ⟨(legEnd g.back (w__Net_Lines.getD (Int.toNat g.line) default)), hr_, rfl, (H.pick [] (by decide) rfl)⟩⟩

def m_level_survey_legs_1_b1 {T_ : Type} (yield_ : T_ -> Leg -> M (Bool × T_)) (k020 : Int) (k021 : List Line) (k12 : Int) (s2 : Nat) : (Nat × T_) -> M ((Nat × T_) ⊕ (T_ ⊕ T_)) := fun (s, t2) =>
  bif decide ((s : Int) < (([(⟨(s2 : Int), false⟩ : Leg), (⟨(s2 : Int), true⟩ : Leg)]).length : Int)) then (
  M.grd (decide ((s : Int) < (([(⟨(s2 : Int), false⟩ : Leg), (⟨(s2 : Int), true⟩ : Leg)]).length : Int))) <|
  M.bind (m_level_survey_start k020 k021 (([(⟨(s2 : Int), false⟩ : Leg), (⟨(s2 : Int), true⟩ : Leg)]).getD s default)) fun r2 =>
  M.bind (M.opt (r2 == k12) (yield_ t2 (([(⟨(s2 : Int), false⟩ : Leg), (⟨(s2 : Int), true⟩ : Leg)]).getD s default)) (false, t2)) fun (go, t) =>
  bif ((r2 == k12) && (!go)) then (
  M.pure (.inr (.inl t)))
  else (
  M.pure (.inl (s + 1, t))))
  else (
  M.pure (.inr (.inr t2)))
def m_level_survey_legs_1_b2 {T_ : Type} (yield_ : T_ -> Leg -> M (Bool × T_)) (k020 : Int) (k021 : List Line) (k12 : Int) : (Nat × T_) -> M ((Nat × T_) ⊕ (T_ ⊕ T_)) := fun (s2, t5) =>
  bif decide ((s2 : Int) < (k021.length : Int)) then (
  M.bind (M.iter (m_level_survey_legs_1_b1 yield_ k020 k021 k12 s2) (0, t5)) fun x_ => match x_ with
  | (.inl t3) => (
  M.pure (.inr (.inl t3)))
  | (.inr t4) => (
  M.pure (.inl (s2 + 1, t4))))
  else (
  M.pure (.inr (.inr t5)))
def m_level_survey_legs_1 {T_ : Type} (yield_ : T_ -> Leg -> M (Bool × T_)) (t_ : T_) (k020 : Int) (k021 : List Line) (k12 : Int) : M T_ :=
  M.bind (M.iter (m_level_survey_legs_1_b2 yield_ k020 k021 k12) (0, t_)) fun x_ => match x_ with
  | (.inl t6) => (
  M.pure t6)
  | (.inr t7) => (
  M.pure t7)
theorem level_survey_legs_1_ok {R : List Chunk} {T_ : Type} {Y_ : T_ -> List Chunk -> Prop} {v_yield_ : Value} {Ls_ : List Chunk} {b_k0 : Nat} {b_k02 : Nat} {C_k021 : Cells} {v_k021 : Value} {b_k1 : Nat} (yield_ : T_ -> Leg -> M (Bool × T_)) (t_ : T_) (k020 : Int) (k021 : List Line) (k12 : Int) (hf_yield_ : YieldC Try.prog R arLeg Y_ v_yield_ yield_) (hY_ : Y_ t_ Ls_) (hC_k021 : Reads R C_k021) (hs_k021 : Sl C_k021 v_k021 k021) (h_b_k02 : ∀ (t_ : T_) (Ls_ : List Chunk), Y_ t_ Ls_ -> Fld (cAll Ls_ :: R) b_k02 [I k020, v_k021]) (h_b_k0 : Has R (cBlk b_k0 [.pointer (some ⟨b_k02, 0, none⟩)] 111)) (h_b_k1 : Has R (cBlk b_k1 [I k12] 3)) {r : T_} (hM : (m_level_survey_legs_1 yield_ t_ k020 k021 k12).Ends r) (w : World) (H : St w w [cAll Ls_] R) : Ret Try.prog 101 #[v_yield_, .pointer (some ⟨b_k0, 0, none⟩), .pointer (some ⟨b_k1, 0, none⟩)] w fun v w' => ∃ (y0 : T_) (Ls0 : List Chunk), y0 = r /\ v = .tuple #[] /\ St w w' [cAll Ls0] R /\ Y_ y0 Ls0 := by
 refine ret_of_W Try.func101 rfl rfl rfl ?_
 refine W.seq ?_
 refine W.region rfl ?_
 refine s_val (x_ld (p := .pointer (some ⟨b_k0, 0, none⟩)) (v := .pointer (some ⟨b_k02, 0, none⟩)) rfl (ldb_sc Sc111 (h_b_k0.blk H) rfl)) ?_
 refine s_val (x_nc (a := ⟨b_k02, 0, none⟩) rfl) ?_
 refine s_val (x_fa (a := .pointer (some ⟨b_k02, 0, none⟩)) (v := .pointer (some ⟨b_k02, 0, none⟩)) rfl (fa_blk (o := 0) Fd120_0 Sz25)) ?_
 refine s_val (x_fa (a := .pointer (some ⟨b_k02, 0, none⟩)) (v := .pointer (some ⟨b_k02, 1, none⟩)) rfl (fa_blk (o := 0) Fd25_1 Sz23)) ?_
 refine s_val (x_ld (p := .pointer (some ⟨b_k02, 1, none⟩)) (v := v_k021) rfl (fld_sc (pre := [I k020, v_k021]) (i := 1) Sc23 (Fld.get (Fld.up (h_b_k02 _ _ hY_) (k := 0) rfl) H) rfl)) ?_
 have hl1z := (hs_k021).len_le
 refine s_val (x_lenS T23.und rfl hs_k021) ?_
 refine s_val (x_mv (v := I 0) rfl) ?_
 refine s_nil ?_
 refine W.block ?_
 obtain ⟨ex2z, hi3z, hk4z⟩ := M.e_bind hM
 obtain ⟨m0_, hi3z⟩ := M.e_iter hi3z
 refine W.loop (fun m σ W => ∃ (s2 : Nat) (t5 : T_) (Ls_t5 : List Chunk) (ρ : Env), σ = upds ρ [(0, v_yield_), (1, .pointer (some ⟨b_k0, 0, none⟩)), (2, .pointer (some ⟨b_k1, 0, none⟩)), (12, I (k021.length : Int)), (13, I (s2 : Int))] /\ M.iterN (m_level_survey_legs_1_b2 yield_ k020 k021 k12) m (s2, t5) = some ex2z /\ St w W [cAll Ls_t5] R /\ Y_ t5 Ls_t5) ?_ ?_
 ·exact ⟨_, 0, t_, Ls_, _, upds_of _ _ ⟨rfl, rfl, rfl, rfl, rfl, trivial⟩, hi3z, H, hY_⟩
 ·rintro m7z σ w5z ⟨s2, t5, Ls_t5, ρ, rfl, hI6z, H, hY_t5⟩
  obtain ⟨m8z, lt9z, x10z, hM, hN11z⟩ := M.e_iterN hI6z
  simp only [m_level_survey_legs_1_b2] at hM
  clear hI6z
  refine W.seq ?_
  refine W.region rfl ?_
  refine s_val (x_cmp (kd := .i64) (a := (s2 : Int)) (b := (k021.length : Int)) (r := decide ((s2 : Int) < (k021.length : Int))) rfl rfl rfl) ?_
  refine s_nil ?_
  refine W.seq ?_
  refine W.cond (decide ((s2 : Int) < (k021.length : Int))) rfl (fun c12z => ?_) (fun c12z => ?_)
  ·replace hM := M.e_t hM c12z
   simp only [decide_eq_true_eq, decide_eq_false_iff_not, beq_iff_eq, bne_iff_ne, beq_eq_false_iff_ne, bne_eq_false_iff_eq, ne_eq, Decidable.not_not] at c12z
   refine W.skip ?_
   refine W.seq ?_
   refine W.block ?_
   refine W.seq ?_
   refine W.region rfl ?_
   refine s_val (x_mv (v := I (s2 : Int)) rfl) ?_
   refine s_val (x_as (v := I (s2 : Int)) rfl) ?_
   refine s_nil ?_
   refine W.seq ?_
   refine W.region rfl ?_
   refine s_val (x_mv (v := I (s2 : Int)) rfl) ?_
   refine s_val (x_bld (ps := [(0, I (s2 : Int)), (1, B false)]) (zs := [I 0, B false]) (L' := [I (s2 : Int), B false]) rfl Try.underlying91 Al91 rfl (Bd91 Try.underlying91) (.cons (cs := [I (s2 : Int)]) rfl rfl rfl rfl rfl <| .cons (cs := [B false]) rfl rfl rfl rfl rfl <| .nil)) ?_
   refine s_val (x_mv (v := I (s2 : Int)) rfl) ?_
   refine s_val (x_bld (ps := [(0, I (s2 : Int)), (1, B true)]) (zs := [I 0, B false]) (L' := [I (s2 : Int), B true]) rfl Try.underlying91 Al91 rfl (Bd91 Try.underlying91) (.cons (cs := [I (s2 : Int)]) rfl rfl rfl rfl rfl <| .cons (cs := [B true]) rfl rfl rfl rfl rfl <| .nil)) ?_
   refine t_bs (α := Leg) T88 [.agg #[I (s2 : Int), B false], .agg #[I (s2 : Int), B true]] [(⟨(s2 : Int), false⟩ : Leg), (⟨(s2 : Int), true⟩ : Leg)] H rfl (.cons rfl (Flat.rep_enc _ (⟨(s2 : Int), false⟩ : Leg)) <| .cons rfl (Flat.rep_enc _ (⟨(s2 : Int), true⟩ : Leg)) <| .nil) rfl rfl rfl ?_
   intro v13z w14z H
   have hl15z := ((ownSl (H.get (k := 0) rfl))).len_le
   refine s_val (x_lenS T88.und rfl (ownSl (H.get (k := 0) rfl))) ?_
   refine s_val (x_mv (v := I 0) rfl) ?_
   refine s_nil ?_
   refine W.block ?_
   obtain ⟨ex16z, hi17z, hk18z⟩ := M.e_bind hM
   obtain ⟨m0_, hi17z⟩ := M.e_iter hi17z
   refine W.loop (fun m σ W => ∃ (s : Nat) (t2 : T_) (Ls_t2 : List Chunk) (ρ : Env), σ = upds ρ [(0, v_yield_), (1, .pointer (some ⟨b_k0, 0, none⟩)), (2, .pointer (some ⟨b_k1, 0, none⟩)), (12, I (k021.length : Int)), (13, I (s2 : Int)), (20, v13z), (21, I (([(⟨(s2 : Int), false⟩ : Leg), (⟨(s2 : Int), true⟩ : Leg)]).length : Int)), (22, I (s : Int))] /\ M.iterN (m_level_survey_legs_1_b1 yield_ k020 k021 k12 s2) m (s, t2) = some ex16z /\ St w W [cOwn (α := Leg) 91 v13z ([(⟨(s2 : Int), false⟩ : Leg), (⟨(s2 : Int), true⟩ : Leg)]), cAll Ls_t2] R /\ Y_ t2 Ls_t2) ?_ ?_
   ·exact ⟨_, 0, t5, Ls_t5, _, upds_of _ _ ⟨rfl, rfl, rfl, rfl, rfl, rfl, rfl, rfl, trivial⟩, hi17z, H, hY_t5⟩
   ·rintro m21z σ w19z ⟨s, t2, Ls_t2, ρ, rfl, hI20z, H, hY_t2⟩
    obtain ⟨m22z, lt23z, x24z, hM, hN25z⟩ := M.e_iterN hI20z
    simp only [m_level_survey_legs_1_b1] at hM
    clear hI20z
    refine W.seq ?_
    refine W.region rfl ?_
    refine s_val (x_cmp (kd := .i64) (a := (s : Int)) (b := (([(⟨(s2 : Int), false⟩ : Leg), (⟨(s2 : Int), true⟩ : Leg)]).length : Int)) (r := decide ((s : Int) < (([(⟨(s2 : Int), false⟩ : Leg), (⟨(s2 : Int), true⟩ : Leg)]).length : Int))) rfl rfl rfl) ?_
    refine s_nil ?_
    refine W.seq ?_
    refine W.cond (decide ((s : Int) < (([(⟨(s2 : Int), false⟩ : Leg), (⟨(s2 : Int), true⟩ : Leg)]).length : Int))) rfl (fun c26z => ?_) (fun c26z => ?_)
    ·replace hM := M.e_t hM c26z
     simp only [decide_eq_true_eq, decide_eq_false_iff_not, beq_iff_eq, bne_iff_ne, beq_eq_false_iff_ne, bne_eq_false_iff_eq, ne_eq, Decidable.not_not] at c26z
     refine W.skip ?_
     refine W.seq ?_
     refine W.block ?_
     refine W.seq ?_
     refine W.region rfl ?_
     obtain ⟨sd27z, hM⟩ := M.e_grd hM
     simp only [Bool.and_eq_true, decide_eq_true_eq] at sd27z
     refine s_val (x_ix (a := v13z) (b := I (s : Int)) (v := vat v13z 2 (Int.toNat (s : Int))) rfl rfl (Sl.ix (α := Leg) T88.und T88.size (ownSl (H.get (k := 0) rfl)) (by omega) (by omega))) ?_
     refine s_val (x_ld (p := vat v13z 2 (Int.toNat (s : Int))) (v := .agg #[I ((([(⟨(s2 : Int), false⟩ : Leg), (⟨(s2 : Int), true⟩ : Leg)]).getD s default).line), B ((([(⟨(s2 : Int), false⟩ : Leg), (⟨(s2 : Int), true⟩ : Leg)]).getD s default).back)]) rfl (ld_ag Ag91 Sz91 (At.mono (Leg_atA (ownSl (H.get (k := 0) rfl)) (i := (s : Int)) (by omega) (by omega)) (ownLe _ (H.get (k := 0) rfl))))) ?_
     refine t_alloc (cs := [I 0, B false]) H Al91 rfl ?_
     intro b_2 w28z H
     refine t_st (k := 0) (b := b_2) (off := 0) (cs := [I 0, B false]) (vs := [I ((([(⟨(s2 : Int), false⟩ : Leg), (⟨(s2 : Int), true⟩ : Leg)]).getD s default).line), B ((([(⟨(s2 : Int), false⟩ : Leg), (⟨(s2 : Int), true⟩ : Leg)]).getD s default).back)]) (cs' := [I ((([(⟨(s2 : Int), false⟩ : Leg), (⟨(s2 : Int), true⟩ : Leg)]).getD s default).line), B ((([(⟨(s2 : Int), false⟩ : Leg), (⟨(s2 : Int), true⟩ : Leg)]).getD s default).back)]) (v := .agg #[I ((([(⟨(s2 : Int), false⟩ : Leg), (⟨(s2 : Int), true⟩ : Leg)]).getD s default).line), B ((([(⟨(s2 : Int), false⟩ : Leg), (⟨(s2 : Int), true⟩ : Leg)]).getD s default).back)]) (L' := [cBlk b_2 [I ((([(⟨(s2 : Int), false⟩ : Leg), (⟨(s2 : Int), true⟩ : Leg)]).getD s default).line), B ((([(⟨(s2 : Int), false⟩ : Leg), (⟨(s2 : Int), true⟩ : Leg)]).getD s default).back)] 91, cOwn (α := Leg) 91 v13z ([(⟨(s2 : Int), false⟩ : Leg), (⟨(s2 : Int), true⟩ : Leg)]), cAll Ls_t2]) H rfl rfl rfl Sz91 rfl rfl rfl rfl rfl rfl ?_
     intro w29z H
     refine s_nil ?_
     refine W.seq ?_
     refine W.draw (fun W => St w W [cBlk b_2 [I ((([(⟨(s2 : Int), false⟩ : Leg), (⟨(s2 : Int), true⟩ : Leg)]).getD s default).line), B ((([(⟨(s2 : Int), false⟩ : Leg), (⟨(s2 : Int), true⟩ : Leg)]).getD s default).back)] 91, cOwn (α := Leg) 91 v13z ([(⟨(s2 : Int), false⟩ : Leg), (⟨(s2 : Int), true⟩ : Leg)])] R) [(0, true), (1, true), (3, true), (2, false), (4, true), (5, true), (6, true), (7, true), (8, false), (9, true), (10, true)] mixed (by decide +kernel) rfl ?_
     intro w30z hx_
     replace H : St w w30z [cBlk b_2 [I ((([(⟨(s2 : Int), false⟩ : Leg), (⟨(s2 : Int), true⟩ : Leg)]).getD s default).line), B ((([(⟨(s2 : Int), false⟩ : Leg), (⟨(s2 : Int), true⟩ : Leg)]).getD s default).back)] 91, cOwn (α := Leg) 91 v13z ([(⟨(s2 : Int), false⟩ : Leg), (⟨(s2 : Int), true⟩ : Leg)]), cAll Ls_t2] R := H.ext hx_
     clear hx_
     refine ⟨(H.pick [0, 1] (by decide) rfl), ?_⟩
     refine d_q rfl (fun w' H => x_ld (p := .pointer (some ⟨b_k0, 0, none⟩)) (v := .pointer (some ⟨b_k02, 0, none⟩)) rfl (ldb_sc Sc111 (h_b_k0.blk H) rfl)) ?_
     refine d_q rfl (fun w' H => x_ld (p := .pointer (some ⟨b_2, 0, none⟩)) (v := .agg #[I ((([(⟨(s2 : Int), false⟩ : Leg), (⟨(s2 : Int), true⟩ : Leg)]).getD s default).line), B ((([(⟨(s2 : Int), false⟩ : Leg), (⟨(s2 : Int), true⟩ : Leg)]).getD s default).back)]) rfl (ldb_ag (ds := [I ((([(⟨(s2 : Int), false⟩ : Leg), (⟨(s2 : Int), true⟩ : Leg)]).getD s default).line), B ((([(⟨(s2 : Int), false⟩ : Leg), (⟨(s2 : Int), true⟩ : Leg)]).getD s default).back)]) Ag91 Sz91 (H.blk (k := 0) rfl) rfl rfl)) ?_
     refine d_q rfl (fun w' H => x_ld (p := .pointer (some ⟨b_k1, 0, none⟩)) (v := I k12) rfl (ldb_sc Sc3 (h_b_k1.blk H) rfl)) ?_
     refine d_l rfl ?_
     obtain ⟨r32z, hx31z, hM⟩ := M.e_bind hM
     refine s_call cf83 [.pointer (some ⟨b_k02, 0, none⟩), .agg #[I ((([(⟨(s2 : Int), false⟩ : Leg), (⟨(s2 : Int), true⟩ : Leg)]).getD s default).line), B ((([(⟨(s2 : Int), false⟩ : Leg), (⟨(s2 : Int), true⟩ : Leg)]).getD s default).back)]] rfl (level_survey_start_ok k020 k021 (([(⟨(s2 : Int), false⟩ : Leg), (⟨(s2 : Int), true⟩ : Leg)]).getD s default) (hC_k021.app _) hs_k021 (Fld.up (h_b_k02 _ _ hY_t2) (k := 2) rfl) hx31z _ (St.give (T := [cBlk b_2 [I ((([(⟨(s2 : Int), false⟩ : Leg), (⟨(s2 : Int), true⟩ : Leg)]).getD s default).line), B ((([(⟨(s2 : Int), false⟩ : Leg), (⟨(s2 : Int), true⟩ : Leg)]).getD s default).back)] 91, cOwn (α := Leg) 91 v13z ([(⟨(s2 : Int), false⟩ : Leg), (⟨(s2 : Int), true⟩ : Leg)]), cAll Ls_t2]) H rfl)) ?_
     rintro vq w33z ⟨r2, hr34z, hvq, H2_⟩
     subst hr34z
     subst vq
     try dsimp only at hM
     replace H : St w w33z [cBlk b_2 [I ((([(⟨(s2 : Int), false⟩ : Leg), (⟨(s2 : Int), true⟩ : Leg)]).getD s default).line), B ((([(⟨(s2 : Int), false⟩ : Leg), (⟨(s2 : Int), true⟩ : Leg)]).getD s default).back)] 91, cOwn (α := Leg) 91 v13z ([(⟨(s2 : Int), false⟩ : Leg), (⟨(s2 : Int), true⟩ : Leg)]), cAll Ls_t2] R := H.back H2_ rfl
     clear H2_
     refine s_nil ⟨(H.pick [0, 1] (by decide) rfl), ?_⟩
     refine d_q rfl (fun w' H => x_cmp (kd := .i64) (a := r2) (b := k12) (r := r2 == k12) rfl rfl rfl) ?_
     refine d_q rfl (fun w' H => x_mv (v := B (r2 == k12)) rfl) ?_
     refine d_qg (r2 == k12) rfl (gy_t rfl) (fun hg => (fun w' H => x_mv (v := v_yield_) rfl)) ?_
     refine d_qg (r2 == k12) rfl (gy_t rfl) (fun hg => (fun w' H => x_ld (p := .pointer (some ⟨b_2, 0, none⟩)) (v := .agg #[I ((([(⟨(s2 : Int), false⟩ : Leg), (⟨(s2 : Int), true⟩ : Leg)]).getD s default).line), B ((([(⟨(s2 : Int), false⟩ : Leg), (⟨(s2 : Int), true⟩ : Leg)]).getD s default).back)]) rfl (ldb_ag (ds := [I ((([(⟨(s2 : Int), false⟩ : Leg), (⟨(s2 : Int), true⟩ : Leg)]).getD s default).line), B ((([(⟨(s2 : Int), false⟩ : Leg), (⟨(s2 : Int), true⟩ : Leg)]).getD s default).back)]) Ag91 Sz91 (H.blk (k := 0) rfl) rfl rfl))) ?_
     refine d_l rfl ?_
     obtain ⟨⟨go, t⟩, hx35z, hM⟩ := M.e_bind hM
     try dsimp only at hM
     refine t_gyield (L := [cBlk b_2 [I ((([(⟨(s2 : Int), false⟩ : Leg), (⟨(s2 : Int), true⟩ : Leg)]).getD s default).line), B ((([(⟨(s2 : Int), false⟩ : Leg), (⟨(s2 : Int), true⟩ : Leg)]).getD s default).back)] 91, cOwn (α := Leg) 91 v13z ([(⟨(s2 : Int), false⟩ : Leg), (⟨(s2 : Int), true⟩ : Leg)])]) (r2 == k12) (gy_t rfl) (H.pick [2, 0, 1] (by decide) rfl) hf_yield_ hY_t2 (fun hg => (gd_of (c := r2 == k12) hg (v_yield_))) [.agg #[I ((([(⟨(s2 : Int), false⟩ : Leg), (⟨(s2 : Int), true⟩ : Leg)]).getD s default).line), B ((([(⟨(s2 : Int), false⟩ : Leg), (⟨(s2 : Int), true⟩ : Leg)]).getD s default).back)]] (fun hg => lst1 (gd_of (c := r2 == k12) hg (.agg #[I ((([(⟨(s2 : Int), false⟩ : Leg), (⟨(s2 : Int), true⟩ : Leg)]).getD s default).line), B ((([(⟨(s2 : Int), false⟩ : Leg), (⟨(s2 : Int), true⟩ : Leg)]).getD s default).back)]))) (([(⟨(s2 : Int), false⟩ : Leg), (⟨(s2 : Int), true⟩ : Leg)]).getD s default) Reads.none rfl hx35z ?_
     intro Ls36z w38z hY37z H
     replace H : St w w38z [cAll Ls36z, cBlk b_2 [I ((([(⟨(s2 : Int), false⟩ : Leg), (⟨(s2 : Int), true⟩ : Leg)]).getD s default).line), B ((([(⟨(s2 : Int), false⟩ : Leg), (⟨(s2 : Int), true⟩ : Leg)]).getD s default).back)] 91, cOwn (α := Leg) 91 v13z ([(⟨(s2 : Int), false⟩ : Leg), (⟨(s2 : Int), true⟩ : Leg)])] R := H
     refine s_nil ⟨(H.pick [1, 2] (by decide) rfl), ?_⟩
     refine d_qg (r2 == k12) rfl (gy_t rfl) (fun hg => (fun w' H => x_not (b := go) (gd_of (c := r2 == k12) hg (B go)))) ?_
     refine d_q rfl (fun w' H => x_pand (b := r2 == k12) (r := !go) rfl (fun hb => gd_of (c := r2 == k12) (by first | exact hb | (rw [hb]; rfl) | simp_all) (B (!go))) rfl) ?_
     refine d_nil ?_
     refine W.cond ((r2 == k12) && (!go)) rfl (fun c39z => ?_) (fun c39z => ?_)
     ·replace hM := M.e_t hM c39z
      refine W.ret ?_
      have hX40z := M.e_inr hM hN25z
      subst hX40z
      replace hM := hk18z
      try dsimp only at hM
      have hX41z := M.e_inr hM hN11z
      subst hX41z
      replace hM := hk4z
      try dsimp only at hM
      have hr_ := M.e_pure hM
      exact ⟨_, resE_tmp0 rfl, ⟨t, Ls36z, hr_, rfl, (H.pick [0] (by decide) rfl), hY37z⟩⟩
     ·replace hM := M.e_f hM c39z
      refine W.skip ?_
      refine W.region rfl ?_
      refine s_val (x_ari (a := (s : Int)) (b := 1) (r := (s : Int) + 1) rfl rfl rfl (by omega)) ?_
      refine s_val (x_mv (v := I ((s : Int) + 1)) rfl) ?_
      refine s_nil ?_
      exact ⟨m22z, lt23z, s + 1, t, Ls36z, _, upds_of _ _ ⟨rfl, rfl, rfl, rfl, rfl, rfl, rfl, rfl, trivial⟩, M.e_inl hM hN25z, (H.pick [2, 0] (by decide) rfl), hY37z⟩
    ·replace hM := M.e_f hM c26z
     simp only [decide_eq_true_eq, decide_eq_false_iff_not, beq_iff_eq, bne_iff_ne, beq_eq_false_iff_ne, bne_eq_false_iff_eq, ne_eq, Decidable.not_not] at c26z
     refine W.exit ?_
     have hX42z := M.e_inr hM hN25z
     subst hX42z
     replace hM := hk18z
     try dsimp only at hM
     refine W.region rfl ?_
     refine s_val (x_ari (a := (s2 : Int)) (b := 1) (r := (s2 : Int) + 1) rfl rfl rfl (by omega)) ?_
     refine s_val (x_mv (v := I ((s2 : Int) + 1)) rfl) ?_
     refine s_nil ?_
     exact ⟨m8z, lt9z, s2 + 1, t2, Ls_t2, _, upds_of _ _ ⟨rfl, rfl, rfl, rfl, rfl, trivial⟩, M.e_inl hM hN11z, (H.pick [1] (by decide) rfl), hY_t2⟩
  ·replace hM := M.e_f hM c12z
   simp only [decide_eq_true_eq, decide_eq_false_iff_not, beq_iff_eq, bne_iff_ne, beq_eq_false_iff_ne, bne_eq_false_iff_eq, ne_eq, Decidable.not_not] at c12z
   refine W.exit ?_
   have hX43z := M.e_inr hM hN11z
   subst hX43z
   replace hM := hk4z
   try dsimp only at hM
   have hr_ := M.e_pure hM
   exact ⟨_, resE_tmp0 rfl, ⟨t5, Ls_t5, hr_, rfl, H, hY_t5⟩⟩
theorem m_level_survey_legs_1_le {T_ : Type} {n_ : Nat} {y y' : T_ -> Leg -> M (Bool × T_)} (h : ∀ s a, M.LeN n_ (y s a) (y' s a)) (t_ : T_) (k020 : Int) (k021 : List Line) (k12 : Int) : M.LeN n_ (m_level_survey_legs_1 y t_ k020 k021 k12) (m_level_survey_legs_1 y' t_ k020 k021 k12) := by
  simp only [m_level_survey_legs_1, m_level_survey_legs_1_b1, m_level_survey_legs_1_b2]
  repeat' (first | exact M.le_same _ _ | exact h _ _ | refine M.le_grd ?_ | refine M.le_if ?_ ?_ | refine M.le_bind ?_ (fun x => ?_) | refine M.le_opt ?_ | refine M.le_iter (fun x => ?_) _ | (rename_i x; cases x) | (rename_i x; obtain ⟨_, _⟩ := x))

def m_level_survey_rise (w__Net_Marks : Int) (w__Net_Lines : List Line) (g : Leg) : M Int :=
  M.grd (decide ((0 : Int) <= g.line) && decide (g.line < (w__Net_Lines.length : Int))) <|
  bif g.back then (
  M.grd (decide ((-9223372036854775808 : Int) <= (((w__Net_Lines.getD (Int.toNat g.line) default).err) - ((w__Net_Lines.getD (Int.toNat g.line) default).rise))) && decide ((((w__Net_Lines.getD (Int.toNat g.line) default).err) - ((w__Net_Lines.getD (Int.toNat g.line) default).rise)) <= (9223372036854775807 : Int))) <|
  M.pure (((w__Net_Lines.getD (Int.toNat g.line) default).err) - ((w__Net_Lines.getD (Int.toNat g.line) default).rise)))
  else (
  M.grd (decide ((-9223372036854775808 : Int) <= (((w__Net_Lines.getD (Int.toNat g.line) default).err) + ((w__Net_Lines.getD (Int.toNat g.line) default).rise))) && decide ((((w__Net_Lines.getD (Int.toNat g.line) default).err) + ((w__Net_Lines.getD (Int.toNat g.line) default).rise)) <= (9223372036854775807 : Int))) <|
  M.pure (((w__Net_Lines.getD (Int.toNat g.line) default).err) + ((w__Net_Lines.getD (Int.toNat g.line) default).rise)))
theorem level_survey_rise_ok {R : List Chunk} {b_w_ : Nat} {C_w__Net_Lines : Cells} {v_w__Net_Lines : Value} (w__Net_Marks : Int) (w__Net_Lines : List Line) (g : Leg) (hC_w__Net_Lines : Reads R C_w__Net_Lines) (hs_w__Net_Lines : Sl C_w__Net_Lines v_w__Net_Lines w__Net_Lines) (h_b_w_ : Fld R b_w_ [I w__Net_Marks, v_w__Net_Lines]) {r : Int} (hM : (m_level_survey_rise w__Net_Marks w__Net_Lines g).Ends r) (w : World) (H : St w w [] R) : Ret Try.prog 85 #[.pointer (some ⟨b_w_, 0, none⟩), .agg #[I g.line, B g.back]] w fun v w' => ∃ (y0 : Int), y0 = r /\ v = I y0 /\ St w w' [] R := by
 refine ret_of_W Try.func85 rfl rfl rfl ?_
 refine W.seq ?_
 refine W.region rfl ?_
 refine t_box (v := .agg #[I g.line, B g.back]) (cs := [I g.line, B g.back]) H rfl rfl ?_
 intro b_1 w1z H
 refine s_val (x_as (v := I 0) rfl) ?_
 refine s_nil ?_
 refine W.seq ?_
 refine W.draw (fun W => St w W [cBlk b_1 [I g.line, B g.back] 91] R) [(0, true), (1, true), (2, true), (3, true), (4, true), (5, true), (6, true), (7, true), (8, true), (9, false), (10, false)] mixed (by decide +kernel) rfl ?_
 intro w2z hx_
 replace H : St w w2z [cBlk b_1 [I g.line, B g.back] 91] R := H.ext hx_
 clear hx_
 refine ⟨(H.pick [0] (by decide) rfl), ?_⟩
 refine d_q rfl (fun w' H => x_mv (v := .pointer (some ⟨b_w_, 0, none⟩)) rfl) ?_
 refine d_q rfl (fun w' H => x_nc (a := ⟨b_w_, 0, none⟩) rfl) ?_
 refine d_q rfl (fun w' H => x_fa (a := .pointer (some ⟨b_w_, 0, none⟩)) (v := .pointer (some ⟨b_w_, 0, none⟩)) rfl (fa_blk (o := 0) Fd120_0 Sz25)) ?_
 refine d_q rfl (fun w' H => x_fa (a := .pointer (some ⟨b_w_, 0, none⟩)) (v := .pointer (some ⟨b_w_, 1, none⟩)) rfl (fa_blk (o := 0) Fd25_1 Sz23)) ?_
 refine d_q rfl (fun w' H => x_ld (p := .pointer (some ⟨b_w_, 1, none⟩)) (v := v_w__Net_Lines) rfl (fld_sc (pre := [I w__Net_Marks, v_w__Net_Lines]) (i := 1) Sc23 (h_b_w_.at H) rfl)) ?_
 refine d_q rfl (fun w' H => x_fa (a := .pointer (some ⟨b_1, 0, none⟩)) (v := .pointer (some ⟨b_1, 0, none⟩)) rfl (fa_blk (o := 0) Fd91_0 Sz3)) ?_
 refine d_q rfl (fun w' H => x_ld (p := .pointer (some ⟨b_1, 0, none⟩)) (v := I g.line) rfl (ldb_sc Sc3 (H.blk (k := 0) rfl) rfl)) ?_
 obtain ⟨sd3z, hM⟩ := M.e_grd hM
 simp only [Bool.and_eq_true, decide_eq_true_eq] at sd3z
 refine d_q rfl (fun w' H => x_ix (a := v_w__Net_Lines) (b := I g.line) (v := vat v_w__Net_Lines 5 (Int.toNat g.line)) rfl rfl (Sl.ix (α := Line) T23.und T23.size hs_w__Net_Lines (by omega) (by omega))) ?_
 refine d_q rfl (fun w' H => x_ld (p := vat v_w__Net_Lines 5 (Int.toNat g.line)) (v := .agg #[I ((w__Net_Lines.getD (Int.toNat g.line) default).src), I ((w__Net_Lines.getD (Int.toNat g.line) default).dst), I ((w__Net_Lines.getD (Int.toNat g.line) default).day), I ((w__Net_Lines.getD (Int.toNat g.line) default).rise), I ((w__Net_Lines.getD (Int.toNat g.line) default).err)]) rfl (ld_ag Ag34 Sz34 (At.mono (Line_atA hs_w__Net_Lines (i := g.line) (by omega) (by omega)) (hC_w__Net_Lines.at H)))) ?_
 refine d_l rfl ?_
 refine t_alloc (cs := [I 0, I 0, I 0, I 0, I 0]) H Al34 rfl ?_
 intro b_2 w4z H
 refine s_nil ⟨(H.pick [1] (by decide) rfl), ?_⟩
 refine d_l rfl ?_
 refine t_st (k := 0) (b := b_2) (off := 0) (cs := [I 0, I 0, I 0, I 0, I 0]) (vs := [I ((w__Net_Lines.getD (Int.toNat g.line) default).src), I ((w__Net_Lines.getD (Int.toNat g.line) default).dst), I ((w__Net_Lines.getD (Int.toNat g.line) default).day), I ((w__Net_Lines.getD (Int.toNat g.line) default).rise), I ((w__Net_Lines.getD (Int.toNat g.line) default).err)]) (cs' := [I ((w__Net_Lines.getD (Int.toNat g.line) default).src), I ((w__Net_Lines.getD (Int.toNat g.line) default).dst), I ((w__Net_Lines.getD (Int.toNat g.line) default).day), I ((w__Net_Lines.getD (Int.toNat g.line) default).rise), I ((w__Net_Lines.getD (Int.toNat g.line) default).err)]) (v := .agg #[I ((w__Net_Lines.getD (Int.toNat g.line) default).src), I ((w__Net_Lines.getD (Int.toNat g.line) default).dst), I ((w__Net_Lines.getD (Int.toNat g.line) default).day), I ((w__Net_Lines.getD (Int.toNat g.line) default).rise), I ((w__Net_Lines.getD (Int.toNat g.line) default).err)]) (L' := [cBlk b_2 [I ((w__Net_Lines.getD (Int.toNat g.line) default).src), I ((w__Net_Lines.getD (Int.toNat g.line) default).dst), I ((w__Net_Lines.getD (Int.toNat g.line) default).day), I ((w__Net_Lines.getD (Int.toNat g.line) default).rise), I ((w__Net_Lines.getD (Int.toNat g.line) default).err)] 34, cBlk b_1 [I g.line, B g.back] 91]) H rfl rfl rfl Sz34 rfl rfl rfl rfl rfl rfl ?_
 intro w5z H
 refine s_nil ⟨(H.pick [1] (by decide) rfl), ?_⟩
 refine d_nil ?_
 refine W.seq ?_
 refine W.seq ?_
 refine W.region rfl ?_
 refine s_val (x_fa (a := .pointer (some ⟨b_1, 0, none⟩)) (v := .pointer (some ⟨b_1, 1, none⟩)) rfl (fa_blk (o := 0) Fd91_1 Sz4)) ?_
 refine s_val (x_ld (p := .pointer (some ⟨b_1, 1, none⟩)) (v := B g.back) rfl (ldb_sc Sc4 (H.blk (k := 1) rfl) rfl)) ?_
 refine s_nil ?_
 refine W.cond g.back rfl (fun c6z => ?_) (fun c6z => ?_)
 ·replace hM := M.e_t hM c6z
  refine W.seq ?_
  refine W.region rfl ?_
  refine s_val (x_fa (a := .pointer (some ⟨b_2, 0, none⟩)) (v := .pointer (some ⟨b_2, 4, none⟩)) rfl (fa_blk (o := 0) Fd34_4 Sz3)) ?_
  refine s_val (x_ld (p := .pointer (some ⟨b_2, 4, none⟩)) (v := I ((w__Net_Lines.getD (Int.toNat g.line) default).err)) rfl (ldb_sc Sc3 (H.blk (k := 0) rfl) rfl)) ?_
  refine s_val (x_fa (a := .pointer (some ⟨b_2, 0, none⟩)) (v := .pointer (some ⟨b_2, 3, none⟩)) rfl (fa_blk (o := 0) Fd34_3 Sz3)) ?_
  refine s_val (x_ld (p := .pointer (some ⟨b_2, 3, none⟩)) (v := I ((w__Net_Lines.getD (Int.toNat g.line) default).rise)) rfl (ldb_sc Sc3 (H.blk (k := 0) rfl) rfl)) ?_
  obtain ⟨sd7z, hM⟩ := M.e_grd hM
  simp only [Bool.and_eq_true, decide_eq_true_eq] at sd7z
  refine s_val (x_ari (a := (w__Net_Lines.getD (Int.toNat g.line) default).err) (b := (w__Net_Lines.getD (Int.toNat g.line) default).rise) (r := ((w__Net_Lines.getD (Int.toNat g.line) default).err) - ((w__Net_Lines.getD (Int.toNat g.line) default).rise)) rfl rfl rfl (by omega)) ?_
  refine s_val (x_as (v := I (((w__Net_Lines.getD (Int.toNat g.line) default).err) - ((w__Net_Lines.getD (Int.toNat g.line) default).rise))) rfl) ?_
  refine s_nil ?_
  refine W.ret ?_
  have hr_ := M.e_pure hM
  exact ⟨_, resE_tmp rfl, ⟨(((w__Net_Lines.getD (Int.toNat g.line) default).err) - ((w__Net_Lines.getD (Int.toNat g.line) default).rise)), hr_, rfl, (H.pick [] (by decide) rfl)⟩⟩
 ·replace hM := M.e_f hM c6z
  refine W.skip ?_
  refine W.seq ?_
  refine W.region rfl ?_
  refine s_val (x_fa (a := .pointer (some ⟨b_2, 0, none⟩)) (v := .pointer (some ⟨b_2, 4, none⟩)) rfl (fa_blk (o := 0) Fd34_4 Sz3)) ?_
  refine s_val (x_ld (p := .pointer (some ⟨b_2, 4, none⟩)) (v := I ((w__Net_Lines.getD (Int.toNat g.line) default).err)) rfl (ldb_sc Sc3 (H.blk (k := 0) rfl) rfl)) ?_
  refine s_val (x_fa (a := .pointer (some ⟨b_2, 0, none⟩)) (v := .pointer (some ⟨b_2, 3, none⟩)) rfl (fa_blk (o := 0) Fd34_3 Sz3)) ?_
  refine s_val (x_ld (p := .pointer (some ⟨b_2, 3, none⟩)) (v := I ((w__Net_Lines.getD (Int.toNat g.line) default).rise)) rfl (ldb_sc Sc3 (H.blk (k := 0) rfl) rfl)) ?_
  obtain ⟨sd8z, hM⟩ := M.e_grd hM
  simp only [Bool.and_eq_true, decide_eq_true_eq] at sd8z
  refine s_val (x_ari (a := (w__Net_Lines.getD (Int.toNat g.line) default).err) (b := (w__Net_Lines.getD (Int.toNat g.line) default).rise) (r := ((w__Net_Lines.getD (Int.toNat g.line) default).err) + ((w__Net_Lines.getD (Int.toNat g.line) default).rise)) rfl rfl rfl (by omega)) ?_
  refine s_val (x_as (v := I (((w__Net_Lines.getD (Int.toNat g.line) default).err) + ((w__Net_Lines.getD (Int.toNat g.line) default).rise))) rfl) ?_
  refine s_nil ?_
  refine W.ret ?_
  have hr_ := M.e_pure hM
  exact ⟨_, resE_tmp rfl, ⟨(((w__Net_Lines.getD (Int.toNat g.line) default).err) + ((w__Net_Lines.getD (Int.toNat g.line) default).rise)), hr_, rfl, (H.pick [] (by decide) rfl)⟩⟩

def m_level_sum_b0 (l : List Int) : (Int × Nat) -> M ((Int × Nat) ⊕ Int) := fun (out, s) =>
  bif decide ((s : Int) < (l.length : Int)) then (
  M.grd (decide ((s : Int) < (l.length : Int))) <|
  M.grd (decide ((-9223372036854775808 : Int) <= (out + (l.getD s 0))) && decide ((out + (l.getD s 0)) <= (9223372036854775807 : Int))) <|
  M.pure (.inl (out + (l.getD s 0), s + 1)))
  else (
  M.pure (.inr out))
def m_level_sum (l : List Int) : M Int :=
  M.bind (M.iter (m_level_sum_b0 l) (0, 0)) fun out2 =>
  M.pure out2
theorem level_sum_ok {R : List Chunk} {C_l : Cells} {v_l : Value} (l : List Int) (hC_l : Reads R C_l) (hs_l : Sl C_l v_l l) {r : Int} (hM : (m_level_sum l).Ends r) (w : World) (H : St w w [] R) : Ret Try.prog 105 #[v_l] w fun v w' => ∃ (y0 : Int), y0 = r /\ v = I y0 /\ St w w' [] R := by
 refine ret_of_W Try.func105 rfl rfl rfl ?_
 refine W.seq ?_
 refine W.region rfl ?_
 refine s_val (x_as (v := I 0) rfl) ?_
 refine s_nil ?_
 refine W.seq ?_
 refine W.region rfl ?_
 refine s_val (x_as (v := I 0) rfl) ?_
 refine s_nil ?_
 refine W.seq ?_
 refine W.seq ?_
 refine W.region rfl ?_
 refine s_val (x_mv (v := v_l) rfl) ?_
 have hl1z := (hs_l).len_le
 refine s_val (x_lenS T26.und rfl hs_l) ?_
 refine s_val (x_mv (v := I 0) rfl) ?_
 refine s_nil ?_
 refine W.block ?_
 obtain ⟨ex2z, hi3z, hk4z⟩ := M.e_bind hM
 obtain ⟨m0_, hi3z⟩ := M.e_iter hi3z
 refine W.loop (fun m σ W => ∃ (out : Int) (s : Nat) (ρ : Env), σ = upds ρ [(3, I out), (6, v_l), (7, I (l.length : Int)), (8, I (s : Int))] /\ M.iterN (m_level_sum_b0 l) m (out, s) = some ex2z /\ St w W [] R) ?_ ?_
 ·exact ⟨_, 0, 0, _, upds_of _ _ ⟨rfl, rfl, rfl, rfl, trivial⟩, hi3z, H⟩
 ·rintro m7z σ w5z ⟨out, s, ρ, rfl, hI6z, H⟩
  obtain ⟨m8z, lt9z, x10z, hM, hN11z⟩ := M.e_iterN hI6z
  simp only [m_level_sum_b0] at hM
  clear hI6z
  refine W.seq ?_
  refine W.region rfl ?_
  refine s_val (x_cmp (kd := .i64) (a := (s : Int)) (b := (l.length : Int)) (r := decide ((s : Int) < (l.length : Int))) rfl rfl rfl) ?_
  refine s_nil ?_
  refine W.seq ?_
  refine W.cond (decide ((s : Int) < (l.length : Int))) rfl (fun c12z => ?_) (fun c12z => ?_)
  ·replace hM := M.e_t hM c12z
   simp only [decide_eq_true_eq, decide_eq_false_iff_not, beq_iff_eq, bne_iff_ne, beq_eq_false_iff_ne, bne_eq_false_iff_eq, ne_eq, Decidable.not_not] at c12z
   refine W.skip ?_
   refine W.seq ?_
   refine W.block ?_
   refine W.seq ?_
   refine W.region rfl ?_
   obtain ⟨sd13z, hM⟩ := M.e_grd hM
   simp only [Bool.and_eq_true, decide_eq_true_eq] at sd13z
   refine s_val (x_ix (a := v_l) (b := I (s : Int)) (v := vat v_l 1 (Int.toNat (s : Int))) rfl rfl (Sl.ix (α := Int) T26.und T26.size hs_l (by omega) (by omega))) ?_
   refine s_val (x_ld (p := vat v_l 1 (Int.toNat (s : Int))) (v := I (l.getD s 0)) rfl (ld_sc Sc3 (At.mono (Int_at hs_l (i := (s : Int)) (by omega) (by omega)) (hC_l.at H)))) ?_
   refine s_val (x_as (v := I (l.getD s 0)) rfl) ?_
   refine s_nil ?_
   refine W.region rfl ?_
   refine s_val (x_mv (v := I out) rfl) ?_
   refine s_val (x_mv (v := I (l.getD s 0)) rfl) ?_
   obtain ⟨sd14z, hM⟩ := M.e_grd hM
   simp only [Bool.and_eq_true, decide_eq_true_eq] at sd14z
   refine s_val (x_ari (a := out) (b := l.getD s 0) (r := out + (l.getD s 0)) rfl rfl rfl (by omega)) ?_
   refine s_val (x_as (v := I (out + (l.getD s 0))) rfl) ?_
   refine s_nil ?_
   refine W.region rfl ?_
   refine s_val (x_ari (a := (s : Int)) (b := 1) (r := (s : Int) + 1) rfl rfl rfl (by omega)) ?_
   refine s_val (x_mv (v := I ((s : Int) + 1)) rfl) ?_
   refine s_nil ?_
   exact ⟨m8z, lt9z, out + (l.getD s 0), s + 1, _, upds_of _ _ ⟨rfl, rfl, rfl, rfl, trivial⟩, M.e_inl hM hN11z, H⟩
  ·replace hM := M.e_f hM c12z
   simp only [decide_eq_true_eq, decide_eq_false_iff_not, beq_iff_eq, bne_iff_ne, beq_eq_false_iff_ne, bne_eq_false_iff_eq, ne_eq, Decidable.not_not] at c12z
   refine W.exit ?_
   have hX15z := M.e_inr hM hN11z
   subst hX15z
   replace hM := hk4z
   try dsimp only at hM
   refine W.seq ?_
   refine W.region rfl ?_
   refine s_val (x_mv (v := I out) rfl) ?_
   refine s_val (x_as (v := I out) rfl) ?_
   refine s_nil ?_
   refine W.ret ?_
   have hr_ := M.e_pure hM
   exact ⟨_, resE_tmp rfl, ⟨out, hr_, rfl, H⟩⟩

def m_level_survey_goal (w__Net_Marks : Int) (w__Net_Lines : List Line) (g : Leg) : M Int :=
  M.grd (decide ((0 : Int) <= g.line) && decide (g.line < (w__Net_Lines.length : Int))) <|
  M.pure (legEnd (!g.back) (w__Net_Lines.getD (Int.toNat g.line) default))
theorem level_survey_goal_ok {R : List Chunk} {b_w_ : Nat} {C_w__Net_Lines : Cells} {v_w__Net_Lines : Value} (w__Net_Marks : Int) (w__Net_Lines : List Line) (g : Leg) (hC_w__Net_Lines : Reads R C_w__Net_Lines) (hs_w__Net_Lines : Sl C_w__Net_Lines v_w__Net_Lines w__Net_Lines) (h_b_w_ : Fld R b_w_ [I w__Net_Marks, v_w__Net_Lines]) {r : Int} (hM : (m_level_survey_goal w__Net_Marks w__Net_Lines g).Ends r) (w : World) (H : St w w [] R) : Ret Try.prog 84 #[.pointer (some ⟨b_w_, 0, none⟩), .agg #[I g.line, B g.back]] w fun v w' => ∃ (y0 : Int), y0 = r /\ v = I y0 /\ St w w' [] R := by
 refine ret_of_W Try.func84 rfl rfl rfl ?_
 refine W.seq ?_
 refine W.region rfl ?_
 refine t_box (v := .agg #[I g.line, B g.back]) (cs := [I g.line, B g.back]) H rfl rfl ?_
 intro b_1 w1z H
 refine s_val (x_as (v := I 0) rfl) ?_
 refine s_nil ?_
 refine W.seq ?_
 refine W.draw (fun W => St w W [cBlk b_1 [I g.line, B g.back] 91] R) [(0, true), (1, true), (2, true), (5, true), (6, true), (7, true), (8, true), (9, true), (10, true), (11, true), (12, true), (13, true), (3, false), (4, true), (14, false), (15, true)] mixed (by decide +kernel) rfl ?_
 intro w2z hx_
 replace H : St w w2z [cBlk b_1 [I g.line, B g.back] 91] R := H.ext hx_
 clear hx_
 refine ⟨(H.pick [0] (by decide) rfl), ?_⟩
 refine d_q rfl (fun w' H => x_fa (a := .pointer (some ⟨b_1, 0, none⟩)) (v := .pointer (some ⟨b_1, 1, none⟩)) rfl (fa_blk (o := 0) Fd91_1 Sz4)) ?_
 refine d_q rfl (fun w' H => x_ld (p := .pointer (some ⟨b_1, 1, none⟩)) (v := B g.back) rfl (ldb_sc Sc4 (H.blk (k := 0) rfl) rfl)) ?_
 refine d_q rfl (fun w' H => x_not (b := g.back) rfl) ?_
 refine d_q rfl (fun w' H => x_mv (v := .pointer (some ⟨b_w_, 0, none⟩)) rfl) ?_
 refine d_q rfl (fun w' H => x_nc (a := ⟨b_w_, 0, none⟩) rfl) ?_
 refine d_q rfl (fun w' H => x_fa (a := .pointer (some ⟨b_w_, 0, none⟩)) (v := .pointer (some ⟨b_w_, 0, none⟩)) rfl (fa_blk (o := 0) Fd120_0 Sz25)) ?_
 refine d_q rfl (fun w' H => x_fa (a := .pointer (some ⟨b_w_, 0, none⟩)) (v := .pointer (some ⟨b_w_, 1, none⟩)) rfl (fa_blk (o := 0) Fd25_1 Sz23)) ?_
 refine d_q rfl (fun w' H => x_ld (p := .pointer (some ⟨b_w_, 1, none⟩)) (v := v_w__Net_Lines) rfl (fld_sc (pre := [I w__Net_Marks, v_w__Net_Lines]) (i := 1) Sc23 (h_b_w_.at H) rfl)) ?_
 refine d_q rfl (fun w' H => x_fa (a := .pointer (some ⟨b_1, 0, none⟩)) (v := .pointer (some ⟨b_1, 0, none⟩)) rfl (fa_blk (o := 0) Fd91_0 Sz3)) ?_
 refine d_q rfl (fun w' H => x_ld (p := .pointer (some ⟨b_1, 0, none⟩)) (v := I g.line) rfl (ldb_sc Sc3 (H.blk (k := 0) rfl) rfl)) ?_
 obtain ⟨sd3z, hM⟩ := M.e_grd hM
 simp only [Bool.and_eq_true, decide_eq_true_eq] at sd3z
 refine d_q rfl (fun w' H => x_ix (a := v_w__Net_Lines) (b := I g.line) (v := vat v_w__Net_Lines 5 (Int.toNat g.line)) rfl rfl (Sl.ix (α := Line) T23.und T23.size hs_w__Net_Lines (by omega) (by omega))) ?_
 refine d_q rfl (fun w' H => x_ld (p := vat v_w__Net_Lines 5 (Int.toNat g.line)) (v := .agg #[I ((w__Net_Lines.getD (Int.toNat g.line) default).src), I ((w__Net_Lines.getD (Int.toNat g.line) default).dst), I ((w__Net_Lines.getD (Int.toNat g.line) default).day), I ((w__Net_Lines.getD (Int.toNat g.line) default).rise), I ((w__Net_Lines.getD (Int.toNat g.line) default).err)]) rfl (ld_ag Ag34 Sz34 (At.mono (Line_atA hs_w__Net_Lines (i := g.line) (by omega) (by omega)) (hC_w__Net_Lines.at H)))) ?_
 refine d_l rfl ?_
 refine s_call cf99 [B (!g.back)] rfl (starts_any (!g.back) _ H.sep) ?_
 rintro _ w4z ⟨rfl, hx_⟩
 replace H : St w w4z [cBlk b_1 [I g.line, B g.back] 91] R := H.via hx_
 clear hx_
 refine s_nil ⟨(H.pick [0] (by decide) rfl), ?_⟩
 refine d_q rfl (fun w' H => x_fd (cs := [.func (.func (bif (!g.back) then 108 else 109)) #[] #[]]) (v := .func (.func (bif (!g.back) then 108 else 109)) #[] #[]) Fd160_0 Sc158 rfl rfl) ?_
 refine d_l rfl ?_
 refine s_callv rfl (cfsel (!g.back)) [.agg #[I ((w__Net_Lines.getD (Int.toNat g.line) default).src), I ((w__Net_Lines.getD (Int.toNat g.line) default).dst), I ((w__Net_Lines.getD (Int.toNat g.line) default).day), I ((w__Net_Lines.getD (Int.toNat g.line) default).rise), I ((w__Net_Lines.getD (Int.toNat g.line) default).err)]] rfl (ends_any (!g.back) (w__Net_Lines.getD (Int.toNat g.line) default) _ H.sep) ?_
 rintro _ w5z ⟨rfl, hx_⟩
 replace H : St w w5z [cBlk b_1 [I g.line, B g.back] 91] R := H.via hx_
 clear hx_
 refine s_nil ⟨(H.pick [0] (by decide) rfl), ?_⟩
 refine d_q rfl (fun w' H => x_as (v := I (legEnd (!g.back) (w__Net_Lines.getD (Int.toNat g.line) default))) rfl) ?_
 refine d_nil ?_
 refine W.ret ?_
 have hr_ := M.e_pure hM
 exact ⟨_, resE_tmp rfl, ⟨(legEnd (!g.back) (w__Net_Lines.getD (Int.toNat g.line) default)), hr_, rfl, (H.pick [] (by decide) rfl)⟩⟩

def m_level_survey_fill_b4 (w__Net_Marks : Int) (w__Net_Lines : List Line) (from_ : Int) (s3 : Nat) : ((List Int) × (List Leg)) -> Leg -> M (((List Int) × (List Leg)) ⊕ Unit) := fun (s, s2) x =>
  M.bind (m_level_survey_rise w__Net_Marks w__Net_Lines x) fun r2 =>
  M.bind (m_level_sum ([(s.getD ((Int.toNat from_) * 13 + s3) 0 : Int), (r2 : Int)])) fun r3 =>
  M.bind (m_level_survey_goal w__Net_Marks w__Net_Lines x) fun r4 =>
  M.grd (decide ((0 : Int) <= r4) && decide (r4 < (13 : Int))) <|
  bif decide (r3 < (s.getD ((Int.toNat from_) * 13 + (Int.toNat r4)) 0)) then (
  M.bind (m_level_survey_goal w__Net_Marks w__Net_Lines x) fun r5 =>
  M.bind (m_level_survey_goal w__Net_Marks w__Net_Lines x) fun r6 =>
  M.grd (decide ((0 : Int) <= r5) && decide (r5 < (13 : Int))) <|
  M.grd (decide ((0 : Int) <= r6) && decide (r6 < (13 : Int))) <|
  M.pure (.inl (s.set ((Int.toNat from_) * 13 + (Int.toNat r5)) r3, s2.set ((Int.toNat from_) * 13 + (Int.toNat r6)) x)))
  else (
  M.pure (.inl (s, s2)))
def m_level_survey_fill_b5 (w__Net_Marks : Int) (w__Net_Lines : List Line) (from_ : Int) : (Nat × (List Int) × (List Leg)) -> M ((Nat × (List Int) × (List Leg)) ⊕ ((List Int) × (List Leg))) := fun (s3, s4, s5) =>
  bif decide ((s3 : Int) < w__Net_Marks) then (
  M.grd (decide ((0 : Int) <= (s3 : Int)) && decide ((s3 : Int) < (13 : Int))) <|
  bif (s4.getD ((Int.toNat from_) * 13 + s3) 0) == 1099511627776 then (
  M.grd (decide ((-9223372036854775808 : Int) <= ((s3 : Int) + 1)) && decide (((s3 : Int) + 1) <= (9223372036854775807 : Int))) <|
  M.pure (.inl (s3 + 1, s4, s5)))
  else (
  M.bind (m_level_survey_legs w__Net_Marks w__Net_Lines (s3 : Int)) fun r10 =>
  M.bind (m_level_survey_legs_1 (M.yl (m_level_survey_fill_b4 w__Net_Marks w__Net_Lines from_ s3)) (.inl (s4, s5)) w__Net_Marks w__Net_Lines r10) fun x_ => match x_ with
  | .inl (s, s2) => (
  M.grd (decide ((-9223372036854775808 : Int) <= ((s3 : Int) + 1)) && decide (((s3 : Int) + 1) <= (9223372036854775807 : Int))) <|
  M.pure (.inl (s3 + 1, s, s2)))
  | .inr _ => M.fail))
  else (
  M.pure (.inr (s4, s5)))
def m_level_survey_fill_b6 (w__Net_Marks : Int) (w__Net_Lines : List Line) (from_ : Int) : ((List Int) × (List Leg) × Nat) -> M (((List Int) × (List Leg) × Nat) ⊕ ((List Int) × (List Leg))) := fun (s6, s7, s8) =>
  bif decide ((s8 : Int) < w__Net_Marks) then (
  M.bind (M.iter (m_level_survey_fill_b5 w__Net_Marks w__Net_Lines from_) (0, s6, s7)) fun (l, l2) =>
  M.grd (decide ((-9223372036854775808 : Int) <= ((s8 : Int) + 1)) && decide (((s8 : Int) + 1) <= (9223372036854775807 : Int))) <|
  M.pure (.inl (l, l2, s8 + 1)))
  else (
  M.pure (.inr (s6, s7)))
def m_level_survey_fill (w__Net_Marks : Int) (w__Net_Lines : List Line) (w__can : List Int) (w__by : List Leg) (from_ : Int) : M ((List Int) × (List Leg)) :=
  M.grd (decide ((0 : Int) <= from_) && decide (from_ < (13 : Int))) <|
  M.bind (M.iter (m_level_survey_fill_b6 w__Net_Marks w__Net_Lines from_) (w__can, w__by, 0)) fun (l3, l4) =>
  M.pure (l3, l4)
theorem level_survey_fill_ok {R : List Chunk} {b_w_ : Nat} {C_w__Net_Lines : Cells} {v_w__Net_Lines : Value} (w__Net_Marks : Int) (w__Net_Lines : List Line) (w__can : List Int) (w__by : List Leg) (from_ : Int) (hC_w__Net_Lines : Reads R C_w__Net_Lines) (hs_w__Net_Lines : Sl C_w__Net_Lines v_w__Net_Lines w__Net_Lines) (hl_w__can : w__can.length = 169) (hl_w__by : w__by.length = 169) {r : ((List Int) × (List Leg))} (hM : (m_level_survey_fill w__Net_Marks w__Net_Lines w__can w__by from_).Ends r) (w : World) (H : St w w [cBlk b_w_ (List.flatten [[I w__Net_Marks, v_w__Net_Lines], encF (α := Int) w__can, encF (α := Leg) w__by]) 120] R) : Ret Try.prog 92 #[.pointer (some ⟨b_w_, 0, none⟩), I from_] w fun v w' => ∃ (y0 : List Int) (y1 : List Leg), (y0, y1) = r /\ v = .tuple #[] /\ St w w' [cBlk b_w_ (List.flatten [[I w__Net_Marks, v_w__Net_Lines], encF (α := Int) y0, encF (α := Leg) y1]) 120] R /\ y0.length = 169 /\ y1.length = 169 := by
 refine ret_of_WD Try.func92 rfl rfl rfl ?_
 replace H : St w w [cMk ([]), cBlk b_w_ (List.flatten [[I w__Net_Marks, v_w__Net_Lines], encF (α := Int) w__can, encF (α := Leg) w__by]) 120] R := H.mk0
 have hl_w__Net_Lines := hs_w__Net_Lines.len_le
 unfold m_level_survey_fill at hM
 refine WD.seq ?_
 refine WD.of ?_
 refine W.region rfl ?_
 refine t_box (v := .pointer (some ⟨b_w_, 0, none⟩)) (cs := [.pointer (some ⟨b_w_, 0, none⟩)]) H rfl rfl ?_
 intro b_1 w1z H
 refine s_nil ?_
 refine WD.seq ?_
 refine WD.of ?_
 refine W.drawT (fun W => St w W [cBlk b_1 [.pointer (some ⟨b_w_, 0, none⟩)] 111, cMk ([]), cBlk b_w_ (List.flatten [[I w__Net_Marks, v_w__Net_Lines], encF (α := Int) w__can, encF (α := Leg) w__by]) 120] R) (.q 0 (.q 1 (.q 2 (.q 3 (.q 4 (.q 5 (.q 6 (.q 7 (.q 8 (.q 9 (.l2 10 (.l 11 (.l 12 (.l 13 .nil))) 11 (.l 10 (.l 12 (.l 13 .nil)))))))))))))) mixed (by decide +kernel) rfl ?_
 intro w2z hx_
 replace H : St w w2z [cBlk b_1 [.pointer (some ⟨b_w_, 0, none⟩)] 111, cMk ([]), cBlk b_w_ (List.flatten [[I w__Net_Marks, v_w__Net_Lines], encF (α := Int) w__can, encF (α := Leg) w__by]) 120] R := H.ext hx_
 clear hx_
 refine ⟨(H.pick [0, 1, 2] (by decide) rfl), ?_⟩
 refine t_q rfl (fun w' H => x_ld (p := .pointer (some ⟨b_1, 0, none⟩)) (v := .pointer (some ⟨b_w_, 0, none⟩)) rfl (ldb_sc Sc111 (H.blk (k := 0) rfl) rfl)) ?_
 refine t_q rfl (fun w' H => x_mv (v := I from_) rfl) ?_
 refine t_q rfl (fun w' H => x_nc (a := ⟨b_w_, 0, none⟩) rfl) ?_
 refine t_q rfl (fun w' H => x_fa (a := .pointer (some ⟨b_w_, 0, none⟩)) (v := .pointer (some ⟨b_w_, 2, none⟩)) rfl (fa_blk (o := 0) Fd120_1 Sz116)) ?_
 obtain ⟨sd3z, hM⟩ := M.e_grd hM
 simp only [Bool.and_eq_true, decide_eq_true_eq] at sd3z
 refine t_q rfl (fun w' H => x_ix (a := .pointer (some ⟨b_w_, 2, none⟩)) (b := I from_) (v := .pointer (some ⟨b_w_, 2 + Int.toNat from_ * 13, none⟩)) rfl rfl (run_indexS Try.underlying116 Sz114 (by omega) (by omega))) ?_
 refine t_q rfl (fun w' H => x_ld (p := .pointer (some ⟨b_1, 0, none⟩)) (v := .pointer (some ⟨b_w_, 0, none⟩)) rfl (ldb_sc Sc111 (H.blk (k := 0) rfl) rfl)) ?_
 refine t_q rfl (fun w' H => x_mv (v := I from_) rfl) ?_
 refine t_q rfl (fun w' H => x_nc (a := ⟨b_w_, 0, none⟩) rfl) ?_
 refine t_q rfl (fun w' H => x_fa (a := .pointer (some ⟨b_w_, 0, none⟩)) (v := .pointer (some ⟨b_w_, 171, none⟩)) rfl (fa_blk (o := 0) Fd120_2 Sz118)) ?_
 refine t_q rfl (fun w' H => x_ix (a := .pointer (some ⟨b_w_, 171, none⟩)) (b := I from_) (v := .pointer (some ⟨b_w_, 171 + Int.toNat from_ * 26, none⟩)) rfl rfl (run_indexS Try.underlying118 Sz117 (by omega) (by omega))) ?_
 refine t_l2 rfl rfl ?_ ?_
 ·skip
  refine t_alloc (cs := [.pointer none]) H Al167 rfl ?_
  intro b_2 w8z H
  refine s_nil ⟨(H.pick [1, 2, 3] (by decide) rfl), ?_⟩
  refine t_l rfl ?_
  refine t_alloc (cs := [.pointer none]) H Al168 rfl ?_
  intro b_3 w9z H
  refine s_nil ⟨(H.pick [2, 3, 4] (by decide) rfl), ?_⟩
  refine t_l rfl ?_
  refine t_st (k := 1) (b := b_2) (off := 0) (cs := [.pointer none]) (vs := [.pointer (some ⟨b_w_, 2 + Int.toNat from_ * 13, none⟩)]) (cs' := [.pointer (some ⟨b_w_, 2 + Int.toNat from_ * 13, none⟩)]) (v := .pointer (some ⟨b_w_, 2 + Int.toNat from_ * 13, none⟩)) (L' := [cBlk b_3 [.pointer none] 168, cBlk b_2 [.pointer (some ⟨b_w_, 2 + Int.toNat from_ * 13, none⟩)] 167, cBlk b_1 [.pointer (some ⟨b_w_, 0, none⟩)] 111, cMk ([]), cBlk b_w_ (List.flatten [[I w__Net_Marks, v_w__Net_Lines], encF (α := Int) w__can, encF (α := Leg) w__by]) 120]) H rfl rfl rfl Sz167 rfl rfl rfl rfl rfl rfl ?_
  intro w10z H
  refine s_nil ⟨(H.pick [2, 3, 4] (by decide) rfl), ?_⟩
  refine t_l rfl ?_
  refine t_st (k := 0) (b := b_3) (off := 0) (cs := [.pointer none]) (vs := [.pointer (some ⟨b_w_, 171 + Int.toNat from_ * 26, none⟩)]) (cs' := [.pointer (some ⟨b_w_, 171 + Int.toNat from_ * 26, none⟩)]) (v := .pointer (some ⟨b_w_, 171 + Int.toNat from_ * 26, none⟩)) (L' := [cBlk b_3 [.pointer (some ⟨b_w_, 171 + Int.toNat from_ * 26, none⟩)] 168, cBlk b_2 [.pointer (some ⟨b_w_, 2 + Int.toNat from_ * 13, none⟩)] 167, cBlk b_1 [.pointer (some ⟨b_w_, 0, none⟩)] 111, cMk ([]), cBlk b_w_ (List.flatten [[I w__Net_Marks, v_w__Net_Lines], encF (α := Int) w__can, encF (α := Leg) w__by]) 120]) H rfl rfl rfl Sz168 rfl rfl rfl rfl rfl rfl ?_
  intro w11z H
  refine s_nil ⟨(H.pick [2, 3, 4] (by decide) rfl), ?_⟩
  refine t_nil ?_
  refine WD.seq ?_
  refine WD.of ?_
  refine W.region rfl ?_
  refine s_val (x_ld (p := .pointer (some ⟨b_1, 0, none⟩)) (v := .pointer (some ⟨b_w_, 0, none⟩)) rfl (ldb_sc Sc111 (H.blk (k := 2) rfl) rfl)) ?_
  refine s_val (x_nc (a := ⟨b_w_, 0, none⟩) rfl) ?_
  refine s_val (x_fa (a := .pointer (some ⟨b_w_, 0, none⟩)) (v := .pointer (some ⟨b_w_, 0, none⟩)) rfl (fa_blk (o := 0) Fd120_0 Sz25)) ?_
  refine s_val (x_fa (a := .pointer (some ⟨b_w_, 0, none⟩)) (v := .pointer (some ⟨b_w_, 0, none⟩)) rfl (fa_blk (o := 0) Fd25_0 Sz3)) ?_
  refine s_val (x_ld (p := .pointer (some ⟨b_w_, 0, none⟩)) (v := I w__Net_Marks) rfl (ldb_sc Sc3 (H.blk (k := 4) rfl) rfl)) ?_
  refine s_val (x_mv (v := I 0) rfl) ?_
  refine s_nil ?_
  refine WD.block ?_
  obtain ⟨ex12z, hi13z, hk14z⟩ := M.e_bind hM
  obtain ⟨m0_, hi13z⟩ := M.e_iter hi13z
  refine WD.loop (fun m Ds15z σ W => ∃ (s6 : List Int) (s7 : List Leg) (s8 : Nat) (ρ : Env), σ = upds ρ [(2, .pointer (some ⟨b_1, 0, none⟩)), (4, .pointer (some ⟨b_2, 0, none⟩)), (5, .pointer (some ⟨b_3, 0, none⟩)), (23, I w__Net_Marks), (24, I (s8 : Int))] /\ M.iterN (m_level_survey_fill_b6 w__Net_Marks w__Net_Lines from_) m (s6, s7, s8) = some ex12z /\ St w W [cBlk b_3 [.pointer (some ⟨b_w_, 171 + Int.toNat from_ * 26, none⟩)] 168, cBlk b_2 [.pointer (some ⟨b_w_, 2 + Int.toNat from_ * 13, none⟩)] 167, cBlk b_1 [.pointer (some ⟨b_w_, 0, none⟩)] 111, cMk Ds15z, cBlk b_w_ (List.flatten [[I w__Net_Marks, v_w__Net_Lines], encF (α := Int) s6, encF (α := Leg) s7]) 120] R /\ s6.length = 169 /\ s7.length = 169) ?_ ?_
  ·exact ⟨_, w__can, w__by, 0, _, upds_of _ _ ⟨rfl, rfl, rfl, rfl, rfl, trivial⟩, hi13z, H, hl_w__can, hl_w__by⟩
  ·rintro m18z Ds15z σ w16z ⟨s6, s7, s8, ρ, rfl, hI17z, H, hl_s6, hl_s7⟩
   obtain ⟨m19z, lt20z, x21z, hM, hN22z⟩ := M.e_iterN hI17z
   simp only [m_level_survey_fill_b6] at hM
   clear hI17z
   refine WD.seq ?_
   refine WD.of ?_
   refine W.region rfl ?_
   refine s_val (x_cmp (kd := .i64) (a := (s8 : Int)) (b := w__Net_Marks) (r := decide ((s8 : Int) < w__Net_Marks)) rfl rfl rfl) ?_
   refine s_nil ?_
   refine WD.seq ?_
   refine WD.cond (decide ((s8 : Int) < w__Net_Marks)) rfl (fun c23z => ?_) (fun c23z => ?_)
   ·replace hM := M.e_t hM c23z
    simp only [decide_eq_true_eq, decide_eq_false_iff_not, beq_iff_eq, bne_iff_ne, beq_eq_false_iff_ne, bne_eq_false_iff_eq, ne_eq, Decidable.not_not] at c23z
    refine WD.of ?_
    refine W.skip ?_
    refine WD.seq ?_
    refine WD.block ?_
    refine WD.seq ?_
    refine WD.of ?_
    refine W.region rfl ?_
    refine s_val (x_ld (p := .pointer (some ⟨b_1, 0, none⟩)) (v := .pointer (some ⟨b_w_, 0, none⟩)) rfl (ldb_sc Sc111 (H.blk (k := 2) rfl) rfl)) ?_
    refine s_val (x_nc (a := ⟨b_w_, 0, none⟩) rfl) ?_
    refine s_val (x_fa (a := .pointer (some ⟨b_w_, 0, none⟩)) (v := .pointer (some ⟨b_w_, 0, none⟩)) rfl (fa_blk (o := 0) Fd120_0 Sz25)) ?_
    refine s_val (x_fa (a := .pointer (some ⟨b_w_, 0, none⟩)) (v := .pointer (some ⟨b_w_, 0, none⟩)) rfl (fa_blk (o := 0) Fd25_0 Sz3)) ?_
    refine s_val (x_ld (p := .pointer (some ⟨b_w_, 0, none⟩)) (v := I w__Net_Marks) rfl (ldb_sc Sc3 (H.blk (k := 4) rfl) rfl)) ?_
    refine s_val (x_mv (v := I 0) rfl) ?_
    refine s_nil ?_
    refine WD.block ?_
    obtain ⟨ex24z, hi25z, hk26z⟩ := M.e_bind hM
    obtain ⟨m0_, hi25z⟩ := M.e_iter hi25z
    refine WD.loop (fun m Ds27z σ W => ∃ (s3 : Nat) (s4 : List Int) (s5 : List Leg) (ρ : Env), σ = upds ρ [(2, .pointer (some ⟨b_1, 0, none⟩)), (4, .pointer (some ⟨b_2, 0, none⟩)), (5, .pointer (some ⟨b_3, 0, none⟩)), (23, I w__Net_Marks), (24, I (s8 : Int)), (30, I w__Net_Marks), (31, I (s3 : Int))] /\ M.iterN (m_level_survey_fill_b5 w__Net_Marks w__Net_Lines from_) m (s3, s4, s5) = some ex24z /\ St w W [cBlk b_3 [.pointer (some ⟨b_w_, 171 + Int.toNat from_ * 26, none⟩)] 168, cBlk b_2 [.pointer (some ⟨b_w_, 2 + Int.toNat from_ * 13, none⟩)] 167, cBlk b_1 [.pointer (some ⟨b_w_, 0, none⟩)] 111, cMk Ds27z, cBlk b_w_ (List.flatten [[I w__Net_Marks, v_w__Net_Lines], encF (α := Int) s4, encF (α := Leg) s5]) 120] R /\ s4.length = 169 /\ s5.length = 169) ?_ ?_
    ·exact ⟨_, 0, s6, s7, _, upds_of _ _ ⟨rfl, rfl, rfl, rfl, rfl, rfl, rfl, trivial⟩, hi25z, H, hl_s6, hl_s7⟩
    ·rintro m30z Ds27z σ w28z ⟨s3, s4, s5, ρ, rfl, hI29z, H, hl_s4, hl_s5⟩
     obtain ⟨m31z, lt32z, x33z, hM, hN34z⟩ := M.e_iterN hI29z
     simp only [m_level_survey_fill_b5] at hM
     clear hI29z
     refine WD.seq ?_
     refine WD.of ?_
     refine W.region rfl ?_
     refine s_val (x_cmp (kd := .i64) (a := (s3 : Int)) (b := w__Net_Marks) (r := decide ((s3 : Int) < w__Net_Marks)) rfl rfl rfl) ?_
     refine s_nil ?_
     refine WD.seq ?_
     refine WD.cond (decide ((s3 : Int) < w__Net_Marks)) rfl (fun c35z => ?_) (fun c35z => ?_)
     ·replace hM := M.e_t hM c35z
      simp only [decide_eq_true_eq, decide_eq_false_iff_not, beq_iff_eq, bne_iff_ne, beq_eq_false_iff_ne, bne_eq_false_iff_eq, ne_eq, Decidable.not_not] at c35z
      refine WD.of ?_
      refine W.skip ?_
      refine WD.seq ?_
      refine WD.block ?_
      refine WD.seq ?_
      refine WD.of ?_
      refine W.region rfl ?_
      refine s_val (x_mv (v := I (s3 : Int)) rfl) ?_
      refine t_alloc (cs := [I 0]) H Al3 rfl ?_
      intro b_4 w36z H
      refine t_st (k := 0) (b := b_4) (off := 0) (cs := [I 0]) (vs := [I (s3 : Int)]) (cs' := [I (s3 : Int)]) (v := I (s3 : Int)) (L' := [cBlk b_4 [I (s3 : Int)] 3, cBlk b_3 [.pointer (some ⟨b_w_, 171 + Int.toNat from_ * 26, none⟩)] 168, cBlk b_2 [.pointer (some ⟨b_w_, 2 + Int.toNat from_ * 13, none⟩)] 167, cBlk b_1 [.pointer (some ⟨b_w_, 0, none⟩)] 111, cMk Ds27z, cBlk b_w_ (List.flatten [[I w__Net_Marks, v_w__Net_Lines], encF (α := Int) s4, encF (α := Leg) s5]) 120]) H rfl rfl rfl Sz3 rfl rfl rfl rfl rfl rfl ?_
      intro w37z H
      refine s_nil ?_
      refine WD.seq ?_
      refine WD.seq ?_
      refine WD.of ?_
      refine W.draw (fun W => St w W [cBlk b_4 [I (s3 : Int)] 3, cBlk b_3 [.pointer (some ⟨b_w_, 171 + Int.toNat from_ * 26, none⟩)] 168, cBlk b_2 [.pointer (some ⟨b_w_, 2 + Int.toNat from_ * 13, none⟩)] 167, cBlk b_1 [.pointer (some ⟨b_w_, 0, none⟩)] 111, cMk Ds27z, cBlk b_w_ (List.flatten [[I w__Net_Marks, v_w__Net_Lines], encF (α := Int) s4, encF (α := Leg) s5]) 120] R) [(0, true), (1, true), (2, true), (3, true), (4, true), (5, true)] mixed (by decide +kernel) rfl ?_
      intro w38z hx_
      replace H : St w w38z [cBlk b_4 [I (s3 : Int)] 3, cBlk b_3 [.pointer (some ⟨b_w_, 171 + Int.toNat from_ * 26, none⟩)] 168, cBlk b_2 [.pointer (some ⟨b_w_, 2 + Int.toNat from_ * 13, none⟩)] 167, cBlk b_1 [.pointer (some ⟨b_w_, 0, none⟩)] 111, cMk Ds27z, cBlk b_w_ (List.flatten [[I w__Net_Marks, v_w__Net_Lines], encF (α := Int) s4, encF (α := Leg) s5]) 120] R := H.ext hx_
      clear hx_
      refine ⟨(H.pick [0, 1, 2, 3, 4, 5] (by decide) rfl), ?_⟩
      refine d_q rfl (fun w' H => x_ld (p := .pointer (some ⟨b_2, 0, none⟩)) (v := .pointer (some ⟨b_w_, 2 + Int.toNat from_ * 13, none⟩)) rfl (ldb_sc Sc167 (H.blk (k := 2) rfl) rfl)) ?_
      refine d_q rfl (fun w' H => x_ld (p := .pointer (some ⟨b_4, 0, none⟩)) (v := I (s3 : Int)) rfl (ldb_sc Sc3 (H.blk (k := 0) rfl) rfl)) ?_
      refine d_q rfl (fun w' H => x_nc (a := ⟨b_w_, 2 + Int.toNat from_ * 13, none⟩) rfl) ?_
      obtain ⟨sd39z, hM⟩ := M.e_grd hM
      simp only [Bool.and_eq_true, decide_eq_true_eq] at sd39z
      refine d_q rfl (fun w' H => x_ix (a := .pointer (some ⟨b_w_, 2 + Int.toNat from_ * 13, none⟩)) (b := I (s3 : Int)) (v := .pointer (some ⟨b_w_, (2 + Int.toNat from_ * 13) + Int.toNat (s3 : Int) * 1, none⟩)) rfl rfl (run_indexS Try.underlying114 Sz3 (by omega) (by omega))) ?_
      refine d_q rfl (fun w' H => x_ld (p := .pointer (some ⟨b_w_, (2 + Int.toNat from_ * 13) + Int.toNat (s3 : Int) * 1, none⟩)) (v := I (s4.getD ((Int.toNat from_) * 13 + s3) 0)) rfl (ldS (α := Int) (k := 1) (off := 2) (i := (Int.toNat from_) * 13 + s3) (f := 0) (sz := 1) 0 Sc3 (H.blk (k := 5) rfl) rfl (sgo1 rfl) rfl (by decide) (by have hl_ := hl_s4; omega) (by omega) rfl)) ?_
      refine d_q rfl (fun w' H => x_cmp (kd := .i64) (a := s4.getD ((Int.toNat from_) * 13 + s3) 0) (b := 1099511627776) (r := (s4.getD ((Int.toNat from_) * 13 + s3) 0) == 1099511627776) rfl rfl rfl) ?_
      refine d_nil ?_
      refine WD.cond ((s4.getD ((Int.toNat from_) * 13 + s3) 0) == 1099511627776) rfl (fun c40z => ?_) (fun c40z => ?_)
      ·replace hM := M.e_t hM c40z
       simp only [decide_eq_true_eq, decide_eq_false_iff_not, beq_iff_eq, bne_iff_ne, beq_eq_false_iff_ne, bne_eq_false_iff_eq, ne_eq, Decidable.not_not] at c40z
       refine WD.of ?_
       refine W.exit ?_
       refine WD.of ?_
       refine W.region rfl ?_
       obtain ⟨sd41z, hM⟩ := M.e_grd hM
       simp only [Bool.and_eq_true, decide_eq_true_eq] at sd41z
       refine s_val (x_ari (a := (s3 : Int)) (b := 1) (r := (s3 : Int) + 1) rfl rfl rfl (by omega)) ?_
       refine s_val (x_mv (v := I ((s3 : Int) + 1)) rfl) ?_
       refine s_nil ?_
       exact ⟨m31z, lt32z, s3 + 1, s4, s5, _, upds_of _ _ ⟨rfl, rfl, rfl, rfl, rfl, rfl, rfl, trivial⟩, M.e_inl hM hN34z, (H.pick [1, 2, 3, 4, 5] (by decide) rfl), hl_s4, hl_s5⟩
      ·replace hM := M.e_f hM c40z
       simp only [decide_eq_true_eq, decide_eq_false_iff_not, beq_iff_eq, bne_iff_ne, beq_eq_false_iff_ne, bne_eq_false_iff_eq, ne_eq, Decidable.not_not] at c40z
       refine WD.of ?_
       refine W.skip ?_
       refine WD.seq ?_
       refine WD.of ?_
       refine W.region rfl ?_
       refine s_val (x_ld (p := .pointer (some ⟨b_1, 0, none⟩)) (v := .pointer (some ⟨b_w_, 0, none⟩)) rfl (ldb_sc Sc111 (H.blk (k := 3) rfl) rfl)) ?_
       refine s_val (x_ld (p := .pointer (some ⟨b_4, 0, none⟩)) (v := I (s3 : Int)) rfl (ldb_sc Sc3 (H.blk (k := 0) rfl) rfl)) ?_
       obtain ⟨r43z, hx42z, hM⟩ := M.e_bind hM
       refine s_call cf89 [.pointer (some ⟨b_w_, 0, none⟩), I (s3 : Int)] rfl (level_survey_legs_ok w__Net_Marks w__Net_Lines (s3 : Int) (hC_w__Net_Lines.app _) hs_w__Net_Lines (Fld.here (k := 5) rfl rfl) hx42z _ (St.give (T := [cBlk b_4 [I (s3 : Int)] 3, cBlk b_3 [.pointer (some ⟨b_w_, 171 + Int.toNat from_ * 26, none⟩)] 168, cBlk b_2 [.pointer (some ⟨b_w_, 2 + Int.toNat from_ * 13, none⟩)] 167, cBlk b_1 [.pointer (some ⟨b_w_, 0, none⟩)] 111, cMk Ds27z, cBlk b_w_ (List.flatten [[I w__Net_Marks, v_w__Net_Lines], encF (α := Int) s4, encF (α := Leg) s5]) 120]) H rfl)) ?_
       rintro vq w44z ⟨r10, nb0_5, nb1_6, hr45z, hvq, H2_⟩
       subst hr45z
       subst vq
       try dsimp only at hM
       replace H : St w w44z [cBlk nb0_5 [.pointer (some ⟨b_w_, 0, none⟩)] 111, cBlk nb1_6 [I r10] 3, cBlk b_4 [I (s3 : Int)] 3, cBlk b_3 [.pointer (some ⟨b_w_, 171 + Int.toNat from_ * 26, none⟩)] 168, cBlk b_2 [.pointer (some ⟨b_w_, 2 + Int.toNat from_ * 13, none⟩)] 167, cBlk b_1 [.pointer (some ⟨b_w_, 0, none⟩)] 111, cMk Ds27z, cBlk b_w_ (List.flatten [[I w__Net_Marks, v_w__Net_Lines], encF (α := Int) s4, encF (α := Leg) s5]) 120] R := H.back H2_ rfl
       clear H2_
       refine s_nil ?_
       refine WD.block ?_
       obtain ⟨t46z, hx47z, hM⟩ := M.e_bind hM
       refine WD.range (L := [cBlk b_w_ (List.flatten [[I w__Net_Marks, v_w__Net_Lines], encF (α := Int) s4, encF (α := Leg) s5]) 120, cBlk nb0_5 [.pointer (some ⟨b_w_, 0, none⟩)] 111, cBlk nb1_6 [I r10] 3, cBlk b_4 [I (s3 : Int)] 3, cBlk b_3 [.pointer (some ⟨b_w_, 171 + Int.toNat from_ * 26, none⟩)] 168, cBlk b_2 [.pointer (some ⟨b_w_, 2 + Int.toNat from_ * 13, none⟩)] 167, cBlk b_1 [.pointer (some ⟨b_w_, 0, none⟩)] 111]) [.pointer (some ⟨nb0_5, 0, none⟩), .pointer (some ⟨nb1_6, 0, none⟩)] (H.pick [6, 7, 0, 1, 2, 3, 4, 5] (by decide) rfl) rfl cf101 ?_
       intro l48z D49z r50z w51z hr52z H
       have hYC : YieldC Try.prog ([cMk (D49z :: Ds27z), cBlk nb0_5 [.pointer (some ⟨b_w_, 0, none⟩)] 111, cBlk nb1_6 [I r10] 3, cBlk b_4 [I (s3 : Int)] 3, cBlk b_3 [.pointer (some ⟨b_w_, 171 + Int.toNat from_ * 26, none⟩)] 168, cBlk b_2 [.pointer (some ⟨b_w_, 2 + Int.toNat from_ * 13, none⟩)] 167, cBlk b_1 [.pointer (some ⟨b_w_, 0, none⟩)] 111] ++ R) arLeg (yJ l48z r50z (fun (s, s2) Ls_ => Ls_ = [cBlk b_w_ (List.flatten [[I w__Net_Marks, v_w__Net_Lines], encF (α := Int) s, encF (α := Leg) s2]) 120] /\ s.length = 169 /\ s2.length = 169) (fun (_ : Unit) _ => False) (fun _ => .ret)) (.func (.yield l48z) #[] #[]) (M.yl (m_level_survey_fill_b4 w__Net_Marks w__Net_Lines from_ s3)) := by
        refine YieldC.mk2 hr52z (fun (s, s2) Ls_ => Ls_ = [cBlk b_w_ (List.flatten [[I w__Net_Marks, v_w__Net_Lines], encF (α := Int) s, encF (α := Leg) s2]) 120] /\ s.length = 169 /\ s2.length = 169) (fun (_ : Unit) _ => False) (fun _ => .ret) (m_level_survey_fill_b4 w__Net_Marks w__Net_Lines from_ s3) (by rintro ⟨s, s2⟩ _ h_; obtain ⟨rfl, _, _⟩ := h_; rfl) (fun _ _ h_ => h_.elim) rfl (arLeg_len rfl) ?_
        intro C_ vs_ x hA_
        obtain rfl := hA_
        intro w R hR_ Ls_ s_ r hY_ hM H
        obtain ⟨s, s2⟩ := s_
        obtain ⟨rfl, hl_s, hl_s2⟩ := hY_
        replace H : St w w [cBlk b_w_ (List.flatten [[I w__Net_Marks, v_w__Net_Lines], encF (α := Int) s, encF (α := Leg) s2]) 120, cMk (D49z :: Ds27z), cBlk nb0_5 [.pointer (some ⟨b_w_, 0, none⟩)] 111, cBlk nb1_6 [I r10] 3, cBlk b_4 [I (s3 : Int)] 3, cBlk b_3 [.pointer (some ⟨b_w_, 171 + Int.toNat from_ * 26, none⟩)] 168, cBlk b_2 [.pointer (some ⟨b_w_, 2 + Int.toNat from_ * 13, none⟩)] 167, cBlk b_1 [.pointer (some ⟨b_w_, 0, none⟩)] 111] R := H
        refine W.region rfl ?_
        refine t_alloc (cs := [I 0, B false]) H Al91 rfl ?_
        intro b_7 w53z H
        refine t_st (k := 0) (b := b_7) (off := 0) (cs := [I 0, B false]) (vs := [I x.line, B x.back]) (cs' := [I x.line, B x.back]) (v := .agg #[I x.line, B x.back]) (L' := [cBlk b_7 [I x.line, B x.back] 91, cBlk b_w_ (List.flatten [[I w__Net_Marks, v_w__Net_Lines], encF (α := Int) s, encF (α := Leg) s2]) 120, cMk (D49z :: Ds27z), cBlk nb0_5 [.pointer (some ⟨b_w_, 0, none⟩)] 111, cBlk nb1_6 [I r10] 3, cBlk b_4 [I (s3 : Int)] 3, cBlk b_3 [.pointer (some ⟨b_w_, 171 + Int.toNat from_ * 26, none⟩)] 168, cBlk b_2 [.pointer (some ⟨b_w_, 2 + Int.toNat from_ * 13, none⟩)] 167, cBlk b_1 [.pointer (some ⟨b_w_, 0, none⟩)] 111]) H rfl rfl rfl Sz91 rfl rfl rfl rfl rfl rfl ?_
        intro w54z H
        refine s_nil ?_
        refine ⟨rfl, [cBlk b_7 [I x.line, B x.back] 91], H.pick [0, 1, 2, 3, 4, 5, 6, 7, 8] (by decide) rfl, ?_⟩
        clear H hR_
        intro w R hR_ H
        replace hC_w__Net_Lines := hC_w__Net_Lines.sub hR_
        replace hM : (m_level_survey_fill_b4 w__Net_Marks w__Net_Lines from_ s3 (s, s2) x).Ends r := hM
        simp only [m_level_survey_fill_b4] at hM
        replace H : St w w [cBlk b_7 [I x.line, B x.back] 91, cBlk b_w_ (List.flatten [[I w__Net_Marks, v_w__Net_Lines], encF (α := Int) s, encF (α := Leg) s2]) 120, cMk (D49z :: Ds27z), cBlk nb0_5 [.pointer (some ⟨b_w_, 0, none⟩)] 111, cBlk nb1_6 [I r10] 3, cBlk b_4 [I (s3 : Int)] 3, cBlk b_3 [.pointer (some ⟨b_w_, 171 + Int.toNat from_ * 26, none⟩)] 168, cBlk b_2 [.pointer (some ⟨b_w_, 2 + Int.toNat from_ * 13, none⟩)] 167, cBlk b_1 [.pointer (some ⟨b_w_, 0, none⟩)] 111] R := H
        refine W.block ?_
        refine W.seq ?_
        refine W.draw (fun W => St w W [cBlk b_7 [I x.line, B x.back] 91, cBlk b_w_ (List.flatten [[I w__Net_Marks, v_w__Net_Lines], encF (α := Int) s, encF (α := Leg) s2]) 120, cMk (D49z :: Ds27z), cBlk nb0_5 [.pointer (some ⟨b_w_, 0, none⟩)] 111, cBlk nb1_6 [I r10] 3, cBlk b_4 [I (s3 : Int)] 3, cBlk b_3 [.pointer (some ⟨b_w_, 171 + Int.toNat from_ * 26, none⟩)] 168, cBlk b_2 [.pointer (some ⟨b_w_, 2 + Int.toNat from_ * 13, none⟩)] 167, cBlk b_1 [.pointer (some ⟨b_w_, 0, none⟩)] 111] R) [(0, true), (1, true), (2, true), (3, true), (4, true), (5, true), (6, true), (7, false), (8, false), (9, false), (10, true)] mixed (by decide +kernel) rfl ?_
        intro w55z hx_
        replace H : St w w55z [cBlk b_7 [I x.line, B x.back] 91, cBlk b_w_ (List.flatten [[I w__Net_Marks, v_w__Net_Lines], encF (α := Int) s, encF (α := Leg) s2]) 120, cMk (D49z :: Ds27z), cBlk nb0_5 [.pointer (some ⟨b_w_, 0, none⟩)] 111, cBlk nb1_6 [I r10] 3, cBlk b_4 [I (s3 : Int)] 3, cBlk b_3 [.pointer (some ⟨b_w_, 171 + Int.toNat from_ * 26, none⟩)] 168, cBlk b_2 [.pointer (some ⟨b_w_, 2 + Int.toNat from_ * 13, none⟩)] 167, cBlk b_1 [.pointer (some ⟨b_w_, 0, none⟩)] 111] R := H.ext hx_
        clear hx_
        refine ⟨(H.pick [0, 1, 2, 3, 4, 5, 6, 7, 8] (by decide) rfl), ?_⟩
        refine d_q rfl (fun w' H => x_ld (p := .pointer (some ⟨b_2, 0, none⟩)) (v := .pointer (some ⟨b_w_, 2 + Int.toNat from_ * 13, none⟩)) rfl (ldb_sc Sc167 (H.blk (k := 7) rfl) rfl)) ?_
        refine d_q rfl (fun w' H => x_ld (p := .pointer (some ⟨b_4, 0, none⟩)) (v := I (s3 : Int)) rfl (ldb_sc Sc3 (H.blk (k := 5) rfl) rfl)) ?_
        refine d_q rfl (fun w' H => x_nc (a := ⟨b_w_, 2 + Int.toNat from_ * 13, none⟩) rfl) ?_
        refine d_q rfl (fun w' H => x_ix (a := .pointer (some ⟨b_w_, 2 + Int.toNat from_ * 13, none⟩)) (b := I (s3 : Int)) (v := .pointer (some ⟨b_w_, (2 + Int.toNat from_ * 13) + Int.toNat (s3 : Int) * 1, none⟩)) rfl rfl (run_indexS Try.underlying114 Sz3 (by omega) (by omega))) ?_
        refine d_q rfl (fun w' H => x_ld (p := .pointer (some ⟨b_w_, (2 + Int.toNat from_ * 13) + Int.toNat (s3 : Int) * 1, none⟩)) (v := I (s.getD ((Int.toNat from_) * 13 + s3) 0)) rfl (ldS (α := Int) (k := 1) (off := 2) (i := (Int.toNat from_) * 13 + s3) (f := 0) (sz := 1) 0 Sc3 (H.blk (k := 1) rfl) rfl (sgo1 rfl) rfl (by decide) (by have hl_ := hl_s; omega) (by omega) rfl)) ?_
        refine d_q rfl (fun w' H => x_ld (p := .pointer (some ⟨b_1, 0, none⟩)) (v := .pointer (some ⟨b_w_, 0, none⟩)) rfl (ldb_sc Sc111 (H.blk (k := 8) rfl) rfl)) ?_
        refine d_q rfl (fun w' H => x_ld (p := .pointer (some ⟨b_7, 0, none⟩)) (v := .agg #[I x.line, B x.back]) rfl (ldb_ag (ds := [I x.line, B x.back]) Ag91 Sz91 (H.blk (k := 0) rfl) rfl rfl)) ?_
        refine d_l rfl ?_
        obtain ⟨r57z, hx56z, hM⟩ := M.e_bind hM
        refine s_call cf85 [.pointer (some ⟨b_w_, 0, none⟩), .agg #[I x.line, B x.back]] rfl (level_survey_rise_ok w__Net_Marks w__Net_Lines x (hC_w__Net_Lines.app _) hs_w__Net_Lines (Fld.here (k := 1) rfl rfl) hx56z _ (St.give (T := [cBlk b_7 [I x.line, B x.back] 91, cBlk b_w_ (List.flatten [[I w__Net_Marks, v_w__Net_Lines], encF (α := Int) s, encF (α := Leg) s2]) 120, cMk (D49z :: Ds27z), cBlk nb0_5 [.pointer (some ⟨b_w_, 0, none⟩)] 111, cBlk nb1_6 [I r10] 3, cBlk b_4 [I (s3 : Int)] 3, cBlk b_3 [.pointer (some ⟨b_w_, 171 + Int.toNat from_ * 26, none⟩)] 168, cBlk b_2 [.pointer (some ⟨b_w_, 2 + Int.toNat from_ * 13, none⟩)] 167, cBlk b_1 [.pointer (some ⟨b_w_, 0, none⟩)] 111]) H rfl)) ?_
        rintro vq w58z ⟨r2, hr59z, hvq, H2_⟩
        subst hr59z
        subst vq
        try dsimp only at hM
        replace H : St w w58z [cBlk b_7 [I x.line, B x.back] 91, cBlk b_w_ (List.flatten [[I w__Net_Marks, v_w__Net_Lines], encF (α := Int) s, encF (α := Leg) s2]) 120, cMk (D49z :: Ds27z), cBlk nb0_5 [.pointer (some ⟨b_w_, 0, none⟩)] 111, cBlk nb1_6 [I r10] 3, cBlk b_4 [I (s3 : Int)] 3, cBlk b_3 [.pointer (some ⟨b_w_, 171 + Int.toNat from_ * 26, none⟩)] 168, cBlk b_2 [.pointer (some ⟨b_w_, 2 + Int.toNat from_ * 13, none⟩)] 167, cBlk b_1 [.pointer (some ⟨b_w_, 0, none⟩)] 111] R := H.back H2_ rfl
        clear H2_
        refine s_nil ⟨(H.pick [0, 1, 2, 3, 4, 5, 6, 7, 8] (by decide) rfl), ?_⟩
        refine d_l rfl ?_
        refine t_bs (α := Int) T26 [I (s.getD ((Int.toNat from_) * 13 + s3) 0), I r2] [(s.getD ((Int.toNat from_) * 13 + s3) 0 : Int), (r2 : Int)] H rfl (.cons rfl (Flat.rep_enc _ (s.getD ((Int.toNat from_) * 13 + s3) 0 : Int)) <| .cons rfl (Flat.rep_enc _ (r2 : Int)) <| .nil) rfl rfl rfl ?_
        intro v60z w61z H
        have hvc_q62z := Sl.cells (ownSl (H.get (k := 0) rfl))
        have hvo_q62z := Sl.oc (ownSl (H.get (k := 0) rfl))
        refine s_nil ⟨(H.pick [1, 2, 3, 4, 5, 6, 7, 8, 9] (by decide) rfl), ?_⟩
        refine d_l rfl ?_
        obtain ⟨r64z, hx63z, hM⟩ := M.e_bind hM
        refine s_call cf105 [v60z] rfl (level_sum_ok ([(s.getD ((Int.toNat from_) * 13 + s3) 0 : Int), (r2 : Int)]) (Reads.of (k := 0) rfl ownLe) (ownSl (H.get (k := 0) rfl)) hx63z _ (St.give (T := [cOwn (α := Int) 3 v60z ([(s.getD ((Int.toNat from_) * 13 + s3) 0 : Int), (r2 : Int)]), cBlk b_7 [I x.line, B x.back] 91, cBlk b_w_ (List.flatten [[I w__Net_Marks, v_w__Net_Lines], encF (α := Int) s, encF (α := Leg) s2]) 120, cMk (D49z :: Ds27z), cBlk nb0_5 [.pointer (some ⟨b_w_, 0, none⟩)] 111, cBlk nb1_6 [I r10] 3, cBlk b_4 [I (s3 : Int)] 3, cBlk b_3 [.pointer (some ⟨b_w_, 171 + Int.toNat from_ * 26, none⟩)] 168, cBlk b_2 [.pointer (some ⟨b_w_, 2 + Int.toNat from_ * 13, none⟩)] 167, cBlk b_1 [.pointer (some ⟨b_w_, 0, none⟩)] 111]) H rfl)) ?_
        rintro vq w65z ⟨r3, hr66z, hvq, H2_⟩
        subst hr66z
        subst vq
        try dsimp only at hM
        replace H : St w w65z [cOwn (α := Int) 3 v60z ([(s.getD ((Int.toNat from_) * 13 + s3) 0 : Int), (r2 : Int)]), cBlk b_7 [I x.line, B x.back] 91, cBlk b_w_ (List.flatten [[I w__Net_Marks, v_w__Net_Lines], encF (α := Int) s, encF (α := Leg) s2]) 120, cMk (D49z :: Ds27z), cBlk nb0_5 [.pointer (some ⟨b_w_, 0, none⟩)] 111, cBlk nb1_6 [I r10] 3, cBlk b_4 [I (s3 : Int)] 3, cBlk b_3 [.pointer (some ⟨b_w_, 171 + Int.toNat from_ * 26, none⟩)] 168, cBlk b_2 [.pointer (some ⟨b_w_, 2 + Int.toNat from_ * 13, none⟩)] 167, cBlk b_1 [.pointer (some ⟨b_w_, 0, none⟩)] 111] R := H.back H2_ rfl
        clear H2_
        refine s_nil ⟨(H.pick [1, 2, 3, 4, 5, 6, 7, 8, 9] (by decide) rfl), ?_⟩
        refine d_q rfl (fun w' H => x_as (v := I r3) rfl) ?_
        refine d_nil ?_
        refine W.seq ?_
        refine W.draw (fun W => St w W [cOwn (α := Int) 3 v60z ([(s.getD ((Int.toNat from_) * 13 + s3) 0 : Int), (r2 : Int)]), cBlk b_7 [I x.line, B x.back] 91, cBlk b_w_ (List.flatten [[I w__Net_Marks, v_w__Net_Lines], encF (α := Int) s, encF (α := Leg) s2]) 120, cMk (D49z :: Ds27z), cBlk nb0_5 [.pointer (some ⟨b_w_, 0, none⟩)] 111, cBlk nb1_6 [I r10] 3, cBlk b_4 [I (s3 : Int)] 3, cBlk b_3 [.pointer (some ⟨b_w_, 171 + Int.toNat from_ * 26, none⟩)] 168, cBlk b_2 [.pointer (some ⟨b_w_, 2 + Int.toNat from_ * 13, none⟩)] 167, cBlk b_1 [.pointer (some ⟨b_w_, 0, none⟩)] 111] R) [(0, true), (1, true), (2, true), (3, true), (5, true), (4, false), (6, true), (7, true), (8, true)] mixed (by decide +kernel) rfl ?_
        intro w67z hx_
        replace H : St w w67z [cOwn (α := Int) 3 v60z ([(s.getD ((Int.toNat from_) * 13 + s3) 0 : Int), (r2 : Int)]), cBlk b_7 [I x.line, B x.back] 91, cBlk b_w_ (List.flatten [[I w__Net_Marks, v_w__Net_Lines], encF (α := Int) s, encF (α := Leg) s2]) 120, cMk (D49z :: Ds27z), cBlk nb0_5 [.pointer (some ⟨b_w_, 0, none⟩)] 111, cBlk nb1_6 [I r10] 3, cBlk b_4 [I (s3 : Int)] 3, cBlk b_3 [.pointer (some ⟨b_w_, 171 + Int.toNat from_ * 26, none⟩)] 168, cBlk b_2 [.pointer (some ⟨b_w_, 2 + Int.toNat from_ * 13, none⟩)] 167, cBlk b_1 [.pointer (some ⟨b_w_, 0, none⟩)] 111] R := H.ext hx_
        clear hx_
        refine ⟨(H.pick [0, 1, 2, 3, 4, 5, 6, 7, 8, 9] (by decide) rfl), ?_⟩
        refine d_q rfl (fun w' H => x_mv (v := I r3) rfl) ?_
        refine d_q rfl (fun w' H => x_ld (p := .pointer (some ⟨b_2, 0, none⟩)) (v := .pointer (some ⟨b_w_, 2 + Int.toNat from_ * 13, none⟩)) rfl (ldb_sc Sc167 (H.blk (k := 8) rfl) rfl)) ?_
        refine d_q rfl (fun w' H => x_ld (p := .pointer (some ⟨b_1, 0, none⟩)) (v := .pointer (some ⟨b_w_, 0, none⟩)) rfl (ldb_sc Sc111 (H.blk (k := 9) rfl) rfl)) ?_
        refine d_q rfl (fun w' H => x_ld (p := .pointer (some ⟨b_7, 0, none⟩)) (v := .agg #[I x.line, B x.back]) rfl (ldb_ag (ds := [I x.line, B x.back]) Ag91 Sz91 (H.blk (k := 1) rfl) rfl rfl)) ?_
        refine d_q rfl (fun w' H => x_nc (a := ⟨b_w_, 2 + Int.toNat from_ * 13, none⟩) rfl) ?_
        refine d_l rfl ?_
        obtain ⟨r69z, hx68z, hM⟩ := M.e_bind hM
        refine s_call cf84 [.pointer (some ⟨b_w_, 0, none⟩), .agg #[I x.line, B x.back]] rfl (level_survey_goal_ok w__Net_Marks w__Net_Lines x (hC_w__Net_Lines.app _) hs_w__Net_Lines (Fld.here (k := 2) rfl rfl) hx68z _ (St.give (T := [cOwn (α := Int) 3 v60z ([(s.getD ((Int.toNat from_) * 13 + s3) 0 : Int), (r2 : Int)]), cBlk b_7 [I x.line, B x.back] 91, cBlk b_w_ (List.flatten [[I w__Net_Marks, v_w__Net_Lines], encF (α := Int) s, encF (α := Leg) s2]) 120, cMk (D49z :: Ds27z), cBlk nb0_5 [.pointer (some ⟨b_w_, 0, none⟩)] 111, cBlk nb1_6 [I r10] 3, cBlk b_4 [I (s3 : Int)] 3, cBlk b_3 [.pointer (some ⟨b_w_, 171 + Int.toNat from_ * 26, none⟩)] 168, cBlk b_2 [.pointer (some ⟨b_w_, 2 + Int.toNat from_ * 13, none⟩)] 167, cBlk b_1 [.pointer (some ⟨b_w_, 0, none⟩)] 111]) H rfl)) ?_
        rintro vq w70z ⟨r4, hr71z, hvq, H2_⟩
        subst hr71z
        subst vq
        try dsimp only at hM
        replace H : St w w70z [cOwn (α := Int) 3 v60z ([(s.getD ((Int.toNat from_) * 13 + s3) 0 : Int), (r2 : Int)]), cBlk b_7 [I x.line, B x.back] 91, cBlk b_w_ (List.flatten [[I w__Net_Marks, v_w__Net_Lines], encF (α := Int) s, encF (α := Leg) s2]) 120, cMk (D49z :: Ds27z), cBlk nb0_5 [.pointer (some ⟨b_w_, 0, none⟩)] 111, cBlk nb1_6 [I r10] 3, cBlk b_4 [I (s3 : Int)] 3, cBlk b_3 [.pointer (some ⟨b_w_, 171 + Int.toNat from_ * 26, none⟩)] 168, cBlk b_2 [.pointer (some ⟨b_w_, 2 + Int.toNat from_ * 13, none⟩)] 167, cBlk b_1 [.pointer (some ⟨b_w_, 0, none⟩)] 111] R := H.back H2_ rfl
        clear H2_
        refine s_nil ⟨(H.pick [0, 1, 2, 3, 4, 5, 6, 7, 8, 9] (by decide) rfl), ?_⟩
        obtain ⟨sd72z, hM⟩ := M.e_grd hM
        simp only [Bool.and_eq_true, decide_eq_true_eq] at sd72z
        refine d_q rfl (fun w' H => x_ix (a := .pointer (some ⟨b_w_, 2 + Int.toNat from_ * 13, none⟩)) (b := I r4) (v := .pointer (some ⟨b_w_, (2 + Int.toNat from_ * 13) + Int.toNat r4 * 1, none⟩)) rfl rfl (run_indexS Try.underlying114 Sz3 (by omega) (by omega))) ?_
        refine d_q rfl (fun w' H => x_ld (p := .pointer (some ⟨b_w_, (2 + Int.toNat from_ * 13) + Int.toNat r4 * 1, none⟩)) (v := I (s.getD ((Int.toNat from_) * 13 + (Int.toNat r4)) 0)) rfl (ldS (α := Int) (k := 1) (off := 2) (i := (Int.toNat from_) * 13 + (Int.toNat r4)) (f := 0) (sz := 1) 0 Sc3 (H.blk (k := 2) rfl) rfl (sgo1 rfl) rfl (by decide) (by have hl_ := hl_s; omega) (by omega) rfl)) ?_
        refine d_q rfl (fun w' H => x_cmp (kd := .i64) (a := r3) (b := s.getD ((Int.toNat from_) * 13 + (Int.toNat r4)) 0) (r := decide (r3 < (s.getD ((Int.toNat from_) * 13 + (Int.toNat r4)) 0))) rfl rfl rfl) ?_
        refine d_nil ?_
        refine W.cond (decide (r3 < (s.getD ((Int.toNat from_) * 13 + (Int.toNat r4)) 0))) rfl (fun c73z => ?_) (fun c73z => ?_)
        ·replace hM := M.e_t hM c73z
         simp only [decide_eq_true_eq, decide_eq_false_iff_not, beq_iff_eq, bne_iff_ne, beq_eq_false_iff_ne, bne_eq_false_iff_eq, ne_eq, Decidable.not_not] at c73z
         refine W.draw (fun W => St w W [cOwn (α := Int) 3 v60z ([(s.getD ((Int.toNat from_) * 13 + s3) 0 : Int), (r2 : Int)]), cBlk b_7 [I x.line, B x.back] 91, cMk (D49z :: Ds27z), cBlk nb0_5 [.pointer (some ⟨b_w_, 0, none⟩)] 111, cBlk nb1_6 [I r10] 3, cBlk b_4 [I (s3 : Int)] 3, cBlk b_3 [.pointer (some ⟨b_w_, 171 + Int.toNat from_ * 26, none⟩)] 168, cBlk b_2 [.pointer (some ⟨b_w_, 2 + Int.toNat from_ * 13, none⟩)] 167, cBlk b_1 [.pointer (some ⟨b_w_, 0, none⟩)] 111] R) [(0, true), (1, true), (2, true), (4, true), (5, true), (6, true), (8, true), (9, true), (10, true), (13, true), (3, false), (7, false), (11, true), (12, false), (14, true), (15, false)] mixed (by decide +kernel) rfl ?_
         intro w74z hx_
         replace H : St w w74z [cOwn (α := Int) 3 v60z ([(s.getD ((Int.toNat from_) * 13 + s3) 0 : Int), (r2 : Int)]), cBlk b_7 [I x.line, B x.back] 91, cBlk b_w_ (List.flatten [[I w__Net_Marks, v_w__Net_Lines], encF (α := Int) s, encF (α := Leg) s2]) 120, cMk (D49z :: Ds27z), cBlk nb0_5 [.pointer (some ⟨b_w_, 0, none⟩)] 111, cBlk nb1_6 [I r10] 3, cBlk b_4 [I (s3 : Int)] 3, cBlk b_3 [.pointer (some ⟨b_w_, 171 + Int.toNat from_ * 26, none⟩)] 168, cBlk b_2 [.pointer (some ⟨b_w_, 2 + Int.toNat from_ * 13, none⟩)] 167, cBlk b_1 [.pointer (some ⟨b_w_, 0, none⟩)] 111] R := H.ext hx_
         clear hx_
         refine ⟨(H.pick [0, 1, 3, 4, 5, 6, 7, 8, 9] (by decide) rfl), ?_⟩
         refine d_q rfl (fun w' H => x_ld (p := .pointer (some ⟨b_2, 0, none⟩)) (v := .pointer (some ⟨b_w_, 2 + Int.toNat from_ * 13, none⟩)) rfl (ldb_sc Sc167 (H.blk (k := 7) rfl) rfl)) ?_
         refine d_q rfl (fun w' H => x_ld (p := .pointer (some ⟨b_1, 0, none⟩)) (v := .pointer (some ⟨b_w_, 0, none⟩)) rfl (ldb_sc Sc111 (H.blk (k := 8) rfl) rfl)) ?_
         refine d_q rfl (fun w' H => x_ld (p := .pointer (some ⟨b_7, 0, none⟩)) (v := .agg #[I x.line, B x.back]) rfl (ldb_ag (ds := [I x.line, B x.back]) Ag91 Sz91 (H.blk (k := 1) rfl) rfl rfl)) ?_
         refine d_q rfl (fun w' H => x_ld (p := .pointer (some ⟨b_3, 0, none⟩)) (v := .pointer (some ⟨b_w_, 171 + Int.toNat from_ * 26, none⟩)) rfl (ldb_sc Sc168 (H.blk (k := 6) rfl) rfl)) ?_
         refine d_q rfl (fun w' H => x_ld (p := .pointer (some ⟨b_1, 0, none⟩)) (v := .pointer (some ⟨b_w_, 0, none⟩)) rfl (ldb_sc Sc111 (H.blk (k := 8) rfl) rfl)) ?_
         refine d_q rfl (fun w' H => x_ld (p := .pointer (some ⟨b_7, 0, none⟩)) (v := .agg #[I x.line, B x.back]) rfl (ldb_ag (ds := [I x.line, B x.back]) Ag91 Sz91 (H.blk (k := 1) rfl) rfl rfl)) ?_
         refine d_q rfl (fun w' H => x_mv (v := I r3) rfl) ?_
         refine d_q rfl (fun w' H => x_ld (p := .pointer (some ⟨b_7, 0, none⟩)) (v := .agg #[I x.line, B x.back]) rfl (ldb_ag (ds := [I x.line, B x.back]) Ag91 Sz91 (H.blk (k := 1) rfl) rfl rfl)) ?_
         refine d_q rfl (fun w' H => x_nc (a := ⟨b_w_, 2 + Int.toNat from_ * 13, none⟩) rfl) ?_
         refine d_q rfl (fun w' H => x_nc (a := ⟨b_w_, 171 + Int.toNat from_ * 26, none⟩) rfl) ?_
         refine d_l rfl ?_
         obtain ⟨r76z, hx75z, hM⟩ := M.e_bind hM
         refine s_call cf84 [.pointer (some ⟨b_w_, 0, none⟩), .agg #[I x.line, B x.back]] rfl (level_survey_goal_ok w__Net_Marks w__Net_Lines x (hC_w__Net_Lines.app _) hs_w__Net_Lines (Fld.here (k := 2) rfl rfl) hx75z _ (St.give (T := [cOwn (α := Int) 3 v60z ([(s.getD ((Int.toNat from_) * 13 + s3) 0 : Int), (r2 : Int)]), cBlk b_7 [I x.line, B x.back] 91, cBlk b_w_ (List.flatten [[I w__Net_Marks, v_w__Net_Lines], encF (α := Int) s, encF (α := Leg) s2]) 120, cMk (D49z :: Ds27z), cBlk nb0_5 [.pointer (some ⟨b_w_, 0, none⟩)] 111, cBlk nb1_6 [I r10] 3, cBlk b_4 [I (s3 : Int)] 3, cBlk b_3 [.pointer (some ⟨b_w_, 171 + Int.toNat from_ * 26, none⟩)] 168, cBlk b_2 [.pointer (some ⟨b_w_, 2 + Int.toNat from_ * 13, none⟩)] 167, cBlk b_1 [.pointer (some ⟨b_w_, 0, none⟩)] 111]) H rfl)) ?_
         rintro vq w77z ⟨r5, hr78z, hvq, H2_⟩
         subst hr78z
         subst vq
         try dsimp only at hM
         replace H : St w w77z [cOwn (α := Int) 3 v60z ([(s.getD ((Int.toNat from_) * 13 + s3) 0 : Int), (r2 : Int)]), cBlk b_7 [I x.line, B x.back] 91, cBlk b_w_ (List.flatten [[I w__Net_Marks, v_w__Net_Lines], encF (α := Int) s, encF (α := Leg) s2]) 120, cMk (D49z :: Ds27z), cBlk nb0_5 [.pointer (some ⟨b_w_, 0, none⟩)] 111, cBlk nb1_6 [I r10] 3, cBlk b_4 [I (s3 : Int)] 3, cBlk b_3 [.pointer (some ⟨b_w_, 171 + Int.toNat from_ * 26, none⟩)] 168, cBlk b_2 [.pointer (some ⟨b_w_, 2 + Int.toNat from_ * 13, none⟩)] 167, cBlk b_1 [.pointer (some ⟨b_w_, 0, none⟩)] 111] R := H.back H2_ rfl
         clear H2_
         refine s_nil ⟨(H.pick [0, 1, 3, 4, 5, 6, 7, 8, 9] (by decide) rfl), ?_⟩
         refine d_l rfl ?_
         obtain ⟨r80z, hx79z, hM⟩ := M.e_bind hM
         refine s_call cf84 [.pointer (some ⟨b_w_, 0, none⟩), .agg #[I x.line, B x.back]] rfl (level_survey_goal_ok w__Net_Marks w__Net_Lines x (hC_w__Net_Lines.app _) hs_w__Net_Lines (Fld.here (k := 2) rfl rfl) hx79z _ (St.give (T := [cOwn (α := Int) 3 v60z ([(s.getD ((Int.toNat from_) * 13 + s3) 0 : Int), (r2 : Int)]), cBlk b_7 [I x.line, B x.back] 91, cBlk b_w_ (List.flatten [[I w__Net_Marks, v_w__Net_Lines], encF (α := Int) s, encF (α := Leg) s2]) 120, cMk (D49z :: Ds27z), cBlk nb0_5 [.pointer (some ⟨b_w_, 0, none⟩)] 111, cBlk nb1_6 [I r10] 3, cBlk b_4 [I (s3 : Int)] 3, cBlk b_3 [.pointer (some ⟨b_w_, 171 + Int.toNat from_ * 26, none⟩)] 168, cBlk b_2 [.pointer (some ⟨b_w_, 2 + Int.toNat from_ * 13, none⟩)] 167, cBlk b_1 [.pointer (some ⟨b_w_, 0, none⟩)] 111]) H rfl)) ?_
         rintro vq w81z ⟨r6, hr82z, hvq, H2_⟩
         subst hr82z
         subst vq
         try dsimp only at hM
         replace H : St w w81z [cOwn (α := Int) 3 v60z ([(s.getD ((Int.toNat from_) * 13 + s3) 0 : Int), (r2 : Int)]), cBlk b_7 [I x.line, B x.back] 91, cBlk b_w_ (List.flatten [[I w__Net_Marks, v_w__Net_Lines], encF (α := Int) s, encF (α := Leg) s2]) 120, cMk (D49z :: Ds27z), cBlk nb0_5 [.pointer (some ⟨b_w_, 0, none⟩)] 111, cBlk nb1_6 [I r10] 3, cBlk b_4 [I (s3 : Int)] 3, cBlk b_3 [.pointer (some ⟨b_w_, 171 + Int.toNat from_ * 26, none⟩)] 168, cBlk b_2 [.pointer (some ⟨b_w_, 2 + Int.toNat from_ * 13, none⟩)] 167, cBlk b_1 [.pointer (some ⟨b_w_, 0, none⟩)] 111] R := H.back H2_ rfl
         clear H2_
         refine s_nil ⟨(H.pick [0, 1, 3, 4, 5, 6, 7, 8, 9] (by decide) rfl), ?_⟩
         obtain ⟨sd83z, hM⟩ := M.e_grd hM
         simp only [Bool.and_eq_true, decide_eq_true_eq] at sd83z
         refine d_q rfl (fun w' H => x_ix (a := .pointer (some ⟨b_w_, 2 + Int.toNat from_ * 13, none⟩)) (b := I r5) (v := .pointer (some ⟨b_w_, (2 + Int.toNat from_ * 13) + Int.toNat r5 * 1, none⟩)) rfl rfl (run_indexS Try.underlying114 Sz3 (by omega) (by omega))) ?_
         refine d_l rfl ?_
         refine t_stS (α := Int) (kc := 2) (b := b_w_) (k := 1) (off := 2) (i := (Int.toNat from_) * 13 + (Int.toNat r5)) (f := 0) (sz := 1) (segs := [[I w__Net_Marks, v_w__Net_Lines], encF (α := Int) s, encF (α := Leg) s2]) (segs' := [[I w__Net_Marks, v_w__Net_Lines], encF (α := Int) (s.set ((Int.toNat from_) * 13 + (Int.toNat r5)) r3), encF (α := Leg) s2]) (l := s) (l' := s.set ((Int.toNat from_) * 13 + (Int.toNat r5)) r3) (vs := [I r3]) (L' := [cOwn (α := Int) 3 v60z ([(s.getD ((Int.toNat from_) * 13 + s3) 0 : Int), (r2 : Int)]), cBlk b_7 [I x.line, B x.back] 91, cBlk b_w_ (List.flatten [[I w__Net_Marks, v_w__Net_Lines], encF (α := Int) (s.set ((Int.toNat from_) * 13 + (Int.toNat r5)) r3), encF (α := Leg) s2]) 120, cMk (D49z :: Ds27z), cBlk nb0_5 [.pointer (some ⟨b_w_, 0, none⟩)] 111, cBlk nb1_6 [I r10] 3, cBlk b_4 [I (s3 : Int)] 3, cBlk b_3 [.pointer (some ⟨b_w_, 171 + Int.toNat from_ * 26, none⟩)] 168, cBlk b_2 [.pointer (some ⟨b_w_, 2 + Int.toNat from_ * 13, none⟩)] 167, cBlk b_1 [.pointer (some ⟨b_w_, 0, none⟩)] 111]) H rfl rfl rfl Sz3 rfl rfl rfl rfl (sgo1 rfl) rfl rfl (by have hl_ := hl_s; omega) (by omega) 0 r3 rfl rfl rfl rfl ?_
         intro w84z H
         have hl85z : (s.set ((Int.toNat from_) * 13 + (Int.toNat r5)) r3).length = 169 := List.length_set.trans hl_s
         refine s_nil ⟨(H.pick [0, 1, 3, 4, 5, 6, 7, 8, 9] (by decide) rfl), ?_⟩
         obtain ⟨sd86z, hM⟩ := M.e_grd hM
         simp only [Bool.and_eq_true, decide_eq_true_eq] at sd86z
         refine d_q rfl (fun w' H => x_ix (a := .pointer (some ⟨b_w_, 171 + Int.toNat from_ * 26, none⟩)) (b := I r6) (v := .pointer (some ⟨b_w_, (171 + Int.toNat from_ * 26) + Int.toNat r6 * 2, none⟩)) rfl rfl (run_indexS Try.underlying117 Sz91 (by omega) (by omega))) ?_
         refine d_l rfl ?_
         refine t_stS (α := Leg) (kc := 2) (b := b_w_) (k := 2) (off := 171) (i := (Int.toNat from_) * 13 + (Int.toNat r6)) (f := 0) (sz := 2) (segs := [[I w__Net_Marks, v_w__Net_Lines], encF (α := Int) (s.set ((Int.toNat from_) * 13 + (Int.toNat r5)) r3), encF (α := Leg) s2]) (segs' := [[I w__Net_Marks, v_w__Net_Lines], encF (α := Int) (s.set ((Int.toNat from_) * 13 + (Int.toNat r5)) r3), encF (α := Leg) (s2.set ((Int.toNat from_) * 13 + (Int.toNat r6)) x)]) (l := s2) (l' := s2.set ((Int.toNat from_) * 13 + (Int.toNat r6)) x) (vs := [I x.line, B x.back]) (L' := [cOwn (α := Int) 3 v60z ([(s.getD ((Int.toNat from_) * 13 + s3) 0 : Int), (r2 : Int)]), cBlk b_7 [I x.line, B x.back] 91, cBlk b_w_ (List.flatten [[I w__Net_Marks, v_w__Net_Lines], encF (α := Int) (s.set ((Int.toNat from_) * 13 + (Int.toNat r5)) r3), encF (α := Leg) (s2.set ((Int.toNat from_) * 13 + (Int.toNat r6)) x)]) 120, cMk (D49z :: Ds27z), cBlk nb0_5 [.pointer (some ⟨b_w_, 0, none⟩)] 111, cBlk nb1_6 [I r10] 3, cBlk b_4 [I (s3 : Int)] 3, cBlk b_3 [.pointer (some ⟨b_w_, 171 + Int.toNat from_ * 26, none⟩)] 168, cBlk b_2 [.pointer (some ⟨b_w_, 2 + Int.toNat from_ * 13, none⟩)] 167, cBlk b_1 [.pointer (some ⟨b_w_, 0, none⟩)] 111]) H rfl rfl rfl Sz91 rfl rfl rfl rfl (sgo2 hl85z rfl) rfl rfl (by have hl_ := hl_s2; omega) (by omega) default x rfl rfl rfl rfl ?_
         intro w87z H
         have hl88z : (s2.set ((Int.toNat from_) * 13 + (Int.toNat r6)) x).length = 169 := List.length_set.trans hl_s2
         refine s_nil ⟨(H.pick [0, 1, 3, 4, 5, 6, 7, 8, 9] (by decide) rfl), ?_⟩
         refine d_nil ?_
         exact ⟨(s.set ((Int.toNat from_) * 13 + (Int.toNat r5)) r3, s2.set ((Int.toNat from_) * 13 + (Int.toNat r6)) x), [cBlk b_w_ (List.flatten [[I w__Net_Marks, v_w__Net_Lines], encF (α := Int) (s.set ((Int.toNat from_) * 13 + (Int.toNat r5)) r3), encF (α := Leg) (s2.set ((Int.toNat from_) * 13 + (Int.toNat r6)) x)]) 120], (M.e_pure hM).symm, ⟨rfl, hl85z, hl88z⟩, H.pick [2, 3, 4, 5, 6, 7, 8, 9] (by decide) rfl⟩
        ·replace hM := M.e_f hM c73z
         simp only [decide_eq_true_eq, decide_eq_false_iff_not, beq_iff_eq, bne_iff_ne, beq_eq_false_iff_ne, bne_eq_false_iff_eq, ne_eq, Decidable.not_not] at c73z
         refine W.skip ?_
         exact ⟨(s, s2), [cBlk b_w_ (List.flatten [[I w__Net_Marks, v_w__Net_Lines], encF (α := Int) s, encF (α := Leg) s2]) 120], (M.e_pure hM).symm, ⟨rfl, hl_s, hl_s2⟩, H.pick [2, 3, 4, 5, 6, 7, 8, 9] (by decide) rfl⟩
       replace H : St w w51z (cAll (cObj l48z (.loop r50z) :: [cBlk b_w_ (List.flatten [[I w__Net_Marks, v_w__Net_Lines], encF (α := Int) s4, encF (α := Leg) s5]) 120]) :: [cMk (D49z :: Ds27z), cBlk nb0_5 [.pointer (some ⟨b_w_, 0, none⟩)] 111, cBlk nb1_6 [I r10] 3, cBlk b_4 [I (s3 : Int)] 3, cBlk b_3 [.pointer (some ⟨b_w_, 171 + Int.toNat from_ * 26, none⟩)] 168, cBlk b_2 [.pointer (some ⟨b_w_, 2 + Int.toNat from_ * 13, none⟩)] 167, cBlk b_1 [.pointer (some ⟨b_w_, 0, none⟩)] 111]) R := St.bundleB (A := cObj l48z (.loop r50z) :: [cBlk b_w_ (List.flatten [[I w__Net_Marks, v_w__Net_Lines], encF (α := Int) s4, encF (α := Leg) s5]) 120]) (T := [cMk (D49z :: Ds27z), cBlk nb0_5 [.pointer (some ⟨b_w_, 0, none⟩)] 111, cBlk nb1_6 [I r10] 3, cBlk b_4 [I (s3 : Int)] 3, cBlk b_3 [.pointer (some ⟨b_w_, 171 + Int.toNat from_ * 26, none⟩)] 168, cBlk b_2 [.pointer (some ⟨b_w_, 2 + Int.toNat from_ * 13, none⟩)] 167, cBlk b_1 [.pointer (some ⟨b_w_, 0, none⟩)] 111]) rfl (H.pick [0, 2, 1, 3, 4, 5, 6, 7, 8] (by decide) rfl)
       refine (level_survey_legs_1_ok (M.yl (m_level_survey_fill_b4 w__Net_Marks w__Net_Lines from_ s3)) (.inl (s4, s5)) w__Net_Marks w__Net_Lines r10 hYC ⟨_, rfl, ⟨rfl, hl_s4, hl_s5⟩⟩ (hC_w__Net_Lines.app _) hs_w__Net_Lines (by rintro (⟨s, s2⟩ | _) _ h_; (obtain ⟨_, rfl, rfl, _, _⟩ := h_; exact Fld.all (Fld.here (k := 1) rfl rfl)); (obtain ⟨_, _, h_⟩ := h_; exact h_.elim)) (Has.here (k := 1) rfl) (Has.here (k := 2) rfl) hx47z _ (St.give (A := [cAll (cObj l48z (.loop r50z) :: [cBlk b_w_ (List.flatten [[I w__Net_Marks, v_w__Net_Lines], encF (α := Int) s4, encF (α := Leg) s5]) 120])]) (T := [cMk (D49z :: Ds27z), cBlk nb0_5 [.pointer (some ⟨b_w_, 0, none⟩)] 111, cBlk nb1_6 [I r10] 3, cBlk b_4 [I (s3 : Int)] 3, cBlk b_3 [.pointer (some ⟨b_w_, 171 + Int.toNat from_ * 26, none⟩)] 168, cBlk b_2 [.pointer (some ⟨b_w_, 2 + Int.toNat from_ * 13, none⟩)] 167, cBlk b_1 [.pointer (some ⟨b_w_, 0, none⟩)] 111]) H rfl)).mono ?_
       rintro vq w89z ⟨t93z, Ls91z, hq94z, hvq, H2_, hY92z⟩
       subst hq94z
       replace H := H.back H2_ rfl
       clear H2_ hYC
       rcases t93z with ⟨s, s2⟩ | _
       ·try dsimp only at hM
        obtain ⟨_, rfl, rfl, hl_s, hl_s2⟩ := hY92z
        refine ⟨_, [cBlk b_w_ (List.flatten [[I w__Net_Marks, v_w__Net_Lines], encF (α := Int) s, encF (α := Leg) s2]) 120, cBlk nb0_5 [.pointer (some ⟨b_w_, 0, none⟩)] 111, cBlk nb1_6 [I r10] 3, cBlk b_4 [I (s3 : Int)] 3, cBlk b_3 [.pointer (some ⟨b_w_, 171 + Int.toNat from_ * 26, none⟩)] 168, cBlk b_2 [.pointer (some ⟨b_w_, 2 + Int.toNat from_ * 13, none⟩)] 167, cBlk b_1 [.pointer (some ⟨b_w_, 0, none⟩)] 111], H.unbundle.pick [0, 2, 1, 3, 4, 5, 6, 7, 8] (by decide) rfl, hr52z.nb, ?_⟩
        intro w90z H
        rw [hr52z.pd]
        replace H : St w w90z [cMk (D49z :: Ds27z), cBlk b_w_ (List.flatten [[I w__Net_Marks, v_w__Net_Lines], encF (α := Int) s, encF (α := Leg) s2]) 120, cBlk nb0_5 [.pointer (some ⟨b_w_, 0, none⟩)] 111, cBlk nb1_6 [I r10] 3, cBlk b_4 [I (s3 : Int)] 3, cBlk b_3 [.pointer (some ⟨b_w_, 171 + Int.toNat from_ * 26, none⟩)] 168, cBlk b_2 [.pointer (some ⟨b_w_, 2 + Int.toNat from_ * 13, none⟩)] 167, cBlk b_1 [.pointer (some ⟨b_w_, 0, none⟩)] 111] R := H
        try simp only []
        refine WD.of ?_
        refine W.region rfl ?_
        obtain ⟨sd95z, hM⟩ := M.e_grd hM
        simp only [Bool.and_eq_true, decide_eq_true_eq] at sd95z
        refine s_val (x_ari (a := (s3 : Int)) (b := 1) (r := (s3 : Int) + 1) rfl rfl rfl (by omega)) ?_
        refine s_val (x_mv (v := I ((s3 : Int) + 1)) rfl) ?_
        refine s_nil ?_
        exact ⟨m31z, lt32z, s3 + 1, s, s2, _, upds_of _ _ ⟨rfl, rfl, rfl, rfl, rfl, rfl, rfl, trivial⟩, M.e_inl hM hN34z, (H.pick [5, 6, 7, 0, 1] (by decide) rfl), hl_s, hl_s2⟩
       ·obtain ⟨_, _, h_⟩ := hY92z; exact h_.elim
     ·replace hM := M.e_f hM c35z
      simp only [decide_eq_true_eq, decide_eq_false_iff_not, beq_iff_eq, bne_iff_ne, beq_eq_false_iff_ne, bne_eq_false_iff_eq, ne_eq, Decidable.not_not] at c35z
      refine WD.of ?_
      refine W.exit ?_
      have hX96z := M.e_inr hM hN34z
      subst hX96z
      replace hM := hk26z
      try dsimp only at hM
      refine WD.of ?_
      refine W.region rfl ?_
      obtain ⟨sd97z, hM⟩ := M.e_grd hM
      simp only [Bool.and_eq_true, decide_eq_true_eq] at sd97z
      refine s_val (x_ari (a := (s8 : Int)) (b := 1) (r := (s8 : Int) + 1) rfl rfl rfl (by omega)) ?_
      refine s_val (x_mv (v := I ((s8 : Int) + 1)) rfl) ?_
      refine s_nil ?_
      exact ⟨m19z, lt20z, s4, s5, s8 + 1, _, upds_of _ _ ⟨rfl, rfl, rfl, rfl, rfl, trivial⟩, M.e_inl hM hN22z, H, hl_s4, hl_s5⟩
   ·replace hM := M.e_f hM c23z
    simp only [decide_eq_true_eq, decide_eq_false_iff_not, beq_iff_eq, bne_iff_ne, beq_eq_false_iff_ne, bne_eq_false_iff_eq, ne_eq, Decidable.not_not] at c23z
    refine WD.of ?_
    refine W.exit ?_
    have hX98z := M.e_inr hM hN22z
    subst hX98z
    replace hM := hk14z
    try dsimp only at hM
    refine bodyD_n (H.pick [3, 0, 1, 2, 4] (by decide) rfl) ?_
    intro w99z H
    replace H : St w w99z [cBlk b_3 [.pointer (some ⟨b_w_, 171 + Int.toNat from_ * 26, none⟩)] 168, cBlk b_2 [.pointer (some ⟨b_w_, 2 + Int.toNat from_ * 13, none⟩)] 167, cBlk b_1 [.pointer (some ⟨b_w_, 0, none⟩)] 111, cBlk b_w_ (List.flatten [[I w__Net_Marks, v_w__Net_Lines], encF (α := Int) s6, encF (α := Leg) s7]) 120] R := H
    have hr_ := M.e_pure hM
    exact ⟨_, resE_tmp0 rfl, ⟨s6, s7, hr_, rfl, (H.pick [3] (by decide) rfl), hl_s6, hl_s7⟩⟩
 ·skip
  refine t_alloc (cs := [.pointer none]) H Al168 rfl ?_
  intro b_3 w100z H
  refine s_nil ⟨(H.pick [1, 2, 3] (by decide) rfl), ?_⟩
  refine t_l rfl ?_
  refine t_alloc (cs := [.pointer none]) H Al167 rfl ?_
  intro b_2 w101z H
  refine s_nil ⟨(H.pick [2, 3, 4] (by decide) rfl), ?_⟩
  refine t_l rfl ?_
  refine t_st (k := 0) (b := b_2) (off := 0) (cs := [.pointer none]) (vs := [.pointer (some ⟨b_w_, 2 + Int.toNat from_ * 13, none⟩)]) (cs' := [.pointer (some ⟨b_w_, 2 + Int.toNat from_ * 13, none⟩)]) (v := .pointer (some ⟨b_w_, 2 + Int.toNat from_ * 13, none⟩)) (L' := [cBlk b_2 [.pointer (some ⟨b_w_, 2 + Int.toNat from_ * 13, none⟩)] 167, cBlk b_3 [.pointer none] 168, cBlk b_1 [.pointer (some ⟨b_w_, 0, none⟩)] 111, cMk ([]), cBlk b_w_ (List.flatten [[I w__Net_Marks, v_w__Net_Lines], encF (α := Int) w__can, encF (α := Leg) w__by]) 120]) H rfl rfl rfl Sz167 rfl rfl rfl rfl rfl rfl ?_
  intro w102z H
  refine s_nil ⟨(H.pick [2, 3, 4] (by decide) rfl), ?_⟩
  refine t_l rfl ?_
  refine t_st (k := 1) (b := b_3) (off := 0) (cs := [.pointer none]) (vs := [.pointer (some ⟨b_w_, 171 + Int.toNat from_ * 26, none⟩)]) (cs' := [.pointer (some ⟨b_w_, 171 + Int.toNat from_ * 26, none⟩)]) (v := .pointer (some ⟨b_w_, 171 + Int.toNat from_ * 26, none⟩)) (L' := [cBlk b_2 [.pointer (some ⟨b_w_, 2 + Int.toNat from_ * 13, none⟩)] 167, cBlk b_3 [.pointer (some ⟨b_w_, 171 + Int.toNat from_ * 26, none⟩)] 168, cBlk b_1 [.pointer (some ⟨b_w_, 0, none⟩)] 111, cMk ([]), cBlk b_w_ (List.flatten [[I w__Net_Marks, v_w__Net_Lines], encF (α := Int) w__can, encF (α := Leg) w__by]) 120]) H rfl rfl rfl Sz168 rfl rfl rfl rfl rfl rfl ?_
  intro w103z H
  refine s_nil ⟨(H.pick [2, 3, 4] (by decide) rfl), ?_⟩
  refine t_nil ?_
  refine WD.seq ?_
  refine WD.of ?_
  refine W.region rfl ?_
  refine s_val (x_ld (p := .pointer (some ⟨b_1, 0, none⟩)) (v := .pointer (some ⟨b_w_, 0, none⟩)) rfl (ldb_sc Sc111 (H.blk (k := 2) rfl) rfl)) ?_
  refine s_val (x_nc (a := ⟨b_w_, 0, none⟩) rfl) ?_
  refine s_val (x_fa (a := .pointer (some ⟨b_w_, 0, none⟩)) (v := .pointer (some ⟨b_w_, 0, none⟩)) rfl (fa_blk (o := 0) Fd120_0 Sz25)) ?_
  refine s_val (x_fa (a := .pointer (some ⟨b_w_, 0, none⟩)) (v := .pointer (some ⟨b_w_, 0, none⟩)) rfl (fa_blk (o := 0) Fd25_0 Sz3)) ?_
  refine s_val (x_ld (p := .pointer (some ⟨b_w_, 0, none⟩)) (v := I w__Net_Marks) rfl (ldb_sc Sc3 (H.blk (k := 4) rfl) rfl)) ?_
  refine s_val (x_mv (v := I 0) rfl) ?_
  refine s_nil ?_
  refine WD.block ?_
  obtain ⟨ex104z, hi105z, hk106z⟩ := M.e_bind hM
  obtain ⟨m0_, hi105z⟩ := M.e_iter hi105z
  refine WD.loop (fun m Ds107z σ W => ∃ (s6 : List Int) (s7 : List Leg) (s8 : Nat) (ρ : Env), σ = upds ρ [(2, .pointer (some ⟨b_1, 0, none⟩)), (4, .pointer (some ⟨b_2, 0, none⟩)), (5, .pointer (some ⟨b_3, 0, none⟩)), (23, I w__Net_Marks), (24, I (s8 : Int))] /\ M.iterN (m_level_survey_fill_b6 w__Net_Marks w__Net_Lines from_) m (s6, s7, s8) = some ex104z /\ St w W [cBlk b_2 [.pointer (some ⟨b_w_, 2 + Int.toNat from_ * 13, none⟩)] 167, cBlk b_3 [.pointer (some ⟨b_w_, 171 + Int.toNat from_ * 26, none⟩)] 168, cBlk b_1 [.pointer (some ⟨b_w_, 0, none⟩)] 111, cMk Ds107z, cBlk b_w_ (List.flatten [[I w__Net_Marks, v_w__Net_Lines], encF (α := Int) s6, encF (α := Leg) s7]) 120] R /\ s6.length = 169 /\ s7.length = 169) ?_ ?_
  ·exact ⟨_, w__can, w__by, 0, _, upds_of _ _ ⟨rfl, rfl, rfl, rfl, rfl, trivial⟩, hi105z, H, hl_w__can, hl_w__by⟩
  ·rintro m110z Ds107z σ w108z ⟨s6, s7, s8, ρ, rfl, hI109z, H, hl_s6, hl_s7⟩
   obtain ⟨m111z, lt112z, x113z, hM, hN114z⟩ := M.e_iterN hI109z
   simp only [m_level_survey_fill_b6] at hM
   clear hI109z
   refine WD.seq ?_
   refine WD.of ?_
   refine W.region rfl ?_
   refine s_val (x_cmp (kd := .i64) (a := (s8 : Int)) (b := w__Net_Marks) (r := decide ((s8 : Int) < w__Net_Marks)) rfl rfl rfl) ?_
   refine s_nil ?_
   refine WD.seq ?_
   refine WD.cond (decide ((s8 : Int) < w__Net_Marks)) rfl (fun c115z => ?_) (fun c115z => ?_)
   ·replace hM := M.e_t hM c115z
    simp only [decide_eq_true_eq, decide_eq_false_iff_not, beq_iff_eq, bne_iff_ne, beq_eq_false_iff_ne, bne_eq_false_iff_eq, ne_eq, Decidable.not_not] at c115z
    refine WD.of ?_
    refine W.skip ?_
    refine WD.seq ?_
    refine WD.block ?_
    refine WD.seq ?_
    refine WD.of ?_
    refine W.region rfl ?_
    refine s_val (x_ld (p := .pointer (some ⟨b_1, 0, none⟩)) (v := .pointer (some ⟨b_w_, 0, none⟩)) rfl (ldb_sc Sc111 (H.blk (k := 2) rfl) rfl)) ?_
    refine s_val (x_nc (a := ⟨b_w_, 0, none⟩) rfl) ?_
    refine s_val (x_fa (a := .pointer (some ⟨b_w_, 0, none⟩)) (v := .pointer (some ⟨b_w_, 0, none⟩)) rfl (fa_blk (o := 0) Fd120_0 Sz25)) ?_
    refine s_val (x_fa (a := .pointer (some ⟨b_w_, 0, none⟩)) (v := .pointer (some ⟨b_w_, 0, none⟩)) rfl (fa_blk (o := 0) Fd25_0 Sz3)) ?_
    refine s_val (x_ld (p := .pointer (some ⟨b_w_, 0, none⟩)) (v := I w__Net_Marks) rfl (ldb_sc Sc3 (H.blk (k := 4) rfl) rfl)) ?_
    refine s_val (x_mv (v := I 0) rfl) ?_
    refine s_nil ?_
    refine WD.block ?_
    obtain ⟨ex116z, hi117z, hk118z⟩ := M.e_bind hM
    obtain ⟨m0_, hi117z⟩ := M.e_iter hi117z
    refine WD.loop (fun m Ds119z σ W => ∃ (s3 : Nat) (s4 : List Int) (s5 : List Leg) (ρ : Env), σ = upds ρ [(2, .pointer (some ⟨b_1, 0, none⟩)), (4, .pointer (some ⟨b_2, 0, none⟩)), (5, .pointer (some ⟨b_3, 0, none⟩)), (23, I w__Net_Marks), (24, I (s8 : Int)), (30, I w__Net_Marks), (31, I (s3 : Int))] /\ M.iterN (m_level_survey_fill_b5 w__Net_Marks w__Net_Lines from_) m (s3, s4, s5) = some ex116z /\ St w W [cBlk b_2 [.pointer (some ⟨b_w_, 2 + Int.toNat from_ * 13, none⟩)] 167, cBlk b_3 [.pointer (some ⟨b_w_, 171 + Int.toNat from_ * 26, none⟩)] 168, cBlk b_1 [.pointer (some ⟨b_w_, 0, none⟩)] 111, cMk Ds119z, cBlk b_w_ (List.flatten [[I w__Net_Marks, v_w__Net_Lines], encF (α := Int) s4, encF (α := Leg) s5]) 120] R /\ s4.length = 169 /\ s5.length = 169) ?_ ?_
    ·exact ⟨_, 0, s6, s7, _, upds_of _ _ ⟨rfl, rfl, rfl, rfl, rfl, rfl, rfl, trivial⟩, hi117z, H, hl_s6, hl_s7⟩
    ·rintro m122z Ds119z σ w120z ⟨s3, s4, s5, ρ, rfl, hI121z, H, hl_s4, hl_s5⟩
     obtain ⟨m123z, lt124z, x125z, hM, hN126z⟩ := M.e_iterN hI121z
     simp only [m_level_survey_fill_b5] at hM
     clear hI121z
     refine WD.seq ?_
     refine WD.of ?_
     refine W.region rfl ?_
     refine s_val (x_cmp (kd := .i64) (a := (s3 : Int)) (b := w__Net_Marks) (r := decide ((s3 : Int) < w__Net_Marks)) rfl rfl rfl) ?_
     refine s_nil ?_
     refine WD.seq ?_
     refine WD.cond (decide ((s3 : Int) < w__Net_Marks)) rfl (fun c127z => ?_) (fun c127z => ?_)
     ·replace hM := M.e_t hM c127z
      simp only [decide_eq_true_eq, decide_eq_false_iff_not, beq_iff_eq, bne_iff_ne, beq_eq_false_iff_ne, bne_eq_false_iff_eq, ne_eq, Decidable.not_not] at c127z
      refine WD.of ?_
      refine W.skip ?_
      refine WD.seq ?_
      refine WD.block ?_
      refine WD.seq ?_
      refine WD.of ?_
      refine W.region rfl ?_
      refine s_val (x_mv (v := I (s3 : Int)) rfl) ?_
      refine t_alloc (cs := [I 0]) H Al3 rfl ?_
      intro b_4 w128z H
      refine t_st (k := 0) (b := b_4) (off := 0) (cs := [I 0]) (vs := [I (s3 : Int)]) (cs' := [I (s3 : Int)]) (v := I (s3 : Int)) (L' := [cBlk b_4 [I (s3 : Int)] 3, cBlk b_2 [.pointer (some ⟨b_w_, 2 + Int.toNat from_ * 13, none⟩)] 167, cBlk b_3 [.pointer (some ⟨b_w_, 171 + Int.toNat from_ * 26, none⟩)] 168, cBlk b_1 [.pointer (some ⟨b_w_, 0, none⟩)] 111, cMk Ds119z, cBlk b_w_ (List.flatten [[I w__Net_Marks, v_w__Net_Lines], encF (α := Int) s4, encF (α := Leg) s5]) 120]) H rfl rfl rfl Sz3 rfl rfl rfl rfl rfl rfl ?_
      intro w129z H
      refine s_nil ?_
      refine WD.seq ?_
      refine WD.seq ?_
      refine WD.of ?_
      refine W.draw (fun W => St w W [cBlk b_4 [I (s3 : Int)] 3, cBlk b_2 [.pointer (some ⟨b_w_, 2 + Int.toNat from_ * 13, none⟩)] 167, cBlk b_3 [.pointer (some ⟨b_w_, 171 + Int.toNat from_ * 26, none⟩)] 168, cBlk b_1 [.pointer (some ⟨b_w_, 0, none⟩)] 111, cMk Ds119z, cBlk b_w_ (List.flatten [[I w__Net_Marks, v_w__Net_Lines], encF (α := Int) s4, encF (α := Leg) s5]) 120] R) [(0, true), (1, true), (2, true), (3, true), (4, true), (5, true)] mixed (by decide +kernel) rfl ?_
      intro w130z hx_
      replace H : St w w130z [cBlk b_4 [I (s3 : Int)] 3, cBlk b_2 [.pointer (some ⟨b_w_, 2 + Int.toNat from_ * 13, none⟩)] 167, cBlk b_3 [.pointer (some ⟨b_w_, 171 + Int.toNat from_ * 26, none⟩)] 168, cBlk b_1 [.pointer (some ⟨b_w_, 0, none⟩)] 111, cMk Ds119z, cBlk b_w_ (List.flatten [[I w__Net_Marks, v_w__Net_Lines], encF (α := Int) s4, encF (α := Leg) s5]) 120] R := H.ext hx_
      clear hx_
      refine ⟨(H.pick [0, 1, 2, 3, 4, 5] (by decide) rfl), ?_⟩
      refine d_q rfl (fun w' H => x_ld (p := .pointer (some ⟨b_2, 0, none⟩)) (v := .pointer (some ⟨b_w_, 2 + Int.toNat from_ * 13, none⟩)) rfl (ldb_sc Sc167 (H.blk (k := 1) rfl) rfl)) ?_
      refine d_q rfl (fun w' H => x_ld (p := .pointer (some ⟨b_4, 0, none⟩)) (v := I (s3 : Int)) rfl (ldb_sc Sc3 (H.blk (k := 0) rfl) rfl)) ?_
      refine d_q rfl (fun w' H => x_nc (a := ⟨b_w_, 2 + Int.toNat from_ * 13, none⟩) rfl) ?_
      obtain ⟨sd131z, hM⟩ := M.e_grd hM
      simp only [Bool.and_eq_true, decide_eq_true_eq] at sd131z
      refine d_q rfl (fun w' H => x_ix (a := .pointer (some ⟨b_w_, 2 + Int.toNat from_ * 13, none⟩)) (b := I (s3 : Int)) (v := .pointer (some ⟨b_w_, (2 + Int.toNat from_ * 13) + Int.toNat (s3 : Int) * 1, none⟩)) rfl rfl (run_indexS Try.underlying114 Sz3 (by omega) (by omega))) ?_
      refine d_q rfl (fun w' H => x_ld (p := .pointer (some ⟨b_w_, (2 + Int.toNat from_ * 13) + Int.toNat (s3 : Int) * 1, none⟩)) (v := I (s4.getD ((Int.toNat from_) * 13 + s3) 0)) rfl (ldS (α := Int) (k := 1) (off := 2) (i := (Int.toNat from_) * 13 + s3) (f := 0) (sz := 1) 0 Sc3 (H.blk (k := 5) rfl) rfl (sgo1 rfl) rfl (by decide) (by have hl_ := hl_s4; omega) (by omega) rfl)) ?_
      refine d_q rfl (fun w' H => x_cmp (kd := .i64) (a := s4.getD ((Int.toNat from_) * 13 + s3) 0) (b := 1099511627776) (r := (s4.getD ((Int.toNat from_) * 13 + s3) 0) == 1099511627776) rfl rfl rfl) ?_
      refine d_nil ?_
      refine WD.cond ((s4.getD ((Int.toNat from_) * 13 + s3) 0) == 1099511627776) rfl (fun c132z => ?_) (fun c132z => ?_)
      ·replace hM := M.e_t hM c132z
       simp only [decide_eq_true_eq, decide_eq_false_iff_not, beq_iff_eq, bne_iff_ne, beq_eq_false_iff_ne, bne_eq_false_iff_eq, ne_eq, Decidable.not_not] at c132z
       refine WD.of ?_
       refine W.exit ?_
       refine WD.of ?_
       refine W.region rfl ?_
       obtain ⟨sd133z, hM⟩ := M.e_grd hM
       simp only [Bool.and_eq_true, decide_eq_true_eq] at sd133z
       refine s_val (x_ari (a := (s3 : Int)) (b := 1) (r := (s3 : Int) + 1) rfl rfl rfl (by omega)) ?_
       refine s_val (x_mv (v := I ((s3 : Int) + 1)) rfl) ?_
       refine s_nil ?_
       exact ⟨m123z, lt124z, s3 + 1, s4, s5, _, upds_of _ _ ⟨rfl, rfl, rfl, rfl, rfl, rfl, rfl, trivial⟩, M.e_inl hM hN126z, (H.pick [1, 2, 3, 4, 5] (by decide) rfl), hl_s4, hl_s5⟩
      ·replace hM := M.e_f hM c132z
       simp only [decide_eq_true_eq, decide_eq_false_iff_not, beq_iff_eq, bne_iff_ne, beq_eq_false_iff_ne, bne_eq_false_iff_eq, ne_eq, Decidable.not_not] at c132z
       refine WD.of ?_
       refine W.skip ?_
       refine WD.seq ?_
       refine WD.of ?_
       refine W.region rfl ?_
       refine s_val (x_ld (p := .pointer (some ⟨b_1, 0, none⟩)) (v := .pointer (some ⟨b_w_, 0, none⟩)) rfl (ldb_sc Sc111 (H.blk (k := 3) rfl) rfl)) ?_
       refine s_val (x_ld (p := .pointer (some ⟨b_4, 0, none⟩)) (v := I (s3 : Int)) rfl (ldb_sc Sc3 (H.blk (k := 0) rfl) rfl)) ?_
       obtain ⟨r135z, hx134z, hM⟩ := M.e_bind hM
       refine s_call cf89 [.pointer (some ⟨b_w_, 0, none⟩), I (s3 : Int)] rfl (level_survey_legs_ok w__Net_Marks w__Net_Lines (s3 : Int) (hC_w__Net_Lines.app _) hs_w__Net_Lines (Fld.here (k := 5) rfl rfl) hx134z _ (St.give (T := [cBlk b_4 [I (s3 : Int)] 3, cBlk b_2 [.pointer (some ⟨b_w_, 2 + Int.toNat from_ * 13, none⟩)] 167, cBlk b_3 [.pointer (some ⟨b_w_, 171 + Int.toNat from_ * 26, none⟩)] 168, cBlk b_1 [.pointer (some ⟨b_w_, 0, none⟩)] 111, cMk Ds119z, cBlk b_w_ (List.flatten [[I w__Net_Marks, v_w__Net_Lines], encF (α := Int) s4, encF (α := Leg) s5]) 120]) H rfl)) ?_
       rintro vq w136z ⟨r10, nb0_5, nb1_6, hr137z, hvq, H2_⟩
       subst hr137z
       subst vq
       try dsimp only at hM
       replace H : St w w136z [cBlk nb0_5 [.pointer (some ⟨b_w_, 0, none⟩)] 111, cBlk nb1_6 [I r10] 3, cBlk b_4 [I (s3 : Int)] 3, cBlk b_2 [.pointer (some ⟨b_w_, 2 + Int.toNat from_ * 13, none⟩)] 167, cBlk b_3 [.pointer (some ⟨b_w_, 171 + Int.toNat from_ * 26, none⟩)] 168, cBlk b_1 [.pointer (some ⟨b_w_, 0, none⟩)] 111, cMk Ds119z, cBlk b_w_ (List.flatten [[I w__Net_Marks, v_w__Net_Lines], encF (α := Int) s4, encF (α := Leg) s5]) 120] R := H.back H2_ rfl
       clear H2_
       refine s_nil ?_
       refine WD.block ?_
       obtain ⟨t138z, hx139z, hM⟩ := M.e_bind hM
       refine WD.range (L := [cBlk b_w_ (List.flatten [[I w__Net_Marks, v_w__Net_Lines], encF (α := Int) s4, encF (α := Leg) s5]) 120, cBlk nb0_5 [.pointer (some ⟨b_w_, 0, none⟩)] 111, cBlk nb1_6 [I r10] 3, cBlk b_4 [I (s3 : Int)] 3, cBlk b_2 [.pointer (some ⟨b_w_, 2 + Int.toNat from_ * 13, none⟩)] 167, cBlk b_3 [.pointer (some ⟨b_w_, 171 + Int.toNat from_ * 26, none⟩)] 168, cBlk b_1 [.pointer (some ⟨b_w_, 0, none⟩)] 111]) [.pointer (some ⟨nb0_5, 0, none⟩), .pointer (some ⟨nb1_6, 0, none⟩)] (H.pick [6, 7, 0, 1, 2, 3, 4, 5] (by decide) rfl) rfl cf101 ?_
       intro l140z D141z r142z w143z hr144z H
       have hYC : YieldC Try.prog ([cMk (D141z :: Ds119z), cBlk nb0_5 [.pointer (some ⟨b_w_, 0, none⟩)] 111, cBlk nb1_6 [I r10] 3, cBlk b_4 [I (s3 : Int)] 3, cBlk b_2 [.pointer (some ⟨b_w_, 2 + Int.toNat from_ * 13, none⟩)] 167, cBlk b_3 [.pointer (some ⟨b_w_, 171 + Int.toNat from_ * 26, none⟩)] 168, cBlk b_1 [.pointer (some ⟨b_w_, 0, none⟩)] 111] ++ R) arLeg (yJ l140z r142z (fun (s, s2) Ls_ => Ls_ = [cBlk b_w_ (List.flatten [[I w__Net_Marks, v_w__Net_Lines], encF (α := Int) s, encF (α := Leg) s2]) 120] /\ s.length = 169 /\ s2.length = 169) (fun (_ : Unit) _ => False) (fun _ => .ret)) (.func (.yield l140z) #[] #[]) (M.yl (m_level_survey_fill_b4 w__Net_Marks w__Net_Lines from_ s3)) := by
        refine YieldC.mk2 hr144z (fun (s, s2) Ls_ => Ls_ = [cBlk b_w_ (List.flatten [[I w__Net_Marks, v_w__Net_Lines], encF (α := Int) s, encF (α := Leg) s2]) 120] /\ s.length = 169 /\ s2.length = 169) (fun (_ : Unit) _ => False) (fun _ => .ret) (m_level_survey_fill_b4 w__Net_Marks w__Net_Lines from_ s3) (by rintro ⟨s, s2⟩ _ h_; obtain ⟨rfl, _, _⟩ := h_; rfl) (fun _ _ h_ => h_.elim) rfl (arLeg_len rfl) ?_
        intro C_ vs_ x hA_
        obtain rfl := hA_
        intro w R hR_ Ls_ s_ r hY_ hM H
        obtain ⟨s, s2⟩ := s_
        obtain ⟨rfl, hl_s, hl_s2⟩ := hY_
        replace H : St w w [cBlk b_w_ (List.flatten [[I w__Net_Marks, v_w__Net_Lines], encF (α := Int) s, encF (α := Leg) s2]) 120, cMk (D141z :: Ds119z), cBlk nb0_5 [.pointer (some ⟨b_w_, 0, none⟩)] 111, cBlk nb1_6 [I r10] 3, cBlk b_4 [I (s3 : Int)] 3, cBlk b_2 [.pointer (some ⟨b_w_, 2 + Int.toNat from_ * 13, none⟩)] 167, cBlk b_3 [.pointer (some ⟨b_w_, 171 + Int.toNat from_ * 26, none⟩)] 168, cBlk b_1 [.pointer (some ⟨b_w_, 0, none⟩)] 111] R := H
        refine W.region rfl ?_
        refine t_alloc (cs := [I 0, B false]) H Al91 rfl ?_
        intro b_7 w145z H
        refine t_st (k := 0) (b := b_7) (off := 0) (cs := [I 0, B false]) (vs := [I x.line, B x.back]) (cs' := [I x.line, B x.back]) (v := .agg #[I x.line, B x.back]) (L' := [cBlk b_7 [I x.line, B x.back] 91, cBlk b_w_ (List.flatten [[I w__Net_Marks, v_w__Net_Lines], encF (α := Int) s, encF (α := Leg) s2]) 120, cMk (D141z :: Ds119z), cBlk nb0_5 [.pointer (some ⟨b_w_, 0, none⟩)] 111, cBlk nb1_6 [I r10] 3, cBlk b_4 [I (s3 : Int)] 3, cBlk b_2 [.pointer (some ⟨b_w_, 2 + Int.toNat from_ * 13, none⟩)] 167, cBlk b_3 [.pointer (some ⟨b_w_, 171 + Int.toNat from_ * 26, none⟩)] 168, cBlk b_1 [.pointer (some ⟨b_w_, 0, none⟩)] 111]) H rfl rfl rfl Sz91 rfl rfl rfl rfl rfl rfl ?_
        intro w146z H
        refine s_nil ?_
        refine ⟨rfl, [cBlk b_7 [I x.line, B x.back] 91], H.pick [0, 1, 2, 3, 4, 5, 6, 7, 8] (by decide) rfl, ?_⟩
        clear H hR_
        intro w R hR_ H
        replace hC_w__Net_Lines := hC_w__Net_Lines.sub hR_
        replace hM : (m_level_survey_fill_b4 w__Net_Marks w__Net_Lines from_ s3 (s, s2) x).Ends r := hM
        simp only [m_level_survey_fill_b4] at hM
        replace H : St w w [cBlk b_7 [I x.line, B x.back] 91, cBlk b_w_ (List.flatten [[I w__Net_Marks, v_w__Net_Lines], encF (α := Int) s, encF (α := Leg) s2]) 120, cMk (D141z :: Ds119z), cBlk nb0_5 [.pointer (some ⟨b_w_, 0, none⟩)] 111, cBlk nb1_6 [I r10] 3, cBlk b_4 [I (s3 : Int)] 3, cBlk b_2 [.pointer (some ⟨b_w_, 2 + Int.toNat from_ * 13, none⟩)] 167, cBlk b_3 [.pointer (some ⟨b_w_, 171 + Int.toNat from_ * 26, none⟩)] 168, cBlk b_1 [.pointer (some ⟨b_w_, 0, none⟩)] 111] R := H
        refine W.block ?_
        refine W.seq ?_
        refine W.draw (fun W => St w W [cBlk b_7 [I x.line, B x.back] 91, cBlk b_w_ (List.flatten [[I w__Net_Marks, v_w__Net_Lines], encF (α := Int) s, encF (α := Leg) s2]) 120, cMk (D141z :: Ds119z), cBlk nb0_5 [.pointer (some ⟨b_w_, 0, none⟩)] 111, cBlk nb1_6 [I r10] 3, cBlk b_4 [I (s3 : Int)] 3, cBlk b_2 [.pointer (some ⟨b_w_, 2 + Int.toNat from_ * 13, none⟩)] 167, cBlk b_3 [.pointer (some ⟨b_w_, 171 + Int.toNat from_ * 26, none⟩)] 168, cBlk b_1 [.pointer (some ⟨b_w_, 0, none⟩)] 111] R) [(0, true), (1, true), (2, true), (3, true), (4, true), (5, true), (6, true), (7, false), (8, false), (9, false), (10, true)] mixed (by decide +kernel) rfl ?_
        intro w147z hx_
        replace H : St w w147z [cBlk b_7 [I x.line, B x.back] 91, cBlk b_w_ (List.flatten [[I w__Net_Marks, v_w__Net_Lines], encF (α := Int) s, encF (α := Leg) s2]) 120, cMk (D141z :: Ds119z), cBlk nb0_5 [.pointer (some ⟨b_w_, 0, none⟩)] 111, cBlk nb1_6 [I r10] 3, cBlk b_4 [I (s3 : Int)] 3, cBlk b_2 [.pointer (some ⟨b_w_, 2 + Int.toNat from_ * 13, none⟩)] 167, cBlk b_3 [.pointer (some ⟨b_w_, 171 + Int.toNat from_ * 26, none⟩)] 168, cBlk b_1 [.pointer (some ⟨b_w_, 0, none⟩)] 111] R := H.ext hx_
        clear hx_
        refine ⟨(H.pick [0, 1, 2, 3, 4, 5, 6, 7, 8] (by decide) rfl), ?_⟩
        refine d_q rfl (fun w' H => x_ld (p := .pointer (some ⟨b_2, 0, none⟩)) (v := .pointer (some ⟨b_w_, 2 + Int.toNat from_ * 13, none⟩)) rfl (ldb_sc Sc167 (H.blk (k := 6) rfl) rfl)) ?_
        refine d_q rfl (fun w' H => x_ld (p := .pointer (some ⟨b_4, 0, none⟩)) (v := I (s3 : Int)) rfl (ldb_sc Sc3 (H.blk (k := 5) rfl) rfl)) ?_
        refine d_q rfl (fun w' H => x_nc (a := ⟨b_w_, 2 + Int.toNat from_ * 13, none⟩) rfl) ?_
        refine d_q rfl (fun w' H => x_ix (a := .pointer (some ⟨b_w_, 2 + Int.toNat from_ * 13, none⟩)) (b := I (s3 : Int)) (v := .pointer (some ⟨b_w_, (2 + Int.toNat from_ * 13) + Int.toNat (s3 : Int) * 1, none⟩)) rfl rfl (run_indexS Try.underlying114 Sz3 (by omega) (by omega))) ?_
        refine d_q rfl (fun w' H => x_ld (p := .pointer (some ⟨b_w_, (2 + Int.toNat from_ * 13) + Int.toNat (s3 : Int) * 1, none⟩)) (v := I (s.getD ((Int.toNat from_) * 13 + s3) 0)) rfl (ldS (α := Int) (k := 1) (off := 2) (i := (Int.toNat from_) * 13 + s3) (f := 0) (sz := 1) 0 Sc3 (H.blk (k := 1) rfl) rfl (sgo1 rfl) rfl (by decide) (by have hl_ := hl_s; omega) (by omega) rfl)) ?_
        refine d_q rfl (fun w' H => x_ld (p := .pointer (some ⟨b_1, 0, none⟩)) (v := .pointer (some ⟨b_w_, 0, none⟩)) rfl (ldb_sc Sc111 (H.blk (k := 8) rfl) rfl)) ?_
        refine d_q rfl (fun w' H => x_ld (p := .pointer (some ⟨b_7, 0, none⟩)) (v := .agg #[I x.line, B x.back]) rfl (ldb_ag (ds := [I x.line, B x.back]) Ag91 Sz91 (H.blk (k := 0) rfl) rfl rfl)) ?_
        refine d_l rfl ?_
        obtain ⟨r149z, hx148z, hM⟩ := M.e_bind hM
        refine s_call cf85 [.pointer (some ⟨b_w_, 0, none⟩), .agg #[I x.line, B x.back]] rfl (level_survey_rise_ok w__Net_Marks w__Net_Lines x (hC_w__Net_Lines.app _) hs_w__Net_Lines (Fld.here (k := 1) rfl rfl) hx148z _ (St.give (T := [cBlk b_7 [I x.line, B x.back] 91, cBlk b_w_ (List.flatten [[I w__Net_Marks, v_w__Net_Lines], encF (α := Int) s, encF (α := Leg) s2]) 120, cMk (D141z :: Ds119z), cBlk nb0_5 [.pointer (some ⟨b_w_, 0, none⟩)] 111, cBlk nb1_6 [I r10] 3, cBlk b_4 [I (s3 : Int)] 3, cBlk b_2 [.pointer (some ⟨b_w_, 2 + Int.toNat from_ * 13, none⟩)] 167, cBlk b_3 [.pointer (some ⟨b_w_, 171 + Int.toNat from_ * 26, none⟩)] 168, cBlk b_1 [.pointer (some ⟨b_w_, 0, none⟩)] 111]) H rfl)) ?_
        rintro vq w150z ⟨r2, hr151z, hvq, H2_⟩
        subst hr151z
        subst vq
        try dsimp only at hM
        replace H : St w w150z [cBlk b_7 [I x.line, B x.back] 91, cBlk b_w_ (List.flatten [[I w__Net_Marks, v_w__Net_Lines], encF (α := Int) s, encF (α := Leg) s2]) 120, cMk (D141z :: Ds119z), cBlk nb0_5 [.pointer (some ⟨b_w_, 0, none⟩)] 111, cBlk nb1_6 [I r10] 3, cBlk b_4 [I (s3 : Int)] 3, cBlk b_2 [.pointer (some ⟨b_w_, 2 + Int.toNat from_ * 13, none⟩)] 167, cBlk b_3 [.pointer (some ⟨b_w_, 171 + Int.toNat from_ * 26, none⟩)] 168, cBlk b_1 [.pointer (some ⟨b_w_, 0, none⟩)] 111] R := H.back H2_ rfl
        clear H2_
        refine s_nil ⟨(H.pick [0, 1, 2, 3, 4, 5, 6, 7, 8] (by decide) rfl), ?_⟩
        refine d_l rfl ?_
        refine t_bs (α := Int) T26 [I (s.getD ((Int.toNat from_) * 13 + s3) 0), I r2] [(s.getD ((Int.toNat from_) * 13 + s3) 0 : Int), (r2 : Int)] H rfl (.cons rfl (Flat.rep_enc _ (s.getD ((Int.toNat from_) * 13 + s3) 0 : Int)) <| .cons rfl (Flat.rep_enc _ (r2 : Int)) <| .nil) rfl rfl rfl ?_
        intro v152z w153z H
        have hvc_q154z := Sl.cells (ownSl (H.get (k := 0) rfl))
        have hvo_q154z := Sl.oc (ownSl (H.get (k := 0) rfl))
        refine s_nil ⟨(H.pick [1, 2, 3, 4, 5, 6, 7, 8, 9] (by decide) rfl), ?_⟩
        refine d_l rfl ?_
        obtain ⟨r156z, hx155z, hM⟩ := M.e_bind hM
        refine s_call cf105 [v152z] rfl (level_sum_ok ([(s.getD ((Int.toNat from_) * 13 + s3) 0 : Int), (r2 : Int)]) (Reads.of (k := 0) rfl ownLe) (ownSl (H.get (k := 0) rfl)) hx155z _ (St.give (T := [cOwn (α := Int) 3 v152z ([(s.getD ((Int.toNat from_) * 13 + s3) 0 : Int), (r2 : Int)]), cBlk b_7 [I x.line, B x.back] 91, cBlk b_w_ (List.flatten [[I w__Net_Marks, v_w__Net_Lines], encF (α := Int) s, encF (α := Leg) s2]) 120, cMk (D141z :: Ds119z), cBlk nb0_5 [.pointer (some ⟨b_w_, 0, none⟩)] 111, cBlk nb1_6 [I r10] 3, cBlk b_4 [I (s3 : Int)] 3, cBlk b_2 [.pointer (some ⟨b_w_, 2 + Int.toNat from_ * 13, none⟩)] 167, cBlk b_3 [.pointer (some ⟨b_w_, 171 + Int.toNat from_ * 26, none⟩)] 168, cBlk b_1 [.pointer (some ⟨b_w_, 0, none⟩)] 111]) H rfl)) ?_
        rintro vq w157z ⟨r3, hr158z, hvq, H2_⟩
        subst hr158z
        subst vq
        try dsimp only at hM
        replace H : St w w157z [cOwn (α := Int) 3 v152z ([(s.getD ((Int.toNat from_) * 13 + s3) 0 : Int), (r2 : Int)]), cBlk b_7 [I x.line, B x.back] 91, cBlk b_w_ (List.flatten [[I w__Net_Marks, v_w__Net_Lines], encF (α := Int) s, encF (α := Leg) s2]) 120, cMk (D141z :: Ds119z), cBlk nb0_5 [.pointer (some ⟨b_w_, 0, none⟩)] 111, cBlk nb1_6 [I r10] 3, cBlk b_4 [I (s3 : Int)] 3, cBlk b_2 [.pointer (some ⟨b_w_, 2 + Int.toNat from_ * 13, none⟩)] 167, cBlk b_3 [.pointer (some ⟨b_w_, 171 + Int.toNat from_ * 26, none⟩)] 168, cBlk b_1 [.pointer (some ⟨b_w_, 0, none⟩)] 111] R := H.back H2_ rfl
        clear H2_
        refine s_nil ⟨(H.pick [1, 2, 3, 4, 5, 6, 7, 8, 9] (by decide) rfl), ?_⟩
        refine d_q rfl (fun w' H => x_as (v := I r3) rfl) ?_
        refine d_nil ?_
        refine W.seq ?_
        refine W.draw (fun W => St w W [cOwn (α := Int) 3 v152z ([(s.getD ((Int.toNat from_) * 13 + s3) 0 : Int), (r2 : Int)]), cBlk b_7 [I x.line, B x.back] 91, cBlk b_w_ (List.flatten [[I w__Net_Marks, v_w__Net_Lines], encF (α := Int) s, encF (α := Leg) s2]) 120, cMk (D141z :: Ds119z), cBlk nb0_5 [.pointer (some ⟨b_w_, 0, none⟩)] 111, cBlk nb1_6 [I r10] 3, cBlk b_4 [I (s3 : Int)] 3, cBlk b_2 [.pointer (some ⟨b_w_, 2 + Int.toNat from_ * 13, none⟩)] 167, cBlk b_3 [.pointer (some ⟨b_w_, 171 + Int.toNat from_ * 26, none⟩)] 168, cBlk b_1 [.pointer (some ⟨b_w_, 0, none⟩)] 111] R) [(0, true), (1, true), (2, true), (3, true), (5, true), (4, false), (6, true), (7, true), (8, true)] mixed (by decide +kernel) rfl ?_
        intro w159z hx_
        replace H : St w w159z [cOwn (α := Int) 3 v152z ([(s.getD ((Int.toNat from_) * 13 + s3) 0 : Int), (r2 : Int)]), cBlk b_7 [I x.line, B x.back] 91, cBlk b_w_ (List.flatten [[I w__Net_Marks, v_w__Net_Lines], encF (α := Int) s, encF (α := Leg) s2]) 120, cMk (D141z :: Ds119z), cBlk nb0_5 [.pointer (some ⟨b_w_, 0, none⟩)] 111, cBlk nb1_6 [I r10] 3, cBlk b_4 [I (s3 : Int)] 3, cBlk b_2 [.pointer (some ⟨b_w_, 2 + Int.toNat from_ * 13, none⟩)] 167, cBlk b_3 [.pointer (some ⟨b_w_, 171 + Int.toNat from_ * 26, none⟩)] 168, cBlk b_1 [.pointer (some ⟨b_w_, 0, none⟩)] 111] R := H.ext hx_
        clear hx_
        refine ⟨(H.pick [0, 1, 2, 3, 4, 5, 6, 7, 8, 9] (by decide) rfl), ?_⟩
        refine d_q rfl (fun w' H => x_mv (v := I r3) rfl) ?_
        refine d_q rfl (fun w' H => x_ld (p := .pointer (some ⟨b_2, 0, none⟩)) (v := .pointer (some ⟨b_w_, 2 + Int.toNat from_ * 13, none⟩)) rfl (ldb_sc Sc167 (H.blk (k := 7) rfl) rfl)) ?_
        refine d_q rfl (fun w' H => x_ld (p := .pointer (some ⟨b_1, 0, none⟩)) (v := .pointer (some ⟨b_w_, 0, none⟩)) rfl (ldb_sc Sc111 (H.blk (k := 9) rfl) rfl)) ?_
        refine d_q rfl (fun w' H => x_ld (p := .pointer (some ⟨b_7, 0, none⟩)) (v := .agg #[I x.line, B x.back]) rfl (ldb_ag (ds := [I x.line, B x.back]) Ag91 Sz91 (H.blk (k := 1) rfl) rfl rfl)) ?_
        refine d_q rfl (fun w' H => x_nc (a := ⟨b_w_, 2 + Int.toNat from_ * 13, none⟩) rfl) ?_
        refine d_l rfl ?_
        obtain ⟨r161z, hx160z, hM⟩ := M.e_bind hM
        refine s_call cf84 [.pointer (some ⟨b_w_, 0, none⟩), .agg #[I x.line, B x.back]] rfl (level_survey_goal_ok w__Net_Marks w__Net_Lines x (hC_w__Net_Lines.app _) hs_w__Net_Lines (Fld.here (k := 2) rfl rfl) hx160z _ (St.give (T := [cOwn (α := Int) 3 v152z ([(s.getD ((Int.toNat from_) * 13 + s3) 0 : Int), (r2 : Int)]), cBlk b_7 [I x.line, B x.back] 91, cBlk b_w_ (List.flatten [[I w__Net_Marks, v_w__Net_Lines], encF (α := Int) s, encF (α := Leg) s2]) 120, cMk (D141z :: Ds119z), cBlk nb0_5 [.pointer (some ⟨b_w_, 0, none⟩)] 111, cBlk nb1_6 [I r10] 3, cBlk b_4 [I (s3 : Int)] 3, cBlk b_2 [.pointer (some ⟨b_w_, 2 + Int.toNat from_ * 13, none⟩)] 167, cBlk b_3 [.pointer (some ⟨b_w_, 171 + Int.toNat from_ * 26, none⟩)] 168, cBlk b_1 [.pointer (some ⟨b_w_, 0, none⟩)] 111]) H rfl)) ?_
        rintro vq w162z ⟨r4, hr163z, hvq, H2_⟩
        subst hr163z
        subst vq
        try dsimp only at hM
        replace H : St w w162z [cOwn (α := Int) 3 v152z ([(s.getD ((Int.toNat from_) * 13 + s3) 0 : Int), (r2 : Int)]), cBlk b_7 [I x.line, B x.back] 91, cBlk b_w_ (List.flatten [[I w__Net_Marks, v_w__Net_Lines], encF (α := Int) s, encF (α := Leg) s2]) 120, cMk (D141z :: Ds119z), cBlk nb0_5 [.pointer (some ⟨b_w_, 0, none⟩)] 111, cBlk nb1_6 [I r10] 3, cBlk b_4 [I (s3 : Int)] 3, cBlk b_2 [.pointer (some ⟨b_w_, 2 + Int.toNat from_ * 13, none⟩)] 167, cBlk b_3 [.pointer (some ⟨b_w_, 171 + Int.toNat from_ * 26, none⟩)] 168, cBlk b_1 [.pointer (some ⟨b_w_, 0, none⟩)] 111] R := H.back H2_ rfl
        clear H2_
        refine s_nil ⟨(H.pick [0, 1, 2, 3, 4, 5, 6, 7, 8, 9] (by decide) rfl), ?_⟩
        obtain ⟨sd164z, hM⟩ := M.e_grd hM
        simp only [Bool.and_eq_true, decide_eq_true_eq] at sd164z
        refine d_q rfl (fun w' H => x_ix (a := .pointer (some ⟨b_w_, 2 + Int.toNat from_ * 13, none⟩)) (b := I r4) (v := .pointer (some ⟨b_w_, (2 + Int.toNat from_ * 13) + Int.toNat r4 * 1, none⟩)) rfl rfl (run_indexS Try.underlying114 Sz3 (by omega) (by omega))) ?_
        refine d_q rfl (fun w' H => x_ld (p := .pointer (some ⟨b_w_, (2 + Int.toNat from_ * 13) + Int.toNat r4 * 1, none⟩)) (v := I (s.getD ((Int.toNat from_) * 13 + (Int.toNat r4)) 0)) rfl (ldS (α := Int) (k := 1) (off := 2) (i := (Int.toNat from_) * 13 + (Int.toNat r4)) (f := 0) (sz := 1) 0 Sc3 (H.blk (k := 2) rfl) rfl (sgo1 rfl) rfl (by decide) (by have hl_ := hl_s; omega) (by omega) rfl)) ?_
        refine d_q rfl (fun w' H => x_cmp (kd := .i64) (a := r3) (b := s.getD ((Int.toNat from_) * 13 + (Int.toNat r4)) 0) (r := decide (r3 < (s.getD ((Int.toNat from_) * 13 + (Int.toNat r4)) 0))) rfl rfl rfl) ?_
        refine d_nil ?_
        refine W.cond (decide (r3 < (s.getD ((Int.toNat from_) * 13 + (Int.toNat r4)) 0))) rfl (fun c165z => ?_) (fun c165z => ?_)
        ·replace hM := M.e_t hM c165z
         simp only [decide_eq_true_eq, decide_eq_false_iff_not, beq_iff_eq, bne_iff_ne, beq_eq_false_iff_ne, bne_eq_false_iff_eq, ne_eq, Decidable.not_not] at c165z
         refine W.draw (fun W => St w W [cOwn (α := Int) 3 v152z ([(s.getD ((Int.toNat from_) * 13 + s3) 0 : Int), (r2 : Int)]), cBlk b_7 [I x.line, B x.back] 91, cMk (D141z :: Ds119z), cBlk nb0_5 [.pointer (some ⟨b_w_, 0, none⟩)] 111, cBlk nb1_6 [I r10] 3, cBlk b_4 [I (s3 : Int)] 3, cBlk b_2 [.pointer (some ⟨b_w_, 2 + Int.toNat from_ * 13, none⟩)] 167, cBlk b_3 [.pointer (some ⟨b_w_, 171 + Int.toNat from_ * 26, none⟩)] 168, cBlk b_1 [.pointer (some ⟨b_w_, 0, none⟩)] 111] R) [(0, true), (1, true), (2, true), (4, true), (5, true), (6, true), (8, true), (9, true), (10, true), (13, true), (3, false), (7, false), (11, true), (12, false), (14, true), (15, false)] mixed (by decide +kernel) rfl ?_
         intro w166z hx_
         replace H : St w w166z [cOwn (α := Int) 3 v152z ([(s.getD ((Int.toNat from_) * 13 + s3) 0 : Int), (r2 : Int)]), cBlk b_7 [I x.line, B x.back] 91, cBlk b_w_ (List.flatten [[I w__Net_Marks, v_w__Net_Lines], encF (α := Int) s, encF (α := Leg) s2]) 120, cMk (D141z :: Ds119z), cBlk nb0_5 [.pointer (some ⟨b_w_, 0, none⟩)] 111, cBlk nb1_6 [I r10] 3, cBlk b_4 [I (s3 : Int)] 3, cBlk b_2 [.pointer (some ⟨b_w_, 2 + Int.toNat from_ * 13, none⟩)] 167, cBlk b_3 [.pointer (some ⟨b_w_, 171 + Int.toNat from_ * 26, none⟩)] 168, cBlk b_1 [.pointer (some ⟨b_w_, 0, none⟩)] 111] R := H.ext hx_
         clear hx_
         refine ⟨(H.pick [0, 1, 3, 4, 5, 6, 7, 8, 9] (by decide) rfl), ?_⟩
         refine d_q rfl (fun w' H => x_ld (p := .pointer (some ⟨b_2, 0, none⟩)) (v := .pointer (some ⟨b_w_, 2 + Int.toNat from_ * 13, none⟩)) rfl (ldb_sc Sc167 (H.blk (k := 6) rfl) rfl)) ?_
         refine d_q rfl (fun w' H => x_ld (p := .pointer (some ⟨b_1, 0, none⟩)) (v := .pointer (some ⟨b_w_, 0, none⟩)) rfl (ldb_sc Sc111 (H.blk (k := 8) rfl) rfl)) ?_
         refine d_q rfl (fun w' H => x_ld (p := .pointer (some ⟨b_7, 0, none⟩)) (v := .agg #[I x.line, B x.back]) rfl (ldb_ag (ds := [I x.line, B x.back]) Ag91 Sz91 (H.blk (k := 1) rfl) rfl rfl)) ?_
         refine d_q rfl (fun w' H => x_ld (p := .pointer (some ⟨b_3, 0, none⟩)) (v := .pointer (some ⟨b_w_, 171 + Int.toNat from_ * 26, none⟩)) rfl (ldb_sc Sc168 (H.blk (k := 7) rfl) rfl)) ?_
         refine d_q rfl (fun w' H => x_ld (p := .pointer (some ⟨b_1, 0, none⟩)) (v := .pointer (some ⟨b_w_, 0, none⟩)) rfl (ldb_sc Sc111 (H.blk (k := 8) rfl) rfl)) ?_
         refine d_q rfl (fun w' H => x_ld (p := .pointer (some ⟨b_7, 0, none⟩)) (v := .agg #[I x.line, B x.back]) rfl (ldb_ag (ds := [I x.line, B x.back]) Ag91 Sz91 (H.blk (k := 1) rfl) rfl rfl)) ?_
         refine d_q rfl (fun w' H => x_mv (v := I r3) rfl) ?_
         refine d_q rfl (fun w' H => x_ld (p := .pointer (some ⟨b_7, 0, none⟩)) (v := .agg #[I x.line, B x.back]) rfl (ldb_ag (ds := [I x.line, B x.back]) Ag91 Sz91 (H.blk (k := 1) rfl) rfl rfl)) ?_
         refine d_q rfl (fun w' H => x_nc (a := ⟨b_w_, 2 + Int.toNat from_ * 13, none⟩) rfl) ?_
         refine d_q rfl (fun w' H => x_nc (a := ⟨b_w_, 171 + Int.toNat from_ * 26, none⟩) rfl) ?_
         refine d_l rfl ?_
         obtain ⟨r168z, hx167z, hM⟩ := M.e_bind hM
         refine s_call cf84 [.pointer (some ⟨b_w_, 0, none⟩), .agg #[I x.line, B x.back]] rfl (level_survey_goal_ok w__Net_Marks w__Net_Lines x (hC_w__Net_Lines.app _) hs_w__Net_Lines (Fld.here (k := 2) rfl rfl) hx167z _ (St.give (T := [cOwn (α := Int) 3 v152z ([(s.getD ((Int.toNat from_) * 13 + s3) 0 : Int), (r2 : Int)]), cBlk b_7 [I x.line, B x.back] 91, cBlk b_w_ (List.flatten [[I w__Net_Marks, v_w__Net_Lines], encF (α := Int) s, encF (α := Leg) s2]) 120, cMk (D141z :: Ds119z), cBlk nb0_5 [.pointer (some ⟨b_w_, 0, none⟩)] 111, cBlk nb1_6 [I r10] 3, cBlk b_4 [I (s3 : Int)] 3, cBlk b_2 [.pointer (some ⟨b_w_, 2 + Int.toNat from_ * 13, none⟩)] 167, cBlk b_3 [.pointer (some ⟨b_w_, 171 + Int.toNat from_ * 26, none⟩)] 168, cBlk b_1 [.pointer (some ⟨b_w_, 0, none⟩)] 111]) H rfl)) ?_
         rintro vq w169z ⟨r5, hr170z, hvq, H2_⟩
         subst hr170z
         subst vq
         try dsimp only at hM
         replace H : St w w169z [cOwn (α := Int) 3 v152z ([(s.getD ((Int.toNat from_) * 13 + s3) 0 : Int), (r2 : Int)]), cBlk b_7 [I x.line, B x.back] 91, cBlk b_w_ (List.flatten [[I w__Net_Marks, v_w__Net_Lines], encF (α := Int) s, encF (α := Leg) s2]) 120, cMk (D141z :: Ds119z), cBlk nb0_5 [.pointer (some ⟨b_w_, 0, none⟩)] 111, cBlk nb1_6 [I r10] 3, cBlk b_4 [I (s3 : Int)] 3, cBlk b_2 [.pointer (some ⟨b_w_, 2 + Int.toNat from_ * 13, none⟩)] 167, cBlk b_3 [.pointer (some ⟨b_w_, 171 + Int.toNat from_ * 26, none⟩)] 168, cBlk b_1 [.pointer (some ⟨b_w_, 0, none⟩)] 111] R := H.back H2_ rfl
         clear H2_
         refine s_nil ⟨(H.pick [0, 1, 3, 4, 5, 6, 7, 8, 9] (by decide) rfl), ?_⟩
         refine d_l rfl ?_
         obtain ⟨r172z, hx171z, hM⟩ := M.e_bind hM
         refine s_call cf84 [.pointer (some ⟨b_w_, 0, none⟩), .agg #[I x.line, B x.back]] rfl (level_survey_goal_ok w__Net_Marks w__Net_Lines x (hC_w__Net_Lines.app _) hs_w__Net_Lines (Fld.here (k := 2) rfl rfl) hx171z _ (St.give (T := [cOwn (α := Int) 3 v152z ([(s.getD ((Int.toNat from_) * 13 + s3) 0 : Int), (r2 : Int)]), cBlk b_7 [I x.line, B x.back] 91, cBlk b_w_ (List.flatten [[I w__Net_Marks, v_w__Net_Lines], encF (α := Int) s, encF (α := Leg) s2]) 120, cMk (D141z :: Ds119z), cBlk nb0_5 [.pointer (some ⟨b_w_, 0, none⟩)] 111, cBlk nb1_6 [I r10] 3, cBlk b_4 [I (s3 : Int)] 3, cBlk b_2 [.pointer (some ⟨b_w_, 2 + Int.toNat from_ * 13, none⟩)] 167, cBlk b_3 [.pointer (some ⟨b_w_, 171 + Int.toNat from_ * 26, none⟩)] 168, cBlk b_1 [.pointer (some ⟨b_w_, 0, none⟩)] 111]) H rfl)) ?_
         rintro vq w173z ⟨r6, hr174z, hvq, H2_⟩
         subst hr174z
         subst vq
         try dsimp only at hM
         replace H : St w w173z [cOwn (α := Int) 3 v152z ([(s.getD ((Int.toNat from_) * 13 + s3) 0 : Int), (r2 : Int)]), cBlk b_7 [I x.line, B x.back] 91, cBlk b_w_ (List.flatten [[I w__Net_Marks, v_w__Net_Lines], encF (α := Int) s, encF (α := Leg) s2]) 120, cMk (D141z :: Ds119z), cBlk nb0_5 [.pointer (some ⟨b_w_, 0, none⟩)] 111, cBlk nb1_6 [I r10] 3, cBlk b_4 [I (s3 : Int)] 3, cBlk b_2 [.pointer (some ⟨b_w_, 2 + Int.toNat from_ * 13, none⟩)] 167, cBlk b_3 [.pointer (some ⟨b_w_, 171 + Int.toNat from_ * 26, none⟩)] 168, cBlk b_1 [.pointer (some ⟨b_w_, 0, none⟩)] 111] R := H.back H2_ rfl
         clear H2_
         refine s_nil ⟨(H.pick [0, 1, 3, 4, 5, 6, 7, 8, 9] (by decide) rfl), ?_⟩
         obtain ⟨sd175z, hM⟩ := M.e_grd hM
         simp only [Bool.and_eq_true, decide_eq_true_eq] at sd175z
         refine d_q rfl (fun w' H => x_ix (a := .pointer (some ⟨b_w_, 2 + Int.toNat from_ * 13, none⟩)) (b := I r5) (v := .pointer (some ⟨b_w_, (2 + Int.toNat from_ * 13) + Int.toNat r5 * 1, none⟩)) rfl rfl (run_indexS Try.underlying114 Sz3 (by omega) (by omega))) ?_
         refine d_l rfl ?_
         refine t_stS (α := Int) (kc := 2) (b := b_w_) (k := 1) (off := 2) (i := (Int.toNat from_) * 13 + (Int.toNat r5)) (f := 0) (sz := 1) (segs := [[I w__Net_Marks, v_w__Net_Lines], encF (α := Int) s, encF (α := Leg) s2]) (segs' := [[I w__Net_Marks, v_w__Net_Lines], encF (α := Int) (s.set ((Int.toNat from_) * 13 + (Int.toNat r5)) r3), encF (α := Leg) s2]) (l := s) (l' := s.set ((Int.toNat from_) * 13 + (Int.toNat r5)) r3) (vs := [I r3]) (L' := [cOwn (α := Int) 3 v152z ([(s.getD ((Int.toNat from_) * 13 + s3) 0 : Int), (r2 : Int)]), cBlk b_7 [I x.line, B x.back] 91, cBlk b_w_ (List.flatten [[I w__Net_Marks, v_w__Net_Lines], encF (α := Int) (s.set ((Int.toNat from_) * 13 + (Int.toNat r5)) r3), encF (α := Leg) s2]) 120, cMk (D141z :: Ds119z), cBlk nb0_5 [.pointer (some ⟨b_w_, 0, none⟩)] 111, cBlk nb1_6 [I r10] 3, cBlk b_4 [I (s3 : Int)] 3, cBlk b_2 [.pointer (some ⟨b_w_, 2 + Int.toNat from_ * 13, none⟩)] 167, cBlk b_3 [.pointer (some ⟨b_w_, 171 + Int.toNat from_ * 26, none⟩)] 168, cBlk b_1 [.pointer (some ⟨b_w_, 0, none⟩)] 111]) H rfl rfl rfl Sz3 rfl rfl rfl rfl (sgo1 rfl) rfl rfl (by have hl_ := hl_s; omega) (by omega) 0 r3 rfl rfl rfl rfl ?_
         intro w176z H
         have hl177z : (s.set ((Int.toNat from_) * 13 + (Int.toNat r5)) r3).length = 169 := List.length_set.trans hl_s
         refine s_nil ⟨(H.pick [0, 1, 3, 4, 5, 6, 7, 8, 9] (by decide) rfl), ?_⟩
         obtain ⟨sd178z, hM⟩ := M.e_grd hM
         simp only [Bool.and_eq_true, decide_eq_true_eq] at sd178z
         refine d_q rfl (fun w' H => x_ix (a := .pointer (some ⟨b_w_, 171 + Int.toNat from_ * 26, none⟩)) (b := I r6) (v := .pointer (some ⟨b_w_, (171 + Int.toNat from_ * 26) + Int.toNat r6 * 2, none⟩)) rfl rfl (run_indexS Try.underlying117 Sz91 (by omega) (by omega))) ?_
         refine d_l rfl ?_
         refine t_stS (α := Leg) (kc := 2) (b := b_w_) (k := 2) (off := 171) (i := (Int.toNat from_) * 13 + (Int.toNat r6)) (f := 0) (sz := 2) (segs := [[I w__Net_Marks, v_w__Net_Lines], encF (α := Int) (s.set ((Int.toNat from_) * 13 + (Int.toNat r5)) r3), encF (α := Leg) s2]) (segs' := [[I w__Net_Marks, v_w__Net_Lines], encF (α := Int) (s.set ((Int.toNat from_) * 13 + (Int.toNat r5)) r3), encF (α := Leg) (s2.set ((Int.toNat from_) * 13 + (Int.toNat r6)) x)]) (l := s2) (l' := s2.set ((Int.toNat from_) * 13 + (Int.toNat r6)) x) (vs := [I x.line, B x.back]) (L' := [cOwn (α := Int) 3 v152z ([(s.getD ((Int.toNat from_) * 13 + s3) 0 : Int), (r2 : Int)]), cBlk b_7 [I x.line, B x.back] 91, cBlk b_w_ (List.flatten [[I w__Net_Marks, v_w__Net_Lines], encF (α := Int) (s.set ((Int.toNat from_) * 13 + (Int.toNat r5)) r3), encF (α := Leg) (s2.set ((Int.toNat from_) * 13 + (Int.toNat r6)) x)]) 120, cMk (D141z :: Ds119z), cBlk nb0_5 [.pointer (some ⟨b_w_, 0, none⟩)] 111, cBlk nb1_6 [I r10] 3, cBlk b_4 [I (s3 : Int)] 3, cBlk b_2 [.pointer (some ⟨b_w_, 2 + Int.toNat from_ * 13, none⟩)] 167, cBlk b_3 [.pointer (some ⟨b_w_, 171 + Int.toNat from_ * 26, none⟩)] 168, cBlk b_1 [.pointer (some ⟨b_w_, 0, none⟩)] 111]) H rfl rfl rfl Sz91 rfl rfl rfl rfl (sgo2 hl177z rfl) rfl rfl (by have hl_ := hl_s2; omega) (by omega) default x rfl rfl rfl rfl ?_
         intro w179z H
         have hl180z : (s2.set ((Int.toNat from_) * 13 + (Int.toNat r6)) x).length = 169 := List.length_set.trans hl_s2
         refine s_nil ⟨(H.pick [0, 1, 3, 4, 5, 6, 7, 8, 9] (by decide) rfl), ?_⟩
         refine d_nil ?_
         exact ⟨(s.set ((Int.toNat from_) * 13 + (Int.toNat r5)) r3, s2.set ((Int.toNat from_) * 13 + (Int.toNat r6)) x), [cBlk b_w_ (List.flatten [[I w__Net_Marks, v_w__Net_Lines], encF (α := Int) (s.set ((Int.toNat from_) * 13 + (Int.toNat r5)) r3), encF (α := Leg) (s2.set ((Int.toNat from_) * 13 + (Int.toNat r6)) x)]) 120], (M.e_pure hM).symm, ⟨rfl, hl177z, hl180z⟩, H.pick [2, 3, 4, 5, 6, 7, 8, 9] (by decide) rfl⟩
        ·replace hM := M.e_f hM c165z
         simp only [decide_eq_true_eq, decide_eq_false_iff_not, beq_iff_eq, bne_iff_ne, beq_eq_false_iff_ne, bne_eq_false_iff_eq, ne_eq, Decidable.not_not] at c165z
         refine W.skip ?_
         exact ⟨(s, s2), [cBlk b_w_ (List.flatten [[I w__Net_Marks, v_w__Net_Lines], encF (α := Int) s, encF (α := Leg) s2]) 120], (M.e_pure hM).symm, ⟨rfl, hl_s, hl_s2⟩, H.pick [2, 3, 4, 5, 6, 7, 8, 9] (by decide) rfl⟩
       replace H : St w w143z (cAll (cObj l140z (.loop r142z) :: [cBlk b_w_ (List.flatten [[I w__Net_Marks, v_w__Net_Lines], encF (α := Int) s4, encF (α := Leg) s5]) 120]) :: [cMk (D141z :: Ds119z), cBlk nb0_5 [.pointer (some ⟨b_w_, 0, none⟩)] 111, cBlk nb1_6 [I r10] 3, cBlk b_4 [I (s3 : Int)] 3, cBlk b_2 [.pointer (some ⟨b_w_, 2 + Int.toNat from_ * 13, none⟩)] 167, cBlk b_3 [.pointer (some ⟨b_w_, 171 + Int.toNat from_ * 26, none⟩)] 168, cBlk b_1 [.pointer (some ⟨b_w_, 0, none⟩)] 111]) R := St.bundleB (A := cObj l140z (.loop r142z) :: [cBlk b_w_ (List.flatten [[I w__Net_Marks, v_w__Net_Lines], encF (α := Int) s4, encF (α := Leg) s5]) 120]) (T := [cMk (D141z :: Ds119z), cBlk nb0_5 [.pointer (some ⟨b_w_, 0, none⟩)] 111, cBlk nb1_6 [I r10] 3, cBlk b_4 [I (s3 : Int)] 3, cBlk b_2 [.pointer (some ⟨b_w_, 2 + Int.toNat from_ * 13, none⟩)] 167, cBlk b_3 [.pointer (some ⟨b_w_, 171 + Int.toNat from_ * 26, none⟩)] 168, cBlk b_1 [.pointer (some ⟨b_w_, 0, none⟩)] 111]) rfl (H.pick [0, 2, 1, 3, 4, 5, 6, 7, 8] (by decide) rfl)
       refine (level_survey_legs_1_ok (M.yl (m_level_survey_fill_b4 w__Net_Marks w__Net_Lines from_ s3)) (.inl (s4, s5)) w__Net_Marks w__Net_Lines r10 hYC ⟨_, rfl, ⟨rfl, hl_s4, hl_s5⟩⟩ (hC_w__Net_Lines.app _) hs_w__Net_Lines (by rintro (⟨s, s2⟩ | _) _ h_; (obtain ⟨_, rfl, rfl, _, _⟩ := h_; exact Fld.all (Fld.here (k := 1) rfl rfl)); (obtain ⟨_, _, h_⟩ := h_; exact h_.elim)) (Has.here (k := 1) rfl) (Has.here (k := 2) rfl) hx139z _ (St.give (A := [cAll (cObj l140z (.loop r142z) :: [cBlk b_w_ (List.flatten [[I w__Net_Marks, v_w__Net_Lines], encF (α := Int) s4, encF (α := Leg) s5]) 120])]) (T := [cMk (D141z :: Ds119z), cBlk nb0_5 [.pointer (some ⟨b_w_, 0, none⟩)] 111, cBlk nb1_6 [I r10] 3, cBlk b_4 [I (s3 : Int)] 3, cBlk b_2 [.pointer (some ⟨b_w_, 2 + Int.toNat from_ * 13, none⟩)] 167, cBlk b_3 [.pointer (some ⟨b_w_, 171 + Int.toNat from_ * 26, none⟩)] 168, cBlk b_1 [.pointer (some ⟨b_w_, 0, none⟩)] 111]) H rfl)).mono ?_
       rintro vq w181z ⟨t185z, Ls183z, hq186z, hvq, H2_, hY184z⟩
       subst hq186z
       replace H := H.back H2_ rfl
       clear H2_ hYC
       rcases t185z with ⟨s, s2⟩ | _
       ·try dsimp only at hM
        obtain ⟨_, rfl, rfl, hl_s, hl_s2⟩ := hY184z
        refine ⟨_, [cBlk b_w_ (List.flatten [[I w__Net_Marks, v_w__Net_Lines], encF (α := Int) s, encF (α := Leg) s2]) 120, cBlk nb0_5 [.pointer (some ⟨b_w_, 0, none⟩)] 111, cBlk nb1_6 [I r10] 3, cBlk b_4 [I (s3 : Int)] 3, cBlk b_2 [.pointer (some ⟨b_w_, 2 + Int.toNat from_ * 13, none⟩)] 167, cBlk b_3 [.pointer (some ⟨b_w_, 171 + Int.toNat from_ * 26, none⟩)] 168, cBlk b_1 [.pointer (some ⟨b_w_, 0, none⟩)] 111], H.unbundle.pick [0, 2, 1, 3, 4, 5, 6, 7, 8] (by decide) rfl, hr144z.nb, ?_⟩
        intro w182z H
        rw [hr144z.pd]
        replace H : St w w182z [cMk (D141z :: Ds119z), cBlk b_w_ (List.flatten [[I w__Net_Marks, v_w__Net_Lines], encF (α := Int) s, encF (α := Leg) s2]) 120, cBlk nb0_5 [.pointer (some ⟨b_w_, 0, none⟩)] 111, cBlk nb1_6 [I r10] 3, cBlk b_4 [I (s3 : Int)] 3, cBlk b_2 [.pointer (some ⟨b_w_, 2 + Int.toNat from_ * 13, none⟩)] 167, cBlk b_3 [.pointer (some ⟨b_w_, 171 + Int.toNat from_ * 26, none⟩)] 168, cBlk b_1 [.pointer (some ⟨b_w_, 0, none⟩)] 111] R := H
        try simp only []
        refine WD.of ?_
        refine W.region rfl ?_
        obtain ⟨sd187z, hM⟩ := M.e_grd hM
        simp only [Bool.and_eq_true, decide_eq_true_eq] at sd187z
        refine s_val (x_ari (a := (s3 : Int)) (b := 1) (r := (s3 : Int) + 1) rfl rfl rfl (by omega)) ?_
        refine s_val (x_mv (v := I ((s3 : Int) + 1)) rfl) ?_
        refine s_nil ?_
        exact ⟨m123z, lt124z, s3 + 1, s, s2, _, upds_of _ _ ⟨rfl, rfl, rfl, rfl, rfl, rfl, rfl, trivial⟩, M.e_inl hM hN126z, (H.pick [5, 6, 7, 0, 1] (by decide) rfl), hl_s, hl_s2⟩
       ·obtain ⟨_, _, h_⟩ := hY184z; exact h_.elim
     ·replace hM := M.e_f hM c127z
      simp only [decide_eq_true_eq, decide_eq_false_iff_not, beq_iff_eq, bne_iff_ne, beq_eq_false_iff_ne, bne_eq_false_iff_eq, ne_eq, Decidable.not_not] at c127z
      refine WD.of ?_
      refine W.exit ?_
      have hX188z := M.e_inr hM hN126z
      subst hX188z
      replace hM := hk118z
      try dsimp only at hM
      refine WD.of ?_
      refine W.region rfl ?_
      obtain ⟨sd189z, hM⟩ := M.e_grd hM
      simp only [Bool.and_eq_true, decide_eq_true_eq] at sd189z
      refine s_val (x_ari (a := (s8 : Int)) (b := 1) (r := (s8 : Int) + 1) rfl rfl rfl (by omega)) ?_
      refine s_val (x_mv (v := I ((s8 : Int) + 1)) rfl) ?_
      refine s_nil ?_
      exact ⟨m111z, lt112z, s4, s5, s8 + 1, _, upds_of _ _ ⟨rfl, rfl, rfl, rfl, rfl, trivial⟩, M.e_inl hM hN114z, H, hl_s4, hl_s5⟩
   ·replace hM := M.e_f hM c115z
    simp only [decide_eq_true_eq, decide_eq_false_iff_not, beq_iff_eq, bne_iff_ne, beq_eq_false_iff_ne, bne_eq_false_iff_eq, ne_eq, Decidable.not_not] at c115z
    refine WD.of ?_
    refine W.exit ?_
    have hX190z := M.e_inr hM hN114z
    subst hX190z
    replace hM := hk106z
    try dsimp only at hM
    refine bodyD_n (H.pick [3, 0, 1, 2, 4] (by decide) rfl) ?_
    intro w191z H
    replace H : St w w191z [cBlk b_2 [.pointer (some ⟨b_w_, 2 + Int.toNat from_ * 13, none⟩)] 167, cBlk b_3 [.pointer (some ⟨b_w_, 171 + Int.toNat from_ * 26, none⟩)] 168, cBlk b_1 [.pointer (some ⟨b_w_, 0, none⟩)] 111, cBlk b_w_ (List.flatten [[I w__Net_Marks, v_w__Net_Lines], encF (α := Int) s6, encF (α := Leg) s7]) 120] R := H
    have hr_ := M.e_pure hM
    exact ⟨_, resE_tmp0 rfl, ⟨s6, s7, hr_, rfl, (H.pick [3] (by decide) rfl), hl_s6, hl_s7⟩⟩

end Go.Proofs.Ytclhljenjphofaa
end
