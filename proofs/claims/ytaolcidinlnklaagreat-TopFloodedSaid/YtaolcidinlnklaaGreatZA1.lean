/- Part 1 of the texts on which the proof rests. Conditions: none. -/
import Derived.Calls
import Derived.Scope
import Derived.Sort.LoopGhostIn
import Derived.OrdersIn
import Derived.RangeFuncIn
import Derived.Deep.Quiet
import Derived.KernelRfl
import Derived.Laws.World
import Derived.Laws.Sem
import Derived.Laws.Cells
import Derived.Laws.Rows
import Derived.RowKit3
import Derived.Laws.Append
import Derived.Laws.AppendOwn
import Derived.Laws.Tables
import Derived.Laws.Externs
import Derived.Laws.Slices
import Derived.Laws.BitsLemmas
import Derived.Laws.MakeOwn
import Derived.Laws.CopyRow
import Derived.Great.BuildSlice
import Derived.MapKept
import Derived.Deep.Slices
import Derived.ChangeStays
import Derived.ChangeSame
import Derived.RowKit
import Derived.Laws.Cover3
import Derived.RangeFuncRecord
import Derived.Below
import Derived.Maps.RangeRun
import Derived.Laws.StructEq
set_option linter.unusedVariables false
set_option linter.unusedSimpArgs false
set_option linter.unusedSectionVars false
namespace Go.Nm
open Go
theorem qz1 {p : Prop} [Decidable p] : (decide p = true) = p := decide_eq_true_eq
theorem qz2 {p : Prop} [Decidable p] : (decide p = false) ↔ ¬p := decide_eq_false_iff_not
theorem qz3 {α : Type _} [BEq α] [LawfulBEq α] {a b : α} : (a == b) = true ↔ a = b := beq_iff_eq
theorem qz4 {α : Type _} [BEq α] [LawfulBEq α] {a b : α} : (a != b) = true ↔ a ≠ b := bne_iff_ne
theorem qz5 {α : Type _} [BEq α] [LawfulBEq α] {a b : α} : (a == b) = false ↔ a ≠ b := beq_eq_false_iff_ne
theorem qz6 {α : Type _} [BEq α] [LawfulBEq α] {a b : α} : (a != b) = false ↔ a = b := bne_eq_false_iff_eq
theorem qz7 {p : Prop} [Decidable p] : ¬¬p ↔ p := Decidable.not_not

/-- A frame, seen as a function. -/
abbrev Env:=Nat->Value
def upd (σ:Env) (d:Nat) (v:Value):Env:=fun k=>bif Nat.beq k d then v else σ k
def ev (σ:Env):Operand->Value
  | .tmp t=>σ t
  | .const v=>v
  | .global g=>.pointer (some ⟨g,0,none⟩)
  | .func f=>.func (.func f) #[] #[]

theorem upd_same (σ:Env) (d:Nat) (v:Value):upd σ d v d=v:=by
  unfold upd;rw [show Nat.beq d d=true from Nat.beq_refl d];rfl
theorem upd_ne (σ:Env) (d:Nat) (v:Value) {k:Nat} (h:k ≠ d):upd σ d v k=σ k:=by
  unfold upd;have:Nat.beq k d=false:=by
    cases hb:Nat.beq k d with
    | false=>rfl
    | true=>exact absurd (Nat.eq_of_beq_eq_true hb) h
  rw [this];rfl
theorem upd_self (σ:Env) (d:Nat):upd σ d (σ d)=σ:=by
  funext k
  by_cases h:k=d
  · subst h; exact upd_same ..
  · exact upd_ne _ _ _ h
/-- Any frame that has a value in a slot can be written so. -/
theorem upd_of {σ:Env} {d:Nat} {v:Value} (h:σ d=v):σ=upd σ d v:=by subst h; exact (upd_self σ d).symm

def upds (ρ:Env):List (Nat × Value)->Env
  | []=>ρ
  | (d,v) :: l=>upd (upds ρ l) d v
def Agree (σ:Env):List (Nat × Value)->Prop
  | []=>True
  | (d,v) :: l=>σ d=v/\Agree σ l
theorem upds_of (σ:Env):∀ (l:List (Nat × Value)),Agree σ l->σ=upds σ l
  | [],_=>rfl
  | (_,_) :: l,h=>by
    have ih:=upds_of σ l h.2;show σ=upd (upds σ l) _ _;rw [← ih];exact upd_of h.1
abbrev I (x:Int):Value:=.int .i64 x
abbrev B (b:Bool):Value:=.bool b
theorem eqI {a b:Int} (h:a=b):I a=I b:=by rw [h]
structure Fr (ds:List Deferred) (n:Nat) (σ:Env) (a:Act):Prop where
  df:a.defers=ds
  sz:a.tmps.size=n
  get:∀ k,a.tmps.getD k undef=σ k

theorem Fr.eval {ds:List Deferred} {n:Nat} {σ:Env} {a:Act} (h:Fr ds n σ a):a.eval=ev σ:=by
  funext x
  cases x <;> simp [Act.eval,ev,h.get]

theorem Fr.put {ds:List Deferred} {n:Nat} {σ:Env} {a:Act} (h:Fr ds n σ a) {d:Nat} (hd:d<n) (v:Value):Fr ds n (upd σ d v) (a.put (some d) v):=by
  refine ⟨h.df,by simpa [Act.put] using h.sz,fun k=>?_⟩;have hsz:=h.sz;by_cases e:k=d
  · subst e;rw [upd_same];simp only [Act.put,Array.getD_eq_getD_getElem?,Array.getElem?_setIfInBounds];simp [hsz,hd]
  · rw [upd_ne _ _ _ e,← h.get k];simp only [Act.put,Array.getD_eq_getD_getElem?,Array.getElem?_setIfInBounds];rw [if_neg (by omega)]

/-- What holds at an end, said of functions. -/
abbrev Post:=Exit->Env->World->Prop

/-- The fence that lets all by, in a round of a range over a function or in none. -/
def FR (r:Option Nat):Fence:={ Fence.wide with round:=r }
/-- Code in a frame of a round ('some l'), or of none. -/
def WR (r:Option Nat) (P:Program) (n:Nat) (c:Code) (Q:Post) (σ:Env) (w:World):Prop :=
  ∀ ds a,Fr ds n σ a->c.wpIn (FR r) 0 P (fun e a' w'=>∃ σ',Fr ds n σ' a'/\Q e σ' w') a w
abbrev W (P:Program) (n:Nat) (c:Code) (Q:Post) (σ:Env) (w:World):Prop:=WR none P n c Q σ w

def thenQ (K:Env->World->Prop) (Q:Post):Post
  | .normal,σ,w=>K σ w
  | e,σ,w=>Q e σ w
def noGotoQ (Q:Post):Post
  | .goto _,_,_=>False
  | e,σ,w=>Q e σ w
def blockQ (id:Nat) (Q:Post):Post
  | .exit i,σ,w=>bif Nat.beq i id then Q .normal σ w else Q (.exit i) σ w
  | e,σ,w=>Q e σ w

section rules
variable {r:Option Nat} {P:Program} {n:Nat} {Q:Post} {σ:Env} {w:World}
theorem W.mono {c:Code} {Q':Post} (h:WR r P n c Q σ w) (hq:∀ e σ w,Q e σ w->Q' e σ w):WR r P n c Q' σ w :=
  fun ds a ha=>wpIn_mono (h ds a ha) fun _ _ _ ⟨s,hs,h'⟩=>⟨s,hs,hq _ _ _ h'⟩
theorem W.skip (h:Q .normal σ w):WR r P n .skip Q σ w:=fun _ _ ha=>wpIn_skip ⟨σ,ha,h⟩
theorem W.exit {id:Nat} (h:Q (.exit id) σ w):WR r P n (.exit id) Q σ w:=fun _ _ ha=>wpIn_exit ⟨σ,ha,h⟩
theorem W.ret (h:Q .ret σ w):WR r P n .ret Q σ w:=fun _ _ ha=>wpIn_ret ⟨σ,ha,h⟩
theorem W.label {l:Nat} (h:Q .normal σ w):WR r P n (.label l) Q σ w:=fun _ _ ha=>wpIn_label ⟨σ,ha,h⟩
theorem W.scope {c:Code} (h:W P n c (noGotoQ Q) σ w):W P n (.scope c) Q σ w:=by
  intro ds a ha;refine (wpIn_wide (n:=0)).2 (wp_scope_straight (wp_mono ((wpIn_wide (n:=0)).1 (h ds a ha)) ?_));rintro e a' w' ⟨s,hs,h'⟩;cases e with
  | goto l=>exact h'.elim
  | _=>exact ⟨s,hs,h'⟩
theorem W.seq {x y:Code} (h:WR r P n x (thenQ (WR r P n y Q) Q) σ w):WR r P n (.seq x y) Q σ w:=by
  intro ds a ha;refine wpIn_seq (wpIn_mono (h ds a ha) ?_);rintro e a' w' ⟨s,hs,h'⟩;cases e with
  | normal=>exact h' ds a' hs
  | _=>exact ⟨s,hs,h'⟩
theorem W.cond {c:Operand} {x y:Code} (b:Bool) (hc:ev σ c = .bool b) (ht:b=true->WR r P n x Q σ w) (hf:b=false->WR r P n y Q σ w) :
    WR r P n (.cond c x y) Q σ w:=by
  intro ds a ha;refine wpIn_cond_split (t:=b) (by rw [ha.eval]; exact hc) (fun h=>ht h ds a ha) (fun h=>hf h ds a ha)
theorem W.block {id:Nat} {c:Code} (h:WR r P n c (blockQ id Q) σ w):WR r P n (.block id c) Q σ w:=by
  intro ds a ha;refine wpIn_block (wpIn_mono (h ds a ha) ?_);rintro e a' w' ⟨s,hs,h'⟩;cases e with
  | exit i =>
    simp only [Exit.inBlock];unfold blockQ at h';by_cases e:i=id
    · subst e;rw [if_pos rfl];simp only [Nat.beq_refl,cond_true] at h';exact ⟨s,hs,h'⟩
    · rw [if_neg e];have:Nat.beq i id=false:=by
        cases hb:Nat.beq i id with
        | false=>rfl
        | true=>exact absurd (Nat.eq_of_beq_eq_true hb) e
      simp only [this,cond_false] at h';exact ⟨s,hs,h'⟩
  | _=>exact ⟨s,hs,h'⟩
/-- A loop, its measure a ghost: the relation at a number, each round at a lesser one. -/
theorem W.loop {c:Code} (I:Nat->Env->World->Prop) (h0':∃ m,I m σ w)
    (round:∀ m σ w,I m σ w->WR r P n c (thenQ (fun σ' w'=>∃ m',m'<m/\I m' σ' w') Q) σ w):WR r P n (.loop c) Q σ w:=by
  obtain ⟨m,h0⟩:=h0';intro ds a ha;refine wpIn_loop_ghost (fun m a w=>∃ σ,Fr ds n σ a/\I m σ w) m ⟨σ,ha,h0⟩ ?_;rintro m a w ⟨σ,ha,hI⟩;refine wpIn_mono (round m σ w hI ds a ha) ?_;rintro e a' w' ⟨s,hs,h'⟩;cases e with
  | normal =>
    obtain ⟨m',hlt,hI'⟩:=h';exact ⟨m',hlt,s,hs,hI'⟩
  | _=>exact ⟨s,hs,h'⟩
end rules

/-- The guard's reading. -/
def yieldedE (all:List Oper) (σ:Env) (j:Nat):Option Bool :=
  match (all[j]?).bind (·.dst) with
  | some d=>match σ d with
    | .bool b=>some b
    | _=>none
  | none=>none

theorem yielded_eq {ds:List Deferred} {n:Nat} {σ:Env} {a:Act} (h:Fr ds n σ a) (all:List Oper) (hok:∀ o∈all,∀ d,o.dst=some d->d<n) (j:Nat) :
    yielded all.toArray a.tmps j=yieldedE all σ j:=by
  unfold yielded yieldedE;cases hj:all[j]? with
  | none=>simp [hj]
  | some o =>
    cases hd:o.dst with
    | none=>simp [hj,hd]
    | some d =>
      have hlt:=hok o (List.mem_of_getElem? hj) d hd;have hg:=h.get d;rw [Array.getD_eq_getD_getElem?] at hg;have hs:a.tmps[d]?=some (a.tmps[d]'(by rw [h.sz]; exact hlt)):=by simp [h.sz,hlt]
      simp only [List.getElem?_toArray,hj,Option.bind_some,hd];rw [hs] at hg ⊢;simp only [Option.getD_some] at hg;rw [hg];cases σ d <;> rfl

def updo (σ:Env) (dst:Option Nat) (v:Value):Env:=match dst with | some d=>upd σ d v | none=>σ
/-- One operation: what it does, said of functions. -/
def opW (P:Program) (o:Oper) (K:Env->World->Prop) (σ:Env) (w:World):Prop :=
  match (execOp (ev σ) o).run P w with
  | .ok (.value v) w'=>K (updo σ o.dst v) w'
  | .ok .skip w'=>K (updo σ o.dst undef) w'
  | .ok (.enter f args) w'=>Calls P f args w' fun e w''=>∃ v,e = .returned v/\K (updo σ o.dst v) w''
  | .ok (.round l f tmps assign body) w'=>RoundIn Fence.wide 0 P l f tmps assign body w' fun e w''=>∃ v,e = .returned v/\K (updo σ o.dst v) w''
  | _=>False

def SL (P:Program) (all:List Oper) (Q:Post):List Oper->Env->World->Prop
  | [],σ,w=>Q .normal σ w
  | o :: rest,σ,w =>
    match o.guard with
    | none=>opW P o (SL P all Q rest) σ w
    | some (j,want) =>
      if yieldedE all σ j==some want then opW P o (SL P all Q rest) σ w
      else SL P all Q rest (updo σ o.dst undef) w

def okDst (n:Nat) (l:List Oper):Bool:=l.all fun o=>match o.dst with | some d=>Nat.blt d n | none=>true
theorem okDst_spec {n:Nat} {l:List Oper} (h:okDst n l=true):∀ o∈l,∀ d,o.dst=some d->d<n:=by
  intro o ho d hd;have:=List.all_eq_true.1 h o ho;rw [hd] at this;exact of_eq_true (Nat.blt_eq ▸ eq_true this)

theorem Fr.puto {ds:List Deferred} {n:Nat} {σ:Env} {a:Act} (h:Fr ds n σ a) {dst:Option Nat} (hd:∀ d,dst=some d->d<n) (v:Value) :
    Fr ds n (updo σ dst v) (a.put dst v):=by
  cases dst with
  | none=>exact h
  | some d=>exact h.put (hd d rfl) v
theorem execOp_defer {P:Program} {ρ:Operand->Value} {o:Oper} {c:Call} (h:o.op = .defer c) {w w':World} {x:Next} (hr:(execOp ρ o).run P w = .ok x w'):∃ d,x = .defer d:=by
  simp only [execOp,h,Sem.run_bind] at hr;cases hq:(resolve ρ c o.type).run P w with
  | halt z w1=>rw [hq] at hr; cases hr
  | ok d w1 =>
    rw [hq] at hr;simp at hr;exact ⟨d,hr.1.symm⟩
theorem opW_semAt {P:Program} {o:Oper} {σ:Env} {w:World} (r:Option Nat) (h:∀ d w',(execOp (ev σ) o).run P w ≠ .ok (.defer d) w') (h2:∀ x w',(execOp (ev σ) o).run P w ≠ .halt x w'):(o.semAt r (ev σ)).run P w=(execOp (ev σ) o).run P w:=by
  rw [Oper.semAt_eq];intro c hc;cases hr:(execOp (ev σ) o).run P w with
  | halt x w'=>exact h2 x w' hr
  | ok x w' =>
    obtain ⟨d,rfl⟩:=execOp_defer hc hr;exact h d w' hr
theorem roundFR {r:Option Nat} {P:Program} {l f:Nat} {tmps:Array Value} {assign body:Code} {w:World} {R:Ending->World->Prop} (h:RoundIn Fence.wide 0 P l f tmps assign body w R):RoundIn (FR r) (0-1) P l f tmps assign body w R:=h
theorem callsFR {r:Option Nat} {P:Program} {f:FuncId} {args:Array Value} {w:World} {R:Ending->World->Prop} (h:Calls P f args w R):CallsIn (FR r) (0-1) P f args w R :=
  show CallsIn Fence.wide 0 P f args w R from callsIn_wide.2 h
theorem opW_wp {r:Option Nat} {P:Program} {ds:List Deferred} {n:Nat} {o:Oper} {K:Env->World->Prop} {σ:Env} {w:World} (hd:∀ d,o.dst=some d->d<n) {a:Act} (ha:Fr ds n σ a)
    {next:Act->World->Prop} {Q:Exit->Act->World->Prop} (hK:∀ σ' a' w',Fr ds n σ' a'->K σ' w'->next a' w') (h:opW P o K σ w):o.wpIn (FR r) 0 P a w next Q:=by
  refine ⟨fun _ _=>trivial,?_⟩;unfold opW at h;rw [ha.eval,opW_semAt (FR r).round (fun d w' hc=>by rw [hc] at h; exact h) (fun x w' hc=>by rw [hc] at h; exact h)];generalize (execOp (ev σ) o).run P w=res at *;cases res with
  | halt x w'=>exact h.elim
  | ok x w' =>
    cases x with
    | value v=>exact hK _ _ _ (ha.puto hd v) h
    | skip=>exact hK _ _ _ (ha.puto hd undef) h
    | enter f args =>
      refine ⟨fun hc=>by simp [FR,Fence.wide] at hc,callsFR (h.mono ?_)⟩;rintro e w'' ⟨v,rfl,hk⟩;exact hK _ _ _ (ha.puto hd v) hk
    | round l f tmps assign body =>
      refine ⟨fun hc=>by simp [FR,Fence.wide] at hc,roundFR (h.mono ?_)⟩;rintro e w'' ⟨v,rfl,hk⟩;exact hK _ _ _ (ha.puto hd v) hk
    | _=>exact h.elim

theorem SL_wpOps {r:Option Nat} {P:Program} {ds:List Deferred} {n:Nat} {Q:Post} (all:List Oper) (hok:∀ o∈all,∀ d,o.dst=some d->d<n):∀ (l:List Oper) (k:Nat),
    (∀ j,l[j]?=all[k+j]?)->∀ (σ:Env) (w:World) (a:Act),Fr ds n σ a->SL P all Q l σ w →
    wpOpsIn (FR r) 0 P all.toArray (fun e a' w'=>∃ σ',Fr ds n σ' a'/\Q e σ' w') (List.range' k l.length) a w
  | [],_,_,σ,_,_,ha,h=>⟨σ,ha,h⟩
  | o :: rest,k,hl,σ,w,a,ha,h=>by
    have h0:all[k]?=some o:=by simpa using (hl 0).symm
    have hmem:o∈all:=List.mem_of_getElem? h0;have ih:=SL_wpOps (r:=r) (P:=P) (ds:=ds) (Q:=Q) all hok rest (k+1) (fun j=>by have:=hl (j+1); simpa [Nat.add_assoc,Nat.add_comm 1 j] using this);simp only [List.length_cons,List.range'_succ,wpOpsIn,List.getElem?_toArray,h0];simp only [SL] at h;have hy:=yielded_eq ha all hok;cases hg:o.guard with
    | none =>
      rw [hg] at h;simp only [Region.wanted,hg,if_true];exact opW_wp (hok o hmem) ha (fun σ' a' w' ha' hk=>ih σ' w' a' ha' hk) h
    | some g =>
      obtain ⟨j,want⟩:=g;rw [hg] at h;simp only [Region.wanted,hg];rw [hy];dsimp only at h;by_cases hw:(yieldedE all σ j==some want)=true
      · rw [if_pos hw] at h;rw [if_pos hw];exact opW_wp (hok o hmem) ha (fun σ' a' w' ha' hk=>ih σ' w' a' ha' hk) h
      · rw [if_neg hw] at h;rw [if_neg hw];exact ⟨fun _ _=>trivial,ih _ _ _ (ha.puto (hok o hmem) undef) h⟩

theorem W.region {r:Option Nat} {P:Program} {n:Nat} {Q:Post} {σ:Env} {w:World} {id:Nat} {l:List Oper} (hok:okDst n l=true) (h:SL P l Q l σ w) :
    WR r P n (.region id l.toArray false) Q σ w:=by
  intro ds a ha;refine wpIn_region ?_;have:=SL_wpOps (r:=r) (P:=P) (ds:=ds) (Q:=Q) l (okDst_spec hok) l 0 (by simp) σ w a ha h
  simpa [List.range_eq_range'] using this

/-! ### The body of a function -/
def argE (args:Array Value):Env:=fun k=>args.getD k undef
/-- What a function hands back. -/
def resE (P:Program) (fn:Func) (σ:Env) (w:World) (v:Value):Prop :=
  ∀ tmps:Array Value,(∀ k,tmps.getD k undef=σ k)->(results fn tmps).run P w = .ok v w
def bodyQ (P:Program) (fn:Func) (R:Value->World->Prop):Post
  | .normal,σ,w | .ret,σ,w=>∃ v,resE P fn σ w v/\R v w
  | _,_,_=>False

/-- A call that returns. -/
def Ret (P:Program) (f:FuncId) (args:Array Value) (w:World) (R:Value->World->Prop):Prop :=
  Calls P f args w fun e w'=>∃ v,e = .returned v/\R v w'
theorem Ret.mono {P:Program} {f:FuncId} {args:Array Value} {w:World} {R R':Value->World->Prop} (h:Ret P f args w R) (hr:∀ v w',R v w'->R' v w'):Ret P f args w R' :=
  Calls.mono h fun _ _ ⟨v,e,r⟩=>⟨v,e,hr _ _ r⟩

theorem ret_of_W {P:Program} {f:FuncId} {fn:Func} {c:Code} {n:Nat} {args:Array Value} {w:World} {R:Value->World->Prop}
    (hf:P.funcs[f]?=some fn) (hb:fn.body=some c) (hn:fn.ntmps=n) (hle':Nat.ble args.size n=true)
    (h:W P n c (bodyQ P fn R) (argE args) w):Ret P f args w R:=by
  have hle:=Nat.le_of_ble_eq_true hle';subst hn;refine calls_of_wp hf hb (wp_mono ((wpIn_wide (n:=0)).1 (h [] _ ⟨rfl,?_,fun k=>?_⟩)) ?_)
  · simp; omega
  · simp only [argE,Array.getD_eq_getD_getElem?,Array.getElem?_append];by_cases hk:k<args.size
    · simp [hk]
    · rw [if_neg hk];simp only [Array.getElem?_replicate];have:args[k]?=none:=by simp; omega
      rw [this];split <;> rfl
  · rintro e a' w' ⟨s,hs,h'⟩;cases e with
    | normal =>
      obtain ⟨v,hr,hR⟩:=h';exact ⟨hs.df,v,hr _ hs.get,v,rfl,hR⟩
    | ret =>
      obtain ⟨v,hr,hR⟩:=h';exact ⟨hs.df,v,hr _ hs.get,v,rfl,hR⟩
    | _=>exact h'.elim

theorem resE_tmp {P:Program} {fn:Func} {σ:Env} {w:World} {t:Nat} (h:fn.results = #[.tmp t]):resE P fn σ w (σ t):=by
  intro tmps ht;simp [results,h,ht]
theorem resE_tmp2 {P:Program} {fn:Func} {σ:Env} {w:World} {t u:Nat} (h:fn.results = #[.tmp t,.tmp u]):resE P fn σ w (.tuple #[σ t,σ u]):=by
  intro tmps ht;simp [results,h,ht]
theorem resE_tmp3 {P:Program} {fn:Func} {σ:Env} {w:World} {t u x:Nat} (h:fn.results = #[.tmp t,.tmp u,.tmp x]):resE P fn σ w (.tuple #[σ t,σ u,σ x]):=by
  intro tmps ht;simp [results,h,ht]
theorem resE_tmp4 {P:Program} {fn:Func} {σ:Env} {w:World} {t u x y:Nat} (h:fn.results = #[.tmp t,.tmp u,.tmp x,.tmp y]):resE P fn σ w (.tuple #[σ t,σ u,σ x,σ y]):=by
  intro tmps ht;simp [results,h,ht]
theorem resE_tmp0 {P:Program} {fn:Func} {σ:Env} {w:World} (h:fn.results = #[]):resE P fn σ w (.tuple #[]):=by
  intro tmps ht;simp [results,h]
end Go.Nm
namespace Go.Nm
open Go

/-! ### Worlds -/
/-- Nothing that was there has changed; new blocks may stand behind it. -/
structure Ext (w w':World):Prop where
  os:w'.os=w.os
  out:w'.output=w.output
  size:w.heap.size<=w'.heap.size
  blk:∀ b,b<w.heap.size->w'.heap[b]?=w.heap[b]?
  fz:∀ a,w'.frozen? a=w.frozen? a
theorem Ext.refl (w:World):Ext w w:=⟨rfl,rfl,Nat.le_refl _,fun _ _=>rfl,fun _=>rfl⟩
theorem Ext.trans {a b c:World} (h:Ext a b) (k:Ext b c):Ext a c :=
  ⟨k.os.trans h.os,k.out.trans h.out,Nat.le_trans h.size k.size,fun i hi=>(k.blk i (Nat.lt_of_lt_of_le hi h.size)).trans (h.blk i hi),fun x=>(k.fz x).trans (h.fz x)⟩
theorem heap_lt {w:World} {b:Nat} {o:Obj} (h:w.heap[b]?=some o):b<w.heap.size:=(Array.getElem?_eq_some_iff.1 h).1
theorem Ext.get {w w':World} (h:Ext w w') {b:Nat} {o:Obj} (hb:w.heap[b]?=some o):w'.heap[b]?=some o:=(h.blk b (heap_lt hb)).trans hb
theorem Ext.cell {w w':World} (h:Ext w w') {a:Addr} {v:Value} (hc:w.cell? a=some v):w'.cell? a=some v :=
  (World.cell?_of_block (h.blk _ (World.block_lt_of_cell? w a hc))).trans hc
theorem Ext.drew (w:World):Ext w w.drew:=⟨rfl,rfl,Nat.le_refl _,fun _ _=>rfl,fun _=>rfl⟩
theorem heapOld (w:World) (o:Obj) (i:Nat) (h:i<w.heap.size):(w.alloc o).heap[i]?=w.heap[i]?:=by
  show (w.heap.push o)[i]?=_;rw [Array.getElem?_push,if_neg (by omega)]
theorem Ext.allocCells (w:World) (c:Array Value) (t:TypeId):Ext w (w.alloc (.cells c t)) :=
  ⟨rfl,rfl,by simp,fun b hb=>heapOld w _ b hb,fun a=>Go.RowKit.frozen?_alloc_cells w c t a⟩
theorem Ext.allocMap (w:World) (es:Array MapEntry) (n:Nat):Ext w (w.alloc (.map es n)):=by
  refine ⟨rfl,rfl,by simp,fun b hb=>heapOld w _ b hb,fun a=>?_⟩;by_cases h:a.block=w.heap.size
  · have e1:(w.alloc (.map es n)).heap[a.block]?=some (.map es n):=by rw [h]; exact heap_alloc_new w _
    have e2:w.heap[a.block]?=none:=by rw [h]; simp
    simp [World.frozen?,e1,e2]
  · exact World.frozen?_alloc_old _ _ _ h
theorem Ext.grown {w w':World} (h:Ext w w'):Go.RowKit.Grown w w':=by
  refine ⟨⟨h.os,h.out,fun i hi=>?_⟩,h.fz,h.size⟩;rw [h.blk i hi];cases w.heap[i]? with
  | none=>simp
  | some o=>cases o <;> simp

/-- One block has another content, the others are as they were. -/
structure Put (w:World) (b:Nat) (o:Obj) (w':World):Prop where
  os:w'.os=w.os
  out:w'.output=w.output
  size:w'.heap.size=w.heap.size
  same:w'.heap[b]?=some o
  other:∀ k,k ≠ b->w'.heap[k]?=w.heap[k]?
  fz:∀ a,w'.frozen? a=w.frozen? a
theorem Put.get {w w':World} {b:Nat} {o:Obj} (h:Put w b o w') {k:Nat} {x:Obj} (hne:k ≠ b) (hk:w.heap[k]?=some x):w'.heap[k]?=some x:=(h.other k hne).trans hk
theorem Ext.put {w0 w w':World} {b:Nat} {o:Obj} (h:Ext w0 w) (hb:w0.heap.size<=b) (p:Put w b o w'):Ext w0 w' :=
  ⟨p.os.trans h.os,p.out.trans h.out,by rw [p.size]; exact h.size,fun k hk=>(p.other k (by omega)).trans (h.blk k hk),fun a=>(p.fz a).trans (h.fz a)⟩
/-- A new block. -/
structure New (w:World) (b:Nat) (o:Obj) (w':World):Prop where
  ext:Ext w w'
  ge:w.heap.size<=b
  same:w'.heap[b]?=some o
theorem New.lt {w w':World} {b:Nat} {o:Obj} (h:New w b o w'):b<w'.heap.size:=heap_lt h.same
theorem New.alloc (w:World) (c:Array Value) (t:TypeId):New w w.heap.size (.cells c t) (w.alloc (.cells c t)):=⟨.allocCells ..,Nat.le_refl _,heap_alloc_new w _⟩
theorem New.allocMap (w:World) (es:Array MapEntry) (n:Nat):New w w.heap.size (.map es n) (w.alloc (.map es n)):=⟨.allocMap ..,Nat.le_refl _,heap_alloc_new w _⟩

/-! ### Data in memory -/
abbrev Cells:=Addr->Option Value
def Cells.Le (C D:Cells):Prop:=∀ a v,C a=some v->D a=some v
theorem Cells.Le.refl (C:Cells):C.Le C:=fun _ _ h=>h
theorem Cells.Le.trans {A B C:Cells} (h:A.Le B) (k:B.Le C):A.Le C:=fun a v x=>k a v (h a v x)
/-- The cells of the blocks from one on. -/
def frm (w:World) (lo:Nat):Cells:=fun a=>if lo<=a.block then w.cell? a else none
/-- The cells of all blocks but one. -/
def wo (C:Cells) (b:Nat):Cells:=fun a=>if a.block=b then none else C a
theorem frm_le (w:World) (lo:Nat):(frm w lo).Le w.cell?:=fun a v h=>by unfold frm at h; split at h <;> simp_all
theorem Ext.le {w w':World} (h:Ext w w'):Cells.Le w.cell? w'.cell?:=fun _ _ hc=>h.cell hc
theorem Put.le_wo {w w':World} {b:Nat} {o:Obj} (h:Put w b o w'):(wo w.cell? b).Le (wo w'.cell? b):=fun a v hc=>by
  unfold wo at *; split at hc
  · cases hc
  · rename_i hl; rw [if_neg hl]; exact (World.cell?_of_block (h.other a.block hl)).trans hc
theorem Ext.le_wo {w w':World} (h:Ext w w') {b:Nat} (hb:w.heap.size<=b):Cells.Le w.cell? (wo w'.cell? b):=fun a v hc=>by
  unfold wo;have:=World.block_lt_of_cell? w a hc;rw [if_neg (by omega)]; exact h.cell hc

/-- How a kind of data lies in cells, and reads as a value. -/
class Elt (α:Type) where
  rep:Cells->List Value->α->Prop
  sz:Nat
  agg:Bool
  sz_pos:0<sz
  len:∀ {C cs x},rep C cs x->cs.length=sz
  mono:∀ {C D cs x},Cells.Le C D->rep C cs x->rep D cs x
  one:∀ {C cs x},rep C cs x->∀ v∈cs,v.oneCell'=true
/-- The cells as one value. -/
def vof (agg:Bool) (cs:List Value):Value:=bif agg then .agg cs.toArray else cs.headD undef

/-- A value is a slice that reads as a list. -/
structure Sl {α:Type} [Elt α] (C:Cells) (v:Value) (l:List α):Prop where
  ex:∃ (a:Option Addr) (c:Nat),v = .slice a l.length c/\l.length<=c/\c<=9223372036854775807 ∧
    ∀ k x,l[k]?=some x->∃ b o cs,a=some ⟨b,o,none⟩/\Elt.rep C cs x/\∀ j y,cs[j]?=some y->C ⟨b,o+k*Elt.sz α+j,none⟩=some y
theorem Sl.mono {α:Type} [Elt α] {C D:Cells} {v:Value} {l:List α} (h:Sl C v l) (hle:Cells.Le C D):Sl D v l:=by
  obtain ⟨a,c,hv,hc,hm,hk⟩:=h.ex;refine ⟨a,c,hv,hc,hm,fun k x hx=>?_⟩;obtain ⟨b,o,cs,ha,hr,hy⟩:=hk k x hx;exact ⟨b,o,cs,ha,Elt.mono hle hr,fun j y hj=>hle _ _ (hy j y hj)⟩
theorem Sl.nil {α:Type} [Elt α] (C:Cells):Sl C (.slice none 0 0) ([]:List α) :=
  ⟨none,0,rfl,Nat.le_refl _,by omega,fun k x h=>by simp at h⟩
theorem Sl.len_le {α:Type} [Elt α] {C:Cells} {v:Value} {l:List α} (h:Sl C v l):l.length<=9223372036854775807:=by
  obtain ⟨a,c,_,hc,hm,_⟩:=h.ex;exact Nat.le_trans hc hm
theorem Sl.slen {α:Type} [Elt α] {C:Cells} {v:Value} {l:List α} (h:Sl C v l):∃ a c,v = .slice a l.length c:=by
  obtain ⟨a,c,hv,_⟩:=h.ex;exact ⟨a,c,hv⟩

/-- The place of an element. -/
def vat (v:Value) (sz k:Nat):Value:=match v with
  | .slice (some a) _ _=>.pointer (some (a.add (k*sz)))
  | _=>undef
/-- The place of a field. -/
def fat (v:Value) (off:Nat):Value:=match v with
  | .pointer (some a)=>.pointer (some (a.add off))
  | _=>undef
theorem add_lit (b o n:Nat):(⟨b,o,none⟩:Addr).add n=⟨b,o+n,none⟩:=by unfold Addr.add; split <;> simp_all
/-- At a place lie these cells. -/
def At (C:Cells) (p:Value) (cs:List Value):Prop:=∃ b o,p = .pointer (some ⟨b,o,none⟩)/\∀ j y,cs[j]?=some y->C ⟨b,o+j,none⟩=some y
theorem At.mono {C D:Cells} {p:Value} {cs:List Value} (h:At C p cs) (hle:Cells.Le C D):At D p cs:=by
  obtain ⟨b,o,hp,hc⟩:=h;exact ⟨b,o,hp,fun j y hj=>hle _ _ (hc j y hj)⟩
theorem Sl.at {α:Type} [Elt α] {C:Cells} {v:Value} {l:List α} (h:Sl C v l) {k:Nat} {x:α} (hk:l[k]?=some x) :
    ∃ cs,At C (vat v (Elt.sz α) k) cs/\Elt.rep C cs x:=by
  obtain ⟨a,c,hv,_,_,hh⟩:=h.ex;obtain ⟨b,o,cs,ha,hr,hy⟩:=hh k x hk;refine ⟨cs,⟨b,o+k*Elt.sz α,?_,hy⟩,hr⟩;rw [hv,ha];simp [vat,add_lit]
/-- A part of what lies at a place. -/
theorem At.fld {C:Cells} {p:Value} {cs:List Value} (h:At C p cs) (off n:Nat):At C (fat p off) ((cs.drop off).take n):=by
  obtain ⟨b,o,hp,hc⟩:=h;refine ⟨b,o+off,by rw [hp]; simp [fat,add_lit],fun j y hj=>?_⟩;have:cs[off+j]?=some y:=by
    rw [List.getElem?_take] at hj;split at hj
    · rw [List.getElem?_drop] at hj; exact hj
    · cases hj
  have:=hc _ _ this;rw [show o+off+j=o+(off+j) from by omega];exact this

/-! ### Types -/
/-- A type of one cell that is no struct and no array. -/
def isSc:Option TypeDesc->Bool
  | some (.struct _)=>false
  | some (.array _ _)=>false
  | some _=>true
  | none=>false
def isAg:Option TypeDesc->Bool
  | some (.struct _)=>true
  | some (.array _ _)=>true
  | _=>false
section
variable {P:Program} {w:World}
theorem run_isAgg_sc {t:TypeId} (h:isSc (P.underlying t)=true):(isAgg t).run P w = .ok false w:=by
  cases hu:P.underlying t with
  | none=>rw [hu] at h; cases h
  | some d =>
    rw [hu] at h;unfold isAgg;rw [Sem.run_bind,run_underlying hu w];cases d <;> first | rfl | cases h
theorem run_isAgg_ag {t:TypeId} (h:isAg (P.underlying t)=true):(isAgg t).run P w = .ok true w:=by
  cases hu:P.underlying t with
  | none=>rw [hu] at h; cases h
  | some d =>
    rw [hu] at h;unfold isAgg;rw [Sem.run_bind,run_underlying hu w];cases d <;> first | rfl | cases h
theorem run_sizeOf {t n:Nat} (h:(P.info? t).map (·.size)=some n):(sizeOf t).run P w = .ok n w:=by
  cases hi:P.info? t with
  | none=>simp [hi] at h
  | some i=>simp [hi] at h; simp [sizeOf,typeInfo,hi,h]
theorem ld_sc {t:TypeId} (h:isSc (P.underlying t)=true) {p v:Value} (ha:At w.cell? p [v]):(Instr.loadAt t p).run P w = .ok v w:=by
  obtain ⟨b,o,rfl,hc⟩:=ha;have h0:=hc 0 v rfl;simp only [Nat.add_zero] at h0;simp [Instr.loadAt,Instr.sureAddr,loadVar,run_isAgg_sc h,h0]
theorem ld_ag {t:TypeId} (h:isAg (P.underlying t)=true) {p:Value} {cs:List Value} (hs:(P.info? t).map (·.size)=some cs.length) (ha:At w.cell? p cs) :
    (Instr.loadAt t p).run P w = .ok (.agg cs.toArray) w:=by
  obtain ⟨b,o,rfl,hc⟩:=ha;have hl:=run_loadCells_list (P:=P) w ⟨b,o,none⟩ cs (fun j v hv=>by rw [add_lit]; exact hc j v hv);simp [Instr.loadAt,Instr.sureAddr,loadVar,run_isAgg_ag h,run_sizeOf hs,hl]
theorem run_fieldAt {s:TypeId} {k off:Nat} {ft:TypeId}
    (h:(P.underlying s).bind (fun d=>match d with | .struct fs=>(fs[k]?).map (fun f=>(f.offset,f.type)) | _=>none)=some (off,ft))
    {n:Nat} (hn:(P.info? ft).map (·.size)=some (n+1)) {C:Cells} {p:Value} {cs:List Value} (ha:At C p cs):(Instr.fieldAt s p k).run P w = .ok (fat p off) w:=by
  obtain ⟨b,o,rfl,_⟩:=ha;cases hu:P.underlying s with
  | none=>simp [hu] at h
  | some d =>
    rw [hu] at h;cases d <;> simp only [Option.bind_some,reduceCtorEq] at h
    rename_i fs
    cases hf:fs[k]? with
    | none=>simp [hf] at h
    | some f =>
      simp [hf] at h;obtain ⟨h1,h2⟩:=h;subst h2;simp [Instr.fieldAt,run_underlying hu,hf,Instr.sureAddr,fieldPlace,run_sizeOf hn,fat,h1]
theorem run_indexAt {t e n:Nat} (hu:P.underlying t=some (.slice e)) (hs:(P.info? e).map (·.size)=some n) {v:Value} {len cap:Nat} {a:Option Addr} {b o:Nat}
    (hv:v = .slice a len cap) (ha:a=some ⟨b,o,none⟩) {kd:IntKind} {i:Int} (h0:0<=i) (h1:i<len):(Instr.indexAt t v (.int kd i)).run P w = .ok (vat v n i.toNat) w:=by
  subst hv ha;simp [Instr.indexAt,asIntOf,run_underlying hu,h0,h1,run_sizeOf hs,vat]
theorem Sl.ix {α:Type} [Elt α] {t e:Nat} (hu:P.underlying t=some (.slice e)) (hs:(P.info? e).map (·.size)=some (Elt.sz α)) {C:Cells} {v:Value} {l:List α} (h:Sl C v l)
    {kd:IntKind} {i:Int} (h0:0<=i) (h1:i<l.length):(Instr.indexAt t v (.int kd i)).run P w = .ok (vat v (Elt.sz α) i.toNat) w:=by
  obtain ⟨a,c,hv,_,_,hh⟩:=h.ex;have hlt:i.toNat<l.length:=by omega
  obtain ⟨b,o,cs,ha,_⟩:=hh i.toNat l[i.toNat] (by simp [hlt]);exact run_indexAt hu hs hv ha h0 h1
end
end Go.Nm
namespace Go.Nm
open Go

/-- Two integers of one kind, and what an operator makes of them. -/
def cmpV:BinOp->Int->Int->Option Bool
  | .eql,a,b=>some (a==b)
  | .neq,a,b=>some (a != b)
  | .lss,a,b=>some (decide (a<b))
  | .leq,a,b=>some (decide (a<=b))
  | .gtr,a,b=>some (decide (b<a))
  | .geq,a,b=>some (decide (b<=a))
  | _,_,_=>none
def ariV:BinOp->Int->Int->Option Int
  | .add,a,b=>some (a+b)
  | .sub,a,b=>some (a-b)
  | .mul,a,b=>some (a*b)
  | _,_,_=>none
theorem wrap64 {a:Int} (h:-9223372036854775808<=a/\a<=9223372036854775807):IntKind.i64.wrap a=a:=by
  rw [IntKind.wrap_i64]; omega
theorem lst1 {a a':Value} (h:a=a'):[a]=[a']:=by rw [h]
theorem lst2 {a a' b b':Value} (h:a=a') (k:b=b'):[a,b]=[a',b']:=by rw [h,k]
theorem lst3 {a a' b b' c c':Value} (h:a=a') (k:b=b') (l:c=c'):[a,b,c]=[a',b',c']:=by rw [h,k,l]
/-- A Go function that has a body of its own. -/
def CF (P : Program) (f : FuncId) : Prop := ∃ fn, P.funcs[f]? = some fn /\ fn.body.isSome = true /\ (fn.name == "runtime.NumGoroutine") = false

section
variable {P:Program} {all rest:List Oper} {Q:Post} {σ:Env} {w:World}
variable {d:Nat} {ty:TypeId} {pos:String} {af:Array Edge}

theorem amap {α β:Type} (f:α->β) (xs:Array α):xs.map f=(xs.toList.map f).toArray:=by rw [← Array.toList_map]
theorem run_callFunc {f:FuncId} (h:CF P f) (args:Array Value):(callFunc f args).run P w = .ok (.enter f args) w:=by
  obtain ⟨fn,hf,hb,hn⟩:=h;have hb':fn.body.isNone=false:=by cases h:fn.body <;> simp_all
  simp only [callFunc,Sem.run_bind,run_program,Result.andThen_ok,hf,hn,hb',Bool.false_eq_true,if_false,Sem.run_pure]

/-! ### What an operation yields ('g': its guard, whatever it is) -/
section
variable {g:Option (Nat × Bool)}
theorem x_mv {x:Operand} {v:Value} (h:ev σ x=v):(execOp (ev σ) ⟨some d,.move x,ty,pos,af,g⟩).run P w = .ok (.value v) w:=by subst h; rfl
theorem x_as {x:Operand} {v:Value} (h:ev σ x=v):(execOp (ev σ) ⟨some d,.assign x,ty,pos,af,g⟩).run P w = .ok (.value v) w:=by subst h; rfl
theorem x_cmp {op:BinOp} {t yt:TypeId} {x y:Operand} {kd:IntKind} {a b:Int} {r:Bool} (hx:ev σ x = .int kd a) (hy:ev σ y = .int kd b) (hr:cmpV op a b=some r) :
    (execOp (ev σ) ⟨some d,.binOp op t x y yt,ty,pos,af,g⟩).run P w = .ok (.value (.bool r)) w:=by
  cases op <;> simp only [cmpV,Option.some.injEq,reduceCtorEq] at hr <;> subst hr <;>
    simp [execOp,hx,hy,eqGuard,binOp,Op.intCmp]
theorem x_ari {op:BinOp} {t yt:TypeId} {x y:Operand} {a b r:Int} (hx:ev σ x = .int .i64 a) (hy:ev σ y = .int .i64 b) (hr:ariV op a b=some r)
    (h:-9223372036854775808<=r/\r<=9223372036854775807) :
    (execOp (ev σ) ⟨some d,.binOp op t x y yt,ty,pos,af,g⟩).run P w = .ok (.value (.int .i64 r)) w:=by
  cases op <;> simp only [ariV,Option.some.injEq,reduceCtorEq] at hr <;> subst hr <;>
    simp [execOp,hx,hy,eqGuard,binOp,Op.intArith,wrap64 h]
theorem x_quo {t yt:TypeId} {x y:Operand} {a b:Int} (hx:ev σ x = .int .i64 a) (hy:ev σ y = .int .i64 b) (h:0<=a/\a<=9223372036854775807/\0<b) :
    (execOp (ev σ) ⟨some d,.binOp .quo t x y yt,ty,pos,af,g⟩).run P w = .ok (.value (.int .i64 (a / b))) w:=by
  have h1:a.tdiv b=a / b:=Int.tdiv_eq_ediv_of_nonneg h.1;have h2:0<=a / b:=Int.ediv_nonneg h.1 (by omega);have h3:a / b<=a:=Int.ediv_le_self _ h.1;have h4:b ≠ 0:=by omega
  simp [execOp,hx,hy,eqGuard,binOp,Op.intDiv,h1,h4,wrap64 (a:=a / b) (by omega)]
theorem x_rem {t yt:TypeId} {x y:Operand} {a b:Int} {kd:IntKind} (hx:ev σ x = .int kd a) (hy:ev σ y = .int kd b) (h:b ≠ 0) :
    (execOp (ev σ) ⟨some d,.binOp .rem t x y yt,ty,pos,af,g⟩).run P w = .ok (.value (.int kd (a.tmod b))) w:=by
  simp [execOp,hx,hy,eqGuard,binOp,Op.intDiv,h]
theorem x_rem' {t yt:TypeId} {x y:Operand} {a b:Int} {kd:IntKind} (hx:ev σ x = .int kd a) (hy:ev σ y = .int kd b) (h:0<=a/\b ≠ 0) :
    (execOp (ev σ) ⟨some d,.binOp .rem t x y yt,ty,pos,af,g⟩).run P w = .ok (.value (.int kd (a % b))) w:=by
  rw [x_rem hx hy h.2,Int.tmod_eq_emod_of_nonneg h.1]
theorem x_not {t:TypeId} {x:Operand} {b:Bool} (h:ev σ x = .bool b):(execOp (ev σ) ⟨some d,.unOp .not t x,ty,pos,af,g⟩).run P w = .ok (.value (.bool !b)) w:=by
  simp [execOp,h,Op.unary]
theorem x_neg {t:TypeId} {x:Operand} {a:Int} (h:ev σ x = .int .i64 a) (hb:-9223372036854775808<=-a/\-a<=9223372036854775807) :
    (execOp (ev σ) ⟨some d,.unOp .neg t x,ty,pos,af,g⟩).run P w = .ok (.value (.int .i64 (-a))) w:=by
  simp [execOp,h,Op.unary,Op.intArith,wrap64 hb]
theorem x_pick {c x y:Operand} {b:Bool} {v:Value} (hc:ev σ c = .bool b) (h:(bif b then ev σ x else ev σ y)=v) :
    (execOp (ev σ) ⟨some d,.pick c x y,ty,pos,af,g⟩).run P w = .ok (.value v) w:=by
  subst h;cases b <;> simp [execOp,hc,asBool]
theorem x_pand {c x y:Operand} {b r:Bool} (hc:ev σ c = .bool b) (hx:b=true->ev σ x = .bool r) (hy:ev σ y = .bool false) :
    (execOp (ev σ) ⟨some d,.pick c x y,ty,pos,af,g⟩).run P w = .ok (.value (.bool (b&&r))) w:=by
  cases b
  · exact x_pick hc hy
  · exact x_pick hc (hx rfl)
theorem x_por {c x y:Operand} {b r:Bool} (hc:ev σ c = .bool b) (hx:ev σ x = .bool true) (hy:b=false->ev σ y = .bool r) :
    (execOp (ev σ) ⟨some d,.pick c x y,ty,pos,af,g⟩).run P w = .ok (.value (.bool (b||r))) w:=by
  cases b
  · exact x_pick hc (hy rfl)
  · exact x_pick hc hx
theorem x_ext {x:Operand} {i:Nat} {vs:List Value} {v:Value} (h:ev σ x = .tuple vs.toArray) (hv:vs[i]?=some v) :
    (execOp (ev σ) ⟨some d,.extract x i,ty,pos,af,g⟩).run P w = .ok (.value v) w:=by
  simp [execOp,h,Instr.extract,hv]
theorem x_mf {fn:Fn} {first cap:Array Operand} {fs cs:List Value} (h1:first.toList.map (ev σ)=fs) (h2:cap.toList.map (ev σ)=cs) :
    (execOp (ev σ) ⟨some d,.makeFunc fn first cap,ty,pos,af,g⟩).run P w = .ok (.value (.func fn fs.toArray cs.toArray)) w:=by
  subst h1 h2;simp [execOp,Instr.makeFunc,amap]
theorem x_nc {x:Operand} {a:Addr} (h:ev σ x = .pointer (some a)):(execOp (ev σ) ⟨some d,.nilCheck x,ty,pos,af,g⟩).run P w = .ok (.value (.pointer (some a))) w:=by
  simp [execOp,h]
theorem x_ld {t:TypeId} {x:Operand} {p v:Value} (h:ev σ x=p) (hl:(Instr.loadAt t p).run P w = .ok v w) :
    (execOp (ev σ) ⟨some d,.load t x,ty,pos,af,g⟩).run P w = .ok (.value v) w:=by
  simp [execOp,h,hl]
theorem x_ix {t:TypeId} {x y:Operand} {a b v:Value} (hx:ev σ x=a) (hy:ev σ y=b) (hl:(Instr.indexAt t a b).run P w = .ok v w) :
    (execOp (ev σ) ⟨some d,.indexAddr t x y,ty,pos,af,g⟩).run P w = .ok (.value v) w:=by
  simp [execOp,hx,hy,hl]
theorem x_fa {t:TypeId} {x:Operand} {k:Nat} {a v:Value} (hx:ev σ x=a) (hl:(Instr.fieldAt t a k).run P w = .ok v w) :
    (execOp (ev σ) ⟨some d,.fieldAddr t x k,ty,pos,af,g⟩).run P w = .ok (.value v) w:=by
  simp [execOp,hx,hl]
theorem x_len {t e:TypeId} {x:Operand} {a:Option Addr} {n c:Nat} (ht:P.underlying t=some (.slice e)) (h:ev σ x = .slice a n c) :
    (execOp (ev σ) ⟨some d,.call ⟨.builtin .len,#[x],#[t]⟩,ty,pos,af,g⟩).run P w = .ok (.value (.int .i64 n)) w:=by
  simp [execOp,resolve,invoke,builtin,h,Builtin.len_,run_underlying ht,goInt]
theorem x_lenS {α:Type} [Elt α] {t e:TypeId} {x:Operand} {C:Cells} {v:Value} {l:List α} (ht:P.underlying t=some (.slice e)) (h:ev σ x=v) (hs:Sl C v l) :
    (execOp (ev σ) ⟨some d,.call ⟨.builtin .len,#[x],#[t]⟩,ty,pos,af,g⟩).run P w = .ok (.value (.int .i64 l.length)) w:=by
  obtain ⟨a,c,hv⟩:=hs.slen;exact x_len ht (h.trans hv)
theorem x_max {x y:Operand} {ts:Array TypeId} {kd:IntKind} {a b:Int} (hx:ev σ x = .int kd a) (hy:ev σ y = .int kd b) :
    (execOp (ev σ) ⟨some d,.call ⟨.builtin .max,#[x,y],ts⟩,ty,pos,af,g⟩).run P w = .ok (.value (.int kd (max a b))) w:=by
  have:(if b > a then b else a)=max a b:=by split <;> omega
  simp [execOp,resolve,invoke,builtin,hx,hy,Builtin.max_,Builtin.max2,← this]
theorem x_min {x y:Operand} {ts:Array TypeId} {kd:IntKind} {a b:Int} (hx:ev σ x = .int kd a) (hy:ev σ y = .int kd b) :
    (execOp (ev σ) ⟨some d,.call ⟨.builtin .min,#[x,y],ts⟩,ty,pos,af,g⟩).run P w = .ok (.value (.int kd (min a b))) w:=by
  have:(if b<a then b else a)=min a b:=by split <;> omega
  simp [execOp,resolve,invoke,builtin,hx,hy,Builtin.min_,Builtin.min2,← this]
theorem x_conv {s t:TypeId} {x:Operand} {k kd:IntKind} {a:Int} {ds:TypeDesc} (hs:P.underlying s=some ds) (ht:P.underlying t=some (.int k)) (hx:ev σ x = .int kd a) :
    (execOp (ev σ) ⟨some d,.convert s t x,ty,pos,af,g⟩).run P w = .ok (.value (.int k (k.wrap a))) w:=by
  simp [execOp,convert,hx,run_underlying hs,run_underlying ht,Conv.intToInt]
end

/-! ### Without a guard -/
theorem s_val {op:Op} {v:Value} (h:(execOp (ev σ) ⟨some d,op,ty,pos,af,none⟩).run P w = .ok (.value v) w) (k:SL P all Q rest (upd σ d v) w) :
    SL P all Q (⟨some d,op,ty,pos,af,none⟩ :: rest) σ w:=by
  simp only [SL,opW,h]; exact k
theorem s_any {dst:Option Nat} {op:Op} {v:Value} {w':World}
    (h:(execOp (ev σ) ⟨dst,op,ty,pos,af,none⟩).run P w = .ok (.value v) w') (k:SL P all Q rest (updo σ dst v) w') :
    SL P all Q (⟨dst,op,ty,pos,af,none⟩ :: rest) σ w:=by
  simp only [SL,opW,h]; exact k
theorem s_skp {dst:Option Nat} {op:Op} {w':World}
    (h:(execOp (ev σ) ⟨dst,op,ty,pos,af,none⟩).run P w = .ok .skip w') (k:SL P all Q rest (updo σ dst undef) w') :
    SL P all Q (⟨dst,op,ty,pos,af,none⟩ :: rest) σ w:=by
  simp only [SL,opW,h]; exact k
theorem s_nil (h:Q .normal σ w):SL P all Q [] σ w:=h
theorem s_call {f:FuncId} {dst:Option Nat} {ops:Array Operand} {ts:Array TypeId} {R:Value->World->Prop} (hcf:CF P f) (args:List Value) (ha:ops.toList.map (ev σ)=args)
    (hc:Ret P f args.toArray w R) (k:∀ v w',R v w'->SL P all Q rest (updo σ dst v) w') :
    SL P all Q (⟨dst,.call ⟨.value (.func f),ops,ts⟩,ty,pos,af,none⟩ :: rest) σ w:=by
  have h:(execOp (ev σ) ⟨dst,.call ⟨.value (.func f),ops,ts⟩,ty,pos,af,none⟩).run P w = .ok (.enter f args.toArray) w:=by
    subst ha;simp [execOp,resolve,ev,Deferred.ofValue,invoke,run_callFunc hcf,amap]
  simp only [SL,opW,h];exact Calls.mono hc fun e w' ⟨v,he,hr⟩=>⟨v,he,k v w' hr⟩
theorem s_callv {f:FuncId} {cap:List Value} {dst:Option Nat} {x:Operand} {ops:Array Operand} {ts:Array TypeId} {R:Value->World->Prop} (hx:ev σ x = .func (.func f) #[] cap.toArray)
    (hcf:CF P f) (args:List Value) (ha:ops.toList.map (ev σ)=args)
    (hc:Ret P f (args++cap).toArray w R) (k:∀ v w',R v w'->SL P all Q rest (updo σ dst v) w') :
    SL P all Q (⟨dst,.call ⟨.value x,ops,ts⟩,ty,pos,af,none⟩ :: rest) σ w:=by
  have h:(execOp (ev σ) ⟨dst,.call ⟨.value x,ops,ts⟩,ty,pos,af,none⟩).run P w = .ok (.enter f (args++cap).toArray) w:=by
    subst ha;simp [execOp,resolve,hx,Deferred.ofValue,invoke,run_callFunc hcf,amap]
  simp only [SL,opW,h];exact Calls.mono hc fun e w' ⟨v,he,hr⟩=>⟨v,he,k v w' hr⟩

theorem s_callm {f:FuncId} {fs:List Value} {dst:Option Nat} {x:Operand} {ops:Array Operand} {ts:Array TypeId} {R:Value->World->Prop} (hx:ev σ x = .func (.func f) fs.toArray #[])
    (hcf:CF P f) (args:List Value) (ha:ops.toList.map (ev σ)=args)
    (hc:Ret P f (fs++args).toArray w R) (k:∀ v w',R v w'->SL P all Q rest (updo σ dst v) w') :
    SL P all Q (⟨dst,.call ⟨.value x,ops,ts⟩,ty,pos,af,none⟩ :: rest) σ w:=by
  have h:(execOp (ev σ) ⟨dst,.call ⟨.value x,ops,ts⟩,ty,pos,af,none⟩).run P w = .ok (.enter f (fs++args).toArray) w:=by
    subst ha;simp [execOp,resolve,hx,Deferred.ofValue,invoke,run_callFunc hcf,amap]
  simp only [SL,opW,h];exact Calls.mono hc fun e w' ⟨v,he,hr⟩=>⟨v,he,k v w' hr⟩

/-! ### Under a guard -/
/-- A value that stands only where the guard lets it by. -/
def gd (c:Bool) (v:Value):Value:=bif c then v else undef
theorem gd_of {c:Bool} (h:c=true) (v:Value):gd c v=v:=by subst h; rfl
theorem gd_no {c:Bool} (h:c=false) (v:Value):gd c v=undef:=by subst h; rfl
theorem gy_t {j:Nat} {b:Bool} (h:yieldedE all σ j=some b):(yieldedE all σ j==some true)=b:=by rw [h]; cases b <;> rfl
theorem gy_f {j:Nat} {b:Bool} (h:yieldedE all σ j=some b):(yieldedE all σ j==some false) = !b:=by rw [h]; cases b <;> rfl
theorem gy_gt {j d:Nat} {c b:Bool} (hd:(all[j]?).bind (·.dst)=some d) (h:σ d=gd c (.bool b)):(yieldedE all σ j==some true)=(c&&b):=by
  unfold yieldedE; rw [hd]; dsimp only; rw [h]; cases c <;> cases b <;> rfl
theorem gy_gf {j d:Nat} {c b:Bool} (hd:(all[j]?).bind (·.dst)=some d) (h:σ d=gd c (.bool b)):(yieldedE all σ j==some false)=(c&&!b):=by
  unfold yieldedE; rw [hd]; dsimp only; rw [h]; cases c <;> cases b <;> rfl
theorem g_val {op:Op} {v:Value} {j:Nat} {want:Bool} (c:Bool) (hy:(yieldedE all σ j==some want)=c)
    (h:c=true->(execOp (ev σ) ⟨some d,op,ty,pos,af,some (j,want)⟩).run P w = .ok (.value v) w) (k:SL P all Q rest (upd σ d (gd c v)) w) :
    SL P all Q (⟨some d,op,ty,pos,af,some (j,want)⟩ :: rest) σ w:=by
  simp only [SL,hy];cases c with
  | true =>
    rw [if_pos rfl];simp only [opW,h rfl];exact k
  | false =>
    rw [if_neg (by simp)];exact k
theorem g_split {o:Oper} {j:Nat} {want:Bool} (hg:o.guard=some (j,want)) (c:Bool) (hy:(yieldedE all σ j==some want)=c)
    (ht:c=true->SL P all Q ({ o with guard:=none } :: rest) σ w) (hf:c=false->SL P all Q rest (updo σ o.dst undef) w):SL P all Q (o :: rest) σ w:=by
  simp only [SL,hg,hy];cases c with
  | true =>
    rw [if_pos rfl];have:=ht rfl
    simpa only [SL,opW,execOp] using this
  | false =>
    rw [if_neg (by simp)];exact hf rfl
theorem sM {x : Operand} (v : Value) (h : ev σ x = v) (k : SL P all Q rest (upd σ d v) w) : SL P all Q (⟨some d, .move x, ty, pos, af, none⟩ :: rest) σ w := s_val (x_mv h) k
theorem sA {x : Operand} (v : Value) (h : ev σ x = v) (k : SL P all Q rest (upd σ d v) w) : SL P all Q (⟨some d, .assign x, ty, pos, af, none⟩ :: rest) σ w := s_val (x_as h) k
theorem sC {op : BinOp} {t yt : TypeId} {x y : Operand} (a b : Int) (r : Bool) (hx : ev σ x = .int .i64 a) (hy : ev σ y = .int .i64 b) (hr : cmpV op a b = some r) (k : SL P all Q rest (upd σ d (.bool r)) w) : SL P all Q (⟨some d, .binOp op t x y yt, ty, pos, af, none⟩ :: rest) σ w := s_val (x_cmp hx hy hr) k
theorem sR {op : BinOp} {t yt : TypeId} {x y : Operand} (a b r : Int) (hx : ev σ x = .int .i64 a) (hy : ev σ y = .int .i64 b) (hr : ariV op a b = some r) (h : -9223372036854775808 ≤ r ∧ r ≤ 9223372036854775807) (k : SL P all Q rest (upd σ d (.int .i64 r)) w) : SL P all Q (⟨some d, .binOp op t x y yt, ty, pos, af, none⟩ :: rest) σ w := s_val (x_ari hx hy hr h) k
theorem sX {x : Operand} {i : Nat} (vs : List Value) (v : Value) (h : ev σ x = .tuple vs.toArray) (hv : vs[i]? = some v) (k : SL P all Q rest (upd σ d v) w) : SL P all Q (⟨some d, .extract x i, ty, pos, af, none⟩ :: rest) σ w := s_val (x_ext h hv) k
theorem sQ {r : Option Nat} {n id : Nat} {l : List Oper} {y : Code} (hok : okDst n l = true) (h : SL P l (thenQ (WR r P n y Q) Q) l σ w) : WR r P n (.seq (.region id l.toArray false) y) Q σ w := W.seq (W.region hok h)
abbrev Pz (b : Nat) : Value := .pointer (some ⟨b, 0, none⟩)
abbrev Oz (b o : Nat) : Value := .pointer (some ⟨b, o, none⟩)
end
end Go.Nm
namespace Go.Nm
open Go

/-! ### What is kept from a block on -/
structure KF (lo:Nat) (w w':World):Prop where
  size:w.heap.size<=w'.heap.size
  blk:∀ b,lo<=b->b<w.heap.size->w'.heap[b]?=w.heap[b]?
theorem KF.refl (lo:Nat) (w:World):KF lo w w:=⟨Nat.le_refl _,fun _ _ _=>rfl⟩
theorem KF.ext {lo:Nat} {a b c:World} (h:KF lo a b) (k:Ext b c):KF lo a c :=
  ⟨Nat.le_trans h.size k.size,fun i hl hi=>(k.blk i (Nat.lt_of_lt_of_le hi h.size)).trans (h.blk i hl hi)⟩
theorem KF.put {lo:Nat} {a b c:World} (h:KF lo a b) {k:Nat} {o:Obj} (p:Put b k o c) (hk:k<lo∨a.heap.size<=k):KF lo a c :=
  ⟨by rw [p.size]; exact h.size,fun i hl hi=>(p.other i (by omega)).trans (h.blk i hl hi)⟩
theorem frm_kf {lo:Nat} {w w':World} (h:KF lo w w'):(frm w lo).Le (frm w' lo):=fun a v hc=>by
  unfold frm at *; split at hc
  · rename_i hl; rw [if_pos hl]; exact (World.cell?_of_block (h.blk _ hl (World.block_lt_of_cell? w a hc))).trans hc
  · cases hc
theorem frm_zero (w:World):Cells.Le w.cell? (frm w 0):=fun a v hc=>by unfold frm; rw [if_pos (Nat.zero_le _)]; exact hc
theorem Sl.par {α:Type} [Elt α] {w:World} {v:Value} {l:List α} (h:Sl w.cell? v l):Sl (frm w 0) v l:=h.mono (frm_zero w)
theorem Sl.to {α:Type} [Elt α] {lo:Nat} {w w':World} {v:Value} {l:List α} (h:Sl (frm w lo) v l) (k:KF lo w w'):Sl w'.cell? v l :=
  h.mono ((frm_kf k).trans (frm_le _ _))
theorem Sl.kf {α:Type} [Elt α] {lo:Nat} {w w':World} {v:Value} {l:List α} (h:Sl (frm w lo) v l) (k:KF lo w w'):Sl (frm w' lo) v l:=h.mono (frm_kf k)

/-! ### Kinds of data without pointers -/
class Flat (α:Type) extends Elt α where
  enc:α->List Value
  rep_iff:∀ {C cs x},rep C cs x↔cs=enc x
theorem Flat.enc_len {α:Type} [Flat α] (x:α):(Flat.enc x).length=Elt.sz α:=Elt.len (C:=fun _=>none) (Flat.rep_iff.2 rfl)
theorem Flat.rep_enc {α:Type} [Flat α] (C:Cells) (x:α):Elt.rep C (Flat.enc x) x:=Flat.rep_iff.2 rfl
theorem Flat.one' {α:Type} [Flat α] (x:α):∀ v∈(Flat.enc x:List Value),v.oneCell'=true:=Elt.one (Flat.rep_enc (fun _=>none) x)
instance:Flat Int where
  rep _ cs x:=cs=[.int .i64 x]
  sz:=1
  agg:=false
  sz_pos:=by decide
  len:=fun h=>by subst h; rfl
  mono:=fun _ h=>h
  one:=fun h v hv=>by subst h; simp at hv; subst hv; rfl
  enc x:=[.int .i64 x]
  rep_iff:=Iff.rfl
instance:Flat Bool where
  rep _ cs x:=cs=[.bool x]
  sz:=1
  agg:=false
  sz_pos:=by decide
  len:=fun h=>by subst h; rfl
  mono:=fun _ h=>h
  one:=fun h v hv=>by subst h; simp at hv; subst hv; rfl
  enc x:=[.bool x]
  rep_iff:=Iff.rfl
instance:Flat UInt8 where
  rep _ cs x:=cs=[.int .u8 (x.toNat:Int)]
  sz:=1
  agg:=false
  sz_pos:=by decide
  len:=fun h=>by subst h; rfl
  mono:=fun _ h=>h
  one:=fun h v hv=>by subst h; simp at hv; subst hv; rfl
  enc x:=[.int .u8 (x.toNat:Int)]
  rep_iff:=Iff.rfl
instance {α:Type} [Elt α]:Elt (List α) where
  rep C cs l:=∃ v,cs=[v]/\Sl C v l
  sz:=1
  agg:=false
  sz_pos:=by decide
  len:=fun ⟨v,h,_⟩=>by subst h; rfl
  mono:=fun hle ⟨v,h,hs⟩=>⟨v,h,hs.mono hle⟩
  one:=fun ⟨v,h,hs⟩ u hu=>by
    subst h; simp at hu; subst hu;obtain ⟨a,c,hv⟩:=hs.slen;subst hv; rfl

/-! ### Reading elements -/
section
variable {P:Program} {w:World}
theorem getD_some {α:Type} (l:List α) {k:Nat} (h:k<l.length) (d:α):l[k]?=some (l.getD k d):=by simp [List.getD,h]
theorem Sl.atI {α:Type} [Elt α] {C:Cells} {v:Value} {l:List α} (h:Sl C v l) {i:Int} (h0:0<=i) (h1:i<l.length) (dflt:α) :
    ∃ cs,At C (vat v (Elt.sz α) i.toNat) cs/\Elt.rep C cs (l.getD i.toNat dflt):=h.at (getD_some l (by omega) dflt)
/-- An element that is itself a slice. -/
theorem Sl.ldS {α:Type} [Elt α] {C:Cells} {t:TypeId} {v:Value} {l:List (List α)} (hsc:isSc (P.underlying t)=true) (h:Sl C v l) (hle:C.Le w.cell?) {i:Int} (h0:0<=i) (h1:i<l.length) :
    ∃ u,(Instr.loadAt t (vat v 1 i.toNat)).run P w = .ok u w/\Sl C u (l.getD i.toNat []):=by
  obtain ⟨cs,ha,u,hr,hs⟩:=h.atI h0 h1 [];subst hr;exact ⟨u,ld_sc hsc (ha.mono hle),hs⟩

/-! ### Blocks of the call's own -/
theorem At.blk {b:Nat} {cs:List Value} {t:TypeId} {fr:Nat × Nat} (h:w.heap[b]?=some (.cells cs.toArray t fr)) (off n:Nat) :
    At w.cell? (.pointer (some ⟨b,off,none⟩)) ((cs.drop off).take n):=by
  refine ⟨b,off,rfl,fun j y hj=>?_⟩;rw [cell_of_row w b (off+j) _ t fr h];rw [List.getElem?_take] at hj;split at hj
  · rw [List.getElem?_drop] at hj; simpa using hj
  · cases hj
theorem ldb_sc {t:TypeId} {b off:Nat} {cs:List Value} {et:TypeId} {fr:Nat × Nat} {v:Value} (hsc:isSc (P.underlying t)=true) (h:w.heap[b]?=some (.cells cs.toArray et fr)) (hv:(cs.drop off).take 1=[v]) :
    (Instr.loadAt t (.pointer (some ⟨b,off,none⟩))).run P w = .ok v w:=ld_sc hsc (hv ▸ At.blk h off 1)
theorem ldb_ag {t:TypeId} {b off n:Nat} {cs ds:List Value} {et:TypeId} {fr:Nat × Nat} (hag:isAg (P.underlying t)=true) (hs:(P.info? t).map (·.size)=some n)
    (h:w.heap[b]?=some (.cells cs.toArray et fr)) (hv:(cs.drop off).take n=ds) (hn:ds.length=n) :
    (Instr.loadAt t (.pointer (some ⟨b,off,none⟩))).run P w = .ok (.agg ds.toArray) w:=by
  have ha:=At.blk h off n;rw [hv] at ha;exact ld_ag hag (by rw [hs,hn]) ha
theorem fa_blk {s:TypeId} {k off:Nat} {ft:TypeId}
    (h:(P.underlying s).bind (fun d=>match d with | .struct fs=>(fs[k]?).map (fun f=>(f.offset,f.type)) | _=>none)=some (off,ft))
    {n:Nat} (hn:(P.info? ft).map (·.size)=some (n+1)) {b o:Nat}:(Instr.fieldAt s (.pointer (some ⟨b,o,none⟩)) k).run P w = .ok (.pointer (some ⟨b,o+off,none⟩)) w:=by
  have:=run_fieldAt (w:=w) h hn (C:=fun _=>none) (p:=.pointer (some ⟨b,o,none⟩)) (cs:=[]) ⟨b,o,rfl,fun j y hj=>by simp at hj⟩;rw [this];simp [fat,add_lit]
theorem frozen_setRow (w:World) (g:Nat) (cs:Array Value) (a:Addr):(w.setRow g cs).frozen? a=w.frozen? a:=by
  unfold World.frozen?;by_cases h:a.block=g
  · subst h;cases hh:w.heap[a.block]? with
    | none =>
      have:(w.setRow a.block cs).heap[a.block]?=none:=by
        have:=Array.getElem?_eq_none_iff.1 hh;simp [World.setRow,this]
      rw [this]
    | some o =>
      cases o with
      | cells c t fr=>rw [setRow_heap w a.block c cs t fr hh]
      | _ =>
        have hs:(w.setRow a.block cs).heap[a.block]?=w.heap[a.block]?:=by
          simp [World.setRow,Array.getElem?_modify,hh]
        rw [hs,hh]
  · rw [setRow_other w g a.block cs h]
theorem Put.setRow {g:Nat} {old cs:Array Value} {t:TypeId} {fr:Nat × Nat} (h:w.heap[g]?=some (.cells old t fr)):Put w g (.cells cs t fr) (w.setRow g cs) :=
  ⟨rfl,rfl,by simp,setRow_heap w g old cs t fr h,fun k hk=>setRow_other w g k cs hk,frozen_setRow w g cs⟩
theorem run_storeAt {t:TypeId} {b off n:Nat} {cs vs:List Value} {et:TypeId} {v:Value} (hs:(P.info? t).map (·.size)=some n) (h:w.heap[b]?=some (.cells cs.toArray et (0,0)))
    (hv:v.cells=vs.toArray) (hn:vs.length=n) (hl:off+n<=cs.length) (h1:∀ u∈vs,u.oneCell'=true) :
    (Instr.storeAt t (.pointer (some ⟨b,off,none⟩)) v).run P w = .ok () (w.setRow b (cs.take off++vs++cs.drop (off+n)).toArray):=by
  have hst:=run_storeCells_at P b off et vs 0 cs.toArray w h (by simpa [hn] using hl) h1;simp only [Nat.add_zero,List.toList_toArray,hn] at hst;simp [Instr.storeAt,Instr.sureAddr,storeVar,hv,run_sizeOf hs,hn,hst]
variable {all rest:List Oper} {Q:Post} {σ:Env} {d:Nat} {ty:TypeId} {pos:String} {af:Array Edge} {g:Option (Nat × Bool)}
theorem s_st {dst:Option Nat} {t:TypeId} {x y:Operand} {b off n:Nat} {cs vs cs':List Value} {et:TypeId} {v:Value} (hx:ev σ x = .pointer (some ⟨b,off,none⟩)) (hy:ev σ y=v)
    (hs:(P.info? t).map (·.size)=some n) (h:w.heap[b]?=some (.cells cs.toArray et (0,0))) (hv:v.cells=vs.toArray) (hn:vs.length=n) (hl:Nat.ble (off+n) cs.length=true)
    (h1:vs.all (·.oneCell')=true) (hc:cs.take off++vs++cs.drop (off+n)=cs')
    (k:∀ w',Put w b (.cells cs'.toArray et (0,0)) w'->SL P all Q rest (updo σ dst undef) w'):SL P all Q (⟨dst,.store t x y,ty,pos,af,none⟩ :: rest) σ w:=by
  have hr:=run_storeAt hs h hv hn (Nat.le_of_ble_eq_true hl) (by simpa using h1);rw [hc] at hr;refine s_skp (w':=w.setRow b cs'.toArray) ?_ (k _ (.setRow h));simp [execOp,hx,hy,hr]
theorem s_box {e:TypeId} {x:Operand} {v:Value} {cs:List Value} (hx:ev σ x=v) (hv:v.cells=cs.toArray)
    (k:∀ b w',New w b (.cells cs.toArray e (0,0)) w'->SL P all Q rest (upd σ d (.pointer (some ⟨b,0,none⟩))) w'):SL P all Q (⟨some d,.box e x,ty,pos,af,none⟩ :: rest) σ w:=by
  refine s_any (v:=.pointer (some ⟨w.heap.size,0,none⟩)) (w':=w.alloc (.cells cs.toArray e (0,0))) ?_ (k _ _ (.alloc ..));simp [execOp,Instr.box,newVar,newRow,hx,hv]
theorem s_alloc {e:TypeId} {z:Value} {cs:List Value} (hz:(P.info? e).map (·.zero)=some (some z)) (hv:z.cells=cs.toArray)
    (k:∀ b w',New w b (.cells cs.toArray e (0,0)) w'->SL P all Q rest (upd σ d (.pointer (some ⟨b,0,none⟩))) w'):SL P all Q (⟨some d,.alloc e,ty,pos,af,none⟩ :: rest) σ w:=by
  refine s_any (v:=.pointer (some ⟨w.heap.size,0,none⟩)) (w':=w.alloc (.cells cs.toArray e (0,0))) ?_ (k _ _ (.alloc ..));cases hi:P.info? e with
  | none=>simp [hi] at hz
  | some i =>
    simp [hi] at hz;simp [execOp,Instr.alloc,zeroValue,typeInfo,hi,hz,newVar,newRow,hv]

/-! ### Slices that the call itself makes -/
/-- A slice value owns its row, which reads as a list of plain data. -/
def OwnF {α:Type} [Flat α] (B:Nat) (e:TypeId) (w:World) (v:Value) (l:List α):Prop:=w.ownsRow B e (Elt.sz α) v l.length (l.flatMap Flat.enc)
theorem OwnF.nil {α:Type} [Flat α] (B:Nat) (e:TypeId) (w:World):OwnF B e w (.slice none 0 0) ([]:List α):=World.ownsRow_nil w B e _
theorem flat_get {α:Type} [Flat α]:∀ (l:List α) (k:Nat) (x:α),l[k]?=some x->∀ j y,(Flat.enc x:List Value)[j]?=some y->(l.flatMap Flat.enc:List Value)[k*Elt.sz α+j]?=some y
  | [],k,x,h,_,_,_=>by simp at h
  | z :: l,0,x,h,j,y,hj=>by
    simp only [List.getElem?_cons_zero,Option.some.injEq] at h;subst h;simp only [Nat.zero_mul,Nat.zero_add,List.flatMap_cons];rw [List.getElem?_append_left (by
      have:=List.getElem?_eq_some_iff.1 hj;exact this.1)]
    exact hj
  | z :: l,k+1,x,h,j,y,hj=>by
    simp only [List.getElem?_cons_succ] at h;have ih:=flat_get l k x h j y hj;simp only [List.flatMap_cons];rw [List.getElem?_append_right (by rw [Flat.enc_len]; rw [Nat.succ_mul]; omega)];rw [Flat.enc_len];have e:(k+1)*Elt.sz α+j-Elt.sz α=k*Elt.sz α+j:=by rw [Nat.succ_mul]; omega
    rw [e];exact ih
theorem OwnF.sl {α:Type} [Flat α] {B:Nat} {e:TypeId} {v:Value} {l:List α} (h:OwnF B e w v l):Sl (frm w B) v l:=by
  rcases h.2 with ⟨rfl,hn⟩ | ⟨gb,cap,cur,rfl,hb,hg,hc,hm,hcs,htake⟩
  · obtain rfl:l=[]:=List.eq_nil_of_length_eq_zero hn;exact Sl.nil _
  · refine ⟨⟨_,cap,rfl,hc,by simpa [maxLen] using hm,fun k x hk=>⟨gb,0,Flat.enc x,rfl,Flat.rep_enc _ _,fun j y hj=>?_⟩⟩⟩;have h1:=flat_get l k x hk j y hj;rw [← htake,List.getElem?_take] at h1;split at h1
    · unfold frm;rw [if_pos hb,cell_of_row w gb _ cur e (0,0) hg];rw [Nat.zero_add]
      simpa using h1
    · cases h1
theorem OwnF.kf {α:Type} [Flat α] {B lo:Nat} {e:TypeId} {w':World} {v:Value} {l:List α} (h:OwnF B e w v l) (hlo:lo<=B) (hk:KF lo w w'):OwnF B e w' v l:=by
  refine ⟨h.1,?_⟩;rcases h.2 with hn | ⟨gb,cap,cur,hv,hb,hg,rest⟩
  · exact .inl hn
  · exact .inr ⟨gb,cap,cur,hv,hb,(hk.blk gb (by omega) (heap_lt hg)).trans hg,rest⟩
theorem OwnF.ext {α:Type} [Flat α] {B:Nat} {e:TypeId} {w':World} {v:Value} {l:List α} (h:OwnF B e w v l) (hk:Ext w w'):OwnF B e w' v l :=
  h.kf (lo:=0) (Nat.zero_le _) ((KF.refl 0 w).ext hk)
/-- What an append, or a store into its own row, leaves as it was: each other block. -/
structure Grow (B:Nat) (v:Value) (w w':World):Prop where
  os:w'.os=w.os
  out:w'.output=w.output
  size:w.heap.size<=w'.heap.size
  blk:∀ b,b<w.heap.size->v.ownBlock ≠ some b->w'.heap[b]?=w.heap[b]?
  low:∀ g,v.ownBlock=some g->B<=g
  fz:∀ a,w'.frozen? a=w.frozen? a
theorem Grow.ne {B b:Nat} {v:Value} {w':World} (k:Grow B v w w') (h:b<B):v.ownBlock ≠ some b:=fun e=>by have:=k.low b e; omega
theorem Ext.grow {w0 w':World} {B:Nat} {v:Value} (h:Ext w0 w) (k:Grow B v w w') (hB:w0.heap.size<=B):Ext w0 w' :=
  ⟨k.os.trans h.os,k.out.trans h.out,Nat.le_trans h.size k.size,fun b hb=>(k.blk b (Nat.lt_of_lt_of_le hb h.size) (k.ne (by omega))).trans (h.blk b hb),fun a=>(k.fz a).trans (h.fz a)⟩
theorem KF.grow {lo B:Nat} {v:Value} {a c:World} (h:KF lo a w) (k:Grow B v w c) (hB:a.heap.size<=B):KF lo a c :=
  ⟨Nat.le_trans h.size k.size,fun i hl hi=>(k.blk i (Nat.lt_of_lt_of_le hi h.size) (k.ne (by omega))).trans (h.blk i hl hi)⟩
theorem Grow.get {B b:Nat} {v:Value} {w':World} {o:Obj} (k:Grow B v w w') (hB:v.ownBlock ≠ some b) (h:w.heap[b]?=some o):w'.heap[b]?=some o:=(k.blk b (heap_lt h) hB).trans h
theorem OwnF.lt {α:Type} [Flat α] {B:Nat} {e:TypeId} {v:Value} {l:List α} (h:OwnF B e w v l):∀ g,v.ownBlock=some g->B<=g/\g<w.heap.size:=World.ownsRow.lt h
theorem OwnF.ne {α:Type} [Flat α] {B b:Nat} {e:TypeId} {v:Value} {l:List α} (h:OwnF B e w v l) (hb:w.heap.size<=b):v.ownBlock ≠ some b:=fun e=>by have:=h.lt b e; omega
/-- Another row of the call's own is not touched by an append to this one. -/
theorem OwnF.grow {α:Type} [Flat α] {B B':Nat} {e:TypeId} {w':World} {v u:Value} {l:List α} (h:OwnF B e w v l) (k:Grow B' u w w') (hne:∀ g,v.ownBlock=some g->u.ownBlock ≠ some g):OwnF B e w' v l:=by
  refine ⟨h.1,?_⟩;rcases h.2 with hn | ⟨gb,cap,cur,hv,hb,hg,rest⟩
  · exact .inl hn
  · exact .inr ⟨gb,cap,cur,hv,hb,k.get (hne gb (by rw [hv]; rfl)) hg,rest⟩
theorem OwnF.put {α:Type} [Flat α] {B b:Nat} {e:TypeId} {w':World} {v:Value} {l:List α} {o:Obj} (h:OwnF B e w v l) (p:Put w b o w') (hne:v.ownBlock ≠ some b):OwnF B e w' v l:=by
  refine ⟨h.1,?_⟩;rcases h.2 with hn | ⟨gb,cap,cur,hv,hb,hg,rest⟩
  · exact .inl hn
  · exact .inr ⟨gb,cap,cur,hv,hb,p.get (fun e=>hne (by rw [hv,← e]; rfl)) hg,rest⟩
end
end Go.Nm
namespace Go.Nm
open Go
theorem flat_inv {α:Type} [Flat α]:∀ (l:List α) (j:Nat) (u:Value),(l.flatMap Flat.enc:List Value)[j]?=some u →
    ∃ k x r,l[k]?=some x/\(Flat.enc x:List Value)[r]?=some u/\j=k*Elt.sz α+r
  | [],j,u,h=>by simp at h
  | z :: l,j,u,h=>by
    simp only [List.flatMap_cons] at h;by_cases hj:j<(Flat.enc z:List Value).length
    · rw [List.getElem?_append_left hj] at h;exact ⟨0,z,j,rfl,h,by omega⟩
    · rw [List.getElem?_append_right (by omega),Flat.enc_len] at h;rw [Flat.enc_len] at hj;obtain ⟨k,x,r,h1,h2,h3⟩:=flat_inv l _ u h;exact ⟨k+1,x,r,by simpa using h1,h2,by rw [Nat.succ_mul]; omega⟩
theorem flat_len {α:Type} [Flat α] (l:List α):(l.flatMap Flat.enc:List Value).length=l.length*Elt.sz α:=by
  induction l with
  | nil=>simp
  | cons a l ih=>simp only [List.flatMap_cons,List.length_append,Flat.enc_len,ih,List.length_cons,Nat.succ_mul]; omega
theorem flat_one {α:Type} [Flat α] (l:List α):∀ u∈(l.flatMap Flat.enc:List Value),u.oneCell'=true:=by
  intro u hu;obtain ⟨x,_,hx⟩:=List.mem_flatMap.1 hu;exact Flat.one' x u hx
/-- What is known of a slice type: its element type, its element's size in cells and bytes, its zero. -/
structure SlT (P:Program) (t e:TypeId) (sz by':Nat) (z:Value):Prop where
  und:P.underlying t=some (.slice e)
  inf:(P.info? e).map (fun i=>(i.zero,i.size,i.bytes))=some (some z,sz,by')
  zs:z.cells.size=sz
  pos:0<sz
theorem SlT.size {P:Program} {t e sz by':Nat} {z:Value} (h:SlT P t e sz by' z):(P.info? e).map (·.size)=some sz:=by
  have:=h.inf;cases hi:P.info? e with
  | none=>simp [hi] at this
  | some i=>simp [hi] at this; simp [this.2.1]
theorem SlT.parts {P:Program} {t e sz by':Nat} {z:Value} (h:SlT P t e sz by' z):∃ i,P.info? e=some i/\i.zero=some z/\i.size=sz/\i.bytes=by':=by
  have:=h.inf;cases hi:P.info? e with
  | none=>simp [hi] at this
  | some i=>simp [hi] at this; exact ⟨i,rfl,this.1,this.2.1,this.2.2⟩

section
variable {P:Program} {w:World}
theorem Grow.of {w w':World} {v:Value} {B:Nat} (h:w.grownBy w' v.ownBlock) (hf:∀ a,w'.frozen? a=w.frozen? a) (hr:∀ g,v.ownBlock=some g->B<=g):Grow B v w w' :=
  ⟨h.os,h.output,h.size,fun b hlt hne=>h.block b hlt (fun e=>hne e.symm),hr,hf⟩
/-- No new mark of what may not be written: an append lays unmarked blocks alone. -/
theorem run_app {α:Type} [Flat α] {t ty e by':Nat} {z:Value} (T:SlT P t e (Elt.sz α) by' z) {B:Nat} {v vy:Value} {l l2:List α} (ho:OwnF B e w v l) {C:Cells} (hs:Sl C vy l2) (hle:C.Le w.cell?)
    (hB:B<=w.heap.size) (hn:(l.length+l2.length)*by'<=140737488355328) (h63:l.length+l2.length<=9223372036854775807) :
    ∃ v' w',(Builtin.append_ #[t,t] ty #[v,vy]).run P w = .ok v' w'/\OwnF B e w' v' (l++l2)/\Grow B v w w'/\∀ b,b<w.heap.size->v.ownBlock ≠ some b->v'.ownBlock ≠ some b:=by
  obtain ⟨i,hi,hz,hsz,hby⟩:=T.parts;by_cases h0:l2=[]
  · subst h0;obtain ⟨a,c,hv⟩:=hs.slen;simp only [List.length_nil] at hv;subst hv;refine ⟨v,w,?_,by simpa using ho,⟨rfl,rfl,Nat.le_refl _,fun _ _ _=>rfl,fun g hg=>(ho.lt g hg).1,fun _=>rfl⟩,fun _ _ h=>h⟩;obtain ⟨bs,n,cap,hvv,hcap⟩:∃ bs n cap,v = .slice bs n cap/\n<=cap:=by
      rcases ho.2 with ⟨rfl,_⟩ | ⟨g,cap,cur,rfl,_,_,hc,_⟩
      · exact ⟨_,_,_,rfl,Nat.le_refl _⟩
      · exact ⟨_,_,_,rfl,hc⟩
    subst hvv;have hl0:(loadCells (a.getD ⟨0,0,none⟩) 0).run P w = .ok #[] w:=rfl;cases bs <;> cases a <;> simp [Builtin.append_,run_underlying T.und,sizeOf,typeInfo,hi,Builtin.lenOf,Builtin.firstCells,loadCells,loadCellsFrom,hcap,storeCells]
  · obtain ⟨a,c,hvy,hlc,hcm,hh⟩:=hs.ex;have hpos:0<l2.length:=List.length_pos_iff.2 h0;obtain ⟨b,o,cs0,ha,_,_⟩:=hh 0 l2[0] (by simp);subst ha;have hnews:∀ j u,(l2.flatMap Flat.enc:List Value)[j]?=some u->w.cell? ((⟨b,o,none⟩:Addr).add j)=some u:=by
      intro j u hj;obtain ⟨k,x,r,hk,hr,hjk⟩:=flat_inv l2 j u hj;obtain ⟨b',o',cs,hab,hrep,hy⟩:=hh k x hk;have hcs:=Flat.rep_iff.1 hrep;subst hcs;simp only [Option.some.injEq,Addr.mk.injEq,and_true] at hab;obtain ⟨rfl,rfl⟩:=hab;rw [add_lit,hjk];have:=hle _ _ (hy r u hr)
      rwa [Nat.add_assoc] at this
    obtain ⟨v',w',hrun,hown,hgr,hnil⟩:=run_append_own (P:=P) w B t ty e i z (Elt.sz α) by' T.und hi hz hsz hby T.zs T.pos v l.length (l.flatMap Flat.enc) ho
      ⟨b,o,none⟩ l2.length c (l2.flatMap Flat.enc) (flat_len l2) hnews (flat_one l2) (by simpa [maxLen] using h63) hn hB
    -- the marks: whichever way the append goes,no block is marked
    have hfz:(∀ ad,w'.frozen? ad=w.frozen? ad)/\∀ b,b<w.heap.size->v.ownBlock ≠ some b->v'.ownBlock ≠ some b:=by
      have hl2:=flat_len l2;have hnl:(l.flatMap Flat.enc:List Value).length=l.length*i.size:=by rw [flat_len,hsz]
      rcases ho.2 with ⟨hv0,hn0⟩ | ⟨g,cap,cur,hv0,hbg,hg,hnc,hcm',hcs,htake⟩
      · have hr:=run_append_nil (P:=P) w t ty e i z T.und hi hz ⟨b,o,none⟩ l2.length c (l2.flatMap Flat.enc) (by rw [hl2,hsz]) hnews hpos (by omega) (by rw [hby]; rw [hn0,Nat.zero_add] at hn; omega);rw [hv0,hr] at hrun;injection hrun with hv' hw
        refine ⟨fun ad=>?_,fun b' hb' _=>?_⟩
        · rw [← hw];exact Go.RowKit.frozen?_alloc_cells _ _ _ _
        · rw [← hv'];simp [Value.ownBlock]; omega
      · by_cases hroom:l.length+l2.length<=cap
        · have hfit:l.length*i.size+(l2.flatMap Flat.enc:List Value).length<=cur.size:=by rw [hl2,hcs,hsz,← Nat.add_mul]; exact Nat.mul_le_mul_right _ hroom
          have hr:=run_append_room (P:=P) w t ty e i T.und hi g l.length cap cur hg ⟨b,o,none⟩ l2.length c (l2.flatMap Flat.enc) (by rw [hl2,hsz]) hnews (flat_one l2) hroom hfit;rw [hv0,hr] at hrun;injection hrun with hv' hw
          refine ⟨fun ad=>?_,fun b' _ hb'=>?_⟩
          · rw [← hw];exact frozen_setRow _ _ _ _
          · rw [← hv'];rw [hv0] at hb'
            simpa [Value.ownBlock] using hb'
        · have holds:∀ j u,(l.flatMap Flat.enc:List Value)[j]?=some u->w.cell? ((⟨g,0,none⟩:Addr).add j)=some u:=ho.cells (g:=g) (by rw [hv0]; rfl);have hr:=run_append_grow (P:=P) w t ty e i z T.und hi hz ⟨g,0,none⟩ l.length cap (l.flatMap Flat.enc) hnl holds ⟨b,o,none⟩ l2.length c (l2.flatMap Flat.enc) (by rw [hl2,hsz]) hnews (by omega) (by omega)
            (growslice_fits (by omega) (by rw [hby]; exact hn))
          rw [hv0,hr] at hrun;injection hrun with hv' hw
          refine ⟨fun ad=>?_,fun b' hb' _=>?_⟩
          · rw [← hw];exact Go.RowKit.frozen?_alloc_cells _ _ _ _
          · rw [← hv'];simp [Value.ownBlock]; omega
    rw [← hvy] at hrun;refine ⟨v',w',hrun,?_,Grow.of hgr hfz.1 fun g hg=>(ho.lt g hg).1,hfz.2⟩;unfold OwnF;rw [List.length_append,List.flatMap_append];exact hown
end
variable {P:Program} {w:World} {all rest:List Oper} {Q:Post} {σ:Env} {d:Nat} {ty:TypeId} {pos:String} {af:Array Edge}
theorem s_app {α:Type} [Flat α] {t e by':Nat} {z:Value} {x y:Operand} (T:SlT P t e (Elt.sz α) by' z) {B:Nat} {v vy:Value} {l l2:List α} {C:Cells} (hx:ev σ x=v) (hy:ev σ y=vy)
    (ho:OwnF B e w v l) (hs:Sl C vy l2) (hle:C.Le w.cell?) (hB:B<=w.heap.size) (hn:(l.length+l2.length)*by'<=140737488355328) (h63:l.length+l2.length<=9223372036854775807)
    (k:∀ v' w',OwnF B e w' v' (l++l2)->Grow B v w w'->(∀ b,b<w.heap.size->v.ownBlock ≠ some b->v'.ownBlock ≠ some b)->SL P all Q rest (upd σ d v') w') :
    SL P all Q (⟨some d,.call ⟨.builtin .append,#[x,y],#[t,t]⟩,ty,pos,af,none⟩ :: rest) σ w:=by
  obtain ⟨v',w',hr,ho',hg,hne⟩:=run_app (ty:=ty) T ho hs hle hB hn h63;refine s_any (v:=v') (w':=w') ?_ (k v' w' ho' hg hne);simp [execOp,resolve,invoke,builtin,hx,hy,hr]
/-- Values that read as a list, one by one. -/
inductive Reps {α:Type} [Elt α] (C:Cells):List Value->List α->Prop
  | nil:Reps C [] []
  | cons {v:Value} {cs:List Value} {x:α} {vs:List Value} {l:List α} (h:v.cells=cs.toArray) (hr:Elt.rep C cs x) (hs:Reps C vs l):Reps C (v :: vs) (x :: l)
theorem Reps.len {α:Type} [Elt α] {C:Cells} {vs:List Value} {l:List α} (h:Reps C vs l):vs.length=l.length:=by
  induction h <;> simp_all
theorem Reps.size {α:Type} [Elt α] {C:Cells} {vs:List Value} {l:List α} (h:Reps C vs l):∀ v∈vs,v.cells.size=Elt.sz α:=by
  induction h with
  | nil=>simp
  | cons h hr _ ih =>
    intro u hu;rcases List.mem_cons.1 hu with rfl | hu
    · rw [h]; simpa using Elt.len hr
    · exact ih u hu
theorem Reps.get {α:Type} [Elt α] {C:Cells} {vs:List Value} {l:List α} (h:Reps C vs l):∀ k x,l[k]?=some x →
    ∃ cs,Elt.rep C cs x/\∀ j y,cs[j]?=some y->(vs.flatMap fun v=>v.cells.toList)[k*Elt.sz α+j]?=some y:=by
  induction h with
  | nil=>intro k x h; simp at h
  | @cons v cs x vs l h hr hs ih =>
    intro k z hk;have hc:v.cells.toList=cs:=by rw [h]
    cases k with
    | zero =>
      simp only [List.getElem?_cons_zero,Option.some.injEq] at hk;subst hk;refine ⟨cs,hr,fun j y hj=>?_⟩;simp only [Nat.zero_mul,Nat.zero_add,List.flatMap_cons,hc];rw [List.getElem?_append_left (List.getElem?_eq_some_iff.1 hj).1];exact hj
    | succ k =>
      simp only [List.getElem?_cons_succ] at hk;obtain ⟨ds,h1,h2⟩:=ih k z hk;refine ⟨ds,h1,fun j y hj=>?_⟩;simp only [List.flatMap_cons,hc];have hl:=Elt.len hr;rw [List.getElem?_append_right (by rw [hl,Nat.succ_mul]; omega),hl,Nat.succ_mul,show k*Elt.sz α+Elt.sz α+j-Elt.sz α=k*Elt.sz α+j from by omega];exact h2 j y hj
end Go.Nm
namespace Go.Nm
open Go
section
variable {P:Program} {w:World}
theorem flat_set {α:Type} [Flat α] (l:List α) (k:Nat) (x:α) (hk:k<l.length) :
    ((l.set k x).flatMap Flat.enc:List Value)=(l.flatMap Flat.enc).take (k*Elt.sz α)++Flat.enc x++(l.flatMap Flat.enc).drop (k*Elt.sz α+Elt.sz α):=by
  induction l generalizing k with
  | nil=>simp at hk
  | cons z l ih =>
    cases k with
    | zero =>
      simp only [List.set_cons_zero,List.flatMap_cons,Nat.zero_mul,List.take_zero,List.nil_append,Nat.zero_add];rw [← Flat.enc_len z,List.drop_left]
    | succ k =>
      simp only [List.length_cons] at hk;simp only [List.set_cons_succ,List.flatMap_cons,ih k (by omega)];have hz:=Flat.enc_len z;rw [List.take_append,List.drop_append,hz,Nat.succ_mul];rw [show k*Elt.sz α+Elt.sz α-Elt.sz α=k*Elt.sz α from by omega,show k*Elt.sz α+Elt.sz α+Elt.sz α-Elt.sz α=k*Elt.sz α+Elt.sz α from by omega];rw [List.take_of_length_le (show (Flat.enc z:List Value).length<=k*Elt.sz α+Elt.sz α by omega),List.drop_of_length_le (show (Flat.enc z:List Value).length<=k*Elt.sz α+Elt.sz α+Elt.sz α by omega)];simp
theorem OwnF.store {α:Type} [Flat α] {B:Nat} {e t:TypeId} {v val:Value} {l:List α} (h:OwnF B e w v l) (hs:(P.info? t).map (·.size)=some (Elt.sz α)) {k:Nat} (hk:k<l.length) (x:α)
    (hv:val.cells=(Flat.enc x:List Value).toArray) :
    ∃ w',(Instr.storeAt t (vat v (Elt.sz α) k) val).run P w = .ok () w'/\OwnF B e w' v (l.set k x)/\Grow B v w w':=by
  rcases h.2 with ⟨rfl,hn⟩ | ⟨g,cap,cur,rfl,hb,hg,hnc,hcm,hcs,htake⟩
  · omega
  · have hx:=Flat.enc_len x;have hpos:=Elt.sz_pos (α:=α);have hkl:k*Elt.sz α+Elt.sz α<=l.length*Elt.sz α:=by rw [← Nat.succ_mul]; exact Nat.mul_le_mul_right _ hk
    have hlc:l.length*Elt.sz α<=cap*Elt.sz α:=Nat.mul_le_mul_right _ hnc;have hg':w.heap[g]?=some (.cells cur.toList.toArray e (0,0)):=by simpa using hg
    have hr:=run_storeAt (P:=P) (off:=k*Elt.sz α) hs hg' hv hx (by simp only [Array.length_toList]; omega) (Flat.one' x);refine ⟨_,by simpa [vat,add_lit] using hr,⟨?_,.inr ⟨g,cap,_,?_,hb,setRow_heap w g cur _ e _ hg,by simpa using hnc,hcm,?_,?_⟩⟩,
      ⟨rfl,rfl,by simp,fun b _ hne=>setRow_other w g b _ (fun e=>hne (by rw [e]; rfl)),fun g' hg'=>(h.lt g' hg').1,frozen_setRow w g _⟩⟩
    · rw [flat_len]
    · simp
    · simp only [List.size_toArray,List.length_append,List.length_take,List.length_drop,Array.length_toList];omega
    · rw [flat_set l k x hk,← htake];simp only [List.length_set];rw [List.take_append,List.take_append];simp only [List.take_take,List.length_take,List.length_append,Array.length_toList,hx,List.drop_take];rw [Nat.min_eq_left (show k*Elt.sz α<=l.length*Elt.sz α by omega),Nat.min_eq_right (show k*Elt.sz α<=l.length*Elt.sz α by omega),Nat.min_eq_left (show k*Elt.sz α<=cur.size by omega)];rw [List.take_of_length_le (show (Flat.enc x:List Value).length<=l.length*Elt.sz α-k*Elt.sz α by omega)];simp only [List.append_assoc,Nat.sub_sub]
theorem OwnF.ix {α:Type} [Flat α] {B:Nat} {e t:TypeId} {v:Value} {l:List α} (h:OwnF B e w v l) (hu:P.underlying t=some (.slice e)) (hs:(P.info? e).map (·.size)=some (Elt.sz α))
    {kd:IntKind} {i:Int} (h0:0<=i) (h1:i<l.length):(Instr.indexAt t v (.int kd i)).run P w = .ok (vat v (Elt.sz α) i.toNat) w:=h.sl.ix hu hs h0 h1
variable {all rest:List Oper} {Q:Post} {σ:Env} {d:Nat} {ty:TypeId} {pos:String} {af:Array Edge}
theorem s_ost {α:Type} [Flat α] {dst:Option Nat} {B:Nat} {e t:TypeId} {x y:Operand} {v val:Value} {l:List α} (h:OwnF B e w v l) (hs:(P.info? t).map (·.size)=some (Elt.sz α)) {i:Int}
    (h0:0<=i) (h1:i<l.length) (a:α) (hx:ev σ x=vat v (Elt.sz α) i.toNat) (hy:ev σ y=val) (hv:val.cells=(Flat.enc a:List Value).toArray)
    (k:∀ w',OwnF B e w' v (l.set i.toNat a)->Grow B v w w'->SL P all Q rest (updo σ dst undef) w'):SL P all Q (⟨dst,.store t x y,ty,pos,af,none⟩ :: rest) σ w:=by
  obtain ⟨w',hr,ho,hg⟩:=h.store (P:=P) (t:=t) hs (k:=i.toNat) (by omega) a hv;refine s_skp (w':=w') ?_ (k w' ho hg);simp [execOp,hx,hy,hr]
theorem s_mk {α:Type} [Flat α] {t e by':Nat} {z:Value} {x y:Operand} (T:SlT P t e (Elt.sz α) by' z) (a:α) (hz:z.cells=(Flat.enc a:List Value).toArray) {n:Int} (hx:ev σ x = .int .i64 n) (hy:ev σ y = .int .i64 n)
    (h0:0<=n) (hn:(by':Int)*n<=281474976710656) (h63:n<=9223372036854775807)
    (k:∀ v w',OwnF w.heap.size e w' v (List.replicate n.toNat a)->Ext w w'->SL P all Q rest (upd σ d v) w') :
    SL P all Q (⟨some d,.makeSlice t x y,ty,pos,af,none⟩ :: rest) σ w:=by
  obtain ⟨i,hi,hzz,hisz,hby⟩:=T.parts;have hpos:=T.pos;have hr:=run_make (P:=P) w t e i z T.und hi hzz .i64 .i64 n n h0 (Int.le_refl _) (by rw [hby]; exact hn) h63;refine s_any (v:=.slice (some ⟨w.heap.size,0,none⟩) n.toNat n.toNat) (w':=w.alloc (.cells (madeCells z.cells (n.toNat*i.size)) e)) ?_ (k _ _ ?_ (.allocCells ..))
  · simp [execOp,hx,hy,hr]
  · refine ⟨by rw [flat_len,List.length_replicate],.inr ⟨w.heap.size,n.toNat,_,by simp,Nat.le_refl _,heap_alloc_new w _,by simp,by simp [maxLen]; omega,by rw [size_madeCells,hisz],?_⟩⟩;apply List.ext_getElem?;intro j;rw [List.getElem?_take];simp only [List.length_replicate];have hl:((List.replicate n.toNat a).flatMap Flat.enc:List Value).length=n.toNat*Elt.sz α:=by rw [flat_len,List.length_replicate]
    by_cases hj:j<n.toNat*Elt.sz α
    · rw [if_pos hj];have h1:((List.replicate n.toNat a).flatMap Flat.enc:List Value)[j]?=some (((List.replicate n.toNat a).flatMap Flat.enc:List Value)[j]'(by omega)):=by simp [hl,hj]
      obtain ⟨k,x',r,hk,hr',hjk⟩:=flat_inv _ j _ h1;have hx':x'=a:=by
        have:=List.mem_of_getElem? hk;exact List.eq_of_mem_replicate this
      subst hx';have hrl:r<Elt.sz α:=by
        have:=(List.getElem?_eq_some_iff.1 hr').1
        rwa [Flat.enc_len] at this
      rw [h1,← hr',hisz];have hmod:j % Elt.sz α=r:=by
        rw [hjk,Nat.mul_comm,Nat.mul_add_mod,Nat.mod_eq_of_lt hrl]
      have hzsz:z.cells.size=Elt.sz α:=T.zs;simp only [madeCells];rw [Array.getElem?_toList,Array.getElem?_map,Array.getElem?_range,if_pos hj];simp only [Option.map_some];rw [hzsz,hmod,hz];rw [getElem!_def];simp only [List.getElem?_toArray,hr']
    · rw [if_neg hj];symm;rw [List.getElem?_eq_none_iff];omega
end
end Go.Nm
namespace Go.Nm
open Go
section
variable {P:Program} {ops:Array Oper} {md:Region.Mode} {C:World->Prop}
def actW (P:Program) (o:Oper) (K:Act->World->Prop) (a:Act) (w:World):Prop :=
  match (execOp a.eval o).run P w with
  | .ok (.value v) w'=>K (a.put o.dst v) w'
  | .ok .skip w'=>K (a.put o.dst undef) w'
  | .ok (.enter f args) w'=>Calls P f args w' fun e w''=>∃ v,e = .returned v/\K (a.put o.dst v) w''
  | .ok (.round l f tmps assign body) w'=>RoundIn Fence.wide 0 P l f tmps assign body w' fun e w''=>∃ v,e = .returned v/\K (a.put o.dst v) w''
  | _=>False
theorem actW_mono {o:Oper} {K K':Act->World->Prop} {a:Act} {w:World} (h:∀ a w,K a w->K' a w) (hh:actW P o K a w):actW P o K' a w:=by
  unfold actW at *;generalize (execOp a.eval o).run P w=r at *;cases r with
  | halt x w'=>exact hh
  | ok x w' =>
    cases x with
    | value v=>exact h _ _ hh
    | skip=>exact h _ _ hh
    | enter f args=>exact hh.mono fun e w'' ⟨v,he,hk⟩=>⟨v,he,h _ _ hk⟩
    | round l f tmps assign body=>exact hh.mono fun e w'' ⟨v,he,hk⟩=>⟨v,he,h _ _ hk⟩
    | _=>exact hh
theorem actW_wp {r:Option Nat} {o:Oper} {K:Act->World->Prop} {Q:Exit->Act->World->Prop} {a:Act} {w:World} (hh:actW P o K a w):o.wpIn (FR r) 0 P a w K Q:=by
  refine ⟨fun _ _=>trivial,?_⟩;unfold actW at hh;rw [Oper.semAt_eq]
  · generalize (execOp a.eval o).run P w=res at *;cases res with
    | halt x w'=>exact hh.elim
    | ok x w' =>
      cases x with
      | value v=>exact hh
      | skip=>exact hh
      | enter f args =>
        refine ⟨fun hc=>by simp [FR,Fence.wide] at hc,callsFR (hh.mono ?_)⟩;rintro e w'' ⟨v,rfl,hk⟩;exact hk
      | round l f tmps assign body =>
        refine ⟨fun hc=>by simp [FR,Fence.wide] at hc,roundFR (hh.mono ?_)⟩;rintro e w'' ⟨v,rfl,hk⟩;exact hk
      | _=>exact hh.elim
  · intro c hc;cases hr:(execOp a.eval o).run P w with
    | halt x w'=>rw [hr] at hh; exact hh
    | ok x w' =>
      obtain ⟨d,rfl⟩:=execOp_defer hc hr;rw [hr] at hh; exact hh
def lOp (P:Program) (ops:Array Oper) (i:Nat) (K:Act->World->Prop) (a:Act) (w:World):Prop :=
  match ops[i]? with
  | none=>K a w
  | some o=>if Region.wanted o (yielded ops a.tmps) then actW P o K a w else K (a.put o.dst undef) w
theorem lOp_mono {i:Nat} {K K':Act->World->Prop} {a:Act} {w:World} (h:∀ a w,K a w->K' a w) (hh:lOp P ops i K a w):lOp P ops i K' a w:=by
  unfold lOp at *;split
  · rename_i ho; simp only [ho] at hh; exact h _ _ hh
  · rename_i o ho
    simp only [ho] at hh;split
    · rename_i hw; simp only [hw,if_true] at hh; exact actW_mono h hh
    · rename_i hw; simp only [hw] at hh; exact h _ _ hh
theorem lOp_wpOp {r:Option Nat} {i:Nat} {K:Act->World->Prop} {Q:Exit->Act->World->Prop} {a:Act} {w:World} (hh:lOp P ops i K a w):wpOpIn (FR r) 0 P ops Q i K a w:=by
  unfold lOp at hh;unfold wpOpIn;split
  · rename_i ho; simp only [ho] at hh; exact hh
  · rename_i o ho
    simp only [ho] at hh;split
    · rename_i hw; simp only [hw,if_true] at hh; exact actW_wp hh
    · rename_i hw; simp only [hw] at hh; exact ⟨fun _ _=>trivial,hh⟩
/-- In state 'a', in every world of the class, operation 'o' gives 'v' and leaves the world as it was; or its guard keeps it. -/
def YV (P:Program) (ops:Array Oper) (C:World->Prop) (o:Oper) (v:Value) (a:Act):Prop :=
  (Region.wanted o (yielded ops a.tmps)=true/\∀ w,C w->(execOp a.eval o).run P w = .ok (.value v) w) ∨
  (Region.wanted o (yielded ops a.tmps)=false/\v=undef)
theorem YV.of_same {o:Oper} {v:Value} {a a':Act} (hy:YV P ops C o v a) (he:execOp a'.eval o=execOp a.eval o)
    (hw:Region.wanted o (yielded ops a'.tmps)=Region.wanted o (yielded ops a.tmps)):YV P ops C o v a':=by
  unfold YV at *;rw [he,hw];exact hy
theorem YV.lOp {i:Nat} {o:Oper} {v:Value} {a:Act} {w:World} (hi:ops[i]?=some o) (hw:C w) (hy:YV P ops C o v a) {K:Act->World->Prop} (h:K (a.put o.dst v) w) :
    Nm.lOp P ops i K a w:=by
  unfold Nm.lOp;simp only [hi];rcases hy with ⟨hwt,hv⟩ | ⟨hwt,rfl⟩
  · simp only [hwt,if_true,actW,hv w hw]; exact h
  · simp only [hwt,Bool.false_eq_true,if_false]; exact h
theorem lOp_put {j:Nat} {oi oj:Oper} {v:Value} (hj:ops[j]?=some oj) (hap:oi.apart ops oj=true)
    (hsi:∀ cs b,oi.op ≠ .select cs b) (hsj:∀ cs b,oj.op ≠ .select cs b) {K:Act->World->Prop} {a:Act} {w:World}
    (hy:YV P ops C oi v a) (h:lOp P ops j K (a.put oi.dst v) w) :
    lOp P ops j (fun a' w'=>YV P ops C oi v a'/\K (a'.put oi.dst v) w') a w:=by
  obtain ⟨h1,h2,h3⟩:=Oper.apart_spec hap;have keep:∀ (a:Act),YV P ops C oi v a->∀ u,YV P ops C oi v (a.put oj.dst u):=fun a hy u =>
    hy.of_same (execOp_put oi hsi a oj.dst u h3) (wanted_put oi a oj.dst u h3)
  unfold lOp at *;simp only [hj] at *;rw [wanted_put oj a oi.dst v h1] at h;split
  · rename_i hw
    simp only [hw,if_true] at h;unfold actW at *;rw [execOp_put oj hsj a oi.dst v h1] at h;generalize (execOp a.eval oj).run P w=r at *;cases r with
    | halt x w'=>exact h
    | ok x w' =>
      cases x with
      | value u=>exact ⟨keep a hy _,by rw [← Act.put_comm a v u h2]; exact h⟩
      | skip=>exact ⟨keep a hy _,by rw [← Act.put_comm a v undef h2]; exact h⟩
      | enter f args=>exact h.mono fun e w'' ⟨u,he,hk⟩=>⟨u,he,keep a hy _,by rw [← Act.put_comm a v u h2]; exact hk⟩
      | round l f tmps assign body=>exact h.mono fun e w'' ⟨u,he,hk⟩=>⟨u,he,keep a hy _,by rw [← Act.put_comm a v u h2]; exact hk⟩
      | _=>exact h
  · rename_i hw
    simp only [hw] at h;exact ⟨keep a hy _,by rw [← Act.put_comm a v undef h2]; exact h⟩
/-- Whatever order is picked from here on; each world on the way is one of the class. -/
def wpAnyC (P:Program) (md:Region.Mode) (ops:Array Oper) (C:World->Prop) (Q:Act->World->Prop):Nat->Array Bool->Act->World->Prop
  | 0,listed,a,w=>Region.ready md ops listed=[]/\Q a w
  | fuel+1,listed,a,w =>
    (Region.ready md ops listed=[]->Q a w) ∧
    ∀ i∈Region.ready md ops listed,lOp P ops i (fun a' w'=>C w'/\wpAnyC P md ops C Q fuel (listed.setIfInBounds i true) a' w') a w
theorem wpAny_of_C {r:Option Nat} {Q:Act->World->Prop} {Q':Exit->Act->World->Prop} (hQ:∀ a w,Q a w->Q' .normal a w):∀ (fuel:Nat) (listed:Array Bool) (a:Act) (w:World),
    wpAnyC P md ops C Q fuel listed a w->wpAnyIn (FR r) 0 P md ops Q' fuel listed a w
  | 0,_,_,_,h=>⟨h.1,hQ _ _ h.2⟩
  | fuel+1,_,_,_,h=>⟨fun h0=>hQ _ _ (h.1 h0),fun i hi=>lOp_wpOp (lOp_mono (fun a' w' hh=>wpAny_of_C hQ fuel _ a' w' hh.2) (h.2 i hi))⟩
theorem wpAnyC_first {Q:Act->World->Prop} {i:Nat} {oi:Oper} {v:Value} (hi:ops[i]?=some oi) (hsel:∀ (j:Nat) (o:Oper) cs b,ops[j]?=some o->o.op ≠ .select cs b) :
    ∀ (fuel:Nat) (listed:Array Bool) (a:Act) (w:World),C w →
      (∀ j oj,ops[j]?=some oj->j ≠ i->listed.getD j true=false->(∀ e∈oj.after,Region.binds md e=true->e.on ≠ i)->oi.apart ops oj=true) →
      i∈Region.ready md ops listed->YV P ops C oi v a →
      wpAnyC P md ops C Q fuel (listed.setIfInBounds i true) (a.put oi.dst v) w->wpAnyC P md ops C Q (fuel+1) listed a w:=by
  intro fuel;induction fuel with
  | zero =>
    intro listed a w hC _ hr hy H;refine ⟨fun h=>(by rw [h] at hr; cases hr),fun j hj=>?_⟩;by_cases hji:j=i
    · subst hji; exact hy.lOp hi hC ⟨hC,H⟩
    · have:=ready_mono hj hji;rw [H.1] at this;cases this
  | succ fuel ih =>
    intro listed a w hC hfree hr hy H;refine ⟨fun h=>(by rw [h] at hr; cases hr),fun j hj=>?_⟩;by_cases hji:j=i
    · subst hji; exact hy.lOp hi hC ⟨hC,H⟩
    · have h1:=H.2 j (ready_mono hj hji);obtain ⟨hjun,oj,hoj,hall⟩:=mem_ready.1 hj;have hnot:∀ e∈oj.after,Region.binds md e=true->e.on ≠ i:=fun e he hb heq=>by
        have h1:=hall e he hb;have h0:=(mem_ready.1 hr).1;rw [heq] at h1;rcases Nat.lt_or_ge i listed.size with h' | h'
        · simp [h'] at h0 h1; rw [h0] at h1; cases h1
        · simp [Array.getElem?_eq_none h'] at h1
      have h2:=lOp_put hoj (hfree j oj hoj hji hjun hnot) (fun cs b=>hsel i oi cs b hi) (fun cs b=>hsel j oj cs b hoj) hy h1;have hfree':∀ k ok,ops[k]?=some ok->k ≠ i->(listed.setIfInBounds j true).getD k true=false →
          (∀ e∈ok.after,Region.binds md e=true->e.on ≠ i)->oi.apart ops ok=true:=fun k ok hk hki hun hno=>by
        refine hfree k ok hk hki ?_ hno;by_cases hjk:j=k
        · subst hjk; exact hjun
        · rw [getD_set_ne true hjk] at hun; exact hun
      refine lOp_mono (fun a' w' h3=>⟨h3.2.1,ih (listed.setIfInBounds j true) a' w' h3.2.1 hfree' (ready_mono hr (Ne.symm hji)) h3.1 ?_⟩) h2;rw [Array.setIfInBounds_comm _ _ hji];exact h3.2.2
/-- One order of our choosing: an operation that reads may come now and is apart from the others; any other one is the only one that may come. -/
def canonB (md:Region.Mode) (ops:Array Oper):List (Nat × Bool)->Array Bool->Bool
  | [],listed=>(Region.ready md ops listed).isEmpty
  | (k,true) :: r,listed=>(Region.ready md ops listed).contains k&&Region.free md ops listed k&&canonB md ops r (listed.setIfInBounds k true)
  | (k,false) :: r,listed=>(Region.ready md ops listed==[k])&&canonB md ops r (listed.setIfInBounds k true)
def runC (P:Program) (ops:Array Oper) (C:World->Prop) (Q:Act->World->Prop):List (Nat × Bool)->Act->World->Prop
  | [],a,w=>Q a w
  | (k,true) :: r,a,w=>∃ o v,ops[k]?=some o/\YV P ops C o v a/\runC P ops C Q r (a.put o.dst v) w
  | (k,false) :: r,a,w=>lOp P ops k (fun a' w'=>C w'/\runC P ops C Q r a' w') a w
theorem wpAnyC_canon {Q:Act->World->Prop} (hs:Region.noSelect ops=true):∀ (l:List (Nat × Bool)) (listed:Array Bool) (a:Act) (w:World),C w →
    canonB md ops l listed=true->runC P ops C Q l a w->wpAnyC P md ops C Q l.length listed a w
  | [],_,_,_,_,hB,h=>⟨by simpa [canonB] using hB,h⟩
  | (k,true) :: r,listed,a,w,hC,hB,h=>by
    simp only [canonB,Bool.and_eq_true] at hB;obtain ⟨⟨hr,hf⟩,hB'⟩:=hB;obtain ⟨o,v,h0,hy,hK⟩:=h;exact wpAnyC_first h0 (Region.noSelect_spec hs) r.length listed a w hC (Region.free_spec h0 hf) (by simpa using hr) hy (wpAnyC_canon hs r _ _ _ hC hB' hK)
  | (k,false) :: r,listed,a,w,hC,hB,h=>by
    simp only [canonB,Bool.and_eq_true,beq_iff_eq] at hB;obtain ⟨hr,hB'⟩:=hB;refine ⟨fun h0=>by rw [hr] at h0; simp at h0,fun i hi=>?_⟩;rw [hr] at hi;obtain rfl:i=k:=by simpa using hi
    exact lOp_mono (fun a' w' hh=>⟨hh.1,wpAnyC_canon hs r _ _ _ hh.1 hB' hh.2⟩) h
end

/-! ### The same, said of functions -/
def loudQ (C:World->Prop) (K:Env->World->Prop):Post
  | .normal,σ,w=>C w/\K σ w
  | _,_,_=>False
def wantedE (all:List Oper) (o:Oper) (σ:Env):Bool:=match o.guard with
  | none=>true
  | some (j,want)=>yieldedE all σ j==some want
def SLD (P:Program) (all:List Oper) (C:World->Prop) (Q:Post):List (Nat × Bool)->Env->World->Prop
  | [],σ,w=>Q .normal σ w
  | (k,true) :: r,σ,w=>∃ o v,all[k]?=some o/\(bif wantedE all o σ then ∀ w',C w'->(execOp (ev σ) o).run P w' = .ok (.value v) w' else v=undef)/\SLD P all C Q r (updo σ o.dst v) w
  | (k,false) :: r,σ,w=>∃ o,all[k]?=some o/\SL P all (loudQ C (SLD P all C Q r)) [o] σ w
theorem opW_actW {P:Program} {ds:List Deferred} {n:Nat} {o:Oper} {K:Env->World->Prop} {σ:Env} {w:World} (hd:∀ d,o.dst=some d->d<n) {a:Act} (ha:Fr ds n σ a)
    {next:Act->World->Prop} (hK:∀ σ' a' w',Fr ds n σ' a'->K σ' w'->next a' w') (h:opW P o K σ w):actW P o next a w:=by
  unfold opW at h;unfold actW;rw [ha.eval];generalize (execOp (ev σ) o).run P w=r at *;cases r with
  | halt x w'=>exact h.elim
  | ok x w' =>
    cases x with
    | value v=>exact hK _ _ _ (ha.puto hd v) h
    | skip=>exact hK _ _ _ (ha.puto hd undef) h
    | enter f args =>
      refine h.mono ?_;rintro e w'' ⟨v,rfl,hk⟩;exact ⟨v,rfl,hK _ _ _ (ha.puto hd v) hk⟩
    | round l f tmps assign body =>
      refine h.mono ?_;rintro e w'' ⟨v,rfl,hk⟩;exact ⟨v,rfl,hK _ _ _ (ha.puto hd v) hk⟩
    | _=>exact h.elim
theorem wanted_eq {ds:List Deferred} {n:Nat} {σ:Env} {a:Act} (h:Fr ds n σ a) (all:List Oper) (hok:∀ o∈all,∀ d,o.dst=some d->d<n) (o:Oper) :
    Region.wanted o (yielded all.toArray a.tmps)=wantedE all o σ:=by
  unfold Region.wanted wantedE;cases o.guard with
  | none=>rfl
  | some g=>obtain ⟨j,want⟩:=g; dsimp only; rw [yielded_eq h all hok]
theorem SLD_runC {P:Program} {ds:List Deferred} {n:Nat} {C:World->Prop} {Q:Post} (all:List Oper) (hok:∀ o∈all,∀ d,o.dst=some d->d<n):∀ (l:List (Nat × Bool)) (σ:Env) (w:World) (a:Act),Fr ds n σ a →
    SLD P all C Q l σ w->runC P all.toArray C (fun a' w'=>∃ σ',Fr ds n σ' a'/\Q .normal σ' w') l a w
  | [],σ,_,_,ha,h=>⟨σ,ha,h⟩
  | (k,true) :: r,σ,w,a,ha,⟨o,v,ho,hv,hK⟩=>by
    have hmem:o∈all:=List.mem_of_getElem? ho;refine ⟨o,v,by simpa using ho,?_,SLD_runC all hok r _ _ _ (ha.puto (hok o hmem) v) hK⟩;unfold YV;rw [wanted_eq ha all hok,ha.eval];cases hw:wantedE all o σ with
    | true=>rw [hw] at hv; exact .inl ⟨rfl,hv⟩
    | false=>rw [hw] at hv; exact .inr ⟨rfl,hv⟩
  | (k, false) :: r, σ, w, a, ha, ⟨o, ho, h⟩ => by
    have hmem:o∈all:=List.mem_of_getElem? ho;have ih:=SLD_runC (P:=P) (ds:=ds) (n:=n) (C:=C) (Q:=Q) all hok r;show lOp P all.toArray k _ a w;unfold lOp;simp only [List.getElem?_toArray,ho];rw [wanted_eq ha all hok];simp only [SL] at h;unfold wantedE;have next:∀ σ' a' w',Fr ds n σ' a'->loudQ C (SLD P all C Q r) .normal σ' w'->C w'/\runC P all.toArray C (fun a' w'=>∃ σ',Fr ds n σ' a'/\Q .normal σ' w') r a' w' :=
      fun σ' a' w' ha' hh=>⟨hh.1,ih σ' w' a' ha' hh.2⟩
    cases hg:o.guard with
    | none =>
      rw [hg] at h;simp only [if_true];exact opW_actW (hok o hmem) ha next h
    | some g =>
      obtain ⟨j,want⟩:=g;rw [hg] at h;dsimp only at h ⊢;by_cases hw:(yieldedE all σ j==some want)=true
      · rw [if_pos hw] at h;rw [if_pos hw];exact opW_actW (hok o hmem) ha next h
      · rw [if_neg hw] at h;rw [if_neg hw];exact next _ _ _ (ha.puto (hok o hmem) undef) h
theorem W.draw {r:Option Nat} {P:Program} {n:Nat} {Q:Post} {σ:Env} {w:World} {id:Nat} {l:List Oper} (C:World->Prop) (order:List (Nat × Bool)) (hm:P.follows .mixedOrders=true)
    (hB:(Region.noSelect l.toArray&&Nat.beq order.length l.length&&canonB .any l.toArray order (Array.replicate l.length false))=true)
    (hok:okDst n l=true) (h:∀ w1,Ext w w1->C w1/\SLD P l C Q order σ w1):WR r P n (.region id l.toArray true) Q σ w:=by
  intro ds a ha;simp only [Bool.and_eq_true] at hB;obtain ⟨⟨hs,hl⟩,hB⟩:=hB;have hl':=Nat.eq_of_beq_eq_true hl;obtain ⟨hC,hS⟩:=h w.drew (.drew w);refine wpIn_region_any hm (wpAny_of_C (C:=C) (Q:=fun a' w'=>∃ σ',Fr ds n σ' a'/\Q .normal σ' w') (fun _ _ h=>h) _ _ _ _ ?_);have:=wpAnyC_canon (P:=P) (md:=.any) (Q:=fun a' w'=>∃ σ',Fr ds n σ' a'/\Q .normal σ' w') hs order (Array.replicate l.length false) a w.drew hC hB (SLD_runC l (okDst_spec hok) order σ w.drew a ha hS);rw [hl'] at this
  simpa using this

section
variable {P:Program} {all:List Oper} {C:World->Prop} {Q:Post} {r:List (Nat × Bool)} {σ:Env} {w:World}
theorem d_nil (h:Q .normal σ w):SLD P all C Q [] σ w:=h
theorem d_q {k d:Nat} {op:Op} {ty:TypeId} {pos:String} {af:Array Edge} {v:Value} (ho:all[k]?=some ⟨some d,op,ty,pos,af,none⟩)
    (h:∀ w',C w'->(execOp (ev σ) ⟨some d,op,ty,pos,af,none⟩).run P w' = .ok (.value v) w') (hk:SLD P all C Q r (upd σ d v) w):SLD P all C Q ((k,true) :: r) σ w :=
  ⟨_,v,ho,h,hk⟩
theorem d_qg {k d j:Nat} {want:Bool} {op:Op} {ty:TypeId} {pos:String} {af:Array Edge} {v:Value} (c:Bool) (ho:all[k]?=some ⟨some d,op,ty,pos,af,some (j,want)⟩)
    (hy:(yieldedE all σ j==some want)=c) (h:c=true->∀ w',C w'->(execOp (ev σ) ⟨some d,op,ty,pos,af,some (j,want)⟩).run P w' = .ok (.value v) w')
    (hk:SLD P all C Q r (upd σ d (gd c v)) w):SLD P all C Q ((k,true) :: r) σ w:=by
  refine ⟨_,gd c v,ho,?_,hk⟩;unfold wantedE;dsimp only;rw [hy];cases c with
  | true=>rw [gd_of rfl]; exact h rfl
  | false=>exact gd_no rfl _
theorem d_l {k:Nat} {o:Oper} (ho:all[k]?=some o) (h:SL P all (loudQ C (SLD P all C Q r)) [o] σ w):SLD P all C Q ((k,false) :: r) σ w:=⟨o,ho,h⟩
end
end Go.Nm
namespace Go.Nm
open Go
/-- Orders: an operation that reads comes now; one that does not is the only one that may come, or one of two, or of three. -/
inductive Ord where
  | nil
  | q (k:Nat) (r:Ord)
  | l (k:Nat) (r:Ord)
  | l2 (k1:Nat) (r1:Ord) (k2:Nat) (r2:Ord)
  | l3 (k1:Nat) (r1:Ord) (k2:Nat) (r2:Ord) (k3:Nat) (r3:Ord)
def canonT (md:Region.Mode) (ops:Array Oper):Ord->Nat->Array Bool->Bool
  | .nil,0,listed=>(Region.ready md ops listed).isEmpty
  | .q k r,n+1,listed=>(Region.ready md ops listed).contains k&&Region.free md ops listed k&&canonT md ops r n (listed.setIfInBounds k true)
  | .l k r,n+1,listed=>(Region.ready md ops listed==[k])&&canonT md ops r n (listed.setIfInBounds k true)
  | .l2 k1 r1 k2 r2,n+1,listed=>(Region.ready md ops listed==[k1,k2])&&canonT md ops r1 n (listed.setIfInBounds k1 true)&&canonT md ops r2 n (listed.setIfInBounds k2 true)
  | .l3 k1 r1 k2 r2 k3 r3,n+1,listed=>(Region.ready md ops listed==[k1,k2,k3])&&canonT md ops r1 n (listed.setIfInBounds k1 true)&&canonT md ops r2 n (listed.setIfInBounds k2 true)&&canonT md ops r3 n (listed.setIfInBounds k3 true)
  | _,_,_=>false
section
variable {P:Program} {ops:Array Oper} {md:Region.Mode} {C:World->Prop}
def runT (P:Program) (ops:Array Oper) (C:World->Prop) (Q:Act->World->Prop):Ord->Act->World->Prop
  | .nil,a,w=>Q a w
  | .q k r,a,w=>∃ o v,ops[k]?=some o/\YV P ops C o v a/\runT P ops C Q r (a.put o.dst v) w
  | .l k r,a,w=>lOp P ops k (fun a' w'=>C w'/\runT P ops C Q r a' w') a w
  | .l2 k1 r1 k2 r2,a,w=>lOp P ops k1 (fun a' w'=>C w'/\runT P ops C Q r1 a' w') a w/\lOp P ops k2 (fun a' w'=>C w'/\runT P ops C Q r2 a' w') a w
  | .l3 k1 r1 k2 r2 k3 r3,a,w=>lOp P ops k1 (fun a' w'=>C w'/\runT P ops C Q r1 a' w') a w/\lOp P ops k2 (fun a' w'=>C w'/\runT P ops C Q r2 a' w') a w/\lOp P ops k3 (fun a' w'=>C w'/\runT P ops C Q r3 a' w') a w
theorem wpAnyC_canonT {Q:Act->World->Prop} (hs:Region.noSelect ops=true):∀ (l:Ord) (n:Nat) (listed:Array Bool) (a:Act) (w:World),C w →
    canonT md ops l n listed=true->runT P ops C Q l a w->wpAnyC P md ops C Q n listed a w
  | .nil,0,_,_,_,_,hB,h=>⟨by simpa [canonT] using hB,h⟩
  | .q k r,n+1,listed,a,w,hC,hB,h=>by
    simp only [canonT,Bool.and_eq_true] at hB;obtain ⟨⟨hr,hf⟩,hB'⟩:=hB;obtain ⟨o,v,h0,hy,hK⟩:=h;exact wpAnyC_first h0 (Region.noSelect_spec hs) n listed a w hC (Region.free_spec h0 hf) (by simpa using hr) hy (wpAnyC_canonT hs r n _ _ _ hC hB' hK)
  | .l k r,n+1,listed,a,w,hC,hB,h=>by
    simp only [canonT,Bool.and_eq_true,beq_iff_eq] at hB;obtain ⟨hr,hB'⟩:=hB;refine ⟨fun h0=>by rw [hr] at h0; simp at h0,fun i hi=>?_⟩;rw [hr] at hi;obtain rfl:i=k:=by simpa using hi
    exact lOp_mono (fun a' w' hh=>⟨hh.1,wpAnyC_canonT hs r n _ _ _ hh.1 hB' hh.2⟩) h
  | .l2 k1 r1 k2 r2,n+1,listed,a,w,hC,hB,h=>by
    simp only [canonT,Bool.and_eq_true,beq_iff_eq] at hB;obtain ⟨⟨hr,hB1⟩,hB2⟩:=hB;refine ⟨fun h0=>by rw [hr] at h0; simp at h0,fun i hi=>?_⟩;rw [hr] at hi;rcases List.mem_cons.1 hi with rfl | hi
    · exact lOp_mono (fun a' w' hh=>⟨hh.1,wpAnyC_canonT hs r1 n _ _ _ hh.1 hB1 hh.2⟩) h.1
    · obtain rfl:i=k2:=by simpa using hi
      exact lOp_mono (fun a' w' hh=>⟨hh.1,wpAnyC_canonT hs r2 n _ _ _ hh.1 hB2 hh.2⟩) h.2
  | .l3 k1 r1 k2 r2 k3 r3,n+1,listed,a,w,hC,hB,h=>by
    simp only [canonT,Bool.and_eq_true,beq_iff_eq] at hB;obtain ⟨⟨⟨hr,hB1⟩,hB2⟩,hB3⟩:=hB;refine ⟨fun h0=>by rw [hr] at h0; simp at h0,fun i hi=>?_⟩;rw [hr] at hi;rcases List.mem_cons.1 hi with rfl | hi
    · exact lOp_mono (fun a' w' hh=>⟨hh.1,wpAnyC_canonT hs r1 n _ _ _ hh.1 hB1 hh.2⟩) h.1
    · rcases List.mem_cons.1 hi with rfl | hi
      · exact lOp_mono (fun a' w' hh=>⟨hh.1,wpAnyC_canonT hs r2 n _ _ _ hh.1 hB2 hh.2⟩) h.2.1
      · obtain rfl:i=k3:=by simpa using hi
        exact lOp_mono (fun a' w' hh=>⟨hh.1,wpAnyC_canonT hs r3 n _ _ _ hh.1 hB3 hh.2⟩) h.2.2
  | .nil,_+1,_,_,_,_,hB,_=>by simp [canonT] at hB
  | .q _ _,0,_,_,_,_,hB,_=>by simp [canonT] at hB
  | .l _ _,0,_,_,_,_,hB,_=>by simp [canonT] at hB
  | .l2 _ _ _ _,0,_,_,_,_,hB,_=>by simp [canonT] at hB
  | .l3 _ _ _ _ _ _,0,_,_,_,_,hB,_=>by simp [canonT] at hB
end
def SLT (P:Program) (all:List Oper) (C:World->Prop) (Q:Post):Ord->Env->World->Prop
  | .nil,σ,w=>Q .normal σ w
  | .q k r,σ,w=>∃ o v,all[k]?=some o/\(bif wantedE all o σ then ∀ w',C w'->(execOp (ev σ) o).run P w' = .ok (.value v) w' else v=undef)/\SLT P all C Q r (updo σ o.dst v) w
  | .l k r,σ,w=>∃ o,all[k]?=some o/\SL P all (loudQ C (SLT P all C Q r)) [o] σ w
  | .l2 k1 r1 k2 r2,σ,w=>(∃ o,all[k1]?=some o/\SL P all (loudQ C (SLT P all C Q r1)) [o] σ w)/\∃ o,all[k2]?=some o/\SL P all (loudQ C (SLT P all C Q r2)) [o] σ w
  | .l3 k1 r1 k2 r2 k3 r3,σ,w=>(∃ o,all[k1]?=some o/\SL P all (loudQ C (SLT P all C Q r1)) [o] σ w)/\(∃ o,all[k2]?=some o/\SL P all (loudQ C (SLT P all C Q r2)) [o] σ w)/\∃ o,all[k3]?=some o/\SL P all (loudQ C (SLT P all C Q r3)) [o] σ w
theorem SL_lOp {P:Program} {ds:List Deferred} {n:Nat} {C:World->Prop} (all:List Oper) (hok:∀ o∈all,∀ d,o.dst=some d->d<n) {k:Nat} {K:Env->World->Prop} {K':Act->World->Prop} (hK:∀ σ w a,Fr ds n σ a->K σ w->K' a w)
    {o:Oper} (ho:all[k]?=some o) {σ:Env} {w:World} {a:Act} (ha:Fr ds n σ a) (h:SL P all (loudQ C K) [o] σ w):lOp P all.toArray k (fun a' w'=>C w'/\K' a' w') a w:=by
  have hmem:o∈all:=List.mem_of_getElem? ho;unfold lOp;simp only [List.getElem?_toArray,ho];rw [wanted_eq ha all hok];simp only [SL] at h;unfold wantedE;have next:∀ σ' a' w',Fr ds n σ' a'->loudQ C K .normal σ' w'->C w'/\K' a' w':=fun σ' a' w' ha' hh=>⟨hh.1,hK σ' w' a' ha' hh.2⟩
  cases hg:o.guard with
  | none =>
    rw [hg] at h;simp only [if_true];exact opW_actW (hok o hmem) ha next h
  | some g =>
    obtain ⟨j,want⟩:=g;rw [hg] at h;dsimp only at h ⊢;by_cases hw:(yieldedE all σ j==some want)=true
    · rw [if_pos hw] at h;rw [if_pos hw];exact opW_actW (hok o hmem) ha next h
    · rw [if_neg hw] at h;rw [if_neg hw];exact next _ _ _ (ha.puto (hok o hmem) undef) h
theorem SLT_runT {P:Program} {ds:List Deferred} {n:Nat} {C:World->Prop} {Q:Post} (all:List Oper) (hok:∀ o∈all,∀ d,o.dst=some d->d<n):∀ (l:Ord) (σ:Env) (w:World) (a:Act),Fr ds n σ a →
    SLT P all C Q l σ w->runT P all.toArray C (fun a' w'=>∃ σ',Fr ds n σ' a'/\Q .normal σ' w') l a w
  | .nil,σ,_,_,ha,h=>⟨σ,ha,h⟩
  | .q k r,σ,w,a,ha,⟨o,v,ho,hv,hK⟩=>by
    have hmem:o∈all:=List.mem_of_getElem? ho;refine ⟨o,v,by simpa using ho,?_,SLT_runT all hok r _ _ _ (ha.puto (hok o hmem) v) hK⟩;unfold YV;rw [wanted_eq ha all hok,ha.eval];cases hw:wantedE all o σ with
    | true=>rw [hw] at hv; exact .inl ⟨rfl,hv⟩
    | false=>rw [hw] at hv; exact .inr ⟨rfl,hv⟩
  | .l k r,σ,w,a,ha,⟨o,ho,h⟩=>SL_lOp all hok (fun σ' w' a' ha' h'=>SLT_runT all hok r σ' w' a' ha' h') ho ha h
  | .l2 k1 r1 k2 r2,σ,w,a,ha,⟨⟨o,ho,h⟩,⟨o',ho',h'⟩⟩ =>
    ⟨SL_lOp all hok (fun σ' w' a' ha' h'=>SLT_runT all hok r1 σ' w' a' ha' h') ho ha h,SL_lOp all hok (fun σ' w' a' ha' h'=>SLT_runT all hok r2 σ' w' a' ha' h') ho' ha h'⟩
  | .l3 k1 r1 k2 r2 k3 r3,σ,w,a,ha,⟨⟨o,ho,h⟩,⟨o',ho',h'⟩,⟨o'',ho'',h''⟩⟩ =>
    ⟨SL_lOp all hok (fun σ' w' a' ha' h'=>SLT_runT all hok r1 σ' w' a' ha' h') ho ha h,SL_lOp all hok (fun σ' w' a' ha' h'=>SLT_runT all hok r2 σ' w' a' ha' h') ho' ha h',SL_lOp all hok (fun σ' w' a' ha' h'=>SLT_runT all hok r3 σ' w' a' ha' h') ho'' ha h''⟩
theorem W.drawT {r:Option Nat} {P:Program} {n:Nat} {Q:Post} {σ:Env} {w:World} {id:Nat} {l:List Oper} (C:World->Prop) (order:Ord) (hm:P.follows .mixedOrders=true)
    (hB:(Region.noSelect l.toArray&&canonT .any l.toArray order l.length (Array.replicate l.length false))=true)
    (hok:okDst n l=true) (h:∀ w1,Ext w w1->C w1/\SLT P l C Q order σ w1):WR r P n (.region id l.toArray true) Q σ w:=by
  intro ds a ha;simp only [Bool.and_eq_true] at hB;obtain ⟨hs,hB⟩:=hB;obtain ⟨hC,hS⟩:=h w.drew (.drew w);refine wpIn_region_any hm (wpAny_of_C (C:=C) (Q:=fun a' w'=>∃ σ',Fr ds n σ' a'/\Q .normal σ' w') (fun _ _ h=>h) _ _ _ _ ?_);have:=wpAnyC_canonT (P:=P) (md:=.any) (Q:=fun a' w'=>∃ σ',Fr ds n σ' a'/\Q .normal σ' w') hs order l.length (Array.replicate l.length false) a w.drew hC hB (SLT_runT l (okDst_spec hok) order σ w.drew a ha hS)
  simpa using this
section
variable {P:Program} {all:List Oper} {C:World->Prop} {Q:Post} {r r2:Ord} {σ:Env} {w:World}
theorem t_nil (h:Q .normal σ w):SLT P all C Q .nil σ w:=h
theorem t_q {k d:Nat} {op:Op} {ty:TypeId} {pos:String} {af:Array Edge} {v:Value} (ho:all[k]?=some ⟨some d,op,ty,pos,af,none⟩)
    (h:∀ w',C w'->(execOp (ev σ) ⟨some d,op,ty,pos,af,none⟩).run P w' = .ok (.value v) w') (hk:SLT P all C Q r (upd σ d v) w):SLT P all C Q (.q k r) σ w :=
  ⟨_,v,ho,h,hk⟩
theorem t_qg {k d j:Nat} {want:Bool} {op:Op} {ty:TypeId} {pos:String} {af:Array Edge} {v:Value} (c:Bool) (ho:all[k]?=some ⟨some d,op,ty,pos,af,some (j,want)⟩)
    (hy:(yieldedE all σ j==some want)=c) (h:c=true->∀ w',C w'->(execOp (ev σ) ⟨some d,op,ty,pos,af,some (j,want)⟩).run P w' = .ok (.value v) w')
    (hk:SLT P all C Q r (upd σ d (gd c v)) w):SLT P all C Q (.q k r) σ w:=by
  refine ⟨_,gd c v,ho,?_,hk⟩;unfold wantedE;dsimp only;rw [hy];cases c with
  | true=>rw [gd_of rfl]; exact h rfl
  | false=>exact gd_no rfl _
theorem t_l {k:Nat} {o:Oper} (ho:all[k]?=some o) (h:SL P all (loudQ C (SLT P all C Q r)) [o] σ w):SLT P all C Q (.l k r) σ w:=⟨o,ho,h⟩
theorem t_l2 {k k2:Nat} {o o2:Oper} (ho:all[k]?=some o) (ho2:all[k2]?=some o2) (h:SL P all (loudQ C (SLT P all C Q r)) [o] σ w) (h2:SL P all (loudQ C (SLT P all C Q r2)) [o2] σ w) :
    SLT P all C Q (.l2 k r k2 r2) σ w:=⟨⟨o,ho,h⟩,⟨o2,ho2,h2⟩⟩
end
end Go.Nm
namespace Go.Nm
open Go
/-- A value that stands for a datum. -/
def Arg {α:Type} [Elt α] (C:Cells) (v:Value) (x:α):Prop:=∃ cs,Elt.rep C cs x/\v=vof (Elt.agg α) cs
theorem Arg.mono {α:Type} [Elt α] {C D:Cells} {v:Value} {x:α} (h:Arg C v x) (hle:C.Le D):Arg D v x:=by
  obtain ⟨cs,h1,h2⟩:=h;exact ⟨cs,Elt.mono hle h1,h2⟩
theorem Arg.int {C:Cells} {v:Value} {x:Int} (h:Arg C v x):v=I x:=by
  obtain ⟨cs,h1,h2⟩:=h;subst h1;exact h2
theorem Arg.mkI (C:Cells) (x:Int):Arg C (I x) x:=⟨[I x],rfl,rfl⟩
theorem Arg.list {α:Type} [Elt α] {C:Cells} {v:Value} {x:List α} (h:Arg C v x):Sl C v x:=by
  obtain ⟨cs,⟨u,hu,hs⟩,h2⟩:=h;subst hu;subst h2;exact hs
/-- A function value that answers a question, in every world that goes on from this one. -/
def FnB {α:Type} [Elt α] (P:Program) (w:World) (vf:Value) (p:α->Bool) (D:α->Prop):Prop :=
  ∃ f cap,vf = .func (.func f) #[] (List.toArray cap)/\CF P f/\∀ w' v x,Ext w w'->D x->Arg w'.cell? v x->Ret P f (v :: cap).toArray w' fun r w''=>r=B (p x)/\Ext w' w''
theorem FnB.ext {α:Type} [Elt α] {P:Program} {w w1:World} {vf:Value} {p:α->Bool} {D:α->Prop} (h:FnB P w vf p D) (hx:Ext w w1):FnB P w1 vf p D:=by
  obtain ⟨f,cap,h1,h2,h3⟩:=h;exact ⟨f,cap,h1,h2,fun w' v x hE hD hA=>h3 w' v x (hx.trans hE) hD hA⟩
theorem FnB.sub {α:Type} [Elt α] {P:Program} {w:World} {vf:Value} {p:α->Bool} {D D':α->Prop} (h:FnB P w vf p D) (hd:∀ x,D' x->D x):FnB P w vf p D':=by
  obtain ⟨f,cap,h1,h2,h3⟩:=h;exact ⟨f,cap,h1,h2,fun w' v x hE hD hA=>h3 w' v x hE (hd x hD) hA⟩
section
variable {P:Program} {all rest:List Oper} {Q:Post} {σ:Env} {w:World} {d:Nat} {ty:TypeId} {pos:String} {af:Array Edge}
end
/-! ### What lies at an element's place -/
theorem Int_at {C:Cells} {v:Value} {l:List Int} (h:Sl C v l) {i:Int} (h0:0<=i) (h1:i<l.length):At C (vat v 1 i.toNat) [I (l.getD i.toNat 0)]:=by
  obtain ⟨cs,ha,hr⟩:=h.atI h0 h1 0;subst hr;exact ha
theorem UInt8_at {C:Cells} {v:Value} {l:List UInt8} (h:Sl C v l) {i:Int} (h0:0<=i) (h1:i<l.length):At C (vat v 1 i.toNat) [.int .u8 ((l.getD i.toNat 0).toNat:Int)]:=by
  obtain ⟨cs,ha,hr⟩:=h.atI h0 h1 0;subst hr;exact ha
theorem List_at {α:Type} [Elt α] {C:Cells} {v:Value} {l:List (List α)} (h:Sl C v l) {i:Int} (h0:0<=i) (h1:i<l.length):∃ u,At C (vat v 1 i.toNat) [u]/\Sl C u (l.getD i.toNat []):=by
  obtain ⟨cs,ha,u,hu,hs⟩:=h.atI h0 h1 [];subst hu;exact ⟨u,ha,hs⟩
/-- A place that stands in a slice, for a field's address. -/
theorem Sl.pl {α:Type} [Elt α] {C:Cells} {v:Value} {l:List α} (h:Sl C v l) {i:Int} (h0:0<=i) (h1:i<l.length):∃ b o,vat v (Elt.sz α) i.toNat = .pointer (some ⟨b,o,none⟩):=by
  obtain ⟨cs,⟨b,o,hp,_⟩,_⟩:=h.at (getD_some l (k:=i.toNat) (by omega) (l[i.toNat]'(by omega)));exact ⟨b,o,hp⟩
section
variable {P:Program} {w:World}
theorem fa_pl {s:TypeId} {k off:Nat} {ft:TypeId}
    (h:(P.underlying s).bind (fun d=>match d with | .struct fs=>(fs[k]?).map (fun f=>(f.offset,f.type)) | _=>none)=some (off,ft))
    {n:Nat} (hn:(P.info? ft).map (·.size)=some (n+1)) {p:Value} (hp:∃ b o,p = .pointer (some ⟨b,o,none⟩)):(Instr.fieldAt s p k).run P w = .ok (fat p off) w:=by
  obtain ⟨b,o,rfl⟩:=hp;rw [fa_blk h hn];simp [fat,add_lit]
/-- A part of a slice. -/
theorem sl_hi {α:Type} [Elt α] {t e:TypeId} (hu:P.underlying t=some (.slice e)) (hs:(P.info? e).map (·.size)=some (Elt.sz α)) {C:Cells} {v:Value} {l:List α} (h:Sl C v l) {j:Int} (h0:0<=j) (h1:j<=l.length) :
    ∃ u,(∀ w,(Instr.sliceAt t v none (some (.int .i64 j)) none).run P w = .ok u w)/\Sl C u (l.take j.toNat):=by
  obtain ⟨a,c,hv,hc,hm,hh⟩:=h.ex;have hlen:(l.take j.toNat).length=j.toNat:=by simp; omega
  refine ⟨.slice (if c=0 then a else a.map (·.add (0*Elt.sz α))) (j.toNat-0) (c-0),fun w=>?_,⟨a,c,?_,by omega,hm,fun k x hx=>?_⟩⟩
  · subst hv;have hjc:j<=(c:Int):=by omega
    simp [Instr.sliceAt,Instr.slice,Instr.sliceBounds,Instr.sliceBound,asIntOf,run_underlying hu,run_sizeOf hs,h0,hjc]
  · rw [hlen];cases a <;> simp [Addr.add]
  · rw [List.getElem?_take] at hx;split at hx
    · exact hh k x hx
    · cases hx
theorem sl_lo {α:Type} [Elt α] {t e:TypeId} (hu:P.underlying t=some (.slice e)) (hs:(P.info? e).map (·.size)=some (Elt.sz α)) {C:Cells} {v:Value} {l:List α} (h:Sl C v l) {i:Int} (h0:0<=i) (h1:i<=l.length) :
    ∃ u,(∀ w,(Instr.sliceAt t v (some (.int .i64 i)) none none).run P w = .ok u w)/\Sl C u (l.drop i.toNat):=by
  obtain ⟨a,c,hv,hc,hm,hh⟩:=h.ex;have hlen:(l.drop i.toNat).length=l.length-i.toNat:=by simp
  refine ⟨.slice (if c=i.toNat then a else a.map (·.add (i.toNat*Elt.sz α))) (l.length-i.toNat) (c-i.toNat),fun w=>?_,⟨_,c-i.toNat,by rw [hlen],by omega,by omega,fun k x hx=>?_⟩⟩
  · subst hv;simp [Instr.sliceAt,Instr.slice,Instr.sliceBounds,Instr.sliceBound,asIntOf,run_underlying hu,run_sizeOf hs,h0,h1]
  · rw [List.getElem?_drop] at hx;have hlt:=(List.getElem?_eq_some_iff.1 hx).1;obtain ⟨b,o,cs,ha,hr,hy⟩:=hh _ x hx;refine ⟨b,o+i.toNat*Elt.sz α,cs,?_,hr,fun j y hj=>?_⟩
    · rw [if_neg (by omega),ha];simp [add_lit]
    · have:=hy j y hj
      rwa [show o+(i.toNat+k)*Elt.sz α+j=o+i.toNat*Elt.sz α+k*Elt.sz α+j from by rw [Nat.add_mul]; omega] at this
theorem x_sl {σ:Env} {d:Nat} {ty:TypeId} {pos:String} {af:Array Edge} {g:Option (Nat × Bool)} {t:TypeId} {x:Operand} {lo hi mx:Option Operand} {v u:Value} {lo' hi' mx':Option Value} (hx:ev σ x=v)
    (hlo:lo.map (ev σ)=lo') (hhi:hi.map (ev σ)=hi') (hmx:mx.map (ev σ)=mx') (h:(Instr.sliceAt t v lo' hi' mx').run P w = .ok u w) :
    (execOp (ev σ) ⟨some d,.slice t x lo hi mx,ty,pos,af,g⟩).run P w = .ok (.value u) w:=by
  subst hlo hhi hmx;simp [execOp,hx,h]
end
theorem At.to {lo:Nat} {w w':World} {p:Value} {cs:List Value} (h:At (frm w lo) p cs) (k:KF lo w w'):At w'.cell? p cs:=h.mono ((frm_kf k).trans (frm_le _ _))
theorem At.up {lo:Nat} {w:World} {p:Value} {cs:List Value} (h:At (frm w lo) p cs):At w.cell? p cs:=h.mono (frm_le _ _)
theorem Sl.cells {α:Type} [Elt α] {C:Cells} {v:Value} {l:List α} (h:Sl C v l):v.cells = #[v]:=by
  obtain ⟨a,c,hv⟩:=h.slen;subst hv; rfl
theorem Sl.oc {α:Type} [Elt α] {C:Cells} {v:Value} {l:List α} (h:Sl C v l):v.oneCell'=true:=by
  obtain ⟨a,c,hv⟩:=h.slen;subst hv; rfl
theorem FnB.cells {α:Type} [Elt α] {P:Program} {w:World} {vf:Value} {p:α->Bool} {D:α->Prop} (h:FnB P w vf p D):vf.cells = #[vf]:=by
  obtain ⟨f,cap,h1,_⟩:=h;subst h1; rfl
theorem FnB.oc {α:Type} [Elt α] {P:Program} {w:World} {vf:Value} {p:α->Bool} {D:α->Prop} (h:FnB P w vf p D):vf.oneCell'=true:=by
  obtain ⟨f,cap,h1,_⟩:=h;subst h1; rfl
end Go.Nm
namespace Go.Nm
open Go
section
variable {P:Program} {w:World}
/-- The tail of a slice value from a place on. -/
def sufV (sz:Nat) (v:Value) (o:Nat):Value:=match v with
  | .slice a n c=>.slice (if c=o then a else a.map (·.add (o*sz))) (n-o) (c-o)
  | v=>v
theorem OwnF.suf {α:Type} [Flat α] {t e:TypeId} (hu:P.underlying t=some (.slice e)) (hs:(P.info? e).map (·.size)=some (Elt.sz α)) {B:Nat} {v:Value} {l:List α} (h:OwnF B e w v l) {i:Int} (h0:0<=i) (h1:i<=l.length) :
    ∀ w',(Instr.sliceAt t v (some (.int .i64 i)) none none).run P w' = .ok (sufV (Elt.sz α) v i.toNat) w':=by
  intro w';obtain ⟨a,c,hv,hc,hm,hh⟩:=h.sl.ex;subst hv;simp [sufV,Instr.sliceAt,Instr.slice,Instr.sliceBounds,Instr.sliceBound,asIntOf,run_underlying hu,run_sizeOf hs,h0,h1]
theorem sufV_zero {α:Type} [Flat α] {B:Nat} {e:TypeId} {v:Value} {l:List α} (h:OwnF B e w v l) (n:Nat):sufV n v 0=v:=by
  rcases h.2 with ⟨rfl,_⟩ | ⟨g,cap,cur,rfl,_⟩
  · rfl
  · simp [sufV,Addr.add]
theorem OwnF.dn {α:Type} [Flat α] {B B':Nat} {e:TypeId} {v:Value} {l:List α} (h:OwnF B e w v l) (hB:B'<=B):OwnF B' e w v l:=by
  refine ⟨h.1,?_⟩;rcases h.2 with hn | ⟨gb,cap,cur,hv,hb,rest⟩
  · exact .inl hn
  · exact .inr ⟨gb,cap,cur,hv,Nat.le_trans hB hb,rest⟩
theorem enc_ints (l:List Int):(l.flatMap Flat.enc:List Value)=l.map I:=by
  induction l with
  | nil=>rfl
  | cons a l ih=>simp only [List.flatMap_cons,ih,List.map_cons]; rfl
variable {all rest:List Oper} {Q:Post} {σ:Env} {d:Nat} {ty:TypeId} {pos:String} {af:Array Edge} {g:Option (Nat × Bool)}
theorem wrapU {a:Int} (h:0<=a/\a<=18446744073709551615):IntKind.u64.wrap a=a:=by
  have:a % 18446744073709551616=a:=Int.emod_eq_of_lt h.1 (by omega);simp [IntKind.wrap,IntKind.bits,IntKind.signed,this]
theorem x_conv64 {s t:TypeId} {x:Operand} {kd:IntKind} {a:Int} {ds:TypeDesc} (hs:P.underlying s=some ds) (ht:P.underlying t=some (.int .i64)) (hx:ev σ x = .int kd a) (h:-9223372036854775808<=a/\a<=9223372036854775807) :
    (execOp (ev σ) ⟨some d,.convert s t x,ty,pos,af,g⟩).run P w = .ok (.value (.int .i64 a)) w:=by
  have:=x_conv (d:=d) (ty:=ty) (pos:=pos) (af:=af) (g:=g) (w:=w) hs ht hx
  rwa [wrap64 h] at this
theorem x_convU {s t:TypeId} {x:Operand} {kd:IntKind} {a:Int} {ds:TypeDesc} (hs:P.underlying s=some ds) (ht:P.underlying t=some (.int .u64)) (hx:ev σ x = .int kd a) (h:0<=a/\a<=18446744073709551615) :
    (execOp (ev σ) ⟨some d,.convert s t x,ty,pos,af,g⟩).run P w = .ok (.value (.int .u64 a)) w:=by
  have:=x_conv (d:=d) (ty:=ty) (pos:=pos) (af:=af) (g:=g) (w:=w) hs ht hx
  rwa [wrapU h] at this
end
end Go.Nm
namespace Go.Nm
open Go
section
variable {κ ν:Type} [DecidableEq κ]
/-- What a list of pairs says of a key: the first one counts. -/
def lookM:List (κ × ν)->κ->Option ν
  | [],_=>none
  | p :: m,k=>if p.1=k then some p.2 else lookM m k
def idxM:List (κ × ν)->κ->Option Nat
  | [],_=>none
  | p :: m,k=>if p.1=k then some 0 else (idxM m k).map (· + 1)
def setM:List (κ × ν)->κ->ν->List (κ × ν)
  | [],k,v=>[(k,v)]
  | p :: m,k,v=>if p.1=k then (k,v) :: m else p :: setM m k v
theorem lookM_set:∀ (m:List (κ × ν)) (k:κ) (v:ν) (k':κ),lookM (setM m k v) k'=if k'=k then some v else lookM m k'
  | [],k,v,k'=>by
    by_cases h:k=k'
    · subst h; simp [setM,lookM]
    · simp [setM,lookM,h,Ne.symm h]
  | p :: m,k,v,k'=>by
    have ih:=lookM_set m k v k';by_cases h:p.1=k
    · subst h;by_cases h':p.1=k'
      · subst h'; simp [setM,lookM]
      · simp [setM,lookM,h',Ne.symm h']
    · by_cases h':p.1=k'
      · subst h'; simp [setM,lookM,h]
      · simp only [setM,h,if_false,lookM,h',ih]
theorem idxM_none:∀ {m:List (κ × ν)} {k:κ},idxM m k=none->lookM m k=none
  | [],_,_=>rfl
  | p :: m,k,h=>by
    unfold idxM at h;split at h
    · cases h
    · rename_i hp
      unfold lookM;rw [if_neg hp];exact idxM_none (by simpa using h)
theorem idxM_some:∀ {m:List (κ × ν)} {k:κ} {i:Nat},idxM m k=some i->∃ v,m[i]?=some (k,v)/\lookM m k=some v
  | [],_,_,h=>by simp [idxM] at h
  | p :: m,k,i,h=>by
    unfold idxM at h;split at h
    · rename_i hp
      injection h with h
      subst h;refine ⟨p.2,by simp [← hp],by unfold lookM; rw [if_pos hp]⟩
    · rename_i hp
      cases hi:idxM m k with
      | none=>simp [hi] at h
      | some j =>
        simp only [hi,Option.map_some,Option.some.injEq] at h;subst h;obtain ⟨v,h1,h2⟩:=idxM_some hi;exact ⟨v,by simpa using h1,by unfold lookM; rw [if_neg hp,h2]⟩
theorem setM_none:∀ {m:List (κ × ν)} {k:κ} (v:ν),idxM m k=none->setM m k v=m++[(k,v)]
  | [],_,_,_=>rfl
  | p :: m,k,v,h=>by
    unfold idxM at h;split at h
    · cases h
    · rename_i hp
      unfold setM;rw [if_neg hp,setM_none v (by simpa using h)];rfl
theorem setM_some:∀ {m:List (κ × ν)} {k:κ} {i:Nat} (v:ν),idxM m k=some i->setM m k v=m.set i (k,v)
  | [],_,_,_,h=>by simp [idxM] at h
  | p :: m,k,i,v,h=>by
    unfold idxM at h;split at h
    · rename_i hp
      injection h with h
      subst h;unfold setM;rw [if_pos hp];rfl
    · rename_i hp
      cases hi:idxM m k with
      | none=>simp [hi] at h
      | some j =>
        simp only [hi,Option.map_some,Option.some.injEq] at h;subst h;unfold setM;rw [if_neg hp,setM_some v hi];rfl
/-- What is asked of a type of keys: keys are told apart as the model's numbers are. -/
structure KeyL (P:Program) (kt:TypeId) (kenc:κ->Value):Prop where
  check:∀ e w k,(Instr.checkKey e 10000 kt (kenc k)).run P w = .ok () w
  find:∀ w (es:List MapEntry) (m:List (κ × ν)) (venc:ν->Value) k,es.map (fun e=>(e.key,e.val))=m.map (fun p=>(kenc p.1,venc p.2)) →
    (Instr.findKey kt (kenc k) es).run P w = .ok ((idxM m k).bind fun i=>(es[i]?).map fun e=>(i,e.val)) w
  same:∀ k,Instr.sameBits 10000 (kenc k) (kenc k)=true
theorem findNow_int {kd:IntKind} (k:Int):∀ (es:List MapEntry) (m:List (Int × ν)) (venc:ν->Value) (j:Nat),es.map (fun e=>(e.key,e.val))=m.map (fun p=>(I p.1,venc p.2)) →
    Instr.findNow (.int kd) (I k) es j=some ((idxM m k).bind fun i=>(es[i]?).map fun e=>(i+j,e.val))
  | [],[],_,_,_=>rfl
  | [],_ :: _,_,_,h=>by simp at h
  | _ :: _,[],_,_,h=>by simp at h
  | e :: es,p :: m,venc,j,h=>by
    simp only [List.map_cons,List.cons.injEq,Prod.mk.injEq] at h;have ih:=findNow_int (kd:=kd) k es m venc (j+1) h.2;unfold Instr.findNow;rw [h.1.1];unfold idxM;by_cases hp:p.1=k
    · rw [if_pos hp];simp [Instr.sameNow,hp]
    · rw [if_neg hp];have:(k==p.1)=false:=by simp; exact fun e=>hp e.symm
      simp only [Instr.sameNow,this,if_true,ih];cases hi:idxM m k with
      | none=>rfl
      | some i =>
        simp only [Option.map_some,Option.bind_some,List.getElem?_cons_succ];cases es[i]? with
        | none=>rfl
        | some e'=>simp; omega
theorem KeyL.int {P:Program} {kt:TypeId} (h:P.underlying kt=some (.int .i64)):KeyL (κ:=Int) (ν:=ν) P kt I:=by
  refine ⟨fun e w k=>MapKept.run_checkKey h (show MapKept.IsKey (.int .i64) (I k) from rfl) e 9999,fun w es m venc k hm=>MapKept.run_findKey h (findNow_int k es m venc 0 hm),fun k=>?_⟩;simp [Instr.sameBits]
/-- What the entries of a map say. -/
def MapR (kenc:κ->Value) (venc:ν->Value) (es:Array MapEntry) (clk:Nat) (f:κ->Option ν):Prop :=
  (∃ m:List (κ × ν),es.toList.map (fun e=>(e.key,e.val))=m.map (fun p=>(kenc p.1,venc p.2))/\∀ k,lookM m k=f k)/\(es.toList.map (·.born)).Nodup/\∀ e∈es.toList,e.born<clk
theorem MapR.nil (kenc:κ->Value) (venc:ν->Value) (clk:Nat):MapR kenc venc #[] clk (fun _=>none):=⟨⟨[],rfl,fun _=>rfl⟩,List.nodup_nil,fun e h=>by simp at h⟩
theorem MapR.congr {kenc:κ->Value} {venc:ν->Value} {es:Array MapEntry} {clk:Nat} {f g:κ->Option ν} (h:MapR kenc venc es clk f) (hfg:∀ k,f k=g k):MapR kenc venc es clk g:=by
  obtain ⟨⟨m,h1,h2⟩,h3⟩:=h;exact ⟨⟨m,h1,fun k=>(h2 k).trans (hfg k)⟩,h3⟩
/-- A key's new value. -/
def updF (f:κ->Option ν) (k:κ) (v:ν):κ->Option ν:=fun k'=>if k'=k then some v else f k'
end
section
variable {P:Program} {w:World} {κ ν:Type} [DecidableEq κ] {kenc:κ->Value} {venc:ν->Value} {t kt et:TypeId} {b:Nat} {es:Array MapEntry} {clk:Nat} {f:κ->Option ν}
theorem Put.setMap (o:Obj) (hb:w.heap[b]?=some (.map es clk)) (ho:∀ c e fr,o ≠ .cells c e fr) {es':Array MapEntry} {clk':Nat} (hm:o = .map es' clk'):Put w b o { w with heap:=w.heap.setIfInBounds b o }:=by
  have hs:=MapKept.heap_set (o':=o) hb;refine ⟨rfl,rfl,by simp,hs.1,hs.2,fun a=>?_⟩;subst hm;unfold World.frozen?;by_cases h:a.block=b
  · simp only [h,hs.1,hb]
  · simp only [hs.2 a.block h]
theorem run_lookupM (K:KeyL (ν:=ν) P kt kenc) (ht:P.underlying t=some (.map kt et)) {z:Value} (hz:(zeroValue et).run P w = .ok z w) (hb:w.heap[b]?=some (.map es clk)) (hm:MapR kenc venc es clk f) (k:κ) (ok:Bool) :
    (Instr.lookup t (.map (some b)) (kenc k) ok).run P w = .ok (if ok then .tuple #[((f k).map venc).getD z,.bool (f k).isSome] else ((f k).map venc).getD z) w:=by
  obtain ⟨⟨m,h1,h2⟩,_⟩:=hm;have hf:=K.find w es.toList m venc k h1;cases hi:idxM m k with
  | none =>
    have hl:=idxM_none hi;rw [h2] at hl;rw [hi] at hf;simp [Instr.lookup,run_underlying ht,MapKept.run_getObj_map hb,K.check,hf,hz,hl]
  | some i =>
    obtain ⟨v,hv,hl⟩:=idxM_some hi;rw [h2] at hl;have he:∃ e,es.toList[i]?=some e/\e.val=venc v:=by
      have h3:(es.toList.map (fun e=>(e.key,e.val)))[i]?=(m.map (fun p=>(kenc p.1,venc p.2)))[i]?:=by rw [h1]
      rw [List.getElem?_map,List.getElem?_map,hv] at h3;cases he:es.toList[i]? with
      | none=>rw [he] at h3; simp at h3
      | some e=>rw [he] at h3; simp at h3; exact ⟨e,rfl,h3.2⟩
    obtain ⟨e,he1,he2⟩:=he;rw [hi] at hf;simp only [Option.bind_some,he1,Option.map_some,he2] at hf;simp [Instr.lookup,run_underlying ht,MapKept.run_getObj_map hb,K.check,hf,hl]
theorem run_mapUpdateM (K:KeyL (ν:=ν) P kt kenc) (ht:P.underlying t=some (.map kt et)) (hb:w.heap[b]?=some (.map es clk)) (hm:MapR kenc venc es clk f) (k:κ) (v:ν) :
    ∃ es' clk' w',(Instr.mapUpdate t (.map (some b)) (kenc k) (venc v)).run P w = .ok () w'/\Put w b (.map es' clk') w'/\MapR kenc venc es' clk' (updF f k v):=by
  obtain ⟨⟨m,h1,h2⟩,h3,h4⟩:=hm;have hf:=K.find w es.toList m venc k h1;cases hi:idxM m k with
  | none =>
    rw [hi] at hf;refine ⟨es.push { key:=kenc k,val:=venc v,born:=clk },clk+1,_,?_,Put.setMap _ hb (by simp) rfl,⟨setM m k v,?_,fun k'=>?_⟩,?_,?_⟩
    · simp [Instr.mapUpdate,run_underlying ht,MapKept.run_getObj_map hb,K.check,hf,MapKept.run_setObj_map _ hb]
    · rw [setM_none v hi];simp [h1]
    · rw [lookM_set,h2]; rfl
    · simp only [Array.toList_push,List.map_append,List.map_cons,List.map_nil];rw [List.nodup_append];refine ⟨h3,by simp,fun a ha c hc=>?_⟩;simp at hc;subst hc;obtain ⟨e,he,rfl⟩:=List.mem_map.1 ha;have:=h4 e he;omega
    · intro e he;simp only [Array.toList_push,List.mem_append,List.mem_singleton] at he;rcases he with he | rfl
      · have:=h4 e he; omega
      · simp
  | some i =>
    obtain ⟨v0,hv,hl⟩:=idxM_some hi;have he:∃ e,es.toList[i]?=some e/\e.key=kenc k:=by
      have h3:(es.toList.map (fun e=>(e.key,e.val)))[i]?=(m.map (fun p=>(kenc p.1,venc p.2)))[i]?:=by rw [h1]
      rw [List.getElem?_map,List.getElem?_map,hv] at h3;cases he:es.toList[i]? with
      | none=>rw [he] at h3; simp at h3
      | some e=>rw [he] at h3; simp at h3; exact ⟨e,rfl,h3.1⟩
    obtain ⟨e,he1,he2⟩:=he;have he1':es[i]?=some e:=by simpa using he1
    rw [hi] at hf;simp only [Option.bind_some,he1,Option.map_some] at hf;have hk:(Instr.keyThatStays (((es[i]?).map (·.key)).getD (kenc k)) (kenc k)).run P w = .ok (kenc k) w:=by
      simp [he1',Instr.keyThatStays,he2,K.same]
    refine ⟨es.modify i fun e=>{ e with key:=kenc k,val:=venc v },clk,_,?_,Put.setMap _ hb (by simp) rfl,⟨setM m k v,?_,fun k'=>?_⟩,?_,?_⟩
    · simp [Instr.mapUpdate,run_underlying ht,MapKept.run_getObj_map hb,K.check,hf,hk,MapKept.run_setObj_map _ hb]
    · rw [setM_some v hi];apply List.ext_getElem?;intro j;have hj:(es.toList.map (fun e=>(e.key,e.val)))[j]?=(m.map (fun p=>(kenc p.1,venc p.2)))[j]?:=by rw [h1]
      simp only [List.getElem?_map,Array.getElem?_toList,Array.getElem?_modify,List.getElem?_set] at hj ⊢;by_cases hij:i=j
      · subst hij;have hlt:=(List.getElem?_eq_some_iff.1 hv).1;simp [he1',hlt]
      · simp [hij,hj]
    · rw [lookM_set,h2]; rfl
    · have:(es.modify i fun e=>{ e with key:=kenc k,val:=venc v }).toList.map (·.born)=es.toList.map (·.born):=by
        apply List.ext_getElem?;intro j;simp only [List.getElem?_map,Array.getElem?_toList,Array.getElem?_modify];by_cases hij:i=j
        · subst hij; simp [he1']
        · simp [hij]
      rw [this]; exact h3
    · intro e' he';obtain ⟨j,hj⟩:=List.getElem?_of_mem he';simp only [Array.getElem?_toList,Array.getElem?_modify] at hj;by_cases hij:i=j
      · subst hij;simp [he1'] at hj;subst hj;exact h4 e (List.mem_of_getElem? he1)
      · simp [hij] at hj;exact h4 e' (List.mem_of_getElem? (by simpa using hj))
variable {all rest:List Oper} {Q:Post} {σ:Env} {d:Nat} {ty:TypeId} {pos:String} {af:Array Edge} {g:Option (Nat × Bool)}
theorem s_mkmap {t':TypeId} (k:∀ b w',New w b (.map #[] 0) w'->SL P all Q rest (upd σ d (.map (some b))) w'):SL P all Q (⟨some d,.makeMap t' none,ty,pos,af,none⟩ :: rest) σ w:=by
  refine s_any (v:=.map (some w.heap.size)) (w':=w.alloc (.map #[] 0)) ?_ (k _ _ (.allocMap ..));simp [execOp,Instr.makeMap,newObj];rfl
theorem x_look {x y:Operand} (K:KeyL (ν:=ν) P kt kenc) (ht:P.underlying t=some (.map kt et)) {z:Value} (hz:(P.info? et).map (·.zero)=some (some z)) (hx:ev σ x = .map (some b)) {k:κ} (hy:ev σ y=kenc k)
    (hb:w.heap[b]?=some (.map es clk)) (hm:MapR kenc venc es clk f) (ok:Bool) {v:Value} (hv:(if ok then .tuple #[((f k).map venc).getD z,.bool (f k).isSome] else ((f k).map venc).getD z)=v) :
    (execOp (ev σ) ⟨some d,.lookup t x y ok,ty,pos,af,g⟩).run P w = .ok (.value v) w:=by
  have hzz:(zeroValue et).run P w = .ok z w:=by
    cases hi:P.info? et with
    | none=>simp [hi] at hz
    | some i=>simp [hi] at hz; simp [zeroValue,typeInfo,hi,hz]
  have hr:=run_lookupM (w:=w) K ht hzz hb hm k ok;rw [hv] at hr;simp [execOp,hx,hy,hr]
theorem s_mapu {dst:Option Nat} {x y u:Operand} (K:KeyL (ν:=ν) P kt kenc) (ht:P.underlying t=some (.map kt et)) (hx:ev σ x = .map (some b)) {k:κ} (hy:ev σ y=kenc k) {v:ν} (hu:ev σ u=venc v)
    (hb:w.heap[b]?=some (.map es clk)) (hm:MapR kenc venc es clk f)
    (kk:∀ es' clk' w',Put w b (.map es' clk') w'->MapR kenc venc es' clk' (updF f k v)->SL P all Q rest (updo σ dst undef) w'):SL P all Q (⟨dst,.mapUpdate t x y u,ty,pos,af,none⟩ :: rest) σ w:=by
  obtain ⟨es',clk',w',hr,hp,hm'⟩:=run_mapUpdateM (w:=w) K ht hb hm k v;refine s_skp (w':=w') ?_ (kk _ _ _ hp hm');simp [execOp,hx,hy,hu,hr]
end
end Go.Nm
namespace Go.Nm
open Go
section
variable {P:Program} {w:World}
/-- The parts of a struct, laid one after the other. -/
inductive Fill (pl:List (Nat × Nat)):List Value->List (Nat × Value)->List Value->Prop
  | nil {L:List Value}:Fill pl L [] L
  | cons {L cs L1 L':List Value} {i off n:Nat} {v:Value} {rest:List (Nat × Value)} (hv:v.cells=cs.toArray) (hp:pl[i]?=some (off,n)) (hn:cs.length=n) (hle:Nat.ble (off+n) L.length=true)
      (he:L.take off++cs++L.drop (off+n)=L1) (h:Fill pl L1 rest L'):Fill pl L ((i,v) :: rest) L'
theorem foldl_lay (off:Nat):∀ (cs:List Value) (s:Nat) (L:List Value),off+s+cs.length<=L.length →
    (cs.zipIdx s).foldl (fun (a:Array Value) (x:Value × Nat)=>a.setIfInBounds (off+x.2) x.1) L.toArray=(L.take (off+s)++cs++L.drop (off+s+cs.length)).toArray
  | [],s,L,_=>by simp
  | c :: cs,s,L,h=>by
    simp only [List.length_cons] at h;simp only [List.zipIdx_cons,List.foldl_cons,List.setIfInBounds_toArray];rw [foldl_lay off cs (s+1) (L.set (off+s) c) (by simp; omega)]
    congr 1
    rw [show off+(s+1)=off+s+1 from by omega];rw [List.take_set,List.drop_set_of_lt (by omega)];rw [List.take_succ_eq_append_getElem (by omega)];rw [List.set_append_right _ _ (by simp; omega)];simp only [List.length_take,List.length_cons];rw [Nat.min_eq_left (by omega),Nat.sub_self];simp only [List.set_cons_zero,List.append_assoc,List.cons_append,List.nil_append];rw [show off+s+1+cs.length=off+s+(cs.length+1) from by omega]
theorem Fill.run {pl:List (Nat × Nat)} {L L':List Value} {parts:List (Nat × Value)} (h:Fill pl L parts L'):Instr.fill (fun i=>pl[i]?) L.toArray parts=some L'.toArray:=by
  induction h with
  | nil=>rfl
  | @cons L cs L1 L' i off n v rest hv hp hn hle he _ ih =>
    have hle':=Nat.le_of_ble_eq_true hle;unfold Instr.fill;simp only [hp,hv];have c1:¬ ((cs.toArray.size ≠ n||off+cs.toArray.size > L.toArray.size)=true):=by simp; omega
    rw [if_neg c1];have:=foldl_lay off cs 0 L (by omega);simp only [Nat.add_zero] at this;have e:(cs.toArray.zipIdx.foldl (fun cs (x:Value × Nat)=>cs.setIfInBounds (off+x.2) x.1) L.toArray)=(L.take off++cs++L.drop (off+cs.length)).toArray:=by
      rw [← this,← Array.foldl_toList];simp
    rw [hn] at e;rw [he] at e;rw [← ih]
    congr 1
theorem run_buildS {t:TypeId} {fs:Array Field} {z:Value} {zs L':List Value} {pl:List (Nat × Nat)} {parts:Array (Nat × Value)} (hu:P.underlying t=some (.struct fs)) (hz:(P.info? t).map (·.zero)=some (some z)) (hzc:z.cells=zs.toArray)
    (hp:fs.toList.mapM (fun f=>(P.info? f.type).map fun i=>(f.offset,i.size))=some pl) (hf:Fill pl zs parts.toList L') :
    (Instr.build t parts).run P w = .ok (.agg L'.toArray) w:=by
  have hpl:=run_places (P:=P) w fs.toList pl hp;have hzr:(zeroValue t).run P w = .ok z w:=by
    cases hi:P.info? t with
    | none=>simp [hi] at hz
    | some i=>simp [hi] at hz; simp [zeroValue,typeInfo,hi,hz]
  have hmap:(fs.mapM fun f=>Prod.mk f.offset <$> sizeOf f.type).run P w = .ok pl.toArray w:=by
    rw [Array.mapM_eq_mapM_toList];simp [hpl]
  have hrun:=hf.run;rw [← hzc] at hrun;have e2:(fun i:Nat=>pl.toArray[i]?)=fun i:Nat=>pl[i]?:=by funext i; simp
  simp [Instr.build,hzr,run_underlying hu,hmap,e2,hrun]
theorem x_bld {σ:Env} {d:Nat} {ty:TypeId} {pos:String} {af:Array Edge} {g:Option (Nat × Bool)} {t:TypeId} {fs:Array Field} {z:Value} {zs L':List Value} {pl:List (Nat × Nat)} {parts:Array (Nat × Operand)} {ps:List (Nat × Value)}
    (hps:parts.toList.map (fun x=>(x.1,ev σ x.2))=ps) (hu:P.underlying t=some (.struct fs)) (hz:(P.info? t).map (·.zero)=some (some z)) (hzc:z.cells=zs.toArray)
    (hp:fs.toList.mapM (fun f=>(P.info? f.type).map fun i=>(f.offset,i.size))=some pl) (hf:Fill pl zs ps L') :
    (execOp (ev σ) ⟨some d,.build t parts,ty,pos,af,g⟩).run P w = .ok (.value (.agg L'.toArray)) w:=by
  subst hps;have:(Instr.build t (parts.map fun x=>(x.1,ev σ x.2))).run P w = .ok (.agg L'.toArray) w:=run_buildS hu hz hzc hp (by rw [Array.toList_map]; exact hf);simp [execOp,this]

/-! ### Arrays of truth values by value -/
def encB (l:List Bool):List Value:=l.map Value.bool
theorem encB_len (l:List Bool):(encB l).length=l.length:=by simp [encB]
theorem encB_get (l:List Bool) {i:Nat} (h:i<l.length):((encB l).drop i).take 1=[B (l.getD i false)]:=by
  have h':i<(encB l).length:=by rw [encB_len]; exact h
  rw [List.drop_eq_getElem_cons h'];simp [encB,List.getD,h]
theorem encB_set (l:List Bool) {i:Nat} (h:i<l.length) (b:Bool):(encB l).take i++[B b]++(encB l).drop (i+1)=encB (l.set i b):=by
  unfold encB;rw [List.map_set];rw [List.set_eq_take_append_cons_drop];simp [h]
theorem run_indexArr {t e n:Nat} (hu:P.underlying t=some (.array n e)) (hs:(P.info? e).map (·.size)=some 1) {b o:Nat} {kd:IntKind} {i:Int} (h0:0<=i) (h1:i<n) :
    (Instr.indexAt t (.pointer (some ⟨b,o,none⟩)) (.int kd i)).run P w = .ok (.pointer (some ⟨b,o+i.toNat,none⟩)) w:=by
  simp [Instr.indexAt,asIntOf,run_underlying hu,Instr.sureAddr,h0,h1,run_sizeOf hs,add_lit]
theorem ldArr {t:TypeId} {b:Nat} {l:List Bool} {et:TypeId} {fr:Nat × Nat} (hsc:isSc (P.underlying t)=true) (h:w.heap[b]?=some (.cells (encB l).toArray et fr)) {i:Int} (h0:0<=i) (h1:i<l.length) :
    (Instr.loadAt t (.pointer (some ⟨b,0+i.toNat,none⟩))).run P w = .ok (B (l.getD i.toNat false)) w:=by
  refine ldb_sc hsc h ?_;rw [Nat.zero_add];exact encB_get l (by omega)
section
variable {all rest:List Oper} {Q:Post} {σ:Env} {ty:TypeId} {pos:String} {af:Array Edge}
theorem s_stArr {dst:Option Nat} {t:TypeId} {x y:Operand} {b:Nat} {l:List Bool} {et:TypeId} {i:Int} {v:Bool} (hx:ev σ x = .pointer (some ⟨b,0+i.toNat,none⟩)) (hy:ev σ y=B v)
    (hs:(P.info? t).map (·.size)=some 1) (h:w.heap[b]?=some (.cells (encB l).toArray et (0,0))) (h0:0<=i) (h1:i<l.length)
    (k:∀ w',Put w b (.cells (encB (l.set i.toNat v)).toArray et (0,0)) w'->SL P all Q rest (updo σ dst undef) w'):SL P all Q (⟨dst,.store t x y,ty,pos,af,none⟩ :: rest) σ w:=by
  refine s_st (vs:=[B v]) hx hy hs h rfl rfl ?_ rfl ?_ k
  · exact Nat.ble_eq_true_of_le (by rw [encB_len]; omega)
  · rw [Nat.zero_add];exact encB_set l (by omega) v
end
/-! ### Results in memory -/
theorem run_loadVar_sc {t:TypeId} {b off:Nat} {cs:List Value} {et:TypeId} {fr:Nat × Nat} {v:Value} (hsc:isSc (P.underlying t)=true) (h:w.heap[b]?=some (.cells cs.toArray et fr)) (hv:(cs.drop off).take 1=[v]) :
    (loadVar t ⟨b,off,none⟩).run P w = .ok v w:=by
  have:=ldb_sc (P:=P) hsc h hv
  simpa [Instr.loadAt,Instr.sureAddr] using this
theorem run_loadVar_ag {t:TypeId} {b off n:Nat} {cs ds:List Value} {et:TypeId} {fr:Nat × Nat} (hag:isAg (P.underlying t)=true) (hs:(P.info? t).map (·.size)=some n)
    (h:w.heap[b]?=some (.cells cs.toArray et fr)) (hv:(cs.drop off).take n=ds) (hn:ds.length=n):(loadVar t ⟨b,off,none⟩).run P w = .ok (.agg ds.toArray) w:=by
  have:=ldb_ag (P:=P) hag hs h hv hn
  simpa [Instr.loadAt,Instr.sureAddr] using this
/-- One result after the other: from a slot, or out of memory. -/
inductive Res (P:Program) (σ:Env) (w:World):List ResultVar->List Value->Prop
  | nil:Res P σ w [] []
  | tmp {t:Nat} {v:Value} {rs:List ResultVar} {vs:List Value} (h:σ t=v) (hs:Res P σ w rs vs):Res P σ w (.tmp t :: rs) (v :: vs)
  | cell {a:Nat} {t:TypeId} {b off:Nat} {v:Value} {rs:List ResultVar} {vs:List Value} (h:σ a = .pointer (some ⟨b,off,none⟩)) (hl:(loadVar t ⟨b,off,none⟩).run P w = .ok v w) (hs:Res P σ w rs vs):Res P σ w (.cell a t :: rs) (v :: vs)
def resF (tmps:Array Value) (r:ResultVar):Sem Value:=match r with
  | .tmp t=>pure (tmps.getD t undef)
  | .cell a t=>do loadVar t (← asAddr (tmps.getD a undef))
theorem Res.run {σ:Env} {rs:List ResultVar} {vs:List Value} (h:Res P σ w rs vs) (tmps:Array Value) (ht:∀ k,tmps.getD k undef=σ k) :
    Sem.run P (rs.mapM (resF tmps)) w=Result.ok vs w:=by
  induction h with
  | nil=>rfl
  | tmp h _ ih =>
    rw [List.mapM_cons];generalize List.mapM (resF tmps) _=R at *;simp only [resF,Sem.run_bind,Sem.run_pure,Result.andThen_ok,ih,ht,h]
  | cell h hl _ ih =>
    rw [List.mapM_cons];generalize List.mapM (resF tmps) _=R at *;simp only [resF,Sem.run_bind,Sem.run_pure,Result.andThen_ok,ih,ht,h,asAddr,hl]
theorem resE_of {fn:Func} {σ:Env} {rs:List ResultVar} {vs:List Value} (hr:fn.results=rs.toArray) (h:Res P σ w rs vs):resE P fn σ w (if h:vs.toArray.size=1 then vs.toArray[0] else .tuple vs.toArray):=by
  intro tmps ht;have:=h.run tmps ht;have e:results fn tmps=(do let vs ← fn.results.mapM (resF tmps); pure (if h:vs.size=1 then vs[0] else .tuple vs)):=rfl;rw [e,hr,Array.mapM_eq_mapM_toList];simp only [List.toList_toArray,Sem.run_bind,Sem.run_map,this,Result.andThen_ok,Sem.run_pure]
theorem resE_ofn {fn:Func} {σ:Env} {rs:List ResultVar} {vs:List Value} (hr:fn.results=rs.toArray) (hn:Nat.beq vs.length 1=false) (h:Res P σ w rs vs):resE P fn σ w (.tuple vs.toArray):=by
  have:=resE_of hr h;have hne:¬ vs.toArray.size=1:=by
    intro e;simp only [List.size_toArray] at e;rw [e] at hn;cases hn
  rwa [dif_neg hne] at this
theorem resE_of1 {fn:Func} {σ:Env} {rs:List ResultVar} {v:Value} (hr:fn.results=rs.toArray) (h:Res P σ w rs [v]):resE P fn σ w v:=resE_of hr h
end
end Go.Nm
namespace Go.Nm
open Go

/-! ### What is reckoned -/
structure M (α:Type) where
  run:Nat->Option α
  mono:∀ n a,run n=some a->run (n+1)=some a
namespace M
variable {α β σ ρ:Type}
theorem le (m:M α) {n k:Nat} {a:α} (h:n<=k) (hr:m.run n=some a):m.run k=some a:=by
  induction h with
  | refl=>exact hr
  | step _ ih=>exact m.mono _ _ ih
def pure (a:α):M α:=⟨fun _=>some a,fun _ _ h=>h⟩
def fail:M α:=⟨fun _=>none,fun _ _ h=>h⟩
def bind (m:M α) (k:α->M β):M β :=
  ⟨fun n=>match m.run n with
    | none=>none
    | some a=>(k a).run n,by
    intro n b h;cases hm:m.run n with
    | none=>rw [hm] at h; cases h
    | some a =>
      rw [hm] at h;rw [m.mono _ _ hm];exact (k a).mono _ _ h⟩
def grd (b:Bool) (k:M α):M α:=bif b then k else fail
def opt (b:Bool) (m:M α) (d:α):M α:=bif b then m else pure d
def iterN (body:σ->M (σ ⊕ ρ)):Nat->σ->Option ρ
  | 0,_=>none
  | n+1,s=>match (body s).run n with
    | none=>none
    | some (.inl s')=>iterN body n s'
    | some (.inr r)=>some r
theorem iterN_mono (body:σ->M (σ ⊕ ρ)):∀ (n:Nat) (s:σ) (r:ρ),iterN body n s=some r->iterN body (n+1) s=some r
  | 0,_,_,h=>by cases h
  | n+1,s,r,h=>by
    unfold iterN at h ⊢;cases hb:(body s).run n with
    | none=>rw [hb] at h; cases h
    | some x =>
      rw [hb] at h;rw [(body s).mono _ _ hb];cases x with
      | inl s'=>exact iterN_mono body n s' r h
      | inr r'=>exact h
def iter (body:σ->M (σ ⊕ ρ)) (s:σ):M ρ:=⟨fun n=>iterN body n s,fun n r h=>iterN_mono body n s r h⟩
def Ends (m:M α) (a:α):Prop:=∃ n,m.run n=some a
/-- What a round leaves to be reckoned. -/
def Nxt (body:σ->M (σ ⊕ ρ)) (n:Nat) (r:ρ):σ ⊕ ρ->Prop
  | .inl s'=>iterN body n s'=some r
  | .inr r'=>r'=r

theorem e_pure {a r:α} (h:(pure a).Ends r):a=r:=by
  obtain ⟨n,h⟩:=h;exact Option.some.inj h
theorem e_fail {r:α} (h:(fail:M α).Ends r):False:=by
  obtain ⟨n,h⟩:=h;cases h
theorem e_bind {m:M α} {k:α->M β} {r:β} (h:(bind m k).Ends r):∃ a,m.Ends a/\(k a).Ends r:=by
  obtain ⟨n,h⟩:=h;simp only [bind] at h;cases hm:m.run n with
  | none=>rw [hm] at h; cases h
  | some a=>rw [hm] at h; exact ⟨a,⟨n,hm⟩,⟨n,h⟩⟩
theorem e_t {b:Bool} {x y:M α} {r:α} (h:(bif b then x else y).Ends r) (hb:b=true):x.Ends r:=by subst hb; exact h
theorem e_f {b:Bool} {x y:M α} {r:α} (h:(bif b then x else y).Ends r) (hb:b=false):y.Ends r:=by subst hb; exact h
theorem e_grd {b:Bool} {k:M α} {r:α} (h:(grd b k).Ends r):b=true/\k.Ends r:=by
  cases b with
  | true=>exact ⟨rfl,h⟩
  | false=>exact (e_fail h).elim
theorem imp_of {c b:Bool} (h:(!c||b)=true):c=false∨b=true:=by cases c <;> simp_all
theorem e_opt {b:Bool} {m:M α} {d:α} {r:α} (h:(opt b m d).Ends r):b=true->m.Ends r:=fun hb=>by subst hb; exact h
theorem e_iter {body:σ->M (σ ⊕ ρ)} {s:σ} {r:ρ} (h:(iter body s).Ends r):∃ n,iterN body n s=some r:=h
theorem e_iterN {body:σ->M (σ ⊕ ρ)} {m:Nat} {s:σ} {r:ρ} (h:iterN body m s=some r):∃ n,n<m/\∃ x,(body s).Ends x/\Nxt body n r x:=by
  cases m with
  | zero=>cases h
  | succ n =>
    unfold iterN at h;cases hb:(body s).run n with
    | none=>rw [hb] at h; cases h
    | some x =>
      rw [hb] at h;refine ⟨n,Nat.lt_succ_self n,x,⟨n,hb⟩,?_⟩;cases x with
      | inl s'=>exact h
      | inr r'=>exact Option.some.inj h
theorem e_inl {s:σ} {n:Nat} {r:ρ} {x:σ ⊕ ρ} {body:σ->M (σ ⊕ ρ)} (h:(pure (.inl s:σ ⊕ ρ)).Ends x) (hn:Nxt body n r x):iterN body n s=some r:=by
  have:=e_pure h;subst this;exact hn
theorem e_inr {r':ρ} {n:Nat} {r:ρ} {x:σ ⊕ ρ} {body:σ->M (σ ⊕ ρ)} (h:(pure (.inr r':σ ⊕ ρ)).Ends x) (hn:Nxt body n r x):r'=r:=by
  have:=e_pure h;subst this;exact hn
/-! ### How to show what is reckoned -/
theorem i_pure {a:α}:(pure a).Ends a:=⟨0,rfl⟩
theorem i_bind {m:M α} {k:α->M β} {a:α} {r:β} (h:m.Ends a) (h':(k a).Ends r):(bind m k).Ends r:=by
  obtain ⟨n,hn⟩:=h;obtain ⟨j,hj⟩:=h';refine ⟨max n j,?_⟩;simp only [bind];rw [m.le (Nat.le_max_left _ _) hn];exact (k a).le (Nat.le_max_right _ _) hj
theorem i_grd {b:Bool} {k:M α} {r:α} (hb:b=true) (h:k.Ends r):(grd b k).Ends r:=by subst hb; exact h
theorem i_opt {b:Bool} {m:M α} {d r:α} (h:b=true->m.Ends r) (h':b=false->d=r):(opt b m d).Ends r:=by
  cases b with
  | true=>exact h rfl
  | false=>obtain rfl:=h' rfl; exact i_pure
theorem i_if {b:Bool} {x y:M α} {r:α} (h:b=true->x.Ends r) (h':b=false->y.Ends r):(bif b then x else y).Ends r:=by
  cases b with
  | true=>exact h rfl
  | false=>exact h' rfl
theorem i_next {body:σ->M (σ ⊕ ρ)} {s s':σ} {r:ρ} (h:(body s).Ends (.inl s')) (h':(iter body s').Ends r):(iter body s).Ends r:=by
  obtain ⟨n,hn⟩:=h;obtain ⟨j,hj⟩:=h';refine ⟨max n j+1,?_⟩;show iterN body (max n j+1) s=some r;unfold iterN;rw [(body s).le (Nat.le_max_left _ _) hn];exact (iter body s').le (Nat.le_max_right n j) hj
theorem i_stop {body:σ->M (σ ⊕ ρ)} {s:σ} {r:ρ} (h:(body s).Ends (.inr r)):(iter body s).Ends r:=by
  obtain ⟨n,hn⟩:=h;refine ⟨n+1,?_⟩;show iterN body (n+1) s=some r;unfold iterN;rw [hn]
/-- A loop: what holds at each round's head, with a number that becomes less; the last round says what comes of it. -/
theorem i_loop {body:σ->M (σ ⊕ ρ)} {r:ρ} (J:Nat->σ->Prop) (round:∀ m s,J m s->(∃ s' m',m'<m/\(body s).Ends (.inl s')/\J m' s')∨(body s).Ends (.inr r)):∀ (m:Nat) (s:σ),J m s->(iter body s).Ends r:=by
  intro m;induction m using Nat.strongRecOn with
  | _ m ih =>
    intro s hs;rcases round m s hs with ⟨s',m',hlt,hb,hj⟩ | hb
    · exact i_next hb (ih m' hlt s' hj)
    · exact i_stop hb
theorem Ends.det {m:M α} {a b:α} (h:m.Ends a) (k:m.Ends b):a=b:=by
  obtain ⟨n,hn⟩:=h;obtain ⟨j,hj⟩:=k;have h1:=m.le (Nat.le_max_left n j) hn;have h2:=m.le (Nat.le_max_right n j) hj;rw [h1] at h2;exact Option.some.inj h2
/-! ### Functions that call themselves -/
def LeN (n:Nat) (m m':M α):Prop:=∀ j,j<=n->∀ r,m.run j=some r->m'.run j=some r
def Mon (F:(α->M β)->α->M β):Prop:=∀ n f g,(∀ a,LeN n (f a) (g a))->∀ a,LeN n (F f a) (F g a)
def fixN (F:(α->M β)->α->M β):Nat->α->M β
  | 0=>fun _=>fail
  | n+1=>F (fixN F n)
theorem fixN_le {F:(α->M β)->α->M β} (hF:Mon F):∀ n k a,LeN k (fixN F n a) (fixN F (n+1) a)
  | 0,_,_=>fun _ _ _ h=>by cases h
  | n+1,k,a=>hF k _ _ (fun a=>fixN_le hF n k a) a
theorem fixN_up {F:(α->M β)->α->M β} (hF:Mon F) {i j:Nat} (hij:i<=j):∀ k a,LeN k (fixN F i a) (fixN F j a):=by
  induction hij with
  | refl=>exact fun _ _ _ _ _ h=>h
  | step _ ih=>exact fun k a l hl r h=>fixN_le hF _ k a l hl r (ih k a l hl r h)
def fix (F:(α->M β)->α->M β) (hF:Mon F) (a:α):M β :=
  ⟨fun n=>(fixN F n a).run n,fun n r h=>(fixN F (n+1) a).mono _ _ (fixN_le hF n n a n (Nat.le_refl _) r h)⟩
theorem le_same (n:Nat) (m:M α):LeN n m m:=fun _ _ _ h=>h
theorem le_bind {n:Nat} {m m':M α} {k k':α->M β} (h:LeN n m m') (hk:∀ a,LeN n (k a) (k' a)):LeN n (bind m k) (bind m' k'):=by
  intro j hj r hr;simp only [bind] at hr ⊢;cases hm:m.run j with
  | none=>rw [hm] at hr; cases hr
  | some a=>rw [hm] at hr; rw [h j hj a hm]; exact hk a j hj r hr
theorem le_if {n:Nat} {b:Bool} {x y x' y':M α} (h:LeN n x x') (h':LeN n y y'):LeN n (bif b then x else y) (bif b then x' else y'):=by
  cases b with
  | true=>exact h
  | false=>exact h'
theorem le_grd {n:Nat} {b:Bool} {x x':M α} (h:LeN n x x'):LeN n (grd b x) (grd b x'):=le_if h (le_same n _)
theorem le_opt {n:Nat} {b:Bool} {x x':M α} {d:α} (h:LeN n x x'):LeN n (opt b x d) (opt b x' d):=le_if h (le_same n _)
theorem le_iter {n:Nat} {body body':σ->M (σ ⊕ ρ)} (h:∀ s,LeN n (body s) (body' s)) (s:σ):LeN n (iter body s) (iter body' s):=by
  intro j hj;show ∀ r,iterN body j s=some r->iterN body' j s=some r;induction j generalizing s with
  | zero=>intro r hr; cases hr
  | succ j ih =>
    intro r hr;unfold iterN at hr ⊢;cases hb:(body s).run j with
    | none=>rw [hb] at hr; cases hr
    | some x =>
      rw [hb] at hr;rw [h s j (by omega) x hb];cases x with
      | inl s'=>exact ih s' (by omega) r hr
      | inr r'=>exact hr
theorem e_fix {F:(α->M β)->α->M β} {hF:Mon F} {a:α} {r:β} (h:(fix F hF a).Ends r):∃ n,(fixN F n a).Ends r:=by
  obtain ⟨n,h⟩:=h;exact ⟨n,n,h⟩
theorem i_fixN {F:(α->M β)->α->M β} {hF:Mon F} {a:α} {r:β} {k:Nat} (h:(fixN F k a).Ends r):(fix F hF a).Ends r:=by
  obtain ⟨n,h⟩:=h;refine ⟨max n k,?_⟩;show (fixN F (max n k) a).run (max n k)=some r;exact fixN_up hF (Nat.le_max_right n k) _ a _ (Nat.le_refl _) r ((fixN F k a).le (Nat.le_max_left _ _) h)
/-- A function that calls itself is what it says. -/
theorem i_fix {F:(α->M β)->α->M β} {hF:Mon F} {a:α} {r:β} (h:(F (fix F hF) a).Ends r):(fix F hF a).Ends r:=by
  obtain ⟨n,h⟩:=h;refine i_fixN (k:=n+1) ⟨n,?_⟩;refine hF n (fix F hF) (fixN F n) (fun a j hj r hr=>?_) a n (Nat.le_refl _) r h;exact fixN_up hF hj j a j (Nat.le_refl _) r hr
end M

/-! ### Parts of memory -/
structure Chunk where
  D:Nat->Prop
  ex:Bool
  ok:World->Prop
  st:∀ w w',ok w->w.heap.size<=w'.heap.size->(∀ b,D b->w'.heap[b]?=w.heap[b]?)->ok w'
  bd:∀ w b,ok w->D b->b<w.heap.size
def Apart (c d:Chunk):Prop:=(c.ex||d.ex)=true->∀ b,c.D b->¬ d.D b
def Sep (w:World):List Chunk->Prop
  | []=>True
  | c :: L=>c.ok w/\(∀ d∈L,Apart c d)/\Sep w L
theorem Apart.symm {c d:Chunk} (h:Apart c d):Apart d c:=fun e b h1 h2=>h (by rw [Bool.or_comm]; exact e) b h2 h1
theorem Sep.get {w:World}:∀ {L:List Chunk},Sep w L->∀ {c},c∈L->c.ok w
  | _ :: _,h,_,.head _=>h.1
  | _ :: _,h,_,.tail _ hm=>Sep.get h.2.2 hm
theorem Sep.right {w:World}:∀ {L R:List Chunk},Sep w (L++R)->Sep w R
  | [],_,h=>h
  | _ :: L,_,h=>Sep.right (L:=L) h.2.2
theorem Sep.iff {w:World}:∀ {L:List Chunk},Sep w L↔(∀ c∈L,c.ok w)/\L.Pairwise Apart
  | []=>by simp [Sep]
  | c :: L=>by
    rw [List.pairwise_cons];unfold Sep;rw [Sep.iff (L:=L)];constructor
    · rintro ⟨h1,h2,h3,h4⟩;refine ⟨fun d hd=>?_,h2,h4⟩;rcases List.mem_cons.1 hd with rfl | hd
      · exact h1
      · exact h3 d hd
    · rintro ⟨h1,h2,h3⟩;exact ⟨h1 c (by simp),h2,fun d hd=>h1 d (by simp [hd]),h3⟩
theorem Sep.perm {w:World} {L L':List Chunk} (h:Sep w L) (p:L'.Perm L):Sep w L':=by
  rw [Sep.iff] at *;refine ⟨fun c hc=>h.1 c (p.mem_iff.1 hc),?_⟩;exact (p.pairwise_iff (fun {a b} h=>h.symm)).2 h.2
theorem Sep.sub {w:World} {L L':List Chunk} (h:Sep w L) (p:L'.Sublist L):Sep w L':=by
  rw [Sep.iff] at *;exact ⟨fun c hc=>h.1 c (p.subset hc),h.2.sublist p⟩
theorem Sep.old {w w':World}:∀ {L:List Chunk},Sep w L->w.heap.size<=w'.heap.size->(∀ c∈L,∀ b,c.D b->w'.heap[b]?=w.heap[b]?)->Sep w' L
  | [],_,_,_=>trivial
  | c :: _,h,hs,hk=>⟨c.st _ _ h.1 hs (hk c (by simp)),h.2.1,Sep.old h.2.2 hs (fun d hd=>hk d (by simp [hd]))⟩

structure Keep (w w':World):Prop where
  os:w'.os=w.os
  out:w'.output=w.output
  size:w.heap.size<=w'.heap.size
theorem Keep.refl (w:World):Keep w w:=⟨rfl,rfl,Nat.le_refl _⟩
theorem Keep.trans {a b c:World} (h:Keep a b) (k:Keep b c):Keep a c:=⟨k.os.trans h.os,k.out.trans h.out,Nat.le_trans h.size k.size⟩
theorem Ext.keep {w w':World} (h:Ext w w'):Keep w w':=⟨h.os,h.out,h.size⟩
theorem Put.keep {w w':World} {b:Nat} {o:Obj} (h:Put w b o w'):Keep w w':=⟨h.os,h.out,Nat.le_of_eq h.size.symm⟩
theorem Grow.keep {B:Nat} {v:Value} {w w':World} (h:Grow B v w w'):Keep w w':=⟨h.os,h.out,h.size⟩
/-- The memory of a walk: the parts that it names, and those that it was given. -/
structure St (w0 w:World) (L R:List Chunk):Prop where
  kp:Keep w0 w
  sep:Sep w (L++R)
section
variable {w0 w w':World} {L L' R:List Chunk}
theorem St.refl (h:Sep w R):St w w [] R:=⟨Keep.refl w,h⟩
theorem St.ext (h:St w0 w L R) (hx:Ext w w'):St w0 w' L R :=
  ⟨h.kp.trans hx.keep,h.sep.old hx.size fun c hc b hb=>hx.blk b (c.bd w b (h.sep.get hc) hb)⟩
theorem St.get (h:St w0 w L R) {k:Nat} {c:Chunk} (hk:L[k]?=some c):c.ok w:=h.sep.get (List.mem_append_left _ (List.mem_of_getElem? hk))
theorem St.tl (h:St w0 w L R):Sep w R:=h.sep.right
/-- A new part. -/
theorem St.push (h:St w0 w L R) {c:Chunk} (hx:Ext w w') (hc:c.ok w') (hn:∀ b,c.D b->w.heap.size<=b):St w0 w' (c :: L) R:=by
  refine ⟨h.kp.trans hx.keep,hc,fun d hd _ b h1 h2=>?_,(h.ext hx).sep⟩;have:=hn b h1;have:=d.bd w b (h.sep.get hd) h2;omega
/-- A part that is changed. -/
theorem St.set (h:St w0 w L R) {k:Nat} {c c':Chunk} (hk:L[k]?=some c) (hx:c.ex=true) (kp:Keep w w') (hs:∀ b,b<w.heap.size->¬ c.D b->w'.heap[b]?=w.heap[b]?)
    (hD:∀ b,c'.D b->c.D b∨w.heap.size<=b) (ho:c'.ok w') (hl:L.set k c'=L'):St w0 w' L' R:=by
  subst hl;refine ⟨h.kp.trans kp,?_⟩;have key:∀ (k:Nat) (L:List Chunk),Sep w L->L[k]?=some c->Sep w' (L.set k c'):=by
    intro k L;induction L generalizing k with
    | nil=>intro _ h; simp at h
    | cons d L ih =>
      intro hS hk;obtain ⟨h1,h2,h3⟩:=hS;cases k with
      | zero =>
        simp only [List.getElem?_cons_zero,Option.some.injEq] at hk;subst hk;refine ⟨ho,fun e he _ b hb hb'=>?_,h3.old kp.size fun e he b hb=>?_⟩
        · rcases hD b hb with hb | hb
          · exact h2 e he (by simp [hx]) b hb hb'
          · have:=e.bd w b (h3.get he) hb';omega
        · exact hs b (e.bd w b (h3.get he) hb) (fun hc=>h2 e he (by simp [hx]) b hc hb)
      | succ k =>
        simp only [List.getElem?_cons_succ] at hk;have hmem:c∈L:=List.mem_of_getElem? hk;have had:=h2 c hmem;refine ⟨d.st _ _ h1 kp.size fun b hb=>hs b (d.bd w b h1 hb) (fun hc=>had (by simp [hx]) b hb hc),fun e he=>?_,ih k h3 hk⟩;rcases List.mem_or_eq_of_mem_set he with he | rfl
        · exact h2 e he
        · intro _ b hb hb';rcases hD b hb' with hb' | hb'
          · exact had (by simp [hx]) b hb hb'
          · have:=d.bd w b h1 hb;omega
  have:=key k (L++R) h.sep (by rw [List.getElem?_append_left (List.getElem?_eq_some_iff.1 hk).1]; exact hk)
  rwa [List.set_append_left _ _ (List.getElem?_eq_some_iff.1 hk).1] at this
/-- Parts in another order, some of them left out. -/
theorem St.pick (h:St w0 w L R) (idx:List Nat) (hn:idx.Nodup) (hl:idx.mapM (fun i=>L[i]?)=some L'):St w0 w L' R:=by
  refine ⟨h.kp,?_⟩;have hS:=h.sep;rw [Sep.iff] at hS ⊢;have hmem:∀ c∈L',c∈L:=by
    clear hS h hn;induction idx generalizing L' with
    | nil=>simp at hl; subst hl; simp
    | cons i idx ih =>
      rw [List.mapM_cons] at hl;simp only [Option.bind_eq_bind,Option.bind_eq_some_iff,Option.pure_def,Option.some.injEq] at hl;obtain ⟨c,hc,L1,hL1,rfl⟩:=hl;intro d hd;rcases List.mem_cons.1 hd with rfl | hd
      · exact List.mem_of_getElem? hc
      · exact ih hL1 d hd
  have hpw:L'.Pairwise Apart:=by
    have hL:L.Pairwise Apart:=(List.pairwise_append.1 hS.2).1;clear hS h hmem;induction idx generalizing L' with
    | nil=>simp at hl; subst hl; simp
    | cons i idx ih =>
      rw [List.mapM_cons] at hl;simp only [Option.bind_eq_bind,Option.bind_eq_some_iff,Option.pure_def,Option.some.injEq] at hl;obtain ⟨c,hc,L1,hL1,rfl⟩:=hl;rw [List.nodup_cons] at hn;refine List.pairwise_cons.2 ⟨fun d hd=>?_,ih hn.2 hL1⟩;have:∀ (idx:List Nat) (L1:List Chunk),idx.mapM (fun i=>L[i]?)=some L1->i ∉ idx->d∈L1->∃ j,j ≠ i/\L[j]?=some d:=by
        intro idx;induction idx with
        | nil=>intro L1 h _ hd; simp at h; subst h; simp at hd
        | cons j idx ih =>
          intro L1 h hni hd;rw [List.mapM_cons] at h;simp only [Option.bind_eq_bind,Option.bind_eq_some_iff,Option.pure_def,Option.some.injEq] at h;obtain ⟨c',hc',L2,hL2,rfl⟩:=h;rw [List.mem_cons,not_or] at hni;rcases List.mem_cons.1 hd with rfl | hd
          · exact ⟨j,fun e=>hni.1 e.symm,hc'⟩
          · exact ih L2 hL2 hni.2 hd
      obtain ⟨j,hji,hj⟩:=this idx L1 hL1 hn.1 hd;obtain ⟨hi',rfl⟩:=List.getElem?_eq_some_iff.1 hc;obtain ⟨hj',rfl⟩:=List.getElem?_eq_some_iff.1 hj;rcases Nat.lt_or_gt_of_ne hji with h | h
      · exact (List.pairwise_iff_getElem.1 hL j i hj' hi' h).symm
      · exact List.pairwise_iff_getElem.1 hL i j hi' hj' h
  rw [List.pairwise_append] at hS;refine ⟨fun c hc=>?_,List.pairwise_append.2 ⟨hpw,hS.2.2.1,fun a ha b hb=>hS.2.2.2 a (hmem a ha) b hb⟩⟩;rcases List.mem_append.1 hc with hc | hc
  · exact hS.1 c (List.mem_append_left _ (hmem c hc))
  · exact hS.1 c (List.mem_append_right _ hc)
/-- What a callee is given: the first parts; the others are its frame. -/
theorem St.give (h:St w0 w L R) {A T:List Chunk} (hl:A++T=L):St w w A (T++R):=by
  subst hl;exact ⟨Keep.refl w,by rw [← List.append_assoc]; exact h.sep⟩
theorem St.back (h:St w0 w L R) {A T:List Chunk} (h':St w w' A (T++R)) (hl:A++T=L'):St w0 w' L' R:=by
  subst hl;exact ⟨h.kp.trans h'.kp,by rw [List.append_assoc]; exact h'.sep⟩
end
/-- Cells that can be read as long as these parts are what they are. -/
structure Reads (R:List Chunk) (C:Cells):Prop where
  le:∀ w,Sep w R->C.Le w.cell?
theorem Reads.app {R:List Chunk} {C:Cells} (h:Reads R C) (L:List Chunk):Reads (L++R) C:=⟨fun w hs=>h.le w hs.right⟩
theorem Reads.at {R:List Chunk} {C:Cells} (h:Reads R C) {w0 w:World} {L:List Chunk} (H:St w0 w L R):C.Le w.cell?:=h.le w H.tl
theorem Reads.of {L R:List Chunk} {C:Cells} {k:Nat} {c:Chunk} (hk:L[k]?=some c) (h:∀ w,c.ok w->C.Le w.cell?):Reads (L++R) C :=
  ⟨fun w hs=>h w (hs.get (List.mem_append_left _ (List.mem_of_getElem? hk)))⟩
theorem Reads.none {R:List Chunk}:Reads R (fun _=>none):=⟨fun _ _ _ _ h=>by cases h⟩
/-- Either's cells. -/
def Cells.sup (C D:Cells):Cells:=fun a=>match C a with | some v=>some v | none=>D a
theorem Cells.sup_l (C D:Cells):C.Le (C.sup D):=fun a v h=>by unfold Cells.sup; rw [h]
theorem Cells.sup_r {C D X:Cells} (h1:C.Le X) (h2:D.Le X):D.Le (C.sup D):=fun a v h=>by
  unfold Cells.sup;cases hc:C a with
  | none=>exact h
  | some u =>
    have a1:=h1 a u hc;have a2:=h2 a v h;rw [a1] at a2;exact a2
theorem Cells.sup_le {C D X:Cells} (h1:C.Le X) (h2:D.Le X):(C.sup D).Le X:=fun a v h=>by
  unfold Cells.sup at h;cases hc:C a with
  | none=>rw [hc] at h; exact h2 a v h
  | some u=>rw [hc] at h; rw [← h]; exact h1 a u hc

/-! ### Kinds of parts -/
def cBlk (b:Nat) (cs:List Value) (t:TypeId):Chunk where
  D k:=k=b
  ex:=true
  ok w:=w.heap[b]?=some (.cells cs.toArray t (0,0))
  st w w' h _ k:=(k b rfl).trans h
  bd w k h e:=by rw [e]; exact heap_lt h
def cMap {κ ν:Type} [DecidableEq κ] (kenc:κ->Value) (venc:ν->Value) (b:Nat) (f:κ->Option ν):Chunk where
  D k:=k=b
  ex:=true
  ok w:=∃ es n,w.heap[b]?=some (.map es n)/\MapR kenc venc es n f
  st w w' h _ k:=by
    obtain ⟨es,n,h1,h2⟩:=h;exact ⟨es,n,(k b rfl).trans h1,h2⟩
  bd w k h e:=by
    obtain ⟨es,n,h1,_⟩:=h;rw [e]; exact heap_lt h1
def cOwn {α:Type} [Flat α] (e:TypeId) (v:Value) (l:List α):Chunk where
  D k:=v.ownBlock=some k
  ex:=true
  ok w:=OwnF 0 e w v l
  st w w' h hs k:=by
    refine ⟨h.1,?_⟩;rcases h.2 with hn | ⟨gb,cap,cur,hv,hb,hg,rest⟩
    · exact .inl hn
    · exact .inr ⟨gb,cap,cur,hv,hb,(k gb (by rw [hv]; rfl)).trans hg,rest⟩
  bd w k h e:=(h.lt k e).2
/-- A world's cells in some blocks. -/
structure Base where
  w:World
  D:Nat->Prop
noncomputable def Base.cells (B:Base):Cells:=fun a=>open Classical in if B.D a.block then B.w.cell? a else none
def cRo (B:Base):Chunk where
  D b:=B.D b/\b<B.w.heap.size
  ex:=false
  ok w:=B.w.heap.size<=w.heap.size/\∀ b,B.D b->b<B.w.heap.size->w.heap[b]?=B.w.heap[b]?
  st w w' h hs k:=⟨Nat.le_trans h.1 hs,fun b hb hl=>(k b ⟨hb,hl⟩).trans (h.2 b hb hl)⟩
  bd w b h hb:=Nat.lt_of_lt_of_le hb.2 h.1
theorem roLe {B:Base}:∀ w,(cRo B).ok w->B.cells.Le w.cell?:=fun w h a v hc=>by
  unfold Base.cells at hc;split at hc
  · rename_i hd
    exact (World.cell?_of_block (h.2 _ hd (World.block_lt_of_cell? B.w a hc))).trans hc
  · cases hc
/-- The cells of a row. -/
def rowC (v:Value) (fc:List Value):Cells:=fun a=>match v with
  | .slice (some p) _ _=>if a=⟨p.block,a.off,none⟩ then fc[a.off]? else none
  | _=>none
theorem ownLe {α:Type} [Flat α] {e:TypeId} {v:Value} {l:List α}:∀ w,(cOwn e v l).ok w->(rowC v (l.flatMap Flat.enc)).Le w.cell?:=fun w h a x hx=>by
  rcases h.2 with ⟨rfl,hn⟩ | ⟨gb,cap,cur,rfl,hb,hg,hc,hm,hcs,htake⟩
  · simp [rowC] at hx
  · simp only [rowC] at hx;split at hx
    · rename_i ha
      rw [ha,cell_of_row w gb _ cur e (0,0) hg];rw [← htake,List.getElem?_take] at hx;split at hx
      · simpa using hx
      · cases hx
    · cases hx
theorem ownSl {α:Type} [Flat α] {e:TypeId} {v:Value} {l:List α} {w:World} (h:(cOwn e v l).ok w):Sl (rowC v (l.flatMap Flat.enc)) v l:=by
  rcases h.2 with ⟨rfl,hn⟩ | ⟨gb,cap,cur,rfl,hb,hg,hc,hm,hcs,htake⟩
  · obtain rfl:l=[]:=List.eq_nil_of_length_eq_zero hn;exact Sl.nil _
  · refine ⟨⟨_,cap,rfl,hc,by simpa [maxLen] using hm,fun k x hk=>⟨gb,0,Flat.enc x,rfl,Flat.rep_enc _ _,fun j y hj=>?_⟩⟩⟩;have h1:=flat_get l k x hk j y hj;simp only [rowC,Nat.zero_add,if_true];exact h1
/-- What a guard says, as a proposition. -/
class DecB (b:Bool) (p:outParam Prop):Prop where
  iff:b=true↔p
instance {p:Prop} [Decidable p]:DecB (decide p) p:=⟨decide_eq_true_iff⟩
instance {a b:Bool} {p q:Prop} [ha:DecB a p] [hb:DecB b q]:DecB (a&&b) (p/\q):=⟨by rw [Bool.and_eq_true,ha.iff,hb.iff]⟩
theorem M.e_gd {α:Type} {b:Bool} {p:Prop} [h:DecB b p] {k:M α} {r:α} (hk:(M.grd b k).Ends r):p/\k.Ends r:=⟨h.iff.1 (M.e_grd hk).1,(M.e_grd hk).2⟩
end Go.Nm
namespace Go.Nm
open Go
structure Note where
  work:Int
  version:Int
  value:Int
deriving DecidableEq,Inhabited
structure Pub where
  work:Int
  value:Int
deriving DecidableEq,Inhabited
structure Work where
  of:List Int
  base:Int
  minutes:Int
deriving DecidableEq,Inhabited
instance:Flat Note where
  rep _ cs x:=cs=[I x.work,I x.version,I x.value]
  sz:=3
  agg:=true
  sz_pos:=by decide
  len:=fun h=>by subst h; rfl
  mono:=fun _ h=>h
  one:=fun h v hv=>by subst h; simp at hv; rcases hv with rfl | rfl | rfl <;> rfl
  enc x:=[I x.work,I x.version,I x.value]
  rep_iff:=Iff.rfl
instance:Flat Pub where
  rep _ cs x:=cs=[I x.work,I x.value]
  sz:=2
  agg:=true
  sz_pos:=by decide
  len:=fun h=>by subst h; rfl
  mono:=fun _ h=>h
  one:=fun h v hv=>by subst h; simp at hv; rcases hv with rfl | rfl <;> rfl
  enc x:=[I x.work,I x.value]
  rep_iff:=Iff.rfl
theorem sl_one {α:Type} [Elt α] {C:Cells} {v:Value} {l:List α} (h:Sl C v l):v.oneCell'=true:=by
  obtain ⟨a,c,hv⟩:=h.slen;subst hv; rfl
instance:Elt Work where
  rep C cs x:=∃ sv,cs=[sv,I x.base,I x.minutes]/\Sl C sv x.of
  sz:=3
  agg:=true
  sz_pos:=by decide
  len:=fun ⟨_,h,_⟩=>by subst h; rfl
  mono:=fun hle ⟨sv,h,hs⟩=>⟨sv,h,hs.mono hle⟩
  one:=fun ⟨sv,h,hs⟩ v hv=>by
    subst h; simp at hv;rcases hv with rfl | rfl | rfl
    · exact sl_one hs
    · rfl
    · rfl
section
variable {C:Cells} {v:Value} {i:Int}
end
end Go.Nm
namespace Go.Nm
open Go Go.ChangeShapes Go.Deep
section
variable {H:Type} {enc:TypeId × Value->H} {P:Program} {w:World} {sp:Nat->Bool} {held:Bool}
theorem open_sl {α:Type} [Elt α] [Inhabited α] {t e:TypeId} (ht:P.underlying t=some (.slice e)) (hc:P.cellsOf e=Elt.sz α) (hel:∀ n cs d,DataW.trod enc P w 0 sp held n e cs=some d->∃ x:α,Elt.rep w.cell? cs x)
    {fuel:Nat} {cs:List Value} {x:DataW H × List MemPlace} (h:DataW.trod enc P w 0 sp held fuel t cs=some x):∃ v,∃ l:List α,cs=[v]/\Sl w.cell? v l:=by
  rcases open_slice ht h with ⟨rfl,_⟩ | ⟨a,len,cap,m,n,D,Pl,rfl,hb,hl,hm,hmm,rfl,hx⟩
  · exact ⟨_,[],rfl,Sl.nil _⟩
  · have hle:len<=m:=by rw [hmm]; split <;> omega
    have hch:∀ i,i<len->∃ y:α,∃ cs',w.cells? 0 (a.add (i*P.cellsOf e)) (P.cellsOf e)=some cs'/\Elt.rep w.cell? cs' y:=by
      intro i hi;obtain ⟨cs',h1,h2⟩:=hx i (by omega);obtain ⟨y,hy⟩:=hel _ _ _ h2;exact ⟨y,cs',h1,hy⟩
    obtain ⟨X,hX⟩:=choose_lt hch;refine ⟨_,(List.range len).map X,rfl,⟨⟨some a,cap,by simp,by simpa using hl,by unfold maxLen at hm; omega,fun k y hk=>?_⟩⟩⟩;have hkl:k<len:=by
      have:=(List.getElem?_eq_some_iff.1 hk).1
      simpa using this
    rw [List.getElem?_map,List.getElem?_range hkl] at hk;obtain rfl:X k=y:=by simpa using hk
    obtain ⟨cs',h1,h2⟩:=hX k hkl;obtain ⟨_,h3,h4⟩:=World.cells?_some h1;have hsz:0<P.cellsOf e:=by rw [hc]; exact Elt.sz_pos
    have hspot:a.spot=none:=by
      obtain ⟨cs0,g1,_⟩:=hX 0 (by omega);obtain ⟨_,g3,g4⟩:=World.cells?_some g1;have h5:=g4 0 hsz;have e0:(a.add (0*P.cellsOf e)).add 0=a:=by simp [Addr.add]
      rw [e0,List.getElem?_eq_getElem (by omega)] at h5;unfold World.cell? at h5;split at h5
      · split at h5
        · cases h5
        · rename_i hs
          simpa using hs
      · cases h5
    obtain ⟨b,o,s⟩:=a;dsimp only at hspot;subst hspot;refine ⟨b,o,cs',rfl,h2,fun j y hj=>?_⟩;have hjl:j<P.cellsOf e:=by rw [← h3]; exact (List.getElem?_eq_some_iff.1 hj).1
    have ad:∀ (o i:Nat),(⟨b,o,none⟩:Addr).add i=⟨b,o+i,none⟩:=fun o i=>by
      unfold Addr.add;split
      · rename_i e0; rw [e0]; rfl
      · rfl
    rw [← hj,← h4 j hjl,← hc,ad,ad]
/-- A slice that is an argument. -/
theorem open_arg {α:Type} [Elt α] [Inhabited α] {t e:TypeId} {v:Value} {d:DataW H} {ps:List MemPlace} (ht:P.underlying t=some (.slice e)) (hc:P.cellsOf e=Elt.sz α)
    (hel:∀ n cs d,DataW.trod enc P w 0 sp held n e cs=some d->∃ x:α,Elt.rep w.cell? cs x) {r:Reach} {b0:Nat} (hval:Value.okWide P w r b0 t v) (hd:DataW.Trod enc P w 0 sp held t v d ps):∃ l:List α,Sl w.cell? v l:=by
  obtain ⟨a,len,cap,rfl⟩:=Go.WideShapes.okWide_slice ht hval;obtain ⟨fuel,h⟩:=hd;obtain ⟨v,l,h1,h2⟩:=open_sl (α:=α) ht hc hel h;have:v = .slice a len cap:=by
    have:(Value.slice a len cap).cells.toList=[.slice a len cap]:=rfl;rw [this] at h1;exact (List.cons.inj h1).1.symm
  exact ⟨l,this ▸ h2⟩
/-- What was there is as it was. -/
structure Old (w w':World):Prop where
  os:w'.os=w.os
  out:w'.output=w.output
  size:w.heap.size<=w'.heap.size
  blk:∀ b,b<w.heap.size->w'.heap[b]?=w.heap[b]?
theorem Old.kept {w w':World} (h:Old w w') (may:MemPlace->Prop):w.keptBut w' may:=by
  refine ⟨h.os,h.out,fun i hi=>?_⟩;rw [h.blk i hi];cases w.heap[i]? with
  | none=>simp
  | some o=>cases o <;> simp
/-- What a law's row asks behind a call that changes nothing old. -/
theorem post_old {H:Type} {enc:TypeId × Value->H} {P:Program} {f:Func} {s:ChangeSpec} {apart fresh handsOn:Bool} {W W':World} {args:Array Value} {v:Value} {ds:List (DataW H)} {before:List MemPlace} (hx:Old W W')
    (hW:DataW.Whole enc P f.params.toList s.vars apart W args.toList ds [] before) (hv:s.vars=[])
    (hr:DataW.TrodAll enc P W' (match fresh with | true=>W.heap.size | false=>0) (fun _=>false) handsOn f.resultTypes.toList (v.resultList f.resultTypes.size) (s.fn H ds).results [])
    (ha:∀ sp:Nat->Bool,(∀ p∈before,sp p.block=true)->DataW.TrodAll enc P W' 0 sp true f.params.toList args.toList (s.fn H ds).args before) (hvs:(s.fn H ds).vars=[]) :
    s.post enc P f apart fresh handsOn false W args v W' :=
  ⟨ds,[],before,[],before,[],hW,by rw [List.append_nil]; exact hr,by rw [List.append_nil]; exact ha _ (fun p hp=>by simpa using hW.lt p hp),by rw [List.append_nil,hv,hvs]; first | rfl | trivial | exact ⟨rfl,rfl⟩,hx.kept _,fun h=>by cases h⟩
/-- Behind a call that changes nothing old the same is read. -/
theorem trod_ext {T:TypeId->Prop} (K:Kids P T) (hsz:∀ {t e:TypeId},T t->P.underlying t=some (.slice e)->0<P.cellsOf e) {w':World} (hx:Old w w') {ts:List TypeId} (hT:∀ t∈ts,T t) {vs:List Value} {ds:List (DataW H)} {ps:List MemPlace}
    (h:DataW.TrodAll enc P w 0 (fun _=>true) true ts vs ds ps) {sp':Nat->Bool} (hs:∀ p∈ps,sp' p.block=true):DataW.TrodAll enc P w' 0 sp' true ts vs ds ps:=by
  have hlt:=h.lt;induction ts generalizing vs ds ps with
  | nil =>
    obtain ⟨rfl,rfl,rfl⟩:=trodAll_nil h;exact trodAll_mk0
  | cons t ts ih =>
    obtain ⟨v,vs1,d,ds1,p,q,rfl,rfl,rfl,⟨fuel,h1⟩,h2⟩:=trodAll_cons h;refine ⟨p,q,⟨fuel,DataW.trod_stays K hsz (fun e=>by cases e) (hT t (by simp)) h1 (fun m hm=>?_) (fun m hm=>hs m (by simp [show m∈p from hm]))⟩,ih (fun t ht=>hT t (by simp [ht])) h2 (fun m hm=>hs m (by simp [hm])) h2.lt,rfl⟩;have hb:=hlt m (by simp [show m∈p from hm]);cases m with
    | cell b off=>exact World.cell?_of_block (hx.blk b hb)
    | map b=>exact hx.blk b hb
end
theorem Sl.base {α:Type} [Elt α] {w:World} {v:Value} {l:List α} (h:Sl w.cell? v l):Sl (Base.cells ⟨w,fun _=>True⟩) v l:=h.mono fun a x hx=>by
  unfold Base.cells;rw [if_pos trivial];exact hx
theorem reads_all (w:World):Reads [cRo ⟨w,fun _=>True⟩] (Base.cells ⟨w,fun _=>True⟩):=⟨fun _ hs=>roLe _ hs.1⟩
theorem st_all (w:World):St w w [] [cRo ⟨w,fun _=>True⟩]:=St.refl ⟨⟨Nat.le_refl _,fun _ _ _=>rfl⟩,by simp,trivial⟩
theorem ext_all {w w':World} (h:St w w' [] [cRo ⟨w,fun _=>True⟩]):Old w w':=⟨h.kp.os,h.kp.out,h.kp.size,fun b hb=>h.sep.1.2 b trivial hb⟩
end Go.Nm
namespace Go.Nm
open Go Go.ChangeShapes Go.Deep
theorem u8_lit {k:Int} (h:(Lit.int .u8 k).wf=true):∃ x:UInt8,k=(x.toNat:Int):=by
  have h2:0<=k/\k<=255:=by
    have h3:(decide ((0:Int)<=k)&&decide (k<=(255:Int)))=true:=h;rw [Bool.and_eq_true,decide_eq_true_eq,decide_eq_true_eq] at h3;exact h3
  refine ⟨UInt8.ofNat k.toNat,?_⟩;rw [UInt8.toNat_ofNat'];omega
variable {H:Type} {enc:TypeId × Value->H} {P:Program} {w:World} {sp:Nat->Bool} {held:Bool}
theorem open_u8 {t:TypeId} (ht:P.underlying t=some (.int .u8)) {n:Nat} {cs:List Value} {d:DataW H × List MemPlace} (h:DataW.trod enc P w 0 sp held n t cs=some d):∃ x:UInt8,Elt.rep w.cell? cs x:=by
  obtain ⟨k,hk,_,hw⟩:=DataW.trod_int ht h;obtain ⟨x,rfl⟩:=u8_lit hw;exact ⟨x,hk⟩
theorem arg_i {t:TypeId} {v:Value} (ht:P.underlying t=some (.int .i64)) {r:Reach} {b0:Nat} (hval:Value.okWide P w r b0 t v):∃ x:Int,v=I x:=Go.WideShapes.okWide_int ht hval
end Go.Nm
namespace Go.Nm
open Go
theorem OwnF.zero {α:Type} [Flat α] {B:Nat} {e:TypeId} {w:World} {v:Value} {l:List α} (h:OwnF B e w v l):OwnF 0 e w v l:=h.dn (Nat.zero_le _)
section
variable {P:Program} {all rest:List Oper} {Q:Post} {σ:Env} {w0 w:World} {L L' R:List Chunk} {d:Nat} {ty:TypeId} {pos:String} {af:Array Edge} {g:Option (Nat × Bool)}
theorem t_box {e:TypeId} {x:Operand} {v:Value} {cs:List Value} (H:St w0 w L R) (hx:ev σ x=v) (hv:v.cells=cs.toArray)
    (k:∀ b w',St w0 w' (cBlk b cs e :: L) R->SL P all Q rest (upd σ d (.pointer (some ⟨b,0,none⟩))) w'):SL P all Q (⟨some d,.box e x,ty,pos,af,none⟩ :: rest) σ w :=
  s_box hx hv fun b w' hn=>k b w' (H.push (c:=cBlk b cs e) hn.ext hn.same (fun j hj=>by rw [show j=b from hj]; exact hn.ge))
theorem t_alloc {e:TypeId} {z:Value} {cs:List Value} (H:St w0 w L R) (hz:(P.info? e).map (·.zero)=some (some z)) (hv:z.cells=cs.toArray)
    (k:∀ b w',St w0 w' (cBlk b cs e :: L) R->SL P all Q rest (upd σ d (.pointer (some ⟨b,0,none⟩))) w'):SL P all Q (⟨some d,.alloc e,ty,pos,af,none⟩ :: rest) σ w :=
  s_alloc hz hv fun b w' hn=>k b w' (H.push (c:=cBlk b cs e) hn.ext hn.same (fun j hj=>by rw [show j=b from hj]; exact hn.ge))
theorem St.putBlk {k:Nat} {b:Nat} {cs cs':List Value} {t:TypeId} {w':World} (H:St w0 w L R) (hk:L[k]?=some (cBlk b cs t)) (p:Put w b (.cells cs'.toArray t (0,0)) w') (hl:L.set k (cBlk b cs' t)=L'):St w0 w' L' R :=
  H.set (c':=cBlk b cs' t) hk rfl p.keep (fun i _ hne=>p.other i hne) (fun i hi=>.inl hi) p.same hl
theorem t_st {dst:Option Nat} {t:TypeId} {x y:Operand} {k b off n:Nat} {cs vs cs':List Value} {et:TypeId} {v:Value} (H:St w0 w L R) (hk:L[k]?=some (cBlk b cs et)) (hx:ev σ x = .pointer (some ⟨b,off,none⟩)) (hy:ev σ y=v)
    (hs:(P.info? t).map (·.size)=some n) (hv:v.cells=vs.toArray) (hn:vs.length=n) (hl:Nat.ble (off+n) cs.length=true)
    (h1:vs.all (·.oneCell')=true) (hc:cs.take off++vs++cs.drop (off+n)=cs') (hL:L.set k (cBlk b cs' et)=L')
    (kk:∀ w',St w0 w' L' R->SL P all Q rest (updo σ dst undef) w'):SL P all Q (⟨dst,.store t x y,ty,pos,af,none⟩ :: rest) σ w :=
  s_st hx hy hs (H.get hk) hv hn hl h1 hc fun w' p=>kk w' (H.putBlk hk p hL)
theorem t_stArr {dst:Option Nat} {t:TypeId} {x y:Operand} {k b:Nat} {l l':List Bool} {et:TypeId} {i:Int} {v:Bool} (H:St w0 w L R) (hk:L[k]?=some (cBlk b (encB l) et)) (hx:ev σ x = .pointer (some ⟨b,0+i.toNat,none⟩)) (hy:ev σ y=B v)
    (hs:(P.info? t).map (·.size)=some 1) (h0:0<=i) (h1:i<l.length) (hl':l.set i.toNat v=l') (hL:L.set k (cBlk b (encB l') et)=L')
    (kk:∀ w',St w0 w' L' R->SL P all Q rest (updo σ dst undef) w'):SL P all Q (⟨dst,.store t x y,ty,pos,af,none⟩ :: rest) σ w:=by
  subst hl';exact s_stArr hx hy hs (H.get hk) h0 h1 fun w' p=>kk w' (H.putBlk hk p hL)
theorem St.own {k:Nat} {α:Type} [Flat α] {e:TypeId} {v v':Value} {l l':List α} {B:Nat} {w':World} (H:St w0 w L R) (hk:L[k]?=some (cOwn e v l)) (ho:OwnF 0 e w' v' l') (hg:Grow B v w w')
    (hne:∀ b,b<w.heap.size->v.ownBlock ≠ some b->v'.ownBlock ≠ some b) (hl:L.set k (cOwn e v' l')=L'):St w0 w' L' R :=
  H.set hk rfl hg.keep (fun i hi hne=>hg.blk i hi hne) (fun i hi=>by
    by_cases h:i<w.heap.size
    · by_cases h2:v.ownBlock=some i
      · exact .inl h2
      · exact absurd hi (hne i h h2)
    · exact .inr (by omega)) ho hl
theorem len63 {a by':Nat} (hb:Nat.blt 0 by'=true) (hn:a*by'<=140737488355328):a<=9223372036854775807:=by
  have h0:0<by':=Nat.le_of_ble_eq_true hb
  have:a<=a*by':=Nat.le_mul_of_pos_right _ h0
  omega
theorem t_app {α:Type} [Flat α] {t e by' k:Nat} {z:Value} {x y:Operand} (T:SlT P t e (Elt.sz α) by' z) (hb:Nat.blt 0 by'=true) {v vy:Value} {l l2 l':List α} {C:Cells} (H:St w0 w L R) (hk:L[k]?=some (cOwn e v l)) (hx:ev σ x=v) (hy:ev σ y=vy)
    (hs:Sl C vy l2) (hle:C.Le w.cell?) (hl':l++l2=l') (hn:(l.length+l2.length)*by'<=140737488355328)
    (kk:∀ v' w',St w0 w' (L.set k (cOwn e v' l')) R->SL P all Q rest (upd σ d v') w') :
    SL P all Q (⟨some d,.call ⟨.builtin .append,#[x,y],#[t,t]⟩,ty,pos,af,none⟩ :: rest) σ w:=by
  subst hl';exact s_app T hx hy (H.get hk) hs hle (Nat.zero_le _) hn (len63 hb hn) fun v' w' ho hg hne=>kk v' w' (H.own hk ho hg hne rfl)
theorem t_mk {α:Type} [Flat α] {t e by':Nat} {z:Value} {x y:Operand} (T:SlT P t e (Elt.sz α) by' z) (a:α) (hz:z.cells=(Flat.enc a:List Value).toArray) {n:Int} (H:St w0 w L R) (hx:ev σ x = .int .i64 n) (hy:ev σ y = .int .i64 n)
    (h0:0<=n) (hn:(by':Int)*n<=281474976710656) (h63:n<=9223372036854775807)
    (k:∀ v w',St w0 w' (cOwn e v (List.replicate n.toNat a) :: L) R->SL P all Q rest (upd σ d v) w') :
    SL P all Q (⟨some d,.makeSlice t x y,ty,pos,af,none⟩ :: rest) σ w :=
  s_mk T a hz hx hy h0 hn h63 fun v w' ho hx'=>k v w' (H.push hx' (show OwnF 0 e w' v _ from ho.zero) (fun b hb'=>(ho.lt b hb').1))
theorem t_ost {α:Type} [Flat α] {dst:Option Nat} {e t k:Nat} {x y:Operand} {v val:Value} {l l':List α} (H:St w0 w L R) (hk:L[k]?=some (cOwn e v l)) (hs:(P.info? t).map (·.size)=some (Elt.sz α)) {i:Int}
    (h0:0<=i) (h1:i<l.length) (a:α) (hx:ev σ x=vat v (Elt.sz α) i.toNat) (hy:ev σ y=val) (hv:val.cells=(Flat.enc a:List Value).toArray) (hl':l.set i.toNat a=l') (hL:L.set k (cOwn e v l')=L')
    (kk:∀ w',St w0 w' L' R->SL P all Q rest (updo σ dst undef) w'):SL P all Q (⟨dst,.store t x y,ty,pos,af,none⟩ :: rest) σ w:=by
  subst hl';exact s_ost (H.get hk) hs h0 h1 a hx hy hv fun w' ho hg=>kk w' (H.own hk ho hg (fun _ _ h=>h) hL)
/-- A slice literal of plain data. -/
theorem t_bs {α:Type} [Flat α] {t e by':Nat} {z:Value} {parts:Array (Nat × Operand)} (T:SlT P t e (Elt.sz α) by' z) (vs:List Value) (l:List α) (H:St w0 w L R)
    (hp:parts.toList.map (fun x=>(x.1,ev σ x.2))=(vs.zipIdx 0).map fun x=>(x.2,x.1)) (hr:Reps (fun _=>none) vs l) {n:Nat} (hn:l.length=n) (h0:Nat.blt 0 n=true) (hsm:Nat.ble (n*Elt.sz α) 16777216=true)
    (k:∀ u w',St w0 w' (cOwn e u l :: L) R->SL P all Q rest (upd σ d u) w'):SL P all Q (⟨some d,.buildSlice t n parts,ty,pos,af,none⟩ :: rest) σ w:=by
  have h0':0<n:=Nat.le_of_ble_eq_true h0;have hsm':=Nat.le_of_ble_eq_true hsm;have hpos:=T.pos;obtain ⟨i,hi,hz,hisz,hby⟩:=T.parts;have hzs:=T.zs;have hlen:=hr.len;have hmul:0<n*Elt.sz α:=Nat.mul_pos h0' hpos;have hf:=Great.fill_whole (s:=Elt.sz α) hpos vs ((Array.range (n*i.size)).map (z.cells[· % z.cells.size]!)) hr.size (by simp [hlen,hn,hisz]);have hrun:=run_buildSlice (P:=P) w t e n (parts.map fun (i,x)=>(i,ev σ x)) _ i z T.und hi hz (by rw [hisz]; omega) (by rw [hisz]; omega) (by
    rw [Array.toList_map];have:(parts.toList.map fun x:Nat × Operand=>match x with | (i,x)=>(i,ev σ x))=(vs.zipIdx 0).map fun x=>(x.2,x.1):=hp;rw [this,hisz];rw [hisz] at hf;exact hf)
  have hflat:∀ {vs:List Value} {l:List α},Reps (fun _=>none) vs l->(vs.flatMap fun v=>v.cells.toList)=(l.flatMap Flat.enc:List Value):=by
    intro vs l h;induction h with
    | nil=>rfl
    | @cons v cs x vs l hv hr _ ih =>
      have:=Flat.rep_iff.1 hr;simp only [List.flatMap_cons,ih,hv,this]
  have hfl:=flat_len l;refine s_any (v:=.slice (some ⟨w.heap.size,0,none⟩) n n) (w':=w.alloc (.cells (vs.flatMap fun v=>v.cells.toList).toArray e)) ?_ (k _ _ (H.push (.allocCells ..) ?_ ?_))
  · have hrun':(Instr.buildSlice t n (parts.map fun x=>(x.1,ev σ x.2))).run P w=_:=hrun;simp [execOp,hrun']
  · have hnl:n<=9223372036854775807:=by
      have:n<=n*Elt.sz α:=Nat.le_mul_of_pos_right n hpos;omega
    refine ⟨by rw [hfl],.inr ⟨w.heap.size,n,_,by rw [hn],Nat.zero_le _,heap_alloc_new w _,by rw [hn]; exact Nat.le_refl _,by simpa [maxLen] using hnl,?_,?_⟩⟩
    · simp only [List.size_toArray];rw [hflat hr,hfl,hn]
    · rw [List.toList_toArray,hflat hr,hn,List.take_of_length_le];rw [hfl,hn];exact Nat.le_refl _
  · intro b hb;simp only [cOwn,Value.ownBlock,Option.some.injEq] at hb;omega
/-! ### Maps -/
variable {κ ν:Type} [DecidableEq κ] {kenc:κ->Value} {venc:ν->Value} {t kt et:TypeId} {b:Nat} {f:κ->Option ν}
theorem t_mkmap {t':TypeId} (kenc:κ->Value) (venc:ν->Value) (H:St w0 w L R) (k:∀ b w',St w0 w' (cMap kenc venc b (fun _=>none) :: L) R->SL P all Q rest (upd σ d (.map (some b))) w'):SL P all Q (⟨some d,.makeMap t' none,ty,pos,af,none⟩ :: rest) σ w :=
  s_mkmap fun b w' hn=>k b w' (H.push (c:=cMap kenc venc b (fun _=>none)) hn.ext ⟨_,_,hn.same,MapR.nil kenc venc 0⟩ (fun j hj=>by rw [show j=b from hj]; exact hn.ge))
theorem q_look {x y:Operand} (K:KeyL (ν:=ν) P kt kenc) (ht:P.underlying t=some (.map kt et)) {z:Value} (hz:(P.info? et).map (·.zero)=some (some z)) (hx:ev σ x = .map (some b)) {k:κ} (hy:ev σ y=kenc k)
    (ho:(cMap kenc venc b f).ok w) (ok:Bool) {v:Value} (hv:(if ok then .tuple #[((f k).map venc).getD z,.bool (f k).isSome] else ((f k).map venc).getD z)=v) :
    (execOp (ev σ) ⟨some d,.lookup t x y ok,ty,pos,af,g⟩).run P w = .ok (.value v) w:=by
  obtain ⟨es,n,h1,h2⟩:=ho;exact x_look K ht hz hx hy h1 h2 ok hv
theorem St.putMap {k:Nat} {f':κ->Option ν} {es:Array MapEntry} {n:Nat} {w':World} (H:St w0 w L R) (hk:L[k]?=some (cMap kenc venc b f)) (p:Put w b (.map es n) w') (hm:MapR kenc venc es n f') (hl:L.set k (cMap kenc venc b f')=L'):St w0 w' L' R :=
  H.set (c':=cMap kenc venc b f') hk rfl p.keep (fun i _ hne=>p.other i hne) (fun i hi=>.inl hi) ⟨es,n,p.same,hm⟩ hl
theorem t_mapu {dst:Option Nat} {x y u:Operand} {i:Nat} (K:KeyL (ν:=ν) P kt kenc) (ht:P.underlying t=some (.map kt et)) (H:St w0 w L R) (hk:L[i]?=some (cMap kenc venc b f)) (hx:ev σ x = .map (some b)) {k:κ} (hy:ev σ y=kenc k) {v:ν} (hu:ev σ u=venc v)
    (hL:L.set i (cMap kenc venc b (updF f k v))=L')
    (kk:∀ w',St w0 w' L' R->SL P all Q rest (updo σ dst undef) w'):SL P all Q (⟨dst,.mapUpdate t x y u,ty,pos,af,none⟩ :: rest) σ w:=by
  obtain ⟨es,n,h1,h2⟩:=H.get hk;exact s_mapu K ht hx hy hu h1 h2 fun es' n' w' p hm=>kk w' (H.putMap hk p hm hL)
end

/-! ### Parts that a callee is given to read -/
/-- A part is as it says, as long as these parts are. -/
structure Has (R:List Chunk) (c:Chunk):Prop where
  of:∀ w,Sep w R->c.ok w
theorem Has.app {R:List Chunk} {c:Chunk} (h:Has R c) (L:List Chunk):Has (L++R) c:=⟨fun w hs=>h.of w hs.right⟩
theorem Has.at {R L:List Chunk} {c:Chunk} {w0 w:World} (h:Has R c) (H:St w0 w L R):c.ok w:=h.of w H.tl
theorem Has.here {L R:List Chunk} {c:Chunk} {k:Nat} (hk:L[k]?=some c):Has (L++R) c:=⟨fun w hs=>hs.get (List.mem_append_left _ (List.mem_of_getElem? hk))⟩
theorem Has.st {R L:List Chunk} {c:Chunk} (h:∀ w,Sep w (L++R)->c.ok w):Has (L++R) c:=⟨h⟩

theorem St.blk {w0 w:World} {L R:List Chunk} (H:St w0 w L R) {k b:Nat} {cs:List Value} {t:TypeId} (hk:L[k]?=some (cBlk b cs t)):w.heap[b]?=some (.cells cs.toArray t (0,0)):=H.get hk
theorem Has.blk {R L:List Chunk} {w0 w:World} {b:Nat} {cs:List Value} {t:TypeId} (h:Has R (cBlk b cs t)) (H:St w0 w L R):w.heap[b]?=some (.cells cs.toArray t (0,0)):=h.at H
theorem St.nilOwn {α:Type} [Flat α] {w0 w:World} {L R:List Chunk} (H:St w0 w L R) (e:TypeId):St w0 w (cOwn e (.slice none 0 0) ([]:List α) :: L) R :=
  H.push (.refl w) (show OwnF 0 e w _ _ from OwnF.nil 0 e w) (fun b hb=>by cases hb)
/-- Memory that is read on, not written any more. -/
theorem St.freeze {α:Type} [Flat α] {w0 w:World} {L L' R:List Chunk} (H:St w0 w L R) {k:Nat} {e:TypeId} {v:Value} {l:List α} (hk:L[k]?=some (cOwn e v l)) (hl:L.set k (cRo ⟨w,fun b=>v.ownBlock=some b⟩)=L'):St w0 w L' R :=
  H.set (c':=cRo ⟨w,fun b=>v.ownBlock=some b⟩) hk rfl (.refl w) (fun _ _ _=>rfl) (fun b hb=>.inl hb.1) ⟨Nat.le_refl _,fun _ _ _=>rfl⟩ hl

/-! ### Function values that answer a question -/
def FnM {α:Type} [Elt α] (P:Program) (R:List Chunk) (vf:Value) (p:α->M Bool):Prop :=
  ∃ f cap,vf = .func (.func f) #[] (List.toArray cap)/\CF P f/\∀ (w:World) (L:List Chunk) (C:Cells) (v:Value) (x:α) (b:Bool),Sep w (L++R)->Reads (L++R) C->Arg C v x->(p x).Ends b →
    Ret P f (v :: cap).toArray w fun r w'=>r=B b/\St w w' [] (L++R)
theorem FnM.app {α:Type} [Elt α] {P:Program} {R:List Chunk} {vf:Value} {p:α->M Bool} (h:FnM P R vf p) (L:List Chunk):FnM P (L++R) vf p:=by
  obtain ⟨f,cap,h1,h2,h3⟩:=h;refine ⟨f,cap,h1,h2,fun w L' C v x b hs hC hA hp=>?_⟩;have:=h3 w (L'++L) C v x b (by rw [List.append_assoc]; exact hs) (by rw [List.append_assoc]; exact hC) hA hp
  rwa [List.append_assoc] at this
theorem FnM.cells {α:Type} [Elt α] {P:Program} {R:List Chunk} {vf:Value} {p:α->M Bool} (h:FnM P R vf p):vf.cells = #[vf]:=by
  obtain ⟨f,cap,h1,_⟩:=h;subst h1; rfl
theorem FnM.oc {α:Type} [Elt α] {P:Program} {R:List Chunk} {vf:Value} {p:α->M Bool} (h:FnM P R vf p):vf.oneCell'=true:=by
  obtain ⟨f,cap,h1,_⟩:=h;subst h1; rfl
section
variable {P:Program} {all rest:List Oper} {Q:Post} {σ:Env} {w0 w:World} {L R:List Chunk} {d:Nat} {ty:TypeId} {pos:String} {af:Array Edge}
theorem St.via {w':World} (h:St w0 w L R) (h':St w w' [] (L++R)):St w0 w' L R:=⟨h.kp.trans h'.kp,h'.sep⟩
theorem t_callM {α:Type} [Elt α] {x y:Operand} {ts:Array TypeId} {vf v:Value} {p:α->M Bool} {C:Cells} {b:Bool} (H:St w0 w L R) (hf:FnM P R vf p) (hx:ev σ x=vf) (hy:ev σ y=v) (a:α) (hC:Reads (L++R) C) (hA:Arg C v a) (hp:(p a).Ends b)
    (k:∀ w',St w0 w' L R->SL P all Q rest (upd σ d (B b)) w'):SL P all Q (⟨some d,.call ⟨.value x,#[y],ts⟩,ty,pos,af,none⟩ :: rest) σ w:=by
  obtain ⟨f,cap,h1,h2,h3⟩:=hf;refine s_callv (f:=f) (cap:=cap) (hx.trans h1) h2 [v] (by simp [hy]) (h3 w L C v a b H.sep hC hA hp) ?_;rintro _ w' ⟨rfl,hx'⟩;exact k w' (H.via hx')
/-- A call under a guard, of a function that leaves the parts as they are. -/
theorem t_gcall {f:FuncId} {ops:Array Operand} {ts:Array TypeId} {j:Nat} {want:Bool} (c:Bool) (hy:(yieldedE all σ j==some want)=c) (hcf:CF P f) (v:Value) (args:c=true->List Value)
    (ha:∀ h:c=true,ops.toList.map (ev σ)=args h) (H:St w0 w L R) (hc:∀ h:c=true,Ret P f (args h).toArray w fun v' w'=>v'=v/\St w0 w' L R) (k:∀ w',St w0 w' L R->SL P all Q rest (upd σ d (gd c v)) w') :
    SL P all Q (⟨some d,.call ⟨.value (.func f),ops,ts⟩,ty,pos,af,some (j,want)⟩ :: rest) σ w:=by
  refine g_split rfl c hy (fun e=>?_) (fun e=>?_)
  · refine s_call hcf (args e) (ha e) (hc e) ?_;rintro _ w' ⟨rfl,hx⟩;have:=k w' hx
    rwa [gd_of e] at this
  · have:=k w H
    rwa [gd_no e] at this
end
/-- What is new since a world. -/
theorem St.fresh {α:Type} [Elt α] {w0 w w':World} {L R:List Chunk} {v:Value} {l:List α} (H:St w0 w L R) (hx:Ext w w') (hs:Sl (frm w' w.heap.size) v l):∃ B,St w0 w' (cRo B :: L) R/\Sl B.cells v l:=by
  refine ⟨⟨w',fun b=>w.heap.size<=b⟩,H.push hx ⟨Nat.le_refl _,fun _ _ _=>rfl⟩ (fun b hb=>hb.1),hs.mono fun a u hu=>?_⟩;unfold frm at hu;unfold Base.cells;split at hu
  · rename_i hl
    rw [if_pos hl]; exact hu
  · cases hu
theorem St.ownOf {α:Type} [Flat α] {w0 w w':World} {L R:List Chunk} {e:TypeId} {v:Value} {l:List α} (H:St w0 w L R) (hx:Ext w w') (ho:OwnF w.heap.size e w' v l):St w0 w' (cOwn e v l :: L) R :=
  H.push hx (show OwnF 0 e w' v l from ho.zero) (fun b hb'=>(ho.lt b hb').1)
end Go.Nm
namespace Go.Nm
open Go
theorem flatten_set:∀ (css:List (List Value)) (n:Nat) (_:∀ c∈css,c.length=n) (k off:Nat) (cs vs:List Value) (_:css[k]?=some cs) (_:off+vs.length<=n),
    (css.set k (cs.take off++vs++cs.drop (off+vs.length))).flatten=css.flatten.take (k*n+off)++vs++css.flatten.drop (k*n+off+vs.length)
  | [],_,_,_,_,_,_,h,_=>by simp at h
  | c :: css,n,hn,0,off,cs,vs,h,hle=>by
    simp only [List.getElem?_cons_zero,Option.some.injEq] at h;subst h;have hc:=hn c (by simp);simp only [List.set_cons_zero,List.flatten_cons,Nat.zero_mul,Nat.zero_add];rw [List.take_append_of_le_length (by omega),List.drop_append_of_le_length (by omega)];simp
  | c :: css,n,hn,k+1,off,cs,vs,h,hle=>by
    simp only [List.getElem?_cons_succ] at h;have hc:=hn c (by simp);have ih:=flatten_set css n (fun d hd=>hn d (by simp [hd])) k off cs vs h hle;simp only [List.set_cons_succ,List.flatten_cons,ih];rw [List.take_append,List.drop_append,hc,Nat.succ_mul];rw [List.take_of_length_le (show c.length<=k*n+n+off by omega),List.drop_of_length_le (show c.length<=k*n+n+off+vs.length by omega)];rw [show k*n+n+off-n=k*n+off from by omega,show k*n+n+off+vs.length-n=k*n+off+vs.length from by omega];simp

/-! ### Cells as they are -/
structure Raw (n:Nat) where
  cs:List Value
  len:cs.length=n+1
  one:∀ v∈cs,v.oneCell'=true
instance {n:Nat}:Inhabited (Raw n):=⟨⟨List.replicate (n+1) (.bool false),by simp,fun v hv=>by rw [List.eq_of_mem_replicate hv]; rfl⟩⟩
instance {n:Nat}:Flat (Raw n) where
  rep _ cs x:=cs=x.cs
  sz:=n+1
  agg:=false
  sz_pos:=by omega
  len:=fun {_ _ x} h=>by subst h; exact x.len
  mono:=fun _ h=>h
  one:=fun {_ _ x} h v hv=>by subst h; exact x.one v hv
  enc x:=x.cs
  rep_iff:=Iff.rfl
inductive RepR {α:Type} [Elt α] {n:Nat} (C:Cells):List (Raw n)->List α->Prop
  | nil:RepR C [] []
  | cons {c:Raw n} {x:α} {rs:List (Raw n)} {l:List α} (h:Elt.rep C c.cs x) (hs:RepR C rs l):RepR C (c :: rs) (x :: l)
section
variable {α:Type} [Elt α] {n:Nat} {C D:Cells}
theorem RepR.mono {rs:List (Raw n)} {l:List α} (h:RepR C rs l) (hle:C.Le D):RepR D rs l:=by
  induction h with
  | nil=>exact .nil
  | cons h _ ih=>exact .cons (Elt.mono hle h) ih
theorem RepR.app {rs ss:List (Raw n)} {l k:List α} (h:RepR C rs l) (h':RepR C ss k):RepR C (rs++ss) (l++k):=by
  induction h with
  | nil=>exact h'
  | cons h _ ih=>exact .cons h ih
theorem RepR.len {rs:List (Raw n)} {l:List α} (h:RepR C rs l):rs.length=l.length:=by
  induction h <;> simp_all
theorem RepR.get {rs:List (Raw n)} {l:List α} (h:RepR C rs l):∀ (k:Nat) (x:α),l[k]?=some x->∃ c:Raw n,rs[k]?=some c/\Elt.rep C c.cs x:=by
  induction h with
  | nil=>intro k x h; simp at h
  | @cons c x rs l h _ ih =>
    intro k z hk;cases k with
    | zero =>
      simp only [List.getElem?_cons_zero,Option.some.injEq] at hk;subst hk;exact ⟨c,rfl,h⟩
    | succ k=>exact ih k z (by simpa using hk)
theorem RepR.set {rs:List (Raw n)} {l:List α} (h:RepR C rs l) (k:Nat) {c:Raw n} {x:α} (hr:Elt.rep C c.cs x):RepR C (rs.set k c) (l.set k x):=by
  induction h generalizing k with
  | nil=>exact .nil
  | cons h hs ih =>
    cases k with
    | zero=>exact .cons hr hs
    | succ k=>exact .cons h (ih k)
theorem RepR.rep (k:Nat) {c:Raw n} {x:α} (hr:Elt.rep C c.cs x):RepR C (List.replicate k c) (List.replicate k x):=by
  induction k with
  | zero=>exact .nil
  | succ k ih=>exact .cons hr ih
theorem RepR.getD {rs:List (Raw n)} {l:List α} (h:RepR C rs l) {k:Nat} (hk:k<l.length) (d:α):Elt.rep C (rs.getD k default).cs (l.getD k d):=by
  obtain ⟨c,h1,h2⟩:=h.get k _ (getD_some l hk d);have:rs.getD k default=c:=by simp [List.getD,h1]
  rw [this];exact h2
/-- A row of such cells reads as a list. -/
theorem rowSl (hz:Elt.sz α=n+1) {e:TypeId} {v:Value} {rs:List (Raw n)} {l:List α} {w:World} (ok:(cOwn e v rs).ok w) (hC:C.Le w.cell?) (hr:RepR C rs l):Sl (Cells.sup (rowC v (rs.flatMap Flat.enc)) C) v l:=by
  have hs:=ownSl ok;have hlow:=ownLe w ok;obtain ⟨a,c,hv,hc,hm,hh⟩:=hs.ex;have hlen:=hr.len;refine ⟨⟨a,c,by rw [hv,hlen],by omega,hm,fun k x hx=>?_⟩⟩;obtain ⟨r,h1,h2⟩:=hr.get k x hx;obtain ⟨b,o,cs,ha,hrep,hy⟩:=hh k r h1;have hcs:cs=r.cs:=hrep;subst hcs;refine ⟨b,o,r.cs,ha,Elt.mono (Cells.sup_r hlow hC) h2,fun j y hj=>?_⟩;have:=hy j y hj;rw [hz];exact Cells.sup_l _ _ _ _ this
end
theorem Reads.sup {R:List Chunk} {C D:Cells} (h:Reads R C) (k:Reads R D):Reads R (C.sup D):=⟨fun w hs=>Cells.sup_le (h.le w hs) (k.le w hs)⟩

/-! ### Bases -/
def Base.join (A B:Base) (w:World):Base:=⟨w,fun b=>(A.D b/\b<A.w.heap.size)∨(B.D b/\b<B.w.heap.size)⟩
theorem joinL {A B:Base} {w:World} (h:(cRo A).ok w):A.cells.Le (A.join B w).cells:=fun a v hc=>by
  have h1:=roLe w h a v hc;unfold Base.cells at hc ⊢;split at hc
  · rename_i hd
    rw [if_pos (show (A.join B w).D a.block from .inl ⟨hd,World.block_lt_of_cell? A.w a hc⟩)];exact h1
  · cases hc
theorem joinR {A B:Base} {w:World} (h:(cRo B).ok w):B.cells.Le (A.join B w).cells:=fun a v hc=>by
  have h1:=roLe w h a v hc;unfold Base.cells at hc ⊢;split at hc
  · rename_i hd
    rw [if_pos (show (A.join B w).D a.block from .inr ⟨hd,World.block_lt_of_cell? B.w a hc⟩)];exact h1
  · cases hc
theorem St.join {w0 w:World} {L R:List Chunk} (H:St w0 w L R) {i j:Nat} {A B:Base} (hi:L[i]?=some (cRo A)) (hj:L[j]?=some (cRo B)):St w0 w (cRo (A.join B w) :: L) R:=by
  have hA:=H.get hi;have hB:=H.get hj;have hS:=H.sep;have mA:cRo A∈L++R:=List.mem_append_left _ (List.mem_of_getElem? hi);have mB:cRo B∈L++R:=List.mem_append_left _ (List.mem_of_getElem? hj);have apart:∀ c∈L++R,∀ d∈L++R,d.ex=true->c.ex=false->∀ b,c.D b->¬ d.D b:=by
    rw [Sep.iff] at hS;intro c hc d hd hde hce;obtain ⟨p,hp,rfl⟩:=List.getElem_of_mem hc;obtain ⟨q,hq,rfl⟩:=List.getElem_of_mem hd;have hne:p ≠ q:=fun e=>by subst e; rw [hde] at hce; cases hce
    rcases Nat.lt_or_gt_of_ne hne with hlt | hlt
    · exact List.pairwise_iff_getElem.1 hS.2 p q hp hq hlt (by simp [hde])
    · intro b hb hb';exact List.pairwise_iff_getElem.1 hS.2 q p hq hp hlt (by simp [hde]) b hb' hb
  refine ⟨H.kp,⟨Nat.le_refl _,fun _ _ _=>rfl⟩,fun d hd he b hb hb'=>?_,H.sep⟩;have hde:d.ex=true:=by simpa [cRo] using he
  rcases hb.1 with h | h
  · exact apart _ mA d hd hde rfl b h hb'
  · exact apart _ mB d hd hde rfl b h hb'
theorem St.empty {w0 w:World} {L R:List Chunk} (H:St w0 w L R):St w0 w (cRo ⟨w,fun _=>False⟩ :: L) R:=H.push (.refl w) ⟨Nat.le_refl _,fun _ _ _=>rfl⟩ (fun _ hb=>hb.1.elim)
theorem St.emptyE {w0 w:World} {L R:List Chunk} (H:St w0 w L R):∃ B,St w0 w (cRo B :: L) R:=⟨_,H.empty⟩
theorem St.joinE {w0 w:World} {L R:List Chunk} (H:St w0 w L R) {i j:Nat} {A C:Base} (hi:L[i]?=some (cRo A)) (hj:L[j]?=some (cRo C)):∃ B,St w0 w (cRo B :: L) R/\A.cells.Le B.cells/\C.cells.Le B.cells :=
  ⟨_,H.join hi hj,joinL (H.get hi),joinR (H.get hj)⟩
def Raw.of {n:Nat} (cs:List Value) (len:cs.length=n+1) (h:cs.all (·.oneCell')=true):Raw n:=⟨cs,len,List.all_eq_true.1 h⟩
theorem frozenSl {α:Type} [Flat α] {e:TypeId} {v:Value} {l:List α} {w:World} (h:(cOwn e v l).ok w):Sl (Base.cells ⟨w,fun b=>v.ownBlock=some b⟩) v l :=
  (ownSl h).mono fun a x hx=>by
    have h1:=ownLe w h a x hx;unfold Base.cells;rw [if_pos ?_]
    · exact h1
    · unfold rowC at hx;split at hx
      · rename_i p _ _
        split at hx
        · rename_i ha
          rw [ha]; rfl
        · cases hx
      · cases hx

theorem St.freezeE {α:Type} [Flat α] {w0 w:World} {L R:List Chunk} (H:St w0 w L R) {k:Nat} {e:TypeId} {v:Value} {l:List α} (hk:L[k]?=some (cOwn e v l)):∃ B,St w0 w (L.set k (cRo B)) R/\Sl B.cells v l :=
  ⟨_,H.freeze hk rfl,frozenSl (H.get hk)⟩
/-! ### Stores into a part of an element -/
def Raw.put {n:Nat} (x:Raw n) (off:Nat) (vs:List Value) (h:Nat.ble (off+vs.length) (n+1)=true) (h1:vs.all (·.oneCell')=true):Raw n :=
  ⟨x.cs.take off++vs++x.cs.drop (off+vs.length),by
    have:=x.len;have h':=Nat.le_of_ble_eq_true h;simp only [List.length_append,List.length_take,List.length_drop];omega,fun v hv=>by
    rcases List.mem_append.1 hv with hv | hv
    · rcases List.mem_append.1 hv with hv | hv
      · exact x.one v (List.mem_of_mem_take hv)
      · exact List.all_eq_true.1 h1 v hv
    · exact x.one v (List.mem_of_mem_drop hv)⟩
section
variable {P:Program} {w:World}
theorem OwnF.fst {α:Type} [Flat α] {B:Nat} {e t:TypeId} {v val:Value} {l:List α} (h:OwnF B e w v l) {n off:Nat} (hs:(P.info? t).map (·.size)=some n) {k:Nat} (hk:k<l.length) (x x':α) (hx:l[k]?=some x)
    (vs:List Value) (hv:val.cells=vs.toArray) (hn:vs.length=n) (hoff:off+n<=Elt.sz α) (h1:∀ u∈vs,u.oneCell'=true) (he:(Flat.enc x':List Value)=(Flat.enc x).take off++vs++(Flat.enc x).drop (off+vs.length)) :
    ∃ w',(Instr.storeAt t (fat (vat v (Elt.sz α) k) off) val).run P w = .ok () w'/\OwnF B e w' v (l.set k x')/\Grow B v w w':=by
  rcases h.2 with ⟨rfl,hn0⟩ | ⟨g,cap,cur,rfl,hb,hg,hnc,hcm,hcsz,htake⟩
  · omega
  · have hpos:=Elt.sz_pos (α:=α);have hkl:k*Elt.sz α+Elt.sz α<=l.length*Elt.sz α:=by rw [← Nat.succ_mul]; exact Nat.mul_le_mul_right _ hk
    have hlc:l.length*Elt.sz α<=cap*Elt.sz α:=Nat.mul_le_mul_right _ hnc;have hg':w.heap[g]?=some (.cells cur.toList.toArray e (0,0)):=by simpa using hg
    have hrun:=run_storeAt (P:=P) (off:=k*Elt.sz α+off) hs hg' hv hn (by simp only [Array.length_toList]; omega) h1;have hall:∀ c∈l.map (Flat.enc:α->List Value),c.length=Elt.sz α:=by
      intro c hc;obtain ⟨y,_,rfl⟩:=List.mem_map.1 hc;exact Flat.enc_len y
    have hfs:=flatten_set (l.map Flat.enc) (Elt.sz α) hall k off (Flat.enc x) vs (by rw [List.getElem?_map,hx]; rfl) (by omega);rw [← he,← List.map_set] at hfs;have hflen:=flat_len l;have hfm:∀ l:List α,(l.flatMap Flat.enc:List Value)=(l.map Flat.enc).flatten:=fun l=>by rw [List.flatMap_def]
    rw [hfm] at hflen htake;refine ⟨_,by simpa [vat,fat,add_lit] using hrun,⟨?_,.inr ⟨g,cap,_,by simp,hb,setRow_heap w g cur _ e _ hg,by simpa using hnc,hcm,?_,?_⟩⟩,
      ⟨rfl,rfl,by simp,fun b _ hne=>setRow_other w g b _ (fun e=>hne (by rw [e]; rfl)),fun g' hg'=>(h.lt g' hg').1,frozen_setRow w g _⟩⟩
    · rw [flat_len]
    · simp only [List.size_toArray,List.length_append,List.length_take,List.length_drop,Array.length_toList];omega
    · rw [hfm,hfs,← htake];simp only [List.length_set];rw [List.take_append,List.take_append];simp only [List.take_take,List.length_take,List.length_append,Array.length_toList,List.drop_take];rw [Nat.min_eq_left (show k*Elt.sz α+off<=l.length*Elt.sz α by omega),Nat.min_eq_right (show k*Elt.sz α+off<=l.length*Elt.sz α by omega),Nat.min_eq_left (show k*Elt.sz α+off<=cur.size by omega)];rw [List.take_of_length_le (show vs.length<=l.length*Elt.sz α-(k*Elt.sz α+off) by omega),hn];simp only [List.append_assoc,Nat.sub_sub]
variable {all rest:List Oper} {Q:Post} {σ:Env} {w0:World} {L L' R:List Chunk} {d:Nat} {ty:TypeId} {pos:String} {af:Array Edge} {g:Option (Nat × Bool)}
theorem t_fst {α:Type} [Flat α] {dst:Option Nat} {e t k n off:Nat} {x y:Operand} {v val:Value} {l l':List α} (H:St w0 w L R) (hk:L[k]?=some (cOwn e v l)) (hs:(P.info? t).map (·.size)=some n) {i:Int}
    (h0:0<=i) (h1:i<l.length) (a a':α) (ha:l[i.toNat]?=some a) (hx:ev σ x=fat (vat v (Elt.sz α) i.toNat) off) (hy:ev σ y=val) (vs:List Value) (hv:val.cells=vs.toArray) (hn:vs.length=n) (hoff:Nat.ble (off+n) (Elt.sz α)=true)
    (hone:vs.all (·.oneCell')=true) (he:(Flat.enc a':List Value)=(Flat.enc a).take off++vs++(Flat.enc a).drop (off+vs.length)) (hl':l.set i.toNat a'=l') (hL:L.set k (cOwn e v l')=L')
    (kk:∀ w',St w0 w' L' R->SL P all Q rest (updo σ dst undef) w'):SL P all Q (⟨dst,.store t x y,ty,pos,af,none⟩ :: rest) σ w:=by
  subst hl';obtain ⟨w',hr,ho,hg⟩:=OwnF.fst (P:=P) (t:=t) (H.get hk:OwnF 0 e w v l) hs (k:=i.toNat) (by omega) a a' ha vs hv hn (Nat.le_of_ble_eq_true hoff) (List.all_eq_true.1 hone) he;refine s_skp (w':=w') ?_ (kk w' (H.own hk ho hg (fun _ _ h=>h) hL));simp [execOp,hx,hy,hr]
/-! ### An entry of a map, found and turned -/
variable {κ ν:Type} [DecidableEq κ] {kenc:κ->Value} {venc:ν->Value} {kt et:TypeId} {b:Nat} {f:κ->Option ν}
theorem Has.ro {L R:List Chunk} {B:Base} {b k:Nat} {cs:List Value} {t:TypeId} (hk:L[k]?=some (cRo B)) (h:∀ W,(cRo B).ok W->W.heap[b]?=some (.cells cs.toArray t (0,0))):Has (L++R) (cBlk b cs t) :=
  ⟨fun w hs=>h w (hs.get (List.mem_append_left _ (List.mem_of_getElem? hk)))⟩
/-- The same for a function value. -/
theorem t_gcallv {f:FuncId} {cap:List Value} {x:Operand} {ops:Array Operand} {ts:Array TypeId} {j:Nat} {want:Bool} (c:Bool) (hy:(yieldedE all σ j==some want)=c) (hcf:CF P f) (hx:c=true->ev σ x = .func (.func f) #[] cap.toArray) (v:Value) (args:c=true->List Value)
    (ha:∀ h:c=true,ops.toList.map (ev σ)=args h) (H:St w0 w L R) (hc:∀ h:c=true,Ret P f (args h++cap).toArray w fun v' w'=>v'=v/\St w0 w' L R) (k:∀ w',St w0 w' L R->SL P all Q rest (upd σ d (gd c v)) w') :
    SL P all Q (⟨some d,.call ⟨.value x,ops,ts⟩,ty,pos,af,some (j,want)⟩ :: rest) σ w:=by
  refine g_split rfl c hy (fun e=>?_) (fun e=>?_)
  · refine s_callv (hx e) hcf (args e) (ha e) (hc e) ?_;rintro _ w' ⟨rfl,hx⟩;have:=k w' hx
    rwa [gd_of e] at this
  · have:=k w H
    rwa [gd_no e] at this
/-- A call under a guard, told apart. -/
theorem g_splitV {dst:Nat} {op:Op} {j:Nat} {want:Bool} (c:Bool) (v:Value) (hy:(yieldedE all σ j==some want)=c)
    (ht:c=true->SL P all Q (⟨some dst,op,ty,pos,af,none⟩ :: rest) σ w) (hf:c=false->SL P all Q rest (upd σ dst (gd c v)) w):SL P all Q (⟨some dst,op,ty,pos,af,some (j,want)⟩ :: rest) σ w:=by
  refine g_split rfl c hy ht (fun e=>?_);have:=hf e
  rwa [gd_no e] at this
end
end Go.Nm
namespace Go.Nm
open Go
/-- A slice value, as a row's one cell. -/
structure SV where
  v:Value
  one:v.oneCell'=true
instance:Inhabited SV:=⟨⟨.bool false,rfl⟩⟩
instance:Flat SV where
  rep _ cs x:=cs=[x.v]
  sz:=1
  agg:=false
  sz_pos:=by decide
  len:=fun h=>by subst h; rfl
  mono:=fun _ h=>h
  one:=fun {_ _ x} h v hv=>by subst h; simp at hv; subst hv; exact x.one
  enc x:=[x.v]
  rep_iff:=Iff.rfl
/-- All rows are the call's own, and no two share memory. -/
structure Mat (B:Nat) (e1 e2:TypeId) (w:World) (v:Value) (M:List (List Bool)):Prop where
  ex:∃ vs:List SV,OwnF B e1 w v vs/\vs.length=M.length/\(∀ i,i<M.length->OwnF B e2 w (vs.getD i default).v (M.getD i [])) ∧
    (∀ i j,i<M.length->j<M.length->i ≠ j->∀ g,(vs.getD i default).v.ownBlock=some g->(vs.getD j default).v.ownBlock ≠ some g) ∧
    ∀ i,i<M.length->∀ g,(vs.getD i default).v.ownBlock=some g->v.ownBlock ≠ some g
/-- Nothing below a block has changed. -/
structure MGrow (B:Nat) (w w':World):Prop where
  os:w'.os=w.os
  out:w'.output=w.output
  size:w.heap.size<=w'.heap.size
  blk:∀ b,b<w.heap.size->b<B->w'.heap[b]?=w.heap[b]?
  fz:∀ a,w'.frozen? a=w.frozen? a
theorem Grow.m {B:Nat} {v:Value} {w w':World} (h:Grow B v w w'):MGrow B w w':=⟨h.os,h.out,h.size,fun b hb hlt=>h.blk b hb (h.ne hlt),h.fz⟩
theorem Ext.mgrow {w0 w w':World} {B:Nat} (h:Ext w0 w) (k:MGrow B w w') (hB:w0.heap.size<=B):Ext w0 w' :=
  ⟨k.os.trans h.os,k.out.trans h.out,Nat.le_trans h.size k.size,fun b hb=>(k.blk b (Nat.lt_of_lt_of_le hb h.size) (by omega)).trans (h.blk b hb),fun a=>(k.fz a).trans (h.fz a)⟩
theorem KF.mgrow {lo B:Nat} {a w c:World} (h:KF lo a w) (k:MGrow B w c) (hB:a.heap.size<=B):KF lo a c :=
  ⟨Nat.le_trans h.size k.size,fun i hl hi=>(k.blk i (Nat.lt_of_lt_of_le hi h.size) (by omega)).trans (h.blk i hl hi)⟩
section
variable {P:Program} {w:World} {B:Nat} {e1 e2:TypeId} {v:Value} {M:List (List Bool)}
theorem Mat.nil (B:Nat) (e1 e2:TypeId) (w:World):Mat B e1 e2 w (.slice none 0 0) [] :=
  ⟨[],OwnF.nil _ _ _,rfl,fun i h=>by simp at h,fun i j h=>by simp at h,fun i h=>by simp at h⟩
theorem Mat.ext {w':World} (h:Mat B e1 e2 w v M) (k:Ext w w'):Mat B e1 e2 w' v M:=by
  obtain ⟨vs,h1,h2,h3,h4,h5⟩:=h.ex;exact ⟨vs,h1.ext k,h2,fun i hi=>(h3 i hi).ext k,h4,h5⟩
theorem Mat.sl (h:Mat B e1 e2 w v M):Sl (frm w B) v M:=by
  obtain ⟨vs,h1,h2,h3,h4,h5⟩:=h.ex;obtain ⟨a,c,hv,hc,hm,hh⟩:=h1.sl.ex;refine ⟨a,c,by rw [hv,h2],by omega,hm,fun k x hx=>?_⟩;have hk:=(List.getElem?_eq_some_iff.1 hx).1;obtain ⟨b,o,cs,ha,hr,hy⟩:=hh k (vs.getD k default) (getD_some vs (by omega) default);have hcs:cs=[(vs.getD k default).v]:=hr;have hx':M.getD k []=x:=by simp [List.getD,hx]
  exact ⟨b,o,cs,ha,⟨_,hcs,hx' ▸ (h3 k hk).sl⟩,hy⟩
/-- A row, when it is read. -/
theorem Mat.row (h:Mat B e1 e2 w v M) {i:Nat} (hi:i<M.length):∃ u,At (frm w B) (vat v 1 i) [u]/\OwnF B e2 w u (M.getD i []) ∧
    ∀ {t:TypeId} (_:(P.info? t).map (·.size)=some 1) {j:Nat} (_:j<(M.getD i []).length) (b:Bool),
      ∃ w',(Instr.storeAt t (vat u 1 j) (.bool b)).run P w = .ok () w'/\Mat B e1 e2 w' v (M.set i ((M.getD i []).set j b))/\MGrow B w w':=by
  obtain ⟨vs,h1,h2,h3,h4,h5⟩:=h.ex;obtain ⟨cs,ha,hr⟩:=h1.sl.at (getD_some vs (k:=i) (by omega) default);have hcs:cs=[(vs.getD i default).v]:=hr;subst hcs;refine ⟨(vs.getD i default).v,ha,h3 i hi,fun {t} ht {j} hj b=>?_⟩;obtain ⟨w',hs,ho,hg⟩:=(h3 i hi).store (P:=P) (val:=.bool b) ht hj b rfl;refine ⟨w',hs,⟨vs,?_,by simpa using h2,fun k hk=>?_,fun k l hk hl=>?_,fun k hk=>?_⟩,hg.m⟩
  · refine h1.grow hg fun g hg'=>?_;intro he;exact h5 i hi g he hg'
  · simp only [List.length_set] at hk;by_cases e:k=i
    · subst e;rw [show (M.set k ((M.getD k []).set j b)).getD k []=(M.getD k []).set j b from by simp [List.getD,hk]];exact ho
    · rw [show (M.set i ((M.getD i []).set j b)).getD k []=M.getD k [] from by simp [List.getD,List.getElem?_set_ne (Ne.symm e)]];exact (h3 k hk).grow hg fun g hg'=>h4 k i hk hi e g hg' |> fun h6 he=>h6 he
  · simp only [List.length_set] at hk hl;exact h4 k l hk hl
  · simp only [List.length_set] at hk;exact h5 k hk
variable {all rest:List Oper} {Q:Post} {σ:Env} {d:Nat} {ty:TypeId} {pos:String} {af:Array Edge}
end
end Go.Nm
namespace Go.Nm
open Go
theorem Sep.set {w w':World} {c c':Chunk} (hx:c.ex=true) (kp:w.heap.size<=w'.heap.size) (hs:∀ b,b<w.heap.size->¬ c.D b->w'.heap[b]?=w.heap[b]?)
    (hD:∀ b,c'.D b->c.D b∨w.heap.size<=b) (ho:c'.ok w'):∀ (k:Nat) (L:List Chunk),Sep w L->L[k]?=some c->Sep w' (L.set k c'):=by
  intro k L;induction L generalizing k with
  | nil=>intro _ h; simp at h
  | cons d L ih =>
    intro hS hk;obtain ⟨h1,h2,h3⟩:=hS;cases k with
    | zero =>
      simp only [List.getElem?_cons_zero,Option.some.injEq] at hk;subst hk;refine ⟨ho,fun e he _ b hb hb'=>?_,h3.old kp fun e he b hb=>?_⟩
      · rcases hD b hb with hb | hb
        · exact h2 e he (by simp [hx]) b hb hb'
        · have:=e.bd w b (h3.get he) hb';omega
      · exact hs b (e.bd w b (h3.get he) hb) (fun hc=>h2 e he (by simp [hx]) b hc hb)
    | succ k =>
      simp only [List.getElem?_cons_succ] at hk;have hmem:c∈L:=List.mem_of_getElem? hk;have had:=h2 c hmem;refine ⟨d.st _ _ h1 kp fun b hb=>hs b (d.bd w b h1 hb) (fun hc=>had (by simp [hx]) b hb hc),fun e he=>?_,ih k h3 hk⟩;rcases List.mem_or_eq_of_mem_set he with he | rfl
      · exact h2 e he
      · intro _ b hb hb';rcases hD b hb' with hb' | hb'
        · exact had (by simp [hx]) b hb hb'
        · have:=d.bd w b h1 hb;omega
/-- Parts as one. -/
def cAll (Ls:List Chunk):Chunk where
  D b:=∃ c,c∈Ls/\c.D b
  ex:=true
  ok w:=Sep w Ls
  st w w' h hs k:=h.old hs fun c hc b hb=>k b ⟨c,hc,hb⟩
  bd w b h hb:=by
    obtain ⟨c,hc,hd⟩:=hb;exact c.bd w b (h.get hc) hd
section
variable {α:Type} [Flat α] {e1 e2:TypeId} {v:Value} {us:List SV} {T:List (List α)} {w0 w:World} {L L' R:List Chunk}
variable {P:Program} {all rest:List Oper} {Q:Post} {σ:Env} {d:Nat} {ty:TypeId} {pos:String} {af:Array Edge}
end
end Go.Nm
namespace Go.Nm
open Go
section
variable {P:Program} {w:World} {σ:Env} {d:Nat} {ty:TypeId} {pos:String} {af:Array Edge} {g:Option (Nat × Bool)}
theorem sl_none {α:Type} [Elt α] {C:Cells} {v:Value} {l:List α} (h:Sl C v l) (hn:l=[]->v = .slice none 0 0):∃ a n c,v = .slice a n c/\a.isNone=l.isEmpty:=by
  cases l with
  | nil=>exact ⟨none,0,0,hn rfl,rfl⟩
  | cons x l =>
    obtain ⟨a,c,hv,_,_,hh⟩:=h.ex;obtain ⟨b,o,cs,rfl,_⟩:=hh 0 x rfl;exact ⟨_,_,_,hv,rfl⟩
theorem x_eqnil {α:Type} [Elt α] {t e yt:TypeId} {x y:Operand} {C:Cells} {v:Value} {l:List α} (ht:P.underlying t=some (.slice e)) (hx:ev σ x=v) (hy:ev σ y = .slice none 0 0) (h:Sl C v l) (hn:l=[]->v = .slice none 0 0) :
    (execOp (ev σ) ⟨some d,.binOp .eql t x y yt,ty,pos,af,g⟩).run P w = .ok (.value (.bool l.isEmpty)) w:=by
  obtain ⟨a,n,c,rfl,ha⟩:=sl_none h hn;simp [execOp,hx,hy,eqGuard,binOp,run_equal_slice_nil w t e a n c ht,ha]
end
end Go.Nm
namespace Go.Nm
open Go
section
variable {P:Program} {w:World} {σ:Env} {d:Nat} {ty:TypeId} {pos:String} {af:Array Edge} {g:Option (Nat × Bool)}
theorem x_eqnilp {α:Type} [Elt α] {t e yt:TypeId} {x y:Operand} {C:Cells} {v:Value} {l:List α} (ht:P.underlying t=some (.slice e)) (hx:ev σ x=v) (hy:ev σ y = .slice none 0 0) (h:Sl C v l) (hn:0<l.length) :
    (execOp (ev σ) ⟨some d,.binOp .eql t x y yt,ty,pos,af,g⟩).run P w = .ok (.value (.bool false)) w:=by
  have:=x_eqnil (P:=P) (w:=w) (σ:=σ) (d:=d) (ty:=ty) (pos:=pos) (af:=af) (g:=g) (yt:=yt) ht hx hy h (fun e=>by subst e; cases hn);cases l with
  | nil=>cases hn
  | cons x l=>exact this
end
section
variable {P:Program} {all rest:List Oper} {Q:Post} {σ:Env} {w0 w:World} {L L' R:List Chunk} {d:Nat} {ty:TypeId} {pos:String} {af:Array Edge} {g:Option (Nat × Bool)}
theorem t_bs0 {α:Type} [Flat α] {t e by':Nat} {z:Value} (T:SlT P t e (Elt.sz α) by' z) (H:St w0 w L R)
    (k:∀ u w',St w0 w' (cOwn e u ([]:List α) :: L) R->SL P all Q rest (upd σ d u) w'):SL P all Q (⟨some d,.buildSlice t 0 #[],ty,pos,af,none⟩ :: rest) σ w:=by
  obtain ⟨i,hi,hz,hisz,hby⟩:=T.parts;refine s_any (v:=.slice (some ⟨w.heap.size,0,none⟩) 0 0) (w':=w.alloc (.cells #[] e)) ?_ (k _ _ (H.push (.allocCells ..) ?_ ?_))
  · simp [execOp,Instr.buildSlice,run_underlying T.und,sizeOf,typeInfo,zeroValue,hi,hz,newRow,Instr.fill];exact congrArg (fun c=>w.alloc (Obj.cells c e)) (by simp)
  · refine ⟨by simp,.inr ⟨w.heap.size,0,#[],by simp,Nat.zero_le _,heap_alloc_new w _,Nat.le_refl _,by simp [maxLen],by simp,by simp⟩⟩
  · intro b hb;simp only [cOwn,Value.ownBlock,Option.some.injEq] at hb;omega
end
section
variable {r:Option Nat} {P:Program} {n:Nat} {Q:Post} {σ:Env} {w:World}
theorem W.seqJ {x y:Code} (J:Env->World->Prop) (h:WR r P n x (thenQ J Q) σ w) (k:∀ σ' w',J σ' w'->WR r P n y Q σ' w'):WR r P n (.seq x y) Q σ w:=by
  refine W.seq fun ds a ha=>wpIn_mono (h ds a ha) ?_;rintro e a' w' ⟨s,hs,h'⟩;cases e with
  | normal=>exact ⟨s,hs,k _ _ h'⟩
  | _=>exact ⟨s,hs,h'⟩
end
end Go.Nm
namespace Go.Nm
open Go
/-! ### Parts as one, and one object -/
def cObj (b:Nat) (o:Obj):Chunk where
  D k:=k=b
  ex:=true
  ok w:=w.heap[b]?=some o
  st w w' h _ k:=(k b rfl).trans h
  bd w k h e:=by rw [e]; exact heap_lt h
/-- Blocks for calls that are put off; none is. -/
def cMk (Ds:List Nat):Chunk where
  D k:=k∈Ds
  ex:=true
  ok w:=Ds.Nodup/\∀ D∈Ds,w.heap[D]?=some (.deferred (some []))
  st w w' h _ k:=⟨h.1,fun D hD=>(k D hD).trans (h.2 D hD)⟩
  bd w k h e:=heap_lt (h.2 k e)
section
variable {w0 w w':World} {L L' R A T:List Chunk}
theorem Sep.bundle (hx:∀ c∈A,c.ex=true) (h:Sep w (A++T)):Sep w (cAll A :: T):=by
  rw [Sep.iff] at h;obtain ⟨h1,h2⟩:=h;rw [List.pairwise_append] at h2;refine ⟨?_,fun d hd _ b hb hb'=>?_,?_⟩
  · show Sep w A;rw [Sep.iff];exact ⟨fun c hc=>h1 c (List.mem_append_left _ hc),h2.1⟩
  · obtain ⟨c,hc,hb⟩:=hb;exact h2.2.2 c hc d hd (by rw [hx c hc]; rfl) b hb hb'
  · rw [Sep.iff];exact ⟨fun c hc=>h1 c (List.mem_append_right _ hc),h2.2.1⟩
theorem Sep.unbundle (h:Sep w (cAll A :: T)):Sep w (A++T):=by
  obtain ⟨h1,h2,h3⟩:=h;have h1':Sep w A:=h1;rw [Sep.iff] at h1' h3 ⊢;refine ⟨fun c hc=>?_,List.pairwise_append.2 ⟨h1'.2,h3.2,fun a ha b hb hex k hk hk'=>?_⟩⟩
  · rcases List.mem_append.1 hc with hc | hc
    · exact h1'.1 c hc
    · exact h3.1 c hc
  · exact h2 b hb rfl k ⟨a,ha,hk⟩ hk'
theorem St.bundle (hx:∀ c∈A,c.ex=true) (H:St w0 w (A++T) R):St w0 w (cAll A :: T) R :=
  ⟨H.kp,by have:=H.sep; rw [List.append_assoc] at this; exact this.bundle hx⟩
theorem St.unbundle (H:St w0 w (cAll A :: T) R):St w0 w (A++T) R :=
  ⟨H.kp,by rw [List.append_assoc]; exact Sep.unbundle H.sep⟩
theorem Keep.putObj {r:Nat} {o o':Obj} (_:w.heap[r]?=some o) (_:∀ c e fr,o ≠ .cells c e fr) (_:∀ c e fr,o' ≠ .cells c e fr):Keep w (w.putObj r o'):=⟨rfl,rfl,by simp⟩
theorem St.putObj {l:Nat} {o o':Obj} (H:St w0 w (cObj l o :: L) R) (ho:∀ c e fr,o ≠ .cells c e fr) (ho':∀ c e fr,o' ≠ .cells c e fr):St w0 (w.putObj l o') (cObj l o' :: L) R :=
  H.set (k:=0) (c:=cObj l o) (c':=cObj l o') rfl rfl (Keep.putObj (H.get (k:=0) rfl) ho ho') (fun b _ hb=>World.putObj_heap_other hb) (fun b hb=>.inl hb)
    (World.putObj_heap_same (heap_lt (H.get (k:=0) rfl))) rfl
theorem St.tail {c:Chunk} (H:St w0 w (c :: L) R):St w0 w L R:=⟨H.kp,H.sep.2.2⟩
theorem St.allocObj (H:St w0 w L R) (o:Obj) (hx:Ext w (w.alloc o)):St w0 (w.alloc o) (cObj w.heap.size o :: L) R :=
  H.push (c:=cObj w.heap.size o) hx (World.alloc_heap_new w o) (fun b hb=>by rw [show b=w.heap.size from hb]; exact Nat.le_refl _)
theorem St.mk0 (H:St w0 w L R):St w0 w (cMk [] :: L) R :=
  H.push (c:=cMk []) (Ext.refl w) ⟨List.nodup_nil,fun _ h=>by cases h⟩ (fun b hb=>by cases hb)
/-- A block for calls that are put off comes to the others. -/
theorem St.mkCons {D:Nat} {Ds:List Nat} (H:St w0 w (cObj D (.deferred (some [])) :: cMk Ds :: L) R):St w0 w (cMk (D :: Ds) :: L) R:=by
  obtain ⟨h1,h2,h3,h4,h5⟩:=H.sep;refine ⟨H.kp,⟨List.nodup_cons.2 ⟨fun hD=>h2 (cMk Ds) (by simp) rfl D rfl hD,h3.1⟩,fun E hE=>?_⟩,fun d hd _ b hb hb'=>?_,h5⟩
  · rcases List.mem_cons.1 hE with rfl | hE
    · exact h1
    · exact h3.2 E hE
  · rcases List.mem_cons.1 hb with rfl | hb
    · exact h2 d (List.mem_cons_of_mem _ hd) rfl b rfl hb'
    · exact h4 d hd rfl b hb hb'
end

/-! ### Frames that have come upon such loops -/
def mkD (D:Nat):Deferred:={ target:=.collected D,args:=#[] }
abbrev PostD:=Exit->List Nat->Env->World->Prop
def WD (P:Program) (n:Nat) (Ds:List Nat) (c:Code) (Q:PostD) (σ:Env) (w:World):Prop :=
  ∀ a,Fr (Ds.map mkD) n σ a->c.wpIn (FR none) 0 P (fun e a' w'=>∃ Ds' σ',Fr (Ds'.map mkD) n σ' a'/\Q e Ds' σ' w') a w
def thenD (K:List Nat->Env->World->Prop) (Q:PostD):PostD
  | .normal,Ds,σ,w=>K Ds σ w
  | e,Ds,σ,w=>Q e Ds σ w
def blockD (id:Nat) (Q:PostD):PostD
  | .exit i,Ds,σ,w=>bif Nat.beq i id then Q .normal Ds σ w else Q (.exit i) Ds σ w
  | e,Ds,σ,w=>Q e Ds σ w
section
variable {P:Program} {n:Nat} {Q:PostD} {σ:Env} {w:World} {Ds:List Nat}
theorem WD.of {c:Code} (h:W P n c (fun e σ w=>Q e Ds σ w) σ w):WD P n Ds c Q σ w :=
  fun a ha=>wpIn_mono (h _ a ha) fun _ _ _ ⟨s,hs,h'⟩=>⟨Ds,s,hs,h'⟩
theorem WD.seq {x y:Code} (h:WD P n Ds x (thenD (fun Ds σ w=>WD P n Ds y Q σ w) Q) σ w):WD P n Ds (.seq x y) Q σ w:=by
  intro a ha;refine wpIn_seq (wpIn_mono (h a ha) ?_);rintro e a' w' ⟨Ds',s,hs,h'⟩;cases e with
  | normal=>exact h' a' hs
  | _=>exact ⟨Ds',s,hs,h'⟩
theorem WD.cond {c:Operand} {x y:Code} (b:Bool) (hc:ev σ c = .bool b) (ht:b=true->WD P n Ds x Q σ w) (hf:b=false->WD P n Ds y Q σ w) :
    WD P n Ds (.cond c x y) Q σ w:=by
  intro a ha;refine wpIn_cond_split (t:=b) (by rw [ha.eval]; exact hc) (fun h=>ht h a ha) (fun h=>hf h a ha)
theorem WD.block {id:Nat} {c:Code} (h:WD P n Ds c (blockD id Q) σ w):WD P n Ds (.block id c) Q σ w:=by
  intro a ha;refine wpIn_block (wpIn_mono (h a ha) ?_);rintro e a' w' ⟨Ds',s,hs,h'⟩;cases e with
  | exit i =>
    simp only [Exit.inBlock];unfold blockD at h';by_cases e:i=id
    · subst e;rw [if_pos rfl];simp only [Nat.beq_refl,cond_true] at h';exact ⟨Ds',s,hs,h'⟩
    · rw [if_neg e];have:Nat.beq i id=false:=by
        cases hb:Nat.beq i id with
        | false=>rfl
        | true=>exact absurd (Nat.eq_of_beq_eq_true hb) e
      simp only [this,cond_false] at h';exact ⟨Ds',s,hs,h'⟩
  | _=>exact ⟨Ds',s,hs,h'⟩
theorem WD.loop {c:Code} (I:Nat->List Nat->Env->World->Prop) (h0':∃ m,I m Ds σ w)
    (round:∀ m Ds σ w,I m Ds σ w->WD P n Ds c (thenD (fun Ds' σ' w'=>∃ m',m'<m/\I m' Ds' σ' w') Q) σ w):WD P n Ds (.loop c) Q σ w:=by
  obtain ⟨m,h0⟩:=h0';intro a ha;refine wpIn_loop_ghost (fun m a w=>∃ Ds σ,Fr (Ds.map mkD) n σ a/\I m Ds σ w) m ⟨Ds,σ,ha,h0⟩ ?_;rintro m a w ⟨Ds,σ,ha,hI⟩;refine wpIn_mono (round m Ds σ w hI a ha) ?_;rintro e a' w' ⟨Ds',s,hs,h'⟩;cases e with
  | normal =>
    obtain ⟨m',hlt,hI'⟩:=h';exact ⟨m',hlt,Ds',s,hs,hI'⟩
  | _=>exact ⟨Ds',s,hs,h'⟩
theorem WD.mono {c:Code} {Q':PostD} (h:WD P n Ds c Q σ w) (hq:∀ e Ds σ w,Q e Ds σ w->Q' e Ds σ w):WD P n Ds c Q' σ w :=
  fun a ha=>wpIn_mono (h a ha) fun _ _ _ ⟨d,s,hs,h'⟩=>⟨d,s,hs,hq _ _ _ _ h'⟩
end
/-! ### The body of a function with such loops -/
/-- The blocks are shut, one behind the other. -/
inductive Shut:List Nat->World->World->Prop
  | nil {w:World}:Shut [] w w
  | cons {D:Nat} {Ds:List Nat} {w w':World} (h:w.heap[D]?=some (.deferred (some []))) (k:Shut Ds (w.putObj D (.deferred none)) w'):Shut (D :: Ds) w w'
def bodyD (P:Program) (fn:Func) (R:Value->World->Prop):PostD
  | .normal,Ds,σ,w | .ret,Ds,σ,w=>∃ w' v,Shut Ds w w'/\resE P fn σ w' v/\R v w'
  | _,_,_,_=>False
theorem shutSt {w0:World} {L R:List Chunk}:∀ {Ds:List Nat} {w:World},St w0 w (cMk Ds :: L) R->∃ w',Shut Ds w w'/\St w0 w' L R
  | [],w,H=>⟨w,.nil,H.tail⟩
  | D :: Ds,w,H=>by
    have hD:=(H.get (k:=0) rfl:_/\_).2 D (by simp);have hn:=(H.get (k:=0) rfl:_/\_).1;rw [List.nodup_cons] at hn;have H':St w0 (w.putObj D (.deferred none)) (cMk Ds :: L) R :=
      H.set (k:=0) (c:=cMk (D :: Ds)) (c':=cMk Ds) rfl rfl (Keep.putObj hD (by simp) (by simp)) (fun b _ hb=>World.putObj_heap_other (fun e=>hb (by rw [e]; exact List.mem_cons_self ..)))
        (fun b hb=>.inl (List.mem_cons_of_mem _ hb)) ⟨hn.2,fun E hE=>by
          rw [World.putObj_heap_other (fun e=>hn.1 (by rw [← e]; exact hE))];exact (H.get (k:=0) rfl:_/\_).2 E (List.mem_cons_of_mem _ hE)⟩ rfl
    obtain ⟨w',h1,h2⟩:=shutSt H';exact ⟨w',.cons hD h1,h2⟩
theorem bodyD_n {P:Program} {fn:Func} {Q:Value->World->Prop} {w0 w:World} {L R:List Chunk} {Ds:List Nat} {σ:Env} (H:St w0 w (cMk Ds :: L) R) (k:∀ w',St w0 w' L R->∃ v,resE P fn σ w' v/\Q v w'):bodyD P fn Q .normal Ds σ w:=by
  obtain ⟨w',h1,h2⟩:=shutSt H;obtain ⟨v,h3,h4⟩:=k w' h2;exact ⟨w',v,h1,h3,h4⟩
theorem bodyD_r {P:Program} {fn:Func} {Q:Value->World->Prop} {w0 w:World} {L R:List Chunk} {Ds:List Nat} {σ:Env} (H:St w0 w (cMk Ds :: L) R) (k:∀ w',St w0 w' L R->∃ v,resE P fn σ w' v/\Q v w'):bodyD P fn Q .ret Ds σ w :=
  bodyD_n H k
theorem leavesOf {P:Program} {fn:Func} {σ:Env} {tmps:Array Value} {Q:Value->World->Prop} (ht:∀ k,tmps.getD k undef=σ k) {v:Value}:∀ {Ds:List Nat} {w w':World},Shut Ds w w'->resE P fn σ w' v->Q v w' →
    LeavesInM Fence.wide 0 P fn tmps (fun e w=>∃ v,e = .returned v/\Q v w) (Ds.map mkD) .returning w
  | _,w,_,.nil,h,hq=>by
    show LeavesIn Fence.wide 0 P fn tmps _ [] .returning w;exact ⟨v,h tmps ht,v,rfl,hq⟩
  | _,_,_,.cons hD k,h,hq=>⟨by simp,.inl ⟨_,_,rfl,run_takeDeferred hD,leavesOf ht k h hq⟩⟩
theorem ret_of_WD {P:Program} {f:FuncId} {fn:Func} {c:Code} {n:Nat} {args:Array Value} {w:World} {R:Value->World->Prop}
    (hf:P.funcs[f]?=some fn) (hb:fn.body=some c) (hn:fn.ntmps=n) (hle':Nat.ble args.size n=true)
    (h:WD P n [] c (bodyD P fn R) (argE args) w):Ret P f args w R:=by
  have hle:=Nat.le_of_ble_eq_true hle';subst hn;refine callsIn_wide.1 (callsIn_of_wp_marks (F:=Fence.wide) (n:=0) hf hb trivial (wpIn_mono (h _ ⟨rfl,?_,fun k=>?_⟩) ?_))
  · simp; omega
  · simp only [argE,Array.getD_eq_getD_getElem?,Array.getElem?_append];by_cases hk:k<args.size
    · simp [hk]
    · rw [if_neg hk];simp only [Array.getElem?_replicate];have:args[k]?=none:=by simp; omega
      rw [this];split <;> rfl
  · rintro e a' w' ⟨Ds,s,hs,h'⟩;cases e with
    | normal =>
      obtain ⟨w1,v,h1,h2,h3⟩:=h';show LeavesInM _ _ _ _ _ _ a'.defers _ _;rw [hs.df];exact leavesOf hs.get h1 h2 h3
    | ret =>
      obtain ⟨w1,v,h1,h2,h3⟩:=h';show LeavesInM _ _ _ _ _ _ a'.defers _ _;rw [hs.df];exact leavesOf hs.get h1 h2 h3
    | _=>exact h'.elim

/-! ### The function that an iterator is handed -/
def YieldC {α T:Type} (P:Program) (R:List Chunk) (AR:Cells->List Value->α->Prop) (Y:T->List Chunk->Prop) (yv:Value) (ym:T->α->M (Bool × T)):Prop :=
  ∃ l,yv = .func (.yield l) #[] #[]/\∀ (w:World) (L Ls:List Chunk) (t:T) (C:Cells) (vs:List Value) (x:α) (b:Bool) (t':T),Sep w (cAll Ls :: (L++R))->Y t Ls->Reads (L++R) C->AR C vs x->(ym t x).Ends (b,t') →
    ∃ f tmps assign body,(Instr.yield l vs.toArray).run P w = .ok (.round l f tmps assign body) w/\RoundIn Fence.wide 0 P l f tmps assign body w fun e w'=>e = .returned (B b)/\∃ Ls',Y t' Ls'/\St w w' [cAll Ls'] (L++R)
theorem YieldC.app {α T:Type} {P:Program} {R:List Chunk} {AR:Cells->List Value->α->Prop} {Y:T->List Chunk->Prop} {yv:Value} {ym:T->α->M (Bool × T)} (h:YieldC P R AR Y yv ym) (L:List Chunk):YieldC P (L++R) AR Y yv ym:=by
  obtain ⟨l,h1,h2⟩:=h;refine ⟨l,h1,fun w L' Ls t C vs x b t'=>?_⟩;rw [← List.append_assoc];exact h2 w (L'++L) Ls t C vs x b t'
section
variable {α T:Type} {P:Program} {all rest:List Oper} {Q:Post} {σ:Env} {w0 w:World} {L R:List Chunk} {d:Nat} {ty:TypeId} {pos:String} {af:Array Edge}
theorem y_exec {l:Nat} {dst:Option Nat} {x:Operand} {ops:Array Operand} {ts:Array TypeId} {g:Option (Nat × Bool)} {vs:List Value} {nx:Next} (hx:ev σ x = .func (.yield l) #[] #[]) (ha:ops.toList.map (ev σ)=vs)
    (h:(Instr.yield l vs.toArray).run P w = .ok nx w):(execOp (ev σ) ⟨dst,.call ⟨.value x,ops,ts⟩,ty,pos,af,g⟩).run P w = .ok nx w:=by
  subst ha;simp [execOp,resolve,hx,Deferred.ofValue,invoke,amap];exact h
theorem t_yield {AR:Cells->List Value->α->Prop} {Y:T->List Chunk->Prop} {x:Operand} {ops:Array Operand} {ts:Array TypeId} {yv:Value} {ym:T->α->M (Bool × T)} {C:Cells} {b:Bool} {t t':T} {Ls:List Chunk} (H:St w0 w (cAll Ls :: L) R) (hf:YieldC P R AR Y yv ym)
    (hY:Y t Ls) (hx:ev σ x=yv) (vs:List Value) (ha:ops.toList.map (ev σ)=vs) (a:α) (hC:Reads (L++R) C) (hA:AR C vs a) (hp:(ym t a).Ends (b,t'))
    (k:∀ Ls' w',Y t' Ls'->St w0 w' (cAll Ls' :: L) R->SL P all Q rest (upd σ d (B b)) w'):SL P all Q (⟨some d,.call ⟨.value x,ops,ts⟩,ty,pos,af,none⟩ :: rest) σ w:=by
  obtain ⟨l,rfl,h⟩:=hf;obtain ⟨f,tmps,asg,body,h1,h2⟩:=h w L Ls t C vs a b t' H.sep hY hC hA hp;simp only [SL,opW,y_exec hx ha h1];refine h2.mono fun e w' ⟨he,Ls',hY',H'⟩=>⟨_,he,k Ls' w' hY' ⟨H.kp.trans H'.kp,H'.sep⟩⟩
end
/-- What the function is, of what a round reckons. -/
def M.yl {S X α:Type} (bd:S->α->M (S ⊕ X)):S ⊕ X->α->M (Bool × (S ⊕ X))
  | .inl s,a=>M.bind (bd s a) fun r=>match r with
    | .inl s'=>M.pure (true,.inl s')
    | .inr x=>M.pure (false,.inr x)
  | .inr _,_=>M.fail
end Go.Nm
namespace Go.Nm
open Go
theorem Ext.allocObj (w:World) (o:Obj) (ho:∀ c e fr,o ≠ .cells c e fr):Ext w (w.alloc o):=by
  refine ⟨rfl,rfl,by rw [World.size_alloc]; omega,fun b hb=>?_,fun a=>?_⟩
  · show (w.heap.push o)[b]?=_;rw [Array.getElem?_push];rw [if_neg (by omega)]
  · unfold World.frozen?;show (match (w.heap.push o)[a.block]? with | some (.cells _ _ (lo,hi))=>_ | _=>_)=_;rw [Array.getElem?_push];by_cases e:a.block=w.heap.size
    · rw [if_pos e,e];have:w.heap[w.heap.size]?=none:=by simp
      rw [this];cases o with
      | cells c e fr=>exact absurd rfl (ho c e fr)
      | _=>rfl
    · rw [if_neg e];rfl
/-- What the record of the loop bears. -/
structure RecOf (r:Loop) (n:Nat) (σ:Env) (ps:Array Tmp) (assign body:Code):Prop where
  st:r.state = .ready
  pd:r.pending=none
  sz:r.tmps.size=n
  get:∀ k,r.tmps.getD k undef=σ k
  ps:r.params=ps
  asg:r.assign=assign
  body:r.body=body
section
variable {P:Program} {n:Nat} {σ:Env} {w0 w:World} {L R T:List Chunk} {Ds:List Nat}
theorem WD.range {Q:PostD} {g:Operand} {ps:Array Tmp} {assign body:Code} {f:FuncId} (cap:List Value) (H:St w0 w (cMk Ds :: L) R) (hg:ev σ g = .func (.func f) #[] cap.toArray) (hcf:CF P f)
    (k : ∀ (l D : Nat) (r : Loop) (w1 : World), RecOf r n σ ps assign body -> St w0 w1 (cObj l (.loop r) :: cMk (D :: Ds) :: L) R →
      Ret P f (.func (.yield l) #[] #[] :: cap).toArray w1 fun _ w2=>∃ (r':Loop) (L':List Chunk),St w0 w2 (cObj l (.loop r') :: cMk (D :: Ds) :: L') R/\r'.state ≠ .busy ∧
        ∀ w3,St w0 w3 (cMk (D :: Ds) :: L') R->match r'.pending with
          | none=>Q .normal (D :: Ds) σ w3
          | some c=>WD P n (D :: Ds) c Q σ w3) :
    WD P n Ds (.rangeFunc g ps assign body) Q σ w:=by
  intro a ha;refine wpIn_rangeFunc fun fn _=>?_;have h1:=(H.allocObj (.deferred (some [])) (Ext.allocObj _ _ (by simp))).mkCons;have h2:=h1.allocObj (.loop { state:=.ready,pending:=none,fn,tmps:=a.tmps,params:=ps,assign,body,defers:=w.heap.size }) (Ext.allocObj _ _ (by simp));rw [World.size_alloc] at h2;have hk:=k (w.heap.size+1) w.heap.size _ _ ⟨rfl,rfl,ha.sz,ha.get,rfl,rfl,rfl⟩ h2;have hent:=run_enterLoop_outer (P:=P) (w:=w) fn a.tmps ps assign body;generalize (w.alloc (.deferred (some []))).alloc (.loop { state:=.ready,pending:=none,fn,tmps:=a.tmps,params:=ps,assign,body,defers:=w.heap.size })=W1 at hk hent;refine ⟨w.heap.size+1,[mkD w.heap.size],W1,{ target:=.fn (.func f) cap.toArray,args:=#[.func (.yield (w.heap.size+1)) #[] #[]] },W1,f,(.func (.yield (w.heap.size+1)) #[] #[] :: cap).toArray,W1,hent,?_,fun _ _=>trivial,?_,fun hc=>by simp [FR,Fence.wide] at hc,?_⟩
  · rw [ha.eval];have he:ev σ (.const (.func (.yield (w.heap.size+1)) #[] #[])) = .func (.yield (w.heap.size+1)) #[] #[]:=rfl;simp [resolve,rangeCall,hg,Deferred.ofValue,he]
  · simp [invoke,run_callFunc hcf]
  · refine CallsIn.mono (callsFR hk) ?_
    · rintro e w2 ⟨v,rfl,r',L',H',hb,hq⟩;have hl:=H'.get (k:=0) rfl;refine ⟨_,_,run_endLoop hl hb,?_⟩;have hq:=hq _ (H'.putObj (o':=.loop { r' with state:=.exhausted }) (by simp) (by simp)).tail;have hfr:Fr ((w.heap.size :: Ds).map mkD) n σ { a with defers:=[mkD w.heap.size]++a.defers }:=⟨by show [mkD w.heap.size]++a.defers=_; rw [ha.df]; rfl,ha.sz,ha.get⟩
      cases hp:r'.pending with
      | none=>rw [hp] at hq; exact ⟨_,_,hfr,hq⟩
      | some c=>rw [hp] at hq; exact hq _ hfr
def setP (σ:Env) (ps:List Tmp) (vs:List Value):Env:=(ps.zip vs).foldl (fun σ x=>upd σ x.1 x.2) σ
theorem setP_get {n:Nat}:∀ (ps:List (Nat × Value)) {σ:Env} {tmps:Array Value},tmps.size=n->(∀ k,tmps.getD k undef=σ k)->(∀ p∈ps,p.1<n) →
    (ps.foldl (fun (tmps:Array Value) x=>tmps.setIfInBounds x.1 x.2) tmps).size=n/\∀ k,(ps.foldl (fun (tmps:Array Value) x=>tmps.setIfInBounds x.1 x.2) tmps).getD k undef=ps.foldl (fun σ x=>upd σ x.1 x.2) σ k
  | [],_,_,hs,hg,_=>⟨hs,hg⟩
  | (p,v) :: ps,σ,tmps,hs,hg,hp=>by
    have hlt:=hp (p,v) (by simp);refine setP_get ps (σ:=upd σ p v) (tmps:=tmps.setIfInBounds p v) (by simpa using hs) (fun k=>?_) (fun q hq=>hp q (by simp [hq]));have:=Fr.put (ds:=[]) (n:=n) (σ:=σ) (a:={ tmps:=tmps,defers:=[] }) ⟨rfl,hs,hg⟩ hlt v;exact this.get k
/-- How a round is left, as code. -/
def jumpOf:Exit->Option Code
  | .ret=>some .ret
  | .exit id=>some (.exit id)
  | _=>none
variable {S X α:Type}
def rdQ (Ys:S->List Chunk->Prop) (Yx:X->List Chunk->Prop) (J:X->Code) (w:World) (T R:List Chunk) (r:S ⊕ X):Post
  | .normal,_,w'=>∃ s Ls,r = .inl s/\Ys s Ls/\St w w' (Ls++T) R
  | e,_,w'=>∃ x Ls,r = .inr x/\Yx x Ls/\St w w' (Ls++T) R/\jumpOf e=some (J x)
def yJ (l:Nat) (r0:Loop) (Ys:S->List Chunk->Prop) (Yx:X->List Chunk->Prop) (J:X->Code):S ⊕ X->List Chunk->Prop
  | .inl s,Ls=>∃ Ls',Ls=cObj l (.loop r0) :: Ls'/\Ys s Ls'
  | .inr x,Ls=>∃ Ls',Ls=cObj l (.loop { r0 with state:=.done,pending:=some (J x) }) :: Ls'/\Yx x Ls'
/-- These parts lie among those. -/
def Sup (R' R:List Chunk):Prop:=∃ L,R'=L++R
theorem Reads.sub {R R':List Chunk} {C:Cells} (h:Reads R C) (s:Sup R' R):Reads R' C:=by
  obtain ⟨L,rfl⟩:=s; exact h.app L
theorem Has.sub {R R':List Chunk} {c:Chunk} (h:Has R c) (s:Sup R' R):Has R' c:=by
  obtain ⟨L,rfl⟩:=s; exact h.app L
theorem FnM.sub {α:Type} [Elt α] {P:Program} {R R':List Chunk} {vf:Value} {p:α->M Bool} (h:FnM P R vf p) (s:Sup R' R):FnM P R' vf p:=by
  obtain ⟨L,rfl⟩:=s; exact h.app L
theorem YieldC.sub {α T:Type} {P:Program} {R R':List Chunk} {AR:Cells->List Value->α->Prop} {Y:T->List Chunk->Prop} {yv:Value} {ym:T->α->M (Bool × T)} (h:YieldC P R AR Y yv ym) (s:Sup R' R):YieldC P R' AR Y yv ym:=by
  obtain ⟨L,rfl⟩:=s; exact h.app L
theorem permA {c:Chunk} {A L T R:List Chunk}:((A++T)++(c :: L++R)).Perm ((c :: A)++(L++(T++R))):=by
  have h1:((A++T)++(c :: L++R)).Perm (c :: ((A++T)++(L++R))):=by
    rw [List.cons_append];exact List.perm_middle
  refine h1.trans ?_;show List.Perm _ (c :: (A++(L++(T++R))));refine List.Perm.cons c ?_;rw [List.append_assoc];refine List.Perm.append_left A ?_;rw [← List.append_assoc,← List.append_assoc];exact List.Perm.append_right R List.perm_append_comm
theorem exAll {L:List Chunk} (h:L.all (·.ex)=true):∀ c∈L,c.ex=true:=fun c hc=>List.all_eq_true.1 h c hc
theorem RecOf.nb {r:Loop} {ps:Array Tmp} {assign body:Code} (h:RecOf r n σ ps assign body):r.state ≠ .busy:=by rw [h.st]; simp
theorem St.bundleB {A:List Chunk} (hx:A.all (·.ex)=true) (H:St w0 w (A++T) R):St w0 w (cAll A :: T) R:=H.bundle (exAll hx)
/-- One round. -/
theorem YieldC.mk {l:Nat} {r0:Loop} {ps:Array Tmp} {assign body:Code} (hr:RecOf r0 n σ ps assign body) {AR:Cells->List Value->α->Prop} (Ys:S->List Chunk->Prop) (Yx:X->List Chunk->Prop) (J:X->Code) (bd:S->α->M (S ⊕ X))
    (hexS:∀ s Ls,Ys s Ls->Ls.all (·.ex)=true) (hexX:∀ x Ls,Yx x Ls->Ls.all (·.ex)=true) (hps:(ps.toList.all fun p=>Nat.blt p n)=true) (hAR:∀ C vs x,AR C vs x->vs.length=ps.size)
    (hab:∀ C vs x w,AR C vs x->WR (some l) P n assign (fun e σ1 w1=>e = .normal/\w1=w ∧
      ∀ (w:World) (R':List Chunk),Sup R' R->∀ (Ls:List Chunk) (s:S) (r:S ⊕ X),Ys s Ls->(bd s x).Ends r->St w w (Ls++T) R'->WR (some l) P n body (rdQ Ys Yx J w T R' r) σ1 w) (setP σ ps.toList vs) w) :
    YieldC P (T++R) AR (yJ l r0 Ys Yx J) (.func (.yield l) #[] #[]) (M.yl bd):=by
  refine ⟨l,rfl,fun w L Ls t C vs x b t' hS hY _ hA hp=>?_⟩;cases t with
  | inr x=>exact (M.e_fail hp).elim
  | inl s =>
    obtain ⟨Ls',rfl,hYs⟩:=hY;have hU:=hS.unbundle;have hl:w.heap[l]?=some (.loop r0):=hU.get (c:=cObj l (.loop r0)) (by simp);obtain ⟨r,hr1,hp⟩:=M.e_bind hp;have hlen:=hAR C vs x hA;refine ⟨_,_,_,_,run_yield hl (by rw [hr.ps]; simpa using hlen),roundIn_of_wpIn trivial ?_⟩;have hps':∀ p∈(ps.toList.zip vs),p.1<n:=by
      rintro ⟨p,v⟩ hp;have:=List.all_eq_true.1 hps p (List.of_mem_zip hp).1;exact of_eq_true (Nat.blt_eq ▸ eq_true this)
    have hset:=setP_get (ps.toList.zip vs) hr.sz hr.get hps';have hzip:((r0.params.zip vs.toArray).foldl (fun (tmps:Array Value) (x:Tmp × Value)=>match x with | (t,a)=>tmps.setIfInBounds t a) r0.tmps)=(ps.toList.zip vs).foldl (fun (tmps:Array Value) x=>tmps.setIfInBounds x.1 x.2) r0.tmps:=by
      rw [hr.ps,← Array.foldl_toList,Array.toList_zip]
    have h1:=hab C vs x w hA [] { tmps:=(r0.params.zip vs.toArray).foldl (fun (tmps:Array Value) (x:Tmp × Value)=>match x with | (t,a)=>tmps.setIfInBounds t a) r0.tmps,defers:=[] } ⟨rfl,by rw [hzip]; exact hset.1,fun k=>by rw [hzip]; exact hset.2 k⟩;rw [hr.asg,hr.body];refine wpIn_mono (F:=FR (some l)) h1 ?_;rintro e a1 w1 ⟨σ1,hs1,rfl,rfl,hb⟩;have hperm:Sep w1 (cObj l (.loop r0) :: (Ls'++(L++(T++R)))):=hU;have H0:St w1 w1 (cObj l (.loop r0) :: (Ls'++(L++(T++R)))) []:=⟨Keep.refl _,by rw [List.append_nil]; exact hperm⟩
    have H1:=H0.putObj (o':=.loop { r0 with state:=.busy }) (by simp) (by simp);refine ⟨_,run_beginRound hl hr.st,?_⟩;have hS2:=H1.sep;rw [List.append_nil] at hS2;have H2:St (w1.putObj l (.loop { r0 with state:=.busy })) (w1.putObj l (.loop { r0 with state:=.busy })) (Ls'++T) (cObj l (.loop { r0 with state:=.busy }) :: L++R):=⟨Keep.refl _,hS2.perm permA⟩
    have h3:=hb _ (cObj l (.loop { r0 with state:=.busy }) :: L++R) ⟨_,rfl⟩ Ls' s r hYs hr1 H2 [] a1 hs1;refine wpIn_mono h3 ?_;rintro e a2 w3 ⟨σ2,hs2,hq⟩;have fin:∀ (jump:Option Code) (Ls'':List Chunk) (t'':S ⊕ X) (r1:Loop),(∀ c∈Ls'',c.ex=true)->St (w1.putObj l (.loop { r0 with state:=.busy })) w3 (Ls''++T) (cObj l (.loop { r0 with state:=.busy }) :: L++R) →
        r1={ r0 with state:=if jump.isNone then .ready else .done,pending:=jump }->yJ l r0 Ys Yx J t' (cObj l (.loop r1) :: Ls'')->b=jump.isNone →
        ∃ v w',(Instr.endRound l jump).run P w3 = .ok v w'/\(Ending.returned v = .returned (B b)/\∃ Ls',yJ l r0 Ys Yx J t' Ls'/\St w1 w' [cAll Ls'] (L++(T++R))):=by
      rintro jump Ls'' t'' r1 hx H' rfl hy rfl;have hS3:Sep w3 (cObj l (.loop { r0 with state:=.busy }) :: (Ls''++(L++(T++R)))):=H'.sep.perm permA.symm;have H4:St w3 w3 (cObj l (.loop { r0 with state:=.busy }) :: (Ls''++(L++(T++R)))) []:=⟨Keep.refl _,by rw [List.append_nil]; exact hS3⟩
      have hl3:=H4.get (k:=0) rfl;have H5:=H4.putObj (o':=.loop { r0 with state:=if jump.isNone then .ready else .done,pending:=jump }) (by simp) (by simp);refine ⟨_,_,run_endRound jump hl3,rfl,_,hy,(H1.kp.trans H'.kp).trans H5.kp,?_⟩;have h5:=H5.sep;rw [List.append_nil] at h5;refine Sep.bundle (A:=cObj l (.loop { r0 with state:=if jump.isNone then .ready else .done,pending:=jump }) :: Ls'') (fun c hc=>?_) h5;rcases List.mem_cons.1 hc with rfl | hc
      · rfl
      · exact hx c hc
    have hready:({ r0 with state:=.ready,pending:=none }:Loop)=r0:=by rw [← hr.st,← hr.pd]
    have two:∀ (x:X) (_:List Chunk),r = .inr x->t' = .inr x/\b=false:=by
      rintro x _ rfl;have:=M.e_pure hp;cases this;exact ⟨rfl,rfl⟩
    cases e with
    | normal =>
      obtain ⟨s',Ls'',rfl,hy,H'⟩:=hq;have:=M.e_pure hp;cases this;exact fin none Ls'' (.inl s') r0 (exAll (hexS _ _ hy)) H' hready.symm ⟨Ls'',rfl,hy⟩ rfl
    | ret =>
      obtain ⟨x,Ls'',hr',hy,H',hj⟩:=hq;obtain ⟨rfl,rfl⟩:=two x Ls'' hr';refine fin (some .ret) Ls'' (.inr x) _ (exAll (hexX _ _ hy)) H' rfl ?_ rfl;refine ⟨Ls'',?_,hy⟩;rw [show J x = .ret from (Option.some.inj hj).symm];rfl
    | exit id =>
      obtain ⟨x,Ls'',hr',hy,H',hj⟩:=hq;obtain ⟨rfl,rfl⟩:=two x Ls'' hr';refine fin (some (.exit id)) Ls'' (.inr x) _ (exAll (hexX _ _ hy)) H' rfl ?_ rfl;refine ⟨Ls'',?_,hy⟩;rw [show J x = .exit id from (Option.some.inj hj).symm];rfl
    | goto id=>obtain ⟨x,Ls'',_,_,_,hj⟩:=hq; cases hj
    | panic c=>obtain ⟨x,Ls'',_,_,_,hj⟩:=hq; cases hj
    | outgrown=>obtain ⟨x,Ls'',_,_,_,hj⟩:=hq; cases hj
end
theorem M.le_yl {S X α:Type} {n:Nat} {bd bd':S->α->M (S ⊕ X)} (h:∀ s a,M.LeN n (bd s a) (bd' s a)) (t:S ⊕ X) (a:α):M.LeN n (M.yl bd t a) (M.yl bd' t a):=by
  cases t with
  | inl s=>exact M.le_bind (h s a) fun _=>M.le_same _ _
  | inr x=>exact M.le_same _ _
/-- What an iterator hands over. -/
def arI:Cells->List Value->Int->Prop:=fun _ vs x=>vs=[I x]
def arII:Cells->List Value->Int × Int->Prop:=fun _ vs x=>vs=[I x.1,I x.2]
theorem arI_len {k:Nat} (hk:k=1):∀ C vs x,arI C vs x->vs.length=k:=fun _ _ _ h=>by rw [show _=_ from h,hk]; rfl
theorem arII_len {k:Nat} (hk:k=2):∀ C vs x,arII C vs x->vs.length=k:=fun _ _ _ h=>by rw [show _=_ from h,hk]; rfl
section
variable {P:Program} {all rest:List Oper} {Q:Post} {σ:Env} {w0 w:World} {L R:List Chunk} {d:Nat} {ty:TypeId} {pos:String} {af:Array Edge}
end
end Go.Nm
namespace Go.Nm
open Go
/-- The cells of a row of plain data. -/
def encF {α:Type} [Flat α] (l:List α):List Value:=(l.map Flat.enc).flatten
section
variable {α:Type} [Flat α]
theorem encF_len (l:List α):(encF l).length=l.length*Elt.sz α:=by
  induction l with
  | nil=>simp [encF]
  | cons a l ih =>
    unfold encF at *;rw [List.map_cons,List.flatten_cons,List.length_append,ih,Flat.enc_len,List.length_cons,Nat.succ_mul,Nat.add_comm]
theorem encF_at:∀ (l:List α) (i:Nat) (d:α),i<l.length->((encF l).drop (i*Elt.sz α)).take (Elt.sz α)=Flat.enc (l.getD i d)
  | [],_,_,h=>by simp at h
  | a :: l,0,d,_=>by
    rw [Nat.zero_mul,List.drop_zero];show (Flat.enc a++encF l).take _=_;rw [List.take_append_of_le_length (by rw [Flat.enc_len]; exact Nat.le_refl _),List.take_of_length_le (by rw [Flat.enc_len]; exact Nat.le_refl _)];rfl
  | a :: l,i+1,d,h=>by
    have ih:=encF_at l i d (by simpa using h);show ((Flat.enc a++encF l).drop _).take _=_;rw [List.drop_append,List.drop_of_length_le (by rw [Flat.enc_len,Nat.succ_mul]; omega),List.nil_append,Flat.enc_len,Nat.succ_mul,Nat.add_sub_cancel,ih];rfl
theorem encF_set (l:List α) {i:Nat} (d:α) (h:i<l.length) {f n:Nat} {vs:List Value} {a':α} (hn:vs.length=n) (hf:f+n<=Elt.sz α) (he:(Flat.enc (l.getD i d)).take f++vs++(Flat.enc (l.getD i d)).drop (f+n)=Flat.enc a') :
    (encF l).take (i*Elt.sz α+f)++vs++(encF l).drop (i*Elt.sz α+f+n)=encF (l.set i a'):=by
  subst hn;have h0:(l.map (Flat.enc (α:=α)))[i]?=some (Flat.enc (l.getD i d)):=by
    rw [List.getElem?_map,getD_some l h d]; rfl
  have:=flatten_set (l.map Flat.enc) (Elt.sz α) (fun c hc=>by obtain ⟨x,_,rfl⟩:=List.mem_map.1 hc; exact Flat.enc_len x) i f _ vs h0 hf;rw [he] at this;unfold encF;rw [← this,← List.map_set]
theorem encF_one (l:List α):(encF l).all (·.oneCell')=true:=by
  rw [List.all_eq_true];intro v hv;obtain ⟨c,hc,hv⟩:=List.mem_flatten.1 hv;obtain ⟨x,_,rfl⟩:=List.mem_map.1 hc;exact Flat.one' x v hv
end
theorem seg_split {segs:List (List Value)} {k:Nat} {sg:List Value} (hk:segs[k]?=some sg):segs.flatten=(segs.take k).flatten++(sg++(segs.drop (k+1)).flatten):=by
  induction segs generalizing k with
  | nil=>simp at hk
  | cons c segs ih =>
    cases k with
    | zero =>
      simp only [List.getElem?_cons_zero,Option.some.injEq] at hk;subst hk;simp
    | succ k =>
      simp only [List.getElem?_cons_succ] at hk;simp only [List.flatten_cons,List.take_succ_cons,List.drop_succ_cons,List.append_assoc];rw [← ih hk]
theorem seg_set {segs:List (List Value)} {k:Nat} {sg sg':List Value} (hk:segs[k]?=some sg):(segs.set k sg').flatten=(segs.take k).flatten++(sg'++(segs.drop (k+1)).flatten):=by
  induction segs generalizing k with
  | nil=>simp at hk
  | cons c segs ih =>
    cases k with
    | zero=>simp
    | succ k =>
      simp only [List.getElem?_cons_succ] at hk;simp only [List.set_cons_succ,List.flatten_cons,List.take_succ_cons,List.drop_succ_cons,List.append_assoc];rw [← ih hk]
/-- Where a row begins. -/
theorem sgo1 {a:List Value} {rest:List (List Value)} {off:Nat} (e:a.length=off):((a :: rest).take 1).flatten.length=off:=by simp [e]
theorem sgo2 {α:Type} [Flat α] {a:List Value} {l:List α} {rest:List (List Value)} {n off:Nat} (h:l.length=n) (e:a.length+n*Elt.sz α=off):((a :: encF l :: rest).take 2).flatten.length=off:=by
  simp [encF_len,h,e]
section
variable {P:Program} {w w0:World} {L L' R:List Chunk} {α:Type} [Flat α]
theorem ldS {t:TypeId} {b k off i f at_ sz:Nat} {segs:List (List Value)} {l:List α} {et:TypeId} {fr:Nat × Nat} {v:Value} (d:α) (hsc:isSc (P.underlying t)=true) (h:w.heap[b]?=some (.cells segs.flatten.toArray et fr)) (hk:segs[k]?=some (encF l))
    (ho:(segs.take k).flatten.length=off) (hz:Elt.sz α=sz) (hf:f<sz) (hi:i<l.length) (ha:at_=off+i*sz+f) (hv:((Flat.enc (l.getD i d)).drop f).take 1=[v]) :
    (Instr.loadAt t (.pointer (some ⟨b,at_,none⟩))).run P w = .ok v w:=by
  subst ha hz;refine ldb_sc hsc h ?_;have h1:=encF_at l i d hi;have h2:(i+1)*Elt.sz α<=l.length*Elt.sz α:=Nat.mul_le_mul_right _ hi;rw [Nat.succ_mul] at h2;have h3:=encF_len l;rw [seg_split hk,List.drop_append,List.drop_of_length_le (by omega),List.nil_append,ho,show off+i*Elt.sz α+f-off=i*Elt.sz α+f by omega,List.drop_append_of_le_length (by omega),List.take_append_of_le_length (by rw [List.length_drop]; omega)];rw [← h1] at hv;rw [List.drop_take,List.drop_drop,List.take_take] at hv;rw [show min 1 (Elt.sz α-f)=1 by omega] at hv;exact hv
theorem run_indexS {t e n m:Nat} (hu:P.underlying t=some (.array n e)) (hs:(P.info? e).map (·.size)=some m) {b o:Nat} {kd:IntKind} {i:Int} (h0:0<=i) (h1:i<n) :
    (Instr.indexAt t (.pointer (some ⟨b,o,none⟩)) (.int kd i)).run P w = .ok (.pointer (some ⟨b,o+i.toNat*m,none⟩)) w:=by
  simp [Instr.indexAt,asIntOf,run_underlying hu,Instr.sureAddr,h0,h1,run_sizeOf hs,add_lit]
variable {all rest:List Oper} {Q:Post} {σ:Env} {d:Nat} {ty:TypeId} {pos:String} {af:Array Edge}
theorem t_stS {dst:Option Nat} {t:TypeId} {x y:Operand} {kc b k off i f at_ n sz:Nat} {segs segs':List (List Value)} {l l':List α} {vs:List Value} {v:Value} {et:TypeId} (H:St w0 w L R) (hc:L[kc]?=some (cBlk b segs.flatten et))
    (hx:ev σ x = .pointer (some ⟨b,at_,none⟩)) (hy:ev σ y=v) (hs:(P.info? t).map (·.size)=some n) (hv:v.cells=vs.toArray) (hn:vs.length=n) (h1:vs.all (·.oneCell')=true) (hk:segs[k]?=some (encF l)) (ho:(segs.take k).flatten.length=off)
    (hz:Elt.sz α=sz) (hf:Nat.ble (f+n) sz=true) (hi:i<l.length) (ha:at_=off+i*sz+f) (d:α) (a':α) (he:(Flat.enc (l.getD i d)).take f++vs++(Flat.enc (l.getD i d)).drop (f+n)=Flat.enc a') (hl':l.set i a'=l') (hs':segs.set k (encF l')=segs') (hL:L.set kc (cBlk b segs'.flatten et)=L')
    (kk:∀ w',St w0 w' L' R->SL P all Q rest (updo σ dst undef) w'):SL P all Q (⟨dst,.store t x y,ty,pos,af,none⟩ :: rest) σ w:=by
  subst ha hl' hs' hz;have hf':=Nat.le_of_ble_eq_true hf;have h2:(i+1)*Elt.sz α<=l.length*Elt.sz α:=Nat.mul_le_mul_right _ hi;rw [Nat.succ_mul] at h2;have h3:=encF_len l;have h4:=encF_set l d hi hn hf' he;refine t_st (cs':=(segs.set k (encF (l.set i a'))).flatten) H hc hx hy hs hv hn ?_ h1 ?_ hL kk
  · refine Nat.ble_eq_true_of_le ?_;rw [seg_split hk,List.length_append,List.length_append,ho];omega
  · rw [seg_set hk,seg_split hk,← h4];rw [List.take_append,List.take_of_length_le (by omega),ho,show off+i*Elt.sz α+f-off=i*Elt.sz α+f by omega,List.take_append_of_le_length (by omega)];rw [List.drop_append,List.drop_of_length_le (by omega),List.nil_append,ho,show off+i*Elt.sz α+f+n-off=i*Elt.sz α+f+n by omega,List.drop_append_of_le_length (by omega)];simp only [List.append_assoc]
end
/-! ### The first cells of a block, told by parts that may change beside them -/
def Fld (R:List Chunk) (b:Nat) (pre:List Value):Prop:=∀ w,Sep w R->∀ i v,pre[i]?=some v->w.cell? ⟨b,i,none⟩=some v
section
variable {P:Program} {w w0:World} {L L' R R':List Chunk} {b:Nat} {pre cs:List Value} {t:TypeId}
theorem fld_blk (h:w.heap[b]?=some (.cells cs.toArray t (0,0))) {rest:List Value} (e:cs=pre++rest) (i:Nat) (v:Value) (hi:pre[i]?=some v):w.cell? ⟨b,i,none⟩=some v:=by
  subst e;have hl:i<pre.length:=by
    rcases Nat.lt_or_ge i pre.length with h | h
    · exact h
    · rw [List.getElem?_eq_none h] at hi; cases hi
  rw [cell_of_row w b i _ t (0,0) h,List.getElem?_toArray,List.getElem?_append_left hl];exact hi
theorem Fld.of (h:Has R (cBlk b cs t)) {rest:List Value} (e:cs=pre++rest):Fld R b pre:=fun w hs=>fld_blk (h.of w hs) e
theorem Fld.here {k:Nat} (hk:L[k]?=some (cBlk b cs t)) {rest:List Value} (e:cs=pre++rest):Fld (L++R) b pre:=Fld.of (Has.here hk) e
theorem Fld.sub (h:Fld R b pre) (s:Sup R' R):Fld R' b pre:=fun w hs=>by
  obtain ⟨L,rfl⟩:=s;exact h w hs.right
theorem Fld.app (h:Fld R b pre) (L:List Chunk):Fld (L++R) b pre:=fun w hs=>h w hs.right
theorem Fld.cons (h:Fld R b pre) (c:Chunk):Fld (c :: R) b pre:=h.app [c]
theorem Fld.at (h:Fld R b pre) (H:St w0 w L R) (i:Nat) (v:Value) (hi:pre[i]?=some v):w.cell? ⟨b,i,none⟩=some v:=h w H.tl i v hi
theorem Fld.get (h:Fld (L++R) b pre) (H:St w0 w L R) (i:Nat) (v:Value) (hi:pre[i]?=some v):w.cell? ⟨b,i,none⟩=some v:=h w H.sep i v hi
theorem Fld.up {c:Chunk} (h:Fld (c :: R) b pre) {k:Nat} (hk:L[k]?=some c):Fld (L++R) b pre:=fun w hs=>by
  refine h w (hs.sub ?_);obtain ⟨hlt,he⟩:=List.getElem?_eq_some_iff.1 hk;have h1:[c].Sublist L:=by
    rw [List.singleton_sublist,← he];exact List.getElem_mem hlt
  exact h1.append (List.Sublist.refl R)
theorem Fld.all {A:List Chunk} (h:Fld (A++R) b pre):Fld (cAll A :: R) b pre:=fun w hs=>h w hs.unbundle
theorem fld_sc {i:Nat} {v:Value} (hsc:isSc (P.underlying t)=true) (h:∀ i v,pre[i]?=some v->w.cell? ⟨b,i,none⟩=some v) (hv:pre[i]?=some v) :
    (Instr.loadAt t (.pointer (some ⟨b,i,none⟩))).run P w = .ok v w :=
  ld_sc hsc ⟨b,i,rfl,fun j y hj=>by
    cases j with
    | zero =>
      simp only [List.getElem?_cons_zero,Option.some.injEq] at hj;subst hj;exact h i v hv
    | succ j=>simp at hj⟩
end
section
variable {P:Program} {w:World} {σ:Env} {d:Nat} {ty:TypeId} {pos:String} {af:Array Edge} {g:Option (Nat × Bool)}
/-- A field of a struct's value. -/
theorem x_fd {s ft:TypeId} {x:Operand} {k off:Nat} {cs:List Value} {v:Value}
    (h:(P.underlying s).bind (fun d=>match d with | .struct fs=>(fs[k]?).map (fun f=>(f.offset,f.type)) | _=>none)=some (off,ft)) (hsc:isSc (P.underlying ft)=true) (hx:ev σ x = .agg cs.toArray) (hv:cs[off]?=some v) :
    (execOp (ev σ) ⟨some d,.field s x k,ty,pos,af,g⟩).run P w = .ok (.value v) w:=by
  obtain ⟨dd,hu,hd⟩:=Option.bind_eq_some_iff.1 h;cases dd with
  | struct fs =>
    obtain ⟨f,hf,he⟩:=Option.map_eq_some_iff.1 hd;cases he;simp [execOp,hx,Instr.field,run_underlying hu,hf,part,run_isAgg_sc hsc,hv,asAgg]
  | _=>cases hd
end
section
variable {α T:Type} {P:Program} {all rest:List Oper} {Q:Post} {σ:Env} {w0 w:World} {L R:List Chunk} {d:Nat} {ty:TypeId} {pos:String} {af:Array Edge} {g:Option (Nat × Bool)}
/-- What an iterator is handed is asked under a guard. -/
theorem t_gyield {AR:Cells->List Value->α->Prop} {Y:T->List Chunk->Prop} {x:Operand} {ops:Array Operand} {ts:Array TypeId} {yv:Value} {ym:T->α->M (Bool × T)} {C:Cells} {b:Bool} {t t':T} {Ls:List Chunk} {j:Nat} {want:Bool} (c:Bool) (hy:(yieldedE all σ j==some want)=c)
    (H:St w0 w (cAll Ls :: L) R) (hf:YieldC P R AR Y yv ym) (hY:Y t Ls) (hx:c=true->ev σ x=yv) (vs:List Value) (ha:c=true->ops.toList.map (ev σ)=vs) (a:α) (hC:Reads (L++R) C) (hA:AR C vs a) (hp:(M.opt c (ym t a) (false,t)).Ends (b,t'))
    (k:∀ Ls' w',Y t' Ls'->St w0 w' (cAll Ls' :: L) R->SL P all Q rest (upd σ d (gd c (B b))) w'):SL P all Q (⟨some d,.call ⟨.value x,ops,ts⟩,ty,pos,af,some (j,want)⟩ :: rest) σ w:=by
  refine g_split rfl c hy (fun e=>?_) (fun e=>?_)
  · subst e;refine t_yield H hf hY (hx rfl) vs (ha rfl) a hC hA hp fun Ls' w' hY' H'=>?_;have:=k Ls' w' hY' H'
    rwa [gd_of rfl] at this
  · subst e;have:=M.e_pure hp;cases this;have:=k Ls w hY H
    rwa [gd_no rfl] at this
theorem x_ncE {x:Operand} {p:Value} (h:ev σ x=p) (hp:∃ b o,p = .pointer (some ⟨b,o,none⟩)):(execOp (ev σ) ⟨some d,.nilCheck x,ty,pos,af,g⟩).run P w = .ok (.value p) w:=by
  obtain ⟨b,o,rfl⟩:=hp;exact x_nc h
end
section
variable {P:Program} {n:Nat} {σ:Env} {w0 w:World} {L R T:List Chunk} {Ds:List Nat} {S X α:Type}
/-- One round, whose loop's variables may lie in blocks of their own. -/
theorem YieldC.mk2 {l:Nat} {r0:Loop} {ps:Array Tmp} {assign body:Code} (hr:RecOf r0 n σ ps assign body) {AR:Cells->List Value->α->Prop} (Ys:S->List Chunk->Prop) (Yx:X->List Chunk->Prop) (J:X->Code) (bd:S->α->M (S ⊕ X))
    (hexS:∀ s Ls,Ys s Ls->Ls.all (·.ex)=true) (hexX:∀ x Ls,Yx x Ls->Ls.all (·.ex)=true) (hps:(ps.toList.all fun p=>Nat.blt p n)=true) (hAR:∀ C vs x,AR C vs x->vs.length=ps.size)
    (hab:∀ C vs x,AR C vs x->∀ (w:World) (R':List Chunk),Sup R' R->∀ (Ls:List Chunk) (s:S) (r:S ⊕ X),Ys s Ls->(bd s x).Ends r->St w w (Ls++T) R'->WR (some l) P n assign (fun e σ1 w1=>e = .normal/\∃ N:List Chunk,St w w1 (N++(Ls++T)) R' ∧
      ∀ (w:World) (R':List Chunk),Sup R' R->St w w (N++(Ls++T)) R'->WR (some l) P n body (rdQ Ys Yx J w T R' r) σ1 w) (setP σ ps.toList vs) w) :
    YieldC P (T++R) AR (yJ l r0 Ys Yx J) (.func (.yield l) #[] #[]) (M.yl bd):=by
  refine ⟨l,rfl,fun w L Ls t C vs x b t' hS hY _ hA hp=>?_⟩;cases t with
  | inr x=>exact (M.e_fail hp).elim
  | inl s =>
    obtain ⟨Ls',rfl,hYs⟩:=hY;have hU:=hS.unbundle;have hl:w.heap[l]?=some (.loop r0):=hU.get (c:=cObj l (.loop r0)) (by simp);obtain ⟨r,hr1,hp⟩:=M.e_bind hp;have hlen:=hAR C vs x hA;refine ⟨_,_,_,_,run_yield hl (by rw [hr.ps]; simpa using hlen),roundIn_of_wpIn trivial ?_⟩;have hps':∀ p∈(ps.toList.zip vs),p.1<n:=by
      rintro ⟨p,v⟩ hp;have:=List.all_eq_true.1 hps p (List.of_mem_zip hp).1;exact of_eq_true (Nat.blt_eq ▸ eq_true this)
    have hset:=setP_get (ps.toList.zip vs) hr.sz hr.get hps';have hzip:((r0.params.zip vs.toArray).foldl (fun (tmps:Array Value) (x:Tmp × Value)=>match x with | (t,a)=>tmps.setIfInBounds t a) r0.tmps)=(ps.toList.zip vs).foldl (fun (tmps:Array Value) x=>tmps.setIfInBounds x.1 x.2) r0.tmps:=by
      rw [hr.ps,← Array.foldl_toList,Array.toList_zip]
    have hperm0:Sep w (Ls'++T++(cObj l (.loop r0) :: L++R)):=hU.perm permA;have H00:St w w (Ls'++T) (cObj l (.loop r0) :: L++R):=⟨Keep.refl _,hperm0⟩
    have h1:=hab C vs x hA w (cObj l (.loop r0) :: L++R) ⟨_,rfl⟩ Ls' s r hYs hr1 H00 [] { tmps:=(r0.params.zip vs.toArray).foldl (fun (tmps:Array Value) (x:Tmp × Value)=>match x with | (t,a)=>tmps.setIfInBounds t a) r0.tmps,defers:=[] } ⟨rfl,by rw [hzip]; exact hset.1,fun k=>by rw [hzip]; exact hset.2 k⟩;rw [hr.asg,hr.body];refine wpIn_mono (F:=FR (some l)) h1 ?_;rintro e a1 w1 ⟨σ1,hs1,rfl,N,HN,hb⟩;have hl1:w1.heap[l]?=some (.loop r0):=HN.sep.get (c:=cObj l (.loop r0)) (by simp);have permN:((N++(Ls'++T))++(cObj l (.loop r0) :: L++R)).Perm (cObj l (.loop r0) :: (N++(Ls'++T)++(L++R))):=by
      rw [List.cons_append]; exact List.perm_middle
    have H0:St w w1 (cObj l (.loop r0) :: (N++(Ls'++T)++(L++R))) []:=⟨HN.kp,by rw [List.append_nil]; exact HN.sep.perm permN.symm⟩
    have H1:=H0.putObj (o':=.loop { r0 with state:=.busy }) (by simp) (by simp);refine ⟨_,run_beginRound hl1 hr.st,?_⟩;have hS2:=H1.sep;rw [List.append_nil] at hS2;have H2:St (w1.putObj l (.loop { r0 with state:=.busy })) (w1.putObj l (.loop { r0 with state:=.busy })) (N++(Ls'++T)) (cObj l (.loop { r0 with state:=.busy }) :: L++R):=⟨Keep.refl _,hS2.perm (by rw [List.cons_append]; exact List.perm_middle)⟩
    have h3:=hb _ (cObj l (.loop { r0 with state:=.busy }) :: L++R) ⟨_,rfl⟩ H2 [] a1 hs1;refine wpIn_mono h3 ?_;rintro e a2 w3 ⟨σ2,hs2,hq⟩;have fin:∀ (jump:Option Code) (Ls'':List Chunk) (t'':S ⊕ X) (r1:Loop),(∀ c∈Ls'',c.ex=true)->St (w1.putObj l (.loop { r0 with state:=.busy })) w3 (Ls''++T) (cObj l (.loop { r0 with state:=.busy }) :: L++R) →
        r1={ r0 with state:=if jump.isNone then .ready else .done,pending:=jump }->yJ l r0 Ys Yx J t' (cObj l (.loop r1) :: Ls'')->b=jump.isNone →
        ∃ v w',(Instr.endRound l jump).run P w3 = .ok v w'/\(Ending.returned v = .returned (B b)/\∃ Ls',yJ l r0 Ys Yx J t' Ls'/\St w w' [cAll Ls'] (L++(T++R))):=by
      rintro jump Ls'' t'' r1 hx H' rfl hy rfl;have hS3:Sep w3 (cObj l (.loop { r0 with state:=.busy }) :: (Ls''++(L++(T++R)))):=H'.sep.perm permA.symm;have H4:St w3 w3 (cObj l (.loop { r0 with state:=.busy }) :: (Ls''++(L++(T++R)))) []:=⟨Keep.refl _,by rw [List.append_nil]; exact hS3⟩
      have hl3:=H4.get (k:=0) rfl;have H5:=H4.putObj (o':=.loop { r0 with state:=if jump.isNone then .ready else .done,pending:=jump }) (by simp) (by simp);refine ⟨_,_,run_endRound jump hl3,rfl,_,hy,(H1.kp.trans H'.kp).trans H5.kp,?_⟩;have h5:=H5.sep;rw [List.append_nil] at h5;refine Sep.bundle (A:=cObj l (.loop { r0 with state:=if jump.isNone then .ready else .done,pending:=jump }) :: Ls'') (fun c hc=>?_) h5;rcases List.mem_cons.1 hc with rfl | hc
      · rfl
      · exact hx c hc
    have hready:({ r0 with state:=.ready,pending:=none }:Loop)=r0:=by rw [← hr.st,← hr.pd]
    have two:∀ (x:X) (_:List Chunk),r = .inr x->t' = .inr x/\b=false:=by
      rintro x _ rfl;have:=M.e_pure hp;cases this;exact ⟨rfl,rfl⟩
    cases e with
    | normal =>
      obtain ⟨s',Ls'',rfl,hy,H'⟩:=hq;have:=M.e_pure hp;cases this;exact fin none Ls'' (.inl s') r0 (exAll (hexS _ _ hy)) H' hready.symm ⟨Ls'',rfl,hy⟩ rfl
    | ret =>
      obtain ⟨x,Ls'',hr',hy,H',hj⟩:=hq;obtain ⟨rfl,rfl⟩:=two x Ls'' hr';refine fin (some .ret) Ls'' (.inr x) _ (exAll (hexX _ _ hy)) H' rfl ?_ rfl;refine ⟨Ls'',?_,hy⟩;rw [show J x = .ret from (Option.some.inj hj).symm];rfl
    | exit id =>
      obtain ⟨x,Ls'',hr',hy,H',hj⟩:=hq;obtain ⟨rfl,rfl⟩:=two x Ls'' hr';refine fin (some (.exit id)) Ls'' (.inr x) _ (exAll (hexX _ _ hy)) H' rfl ?_ rfl;refine ⟨Ls'',?_,hy⟩;rw [show J x = .exit id from (Option.some.inj hj).symm];rfl
    | goto id=>obtain ⟨x,Ls'',_,_,_,hj⟩:=hq; cases hj
    | panic c=>obtain ⟨x,Ls'',_,_,_,hj⟩:=hq; cases hj
    | outgrown=>obtain ⟨x,Ls'',_,_,_,hj⟩:=hq; cases hj
end
end Go.Nm
namespace Go.Nm
open Go
structure Pk where
  day:Int
  stage:Int
deriving DecidableEq,Inhabited
instance:Flat Pk where
  rep _ cs x:=cs=[I x.day,I x.stage]
  sz:=2
  agg:=true
  sz_pos:=by decide
  len:=fun h=>by subst h; rfl
  mono:=fun _ h=>h
  one:=fun h v hv=>by subst h; simp at hv; rcases hv with rfl | rfl <;> rfl
  enc x:=[I x.day,I x.stage]
  rep_iff:=Iff.rfl
structure Yr where
  year:Int
  lo:Int
  hi:Int
deriving DecidableEq,Inhabited
instance:Flat Yr where
  rep _ cs x:=cs=[I x.year,I x.lo,I x.hi]
  sz:=3
  agg:=true
  sz_pos:=by decide
  len:=fun h=>by subst h; rfl
  mono:=fun _ h=>h
  one:=fun h v hv=>by subst h; simp at hv; rcases hv with rfl | rfl | rfl <;> rfl
  enc x:=[I x.year,I x.lo,I x.hi]
  rep_iff:=Iff.rfl
structure Old10 where
  src:Int
  dst:Int
  stage:Int
  passed:List Int
deriving DecidableEq,Inhabited
instance:Elt Old10 where
  rep C cs x:=∃ sv3,cs=[I x.src,I x.dst,I x.stage,sv3]/\Sl C sv3 x.passed
  sz:=4
  agg:=true
  sz_pos:=by decide
  len:=fun ⟨_,h,_⟩=>by subst h; rfl
  mono:=fun hle ⟨sv3,h,hs3⟩=>⟨sv3,h,hs3.mono hle⟩
  one:=fun ⟨sv3,h,hs3⟩ v hv=>by
    subst h; simp at hv;rcases hv with rfl | rfl | rfl | rfl
    · rfl
    · rfl
    · rfl
    · exact sl_one hs3
theorem Old10_rep {C:Cells} {cs:List Value} {x:Old10} (h:Elt.rep C cs x):∃ sv3,cs=[I x.src,I x.dst,I x.stage,sv3]/\Sl C sv3 x.passed:=h
theorem Old10_atA {C:Cells} {v:Value} {i:Int} {l:List Old10} (h:Sl C v l) (h0:0<=i) (h1:i<l.length):∃ sv3,At C (vat v 4 i.toNat) [I (l.getD i.toNat default).src,I (l.getD i.toNat default).dst,I (l.getD i.toNat default).stage,sv3]/\Sl C sv3 (l.getD i.toNat default).passed:=by
  obtain ⟨cs,ha,hr⟩:=h.atI h0 h1 default;obtain ⟨sv3,rfl,hs⟩:=Old10_rep hr;exact ⟨sv3,ha,hs⟩
theorem Old10_at0 {C:Cells} {v:Value} {i:Int} {l:List Old10} (h:Sl C v l) (h0:0<=i) (h1:i<l.length):At C (fat (vat v 4 i.toNat) 0) [I (l.getD i.toNat default).src]:=by
  obtain ⟨sv3,ha,hs3⟩:=Old10_atA h h0 h1;exact ha.fld 0 1
theorem Old10_at1 {C:Cells} {v:Value} {i:Int} {l:List Old10} (h:Sl C v l) (h0:0<=i) (h1:i<l.length):At C (fat (vat v 4 i.toNat) 1) [I (l.getD i.toNat default).dst]:=by
  obtain ⟨sv3,ha,hs3⟩:=Old10_atA h h0 h1;exact ha.fld 1 1
theorem Old10_at2 {C:Cells} {v:Value} {i:Int} {l:List Old10} (h:Sl C v l) (h0:0<=i) (h1:i<l.length):At C (fat (vat v 4 i.toNat) 2) [I (l.getD i.toNat default).stage]:=by
  obtain ⟨sv3,ha,hs3⟩:=Old10_atA h h0 h1;exact ha.fld 2 1
structure Span where
  lo:Int
  hi:Int
deriving DecidableEq,Inhabited
instance:Flat Span where
  rep _ cs x:=cs=[I x.lo,I x.hi]
  sz:=2
  agg:=true
  sz_pos:=by decide
  len:=fun h=>by subst h; rfl
  mono:=fun _ h=>h
  one:=fun h v hv=>by subst h; simp at hv; rcases hv with rfl | rfl <;> rfl
  enc x:=[I x.lo,I x.hi]
  rep_iff:=Iff.rfl
theorem Span_rep {C:Cells} {cs:List Value} {x:Span} (h:Elt.rep C cs x):cs=[I x.lo,I x.hi]:=h
theorem Span_arg {C:Cells} {v:Value} {x:Span} (h:Arg C v x):v = .agg #[I x.lo,I x.hi]:=by
  obtain ⟨cs,h1,h2⟩:=h;obtain rfl:=Span_rep h1;exact h2
structure Rto where
  num:Int
  den:Int
deriving DecidableEq,Inhabited
instance:Flat Rto where
  rep _ cs x:=cs=[I x.num,I x.den]
  sz:=2
  agg:=true
  sz_pos:=by decide
  len:=fun h=>by subst h; rfl
  mono:=fun _ h=>h
  one:=fun h v hv=>by subst h; simp at hv; rcases hv with rfl | rfl <;> rfl
  enc x:=[I x.num,I x.den]
  rep_iff:=Iff.rfl
structure FRow where
  stage:Int
  carry:Int
deriving DecidableEq,Inhabited
instance:Flat FRow where
  rep _ cs x:=cs=[I x.stage,I x.carry]
  sz:=2
  agg:=true
  sz_pos:=by decide
  len:=fun h=>by subst h; rfl
  mono:=fun _ h=>h
  one:=fun h v hv=>by subst h; simp at hv; rcases hv with rfl | rfl <;> rfl
  enc x:=[I x.stage,I x.carry]
  rep_iff:=Iff.rfl
structure Sect where
  place:Int
  rows:List FRow
deriving DecidableEq,Inhabited
instance:Elt Sect where
  rep C cs x:=∃ sv1,cs=[I x.place,sv1]/\Sl C sv1 x.rows
  sz:=2
  agg:=true
  sz_pos:=by decide
  len:=fun ⟨_,h,_⟩=>by subst h; rfl
  mono:=fun hle ⟨sv1,h,hs1⟩=>⟨sv1,h,hs1.mono hle⟩
  one:=fun ⟨sv1,h,hs1⟩ v hv=>by
    subst h; simp at hv;rcases hv with rfl | rfl
    · rfl
    · exact sl_one hs1
theorem Sect_rep {C:Cells} {cs:List Value} {x:Sect} (h:Elt.rep C cs x):∃ sv1,cs=[I x.place,sv1]/\Sl C sv1 x.rows:=h
theorem Sect_mk {C:Cells} {sv1:Value} {x:Sect} (h1:Sl C sv1 x.rows):Elt.rep C [I x.place,sv1] x:=⟨sv1,rfl,h1⟩
theorem Sect_arg {C:Cells} {v:Value} {x:Sect} (h:Arg C v x):∃ sv1,v = .agg #[I x.place,sv1]/\Sl C sv1 x.rows:=by
  obtain ⟨cs,h1,h2⟩:=h;obtain ⟨sv1,rfl,hs⟩:=Sect_rep h1;exact ⟨sv1,h2,hs⟩
theorem Sect_atA {C:Cells} {v:Value} {i:Int} {l:List Sect} (h:Sl C v l) (h0:0<=i) (h1:i<l.length):∃ sv1,At C (vat v 2 i.toNat) [I (l.getD i.toNat default).place,sv1]/\Sl C sv1 (l.getD i.toNat default).rows:=by
  obtain ⟨cs,ha,hr⟩:=h.atI h0 h1 default;obtain ⟨sv1,rfl,hs⟩:=Sect_rep hr;exact ⟨sv1,ha,hs⟩
theorem Sect_at0 {C:Cells} {v:Value} {i:Int} {l:List Sect} (h:Sl C v l) (h0:0<=i) (h1:i<l.length):At C (fat (vat v 2 i.toNat) 0) [I (l.getD i.toNat default).place]:=by
  obtain ⟨sv1,ha,hs1⟩:=Sect_atA h h0 h1;exact ha.fld 0 1
theorem Sect_at1 {C:Cells} {v:Value} {i:Int} {l:List Sect} (h:Sl C v l) (h0:0<=i) (h1:i<l.length):∃ u,At C (fat (vat v 2 i.toNat) 1) [u]/\Sl C u (l.getD i.toNat default).rows:=by
  obtain ⟨sv1,ha,hs1⟩:=Sect_atA h h0 h1;exact ⟨sv1,ha.fld 1 1,hs1⟩
structure Mrk where
  place:Int
  lo:Int
  hi:Int
deriving DecidableEq,Inhabited
instance:Flat Mrk where
  rep _ cs x:=cs=[I x.place,I x.lo,I x.hi]
  sz:=3
  agg:=true
  sz_pos:=by decide
  len:=fun h=>by subst h; rfl
  mono:=fun _ h=>h
  one:=fun h v hv=>by subst h; simp at hv; rcases hv with rfl | rfl | rfl <;> rfl
  enc x:=[I x.place,I x.lo,I x.hi]
  rep_iff:=Iff.rfl
theorem Mrk_rep {C:Cells} {cs:List Value} {x:Mrk} (h:Elt.rep C cs x):cs=[I x.place,I x.lo,I x.hi]:=h
theorem Mrk_arg {C:Cells} {v:Value} {x:Mrk} (h:Arg C v x):v = .agg #[I x.place,I x.lo,I x.hi]:=by
  obtain ⟨cs,h1,h2⟩:=h;obtain rfl:=Mrk_rep h1;exact h2
theorem Mrk_atA {C:Cells} {v:Value} {i:Int} {l:List Mrk} (h:Sl C v l) (h0:0<=i) (h1:i<l.length):At C (vat v 3 i.toNat) [I (l.getD i.toNat default).place,I (l.getD i.toNat default).lo,I (l.getD i.toNat default).hi]:=by
  obtain ⟨cs,ha,hr⟩:=h.atI h0 h1 default;obtain rfl:=Mrk_rep hr;exact ha
theorem Mrk_at1 {C:Cells} {v:Value} {i:Int} {l:List Mrk} (h:Sl C v l) (h0:0<=i) (h1:i<l.length):At C (fat (vat v 3 i.toNat) 1) [I (l.getD i.toNat default).lo]:=(Mrk_atA h h0 h1).fld 1 1
theorem Mrk_at2 {C:Cells} {v:Value} {i:Int} {l:List Mrk} (h:Sl C v l) (h0:0<=i) (h1:i<l.length):At C (fat (vat v 3 i.toNat) 2) [I (l.getD i.toNat default).hi]:=(Mrk_atA h h0 h1).fld 2 1
structure Rch where
  up:Int
  down:Int
  lo:Int
  hi:Int
  narrow:Bool
deriving DecidableEq,Inhabited
instance:Flat Rch where
  rep _ cs x:=cs=[I x.up,I x.down,I x.lo,I x.hi,B x.narrow]
  sz:=5
  agg:=true
  sz_pos:=by decide
  len:=fun h=>by subst h; rfl
  mono:=fun _ h=>h
  one:=fun h v hv=>by subst h; simp at hv; rcases hv with rfl | rfl | rfl | rfl | rfl <;> rfl
  enc x:=[I x.up,I x.down,I x.lo,I x.hi,B x.narrow]
  rep_iff:=Iff.rfl
theorem Rch_rep {C:Cells} {cs:List Value} {x:Rch} (h:Elt.rep C cs x):cs=[I x.up,I x.down,I x.lo,I x.hi,B x.narrow]:=h
theorem Rch_arg {C:Cells} {v:Value} {x:Rch} (h:Arg C v x):v = .agg #[I x.up,I x.down,I x.lo,I x.hi,B x.narrow]:=by
  obtain ⟨cs,h1,h2⟩:=h;obtain rfl:=Rch_rep h1;exact h2
structure Cas where
  up:Int
  down:Int
  roughup:Int
  roughdown:Int
deriving DecidableEq,Inhabited
instance:Flat Cas where
  rep _ cs x:=cs=[I x.up,I x.down,I x.roughup,I x.roughdown]
  sz:=4
  agg:=true
  sz_pos:=by decide
  len:=fun h=>by subst h; rfl
  mono:=fun _ h=>h
  one:=fun h v hv=>by subst h; simp at hv; rcases hv with rfl | rfl | rfl | rfl <;> rfl
  enc x:=[I x.up,I x.down,I x.roughup,I x.roughdown]
  rep_iff:=Iff.rfl
structure Spot where
  sec:Int
  stage:Int
deriving DecidableEq,Inhabited
instance:Flat Spot where
  rep _ cs x:=cs=[I x.sec,I x.stage]
  sz:=2
  agg:=true
  sz_pos:=by decide
  len:=fun h=>by subst h; rfl
  mono:=fun _ h=>h
  one:=fun h v hv=>by subst h; simp at hv; rcases hv with rfl | rfl <;> rfl
  enc x:=[I x.sec,I x.stage]
  rep_iff:=Iff.rfl
structure Gg where
  stage:Int
  lo:Int
  hi:Int
deriving DecidableEq,Inhabited
instance:Flat Gg where
  rep _ cs x:=cs=[I x.stage,I x.lo,I x.hi]
  sz:=3
  agg:=true
  sz_pos:=by decide
  len:=fun h=>by subst h; rfl
  mono:=fun _ h=>h
  one:=fun h v hv=>by subst h; simp at hv; rcases hv with rfl | rfl | rfl <;> rfl
  enc x:=[I x.stage,I x.lo,I x.hi]
  rep_iff:=Iff.rfl
theorem Gg_rep {C:Cells} {cs:List Value} {x:Gg} (h:Elt.rep C cs x):cs=[I x.stage,I x.lo,I x.hi]:=h
theorem Gg_arg {C:Cells} {v:Value} {x:Gg} (h:Arg C v x):v = .agg #[I x.stage,I x.lo,I x.hi]:=by
  obtain ⟨cs,h1,h2⟩:=h;obtain rfl:=Gg_rep h1;exact h2
structure Pt where
  stage:Int
  flow:Int
deriving DecidableEq,Inhabited
instance:Flat Pt where
  rep _ cs x:=cs=[I x.stage,I x.flow]
  sz:=2
  agg:=true
  sz_pos:=by decide
  len:=fun h=>by subst h; rfl
  mono:=fun _ h=>h
  one:=fun h v hv=>by subst h; simp at hv; rcases hv with rfl | rfl <;> rfl
  enc x:=[I x.stage,I x.flow]
  rep_iff:=Iff.rfl
structure RLn where
  ast:Int
  afl:Int
  bst:Int
  bfl:Int
deriving DecidableEq,Inhabited
instance:Flat RLn where
  rep _ cs x:=cs=[I x.ast,I x.afl,I x.bst,I x.bfl]
  sz:=4
  agg:=true
  sz_pos:=by decide
  len:=fun h=>by subst h; rfl
  mono:=fun _ h=>h
  one:=fun h v hv=>by subst h; simp at hv; rcases hv with rfl | rfl | rfl | rfl <;> rfl
  enc x:=[I x.ast,I x.afl,I x.bst,I x.bfl]
  rep_iff:=Iff.rfl
theorem RLn_rep {C:Cells} {cs:List Value} {x:RLn} (h:Elt.rep C cs x):cs=[I x.ast,I x.afl,I x.bst,I x.bfl]:=h
theorem RLn_arg {C:Cells} {v:Value} {x:RLn} (h:Arg C v x):v = .agg #[I x.ast,I x.afl,I x.bst,I x.bfl]:=by
  obtain ⟨cs,h1,h2⟩:=h;obtain rfl:=RLn_rep h1;exact h2
def arRLn:Cells->List Value->RLn->Prop:=fun _ vs x=>vs=[.agg #[I x.ast,I x.afl,I x.bst,I x.bfl]]
theorem arRLn_len {k:Nat} (hk:k=1):∀ C vs x,arRLn C vs x->vs.length=k:=fun _ _ _ h=>by rw [show _=_ from h,hk]; rfl
structure Line where
  src:Int
  dst:Int
  day:Int
  rise:Int
  err:Int
deriving DecidableEq,Inhabited
instance:Flat Line where
  rep _ cs x:=cs=[I x.src,I x.dst,I x.day,I x.rise,I x.err]
  sz:=5
  agg:=true
  sz_pos:=by decide
  len:=fun h=>by subst h; rfl
  mono:=fun _ h=>h
  one:=fun h v hv=>by subst h; simp at hv; rcases hv with rfl | rfl | rfl | rfl | rfl <;> rfl
  enc x:=[I x.src,I x.dst,I x.day,I x.rise,I x.err]
  rep_iff:=Iff.rfl
theorem Line_rep {C:Cells} {cs:List Value} {x:Line} (h:Elt.rep C cs x):cs=[I x.src,I x.dst,I x.day,I x.rise,I x.err]:=h
theorem Line_arg {C:Cells} {v:Value} {x:Line} (h:Arg C v x):v = .agg #[I x.src,I x.dst,I x.day,I x.rise,I x.err]:=by
  obtain ⟨cs,h1,h2⟩:=h;obtain rfl:=Line_rep h1;exact h2
structure Leg where
  line:Int
  back:Bool
deriving DecidableEq,Inhabited
instance:Flat Leg where
  rep _ cs x:=cs=[I x.line,B x.back]
  sz:=2
  agg:=true
  sz_pos:=by decide
  len:=fun h=>by subst h; rfl
  mono:=fun _ h=>h
  one:=fun h v hv=>by subst h; simp at hv; rcases hv with rfl | rfl <;> rfl
  enc x:=[I x.line,B x.back]
  rep_iff:=Iff.rfl
def arLeg:Cells->List Value->Leg->Prop:=fun _ vs x=>vs=[.agg #[I x.line,B x.back]]
theorem arLeg_len {k:Nat} (hk:k=1):∀ C vs x,arLeg C vs x->vs.length=k:=fun _ _ _ h=>by rw [show _=_ from h,hk]; rfl
structure Vrt where
  at_:Int
  dlo:Int
  dhi:Int
  slo:Int
  shi:Int
deriving DecidableEq,Inhabited
instance:Flat Vrt where
  rep _ cs x:=cs=[I x.at_,I x.dlo,I x.dhi,I x.slo,I x.shi]
  sz:=5
  agg:=true
  sz_pos:=by decide
  len:=fun h=>by subst h; rfl
  mono:=fun _ h=>h
  one:=fun h v hv=>by subst h; simp at hv; rcases hv with rfl | rfl | rfl | rfl | rfl <;> rfl
  enc x:=[I x.at_,I x.dlo,I x.dhi,I x.slo,I x.shi]
  rep_iff:=Iff.rfl
theorem Vrt_rep {C:Cells} {cs:List Value} {x:Vrt} (h:Elt.rep C cs x):cs=[I x.at_,I x.dlo,I x.dhi,I x.slo,I x.shi]:=h
theorem Vrt_arg {C:Cells} {v:Value} {x:Vrt} (h:Arg C v x):v = .agg #[I x.at_,I x.dlo,I x.dhi,I x.slo,I x.shi]:=by
  obtain ⟨cs,h1,h2⟩:=h;obtain rfl:=Vrt_rep h1;exact h2
structure SMk where
  stage:Int
  flow:Int
deriving DecidableEq,Inhabited
instance:Flat SMk where
  rep _ cs x:=cs=[I x.stage,I x.flow]
  sz:=2
  agg:=true
  sz_pos:=by decide
  len:=fun h=>by subst h; rfl
  mono:=fun _ h=>h
  one:=fun h v hv=>by subst h; simp at hv; rcases hv with rfl | rfl <;> rfl
  enc x:=[I x.stage,I x.flow]
  rep_iff:=Iff.rfl
theorem SMk_rep {C:Cells} {cs:List Value} {x:SMk} (h:Elt.rep C cs x):cs=[I x.stage,I x.flow]:=h
theorem SMk_arg {C:Cells} {v:Value} {x:SMk} (h:Arg C v x):v = .agg #[I x.stage,I x.flow]:=by
  obtain ⟨cs,h1,h2⟩:=h;obtain rfl:=SMk_rep h1;exact h2
structure SGg where
  day:Int
  stage:Int
  lo:Int
  hi:Int
deriving DecidableEq,Inhabited
instance:Flat SGg where
  rep _ cs x:=cs=[I x.day,I x.stage,I x.lo,I x.hi]
  sz:=4
  agg:=true
  sz_pos:=by decide
  len:=fun h=>by subst h; rfl
  mono:=fun _ h=>h
  one:=fun h v hv=>by subst h; simp at hv; rcases hv with rfl | rfl | rfl | rfl <;> rfl
  enc x:=[I x.day,I x.stage,I x.lo,I x.hi]
  rep_iff:=Iff.rfl
theorem SGg_rep {C:Cells} {cs:List Value} {x:SGg} (h:Elt.rep C cs x):cs=[I x.day,I x.stage,I x.lo,I x.hi]:=h
theorem SGg_arg {C:Cells} {v:Value} {x:SGg} (h:Arg C v x):v = .agg #[I x.day,I x.stage,I x.lo,I x.hi]:=by
  obtain ⟨cs,h1,h2⟩:=h;obtain rfl:=SGg_rep h1;exact h2
/-- The end of a line, by the way along it. -/
def legEnd (b:Bool) (l:Line):Int:=bif b then l.dst else l.src
/-- An iterator hands over a vertical and a number. -/
def arVrtI:Cells->List Value->Vrt × Int->Prop:=fun _ vs x=>vs=[.agg #[I x.1.at_,I x.1.dlo,I x.1.dhi,I x.1.slo,I x.1.shi],I x.2]
theorem arVrtI_len {k:Nat} (hk:k=2):∀ C vs x,arVrtI C vs x->vs.length=k:=fun _ _ _ h=>by rw [show _=_ from h,hk]; rfl
end Go.Nm
namespace Go.Nm
open Go
structure CMk where
  place:Int
  height:Int
deriving DecidableEq,Inhabited
instance:Flat CMk where
  rep _ cs x:=cs=[I x.place,I x.height]
  sz:=2
  agg:=true
  sz_pos:=by decide
  len:=fun h=>by subst h; rfl
  mono:=fun _ h=>h
  one:=fun h v hv=>by subst h; simp at hv; rcases hv with rfl | rfl <;> rfl
  enc x:=[I x.place,I x.height]
  rep_iff:=Iff.rfl
structure CNt where
  mark:Int
  tlo:Int
  thi:Int
  slo:Int
  shi:Int
deriving DecidableEq,Inhabited
instance:Flat CNt where
  rep _ cs x:=cs=[I x.mark,I x.tlo,I x.thi,I x.slo,I x.shi]
  sz:=5
  agg:=true
  sz_pos:=by decide
  len:=fun h=>by subst h; rfl
  mono:=fun _ h=>h
  one:=fun h v hv=>by subst h; simp at hv; rcases hv with rfl | rfl | rfl | rfl | rfl <;> rfl
  enc x:=[I x.mark,I x.tlo,I x.thi,I x.slo,I x.shi]
  rep_iff:=Iff.rfl
theorem CNt_rep {C:Cells} {cs:List Value} {x:CNt} (h:Elt.rep C cs x):cs=[I x.mark,I x.tlo,I x.thi,I x.slo,I x.shi]:=h
theorem CNt_arg {C:Cells} {v:Value} {x:CNt} (h:Arg C v x):v = .agg #[I x.mark,I x.tlo,I x.thi,I x.slo,I x.shi]:=by
  obtain ⟨cs,h1,h2⟩:=h;obtain rfl:=CNt_rep h1;exact h2
/-- A note as a map's value. -/
def encCN (x:CNt):Value:=.agg #[I x.mark,I x.tlo,I x.thi,I x.slo,I x.shi]
theorem cnt_val (o:Option CNt):(o.map encCN).getD (.agg #[I 0,I 0,I 0,I 0,I 0]) = .agg #[I (o.getD default).mark,I (o.getD default).tlo,I (o.getD default).thi,I (o.getD default).slo,I (o.getD default).shi]:=by cases o <;> rfl
end Go.Nm
namespace Go.Nm
open Go
/-! ### Numbers in order -/
def insI (x:Int):List Int->List Int
  | []=>[x]
  | y :: l=>bif decide (x<=y) then x :: y :: l else y :: insI x l
def isort (l:List Int):List Int:=l.foldr insI []
theorem insI_perm (x:Int):∀ l:List Int,(insI x l).Perm (x :: l)
  | []=>.refl _
  | y :: l=>by
    unfold insI;cases decide (x<=y) with
    | true=>exact .refl _
    | false=>exact ((insI_perm x l).cons y).trans (.swap x y l)
theorem isort_perm:∀ l:List Int,(isort l).Perm l
  | []=>.refl _
  | x :: l=>(insI_perm x _).trans ((isort_perm l).cons x)
theorem insI_asc (x:Int):∀ l:List Int,l.Pairwise (·<=·)->(insI x l).Pairwise (·<=·)
  | [],_=>by simp [insI]
  | y :: l,h=>by
    rw [List.pairwise_cons] at h;unfold insI;cases hc:decide (x<=y) with
    | true =>
      have hc:=of_decide_eq_true hc;show (x :: y :: l).Pairwise _;rw [List.pairwise_cons,List.pairwise_cons];refine ⟨fun z hz=>?_,h⟩;rcases List.mem_cons.1 hz with rfl | hz
      · exact hc
      · exact Int.le_trans hc (h.1 z hz)
    | false =>
      have hc:=of_decide_eq_false hc;show (y :: insI x l).Pairwise _;rw [List.pairwise_cons];refine ⟨fun z hz=>?_,insI_asc x l h.2⟩;rcases List.mem_cons.1 ((insI_perm x l).mem_iff.1 hz) with rfl | hz
      · omega
      · exact h.1 z hz
theorem isort_asc:∀ l:List Int,(isort l).Pairwise (·<=·)
  | []=>.nil
  | x :: l=>insI_asc x _ (isort_asc l)
theorem asc_uniq:∀ {l m:List Int},l.Pairwise (·<=·)->m.Pairwise (·<=·)->l.Perm m->l=m
  | [],m,_,_,p=>(List.nil_perm.1 p).symm
  | x :: l,[],_,_,p=>by have:=p.length_eq; simp at this
  | x :: l,y :: m,h,k,p=>by
    rw [List.pairwise_cons] at h k;have h1:x<=y:=by
      rcases List.mem_cons.1 (p.mem_iff.2 (List.mem_cons_self (a:=y) (l:=m))) with e | e
      · omega
      · exact h.1 y e
    have h2:y<=x:=by
      rcases List.mem_cons.1 (p.mem_iff.1 (List.mem_cons_self (a:=x) (l:=l))) with e | e
      · omega
      · exact k.1 x e
    obtain rfl:x=y:=by omega
    rw [asc_uniq h.2 k.2 (List.perm_cons x |>.1 p)]
theorem merge_isort {ss ks:List Int} (p:ss.Perm ks):ss.mergeSort (fun x y=>decide (x<=y))=isort ks:=by
  refine asc_uniq ?_ (isort_asc ks) (((List.mergeSort_perm ss _).trans p).trans (isort_perm ks).symm);have:=List.pairwise_mergeSort (le:=fun x y:Int=>decide (x<=y)) (fun a b c h1 h2=>by simp only [decide_eq_true_eq] at *; omega) (fun a b=>by simp only [Bool.or_eq_true,decide_eq_true_eq]; omega) ss;exact this.imp fun h=>of_decide_eq_true h
/-! ### Maps, told entry by entry -/
def MapL {κ ν:Type} (kenc:κ->Value) (venc:ν->Value) (es:Array MapEntry) (clk:Nat) (m:List (κ × ν)):Prop :=
  es.toList.map (fun e=>(e.key,e.val))=m.map (fun p=>(kenc p.1,venc p.2))/\(es.toList.map (·.born)).Nodup/\∀ e∈es.toList,e.born<clk
section
variable {P:Program} {w w0:World} {L L' R:List Chunk} {t kt et:TypeId} {b:Nat} {es:Array MapEntry} {clk:Nat} {ks:List Int}
variable {all rest:List Oper} {Q:Post} {σ:Env} {d:Nat} {ty:TypeId} {pos:String} {af:Array Edge} {g:Option (Nat × Bool)}
end
end Go.Nm
namespace Go.Nm
open Go
/-! ### What is reckoned entry by entry -/
namespace M
variable {κ ν:Type}
def mapL (body:κ->ν->M ν):List (κ × ν)->M (List (κ × ν))
  | []=>pure []
  | p :: m=>bind (body p.1 p.2) fun v=>bind (mapL body m) fun m'=>pure ((p.1,v) :: m')
theorem mapL_at {body:κ->ν->M ν}:∀ {m m':List (κ × ν)},(mapL body m).Ends m'->m'.length=m.length/\∀ (i:Nat) (k:κ) (v:ν),m[i]?=some (k,v)->∃ v',(body k v).Ends v'/\m'[i]?=some (k,v')
  | [],m',h=>by
    obtain rfl:=e_pure h;exact ⟨rfl,fun i k v h=>by simp at h⟩
  | p :: m,m',h=>by
    obtain ⟨v1,h1,h⟩:=e_bind h;obtain ⟨m1,h2,h⟩:=e_bind h;obtain rfl:=e_pure h;obtain ⟨l,ih⟩:=mapL_at h2;refine ⟨by simp [l],fun i k v hi=>?_⟩;cases i with
    | zero =>
      simp only [List.getElem?_cons_zero,Option.some.injEq] at hi;subst hi;exact ⟨v1,h1,rfl⟩
    | succ i=>exact ih i k v (by simpa using hi)
end M
theorem setM_keys {κ ν:Type} [DecidableEq κ]:∀ (m:List (κ × ν)) (k:κ) (v:ν),(setM m k v).map Prod.fst=if k∈m.map Prod.fst then m.map Prod.fst else m.map Prod.fst++[k]
  | [],k,v=>by simp [setM]
  | p :: m,k,v=>by
    have ih:=setM_keys m k v;unfold setM;by_cases h:p.1=k
    · rw [if_pos h]; simp [h]
    · rw [if_neg h,List.map_cons,ih];simp only [List.map_cons,List.mem_cons,Ne.symm h,false_or];split <;> simp
theorem setM_once {κ ν:Type} [DecidableEq κ] {m:List (κ × ν)} (h:(m.map Prod.fst).Nodup) (k:κ) (v:ν):((setM m k v).map Prod.fst).Nodup:=by
  rw [setM_keys];split
  · exact h
  · rename_i hk
    rw [List.nodup_append];refine ⟨h,by simp,fun a ha b hb e=>?_⟩;simp only [List.mem_singleton] at hb;subst hb e;exact hk ha
theorem idxM_at {κ ν:Type} [DecidableEq κ]:∀ {m:List (κ × ν)} {i:Nat} {k:κ} {v:ν},(m.map Prod.fst).Nodup->m[i]?=some (k,v)->idxM m k=some i
  | [],i,k,v,_,h=>by simp at h
  | p :: m,i,k,v,hn,h=>by
    rw [List.map_cons,List.nodup_cons] at hn;unfold idxM;cases i with
    | zero =>
      simp only [List.getElem?_cons_zero,Option.some.injEq] at h;rw [if_pos (by rw [h])]
    | succ i =>
      simp only [List.getElem?_cons_succ] at h;have hk:p.1 ≠ k:=fun e=>hn.1 (by rw [e]; exact List.mem_map.2 ⟨_,List.mem_of_getElem? h,rfl⟩);rw [if_neg hk,idxM_at hn.2 h];rfl
/-! ### In memory -/
section
variable {κ ν:Type} [DecidableEq κ] {kenc:κ->Value} {venc:ν->Value}
def cMl (kenc:κ->Value) (venc:ν->Value) (b:Nat) (m:List (κ × ν)):Chunk where
  D k:=k=b
  ex:=true
  ok w:=∃ es n,w.heap[b]?=some (.map es n)/\MapL kenc venc es n m/\(m.map Prod.fst).Nodup
  st w w':=fun ⟨es,n,h1,h2⟩ _ k=>⟨es,n,(k b rfl).trans h1,h2⟩
  bd w k:=fun ⟨_,_,h,_⟩ e=>by rw [e]; exact heap_lt h
theorem MapL.toR {es:Array MapEntry} {n:Nat} {m:List (κ × ν)} (h:MapL kenc venc es n m):MapR kenc venc es n (lookM m):=⟨⟨m,h.1,fun _=>rfl⟩,h.2⟩
theorem mlMap {w:World} {b:Nat} {m:List (κ × ν)} (h:(cMl kenc venc b m).ok w):(cMap kenc venc b (lookM m)).ok w:=by
  obtain ⟨es,n,h1,h2,_⟩:=h;exact ⟨es,n,h1,h2.toR⟩
variable {P:Program} {w w0:World} {L L' R:List Chunk} {t kt et:TypeId} {b r:Nat} {es:Array MapEntry} {clk:Nat} {m:List (κ × ν)}
theorem run_putL (K:KeyL (ν:=ν) P kt kenc) (ht:P.underlying t=some (.map kt et)) (hb:w.heap[b]?=some (.map es clk)) (hm:MapL kenc venc es clk m) (k:κ) (v:ν) :
    ∃ es' clk' w',(Instr.mapUpdate t (.map (some b)) (kenc k) (venc v)).run P w = .ok () w'/\Put w b (.map es' clk') w'/\MapL kenc venc es' clk' (setM m k v)/\(∀ i,idxM m k=some i->es'.toList.map (·.born)=es.toList.map (·.born)/\clk'=clk):=by
  obtain ⟨h1,h3,h4⟩:=hm;have hf:=K.find w es.toList m venc k h1;cases hi:idxM m k with
  | none =>
    rw [hi] at hf;refine ⟨es.push { key:=kenc k,val:=venc v,born:=clk },clk+1,_,?_,Put.setMap _ hb (by simp) rfl,⟨?_,?_,?_⟩,fun i h=>by cases h⟩
    · simp [Instr.mapUpdate,run_underlying ht,MapKept.run_getObj_map hb,K.check,hf,MapKept.run_setObj_map _ hb]
    · rw [setM_none v hi];simp [h1]
    · simp only [Array.toList_push,List.map_append,List.map_cons,List.map_nil];rw [List.nodup_append];refine ⟨h3,by simp,fun a ha c hc=>?_⟩;simp at hc;subst hc;obtain ⟨e,he,rfl⟩:=List.mem_map.1 ha;have:=h4 e he;omega
    · intro e he;simp only [Array.toList_push,List.mem_append,List.mem_singleton] at he;rcases he with he | rfl
      · have:=h4 e he; omega
      · simp
  | some i =>
    obtain ⟨v0,hv,hl⟩:=idxM_some hi;have he:∃ e,es.toList[i]?=some e/\e.key=kenc k:=by
      have h3:(es.toList.map (fun e=>(e.key,e.val)))[i]?=(m.map (fun p=>(kenc p.1,venc p.2)))[i]?:=by rw [h1]
      rw [List.getElem?_map,List.getElem?_map,hv] at h3;cases he:es.toList[i]? with
      | none=>rw [he] at h3; simp at h3
      | some e=>rw [he] at h3; simp at h3; exact ⟨e,rfl,h3.1⟩
    obtain ⟨e,he1,he2⟩:=he;have he1':es[i]?=some e:=by simpa using he1
    rw [hi] at hf;simp only [Option.bind_some,he1,Option.map_some] at hf;have hk:(Instr.keyThatStays (((es[i]?).map (·.key)).getD (kenc k)) (kenc k)).run P w = .ok (kenc k) w:=by
      simp [he1',Instr.keyThatStays,he2,K.same]
    have hbn:(es.modify i fun e=>{ e with key:=kenc k,val:=venc v }).toList.map (·.born)=es.toList.map (·.born):=by
      apply List.ext_getElem?;intro j;simp only [List.getElem?_map,Array.getElem?_toList,Array.getElem?_modify];by_cases hij:i=j
      · subst hij; simp [he1']
      · simp [hij]
    refine ⟨es.modify i fun e=>{ e with key:=kenc k,val:=venc v },clk,_,?_,Put.setMap _ hb (by simp) rfl,⟨?_,?_,?_⟩,fun _ _=>⟨hbn,rfl⟩⟩
    · simp [Instr.mapUpdate,run_underlying ht,MapKept.run_getObj_map hb,K.check,hf,hk,MapKept.run_setObj_map _ hb]
    · rw [setM_some v hi];apply List.ext_getElem?;intro j;have hj:(es.toList.map (fun e=>(e.key,e.val)))[j]?=(m.map (fun p=>(kenc p.1,venc p.2)))[j]?:=by rw [h1]
      simp only [List.getElem?_map,Array.getElem?_toList,Array.getElem?_modify,List.getElem?_set] at hj ⊢;by_cases hij:i=j
      · subst hij;have hlt:=(List.getElem?_eq_some_iff.1 hv).1;simp [he1',hlt]
      · simp [hij,hj]
    · rw [hbn]; exact h3
    · intro e' he';have:e'.born∈es.toList.map (·.born):=by rw [← hbn]; exact List.mem_map.2 ⟨e',he',rfl⟩
      obtain ⟨e2,h5,h6⟩:=List.mem_map.1 this;rw [← h6];exact h4 e2 h5
variable {all rest:List Oper} {Q:Post} {σ:Env} {d:Nat} {ty:TypeId} {pos:String} {af:Array Edge} {g:Option (Nat × Bool)}
omit [DecidableEq κ] in theorem t_mkMl {t':TypeId} (kenc:κ->Value) (venc:ν->Value) (H:St w0 w L R) (k:∀ b w',St w0 w' (cMl kenc venc b [] :: L) R->SL P all Q rest (upd σ d (.map (some b))) w'):SL P all Q (⟨some d,.makeMap t' none,ty,pos,af,none⟩ :: rest) σ w :=
  s_mkmap fun b w' hn=>k b w' (H.push (c:=cMl kenc venc b []) hn.ext ⟨_,_,hn.same,⟨rfl,List.nodup_nil,fun e h=>by simp at h⟩,List.nodup_nil⟩ (fun j hj=>by rw [show j=b from hj]; exact hn.ge))
theorem t_putMl {dst:Option Nat} {x y u:Operand} {i:Nat} (K:KeyL (ν:=ν) P kt kenc) (ht:P.underlying t=some (.map kt et)) (H:St w0 w L R) (hk:L[i]?=some (cMl kenc venc b m)) (hx:ev σ x = .map (some b)) {k:κ} (hy:ev σ y=kenc k) {v:ν} (hu:ev σ u=venc v)
    (hL:L.set i (cMl kenc venc b (setM m k v))=L') (kk:∀ w',St w0 w' L' R->SL P all Q rest (updo σ dst undef) w'):SL P all Q (⟨dst,.mapUpdate t x y u,ty,pos,af,none⟩ :: rest) σ w:=by
  obtain ⟨es,n,h1,h2,hn⟩:=H.get hk;obtain ⟨es',clk',w',hr,hp,hm',_⟩:=run_putL (w:=w) K ht h1 h2 k v;refine s_skp (w':=w') ?_ (kk _ (H.set (c':=cMl kenc venc b (setM m k v)) hk rfl hp.keep (fun i _ hne=>hp.other i hne) (fun i hi=>.inl hi) ⟨es',clk',hp.same,hm',setM_once hn k v⟩ hL));simp [execOp,hx,hy,hu,hr]
end
/-- How far a loop over a map has come: what is left is as it was, what was met is as it will be. -/
def ItR {κ ν:Type} (m m' m1:List (κ × ν)) (left:List Bool):Prop:=m1.length=m.length/\m'.length=m.length/\left.length=m.length/\∀ i,i<m.length->m1[i]?=if left.getD i false then m[i]? else m'[i]?
namespace ItR
variable {κ ν:Type} {m m' m1:List (κ × ν)} {left:List Bool} {body:κ->ν->M ν}
theorem init (h:(M.mapL body m).Ends m'):ItR m m' m (List.replicate m.length true) :=
  ⟨rfl,(M.mapL_at h).1,by simp,fun i hi=>by rw [List.getD_eq_getElem?_getD,List.getElem?_replicate,if_pos hi]; rfl⟩
theorem fin (h:ItR m m' m1 left) (hl:∀ j:Nat,left.getD j false=false):m1=m':=by
  apply List.ext_getElem?;intro i;by_cases hi:i<m.length
  · rw [h.2.2.2 i hi,hl i]; rfl
  · rw [List.getElem?_eq_none (by have:=h.1; omega),List.getElem?_eq_none (by have:=h.2.1; omega)]
theorem lt (h:ItR m m' m1 left) {j:Nat} (hj:left.getD j false=true):j<m.length:=by
  rw [← h.2.2.1];refine Nat.lt_of_not_le fun hn=>?_;rw [List.getD_eq_getElem?_getD,List.getElem?_eq_none hn] at hj;cases hj
theorem at_ (h:ItR m m' m1 left) (hb:(M.mapL body m).Ends m') {j:Nat} {k:κ} {v:ν} (hj:left.getD j false=true) (hm:m1[j]?=some (k,v)):∃ v',(body k v).Ends v'/\m'[j]?=some (k,v'):=by
  have:=h.2.2.2 j (h.lt hj);rw [hj,hm] at this;exact (M.mapL_at hb).2 j k v (by simpa using this.symm)
theorem step (h:ItR m m' m1 left) {j:Nat} {k:κ} {v v':ν} (hj:left.getD j false=true) (hm:m1[j]?=some (k,v)) (hv:m'[j]?=some (k,v')):ItR m m' (m1.set j (k,v')) (left.set j false):=by
  have hjl:=h.lt hj;have hl:=h.2.2.1;have h1:=h.1;refine ⟨by rw [List.length_set]; exact h.1,h.2.1,by rw [List.length_set]; exact h.2.2.1,fun i hi=>?_⟩;by_cases e:j=i
  · subst e;rw [List.getElem?_set_self (by omega),List.getD_eq_getElem?_getD,List.getElem?_set_self (by omega),hv];rfl
  · rw [List.getElem?_set_ne e,List.getD_eq_getElem?_getD,List.getElem?_set_ne e,← List.getD_eq_getElem?_getD];exact h.2.2.2 i hi
theorem keep (h:ItR m m' m1 left) {j:Nat} {k:κ} {v:ν} (hj:left.getD j false=true) (hm:m1[j]?=some (k,v)) (hv:m'[j]?=some (k,v)):ItR m m' m1 (left.set j false):=by
  have:=h.step hj hm hv
  rwa [show m1.set j (k,v)=m1 from by
    obtain ⟨hl,e⟩:=List.getElem?_eq_some_iff.1 hm;rw [← e,List.set_getElem_self]] at this
theorem less {j:Nat} (hj:left.getD j false=true):(left.set j false).count true<left.count true:=by
  have hl:j<left.length:=Nat.lt_of_not_le fun hn=>by
    rw [List.getD_eq_getElem?_getD,List.getElem?_eq_none hn] at hj;cases hj
  have hg:left[j]=true:=by
    rw [List.getD_eq_getElem?_getD,List.getElem?_eq_getElem hl] at hj;exact hj
  rw [List.count_set hl,hg];have:0<left.count true:=List.count_pos_iff.2 (by rw [← hg]; exact List.getElem_mem hl);simp;omega
end ItR
end Go.Nm
namespace Go.Nm
open Go
universe u
abbrev Pq (b:Nat):Value:=.pointer (some ⟨b,0,none⟩)
abbrev Oq (b o:Nat):Value:=.pointer (some ⟨b,o,none⟩)
class NthR {α:Type u} (l:List α) (i:Nat) (x:outParam α):Prop where
  is:l[i]?=some x
instance {α:Type u} {l:List α} {x:α}:NthR (x :: l) 0 x:=⟨rfl⟩
instance {α:Type u} {l:List α} {x y:α} {i:Nat} [h:NthR l i x]:NthR (y :: l) (i+1) x:=⟨h.is⟩
instance (priority:=high) {α:Type u} {l:List α} {x a b c d:α} {i:Nat} [h:NthR l i x]:NthR (a :: b :: c :: d :: l) (i+4) x:=⟨h.is⟩
class PickR {α:Type u} (l:List α) (i:List Nat) (o:outParam (List α)):Prop where
  is:i.mapM (fun j=>l[j]?)=some o
instance {α:Type u} {l:List α}:PickR l [] []:=⟨rfl⟩
instance {α:Type u} {l o:List α} {i:Nat} {is:List Nat} {x:α} [h:NthR l i x] [k:PickR l is o]:PickR l (i :: is) (x :: o):=⟨by rw [List.mapM_cons,h.is,k.is]; rfl⟩
class AppR {α:Type u} (a b:List α) (o:outParam (List α)):Prop where
  is:a++b=o
instance {α:Type u} {b:List α}:AppR [] b b:=⟨rfl⟩
instance {α:Type u} {x:α} {a b o:List α} [h:AppR a b o]:AppR (x :: a) b (x :: o):=⟨by rw [List.cons_append,h.is]⟩
class LenR {α:Type u} (l:List α) (n:Nat):Prop where
  is:l.length=n
instance {α:Type u}:LenR ([]:List α) 0:=⟨rfl⟩
instance {α:Type u} {l:List α} {x:α} {n:Nat} [h:LenR l n]:LenR (x :: l) (n+1):=⟨by rw [List.length_cons,h.is]⟩
class EndR {α:Type u} (n:Nat) (l:List α) (a b:outParam (List α)):Prop where
  is:a++b=l
instance (priority:=low) {α:Type u} {x:α} {n:Nat} {l a b:List α} [h:EndR n l a b]:EndR n (x :: l) (x :: a) b:=⟨by rw [List.cons_append,h.is]⟩
instance {α:Type u} {n:Nat} {l:List α} [LenR l n]:EndR n l [] l:=⟨rfl⟩
class SetR {α:Type u} (l:List α) (k:Nat) (x:α) (o:outParam (List α)):Prop where
  is:l.set k x=o
instance {α:Type u} {l:List α} {x y:α}:SetR (y :: l) 0 x (x :: l):=⟨rfl⟩
instance {α:Type u} {l o:List α} {x y:α} {k:Nat} [h:SetR l k x o]:SetR (y :: l) (k+1) x (y :: o):=⟨by rw [List.set_cons_succ,h.is]⟩
class NfR {α:Type u} (l:List α) (o:outParam (List α)):Prop where
  is:l=o
instance {α:Type u}:NfR ([]:List α) []:=⟨rfl⟩
instance {α:Type u} {x:α} {l o:List α} [h:NfR l o]:NfR (x :: l) (x :: o):=⟨by rw [← h.is]⟩
instance {α:Type u} {l o p:List α} {k:Nat} {x:α} [h:NfR l o] [s:SetR o k x p]:NfR (l.set k x) p:=⟨by rw [h.is,s.is]⟩
instance {α:Type u} {a b a' b' o:List α} [h:NfR a a'] [h':NfR b b'] [s:AppR a' b' o]:NfR (a++b) o:=⟨by rw [h.is,h'.is,s.is]⟩
instance {α:Type u} {x:α} {l o:List α} [h:NfR l o]:NfR ((x :: l).eraseIdx 0) o:=⟨by rw [← h.is]; rfl⟩
instance {α:Type u} {x:α} {l o:List α} {k:Nat} [h:NfR (l.eraseIdx k) o]:NfR ((x :: l).eraseIdx (k+1)) (x :: o):=⟨by rw [List.eraseIdx_cons_succ,h.is]⟩
class OverR {α:Type u} (cs:List α) (off:Nat) (vs:List α) (o:outParam (List α)):Prop where
  is:cs.take off++vs++cs.drop (off+vs.length)=o
instance {α:Type u} {cs:List α}:OverR cs 0 [] cs:=⟨by simp⟩
instance {α:Type u} {c v:α} {cs vs o:List α} [h:OverR cs 0 vs o]:OverR (c :: cs) 0 (v :: vs) (v :: o):=⟨by
  have:=h.is;simp only [List.take_zero,List.nil_append,Nat.zero_add] at this ⊢;simp [this]⟩
instance {α:Type u} {c:α} {cs vs o:List α} {n:Nat} [h:OverR cs n vs o]:OverR (c :: cs) (n+1) vs (c :: o):=⟨by
  have:=h.is;rw [List.take_succ_cons,show n+1+vs.length=n+vs.length+1 by omega,List.drop_succ_cons,List.cons_append,List.cons_append,this]⟩
section
variable {w0 w w':World} {L L' L1 R A T:List Chunk}
theorem St.os {α:Type} [Flat α] {e:TypeId} {v:Value} {l:List α} (h:St w0 w L R) (k:Nat) [n:NthR L k (cOwn e v l)]:Sl (rowC v (l.flatMap Flat.enc)) v l:=ownSl (h.get n.is)
theorem St.ol {α:Type} [Flat α] {e:TypeId} {v:Value} {l:List α} (h:St w0 w L R) (k:Nat) [n:NthR L k (cOwn e v l)]:(rowC v (l.flatMap Flat.enc)).Le w.cell?:=ownLe w (h.get n.is)
theorem rdo {α:Type} [Flat α] {e:TypeId} {v:Value} {l:List α} (k:Nat) [n:NthR L k (cOwn e v l)]:Reads (L++R) (rowC v (l.flatMap Flat.enc)):=Reads.of n.is ownLe
theorem St.bl {b:Nat} {cs:List Value} {t:TypeId} (h:St w0 w L R) (k:Nat) [n:NthR L k (cBlk b cs t)]:w.heap[b]?=some (.cells cs.toArray t (0,0)):=h.blk n.is
theorem St.nf (h:St w0 w L R) [n:NfR L L']:St w0 w L' R:=by
  have:=n.is;subst this;exact h
theorem St.pk (h:St w0 w L R) (i:List Nat) [n:NfR L L1] [p:PickR L1 i L'] (hn:i.Nodup:=by decide):St w0 w L' R:=h.nf.pick i hn p.is
theorem St.bk (h:St w0 w L R) (h':St w w' A (T++R)) [a:NfR (A++T) L']:St w0 w' L' R:=h.back h' a.is
theorem St.gt (h:St w0 w L R) (k:Nat) [n:NfR L L1] [s:EndR k L1 A T]:St w w A (T++R):=h.nf.give s.is
end
section
variable {P:Program} {all rest:List Oper} {Q:Post} {σ:Env} {w0 w:World} {L L' R:List Chunk} {ty:TypeId} {pos:String} {af:Array Edge}
theorem zM {d:Nat} {x:Operand} (v:Value) (h:ev σ x=v) (k:SL P all Q rest (upd σ d v) w):SL P all Q (⟨some d,.move x,ty,pos,af,none⟩ :: rest) σ w:=s_val (x_mv h) k
theorem zA {d:Nat} {x:Operand} (v:Value) (h:ev σ x=v) (k:SL P all Q rest (upd σ d v) w):SL P all Q (⟨some d,.assign x,ty,pos,af,none⟩ :: rest) σ w:=s_val (x_as h) k
theorem zC {d:Nat} {op:BinOp} {t yt:TypeId} {x y:Operand} (a b:Int) (r:Bool) (hx:ev σ x = .int .i64 a) (hy:ev σ y = .int .i64 b) (hr:cmpV op a b=some r) (k:SL P all Q rest (upd σ d (.bool r)) w):SL P all Q (⟨some d,.binOp op t x y yt,ty,pos,af,none⟩ :: rest) σ w:=s_val (x_cmp hx hy hr) k
theorem zR {d:Nat} {op:BinOp} {t yt:TypeId} {x y:Operand} (a b r:Int) (hx:ev σ x = .int .i64 a) (hy:ev σ y = .int .i64 b) (hr:ariV op a b=some r) (h:-9223372036854775808<=r/\r<=9223372036854775807) (k:SL P all Q rest (upd σ d (.int .i64 r)) w):SL P all Q (⟨some d,.binOp op t x y yt,ty,pos,af,none⟩ :: rest) σ w:=s_val (x_ari hx hy hr h) k
theorem t_sw {dst:Option Nat} {t:TypeId} {x y:Operand} {b n:Nat} {cs cs':List Value} {et:TypeId} (k off:Nat) (vs:List Value) (v:Value) (H:St w0 w L R) [hk:NthR L k (cBlk b cs et)] [hc:OverR cs off vs cs'] [hL:SetR L k (cBlk b cs' et) L'] (hx:ev σ x = .pointer (some ⟨b,off,none⟩)) (hy:ev σ y=v)
    (hs:(P.info? t).map (·.size)=some n) (hv:v.cells=vs.toArray) (hn:vs.length=n) (hl:Nat.ble (off+n) cs.length=true) (h1:vs.all (·.oneCell')=true)
    (kk:∀ w',St w0 w' L' R->SL P all Q rest (updo σ dst undef) w'):SL P all Q (⟨dst,.store t x y,ty,pos,af,none⟩ :: rest) σ w :=
  t_st H hk.is hx hy hs hv hn hl h1 (by rw [← hn]; exact hc.is) hL.is kk
end
/-- What a test says, as a proposition. -/
class DcB (b c:Bool) (p:outParam Prop):Prop where
  to:b=c->p
instance (priority:=low) {b c:Bool}:DcB b c (b=c):=⟨fun h=>h⟩
instance {p:Prop} [Decidable p]:DcB (decide p) true p:=⟨of_decide_eq_true⟩
instance {p:Prop} [Decidable p]:DcB (decide p) false (¬p):=⟨of_decide_eq_false⟩
instance {α:Type _} [BEq α] [LawfulBEq α] {a b:α}:DcB (a==b) true (a=b):=⟨beq_iff_eq.1⟩
instance {α:Type _} [BEq α] [LawfulBEq α] {a b:α}:DcB (a==b) false (a ≠ b):=⟨beq_eq_false_iff_ne.1⟩
instance {α:Type _} [BEq α] [LawfulBEq α] {a b:α}:DcB (a != b) true (a ≠ b):=⟨bne_iff_ne.1⟩
instance {α:Type _} [BEq α] [LawfulBEq α] {a b:α}:DcB (a != b) false (a=b):=⟨bne_eq_false_iff_eq.1⟩
theorem dI {b c:Bool} {p:Prop} [h:DcB b c p] (x:b=c):p:=h.to x
section
variable {P:Program} {all rest:List Oper} {Q:Post} {σ:Env} {w0 w:World} {L L' R:List Chunk} {ty:TypeId} {pos:String} {af:Array Edge}
end
end Go.Nm
namespace Go.Nm
open Go
section
variable {κ ν:Type} [DecidableEq κ] {kenc:κ->Value} {venc:ν->Value} {P:Program} {w w0:World} {L L' R:List Chunk} {kt et:TypeId} {b:Nat} {m:List (κ × ν)}
variable {all rest:List Oper} {Q:Post} {σ:Env} {d:Nat} {ty:TypeId} {pos:String} {af:Array Edge}
theorem t_swI {dst:Option Nat} {t:TypeId} {x y:Operand} {n:Nat} {l l':List Int} {et:TypeId} (k:Nat) (H:St w0 w L R) [hk:NthR L k (cBlk b (List.flatten [[],encF l]) et)] [hL:SetR L k (cBlk b (List.flatten [[],encF l']) et) L'] (hx:ev σ x = .pointer (some ⟨b,0,none⟩)) (hy:ev σ y = .agg (List.flatten [[],encF l']).toArray)
    (hs:(P.info? t).map (·.size)=some n) (h1:l.length=n) (h2:l'.length=n)
    (kk:∀ w',St w0 w' L' R->SL P all Q rest (updo σ dst undef) w'):SL P all Q (⟨dst,.store t x y,ty,pos,af,none⟩ :: rest) σ w:=by
  have e:∀ l:List Int,(List.flatten [[],encF l])=encF l:=fun l=>by simp
  have e1:∀ l:List Int,(encF l).length=l.length:=fun l=>by rw [encF_len]; exact Nat.mul_one _
  have H':=hk.is; have L2:=hL.is;rw [e] at H' L2 hy;exact t_st (cs':=encF l') (vs:=encF l') H H' hx hy hs rfl (by rw [e1,h2]) (by rw [e1,h1]; simp [Nat.ble_eq]) (encF_one l') (by simp [List.drop_eq_nil_of_le,e1,h1]) L2 kk
end
theorem seg_len {l:List Int} {n:Nat} (h:l.length=n):(List.flatten [[],encF l]).length=n:=by
  rw [show (List.flatten [[],encF l])=encF l by simp,encF_len,h]; exact Nat.mul_one _
end Go.Nm
namespace Go.Nm
open Go
section
variable {P:Program} {w:World}
theorem run_sliceN {t e:TypeId} {n k o:Nat} {b:Nat} (hu:P.underlying t=some (.array n e)) (hz:(P.info? e).map (·.size)=some k) :
    (Instr.sliceAt t (.pointer (some ⟨b,o,none⟩)) none none none).run P w = .ok (.slice (some ⟨b,o,none⟩) n n) w:=by
  simp [Instr.sliceAt,Instr.sureAddr,Instr.sliceBounds,Instr.sliceBound,asIntOf,run_underlying hu,run_sizeOf hz,Addr.add]
end
/-- The cells of a block. -/
def blkC (b:Nat) (cs:List Value):Cells:=fun a=>if a=⟨b,a.off,none⟩ then cs[a.off]? else none
/-- Data that lie in a block, as a slice. -/
theorem segSl {α:Type} [Flat α] {b:Nat} {cs pre post:List Value} {l:List α} (e:cs=pre++encF l++post) {off n:Nat} (ho:pre.length=off) (hn:l.length=n) (hm:n<=9223372036854775807) {j:Nat} (hj:j<=n) :
    Sl (blkC b cs) (.slice (some ⟨b,off,none⟩) j n) (l.take j):=by
  subst hn;refine ⟨⟨some ⟨b,off,none⟩,l.length,by rw [List.length_take,Nat.min_eq_left hj],by rw [List.length_take]; omega,hm,fun k x hx=>⟨b,off,Flat.enc x,rfl,Flat.rep_enc _ _,fun i y hy=>?_⟩⟩⟩;have hx':l[k]?=some x:=by
    rw [List.getElem?_take] at hx;split at hx
    · exact hx
    · cases hx
  have h1:=flat_get l k x hx' i y hy;have h2:(encF l)[k*Elt.sz α+i]?=some y:=by
    unfold encF;rw [← List.flatMap_def];exact h1
  show (if _ then cs[off+k*Elt.sz α+i]? else none)=some y;rw [if_pos rfl,e,List.append_assoc,List.getElem?_append_right (by omega),show off+k*Elt.sz α+i-pre.length=k*Elt.sz α+i by omega];have hlt:=(List.getElem?_eq_some_iff.1 h2).1;rw [List.getElem?_append_left hlt];exact h2
theorem segSlA {α:Type} [Flat α] {b:Nat} {cs pre post:List Value} {l:List α} (e:cs=pre++encF l++post) {off n:Nat} (ho:pre.length=off) (hn:l.length=n) (hm:n<=9223372036854775807):Sl (blkC b cs) (.slice (some ⟨b,off,none⟩) n n) l:=by
  have:=segSl (b:=b) e ho hn hm (Nat.le_refl n)
  rwa [List.take_of_length_le (by omega)] at this
/-! ### Arrays of numbers by value -/
theorem encF_int (a:List Int):encF a=a.map I:=by
  unfold encF;induction a with
  | nil=>rfl
  | cons x a ih=>rw [List.map_cons,List.flatten_cons,ih]; rfl
section
variable {P:Program} {w:World} {σ:Env} {d:Nat} {ty:TypeId} {pos:String} {af:Array Edge} {g:Option (Nat × Bool)}
theorem ldb_seg {t et:TypeId} {b off n:Nat} {cs ds pre post:List Value} {l:List Int} (hd:ds=encF l) (hag:isAg (P.underlying t)=true) (hs:(P.info? t).map (·.size)=some n) (hb:w.heap[b]?=some (.cells cs.toArray et (0,0))) (e:cs=pre++encF l++post) (ho:pre.length=off) (hn:l.length=n) :
    (Instr.loadAt t (.pointer (some ⟨b,off,none⟩))).run P w = .ok (.agg ds.toArray) w:=by
  subst hd;refine ldb_ag hag hs hb ?_ (by rw [encF_int,List.length_map,hn]);have hl:(encF l).length=n:=by rw [encF_int,List.length_map,hn]
  rw [e,List.append_assoc,← ho,List.drop_left,← hl,List.take_left]
end
end Go.Nm
namespace Go.Nm
open Go
section
variable {P:Program} {w:World}
variable {all rest:List Oper} {Q:Post} {σ:Env} {w0:World} {L R:List Chunk} {ty:TypeId} {pos:String} {af:Array Edge}
end
abbrev M.gi {α:Type} (x:Int) (k:M α):M α:=M.grd (decide ((-9223372036854775808:Int)<=x)&&decide (x<=(9223372036854775807:Int))) k
end Go.Nm
