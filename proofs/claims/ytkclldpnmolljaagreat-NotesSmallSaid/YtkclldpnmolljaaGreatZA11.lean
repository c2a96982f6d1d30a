/- Part 11 of the texts on which the proof rests. Conditions: none. -/
import Derived.KernelRfl
import Derived.Test.YtkclldpnmolljaaGreatZA10
set_option linter.unusedVariables false
set_option linter.unusedSimpArgs false
set_option linter.unusedSectionVars false
namespace Go.Proofs.YtkclldpnmolljaaGreat
open Go Go.Nm
abbrev S6:List Work:=[⟨[],1,5⟩,⟨[],1,6⟩,⟨[0,1],1,10⟩,⟨[1],1,30⟩,⟨[2,3],1,20⟩,⟨[4],1,1⟩]
def NN (k:Nat):List Note:=List.replicate k default
def PP (k:Nat):List Pub:=List.replicate k default
theorem nn_len (k:Nat):(NN k).length=k:=List.length_replicate
theorem pp_len (k:Nat):(PP k).length=k:=List.length_replicate
theorem nn_get (k i:Nat):(NN k).getD i default=default:=by
  unfold NN
  rw [List.getD_eq_getElem?_getD,List.getElem?_replicate]
  split <;> rfl
theorem pp_get (k i:Nat):(PP k).getD i default=default:=by
  unfold PP
  rw [List.getD_eq_getElem?_getD,List.getElem?_replicate]
  split <;> rfl
theorem same_note (l:List Note):(zbA l l).Ends true:=by
  unfold zbA
  refine M.i_f (by simp) (M.i_bind (a:=(.inr ():Unit ⊕ Unit)) (M.i_for (fun i=>i) l.length (fun i hi=>?_) ?_) M.i_pure)
  · simp only [zaQ]
    exact M.i_t (decide_eq_true (by omega)) (M.i_grd (decide_eq_true (by omega)) (M.i_grd (decide_eq_true (by omega)) (M.i_f (by simp) M.i_pure)))
  · simp only [zaQ]
    exact M.i_f (decide_eq_false (by omega)) M.i_pure
theorem same_pub (l:List Pub):(zbQ l l).Ends true:=by
  unfold zbQ
  refine M.i_f (by simp) (M.i_bind (a:=(.inr ():Unit ⊕ Unit)) (M.i_for (fun i=>i) l.length (fun i hi=>?_) ?_) M.i_pure)
  · simp only [zaW]
    exact M.i_t (decide_eq_true (by omega)) (M.i_grd (decide_eq_true (by omega)) (M.i_grd (decide_eq_true (by omega)) (M.i_f (by simp) M.i_pure)))
  · simp only [zaW]
    exact M.i_f (decide_eq_false (by omega)) M.i_pure
theorem same_ints (l:List Int):(zab l l).Ends true:=by
  unfold zab
  refine M.i_f (by simp) (M.i_bind (a:=(.inr ():Unit ⊕ Unit)) (M.i_for (fun i=>i) l.length (fun i hi=>?_) ?_) M.i_pure)
  · simp only [zbk]
    exact M.i_t (decide_eq_true (by omega)) (M.i_grd (decide_eq_true (by omega)) (M.i_grd (decide_eq_true (by omega)) (M.i_f (by simp) M.i_pure)))
  · simp only [zbk]
    exact M.i_f (decide_eq_false (by omega)) M.i_pure
theorem noted_ends {l:List Note} (h:l.length<=1000):(zaJ l).Ends l:=by
  unfold zaJ
  refine M.i_bind (a:=(l,l)) (M.i_for (fun i=>(i,l.take i)) l.length (fun i hi=>?_) ?_) M.i_pure
  · simp only [za1]
    refine M.i_t (decide_eq_true (by omega)) (M.i_grd (decide_eq_true (by omega)) (M.i_grd (decide_eq_true (by rw [List.length_take,List.length_singleton]; omega)) ?_))
    rw [take_succ_D l i hi default]
    exact M.i_pure
  · simp only [za1]
    rw [List.take_length]
    exact M.i_f (decide_eq_false (by omega)) M.i_pure
theorem pubs_ends {l:List Pub} (h:l.length<=1000):(M.iter (zaM l) (0,[])).Ends (l,l):=by
  refine M.i_for (fun i=>(i,l.take i)) l.length (fun i hi=>?_) ?_
  · simp only [zaM]
    refine M.i_t (decide_eq_true (by omega)) (M.i_grd (decide_eq_true (by omega)) (M.i_grd (decide_eq_true (by rw [List.length_take,List.length_singleton]; omega)) ?_))
    rw [take_succ_D l i hi default]
    exact M.i_pure
  · simp only [zaM]
    rw [List.take_length]
    exact M.i_f (decide_eq_false (by omega)) M.i_pure
theorem opened6:(zaD S6).Ends (.inr ([0,1,2,3,4,5],0)):=⟨100,by kernel_rfl⟩
theorem order6:(za5 S6).Ends ([0,1,2,3,4,5],0):=⟨100,by kernel_rfl⟩
theorem val_many:(zaw S6 (NN 201)).Ends ([],3):=by
  unfold zaw
  refine M.i_bind opened6 ?_
  exact M.i_f rfl (M.i_t (decide_eq_true (by rw [nn_len]; omega)) M.i_pure)
theorem rval_many:(zax S6 (NN 201)).Ends ([],3):=by
  unfold zax
  refine M.i_bind order6 ?_
  exact M.i_f rfl (M.i_t (decide_eq_true (by rw [nn_len]; omega)) M.i_pure)
theorem every_n {f:Note->M Bool} {k:Nat} (h:(f default).Ends true):(zaY f (NN k)).Ends true:=by
  unfold zaY zb2 zdn
  refine M.i_bind (a:=false) (M.i_bind (a:=-1) (M.i_bind (a:=(.inr ():Int ⊕ Unit)) (M.i_for (fun i=>i) k (fun i hi=>?_) ?_) M.i_pure) M.i_pure) M.i_pure
  · simp only [za4]
    rw [nn_len,nn_get]
    refine M.i_t (decide_eq_true (by omega)) (M.i_grd (decide_eq_true (by omega)) (M.i_bind (a:=false) ?_ M.i_pure))
    exact M.i_bind h M.i_pure
  · simp only [za4]
    rw [nn_len]
    exact M.i_f (decide_eq_false (by omega)) M.i_pure
theorem every_p {f:Pub->M Bool} {k:Nat} (h:(f default).Ends true):(zbU f (PP k)).Ends true:=by
  unfold zbU zdg zcr
  refine M.i_bind (a:=false) (M.i_bind (a:=-1) (M.i_bind (a:=(.inr ():Int ⊕ Unit)) (M.i_for (fun i=>i) k (fun i hi=>?_) ?_) M.i_pure) M.i_pure) M.i_pure
  · simp only [zaS]
    rw [pp_len,pp_get]
    refine M.i_t (decide_eq_true (by omega)) (M.i_grd (decide_eq_true (by omega)) (M.i_bind (a:=false) ?_ M.i_pure))
    exact M.i_bind h M.i_pure
  · simp only [zaS]
    rw [pp_len]
    exact M.i_f (decide_eq_false (by omega)) M.i_pure
abbrev mp1:Int->Option Note:=updF (fun _=>none) 0 default
def stN (i:Nat):(Int->Option Note) × Nat:=(if i=0 then (fun _=>none) else mp1,i)
theorem newest6 {k:Nat} (hk:1<=k):(M.iter (zaL (NN k)) ((fun _=>none),0)).Ends (.inr mp1):=by
  refine M.i_for stN k (fun i hi=>?_) ?_
  · unfold stN
    simp only [zaL]
    rw [nn_len,nn_get]
    refine M.i_t (decide_eq_true (by omega)) (M.i_grd (decide_eq_true (by omega)) (M.i_bind (a:=(.inr ():Unit ⊕ Unit)) (M.i_for (fun j=>j) i (fun j hj=>?_) ?_) ?_))
    · simp only [zbb]
      have ht:((NN k).take i).length=i:=by rw [List.length_take,nn_len]; omega
      have hg:((NN k).take i).getD j default=default:=by rw [List.getD_eq_getElem?_getD,List.getElem?_take,if_pos hj,← List.getD_eq_getElem?_getD]; exact nn_get k j
      rw [ht,hg,nn_get]
      exact M.i_t (decide_eq_true (by omega)) (M.i_grd (decide_eq_true (by omega)) (M.i_f (by decide) M.i_pure))
    · simp only [zbb]
      exact M.i_f (decide_eq_false (by rw [List.length_take,nn_len]; omega)) M.i_pure
    · dsimp only
      rw [if_neg (show ¬ i+1=0 by omega)]
      by_cases c:i=0
      · subst c
        rw [if_pos rfl]
        exact M.i_t rfl M.i_pure
      · rw [if_neg c]
        exact M.i_f rfl M.i_pure
  · unfold stN
    rw [if_neg (by omega)]
    simp only [zaL]
    rw [nn_len]
    exact M.i_f (decide_eq_false (by omega)) M.i_pure
abbrev V6:List Int:=[0,-1,-1,-1,-1,-1]
theorem val_full:(zaw S6 (NN 200)).Ends (V6,0):=by
  unfold zaw
  refine M.i_bind opened6 ?_
  refine M.i_f rfl (M.i_f (decide_eq_false (by rw [nn_len]; omega)) (M.i_bind (every_n ⟨20,by kernel_rfl⟩) (M.i_f rfl (M.i_bind (every_n ⟨20,by kernel_rfl⟩) (M.i_f rfl (M.i_bind (newest6 (by omega)) ?_))))))
  exact M.i_grd rfl (M.i_bind (a:=(V6,V6)) ⟨100,by kernel_rfl⟩ M.i_pure)
theorem rval_full:(zax S6 (NN 200)).Ends (V6,0):=by
  unfold zax
  refine M.i_bind order6 ?_
  refine M.i_f rfl (M.i_f (decide_eq_false (by rw [nn_len]; omega)) (M.i_bind (a:=(.inr ():Unit ⊕ Unit)) (M.i_for (fun i=>i) 200 (fun i hi=>?_) ?_) (M.i_bind (a:=(.inr ():Unit ⊕ Unit)) (M.i_for (fun i=>i) 200 (fun i hi=>?_) ?_) (M.i_bind (a:=(.inr ():Unit ⊕ Unit)) (M.i_for (fun i=>i) 200 (fun i hi=>?_) ?_) ?_))))
  · simp only [zaT]
    rw [nn_len,nn_get]
    exact M.i_t (decide_eq_true (by omega)) (M.i_grd (decide_eq_true (by omega)) (M.i_bind (a:=false) ⟨9,by kernel_rfl⟩ (M.i_grd rfl (M.i_f rfl M.i_pure))))
  · simp only [zaT]
    rw [nn_len]
    exact M.i_f (decide_eq_false (by omega)) M.i_pure
  · simp only [za3]
    rw [nn_len,nn_get]
    exact M.i_t (decide_eq_true (by omega)) (M.i_grd (decide_eq_true (by omega)) (M.i_bind (a:=false) ⟨9,by kernel_rfl⟩ (M.i_bind (a:=false) ⟨9,by kernel_rfl⟩ (M.i_f rfl M.i_pure))))
  · simp only [za3]
    rw [nn_len]
    exact M.i_f (decide_eq_false (by omega)) M.i_pure
  · simp only [zaV]
    rw [nn_len]
    refine M.i_t (decide_eq_true (by omega)) (M.i_bind (a:=(.inr ():Unit ⊕ Unit)) (M.i_for (fun j=>j) i (fun j hj=>?_) ?_) M.i_pure)
    · simp only [zaZ]
      rw [nn_len,nn_get,nn_get]
      exact M.i_t (decide_eq_true (by omega)) (M.i_grd (decide_eq_true (by omega)) (M.i_grd (decide_eq_true (by omega)) (M.i_f rfl M.i_pure)))
    · simp only [zaZ]
      exact M.i_f (decide_eq_false (by omega)) M.i_pure
  · simp only [zaV]
    rw [nn_len]
    exact M.i_f (decide_eq_false (by omega)) M.i_pure
  · exact M.i_grd rfl (M.i_bind (a:=(V6,V6)) ⟨300,by decide +kernel⟩ M.i_pure)
theorem wd_err {k:Nat} {p:List Pub} (h:(zaw S6 (NN k)).Ends ([],3)):(zav S6 (NN k) p).Ends ([],3):=by
  unfold zav
  exact M.i_bind h (M.i_t rfl M.i_pure)
theorem rwd_err {k:Nat} {p:List Pub} (h:(zax S6 (NN k)).Ends ([],3)):(zaz S6 (NN k) p).Ends ([],3):=by
  unfold zaz
  exact M.i_bind h (M.i_t rfl M.i_pure)
theorem wd_many:(zav S6 (NN 200) (PP 201)).Ends ([],3):=by
  unfold zav
  exact M.i_bind val_full (M.i_f rfl (M.i_t (decide_eq_true (by rw [pp_len]; omega)) M.i_pure))
theorem rwd_many:(zaz S6 (NN 200) (PP 201)).Ends ([],3):=by
  unfold zaz
  exact M.i_bind rval_full (M.i_f rfl (M.i_t (decide_eq_true (by rw [pp_len]; omega)) M.i_pure))
theorem wd_full:(zav S6 (NN 200) (PP 200)).Ends ([],0):=by
  unfold zav
  refine M.i_bind val_full (M.i_f rfl (M.i_f (decide_eq_false (by rw [pp_len]; omega)) (M.i_bind (every_p ⟨20,by kernel_rfl⟩) (M.i_f rfl (M.i_bind (a:=([],[])) (M.i_for (fun i=>(i,[])) 200 (fun i hi=>?_) ?_) M.i_pure)))))
  · simp only [zbd]
    rw [pp_len,pp_get]
    exact M.i_t (decide_eq_true (by omega)) (M.i_grd (decide_eq_true (by omega)) (M.i_grd rfl (M.i_f rfl M.i_pure)))
  · simp only [zbd]
    rw [pp_len]
    exact M.i_f (decide_eq_false (by omega)) M.i_pure
theorem rwd_full:(zaz S6 (NN 200) (PP 200)).Ends ([],0):=by
  unfold zaz
  refine M.i_bind rval_full (M.i_f rfl (M.i_f (decide_eq_false (by rw [pp_len]; omega)) (M.i_bind (a:=(.inr ():Unit ⊕ Unit)) (M.i_for (fun i=>i) 200 (fun i hi=>?_) ?_) (M.i_bind (a:=([],[])) (M.i_for (fun i=>(i,[])) 200 (fun i hi=>?_) ?_) M.i_pure))))
  · simp only [za8]
    rw [pp_len,pp_get]
    exact M.i_t (decide_eq_true (by omega)) (M.i_grd (decide_eq_true (by omega)) (M.i_bind (a:=false) ⟨9,by kernel_rfl⟩ (M.i_f rfl M.i_pure)))
  · simp only [za8]
    rw [pp_len]
    exact M.i_f (decide_eq_false (by omega)) M.i_pure
  · simp only [za9]
    rw [pp_len,pp_get]
    exact M.i_t (decide_eq_true (by omega)) (M.i_grd (decide_eq_true (by omega)) (M.i_grd rfl (M.i_f rfl M.i_pure)))
  · simp only [za9]
    rw [pp_len]
    exact M.i_f (decide_eq_false (by omega)) M.i_pure
theorem awake_ends:zam.Ends true:=⟨60,by kernel_rfl⟩
theorem values_true {k:Nat} {p:List Pub} {V:List Int} {e:Int} {rw_:List Int} {re:Int} (hk:k<=201) (hp:p.length<=201) (v1:(zaw S6 (NN k)).Ends (V,e)) (v2:(zax S6 (NN k)).Ends (V,e))
    (h1:(zav S6 (NN k) p).Ends (rw_,re)) (h2:(zaz S6 (NN k) p).Ends (rw_,re)):(zai S6 (NN k) p).Ends true:=by
  have hl:=nn_len k
  have hw:(zag S6).Ends S6:=⟨60,by kernel_rfl⟩
  have hn:(zaJ (NN k)).Ends (NN k):=noted_ends (by omega)
  have hc:(zbE (NN k)).Ends (NN k):=by
    unfold zbE
    exact M.i_grd (decide_eq_true (by simp only [List.length_nil]; omega)) M.i_pure
  have hq:(zbV p).Ends p:=by
    unfold zbV
    exact M.i_grd (decide_eq_true (by simp only [List.length_nil]; omega)) M.i_pure
  unfold zai
  refine M.i_bind (a:=true) ⟨60,by kernel_rfl⟩ (M.i_f ?_ (M.i_bind (a:=S6) ⟨60,by kernel_rfl⟩ (M.i_bind hc (M.i_bind hq (M.i_bind v1 (M.i_bind hw (M.i_bind hn (M.i_bind v2 (M.i_bind (same_ints V) ?_)))))))))
  · rw [decide_eq_false (by omega),decide_eq_false (by omega)]
    rfl
  refine M.i_f (by simp) (M.i_bind (pubs_ends (by omega)) (M.i_bind h1 (M.i_bind hw (M.i_bind hn (M.i_bind h2 (M.i_bind (same_ints rw_) ?_))))))
  have e1:(true&&(re==re))=true:=by simp
  refine M.i_bind (a:=true) (M.i_opt (fun _=>⟨60,by kernel_rfl⟩) (fun h=>by rw [e1] at h; cases h)) (M.i_bind (a:=true) (M.i_opt (fun _=>same_note _) (fun h=>by rw [e1] at h; cases h)) (M.i_bind (a:=true) (M.i_opt (fun _=>same_pub _) (fun h=>by rw [e1] at h; cases h)) (M.i_bind (a:=true) (M.i_opt (fun _=>awake_ends) (fun h=>by rw [e1] at h; cases h)) ?_)))
  rw [e1]
  exact M.i_pure
theorem six_ends:zaj.Ends S6:=⟨9,by kernel_rfl⟩
theorem last_a:(zai S6 (List.replicate 201 (default:Note)) []).Ends true:=values_true (k:=201) (by omega) (by simp) val_many rval_many (wd_err val_many) (rwd_err rval_many)
theorem last_b:(zai S6 ((List.replicate 201 (default:Note)).drop 1) (List.replicate 201 (default:Pub))).Ends true:=values_true (k:=200) (p:=PP 201) (by omega) (by rw [pp_len]; omega) val_full rval_full wd_many rwd_many
theorem last_c:(zai S6 ((List.replicate 201 (default:Note)).drop 1) ((List.replicate 201 (default:Pub)).drop 1)).Ends true:=values_true (k:=200) (p:=PP 200) (by omega) (by rw [pp_len]; omega) val_full rval_full wd_full rwd_full
end Go.Proofs.YtkclldpnmolljaaGreat
