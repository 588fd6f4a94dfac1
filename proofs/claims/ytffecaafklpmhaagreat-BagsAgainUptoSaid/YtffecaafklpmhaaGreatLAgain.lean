/- What is proved: BagsAgain answers true for all lists of terms, where what it reads is of bulk at most 1048576. -/
import Derived.Test.YtffecaafklpmhaaGreatData
set_option linter.unusedSimpArgs false
set_option linter.unusedVariables false
namespace Go.Proofs.YtffecaafklpmhaaGreat
open Go.Am Go.ChangeShapes Go.WideShapes Go.ChangeAt Go.RowKit
theorem sameAll_pure(l:List Tm)(hv:∀t∈l,t.valid=true)(hl:l.length<1000000000):S 12 [.pv none (.sl (some 4) (Tm.pvs l)),.pv none (.sl (some 4) (Tm.pvs l))] []=some (.ret (.pv none (.bool true)),[]):=by
 refine sem_pure rfl rfl rfl (freezeAll_pvs [(none,.sl (some 4) (Tm.pvs l)),(none,.sl (some 4) (Tm.pvs l))]) rfl ?_
 simp -dsimp -implicitDefEqProofs only[go_sem,seval,↓reduceIte]
 refine W_for (α:=Unit) l.length (fun _ _=>True) (fun i _=>⟨[(0,.pv none (.sl (some 4) (Tm.pvs l))),(1,.pv none (.sl (some 4) (Tm.pvs l))),(5,.pv none (.int .i64 i))],[]⟩) () ⟨trivial,rfl⟩ ?_ ?_
 ·rintro i - h -
  have hc:(i:Int)<(l.length:Int):=by omega
  obtain⟨u,hu⟩:∃u,l[i]? =some u:=⟨_,List.getElem?_eq_getElem h⟩
  have hum:=List.mem_of_getElem? hu
  have hus:=valid_size (hv u hum)
  have hcall:=fun hp=>rsame_ok u u hp (by omega) (by omega)
  rw[same_self (hv u hum)] at hcall
  simp only[Tm.av] at hcall
  have w2:IntKind.i64.wrap ((i:Int)+1)=((i+1:Nat):Int):=by rw[wrap64 (by omega) (by omega)];omega
  simp -dsimp -implicitDefEqProofs only[go_sem,seval,↓reduceIte,Tm.pvs_len,hc,s_iaddr_pv (Tm.pvs_get hu),hcall,w2]
  exact⟨(),trivial⟩
 ·rintro - -
  have hc:¬(l.length:Int)<(l.length:Int):=by omega
  simp -dsimp -implicitDefEqProofs only[go_sem,seval,↓reduceIte,Tm.pvs_len,hc]
theorem sizes_valid:∀l:List Tm,validAll l=true→Tm.sizes l≤2000*l.length
 |[],_=>Nat.zero_le _
 |x::r,h=>by
  have hx:=valid_size (validAll_mem h List.mem_cons_self)
  have ih:=sizes_valid r (by
   unfold validAll at h ⊢
   simp only[List.all_cons,Bool.and_eq_true] at h
   exact h.2)
  show x.size+Tm.sizes r≤2000*(r.length+1)
  omega
theorem sizes_permT{l r:List Tm}(h:l.Perm r):Tm.sizes l=Tm.sizes r:=by
 induction h with
 |nil=>rfl
 |cons x _ ih=>simp only[Tm.sizes,ih]
 |swap x y l=>simp only[Tm.sizes];omega
 |trans _ _ h1 h2=>rw[h1,h2]
theorem keysL_le(ts:List Tm):(keysL ts).length≤ts.length∧Tm.sizes (keysL ts)≤Tm.sizes ts:=by
 unfold keysL
 split
 ·exact⟨by rw[isort_length];exact Nat.le_refl _,by rw[sizes_permT (isort_perm ts)];exact Nat.le_refl _⟩
 ·exact⟨Nat.zero_le _,Nat.zero_le _⟩
theorem grps_len:∀(n:Nat) (l g:List Tm),grps n l=some g→g.length≤l.length
 |_,[],g,h=>by rw[grps] at h;cases h;exact Nat.le_refl _
 |0,_::_,g,h=>by rw[grps] at h;cases h;exact Nat.zero_le _
 |n+1,p::r,g,h=>by
  rw[grps] at h
  cases ht:grp p (r.filter fun q=>vari (keyOfT q) (keyOfT p)) with
  |none=>rw[ht] at h;cases h
  |some t=>
   rw[ht] at h
   cases e:grps n (r.filter fun q=> !vari (keyOfT q) (keyOfT p)) with
   |none=>rw[e] at h;cases h
   |some g'=>
    rw[e] at h
    cases h
    have h1:=grps_len n _ g' e
    have h2:(r.filter fun q=> !vari (keyOfT q) (keyOfT p)).length≤r.length:=List.length_filter_le _ _
    simp only[List.length_cons]
    omega
theorem groupsR_len(ts:List Tm):(groupsR ts).1.length≤ts.length:=by
 unfold groupsR
 split
 ·cases h:grps (keysL ts).length (keysL ts) with
  |some l=>exact Nat.le_trans (grps_len _ _ _ h) (keysL_le ts).1
  |none=>exact Nat.zero_le _
 ·exact Nat.zero_le _
theorem bagsAgain_sem(l:List Tm)(hl:Tm.sizes l≤1048576):S 5 [.pv none (.sl (some 4) (Tm.pvs l))] []=some (.ret (.pv none (.bool true)),[]):=by
 refine sem_pure rfl rfl rfl (freezeAll_pvs [(none,.sl (some 4) (Tm.pvs l))]) rfl ?_
 obtain⟨HA,haw⟩:=awake9
 by_cases h60:(60:Int)<(l.length:Int)
 ·simp -dsimp -implicitDefEqProofs only[go_sem,seval,↓reduceIte,Tm.pvs_len,h60,haw]
 ·have hll:l.length≤60:=by omega
  have hK:=rkeys_ok l (by omega) []
  have hG:=pgroups_ok l (by omega) (by omega) (fun hv=>by have:=sizes_valid l hv;omega) []
  by_cases he:keysE l=0
  ·have he':=eq_true he
   have hk:=keysL_le l
   have hG2:=pgroups_ok (keysL l) (by omega) (by omega) (fun hv=>by have:=sizes_valid _ hv;omega) []
   rw[groupsR_keys l he] at hG2
   have hS:=sameAll_pure (groupsR l).1 (groupsR_valid l) (by have:=groupsR_len l;omega)
   generalize groupsR l=R at*
   simp -dsimp -implicitDefEqProofs only[go_sem,seval,↓reduceIte,Tm.pvs_len,h60,haw,hK,hG,hG2,hS,he']
  ·have e:groupsR l=([],keysE l):=by unfold groupsR;rw[if_neg he]
   rw[e] at hG
   dsimp only at hG
   have e0:Tm.pvs []=[]:=rfl
   rw[e0] at hG
   simp -dsimp -implicitDefEqProofs only[go_sem,seval,↓reduceIte,Tm.pvs_len,h60,haw,hK,hG,he]
set_option maxRecDepth 100000 in
theorem bagsAgain_lifted(os:Os)(started:os.Started)(H:Type)(enc:TypeId × Value→H)(F:Stop.Interp):
  ReturnsInHanded {} Tryz.checked os 5 .any ((Rows.OpenSpec.upto Rows.bagsAgainSpec).pre6 enc Tryz.prog Tryz.f5 Rows.bagsAgainUptoRow.domain false) (((Rows.OpenSpec.upto Rows.bagsAgainSpec).at F).post enc Tryz.prog Tryz.f5 false true false false):=by
 refine returnsInHanded_of_cond (C:=Tryz.checked) (s:=(Rows.OpenSpec.upto Rows.bagsAgainSpec)) (k:=Rows.uptoSmall) rfl Tryz.own started (by kernel_rfl) Tryz.func5
  (OpenSpec.witness (enc:=enc) (C:=Tryz.checked) (s:=(Rows.OpenSpec.upto Rows.bagsAgainSpec)) (k:=Rows.uptoSmall) rfl false ⟨#[],#[.slice none 0 0],[]⟩ 8 (by kernel_rfl) (by kernel_rfl) (by kernel_rfl)
   (x:=([.nil],[],[])) (by kernel_rfl) rfl (by kernel_rfl)) ?_
 intro W base args ds gs before hval0 hW _ hk _
 have hval:∀(j:Nat) t v,Tryz.f5.params[j]? =some t→args[j]? =some v→Value.okWide Tryz.prog W .any base t v:=hval0
 have hb:=bulk_bound hk
 have hW':=hW
 obtain⟨p,q,hA0,hV,rfl,hfz,hnd⟩:=hW
 have hA:DataW.TrodAll enc Tryz.prog W 0 (fun _=>true) true Tryz.f5.params.toList args.toList ds p:=hA0
 rw[Tryz.params5] at hA hval
 clear hA0 hval0
 obtain⟨v0,vs0,d0,ds0,p0,q0,e0,rfl,rfl,h0,r0'⟩:=trodAll_cons hA
 obtain⟨e1,rfl,rfl⟩:=trodAll_nil r0'
 subst e1
 obtain rfl:args= #[v0]:=by cases args;simp_all
 obtain⟨rfl,rfl⟩:=trodVars_none hV
 obtain⟨t0,a0,z0,r0⟩:=open_terms h0 (hval 0 _ v0 rfl rfl)
 simp only[Rows.uptoBulkAll,List.append_nil] at hb
 exact law_contract sound Tryz.func5 (by kernel_rfl) Tryz.laidOut (s:=Rows.bagsAgainSpec) rfl rfl hW' (.cons a0 (.nil)) (bagsAgain_sem t0 (by omega))
theorem bagsAgain_holds:Rows.BagsAgainUptoSaid:=
 OpenClaim.holds_of_cond 5 Tryz.f5 rfl rfl rfl rfl rfl rfl rfl ⟨rfl,rfl,rfl,rfl,rfl⟩ rfl rfl rfl rfl rfl (by kernel_rfl) Tryz.func5 (by kernel_rfl)
  (of_decide_eq_true (by kernel_rfl)) (by unfold Func.isWrapper;first|(rw[if_pos (by decide+kernel)];kernel_rfl)|(rw[if_neg (by decide+kernel)];exact⟨rfl,rfl⟩))
  (fun os started H enc _ F=>bagsAgain_lifted os started H enc F)
end Go.Proofs.YtffecaafklpmhaaGreat
