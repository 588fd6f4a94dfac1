/- What resolved terms are, for valid bindings. -/
import Derived.Test.YtffecaafklpmhaaGreatRVd
import Derived.Test.YtffecaafklpmhaaGreatAm4
set_option linter.unusedSimpArgs false
set_option linter.unusedVariables false
namespace Go.Proofs.YtffecaafklpmhaaGreat
open Go.Am
mutual
def Tm.sub(f:Int→Tm):Tm→Tm
 | .mk k n s ts=>if k=0 then f n else .mk k n s (Tm.subs f ts)
def Tm.subs(f:Int→Tm):List Tm→List Tm
 |[]=>[]
 |t::r=>Tm.sub f t::Tm.subs f r
end
theorem Tm.subs_map(f:Int→Tm):∀l:List Tm,Tm.subs f l=l.map (Tm.sub f)
 |[]=>rfl
 |t::r=>by rw[Tm.subs,Tm.subs_map f r];rfl
theorem Tm.sub_eq(f:Int→Tm)(t:Tm):Tm.sub f t=if t.kind=0 then f t.n else .mk t.kind t.n t.name (t.args.map (Tm.sub f)):=by
 cases t with
 |mk k n s ts=>
  simp only[Tm.sub,Tm.kind,Tm.n,Tm.name,Tm.args,Tm.subs_map]
  by_cases h:k=0 <;> simp[h]
mutual
def Tm.wt(f:Int→Nat):Tm→Nat
 | .mk k n _ ts=>1+(if k=0 then f n else Tm.wts f ts)
def Tm.wts(f:Int→Nat):List Tm→Nat
 |[]=>0
 |t::r=>Tm.wt f t+Tm.wts f r
end
theorem Tm.wt_eq(f:Int→Nat)(t:Tm):Tm.wt f t=1+(if t.kind=0 then f t.n else Tm.wts f t.args):=by
 cases t;rfl
theorem Tm.wts_mem{f:Int→Nat}:∀{l:List Tm} {t:Tm},t∈l→Tm.wt f t≤Tm.wts f l
 |[],_,h=>by cases h
 |x::r,t,h=>by
  rw[Tm.wts]
  rcases List.mem_cons.1 h with rfl|h
  ·omega
  ·have:=Tm.wts_mem (f:=f) h;omega
theorem Tm.occs_mem{l:List Tm}{u:Tm}(h:u∈l){w:Int}(hw:w∈u.occ):w∈Tm.occs l:=by
 induction l with
 |nil=>cases h
 |cons x r ih=>
  rw[Tm.occs]
  rcases List.mem_cons.1 h with rfl|h
  ·exact List.mem_append_left _ hw
  ·exact List.mem_append_right _ (ih h)
theorem Tm.occs_inv{l:List Tm}{w:Int}(hw:w∈Tm.occs l):∃u∈l,w∈u.occ:=by
 induction l with
 |nil=>cases hw
 |cons x r ih=>
  rw[Tm.occs] at hw
  rcases List.mem_append.1 hw with h|h
  ·exact⟨x,List.mem_cons_self,h⟩
  ·obtain⟨u,hu,h⟩:=ih h
   exact⟨u,List.mem_cons_of_mem _ hu,h⟩
theorem Tm.occ_arg{t u:Tm}(hk:¬t.kind=0)(h:u∈t.args){w:Int}(hw:w∈u.occ):w∈t.occ:=by
 rw[Tm.occ_eq,if_neg hk]
 exact Tm.occs_mem h hw
theorem Tm.sub_congr{f g:Int→Tm}:∀t:Tm,(∀w∈t.occ,f w=g w)→Tm.sub f t=Tm.sub g t:=by
 intro t
 induction t using Tm.induct with
 |h t ih=>
  intro h
  rw[Tm.sub_eq,Tm.sub_eq]
  by_cases hk:t.kind=0
  ·rw[if_pos hk,if_pos hk]
   exact h _ (by rw[Tm.occ_eq,if_pos hk];simp)
  ·rw[if_neg hk,if_neg hk]
   congr 1
   exact List.map_congr_left fun u hu=>ih u hu fun w hw=>h w (Tm.occ_arg hk hu hw)
theorem Tm.wts_congr{f g:Int→Nat}:∀l:List Tm,(∀u∈l,Tm.wt f u=Tm.wt g u)→Tm.wts f l=Tm.wts g l
 |[],_=>rfl
 |x::r,h=>by rw[Tm.wts,Tm.wts,h x List.mem_cons_self,Tm.wts_congr r fun u hu=>h u (List.mem_cons_of_mem _ hu)]
theorem Tm.wt_congr{f g:Int→Nat}:∀t:Tm,(∀w∈t.occ,f w=g w)→Tm.wt f t=Tm.wt g t:=by
 intro t
 induction t using Tm.induct with
 |h t ih=>
  intro h
  rw[Tm.wt_eq,Tm.wt_eq]
  by_cases hk:t.kind=0
  ·rw[if_pos hk,if_pos hk,h _ (by rw[Tm.occ_eq,if_pos hk];simp)]
  ·rw[if_neg hk,if_neg hk]
   rw[Tm.wts_congr t.args fun u hu=>ih u hu fun w hw=>h w (Tm.occ_arg hk hu hw)]
def toB(l:List B)(v:Int):Tm:=match l[lbB l v]? with
 |some b=>b.2
 |none=>default
theorem fnd_get{l:List B}{v:Int}(h:fndB l v=true):l[lbB l v]? =some (v,toB l v):=by
 unfold fndB at h
 unfold toB
 cases e:l[lbB l v]? with
 |none=>rw[e] at h;cases h
 |some b=>
  rw[e] at h
  have:b.1=v:=by simpa using h
  rw[←this]
def Acyc(l:List B):Prop:=∃r:Int→Nat,∀v,fndB l v=true→∀w∈(toB l v).occ,fndB l w=true→r w<r v
theorem fnd_of{l:List B}(hs:Srt' l){i:Nat}{b:B}(hb:l[i]? =some b):fndB l b.1=true∧lbB l b.1=i:=by
 have hlt:=(List.getElem?_eq_some_iff.1 hb).1
 have h1:¬i<lbB l b.1:=fun h=>by have:=(lbB_spec (v:=b.1) hs hb).2 h;omega
 have h2:¬lbB l b.1<i:=fun h=>by
  obtain⟨c,hc⟩:∃c,l[lbB l b.1]? =some c:=⟨_,List.getElem?_eq_getElem (by omega)⟩
  have h3:c.1<b.1:=by
   obtain⟨l1,e1⟩:=List.getElem?_eq_some_iff.1 hc
   obtain⟨l2,e2⟩:=List.getElem?_eq_some_iff.1 hb
   have:=List.pairwise_iff_getElem.1 hs _ _ l1 l2 h
   rw[e1,e2] at this
   exact this
  have:=(lbB_spec (v:=b.1) hs hc).1 h3
  omega
 have e:lbB l b.1=i:=by omega
 refine⟨?_,e⟩
 unfold fndB
 rw[e,hb]
 simp
theorem OKB.Acyc{l:List B}(h:OKB l):Acyc l:=by
 obtain⟨rk,hr⟩:=h.acyc
 refine⟨fun v=>rk (lbB l v),fun v hv w hw hf=> ?_⟩
 exact hr _ _ (fnd_get hv) w hw hf
theorem okb_of{l:List B}(hG:Good l)(hr:∀b∈l,0≤b.1∧b.1≤1099511627776)(ha:Acyc l):OKB l:=by
 obtain⟨r,ha⟩:=ha
 refine⟨hG,hr,fun i=>match l[i]? with|some b=>r b.1|none=>0,fun i b hb w hw hf=> ?_⟩
 obtain⟨h1,h2⟩:=fnd_of hG.1 hb
 have h3:=fnd_get h1
 rw[h2,hb] at h3
 have h4:toB l b.1=b.2:=by cases e:toB l b.1;rw[e] at h3;cases b;cases h3;rfl
 simp only[fnd_get hf,hb]
 exact ha b.1 h1 w (by rw[h4];exact hw) hf
theorem fix_ex{X:Type}{l:List B}(h:Acyc l)(u:Int→X)(s:(Int→X)→Tm→X)(cg:∀f g t,(∀w∈t.occ,f w=g w)→s f t=s g t):
  ∃f:Int→X,∀v,f v=if fndB l v=true then s f (toB l v) else u v:=by
 obtain⟨rk,ha⟩:=h
 obtain⟨it,h0,h1⟩:∃it:Nat→Int→X,(∀v,it 0 v=u v)∧∀n v,it (n+1) v=if fndB l v=true then s (it n) (toB l v) else u v:=
  ⟨fun n=>Nat.rec u (fun _ f v=>if fndB l v=true then s f (toB l v) else u v) n,fun _=>rfl,fun _ _=>rfl⟩
 have hu:∀n v,¬fndB l v=true→it n v=u v:=fun n v hv=>by
  cases n with
  |zero=>exact h0 v
  |succ n=>rw[h1,if_neg hv]
 have stab:∀k n m v,rk v=k→k<n→k<m→it n v=it m v:=by
  intro k
  induction k using Nat.strongRecOn with
  |_ k ih=>
   intro n m v hk hn hm
   by_cases hv:fndB l v=true
   ·obtain⟨n',rfl⟩:∃n',n=n'+1:=⟨n - 1,by omega⟩
    obtain⟨m',rfl⟩:∃m',m=m'+1:=⟨m - 1,by omega⟩
    rw[h1,h1,if_pos hv,if_pos hv]
    refine cg _ _ _ fun w hw=> ?_
    by_cases hf:fndB l w=true
    ·have:=ha v hv w hw hf
     exact ih (rk w) (by omega) n' m' w rfl (by omega) (by omega)
    ·rw[hu _ _ hf,hu _ _ hf]
   ·rw[hu _ _ hv,hu _ _ hv]
 refine⟨fun v=>it (rk v+1) v,fun v=> ?_⟩
 by_cases hv:fndB l v=true
 ·rw[if_pos hv]
  show it (rk v+1) v=_
  rw[h1,if_pos hv]
  refine cg _ _ _ fun w hw=> ?_
  by_cases hf:fndB l w=true
  ·have:=ha v hv w hw hf
   exact stab (rk w) _ _ w rfl (by omega) (by omega)
  ·rw[hu _ _ hf,hu _ _ hf]
 ·rw[if_neg hv]
  exact hu _ _ hv
def tvar(v:Int):Tm:=.mk 0 v [] []
open Classical in
noncomputable def rsv(l:List B):Int→Tm:=if h:Acyc l then Classical.choose (fix_ex h tvar Tm.sub fun _ _ t h=>Tm.sub_congr t h) else tvar
theorem rsv_eq{l:List B}(h:Acyc l)(v:Int):rsv l v=if fndB l v=true then Tm.sub (rsv l) (toB l v) else tvar v:=by
 unfold rsv
 rw[dif_pos h]
 exact Classical.choose_spec (fix_ex h tvar Tm.sub fun _ _ t h=>Tm.sub_congr t h) v
open Classical in
noncomputable def muv(l:List B):Int→Nat:=if h:Acyc l then Classical.choose (fix_ex h (fun _=>0) Tm.wt fun _ _ t h=>Tm.wt_congr t h) else fun _=>0
theorem muv_eq{l:List B}(h:Acyc l)(v:Int):muv l v=if fndB l v=true then Tm.wt (muv l) (toB l v) else 0:=by
 unfold muv
 rw[dif_pos h]
 exact Classical.choose_spec (fix_ex h (fun _=>0) Tm.wt fun _ _ t h=>Tm.wt_congr t h) v
noncomputable def rs(l:List B)(t:Tm):Tm:=Tm.sub (rsv l) t
noncomputable def mu(l:List B)(t:Tm):Nat:=Tm.wt (muv l) t
theorem mu_arg(l:List B){t u:Tm}(hk:¬t.kind=0)(h:u∈t.args):mu l u<mu l t:=by
 unfold mu
 rw[Tm.wt_eq _ t,if_neg hk]
 have:=Tm.wts_mem (f:=muv l) h
 omega
theorem mu_to{l:List B}(h:Acyc l){t:Tm}(hk:t.kind=0)(hf:fndB l t.n=true):mu l (toB l t.n)<mu l t:=by
 unfold mu
 rw[Tm.wt_eq _ t,if_pos hk,muv_eq h,if_pos hf]
 omega
theorem rs_var{l:List B}(h:Acyc l){t:Tm}(hk:t.kind=0):rs l t=if fndB l t.n=true then rs l (toB l t.n) else tvar t.n:=by
 unfold rs
 rw[Tm.sub_eq,if_pos hk]
 exact rsv_eq h t.n
theorem rs_str(l:List B){t:Tm}(hk:¬t.kind=0):rs l t=.mk t.kind t.n t.name (t.args.map (rs l)):=by
 unfold rs
 rw[Tm.sub_eq,if_neg hk]
theorem node_var{t:Tm}(h:t.fits=true)(hk:t.kind=0):t=tvar t.n:=by
 rw[Tm.fits_eq] at h
 have h1:t.node=true:=by simp at h;exact h.1
 cases t with
 |mk k n s ts=>
  simp only[Tm.kind] at hk
  subst hk
  simp[Tm.node,Tm.kind,Tm.n,Tm.name,Tm.args] at h1
  obtain⟨⟨_,h3⟩,h4⟩:=h1
  rw[h4,of_decide_eq_true h3]
  rfl
theorem valid_fits{t:Tm}(h:t.valid=true):t.fits=true:=by simp[Tm.valid] at h;exact h.2
theorem valid_size{t:Tm}(h:t.valid=true):t.size≤2000:=by simp[Tm.valid] at h;exact h.1
theorem valid_of{t:Tm}(h:t.fits=true)(h2:t.size≤2000):t.valid=true:=by simp[Tm.valid,h,h2]
theorem OKB.to{l:List B}(h:OKB l){v:Int}(hf:fndB l v=true):(toB l v).valid=true∧(toB l v).size<1000000000:=h.good.2 _ (List.mem_of_getElem? (fnd_get hf))
def fstep(f:Int→Tm)(t:Tm):Tm:=if t.kind=0 then f t.n else t
theorem fstep_congr{f g:Int→Tm}(t:Tm)(h:∀w∈t.occ,f w=g w):fstep f t=fstep g t:=by
 unfold fstep
 by_cases hk:t.kind=0
 ·rw[if_pos hk,if_pos hk]
  exact h _ (by rw[Tm.occ_eq,if_pos hk];simp)
 ·rw[if_neg hk,if_neg hk]
open Classical in
noncomputable def flv(l:List B):Int→Tm:=if h:Acyc l then Classical.choose (fix_ex h tvar fstep fun _ _ t h=>fstep_congr t h) else tvar
theorem flv_eq{l:List B}(h:Acyc l)(v:Int):flv l v=if fndB l v=true then fstep (flv l) (toB l v) else tvar v:=by
 unfold flv
 simp only[dif_pos h]
 exact Classical.choose_spec (fix_ex h tvar fstep fun _ _ t h=>fstep_congr t h) v
noncomputable def flw(l:List B)(t:Tm):Tm:=fstep (flv l) t
theorem flw_str(l:List B){t:Tm}(hk:¬t.kind=0):flw l t=t:=by unfold flw fstep;rw[if_neg hk]
theorem flw_to{l:List B}(h:Acyc l){t:Tm}(hk:t.kind=0)(hf:fndB l t.n=true):flw l t=flw l (toB l t.n):=by
 unfold flw
 rw[fstep,if_pos hk,flv_eq h,if_pos hf]
theorem flw_free{l:List B}(h:Acyc l){t:Tm}(hv:t.fits=true)(hk:t.kind=0)(hf:¬fndB l t.n=true):flw l t=t:=by
 unfold flw
 rw[fstep,if_pos hk,flv_eq h,if_neg hf,←node_var hv hk]
theorem flw_ok{l:List B}(h:OKB l):∀(m:Nat) (t:Tm),mu l t=m→t.valid=true→(flw l t).valid=true∧rs l (flw l t)=rs l t∧mu l (flw l t)≤mu l t∧¬((flw l t).kind=0∧fndB l (flw l t).n=true):=by
 intro m
 induction m using Nat.strongRecOn with
 |_ m ih=>
  intro t hm hv
  by_cases hk:t.kind=0
  ·by_cases hf:fndB l t.n=true
   ·have hlt:=mu_to h.Acyc hk hf
    obtain⟨h1,h2,h3,h4⟩:=ih _ (by omega) (toB l t.n) rfl (h.to hf).1
    rw[flw_to h.Acyc hk hf]
    exact⟨h1,by rw[h2,rs_var h.Acyc hk,if_pos hf],by omega,h4⟩
   ·rw[flw_free h.Acyc (valid_fits hv) hk hf]
    exact⟨hv,rfl,Nat.le_refl _,fun e=>hf e.2⟩
  ·rw[flw_str l hk]
   exact⟨hv,rfl,Nat.le_refl _,fun e=>hk e.1⟩
theorem rs_free{l:List B}(h:Acyc l){t:Tm}(hv:t.fits=true)(hk:t.kind=0)(hf:¬fndB l t.n=true):rs l t=t:=by
 rw[rs_var h hk,if_neg hf,←node_var hv hk]
theorem rs_fits{l:List B}(h:OKB l):∀(m:Nat) (t:Tm),mu l t=m→t.fits=true→(rs l t).fits=true:=by
 intro m
 induction m using Nat.strongRecOn with
 |_ m ih=>
  intro t hm hv
  by_cases hk:t.kind=0
  ·by_cases hf:fndB l t.n=true
   ·have hlt:=mu_to h.Acyc hk hf
    rw[rs_var h.Acyc hk,if_pos hf]
    exact ih _ (by omega) _ rfl (valid_fits (h.to hf).1)
   ·rw[rs_free h.Acyc hv hk hf];exact hv
  ·rw[rs_str l hk,Tm.fits_eq]
   have h1:=hv
   rw[Tm.fits_eq] at h1
   simp only[Bool.and_eq_true] at h1 ⊢
   refine⟨?_,Tm.fitsAll_iff.2 fun u hu=> ?_⟩
   ·have:=h1.1
    cases t
    simp only[Tm.node,Tm.kind,Tm.n,Tm.name,Tm.args,List.length_map] at this ⊢
    exact this
   ·obtain⟨w,hw,rfl⟩:=List.mem_map.1 hu
    have:=mu_arg l hk hw
    exact ih _ (by omega) w rfl (Tm.fits_arg hv hw)
def rawP(k n:Int)(s:List UInt8)(es:List PV):PV:=.agg [(none,.int .i64 k),(none,.int .i64 n),(none,.str s),(none,.sl (some 4) es)]
theorem frozen_raw{hp:Heap}{r:Nat}(k n:Int)(s:List UInt8)(es:List PV)(m:Nat)(hm:m=es.length)(h:hp[r]? =some (.arr (some 4) es false)):Am.frozen (.pv (some 4) (rawP k n s es)) (.agg [(none,.pv none (.int .i64 k)),(none,.pv none (.int .i64 n)),(none,.pv none (.str s)),(none,.sl (some 4) r m 0 m)]) hp:=by
 subst hm
 refine⟨hp.set r (.arr (some 4) es true),?_⟩
 show(match AV.freeze (7+1) (.agg _) hp with|some (p,hp')=>some (AV.pv _ p,hp')|none=>none)=_
 have e:∀l hp,AV.freeze (7+1) (.agg l) hp=match AV.freeze.go 7 l hp with|some (ps,hp')=>some (.agg ps,hp')|none=>none:=fun _ _=>rfl
 simp[e,AV.freeze.go,AV.freeze,h,rawP]
 rfl
def appG(t:Tm)(es:List PV):Heap:=[.box (some 4) (.pv (some 4) t.pv),.box (some 4) (.agg [(none,.pv none (.int .i64 0)),(none,.pv none (.int .i64 0)),(none,.pv none (.str [])),(none,.sl (some 4) 2 0 0 0)]),.arr (some 4) [] false,.box (some 4) (.agg [(none,.pv none (.int .i64 t.kind)),(none,.pv none (.int .i64 t.n)),(none,.pv none (.str t.name)),(none,.sl (some 4) 5 es.length 0 es.length)]),.arr (some 4) [] false,.arr (some 4) es false]
def RV(R:Tm)(left:Nat)(v:AV):Prop:=∃(p:PV) (e:Int),v=.tuple [.pv (some 4) p,.pv none (.int .i64 e)]∧(R.size≤left→p=R.pv∧e=(left:Int) - R.size)∧(left<R.size→e= -1)
def zt:Tm:=.mk 0 0 [] []
noncomputable def rsd(l:List B)(t:Tm):Tm × Bool:=if(rs l t).size≤2000 then(rs l t,true) else(zt,false)
theorem frozen_two(p q:PV)(s s':Sh)(hp:Heap):Am.frozen (.tuple [.pv s p,.pv s' q]) (.tuple [.pv s p,.pv s' q]) hp:=by
 refine⟨hp,?_⟩
 have:=freezeAll_pvs (hp:=hp) [(s,p),(s',q)]
 simp only[pvs,List.map_cons,List.map_nil] at this
 simp only[AV.freezeRes,this]
 rfl
theorem frozen_zt2(q:PV)(hp:Heap)(r:Nat)(h:hp[r]? =some (.arr (some 4) [] false)):Am.frozen (.tuple [zt.av,.pv none q]) (.tuple [.agg [(none,.pv none (.int .i64 0)),(none,.pv none (.int .i64 0)),(none,.pv none (.str [])),(none,.sl (some 4) r 0 0 0)],.pv none q]) hp:=by
 refine⟨hp.set r (.arr (some 4) [] true),?_⟩
 have e:∀l hp,AV.freeze (7+1) (.agg l) hp=match AV.freeze.go 7 l hp with|some (ps,hp')=>some (.agg ps,hp')|none=>none:=fun _ _=>rfl
 have e2:∀p hp,AV.freeze (7+1) (.pv none p) hp=some (p,hp):=fun _ _=>rfl
 simp[AV.freezeRes,freezeAll,deep,e,e2,AV.freeze.go,AV.freeze,h,pvs,AV.shp]
 rfl
theorem hb0:sBuild [(none,.pv none (.int .i64 0)),(none,.pv none (.int .i64 0)),(none,.pv none (.str [])),(none,.tsl (some 4) [])] [] []=some (.agg [(none,.pv none (.int .i64 0)),(none,.pv none (.int .i64 0)),(none,.pv none (.str [])),(none,.tsl (some 4) [])]):=rfl
def ints(l:List Int):List PV:=l.map (.int .i64)
theorem ints_len(l:List Int):(ints l).length=l.length:=by simp[ints]
theorem ints_get{l:List Int}{i:Nat}{x:Int}(h:l[i]? =some x):(ints l)[i]? =some (.int .i64 x):=by simp[ints,h]
theorem ints_snoc(l:List Int)(x:Int):ints l++[.int .i64 x]=ints (l++[x]):=by simp[ints]
def posI(l:List Int)(x:Int):Int:=if x∈l then(l.idxOf x:Int) else -1
def vadd(s:List Int)(w:Int):List Int:=if w∈s then s else s++[w]
def vads(s:List Int)(ws:List Int):List Int:=ws.foldl vadd s
theorem vads_app(s a b:List Int):vads s (a++b)=vads (vads s a) b:=by simp[vads]
theorem vads_len(ws:List Int):∀s:List Int,(vads s ws).length≤s.length+ws.length:=by
 induction ws with
 |nil=>intro s;simp[vads]
 |cons w r ih=>
  intro s
  have:=ih (vadd s w)
  have h2:(vadd s w).length≤s.length+1:=by unfold vadd;split <;> simp
  simp only[vads,List.foldl_cons,List.length_cons] at this ⊢
  omega
theorem vads_mem(ws:List Int):∀(s:List Int) (x:Int),x∈vads s ws↔x∈s∨x∈ws:=by
 induction ws with
 |nil=>intro s x;simp[vads]
 |cons w r ih=>
  intro s x
  have:=ih (vadd s w) x
  simp only[vads,List.foldl_cons] at this ⊢
  rw[this]
  unfold vadd
  split
  ·rename_i h
   simp only[List.mem_cons]
   constructor
   ·rintro(h1|h1) <;> simp[h1]
   ·rintro(h1|rfl|h1)
    ·exact .inl h1
    ·exact .inl h
    ·exact .inr h1
  ·simp only[List.mem_append,List.mem_cons,List.not_mem_nil,or_false]
   constructor
   ·rintro((h1|h1)|h1) <;> simp[h1]
   ·rintro(h1|h1|h1) <;> simp[h1]
def IsV(s:AV)(hp:Heap)(l:List Int):Prop:=(s=.tsl none []∧l=[])∨∃r,s=.sl none r l.length 0 l.length∧hp[r]? =some (.arr none (ints l) false)
def PresV(s:AV)(hp hp':Heap):Prop:=hp.length≤hp'.length∧∀(i:Nat) (x:AObj),hp[i]? =some x→(∀v o n,s≠.sl none i v o n)→hp'[i]? =some x
def OwnV(s:AV)(hp:Heap)(s':AV):Prop:=∀r v o n,s'=.sl none r v o n→(∃v o n,s=.sl none r v o n)∨hp.length≤r
theorem PresV.refl(s:AV)(hp:Heap):PresV s hp hp:=⟨Nat.le_refl _,fun _ _ h _=>h⟩
theorem OwnV.refl(s:AV)(hp:Heap):OwnV s hp s:=fun r v o n h=>.inl ⟨v,o,n,h⟩
theorem IsV.more{s:AV}{hp:Heap}{l:List Int}(h:IsV s hp l)(e:Heap):IsV s (hp++e) l:=by
 rcases h with h|⟨r,h1,h2⟩
 ·exact .inl h
 ·exact .inr ⟨r,h1,by rw[List.getElem?_append_left (get_lt h2)];exact h2⟩
theorem OwnV.trans{s s1 s2:AV}{hp hp1:Heap}(h1:OwnV s hp s1)(hl:hp.length≤hp1.length)(h2:OwnV s1 hp1 s2):OwnV s hp s2:=fun r v o n e=>by
 rcases h2 r v o n e with⟨v',o',n',e'⟩|h
 ·exact h1 r v' o' n' e'
 ·exact .inr (by omega)
theorem PresV.trans{s s1:AV}{hp hp1 hp2:Heap}(h1:PresV s hp hp1)(ho:OwnV s hp s1)(h2:PresV s1 hp1 hp2):PresV s hp hp2:=
 ⟨Nat.le_trans h1.1 h2.1,fun i x hx hne=>h2.2 i x (h1.2 i x hx hne) fun v o n e=>by
  rcases ho i v o n e with⟨v',o',n',e'⟩|h
  ·exact hne v' o' n' e'
  ·have:=get_lt hx;omega⟩
theorem PresV.take{s:AV}{hp hp1:Heap}{n:Nat}(h:PresV s hp hp1)(hn:hp.length≤n):PresV s hp (hp1.take n):=
 ⟨by rw[List.length_take];have:=h.1;omega,fun i x hx hne=>by
  have:=get_lt hx
  rw[List.getElem?_take,if_pos (by omega)]
  exact h.2 i x hx hne⟩
theorem PresV.less{s:AV}{hp e hp1:Heap}(h:PresV s (hp++e) hp1):PresV s hp hp1:=
 ⟨by have:=h.1;simp at this;omega,fun i x hx hne=>h.2 i x (by rw[List.getElem?_append_left (get_lt hx)];exact hx) hne⟩
theorem OwnV.less{s s':AV}{hp e:Heap}(h:OwnV s (hp++e) s'):OwnV s hp s':=fun r v o n h1=>by
 rcases h r v o n h1 with h|h
 ·exact .inl h
 ·exact .inr (by simp at h;omega)
theorem IsV.take{s:AV}{hp:Heap}{l:List Int}{n:Nat}(h:IsV s hp l)(hr:∀q∈s.refsIn,q<n):IsV s (hp.take n) l:=by
 rcases h with h|⟨r,rfl,h2⟩
 ·exact .inl h
 ·have:r<n:=hr r (by simp[AV.refsIn])
  exact .inr ⟨r,rfl,by rw[List.getElem?_take,if_pos this];exact h2⟩
theorem IsV.freeze{s:AV}{hp:Heap}{l:List Int}(h:IsV s hp l):∃hp1,AV.freeze deep s hp=some (.sl none (ints l),hp1)∧s.shp=none∧s.plain=true:=by
 rcases h with⟨rfl,rfl⟩|⟨r,rfl,h⟩
 ·exact⟨hp,rfl,rfl,rfl⟩
 ·exact⟨hp.set r (.arr none (ints l) true),by simp[AV.freeze,deep,h,ints_len],rfl,rfl⟩
theorem isV_frozen{s:AV}{H:Heap}{l:List Int}(h:IsV s H l):Am.frozen (.pv none (.sl none (ints l))) s H:=by
 rcases h with⟨rfl,rfl⟩|⟨r,rfl,h⟩
 ·exact⟨H,rfl⟩
 ·exact⟨H.set r (.arr none (ints l) true),by simp[AV.freezeRes,AV.freeze,deep,h,ints_len,AV.shp]⟩
theorem res_two{st:St}{o r:Nat}{sh:Sh}{v q:AV}{K:AV→Prop}[Tag K](h1:st.fr.look o=some (.ptr r 0))(h2:st.hp[r]? =some (.box sh v)):valK (tupO (consO (resultAt st (o,some sh)) (some [q]))) K=K (.tuple [v,q]):=by
 rw[resultAt_c,h1]
 simp only[aload_box h2]
 rfl
theorem node_n{t:Tm}(h:t.fits=true)(hk:t.kind=0):0≤t.n∧t.n≤1099511627776:=by
 rw[Tm.fits_eq] at h
 have h1:t.node=true:=by simp at h;exact h.1
 cases t with
 |mk k n s ts=>
  simp only[Tm.kind] at hk
  subst hk
  simp[Tm.node,Tm.kind,Tm.n,Tm.name,Tm.args] at h1
  obtain⟨⟨⟨h2,h3⟩,_⟩,_⟩:=h1
  exact⟨of_decide_eq_true h2,of_decide_eq_true h3⟩
theorem occ_rng:∀{t:Tm},t.fits=true→∀w∈t.occ,0≤w∧w≤1099511627776:=by
 intro t
 induction t using Tm.induct with
 |h t ih=>
  intro hf w hw
  rw[Tm.occ_eq] at hw
  by_cases hk:t.kind=0
  ·rw[if_pos hk,List.mem_singleton] at hw
   rw[hw]
   exact node_n hf hk
  ·rw[if_neg hk] at hw
   obtain⟨u,hu,h⟩:=Tm.occs_inv hw
   exact ih u hu (Tm.fits_arg hf hu) w h
def mFind(v:Int):List (Int × PV)→Option PV
 |[]=>none
 |x::r=>if x.1=v then some x.2 else mFind v r
def mPut(v:Int)(p:PV):List (Int × PV)→List (Int × PV)
 |[]=>[(v,p)]
 |x::r=>if x.1=v then(v,p)::r else x::mPut v p r
def kEnts(m:List (Int × PV)):List (PV × PV):=m.map fun x=>(.int .i64 x.1,x.2)
theorem kEnts_find(v:Int):∀m,afind false (.int .i64 v) (kEnts m)=some (mFind v m)
 |[]=>rfl
 |x::r=>by
  have ih:=kEnts_find v r
  unfold kEnts at ih ⊢
  simp only[List.map_cons,afind,PV.same,if_true,mFind]
  by_cases h:x.1=v
  ·simp[h]
  ·have h':¬v=x.1:=fun e=>h e.symm
   simp only[decide_eq_false h',if_neg h]
   exact ih
theorem kEnts_put(v:Int)(p:PV):∀m,aput false (.int .i64 v) p (kEnts m)=some (kEnts (mPut v p m))
 |[]=>rfl
 |x::r=>by
  have ih:=kEnts_put v p r
  unfold kEnts at ih ⊢
  simp only[List.map_cons,aput,PV.same,if_true,mPut]
  by_cases h:x.1=v
  ·simp[h]
  ·have h':¬v=x.1:=fun e=>h e.symm
   simp only[decide_eq_false h',if_neg h,List.map_cons]
   rw[ih]
theorem mFind_put(v w:Int)(p:PV):∀m,mFind v (mPut w p m)=if v=w then some p else mFind v m
 |[]=>by
  by_cases h:v=w
  ·simp[mPut,mFind,h]
  ·have h':¬w=v:=fun e=>h e.symm
   simp[mPut,mFind,h,h']
 |x::r=>by
  have ih:=mFind_put v w p r
  unfold mPut
  by_cases h:x.1=w
  ·rw[if_pos h]
   by_cases e:v=w
   ·simp[mFind,e]
   ·have e':¬w=v:=fun q=>e q.symm
    have e2:¬x.1=v:=fun q=>e (q.symm.trans h)
    simp[mFind,e,e',e2]
  ·rw[if_neg h]
   simp only[mFind,ih]
   by_cases e:x.1=v
   ·have e2:¬v=w:=fun q=>h (e.trans q)
    simp[e,e2]
   ·simp[e]
theorem look_m{m:List (Int × PV)}{z:PV}{hp:Heap}{r:Nat}{s:Sh}{v:Int}(h:hp[r]? =some (.map none (kEnts m))):rLookup false none (.pv none z) false hp [.map r,.pv s (.int .i64 v)]=some (.pv none ((mFind v m).getD z)):=by
 have hf:=kEnts_find v m
 cases hm:mFind v m with
 |none=>rw[hm] at hf;exact r_lookup_none h hf
 |some x=>rw[hm] at hf;exact r_lookup_some h hf
def seenM(l:List Int):List (Int × PV):=l.map fun v=>(v,.int .i64 1)
theorem seenM_find(v:Int):∀l:List Int,(mFind v (seenM l)).getD (.int .i64 0)=.int .i64 (if v∈l then 1 else 0)
 |[]=>rfl
 |x::r=>by
  have ih:=seenM_find v r
  unfold seenM at ih ⊢
  simp only[List.map_cons,mFind]
  by_cases h:x=v
  ·subst h;simp
  ·have h':¬v=x:=fun e=>h e.symm
   rw[if_neg h,ih]
   simp[h']
theorem seenM_put(v:Int):∀l:List Int,v ∉ l→mPut v (.int .i64 1) (seenM l)=seenM (l++[v])
 |[],_=>rfl
 |x::r,h=>by
  have ih:=seenM_put v r fun hm=>h (List.mem_cons_of_mem _ hm)
  unfold seenM at ih ⊢
  simp only[List.map_cons,mPut,List.cons_append]
  have h':¬x=v:=fun e=>h (by rw[e];exact List.mem_cons_self)
  rw[if_neg h',ih]
def gV(t:Tm)(l:List Int):Heap:=[.box (some 4) (.pv (some 4) t.pv),.arr none [] false,.box none (.sl none 3 l.length 0 l.length),.arr none (ints l) false,.map none (kEnts (seenM l)),.box none (.map 4)]
theorem vars1_ok(t0 u:Tm)(l:List Int)(ext:Heap)(hl:l.length<100000000):
  S 108 [u.av,.ptr 5 0,.ptr 2 0] (gV t0 l++ext)=some (.ret u.av,gV t0 (vadd l u.n)++ext):=by
 refine sem_heap rfl rfl rfl rfl ?_
 have hlim:l.length+1≤lim:=by unfold lim;omega
 by_cases hm:u.n∈l
 ·have e:vadd l u.n=l:=by simp[vadd,hm]
  rw[e]
  have hlk:∀(a0 a1 a2 a3 a5:AObj) (e:Heap),rLookup false none (.pv none (.int .i64 0)) false (a0::a1::a2::a3::.map none (kEnts (seenM l))::a5::e) [.map 4,.pv none (.int .i64 u.n)]=some (.pv none (.int .i64 1)):=fun a0 a1 a2 a3 a5 e=>by
   rw[look_m (m:=seenM l) rfl,seenM_find,if_pos hm]
  simp -dsimp -implicitDefEqProofs only[go_sem,seval,↓reduceIte,gV,List.append_assoc,get_pre,get_pre0,set_pre,set_pre0,Nat.add_assoc,List.length_append,Tm.av,part_n,hlk]
  rw[if_pos (by simp[AV.refsIn])]
  simp
 ·have e:vadd l u.n=l++[u.n]:=by simp[vadd,hm]
  rw[e]
  have hlk:∀(a0 a1 a2 a3 a5:AObj) (e:Heap),rLookup false none (.pv none (.int .i64 0)) false (a0::a1::a2::a3::.map none (kEnts (seenM l))::a5::e) [.map 4,.pv none (.int .i64 u.n)]=some (.pv none (.int .i64 0)):=fun a0 a1 a2 a3 a5 e=>by
   rw[look_m (m:=seenM l) rfl,seenM_find,if_neg hm]
  have hms:∀(a0 a1 a2 a3 a5:AObj) (e:Heap),wMapset false none (a0::a1::a2::a3::.map none (kEnts (seenM l))::a5::e) [.map 4,.pv none (.int .i64 u.n),.pv none (.int .i64 1)]=some (.undef,a0::a1::a2::a3::.map none (kEnts (seenM (l++[u.n])))::a5::e):=fun a0 a1 a2 a3 a5 e=>by
   rw[w_mapset_pv (es:=kEnts (seenM l)) rfl (kEnts_put _ _ _),seenM_put _ _ hm]
   rfl
  have hst:∀(n o' n':Nat) (a0 a1 a3 a4 a5:AObj) (e:Heap) (b:Nat),wStore none (b+6) (a0::a1::.box none (.sl none 3 n 0 n)::a3::a4::a5::e) [.ptr 2 0,.sl none 3 n' o' n']=some (.undef,a0::a1::.box none (.sl none 3 n' o' n')::a3::a4::a5::e):=fun n o' n' a0 a1 a3 a4 a5 e b=>w_store_sl_out (by omega) rfl
  simp -dsimp -implicitDefEqProofs only[go_sem,seval,↓reduceIte,gV,List.append_assoc,get_pre,get_pre0,set_pre,set_pre0,Nat.add_assoc,List.length_append,Tm.av,part_n,hlk,hms,hst,ints_len,hlim,ints_snoc]
  rw[if_pos (by simp[AV.refsIn])]
  simp
theorem apply_vars(t0:Tm):∀(t:Tm) (l:List Int) (ext:Heap),t.fits=true→t.size<10000000→l.length+t.size<100000000→
  ∃v e,S 88 [t.av,.func (.func 108) [] [.ptr 5 0,.ptr 2 0]] (gV t0 l++ext)=some (.ret v,gV t0 (vads l t.occ)++(ext++e))∧v.shp=some 4∧v.plain=true∧
   ∃e2,AV.freeze deep v (gV t0 (vads l t.occ)++(ext++e))=some (t.pv,gV t0 (vads l t.occ)++(ext++e2)):=by
 intro t
 induction t using Tm.induct with
 |h t ih=>
  intro l ext hf ht hl
  have hts:=t.size_eq
  have hlen:=Tm.sizes_len t.args
  obtain⟨K,hK⟩:∃K:List Int→Heap,K=fun l=>gV t0 l++ext:=⟨_,rfl⟩
  have hKs:∀l,gV t0 l++ext=K l:=fun l=>by rw[hK]
  have hKl:∀l,(K l).length=ext.length+6:=fun l=>by rw[←hKs];simp[gV]
  have hKa:∀l X,gV t0 l++(ext++X)=K l++X:=fun l X=>by rw[←hKs,List.append_assoc]
  simp only[hKa,hKs]
  obtain⟨n,hn⟩:∃n,n=ext.length+6:=⟨_,rfl⟩
  rw[←hn] at hKl
  rw[Tm.occ_eq]
  by_cases hk:t.kind=0
  ·rw[if_pos hk]
   have h1:=fun X=>vars1_ok t0 t l (ext++X) (by omega)
   simp only[hKa] at h1
   have e1:vads l [t.n]=vadd l t.n:=rfl
   rw[e1]
   refine⟨t.av,[],?_,rfl,rfl,⟨[],rfl⟩⟩
   rw[List.append_nil]
   refine sem_heap rfl rfl rfl rfl ?_
   have hk':=eq_true hk
   simp only[Tm.av] at h1
   simp -dsimp -implicitDefEqProofs only[go_sem,seval,↓reduceIte,Tm.av,part_kind,hk',h1,List.append_assoc,get_pre,get_pre0,set_pre,set_pre0,Nat.add_assoc,List.length_append,hKl,getN (hKl _),getN0 (hKl _),setN (hKl _),setN0 (hKl _)]
   rw[if_pos (by simp[AV.refsIn]),←hKl (vadd l t.n)]
   exact List.take_left
  ·rw[if_neg hk]
   refine⟨.agg [(none,.pv none (.int .i64 t.kind)),(none,.pv none (.int .i64 t.n)),(none,.pv none (.str t.name)),(none,.sl (some 4) (n+5) t.args.length 0 t.args.length)],
    [.box (some 4) (.pv (some 4) t.pv),.box (some 4) (.agg [(none,.pv none (.int .i64 t.kind)),(none,.pv none (.int .i64 t.n)),(none,.pv none (.str t.name)),(none,.sl (some 4) (n+5) t.args.length 0 t.args.length)]),.arr (some 4) [] false,.box (some 4) (.agg [(none,.pv none (.int .i64 t.kind)),(none,.pv none (.int .i64 t.n)),(none,.pv none (.str t.name)),(none,.sl (some 4) (n+5) t.args.length 0 t.args.length)]),.arr (some 4) [] false,.arr (some 4) (Tm.pvs t.args) false],?_,rfl,rfl,?_⟩
   ·refine sem_heap rfl rfl rfl rfl ?_
    have hk':=eq_false hk
    have hb:sBuild [(none,.pv none (.int .i64 0)),(none,.pv none (.int .i64 0)),(none,.pv none (.str [])),(none,.tsl (some 4) [])] [0,1,2] [.pv none (.int .i64 t.kind),.pv none (.int .i64 t.n),.pv none (.str t.name)]=some (.agg [(none,.pv none (.int .i64 t.kind)),(none,.pv none (.int .i64 t.n)),(none,.pv none (.str t.name)),(none,.tsl (some 4) [])]):=rfl
    have hle:∀k,n≤n+k:=fun k=>Nat.le_add_right _ _
    rw[hKl]
    simp -dsimp -implicitDefEqProofs only[go_sem,seval,↓reduceIte,Tm.av,part_kind,part_n,part_name,part_args,hk',Tm.pvs_len,hb,w_store_agg (Nat.le_add_right _ _),List.append_assoc,get_pre,get_pre0,set_pre,set_pre0,Nat.add_assoc,List.length_append,hKl,getN (hKl _),getN0 (hKl _),setN (hKl _),setN0 (hKl _)]
    refine W_for (α:=Unit) t.args.length (fun _ _=>True) (fun i _=>⟨[(1,.func (.func 108) [] [.ptr 5 0,.ptr 2 0]),(4,.ptr (n+1) 0),(5,.ptr (n+3) 0),(22,.pv none (.sl (some 4) (Tm.pvs t.args))),(23,.pv none (.int .i64 t.args.length)),(24,.pv none (.int .i64 i))],K (vads l (Tm.occs (t.args.take i)))++appH n t i⟩) () ⟨trivial,?_⟩ ?_ ?_
    ·rw[List.take_zero]
     rfl
    ·rintro i - h -
     have hc:(i:Int)<(t.args.length:Int):=by omega
     obtain⟨u,hu⟩:∃u,t.args[i]? =some u:=⟨_,List.getElem?_eq_getElem h⟩
     have hum:=List.mem_of_getElem? hu
     have husz:=Tm.arg_lt hum
     have hst:=Tm.sizes_take hu
     have hle2:=Tm.sizes_take_le t.args (i+1)
     have hvl:=vads_len (Tm.occs (t.args.take i)) l
     have hol:=Tm.occs_len (t.args.take i)
     obtain⟨v,e,hcall,hvs,hvp,e2,hfz⟩:=ih u hum (vads l (Tm.occs (t.args.take i))) (ext++(appH n t i++[.box (some 4) (.pv (some 4) u.pv),.arr (some 4) [] false])) (Tm.fits_arg hf hum) (by omega) (by omega)
     rw[←vads_app,←Tm.occs_take hu] at hcall hfz
     simp only[List.append_assoc,hKa] at hcall hfz
     generalize vads l (Tm.occs (t.args.take (i+1)))=l2 at hcall hfz ⊢
     generalize vads l (Tm.occs (t.args.take i))=l1 at hcall hfz hvl ⊢
     have w2:IntKind.i64.wrap ((i:Int)+1)=((i+1:Nat):Int):=by rw[wrap64 (by omega) (by omega)];omega
     have hl:(Tm.pvs (t.args.take i)).length=i:=by rw[Tm.pvs_len,List.length_take];omega
     have hlim:i+1≤lim:=by unfold lim;omega
     have hbs:wBslice (some 4) (K l2++(appH n t i++([.box (some 4) (.pv (some 4) u.pv),.arr (some 4) [] false]++e))) [v]=some (.tsl (some 4) [u.pv],K l2++(appH n t i++([.box (some 4) (.pv (some 4) u.pv),.arr (some 4) [] false]++e2))):=by
      simp only[wBslice,freezeAll,hfz,hvs,ofShape,if_true]
     have hs1:∀(k k':List Int) (e e':Heap),samePtr (K k++(appH n t i++e)) (K k'++(appH n t i++e')) (.ptr (n+3) 3)=true:=fun k k' e e'=>samePtr_c (t:=t) (q:=n+5) (i:=i) (by rw[getN (hKl _)];rfl) (by rw[getN (hKl _)];rfl)
     simp only[Tm.av] at hcall
     simp only[appH,List.append_assoc,List.cons_append,List.nil_append] at hcall hbs hs1
     simp -dsimp -implicitDefEqProofs only[go_sem,seval,↓reduceIte,appH,hc,s_iaddr_pv (Tm.pvs_get hu),op_bslicen,List.take_succ_cons,List.drop_succ_cons,List.all_cons,List.all_nil,hcall,hbs,hs1,w2,hl,hlim,Tm.pvs_take_succ hu,w_store_agg (Nat.le_add_right _ _),w_store_sl (Nat.le_add_right _ _),List.append_assoc,get_pre,get_pre0,set_pre,set_pre0,Nat.add_assoc,List.length_append,hKl,getN (hKl _),getN0 (hKl _),setN (hKl _),setN0 (hKl _)]
     refine⟨(),?_⟩
     rw[collect_pre 6 (hKl _) rfl (by simp[AObj.refs,AV.ofComps,pures,AV.refsIn,AV.refsIn.go]) (by simp[AV.refsIn,AV.refsIn.gol])]
     rfl
    ·rintro - -
     have hc:¬(t.args.length:Int)<(t.args.length:Int):=by omega
     simp -dsimp -implicitDefEqProofs only[go_sem,seval,↓reduceIte,appH,hc,List.take_length,own_cons_sl,w_store_agg (Nat.le_add_right _ _),w_store_sl (Nat.le_add_right _ _),List.append_assoc,get_pre,get_pre0,set_pre,set_pre0,Nat.add_assoc,List.length_append,hKl,getN (hKl _),getN0 (hKl _),setN (hKl _),setN0 (hKl _)]
     rw[if_neg (by simp[AV.refsIn,AV.refsIn.go])]
   ·have e:∀l hp,AV.freeze (7+1) (.agg l) hp=match AV.freeze.go 7 l hp with|some (ps,hp')=>some (.agg ps,hp')|none=>none:=fun _ _=>rfl
    cases t with
    |mk k n' s ts=>
     refine⟨[.box (some 4) (.pv (some 4) (Tm.mk k n' s ts).pv),.box (some 4) (.agg [(none,.pv none (.int .i64 k)),(none,.pv none (.int .i64 n')),(none,.pv none (.str s)),(none,.sl (some 4) (n+5) ts.length 0 ts.length)]),.arr (some 4) [] false,.box (some 4) (.agg [(none,.pv none (.int .i64 k)),(none,.pv none (.int .i64 n')),(none,.pv none (.str s)),(none,.sl (some 4) (n+5) ts.length 0 ts.length)]),.arr (some 4) [] false,.arr (some 4) (Tm.pvs ts) true],?_⟩
     show AV.freeze (7+1) (.agg _) _=_
     simp[e,AV.freeze.go,AV.freeze,getN (hKl _),setN (hKl _),Tm.kind,Tm.n,Tm.name,Tm.args,Tm.pvs_len,Tm.pv]
theorem pVars_ok(t:Tm)(hv:t.valid=true)(hp:Heap):S 64 [t.av] hp=some (.ret (.pv none (.sl none (ints (vads [] t.occ)))),hp):=by
 refine sem_pure rfl rfl rfl (freezeAll_pvs [(some 4,t.pv)]) rfl ?_
 have hsz:=valid_size hv
 have h1:=fun hp=>valid_ok t hp (by omega)
 rw[hv] at h1
 have hn0:∀H:Heap,wNilsl none H=some (.sl none H.length 0 0 0,H++[.arr none [] false]):=fun H=>w_nilsl (sh:=none) (by decide)
 obtain⟨v,e,h2,_,_,e2,hfz⟩:=apply_vars t t [] [] (valid_fits hv) (by omega) (by simp;omega)
 generalize vads [] t.occ=l at*
 simp only[Tm.av] at h1 h2
 have hmk:∀(a0 a1 a2 a3:AObj),wStore none 0 [a0,a1,a2,a3,.map none [],.box none (.pv none .nilmap)] [.ptr 5 0,.map 4]=some (.undef,[a0,a1,a2,a3,.map none [],.box none (.map 4)]):=fun _ _ _ _=>rfl
 have e0:gV t []++[]=[.box (some 4) (.pv (some 4) t.pv),.arr none [] false,.box none (.sl none 3 0 0 0),.arr none [] false,.map none [],.box none (.map 4)]:=rfl
 rw[e0] at h2
 simp only[gV,List.nil_append,List.cons_append] at h2
 have hal:∀a0 a1:AObj,wAlloc none (.tsl none []) [a0,a1] []=some (.ptr 2 0,[a0,a1,.box none (.sl none 3 0 0 0),.arr none [] false]):=fun _ _=>rfl
 have hfr:∀(a0 a1 a2 a4 a5:AObj),Am.frozen (.pv none (.sl none (ints l))) (.sl none 3 l.length 0 l.length) (a0::a1::a2::.arr none (ints l) false::a4::a5::e):=fun a0 a1 a2 a4 a5=>isV_frozen (.inr ⟨3,rfl,rfl⟩)
 simp -dsimp -implicitDefEqProofs only[go_sem,seval,↓reduceIte,Tm.av,h1,hn0,hal,hmk,h2]
 exact hfr _ _ _ _ _
def Fits(f:Int→Tm)(l:List B):Prop:=∀b∈l,f b.1=b.2
theorem find_mem{l:List B}{v:Int}(h:fndB l v=true):(v,toB l v)∈l:=List.mem_of_getElem? (fnd_get h)
theorem mem_ins_of{l:List B}{v:Int}{t:Tm}{x:B}(h:x=(v,t)∨x∈l):x∈insB l v t:=by
 unfold insB
 simp only[List.mem_append,List.mem_singleton]
 rcases h with h|h
 ·exact .inl (.inr h)
 ·rw[←List.take_append_drop (lbB l v) l] at h
  rcases List.mem_append.1 h with h|h
  ·exact .inl (.inl h)
  ·exact .inr h
structure MT(p t:Tm)(l l':List B):Prop where
 sub:∀b∈l,b∈l'
 keys:∀v,v∈l'.map (·.1)↔v∈l.map (·.1)∨v∈p.occ
 inst:∀f,Fits f l'→Tm.sub f p=t
theorem to_of{l:List B}(hs:Srt' l){b:B}(hb:b∈l):fndB l b.1=true∧toB l b.1=b.2:=by
 obtain⟨i,hlt,rfl⟩:=List.getElem_of_mem hb
 have hg:=List.getElem?_eq_getElem hlt
 obtain⟨h1,h2⟩:=fnd_of hs hg
 refine⟨h1,?_⟩
 unfold toB
 rw[h2,hg]
theorem fnd_iff{l:List B}(hs:Srt' l)(v:Int):fndB l v=true↔v∈l.map (·.1):=by
 constructor
 ·intro h;exact List.mem_map.2 ⟨_,find_mem h,rfl⟩
 ·intro h
  obtain⟨b,hb,rfl⟩:=List.mem_map.1 h
  exact(to_of hs hb).1
theorem tvar_fits{n:Int}(h:0≤n∧n≤1099511627776):(tvar n).fits=true:=by
 simp[tvar,Tm.fits,Tm.fitsAll,Tm.node,Tm.kind,Tm.n,Tm.name,Tm.args,h.1,h.2]
def mvd(d:Int)(m:List B):List B:=m.map fun b=>(b.1+d,b.2)
open Classical in
noncomputable def okb(l:List B):Bool:=decide (OKB l)
theorem okb_iff{l:List B}:okb l=true↔OKB l:=by unfold okb;simp
noncomputable def rsR(l:List B)(t:Tm):Tm × Int:=if okb l=true∧t.valid=true then(if(rs l t).size≤2000 then(rs l t,0) else(zt,2)) else(zt,1)
def IsS(s:AV)(hp:Heap)(l:List B):Prop:=s=.pv none (.sl (some 5) (bds l))∨IsB s hp l
theorem IsS.more{s:AV}{hp:Heap}{l:List B}(h:IsS s hp l)(e:Heap):IsS s (hp++e) l:=h.elim .inl fun h=>.inr (h.more e)
theorem IsS.place{s:AV}{hp:Heap}{l:List B}(h:IsS s hp l)(v:Int)(hs:Srt' l)(hl:l.length<1000000000)(e:Heap):
  S 154 [s,.pv none (.int .i64 v)] (hp++e)=some (.ret (.tuple [.pv none (.int .i64 (lbB l v:Int)),.pv none (.bool (fndB l v))]),hp++e):=by
 rcases h.more e with rfl|h
 ·exact place_ok l v hs hl _
 ·exact place_own h v hs hl
theorem IsS.elem{s:AV}{hp:Heap}{l:List B}(h:IsS s hp l){i:Nat}{b:B}(hb:l[i]? =some b):
  ∃p q,sIaddr (some 5) [s,.pv none (.int .i64 i)]=some p∧sFaddr 1 [p]=some q∧∀e,aload (some 4) (hp++e) q=some (.pv (some 4) b.2.pv):=by
 have hlt:=(List.getElem?_eq_some_iff.1 hb).1
 rcases h with rfl|h
 ·refine⟨_,_,s_iaddr_pv (bds_get hb),rfl,fun e=> ?_⟩
  simp[aload,part_to]
 ·rcases h with⟨rfl,rfl⟩|⟨r,rfl,hr⟩
  ·simp at hb
  ·refine⟨_,_,s_iaddr_sl hlt,rfl,fun e=> ?_⟩
   have h1:(hp++e)[r]? =some (.arr (some 5) (bds l) false):=by rw[List.getElem?_append_left (get_lt hr)];exact hr
   simp[aload,h1,bds_len,bds_get hb,part_to]
def zagg(q:Nat):AV:=.agg [(none,.pv none (.int .i64 0)),(none,.pv none (.int .i64 0)),(none,.pv none (.str [])),(none,.sl (some 4) q 0 0 0)]
theorem IsS.low{s:AV}{hp:Heap}{l:List B}(h:IsS s hp l)(k:Nat):s.refsIn.all (fun q=>decide (q<hp.length+k))=true:=by
 rw[List.all_eq_true]
 intro q hq
 rcases h with rfl|h
 ·cases hq
 ·have:=h.low q hq
  simp;omega
def bndX(n:Nat)(t:Tm):Heap:=[.box (some 4) (.pv (some 4) t.pv),.box (some 4) (zagg (n+3)),.arr (some 4) [] false,.arr (some 4) [] false]
theorem bound_yes{s:AV}{hp:Heap}{l:List B}(h:IsS s hp l)(hs:Srt' l)(hl:l.length<1000000000)(t:Tm)(hk:t.kind=0)(hf:fndB l t.n=true):
  S 145 [s,t.av] hp=some (.ret (.tuple [(toB l t.n).av,.pv none (.bool true)]),hp):=by
 refine sem_heap rfl rfl rfl rfl ?_
 have hpl:=fun e=>h.place t.n hs hl e
 obtain⟨p,q,h1,h2,h3⟩:=h.elem (fnd_get hf)
 rw[hf] at hpl
 simp only at h3
 simp -dsimp -implicitDefEqProofs only[go_sem,seval,↓reduceIte,Tm.av,part_kind,part_n,hk,hpl,h1,h2,h3,List.append_assoc,get_pre,get_pre0,set_pre,set_pre0,Nat.add_assoc,List.length_append]
 rw[res_two rfl ((get_pre hp _ 1).trans rfl)]
 refine⟨rfl,?_⟩
 rw[if_pos (by simp[AV.refsIn,AV.refsIn.gol,Tm.av])]
 exact List.take_left
theorem bound_no{s:AV}{hp:Heap}{l:List B}(h:IsS s hp l)(hs:Srt' l)(hl:l.length<1000000000)(t:Tm)(hf:¬(t.kind=0∧fndB l t.n=true)):
  S 145 [s,t.av] hp=some (.ret (.tuple [zagg (hp.length+3),.pv none (.bool false)]),hp++bndX hp.length t):=by
 refine sem_heap rfl rfl rfl rfl ?_
 have hpl:=fun e=>h.place t.n hs hl e
 by_cases hk:t.kind=0
 ·have hf':fndB l t.n=false:=by
   cases e:fndB l t.n with
   |true=>exact absurd ⟨hk,e⟩ hf
   |false=>rfl
  rw[hf'] at hpl
  have hk':=eq_true hk
  simp -dsimp -implicitDefEqProofs only[go_sem,seval,↓reduceIte,Tm.av,part_kind,part_n,hk',hpl,hb0,w_store_agg (Nat.le_add_right _ _),List.append_assoc,get_pre,get_pre0,set_pre,set_pre0,Nat.add_assoc,List.length_append]
  rw[res_two rfl ((get_pre hp _ 1).trans rfl)]
  refine⟨rfl,?_⟩
  rw[if_neg (by simp[AV.refsIn,AV.refsIn.gol,AV.refsIn.go,zagg])]
  rfl
 ·have hk':=eq_false hk
  simp -dsimp -implicitDefEqProofs only[go_sem,seval,↓reduceIte,Tm.av,part_kind,part_n,hk',hb0,w_store_agg (Nat.le_add_right _ _),List.append_assoc,get_pre,get_pre0,set_pre,set_pre0,Nat.add_assoc,List.length_append]
  rw[res_two rfl ((get_pre hp _ 1).trans rfl)]
  refine⟨rfl,?_⟩
  rw[if_neg (by simp[AV.refsIn,AV.refsIn.gol,AV.refsIn.go,zagg])]
  rfl
theorem follow_ok{s:AV}{hp:Heap}{l:List B}(h:IsS s hp l)(hO:OKB l)(hl:l.length<1000000000)(t:Tm)(hv:t.valid=true):
  S 143 [s,t.av] hp=some (.ret (flw l t).av,hp):=by
 refine sem_heap rfl rfl rfl rfl ?_
 simp -dsimp -implicitDefEqProofs only[go_sem,seval,↓reduceIte,Tm.av,List.append_assoc,get_pre,get_pre0,set_pre,set_pre0,Nat.add_assoc,List.length_append]
 refine W_loop (fun n st=>∃t1:Tm,n=mu l t1∧t1.valid=true∧flw l t1=flw l t∧st=⟨[(0,s),(3,.ptr hp.length 0),(4,.ptr (hp.length+1) 0)],hp++[.box (some 4) (.pv (some 4) t1.pv),.box (some 4) (zagg (hp.length+2)),.arr (some 4) [] false]⟩) (n:=mu l t) ⟨t,rfl,hv,rfl,?_⟩ ?_
 ·simp -dsimp -implicitDefEqProofs only[go_sem,seval,↓reduceIte]
  try rfl
 ·rintro n st ⟨t1,rfl,hv1,he,rfl⟩
  by_cases hc:t1.kind=0∧fndB l t1.n=true
  ·obtain⟨hk,hf⟩:=hc
   have hb:=fun e=>bound_yes (h.more e) hO.good.1 hl t1 hk hf
   simp only[Tm.av] at hb
   have hlt:=mu_to hO.Acyc hk hf
   simp -dsimp -implicitDefEqProofs only[go_sem,seval,↓reduceIte,hb,List.append_assoc,get_pre,get_pre0,set_pre,set_pre0,Nat.add_assoc,List.length_append]
   refine⟨mu l (toB l t1.n),hlt,toB l t1.n,rfl,(hO.to hf).1,by rw[←he,flw_to hO.Acyc hk hf],?_⟩
   rw[collect_pre 3 rfl rfl (by simp[AObj.refs,AV.ofComps,pures,AV.refsIn,AV.refsIn.go,zagg]) (by simp[AV.refsIn,AV.refsIn.gol,h.low])]
   rfl
  ·have hb:=fun e=>bound_no (h.more e) hO.good.1 hl t1 hc
   have he2:flw l t1=t1:=by
    by_cases hk:t1.kind=0
    ·exact flw_free hO.Acyc (valid_fits hv1) hk fun e=>hc ⟨hk,e⟩
    ·exact flw_str l hk
   rw[he2] at he
   rw[←he]
   simp only[Tm.av] at hb
   simp -dsimp -implicitDefEqProofs only[go_sem,seval,↓reduceIte,hb,bndX,zagg,own_cons_sl,w_store_agg (Nat.le_add_right _ _),List.append_assoc,get_pre,get_pre0,set_pre,set_pre0,Nat.add_assoc,List.length_append]
   refine⟨rfl,?_⟩
   rw[if_pos (by simp[AV.refsIn,Tm.av])]
   exact List.take_left
def Dep(l:List B)(v w:Int):Prop:=fndB l v=true∧w∈(toB l v).occ
theorem dep_rank{l:List B}{r:Int→Nat}(hr:∀v,fndB l v=true→∀w∈(toB l v).occ,fndB l w=true→r w<r v){a b:Int}(h:Relation.TransGen (Dep l) a b)(hb:fndB l b=true):r b<r a:=by
 induction h with
 |single h=>exact hr _ h.1 _ h.2 hb
 |tail h1 h2 ih=>exact Nat.lt_trans (hr _ h2.1 _ h2.2 hb) (ih h2.1)
theorem no_cycle{l:List B}{x:Int}(h:Relation.TransGen (Dep l) x x)(hx:fndB l x=true):¬Acyc l:=fun⟨_,hr⟩=>Nat.lt_irrefl _ (dep_rank hr h hx)
def MapI(m:List (Int × PV))(f:Int→Int):Prop:=∀v,(mFind v m).getD (.int .i64 0)=.int .i64 (f v)
theorem MapI.put{m:List (Int × PV)}{f:Int→Int}(h:MapI m f)(v x:Int):MapI (mPut v (.int .i64 x) m) (fun w=>if w=v then x else f w):=fun w=>by
 rw[mFind_put]
 by_cases e:w=v
 ·simp[e]
 ·simp only[if_neg e];exact h w
structure CInv(l:List B)(st:Int→Int):Prop where
 val:∀o,st o=0∨st o=1∨st o=2
 bnd:∀o,st o≠0→fndB l o=true
 done:∃(rk:Int→Nat) (c:Nat),∀v,st v=2→rk v<c∧∀w∈(toB l v).occ,fndB l w=true→st w=2∧rk w<rk v
structure CPost(l:List B)(st st':Int→Int)(v:Int):Prop where
 inv:CInv l st'
 opn:∀o,st' o=1↔st o=1
 dn:∀o,st o=2→st' o=2
 me:fndB l v=true→st' v=2
def cnt(l:List B)(st:Int→Int):Nat:=(l.filter fun b=>decide (st b.1=0)).length
theorem cnt_le{l:List B}{st st':Int→Int}(h:∀o,st o≠0→st' o≠0):cnt l st'≤cnt l st:=by
 unfold cnt
 induction l with
 |nil=>exact Nat.le_refl _
 |cons x r ih=>
  simp only[List.filter_cons]
  by_cases h1:st' x.1=0
  ·have h2:st x.1=0:=by
    rcases Int.lt_trichotomy (st x.1) 0 with h3|h3|h3
    ·exact absurd h1 (h _ (by omega))
    ·exact h3
    ·exact absurd h1 (h _ (by omega))
   simp[h1,h2];exact ih
  ·by_cases h2:st x.1=0
   ·simp[h1,h2];omega
   ·simp[h1,h2];exact ih
theorem cnt_lt{st st':Int→Int}(h:∀o,st o≠0→st' o≠0){v:Int}(h0:st v=0)(h1:st' v≠0){t:Tm}:∀{l:List B},(v,t)∈l→cnt l st'<cnt l st
 |[],hm=>by cases hm
 |x::r,hm=>by
  have hle:=cnt_le (l:=r) h
  unfold cnt at hle ⊢
  simp only[List.filter_cons]
  by_cases e:x.1=v
  ·rw[e]
   simp[h0,h1];omega
  ·have hr:(v,t)∈r:=by
    rcases List.mem_cons.1 hm with h|h
    ·exact absurd (by rw[←h]) e
    ·exact h
   have ih:=cnt_lt h h0 h1 hr
   unfold cnt at ih
   by_cases h2:st' x.1=0
   ·have h3:st x.1=0:=by
     rcases Int.lt_trichotomy (st x.1) 0 with h3|h3|h3
     ·exact absurd h2 (h _ (by omega))
     ·exact h3
     ·exact absurd h2 (h _ (by omega))
    simp[h2,h3];omega
   ·by_cases h3:st x.1=0
    ·simp[h2,h3];omega
    ·simp[h2,h3];omega
theorem CPost.mono{l:List B}{st st':Int→Int}{v:Int}(h:CInv l st)(hp:CPost l st st' v)(o:Int)(ho:st o≠0):st' o≠0:=by
 rcases h.val o with e|e|e
 ·exact absurd e ho
 ·rw[(hp.opn o).2 e];decide
 ·rw[hp.dn o e];decide
theorem CInv.open_{l:List B}{st:Int→Int}(h:CInv l st){v:Int}(hf:fndB l v=true)(h0:st v=0):CInv l (fun w=>if w=v then 1 else st w):=by
 obtain⟨h1,h2,rk,c,h3⟩:=h
 refine⟨fun o=> ?_,fun o ho=> ?_,rk,c,fun w hw=> ?_⟩
 ·by_cases e:o=v
  ·simp[e]
  ·simp only[if_neg e];exact h1 o
 ·by_cases e:o=v
  ·rw[e];exact hf
  ·simp only[if_neg e] at ho;exact h2 o ho
 ·have hne:w≠v:=fun e=>by simp[e] at hw
  simp only[if_neg hne] at hw
  obtain⟨k1,k2⟩:=h3 w hw
  refine⟨k1,fun x hx hfx=> ?_⟩
  obtain⟨k3,k4⟩:=k2 x hx hfx
  have hne2:x≠v:=fun e=>by rw[e,h0] at k3;cases k3
  simp only[if_neg hne2]
  exact⟨k3,k4⟩
theorem CInv.close_{l:List B}{st:Int→Int}(h:CInv l st){v:Int}(hf:fndB l v=true)(h1:st v=1)(hall:∀w∈(toB l v).occ,fndB l w=true→st w=2):CInv l (fun w=>if w=v then 2 else st w):=by
 obtain⟨g1,g2,rk,c,g3⟩:=h
 refine⟨fun o=> ?_,fun o ho=> ?_,fun w=>if w=v then c else rk w,c+1,fun w hw=> ?_⟩
 ·by_cases e:o=v
  ·simp[e]
  ·simp only[if_neg e];exact g1 o
 ·by_cases e:o=v
  ·rw[e];exact hf
  ·simp only[if_neg e] at ho;exact g2 o ho
 ·have key:∀x∈(toB l w).occ,fndB l x=true→st x=2→x≠v:=fun x _ _ e e2=>by rw[e2,h1] at e;cases e
  by_cases e:w=v
  ·subst e
   refine⟨by simp,fun x hx hfx=> ?_⟩
   have k:=hall x hx hfx
   have hne:=key x hx hfx k
   simp only[if_neg hne,if_true]
   exact⟨k,(g3 x k).1⟩
  ·simp only[if_neg e] at hw ⊢
   obtain⟨k1,k2⟩:=g3 w hw
   refine⟨by omega,fun x hx hfx=> ?_⟩
   obtain⟨k3,k4⟩:=k2 x hx hfx
   have hne:=key x hx hfx k3
   simp only[if_neg hne]
   exact⟨k3,k4⟩
theorem CInv.acyc{l:List B}{st:Int→Int}(h:CInv l st)(hall:∀v,fndB l v=true→st v=2):Acyc l:=by
 obtain⟨_,_,rk,c,g3⟩:=h
 exact⟨rk,fun v hv w hw hf=>((g3 v (hall v hv)).2 w hw hf).2⟩
theorem w_box_agg{sh:Sh}{hp:Heap}(l:List (Sh × AV)):wBox sh hp [.agg l]=if some (total l)=sh then allocO sh hp.length (ownComps l (hp++[.box sh (.agg l)])) else none:=by
 simp only[wBox,AV.plain,AV.shp,true_and,AV.own]
 rfl
def vagg(v:Int):AV:=.agg [(none,.pv none (.int .i64 0)),(none,.pv none (.int .i64 v)),(none,.pv none (.str [])),(none,.tsl (some 4) [])]
theorem bound_ayes(l:List B)(hs:Srt' l)(hl:l.length<1000000000)(v:Int)(hf:fndB l v=true)(hp:Heap):
  S 145 [.pv none (.sl (some 5) (bds l)),vagg v] hp=some (.ret (.tuple [(toB l v).av,.pv none (.bool true)]),hp):=by
 refine sem_heap rfl rfl rfl rfl ?_
 have hpl:=place_ok l v hs hl
 rw[hf] at hpl
 simp -dsimp -implicitDefEqProofs only[go_sem,seval,↓reduceIte,vagg,Tm.av,hpl,s_iaddr_pv (bds_get (fnd_get hf)),part_to,w_box_agg,List.append_assoc,get_pre,get_pre0,set_pre,set_pre0,Nat.add_assoc,List.length_append]
 rw[res_two rfl ((get_pre hp _ 2).trans rfl)]
 refine⟨rfl,?_⟩
 rw[if_pos (by simp[AV.refsIn,AV.refsIn.gol,Tm.av])]
 exact List.take_left
theorem bound_ano(l:List B)(hs:Srt' l)(hl:l.length<1000000000)(v:Int)(hf:fndB l v=false)(hp:Heap):
  ∃v' hp',S 145 [.pv none (.sl (some 5) (bds l)),vagg v] hp=some (.ret v',hp')∧∃e q,v'=.tuple [zagg q,.pv none (.bool false)]∧hp'=hp++e∧q<(hp++e).length∧0<e.length:=by
 refine sem_heap_ex _ rfl rfl rfl rfl ?_
 have hpl:=place_ok l v hs hl
 rw[hf] at hpl
 simp -dsimp -implicitDefEqProofs only[go_sem,seval,↓reduceIte,vagg,Tm.av,hpl,hb0,w_box_agg,w_store_agg (Nat.le_add_right _ _),List.append_assoc,get_pre,get_pre0,set_pre,set_pre0,Nat.add_assoc,List.length_append]
 rw[res_two rfl ((get_pre hp _ 2).trans rfl)]
 rw[if_neg (by simp[AV.refsIn,AV.refsIn.gol,AV.refsIn.go])]
 exact⟨_,_,rfl,rfl,by simp,by simp⟩
theorem cyc_ok(l:List B)(hG:Good l)(hl:l.length<1000000000):∀(n:Nat) (st:Int→Int) (m:List (Int × PV)) (v:Int) (hp:Heap) (r:Nat),cnt l st=n→hp[r]? =some (.map none (kEnts m))→MapI m st→CInv l st→(∀o,st o=1→Relation.TransGen (Dep l) o v)→
  ∃(b:Bool) (m':List (Int × PV)),S 142 [.pv none (.sl (some 5) (bds l)),.pv none (.int .i64 v),.map r] hp=some (.ret (.pv none (.bool b)),hp.set r (.map none (kEnts m')))∧(b=true→¬Acyc l)∧(b=false→∃st',MapI m' st'∧CPost l st st' v):=by
 intro n
 induction n using Nat.strongRecOn with
 |_ n ih=>
  intro st m v hp r hn hr hM hI hpre
  have hlt:=get_lt hr
  have hself:hp.set r (.map none (kEnts m))=hp:=by
   have:=List.getElem?_eq_some_iff.1 hr
   obtain⟨_,h⟩:=this
   rw[←h];exact List.set_getElem_self _
  have hlk0:∀e:Heap,rLookup false none (.pv none (.int .i64 0)) false (hp++e) [.map r,.pv none (.int .i64 v)]=some (.pv none (.int .i64 (st v))):=fun e=>by
   rw[look_m (m:=m) (by rw[List.getElem?_append_left hlt];exact hr),hM v]
  by_cases h0:st v=0
  rotate_left
  ·have hw:S 142 [.pv none (.sl (some 5) (bds l)),.pv none (.int .i64 v),.map r] hp=some (.ret (.pv none (.bool (decide (st v=1)))),hp):=by
    refine sem_heap rfl rfl rfl rfl ?_
    have hlk:=hlk0 []
    rw[List.append_nil] at hlk
    simp -dsimp -implicitDefEqProofs only[g142,c142r0,c142r1,c142r2,c142k3,c142r4,c142r5,c142r6,c142k7,c142r8,c142r9,c142r10,c142k11,c142r12,c142r13,c142r14,c142k15,c142k16,c142r17,c142b18,c142k19,c142r20,c142r21,c142,go_sem,seval,↓reduceIte,hlk,h0]
    rw[if_pos (by simp[AV.refsIn]),List.take_length]
   refine⟨decide (st v=1),m,by rw[hself];exact hw,fun hb=> ?_,fun hb=>⟨st,hM,hI,fun _=>Iff.rfl,fun _ h=>h,fun hf=> ?_⟩⟩
   ·have h1:st v=1:=of_decide_eq_true hb
    exact no_cycle (hpre v h1) (hI.bnd v h0)
   ·have h1:¬st v=1:=of_decide_eq_false hb
    rcases hI.val v with h|h|h
    ·exact absurd h h0
    ·exact absurd h h1
    ·exact h
  ·by_cases hf:fndB l v=true
   ·suffices hP:∃v' hp',S 142 [.pv none (.sl (some 5) (bds l)),.pv none (.int .i64 v),.map r] hp=some (.ret v',hp')∧∃(b:Bool) (m':List (Int × PV)),v'=.pv none (.bool b)∧hp'=hp.set r (.map none (kEnts m'))∧(b=true→¬Acyc l)∧(b=false→∃st',MapI m' st'∧CPost l st st' v) by
     obtain⟨v',hp',h1,b,m',rfl,rfl,h2⟩:=hP
     exact⟨b,m',h1,h2⟩
    obtain⟨htv,hts⟩:=hG.2 _ (List.mem_of_getElem? (fnd_get hf))
    simp only at htv hts
    have htz:=valid_size htv
    have hb:=bound_ayes l hG.1 hl v hf
    have hV:=fun hp=>pVars_ok (toB l v) htv hp
    have hLm:∀x,x∈vads [] (toB l v).occ↔x∈(toB l v).occ:=fun x=>by rw[vads_mem];simp
    have hvl:=vads_len (toB l v).occ []
    have hol:=(toB l v).occ_len
    rw[List.length_nil,Nat.zero_add] at hvl
    generalize hL:vads [] (toB l v).occ=L at hV hLm hvl
    simp only[Tm.av,vagg] at hb hV
    have hbu:sBuild [(none,.pv none (.int .i64 0)),(none,.pv none (.int .i64 0)),(none,.pv none (.str [])),(none,.tsl (some 4) [])] [1] [.pv none (.int .i64 v)]=some (.agg [(none,.pv none (.int .i64 0)),(none,.pv none (.int .i64 v)),(none,.pv none (.str [])),(none,.tsl (some 4) [])]):=rfl
    have hms:∀(x:Int) (m:List (Int × PV)) (e:Heap),wMapset false none (hp.set r (.map none (kEnts m))++e) [.map r,.pv none (.int .i64 v),.pv none (.int .i64 x)]=some (.undef,hp.set r (.map none (kEnts (mPut v (.int .i64 x) m)))++e):=fun x m e=>by
     rw[w_mapset_pv (es:=kEnts m) (by rw[List.getElem?_append_left (by simpa using hlt),List.getElem?_set_self hlt]) (kEnts_put _ _ _),List.set_append_left _ _ (by simpa using hlt),List.set_set]
    have hms1:=fun e=>hms 1 m e
    rw[hself] at hms1
    refine sem_heap_ex _ rfl rfl rfl rfl ?_
    have hlk:=hlk0 []
    rw[List.append_nil] at hlk
    have hg0:∀(X:AObj) (e:Heap),(hp.set r X++e)[hp.length]? =e[0]? :=fun X e=>getN0 (by simp)
    simp -dsimp -implicitDefEqProofs only[g142,c142r0,c142r1,c142r2,c142k3,c142r4,c142r5,c142r6,c142k7,c142r8,c142r9,c142r10,c142k11,c142r12,c142r13,c142r14,c142k15,c142k16,c142r17,c142k19,c142r20,c142r21,c142,go_sem,seval,↓reduceIte,hlk,h0,hbu,hb,hms1,hg0,hV,ints_len,own_cons_sl,w_store_agg (Nat.le_add_right _ _),List.append_assoc,get_pre,get_pre0,set_pre,set_pre0,Nat.add_assoc,List.length_append]
    have hI1:=hI.open_ hf h0
    have hM1:=hM.put v 1
    refine W_for (α:=List (Int × PV)) L.length (fun i m=>∃st':Int→Int,MapI m st'∧CInv l st'∧(∀o,st' o=1↔(o=v∨st o=1))∧(∀o,st o=2→st' o=2)∧∀j,j<i→∀x,L[j]? =some x→fndB l x=true→st' x=2)
     (fun i m=>⟨[(0,.pv none (.sl (some 5) (bds l))),(1,.pv none (.int .i64 v)),(2,.map r),(31,.pv none (.sl none (ints L))),(32,.pv none (.int .i64 L.length)),(33,.pv none (.int .i64 i))],hp.set r (.map none (kEnts m))++[.box (some 4) (.pv (some 4) (toB l v).pv),.arr (some 4) [] false]⟩) _ ⟨⟨_,hM1,hI1,fun o=> ?_,fun o ho=> ?_,fun j hj=>by omega⟩,?_⟩ ?_ ?_
    ·by_cases e:o=v
     ·simp[e]
     ·simp[e]
    ·have:o≠v:=fun e=>by rw[e,h0] at ho;cases ho
     simp only[if_neg this];exact ho
    ·rfl
    ·rintro i m2 h ⟨st2,k1,k2,k3,k4,k5⟩
     have hc:(i:Int)<(L.length:Int):=by omega
     obtain⟨x,hx⟩:∃x,L[i]? =some x:=⟨_,List.getElem?_eq_getElem h⟩
     have hxo:=(hLm x).1 (List.mem_of_getElem? hx)
     have hnz:∀o,st o≠0→st2 o≠0:=fun o ho=>by
      rcases hI.val o with e|e|e
      ·exact absurd e ho
      ·rw[(k3 o).2 (.inr e)];decide
      ·rw[k4 o e];decide
     have hcl:cnt l st2<n:=by
      rw[←hn]
      exact cnt_lt hnz h0 (by rw[(k3 v).2 (.inl rfl)];decide) (find_mem hf)
     obtain⟨b,m3,hcall,q1,q2⟩:=ih _ hcl st2 m2 x (hp.set r (.map none (kEnts m2))++[.box (some 4) (.pv (some 4) (toB l v).pv),.arr (some 4) [] false]) r rfl (by rw[List.getElem?_append_left (by simpa using hlt),List.getElem?_set_self hlt]) k1 k2 (fun o ho=>by
      rcases(k3 o).1 ho with rfl|ho
      ·exact .single ⟨hf,hxo⟩
      ·exact .tail (hpre o ho) ⟨hf,hxo⟩)
     rw[List.set_append_left _ _ (by simpa using hlt),List.set_set] at hcall
     have w2:IntKind.i64.wrap ((i:Int)+1)=((i+1:Nat):Int):=by rw[wrap64 (by omega) (by omega)];omega
     cases b with
     |true=>
      simp -dsimp -implicitDefEqProofs only[g142,c142r0,c142r1,c142r2,c142k3,c142r4,c142r5,c142r6,c142k7,c142r8,c142r9,c142r10,c142k11,c142r12,c142r13,c142r14,c142k15,c142k16,c142r17,c142b18,c142k19,c142r20,c142r21,c142,go_sem,seval,↓reduceIte,ints_len,hc,s_iaddr_pv (ints_get hx),hcall]
      refine⟨true,m3,rfl,?_,q1,fun e=>by cases e⟩
      rw[if_pos (by simp[AV.refsIn])]
      exact List.take_left' (by simp)
     |false=>
      obtain⟨st3,r1,r2⟩:=q2 rfl
      simp -dsimp -implicitDefEqProofs only[g142,c142r0,c142r1,c142r2,c142k3,c142r4,c142r5,c142r6,c142k7,c142r8,c142r9,c142r10,c142k11,c142r12,c142r13,c142r14,c142k15,c142k16,c142r17,c142b18,c142k19,c142r20,c142r21,c142,go_sem,seval,↓reduceIte,ints_len,hc,s_iaddr_pv (ints_get hx),hcall,w2]
      refine⟨m3,⟨st3,r1,r2.inv,fun o=>by rw[r2.opn,k3],fun o ho=>r2.dn o (k4 o ho),fun j hj y hy hfy=> ?_⟩,?_⟩
      ·rcases Nat.lt_or_ge j i with h|h
       ·exact r2.dn y (k5 j h y hy hfy)
       ·have:j=i:=by omega
        subst this
        rw[hx] at hy
        cases hy
        exact r2.me hfy
      ·rw[collect_id (by simp)]
    ·rintro m2 ⟨st2,k1,k2,k3,k4,k5⟩
     have hc:¬(L.length:Int)<(L.length:Int):=by omega
     have hms2:=fun e=>hms 2 m2 e
     simp -dsimp -implicitDefEqProofs only[g142,c142r0,c142r1,c142r2,c142k3,c142r4,c142r5,c142r6,c142k7,c142r8,c142r9,c142r10,c142k11,c142r12,c142r13,c142r14,c142k15,c142k16,c142r17,c142b18,c142k19,c142r20,c142r21,c142,go_sem,seval,↓reduceIte,ints_len,hc,hms2]
     refine⟨false,mPut v (.int .i64 2) m2,rfl,?_,(fun e=>by cases e),fun _=>⟨_,k1.put v 2,?_⟩⟩
     ·rw[if_pos (by simp[AV.refsIn])]
      exact List.take_left' (by simp)
     ·have hall:∀w∈(toB l v).occ,fndB l w=true→st2 w=2:=fun w hw hfw=>by
       obtain⟨j,hj,rfl⟩:=List.getElem_of_mem ((hLm w).2 hw)
       exact k5 j hj _ (List.getElem?_eq_getElem hj) hfw
      refine⟨k2.close_ hf ((k3 v).2 (.inl rfl)) hall,fun o=> ?_,fun o ho=> ?_,fun _=>by simp⟩
      ·by_cases e:o=v
       ·simp[e,h0]
       ·simp only[if_neg e]
        rw[k3]
        simp[e]
      ·by_cases e:o=v
       ·simp[e]
       ·simp only[if_neg e];exact k4 o ho
   ·have hf':fndB l v=false:=by simpa using hf
    obtain⟨v',hp',hb,e,q,rfl,rfl,hq,he⟩:=bound_ano l hG.1 hl v hf' hp
    have hw:S 142 [.pv none (.sl (some 5) (bds l)),.pv none (.int .i64 v),.map r] hp=some (.ret (.pv none (.bool false)),hp):=by
     refine sem_heap rfl rfl rfl rfl ?_
     have hlk:=hlk0 []
     rw[List.append_nil] at hlk
     simp only[vagg] at hb
     have hbu:sBuild [(none,.pv none (.int .i64 0)),(none,.pv none (.int .i64 0)),(none,.pv none (.str [])),(none,.tsl (some 4) [])] [1] [.pv none (.int .i64 v)]=some (.agg [(none,.pv none (.int .i64 0)),(none,.pv none (.int .i64 v)),(none,.pv none (.str [])),(none,.tsl (some 4) [])]):=rfl
     simp -dsimp -implicitDefEqProofs only[g142,c142r0,c142r1,c142r2,c142k3,c142r4,c142r5,c142r6,c142k7,c142r8,c142r9,c142r10,c142k11,c142r12,c142r13,c142r14,c142k15,c142k16,c142r17,c142b18,c142k19,c142r20,c142r21,c142,go_sem,seval,↓reduceIte,hlk,h0,hbu,hb,zagg,own_cons_sl,w_store_agg (Nat.le_add_right _ _),List.append_assoc,get_pre,get_pre0,set_pre,set_pre0,Nat.add_assoc,List.length_append]
     rw[if_pos (by simp[AV.refsIn])]
     exact List.take_left
    exact⟨false,m,by rw[hself];exact hw,(fun h=>by cases h),fun _=>⟨st,hM,hI,fun _=>Iff.rfl,fun _ h=>h,fun h=>absurd h hf⟩⟩
theorem pvalidB_ok(l:List B)(hl:l.length<100000000)(hsz:∀b∈l,b.2.size<1000000000)(hp:Heap):S 119 [.pv none (.sl (some 5) (bds l))] hp=some (.ret (.pv none (.bool (okb l))),hp):=by
 suffices hV:∃v,(∀hp,S 119 [.pv none (.sl (some 5) (bds l))] hp=some (.ret v,hp))∧VP l v by
  obtain⟨v,h1,b,rfl,h2⟩:=hV
  have:b=okb l:=by rw[Bool.eq_iff_iff,h2,okb_iff]
  rw[h1,this]
 refine sem_pure_ex (ps:=[(none,.sl (some 5) (bds l))]) (VP l) rfl rfl rfl (fun hp=>rfl) rfl ?_
 simp -dsimp -implicitDefEqProofs only[g119,c119r0,c119r1,c119r2,c119k3,c119r4,c119r5,c119r6,c119k7,c119k8,c119r9,c119k11,c119r12,c119r13,c119r14,c119k15,c119r16,c119r17,c119r18,c119k19,c119k20,c119r21,c119k23,c119r24,c119,go_sem,seval,↓reduceIte,bds_len]
 refine W_for (α:=Unit) l.length (fun i _=>∀j,j<i→WfAt l j) (fun i _=>⟨[(0,.pv none (.sl (some 5) (bds l))),(8,.pv none (.sl (some 5) (bds l))),(9,.pv none (.int .i64 l.length)),(10,.pv none (.int .i64 i))],[]⟩) () ⟨fun j hj=>by omega,rfl⟩ ?_ ?_
 ·rintro i - h hinv
  have hc:(i:Int)<(l.length:Int):=by omega
  obtain⟨b,hb⟩:∃b,l[i]? =some b:=⟨_,List.getElem?_eq_getElem h⟩
  have hbs:=hsz b (List.mem_of_getElem? hb)
  have hv:=fun hp=>valid_ok b.2 hp hbs
  simp only[Tm.av] at hv
  have w2:IntKind.i64.wrap ((i:Int)+1)=((i+1:Nat):Int):=by rw[wrap64 (by omega) (by omega)];omega
  have next:WfAt l i→∀j,j<i+1→WfAt l j:=fun hw j hj=>by
   rcases Nat.lt_or_ge j i with h|h
   ·exact hinv j h
   ·have:j=i:=by omega
    subst this;exact hw
  by_cases h1:b.1<0
  ·simp -dsimp -implicitDefEqProofs only[g119,c119r0,c119r1,c119r2,c119k3,c119r4,c119r5,c119r6,c119k7,c119k8,c119r9,c119b10,c119k11,c119r12,c119r13,c119r14,c119k15,c119r16,c119r17,c119r18,c119k19,c119k20,c119r21,c119r24,c119,go_sem,seval,↓reduceIte,bds_len,hc,s_iaddr_pv (bds_get hb),part_var,h1]
   exact vp_no fun h=>by have:=(h.wf i b hb).1;omega
  ·by_cases h2:1099511627776<b.1
   ·simp -dsimp -implicitDefEqProofs only[g119,c119r0,c119r1,c119r2,c119k3,c119r4,c119r5,c119r6,c119k7,c119k8,c119r9,c119b10,c119k11,c119r12,c119r13,c119r14,c119k15,c119r16,c119r17,c119r18,c119k19,c119k20,c119r21,c119r24,c119,go_sem,seval,↓reduceIte,bds_len,hc,s_iaddr_pv (bds_get hb),part_var,h1,h2]
    exact vp_no fun h=>by have:=(h.wf i b hb).2.1;omega
   ·by_cases h3:0<i
    ·have h3':(0:Int)<(i:Int):=by omega
     obtain⟨c,hcc⟩:∃c,l[i - 1]? =some c:=⟨_,List.getElem?_eq_getElem (by omega)⟩
     have w3:IntKind.i64.wrap ((i:Int) - 1)=((i - 1:Nat):Int):=by rw[wrap64 (by omega) (by omega)];omega
     by_cases h4:b.1≤c.1
     ·simp -dsimp -implicitDefEqProofs only[g119,c119r0,c119r1,c119r2,c119k3,c119r4,c119r5,c119r6,c119k7,c119k8,c119r9,c119b10,c119k11,c119r12,c119r13,c119r14,c119k15,c119r16,c119r17,c119r18,c119k19,c119k20,c119r21,c119r24,c119,go_sem,seval,↓reduceIte,bds_len,hc,s_iaddr_pv (bds_get hb),s_iaddr_pv (bds_get hcc),part_var,h1,h2,h3',h4,w3]
      exact vp_no fun h=>by have:=(h.wf i b hb).2.2.2 h3 c hcc;omega
     ·by_cases h5:b.2.valid=true
      ·simp -dsimp -implicitDefEqProofs only[g119,c119r0,c119r1,c119r2,c119k3,c119r4,c119r5,c119r6,c119k7,c119k8,c119r9,c119b10,c119k11,c119r12,c119r13,c119r14,c119k15,c119r16,c119r17,c119r18,c119k19,c119k20,c119r21,c119r24,c119,go_sem,seval,↓reduceIte,bds_len,hc,s_iaddr_pv (bds_get hb),s_iaddr_pv (bds_get hcc),part_var,part_to,h1,h2,h3',h4,w3,hv,h5,w2]
       exact⟨(),next fun b' hb'=>by rw[hb] at hb';cases hb';exact⟨by omega,by omega,h5,fun _ c' hc'=>by rw[hcc] at hc';cases hc';omega⟩,by rfl⟩
      ·have h5':b.2.valid=false:=by simpa using h5
       simp -dsimp -implicitDefEqProofs only[g119,c119r0,c119r1,c119r2,c119k3,c119r4,c119r5,c119r6,c119k7,c119k8,c119r9,c119b10,c119k11,c119r12,c119r13,c119r14,c119k15,c119r16,c119r17,c119r18,c119k19,c119k20,c119r21,c119r24,c119,go_sem,seval,↓reduceIte,bds_len,hc,s_iaddr_pv (bds_get hb),s_iaddr_pv (bds_get hcc),part_var,part_to,h1,h2,h3',h4,w3,hv,h5']
       exact vp_no fun h=>by have:=(h.wf i b hb).2.2.1;rw[h5'] at this;cases this
    ·have h3':¬(0:Int)<(i:Int):=by omega
     by_cases h5:b.2.valid=true
     ·simp -dsimp -implicitDefEqProofs only[g119,c119r0,c119r1,c119r2,c119k3,c119r4,c119r5,c119r6,c119k7,c119k8,c119r9,c119b10,c119k11,c119r12,c119r13,c119r14,c119k15,c119r16,c119r17,c119r18,c119k19,c119k20,c119r21,c119r24,c119,go_sem,seval,↓reduceIte,bds_len,hc,s_iaddr_pv (bds_get hb),part_var,part_to,h1,h2,h3',hv,h5,w2]
      exact⟨(),next fun b' hb'=>by rw[hb] at hb';cases hb';exact⟨by omega,by omega,h5,fun h=>absurd h h3⟩,by rfl⟩
     ·have h5':b.2.valid=false:=by simpa using h5
      simp -dsimp -implicitDefEqProofs only[g119,c119r0,c119r1,c119r2,c119k3,c119r4,c119r5,c119r6,c119k7,c119k8,c119r9,c119b10,c119k11,c119r12,c119r13,c119r14,c119k15,c119r16,c119r17,c119r18,c119k19,c119k20,c119r21,c119r24,c119,go_sem,seval,↓reduceIte,bds_len,hc,s_iaddr_pv (bds_get hb),part_var,part_to,h1,h2,h3',hv,h5']
      exact vp_no fun h=>by have:=(h.wf i b hb).2.2.1;rw[h5'] at this;cases this
 ·rintro - hinv
  have hc:¬(l.length:Int)<(l.length:Int):=by omega
  have hG:Good l:=⟨srt_of hinv,fun b hb=>by
   obtain⟨i,hlt,rfl⟩:=List.getElem_of_mem hb
   exact⟨(hinv i hlt _ (List.getElem?_eq_getElem hlt)).2.2.1,hsz _ hb⟩⟩
  have hrg:∀b∈l,0≤b.1∧b.1≤1099511627776:=fun b hb=>by
   obtain⟨i,hlt,rfl⟩:=List.getElem_of_mem hb
   exact⟨(hinv i hlt _ (List.getElem?_eq_getElem hlt)).1,(hinv i hlt _ (List.getElem?_eq_getElem hlt)).2.1⟩
  simp -dsimp -implicitDefEqProofs only[g119,c119r0,c119r1,c119r2,c119k3,c119r4,c119r5,c119r6,c119k7,c119k8,c119r9,c119b10,c119k11,c119r12,c119r13,c119r14,c119k15,c119r16,c119r17,c119r18,c119k19,c119k20,c119r21,c119k23,c119r24,c119,go_sem,seval,↓reduceIte,bds_len,hc]
  refine W_for (α:=List (Int × PV)) l.length (fun i m=>∃st:Int→Int,MapI m st∧CInv l st∧(∀o,st o≠1)∧∀j,j<i→∀b,l[j]? =some b→st b.1=2) (fun i m=>⟨[(0,.pv none (.sl (some 5) (bds l))),(5,.map 0),(46,.pv none (.sl (some 5) (bds l))),(47,.pv none (.int .i64 l.length)),(48,.pv none (.int .i64 i))],[.map none (kEnts m)]⟩) [] ⟨⟨fun _=>0,fun v=>rfl,⟨fun _=>.inl rfl,fun o h=>absurd rfl h,fun _=>0,0,(fun v h=>(by cases h))⟩,(fun o h=>(by cases h)),fun j hj=>by omega⟩,rfl⟩ ?_ ?_
  ·rintro i m h ⟨st,k1,k2,k3,k4⟩
   have hc:(i:Int)<(l.length:Int):=by omega
   obtain⟨b,hb⟩:∃b,l[i]? =some b:=⟨_,List.getElem?_eq_getElem h⟩
   have w2:IntKind.i64.wrap ((i:Int)+1)=((i+1:Nat):Int):=by rw[wrap64 (by omega) (by omega)];omega
   obtain⟨bb,m3,hcall,q1,q2⟩:=cyc_ok l hG (by omega) _ st m b.1 [.map none (kEnts m),.box (some 5) (.pv (some 5) (bdp b))] 0 rfl rfl k1 k2 (fun o ho=>absurd ho (k3 o))
   simp only[List.set_cons_zero] at hcall
   cases bb with
   |true=>
    simp -dsimp -implicitDefEqProofs only[g119,c119r0,c119r1,c119r2,c119k3,c119r4,c119r5,c119r6,c119k7,c119k8,c119r9,c119b10,c119k11,c119r12,c119r13,c119r14,c119k15,c119r16,c119r17,c119r18,c119k19,c119k20,c119r21,c119b22,c119k23,c119r24,c119,go_sem,seval,↓reduceIte,bds_len,hc,s_iaddr_pv (bds_get hb),part_var,hcall]
    exact vp_no fun h=>q1 rfl h.Acyc
   |false=>
    obtain⟨st3,r1,r2⟩:=q2 rfl
    simp -dsimp -implicitDefEqProofs only[g119,c119r0,c119r1,c119r2,c119k3,c119r4,c119r5,c119r6,c119k7,c119k8,c119r9,c119b10,c119k11,c119r12,c119r13,c119r14,c119k15,c119r16,c119r17,c119r18,c119k19,c119k20,c119r21,c119b22,c119k23,c119r24,c119,go_sem,seval,↓reduceIte,bds_len,hc,s_iaddr_pv (bds_get hb),part_var,hcall,w2]
    refine⟨m3,⟨st3,r1,r2.inv,fun o ho=>k3 o ((r2.opn o).1 ho),fun j hj y hy=> ?_⟩,by rfl⟩
    rcases Nat.lt_or_ge j i with h|h
    ·exact r2.dn _ (k4 j h y hy)
    ·have:j=i:=by omega
     subst this
     rw[hb] at hy
     cases hy
     exact r2.me (fnd_of hG.1 hb).1
  ·rintro m ⟨st,k1,k2,k3,k4⟩
   have hc:¬(l.length:Int)<(l.length:Int):=by omega
   simp -dsimp -implicitDefEqProofs only[g119,c119r0,c119r1,c119r2,c119k3,c119r4,c119r5,c119r6,c119k7,c119k8,c119r9,c119b10,c119k11,c119r12,c119r13,c119r14,c119k15,c119r16,c119r17,c119r18,c119k19,c119k20,c119r21,c119b22,c119k23,c119r24,c119,go_sem,seval,↓reduceIte,bds_len,hc]
   refine vp_yes (okb_of hG hrg (k2.acyc fun v hv=> ?_))
   have:=fnd_get hv
   exact k4 _ (List.getElem?_eq_some_iff.1 this).1 _ this
theorem samePtr_tm{hp hp':Heap}{t:Tm}{r o:Nat}(h:hp[r]? =some (.box (some 4) (.pv (some 4) t.pv)))(h':hp'[r]? =some (.box (some 4) (.pv (some 4) t.pv))):samePtr hp hp' (.ptr r o)=true:=by
 simp[samePtr,h,h',AObj.beq,AV.beq,beq_self]
def SzI(l:List B)(m:List (Int × PV)):Prop:=∃f:Int→Int,MapI m f∧∀v,f v≠0→fndB l v=true∧f v=((min (rs l (toB l v)).size 2001:Nat):Int)
theorem SzI.put{l:List B}{m:List (Int × PV)}(h:SzI l m){v:Int}(hf:fndB l v=true):SzI l (mPut v (.int .i64 ((min (rs l (toB l v)).size 2001:Nat):Int)) m):=by
 obtain⟨f,h1,h2⟩:=h
 refine⟨_,h1.put v _,fun w hw=> ?_⟩
 by_cases e:w=v
 ·subst e;simp[hf]
 ·simp only[if_neg e] at hw ⊢;exact h2 w hw
def XL(n:Nat)(t:Tm):Heap:=[.box (some 4) (.pv (some 4) t.pv),.box (some 4) (.pv (some 4) t.pv),.box (some 4) (zagg (n+4)),.arr (some 4) [] false,.arr (some 4) [] false,.box (some 4) (zagg (n+4)),.arr (some 4) [] false]
theorem measure_ok(l:List B)(hO:OKB l)(hl:l.length<1000000000):∀(k:Nat) (t:Tm) (hp:Heap) (r:Nat) (m:List (Int × PV)),mu l t=k→t.valid=true→hp[r]? =some (.map none (kEnts m))→SzI l m→
  ∃m',S 123 [.pv none (.sl (some 5) (bds l)),t.av,.map r] hp=some (.ret (.pv none (.int .i64 ((min (rs l t).size 2001:Nat):Int))),hp.set r (.map none (kEnts m')))∧SzI l m':=by
 intro k
 induction k using Nat.strongRecOn with
 |_ k ih=>
  intro t hp r m hk hv hr hS
  have hlt:=get_lt hr
  have htz:=valid_size hv
  have hself:hp.set r (.map none (kEnts m))=hp:=by
   obtain⟨_,h⟩:=List.getElem?_eq_some_iff.1 hr
   rw[←h];exact List.set_getElem_self _
  have hg0:∀(X:AObj) (e:Heap),(hp.set r X++e)[hp.length]? =e[0]? :=fun X e=>getN0 (by simp)
  have hg1:∀(X:AObj) (e:Heap) (k:Nat),(hp.set r X++e)[hp.length+k]? =e[k]? :=fun X e k=>getN (by simp) k
  have hlen:∀(X:AObj),(hp.set r X).length=hp.length:=fun X=>by simp
  have hs1:∀(X Y:AObj) (e:Heap) (k:Nat),(hp.set r X++e).set (hp.length+k) Y=hp.set r X++e.set k Y:=fun X Y e k=>setN (by simp) k Y
  have hrr:∀(X:AObj) (e:Heap),(hp.set r X++e)[r]? =some X:=fun X e=>by rw[List.getElem?_append_left (by simpa using hlt),List.getElem?_set_self hlt]
  have hss:∀(X Y:AObj) (e:Heap),(hp.set r X++e).set r Y=hp.set r Y++e:=fun X Y e=>by rw[List.set_append_left _ _ (by simpa using hlt),List.set_set]
  suffices hP:∃v' hp',S 123 [.pv none (.sl (some 5) (bds l)),t.av,.map r] hp=some (.ret v',hp')∧∃m',v'=.pv none (.int .i64 ((min (rs l t).size 2001:Nat):Int))∧hp'=hp.set r (.map none (kEnts m'))∧SzI l m' by
   obtain⟨v',hp',h1,m',rfl,rfl,h2⟩:=hP
   exact⟨m',h1,h2⟩
  by_cases hc:t.kind=0∧fndB l t.n=true
  ·obtain⟨hk0,hf⟩:=hc
   have hb:=fun hp=>bound_yes (s:=.pv none (.sl (some 5) (bds l))) (hp:=hp) (l:=l) (.inl rfl) hO.good.1 hl t hk0 hf
   simp only[Tm.av] at hb
   obtain⟨hto,_⟩:=hO.to hf
   have hlt2:=mu_to hO.Acyc hk0 hf
   have hrs:rs l t=rs l (toB l t.n):=by rw[rs_var hO.Acyc hk0,if_pos hf]
   rw[hrs]
   obtain⟨f,hM,hfv⟩:=id hS
   have hlk:∀e:Heap,rLookup false none (.pv none (.int .i64 0)) false (hp++e) [.map r,.pv none (.int .i64 t.n)]=some (.pv none (.int .i64 (f t.n))):=fun e=>by
    rw[look_m (m:=m) (by rw[List.getElem?_append_left hlt];exact hr),hM]
   refine sem_heap_ex _ rfl rfl rfl rfl ?_
   have hpos:=Tm.size_pos (rs l (toB l t.n))
   by_cases h0:f t.n=0
   ·obtain⟨m2,hcall,hS2⟩:=ih _ (by omega) (toB l t.n) (hp++[.box (some 4) (.pv (some 4) t.pv),.box (some 4) (.pv (some 4) (toB l t.n).pv),.arr (some 4) [] false]) r m rfl hto (by rw[List.getElem?_append_left hlt];exact hr) hS
    rw[List.set_append_left _ _ hlt] at hcall
    simp only[Tm.av] at hcall
    have hsp:∀(X:AObj) (e e':Heap),samePtr (hp++.box (some 4) (.pv (some 4) t.pv)::e) (hp.set r X++.box (some 4) (.pv (some 4) t.pv)::e') (.ptr hp.length 1)=true:=fun X e e'=>samePtr_tm (t:=t) (by rw[get_pre0];rfl) (by rw[hg0];rfl)
    have hms:∀(x:Int) (m:List (Int × PV)) (e:Heap),wMapset false none (hp.set r (.map none (kEnts m))++e) [.map r,.pv none (.int .i64 t.n),.pv none (.int .i64 x)]=some (.undef,hp.set r (.map none (kEnts (mPut t.n (.int .i64 x) m)))++e):=fun x m e=>by
     rw[w_mapset_pv (es:=kEnts m) (hrr _ _) (kEnts_put _ _ _),hss]
    have hlk2:∀(x:Int) (m:List (Int × PV)) (e:Heap),rLookup false none (.pv none (.int .i64 0)) false (hp.set r (.map none (kEnts (mPut t.n (.int .i64 x) m)))++e) [.map r,.pv none (.int .i64 t.n)]=some (.pv none (.int .i64 x)):=fun x m e=>by
     rw[look_m (m:=mPut t.n (.int .i64 x) m) (hrr _ _),mFind_put,if_pos rfl]
     rfl
    simp -dsimp -implicitDefEqProofs only[g123,c123r0,c123r1,c123r2,c123r3,c123r4,c123k5,c123r6,c123k7,c123r8,c123r9,c123r10,c123k11,c123r12,c123r13,c123k14,c123r15,c123k17,c123r18,c123,go_sem,seval,↓reduceIte,Tm.av,hb,part_n,hlk,h0,hcall,hsp,hms,hlk2,hg0,List.take_succ_cons,List.drop_succ_cons,List.all_cons,List.all_nil,w_store_agg (Nat.le_add_right _ _),List.append_assoc,get_pre,get_pre0,set_pre,set_pre0,Nat.add_assoc,List.length_append]
    exact⟨_,by rw[if_pos (by simp[AV.refsIn])];exact List.take_left' (by simp),hS2.put hf⟩
   ·have hfe:=(hfv _ h0).2
    simp -dsimp -implicitDefEqProofs only[g123,c123r0,c123r1,c123r2,c123r3,c123r4,c123k5,c123r6,c123k7,c123r8,c123r9,c123r10,c123k11,c123r12,c123r13,c123k14,c123r15,c123k17,c123r18,c123,go_sem,seval,↓reduceIte,Tm.av,hb,part_n,hlk,h0,w_store_agg (Nat.le_add_right _ _),List.append_assoc,get_pre,get_pre0,set_pre,set_pre0,Nat.add_assoc,List.length_append]
    exact⟨m,by rw[hfe],by rw[if_pos (by simp[AV.refsIn]),hself];exact List.take_left,hS⟩
  ·have hb:=fun hp=>bound_no (s:=.pv none (.sl (some 5) (bds l))) (hp:=hp) (l:=l) (.inl rfl) hO.good.1 hl t hc
   simp only[Tm.av] at hb
   have hrs:(rs l t).size=1+Tm.sizes (t.args.map (rs l)):=by
    by_cases hk0:t.kind=0
    ·have hf:¬fndB l t.n=true:=fun e=>hc ⟨hk0,e⟩
     rw[rs_free hO.Acyc (valid_fits hv) hk0 hf,node_var (valid_fits hv) hk0]
     rfl
    ·rw[rs_str l hk0,Tm.size_eq]
     rfl
   have harg:∀u∈t.args,mu l u<k∧u.valid=true:=fun u hu=>by
    have hk0:¬t.kind=0:=fun hk0=>by
     rw[node_var (valid_fits hv) hk0] at hu
     cases hu
    exact⟨by rw[←hk];exact mu_arg l hk0 hu,valid_arg hv hu⟩
   refine sem_heap_ex _ rfl rfl rfl rfl ?_
   simp -dsimp -implicitDefEqProofs only[g123,c123r0,c123r1,c123r2,c123r3,c123r4,c123k5,c123r6,c123k7,c123r8,c123r9,c123r10,c123k11,c123r12,c123r13,c123k14,c123r15,c123k17,c123r18,c123,go_sem,seval,↓reduceIte,Tm.av,hb,bndX,zagg,part_args,Tm.pvs_len,own_cons_sl,w_store_agg (Nat.le_add_right _ _),List.append_assoc,get_pre,get_pre0,set_pre,set_pre0,Nat.add_assoc,List.length_append]
   refine W_for (α:=List (Int × PV)) t.args.length (fun _ m=>SzI l m) (fun i m=>⟨[(0,.pv none (.sl (some 5) (bds l))),(2,.map r),(9,.pv none (.int .i64 ((min (1+Tm.sizes ((t.args.map (rs l)).take i)) 2001:Nat):Int))),(36,.pv none (.sl (some 4) (Tm.pvs t.args))),(37,.pv none (.int .i64 t.args.length)),(38,.pv none (.int .i64 i))],hp.set r (.map none (kEnts m))++XL hp.length t⟩) m ⟨hS,?_⟩ ?_ ?_
   ·rw[hself]
    rfl
   ·rintro i m2 h hS2
    have hc:(i:Int)<(t.args.length:Int):=by omega
    obtain⟨u,hu⟩:∃u,t.args[i]? =some u:=⟨_,List.getElem?_eq_getElem h⟩
    have hum:=List.mem_of_getElem? hu
    obtain⟨ha1,ha2⟩:=harg u hum
    have hrt:=Tm.sizes_take (l:=t.args.map (rs l)) (i:=i) (t:=rs l u) (by simp[hu])
    have hlen2:=Tm.sizes_len t.args
    have hts:=t.size_eq
    obtain⟨m3,hcall,hS3⟩:=ih _ ha1 u (hp.set r (.map none (kEnts m2))++(XL hp.length t++[.box (some 4) (.pv (some 4) u.pv),.arr (some 4) [] false])) r m2 rfl ha2 (hrr _ _) hS2
    rw[hss] at hcall
    simp only[Tm.av,XL,zagg,List.cons_append,List.nil_append] at hcall
    have w2:IntKind.i64.wrap ((i:Int)+1)=((i+1:Nat):Int):=by rw[wrap64 (by omega) (by omega)];omega
    have w3:IntKind.i64.wrap (((min (1+Tm.sizes ((t.args.map (rs l)).take i)) 2001:Nat):Int)+((min (rs l u).size 2001:Nat):Int))=((min (1+Tm.sizes ((t.args.map (rs l)).take i)) 2001+min (rs l u).size 2001:Nat):Int):=by rw[wrap64 (by omega) (by omega)];omega
    have w4:(if(2001:Int)<((min (1+Tm.sizes ((t.args.map (rs l)).take i)) 2001+min (rs l u).size 2001:Nat):Int) then 2001 else((min (1+Tm.sizes ((t.args.map (rs l)).take i)) 2001+min (rs l u).size 2001:Nat):Int))=((min (1+Tm.sizes ((t.args.map (rs l)).take (i+1))) 2001:Nat):Int):=by
     rw[hrt]
     split <;> omega
    simp -dsimp -implicitDefEqProofs only[g123,c123r0,c123r1,c123r2,c123r3,c123r4,c123k5,c123r6,c123k7,c123r8,c123r9,c123r10,c123k11,c123r12,c123r13,c123k14,c123r15,c123b16,c123k17,c123r18,c123,go_sem,seval,↓reduceIte,XL,zagg,hc,s_iaddr_pv (Tm.pvs_get hu),hcall,w2,w3,w4,hlen,hg0,hg1,hs1,own_cons_sl,w_store_agg (Nat.le_add_right _ _),List.append_assoc,get_pre,get_pre0,set_pre,set_pre0,Nat.add_assoc,List.length_append]
    refine⟨m3,hS3,?_⟩
    rw[collect_pre 7 (by simp) rfl (by simp[AObj.refs,AV.ofComps,pures,AV.refsIn,AV.refsIn.go]) (by simp[AV.refsIn,AV.refsIn.gol];omega)]
    rfl
   ·rintro m2 hS2
    have hc:¬(t.args.length:Int)<(t.args.length:Int):=by omega
    simp -dsimp -implicitDefEqProofs only[g123,c123r0,c123r1,c123r2,c123r3,c123r4,c123k5,c123r6,c123k7,c123r8,c123r9,c123r10,c123k11,c123r12,c123r13,c123k14,c123r15,c123b16,c123k17,c123r18,c123,go_sem,seval,↓reduceIte,hc]
    refine⟨m2,?_,?_,hS2⟩
    ·rw[hrs,List.take_of_length_le (by rw[List.length_map];exact Nat.le_refl _)]
    ·rw[if_pos (by simp[AV.refsIn])]
     exact List.take_left' (by simp)
def appP(t:Tm)(es:List PV):Heap:=[.box (some 4) (.pv (some 4) t.pv),.box (some 4) (zagg 2),.arr (some 4) [] false,.box (some 4) (.pv (some 4) t.pv),.box (some 4) (zagg 6),.arr (some 4) [] false,.arr (some 4) [] false,.box (some 4) (zagg 6),.arr (some 4) [] false,.box (some 4) (.agg [(none,.pv none (.int .i64 t.kind)),(none,.pv none (.int .i64 t.n)),(none,.pv none (.str t.name)),(none,.sl (some 4) 11 es.length 0 es.length)]),.arr (some 4) [] false,.arr (some 4) es false]
theorem resolve_ok(l:List B)(hO:OKB l)(hl:l.length<1000000000):∀(k:Nat) (t:Tm),mu l t=k→t.valid=true→∀hp:Heap,S 124 [.pv none (.sl (some 5) (bds l)),t.av] hp=some (.ret (rs l t).av,hp):=by
 intro k
 induction k using Nat.strongRecOn with
 |_ k ih=>
  intro t hk hv hp
  have htz:=valid_size hv
  have hlen2:=Tm.sizes_len t.args
  have hts:=t.size_eq
  refine sem_pure rfl rfl rfl (freezeAll_pvs [(none,.sl (some 5) (bds l)),(some 4,t.pv)]) rfl ?_
  have hb4:sBuild [(none,.pv none (.int .i64 0)),(none,.pv none (.int .i64 0)),(none,.pv none (.str [])),(none,.tsl (some 4) [])] [0,1,2] [.pv none (.int .i64 t.kind),.pv none (.int .i64 t.n),.pv none (.str t.name)]=some (.agg [(none,.pv none (.int .i64 t.kind)),(none,.pv none (.int .i64 t.n)),(none,.pv none (.str t.name)),(none,.tsl (some 4) [])]):=rfl
  by_cases hc:t.kind=0∧fndB l t.n=true
  ·obtain⟨hk0,hf⟩:=hc
   have hb:=fun hp=>bound_yes (s:=.pv none (.sl (some 5) (bds l))) (hp:=hp) (l:=l) (.inl rfl) hO.good.1 hl t hk0 hf
   obtain⟨hto,_⟩:=hO.to hf
   have hlt2:=mu_to hO.Acyc hk0 hf
   have hrs:rs l t=rs l (toB l t.n):=by rw[rs_var hO.Acyc hk0,if_pos hf]
   have hcall:=ih _ (by omega) (toB l t.n) rfl hto
   rw[hrs]
   simp only[Tm.av] at hb hcall
   simp -dsimp -implicitDefEqProofs only[g124,c124r0,c124r1,c124r2,c124r3,c124k4,c124r5,c124r6,c124r7,c124k8,c124r9,c124r10,c124k11,c124r12,c124k14,c124r15,c124,go_sem,seval,↓reduceIte,Tm.av,hb,hcall,w_store_agg (Nat.zero_le _)]
  ·have hb:=fun hp=>bound_no (s:=.pv none (.sl (some 5) (bds l))) (hp:=hp) (l:=l) (.inl rfl) hO.good.1 hl t hc
   simp only[Tm.av] at hb
   have hrs:rs l t=.mk t.kind t.n t.name (t.args.map (rs l)):=by
    by_cases hk0:t.kind=0
    ·have hf:¬fndB l t.n=true:=fun e=>hc ⟨hk0,e⟩
     rw[rs_free hO.Acyc (valid_fits hv) hk0 hf,node_var (valid_fits hv) hk0]
     rfl
    ·exact rs_str l hk0
   have harg:∀u∈t.args,mu l u<k∧u.valid=true:=fun u hu=>by
    have hk0:¬t.kind=0:=fun hk0=>by
     rw[node_var (valid_fits hv) hk0] at hu
     cases hu
    exact⟨by rw[←hk];exact mu_arg l hk0 hu,valid_arg hv hu⟩
   rw[hrs]
   generalize hts':t.args.map (rs l)=ts'
   have htl:ts'.length=t.args.length:=by rw[←hts',List.length_map]
   simp -dsimp -implicitDefEqProofs only[g124,c124r0,c124r1,c124r2,c124r3,c124k4,c124r5,c124r6,c124r7,c124k8,c124r9,c124r10,c124k11,c124r12,c124k14,c124r15,c124,go_sem,seval,↓reduceIte,Tm.av,hb,bndX,zagg,hb4,part_kind,part_n,part_name,part_args,Tm.pvs_len,own_cons_sl,w_store_agg (Nat.zero_le _)]
   refine W_for (α:=Unit) t.args.length (fun _ _=>True) (fun i _=>⟨[(0,.pv none (.sl (some 5) (bds l))),(4,.ptr 1 0),(7,.ptr 9 0),(28,.pv none (.sl (some 4) (Tm.pvs t.args))),(29,.pv none (.int .i64 t.args.length)),(30,.pv none (.int .i64 i))],appP t (Tm.pvs (ts'.take i))⟩) () ⟨trivial,rfl⟩ ?_ ?_
   ·rintro i - h -
    have hc:(i:Int)<(t.args.length:Int):=by omega
    obtain⟨u,hu⟩:∃u,t.args[i]? =some u:=⟨_,List.getElem?_eq_getElem h⟩
    have hum:=List.mem_of_getElem? hu
    obtain⟨ha1,ha2⟩:=harg u hum
    have hcall:=ih _ ha1 u rfl ha2
    simp only[Tm.av] at hcall
    have hpt:=Tm.pvs_take_succ (l:=ts') (i:=i) (t:=rs l u) (by rw[←hts'];simp[hu])
    have w2:IntKind.i64.wrap ((i:Int)+1)=((i+1:Nat):Int):=by rw[wrap64 (by omega) (by omega)];omega
    have hl1:(Tm.pvs (ts'.take i)).length=i:=by rw[Tm.pvs_len,List.length_take];omega
    have hl2:(ts'.take (i+1)).length=i+1:=by rw[List.length_take];omega
    have hlim:i+1≤lim:=by unfold lim;omega
    simp -dsimp -implicitDefEqProofs only[g124,c124r0,c124r1,c124r2,c124r3,c124k4,c124r5,c124r6,c124r7,c124k8,c124r9,c124r10,c124k11,c124r12,c124b13,c124k14,c124r15,c124,go_sem,seval,↓reduceIte,appP,zagg,part_args,Tm.pvs_len,hc,s_iaddr_pv (Tm.pvs_get hu),hcall,w2,hl1,hlim,hpt,w_store_agg (Nat.zero_le _),w_store_sl (Nat.zero_le _)]
    exact⟨(),by rw[hl2];rfl⟩
   ·rintro - -
    have hc:¬(t.args.length:Int)<(t.args.length:Int):=by omega
    have htk:ts'.take t.args.length=ts':=List.take_of_length_le (by omega)
    simp -dsimp -implicitDefEqProofs only[g124,c124r0,c124r1,c124r2,c124r3,c124k4,c124r5,c124r6,c124r7,c124k8,c124r9,c124r10,c124k11,c124r12,c124b13,c124k14,c124r15,c124,go_sem,seval,↓reduceIte,appP,zagg,part_args,Tm.pvs_len,hc,htk,own_cons_sl,w_store_agg (Nat.zero_le _),w_store_sl (Nat.zero_le _)]
    exact frozen_raw _ _ _ (Tm.pvs ts') _ (Tm.pvs_len ts').symm rfl
theorem presolve_ok(l:List B)(t:Tm)(hl:l.length<100000000)(hsz:∀b∈l,b.2.size<1000000000)(ht:t.size<1000000000)(hp:Heap):
  S 86 [.pv none (.sl (some 5) (bds l)),t.av] hp=some (.ret (.tuple [(rsR l t).1.av,.pv none (.int .i64 (rsR l t).2)]),hp):=by
 refine sem_pure rfl rfl rfl (freezeAll_pvs [(none,.sl (some 5) (bds l)),(some 4,t.pv)]) rfl ?_
 have h1:=pvalidB_ok l hl hsz
 have h2:=fun hp=>valid_ok t hp ht
 simp only[Tm.av] at h2
 unfold rsR
 cases hb:okb l with
 |false=>
  rw[hb] at h1
  rw[if_neg (by simp)];dsimp only
  simp -dsimp -implicitDefEqProofs only[go_sem,seval,↓reduceIte,Tm.av,h1,h2,w_store_agg (Nat.zero_le _),hb0]
  exact frozen_zt2 _ _ _ rfl
 |true=>
  rw[hb] at h1
  have hO:=okb_iff.1 hb
  by_cases hv:t.valid=true
  ·rw[if_pos ⟨rfl,hv⟩]
   have h3:=resolve_ok l hO (by omega) _ t rfl hv
   obtain⟨m',h4,_⟩:=measure_ok l hO (by omega) _ t [.box (some 4) (.pv (some 4) t.pv),.box (some 4) (zagg 2),.arr (some 4) [] false,.map none []] 3 [] rfl hv rfl ⟨fun _=>0,fun _=>rfl,fun v h=>absurd rfl h⟩
   simp only[Tm.av,zagg,List.set_cons_zero,List.set_cons_succ] at h3 h4
   by_cases hs:(rs l t).size≤2000
   ·rw[if_pos hs];dsimp only
    have hm:¬(2000:Int)<((min (rs l t).size 2001:Nat):Int):=by omega
    simp -dsimp -implicitDefEqProofs only[go_sem,seval,↓reduceIte,Tm.av,h1,h2,hv,h3,h4,hm,w_store_agg (Nat.zero_le _),hb0]
    exact frozen_two _ _ _ _ _
   ·rw[if_neg hs];dsimp only
    have hm:(2000:Int)<((min (rs l t).size 2001:Nat):Int):=by omega
    simp -dsimp -implicitDefEqProofs only[go_sem,seval,↓reduceIte,Tm.av,h1,h2,hv,h3,h4,hm,w_store_agg (Nat.zero_le _),hb0]
    exact frozen_zt2 _ _ _ rfl
  ·rw[if_neg fun h=>hv h.2];dsimp only
   have hv':t.valid=false:=by simpa using hv
   simp -dsimp -implicitDefEqProofs only[go_sem,seval,↓reduceIte,Tm.av,h1,h2,hv',w_store_agg (Nat.zero_le _),hb0]
   exact frozen_zt2 _ _ _ rfl
noncomputable def lkR(l:List B)(t:Tm):Tm:=if okb l=true∧t.valid=true then flw l t else zt
end Go.Proofs.YtffecaafklpmhaaGreat
