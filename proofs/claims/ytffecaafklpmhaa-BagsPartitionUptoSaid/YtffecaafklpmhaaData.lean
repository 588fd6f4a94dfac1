/- What is proved: term.Variant, and whether a pair's key is a variant of another key. -/
import Derived.Test.YtffecaafklpmhaaLst
import Derived.Test.YtffecaafklpmhaaRKeys
import Derived.Test.YtffecaafklpmhaaSml
import Derived.Test.YtffecaafklpmhaaAm4
set_option linter.unusedSimpArgs false
set_option linter.unusedVariables false
namespace Go.Proofs.Ytffecaafklpmhaa
open Go.Am
def vari(a b:Tm):Bool:=a.valid && (b.valid && decide ((canT a).cmp (canT b)=0))
theorem zq9{L:List Int}:∀t:Tm,t.fits=true->(Tm.sub (cPos L) t).size=t.size:=by
 intro t
 induction t using Tm.zvL with
 |h t ih=>
  intro hf
  rw[Tm.zvS]
  by_cases hk:t.kind=0
  ·rw[if_pos hk,zbg hf hk]
   rfl
  ·rw[if_neg hk,Tm.size_eq,t.size_eq]
   congr 1
   have hargs:∀u∈t.args,(Tm.sub (cPos L) u).size=u.size:=fun u hu=>ih u hu (Tm.zvM hf hu)
   show Tm.sizes (t.args.map (Tm.sub (cPos L)))=_
   generalize t.args=l at hargs
   clear ih
   induction l with
   |nil=>rfl
   |cons x r ihl=>
    rw[List.map_cons,Tm.sizes,Tm.sizes,hargs x List.mem_cons_self,ihl fun u hu=>hargs u (List.mem_cons_of_mem _ hu)]
theorem zra{t:Tm}(h:t.valid=true):(canT t).size=t.size:=zq9 t (valid_fits h)
theorem zoe(a b:Tm)(hp:Heap)(ha:a.size<1000000000)(hb:b.size<1000000000):S 47 [a.av,b.av] hp=some (.ret (.pv none (.bool (vari a b))),hp):=by
 refine zar rfl rfl rfl (zad [(some 4,a.pv),(some 4,b.pv)]) rfl ?_
 have h1:=fun hp=>za6 a hp ha
 have h2:=fun hp=>za6 b hp hb
 simp only[Tm.av] at h1 h2
 unfold vari
 by_cases va:a.valid=true
 ·by_cases vb:b.valid=true
  ·have h4:=fun hp=>zmn a hp ha
   have h5:=fun hp=>zmn b hp hb
   have hs:=zra va
   have h3:=fun hp=>zkt (canT a) (canT b) hp (by omega)
   rw[canR,if_pos va] at h4
   rw[canR,if_pos vb] at h5
   simp only[Tm.av] at h3 h4 h5
   (repeat' (first|(simp -dsimp -implicitDefEqProofs only[go_sem,seval,↓reduceIte, *])|(refine zat (fun _=> ?_) (fun _=> ?_))))
  ·(repeat' (first|(simp -dsimp -implicitDefEqProofs only[go_sem,seval,↓reduceIte, *])|(refine zat (fun _=> ?_) (fun _=> ?_))))
 ·(repeat' (first|(simp -dsimp -implicitDefEqProofs only[go_sem,seval,↓reduceIte, *])|(refine zat (fun _=> ?_) (fun _=> ?_))))
theorem zsM(p key:Tm)(hp:zaU p=true)(H:Heap)(c:Nat)(hc:H[c]? =some (.box (some 4) (.pv (some 4) key.pv)))(h1:p.size<1000000000)(h2:key.size<1000000000):
  S 46 [p.av,.ptr c 0] H=some (.ret (.pv none (.bool (vari (zab p) key))),H):=by
 refine zaI rfl rfl rfl rfl ?_
 obtain⟨a,b,e⟩:=ze2 hp
 have e1:(Tm.pvs p.args)[0]? =some (zab p).pv:=Tm.pvs_get (by unfold zab;rw[e];rfl)
 have hk:=zen hp
 have hks:=Tm.zvN hk
 have h3:=fun hp=>zoe (zab p) key hp (by omega) h2
 have hcl:=zbT hc
 have hld:∀X:Heap,(H++X)[c]? =some (.box (some 4) (.pv (some 4) key.pv)):=fun X=>by rw[List.getElem?_append_left hcl];exact hc
 simp only[Tm.av] at h3
 simp -dsimp -implicitDefEqProofs only[go_sem,seval,↓reduceIte,Tm.av,zag,zaM e1,h3,hld,List.append_assoc,zai,zae,zak,zaf,Nat.add_assoc,List.length_append]
 simp[AV.refsIn]
theorem uniV{V:List Int}:∀(n:Nat) (l:List B) (r:List (Tm × Tm)),OKB l->(∀p∈r,p.1.valid=true/\p.2.valid=true)->InVB V l->(∀p∈r,InV V p.1/\InV V p.2)->InVB V (uni n l r).1
 |n,l,[],_,_,hl,_=>by rw[zfz];exact hl
 |0,l,p::r,_,_,_,_=>by rw[zi1];exact fun b hb=>by cases hb
 |n+1,l,p::r,hO,hr,hl,hp=>by
  have hv:=hr p List.mem_cons_self
  have hi:=hp p List.mem_cons_self
  have hx:=zbA hO hv.1
  have hy:=zbA hO hv.2
  have ix:=InV.flw hO hl _ _ rfl hv.1 hi.1
  have iy:=InV.flw hO hl _ _ rfl hv.2 hi.2
  have hr2:=fun q hq=>hr q (List.mem_cons_of_mem _ hq)
  have hp2:=fun q hq=>hp q (List.mem_cons_of_mem _ hq)
  cases e:ustep l (flw l p.1) (flw l p.2) with
  |err e'=>rw[zlJ r e];exact fun b hb=>by cases hb
  |bind v t=>
   rw[ze4 r e]
   obtain⟨b1,b2,b3,b4⟩:=zd3 hO hx hy e
   refine uniV n (insB l v t) r (zi3 hO b1 b2 b3 b4) hr2 (fun b hb=> ?_) hp2
   rcases zdj hb with rfl|h
   ·exact zg6 ix iy e
   ·exact hl b h
  |args xs=>
   rw[zcq r e]
   exact uniV n l (xs++r) hO (fun q hq=>(List.mem_append.1 hq).elim ((zfA hx hy e).1 q) (hr2 q)) hl fun q hq=>(List.mem_append.1 hq).elim (zg7 ix iy e q) (hp2 q)
theorem zvE{V:List Int}{l:List B}{a b:Tm}(hl:InVB V l)(ha:InV V a)(hb:InV V b):InVB V (unR l a b).1:=by
 unfold unR
 split
 ·rename_i h
  refine uniV _ _ _ (okb_iff.1 h.1) (fun p hp=> ?_) hl fun p hp=> ?_
  ·rw[List.mem_singleton] at hp;rw[hp];exact h.2
  ·rw[List.mem_singleton] at hp;rw[hp];exact⟨ha,hb⟩
 ·exact fun b hb=>by cases hb
theorem zqv(l:List B)(a b:Tm):OKB (unR l a b).1:=by
 unfold unR
 split
 ·rename_i h
  refine(zq7 _ _ _ (okb_iff.1 h.1) fun p hp=> ?_).1
  rw[List.mem_singleton] at hp;rw[hp];exact h.2
 ·exact okb_nil
def za0(t:Tm):Tm:=(t.args[1]?).getD (.mk 0 0 [] [])
def prT(k t:Tm):Tm:=.mk 3 0 [45] [k,t]
noncomputable def gU(key:Tm):List B->List Tm->Option (List B)
 |s,[]=>some s
 |s,p::r=>if(unR s (zab p) key).2=0 then gU key (unR s (zab p) key).1 r else none
noncomputable def grp(p:Tm)(r:List Tm):Option Tm:=
 match gU (zab p) [] r with
 |none=>none
 |some s=>if(rsR s (zab p)).2=0/\(∀t∈p::r,(rsR s (za0 t)).2=0)/\(prT (rsR s (zab p)).1 (lst ((p::r).map fun t=>(rsR s (za0 t)).1))).size<=2000 then some (prT (rsR s (zab p)).1 (lst ((p::r).map fun t=>(rsR s (za0 t)).1))) else none
def ztV:Option Tm->Option (List Tm)->Option (List Tm)
 |none,_=>none
 |some t,g=>g.map (t::·)
noncomputable def grps:Nat->List Tm->Option (List Tm)
 |_,[]=>some []
 |0,_::_=>some []
 |n+1,p::r=>ztV (grp p (r.filter fun q=>vari (zab q) (zab p))) (grps n (r.filter fun q=> !vari (zab q) (zab p)))
def ofG:Option (List Tm)->List Tm × Int
 |some l=>(l,0)
 |none=>([],2)
noncomputable def zci(ts:List Tm):List Tm × Int:=if zdJ ts=0 then ofG (grps (zbC ts).length (zbC ts)) else([],zdJ ts)
theorem zgZ{s:List B}{t:Tm}(h:(rsR s t).2=0):(rsR s t).1.valid=true/\(rsR s t).1.size<=2000:=by
 unfold rsR at h ⊢
 split
 ·rename_i hc
  rw[if_pos hc] at h
  split
  ·rename_i hz
   exact⟨zd1 (zub (okb_iff.1 hc.1) _ t rfl (valid_fits hc.2)) hz,hz⟩
  ·rename_i hz
   rw[if_neg hz] at h
   cases h
 ·rename_i hc
  rw[if_neg hc] at h
  cases h
theorem zg0:∀l:List Tm,(∀t∈l,t.fits=true)->(lst l).fits=true
 |[],_=>by decide
 |x::r,h=>by
  have ih:=zg0 r fun w hw=>h w (List.mem_cons_of_mem _ hw)
  have hv:=h x List.mem_cons_self
  show(zlw x (lst r)).fits=true
  simp[zlw,Tm.fits,Tm.fitsAll,Tm.node,ih,hv,Tm.kind,Tm.n,Tm.name,Tm.args]
theorem zg1:∀(l:List Tm) (m:Nat),(∀t∈l,t.size<=m)->(lst l).size<=(m+1)*l.length+1
 |[],_,_=>by show 1<=_;omega
 |x::r,m,h=>by
  have ih:=zg1 r m fun w hw=>h w (List.mem_cons_of_mem _ hw)
  have hx:=h x List.mem_cons_self
  show 1+(x.size+((lst r).size+0))<=(m+1)*(r.length+1)+1
  rw[Nat.mul_succ]
  omega
theorem ziQ{k t:Tm}(hk:k.fits=true)(ht:t.fits=true):(prT k t).fits=true:=by
 simp[prT,Tm.fits,Tm.fitsAll,Tm.node,hk,ht,Tm.kind,Tm.n,Tm.name,Tm.args]
theorem zkj{p:Tm}{r:List Tm}{t:Tm}(h:grp p r=some t):t.valid=true:=by
 unfold grp at h
 split at h
 ·cases h
 ·rename_i s _
  split at h
  ·rename_i hc
   cases h
   refine zd1 (ziQ (valid_fits (zgZ hc.1).1) (zg0 _ fun x hx=> ?_)) hc.2.2
   obtain⟨q,hq,rfl⟩:=List.mem_map.1 hx
   exact valid_fits (zgZ (hc.2.1 q hq)).1
  ·cases h
theorem zhZ:∀(n:Nat) (l:List Tm) (g:List Tm),grps n l=some g->∀t∈g,t.valid=true
 |_,[],g,h=>by rw[grps] at h;cases h;exact fun t ht=>by cases ht
 |0,_::_,g,h=>by rw[grps] at h;cases h;exact fun t ht=>by cases ht
 |n+1,p::r,g,h=>by
  rw[grps] at h
  cases ht:grp p (r.filter fun q=>vari (zab q) (zab p)) with
  |none=>rw[ht] at h;cases h
  |some t=>
   rw[ht] at h
   cases e:grps n (r.filter fun q=> !vari (zab q) (zab p)) with
   |none=>rw[e] at h;cases h
   |some g'=>
    rw[e] at h
    cases h
    intro u hu
    rcases List.mem_cons.1 hu with rfl|hu
    ·exact zkj ht
    ·exact zhZ n _ g' e u hu
theorem ziR(ts:List Tm):∀t∈(zci ts).1,t.valid=true:=by
 unfold zci
 split
 ·cases h:grps (zbC ts).length (zbC ts) with
  |some l=>exact zhZ _ _ _ h
  |none=>exact fun t ht=>by cases ht
 ·exact fun t ht=>by cases ht
def swp(p:Tm × Tm):Tm × Tm:=(p.2,p.1)
def shp(t:Tm):Tm:=Tm.sub (fun _=>tvar 0) t
theorem ztW(f g:Int->Tm):∀t:Tm,Tm.sub f (Tm.sub g t)=Tm.sub (fun v=>Tm.sub f (g v)) t:=by
 intro t
 induction t using Tm.zvL with
 |h t ih=>
  rw[Tm.zvS g t,Tm.zvS (fun v=>Tm.sub f (g v)) t]
  by_cases hk:t.kind=0
  ·rw[if_pos hk,if_pos hk]
  ·rw[if_neg hk,if_neg hk,Tm.zvS,if_neg (by exact hk)]
   show Tm.mk t.kind t.n t.name ((t.args.map (Tm.sub g)).map (Tm.sub f))=_
   rw[List.map_map]
   congr 1
   exact List.map_congr_left fun u hu=>ih u hu
theorem zqw(t:Tm):shp (canT t)=shp t:=ztW _ _ t
theorem zsr{a b:Tm}(h:vari a b=true):shp a=shp b:=by
 unfold vari at h
 simp only[Bool.and_eq_true,decide_eq_true_eq] at h
 rw[<-zqw a,<-zqw b,Tm.cmp_zero.1 h.2.2]
theorem znT{a b:Tm}(h:vari a b=true):a.valid=true/\b.valid=true:=by
 unfold vari at h
 simp only[Bool.and_eq_true] at h
 exact⟨h.1,h.2.1⟩
theorem zgd{t:Tm}:(shp t).kind=t.kind:=by
 unfold shp
 rw[Tm.zvS]
 split
 ·rename_i h;rw[h];rfl
 ·rfl
theorem zqx{t:Tm}(hk:¬t.kind=0):shp t=.mk t.kind t.n t.name (t.args.map shp):=by
 unfold shp
 rw[Tm.zvS,if_neg hk]
def VV(l:List B):Prop:=∀b∈l,b.2.kind=0
theorem zs0{l:List B}(hO:OKB l)(hv:VV l):∀(k:Nat) (t:Tm),mu l t=k->t.valid=true->t.kind=0->(flw l t).kind=0:=by
 intro k
 induction k using Nat.strongRecOn with
 |_ k ih=>
  intro t hk hval hk0
  by_cases hf:fndB l t.n=true
  ·rw[zh5 hO.Acyc hk0 hf]
   have:=ze3 hO.Acyc hk0 hf
   exact ih _ (by omega) _ rfl (hO.to hf).1 (hv _ (find_mem hf))
  ·rw[zd2 hO.Acyc (valid_fits hval) hk0 hf];exact hk0
def wsum(r:List (Tm × Tm)):Nat:=(r.map fun p=>p.1.size).sum
theorem ziS:∀(a b:List Tm),a.length=b.length->wsum (a.zip b)=Tm.sizes a
 |[],[],_=>rfl
 |x::a,y::b,h=>by
  have ih:=ziS a b (by simpa using h)
  unfold wsum at ih ⊢
  simp only[List.zip_cons_cons,List.map_cons,List.sum_cons,ih,Tm.sizes]
 |[],_::_,h=>by cases h
theorem zqy:∀{a b:List Tm},a.map shp=b.map shp->∀p∈a.zip b,shp p.1=shp p.2
 |[],_,_,p,hp=>by simp at hp
 |x::a,[],h,p,hp=>by simp at hp
 |x::a,y::b,h,p,hp=>by
  simp only[List.map_cons,List.cons.injEq] at h
  rw[List.zip_cons_cons] at hp
  rcases List.mem_cons.1 hp with rfl|hp
  ·exact h.1
  ·exact zqy h.2 p hp
theorem zmu:∀(n:Nat) (l:List B) (r:List (Tm × Tm)),OKB l->VV l->(∀p∈r,(p.1.valid=true/\p.2.valid=true)/\shp p.1=shp p.2)->wsum r<=n->∃l',uni n l r=(l',0)/\uni n l (r.map swp)=(l',0)/\VV l'
 |n,l,[],_,hv,_,_=>⟨l,zfz n l,zfz n l,hv⟩
 |0,l,p::r,_,_,_,hw=>by
  have:=p.1.size_eq
  unfold wsum at hw
  simp only[List.map_cons,List.sum_cons] at hw
  omega
 |n+1,l,p::r,hO,hv,hr,hw=>by
  obtain⟨⟨v1,v2⟩,hs⟩:=hr p List.mem_cons_self
  have hr2:=fun q hq=>hr q (List.mem_cons_of_mem _ hq)
  have hx:=zbA hO v1
  have hy:=zbA hO v2
  have hsz:=p.1.size_eq
  have hws:wsum (p::r)=p.1.size+wsum r:=by unfold wsum;simp
  rw[List.map_cons]
  by_cases hk:p.1.kind=0
  ·have hk2:p.2.kind=0:=by rw[<-zgd,<-hs,zgd];exact hk
   have fx:=zs0 hO hv _ _ rfl v1 hk
   have fy:=zs0 hO hv _ _ rfl v2 hk2
   have bnd:∀{v:Int} {t:Tm},ustep l (flw l p.1) (flw l p.2)=.bind v t->ustep l (flw l p.2) (flw l p.1)=.bind v t->t.kind=0->∃l',uni (n+1) l (p::r)=(l',0)/\uni (n+1) l (swp p::r.map swp)=(l',0)/\VV l':=fun{v t} e e' ht=>by
    obtain⟨b1,b2,b3,b4⟩:=zd3 hO hx hy e
    obtain⟨l',h1,h2,h3⟩:=zmu n (insB l v t) r (zi3 hO b1 b2 b3 b4) (fun b hb=>by
     rcases zdj hb with rfl|h
     ·exact ht
     ·exact hv b h) hr2 (by omega)
    exact⟨l',by rw[ze4 r e];exact h1,by rw[ze4 (p:=swp p) (r.map swp) e'];exact h2,h3⟩
   by_cases h1:(flw l p.2).n<(flw l p.1).n
   ·have h2:¬(flw l p.1).n<(flw l p.2).n:=by omega
    refine bnd (v:=(flw l p.1).n) (t:=flw l p.2) ?_ ?_ fy
    ·unfold ustep;rw[if_pos ⟨fx,fy⟩,if_pos h1]
    ·unfold ustep;rw[if_pos ⟨fy,fx⟩,if_neg h2,if_pos h1]
   ·by_cases h2:(flw l p.1).n<(flw l p.2).n
    ·refine bnd (v:=(flw l p.2).n) (t:=flw l p.1) ?_ ?_ fx
     ·unfold ustep;rw[if_pos ⟨fx,fy⟩,if_neg h1,if_pos h2]
     ·unfold ustep;rw[if_pos ⟨fy,fx⟩,if_pos h2]
    ·have e:ustep l (flw l p.1) (flw l p.2)=.args []:=by unfold ustep;rw[if_pos ⟨fx,fy⟩,if_neg h1,if_neg h2]
     have e':ustep l (flw l p.2) (flw l p.1)=.args []:=by unfold ustep;rw[if_pos ⟨fy,fx⟩,if_neg h2,if_neg h1]
     obtain⟨l',h3,h4,h5⟩:=zmu n l r hO hv hr2 (by omega)
     exact⟨l',by rw[zcq r e];exact h3,by rw[zcq (p:=swp p) (r.map swp) e'];exact h4,h5⟩
  ·have hk2:¬p.2.kind=0:=by rw[<-zgd,<-hs,zgd];exact hk
   have hs2:=hs
   rw[zqx hk,zqx hk2] at hs2
   injection hs2 with s1 s2 s3 s4
   have s5:p.1.args.length=p.2.args.length:=by have:=congrArg List.length s4;simpa using this
   have f1:=zdM l hk
   have f2:=zdM l hk2
   have e:ustep l (flw l p.1) (flw l p.2)=.args (p.1.args.zip p.2.args):=by rw[f1,f2];unfold ustep;rw[if_neg (fun h=>hk h.1),if_neg hk,if_neg hk2,if_pos ⟨s1,s2,s3,s5⟩]
   have e':ustep l (flw l p.2) (flw l p.1)=.args (p.2.args.zip p.1.args):=by rw[f1,f2];unfold ustep;rw[if_neg (fun h=>hk2 h.1),if_neg hk2,if_neg hk,if_pos ⟨s1.symm,s2.symm,s3.symm,s5.symm⟩]
   have ez:p.2.args.zip p.1.args=(p.1.args.zip p.2.args).map swp:=by
    have key:∀a b:List Tm,b.zip a=(a.zip b).map swp:=fun a=>by
     induction a with
     |nil=>intro b;cases b <;> rfl
     |cons x r ih=>
      intro b
      cases b with
      |nil=>rfl
      |cons y s=>simp only[List.zip_cons_cons,List.map_cons,ih];rfl
    exact key _ _
   have hwz:wsum (p.1.args.zip p.2.args++r)=Tm.sizes p.1.args+wsum r:=by
    rw[<-ziS p.1.args p.2.args s5]
    unfold wsum
    rw[List.map_append,List.sum_append]
   obtain⟨l',h3,h4,h5⟩:=zmu n l (p.1.args.zip p.2.args++r) hO hv (fun q hq=>by
    rcases List.mem_append.1 hq with hq|hq
    ·have:=List.of_mem_zip hq
     exact⟨⟨zaW v1 this.1,zaW v2 this.2⟩,zqy s4 q hq⟩
    ·exact hr2 q hq) (by omega)
   refine⟨l',by rw[zcq r e];exact h3,?_,h5⟩
   rw[zcq (p:=swp p) (r.map swp) e',ez,<-List.map_append]
   exact h4
theorem zuP{l:List B}(hO:OKB l)(hv:VV l){a b:Tm}(h:vari a b=true):∃l',unR l a b=(l',0)/\unR l b a=(l',0)/\VV l'/\OKB l':=by
 obtain⟨va,vb⟩:=znT h
 obtain⟨l',h1,h2,h3⟩:=zmu 1048576 l [(a,b)] hO hv (fun p hp=>by
  rw[List.mem_singleton] at hp
  rw[hp]
  exact⟨⟨va,vb⟩,zsr h⟩) (by
  have:=valid_size va
  show a.size+0<=_
  omega)
 have e1:unR l a b=(l',0):=by unfold unR;rw[if_pos ⟨okb_iff.2 hO,va,vb⟩];exact h1
 have e2:unR l b a=(l',0):=by unfold unR;rw[if_pos ⟨okb_iff.2 hO,vb,va⟩];exact h2
 have:=zqv l a b
 rw[e1] at this
 exact⟨l',e1,e2,h3,this⟩
noncomputable def zg2(w:Tm):List B->List Tm->List B
 |s,[]=>s
 |s,q::r=>zg2 w (unR s w (zab q)).1 r
theorem zuQ(w:Tm):∀(r:List Tm) (s:List B),OKB s->VV s->(∀q∈r,vari (zab q) w=true)->gU w s r=some (zg2 w s r)/\OKB (zg2 w s r)/\VV (zg2 w s r)
 |[],s,hO,hv,_=>⟨rfl,hO,hv⟩
 |q::r,s,hO,hv,h=>by
  obtain⟨l',e1,e2,h3,h4⟩:=zuP hO hv (h q List.mem_cons_self)
  rw[gU,zg2,e1,e2,if_pos rfl]
  exact zuQ w r l' h4 h3 fun x hx=>h x (List.mem_cons_of_mem _ hx)
theorem zh0{l:List B}(hO:OKB l)(hv:VV l):∀(k:Nat) (t:Tm),mu l t=k->t.fits=true->(rs l t).size=t.size:=by
 intro k
 induction k using Nat.strongRecOn with
 |_ k ih=>
  intro t hk hf
  by_cases hk0:t.kind=0
  ·have ht:t.size=1:=by rw[zbg hf hk0];rfl
   by_cases hfd:fndB l t.n=true
   ·rw[zhd hO.Acyc hk0,if_pos hfd]
    have h1:=ze3 hO.Acyc hk0 hfd
    have h2:=valid_fits (hO.to hfd).1
    rw[ih _ (by omega) _ rfl h2,ht,zbg h2 (hv _ (find_mem hfd))]
    rfl
   ·rw[zhf hO.Acyc hf hk0 hfd]
  ·rw[zfZ l hk0,Tm.size_eq,t.size_eq]
   congr 1
   show Tm.sizes (t.args.map (rs l))=_
   have hargs:∀u∈t.args,(rs l u).size=u.size:=fun u hu=>ih _ (by have:=zhc l hk0 hu;omega) u rfl (Tm.zvM hf hu)
   generalize t.args=ts at hargs
   induction ts with
   |nil=>rfl
   |cons x r ihl=>rw[List.map_cons,Tm.sizes,Tm.sizes,hargs x List.mem_cons_self,ihl fun u hu=>hargs u (List.mem_cons_of_mem _ hu)]
theorem zs1(l:List B):∀ts:List Tm,rs l (lst ts)=lst (ts.map (rs l))
 |[]=>zfZ l (by decide)
 |x::r=>by
  show rs l (zlw x (lst r))=zlw (rs l x) (lst (r.map (rs l)))
  rw[<-zs1 l r]
  exact zfZ l (by show ¬(3:Int)=0;decide)
theorem zuR(l:List B)(k t:Tm):rs l (prT k t)=prT (rs l k) (rs l t):=zfZ l (by show ¬(3:Int)=0;decide)
theorem zqz{l:List B}(hO:OKB l)(hv:VV l){t:Tm}(h:t.valid=true):rsR l t=(rs l t,0):=by
 unfold rsR
 rw[if_pos ⟨okb_iff.2 hO,h⟩,if_pos (by rw[zh0 hO hv _ t rfl (valid_fits h)];exact valid_size h)]
def grpT(p:Tm)(r:List Tm):Tm:=prT (zab p) (lst ((p::r).map za0))
theorem zfx{t:Tm}(h:zaU t=true)(hv:t.valid=true):(za0 t).valid=true:=by
 obtain⟨a,b,e⟩:=ze2 h
 exact zaW hv (by unfold za0;rw[e];simp)
theorem zg3{p:Tm}{r:List Tm}(hp:∀q∈p::r,zaU q=true/\q.valid=true):(grpT p r).fits=true:=by
 have h0:=hp p List.mem_cons_self
 refine ziQ (valid_fits (zaW h0.2 (zen h0.1))) (zg0 _ fun t ht=> ?_)
 obtain⟨q,hq,rfl⟩:=List.mem_map.1 ht
 exact valid_fits (zfx (hp q hq).1 (hp q hq).2)
theorem zuS{p:Tm}{r:List Tm}(hp:∀q∈p::r,zaU q=true/\q.valid=true)(hv:∀q∈r,vari (zab q) (zab p)=true):
  OKB (zg2 (zab p) [] r)/\VV (zg2 (zab p) [] r)/\grp p r=if(grpT p r).valid=true then some (rs (zg2 (zab p) [] r) (grpT p r)) else none:=by
 obtain⟨h1,h2,h3⟩:=zuQ (zab p) r [] okb_nil (fun b hb=>by cases hb) hv
 refine⟨h2,h3,?_⟩
 unfold grp
 rw[h1]
 dsimp only
 generalize zg2 (zab p) [] r=s at*
 have h0:=hp p List.mem_cons_self
 have hk:=zaW h0.2 (zen h0.1)
 have hit:∀q∈p::r,rsR s (za0 q)=(rs s (za0 q),0):=fun q hq=>zqz h2 h3 (zfx (hp q hq).1 (hp q hq).2)
 have hmap:((p::r).map fun t=>(rsR s (za0 t)).1)=((p::r).map za0).map (rs s):=by
  rw[List.map_map]
  exact List.map_congr_left fun q hq=>by rw[hit q hq];rfl
 have e1:prT (rsR s (zab p)).1 (lst ((p::r).map fun t=>(rsR s (za0 t)).1))=rs s (grpT p r):=by
  rw[zqz h2 h3 hk,hmap,<-zs1,grpT,zuR]
 rw[e1,zh0 h2 h3 _ _ rfl (zg3 hp)]
 have hf:=zg3 hp
 by_cases hz:(grpT p r).size<=2000
 ·rw[if_pos ⟨by rw[zqz h2 h3 hk],fun t ht=>by rw[hit t ht],hz⟩,if_pos (zd1 hf hz)]
 ·rw[if_neg (fun h=>hz h.2.2),if_neg (fun h=>hz (valid_size h))]
def GrpV(o:Option Tm)(v:AV):Prop:=match o with
 |some t=>v=.tuple [t.av,.pv none (.int .i64 0)]
 |none=>∃e:Int,e≠0/\v=.tuple [zt.av,.pv none (.int .i64 e)]
theorem zeW{e:Int}(h:e≠0):GrpV none (.tuple [zt.av,.pv none (.int .i64 e)]):=⟨e,h,rfl⟩
theorem zss(nm:List UInt8)(x y:Tm)(hp:Heap):S 27 [.pv none (.str nm),.pv none (.sl (some 4) [x.pv,y.pv])] hp=some (.ret (Tm.mk 3 0 nm [x,y]).av,hp):=by
 refine zar (ps:=[(none,.str nm),(none,.sl (some 4) [x.pv,y.pv])]) rfl rfl rfl rfl rfl ?_
 have hb:za7 [(none,.pv none (.int .i64 0)),(none,.pv none (.int .i64 0)),(none,.pv none (.str [])),(none,.tsl (some 4) [])] [0,2,3] [.pv none (.int .i64 3),.pv none (.str nm),.pv none (.sl (some 4) [x.pv,y.pv])]=some (.pv (some 4) (Tm.mk 3 0 nm [x,y]).pv):=rfl
 simp -dsimp -implicitDefEqProofs only[go_sem,seval,↓reduceIte,hb]
 try rfl
theorem znU{s:Nat}{r:List Nat}{fr:Fr}{a0 a1 a2 a3 a4 a5 a6 a7:AObj}{es:List PV}{X:Heap}:zfo s r ⟨fr,a0::a1::a2::a3::a4::a5::a6::a7::.arr (some 4) es false::X⟩ (some (.sl (some 4) 8 es.length 0 es.length))=Am.settle r ⟨(s,.pv none (.sl (some 4) es))::fr,a0::a1::a2::a3::a4::a5::a6::a7::.arr (some 4) es true::X⟩:=by
 simp[zfo,AV.freeze,deep]
theorem zb5{n:Nat}{fr:Fr}{xs:Heap}(ho:(xs.take n).all (fun o=>o.refs.all (fun q=>decide (q<n)))=true)(hf:fr.all (fun x=>x.2.refsIn.all (fun q=>decide (q<n)))=true):collect n 0 fr xs=xs.take n:=by
 unfold collect
 rw[List.drop_zero,if_pos (by rw[hf,ho];rfl)]
def s5G(i:Nat)(s:List B):AV:=if i<=1 then .sl (some 5) 4 0 0 0 else .pv none (.sl (some 5) (bds s))
def gH(key:Tm)(fz:Bool)(items:List Tm):Heap:=[.box (some 4) (.agg [(none,.pv none (.int .i64 0)),(none,.pv none (.int .i64 0)),(none,.pv none (.str [])),(none,.sl (some 4) 1 0 0 0)]),.arr (some 4) [] false,.box (some 4) (.pv (some 4) key.pv),.arr (some 4) [] false,.arr (some 5) [] fz,.arr (some 4) (Tm.pvs items) false]
theorem zeX{t:Tm}(h:zaU t=true):(Tm.pvs t.args)[0]? =some (zab t).pv/\(Tm.pvs t.args)[1]? =some (za0 t).pv/\za0 t∈t.args:=by
 obtain⟨a,b,e⟩:=ze2 h
 refine⟨Tm.pvs_get (by unfold zab;rw[e];rfl),Tm.pvs_get (by unfold za0;rw[e];rfl),?_⟩
 unfold za0
 rw[e]
 simp
theorem frz5(a0 a1 a2 a3:AObj)(fz:Bool)(X:Heap)(x y:PV):zal [.sl (some 5) 4 0 0 0,.pv (some 4) x,.pv (some 4) y] (a0::a1::a2::a3::.arr (some 5) [] fz::X)=some ([(none,.sl (some 5) []),(some 4,x),(some 4,y)],a0::a1::a2::a3::.arr (some 5) [] true::X):=by
 rw[zcb (show zd9 0 ((a0::a1::a2::a3::AObj.arr (some 5) [] fz::X)[4]?) from rfl)]
 rfl
theorem zuT(a0 a1 a2 a3:AObj)(fz:Bool)(X:Heap)(x:PV):zal [.sl (some 5) 4 0 0 0,.pv (some 4) x] (a0::a1::a2::a3::.arr (some 5) [] fz::X)=some ([(none,.sl (some 5) []),(some 4,x)],a0::a1::a2::a3::.arr (some 5) [] true::X):=by
 rw[zcb (show zd9 0 ((a0::a1::a2::a3::AObj.arr (some 5) [] fz::X)[4]?) from rfl)]
 rfl
theorem zeY(x:Tm)(q:AV):(AV.tuple [x.av,q]).scalar=false:=by cases x;rfl
theorem zqA(p:Tm)(r:List Tm)(V:List Int)(hV:V.length<=200000)(hps:∀q∈p::r,zaU q=true/\q.valid=true)(hVk:∀q∈p::r,InV V (zab q))(hl:r.length<100000):
  ∃v,(∀hp,S 48 [.pv none (.sl (some 4) (Tm.pvs (p::r)))] hp=some (.ret v,hp))/\GrpV (grp p r) v:=by
 obtain⟨ps,hpe⟩:∃ps,ps=p::r:=⟨_,rfl⟩
 have hp0:ps[0]? =some p:=by rw[hpe];rfl
 have hpl:ps.length=r.length+1:=by rw[hpe];rfl
 have hpn:∀j,ps[j+1]? =r[j]? :=fun j=>by rw[hpe];rfl
 rw[<-hpe] at hps hVk
 rw[<-hpe]
 refine zha _ rfl rfl rfl (fun hp=>zad [(none,.sl (some 4) (Tm.pvs ps))]) rfl ?_
 have hn4:∀(H:Heap),zbW (some 4) H=some (.sl (some 4) H.length 0 0 0,H++[.arr (some 4) [] false]):=fun H=>zdg (sh:=some 4) (by decide)
 have hn5:∀(H:Heap),zbW (some 5) H=some (.sl (some 5) H.length 0 0 0,H++[.arr (some 5) [] false]):=fun H=>zdg (sh:=some 5) (by decide)
 have hb0:za7 [(none,.pv none (.int .i64 0)),(none,.pv none (.int .i64 0)),(none,.pv none (.str [])),(none,.tsl (some 4) [])] [] []=some (.agg [(none,.pv none (.int .i64 0)),(none,.pv none (.int .i64 0)),(none,.pv none (.str [])),(none,.tsl (some 4) [])]):=rfl
 have hpp:=hps p (List.mem_of_getElem? hp0)
 obtain⟨g0,_,_⟩:=zeX hpp.1
 have hkv:(zab p).valid=true:=zaW hpp.2 (zen hpp.1)
 have hks:=valid_size hkv
 have hgn:∀s,gU (zab p) [] r=some s->grp p r=(if(rsR s (zab p)).2=0/\(∀t∈ps,(rsR s (za0 t)).2=0)/\(prT (rsR s (zab p)).1 (lst (ps.map fun t=>(rsR s (za0 t)).1))).size<=2000 then some (prT (rsR s (zab p)).1 (lst (ps.map fun t=>(rsR s (za0 t)).1))) else none):=fun s h=>by
  rw[hpe]
  unfold grp
  rw[h]
 have hgz:gU (zab p) [] r=none->grp p r=none:=fun h=>by
  unfold grp
  rw[h]
 have hVp:=hVk p (List.mem_of_getElem? hp0)
 generalize grp p r=G at hgn hgz ⊢
 obtain⟨key,hkey⟩:∃key,key=zab p:=⟨_,rfl⟩
 rw[<-hkey] at g0 hkv hks hgn hgz hVp
 simp -dsimp -implicitDefEqProofs only[go_sem,seval,↓reduceIte,hn4,hn5,Tm.pvs_len,zaM (Tm.pvs_get hp0),zag,zaM g0]
 refine zc0 (α:=List B) ps.length (fun i s=>OKB s/\InVB V s/\(i<=1->s=[])/\gU key [] r=gU key s (r.drop (i - 1))) (fun i s=>⟨[(2,.ptr 0 0),(4,.ptr 2 0),(5,s5G i s),(6,.sl (some 4) 5 i 0 i),(25,.pv none (.sl (some 4) (Tm.pvs ps))),(26,.pv none (.int .i64 ps.length)),(27,.pv none (.int .i64 i))],gH key (decide (1<i)) ((ps.take i).map za0)⟩) [] ⟨⟨okb_nil,(fun b hb=>by cases hb),fun _=>rfl,rfl⟩,rfl⟩ ?_ ?_
 ·rintro i s h ⟨hO,hVs,hs1,hgu⟩
  have hc:(i:Int)<(ps.length:Int):=by omega
  obtain⟨u,hu⟩:∃u,ps[i]? =some u:=⟨_,List.getElem?_eq_getElem h⟩
  have hum:=List.mem_of_getElem? hu
  obtain⟨hup,huv⟩:=hps u hum
  obtain⟨u0,u1,u2⟩:=zeX hup
  have hVu:=hVk u hum
  have hk2:(zab u).valid=true:=zaW huv (zen hup)
  have hk2s:=valid_size hk2
  have q1:=zac (sh:=some 4) (s:=none) (s':=none) (k:=.i64) u1
  have q0:=zac (sh:=some 4) (s:=none) (s':=none) (k:=.i64) u0
  simp only[show((1:Nat):Int)=1 from rfl,show((0:Nat):Int)=0 from rfl] at q1 q0
  have hll:(Tm.pvs ((ps.take i).map za0)).length=i:=by rw[Tm.pvs_len,List.length_map,List.length_take];omega
  have hlim:i+1<=lim:=by unfold lim;omega
  have hap:Tm.pvs ((ps.take i).map za0)++[(za0 u).pv]=Tm.pvs ((ps.take (i+1)).map za0):=by rw[List.take_add_one,hu];simp[Tm.zvO];rfl
  have w2:IntKind.i64.wrap ((i:Int)+1)=((i+1:Nat):Int):=by rw[zao (by omega) (by omega)];omega
  cases i with
  |zero=>
   have z:((0:Nat):Int)=0:=rfl
   rw[z] at hc w2
   simp only[List.take_zero,List.map_nil,Nat.zero_add] at hap hll
   simp -dsimp -implicitDefEqProofs only[go_sem,seval,↓reduceIte,List.map_nil,gH,s5G,z,hn4,hn5,hc,zaM (Tm.pvs_get hu),zag,q0,q1,hll,hlim,hap,w2]
   rw[hs1 (by omega)] at hgu
   exact⟨[],⟨okb_nil,(fun b hb=>by cases hb),fun _=>rfl,hgu⟩,rfl⟩
  |succ i=>
   have hi0:¬((i+1:Nat):Int)=0:=by omega
   have hur:r[i]? =some u:=by rw[<-hpn];exact hu
   have hdr:r.drop i=u::r.drop (i+1):=by
    obtain⟨q1,e1⟩:=List.getElem?_eq_some_iff.1 hur
    rw[List.drop_eq_getElem_cons q1,e1]
   have hgu:gU key [] r=gU key s (u::r.drop (i+1)):=by rw[hgu,Nat.add_sub_cancel,hdr]
   rw[gU] at hgu
   have hO2:=zqv s (zab u) key
   have hV2:=zvE hVs hVu hVp
   have hun:=zqQ V s (zab u) key (by omega) hVs hVu hVp (by have:=InVB.len hO.good hVs;omega) (fun b hb=>(hO.good.2 b hb).2) (by omega) (by omega)
   have hfin:∀{e:Int},e≠0->(unR s (zab u) key).2=e->GrpV G (.tuple [zt.av,.pv none (.int .i64 e)]):=fun{e} he h=>by
    rw[if_neg (by rw[h];exact he)] at hgu
    rw[hgz hgu]
    exact zeW he
   have hgu2:(unR s (zab u) key).2=0->gU key [] r=gU key (unR s (zab u) key).1 (r.drop (i+1)):=fun h=>by rw[hgu,if_pos h]
   clear hgu
   generalize unR s (zab u) key=R at*
   obtain⟨s2,e⟩:=R
   dsimp only at hO2 hV2 hun hfin hgu2
   cases i with
   |zero=>
    have hs0:=hs1 (by omega)
    subst hs0
    have hq:=zac (sh:=some 4) (s:=none) (s':=none) (k:=.i64) (Tm.pvs_get hu)
    simp only[Nat.zero_add,show((1:Nat):Int)=1 from rfl] at hc hll hlim hap w2 hq
    have hcall:=fun(a0 a1 a2 a3:AObj) (X:Heap)=>zcC rfl rfl rfl (frz5 a0 a1 a2 a3 false X (zab u).pv key.pv) (hun [])
    by_cases he:e=0
    ·have he':=eq_true he
     simp -dsimp -implicitDefEqProofs only[go_sem,seval,↓reduceIte,gH,s5G,hn4,hn5,hc,hi0,hq,zag,q0,q1,hll,hlim,hap,w2,hcall,he']
     exact⟨s2,⟨hO2,hV2,fun h=>by revert h;simp,hgu2 he⟩,rfl⟩
    ·simp -dsimp -implicitDefEqProofs only[go_sem,seval,↓reduceIte,gH,s5G,hn4,hn5,hb0,hc,hi0,hq,zag,q0,q1,hll,hlim,hap,w2,hcall,he,zaj (Nat.zero_le _)]
     exact⟨_,zbO _ _ _ rfl,hfin he rfl⟩
   |succ i=>
    simp only[Tm.av] at hun
    by_cases he:e=0
    ·have he':=eq_true he
     simp -dsimp -implicitDefEqProofs only[go_sem,seval,↓reduceIte,gH,s5G,hn4,hn5,hc,hi0,zac (Tm.pvs_get hu),zag,q0,q1,hll,hlim,hap,w2,hun,he']
     exact⟨s2,⟨hO2,hV2,fun h=>by revert h;simp,hgu2 he⟩,rfl⟩
    ·simp -dsimp -implicitDefEqProofs only[go_sem,seval,↓reduceIte,gH,s5G,hn4,hn5,hb0,hc,hi0,zac (Tm.pvs_get hu),zag,q0,q1,hll,hlim,hap,w2,hun,he,zaj (Nat.zero_le _)]
     exact⟨_,zbO _ _ _ rfl,hfin he rfl⟩
 ·rintro s ⟨hO,hVs,hs1,hgu⟩
  have hc:¬(ps.length:Int)<(ps.length:Int):=by omega
  have hgS:gU key [] r=some s:=by
   rw[hgu,hpl,Nat.add_sub_cancel,List.drop_length]
   rfl
  have hG:=hgn s hgS
  clear hgn hgz hgu hgS
  have hsl:=InVB.len hO.good hVs
  have hpr:=fun t (ht:t.size<1000000000)=>zlH s t (by omega) (fun b hb=>(hO.good.2 b hb).2) ht
  obtain⟨s5,o4,e1,e2,hr1,hr2,hlow⟩:∃(s5:AV) (o4:AObj),s5G ps.length s=s5/\AObj.arr (some 5) [] (decide (1<ps.length))=o4/\
    (∀t:Tm,t.size<1000000000->∀(a0 a1 a2 a3:AObj) (X:Heap),S 70 [s5,t.av] (a0::a1::a2::a3::o4::X)=some (.ret (.tuple [(rsR s t).1.av,.pv none (.int .i64 (rsR s t).2)]),a0::a1::a2::a3::.arr (some 5) [] true::X))/\
    (∀t:Tm,t.size<1000000000->∀(a0 a1 a2 a3:AObj) (X:Heap),S 70 [s5,t.av] (a0::a1::a2::a3::.arr (some 5) [] true::X)=some (.ret (.tuple [(rsR s t).1.av,.pv none (.int .i64 (rsR s t).2)]),a0::a1::a2::a3::.arr (some 5) [] true::X))/\
    s5.refsIn.all (fun q=>decide (q<9))=true:=by
   by_cases h1:ps.length<=1
   ·have hs0:=hs1 h1
    subst hs0
    refine⟨.sl (some 5) 4 0 0 0,.arr (some 5) [] false,by unfold s5G;rw[if_pos h1],by rw[decide_eq_false (by omega)],fun t ht a0 a1 a2 a3 X=> ?_,fun t ht a0 a1 a2 a3 X=> ?_,rfl⟩
    ·exact(zcC rfl rfl rfl (zuT a0 a1 a2 a3 false X t.pv) (hpr t ht [])).trans (by rw[zeY];rfl)
    ·exact(zcC rfl rfl rfl (zuT a0 a1 a2 a3 true X t.pv) (hpr t ht [])).trans (by rw[zeY];rfl)
   ·refine⟨.pv none (.sl (some 5) (bds s)),.arr (some 5) [] true,by unfold s5G;rw[if_neg h1],by rw[decide_eq_true (by omega)],fun t ht a0 a1 a2 a3 X=>hpr t ht _,fun t ht a0 a1 a2 a3 X=>hpr t ht _,rfl⟩
  simp only[gH,e1,e2]
  clear e1 e2 hs1 hpr
  have hk1:=hr1 key (by omega)
  simp only[Tm.av] at hk1
  have hrv:=fun t=>zgZ (s:=s) (t:=t)
  by_cases he:(rsR s key).2=0
  rotate_left
  ·rw[if_neg (fun h=>he h.1)] at hG
   generalize rsR s key=R at*
   obtain⟨k,e⟩:=R
   dsimp only at he hk1
   simp -dsimp -implicitDefEqProofs only[go_sem,seval,↓reduceIte,hn4,hn5,hb0,hc,List.take_length,hk1,he,zaj (Nat.zero_le _)]
   rw[hG]
   exact⟨_,zbO _ _ _ rfl,zeW he⟩
  ·have hkv2:=hrv key he
   obtain⟨k,hk⟩:∃k,k=(rsR s key).1:=⟨_,rfl⟩
   have he':=eq_true he
   rw[<-hk] at hk1 hG hkv2
   simp -dsimp -implicitDefEqProofs only[go_sem,seval,↓reduceIte,hn4,hn5,hc,List.take_length,hk1,he']
   refine zc0 (α:=Unit) ps.length (fun i _=>∀t∈ps.take i,(rsR s (za0 t)).2=0) (fun i _=>⟨[(2,.ptr 0 0),(5,s5),(11,.ptr 6 0),(13,.sl (some 4) 8 i 0 i),(67,.sl (some 4) 5 ps.length 0 ps.length),(68,.pv none (.int .i64 ps.length)),(69,.pv none (.int .i64 i))],
    [.box (some 4) (.agg [(none,.pv none (.int .i64 0)),(none,.pv none (.int .i64 0)),(none,.pv none (.str [])),(none,.sl (some 4) 1 0 0 0)]),.arr (some 4) [] false,.box (some 4) (.pv (some 4) key.pv),.arr (some 4) [] false,.arr (some 5) [] true,.arr (some 4) (Tm.pvs (ps.map za0)) false,.box (some 4) (.pv (some 4) k.pv),.arr (some 4) [] false,.arr (some 4) (Tm.pvs ((ps.take i).map fun t=>(rsR s (za0 t)).1)) false]⟩) () ⟨(fun t ht=>by cases ht),rfl⟩ ?_ ?_
   ·rintro i - h hall
    have hc:(i:Int)<(ps.length:Int):=by omega
    obtain⟨u,hu⟩:∃u,ps[i]? =some u:=⟨_,List.getElem?_eq_getElem h⟩
    have hum:=List.mem_of_getElem? hu
    obtain⟨hup,huv⟩:=hps u hum
    obtain⟨u0,u1,u2⟩:=zeX hup
    have hk2:(za0 u).valid=true:=zaW huv u2
    have hk2s:=valid_size hk2
    have hcall:=hr2 (za0 u) (by omega)
    have hug:(Tm.pvs (ps.map za0))[i]? =some (za0 u).pv:=Tm.pvs_get (by rw[List.getElem?_map,hu];rfl)
    have hll:(Tm.pvs ((ps.take i).map fun t=>(rsR s (za0 t)).1)).length=i:=by rw[Tm.pvs_len,List.length_map,List.length_take];omega
    have hlm:(Tm.pvs (ps.map za0)).length=ps.length:=by rw[Tm.pvs_len,List.length_map]
    have hlim:i+1<=lim:=by unfold lim;omega
    have hap:Tm.pvs ((ps.take i).map fun t=>(rsR s (za0 t)).1)++[(rsR s (za0 u)).1.pv]=Tm.pvs ((ps.take (i+1)).map fun t=>(rsR s (za0 t)).1):=by rw[List.take_add_one,hu];simp[Tm.zvO];rfl
    have w2:IntKind.i64.wrap ((i:Int)+1)=((i+1:Nat):Int):=by rw[zao (by omega) (by omega)];omega
    simp only[Tm.av] at hcall
    by_cases hue:(rsR s (za0 u)).2=0
    ·have hue':=eq_true hue
     have hall2:∀t∈ps.take (i+1),(rsR s (za0 t)).2=0:=fun t ht=>by
      rw[List.take_add_one,hu] at ht
      rcases List.mem_append.1 ht with ht|ht
      ·exact hall t ht
      ·have:t=u:=by simpa using ht
       rw[this];exact hue
     simp -dsimp -implicitDefEqProofs only[go_sem,seval,↓reduceIte,hn4,hn5,hc,zaq h,zaO,hug,hcall,hue',hll,hlm,hlim,hap,w2]
     refine⟨(),hall2,?_⟩
     rw[zb5 (by simp[AObj.refs,AV.refsIn,AV.refsIn.go]) (by simp[AV.refsIn];simpa using hlow)]
     rfl
    ·have hGn:G=none:=by rw[hG,if_neg (fun h=>hue (h.2.1 u hum))]
     generalize rsR s (za0 u)=R at*
     obtain⟨x,e⟩:=R
     dsimp only at hcall hue
     simp -dsimp -implicitDefEqProofs only[go_sem,seval,↓reduceIte,hn4,hn5,hb0,hc,zaq h,zaO,hug,hcall,hue,hll,hlm,hlim,w2,zaj (Nat.zero_le _)]
     rw[hGn]
     exact⟨_,zbO _ _ _ rfl,zeW hue⟩
   ·rintro - hall
    rw[List.take_length] at hall
    obtain⟨L,hL⟩:∃L,L=ps.map fun t=>(rsR s (za0 t)).1:=⟨_,rfl⟩
    have hLl:L.length=ps.length:=by rw[hL,List.length_map]
    have hLp:(Tm.pvs L).length=ps.length:=by rw[Tm.pvs_len,hLl]
    have hLs:∀t∈L,t.size<=2000:=fun t ht=>by
     rw[hL] at ht
     obtain⟨q,hq,rfl⟩:=List.mem_map.1 ht
     exact(hrv _ (hall q hq)).2
    have hls:=zg1 L 2000 hLs
    rw[List.take_length,<-hL]
    rw[<-hL] at hG
    have hset:=fun(st:List Nat) (fr:Fr) (a0 a1 a2 a3 a4 a5 a6 a7:AObj) (X:Heap)=>znU (s:=13) (r:=st) (fr:=fr) (a0:=a0) (a1:=a1) (a2:=a2) (a3:=a3) (a4:=a4) (a5:=a5) (a6:=a6) (a7:=a7) (es:=Tm.pvs L) (X:=X)
    rw[hLp] at hset
    have h1:=fun hp=>zsy L (by omega) hp
    have h2:∀hp,S 27 [.pv none (.str [45]),.pv none (.sl (some 4) [k.pv,(lst L).pv])] hp=some (.ret (prT k (lst L)).av,hp):=fun hp=>zss [45] k (lst L) hp
    have hsz:(prT k (lst L)).size=1+(k.size+(lst L).size):=by
     show 1+(k.size+((lst L).size+0))=_
     omega
    have h3:=fun hp=>zi0 (prT k (lst L)) hp (by omega)
    simp only[Tm.av] at h1 h2 h3
    by_cases hz:(prT k (lst L)).size<=2000
    ·rw[if_pos ⟨he,hall,hz⟩] at hG
     have hz':¬(2000:Int)<((min (prT k (lst L)).size 2001:Nat):Int):=by omega
     simp -dsimp -implicitDefEqProofs only[go_sem,seval,↓reduceIte,hn4,hn5,hc,hset,h1,h2,h3,hz',zaj (Nat.zero_le _)]
     rw[hG]
     exact⟨_,zh3 _ _ _ _ _,rfl⟩
    ·rw[if_neg (fun h=>hz h.2.2)] at hG
     have hz':(2000:Int)<((min (prT k (lst L)).size 2001:Nat):Int):=by omega
     simp -dsimp -implicitDefEqProofs only[go_sem,seval,↓reduceIte,hn4,hn5,hb0,hc,hset,h1,h2,h3,hz',zaj (Nat.zero_le _)]
     rw[hG]
     exact⟨_,zbO _ _ _ rfl,zeW (by decide)⟩
theorem znV{n b:Nat}{fr:Fr}{hp:Heap}(h:fr.all (fun x=>x.2.refsIn.all (fun q=>decide (q<n)))=false):collect n b fr hp=hp:=by
 unfold collect
 rw[h]
 rfl
theorem znW{n b:Nat}{fr:Fr}{H A X:Heap}(h:H.length+A.length=n):∃X',collect n b fr (H++(A++X))=H++(A++X'):=by
 unfold collect
 split
 ·refine⟨[],?_⟩
  rw[List.append_nil,<-List.append_assoc]
  exact List.take_left' (by rw[List.length_append,h])
 ·exact⟨X,rfl⟩
theorem zg4{n k:Nat}{fr:Fr}{H X:Heap}{a b c d c' d':AObj}(h:H.length+4=n)(hc:c=c')(hd:d=d'):∃X',(⟨fr,collect n k fr (H++(a::b::c::d::X))⟩:St)=⟨fr,H++(a::b::c'::d'::X')⟩:=by
 subst hc hd
 obtain⟨X',e⟩:=znW (n:=n) (b:=k) (fr:=fr) (H:=H) (A:=[a,b,c,d]) (X:=X) h
 exact⟨X',congrArg _ e⟩
theorem zkk{k:Tm}(h:k.valid=true):vari k k=true:=by
 unfold vari
 rw[h,Tm.cmp_zero.2 rfl]
 rfl
theorem zel{f:Tm->Bool}{L:List Tm}{i:Nat}{u:Tm}(h:L[i]? =some u):(L.take (i+1)).filter f=(L.take i).filter f++(if f u=true then[u] else[]):=by
 rw[List.take_add_one,h,List.filter_append]
 congr 1
 cases e:f u <;> simp[e]
theorem frzG{H:Heap}{h:Nat}(hh:H.length=h)(x0 x1 x3:AObj)(X:Heap)(es:List PV)(n:Nat)(hn:es.length=n):zal [.sl (some 4) (h+2) n 0 n] (H++(x0::x1::.arr (some 4) es false::x3::X))=some ([(none,.sl (some 4) es)],H++(x0::x1::.arr (some 4) es true::x3::X)):=by
 have hg:(H++(x0::x1::.arr (some 4) es false::x3::X))[h+2]? =some (.arr (some 4) es false):=by rw[getN hh];rfl
 rw[zcb (show zd9 n ((H++(x0::x1::.arr (some 4) es false::x3::X))[h+2]?) from by rw[hg];exact hn),hg,setN hh]
 rfl
theorem zqB{H:Heap}{q n:Nat}{es:List PV}{fz:Bool}{x:Int}(h:H[q]? =some (.arr (some 4) es fz))(hn:es.length=n):Am.frozen (.tuple [.pv none (.sl (some 4) es),.pv none (.int .i64 x)]) (.tuple [.sl (some 4) q n 0 n,.pv none (.int .i64 x)]) H:=by
 subst hn
 exact⟨H.set q (.arr (some 4) es true),by simp[AV.freezeRes,zal,AV.freeze,deep,h,pvs,AV.shp]⟩
theorem zlC{sh s':Sh}{k:IntKind}{r v n:Nat}(h:0<n):zbJ sh [.sl sh r v 0 n,.pv s' (.int k 0)]=some (.eptr sh r v 0 0):=zaq (i:=0) h
theorem zqC{H:Heap}{q n:Nat}{es:List PV}{fz:Bool}{t:Tm}(h:H[q]? =some (.arr (some 4) es fz))(hn:es.length=n)(h0:es[0]? =some t.pv):aload none H (.eptr (some 4) q n 0 3)=some (.pv none (.sl (some 4) (Tm.pvs t.args))):=by
 simp[aload,h,hn,h0,toAV,zag]
theorem znX(ts:List Tm)(hl:Tm.sizes ts<100000000)(hn:ts.length<100000)(hz:zbf ts=true->Tm.sizes ts<=200000)(hp:Heap):
  S 19 [.pv none (.sl (some 4) (Tm.pvs ts))] hp=some (.ret (.tuple [.pv none (.sl (some 4) (Tm.pvs (zci ts).1)),.pv none (.int .i64 (zci ts).2)]),hp):=by
 refine zar rfl rfl rfl (zad [(none,.sl (some 4) (Tm.pvs ts))]) rfl ?_
 have hn4:∀(H:Heap),zbW (some 4) H=some (.sl (some 4) H.length 0 0 0,H++[.arr (some 4) [] false]):=fun H=>zdg (sh:=some 4) (by decide)
 obtain⟨v,H0,hcall,q0,E,hE,hq0,hq1,rfl⟩:=zuU ts hl [.arr (some 4) [] false]
 have hH0:H0[0]? =some (.arr (some 4) [] false):=by rw[hE];rfl
 by_cases he:zdJ ts=0
 rotate_left
 ·have e:zci ts=([],zdJ ts):=by unfold zci;rw[if_neg he]
  rw[e]
  dsimp only
  generalize zdJ ts=k at*
  simp -dsimp -implicitDefEqProofs only[go_sem,seval,↓reduceIte,hn4,hcall,he]
  rw[<-zdB]
  exact zqB (es:=[]) (fz:=false) (List.getElem?_concat_length) rfl
 ·have he':=eq_true he
  have e:zci ts=ofG (grps (zbC ts).length (zbC ts)):=by unfold zci;rw[if_pos he]
  rw[e]
  have hval:zbf ts=true:=by
   unfold zdJ at he
   split at he
   ·assumption
   ·cases he
  have hall:ts.all zaU=true:=by
   unfold zdJ at he
   rw[if_pos hval] at he
   split at he
   ·assumption
   ·cases he
  have hm:∀x∈zbC ts,x∈ts:=fun x hx=>by
   unfold zbC at hx
   rw[if_pos ⟨hval,hall⟩] at hx
   exact(zbN ts).mem_iff.1 hx
  have hkl:(zbC ts).length=ts.length:=by
   unfold zbC
   rw[if_pos ⟨hval,hall⟩,zaw]
  have hV:(Tm.occs ts).length<=200000:=Nat.le_trans (Tm.zv8 ts) (hz hval)
  have hprop:∀x∈zbC ts,zaU x=true/\x.valid=true/\InV (Tm.occs ts) (zab x):=fun x hx=>by
   have h1:=List.all_eq_true.1 hall x (hm x hx)
   refine⟨h1,zcU hval (hm x hx),fun w hw=>Tm.zv9 (hm x hx) ?_⟩
   refine Tm.zv2 (fun hk=> ?_) (zen h1) hw
   simp[zaU,hk] at h1
  generalize Tm.occs ts=V at hV hprop
  obtain⟨n0,hn0⟩:∃n0,n0=(zbC ts).length:=⟨_,rfl⟩
  obtain⟨G,hG⟩:∃G,G=grps n0 (zbC ts):=⟨_,rfl⟩
  rw[<-hn0,<-hG]
  simp -dsimp -implicitDefEqProofs only[go_sem,seval,↓reduceIte,hn4,hcall,he']
  refine zbk (fun n st=>∃(D L:List Tm) (q:Nat) (H:Heap) (m:Nat),n=L.length/\L.length<=m/\D.length+L.length<=100000/\G=(grps m L).map (D++·)/\(∀x∈L,zaU x=true/\x.valid=true/\InV V (zab x))/\H0.length<=H.length/\H[0]? =some (.arr (some 4) (Tm.pvs D) false)/\H[q]? =some (.arr (some 4) (Tm.pvs L) false)/\0<q/\st=⟨[(2,.sl (some 4) 0 D.length 0 D.length),(4,.sl (some 4) q L.length 0 L.length)],H⟩) (n:=n0) ⟨[],zbC ts,q0,H0,n0,hn0,by omega,by simp;omega,by rw[hG];cases grps n0 (zbC ts) <;> rfl,hprop,Nat.le_refl _,hH0,hq1,hq0,?_⟩ ?_
  ·rfl
  ·rintro n st ⟨D,L,q,H,m,hnL,hm1,hDL,hGD,hP,hHl,hh0,hhq,hqp,rfl⟩
   cases L with
   |nil=>
    have hg:G=some D:=by
     rw[hGD]
     cases m <;> simp[grps]
    rw[hg]
    have hc:¬(0:Int)<((0:Nat):Int):=by omega
    simp -dsimp -implicitDefEqProofs only[go_sem,seval,↓reduceIte,hn4,hc]
    rw[<-zdB]
    exact zqB hh0 (Tm.pvs_len D)
   |cons p r=>
    obtain⟨h,hh⟩:∃h,H.length=h:=⟨_,rfl⟩
    have hpp:=hP p List.mem_cons_self
    obtain⟨g0,_,_⟩:=zeX hpp.1
    have hkv:(zab p).valid=true:=zaW hpp.2.1 (zen hpp.1)
    have hks:=valid_size hkv
    obtain⟨key,hkey⟩:∃key,key=zab p:=⟨_,rfl⟩
    rw[<-hkey] at g0 hkv hks
    obtain⟨L,hL⟩:∃L,L=p::r:=⟨_,rfl⟩
    obtain⟨N,hN⟩:∃N,N=L.length:=⟨_,rfl⟩
    have hNp:0<N:=by rw[hN,hL];simp
    have hL0:(Tm.pvs L)[0]? =some p.pv:=by rw[hL];rfl
    rw[<-hL] at hnL hm1 hDL hP hhq ⊢
    rw[<-hN] at hnL hm1 hDL ⊢
    have hLl:(Tm.pvs L).length=N:=by rw[Tm.pvs_len,hN]
    have hql:=zbT hhq
    have h0l:=zbT hh0
    have hq:∀X,(H++X)[q]? =some (.arr (some 4) (Tm.pvs L) false):=fun X=>by rw[List.getElem?_append_left hql];exact hhq
    have hx0:∀X,(H++X)[0]? =some (.arr (some 4) (Tm.pvs D) false):=fun X=>by rw[List.getElem?_append_left h0l];exact hh0
    have hx0s:∀X Y,(H++X).set 0 Y=H.set 0 Y++X:=fun X Y=>List.set_append_left _ _ h0l
    have hfl:=zqC hhq hLl hL0
    have hc:(0:Int)<(N:Int):=by omega
    simp -dsimp -implicitDefEqProofs only[go_sem,seval,↓reduceIte,hn4,hc,zlC hNp,hfl,zaM g0,hh,getN hh,zcD hh,setN hh,zd4 hh,List.append_assoc,zai,zae,zak,zaf,Nat.add_assoc,List.length_append]
    refine zc0 (α:=Heap) N (fun _ _=>True) (fun i X=>⟨[(2,.sl (some 4) 0 D.length 0 D.length),(6,.func (.func 46) [] [.ptr h 0]),(7,.sl (some 4) (h+2) ((L.take i).filter fun q=>vari (zab q) key).length 0 ((L.take i).filter fun q=>vari (zab q) key).length),(8,.sl (some 4) (h+3) ((L.take i).filter fun q=> !vari (zab q) key).length 0 ((L.take i).filter fun q=> !vari (zab q) key).length),(31,.sl (some 4) q N 0 N),(32,.pv none (.int .i64 N)),(33,.pv none (.int .i64 i))],
     H++([.box (some 4) (.pv (some 4) key.pv),.arr (some 4) [] false,.arr (some 4) (Tm.pvs ((L.take i).filter fun q=>vari (zab q) key)) false,.arr (some 4) (Tm.pvs ((L.take i).filter fun q=> !vari (zab q) key)) false]++X)⟩) [] ⟨trivial,?_⟩ ?_ ?_
    ·rfl
    ·rintro i X hi -
     have hc:(i:Int)<(N:Int):=by omega
     obtain⟨u,hu⟩:∃u,L[i]? =some u:=⟨_,List.getElem?_eq_getElem (by omega)⟩
     have hum:=List.mem_of_getElem? hu
     obtain⟨up,uv,_⟩:=hP u hum
     have hus:=valid_size uv
     have hug:=Tm.pvs_get hu
     have hcl:∀X:Heap,S 46 [u.av,.ptr h 0] (H++(.box (some 4) (.pv (some 4) key.pv)::X))=some (.ret (.pv none (.bool (vari (zab u) key))),H++(.box (some 4) (.pv (some 4) key.pv)::X)):=fun X=>
      zsM u key up _ h (by rw[zcD hh];rfl) (by omega) (by omega)
     have hf1:=zel (f:=fun q=>vari (zab q) key) hu
     have hf2:=zel (f:=fun q=> !vari (zab q) key) hu
     have hlen1:((L.take i).filter fun q=>vari (zab q) key).length<=i:=Nat.le_trans (List.length_filter_le _ _) (by rw[List.length_take];omega)
     have hlen2:((L.take i).filter fun q=> !vari (zab q) key).length<=i:=Nat.le_trans (List.length_filter_le _ _) (by rw[List.length_take];omega)
     rw[hf1,hf2]
     generalize ((L.take i).filter fun q=>vari (zab q) key)=A at*
     generalize ((L.take i).filter fun q=> !vari (zab q) key)=B at*
     have hA:(Tm.pvs A).length=A.length:=Tm.pvs_len A
     have hB:(Tm.pvs B).length=B.length:=Tm.pvs_len B
     have hlA:A.length+1<=lim:=by unfold lim;omega
     have hlB:B.length+1<=lim:=by unfold lim;omega
     have hA1:Tm.pvs A++[u.pv]=Tm.pvs (A++[u]):=by rw[Tm.zvO];rfl
     have hB1:Tm.pvs B++[u.pv]=Tm.pvs (B++[u]):=by rw[Tm.zvO];rfl
     have w2:IntKind.i64.wrap ((i:Int)+1)=((i+1:Nat):Int):=by rw[zao (by omega) (by omega)];omega
     simp only[Tm.av] at hcl
     cases hv:vari (zab u) key with
     |true=>
      rw[hv] at hcl
      simp -dsimp -implicitDefEqProofs only[go_sem,seval,↓reduceIte,hn4,hc,zaq hi,zaO,hq,hLl,hug,hcl,hA,hlA,hA1,w2,hh,getN hh,zcD hh,setN hh,zd4 hh,List.append_assoc,zai,zae,zak,zaf,Nat.add_assoc,List.length_append]
      exact zg4 (by omega) rfl (by rw[List.append_nil])
     |false=>
      rw[hv] at hcl
      simp -dsimp -implicitDefEqProofs only[go_sem,seval,↓reduceIte,hn4,hc,zaq hi,zaO,hq,hLl,hug,hcl,hB,hlB,hB1,w2,hh,getN hh,zcD hh,setN hh,zd4 hh,List.append_assoc,zai,zae,zak,zaf,Nat.add_assoc,List.length_append]
      exact zg4 (by omega) (by rw[List.append_nil]) rfl
    ·rintro X -
     have hc:¬(N:Int)<(N:Int):=by omega
     have htk:L.take N=L:=List.take_of_length_le (by omega)
     have hvs:vari (zab p) key=true:=by rw[<-hkey];exact zkk hkv
     have hf1:(L.filter fun q=>vari (zab q) key)=p::r.filter fun q=>vari (zab q) key:=by rw[hL,List.filter_cons,if_pos hvs]
     have hf2:(L.filter fun q=> !vari (zab q) key)=r.filter fun q=> !vari (zab q) key:=by rw[hL,List.filter_cons,if_neg (by rw[hvs];simp)]
     rw[htk,hf1,hf2]
     have hrl:r.length+1=N:=by rw[hN,hL];rfl
     have hl1:(r.filter fun q=>vari (zab q) key).length<=r.length:=List.length_filter_le _ _
     have hl2:(r.filter fun q=> !vari (zab q) key).length<=r.length:=List.length_filter_le _ _
     have hP2:∀x∈r.filter (fun q=> !vari (zab q) key),zaU x=true/\x.valid=true/\InV V (zab x):=fun x hx=>hP x (by rw[hL];exact List.mem_cons_of_mem _ (List.mem_filter.1 hx).1)
     have hP1:∀x∈p::r.filter (fun q=>vari (zab q) key),zaU x=true/\x.valid=true/\InV V (zab x):=fun x hx=>hP x (by
      rw[hL]
      rcases List.mem_cons.1 hx with rfl|hx
      ·exact List.mem_cons_self
      ·exact List.mem_cons_of_mem _ (List.mem_filter.1 hx).1)
     obtain⟨m',rfl⟩:∃m',m=m'+1:=⟨m - 1,by omega⟩
     have hgd:G=(ztV (grp p (r.filter fun q=>vari (zab q) key)) (grps m' (r.filter fun q=> !vari (zab q) key))).map (D++·):=by
      rw[hGD,grps,<-hkey]
     clear hGD
     generalize (r.filter fun q=> !vari (zab q) key)=R2 at*
     generalize (r.filter fun q=>vari (zab q) key)=R1 at*
     obtain⟨v,hv,hV2⟩:=zqA p R1 V (by omega) (fun q hq=>⟨(hP1 q hq).1,(hP1 q hq).2.1⟩) (fun q hq=>(hP1 q hq).2.2) (by omega)
     have hfz:=fun(x0 x1 x3:AObj) (X:Heap)=>frzG hh x0 x1 x3 X (Tm.pvs (p::R1)) (R1.length+1) (by rw[Tm.pvs_len];rfl)
     have hcall:=fun(x0 x1 x3:AObj) (X:Heap)=>zcC rfl rfl rfl (hfz x0 x1 x3 X) (hv [])
     have hDl:(Tm.pvs D).length=D.length:=Tm.pvs_len D
     have hlD:D.length+1<=lim:=by unfold lim;omega
     cases hgr:grp p R1 with
     |none=>
      rw[hgr] at hV2 hgd
      obtain⟨e,he0,rfl⟩:=hV2
      have hGn:G=none:=hgd
      rw[hGn]
      simp only[zeY,cond_false] at hcall
      simp only[Tm.av] at hcall
      generalize zt.pv=zp at hcall
      simp -dsimp -implicitDefEqProofs only[go_sem,seval,↓reduceIte,hn4,hc,hcall,he0,hh,getN hh,zcD hh,setN hh,zd4 hh,List.append_assoc,zai,zae,zak,zaf,Nat.add_assoc,List.length_append]
      rfl
     |some t=>
      rw[hgr] at hV2 hgd
      have htv:=zkj hgr
      have hts:=valid_size htv
      have hV3:v=.tuple [t.av,.pv none (.int .i64 0)]:=hV2
      subst hV3
      have hclone:=fun hp=>zcT t hp htv (by omega)
      have hD1:Tm.pvs D++[t.pv]=Tm.pvs (D++[t]):=by rw[Tm.zvO];rfl
      simp only[zeY,cond_false] at hcall
      simp only[Tm.av] at hcall hclone
      simp -dsimp -implicitDefEqProofs only[go_sem,seval,↓reduceIte,hn4,hc,hcall,hclone,hx0,hx0s,hDl,hlD,hD1,hh,getN hh,zcD hh,setN hh,zd4 hh,List.append_assoc,zai,zae,zak,zaf,Nat.add_assoc,List.length_append]
      rw[znV (by simp[AV.refsIn];omega)]
      refine⟨R2.length,by omega,D++[t],R2,h+3,H.set 0 (.arr (some 4) (Tm.pvs (D++[t])) false)++(.box (some 4) (.pv (some 4) key.pv)::.arr (some 4) [] false::.arr (some 4) (Tm.pvs (p::R1)) true::.arr (some 4) (Tm.pvs R2) false::(X++[.box (some 4) (.pv (some 4) t.pv),.arr (some 4) [] false])),m',rfl,by omega,by simp;omega,?_,hP2,?_,?_,?_,by omega,?_⟩
      ·rw[hgd]
       cases grps m' R2 <;> simp[ztV]
      ·rw[List.length_append,List.length_set]
       omega
      ·rw[List.getElem?_append_left (by rw[List.length_set];exact h0l),List.getElem?_set_self h0l]
      ·rw[getN (by rw[List.length_set];exact hh)]
       rfl
      ·rw[List.length_append]
       rfl
theorem zki(l:List Tm)(hv:∀t∈l,t.valid=true)(hl:l.length<1000000000):S 14 [.pv none (.sl (some 4) (Tm.pvs l)),.pv none (.sl (some 4) (Tm.pvs l))] []=some (.ret (.pv none (.bool true)),[]):=by
 refine zar rfl rfl rfl (zad [(none,.sl (some 4) (Tm.pvs l)),(none,.sl (some 4) (Tm.pvs l))]) rfl ?_
 simp -dsimp -implicitDefEqProofs only[go_sem,seval,↓reduceIte]
 refine zc0 (α:=Unit) l.length (fun _ _=>True) (fun i _=>⟨[(0,.pv none (.sl (some 4) (Tm.pvs l))),(1,.pv none (.sl (some 4) (Tm.pvs l))),(5,.pv none (.int .i64 i))],[]⟩) () ⟨trivial,rfl⟩ ?_ ?_
 ·rintro i - h -
  have hc:(i:Int)<(l.length:Int):=by omega
  obtain⟨u,hu⟩:∃u,l[i]? =some u:=⟨_,List.getElem?_eq_getElem h⟩
  have hum:=List.mem_of_getElem? hu
  have hus:=valid_size (hv u hum)
  have hcall:=fun hp=>zsE u u hp (by omega) (by omega)
  rw[zqW (hv u hum)] at hcall
  simp only[Tm.av] at hcall
  have w2:IntKind.i64.wrap ((i:Int)+1)=((i+1:Nat):Int):=by rw[zao (by omega) (by omega)];omega
  simp -dsimp -implicitDefEqProofs only[go_sem,seval,↓reduceIte,Tm.pvs_len,hc,zac (Tm.pvs_get hu),hcall,w2]
  exact⟨(),trivial⟩
 ·rintro - -
  have hc:¬(l.length:Int)<(l.length:Int):=by omega
  simp -dsimp -implicitDefEqProofs only[go_sem,seval,↓reduceIte,Tm.pvs_len,hc]
theorem zgY:∀l:List Tm,zbf l=true->Tm.sizes l<=2000*l.length
 |[],_=>Nat.zero_le _
 |x::r,h=>by
  have hx:=valid_size (zcU h List.mem_cons_self)
  have ih:=zgY r (by
   unfold zbf at h ⊢
   simp only[List.all_cons,Bool.and_eq_true] at h
   exact h.2)
  show x.size+Tm.sizes r<=2000*(r.length+1)
  omega
theorem zlA{l r:List Tm}(h:l.Perm r):Tm.sizes l=Tm.sizes r:=by
 induction h with
 |nil=>rfl
 |cons x _ ih=>simp only[Tm.sizes,ih]
 |swap x y l=>simp only[Tm.sizes];omega
 |trans _ _ h1 h2=>rw[h1,h2]
theorem zsq(ts:List Tm):(zbC ts).length<=ts.length/\Tm.sizes (zbC ts)<=Tm.sizes ts:=by
 unfold zbC
 split
 ·exact⟨by rw[zaw];exact Nat.le_refl _,by rw[zlA (zbN ts)];exact Nat.le_refl _⟩
 ·exact⟨Nat.zero_le _,Nat.zero_le _⟩
theorem zmt:∀(n:Nat) (l g:List Tm),grps n l=some g->g.length<=l.length
 |_,[],g,h=>by rw[grps] at h;cases h;exact Nat.le_refl _
 |0,_::_,g,h=>by rw[grps] at h;cases h;exact Nat.zero_le _
 |n+1,p::r,g,h=>by
  rw[grps] at h
  cases ht:grp p (r.filter fun q=>vari (zab q) (zab p)) with
  |none=>rw[ht] at h;cases h
  |some t=>
   rw[ht] at h
   cases e:grps n (r.filter fun q=> !vari (zab q) (zab p)) with
   |none=>rw[e] at h;cases h
   |some g'=>
    rw[e] at h
    cases h
    have h1:=zmt n _ g' e
    have h2:(r.filter fun q=> !vari (zab q) (zab p)).length<=r.length:=List.length_filter_le _ _
    simp only[List.length_cons]
    omega
theorem zlB(ts:List Tm):(zci ts).1.length<=ts.length:=by
 unfold zci
 split
 ·cases h:grps (zbC ts).length (zbC ts) with
  |some l=>exact Nat.le_trans (zmt _ _ _ h) (zsq ts).1
  |none=>exact Nat.zero_le _
 ·exact Nat.zero_le _
def clo(k:Tm):Prop:=k.valid=true/\k.occ=[]
theorem ziX{k:Tm}(h:k.occ=[]):¬k.kind=0:=fun hk=>by
 rw[Tm.zvR,if_pos hk] at h
 cases h
theorem zqR{k u:Tm}(h:k.occ=[])(hu:u∈k.args):u.occ=[]:=by
 cases e:u.occ with
 |nil=>rfl
 |cons x r=>
  have:x∈k.occ:=Tm.zv2 (ziX h) hu (by rw[e];exact List.mem_cons_self)
  rw[h] at this
  cases this
theorem zqS(f:Int->Tm):∀t:Tm,t.occ=[]->Tm.sub f t=t:=by
 intro t
 induction t using Tm.zvL with
 |h t ih=>
  intro h
  rw[Tm.zvS,if_neg (ziX h)]
  have:t.args.map (Tm.sub f)=t.args:=by
   conv=>rhs;rw[<-List.map_id t.args]
   exact List.map_congr_left fun u hu=>ih u hu (zqR h hu)
  rw[this]
  cases t
  rfl
theorem zmB{a b:Tm}(ha:clo a)(hb:clo b):vari a b=decide (a.cmp b=0):=by
 unfold vari canT
 rw[zqS _ a ha.2,zqS _ b hb.2,ha.1,hb.1,Bool.true_and,Bool.true_and]
theorem zmC:∀(n:Nat) (l:List B) (r:List (Tm × Tm)),(∀p∈r,p.1=p.2/\p.1.occ=[])->wsum r<=n->uni n l r=(l,0)
 |n,l,[],_,_=>zfz n l
 |0,l,p::r,_,hw=>by
  have:=p.1.size_eq
  unfold wsum at hw
  simp only[List.map_cons,List.sum_cons] at hw
  omega
 |n+1,l,p::r,hr,hw=>by
  obtain⟨h1,h2⟩:=hr p List.mem_cons_self
  have hr2:=fun q hq=>hr q (List.mem_cons_of_mem _ hq)
  have hk:=ziX h2
  have hsz:=p.1.size_eq
  have hws:wsum (p::r)=p.1.size+wsum r:=by unfold wsum;simp
  have f1:=zdM l hk
  have e:ustep l (flw l p.1) (flw l p.2)=.args (p.1.args.zip p.1.args):=by rw[<-h1,f1];unfold ustep;rw[if_neg (fun h=>hk h.1),if_neg hk,if_neg hk,if_pos ⟨rfl,rfl,rfl,rfl⟩]
  have hwz:wsum (p.1.args.zip p.1.args++r)=Tm.sizes p.1.args+wsum r:=by
   rw[<-ziS p.1.args p.1.args rfl]
   unfold wsum
   rw[List.map_append,List.sum_append]
  rw[zcq r e]
  refine zmC n l _ (fun q hq=> ?_) (by omega)
  rcases List.mem_append.1 hq with hq|hq
  ·have hz:∀(a:List Tm) (q:Tm × Tm),q∈a.zip a->q.1=q.2:=fun a=>by
    induction a with
    |nil=>intro q h;simp at h
    |cons x s ih=>
     intro q h
     rw[List.zip_cons_cons] at h
     rcases List.mem_cons.1 h with rfl|h
     ·rfl
     ·exact ih q h
   exact⟨hz _ q hq,zqR h2 (List.of_mem_zip hq).1⟩
  ·exact hr2 q hq
theorem zkr{w:Tm}(hw:clo w):∀r:List Tm,(∀q∈r,zab q=w)->zg2 w [] r=[]
 |[],_=>rfl
 |q::r,h=>by
  have e:unR [] w (zab q)=([],0):=by
   rw[h q List.mem_cons_self]
   unfold unR
   rw[if_pos ⟨okb_iff.2 okb_nil,hw.1,hw.1⟩]
   refine zmC _ _ _ (fun p hp=> ?_) ?_
   ·rw[List.mem_singleton] at hp
    rw[hp]
    exact⟨rfl,hw.2⟩
   ·have:=valid_size hw.1
    show w.size+0<=_
    omega
  rw[zg2,e]
  exact zkr hw r fun x hx=>h x (List.mem_cons_of_mem _ hx)
structure PairOk(q:Tm):Prop where
 pr:zaU q=true
 val:q.valid=true
 key:clo (zab q)
 ks:(zab q).size<20
 is:(za0 q).size<20
def eqk(k:Tm)(q:Tm):Bool:=decide ((zab q).cmp k=0)
theorem eqk_iff{k q:Tm}:eqk k q=true↔zab q=k:=by unfold eqk;rw[decide_eq_true_eq,Tm.cmp_zero]
theorem eqk_not{k q:Tm}:eqk k q=false↔zab q≠k:=by rw[<-Bool.not_eq_true,eqk_iff]
theorem zt9{p:Tm}{r:List Tm}(hp:PairOk p)(hr:∀q∈r,PairOk q/\zab q=zab p)(hl:r.length<60):grp p r=some (grpT p r):=by
 have hpr:∀q∈p::r,zaU q=true/\q.valid=true:=fun q hq=>by
  rcases List.mem_cons.1 hq with rfl|hq
  ·exact⟨hp.pr,hp.val⟩
  ·exact⟨(hr q hq).1.pr,(hr q hq).1.val⟩
 obtain⟨h1,h2,h3⟩:=zuS hpr fun q hq=>by rw[(hr q hq).2];exact zkk hp.key.1
 rw[zkr hp.key r fun q hq=>(hr q hq).2] at h3
 have hv:(grpT p r).valid=true:=by
  refine zd1 (zg3 hpr) ?_
  have h4:=zg1 ((p::r).map za0) 20 fun t ht=>by
   obtain⟨q,hq,rfl⟩:=List.mem_map.1 ht
   rcases List.mem_cons.1 hq with rfl|hq
   ·have:=hp.is;omega
   ·have:=(hr q hq).1.is;omega
  have h5:=hp.ks
  rw[List.length_map,List.length_cons] at h4
  show 1+((zab p).size+((lst ((p::r).map za0)).size+0))<=_
  omega
 rw[h3,if_pos hv,zlD okb_nil.Acyc (valid_fits hv) fun w _=>by simp[fndB,lbB]]
theorem zn6{p:Tm}{r:List Tm}(hp:PairOk p)(hr:∀q∈r,PairOk q):(r.filter fun q=>vari (zab q) (zab p))=r.filter (eqk (zab p))/\(r.filter fun q=> !vari (zab q) (zab p))=r.filter fun q=> !eqk (zab p) q:=by
 constructor
 ·exact List.filter_congr fun q hq=>zmB (hr q hq).key hp.key
 ·exact List.filter_congr fun q hq=>by rw[zmB (hr q hq).key hp.key];rfl
structure Parts(K G:List Tm):Prop where
 mem:∀g∈G,∃p∈K,g=prT (zab p) (lst ((K.filter (eqk (zab p))).map za0))
 inc:G.Pairwise fun a b=>(zab a).cmp (zab b)<0
 cnt:(G.map fun g=>(K.filter (eqk (zab g))).length).sum=K.length
theorem zqT(k t:Tm):zab (prT k t)=k:=rfl
theorem zn7{k k':Tm}(h:k≠k')(r:List Tm):(r.filter fun q=> !eqk k q).filter (eqk k')=r.filter (eqk k'):=by
 rw[List.filter_filter]
 refine List.filter_congr fun q _=> ?_
 by_cases e:zab q=k'
 ·rw[eqk_iff.2 e,eqk_not.2 fun e2=>h (e2.symm.trans e)]
  rfl
 ·rw[eqk_not.2 e]
  rfl
theorem zh2:∀(n:Nat) (K:List Tm),K.length<=n->K.length<=60->(∀q∈K,PairOk q)->Srt zbt K->∃G,grps n K=some G/\Parts K G
 |_,[],_,_,_,_=>⟨[],by rw[grps],⟨(fun g hg=>by cases hg),List.Pairwise.nil,rfl⟩⟩
 |0,p::r,h,_,_,_=>by simp at h
 |n+1,p::r,hn,hl,hq,hs=>by
  have hp:=hq p List.mem_cons_self
  have hr:=fun q hq'=>hq q (List.mem_cons_of_mem _ hq')
  obtain⟨e1,e2⟩:=zn6 hp hr
  simp only[List.length_cons] at hn hl
  have hl1:(r.filter (eqk (zab p))).length<=r.length:=List.length_filter_le _ _
  have hl2:(r.filter fun q=> !eqk (zab p) q).length<=r.length:=List.length_filter_le _ _
  have hm2:∀q∈r.filter (fun q=> !eqk (zab p) q),q∈r/\zab q≠zab p:=fun q hq'=>by
   obtain⟨h1,h2⟩:=List.mem_filter.1 hq'
   exact⟨h1,fun e=>by rw[eqk_iff.2 e] at h2;cases h2⟩
  have hs2:Srt zbt (r.filter fun q=> !eqk (zab p) q):=List.Pairwise.filter _ (Srt.tail hs)
  obtain⟨G,hG,hP⟩:=zh2 n (r.filter fun q=> !eqk (zab p) q) (by omega) (by omega) (fun q hq'=>hr q (hm2 q hq').1) hs2
  have hpp:eqk (zab p) p=true:=eqk_iff.2 rfl
  have hgr:=zt9 hp (r:=r.filter (eqk (zab p))) (fun q hq'=>by
   obtain⟨h1,h2⟩:=List.mem_filter.1 hq'
   exact⟨hr q h1,eqk_iff.1 h2⟩) (by omega)
  have hf0:(p::r).filter (eqk (zab p))=p::r.filter (eqk (zab p)):=by rw[List.filter_cons,if_pos hpp]
  have hfo:∀k,k≠zab p->(p::r).filter (eqk k)=(r.filter fun q=> !eqk (zab p) q).filter (eqk k):=fun k hk=>by
   rw[zn7 (fun e=>hk e.symm),List.filter_cons,if_neg (by rw[eqk_not.2 fun e=>hk e.symm];simp)]
  have hgk:∀g∈G,zab g≠zab p:=fun g hg=>by
   obtain⟨q,hq',e⟩:=hP.mem g hg
   rw[e,zqT]
   exact(hm2 q hq').2
  refine⟨grpT p (r.filter (eqk (zab p)))::G,by rw[grps,e1,e2,hgr,hG];rfl,⟨fun g hg=> ?_,List.pairwise_cons.2 ⟨fun g hg=> ?_,hP.inc⟩,?_⟩⟩
  ·rcases List.mem_cons.1 hg with rfl|hg
   ·exact⟨p,List.mem_cons_self,by rw[hf0];rfl⟩
   ·obtain⟨q,hq',e⟩:=hP.mem g hg
    exact⟨q,List.mem_cons_of_mem _ (hm2 q hq').1,by rw[hfo _ (hm2 q hq').2];exact e⟩
  ·obtain⟨q,hq',e⟩:=hP.mem g hg
   rw[e,zqT]
   show(zab p).cmp (zab q)<0
   have h1:zbt p q<=0:=Srt.head hs q (hm2 q hq').1
   have h2:¬(zab p).cmp (zab q)=0:=fun h=>(hm2 q hq').2 (Tm.cmp_zero.1 h).symm
   unfold zbt at h1
   omega
  ·rw[List.map_cons,List.sum_cons]
   have e3:zab (grpT p (r.filter (eqk (zab p))))=zab p:=rfl
   rw[e3,hf0]
   have e4:(G.map fun g=>((p::r).filter (eqk (zab g))).length)=G.map fun g=>((r.filter fun q=> !eqk (zab p) q).filter (eqk (zab g))).length:=List.map_congr_left fun g hg=>by rw[hfo _ (hgk g hg)]
   rw[e4,hP.cnt]
   have:∀(f:Tm->Bool) (l:List Tm),(l.filter f).length+(l.filter fun q=> !f q).length=l.length:=fun f l=>by
    induction l with
    |nil=>rfl
    |cons x s ih=>cases h:f x <;> simp[h] <;> omega
   have:=this (eqk (zab p)) r
   simp only[List.length_cons]
   omega
theorem zg9(k t:Tm):∀l:List Tm,Srt zbt l->(insC zbt t l).filter (eqk k)=l.filter (eqk k)++if eqk k t=true then[t] else[]
 |[],_=>by
  rw[insC,List.filter_cons]
  rfl
 |x::l,hs=>by
  rw[insC]
  by_cases h:zbt t x<0
  ·rw[if_pos h,List.filter_cons]
   by_cases hk:eqk k t=true
   ·have:(x::l).filter (eqk k)=[]:=by
     refine List.filter_eq_nil_iff.2 fun y hy hky=> ?_
     have h1:zbt t y<0:=by
      rcases List.mem_cons.1 hy with rfl|hy
      ·exact h
      ·exact key_cmp.lt_of_lt_le h (Srt.head hs y hy)
     rw[eqk_iff] at hk hky
     unfold zbt at h1
     rw[hk,hky,Tm.zwi] at h1
     omega
    rw[if_pos hk,if_pos hk,this]
    rfl
   ·rw[if_neg hk,if_neg hk,List.append_nil]
  ·rw[if_neg h,List.filter_cons,zg9 k t l (Srt.tail hs),List.filter_cons]
   split <;> rfl
theorem zfY(k:Tm)(l:List Tm):(isort zbt l).filter (eqk k)=l.filter (eqk k):=by
 have key:∀(n:Nat) (l:List Tm),l.length=n->(isort zbt l).filter (eqk k)=l.filter (eqk k):=by
  intro n
  induction n with
  |zero=>intro l hl;rw[List.eq_nil_of_length_eq_zero hl];rfl
  |succ n ih=>
   intro l hl
   rcases zej l with rfl|⟨r,x,rfl⟩
   ·rfl
   ·rw[zhR,zg9 k x _ (zcd key_cmp r),ih r (by simpa using hl),List.filter_append,List.filter_cons]
    rfl
 exact key _ l rfl
theorem zks(L:List Tm)(hl:L.length<=60)(hq:∀q∈L,PairOk q):∃G,zci L=(G,0)/\Parts L G:=by
 have hv:zbf L=true:=List.all_eq_true.2 fun q h=>(hq q h).val
 have hp:L.all zaU=true:=List.all_eq_true.2 fun q h=>(hq q h).pr
 have e1:zdJ L=0:=by unfold zdJ;rw[if_pos hv,if_pos hp]
 have e2:zbC L=isort zbt L:=by unfold zbC;rw[if_pos ⟨hv,hp⟩]
 have hm:∀x,x∈isort zbt L↔x∈L:=fun x=>(zbN L).mem_iff
 obtain⟨G,h1,h2⟩:=zh2 (isort zbt L).length (isort zbt L) (Nat.le_refl _) (by rw[zaw];exact hl) (fun q h=>hq q ((hm q).1 h)) (zcd key_cmp L)
 refine⟨G,by unfold zci;rw[if_pos e1,e2,h1];rfl,⟨fun g hg=> ?_,h2.inc,?_⟩⟩
 ·obtain⟨p,hp',e⟩:=h2.mem g hg
  exact⟨p,(hm p).1 hp',by rw[zfY] at e;exact e⟩
 ·have:=h2.cnt
  rw[zaw] at this
  rw[<-this]
  congr 1
  exact List.map_congr_left fun g _=>by rw[zfY]
theorem zqU:∀l:List Tm,els (lst l)=l
 |[]=>ztT (fun h=>by have:=h.1;simp[lst,nilT,Tm.kind] at this)
 |x::r=>by
  have hc:cs (lst (x::r)):=⟨rfl,rfl,rfl⟩
  rw[ztS hc]
  show x::els (lst r)=_
  rw[zqU r]
theorem zn4(t:Tm)(hp:Heap)(ht:t.size<1000000000):S 29 [t.av] hp=some (.ret (if t.valid=true then t else zt).av,hp):=by
 by_cases hv:t.valid=true
 ·rw[if_pos hv]
  exact zcT t hp hv ht
 ·rw[if_neg hv]
  refine zar rfl rfl rfl (zad [(some 4,t.pv)]) rfl ?_
  have h1:=fun hp=>za6 t hp ht
  have hv':t.valid=false:=by simpa using hv
  rw[hv'] at h1
  simp only[Tm.av] at h1
  have hb0:za7 [(none,.pv none (.int .i64 0)),(none,.pv none (.int .i64 0)),(none,.pv none (.str [])),(none,.tsl (some 4) [])] [] []=some (.agg [(none,.pv none (.int .i64 0)),(none,.pv none (.int .i64 0)),(none,.pv none (.str [])),(none,.tsl (some 4) [])]):=rfl
  simp -dsimp -implicitDefEqProofs only[go_sem,seval,↓reduceIte,Tm.av,h1,hb0,zaj (Nat.zero_le _),zt]
  exact⟨_,rfl⟩
def zn5(a b:Tm):Tm:=if(prT a b).valid=true then prT a b else zt
theorem zlG(a b:Tm)(h:a.size+b.size<100000000)(hp:Heap):S 8 [.pv none (.str [45]),.pv none (.sl (some 4) [a.pv,b.pv])] hp=some (.ret (zn5 a b).av,hp):=by
 refine zar rfl rfl rfl (zad [(none,.str [45]),(none,.sl (some 4) [a.pv,b.pv])]) rfl ?_
 have hb:za7 [(none,.pv none (.int .i64 0)),(none,.pv none (.int .i64 0)),(none,.pv none (.str [])),(none,.tsl (some 4) [])] [0,2,3] [.pv none (.int .i64 3),.pv none (.str [45]),.pv none (.sl (some 4) [a.pv,b.pv])]=some (.pv (some 4) (prT a b).pv):=rfl
 have hs:(prT a b).size=1+(a.size+b.size):=by
  show 1+(a.size+(b.size+0))=_
  omega
 have hcl:=fun hp=>zn4 (prT a b) hp (by omega)
 have hne:¬(2:Int)=0:=by omega
 unfold zn5
 simp only[Tm.av] at hcl
 simp -dsimp -implicitDefEqProofs only[go_sem,seval,↓reduceIte,Tm.av,hb,hcl,hne]
 try rfl
theorem zt7(a b:Tm)(h:a.size+b.size<100000000)(hp:Heap):S 15 [a.av,b.av] hp=some (.ret (zn5 a b).av,hp):=by
 refine zar rfl rfl rfl (zad [(some 4,a.pv),(some 4,b.pv)]) rfl ?_
 have h1:∀H:Heap,S 8 [.pv none (.str [45]),.tsl (some 4) [a.pv,b.pv]] H=some (.ret (zn5 a b).av,H):=fun H=>by
  have:=zcC (F:=find tab) (prim:=prim) (f:=8) (args:=[.pv none (.str [45]),.tsl (some 4) [a.pv,b.pv]]) (ps:=[(none,.str [45]),(none,.sl (some 4) [a.pv,b.pv])]) (hp:=H) (hp1:=H) rfl rfl rfl rfl (zlG a b h [])
  have hs:∀t:Tm,t.av.scalar=false:=fun t=>by cases t;rfl
  rw[hs] at this
  exact this
 simp only[Tm.av] at h1
 simp -dsimp -implicitDefEqProofs only[go_sem,seval,↓reduceIte,Tm.av,h1]
 try rfl
theorem zt8(a b:Tm)(va:a.valid=true)(vb:b.valid=true)(hp:Heap):S 20 [a.av,b.av] hp=some (.ret (.pv none (.int .i64 (a.cmp b))),hp):=by
 refine zar rfl rfl rfl (zad [(some 4,a.pv),(some 4,b.pv)]) rfl ?_
 have sa:=valid_size va
 have sb:=valid_size vb
 have h1:=fun hp=>za6 a hp (by omega)
 have h2:=fun hp=>za6 b hp (by omega)
 have h3:=fun hp=>zhW a b hp (by omega) (valid_fits va) (valid_fits vb)
 simp only[Tm.av] at h1 h2 h3
 (repeat' (first|(simp -dsimp -implicitDefEqProofs only[go_sem,seval,↓reduceIte, *])|(refine zat (fun _=> ?_) (fun _=> ?_))))
def tP(k n:Int)(s:List UInt8)(l:List PV):PV:=.agg [(none,.int .i64 k),(none,.int .i64 n),(none,.str s),(none,.sl (some 4) l)]
theorem fok0:FactsOk (find tab) prim []:=.nil
def fq0:List (Sh × PV):=[((some 4),(tP 2 0 [97] []))]
def fv0:AV:=(.pv (some 4) (tP 2 0 [97] []))
theorem ff0:resV (sem (find tab) prim .fn 7 (pvs fq0) [])=some fv0:=zbh (n:=60) fok0 (by kernel_rfl)
def fK1:Facts:=(7,fq0,fv0)::[]
theorem fok1:FactsOk (find tab) prim fK1:=.cons (by kernel_rfl) ff0 fok0
def fq1:List (Sh × PV):=[((some 4),(tP 2 0 [97] [])),((some 4),(tP 2 0 [97] []))]
def fv1:AV:=(.pv none (.bool true))
theorem ff1:resV (sem (find tab) prim .fn 47 (pvs fq1) [])=some fv1:=zbh (n:=60) fok1 (by kernel_rfl)
def fK2:Facts:=(47,fq1,fv1)::fK1
theorem fok2:FactsOk (find tab) prim fK2:=.cons (by kernel_rfl) ff1 fok1
def fq2:List (Sh × PV):=[((some 4),(tP 2 0 [98] []))]
def fv2:AV:=(.pv (some 4) (tP 2 0 [98] []))
theorem ff2:resV (sem (find tab) prim .fn 7 (pvs fq2) [])=some fv2:=zbh (n:=60) fok2 (by kernel_rfl)
def fK3:Facts:=(7,fq2,fv2)::fK2
theorem fok3:FactsOk (find tab) prim fK3:=.cons (by kernel_rfl) ff2 fok2
def fq3:List (Sh × PV):=[((some 4),(tP 2 0 [98] [])),((some 4),(tP 2 0 [97] []))]
def fv3:AV:=(.pv none (.bool false))
theorem ff3:resV (sem (find tab) prim .fn 47 (pvs fq3) [])=some fv3:=zbh (n:=60) fok3 (by kernel_rfl)
def fK4:Facts:=(47,fq3,fv3)::fK3
theorem fok4:FactsOk (find tab) prim fK4:=.cons (by kernel_rfl) ff3 fok3
def fq4:List (Sh × PV):=[(none,(.sl (some 5) [])),((some 4),(tP 2 0 [97] []))]
def fv4:AV:=(.tuple [(.pv (some 4) (tP 2 0 [97] [])),(.pv none (.int .i64 (0)))])
theorem ff4:resV (sem (find tab) prim .fn 70 (pvs fq4) [])=some fv4:=zbh (n:=60) fok4 (by kernel_rfl)
def fK5:Facts:=(70,fq4,fv4)::fK4
theorem fok5:FactsOk (find tab) prim fK5:=.cons (by kernel_rfl) ff4 fok4
def fq5:List (Sh × PV):=[(none,(.sl (some 5) [])),((some 4),(tP 1 2 [] []))]
def fv5:AV:=(.tuple [(.pv (some 4) (tP 1 2 [] [])),(.pv none (.int .i64 (0)))])
theorem ff5:resV (sem (find tab) prim .fn 70 (pvs fq5) [])=some fv5:=zbh (n:=60) fok5 (by kernel_rfl)
def fK6:Facts:=(70,fq5,fv5)::fK5
theorem fok6:FactsOk (find tab) prim fK6:=.cons (by kernel_rfl) ff5 fok5
def fq6:List (Sh × PV):=[(none,(.sl (some 4) [(tP 3 0 [45] [(tP 2 0 [97] []),(tP 1 2 [] [])])]))]
def fv6:AV:=(.tuple [(.pv (some 4) (tP 3 0 [45] [(tP 2 0 [97] []),(tP 3 0 [46] [(tP 1 2 [] []),(tP 2 0 [91,93] [])])])),(.pv none (.int .i64 (0)))])
theorem ff6:resV (sem (find tab) prim .fn 48 (pvs fq6) [])=some fv6:=zbh (n:=60) fok6 (by kernel_rfl)
def fK7:Facts:=(48,fq6,fv6)::fK6
theorem fok7:FactsOk (find tab) prim fK7:=.cons (by kernel_rfl) ff6 fok6
def fq7:List (Sh × PV):=[((some 4),(tP 2 0 [98] [])),((some 4),(tP 2 0 [98] []))]
def fv7:AV:=(.pv none (.bool true))
theorem ff7:resV (sem (find tab) prim .fn 47 (pvs fq7) [])=some fv7:=zbh (n:=60) fok7 (by kernel_rfl)
def fK8:Facts:=(47,fq7,fv7)::fK7
theorem fok8:FactsOk (find tab) prim fK8:=.cons (by kernel_rfl) ff7 fok7
def fq8:List (Sh × PV):=[(none,(.sl (some 5) [])),((some 4),(tP 2 0 [98] [])),((some 4),(tP 2 0 [98] []))]
def fv8:AV:=(.tuple [(.pv none (.sl (some 5) [])),(.pv none (.int .i64 (0)))])
theorem ff8:resV (sem (find tab) prim .fn 69 (pvs fq8) [])=some fv8:=zbh (n:=60) fok8 (by kernel_rfl)
def fK9:Facts:=(69,fq8,fv8)::fK8
theorem fok9:FactsOk (find tab) prim fK9:=.cons (by kernel_rfl) ff8 fok8
def fq9:List (Sh × PV):=[(none,(.sl (some 5) [])),((some 4),(tP 2 0 [98] []))]
def fv9:AV:=(.tuple [(.pv (some 4) (tP 2 0 [98] [])),(.pv none (.int .i64 (0)))])
theorem ff9:resV (sem (find tab) prim .fn 70 (pvs fq9) [])=some fv9:=zbh (n:=60) fok9 (by kernel_rfl)
def fK10:Facts:=(70,fq9,fv9)::fK9
theorem zu1:FactsOk (find tab) prim fK10:=.cons (by kernel_rfl) ff9 fok9
def fq10:List (Sh × PV):=[(none,(.sl (some 5) [])),((some 4),(tP 1 1 [] []))]
def fv10:AV:=(.tuple [(.pv (some 4) (tP 1 1 [] [])),(.pv none (.int .i64 (0)))])
theorem ff10:resV (sem (find tab) prim .fn 70 (pvs fq10) [])=some fv10:=zbh (n:=60) zu1 (by kernel_rfl)
def fK11:Facts:=(70,fq10,fv10)::fK10
theorem zu2:FactsOk (find tab) prim fK11:=.cons (by kernel_rfl) ff10 zu1
def fq11:List (Sh × PV):=[(none,(.sl (some 5) [])),((some 4),(tP 1 3 [] []))]
def fv11:AV:=(.tuple [(.pv (some 4) (tP 1 3 [] [])),(.pv none (.int .i64 (0)))])
theorem ff11:resV (sem (find tab) prim .fn 70 (pvs fq11) [])=some fv11:=zbh (n:=60) zu2 (by kernel_rfl)
def fK12:Facts:=(70,fq11,fv11)::fK11
theorem zu3:FactsOk (find tab) prim fK12:=.cons (by kernel_rfl) ff11 zu2
def fq12:List (Sh × PV):=[(none,(.sl (some 4) [(tP 3 0 [45] [(tP 2 0 [98] []),(tP 1 1 [] [])]),(tP 3 0 [45] [(tP 2 0 [98] []),(tP 1 3 [] [])])]))]
def fv12:AV:=(.tuple [(.pv (some 4) (tP 3 0 [45] [(tP 2 0 [98] []),(tP 3 0 [46] [(tP 1 1 [] []),(tP 3 0 [46] [(tP 1 3 [] []),(tP 2 0 [91,93] [])])])])),(.pv none (.int .i64 (0)))])
theorem ff12:resV (sem (find tab) prim .fn 48 (pvs fq12) [])=some fv12:=zbh (n:=60) zu3 (by kernel_rfl)
def fK13:Facts:=(48,fq12,fv12)::fK12
theorem zu4:FactsOk (find tab) prim fK13:=.cons (by kernel_rfl) ff12 zu3
def fq13:List (Sh × PV):=[(none,(.sl (some 4) [(tP 3 0 [45] [(tP 2 0 [98] []),(tP 1 1 [] [])]),(tP 3 0 [45] [(tP 2 0 [97] []),(tP 1 2 [] [])]),(tP 3 0 [45] [(tP 2 0 [98] []),(tP 1 3 [] [])])]))]
def fv13:AV:=(.tuple [(.pv none (.sl (some 4) [(tP 3 0 [45] [(tP 2 0 [97] []),(tP 3 0 [46] [(tP 1 2 [] []),(tP 2 0 [91,93] [])])]),(tP 3 0 [45] [(tP 2 0 [98] []),(tP 3 0 [46] [(tP 1 1 [] []),(tP 3 0 [46] [(tP 1 3 [] []),(tP 2 0 [91,93] [])])])])])),(.pv none (.int .i64 (0)))])
theorem ff13:resV (sem (find tab) prim .fn 19 (pvs fq13) [])=some fv13:=zbh (n:=60) zu4 (by kernel_rfl)
def fK14:Facts:=(19,fq13,fv13)::fK13
theorem zu5:FactsOk (find tab) prim fK14:=.cons (by kernel_rfl) ff13 zu4
def fq14:List (Sh × PV):=[((some 4),(tP 3 0 [36,115,101,116] [(tP 0 0 [] []),(tP 3 0 [46] [(tP 3 0 [45] [(tP 2 0 [97] []),(tP 1 2 [] [])]),(tP 3 0 [46] [(tP 3 0 [45] [(tP 2 0 [97] []),(tP 1 1 [] [])]),(tP 3 0 [46] [(tP 3 0 [45] [(tP 2 0 [97] []),(tP 1 2 [] [])]),(tP 2 0 [91,93] [])])])]),(tP 0 1 [] [])]))]
def fv14:AV:=(.pv (some 4) (tP 3 0 [36,115,101,116] [(tP 0 0 [] []),(tP 3 0 [46] [(tP 3 0 [45] [(tP 2 0 [97] []),(tP 1 2 [] [])]),(tP 3 0 [46] [(tP 3 0 [45] [(tP 2 0 [97] []),(tP 1 1 [] [])]),(tP 3 0 [46] [(tP 3 0 [45] [(tP 2 0 [97] []),(tP 1 2 [] [])]),(tP 2 0 [91,93] [])])])]),(tP 0 1 [] [])]))
theorem ff14:resV (sem (find tab) prim .fn 7 (pvs fq14) [])=some fv14:=zbh (n:=60) zu5 (by kernel_rfl)
def fK15:Facts:=(7,fq14,fv14)::fK14
theorem zu6:FactsOk (find tab) prim fK15:=.cons (by kernel_rfl) ff14 zu5
def fq15:List (Sh × PV):=[((some 4),(tP 3 0 [46] [(tP 3 0 [45] [(tP 2 0 [97] []),(tP 1 2 [] [])]),(tP 3 0 [46] [(tP 3 0 [45] [(tP 2 0 [97] []),(tP 1 1 [] [])]),(tP 3 0 [46] [(tP 3 0 [45] [(tP 2 0 [97] []),(tP 1 2 [] [])]),(tP 2 0 [91,93] [])])])]))]
def fv15:AV:=(.tuple [(.pv none (.sl (some 4) [(tP 3 0 [45] [(tP 2 0 [97] []),(tP 1 2 [] [])]),(tP 3 0 [45] [(tP 2 0 [97] []),(tP 1 1 [] [])]),(tP 3 0 [45] [(tP 2 0 [97] []),(tP 1 2 [] [])])])),(.pv (some 4) (tP 0 0 [] [])),(.pv none (.bool true))])
theorem ff15:resV (sem (find tab) prim .fn 25 (pvs fq15) [])=some fv15:=zbh (n:=60) zu6 (by kernel_rfl)
def fK16:Facts:=(25,fq15,fv15)::fK15
theorem zu7:FactsOk (find tab) prim fK16:=.cons (by kernel_rfl) ff15 zu6
def fq16:List (Sh × PV):=[(none,(.sl (some 5) [])),((some 4),(tP 2 0 [97] [])),((some 4),(tP 2 0 [97] []))]
def fv16:AV:=(.tuple [(.pv none (.sl (some 5) [])),(.pv none (.int .i64 (0)))])
theorem ff16:resV (sem (find tab) prim .fn 69 (pvs fq16) [])=some fv16:=zbh (n:=60) zu7 (by kernel_rfl)
def fK17:Facts:=(69,fq16,fv16)::fK16
theorem zu8:FactsOk (find tab) prim fK17:=.cons (by kernel_rfl) ff16 zu7
def fq17:List (Sh × PV):=[(none,(.sl (some 4) [(tP 3 0 [45] [(tP 2 0 [97] []),(tP 1 2 [] [])]),(tP 3 0 [45] [(tP 2 0 [97] []),(tP 1 1 [] [])]),(tP 3 0 [45] [(tP 2 0 [97] []),(tP 1 2 [] [])])]))]
def fv17:AV:=(.tuple [(.pv (some 4) (tP 3 0 [45] [(tP 2 0 [97] []),(tP 3 0 [46] [(tP 1 2 [] []),(tP 3 0 [46] [(tP 1 1 [] []),(tP 3 0 [46] [(tP 1 2 [] []),(tP 2 0 [91,93] [])])])])])),(.pv none (.int .i64 (0)))])
theorem ff17:resV (sem (find tab) prim .fn 48 (pvs fq17) [])=some fv17:=zbh (n:=60) zu8 (by kernel_rfl)
def fK18:Facts:=(48,fq17,fv17)::fK17
theorem zu9:FactsOk (find tab) prim fK18:=.cons (by kernel_rfl) ff17 zu8
def fq18:List (Sh × PV):=[(none,(.sl (some 4) [(tP 3 0 [45] [(tP 2 0 [97] []),(tP 1 2 [] [])]),(tP 3 0 [45] [(tP 2 0 [97] []),(tP 1 1 [] [])]),(tP 3 0 [45] [(tP 2 0 [97] []),(tP 1 2 [] [])])]))]
def fv18:AV:=(.tuple [(.pv none (.sl (some 4) [(tP 3 0 [45] [(tP 2 0 [97] []),(tP 3 0 [46] [(tP 1 2 [] []),(tP 3 0 [46] [(tP 1 1 [] []),(tP 3 0 [46] [(tP 1 2 [] []),(tP 2 0 [91,93] [])])])])])])),(.pv none (.int .i64 (0)))])
theorem ff18:resV (sem (find tab) prim .fn 19 (pvs fq18) [])=some fv18:=zbh (n:=60) zu9 (by kernel_rfl)
def fK19:Facts:=(19,fq18,fv18)::fK18
theorem zva:FactsOk (find tab) prim fK19:=.cons (by kernel_rfl) ff18 zu9
def fq19:List (Sh × PV):=[((some 4),(tP 3 0 [36,115,101,116] [(tP 0 0 [] []),(tP 3 0 [46] [(tP 3 0 [45] [(tP 2 0 [97] []),(tP 1 2 [] [])]),(tP 3 0 [46] [(tP 3 0 [45] [(tP 2 0 [97] []),(tP 1 1 [] [])]),(tP 3 0 [46] [(tP 3 0 [45] [(tP 2 0 [97] []),(tP 1 2 [] [])]),(tP 2 0 [91,93] [])])])]),(tP 0 1 [] [])]))]
def fv19:AV:=(.tuple [(.pv none (.sl (some 4) [(tP 3 0 [36,115,101,116] [(tP 2 0 [97] []),(tP 3 0 [46] [(tP 3 0 [45] [(tP 2 0 [97] []),(tP 1 2 [] [])]),(tP 3 0 [46] [(tP 3 0 [45] [(tP 2 0 [97] []),(tP 1 1 [] [])]),(tP 3 0 [46] [(tP 3 0 [45] [(tP 2 0 [97] []),(tP 1 2 [] [])]),(tP 2 0 [91,93] [])])])]),(tP 3 0 [46] [(tP 1 1 [] []),(tP 3 0 [46] [(tP 1 2 [] []),(tP 2 0 [91,93] [])])])])])),(.pv (some 4) (tP 0 0 [] [])),(.pv none (.int .i64 (0)))])
theorem ff19:resV (sem (find tab) prim .fn 6 (pvs fq19) [])=some fv19:=zbh (n:=60) zva (by kernel_rfl)
def fK20:Facts:=(6,fq19,fv19)::fK19
theorem zvb:FactsOk (find tab) prim fK20:=.cons (by kernel_rfl) ff19 zva
def fq20:List (Sh × PV):=[((some 4),(tP 0 0 [] [])),((some 4),(tP 3 0 [94] [(tP 0 1 [] []),(tP 3 0 [112] [(tP 0 0 [] []),(tP 0 1 [] []),(tP 0 2 [] [])])]))]
def fv20:AV:=(.pv (some 4) (tP 3 0 [46] [(tP 0 2 [] []),(tP 2 0 [91,93] [])]))
theorem ff20:resV (sem (find tab) prim .fn 22 (pvs fq20) [])=some fv20:=zbh (n:=60) zvb (by kernel_rfl)
def fK21:Facts:=(22,fq20,fv20)::fK20
theorem zvH:FactsOk (find tab) prim fK21:=.cons (by kernel_rfl) ff20 zvb
theorem run9:yes (zfu fK21 (find tab) prim 60 .fn 9 [] [])=true:=by kernel_rfl
theorem sem9:sem (find tab) prim .fn 9 [] []=some (.ret (.pv none (.bool true)),[]):=zf9 zvH 60 _ _ _ _ _ (zuI run9)
end Go.Proofs.Ytffecaafklpmhaa
namespace Go.Proofs.Ytffecaafklpmhaa
open Go.Am Go.ChangeShapes Go.WideShapes Go.ChangeAt Go.RowKit
theorem zqs(H:Type):BulkLaws (H:=H) Rows.uptoBulk Rows.uptoBulkAll where
 nil:=by simp[Rows.uptoBulkAll]
 cons d r:=by simp[Rows.uptoBulkAll]
 slice e s:=by simp[Rows.uptoBulk]
 agg l:=by simp[Rows.uptoBulk]
 string l:=by simp[Rows.uptoBulk]
theorem znS{H:Type}{l:List (DataW H)}(hk:Rows.uptoSmall H l=true):Rows.uptoBulkAll l<=1048576:=of_decide_eq_true hk
def zms(P:Program)(tA tT:TypeId):Bool:=
 (match P.underlying tA with|some (.slice t)=>t == tT|_=>false) &&
 (match P.underlying tT with
  |some (.struct fs)=>match fs.toList.map (·.type) with
   |[a,b,c,d]=>d == tA && (match P.underlying a with|some (.int .i64)=>true|_=>false) && (match P.underlying b with|some (.int .i64)=>true|_=>false) && (match P.underlying c with|some .string=>true|_=>false) && decide (shOf P a=none) && decide (shOf P b=none) && decide (shOf P c=none)
   |_=>false
  |_=>false) && decide (shOf P tT=some 4) && decide (shOf P tA=none)
theorem zlz{P:Program}{tA tT:TypeId}(h:zms P tA tT=true):TermTy P tA tT:=by
 unfold zms at h
 simp only[Bool.and_eq_true,decide_eq_true_eq] at h
 obtain⟨⟨⟨h1,h2⟩,h3⟩,h4⟩:=h
 refine⟨?_,?_⟩
 ·split at h1
  ·rename_i t ht;rw[ht];simp at h1;rw[h1]
  ·cases h1
 ·split at h2
  ·rename_i fs hfs
   split at h2
   ·rename_i a b c d hl
    simp only[Bool.and_eq_true,decide_eq_true_eq,beq_iff_eq] at h2
    obtain⟨⟨⟨⟨⟨⟨k1,k2⟩,k3⟩,k4⟩,k5⟩,k6⟩,k7⟩:=h2
    subst k1
    refine⟨fs,a,b,c,hfs,hl,?_,?_,?_,h3,h4,k5,k6,k7⟩
    ·split at k2
     ·assumption
     ·cases k2
    ·split at k3
     ·assumption
     ·cases k3
    ·split at k4
     ·assumption
     ·cases k4
   ·cases h2
  ·cases h2
theorem zuN:TermTy Try.prog 22 24:=zlz (by kernel_rfl)
def zqt:List TypeId:=[2,3,4,5,9,22,24]
theorem closed:zmk Try.prog zqt=true:=by kernel_rfl
set_option maxRecDepth 100000 in
theorem zhY{H:Type}{enc:TypeId × Value->H}{W:World}{base:Nat}{v:Value}{d:DataW H}{ps:List MemPlace}(h:DataW.Trod enc Try.prog W 0 (fun _=>true) true 22 v d ps)(hv:Value.okWide Try.prog W .any base 22 v):
  ∃l:List Tm,AR W (noX (P:=Try.prog)) noμ [] (.pv none (.sl (some 4) (Tm.pvs l))) v/\Tm.sizes l<=Rows.uptoBulk d/\Tm.rngs l:=by
 obtain⟨fuel,h0⟩:=h
 obtain⟨p,hp⟩:=zqk closed fuel _ _ _ _ (by simp[zqt]) h0
 obtain⟨t,rfl,h1,h2⟩:=(zkd zuN (zqs H) fuel).2 d p hp
 have:=zuG ⟨fuel,h0⟩ (by kernel_rfl) hp (znO hv)
 rw[show shOf Try.prog 22=none from by kernel_rfl] at this
 exact⟨t,this,h1,h2⟩
end Go.Proofs.Ytffecaafklpmhaa
