/- What is proved: the reference's Canon and Variant. -/
import Derived.Test.YtffecaafklpmhaaGreatVn
import Derived.Test.YtffecaafklpmhaaGreatRv
import Derived.Test.YtffecaafklpmhaaGreatSwap
import Derived.Test.YtffecaafklpmhaaGreatPFre
import Derived.Test.YtffecaafklpmhaaGreatStk
set_option linter.unusedSimpArgs false
set_option linter.unusedVariables false
namespace Go.Proofs.YtffecaafklpmhaaGreat
open Go.Am
theorem gq{x:Int}:∀{l:List Int} {i:Nat},l[i]? =some x->(∀j,j<i->l[j]?≠some x)->l.idxOf x=i
 |[],_,h,_=>by simp at h
 |y::r,0,h,_=>by
  simp at h;simp[h]
 |y::r,i+1,h,hn=>by
  have h0:=hn 0 (by omega);have hy:¬y=x:=fun e=>h0 (by simp[e]);rw[List.idxOf_cons,beq_eq_false_iff_ne.2 hy];simp only[cond_false];rw[gq (l:=r) (i:=i) (by simpa using h) fun j hj=>by simpa using hn (j+1) (by omega)]
theorem NS(l:List Int)(x:Int)(hl:l.length<1000000000)(hm:x∈l)(hp:Heap):S 137 [.pv none (.sl none (ints l)),O8 x] hp=some (.ret (O8 ((l.idxOf x:Nat):Int)),hp):=by
 refine Yb rfl rfl rfl (Yd [(none,.sl none (ints l)),(none,.int .i64 x)]) rfl ?_;simp -dsimp -implicitDefEqProofs only[go_sem,seval,↓reduceIte,yz];refine Yv (α:=Unit) l.length (fun i _=>∀j,j<i->l[j]?≠some x) (fun i _=>⟨[(0,.pv none (.sl none (ints l))),(1,O8 x),(5,O8 i)],[]⟩) () ⟨fun j hj=>by omega,rfl⟩ ?_ ?_
 ·rintro i - h hinv;have hc:(i:Int)<(l.length:Int):=by omega
  obtain⟨b,hb⟩:∃b,l[i]? =some b:=⟨_,Zf h⟩;have w2:=O0 i (by omega)
  by_cases hbx:b=x
  ·have hi:=gq (by rw[hb,hbx]) hinv;simp -dsimp -implicitDefEqProofs only[go_sem,seval,↓reduceIte,yz,hc,zY (xW hb),hbx,hi]
  ·simp -dsimp -implicitDefEqProofs only[go_sem,seval,↓reduceIte,yz,hc,zY (xW hb),hbx,w2];refine⟨(),fun j hj=> ?_⟩;rcases Zq j i with h|h
   ·exact hinv j h
   ·have:j=i:=by omega
    subst this;rw[hb];intro e;cases e;exact hbx rfl
 ·rintro - hinv;obtain⟨j,hlt,hj⟩:=zi hm;exact absurd (by rw[Zf hlt,hj]) (hinv j hlt)
def appN(t:Tm)(ts:List Tm)(i:Nat):Heap:=[.box (some 4) (.pv (some 4) t.pv),.box (some 4) (.agg [(none,O8 0),(none,O8 0),(none,Oh []),(none,.sl (some 4) 2 0 0 0)]),.arr (some 4) [] false,.box (some 4) (.agg [(none,O8 t.kind),(none,O8 t.n),(none,Oh t.name),(none,.sl (some 4) 5 i 0 i)]),.arr (some 4) [] false,.arr (some 4) (Tm.pvs (ts.take i)) false]
theorem NT(L:List Int)(hL:L.length<100000000):∀(t:Tm) (hp:Heap),t.fits=true->t.size<1000000000->(∀w∈t.occ,w∈L)->S 126 [.pv none (.sl none (ints L)),t.av] hp=some (.ret (Tm.sub (cPos L) t).av,hp):=by
 intro t
 induction t using Tm.zyR with
 |h t ih=>
  intro hp hf ht ho;have hts:=t.size_eq;have hlen:=Tm.zyN t.args;refine Yb rfl rfl rfl (Yd [(none,.sl none (ints L)),(some 4,t.pv)]) rfl ?_;have hb:Ym A0 [0,1,2] [O8 t.kind,O8 t.n,Oh t.name]=some (.agg [(none,O8 t.kind),(none,O8 t.n),(none,Oh t.name),(none,.tsl (some 4) [])]):=rfl;by_cases hk:t.kind=0
  ·have hk':=Zj hk;have hm:t.n∈L:=ho _ (by rw[Tm.zyW,Zb hk];simp);have hpos:=fun hp=>NS L t.n (by omega) hm hp;have ha:t.args=[]:=by rw[yn hf hk];rfl
   have hnm:t.name=[]:=by rw[yn hf hk];rfl
   have e:Tm.sub (cPos L) t=tvar (L.idxOf t.n:Nat):=by rw[Tm.zyX,Zb hk];rfl
   rw[e];generalize ((L.idxOf t.n:Nat):Int)=k at hpos ⊢;simp -dsimp -implicitDefEqProofs only[go_sem,seval,↓reduceIte,Tm.av,Ya,Yh,Ye,zV,Tm.pvs_len,hk',hb,hpos,Yc (Zg _)];refine Yv (α:=Unit) 0 (fun _ _=>True) (fun i _=>⟨[(0,.pv none (.sl none (ints L))),(3,.ptr 0 0),(4,.ptr 1 0),(5,.ptr 3 0),(6,O8 i)],[.box (some 4) (.pv (some 4) t.pv),.box (some 4) (.agg [(none,O8 0),(none,O8 0),(none,Oh []),(none,.sl (some 4) 2 0 0 0)]),.arr (some 4) [] false,.box (some 4) (.agg [(none,O8 t.kind),(none,O8 k),(none,Oh t.name),(none,.sl (some 4) 5 0 0 0)]),.arr (some 4) [] false,.arr (some 4) [] false]⟩) () ⟨trivial,rfl⟩ ?_ ?_
   ·rintro i - h -;omega
   ·rintro - -;have hc:¬(0:Int)<(t.args.length:Int):=by rw[ha];simp
    simp -dsimp -implicitDefEqProofs only[go_sem,seval,↓reduceIte,zV,Tm.pvs_len,hc,Y0,Yc (Zg _),yF (Zg _)];rw[hk,hnm];exact kX _ _ _ [] _ rfl rfl
  ·have hk':=Zl hk;rw[Gy hk];obtain⟨ts',hts'⟩:∃ts',ts'=t.args.map (Tm.sub (cPos L)):=⟨_,rfl⟩;have htl:ts'.length=t.args.length:=by rw[hts',ZO]
   rw[<-hts'];simp -dsimp -implicitDefEqProofs only[go_sem,seval,↓reduceIte,Tm.av,Ya,Yh,Ye,zV,Tm.pvs_len,hk',hb,Yc (Zg _)];refine Yv (α:=Unit) t.args.length (fun _ _=>True) (fun i _=>⟨[(0,.pv none (.sl none (ints L))),(3,.ptr 0 0),(4,.ptr 1 0),(5,.ptr 3 0),(6,O8 i)],appN t ts' i⟩) () ⟨trivial,rfl⟩ ?_ ?_
   ·rintro i - h -;have hc:(i:Int)<(t.args.length:Int):=by omega
    obtain⟨u,hu⟩:∃u,t.args[i]? =some u:=⟨_,Zf h⟩;have hum:=Zk hu;have husz:=Tm.zyQ hum;have hcall:=fun hp=>ih u hum hp (Tm.zyP hf hum) (by omega) fun w hw=>ho w (Tm.zy7 hk hum hw);simp only[Tm.av] at hcall;have w2:=O0 i (by omega)
    have hl:(Tm.pvs (ts'.take i)).length=i:=by rw[Tm.pvs_len,Zn];omega
    have hlim:i+1<=lim:=by unfold lim;omega
    have hus:ts'[i]? =some (Tm.sub (cPos L) u):=by rw[hts'];simp[hu]
    simp -dsimp -implicitDefEqProofs only[go_sem,seval,↓reduceIte,appN,zV,Tm.pvs_len,hc,zY (Tm.pvs_get hu),hcall,w2,hl,hlim,Tm.zyT hus,Yc (Zg _),yF (Zg _)];exact⟨(),rfl⟩
   ·rintro - -;have hc:¬(t.args.length:Int)<(t.args.length:Int):=by omega
    have htk:ts'.take t.args.length=ts':=Zp (by omega);simp -dsimp -implicitDefEqProofs only[go_sem,seval,↓reduceIte,appN,zV,Tm.pvs_len,hc,htk,Y0,Yc (Zg _),yF (Zg _)];exact kX _ _ _ (Tm.pvs ts') _ (by rw[Tm.pvs_len,htl]) rfl
theorem NU{s:AV}{H:Heap}{l:List Int}(h:IsV s H l):s.alone H=some (.pv none (.sl none (ints l))):=by
 rcases h with⟨rfl,rfl⟩|⟨r,rfl,h⟩
 ·rfl
 ·simp[AV.alone,AV.bare,AV.freeze,deep,h,yz,AV.shp]
theorem Vw(t:Tm)(hp:Heap)(ht:t.size<1000000000):S 90 [t.av] hp=some (.ret (canR t).av,hp):=by
 refine Yb rfl rfl rfl (Yd [(some 4,t.pv)]) rfl ?_;have h1:=fun hp=>yS t hp ht;unfold canR;by_cases hv:t.valid=true
 ·rw[Zb hv];have hsz:=valid_size hv;obtain⟨s',H',hcall,hI,_,_⟩:=M7 t (.tsl none []) [] [] (.inl ⟨rfl,rfl⟩) (valid_fits hv) (by simp;omega);have ha:=NU hI;have hll:=Ji t.occ [];have hol:=Tm.occ_len t;have hnum:=fun hp=>NT (vads [] t.occ) (by simp only[zn] at hll;omega) t hp (valid_fits hv) ht fun w hw=>(Gf t.occ [] w).2 (.inr hw);rw[hv] at h1;have e:Tm.sub (cPos (vads [] t.occ)) t=canT t:=rfl;rw[e] at hnum;generalize canT t=c at hnum ⊢;generalize vads [] t.occ=l at*;simp only[Tm.av] at h1 hcall hnum;simp -dsimp -implicitDefEqProofs only[go_sem,seval,↓reduceIte,Tm.av,h1,hcall,ha,hnum,Yc (Zg _)]
 ·rw[Za hv];have hv':t.valid=false:=by simpa using hv
  rw[hv'] at h1;simp only[Tm.av] at h1;have hb0:=O4;simp -dsimp -implicitDefEqProofs only[go_sem,seval,↓reduceIte,Tm.av,h1,hb0,Yc (Zg _),zt];exact⟨_,rfl⟩
theorem NV(a b:Tm)(hp:Heap)(ha:a.size<1000000000)(hb:b.size<1000000000):S 39 [a.av,b.av] hp=some (.ret (O9 (vari a b)),hp):=by
 refine Yb rfl rfl rfl (Yd [(some 4,a.pv),(some 4,b.pv)]) rfl ?_;have h1:=fun hp=>yS a hp ha;have h2:=fun hp=>yS b hp hb;simp only[Tm.av] at h1 h2;unfold vari;by_cases va:a.valid=true
 ·by_cases vb:b.valid=true
  ·have h4:=fun hp=>Vw a hp ha;have h5:=fun hp=>Vw b hp hb;have hs:=Vv va;have h3:=fun hp=>kI (canT a) (canT b) hp (by omega);rw[canR,Zb va] at h4;rw[canR,Zb vb] at h5;simp only[Tm.av] at h3 h4 h5
   (repeat' (first|(simp -dsimp -implicitDefEqProofs only[go_sem,seval,↓reduceIte, *])|(refine YI (fun _=> ?_) (fun _=> ?_))))
  ·(repeat' (first|(simp -dsimp -implicitDefEqProofs only[go_sem,seval,↓reduceIte, *])|(refine YI (fun _=> ?_) (fun _=> ?_))))
 ·(repeat' (first|(simp -dsimp -implicitDefEqProofs only[go_sem,seval,↓reduceIte, *])|(refine YI (fun _=> ?_) (fun _=> ?_))))
theorem uniV{V:List Int}:∀(n:Nat) (l:List B) (r:List (Tm × Tm)),OKB l->(∀p∈r,p.1.valid=true/\p.2.valid=true)->InVB V l->(∀p∈r,InV V p.1/\InV V p.2)->InVB V (uni n l r).1
 |n,l,[],_,_,hl,_=>by rw[qr];exact hl
 |0,l,p::r,_,_,_,_=>by rw[jH];exact fun b hb=>by cases hb
 |n+1,l,p::r,hO,hr,hl,hp=>by
  have hv:=hr p Zv;have hi:=hp p Zv;have hx:=Xf hO hv.1;have hy:=Xf hO hv.2;have ix:=InV.flw hO hl _ _ rfl hv.1 hi.1;have iy:=InV.flw hO hl _ _ rfl hv.2 hi.2;have hr2:=fun q hq=>hr q (Zu _ hq);have hp2:=fun q hq=>hp q (Zu _ hq);cases e:ustep l (flw l p.1) (flw l p.2) with
  |err e'=>rw[jI r e];exact fun b hb=>by cases hb
  |bind v t=>
   rw[qt r e];obtain⟨b1,b2,b3,b4⟩:=Jp hO hx hy e;refine uniV n (insB l v t) r (Jo hO b1 b2 b3 b4) hr2 (fun b hb=> ?_) hp2;rcases QE hb with rfl|h
   ·exact GY ix iy e
   ·exact hl b h
  |args xs=>
   rw[X9 r e];exact uniV n l (xs++r) hO (fun q hq=>(Zr.1 hq).elim ((Vi hx hy e).1 q) (hr2 q)) hl fun q hq=>(Zr.1 hq).elim (GZ ix iy e q) (hp2 q)
theorem gr{V:List Int}{l:List B}{a b:Tm}(hl:InVB V l)(ha:InV V a)(hb:InV V b):InVB V (unR l a b).1:=by
 unfold unR;split
 ·rename_i h;refine uniV _ _ _ (okb_iff.1 h.1) (fun p hp=> ?_) hl fun p hp=> ?_
  ·rw[ZV] at hp;rw[hp];exact h.2
  ·rw[ZV] at hp;rw[hp];exact⟨ha,hb⟩
 ·exact fun b hb=>by cases hb
theorem Vx(l:List B)(a b:Tm):OKB (unR l a b).1:=by
 unfold unR;split
 ·rename_i h;refine(Vj _ _ _ (okb_iff.1 h.1) fun p hp=> ?_).1;rw[ZV] at hp;rw[hp];exact h.2
 ·exact QM
def Yg(t:Tm):Tm:=(t.args[1]?).getD (.mk 0 0 [] [])
def prT(k t:Tm):Tm:=.mk 3 0 [45] [k,t]
noncomputable def gU(key:Tm):List B->List Tm->Option (List B)
 |s,[]=>some s
 |s,p::r=>if(unR s (z8 p) key).2=0 then gU key (unR s (z8 p) key).1 r else none
noncomputable def grp(p:Tm)(r:List Tm):Option Tm:=
 match gU (z8 p) [] r with
 |none=>none
 |some s=>if(rsR s (z8 p)).2=0/\(∀t∈p::r,(rsR s (Yg t)).2=0)/\(prT (rsR s (z8 p)).1 (lst ((p::r).map fun t=>(rsR s (Yg t)).1))).size<=2000 then some (prT (rsR s (z8 p)).1 (lst ((p::r).map fun t=>(rsR s (Yg t)).1))) else none
def jP:Option Tm->Option (List Tm)->Option (List Tm)
 |none,_=>none
 |some t,g=>g.map (t::·)
noncomputable def grps:Nat->List Tm->Option (List Tm)
 |_,[]=>some []
 |0,_::_=>some []
 |n+1,p::r=>jP (grp p (r.filter fun q=>vari (z8 q) (z8 p))) (grps n (r.filter fun q=> !vari (z8 q) (z8 p)))
def ofG:Option (List Tm)->List Tm × Int
 |some l=>(l,0)
 |none=>([],2)
noncomputable def YL(ts:List Tm):List Tm × Int:=if YU ts=0 then ofG (grps (Yo ts).length (Yo ts)) else([],YU ts)
theorem Vy{s:List B}{t:Tm}(h:(rsR s t).2=0):(rsR s t).1.valid=true/\(rsR s t).1.size<=2000:=by
 unfold rsR at h ⊢;split
 ·rename_i hc;rw[Zb hc] at h;split
  ·rename_i hz;exact⟨QG (MW (okb_iff.1 hc.1) _ t rfl (valid_fits hc.2)) hz,hz⟩
  ·rename_i hz;rw[Za hz] at h;cases h
 ·rename_i hc;rw[Za hc] at h;cases h
theorem Vz:∀l:List Tm,(∀t∈l,t.fits=true)->(lst l).fits=true
 |[],_=>by decide
 |x::r,h=>by
  have ih:=Vz r fun w hw=>h w (Zu _ hw);have hv:=h x Zv;show(xw x (lst r)).fits=true;simp[xw,Tm.fits,Tm.fitsAll,Tm.node,ih,hv,Tm.kind,Tm.n,Tm.name,Tm.args]
theorem Jt:∀(l:List Tm) (m:Nat),(∀t∈l,t.size<=m)->(lst l).size<=(m+1)*l.length+1
 |[],_,_=>by show 1<=_;omega
 |x::r,m,h=>by
  have ih:=Jt r m fun w hw=>h w (Zu _ hw);have hx:=h x Zv;show 1+(x.size+((lst r).size+0))<=(m+1)*(r.length+1)+1;rw[Nat.mul_succ];omega
theorem gt{k t:Tm}(hk:k.fits=true)(ht:t.fits=true):(prT k t).fits=true:=by
 simp[prT,Tm.fits,Tm.fitsAll,Tm.node,hk,ht,Tm.kind,Tm.n,Tm.name,Tm.args]
theorem gu{p:Tm}{r:List Tm}{t:Tm}(h:grp p r=some t):t.valid=true:=by
 unfold grp at h;split at h
 ·cases h
 ·rename_i s _;split at h
  ·rename_i hc;cases h;refine QG (gt (valid_fits (Vy hc.1).1) (Vz _ fun x hx=> ?_)) hc.2.2;obtain⟨q,hq,rfl⟩:=Z2.1 hx;exact valid_fits (Vy (hc.2.1 q hq)).1
  ·cases h
theorem gv:∀(n:Nat) (l:List Tm) (g:List Tm),grps n l=some g->∀t∈g,t.valid=true
 |_,[],g,h=>by rw[grps] at h;cases h;exact fun t ht=>by cases ht
 |0,_::_,g,h=>by rw[grps] at h;cases h;exact fun t ht=>by cases ht
 |n+1,p::r,g,h=>by
  rw[grps] at h;cases ht:grp p (r.filter fun q=>vari (z8 q) (z8 p)) with
  |none=>rw[ht] at h;cases h
  |some t=>
   rw[ht] at h;cases e:grps n (r.filter fun q=> !vari (z8 q) (z8 p)) with
   |none=>rw[e] at h;cases h
   |some g'=>
    rw[e] at h;cases h;intro u hu;rcases Zt.1 hu with rfl|hu
    ·exact gu ht
    ·exact gv n _ g' e u hu
theorem NW(ts:List Tm):∀t∈(YL ts).1,t.valid=true:=by
 unfold YL;split
 ·cases h:grps (Yo ts).length (Yo ts) with
  |some l=>exact gv _ _ _ h
  |none=>exact fun t ht=>by cases ht
 ·exact fun t ht=>by cases ht
def swp(p:Tm × Tm):Tm × Tm:=(p.2,p.1)
def shp(t:Tm):Tm:=Tm.sub (fun _=>tvar 0) t
theorem NX(f g:Int->Tm):∀t:Tm,Tm.sub f (Tm.sub g t)=Tm.sub (fun v=>Tm.sub f (g v)) t:=by
 intro t
 induction t using Tm.zyR with
 |h t ih=>
  rw[Tm.zyX g t,Tm.zyX (fun v=>Tm.sub f (g v)) t];by_cases hk:t.kind=0
  ·rw[Zb hk,Zb hk]
  ·rw[Za hk,Za hk,Tm.zyX,Za (by exact hk)];show Tm.mk t.kind t.n t.name ((t.args.map (Tm.sub g)).map (Tm.sub f))=_;rw[List.map_map]
   congr 1
   exact List.map_congr_left fun u hu=>ih u hu
theorem gw(t:Tm):shp (canT t)=shp t:=NX _ _ t
theorem NY{a b:Tm}(h:vari a b=true):shp a=shp b:=by
 unfold vari at h;simp only[Zm,Zz] at h;rw[<-gw a,<-gw b,Tm.cmp_zero.1 h.2.2]
theorem NZ{a b:Tm}(h:vari a b=true):a.valid=true/\b.valid=true:=by
 unfold vari at h;simp only[Zm] at h;exact⟨h.1,h.2.1⟩
theorem gz(a b:Tm):vari a b=vari b a:=by
 have h:∀x y:Tm,decide (x.cmp y=0)=decide (y.cmp x=0):=fun x y=>by
  rw[Bool.eq_iff_iff,Zz,Zz,Tm.cmp_zero,Tm.cmp_zero];exact eq_comm
 unfold vari;rw[h (canT a) (canT b)];cases a.valid <;> cases b.valid <;> rfl
theorem jQ{t:Tm}:(shp t).kind=t.kind:=by
 unfold shp;rw[Tm.zyX];split
 ·rename_i h;rw[h];rfl
 ·rfl
theorem gA{t:Tm}(hk:¬t.kind=0):shp t=.mk t.kind t.n t.name (t.args.map shp):=by
 unfold shp;rw[Tm.zyX,Za hk]
def VV(l:List B):Prop:=∀b∈l,b.2.kind=0
theorem gB{l:List B}(hO:OKB l)(hv:VV l):∀(k:Nat) (t:Tm),mu l t=k->t.valid=true->t.kind=0->(flw l t).kind=0:=by
 intro k
 induction k using Nat.strongRecOn with
 |_ k ih=>
  intro t hk hval hk0;by_cases hf:fndB l t.n=true
  ·rw[QH hO.Acyc hk0 hf];have:=yZ hO.Acyc hk0 hf;exact ih _ (by omega) _ rfl (hO.to hf).1 (hv _ (find_mem hf))
  ·rw[QI hO.Acyc (valid_fits hval) hk0 hf];exact hk0
def wsum(r:List (Tm × Tm)):Nat:=(r.map fun p=>p.1.size).sum
theorem gD:∀(a b:List Tm),a.length=b.length->wsum (a.zip b)=Tm.sizes a
 |[],[],_=>rfl
 |x::a,y::b,h=>by
  have ih:=gD a b (by simpa using h);unfold wsum at ih ⊢;simp only[List.zip_cons_cons,ZP,List.sum_cons,ih,Tm.sizes]
 |[],_::_,h=>by cases h
theorem gE:∀{a b:List Tm},a.map shp=b.map shp->∀p∈a.zip b,shp p.1=shp p.2
 |[],_,_,p,hp=>by simp at hp
 |x::a,[],h,p,hp=>by simp at hp
 |x::a,y::b,h,p,hp=>by
  simp only[ZP,List.cons.injEq] at h;rw[List.zip_cons_cons] at hp;rcases Zt.1 hp with rfl|hp
  ·exact h.1
  ·exact gE h.2 p hp
theorem jR:∀(n:Nat) (l:List B) (r:List (Tm × Tm)),OKB l->VV l->(∀p∈r,(p.1.valid=true/\p.2.valid=true)/\shp p.1=shp p.2)->wsum r<=n->∃l',uni n l r=(l',0)/\uni n l (r.map swp)=(l',0)/\VV l'
 |n,l,[],_,hv,_,_=>⟨l,qr n l,qr n l,hv⟩
 |0,l,p::r,_,_,_,hw=>by
  have:=p.1.size_eq;unfold wsum at hw;simp only[ZP,List.sum_cons] at hw;omega
 |n+1,l,p::r,hO,hv,hr,hw=>by
  obtain⟨⟨v1,v2⟩,hs⟩:=hr p Zv;have hr2:=fun q hq=>hr q (Zu _ hq);have hx:=Xf hO v1;have hy:=Xf hO v2;have hsz:=p.1.size_eq;have hws:wsum (p::r)=p.1.size+wsum r:=by unfold wsum;simp
  rw[ZP];by_cases hk:p.1.kind=0
  ·have hk2:p.2.kind=0:=by rw[<-jQ,<-hs,jQ];exact hk
   have fx:=gB hO hv _ _ rfl v1 hk;have fy:=gB hO hv _ _ rfl v2 hk2;have bnd:∀{v:Int} {t:Tm},ustep l (flw l p.1) (flw l p.2)=.bind v t->ustep l (flw l p.2) (flw l p.1)=.bind v t->t.kind=0->∃l',uni (n+1) l (p::r)=(l',0)/\uni (n+1) l (swp p::r.map swp)=(l',0)/\VV l':=fun{v t} e e' ht=>by
    obtain⟨b1,b2,b3,b4⟩:=Jp hO hx hy e;obtain⟨l',h1,h2,h3⟩:=jR n (insB l v t) r (Jo hO b1 b2 b3 b4) (fun b hb=>by
     rcases QE hb with rfl|h
     ·exact ht
     ·exact hv b h) hr2 (by omega)
    exact⟨l',by rw[qt r e];exact h1,by rw[qt (p:=swp p) (r.map swp) e'];exact h2,h3⟩
   by_cases h1:(flw l p.2).n<(flw l p.1).n
   ·have h2:¬(flw l p.1).n<(flw l p.2).n:=by omega
    refine bnd (v:=(flw l p.1).n) (t:=flw l p.2) ?_ ?_ fy
    ·unfold ustep;rw[Zb ⟨fx,fy⟩,Zb h1]
    ·unfold ustep;rw[Zb ⟨fy,fx⟩,Za h2,Zb h1]
   ·by_cases h2:(flw l p.1).n<(flw l p.2).n
    ·refine bnd (v:=(flw l p.2).n) (t:=flw l p.1) ?_ ?_ fx
     ·unfold ustep;rw[Zb ⟨fx,fy⟩,Za h1,Zb h2]
     ·unfold ustep;rw[Zb ⟨fy,fx⟩,Zb h2]
    ·have e:ustep l (flw l p.1) (flw l p.2)=.args []:=by unfold ustep;rw[Zb ⟨fx,fy⟩,Za h1,Za h2]
     have e':ustep l (flw l p.2) (flw l p.1)=.args []:=by unfold ustep;rw[Zb ⟨fy,fx⟩,Za h2,Za h1]
     obtain⟨l',h3,h4,h5⟩:=jR n l r hO hv hr2 (by omega);exact⟨l',by rw[X9 r e];exact h3,by rw[X9 (p:=swp p) (r.map swp) e'];exact h4,h5⟩
  ·have hk2:¬p.2.kind=0:=by rw[<-jQ,<-hs,jQ];exact hk
   have hs2:=hs;rw[gA hk,gA hk2] at hs2;injection hs2 with s1 s2 s3 s4
   have s5:p.1.args.length=p.2.args.length:=by have:=congrArg List.length s4;simpa using this
   have f1:=xV l hk;have f2:=xV l hk2;have e:ustep l (flw l p.1) (flw l p.2)=.args (p.1.args.zip p.2.args):=by rw[f1,f2];unfold ustep;rw[Za (fun h=>hk h.1),Za hk,Za hk2,Zb ⟨s1,s2,s3,s5⟩]
   have e':ustep l (flw l p.2) (flw l p.1)=.args (p.2.args.zip p.1.args):=by rw[f1,f2];unfold ustep;rw[Za (fun h=>hk2 h.1),Za hk2,Za hk,Zb ⟨s1.symm,s2.symm,s3.symm,s5.symm⟩]
   have ez:p.2.args.zip p.1.args=(p.1.args.zip p.2.args).map swp:=by
    have key:∀a b:List Tm,b.zip a=(a.zip b).map swp:=fun a=>by
     induction a with
     |nil=>intro b;cases b <;> rfl
     |cons x r ih=>
      intro b;cases b with
      |nil=>rfl
      |cons y s=>simp only[List.zip_cons_cons,ZP,ih];rfl
    exact key _ _
   have hwz:wsum (p.1.args.zip p.2.args++r)=Tm.sizes p.1.args+wsum r:=by
    rw[<-gD p.1.args p.2.args s5];unfold wsum;rw[List.map_append,List.sum_append]
   obtain⟨l',h3,h4,h5⟩:=jR n l (p.1.args.zip p.2.args++r) hO hv (fun q hq=>by
    rcases Zr.1 hq with hq|hq
    ·have:=List.of_mem_zip hq;exact⟨⟨YK v1 this.1,YK v2 this.2⟩,gE s4 q hq⟩
    ·exact hr2 q hq) (by omega)
   refine⟨l',by rw[X9 r e];exact h3,?_,h5⟩;rw[X9 (p:=swp p) (r.map swp) e',ez,<-List.map_append];exact h4
theorem N0{l:List B}(hO:OKB l)(hv:VV l){a b:Tm}(h:vari a b=true):∃l',unR l a b=(l',0)/\unR l b a=(l',0)/\VV l'/\OKB l':=by
 obtain⟨va,vb⟩:=NZ h;obtain⟨l',h1,h2,h3⟩:=jR 1048576 l [(a,b)] hO hv (fun p hp=>by
  rw[ZV] at hp;rw[hp];exact⟨⟨va,vb⟩,NY h⟩) (by
  have:=valid_size va;show a.size+0<=_;omega)
 have e1:unR l a b=(l',0):=by unfold unR;rw[Zb ⟨okb_iff.2 hO,va,vb⟩];exact h1
 have e2:unR l b a=(l',0):=by unfold unR;rw[Zb ⟨okb_iff.2 hO,vb,va⟩];exact h2
 have:=Vx l a b;rw[e1] at this;exact⟨l',e1,e2,h3,this⟩
noncomputable def ye(w:Tm):List B->List Tm->List B
 |s,[]=>s
 |s,q::r=>ye w (unR s w (z8 q)).1 r
theorem gF(w:Tm)(q:Tm):∀(r:List Tm) (s:List B),ye w s (r++[q])=(unR (ye w s r) w (z8 q)).1
 |[],s=>rfl
 |x::r,s=>gF w q r _
theorem gG(w:Tm):∀(r:List Tm) (s:List B),OKB s->VV s->(∀q∈r,vari (z8 q) w=true)->gU w s r=some (ye w s r)/\OKB (ye w s r)/\VV (ye w s r)
 |[],s,hO,hv,_=>⟨rfl,hO,hv⟩
 |q::r,s,hO,hv,h=>by
  obtain⟨l',e1,e2,h3,h4⟩:=N0 hO hv (h q Zv);rw[gU,ye,e1,e2,Zb rfl];exact gG w r l' h4 h3 fun x hx=>h x (Zu _ hx)
theorem gI{l:List B}(hO:OKB l)(hv:VV l):∀(k:Nat) (t:Tm),mu l t=k->t.fits=true->(rs l t).size=t.size:=by
 intro k
 induction k using Nat.strongRecOn with
 |_ k ih=>
  intro t hk hf;by_cases hk0:t.kind=0
  ·have ht:t.size=1:=by rw[yn hf hk0];rfl
   by_cases hfd:fndB l t.n=true
   ·rw[QF hO.Acyc hk0,Zb hfd];have h1:=yZ hO.Acyc hk0 hfd;have h2:=valid_fits (hO.to hfd).1;rw[ih _ (by omega) _ rfl h2,ht,yn h2 (hv _ (find_mem hfd))];rfl
   ·rw[qk hO.Acyc hf hk0 hfd]
  ·rw[xu l hk0,Tm.size_eq,t.size_eq]
   congr 1
   show Tm.sizes (t.args.map (rs l))=_;have hargs:∀u∈t.args,(rs l u).size=u.size:=fun u hu=>ih _ (by have:=xr l hk0 hu;omega) u rfl (Tm.zyP hf hu);generalize t.args=ts at hargs
   induction ts with
   |nil=>rfl
   |cons x r ihl=>rw[ZP,Tm.sizes,Tm.sizes,hargs x Zv,ihl fun u hu=>hargs u (Zu _ hu)]
theorem gJ(l:List B):∀ts:List Tm,rs l (lst ts)=lst (ts.map (rs l))
 |[]=>xu l (by decide)
 |x::r=>by
  show rs l (xw x (lst r))=xw (rs l x) (lst (r.map (rs l)));rw[<-gJ l r];exact xu l (by show ¬(3:Int)=0;decide)
theorem N1(l:List B)(k t:Tm):rs l (prT k t)=prT (rs l k) (rs l t):=xu l (by show ¬(3:Int)=0;decide)
theorem jS{l:List B}(hO:OKB l)(hv:VV l){t:Tm}(h:t.valid=true):rsR l t=(rs l t,0):=by
 unfold rsR;rw[Zb ⟨okb_iff.2 hO,h⟩,Zb (by rw[gI hO hv _ t rfl (valid_fits h)];exact valid_size h)]
def grpT(p:Tm)(r:List Tm):Tm:=prT (z8 p) (lst ((p::r).map Yg))
theorem Ju{t:Tm}(h:Yj t=true)(hv:t.valid=true):(Yg t).valid=true:=by
 obtain⟨a,b,e⟩:=Jr h;exact YK hv (by unfold Yg;rw[e];simp)
theorem gK{p:Tm}{r:List Tm}(hp:∀q∈p::r,Yj q=true/\q.valid=true):(grpT p r).fits=true:=by
 have h0:=hp p Zv;refine gt (valid_fits (YK h0.2 (Xq h0.1))) (Vz _ fun t ht=> ?_);obtain⟨q,hq,rfl⟩:=Z2.1 ht;exact valid_fits (Ju (hp q hq).1 (hp q hq).2)
theorem N2{p:Tm}{r:List Tm}(hp:∀q∈p::r,Yj q=true/\q.valid=true)(hv:∀q∈r,vari (z8 q) (z8 p)=true):
  OKB (ye (z8 p) [] r)/\VV (ye (z8 p) [] r)/\grp p r=if(grpT p r).valid=true then some (rs (ye (z8 p) [] r) (grpT p r)) else none:=by
 obtain⟨h1,h2,h3⟩:=gG (z8 p) r [] QM (fun b hb=>by cases hb) hv;refine⟨h2,h3,?_⟩;unfold grp;rw[h1];dsimp only;generalize ye (z8 p) [] r=s at*;have h0:=hp p Zv;have hk:=YK h0.2 (Xq h0.1);have hit:∀q∈p::r,rsR s (Yg q)=(rs s (Yg q),0):=fun q hq=>jS h2 h3 (Ju (hp q hq).1 (hp q hq).2);have hmap:((p::r).map fun t=>(rsR s (Yg t)).1)=((p::r).map Yg).map (rs s):=by
  rw[List.map_map];exact List.map_congr_left fun q hq=>by rw[hit q hq];rfl
 have e1:prT (rsR s (z8 p)).1 (lst ((p::r).map fun t=>(rsR s (Yg t)).1))=rs s (grpT p r):=by
  rw[jS h2 h3 hk,hmap,<-gJ,grpT,N1]
 rw[e1,gI h2 h3 _ _ rfl (gK hp)];have hf:=gK hp;by_cases hz:(grpT p r).size<=2000
 ·rw[Zb ⟨by rw[jS h2 h3 hk],fun t ht=>by rw[hit t ht],hz⟩,Zb (QG hf hz)]
 ·rw[Za (fun h=>hz h.2.2),Za (fun h=>hz (valid_size h))]
def GrpV(o:Option Tm)(v:AV):Prop:=match o with
 |some t=>v=.tuple [t.av,O8 0]
 |none=>∃e:Int,e≠0/\v=.tuple [zt.av,O8 e]
theorem jT{e:Int}(h:e≠0):GrpV none (.tuple [zt.av,O8 e]):=⟨e,h,rfl⟩
theorem N3(nm:List UInt8)(x y:Tm)(hp:Heap):S 51 [Oh nm,.pv none (.sl (some 4) [x.pv,y.pv])] hp=some (.ret (Tm.mk 3 0 nm [x,y]).av,hp):=by
 refine Yb (ps:=[(none,.str nm),(none,.sl (some 4) [x.pv,y.pv])]) rfl rfl rfl rfl rfl ?_;have hb:Ym A0 [0,2,3] [O8 3,Oh nm,.pv none (.sl (some 4) [x.pv,y.pv])]=some (.pv (some 4) (Tm.mk 3 0 nm [x,y]).pv):=rfl;simp -dsimp -implicitDefEqProofs only[go_sem,seval,↓reduceIte,hb]
 try rfl
theorem N4{s:Nat}{r:List Nat}{fr:Fr}{a0 a1 a2 a3 a4 a5 a6 a7:AObj}{es:List PV}{X:Heap}:xm s r ⟨fr,a0::a1::a2::a3::a4::a5::a6::a7::.arr (some 4) es false::X⟩ (some (.sl (some 4) 8 es.length 0 es.length))=Am.settle r ⟨(s,.pv none (.sl (some 4) es))::fr,a0::a1::a2::a3::a4::a5::a6::a7::.arr (some 4) es true::X⟩:=by
 simp[xm,AV.freeze,deep]
theorem y0{n:Nat}{fr:Fr}{xs:Heap}(ho:(xs.take n).all (fun o=>o.refs.all (fun q=>decide (q<n)))=true)(hf:fr.all (fun x=>x.2.refsIn.all (fun q=>decide (q<n)))=true):collect n 0 fr xs=xs.take n:=by
 unfold collect;rw[Z4,Zb (by rw[hf,ho];rfl)]
def s5G(i:Nat)(s:List B):AV:=if i<=1 then .sl (some 5) 4 0 0 0 else .pv none (.sl (some 5) (bds s))
def gH(key:Tm)(fz:Bool)(items:List Tm):Heap:=[.box (some 4) (.agg [(none,O8 0),(none,O8 0),(none,Oh []),(none,.sl (some 4) 1 0 0 0)]),.arr (some 4) [] false,.box (some 4) (.pv (some 4) key.pv),.arr (some 4) [] false,.arr (some 5) [] fz,.arr (some 4) (Tm.pvs items) false]
theorem xX{t:Tm}(h:Yj t=true):(Tm.pvs t.args)[0]? =some (z8 t).pv/\(Tm.pvs t.args)[1]? =some (Yg t).pv/\Yg t∈t.args:=by
 obtain⟨a,b,e⟩:=Jr h;refine⟨Tm.pvs_get (by unfold z8;rw[e];rfl),Tm.pvs_get (by unfold Yg;rw[e];rfl),?_⟩;unfold Yg;rw[e];simp
theorem frz5(a0 a1 a2 a3:AObj)(fz:Bool)(X:Heap)(x y:PV):Yi [.sl (some 5) 4 0 0 0,.pv (some 4) x,.pv (some 4) y] (a0::a1::a2::a3::.arr (some 5) [] fz::X)=some ([(none,.sl (some 5) []),(some 4,x),(some 4,y)],a0::a1::a2::a3::.arr (some 5) [] true::X):=by
 rw[qa (show XI 0 ((a0::a1::a2::a3::AObj.arr (some 5) [] fz::X)[4]?) from rfl)];rfl
theorem gL(a0 a1 a2 a3:AObj)(fz:Bool)(X:Heap)(x:PV):Yi [.sl (some 5) 4 0 0 0,.pv (some 4) x] (a0::a1::a2::a3::.arr (some 5) [] fz::X)=some ([(none,.sl (some 5) []),(some 4,x)],a0::a1::a2::a3::.arr (some 5) [] true::X):=by
 rw[qa (show XI 0 ((a0::a1::a2::a3::AObj.arr (some 5) [] fz::X)[4]?) from rfl)];rfl
theorem Jv(x:Tm)(q:AV):(AV.tuple [x.av,q]).scalar=false:=by cases x;rfl
theorem O6:∀(H:Heap),YB (some 4) H=some (.sl (some 4) H.length 0 0 0,H++[.arr (some 4) [] false]):=fun H=>YA (sh:=some 4) (by decide)
theorem O7:∀(H:Heap),YB (some 5) H=some (.sl (some 5) H.length 0 0 0,H++[.arr (some 5) [] false]):=fun H=>YA (sh:=some 5) (by decide)
theorem N5(p:Tm)(r:List Tm)(V:List Int)(hV:V.length<=200000)(hps:∀q∈p::r,Yj q=true/\q.valid=true)(hVk:∀q∈p::r,InV V (z8 q))(hl:r.length<100000):
  ∃v,(∀hp,S 37 [.pv none (.sl (some 4) (Tm.pvs (p::r)))] hp=some (.ret v,hp))/\GrpV (grp p r) v:=by
 obtain⟨ps,hpe⟩:∃ps,ps=p::r:=⟨_,rfl⟩;have hp0:ps[0]? =some p:=by rw[hpe];rfl
 have hpl:ps.length=r.length+1:=by rw[hpe];rfl
 have hpn:∀j,ps[j+1]? =r[j]? :=fun j=>by rw[hpe];rfl
 rw[<-hpe] at hps hVk;rw[<-hpe];refine Jg _ rfl rfl rfl (fun hp=>Yd [(none,.sl (some 4) (Tm.pvs ps))]) rfl ?_;have hn4:=O6;have hn5:=O7;have hb0:=O4;have hpp:=hps p (Zk hp0);obtain⟨g0,_,_⟩:=xX hpp.1;have hkv:(z8 p).valid=true:=YK hpp.2 (Xq hpp.1);have hks:=valid_size hkv;have hgn:∀s,gU (z8 p) [] r=some s->grp p r=(if(rsR s (z8 p)).2=0/\(∀t∈ps,(rsR s (Yg t)).2=0)/\(prT (rsR s (z8 p)).1 (lst (ps.map fun t=>(rsR s (Yg t)).1))).size<=2000 then some (prT (rsR s (z8 p)).1 (lst (ps.map fun t=>(rsR s (Yg t)).1))) else none):=fun s h=>by
  rw[hpe];unfold grp;rw[h]
 have hgz:gU (z8 p) [] r=none->grp p r=none:=fun h=>by
  unfold grp;rw[h]
 have hVp:=hVk p (Zk hp0);generalize grp p r=G at hgn hgz ⊢;obtain⟨key,hkey⟩:∃key,key=z8 p:=⟨_,rfl⟩;rw[<-hkey] at g0 hkv hks hgn hgz hVp;simp -dsimp -implicitDefEqProofs only[go_sem,seval,↓reduceIte,hn4,hn5,Tm.pvs_len,yc (Tm.pvs_get hp0),zV,yc g0];refine Yv (α:=List B) ps.length (fun i s=>OKB s/\InVB V s/\(i<=1->s=[])/\gU key [] r=gU key s (r.drop (i - 1))) (fun i s=>⟨[(2,.ptr 0 0),(4,.ptr 2 0),(5,s5G i s),(6,.sl (some 4) 5 i 0 i),(25,.pv none (.sl (some 4) (Tm.pvs ps))),(26,O8 ps.length),(27,O8 i)],gH key (decide (1<i)) ((ps.take i).map Yg)⟩) [] ⟨⟨QM,(fun b hb=>by cases hb),fun _=>rfl,rfl⟩,rfl⟩ ?_ ?_
 ·rintro i s h ⟨hO,hVs,hs1,hgu⟩;have hc:(i:Int)<(ps.length:Int):=by omega
  obtain⟨u,hu⟩:∃u,ps[i]? =some u:=⟨_,Zf h⟩;have hum:=Zk hu;obtain⟨hup,huv⟩:=hps u hum;obtain⟨u0,u1,u2⟩:=xX hup;have hVu:=hVk u hum;have hk2:(z8 u).valid=true:=YK huv (Xq hup);have hk2s:=valid_size hk2;have q1:=zY (sh:=some 4) (s:=none) (s':=none) (k:=.i64) u1;have q0:=zY (sh:=some 4) (s:=none) (s':=none) (k:=.i64) u0;simp only[show((1:Nat):Int)=1 from rfl,show((0:Nat):Int)=0 from rfl] at q1 q0;have hll:(Tm.pvs ((ps.take i).map Yg)).length=i:=by rw[Tm.pvs_len,ZO,Zn];omega
  have hlim:i+1<=lim:=by unfold lim;omega
  have hap:Tm.pvs ((ps.take i).map Yg)++[(Yg u).pv]=Tm.pvs ((ps.take (i+1)).map Yg):=by rw[ZL,hu];simp[Tm.zyO];rfl
  have w2:=O0 i (by omega)
  cases i with
  |zero=>
   have z:((0:Nat):Int)=0:=rfl;rw[z] at hc w2;simp only[zd,List.map_nil,ZH] at hap hll;simp -dsimp -implicitDefEqProofs only[go_sem,seval,↓reduceIte,List.map_nil,gH,s5G,z,hn4,hn5,hc,yc (Tm.pvs_get hu),zV,q0,q1,hll,hlim,hap,w2];rw[hs1 (by omega)] at hgu;exact⟨[],⟨QM,(fun b hb=>by cases hb),fun _=>rfl,hgu⟩,rfl⟩
  |succ i=>
   have hi0:¬((i+1:Nat):Int)=0:=by omega
   have hur:r[i]? =some u:=by rw[<-hpn];exact hu
   have hdr:r.drop i=u::r.drop (i+1):=by
    obtain⟨q1,e1⟩:=Ze.1 hur;rw[ZS q1,e1]
   have hgu:gU key [] r=gU key s (u::r.drop (i+1)):=by rw[hgu,Nat.add_sub_cancel,hdr]
   rw[gU] at hgu;have hO2:=Vx s (z8 u) key;have hV2:=gr hVs hVu hVp;have hun:=Ni V s (z8 u) key (by omega) hVs hVu hVp (by have:=InVB.len hO.good hVs;omega) (fun b hb=>(hO.good.2 b hb).2) (by omega) (by omega);have hfin:∀{e:Int},e≠0->(unR s (z8 u) key).2=e->GrpV G (.tuple [zt.av,O8 e]):=fun{e} he h=>by
    rw[Za (by rw[h];exact he)] at hgu;rw[hgz hgu];exact jT he
   have hgu2:(unR s (z8 u) key).2=0->gU key [] r=gU key (unR s (z8 u) key).1 (r.drop (i+1)):=fun h=>by rw[hgu,Zb h]
   clear hgu;generalize unR s (z8 u) key=R at*;obtain⟨s2,e⟩:=R;dsimp only at hO2 hV2 hun hfin hgu2;cases i with
   |zero=>
    have hs0:=hs1 (by omega);subst hs0;have hq:=zY (sh:=some 4) (s:=none) (s':=none) (k:=.i64) (Tm.pvs_get hu);simp only[ZH,show((1:Nat):Int)=1 from rfl] at hc hll hlim hap w2 hq;have hcall:=fun(a0 a1 a2 a3:AObj) (X:Heap)=>yG rfl rfl rfl (frz5 a0 a1 a2 a3 false X (z8 u).pv key.pv) (hun []);by_cases he:e=0
    ·have he':=Zj he;simp -dsimp -implicitDefEqProofs only[go_sem,seval,↓reduceIte,gH,s5G,hn4,hn5,hc,hi0,hq,zV,q0,q1,hll,hlim,hap,w2,hcall,he'];exact⟨s2,⟨hO2,hV2,fun h=>by revert h;simp,hgu2 he⟩,rfl⟩
    ·simp -dsimp -implicitDefEqProofs only[go_sem,seval,↓reduceIte,gH,s5G,hn4,hn5,hb0,hc,hi0,hq,zV,q0,q1,hll,hlim,hap,w2,hcall,he,Yc (Zg _)];exact⟨_,XN _ _ _ rfl,hfin he rfl⟩
   |succ i=>
    simp only[Tm.av] at hun;by_cases he:e=0
    ·have he':=Zj he;simp -dsimp -implicitDefEqProofs only[go_sem,seval,↓reduceIte,gH,s5G,hn4,hn5,hc,hi0,zY (Tm.pvs_get hu),zV,q0,q1,hll,hlim,hap,w2,hun,he'];exact⟨s2,⟨hO2,hV2,fun h=>by revert h;simp,hgu2 he⟩,rfl⟩
    ·simp -dsimp -implicitDefEqProofs only[go_sem,seval,↓reduceIte,gH,s5G,hn4,hn5,hb0,hc,hi0,zY (Tm.pvs_get hu),zV,q0,q1,hll,hlim,hap,w2,hun,he,Yc (Zg _)];exact⟨_,XN _ _ _ rfl,hfin he rfl⟩
 ·rintro s ⟨hO,hVs,hs1,hgu⟩;have hc:¬(ps.length:Int)<(ps.length:Int):=by omega
  have hgS:gU key [] r=some s:=by
   rw[hgu,hpl,Nat.add_sub_cancel,zh];rfl
  have hG:=hgn s hgS;clear hgn hgz hgu hgS;have hsl:=InVB.len hO.good hVs;have hpr:=fun t (ht:t.size<1000000000)=>mK s t (by omega) (fun b hb=>(hO.good.2 b hb).2) ht;obtain⟨s5,o4,e1,e2,hr1,hr2,hlow⟩:∃(s5:AV) (o4:AObj),s5G ps.length s=s5/\AObj.arr (some 5) [] (decide (1<ps.length))=o4/\
    (∀t:Tm,t.size<1000000000->∀(a0 a1 a2 a3:AObj) (X:Heap),S 86 [s5,t.av] (a0::a1::a2::a3::o4::X)=some (.ret (.tuple [(rsR s t).1.av,.pv none (.int .i64 (rsR s t).2)]),a0::a1::a2::a3::.arr (some 5) [] true::X))/\
    (∀t:Tm,t.size<1000000000->∀(a0 a1 a2 a3:AObj) (X:Heap),S 86 [s5,t.av] (a0::a1::a2::a3::.arr (some 5) [] true::X)=some (.ret (.tuple [(rsR s t).1.av,.pv none (.int .i64 (rsR s t).2)]),a0::a1::a2::a3::.arr (some 5) [] true::X))/\
    s5.refsIn.all (fun q=>decide (q<9))=true:=by
   by_cases h1:ps.length<=1
   ·have hs0:=hs1 h1;subst hs0;refine⟨.sl (some 5) 4 0 0 0,.arr (some 5) [] false,by unfold s5G;rw[Zb h1],by rw[decide_eq_false (by omega)],fun t ht a0 a1 a2 a3 X=> ?_,fun t ht a0 a1 a2 a3 X=> ?_,rfl⟩
    ·exact(yG rfl rfl rfl (gL a0 a1 a2 a3 false X t.pv) (hpr t ht [])).trans (by rw[Jv];rfl)
    ·exact(yG rfl rfl rfl (gL a0 a1 a2 a3 true X t.pv) (hpr t ht [])).trans (by rw[Jv];rfl)
   ·refine⟨.pv none (.sl (some 5) (bds s)),.arr (some 5) [] true,by unfold s5G;rw[Za h1],by rw[zz (by omega)],fun t ht a0 a1 a2 a3 X=>hpr t ht _,fun t ht a0 a1 a2 a3 X=>hpr t ht _,rfl⟩
  simp only[gH,e1,e2];clear e1 e2 hs1 hpr;have hk1:=hr1 key (by omega);simp only[Tm.av] at hk1;have hrv:=fun t=>Vy (s:=s) (t:=t);by_cases he:(rsR s key).2=0
  rotate_left
  ·rw[Za (fun h=>he h.1)] at hG;generalize rsR s key=R at*;obtain⟨k,e⟩:=R;dsimp only at he hk1;simp -dsimp -implicitDefEqProofs only[go_sem,seval,↓reduceIte,hn4,hn5,hb0,hc,ZC,hk1,he,Yc (Zg _)];rw[hG];exact⟨_,XN _ _ _ rfl,jT he⟩
  ·have hkv2:=hrv key he;obtain⟨k,hk⟩:∃k,k=(rsR s key).1:=⟨_,rfl⟩;have he':=Zj he;rw[<-hk] at hk1 hG hkv2;simp -dsimp -implicitDefEqProofs only[go_sem,seval,↓reduceIte,hn4,hn5,hc,ZC,hk1,he'];refine Yv (α:=Unit) ps.length (fun i _=>∀t∈ps.take i,(rsR s (Yg t)).2=0) (fun i _=>⟨[(2,.ptr 0 0),(5,s5),(11,.ptr 6 0),(13,.sl (some 4) 8 i 0 i),(67,.sl (some 4) 5 ps.length 0 ps.length),(68,O8 ps.length),(69,O8 i)],
    [.box (some 4) (.agg [(none,O8 0),(none,O8 0),(none,Oh []),(none,.sl (some 4) 1 0 0 0)]),.arr (some 4) [] false,.box (some 4) (.pv (some 4) key.pv),.arr (some 4) [] false,.arr (some 5) [] true,.arr (some 4) (Tm.pvs (ps.map Yg)) false,.box (some 4) (.pv (some 4) k.pv),.arr (some 4) [] false,.arr (some 4) (Tm.pvs ((ps.take i).map fun t=>(rsR s (Yg t)).1)) false]⟩) () ⟨(fun t ht=>by cases ht),rfl⟩ ?_ ?_
   ·rintro i - h hall;have hc:(i:Int)<(ps.length:Int):=by omega
    obtain⟨u,hu⟩:∃u,ps[i]? =some u:=⟨_,Zf h⟩;have hum:=Zk hu;obtain⟨hup,huv⟩:=hps u hum;obtain⟨u0,u1,u2⟩:=xX hup;have hk2:(Yg u).valid=true:=YK huv u2;have hk2s:=valid_size hk2;have hcall:=hr2 (Yg u) (by omega);have hug:(Tm.pvs (ps.map Yg))[i]? =some (Yg u).pv:=Tm.pvs_get (by rw[zP,hu];rfl);have hll:(Tm.pvs ((ps.take i).map fun t=>(rsR s (Yg t)).1)).length=i:=by rw[Tm.pvs_len,ZO,Zn];omega
    have hlm:(Tm.pvs (ps.map Yg)).length=ps.length:=by rw[Tm.pvs_len,ZO]
    have hlim:i+1<=lim:=by unfold lim;omega
    have hap:Tm.pvs ((ps.take i).map fun t=>(rsR s (Yg t)).1)++[(rsR s (Yg u)).1.pv]=Tm.pvs ((ps.take (i+1)).map fun t=>(rsR s (Yg t)).1):=by rw[ZL,hu];simp[Tm.zyO];rfl
    have w2:=O0 i (by omega)
    simp only[Tm.av] at hcall;by_cases hue:(rsR s (Yg u)).2=0
    ·have hue':=Zj hue;have hall2:∀t∈ps.take (i+1),(rsR s (Yg t)).2=0:=fun t ht=>by
      rw[ZL,hu] at ht;rcases Zr.1 ht with ht|ht
      ·exact hall t ht
      ·have:t=u:=by simpa using ht
       rw[this];exact hue
     simp -dsimp -implicitDefEqProofs only[go_sem,seval,↓reduceIte,hn4,hn5,hc,Yp h,YX,hug,hcall,hue',hll,hlm,hlim,hap,w2];refine⟨(),hall2,?_⟩;rw[y0 (by simp[AObj.refs,AV.refsIn,AV.refsIn.go]) (by simp[AV.refsIn];simpa using hlow)];rfl
    ·have hGn:G=none:=by rw[hG,Za (fun h=>hue (h.2.1 u hum))]
     generalize rsR s (Yg u)=R at*;obtain⟨x,e⟩:=R;dsimp only at hcall hue;simp -dsimp -implicitDefEqProofs only[go_sem,seval,↓reduceIte,hn4,hn5,hb0,hc,Yp h,YX,hug,hcall,hue,hll,hlm,hlim,w2,Yc (Zg _)];rw[hGn];exact⟨_,XN _ _ _ rfl,jT hue⟩
   ·rintro - hall;rw[ZC] at hall;obtain⟨L,hL⟩:∃L,L=ps.map fun t=>(rsR s (Yg t)).1:=⟨_,rfl⟩;have hLl:L.length=ps.length:=by rw[hL,ZO]
    have hLp:(Tm.pvs L).length=ps.length:=by rw[Tm.pvs_len,hLl]
    have hLs:∀t∈L,t.size<=2000:=fun t ht=>by
     rw[hL] at ht;obtain⟨q,hq,rfl⟩:=Z2.1 ht;exact(hrv _ (hall q hq)).2
    have hls:=Jt L 2000 hLs;rw[ZC,<-hL];rw[<-hL] at hG;have hset:=fun(st:List Nat) (fr:Fr) (a0 a1 a2 a3 a4 a5 a6 a7:AObj) (X:Heap)=>N4 (s:=13) (r:=st) (fr:=fr) (a0:=a0) (a1:=a1) (a2:=a2) (a3:=a3) (a4:=a4) (a5:=a5) (a6:=a6) (a7:=a7) (es:=Tm.pvs L) (X:=X);rw[hLp] at hset;have h1:=fun hp=>Gg L (by omega) hp;have h2:∀hp,S 51 [Oh [45],.pv none (.sl (some 4) [k.pv,(lst L).pv])] hp=some (.ret (prT k (lst L)).av,hp):=fun hp=>N3 [45] k (lst L) hp;have hsz:(prT k (lst L)).size=1+(k.size+(lst L).size):=by
     show 1+(k.size+((lst L).size+0))=_;omega
    have h3:=fun hp=>kH (prT k (lst L)) hp (by omega);simp only[Tm.av] at h1 h2 h3;by_cases hz:(prT k (lst L)).size<=2000
    ·rw[Zb ⟨he,hall,hz⟩] at hG;have hz':¬(2000:Int)<((min (prT k (lst L)).size 2001:Nat):Int):=by omega
     simp -dsimp -implicitDefEqProofs only[go_sem,seval,↓reduceIte,hn4,hn5,hc,hset,h1,h2,h3,hz',Yc (Zg _)];rw[hG];exact⟨_,ju _ _ _ _ _,rfl⟩
    ·rw[Za (fun h=>hz h.2.2)] at hG;have hz':(2000:Int)<((min (prT k (lst L)).size 2001:Nat):Int):=by omega
     simp -dsimp -implicitDefEqProofs only[go_sem,seval,↓reduceIte,hn4,hn5,hb0,hc,hset,h1,h2,h3,hz',Yc (Zg _)];rw[hG];exact⟨_,XN _ _ _ rfl,jT (by decide)⟩
theorem N6{n b:Nat}{fr:Fr}{hp:Heap}(h:fr.all (fun x=>x.2.refsIn.all (fun q=>decide (q<n)))=false):collect n b fr hp=hp:=by
 unfold collect;rw[h];rfl
theorem N7{n b:Nat}{fr:Fr}{H A X:Heap}(h:H.length+A.length=n):∃X',collect n b fr (H++(A++X))=H++(A++X'):=by
 unfold collect;split
 ·refine⟨[],?_⟩;rw[ZF,<-Zd];exact ZD (by rw[Zc,h])
 ·exact⟨X,rfl⟩
theorem gM{n k:Nat}{fr:Fr}{H X:Heap}{a b c d c' d':AObj}(h:H.length+4=n)(hc:c=c')(hd:d=d'):∃X',(⟨fr,collect n k fr (H++(a::b::c::d::X))⟩:St)=⟨fr,H++(a::b::c'::d'::X')⟩:=by
 subst hc hd;obtain⟨X',e⟩:=N7 (n:=n) (b:=k) (fr:=fr) (H:=H) (A:=[a,b,c,d]) (X:=X) h;exact⟨X',congrArg _ e⟩
theorem gN{k:Tm}(h:k.valid=true):vari k k=true:=by
 unfold vari;rw[h,Tm.cmp_zero.2 rfl];rfl
theorem gO{f:Tm->Bool}{L:List Tm}{i:Nat}{u:Tm}(h:L[i]? =some u):(L.take (i+1)).filter f=(L.take i).filter f++(if f u=true then[u] else[]):=by
 rw[ZL,h,List.filter_append]
 congr 1
 cases e:f u <;> simp[e]
theorem frzG{H:Heap}{h:Nat}(hh:H.length=h)(x0 x1 x3:AObj)(X:Heap)(es:List PV)(n:Nat)(hn:es.length=n):Yi [.sl (some 4) (h+2) n 0 n] (H++(x0::x1::.arr (some 4) es false::x3::X))=some ([(none,.sl (some 4) es)],H++(x0::x1::.arr (some 4) es true::x3::X)):=by
 have hg:(H++(x0::x1::.arr (some 4) es false::x3::X))[h+2]? =some (.arr (some 4) es false):=by rw[getN hh];rfl
 rw[qa (show XI n ((H++(x0::x1::.arr (some 4) es false::x3::X))[h+2]?) from by rw[hg];exact hn),hg,setN hh];rfl
theorem VA{H:Heap}{q n:Nat}{es:List PV}{fz:Bool}{x:Int}(h:H[q]? =some (.arr (some 4) es fz))(hn:es.length=n):Am.frozen (.tuple [.pv none (.sl (some 4) es),O8 x]) (.tuple [.sl (some 4) q n 0 n,O8 x]) H:=by
 subst hn;exact⟨H.set q (.arr (some 4) es true),by simp[AV.freezeRes,Yi,AV.freeze,deep,h,pvs,AV.shp]⟩
theorem N8{sh s':Sh}{k:IntKind}{r v n:Nat}(h:0<n):yg sh [.sl sh r v 0 n,.pv s' (.int k 0)]=some (.eptr sh r v 0 0):=Yp (i:=0) h
theorem N9{H:Heap}{q n:Nat}{es:List PV}{fz:Bool}{t:Tm}(h:H[q]? =some (.arr (some 4) es fz))(hn:es.length=n)(h0:es[0]? =some t.pv):aload none H (.eptr (some 4) q n 0 3)=some (.pv none (.sl (some 4) (Tm.pvs t.args))):=by
 simp[aload,h,hn,h0,toAV,zV]
theorem nc(ts:List Tm)(hl:Tm.sizes ts<100000000)(hn:ts.length<100000)(hz:Yt ts=true->Tm.sizes ts<=200000)(hp:Heap):
  S 10 [.pv none (.sl (some 4) (Tm.pvs ts))] hp=some (.ret (.tuple [.pv none (.sl (some 4) (Tm.pvs (YL ts).1)),.pv none (.int .i64 (YL ts).2)]),hp):=by
 refine Yb rfl rfl rfl (Yd [(none,.sl (some 4) (Tm.pvs ts))]) rfl ?_;have hn4:=O6;obtain⟨v,H0,hcall,q0,E,hE,hq0,hq1,rfl⟩:=NH ts hl [.arr (some 4) [] false];have hH0:H0[0]? =some (.arr (some 4) [] false):=by rw[hE];rfl
 by_cases he:YU ts=0
 rotate_left
 ·have e:YL ts=([],YU ts):=by unfold YL;rw[Za he]
  rw[e];dsimp only;generalize YU ts=k at*;simp -dsimp -implicitDefEqProofs only[go_sem,seval,↓reduceIte,hn4,hcall,he];rw[<-jg];exact VA (es:=[]) (fz:=false) (List.getElem?_concat_length) rfl
 ·have he':=Zj he;have e:YL ts=ofG (grps (Yo ts).length (Yo ts)):=by unfold YL;rw[Zb he]
  rw[e];have hval:Yt ts=true:=by
   unfold YU at he;split at he
   ·assumption
   ·cases he
  have hall:ts.all Yj=true:=by
   unfold YU at he;rw[Zb hval] at he;split at he
   ·assumption
   ·cases he
  have hm:∀x∈Yo ts,x∈ts:=fun x hx=>by
   unfold Yo at hx;rw[Zb ⟨hval,hall⟩] at hx;exact(X8 ts).mem_iff.1 hx
  have hkl:(Yo ts).length=ts.length:=by
   unfold Yo;rw[Zb ⟨hval,hall⟩,ym]
  have hV:(Tm.occs ts).length<=200000:=ZJ (Tm.zy4 ts) (hz hval);have hprop:∀x∈Yo ts,Yj x=true/\x.valid=true/\InV (Tm.occs ts) (z8 x):=fun x hx=>by
   have h1:=Zo.1 hall x (hm x hx);refine⟨h1,yU hval (hm x hx),fun w hw=>Tm.zy9 (hm x hx) ?_⟩;refine Tm.zy7 (fun hk=> ?_) (Xq h1) hw;simp[Yj,hk] at h1
  generalize Tm.occs ts=V at hV hprop;obtain⟨n0,hn0⟩:∃n0,n0=(Yo ts).length:=⟨_,rfl⟩;obtain⟨G,hG⟩:∃G,G=grps n0 (Yo ts):=⟨_,rfl⟩;rw[<-hn0,<-hG];simp -dsimp -implicitDefEqProofs only[go_sem,seval,↓reduceIte,hn4,hcall,he'];refine Yr (fun n st=>∃(D L:List Tm) (q:Nat) (H:Heap) (m:Nat),n=L.length/\L.length<=m/\D.length+L.length<=100000/\G=(grps m L).map (D++·)/\(∀x∈L,Yj x=true/\x.valid=true/\InV V (z8 x))/\H0.length<=H.length/\H[0]? =some (.arr (some 4) (Tm.pvs D) false)/\H[q]? =some (.arr (some 4) (Tm.pvs L) false)/\0<q/\st=⟨[(2,.sl (some 4) 0 D.length 0 D.length),(4,.sl (some 4) q L.length 0 L.length)],H⟩) (n:=n0) ⟨[],Yo ts,q0,H0,n0,hn0,by omega,by simp;omega,by rw[hG];cases grps n0 (Yo ts) <;> rfl,hprop,Zi _,hH0,hq1,hq0,?_⟩ ?_
  ·rfl
  ·rintro n st ⟨D,L,q,H,m,hnL,hm1,hDL,hGD,hP,hHl,hh0,hhq,hqp,rfl⟩;cases L with
   |nil=>
    have hg:G=some D:=by
     rw[hGD];cases m <;> simp[grps]
    rw[hg];have hc:¬(0:Int)<((0:Nat):Int):=by omega
    simp -dsimp -implicitDefEqProofs only[go_sem,seval,↓reduceIte,hn4,hc];rw[<-jg];exact VA hh0 (Tm.pvs_len D)
   |cons p r=>
    obtain⟨h,hh⟩:∃h,H.length=h:=⟨_,rfl⟩;have hpp:=hP p Zv;obtain⟨g0,_,_⟩:=xX hpp.1;have hkv:(z8 p).valid=true:=YK hpp.2.1 (Xq hpp.1);have hks:=valid_size hkv;obtain⟨key,hkey⟩:∃key,key=z8 p:=⟨_,rfl⟩;rw[<-hkey] at g0 hkv hks;obtain⟨L,hL⟩:∃L,L=p::r:=⟨_,rfl⟩;obtain⟨N,hN⟩:∃N,N=L.length:=⟨_,rfl⟩;have hNp:0<N:=by rw[hN,hL];simp
    have hL0:(Tm.pvs L)[0]? =some p.pv:=by rw[hL];rfl
    rw[<-hL] at hnL hm1 hDL hP hhq ⊢;rw[<-hN] at hnL hm1 hDL ⊢;have hLl:(Tm.pvs L).length=N:=by rw[Tm.pvs_len,hN]
    have hql:=Y9 hhq;have h0l:=Y9 hh0;have hq:∀X,(H++X)[q]? =some (.arr (some 4) (Tm.pvs L) false):=fun X=>by rw[Zx hql];exact hhq
    have hx0:∀X,(H++X)[0]? =some (.arr (some 4) (Tm.pvs D) false):=fun X=>by rw[Zx h0l];exact hh0
    have hx0s:∀X Y,(H++X).set 0 Y=H.set 0 Y++X:=fun X Y=>ZW _ _ h0l;have hfl:=N9 hhq hLl hL0;have hc:(0:Int)<(N:Int):=by omega
    simp -dsimp -implicitDefEqProofs only[go_sem,seval,↓reduceIte,hn4,hc,N8 hNp,hfl,yc g0,hh,getN hh,YY hh,setN hh,yQ hh,Zd,zW,z6,z7,z9,Zh,Zc];refine Yv (α:=Heap) N (fun _ _=>True) (fun i X=>⟨[(2,.sl (some 4) 0 D.length 0 D.length),(6,.func (.func 35) [] [.ptr h 0]),(7,.sl (some 4) (h+2) ((L.take i).filter fun q=>vari (z8 q) key).length 0 ((L.take i).filter fun q=>vari (z8 q) key).length),(8,.sl (some 4) (h+3) ((L.take i).filter fun q=> !vari (z8 q) key).length 0 ((L.take i).filter fun q=> !vari (z8 q) key).length),(31,.sl (some 4) q N 0 N),(32,O8 N),(33,O8 i)],
     H++([.box (some 4) (.pv (some 4) key.pv),.arr (some 4) [] false,.arr (some 4) (Tm.pvs ((L.take i).filter fun q=>vari (z8 q) key)) false,.arr (some 4) (Tm.pvs ((L.take i).filter fun q=> !vari (z8 q) key)) false]++X)⟩) [] ⟨trivial,?_⟩ ?_ ?_
    ·rfl
    ·rintro i X hi -;have hc:(i:Int)<(N:Int):=by omega
     obtain⟨u,hu⟩:∃u,L[i]? =some u:=⟨_,Zf (by omega)⟩;have hum:=Zk hu;obtain⟨up,uv,_⟩:=hP u hum;have hus:=valid_size uv;have hug:=Tm.pvs_get hu;have hcl:∀X:Heap,S 35 [u.av,.ptr h 0] (H++(.box (some 4) (.pv (some 4) key.pv)::X))=some (.ret (O9 (vari (z8 u) key)),H++(.box (some 4) (.pv (some 4) key.pv)::X)):=fun X=>
      NR u key up _ h (by rw[YY hh];rfl) (by omega) (by omega)
     have hf1:=gO (f:=fun q=>vari (z8 q) key) hu;have hf2:=gO (f:=fun q=> !vari (z8 q) key) hu;have hlen1:((L.take i).filter fun q=>vari (z8 q) key).length<=i:=ZJ (zT _ _) (by rw[Zn];omega);have hlen2:((L.take i).filter fun q=> !vari (z8 q) key).length<=i:=ZJ (zT _ _) (by rw[Zn];omega);rw[hf1,hf2];generalize ((L.take i).filter fun q=>vari (z8 q) key)=A at*;generalize ((L.take i).filter fun q=> !vari (z8 q) key)=B at*;have hA:(Tm.pvs A).length=A.length:=Tm.pvs_len A;have hB:(Tm.pvs B).length=B.length:=Tm.pvs_len B;have hlA:A.length+1<=lim:=by unfold lim;omega
     have hlB:B.length+1<=lim:=by unfold lim;omega
     have hA1:Tm.pvs A++[u.pv]=Tm.pvs (A++[u]):=by rw[Tm.zyO];rfl
     have hB1:Tm.pvs B++[u.pv]=Tm.pvs (B++[u]):=by rw[Tm.zyO];rfl
     have w2:=O0 i (by omega)
     simp only[Tm.av] at hcl;cases hv:vari (z8 u) key with
     |true=>
      rw[hv] at hcl;simp -dsimp -implicitDefEqProofs only[go_sem,seval,↓reduceIte,hn4,hc,Yp hi,YX,hq,hLl,hug,hcl,hA,hlA,hA1,w2,hh,getN hh,YY hh,setN hh,yQ hh,Zd,zW,z6,z7,z9,Zh,Zc];exact gM (by omega) rfl (by rw[ZF])
     |false=>
      rw[hv] at hcl;simp -dsimp -implicitDefEqProofs only[go_sem,seval,↓reduceIte,hn4,hc,Yp hi,YX,hq,hLl,hug,hcl,hB,hlB,hB1,w2,hh,getN hh,YY hh,setN hh,yQ hh,Zd,zW,z6,z7,z9,Zh,Zc];exact gM (by omega) (by rw[ZF]) rfl
    ·rintro X -;have hc:¬(N:Int)<(N:Int):=by omega
     have htk:L.take N=L:=Zp (by omega);have hvs:vari (z8 p) key=true:=by rw[<-hkey];exact gN hkv
     have hf1:(L.filter fun q=>vari (z8 q) key)=p::r.filter fun q=>vari (z8 q) key:=by rw[hL,List.filter_cons,Zb hvs]
     have hf2:(L.filter fun q=> !vari (z8 q) key)=r.filter fun q=> !vari (z8 q) key:=by rw[hL,List.filter_cons,Za (by rw[hvs];simp)]
     rw[htk,hf1,hf2];have hrl:r.length+1=N:=by rw[hN,hL];rfl
     have hl1:(r.filter fun q=>vari (z8 q) key).length<=r.length:=zT _ _;have hl2:(r.filter fun q=> !vari (z8 q) key).length<=r.length:=zT _ _;have hP2:∀x∈r.filter (fun q=> !vari (z8 q) key),Yj x=true/\x.valid=true/\InV V (z8 x):=fun x hx=>hP x (by rw[hL];exact Zu _ (List.mem_filter.1 hx).1);have hP1:∀x∈p::r.filter (fun q=>vari (z8 q) key),Yj x=true/\x.valid=true/\InV V (z8 x):=fun x hx=>hP x (by
      rw[hL];rcases Zt.1 hx with rfl|hx
      ·exact Zv
      ·exact Zu _ (List.mem_filter.1 hx).1)
     obtain⟨m',rfl⟩:∃m',m=m'+1:=⟨m - 1,by omega⟩;have hgd:G=(jP (grp p (r.filter fun q=>vari (z8 q) key)) (grps m' (r.filter fun q=> !vari (z8 q) key))).map (D++·):=by
      rw[hGD,grps,<-hkey]
     clear hGD;generalize (r.filter fun q=> !vari (z8 q) key)=R2 at*;generalize (r.filter fun q=>vari (z8 q) key)=R1 at*;obtain⟨v,hv,hV2⟩:=N5 p R1 V (by omega) (fun q hq=>⟨(hP1 q hq).1,(hP1 q hq).2.1⟩) (fun q hq=>(hP1 q hq).2.2) (by omega);have hfz:=fun(x0 x1 x3:AObj) (X:Heap)=>frzG hh x0 x1 x3 X (Tm.pvs (p::R1)) (R1.length+1) (by rw[Tm.pvs_len];rfl);have hcall:=fun(x0 x1 x3:AObj) (X:Heap)=>yG rfl rfl rfl (hfz x0 x1 x3 X) (hv []);have hDl:(Tm.pvs D).length=D.length:=Tm.pvs_len D;have hlD:D.length+1<=lim:=by unfold lim;omega
     cases hgr:grp p R1 with
     |none=>
      rw[hgr] at hV2 hgd;obtain⟨e,he0,rfl⟩:=hV2;have hGn:G=none:=hgd;rw[hGn];simp only[Jv,cond_false] at hcall;simp only[Tm.av] at hcall;generalize zt.pv=zp at hcall;simp -dsimp -implicitDefEqProofs only[go_sem,seval,↓reduceIte,hn4,hc,hcall,he0,hh,getN hh,YY hh,setN hh,yQ hh,Zd,zW,z6,z7,z9,Zh,Zc];rfl
     |some t=>
      rw[hgr] at hV2 hgd;have htv:=gu hgr;have hts:=valid_size htv;have hV3:v=.tuple [t.av,O8 0]:=hV2;subst hV3;have hclone:=fun hp=>XU t hp htv (by omega);have hD1:Tm.pvs D++[t.pv]=Tm.pvs (D++[t]):=by rw[Tm.zyO];rfl
      simp only[Jv,cond_false] at hcall;simp only[Tm.av] at hcall hclone;simp -dsimp -implicitDefEqProofs only[go_sem,seval,↓reduceIte,hn4,hc,hcall,hclone,hx0,hx0s,hDl,hlD,hD1,hh,getN hh,YY hh,setN hh,yQ hh,Zd,zW,z6,z7,z9,Zh,Zc];rw[N6 (by simp[AV.refsIn];omega)];refine⟨R2.length,by omega,D++[t],R2,h+3,H.set 0 (.arr (some 4) (Tm.pvs (D++[t])) false)++(.box (some 4) (.pv (some 4) key.pv)::.arr (some 4) [] false::.arr (some 4) (Tm.pvs (p::R1)) true::.arr (some 4) (Tm.pvs R2) false::(X++[.box (some 4) (.pv (some 4) t.pv),.arr (some 4) [] false])),m',rfl,by omega,by simp;omega,?_,hP2,?_,?_,?_,by omega,?_⟩
      ·rw[hgd];cases grps m' R2 <;> simp[jP]
      ·rw[Zc,zm];omega
      ·rw[Zx (by rw[zm];exact h0l),ZG h0l]
      ·rw[getN (by rw[zm];exact hh)];rfl
      ·rw[Zc];rfl
def tb(n:Nat)(T:Nat->Bool):List PV:=(List.range n).map fun x=>.bool (T x)
theorem qx(n:Nat)(T:Nat->Bool):(tb n T).length=n:=by simp[tb]
theorem Jw{n:Nat}(T:Nat->Bool){k:Nat}(h:k<n):(tb n T)[k]? =some (.bool (T k)):=by simp[tb,h]
def putT(T:Nat->Bool)(k:Nat):Nat->Bool:=fun x=>decide (x=k) || T x
theorem nd(n:Nat)(T:Nat->Bool)(k:Nat):(tb n T).set k (.bool true)=tb n (putT T k):=by
 refine zK fun i=> ?_;rw[List.getElem?_set];by_cases h:k=i
 ·subst h;by_cases hk:k<n
  ·rw[Zb rfl,Zb (by rw[qx];exact hk),Jw _ hk];simp[putT]
  ·rw[Zb rfl,Za (by rw[qx];exact hk),Z3 (by rw[qx];omega)]
 ·rw[Za h];by_cases hi:i<n
  ·rw[Jw _ hi,Jw _ hi];have:¬i=k:=fun e=>h e.symm;simp[putT,this]
  ·rw[Z3 (by rw[qx];omega),Z3 (by rw[qx];omega)]
def rem(T:Nat->Bool):Nat->List Tm->List Tm
 |_,[]=>[]
 |i,p::r=>if T i=true then rem T (i+1) r else p::rem T (i+1) r
theorem gP(T:Nat->Bool):∀(a:List Tm) (i:Nat) (b:List Tm),rem T i (a++b)=rem T i a++rem T (i+a.length) b
 |[],i,b=>rfl
 |x::a,i,b=>by
  rw[Zw,rem,rem,gP T a (i+1) b,ZB,show i+1+a.length=i+(a.length+1) by omega];split
  ·rfl
  ·rfl
theorem gQ{T T':Nat->Bool}{f:Tm->Bool}:∀(l:List Tm) (i:Nat),(∀y q,l[y]? =some q->T' (i+y)=(T (i+y) || f q))->rem T' i l=(rem T i l).filter fun q=> !f q
 |[],_,_=>rfl
 |p::r,i,h=>by
  have h0:=h 0 p rfl;rw[Z1] at h0;have ih:=gQ (T:=T) (T':=T') (f:=f) r (i+1) fun y q hq=>by rw[show i+1+y=i+(y+1) by omega];exact h (y+1) q hq
  rw[rem,rem,h0,ih];cases T i <;> cases hf:f p <;> simp[hf]
theorem VB(T:Nat->Bool):∀(l:List Tm) (i:Nat),(rem T i l).length<=l.length
 |[],_=>Zi _
 |p::r,i=>by
  have:=VB T r (i+1);rw[rem];split
  ·simp only[ZB];omega
  ·simp only[ZB];omega
theorem VC(T:Nat->Bool):∀(l:List Tm) (i:Nat),∀x∈rem T i l,x∈l
 |[],_,x,h=>h
 |p::r,i,x,h=>by
  rw[rem] at h;split at h
  ·exact Zu _ (VC T r (i+1) x h)
  ·rcases Zt.1 h with rfl|h
   ·exact Zv
   ·exact Zu _ (VC T r (i+1) x h)
theorem nf(nm:List UInt8)(x y:Tm)(hp:Heap):S 41 [Oh nm,.pv none (.sl (some 4) [x.pv,y.pv])] hp=some (.ret (Tm.mk 3 0 nm [x,y]).av,hp):=by
 refine Yb (ps:=[(none,.str nm),(none,.sl (some 4) [x.pv,y.pv])]) rfl rfl rfl rfl rfl ?_;have hb:Ym A0 [0,2,3] [O8 3,Oh nm,.pv none (.sl (some 4) [x.pv,y.pv])]=some (.pv (some 4) (Tm.mk 3 0 nm [x,y]).pv):=rfl;simp -dsimp -implicitDefEqProofs only[go_sem,seval,↓reduceIte,hb]
 try rfl
theorem frzU(a0 a1 a2 a3 a4:AObj)(fz:Bool)(X:Heap)(x y:PV):Yi [.sl (some 5) 5 0 0 0,.pv (some 4) x,.pv (some 4) y] (a0::a1::a2::a3::a4::.arr (some 5) [] fz::X)=some ([(none,.sl (some 5) []),(some 4,x),(some 4,y)],a0::a1::a2::a3::a4::.arr (some 5) [] true::X):=by
 rw[qa (show XI 0 ((a0::a1::a2::a3::a4::AObj.arr (some 5) [] fz::X)[5]?) from rfl)];rfl
theorem ng(a0 a1 a2 a3 a4:AObj)(fz:Bool)(X:Heap)(x:PV):Yi [.sl (some 5) 5 0 0 0,.pv (some 4) x] (a0::a1::a2::a3::a4::.arr (some 5) [] fz::X)=some ([(none,.sl (some 5) []),(some 4,x)],a0::a1::a2::a3::a4::.arr (some 5) [] true::X):=by
 rw[qa (show XI 0 ((a0::a1::a2::a3::a4::AObj.arr (some 5) [] fz::X)[5]?) from rfl)];rfl
def s5R(c:Nat)(s:List B):AV:=if c=0 then .sl (some 5) 5 0 0 0 else .pv none (.sl (some 5) (bds s))
theorem gR{V:List Int}{w:Tm}(hw:InV V w):∀(r:List Tm) (s:List B),OKB s->InVB V s->(∀q∈r,InV V (z8 q))->InVB V (ye w s r)/\OKB (ye w s r)
 |[],s,hO,hs,_=>⟨hs,hO⟩
 |q::r,s,hO,hs,h=>gR hw r _ (Vx _ _ _) (gr hs hw (h q Zv)) fun x hx=>h x (Zu _ hx)
def tkn(T:Nat->Bool)(f:Tm->Bool)(K:List Tm)(i j:Nat):Nat->Bool:=fun x=>T x || (decide (i<=x) && decide (x<i+j) && f ((K[x]?).getD zt))
theorem nh(T:Nat->Bool)(f:Tm->Bool)(K:List Tm)(i:Nat):tkn T f K i 0=T:=by
 funext x
 have:(decide (i<=x) && decide (x<i+0))=false:=by
  rw[Bool.eq_false_iff];simp
 unfold tkn;rw[this];simp
theorem ni(T:Nat->Bool)(f:Tm->Bool)(K:List Tm)(i j:Nat):tkn T f K i j (i+j)=T (i+j):=by
 unfold tkn;simp
theorem nj{T:Nat->Bool}{f:Tm->Bool}{K:List Tm}{i j:Nat}{u:Tm}(hu:K[i+j]? =some u)(hf:f u=true):putT (tkn T f K i j) (i+j)=tkn T f K i (j+1):=by
 funext x
 unfold putT tkn;by_cases hx:x=i+j
 ·subst hx;simp[hu,hf]
 ·have:(decide (x<i+(j+1)))=decide (x<i+j):=by rw[decide_eq_decide];omega
  rw[this];simp[hx]
theorem nk{T:Nat->Bool}{f:Tm->Bool}{K:List Tm}{i j:Nat}{u:Tm}(hu:K[i+j]? =some u)(h:T (i+j)=true\/f u=false):tkn T f K i j=tkn T f K i (j+1):=by
 funext x
 unfold tkn;by_cases hx:x=i+j
 ·subst hx;rcases h with h|h <;> simp[hu,h]
 ·have:(decide (x<i+(j+1)))=decide (x<i+j):=by rw[decide_eq_decide];omega
  rw[this]
theorem nl{s:Nat}{r:List Nat}{fr:Fr}{q n:Nat}{es:List PV}{H:Heap}(h:H[q]? =some (.arr (some 4) es false))(hn:es.length=n):xm s r ⟨fr,H⟩ (some (.sl (some 4) q n 0 n))=Am.settle r ⟨(s,.pv none (.sl (some 4) es))::fr,H.set q (.arr (some 4) es true)⟩:=by
 subst hn;simp[xm,AV.freeze,deep,h]
set_option maxHeartbeats 4000000 in
theorem nn(ts:List Tm)(hl:Tm.sizes ts<100000000)(hn:ts.length<100000)(hz:Yt ts=true->Tm.sizes ts<=200000)(hp:Heap):
  S 11 [.pv none (.sl (some 4) (Tm.pvs ts))] hp=some (.ret (.tuple [.pv none (.sl (some 4) (Tm.pvs (YL ts).1)),.pv none (.int .i64 (YL ts).2)]),hp):=by
 refine Yb rfl rfl rfl (Yd [(none,.sl (some 4) (Tm.pvs ts))]) rfl ?_;have hn4:=O6;have hn5:=O7;have hK:=NO ts hl;by_cases he:YU ts=0
 rotate_left
 ·have e:YL ts=([],YU ts):=by unfold YL;rw[Za he]
  rw[e];dsimp only;generalize YU ts=k at*;simp -dsimp -implicitDefEqProofs only[go_sem,seval,↓reduceIte,hn4,hK,he];rfl
 ·have he':=Zj he;have e:YL ts=ofG (grps (Yo ts).length (Yo ts)):=by unfold YL;rw[Zb he]
  rw[e];have hval:Yt ts=true:=by
   unfold YU at he;split at he
   ·assumption
   ·cases he
  have hall:ts.all Yj=true:=by
   unfold YU at he;rw[Zb hval] at he;split at he
   ·assumption
   ·cases he
  have hm:∀x∈Yo ts,x∈ts:=fun x hx=>by
   unfold Yo at hx;rw[Zb ⟨hval,hall⟩] at hx;exact(X8 ts).mem_iff.1 hx
  have hkl:(Yo ts).length=ts.length:=by
   unfold Yo;rw[Zb ⟨hval,hall⟩,ym]
  have hprop:∀x∈Yo ts,Yj x=true/\x.valid=true:=fun x hx=>⟨Zo.1 hall x (hm x hx),yU hval (hm x hx)⟩;have hV:(Tm.occs ts).length<=200000:=ZJ (Tm.zy4 ts) (hz hval);have hVk:∀x∈Yo ts,InV (Tm.occs ts) (z8 x):=fun x hx w hw=>Tm.zy9 (hm x hx) (by
   have h1:=Zo.1 hall x (hm x hx);refine Tm.zy7 (fun hk=> ?_) (Xq h1) hw;simp[Yj,hk] at h1)
  generalize Tm.occs ts=V at hV hVk;generalize Yo ts=K at*;obtain⟨n,hnK⟩:∃n,n=K.length:=⟨_,rfl⟩;obtain⟨G,hG⟩:∃G,G=grps n K:=⟨_,rfl⟩;rw[<-hnK,<-hG];have hKl:(Tm.pvs K).length=n:=by rw[Tm.pvs_len,hnK]
  have hmk:∀(a0 a1:AObj),XA none (.bool false) [a0,a1] [O8 (n:Int),O8 (n:Int)]=some (.sl none 2 n 0 n,[a0,a1,.arr none (tb n fun _=>false) false]):=fun a0 a1=>by
   have h1:(n:Int)<=1073741824:=by omega
   have h2:tb n (fun _=>false)=List.replicate n (.bool false):=by
    unfold tb;refine zK fun i=> ?_;by_cases hi:i<n
    ·simp[hi]
    ·rw[Z3 (by simp;omega),Z3 (by simp;omega)]
   rw[h2];simp[XA,lim,h1,Sh.size]
  simp -dsimp -implicitDefEqProofs only[go_sem,seval,↓reduceIte,hn4,hK,he',hKl,hmk];refine Yv (α:=List Tm × (Nat->Bool)) n (fun i a=>a.1.length<=i/\∃m,(rem a.2 i (K.drop i)).length<=m/\G=(grps m (rem a.2 i (K.drop i))).map (a.1++·)) (fun i a=>⟨[(4,.pv none (.sl (some 4) (Tm.pvs K))),(6,.sl (some 4) 1 a.1.length 0 a.1.length),(7,.sl none 2 n 0 n),(8,O8 i)],
   [.arr (some 4) [] false,.arr (some 4) (Tm.pvs a.1) false,.arr none (tb n a.2) false]⟩) ([],fun _=>false) ⟨⟨Zi _,n,?_,?_⟩,rfl⟩ ?_ ?_
  ·exact ZJ (VB _ _ _) (by simp[hnK])
  ·have hr:∀(l:List Tm) (i:Nat),rem (fun _=>false) i l=l:=fun l=>by
    induction l with
    |nil=>intro i;rfl
    |cons p r ih=>intro i;rw[rem,ih];rfl
   rw[Z4,hr,hG];cases grps n K <;> rfl
  ·rintro i ⟨D,T⟩ hi ⟨hD,m,hm1,hGm⟩;dsimp only at hD hm1 hGm ⊢;have hc:(i:Int)<(n:Int):=by omega
   obtain⟨p,hp⟩:∃p,K[i]? =some p:=⟨_,Zf (by omega)⟩;have hpm:=Zk hp;obtain⟨hpp,hpv⟩:=hprop p hpm;have hdr:K.drop i=p::K.drop (i+1):=by
    obtain⟨q1,e1⟩:=Ze.1 hp;rw[ZS q1,e1]
   have w2:=O0 i (by omega)
   have hTl:∀T:Nat->Bool,(tb n T).length=n:=fun T=>qx n T;have hTg:=Jw T hi;rw[hdr,rem] at hm1 hGm;cases hT:T i with
   |true=>
    rw[hT,Zb rfl] at hm1 hGm;rw[hT] at hTg;simp -dsimp -implicitDefEqProofs only[go_sem,seval,↓reduceIte,hn4,hKl,hc,Yp hi,YX,hTl,hTg,w2];refine⟨(D,T),⟨by dsimp only;omega,m,hm1,hGm⟩,?_⟩;rfl
   |false=>
    rw[hT,Za (by simp)] at hm1 hGm;rw[hT] at hTg;obtain⟨g0,_,_⟩:=xX hpp;have hkv:(z8 p).valid=true:=YK hpv (Xq hpp);have hks:=valid_size hkv;obtain⟨key,hkey⟩:∃key,key=z8 p:=⟨_,rfl⟩;have hVp:=hVk p hpm;rw[<-hkey] at g0 hkv hks hVp;have hpg:=zY (sh:=some 4) (s:=none) (s':=none) (k:=.i64) (Tm.pvs_get hp);simp -dsimp -implicitDefEqProofs only[go_sem,seval,↓reduceIte,hn4,hn5,hKl,hc,Yp hi,YX,hTl,hTg,hpg,zV,yc g0];obtain⟨f,hf⟩:∃f:Tm->Bool,f=fun q=>vari key (z8 q):=⟨_,rfl⟩;obtain⟨R0,hR0⟩:∃R0,R0=rem T (i+1) (K.drop (i+1)):=⟨_,rfl⟩;obtain⟨cj,hcj⟩:∃cj:Nat->List Tm,cj=fun j=>(rem T (i+1) ((K.drop (i+1)).take (j - 1))).filter f:=⟨_,rfl⟩;obtain⟨ij,hij⟩:∃ij:Nat->List Tm,ij=fun j=>if j=0 then[] else(p::cj j).map Yg:=⟨_,rfl⟩
    have hfp:f p=true:=by rw[hf];dsimp only;rw[<-hkey];exact gN hkv
    have hc0:cj 0=[]:=by rw[hcj];rfl
    have hc1:cj 1=[]:=by rw[hcj];rfl
    have hi0:ij 0=[]:=by rw[hij];rfl
    have hi1:∀j,ij (j+1)=(p::cj (j+1)).map Yg:=fun j=>by rw[hij];dsimp only;rw[Za (Nat.succ_ne_zero j)]
    have hcs:∀j u,K[i+(j+1)]? =some u->cj (j+1+1)=cj (j+1)++(if T (i+(j+1))=true then[] else if f u=true then[u] else[]):=fun j u hu=>by
     have hlt:=Y9 hu;have e1:(K.drop (i+1)).take (j+1)=(K.drop (i+1)).take j++[u]:=by
      rw[ZL,ZT,show i+1+j=i+(j+1) by omega,hu];rfl
     have e2:((K.drop (i+1)).take j).length=j:=by rw[Zn,ZY];omega
     rw[hcj];dsimp only;rw[Nat.add_sub_cancel,Nat.add_sub_cancel,e1,gP,e2,List.filter_append,rem,rem,show i+1+j=i+(j+1) by omega]
     congr 1
     cases T (i+(j+1)) <;> cases h:f u <;> simp[h]
    have hcm:∀j,∀q∈cj j,q∈K/\f q=true:=fun j q hq=>by
     rw[hcj] at hq;obtain⟨h1,h2⟩:=List.mem_filter.1 hq;exact⟨zG (zO (VC _ _ _ _ h1)),h2⟩
    have hcl:∀j,(cj j).length<=n:=fun j=>by
     rw[hcj];refine ZJ (zT _ _) (ZJ (VB _ _ _) ?_);rw[Zn,ZY];omega
    have hfb:∀j,InVB V (ye key [] (cj j))/\OKB (ye key [] (cj j)):=fun j=>gR hVp _ _ QM (fun b hb=>by cases hb) fun q hq=>hVk q (hcm j q hq).1;have hlow:∀c s,(s5R c s).refsIn.all (fun q=>decide (q<7))=true:=fun c s=>by unfold s5R;split <;> rfl
    refine Yv (α:=Unit) (n - i) (fun _ _=>True) (fun j _=>⟨[(4,.pv none (.sl (some 4) (Tm.pvs K))),(6,.sl (some 4) 1 D.length 0 D.length),(7,.sl none 2 n 0 n),(8,O8 i),(9,.ptr 3 0),(10,s5R (cj j).length (ye key [] (cj j))),(11,.sl (some 4) 6 (ij j).length 0 (ij j).length),(12,O8 ((i+j:Nat):Int))],
     [.arr (some 4) [] false,.arr (some 4) (Tm.pvs D) false,.arr none (tb n (tkn T f K i j)) false,.box (some 4) (.pv (some 4) key.pv),.arr (some 4) [] false,.arr (some 5) [] (decide (0<(cj j).length)),.arr (some 4) (Tm.pvs (ij j)) false]⟩) () ⟨trivial,?_⟩ ?_ ?_
    ·rw[hc0,hi0,nh];rfl
    ·rintro j - hj -;have hk:i+j<n:=by omega
     have hck:((i+j:Nat):Int)<(n:Int):=by omega
     obtain⟨u,hu⟩:∃u,K[i+j]? =some u:=⟨_,Zf (by omega)⟩;have hum:=Zk hu;obtain⟨hup,huv⟩:=hprop u hum;obtain⟨u0,u1,u2⟩:=xX hup;have hku:(z8 u).valid=true:=YK huv (Xq hup);have hkus:=valid_size hku;have hTk:=Jw (tkn T f K i j) hk;rw[ni] at hTk;have w3:IntKind.i64.wrap (((i+j:Nat):Int)+1)=((i+(j+1):Nat):Int):=by rw[zZ (by omega) (by omega)];omega
     have hug:=zY (sh:=some 4) (s:=none) (s':=none) (k:=.i64) (Tm.pvs_get hu);have q1:=zY (sh:=some 4) (s:=none) (s':=none) (k:=.i64) u1;simp only[show((1:Nat):Int)=1 from rfl] at q1;have hvar:=fun hp=>NV key (z8 u) hp (by omega) (by omega);have hfu:vari key (z8 u)=f u:=by rw[hf]
     rw[hfu] at hvar;simp only[Tm.av] at hvar;have hia:=Yp (sh:=none) (s':=none) (k:=.i64) (r:=2) (v:=n) (o:=0) hk;have skip:T (i+j)=true\/f u=false->cj (j+1)=cj j/\ij (j+1)=ij j/\tkn T f K i (j+1)=tkn T f K i j:=fun h=>by
      cases j with
      |zero=>
       exfalso;rw[Z1,hp] at hu;cases hu;rcases h with h|h
       ·rw[Z1,hT] at h;cases h
       ·rw[hfp] at h;cases h
      |succ j=>
       have e1:cj (j+1+1)=cj (j+1):=by
        rw[hcs j u hu];rcases h with h|h <;> simp[h]
       exact⟨e1,by rw[hi1,hi1,e1],(nk hu h).symm⟩
     cases hTu:T (i+j) with
     |true=>
      obtain⟨k1,k2,k3⟩:=skip (.inl hTu);rw[hTu] at hTk;simp -dsimp -implicitDefEqProofs only[go_sem,seval,↓reduceIte,hn4,hn5,hKl,hck,hia,YX,hTl,hTk,w3];refine⟨(),?_⟩;rw[y0 (by simp[AObj.refs,AV.refsIn]) (by simp[AV.refsIn];simpa using hlow _ _),k1,k2,k3];rfl
     |false=>
      rw[hTu] at hTk;cases hfv:f u with
      |false=>
       obtain⟨k1,k2,k3⟩:=skip (.inr hfv);rw[hfv] at hvar;simp -dsimp -implicitDefEqProofs only[go_sem,seval,↓reduceIte,hn4,hn5,hKl,hck,hia,YX,hTl,hTk,hug,zV,yc u0,hvar,w3];refine⟨(),?_⟩;rw[y0 (by simp[AObj.refs,AV.refsIn]) (by simp[AV.refsIn];simpa using hlow _ _),k1,k2,k3];rfl
      |true=>
       rw[hfv] at hvar;have hwst:∀(b:Nat) (a0 a1:AObj) (X:Heap),Yw none b (a0::a1::.arr none (tb n (tkn T f K i j)) false::X) [.eptr none 2 n (i+j) 0,O9 true]=some (.undef,a0::a1::.arr none (tb n (tkn T f K i (j+1))) false::X):=fun b a0 a1 X=>by
        rw[<-nj hu hfv,<-nd];exact qb (sh:=none) (s:=none) (b:=b) (hp:=a0::a1::.arr none (tb n (tkn T f K i j)) false::X) (r:=2) (n:=n) (i:=i+j) (p:=.bool true) ⟨rfl,hTl _⟩ hk
       have hll:(Tm.pvs (ij j)).length=(ij j).length:=Tm.pvs_len _;have hlim:(ij j).length+1<=lim:=by
        have h1:=hcl j;have:(ij j).length<=n+1:=by
         rw[hij];dsimp only;split
         ·simp
         ·simp only[ZO,ZB];omega
        unfold lim;omega
       cases j with
       |zero=>
        rw[Z1,hp] at hu;cases hu;have hngt:¬(i:Int)<(i:Int):=by omega
        have hap:[(Yg p).pv]=Tm.pvs (ij (0+1)):=by rw[hi1,hc1];rfl
        have hl1:(ij (0+1)).length=1:=by rw[hi1,hc1];rfl
        simp only[Z1,ZH,hi0,hc0,show Tm.pvs []=[] from rfl,zn] at hck hia hTk w3 hwst hll hlim hug hap hl1 ⊢;simp -dsimp -implicitDefEqProofs only[go_sem,seval,↓reduceIte,hn4,hn5,hKl,hck,hia,YX,hTl,hTk,hug,zV,yc u0,q1,hvar,w3,hwst,hll,hlim,hngt];refine⟨(),?_⟩;rw[y0 (by simp[AObj.refs,AV.refsIn]) (by simp[AV.refsIn];simpa using hlow _ _),hc1,hl1,<-hap];rfl
       |succ j=>
        have hgt:(i:Int)<((i+(j+1):Nat):Int):=by omega
        have hce:=hcs j u hu;rw[hTu,hfv,Za (by simp),Zb rfl] at hce;have hie:ij (j+1+1)=ij (j+1)++[Yg u]:=by rw[hi1,hi1,hce];simp
        have hap:Tm.pvs (ij (j+1))++[(Yg u).pv]=Tm.pvs (ij (j+1+1)):=by rw[hie,Tm.zyO];rfl
        have hil:(ij (j+1+1)).length=(ij (j+1)).length+1:=by rw[hie];simp
        have hfo:ye key [] (cj (j+1+1))=(unR (ye key [] (cj (j+1))) key (z8 u)).1:=by rw[hce,gF]
        have hcl2:(cj (j+1+1)).length=(cj (j+1)).length+1:=by rw[hce];simp
        obtain⟨hbV,hbO⟩:=hfb (j+1);have hun:=mX (ye key [] (cj (j+1))) key (z8 u) (by have:=InVB.len hbO.good hbV;omega) (fun b hb=>(hbO.good.2 b hb).2) (by omega) (by omega);rw[<-hfo] at hun;simp only[Tm.av] at hun;generalize (unR (ye key [] (cj (j+1))) key (z8 u)).2=e2 at hun;clear hfo;by_cases h0:(cj (j+1)).length=0
        ·have hc0':cj (j+1)=[]:=Z9 h0;have e5:∀s,s5R (cj (j+1)).length s=.sl (some 5) 5 0 0 0:=fun s=>by unfold s5R;rw[Zb h0]
         have e6:decide (0<(cj (j+1)).length)=false:=by rw[h0];rfl
         rw[e5,e6];have hb0:ye key [] (cj (j+1))=[]:=by rw[hc0'];rfl
         rw[hb0] at hun;have hcall:=fun(a0 a1 a2 a3 a4:AObj) (X:Heap)=>yG rfl rfl rfl (frzU a0 a1 a2 a3 a4 false X key.pv (z8 u).pv) (hun []);have e8:∀(l:List PV) (e:Int),(AV.tuple [.pv none (.sl (some 5) l),O8 e]).scalar=false:=fun _ _=>rfl;simp only[e8,cond_false] at hcall;simp -dsimp -implicitDefEqProofs only[go_sem,seval,↓reduceIte,hn4,hn5,hKl,hck,hia,YX,hTl,hTk,hug,zV,yc u0,q1,hvar,w3,hwst,hll,hlim,hgt,hcall,hap];refine⟨(),?_⟩;rw[y0 (by simp[AObj.refs,AV.refsIn]) (by simp[AV.refsIn]),hil,hcl2];have e7:∀s,s5R ((cj (j+1)).length+1) s=.pv none (.sl (some 5) (bds s)):=fun s=>by unfold s5R;rw[Za (Nat.succ_ne_zero _)]
         rw[e7,zz (Nat.succ_pos _)];rfl
        ·have e5:∀s,s5R (cj (j+1)).length s=.pv none (.sl (some 5) (bds s)):=fun s=>by unfold s5R;rw[Za h0]
         have e6:decide (0<(cj (j+1)).length)=true:=zz (by omega);rw[e5,e6];simp -dsimp -implicitDefEqProofs only[go_sem,seval,↓reduceIte,hn4,hn5,hKl,hck,hia,YX,hTl,hTk,hug,zV,yc u0,q1,hvar,w3,hwst,hll,hlim,hgt,hun,hap];refine⟨(),?_⟩;rw[y0 (by simp[AObj.refs,AV.refsIn]) (by simp[AV.refsIn]),hil,hcl2];have e7:∀s,s5R ((cj (j+1)).length+1) s=.pv none (.sl (some 5) (bds s)):=fun s=>by unfold s5R;rw[Za (Nat.succ_ne_zero _)]
         rw[e7,zz (Nat.succ_pos _)];rfl
    ·rintro - -;have hck:¬((i+(n - i):Nat):Int)<(n:Int):=by omega
     obtain⟨j,hj⟩:∃j,n - i=j+1:=⟨n - i - 1,by omega⟩;rw[hj] at hck ⊢;obtain⟨R1,hR1⟩:∃R1,R1=R0.filter f:=⟨_,rfl⟩;have hcR:cj (j+1)=R1:=by
      rw[hR1,hR0,hcj];dsimp only;rw[Nat.add_sub_cancel,Zp (by rw[ZY];omega)]
     have hR1m:∀q∈R1,q∈K/\f q=true:=fun q hq=>hcm (j+1) q (by rw[hcR];exact hq);have hpr:∀q∈p::R1,Yj q=true/\q.valid=true:=fun q hq=>by
      rcases Zt.1 hq with rfl|hq
      ·exact⟨hpp,hpv⟩
      ·exact hprop q (hR1m q hq).1
     obtain⟨hbO,hbv,hgr⟩:=N2 hpr fun q hq=>by
      have:=(hR1m q hq).2;rw[hf] at this;dsimp only at this;rw[gz,<-hkey];exact this
     obtain⟨hbV,_⟩:=hfb (j+1);have hRl:=hcl (j+1);rw[hi1 j];rw[hcR] at hbV hRl ⊢;rw[<-hkey] at hbO hbv hgr;obtain⟨I,hI⟩:∃I,I=(p::R1).map Yg:=⟨_,rfl⟩;have hIl:I.length=R1.length+1:=by rw[hI];simp
     have hIs:∀t∈I,t.size<=2000:=fun t ht=>by
      rw[hI] at ht;obtain⟨q,hq,rfl⟩:=Z2.1 ht;exact valid_size (Ju (hpr q hq).1 (hpr q hq).2)
     have hgT:grpT p R1=prT key (lst I):=by rw[grpT,<-hkey,hI]
     rw[<-hI];rw[hgT] at hgr;have hbn:R1.length=0->ye key [] R1=[]:=fun h=>by rw[Z9 h];rfl
     generalize ye key [] R1=b at*;have hgsz:=Jt I 2000 hIs;have hgs:(prT key (lst I)).size=1+(key.size+(lst I).size):=by
      show 1+(key.size+((lst I).size+0))=_;omega
     have h1:=fun hp=>Gh I (by omega) hp;have h2:∀hp,S 41 [Oh [45],.pv none (.sl (some 4) [key.pv,(lst I).pv])] hp=some (.ret (prT key (lst I)).av,hp):=fun hp=>nf [45] key (lst I) hp;have h3:=fun hp=>yS (prT key (lst I)) hp (by omega);have hbl:=InVB.len hbO.good hbV;have h4:=fun hp=>mA b (prT key (lst I)) (by omega) (fun x hx=>(hbO.good.2 x hx).2) (by omega) hp;have hset:∀(st:List Nat) (fr:Fr) (a0 a1 a2 a3 a4 a5:AObj) (X:Heap),xm 11 st ⟨fr,a0::a1::a2::a3::a4::a5::.arr (some 4) (Tm.pvs I) false::X⟩ (some (.sl (some 4) 6 I.length 0 I.length))=Am.settle st ⟨(11,.pv none (.sl (some 4) (Tm.pvs I)))::fr,a0::a1::a2::a3::a4::a5::.arr (some 4) (Tm.pvs I) true::X⟩:=fun st fr a0 a1 a2 a3 a4 a5 X=>nl rfl (Tm.pvs_len I);obtain⟨m',rfl⟩:∃m',m=m'+1:=⟨m - 1,by simp only[ZB] at hm1;omega⟩;have hff:∀l:List Tm,(l.filter fun q=>vari (z8 q) (z8 p))=l.filter f/\(l.filter fun q=> !vari (z8 q) (z8 p))=l.filter fun q=> !f q:=fun l=>by
      have:(fun q=>vari (z8 q) (z8 p))=f:=by
       rw[hf]
       funext q
       rw[<-hkey,gz]
      rw[this];exact⟨rfl,by congr 1;funext q;rw[<-this]⟩
     rw[grps,(hff _).1,(hff _).2,<-hR0,<-hR1] at hGm;have hrem:rem (tkn T f K i (j+1)) (i+1) (K.drop (i+1))=R0.filter fun q=> !f q:=by
      rw[hR0];refine gQ _ _ fun y q hq=> ?_;have hlt:=Y9 hq;rw[ZY] at hlt;rw[ZT] at hq;unfold tkn;rw[hq,zz (show i<=i+1+y by omega),zz (show i+1+y<i+(j+1) by omega)];rfl
     have hDl:(Tm.pvs D).length=D.length:=Tm.pvs_len D;have hlD:D.length+1<=lim:=by unfold lim;omega
     simp only[Tm.av] at h1 h2 h3 h4;cases hgv:(prT key (lst I)).valid with
     |false=>
      rw[hgv,Za (by simp)] at hgr;have hGn:G=none:=by rw[hGm,hgr];rfl
      rw[hGn];rw[hgv] at h3;simp -dsimp -implicitDefEqProofs only[go_sem,seval,↓reduceIte,hn4,hn5,hKl,hck,hset,h1,h2,h3];rfl
     |true=>
      rw[hgv,Zb rfl] at hgr;rw[hgv] at h3;rw[jS hbO hbv hgv] at h4;obtain⟨x,hx⟩:∃x,x=rs b (prT key (lst I)):=⟨_,rfl⟩;rw[<-hx] at hgr;dsimp only at h4;rw[<-hx] at h4;have hap:Tm.pvs D++[x.pv]=Tm.pvs (D++[x]):=by rw[Tm.zyO];rfl
      obtain⟨s5,o5,e1,e2,hcall⟩:∃(s5:AV) (o5:AObj),s5R R1.length b=s5/\AObj.arr (some 5) [] (decide (0<R1.length))=o5/\
        (∀(a0 a1 a2 a3 a4:AObj) (X:Heap),S 44 [s5,.pv (some 4) (prT key (lst I)).pv] (a0::a1::a2::a3::a4::o5::X)=some (.ret (.tuple [.pv (some 4) x.pv,O8 0]),a0::a1::a2::a3::a4::.arr (some 5) [] true::X)):=by
       have e8:(AV.tuple [.pv (some 4) x.pv,O8 0]).scalar=false:=Jv x _;by_cases h0:R1.length=0
       ·refine⟨.sl (some 5) 5 0 0 0,.arr (some 5) [] false,by unfold s5R;rw[Zb h0],by rw[h0];rfl,fun a0 a1 a2 a3 a4 X=> ?_⟩;have hb0:b=[]:=hbn h0;subst hb0;exact(yG rfl rfl rfl (ng a0 a1 a2 a3 a4 false X (prT key (lst I)).pv) (h4 [])).trans (by rw[e8];rfl)
       ·exact⟨.pv none (.sl (some 5) (bds b)),.arr (some 5) [] true,by unfold s5R;rw[Za h0],by rw[zz (by omega)],fun a0 a1 a2 a3 a4 X=>h4 _⟩
      rw[e1,e2];simp -dsimp -implicitDefEqProofs only[go_sem,seval,↓reduceIte,hn4,hn5,hKl,hck,hset,h1,h2,h3,hcall,hDl,hlD,hap,w2];refine⟨(D++[x],tkn T f K i (j+1)),⟨by simp;omega,m',?_,?_⟩,?_⟩
      ·rw[hrem];refine ZJ (zT _ _) ?_;rw[hR0];simp only[ZB] at hm1;omega
      ·dsimp only;rw[hrem,hGm,hgr];cases grps m' (R0.filter fun q=> !f q) <;> simp[jP]
      ·rw[y0 (by simp[AObj.refs,AV.refsIn]) (by simp[AV.refsIn])];simp
  ·rintro⟨D,T⟩ ⟨hD,m,hm1,hGm⟩;dsimp only at hD hm1 hGm ⊢;have hc:¬(n:Int)<(n:Int):=by omega
   have e0:K.drop n=[]:=by rw[hnK,zh]
   have hg:G=some D:=by
    rw[hGm,e0];cases m <;> simp[grps,rem]
   rw[hg];simp -dsimp -implicitDefEqProofs only[go_sem,seval,↓reduceIte,hn4,hKl,hc];rw[<-jg];exact VA (fz:=false) rfl (Tm.pvs_len D)
theorem np(l:List Tm)(hv:∀t∈l,t.valid=true)(hl:l.length<1000000000):S 12 [.pv none (.sl (some 4) (Tm.pvs l)),.pv none (.sl (some 4) (Tm.pvs l))] []=some (.ret (O9 true),[]):=by
 refine Yb rfl rfl rfl (Yd [(none,.sl (some 4) (Tm.pvs l)),(none,.sl (some 4) (Tm.pvs l))]) rfl ?_;simp -dsimp -implicitDefEqProofs only[go_sem,seval,↓reduceIte];refine Yv (α:=Unit) l.length (fun _ _=>True) (fun i _=>⟨[(0,.pv none (.sl (some 4) (Tm.pvs l))),(1,.pv none (.sl (some 4) (Tm.pvs l))),(5,O8 i)],[]⟩) () ⟨trivial,rfl⟩ ?_ ?_
 ·rintro i - h -;have hc:(i:Int)<(l.length:Int):=by omega
  obtain⟨u,hu⟩:∃u,l[i]? =some u:=⟨_,Zf h⟩;have hum:=Zk hu;have hus:=valid_size (hv u hum);have hcall:=fun hp=>uX u u hp (by omega) (by omega);rw[MN (hv u hum)] at hcall;simp only[Tm.av] at hcall;have w2:=O0 i (by omega)
  simp -dsimp -implicitDefEqProofs only[go_sem,seval,↓reduceIte,Tm.pvs_len,hc,zY (Tm.pvs_get hu),hcall,w2];exact⟨(),trivial⟩
 ·rintro - -;have hc:¬(l.length:Int)<(l.length:Int):=by omega
  simp -dsimp -implicitDefEqProofs only[go_sem,seval,↓reduceIte,Tm.pvs_len,hc]
theorem nq{l r:List Tm}(h:l.Perm r):Tm.sizes l=Tm.sizes r:=by
 induction h with
 |nil=>rfl
 |cons x _ ih=>simp only[Tm.sizes,ih]
 |swap x y l=>simp only[Tm.sizes];omega
 |trans _ _ h1 h2=>rw[h1,h2]
theorem nr(ts:List Tm):(Yo ts).length<=ts.length/\Tm.sizes (Yo ts)<=Tm.sizes ts:=by
 unfold Yo;split
 ·exact⟨by rw[ym];exact Zi _,by rw[nq (X8 ts)];exact Zi _⟩
 ·exact⟨Zg _,Zg _⟩
theorem gS:∀(n:Nat) (l g:List Tm),grps n l=some g->g.length<=l.length
 |_,[],g,h=>by rw[grps] at h;cases h;exact Zi _
 |0,_::_,g,h=>by rw[grps] at h;cases h;exact Zg _
 |n+1,p::r,g,h=>by
  rw[grps] at h;cases ht:grp p (r.filter fun q=>vari (z8 q) (z8 p)) with
  |none=>rw[ht] at h;cases h
  |some t=>
   rw[ht] at h;cases e:grps n (r.filter fun q=> !vari (z8 q) (z8 p)) with
   |none=>rw[e] at h;cases h
   |some g'=>
    rw[e] at h;cases h;have h1:=gS n _ g' e;have h2:(r.filter fun q=> !vari (z8 q) (z8 p)).length<=r.length:=zT _ _;simp only[ZB];omega
theorem VD(ts:List Tm):(YL ts).1.length<=ts.length:=by
 unfold YL;split
 ·cases h:grps (Yo ts).length (Yo ts) with
  |some l=>exact ZJ (gS _ _ _ h) (nr ts).1
  |none=>exact Zg _
 ·exact Zg _
def QN:List UInt8:=[108,105,115,116]
def YF(t:Tm):List Tm × Tm × Bool:=
 if t.valid=true then(if(tl t).kind=0 then([],instT,false) else if(tl t).kind=2/\(tl t).name=[91,93] then(els t,zt,true) else([],typT QN t,false)) else([],zt,false)
theorem XW{l:List Tm}{b:Tm}{B:Bool}{H:Heap}{q:Nat}{fz:Bool}(h:H[q]? =some (.arr (some 4) (Tm.pvs l) fz)):Am.frozen (.tuple [.pv none (.sl (some 4) (Tm.pvs l)),.pv (some 4) b.pv,O9 B]) (.tuple [.sl (some 4) q l.length 0 l.length,.pv (some 4) b.pv,O9 B]) H:=by
 refine⟨H.set q (.arr (some 4) (Tm.pvs l) true),?_⟩;have e2:∀p hp,AV.freeze deep (.pv (some 4) p) hp=some (p,hp):=fun _ _=>rfl;simp[AV.freezeRes,Yi,e2,AV.freeze,deep,Tm.pvs_len,pvs,AV.shp,h]
theorem VE{l:List Tm}{B:Bool}{H:Heap}{q r:Nat}{fz:Bool}(h:H[q]? =some (.arr (some 4) (Tm.pvs l) fz))(h2:H[r]? =some (.arr (some 4) [] false))(hn:q≠r):Am.frozen (.tuple [.pv none (.sl (some 4) (Tm.pvs l)),.pv (some 4) zt.pv,O9 B]) (.tuple [.sl (some 4) q l.length 0 l.length,zg r,O9 B]) H:=by
 refine⟨(H.set q (.arr (some 4) (Tm.pvs l) true)).set r (.arr (some 4) [] true),?_⟩;have e:=O3
 have h3:(H.set q (.arr (some 4) (Tm.pvs l) true))[r]? =some (.arr (some 4) [] false):=by rw[Zy hn];exact h2
 simp[AV.freezeRes,Yi,AV.freeze,deep,Tm.pvs_len,pvs,AV.shp,h,zg,e,AV.freeze.go,h3];exact⟨rfl,rfl⟩
theorem nu(t:Tm)(ht:t.size<100000000)(hp:Heap):S 98 [t.av] hp=some (.ret (.tuple [.pv none (.sl (some 4) (Tm.pvs (YF t).1)),(YF t).2.1.av,.pv none (.bool (YF t).2.2)]),hp):=by
 refine Yb rfl rfl rfl (Yd [(some 4,t.pv)]) rfl ?_;have h1:=fun hp=>yR t hp (by omega);have hn0:=O1;have hb0:=O4;simp only[Tm.av] at h1;cases hv:t.valid with
 |false=>
  have e:YF t=([],zt,false):=by unfold YF;rw[hv,Za (by simp)]
  rw[e];rw[hv] at h1;simp -dsimp -implicitDefEqProofs only[go_sem,seval,↓reduceIte,Tm.av,h1,hn0,hb0,Yc (Zg _)];exact VE (l:=[]) (q:=4) (r:=5) (fz:=false) rfl rfl (by decide)
 |true=>
  rw[hv] at h1;have hz:=valid_size hv;have hlen:=jw _ t rfl;have hinst:=fun hp=>Gs hp;have htyp:=fun hp=>Gp QN (by decide) t hv hp;have hen:QN=[108,105,115,116]:=rfl;simp only[Tm.av] at hinst htyp;rw[hen] at htyp;simp -dsimp -implicitDefEqProofs only[go_sem,seval,↓reduceIte,Tm.av,h1,hn0];refine Yr (fun n st=>∃(t1:Tm) (d:List Tm),n=t1.size/\t1.valid=true/\d++els t1=els t/\tl t1=tl t/\st=⟨[(1,.ptr 0 0),(2,.sl (some 4) 1 d.length 0 d.length),(3,.ptr 2 0),(5,.ptr 4 0)],[.box (some 4) (.pv (some 4) t.pv),.arr (some 4) (Tm.pvs d) false,.box (some 4) (zg 3),.arr (some 4) [] false,.box (some 4) (.pv (some 4) t1.pv),.arr (some 4) [] false]⟩) (n:=t.size) ⟨t,[],rfl,hv,rfl,rfl,rfl⟩ ?_;rintro n st ⟨t1,d,rfl,hv1,he,htl,rfl⟩;have hdl:=congrArg List.length he;rw[Zc] at hdl;by_cases h:cs t1
  ·have hlt:=Tm.zyQ (Xx h.2.2);have v0:=YK hv1 (jv h.2.2);have v1:=YK hv1 (Xx h.2.2);have hcp:=fun hp=>XU (arg0 t1) hp v0 (fit9 v0);have hlim:d.length+1<=lim:=by unfold lim;omega
   have hpl:=Tm.pvs_len d;have k1:=Zj h.1;have k2:=Zj h.2.1;have k3:=Zj (show(t1.args.length:Int)=2 by have:=h.2.2;omega);rw[qn h] at he;simp only[Tm.av] at hcp;simp -dsimp -implicitDefEqProofs only[go_sem,seval,↓reduceIte,zg,Ya,Ye,zV,Tm.pvs_len,k1,k2,k3,hcp,ia0 (Tm.pvs_get (Jj h.2.2)),ia1 (Tm.pvs_get (Jk h.2.2)),hpl,hlim];refine⟨_,hlt,arg1 t1,d++[arg0 t1],rfl,v1,by rw[<-he,Zd];rfl,by rw[<-htl,tl_c h],?_⟩;rw[Tm.zyO,Zc];rfl
  ·rw[qo h,ZF] at he;rw[tl_n h] at htl;have hex:∃A:Prop,A:=⟨True,trivial⟩;have hdef:YF t=if t1.kind=0 then([],instT,false) else if t1.kind=2/\t1.name=[91,93] then(d,zt,true) else([],typT QN t,false):=by
    unfold YF;rw[hv,Zb rfl,<-htl,<-he]
   rw[hdef];have key:(t1.kind=3/\t1.name=[46]/\¬(t1.args.length:Int)=2)\/(t1.kind=3/\¬t1.name=[46])\/¬t1.kind=3:=by
    by_cases k1:t1.kind=3
    ·by_cases k2:t1.name=[46]
     ·exact .inl ⟨k1,k2,fun e=>h ⟨k1,k2,by omega⟩⟩
     ·exact .inr (.inl ⟨k1,k2⟩)
    ·exact .inr (.inr k1)
   rcases key with⟨k1,k2,k3⟩|⟨k1,k2⟩|k1
   ·have m0:¬t1.kind=0:=by omega
    have m2:¬t1.kind=2:=by omega
    rw[Za m0,Za (fun e=>m2 e.1)];simp -dsimp -implicitDefEqProofs only[go_sem,seval,↓reduceIte,zg,hn0,Ya,Ye,zV,Tm.pvs_len,Zj k1,Zj k2,Zl k3,m0,m2,htyp];exact XW (l:=[]) (q:=6) (fz:=false) rfl
   ·have m0:¬t1.kind=0:=by omega
    have m2:¬t1.kind=2:=by omega
    rw[Za m0,Za (fun e=>m2 e.1)];simp -dsimp -implicitDefEqProofs only[go_sem,seval,↓reduceIte,zg,hn0,Ya,Ye,zV,Tm.pvs_len,Zj k1,Zl k2,m0,m2,htyp];exact XW (l:=[]) (q:=6) (fz:=false) rfl
   ·by_cases m0:t1.kind=0
    ·rw[Zb m0];simp -dsimp -implicitDefEqProofs only[go_sem,seval,↓reduceIte,zg,hn0,Ya,Ye,zV,Tm.pvs_len,Zl k1,Zj m0,hinst];exact XW (l:=[]) (q:=6) (fz:=false) rfl
    ·rw[Za m0];by_cases m2:t1.kind=2
     ·by_cases m3:t1.name=[91,93]
      ·rw[Zb ⟨m2,m3⟩];simp -dsimp -implicitDefEqProofs only[go_sem,seval,↓reduceIte,zg,hn0,hb0,Ya,Ye,zV,Tm.pvs_len,Zl k1,Zl m0,Zj m2,Zj m3,Yc (Zg _)];exact VE (l:=d) (q:=1) (r:=6) (fz:=false) rfl rfl (by decide)
      ·rw[Za (fun e=>m3 e.2)];simp -dsimp -implicitDefEqProofs only[go_sem,seval,↓reduceIte,zg,hn0,Ya,Ye,zV,Tm.pvs_len,Zl k1,Zl m0,Zj m2,Zl m3,htyp];exact XW (l:=[]) (q:=6) (fz:=false) rfl
     ·rw[Za (fun e=>m2 e.1)];simp -dsimp -implicitDefEqProofs only[go_sem,seval,↓reduceIte,zg,hn0,Ya,Ye,zV,Tm.pvs_len,Zl k1,Zl m0,Zl m2,htyp];exact XW (l:=[]) (q:=6) (fz:=false) rfl
end Go.Proofs.YtffecaafklpmhaaGreat
