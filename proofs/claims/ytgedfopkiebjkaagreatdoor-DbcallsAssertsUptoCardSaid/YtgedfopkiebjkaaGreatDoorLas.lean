/- What is proved: asserta/1 and assertz/1. -/
import Derived.Test.YtgedfopkiebjkaaGreatDoorBcl
import Derived.Test.YtgedfopkiebjkaaGreatDoorRng
import Derived.Test.YtgedfopkiebjkaaGreatDoorTerm
import Derived.Test.YtgedfopkiebjkaaGreatDoorAm5
import Derived.Test.YtgedfopkiebjkaaGreatDoorDataF
set_option linter.unusedSimpArgs false
set_option linter.unusedVariables false
set_option maxRecDepth 20000
namespace Go.Proofs.YtgedfopkiebjkaaGreatDoor
open Go.Am
theorem Pb{h g:Tm}(hv:h.valid=true)(hk:¬h.kind=0):(Cz.mk h g).can.head.name.length<=100/\(Cz.mk h g).can.head.args.length<=8:=by
 grind [B7,Cz.can,Tm.zBe,Tm.name,Tm.args]
theorem jZ(c:Cz):PV.part deep c.pv 2 none=some (.str c.head.name):=by
 obtain⟨⟨_,_,_,_⟩,_⟩:=c;rfl
theorem j6(c:Cz):PV.part deep c.pv 3 none=some (.sl (some 4) (Tm.pvs c.head.args)):=by
 obtain⟨⟨_,_,_,_⟩,_⟩:=c;rfl
theorem Pc(d:Dbs)(c:Cz)(fr dy:Bool):(addR d c fr dy).2=0\/(addR d c fr dy).2=1\/(addR d c fr dy).2=13:=by
 grind [addR]
def asaN:List UInt8:=[97,115,115,101,114,116,97]
def asrQ(d:Dbs)(g:Tm)(c:Cz)(e:Int)(hp:Heap)(r:Nat)(v:ARes)(hp':Heap):Prop:=
 (∃b:Tm,b.valid=true/\b.kind=3/\v=.panic (xW b)/\hp'=hp)\/
 (∃k:Int,k≠0/\k≠8/\v=.panic (QN k)/\hp'=hp)\/
 (e=0/\yo d c.head.name c.head.args.length=false/\(addR d c (decide (g.name=asaN)) true).2=0/\v=.ret (.tuple [])/\hp'=hp.set r (.box (some 7) (cB (addR d c (decide (g.name=asaN)) true).1 g (.tsl (some 4) [g.pv]))))
theorem Pd(d:Dbs)(hv:okD d=true)(g t:Tm)(hgv:g.valid=true)(hga:g.args=[t])(c:Cz)(b:Tm)(e:Int)(h1:∀hp,S 14 [t.av] hp=some (.ret (.tuple [c.av,b.av,P4 e]),hp))(hP:BalP b e)(z1:c.head.size<100000000)(z2:c.body.size<100000000)(hcn:e=0->∃h g:Tm,h.valid=true/\¬h.kind=0/\c=(Cz.mk h g).can)
  (hp:Heap)(r q:Nat)(hr:hp[r]? =some (.box (some 7) (cB d g (slA q 0)))):
  ∃v hp',S 78 [.ptr r 0] hp=some (v,hp')/\asrQ d g c e hp r v hp':=by
 refine qe (asrQ d g c e hp r) rfl rfl rfl rfl ?_;have hlr:=yN hr;have hr':∀X,(hp++X)[r]? =some (.box (some 7) (cB d g (slA q 0))):=fun X=>by grind
 have e3:Tm.pvs g.args=[t.pv]:=by rw[hga];rfl
 have i0:∀s kk,Yc (some 4) [.pv s (.sl (some 4) [t.pv]),.pv none (.int kk 0)]=some (.iptr (some 4) t.pv 0):=fun _ _=>rfl;have hpan:∀A:Prop,panK true A=A:=fun _=>rfl;simp only[Tm.av,Cz.av] at h1;rcases hP with⟨rfl,hbv,hbk⟩|⟨rfl,rfl⟩|⟨rfl,rfl⟩
 ·have h2:=fun hp=>Bs b hp;simp only[Tm.av] at h2;simp -dsimp -implicitDefEqProofs only[go_sem,seval,YE,hr,hr',QO,xp,e3,h1,h2,hpan,i0,YB,zN,zH (Zf _ _)];exact .inl ⟨b,hbv,hbk,rfl,List.take_left⟩
 ·have h2:=fun hp=>VP 2 (by decide) hp;simp -dsimp -implicitDefEqProofs only[go_sem,seval,YE,hr,hr',QO,xp,e3,h1,h2,hpan,i0,YB,zN,zH (Zf _ _)];exact .inr (.inl ⟨2,by decide,by decide,rfl,List.take_left⟩)
 obtain⟨h,gb,hhv,hhk,hc⟩:=hcn rfl;have hnl:=Pb (g:=gb) hhv hhk;rw[<-hc] at hnl;have h2:=fun hp=>nP hp;have h3:=fun hp=>Bu c.head.name c.head.args.length hnl.1 (by omega) (by omega) hp;have hbd:=xm hv;obtain⟨ti,hti⟩:∃ti,ti=indT c.head.name c.head.args.length:=⟨_,rfl⟩;have htv:ti.valid=true:=by grind [Bn]
 rw[<-hti] at h3;cases hst:yo d c.head.name c.head.args.length with
 |true=>
  have h4:=fun X=>nR d hbd g (slA q 0) c.head.name c.head.args.length ti htv hst (hp++X) r (hr' X);simp only[Tm.av] at h3 h4;simp -dsimp -implicitDefEqProofs only[go_sem,seval,YE,hr,hr',QO,xp,e3,h1,h2,h3,h4,hpan,i0,jZ,j6,Tm.pvs_len,YB,zN,zH (Zf _ _)];exact .inl ⟨perT moN stN ti,(Bm (by decide) (by decide) (by decide) htv).2,rfl,rfl,List.take_left⟩
 |false=>
  have h4:=fun X=>nQ d hbd g (slA q 0) c.head.name c.head.args.length ti hst (hp++X) r (hr' X);obtain⟨fr,hfr⟩:∃fr,fr=decide (g.name=asaN):=⟨_,rfl⟩;have h5:=fun hp=>oY d hbd c z1 z2 fr true hp;have hnil:∀H:Heap,zX A3 H=(A3,H):=fun _=>rfl;have hfr':decide (g.name=[97,115,115,101,114,116,97])=fr:=hfr.symm;obtain⟨dn,hdn⟩:∃dn,dn=(addR d c fr true).1:=⟨_,rfl⟩;obtain⟨en,hen⟩:∃en,en=(addR d c fr true).2:=⟨_,rfl⟩;have her:=Pc d c fr true;rw[<-hen] at her;rw[<-hdn,<-hen] at h5;simp only[Tm.av,Dbs.av,Cz.av] at h3 h4 h5;by_cases he:en=0
  ·have hst2:∀X:Heap,zL (some 2) hp.length (hp++X) [.ptr r 0,.pv (some 2) dn.pv]=some (.undef,hp.set r (.box (some 7) (cB dn g (slA q 0)))++X):=fun X=>by
    grind [nS]
   obtain⟨K,hK⟩:∃K,K=hp.set r (.box (some 7) (cB dn g (slA q 0))):=⟨_,rfl⟩;have hKl:hp.length=K.length:=by grind
   have hKr:∀X,(K++X)[r]? =some (.box (some 7) (cB dn g (slA q 0))):=fun X=>by grind
   have h6:∀X,S 112 [.ptr r 0] (K++X)=some (.ret (.tuple []),hp.set r (.box (some 7) (cB dn g (.tsl (some 4) [g.pv])))++X):=fun X=>by
    grind [nU,List.set_set]
   rw[<-hK] at hst2;rw[he] at h5;simp -dsimp -implicitDefEqProofs only[go_sem,seval,YE,hr,hr',QO,xp,VZ,Jo,e3,h1,h2,h3,h4,h5,h6,hst2,hfr',hnil,hpan,i0,jZ,j6,Tm.pvs_len,YB,zN,zH (Zf _ _)];refine .inr (.inr ⟨rfl,hst,by grind,rfl,?_⟩);rw[<-hfr,<-hdn];exact ZD (by simp)
  ·have h7:=fun hp=>VP en he hp;simp -dsimp -implicitDefEqProofs only[go_sem,seval,YE,hr,hr',QO,xp,VZ,Jo,e3,h1,h2,h3,h4,h5,h7,hfr',hnil,hpan,i0,jZ,j6,Tm.pvs_len,YB,zN,zH (Zf _ _)];exact .inr (.inl ⟨en,he,by omega,rfl,List.take_left⟩)
theorem Pe{l:List B}(h:OKB l)(P:Tm->Prop)(hP:∀b∈l,P b.2):∀(m:Nat) (t:Tm),mu l t=m->t.valid=true->P t->P (flw l t):=by
 intro m
 induction m using Nat.strongRecOn with
 |_ m ih=>
  intro t hm hv hp;by_cases hk:t.kind=0
  ·by_cases hf:fndB l t.n=true
   ·have hlt:=xr h.Acyc hk hf;rw[Ju h.Acyc hk hf];exact ih _ (by omega) (toB l t.n) rfl (h.to hf).1 (hP _ (find_mem hf))
   ·rwa [qn h.Acyc (valid_fits hv) hk hf]
  grind [xu]
structure Gen(l:List B)(r:List (Tm × Tm)):Prop where
 var:∀p∈r,p.1.kind=0/\fndB l p.1.n=false
 away:∀p∈r,∀q∈r,p.1.n ∉ q.2.occ
 out:∀p∈r,∀b∈l,p.1.n ∉ b.2.occ
 diff:r.Pairwise fun p q=>p.1.n≠q.1.n
theorem vC:∀(n:Nat) (l:List B) (r:List (Tm × Tm)),OKB l->(∀p∈r,p.1.valid=true/\p.2.valid=true)->Gen l r->(uni n l r).2≠4
 |n,l,[],_,_,_=>by grind [BN]
 |0,l,_::_,_,_,_=>by grind [BO]
 |n+1,l,p::r,hO,hv,hG=>by
  have hvp:=hv p Zx;have hvr:=fun q hq=>hv q (Zm p hq);obtain⟨k0,f0⟩:=hG.var p Zx;have hx:=qn hO.Acyc (valid_fits hvp.1) k0 (by grind);have hxf:=xw hO hvp.1;rw[hx] at hxf;have hyf:=xw hO hvp.2;have hya:∀q∈r,q.1.n ∉ (flw l p.2).occ:=fun q hq=>Pe hO (fun t=>q.1.n ∉ t.occ) (hG.out q (Zm _ hq)) _ _ rfl hvp.2 (hG.away q (Zm _ hq) p Zx);have hdf:=zj.1 hG.diff;have hxo:p.1.occ=[p.1.n]:=by grind [Tm.zA8]
  have hxa:∀q∈r,q.1.n ∉ p.1.occ:=fun q hq hm=>by
   grind
  cases hu:ustep l p.1 (flw l p.2) with
  |err e=>
   rw[BP r (by rw[hx];exact hu)]
   grind [ustep]
  |bind v t=>
   rw[BQ r (by rw[hx];exact hu)];have hb:=BV hO hxf hyf hu;have hvt:(∀q∈r,q.1.n≠v)/\∀q∈r,q.1.n ∉ t.occ:=by
    grind [Tm.zA8,ustep]
   refine vC n _ r (BT hO hb.unb hb.rng hb.val hb.out) hvr ⟨fun q hq=> ?_,fun a ha b hb=>hG.away a (Zm _ ha) b (Zm _ hb),fun q hq b hb'=> ?_,hdf.2⟩
   ·obtain⟨k1,f1⟩:=hG.var q (Zm _ hq);refine⟨k1,?_⟩;cases e:fndB (insB l v t) q.1.n with
    |false=>rfl
    |true=>
     rcases(qo hO.good hb.unb _).1 e with h|h
     ·grind
     grind
   ·rcases Jr hb' with rfl|h
    ·grind
    ·exact hG.out q (Zm _ hq) b h
  |args xs=>
   rw[Jw r (by rw[hx];exact hu)];have e:xs=[]:=by
    grind [ustep]
   subst e;exact vC n l r hO hvr ⟨fun q hq=>hG.var q (Zm _ hq),fun a ha b hb=>hG.away a (Zm _ ha) b (Zm _ hb),fun q hq=>hG.out q (Zm _ hq),hdf.2⟩
def genT(s:List UInt8)(k:Nat):Tm:=if k=0 then zR s else strT s ((List.range k).map fun i:Nat=>tvar (i:Int))
theorem vD(s:List UInt8)(k:Nat):(genT s k).args=(List.range k).map fun i:Nat=>tvar (i:Int):=by
 unfold genT;split
 ·rename_i h;rw[h];rfl
 ·rfl
theorem bB(s:List UInt8)(k:Nat):(genT s k).name=s:=by
 unfold genT;split <;> rfl
theorem Pf(s:List UInt8)(k:Nat):(genT s k).kind=2\/(genT s k).kind=3:=by
 unfold genT;split
 ·exact .inl rfl
 ·exact .inr rfl
theorem Pg{n:Int}(h:0<=n/\n<=1099511627776):(tvar n).valid=true:=xj (Jv h) (by show 1<=2000;omega)
theorem vE:∀{l:List Tm},(∀t∈l,t.fits=true)->Tm.fitsAll l=true
 |[],_=>rfl
 |t::r,h=>by rw[Tm.fitsAll,h t (by simp),vE fun u hu=>h u (by grind)];rfl
theorem bC(s:List UInt8)(k:Nat)(h:k<=8):(genT s k).size=k+1:=by
 match k,h with
 |0,_|1,_|2,_|3,_|4,_|5,_|6,_|7,_|8,_=>rfl
theorem bD{s:List UInt8}{k:Nat}(hs:s.length<=100)(h:k<=8):(genT s k).fits=true:=by
 unfold genT
 grind [valid_fits,xU,XY,vE,Jv]
theorem bE{d:Int}{t:Tm}(hf:t.fits=true){w:Int}(h:w∈(shT d t).occ):d<=w:=by
 rw[B5] at h;obtain⟨x,hx,rfl⟩:=ZM.1 h;have:=gk hf x hx;omega
theorem bF{d:Int}{t:Tm}(h:¬t.kind=0):shT d t=.mk t.kind t.n t.name (t.args.map (shT d)):=by grind [QP,jS]
theorem bG{f:Int->Int}(hf:∀a b,f a=f b->a=b):∀(ws s:List Int),vads (s.map f) (ws.map f)=(vads s ws).map f
 |[],s=>rfl
 |w::r,s=>by
  show vads (vadd (s.map f) (f w)) (r.map f)=(vads (vadd s w) r).map f;rw[<-bG hf r (vadd s w)]
  grind [vadd]
theorem bH(d:Int)(v:Int):∀L:List Int,(L.map (·+d)).idxOf (v+d)=L.idxOf v
 |[]=>rfl
 |x::r=>by
  rw[ZU,zB,zB,bH d v r]
  grind
theorem Ph(d:Int)(L:List Int):∀t:Tm,Tm.sub (cPos (L.map (·+d))) (shT d t)=Tm.sub (cPos L) t:=by
 intro t
 induction t using Tm.zA6 with
 |h t ih=>
  rw[QP,Tm.zBe _ t];split
  ·rename_i hk;rw[Tm.zBe];show tvar ((L.map (·+d)).idxOf (t.n+d):Nat)=_;rw[bH];rfl
  ·rename_i hk;rw[Tm.zBe,Zb (by exact hk)];show Tm.mk t.kind t.n t.name ((shTs d t.args).map (Tm.sub (cPos (L.map (·+d)))))=_;simp_all[jS]
theorem Pi(d:Int)(t:Tm):canT (shT d t)=canT t:=by
 unfold canT;rw[B5];have e:=bG (f:=(·+d)) (fun a b h=>by grind) t.occ []
 grind [Ph]
theorem bI(d:Int):∀t:Tm,t.fits=true->(shT d t).size=t.size:=by
 intro t
 induction t using Tm.zA6 with
 |h t ih=>
  intro hf;have hl:∀l:List Tm,(∀u∈l,u∈t.args)->Tm.sizes (shTs d l)=Tm.sizes l:=by
   intro l
   induction l with
   |nil=>intro _;rfl
   |cons x r ihr=>
    grind [Tm.zA7,Tm.sizes,shTs]
  have:=hl t.args fun _ h=>h;rw[QP,t.size_eq];split
  ·rename_i hk;rw[yx hf hk];rfl
  ·show 1+Tm.sizes (shTs d t.args)=_;omega
theorem Pj{d:Dbs}(hv:okD d=true){p:Prc}(hp:p∈d.procs):∀s∈p.cls,okS d.next p s:=((Xg d).1 hv).2.2.2.2.2.2.2 p hp
theorem vF{d:Dbs}(hv:okD d=true){p:Prc}(hp:p∈d.procs):p.name.length<=100/\0<=p.ar/\p.ar<=8:=by
 have h:=((Xg d).1 hv).2.2.2.2.1 p hp
 grind [namB]
theorem Pk{d:Dbs}(hv:okD d=true){p:Prc}(hp:p∈d.procs){k:Nat}{x:Sto}(hx:p.cls[k]? =some x):
  (eraR d x.id).2=true/\okD (eraR d x.id).1=true/\(eraR (eraR d x.id).1 x.id).2=false/\Ys (eraR d x.id).1 p.name p.ar=some ⟨p.name,p.ar,p.dyn,p.cls.take k++p.cls.drop (k+1)⟩:=by
 have hm:x.id∈ids d.procs:=mem_ids.2 ⟨p,hp,x,Zj hx,rfl⟩;have h2:=eraR_iff.2 ⟨hv,hm⟩;obtain⟨-,-,e,hok,-,hout⟩:=bj h2;refine⟨h2,hok,?_,(xl hok _ _ _).2 ⟨?_,rfl,rfl⟩⟩
 ·grind [eraR_iff]
 ·have hd:=((Xg d).1 hv).2.2.2.2.2.2.1;have hnd:(p.cls.map (·.id)).Nodup:=by
   obtain⟨i,hi,rfl⟩:=List.getElem_of_mem hp;rw[QL (Zd hi),VF,XX] at hd
   grind
  rw[e,bg hx hnd];exact ZM.2 ⟨p,hp,rfl⟩
theorem a_ok(s:List UInt8)(hp:Heap):S 23 [P6 s] hp=some (.ret (zR s).av,hp):=by
 refine zM rfl rfl rfl (zJ [(none,.str s)]) rfl ?_;have hbu:zT A0 [0,2] [P4 2,P6 s]=some (.agg [(none,P4 2),(none,P4 0),(none,P6 s),(none,.tsl (some 4) [])]):=rfl;simp -dsimp -implicitDefEqProofs only[go_sem,seval,hbu];exact⟨_,rfl⟩
theorem f_ok(s:List UInt8)(l:List Tm)(hp:Heap):S 6 [P6 s,.pv none (.sl (some 4) (Tm.pvs l))] hp=some (.ret (strT s l).av,hp):=by
 refine Yk rfl rfl rfl rfl ?_;have hbu:zT A0 [0,2,3] [P4 3,P6 s,.pv none (.sl (some 4) (Tm.pvs l))]=some (.pv (some 4) (strT s l).pv):=rfl;simp -dsimp -implicitDefEqProofs only[go_sem,seval,hbu,Tm.av,zN,zH (Zc _)];simp[AV.refsIn]
def sA(s:List UInt8)(l:List Tm):AV:=.agg [(none,P4 3),(none,P4 0),(none,P6 s),(none,.tsl (some 4) (Tm.pvs l))]
theorem bJ(s:List UInt8)(l:List Tm)(hl:l≠[])(hp:Heap):S 6 [P6 s,.tsl (some 4) (Tm.pvs l)] hp=some (.ret (sA s l),hp):=by
 refine Yk rfl rfl rfl rfl ?_;have hbu:zT A0 [0,2,3] [P4 3,P6 s,.tsl (some 4) (Tm.pvs l)]=some (sA s l):=rfl;unfold sA at hbu;have hown:∀H:Heap,zX [(none,.tsl (some 4) (Tm.pvs l))] H=([(none,.tsl (some 4) (Tm.pvs l))],H):=fun H=>by
  cases l with
  |nil=>exact absurd rfl hl
  |cons x r=>rfl
 simp -dsimp -implicitDefEqProofs only[go_sem,seval,hbu,Tm.av,zN,hown,zH (Zc _)];simp[AV.refsIn,AV.refsIn.go,sA]
theorem bK(a b:Tm)(ha:a.size<1000000000)(hb:b.size<1000000000):W Z L 0 (g13).code ⟨params 0 (pvs [(some 4,a.pv),(some 4,b.pv)]),[]⟩ (endK (g13).results (Am.frozen (P5 (same a b)))):=by
 have h1:=fun hp=>qb a b hp ha hb;simp only[Tm.av] at h1;simp -dsimp -implicitDefEqProofs only[go_sem,seval,h1]
theorem j7(a b:Tm)(hp:Heap)(ha:a.size<1000000000)(hb:b.size<1000000000):S 13 [a.av,b.av] hp=some (.ret (P5 (same a b)),hp):=
 zM rfl rfl rfl (zJ [(some 4,a.pv),(some 4,b.pv)]) rfl (bK a b ha hb)
def zV:AV:=.agg A0
theorem Pl(a:Tm)(hp:Heap)(ha:a.size<1000000000):S 13 [a.av,zV] hp=some (.ret (P5 (same a zt)),hp):=
 zM (ps:=[(some 4,a.pv),(some 4,zt.pv)]) rfl rfl rfl rfl rfl (bK a zt ha (by decide))
theorem vG{g:Tm}(h:g.valid=true):same g g=true:=by simp[same,h,Tm.zBf]
theorem Pm:same zt zt=true:=by decide
theorem vI{H:Heap}{q:Nat}{z:Bool}(h:H[q]? =some (.arr (some 4) [] z)):AV.freeze deep (zg q) H=some (zt.pv,H.set q (.arr (some 4) [] true)):=by
 have e:=P0
 show AV.freeze (7+1) (.agg _) _=_;simp[e,AV.freeze.go,AV.freeze,h];rfl
theorem x_ok(n:Int)(hp:Heap):S 21 [P4 n] hp=some (.ret (tvar n).av,hp):=by
 refine zM rfl rfl rfl (zJ [(none,.int .i64 n)]) rfl ?_;have hbu:zT A0 [1] [P4 n]=some (.agg [(none,P4 0),(none,P4 n),(none,P6 []),(none,.tsl (some 4) [])]):=rfl;simp -dsimp -implicitDefEqProofs only[go_sem,seval,hbu];exact⟨_,rfl⟩
def strA(s:List UInt8)(q k:Nat):AV:=.agg [(none,P4 3),(none,P4 0),(none,P6 s),(none,.sl (some 4) q k 0 k)]
theorem Pn(s:List UInt8)(hp:Heap):S 6 [P6 s,.tsl (some 4) []] hp=some (.ret (strA s (hp.length+2) 0),hp++[.box (some 4) (strA s (hp.length+2) 0),.arr (some 4) [] false,.arr (some 4) [] false]):=by
 refine Yk rfl rfl rfl rfl ?_;have hbu:zT A0 [0,2,3] [P4 3,P6 s,.tsl (some 4) []]=some (.agg [(none,P4 3),(none,P4 0),(none,P6 s),(none,.tsl (some 4) [])]):=rfl;simp -dsimp -implicitDefEqProofs only[go_sem,seval,hbu,Tm.av,zN,zH (Zc _)];simp[AV.refsIn,AV.refsIn.go,strA]
def gnX(s:List UInt8)(n k:Nat):Heap:=[.box (some 4) (strA s (n+4) k),.arr (some 4) [] false,.box (some 4) (strA s (n+4) 0),.arr (some 4) [] false,.arr (some 4) (Tm.pvs ((List.range k).map fun i:Nat=>tvar (i:Int))) false,.box (some 4) (strA s (n+4) k),.arr (some 4) [] false]
theorem bL(i:Nat):(Tm.pvs ((List.range i).map fun i:Nat=>tvar (i:Int))).length=i:=by grind [Tm.pvs_len]
theorem Po(s:List UInt8)(k:Nat)(h0:0<k)(h8:k<=8)(hp:Heap):S 20 [P6 s,P4 (k:Int)] hp=some (.ret (.tuple [strA s (hp.length+4) k,P4 k]),hp++gnX s hp.length k):=by
 refine Yk rfl rfl rfl rfl ?_;have h1:=fun hp=>Pn s hp;have k0:((k:Int)=0)=False:=Zi (by omega);unfold strA at h1;simp -dsimp -implicitDefEqProofs only[go_sem,seval,k0,h1,zN,zH (Zf _ _)];refine Ye (α:=Unit) k (fun _ _=>True) (fun i _=>⟨[(1,P4 k),(4,.ptr hp.length 0),(6,.ptr (hp.length+5) 0),(14,P4 k),(15,P4 i)],hp++[.box (some 4) (zg (hp.length+1)),.arr (some 4) [] false,.box (some 4) (strA s (hp.length+4) 0),.arr (some 4) [] false,.arr (some 4) (Tm.pvs ((List.range i).map fun i:Nat=>tvar (i:Int))) false,.box (some 4) (strA s (hp.length+4) i),.arr (some 4) [] false]⟩) () ⟨trivial,rfl⟩ ?_ ?_
 ·rintro i - hi -;have hc:(i:Int)<(k:Int):=by omega
  have w1:IntKind.i64.wrap ((i:Int)+1)=((i+1:Nat):Int):=by grind [zW]
  have w2:IntKind.i64.wrap (i:Int)=(i:Int):=zW (by omega) (by omega);have hl:=bL i;have hsn:Tm.pvs ((List.range i).map fun i:Nat=>tvar (i:Int))++[(tvar i).pv]=Tm.pvs ((List.range (i+1)).map fun i:Nat=>tvar (i:Int)):=by
   grind [List.range_succ,Tm.zBi]
  have h2:=fun hp=>x_ok i hp;have hlim:i+1<=lim:=by grind [lim]
  simp only[Tm.av] at h2;obtain⟨es,he⟩:∃es,es=Tm.pvs ((List.range i).map fun i:Nat=>tvar (i:Int)):=⟨_,rfl⟩;obtain⟨es',he'⟩:∃es,es=Tm.pvs ((List.range (i+1)).map fun i:Nat=>tvar (i:Int)):=⟨_,rfl⟩;rw[<-he,<-he'] at hsn;rw[<-he] at hl;rw[<-he,<-he'];have hap:∀a b c d e f:AObj,Yg (some 4) (hp++[a,b,c,d,.arr (some 4) es false,e,f]) [.sl (some 4) (hp.length+4) i 0 i,.tsl (some 4) [(tvar i).pv]]=some (.sl (some 4) (hp.length+4) (i+1) 0 (i+1),hp++[a,b,c,d,.arr (some 4) es' false,e,f]):=fun a b c d e f=>by
   simp_all[Yg,aappend,elems]
  have hpt:AV.part deep (strA s (hp.length+4) i) 3 none=some (.sl (some 4) (hp.length+4) i 0 i):=rfl;have hup:AV.upd deep (strA s (hp.length+4) i) 3 none (.sl (some 4) (hp.length+4) (i+1) 0 (i+1))=some (strA s (hp.length+4) (i+1)):=rfl;have hst:∀a b c d e f:AObj,zL none hp.length (hp++[a,b,c,d,e,.box (some 4) (strA s (hp.length+4) i),f]) [.ptr (hp.length+5) 3,.sl (some 4) (hp.length+4) (i+1) 0 (i+1)]=some (.undef,hp++[a,b,c,d,e,.box (some 4) (strA s (hp.length+4) (i+1)),f]):=fun a b c d e f=>by
   simp[zL,astore,YR,Vm,AV.plain,AV.shp,AV.own,hup]
  have hsp:∀(a b c d e f:AObj) (j:Nat),Yx (hp++[a,b,c,d,e,.box (some 4) (strA s (hp.length+4) i),f]) (hp++[a,b,c,d,e,.box (some 4) (strA s (hp.length+4) i),f]) (.ptr (hp.length+5) j)=true:=fun a b c d e f j=>by
   simp[Yx,YR,AObj.beq,strA,AV.beq,AV.beqc,PV.beq]
  simp -dsimp -implicitDefEqProofs only[go_sem,seval,hc,w1,w2,xi,ZK,ZW,ZO,ZQ,h2,hap,hpt,hst,hsp];exact⟨(),congrArg (St.mk _) (QA (by simp))⟩
 ·rintro - -;have hc:¬(k:Int)<(k:Int):=by omega
  unfold strA;simp -dsimp -implicitDefEqProofs only[go_sem,seval,hc,zN,zH (Zc _)];rw[qc rfl (XV ..)];simp[AV.refsIn,AV.refsIn.go,AV.refsIn.gol,gnX,strA]
theorem Pp(s:List UInt8)(hp:Heap):S 20 [P6 s,P4 0] hp=some (.ret (.tuple [(zR s).av,P4 0]),hp):=by
 refine Yk rfl rfl rfl rfl ?_;have h1:=fun hp=>a_ok s hp;simp only[Tm.av] at h1;simp -dsimp -implicitDefEqProofs only[go_sem,seval,h1,zN];rw[qc rfl (XV ..)];simp[AV.refsIn,AV.refsIn.gol,Tm.av]
theorem Pq(d:Dbs)(hbd:BndD d)(g:Tm)(hz:g.size<1000000000)(h:okD d=false\/(okD d=true/\g.valid=false)\/(okD d=true/\g.valid=true/\same g (canR g)=false))(hp:Heap)(hb:Bq hp):
  S 11 [d.av,g.av] hp=some (.ret (.tuple [Yb,.sl (some 4) (hp.length+6) 0 0 0,zg (hp.length+7),P4 1]),hp++[.box (some 2) (.pv (some 2) d.pv),.box (some 4) (.pv (some 4) g.pv),.box (some 2) Yb,.arr (some 4) [] false,.box (some 4) (zg (hp.length+7)),.arr (some 4) [] false,.arr (some 4) [] false,.arr (some 4) [] false]):=by
 have h1:=fun hp=>yP d hbd.1 hbd.2.1 hbd.2.2 hp;have h2:=fun hp=>Y8 g hp hz;have hz0:=P1;have hz1:zT A1 [] []=some Yb:=rfl;have hnil:∀H:Heap,zX A3 H=(A3,H):=fun _=>rfl;have hn0:=P3;simp only[Tm.av,Dbs.av] at h1 h2;refine Yk rfl rfl rfl rfl ?_;rcases h with e|⟨e,e'⟩|⟨e,e',e''⟩
 ·rw[e] at h1;simp -dsimp -implicitDefEqProofs only[go_sem,seval,Tm.av,Dbs.av,Yb,h1,hz0,hz1,hnil,hn0,zN,zH (Zf _ _)];simp[YI,Fr.look,aload,Xo,YR,XV,Yb,zg,AV.shp,total,Sh.size,tupO,XQ,valK,AV.refsIn,AV.refsIn.gol,AV.refsIn.go]
 ·rw[e] at h1;rw[e'] at h2;simp -dsimp -implicitDefEqProofs only[go_sem,seval,Tm.av,Dbs.av,Yb,h1,h2,hz0,hz1,hnil,hn0,zN,zH (Zf _ _)];simp[YI,Fr.look,aload,Xo,YR,XV,Yb,zg,AV.shp,total,Sh.size,tupO,XQ,valK,AV.refsIn,AV.refsIn.gol,AV.refsIn.go]
 ·rw[e] at h1;rw[e'] at h2;have hcz:(canR g).size<1000000000:=by
   grind [canR,vk]
  have h3:=fun hp=>jU g hp hz;have h4:=fun hp=>QE g (canR g) hp hz hcz;rw[e''] at h4;have hzg:=fun q=>jW (some 4) q;simp only[Tm.av,zg] at h3 h4 hzg;simp -dsimp -implicitDefEqProofs only[go_sem,seval,Tm.av,Dbs.av,Yb,h1,h2,h3,h4,hz0,hz1,hnil,hn0,ZK,ZW,ZO,ZQ,jY,zN,zH (Zf _ _)];simp[YI,Fr.look,aload,Xo,YR,XV,Yb,zg,AV.shp,total,Sh.size,tupO,XQ,valK,AV.refsIn,AV.refsIn.gol,AV.refsIn.go]
def CErr(d:Dbs)(g:Tm)(H:Heap):Prop:=∃(X:Heap) (a:Nat) (bv:AV) (e:Int),S 11 [d.av,g.av] H=some (.ret (.tuple [Yb,.sl (some 4) a 0 0 0,bv,P4 e]),H++X)/\e≠0/\((e=8/\∃b:Tm,bv=b.av/\b.valid=true/\b.kind=3)\/(e≠8/\∃q,bv=zg (H.length+q)/\X[q]? =some (.arr (some 4) [] false)))
theorem bM{d:Dbs}(hbd:BndD d){g:Tm}(hz:g.size<1000000000)(h:okD d=false\/(okD d=true/\g.valid=false)\/(okD d=true/\g.valid=true/\same g (canR g)=false)){hp:Heap}(hb:Bq hp):CErr d g hp:=
 ⟨_,_,_,_,Pq d hbd g hz h hp hb,by decide,.inr ⟨by decide,7,rfl,rfl⟩⟩
theorem Ps(d:Dbs)(hv:okD d=true)(g t:Tm)(hg:GK g 78)(hga:g.args=[t])(c:Cz)(b:Tm)(e:Int)(h1:∀hp,S 14 [t.av] hp=some (.ret (.tuple [c.av,b.av,P4 e]),hp))(hP:BalP b e)(z1:c.head.size<100000000)(z2:c.body.size<100000000)(hcn:e=0->∃h g:Tm,h.valid=true/\¬h.kind=0/\c=(Cz.mk h g).can)(hp:Heap)(hb:Bq hp):
  CErr d g hp\/
  (e=0/\yo d c.head.name c.head.args.length=false/\(addR d c (decide (g.name=asaN)) true).2=0/\∃X,S 11 [d.av,g.av] hp=some (.ret (.tuple [(addR d c (decide (g.name=asaN)) true).1.av,.sl (some 4) (hp.length+3) 1 0 1,zg (hp.length+13),P4 0]),hp++X)/\X[3]? =some (.arr (some 4) [g.pv] false)/\X[13]? =some (.arr (some 4) [] false)):=by
 obtain⟨v,hp',hS,hQ⟩:=Pd d hv g t hg.v hga c b e h1 hP z1 z2 hcn (hp++y9 d g hp.length++x3 (hp++y9 d g hp.length).length) (hp.length+7) (hp.length+8) (y9_r ..);have h9:(hp++y9 d g hp.length).length=hp.length+9:=by rw[Z6];rfl
 rcases hQ with⟨b',hbv,hbk,rfl,rfl⟩|⟨k,hk0,hk8,rfl,rfl⟩|⟨he,hst,hz,rfl,rfl⟩
 ·obtain⟨X,hX,-,-⟩:=oK d hv g _ hg hp hb _ (oJ _ (hp++y9 d g hp.length) _ _ hS);exact .inl ⟨X,_,_,8,hX,by decide,.inl ⟨rfl,b',rfl,hbv,hbk⟩⟩
 ·have hr:=bn _ (hp++y9 d g hp.length) _ (hp.length+7) rfl k hS;rw[h9,Zn] at hr;obtain⟨X,hX,-,hX10⟩:=bp d hv g _ hg hp hb k hk0 _ _ hr;exact .inl ⟨X,_,_,k,hX,hk0,.inr ⟨hk8,10,rfl,hX10⟩⟩
 ·refine .inr ⟨he,hst,hz,?_⟩;obtain⟨m,hm⟩:∃m,m=(addR d c (decide (g.name=asaN)) true).1:=⟨_,rfl⟩;have hmv:okD m=true:=by simp_all[bA]
  rw[<-hm] at hS ⊢;have e1:(hp++y9 d g hp.length++x3 (hp++y9 d g hp.length).length).set (hp.length+7) (.box (some 7) (cB m g (.tsl (some 4) [g.pv])))=hp++[.box (some 2) (.pv (some 2) d.pv),.box (some 4) (.pv (some 4) g.pv),.box (some 2) Yb,.arr (some 4) [] false,.box (some 4) (zg (hp.length+5)),.arr (some 4) [] false,.map none (YJ 8 prS prN prF),.box (some 7) (cB m g (.tsl (some 4) [g.pv])),.arr (some 4) [] false]++x3 (hp++y9 d g hp.length).length:=by
   simp_all[y9]
  rw[e1] at hS;have hr:=bm _ (hp++y9 d g hp.length) _ (hp.length+7) (by simp_all) hS;rw[h9,Zn] at hr;exact bq d hv g _ hg hp hb m (.tsl (some 4) [g.pv]) [g] [] (fun t ht=>by rw[List.mem_singleton.1 ht];exact hg.v) (by simp) (bw hmv) rfl rfl (fun i u hu=>by
   cases i with
   |zero=>
    cases hu;exact⟨_,fun kk=>rfl,fun x0 x1 x2 x3 x4 x5 x6 X=>rfl⟩
   |succ i=>grind) hr
theorem Pt(d:Dbs)(hv:okD d=true)(g h x:Tm)(hgv:g.valid=true)(hga:g.args=[h,x])(hh:h.kind≠0/\h.kind≠1)(hx:x.kind=0)
  (p:Prc)(hf:Ys d h.name h.args.length=some p)(hs:yo d h.name h.args.length=false)
  (hcl:∀s∈p.cls,s.cl.head.valid=true/\s.cl.body.valid=true/\movable (Yq g) s.cl.head=true/\movable (Yq g) s.cl.body=true)
  (hfr:0<=Yq g/\Yq g<=1099511627776)
  (hun:∀s∈p.cls,(ansC g (Yq g) s).valid=true->(uni 1048576 [] [(g,ansC g (Yq g) s)]).2≠4)
  (hp:Heap)(r q:Nat)(hr:hp[r]? =some (.box (some 7) (cB d g (slA q 0))))(hq:hp[q]? =some (.arr (some 4) [] false)):
  ∃v hp',S 82 [.ptr r 0] hp=some (v,hp')/\clsQ d g p.cls hp r q v hp':=by
 refine qe (clsQ d g p.cls hp r q) rfl rfl rfl rfl ?_;have hlr:=yN hr;have hlq:=yN hq;have hr':∀X,(hp++X)[r]? =some (.box (some 7) (cB d g (slA q 0))):=fun X=>by grind
 have hha:h∈g.args:=by grind
 have hhv:h.valid=true:=XB hgv hha;have h1:=fun hp=>Ob h hhv hh.1 hh.2 hp;obtain⟨hhn,hh8⟩:=B7 hhv;have e3:Tm.pvs g.args=[h.pv,x.pv]:=by rw[hga];rfl
 have h3:=fun hp=>Bu h.name h.args.length hhn (by omega) (by omega) hp;have hbd:=xm hv;have hgz:=fit9 hgv;have i0:∀s kk,Yc (some 4) [.pv s (.sl (some 4) [h.pv,x.pv]),.pv none (.int kk 0)]=some (.iptr (some 4) h.pv 0):=fun _ _=>rfl;have i1:∀s kk,Yc (some 4) [.pv s (.sl (some 4) [h.pv,x.pv]),.pv none (.int kk 1)]=some (.iptr (some 4) x.pv 0):=fun _ _=>rfl;have hstn:∀(H:Heap) (v:AV) (k:Nat) (s:Sh) (e:PV) (f:Nat),yi (some 4) hp.length H [.ptr hp.length 0,v,.ptr r k,.iptr s e f]=zL (some 4) hp.length H [.ptr hp.length 0,v]:=fun H v k s e f=>by
  grind [ZP,yi,zL,X5]
 have h4:=fun X=>VQ d hbd g (slA q 0) h.name h.args.length (hp++X) r (hr' X);rw[hs] at h4;have h5:=fun hp=>jG d hbd h.name h.args.length hp;rw[hf] at h5;have h6:=fun hp=>B2 g hgv hp;have hil:(ints (vads [] g.occ)).length=(vads [] g.occ).length:=Y9 _;simp only[Tm.av,Dbs.av,zx,Option.isSome_some,Prc.av] at h1 h3 h4 h5 h6;simp -dsimp -implicitDefEqProofs only[go_sem,seval,YE,hr,hr',QO,xp,e3,h1,h3,h4,h5,h6,hil,i0,i1,hstn,hx,Jo,YG,zU,zO,zK,Tm.pvs_len,zN,zH (Zf _ _)];obtain⟨E,hE⟩:∃E:Heap,E=[.box (some 4) (.pv (some 4) h.pv),.arr (some 4) [] false,.box (some 4) (.pv (some 4) x.pv),.arr (some 4) [] false,.box (some 4) (.pv (some 4) zt.pv),.arr (some 4) [] false,.box (some 4) (.pv (some 4) p.pv),.arr (some 9) [] false]:=⟨_,rfl⟩;have hEl:E.length=8:=by simp_all
 have hEr:E.all (fun o=>o.refs.isEmpty)=true:=by rw[hE];rfl
 rw[<-hE];clear h1 h3 h4 h5 h6 hE hstn i0 i1 hr';have hrq:r≠q:=fun e=>by grind
 have hAl:∀L,(AH hp r q d g L).length=hp.length:=fun L=>by simp[AH]
 have hAr:∀L X,(AH hp r q d g L++X)[r]? =some (.box (some 7) (cB d g (slA q L.length))):=fun L X=>by
  grind [AH]
 have hAq:∀L X,(AH hp r q d g L++X)[q]? =some (.arr (some 4) (Tm.pvs L) false):=fun L X=>by
  grind [AH]
 have hAn:∀(L:List Tm) (t:Tm) (X:Heap),((AH hp r q d g L++X).set q (.arr (some 4) (Tm.pvs (L++[t])) false)).set r (.box (some 7) (cB d g (slA q (L.length+1))))=AH hp r q d g (L++[t])++X:=fun L t X=>by
  rw[List.set_append_left _ _ (by grind),List.set_append_left _ _ (by grind)]
  congr 1
  simp only[AH,Z6,ZZ,zy,ZI];refine ZY fun j=> ?_
  grind
 have hA0:AH hp r q d g []=hp:=by
  have e1:hp.set q (.arr (some 4) [] false)=hp:=ZY fun j=>by
   grind
  have e2:hp.set r (.box (some 7) (cB d g (slA q 0)))=hp:=ZY fun j=>by
   grind
  show(hp.set q (.arr (some 4) [] false)).set r (.box (some 7) (cB d g (slA q 0)))=hp
  grind
 have hc5:p.cls.length<=500:=jV hv hf;have hgl:g.args.length=2:=by grind
 obtain⟨A,hA⟩:∃A:Sto->Tm,A=ansC g (Yq g):=⟨_,rfl⟩;refine Ye (α:=Unit) p.cls.length (fun i _=>∀x∈p.cls.take i,(ansC g (Yq g) x).valid=true) (fun i _=>⟨[(0,.ptr r 0),(8,P5 false),(12,P4 (Yq g)),(116,.pv none (.sl (some 9) (Sto.pvs p.cls))),(117,P4 p.cls.length),(118,P4 i)],AH hp r q d g ((p.cls.take i).map (ansC g (Yq g)))++E⟩) () ⟨fun x hx=>by grind,by rw[zl,List.map_nil,hA0,Sto.pvs_len];rfl⟩ ?_ ?_
 ·rintro i - hi hinv;obtain⟨c,hc⟩:∃c,p.cls[i]? =some c:=⟨_,Zd hi⟩;obtain⟨L,hL⟩:∃L,L=(p.cls.take i).map (ansC g (Yq g)):=⟨_,rfl⟩;have hLl:L.length=i:=by grind
  have hci:(i:Int)<(p.cls.length:Int):=by omega
  have hcm:=Zj hc;obtain⟨c1,c2,m1,m2⟩:=hcl c hcm;have hx:=zQ (sh:=some 9) (s:=none) (s':=none) (k:=.i64) (Sto.pvs_get hc);have t1:PV.part deep c.pv 1 (some 4)=some c.cl.head.pv:=rfl;have t2:PV.part deep c.pv 5 (some 4)=some c.cl.body.pv:=rfl;have hf0:0<=Yq g/\Yq g<=1099511627776:=hfr;have h1:=fun hp=>B3 c.cl.head c1 (Yq g) hf0.1 hf0.2 hp;have h2:=fun hp=>B3 c.cl.body c2 (Yq g) hf0.1 hf0.2 hp;rw[Zh m1,Zh m1] at h1;rw[Zh m2,Zh m2] at h2;obtain⟨a,ha⟩:∃a,a=ansC g (Yq g) c:=⟨_,rfl⟩;obtain⟨hd,hhd⟩:∃t,t=shT (Yq g) c.cl.head:=⟨_,rfl⟩;obtain⟨bd,hbd⟩:∃t,t=shT (Yq g) c.cl.body:=⟨_,rfl⟩;have ha':a=ansT g [hd,bd]:=by grind [ansC]
  rw[<-hhd] at h1;rw[<-hbd] at h2;have h4:∀(X:Heap) (s:Nat),(AH hp r q d g L++X)[s]? =some (.arr (some 4) [hd.pv,bd.pv] false)->S 117 [.ptr r 0,.sl (some 4) s 2 0 2] (AH hp r q d g L++X)=some (.ret (.tuple []),AH hp r q d g (L++[a])++X):=fun X s hs=>by
   have:=Oa d g (by omega) (by omega) L [hd,bd] (by omega) (by grind) (AH hp r q d g L++X) r q s (hAr L X) (hAq L X) hs
   grind
  obtain⟨K,hK⟩:∃K,K=AH hp r q d g L:=⟨_,rfl⟩;obtain⟨K2,hK2⟩:∃K,K=AH hp r q d g (L++[a]):=⟨_,rfl⟩;have hKl:hp.length=K.length:=by grind
  have hKl2:K2.length=K.length:=by grind
  have hbslo:∀H:Heap,X7 (some 4) H [.pv (some 4) hd.pv,.pv (some 4) bd.pv]=some (.sl (some 4) H.length 2 0 2,H++[.arr (some 4) [hd.pv,bd.pv] false]):=fun H=>rfl;have h5:∀x1 x2 x3 x4 x5:AObj,S 117 [.ptr r 0,.sl (some 4) (K.length+(E.length+5)) 2 0 2] (K++(E++[x1,x2,x3,x4,x5,.arr (some 4) [hd.pv,bd.pv] false]))=some (.ret (.tuple []),K2++(E++[x1,x2,x3,x4,x5,.arr (some 4) [hd.pv,bd.pv] false])):=fun x1 x2 x3 x4 x5=>by
   rw[hK,hK2];refine h4 _ _ ?_;rw[YR,YR];rfl
  have hr2:∀X,(K2++X)[r]? =some (.box (some 7) (cB d g (slA q (i+1)))):=fun X=>by
   grind
  have hld:∀X,aload (some 4) (K2++X) (.eptr (some 4) q (i+1) i 0)=some (.pv (some 4) a.pv):=fun X=>by
   have e1:(K2++X)[q]? =some (.arr (some 4) (Tm.pvs (L++[a])) false):=by grind
   have e2:(Tm.pvs (L++[a]))[i]? =some a.pv:=Tm.pvs_get (by grind)
   grind [Tm.pvs_len,aload]
  have hia:Yc (some 4) [.sl (some 4) q (i+1) 0 (i+1),P4 (i:Int)]=some (.eptr (some 4) q (i+1) i 0):=by
   grind [Qx]
  have hsl:sLen [.sl (some 4) q (i+1) 0 (i+1)]=some (P4 ((i+1:Nat):Int)):=rfl;have w1:IntKind.i64.wrap (((i+1:Nat):Int) - 1)=(i:Int):=by grind [zW]
  have w2:IntKind.i64.wrap ((i:Int)+1)=((i+1:Nat):Int):=by grind [zW]
  have haz:a.size<1000000000:=by
   have z1:=B6 (Yq g) c.cl.head;have z2:=B6 (Yq g) c.cl.body;have z3:=valid_size c1;have z4:=valid_size c2;have z5:a.size=1+(hd.size+(bd.size+0)):=by rw[ha',ansT,hga];rfl
   grind
  have h6:=fun hp=>Y8 a hp haz;have hun':=hun c hcm;rw[<-ha] at hun';simp only[Tm.av] at h1 h2 h6;rw[show(p.cls.take i).map (ansC g (Yq g))=L from hL.symm,<-hK,hKl];have hpan:∀A:Prop,panK true A=A:=fun _=>rfl;cases hva:a.valid with
  |false=>
   rw[hva] at h6;have h7:=fun hp=>VP 2 (by decide) hp;simp -dsimp -implicitDefEqProofs only[go_sem,seval,hci,hx,t1,t2,h1,h2,hbslo,h5,h6,h7,hpan,YE,hr2,hld,hia,hsl,w1,w2,VY,xp,YB,zN,zH (Zf _ _)];refine .inr ⟨rfl,⟨c,hcm,by grind⟩,L++[a],?_⟩
   grind
  |true=>
   rw[hva] at h6;have h7:=fun hp=>ou g a hgv hva hp;have h8:=hun' hva;generalize uni 1048576 [] [(g,a)]=R at h7 h8;obtain⟨R1,R2⟩:=R;dsimp only at h7 h8;simp only[Tm.av] at h7;simp -dsimp -implicitDefEqProofs only[go_sem,seval,hci,hx,t1,t2,h1,h2,hbslo,h5,h6,h7,h8,YE,hr2,hld,hia,hsl,w1,w2,VY,xp,zN,zH (Zf _ _)];have htk:p.cls.take (i+1)=p.cls.take i++[c]:=by grind [Z0]
   refine⟨(),fun z hz=> ?_,?_⟩
   ·grind
   ·have e1:(E++[AObj.box (some 9) (.pv (some 9) c.pv),.box (some 4) (.pv (some 4) hd.pv),.arr (some 4) [] false,.box (some 4) (.pv (some 4) bd.pv),.arr (some 4) [] false,.arr (some 4) [hd.pv,bd.pv] false]).take 8=E:=ZD hEl;have e2:AH hp r q d g ((p.cls.take (i+1)).map (ansC g (Yq g)))=K2:=by grind
    rw[e2,yF 8 hKl2 (by grind) (by
     grind) (by simp[AV.refsIn,hEl];omega),e1]
 ·rintro - hinv;have hci:¬(p.cls.length:Int)<(p.cls.length:Int):=by omega
  simp -dsimp -implicitDefEqProofs only[go_sem,seval,hci,YO,YN];rw[ZF] at hinv ⊢;exact .inl ⟨rfl,hinv,ZD (hAl _)⟩
theorem bN{L:List Int}:∀t:Tm,(∀w∈t.occ,w∈L)->∀v∈(Tm.sub (cPos L) t).occ,0<=v/\v<L.length:=by
 intro t
 induction t using Tm.zA6 with
 |h t ih=>
  intro hw v hv;rw[Tm.zBe] at hv;split at hv
  ·rename_i hk;have hm:=hw t.n (by rw[Tm.zA8,Zh hk];simp);have h2:v=(L.idxOf t.n:Int):=by simpa[cPos,tvar,Tm.zA8,Tm.kind,Tm.n] using hv
   have:=List.idxOf_lt_length_of_mem hm;omega
  ·rename_i hk;rw[Tm.zA8,Zb (by exact hk)] at hv;obtain⟨u,hu,hvu⟩:=Tm.zBk hv;obtain⟨x,hx,rfl⟩:=ZM.1 (show u∈t.args.map (Tm.sub (cPos L)) from hu);exact ih x hx (fun w h=>hw w (Tm.zBo hk hx h)) v hvu
theorem Pu{c:Cz}(h:okC c=true):(c.head.kind=2\/c.head.kind=3)/\(∀v∈c.head.occ,0<=v/\v<64)/\∀v∈c.body.occ,0<=v/\v<64:=by
 simp only[okC,Zk,Bool.or_eq_true,Zz] at h;obtain⟨-,hk,-,-,h5,h6,h7⟩:=h;have e1:=js h6;have e2:=js h7;refine⟨hk,fun v hv=> ?_,fun v hv=> ?_⟩
 ·rw[<-e1] at hv;have:=bN c.head (fun w hw=>(Jh _ [] w).2 (.inr (List.mem_append_left _ hw))) v hv;have e:(c.vars.length:Int)<=64:=by omega
  exact⟨this.1,Int.lt_of_lt_of_le this.2 e⟩
 ·rw[<-e2] at hv;have:=bN c.body (fun w hw=>(Jh _ [] w).2 (.inr (List.mem_append_right _ hw))) v hv;have e:(c.vars.length:Int)<=64:=by omega
  exact⟨this.1,Int.lt_of_lt_of_le this.2 e⟩
theorem Pv{d:Int}{t:Tm}(hd:d<=1000)(h:∀v∈t.occ,0<=v/\v<64):movable d t=true:=by
 rw[movable,Zq];intro v hv;have:=h v hv;simp only[Zz];omega
def claN:List UInt8:=[99,108,97,117,115,101]
def genC(s:List UInt8)(k:Nat):Tm:=strT claN [genT s k,tvar k]
theorem Pw(s:List UInt8)(k:Nat)(h:k<=8):(genC s k).size=k+3:=by
 have:=bC s k h;show 1+((genT s k).size+(1+0+0))=_;omega
theorem Px{s:List UInt8}{k:Nat}(hs:s.length<=100)(h:k<=8):(genC s k).fits=true:=by
 refine XY (by decide) (by simp) (by simp) (vE fun t ht=> ?_)
 grind [bD,Jv]
theorem bO{s:List UInt8}{k:Nat}(hs:s.length<=100)(h:k<=8):(genC s k).valid=true:=xj (Px hs h) (by grind [Pw])
theorem Py(s:List UInt8)(k:Nat)(h:k<=8):canT (genC s k)=genC s k:=by
 match k,h with
 |0,_|1,_|2,_|3,_|4,_|5,_|6,_|7,_|8,_=>rfl
theorem Pz(s:List UInt8)(k:Nat)(h:k<=8):Yq (genC s k)=(k:Int)+1:=by
 match k,h with
 |0,_|1,_|2,_|3,_|4,_|5,_|6,_|7,_|8,_=>rfl
theorem PA{s:List UInt8}{k:Nat}(hs:s.length<=100)(h:k<=8):GK (genC s k) 82 where
 v:=bO hs h
 c:=by grind [canR,bO,Py]
 k:=rfl
 l:=by rfl
theorem bP(s:List UInt8)(k:Nat)(d:Int)(x:Sto):ansC (genC s k) d x=strT claN [shT d x.cl.head,shT d x.cl.body]:=rfl
theorem PB{s:List UInt8}{k:Nat}(hs:s.length<=100)(h8:k<=8)(x:Sto)(h1:x.cl.head.valid=true)(h2:x.cl.body.valid=true)(hn:x.cl.head.name=s)(hl:x.cl.head.args.length=k)(hk:x.cl.head.kind=2\/x.cl.head.kind=3)(hv:(ansC (genC s k) ((k:Int)+1) x).valid=true):
  (uni 1048576 [] [(genC s k,ansC (genC s k) ((k:Int)+1) x)]).2≠4:=by
 rw[bP] at hv ⊢;obtain⟨d,hd⟩:∃d:Int,d=(k:Int)+1:=⟨_,rfl⟩;rw[<-hd] at hv ⊢;have hgf:=valid_fits h1;have hbf:=valid_fits h2;have hvs:∀t∈[shT d x.cl.head,shT d x.cl.body],t.valid=true:=fun t ht=>XB hv ht;have hvh:=hvs _ (by simp:shT d x.cl.head∈_);have hvb:=hvs _ (by simp:shT d x.cl.body∈_);have u1:ustep [] (flw [] (genC s k)) (flw [] (strT claN [shT d x.cl.head,shT d x.cl.body]))=.args [(genT s k,shT d x.cl.head),(tvar k,shT d x.cl.body)]:=by
  rw[xu [] (by show ¬(3:Int)=0;decide),xu [] (by show ¬(3:Int)=0;decide)];unfold ustep;rw[Zb (by show ¬((3:Int)=0/\_);simp),Zb (by show ¬(3:Int)=0;decide),Zb (by show ¬(3:Int)=0;decide),Zh ⟨rfl,rfl,rfl,rfl⟩];rfl
 rw[Jw (n:=1048575) [] u1,ZT];have hk0:¬x.cl.head.kind=0:=by grind
 have hkk:(genT s k).kind=x.cl.head.kind:=by
  have hnd:=hgf;rw[Tm.zBc,Zk] at hnd;have hnd:=hnd.1;unfold Tm.node at hnd;rw[Zb hk0] at hnd;unfold genT;rcases hk with e|e
  ·rw[Zb (by omega),Zh e] at hnd;simp only[Zk,Zz] at hnd;rw[Zh (by omega),e];rfl
  ·rw[Zb (by omega),Zb (by omega),Zh e] at hnd;simp only[Zk,Zz] at hnd;rw[Zb (by omega),e];rfl
 have hnn:(genT s k).n=x.cl.head.n:=by
  have hnd:=hgf;rw[Tm.zBc,Zk] at hnd;have hnd:=hnd.1;unfold Tm.node at hnd;rw[Zb hk0] at hnd;have e0:(genT s k).n=0:=by unfold genT;split <;> rfl
  grind
 have hg0:¬(genT s k).kind=0:=by grind
 have u2:ustep [] (flw [] (genT s k)) (flw [] (shT d x.cl.head))=.args (((List.range k).map fun i:Nat=>tvar (i:Int)).zip (x.cl.head.args.map (shT d))):=by
  rw[bF hk0,xu [] hg0,xu [] (by exact hk0)];unfold ustep;rw[Zb (fun h=>hg0 h.1),Zb hg0,Zb (by exact hk0),Zh ⟨hkk,hnn,by rw[bB];exact hn.symm,by rw[vD];show _=(x.cl.head.args.map (shT d)).length;grind⟩,vD];rfl
 rw[Jw (n:=1048574) _ u2];have hvg:=xj (bD hs h8) (by grind [bC]);have hmem:∀p∈((List.range k).map fun i:Nat=>tvar (i:Int)).zip (x.cl.head.args.map (shT d))++[(tvar k,shT d x.cl.body)],(∃i:Nat,i<k+1/\p.1=tvar i)/\p.2.valid=true/\∀w∈p.2.occ,d<=w:=by
  intro p hp;rcases zp.1 hp with hp|hp
  ·have hz:=List.of_mem_zip hp;obtain⟨i,hi,e⟩:=ZM.1 hz.1;obtain⟨u,hu,e2⟩:=ZM.1 hz.2;refine⟨⟨i,by grind,e.symm⟩,?_,?_⟩
   ·refine XB hvh ?_;rw[bF hk0];exact hz.2
   ·rw[<-e2];exact fun w hw=>bE (Tm.zA7 hgf hu) hw
  grind [bE]
 refine vC _ _ _ okb_nil (fun p hp=> ?_) ⟨fun p hp=> ?_,fun p hp q hq hm=> ?_,fun p hp b hb=>(by cases hb),?_⟩
 ·grind [Pg]
 ·obtain⟨⟨i,hi,e⟩,_⟩:=hmem p hp;rw[e];exact⟨rfl,rfl⟩
 ·obtain⟨⟨i,hi,e⟩,_⟩:=hmem p hp;have:=(hmem q hq).2.2 _ hm;rw[e] at this;have:d<=(i:Int):=this;omega
 ·have hz:∀(m:Nat) (us:List Tm),us.length=m->((((List.range m).map fun i:Nat=>tvar (i:Int)).zip us).map fun p=>p.1.n)=(List.range m).map fun i:Nat=>(i:Int):=fun m us h=>by
   rw[show(fun p:Tm × Tm=>p.1.n)=Tm.n ∘ Prod.fst from rfl,<-List.map_map,List.map_fst_zip (by simp[h]),List.map_map];rfl
  have hp:((((List.range k).map fun i:Nat=>tvar (i:Int)).zip (x.cl.head.args.map (shT d))++[(tvar k,shT d x.cl.body)]).map fun p=>p.1.n)=(List.range (k+1)).map fun i:Nat=>(i:Int):=by
   rw[List.map_append,hz k _ (by grind),List.range_succ,List.map_append];rfl
  have hpw:((List.range (k+1)).map fun i:Nat=>(i:Int)).Pairwise (·≠·):=by
   grind [List.nodup_range]
  grind
theorem PC{s:List UInt8}{k:Nat}{d:Int}{x:Sto}(h1:x.cl.head.valid=true)(h2:x.cl.body.valid=true)(hv:(ansC (genC s k) d x).valid=true):vari (ansC (genC s k) d x) (strT claN [x.cl.head,x.cl.body])=true:=by
 rw[bP] at hv ⊢;have hz:=valid_size hv;have hz:1+((shT d x.cl.head).size+((shT d x.cl.body).size+0))<=2000:=hz;have e1:=bI d _ (valid_fits h1);have e2:=bI d _ (valid_fits h2);have v2:(strT claN [x.cl.head,x.cl.body]).valid=true:=xj (XY (by decide) (by simp) (by simp) (by grind [Tm.fitsAll,valid_fits])) (by show 1+(x.cl.head.size+(x.cl.body.size+0))<=2000;omega);have e3:strT claN [shT d x.cl.head,shT d x.cl.body]=shT d (strT claN [x.cl.head,x.cl.body]):=rfl
 grind [vari,Pi,Tm.zBf]
def gvA(s:List UInt8)(n k:Nat):AV:=if k=0 then(zR s).av else strA s (n+4) k
def gxA(s:List UInt8)(n k:Nat):Heap:=if k=0 then[] else gnX s n k
theorem PD(s:List UInt8)(k:Nat)(h8:k<=8)(hp:Heap):S 20 [P6 s,P4 (k:Int)] hp=some (.ret (.tuple [gvA s hp.length k,P4 k]),hp++gxA s hp.length k):=by
 grind [gvA,gxA,Pp,Po]
theorem PE(s:List UInt8)(m k:Nat){K:Heap}{n:Nat}(hK:K.length=n)(b:AV)(c:AObj):zL (some 4) 0 (K++[.box (some 4) b,c]) [.ptr n 0,gvA s m k]=some (.undef,K++[.box (some 4) (gvA s m k),c]):=by
 unfold gvA;split
 ·grind [zL,astore,Tm.av,AV.plain,AV.shp,AV.own]
 ·simp[zL,astore,z7 hK,Yi hK,strA,AV.plain,AV.shp,AV.own,total,Sh.size,zX,Y3]
theorem PF(s:List UInt8)(k:Nat)(h8:k<=8)(B:Heap)(r:List Nat):∃K:Heap,K.length=(B++gxA s B.length k).length/\(∀j,j<B.length->K[j]? =B[j]?)/\(Bq B->Bq K)/\∀(fr:Fr) (c:AObj) (n:Nat),(B++gxA s B.length k).length=n->Qy r ⟨fr,B++gxA s B.length k++[.box (some 4) (gvA s B.length k),c]⟩ n (some (.box (some 4) (gvA s B.length k)))=Am.settle r ⟨fr,K++[.box (some 4) (.pv (some 4) (genT s k).pv),c]⟩:=by
 by_cases h:k=0
 ·subst h;refine⟨B,by simp[gxA],fun _ _=>rfl,fun h=>h,fun fr c n hn=> ?_⟩;simp only[gxA,gvA,genT,if_true,ZT] at hn ⊢;rw[show(zR s).av=.pv (some 4) (zR s).pv from rfl,Gy];simp_all
 ·obtain⟨ts,hts⟩:∃ts,ts=(List.range k).map fun i:Nat=>tvar (i:Int):=⟨_,rfl⟩;have hl:(Tm.pvs ts).length=k:=by rw[hts,bL]
  refine⟨B++[.box (some 4) (strA s (B.length+4) k),.arr (some 4) [] false,.box (some 4) (strA s (B.length+4) 0),.arr (some 4) [] false,.arr (some 4) (Tm.pvs ts) true,.box (some 4) (strA s (B.length+4) k),.arr (some 4) [] false],by simp[gxA,h,gnX],fun j hj=>zk hj,fun hB=>hB.app fun o ho=> ?_,fun fr c n hn=> ?_⟩
  ·have hs:∀j,AObj.beq (.box (some 4) (strA s (B.length+4) j)) (.box (some 4) (strA s (B.length+4) j))=true:=fun j=>by simp[AObj.beq,strA,AV.beq,AV.beqc,PV.beq]
   grind [Jp,nX]
  ·have e8:(genT s k).pv=.agg [(none,.int .i64 3),(none,.int .i64 0),(none,.str s),(none,.sl (some 4) (Tm.pvs ts))]:=by
    rw[genT,Zb h,<-hts];rfl
   rw[gvA,gxA,Zb h,Zb h];rw[gxA,Zb h] at hn;have e1:∀Y:Heap,(B++gnX s B.length k++Y)[B.length+4]? =some (.arr (some 4) (Tm.pvs ts) false):=fun Y=>by
    rw[Zn,YR,hts];rfl
   simp only[Zn] at e1;have e2:∀Y:Heap,AV.freeze deep (strA s (B.length+4) k) (B++gnX s B.length k++Y)=some ((genT s k).pv,(B++gnX s B.length k++Y).set (B.length+4) (.arr (some 4) (Tm.pvs ts) true)):=fun Y=>by
    have e:=P0
    show AV.freeze (7+1) (.agg _) _=_;simp_all[AV.freeze.go,AV.freeze]
   have e3:strA s (B.length+4) k=.agg [(none,P4 3),(none,P4 0),(none,P6 s),(none,.sl (some 4) (B.length+4) k 0 k)]:=rfl;have e4:=e2 [.box (some 4) (strA s (B.length+4) k),c];have e5:(B++gnX s B.length k++[.box (some 4) (strA s (B.length+4) k),c]).set (B.length+4) (.arr (some 4) (Tm.pvs ts) true)=B++[.box (some 4) (strA s (B.length+4) k),.arr (some 4) [] false,.box (some 4) (strA s (B.length+4) 0),.arr (some 4) [] false,.arr (some 4) (Tm.pvs ts) true,.box (some 4) (strA s (B.length+4) k),.arr (some 4) [] false]++[.box (some 4) (strA s (B.length+4) k),c]:=by
    simp_all[gnX]
   have hn2:n=B.length+7:=by grind [gnX]
   simp_all[Qy]
theorem PG(d:Dbs)(hv:okD d=true)(g h x:Tm)(hg:GK g 82)(hga:g.args=[h,x])(hh:h.kind≠0/\h.kind≠1)(hx:x.kind=0)
  (p:Prc)(hf:Ys d h.name h.args.length=some p)(hs:yo d h.name h.args.length=false)
  (hcl:∀s∈p.cls,s.cl.head.valid=true/\s.cl.body.valid=true/\movable (Yq g) s.cl.head=true/\movable (Yq g) s.cl.body=true)
  (hfr:0<=Yq g/\Yq g<=1099511627776)
  (hun:∀s∈p.cls,(ansC g (Yq g) s).valid=true->(uni 1048576 [] [(g,ansC g (Yq g) s)]).2≠4)(hp:Heap)(hb:Bq hp):
  ((∀s∈p.cls,(ansC g (Yq g) s).valid=true)/\∃X,S 11 [d.av,g.av] hp=some (.ret (.tuple [d.av,.sl (some 4) (hp.length+3) p.cls.length 0 p.cls.length,zg (hp.length+13),P4 0]),hp++X)/\X[3]? =some (.arr (some 4) (Tm.pvs (p.cls.map (ansC g (Yq g)))) false)/\X[13]? =some (.arr (some 4) [] false))\/
  ((∃s∈p.cls,(ansC g (Yq g) s).valid=false)/\∃X,S 11 [d.av,g.av] hp=some (.ret (.tuple [Yb,.sl (some 4) (hp.length+12) 0 0 0,zg (hp.length+10),P4 2]),hp++X)/\X[12]? =some (.arr (some 4) [] false)/\X[10]? =some (.arr (some 4) [] false)):=by
 obtain⟨v,hp',hS,hQ⟩:=Pt d hv g h x hg.v hga hh hx p hf hs hcl hfr hun (hp++y9 d g hp.length++x3 (hp++y9 d g hp.length).length) (hp.length+7) (hp.length+8) (y9_r ..) (y9_q ..);have h9:(hp++y9 d g hp.length).length=hp.length+9:=by rw[Z6];rfl
 rcases hQ with⟨rfl,hall,rfl⟩|⟨rfl,hbad,L,rfl⟩
 ·refine .inl ⟨hall,?_⟩;obtain⟨ts,hts⟩:∃ts,ts=p.cls.map (ansC g (Yq g)):=⟨_,rfl⟩;have htl:ts.length=p.cls.length:=by grind
  have hc5:=jV hv hf;rw[bu,<-hts] at hS;have hr:=bm _ (hp++y9 d g hp.length) _ (hp.length+7) (by simp_all) hS;rw[h9,Zn] at hr;rw[<-hts,<-htl];refine bq d hv g _ hg hp hb d (slA (hp.length+8) ts.length) ts (Tm.pvs ts) (fun t ht=> ?_) (by omega) (bw hv) rfl (by simp[AV.refsIn]) (fun i u hu=> ?_) hr
  ·grind
  ·have hlt:=(Ze.1 hu).1;refine⟨_,fun kk=>Qx hlt,fun x0 x1 x2 x3 x4 x5 x6 X=> ?_⟩;have e1:(hp++x0::x1::x2::x3::x4::x5::x6::.box (some 7) (cB d g (slA (hp.length+8) ts.length))::.arr (some 4) (Tm.pvs ts) false::X)[hp.length+8]? =some (.arr (some 4) (Tm.pvs ts) false):=by simp_all
   grind [aload,Tm.pvs_get,Tm.pvs_len]
 ·refine .inr ⟨hbad,?_⟩;rw[bu] at hS;have hr:=bn _ (hp++y9 d g hp.length) _ (hp.length+7) (by simp_all) 2 hS;rw[h9,Zn] at hr;exact bp d hv g _ hg hp hb 2 (by decide) _ _ hr
theorem j8{d:Dbs}(hv:okD d=true){p:Prc}(hpm:p∈d.procs){s:Sto}(hs:s∈p.cls):s.cl.head.valid=true/\s.cl.body.valid=true/\(s.cl.head.kind=2\/s.cl.head.kind=3)/\(∀v∈s.cl.head.occ,0<=v/\v<64)/\(∀v∈s.cl.body.occ,0<=v/\v<64)/\s.cl.head.name=p.name/\(s.cl.head.args.length:Int)=p.ar:=by
 obtain⟨-,-,h3,h4,h5⟩:=Pj hv hpm s hs
 grind [Pu,Jl]
theorem PH(d:Dbs)(hv:okD d=true)(p:Prc)(hpm:p∈d.procs)(k:Nat)(hk:p.ar=(k:Int))(hs:yo d p.name k=false)(H:Heap)(hb:Bq H):
  ((∀s∈p.cls,(ansC (genC p.name k) ((k:Int)+1) s).valid=true)/\∃X,S 11 [d.av,(genC p.name k).av] H=some (.ret (.tuple [d.av,.sl (some 4) (H.length+3) p.cls.length 0 p.cls.length,zg (H.length+13),P4 0]),H++X)/\X[3]? =some (.arr (some 4) (Tm.pvs (p.cls.map (ansC (genC p.name k) ((k:Int)+1)))) false)/\X[13]? =some (.arr (some 4) [] false))\/
  ((∃s∈p.cls,(ansC (genC p.name k) ((k:Int)+1) s).valid=false)/\∃X,S 11 [d.av,(genC p.name k).av] H=some (.ret (.tuple [Yb,.sl (some 4) (H.length+12) 0 0 0,zg (H.length+10),P4 2]),H++X)/\X[12]? =some (.arr (some 4) [] false)/\X[10]? =some (.arr (some 4) [] false)):=by
 obtain⟨hn1,ha0,ha8⟩:=vF hv hpm;have k8:k<=8:=by omega
 have hgn:=bB p.name k;have hgl:((genT p.name k).args.length:Int)=k:=by grind [vD]
 have hfm:=Pz p.name k k8;have h:=PG d hv (genC p.name k) (genT p.name k) (tvar k) (PA hn1 k8) rfl (by grind [Pf]) rfl p (by grind [xl]) (by grind)
  (fun s hs=>by
   grind [j8,Pv])
  (by grind)
  (fun s hs hvl=>by
   obtain⟨h1,h2,h3,-,-,h6,h7⟩:=j8 hv hpm hs;rw[hfm] at hvl ⊢
   grind [PB]) H hb
 grind
theorem PI{d:Dbs}{c:Cz}{fr:Bool}(h:(addR d c fr true).2=0)(hs:yo d c.head.name c.head.args.length=false):
  ∃(m:Dbs) (p:Prc) (kk:Nat),m=(addR d c fr true).1/\okD d=true/\okD m=true/\m.next=d.next+1/\totD m.procs=totD d.procs+1/\p∈m.procs/\p.name=c.head.name/\p.ar=c.head.args.length/\p.dyn=true/\kk=(if fr=true then 0 else p.cls.length - 1)/\p.cls[kk]? =some ⟨d.next,c⟩/\p.cls.length=((Ys d p.name p.ar).getD zP).cls.length+1/\yo m p.name p.ar=false:=by
 obtain⟨hv,hc,hm,hnx,ht,⟨dyn,hf⟩,-⟩:=bA h
 grind [xl,insC,yo,addR]
theorem fok0:FactsOk (find tab) prim []:=.nil
def v0:PV:=(.str [97,116,111,109])
def v1:PV:=(.str [99,108,97,117,115,101])
def v2:PV:=(.str [36,99,108,97,117,115,101])
def v3:PV:=(.str [97,115,115,101,114,116,122])
def v4:PV:=(.agg [(none,(.int .i64 (0))),(none,(.int .i64 (0))),(none,(.str [])),(none,(.sl (some 4) []))])
def v5:PV:=(.agg [(none,(.int .i64 (0))),(none,(.int .i64 (1))),(none,(.str [])),(none,(.sl (some 4) []))])
def v6:PV:=(.agg [(none,(.int .i64 (0))),(none,(.int .i64 (2))),(none,(.str [])),(none,(.sl (some 4) []))])
def v7:PV:=(.agg [(none,(.int .i64 (0))),(none,(.int .i64 (3))),(none,(.str [])),(none,(.sl (some 4) []))])
def v8:PV:=(.agg [(none,(.int .i64 (1))),(none,(.int .i64 (1))),(none,(.str [])),(none,(.sl (some 4) []))])
def v9:PV:=(.sl (some 4) [(.agg [(none,(.int .i64 (2))),(none,(.int .i64 (0))),(none,(.str [97])),(none,(.sl (some 4) []))])])
def v10:PV:=(.agg [(none,(.int .i64 (2))),(none,(.sl (some 4) [(.agg [(none,(.str [112])),(none,(.int .i64 (1))),(none,(.bool true)),(none,(.sl (some 9) []))])]))])
def v11:PV:=(.agg [(none,(.int .i64 (3))),(none,(.int .i64 (0))),(none,(.str [112])),(none,(.sl (some 4) [v4]))])
def v12:PV:=(.agg [(none,(.int .i64 (3))),(none,(.int .i64 (0))),(none,(.str [36,101,114,97,115,101])),(none,(.sl (some 4) [v8]))])
def v13:PV:=(.agg [(none,(.int .i64 (3))),(none,(.int .i64 (0))),(none,(.str [113])),(none,(.sl (some 4) [v4,v5]))])
def v14:PV:=(.agg [(none,(.int .i64 (2))),(none,(.sl (some 4) [(.agg [(none,(.str [112])),(none,(.int .i64 (1))),(none,(.bool true)),(none,(.sl (some 9) [(.agg [(none,(.int .i64 (1))),((some 8),(.agg [((some 4),v11),((some 4),v13)]))])]))])]))])
def v15:PV:=(.agg [(none,(.int .i64 (3))),(none,(.int .i64 (0))),(none,v3),(none,(.sl (some 4) [(.agg [(none,(.int .i64 (3))),(none,(.int .i64 (0))),(none,(.str [58,45])),(none,(.sl (some 4) [v11,v13]))])]))])
def fK1:Facts:=(18,[(none,(.str [112])),(none,(.int .i64 (1)))],(P5 false))::[]
theorem fok1:FactsOk (find tab) prim fK1:=.cons (by kernel_rfl) (XU (n:=60) fok0 (by kernel_rfl)) fok0
def fK2:Facts:=(25,[((some 2),(.agg [(none,(.int .i64 (1))),(none,(.sl (some 4) []))])),((some 4),v15),(none,(.sl (some 4) [v15]))],(.tuple [(.pv (some 2) v14),(P5 true)]))::fK1
theorem fok2:FactsOk (find tab) prim fK2:=.cons (by kernel_rfl) (XU (n:=60) fok1 (by kernel_rfl)) fok1
def fK3:Facts:=(32,[],(.tuple [(.pv (some 2) v14),(P5 true)]))::fK2
theorem fok3:FactsOk (find tab) prim fK3:=.cons (by kernel_rfl) (XU (n:=60) fok2 (by kernel_rfl)) fok2
def fK4:Facts:=(25,[((some 2),v14),((some 4),(.agg [(none,(.int .i64 (3))),(none,(.int .i64 (0))),(none,v1),(none,(.sl (some 4) [(.agg [(none,(.int .i64 (3))),(none,(.int .i64 (0))),(none,(.str [112])),(none,v9)]),v4]))])),(none,(.sl (some 4) [(.agg [(none,(.int .i64 (3))),(none,(.int .i64 (0))),(none,v1),(none,(.sl (some 4) [(.agg [(none,(.int .i64 (3))),(none,(.int .i64 (0))),(none,(.str [112])),(none,(.sl (some 4) [v5]))]),(.agg [(none,(.int .i64 (3))),(none,(.int .i64 (0))),(none,(.str [113])),(none,(.sl (some 4) [v5,v6]))])]))])]))],(.tuple [(.pv (some 2) v14),(P5 true)]))::fK3
theorem fok4:FactsOk (find tab) prim fK4:=.cons (by kernel_rfl) (XU (n:=60) fok3 (by kernel_rfl)) fok3
def fK5:Facts:=(25,[((some 2),v14),((some 4),(.agg [(none,(.int .i64 (3))),(none,(.int .i64 (0))),(none,v2),(none,(.sl (some 4) [v11,v5,v6]))])),(none,(.sl (some 4) [(.agg [(none,(.int .i64 (3))),(none,(.int .i64 (0))),(none,v2),(none,(.sl (some 4) [(.agg [(none,(.int .i64 (3))),(none,(.int .i64 (0))),(none,(.str [112])),(none,(.sl (some 4) [v7]))]),(.agg [(none,(.int .i64 (3))),(none,(.int .i64 (0))),(none,(.str [113])),(none,(.sl (some 4) [v7,(.agg [(none,(.int .i64 (0))),(none,(.int .i64 (4))),(none,(.str [])),(none,(.sl (some 4) []))])]))]),v8]))])]))],(.tuple [(.pv (some 2) v14),(P5 true)]))::fK4
theorem fok5:FactsOk (find tab) prim fK5:=.cons (by kernel_rfl) (XU (n:=60) fok4 (by kernel_rfl)) fok4
def fK6:Facts:=(25,[((some 2),v14),((some 4),v12),(none,(.sl (some 4) [v12]))],(.tuple [(.pv (some 2) v10),(P5 true)]))::fK5
theorem fok6:FactsOk (find tab) prim fK6:=.cons (by kernel_rfl) (XU (n:=60) fok5 (by kernel_rfl)) fok5
def fK7:Facts:=(25,[((some 2),v10),((some 4),v12),(none,(.sl (some 4) []))],(.tuple [(.pv (some 2) v10),(P5 true)]))::fK6
theorem fok7:FactsOk (find tab) prim fK7:=.cons (by kernel_rfl) (XU (n:=60) fok6 (by kernel_rfl)) fok6
def fK8:Facts:=(18,[(none,v0),(none,(.int .i64 (1)))],(P5 true))::fK7
theorem fok8:FactsOk (find tab) prim fK8:=.cons (by kernel_rfl) (XU (n:=60) fok7 (by kernel_rfl)) fok7
def fK9:Facts:=(33,[((some 2),v14),((some 4),(.agg [(none,(.int .i64 (3))),(none,(.int .i64 (0))),(none,v3),(none,(.sl (some 4) [(.agg [(none,(.int .i64 (3))),(none,(.int .i64 (0))),(none,v0),(none,v9)])]))])),((some 4),(.agg [(none,(.int .i64 (3))),(none,(.int .i64 (0))),(none,(.str [112,101,114,109,105,115,115,105,111,110,95,101,114,114,111,114])),(none,(.sl (some 4) [(.agg [(none,(.int .i64 (2))),(none,(.int .i64 (0))),(none,(.str [109,111,100,105,102,121])),(none,(.sl (some 4) []))]),(.agg [(none,(.int .i64 (2))),(none,(.int .i64 (0))),(none,(.str [115,116,97,116,105,99,95,112,114,111,99,101,100,117,114,101])),(none,(.sl (some 4) []))]),(.agg [(none,(.int .i64 (3))),(none,(.int .i64 (0))),(none,(.str [47])),(none,(.sl (some 4) [(.agg [(none,(.int .i64 (2))),(none,(.int .i64 (0))),(none,v0),(none,(.sl (some 4) []))]),v8]))])]))]))],(P5 true))::fK8
theorem fok9:FactsOk (find tab) prim fK9:=.cons (by kernel_rfl) (XU (n:=60) fok8 (by kernel_rfl)) fok8
def fK10:Facts:=(18,[(none,(.str [105,115])),(none,(.int .i64 (2)))],(P5 true))::fK9
theorem PJ:FactsOk (find tab) prim fK10:=.cons (by kernel_rfl) (XU (n:=60) fok9 (by kernel_rfl)) fok9
theorem run9:yes (y4 fK10 (find tab) prim 60 .fn 9 [] [])=true:=by kernel_rfl
theorem sem9:sem (find tab) prim .fn 9 [] []=some (.ret (P5 true),[]):=Jc PJ 60 _ _ _ _ _ (G7 run9)
def sfD(d:Dbs):Prop:=d.procs.length<1000000000/\∀p∈d.procs,okCl p/\p.cls.length<1000000000
theorem PK:sfD yI:=⟨by decide,fun p hp=>by cases hp⟩
theorem PL(d:Dbs)(h:sfD d)(hp:Heap):S 12 [d.av,d.av] hp=some (.ret (P5 true),hp):=by
 refine zM rfl rfl rfl (zJ [(some 2,d.pv),(some 2,d.pv)]) rfl ?_;simp -dsimp -implicitDefEqProofs only[go_sem,seval,Dbs.av,Yl,Yn,Prc.pvs_len];refine Ye (α:=Unit) d.procs.length (fun _ _=>True) (fun i _=>⟨[(2,.ptr 0 0),(3,.ptr 1 0),(5,P4 i)],[.box (some 2) (.pv (some 2) d.pv),.box (some 2) (.pv (some 2) d.pv)]⟩) () ⟨trivial,rfl⟩ ?_ ?_
 ·rintro i - hi -;have hcc:(i:Int)<(d.procs.length:Int):=by omega
  have hl:=h.1;have w1:IntKind.i64.wrap ((i:Int)+1)=((i+1:Nat):Int):=by rw[zW (by omega) (by omega)];omega
  obtain⟨p,hpp⟩:∃p,d.procs[i]? =some p:=⟨_,Zd hi⟩;obtain⟨hc,hl2⟩:=h.2 p (Zj hpp);have h3:=fun hp=>N1 p hl2 hc hp;simp only[Prc.av] at h3;simp -dsimp -implicitDefEqProofs only[go_sem,seval,hcc,w1,Yn,Prc.pvs_len,zQ (Prc.pvs_get hpp),h3];exact⟨(),trivial⟩
 ·rintro - -;have hcc:¬(d.procs.length:Int)<(d.procs.length:Int):=by omega
  simp -dsimp -implicitDefEqProofs only[go_sem,seval,hcc,Yn,Prc.pvs_len]
  done
theorem vJ(hp:Heap):S 9 [] hp=some (.ret (P5 true),hp):=by
 have h:=yw (hp:=hp) (args:=[]) (ps:=[]) (hp1:=hp) (f:=9) rfl rfl rfl rfl sem9;exact h
def seqT:ACode->ACode
 | .seq _ b=>b
 |c=>c
theorem y6(a b:ACode):seqT (.seq a b)=b:=rfl
def asR2:ACode:=seqT (seqT (seqT (seqT (seqT (seqT (seqT (seqT (seqT (seqT (seqT (seqT (seqT (g3).code))))))))))))
def asR3:ACode:=seqT (seqT (seqT asR2))
theorem set_self{l:Heap}{i:Nat}{x:AObj}(h:l[i]? =some x)(Y:Heap):(l++Y).set i x=l++Y:=by
 grind [List.set_getElem_self]
theorem bQ(mv bv:AV)(a n:Nat)(es:List PV)(e:Int)(X H':Heap)(m:Dbs)(b:Tm)(hm:∀H,AV.freeze deep mv H=some (m.pv,H)/\mv.shp=some 2)(hq:X[a]? =some (.arr (some 4) es false))(hn:es.length=n)(hb:AV.freeze deep bv (X.set a (.arr (some 4) es true))=some (b.pv,H'))(hs:bv.shp=some 4)(e3:AV.bare (.tuple [mv,.sl (some 4) a n 0 n,bv,P4 e])=none):AV.alone (.tuple [mv,.sl (some 4) a n 0 n,bv,P4 e]) X=some (.tuple [m.av,.pv none (.sl (some 4) es),b.av,P4 e]):=by
 have e1:AV.freeze deep (.sl (some 4) a n 0 n) X=some (.sl (some 4) es,X.set a (.arr (some 4) es true)):=by grind [AV.freeze,deep]
 have e2:∀H,AV.freeze deep (P4 e) H=some (.int .i64 e,H):=fun _=>rfl;unfold AV.alone;rw[e3];simp only[AV.freezeRes,zZ,(hm X).1,(hm X).2,e1,hb,hs,e2];rfl
set_option maxHeartbeats 4000000 in
theorem PM(m:Dbs)(c:Cz)(p:Prc)(nx:Int)(kk q9 q13 q16:Nat)(H:Heap)(hm:okD m=true)(hpm:p∈m.procs)(hkk:p.cls[kk]? =some ⟨nx,c⟩)(hst:yo m p.name p.ar=false)
  (b9:H[q9]? =some (.box (some 2) (.pv (some 2) m.pv)))(b13:H[q13]? =some (.box (some 8) (.pv (some 8) c.pv)))(b16:H[q16]? =some (.box (some 4) (.pv (some 4) p.pv))):
  W Z L 0 asR3 ⟨[(9,.ptr q9 0),(13,.ptr q13 0),(16,.ptr q16 0),(18,P4 (kk:Int)),(233,P5 false)],H⟩ (endK (g3).results (Am.frozen (P5 true))):=by
 have haw:=fun hp=>vJ hp;obtain⟨hn1,ha0,ha8⟩:=vF hm hpm;obtain⟨k,hk⟩:∃k:Nat,p.ar=(k:Int):=⟨p.ar.toNat,by omega⟩;have k8:k<=8:=by omega
 rw[hk] at hst;have h1:=PD p.name k k8 H;obtain⟨K,hKl,hKB,-,hs8⟩:=PF p.name k k8 H [23];obtain⟨K0,hK0⟩:∃K0,K0=H++gxA p.name H.length k:=⟨_,rfl⟩;obtain⟨n,hn⟩:∃n,K0.length=n:=⟨_,rfl⟩;obtain⟨hl,hhl⟩:∃hl,H.length=hl:=⟨_,rfl⟩;rw[<-hK0] at h1 hKl hs8;have hs8:=fun fr c=>hs8 fr c n hn;rw[hhl] at h1 hs8 hKB;rw[hn] at hKl;have hst8:=fun b c=>PE p.name hl k hn b c;have hnl:hl<=n:=by grind
 have a9:∀Y:Heap,(K0++Y)[q9]? =some (.box (some 2) (.pv (some 2) m.pv)):=fun Y=>by
  grind
 have a9':∀Y:Heap,(K0++Y).set q9 (.box (some 2) (.pv (some 2) m.pv))=K0++Y:=fun Y=>set_self (by grind) Y;have r9:∀Y:Heap,(K++Y)[q9]? =some (.box (some 2) (.pv (some 2) m.pv)):=fun Y=>by
  grind
 have r13:∀Y:Heap,(K++Y)[q13]? =some (.box (some 8) (.pv (some 8) c.pv)):=fun Y=>by
  grind
 have r16:∀Y:Heap,(K++Y)[q16]? =some (.box (some 4) (.pv (some 4) p.pv)):=fun Y=>by
  grind
 have h2:=fun hp=>x_ok (k:Int) hp;have h4:=fun hp=>f_ok claN [genT p.name k,tvar k] hp;have e4:strT claN [genT p.name k,tvar k]=genC p.name k:=rfl;rw[e4] at h4;unfold claN at h4;have hnil:∀H:Heap,zX A3 H=(A3,H):=fun _=>rfl;have hcg:=PH m hm p hpm k hk hst [] Bq.nil;obtain⟨gc,hgc⟩:∃gc,gc=genC p.name k:=⟨_,rfl⟩;obtain⟨ts,hts⟩:∃ts,ts=p.cls.map (ansC gc ((k:Int)+1)):=⟨_,rfl⟩;have htl:ts.length=p.cls.length:=by grind
 rw[<-hgc,<-hts,<-htl] at hcg;rw[<-hgc] at h4;simp only[Zv,zy,ZI] at hcg;rcases hcg with⟨hall,X,hc,hX3,hX13⟩|⟨-,X,hc,hX12,hX10⟩
 ·have hal:AV.alone (.tuple [m.av,.sl (some 4) 3 ts.length 0 ts.length,zg 13,P4 0]) X=some (.tuple [m.av,.pv none (.sl (some 4) (Tm.pvs ts)),zt.av,P4 0]):=
   bQ _ _ 3 ts.length (Tm.pvs ts) 0 X _ m zt (fun H=>⟨rfl,rfl⟩) hX3 (Tm.pvs_len _) (vI (z:=false) (by grind)) rfl rfl
  have hx:=Zj hkk;obtain⟨x1,x2,-,-,-,-,-⟩:=j8 hm hpm hx;have hav:=hall _ hx;have hu:ts[kk]? =some (ansC gc ((k:Int)+1) ⟨nx,c⟩):=by grind
  obtain⟨u,hue⟩:∃u,u=ansC gc ((k:Int)+1) ⟨nx,c⟩:=⟨_,rfl⟩;have hvr:=PC (s:=p.name) (k:=k) (d:=(k:Int)+1) (x:=⟨nx,c⟩) x1 x2 (by grind);rw[<-hgc,<-hue] at hvr;rw[<-hue] at hu;have hvr:vari u (strT claN [c.head,c.body])=true:=hvr;have hz1:u.size<1000000000/\(strT claN [c.head,c.body]).size<1000000000:=by
   grind [vari,fit9]
  have h5:=fun hp=>f_ok claN [c.head,c.body] hp;have h6:=fun hp=>oo u (strT claN [c.head,c.body]) hp hz1.1 hz1.2;rw[hvr] at h6;obtain⟨cc,hcc⟩:∃cc,cc=strT claN [c.head,c.body]:=⟨_,rfl⟩;rw[<-hcc] at h5 h6;unfold claN at h5;rw[htl] at hc hal;simp only[Tm.av,Tm.pvs,Dbs.av] at h2 h4 hc hal h5 h6;simp -dsimp -implicitDefEqProofs only[asR3,asR2,y6,g3,c3r0,c3r1,c3r2,c3r3,c3k4,c3r5,c3r6,c3r7,c3k8,c3r9,c3r10,c3r11,c3r12,c3k13,c3r14,c3r15,c3r16,c3k17,c3r18,c3r19,c3r20,c3r21,c3k22,c3r23,c3r24,c3k25,c3r26,c3r27,c3r28,c3r29,c3k30,c3r31,c3r32,c3r33,c3r34,c3k35,c3r36,c3r37,c3k38,c3r39,c3,go_sem,seval,b9,b13,b16,a9,a9',r9,r13,r16,Yu,Yw,YG,Sto.pvs_len,Tm.pvs_len,htl,hk,h1,h2,h4,hc,hal,h5,h6,hnil,zQ (Tm.pvs_get hu),YL,YM,haw,hst8,hs8,hn,getN hn,z7 hn,setN hn,Yi hn,getN hKl,z7 hKl,setN hKl,Yi hKl,hKl,zN]
  done
 ·have hal:AV.alone (.tuple [Yb,.sl (some 4) 12 0 0 0,zg 10,P4 2]) X=some (.tuple [yI.av,.pv none (.sl (some 4) []),zt.av,P4 2]):=
   bQ _ _ 12 0 [] 2 X _ yI zt (fun H=>⟨rfl,rfl⟩) hX12 rfl (vI (z:=false) (by grind)) rfl rfl
  simp only[Tm.av,Tm.pvs,Dbs.av] at h2 h4 hc hal;simp -dsimp -implicitDefEqProofs only[asR3,asR2,y6,g3,c3r0,c3r1,c3r2,c3r3,c3k4,c3r5,c3r6,c3r7,c3k8,c3r9,c3r10,c3r11,c3r12,c3k13,c3r14,c3r15,c3r16,c3k17,c3r18,c3r19,c3r20,c3r21,c3k22,c3r23,c3r24,c3k25,c3r26,c3r27,c3r28,c3r29,c3k30,c3r31,c3r32,c3r33,c3r34,c3k35,c3r36,c3r37,c3k38,c3r39,c3,go_sem,seval,b9,b13,b16,a9,a9',r9,r13,r16,Yu,Yw,YG,Sto.pvs_len,Tm.pvs_len,hk,h1,h2,h4,hc,hal,hnil,haw,hst8,hs8,hn,getN hn,z7 hn,setN hn,Yi hn,getN hKl,z7 hKl,setN hKl,Yi hKl,hKl,zN]
  done
set_option maxHeartbeats 4000000 in
theorem PN(d m:Dbs)(c:Cz)(p:Prc)(kk q9 q13 q16:Nat)(H:Heap)(tl:Fr)(hv:okD d=true)(hm:okD m=true)(hnx:m.next=d.next+1)(ht:totD m.procs=totD d.procs+1)(hpm:p∈m.procs)(hdy:p.dyn=true)(hkk:p.cls[kk]? =some ⟨d.next,c⟩)(hlen:p.cls.length=((Ys d p.name p.ar).getD zP).cls.length+1)(hst:yo m p.name p.ar=false)
  (hsd:∀q,Ys d p.name p.ar=some q->q.dyn=true)(b3:H[0]? =some (.box (some 2) (.pv (some 2) d.pv)))(b9:H[q9]? =some (.box (some 2) (.pv (some 2) m.pv)))(b13:H[q13]? =some (.box (some 8) (.pv (some 8) c.pv)))(b16:H[q16]? =some (.box (some 4) (.pv (some 4) p.pv))):
  W Z L 0 asR2 ⟨(3,.ptr 0 0)::(9,.ptr q9 0)::(13,.ptr q13 0)::(16,.ptr q16 0)::(17,P5 true)::(18,P4 (kk:Int))::tl,H⟩ (endK (g3).results (Am.frozen (P5 true))):=by
 have haw:=fun hp=>vJ hp;obtain⟨hn1,ha0,ha8⟩:=vF hm hpm;obtain⟨k,hk⟩:∃k:Nat,p.ar=(k:Int):=⟨p.ar.toNat,by omega⟩;have k8:k<=8:=by omega
 have hxm:=Zj hkk;obtain⟨x1,x2,-,-,-,-,-⟩:=j8 hm hpm hxm;have x1:c.head.valid=true:=x1;have x2:c.body.valid=true:=x2;have hbm:=xm hm;have hbd:=xm hv;have hc5:p.cls.length<=500:=jV hm ((xl hm _ _ _).2 ⟨hpm,rfl,rfl⟩);have kl:=(Ze.1 hkk).1;have e0:((p.cls.length:Int)=0)=False:=Zi (by omega);have p0:∀x:Sto,PV.part deep x.pv 1 (some 4)=some x.cl.head.pv:=fun x=>by obtain⟨_,⟨⟨_,_,_,_⟩,⟨_,_,_,_⟩⟩⟩:=x;rfl
 have p5:∀x:Sto,PV.part deep x.pv 5 (some 4)=some x.cl.body.pv:=fun x=>by obtain⟨_,⟨⟨_,_,_,_⟩,⟨_,_,_,_⟩⟩⟩:=x;rfl
 have s1:=fun hp=>j7 c.head c.head hp (fit9 x1) (fit9 x1);have s2:=fun hp=>j7 c.body c.body hp (fit9 x2) (fit9 x2);rw[vG x1] at s1;rw[vG x2] at s2;have h5:=fun hp=>Br p.name p.ar hp;have hre:decide (p.name∈qm p.ar)=false:=by
  grind [yo]
 rw[hre] at h5;have heq:(eraR m d.next).2=true:=by
  have:=(Pk hm hpm hkk).1
  grind
 obtain⟨-,-,-,hbk,htb,-⟩:=bj heq;have h6:=fun hp=>oA m hbm d.next hp
 rw[heq] at h6;obtain⟨bk,hbke⟩:∃bk,bk=(eraR m d.next).1:=⟨_,rfl⟩;rw[<-hbke] at h6 hbk htb;have h7:=fun hp=>jG d hbd p.name p.ar hp;have h8:=fun hp=>jF bk (xm hbk) hp;have h9:=fun hp=>jF d hbd hp;rw[Zh hbk,show totD bk.procs=totD d.procs by omega] at h8;rw[Zh hv] at h9;have hnil:∀H:Heap,zX A3 H=(A3,H):=fun _=>rfl;have w1:IntKind.i64.wrap ((p.cls.length:Int) - 1)=(p.cls.length:Int) - 1:=zW (by omega) (by omega);obtain⟨qd,hqd⟩:∃qd,qd=(Ys d p.name p.ar).getD zP:=⟨_,rfl⟩;have e1:((qd.cls.length:Int)=(p.cls.length:Int) - 1)=True:=Zg (by grind);have v3:=set_self b3;have u3:∀Y:Heap,(H++Y)[0]? =some (.box (some 2) (.pv (some 2) d.pv)):=fun Y=>by grind
 have u9:∀Y:Heap,(H++Y)[q9]? =some (.box (some 2) (.pv (some 2) m.pv)):=fun Y=>by grind
 have u13:∀Y:Heap,(H++Y)[q13]? =some (.box (some 8) (.pv (some 8) c.pv)):=fun Y=>by grind
 have u16:∀Y:Heap,(H++Y)[q16]? =some (.box (some 4) (.pv (some 4) p.pv)):=fun Y=>by grind
 obtain⟨n,hn⟩:∃n,H.length=n:=⟨_,rfl⟩;simp only[Tm.av,Dbs.av,Prc.av,<-hqd] at s1 s2 h6 h7 h8 h9;have hxs:∀s kk',Yc (some 9) [.pv s (.sl (some 9) (Sto.pvs p.cls)),.pv none (.int kk' (kk:Int))]=some (.iptr (some 9) (Sto.mk d.next c).pv 0):=fun s kk'=>zQ (Sto.pvs_get hkk);have dq:∀hs:(Ys d p.name p.ar).isSome=true,qd.dyn=true:=fun hs=>by
  grind [Option.isSome_iff_exists]
 have key:=PM m c p d.next kk q9 q13 q16 (H++[.box (some 2) (.pv (some 2) bk.pv),.box (some 4) (.pv (some 4) qd.pv),.arr (some 9) [] false]) hm hpm hkk hst (u9 _) (u13 _) (u16 _)
 simp -dsimp -implicitDefEqProofs only[asR3,asR2,y6,g3,c3r0,c3r1,c3r2,c3r3,c3k4,c3r5,c3r6,c3r7,c3k8,c3r9,c3r10,c3r11,c3r12,c3k13,c3r14,c3r15,c3r16,c3k17,c3r18,c3r19,c3r20,c3r21,c3k22,c3r23,c3r24,c3k25,c3r26,c3r27,c3r28,c3r29,c3k30,c3r32,c3r33,c3r34,c3k35,c3r36,c3r37,c3k38,c3r39,c3,go_sem,seval] at key;cases hsome:(Ys d p.name p.ar).isSome with
 |true=>
  have dq:=dq hsome;rw[hsome] at h7;simp -dsimp -implicitDefEqProofs only[asR2,y6,g3,c3r0,c3r1,c3r2,c3r3,c3k4,c3r5,c3r6,c3r7,c3k8,c3r9,c3r10,c3r11,c3r12,c3k13,c3r14,c3r15,c3r16,c3k17,c3r18,c3r19,c3r20,c3r21,c3k22,c3r23,c3r24,c3k25,c3r26,c3r27,c3r28,c3r29,c3k30,c3r32,c3r33,c3r34,c3k35,c3r36,c3r37,c3k38,c3r39,c3,go_sem,seval,b3,b9,b13,b16,u3,u9,u13,u16,Yu,Yw,jB,YG,hdy,Sto.pvs_len,e0,hxs,YF,Yl,p0,p5,YL,YM,s1,s2,h5,h6,h7,h8,h9,dq,w1,e1,hnil,v3,hn,getN hn,z7 hn,setN hn,Yi hn,zN]
  grind
 |false=>
  rw[hsome] at h7;simp -dsimp -implicitDefEqProofs only[asR2,y6,g3,c3r0,c3r1,c3r2,c3r3,c3k4,c3r5,c3r6,c3r7,c3k8,c3r9,c3r10,c3r11,c3r12,c3k13,c3r14,c3r15,c3r16,c3k17,c3r18,c3r19,c3r20,c3r21,c3k22,c3r23,c3r24,c3k25,c3r26,c3r27,c3r28,c3r29,c3k30,c3r32,c3r33,c3r34,c3k35,c3r36,c3r37,c3k38,c3r39,c3,go_sem,seval,b3,b9,b13,b16,u3,u9,u13,u16,Yu,Yw,jB,YG,hdy,Sto.pvs_len,e0,hxs,YF,Yl,p0,p5,YL,YM,s1,s2,h5,h6,h7,h8,h9,w1,hnil,v3,hn,getN hn,z7 hn,setN hn,Yi hn,zN]
  grind
def asR1:ACode:=seqT (seqT (seqT (seqT (g3).code)))
theorem bR{sh:Sh}{v old:AV}{H:Heap}{k:Nat}(h1:v.plain=true)(h2:v.shp=sh)(h3:∀H,v.own H=(v,H))(h:H[k]? =some (.box sh old)):zL sh 0 H [.ptr k 0,v]=some (.undef,H.set k (.box sh v)):=by
 grind [zL,astore]
theorem bS(nm:List UInt8)(t:Tm)(H:Heap):zZ [sA nm [t]] H=some ([(some 4,(strT nm [t]).pv)],H):=rfl
set_option maxHeartbeats 4000000 in
theorem bT(d:Dbs)(hb:BndD d)(t:Tm)(hz:t.size<100000000)(fr:Bool)(nm:List UInt8)(hnm:(fr=true/\nm=asaN)\/(fr=false/\nm=[97,115,115,101,114,116,122])):
  W Z L 0 asR1 ⟨[(2,P5 fr),(3,.ptr 0 0),(8,.ptr 2 0)],[.box (some 2) (.pv (some 2) d.pv),.box (some 4) (.pv (some 4) t.pv),.box (some 4) (sA nm [t]),.arr (some 4) [] false]⟩ (endK (g3).results (Am.frozen (P5 true))):=by
 have haw:=fun hp=>vJ hp;obtain⟨⟨rv,hrv⟩,hva⟩:=Ow d hb;obtain⟨g,hg⟩:∃g,g=strT nm [t]:=⟨_,rfl⟩;have hgz:g.size<1000000000:=by
  have:g.size=1+(t.size+0):=by rw[hg];rfl
  omega
 have h1:∀H,S 8 [sA nm [t]] H=some (.ret (P5 g.valid),H):=fun H=>yw (F:=find tab) (prim:=prim) (f:=8) (fn:=g8) rfl rfl rfl (bS nm t H) (by rw[<-hg];exact xh g [] hgz);have h2:∀H,S 10 [sA nm [t]] H=some (.ret (canR g).av,H):=fun H=>by
  have h:=yw (F:=find tab) (prim:=prim) (f:=10) (fn:=g10) rfl rfl rfl (bS nm t H) (by rw[<-hg];exact vl g [] hgz)
  grind
 obtain⟨sv,hsv⟩:∃sv,sv=sA nm [t]:=⟨_,rfl⟩;rw[<-hsv] at h1 h2 ⊢;simp only[Dbs.av] at hva;cases rv with
 |false=>
  simp -dsimp -implicitDefEqProofs only[asR1,y6,g3,c3r0,c3r1,c3r2,c3r3,c3k4,c3r5,c3r6,c3r7,c3k8,c3r9,c3r10,c3r11,c3r12,c3k13,c3r14,c3r15,c3r16,c3k17,c3r18,c3r19,c3r20,c3r21,c3k22,c3r23,c3r24,c3k25,c3r26,c3r27,c3r28,c3r29,c3k30,c3r31,c3r32,c3r33,c3r34,c3k35,c3r36,c3r37,c3k38,c3r39,c3,go_sem,seval,Dbs.av,hva,haw]
  done
 |true=>
 have hv:=hrv rfl;cases hgv:g.valid with
 |false=>
  rw[hgv] at h1;simp -dsimp -implicitDefEqProofs only[asR1,y6,g3,c3r0,c3r1,c3r2,c3r3,c3k4,c3r5,c3r6,c3r7,c3k8,c3r9,c3r10,c3r11,c3r12,c3k13,c3r14,c3r15,c3r16,c3k17,c3r18,c3r19,c3r20,c3r21,c3k22,c3r23,c3r24,c3k25,c3r26,c3r27,c3r28,c3r29,c3k30,c3r31,c3r32,c3r33,c3r34,c3k35,c3r36,c3r37,c3k38,c3r39,c3,go_sem,seval,Dbs.av,hva,haw,h1]
  done
 |true=>
 rw[hgv] at h1;obtain⟨t2,ht2⟩:∃t2,canR g=strT nm [t2]:=by
  refine⟨Tm.sub (cPos (vads [] g.occ)) t,?_⟩;rw[canR,Zh hgv,canT,hg];rfl
 obtain⟨g2,hg2⟩:∃g2,g2=canR g:=⟨_,rfl⟩;rw[<-hg2] at h2 ht2;have hg2z:g2.size<1000000000:=by
  grind [canR,vk]
 obtain⟨H10,hH10⟩:∃H:Heap,H=[.box (some 2) (.pv (some 2) d.pv),.box (some 4) (.pv (some 4) t.pv),.box (some 4) (.pv (some 4) g2.pv),.arr (some 4) [] false]:=⟨_,rfl⟩;have hb10:Bq H10:=by
  grind [Bq.cons,Jy,XZ,Jp,Bq.nil]
 have hl10:H10.length=4:=by grind
 have hga:g2.args=[t2]:=by rw[ht2];rfl
 have hgn:g2.name=nm:=by rw[ht2];rfl
 have hfrn:decide (g2.name=asaN)=fr:=by
  rw[hgn];rcases hnm with⟨rfl,rfl⟩|⟨rfl,rfl⟩ <;> decide
 have hmain:CErr d g2 H10\/∃c:Cz,g2.valid=true/\(∀hp,S 14 [t2.av] hp=some (.ret (.tuple [c.av,zt.av,P4 0]),hp))/\yo d c.head.name c.head.args.length=false/\(addR d c fr true).2=0/\∃X,S 11 [d.av,g2.av] H10=some (.ret (.tuple [(addR d c fr true).1.av,.sl (some 4) 7 1 0 1,zg 17,P4 0]),H10++X)/\X[3]? =some (.arr (some 4) [g2.pv] false)/\X[13]? =some (.arr (some 4) [] false):=by
  cases hgv2:g2.valid with
  |false=>grind [bM]
  |true=>
  cases hsm:same g2 (canR g2) with
  |false=>grind [bM]
  |true=>
  have htv:t2.valid=true:=XB hgv2 (by grind);obtain⟨c,b,e,k1,k2,k3,k4,k5⟩:=Pa t2 htv;have hGK:GK g2 78:={
   v:=hgv2
   c:=(js hsm).symm
   k:=by rw[ht2];rfl
   l:=by
    rw[hga,hgn];rcases hnm with⟨-,rfl⟩|⟨-,rfl⟩ <;> rfl }
  rcases Ps d hv g2 t2 hGK hga c b e k1 k2 k3 k4 k5 H10 hb10 with h|⟨rfl,j1,j2,j3⟩
  ·grind
  ·rw[hfrn] at j2 j3;rw[hl10] at j3;refine .inr ⟨c,rfl,?_,j1,j2,j3⟩;rcases k2 with⟨h,-⟩|⟨h,-⟩|⟨-,h⟩
   ·cases h
   ·cases h
   grind
 have hnil:∀H:Heap,zX A3 H=(A3,H):=fun _=>rfl;rcases hmain with⟨X,a,bv,e,hc,he,hbv⟩|⟨c,hgv2,h3,hst,hz2,X,hc,hX3,hX13⟩
 ·obtain⟨H11,hH11⟩:∃H,H=H10++X:=⟨_,rfl⟩;obtain⟨n,hn⟩:∃n,H11.length=n:=⟨_,rfl⟩;rw[<-hH11,hH10] at hc;have hw1:∀(b:AV) (Y:Heap),zL (some 2) 0 (H11++.box (some 2) b::Y) [.ptr n 0,Yb]=some (.undef,H11++.box (some 2) Yb::Y):=fun b Y=>by
   simp[zL,astore,z7 hn,Yi hn,Yb,AV.plain,AV.shp,AV.own,total,Sh.size,zX,Y3]
  have hbf:bv.plain=true/\bv.shp=some 4/\∀H,bv.own H=(bv,H):=by
   rcases hbv with⟨-,b,rfl,-⟩|⟨-,q,rfl,-⟩ <;> exact⟨rfl,rfl,fun _=>rfl⟩
  have hw2:∀(x:AObj) (b:AV) (c:AObj),zL (some 4) 0 (H11++[x,.box (some 4) b,c]) [.ptr (n+1) 0,bv]=some (.undef,H11++[x,.box (some 4) bv,c]):=fun x b c=>by
   rw[bR (old:=b) hbf.1 hbf.2.1 hbf.2.2 (by grind [getN]),setN hn];rfl
  have hz1:zT A1 [] []=some Yb:=rfl;have hz0:zT A0 [] []=some zV:=rfl;have hsd:∀H,S 12 [Yb,Yb] H=some (.ret (P5 true),H):=fun H=>yw (F:=find tab) (prim:=prim) (f:=12) (fn:=g12) (ps:=[(some 2,yI.pv),(some 2,yI.pv)]) rfl rfl rfl rfl (PL yI PK []);have e0:=Zi he;have bt:(true == false)=false:=rfl;have bf:(false == true)=false:=rfl;rcases hbv with⟨rfl,b,rfl,hbv,hbk⟩|⟨e8,q,rfl,hq⟩
  ·have hs:∀H,S 13 [b.av,zV] H=some (.ret (P5 false),H):=fun H=>by
    rw[Pl b H (fit9 hbv)];have:same b zt=false:=by
     cases h:same b zt with
     |false=>rfl
     |true=>
      have:=js h;rw[this] at hbk;cases hbk
    grind
   simp only[Tm.av,Dbs.av] at hc hs hw2;simp -dsimp -implicitDefEqProofs only[asR1,y6,g3,c3r0,c3r1,c3r2,c3r3,c3k4,c3r5,c3r6,c3r7,c3k8,c3r9,c3r10,c3r11,c3r12,c3k13,c3r14,c3r15,c3r16,c3k17,c3r18,c3r19,c3r20,c3r21,c3k22,c3r23,c3r24,c3k25,c3r26,c3r27,c3r28,c3r29,c3k30,c3r31,c3r32,c3r33,c3r34,c3k35,c3r36,c3r37,c3k38,c3r39,c3,go_sem,seval,Tm.av,Dbs.av,hva,haw,h1,h2,hc,hw1,hw2,hz1,hz0,hsd,hs,e0,bt,bf,hnil,hn,getN hn,z7 hn,setN hn,Yi hn,zN]
   done
  ·have hs:∀Y:Heap,S 13 [zg (4+q),zV] (H11++Y)=some (.ret (P5 true),H11++Y):=fun Y=>by
    have g1:(H11++Y)[4+q]? =some (.arr (some 4) [] false):=by grind
    have h:=yw (F:=find tab) (prim:=prim) (f:=13) (fn:=g13) (args:=[zg (4+q),zV]) (ps:=[(some 4,zt.pv),(some 4,zt.pv)]) (hp:=H11++Y) (hp1:=(H11++Y).set (4+q) (.arr (some 4) [] true)) rfl rfl rfl (by simp only[zZ,vI g1];rfl) (j7 zt zt [] (by decide) (by decide));rw[Pm] at h;exact h
   have e8:=Zi e8;simp only[Tm.av,Dbs.av,hl10] at hc hs hw2;simp -dsimp -implicitDefEqProofs only[asR1,y6,g3,c3r0,c3r1,c3r2,c3r3,c3k4,c3r5,c3r6,c3r7,c3k8,c3r9,c3r10,c3r11,c3r12,c3k13,c3r14,c3r15,c3r16,c3k17,c3r18,c3r19,c3r20,c3r21,c3k22,c3r23,c3r24,c3k25,c3r26,c3r27,c3r28,c3r29,c3k30,c3r31,c3r32,c3r33,c3r34,c3k35,c3r36,c3r37,c3k38,c3r39,c3,go_sem,seval,Tm.av,Dbs.av,hva,haw,h1,h2,hc,hw1,hw2,hz1,hz0,hsd,hs,e0,e8,bt,bf,hnil,hn,getN hn,z7 hn,setN hn,Yi hn,zN]
   done
 ·obtain⟨m,p,kk,hm,-,hmv,hnx,hto,hpm,hpn,hpa,hdy,hpk,hkk,hlen,hsm⟩:=PI hz2 hst;rw[<-hm] at hc;obtain⟨H11,hH11⟩:∃H,H=H10++X:=⟨_,rfl⟩;obtain⟨n,hn⟩:∃n,H11.length=n:=⟨_,rfl⟩;have v0:H11[0]? =some (.box (some 2) (.pv (some 2) d.pv)):=by grind
  have v2:H11[2]? =some (.box (some 4) (.pv (some 4) g2.pv)):=by grind
  have v7:∀Y:Heap,(H11++Y)[7]? =some (.arr (some 4) [g2.pv] false):=fun Y=>by grind
  have v0':∀Y:Heap,(H11++Y)[0]? =some (.box (some 2) (.pv (some 2) d.pv)):=fun Y=>by grind
  have v2':∀Y:Heap,(H11++Y)[2]? =some (.box (some 4) (.pv (some 4) g2.pv)):=fun Y=>by grind
  have u0:=set_self v0;have u2:=set_self v2;rw[<-hH11,hH10] at hc;have hw2:∀(x:AObj) (b:AV) (c:AObj),zL (some 4) 0 (H11++[x,.box (some 4) b,c]) [.ptr (n+1) 0,zg 17]=some (.undef,H11++[x,.box (some 4) (zg 17),c]):=fun x b c=>by
   rw[bR (sh:=some 4) (old:=b) rfl rfl (fun _=>rfl) (by grind [getN]),setN hn];rfl
  have i0:∀s kk,Yc (some 4) [.pv s (.sl (some 4) [t2.pv]),.pv none (.int kk 0)]=some (.iptr (some 4) t2.pv 0):=fun _ _=>rfl;have e3:Tm.pvs g2.args=[t2.pv]:=by rw[hga];rfl
  have ia:∀kk,Yc (some 4) [.sl (some 4) 7 1 0 1,.pv none (.int kk 0)]=some (.eptr (some 4) 7 1 0 0):=fun kk=>rfl;have hld:∀Y:Heap,aload (some 4) (H11++Y) (.eptr (some 4) 7 1 0 0)=some (.pv (some 4) g2.pv):=fun Y=>by simp[aload,v7]
  have h4:=fun hp=>j7 g2 g2 hp hg2z hg2z;rw[vG hgv2] at h4;have hbm:=xm hmv;have h5:=fun hp=>yP m hbm.1 hbm.2.1 hbm.2.2 hp;rw[hmv] at h5;have h6:=fun hp=>jF m hbm hp;have h7:=fun hp=>jF d hb hp;rw[Zh hmv,hto] at h6;rw[Zh hv] at h7;have h8:=fun hp=>jG m hbm c.head.name c.head.args.length hp;have hfm:Ys m c.head.name c.head.args.length=some p:=(xl hmv _ _ _).2 ⟨hpm,hpn,hpa⟩;rw[hfm] at h8;have hdn:=(Xg d).1 hv;have w1:IntKind.i64.wrap (d.next+1)=d.next+1:=zW (by omega) (by omega)
  have w2:IntKind.i64.wrap ((totD d.procs:Int)+1)=((totD d.procs+1:Nat):Int):=by grind [zW]
  have hc5:p.cls.length<=500:=jV hmv hfm;have w3:IntKind.i64.wrap ((p.cls.length:Int) - 1)=(p.cls.length:Int) - 1:=zW (by omega) (by omega);have ezz:((0:Int)=0)=True:=Zg rfl;have l1:∀x:PV,(([x]:List PV).length:Int)=1:=fun _=>rfl;simp only[Tm.av,Dbs.av,Cz.av,Prc.av,zx,Option.isSome_some] at hc h3 h4 h5 h6 h7 h8;simp -dsimp -implicitDefEqProofs only[asR1,y6,g3,c3r0,c3r1,c3r2,c3r3,c3k4,c3r5,c3r6,c3r7,c3k8,c3r9,c3r10,c3r11,c3r12,c3k13,c3r14,c3r15,c3r16,c3k17,c3r18,c3r19,c3r20,c3r21,c3r24,c3k25,c3r26,c3r27,c3r28,c3r29,c3k30,c3r31,c3r32,c3r33,c3r34,c3k35,c3r36,c3r37,c3k38,c3r39,c3,go_sem,seval,Tm.av,Dbs.av,hva,haw,h1,h2,hc,hw2,v0,v2,v0',v2',u0,u2,zK,e3,i0,h3,ia,hld,h4,h5,h6,h7,h8,hnx,w1,w2,w3,Yl,YG,Sto.pvs_len,jZ,j6,Tm.pvs_len,hnil,hn,getN hn,z7 hn,setN hn,Yi hn,zN];obtain⟨K,hK⟩:∃K:Heap,K=H11++[.box (some 2) (.pv (some 2) m.pv),.box (some 4) (zg 17),.arr (some 4) [] false,.box (some 8) (.pv (some 8) c.pv),.box (some 4) (.pv (some 4) zt.pv),.arr (some 4) [] false,.box (some 4) (.pv (some 4) p.pv),.arr (some 9) [] false]:=⟨_,rfl⟩;rw[<-hK];have b3:K[0]? =some (.box (some 2) (.pv (some 2) d.pv)):=by grind
  have b9:K[n]? =some (.box (some 2) (.pv (some 2) m.pv)):=by grind
  have b13:K[n+3]? =some (.box (some 8) (.pv (some 8) c.pv)):=by rw[hK,getN hn];rfl
  have b16:K[n+6]? =some (.box (some 4) (.pv (some 4) p.pv)):=by rw[hK,getN hn];rfl
  have hsd:∀q,Ys d p.name p.ar=some q->q.dyn=true:=fun q hq=>by
   grind [yo]
  have kl:=(Ze.1 hkk).1;have key:=fun tl=>PN d m c p kk n (n+3) (n+6) K tl hv hmv hnx hto hpm hdy hkk hlen hsm hsd b3 b9 b13 b16;cases fr with
  |true=>
   have e:(kk:Int)=0:=by grind
   have key:=key [];rw[e] at key;simp -dsimp -implicitDefEqProofs only[asR2,y6,g3,c3r0,c3r1,c3r2,c3r3,c3k4,c3r5,c3r6,c3r7,c3k8,c3r9,c3r10,c3r11,c3r12,c3k13,c3r14,c3r15,c3r16,c3k17,c3r18,c3r19,c3r20,c3r21,c3k22,c3r24,c3k25,c3r26,c3r27,c3r28,c3r29,c3k30,c3r31,c3r32,c3r33,c3r34,c3k35,c3r36,c3r37,c3k38,c3r39,c3,go_sem,seval] at key;simp -dsimp -implicitDefEqProofs only[c3r6,c3k22,c3r31,go_sem,seval]
   grind
  |false=>
   have e:(kk:Int)=(p.cls.length:Int) - 1:=by
    simp_all
   have key:=key [(133,P5 false)];rw[e] at key;simp -dsimp -implicitDefEqProofs only[asR2,y6,g3,c3r0,c3r1,c3r2,c3r3,c3k4,c3r5,c3r6,c3r7,c3k8,c3r9,c3r10,c3r11,c3r12,c3k13,c3r14,c3r15,c3r16,c3k17,c3r18,c3r19,c3r20,c3r21,c3k22,c3r24,c3k25,c3r26,c3r27,c3r28,c3r29,c3k30,c3r31,c3r32,c3r33,c3r34,c3k35,c3r36,c3r37,c3k38,c3r39,c3,go_sem,seval] at key;simp -dsimp -implicitDefEqProofs only[c3r6,c3k22,c3r31,go_sem,seval]
   grind
theorem PO(d:Dbs)(hb:BndD d)(t:Tm)(hz:t.size<100000000)(fr:Bool):S 3 [d.av,t.av,P5 fr] []=some (.ret (P5 true),[]):=by
 refine zM rfl rfl rfl (zJ [(some 2,d.pv),(some 4,t.pv),(none,.bool fr)]) rfl ?_;have st8:∀(nm:List UInt8) (a b c d:AObj) (v:AV),zL (some 4) 0 [a,b,.box (some 4) v,c] [.ptr 2 0,sA nm [t]]=some (.undef,[a,b,.box (some 4) (sA nm [t]),c]):=fun nm a b c d v=>by
  simp[zL,astore,sA,AV.plain,AV.shp,AV.own,total,Sh.size,zX,Y3,Tm.pvs]
 cases fr with
 |true=>
  have h1:=fun hp=>bJ asaN [t] (by simp) hp;have key:=bT d hb t hz true asaN (.inl ⟨rfl,rfl⟩);obtain⟨sv,hsv⟩:∃sv,sv=sA asaN [t]:=⟨_,rfl⟩;have st8:=fun a b c v=>st8 asaN a b c c v;rw[<-hsv] at h1 key st8;unfold asaN at h1;simp only[Tm.pvs] at h1;simp -dsimp -implicitDefEqProofs only[asR1,y6,g3,c3r0,c3r1,c3r2,c3r3,c3k4,c3r5,c3r7,c3k8,c3r9,c3r10,c3r11,c3r12,c3k13,c3r14,c3r15,c3r16,c3k17,c3r18,c3r19,c3r20,c3r21,c3k22,c3r23,c3r24,c3k25,c3r26,c3r27,c3r28,c3r29,c3k30,c3r31,c3r32,c3r33,c3r34,c3k35,c3r36,c3r37,c3k38,c3r39,c3,go_sem,seval] at key;simp -dsimp -implicitDefEqProofs only[c3r23,c3k22,c3r31,go_sem,seval,h1,st8,zN]
  grind
 |false=>
  have h1:=fun hp=>bJ [97,115,115,101,114,116,122] [t] (by simp) hp;have key:=bT d hb t hz false _ (.inr ⟨rfl,rfl⟩);obtain⟨sv,hsv⟩:∃sv,sv=sA [97,115,115,101,114,116,122] [t]:=⟨_,rfl⟩;have st8:=fun a b c v=>st8 [97,115,115,101,114,116,122] a b c c v;rw[<-hsv] at h1 key st8;simp only[Tm.pvs] at h1;simp -dsimp -implicitDefEqProofs only[asR1,y6,g3,c3r0,c3r1,c3r2,c3r3,c3k4,c3r5,c3r7,c3k8,c3r9,c3r10,c3r11,c3r12,c3k13,c3r14,c3r15,c3r16,c3k17,c3r18,c3r19,c3r20,c3r21,c3k22,c3r23,c3r24,c3k25,c3r26,c3r27,c3r28,c3r29,c3k30,c3r31,c3r32,c3r33,c3r34,c3k35,c3r36,c3r37,c3k38,c3r39,c3,go_sem,seval] at key;simp -dsimp -implicitDefEqProofs only[c3r23,c3k22,c3r31,go_sem,seval,h1,st8,zN]
  grind
end Go.Proofs.YtgedfopkiebjkaaGreatDoor
