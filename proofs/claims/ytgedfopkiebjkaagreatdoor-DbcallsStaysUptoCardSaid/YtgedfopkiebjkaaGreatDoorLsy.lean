/- What is proved: calls of what is no predicate here. -/
import Derived.Test.YtgedfopkiebjkaaGreatDoorEr3
import Derived.Test.YtgedfopkiebjkaaGreatDoorTerm
import Derived.Test.YtgedfopkiebjkaaGreatDoorAm5
import Derived.Test.YtgedfopkiebjkaaGreatDoorRdx
import Derived.Test.YtgedfopkiebjkaaGreatDoorOkp
set_option linter.unusedSimpArgs false
set_option linter.unusedVariables false
set_option maxRecDepth 20000
namespace Go.Proofs.YtgedfopkiebjkaaGreatDoor
open Go.Am
theorem Pd(d:Dbs)(hv:okD d=true)(g:Tm)(hgv:g.valid=true)(hgc:canR g=g)(hno:afindr [1,0] [(none,PV.str g.name),(none,.int .i64 (g.args.length:Int))] (YA 8 prS prN prF)=some none)(hp:Heap)(hb:Bq hp):CErr d g hp:=by
 have hbd:=Xi hv;have hz:=valid_size hgv;have h1:=fun hp=>Y2 d hbd.1 hbd.2.1 hbd.2.2 hp;have h2:=fun hp=>YR g hp (by omega);have h3:=fun hp=>JK g hp (by omega);have h4:=fun hp=>Qa g g hp (by omega) (by omega);have hsm:same g g=true:=by grind [same,Tm.zAQ]
 rw[hsm] at h4;rw[hv] at h1;rw[hgv] at h2;rw[hgc] at h3;have hz0:=P0;have hz1:zQ A1 [] []=some Yb:=rfl;have hbk:∀(s:List UInt8) (k:Int),zQ A7 [0,1] [P6 s,P4 k]=some (.pv (some 2) (.agg [(none,.str s),(none,.int .i64 k)])):=fun _ _=>rfl;have hnil:∀H:Heap,zR A3 H=(A3,H):=fun _=>rfl;have hn0:=P3;have hlk:∀(a b c d e f':AObj) (s:Sh) (Z:Heap),XA [1,0] none (.pv none .nilfunc) true (hp++a::b::c::d::e::f'::.map none (YA 8 prS prN prF)::Z) [.map (hp.length+6),.pv s (.agg [(none,.str g.name),(none,.int .i64 (g.args.length:Int))])]=some (.tuple [.pv none .nilfunc,P5 false]):=fun a b c d e f' s Z=>by
  simp_all[Yd,XA]
 have hzb:=qt;have hzg:=fun q=>QX (some 4) q;refine⟨[.box (some 2) (.pv (some 2) d.pv),.box (some 4) (.pv (some 4) g.pv),.box (some 2) Yb,.arr (some 4) [] false,.box (some 4) (zg (hp.length+8)),.arr (some 4) [] false,.map none (YA 8 prS prN prF),.arr (some 4) [] false,.arr (some 4) [] false],hp.length+7,zg (hp.length+8),4,?_,by decide,.inr ⟨by decide,8,rfl,rfl⟩⟩;simp only[Tm.av,Dbs.av,Yb,zg] at h1 h2 h3 h4 hzb hzg ⊢;refine Yj rfl rfl rfl rfl ?_;simp -dsimp -implicitDefEqProofs only[go_sem,seval,z6,Tm.av,Dbs.av,Yb,h1,h2,h3,h4,zN,zJ,zL,Tm.pvs_len,hlk,j7,hz0,hz1,hbk,hnil,hn0,JA,JB,Jg rfl,JC hb,ZE,JD,JE,ZX,ZR,ZS,JM,yG,QW,hzb,hzg,Qh,xy,zF,zD (Zd _ _)];have hf:∀k,¬hp.length+k<hp.length:=fun k=>by omega
 simp[Yn,Fr.look,aload,Xf,YJ,xx,Yb,zg,Tm.av,Dbs.av,hf,AV.shp,total,Sh.size,tupO,XG,valK,AV.refsIn,AV.refsIn.gol,AV.refsIn.go]
theorem Pe(nm:List UInt8)(n:Nat)(h:¬∃i,i<8/\nm=prS i/\(n:Int)=prN i):afindr [1,0] [(none,PV.str nm),(none,.int .i64 (n:Int))] (YA 8 prS prN prF)=some none:=by
 have hi:∀i,i<8->Yd [1,0] [(none,PV.str nm),(none,.int .i64 (n:Int))] [(none,.str (prS i)),(none,.int .i64 (prN i))]=some false:=fun i hi=>by
  grind [Yd]
 have e:=fun i=>hi i;show afindr [1,0] _ [(_,_),(_,_),(_,_),(_,_),(_,_),(_,_),(_,_),(_,_)]=_;simp_all[afindr]
theorem JO{l:List Tm}(h:(l.length:Int)=1):∃t,l=[t]:=by
 match l,h with
 |[t],_=>grind
 |[],h=>grind
 |_::_::_,h=>grind
theorem Pf(d:Dbs)(hbd:BndD d)(g:Tm)(hz:g.size<100000000)(hp:Heap)(hb:Bq hp):B5 d g hp:=by
 have hz':g.size<1000000000:=by omega
 cases hv:okD d with
 |false=>exact .inl (vE hbd hz' (.inl hv) hb)
 |true=>
 cases hgv:g.valid with
 |false=>exact .inl (vE hbd hz' (.inr (.inl ⟨hv,hgv⟩)) hb)
 |true=>
 cases hsm:same g (canR g) with
 |false=>exact .inl (vE hbd hz' (.inr (.inr ⟨hv,hgv,hsm⟩)) hb)
 |true=>
 have hgc:=(jI hsm).symm;by_cases hex:∃i,i<8/\g.name=prS i/\(g.args.length:Int)=prN i
 ·obtain⟨i,hi,hn,hl⟩:=hex;have hgk:∀f,f=prF i->GK g f:=fun f hf=>{
   v:=hgv
   c:=hgc
   k:=bc hgv (by
    grind [prN])
   l:=by
    rw[hn,hl,hf]
    match i,hi with
    |0,_|1,_|2,_|3,_|4,_|5,_|6,_|7,_=>rfl }
  match i,hi with
  |0,_|1,_=>
   obtain⟨t,ht⟩:=JO hl;refine qu d hv g _ (hgk _ rfl) (fun hp r hb hr hq=> ?_) hp hb;obtain⟨c,b,e,k1,k2,k3,k4,k5⟩:=oA t (YS hgv (by grind));obtain⟨v,hp',hS,hQ⟩:=oD d hv g t hgv ht c b e k1 k2 k3 k4 k5 hp r (r+1) hr;refine⟨v,hp',hS,?_⟩;rcases hQ with⟨b,b1,b2,rfl,rfl⟩|⟨k,h0,h8,rfl,rfl⟩|⟨-,-,h,rfl,rfl⟩
   ·exact Xx ⟨b1,b2⟩
   ·have:=B6 (d:=d) (g:=g) (r:=r) (.box (some 7) (cB d g (slA (r+1) 0))) h0 h8 hq
    grind [Qd]
   ·obtain⟨s1,s2⟩:=ov h;exact JN hgv s1 (by omega) (.inr (by rw[hn];decide)) hq
  |2,_=>
   obtain⟨t,ht⟩:=JO hl;exact qu d hv g _ (hgk _ rfl) (fun hp r hb hr hq=>oV d hv g t hgv ht (by rw[hn];decide) hp r hr hq) hp hb
  |3,_=>
   obtain⟨t,ht⟩:=JO hl;exact qu d hv g _ (hgk _ rfl) (fun hp r hb hr hq=>oW d hv g t hgv ht (by rw[hn];decide) hp hb r hr hq) hp hb
  |4,_=>
   obtain⟨t,ht⟩:=JO hl;exact qu d hv g _ (hgk _ rfl) (fun hp r hb hr hq=>Pb d hv g t hgv ht hp r hr hq) hp hb
  |5,_|6,_=>
   exact qu d hv g _ (hgk _ rfl) (fun hp r hb hr hq=>o9 d hv g hgv (by grind [prN]) hp r hr hq) hp hb
  |7,_=>
   obtain⟨t,ht⟩:=JO hl;exact qu d hv g _ (hgk _ rfl) (fun hp r hb hr hq=>Pc d hv g t hgv ht (by rw[hn];decide) hp r hr hq) hp hb
 ·exact .inl (Pd d hv g hgv hgc (Pe _ _ hex) hp hb)
theorem fok0:FactsOk (find tab) prim []:=.nil
def v0:PV:=(.str [97,116,111,109])
def v1:PV:=(.str [99,108,97,117,115,101])
def v2:PV:=(.str [36,99,108,97,117,115,101])
def v3:PV:=(.str [97,115,115,101,114,116,122])
def v4:PV:=(.agg [(none,(.int .i64 (0))),(none,(.int .i64 (0))),(none,(.str [])),(none,(.sl (some 4) []))])
def v5:PV:=(.agg [(none,(.int .i64 (0))),(none,(.int .i64 (1))),(none,(.str [])),(none,(.sl (some 4) []))])
def v6:PV:=(.agg [(none,(.int .i64 (0))),(none,(.int .i64 (2))),(none,(.str [])),(none,(.sl (some 4) []))])
def v7:PV:=(.agg [(none,(.int .i64 (0))),(none,(.int .i64 (3))),(none,(.str [])),(none,(.sl (some 4) []))])
def v8:PV:=(.agg [(none,(.int .i64 (1))),(none,(.int .i64 (1))),(none,(.str [])),(none,(.sl (some 4) []))])
def v9:PV:=(.sl (some 4) [(.agg [(none,(.int .i64 (2))),(none,(.int .i64 (0))),(none,(.str [97])),(none,(.sl (some 4) []))])])
def v10:PV:=(.agg [(none,(.int .i64 (2))),(none,(.sl (some 4) [(.agg [(none,(.str [112])),(none,(.int .i64 (1))),(none,(.bool true)),(none,(.sl (some 9) []))])]))])
def v11:PV:=(.agg [(none,(.int .i64 (3))),(none,(.int .i64 (0))),(none,(.str [112])),(none,(.sl (some 4) [v4]))])
def v12:PV:=(.agg [(none,(.int .i64 (3))),(none,(.int .i64 (0))),(none,(.str [36,101,114,97,115,101])),(none,(.sl (some 4) [v8]))])
def v13:PV:=(.agg [(none,(.int .i64 (3))),(none,(.int .i64 (0))),(none,(.str [113])),(none,(.sl (some 4) [v4,v5]))])
def v14:PV:=(.agg [(none,(.int .i64 (2))),(none,(.sl (some 4) [(.agg [(none,(.str [112])),(none,(.int .i64 (1))),(none,(.bool true)),(none,(.sl (some 9) [(.agg [(none,(.int .i64 (1))),((some 8),(.agg [((some 4),v11),((some 4),v13)]))])]))])]))])
def v15:PV:=(.agg [(none,(.int .i64 (3))),(none,(.int .i64 (0))),(none,v3),(none,(.sl (some 4) [(.agg [(none,(.int .i64 (3))),(none,(.int .i64 (0))),(none,(.str [58,45])),(none,(.sl (some 4) [v11,v13]))])]))])
def fK1:Facts:=(18,[(none,(.str [112])),(none,(.int .i64 (1)))],(P5 false))::[]
theorem fok1:FactsOk (find tab) prim fK1:=.cons (by kernel_rfl) (X9 (n:=60) fok0 (by kernel_rfl)) fok0
def fK2:Facts:=(25,[((some 2),(.agg [(none,(.int .i64 (1))),(none,(.sl (some 4) []))])),((some 4),v15),(none,(.sl (some 4) [v15]))],(.tuple [(.pv (some 2) v14),(P5 true)]))::fK1
theorem fok2:FactsOk (find tab) prim fK2:=.cons (by kernel_rfl) (X9 (n:=60) fok1 (by kernel_rfl)) fok1
def fK3:Facts:=(32,[],(.tuple [(.pv (some 2) v14),(P5 true)]))::fK2
theorem fok3:FactsOk (find tab) prim fK3:=.cons (by kernel_rfl) (X9 (n:=60) fok2 (by kernel_rfl)) fok2
def fK4:Facts:=(25,[((some 2),v14),((some 4),(.agg [(none,(.int .i64 (3))),(none,(.int .i64 (0))),(none,v1),(none,(.sl (some 4) [(.agg [(none,(.int .i64 (3))),(none,(.int .i64 (0))),(none,(.str [112])),(none,v9)]),v4]))])),(none,(.sl (some 4) [(.agg [(none,(.int .i64 (3))),(none,(.int .i64 (0))),(none,v1),(none,(.sl (some 4) [(.agg [(none,(.int .i64 (3))),(none,(.int .i64 (0))),(none,(.str [112])),(none,(.sl (some 4) [v5]))]),(.agg [(none,(.int .i64 (3))),(none,(.int .i64 (0))),(none,(.str [113])),(none,(.sl (some 4) [v5,v6]))])]))])]))],(.tuple [(.pv (some 2) v14),(P5 true)]))::fK3
theorem fok4:FactsOk (find tab) prim fK4:=.cons (by kernel_rfl) (X9 (n:=60) fok3 (by kernel_rfl)) fok3
def fK5:Facts:=(25,[((some 2),v14),((some 4),(.agg [(none,(.int .i64 (3))),(none,(.int .i64 (0))),(none,v2),(none,(.sl (some 4) [v11,v5,v6]))])),(none,(.sl (some 4) [(.agg [(none,(.int .i64 (3))),(none,(.int .i64 (0))),(none,v2),(none,(.sl (some 4) [(.agg [(none,(.int .i64 (3))),(none,(.int .i64 (0))),(none,(.str [112])),(none,(.sl (some 4) [v7]))]),(.agg [(none,(.int .i64 (3))),(none,(.int .i64 (0))),(none,(.str [113])),(none,(.sl (some 4) [v7,(.agg [(none,(.int .i64 (0))),(none,(.int .i64 (4))),(none,(.str [])),(none,(.sl (some 4) []))])]))]),v8]))])]))],(.tuple [(.pv (some 2) v14),(P5 true)]))::fK4
theorem fok5:FactsOk (find tab) prim fK5:=.cons (by kernel_rfl) (X9 (n:=60) fok4 (by kernel_rfl)) fok4
def fK6:Facts:=(25,[((some 2),v14),((some 4),v12),(none,(.sl (some 4) [v12]))],(.tuple [(.pv (some 2) v10),(P5 true)]))::fK5
theorem fok6:FactsOk (find tab) prim fK6:=.cons (by kernel_rfl) (X9 (n:=60) fok5 (by kernel_rfl)) fok5
def fK7:Facts:=(25,[((some 2),v10),((some 4),v12),(none,(.sl (some 4) []))],(.tuple [(.pv (some 2) v10),(P5 true)]))::fK6
theorem fok7:FactsOk (find tab) prim fK7:=.cons (by kernel_rfl) (X9 (n:=60) fok6 (by kernel_rfl)) fok6
def fK8:Facts:=(18,[(none,v0),(none,(.int .i64 (1)))],(P5 true))::fK7
theorem fok8:FactsOk (find tab) prim fK8:=.cons (by kernel_rfl) (X9 (n:=60) fok7 (by kernel_rfl)) fok7
def fK9:Facts:=(33,[((some 2),v14),((some 4),(.agg [(none,(.int .i64 (3))),(none,(.int .i64 (0))),(none,v3),(none,(.sl (some 4) [(.agg [(none,(.int .i64 (3))),(none,(.int .i64 (0))),(none,v0),(none,v9)])]))])),((some 4),(.agg [(none,(.int .i64 (3))),(none,(.int .i64 (0))),(none,(.str [112,101,114,109,105,115,115,105,111,110,95,101,114,114,111,114])),(none,(.sl (some 4) [(.agg [(none,(.int .i64 (2))),(none,(.int .i64 (0))),(none,(.str [109,111,100,105,102,121])),(none,(.sl (some 4) []))]),(.agg [(none,(.int .i64 (2))),(none,(.int .i64 (0))),(none,(.str [115,116,97,116,105,99,95,112,114,111,99,101,100,117,114,101])),(none,(.sl (some 4) []))]),(.agg [(none,(.int .i64 (3))),(none,(.int .i64 (0))),(none,(.str [47])),(none,(.sl (some 4) [(.agg [(none,(.int .i64 (2))),(none,(.int .i64 (0))),(none,v0),(none,(.sl (some 4) []))]),v8]))])]))]))],(P5 true))::fK8
theorem fok9:FactsOk (find tab) prim fK9:=.cons (by kernel_rfl) (X9 (n:=60) fok8 (by kernel_rfl)) fok8
def fK10:Facts:=(18,[(none,(.str [105,115])),(none,(.int .i64 (2)))],(P5 true))::fK9
theorem Pg:FactsOk (find tab) prim fK10:=.cons (by kernel_rfl) (X9 (n:=60) fok9 (by kernel_rfl)) fok9
theorem run9:yes (y3 fK10 (find tab) prim 60 .fn 9 [] [])=true:=by kernel_rfl
theorem sem9:sem (find tab) prim .fn 9 [] []=some (.ret (P5 true),[]):=Ji Pg 60 _ _ _ _ _ (G0 run9)
def sfD(d:Dbs):Prop:=d.procs.length<1000000000/\∀p∈d.procs,okCl p/\p.cls.length<1000000000
theorem Ph:sfD Y7:=⟨by decide,fun p hp=>by cases hp⟩
theorem Pi{d:Dbs}(hv:okD d=true):sfD d:=by
 have hd5:=(yw d).1 hv;exact⟨by omega,fun p hp=>⟨xc hv p hp,by have:=y5 hp;omega⟩⟩
theorem bh(d:Dbs)(h:sfD d)(hp:Heap):S 12 [d.av,d.av] hp=some (.ret (P5 true),hp):=by
 refine zM rfl rfl rfl (zK [(some 2,d.pv),(some 2,d.pv)]) rfl ?_;simp -dsimp -implicitDefEqProofs only[go_sem,seval,Dbs.av,YB,YC,Prc.pvs_len];refine Yp (α:=Unit) d.procs.length (fun _ _=>True) (fun i _=>⟨[(2,.ptr 0 0),(3,.ptr 1 0),(5,P4 i)],[.box (some 2) (.pv (some 2) d.pv),.box (some 2) (.pv (some 2) d.pv)]⟩) () ⟨trivial,rfl⟩ ?_ ?_
 ·rintro i - hi -;have hcc:(i:Int)<(d.procs.length:Int):=by omega
  have hl:=h.1;have w1:IntKind.i64.wrap ((i:Int)+1)=((i+1:Nat):Int):=by rw[zU (by omega) (by omega)];omega
  obtain⟨p,hpp⟩:∃p,d.procs[i]? =some p:=⟨_,Ze hi⟩;obtain⟨hc,hl2⟩:=h.2 p (Zh hpp);have h3:=fun hp=>ND p hl2 hc hp;simp only[Prc.av] at h3;simp -dsimp -implicitDefEqProofs only[go_sem,seval,hcc,w1,YC,Prc.pvs_len,zT (Prc.pvs_get hpp),h3];exact⟨(),trivial⟩
 ·rintro - -;have hcc:¬(d.procs.length:Int)<(d.procs.length:Int):=by omega
  simp -dsimp -implicitDefEqProofs only[go_sem,seval,hcc,YC,Prc.pvs_len]
  done
theorem bj(hp:Heap):S 9 [] hp=some (.ret (P5 true),hp):=by
 have h:=X7 (hp:=hp) (args:=[]) (ps:=[]) (hp1:=hp) (f:=9) rfl rfl rfl rfl sem9;exact h
def seqT:ACode->ACode
 | .seq _ b=>b
 |c=>c
theorem bm(a b:ACode):seqT (.seq a b)=b:=rfl
def stR:ACode:=seqT (seqT (seqT (seqT (seqT (g5).code))))
theorem bn{sh:Sh}{v old:AV}{H:Heap}{k:Nat}(h1:v.plain=true)(h2:v.shp=sh)(h3:∀H,v.own H=(v,H))(h:H[k]? =some (.box sh old)):zH sh 0 H [.ptr k 0,v]=some (.undef,H.set k (.box sh v)):=by
 grind [zH,astore]
theorem Pj(g:Tm)(ts:List Tm)(hts:∀t∈ts,t.valid=true/\t.name=g.name/\t.args.length=g.args.length)(hl:ts.length<1000)(H:Heap)(h1:H[1]? =some (.box (some 4) (.pv (some 4) g.pv)))(h5:H[5]? =some (.arr (some 4) (Tm.pvs ts) false)):
  W Z L 0 stR ⟨[(3,.ptr 1 0),(6,.sl (some 4) 5 ts.length 0 ts.length)],H⟩ (endK (g5).results (Am.frozen (P5 true))):=by
 have haw:=fun hp=>bj hp;have hsl:sLen [.sl (some 4) 5 ts.length 0 ts.length]=some (P4 ts.length):=rfl;simp -dsimp -implicitDefEqProofs only[stR,bm,go_sem,seval,hsl];refine Yp (α:=Unit) ts.length (fun _ _=>True) (fun i _=>⟨[(3,.ptr 1 0),(6,.sl (some 4) 5 ts.length 0 ts.length),(78,P4 ts.length),(79,P4 i)],H⟩) () ⟨trivial,rfl⟩ ?_ ?_
 ·rintro i - hi -;have hc:(i:Int)<(ts.length:Int):=by omega
  have w1:IntKind.i64.wrap ((i:Int)+1)=((i+1:Nat):Int):=by grind [zU]
  obtain⟨u,hu⟩:∃u,ts[i]? =some u:=⟨_,Ze hi⟩;obtain⟨u1,u2,u3⟩:=hts u (Zh hu);have h2:=fun hp=>Vz u hp (by grind [valid_size]);rw[u1] at h2;have ia:=xZ (sh:=some 4) (s':=none) (k:=.i64) (r:=5) (v:=ts.length) (o:=0) (n:=ts.length) (i:=i) hi;rw[ZK] at ia;have hld:aload (some 4) H (.eptr (some 4) 5 ts.length i 0)=some (.pv (some 4) u.pv):=by
   grind [aload,Tm.pvs_get,Tm.pvs_len]
  have hl2:aload none H (.eptr (some 4) 5 ts.length i 2)=some (P6 u.name):=by
   grind [zN,aload]
  have hl3:aload none H (.eptr (some 4) 5 ts.length i 3)=some (.pv none (.sl (some 4) (Tm.pvs u.args))):=by
   grind [zL,aload]
  simp only[Tm.av] at h2;simp -dsimp -implicitDefEqProofs only[c5b18,go_sem,seval,hc,w1,ia,hld,hl2,hl3,h1,h2,u2,u3,zN,zL,Tm.pvs_len];simp_all[QL]
 ·rintro - -;have hc:¬(ts.length:Int)<(ts.length:Int):=by omega
  simp -dsimp -implicitDefEqProofs only[c5b18,go_sem,seval,hc,haw]
  done
set_option maxHeartbeats 4000000 in
theorem Pk(d:Dbs)(hb:BndD d)(g:Tm)(hz:g.size<100000000):S 5 [d.av,g.av] []=some (.ret (P5 true),[]):=by
 refine zM rfl rfl rfl (zK [(some 2,d.pv),(some 4,g.pv)]) rfl ?_;have haw:=fun hp=>bj hp;obtain⟨H2,hH2⟩:∃H:Heap,H=[.box (some 2) (.pv (some 2) d.pv),.box (some 4) (.pv (some 4) g.pv)]:=⟨_,rfl⟩;have hb2:Bq H2:=by
  grind [Bq.cons,QW,yG,Bq.nil]
 have hl2:H2.length=2:=by grind
 have hnil:∀H:Heap,zR A3 H=(A3,H):=fun _=>rfl;rcases Pf d hb g hz H2 hb2 with⟨X,a,bv,e,hc,he,hbv⟩|⟨m,ts,X,hm,hc,hX3,hX13⟩
 ·obtain⟨H11,hH11⟩:∃H,H=H2++X:=⟨_,rfl⟩;obtain⟨n,hn⟩:∃n,H11.length=n:=⟨_,rfl⟩;rw[<-hH11,hH2] at hc;have hw1:∀(b:AV) (Y:Heap),zH (some 2) 0 (H11++.box (some 2) b::Y) [.ptr n 0,Yb]=some (.undef,H11++.box (some 2) Yb::Y):=fun b Y=>by
   simp[zH,astore,Ye hn,Yl hn,Yb,AV.plain,AV.shp,AV.own,total,Sh.size,zR,YI]
  have hbf:bv.plain=true/\bv.shp=some 4/\∀H,bv.own H=(bv,H):=by
   rcases hbv with⟨-,b,rfl,-⟩|⟨-,q,rfl,-⟩ <;> exact⟨rfl,rfl,fun _=>rfl⟩
  have hw2:∀(x:AObj) (b:AV) (c:AObj),zH (some 4) 0 (H11++[x,.box (some 4) b,c]) [.ptr (n+1) 0,bv]=some (.undef,H11++[x,.box (some 4) bv,c]):=fun x b c=>by
   rw[bn (old:=b) hbf.1 hbf.2.1 hbf.2.2 (by grind [getN]),setN hn];rfl
  have hz1:zQ A1 [] []=some Yb:=rfl;have hz0:zQ A0 [] []=some zV:=rfl;have hsd:∀H,S 12 [Yb,Yb] H=some (.ret (P5 true),H):=fun H=>X7 (F:=find tab) (prim:=prim) (f:=12) (fn:=g12) (ps:=[(some 2,Y7.pv),(some 2,Y7.pv)]) rfl rfl rfl rfl (bh Y7 Ph []);have e0:=Zg he;have bt:(true == false)=false:=rfl;have bf:(false == true)=false:=rfl;rcases hbv with⟨rfl,b,rfl,hbv,hbk⟩|⟨e8,q,rfl,hq⟩
  ·have hs:∀H,S 13 [b.av,zV] H=some (.ret (P5 false),H):=fun H=>by
    rw[oH b H (fit9 hbv)];have:same b zt=false:=by
     cases h:same b zt with
     |false=>rfl
     |true=>
      have:=jI h;rw[this] at hbk;cases hbk
    grind
   simp only[Tm.av,Dbs.av] at hc hs hw2;simp -dsimp -implicitDefEqProofs only[c5b18,go_sem,seval,Tm.av,Dbs.av,haw,hc,hw1,hw2,hz1,hz0,hsd,hs,e0,bt,bf,hnil,hn,getN hn,Ye hn,setN hn,Yl hn,zF]
   done
  ·have hs:∀Y:Heap,S 13 [zg (2+q),zV] (H11++Y)=some (.ret (P5 true),H11++Y):=fun Y=>by
    have g1:(H11++Y)[2+q]? =some (.arr (some 4) [] false):=by grind
    have h:=X7 (F:=find tab) (prim:=prim) (f:=13) (fn:=g13) (args:=[zg (2+q),zV]) (ps:=[(some 4,zt.pv),(some 4,zt.pv)]) (hp:=H11++Y) (hp1:=(H11++Y).set (2+q) (.arr (some 4) [] true)) rfl rfl rfl (by simp only[zZ,oJ g1];rfl) (oF zt zt [] (by decide) (by decide));rw[oI] at h;exact h
   have e8:=Zg e8;simp only[Tm.av,Dbs.av,hl2] at hc hs hw2;simp -dsimp -implicitDefEqProofs only[c5b18,go_sem,seval,Tm.av,Dbs.av,haw,hc,hw1,hw2,hz1,hz0,hsd,hs,e0,e8,bt,bf,hnil,hn,getN hn,Ye hn,setN hn,Yl hn,zF]
   done
 ·obtain⟨H11,hH11⟩:∃H,H=H2++X:=⟨_,rfl⟩;obtain⟨n,hn⟩:∃n,H11.length=n:=⟨_,rfl⟩;have v0:∀Y:Heap,(H11++Y)[0]? =some (.box (some 2) (.pv (some 2) d.pv)):=fun Y=>by grind
  have v1:∀Y:Heap,(H11++Y)[1]? =some (.box (some 4) (.pv (some 4) g.pv)):=fun Y=>by grind
  have v5:∀Y:Heap,(H11++Y)[5]? =some (.arr (some 4) (Tm.pvs ts) false):=fun Y=>by grind
  rw[hl2,<-hH11,hH2] at hc;have hw2:∀(x:AObj) (b:AV) (c:AObj),zH (some 4) 0 (H11++[x,.box (some 4) b,c]) [.ptr (n+1) 0,zg 15]=some (.undef,H11++[x,.box (some 4) (zg 15),c]):=fun x b c=>by
   exact(bn (v:=zg 15) (old:=b) rfl rfl (fun _=>rfl) (by rw[getN hn];rfl)).trans (by rw[setN hn];rfl)
  have key:=fun Y=>Pj g ts hm.a hm.l (H11++Y) (v1 Y) (v5 Y);have hv2:=fun hp=>Y2 m (Xi hm.v).1 (Xi hm.v).2.1 (Xi hm.v).2.2 hp;rw[hm.v] at hv2;have hnx:=Zg (show ¬m.next<d.next by have:=hm.n;omega);have hsl:sLen [.sl (some 4) 5 ts.length 0 ts.length]=some (P4 ts.length):=rfl;simp only[Tm.av,Dbs.av,Nat.reduceAdd] at hc hv2;simp -dsimp -implicitDefEqProofs only[stR,bm,go_sem,seval,hsl] at key;rcases hm.q with rfl|⟨q1,q2⟩
  ·have hsd:=fun hp=>bh m (Pi hm.v) hp;simp only[Dbs.av] at hsd;rcases Classical.propComplete (g.name=[99,108,97,117,115,101]) with k1|k1 <;> rcases Classical.propComplete (g.name=[36,99,108,97,117,115,101]) with k2|k2 <;> rcases Classical.propComplete (g.name=[99,117,114,114,101,110,116,95,112,114,101,100,105,99,97,116,101]) with k3|k3 <;> rcases Classical.propComplete ((ts.length:Int)=0) with k4|k4
   all_goals
    simp -dsimp -implicitDefEqProofs only[go_sem,seval,Tm.av,Dbs.av,haw,hc,hw2,hv2,hnx,hsl,v0,v1,zN,YB,k1,k2,k3,k4,hsd,hnil,hn,getN hn,Ye hn,setN hn,Yl hn,zF];exact key _
  ·have k1:=Zg (q2 _ (.head _));have k2:=Zg (q2 _ (.tail _ (.head _)));have k3:=Zg (q2 _ (.tail _ (.tail _ (.head _))));have k4:=Zg (show ¬(ts.length:Int)=0 by
    simp_all)
   simp -dsimp -implicitDefEqProofs only[go_sem,seval,Tm.av,Dbs.av,haw,hc,hw2,hv2,hnx,hsl,v0,v1,zN,YB,k1,k2,k3,k4,hnil,hn,getN hn,Ye hn,setN hn,Yl hn,zF]
   grind
end Go.Proofs.YtgedfopkiebjkaaGreatDoor
