/- What is proved: a call of a predicate, given what its run does. -/
import Derived.Test.YtgedfopkiebjkaaGreatDoorRng
import Derived.Test.YtgedfopkiebjkaaGreatDoorBal
import Derived.Test.YtgedfopkiebjkaaGreatDoorCl
import Derived.Test.YtgedfopkiebjkaaGreatDoorAm5
set_option linter.unusedSimpArgs false
set_option linter.unusedVariables false
namespace Go.Proofs.YtgedfopkiebjkaaGreatDoor
open Go.Am
def Yk:AV:=.agg A1
theorem Q4(d:Dbs):AObj.beq (.box (some 2) (.pv (some 2) d.pv)) (.box (some 2) (.pv (some 2) d.pv))=true:=by simp[AObj.beq,AV.beq,Dbs.pv,PV.beq,PV.beqc,Vv]
theorem VV(s:Sh)(q:Nat):AObj.beq (.box s (zg q)) (.box s (zg q))=true:=by simp[AObj.beq,AV.beq,AV.beqc,zg,PV.beq]
theorem Jk:AObj.beq (.box (some 2) Yk) (.box (some 2) Yk)=true:=by decide
def y9(d:Dbs)(g:Tm)(n:Nat):Heap:=[.box (some 2) (.pv (some 2) d.pv),.box (some 4) (.pv (some 4) g.pv),.box (some 2) Yk,.arr (some 4) [] false,.box (some 4) (zg (n+5)),.arr (some 4) [] false,.map none (YG 8 prS prN prF),.box (some 7) (cB d g (slA (n+8) 0)),.arr (some 4) [] false]
theorem VW{hp:Heap}{g:Tm}(a b:AObj)(Y Z:Heap):Yv (hp++a::.box (some 4) (.pv (some 4) g.pv)::Y) (hp++b::.box (some 4) (.pv (some 4) g.pv)::Z) (.ptr (hp.length+1) 0)=true:=by
 grind [Yv,AObj.beq,AV.beq,xN]
structure GK(g:Tm)(f:FuncId):Prop where
 v:g.valid=true
 c:canR g=g
 k:g.kind=3
 l:afindr [1,0] [(none,PV.str g.name),(none,.int .i64 (g.args.length:Int))] (YG 8 prS prN prF)=some (some (.func (.func f)))
theorem VX{g:Tm}{f:FuncId}(h:GK g f)(hp:Heap)(a b c d e f':AObj)(s:Sh)(Z:Heap):XS [1,0] none (.pv none .nilfunc) true (hp++a::b::c::d::e::f'::.map none (YG 8 prS prN prF)::Z) [.map (hp.length+6),.pv s (.agg [(none,.str g.name),(none,.int .i64 (g.args.length:Int))])]=some (.tuple [.pv none (.func (.func f)),P5 true]):=by
 have e1:(hp++a::b::c::d::e::f'::.map none (YG 8 prS prN prF)::Z)[hp.length+6]? =some (.map none (YG 8 prS prN prF)):=by grind
 have e2:Yi [1,0] [(none,PV.str g.name),(none,.int .i64 (g.args.length:Int))] [(none,.str g.name),(none,.int .i64 (g.args.length:Int))]=some true:=by simp[Yi]
 simp[XS,e1,e2,h.l]
section
variable(d:Dbs) (hv:okD d=true) (g:Tm) (f:FuncId) (hg:GK g f) (hp:Heap) (hb:Bq hp)
include hv hg hb
theorem O1(b:Tm)
  (hr:S 40 [.ptr (hp.length+7) 0,.pv none (.func (.func f))] (hp++y9 d g hp.length)=some (.ret (.tuple [b.av,P4 8]),hp++y9 d g hp.length)):
  ∃X,S 11 [d.av,g.av] hp=some (.ret (.tuple [Yk,.sl (some 4) (hp.length+9) 0 0 0,b.av,P4 8]),hp++X)/\X[9]? =some (.arr (some 4) [] false)/\Bq X:=by
 have hbd:=Qz hv;have hz:=valid_size hg.v;have h1:=fun hp=>Qy d hbd.1 hbd.2.1 hbd.2.2 hp;have h2:=fun hp=>yu g hp (by omega);have h3:=fun hp=>VM g hp (by omega);have h4:=fun hp=>QX g g hp (by omega) (by omega);have hsm:same g g=true:=by simp[same,hg.v,Tm.zAv]
 rw[hsm] at h4;rw[hg.c] at h3;rw[hv] at h1;rw[hg.v] at h2;have hz0:=P1;have hz1:=P3;have hbk:∀(s:List UInt8) (k:Int),zR A8 [0,1] [P6 s,P4 k]=some (.pv (some 2) (.agg [(none,.str s),(none,.int .i64 k)])):=fun _ _=>rfl;have hbr:zR A7 [0,1] [.pv (some 2) d.pv,.pv (some 4) g.pv]=some (.agg [(some 2,.pv (some 2) d.pv),(some 4,.pv (some 4) g.pv),(none,.tsl (some 4) [])]):=rfl;have hnil:∀H:Heap,zU A3 H=(A3,H):=fun _=>rfl;have hn0:=P2;have hstn:∀(H:Heap) (v:AV),yj (some 2) hp.length H [.ptr (hp.length+2) 0,v,.ptr (hp.length+4) 0]=zK (some 2) hp.length H [.ptr (hp.length+2) 0,v]:=fun H v=>by
  grind [ZG,yj,zK,XT]
 have hk3:=Zg hg.k;have hlk:=fun a b c d e f s Z=>VX hg hp a b c d e f s Z;have hzb:=Jk;have hzg:=fun q=>VV (some 4) q;simp only[Tm.av,Dbs.av,y9,cB,slA,Yk,zg] at h1 h2 h3 h4 hr hzb hzg;refine⟨[.box (some 2) (.pv (some 2) d.pv),.box (some 4) (.pv (some 4) g.pv),.box (some 2) Yk,.arr (some 4) [] false,.box (some 4) b.av,.arr (some 4) [] false,.map none (YG 8 prS prN prF),.box (some 7) (cB d g (slA (hp.length+8) 0)),.arr (some 4) [] false,.arr (some 4) [] false],?_,rfl,?_⟩
 ·refine Yj rfl rfl rfl rfl ?_;simp -dsimp -implicitDefEqProofs only[go_sem,seval,YD,Tm.av,Dbs.av,h1,h2,h3,h4,hr,Ye,zQ,zN,Tm.pvs_len,hk3,hlk,Vo,hz0,hz1,hbk,hbr,hnil,hn0,hstn,Vq,Vr,kJ rfl,Vs hb,ZK,Vt,Vu,ZX,ZS,ZU,VW,Xg,Q4,hzb,hzg,QC,xM,zT,zH (Zf _ _)];have hf:∀k,¬hp.length+k<hp.length:=fun k=>by omega
  simp[ye,Fr.look,aload,xd,YQ,Qr,Yk,zg,cB,Tm.av,Dbs.av,hf,AV.shp,total,Sh.size,tupO,Qo,valK,AV.refsIn,AV.refsIn.gol,AV.refsIn.go]
 ·refine Bq.cons (Q4 d) (Bq.cons (Xg g) (Bq.cons Jk (Bq.cons rfl (Bq.cons (Xg b) (Bq.cons rfl (Bq.cons ?_ (Bq.cons (Vw d g _ _) (Bq.cons rfl (Bq.cons rfl Bq.nil)))))))))
  decide
theorem O2(e:Int)(he:¬e=0)(o7 o8:AObj)
  (hr:S 40 [.ptr (hp.length+7) 0,.pv none (.func (.func f))] (hp++y9 d g hp.length)=some (.ret (.tuple [zg (hp.length+10),P4 e]),hp++[.box (some 2) (.pv (some 2) d.pv),.box (some 4) (.pv (some 4) g.pv),.box (some 2) Yk,.arr (some 4) [] false,.box (some 4) (zg (hp.length+5)),.arr (some 4) [] false,.map none (YG 8 prS prN prF),o7,o8,.box (some 4) (zg (hp.length+10)),.arr (some 4) [] false,.box none (P4 e)])):
  ∃X,S 11 [d.av,g.av] hp=some (.ret (.tuple [Yk,.sl (some 4) (hp.length+12) 0 0 0,zg (hp.length+10),P4 e]),hp++X):=by
 have hbd:=Qz hv;have hz:=valid_size hg.v;have h1:=fun hp=>Qy d hbd.1 hbd.2.1 hbd.2.2 hp;have h2:=fun hp=>yu g hp (by omega);have h3:=fun hp=>VM g hp (by omega);have h4:=fun hp=>QX g g hp (by omega) (by omega);have hsm:same g g=true:=by simp[same,hg.v,Tm.zAv]
 rw[hsm] at h4;rw[hg.c] at h3;rw[hv] at h1;rw[hg.v] at h2;have hz0:=P1;have hz1:=P3;have hbk:∀(s:List UInt8) (k:Int),zR A8 [0,1] [P6 s,P4 k]=some (.pv (some 2) (.agg [(none,.str s),(none,.int .i64 k)])):=fun _ _=>rfl;have hbr:zR A7 [0,1] [.pv (some 2) d.pv,.pv (some 4) g.pv]=some (.agg [(some 2,.pv (some 2) d.pv),(some 4,.pv (some 4) g.pv),(none,.tsl (some 4) [])]):=rfl;have hnil:∀H:Heap,zU A3 H=(A3,H):=fun _=>rfl;have hn0:=P2;have hstn:∀(H:Heap) (v:AV),yj (some 2) hp.length H [.ptr (hp.length+2) 0,v,.ptr (hp.length+4) 0]=zK (some 2) hp.length H [.ptr (hp.length+2) 0,v]:=fun H v=>by
  grind [ZG,yj,zK,XT]
 have hk3:=Zg hg.k;have hlk:=fun a b c d e f s Z=>VX hg hp a b c d e f s Z;have hzb:=Jk;have hzg:=fun q=>VV (some 4) q;simp only[Tm.av,Dbs.av,y9,cB,slA,Yk,zg] at h1 h2 h3 h4 hr hzb hzg;refine⟨[.box (some 2) (.pv (some 2) d.pv),.box (some 4) (.pv (some 4) g.pv),.box (some 2) Yk,.arr (some 4) [] false,.box (some 4) (zg (hp.length+10)),.arr (some 4) [] false,.map none (YG 8 prS prN prF),o7,o8,.box (some 4) (zg (hp.length+10)),.arr (some 4) [] false,.box none (P4 e),.arr (some 4) [] false],?_⟩;refine Yj rfl rfl rfl rfl ?_;simp -dsimp -implicitDefEqProofs only[go_sem,seval,YD,Tm.av,Dbs.av,h1,h2,h3,h4,hr,he,Ye,zQ,zN,Tm.pvs_len,hk3,hlk,Vo,hz0,hz1,hbk,hbr,hnil,hn0,hstn,Vq,Vr,kJ rfl,Vs hb,ZK,Vt,Vu,ZX,ZS,ZU,VW,Xg,Q4,hzb,hzg,QC,xM,zT,zH (Zf _ _)];have hf:∀k,¬hp.length+k<hp.length:=fun k=>by omega
 simp[ye,Fr.look,aload,xd,YQ,Qr,Yk,zg,cB,Tm.av,Dbs.av,hf,AV.shp,total,Sh.size,tupO,Qo,valK,AV.refsIn,AV.refsIn.gol,AV.refsIn.go]
theorem VY(d2:Dbs)(sv:AV)(ts:List Tm)(o8:List PV)(hts:∀t∈ts,t.valid=true)(htl:ts.length<1000)(hcd:∀hp,S 42 [d2.av] hp=some (.ret d2.av,hp))
  (hsl:sLen [sv]=some (P4 ts.length))(hrf:sv.refsIn.all (fun q=>decide (q<hp.length+13))=true)
  (hT:∀(i:Nat) (u:Tm),ts[i]? =some u->∃p,(∀kk,Yc (some 4) [sv,.pv none (.int kk i)]=some p)/\∀(x0 x1 x2 x3 x4 x5 x6:AObj) (X:Heap),aload (some 4) (hp++x0::x1::x2::x3::x4::x5::x6::.box (some 7) (cB d2 g sv)::(.arr (some 4) o8 false)::X) p=some (.pv (some 4) u.pv))
  (hr:S 40 [.ptr (hp.length+7) 0,.pv none (.func (.func f))] (hp++y9 d g hp.length)=some (.ret (.tuple [zg (hp.length+12),P4 0]),hp++[.box (some 2) (.pv (some 2) d.pv),.box (some 4) (.pv (some 4) g.pv),.box (some 2) Yk,.arr (some 4) [] false,.box (some 4) (zg (hp.length+5)),.arr (some 4) [] false,.map none (YG 8 prS prN prF),(.box (some 7) (cB d2 g sv)),(.arr (some 4) o8 false),.box (some 4) (zg (hp.length+12)),.arr (some 4) [] false,.box none (P4 0),.arr (some 4) [] false])):
  ∃X,S 11 [d.av,g.av] hp=some (.ret (.tuple [d2.av,.sl (some 4) (hp.length+3) ts.length 0 ts.length,zg (hp.length+13),P4 0]),hp++X)/\X[3]? =some (.arr (some 4) (Tm.pvs ts) false)/\X[13]? =some (.arr (some 4) [] false):=by
 have hbd:=Qz hv;have hz:=valid_size hg.v;have h1:=fun hp=>Qy d hbd.1 hbd.2.1 hbd.2.2 hp;have h2:=fun hp=>yu g hp (by omega);have h3:=fun hp=>VM g hp (by omega);have h4:=fun hp=>QX g g hp (by omega) (by omega);have hsm:same g g=true:=by simp[same,hg.v,Tm.zAv]
 rw[hsm] at h4;rw[hg.c] at h3;rw[hv] at h1;rw[hg.v] at h2;have hz0:=P1;have hz1:=P3;have hbk:∀(s:List UInt8) (k:Int),zR A8 [0,1] [P6 s,P4 k]=some (.pv (some 2) (.agg [(none,.str s),(none,.int .i64 k)])):=fun _ _=>rfl;have hbr:zR A7 [0,1] [.pv (some 2) d.pv,.pv (some 4) g.pv]=some (.agg [(some 2,.pv (some 2) d.pv),(some 4,.pv (some 4) g.pv),(none,.tsl (some 4) [])]):=rfl;have hnil:∀H:Heap,zU A3 H=(A3,H):=fun _=>rfl;have hn0:=P2;have hstn:∀(H:Heap) (v:AV),yj (some 2) hp.length H [.ptr (hp.length+2) 0,v,.ptr (hp.length+4) 0]=zK (some 2) hp.length H [.ptr (hp.length+2) 0,v]:=fun H v=>by
  grind [ZG,yj,zK,XT]
 have hk3:=Zg hg.k;have hlk:=fun a b c d e f s Z=>VX hg hp a b c d e f s Z;have hzb:=Jk;have hzg:=fun q=>VV (some 4) q;simp only[Tm.av,Dbs.av,y9,cB,slA,Yk,zg] at h1 h2 h3 h4 hr hzb hzg;refine⟨[.box (some 2) (.pv (some 2) d.pv),.box (some 4) (.pv (some 4) g.pv),.box (some 2) d2.av,.arr (some 4) (Tm.pvs ts) false,.box (some 4) (zg (hp.length+13)),.arr (some 4) [] false,.map none (YG 8 prS prN prF),.box (some 7) (cB d2 g sv),(.arr (some 4) o8 false),.box (some 4) (zg (hp.length+12)),.arr (some 4) [] false,.box none (P4 0),.arr (some 4) [] false,.arr (some 4) [] false],?_,rfl,rfl⟩;have hp6:∀s,AV.part deep (cB d2 g s) 6 none=some s:=fun _=>rfl;simp only[Dbs.av] at hcd;refine Yj rfl rfl rfl rfl ?_;simp -dsimp -implicitDefEqProofs only[go_sem,seval,YD,Tm.av,Dbs.av,h1,h2,h3,h4,hr,hp6,hsl,Ye,zQ,zN,Tm.pvs_len,hk3,hlk,Vo,hz0,hz1,hbk,hbr,hnil,hn0,hstn,Vq,Vr,kJ rfl,Vs hb,ZK,Vt,Vu,ZX,ZS,ZU,VW,Xg,Q4,hzb,hzg,QC,xM,zT,zH (Zf _ _)];refine Yf (α:=Unit) ts.length (fun _ _=>True) (fun i _=>⟨[(4,.ptr (hp.length+2) 0),(5,.sl (some 4) (hp.length+3) i 0 i),(6,.ptr (hp.length+4) 0),(10,.ptr (hp.length+7) 0),(68,sv),(69,P4 ts.length),(70,P4 i)],hp++[.box (some 2) (.pv (some 2) d.pv),.box (some 4) (.pv (some 4) g.pv),.box (some 2) Yk,.arr (some 4) (Tm.pvs (ts.take i)) false,.box (some 4) (zg (hp.length+12)),.arr (some 4) [] false,.map none (YG 8 prS prN prF),.box (some 7) (cB d2 g sv),(.arr (some 4) o8 false),.box (some 4) (zg (hp.length+12)),.arr (some 4) [] false,.box none (P4 0),.arr (some 4) [] false]⟩) () ⟨trivial,rfl⟩ ?_ ?_
 ·rintro i - hi -;have hci:(i:Int)<(ts.length:Int):=by omega
  obtain⟨u,hu⟩:∃u,ts[i]? =some u:=⟨_,Zd hi⟩;have huv:=hts u (Zi hu);obtain⟨p,p1,p2⟩:=hT i u hu;have h5:=fun hp=>yu u hp (fit9 huv);have h6:=fun hp=>Xu u hp huv (fit9 huv);rw[huv] at h5;have w1:IntKind.i64.wrap ((i:Int)+1)=((i+1:Nat):Int):=by grind [zO]
  have htk:Tm.pvs (ts.take (i+1))=Tm.pvs (ts.take i)++[u.pv]:=by grind [List.take_add_one,Tm.zAw]
  have htl2:(Tm.pvs (ts.take i)).length=i:=by grind [Tm.pvs_len]
  have happ:∀(a b c:AObj) (Z:Heap),z6 (some 4) (hp++a::b::c::.arr (some 4) (Tm.pvs (ts.take i)) false::Z) [.sl (some 4) (hp.length+3) i 0 i,.tsl (some 4) [u.pv]]=some (.sl (some 4) (hp.length+3) (i+1) 0 (i+1),hp++a::b::c::.arr (some 4) (Tm.pvs (ts.take (i+1))) false::Z):=fun a b c Z=>by
   have g1:(hp++a::b::c::.arr (some 4) (Tm.pvs (ts.take i)) false::Z)[hp.length+3]? =some (.arr (some 4) (Tm.pvs (ts.take i)) false):=by grind
   have hl:i+1<=lim:=by grind [lim]
   simp_all[z6,aappend,elems]
  simp only[Tm.av] at h5 h6;simp -dsimp -implicitDefEqProofs only[go_sem,seval,hci,p1,p2,h5,h6,happ,w1,zT,zH (Zf _ _)];refine⟨(),?_⟩;have hrf':∀x∈sv.refsIn,x<hp.length+13:=by grind
  rw[yF 13 rfl rfl (by simp_all[AObj.refs,AV.refsIn,AV.refsIn.go,cB,zg,Yk]) (by grind [AV.refsIn])];rfl
 ·rintro - -;have hci:¬(ts.length:Int)<(ts.length:Int):=by omega
  simp -dsimp -implicitDefEqProofs only[go_sem,seval,YD,hci,hcd,hz0,q9,ZJ,zT,zH (Zf _ _)];have hf:∀k,¬hp.length+k<hp.length:=fun k=>by omega
  simp[ye,Fr.look,aload,xd,YQ,Qr,Yk,zg,cB,Tm.av,Dbs.av,hf,AV.shp,total,Sh.size,tupO,Qo,valK,AV.refsIn,AV.refsIn.gol,AV.refsIn.go]
end
def pK(p:Prc)(q m:Nat):AV:=.agg [(none,P6 p.name),(none,P4 p.ar),(none,P5 p.dyn),(none,.sl (some 9) q m 0 m)]
theorem O3{Γ:Oracle}{b:Nat}{vs:List AV}{hp:Heap}{K:AV->Heap->Prop}{Kp:PV->Heap->Prop}(sh:Sh):opK (aOp Γ b (.bslov sh) vs hp) K Kp=YM (XW sh hp vs) K:=by
 show opK (match XW sh hp vs with|some (v,hp')=>some (OpRes.val v hp')|none=>none) K Kp=_;cases XW sh hp vs with
 |none=>rfl
 |some r=>cases r;rfl
theorem O4{Γ:Oracle}{b:Nat}{vs:List AV}{hp:Heap}{K:AV->Heap->Prop}{Kp:PV->Heap->Prop}(sh:Sh):opK (aOp Γ b (.appendv sh) vs hp) K Kp=YM (Xm sh b hp vs) K:=by
 show opK (match Xm sh b hp vs with|some (v,hp')=>some (OpRes.val v hp')|none=>none) K Kp=_;cases Xm sh b hp vs with
 |none=>rfl
 |some r=>cases r;rfl
def frC(d:Dbs)(i:Nat):Fr:=[(2,.ptr 1 0),(3,.ptr 2 0),(13,.pv none (.sl (some 4) (Prc.pvs d.procs))),(14,P4 d.procs.length),(15,P4 i)]
def o4(p:Prc)(n:Nat):Heap:=[.box (some 4) (pK p (n+2) p.cls.length),.arr (some 9) [] false,.arr (some 9) (Sto.pvs p.cls) false,.arv (some 4) [pK p (n+2) p.cls.length]]
theorem O5{K Y X:Heap}{n m:Nat}{fr:Fr}(hK:K.length=n)(hY:Y.length=m)(h1:(K++Y).all (fun o=>o.refs.all (fun q=>decide (q<n+m)))=true)(hf:fr.all (fun x=>x.2.refsIn.all (fun q=>decide (q<n+m)))=true):collect (n+m) 0 fr (K++(Y++X))=K++Y:=by
 have ht:(K++(Y++X)).take (n+m)=K++Y:=by grind
 have:=yF (n:=n+m) (b:=0) (n+m) (fr:=fr) (base:=[]) (xs:=K++(Y++X)) rfl (by omega) (by grind) hf
 grind
set_option maxRecDepth 20000 in
theorem BP(d:Dbs)(hl:d.procs.length<1000000)(i:Nat)(hi:i<d.procs.length)(p:Prc)(hpp:d.procs[i]? =some p)(hpl:p.cls.length<1000000)(hc:okCl p)(K:Heap)(n:Nat)(hKl:K.length=n)(h3n:3<=n)(hK:K.all (fun o=>o.refs.all (fun q=>decide (q<n)))=true)(sv sv':AV)(hsp:sv'.plain=true)(hss:sv'.shp=none)(hso:∀H,sv'.own H=(sv',H))(K1 W1:Heap)(hK1:K1.length=n)
  (h2:K[2]? =some (.box (some 2) (.agg [(none,P4 d.next),(none,sv)])))(h21:K1[2]? =some (.box (some 2) (.agg [(none,P4 d.next),(none,sv)])))
  (hap:Xm (some 4) 0 (K++o4 p n) [sv,.slv (some 4) (n+3) 1 0 1]=some (sv',K1++(o4 p n++W1)))(hup:AV.upd deep (.agg [(none,P4 d.next),(none,sv)]) 1 none sv'=some (.agg [(none,P4 d.next),(none,sv')]))
  (R:St->Prop)(Q:AExit->St->Prop)(hR:R ⟨[(2,.ptr 1 0),(3,.ptr 2 0),(13,.pv none (.sl (some 4) (Prc.pvs d.procs))),(14,P4 d.procs.length),(15,P4 (i+1:Nat))],K1.set 2 (.box (some 2) (.agg [(none,P4 d.next),(none,sv')]))++(o4 p n++W1)⟩):
  W (sem (find tab) prim) (sloop (find tab) prim) 0 c42b20 ⟨frC d i,K⟩ (seqK R Q):=by
 have hcc:(i:Int)<(d.procs.length:Int):=by omega
 have w1:IntKind.i64.wrap ((i:Int)+1)=((i+1:Nat):Int):=by grind [zO]
 have hst7:∀a1:AObj,zK none 0 (K++[.box (some 4) (.pv (some 4) p.pv),a1]) [.ptr n 3,.tsl (some 9) []]=some (.undef,K++[.box (some 4) (pK p (n+2) 0),a1,.arr (some 9) [] false]):=fun a1=>by
  have e:AV.upd deep (.pv (some 4) p.pv) 3 none (.sl (some 9) (n+2) 0 0 0)=some (pK p (n+2) 0):=rfl;simp_all[zK,astore,AV.plain,AV.shp,AV.own,xI]
 have hpt:∀q m:Nat,AV.part deep (pK p q m) 3 none=some (.sl (some 9) q m 0 m):=fun _ _=>rfl;have hpt1:AV.part deep (.agg [(none,P4 d.next),(none,sv)]) 1 none=some sv:=rfl;have hst17:∀Z:Heap,zK none 0 (K1++Z) [.ptr 2 1,sv']=some (.undef,K1.set 2 (.box (some 2) (.agg [(none,P4 d.next),(none,sv')]))++Z):=fun Z=>by
  grind [zK,astore]
 have hK3:∀(m:Nat) (es:List PV),(K++([.box (some 4) (pK p (n+2) m),.arr (some 9) [] false,.arr (some 9) es false]:Heap)).all (fun o=>o.refs.all (fun q=>decide (q<n+3)))=true:=fun m es=>by
  rw[List.all_append,Zk];refine⟨Zp.2 fun o ho=>Zp.2 fun q hq=> ?_,by simp[AObj.refs,pK,AV.refsIn,AV.refsIn.go]⟩
  grind
 unfold frC;simp -dsimp -implicitDefEqProofs only[go_sem,seval,hcc,w1,Yr,Prc.pvs_len,Y7,Sto.pvs_len,zM (Prc.pvs_get hpp),hst7,hKl,zT,getN hKl,zX hKl,setN hKl,Yg hKl];refine Yf (α:=Unit) p.cls.length (fun _ _=>True) (fun k _=>⟨[(2,.ptr 1 0),(3,.ptr 2 0),(5,.ptr n 0),(13,.pv none (.sl (some 4) (Prc.pvs d.procs))),(14,P4 d.procs.length),(15,P4 i),(22,.pv none (.sl (some 9) (Sto.pvs p.cls))),(23,P4 p.cls.length),(24,P4 k)],K++[.box (some 4) (pK p (n+2) k),.arr (some 9) [] false,.arr (some 9) (Sto.pvs (p.cls.take k)) false]⟩) () ⟨trivial,rfl⟩ ?_ ?_
 ·rintro k - hk -;have hck:(k:Int)<(p.cls.length:Int):=by omega
  have w2:IntKind.i64.wrap ((k:Int)+1)=((k+1:Nat):Int):=by grind [zO]
  obtain⟨x,hx⟩:∃x,p.cls[k]? =some x:=⟨_,Zd hk⟩;obtain⟨vh,vb⟩:=hc x (Zi hx);have h5:=Xu x.cl.head [] vh (fit9 vh);have h6:=Xu x.cl.body [] vb (fit9 vb);have q0:PV.part deep x.pv 0 none=some (.int .i64 x.id):=rfl;have q1:PV.part deep x.pv 1 (some 4)=some x.cl.head.pv:=rfl;have q5:PV.part deep x.pv 5 (some 4)=some x.cl.body.pv:=rfl;have hb40:∀a b:PV,zR A6 [0,1] [.pv (some 4) a,.pv (some 4) b]=some (.pv (some 8) (.agg [(some 4,a),(some 4,b)])):=fun _ _=>rfl;have hb41:zR [(none,P4 0),(some 8,.agg A6)] [0,1] [P4 x.id,.pv (some 8) (.agg [(some 4,x.cl.head.pv),(some 4,x.cl.body.pv)])]=some (.pv (some 9) x.pv):=rfl;have hlim:k+1<=lim:=by grind [lim]
  have htl:(Sto.pvs (p.cls.take k)).length=k:=by grind [Sto.pvs_len]
  have htk:Sto.pvs (p.cls.take k)++[x.pv]=Sto.pvs (p.cls.take (k+1)):=by grind [Z7,Sto.pvs]
  have happ:∀(a b:AObj) (Z:Heap),z6 (some 9) (K++a::b::.arr (some 9) (Sto.pvs (p.cls.take k)) false::Z) [.sl (some 9) (n+2) k 0 k,.tsl (some 9) [x.pv]]=some (.sl (some 9) (n+2) (k+1) 0 (k+1),K++a::b::.arr (some 9) (Sto.pvs (p.cls.take (k+1))) false::Z):=fun a b Z=>by
   simp_all[z6,aappend,elems]
  have hst12:∀Z:Heap,zK none 0 (K++.box (some 4) (pK p (n+2) k)::Z) [.ptr n 3,.sl (some 9) (n+2) (k+1) 0 (k+1)]=some (.undef,K++.box (some 4) (pK p (n+2) (k+1))::Z):=fun Z=>by
   have e:AV.upd deep (pK p (n+2) k) 3 none (.sl (some 9) (n+2) (k+1) 0 (k+1))=some (pK p (n+2) (k+1)):=rfl
   grind [zK,astore,zX,AV.plain,AV.shp,AV.own]
  generalize Sto.pvs (p.cls.take k)=es at*;simp only[Tm.av] at h5 h6;simp -dsimp -implicitDefEqProofs only[go_sem,seval,hck,w2,Sto.pvs_len,zM (Sto.pvs_get hx),hpt,q0,q1,q5,h5,h6,hb40,hb41,happ,hst12,hKl,zT,getN hKl,zX hKl,setN hKl,Yg hKl];refine⟨(),?_⟩;have hcl:=O5 (fr:=[(2,.ptr 1 0),(3,.ptr 2 0),(5,.ptr n 0),(13,.pv none (.sl (some 4) (Prc.pvs d.procs))),(14,P4 d.procs.length),(15,P4 i),(22,.pv none (.sl (some 9) (Sto.pvs p.cls))),(23,P4 p.cls.length),(24,P4 (k+1:Nat))]) (K:=K) (Y:=[.box (some 4) (pK p (n+2) (k+1)),.arr (some 9) [] false,.arr (some 9) (Sto.pvs (p.cls.take (k+1))) false]) (X:=[.box (some 9) (.pv (some 9) x.pv)]) hKl (m:=3) rfl (hK3 (k+1) _) (by simp[AV.refsIn])
  grind
 ·rintro - -;have hck:¬(p.cls.length:Int)<(p.cls.length:Int):=by omega
  rw[ZJ];have hbs:XW (some 4) (K++[.box (some 4) (pK p (n+2) p.cls.length),.arr (some 9) [] false,.arr (some 9) (Sto.pvs p.cls) false]) [pK p (n+2) p.cls.length]=some (.slv (some 4) (n+3) 1 0 1,K++o4 p n):=by
   have e1:(pK p (n+2) p.cls.length).plain=true:=rfl;have e2:(pK p (n+2) p.cls.length).shp=some 4:=rfl;simp_all[XW,xI,o4]
  have e2:∀Z:Heap,(K++Z)[2]? =some (.box (some 2) (.agg [(none,P4 d.next),(none,sv)])):=fun Z=>by grind
  simp -dsimp -implicitDefEqProofs only[go_sem,seval,hck,w1,Sto.pvs_len,hpt1,e2,hbs,hap,hst17,O3,O4,hKl,getN hKl,zX hKl];exact hR
theorem gol_mem{q:Nat}:∀{l:List AV},q∈AV.refsIn.gol l↔∃v∈l,q∈v.refsIn
 |[]=>by simp[AV.refsIn.gol]
 |x::r=>by
  have ih:=gol_mem (q:=q) (l:=r)
  grind [AV.refsIn.gol]
def CdI(d:Dbs)(i:Nat)(H:Heap):Prop:=(i=0/\H=[.box (some 2) (.pv (some 2) d.pv),.box (some 2) Yk,.box (some 2) (.agg [(none,P4 d.next),(none,.nilv (some 4))])])\/
 (0<i/\8<=H.length/\H.all (fun o=>o.refs.all (fun q=>decide (q<H.length)))=true/\H[0]? =some (.box (some 2) (.pv (some 2) d.pv))/\H[1]? =some (.box (some 2) Yk)/\H[2]? =some (.box (some 2) (.agg [(none,P4 d.next),(none,.slv (some 4) 7 i 0 i)]))/\
  ∃els,H[7]? =some (.arv (some 4) els)/\els.length=i/\∀(j:Nat) (p:Prc) (v:AV),(d.procs.take i)[j]? =some p->els[j]? =some v->∃q,v=pA p q/\H[q]? =some (.arr (some 9) (Sto.pvs p.cls) false))
set_option maxRecDepth 20000 in
theorem O6(d:Dbs)(hl:d.procs.length<1000000)(hcl:∀p∈d.procs,p.cls.length<1000000/\okCl p)(hp:Heap):S 42 [d.av] hp=some (.ret d.av,hp):=by
 refine zL rfl rfl rfl (zJ [(some 2,d.pv)]) rfl ?_;have hnil:∀H:Heap,zU A3 H=(A3,H):=fun _=>rfl;have hb11:∀k:Int,zR A1 [0] [P4 k]=some (.agg [(none,P4 k),(none,.nilv (some 4))]):=fun _=>rfl;simp -dsimp -implicitDefEqProofs only[go_sem,seval,Dbs.av,YA,Yr,Prc.pvs_len,hnil,hb11,zT,zH (Za _)];refine Yf (α:=Heap) d.procs.length (fun i H=>CdI d i H) (fun i H=>⟨frC d i,H⟩) [.box (some 2) (.pv (some 2) d.pv),.box (some 2) Yk,.box (some 2) (.agg [(none,P4 d.next),(none,.nilv (some 4))])] ⟨.inl ⟨rfl,rfl⟩,rfl⟩ ?_ ?_
 ·rintro i H hi hI;obtain⟨p,hpp⟩:∃p,d.procs[i]? =some p:=⟨_,Zd hi⟩;obtain⟨hpl,hc⟩:=hcl p (Zi hpp);have htk:d.procs.take (i+1)=d.procs.take i++[p]:=by grind [Z7]
  rcases hI with⟨rfl,rfl⟩|⟨h0,h8,hrf,g0,g1,g2,els,g7,hel,hels⟩
  ·have hap:Xm (some 4) 0 ([.box (some 2) (.pv (some 2) d.pv),.box (some 2) Yk,.box (some 2) (.agg [(none,P4 d.next),(none,.nilv (some 4))])]++o4 p 3) [.nilv (some 4),.slv (some 4) (3+3) 1 0 1]=some (.slv (some 4) 7 1 0 1,[.box (some 2) (.pv (some 2) d.pv),.box (some 2) Yk,.box (some 2) (.agg [(none,P4 d.next),(none,.nilv (some 4))])]++(o4 p 3++[.arv (some 4) [pK p 5 p.cls.length]])):=by
    simp_all[lim,Xm,aappendv,elemsv,o4,xI]
   refine BP d hl 0 hi p hpp hpl hc _ 3 rfl (by omega) (by simp[AObj.refs,AV.refsIn,AV.refsIn.go,Yk]) (.nilv (some 4)) (.slv (some 4) 7 1 0 1) rfl rfl (fun _=>rfl) _ _ rfl rfl rfl hap rfl _ _ ?_;have hk:∀fr:Fr,collect 3 0 fr [.box (some 2) (.pv (some 2) d.pv),.box (some 2) Yk,.box (some 2) (.agg [(none,P4 d.next),(none,.slv (some 4) 7 1 0 1)]),.box (some 4) (pK p (3+2) p.cls.length),.arr (some 9) [] false,.arr (some 9) (Sto.pvs p.cls) false,.arv (some 4) [pK p (3+2) p.cls.length],.arv (some 4) [pK p 5 p.cls.length]]=[.box (some 2) (.pv (some 2) d.pv),.box (some 2) Yk,.box (some 2) (.agg [(none,P4 d.next),(none,.slv (some 4) 7 1 0 1)]),.box (some 4) (pK p (3+2) p.cls.length),.arr (some 9) [] false,.arr (some 9) (Sto.pvs p.cls) false,.arv (some 4) [pK p (3+2) p.cls.length],.arv (some 4) [pK p 5 p.cls.length]]:=fun fr=>Ve (k:=2) (by omega) (by omega) rfl rfl;refine⟨_,.inr ⟨by omega,?_,?_,?_,?_,?_,[pK p 5 p.cls.length],?_,rfl,?_⟩,congrArg (St.mk (frC d 1)) (hk _)⟩
   ·simp
   ·simp[AObj.refs,AV.refsIn,AV.refsIn.go,AV.refsIn.gol,Yk,pK]
   ·rfl
   ·rfl
   ·rfl
   ·rfl
   ·intro j p' v hp' hv
    match j,hv with
    |0,hv=>
     rw[htk] at hp';simp at hp' hv;subst hp' hv;exact⟨5,rfl,rfl⟩
  ·have h7:7<H.length:=by omega
   obtain⟨n,hn⟩:∃n,H.length=n:=⟨_,rfl⟩;rw[hn] at hrf h7 h8;have hgol:∀q∈AV.refsIn.gol els,q<n:=fun q hq=>by
    have:=Zp.1 (Zp.1 hrf _ (Zi g7)) q hq
    grind
   have hlim:i+1<=lim:=by grind [lim]
   have e1:(H++o4 p n)[n+3]? =some (.arv (some 4) [pK p (n+2) p.cls.length]):=by rw[getN hn];rfl
   have e2:(H++o4 p n)[7]? =some (.arv (some 4) els):=by grind
   have hap:Xm (some 4) 0 (H++o4 p n) [.slv (some 4) 7 i 0 i,.slv (some 4) (n+3) 1 0 1]=some (.slv (some 4) 7 (i+1) 0 (i+1),H.set 7 (.arv (some 4) (els++[pK p (n+2) p.cls.length]))++(o4 p n++[])):=by
    have e3:(H++o4 p n).set 7 (.arv (some 4) (els++[pK p (n+2) p.cls.length]))=H.set 7 (.arv (some 4) (els++[pK p (n+2) p.cls.length]))++o4 p n:=zx _ _ (by omega)
    grind [Xm,aappendv,elemsv,xI,Q8]
   have g21:(H.set 7 (.arv (some 4) (els++[pK p (n+2) p.cls.length])))[2]? =some (.box (some 2) (.agg [(none,P4 d.next),(none,.slv (some 4) 7 i 0 i)])):=by grind
   refine BP d hl i hi p hpp hpl hc H n hn (by omega) hrf (.slv (some 4) 7 i 0 i) (.slv (some 4) 7 (i+1) 0 (i+1)) rfl rfl (fun _=>rfl) _ _ (by grind) g2 g21 hap rfl _ _ ?_;obtain⟨H',hH'⟩:∃H',H'=(H.set 7 (.arv (some 4) (els++[pK p (n+2) p.cls.length]))).set 2 (.box (some 2) (.agg [(none,P4 d.next),(none,.slv (some 4) 7 (i+1) 0 (i+1))]))++(o4 p n++[]):=⟨_,rfl⟩;rw[<-hH'];have hl':H'.length=n+4:=by
    grind [o4]
   have hg:∀k,k<n->k≠2->k≠7->H'[k]? =H[k]? :=fun k hk h2 h7=>by
    grind
   have hg2:H'[2]? =some (.box (some 2) (.agg [(none,P4 d.next),(none,.slv (some 4) 7 (i+1) 0 (i+1))])):=by
    grind
   have hg7:H'[7]? =some (.arv (some 4) (els++[pK p (n+2) p.cls.length])):=by
    grind
   have hgn:H'[n+2]? =some (.arr (some 9) (Sto.pvs p.cls) false):=by
    rw[hH',getN (by grind)];rfl
   have hpr:∀q,q∈(pK p (n+2) p.cls.length).refsIn->q=n+2:=fun q hq=>by grind [pK,AV.refsIn,AV.refsIn.go]
   have hk:∀fr:Fr,collect 3 0 fr H'=H':=fun fr=>Ve (k:=2) (by omega) (by omega) hg2 rfl;refine⟨H',.inr ⟨by omega,by omega,?_,?_,?_,hg2,_,hg7,by grind,?_⟩,?_⟩
   ·rw[Zp];intro o ho;rw[Zp];intro q hq;rw[hl'];simp only[ZH];obtain⟨k,hk2⟩:=ZM.1 ho;have hkl:=Yz hk2;by_cases c2:k=2
    ·grind [AObj.refs,AV.refsIn,AV.refsIn.go]
    ·by_cases c7:k=7
     ·subst c7;rw[hg7] at hk2;cases hk2;obtain⟨v,hv,hq2⟩:=gol_mem.1 (show q∈AV.refsIn.gol _ from hq);rcases zj.1 hv with hv|hv
      ·have:=hgol q (gol_mem.2 ⟨v,hv,hq2⟩);omega
      grind
     ·by_cases ck:k<n
      ·grind
      ·obtain⟨m,rfl⟩:∃m,k=n+m:=⟨k - n,by omega⟩;rw[hH',getN (by grind),ZF] at hk2;have hm:=Zi hk2;simp only[o4,ZB,List.not_mem_nil,or_false] at hm;rcases hm with rfl|rfl|rfl|rfl
       ·have:=hpr q hq;omega
       ·cases hq
       ·cases hq
       ·obtain⟨v,hv,hq2⟩:=gol_mem.1 (show q∈AV.refsIn.gol _ from hq)
        grind
   ·grind
   ·grind
   ·intro j p' v hp' hv;rw[htk] at hp';have htl:(d.procs.take i).length=i:=by grind
    by_cases hj:j<i
    ·grind
    ·rw[zo (by omega)] at hp' hv;rw[htl] at hp';rw[hel] at hv
     match e:j - i,hp',hv with
     |0,hp',hv=>
      simp at hp' hv;subst hp' hv;exact⟨n+2,rfl,hgn⟩
   ·exact congrArg (St.mk (frC d (i+1))) (hk _)
 ·rintro H hI;have hcc:¬(d.procs.length:Int)<(d.procs.length:Int):=by omega
  rcases hI with⟨h0,rfl⟩|⟨h0,h8,hrf,g0,g1,g2,els,g7,hel,hels⟩
  ·have hd:d.procs=[]:=ZY h0;have hfz:∀H:Heap,Am.frozen d.av (.agg [(none,P4 d.next),(none,.nilv (some 4))]) H:=fun H=>by
    obtain⟨nx,ps⟩:=d;have hd:ps=[]:=hd;subst hd;exact⟨_,rfl⟩
   unfold frC;simp -dsimp -implicitDefEqProofs only[go_sem,seval,hcc,hnil,zT,zH (Za _)]
   grind
  ·have hw:zK (some 2) 0 H [.ptr 1 0,.agg [(none,P4 d.next),(none,.slv (some 4) 7 d.procs.length 0 d.procs.length)]]=some (.undef,H.set 1 (.box (some 2) (.agg [(none,P4 d.next),(none,.slv (some 4) 7 d.procs.length 0 d.procs.length)]))):=by
    simp[zK,astore,g1,AV.plain,AV.shp,AV.own,total,Sh.size,zU,Y3]
   unfold frC;simp -dsimp -implicitDefEqProofs only[go_sem,seval,hcc,g2,hw];obtain⟨v,hv⟩:∃v:AV,v=.agg [(none,P4 d.next),(none,.slv (some 4) 7 d.procs.length 0 d.procs.length)]:=⟨_,rfl⟩;rw[<-hv];have e1:(H.set 1 (.box (some 2) v))[1]? =some (.box (some 2) v):=ZO (by omega);have htake:∀l:List Sto,(Sto.pvs l).take l.length=Sto.pvs l:=fun l=>Zn (by grind [Sto.pvs_len]);have hD:DbA d v (H.set 1 (.box (some 2) v)):=by
    refine⟨7,d.procs.length,els,d.procs,hv,by grind,hel,Zc _,rfl,by simp,fun j p w hp hw=> ?_⟩;obtain⟨q,rfl,hq⟩:=hels j p w (by grind) hw;have hq1:(H.set 1 (.box (some 2) v))[q]? =some (.arr (some 9) (Sto.pvs p.cls) false):=by
     grind
    exact .inr ⟨_,rfl,.inr ⟨q,p.cls.length,Sto.pvs p.cls,false,rfl,hq1,Sto.pvs_len _,Zc _,htake _⟩⟩
   have hsh:v.shp=some 2:=by rw[hv];rfl
   rw[e1];show Am.frozen d.av v _;obtain⟨H',hz⟩:=hD.frz;refine⟨H',?_⟩;have hnt:∀H:Heap,v.freezeRes H=match AV.freeze deep v H with|some (p,hp')=>some (.pv v.shp p,hp')|none=>none:=by rw[hv];exact fun _=>rfl
   rw[hnt,hz,hsh];rfl
theorem y9_r(d:Dbs)(g:Tm)(hp X:Heap):(hp++y9 d g hp.length++X)[hp.length+7]? =some (.box (some 7) (cB d g (slA (hp.length+8) 0))):=by rw[Zl,YQ];rfl
theorem y9_q(d:Dbs)(g:Tm)(hp X:Heap):(hp++y9 d g hp.length++X)[hp.length+8]? =some (.arr (some 4) [] false):=by rw[Zl,YQ];rfl
theorem BQ(d:Dbs)(g:Tm)(hp X:Heap)(L:List Tm):AH (hp++y9 d g hp.length++X) (hp.length+7) (hp.length+8) d g L=hp++[.box (some 2) (.pv (some 2) d.pv),.box (some 4) (.pv (some 4) g.pv),.box (some 2) Yk,.arr (some 4) [] false,.box (some 4) (zg (hp.length+5)),.arr (some 4) [] false,.map none (YG 8 prS prN prF),.box (some 7) (cB d g (slA (hp.length+8) L.length)),.arr (some 4) (Tm.pvs L) false]++X:=by
 simp_all[AH,y9]
theorem VZ{d:Dbs}(hv:okD d=true)(hp:Heap):S 42 [d.av] hp=some (.ret d.av,hp):=by
 have hl5:d.procs.length<=500/\totD d.procs<=500:=by
  grind [okD]
 exact O6 d (by omega) (fun q hq=>⟨by have:=Qx hq;omega,jw hv q hq⟩) hp
theorem O7(d:Dbs)(hv:okD d=true)(g h x y:Tm)(hg:GK g 82)(hga:g.args=[h,x,y])(hh:h.kind≠0/\h.kind≠1)(hx:x.kind=0)(hy:y.kind=0)
  (p:Prc)(hf:yb d h.name h.args.length=some p)(hs:yL d h.name h.args.length=false)
  (hcl:∀s∈p.cls,s.cl.head.valid=true/\s.cl.body.valid=true/\movable (Yo g) s.cl.head=true/\movable (Yo g) s.cl.body=true)
  (hfr:0<=Yo g/\Yo g<=1099511627776)
  (hun:∀s∈p.cls,(ansC g (Yo g) s).valid=true->(uni 1048576 [] [(g,ansC g (Yo g) s)]).2≠4)(hp:Heap)(hb:Bq hp):
  ((∀s∈p.cls,(ansC g (Yo g) s).valid=true)/\∃X,S 11 [d.av,g.av] hp=some (.ret (.tuple [d.av,.sl (some 4) (hp.length+3) p.cls.length 0 p.cls.length,zg (hp.length+13),P4 0]),hp++X)/\X[3]? =some (.arr (some 4) (Tm.pvs (p.cls.map (ansC g (Yo g)))) false)/\X[13]? =some (.arr (some 4) [] false))\/
  ((∃s∈p.cls,(ansC g (Yo g) s).valid=false)/\∃X,S 11 [d.av,g.av] hp=some (.ret (.tuple [Yk,.sl (some 4) (hp.length+12) 0 0 0,zg (hp.length+10),P4 2]),hp++X)):=by
 obtain⟨v,hp',hS,hQ⟩:=OM d hv g h x y hg.v hga hh hx hy p hf hs hcl hfr hun (hp++y9 d g hp.length++x3 (hp++y9 d g hp.length).length) (hp.length+7) (hp.length+8) (y9_r ..) (y9_q ..);have h9:(hp++y9 d g hp.length).length=hp.length+9:=by rw[Z2];rfl
 rcases hQ with⟨rfl,hall,rfl⟩|⟨rfl,hbad,L,rfl⟩
 ·refine .inl ⟨hall,?_⟩;obtain⟨ts,hts⟩:∃ts,ts=p.cls.map (ansC g (Yo g)):=⟨_,rfl⟩;have htl:ts.length=p.cls.length:=by grind
  have hc5:=VN hv hf;rw[BQ,<-hts] at hS;have hr:=VU _ (hp++y9 d g hp.length) _ (hp.length+7) (by simp_all) hS;rw[h9,Zl] at hr;rw[<-hts,<-htl];refine VY d hv g _ hg hp hb d (slA (hp.length+8) ts.length) ts (Tm.pvs ts) (fun t ht=> ?_) (by omega) (VZ hv) rfl (by simp[AV.refsIn]) (fun i u hu=> ?_) hr
  ·grind
  ·have hlt:=(Ze.1 hu).1;refine⟨_,fun kk=>xH hlt,fun x0 x1 x2 x3 x4 x5 x6 X=> ?_⟩;have e1:(hp++x0::x1::x2::x3::x4::x5::x6::.box (some 7) (cB d g (slA (hp.length+8) ts.length))::.arr (some 4) (Tm.pvs ts) false::X)[hp.length+8]? =some (.arr (some 4) (Tm.pvs ts) false):=by simp_all
   grind [aload,Tm.pvs_get,Tm.pvs_len]
 ·refine .inr ⟨hbad,?_⟩;rw[BQ] at hS;have hr:=O0 _ (hp++y9 d g hp.length) _ (hp.length+7) (by simp_all) 2 hS;rw[h9,Zl] at hr;exact O2 d hv g _ hg hp hb 2 (by decide) _ _ hr
theorem BR(d:Dbs)(hv:okD d=true)(g:Tm)(id:Int)(hg:GK g 83)(hga:g.args=[intT id])(hp:Heap)(hb:Bq hp):
  ((eraR d id).2=true/\∃X,S 11 [d.av,g.av] hp=some (.ret (.tuple [(eraR d id).1.av,.sl (some 4) (hp.length+3) 1 0 1,zg (hp.length+13),P4 0]),hp++X)/\X[3]? =some (.arr (some 4) [g.pv] false)/\X[13]? =some (.arr (some 4) [] false))\/
  ((eraR d id).2=false/\∃X,S 11 [d.av,g.av] hp=some (.ret (.tuple [d.av,.sl (some 4) (hp.length+3) 0 0 0,zg (hp.length+13),P4 0]),hp++X)/\X[3]? =some (.arr (some 4) [] false)/\X[13]? =some (.arr (some 4) [] false)):=by
 have hS:=OV d hv g id hga (hp++y9 d g hp.length++x3 (hp++y9 d g hp.length).length) (hp.length+7) (hp.length+8) (y9_r ..);have h9:(hp++y9 d g hp.length).length=hp.length+9:=by rw[Z2];rfl
 cases he:(eraR d id).2 with
 |true=>
  rw[Zh he] at hS;refine .inl ⟨rfl,?_⟩;have e1:(hp++y9 d g hp.length++x3 (hp++y9 d g hp.length).length).set (hp.length+7) (.box (some 7) (cB (eraR d id).1 g (.tsl (some 4) [g.pv])))=hp++[.box (some 2) (.pv (some 2) d.pv),.box (some 4) (.pv (some 4) g.pv),.box (some 2) Yk,.arr (some 4) [] false,.box (some 4) (zg (hp.length+5)),.arr (some 4) [] false,.map none (YG 8 prS prN prF),.box (some 7) (cB (eraR d id).1 g (.tsl (some 4) [g.pv])),.arr (some 4) [] false]++x3 (hp++y9 d g hp.length).length:=by
   simp_all[y9]
  rw[e1] at hS;have hr:=VU _ (hp++y9 d g hp.length) _ (hp.length+7) (by simp_all) hS;rw[h9,Zl] at hr;exact VY d hv g _ hg hp hb (eraR d id).1 (.tsl (some 4) [g.pv]) [g] [] (fun t ht=>by rw[List.mem_singleton.1 ht];exact hg.v) (by simp) (VZ (BO he).2.2.2.1) rfl rfl (fun i u hu=>by
   cases i with
   |zero=>
    cases hu;exact⟨_,fun kk=>rfl,fun x0 x1 x2 x3 x4 x5 x6 X=>rfl⟩
   |succ i=>grind) hr
 |false=>
  rw[Zb (by grind)] at hS;refine .inr ⟨rfl,?_⟩;have hr:=VU _ (hp++y9 d g hp.length) _ (hp.length+7) rfl hS;rw[h9,Zl] at hr;exact VY d hv g _ hg hp hb d (slA (hp.length+8) 0) [] [] (fun t ht=>by cases ht) (by simp) (VZ hv) rfl (by simp[AV.refsIn]) (fun i u hu=>by grind) hr
set_option maxRecDepth 20000 in
theorem O8(d:Dbs)(hv:okD d=true)(g h x y:Tm)(hgv:g.valid=true)(hga:g.args=[h,x,y])(hh:h.kind≠0/\h.kind≠1)(hx:x.kind=0)(hy:y.kind=0)(hs:yL d h.name h.args.length=true)
  (hp:Heap)(r q:Nat)(hr:hp[r]? =some (.box (some 7) (cB d g (slA q 0))))(hq:hp[q]? =some (.arr (some 4) [] false)):
  S 82 [.ptr r 0] hp=some (.panic (XQ (perT moN stN (indT h.name h.args.length))),hp):=by
 obtain⟨v,hp',h,rfl,rfl⟩:∃v hp',S 82 [.ptr r 0] hp=some (v,hp')/\v=.panic (XQ (perT moN stN (indT h.name h.args.length)))/\hp'=hp:=by
  refine QY (fun v hp'=>v=.panic (XQ (perT moN stN (indT h.name h.args.length)))/\hp'=hp) rfl rfl rfl rfl ?_;have hlr:=Yz hr;have hlq:=Yz hq;have hr':∀X,(hp++X)[r]? =some (.box (some 7) (cB d g (slA q 0))):=fun X=>by rw[y8 hlr,hr]
  have hha:h∈g.args:=by rw[hga];simp
  have hhv:h.valid=true:=Xv hgv hha;have h1:=fun hp=>gP h hhv hh.1 hh.2 hp;obtain⟨hhn,hh8⟩:=BI hhv;have e3:Tm.pvs g.args=[h.pv,x.pv,y.pv]:=by rw[hga];rfl
  have h3:=fun hp=>gS h.name h.args.length hhn (by omega) (by omega) hp;have hbd:=Qz hv;have hgz:=fit9 hgv;have i0:∀s kk,Yc (some 4) [.pv s (.sl (some 4) [h.pv,x.pv,y.pv]),.pv none (.int kk 0)]=some (.iptr (some 4) h.pv 0):=fun _ _=>rfl;have i1:∀s kk,Yc (some 4) [.pv s (.sl (some 4) [h.pv,x.pv,y.pv]),.pv none (.int kk 1)]=some (.iptr (some 4) x.pv 0):=fun _ _=>rfl;have i2:∀s kk,Yc (some 4) [.pv s (.sl (some 4) [h.pv,x.pv,y.pv]),.pv none (.int kk 2)]=some (.iptr (some 4) y.pv 0):=fun _ _=>rfl;have hstn:∀(H:Heap) (v:AV) (k:Nat) (s:Sh) (e:PV) (f:Nat),yj (some 4) hp.length H [.ptr hp.length 0,v,.ptr r k,.iptr s e f]=zK (some 4) hp.length H [.ptr hp.length 0,v]:=fun H v k s e f=>by
   have e:Nat.beq r hp.length=false:=by
    cases h:Nat.beq r hp.length with
    |false=>rfl
    |true=>
     have:=ZG h;omega
   have e':Nat.beq hp.length r=false:=by
    cases h:Nat.beq hp.length r with
    |false=>rfl
    |true=>
     have:=ZG h;omega
   simp[yj,zK,XT,e,e']
  have h4:=fun X=>na d hbd g (slA q 0) h.name h.args.length (indT h.name h.args.length) (Vn hhn) hs (hp++X) r (hr' X);have hpan:∀A:Prop,panK true A=A:=fun _=>rfl;simp only[Tm.av,Dbs.av] at h1 h3 h4;simp -dsimp -implicitDefEqProofs only[go_sem,seval,YD,hr,hr',Jb,Ja,e3,h1,h3,h4,hpan,i0,i1,i2,hstn,hx,hy,Ye,zQ,zN,Tm.pvs_len,YH,zT,zH (Zf _ _)]
  first|exact⟨rfl,List.take_left⟩|exact List.take_left
 exact h
theorem O9(d:Dbs)(hv:okD d=true)(g h x y:Tm)(hg:GK g 82)(hga:g.args=[h,x,y])(hh:h.kind≠0/\h.kind≠1)(hx:x.kind=0)(hy:y.kind=0)(hs:yL d h.name h.args.length=true)(hp:Heap)(hb:Bq hp):
  ∃X,S 11 [d.av,g.av] hp=some (.ret (.tuple [Yk,.sl (some 4) (hp.length+9) 0 0 0,(perT moN stN (indT h.name h.args.length)).av,P4 8]),hp++X)/\X[9]? =some (.arr (some 4) [] false)/\Bq X:=by
 have hS:=O8 d hv g h x y hg.v hga hh hx hy hs (hp++y9 d g hp.length++x3 (hp++y9 d g hp.length).length) (hp.length+7) (hp.length+8) (y9_r ..) (y9_q ..);exact O1 d hv g _ hg hp hb _ (OZ _ (hp++y9 d g hp.length) _ _ hS)
theorem oc{l:List B}(h:OKB l)(P:Tm->Prop)(hP:∀b∈l,P b.2):∀(m:Nat) (t:Tm),mu l t=m->t.valid=true->P t->P (flw l t):=by
 intro m
 induction m using Nat.strongRecOn with
 |_ m ih=>
  intro t hm hv hp;by_cases hk:t.kind=0
  ·by_cases hf:fndB l t.n=true
   ·have hlt:=xj h.Acyc hk hf;rw[Jg h.Acyc hk hf];exact ih _ (by omega) (toB l t.n) rfl (h.to hf).1 (hP _ (find_mem hf))
   ·rwa [Q1 h.Acyc (valid_fits hv) hk hf]
  grind [xk]
structure Gen(l:List B)(r:List (Tm × Tm)):Prop where
 var:∀p∈r,p.1.kind=0/\fndB l p.1.n=false
 away:∀p∈r,∀q∈r,p.1.n ∉ q.2.occ
 out:∀p∈r,∀b∈l,p.1.n ∉ b.2.occ
 diff:r.Pairwise fun p q=>p.1.n≠q.1.n
theorem V0:∀(n:Nat) (l:List B) (r:List (Tm × Tm)),OKB l->(∀p∈r,p.1.valid=true/\p.2.valid=true)->Gen l r->(uni n l r).2≠4
 |n,l,[],_,_,_=>by grind [Bm]
 |0,l,_::_,_,_,_=>by grind [Bn]
 |n+1,l,p::r,hO,hv,hG=>by
  have hvp:=hv p Zw;have hvr:=fun q hq=>hv q (Zm p hq);obtain⟨k0,f0⟩:=hG.var p Zw;have hx:=Q1 hO.Acyc (valid_fits hvp.1) k0 (by grind);have hxf:=xl hO hvp.1;rw[hx] at hxf;have hyf:=xl hO hvp.2;have hya:∀q∈r,q.1.n ∉ (flw l p.2).occ:=fun q hq=>oc hO (fun t=>q.1.n ∉ t.occ) (hG.out q (Zm _ hq)) _ _ rfl hvp.2 (hG.away q (Zm _ hq) p Zw);have hdf:=zd.1 hG.diff;have hxo:p.1.occ=[p.1.n]:=by grind [Tm.zAm]
  have hxa:∀q∈r,q.1.n ∉ p.1.occ:=fun q hq hm=>by
   grind
  cases hu:ustep l p.1 (flw l p.2) with
  |err e=>
   rw[Bo r (by rw[hx];exact hu)]
   grind [ustep]
  |bind v t=>
   rw[Bp r (by rw[hx];exact hu)];have hb:=Bv hO hxf hyf hu;have hvt:(∀q∈r,q.1.n≠v)/\∀q∈r,q.1.n ∉ t.occ:=by
    grind [Tm.zAm,ustep]
   refine V0 n _ r (Bt hO hb.unb hb.rng hb.val hb.out) hvr ⟨fun q hq=> ?_,fun a ha b hb=>hG.away a (Zm _ ha) b (Zm _ hb),fun q hq b hb'=> ?_,hdf.2⟩
   ·obtain⟨k1,f1⟩:=hG.var q (Zm _ hq);refine⟨k1,?_⟩;cases e:fndB (insB l v t) q.1.n with
    |false=>rfl
    |true=>
     rcases(Q2 hO.good hb.unb _).1 e with h|h
     ·grind
     grind
   ·rcases Jd hb' with rfl|h
    ·grind
    ·exact hG.out q (Zm _ hq) b h
  |args xs=>
   rw[Ji r (by rw[hx];exact hu)];have e:xs=[]:=by
    grind [ustep]
   subst e;exact V0 n l r hO hvr ⟨fun q hq=>hG.var q (Zm _ hq),fun a ha b hb=>hG.away a (Zm _ ha) b (Zm _ hb),fun q hq=>hG.out q (Zm _ hq),hdf.2⟩
def dclN:List UInt8:=[36,99,108,97,117,115,101]
def derN:List UInt8:=[36,101,114,97,115,101]
def genT(s:List UInt8)(k:Nat):Tm:=if k=0 then zW s else strT s ((List.range k).map fun i:Nat=>tvar (i:Int))
def genG(s:List UInt8)(k:Nat):Tm:=strT dclN [genT s k,tvar k,tvar (k+1:Nat)]
theorem jO(s:List UInt8)(k:Nat):(genT s k).args=(List.range k).map fun i:Nat=>tvar (i:Int):=by
 unfold genT;split
 ·rename_i h;rw[h];rfl
 ·rfl
theorem V1(s:List UInt8)(k:Nat):(genT s k).name=s:=by
 unfold genT;split <;> rfl
theorem BS(s:List UInt8)(k:Nat):(genT s k).kind=2\/(genT s k).kind=3:=by
 unfold genT;split
 ·exact .inl rfl
 ·exact .inr rfl
theorem od{n:Int}(h:0<=n/\n<=1099511627776):(tvar n).valid=true:=Xw (Jh h) (by show 1<=2000;omega)
theorem Q5:∀{l:List Tm},(∀t∈l,t.fits=true)->Tm.fitsAll l=true
 |[],_=>rfl
 |t::r,h=>by rw[Tm.fitsAll,h t (by simp),Q5 fun u hu=>h u (by grind)];rfl
theorem BT(s:List UInt8)(k:Nat)(h:k<=8):(genT s k).size=k+1:=by
 match k,h with
 |0,_|1,_|2,_|3,_|4,_|5,_|6,_|7,_|8,_=>rfl
theorem BU{s:List UInt8}{k:Nat}(hs:s.length<=100)(h:k<=8):(genT s k).fits=true:=by
 unfold genT
 grind [valid_fits,q8,xO,Q5,Jh]
theorem oe(s:List UInt8)(k:Nat)(h:k<=8):(genG s k).size=k+4:=by
 have:=BT s k h;show 1+((genT s k).size+(1+0+(1+0+0)))=_;omega
theorem og{s:List UInt8}{k:Nat}(hs:s.length<=100)(h:k<=8):(genG s k).fits=true:=by
 refine xO (by decide) (by simp) (by simp) (Q5 fun t ht=> ?_)
 grind [BU,Jh]
theorem BV{s:List UInt8}{k:Nat}(hs:s.length<=100)(h:k<=8):(genG s k).valid=true:=Xw (og hs h) (by grind [oe])
theorem oh(s:List UInt8)(k:Nat)(h:k<=8):canT (genG s k)=genG s k:=by
 match k,h with
 |0,_|1,_|2,_|3,_|4,_|5,_|6,_|7,_|8,_=>rfl
theorem ol(s:List UInt8)(k:Nat)(h:k<=8):Yo (genG s k)=(k:Int)+2:=by
 match k,h with
 |0,_|1,_|2,_|3,_|4,_|5,_|6,_|7,_|8,_=>rfl
theorem BW{s:List UInt8}{k:Nat}(hs:s.length<=100)(h:k<=8):GK (genG s k) 82 where
 v:=BV hs h
 c:=by grind [canR,BV,oh]
 k:=rfl
 l:=by rfl
theorem V2(id:Int):GK (strT derN [intT id]) 83 where
 v:=Xw (xO (by decide) (by simp) (by simp) (Q5 fun t ht=>by grind [jC])) (by show 1+(1+0+0)<=2000;omega)
 c:=by
  have hv:(strT derN [intT id]).valid=true:=Xw (xO (by decide) (by simp) (by simp) (Q5 fun t ht=>by grind [jC])) (by show 1+(1+0+0)<=2000;omega);rw[canR,Zh hv];rfl
 k:=rfl
 l:=by rfl
theorem BX{d:Int}{t:Tm}(hf:t.fits=true){w:Int}(h:w∈(shT d t).occ):d<=w:=by
 rw[BG] at h;obtain⟨x,hx,rfl⟩:=ZI.1 h;have:=GZ hf x hx;omega
theorem BY{d:Int}{t:Tm}(h:¬t.kind=0):shT d t=.mk t.kind t.n t.name (t.args.map (shT d)):=by grind [QD,jM]
theorem BZ(s:List UInt8)(k:Nat)(d:Int)(x:Sto):ansC (genG s k) d x=strT dclN [shT d x.cl.head,shT d x.cl.body,intT x.id]:=rfl
theorem oo{s:List UInt8}{k:Nat}(hs:s.length<=100)(h8:k<=8)(x:Sto)(h1:x.cl.head.valid=true)(h2:x.cl.body.valid=true)(hn:x.cl.head.name=s)(hl:x.cl.head.args.length=k)(hk:x.cl.head.kind=2\/x.cl.head.kind=3)(hv:(ansC (genG s k) ((k:Int)+2) x).valid=true):
  (uni 1048576 [] [(genG s k,ansC (genG s k) ((k:Int)+2) x)]).2≠4:=by
 rw[BZ] at hv ⊢;obtain⟨d,hd⟩:∃d:Int,d=(k:Int)+2:=⟨_,rfl⟩;rw[<-hd] at hv ⊢;have hgf:=valid_fits h1;have hbf:=valid_fits h2;have hvs:∀t∈[shT d x.cl.head,shT d x.cl.body,intT x.id],t.valid=true:=fun t ht=>Xv hv ht;have hvh:=hvs _ (by simp:shT d x.cl.head∈_);have hvb:=hvs _ (by simp:shT d x.cl.body∈_);have hvi:=hvs _ (by simp:intT x.id∈_);have u1:ustep [] (flw [] (genG s k)) (flw [] (strT dclN [shT d x.cl.head,shT d x.cl.body,intT x.id]))=.args [(genT s k,shT d x.cl.head),(tvar k,shT d x.cl.body),(tvar (k+1:Nat),intT x.id)]:=by
  rw[xk [] (by show ¬(3:Int)=0;decide),xk [] (by show ¬(3:Int)=0;decide)];unfold ustep;rw[Zb (by show ¬((3:Int)=0/\_);simp),Zb (by show ¬(3:Int)=0;decide),Zb (by show ¬(3:Int)=0;decide),Zh ⟨rfl,rfl,rfl,rfl⟩];rfl
 rw[Ji (n:=1048575) [] u1,ZF];have hk0:¬x.cl.head.kind=0:=by grind
 have hkk:(genT s k).kind=x.cl.head.kind:=by
  have hnd:=hgf;rw[Tm.zAs,Zk] at hnd;have hnd:=hnd.1;unfold Tm.node at hnd;rw[Zb hk0] at hnd;unfold genT;rcases hk with e|e
  ·rw[Zb (by omega),Zh e] at hnd;simp only[Zk,ZH] at hnd;rw[Zh (by omega),e];rfl
  ·rw[Zb (by omega),Zb (by omega),Zh e] at hnd;simp only[Zk,ZH] at hnd;rw[Zb (by omega),e];rfl
 have hnn:(genT s k).n=x.cl.head.n:=by
  have hnd:=hgf;rw[Tm.zAs,Zk] at hnd;have hnd:=hnd.1;unfold Tm.node at hnd;rw[Zb hk0] at hnd;have e0:(genT s k).n=0:=by unfold genT;split <;> rfl
  grind
 have hg0:¬(genT s k).kind=0:=by grind
 have u2:ustep [] (flw [] (genT s k)) (flw [] (shT d x.cl.head))=.args (((List.range k).map fun i:Nat=>tvar (i:Int)).zip (x.cl.head.args.map (shT d))):=by
  rw[BY hk0,xk [] hg0,xk [] (by exact hk0)];unfold ustep;rw[Zb (fun h=>hg0 h.1),Zb hg0,Zb (by exact hk0),Zh ⟨hkk,hnn,by rw[V1];exact hn.symm,by rw[jO];show _=(x.cl.head.args.map (shT d)).length;grind⟩,jO];rfl
 rw[Ji (n:=1048574) _ u2];have hvg:=Xw (BU hs h8) (by grind [BT]);have hmem:∀p∈((List.range k).map fun i:Nat=>tvar (i:Int)).zip (x.cl.head.args.map (shT d))++[(tvar k,shT d x.cl.body),(tvar (k+1:Nat),intT x.id)],(∃i:Nat,i<k+2/\p.1=tvar i)/\p.2.valid=true/\∀w∈p.2.occ,d<=w:=by
  intro p hp;rcases zj.1 hp with hp|hp
  ·have hz:=List.of_mem_zip hp;obtain⟨i,hi,e⟩:=ZI.1 hz.1;obtain⟨u,hu,e2⟩:=ZI.1 hz.2;refine⟨⟨i,by grind,e.symm⟩,?_,?_⟩
   ·refine Xv hvh ?_;rw[BY hk0];exact hz.2
   ·rw[<-e2];exact fun w hw=>BX (Tm.zAo hgf hu) hw
  ·simp only[ZB,List.not_mem_nil,or_false] at hp;rcases hp with rfl|rfl
   ·grind [BX]
   ·exact⟨⟨k+1,by omega,rfl⟩,hvi,fun w hw=>by cases hw⟩
 refine V0 _ _ _ okb_nil (fun p hp=> ?_) ⟨fun p hp=> ?_,fun p hp q hq hm=> ?_,fun p hp b hb=>(by cases hb),?_⟩
 ·grind [od]
 ·obtain⟨⟨i,hi,e⟩,_⟩:=hmem p hp;rw[e];exact⟨rfl,rfl⟩
 ·obtain⟨⟨i,hi,e⟩,_⟩:=hmem p hp;have:=(hmem q hq).2.2 _ hm;rw[e] at this;have:d<=(i:Int):=this;omega
 ·have hz:∀(m:Nat) (us:List Tm),us.length=m->((((List.range m).map fun i:Nat=>tvar (i:Int)).zip us).map fun p=>p.1.n)=(List.range m).map fun i:Nat=>(i:Int):=fun m us h=>by
   rw[show(fun p:Tm × Tm=>p.1.n)=Tm.n ∘ Prod.fst from rfl,<-List.map_map,List.map_fst_zip (by simp[h]),List.map_map];rfl
  have hp:((((List.range k).map fun i:Nat=>tvar (i:Int)).zip (x.cl.head.args.map (shT d))++[(tvar k,shT d x.cl.body),(tvar (k+1:Nat),intT x.id)]).map fun p=>p.1.n)=(List.range (k+2)).map fun i:Nat=>(i:Int):=by
   rw[List.map_append,hz k _ (by grind),List.range_succ,List.range_succ,List.map_append,List.map_append,Zl];rfl
  have hpw:((List.range (k+2)).map fun i:Nat=>(i:Int)).Pairwise (·≠·):=by
   rw[List.pairwise_map];exact(List.nodup_range (n:=k+2)).imp fun h e=>h (by exact_mod_cast e)
  grind
theorem B0{f:Int->Int}(hf:∀a b,f a=f b->a=b):∀(ws s:List Int),vads (s.map f) (ws.map f)=(vads s ws).map f
 |[],s=>rfl
 |w::r,s=>by
  show vads (vadd (s.map f) (f w)) (r.map f)=(vads (vadd s w) r).map f;rw[<-B0 hf r (vadd s w)]
  grind [vadd]
theorem B1(d:Int)(v:Int):∀L:List Int,(L.map (·+d)).idxOf (v+d)=L.idxOf v
 |[]=>rfl
 |x::r=>by
  rw[ZW,zu,zu,B1 d v r]
  grind
theorem oq(d:Int)(L:List Int):∀t:Tm,Tm.sub (cPos (L.map (·+d))) (shT d t)=Tm.sub (cPos L) t:=by
 intro t
 induction t using Tm.zAl with
 |h t ih=>
  rw[QD,Tm.zAt _ t];split
  ·rename_i hk;rw[Tm.zAt];show tvar ((L.map (·+d)).idxOf (t.n+d):Nat)=_;rw[B1];rfl
  ·rename_i hk;rw[Tm.zAt,Zb (by exact hk)];show Tm.mk t.kind t.n t.name ((shTs d t.args).map (Tm.sub (cPos (L.map (·+d)))))=_;simp_all[jM]
theorem ot(d:Int)(t:Tm):canT (shT d t)=canT t:=by
 unfold canT;rw[BG];have e:=B0 (f:=(·+d)) (fun a b h=>by grind) t.occ []
 grind [oq]
theorem B2(d:Int):∀t:Tm,t.fits=true->(shT d t).size=t.size:=by
 intro t
 induction t using Tm.zAl with
 |h t ih=>
  intro hf;have hl:∀l:List Tm,(∀u∈l,u∈t.args)->Tm.sizes (shTs d l)=Tm.sizes l:=by
   intro l
   induction l with
   |nil=>intro _;rfl
   |cons x r ihr=>
    grind [Tm.zAo,Tm.sizes,shTs]
  have:=hl t.args fun _ h=>h;rw[QD,t.size_eq];split
  ·rename_i hk;rw[yw hf hk];rfl
  ·show 1+Tm.sizes (shTs d t.args)=_;omega
theorem ou{s:List UInt8}{k:Nat}{d:Int}{x:Sto}(h1:x.cl.head.valid=true)(h2:x.cl.body.valid=true)(hv:(ansC (genG s k) d x).valid=true):vari (strT [99] [shT d x.cl.head,shT d x.cl.body]) (strT [99] [x.cl.head,x.cl.body])=true:=by
 rw[BZ] at hv;have hvs:∀t∈[shT d x.cl.head,shT d x.cl.body,intT x.id],t.valid=true:=fun t ht=>Xv hv ht;have hz:=valid_size hv;have hz:1+((shT d x.cl.head).size+((shT d x.cl.body).size+(1+0+0)))<=2000:=hz;have e1:=B2 d _ (valid_fits h1);have e2:=B2 d _ (valid_fits h2);have fa:∀{a b:Tm},a.valid=true->b.valid=true->1+(a.size+(b.size+0))<=2000->(strT [99] [a,b]).valid=true:=fun{a b} ha hb hs=>Xw (xO (by decide) (by simp) (by simp) (Q5 fun t ht=>by
  grind [valid_fits])) hs
 have v1:=fa (hvs _ (by simp:shT d x.cl.head∈_)) (hvs _ (by simp:shT d x.cl.body∈_)) (by omega);have v2:=fa h1 h2 (by omega);have e3:strT [99] [shT d x.cl.head,shT d x.cl.body]=shT d (strT [99] [x.cl.head,x.cl.body]):=rfl;simp_all[vari,ot,Tm.zAv]
theorem ov{d:Dbs}(hv:okD d=true){p:Prc}(hp:p∈d.procs):∀s∈p.cls,okS d.next p s:=((XP d).1 hv).2.2.2.2.2.2.2 p hp
theorem B3{d:Dbs}(hv:okD d=true){p:Prc}(hp:p∈d.procs):p.name.length<=100/\0<=p.ar/\p.ar<=8:=by
 have h:=((XP d).1 hv).2.2.2.2.1 p hp
 grind [namB]
theorem ox{d:Dbs}(hv:okD d=true){p:Prc}(hp:p∈d.procs){k:Nat}{x:Sto}(hx:p.cls[k]? =some x):
  (eraR d x.id).2=true/\okD (eraR d x.id).1=true/\(eraR (eraR d x.id).1 x.id).2=false/\yb (eraR d x.id).1 p.name p.ar=some ⟨p.name,p.ar,p.dyn,p.cls.take k++p.cls.drop (k+1)⟩:=by
 have hm:x.id∈ids d.procs:=mem_ids.2 ⟨p,hp,x,Zi hx,rfl⟩;have h2:=eraR_iff.2 ⟨hv,hm⟩;obtain⟨-,-,e,hok,-,hout⟩:=BO h2;refine⟨h2,hok,?_,(jx hok _ _ _).2 ⟨?_,rfl,rfl⟩⟩
 ·grind [eraR_iff]
 ·have hd:=((XP d).1 hv).2.2.2.2.2.2.1;have hnd:(p.cls.map (·.id)).Nodup:=by
   obtain⟨i,hi,rfl⟩:=List.getElem_of_mem hp;rw[jy (Zd hi),Vh,XO] at hd
   grind
  rw[e,BM hx hnd];exact ZI.2 ⟨p,hp,rfl⟩
theorem n_ok(n:Int)(hp:Heap):S 24 [P4 n] hp=some (.ret (intT n).av,hp):=by
 refine zL rfl rfl rfl (zJ [(none,.int .i64 n)]) rfl ?_;have hbu:zR A0 [0,1] [P4 1,P4 n]=some (.agg [(none,P4 1),(none,P4 n),(none,P6 []),(none,.tsl (some 4) [])]):=rfl;simp -dsimp -implicitDefEqProofs only[go_sem,seval,hbu];exact⟨_,rfl⟩
theorem a_ok(s:List UInt8)(hp:Heap):S 23 [P6 s] hp=some (.ret (zW s).av,hp):=by
 refine zL rfl rfl rfl (zJ [(none,.str s)]) rfl ?_;have hbu:zR A0 [0,2] [P4 2,P6 s]=some (.agg [(none,P4 2),(none,P4 0),(none,P6 s),(none,.tsl (some 4) [])]):=rfl;simp -dsimp -implicitDefEqProofs only[go_sem,seval,hbu];exact⟨_,rfl⟩
theorem f_ok(s:List UInt8)(l:List Tm)(hp:Heap):S 6 [P6 s,.pv none (.sl (some 4) (Tm.pvs l))] hp=some (.ret (strT s l).av,hp):=by
 refine Yj rfl rfl rfl rfl ?_;have hbu:zR A0 [0,2,3] [P4 3,P6 s,.pv none (.sl (some 4) (Tm.pvs l))]=some (.pv (some 4) (strT s l).pv):=rfl;simp -dsimp -implicitDefEqProofs only[go_sem,seval,hbu,Tm.av,zT,zH (Zc _)];simp[AV.refsIn]
def sA(s:List UInt8)(l:List Tm):AV:=.agg [(none,P4 3),(none,P4 0),(none,P6 s),(none,.tsl (some 4) (Tm.pvs l))]
theorem oy(s:List UInt8)(l:List Tm)(hl:l≠[])(hp:Heap):S 6 [P6 s,.tsl (some 4) (Tm.pvs l)] hp=some (.ret (sA s l),hp):=by
 refine Yj rfl rfl rfl rfl ?_;have hbu:zR A0 [0,2,3] [P4 3,P6 s,.tsl (some 4) (Tm.pvs l)]=some (sA s l):=rfl;unfold sA at hbu;have hown:∀H:Heap,zU [(none,.tsl (some 4) (Tm.pvs l))] H=([(none,.tsl (some 4) (Tm.pvs l))],H):=fun H=>by
  cases l with
  |nil=>exact absurd rfl hl
  |cons x r=>rfl
 simp -dsimp -implicitDefEqProofs only[go_sem,seval,hbu,Tm.av,zT,hown,zH (Zc _)];simp[AV.refsIn,AV.refsIn.go,sA]
theorem oA(a b:Tm)(ha:a.size<1000000000)(hb:b.size<1000000000):W Z L 0 (g13).code ⟨params 0 (pvs [(some 4,a.pv),(some 4,b.pv)]),[]⟩ (endK (g13).results (Am.frozen (P5 (same a b)))):=by
 have h1:=fun hp=>qO a b hp ha hb;simp only[Tm.av] at h1;simp -dsimp -implicitDefEqProofs only[go_sem,seval,h1]
theorem V3(a b:Tm)(hp:Heap)(ha:a.size<1000000000)(hb:b.size<1000000000):S 13 [a.av,b.av] hp=some (.ret (P5 (same a b)),hp):=
 zL rfl rfl rfl (zJ [(some 4,a.pv),(some 4,b.pv)]) rfl (oA a b ha hb)
theorem V4{g:Tm}(h:g.valid=true):same g g=true:=by simp[same,h,Tm.zAv]
theorem oB:same zt zt=true:=by decide
theorem oC{H:Heap}{q:Nat}{z:Bool}(h:H[q]? =some (.arr (some 4) [] z)):AV.freeze deep (zg q) H=some (zt.pv,H.set q (.arr (some 4) [] true)):=by
 have e:=P0
 show AV.freeze (7+1) (.agg _) _=_;simp[e,AV.freeze.go,AV.freeze,h];rfl
theorem x_ok(n:Int)(hp:Heap):S 21 [P4 n] hp=some (.ret (tvar n).av,hp):=by
 refine zL rfl rfl rfl (zJ [(none,.int .i64 n)]) rfl ?_;have hbu:zR A0 [1] [P4 n]=some (.agg [(none,P4 0),(none,P4 n),(none,P6 []),(none,.tsl (some 4) [])]):=rfl;simp -dsimp -implicitDefEqProofs only[go_sem,seval,hbu];exact⟨_,rfl⟩
def strA(s:List UInt8)(q k:Nat):AV:=.agg [(none,P4 3),(none,P4 0),(none,P6 s),(none,.sl (some 4) q k 0 k)]
theorem oD(s:List UInt8)(hp:Heap):S 6 [P6 s,.tsl (some 4) []] hp=some (.ret (strA s (hp.length+2) 0),hp++[.box (some 4) (strA s (hp.length+2) 0),.arr (some 4) [] false,.arr (some 4) [] false]):=by
 refine Yj rfl rfl rfl rfl ?_;have hbu:zR A0 [0,2,3] [P4 3,P6 s,.tsl (some 4) []]=some (.agg [(none,P4 3),(none,P4 0),(none,P6 s),(none,.tsl (some 4) [])]):=rfl;simp -dsimp -implicitDefEqProofs only[go_sem,seval,hbu,Tm.av,zT,zH (Zc _)];simp[AV.refsIn,AV.refsIn.go,strA]
def gnX(s:List UInt8)(n k:Nat):Heap:=[.box (some 4) (strA s (n+4) k),.arr (some 4) [] false,.box (some 4) (strA s (n+4) 0),.arr (some 4) [] false,.arr (some 4) (Tm.pvs ((List.range k).map fun i:Nat=>tvar (i:Int))) false,.box (some 4) (strA s (n+4) k),.arr (some 4) [] false]
theorem B4(i:Nat):(Tm.pvs ((List.range i).map fun i:Nat=>tvar (i:Int))).length=i:=by grind [Tm.pvs_len]
theorem oE(s:List UInt8)(k:Nat)(h0:0<k)(h8:k<=8)(hp:Heap):S 20 [P6 s,P4 (k:Int)] hp=some (.ret (.tuple [strA s (hp.length+4) k,P4 k]),hp++gnX s hp.length k):=by
 refine Yj rfl rfl rfl rfl ?_;have h1:=fun hp=>oD s hp;have k0:((k:Int)=0)=False:=Zj (by omega);unfold strA at h1;simp -dsimp -implicitDefEqProofs only[go_sem,seval,k0,h1,zT,zH (Zf _ _)];refine Yf (α:=Unit) k (fun _ _=>True) (fun i _=>⟨[(1,P4 k),(4,.ptr hp.length 0),(6,.ptr (hp.length+5) 0),(14,P4 k),(15,P4 i)],hp++[.box (some 4) (zg (hp.length+1)),.arr (some 4) [] false,.box (some 4) (strA s (hp.length+4) 0),.arr (some 4) [] false,.arr (some 4) (Tm.pvs ((List.range i).map fun i:Nat=>tvar (i:Int))) false,.box (some 4) (strA s (hp.length+4) i),.arr (some 4) [] false]⟩) () ⟨trivial,rfl⟩ ?_ ?_
 ·rintro i - hi -;have hc:(i:Int)<(k:Int):=by omega
  have w1:IntKind.i64.wrap ((i:Int)+1)=((i+1:Nat):Int):=by grind [zO]
  have w2:IntKind.i64.wrap (i:Int)=(i:Int):=zO (by omega) (by omega);have hl:=B4 i;have hsn:Tm.pvs ((List.range i).map fun i:Nat=>tvar (i:Int))++[(tvar i).pv]=Tm.pvs ((List.range (i+1)).map fun i:Nat=>tvar (i:Int)):=by
   grind [List.range_succ,Tm.zAw]
  have h2:=fun hp=>x_ok i hp;have hlim:i+1<=lim:=by grind [lim]
  simp only[Tm.av] at h2;obtain⟨es,he⟩:∃es,es=Tm.pvs ((List.range i).map fun i:Nat=>tvar (i:Int)):=⟨_,rfl⟩;obtain⟨es',he'⟩:∃es,es=Tm.pvs ((List.range (i+1)).map fun i:Nat=>tvar (i:Int)):=⟨_,rfl⟩;rw[<-he,<-he'] at hsn;rw[<-he] at hl;rw[<-he,<-he'];have hap:∀a b c d e f:AObj,z6 (some 4) (hp++[a,b,c,d,.arr (some 4) es false,e,f]) [.sl (some 4) (hp.length+4) i 0 i,.tsl (some 4) [(tvar i).pv]]=some (.sl (some 4) (hp.length+4) (i+1) 0 (i+1),hp++[a,b,c,d,.arr (some 4) es' false,e,f]):=fun a b c d e f=>by
   simp_all[z6,aappend,elems]
  have hpt:AV.part deep (strA s (hp.length+4) i) 3 none=some (.sl (some 4) (hp.length+4) i 0 i):=rfl;have hup:AV.upd deep (strA s (hp.length+4) i) 3 none (.sl (some 4) (hp.length+4) (i+1) 0 (i+1))=some (strA s (hp.length+4) (i+1)):=rfl;have hst:∀a b c d e f:AObj,zK none hp.length (hp++[a,b,c,d,e,.box (some 4) (strA s (hp.length+4) i),f]) [.ptr (hp.length+5) 3,.sl (some 4) (hp.length+4) (i+1) 0 (i+1)]=some (.undef,hp++[a,b,c,d,e,.box (some 4) (strA s (hp.length+4) (i+1)),f]):=fun a b c d e f=>by
   simp[zK,astore,YQ,jh,AV.plain,AV.shp,AV.own,hup]
  have hsp:∀(a b c d e f:AObj) (j:Nat),Yv (hp++[a,b,c,d,e,.box (some 4) (strA s (hp.length+4) i),f]) (hp++[a,b,c,d,e,.box (some 4) (strA s (hp.length+4) i),f]) (.ptr (hp.length+5) j)=true:=fun a b c d e f j=>by
   simp[Yv,YQ,AObj.beq,strA,AV.beq,AV.beqc,PV.beq]
  simp -dsimp -implicitDefEqProofs only[go_sem,seval,hc,w1,w2,xg,ZK,ZX,ZS,ZU,h2,hap,hpt,hst,hsp];exact⟨(),congrArg (St.mk _) (xJ (by simp))⟩
 ·rintro - -;have hc:¬(k:Int)<(k:Int):=by omega
  unfold strA;simp -dsimp -implicitDefEqProofs only[go_sem,seval,hc,zT,zH (Zc _)];rw[Qt rfl (Qr ..)];simp[AV.refsIn,AV.refsIn.go,AV.refsIn.gol,gnX,strA]
theorem oF(s:List UInt8)(hp:Heap):S 20 [P6 s,P4 0] hp=some (.ret (.tuple [(zW s).av,P4 0]),hp):=by
 refine Yj rfl rfl rfl rfl ?_;have h1:=fun hp=>a_ok s hp;simp only[Tm.av] at h1;simp -dsimp -implicitDefEqProofs only[go_sem,seval,h1,zT];rw[Qt rfl (Qr ..)];simp[AV.refsIn,AV.refsIn.gol,Tm.av]
theorem oH(l:List Tm)(hv:∀t∈l,t.valid=true)(hl:l.length<1000000)(hp:Heap):S 65 [.pv none (.sl (some 4) (Tm.pvs l)),.pv none (.sl (some 4) (Tm.pvs l))] hp=some (.ret (P5 true),hp):=by
 refine zL rfl rfl rfl (zJ [(none,.sl (some 4) (Tm.pvs l)),(none,.sl (some 4) (Tm.pvs l))]) rfl ?_;simp -dsimp -implicitDefEqProofs only[go_sem,seval,Tm.pvs_len];refine Yf (α:=Unit) l.length (fun _ _=>True) (fun i _=>⟨[(0,.pv none (.sl (some 4) (Tm.pvs l))),(1,.pv none (.sl (some 4) (Tm.pvs l))),(5,P4 i)],[]⟩) () ⟨trivial,rfl⟩ ?_ ?_
 ·rintro i - h -;have hc:(i:Int)<(l.length:Int):=by omega
  have w1:IntKind.i64.wrap ((i:Int)+1)=((i+1:Nat):Int):=by grind [zO]
  obtain⟨u,hu⟩:∃u,l[i]? =some u:=⟨_,Zd h⟩;have hz:=fit9 (hv u (Zi hu));have h1:=fun hp=>qO u u hp hz hz;rw[V4 (hv u (Zi hu))] at h1;simp only[Tm.av] at h1;simp -dsimp -implicitDefEqProofs only[go_sem,seval,Tm.pvs_len,hc,w1,zM (Tm.pvs_get hu),h1];simp_all
 ·rintro - -;have hc:¬(l.length:Int)<(l.length:Int):=by omega
  simp -dsimp -implicitDefEqProofs only[go_sem,seval,Tm.pvs_len,hc]
def Q6(d:Dbs)(g:Tm)(m:Dbs)(ts:List Tm):Prop:=∀H:Heap,Bq H->∃X,S 11 [d.av,g.av] H=some (.ret (.tuple [m.av,.sl (some 4) (H.length+3) ts.length 0 ts.length,zg (H.length+13),P4 0]),H++X)/\X[3]? =some (.arr (some 4) (Tm.pvs ts) false)/\X[13]? =some (.arr (some 4) [] false)
theorem oI(d m:Dbs)(g:Tm)(ts:List Tm)(hc:Q6 d g m ts)(hv:∀t∈ts,t.valid=true)(hl:ts.length<1000000):S 25 [d.av,g.av,.pv none (.sl (some 4) (Tm.pvs ts))] []=some (.ret (.tuple [m.av,P5 true]),[]):=by
 refine zL rfl rfl rfl (zJ [(some 2,d.pv),(some 4,g.pv),(none,.sl (some 4) (Tm.pvs ts))]) rfl ?_;obtain⟨H3,hH3⟩:∃H:Heap,H=[.box (some 2) (.pv (some 2) d.pv),.box (some 4) (.pv (some 4) g.pv),.box (some 2) Yk]:=⟨_,rfl⟩;obtain⟨X,h1,hX3,hX13⟩:=hc H3 (by grind [Bq.cons,Q4,Xg,Jk,Bq.nil]);have h3l:H3.length=3:=by grind
 rw[h3l] at h1;obtain⟨K,hK⟩:∃K,K=H3++X:=⟨_,rfl⟩;obtain⟨n,hn⟩:∃n,K.length=n:=⟨_,rfl⟩;have k6:K[6]? =some (.arr (some 4) (Tm.pvs ts) false):=by grind
 have k16:K[16]? =some (.arr (some 4) [] false):=by grind
 have l6:=Yz k6;have l16:=Yz k16;rw[<-hK,hH3] at h1;have hr:=oH ts hv hl;have hzz:=fun hp=>V3 zt zt hp (by decide) (by decide);rw[oB] at hzz;have hwk:YR [.agg A0]=some [(some 4,zt.pv)]:=rfl;have hkn:Y8 [.pv (some 4) zt.pv,.agg A0] (pvs [(some 4,zt.pv),(some 4,zt.pv)])=[.pv (some 4) zt.pv,.pv (some 4) zt.pv]:=rfl;rw[ky,ky,u6] at hkn;have hzr:=P1;have hnil:∀H:Heap,zU A3 H=(A3,H):=fun _=>rfl;obtain⟨K1,hK1⟩:∃K1,K1=K.set 6 (.arr (some 4) (Tm.pvs ts) true):=⟨_,rfl⟩;have hn1:K1.length=n:=by grind
 have hs9:∀(fr:Fr) (Y:Heap),QS 9 [10] ⟨fr,K++Y⟩ (some (.sl (some 4) 6 ts.length 0 ts.length))=Am.settle [10] ⟨(9,.pv none (.sl (some 4) (Tm.pvs ts)))::fr,K1++Y⟩:=fun fr Y=>by
  grind [QS,AV.freeze,Tm.pvs_len,deep]
 have hs10:∀(fr:Fr) (a b:AObj),xf [] ⟨fr,K1++[a,.box (some 4) (zg 16),b]⟩ (n+1) (some (.box (some 4) (zg 16)))=some ⟨fr,K1.set 16 (.arr (some 4) [] true)++[a,.box (some 4) (.pv (some 4) zt.pv),b]⟩:=fun fr a b=>by
  have e1:(K1++[a,.box (some 4) (zg 16),b])[16]? =some (.arr (some 4) [] false):=by grind
  grind [oC,xf,setN,u7]
 have k2:K[2]? =some (.box (some 2) Yk):=by grind
 obtain⟨K2,hK2⟩:∃K2,K2=K1.set 16 (.arr (some 4) [] true):=⟨_,rfl⟩;rw[<-hK2] at hs10;have hn2:K2.length=n:=by grind
 have k22:K2[2]? =some (.box (some 2) Yk):=by grind
 have l22:=Yz k22;obtain⟨K3,hK3⟩:∃K3,K3=K2.set 2 (.box (some 2) (.pv (some 2) m.pv)):=⟨_,rfl⟩;have k32:∀Y:Heap,(K3++Y)[2]? =some (.box (some 2) (.pv (some 2) m.pv)):=fun Y=>by grind
 have hw:∀Y:Heap,zK (some 2) 0 (K2++Y) [.ptr 2 0,.pv (some 2) m.pv]=some (.undef,K3++Y):=fun Y=>by
  simp_all[zK,astore,AV.plain,AV.shp,AV.own]
 have hw2:∀(a:AObj) (b:AV) (c:AObj),zK (some 4) 0 (K++[a,.box (some 4) b,c]) [.ptr (n+1) 0,zg 16]=some (.undef,K++[a,.box (some 4) (zg 16),c]):=fun a b c=>by
  simp[zK,astore,getN hn,setN hn,zg,AV.plain,AV.shp,AV.own,total,Sh.size,zU,Y3]
 simp only[Tm.av,Dbs.av] at h1 hzz;unfold Yk at h1;simp -dsimp -implicitDefEqProofs only[go_sem,seval,Tm.av,Dbs.av,hnil,h1,hr,hzz,hzr,hwk,hkn,hs9,hs10,hw,hw2,hn,hn2,getN hn,setN hn,zX hn,Yg hn,getN hn1,zX hn1,getN hn2,zX hn2,zT];first|(rw[Qt rfl (k32 _)];exact⟨_,rfl⟩)|(have hz2:sem (find tab) prim .fn 13 [.pv (some 4) zt.pv,.pv (some 4) zt.pv] []=_:=hzz [];rw[hz2];simp -dsimp -implicitDefEqProofs only[go_sem,seval,hw,zT];rw[Qt rfl (k32 _)];exact⟨_,rfl⟩)
def gvA(s:List UInt8)(n k:Nat):AV:=if k=0 then(zW s).av else strA s (n+4) k
def gxA(s:List UInt8)(n k:Nat):Heap:=if k=0 then[] else gnX s n k
theorem oJ(s:List UInt8)(k:Nat)(h8:k<=8)(hp:Heap):S 20 [P6 s,P4 (k:Int)] hp=some (.ret (.tuple [gvA s hp.length k,P4 k]),hp++gxA s hp.length k):=by
 grind [gvA,gxA,oF,oE]
theorem oK(s:List UInt8)(m k:Nat){K:Heap}{n:Nat}(hK:K.length=n)(b:AV)(c:AObj):zK (some 4) 0 (K++[.box (some 4) b,c]) [.ptr n 0,gvA s m k]=some (.undef,K++[.box (some 4) (gvA s m k),c]):=by
 unfold gvA;split
 ·grind [zK,astore,Tm.av,AV.plain,AV.shp,AV.own]
 ·simp[zK,astore,zX hK,Yg hK,strA,AV.plain,AV.shp,AV.own,total,Sh.size,zU,Y3]
theorem oL(s:List UInt8)(k:Nat)(h8:k<=8)(B:Heap)(hB:Bq B)(r:List Nat):∃K:Heap,K.length=(B++gxA s B.length k).length/\(∀j,j<B.length->K[j]? =B[j]?)/\Bq K/\∀(fr:Fr) (c:AObj) (n:Nat),(B++gxA s B.length k).length=n->xf r ⟨fr,B++gxA s B.length k++[.box (some 4) (gvA s B.length k),c]⟩ n (some (.box (some 4) (gvA s B.length k)))=Am.settle r ⟨fr,K++[.box (some 4) (.pv (some 4) (genT s k).pv),c]⟩:=by
 by_cases h:k=0
 ·subst h;refine⟨B,by simp[gxA],fun _ _=>rfl,hB,fun fr c n hn=> ?_⟩;simp only[gxA,gvA,genT,if_true,ZF] at hn ⊢;rw[show(zW s).av=.pv (some 4) (zW s).pv from rfl,u9];simp_all
 ·obtain⟨ts,hts⟩:∃ts,ts=(List.range k).map fun i:Nat=>tvar (i:Int):=⟨_,rfl⟩;have hl:(Tm.pvs ts).length=k:=by rw[hts,B4]
  refine⟨B++[.box (some 4) (strA s (B.length+4) k),.arr (some 4) [] false,.box (some 4) (strA s (B.length+4) 0),.arr (some 4) [] false,.arr (some 4) (Tm.pvs ts) true,.box (some 4) (strA s (B.length+4) k),.arr (some 4) [] false],by simp[gxA,h,gnX],fun j hj=>zn hj,hB.app fun o ho=> ?_,fun fr c n hn=> ?_⟩
  ·have hs:∀j,AObj.beq (.box (some 4) (strA s (B.length+4) j)) (.box (some 4) (strA s (B.length+4) j))=true:=fun j=>by simp[AObj.beq,strA,AV.beq,AV.beqc,PV.beq]
   grind [QC,nj]
  ·have e8:(genT s k).pv=.agg [(none,.int .i64 3),(none,.int .i64 0),(none,.str s),(none,.sl (some 4) (Tm.pvs ts))]:=by
    rw[genT,Zb h,<-hts];rfl
   rw[gvA,gxA,Zb h,Zb h];rw[gxA,Zb h] at hn;have e1:∀Y:Heap,(B++gnX s B.length k++Y)[B.length+4]? =some (.arr (some 4) (Tm.pvs ts) false):=fun Y=>by
    rw[Zl,YQ,hts];rfl
   simp only[Zl] at e1;have e2:∀Y:Heap,AV.freeze deep (strA s (B.length+4) k) (B++gnX s B.length k++Y)=some ((genT s k).pv,(B++gnX s B.length k++Y).set (B.length+4) (.arr (some 4) (Tm.pvs ts) true)):=fun Y=>by
    have e:=P0
    show AV.freeze (7+1) (.agg _) _=_;simp_all[AV.freeze.go,AV.freeze]
   have e3:strA s (B.length+4) k=.agg [(none,P4 3),(none,P4 0),(none,P6 s),(none,.sl (some 4) (B.length+4) k 0 k)]:=rfl;have e4:=e2 [.box (some 4) (strA s (B.length+4) k),c];have e5:(B++gnX s B.length k++[.box (some 4) (strA s (B.length+4) k),c]).set (B.length+4) (.arr (some 4) (Tm.pvs ts) true)=B++[.box (some 4) (strA s (B.length+4) k),.arr (some 4) [] false,.box (some 4) (strA s (B.length+4) 0),.arr (some 4) [] false,.arr (some 4) (Tm.pvs ts) true,.box (some 4) (strA s (B.length+4) k),.arr (some 4) [] false]++[.box (some 4) (strA s (B.length+4) k),c]:=by
    simp_all[gnX]
   have hn2:n=B.length+7:=by grind [gnX]
   simp_all[xf]
theorem oM(H:Heap)(q n k:Nat)(es:List PV)(hk:k<n)(hn:n<=500)(he:es.length=n)(hq:H[q]? =some (.arr (some 4) es false)):
  ∃x X rv Y,YL (some 4) false true [.sl (some 4) q n 0 n,P4 (k:Int)]=some (.sl (some 4) q n 0 k)/\YL (some 4) true false [.sl (some 4) q n 0 n,P4 ((k+1:Nat):Int)]=some (.sl (some 4) q n (k+1) (n - (k+1)))/\
   z6 (some 4) H [.tsl (some 4) [],.sl (some 4) q n 0 k]=some (x,H++X)/\z6 (some 4) (H++X) [x,.sl (some 4) q n (k+1) (n - (k+1))]=some (rv,H++Y)/\rv.shp=none/\(rv.plain=true)/\
   ∃Z,AV.freeze deep rv (H++Y)=some (.sl (some 4) (es.take k++es.drop (k+1)),H++Z):=by
 have hlq:=Yz hq;have s1:YL (some 4) false true [.sl (some 4) q n 0 n,P4 (k:Int)]=some (.sl (some 4) q n 0 k):=by
  grind [YL,aslice]
 have s2:YL (some 4) true false [.sl (some 4) q n 0 n,P4 ((k+1:Nat):Int)]=some (.sl (some 4) q n (k+1) (n - (k+1))):=by
  grind [YL,aslice]
 have hl:∀m,m<=n->m<=lim:=fun m h=>by grind [lim]
 have q1:∀X:Heap,(H++X)[q]? =some (.arr (some 4) es false):=fun X=>by grind
 have e1:∀X:Heap,elems (H++X) (.sl (some 4) q n 0 k)=some (some 4,es.take k):=fun X=>by
  grind [elems]
 have e2:∀X:Heap,elems (H++X) (.sl (some 4) q n (k+1) (n - (k+1)))=some (some 4,es.drop (k+1)):=fun X=>by
  grind [Zn,elems]
 have el:(es.drop (k+1)).length=n - (k+1):=by grind
 have l1:=hl (k+(n - (k+1))) (by omega);by_cases hk0:k=0
 ·subst hk0;have ap1:z6 (some 4) H [.tsl (some 4) [],.sl (some 4) q n 0 0]=some (.tsl (some 4) [],H++[]):=by
   grind [z6,aappend]
  by_cases hd:es.drop (0+1)=[]
  ·refine⟨_,[],.tsl (some 4) [],[],s1,s2,ap1,?_,rfl,rfl,[],?_⟩
   ·grind [z6,aappend]
   ·rw[hd];rfl
  ·refine⟨_,[],.sl (some 4) H.length (n - (0+1)) 0 (n - (0+1)),[.arr (some 4) (es.drop (0+1)) false],s1,s2,ap1,?_,rfl,rfl,[.arr (some 4) (es.drop (0+1)) true],?_⟩
   ·grind [z6,aappend]
   grind [AV.freeze,deep]
 ·have ne:¬es.take k=[]:=fun e=>by
   grind [zp]
  have tl:(es.take k).length=k:=by grind
  have l2:=hl k (by omega);have ap1:z6 (some 4) H [.tsl (some 4) [],.sl (some 4) q n 0 k]=some (.sl (some 4) H.length k 0 k,H++[.arr (some 4) (es.take k) false]):=by
   have:=e1 []
   grind [z6,aappend]
  refine⟨_,_,.sl (some 4) H.length (k+(n - (k+1))) 0 (k+(n - (k+1))),[.arr (some 4) (es.take k++es.drop (k+1)) false],s1,s2,ap1,?_,rfl,rfl,[.arr (some 4) (es.take k++es.drop (k+1)) true],?_⟩
  ·grind [z6,aappend]
  grind [AV.freeze,deep]
theorem B5{L:List Int}:∀t:Tm,(∀w∈t.occ,w∈L)->∀v∈(Tm.sub (cPos L) t).occ,0<=v/\v<L.length:=by
 intro t
 induction t using Tm.zAl with
 |h t ih=>
  intro hw v hv;rw[Tm.zAt] at hv;split at hv
  ·rename_i hk;have hm:=hw t.n (by rw[Tm.zAm,Zh hk];simp);have h2:v=(L.idxOf t.n:Int):=by simpa[cPos,tvar,Tm.zAm,Tm.kind,Tm.n] using hv
   have:=List.idxOf_lt_length_of_mem hm;omega
  ·rename_i hk;rw[Tm.zAm,Zb (by exact hk)] at hv;obtain⟨u,hu,hvu⟩:=Tm.zAz hv;obtain⟨x,hx,rfl⟩:=ZI.1 (show u∈t.args.map (Tm.sub (cPos L)) from hu);exact ih x hx (fun w h=>hw w (Tm.zAD hk hx h)) v hvu
theorem oN{c:Cz}(h:okC c=true):(c.head.kind=2\/c.head.kind=3)/\(∀v∈c.head.occ,0<=v/\v<64)/\∀v∈c.body.occ,0<=v/\v<64:=by
 simp only[okC,Zk,Bool.or_eq_true,ZH] at h;obtain⟨-,hk,-,-,h5,h6,h7⟩:=h;have e1:=GU h6;have e2:=GU h7;refine⟨hk,fun v hv=> ?_,fun v hv=> ?_⟩
 ·rw[<-e1] at hv;have:=B5 c.head (fun w hw=>(qT _ [] w).2 (.inr (List.mem_append_left _ hw))) v hv;have e:(c.vars.length:Int)<=64:=by omega
  exact⟨this.1,Int.lt_of_lt_of_le this.2 e⟩
 ·rw[<-e2] at hv;have:=B5 c.body (fun w hw=>(qT _ [] w).2 (.inr (List.mem_append_right _ hw))) v hv;have e:(c.vars.length:Int)<=64:=by omega
  exact⟨this.1,Int.lt_of_lt_of_le this.2 e⟩
theorem B6{d:Int}{t:Tm}(hd:d<=1000)(h:∀v∈t.occ,0<=v/\v<64):movable d t=true:=by
 rw[movable,Zp];intro v hv;have:=h v hv;simp only[ZH];omega
theorem V5{d:Dbs}(hv:okD d=true){p:Prc}(hpm:p∈d.procs){s:Sto}(hs:s∈p.cls):s.cl.head.valid=true/\s.cl.body.valid=true/\(s.cl.head.kind=2\/s.cl.head.kind=3)/\(∀v∈s.cl.head.occ,0<=v/\v<64)/\(∀v∈s.cl.body.occ,0<=v/\v<64)/\s.cl.head.name=p.name/\(s.cl.head.args.length:Int)=p.ar:=by
 obtain⟨-,-,h3,h4,h5⟩:=ov hv hpm s hs;obtain⟨k1,k2,k3⟩:=oN h3;exact⟨(Vc h3).1,(Vc h3).2,k1,k2,k3,h4,h5⟩
theorem B7(d:Dbs)(hv:okD d=true)(p:Prc)(hpm:p∈d.procs)(k:Nat)(hk:p.ar=(k:Int))(hs:yL d p.name k=false)(H:Heap)(hb:Bq H):
  ((∀s∈p.cls,(ansC (genG p.name k) ((k:Int)+2) s).valid=true)/\∃X,S 11 [d.av,(genG p.name k).av] H=some (.ret (.tuple [d.av,.sl (some 4) (H.length+3) p.cls.length 0 p.cls.length,zg (H.length+13),P4 0]),H++X)/\X[3]? =some (.arr (some 4) (Tm.pvs (p.cls.map (ansC (genG p.name k) ((k:Int)+2)))) false)/\X[13]? =some (.arr (some 4) [] false))\/
  ((∃s∈p.cls,(ansC (genG p.name k) ((k:Int)+2) s).valid=false)/\∃X,S 11 [d.av,(genG p.name k).av] H=some (.ret (.tuple [Yk,.sl (some 4) (H.length+12) 0 0 0,zg (H.length+10),P4 2]),H++X)):=by
 obtain⟨hn1,ha0,ha8⟩:=B3 hv hpm;have k8:k<=8:=by omega
 have hgn:=V1 p.name k;have hgl:((genT p.name k).args.length:Int)=k:=by rw[jO];simp
 have hfm:=ol p.name k k8;have h:=O7 d hv (genG p.name k) (genT p.name k) (tvar k) (tvar (k+1:Nat)) (BW hn1 k8) rfl (by rcases BS p.name k with e|e <;> rw[e] <;> decide) rfl rfl p (by rw[hgn,hgl,<-hk];exact(jx hv _ _ _).2 ⟨hpm,rfl,rfl⟩) (by rw[hgn,hgl];exact hs)
  (fun s hs=>by
   obtain⟨h1,h2,-,h4,h5,-,-⟩:=V5 hv hpm hs;rw[hfm];exact⟨h1,h2,B6 (by omega) h4,B6 (by omega) h5⟩)
  (by rw[hfm];omega)
  (fun s hs hvl=>by
   obtain⟨h1,h2,h3,-,-,h6,h7⟩:=V5 hv hpm hs;rw[hfm] at hvl ⊢;exact oo hn1 k8 s h1 h2 h6 (by omega) h3 hvl) H hb
 rw[hfm] at h;exact h
theorem oO{d:Dbs}(hv:okD d=true){p:Prc}(hpm:p∈d.procs){k:Nat}(hk:p.ar=(k:Int))(hs:yL d p.name k=false)(hall:∀s∈p.cls,(ansC (genG p.name k) ((k:Int)+2) s).valid=true):Q6 d (genG p.name k) d (p.cls.map (ansC (genG p.name k) ((k:Int)+2))):=fun H hb=>by
 rcases B7 d hv p hpm k hk hs H hb with⟨-,X,h⟩|⟨⟨s,hs,e⟩,-⟩
 ·rw[List.length_map];exact⟨X,h⟩
 ·rw[hall s hs] at e;cases e
theorem oQ{d:Dbs}(hv:okD d=true){id:Int}(h:(eraR d id).2=true):Q6 d (strT derN [intT id]) (eraR d id).1 [strT derN [intT id]]:=fun H hb=>by
 rcases BR d hv _ id (V2 id) rfl H hb with⟨-,X,h⟩|⟨e,-⟩
 ·exact⟨X,h⟩
 ·rw[h] at e;cases e
theorem oR{d:Dbs}(hv:okD d=true){id:Int}(h:(eraR d id).2=false):Q6 d (strT derN [intT id]) d []:=fun H hb=>by
 rcases BR d hv _ id (V2 id) rfl H hb with⟨e,-⟩|⟨-,X,h⟩
 ·rw[h] at e;cases e
 ·exact⟨X,h⟩
theorem V6{d m:Dbs}{g:Tm}{ts:List Tm}(hc:Q6 d g m ts)(hv:∀t∈ts,t.valid=true)(hl:ts.length<1000000){vs:List AV}{H H1:Heap}(hz:zZ vs H=some ([(some 2,d.pv),(some 4,g.pv),(none,.sl (some 4) (Tm.pvs ts))],H1)):S 25 vs H=some (.ret (.tuple [m.av,P5 true]),H1):=
 yX rfl rfl rfl hz (oI d m g ts hc hv hl)
theorem fok0:FactsOk (find tab) prim []:=.nil
def v0:PV:=(.str [97,116,111,109])
def v1:PV:=(.str [99,108,97,117,115,101])
def v2:PV:=(.str [36,99,108,97,117,115,101])
def v3:PV:=(.str [97,115,115,101,114,116,122])
def v4:PV:=(.agg [(none,(.int .i64 (0))),(none,(.int .i64 (0))),(none,(.str [])),(none,(.sl (some 4) []))])
def v5:PV:=(.agg [(none,(.int .i64 (0))),(none,(.int .i64 (1))),(none,(.str [])),(none,(.sl (some 4) []))])
def v6:PV:=(.agg [(none,(.int .i64 (0))),(none,(.int .i64 (2))),(none,(.str [])),(none,(.sl (some 4) []))])
def v7:PV:=(.agg [(none,(.int .i64 (0))),(none,(.int .i64 (3))),(none,(.str [])),(none,(.sl (some 4) []))])
def v8:PV:=(.agg [(none,(.int .i64 (1))),(none,(.int .i64 (1))),(none,(.str [])),(none,(.sl (some 4) []))])
def v9:PV:=(.sl (some 4) [(.agg [(none,(.int .i64 (2))),(none,(.int .i64 (0))),(none,(.str [97])),(none,(.sl (some 4) []))])])
def v10:PV:=(.agg [(none,(.int .i64 (2))),(none,(.sl (some 4) [(.agg [(none,(.str [112])),(none,(.int .i64 (1))),(none,(.bool true)),(none,(.sl (some 9) []))])]))])
def v11:PV:=(.agg [(none,(.int .i64 (3))),(none,(.int .i64 (0))),(none,(.str [112])),(none,(.sl (some 4) [v4]))])
def v12:PV:=(.agg [(none,(.int .i64 (3))),(none,(.int .i64 (0))),(none,(.str [36,101,114,97,115,101])),(none,(.sl (some 4) [v8]))])
def v13:PV:=(.agg [(none,(.int .i64 (3))),(none,(.int .i64 (0))),(none,(.str [113])),(none,(.sl (some 4) [v4,v5]))])
def v14:PV:=(.agg [(none,(.int .i64 (2))),(none,(.sl (some 4) [(.agg [(none,(.str [112])),(none,(.int .i64 (1))),(none,(.bool true)),(none,(.sl (some 9) [(.agg [(none,(.int .i64 (1))),((some 8),(.agg [((some 4),v11),((some 4),v13)]))])]))])]))])
def v15:PV:=(.agg [(none,(.int .i64 (3))),(none,(.int .i64 (0))),(none,v3),(none,(.sl (some 4) [(.agg [(none,(.int .i64 (3))),(none,(.int .i64 (0))),(none,(.str [58,45])),(none,(.sl (some 4) [v11,v13]))])]))])
def fK1:Facts:=(18,[(none,(.str [112])),(none,(.int .i64 (1)))],(P5 false))::[]
theorem fok1:FactsOk (find tab) prim fK1:=.cons (by kernel_rfl) (XN (n:=60) fok0 (by kernel_rfl)) fok0
def fK2:Facts:=(25,[((some 2),(.agg [(none,(.int .i64 (1))),(none,(.sl (some 4) []))])),((some 4),v15),(none,(.sl (some 4) [v15]))],(.tuple [(.pv (some 2) v14),(P5 true)]))::fK1
theorem fok2:FactsOk (find tab) prim fK2:=.cons (by kernel_rfl) (XN (n:=60) fok1 (by kernel_rfl)) fok1
def fK3:Facts:=(32,[],(.tuple [(.pv (some 2) v14),(P5 true)]))::fK2
theorem fok3:FactsOk (find tab) prim fK3:=.cons (by kernel_rfl) (XN (n:=60) fok2 (by kernel_rfl)) fok2
def fK4:Facts:=(25,[((some 2),v14),((some 4),(.agg [(none,(.int .i64 (3))),(none,(.int .i64 (0))),(none,v1),(none,(.sl (some 4) [(.agg [(none,(.int .i64 (3))),(none,(.int .i64 (0))),(none,(.str [112])),(none,v9)]),v4]))])),(none,(.sl (some 4) [(.agg [(none,(.int .i64 (3))),(none,(.int .i64 (0))),(none,v1),(none,(.sl (some 4) [(.agg [(none,(.int .i64 (3))),(none,(.int .i64 (0))),(none,(.str [112])),(none,(.sl (some 4) [v5]))]),(.agg [(none,(.int .i64 (3))),(none,(.int .i64 (0))),(none,(.str [113])),(none,(.sl (some 4) [v5,v6]))])]))])]))],(.tuple [(.pv (some 2) v14),(P5 true)]))::fK3
theorem fok4:FactsOk (find tab) prim fK4:=.cons (by kernel_rfl) (XN (n:=60) fok3 (by kernel_rfl)) fok3
def fK5:Facts:=(25,[((some 2),v14),((some 4),(.agg [(none,(.int .i64 (3))),(none,(.int .i64 (0))),(none,v2),(none,(.sl (some 4) [v11,v5,v6]))])),(none,(.sl (some 4) [(.agg [(none,(.int .i64 (3))),(none,(.int .i64 (0))),(none,v2),(none,(.sl (some 4) [(.agg [(none,(.int .i64 (3))),(none,(.int .i64 (0))),(none,(.str [112])),(none,(.sl (some 4) [v7]))]),(.agg [(none,(.int .i64 (3))),(none,(.int .i64 (0))),(none,(.str [113])),(none,(.sl (some 4) [v7,(.agg [(none,(.int .i64 (0))),(none,(.int .i64 (4))),(none,(.str [])),(none,(.sl (some 4) []))])]))]),v8]))])]))],(.tuple [(.pv (some 2) v14),(P5 true)]))::fK4
theorem fok5:FactsOk (find tab) prim fK5:=.cons (by kernel_rfl) (XN (n:=60) fok4 (by kernel_rfl)) fok4
def fK6:Facts:=(25,[((some 2),v14),((some 4),v12),(none,(.sl (some 4) [v12]))],(.tuple [(.pv (some 2) v10),(P5 true)]))::fK5
theorem fok6:FactsOk (find tab) prim fK6:=.cons (by kernel_rfl) (XN (n:=60) fok5 (by kernel_rfl)) fok5
def fK7:Facts:=(25,[((some 2),v10),((some 4),v12),(none,(.sl (some 4) []))],(.tuple [(.pv (some 2) v10),(P5 true)]))::fK6
theorem fok7:FactsOk (find tab) prim fK7:=.cons (by kernel_rfl) (XN (n:=60) fok6 (by kernel_rfl)) fok6
def fK8:Facts:=(18,[(none,v0),(none,(.int .i64 (1)))],(P5 true))::fK7
theorem fok8:FactsOk (find tab) prim fK8:=.cons (by kernel_rfl) (XN (n:=60) fok7 (by kernel_rfl)) fok7
def fK9:Facts:=(33,[((some 2),v14),((some 4),(.agg [(none,(.int .i64 (3))),(none,(.int .i64 (0))),(none,v3),(none,(.sl (some 4) [(.agg [(none,(.int .i64 (3))),(none,(.int .i64 (0))),(none,v0),(none,v9)])]))])),((some 4),(.agg [(none,(.int .i64 (3))),(none,(.int .i64 (0))),(none,(.str [112,101,114,109,105,115,115,105,111,110,95,101,114,114,111,114])),(none,(.sl (some 4) [(.agg [(none,(.int .i64 (2))),(none,(.int .i64 (0))),(none,(.str [109,111,100,105,102,121])),(none,(.sl (some 4) []))]),(.agg [(none,(.int .i64 (2))),(none,(.int .i64 (0))),(none,(.str [115,116,97,116,105,99,95,112,114,111,99,101,100,117,114,101])),(none,(.sl (some 4) []))]),(.agg [(none,(.int .i64 (3))),(none,(.int .i64 (0))),(none,(.str [47])),(none,(.sl (some 4) [(.agg [(none,(.int .i64 (2))),(none,(.int .i64 (0))),(none,v0),(none,(.sl (some 4) []))]),v8]))])]))]))],(P5 true))::fK8
theorem fok9:FactsOk (find tab) prim fK9:=.cons (by kernel_rfl) (XN (n:=60) fok8 (by kernel_rfl)) fok8
def fK10:Facts:=(18,[(none,(.str [105,115])),(none,(.int .i64 (2)))],(P5 true))::fK9
theorem oS:FactsOk (find tab) prim fK10:=.cons (by kernel_rfl) (XN (n:=60) fok9 (by kernel_rfl)) fok9
theorem run9:yes (yY fK10 (find tab) prim 60 .fn 9 [] [])=true:=by kernel_rfl
theorem sem9:sem (find tab) prim .fn 9 [] []=some (.ret (P5 true),[]):=qM oS 60 _ _ _ _ _ (GL run9)
end Go.Proofs.YtgedfopkiebjkaaGreatDoor
