/- What is proved: a call's run, given what its predicate does: balls and errors are recovered. -/
import Derived.Test.YtgedfopkiebjkaaGreatDoorEre
import Derived.Test.YtgedfopkiebjkaaGreatDoorOkp
import Derived.Test.YtgedfopkiebjkaaGreatDoorUnf
set_option linter.unusedSimpArgs false
set_option linter.unusedVariables false
set_option maxRecDepth 20000
namespace Go.Proofs.YtgedfopkiebjkaaGreatDoor
open Go.Am
def houD(F:FuncId->Option AFn)(prim:FuncId->Option Ya)(rs:List RSlot)(n s:Nat)(st:St)(v:AV)(hp':Heap)(p:PV)(st2:St):Prop:=
 ∃g fs cs,st.fr.look s=some (.func (.func g) fs cs)/\∃r H,sem F prim .dfr g (.pv none p::(fs++cs)) st2.hp=some (.ret r,H)/\Yr ⟨st2.fr,H⟩ rs=some v/\(if v.refsIn.all (fun q=>decide (q<n))=true then H.take n else H)=hp'
def houK(F:FuncId->Option AFn)(prim:FuncId->Option Ya)(rs:List RSlot)(n s:Nat)(st:St)(v:AV)(hp':Heap):AExit->St->Prop
 | .normal,st2=>houD F prim rs n s st v hp' .niliface st2
 | .ret,st2=>houD F prim rs n s st v hp' .niliface st2
 | .panic w,st2=>houD F prim rs n s st v hp' w st2
 | .exit _,_=>False
def hdfK(F:FuncId->Option AFn)(prim:FuncId->Option Ya)(rs:List RSlot)(n s:Nat)(c2:ACode)(v:AV)(hp':Heap):AExit->St->Prop
 | .normal,st=>(st.fr.look s).isSome=true/\W (sem F prim) (sloop F prim) n c2 st (houK F prim rs n s st v hp')
 |_,_=>False
section
variable{F:FuncId->Option AFn} {prim:FuncId->Option Ya} {rs:List RSlot} {n s:Nat} {c2:ACode} {v:AV} {hp':Heap} {st st2:St}
theorem vr:hdfK F prim rs n s c2 v hp' .normal st=((st.fr.look s).isSome=true/\W (sem F prim) (sloop F prim) n c2 st (houK F prim rs n s st v hp')):=rfl
theorem vu:houK F prim rs n s st v hp' .ret st2=houD F prim rs n s st v hp' .niliface st2:=rfl
theorem vw{w:PV}:houK F prim rs n s st v hp' (.panic w) st2=houD F prim rs n s st v hp' w st2:=rfl
end
theorem vA{F:FuncId->Option AFn}{prim:FuncId->Option Ya}{f:FuncId}{fn:AFn}{args:List AV}{hp hp':Heap}{v:AV}{s:Nat}{c2:ACode}(hp0:prim f=none)(hf:F f=some fn)(hm:fn.heapMode=true)(hn:args.length=fn.nparams)(hmo:fn.more=[(.dfr s,c2)])
  (h:W (sem F prim) (sloop F prim) hp.length fn.code ⟨params 0 args,hp⟩ (hdfK F prim fn.results hp.length s c2 v hp'))(hr:fn.rcv=none:=by rfl):sem F prim .fn f args hp=some (.ret v,hp'):=by
 rw[X3];unfold YY;rw[hp0,hf]
 suffices hB:∃H,abody (sem F prim) (sloop F prim) fn args hp=some (.ret v,H)/\(if v.refsIn.all (fun q=>decide (q<hp.length))=true then H.take hp.length else H)=hp' by
  grind
 unfold abody;rw[Zb (by grind),hmo];simp only;unfold W at h;split at h
 ·rename_i e st1 he;cases e with
  |normal=>
   obtain⟨-,hW⟩:=h;unfold W at hW;split at hW
   ·rename_i e2 st2 he2;have fin:∀p:Option PV,houD F prim fn.results hp.length s st1 v hp' (p.getD .niliface) st2->∀e:AExit,(e=.normal\/e=.ret->p=none)->(∀w,e=.panic w->p=some w)->(∀i,e≠.exit i)->e=e2->∃H,aleave (sem F prim) fn (apieces (sem F prim) (sloop F prim) hp.length [(.dfr s,c2)] fn.code ⟨params 0 args,hp⟩ [])=some (.ret v,H)/\(if v.refsIn.all (fun q=>decide (q<hp.length))=true then H.take hp.length else H)=hp':=by
     rintro p ⟨g,fs,cs,k1,r,H,k2,k3,k4⟩ e n1 n2 n3 rfl;refine⟨H,?_,k4⟩;have k5:atop (sem F prim) (.dfr s) st1 []=some (.normal,st1,[.func (.func g) fs cs]):=by grind [atop]
     have ka:apieces (sem F prim) (sloop F prim) hp.length [(.dfr s,c2)] fn.code ⟨params 0 args,hp⟩ []=some (e,st2,[.func (.func g) fs cs]):=by
      grind [apieces]
     have ku:∀p':Option PV,p'=p->aunwind (sem F prim) [.func (.func g) fs cs] p' st2.hp=some (none,H):=by
      grind [aunwind,yn]
     rw[ka];cases e with
     |normal=>grind [aleave,aresult]
     |ret=>grind [aleave,aresult]
     |panic w=>grind [aleave,aresult]
     |exit i=>grind
    cases e2 with
    |normal=>exact fin none hW .normal (fun _=>rfl) (fun w e=>by cases e) (fun i e=>by cases e) rfl
    |ret=>exact fin none hW .ret (fun _=>rfl) (fun w e=>by cases e) (fun i e=>by cases e) rfl
    |panic w=>exact fin (some w) hW (.panic w) (fun e=>by grind) (fun w e=>by grind) (fun i e=>by cases e) rfl
    |exit i=>exact hW.elim
   grind
  |ret=>exact h.elim
  |exit i=>exact h.elim
  |panic v=>exact h.elim
 grind
theorem OX(H:Heap)(a b:AV):sem (find tab) prim .dfr 84 [.pv none .niliface,a,b] H=some (.ret (.tuple []),H):=by
 refine QQ (t:=4) rfl rfl rfl rfl ?_;have h1:∀z,yP 110 (some 4) z true [.pv none .niliface]=some (.tuple [z,P5 false]):=fun _=>rfl;have h2:∀z,yP 112 (some 1) z true [.pv none .niliface]=some (.tuple [z,P5 false]):=fun _=>rfl;simp -dsimp -implicitDefEqProofs only[go_sem,seval,h1,h2,QP];simp
theorem OY(b:Tm)(hp:Heap)(s0 v0:AV)(a1:AObj):sem (find tab) prim .dfr 84 [.pv none (XM b),.ptr hp.length 0,.ptr (hp.length+2) 0] (hp++[.box (some 4) s0,a1,.box none v0])=some (.ret (.tuple []),hp++[.box (some 4) (.pv (some 4) b.pv),a1,.box none (P4 8)]):=by
 refine QQ (t:=4) rfl rfl rfl rfl ?_;have h1:∀z,yP 110 (some 4) z true [.pv none (XM b)]=some (.tuple [.pv (some 4) b.pv,P5 true]):=fun _=>rfl;simp -dsimp -implicitDefEqProofs only[go_sem,seval,h1,QP,zF]
 grind
theorem OZ(e:Int)(hp:Heap)(s0 v0:AV)(a1:AObj):sem (find tab) prim .dfr 84 [.pv none (Qg e),.ptr hp.length 0,.ptr (hp.length+2) 0] (hp++[.box (some 4) s0,a1,.box none v0])=some (.ret (.tuple []),hp++[.box (some 4) s0,a1,.box none (P4 e)]):=by
 refine QQ (t:=4) rfl rfl rfl rfl ?_;have h1:∀z,yP 110 (some 4) z true [.pv none (Qg e)]=some (.tuple [z,P5 false]):=fun _=>rfl;have h2:∀z,yP 112 (some 1) z true [.pv none (Qg e)]=some (.tuple [.pv (some 1) (.agg [(none,.int .i64 e)]),P5 true]):=fun _=>rfl;simp -dsimp -implicitDefEqProofs only[go_sem,seval,h1,h2,QP,zF]
 grind
def x3(n:Nat):Heap:=[.box (some 4) (zg (n+1)),.arr (some 4) [] false,.box none (P4 0)]
theorem O0(f:FuncId)(hp H:Heap)(r:Nat)(hH:H.length=hp.length)(h:S f [.ptr r 0] (hp++x3 hp.length)=some (.ret (.tuple []),H++x3 hp.length)):S 40 [.ptr r 0,.pv none (.func (.func f))] hp=some (.ret (.tuple [zg (hp.length+3),P4 0]),H++[.box (some 4) (zg (hp.length+3)),.arr (some 4) [] false,.box none (P4 0),.arr (some 4) [] false]):=by
 refine vA rfl rfl rfl rfl rfl ?_;unfold x3 at h;simp only[zg] at h;have hz0:=P0;simp -dsimp -implicitDefEqProofs only[go_sem,seval,h,hz0,zF,zD (Zc _),zD (Zd _ _),vr,vu,vw,getN hH,Ye hH,setN hH,Yl hH,hH];refine⟨rfl,84,[],_,rfl,_,_,OX _ _ _,?_,?_⟩
 ·simp[Yr,yz,Yn,Fr.look,aload,getN hH,Ye hH,zg,Xf,AV.shp,total,Sh.size]
 simp_all[AV.refsIn,AV.refsIn.gol,AV.refsIn.go,zg]
theorem O1(f:FuncId)(hp:Heap)(r:Nat)(b:Tm)(h:S f [.ptr r 0] (hp++x3 hp.length)=some (.panic (XM b),hp++x3 hp.length)):S 40 [.ptr r 0,.pv none (.func (.func f))] hp=some (.ret (.tuple [b.av,P4 8]),hp):=by
 refine vA rfl rfl rfl rfl rfl ?_;have hd:=OY b hp (zg (hp.length+1)) (P4 0) (.arr (some 4) [] false);unfold x3 at h;simp only[zg] at h;have hpan:∀A:Prop,panK true A=A:=fun _=>rfl;simp -dsimp -implicitDefEqProofs only[go_sem,seval,h,hpan,zF,vr,vu,vw];refine⟨rfl,84,[],_,rfl,_,_,hd,?_,?_⟩
 ·simp[Yr,yz,Yn,Fr.look,aload,Xf,AV.shp,Tm.av,YJ,xx]
 grind [AV.refsIn,AV.refsIn.gol,Tm.av]
theorem O2(f:FuncId)(hp H:Heap)(r:Nat)(hH:H.length=hp.length)(e:Int)(h:S f [.ptr r 0] (hp++x3 hp.length)=some (.panic (Qg e),H++x3 hp.length)):S 40 [.ptr r 0,.pv none (.func (.func f))] hp=some (.ret (.tuple [zg (hp.length+1),P4 e]),H++[.box (some 4) (zg (hp.length+1)),.arr (some 4) [] false,.box none (P4 e)]):=by
 refine vA rfl rfl rfl rfl rfl ?_;have hd:=OZ e H (zg (hp.length+1)) (P4 0) (.arr (some 4) [] false);rw[hH] at hd;unfold x3 at h;simp only[zg] at h;have hpan:∀A:Prop,panK true A=A:=fun _=>rfl;simp -dsimp -implicitDefEqProofs only[go_sem,seval,h,hpan,zF,vr,vu,vw];refine⟨rfl,84,[],_,rfl,_,_,hd,?_,?_⟩
 ·simp[Yr,yz,Yn,Fr.look,aload,getN hH,Ye hH,zg,Xf,AV.shp,total,Sh.size]
 simp_all[AV.refsIn,AV.refsIn.gol,AV.refsIn.go,zg]
def Yb:AV:=.agg A1
theorem QW(d:Dbs):AObj.beq (.box (some 2) (.pv (some 2) d.pv)) (.box (some 2) (.pv (some 2) d.pv))=true:=by simp[AObj.beq,AV.beq,Dbs.pv,PV.beq,PV.beqc,V0]
theorem QX(s:Sh)(q:Nat):AObj.beq (.box s (zg q)) (.box s (zg q))=true:=by simp[AObj.beq,AV.beq,AV.beqc,zg,PV.beq]
theorem qt:AObj.beq (.box (some 2) Yb) (.box (some 2) Yb)=true:=by decide
def y9(d:Dbs)(g:Tm)(n:Nat):Heap:=[.box (some 2) (.pv (some 2) d.pv),.box (some 4) (.pv (some 4) g.pv),.box (some 2) Yb,.arr (some 4) [] false,.box (some 4) (zg (n+5)),.arr (some 4) [] false,.map none (YA 8 prS prN prF),.box (some 7) (cB d g (slA (n+8) 0)),.arr (some 4) [] false]
theorem JM{hp:Heap}{g:Tm}(a b:AObj)(Y Z:Heap):Yy (hp++a::.box (some 4) (.pv (some 4) g.pv)::Y) (hp++b::.box (some 4) (.pv (some 4) g.pv)::Z) (.ptr (hp.length+1) 0)=true:=by
 grind [Yy,AObj.beq,AV.beq,xB]
structure GK(g:Tm)(f:FuncId):Prop where
 v:g.valid=true
 c:canR g=g
 k:g.kind=3
 l:afindr [1,0] [(none,PV.str g.name),(none,.int .i64 (g.args.length:Int))] (YA 8 prS prN prF)=some (some (.func (.func f)))
theorem vB{g:Tm}{f:FuncId}(h:GK g f)(hp:Heap)(a b c d e f':AObj)(s:Sh)(Z:Heap):XA [1,0] none (.pv none .nilfunc) true (hp++a::b::c::d::e::f'::.map none (YA 8 prS prN prF)::Z) [.map (hp.length+6),.pv s (.agg [(none,.str g.name),(none,.int .i64 (g.args.length:Int))])]=some (.tuple [.pv none (.func (.func f)),P5 true]):=by
 have e1:(hp++a::b::c::d::e::f'::.map none (YA 8 prS prN prF)::Z)[hp.length+6]? =some (.map none (YA 8 prS prN prF)):=by grind
 have e2:Yd [1,0] [(none,PV.str g.name),(none,.int .i64 (g.args.length:Int))] [(none,.str g.name),(none,.int .i64 (g.args.length:Int))]=some true:=by simp[Yd]
 simp[XA,e1,e2,h.l]
section
variable(d:Dbs) (hv:okD d=true) (g:Tm) (f:FuncId) (hg:GK g f) (hp:Heap) (hb:Bq hp)
include hv hg hb
theorem O3(b:Tm)
  (hr:S 40 [.ptr (hp.length+7) 0,.pv none (.func (.func f))] (hp++y9 d g hp.length)=some (.ret (.tuple [b.av,P4 8]),hp++y9 d g hp.length)):
  ∃X,S 11 [d.av,g.av] hp=some (.ret (.tuple [Yb,.sl (some 4) (hp.length+9) 0 0 0,b.av,P4 8]),hp++X)/\X[9]? =some (.arr (some 4) [] false)/\Bq X:=by
 have hbd:=Xi hv;have hz:=valid_size hg.v;have h1:=fun hp=>Y2 d hbd.1 hbd.2.1 hbd.2.2 hp;have h2:=fun hp=>YR g hp (by omega);have h3:=fun hp=>JK g hp (by omega);have h4:=fun hp=>Qa g g hp (by omega) (by omega);have hsm:same g g=true:=by simp[same,hg.v,Tm.zAQ]
 rw[hsm] at h4;rw[hg.c] at h3;rw[hv] at h1;rw[hg.v] at h2;have hz0:=P0;have hz1:=P2;have hbk:∀(s:List UInt8) (k:Int),zQ A7 [0,1] [P6 s,P4 k]=some (.pv (some 2) (.agg [(none,.str s),(none,.int .i64 k)])):=fun _ _=>rfl;have hbr:zQ A8 [0,1] [.pv (some 2) d.pv,.pv (some 4) g.pv]=some (.agg [(some 2,.pv (some 2) d.pv),(some 4,.pv (some 4) g.pv),(none,.tsl (some 4) [])]):=rfl;have hnil:∀H:Heap,zR A3 H=(A3,H):=fun _=>rfl;have hn0:=P3;have hstn:∀(H:Heap) (v:AV),YV (some 2) hp.length H [.ptr (hp.length+2) 0,v,.ptr (hp.length+4) 0]=zH (some 2) hp.length H [.ptr (hp.length+2) 0,v]:=fun H v=>by
  grind [ZM,YV,zH,XB]
 have hk3:=Zi hg.k;have hlk:=fun a b c d e f s Z=>vB hg hp a b c d e f s Z;have hzb:=qt;have hzg:=fun q=>QX (some 4) q;simp only[Tm.av,Dbs.av,y9,cB,slA,Yb,zg] at h1 h2 h3 h4 hr hzb hzg;refine⟨[.box (some 2) (.pv (some 2) d.pv),.box (some 4) (.pv (some 4) g.pv),.box (some 2) Yb,.arr (some 4) [] false,.box (some 4) b.av,.arr (some 4) [] false,.map none (YA 8 prS prN prF),.box (some 7) (cB d g (slA (hp.length+8) 0)),.arr (some 4) [] false,.arr (some 4) [] false],?_,rfl,?_⟩
 ·refine Yj rfl rfl rfl rfl ?_;simp -dsimp -implicitDefEqProofs only[go_sem,seval,z6,Tm.av,Dbs.av,h1,h2,h3,h4,hr,zN,zJ,zL,Tm.pvs_len,hk3,hlk,j7,hz0,hz1,hbk,hbr,hnil,hn0,hstn,JA,JB,Jg rfl,JC hb,ZE,JD,JE,ZX,ZR,ZS,JM,yG,QW,hzb,hzg,Qh,xy,zF,zD (Zd _ _)];have hf:∀k,¬hp.length+k<hp.length:=fun k=>by omega
  simp[Yn,Fr.look,aload,Xf,YJ,xx,Yb,zg,cB,Tm.av,Dbs.av,hf,AV.shp,total,Sh.size,tupO,XG,valK,AV.refsIn,AV.refsIn.gol,AV.refsIn.go]
 ·refine Bq.cons (QW d) (Bq.cons (yG g) (Bq.cons qt (Bq.cons rfl (Bq.cons (yG b) (Bq.cons rfl (Bq.cons ?_ (Bq.cons (Bj d g _ _) (Bq.cons rfl (Bq.cons rfl Bq.nil)))))))))
  decide
theorem O4(e:Int)(he:¬e=0)(o7 o8:AObj)
  (hr:S 40 [.ptr (hp.length+7) 0,.pv none (.func (.func f))] (hp++y9 d g hp.length)=some (.ret (.tuple [zg (hp.length+10),P4 e]),hp++[.box (some 2) (.pv (some 2) d.pv),.box (some 4) (.pv (some 4) g.pv),.box (some 2) Yb,.arr (some 4) [] false,.box (some 4) (zg (hp.length+5)),.arr (some 4) [] false,.map none (YA 8 prS prN prF),o7,o8,.box (some 4) (zg (hp.length+10)),.arr (some 4) [] false,.box none (P4 e)])):
  ∃X,S 11 [d.av,g.av] hp=some (.ret (.tuple [Yb,.sl (some 4) (hp.length+12) 0 0 0,zg (hp.length+10),P4 e]),hp++X)/\X[12]? =some (.arr (some 4) [] false)/\X[10]? =some (.arr (some 4) [] false):=by
 have hbd:=Xi hv;have hz:=valid_size hg.v;have h1:=fun hp=>Y2 d hbd.1 hbd.2.1 hbd.2.2 hp;have h2:=fun hp=>YR g hp (by omega);have h3:=fun hp=>JK g hp (by omega);have h4:=fun hp=>Qa g g hp (by omega) (by omega);have hsm:same g g=true:=by simp[same,hg.v,Tm.zAQ]
 rw[hsm] at h4;rw[hg.c] at h3;rw[hv] at h1;rw[hg.v] at h2;have hz0:=P0;have hz1:=P2;have hbk:∀(s:List UInt8) (k:Int),zQ A7 [0,1] [P6 s,P4 k]=some (.pv (some 2) (.agg [(none,.str s),(none,.int .i64 k)])):=fun _ _=>rfl;have hbr:zQ A8 [0,1] [.pv (some 2) d.pv,.pv (some 4) g.pv]=some (.agg [(some 2,.pv (some 2) d.pv),(some 4,.pv (some 4) g.pv),(none,.tsl (some 4) [])]):=rfl;have hnil:∀H:Heap,zR A3 H=(A3,H):=fun _=>rfl;have hn0:=P3;have hstn:∀(H:Heap) (v:AV),YV (some 2) hp.length H [.ptr (hp.length+2) 0,v,.ptr (hp.length+4) 0]=zH (some 2) hp.length H [.ptr (hp.length+2) 0,v]:=fun H v=>by
  grind [ZM,YV,zH,XB]
 have hk3:=Zi hg.k;have hlk:=fun a b c d e f s Z=>vB hg hp a b c d e f s Z;have hzb:=qt;have hzg:=fun q=>QX (some 4) q;simp only[Tm.av,Dbs.av,y9,cB,slA,Yb,zg] at h1 h2 h3 h4 hr hzb hzg;refine⟨[.box (some 2) (.pv (some 2) d.pv),.box (some 4) (.pv (some 4) g.pv),.box (some 2) Yb,.arr (some 4) [] false,.box (some 4) (zg (hp.length+10)),.arr (some 4) [] false,.map none (YA 8 prS prN prF),o7,o8,.box (some 4) (zg (hp.length+10)),.arr (some 4) [] false,.box none (P4 e),.arr (some 4) [] false],?_,rfl,rfl⟩;refine Yj rfl rfl rfl rfl ?_;simp -dsimp -implicitDefEqProofs only[go_sem,seval,z6,Tm.av,Dbs.av,h1,h2,h3,h4,hr,he,zN,zJ,zL,Tm.pvs_len,hk3,hlk,j7,hz0,hz1,hbk,hbr,hnil,hn0,hstn,JA,JB,Jg rfl,JC hb,ZE,JD,JE,ZX,ZR,ZS,JM,yG,QW,hzb,hzg,Qh,xy,zF,zD (Zd _ _)];have hf:∀k,¬hp.length+k<hp.length:=fun k=>by omega
 simp[Yn,Fr.look,aload,Xf,YJ,xx,Yb,zg,cB,Tm.av,Dbs.av,hf,AV.shp,total,Sh.size,tupO,XG,valK,AV.refsIn,AV.refsIn.gol,AV.refsIn.go]
theorem BZ(d2:Dbs)(sv:AV)(ts:List Tm)(o8:List PV)(hts:∀t∈ts,t.valid=true)(htl:ts.length<1000)(hcd:∀hp,S 42 [d2.av] hp=some (.ret d2.av,hp))
  (hsl:sLen [sv]=some (P4 ts.length))(hrf:sv.refsIn.all (fun q=>decide (q<hp.length+13))=true)
  (hT:∀(i:Nat) (u:Tm),ts[i]? =some u->∃p,(∀kk,zX (some 4) [sv,.pv none (.int kk i)]=some p)/\∀(x0 x1 x2 x3 x4 x5 x6:AObj) (X:Heap),aload (some 4) (hp++x0::x1::x2::x3::x4::x5::x6::.box (some 7) (cB d2 g sv)::(.arr (some 4) o8 false)::X) p=some (.pv (some 4) u.pv))
  (hr:S 40 [.ptr (hp.length+7) 0,.pv none (.func (.func f))] (hp++y9 d g hp.length)=some (.ret (.tuple [zg (hp.length+12),P4 0]),hp++[.box (some 2) (.pv (some 2) d.pv),.box (some 4) (.pv (some 4) g.pv),.box (some 2) Yb,.arr (some 4) [] false,.box (some 4) (zg (hp.length+5)),.arr (some 4) [] false,.map none (YA 8 prS prN prF),(.box (some 7) (cB d2 g sv)),(.arr (some 4) o8 false),.box (some 4) (zg (hp.length+12)),.arr (some 4) [] false,.box none (P4 0),.arr (some 4) [] false])):
  ∃X,S 11 [d.av,g.av] hp=some (.ret (.tuple [d2.av,.sl (some 4) (hp.length+3) ts.length 0 ts.length,zg (hp.length+13),P4 0]),hp++X)/\X[3]? =some (.arr (some 4) (Tm.pvs ts) false)/\X[13]? =some (.arr (some 4) [] false):=by
 have hbd:=Xi hv;have hz:=valid_size hg.v;have h1:=fun hp=>Y2 d hbd.1 hbd.2.1 hbd.2.2 hp;have h2:=fun hp=>YR g hp (by omega);have h3:=fun hp=>JK g hp (by omega);have h4:=fun hp=>Qa g g hp (by omega) (by omega);have hsm:same g g=true:=by simp[same,hg.v,Tm.zAQ]
 rw[hsm] at h4;rw[hg.c] at h3;rw[hv] at h1;rw[hg.v] at h2;have hz0:=P0;have hz1:=P2;have hbk:∀(s:List UInt8) (k:Int),zQ A7 [0,1] [P6 s,P4 k]=some (.pv (some 2) (.agg [(none,.str s),(none,.int .i64 k)])):=fun _ _=>rfl;have hbr:zQ A8 [0,1] [.pv (some 2) d.pv,.pv (some 4) g.pv]=some (.agg [(some 2,.pv (some 2) d.pv),(some 4,.pv (some 4) g.pv),(none,.tsl (some 4) [])]):=rfl;have hnil:∀H:Heap,zR A3 H=(A3,H):=fun _=>rfl;have hn0:=P3;have hstn:∀(H:Heap) (v:AV),YV (some 2) hp.length H [.ptr (hp.length+2) 0,v,.ptr (hp.length+4) 0]=zH (some 2) hp.length H [.ptr (hp.length+2) 0,v]:=fun H v=>by
  grind [ZM,YV,zH,XB]
 have hk3:=Zi hg.k;have hlk:=fun a b c d e f s Z=>vB hg hp a b c d e f s Z;have hzb:=qt;have hzg:=fun q=>QX (some 4) q;simp only[Tm.av,Dbs.av,y9,cB,slA,Yb,zg] at h1 h2 h3 h4 hr hzb hzg;refine⟨[.box (some 2) (.pv (some 2) d.pv),.box (some 4) (.pv (some 4) g.pv),.box (some 2) d2.av,.arr (some 4) (Tm.pvs ts) false,.box (some 4) (zg (hp.length+13)),.arr (some 4) [] false,.map none (YA 8 prS prN prF),.box (some 7) (cB d2 g sv),(.arr (some 4) o8 false),.box (some 4) (zg (hp.length+12)),.arr (some 4) [] false,.box none (P4 0),.arr (some 4) [] false,.arr (some 4) [] false],?_,rfl,rfl⟩;have hp6:∀s,AV.part deep (cB d2 g s) 6 none=some s:=fun _=>rfl;simp only[Dbs.av] at hcd;refine Yj rfl rfl rfl rfl ?_;simp -dsimp -implicitDefEqProofs only[go_sem,seval,z6,Tm.av,Dbs.av,h1,h2,h3,h4,hr,hp6,hsl,zN,zJ,zL,Tm.pvs_len,hk3,hlk,j7,hz0,hz1,hbk,hbr,hnil,hn0,hstn,JA,JB,Jg rfl,JC hb,ZE,JD,JE,ZX,ZR,ZS,JM,yG,QW,hzb,hzg,Qh,xy,zF,zD (Zd _ _)];refine Yp (α:=Unit) ts.length (fun _ _=>True) (fun i _=>⟨[(4,.ptr (hp.length+2) 0),(5,.sl (some 4) (hp.length+3) i 0 i),(6,.ptr (hp.length+4) 0),(10,.ptr (hp.length+7) 0),(68,sv),(69,P4 ts.length),(70,P4 i)],hp++[.box (some 2) (.pv (some 2) d.pv),.box (some 4) (.pv (some 4) g.pv),.box (some 2) Yb,.arr (some 4) (Tm.pvs (ts.take i)) false,.box (some 4) (zg (hp.length+12)),.arr (some 4) [] false,.map none (YA 8 prS prN prF),.box (some 7) (cB d2 g sv),(.arr (some 4) o8 false),.box (some 4) (zg (hp.length+12)),.arr (some 4) [] false,.box none (P4 0),.arr (some 4) [] false]⟩) () ⟨trivial,rfl⟩ ?_ ?_
 ·rintro i - hi -;have hci:(i:Int)<(ts.length:Int):=by omega
  obtain⟨u,hu⟩:∃u,ts[i]? =some u:=⟨_,Ze hi⟩;have huv:=hts u (Zh hu);obtain⟨p,p1,p2⟩:=hT i u hu;have h5:=fun hp=>YR u hp (fit9 huv);have h6:=fun hp=>Xg u hp huv (fit9 huv);rw[huv] at h5;have w1:IntKind.i64.wrap ((i:Int)+1)=((i+1:Nat):Int):=by grind [zU]
  have htk:Tm.pvs (ts.take (i+1))=Tm.pvs (ts.take i)++[u.pv]:=by grind [Z8,Tm.zAT]
  have htl2:(Tm.pvs (ts.take i)).length=i:=by grind [Tm.pvs_len]
  have happ:∀(a b c:AObj) (Z:Heap),z8 (some 4) (hp++a::b::c::.arr (some 4) (Tm.pvs (ts.take i)) false::Z) [.sl (some 4) (hp.length+3) i 0 i,.tsl (some 4) [u.pv]]=some (.sl (some 4) (hp.length+3) (i+1) 0 (i+1),hp++a::b::c::.arr (some 4) (Tm.pvs (ts.take (i+1))) false::Z):=fun a b c Z=>by
   have g1:(hp++a::b::c::.arr (some 4) (Tm.pvs (ts.take i)) false::Z)[hp.length+3]? =some (.arr (some 4) (Tm.pvs (ts.take i)) false):=by grind
   have hl:i+1<=lim:=by grind [lim]
   simp_all[z8,aappend,elems]
  simp only[Tm.av] at h5 h6;simp -dsimp -implicitDefEqProofs only[go_sem,seval,hci,p1,p2,h5,h6,happ,w1,zF,zD (Zd _ _)];refine⟨(),?_⟩;have hrf':∀x∈sv.refsIn,x<hp.length+13:=by grind
  rw[ym 13 rfl rfl (by simp_all[AObj.refs,AV.refsIn,AV.refsIn.go,cB,zg,Yb]) (by grind [AV.refsIn])];rfl
 ·rintro - -;have hci:¬(ts.length:Int)<(ts.length:Int):=by omega
  simp -dsimp -implicitDefEqProofs only[go_sem,seval,z6,hci,hcd,hz0,yF,ZW,zF,zD (Zd _ _)];have hf:∀k,¬hp.length+k<hp.length:=fun k=>by omega
  simp[Yn,Fr.look,aload,Xf,YJ,xx,Yb,zg,cB,Tm.av,Dbs.av,hf,AV.shp,total,Sh.size,tupO,XG,valK,AV.refsIn,AV.refsIn.gol,AV.refsIn.go]
end
def pK(p:Prc)(q m:Nat):AV:=.agg [(none,P6 p.name),(none,P4 p.ar),(none,P5 p.dyn),(none,.sl (some 9) q m 0 m)]
theorem O5{Γ:Oracle}{b:Nat}{vs:List AV}{hp:Heap}{K:AV->Heap->Prop}{Kp:PV->Heap->Prop}(sh:Sh):opK (aOp Γ b (.bslov sh) vs hp) K Kp=YD (Y9 sh hp vs) K:=by
 show opK (match Y9 sh hp vs with|some (v,hp')=>some (OpRes.val v hp')|none=>none) K Kp=_;cases Y9 sh hp vs with
 |none=>rfl
 |some r=>cases r;rfl
theorem O6{Γ:Oracle}{b:Nat}{vs:List AV}{hp:Heap}{K:AV->Heap->Prop}{Kp:PV->Heap->Prop}(sh:Sh):opK (aOp Γ b (.appendv sh) vs hp) K Kp=YD (yx sh b hp vs) K:=by
 show opK (match yx sh b hp vs with|some (v,hp')=>some (OpRes.val v hp')|none=>none) K Kp=_;cases yx sh b hp vs with
 |none=>rfl
 |some r=>cases r;rfl
def frC(d:Dbs)(i:Nat):Fr:=[(2,.ptr 1 0),(3,.ptr 2 0),(13,.pv none (.sl (some 4) (Prc.pvs d.procs))),(14,P4 d.procs.length),(15,P4 i)]
def o4(p:Prc)(n:Nat):Heap:=[.box (some 4) (pK p (n+2) p.cls.length),.arr (some 9) [] false,.arr (some 9) (Sto.pvs p.cls) false,.arv (some 4) [pK p (n+2) p.cls.length]]
theorem O7{K Y X:Heap}{n m:Nat}{fr:Fr}(hK:K.length=n)(hY:Y.length=m)(h1:(K++Y).all (fun o=>o.refs.all (fun q=>decide (q<n+m)))=true)(hf:fr.all (fun x=>x.2.refsIn.all (fun q=>decide (q<n+m)))=true):collect (n+m) 0 fr (K++(Y++X))=K++Y:=by
 have ht:(K++(Y++X)).take (n+m)=K++Y:=by grind
 have:=ym (n:=n+m) (b:=0) (n+m) (fr:=fr) (base:=[]) (xs:=K++(Y++X)) rfl (by omega) (by grind) hf
 grind
theorem B0(d:Dbs)(hl:d.procs.length<1000000)(i:Nat)(hi:i<d.procs.length)(p:Prc)(hpp:d.procs[i]? =some p)(hpl:p.cls.length<1000000)(hc:okCl p)(K:Heap)(n:Nat)(hKl:K.length=n)(h3n:3<=n)(hK:K.all (fun o=>o.refs.all (fun q=>decide (q<n)))=true)(sv sv':AV)(hsp:sv'.plain=true)(hss:sv'.shp=none)(hso:∀H,sv'.own H=(sv',H))(K1 W1:Heap)(hK1:K1.length=n)
  (h2:K[2]? =some (.box (some 2) (.agg [(none,P4 d.next),(none,sv)])))(h21:K1[2]? =some (.box (some 2) (.agg [(none,P4 d.next),(none,sv)])))
  (hap:yx (some 4) 0 (K++o4 p n) [sv,.slv (some 4) (n+3) 1 0 1]=some (sv',K1++(o4 p n++W1)))(hup:AV.upd deep (.agg [(none,P4 d.next),(none,sv)]) 1 none sv'=some (.agg [(none,P4 d.next),(none,sv')]))
  (R:St->Prop)(Q:AExit->St->Prop)(hR:R ⟨[(2,.ptr 1 0),(3,.ptr 2 0),(13,.pv none (.sl (some 4) (Prc.pvs d.procs))),(14,P4 d.procs.length),(15,P4 (i+1:Nat))],K1.set 2 (.box (some 2) (.agg [(none,P4 d.next),(none,sv')]))++(o4 p n++W1)⟩):
  W (sem (find tab) prim) (sloop (find tab) prim) 0 c42b20 ⟨frC d i,K⟩ (seqK R Q):=by
 have hcc:(i:Int)<(d.procs.length:Int):=by omega
 have w1:IntKind.i64.wrap ((i:Int)+1)=((i+1:Nat):Int):=by grind [zU]
 have hst7:∀a1:AObj,zH none 0 (K++[.box (some 4) (.pv (some 4) p.pv),a1]) [.ptr n 3,.tsl (some 9) []]=some (.undef,K++[.box (some 4) (pK p (n+2) 0),a1,.arr (some 9) [] false]):=fun a1=>by
  have e:AV.upd deep (.pv (some 4) p.pv) 3 none (.sl (some 9) (n+2) 0 0 0)=some (pK p (n+2) 0):=rfl;simp_all[zH,astore,AV.plain,AV.shp,AV.own,X5]
 have hpt:∀q m:Nat,AV.part deep (pK p q m) 3 none=some (.sl (some 9) q m 0 m):=fun _ _=>rfl;have hpt1:AV.part deep (.agg [(none,P4 d.next),(none,sv)]) 1 none=some sv:=rfl;have hst17:∀Z:Heap,zH none 0 (K1++Z) [.ptr 2 1,sv']=some (.undef,K1.set 2 (.box (some 2) (.agg [(none,P4 d.next),(none,sv')]))++Z):=fun Z=>by
  grind [zH,astore]
 have hK3:∀(m:Nat) (es:List PV),(K++([.box (some 4) (pK p (n+2) m),.arr (some 9) [] false,.arr (some 9) es false]:Heap)).all (fun o=>o.refs.all (fun q=>decide (q<n+3)))=true:=fun m es=>by
  rw[List.all_append,Zk];refine⟨Zr.2 fun o ho=>Zr.2 fun q hq=> ?_,by simp[AObj.refs,pK,AV.refsIn,AV.refsIn.go]⟩
  grind
 unfold frC;simp -dsimp -implicitDefEqProofs only[go_sem,seval,hcc,w1,YC,Prc.pvs_len,yM,Sto.pvs_len,zT (Prc.pvs_get hpp),hst7,hKl,zF,getN hKl,Ye hKl,setN hKl,Yl hKl];refine Yp (α:=Unit) p.cls.length (fun _ _=>True) (fun k _=>⟨[(2,.ptr 1 0),(3,.ptr 2 0),(5,.ptr n 0),(13,.pv none (.sl (some 4) (Prc.pvs d.procs))),(14,P4 d.procs.length),(15,P4 i),(22,.pv none (.sl (some 9) (Sto.pvs p.cls))),(23,P4 p.cls.length),(24,P4 k)],K++[.box (some 4) (pK p (n+2) k),.arr (some 9) [] false,.arr (some 9) (Sto.pvs (p.cls.take k)) false]⟩) () ⟨trivial,rfl⟩ ?_ ?_
 ·rintro k - hk -;have hck:(k:Int)<(p.cls.length:Int):=by omega
  have w2:IntKind.i64.wrap ((k:Int)+1)=((k+1:Nat):Int):=by grind [zU]
  obtain⟨x,hx⟩:∃x,p.cls[k]? =some x:=⟨_,Ze hk⟩;obtain⟨vh,vb⟩:=hc x (Zh hx);have h5:=Xg x.cl.head [] vh (fit9 vh);have h6:=Xg x.cl.body [] vb (fit9 vb);have q0:PV.part deep x.pv 0 none=some (.int .i64 x.id):=rfl;have q1:PV.part deep x.pv 1 (some 4)=some x.cl.head.pv:=rfl;have q5:PV.part deep x.pv 5 (some 4)=some x.cl.body.pv:=rfl;have hb40:∀a b:PV,zQ [(some 4,.agg A0),(some 4,.agg A0)] [0,1] [.pv (some 4) a,.pv (some 4) b]=some (.pv (some 8) (.agg [(some 4,a),(some 4,b)])):=fun _ _=>rfl;have hb41:zQ A4 [0,1] [P4 x.id,.pv (some 8) (.agg [(some 4,x.cl.head.pv),(some 4,x.cl.body.pv)])]=some (.pv (some 9) x.pv):=rfl;have hlim:k+1<=lim:=by grind [lim]
  have htl:(Sto.pvs (p.cls.take k)).length=k:=by grind [Sto.pvs_len]
  have htk:Sto.pvs (p.cls.take k)++[x.pv]=Sto.pvs (p.cls.take (k+1)):=by grind [Z8,Sto.pvs]
  have happ:∀(a b:AObj) (Z:Heap),z8 (some 9) (K++a::b::.arr (some 9) (Sto.pvs (p.cls.take k)) false::Z) [.sl (some 9) (n+2) k 0 k,.tsl (some 9) [x.pv]]=some (.sl (some 9) (n+2) (k+1) 0 (k+1),K++a::b::.arr (some 9) (Sto.pvs (p.cls.take (k+1))) false::Z):=fun a b Z=>by
   simp_all[z8,aappend,elems]
  have hst12:∀Z:Heap,zH none 0 (K++.box (some 4) (pK p (n+2) k)::Z) [.ptr n 3,.sl (some 9) (n+2) (k+1) 0 (k+1)]=some (.undef,K++.box (some 4) (pK p (n+2) (k+1))::Z):=fun Z=>by
   have e:AV.upd deep (pK p (n+2) k) 3 none (.sl (some 9) (n+2) (k+1) 0 (k+1))=some (pK p (n+2) (k+1)):=rfl
   grind [zH,astore,Ye,AV.plain,AV.shp,AV.own]
  generalize Sto.pvs (p.cls.take k)=es at*;simp only[Tm.av] at h5 h6;simp -dsimp -implicitDefEqProofs only[go_sem,seval,hck,w2,Sto.pvs_len,zT (Sto.pvs_get hx),hpt,q0,q1,q5,h5,h6,hb40,hb41,happ,hst12,hKl,zF,getN hKl,Ye hKl,setN hKl,Yl hKl];refine⟨(),?_⟩;have hcl:=O7 (fr:=[(2,.ptr 1 0),(3,.ptr 2 0),(5,.ptr n 0),(13,.pv none (.sl (some 4) (Prc.pvs d.procs))),(14,P4 d.procs.length),(15,P4 i),(22,.pv none (.sl (some 9) (Sto.pvs p.cls))),(23,P4 p.cls.length),(24,P4 (k+1:Nat))]) (K:=K) (Y:=[.box (some 4) (pK p (n+2) (k+1)),.arr (some 9) [] false,.arr (some 9) (Sto.pvs (p.cls.take (k+1))) false]) (X:=[.box (some 9) (.pv (some 9) x.pv)]) hKl (m:=3) rfl (hK3 (k+1) _) (by simp[AV.refsIn])
  grind
 ·rintro - -;have hck:¬(p.cls.length:Int)<(p.cls.length:Int):=by omega
  rw[ZW];have hbs:Y9 (some 4) (K++[.box (some 4) (pK p (n+2) p.cls.length),.arr (some 9) [] false,.arr (some 9) (Sto.pvs p.cls) false]) [pK p (n+2) p.cls.length]=some (.slv (some 4) (n+3) 1 0 1,K++o4 p n):=by
   have e1:(pK p (n+2) p.cls.length).plain=true:=rfl;have e2:(pK p (n+2) p.cls.length).shp=some 4:=rfl;simp_all[Y9,X5,o4]
  have e2:∀Z:Heap,(K++Z)[2]? =some (.box (some 2) (.agg [(none,P4 d.next),(none,sv)])):=fun Z=>by grind
  simp -dsimp -implicitDefEqProofs only[go_sem,seval,hck,w1,Sto.pvs_len,hpt1,e2,hbs,hap,hst17,O5,O6,hKl,getN hKl,Ye hKl];exact hR
theorem gol_mem{q:Nat}:∀{l:List AV},q∈AV.refsIn.gol l↔∃v∈l,q∈v.refsIn
 |[]=>by simp[AV.refsIn.gol]
 |x::r=>by
  have ih:=gol_mem (q:=q) (l:=r)
  grind [AV.refsIn.gol]
def CdI(d:Dbs)(i:Nat)(H:Heap):Prop:=(i=0/\H=[.box (some 2) (.pv (some 2) d.pv),.box (some 2) Yb,.box (some 2) (.agg [(none,P4 d.next),(none,.nilv (some 4))])])\/
 (0<i/\8<=H.length/\H.all (fun o=>o.refs.all (fun q=>decide (q<H.length)))=true/\H[0]? =some (.box (some 2) (.pv (some 2) d.pv))/\H[1]? =some (.box (some 2) Yb)/\H[2]? =some (.box (some 2) (.agg [(none,P4 d.next),(none,.slv (some 4) 7 i 0 i)]))/\
  ∃els,H[7]? =some (.arv (some 4) els)/\els.length=i/\∀(j:Nat) (p:Prc) (v:AV),(d.procs.take i)[j]? =some p->els[j]? =some v->∃q,v=pA p q/\H[q]? =some (.arr (some 9) (Sto.pvs p.cls) false))
theorem O8(d:Dbs)(hl:d.procs.length<1000000)(hcl:∀p∈d.procs,p.cls.length<1000000/\okCl p)(hp:Heap):S 42 [d.av] hp=some (.ret d.av,hp):=by
 refine zM rfl rfl rfl (zK [(some 2,d.pv)]) rfl ?_;have hnil:∀H:Heap,zR A3 H=(A3,H):=fun _=>rfl;have hb11:∀k:Int,zQ A1 [0] [P4 k]=some (.agg [(none,P4 k),(none,.nilv (some 4))]):=fun _=>rfl;simp -dsimp -implicitDefEqProofs only[go_sem,seval,Dbs.av,YB,YC,Prc.pvs_len,hnil,hb11,zF,zD (Za _)];refine Yp (α:=Heap) d.procs.length (fun i H=>CdI d i H) (fun i H=>⟨frC d i,H⟩) [.box (some 2) (.pv (some 2) d.pv),.box (some 2) Yb,.box (some 2) (.agg [(none,P4 d.next),(none,.nilv (some 4))])] ⟨.inl ⟨rfl,rfl⟩,rfl⟩ ?_ ?_
 ·rintro i H hi hI;obtain⟨p,hpp⟩:∃p,d.procs[i]? =some p:=⟨_,Ze hi⟩;obtain⟨hpl,hc⟩:=hcl p (Zh hpp);have htk:d.procs.take (i+1)=d.procs.take i++[p]:=by grind [Z8]
  rcases hI with⟨rfl,rfl⟩|⟨h0,h8,hrf,g0,g1,g2,els,g7,hel,hels⟩
  ·have hap:yx (some 4) 0 ([.box (some 2) (.pv (some 2) d.pv),.box (some 2) Yb,.box (some 2) (.agg [(none,P4 d.next),(none,.nilv (some 4))])]++o4 p 3) [.nilv (some 4),.slv (some 4) (3+3) 1 0 1]=some (.slv (some 4) 7 1 0 1,[.box (some 2) (.pv (some 2) d.pv),.box (some 2) Yb,.box (some 2) (.agg [(none,P4 d.next),(none,.nilv (some 4))])]++(o4 p 3++[.arv (some 4) [pK p 5 p.cls.length]])):=by
    simp_all[lim,yx,aappendv,elemsv,o4,X5]
   refine B0 d hl 0 hi p hpp hpl hc _ 3 rfl (by omega) (by simp[AObj.refs,AV.refsIn,AV.refsIn.go,Yb]) (.nilv (some 4)) (.slv (some 4) 7 1 0 1) rfl rfl (fun _=>rfl) _ _ rfl rfl rfl hap rfl _ _ ?_;have hk:∀fr:Fr,collect 3 0 fr [.box (some 2) (.pv (some 2) d.pv),.box (some 2) Yb,.box (some 2) (.agg [(none,P4 d.next),(none,.slv (some 4) 7 1 0 1)]),.box (some 4) (pK p (3+2) p.cls.length),.arr (some 9) [] false,.arr (some 9) (Sto.pvs p.cls) false,.arv (some 4) [pK p (3+2) p.cls.length],.arv (some 4) [pK p 5 p.cls.length]]=[.box (some 2) (.pv (some 2) d.pv),.box (some 2) Yb,.box (some 2) (.agg [(none,P4 d.next),(none,.slv (some 4) 7 1 0 1)]),.box (some 4) (pK p (3+2) p.cls.length),.arr (some 9) [] false,.arr (some 9) (Sto.pvs p.cls) false,.arv (some 4) [pK p (3+2) p.cls.length],.arv (some 4) [pK p 5 p.cls.length]]:=fun fr=>VK (k:=2) (by omega) (by omega) rfl rfl;refine⟨_,.inr ⟨by omega,?_,?_,?_,?_,?_,[pK p 5 p.cls.length],?_,rfl,?_⟩,congrArg (St.mk (frC d 1)) (hk _)⟩
   ·simp
   ·simp[AObj.refs,AV.refsIn,AV.refsIn.go,AV.refsIn.gol,Yb,pK]
   ·rfl
   ·rfl
   ·rfl
   ·rfl
   ·intro j p' v hp' hv
    match j,hv with
    |0,hv=>
     rw[htk] at hp';simp at hp' hv;subst hp' hv;exact⟨5,rfl,rfl⟩
  ·have h7:7<H.length:=by omega
   obtain⟨n,hn⟩:∃n,H.length=n:=⟨_,rfl⟩;rw[hn] at hrf h7 h8;have hgol:∀q∈AV.refsIn.gol els,q<n:=fun q hq=>by
    have:=Zr.1 (Zr.1 hrf _ (Zh g7)) q hq
    grind
   have hlim:i+1<=lim:=by grind [lim]
   have e1:(H++o4 p n)[n+3]? =some (.arv (some 4) [pK p (n+2) p.cls.length]):=by rw[getN hn];rfl
   have e2:(H++o4 p n)[7]? =some (.arv (some 4) els):=by grind
   have hap:yx (some 4) 0 (H++o4 p n) [.slv (some 4) 7 i 0 i,.slv (some 4) (n+3) 1 0 1]=some (.slv (some 4) 7 (i+1) 0 (i+1),H.set 7 (.arv (some 4) (els++[pK p (n+2) p.cls.length]))++(o4 p n++[])):=by
    have e3:(H++o4 p n).set 7 (.arv (some 4) (els++[pK p (n+2) p.cls.length]))=H.set 7 (.arv (some 4) (els++[pK p (n+2) p.cls.length]))++o4 p n:=List.set_append_left _ _ (by omega)
    grind [yx,aappendv,elemsv,X5,Xz]
   have g21:(H.set 7 (.arv (some 4) (els++[pK p (n+2) p.cls.length])))[2]? =some (.box (some 2) (.agg [(none,P4 d.next),(none,.slv (some 4) 7 i 0 i)])):=by grind
   refine B0 d hl i hi p hpp hpl hc H n hn (by omega) hrf (.slv (some 4) 7 i 0 i) (.slv (some 4) 7 (i+1) 0 (i+1)) rfl rfl (fun _=>rfl) _ _ (by grind) g2 g21 hap rfl _ _ ?_;obtain⟨H',hH'⟩:∃H',H'=(H.set 7 (.arv (some 4) (els++[pK p (n+2) p.cls.length]))).set 2 (.box (some 2) (.agg [(none,P4 d.next),(none,.slv (some 4) 7 (i+1) 0 (i+1))]))++(o4 p n++[]):=⟨_,rfl⟩;rw[<-hH'];have hl':H'.length=n+4:=by
    grind [o4]
   have hg:∀k,k<n->k≠2->k≠7->H'[k]? =H[k]? :=fun k hk h2 h7=>by
    grind
   have hg2:H'[2]? =some (.box (some 2) (.agg [(none,P4 d.next),(none,.slv (some 4) 7 (i+1) 0 (i+1))])):=by
    grind
   have hg7:H'[7]? =some (.arv (some 4) (els++[pK p (n+2) p.cls.length])):=by
    grind
   have hgn:H'[n+2]? =some (.arr (some 9) (Sto.pvs p.cls) false):=by
    rw[hH',getN (by grind)];rfl
   have hpr:∀q,q∈(pK p (n+2) p.cls.length).refsIn->q=n+2:=fun q hq=>by grind [pK,AV.refsIn,AV.refsIn.go]
   have hk:∀fr:Fr,collect 3 0 fr H'=H':=fun fr=>VK (k:=2) (by omega) (by omega) hg2 rfl;refine⟨H',.inr ⟨by omega,by omega,?_,?_,?_,hg2,_,hg7,by grind,?_⟩,?_⟩
   ·rw[Zr];intro o ho;rw[Zr];intro q hq;rw[hl'];simp only[ZN];obtain⟨k,hk2⟩:=ZO.1 ho;have hkl:=YZ hk2;by_cases c2:k=2
    ·grind [AObj.refs,AV.refsIn,AV.refsIn.go]
    ·by_cases c7:k=7
     ·subst c7;rw[hg7] at hk2;cases hk2;obtain⟨v,hv,hq2⟩:=gol_mem.1 (show q∈AV.refsIn.gol _ from hq);rcases Z6.1 hv with hv|hv
      ·have:=hgol q (gol_mem.2 ⟨v,hv,hq2⟩);omega
      grind
     ·by_cases ck:k<n
      ·grind
      ·obtain⟨m,rfl⟩:∃m,k=n+m:=⟨k - n,by omega⟩;rw[hH',getN (by grind),ZL] at hk2;have hm:=Zh hk2;simp only[o4,Zy,List.not_mem_nil,or_false] at hm;rcases hm with rfl|rfl|rfl|rfl
       ·have:=hpr q hq;omega
       ·cases hq
       ·cases hq
       ·obtain⟨v,hv,hq2⟩:=gol_mem.1 (show q∈AV.refsIn.gol _ from hq)
        grind
   ·grind
   ·grind
   ·intro j p' v hp' hv;rw[htk] at hp';have htl:(d.procs.take i).length=i:=by grind
    by_cases hj:j<i
    ·grind
    ·rw[ZD (by omega)] at hp' hv;rw[htl] at hp';rw[hel] at hv
     match e:j - i,hp',hv with
     |0,hp',hv=>
      simp at hp' hv;subst hp' hv;exact⟨n+2,rfl,hgn⟩
   ·exact congrArg (St.mk (frC d (i+1))) (hk _)
 ·rintro H hI;have hcc:¬(d.procs.length:Int)<(d.procs.length:Int):=by omega
  rcases hI with⟨h0,rfl⟩|⟨h0,h8,hrf,g0,g1,g2,els,g7,hel,hels⟩
  ·have hd:d.procs=[]:=Z2 h0;have hfz:∀H:Heap,Am.frozen d.av (.agg [(none,P4 d.next),(none,.nilv (some 4))]) H:=fun H=>by
    obtain⟨nx,ps⟩:=d;have hd:ps=[]:=hd;subst hd;exact⟨_,rfl⟩
   unfold frC;simp -dsimp -implicitDefEqProofs only[go_sem,seval,hcc,hnil,zF,zD (Za _)]
   grind
  ·have hw:zH (some 2) 0 H [.ptr 1 0,.agg [(none,P4 d.next),(none,.slv (some 4) 7 d.procs.length 0 d.procs.length)]]=some (.undef,H.set 1 (.box (some 2) (.agg [(none,P4 d.next),(none,.slv (some 4) 7 d.procs.length 0 d.procs.length)]))):=by
    simp[zH,astore,g1,AV.plain,AV.shp,AV.own,total,Sh.size,zR,YI]
   unfold frC;simp -dsimp -implicitDefEqProofs only[go_sem,seval,hcc,g2,hw];obtain⟨v,hv⟩:∃v:AV,v=.agg [(none,P4 d.next),(none,.slv (some 4) 7 d.procs.length 0 d.procs.length)]:=⟨_,rfl⟩;rw[<-hv];have e1:(H.set 1 (.box (some 2) v))[1]? =some (.box (some 2) v):=ZC (by omega);have htake:∀l:List Sto,(Sto.pvs l).take l.length=Sto.pvs l:=fun l=>Zl (by grind [Sto.pvs_len]);have hD:DbA d v (H.set 1 (.box (some 2) v)):=by
    refine⟨7,d.procs.length,els,d.procs,hv,by grind,hel,Zc _,rfl,by simp,fun j p w hp hw=> ?_⟩;obtain⟨q,rfl,hq⟩:=hels j p w (by grind) hw;have hq1:(H.set 1 (.box (some 2) v))[q]? =some (.arr (some 9) (Sto.pvs p.cls) false):=by
     grind
    exact .inr ⟨_,rfl,.inr ⟨q,p.cls.length,Sto.pvs p.cls,false,rfl,hq1,Sto.pvs_len _,Zc _,htake _⟩⟩
   have hsh:v.shp=some 2:=by rw[hv];rfl
   rw[e1];show Am.frozen d.av v _;obtain⟨H',hz⟩:=hD.frz;refine⟨H',?_⟩;have hnt:∀H:Heap,v.freezeRes H=match AV.freeze deep v H with|some (p,hp')=>some (.pv v.shp p,hp')|none=>none:=by rw[hv];exact fun _=>rfl
   rw[hnt,hz,hsh];rfl
theorem y9_r(d:Dbs)(g:Tm)(hp X:Heap):(hp++y9 d g hp.length++X)[hp.length+7]? =some (.box (some 7) (cB d g (slA (hp.length+8) 0))):=by rw[Zo,YJ];rfl
theorem y9_q(d:Dbs)(g:Tm)(hp X:Heap):(hp++y9 d g hp.length++X)[hp.length+8]? =some (.arr (some 4) [] false):=by rw[Zo,YJ];rfl
theorem B1{d:Dbs}(hv:okD d=true)(hp:Heap):S 42 [d.av] hp=some (.ret d.av,hp):=by
 have hl5:d.procs.length<=500/\totD d.procs<=500:=by
  grind [okD]
 exact O8 d (by omega) (fun q hq=>⟨by have:=y5 hq;omega,xc hv q hq⟩) hp
theorem O9(d:Dbs)(hb:BndD d)(c:Cz)(z1:c.head.size<100000000)(z2:c.body.size<100000000)(fr dy:Bool)(h:okD d=false\/okC c=false)(hp:Heap):S 111 [d.av,c.av,P5 fr,P5 dy] hp=some (.ret (.tuple [Y7.av,P4 1]),hp):=by
 refine zM rfl rfl rfl (zK [(some 2,d.pv),(some 8,c.pv),(none,.bool fr),(none,.bool dy)]) rfl ?_;have h1:=fun hp=>Y2 d hb.1 hb.2.1 hb.2.2 hp;have h2:=fun hp=>Qc c z1 z2 hp;have hz0:=P2;have hnil:∀H:Heap,zR A3 H=(A3,H):=fun _=>rfl;simp only[Dbs.av] at h1;simp only[Cz.av] at h2;cases hv:okD d with
 |false=>
  rw[hv] at h1;simp -dsimp -implicitDefEqProofs only[go_sem,seval,Dbs.av,Cz.av,h1,hz0,hnil,zD (Za _)];exact⟨_,rfl⟩
 |true=>
  have hn:okC c=false:=by
   grind
  rw[hv] at h1;rw[hn] at h2;simp -dsimp -implicitDefEqProofs only[go_sem,seval,Dbs.av,Cz.av,h1,h2,hz0,hnil,zD (Za _)];exact⟨_,rfl⟩
theorem oc(d:Dbs)(hb:BndD d)(c:Cz)(z1:c.head.size<100000000)(z2:c.body.size<100000000)(fr dy:Bool)(hv:okD d=true)(hn:okC c=true)(h:totD d.procs=500)(hp:Heap):S 111 [d.av,c.av,P5 fr,P5 dy] hp=some (.ret (.tuple [Y7.av,P4 13]),hp):=by
 refine zM rfl rfl rfl (zK [(some 2,d.pv),(some 8,c.pv),(none,.bool fr),(none,.bool dy)]) rfl ?_;have h1:=fun hp=>Y2 d hb.1 hb.2.1 hb.2.2 hp;have h2:=fun hp=>Qc c z1 z2 hp;have h3:∀(s:List UInt8) (a:Int) hp,S 56 [d.av,P6 s,P4 a] hp=some (.ret (.tuple [P4 (lbD d.procs (keyP s a):Int),P5 (fnD d.procs (keyP s a))]),hp):=fun s a hp=>XK d s a hb.1 (XL hv) hp;have hl5:d.procs.length<=500/\totD d.procs<=500:=by
  grind [okD]
 have h4:=fun hp=>qk d (by omega) (by omega) hp;have hz0:=P2;have hnil:∀H:Heap,zR A3 H=(A3,H):=fun _=>rfl;simp only[Dbs.av] at h1 h3 h4;simp only[Cz.av] at h2;rw[hv] at h1;rw[hn] at h2;rw[h] at h4;obtain⟨⟨hk,hi,hna,has⟩,bd⟩:=c;have hpn:PV.part deep (Cz.pv ⟨⟨hk,hi,hna,has⟩,bd⟩) 2 none=some (.str hna):=rfl;have hpa:PV.part deep (Cz.pv ⟨⟨hk,hi,hna,has⟩,bd⟩) 3 none=some (.sl (some 4) (Tm.pvs has)):=rfl;simp -dsimp -implicitDefEqProofs only[hpn,hpa,Tm.pvs_len,g111,c111r0,c111r1,c111r2,c111k3,c111r4,c111r5,c111r6,c111k7,c111r8,c111r9,c111r10,c111k11,c111r12,c111r13,c111r14,c111r15,c111k16,c111r17,c111r18,c111r19,c111,go_sem,seval,Dbs.av,Cz.av,h1,h2,h3,h4,hz0,hnil,zD (Za _)];exact⟨_,rfl⟩
theorem od(H:Heap)(q:Nat)(es:List PV)(k n:Nat)(v:PV)(hk:k<=n)(he:es.length=n)(hn:n<=500)(hg:H[q]? =some (.arr (some 9) es false)):S 134 [.sl (some 9) q n 0 n,P4 (k:Int),.tsl (some 9) [v]] H=some (.ret (.sl (some 9) q (n+1) 0 (n+1)),H.set q (.arr (some 9) (es.take k++v::es.drop k) false)):=by
 rw[S,x9 (F:=find tab) (prim:=prim) (p:=yK (some 9)) rfl]
 grind [lim,Zl,yK,z8,aappend,elems]
theorem oe(H:Heap)(v:PV):S 134 [.tsl (some 9) [],P4 0,.tsl (some 9) [v]] H=some (.ret (.sl (some 9) H.length 1 0 1),H++[.arr (some 9) [v] false]):=by
 rw[S,x9 (F:=find tab) (prim:=prim) (p:=yK (some 9)) rfl]
 grind [lim,yK,z8,aappend,elems]
theorem og(d:Dbs)(hb:BndD d)(c:Cz)(z1:c.head.size<100000000)(z2:c.body.size<100000000)(fr dy:Bool)(hv:okD d=true)(hn:okC c=true)(ht:totD d.procs≠500)(h:d.next=4294967296)(hp:Heap):S 111 [d.av,c.av,P5 fr,P5 dy] hp=some (.ret (.tuple [Y7.av,P4 13]),hp):=by
 refine zM rfl rfl rfl (zK [(some 2,d.pv),(some 8,c.pv),(none,.bool fr),(none,.bool dy)]) rfl ?_;have h1:=fun hp=>Y2 d hb.1 hb.2.1 hb.2.2 hp;have h2:=fun hp=>Qc c z1 z2 hp;have h3:∀(s:List UInt8) (a:Int) hp,S 56 [d.av,P6 s,P4 a] hp=some (.ret (.tuple [P4 (lbD d.procs (keyP s a):Int),P5 (fnD d.procs (keyP s a))]),hp):=fun s a hp=>XK d s a hb.1 (XL hv) hp;have hl5:d.procs.length<=500/\totD d.procs<=500:=by
  grind [okD]
 have h4:=fun hp=>qk d (by omega) (by omega) hp;have hz0:=P2;have hnil:∀H:Heap,zR A3 H=(A3,H):=fun _=>rfl;simp only[Dbs.av] at h1 h3 h4;simp only[Cz.av] at h2;rw[hv] at h1;rw[hn] at h2;have ht':((totD d.procs:Int)=500)=False:=Zg (by omega);have hx:PV.part deep d.pv 0 none=some (.int .i64 4294967296):=by rw[YB,h]
 obtain⟨⟨hk,hi,hna,has⟩,bd⟩:=c;have hpn:PV.part deep (Cz.pv ⟨⟨hk,hi,hna,has⟩,bd⟩) 2 none=some (.str hna):=rfl;have hpa:PV.part deep (Cz.pv ⟨⟨hk,hi,hna,has⟩,bd⟩) 3 none=some (.sl (some 4) (Tm.pvs has)):=rfl;simp -dsimp -implicitDefEqProofs only[hpn,hpa,Tm.pvs_len,g111,c111r0,c111r1,c111r2,c111k3,c111r4,c111r5,c111r6,c111k7,c111r8,c111r9,c111r10,c111k11,c111r12,c111r13,c111r14,c111r15,c111k16,c111r17,c111r18,c111r19,c111,go_sem,seval,Dbs.av,Cz.av,h1,h2,h3,h4,ht',hx,hz0,hnil,zD (Za _)];exact⟨_,rfl⟩
theorem oh(d:Dbs)(hb:BndD d)(c:Cz)(z1:c.head.size<100000000)(z2:c.body.size<100000000)(fr dy:Bool)(hv:okD d=true)(hn:okC c=true)(ht:totD d.procs≠500)(hx:d.next≠4294967296)(hf:fnD d.procs (keyP c.head.name c.head.args.length)=false)(h:d.procs.length=500)(hp:Heap):S 111 [d.av,c.av,P5 fr,P5 dy] hp=some (.ret (.tuple [Y7.av,P4 13]),hp):=by
 refine zM rfl rfl rfl (zK [(some 2,d.pv),(some 8,c.pv),(none,.bool fr),(none,.bool dy)]) rfl ?_;have h1:=fun hp=>Y2 d hb.1 hb.2.1 hb.2.2 hp;have h2:=fun hp=>Qc c z1 z2 hp;have h3:∀hp,S 56 [d.av,P6 c.head.name,P4 c.head.args.length] hp=some (.ret (.tuple [P4 (lbD d.procs (keyP c.head.name c.head.args.length):Int),P5 (fnD d.procs (keyP c.head.name c.head.args.length))]),hp):=fun hp=>XK d _ _ hb.1 (XL hv) hp;have hl5:d.procs.length<=500/\totD d.procs<=500:=by
  grind [okD]
 have h4:=fun hp=>qk d (by omega) (by omega) hp;have hz0:=P2;have hnil:∀H:Heap,zR A3 H=(A3,H):=fun _=>rfl;rw[hf] at h3;simp only[Dbs.av] at h1 h3 h4;simp only[Cz.av] at h2;rw[hv] at h1;rw[hn] at h2;have ht':((totD d.procs:Int)=500)=False:=Zg (by omega);have hx':(d.next=4294967296)=False:=Zg hx;have hl':((d.procs.length:Int)=500)=True:=Zi (by omega);obtain⟨⟨hk,hi,hna,has⟩,bd⟩:=c;have hpn:PV.part deep (Cz.pv ⟨⟨hk,hi,hna,has⟩,bd⟩) 2 none=some (.str hna):=rfl;have hpa:PV.part deep (Cz.pv ⟨⟨hk,hi,hna,has⟩,bd⟩) 3 none=some (.sl (some 4) (Tm.pvs has)):=rfl;have ea:(Tm.mk hk hi hna has).args=has:=rfl;have en:(Tm.mk hk hi hna has).name=hna:=rfl;simp only[ea,en] at h3;simp -dsimp -implicitDefEqProofs only[hpn,hpa,Tm.pvs_len,g111,c111r0,c111r1,c111r2,c111k3,c111r4,c111r5,c111r6,c111k7,c111r8,c111r9,c111r10,c111k11,c111r12,c111r13,c111r14,c111r15,c111k16,c111r17,c111r18,c111r19,c111,go_sem,seval,Dbs.av,Cz.av,YB,YC,Prc.pvs_len,h1,h2,h3,h4,ht',hx',hl',hz0,hnil,zD (Za _)];exact⟨_,rfl⟩
def insC(fr:Bool)(s:Sto)(l:List Sto):List Sto:=if fr=true then s::l else l++[s]
theorem B2(fr:Bool)(s:Sto)(l:List Sto):(insC fr s l).length=l.length+1:=by
 grind [insC]
theorem insC_pvs(fr:Bool)(s:Sto)(l:List Sto):Sto.pvs (insC fr s l)=(Sto.pvs l).take (if fr=true then 0 else l.length)++s.pv::(Sto.pvs l).drop (if fr=true then 0 else l.length):=by
 grind [insC,Sto.pvs,List.drop_eq_nil_of_le]
theorem ol(d:Dbs)(hb:BndD d)(c:Cz)(z1:c.head.size<100000000)(z2:c.body.size<100000000)(fr dy:Bool)(hv:okD d=true)(hn:okC c=true)(ht:totD d.procs≠500)(hx:d.next≠4294967296)(hf:fnD d.procs (keyP c.head.name c.head.args.length)=true)(p:Prc)(i:Nat)(hi:i=lbD d.procs (keyP c.head.name c.head.args.length))(hpp:d.procs[i]? =some p)(hp:Heap):S 111 [d.av,c.av,P5 fr,P5 dy] hp=some (.ret (.tuple [(⟨d.next+1,d.procs.set i ⟨p.name,p.ar,p.dyn,insC fr ⟨d.next,c⟩ p.cls⟩⟩:Dbs).av,P4 0]),hp):=by
 refine zM rfl rfl rfl (zK [(some 2,d.pv),(some 8,c.pv),(none,.bool fr),(none,.bool dy)]) rfl ?_;have h1:=fun hp=>Y2 d hb.1 hb.2.1 hb.2.2 hp;have h2:=fun hp=>Qc c z1 z2 hp;have h3:∀hp,S 56 [d.av,P6 c.head.name,P4 c.head.args.length] hp=some (.ret (.tuple [P4 (lbD d.procs (keyP c.head.name c.head.args.length):Int),P5 (fnD d.procs (keyP c.head.name c.head.args.length))]),hp):=fun hp=>XK d _ _ hb.1 (XL hv) hp;have hl5:1<=d.next/\d.next<=4294967296/\d.procs.length<=500/\totD d.procs<=500:=by
  grind [okD]
 have h4:=fun hp=>qk d (by omega) (by omega) hp;have h6:∀x0 x1 x2:AObj,S 62 [d.av] [x0,x1,x2]=some (.ret (dA d 5),x0::x1::x2::.box (some 2) (dA d 5)::.box (some 2) (dA d 5)::.arv (some 4) (elsA d.procs 11 d.procs.length)::cEs d.procs 11):=fun x0 x1 x2=>qn d (by omega) (fun q hq=>⟨by have:=y5 hq;omega,xc hv q hq⟩) [x0,x1,x2];have hnil:∀H:Heap,zR A3 H=(A3,H):=fun _=>rfl;have hst:∀(x0 x1:AObj) (v:AV) (X:Heap),zH (some 2) 0 (x0::x1::.box (some 2) v::X) [.ptr 2 0,dA d 5]=some (.undef,x0::x1::.box (some 2) (dA d 5)::X):=fun x0 x1 v X=>by
  simp[zH,astore,dA,AV.plain,AV.shp,AV.own,zR,YI,total,Sh.size]
 obtain⟨vh,vb⟩:=Js hn;have h7:=fun hp=>VI ⟨d.next,c⟩ vh vb hp;have hbs:zQ A4 [0,1] [P4 d.next,.pv (some 8) c.pv]=some (.pv (some 9) (Sto.mk d.next c).pv):=rfl;rw[hf,<-hi] at h3;simp only[Dbs.av] at h1 h3 h4 h6;simp only[Cz.av] at h2;simp only[Sto.av] at h7;rw[hv] at h1;rw[hn] at h2;have ht':((totD d.procs:Int)=500)=False:=Zg (by omega);have hx':(d.next=4294967296)=False:=Zg hx;have hpm:=Zh hpp;have hc5:p.cls.length<=500:=by have:=y5 hpm;omega
 have hil:=(Zf.1 hpp).1;have hge:=Xs (b:=11) hpp;have hpt:AV.part deep (dA d 5) 1 none=some (.slv (some 4) 5 d.procs.length 0 d.procs.length):=rfl;have hpt0:AV.part deep (dA d 5) 0 none=some (P4 d.next):=rfl;have hia:zX (some 4) [.slv (some 4) 5 d.procs.length 0 d.procs.length,P4 i]=some (.epv (some 4) 5 d.procs.length i 0):=by
  grind [zX,aindex]
 have hfa:yO 3 [.epv (some 4) 5 d.procs.length i 0]=some (.epv (some 4) 5 d.procs.length i 3):=rfl;have hnc:xi [.epv (some 4) 5 d.procs.length i 0]=some (.epv (some 4) 5 d.procs.length i 0):=rfl;obtain⟨q,hq⟩:∃q,q=11+6*i:=⟨_,rfl⟩;rw[<-hq] at hge;have hld:∀(x0 x1 x2 x3 x4:AObj) (X:Heap),aload none (x0::x1::x2::x3::x4::.arv (some 4) (elsA d.procs 11 d.procs.length)::X) (.epv (some 4) 5 d.procs.length i 3)=some (.sl (some 9) q p.cls.length 0 p.cls.length):=fun x0 x1 x2 x3 x4 X=>by
  have e:AV.part deep (pA p q) 3 none=some (.sl (some 9) q p.cls.length 0 p.cls.length):=rfl
  grind [aload,YT]
 obtain⟨ns,hns⟩:∃ns,ns=insC fr ⟨d.next,c⟩ p.cls:=⟨_,rfl⟩;have hnl:ns.length=p.cls.length+1:=by rw[hns,B2]
 have hnp:=insC_pvs fr ⟨d.next,c⟩ p.cls;rw[<-hns] at hnp ⊢;obtain⟨E,hE⟩:∃E,E=(cEs d.procs 11).set (6*i+5) (.arr (some 9) (Sto.pvs ns) false):=⟨_,rfl⟩;have hcg:=xz d.procs 11 i p hpp;have h5:∀(a:Int),a=((if fr=true then 0 else p.cls.length:Nat):Int)->∀(x0 x1 x2 x3 x4 x5:AObj),S 134 [.sl (some 9) q p.cls.length 0 p.cls.length,P4 a,.tsl (some 9) [(Sto.mk d.next c).pv]] (x0::x1::x2::x3::x4::x5::cEs d.procs 11)=some (.ret (.sl (some 9) q (p.cls.length+1) 0 (p.cls.length+1)),x0::x1::x2::x3::x4::x5::E):=fun a ha x0 x1 x2 x3 x4 x5=>by
  grind [od,Sto.pvs_len]
 obtain⟨pN,hpN⟩:∃pN:AV,pN=.agg [(none,P6 p.name),(none,P4 p.ar),(none,P5 p.dyn),(none,.sl (some 9) q (p.cls.length+1) 0 (p.cls.length+1))]:=⟨_,rfl⟩;have hse:∀(x0 x1 x2 x3 x4:AObj) (X:Heap),zH none 0 (x0::x1::x2::x3::x4::.arv (some 4) (elsA d.procs 11 d.procs.length)::X) [.epv (some 4) 5 d.procs.length i 3,.sl (some 9) q (p.cls.length+1) 0 (p.cls.length+1)]=some (.undef,x0::x1::x2::x3::x4::.arv (some 4) ((elsA d.procs 11 d.procs.length).set i pN)::X):=fun x0 x1 x2 x3 x4 X=>by
  have e:AV.upd deep (pA p q) 3 none (.sl (some 9) q (p.cls.length+1) 0 (p.cls.length+1))=some pN:=by rw[hpN];rfl
  simp_all[zH,astore,YT,AV.plain,AV.shp]
 obtain⟨dN,hdN⟩:∃dN:AV,dN=.agg [(none,P4 (d.next+1)),(none,.slv (some 4) 5 d.procs.length 0 d.procs.length)]:=⟨_,rfl⟩;have hw1:IntKind.i64.wrap (d.next+1)=d.next+1:=by
  grind [zU]
 have hsf:∀(x0 x1:AObj) (X:Heap),zH none 0 (x0::x1::.box (some 2) (dA d 5)::X) [.ptr 2 0,P4 (d.next+1)]=some (.undef,x0::x1::.box (some 2) dN::X):=fun x0 x1 X=>by
  have e:AV.upd deep (dA d 5) 0 none (P4 (d.next+1))=some dN:=by rw[hdN];rfl
  simp[zH,astore,e,AV.plain,AV.shp,AV.own]
 have hs2:∀(x0 x1:AObj) (X:Heap),zH (some 2) 0 (x0::x1::.box (some 2) dN::X) [.ptr 2 0,dN]=some (.undef,x0::x1::.box (some 2) dN::X):=fun x0 x1 X=>by
  rw[hdN];simp[zH,astore,AV.plain,AV.shp,AV.own,zR,YI,total,Sh.size]
 have hr:∀(x0 x1:AObj) (X:Heap),Yn ⟨[(8,.ptr 2 0),(9,P4 0)],x0::x1::.box (some 2) dN::X⟩ (8,some (some 2))=some dN:=fun x0 x1 X=>by
  simp[Yn,Fr.look,aload]
 have fin:∀(x0 x1 x2 x3 x4:AObj),DbA ⟨d.next+1,d.procs.set i ⟨p.name,p.ar,p.dyn,ns⟩⟩ dN (x0::x1::x2::x3::x4::.arv (some 4) ((elsA d.procs 11 d.procs.length).set i pN)::E):=fun x0 x1 x2 x3 x4=>by
  refine⟨5,d.procs.length,_,d.procs.set i ⟨p.name,p.ar,p.dyn,ns⟩,?_,rfl,by rw[List.length_set,YT],by simp,by simp,by grind,fun j r v hr hv2=> ?_⟩
  ·grind
  ·by_cases hji:i=j
   ·subst hji;rw[ZC hil] at hr;cases hr;rw[ZC (by grind)] at hv2;cases hv2;rw[hpN];refine .inr ⟨.sl (some 9) q (p.cls.length+1) 0 (p.cls.length+1),rfl,.inr ⟨q,p.cls.length+1,Sto.pvs ns,false,by rw[hnl],?_,by rw[Sto.pvs_len,hnl],by grind,Zl (by grind [Sto.pvs_len])⟩⟩
    grind
   ·rw[zm hji] at hr hv2;rw[Xs hr] at hv2;cases hv2;refine .inr ⟨_,rfl,.inr ⟨11+6*j,r.cls.length,Sto.pvs r.cls,false,rfl,?_,Sto.pvs_len _,Zc _,Zl (by grind [Sto.pvs_len])⟩⟩
    grind [xz]
 have hfr:∀(d':Dbs) (H:Heap),DbA d' dN H->Am.frozen (.tuple [d'.av,P4 0]) (.tuple [dN,P4 0]) H:=fun d' H hD=>by
  obtain⟨H',hz⟩:=hD.frz;have e3:∀X,AV.freeze deep (P4 0) X=some (.int .i64 0,X):=fun _=>rfl;have hsh:dN.shp=some 2:=by rw[hdN];rfl
  refine⟨H',?_⟩;simp only[AV.freezeRes,zZ,hz,e3,hsh];rfl
 clear hnp hns hE hpN;obtain⟨⟨hk,hi',hna,has⟩,bd⟩:=c;have hpn:PV.part deep (Cz.pv ⟨⟨hk,hi',hna,has⟩,bd⟩) 2 none=some (.str hna):=rfl;have hpa:PV.part deep (Cz.pv ⟨⟨hk,hi',hna,has⟩,bd⟩) 3 none=some (.sl (some 4) (Tm.pvs has)):=rfl;have ea:(Tm.mk hk hi' hna has).args=has:=rfl;have en:(Tm.mk hk hi' hna has).name=hna:=rfl;simp only[ea,en] at h3;cases fr with
 |true=>
  have h8:=h5 0 rfl;simp -dsimp -implicitDefEqProofs only[hpn,hpa,Tm.pvs_len,g111,c111r0,c111r1,c111r2,c111k3,c111r4,c111r5,c111r6,c111k7,c111r8,c111r9,c111r10,c111k11,c111r12,c111r13,c111r14,c111r15,c111k16,c111r17,c111r18,c111r19,c111,go_sem,seval,Dbs.av,Cz.av,YB,YC,Prc.pvs_len,h1,h2,h3,h4,h6,h7,h8,hbs,ht',hx',hnil,hst,hpt,hpt0,hia,hfa,hnc,hld,hse,hw1,hsf,hs2,hr]
  grind [X6,Dbs.av]
 |false=>
  have h8:=h5 p.cls.length rfl;simp -dsimp -implicitDefEqProofs only[hpn,hpa,Tm.pvs_len,g111,c111r0,c111r1,c111r2,c111k3,c111r4,c111r5,c111r6,c111k7,c111r8,c111r9,c111r10,c111k11,c111r12,c111r13,c111r14,c111r15,c111k16,c111r17,c111r18,c111r19,c111,go_sem,seval,Dbs.av,Cz.av,YB,YC,Prc.pvs_len,h1,h2,h3,h4,h6,h7,h8,hbs,ht',hx',hnil,hst,hpt,hpt0,hia,hfa,hnc,hld,hse,hw1,hsf,hs2,hr]
  grind [X6,Dbs.av]
theorem oo(d:Dbs)(hb:BndD d)(c:Cz)(z1:c.head.size<100000000)(z2:c.body.size<100000000)(fr dy:Bool)(hv:okD d=true)(hn:okC c=true)(ht:totD d.procs≠500)(hx:d.next≠4294967296)(hl:d.procs.length≠500)(s:List UInt8)(a:Int)(hs:s=c.head.name)(ha:a=c.head.args.length)(hf:fnD d.procs (keyP s a)=false)(i:Nat)(hi:i=lbD d.procs (keyP s a))(hp:Heap):S 111 [d.av,c.av,P5 fr,P5 dy] hp=some (.ret (.tuple [(⟨d.next+1,d.procs.take i++(⟨s,a,dy,[⟨d.next,c⟩]⟩:Prc)::d.procs.drop i⟩:Dbs).av,P4 0]),hp):=by
 refine zM rfl rfl rfl (zK [(some 2,d.pv),(some 8,c.pv),(none,.bool fr),(none,.bool dy)]) rfl ?_;have h1:=fun hp=>Y2 d hb.1 hb.2.1 hb.2.2 hp;have h2:=fun hp=>Qc c z1 z2 hp;have h3:∀hp,S 56 [d.av,P6 s,P4 a] hp=some (.ret (.tuple [P4 (lbD d.procs (keyP s a):Int),P5 (fnD d.procs (keyP s a))]),hp):=fun hp=>XK d s a hb.1 (XL hv) hp;have hl5:1<=d.next/\d.next<=4294967296/\d.procs.length<=500/\totD d.procs<=500:=by
  grind [okD]
 have h4:=fun hp=>qk d (by omega) (by omega) hp;have h6:∀x0 x1 x2:AObj,S 62 [d.av] [x0,x1,x2]=some (.ret (dA d 5),x0::x1::x2::.box (some 2) (dA d 5)::.box (some 2) (dA d 5)::.arv (some 4) (elsA d.procs 11 d.procs.length)::cEs d.procs 11):=fun x0 x1 x2=>qn d (by omega) (fun q hq=>⟨by have:=y5 hq;omega,xc hv q hq⟩) [x0,x1,x2];have hnil:∀H:Heap,zR A3 H=(A3,H):=fun _=>rfl;have hst:∀(x0 x1:AObj) (v:AV) (X:Heap),zH (some 2) 0 (x0::x1::.box (some 2) v::X) [.ptr 2 0,dA d 5]=some (.undef,x0::x1::.box (some 2) (dA d 5)::X):=fun x0 x1 v X=>by
  simp[zH,astore,dA,AV.plain,AV.shp,AV.own,zR,YI,total,Sh.size]
 obtain⟨vh,vb⟩:=Js hn;have h7:=fun hp=>VI ⟨d.next,c⟩ vh vb hp;have hbs:zQ A4 [0,1] [P4 d.next,.pv (some 8) c.pv]=some (.pv (some 9) (Sto.mk d.next c).pv):=rfl;rw[hf,<-hi] at h3;simp only[Dbs.av] at h1 h3 h4 h6;simp only[Cz.av] at h2;simp only[Sto.av] at h7;rw[hv] at h1;rw[hn] at h2;have ht':((totD d.procs:Int)=500)=False:=Zg (by omega);have hx':(d.next=4294967296)=False:=Zg hx;have hl':((d.procs.length:Int)=500)=False:=Zg (by omega);have hpt:AV.part deep (dA d 5) 1 none=some (.slv (some 4) 5 d.procs.length 0 d.procs.length):=rfl;have hil:i<=d.procs.length:=by grind [Jr]
 obtain⟨nv,hnv⟩:∃nv:AV->AV,nv=fun sv=>.agg [(none,P6 s),(none,P4 a),(none,P5 dy),(none,sv)]:=⟨_,rfl⟩;have hbu:zQ A2 [0,1,2] [P6 s,P4 a,P5 dy]=some (nv (.tsl (some 9) [])):=by rw[hnv];rfl
 obtain⟨el,hel⟩:∃el:AV->List AV,el=fun v=>(elsA d.procs 11 d.procs.length).take i++v::(elsA d.procs 11 d.procs.length).drop i:=⟨_,rfl⟩;have hell:∀v,(el v).length=d.procs.length+1:=fun v=>by grind [YT]
 have hli:((elsA d.procs 11 d.procs.length).take i).length=i:=by grind [YT]
 have heli:∀v,(el v)[i]? =some v:=fun v=>by
  grind
 have hels:∀v v',(el v).set i v'=el v':=fun v v'=>by
  grind
 obtain⟨m,hm⟩:∃m,m=(cEs d.procs 11).length+6:=⟨_,rfl⟩;have op_bslov:∀{vs:List AV} {H:Heap} {K:AV->Heap->Prop} {Kp:PV->Heap->Prop},opK (aOp (sem (find tab) prim) 0 (.bslov (some 4)) vs H) K Kp=YD (Y9 (some 4) H vs) K:=fun{vs H K Kp}=>by
  show opK (match Y9 (some 4) H vs with|some (v,hp')=>some (OpRes.val v hp')|none=>none) K Kp=_;cases Y9 (some 4) H vs with
  |none=>rfl
  |some r=>cases r;rfl
 have hbv:∀x0 x1 x2 x3 x4 x5:AObj,Y9 (some 4) (x0::x1::x2::x3::x4::x5::cEs d.procs 11) [nv (.tsl (some 9) [])]=some (.slv (some 4) m 1 0 1,x0::x1::x2::x3::x4::x5::(cEs d.procs 11++[.arv (some 4) [nv (.tsl (some 9) [])]])):=fun x0 x1 x2 x3 x4 x5=>by
  have e1:(nv (.tsl (some 9) [])).plain=true:=by rw[hnv];rfl
  have e2:(nv (.tsl (some 9) [])).shp=some 4:=by rw[hnv];rfl
  grind [Y9,X5]
 have hpr:∀x0 x1 x2 x3 x4:AObj,S 133 [.slv (some 4) 5 d.procs.length 0 d.procs.length,P4 i,.slv (some 4) m 1 0 1] (x0::x1::x2::x3::x4::.arv (some 4) (elsA d.procs 11 d.procs.length)::(cEs d.procs 11++[.arv (some 4) [nv (.tsl (some 9) [])]]))=some (.ret (.slv (some 4) 5 (d.procs.length+1) 0 (d.procs.length+1)),x0::x1::x2::x3::x4::.arv (some 4) (el (nv (.tsl (some 9) [])))::(cEs d.procs 11++[.arv (some 4) [nv (.tsl (some 9) [])]])):=fun x0 x1 x2 x3 x4=>by
  rw[S,x9 (F:=find tab) (prim:=prim) (p:=xX (some 4)) rfl];have hg:(x0::x1::x2::x3::x4::AObj.arv (some 4) (elsA d.procs 11 d.procs.length)::(cEs d.procs 11++[.arv (some 4) [nv (.tsl (some 9) [])]]))[m]? =some (.arv (some 4) [nv (.tsl (some 9) [])]):=by
   grind
  have hne:5≠m:=by omega
  have hrf:∀n,Xz n 5 (elsA d.procs 11 d.procs.length) [nv (.tsl (some 9) [])]=true:=fun n=>by
   grind [Xz,AV.refsIn.gol,AV.refsIn,AV.refsIn.go]
  have hlm:d.procs.length+1<=lim:=by grind [lim]
  simp_all[xX,YT]
 have hcn:∀(x0 x1 x2 x3 x4 x5:AObj),S 134 [.tsl (some 9) [],P4 0,.tsl (some 9) [(Sto.mk d.next c).pv]] (x0::x1::x2::x3::x4::x5::(cEs d.procs 11++[.arv (some 4) [nv (.tsl (some 9) [])]]))=some (.ret (.sl (some 9) (m+1) 1 0 1),x0::x1::x2::x3::x4::x5::(cEs d.procs 11++[.arv (some 4) [nv (.tsl (some 9) [])],.arr (some 9) [(Sto.mk d.next c).pv] false])):=fun x0 x1 x2 x3 x4 x5=>by
  grind [oe]
 obtain⟨d0,hd0⟩:∃d0:AV,d0=.agg [(none,P4 d.next),(none,.slv (some 4) 5 (d.procs.length+1) 0 (d.procs.length+1))]:=⟨_,rfl⟩;obtain⟨dN,hdN⟩:∃dN:AV,dN=.agg [(none,P4 (d.next+1)),(none,.slv (some 4) 5 (d.procs.length+1) 0 (d.procs.length+1))]:=⟨_,rfl⟩;have hsf:∀(x0 x1:AObj) (X:Heap),zH none 0 (x0::x1::.box (some 2) (dA d 5)::X) [.ptr 2 1,.slv (some 4) 5 (d.procs.length+1) 0 (d.procs.length+1)]=some (.undef,x0::x1::.box (some 2) d0::X):=fun x0 x1 X=>by
  have e:AV.upd deep (dA d 5) 1 none (.slv (some 4) 5 (d.procs.length+1) 0 (d.procs.length+1))=some d0:=by rw[hd0];rfl
  simp[zH,astore,e,AV.plain,AV.shp,AV.own]
 have hpt1:AV.part deep d0 1 none=some (.slv (some 4) 5 (d.procs.length+1) 0 (d.procs.length+1)):=by rw[hd0];rfl
 have hpt0:AV.part deep d0 0 none=some (P4 d.next):=by rw[hd0];rfl
 have hia:zX (some 4) [.slv (some 4) 5 (d.procs.length+1) 0 (d.procs.length+1),P4 i]=some (.epv (some 4) 5 (d.procs.length+1) i 0):=by
  have:(i:Int)<(d.procs.length:Int)+1:=by omega
  simp[zX,aindex,this]
 have hfa:yO 3 [.epv (some 4) 5 (d.procs.length+1) i 0]=some (.epv (some 4) 5 (d.procs.length+1) i 3):=rfl;have hnc:xi [.epv (some 4) 5 (d.procs.length+1) i 0]=some (.epv (some 4) 5 (d.procs.length+1) i 0):=rfl;have hld:∀(x0 x1 x2 x3 x4:AObj) (X:Heap),aload none (x0::x1::x2::x3::x4::.arv (some 4) (el (nv (.tsl (some 9) [])))::X) (.epv (some 4) 5 (d.procs.length+1) i 3)=some (.tsl (some 9) []):=fun x0 x1 x2 x3 x4 X=>by
  have e:AV.part deep (nv (.tsl (some 9) [])) 3 none=some (.tsl (some 9) []):=by rw[hnv];rfl
  simp_all[aload]
 have hse:∀(x0 x1 x2 x3 x4:AObj) (X:Heap),zH none 0 (x0::x1::x2::x3::x4::.arv (some 4) (el (nv (.tsl (some 9) [])))::X) [.epv (some 4) 5 (d.procs.length+1) i 3,.sl (some 9) (m+1) 1 0 1]=some (.undef,x0::x1::x2::x3::x4::.arv (some 4) (el (nv (.sl (some 9) (m+1) 1 0 1)))::X):=fun x0 x1 x2 x3 x4 X=>by
  have e:AV.upd deep (nv (.tsl (some 9) [])) 3 none (.sl (some 9) (m+1) 1 0 1)=some (nv (.sl (some 9) (m+1) 1 0 1)):=by rw[hnv];rfl
  simp_all[zH,astore,AV.plain,AV.shp]
 have hw1:IntKind.i64.wrap (d.next+1)=d.next+1:=by
  grind [zU]
 have hsg:∀(x0 x1:AObj) (X:Heap),zH none 0 (x0::x1::.box (some 2) d0::X) [.ptr 2 0,P4 (d.next+1)]=some (.undef,x0::x1::.box (some 2) dN::X):=fun x0 x1 X=>by
  have e:AV.upd deep d0 0 none (P4 (d.next+1))=some dN:=by rw[hdN,hd0];rfl
  simp[zH,astore,e,AV.plain,AV.shp,AV.own]
 have hs2:∀(x0 x1:AObj) (X:Heap),zH (some 2) 0 (x0::x1::.box (some 2) dN::X) [.ptr 2 0,dN]=some (.undef,x0::x1::.box (some 2) dN::X):=fun x0 x1 X=>by
  rw[hdN];simp[zH,astore,AV.plain,AV.shp,AV.own,zR,YI,total,Sh.size]
 have hr:∀(x0 x1:AObj) (X:Heap),Yn ⟨[(8,.ptr 2 0),(9,P4 0)],x0::x1::.box (some 2) dN::X⟩ (8,some (some 2))=some dN:=fun x0 x1 X=>by
  simp[Yn,Fr.look,aload]
 have fin:∀(x0 x1 x2 x3 x4:AObj),DbA ⟨d.next+1,d.procs.take i++(⟨s,a,dy,[⟨d.next,c⟩]⟩:Prc)::d.procs.drop i⟩ dN (x0::x1::x2::x3::x4::.arv (some 4) (el (nv (.sl (some 9) (m+1) 1 0 1)))::(cEs d.procs 11++[.arv (some 4) [nv (.tsl (some 9) [])],.arr (some 9) [(Sto.mk d.next c).pv] false])):=fun x0 x1 x2 x3 x4=>by
  have hpl:(d.procs.take i++(⟨s,a,dy,[⟨d.next,c⟩]⟩:Prc)::d.procs.drop i).length=d.procs.length+1:=by grind
  refine⟨5,d.procs.length+1,el (nv (.sl (some 9) (m+1) 1 0 1)),d.procs.take i++(⟨s,a,dy,[⟨d.next,c⟩]⟩:Prc)::d.procs.drop i,?_,rfl,hell _,by grind,hpl,ZW,fun j q v hq hv2=> ?_⟩
  ·grind
  ·have hE:∀(k:Nat) (x:Prc),d.procs[k]? =some x->ElP x (pA x (11+6*k)) (x0::x1::x2::x3::x4::AObj.arv (some 4) (el (nv (.sl (some 9) (m+1) 1 0 1)))::(cEs d.procs 11++[.arv (some 4) [nv (.tsl (some 9) [])],.arr (some 9) [(Sto.mk d.next c).pv] false])):=fun k x hx=>by
    refine .inr ⟨_,rfl,.inr ⟨11+6*k,x.cls.length,Sto.pvs x.cls,false,rfl,?_,Sto.pvs_len _,Zc _,Zl (by grind [Sto.pvs_len])⟩⟩;rw[show 11+6*k=(6*k+5)+1+1+1+1+1+1 by omega];simp only[zA]
    grind [xz,ZZ]
   have hlp:(d.procs.take i).length=i:=by grind
   have hv3:((elsA d.procs 11 d.procs.length).take i++nv (.sl (some 9) (m+1) 1 0 1)::(elsA d.procs 11 d.procs.length).drop i)[j]? =some v:=by
    grind
   rcases Nat.lt_trichotomy j i with k|k|k
   ·rw[ZZ (by omega),ZT,Zj k] at hq hv3;rw[Xs hq] at hv3
    grind
   ·subst k;rw[ZD (by omega),hlp,Nat.sub_self] at hq;rw[ZD (by omega),hli,Nat.sub_self] at hv3;cases hq;cases hv3;rw[hnv];refine .inr ⟨.sl (some 9) (m+1) 1 0 1,rfl,.inr ⟨m+1,1,[(Sto.mk d.next c).pv],false,rfl,?_,rfl,Zc _,rfl⟩⟩;simp_all
   ·rw[ZD (by omega),hlp,show j - i=(j - i - 1)+1 by omega,zA,ZQ] at hq;rw[ZD (by omega),hli,show j - i=(j - i - 1)+1 by omega,zA,ZQ] at hv3;rw[Xs hq] at hv3
    grind
 have hfr:∀(d':Dbs) (H:Heap),DbA d' dN H->Am.frozen (.tuple [d'.av,P4 0]) (.tuple [dN,P4 0]) H:=fun d' H hD=>by
  obtain⟨H',hz⟩:=hD.frz;have e3:∀X,AV.freeze deep (P4 0) X=some (.int .i64 0,X):=fun _=>rfl;have hsh:dN.shp=some 2:=by rw[hdN];rfl
  refine⟨H',?_⟩;simp only[AV.freezeRes,zZ,hz,e3,hsh];rfl
 clear hm;obtain⟨⟨hk,hi',hna,has⟩,bd⟩:=c;have hpn:PV.part deep (Cz.pv ⟨⟨hk,hi',hna,has⟩,bd⟩) 2 none=some (.str hna):=rfl;have hpa:PV.part deep (Cz.pv ⟨⟨hk,hi',hna,has⟩,bd⟩) 3 none=some (.sl (some 4) (Tm.pvs has)):=rfl;have ea:(Tm.mk hk hi' hna has).args=has:=rfl;have en:(Tm.mk hk hi' hna has).name=hna:=rfl;rw[en] at hs;rw[ea] at ha;subst hs;subst ha;have hz:((([]:List PV).length:Nat):Int)=0:=rfl;cases fr with
 |true=>
  simp -dsimp -implicitDefEqProofs only[hpn,hpa,Tm.pvs_len,g111,c111r0,c111r1,c111r2,c111k3,c111r4,c111r5,c111r6,c111k7,c111r8,c111r9,c111r10,c111k11,c111r12,c111r13,c111r14,c111r15,c111k16,c111r17,c111r18,c111r19,c111,go_sem,seval,Dbs.av,Cz.av,YB,YC,Prc.pvs_len,h1,h2,h3,h4,h6,h7,hbs,ht',hx',hl',hnil,hst,hpt,hpt0,hpt1,hbu,op_bslov,hbv,hpr,hsf,hia,hfa,hnc,hld,hz,hcn,hse,hw1,hsg,hs2,hr]
  grind [X6,Dbs.av]
 |false=>
  simp -dsimp -implicitDefEqProofs only[hpn,hpa,Tm.pvs_len,g111,c111r0,c111r1,c111r2,c111k3,c111r4,c111r5,c111r6,c111k7,c111r8,c111r9,c111r10,c111k11,c111r12,c111r13,c111r14,c111r15,c111k16,c111r17,c111r18,c111r19,c111,go_sem,seval,Dbs.av,Cz.av,YB,YC,Prc.pvs_len,h1,h2,h3,h4,h6,h7,hbs,ht',hx',hl',hnil,hst,hpt,hpt0,hpt1,hbu,op_bslov,hbv,hpr,hsf,hia,hfa,hnc,hld,hz,hcn,hse,hw1,hsg,hs2,hr]
  grind [X6,Dbs.av]
def addR(d:Dbs)(c:Cz)(fr dy:Bool):Dbs × Int:=
 if okD d=false\/okC c=false then(Y7,1)
 else if totD d.procs=500\/d.next=4294967296 then(Y7,13)
 else match fnD d.procs (keyP c.head.name c.head.args.length),d.procs[lbD d.procs (keyP c.head.name c.head.args.length)]? with
 |true,some p=>(⟨d.next+1,d.procs.set (lbD d.procs (keyP c.head.name c.head.args.length)) ⟨p.name,p.ar,p.dyn,insC fr ⟨d.next,c⟩ p.cls⟩⟩,0)
 |_,_=>if d.procs.length=500 then(Y7,13)
  else(⟨d.next+1,d.procs.take (lbD d.procs (keyP c.head.name c.head.args.length))++(⟨c.head.name,c.head.args.length,dy,[⟨d.next,c⟩]⟩:Prc)::d.procs.drop (lbD d.procs (keyP c.head.name c.head.args.length))⟩,0)
theorem oq(d:Dbs)(hb:BndD d)(c:Cz)(z1:c.head.size<100000000)(z2:c.body.size<100000000)(fr dy:Bool)(hp:Heap):S 111 [d.av,c.av,P5 fr,P5 dy] hp=some (.ret (.tuple [(addR d c fr dy).1.av,.pv none (.int .i64 (addR d c fr dy).2)]),hp):=by
 by_cases h:okD d=false\/okC c=false
 ·grind [O9,addR]
 ·have hv:okD d=true:=by grind
  have hn:okC c=true:=by grind
  by_cases ht:totD d.procs=500
  ·grind [oc,addR]
  ·by_cases hx:d.next=4294967296
   ·grind [og,addR]
   ·have h0:¬(totD d.procs=500\/d.next=4294967296):=by
     grind
    cases hf:fnD d.procs (keyP c.head.name c.head.args.length) with
    |true=>
     grind [Ju,ol,addR]
    |false=>
     grind [oh,addR,oo]
theorem ot{c:Cz}(h:okC c=true):namB (keyP c.head.name c.head.args.length)=true:=by
 have hv:=(Js h).1;simp only[okC,Zk,Bool.or_eq_true,ZN] at h
 grind [Tm.valid,Tm.zAO,Tm.node,namB,keyP]
theorem insC_mem{fr:Bool}{s x:Sto}{l:List Sto}:x∈insC fr s l↔x=s\/x∈l:=by
 grind [insC]
theorem ou(fr:Bool)(s:Sto)(l:List Sto):((insC fr s l).map (·.id)).Perm (s.id::l.map (·.id)):=by
 grind [insC]
theorem ov{d:Dbs}{c:Cz}{fr dy:Bool}(h:(addR d c fr dy).2=0):okD (addR d c fr dy).1=true/\(addR d c fr dy).1.next=d.next+1:=by
 by_cases hbad:okD d=false\/okC c=false
 ·grind [addR]
 have hv:okD d=true:=by grind
 have hc:okC c=true:=by grind
 by_cases hfull:totD d.procs=500\/d.next=4294967296
 ·grind [addR]
 obtain⟨d1,d2,d3,d4,d5⟩:=(yw d).1 hv;have n1:totD d.procs≠500:=fun e=>hfull (.inl e);have n2:d.next≠4294967296:=fun e=>hfull (.inr e)
 have hfresh:d.next ∉ ids d.procs:=fun hm=>by
  obtain⟨p,hp,s,hs,e⟩:=mem_ids.1 hm;have:=d5.2.2.2 p hp s hs;have:=this.2.1;omega
 obtain⟨s,hs⟩:∃s,s=c.head.name:=⟨_,rfl⟩;obtain⟨a,ha⟩:∃a:Int,a=c.head.args.length:=⟨_,rfl⟩;have hoks:∀q:Prc,q.name=s->q.ar=a->okS (d.next+1) q ⟨d.next,c⟩:=fun q h1 h2=>⟨d1,by grind,hc,by grind,by grind⟩;cases hf:fnD d.procs (keyP c.head.name c.head.args.length) with
 |true=>
  obtain⟨p,hpp,hpn,hpa,hfd⟩:=VP hv hf;have e:addR d c fr dy=(⟨d.next+1,d.procs.set (lbD d.procs (keyP c.head.name c.head.args.length)) ⟨p.name,p.ar,p.dyn,insC fr ⟨d.next,c⟩ p.cls⟩⟩,0):=by grind [addR]
  rw[e];have hpm:=Zh hpp;have ht:=gT hpp ⟨p.name,p.ar,p.dyn,insC fr ⟨d.next,c⟩ p.cls⟩;have hil:=B2 fr ⟨d.next,c⟩ p.cls;have ht':totD (d.procs.set (lbD d.procs (keyP c.head.name c.head.args.length)) ⟨p.name,p.ar,p.dyn,insC fr ⟨d.next,c⟩ p.cls⟩)=totD d.procs+1:=by
   grind
  have hnd:(p.cls.map (·.id)).Nodup:=by
   have d5':=d5;rw[xA hpp] at d5'
   grind [QR]
  refine⟨?_,rfl⟩
  ·refine(yw _).2 ⟨by grind,by grind,by grind,by grind,gU d5 hpp rfl rfl (by grind) ?_ (fun x hx=> ?_) fun x hx=> ?_⟩
   ·grind [ou,mem_ids]
   ·grind [insC_mem]
   ·rcases insC_mem.1 hx with rfl|hx
    ·grind
    ·have:=VO (q:=⟨p.name,p.ar,p.dyn,insC fr ⟨d.next,c⟩ p.cls⟩) (d5.2.2.2 p hpm x hx) rfl rfl;exact⟨this.1,by have:=this.2.1;grind,this.2.2⟩
 |false=>
  by_cases hl:d.procs.length=500
  ·grind [addR]
  have e:addR d c fr dy=(⟨d.next+1,d.procs.take (lbD d.procs (keyP c.head.name c.head.args.length))++(⟨c.head.name,c.head.args.length,dy,[⟨d.next,c⟩]⟩:Prc)::d.procs.drop (lbD d.procs (keyP c.head.name c.head.args.length))⟩,0):=by grind [addR]
  rw[e];have ht:totD d.procs=totD (d.procs.take (lbD d.procs (keyP c.head.name c.head.args.length))++d.procs.drop (lbD d.procs (keyP c.head.name c.head.args.length))):=by simp_all
  rw[qo] at ht;have ht':totD (d.procs.take (lbD d.procs (keyP c.head.name c.head.args.length))++(⟨c.head.name,c.head.args.length,dy,[⟨d.next,c⟩]⟩:Prc)::d.procs.drop (lbD d.procs (keyP c.head.name c.head.args.length)))=totD d.procs+1:=by
   grind [qo,qp]
  refine⟨?_,rfl⟩
  ·have hlb:=Jr d.procs (keyP c.head.name c.head.args.length);refine(yw _).2 ⟨by grind,by grind,?_,by grind,gW (q:=⟨c.head.name,c.head.args.length,dy,[⟨d.next,c⟩]⟩) d5 hf (ot hc) (by grind) (List.nodup_cons.2 ⟨by simp,List.nodup_nil⟩) (fun x hx=> ?_) fun x hx=> ?_⟩
   ·grind
   ·grind
   grind
end Go.Proofs.YtgedfopkiebjkaaGreatDoor
