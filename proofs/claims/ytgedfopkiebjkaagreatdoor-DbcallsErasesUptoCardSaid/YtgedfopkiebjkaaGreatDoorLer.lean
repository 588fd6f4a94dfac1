/- What is proved: DbcallsErases. -/
import Derived.Test.YtgedfopkiebjkaaGreatDoorRun
set_option linter.unusedSimpArgs false
set_option linter.unusedVariables false
namespace Go.Proofs.YtgedfopkiebjkaaGreatDoor
open Go.Am
theorem oT(hp:Heap):S 9 [] hp=some (.ret (P5 true),hp):=by
 have h:=yX (hp:=hp) (args:=[]) (ps:=[]) (hp1:=hp) (f:=9) rfl rfl rfl rfl sem9;exact h
theorem oU(p:Prc):AObj.beq (.box (some 4) (.pv (some 4) p.pv)) (.box (some 4) (.pv (some 4) p.pv))=true:=by
 have h:=Vv (l:=[p]);have h':(PV.beq p.pv p.pv && true)=true:=h;rw[Bool.and_true] at h';simp[AObj.beq,AV.beq,h']
set_option maxRecDepth 20000 in
set_option maxHeartbeats 4000000 in
theorem oV(d:Dbs)(hb:BndD d)(a w:Int)(ha:0<=a/\a<256)(hw:0<=w/\w<256):S 4 [d.av,.pv none (.int .u8 a),.pv none (.int .u8 w)] []=some (.ret (P5 true),[]):=by
 refine zL rfl rfl rfl (zJ [(some 2,d.pv),(none,.int .u8 a),(none,.int .u8 w)]) rfl ?_;obtain⟨⟨rv,hrv⟩,hva⟩:=nM d hb;have haw:=fun hp=>oT hp;simp only[Dbs.av] at hva;cases rv with
 |false=>
  simp -dsimp -implicitDefEqProofs only[go_sem,seval,Dbs.av,hva,haw]
  done
 |true=>
 have hv:=hrv rfl;by_cases hn0:d.procs.length=0
 ·have hn0':((d.procs.length:Int)=0)=True:=Zg (by omega);simp -dsimp -implicitDefEqProofs only[go_sem,seval,Dbs.av,hva,haw,Yr,Prc.pvs_len,hn0']
  done
 have hn0':((d.procs.length:Int)=0)=False:=Zj (by omega);have hp5:d.procs.length<=500:=((XP d).1 hv).2.2.1;obtain⟨i,hi,hil⟩:∃i:Nat,a.tmod (d.procs.length:Int)=(i:Int)/\i<d.procs.length:=by
  have h1:a.tmod (d.procs.length:Int)=a % (d.procs.length:Int):=Int.tmod_eq_emod_of_nonneg ha.1;have h2:=Int.emod_nonneg a (show(d.procs.length:Int)≠0 by omega);have h3:=Int.emod_lt_of_pos a (show 0<(d.procs.length:Int) by omega);exact⟨(a % (d.procs.length:Int)).toNat,by omega,by omega⟩
 obtain⟨p,hpp⟩:∃p,d.procs[i]? =some p:=⟨_,Zd hil⟩;have hpm:=Zi hpp;obtain⟨hn1,ha0,ha8⟩:=B3 hv hpm;obtain⟨k,hk⟩:∃k:Nat,p.ar=(k:Int):=⟨p.ar.toNat,by omega⟩;have k8:k<=8:=by omega
 have hcv:IntKind.i64.wrap a=a:=zO (by omega) (by omega);have hrm:yc .rem .i64 a (d.procs.length:Int)=some (.int .i64 (i:Int)):=by rw[u0 (by omega),hi]
 obtain⟨B,hB⟩:∃B:Heap,B=[.box (some 2) (.pv (some 2) d.pv),.box (some 4) (.pv (some 4) p.pv),.arr (some 9) [] false]:=⟨_,rfl⟩;have hBl:B.length=3:=by rw[hB];rfl
 have hBb:Bq B:=by
  rw[hB];exact Bq.cons (Q4 d) (Bq.cons (oU p) (Bq.cons (QC _ _) Bq.nil))
 have h1:=oJ p.name k k8 B;obtain⟨K,hKl,hKB,hKb,hs8⟩:=oL p.name k k8 B hBb [9];obtain⟨K0,hK0⟩:∃K0,K0=B++gxA p.name B.length k:=⟨_,rfl⟩;obtain⟨n,hn⟩:∃n,K0.length=n:=⟨_,rfl⟩;rw[<-hK0] at h1 hKl hs8;have hs8:=fun fr c=>hs8 fr c n hn;rw[hBl] at h1 hs8;rw[hn] at hKl;rw[hB] at h1;have hst8:=fun b c=>oK p.name 3 k hn b c;have w1:IntKind.i64.wrap (k:Int)=(k:Int):=zO (by omega) (by omega);have w2:IntKind.i64.wrap ((k:Int)+1)=((k+1:Nat):Int):=by rw[zO (by omega) (by omega)];omega
 have h2:=fun hp=>x_ok (k:Int) hp;have h3:=fun hp=>x_ok ((k+1:Nat):Int) hp;have h4:=fun hp=>f_ok dclN [genT p.name k,tvar k,tvar (k+1:Nat)] hp;have e4:strT dclN [genT p.name k,tvar k,tvar (k+1:Nat)]=genG p.name k:=rfl;rw[e4] at h4;unfold dclN at h4;simp only[Tm.av,Tm.pvs] at h2 h3 h4;obtain⟨s,hs⟩:∃s,s=p.name:=⟨_,rfl⟩;simp -dsimp -implicitDefEqProofs only[go_sem,seval,Dbs.av,hva,Yr,Prc.pvs_len,hn0',hcv,hrm,zM (Prc.pvs_get hpp),Yq,Yu,hk,h1,h2,h3,h4,w1,w2,hst8,hs8,hn,getN hn,zX hn,setN hn,Yg hn,getN hKl,zX hKl,setN hKl,Yg hKl,hKl,zT];obtain⟨g,hg⟩:∃g,g=genG p.name k:=⟨_,rfl⟩;obtain⟨H6,hH6⟩:∃H6:Heap,H6=K++[.box (some 4) (.pv (some 4) (genT p.name k).pv),.arr (some 4) [] false,.box (some 4) (.pv (some 4) g.pv),.arr (some 4) [] false]:=⟨_,rfl⟩;rw[<-hg,<-hH6];have hGK:=BW hn1 k8;rw[<-hg] at hGK;have hb6:Bq H6:=by
  rw[hH6];exact hKb.app (Bq.cons (Xg _) (Bq.cons (QC _ _) (Bq.cons (Xg _) (Bq.cons (QC _ _) Bq.nil))))
 have h6l:H6.length=n+4:=by rw[hH6,Z2,hKl];rfl
 have k0:K[0]? =some (.box (some 2) (.pv (some 2) d.pv)):=by rw[hKB 0 (by omega),hB];rfl
 have k1:K[1]? =some (.box (some 4) (.pv (some 4) p.pv)):=by rw[hKB 1 (by omega),hB];rfl
 have g0:H6[0]? =some (.box (some 2) (.pv (some 2) d.pv)):=by rw[hH6,y8 (Yz k0),k0]
 have g1:H6[1]? =some (.box (some 4) (.pv (some 4) p.pv)):=by rw[hH6,y8 (Yz k1),k1]
 have g2:H6[n+2]? =some (.box (some 4) (.pv (some 4) g.pv)):=by rw[hH6,getN hKl];rfl
 have hga:g.args=[genT p.name k,tvar k,tvar (k+1:Nat)]:=by rw[hg];rfl
 have hh:(genT p.name k).kind≠0/\(genT p.name k).kind≠1:=by rcases BS p.name k with e|e <;> rw[e] <;> decide
 have hgn:=V1 p.name k;have hgl:((genT p.name k).args.length:Int)=k:=by rw[jO];simp
 have hf:yb d p.name k=some p:=by rw[<-hk];exact(jx hv _ _ _).2 ⟨hpm,rfl,rfl⟩
 have hsB:yL d p.name k=(decide (p.name∈QA k) || !p.dyn):=by rw[yL,hf];rfl
 have h5:=fun hp=>gN p.name k hp;have hnil:∀H:Heap,zU A3 H=(A3,H):=fun _=>rfl;cases hst:yL d p.name k with
 |true=>
  obtain⟨X,hc,-,-⟩:=O9 d hv g (genT p.name k) (tvar k) (tvar (k+1:Nat)) hGK hga hh rfl rfl (by rw[hgn,hgl];exact hst) H6 hb6;obtain⟨H7,hH7⟩:∃H7,H7=H6++X:=⟨_,rfl⟩;obtain⟨m,hm⟩:∃m,H7.length=m:=⟨_,rfl⟩;have q0:∀Y:Heap,(H7++Y)[0]? =some (.box (some 2) (.pv (some 2) d.pv)):=fun Y=>by rw[hH7,Zl,y8 (Yz g0),g0]
  have q1:∀Y:Heap,(H7++Y)[1]? =some (.box (some 4) (.pv (some 4) p.pv)):=fun Y=>by rw[hH7,Zl,y8 (Yz g1),g1]
  have hw1:∀(b:AV) (Y:Heap),zK (some 2) 0 (H7++.box (some 2) b::Y) [.ptr m 0,Yk]=some (.undef,H7++.box (some 2) Yk::Y):=fun b Y=>by
   simp[zK,astore,zX hm,Yg hm,Yk,AV.plain,AV.shp,AV.own,total,Sh.size,zU,Y3]
  rw[<-hH7,hgn,hgl] at hc;have hT:strT [101,114,114,111,114] [strT [112,101,114,109,105,115,115,105,111,110,95,101,114,114,111,114] [zW [109,111,100,105,102,121],zW [115,116,97,116,105,99,95,112,114,111,99,101,100,117,114,101],strT [47] [zW p.name,intT k]],zW [91,93]]=perT moN stN (indT p.name k):=rfl;obtain⟨T,hTe⟩:∃T,T=perT moN stN (indT p.name k):=⟨_,rfl⟩;rw[<-hTe] at hT hc;have hTv:T.valid=true:=by
   rw[hTe];exact(gI (by decide) (by decide) (by decide) (Vn hn1)).2
  have c1:=fun hp=>a_ok [109,111,100,105,102,121] hp;have c2:=fun hp=>a_ok [115,116,97,116,105,99,95,112,114,111,99,101,100,117,114,101] hp;have c3':=fun hp=>a_ok p.name hp;have c4':=fun hp=>n_ok k hp;have c5:=fun hp=>f_ok [47] [zW p.name,intT k] hp;have c6:=fun hp=>f_ok [112,101,114,109,105,115,115,105,111,110,95,101,114,114,111,114] [zW [109,111,100,105,102,121],zW [115,116,97,116,105,99,95,112,114,111,99,101,100,117,114,101],strT [47] [zW p.name,intT k]] hp;have c7:=fun hp=>a_ok [91,93] hp;have c8:=fun hp=>f_ok [101,114,114,111,114] [strT [112,101,114,109,105,115,115,105,111,110,95,101,114,114,111,114] [zW [109,111,100,105,102,121],zW [115,116,97,116,105,99,95,112,114,111,99,101,100,117,114,101],strT [47] [zW p.name,intT k]],zW [91,93]] hp;rw[hT] at c8;have c9:=fun hp=>V3 T T hp (fit9 hTv) (fit9 hTv);rw[V4 hTv] at c9;simp only[Tm.av,Tm.pvs,Dbs.av] at hc c1 c2 c3' c4' c5 c6 c7 c8 c9;rw[hsB] at hst;cases hre:decide (p.name∈QA k) with
  |true=>
   rw[hre] at h5;simp -dsimp -implicitDefEqProofs only[go_sem,seval,Dbs.av,g0,g2,hc,h5,hnil,hw1,q0,q1,Yq,Yu,qY,hk,hm,getN hm,zX hm,setN hm,Yg hm,c1,c2,c3',c4',c5,c6,c7,c8,c9,haw,zT]
   done
  |false=>
   rw[hre] at h5 hst;have hdy:p.dyn=false:=by simpa using hst
   simp -dsimp -implicitDefEqProofs only[go_sem,seval,Dbs.av,g0,g2,hc,h5,hnil,hw1,q0,q1,Yq,Yu,qY,hdy,hk,hm,getN hm,zX hm,setN hm,Yg hm,c1,c2,c3',c4',c5,c6,c7,c8,c9,haw,zT]
   done
 |false=>
  have hst':=hst;rw[hsB,Bool.or_eq_false_iff] at hst;obtain⟨hre,hdy⟩:=hst;have hdy:p.dyn=true:=by simpa using hdy
  rw[hre] at h5;obtain⟨ts,hts⟩:∃ts,ts=p.cls.map (ansC g ((k:Int)+2)):=⟨_,rfl⟩;have htl:ts.length=p.cls.length:=by rw[hts,List.length_map]
  have hcg:=B7 d hv p hpm k hk hst' H6 hb6;rw[<-hg,<-hts,<-htl,h6l] at hcg;rcases hcg with⟨hall,X,hc,hX3,hX13⟩|⟨-,X,hc⟩
  rotate_left
  ·obtain⟨H7,hH7⟩:∃H7,H7=H6++X:=⟨_,rfl⟩;obtain⟨m,hm⟩:∃m,H7.length=m:=⟨_,rfl⟩;have q1:∀Y:Heap,(H7++Y)[1]? =some (.box (some 4) (.pv (some 4) p.pv)):=fun Y=>by rw[hH7,Zl,y8 (Yz g1),g1]
   have hw1:∀(b:AV) (Y:Heap),zK (some 2) 0 (H7++.box (some 2) b::Y) [.ptr m 0,Yk]=some (.undef,H7++.box (some 2) Yk::Y):=fun b Y=>by
    simp[zK,astore,zX hm,Yg hm,Yk,AV.plain,AV.shp,AV.own,total,Sh.size,zU,Y3]
   have hw2:∀(x:AObj) (b:AV) (c:AObj),zK (some 4) 0 (H7++[x,.box (some 4) b,c]) [.ptr (m+1) 0,zg (n+4+10)]=some (.undef,H7++[x,.box (some 4) (zg (n+4+10)),c]):=fun x b c=>by
    simp[zK,astore,getN hm,setN hm,zg,AV.plain,AV.shp,AV.own,total,Sh.size,zU,Y3]
   have e1:((2:Int)=0)=False:=by decide
   simp only[Tm.av,Dbs.av,<-hH7,Nat.add_assoc] at hc hw2;simp -dsimp -implicitDefEqProofs only[go_sem,seval,Dbs.av,g0,g2,hc,h5,hnil,hw1,hw2,q1,Yq,Yu,qY,hdy,hk,hm,getN hm,zX hm,setN hm,Yg hm,e1,haw,zT]
   done
  obtain⟨H8,hH8⟩:∃H8,H8=H6++X:=⟨_,rfl⟩;obtain⟨m,hm⟩:∃m,H8.length=m:=⟨_,rfl⟩;have q0:∀Y:Heap,(H8++Y)[0]? =some (.box (some 2) (.pv (some 2) d.pv)):=fun Y=>by rw[hH8,Zl,y8 (Yz g0),g0]
  have q1:∀Y:Heap,(H8++Y)[1]? =some (.box (some 4) (.pv (some 4) p.pv)):=fun Y=>by rw[hH8,Zl,y8 (Yz g1),g1]
  have q2:∀Y:Heap,(H8++Y)[n+2]? =some (.box (some 4) (.pv (some 4) g.pv)):=fun Y=>by rw[hH8,Zl,y8 (Yz g2),g2]
  have q7:∀Y:Heap,(H8++Y)[n+7]? =some (.arr (some 4) (Tm.pvs ts) false):=fun Y=>by
   rw[hH8,Zl,show n+7=H6.length+3 by omega,YQ,y8 (Yz hX3),hX3]
  have hw2:∀(x:AObj) (b:AV) (c:AObj),zK (some 4) 0 (H8++[x,.box (some 4) b,c]) [.ptr (m+1) 0,zg (n+4+13)]=some (.undef,H8++[x,.box (some 4) (zg (n+4+13)),c]):=fun x b c=>by
   simp[zK,astore,getN hm,setN hm,zg,AV.plain,AV.shp,AV.own,total,Sh.size,zU,Y3]
  simp only[Tm.av,Dbs.av,<-hH8,Nat.add_assoc] at hc hw2;simp -dsimp -implicitDefEqProofs only[go_sem,seval,Dbs.av,g0,g2,hc,h5,hnil,hw2,q1,Yq,Yu,qY,Y7,Sto.pvs_len,htl,hdy,hk,hm,getN hm,zX hm,setN hm,Yg hm,haw,zT];obtain⟨H9,hH9⟩:∃H9:Heap,H9=H8++[.box (some 2) (.pv (some 2) d.pv),.box (some 4) (zg (n+17)),.arr (some 4) [] false]:=⟨_,rfl⟩;have r0:∀Y:Heap,(H9++Y)[0]? =some (.box (some 2) (.pv (some 2) d.pv)):=fun Y=>by rw[hH9,Zl,q0]
  have r1:∀Y:Heap,(H9++Y)[1]? =some (.box (some 4) (.pv (some 4) p.pv)):=fun Y=>by rw[hH9,Zl,q1]
  have r2:∀Y:Heap,(H9++Y)[n+2]? =some (.box (some 4) (.pv (some 4) g.pv)):=fun Y=>by rw[hH9,Zl,q2]
  have r7:∀Y:Heap,(H9++Y)[n+7]? =some (.arr (some 4) (Tm.pvs ts) false):=fun Y=>by rw[hH9,Zl,q7]
  have r0':=r0 [];have r1':=r1 [];have r2':=r2 [];rw[ZF] at r0' r1' r2';rw[<-hH9];have hc5:p.cls.length<=500:=VN hv hf;have hia:∀i,i<p.cls.length->∀kk,Yc (some 4) [.sl (some 4) (n+7) p.cls.length 0 p.cls.length,.pv none (.int kk (i:Int))]=some (.eptr (some 4) (n+7) p.cls.length i 0):=fun i hi kk=>by
   have:=xH (sh:=some 4) (s':=none) (k:=kk) (r:=n+7) (v:=p.cls.length) (o:=0) hi;rw[ZE] at this;exact this
  have hld:∀(i:Nat) (x:Sto),p.cls[i]? =some x->∀Y:Heap,aload none (H9++Y) (.eptr (some 4) (n+7) p.cls.length i 3)=some (.pv none (.sl (some 4) [(shT ((k:Int)+2) x.cl.head).pv,(shT ((k:Int)+2) x.cl.body).pv,(intT x.id).pv])):=fun i x hx Y=>by
   have e:ts[i]? =some (ansC g ((k:Int)+2) x):=by rw[hts,ZN,hx];rfl
   have e2:=Tm.pvs_get e;have e3:PV.part deep (ansC g ((k:Int)+2) x).pv 3 none=some (.sl (some 4) [(shT ((k:Int)+2) x.cl.head).pv,(shT ((k:Int)+2) x.cl.body).pv,(intT x.id).pv]):=by rw[hg];rfl
   simp[aload,r7,Tm.pvs_len,htl,e2,e3]
  refine Yf (α:=Unit) p.cls.length (fun _ _=>True) (fun i _=>⟨[(2,.pv none (.int .u8 w)),(3,.ptr 0 0),(7,.ptr 1 0),(10,.ptr (n+2) 0),(12,.sl (some 4) (n+7) p.cls.length 0 p.cls.length),(117,P4 p.cls.length),(118,P4 i)],H9⟩) () ⟨trivial,rfl⟩ ?_ ?_
  ·rintro i - hil -;have hcc:(i:Int)<(p.cls.length:Int):=by omega
   have w3:IntKind.i64.wrap ((i:Int)+1)=((i+1:Nat):Int):=by rw[zO (by omega) (by omega)];omega
   obtain⟨x,hx⟩:∃x,p.cls[i]? =some x:=⟨_,Zd hil⟩;have hxm:=Zi hx;obtain⟨x1,x2,-,-,-,-,-⟩:=V5 hv hpm hxm;have hav:(ansC (genG p.name k) ((k:Int)+2) x).valid=true:=by rw[<-hg];exact hall x hxm
   have hvr:=ou x1 x2 hav;have hl:=hld i x hx [];rw[ZF] at hl;obtain⟨u,hu⟩:∃u,u=shT ((k:Int)+2) x.cl.head:=⟨_,rfl⟩;obtain⟨v,hve⟩:∃v,v=shT ((k:Int)+2) x.cl.body:=⟨_,rfl⟩;rw[<-hu,<-hve] at hl hvr;have hz1:(strT [99] [u,v]).size<1000000000/\(strT [99] [x.cl.head,x.cl.body]).size<1000000000:=by
    simp only[vari,Zk] at hvr;exact⟨fit9 hvr.1,fit9 hvr.2.1⟩
   have i0:∀(a b c:PV) s kk,Yc (some 4) [.pv s (.sl (some 4) [a,b,c]),.pv none (.int kk 0)]=some (.iptr (some 4) a 0):=fun _ _ _ _ _=>rfl;have i1:∀(a b c:PV) s kk,Yc (some 4) [.pv s (.sl (some 4) [a,b,c]),.pv none (.int kk 1)]=some (.iptr (some 4) b 0):=fun _ _ _ _ _=>rfl;have i2:∀(a b c:PV) s kk,Yc (some 4) [.pv s (.sl (some 4) [a,b,c]),.pv none (.int kk 2)]=some (.iptr (some 4) c 0):=fun _ _ _ _ _=>rfl;have b1:=fun hp=>n_ok x.id hp;have b2:=fun hp=>V3 (intT x.id) (intT x.id) hp (fit9 (jD _)) (fit9 (jD _));rw[V4 (jD _)] at b2;have b3:=fun hp=>f_ok [99] [u,v] hp;have b4:=fun hp=>f_ok [99] [x.cl.head,x.cl.body] hp;have b5:=fun hp=>OI (strT [99] [u,v]) (strT [99] [x.cl.head,x.cl.body]) hp hz1.1 hz1.2;rw[hvr] at b5;have p1:PV.part deep x.pv 1 (some 4)=some x.cl.head.pv:=by obtain⟨_,⟨⟨_,_,_,_⟩,⟨_,_,_,_⟩⟩⟩:=x;rfl
   have p5:PV.part deep x.pv 5 (some 4)=some x.cl.body.pv:=by obtain⟨_,⟨⟨_,_,_,_⟩,⟨_,_,_,_⟩⟩⟩:=x;rfl
   have l3:∀a b c:PV,(([a,b,c]:List PV).length:Int)=3:=fun _ _ _=>rfl;simp only[Tm.av,Tm.pvs] at b1 b2 b3 b4 b5;simp -dsimp -implicitDefEqProofs only[go_sem,seval,hcc,w3,hia i hil,hl,l3,i0,i1,i2,b1,b2,b3,b4,b5,r1',Y7,zM (Sto.pvs_get hx),YK,p1,p5];exact⟨(),congrArg (St.mk _) (xJ rfl)⟩
  ·rintro - -;have hcc:¬(p.cls.length:Int)<(p.cls.length:Int):=by omega
   by_cases e0:p.cls.length=0
   ·have e0':((p.cls.length:Int)=0)=True:=Zg (by omega);simp -dsimp -implicitDefEqProofs only[go_sem,seval,hcc,e0',haw]
    done
   have e0':((p.cls.length:Int)=0)=False:=Zj (by omega);obtain⟨j,hj,hjl⟩:∃j:Nat,w.tmod (p.cls.length:Int)=(j:Int)/\j<p.cls.length:=by
    have h1:w.tmod (p.cls.length:Int)=w % (p.cls.length:Int):=Int.tmod_eq_emod_of_nonneg hw.1;have h2:=Int.emod_nonneg w (show(p.cls.length:Int)≠0 by omega);have h3:=Int.emod_lt_of_pos w (show 0<(p.cls.length:Int) by omega);exact⟨(w % (p.cls.length:Int)).toNat,by omega,by omega⟩
   have hcv2:IntKind.i64.wrap w=w:=zO (by omega) (by omega);have hrm2:yc .rem .i64 w (p.cls.length:Int)=some (.int .i64 (j:Int)):=by rw[u0 (by omega),hj]
   obtain⟨x,hx⟩:∃x,p.cls[j]? =some x:=⟨_,Zd hjl⟩;have hl:=hld j x hx [];rw[ZF] at hl;have i2:∀(a b c:PV) s kk,Yc (some 4) [.pv s (.sl (some 4) [a,b,c]),.pv none (.int kk 2)]=some (.iptr (some 4) c 0):=fun _ _ _ _ _=>rfl;obtain⟨er,hEr⟩:∃er,er=strT derN [intT x.id]:=⟨_,rfl⟩;obtain⟨sv,hsv⟩:∃sv,sv=sA derN [intT x.id]:=⟨_,rfl⟩;have d1:=fun hp=>oy derN [intT x.id] (by simp) hp;rw[<-hsv] at d1;obtain⟨y1,y2,y3,y4⟩:=ox hv hpm hx;obtain⟨dm,hdm⟩:∃dm,dm=(eraR d x.id).1:=⟨_,rfl⟩;rw[<-hdm] at y2 y3 y4;have cy1:=oQ hv y1;rw[<-hEr,<-hdm] at cy1;have cy2:=oR y2 y3;rw[<-hEr] at cy2;have hErv:er.valid=true:=by rw[hEr];exact(V2 x.id).v
   have hfz:∀H:Heap,AV.freeze deep sv H=some (er.pv,H)/\sv.shp=some 4:=fun H=>by rw[hsv,hEr];exact⟨rfl,rfl⟩
   have d2:∀H,S 25 [d.av,sv,.tsl (some 4) [er.pv]] H=some (.ret (.tuple [dm.av,P5 true]),H):=fun H=>by
    refine V6 cy1 (fun t ht=>by rw[List.mem_singleton.1 ht];exact hErv) (by simp) ?_;rw[hsv,hEr];rfl
   have d4:∀H,S 25 [dm.av,sv,.tsl (some 4) []] H=some (.ret (.tuple [dm.av,P5 true]),H):=fun H=>by
    refine V6 cy2 (fun t ht=>by cases ht) (by simp) ?_;rw[hsv,hEr];rfl
   have hbs:∀H:Heap,YN (some 4) H [sv]=some (.tsl (some 4) [er.pv],H):=fun H=>by
    simp[YN,zZ,(hfz H).1,(hfz H).2,YE]
   obtain⟨M,hM⟩:∃M,H9.length=M:=⟨_,rfl⟩;have st17:∀(b:AV) (c:AObj),zK (some 4) 0 (H9++[.box (some 4) b,c]) [.ptr M 0,sv]=some (.undef,H9++[.box (some 4) sv,c]):=fun b c=>by
    rw[hsv];simp[zK,astore,zX hM,Yg hM,sA,AV.plain,AV.shp,AV.own,total,Sh.size,zU,Y3,Tm.pvs]
   have hbm:=Qz y2;have h6:=fun hp=>Qy dm hbm.1 hbm.2.1 hbm.2.2 hp;rw[y2] at h6;unfold derN at d1;simp only[Tm.av,Dbs.av,Tm.pvs] at d1 d2 d4 h6;have w4:IntKind.i64.wrap ((j:Int)+1)=((j+1:Nat):Int):=by rw[zO (by omega) (by omega)];omega
   simp -dsimp -implicitDefEqProofs only[go_sem,seval,hcc,e0',hcv2,hrm2,hia j hjl,hl,i2,d1,d2,h6,hbs,st17,hnil,r0,r0',hM,getN hM,zX hM,setN hM,Yg hM,zT];obtain⟨N,hN⟩:∃N:Heap,N=H9++[.box (some 4) sv,.arr (some 4) [] false,.box (some 2) (.pv (some 2) dm.pv)]:=⟨_,rfl⟩;have z7:=r7 [.box (some 4) sv,.arr (some 4) [] false,.box (some 2) (.pv (some 2) dm.pv)];have z2:∀Y:Heap,(N++Y)[n+2]? =some (.box (some 4) (.pv (some 4) g.pv)):=fun Y=>by rw[hN,Zl,r2]
   have z17:∀Y:Heap,(N++Y)[M]? =some (.box (some 4) sv):=fun Y=>by rw[hN,Zl,zX hM];rfl
   have z18:∀Y:Heap,(N++Y)[M+2]? =some (.box (some 2) (.pv (some 2) dm.pv)):=fun Y=>by rw[hN,Zl,getN hM];rfl
   rw[<-hN] at z7 ⊢;obtain⟨x1,X1,rv,Y1,s1,s2,ap1,ap2,rsh,rpl,Z1,rfz⟩:=oM N (n+7) p.cls.length j (Tm.pvs ts) hjl hc5 (by rw[Tm.pvs_len,htl]) z7;have hrest:(Tm.pvs ts).take j++(Tm.pvs ts).drop (j+1)=Tm.pvs ((p.cls.take j++p.cls.drop (j+1)).map (ansC g ((k:Int)+2))):=by
    rw[hts];simp[Tm.zAw,List.map_take,List.map_drop]
   rw[hrest] at rfz;have hpm2:(⟨p.name,p.ar,p.dyn,p.cls.take j++p.cls.drop (j+1)⟩:Prc)∈dm.procs:=((jx y2 _ _ _).1 y4).1;have hall2:∀s∈p.cls.take j++p.cls.drop (j+1),(ansC g ((k:Int)+2) s).valid=true:=fun s hs=>hall s (by
    rcases zj.1 hs with h|h
    ·exact List.mem_of_mem_take h
    ·exact List.mem_of_mem_drop h)
   have cy3:=oO y2 hpm2 hk (by
    show yL dm p.name k=false;rw[yL,<-hk,y4,hk,hre,hdy];rfl) (by rw[hg] at hall2;exact hall2)
   have cy3:Q6 dm g dm ((p.cls.take j++p.cls.drop (j+1)).map (ansC g ((k:Int)+2))):=by rw[hg];exact cy3
   have d3:S 25 [dm.av,g.av,rv] (N++Y1)=some (.ret (.tuple [dm.av,P5 true]),N++Z1):=by
    refine V6 cy3 (fun t ht=> ?_) (by simp;omega) ?_
    ·obtain⟨s,hs,rfl⟩:=ZI.1 ht;exact hall2 s hs
    ·simp only[Dbs.av,Tm.av,Gc];simp only[zZ,rfz,rsh,Gb]
   obtain⟨L,hL⟩:∃L,(N++Z1).length=L:=⟨_,rfl⟩;simp only[Tm.av,Dbs.av] at d3;simp -dsimp -implicitDefEqProofs only[go_sem,seval,s1,s2,w4,ap1,ap2,d3,d4,z2,z17,z18,hnil,haw,zT]
   done
end Go.Proofs.YtgedfopkiebjkaaGreatDoor
