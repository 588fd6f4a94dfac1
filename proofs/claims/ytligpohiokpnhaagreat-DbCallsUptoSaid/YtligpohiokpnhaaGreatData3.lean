/- The reference's Add: all cases together. -/
import Derived.Test.YtligpohiokpnhaaGreatRd9
import Derived.Test.YtligpohiokpnhaaGreatRd3
import Derived.Test.YtligpohiokpnhaaGreatSml
import Derived.Test.YtligpohiokpnhaaGreatAm5
import Derived.Test.YtligpohiokpnhaaGreatDb10
set_option linter.unusedSimpArgs false
set_option linter.unusedVariables false
namespace Go.Proofs.YtligpohiokpnhaaGreat
open Go.Am
theorem M3(d:Dbs)(hb:BndD d)(c:Cz)(z1:c.head.size<100000000)(z2:c.body.size<100000000)(fr dy:Bool)(h:okD d=false\/okC c=false)(hp:Heap):S 25 [d.av,c.av,.pv none (.bool fr),.pv none (.bool dy)] hp=some (.ret (.tuple [YB.av,.pv none (.int .i64 1)]),hp):=by
 refine Ya rfl rfl rfl (z9 [(some 2,d.pv),(some 8,c.pv),(none,.bool fr),(none,.bool dy)]) rfl ?_;have h1:=fun hp=>yH d hb hp;have h2:=fun hp=>Ja c z1 z2 hp;have hz0:Yi A1 [] []=some (.agg A1):=rfl;have hnil:∀H:Heap,Yb A3 H=(A3,H):=fun _=>rfl;simp only[Dbs.av] at h1;simp only[Cz.av] at h2;cases hv:okD d with
 |false=>
  rw[hv] at h1;simp -dsimp -implicitDefEqProofs only[c25,go_sem,seval,↓reduceIte,Dbs.av,Cz.av,h1,hz0,hnil,z7 (Zd _)];exact⟨_,rfl⟩
 |true=>
  have hn:okC c=false:=by
   rcases h with h|h
   ·rw[hv] at h;cases h
   ·exact h
  rw[hv] at h1;rw[hn] at h2;simp -dsimp -implicitDefEqProofs only[c25,go_sem,seval,↓reduceIte,Dbs.av,Cz.av,h1,h2,hz0,hnil,z7 (Zd _)];exact⟨_,rfl⟩
theorem jB{d:Dbs}(hv:okD d=true)(hp:Heap):S 16 [d.av] hp=some (.ret (.pv none (.int .i64 (totD d.procs))),hp):=by
 have h:=(YG d).1 hv;obtain⟨r,h1,h2,_⟩:=GF d (by omega) (by omega);rw[h1,h2 (by omega)]
theorem M4{d:Dbs}(hv:okD d=true)(s:List UInt8)(a:Int):decide (0<=atR d.procs s a)=fnD d.procs (keyP s a):=by
 rw[X7 (Xt hv)];cases fnD d.procs (keyP s a) with
 |true=>rw[Zc rfl];exact Zs (by omega)
 |false=>rw[Za (by decide)];rfl
set_option maxRecDepth 20000 in
theorem GS(d:Dbs)(hb:BndD d)(c:Cz)(z1:c.head.size<100000000)(z2:c.body.size<100000000)(fr dy:Bool)(hv:okD d=true)(hn:okC c=true)(h:totD d.procs=500\/d.next=4294967296\/fnD d.procs (keyP c.head.name c.head.args.length)=false/\d.procs.length=500)(hp:Heap):S 25 [d.av,c.av,.pv none (.bool fr),.pv none (.bool dy)] hp=some (.ret (.tuple [YB.av,.pv none (.int .i64 13)]),hp):=by
 refine Ya rfl rfl rfl (z9 [(some 2,d.pv),(some 8,c.pv),(none,.bool fr),(none,.bool dy)]) rfl ?_;have h1:=fun hp=>yH d hb hp;have h2:=fun hp=>Ja c z1 z2 hp;have hd5:=(YG d).1 hv;have h3:=fun hp=>Qs d (by omega) c.head.name c.head.args.length hp;have hge:=M4 hv c.head.name c.head.args.length;have h4:=fun hp=>jB hv hp;have hz0:Yi A1 [] []=some (.agg A1):=rfl;have hnil:∀H:Heap,Yb A3 H=(A3,H):=fun _=>rfl;simp only[Dbs.av] at h1 h3 h4;simp only[Cz.av] at h2;rw[hv] at h1;rw[hn] at h2;obtain⟨⟨hk,hi,hna,has⟩,bd⟩:=c;have hpn:PV.part deep (Cz.pv ⟨⟨hk,hi,hna,has⟩,bd⟩) 2 none=some (.str hna):=rfl;have hpa:PV.part deep (Cz.pv ⟨⟨hk,hi,hna,has⟩,bd⟩) 3 none=some (.sl (some 4) (Tm.pvs has)):=rfl;have ea:(Tm.mk hk hi hna has).args=has:=rfl;have en:(Tm.mk hk hi hna has).name=hna:=rfl;simp only[ea,en] at h3 h hge;by_cases k1:totD d.procs=500
 ·have t1:((500:Int)<=(totD d.procs:Int))=True:=Zo (by omega);simp -dsimp -implicitDefEqProofs only[hpn,hpa,Tm.pvs_len,g25,c25r0,c25r1,c25r2,c25k3,c25r4,c25r5,c25r6,c25r7,c25k8,c25r9,c25r10,c25r11,c25k12,c25r13,c25r14,c25r15,c25r16,c25r17,c25k18,c25r19,c25r20,c25,go_sem,seval,↓reduceIte,Dbs.av,Cz.av,h1,h2,h3,h4,t1,hge,hz0,hnil,z7 (Zd _)];exact⟨_,rfl⟩
 ·have t1:((500:Int)<=(totD d.procs:Int))=False:=Zl (by omega);by_cases k2:d.next=4294967296
  ·have t2:((4294967296:Int)<=d.next)=True:=Zo (by omega);simp -dsimp -implicitDefEqProofs only[hpn,hpa,Tm.pvs_len,g25,c25r0,c25r1,c25r2,c25k3,c25r4,c25r5,c25r6,c25r7,c25k8,c25r9,c25r10,c25r11,c25k12,c25r13,c25r14,c25r15,c25r16,c25r17,c25k18,c25r19,c25r20,c25,go_sem,seval,↓reduceIte,Dbs.av,Cz.av,Yp,h1,h2,h3,h4,t1,t2,hge,hz0,hnil,z7 (Zd _)];exact⟨_,rfl⟩
  ·have t2:((4294967296:Int)<=d.next)=False:=Zl (by omega);have h':fnD d.procs (keyP hna has.length)=false/\d.procs.length=500:=by
    rcases h with h|h|h
    ·exact absurd h k1
    ·exact absurd h k2
    ·exact h
   obtain⟨k3,k4⟩:=h';rw[k3] at hge;have hlt:((0:Int)<=atR d.procs hna has.length)=False:=Zl (of_decide_eq_false hge);have t3:((500:Int)<=(d.procs.length:Int))=True:=Zo (by omega);simp -dsimp -implicitDefEqProofs only[hpn,hpa,Tm.pvs_len,g25,c25r0,c25r1,c25r2,c25k3,c25r4,c25r5,c25r6,c25r7,c25k8,c25r9,c25r10,c25r11,c25k12,c25r13,c25r14,c25r15,c25r16,c25r17,c25k18,c25r19,c25r20,c25,go_sem,seval,↓reduceIte,Dbs.av,Cz.av,Yp,Ye,Prc.pvs_len,h1,h2,h3,h4,t1,t2,t3,hlt,hz0,hnil,z7 (Zd _)];exact⟨_,rfl⟩
theorem GT:c25=.seq (.region true c25r0 [2,3,4,5,8]) (.seq (.seq (.region true c25r1 [2,3,4,5,8,23]) c25k3) (.seq (.region true c25r4 [2,3,4,5,8,10,11]) (.seq (.region true c25r5 [2,3,4,5,8,10,11,12]) (.seq (.seq (.region true c25r6 [2,3,4,5,8,10,11,12,54]) c25k8) (.seq (.region true c25r9 [2,3,4,5,8,10,11,12,13]) (.seq (.seq (.region true c25r10 [2,3,4,5,8,10,11,13,59]) c25k12) tlA)))))):=rfl
theorem GU{s0 s1:AV}(k:SlK s1)(n m:Int)(x0 x1 x2:AObj)(E:Heap):z8 (some 2) 0 (x0::x1::x2::(E++[.box (some 2) (agD m s0)])) [.ptr (E.length+1+1+1) 0,agD n s1]=some (.undef,x0::x1::x2::(E++[.box (some 2) (agD n s1)])):=by
 obtain⟨_,_,_,_,f5,f6,f7⟩:=Xr k;simp[z8,astore,f5,f6,f7]
theorem M5{s0 s1:AV}(k:SlK s1)(n m:Int)(x0 x1 x2:AObj)(E X:Heap):z8 (some 2) 0 (x0::x1::x2::(E++.box (some 2) (agD m s0)::X)) [.ptr (E.length+1+1+1) 0,agD n s1]=some (.undef,x0::x1::x2::(E++.box (some 2) (agD n s1)::X)):=by
 obtain⟨_,_,_,_,f5,f6,f7⟩:=Xr k;simp[z8,astore,f5,f6,f7]
set_option maxRecDepth 20000 in
theorem M6(d:Dbs)(hb:BndD d)(c:Cz)(z1:c.head.size<100000000)(z2:c.body.size<100000000)(fr dy:Bool)(hv:okD d=true)(hn:okC c=true)(ht:totD d.procs≠500)(hx:d.next≠4294967296)(hf:fnD d.procs (keyP c.head.name c.head.args.length)=true)(p:Prc)(i:Nat)(hi:i=lbD d.procs (keyP c.head.name c.head.args.length))(hpp:d.procs[i]? =some p)(hp:Heap):S 25 [d.av,c.av,.pv none (.bool fr),.pv none (.bool dy)] hp=some (.ret (.tuple [(⟨d.next+1,d.procs.set i ⟨p.name,p.ar,p.dyn,insC fr ⟨d.next,c⟩ p.cls⟩⟩:Dbs).av,.pv none (.int .i64 0)]),hp):=by
 refine Ya rfl rfl rfl (z9 [(some 2,d.pv),(some 8,c.pv),(none,.bool fr),(none,.bool dy)]) rfl ?_;have h1:=fun hp=>yH d hb hp;have h2:=fun hp=>Ja c z1 z2 hp;have hd5:=(YG d).1 hv;have h3:=fun hp=>Qs d (by omega) c.head.name c.head.args.length hp;have hat:atR d.procs c.head.name c.head.args.length=(i:Int):=by rw[X7 (Xt hv),Zc hf,hi]
 have h4:=fun hp=>jB hv hp;have h0i:((0:Int)<=(i:Int))=True:=Zo (by omega);obtain⟨b0,hb0⟩:∃b0:AObj,b0=.box (some 2) (.pv (some 2) d.pv):=⟨_,rfl⟩;obtain⟨b1,hb1⟩:∃b1:AObj,b1=.box (some 8) (.pv (some 8) c.pv):=⟨_,rfl⟩;obtain⟨w0,hw0⟩:∃w0:AV,w0=.agg A1:=⟨_,rfl⟩;obtain⟨s0,qs,E,h6,hQ⟩:=Qt d hv [b0,b1,.box (some 2) w0];have hk:=hQ.own.slK;have hnil:∀H:Heap,Yb A3 H=(A3,H):=fun _=>rfl;have hst:=GU (s0:=.nilv (some 4)) hk d.next 0 b0 b1 (.box (some 2) w0) E
 have t1:((500:Int)<=(totD d.procs:Int))=False:=Zl (by omega);have t2:((4294967296:Int)<=d.next)=False:=Zl (by omega);have hpm:=Zi hpp;have hc5:p.cls.length<=500:=by have:=ye hpm;omega
 have hQ':OwnQ s0 d.procs qs (b0::b1::.box (some 2) w0::(E++[.box (some 2) (agD d.next s0)])):=hQ.app [.box (some 2) (agD d.next s0)];have hT:=fun F=>GR d c hn z1 z2 (by omega) (by omega) fr b0 b1 hb0 hb1 w0 (E++[.box (some 2) (agD d.next s0)]) E.length s0 d.procs qs (yY _ _) hQ' p i hpp hat hc5 (by omega) F;rw[hat] at h3;simp only[Dbs.av,ZK,ZJ] at h1 h3 h4 h6;simp only[Cz.av] at h2;rw[hv] at h1;rw[hn] at h2;have hC:c.av=.pv (some 8) c.pv:=rfl;have hpn:PV.part deep c.pv 2 none=some (.str c.head.name):=by
  obtain⟨⟨hk,hi,hna,has⟩,bd⟩:=c;rfl
 have hpa:PV.part deep c.pv 3 none=some (.sl (some 4) (Tm.pvs c.head.args)):=by
  obtain⟨⟨hk,hi,hna,has⟩,bd⟩:=c;rfl
 subst hb0 hb1;rw[hw0] at h6 hst;simp only[agD] at hst h6;simp -dsimp -implicitDefEqProofs only[GT,g25,c25r0,c25r1,c25r2,c25k3,c25r4,c25r5,c25r6,c25r7,c25k8,c25r9,c25r10,c25r11,c25k12,c25r13,c25r14,c25r15,c25r16,c25r17,c25k18,c25r19,c25r20,go_sem,seval,↓reduceIte,Dbs.av,hC,Yp,hpn,hpa,Tm.pvs_len,h1,h2,h3,h4,h6,h0i,t1,t2,hst,yY,Xs,hnil];rw[hw0] at hT;exact hT _ rfl rfl rfl rfl rfl rfl rfl
theorem M7{l:List Prc}(hp:l.Pairwise (fun a b=>ordP a b<0))(s:List UInt8)(a:Int)(b:Bool)(L:List Sto):atR (l.take (lbD l (keyP s a))++(⟨s,a,b,L⟩:Prc)::l.drop (lbD l (keyP s a))) s a=(lbD l (keyP s a):Int):=by
 obtain⟨c1,_⟩:=kX (keyP s a) hp;have hle:=xL l (keyP s a);obtain⟨i1,i2,i3⟩:=Jg (⟨s,a,b,L⟩:Prc) hle;unfold atR;have:(l.take (lbD l (keyP s a))++(⟨s,a,b,L⟩:Prc)::l.drop (lbD l (keyP s a))).findIdx? (fun p=>decide (p.name=s/\p.ar=a))=some (lbD l (keyP s a)):=by
  rw[z6];obtain⟨h1,h2⟩:=Zb.1 i2;refine⟨h1,by rw[h2];exact Zs ⟨rfl,rfl⟩,fun j hj=> ?_⟩;have hjl:j<l.length:=by omega
  have hm:l[j]∈l.take (lbD l (keyP s a)):=by
   refine ZS.2 ⟨j,?_⟩;rw[ZG,Zc hj,Zf hjl]
  have hlt:=c1 _ hm;have he:(l.take (lbD l (keyP s a))++(⟨s,a,b,L⟩:Prc)::l.drop (lbD l (keyP s a)))[j]? =some l[j]:=by rw[i1 j hj,Zf hjl]
  obtain⟨j1,j2⟩:=Zb.1 he;rw[j2];simp only[Zw];intro hkk;rw[(ordP_zero (p:=l[j]) (q:=keyP s a)).2 hkk] at hlt;omega
 rw[this]
set_option maxRecDepth 20000 in
theorem M8(d:Dbs)(hb:BndD d)(c:Cz)(z1:c.head.size<100000000)(z2:c.body.size<100000000)(fr dy:Bool)(hv:okD d=true)(hn:okC c=true)(ht:totD d.procs≠500)(hx:d.next≠4294967296)(hl:d.procs.length≠500)(hf:fnD d.procs (keyP c.head.name c.head.args.length)=false)(i:Nat)(hi:i=lbD d.procs (keyP c.head.name c.head.args.length))(hp:Heap):S 25 [d.av,c.av,.pv none (.bool fr),.pv none (.bool dy)] hp=some (.ret (.tuple [(⟨d.next+1,d.procs.take i++(⟨c.head.name,c.head.args.length,dy,[⟨d.next,c⟩]⟩:Prc)::d.procs.drop i⟩:Dbs).av,.pv none (.int .i64 0)]),hp):=by
 refine Ya rfl rfl rfl (z9 [(some 2,d.pv),(some 8,c.pv),(none,.bool fr),(none,.bool dy)]) rfl ?_;have h1:=fun hp=>yH d hb hp;have h2:=fun hp=>Ja c z1 z2 hp;have hd5:=(YG d).1 hv;have h3:=fun hp=>Qs d (by omega) c.head.name c.head.args.length hp;have hat:atR d.procs c.head.name c.head.args.length= -1:=by rw[X7 (Xt hv),hf];rfl
 have h4:=fun hp=>jB hv hp;obtain⟨b0,hb0⟩:∃b0:AObj,b0=.box (some 2) (.pv (some 2) d.pv):=⟨_,rfl⟩;obtain⟨b1,hb1⟩:∃b1:AObj,b1=.box (some 8) (.pv (some 8) c.pv):=⟨_,rfl⟩;obtain⟨w0,hw0⟩:∃w0:AV,w0=.agg A1:=⟨_,rfl⟩;obtain⟨s0,qs,E,h6,hQ⟩:=Qt d hv [b0,b1,.box (some 2) w0];have hk:=hQ.own.slK;have hnil:∀H:Heap,Yb A3 H=(A3,H):=fun _=>rfl;have hst:=GU (s0:=.nilv (some 4)) hk d.next 0 b0 b1 (.box (some 2) w0) E
 have t1:((500:Int)<=(totD d.procs:Int))=False:=Zl (by omega);have t2:((4294967296:Int)<=d.next)=False:=Zl (by omega);have t3:((500:Int)<=(d.procs.length:Int))=False:=Zl (by omega);have hbd:Yi A2 [0,1,2] [.pv none (.str c.head.name),.pv none (.int .i64 c.head.args.length),.pv none (.bool dy)]=some (nwP c.head.name c.head.args.length dy):=rfl;have hQ':OwnQ s0 d.procs qs (b0::b1::.box (some 2) w0::(E++[.box (some 2) (agD d.next s0)])):=hQ.app [.box (some 2) (agD d.next s0)];obtain⟨s1,qs1,E2,h5,hQ5⟩:=GN (n:=d.next) hQ' (by omega) c.head.name c.head.args.length dy;rw[GM (Xt hv) _ _ _ hf,<-hi] at hQ5;have hk1:=hQ5.own.slK;have hst2:=M5 (s0:=s0) hk1 d.next d.next b0 b1 (.box (some 2) w0) E E2
 have hQ6:OwnQ s1 (d.procs.take i++(⟨c.head.name,c.head.args.length,dy,[]⟩:Prc)::d.procs.drop i) qs1 (b0::b1::.box (some 2) w0::(E++.box (some 2) (agD d.next s1)::E2)):=by
  have e:b0::b1::.box (some 2) w0::(E++.box (some 2) (agD d.next s1)::E2)=(b0::b1::.box (some 2) w0::(E++[.box (some 2) (agD d.next s0)])++E2).set (E.length+1+1+1) (.box (some 2) (agD d.next s1)):=by simp
  have g:(b0::b1::.box (some 2) w0::(E++[.box (some 2) (agD d.next s0)])++E2)[E.length+1+1+1]? =some (.box (some 2) (agD d.next s0)):=by simp
  rw[e];exact hQ5.fs (by intro s es z h;rw[g] at h;cases h) (by intro s es h;rw[g] at h;cases h)
 have hle:=xL d.procs (keyP c.head.name c.head.args.length);obtain⟨_,i2,_⟩:=Jg (⟨c.head.name,c.head.args.length,dy,[]⟩:Prc) (show i<=d.procs.length by omega);have hat2:atR (d.procs.take i++(⟨c.head.name,c.head.args.length,dy,[]⟩:Prc)::d.procs.drop i) c.head.name c.head.args.length=(i:Int):=by rw[hi];exact M7 (Xt hv) _ _ _ _
 have hnl:(d.procs.take i++(⟨c.head.name,c.head.args.length,dy,[]⟩:Prc)::d.procs.drop i).length<1000000:=by simp;omega
 have hgm:(E++AObj.box (some 2) (agD d.next s1)::E2)[E.length]? =some (.box (some 2) (agD d.next s1)):=by simp
 have hset:(d.procs.take i++(⟨c.head.name,c.head.args.length,dy,[]⟩:Prc)::d.procs.drop i).set i ⟨c.head.name,c.head.args.length,dy,insC fr ⟨d.next,c⟩ []⟩=d.procs.take i++(⟨c.head.name,c.head.args.length,dy,[⟨d.next,c⟩]⟩:Prc)::d.procs.drop i:=by
  have e1:(d.procs.take i).length=i:=by rw[Zh];omega
  have e2:insC fr ⟨d.next,c⟩ []=[⟨d.next,c⟩]:=by cases fr <;> rfl
  rw[zu _ _ (by omega),e1,ZX,e2];rfl
 have hT:=fun F=>GR d c hn z1 z2 (by omega) (by omega) fr b0 b1 hb0 hb1 w0 _ E.length s1 _ qs1 hgm hQ6 _ i i2 hat2 (by show 0<=500;omega) hnl F;rw[hset] at hT;rw[hat] at h3;simp only[Dbs.av,ZK,ZJ,ZD] at h1 h3 h4 h5 h6;simp only[Cz.av] at h2;rw[hv] at h1;rw[hn] at h2;have hC:c.av=.pv (some 8) c.pv:=rfl;have hpn:PV.part deep c.pv 2 none=some (.str c.head.name):=by
  obtain⟨⟨hk,hi,hna,has⟩,bd⟩:=c;rfl
 have hpa:PV.part deep c.pv 3 none=some (.sl (some 4) (Tm.pvs c.head.args)):=by
  obtain⟨⟨hk,hi,hna,has⟩,bd⟩:=c;rfl
 subst hb0 hb1;rw[hw0] at h6 h5 hst hst2;simp only[agD] at hst hst2 h5 h6;simp -dsimp -implicitDefEqProofs only[GT,g25,c25r0,c25r1,c25r2,c25k3,c25r4,c25r5,c25r6,c25r7,c25k8,c25r9,c25r10,c25r11,c25k12,c25r13,c25r14,c25r15,c25r16,c25r17,c25k18,c25r19,c25r20,go_sem,seval,↓reduceIte,Dbs.av,hC,Yp,Ye,Prc.pvs_len,hpn,hpa,Tm.pvs_len,h1,h2,h3,h4,h5,h6,hbd,t1,t2,t3,hst,hst2,yY,Xs,hnil];rw[hw0] at hT;exact hT _ rfl rfl rfl rfl rfl rfl rfl
theorem M9(d:Dbs)(hb:BndD d)(c:Cz)(z1:c.head.size<100000000)(z2:c.body.size<100000000)(fr dy:Bool)(hp:Heap):S 25 [d.av,c.av,.pv none (.bool fr),.pv none (.bool dy)] hp=some (.ret (.tuple [(addR d c fr dy).1.av,.pv none (.int .i64 (addR d c fr dy).2)]),hp):=by
 by_cases h:okD d=false\/okC c=false
 ·rw[M3 d hb c z1 z2 fr dy h hp];simp only[addR,Zc h]
 ·have hv:okD d=true:=by cases e:okD d with|true=>rfl|false=>exact absurd (Or.inl e) h
  have hn:okC c=true:=by cases e:okC c with|true=>rfl|false=>exact absurd (Or.inr e) h
  by_cases h0:totD d.procs=500\/d.next=4294967296
  ·rw[GS d hb c z1 z2 fr dy hv hn (by rcases h0 with k|k;exact .inl k;exact .inr (.inl k)) hp];simp only[addR,Za h,Zc h0]
  ·cases hf:fnD d.procs (keyP c.head.name c.head.args.length) with
   |true=>
    obtain⟨p,hpp⟩:=XN hf;rw[M6 d hb c z1 z2 fr dy hv hn (fun k=>h0 (.inl k)) (fun k=>h0 (.inr k)) hf p _ rfl hpp hp];simp only[addR,Za h,Za h0,hf,hpp]
   |false=>
    by_cases hl:d.procs.length=500
    ·rw[GS d hb c z1 z2 fr dy hv hn (.inr (.inr ⟨hf,hl⟩)) hp];simp only[addR,Za h,Za h0,hf,Zc hl]
    ·rw[M8 d hb c z1 z2 fr dy hv hn (fun k=>h0 (.inl k)) (fun k=>h0 (.inr k)) hl hf _ rfl hp];simp only[addR,Za h,Za h0,hf,Za hl]
def Fb(H H':Heap):Prop:=H'.length=H.length/\∀(k:Nat) (s:Sh) (v:AV),H[k]? =some (AObj.box s v)->H'[k]? =some (AObj.box s v)
theorem Fb.refl(H:Heap):Fb H H:=⟨rfl,fun _ _ _ h=>h⟩
theorem Fb.trans{A B C:Heap}(h1:Fb A B)(h2:Fb B C):Fb A C:=⟨h2.1.trans h1.1,fun k s v h=>h2.2 k s v (h1.2 k s v h)⟩
theorem Fb.set{H:Heap}{q:Nat}{o:AObj}(h:∀s v,H[q]?≠some (AObj.box s v)):Fb H (H.set q o):=⟨zf,fun k s v hk=>by
 by_cases e:q=k
 ·subst e;exact absurd hk (h s v)
 ·rw[Zk e,hk]⟩
theorem Vh(d:Nat)(ih:∀a hp p hp',AV.freeze0 d a hp=some (p,hp')->Fb hp hp'):∀(l:List (Sh × AV)) hp ps hp',AV.freeze0.go d l hp=some (ps,hp')->Fb hp hp'
 |[],hp,ps,hp',h=>by
  simp only[AV.freeze0.go,Option.some.injEq,Prod.mk.injEq] at h;rw[<-h.2];exact Fb.refl _
 |(s,v)::r,hp,ps,hp',h=>by
  simp only[AV.freeze0.go] at h;split at h
  ·cases h
  ·rename_i p1 hp1 e1;split at h
   ·rename_i ps2 hp2 e2;simp only[Option.some.injEq,Prod.mk.injEq] at h;rw[<-h.2];exact(ih _ _ _ _ e1).trans (Vh d ih r _ _ _ e2)
   ·cases h
theorem jC{hp:Heap}{r:Nat}{sh:Sh}{es:List PV}{z:Bool}{o:AObj}(h:hp[r]? =some (.arr sh es z)):Fb hp (hp.set r o):=Fb.set (fun s v k=>by rw[h] at k;cases k)
theorem GV:∀(d:Nat) (a:AV) hp p hp',AV.freeze0 d a hp=some (p,hp')->Fb hp hp'
 |0,a,hp,p,hp',h=>by cases a <;> simp[AV.freeze0] at h
 |d+1,a,hp,p,hp',h=>by
  cases a <;> simp only[AV.freeze0,Option.some.injEq,Prod.mk.injEq,reduceCtorEq] at h
  case pv=>rw[<-h.2];exact Fb.refl _
  case tsl=>rw[<-h.2];exact Fb.refl _
  case nilv=>rw[<-h.2];exact Fb.refl _
  case sl=>
   split at h
   ·rename_i e;split at h
    ·simp only[Option.some.injEq,Prod.mk.injEq] at h;rw[<-h.2];exact jC e
    ·split at h
     ·simp only[Option.some.injEq,Prod.mk.injEq] at h;rw[<-h.2];exact jC e
     ·cases h
   ·cases h
  case agg=>
   split at h
   ·rename_i e;simp only[Option.some.injEq,Prod.mk.injEq] at h;rw[<-h.2];exact Vh d (fun a hp p hp' k=>GV d a hp p hp' k) _ _ _ _ e
   ·cases h
theorem GW(d:Nat)(ih:∀a hp p hp',AV.freeze d a hp=some (p,hp')->Fb hp hp'):∀(l:List (Sh × AV)) hp ps hp',AV.freeze.go d l hp=some (ps,hp')->Fb hp hp'
 |[],hp,ps,hp',h=>by
  simp only[AV.freeze.go,Option.some.injEq,Prod.mk.injEq] at h;rw[<-h.2];exact Fb.refl _
 |(s,v)::r,hp,ps,hp',h=>by
  simp only[AV.freeze.go] at h;split at h
  ·cases h
  ·rename_i p1 hp1 e1;split at h
   ·rename_i ps2 hp2 e2;simp only[Option.some.injEq,Prod.mk.injEq] at h;rw[<-h.2];exact(ih _ _ _ _ e1).trans (GW d ih r _ _ _ e2)
   ·cases h
theorem Vi:∀(d:Nat) (a:AV) hp p hp',AV.freeze d a hp=some (p,hp')->Fb hp hp'
 |0,a,hp,p,hp',h=>by cases a <;> simp[AV.freeze] at h
 |d+1,a,hp,p,hp',h=>by
  cases a <;> simp only[AV.freeze,Option.some.injEq,Prod.mk.injEq,reduceCtorEq] at h
  case pv=>rw[<-h.2];exact Fb.refl _
  case tsl=>rw[<-h.2];exact Fb.refl _
  case nilv=>rw[<-h.2];exact Fb.refl _
  case sl=>
   split at h
   ·rename_i e;split at h
    ·simp only[Option.some.injEq,Prod.mk.injEq] at h;rw[<-h.2];exact jC e
    ·split at h
     ·simp only[Option.some.injEq,Prod.mk.injEq] at h;rw[<-h.2];exact jC e
     ·cases h
   ·cases h
  case agg=>
   split at h
   ·rename_i e;simp only[Option.some.injEq,Prod.mk.injEq] at h;rw[<-h.2];exact GW d (fun a hp p hp' k=>Vi d a hp p hp' k) _ _ _ _ e
   ·cases h
  case slv=>
   split at h
   ·rename_i e;split at h
    ·split at h
     ·rename_i e2;split at h
      ·rename_i e3;split at h
       ·simp only[Option.some.injEq,Prod.mk.injEq] at h;rw[<-h.2];exact(Vh d (fun a hp p hp' k=>GV d a hp p hp' k) _ _ _ _ e2).trans (Fb.set (fun s v k=>by rw[e3] at k;cases k))
       ·cases h
      ·cases h
     ·cases h
    ·cases h
   ·split at h
    ·simp only[Option.some.injEq,Prod.mk.injEq] at h;rw[<-h.2];exact Fb.refl _
    ·cases h
   ·cases h
theorem mc{n:Int}{s:AV}{ps:List Prc}{H H':Heap}(hz:AV.freeze deep (agD n s) H=some ((⟨n,ps⟩:Dbs).pv,H'))(p:PV):Am.frozen (.tuple [(⟨n,ps⟩:Dbs).av,.pv none p]) (.tuple [agD n s,.pv none p]) H:=by
 have hsh:(agD n s).shp=some 2:=rfl;have e3:∀X,AV.freeze deep (.pv none p) X=some (p,X):=fun _=>rfl;refine⟨H',?_⟩;simp only[AV.freezeRes,Yn,hz,e3,hsh];rfl
theorem md(d:Dbs)(hb:BndD d)(s:List UInt8)(a:Int)(h:okD d=false\/fnD d.procs (keyP s a)=false)(hp:Heap):S 27 [d.av,.pv none (.str s),.pv none (.int .i64 a)] hp=some (.ret (.tuple [YB.av,.pv none (.bool false)]),hp):=by
 refine Ya rfl rfl rfl (z9 [(some 2,d.pv),(none,.str s),(none,.int .i64 a)]) rfl ?_;have h1:=fun hp=>yH d hb hp;have hz0:Yi A1 [] []=some (.agg A1):=rfl;have hnil:∀H:Heap,Yb A3 H=(A3,H):=fun _=>rfl;simp only[Dbs.av] at h1;cases hv:okD d with
 |false=>
  rw[hv] at h1;simp -dsimp -implicitDefEqProofs only[go_sem,seval,↓reduceIte,Dbs.av,h1,hz0,hnil,z7 (Zd _)];exact⟨_,rfl⟩
 |true=>
  have hf:fnD d.procs (keyP s a)=false:=by
   rcases h with h|h
   ·rw[hv] at h;cases h
   ·exact h
  have hd5:=(YG d).1 hv;have h3:=fun hp=>Qs d (by omega) s a hp;have hat:atR d.procs s a= -1:=by rw[X7 (Xt hv),hf];rfl
  rw[hat] at h3;rw[hv] at h1;simp only[Dbs.av] at h3;simp -dsimp -implicitDefEqProofs only[go_sem,seval,↓reduceIte,Dbs.av,h1,h3,hz0,hnil,z7 (Zd _)];exact⟨_,rfl⟩
theorem me(x0:AObj)(v:AV)(X:Heap)(r:AV):YL ⟨[(6,.ptr 1 0),(7,r)],x0::.box (some 2) v::X⟩ (6,some (some 2))=some v:=by
 simp[YL,Fr.look,aload]
set_option maxRecDepth 20000 in
theorem mf(d:Dbs)(hb:BndD d)(s:List UInt8)(a:Int)(hv:okD d=true)(hf:fnD d.procs (keyP s a)=true)(i:Nat)(hi:i=lbD d.procs (keyP s a))(hil:i<d.procs.length)(hp:Heap):S 27 [d.av,.pv none (.str s),.pv none (.int .i64 a)] hp=some (.ret (.tuple [(⟨d.next,d.procs.take i++d.procs.drop (i+1)⟩:Dbs).av,.pv none (.bool true)]),hp):=by
 refine Ya rfl rfl rfl (z9 [(some 2,d.pv),(none,.str s),(none,.int .i64 a)]) rfl ?_;have h1:=fun hp=>yH d hb hp;have hd5:=(YG d).1 hv;have h3:=fun hp=>Qs d (by omega) s a hp;have hat:atR d.procs s a=(i:Int):=by rw[X7 (Xt hv),Zc hf,hi]
 obtain⟨b0,hb0⟩:∃b0:AObj,b0=.box (some 2) (.pv (some 2) d.pv):=⟨_,rfl⟩;obtain⟨x1,hx1⟩:∃x1:AObj,x1=.box (some 2) (.agg A1):=⟨_,rfl⟩;obtain⟨s0,qs,E,h6,hQ⟩:=Qt d hv [b0,x1];have hQ':OwnQ s0 d.procs qs (b0::x1::(E++[.box (some 2) (agD d.next s0)])):=hQ.app [.box (some 2) (agD d.next s0)];have hO:=hQ'.own;have hk:=hO.slK;have h4:=Ji (n:=d.next) hO (by omega) s a;obtain⟨H',hz⟩:=hO.frz (n:=d.next);have hbx:=Vi _ _ _ _ _ hz;have hnil:∀H:Heap,Yb A3 H=(A3,H):=fun _=>rfl;have hst:=Qu (s0:=.nilv (some 4)) hk d.next 0 b0 x1 E ⟨_,rfl⟩
 have hi0:¬((i:Int)<0):=by omega
 obtain⟨T,hT,hTl⟩:∃T:Heap,H'.set (E.length+1+1) (.box (some 2) (.pv (some 2) d.pv))=b0::x1::T/\T[E.length]? =some (.box (some 2) (.pv (some 2) d.pv)):=by
  have l1:H'.length=E.length+1+1+1:=by rw[hbx.1];simp
  have g0:H'[0]? =some b0:=by rw[hb0];exact hbx.2 0 _ _ (by rw[<-hb0];rfl)
  have g1:H'[1]? =some x1:=by rw[hx1];exact hbx.2 1 _ _ (by rw[<-hx1];rfl)
  match H',l1,g0,g1 with
  |y0::y1::T,l1,g0,g1=>
   cases g0;cases g1;refine⟨T.set E.length (.box (some 2) (.pv (some 2) d.pv)),rfl,?_⟩;rw[Zr (by simp at l1;omega)]
 have hset:∀fr:Fr,qL [] ⟨fr,b0::x1::(E++[.box (some 2) (agD d.next s0)])⟩ (E.length+1+1) (some (.box (some 2) (agD d.next s0)))=some ⟨fr,b0::x1::T⟩:=fun fr=>by
  simp only[qL,hz,K5,hT]
 rw[hat] at h3 h4;simp only[Dbs.av,ZK,ZJ] at h1 h3 h6;rw[hv] at h1;subst hb0;rw[hx1] at h6 h4 hst hset;obtain⟨A,hA⟩:∃A,A=(Prc.pvs d.procs).take i:=⟨_,rfl⟩;obtain⟨B,hB⟩:∃B,B=(Prc.pvs d.procs).drop (i+1):=⟨_,rfl⟩;have hsl3:yA (some 4) false [.pv none (.sl (some 4) (Prc.pvs d.procs)),.pv none (.int .i64 i),.pv none (.int .i64 i)]=some (.tsl (some 4) A):=by
  simp[yA,Prc.pvs_len,hA];omega
 have hw:IntKind.i64.wrap ((i:Int)+1)=(i:Int)+1:=by
  rw[Yf (by omega) (by omega)]
 have hsl:YR (some 4) true false [.pv none (.sl (some 4) (Prc.pvs d.procs)),.pv none (.int .i64 ((i:Int)+1))]=some (.pv none (.sl (some 4) B)):=by
  have e:((i:Int)+1).toNat=i+1:=by omega
  simp[YR,aslice,Prc.pvs_len,hB,e];omega
 have hAB:Prc.pvs (d.procs.take i++d.procs.drop (i+1))=A++B:=by rw[hA,hB];simp[Prc.pvs]
 have hlAB:A.length+B.length<=lim:=by
  rw[hA,hB];simp[Prc.pvs_len];unfold lim;omega
 have hTlt:=YT hTl;have key:∀y0 y1:AObj,∃sv sv' T1 T2,yc (some 4) 0 (y0::y1::T) [.tsl (some 4) A,.pv none (.sl (some 4) B)]=some (sv,y0::y1::T1)/\z8 none 0 (y0::y1::T1) [.ptr (E.length+1+1) 1,sv]=some (.undef,y0::y1::T2)/\T2[E.length]? =some (.box (some 2) (agD d.next sv'))/\(∀(v:AV) (X:Heap),z8 (some 2) 0 (y0::.box (some 2) v::X) [.ptr 1 0,agD d.next sv']=some (.undef,y0::.box (some 2) (agD d.next sv')::X))/\∃H'',AV.freeze deep (agD d.next sv') (y0::.box (some 2) (agD d.next sv')::T2)=some ((⟨d.next,d.procs.take i++d.procs.drop (i+1)⟩:Dbs).pv,H''):=fun y0 y1=>by
  have hpv:(⟨d.next,d.procs.take i++d.procs.drop (i+1)⟩:Dbs).pv=.agg [(none,.int .i64 d.next),(none,.sl (some 4) (A++B))]:=by
   rw[<-hAB];rfl
  rw[hpv];by_cases cB:B=[]
  ·rw[cB] at hlAB ⊢;by_cases cA:A=[]
   ·rw[cA];obtain⟨r,hr⟩:∃r,r=T.length+1+1:=⟨_,rfl⟩;refine⟨.tsl (some 4) [],.sl (some 4) r 0 0 0,T,(T++[AObj.arr (some 4) [] false]).set E.length (.box (some 2) (agD d.next (.sl (some 4) r 0 0 0))),?_,?_,?_,fun v X=> ?_,?_⟩
    ·simp[yc,aappendv,elemsv,elems,Sh.size]
    ·have e:AV.upd deep (.pv (some 2) d.pv) 1 none (.sl (some 4) r 0 0 0)=some (agD d.next (.sl (some 4) r 0 0 0)):=rfl;simp[z8,astore,hTl,AV.plain,AV.shp,AV.own,Sh.size,<-hr,e]
    ·rw[Zr (by simp;omega)]
    ·simp[z8,astore,agD,AV.plain,AV.shp,AV.own,Yb,YQ,total,Sh.size]
    ·have g:((T++[AObj.arr (some 4) [] false]).set E.length (.box (some 2) (agD d.next (.sl (some 4) r 0 0 0))))[T.length]? =some (.arr (some 4) [] false):=by
      rw[Zk (by omega),Zp (Ze _),ZX];rfl
     have g2:(y0::AObj.box (some 2) (agD d.next (.sl (some 4) r 0 0 0))::(T++[AObj.arr (some 4) [] false]).set E.length (.box (some 2) (agD d.next (.sl (some 4) r 0 0 0))))[r]? =some (.arr (some 4) [] false):=by
      have e:r=T.length+1+1:=hr;generalize AObj.box (some 2) (agD d.next (.sl (some 4) r 0 0 0))=ob at g ⊢;rw[e];exact g
     have e:∀n l hp,AV.freeze (n+1) (.agg l) hp=match AV.freeze.go n l hp with|some (ps,hp')=>some (.agg ps,hp')|none=>none:=fun _ _ _=>rfl
     have e0:∀(x:PV) (s:Sh) (X:Heap),AV.freeze 7 (.pv s x) X=some (x,X):=fun _ _ _=>rfl;have e1:∀(X:Heap),X[r]? =some (.arr (some 4) [] false)->AV.freeze 7 (.sl (some 4) r 0 0 0) X=some (.sl (some 4) [],X.set r (.arr (some 4) [] true)):=fun X h=>by
      show AV.freeze (6+1) _ X=_;simp[AV.freeze,h]
     generalize y0::AObj.box (some 2) (agD d.next (.sl (some 4) r 0 0 0))::(T++[AObj.arr (some 4) [] false]).set E.length (.box (some 2) (agD d.next (.sl (some 4) r 0 0 0)))=Hx at g2 ⊢;refine⟨Hx.set r (.arr (some 4) [] true),?_⟩;show AV.freeze (7+1) (.agg _) _=_;simp only[e,AV.freeze.go,e0,e1 _ g2];rfl
   ·refine⟨.tsl (some 4) A,.tsl (some 4) A,T,T.set E.length (.box (some 2) (agD d.next (.tsl (some 4) A))),?_,?_,?_,fun v X=> ?_,?_⟩
    ·simp[yc,aappendv,elemsv,elems,Sh.size]
    ·have e:AV.upd deep (.pv (some 2) d.pv) 1 none (.tsl (some 4) A)=some (agD d.next (.tsl (some 4) A)):=rfl;have eo:∀X,(AV.tsl (some 4) A).own X=(.tsl (some 4) A,X):=fun X=>by
      cases A with
      |nil=>exact absurd rfl cA
      |cons x r=>rfl
     simp[z8,astore,hTl,AV.plain,AV.shp,eo,e]
    ·rw[Zr (by omega)]
    ·have eo:∀X,(AV.tsl (some 4) A).own X=(.tsl (some 4) A,X):=fun X=>by
      cases A with
      |nil=>exact absurd rfl cA
      |cons x r=>rfl
     have eo2:∀X,(agD d.next (.tsl (some 4) A)).own X=(agD d.next (.tsl (some 4) A),X):=fun X=>by
      cases A with
      |nil=>exact absurd rfl cA
      |cons x r=>rfl
     have e1:(agD d.next (.tsl (some 4) A)).plain=true:=rfl;have e2:(agD d.next (.tsl (some 4) A)).shp=some 2:=rfl;simp[z8,astore,eo2,e1,e2]
    ·rw[ZC];exact⟨_,rfl⟩
  ·obtain⟨n,hn⟩:∃n,n=A.length+B.length:=⟨_,rfl⟩;obtain⟨els,hels⟩:∃els,els=A.map (AV.pv (some 4))++B.map (AV.pv (some 4)):=⟨_,rfl⟩;have hel:els.length=n:=by rw[hels,hn];simp
   have hps:els=(d.procs.take i++d.procs.drop (i+1)).map Prc.av:=by
    rw[hels,<-zL,<-hAB];simp only[Prc.pvs,List.map_map];rfl
   have hpn:(d.procs.take i++d.procs.drop (i+1)).length=n:=by rw[<-hel,hps,zx]
   refine⟨.slv (some 4) (T.length+1+1) n 0 n,.slv (some 4) (T.length+1+1) n 0 n,T++[AObj.arv (some 4) els],(T++[AObj.arv (some 4) els]).set E.length (.box (some 2) (agD d.next (.slv (some 4) (T.length+1+1) n 0 n))),?_,?_,?_,fun v X=> ?_,?_⟩
   ·simp[yc,aappendv,elemsv,elems,Sh.size,cB,<-hn,hels];omega
   ·have e:AV.upd deep (.pv (some 2) d.pv) 1 none (.slv (some 4) (T.length+1+1) n 0 n)=some (agD d.next (.slv (some 4) (T.length+1+1) n 0 n)):=rfl;have g:(T++[AObj.arv (some 4) els])[E.length]? =some (.box (some 2) (.pv (some 2) d.pv)):=by rw[Zn hTlt,hTl]
    simp[z8,astore,g,AV.plain,AV.shp,AV.own,e]
   ·rw[Zr (by simp;omega)]
   ·simp[z8,astore,agD,AV.plain,AV.shp,AV.own,Yb,YQ,total,Sh.size]
   ·rw[<-hpv];have hO2:OwnD (.slv (some 4) (T.length+1+1) n 0 n) (d.procs.take i++d.procs.drop (i+1)) els (y0::.box (some 2) (agD d.next (.slv (some 4) (T.length+1+1) n 0 n))::(T++[AObj.arv (some 4) els]).set E.length (.box (some 2) (agD d.next (.slv (some 4) (T.length+1+1) n 0 n)))):=by
     refine .inr ⟨T.length+1+1,by rw[hpn],?_,by rw[hel,hpn],fun j p v hj hu=> ?_⟩
     ·show((T++[AObj.arv (some 4) els]).set E.length _)[T.length]? =_;rw[Zk (by omega),Zp (Ze _),ZX];rfl
     ·rw[hps,zw,hj] at hu;cases hu;exact .inl rfl
    exact hO2.frz
 obtain⟨sv,sv',T1,T2,k1,k2,k3,k4,H'',k5⟩:=key (.box (some 2) (.pv (some 2) d.pv)) (.box (some 2) (.agg A1));have hF:=mc k5 (.bool true);have hr:=fun X=>me (.box (some 2) (.pv (some 2) d.pv)) (agD d.next sv') X (.pv none (.bool true));clear key;simp only[agD] at hst hset h4 k3 k4 hF hr;simp -dsimp -implicitDefEqProofs only[agD] at h6;simp -dsimp -implicitDefEqProofs only[go_sem,seval,↓reduceIte,Dbs.av,Ye,Prc.pvs_len,h1,h3,h4,h6,hi0,hst,hset,hsl3,hsl,hw,hTl,hnil,k1,k2,k3,k4,hr,xN,yY,Xs];simp only[yr,Dbs.av] at hF;exact hF
theorem mg(d:Dbs)(hb:BndD d)(s:List UInt8)(a:Int)(hp:Heap):S 27 [d.av,.pv none (.str s),.pv none (.int .i64 a)] hp=some (.ret (.tuple [(aboR d s a).1.av,.pv none (.bool (aboR d s a).2)]),hp):=by
 by_cases h:okD d=false\/fnD d.procs (keyP s a)=false
 ·rw[md d hb s a h hp];simp only[aboR,Zc h]
 ·have hv:okD d=true:=by cases e:okD d with|true=>rfl|false=>exact absurd (Or.inl e) h
  have hf:fnD d.procs (keyP s a)=true:=by cases e:fnD d.procs (keyP s a) with|true=>rfl|false=>exact absurd (Or.inr e) h
  obtain⟨p,hpp⟩:=XN hf;rw[mf d hb s a hv hf _ rfl (Zb.1 hpp).1 hp];simp only[aboR,Za h]
theorem mh(d:Dbs)(hb:BndD d)(id:Int)(h:okD d=false)(hp:Heap):S 26 [d.av,.pv none (.int .i64 id)] hp=some (.ret (.tuple [YB.av,.pv none (.bool false)]),hp):=by
 refine Ya rfl rfl rfl (z9 [(some 2,d.pv),(none,.int .i64 id)]) rfl ?_;have h1:=fun hp=>yH d hb hp;have hz0:Yi A1 [] []=some (.agg A1):=rfl;have hnil:∀H:Heap,Yb A3 H=(A3,H):=fun _=>rfl;simp only[Dbs.av] at h1;rw[h] at h1;simp -dsimp -implicitDefEqProofs only[go_sem,seval,↓reduceIte,Dbs.av,h1,hz0,hnil,z7 (Zd _)];exact⟨_,rfl⟩
theorem mi(x0:AObj)(v:AV)(X:Heap)(r:AV):YL ⟨[(4,.ptr 1 0),(5,r)],x0::.box (some 2) v::X⟩ (4,some (some 2))=some v:=by
 simp[YL,Fr.look,aload]
theorem OwnQ.two'{s0:AV}{ps:List Prc}{qs:List Nat}{x0 x1:AObj}{E:Heap}{i:Nat}{p:Prc}(h:OwnQ s0 ps qs (x0::x1::E))(h0:∃s v,x0=AObj.box s v)(h1:∃s v,x1=AObj.box s v)(hp:ps[i]? =some p):∃q x,s0=.slv (some 4) (q+1+1) ps.length 0 ps.length/\E[q]? =some (.arv (some 4) (elsQ ps qs))/\(elsQ ps qs)[i]? =some (elQ p (x+1+1))/\qs[i]? =some (x+1+1)/\E[x]? =some (.arr (some 9) (Sto.pvs p.cls) false):=by
 obtain⟨g1,g2,g3,g4⟩:=h;obtain⟨_,_,rfl⟩:=h0;obtain⟨_,_,rfl⟩:=h1;rcases g4 with⟨_,rfl⟩|⟨q,rfl,g5⟩
 ·simp at hp
 ·obtain⟨x,hx⟩:∃x,qs[i]? =some x:=⟨_,Zf (by have:=(Zb.1 hp).1;omega)⟩;have g6:=g3 i p x hp hx
  match q,g5 with
  |0,g5=>cases g5
  |1,g5=>cases g5
  |q+2,g5=>
   match x,g6,hx with
   |0,g6,hx=>cases g6
   |1,g6,hx=>cases g6
   |x+2,g6,hx=>exact⟨q,x,rfl,g5,Je hp hx,hx,g6⟩
theorem mj{d:Dbs}{id:Int}(hv:okD d=true){i k:Nat}(hw:whR d.procs id=some (i,k)){p:Prc}(hpp:d.procs[i]? =some p):eraR d id=(⟨d.next,d.procs.set i (cutC p k)⟩,true):=by
 simp only[eraR,hv,hw];rw[kV hpp];rfl
set_option maxRecDepth 20000 in
theorem mm(d:Dbs)(hb:BndD d)(id:Int)(hv:okD d=true)(hp:Heap):S 26 [d.av,.pv none (.int .i64 id)] hp=some (.ret (.tuple [(eraR d id).1.av,.pv none (.bool (eraR d id).2)]),hp):=by
 refine Ya rfl rfl rfl (z9 [(some 2,d.pv),(none,.int .i64 id)]) rfl ?_;have h1:=fun hp=>yH d hb hp;have hd5:=(YG d).1 hv;obtain⟨b0,hb0⟩:∃b0:AObj,b0=.box (some 2) (.pv (some 2) d.pv):=⟨_,rfl⟩;obtain⟨x1,hx1⟩:∃x1:AObj,x1=.box (some 2) (.agg A1):=⟨_,rfl⟩;obtain⟨s0,qs,E,h6,hQ⟩:=Qt d hv [b0,x1];obtain⟨G,hG⟩:∃G,G=E++[.box (some 2) (agD d.next s0)]:=⟨_,rfl⟩;have hQ':OwnQ s0 d.procs qs (b0::x1::G):=by rw[hG];exact hQ.app [.box (some 2) (agD d.next s0)]
 have hGe:G[E.length]? =some (.box (some 2) (agD d.next s0)):=by rw[hG];exact yY _ _
 have hO:=hQ'.own;have hk:=hO.slK;have hlen:=hO.len;have hnil:∀H:Heap,Yb A3 H=(A3,H):=fun _=>rfl;have hst:=Qu (s0:=.nilv (some 4)) hk d.next 0 b0 x1 E ⟨_,rfl⟩
 rw[<-hG] at hst;have hpt:AV.part deep (agD d.next s0) 1 none=some s0:=rfl;simp only[Dbs.av,ZK,ZJ] at h1 h6;rw[hv] at h1;have hz0:Yi A1 [] []=some (.agg A1):=rfl;have hb0':∃s v,b0=AObj.box s v:=⟨_,_,hb0⟩;have hx1':∃s v,x1=AObj.box s v:=⟨_,_,hx1⟩;have hGd:E++[AObj.box (some 2) (agD d.next s0)]=G:=hG.symm;have h6':S 5 [.pv (some 2) d.pv] [.box (some 2) (.pv (some 2) d.pv),.box (some 2) (.agg A1)]=some (.ret (agD d.next s0),.box (some 2) (.pv (some 2) d.pv)::.box (some 2) (.agg A1)::E):=by
  rw[<-hb0,<-hx1];exact h6
 have hst':z8 (some 2) 0 (.box (some 2) (.pv (some 2) d.pv)::.box (some 2) (.agg A1)::(E++[.box (some 2) (.agg A1)])) [.ptr (E.length+1+1) 0,agD d.next s0]=some (.undef,.box (some 2) (.pv (some 2) d.pv)::.box (some 2) (.agg A1)::G):=by
  rw[hG];exact Qu (s0:=.nilv (some 4)) hk d.next 0 _ _ E ⟨_,rfl⟩
 simp -dsimp -implicitDefEqProofs only[go_sem,seval,↓reduceIte,Dbs.av,h1,h6',hst',hnil];refine Yv (α:=Unit) d.procs.length (fun i _=>∀(j:Nat) (q:Prc),j<i->d.procs[j]? =some q->idS q.cls id=none) (fun i _=>⟨[(1,.pv none (.int .i64 id)),(4,.ptr 1 0),(6,.ptr (E.length+2) 0),(7,.pv none (.int .i64 i))],.box (some 2) (.pv (some 2) d.pv)::.box (some 2) (.agg A1)::G⟩) () ⟨fun j q h=>by omega,rfl⟩ ?_ ?_
 ·rintro i - hi hno;have hcc:(i:Int)<(d.procs.length:Int):=by omega
  have w1:IntKind.i64.wrap ((i:Int)+1)=((i+1:Nat):Int):=by rw[Yf (by omega) (by omega)];omega
  obtain⟨p,hpp⟩:∃p,d.procs[i]? =some p:=⟨_,Zf hi⟩;have hc5:p.cls.length<=500:=by have:=ye (Zi hpp);omega
  obtain⟨q,x,hs0,hEq,hge,hqx,hEx⟩:=OwnQ.two' (E:=G) hQ' hb0' hx1' hpp;obtain⟨n,hn⟩:∃n,n=p.cls.length:=⟨_,rfl⟩;have hpl:(Sto.pvs p.cls).length=n:=by rw[Sto.pvs_len,hn]
  have hell:=Jd _ _ hQ'.1;obtain⟨els,hels⟩:∃els,els=elsQ d.procs qs:=⟨_,rfl⟩;rw[<-hels] at hEq hge hell;have hia:Yl (some 4) [s0,.pv none (.int .i64 i)]=some (.epv (some 4) (q+1+1) d.procs.length i 0):=by
   rw[hs0];simp[Yl,aindex,hi]
  have hfa:yz 3 [.epv (some 4) (q+1+1) d.procs.length i 0]=some (.epv (some 4) (q+1+1) d.procs.length i 3):=rfl;have hld:∀(y0 y1:AObj),aload none (y0::y1::G) (.epv (some 4) (q+1+1) d.procs.length i 3)=some (.sl (some 9) (x+1+1) n 0 n):=fun y0 y1=>by
   have e:AV.part deep (elQ p (x+1+1)) 3 none=some (.sl (some 9) (x+1+1) n 0 n):=by rw[hn];rfl
   simp[aload,hEq,hell,hge,e]
  have hlen':∀v:AV,v=s0->sLen [v]=some (.pv none (.int .i64 d.procs.length)):=fun v h=>by rw[h,hlen]
  simp only[agD] at hGe hpt;simp -dsimp -implicitDefEqProofs only[go_sem,seval,↓reduceIte,hcc,w1,hGe,hpt,hlen,hia,hfa,hld];refine Yv (α:=Unit) n (fun k _=>∀(j:Nat) (u:Sto),j<k->p.cls[j]? =some u->u.id≠id) (fun k _=>⟨[(1,.pv none (.int .i64 id)),(4,.ptr 1 0),(6,.ptr (E.length+2) 0),(7,.pv none (.int .i64 i)),(8,.sl (some 9) (x+2) n 0 n),(9,.pv none (.int .i64 k))],.box (some 2) (.pv (some 2) d.pv)::.box (some 2) (.agg A1)::G⟩) () ⟨fun j q h=>by omega,rfl⟩ ?_ ?_
  ·rintro k - hkn hnk;have hck:(k:Int)<(n:Int):=by omega
   have w2:IntKind.i64.wrap ((k:Int)+1)=((k+1:Nat):Int):=by rw[Yf (by omega) (by omega)];omega
   obtain⟨u,hu⟩:∃u,p.cls[k]? =some u:=⟨_,Zf (by omega)⟩;have hie:Yl (some 9) [.sl (some 9) (x+2) n 0 n,.pv none (.int .i64 k)]=some (.eptr (some 9) (x+2) n k 0):=by
    simp[Yl,aindex];omega
   have hle:∀(y0 y1:AObj),aload none (y0::y1::G) (.eptr (some 9) (x+2) n k 0)=some (.pv none (.int .i64 u.id)):=fun y0 y1=>by
    have e:PV.part deep u.pv 0 none=some (.int .i64 u.id):=rfl;have g:(Sto.pvs p.cls)[k]? =some u.pv:=Sto.pvs_get hu;simp[aload,hEx,hpl,g,e]
   by_cases hid:u.id=id
   ·have hid':(u.id=id)=True:=Zo hid;have hik:idS p.cls id=some k:=kP hu hid hnk;have hw:whR d.procs id=some (i,k):=jw hpp hik hno;rw[mj hv hw hpp];obtain⟨T,hT⟩:∃T:Heap,T=G.set x (.arr (some 9) (Sto.pvs p.cls) true):=⟨_,rfl⟩;have hxl:=YT hEx;have hGl:=YT hGe;have hql:=YT hEq;have hTl:T.length=G.length:=by rw[hT];simp
    have hxe:x≠E.length:=fun e=>by rw[e,hGe] at hEx;cases hEx
    have hxq:x≠q:=fun e=>by rw[e,hEq] at hEx;cases hEx
    have hqe:q≠E.length:=fun e=>by rw[e,hGe] at hEq;cases hEq
    have hTe:T[E.length]? =some (.box (some 2) (.agg [(none,.pv none (.int .i64 d.next)),(none,s0)])):=by rw[hT,Zk hxe,hGe]
    have hTq:T[q]? =some (.arv (some 4) els):=by rw[hT,Zk hxq,hEq]
    have hset:∀(fr:Fr) (y0 y1:AObj),QV 8 [] ⟨fr,y0::y1::G⟩ (some (.sl (some 9) (x+2) n 0 n))=some ⟨(8,.pv none (.sl (some 9) (Sto.pvs p.cls)))::fr,y0::y1::T⟩:=fun fr y0 y1=>by
     have e:AV.freeze deep (.sl (some 9) (x+2) n 0 n) (y0::y1::G)=some (.sl (some 9) (Sto.pvs p.cls),y0::y1::T):=by
      show AV.freeze (7+1) _ _=_;simp[AV.freeze,hEx,hpl,hT]
     simp only[QV,e,K5]
    obtain⟨A,hA⟩:∃A,A=(Sto.pvs p.cls).take k:=⟨_,rfl⟩;obtain⟨B,hB⟩:∃B,B=(Sto.pvs p.cls).drop (k+1):=⟨_,rfl⟩;have hsl3:yA (some 9) false [.pv none (.sl (some 9) (Sto.pvs p.cls)),.pv none (.int .i64 k),.pv none (.int .i64 k)]=some (.tsl (some 9) A):=by
     simp[yA,hpl,hA];omega
    have hsl:YR (some 9) true false [.pv none (.sl (some 9) (Sto.pvs p.cls)),.pv none (.int .i64 ((k+1:Nat):Int))]=some (.pv none (.sl (some 9) B)):=by
     have e:((k:Int)+1).toNat=k+1:=by omega
     simp[YR,aslice,hpl,hB,e];omega
    have hAB:Sto.pvs (cutC p k).cls=A++B:=by rw[hA,hB];simp[Sto.pvs,cutC]
    have hlA:A.length+B.length=(cutC p k).cls.length:=by rw[<-Sto.pvs_len,hAB,Zj]
    have hlAB:(cutC p k).cls.length<=lim:=by
     simp[cutC];unfold lim;omega
    obtain⟨p',hp'⟩:∃p',p'=cutC p k:=⟨_,rfl⟩;rw[<-hp'] at hAB hlA hlAB ⊢;obtain⟨sv,X,a1,a2,a3,a4,a5⟩:∃(sv:AV) (X:Heap),(∀y0 y1:AObj,YC (some 9) (y0::y1::T) [.tsl (some 9) A,.pv none (.sl (some 9) B)]=some (sv,y0::y1::(T++X)))/\sv.plain=true/\sv.shp=none/\AV.upd deep (elQ p (x+1+1)) 3 none sv=some (agP p' sv)/\∀(y0 y1:AObj),SvP sv p'.cls (y0::y1::(T++X)):=by
     by_cases cB:B=[]
     ·refine⟨.tsl (some 9) A,[],fun y0 y1=> ?_,rfl,rfl,by rw[hp'];rfl,fun y0 y1=>.inl ?_⟩
      ·rw[cB];simp[YC,aappend,elems]
      ·rw[hAB,cB,ZC]
     ·refine⟨.sl (some 9) (T.length+1+1) p'.cls.length 0 p'.cls.length,[.arr (some 9) (A++B) false],fun y0 y1=> ?_,rfl,rfl,by rw[hp'];rfl,fun y0 y1=>.inr ⟨T.length+1+1,p'.cls.length,A++B,false,rfl,by simp,by rw[<-hAB,Sto.pvs_len],Ze _,?_⟩⟩
      ·simp[YC,aappend,elems,cB,hlA,hlAB]
      ·rw[<-hAB];exact Zq (by rw[Sto.pvs_len];exact Ze _)
    have beq_s:AV.beq s0 s0=true:=(Xr hk).2.2.2.1;have hTeX:∀X:Heap,(T++X)[E.length]? =some (.box (some 2) (.agg [(none,.pv none (.int .i64 d.next)),(none,s0)])):=fun X=>by rw[Zn (by omega),hTe]
    have hsa:∀(y0 y1 z0 z1:AObj),Yr (y0::y1::T) (z0::z1::(T++X)) (.ptr (E.length+2) 1)=true:=fun y0 y1 z0 z1=>by
     simp[Yr,hTe,hTeX,AObj.beq,AV.beq,AV.beqc,PV.beq,beq_s]
    obtain⟨ov,hov⟩:∃ov:AObj,ov=.arv (some 4) (els.set i (agP p' sv)):=⟨_,rfl⟩;have hTqX:(T++X)[q]? =some (.arv (some 4) els):=by rw[Zn (by omega),hTq]
    have hsT:∀(y0 y1:AObj),z8 none 0 (y0::y1::(T++X)) [.epv (some 4) (q+1+1) d.procs.length i 3,sv]=some (.undef,y0::y1::(T.set q ov++X)):=fun y0 y1=>by
     simp[z8,astore,hTqX,hell,hge,a2,a3,a4,zm _ _ (show q<T.length by omega),hov]
    have hT2e:(T.set q ov++X)[E.length]? =some (.box (some 2) (.agg [(none,.pv none (.int .i64 d.next)),(none,s0)])):=by rw[Zn (by simp;omega),Zk hqe,hTe]
    have hS:SlQ (q+1+1) els d.procs (b0::x1::G):=by
     rw[hels];exact hQ'.2.2.1.sl hQ'.1 (by rw[<-hels];exact hEq)
    have hfin:OwnD s0 (d.procs.set i p') (els.set i (agP p' sv)) (.box (some 2) (.pv (some 2) d.pv)::.box (some 2) (agD d.next s0)::(T.set q ov++X)):=by
     obtain⟨ob,hob⟩:∃ob:AObj,ob=.box (some 2) (agD d.next s0):=⟨_,rfl⟩;rw[<-hb0,<-hob];have f0:Fa (b0::ob::(T++X)) (b0::ob::(T.set q ov++X)):=by
      have e:b0::ob::(T.set q ov++X)=(b0::ob::(T++X)).set (q+1+1) ov:=by
       simp[zm _ _ (show q<T.length by omega)]
      rw[e];refine Fa.set ?_;intro s es z h;have:(T++X)[q]? =some (.arr s es z):=h;rw[hTqX] at this;cases this
     have f1:Fa (b0::x1::G) (b0::ob::(T.set q ov++X)):=by
      refine Fa.trans (B:=b0::ob::(T++X)) ?_ f0;have e:b0::ob::(T++X)=((b0::x1::G).set 1 ob).set (x+1+1) (.arr (some 9) (Sto.pvs p.cls) true)++X:=by
       rw[hT];rfl
      rw[e];refine(Fa.trans (B:=(b0::x1::G).set 1 ob) (Fa.set (q:=1) (o:=ob) ?_) ?_).trans (Fa.app _ _)
      ·intro s es z h;rw[hx1] at h;cases h
      ·intro k' s' es' z' h';by_cases e2:x+1+1=k'
       ·subst e2;have:G[x]? =some (.arr s' es' z'):=h';rw[hEx] at this;cases this;refine⟨true,?_⟩;rw[Zr (by simpa using hxl)]
       ·exact⟨z',by rw[Zk e2];exact h'⟩
     refine .inr ⟨q+1+1,by rw[hs0,zf],hS.setE ?_ ?_ fun j p v _ _ _ h=>h.fa f1⟩
     ·show(T.set q ov++X)[q]? =_;rw[Zn (by simp;omega),Zr (by omega),hov]
     ·exact .inr ⟨sv,rfl,(a5 b0 ob).fa f0⟩
    have hF:=qc hfin (.bool true) (n:=d.next);have hst2:=fun X v=>Vg hk d.next (.box (some 2) (.pv (some 2) d.pv)) v X
    have hr:=fun X=>mi (.box (some 2) (.pv (some 2) d.pv)) (agD d.next s0) X (.pv none (.bool true));simp only[agD] at hst2 hr hF;simp -dsimp -implicitDefEqProofs only[go_sem,seval,↓reduceIte,hck,w2,hie,hle,hid',hset,hTe,hpt,hsl3,hsl,a1,hsa,hia,hfa,hsT,hT2e,hst2,hr,jA,ZN,ze,zj,Z9];simp only[yr,Dbs.av] at hF;exact hF
   ·have hid':(u.id=id)=False:=Zl hid;simp -dsimp -implicitDefEqProofs only[go_sem,seval,↓reduceIte,hck,w2,hie,hle,hid'];refine⟨(),fun j v hj hv2=> ?_,by rw[kb];simp⟩;by_cases e:j=k
    ·subst e;rw[hu] at hv2;cases hv2;exact hid
    ·exact hnk j v (by omega) hv2
  ·rintro - hnk;have hck:¬(n:Int)<(n:Int):=by omega
   simp -dsimp -implicitDefEqProofs only[go_sem,seval,↓reduceIte,hck,w1];refine⟨(),fun j v hj hv2=> ?_,by rw[kb];simp⟩;by_cases e:j=i
   ·subst e;rw[hpp] at hv2;cases hv2;exact jv fun j u hu=>hnk j u (by have:=(Zb.1 hu).1;omega) hu
   ·exact hno j v (by omega) hv2
 ·rintro - hno;have hcc:¬(d.procs.length:Int)<(d.procs.length:Int):=by omega
  have hw:whR d.procs id=none:=qX fun j q hq=>hno j q (Zb.1 hq).1 hq;have he:eraR d id=(YB,false):=by simp[eraR,hw]
  simp only[agD] at hGe hpt;rw[he];simp -dsimp -implicitDefEqProofs only[go_sem,seval,↓reduceIte,hcc,hGe,hpt,hlen,hz0,hnil,z7 (Zd _)];exact⟨_,rfl⟩
theorem mn(d:Dbs)(hb:BndD d)(id:Int)(hp:Heap):S 26 [d.av,.pv none (.int .i64 id)] hp=some (.ret (.tuple [(eraR d id).1.av,.pv none (.bool (eraR d id).2)]),hp):=by
 cases hv:okD d with
 |false=>
  rw[mh d hb id hv hp];simp only[eraR,Zc hv]
 |true=>exact mm d hb id hv hp
theorem mo(d:Dbs)(hb:BndD d)(hp:Heap):S 34 [d.av] hp=some (.ret (.pv none (.int .i64 (if okD d=true then(totD d.procs:Int) else 0))),hp):=by
 refine Ya rfl rfl rfl (z9 [(some 2,d.pv)]) rfl ?_;have h1:=fun hp=>yH d hb hp;simp only[Dbs.av] at h1;cases hv:okD d with
 |false=>
  rw[hv] at h1;simp -dsimp -implicitDefEqProofs only[go_sem,seval,↓reduceIte,Dbs.av,h1]
  try rfl
 |true=>
  have h2:=fun hp=>jB hv hp;simp only[Dbs.av] at h2;rw[hv] at h1;simp -dsimp -implicitDefEqProofs only[go_sem,seval,↓reduceIte,Dbs.av,h1,h2]
  try rfl
theorem mp{p:Prc}(h:okCl p):clP p=p:=by
 have:∀s∈p.cls,clS s=s:=fun s hs=>by
  obtain⟨v1,v2⟩:=h s hs;unfold clS;rw[xP v1,xP v2]
 unfold clP;rw[List.map_congr_left (g:=fun s=>s) this];simp
theorem mq(p:Prc):(agP p (.sl (some 9) 5 p.cls.length 0 p.cls.length)).alone (cR p 0)=some (.pv (some 4) (clP p).pv):=by
 have hl:(clP p).cls.length=p.cls.length:=by simp[clP]
 have g:(cR p 0)[5]? =some (.arr (some 9) (Sto.pvs (clP p).cls) false):=rfl;have hE:ElP (clP p) (agP p (.sl (some 9) 5 p.cls.length 0 p.cls.length)) (cR p 0):=.inr ⟨_,rfl,.inr ⟨5,p.cls.length,Sto.pvs (clP p).cls,false,by rw[hl],g,by rw[Sto.pvs_len,hl],by rw[hl];exact Ze _,by rw[hl];exact Zq (by rw[Sto.pvs_len,hl];exact Ze _)⟩⟩;obtain⟨H',h1,h2,_⟩:=hE.frz8;have hb:(agP p (.sl (some 9) 5 p.cls.length 0 p.cls.length)).bare=none:=rfl;unfold AV.alone;rw[hb];simp only[h1,h2]
set_option maxRecDepth 20000 in
theorem mr(d:Dbs)(hb:BndD d)(s:List UInt8)(a:Int)(hp:Heap):S 30 [d.av,.pv none (.str s),.pv none (.int .i64 a)] hp=some (.ret (.tuple [((Ym d s a).getD zP).av,.pv none (.bool (Ym d s a).isSome)]),hp):=by
 refine Ya rfl rfl rfl (z9 [(some 2,d.pv),(none,.str s),(none,.int .i64 a)]) rfl ?_;have h1:=fun hp=>yH d hb hp;have hz0:Yi A2 [] []=some (.agg A2):=rfl;simp only[Dbs.av] at h1;by_cases hv:okD d=true
 rotate_left
 ·have hv':okD d=false:=by simpa using hv
  have e:Ym d s a=none:=by unfold Ym;rw[Za hv]
  rw[hv'] at h1;rw[e];simp -dsimp -implicitDefEqProofs only[go_sem,seval,↓reduceIte,Dbs.av,h1,hz0,z7 (Zd _)];exact⟨_,rfl⟩
 have hd5:=(YG d).1 hv;rw[hv] at h1;have h3:=fun hp=>Qs d (by omega) s a hp;simp only[Dbs.av] at h3;cases hf:fnD d.procs (keyP s a) with
 |false=>
  have e:Ym d s a=none:=by unfold Ym;rw[Zc hv,Za (by rw[hf];decide)]
  have hat:atR d.procs s a= -1:=by rw[X7 (Xt hv),hf];rfl
  rw[hat] at h3;rw[e];simp -dsimp -implicitDefEqProofs only[go_sem,seval,↓reduceIte,Dbs.av,h1,h3,hz0,z7 (Zd _)];exact⟨_,rfl⟩
 |true=>
  obtain⟨p,hpp⟩:=XN hf;obtain⟨i,hi⟩:∃i,i=lbD d.procs (keyP s a):=⟨_,rfl⟩;have e:Ym d s a=some p:=by unfold Ym;rw[Zc hv,Zc hf,hpp]
  have hat:atR d.procs s a=(i:Int):=by rw[X7 (Xt hv),Zc hf,hi]
  rw[hat] at h3;rw[<-hi] at hpp;rw[e];have hpm:=Zi hpp;have hc5:p.cls.length<=500:=by have:=ye hpm;omega
  have hi0:¬((i:Int)<0):=by omega
  have h4:=fun hp=>GH p (by omega) (hb.2.2 p hpm) hp;simp only[Prc.av] at h4;have hal:=mq p;rw[mp (yX hv p hpm)] at hal;simp -dsimp -implicitDefEqProofs only[go_sem,seval,↓reduceIte,Dbs.av,Ye,Prc.pvs_len,Yd (Prc.pvs_get hpp),h1,h3,h4,hal,hi0,hz0,z7 (Zd _)];exact⟨_,rfl⟩
set_option maxRecDepth 20000 in
theorem mt(d:Dbs)(hb:BndD d)(id:Int)(hp:Heap):S 32 [d.av,.pv none (.int .i64 id)] hp=some (.ret (.tuple [((getR d id).getD xM).av,.pv none (.bool (getR d id).isSome)]),hp):=by
 refine Ya rfl rfl rfl (z9 [(some 2,d.pv),(none,.int .i64 id)]) rfl ?_;have h1:=fun hp=>yH d hb hp;have hz0:Yi A4 [] []=some (.agg A4):=rfl;simp only[Dbs.av] at h1;by_cases hv:okD d=true
 rotate_left
 ·have hv':okD d=false:=by simpa using hv
  have e:getR d id=none:=by unfold getR;rw[Za hv]
  rw[hv'] at h1;rw[e];simp -dsimp -implicitDefEqProofs only[go_sem,seval,↓reduceIte,Dbs.av,h1,hz0,z7 (Zd _)];exact⟨_,rfl⟩
 have hd5:=(YG d).1 hv;rw[hv] at h1;simp -dsimp -implicitDefEqProofs only[go_sem,seval,↓reduceIte,Dbs.av,h1];obtain⟨x1,hx1⟩:∃x1:AV,x1=.agg A4:=⟨_,rfl⟩;rw[<-hx1];refine Yv (α:=Unit) d.procs.length (fun i _=>∀(j:Nat) (q:Prc),j<i->d.procs[j]? =some q->idS q.cls id=none) (fun i _=>⟨[(1,.pv none (.int .i64 id)),(2,.ptr 0 0),(4,.ptr 1 0),(6,.pv none (.int .i64 i))],[.box (some 2) (.pv (some 2) d.pv),.box (some 9) x1]⟩) () ⟨fun j q h=>by omega,rfl⟩ ?_ ?_
 ·rintro i - hi hno;have hcc:(i:Int)<(d.procs.length:Int):=by omega
  have w1:IntKind.i64.wrap ((i:Int)+1)=((i+1:Nat):Int):=by rw[Yf (by omega) (by omega)];omega
  obtain⟨p,hpp⟩:∃p,d.procs[i]? =some p:=⟨_,Zf hi⟩;have hpm:=Zi hpp;have hc5:p.cls.length<=500:=by have:=ye hpm;omega
  simp -dsimp -implicitDefEqProofs only[go_sem,seval,↓reduceIte,hcc,w1,Ye,Prc.pvs_len];refine Yv (α:=Unit) p.cls.length (fun k _=>∀(j:Nat) (u:Sto),j<k->p.cls[j]? =some u->u.id≠id) (fun k _=>⟨[(1,.pv none (.int .i64 id)),(2,.ptr 0 0),(4,.ptr 1 0),(6,.pv none (.int .i64 i)),(7,.pv none (.int .i64 k))],[.box (some 2) (.pv (some 2) d.pv),.box (some 9) x1]⟩) () ⟨fun j q h=>by omega,rfl⟩ ?_ ?_
  ·rintro k - hkn hnk;have hck:(k:Int)<(p.cls.length:Int):=by omega
   have w2:IntKind.i64.wrap ((k:Int)+1)=((k+1:Nat):Int):=by rw[Yf (by omega) (by omega)];omega
   obtain⟨u,hu⟩:∃u,p.cls[k]? =some u:=⟨_,Zf (by omega)⟩;by_cases hid:u.id=id
   ·have hid':(u.id=id)=True:=Zo hid;have hik:idS p.cls id=some k:=kP hu hid hnk;have hw:whR d.procs id=some (i,k):=jw hpp hik hno;have e:getR d id=some u:=by
     unfold getR;rw[Zc hv,hw];simp[hpp,hu]
    rw[e];obtain⟨z1,z2⟩:=hb.2.2 p hpm u (Zi hu);obtain⟨v1,v2⟩:=yX hv p hpm u (Zi hu);have hcs:clS u=u:=by unfold clS;rw[xP v1,xP v2]
    have h7:=fun hp=>Vd u z1 z2 hp;rw[hcs] at h7;simp only[Sto.av] at h7;rw[hx1];simp -dsimp -implicitDefEqProofs only[go_sem,seval,↓reduceIte,hck,w2,Ye,YU,YO,Prc.pvs_len,Sto.pvs_len,Yd (Prc.pvs_get hpp),Yd (Sto.pvs_get hu),h7,hid',z7 (Zd _)]
    try exact⟨_,rfl⟩
   ·have hid':(u.id=id)=False:=Zl hid;simp -dsimp -implicitDefEqProofs only[go_sem,seval,↓reduceIte,hck,w2,Ye,YU,YO,Prc.pvs_len,Sto.pvs_len,Yd (Prc.pvs_get hpp),Yd (Sto.pvs_get hu),hid'];refine⟨(),fun j v hj hv2=> ?_⟩;by_cases e:j=k
    ·subst e;rw[hu] at hv2;cases hv2;exact hid
    ·exact hnk j v (by omega) hv2
  ·rintro - hnk;have hck:¬(p.cls.length:Int)<(p.cls.length:Int):=by omega
   simp -dsimp -implicitDefEqProofs only[go_sem,seval,↓reduceIte,hck,w1,Ye,YU,Prc.pvs_len,Sto.pvs_len,Yd (Prc.pvs_get hpp)];refine⟨(),fun j v hj hv2=> ?_⟩;by_cases e:j=i
   ·subst e;rw[hpp] at hv2;cases hv2;exact jv fun j u hu=>hnk j u (Zb.1 hu).1 hu
   ·exact hno j v (by omega) hv2
 ·rintro - hno;have hcc:¬(d.procs.length:Int)<(d.procs.length:Int):=by omega
  have hw:whR d.procs id=none:=qX fun j q hq=>hno j q (Zb.1 hq).1 hq;have e:getR d id=none:=by unfold getR;rw[Zc hv,hw]
  rw[e,hx1];simp -dsimp -implicitDefEqProofs only[go_sem,seval,↓reduceIte,hcc,Ye,Prc.pvs_len,hz0,z7 (Zd _)];exact⟨_,rfl⟩
def sfD(d:Dbs):Prop:=d.procs.length<1000000000/\∀p∈d.procs,okCl p/\p.cls.length<1000000000
theorem mu:sfD YB:=⟨by decide,fun p hp=>by cases hp⟩
theorem GX{d:Dbs}(hv:okD d=true):sfD d:=by
 have hd5:=(YG d).1 hv;exact⟨by omega,fun p hp=>⟨yX hv p hp,by have:=ye hp;omega⟩⟩
set_option maxRecDepth 20000 in
theorem mw(d:Dbs)(h:sfD d)(hp:Heap):S 28 [d.av,d.av] hp=some (.ret (.pv none (.bool true)),hp):=by
 refine Ya rfl rfl rfl (z9 [(some 2,d.pv),(some 2,d.pv)]) rfl ?_;simp -dsimp -implicitDefEqProofs only[go_sem,seval,↓reduceIte,Dbs.av,Yp,Ye,Prc.pvs_len];refine Yv (α:=Unit) d.procs.length (fun _ _=>True) (fun i _=>⟨[(2,.ptr 0 0),(3,.ptr 1 0),(5,.pv none (.int .i64 i))],[.box (some 2) (.pv (some 2) d.pv),.box (some 2) (.pv (some 2) d.pv)]⟩) () ⟨trivial,rfl⟩ ?_ ?_
 ·rintro i - hi -;have hcc:(i:Int)<(d.procs.length:Int):=by omega
  have hl:=h.1;have w1:IntKind.i64.wrap ((i:Int)+1)=((i+1:Nat):Int):=by rw[Yf (by omega) (by omega)];omega
  obtain⟨p,hpp⟩:∃p,d.procs[i]? =some p:=⟨_,Zf hi⟩;obtain⟨hc,hl2⟩:=h.2 p (Zi hpp);have h3:=fun hp=>Gg p hl2 hc hp;simp only[Prc.av] at h3;simp -dsimp -implicitDefEqProofs only[go_sem,seval,↓reduceIte,hcc,w1,Ye,Prc.pvs_len,Yd (Prc.pvs_get hpp),h3];exact⟨(),trivial⟩
 ·rintro - -;have hcc:¬(d.procs.length:Int)<(d.procs.length:Int):=by omega
  simp -dsimp -implicitDefEqProofs only[go_sem,seval,↓reduceIte,hcc,Ye,Prc.pvs_len]
  done
theorem GY(d:Dbs)(h:sfD d)(hp:Heap):S 9 [d.av,d.av] hp=some (.ret (.pv none (.bool true)),hp):=by
 refine Ya rfl rfl rfl (z9 [(some 2,d.pv),(some 2,d.pv)]) rfl ?_;have h1:=fun hp=>mw d h hp;simp only[Dbs.av] at h1;simp -dsimp -implicitDefEqProofs only[go_sem,seval,↓reduceIte,Dbs.av,h1]
 try rfl
set_option maxRecDepth 20000 in
theorem my(d:Dbs)(hb:BndD d)(x:Acx)(z1:x.cl.head.size<100000000)(z2:x.cl.body.size<100000000)(hp:Heap):S 8 [d.av,x.av] hp=some (.ret (.tuple [(actR d x).1.av,.pv none (.bool (actR d x).2.1),.pv none (.int .i64 (actR d x).2.2)]),hp):=by
 refine Ya rfl rfl rfl (z9 [(some 2,d.pv),(some 14,x.pv)]) rfl ?_;have hnil:∀H:Heap,Yb A3 H=(A3,H):=fun _=>rfl;have h0:=fun hp=>MY d hb x.name x.ar x.dy hp;have h1:=fun hp=>M9 d hb x.cl z1 z2 x.fr x.dy hp;have h2:=fun hp=>mn d hb x.id hp;have h3:=fun hp=>mg d hb x.name x.ar hp;simp only[Dbs.av,Cz.av] at h0 h1 h2 h3;unfold actR;by_cases k0:x.what=0
 ·rw[Zc k0];have k0':=Zo k0;simp -dsimp -implicitDefEqProofs only[go_sem,seval,↓reduceIte,Dbs.av,Acx.av,yO,yP,yQ,yR,X3,X4,X5,k0',h0,hnil,z7 (Zd _)]
  try exact⟨_,rfl⟩
 have k0':=Zl k0;by_cases k1:x.what=1
 ·rw[Za k0,Zc k1];have k1':=Zo k1;simp -dsimp -implicitDefEqProofs only[go_sem,seval,↓reduceIte,Dbs.av,Acx.av,yO,yP,yQ,yR,X3,X4,X5,k0',k1',h1,hnil,z7 (Zd _)]
  try exact⟨_,rfl⟩
 have k1':=Zl k1;by_cases k2:x.what=2
 ·rw[Za k0,Za k1,Zc k2];have k2':=Zo k2;simp -dsimp -implicitDefEqProofs only[go_sem,seval,↓reduceIte,Dbs.av,Acx.av,yO,yP,yQ,yR,X3,X4,X5,k0',k1',k2',h2,hnil,z7 (Zd _)]
  try exact⟨_,rfl⟩
 have k2':=Zl k2;by_cases k3:x.what=3
 ·rw[Za k0,Za k1,Za k2,Zc k3];have k3':=Zo k3;simp -dsimp -implicitDefEqProofs only[go_sem,seval,↓reduceIte,Dbs.av,Acx.av,yO,yP,yQ,yR,X3,X4,X5,k0',k1',k2',k3',h3,hnil,z7 (Zd _)]
  try exact⟨_,rfl⟩
 have k3':=Zl k3;rw[Za k0,Za k1,Za k2,Za k3];simp -dsimp -implicitDefEqProofs only[go_sem,seval,↓reduceIte,Dbs.av,Acx.av,yO,yP,yQ,yR,X3,X4,X5,k0',k1',k2',k3',hnil,z7 (Zd _)]
 try exact⟨_,rfl⟩
theorem mz{d:Dbs}{s:List UInt8}{a:Int}{p:Prc}(h:Ym d s a=some p):okD d=true/\p∈d.procs:=by
 unfold Ym at h;split at h
 ·rename_i hv;split at h
  ·exact⟨hv,Zi h⟩
  ·cases h
 ·cases h
theorem mA{d:Dbs}{id:Int}{u:Sto}(h:getR d id=some u):okD d=true/\∃p∈d.procs,u∈p.cls:=by
 unfold getR at h;split at h
 ·rename_i hv;split at h
  ·rename_i x hx;rw[zZ] at h;obtain⟨p,h1,h2⟩:=h;exact⟨hv,p,Zi h1,Zi h2⟩
  ·cases h
 ·cases h
set_option maxRecDepth 20000 in
theorem mB(d:Dbs)(hb:BndD d)(s:List UInt8)(a id:Int)(hp:Heap):S 10 [d.av,.pv none (.str s),.pv none (.int .i64 a),.pv none (.int .i64 id)] hp=some (.ret (.pv none (.bool true)),hp):=by
 refine Ya rfl rfl rfl (z9 [(some 2,d.pv),(none,.str s),(none,.int .i64 a),(none,.int .i64 id)]) rfl ?_;have h1:=fun hp=>Gd d hb s a hp;have h2:=fun hp=>mr d hb s a hp;have h3:=fun hp=>lR d hb id hp;have h4:=fun hp=>mt d hb id hp;have h5:=fun hp=>kM d hb hp;have h6:=fun hp=>mo d hb hp;have h7:=fun hp=>yx d hb.1 hb.2.1 hb.2.2 hp;have h8:=fun hp=>yH d hb hp;generalize (if okD d=true then(totD d.procs:Int) else 0)=T at h5 h6;generalize okD d=V at h7 h8;have hbb:∀b:Bool,(b == b)=true:=fun b=>by cases b <;> rfl
 have hbn:∀b:Bool,(b != b)=false:=fun b=>by cases b <;> rfl
 have g1:∃P,(Ym d s a).getD zP=P/\((Ym d s a).isSome=true->∀hp,S 35 [P.av,P.av] hp=some (.ret (.pv none (.bool true)),hp))/\((Ym d s a).isSome=false->P=zP):=by
  cases e:Ym d s a with
  |none=>exact⟨zP,rfl,fun h=>(by cases h),fun _=>rfl⟩
  |some p=>
   obtain⟨hv,hm⟩:=mz e;have hd5:=(YG d).1 hv;exact⟨p,rfl,fun _ hp=>Gg p (by have:=ye hm;omega) (yX hv p hm) hp,fun h=>by cases h⟩
 have g2:∃U,(getR d id).getD xM=U/\((getR d id).isSome=true->∀hp,S 36 [U.av,U.av] hp=some (.ret (.pv none (.bool true)),hp))/\((getR d id).isSome=false->U=xM):=by
  cases e:getR d id with
  |none=>exact⟨xM,rfl,fun h=>(by cases h),fun _=>rfl⟩
  |some u=>
   obtain⟨hv,p,hm,hu⟩:=mA e;obtain⟨v1,v2⟩:=yX hv p hm u hu;exact⟨u,rfl,fun _ hp=>Gf u v1 v2 hp,fun h=>by cases h⟩
 obtain⟨P,eP,gP1,gP2⟩:=g1;obtain⟨U,eU,gU1,gU2⟩:=g2;rw[eP] at h1 h2;rw[eU] at h3 h4;generalize (Ym d s a).isSome=F1 at*;generalize (getR d id).isSome=F2 at*;simp only[Dbs.av,Prc.av,Sto.av] at*;have q1:PV.part deep zP.pv 0 none=some (.str []):=rfl;have q2:PV.part deep zP.pv 1 none=some (.int .i64 0):=rfl;have q3:PV.part deep zP.pv 2 none=some (.bool false):=rfl;have q4:PV.part deep zP.pv 3 none=some (.sl (some 9) []):=rfl;have q5:PV.part deep xM.pv 0 none=some (.int .i64 0):=rfl;have q6:PV.part deep xM.pv 1 none=some (.int .i64 0):=rfl;have q7:PV.part deep xM.pv 5 none=some (.int .i64 0):=rfl;cases F1 with
 |true=>
  have k1:=gP1 rfl;cases F2 with
  |true=>
   have k2:=gU1 rfl;simp -dsimp -implicitDefEqProofs only[go_sem,seval,↓reduceIte,Dbs.av,h1,h2,h3,h4,h5,h6,h7,h8,k1,k2,hbb,hbn,z7 (Zd _)]
  |false=>
   have e2:=gU2 rfl;subst e2;simp -dsimp -implicitDefEqProofs only[go_sem,seval,↓reduceIte,Dbs.av,h1,h2,h3,h4,h5,h6,h7,h8,k1,q5,q6,q7,hbb,hbn,z7 (Zd _)]
 |false=>
  have e1:=gP2 rfl;subst e1;cases F2 with
  |true=>
   have k2:=gU1 rfl;simp -dsimp -implicitDefEqProofs only[go_sem,seval,↓reduceIte,Dbs.av,h1,h2,h3,h4,h5,h6,h7,h8,k2,q1,q2,q3,q4,hbb,hbn,z7 (Zd _)]
  |false=>
   have e2:=gU2 rfl;subst e2;simp -dsimp -implicitDefEqProofs only[go_sem,seval,↓reduceIte,Dbs.av,h1,h2,h3,h4,h5,h6,h7,h8,q1,q2,q3,q4,q5,q6,q7,hbb,hbn,z7 (Zd _)]
theorem mC{s:Sto}(h:okC (clS s).cl=true):clS s=s:=by
 obtain⟨i,⟨a,b⟩⟩:=s;obtain⟨h1,h2,h3,_,⟨g,h5,h6⟩,_⟩:=GE h;simp only[clS] at h1 h2 h3 h5 h6 ⊢;have ha:clT a=a:=by
  unfold clT at h3 ⊢;split at h3
  ·rw[Zc (by assumption)]
  ·rcases h3 with h3|h3 <;> cases h3
 have hb:clT b=b:=by
  unfold clT at h5 h6 ⊢;split at h5
  ·rw[Zc (by assumption)]
  ·rename_i hc;rw[Za hc] at h6;have e:cvF zt.size zt=some (tstr Q2 [zt]):=rfl;rw[e] at h5;cases h5;exact absurd h6 (by decide)
 rw[ha,hb]
theorem mD{d:Dbs}(h:okD (clD d)=true):clD d=d:=by
 have hk:=((YG _).1 h).2.2.2.2.2.2.2;have hP:∀p∈d.procs,clP p=p:=fun p hp=>by
  have:∀s∈p.cls,clS s=s:=fun s hs=>by
   have hm:clP p∈(clD d).procs:=ZM.2 ⟨p,hp,rfl⟩;exact mC (hk _ hm (clS s) (ZM.2 ⟨s,hs,rfl⟩)).2.2.1
  unfold clP;rw[List.map_congr_left (g:=fun s=>s) this];simp
 unfold clD;rw[List.map_congr_left (g:=fun p=>p) hP];simp
theorem mE{d:Dbs}(h:okD d=false):okD (clD d)=false:=by
 cases e:okD (clD d) with
 |false=>rfl
 |true=>rw[mD e,h] at e;cases e
theorem GZ(t:Tm):(clT t).size<=max t.size 1:=by
 unfold clT;split
 ·omega
 ·have:zt.size=1:=rfl;omega
theorem mF{d:Dbs}(hb:BndD d):BndD (clD d):=by
 obtain⟨h1,h2,h3⟩:=hb;refine⟨by simpa[clD] using h1,?_,?_⟩
 ·have:totD (clD d).procs=totD d.procs:=by
   simp[totD,clD,clP,Function.comp_def]
  omega
 ·intro p hp s hs;obtain⟨q,hq,rfl⟩:=ZM.1 hp;obtain⟨u,hu,rfl⟩:=ZM.1 hs;obtain⟨k1,k2⟩:=h3 q hq u hu;have:=GZ u.cl.head;have:=GZ u.cl.body;simp only[clS];omega
theorem mG(d:Dbs)(x:Acx)(hw:0<=x.what/\x.what<=3):sfD (actR d x).1:=by
 cases hk:(actR d x).2.1 with
 |true=>
  have hv:okD d=true:=by
   cases e:okD d with
   |true=>rfl
   |false=>
    unfold actR at hk;split at hk
    ·simp[YF,e] at hk
    split at hk
    ·simp[addR,e] at hk
    split at hk
    ·simp[eraR,e] at hk
    split at hk
    ·simp[aboR,e] at hk
    omega
  exact GX (ME hv hk).1
 |false=>
  have:(actR d x).1=YB:=by
   unfold actR at hk ⊢;split at hk
   ·rw[Zc (by assumption)];simp only[decide_eq_false_iff_not] at hk;unfold YF at hk ⊢;split
    ·rfl
    ·rename_i h0;rw[Za h0] at hk;split at hk
     ·exact absurd rfl hk
     ·rename_i hm;split at hk
      ·rename_i h5;simp only[h5,if_true]
       try (split <;> simp_all)
      ·exact absurd rfl hk
   split at hk
   ·rw[Za (by assumption),Zc (by assumption)];simp only[decide_eq_false_iff_not] at hk;unfold addR at hk ⊢;split
    ·rfl
    ·rename_i h0;rw[Za h0] at hk;split
     ·rfl
     ·rename_i h1;rw[Za h1] at hk;split at hk
      ·exact absurd rfl hk
      ·split at hk
       ·rename_i h5;simp only[h5,if_true]
        try (split <;> simp_all)
       ·exact absurd rfl hk
   split at hk
   ·rw[Za (by assumption),Za (by assumption),Zc (by assumption)];dsimp only at hk;unfold eraR at hk ⊢;split
    ·rfl
    ·rename_i h0;rw[Za h0] at hk;split at hk
     ·simp_all
     ·cases hk
   split at hk
   ·rw[Za (by assumption),Za (by assumption),Za (by assumption),Zc (by assumption)];dsimp only at hk;unfold aboR at hk ⊢;split
    ·rfl
    ·rename_i h0;rw[Za h0] at hk;cases hk
   ·cases hk
  rw[this];exact mu
theorem mH(d:Dbs)(x:Acx):(actR (clD d) x).2=(actR d x).2/\(0<=x.what/\x.what<=3->(actR (clD d) x).1=(actR d x).1):=by
 cases hv:okD d with
 |true=>rw[Vf hv];exact⟨rfl,fun _=>rfl⟩
 |false=>
  have hv':=mE hv;have e1:∀s a b,YF d s a b=(YB,1):=fun s a b=>by simp[YF,hv]
  have e1':∀s a b,YF (clD d) s a b=(YB,1):=fun s a b=>by simp[YF,hv']
  have e2:∀s a b,addR d s a b=(YB,1):=fun s a b=>by simp[addR,hv]
  have e2':∀s a b,addR (clD d) s a b=(YB,1):=fun s a b=>by simp[addR,hv']
  have e3:∀i,eraR d i=(YB,false):=fun i=>by simp[eraR,hv]
  have e3':∀i,eraR (clD d) i=(YB,false):=fun i=>by simp[eraR,hv']
  have e4:∀s a,aboR d s a=(YB,false):=fun s a=>by simp[aboR,hv]
  have e4':∀s a,aboR (clD d) s a=(YB,false):=fun s a=>by simp[aboR,hv']
  unfold actR;simp only[e1,e1',e2,e2',e3,e3',e4,e4'];by_cases k0:x.what=0
  ·simp[k0]
  by_cases k1:x.what=1
  ·simp[k1]
  by_cases k2:x.what=2
  ·simp[k2]
  by_cases k3:x.what=3
  ·simp[k3]
  simp only[k0,k1,k2,k3,if_false,true_and];intro h;omega
theorem mI{n:Int}{s0:AV}{ps:List Prc}{els:List AV}{H:Heap}(h:OwnD s0 ps els H):∃H',AV.freeze deep (agD n s0) H=some ((⟨n,ps⟩:Dbs).pv,H')/\∀X,AV.freeze deep (agD n s0) (H'++X)=some ((⟨n,ps⟩:Dbs).pv,H'++X):=by
 have e:∀n l hp,AV.freeze (n+1) (.agg l) hp=match AV.freeze.go n l hp with|some (ps,hp')=>some (.agg ps,hp')|none=>none:=fun _ _ _=>rfl
 have e0:∀(x:PV) (s:Sh) (X:Heap),AV.freeze 7 (.pv s x) X=some (x,X):=fun _ _ _=>rfl;rcases h with⟨rfl,rfl,rfl⟩|⟨q,rfl,h1,h2,h3⟩
 ·exact⟨H,rfl,fun X=>rfl⟩
 ·obtain⟨H1,q1,q2⟩:=kS ps els H (by omega) h3;have h1':=(q2 q).2 _ _ h1;have em:(ps.map (fun p=>((some 4:Sh),p.pv))).map (·.2)=Prc.pvs ps:=by simp[Prc.pvs]
  have et:(Prc.pvs ps).take ps.length=Prc.pvs ps:=by
   rw[<-Prc.pvs_len ps,ZP]
  have hlt:q<H1.length:=(Zb.1 h1').1;have hfs:AV.freeze 7 (.slv (some 4) q ps.length 0 ps.length) H=some (.sl (some 4) (Prc.pvs ps),H1.set q (.arr (some 4) (Prc.pvs ps) true)):=by
   show AV.freeze (6+1) _ H=_;simp only[AV.freeze,h1,q1,h1',em,Z2,et];rw[Zc ⟨h2.symm,by omega⟩];simp
  have hfs2:∀X,AV.freeze 7 (.slv (some 4) q ps.length 0 ps.length) (H1.set q (.arr (some 4) (Prc.pvs ps) true)++X)=some (.sl (some 4) (Prc.pvs ps),H1.set q (.arr (some 4) (Prc.pvs ps) true)++X):=fun X=>by
   have g:(H1.set q (.arr (some 4) (Prc.pvs ps) true)++X)[q]? =some (.arr (some 4) (Prc.pvs ps) true):=by
    rw[Zn (by simpa using hlt),Zr hlt]
   show AV.freeze (6+1) _ _=_;simp only[AV.freeze,g,Prc.pvs_len,Z2,et];rw[Zc ⟨trivial,by omega⟩]
  refine⟨H1.set q (.arr (some 4) (Prc.pvs ps) true),?_,fun X=> ?_⟩
  ·show AV.freeze (7+1) (.agg _) H=_;simp only[e,AV.freeze.go,e0,hfs];rfl
  ·show AV.freeze (7+1) (.agg _) _=_;simp only[e,AV.freeze.go,e0,hfs2];rfl
theorem mJ(b0 b1 o:AObj)(E:Heap)(n:PV):z8 (some 2) 0 (b0::b1::(E++[o,.box (some 2) (.agg A1)])) [.ptr (E.length+1+1+1) 0,.pv (some 2) n]=some (.undef,b0::b1::(E++[o,.box (some 2) (.pv (some 2) n)])):=by
 have g:(E++[o,AObj.box (some 2) (.agg A1)])[E.length+1]? =some (.box (some 2) (.agg A1)):=by
  rw[Zp (by omega)];simp
 have q2:∀o',(E++[o,AObj.box (some 2) (.agg A1)]).set (E.length+1) o'=E++[o,o']:=fun o'=>by
  rw[zu _ _ (by omega)];simp
 simp[z8,astore,g,q2,AV.plain,AV.shp,AV.own]
theorem mK(b0 b1:AObj)(T:Heap)(n:PV):z8 (some 2) 0 (b0::b1::(T++[.box (some 2) (.agg A1)])) [.ptr (T.length+1+1) 0,.pv (some 2) n]=some (.undef,b0::b1::(T++[.box (some 2) (.pv (some 2) n)])):=by
 simp[z8,astore,AV.plain,AV.shp,AV.own]
set_option maxRecDepth 20000 in
theorem mL(d:Dbs)(hb:BndD d)(x:Acx)(z1:x.cl.head.size<100000000)(z2:x.cl.body.size<100000000):S 3 [d.av,x.av] []=some (.ret (.pv none (.bool true)),[]):=by
 refine Ya rfl rfl rfl (z9 [(some 2,d.pv),(some 14,x.pv)]) rfl ?_;have hex:=fun hp=>MC hp;have hnil:∀H:Heap,Yb A3 H=(A3,H):=fun _=>rfl;obtain⟨b0,hb0⟩:∃b0:AObj,b0=.box (some 2) (.pv (some 2) d.pv):=⟨_,rfl⟩;obtain⟨b1,hb1⟩:∃b1:AObj,b1=.box (some 14) (.pv (some 14) x.pv):=⟨_,rfl⟩;obtain⟨s0,qs,E,h1,hQ⟩:=rclone_own' d hb [b0,b1];have h2:=fun hp=>yH d hb hp;have h3:=fun hp=>MD d hb x z1 z2 hp;have h9:=fun hp=>mB d hb x.name x.ar x.id hp;obtain⟨a1,a2⟩:=mH d x;have a3:=mG d x;have hk:=hQ.own.slK;obtain⟨n,hn⟩:∃n,n=(actR d x).1:=⟨_,rfl⟩;obtain⟨m,hm⟩:∃m,m=(actR (clD d) x).1:=⟨_,rfl⟩;obtain⟨ok,hok⟩:∃ok,ok=(actR d x).2.1:=⟨_,rfl⟩;obtain⟨e,he⟩:∃e,e=(actR d x).2.2:=⟨_,rfl⟩;have hst:=Qu (s0:=.nilv (some 4)) hk d.next 0 b0 b1 E ⟨_,rfl⟩
 have hO:=(hQ.app [.box (some 2) (agD d.next s0),.box (some 2) (.pv (some 2) n.pv)]).own;obtain⟨H',k1,k2⟩:=mI (n:=d.next) hO;have hbx:=Vi _ _ _ _ _ k1;obtain⟨T,rfl,hT1,hT2,hTl⟩:∃T:Heap,H'=b0::b1::T/\T[E.length]? =some (.box (some 2) (agD d.next s0))/\T[E.length+1]? =some (.box (some 2) (.pv (some 2) n.pv))/\T.length=E.length+1+1:=by
  have l1:H'.length=E.length+1+1+1+1:=by rw[hbx.1];simp
  have g0:H'[0]? =some b0:=by rw[hb0];exact hbx.2 0 _ _ (by rw[<-hb0];rfl)
  have q1:H'[1]? =some b1:=by rw[hb1];exact hbx.2 1 _ _ (by rw[<-hb1];rfl)
  have q2:H'[E.length+1+1]? =some (.box (some 2) (agD d.next s0)):=hbx.2 _ _ _ (by simp);have q3:H'[E.length+1+1+1]? =some (.box (some 2) (.pv (some 2) n.pv)):=hbx.2 _ _ _ (by
   show(E++[_,_])[E.length+1]? =_;rw[Zp (by omega)];simp)
  match H',l1,g0,q1,q2,q3 with
  |y0::y1::T,l1,g0,q1,q2,q3=>
   cases g0;cases q1;exact⟨T,rfl,q2,q3,by simpa using l1⟩
 have hax:∀X,AV.freeze deep (.pv (some 14) x.pv) X=some (x.pv,X):=fun _=>rfl;have hdx:∀X,AV.freeze deep (.pv (some 2) d.pv) X=some (d.pv,X):=fun _=>rfl;have hsh:(agD d.next s0).shp=some 2:=rfl;have h4:S 8 [agD d.next s0,.pv (some 14) x.pv] (b0::b1::(E++[.box (some 2) (agD d.next s0),.box (some 2) (.pv (some 2) n.pv)]))=some (.ret (.tuple [m.av,.pv none (.bool ok),.pv none (.int .i64 e)]),b0::b1::T):=by
  have:=my (clD d) (mF hb) x z1 z2 [];rw[a1,<-hm,<-hok,<-he] at this;exact Xa (F:=find tab) (prim:=prim) (f:=8) (ps:=[(some 2,(clD d).pv),(some 14,x.pv)]) rfl rfl rfl (by
   have k1':AV.freeze deep (agD d.next s0) (b0::b1::(E++[.box (some 2) (agD d.next s0),.box (some 2) (.pv (some 2) n.pv)]))=_:=k1;simp only[Yn,k1',hax,hsh];rfl) this
 have h5:okD d=true->S 9 [.pv (some 2) d.pv,agD d.next s0] (b0::b1::(T++[.box (some 2) (.pv (some 2) m.pv)]))=some (.ret (.pv none (.bool true)),b0::b1::(T++[.box (some 2) (.pv (some 2) m.pv)])):=fun hv=>by
  have:=GY d (GX hv) [];have k2':=k2 [.box (some 2) (.pv (some 2) m.pv)];exact Xa (F:=find tab) (prim:=prim) (f:=9) (ps:=[(some 2,d.pv),(some 2,d.pv)]) (hp1:=b0::b1::(T++[.box (some 2) (.pv (some 2) m.pv)])) rfl rfl rfl (by
   have k2'':AV.freeze deep (agD d.next s0) (b0::b1::(T++[.box (some 2) (.pv (some 2) m.pv)]))=some (d.pv,b0::b1::(T++[.box (some 2) (.pv (some 2) m.pv)])):=by
    have:(⟨d.next,(clD d).procs⟩:Dbs)=d:=by rw[Vf hv]
    rw[this] at k2';exact k2'
   simp only[Yn,k2'',hdx,hsh];rfl) this
 have h6:0<=x.what/\x.what<=3->∀hp,S 9 [n.av,m.av] hp=some (.ret (.pv none (.bool true)),hp):=fun hw hp=>by
  rw[hm,a2 hw,<-hn];exact GY n (hn▸a3 hw) hp
 rw[<-hn,<-hok,<-he] at h3;have hs1:=mJ b0 b1 (.box (some 2) (agD d.next s0)) E n.pv;have hs2:=mK b0 b1 T m.pv;have q1:(E++[AObj.box (some 2) (agD d.next s0),.box (some 2) (.pv (some 2) n.pv)])[E.length]? =some (.box (some 2) (agD d.next s0)):=by simp
 have q2:∀X,(T++X)[E.length]? =some (.box (some 2) (agD d.next s0)):=fun X=>by rw[Zn (by omega),hT1]
 have q3:∀X,(T++X)[E.length+1]? =some (.box (some 2) (.pv (some 2) n.pv)):=fun X=>by rw[Zn (by omega),hT2]
 have hbb:∀b:Bool,(b != b)=false:=fun b=>by cases b <;> rfl
 have hbe:∀b:Bool,(b == b)=true:=fun b=>by cases b <;> rfl
 simp only[Dbs.av,Acx.av,ZK,ZJ] at h1 h2 h3 h4 h6 h9;simp only[agD] at hst hs1 h1 h4 h5 q1 q2;subst hb0 hb1;by_cases w0:(0:Int)<=x.what
 ·by_cases w3:x.what<=3
  ·have h6:=h6 ⟨w0,w3⟩;cases hv:okD d with
   |true=>
    have h5:=h5 hv;rw[hv] at h2;simp -dsimp -implicitDefEqProofs only[go_sem,seval,↓reduceIte,Dbs.av,Acx.av,yO,yP,yQ,yR,h1,h2,h3,h4,h5,h6,h9,hex,hbb,hbe,w0,w3,hst,hs1,hs2,q1,q2,q3,yY,Xs,hnil]
   |false=>
    rw[hv] at h2;simp -dsimp -implicitDefEqProofs only[go_sem,seval,↓reduceIte,Dbs.av,Acx.av,yO,yP,yQ,yR,h1,h2,h3,h4,h6,h9,hex,hbb,hbe,w0,w3,hst,hs1,hs2,q1,q2,q3,yY,Xs,hnil]
  ·cases hv:okD d with
   |true=>
    have h5:=h5 hv;rw[hv] at h2;simp -dsimp -implicitDefEqProofs only[go_sem,seval,↓reduceIte,Dbs.av,Acx.av,yO,yP,yQ,yR,h1,h2,h3,h4,h5,h9,hex,hbb,hbe,w0,w3,hst,hs1,hs2,q1,q2,q3,yY,Xs,hnil]
   |false=>
    rw[hv] at h2;simp -dsimp -implicitDefEqProofs only[go_sem,seval,↓reduceIte,Dbs.av,Acx.av,yO,yP,yQ,yR,h1,h2,h3,h4,h9,hex,hbb,hbe,w0,w3,hst,hs1,hs2,q1,q2,q3,yY,Xs,hnil]
 ·cases hv:okD d with
  |true=>
   have h5:=h5 hv;rw[hv] at h2;simp -dsimp -implicitDefEqProofs only[go_sem,seval,↓reduceIte,Dbs.av,Acx.av,yO,yP,yQ,yR,h1,h2,h3,h4,h5,h9,hex,hbb,hbe,w0,hst,hs1,hs2,q1,q2,q3,yY,Xs,hnil]
  |false=>
   rw[hv] at h2;simp -dsimp -implicitDefEqProofs only[go_sem,seval,↓reduceIte,Dbs.av,Acx.av,yO,yP,yQ,yR,h1,h2,h3,h4,h9,hex,hbb,hbe,w0,hst,hs1,hs2,q1,q2,q3,yY,Xs,hnil]
end Go.Proofs.YtligpohiokpnhaaGreat
namespace Go.Proofs.YtligpohiokpnhaaGreat
open Go.Am Go.ChangeShapes Go.WideShapes Go.ChangeAt Go.RowKit
theorem mM(H:Type):BulkLaws (H:=H) Rows.uptoBulk Rows.uptoBulkAll where
 nil:=by simp[Rows.uptoBulkAll]
 cons d r:=by simp[Rows.uptoBulkAll]
 slice e s:=by simp[Rows.uptoBulk]
 agg l:=by simp[Rows.uptoBulk]
 string l:=by simp[Rows.uptoBulk]
theorem mN{H:Type}{l:List (DataW H)}(hk:Rows.uptoSmall H l=true):Rows.uptoBulkAll l<=1048576:=zi hk
def G0(P:Program)(tA tT:TypeId):Bool:=
 (match P.underlying tA with|some (.slice t)=>t == tT|_=>false) &&
 (match P.underlying tT with
  |some (.struct fs)=>match fs.toList.map (·.type) with
   |[a,b,c,d]=>d == tA && (match P.underlying a with|some (.int .i64)=>true|_=>false) && (match P.underlying b with|some (.int .i64)=>true|_=>false) && (match P.underlying c with|some .string=>true|_=>false) && decide (shOf P a=none) && decide (shOf P b=none) && decide (shOf P c=none)
   |_=>false
  |_=>false) && decide (shOf P tT=some 4) && decide (shOf P tA=none)
theorem mO{P:Program}{tA tT:TypeId}(h:G0 P tA tT=true):TermTy P tA tT:=by
 unfold G0 at h;simp only[Zg,Zw] at h;obtain⟨⟨⟨h1,h2⟩,h3⟩,h4⟩:=h;refine⟨?_,?_⟩
 ·split at h1
  ·rename_i t ht;rw[ht];simp at h1;rw[h1]
  ·cases h1
 ·split at h2
  ·rename_i fs hfs;split at h2
   ·rename_i a b c d hl;simp only[Zg,Zw,beq_iff_eq] at h2;obtain⟨⟨⟨⟨⟨⟨k1,k2⟩,k3⟩,k4⟩,k5⟩,k6⟩,k7⟩:=h2;subst k1;refine⟨fs,a,b,c,hfs,hl,?_,?_,?_,h3,h4,k5,k6,k7⟩
    ·split at k2
     ·assumption
     ·cases k2
    ·split at k3
     ·assumption
     ·cases k3
    ·split at k4
     ·assumption
     ·cases k4
   ·cases h2
  ·cases h2
theorem G4:TermTy Tryz.prog 25 27:=mO (by kernel_rfl)
def G5:List TypeId:=[2,3,4,5,9,25,27,29,53,44,46,22,24,31,41]
theorem closed:uf Tryz.prog G5=true:=by kernel_rfl
end Go.Proofs.YtligpohiokpnhaaGreat
namespace Go.Proofs.YtligpohiokpnhaaGreat
open Go.Am Go.ChangeShapes Go.WideShapes Go.ChangeAt Go.RowKit
theorem mP(H:Type):BulkLaws2 (H:=H) Rows.uptoBulk Rows.uptoBulkAll:=
 ⟨mM H,fun d=>by
  cases d with
  |lit l=>cases l <;> simp[Rows.uptoBulk]
  |_=>simp[Rows.uptoBulk]⟩
set_option maxRecDepth 100000 in
theorem G6{H:Type}{enc:TypeId × Value->H}{W:World}{base:Nat}{v:Value}{d:DataW H}{ps:List MemPlace}{t:TypeId}(ht:t∈G5)(hok:okT Tryz.prog t=true)(h:DataW.Trod enc Tryz.prog W 0 (fun _=>true) true t v d ps)(hv:Value.okWide Tryz.prog W .any base t v):
  ∃n p,AR W (noX (P:=Tryz.prog)) noμ [] (.pv (shOf Tryz.prog t) p) v/\wt Tryz.prog n t p/\p.sz<=Rows.uptoBulk d:=by
 obtain⟨fuel,h0⟩:=h;obtain⟨p,hp⟩:=LC closed fuel _ _ _ _ ht h0;obtain⟨h1,h2⟩:=ul (mP H) fuel _ _ _ hp;exact⟨fuel,p,LA ⟨fuel,h0⟩ hok hp (LB hv),h1,h2⟩
end Go.Proofs.YtligpohiokpnhaaGreat
namespace Go.Proofs.YtligpohiokpnhaaGreat
open Go.Am Go.ChangeShapes Go.WideShapes Go.ChangeAt Go.RowKit
theorem G7{n:Nat}{p:PV}(h:wt Tryz.prog n 29 p):∃x:Cz,p=x.pv:=by
 obtain⟨m,l,rfl,h'⟩:=qO (ts:=[27,27]) (by kernel_rfl) h;obtain⟨a,l,rfl,ha,h⟩:=yF h';obtain⟨b,l,rfl,hb,h⟩:=yF h;obtain rfl:=qP h;obtain⟨x,rfl,_⟩:=(kh G4 m).1 a ha;obtain⟨y,rfl,_⟩:=(kh G4 m).1 b hb;refine⟨⟨x,y⟩,?_⟩;rw[show shOf Tryz.prog 27=some 4 from by kernel_rfl];rfl
theorem mQ{n:Nat}{p:PV}(h:wt Tryz.prog n 53 p):∃x:Sto,p=x.pv:=by
 obtain⟨m,l,rfl,h'⟩:=qO (ts:=[2,29]) (by kernel_rfl) h;obtain⟨a,l,rfl,ha,h⟩:=yF h';obtain⟨b,l,rfl,hb,h⟩:=yF h;obtain rfl:=qP h;obtain⟨x,rfl,_⟩:=Q0 (by kernel_rfl) ha;obtain⟨y,rfl⟩:=G7 hb;refine⟨⟨x,y⟩,?_⟩;rw[show shOf Tryz.prog 2=none from by kernel_rfl,show shOf Tryz.prog 29=some 8 from by kernel_rfl];rfl
theorem mR{n:Nat}{p:PV}(h:wt Tryz.prog n 46 p):∃x:Prc,p=x.pv:=by
 obtain⟨m,l,rfl,h'⟩:=qO (ts:=[9,3,4,44]) (by kernel_rfl) h;obtain⟨a,l,rfl,ha,h⟩:=yF h';obtain⟨b,l,rfl,hb,h⟩:=yF h;obtain⟨c,l,rfl,hc,h⟩:=yF h;obtain⟨d,l,rfl,hd,h⟩:=yF h;obtain rfl:=qP h;obtain⟨x,rfl⟩:=uv (by kernel_rfl) ha;obtain⟨y,rfl,_⟩:=Q0 (by kernel_rfl) hb;obtain⟨z,rfl⟩:=ki (by kernel_rfl) hc;obtain⟨k,es,rfl,he⟩:=uw (e:=53) (by kernel_rfl) hd;obtain⟨gs,rfl,_⟩:=kk (f:=Sto.pv) (Q:=fun _=>True) es fun x hx=>by
  obtain⟨g,rfl⟩:=mQ (he x hx);exact⟨g,rfl,trivial⟩
 refine⟨⟨x,y,z,gs⟩,?_⟩;rw[show shOf Tryz.prog 9=none from by kernel_rfl,show shOf Tryz.prog 3=none from by kernel_rfl,show shOf Tryz.prog 4=none from by kernel_rfl,show shOf Tryz.prog 44=none from by kernel_rfl,show shOf Tryz.prog 53=some 9 from by kernel_rfl];rfl
theorem mS{n:Nat}{p:PV}(h:wt Tryz.prog n 24 p):∃x:Dbs,p=x.pv:=by
 obtain⟨m,l,rfl,h'⟩:=qO (ts:=[2,22]) (by kernel_rfl) h;obtain⟨a,l,rfl,ha,h⟩:=yF h';obtain⟨b,l,rfl,hb,h⟩:=yF h;obtain rfl:=qP h;obtain⟨x,rfl,_⟩:=Q0 (by kernel_rfl) ha;obtain⟨k,es,rfl,he⟩:=uw (e:=46) (by kernel_rfl) hb;obtain⟨gs,rfl,_⟩:=kk (f:=Prc.pv) (Q:=fun _=>True) es fun x hx=>by
  obtain⟨g,rfl⟩:=mR (he x hx);exact⟨g,rfl,trivial⟩
 refine⟨⟨x,gs⟩,?_⟩;rw[show shOf Tryz.prog 2=none from by kernel_rfl,show shOf Tryz.prog 22=none from by kernel_rfl,show shOf Tryz.prog 46=some 4 from by kernel_rfl];rfl
theorem Vj(c:Cz):c.head.size<=c.pv.sz/\c.body.size<=c.pv.sz:=by
 have h1:=Tm.zxt c.head;have h2:=Tm.zxt c.body;simp[Cz.pv,PV.sz,PV.szc];omega
theorem mT(s:Sto):s.cl.pv.sz<=s.pv.sz:=by
 simp[Sto.pv,PV.sz,PV.szc];omega
theorem Vk:∀l:List Sto,l.length<=PV.szs (Sto.pvs l)/\∀s∈l,s.pv.sz<=PV.szs (Sto.pvs l)
 |[]=>⟨Zd _,fun b hb=>by cases hb⟩
 |x::r=>by
  obtain⟨h1,h2⟩:=Vk r;have h4:PV.szs (Sto.pvs (x::r))=x.pv.sz+PV.szs (Sto.pvs r):=by simp[Sto.pvs,PV.szs]
  have h5:1<=x.pv.sz:=by simp[Sto.pv,PV.sz];try omega
  refine⟨by simp only[ZO];omega,fun b hb=> ?_⟩;rcases Zu.1 hb with rfl|hb
  ·omega
  ·have:=h2 b hb;omega
theorem G8(p:Prc):PV.szs (Sto.pvs p.cls)+1<=p.pv.sz:=by
 simp[Prc.pv,PV.sz,PV.szc];omega
theorem G9:∀l:List Prc,l.length<=PV.szs (Prc.pvs l)/\totD l<=PV.szs (Prc.pvs l)/\∀p∈l,p.pv.sz<=PV.szs (Prc.pvs l)
 |[]=>⟨Zd _,Zd _,fun b hb=>by cases hb⟩
 |x::r=>by
  obtain⟨h1,h2,h3⟩:=G9 r;have h4:PV.szs (Prc.pvs (x::r))=x.pv.sz+PV.szs (Prc.pvs r):=by simp[Prc.pvs,PV.szs]
  have h5:=G8 x;have h6:=(Vk x.cls).1;have h7:totD (x::r)=x.cls.length+totD r:=by simp[totD]
  refine⟨by simp only[ZO];omega,by omega,fun b hb=> ?_⟩;rcases Zu.1 hb with rfl|hb
  ·omega
  ·have:=h3 b hb;omega
theorem mU{d:Dbs}(h:d.pv.sz<=1048576):BndD d:=by
 have h0:PV.szs (Prc.pvs d.procs)<=d.pv.sz:=by
  simp[Dbs.pv,PV.sz,PV.szc];omega
 obtain⟨h1,h2,h3⟩:=G9 d.procs;refine⟨by omega,by omega,fun p hp s hs=> ?_⟩;have g1:=h3 p hp;have g2:=G8 p;have g3:=(Vk p.cls).2 s hs;have g4:=mT s;have g5:=Vj s.cl;omega
set_option maxRecDepth 100000 in
theorem mV{H:Type}{enc:TypeId × Value->H}{W:World}{base:Nat}{v:Value}{d:DataW H}{ps:List MemPlace}(h:DataW.Trod enc Tryz.prog W 0 (fun _=>true) true 24 v d ps)(hv:Value.okWide Tryz.prog W .any base 24 v):
  ∃f:Dbs,AR W (noX (P:=Tryz.prog)) noμ [] f.av v/\f.pv.sz<=Rows.uptoBulk d:=by
 obtain⟨n,p,h1,h2,h3⟩:=G6 (by decide) (by kernel_rfl) h hv;obtain⟨f,rfl⟩:=mS h2;rw[show shOf Tryz.prog 24=some 2 from by kernel_rfl] at h1;exact⟨f,h1,h3⟩
end Go.Proofs.YtligpohiokpnhaaGreat
