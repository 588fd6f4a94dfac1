/- What is proved: the reference's Valid gives an answer, and is not true of a database that is not valid. -/
import Derived.Test.YtgedfopkiebjkaaGreatDoorRcc
import Derived.Test.YtgedfopkiebjkaaGreatDoorDataF
set_option linter.unusedSimpArgs false
set_option linter.unusedVariables false
set_option maxRecDepth 20000
namespace Go.Proofs.YtgedfopkiebjkaaGreatDoor
open Go.Am
theorem W_ex{β:Type}{Γ:Oracle}{Λ:Yo}{b:Nat}{c:ACode}{st:St}{rs:List RSlot}{P:β->AV->Heap->Prop}(h:W Γ Λ b c st (endK rs fun v hp=>∃x,P x v hp)):∃x,W Γ Λ b c st (endK rs (P x)):=by
 unfold W at h ⊢;split at h
 ·rename_i e st' he;cases e with
  |normal=>
   rw[xg] at h;cases hr:Yp st' rs with
   |none=>rw[hr] at h;exact h.elim
   |some u=>
    rw[hr] at h;obtain⟨x,hx⟩:=h;refine⟨x,?_⟩;rw[xg,hr];exact hx
  |ret=>
   rw[XR] at h;cases hr:Yp st' rs with
   |none=>rw[hr] at h;exact h.elim
   |some u=>
    rw[hr] at h;obtain⟨x,hx⟩:=h;refine⟨x,?_⟩;rw[XR,hr];exact hx
  |exit i=>exact h.elim
  |panic v=>exact h.elim
 grind
theorem Oq(s:List UInt8)(a:Int)(hp:Heap):S 27 [P6 s,P4 a] hp=some (.ret (P5 (namB (keyP s a))),hp):=by
 refine zM rfl rfl rfl (zJ [(none,.str s),(none,.int .i64 a)]) rfl ?_;unfold namB keyP;by_cases h1:s.length<=100
 ·have h1':(s.length:Int)<=100:=by omega
  by_cases h2:0<=a
  ·simp -dsimp -implicitDefEqProofs only[go_sem,seval,h1,h1',h2]
  ·simp -dsimp -implicitDefEqProofs only[go_sem,seval,h1,h1',h2]
 ·have h1':¬(s.length:Int)<=100:=by omega
  simp -dsimp -implicitDefEqProofs only[go_sem,seval,h1,h1']
theorem Ot(p q:Prc)(hp:Heap):S 28 [p.av,q.av] hp=some (.ret (P5 (decide (ordP p q<0))),hp):=by
 refine zM rfl rfl rfl (zJ [(some 4,p.pv),(some 4,q.pv)]) rfl ?_;have e:= @Vy p q;cases h1:Op.bytesLess p.name q.name with
 |true=>
  rw[ZN (e.2 (.inl h1))];simp -dsimp -implicitDefEqProofs only[go_sem,seval,Prc.av,Yu,Yw,h1]
 |false=>
  by_cases h2:p.name=q.name
  ·have h2':=Zg h2;by_cases h3:p.ar<q.ar
   ·rw[ZN (e.2 (.inr ⟨h2,h3⟩))];simp -dsimp -implicitDefEqProofs only[go_sem,seval,Prc.av,Yu,Yw,h1,h2',h3]
   ·rw[zA fun h=>by
     grind]
    simp -dsimp -implicitDefEqProofs only[go_sem,seval,Prc.av,Yu,Yw,h1,h2',h3]
  ·have h2':=Zi h2;rw[zA fun h=>by
    grind]
   simp -dsimp -implicitDefEqProofs only[go_sem,seval,Prc.av,Yu,Yw,h1,h2']
theorem V0(l:List Prc):totD l=(ids l).length:=by
 induction l with
 |nil=>rfl
 |cons p r ih=>rw[VK,XX,Z6,List.length_map,ih]
theorem Ou(d:Dbs)(h1:d.procs.length<1000000000)(h2:totD d.procs<1000000000):∃r:{x:Int // x<=500->totD d.procs<=500},∀hp,S 26 [d.av] hp=some (.ret (P4 r.1),hp):=by
 suffices h:∃r:{x:Int // x<=500->totD d.procs<=500},W (sem (find tab) prim) (sloop (find tab) prim) 0 (g26).code ⟨params 0 (pvs [(some 2,d.pv)]),[]⟩ (endK (g26).results (Am.frozen (P4 r.1))) by
  obtain⟨r,hr⟩:=h;exact⟨r,fun hp=>zM rfl rfl rfl (zJ [(some 2,d.pv)]) rfl hr⟩
 refine W_ex (P:=fun(r:{x:Int // x<=500->totD d.procs<=500})=>Am.frozen (P4 r.1)) ?_;simp -dsimp -implicitDefEqProofs only[go_sem,seval,Dbs.av,Yn,Prc.pvs_len];refine Ye (α:=Unit) d.procs.length (fun _ _=>True) (fun i _=>⟨[(1,.ptr 0 0),(3,P4 (totD (d.procs.take i):Int)),(4,P4 i)],[.box (some 2) (.pv (some 2) d.pv)]⟩) () ⟨trivial,rfl⟩ ?_ ?_
 ·rintro i - h -;have hcc:(i:Int)<(d.procs.length:Int):=by omega
  have w1:IntKind.i64.wrap ((i:Int)+1)=((i+1:Nat):Int):=by grind [zW]
  obtain⟨p,hpp⟩:∃p,d.procs[i]? =some p:=⟨_,Zd h⟩;have ht:=Vv hpp;have hle:=Vw (l:=d.procs) (i+1);have w2:IntKind.i64.wrap ((totD (d.procs.take i):Int)+(p.cls.length:Int))=(totD (d.procs.take (i+1)):Int):=by grind [zW]
  by_cases g1:(500:Int)<(p.cls.length:Int)
  ·simp -dsimp -implicitDefEqProofs only[go_sem,seval,hcc,w1,w2,g1,Yn,YG,Prc.pvs_len,Sto.pvs_len,zQ (Prc.pvs_get hpp)];simp_all
  ·by_cases g2:(500:Int)<(totD (d.procs.take i):Int)
   ·simp -dsimp -implicitDefEqProofs only[go_sem,seval,hcc,w1,w2,g1,g2,Yn,YG,Prc.pvs_len,Sto.pvs_len,zQ (Prc.pvs_get hpp)];simp_all
   ·simp -dsimp -implicitDefEqProofs only[go_sem,seval,hcc,w1,w2,g1,g2,Yn,YG,Prc.pvs_len,Sto.pvs_len,zQ (Prc.pvs_get hpp)];simp_all
 ·rintro - -;have hcc:¬(d.procs.length:Int)<(d.procs.length:Int):=by omega
  simp -dsimp -implicitDefEqProofs only[go_sem,seval,hcc,Yn,Prc.pvs_len];exact⟨⟨totD (d.procs.take d.procs.length),fun h=>by grind⟩,rfl⟩
theorem Ov(c:Cz)(z1:c.head.size<100000000)(z2:c.body.size<100000000):∃r:{x:Bool // x=true->okC c=true},∀hp,S 29 [c.av] hp=some (.ret (P5 r.1),hp):=by
 obtain⟨r,hr,hi⟩:=Oo c z1 z2 [];exact⟨⟨r,hi⟩,fun hp=>yw (F:=find tab) (prim:=prim) (f:=29) (ps:=[(some 8,c.pv)]) (hp:=hp) (hp1:=hp) rfl rfl rfl rfl hr⟩
set_option maxHeartbeats 4000000 in
theorem Ow(d:Dbs)(hb:BndD d):∃r:{x:Bool // x=true->okD d=true},∀hp,S 7 [d.av] hp=some (.ret (P5 r.1),hp):=by
 suffices h:∃r:{x:Bool // x=true->okD d=true},W (sem (find tab) prim) (sloop (find tab) prim) 0 (g7).code ⟨params 0 (pvs [(some 2,d.pv)]),[]⟩ (endK (g7).results (Am.frozen (P5 r.1))) by
  obtain⟨r,hr⟩:=h;exact⟨r,fun hp=>zM rfl rfl rfl (zJ [(some 2,d.pv)]) rfl hr⟩
 refine W_ex (P:=fun(r:{x:Bool // x=true->okD d=true})=>Am.frozen (P5 r.1)) ?_;obtain⟨⟨r,hr5⟩,h1⟩:=Ou d hb.1 hb.2.1;have hl:=hb.1;have htd:=hb.2.1;simp only[Dbs.av] at h1;have hn0:∀H:Heap,YS none H=some (.sl none H.length 0 0 0,H++[.arr none [] false]):=fun H=>Xf (sh:=none) (by decide);by_cases b1:d.next<1
 ·simp -dsimp -implicitDefEqProofs only[go_sem,seval,Dbs.av,Yl,Yn,b1,Prc.pvs_len];simp_all
 by_cases b2:4294967296<d.next
 ·simp -dsimp -implicitDefEqProofs only[go_sem,seval,Dbs.av,Yl,Yn,b1,b2,Prc.pvs_len];simp_all
 by_cases b3:(500:Int)<(d.procs.length:Int)
 ·simp -dsimp -implicitDefEqProofs only[go_sem,seval,Dbs.av,Yl,Yn,b1,b2,b3,Prc.pvs_len];simp_all
 by_cases b4:500<r
 ·simp -dsimp -implicitDefEqProofs only[go_sem,seval,Dbs.av,Yl,Yn,b1,b2,b3,h1,b4,Prc.pvs_len];simp_all
 simp -dsimp -implicitDefEqProofs only[go_sem,seval,Dbs.av,Yl,Yn,b1,b2,b3,h1,b4,hn0,Prc.pvs_len];refine Ye (α:=List Int) d.procs.length (fun i l=>l=ids (d.procs.take i)/\OkP d.next (d.procs.take i)) (fun i l=>⟨[(1,.ptr 0 0),(3,.sl none 1 l.length 0 l.length),(4,P4 i)],[.box (some 2) (.pv (some 2) d.pv),.arr none (ints l) false]⟩) [] ⟨⟨rfl,fun p hp=>(by cases hp),List.Pairwise.nil,List.nodup_nil,fun p hp=>(by cases hp)⟩,rfl⟩ ?_ ?_
 ·rintro i l0 h ⟨hl0,hinv⟩;have hll0:l0.length=totD (d.procs.take i):=by rw[hl0,V0]
  have hcc:(i:Int)<(d.procs.length:Int):=by omega
  have w1:IntKind.i64.wrap ((i:Int)+1)=((i+1:Nat):Int):=by grind [zW]
  obtain⟨p,hpp⟩:∃p,d.procs[i]? =some p:=⟨_,Zd h⟩;have hpm:=Zj hpp;have ht:=Vv hpp;have hle:=Vw (l:=d.procs) (i+1);have h2:=fun hp=>Oq p.name p.ar hp;cases hnm:namB (keyP p.name p.ar) with
  |false=>
   rw[hnm] at h2;simp -dsimp -implicitDefEqProofs only[go_sem,seval,hcc,w1,Yn,Prc.pvs_len,zQ (Prc.pvs_get hpp),Yu,Yw,h2,zH (Za _)];simp_all
  |true=>
  rw[hnm] at h2;have h3:∃q:Prc,(0<i->d.procs[i - 1]? =some q):=by
   grind
  obtain⟨q,hq⟩:=h3;have h4:=fun hp=>Ot q p hp;simp only[Prc.av] at h4;have w3:0<i->IntKind.i64.wrap ((i:Int) - 1)=((i - 1:Nat):Int):=fun h=>by grind [zW]
  have go:(0<i/\decide (ordP q p<0)=false)\/¬((0:Int)<(i:Int))\/(0<i/\decide (ordP q p<0)=true):=by
   grind
  rcases go with⟨i0,e⟩|go
  ·rw[e] at h4;have i0':(0:Int)<(i:Int):=by omega
   have hq:=hq i0;have w3:=w3 i0;simp -dsimp -implicitDefEqProofs only[go_sem,seval,hcc,w1,w3,i0',Yn,Prc.pvs_len,zQ (Prc.pvs_get hpp),zQ (Prc.pvs_get hq),Yu,Yw,h2,h4,zH (Za _)];simp_all
  have hpre:∀a∈d.procs.take i,ordP a p<0:=fun a ha=>by
   obtain⟨j,hj⟩:=ZG.1 ha;have hjl:=(Ze.1 hj).1;rw[Zw] at hjl;rcases go with i0|⟨i0,e⟩
   ·omega
   ·have hqt:(d.procs.take i)[i - 1]? =some q:=by grind
    rcases Zo j (i - 1) with k|k
    ·exact jE (jH hinv.2.1 j (i - 1) a q k hj hqt) (Z8 e)
    grind
  rcases go with i0|⟨i0,e⟩
  simp -dsimp -implicitDefEqProofs only[go_sem,seval,hcc,w1,i0,Yn,Prc.pvs_len,zQ (Prc.pvs_get hpp),Yu,Yw,h2,zH (Za _)]
  rotate_left
  rw[e] at h4;have i0':(0:Int)<(i:Int):=by omega
  have hq:=hq i0;have w3:=w3 i0;simp -dsimp -implicitDefEqProofs only[go_sem,seval,hcc,w1,w3,i0',Yn,Prc.pvs_len,zQ (Prc.pvs_get hpp),zQ (Prc.pvs_get hq),Yu,Yw,h2,h4,zH (Za _)]
  all_goals
   refine Ye (α:=List Int) p.cls.length (fun k l=>l=l0++(p.cls.take k).map (·.id)/\l.Nodup/\∀s∈p.cls.take k,okS d.next p s) (fun k l=>⟨[(1,.ptr 0 0),(3,.sl none 1 l.length 0 l.length),(4,P4 i),(5,.ptr 2 0),(6,P4 k)],[.box (some 2) (.pv (some 2) d.pv),.arr none (ints l) false,.box (some 4) (.pv (some 4) p.pv),.arr (some 9) [] false]⟩) l0 ⟨⟨by simp,by rw[hl0];exact hinv.2.2.1,fun s hs=>by cases hs⟩,rfl⟩ ?_ ?_
   ·rintro k l hk ⟨hle,hnd,hoks⟩;have hll:l.length=l0.length+k:=by grind
    have hck:(k:Int)<(p.cls.length:Int):=by omega
    have w4:IntKind.i64.wrap ((k:Int)+1)=((k+1:Nat):Int):=by grind [zW]
    obtain⟨c,hcs⟩:∃c,p.cls[k]? =some c:=⟨_,Zd hk⟩;have hcm:=Zj hcs;obtain⟨z1,z2⟩:=hb.2.2 p hpm c hcm;obtain⟨⟨v,hvi⟩,hval⟩:=Ov c.cl z1 z2;simp only[Cz.av] at hval;by_cases c1:c.id<1
    ·simp -dsimp -implicitDefEqProofs only[go_sem,seval,hck,w4,YG,Sto.pvs_len,zQ (Sto.pvs_get hcs),YF,c1,zH (Za _)];simp_all
    by_cases c2:d.next<=c.id
    ·simp -dsimp -implicitDefEqProofs only[go_sem,seval,hck,w4,YG,Sto.pvs_len,zQ (Sto.pvs_get hcs),YF,c1,c2,Yl,zH (Za _)];simp_all
    cases v with
    |false=>
     simp -dsimp -implicitDefEqProofs only[go_sem,seval,hck,w4,YG,Sto.pvs_len,zQ (Sto.pvs_get hcs),YF,yz,c1,c2,hval,Yl,zH (Za _)];simp_all
    |true=>
    by_cases c4:c.cl.head.name=p.name
    rotate_left
    ·have c4':=Zi c4;simp -dsimp -implicitDefEqProofs only[go_sem,seval,hck,w4,YG,Yu,Sto.pvs_len,zQ (Sto.pvs_get hcs),YF,yz,yO,c1,c2,c4',hval,Yl,zH (Za _)];simp_all
    have c4':=Zg c4;by_cases c5:(c.cl.head.args.length:Int)=p.ar
    rotate_left
    ·have c5':=Zi c5;simp -dsimp -implicitDefEqProofs only[go_sem,seval,hck,w4,YG,Yu,Yw,Sto.pvs_len,Tm.pvs_len,zQ (Sto.pvs_get hcs),YF,yz,yO,y5,c1,c2,c4',c5',hval,Yl,zH (Za _)];simp_all
    have c5':=Zg c5;simp -dsimp -implicitDefEqProofs only[go_sem,seval,hck,w4,YG,Yu,Yw,Sto.pvs_len,Tm.pvs_len,zQ (Sto.pvs_get hcs),YF,yz,yO,y5,c1,c2,c4',c5',hval,Yl,zH (Za _)];refine Ye (α:=Unit) l.length (fun j _=>∀(j':Nat) (x:Int),j'<j->l[j']? =some x->x≠c.id) (fun j _=>⟨[(1,.ptr 0 0),(3,.sl none 1 l.length 0 l.length),(4,P4 i),(5,.ptr 2 0),(6,P4 k),(7,.ptr 4 0),(8,P4 j)],[.box (some 2) (.pv (some 2) d.pv),.arr none (ints l) false,.box (some 4) (.pv (some 4) p.pv),.arr (some 9) [] false,.box (some 9) (.pv (some 9) c.pv)]⟩) () ⟨fun j' x h=>by omega,rfl⟩ ?_ ?_
    ·rintro j - hj hinj;have hcj:(j:Int)<(l.length:Int):=by omega
     have w5:IntKind.i64.wrap ((j:Int)+1)=((j+1:Nat):Int):=by grind [zW]
     obtain⟨x,hx⟩:∃x,l[j]? =some x:=⟨_,Zd hj⟩;have hia:Yc none [.sl none 1 l.length 0 l.length,P4 j]=some (.eptr none 1 l.length j 0):=by
      grind [Qx]
     have hld:∀(x0:AObj) (X:Heap),aload none (x0::.arr none (ints l) false::X) (.eptr none 1 l.length j 0)=some (P4 x):=fun x0 X=>by
      simp[aload,Y9,QF hx]
     by_cases hxc:x=c.id
     ·have hxc':=Zg hxc;simp -dsimp -implicitDefEqProofs only[go_sem,seval,hcj,w5,hia,hld,YF,hxc'];simp_all
     ·have hxc':=Zi hxc;simp -dsimp -implicitDefEqProofs only[go_sem,seval,hcj,w5,hia,hld,YF,hxc'];refine⟨(),fun j' y hj' hy=> ?_,rfl⟩
      grind
    ·rintro - hinj;have hcj:¬(l.length:Int)<(l.length:Int):=by omega
     have hlim:l.length+1<=lim:=by grind [lim]
     have hil:(ints l).length=l.length:=Y9 l;simp -dsimp -implicitDefEqProofs only[go_sem,seval,hcj,w4,YF,hil,hlim,gi];have htk:p.cls.take (k+1)=p.cls.take k++[c]:=by grind [Z0]
     refine⟨l++[c.id],⟨by grind,?_,fun s hs=> ?_⟩,?_⟩
     ·rw[List.nodup_append]
      grind [ZG]
     ·rw[htk] at hs;rcases zp.1 hs with hs|hs
      ·grind
      ·rcases List.mem_singleton.1 hs with rfl
       exact⟨by omega,by omega,hvi rfl,c4,c5⟩
     rw[Z6];rfl
   ·rintro l ⟨hle,hnd,hoks⟩;rw[ZF] at hle hoks;have hck:¬(p.cls.length:Int)<(p.cls.length:Int):=by omega
    simp -dsimp -implicitDefEqProofs only[go_sem,seval,hck,w1,YG,Sto.pvs_len];have htk:d.procs.take (i+1)=d.procs.take i++[p]:=by grind [Z0]
    refine⟨l,⟨?_,?_⟩,rfl⟩
    ·grind [ids]
    ·have h:=ql d.next (d.procs.take i) [] p
     rw[ZT] at h;rw[htk];rw[hle,hl0,List.nodup_append] at hnd;exact h.2 ⟨hinv,hnm,hpre,fun x hx=>(by cases hx),hnd.2.1,fun s hs hm=>hnd.2.2 s.id hm s.id (ZM.2 ⟨s,hs,rfl⟩) rfl,hoks⟩
 ·rintro l ⟨hle,hinv⟩;rw[ZF] at hinv;have hcc:¬(d.procs.length:Int)<(d.procs.length:Int):=by omega
  simp -dsimp -implicitDefEqProofs only[go_sem,seval,hcc,Yn,Prc.pvs_len];exact⟨⟨true,fun _=>(Xg d).2 ⟨by omega,by omega,by omega,hr5 (by omega),hinv⟩⟩,rfl⟩
end Go.Proofs.YtgedfopkiebjkaaGreatDoor
