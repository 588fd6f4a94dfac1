/- What is proved: db.Valid. -/
import Derived.Test.YtgedfopkiebjkaaGreatDoorDb1
set_option linter.unusedSimpArgs false
set_option linter.unusedVariables false
set_option maxRecDepth 20000
namespace Go.Proofs.YtgedfopkiebjkaaGreatDoor
open Go.Am
def yE(l:List Int):List (Int × PV):=l.map fun v=>(v,.int .i64 1)
theorem gl(v:Int)(l:List Int):Y1 v (yE l)=if v∈l then some (.int .i64 1) else none:=by
 induction l with
 |nil=>rfl
 |cons x r ih=>
  grind [Y1,yE]
theorem VG(v:Int):∀(l:List Int),v ∉ l->mPut v (.int .i64 1) (yE l)=yE (l++[v])
 |[],_=>rfl
 |x::r,h=>by
  have h':¬x=v:=fun e=>h (by grind);have ih:=VG v r fun hm=>h (Zw _ hm)
  grind [mPut,yE]
def namB(p:Prc):Bool:=decide (p.name.length<=100) && (decide (0<=p.ar) && decide (p.ar<=8))
def okSt(next:Int)(p:Prc)(seen:List Int)(s:Sto):Bool:=decide (1<=s.id) && (decide (s.id<next) && (decide (s.id ∉ seen) && (okC s.cl && (decide (s.cl.head.name=p.name) && decide ((s.cl.head.args.length:Int)=p.ar)))))
def okSs(next:Int)(p:Prc):List Int->List Sto->Option (List Int)
 |seen,[]=>some seen
 |seen,s::r=>if okSt next p seen s=true then okSs next p (seen++[s.id]) r else none
def preB:Option Prc->Prc->Bool
 |none,_=>true
 |some q,p=>decide (ordP q p<0)
def okPs(next:Int):Option Prc->List Int->List Prc->Bool
 |_,_,[]=>true
 |q,seen,p::r=>namB p && (preB q p && match okSs next p seen p.cls with
  |none=>false
  |some s=>okPs next (some p) s r)
def okD(d:Dbs):Bool:=decide (1<=d.next) && (decide (d.next<=4294967296) && (decide (d.procs.length<=500) && (decide (totD d.procs<=500) && okPs d.next none [] d.procs)))
theorem y5{l:List Prc}{p:Prc}(h:p∈l):p.cls.length<=totD l:=by
 induction l with
 |nil=>cases h
 |cons x r ih=>
  grind [totD]
theorem jS{α:Type}{l:List α}{i:Nat}{x:α}(h:l[i]? =some x):l.drop i=x::l.drop (i+1):=by
 grind [zC]
def vM(d:Dbs)(m:List (Int × PV)):Heap:=[.box (some 2) (.pv (some 2) d.pv),.map none (z7 m)]
def vH(d:Dbs)(seen:List Int):Heap:=vM d (yE seen)
theorem Xq(s:Sto):PV.part deep s.pv 3 none=some (.str s.cl.head.name):=by
 cases s with|mk i c=>cases c with|mk h b=>cases h;rfl
theorem Xr(s:Sto):PV.part deep s.pv 4 none=some (.sl (some 4) (Tm.pvs s.cl.head.args)):=by
 cases s with|mk i c=>cases c with|mk h b=>cases h;rfl
theorem jT{m:List (Int × PV)}{hp:Heap}{r:Nat}{s:Sh}{v:Int}(h:hp[r]? =some (.map none (z7 m))):YF false none (P4 0) false hp [.map r,.pv s (.int .i64 v)]=some (match Y1 v m with|some x=>.pv none x|none=>P4 0):=by
 grind [jK,Vs,Vr]
theorem Y2(d:Dbs)(hl:d.procs.length<1000000000)(ht:totD d.procs<1000000000)(hz:∀p∈d.procs,∀s∈p.cls,s.cl.head.size<100000000/\s.cl.body.size<100000000)(hp:Heap):S 15 [d.av] hp=some (.ret (P5 (okD d)),hp):=by
 refine zM rfl rfl rfl (zK [(some 2,d.pv)]) rfl ?_;have h1:=fun hp=>qk d hl ht hp;simp only[Dbs.av] at h1;by_cases b1:d.next<1
 ·have e:okD d=false:=by
   grind [okD]
  rw[e];simp -dsimp -implicitDefEqProofs only[go_sem,seval,Dbs.av,YB,YC,b1,Prc.pvs_len]
  done
 by_cases b2:4294967296<d.next
 ·have e:okD d=false:=by
   grind [okD]
  rw[e];simp -dsimp -implicitDefEqProofs only[go_sem,seval,Dbs.av,YB,YC,b1,b2,Prc.pvs_len]
  done
 by_cases b3:(500:Int)<(d.procs.length:Int)
 ·have e:okD d=false:=by
   grind [okD]
  rw[e];simp -dsimp -implicitDefEqProofs only[go_sem,seval,Dbs.av,YB,YC,b1,b2,b3,Prc.pvs_len]
  done
 by_cases b4:(500:Int)<(totD d.procs:Int)
 ·have e:okD d=false:=by
   grind [okD]
  rw[e];simp -dsimp -implicitDefEqProofs only[go_sem,seval,Dbs.av,YB,YC,b1,b2,b3,b4,h1,Prc.pvs_len]
  done
 obtain⟨R,hR⟩:∃R,R=okPs d.next none [] d.procs:=⟨_,rfl⟩
 have e:okD d=R:=by
  grind [okD]
 rw[e];simp -dsimp -implicitDefEqProofs only[go_sem,seval,Dbs.av,YB,YC,b1,b2,b3,b4,h1,Prc.pvs_len];refine Yp (α:=List Int) d.procs.length (fun i seen=>R=okPs d.next (if i=0 then none else d.procs[i - 1]?) seen (d.procs.drop i)) (fun i seen=>⟨[(1,.ptr 0 0),(3,.map 1),(4,P5 true),(30,.pv none (.sl (some 4) (Prc.pvs d.procs))),(31,P4 d.procs.length),(32,P4 i)],vH d seen⟩) [] ⟨by grind,rfl⟩ ?_ ?_
 ·rintro i seen h hinv;have hc:(i:Int)<(d.procs.length:Int):=by omega
  have w1:IntKind.i64.wrap ((i:Int)+1)=((i+1:Nat):Int):=by grind [zU]
  obtain⟨p,hpp⟩:∃p,d.procs[i]? =some p:=⟨_,Ze h⟩;have hpm:=Zh hpp;have hpl:=y5 hpm;have h2:=fun hp=>Jq p.name p.ar hp;rw[jS hpp,okPs] at hinv;have hvl:(vH d seen).length=2:=rfl;have hg0:∀X,(vH d seen++X)[0]? =some (.box (some 2) (.pv (some 2) d.pv)):=fun _=>rfl;obtain⟨V,hV⟩:∃V,V=vH d seen:=⟨_,rfl⟩;rw[<-hV] at hvl hg0 ⊢;have h2:∀hp,S 53 [P6 p.name,P4 p.ar] hp=some (.ret (P5 (namB p)),hp):=h2;by_cases nb:namB p=true
  rotate_left
  ·have nb':namB p=false:=by grind
   have hR0:R=false:=by grind
   rw[nb'] at h2;rw[hR0];simp -dsimp -implicitDefEqProofs only[go_sem,seval,hc,w1,zT (Prc.pvs_get hpp),yg,yh,h2,hvl,hg0,zD (Za _),getN hvl,Ye hvl,setN hvl,Yl hvl]
   done
  rw[nb,Bool.true_and] at hinv;rw[nb] at h2;have hcase:(¬0<(i:Int)/\preB (if i=0 then none else d.procs[i - 1]?) p=true)\/∃q,0<(i:Int)/\zX (some 4) [.pv none (.sl (some 4) (Prc.pvs d.procs)),P4 (IntKind.i64.wrap ((i:Int) - 1))]=some (.iptr (some 4) q.pv 0)/\(∀hp,S 54 [.pv (some 4) q.pv,.pv (some 4) p.pv] hp=some (.ret (P4 (ordP q p)),hp))/\preB (if i=0 then none else d.procs[i - 1]?) p=decide (ordP q p<0):=by
   by_cases i0:i=0
   ·left;refine⟨by omega,?_⟩;rw[Zj i0];rfl
   ·right;obtain⟨q,hq⟩:∃q,d.procs[i - 1]? =some q:=⟨_,Ze (by omega)⟩;have w3:IntKind.i64.wrap ((i:Int) - 1)=((i - 1:Nat):Int):=by grind [zU]
    refine⟨q,by omega,by grind [zT,Prc.pvs_get],fun hp=>gk q p hp,?_⟩;rw[Zb i0,hq];rfl
  have hbad:∀q:Prc,preB (if i=0 then none else d.procs[i - 1]?) p=decide (ordP q p<0)->0<=ordP q p->R=false:=fun q h1 h2=>by
   grind
  have hgood:preB (if i=0 then none else d.procs[i - 1]?) p=true->R=match okSs d.next p seen p.cls with|none=>false|some s=>okPs d.next (some p) s (d.procs.drop (i+1)):=fun h1=>by
   grind
  rcases hcase with⟨i0,hpb⟩|⟨q,i0,hia,hoq,hpb⟩
  rotate_left
  ·by_cases ho:0<=ordP q p
   ·rw[hbad q hpb ho];simp -dsimp -implicitDefEqProofs only[go_sem,seval,hc,w1,i0,hia,hoq,ho,zT (Prc.pvs_get hpp),yg,yh,YC,h2,hvl,hg0,zD (Za _),getN hvl,Ye hvl,setN hvl,Yl hvl]
    done
   have hRR:=hgood (by grind);simp -dsimp -implicitDefEqProofs only[go_sem,seval,hc,w1,i0,hia,hoq,ho,zT (Prc.pvs_get hpp),yg,yh,yM,YC,Sto.pvs_len,h2,hvl,hg0,zD (Za _),getN hvl,Ye hvl,setN hvl,Yl hvl];clear hinv hbad hgood h1 h2;have hV2:V=vH d seen:=hV;rw[hV2];refine Yp (α:=List Int) p.cls.length (fun k sn=>okSs d.next p seen p.cls=okSs d.next p sn (p.cls.drop k)) (fun k sn=>⟨[(1,.ptr 0 0),(3,.map 1),(4,P5 true),(6,.ptr 2 0),(30,.pv none (.sl (some 4) (Prc.pvs d.procs))),(31,P4 d.procs.length),(32,P4 i),(59,.pv none (.sl (some 9) (Sto.pvs p.cls))),(60,P4 p.cls.length),(61,P4 k)],[.box (some 2) (.pv (some 2) d.pv),.map none (z7 (yE sn)),.box (some 4) (.pv (some 4) p.pv),.arr (some 9) [] false]⟩) seen ⟨rfl,rfl⟩ ?_ ?_
   ·rintro k sn hk hin;have hck:(k:Int)<(p.cls.length:Int):=by omega
    have wk:IntKind.i64.wrap ((k:Int)+1)=((k+1:Nat):Int):=by grind [zU]
    obtain⟨s,hs⟩:∃s,p.cls[k]? =some s:=⟨_,Ze hk⟩;obtain⟨zs1,zs2⟩:=hz p hpm s (Zh hs);have h3:=fun hp=>Qc s.cl zs1 zs2 hp;simp only[Cz.av] at h3;rw[jS hs,okSs] at hin;obtain⟨c,hcc⟩:∃c:Int,c=if s.id∈sn then 1 else 0:=⟨_,rfl⟩
    have hc01:c=0\/c=1:=by grind
    have wc:IntKind.i64.wrap (c+1)=c+1:=zU (by omega) (by omega);obtain⟨m2,hm2⟩:∃m2,m2=mPut s.id (.int .i64 (c+1)) (yE sn):=⟨_,rfl⟩;have hl1:∀X,YF false none (P4 0) false (.box (some 2) (.pv (some 2) d.pv)::.map none (z7 (yE sn))::X) [.map 1,P4 s.id]=some (P4 c):=fun X=>by
     grind [jT,gl]
    have hl2:∀X,YF false none (P4 0) false (.box (some 2) (.pv (some 2) d.pv)::.map none (z7 m2)::X) [.map 1,P4 s.id]=some (P4 (c+1)):=fun X=>by
     grind [jT,Jm]
    have hms:∀X,yR false none (.box (some 2) (.pv (some 2) d.pv)::.map none (z7 (yE sn))::X) [.map 1,P4 s.id,P4 (c+1)]=some (.undef,.box (some 2) (.pv (some 2) d.pv)::.map none (z7 m2)::X):=fun X=>by
     grind [qf,QO]
    have hbadS:okSt d.next p sn s=false->R=false:=fun h=>by
     grind
    by_cases a1:s.id<1
    ·rw[hbadS (by grind [okSt])];simp -dsimp -implicitDefEqProofs only[go_sem,seval,hck,wk,wc,a1,zT (Sto.pvs_get hs),yu,hl1,hl2,hms,YB,zD (Za _)]
     done
    by_cases a2:d.next<=s.id
    ·rw[hbadS (by grind [okSt])];simp -dsimp -implicitDefEqProofs only[go_sem,seval,hck,wk,wc,a1,a2,zT (Sto.pvs_get hs),yu,Xh,Xq,Xr,yg,yh,Tm.pvs_len,hl1,hl2,hms,YB,zD (Za _)]
     done
    have p1:decide (1<=s.id)=true:=Z1 (by omega);have p2:decide (s.id<d.next)=true:=Z1 (by omega);by_cases a3:s.id∈sn
    ·have hc1:c=1:=by grind
     have a3':1<c+1:=by omega
     rw[hbadS (by grind [okSt])];simp -dsimp -implicitDefEqProofs only[go_sem,seval,hck,wk,wc,a1,a2,a3',zT (Sto.pvs_get hs),yu,Xh,Xq,Xr,yg,yh,Tm.pvs_len,hl1,hl2,hms,YB,zD (Za _)]
     done
    have hc0:c=0:=by grind
    have a3':¬1<c+1:=by omega
    have p3:decide (s.id ∉ sn)=true:=Z1 a3;cases a4:okC s.cl with
    |false=>
     rw[hbadS (by grind [okSt])];rw[a4] at h3;simp -dsimp -implicitDefEqProofs only[go_sem,seval,hck,wk,wc,a1,a2,a3',h3,zT (Sto.pvs_get hs),yu,Xh,Xq,Xr,yg,yh,Tm.pvs_len,hl1,hl2,hms,YB,zD (Za _)]
     done
    |true=>
    rw[a4] at h3;by_cases a5:s.cl.head.name=p.name
    rotate_left
    ·rw[hbadS (by grind [okSt])];have a5':=Zg a5;simp -dsimp -implicitDefEqProofs only[go_sem,seval,hck,wk,wc,a1,a2,a3',h3,a5',zT (Sto.pvs_get hs),yu,Xh,Xq,Xr,yg,yh,Tm.pvs_len,hl1,hl2,hms,YB,zD (Za _)]
     done
    have a5':=Zi a5;by_cases a6:(s.cl.head.args.length:Int)=p.ar
    rotate_left
    ·rw[hbadS (by grind [okSt])];have a6':=Zg a6;simp -dsimp -implicitDefEqProofs only[go_sem,seval,hck,wk,wc,a1,a2,a3',h3,a5',a6',zT (Sto.pvs_get hs),yu,Xh,Xq,Xr,yg,yh,Tm.pvs_len,hl1,hl2,hms,YB,zD (Za _)]
     done
    have a6':=Zi a6;have hok:okSt d.next p sn s=true:=by grind [okSt]
    rw[Zj hok] at hin;have hm3:m2=yE (sn++[s.id]):=by grind [VG]
    simp -dsimp -implicitDefEqProofs only[go_sem,seval,hck,wk,wc,a1,a2,a3',h3,a5',a6',zT (Sto.pvs_get hs),yu,Xh,Xq,Xr,yg,yh,Tm.pvs_len,hl1,hl2,hms,YB,zD (Za _)];refine⟨sn++[s.id],hin,?_⟩;rw[hm3];rfl
   ·rintro sn hin;have hck:¬(p.cls.length:Int)<(p.cls.length:Int):=by omega
    rw[List.drop_length,okSs] at hin;rw[hin] at hRR;simp -dsimp -implicitDefEqProofs only[go_sem,seval,hck,w1];refine⟨sn,?_,?_⟩
    ·grind
    ·rfl
  ·have hRR:=hgood hpb;simp -dsimp -implicitDefEqProofs only[go_sem,seval,hc,w1,i0,zT (Prc.pvs_get hpp),yg,yh,yM,YC,Sto.pvs_len,h2,hvl,hg0,zD (Za _),getN hvl,Ye hvl,setN hvl,Yl hvl];clear hinv hbad hgood h1 h2;have hV2:V=vH d seen:=hV;rw[hV2];refine Yp (α:=List Int) p.cls.length (fun k sn=>okSs d.next p seen p.cls=okSs d.next p sn (p.cls.drop k)) (fun k sn=>⟨[(1,.ptr 0 0),(3,.map 1),(4,P5 true),(6,.ptr 2 0),(30,.pv none (.sl (some 4) (Prc.pvs d.procs))),(31,P4 d.procs.length),(32,P4 i),(59,.pv none (.sl (some 9) (Sto.pvs p.cls))),(60,P4 p.cls.length),(61,P4 k)],[.box (some 2) (.pv (some 2) d.pv),.map none (z7 (yE sn)),.box (some 4) (.pv (some 4) p.pv),.arr (some 9) [] false]⟩) seen ⟨rfl,rfl⟩ ?_ ?_
   ·rintro k sn hk hin;have hck:(k:Int)<(p.cls.length:Int):=by omega
    have wk:IntKind.i64.wrap ((k:Int)+1)=((k+1:Nat):Int):=by grind [zU]
    obtain⟨s,hs⟩:∃s,p.cls[k]? =some s:=⟨_,Ze hk⟩;obtain⟨zs1,zs2⟩:=hz p hpm s (Zh hs);have h3:=fun hp=>Qc s.cl zs1 zs2 hp;simp only[Cz.av] at h3;rw[jS hs,okSs] at hin;obtain⟨c,hcc⟩:∃c:Int,c=if s.id∈sn then 1 else 0:=⟨_,rfl⟩
    have hc01:c=0\/c=1:=by grind
    have wc:IntKind.i64.wrap (c+1)=c+1:=zU (by omega) (by omega);obtain⟨m2,hm2⟩:∃m2,m2=mPut s.id (.int .i64 (c+1)) (yE sn):=⟨_,rfl⟩;have hl1:∀X,YF false none (P4 0) false (.box (some 2) (.pv (some 2) d.pv)::.map none (z7 (yE sn))::X) [.map 1,P4 s.id]=some (P4 c):=fun X=>by
     grind [jT,gl]
    have hl2:∀X,YF false none (P4 0) false (.box (some 2) (.pv (some 2) d.pv)::.map none (z7 m2)::X) [.map 1,P4 s.id]=some (P4 (c+1)):=fun X=>by
     grind [jT,Jm]
    have hms:∀X,yR false none (.box (some 2) (.pv (some 2) d.pv)::.map none (z7 (yE sn))::X) [.map 1,P4 s.id,P4 (c+1)]=some (.undef,.box (some 2) (.pv (some 2) d.pv)::.map none (z7 m2)::X):=fun X=>by
     grind [qf,QO]
    have hbadS:okSt d.next p sn s=false->R=false:=fun h=>by
     grind
    by_cases a1:s.id<1
    ·rw[hbadS (by grind [okSt])];simp -dsimp -implicitDefEqProofs only[go_sem,seval,hck,wk,wc,a1,zT (Sto.pvs_get hs),yu,hl1,hl2,hms,YB,zD (Za _)]
     done
    by_cases a2:d.next<=s.id
    ·rw[hbadS (by grind [okSt])];simp -dsimp -implicitDefEqProofs only[go_sem,seval,hck,wk,wc,a1,a2,zT (Sto.pvs_get hs),yu,Xh,Xq,Xr,yg,yh,Tm.pvs_len,hl1,hl2,hms,YB,zD (Za _)]
     done
    have p1:decide (1<=s.id)=true:=Z1 (by omega);have p2:decide (s.id<d.next)=true:=Z1 (by omega);by_cases a3:s.id∈sn
    ·have hc1:c=1:=by grind
     have a3':1<c+1:=by omega
     rw[hbadS (by grind [okSt])];simp -dsimp -implicitDefEqProofs only[go_sem,seval,hck,wk,wc,a1,a2,a3',zT (Sto.pvs_get hs),yu,Xh,Xq,Xr,yg,yh,Tm.pvs_len,hl1,hl2,hms,YB,zD (Za _)]
     done
    have hc0:c=0:=by grind
    have a3':¬1<c+1:=by omega
    have p3:decide (s.id ∉ sn)=true:=Z1 a3;cases a4:okC s.cl with
    |false=>
     rw[hbadS (by grind [okSt])];rw[a4] at h3;simp -dsimp -implicitDefEqProofs only[go_sem,seval,hck,wk,wc,a1,a2,a3',h3,zT (Sto.pvs_get hs),yu,Xh,Xq,Xr,yg,yh,Tm.pvs_len,hl1,hl2,hms,YB,zD (Za _)]
     done
    |true=>
    rw[a4] at h3;by_cases a5:s.cl.head.name=p.name
    rotate_left
    ·rw[hbadS (by grind [okSt])];have a5':=Zg a5;simp -dsimp -implicitDefEqProofs only[go_sem,seval,hck,wk,wc,a1,a2,a3',h3,a5',zT (Sto.pvs_get hs),yu,Xh,Xq,Xr,yg,yh,Tm.pvs_len,hl1,hl2,hms,YB,zD (Za _)]
     done
    have a5':=Zi a5;by_cases a6:(s.cl.head.args.length:Int)=p.ar
    rotate_left
    ·rw[hbadS (by grind [okSt])];have a6':=Zg a6;simp -dsimp -implicitDefEqProofs only[go_sem,seval,hck,wk,wc,a1,a2,a3',h3,a5',a6',zT (Sto.pvs_get hs),yu,Xh,Xq,Xr,yg,yh,Tm.pvs_len,hl1,hl2,hms,YB,zD (Za _)]
     done
    have a6':=Zi a6;have hok:okSt d.next p sn s=true:=by grind [okSt]
    rw[Zj hok] at hin;have hm3:m2=yE (sn++[s.id]):=by grind [VG]
    simp -dsimp -implicitDefEqProofs only[go_sem,seval,hck,wk,wc,a1,a2,a3',h3,a5',a6',zT (Sto.pvs_get hs),yu,Xh,Xq,Xr,yg,yh,Tm.pvs_len,hl1,hl2,hms,YB,zD (Za _)];refine⟨sn++[s.id],hin,?_⟩;rw[hm3];rfl
   ·rintro sn hin;have hck:¬(p.cls.length:Int)<(p.cls.length:Int):=by omega
    rw[List.drop_length,okSs] at hin;rw[hin] at hRR;simp -dsimp -implicitDefEqProofs only[go_sem,seval,hck,w1];refine⟨sn,?_,?_⟩
    ·grind
    ·rfl
 ·rintro seen hinv;have hc:¬(d.procs.length:Int)<(d.procs.length:Int):=by omega
  rw[List.drop_length] at hinv;have:R=true:=by rw[hinv];rfl
  rw[this];simp -dsimp -implicitDefEqProofs only[go_sem,seval,hc]
  done
theorem gm:∀a:List UInt8,Op.bytesLess a a=false
 |[]=>rfl
 |x::r=>by
  have:=gm r
  grind [Op.bytesLess]
theorem gn:∀a b c:List UInt8,Op.bytesLess a b=true->Op.bytesLess b c=true->Op.bytesLess a c=true
 |_,[],_,h,_=>by grind [Op.bytesLess]
 |_,_::_,[],_,h=>by grind [Op.bytesLess]
 |[],_::_,_::_,_,_=>rfl
 |x::a,y::b,z::c,h1,h2=>by
  simp only[Op.bytesLess,Bool.or_eq_true,Zk,ZN,beq_iff_eq] at h1 h2 ⊢;rcases h1 with h1|⟨rfl,h1⟩
  ·grind
  ·rcases h2 with h2|⟨rfl,h2⟩
   ·grind
   ·exact .inr ⟨rfl,gn a b c h1 h2⟩
theorem gq{p q:Prc}:ordP p q<0↔Op.bytesLess p.name q.name=true\/(p.name=q.name/\p.ar<q.ar):=by
 grind [ordP,strC,intC]
theorem VH{p q r:Prc}(h1:ordP p q<0)(h2:ordP q r<0):ordP p r<0:=by
 rw[gq] at h1 h2 ⊢
 grind [gn]
theorem ordP_zero{p q:Prc}:ordP p q=0↔p.name=q.name/\p.ar=q.ar:=by
 grind [ordP,strC,intC,gm]
def lbD(l:List Prc)(q:Prc):Nat:=(l.takeWhile fun p=>decide (ordP p q<0)).length
def fnD(l:List Prc)(q:Prc):Bool:=match l[lbD l q]? with
 |some p=>decide (ordP p q=0)
 |none=>false
def IncP(l:List Prc):Prop:=∀(i j:Nat) (a b:Prc),i<j->l[i]? =some a->l[j]? =some b->ordP a b<0
theorem Jr(l:List Prc)(q:Prc):lbD l q<=l.length:=by
 grind [lbD,List.takeWhile_prefix]
theorem qm{q:Prc}:∀{l:List Prc} {k:Nat} {x:Prc},IncP l->l[k]? =some x->(ordP x q<0↔k<lbD l q)
 |[],k,x,_,h=>by grind
 |y::r,k,x,hi,h=>by
  have hr:IncP r:=fun i j a b hij ha hb=>hi (i+1) (j+1) a b (by omega) (by grind) (by grind);unfold lbD;rw[List.takeWhile_cons];by_cases hy:ordP y q<0
  ·rw[Zj (Z1 hy),Z5];cases k with
   |zero=>
    grind
   |succ k=>
    have:=qm (q:=q) hr (k:=k) (x:=x) (by grind)
    grind [lbD]
  ·rw[Zb (by grind)];constructor
   ·intro hx;exfalso;cases k with
    |zero=>
     grind
    |succ k=>exact hy (VH (hi 0 (k+1) y x (by omega) rfl h) hx)
   grind
theorem Nw(p q:Prc)(hp:Heap):S 97 [p.av,q.av] hp=some (.ret (P4 (ordP p q)),hp):=by
 refine zM rfl rfl rfl (zK [(some 4,p.pv),(some 4,q.pv)]) rfl ?_;have h1:=fun hp=>gk p q hp;simp only[Prc.av] at h1;simp -dsimp -implicitDefEqProofs only[go_sem,seval,Prc.av,h1]
 done
theorem Nx(l:List Prc)(t:Prc)(hl:l.length<1000000000)(hi:IncP l)(hp:Heap):
  S 96 [.pv none (.sl (some 4) (Prc.pvs l)),.pv (some 4) t.pv,.pv none (.func (.func 97))] hp=some (.ret (.tuple [P4 (lbD l t:Int),P5 (fnD l t)]),hp):=by
 refine zM rfl rfl rfl (zK [(none,.sl (some 4) (Prc.pvs l)),(some 4,t.pv),(none,.func (.func 97))]) rfl ?_;have hlb:=Jr l t;have hcmp:∀(x:Prc) hp,S 97 [.pv (some 4) x.pv,.pv (some 4) t.pv] hp=some (.ret (P4 (ordP x t)),hp):=fun x hp=>Nw x t hp;simp -dsimp -implicitDefEqProofs only[go_sem,seval,Prc.pvs_len];refine XH (fun n st=>∃i j:Nat,n=j - i/\i<=lbD l t/\lbD l t<=j/\j<=l.length/\st=⟨[(0,.pv none (.sl (some 4) (Prc.pvs l))),(2,.pv none (.func (.func 97))),(4,.ptr 0 0),(8,P4 (l.length:Int)),(9,P4 i),(10,P4 j)],[.box (some 4) (.pv (some 4) t.pv)]⟩) (n:=l.length) ⟨0,l.length,by omega,by omega,hlb,by omega,?_⟩ ?_
 ·simp -dsimp -implicitDefEqProofs only[go_sem,seval]
  try rfl
 ·rintro n st ⟨i,j,hn,h1,h2,h3,rfl⟩;by_cases hij:i<j
  ·have hc:(i:Int)<(j:Int):=by omega
   obtain⟨x,hx⟩:∃x,l[(i+j) / 2]? =some x:=⟨_,Ze (by omega)⟩;have hcall:=hcmp x;have hs:=qm (q:=t) hi hx;have w1:IntKind.i64.wrap ((i:Int)+(j:Int))=((i+j:Nat):Int):=by grind [zU]
   have w2:IntKind.u64.wrap ((i+j:Nat):Int)=((i+j:Nat):Int):=Gw (by omega) (by omega);have w3:IntKind.i64.wrap (((i+j:Nat):Int) / 2)=(((i+j) / 2:Nat):Int):=by grind [zU]
   have w4:IntKind.i64.wrap ((((i+j) / 2:Nat):Int)+1)=(((i+j) / 2+1:Nat):Int):=by grind [zU]
   by_cases h0:ordP x t<0
   ·simp -dsimp -implicitDefEqProofs only[go_sem,seval,Prc.pvs_len,hc,jD (show 0<IntKind.bits .u64 by decide),w1,w2,w3,w4,zT (Prc.pvs_get hx),hcall,h0];refine⟨j - ((i+j) / 2+1),by omega,(i+j) / 2+1,j,rfl,?_,h2,h3,rfl⟩
    grind
   ·simp -dsimp -implicitDefEqProofs only[go_sem,seval,Prc.pvs_len,hc,jD (show 0<IntKind.bits .u64 by decide),w1,w2,w3,w4,zT (Prc.pvs_get hx),hcall,h0];refine⟨(i+j) / 2 - i,by omega,i,(i+j) / 2,rfl,h1,?_,by omega,rfl⟩
    grind
  ·have hc:¬(i:Int)<(j:Int):=by omega
   obtain rfl:i=lbD l t:=by omega
   by_cases hll:lbD l t<l.length
   ·have hc2:((lbD l t:Nat):Int)<(l.length:Int):=by omega
    obtain⟨x,hx⟩:∃x,l[lbD l t]? =some x:=⟨_,Ze hll⟩;have hcall:=hcmp x;have hf:fnD l t=decide (ordP x t=0):=by grind [fnD]
    simp -dsimp -implicitDefEqProofs only[go_sem,seval,Prc.pvs_len,hc,hc2,zT (Prc.pvs_get hx),hcall,hf]
   ·have hc2:¬((lbD l t:Nat):Int)<(l.length:Int):=by omega
    have hf:fnD l t=false:=by grind [fnD]
    simp -dsimp -implicitDefEqProofs only[go_sem,seval,Prc.pvs_len,hc,hc2,hf]
theorem XK(d:Dbs)(s:List UInt8)(a:Int)(hl:d.procs.length<1000000000)(hi:IncP d.procs)(hp:Heap):S 56 [d.av,P6 s,P4 a] hp=some (.ret (.tuple [P4 (lbD d.procs ⟨s,a,false,[]⟩:Int),P5 (fnD d.procs ⟨s,a,false,[]⟩)]),hp):=by
 refine zM rfl rfl rfl (zK [(some 2,d.pv),(none,.str s),(none,.int .i64 a)]) rfl ?_;have hbu:zQ A2 [0,1] [P6 s,P4 a]=some (.agg [(none,P6 s),(none,P4 a),(none,P5 false),(none,.tsl (some 9) [])]):=rfl;have h1:∀hp,S 96 [.pv none (.sl (some 4) (Prc.pvs d.procs)),.agg [(none,P6 s),(none,P4 a),(none,P5 false),(none,.tsl (some 9) [])],.pv none (.func (.func 97))] hp=some (.ret (.tuple [P4 (lbD d.procs ⟨s,a,false,[]⟩:Int),P5 (fnD d.procs ⟨s,a,false,[]⟩)]),hp):=fun hp=>
  X7 (F:=find tab) (prim:=prim) (ps:=[(none,.sl (some 4) (Prc.pvs d.procs)),(some 4,(Prc.mk s a false []).pv),(none,.func (.func 97))]) (hp1:=hp) rfl rfl rfl rfl (Nx d.procs ⟨s,a,false,[]⟩ hl hi [])
 simp -dsimp -implicitDefEqProofs only[go_sem,seval,Dbs.av,YC,hbu,h1]
 done
theorem gr(next:Int):∀(l:List Prc) (q:Option Prc) (seen:List Int),okPs next q seen l=true->(∀p,l.head? =some p->preB q p=true)/\IncP l
 |[],q,seen,_=>⟨fun p h=>(by cases h),fun i j a b _ h=>(by grind)⟩
 |x::r,q,seen,h=>by
  rw[okPs,Zk,Zk] at h;obtain⟨_,h2,h3⟩:=h;split at h3
  ·cases h3
  ·rename_i s' hs;obtain⟨g1,g2⟩:=gr next r (some x) s' h3
   have hx:∀(j:Nat) (b:Prc),r[j]? =some b->ordP x b<0:=by
    intro j b hb;cases r with
    |nil=>grind
    |cons y r'=>
     have h0:=g1 y rfl;have h0':ordP x y<0:=zj h0;cases j with
     |zero=>
      grind
     |succ j=>exact VH h0' (g2 0 (j+1) y b (by omega) rfl hb)
   refine⟨fun p hp=>(by grind),fun i j a b hij ha hb=> ?_⟩;cases j with
   |zero=>omega
   |succ j=>
    cases i with
    |zero=>
     grind
    |succ i=>exact g2 i j a b (by omega) (by grind) (by grind)
def BndD(d:Dbs):Prop:=d.procs.length<1000000000/\totD d.procs<1000000000/\∀p∈d.procs,∀s∈p.cls,s.cl.head.size<100000000/\s.cl.body.size<100000000
theorem XL{d:Dbs}(h:okD d=true):IncP d.procs:=by
 grind [okD,gr]
def Sto.av(s:Sto):AV:=.pv (some 9) s.pv
theorem gt(s:Sto):PV.part deep s.pv 1 (some 4)=some s.cl.head.pv:=by
 cases s with|mk i c=>cases c with|mk h b=>cases h;rfl
theorem gu(s:Sto):PV.part deep s.pv 5 (some 4)=some s.cl.body.pv:=by
 cases s with|mk i c=>cases c with|mk h b=>cases h;cases b;rfl
theorem VI(s:Sto)(vh:s.cl.head.valid=true)(vb:s.cl.body.valid=true)(hp:Heap):S 98 [s.av] hp=some (.ret s.av,hp):=by
 refine zM rfl rfl rfl (zK [(some 9,s.pv)]) rfl ?_;have zh:=valid_size vh;have zb:=valid_size vb;have h1:=fun hp=>Xg s.cl.head hp vh (by omega);have h2:=fun hp=>Xg s.cl.body hp vb (by omega);have b1:zQ [(some 4,.agg A0),(some 4,.agg A0)] [0,1] [.pv (some 4) s.cl.head.pv,.pv (some 4) s.cl.body.pv]=some (.pv (some 8) s.cl.pv):=rfl;have b2:zQ A4 [0,1] [P4 s.id,.pv (some 8) s.cl.pv]=some (.pv (some 9) s.pv):=rfl;simp only[Tm.av] at h1 h2;simp -dsimp -implicitDefEqProofs only[b1,b2,go_sem,seval,Sto.av,yu,Xh,gt,gu,h1,h2,zD (Za _)]
 done
def okCl(p:Prc):Prop:=∀s∈p.cls,s.cl.head.valid=true/\s.cl.body.valid=true
def pA(p:Prc)(q:Nat):AV:=.agg [(none,P6 p.name),(none,P4 p.ar),(none,P5 p.dyn),(none,.sl (some 9) q p.cls.length 0 p.cls.length)]
def zS:PV:=.agg [(none,.int .i64 0),(some 8,.agg [(some 4,.agg [(none,.int .i64 0),(none,.int .i64 0),(none,.str []),(none,.sl (some 4) [])]),(some 4,.agg [(none,.int .i64 0),(none,.int .i64 0),(none,.str []),(none,.sl (some 4) [])])])]
theorem gv{Γ:Oracle}{b:Nat}{vs:List AV}{hp:Heap}{K:AV->Heap->Prop}{Kp:PV->Heap->Prop}(sh:Sh):opK (aOp Γ b (.copy sh) vs hp) K Kp=YD (XO sh hp vs) K:=by
 show opK (match XO sh hp vs with|some (v,hp')=>some (OpRes.val v hp')|none=>none) K Kp=_;cases XO sh hp vs with
 |none=>rfl
 |some r=>cases r;rfl
theorem Qd{α:Type}{l:List α}{i:Nat}{x:α}(h:l[i]? =some x):l.set i x=l:=by
 grind [List.set_getElem_self]
theorem gw(p:Prc)(hl:p.cls.length<1000000)(hc:okCl p)(hp:Heap):S 57 [p.av] hp=some (.ret (pA p (hp.length+3)),hp++[.box (some 4) (pA p (hp.length+3)),.box (some 4) (pA p (hp.length+3)),.arr (some 9) [] false,.arr (some 9) (Sto.pvs p.cls) false]):=by
 refine Yj rfl rfl rfl rfl ?_;have hpl:=Sto.pvs_len p.cls;have hlim:p.cls.length<=lim:=by grind [lim]
 have hmk:∀H:Heap,xH (some 9) zS H [P4 p.cls.length,P4 p.cls.length]=some (.sl (some 9) H.length p.cls.length 0 p.cls.length,H++[.arr (some 9) (List.replicate p.cls.length zS) false]):=fun H=>by
  grind [xH,X5]
 have hcp:∀x0 x1 x2:AObj,XO (some 9) (hp++[x0,x1,x2,.arr (some 9) (List.replicate p.cls.length zS) false]) [.sl (some 9) (hp.length+3) p.cls.length 0 p.cls.length,.pv none (.sl (some 9) (Sto.pvs p.cls))]=some (P4 p.cls.length,hp++[x0,x1,x2,.arr (some 9) (Sto.pvs p.cls) false]):=fun x0 x1 x2=>by
  have e:Nat.min p.cls.length p.cls.length=p.cls.length:=Nat.min_self _;simp_all[Zl,XO,elems]
 simp only[zS] at hmk;simp -dsimp -implicitDefEqProofs only[go_sem,seval,Prc.av,yM,hpl,hmk,zD (Zd _ _)];simp only[zS] at hcp;simp -dsimp -implicitDefEqProofs only[go_sem,seval,Prc.av,yM,hpl,gv,hcp,zD (Zd _ _)];obtain⟨x1,hx1⟩:∃x1:AObj,x1=.box (some 4) (.agg [(none,P6 []),(none,P4 0),(none,P5 false),(none,.sl (some 9) (hp.length+2) 0 0 0)]):=⟨_,rfl⟩;rw[<-hx1];refine Yp (α:=Unit) p.cls.length (fun _ _=>True) (fun i _=>⟨[(1,.ptr hp.length 0),(2,.ptr (hp.length+1) 0),(3,.sl (some 9) (hp.length+3) p.cls.length 0 p.cls.length),(14,.sl (some 9) (hp.length+3) p.cls.length 0 p.cls.length),(15,P4 p.cls.length),(16,P4 i)],hp++[.box (some 4) (.pv (some 4) p.pv),x1,.arr (some 9) [] false,.arr (some 9) (Sto.pvs p.cls) false]⟩) () ⟨trivial,rfl⟩ ?_ ?_
 ·rintro i - h -;have hcc:(i:Int)<(p.cls.length:Int):=by omega
  have w1:IntKind.i64.wrap ((i:Int)+1)=((i+1:Nat):Int):=by grind [zU]
  obtain⟨s,hs⟩:∃s,p.cls[i]? =some s:=⟨_,Ze h⟩;obtain⟨vh,vb⟩:=hc s (Zh hs);have h3:=fun hp=>VI s vh vb hp;simp only[Sto.av] at h3;have hia:zX (some 9) [.sl (some 9) (hp.length+3) p.cls.length 0 p.cls.length,P4 i]=some (.eptr (some 9) (hp.length+3) p.cls.length i 0):=by
   grind [xZ]
  have hld:∀(x0 x1 x2:AObj) (X:Heap),aload (some 9) (hp++x0::x1::x2::.arr (some 9) (Sto.pvs p.cls) false::X) (.eptr (some 9) (hp.length+3) p.cls.length i 0)=some (.pv (some 9) s.pv):=fun x0 x1 x2 X=>by
   grind [aload,Sto.pvs_get]
  have hst:∀(x0 x1 x2:AObj) (X:Heap),zH (some 9) hp.length (hp++x0::x1::x2::.arr (some 9) (Sto.pvs p.cls) false::X) [.eptr (some 9) (hp.length+3) p.cls.length i 0,.pv (some 9) s.pv]=some (.undef,hp++x0::x1::x2::.arr (some 9) (Sto.pvs p.cls) false::X):=fun x0 x1 x2 X=>by
   have e:∀H,AV.freeze deep (.pv (some 9) s.pv) H=some (s.pv,H):=fun _=>rfl;have e2:=Qd (Sto.pvs_get hs);simp_all[zH,astore,AV.shp]
  simp -dsimp -implicitDefEqProofs only[go_sem,seval,hcc,w1,hia,hld,hst,h3,zD (Zd _ _)];simp_all[ym,AObj.refs,AV.refsIn,AV.refsIn.go]
 ·rintro - -;have hcc:¬(p.cls.length:Int)<(p.cls.length:Int):=by omega
  have hup:∀(q:Nat),AV.upd deep (.pv (some 4) p.pv) 3 none (.sl (some 9) q p.cls.length 0 p.cls.length)=some (pA p q):=fun q=>rfl;have hs1:∀x1 x2 x3:AObj,zH none hp.length (hp++[.box (some 4) (.pv (some 4) p.pv),x1,x2,x3]) [.ptr hp.length 3,.sl (some 9) (hp.length+3) p.cls.length 0 p.cls.length]=some (.undef,hp++[.box (some 4) (pA p (hp.length+3)),x1,x2,x3]):=fun x1 x2 x3=>by
   grind [zH,astore,AV.plain,AV.shp,AV.own]
  have hs2:∀(x0 x2 x3:AObj) (v:AV),zH (some 4) hp.length (hp++[x0,.box (some 4) v,x2,x3]) [.ptr (hp.length+1) 0,pA p (hp.length+3)]=some (.undef,hp++[x0,.box (some 4) (pA p (hp.length+3)),x2,x3]):=fun x0 x2 x3 v=>by
   simp[zH,astore,getN rfl,setN rfl,pA,AV.plain,AV.shp,AV.own,zR,YI,total,Sh.size]
  rw[hx1];simp -dsimp -implicitDefEqProofs only[go_sem,seval,hcc,hs1,hs2]
  grind [pA,AV.refsIn,AV.refsIn.go]
theorem Js{c:Cz}(h:okC c=true):c.head.valid=true/\c.body.valid=true:=by
 simp only[okC,Zk] at h;obtain⟨h1,_,_,h4,_⟩:=h;refine⟨h1,?_⟩;split at h4
 ·simp_all[gi]
 grind
theorem gx(next:Int)(p:Prc):∀(l:List Sto) (seen s':List Int),okSs next p seen l=some s'->∀s∈l,okC s.cl=true
 |[],_,_,_,s,hs=>by cases hs
 |x::r,seen,s',h,s,hs=>by
  rw[okSs] at h;split at h
  ·rename_i hx;rcases Zy.1 hs with rfl|hs
   ·grind [okSt]
   ·exact gx next p r _ s' h s hs
  grind
theorem gy(next:Int):∀(l:List Prc) (q:Option Prc) (seen:List Int),okPs next q seen l=true->∀p∈l,okCl p
 |[],_,_,_,p,hp=>by cases hp
 |x::r,q,seen,h,p,hp=>by
  rw[okPs,Zk,Zk] at h;obtain⟨_,_,h3⟩:=h;split at h3
  ·cases h3
  ·rename_i s' hs;rcases Zy.1 hp with rfl|hp
   ·exact fun s hs'=>Js (gx next _ _ _ _ hs s hs')
   ·exact gy next r (some x) s' h3 p hp
theorem xc{d:Dbs}(h:okD d=true):∀p∈d.procs,okCl p:=by
 grind [okD,gy]
def zP:Prc:=⟨[],0,false,[]⟩
def keyP(s:List UInt8)(a:Int):Prc:=⟨s,a,false,[]⟩
def Y3(d:Dbs)(s:List UInt8)(a:Int):Option Prc:=if okD d=true then(if fnD d.procs (keyP s a)=true then d.procs[lbD d.procs (keyP s a)]? else none) else none
theorem Ny(p:Prc)(q:Nat)(H:Heap)(z:Bool)(h:H[q]? =some (.arr (some 9) (Sto.pvs p.cls) z)):AV.freeze deep (pA p q) H=some (p.pv,H.set q (.arr (some 9) (Sto.pvs p.cls) true)):=by
 have e:∀n l hp,AV.freeze (n+1) (.agg l) hp=match AV.freeze.go n l hp with|some (ps,hp')=>some (.agg ps,hp')|none=>none:=fun _ _ _=>rfl
 show AV.freeze (7+1) (.agg _) _=_;simp[e,AV.freeze.go,AV.freeze,h,Sto.pvs_len,Prc.pv]
theorem gA(d:Dbs)(hb:BndD d)(s:List UInt8)(a:Int)(hp:Heap):S 17 [d.av,P6 s,P4 a] hp=some (.ret (.tuple [((Y3 d s a).getD zP).av,.pv none (.bool (Y3 d s a).isSome)]),hp):=by
 refine zM rfl rfl rfl (zK [(some 2,d.pv),(none,.str s),(none,.int .i64 a)]) rfl ?_;have h1:=fun hp=>Y2 d hb.1 hb.2.1 hb.2.2 hp;have hz0:zQ A2 [] []=some (.agg A2):=rfl;simp only[Dbs.av] at h1;by_cases hv:okD d=true
 rotate_left
 ·have hv':okD d=false:=by grind
  have e:Y3 d s a=none:=by grind [Y3]
  rw[hv'] at h1;rw[e];simp -dsimp -implicitDefEqProofs only[go_sem,seval,Dbs.av,h1,hz0,zD (Za _)];exact⟨_,rfl⟩
 have hi:=XL hv;have h2:=fun hp=>XK d s a hb.1 hi hp;have ek:(⟨s,a,false,[]⟩:Prc)=keyP s a:=rfl;rw[ek] at h2;rw[hv] at h1;simp only[Dbs.av] at h2;by_cases hf:fnD d.procs (keyP s a)=true
 rotate_left
 ·have hf':fnD d.procs (keyP s a)=false:=by grind
  have e:Y3 d s a=none:=by grind [Y3]
  rw[hf'] at h2;rw[e];simp -dsimp -implicitDefEqProofs only[go_sem,seval,Dbs.av,h1,h2,hz0,zD (Za _)];exact⟨_,rfl⟩
 rw[hf] at h2;obtain⟨p,hpp⟩:∃p,d.procs[lbD d.procs (keyP s a)]? =some p:=by
  grind [fnD]
 have e:Y3 d s a=some p:=by grind [Y3]
 rw[e];have hpm:=Zh hpp;have hcl:=y5 hpm;have htd:totD d.procs<=500:=by
  grind [okD]
 have h3:=fun hp=>gw p (by omega) (xc hv p hpm) hp;simp only[Prc.av] at h3;have hst:∀(x0 x2:AObj) (v:AV) (X:Heap),zH (some 4) 0 (x0::.box (some 4) v::x2::X) [.ptr 1 0,pA p 6]=some (.undef,x0::.box (some 4) (pA p 6)::x2::X):=fun x0 x2 v X=>by
  simp[zH,astore,pA,AV.plain,AV.shp,AV.own,zR,YI,total,Sh.size]
 simp -dsimp -implicitDefEqProofs only[go_sem,seval,Dbs.av,h1,h2,h3,hz0,hst,YC,zT (Prc.pvs_get hpp)];obtain⟨H,hH⟩:∃H:Heap,H=[.box (some 2) (.pv (some 2) d.pv),.box (some 4) (pA p 6),.arr (some 9) [] false,.box (some 4) (pA p 6),.box (some 4) (pA p 6),.arr (some 9) [] false,.arr (some 9) (Sto.pvs p.cls) false]:=⟨_,rfl⟩;have hfz:=Ny p 6 H false (by grind);have e3:∀X,AV.freeze deep (P5 true) X=some (.bool true,X):=fun _=>rfl;have hsh:(pA p 6).shp=some 4:=rfl;have hr:Yn ⟨[(6,.ptr 1 0),(7,P5 true)],H⟩ (6,some (some 4))=some (pA p 6):=by
  grind [Yn,Fr.look,aload]
 rw[<-hH,hr];show Am.frozen (.tuple [.pv (some 4) p.pv,P5 true]) (.tuple [pA p 6,P5 true]) H;refine⟨H.set 6 (.arr (some 9) (Sto.pvs p.cls) true),?_⟩;simp only[AV.freezeRes,zZ,hfz,e3,hsh];rfl
theorem Nz(s:Sto)(id:Int)(hp:Heap)(r:Nat)(hr:hp[r]? =some (.box none (P4 id))):S 103 [s.av,.ptr r 0] hp=some (.ret (P5 (decide (s.id=id))),hp):=by
 refine Yj rfl rfl rfl rfl ?_;have hr':∀X,(hp++X)[r]? =some (.box none (P4 id)):=fun X=>by grind
 simp -dsimp -implicitDefEqProofs only[go_sem,seval,Sto.av,yu,hr'];simp[AV.refsIn]
def idS(l:List Sto)(id:Int):Option Nat:=l.findIdx? fun s=>decide (s.id=id)
theorem NA{l:List Sto}{id:Int}{i:Nat}{s:Sto}(h:l[i]? =some s)(hs:s.id=id)(hb:∀(j:Nat) (u:Sto),j<i->l[j]? =some u->u.id≠id):idS l id=some i:=by
 grind [idS,List.findIdx?_eq_some_iff_getElem]
theorem gB{l:List Sto}{id:Int}(hb:∀(j:Nat) (u:Sto),l[j]? =some u->u.id≠id):idS l id=none:=by
 grind [idS,ZO]
def idI:Option Nat->Int
 |some i=>i
 |none=> -1
theorem NB(l:List Sto)(id:Int)(hl:l.length<1000000000)(hp:Heap)(r:Nat)(hr:hp[r]? =some (.box none (P4 id))):S 102 [.pv none (.sl (some 9) (Sto.pvs l)),.func (.func 103) [] [.ptr r 0]] hp=some (.ret (P4 (idI (idS l id))),hp):=by
 refine Yj rfl rfl rfl rfl ?_;have hw:=fun s=>Nz s id hp r hr;simp only[Sto.av] at hw;simp -dsimp -implicitDefEqProofs only[go_sem,seval,Sto.pvs_len];refine Yp (α:=Unit) l.length (fun i _=>∀(j:Nat) (u:Sto),j<i->l[j]? =some u->u.id≠id) (fun i _=>⟨[(0,.pv none (.sl (some 9) (Sto.pvs l))),(1,.func (.func 103) [] [.ptr r 0]),(7,P4 l.length),(8,P4 i)],hp⟩) () ⟨fun j u h=>by omega,rfl⟩ ?_ ?_
 ·rintro i - h hinv;have hc:(i:Int)<(l.length:Int):=by omega
  have w1:IntKind.i64.wrap ((i:Int)+1)=((i+1:Nat):Int):=by grind [zU]
  obtain⟨s,hs⟩:∃s,l[i]? =some s:=⟨_,Ze h⟩;have hws:=hw s;by_cases he:s.id=id
  ·rw[Z1 he] at hws;rw[NA hs he hinv];simp -dsimp -implicitDefEqProofs only[go_sem,seval,hc,w1,zT (Sto.pvs_get hs),hws];exact⟨rfl,by grind⟩
  ·rw[decide_eq_false he] at hws;simp -dsimp -implicitDefEqProofs only[go_sem,seval,hc,w1,zT (Sto.pvs_get hs),hws];refine⟨(),fun j u hj hu=> ?_,?_⟩
   ·grind
   grind [GT]
 ·rintro - hinv;have hc:¬(l.length:Int)<(l.length:Int):=by omega
  rw[gB fun j u hj=>hinv j u (Zf.1 hj).1 hj];simp -dsimp -implicitDefEqProofs only[go_sem,seval,hc];exact⟨rfl,by grind⟩
def whR:List Prc->Int->Option (Nat × Nat)
 |[],_=>none
 |p::r,id=>match idS p.cls id with
  |some k=>some (0,k)
  |none=>match whR r id with
   |some x=>some (x.1+1,x.2)
   |none=>none
theorem gD{id:Int}{k:Nat}{p:Prc}:∀{l:List Prc} {i:Nat},l[i]? =some p->idS p.cls id=some k->(∀(j:Nat) (q:Prc),j<i->l[j]? =some q->idS q.cls id=none)->whR l id=some (i,k)
 |[],i,h,_,_=>by grind
 |x::r,0,h,hk,_=>by
  grind [whR]
 |x::r,i+1,h,hk,hb=>by
  have h0:=hb 0 x (by omega) rfl;have ih:=gD (l:=r) (i:=i) (by grind) hk fun j q hj hq=>hb (j+1) q (by omega) (by grind)
  grind [whR]
theorem VJ{id:Int}:∀{l:List Prc},(∀(j:Nat) (q:Prc),l[j]? =some q->idS q.cls id=none)->whR l id=none
 |[],_=>rfl
 |x::r,hb=>by
  have h0:=hb 0 x rfl;have ih:=VJ (l:=r) fun j q hq=>hb (j+1) q (by grind)
  grind [whR]
theorem gE(d:Dbs)(id:Int)(hl:d.procs.length<1000000000)(ht:totD d.procs<1000000000)(hp:Heap):S 61 [d.av,P4 id] hp=some (.ret (match whR d.procs id with|some x=>.tuple [P4 x.1,P4 x.2,P5 true]|none=>.tuple [P4 0,P4 0,P5 false]),hp):=by
 refine zM rfl rfl rfl (zK [(some 2,d.pv),(none,.int .i64 id)]) rfl ?_;simp -dsimp -implicitDefEqProofs only[go_sem,seval,Dbs.av,YC,Prc.pvs_len];refine Yp (α:=Unit) d.procs.length (fun i _=>∀(j:Nat) (q:Prc),j<i->d.procs[j]? =some q->idS q.cls id=none) (fun i _=>⟨[(3,.ptr 1 0),(11,.pv none (.sl (some 4) (Prc.pvs d.procs))),(12,P4 d.procs.length),(13,P4 i)],[.box (some 2) (.pv (some 2) d.pv),.box none (P4 id)]⟩) () ⟨fun j u h=>by omega,rfl⟩ ?_ ?_
 ·rintro i - h hinv;have hc:(i:Int)<(d.procs.length:Int):=by omega
  have w1:IntKind.i64.wrap ((i:Int)+1)=((i+1:Nat):Int):=by grind [zU]
  obtain⟨p,hpp⟩:∃p,d.procs[i]? =some p:=⟨_,Ze h⟩;have hpl:=y5 (Zh hpp);have hix:∀(x0:AObj) (X:Heap),S 102 [.pv none (.sl (some 9) (Sto.pvs p.cls)),.func (.func 103) [] [.ptr 1 0]] (x0::.box none (P4 id)::X)=some (.ret (P4 (idI (idS p.cls id))),x0::.box none (P4 id)::X):=fun x0 X=>NB p.cls id (by omega) _ 1 rfl;cases hk:idS p.cls id with
  |some k=>
   rw[hk] at hix;have hk0:(0:Int)<=idI (some k):=by show(0:Int)<=(k:Int);omega
   rw[gD hpp hk hinv];simp -dsimp -implicitDefEqProofs only[go_sem,seval,hc,w1,zT (Prc.pvs_get hpp),yM,hix,hk0,zD (Za _)];rfl
  |none=>
   rw[hk] at hix;have hk0:¬(0:Int)<=idI none:=by decide
   simp -dsimp -implicitDefEqProofs only[go_sem,seval,hc,w1,zT (Prc.pvs_get hpp),yM,hix,hk0,zD (Za _)];refine⟨(),fun j q hj hq=> ?_,rfl⟩
   grind
 ·rintro - hinv;have hc:¬(d.procs.length:Int)<(d.procs.length:Int):=by omega
  rw[VJ fun j u hj=>hinv j u (Zf.1 hj).1 hj];simp -dsimp -implicitDefEqProofs only[go_sem,seval,hc]
  done
theorem gF{t:Tm}(h:t.valid=true):same t t=true:=by simp[same,h,Tm.zAQ]
theorem NC(s:Sto)(vh:s.cl.head.valid=true)(vb:s.cl.body.valid=true)(hp:Heap):S 86 [s.av,s.av] hp=some (.ret (P5 true),hp):=by
 refine zM rfl rfl rfl (zK [(some 9,s.pv),(some 9,s.pv)]) rfl ?_;have zh:=valid_size vh;have zb:=valid_size vb;have h1:=fun hp=>VA s.cl.head s.cl.head hp (by omega) (by omega);have h2:=fun hp=>VA s.cl.body s.cl.body hp (by omega) (by omega);rw[gF vh] at h1;rw[gF vb] at h2;simp only[Tm.av] at h1 h2;simp -dsimp -implicitDefEqProofs only[go_sem,seval,Sto.av,yu,gt,gu,h1,h2]
 done
theorem ND(p:Prc)(hl:p.cls.length<1000000000)(hc:okCl p)(hp:Heap):S 43 [p.av,p.av] hp=some (.ret (P5 true),hp):=by
 refine zM rfl rfl rfl (zK [(some 4,p.pv),(some 4,p.pv)]) rfl ?_;have e1:=eq_self p.name;have hb:∀b:Bool,(b == b)=true:=fun b=>by cases b <;> rfl
 simp -dsimp -implicitDefEqProofs only[go_sem,seval,Prc.av,yg,yh,gj,yM,Sto.pvs_len,hb];refine Yp (α:=Unit) p.cls.length (fun _ _=>True) (fun i _=>⟨[(2,.ptr 0 0),(3,.ptr 1 0),(5,P4 i)],[.box (some 4) (.pv (some 4) p.pv),.box (some 4) (.pv (some 4) p.pv)]⟩) () ⟨trivial,rfl⟩ ?_ ?_
 ·rintro i - h -;have hcc:(i:Int)<(p.cls.length:Int):=by omega
  have w1:IntKind.i64.wrap ((i:Int)+1)=((i+1:Nat):Int):=by rw[zU (by omega) (by omega)];omega
  obtain⟨s,hs⟩:∃s,p.cls[i]? =some s:=⟨_,Ze h⟩;obtain⟨vh,vb⟩:=hc s (Zh hs);have h3:=fun hp=>NC s vh vb hp;simp only[Sto.av] at h3;simp -dsimp -implicitDefEqProofs only[go_sem,seval,hcc,w1,yM,Sto.pvs_len,zT (Sto.pvs_get hs),h3];exact⟨(),trivial⟩
 ·rintro - -;have hcc:¬(p.cls.length:Int)<(p.cls.length:Int):=by omega
  simp -dsimp -implicitDefEqProofs only[go_sem,seval,hcc,yM,Sto.pvs_len]
  done
def Jt:AV:=.agg A2
def elsA(l:List Prc)(b i:Nat):List AV:=l.mapIdx fun j p=>if j<i then pA p (b+6*j) else Jt
theorem YT(l:List Prc)(b i:Nat):(elsA l b i).length=l.length:=by simp[elsA]
theorem NE(l:List Prc)(b:Nat):elsA l b 0=List.replicate l.length Jt:=by
 refine Z4 fun j=> ?_
 grind [elsA]
theorem gG{l:List Prc}{b i:Nat}{p:Prc}(h:l[i]? =some p):(elsA l b i).set i (pA p (b+6*i))=elsA l b (i+1):=by
 refine Z4 fun j=> ?_
 grind [elsA]
def cE(p:Prc)(b:Nat):Heap:=[.box (some 4) (.pv (some 4) p.pv),.arr (some 9) [] false,.box (some 4) (pA p b),.box (some 4) (pA p b),.arr (some 9) [] false,.arr (some 9) (Sto.pvs p.cls) false]
def cEs:List Prc->Nat->Heap
 |[],_=>[]
 |p::r,b=>cE p b++cEs r (b+6)
theorem gH:∀(l:List Prc) (b:Nat),(cEs l b).length=6*l.length
 |[],_=>rfl
 |p::r,b=>by rw[cEs,zi,gH r,Z5];show 6+_=_;omega
theorem gI:∀(l:List Prc) (p:Prc) (b:Nat),cEs (l++[p]) b=cEs l b++cE p (b+6*l.length)
 |[],p,b=>by simp[cEs]
 |x::r,p,b=>by
  rw[Zq,cEs,gI r p (b+6),cEs,Zo,Z5]
  grind
theorem VK{n b:Nat}{fr:Fr}{hp:Heap}{k:Nat}{o:AObj}(hk:b<=k)(hn:k<n)(ho:hp[k]? =some o)(hr:o.refs.all (fun q=>decide (q<n))=false):collect n b fr hp=hp:=by
 unfold collect;rw[Zb];intro h;rw[Zk] at h;have h2:=Zr.1 h.2 o (by
  refine ZO.2 ⟨k - b,?_⟩
  grind)
 grind
def dA(d:Dbs)(q:Nat):AV:=.agg [(none,P4 d.next),(none,.slv (some 4) q d.procs.length 0 d.procs.length)]
theorem NF{Γ:Oracle}{b:Nat}{vs:List AV}{hp:Heap}{K:AV->Heap->Prop}{Kp:PV->Heap->Prop}(sh:Sh)(z:AV):opK (aOp Γ b (.mkslicev sh z) vs hp) K Kp=YD (xI sh z hp vs) K:=by
 show opK (match xI sh z hp vs with|some (v,hp')=>some (OpRes.val v hp')|none=>none) K Kp=_;cases xI sh z hp vs with
 |none=>rfl
 |some r=>cases r;rfl
theorem qn(d:Dbs)(hl:d.procs.length<1000000)(hcl:∀p∈d.procs,p.cls.length<1000000/\okCl p)(hp:Heap):S 62 [d.av] hp=some (.ret (dA d (hp.length+2)),hp++([.box (some 2) (dA d (hp.length+2)),.box (some 2) (dA d (hp.length+2)),.arv (some 4) (elsA d.procs (hp.length+8) d.procs.length)]++cEs d.procs (hp.length+8))):=by
 refine Yj rfl rfl rfl rfl ?_;have hpl:=Prc.pvs_len d.procs;have hlim:d.procs.length<=lim:=by grind [lim]
 have hnil:∀H:Heap,zR A3 H=(A3,H):=fun _=>rfl;have hmk:∀H:Heap,xI (some 4) Jt H [P4 d.procs.length,P4 d.procs.length]=some (.slv (some 4) H.length d.procs.length 0 d.procs.length,H++[.arv (some 4) (List.replicate d.procs.length Jt)]):=fun H=>by
  grind [xI,X5]
 simp only[Jt] at hmk;simp -dsimp -implicitDefEqProofs only[go_sem,seval,Dbs.av,YC,hpl,hnil,hmk,NF,zD (Zd _ _)];obtain⟨x1,hx1⟩:∃x1:AObj,x1=.box (some 2) (.agg A1):=⟨_,rfl⟩;rw[<-hx1];obtain⟨b0,hb0⟩:∃b0,b0=hp.length+8:=⟨_,rfl⟩;rw[<-hb0];obtain⟨PP,hPP⟩:∃PP:Nat->Heap->Heap,PP=fun j e=>hp++([.box (some 2) (.pv (some 2) d.pv),x1,.arv (some 4) (elsA d.procs b0 j)]++e):=⟨_,rfl⟩;have hPa:∀j e X,PP j e++X=PP j (e++X):=fun j e X=>by grind
 have hPl:∀j e,(PP j e).length=hp.length+3+e.length:=fun j e=>by grind
 have hP2:∀j e,(PP j e)[hp.length+2]? =some (.arv (some 4) (elsA d.procs b0 j)):=fun j e=>by grind
 refine Yp (α:=Unit) d.procs.length (fun _ _=>True) (fun i _=>⟨[(1,.ptr hp.length 0),(2,.ptr (hp.length+1) 0),(3,.slv (some 4) (hp.length+2) d.procs.length 0 d.procs.length),(11,.pv none (.sl (some 4) (Prc.pvs d.procs))),(12,P4 d.procs.length),(13,P4 i)],PP i (cEs (d.procs.take i) b0)⟩) () ⟨trivial,by rw[hPP];simp only[NE];rfl⟩ ?_ ?_
 ·rintro i - h -;have hcc:(i:Int)<(d.procs.length:Int):=by omega
  have w1:IntKind.i64.wrap ((i:Int)+1)=((i+1:Nat):Int):=by grind [zU]
  obtain⟨p,hpp⟩:∃p,d.procs[i]? =some p:=⟨_,Ze h⟩;obtain⟨c1,c2⟩:=hcl p (Zh hpp);obtain⟨e,he⟩:∃e,e=cEs (d.procs.take i) b0:=⟨_,rfl⟩;have hel:e.length=6*i:=by grind [gH]
  obtain⟨n,hn⟩:∃n,n=hp.length+3+6*i:=⟨_,rfl⟩;have hpn:∀j,(PP j e).length=n:=fun j=>by grind
  have hbn:hp.length<=n:=by omega
  have hpr:S 57 [.pv (some 4) p.pv] (PP i e++[.box (some 4) (.pv (some 4) p.pv),.arr (some 9) [] false])=some (.ret (pA p (n+5)),PP i e++[.box (some 4) (.pv (some 4) p.pv),.arr (some 9) [] false,.box (some 4) (pA p (n+5)),.box (some 4) (pA p (n+5)),.arr (some 9) [] false,.arr (some 9) (Sto.pvs p.cls) false]):=by
   have h3:=gw p c1 c2 (PP i e++[.box (some 4) (.pv (some 4) p.pv),.arr (some 9) [] false]);rw[zi,hpn,Zo] at h3;exact h3
  have hia:zX (some 4) [.slv (some 4) (hp.length+2) d.procs.length 0 d.procs.length,P4 i]=some (.epv (some 4) (hp.length+2) d.procs.length i 0):=by
   simp[zX,aindex,h]
  have hst:∀X,zH (some 4) hp.length (PP i e++X) [.epv (some 4) (hp.length+2) d.procs.length i 0,pA p (n+5)]=some (.undef,PP (i+1) e++X):=fun X=>by
   have hq:n+5=b0+6*i:=by omega
   have hs:=gG (b:=b0) hpp;have hg:(PP i e++X)[hp.length+2]? =some (.arv (some 4) (elsA d.procs b0 i)):=by grind
   have hset:(PP i e++X).set (hp.length+2) (.arv (some 4) (elsA d.procs b0 (i+1)))=PP (i+1) e++X:=by
    simp_all
   have hlt:i<(elsA d.procs b0 i).length:=by grind [YT]
   obtain⟨old,ho⟩:∃old,(elsA d.procs b0 i)[i]? =some old:=⟨_,Ze hlt⟩;have hpln:(pA p (b0+6*i)).plain=true:=rfl;have hsh:(pA p (b0+6*i)).shp=some 4:=rfl;simp_all[zH,astore,YT]
  rw[<-he];simp -dsimp -implicitDefEqProofs only[go_sem,seval,hcc,w1,zT (Prc.pvs_get hpp),hpr,hia,hst,zD (Zz hbn (Zd _ _)),hpn,getN (hpn _),Ye (hpn _),setN (hpn _),Yl (hpn _)];refine⟨(),?_⟩;have hgi:(elsA d.procs b0 (i+1))[i]? =some (pA p (b0+6*i)):=by
   rw[<-gG hpp];simp[YT,h]
  have hrf:(AObj.arv (some 4) (elsA d.procs b0 (i+1))).refs.all (fun q=>decide (q<hp.length+3))=false:=by
   rw[List.all_eq_false];refine⟨b0+6*i,(xR _ _).2 ⟨_,Zh hgi,by simp[pA,AV.refsIn,AV.refsIn.go]⟩,by grind⟩
  rw[VK (k:=hp.length+2) (by omega) (by omega) (by grind) hrf];have htk:d.procs.take (i+1)=d.procs.take i++[p]:=by grind [Z8]
  have hli:(d.procs.take i).length=i:=by grind
  rw[hPa,htk,gI,hli,<-he];have hq:n+5=b0+6*i:=by omega
  rw[hq];rfl
 ·rintro - -;have hcc:¬(d.procs.length:Int)<(d.procs.length:Int):=by omega
  have hup:∀(q:Nat),AV.upd deep (.pv (some 2) d.pv) 1 none (.slv (some 4) q d.procs.length 0 d.procs.length)=some (dA d q):=fun q=>rfl;have hs1:∀(x1 x2:AObj) (X:Heap),zH none hp.length (hp++.box (some 2) (.pv (some 2) d.pv)::x1::x2::X) [.ptr hp.length 1,.slv (some 4) (hp.length+2) d.procs.length 0 d.procs.length]=some (.undef,hp++.box (some 2) (dA d (hp.length+2))::x1::x2::X):=fun x1 x2 X=>by
   grind [zH,astore,AV.plain,AV.shp,AV.own]
  have hs2:∀(x0 x2:AObj) (v:AV) (X:Heap),zH (some 2) hp.length (hp++x0::.box (some 2) v::x2::X) [.ptr (hp.length+1) 0,dA d (hp.length+2)]=some (.undef,hp++x0::.box (some 2) (dA d (hp.length+2))::x2::X):=fun x0 x2 v X=>by
   simp[zH,astore,getN rfl,setN rfl,dA,AV.plain,AV.shp,AV.own,zR,YI,total,Sh.size]
  rw[ZW,hPP,hx1];simp -dsimp -implicitDefEqProofs only[go_sem,seval,hcc,hs1,hs2]
  grind [dA,AV.refsIn,AV.refsIn.go]
def Fz(H H':Heap):Prop:=∀k:Nat,(∀(s:Sh) (es:List PV) (z:Bool),H[k]? =some (AObj.arr s es z)->∃z':Bool,H'[k]? =some (AObj.arr s es z'))/\(∀(s:Sh) (es:List AV),H[k]? =some (AObj.arv s es)->H'[k]? =some (AObj.arv s es))
theorem Fz.refl(H:Heap):Fz H H:=fun _=>⟨fun _ _ z h=>⟨z,h⟩,fun _ _ h=>h⟩
theorem Fz.trans{A B C:Heap}(h1:Fz A B)(h2:Fz B C):Fz A C:=fun k=>⟨fun s es z h=>by
  obtain⟨z',h'⟩:=(h1 k).1 s es z h;exact(h2 k).1 s es z' h',fun s es h=>(h2 k).2 s es ((h1 k).2 s es h)⟩
theorem Fz.set{H:Heap}{q:Nat}{s:Sh}{es:List PV}{z:Bool}(h:H[q]? =some (.arr s es z)):Fz H (H.set q (.arr s es true)):=fun k=>by
 grind
def SvP(sv:AV)(l:List Sto)(H:Heap):Prop:=sv=.tsl (some 9) (Sto.pvs l)\/∃(q ver:Nat) (es:List PV) (z:Bool),sv=.sl (some 9) q ver 0 l.length/\H[q]? =some (.arr (some 9) es z)/\es.length=ver/\l.length<=ver/\es.take l.length=Sto.pvs l
def pAg(p:Prc)(sv:AV):AV:=.agg [(none,P6 p.name),(none,P4 p.ar),(none,P5 p.dyn),(none,sv)]
def ElP(p:Prc)(v:AV)(H:Heap):Prop:=v=p.av\/∃sv,v=pAg p sv/\SvP sv p.cls H
theorem SvP.fz{sv:AV}{l:List Sto}{H H':Heap}(h:SvP sv l H)(f:Fz H H'):SvP sv l H':=by
 rcases h with h|⟨q,ver,es,z,h1,h2,h3⟩
 ·exact .inl h
 ·obtain⟨z',h'⟩:=(f q).1 _ _ _ h2;exact .inr ⟨q,ver,es,z',h1,h',h3⟩
theorem ElP.fz{p:Prc}{v:AV}{H H':Heap}(h:ElP p v H)(f:Fz H H'):ElP p v H':=by
 rcases h with h|⟨sv,h1,h2⟩
 ·exact .inl h
 ·exact .inr ⟨sv,h1,h2.fz f⟩
theorem SvP.frz{sv:AV}{l:List Sto}{H:Heap}(h:SvP sv l H)(n:Nat):∃H',AV.freeze0 (n+1) sv H=some (.sl (some 9) (Sto.pvs l),H')/\Fz H H':=by
 rcases h with rfl|⟨q,ver,es,z,rfl,h2,h3,h4,h5⟩
 ·exact⟨H,rfl,Fz.refl H⟩
 ·refine⟨H.set q (.arr (some 9) es true),?_,Fz.set h2⟩
  grind [AV.freeze0]
theorem ElP.frz{p:Prc}{v:AV}{H:Heap}(h:ElP p v H):∃H',AV.freeze0 6 v H=some (p.pv,H')/\Fz H H':=by
 rcases h with rfl|⟨sv,rfl,h2⟩
 ·exact⟨H,rfl,Fz.refl H⟩
 ·obtain⟨H',h3,h4⟩:=h2.frz 4;refine⟨H',?_,h4⟩;have e:∀n l hp,AV.freeze0 (n+1) (.agg l) hp=match AV.freeze0.go n l hp with|some (ps,hp')=>some (.agg ps,hp')|none=>none:=fun _ _ _=>rfl
  have e0:∀(x:PV) (s:Sh) (X:Heap),AV.freeze0 5 (.pv s x) X=some (x,X):=fun _ _ _=>rfl;show AV.freeze0 (5+1) (.agg _) H=_;simp only[e,AV.freeze0.go,e0,h3];rfl
theorem gJ:∀(ps:List Prc) (els:List AV) (H:Heap),els.length=ps.length->(∀(j:Nat) (p:Prc) (v:AV),ps[j]? =some p->els[j]? =some v->ElP p v H)->∃H',AV.freeze0.go 6 (els.map fun e=>(some 4,e)) H=some (ps.map (fun p=>(some 4,p.pv)),H')/\Fz H H'
 |[],[],H,_,_=>⟨H,rfl,Fz.refl H⟩
 |[],_::_,_,h,_=>by grind
 |_::_,[],_,h,_=>by grind
 |p::r,v::w,H,hl,he=>by
  obtain⟨H1,h1,f1⟩:=(he 0 p v rfl rfl).frz;obtain⟨H2,h2,f2⟩:=gJ r w H1 (by grind) fun j p' v' hp hv=>(he (j+1) p' v' (by grind) (by grind)).fz f1;refine⟨H2,?_,f1.trans f2⟩
  grind [AV.freeze0.go]
def DbA(d:Dbs)(v:AV)(H:Heap):Prop:=∃(q ver:Nat) (els:List AV) (ps:List Prc),v=.agg [(none,P4 d.next),(none,.slv (some 4) q ver 0 d.procs.length)]/\H[q]? =some (.arv (some 4) els)/\els.length=ver/\d.procs.length<=ver/\ps.length=ver/\ps.take d.procs.length=d.procs/\∀(j:Nat) (p:Prc) (v:AV),ps[j]? =some p->els[j]? =some v->ElP p v H
theorem DbA.frz{d:Dbs}{v:AV}{H:Heap}(h:DbA d v H):∃H',AV.freeze deep v H=some (d.pv,H'):=by
 obtain⟨q,ver,els,ps,rfl,h1,h2,h3,h4,h5,h6⟩:=h;obtain⟨H1,g1,g2⟩:=gJ ps els H (by omega) h6;have h1':=(g2 q).2 _ _ h1;refine⟨H1.set q (.arr (some 4) (Prc.pvs ps) true),?_⟩;have e:∀n l hp,AV.freeze (n+1) (.agg l) hp=match AV.freeze.go n l hp with|some (ps,hp')=>some (.agg ps,hp')|none=>none:=fun _ _ _=>rfl
 have e0:∀(x:PV) (s:Sh) (X:Heap),AV.freeze 7 (.pv s x) X=some (x,X):=fun _ _ _=>rfl;have em:(ps.map (fun p=>((some 4:Sh),p.pv))).map (·.2)=Prc.pvs ps:=by simp[Prc.pvs]
 have et:(Prc.pvs ps).take d.procs.length=Prc.pvs d.procs:=by
  grind [Prc.pvs,List.map_take]
 have hlen:els.length=els.length:=rfl;have hfs:AV.freeze 7 (.slv (some 4) q ver 0 d.procs.length) H=some (.sl (some 4) (Prc.pvs d.procs),H1.set q (.arr (some 4) (Prc.pvs ps) true)):=by
  grind [AV.freeze]
 show AV.freeze (7+1) (.agg _) H=_;simp only[e,AV.freeze.go,e0,hfs];rfl
theorem xz:∀(l:List Prc) (b j:Nat) (p:Prc),l[j]? =some p->(cEs l b)[6*j+5]? =some (.arr (some 9) (Sto.pvs p.cls) false)
 |[],_,_,_,h=>by simp at h
 |x::r,b,0,p,h=>by
  simp at h;subst h;rfl
 |x::r,b,j+1,p,h=>by
  have ih:=xz r (b+6) j p (by simpa using h);rw[cEs,ZD (by show 6<=_;omega)];show(cEs r (b+6))[6*(j+1)+5 - 6]? =_;rw[show 6*(j+1)+5 - 6=6*j+5 by omega];exact ih
theorem Xs{l:List Prc}{b j:Nat}{p:Prc}(h:l[j]? =some p):(elsA l b l.length)[j]? =some (pA p (b+6*j)):=by
 have hj:=(Zf.1 h).1;have he:l[j]=p:=(Zf.1 h).2;simp[elsA,List.getElem?_mapIdx,hj,he]
def Y7:Dbs:=⟨0,[]⟩
def dynP(p:Prc)(b:Bool):Prc:=⟨p.name,p.ar,p.dyn || b,p.cls⟩
theorem P2:zQ A1 [] []=some (.agg A1):=rfl
theorem NG(d:Dbs)(hb:BndD d)(s:List UInt8)(a:Int)(b:Bool)(h:okD d=false\/namB (keyP s a)=false)(hp:Heap):S 116 [d.av,P6 s,P4 a,P5 b] hp=some (.ret (.tuple [Y7.av,P4 1]),hp):=by
 refine zM rfl rfl rfl (zK [(some 2,d.pv),(none,.str s),(none,.int .i64 a),(none,.bool b)]) rfl ?_;have h1:=fun hp=>Y2 d hb.1 hb.2.1 hb.2.2 hp;have h2:∀hp,S 53 [P6 s,P4 a] hp=some (.ret (P5 (namB (keyP s a))),hp):=fun hp=>Jq s a hp;have hz0:=P2;have hnil:∀H:Heap,zR A3 H=(A3,H):=fun _=>rfl;simp only[Dbs.av] at h1;cases hv:okD d with
 |false=>
  rw[hv] at h1;simp -dsimp -implicitDefEqProofs only[go_sem,seval,Dbs.av,h1,hz0,hnil,zD (Za _)];exact⟨_,rfl⟩
 |true=>
  have hn:namB (keyP s a)=false:=by
   rcases h with h|h
   ·rw[hv] at h;cases h
   ·exact h
  rw[hv] at h1;rw[hn] at h2;simp -dsimp -implicitDefEqProofs only[go_sem,seval,Dbs.av,h1,h2,hz0,hnil,zD (Za _)];exact⟨_,rfl⟩
theorem NH(d:Dbs)(hb:BndD d)(s:List UInt8)(a:Int)(b:Bool)(hv:okD d=true)(hn:namB (keyP s a)=true)(hf:fnD d.procs (keyP s a)=false)(hl:d.procs.length=500)(hp:Heap):S 116 [d.av,P6 s,P4 a,P5 b] hp=some (.ret (.tuple [Y7.av,P4 13]),hp):=by
 refine zM rfl rfl rfl (zK [(some 2,d.pv),(none,.str s),(none,.int .i64 a),(none,.bool b)]) rfl ?_;have h1:=fun hp=>Y2 d hb.1 hb.2.1 hb.2.2 hp;have h2:∀hp,S 53 [P6 s,P4 a] hp=some (.ret (P5 (namB (keyP s a))),hp):=fun hp=>Jq s a hp;have h3:∀hp,S 56 [d.av,P6 s,P4 a] hp=some (.ret (.tuple [P4 (lbD d.procs (keyP s a):Int),P5 (fnD d.procs (keyP s a))]),hp):=fun hp=>XK d s a hb.1 (XL hv) hp;have hz0:=P2;have hnil:∀H:Heap,zR A3 H=(A3,H):=fun _=>rfl;have hl':((d.procs.length:Int)=500)=True:=Zi (by omega);simp only[Dbs.av] at h1 h3;rw[hv] at h1;rw[hn] at h2;rw[hf] at h3;simp -dsimp -implicitDefEqProofs only[go_sem,seval,Dbs.av,YC,Prc.pvs_len,h1,h2,h3,hz0,hl',hnil,zD (Za _)];exact⟨_,rfl⟩
theorem NI(d:Dbs)(hb:BndD d)(s:List UInt8)(a:Int)(b:Bool)(hv:okD d=true)(hn:namB (keyP s a)=true)(hf:fnD d.procs (keyP s a)=true)(p:Prc)(i:Nat)(hi:i=lbD d.procs (keyP s a))(hpp:d.procs[i]? =some p)(hp:Heap):S 116 [d.av,P6 s,P4 a,P5 b] hp=some (.ret (.tuple [(⟨d.next,d.procs.set i (dynP p b)⟩:Dbs).av,P4 0]),hp):=by
 refine zM rfl rfl rfl (zK [(some 2,d.pv),(none,.str s),(none,.int .i64 a),(none,.bool b)]) rfl ?_;have h1:=fun hp=>Y2 d hb.1 hb.2.1 hb.2.2 hp;have h2:∀hp,S 53 [P6 s,P4 a] hp=some (.ret (P5 (namB (keyP s a))),hp):=fun hp=>Jq s a hp;have h3:∀hp,S 56 [d.av,P6 s,P4 a] hp=some (.ret (.tuple [P4 (lbD d.procs (keyP s a):Int),P5 (fnD d.procs (keyP s a))]),hp):=fun hp=>XK d s a hb.1 (XL hv) hp;have hl5:d.procs.length<=500/\totD d.procs<=500:=by
  grind [okD]
 have h4:∀x0 x1:AObj,S 62 [d.av] [x0,x1]=some (.ret (dA d 4),x0::x1::.box (some 2) (dA d 4)::.box (some 2) (dA d 4)::.arv (some 4) (elsA d.procs 10 d.procs.length)::cEs d.procs 10):=fun x0 x1=>qn d (by omega) (fun q hq=>⟨by have:=y5 hq;omega,xc hv q hq⟩) [x0,x1];have hnil:∀H:Heap,zR A3 H=(A3,H):=fun _=>rfl;have hst:∀(x0:AObj) (v:AV) (X:Heap),zH (some 2) 0 (x0::.box (some 2) v::X) [.ptr 1 0,dA d 4]=some (.undef,x0::.box (some 2) (dA d 4)::X):=fun x0 v X=>by
  simp[zH,astore,dA,AV.plain,AV.shp,AV.own,zR,YI,total,Sh.size]
 simp only[Dbs.av] at h1 h3 h4;rw[hv] at h1;rw[hn] at h2;rw[hf,<-hi] at h3;have hil:=(Zf.1 hpp).1;have hge:=Xs (b:=10) hpp;have hpt:AV.part deep (dA d 4) 1 none=some (.slv (some 4) 4 d.procs.length 0 d.procs.length):=rfl;have hia:zX (some 4) [.slv (some 4) 4 d.procs.length 0 d.procs.length,P4 i]=some (.epv (some 4) 4 d.procs.length i 0):=by
  grind [zX,aindex]
 have hld:∀(x0 x1 x2 x3:AObj) (X:Heap),aload none (x0::x1::x2::x3::.arv (some 4) (elsA d.procs 10 d.procs.length)::X) (.epv (some 4) 4 d.procs.length i 2)=some (P5 p.dyn):=fun x0 x1 x2 x3 X=>by
  have e:AV.part deep (pA p (10+6*i)) 2 none=some (P5 p.dyn):=rfl
  grind [aload,YT]
 have hse:∀(x0 x1 x2 x3:AObj) (X:Heap) (c:Bool),zH none 0 (x0::x1::x2::x3::.arv (some 4) (elsA d.procs 10 d.procs.length)::X) [.epv (some 4) 4 d.procs.length i 2,P5 c]=some (.undef,x0::x1::x2::x3::.arv (some 4) ((elsA d.procs 10 d.procs.length).set i (pA ⟨p.name,p.ar,c,p.cls⟩ (10+6*i)))::X):=fun x0 x1 x2 x3 X c=>by
  have e:AV.upd deep (pA p (10+6*i)) 2 none (P5 c)=some (pA ⟨p.name,p.ar,c,p.cls⟩ (10+6*i)):=rfl;simp_all[zH,astore,YT,AV.plain,AV.shp]
 have fin:∀(x0 x1 x2 x3:AObj) (c:Bool),c=(p.dyn || b)->DbA ⟨d.next,d.procs.set i (dynP p b)⟩ (dA d 4) (x0::x1::x2::x3::.arv (some 4) ((elsA d.procs 10 d.procs.length).set i (pA ⟨p.name,p.ar,c,p.cls⟩ (10+6*i)))::cEs d.procs 10):=fun x0 x1 x2 x3 c hc=>by
  refine⟨4,d.procs.length,_,d.procs.set i (dynP p b),?_,rfl,by rw[List.length_set,YT],by simp,by simp,by grind,fun j q v hq hv2=> ?_⟩
  ·simp[dA]
  ·have hcl5:∀(k:Nat) (x:Prc),d.procs[k]? =some x->(x0::x1::x2::x3::AObj.arv (some 4) ((elsA d.procs 10 d.procs.length).set i (pA ⟨p.name,p.ar,c,p.cls⟩ (10+6*i)))::cEs d.procs 10)[10+6*k]? =some (.arr (some 9) (Sto.pvs x.cls) false):=fun k x hx=>by
    grind [xz]
   have htake:∀l:List Sto,(Sto.pvs l).take l.length=Sto.pvs l:=fun l=>Zl (by grind [Sto.pvs_len]);by_cases hji:i=j
   ·subst hji;rw[ZC hil] at hq;cases hq;rw[ZC (by grind)] at hv2;cases hv2;subst hc;exact .inr ⟨_,rfl,.inr ⟨10+6*i,p.cls.length,Sto.pvs p.cls,false,rfl,hcl5 i p hpp,Sto.pvs_len _,Zc _,htake _⟩⟩
   ·rw[zm hji] at hq hv2;rw[Xs hq] at hv2;cases hv2;exact .inr ⟨_,rfl,.inr ⟨10+6*j,q.cls.length,Sto.pvs q.cls,false,rfl,hcl5 j q hq,Sto.pvs_len _,Zc _,htake _⟩⟩
 have hfr:∀(d':Dbs) (H:Heap),DbA d' (dA d 4) H->Am.frozen (.tuple [d'.av,P4 0]) (.tuple [dA d 4,P4 0]) H:=fun d' H hD=>by
  obtain⟨H',hz⟩:=hD.frz;have e3:∀X,AV.freeze deep (P4 0) X=some (.int .i64 0,X):=fun _=>rfl;have hsh:(dA d 4).shp=some 2:=rfl;refine⟨H',?_⟩;simp only[AV.freezeRes,zZ,hz,e3,hsh];rfl
 have hr:∀(x0:AObj) (X:Heap),Yn ⟨[(8,.ptr 1 0),(9,P4 0)],x0::.box (some 2) (dA d 4)::X⟩ (8,some (some 2))=some (dA d 4):=fun x0 X=>by
  simp[Yn,Fr.look,aload]
 have hfa:yO 2 [.epv (some 4) 4 d.procs.length i 0]=some (.epv (some 4) 4 d.procs.length i 2):=rfl;cases hd:p.dyn with
 |true=>
  rw[hd] at hld;simp -dsimp -implicitDefEqProofs only[go_sem,seval,Dbs.av,YC,Prc.pvs_len,h1,h2,h3,h4,hst,hnil,hpt,hia,hfa,hld,hse,hr]
  grind [X6,Dbs.av]
 |false=>
  rw[hd] at hld;simp -dsimp -implicitDefEqProofs only[go_sem,seval,Dbs.av,YC,Prc.pvs_len,h1,h2,h3,h4,hst,hnil,hpt,hia,hfa,hld,hse,hr]
  grind [X6,Dbs.av]
theorem NJ(d:Dbs)(hb:BndD d)(s:List UInt8)(a:Int)(b:Bool)(hv:okD d=true)(hn:namB (keyP s a)=true)(hf:fnD d.procs (keyP s a)=false)(i:Nat)(hi:i=lbD d.procs (keyP s a))(hl:d.procs.length≠500)(hp:Heap):S 116 [d.av,P6 s,P4 a,P5 b] hp=some (.ret (.tuple [(⟨d.next,d.procs.take i++(⟨s,a,b,[]⟩:Prc)::d.procs.drop i⟩:Dbs).av,P4 0]),hp):=by
 refine zM rfl rfl rfl (zK [(some 2,d.pv),(none,.str s),(none,.int .i64 a),(none,.bool b)]) rfl ?_;have h1:=fun hp=>Y2 d hb.1 hb.2.1 hb.2.2 hp;have h2:∀hp,S 53 [P6 s,P4 a] hp=some (.ret (P5 (namB (keyP s a))),hp):=fun hp=>Jq s a hp;have h3:∀hp,S 56 [d.av,P6 s,P4 a] hp=some (.ret (.tuple [P4 (lbD d.procs (keyP s a):Int),P5 (fnD d.procs (keyP s a))]),hp):=fun hp=>XK d s a hb.1 (XL hv) hp;have hl5:d.procs.length<=500/\totD d.procs<=500:=by
  grind [okD]
 have h4:∀x0 x1:AObj,S 62 [d.av] [x0,x1]=some (.ret (dA d 4),x0::x1::.box (some 2) (dA d 4)::.box (some 2) (dA d 4)::.arv (some 4) (elsA d.procs 10 d.procs.length)::cEs d.procs 10):=fun x0 x1=>qn d (by omega) (fun q hq=>⟨by have:=y5 hq;omega,xc hv q hq⟩) [x0,x1];have hnil:∀H:Heap,zR A3 H=(A3,H):=fun _=>rfl;have hst:∀(x0:AObj) (v:AV) (X:Heap),zH (some 2) 0 (x0::.box (some 2) v::X) [.ptr 1 0,dA d 4]=some (.undef,x0::.box (some 2) (dA d 4)::X):=fun x0 v X=>by
  simp[zH,astore,dA,AV.plain,AV.shp,AV.own,zR,YI,total,Sh.size]
 simp only[Dbs.av] at h1 h3 h4;rw[hv] at h1;rw[hn] at h2;rw[hf,<-hi] at h3;have hl':((d.procs.length:Int)=500)=False:=Zg (by omega);have hpt:AV.part deep (dA d 4) 1 none=some (.slv (some 4) 4 d.procs.length 0 d.procs.length):=rfl;have hbu:zQ A2 [0,1] [P6 s,P4 a]=some (.agg [(none,P6 s),(none,P4 a),(none,P5 false),(none,.tsl (some 9) [])]):=rfl;have hil:i<=d.procs.length:=by grind [Jr]
 obtain⟨nv,hnv⟩:∃nv:Bool->AV,nv=fun c=>.agg [(none,P6 s),(none,P4 a),(none,P5 c),(none,.tsl (some 9) [])]:=⟨_,rfl⟩;obtain⟨el,hel⟩:∃el:AV->List AV,el=fun v=>(elsA d.procs 10 d.procs.length).take i++v::(elsA d.procs 10 d.procs.length).drop i:=⟨_,rfl⟩;have hell:∀v,(el v).length=d.procs.length+1:=fun v=>by grind [YT]
 have hli:((elsA d.procs 10 d.procs.length).take i).length=i:=by grind [YT]
 have heli:∀v,(el v)[i]? =some v:=fun v=>by
  grind
 have hels:∀v v',(el v).set i v'=el v':=fun v v'=>by
  grind
 obtain⟨m,hm⟩:∃m,m=(cEs d.procs 10).length+5:=⟨_,rfl⟩;have op_bslov:∀{vs:List AV} {H:Heap} {K:AV->Heap->Prop} {Kp:PV->Heap->Prop},opK (aOp (sem (find tab) prim) 0 (.bslov (some 4)) vs H) K Kp=YD (Y9 (some 4) H vs) K:=fun{vs H K Kp}=>by
  show opK (match Y9 (some 4) H vs with|some (v,hp')=>some (OpRes.val v hp')|none=>none) K Kp=_;cases Y9 (some 4) H vs with
  |none=>rfl
  |some r=>cases r;rfl
 have hbs:∀x0 x1 x2 x3 x4:AObj,Y9 (some 4) (x0::x1::x2::x3::x4::cEs d.procs 10) [nv false]=some (.slv (some 4) m 1 0 1,x0::x1::x2::x3::x4::(cEs d.procs 10++[.arv (some 4) [nv false]])):=fun x0 x1 x2 x3 x4=>by
  have e1:(nv false).plain=true:=by rw[hnv];rfl
  have e2:(nv false).shp=some 4:=by rw[hnv];rfl
  grind [Y9,X5]
 have hpr:∀x0 x1 x2 x3:AObj,S 133 [.slv (some 4) 4 d.procs.length 0 d.procs.length,P4 i,.slv (some 4) m 1 0 1] (x0::x1::x2::x3::.arv (some 4) (elsA d.procs 10 d.procs.length)::(cEs d.procs 10++[.arv (some 4) [nv false]]))=some (.ret (.slv (some 4) 4 (d.procs.length+1) 0 (d.procs.length+1)),x0::x1::x2::x3::.arv (some 4) (el (nv false))::(cEs d.procs 10++[.arv (some 4) [nv false]])):=fun x0 x1 x2 x3=>by
  rw[S,x9 (F:=find tab) (prim:=prim) (p:=xX (some 4)) rfl];have hg:(x0::x1::x2::x3::AObj.arv (some 4) (elsA d.procs 10 d.procs.length)::(cEs d.procs 10++[.arv (some 4) [nv false]]))[m]? =some (.arv (some 4) [nv false]):=by
   grind
  have hne:4≠m:=by omega
  have hrf:∀n,Xz n 4 (elsA d.procs 10 d.procs.length) [nv false]=true:=fun n=>by
   grind [Xz,AV.refsIn.gol,AV.refsIn,AV.refsIn.go]
  have hlm:d.procs.length+1<=lim:=by grind [lim]
  simp_all[xX,YT]
 have hnv0:(.agg [(none,P6 s),(none,P4 a),(none,P5 false),(none,.tsl (some 9) [])]:AV)=nv false:=by rw[hnv]
 rw[hnv0] at hbu;obtain⟨dN,hdN⟩:∃dN:AV,dN=.agg [(none,P4 d.next),(none,.slv (some 4) 4 (d.procs.length+1) 0 (d.procs.length+1))]:=⟨_,rfl⟩;have hsf:∀(x0:AObj) (X:Heap),zH none 0 (x0::.box (some 2) (dA d 4)::X) [.ptr 1 1,.slv (some 4) 4 (d.procs.length+1) 0 (d.procs.length+1)]=some (.undef,x0::.box (some 2) dN::X):=fun x0 X=>by
  have e:AV.upd deep (dA d 4) 1 none (.slv (some 4) 4 (d.procs.length+1) 0 (d.procs.length+1))=some dN:=by rw[hdN];rfl
  simp[zH,astore,e,AV.plain,AV.shp,AV.own]
 have hpt2:AV.part deep dN 1 none=some (.slv (some 4) 4 (d.procs.length+1) 0 (d.procs.length+1)):=by rw[hdN];rfl
 have hi1:i<d.procs.length+1:=by omega
 have hia:zX (some 4) [.slv (some 4) 4 (d.procs.length+1) 0 (d.procs.length+1),P4 i]=some (.epv (some 4) 4 (d.procs.length+1) i 0):=by
  have:(i:Int)<(d.procs.length:Int)+1:=by omega
  simp[zX,aindex,this]
 have hfa:yO 2 [.epv (some 4) 4 (d.procs.length+1) i 0]=some (.epv (some 4) 4 (d.procs.length+1) i 2):=rfl;have hld:∀(x0 x1 x2 x3:AObj) (X:Heap),aload none (x0::x1::x2::x3::.arv (some 4) (el (nv false))::X) (.epv (some 4) 4 (d.procs.length+1) i 2)=some (P5 false):=fun x0 x1 x2 x3 X=>by
  have e:AV.part deep (nv false) 2 none=some (P5 false):=by rw[hnv];rfl
  grind [aload]
 have hse:∀(x0 x1 x2 x3:AObj) (X:Heap),zH none 0 (x0::x1::x2::x3::.arv (some 4) (el (nv false))::X) [.epv (some 4) 4 (d.procs.length+1) i 2,P5 b]=some (.undef,x0::x1::x2::x3::.arv (some 4) (el (nv b))::X):=fun x0 x1 x2 x3 X=>by
  have e:AV.upd deep (nv false) 2 none (P5 b)=some (nv b):=by rw[hnv];rfl
  simp_all[zH,astore,AV.plain,AV.shp]
 have hs2:∀(x0:AObj) (X:Heap),zH (some 2) 0 (x0::.box (some 2) dN::X) [.ptr 1 0,dN]=some (.undef,x0::.box (some 2) dN::X):=fun x0 X=>by
  rw[hdN];simp[zH,astore,AV.plain,AV.shp,AV.own,zR,YI,total,Sh.size]
 have hr:∀(x0:AObj) (X:Heap),Yn ⟨[(8,.ptr 1 0),(9,P4 0)],x0::.box (some 2) dN::X⟩ (8,some (some 2))=some dN:=fun x0 X=>by
  simp[Yn,Fr.look,aload]
 have fin:∀(x0 x1 x2 x3:AObj),DbA ⟨d.next,d.procs.take i++(⟨s,a,b,[]⟩:Prc)::d.procs.drop i⟩ dN (x0::x1::x2::x3::.arv (some 4) (el (nv b))::(cEs d.procs 10++[.arv (some 4) [nv false]])):=fun x0 x1 x2 x3=>by
  have hpl:(d.procs.take i++(⟨s,a,b,[]⟩:Prc)::d.procs.drop i).length=d.procs.length+1:=by grind
  refine⟨4,d.procs.length+1,el (nv b),d.procs.take i++(⟨s,a,b,[]⟩:Prc)::d.procs.drop i,?_,rfl,hell _,by grind,hpl,ZW,fun j q v hq hv2=> ?_⟩
  ·grind
  ·have hE:∀(k:Nat) (x:Prc),d.procs[k]? =some x->ElP x (pA x (10+6*k)) (x0::x1::x2::x3::AObj.arv (some 4) (el (nv b))::(cEs d.procs 10++[.arv (some 4) [nv false]])):=fun k x hx=>by
    refine .inr ⟨_,rfl,.inr ⟨10+6*k,x.cls.length,Sto.pvs x.cls,false,rfl,?_,Sto.pvs_len _,Zc _,Zl (by grind [Sto.pvs_len])⟩⟩
    grind [xz,ZZ]
   have hlp:(d.procs.take i).length=i:=by grind
   rw[hel] at hv2;have hv3:((elsA d.procs 10 d.procs.length).take i++nv b::(elsA d.procs 10 d.procs.length).drop i)[j]? =some v:=hv2;rcases Nat.lt_trichotomy j i with k|k|k
   ·rw[ZZ (by omega),ZT,Zj k] at hq hv3;rw[Xs hq] at hv3
    grind
   ·subst k;rw[ZD (by omega),hlp,Nat.sub_self] at hq;rw[ZD (by omega),hli,Nat.sub_self] at hv3;cases hq;cases hv3;rw[hnv];exact .inr ⟨.tsl (some 9) [],rfl,.inl rfl⟩
   ·rw[ZD (by omega),hlp,show j - i=(j - i - 1)+1 by omega,zA,ZQ] at hq;rw[ZD (by omega),hli,show j - i=(j - i - 1)+1 by omega,zA,ZQ] at hv3;rw[Xs hq] at hv3
    grind
 have hfr:∀(d':Dbs) (H:Heap),DbA d' dN H->Am.frozen (.tuple [d'.av,P4 0]) (.tuple [dN,P4 0]) H:=fun d' H hD=>by
  obtain⟨H',hz⟩:=hD.frz;have e3:∀X,AV.freeze deep (P4 0) X=some (.int .i64 0,X):=fun _=>rfl;have hsh:dN.shp=some 2:=by rw[hdN];rfl
  refine⟨H',?_⟩;simp only[AV.freezeRes,zZ,hz,e3,hsh];rfl
 simp -dsimp -implicitDefEqProofs only[go_sem,seval,Dbs.av,YC,Prc.pvs_len,h1,h2,h3,h4,hl',hpt,hbu,op_bslov,hbs,hpr,hsf,hs2,hst,hnil,hpt2,hia,hfa,hld,hse,hr]
 grind [X6,Dbs.av]
def Y8(d:Dbs)(s:List UInt8)(a:Int)(b:Bool):Dbs × Int:=
 if okD d=false\/namB (keyP s a)=false then(Y7,1)
 else match fnD d.procs (keyP s a),d.procs[lbD d.procs (keyP s a)]? with
 |true,some p=>(⟨d.next,d.procs.set (lbD d.procs (keyP s a)) (dynP p b)⟩,0)
 |_,_=>if d.procs.length=500 then(Y7,13)
  else(⟨d.next,d.procs.take (lbD d.procs (keyP s a))++(⟨s,a,b,[]⟩:Prc)::d.procs.drop (lbD d.procs (keyP s a))⟩,0)
theorem Ju{ps:List Prc}{k:Prc}(h:fnD ps k=true):∃p,ps[lbD ps k]? =some p:=by
 cases e:ps[lbD ps k]? with
 |some p=>exact⟨p,rfl⟩
 |none=>simp[fnD,e] at h
theorem NK(d:Dbs)(hb:BndD d)(s:List UInt8)(a:Int)(b:Bool)(hp:Heap):S 116 [d.av,P6 s,P4 a,P5 b] hp=some (.ret (.tuple [(Y8 d s a b).1.av,.pv none (.int .i64 (Y8 d s a b).2)]),hp):=by
 by_cases h:okD d=false\/namB (keyP s a)=false
 ·rw[NG d hb s a b h hp];simp only[Y8,Zj h]
 ·have hv:okD d=true:=by cases e:okD d with|true=>rfl|false=>exact absurd (Or.inl e) h
  have hn:namB (keyP s a)=true:=by cases e:namB (keyP s a) with|true=>rfl|false=>exact absurd (Or.inr e) h
  cases hf:fnD d.procs (keyP s a) with
  |true=>
   obtain⟨p,hpp⟩:=Ju hf;rw[NI d hb s a b hv hn hf p _ rfl hpp hp];simp only[Y8,Zb h,hf,hpp]
  |false=>
   by_cases hl:d.procs.length=500
   ·rw[NH d hb s a b hv hn hf hl hp];simp only[Y8,Zb h,hf,Zj hl]
   ·rw[NJ d hb s a b hv hn hf _ rfl hl hp];simp only[Y8,Zb h,hf,Zb hl]
def ids(l:List Prc):List Int:=l.flatMap fun p=>p.cls.map (·.id)
theorem gL(A B:List Prc):ids (A++B)=ids A++ids B:=by simp[ids]
theorem Qe(p:Prc)(B:List Prc):ids (p::B)=p.cls.map (·.id)++ids B:=by simp[ids]
theorem mem_ids{l:List Prc}{x:Int}:x∈ids l↔∃p∈l,∃s∈p.cls,s.id=x:=by simp[ids]
def okS(next:Int)(p:Prc)(s:Sto):Prop:=1<=s.id/\s.id<next/\okC s.cl=true/\s.cl.head.name=p.name/\(s.cl.head.args.length:Int)=p.ar
theorem gM(next:Int)(p:Prc)(seen:List Int)(s:Sto):okSt next p seen s=true↔s.id ∉ seen/\okS next p s:=by
 grind [okSt,okS]
theorem VL(next:Int)(p:Prc):∀(l:List Sto) (seen s':List Int),okSs next p seen l=some s'↔s'=seen++l.map (·.id)/\(l.map (·.id)).Nodup/\(∀x∈l,x.id ∉ seen)/\∀s∈l,okS next p s
 |[],seen,s'=>by grind [okSs]
 |s::r,seen,s'=>by
  rw[okSs];by_cases h:okSt next p seen s=true
  ·rw[Zj h,VL next p r]
   grind [gM]
  grind [gM]
def OkP(next:Int)(l:List Prc):Prop:=(∀p∈l,namB p=true)/\l.Pairwise (fun a b=>ordP a b<0)/\(ids l).Nodup/\∀p∈l,∀s∈p.cls,okS next p s
theorem gN(next:Int):∀(l:List Prc) (q:Option Prc) (seen:List Int),okPs next q seen l=true->OkP next l/\(∀p,l.head? =some p->preB q p=true)/\∀x∈ids l,x ∉ seen
 |[],q,seen,_=>⟨⟨fun p h=>(by cases h),List.Pairwise.nil,List.nodup_nil,fun p h=>(by cases h)⟩,fun p h=>(by cases h),fun x h=>(by cases h)⟩
 |x::r,q,seen,h=>by
  rw[okPs,Zk,Zk] at h;obtain⟨h1,h2,h3⟩:=h;split at h3
  ·cases h3
  ·rename_i s' hs;obtain⟨rfl,e2,e3,e4⟩:=(VL ..).1 hs;obtain⟨⟨g1,g2,g3,g4⟩,g5,g6⟩:=gN next r (some x) _ h3
   have hx:∀b∈r,ordP x b<0:=by
    intro b hb;cases r with
    |nil=>cases hb
    |cons y r'=>
     have h0:ordP x y<0:=zj (g5 y rfl)
     grind [VH,zp]
   refine⟨⟨fun p hp=> ?_,zp.2 ⟨hx,g2⟩,?_,fun p hp=> ?_⟩,fun p hp=>by grind,fun y hy=> ?_⟩
   ·grind
   ·grind [Qe]
   ·grind
   grind [Qe]
theorem gO(next:Int):∀(l:List Prc) (q:Option Prc) (seen:List Int),OkP next l->(∀p,l.head? =some p->preB q p=true)->(∀x∈ids l,x ∉ seen)->okPs next q seen l=true
 |[],q,seen,_,_,_=>rfl
 |x::r,q,seen,⟨h1,h2,h3,h4⟩,h5,h6=>by
  rw[okPs,h1 x ZG,h5 x rfl];rw[Qe,List.nodup_append] at h3;obtain⟨k1,k2⟩:=zp.1 h2;have hs:okSs next x seen x.cls=some (seen++x.cls.map (·.id)):=(VL ..).2 ⟨rfl,h3.1,fun u hu=>h6 u.id (by grind [Qe]),h4 x ZG⟩
  rw[hs];simp only[Bool.true_and];refine gO next r (some x) _ ⟨fun p hp=>h1 p (Zw _ hp),k2,h3.2.1,fun p hp=>h4 p (Zw _ hp)⟩ (fun p hp=> ?_) fun y hy hm=> ?_
  ·exact Z1 (k1 p (List.mem_of_mem_head? (by grind)))
  grind [Qe]
theorem yw(d:Dbs):okD d=true↔1<=d.next/\d.next<=4294967296/\d.procs.length<=500/\totD d.procs<=500/\OkP d.next d.procs:=by
 simp only[okD,Zk,ZN];constructor
 ·grind [gN]
 ·rintro⟨a,b,c,e,f⟩;exact⟨a,b,c,e,gO _ _ _ _ f (fun _ _=>rfl) fun _ _ h=>by cases h⟩
theorem OkP.mono{n n':Int}{l:List Prc}(h:OkP n l)(hn:n<=n'):OkP n' l:=⟨h.1,h.2.1,h.2.2.1,fun p hp s hs=>by
 obtain⟨a,b,c⟩:=h.2.2.2 p hp s hs;exact⟨a,by omega,c⟩⟩
theorem QR(next:Int)(A B:List Prc)(q:Prc):OkP next (A++q::B)↔OkP next (A++B)/\namB q=true/\(∀a∈A,ordP a q<0)/\(∀b∈B,ordP q b<0)/\(q.cls.map (·.id)).Nodup/\(∀s∈q.cls,s.id ∉ ids (A++B))/\∀s∈q.cls,okS next q s:=by
 have hperm:(ids (A++q::B)).Perm (q.cls.map (·.id)++ids (A++B)):=by
  grind [gL,Qe]
 unfold OkP;rw[hperm.nodup_iff,List.nodup_append,List.pairwise_append,List.pairwise_append,zp];constructor
 ·grind
 grind
theorem Jv{p q p' q':Prc}(h1:p.name=p'.name)(h2:p.ar=p'.ar)(h3:q.name=q'.name)(h4:q.ar=q'.ar):ordP p q=ordP p' q':=by
 grind [ordP]
theorem gP:∀a b:List UInt8,Op.bytesLess a b=false->a≠b->Op.bytesLess b a=true
 |[],[],_,h=>absurd rfl h
 |[],_::_,h,_=>by grind [Op.bytesLess]
 |_::_,[],_,_=>rfl
 |x::a,y::b,h,hne=>by
  simp only[Op.bytesLess,Bool.or_eq_false_iff,Bool.and_eq_false_iff,Bool.or_eq_true,Zk,ZN,decide_eq_false_iff_not,beq_iff_eq,beq_eq_false_iff_ne] at h ⊢;obtain⟨h1,h2⟩:=h;by_cases e:x=y
  ·subst e;rcases h2 with h2|h2
   ·grind
   ·exact .inr ⟨rfl,gP a b h2 fun e=>hne (by rw[e])⟩
  grind
theorem NL{p q:Prc}(h1:¬ordP p q<0)(h2:ordP p q≠0):ordP q p<0:=by
 rw[gq] at h1 ⊢
 grind [ordP_zero,gP]
theorem VM{l:List Prc}(h:l.Pairwise (fun a b=>ordP a b<0)):IncP l:=fun i j a b hij ha hb=>by
 grind [List.pairwise_iff_getElem]
theorem NM{l:List Prc}(k:Prc)(h:l.Pairwise (fun a b=>ordP a b<0)):(∀a∈l.take (lbD l k),ordP a k<0)/\∀b∈l.drop (lbD l k),¬ordP b k<0:=by
 have hi:=VM h;constructor
 ·intro a ha;obtain⟨j,hj⟩:=ZO.1 ha;rw[ZT] at hj;split at hj
  ·rename_i hlt;exact(qm hi hj).2 hlt
  grind
 ·intro b hb;obtain⟨j,hj⟩:=ZO.1 hb;rw[ZQ] at hj;intro hlt;have:=(qm hi hj).1 hlt;omega
theorem VN{l:List Prc}(k:Prc)(h:l.Pairwise (fun a b=>ordP a b<0)):fnD l k=true↔∃p∈l,ordP p k=0:=by
 have hi:=VM h;constructor
 ·grind [fnD]
 ·rintro⟨p,hp,e⟩;obtain⟨j,hj⟩:=ZO.1 hp;have h1:¬j<lbD l k:=fun hlt=>by
   have:=(qm hi hj).2 hlt;omega
  have h2:¬lbD l k<j:=fun hlt=>by
   have hl:lbD l k<l.length:=by
    grind
   have hx:=hi _ j _ p hlt (Ze hl) hj;have hz:=ordP_zero.1 e;have hx':ordP l[lbD l k] k<0:=by
    grind [Jv]
   have:=(qm hi (Ze hl)).1 hx';omega
  grind [fnD]
theorem NN{l:List Prc}{k p:Prc}(h:l.Pairwise (fun a b=>ordP a b<0))(hp:p∈l)(e:ordP p k=0):l[lbD l k]? =some p:=by
 have hi:=VM h;have hf:=(VN k h).2 ⟨p,hp,e⟩;obtain⟨q,hq⟩:=Ju hf;have e2:ordP q k=0:=by
  grind [fnD]
 obtain⟨j,hj⟩:=ZO.1 hp;have z1:=ordP_zero.1 e;have z2:=ordP_zero.1 e2;have e0:ordP p q=0:=ordP_zero.2 ⟨z1.1.trans z2.1.symm,z1.2.trans z2.2.symm⟩;have e1:ordP q p=0:=ordP_zero.2 ⟨z2.1.trans z1.1.symm,z2.2.trans z1.2.symm⟩;rcases Nat.lt_trichotomy j (lbD l k) with hlt|hlt|hlt
 ·have:=hi _ _ _ _ hlt hj hq;omega
 ·grind
 ·have:=hi _ _ _ _ hlt hq hj;omega
theorem gQ{d:Dbs}(hv:okD d=true)(s:List UInt8)(a:Int)(p:Prc):Y3 d s a=some p↔p∈d.procs/\p.name=s/\p.ar=a:=by
 have hpw:=((yw d).1 hv).2.2.2.2.2.1;unfold Y3;rw[Zj hv];constructor
 ·intro h;split at h
  ·rename_i hf;refine⟨Zh h,?_⟩;unfold fnD at hf;rw[h] at hf;exact ordP_zero.1 (zj hf)
  grind
 grind [keyP,ordP_zero,VN,NN]
end Go.Proofs.YtgedfopkiebjkaaGreatDoor
