/- What is proved: db.Valid. -/
import Derived.Test.YtkkppaoehnpboaaGreatDoorDb1
import Derived.Test.YtkkppaoehnpboaaGreatDoorCl
set_option linter.unusedSimpArgs false
set_option linter.unusedVariables false
namespace Go.Proofs.YtkkppaoehnpboaaGreatDoor
open Go.Am
def yg(l:List Int):List (Int × PV):=l.map fun v=>(v,.int .i64 1)
theorem GI(v:Int)(l:List Int):yr v (yg l)=if v∈l then some (.int .i64 1) else none:=by
 induction l with
 |nil=>rfl
 |cons x r ih=>
  show yr v ((x,.int .i64 1)::yg r)=_;rw[yr,ih];by_cases h:x=v
  ·subst h;simp
  ·have h':¬v=x:=fun e=>h e.symm;simp[h,h']
theorem Vf(v:Int):∀(l:List Int),v ∉ l->mPut v (.int .i64 1) (yg l)=yg (l++[v])
 |[],_=>rfl
 |x::r,h=>by
  have h':¬x=v:=fun e=>h (by rw[e];exact ZT);have ih:=Vf v r fun hm=>h (Zy _ hm);show mPut v (.int .i64 1) ((x,.int .i64 1)::yg r)=_;rw[mPut,Za h',ih];rfl
def namB(p:Prc):Bool:=decide (p.name.length<=100) && (decide (0<=p.ar) && decide (p.ar<=8))
def okSt(next:Int)(p:Prc)(seen:List Int)(s:Sto):Bool:=decide (1<=s.id) && (decide (s.id<next) && (decide (s.id ∉ seen) && (okC s.cl && (decide (s.cl.head.name=p.name) && decide ((s.cl.head.args.length:Int)=p.ar)))))
def okSs(next:Int)(p:Prc):List Int->List Sto->Option (List Int)
 |seen,[]=>some seen
 |seen,s::r=>if okSt next p seen s=true then okSs next p (seen++[s.id]) r else none
def preB:Option Prc->Prc->Bool
 |none,_=>true
 |some q,p=>decide (ordP q p<0)
def okPs(next:Int):Option Prc->List Int->List Prc->Bool
 |_,_,[]=>true
 |q,seen,p::r=>namB p && (preB q p && match okSs next p seen p.cls with
  |none=>false
  |some s=>okPs next (some p) s r)
def okD(d:Dbs):Bool:=decide (1<=d.next) && (decide (d.next<=4294967296) && (decide (d.procs.length<=500) && (decide (totD d.procs<=500) && okPs d.next none [] d.procs)))
theorem QX{l:List Prc}{p:Prc}(h:p∈l):p.cls.length<=totD l:=by
 induction l with
 |nil=>cases h
 |cons x r ih=>
  have e:totD (x::r)=x.cls.length+totD r:=by simp[totD]
  rcases Zl.1 h with rfl|h
  ·omega
  ·have:=ih h;omega
theorem jm{α:Type}{l:List α}{i:Nat}{x:α}(h:l[i]? =some x):l.drop i=x::l.drop (i+1):=by
 have hlt:=(Zb.1 h).1;rw[zC hlt,(Zb.1 h).2]
def vM(d:Dbs)(m:List (Int × PV)):Heap:=[.box (some 2) (.pv (some 2) d.pv),.map none (YM m)]
def vH(d:Dbs)(seen:List Int):Heap:=vM d (yg seen)
theorem yZ(s:Sto):PV.part deep s.pv 3 none=some (.str s.cl.head.name):=by
 cases s with|mk i c=>cases c with|mk h b=>cases h;rfl
theorem Xf(s:Sto):PV.part deep s.pv 4 none=some (.sl (some 4) (Tm.pvs s.cl.head.args)):=by
 cases s with|mk i c=>cases c with|mk h b=>cases h;rfl
theorem jo{m:List (Int × PV)}{hp:Heap}{r:Nat}{s:Sh}{v:Int}(h:hp[r]? =some (.map none (YM m))):yh false none (O5 0) false hp [.map r,.pv s (.int .i64 v)]=some (match yr v m with|some x=>.pv none x|none=>O5 0):=by
 have hf:=kT v m;cases hm:yr v m with
 |none=>rw[hm] at hf;exact Gd h hf
 |some x=>rw[hm] at hf;exact Gc h hf
set_option maxRecDepth 20000 in
theorem X1(d:Dbs)(hl:d.procs.length<1000000000)(ht:totD d.procs<1000000000)(hz:∀p∈d.procs,∀s∈p.cls,s.cl.head.size<100000000/\s.cl.body.size<100000000)(hp:Heap):S 23 [d.av] hp=some (.ret (O6 (okD d)),hp):=by
 refine Ya rfl rfl rfl (z8 [(some 2,d.pv)]) rfl ?_;have h1:=fun hp=>GH d hl ht hp;simp only[Dbs.av] at h1;by_cases b1:d.next<1
 ·have e:okD d=false:=by
   have:¬1<=d.next:=by omega
   simp[okD,this]
  rw[e];simp -dsimp -implicitDefEqProofs only[go_sem,seval,Dbs.av,YH,YB,b1,Prc.pvs_len]
  done
 by_cases b2:4294967296<d.next
 ·have e:okD d=false:=by
   have:¬d.next<=4294967296:=by omega
   simp[okD,this]
  rw[e];simp -dsimp -implicitDefEqProofs only[go_sem,seval,Dbs.av,YH,YB,b1,b2,Prc.pvs_len]
  done
 by_cases b3:(500:Int)<(d.procs.length:Int)
 ·have e:okD d=false:=by
   have:¬d.procs.length<=500:=by omega
   simp[okD,this]
  rw[e];simp -dsimp -implicitDefEqProofs only[go_sem,seval,Dbs.av,YH,YB,b1,b2,b3,Prc.pvs_len]
  done
 by_cases b4:(500:Int)<(totD d.procs:Int)
 ·have e:okD d=false:=by
   have:¬totD d.procs<=500:=by omega
   simp[okD,this]
  rw[e];simp -dsimp -implicitDefEqProofs only[go_sem,seval,Dbs.av,YH,YB,b1,b2,b3,b4,h1,Prc.pvs_len]
  done
 obtain⟨R,hR⟩:∃R,R=okPs d.next none [] d.procs:=⟨_,rfl⟩
 have e:okD d=R:=by
  have c1:1<=d.next:=by omega
  have c2:d.next<=4294967296:=by omega
  have c3:d.procs.length<=500:=by omega
  have c4:totD d.procs<=500:=by omega
  rw[hR];simp[okD,c1,c2,c3,c4]
 rw[e];simp -dsimp -implicitDefEqProofs only[go_sem,seval,Dbs.av,YH,YB,b1,b2,b3,b4,h1,Prc.pvs_len];refine Yy (α:=List Int) d.procs.length (fun i seen=>R=okPs d.next (if i=0 then none else d.procs[i - 1]?) seen (d.procs.drop i)) (fun i seen=>⟨[(1,.ptr 0 0),(3,.map 1),(4,O6 true),(30,.pv none (.sl (some 4) (Prc.pvs d.procs))),(31,O5 d.procs.length),(32,O5 i)],vH d seen⟩) [] ⟨by rw[hR];rfl,rfl⟩ ?_ ?_
 ·rintro i seen h hinv;have hc:(i:Int)<(d.procs.length:Int):=by omega
  have w1:=O0 i (by omega)
  obtain⟨p,hpp⟩:∃p,d.procs[i]? =some p:=⟨_,Zf h⟩;have hpm:=Zj hpp;have hpl:=QX hpm;have h2:=fun hp=>q6 p.name p.ar hp;rw[jm hpp,okPs] at hinv;have hvl:(vH d seen).length=2:=rfl;have hg0:∀X,(vH d seen++X)[0]? =some (.box (some 2) (.pv (some 2) d.pv)):=fun _=>rfl;obtain⟨V,hV⟩:∃V,V=vH d seen:=⟨_,rfl⟩;rw[<-hV] at hvl hg0 ⊢;have h2:∀hp,S 46 [O7 p.name,O5 p.ar] hp=some (.ret (O6 (namB p)),hp):=h2;by_cases nb:namB p=true
  rotate_left
  ·have nb':namB p=false:=by simpa using nb
   have hR0:R=false:=by rw[hinv,nb'];rfl
   rw[nb'] at h2;rw[hR0];simp -dsimp -implicitDefEqProofs only[go_sem,seval,hc,w1,Yc (Prc.pvs_get hpp),YP,YR,h2,hvl,hg0,z7 (Ze _),getN hvl,YY hvl,setN hvl,yq hvl]
   done
  rw[nb,Bool.true_and] at hinv;rw[nb] at h2;have hcase:(¬0<(i:Int)/\preB (if i=0 then none else d.procs[i - 1]?) p=true)\/∃q,0<(i:Int)/\Yq (some 4) [.pv none (.sl (some 4) (Prc.pvs d.procs)),O5 (IntKind.i64.wrap ((i:Int) - 1))]=some (.iptr (some 4) q.pv 0)/\(∀hp,S 47 [.pv (some 4) q.pv,.pv (some 4) p.pv] hp=some (.ret (O5 (ordP q p)),hp))/\preB (if i=0 then none else d.procs[i - 1]?) p=decide (ordP q p<0):=by
   by_cases i0:i=0
   ·left;refine⟨by omega,?_⟩;rw[Zd i0];rfl
   ·right;obtain⟨q,hq⟩:∃q,d.procs[i - 1]? =some q:=⟨_,Zf (by omega)⟩;have w3:IntKind.i64.wrap ((i:Int) - 1)=((i - 1:Nat):Int):=by rw[Yh (by omega) (by omega)];omega
    refine⟨q,by omega,by rw[w3];exact Yc (Prc.pvs_get hq),fun hp=>GG q p hp,?_⟩;rw[Za i0,hq];rfl
  have hbad:∀q:Prc,preB (if i=0 then none else d.procs[i - 1]?) p=decide (ordP q p<0)->0<=ordP q p->R=false:=fun q h1 h2=>by
   rw[hinv,h1,Z1 (by omega)];rfl
  have hgood:preB (if i=0 then none else d.procs[i - 1]?) p=true->R=match okSs d.next p seen p.cls with|none=>false|some s=>okPs d.next (some p) s (d.procs.drop (i+1)):=fun h1=>by
   rw[hinv,h1,Bool.true_and]
  rcases hcase with⟨i0,hpb⟩|⟨q,i0,hia,hoq,hpb⟩
  rotate_left
  ·by_cases ho:0<=ordP q p
   ·rw[hbad q hpb ho];simp -dsimp -implicitDefEqProofs only[go_sem,seval,hc,w1,i0,hia,hoq,ho,Yc (Prc.pvs_get hpp),YP,YR,YB,h2,hvl,hg0,z7 (Ze _),getN hvl,YY hvl,setN hvl,yq hvl]
    done
   have hRR:=hgood (by rw[hpb];exact ZG (by omega));simp -dsimp -implicitDefEqProofs only[go_sem,seval,hc,w1,i0,hia,hoq,ho,Yc (Prc.pvs_get hpp),YP,YR,yd,YB,Sto.pvs_len,h2,hvl,hg0,z7 (Ze _),getN hvl,YY hvl,setN hvl,yq hvl];clear hinv hbad hgood h1 h2;have hV2:V=vH d seen:=hV;rw[hV2];refine Yy (α:=List Int) p.cls.length (fun k sn=>okSs d.next p seen p.cls=okSs d.next p sn (p.cls.drop k)) (fun k sn=>⟨[(1,.ptr 0 0),(3,.map 1),(4,O6 true),(6,.ptr 2 0),(30,.pv none (.sl (some 4) (Prc.pvs d.procs))),(31,O5 d.procs.length),(32,O5 i),(59,.pv none (.sl (some 9) (Sto.pvs p.cls))),(60,O5 p.cls.length),(61,O5 k)],[.box (some 2) (.pv (some 2) d.pv),.map none (YM (yg sn)),.box (some 4) (.pv (some 4) p.pv),.arr (some 9) [] false]⟩) seen ⟨rfl,rfl⟩ ?_ ?_
   ·rintro k sn hk hin;have hck:(k:Int)<(p.cls.length:Int):=by omega
    have wk:=O0 k (by omega)
    obtain⟨s,hs⟩:∃s,p.cls[k]? =some s:=⟨_,Zf hk⟩;obtain⟨zs1,zs2⟩:=hz p hpm s (Zj hs);have h3:=fun hp=>GF s.cl zs1 zs2 hp;simp only[Cz.av] at h3;rw[jm hs,okSs] at hin;obtain⟨c,hcc⟩:∃c:Int,c=if s.id∈sn then 1 else 0:=⟨_,rfl⟩
    have hc01:c=0\/c=1:=by rw[hcc];split <;> simp
    have wc:IntKind.i64.wrap (c+1)=c+1:=Yh (by omega) (by omega);obtain⟨m2,hm2⟩:∃m2,m2=mPut s.id (.int .i64 (c+1)) (yg sn):=⟨_,rfl⟩;have hl1:∀X,yh false none (O5 0) false (.box (some 2) (.pv (some 2) d.pv)::.map none (YM (yg sn))::X) [.map 1,O5 s.id]=some (O5 c):=fun X=>by
     rw[jo (m:=yg sn) rfl,GI,hcc];by_cases hm:s.id∈sn
     ·rw[Zd hm,Zd hm]
     ·rw[Za hm,Za hm]
    have hl2:∀X,yh false none (O5 0) false (.box (some 2) (.pv (some 2) d.pv)::.map none (YM m2)::X) [.map 1,O5 s.id]=some (O5 (c+1)):=fun X=>by
     rw[jo (m:=m2) rfl,hm2,kU,Zd rfl]
    have hms:∀X,Xt false none (.box (some 2) (.pv (some 2) d.pv)::.map none (YM (yg sn))::X) [.map 1,O5 s.id,O5 (c+1)]=some (.undef,.box (some 2) (.pv (some 2) d.pv)::.map none (YM m2)::X):=fun X=>by
     rw[kE (es:=YM (yg sn)) rfl (jj _ _ _),<-hm2];rfl
    have hbadS:okSt d.next p sn s=false->R=false:=fun h=>by
     rw[hRR,hin,h];rfl
    by_cases a1:s.id<1
    ·rw[hbadS (by unfold okSt;rw[Z1 (by omega)];rfl)];simp -dsimp -implicitDefEqProofs only[go_sem,seval,hck,wk,wc,a1,Yc (Sto.pvs_get hs),YT,hl1,hl2,hms,YH,z7 (Ze _)]
     done
    by_cases a2:d.next<=s.id
    ·rw[hbadS (by unfold okSt;rw[ZG (by omega),Z1 (show ¬s.id<d.next by omega)];rfl)];simp -dsimp -implicitDefEqProofs only[go_sem,seval,hck,wk,wc,a1,a2,Yc (Sto.pvs_get hs),YT,yJ,yZ,Xf,YP,YR,Tm.pvs_len,hl1,hl2,hms,YH,z7 (Ze _)]
     done
    have p1:decide (1<=s.id)=true:=ZG (by omega);have p2:decide (s.id<d.next)=true:=ZG (by omega);by_cases a3:s.id∈sn
    ·have hc1:c=1:=by rw[hcc,Zd a3]
     have a3':1<c+1:=by omega
     rw[hbadS (by unfold okSt;rw[p1,p2,Z1 (by simpa using a3)];rfl)];simp -dsimp -implicitDefEqProofs only[go_sem,seval,hck,wk,wc,a1,a2,a3',Yc (Sto.pvs_get hs),YT,yJ,yZ,Xf,YP,YR,Tm.pvs_len,hl1,hl2,hms,YH,z7 (Ze _)]
     done
    have hc0:c=0:=by rw[hcc,Za a3]
    have a3':¬1<c+1:=by omega
    have p3:decide (s.id ∉ sn)=true:=ZG a3;cases a4:okC s.cl with
    |false=>
     rw[hbadS (by unfold okSt;rw[p1,p2,p3,a4];rfl)];rw[a4] at h3;simp -dsimp -implicitDefEqProofs only[go_sem,seval,hck,wk,wc,a1,a2,a3',h3,Yc (Sto.pvs_get hs),YT,yJ,yZ,Xf,YP,YR,Tm.pvs_len,hl1,hl2,hms,YH,z7 (Ze _)]
     done
    |true=>
    rw[a4] at h3;by_cases a5:s.cl.head.name=p.name
    rotate_left
    ·rw[hbadS (by unfold okSt;rw[p1,p2,p3,a4,Z1 a5];rfl)];have a5':=Zp a5;simp -dsimp -implicitDefEqProofs only[go_sem,seval,hck,wk,wc,a1,a2,a3',h3,a5',Yc (Sto.pvs_get hs),YT,yJ,yZ,Xf,YP,YR,Tm.pvs_len,hl1,hl2,hms,YH,z7 (Ze _)]
     done
    have a5':=Zn a5;by_cases a6:(s.cl.head.args.length:Int)=p.ar
    rotate_left
    ·rw[hbadS (by unfold okSt;rw[p1,p2,p3,a4,ZG a5,Z1 a6];rfl)];have a6':=Zp a6;simp -dsimp -implicitDefEqProofs only[go_sem,seval,hck,wk,wc,a1,a2,a3',h3,a5',a6',Yc (Sto.pvs_get hs),YT,yJ,yZ,Xf,YP,YR,Tm.pvs_len,hl1,hl2,hms,YH,z7 (Ze _)]
     done
    have a6':=Zn a6;have hok:okSt d.next p sn s=true:=by unfold okSt;rw[p1,p2,p3,a4,ZG a5,ZG a6];rfl
    rw[Zd hok] at hin;have hm3:m2=yg (sn++[s.id]):=by rw[hm2,hc0];exact Vf s.id sn a3
    simp -dsimp -implicitDefEqProofs only[go_sem,seval,hck,wk,wc,a1,a2,a3',h3,a5',a6',Yc (Sto.pvs_get hs),YT,yJ,yZ,Xf,YP,YR,Tm.pvs_len,hl1,hl2,hms,YH,z7 (Ze _)];refine⟨sn++[s.id],hin,?_⟩;rw[hm3];rfl
   ·rintro sn hin;have hck:¬(p.cls.length:Int)<(p.cls.length:Int):=by omega
    rw[zK,okSs] at hin;rw[hin] at hRR;simp -dsimp -implicitDefEqProofs only[go_sem,seval,hck,w1];refine⟨sn,?_,?_⟩
    ·rw[hpp];exact hRR
    ·rfl
  ·have hRR:=hgood hpb;simp -dsimp -implicitDefEqProofs only[go_sem,seval,hc,w1,i0,Yc (Prc.pvs_get hpp),YP,YR,yd,YB,Sto.pvs_len,h2,hvl,hg0,z7 (Ze _),getN hvl,YY hvl,setN hvl,yq hvl];clear hinv hbad hgood h1 h2;have hV2:V=vH d seen:=hV;rw[hV2];refine Yy (α:=List Int) p.cls.length (fun k sn=>okSs d.next p seen p.cls=okSs d.next p sn (p.cls.drop k)) (fun k sn=>⟨[(1,.ptr 0 0),(3,.map 1),(4,O6 true),(6,.ptr 2 0),(30,.pv none (.sl (some 4) (Prc.pvs d.procs))),(31,O5 d.procs.length),(32,O5 i),(59,.pv none (.sl (some 9) (Sto.pvs p.cls))),(60,O5 p.cls.length),(61,O5 k)],[.box (some 2) (.pv (some 2) d.pv),.map none (YM (yg sn)),.box (some 4) (.pv (some 4) p.pv),.arr (some 9) [] false]⟩) seen ⟨rfl,rfl⟩ ?_ ?_
   ·rintro k sn hk hin;have hck:(k:Int)<(p.cls.length:Int):=by omega
    have wk:=O0 k (by omega)
    obtain⟨s,hs⟩:∃s,p.cls[k]? =some s:=⟨_,Zf hk⟩;obtain⟨zs1,zs2⟩:=hz p hpm s (Zj hs);have h3:=fun hp=>GF s.cl zs1 zs2 hp;simp only[Cz.av] at h3;rw[jm hs,okSs] at hin;obtain⟨c,hcc⟩:∃c:Int,c=if s.id∈sn then 1 else 0:=⟨_,rfl⟩
    have hc01:c=0\/c=1:=by rw[hcc];split <;> simp
    have wc:IntKind.i64.wrap (c+1)=c+1:=Yh (by omega) (by omega);obtain⟨m2,hm2⟩:∃m2,m2=mPut s.id (.int .i64 (c+1)) (yg sn):=⟨_,rfl⟩;have hl1:∀X,yh false none (O5 0) false (.box (some 2) (.pv (some 2) d.pv)::.map none (YM (yg sn))::X) [.map 1,O5 s.id]=some (O5 c):=fun X=>by
     rw[jo (m:=yg sn) rfl,GI,hcc];by_cases hm:s.id∈sn
     ·rw[Zd hm,Zd hm]
     ·rw[Za hm,Za hm]
    have hl2:∀X,yh false none (O5 0) false (.box (some 2) (.pv (some 2) d.pv)::.map none (YM m2)::X) [.map 1,O5 s.id]=some (O5 (c+1)):=fun X=>by
     rw[jo (m:=m2) rfl,hm2,kU,Zd rfl]
    have hms:∀X,Xt false none (.box (some 2) (.pv (some 2) d.pv)::.map none (YM (yg sn))::X) [.map 1,O5 s.id,O5 (c+1)]=some (.undef,.box (some 2) (.pv (some 2) d.pv)::.map none (YM m2)::X):=fun X=>by
     rw[kE (es:=YM (yg sn)) rfl (jj _ _ _),<-hm2];rfl
    have hbadS:okSt d.next p sn s=false->R=false:=fun h=>by
     rw[hRR,hin,h];rfl
    by_cases a1:s.id<1
    ·rw[hbadS (by unfold okSt;rw[Z1 (by omega)];rfl)];simp -dsimp -implicitDefEqProofs only[go_sem,seval,hck,wk,wc,a1,Yc (Sto.pvs_get hs),YT,hl1,hl2,hms,YH,z7 (Ze _)]
     done
    by_cases a2:d.next<=s.id
    ·rw[hbadS (by unfold okSt;rw[ZG (by omega),Z1 (show ¬s.id<d.next by omega)];rfl)];simp -dsimp -implicitDefEqProofs only[go_sem,seval,hck,wk,wc,a1,a2,Yc (Sto.pvs_get hs),YT,yJ,yZ,Xf,YP,YR,Tm.pvs_len,hl1,hl2,hms,YH,z7 (Ze _)]
     done
    have p1:decide (1<=s.id)=true:=ZG (by omega);have p2:decide (s.id<d.next)=true:=ZG (by omega);by_cases a3:s.id∈sn
    ·have hc1:c=1:=by rw[hcc,Zd a3]
     have a3':1<c+1:=by omega
     rw[hbadS (by unfold okSt;rw[p1,p2,Z1 (by simpa using a3)];rfl)];simp -dsimp -implicitDefEqProofs only[go_sem,seval,hck,wk,wc,a1,a2,a3',Yc (Sto.pvs_get hs),YT,yJ,yZ,Xf,YP,YR,Tm.pvs_len,hl1,hl2,hms,YH,z7 (Ze _)]
     done
    have hc0:c=0:=by rw[hcc,Za a3]
    have a3':¬1<c+1:=by omega
    have p3:decide (s.id ∉ sn)=true:=ZG a3;cases a4:okC s.cl with
    |false=>
     rw[hbadS (by unfold okSt;rw[p1,p2,p3,a4];rfl)];rw[a4] at h3;simp -dsimp -implicitDefEqProofs only[go_sem,seval,hck,wk,wc,a1,a2,a3',h3,Yc (Sto.pvs_get hs),YT,yJ,yZ,Xf,YP,YR,Tm.pvs_len,hl1,hl2,hms,YH,z7 (Ze _)]
     done
    |true=>
    rw[a4] at h3;by_cases a5:s.cl.head.name=p.name
    rotate_left
    ·rw[hbadS (by unfold okSt;rw[p1,p2,p3,a4,Z1 a5];rfl)];have a5':=Zp a5;simp -dsimp -implicitDefEqProofs only[go_sem,seval,hck,wk,wc,a1,a2,a3',h3,a5',Yc (Sto.pvs_get hs),YT,yJ,yZ,Xf,YP,YR,Tm.pvs_len,hl1,hl2,hms,YH,z7 (Ze _)]
     done
    have a5':=Zn a5;by_cases a6:(s.cl.head.args.length:Int)=p.ar
    rotate_left
    ·rw[hbadS (by unfold okSt;rw[p1,p2,p3,a4,ZG a5,Z1 a6];rfl)];have a6':=Zp a6;simp -dsimp -implicitDefEqProofs only[go_sem,seval,hck,wk,wc,a1,a2,a3',h3,a5',a6',Yc (Sto.pvs_get hs),YT,yJ,yZ,Xf,YP,YR,Tm.pvs_len,hl1,hl2,hms,YH,z7 (Ze _)]
     done
    have a6':=Zn a6;have hok:okSt d.next p sn s=true:=by unfold okSt;rw[p1,p2,p3,a4,ZG a5,ZG a6];rfl
    rw[Zd hok] at hin;have hm3:m2=yg (sn++[s.id]):=by rw[hm2,hc0];exact Vf s.id sn a3
    simp -dsimp -implicitDefEqProofs only[go_sem,seval,hck,wk,wc,a1,a2,a3',h3,a5',a6',Yc (Sto.pvs_get hs),YT,yJ,yZ,Xf,YP,YR,Tm.pvs_len,hl1,hl2,hms,YH,z7 (Ze _)];refine⟨sn++[s.id],hin,?_⟩;rw[hm3];rfl
   ·rintro sn hin;have hck:¬(p.cls.length:Int)<(p.cls.length:Int):=by omega
    rw[zK,okSs] at hin;rw[hin] at hRR;simp -dsimp -implicitDefEqProofs only[go_sem,seval,hck,w1];refine⟨sn,?_,?_⟩
    ·rw[hpp];exact hRR
    ·rfl
 ·rintro seen hinv;have hc:¬(d.procs.length:Int)<(d.procs.length:Int):=by omega
  rw[zK] at hinv;have:R=true:=by rw[hinv];rfl
  rw[this];simp -dsimp -implicitDefEqProofs only[go_sem,seval,hc]
  done
theorem Vg:∀a:List UInt8,Op.bytesLess a a=false
 |[]=>rfl
 |x::r=>by
  have:=Vg r;simp[Op.bytesLess,this]
theorem GJ:∀a b c:List UInt8,Op.bytesLess a b=true->Op.bytesLess b c=true->Op.bytesLess a c=true
 |_,[],_,h,_=>by simp[Op.bytesLess] at h
 |_,_::_,[],_,h=>by simp[Op.bytesLess] at h
 |[],_::_,_::_,_,_=>rfl
 |x::a,y::b,z::c,h1,h2=>by
  simp only[Op.bytesLess,zr,Zg,Zr,beq_iff_eq] at h1 h2 ⊢;rcases h1 with h1|⟨rfl,h1⟩
  ·rcases h2 with h2|⟨rfl,h2⟩
   ·left;rw[UInt8.lt_iff_toNat_lt] at*;omega
   ·exact .inl h1
  ·rcases h2 with h2|⟨rfl,h2⟩
   ·exact .inl h2
   ·exact .inr ⟨rfl,GJ a b c h1 h2⟩
theorem Vh{p q:Prc}:ordP p q<0↔Op.bytesLess p.name q.name=true\/(p.name=q.name/\p.ar<q.ar):=by
 unfold ordP strC intC;cases h:Op.bytesLess p.name q.name with
 |true=>simp
 |false=>
  by_cases hn:p.name=q.name
  ·simp only[hn,Vg];by_cases ha:p.ar<q.ar
   ·simp[ha]
   ·by_cases hb:q.ar<p.ar
    ·simp[ha,hb]
    ·simp[ha,hb]
  ·simp[hn]
theorem Vi{p q r:Prc}(h1:ordP p q<0)(h2:ordP q r<0):ordP p r<0:=by
 rw[Vh] at h1 h2 ⊢;rcases h1 with h1|⟨e1,h1⟩
 ·rcases h2 with h2|⟨e2,h2⟩
  ·exact .inl (GJ _ _ _ h1 h2)
  ·exact .inl (e2▸h1)
 ·rcases h2 with h2|⟨e2,h2⟩
  ·exact .inl (e1▸h2)
  ·exact .inr ⟨e1.trans e2,by omega⟩
theorem ordP_zero{p q:Prc}:ordP p q=0↔p.name=q.name/\p.ar=q.ar:=by
 unfold ordP strC intC;cases h:Op.bytesLess p.name q.name with
 |true=>
  constructor
  ·intro h2;simp at h2
  ·rintro⟨e,_⟩;rw[e,Vg] at h;cases h
 |false=>
  by_cases hn:p.name=q.name
  ·simp only[hn,true_and];by_cases ha:p.ar<q.ar
   ·simp[ha];omega
   ·by_cases hb:q.ar<p.ar
    ·simp[ha,hb];omega
    ·simp[ha,hb];omega
  ·simp[hn]
def lbD(l:List Prc)(q:Prc):Nat:=(l.takeWhile fun p=>decide (ordP p q<0)).length
def fnD(l:List Prc)(q:Prc):Bool:=match l[lbD l q]? with
 |some p=>decide (ordP p q=0)
 |none=>false
def IncP(l:List Prc):Prop:=∀(i j:Nat) (a b:Prc),i<j->l[i]? =some a->l[j]? =some b->ordP a b<0
theorem Vj(l:List Prc)(q:Prc):lbD l q<=l.length:=by
 unfold lbD;exact(List.takeWhile_prefix _).length_le
theorem QY{q:Prc}:∀{l:List Prc} {k:Nat} {x:Prc},IncP l->l[k]? =some x->(ordP x q<0↔k<lbD l q)
 |[],k,x,_,h=>by simp at h
 |y::r,k,x,hi,h=>by
  have hr:IncP r:=fun i j a b hij ha hb=>hi (i+1) (j+1) a b (by omega) (by simpa using ha) (by simpa using hb);unfold lbD;rw[List.takeWhile_cons];by_cases hy:ordP y q<0
  ·rw[Zd (ZG hy),ZF];cases k with
   |zero=>
    simp at h;subst h;exact⟨fun _=>by omega,fun _=>hy⟩
   |succ k=>
    have:=QY (q:=q) hr (k:=k) (x:=x) (by simpa using h);rw[this];unfold lbD;omega
  ·rw[Za (by simpa using hy)];constructor
   ·intro hx;exfalso;cases k with
    |zero=>
     simp at h;subst h;exact hy hx
    |succ k=>exact hy (Vi (hi 0 (k+1) y x (by omega) rfl h) hx)
   ·intro h0;simp at h0
theorem mq(p q:Prc)(hp:Heap):S 65 [p.av,q.av] hp=some (.ret (O5 (ordP p q)),hp):=by
 refine Ya rfl rfl rfl (z8 [(some 4,p.pv),(some 4,q.pv)]) rfl ?_;have h1:=fun hp=>GG p q hp;simp only[Prc.av] at h1;simp -dsimp -implicitDefEqProofs only[go_sem,seval,Prc.av,h1]
 done
theorem mr(l:List Prc)(t:Prc)(hl:l.length<1000000000)(hi:IncP l)(hp:Heap):
  S 64 [.pv none (.sl (some 4) (Prc.pvs l)),.pv (some 4) t.pv,.pv none (.func (.func 65))] hp=some (.ret (.tuple [O5 (lbD l t:Int),O6 (fnD l t)]),hp):=by
 refine Ya rfl rfl rfl (z8 [(none,.sl (some 4) (Prc.pvs l)),(some 4,t.pv),(none,.func (.func 65))]) rfl ?_;have hlb:=Vj l t;have hcmp:∀(x:Prc) hp,S 65 [.pv (some 4) x.pv,.pv (some 4) t.pv] hp=some (.ret (O5 (ordP x t)),hp):=fun x hp=>mq x t hp;simp -dsimp -implicitDefEqProofs only[go_sem,seval,Prc.pvs_len];refine xK (fun n st=>∃i j:Nat,n=j - i/\i<=lbD l t/\lbD l t<=j/\j<=l.length/\st=⟨[(0,.pv none (.sl (some 4) (Prc.pvs l))),(2,.pv none (.func (.func 65))),(4,.ptr 0 0),(8,O5 (l.length:Int)),(9,O5 i),(10,O5 j)],[.box (some 4) (.pv (some 4) t.pv)]⟩) (n:=l.length) ⟨0,l.length,by omega,by omega,hlb,by omega,?_⟩ ?_
 ·simp -dsimp -implicitDefEqProofs only[go_sem,seval]
  try rfl
 ·rintro n st ⟨i,j,hn,h1,h2,h3,rfl⟩;by_cases hij:i<j
  ·have hc:(i:Int)<(j:Int):=by omega
   obtain⟨x,hx⟩:∃x,l[(i+j) / 2]? =some x:=⟨_,Zf (by omega)⟩;have hcall:=hcmp x;have hs:=QY (q:=t) hi hx;have w1:IntKind.i64.wrap ((i:Int)+(j:Int))=((i+j:Nat):Int):=by rw[Yh (by omega) (by omega)];omega
   have w2:IntKind.u64.wrap ((i+j:Nat):Int)=((i+j:Nat):Int):=lV (by omega) (by omega);have w3:IntKind.i64.wrap (((i+j:Nat):Int) / 2)=(((i+j) / 2:Nat):Int):=by rw[Yh (by omega) (by omega)];omega
   have w4:IntKind.i64.wrap ((((i+j) / 2:Nat):Int)+1)=(((i+j) / 2+1:Nat):Int):=by rw[Yh (by omega) (by omega)];omega
   by_cases h0:ordP x t<0
   ·simp -dsimp -implicitDefEqProofs only[go_sem,seval,Prc.pvs_len,hc,uP (show 0<IntKind.bits .u64 by decide),w1,w2,w3,w4,Yc (Prc.pvs_get hx),hcall,h0];refine⟨j - ((i+j) / 2+1),by omega,(i+j) / 2+1,j,rfl,?_,h2,h3,rfl⟩;have:=hs.1 h0;omega
   ·simp -dsimp -implicitDefEqProofs only[go_sem,seval,Prc.pvs_len,hc,uP (show 0<IntKind.bits .u64 by decide),w1,w2,w3,w4,Yc (Prc.pvs_get hx),hcall,h0];refine⟨(i+j) / 2 - i,by omega,i,(i+j) / 2,rfl,h1,?_,by omega,rfl⟩;have:¬(i+j) / 2<lbD l t:=fun h=>h0 (hs.2 h);omega
  ·have hc:¬(i:Int)<(j:Int):=by omega
   obtain rfl:i=lbD l t:=by omega
   by_cases hll:lbD l t<l.length
   ·have hc2:((lbD l t:Nat):Int)<(l.length:Int):=by omega
    obtain⟨x,hx⟩:∃x,l[lbD l t]? =some x:=⟨_,Zf hll⟩;have hcall:=hcmp x;have hf:fnD l t=decide (ordP x t=0):=by unfold fnD;rw[hx]
    simp -dsimp -implicitDefEqProofs only[go_sem,seval,Prc.pvs_len,hc,hc2,Yc (Prc.pvs_get hx),hcall,hf]
   ·have hc2:¬((lbD l t:Nat):Int)<(l.length:Int):=by omega
    have hf:fnD l t=false:=by unfold fnD;rw[zL (by omega)]
    simp -dsimp -implicitDefEqProofs only[go_sem,seval,Prc.pvs_len,hc,hc2,hf]
theorem jp(d:Dbs)(s:List UInt8)(a:Int)(hl:d.procs.length<1000000000)(hi:IncP d.procs)(hp:Heap):S 33 [d.av,O7 s,O5 a] hp=some (.ret (.tuple [O5 (lbD d.procs ⟨s,a,false,[]⟩:Int),O6 (fnD d.procs ⟨s,a,false,[]⟩)]),hp):=by
 refine Ya rfl rfl rfl (z8 [(some 2,d.pv),(none,.str s),(none,.int .i64 a)]) rfl ?_;have hbu:Yi A2 [0,1] [O7 s,O5 a]=some (.agg [(none,O7 s),(none,O5 a),(none,O6 false),(none,.tsl (some 9) [])]):=rfl;have h1:∀hp,S 64 [.pv none (.sl (some 4) (Prc.pvs d.procs)),.agg [(none,O7 s),(none,O5 a),(none,O6 false),(none,.tsl (some 9) [])],.pv none (.func (.func 65))] hp=some (.ret (.tuple [O5 (lbD d.procs ⟨s,a,false,[]⟩:Int),O6 (fnD d.procs ⟨s,a,false,[]⟩)]),hp):=fun hp=>
  XF (F:=find tab) (prim:=prim) (ps:=[(none,.sl (some 4) (Prc.pvs d.procs)),(some 4,(Prc.mk s a false []).pv),(none,.func (.func 65))]) (hp1:=hp) rfl rfl rfl rfl (mr d.procs ⟨s,a,false,[]⟩ hl hi [])
 simp -dsimp -implicitDefEqProofs only[go_sem,seval,Dbs.av,YB,hbu,h1]
 done
theorem GK(next:Int):∀(l:List Prc) (q:Option Prc) (seen:List Int),okPs next q seen l=true->(∀p,l.head? =some p->preB q p=true)/\IncP l
 |[],q,seen,_=>⟨fun p h=>(by cases h),fun i j a b _ h=>(by simp at h)⟩
 |x::r,q,seen,h=>by
  rw[okPs,Zg,Zg] at h;obtain⟨_,h2,h3⟩:=h;split at h3
  ·cases h3
  ·rename_i s' hs;obtain⟨g1,g2⟩:=GK next r (some x) s' h3
   have hx:∀(j:Nat) (b:Prc),r[j]? =some b->ordP x b<0:=by
    intro j b hb;cases r with
    |nil=>simp at hb
    |cons y r'=>
     have h0:=g1 y rfl;have h0':ordP x y<0:=zl h0;cases j with
     |zero=>
      simp at hb;subst hb;exact h0'
     |succ j=>exact Vi h0' (g2 0 (j+1) y b (by omega) rfl hb)
   refine⟨fun p hp=>(by cases hp;exact h2),fun i j a b hij ha hb=> ?_⟩;cases j with
   |zero=>omega
   |succ j=>
    cases i with
    |zero=>
     simp at ha;subst ha;exact hx j b (by simpa using hb)
    |succ i=>exact g2 i j a b (by omega) (by simpa using ha) (by simpa using hb)
def BndD(d:Dbs):Prop:=d.procs.length<1000000000/\totD d.procs<1000000000/\∀p∈d.procs,∀s∈p.cls,s.cl.head.size<100000000/\s.cl.body.size<100000000
theorem jq{d:Dbs}(h:okD d=true):IncP d.procs:=by
 simp only[okD,Zg] at h;exact(GK _ _ _ _ h.2.2.2.2).2
theorem GL(d:Dbs)(hb:BndD d)(hp:Heap):S 14 [d.av] hp=some (.ret (O5 (if okD d=true then(totD d.procs:Int) else 0)),hp):=by
 refine Ya rfl rfl rfl (z8 [(some 2,d.pv)]) rfl ?_;have h1:=fun hp=>X1 d hb.1 hb.2.1 hb.2.2 hp;have h2:=fun hp=>GH d hb.1 hb.2.1 hp;simp only[Dbs.av] at h1 h2;by_cases h:okD d=true
 ·rw[h] at h1;rw[Zd h];simp -dsimp -implicitDefEqProofs only[go_sem,seval,Dbs.av,h1,h2]
 ·have h':okD d=false:=by simpa using h
  rw[h'] at h1;rw[Za h];simp -dsimp -implicitDefEqProofs only[go_sem,seval,Dbs.av,h1,h2]
def Sto.av(s:Sto):AV:=.pv (some 9) s.pv
theorem GM(s:Sto):PV.part deep s.pv 1 (some 4)=some s.cl.head.pv:=by
 cases s with|mk i c=>cases c with|mk h b=>cases h;rfl
theorem GN(s:Sto):PV.part deep s.pv 5 (some 4)=some s.cl.body.pv:=by
 cases s with|mk i c=>cases c with|mk h b=>cases h;cases b;rfl
theorem mt(s:Sto)(vh:s.cl.head.valid=true)(vb:s.cl.body.valid=true)(hp:Heap):S 66 [s.av] hp=some (.ret s.av,hp):=by
 refine Ya rfl rfl rfl (z8 [(some 9,s.pv)]) rfl ?_;have zh:=yb vh;have zb:=yb vb;have h1:=fun hp=>XZ s.cl.head hp vh (by omega);have h2:=fun hp=>XZ s.cl.body hp vb (by omega);have b1:Yi A4 [0,1] [.pv (some 4) s.cl.head.pv,.pv (some 4) s.cl.body.pv]=some (.pv (some 8) s.cl.pv):=rfl;have b2:Yi [(none,O5 0),(some 8,.agg A4)] [0,1] [O5 s.id,.pv (some 8) s.cl.pv]=some (.pv (some 9) s.pv):=rfl;simp only[Tm.av] at h1 h2;simp -dsimp -implicitDefEqProofs only[b1,b2,g66,c66r0,c66r1,c66,go_sem,seval,Sto.av,YT,yJ,GM,GN,h1,h2,z7 (Ze _)]
 done
def okCl(p:Prc):Prop:=∀s∈p.cls,s.cl.head.valid=true/\s.cl.body.valid=true
def pA(p:Prc)(q:Nat):AV:=.agg [(none,O7 p.name),(none,O5 p.ar),(none,O6 p.dyn),(none,.sl (some 9) q p.cls.length 0 p.cls.length)]
def zS:PV:=.agg [(none,.int .i64 0),(some 8,.agg [(some 4,.agg [(none,.int .i64 0),(none,.int .i64 0),(none,.str []),(none,.sl (some 4) [])]),(some 4,.agg [(none,.int .i64 0),(none,.int .i64 0),(none,.str []),(none,.sl (some 4) [])])])]
theorem mu{Γ:Oracle}{b:Nat}{vs:List AV}{hp:Heap}{K:AV->Heap->Prop}{Kp:PV->Heap->Prop}(sh:Sh):opK (aOp Γ b (.copy sh) vs hp) K Kp=YL (xr sh hp vs) K:=by
 show opK (match xr sh hp vs with|some (v,hp')=>some (OpRes.val v hp')|none=>none) K Kp=_;cases xr sh hp vs with
 |none=>rfl
 |some r=>cases r;rfl
theorem GO{α:Type}{l:List α}{i:Nat}{x:α}(h:l[i]? =some x):l.set i x=l:=by
 have hi:=(Zb.1 h);obtain⟨h1,h2⟩:=hi;rw[<-h2,List.set_getElem_self]
theorem GP(p:Prc)(hl:p.cls.length<1000000)(hc:okCl p)(hp:Heap):S 34 [p.av] hp=some (.ret (pA p (hp.length+3)),hp++[.box (some 4) (pA p (hp.length+3)),.box (some 4) (pA p (hp.length+3)),.arr (some 9) [] false,.arr (some 9) (Sto.pvs p.cls) false]):=by
 refine yp rfl rfl rfl rfl ?_;have hpl:=Sto.pvs_len p.cls;have hlim:p.cls.length<=lim:=by unfold lim;omega
 have hmk:∀H:Heap,xu (some 9) zS H [O5 p.cls.length,O5 p.cls.length]=some (.sl (some 9) H.length p.cls.length 0 p.cls.length,H++[.arr (some 9) (List.replicate p.cls.length zS) false]):=fun H=>by
  simp[xu,hlim,xJ]
 have hcp:∀x0 x1 x2:AObj,xr (some 9) (hp++[x0,x1,x2,.arr (some 9) (List.replicate p.cls.length zS) false]) [.sl (some 9) (hp.length+3) p.cls.length 0 p.cls.length,.pv none (.sl (some 9) (Sto.pvs p.cls))]=some (O5 p.cls.length,hp++[x0,x1,x2,.arr (some 9) (Sto.pvs p.cls) false]):=fun x0 x1 x2=>by
  have e:Nat.min p.cls.length p.cls.length=p.cls.length:=Nat.min_self _;have e2:List.take p.cls.length (Sto.pvs p.cls)=Sto.pvs p.cls:=Zu (by omega);simp[xr,elems,getN rfl,setN rfl,hpl,e,e2]
 simp only[zS] at hmk;simp -dsimp -implicitDefEqProofs only[go_sem,seval,Prc.av,yd,hpl,hmk,z7 (Zs _ _)];simp only[zS] at hcp;simp -dsimp -implicitDefEqProofs only[go_sem,seval,Prc.av,yd,hpl,mu,hcp,z7 (Zs _ _)];obtain⟨x1,hx1⟩:∃x1:AObj,x1=.box (some 4) (.agg [(none,O7 []),(none,O5 0),(none,O6 false),(none,.sl (some 9) (hp.length+2) 0 0 0)]):=⟨_,rfl⟩;rw[<-hx1];refine Yy (α:=Unit) p.cls.length (fun _ _=>True) (fun i _=>⟨[(1,.ptr hp.length 0),(2,.ptr (hp.length+1) 0),(3,.sl (some 9) (hp.length+3) p.cls.length 0 p.cls.length),(14,.sl (some 9) (hp.length+3) p.cls.length 0 p.cls.length),(15,O5 p.cls.length),(16,O5 i)],hp++[.box (some 4) (.pv (some 4) p.pv),x1,.arr (some 9) [] false,.arr (some 9) (Sto.pvs p.cls) false]⟩) () ⟨trivial,rfl⟩ ?_ ?_
 ·rintro i - h -;have hcc:(i:Int)<(p.cls.length:Int):=by omega
  have w1:=O0 i (by omega)
  obtain⟨s,hs⟩:∃s,p.cls[i]? =some s:=⟨_,Zf h⟩;obtain⟨vh,vb⟩:=hc s (Zj hs);have h3:=fun hp=>mt s vh vb hp;simp only[Sto.av] at h3;have hia:Yq (some 9) [.sl (some 9) (hp.length+3) p.cls.length 0 p.cls.length,O5 i]=some (.eptr (some 9) (hp.length+3) p.cls.length i 0):=by
   have:=qN (sh:=some 9) (s':=none) (k:=.i64) (r:=hp.length+3) (v:=p.cls.length) (o:=0) h;rw[Zv] at this;exact this
  have hld:∀(x0 x1 x2:AObj) (X:Heap),aload (some 9) (hp++x0::x1::x2::.arr (some 9) (Sto.pvs p.cls) false::X) (.eptr (some 9) (hp.length+3) p.cls.length i 0)=some (.pv (some 9) s.pv):=fun x0 x1 x2 X=>by
   simp[aload,getN rfl,hpl,Sto.pvs_get hs]
  have hst:∀(x0 x1 x2:AObj) (X:Heap),Yb (some 9) hp.length (hp++x0::x1::x2::.arr (some 9) (Sto.pvs p.cls) false::X) [.eptr (some 9) (hp.length+3) p.cls.length i 0,.pv (some 9) s.pv]=some (.undef,hp++x0::x1::x2::.arr (some 9) (Sto.pvs p.cls) false::X):=fun x0 x1 x2 X=>by
   have e:∀H,AV.freeze deep (.pv (some 9) s.pv) H=some (s.pv,H):=fun _=>rfl;have e2:=GO (Sto.pvs_get hs);have hi:i<(Sto.pvs p.cls).length:=by omega
   simp[Yb,astore,AV.shp,e,getN rfl,setN rfl,hpl,hi,h,e2]
  simp -dsimp -implicitDefEqProofs only[go_sem,seval,hcc,w1,hia,hld,hst,h3,z7 (Zs _ _)];refine⟨(),?_⟩;rw[Qq 4 rfl rfl (by simp[hx1,AObj.refs,AV.refsIn,AV.refsIn.go]) (by simp[AV.refsIn])];rfl
 ·rintro - -;have hcc:¬(p.cls.length:Int)<(p.cls.length:Int):=by omega
  have hup:∀(q:Nat),AV.upd deep (.pv (some 4) p.pv) 3 none (.sl (some 9) q p.cls.length 0 p.cls.length)=some (pA p q):=fun q=>rfl;have hs1:∀x1 x2 x3:AObj,Yb none hp.length (hp++[.box (some 4) (.pv (some 4) p.pv),x1,x2,x3]) [.ptr hp.length 3,.sl (some 9) (hp.length+3) p.cls.length 0 p.cls.length]=some (.undef,hp++[.box (some 4) (pA p (hp.length+3)),x1,x2,x3]):=fun x1 x2 x3=>by
   simp[Yb,astore,YY rfl,yq rfl,AV.plain,AV.shp,AV.own,hup]
  have hs2:∀(x0 x2 x3:AObj) (v:AV),Yb (some 4) hp.length (hp++[x0,.box (some 4) v,x2,x3]) [.ptr (hp.length+1) 0,pA p (hp.length+3)]=some (.undef,hp++[x0,.box (some 4) (pA p (hp.length+3)),x2,x3]):=fun x0 x2 x3 v=>by
   simp[Yb,astore,getN rfl,setN rfl,pA,AV.plain,AV.shp,AV.own,Yf,yI,total,Sh.size]
  rw[hx1];simp -dsimp -implicitDefEqProofs only[go_sem,seval,hcc,hs1,hs2];rw[Za (by simp[pA,AV.refsIn,AV.refsIn.go])]
theorem mw{c:Cz}(h:okC c=true):c.head.valid=true/\c.body.valid=true:=by
 simp only[okC,Zg] at h;obtain⟨h1,_,_,h4,_⟩:=h;refine⟨h1,?_⟩;split at h4
 ·rename_i g hg;exact(GE hg).1
 ·cases h4
theorem GQ(next:Int)(p:Prc):∀(l:List Sto) (seen s':List Int),okSs next p seen l=some s'->∀s∈l,okC s.cl=true
 |[],_,_,_,s,hs=>by cases hs
 |x::r,seen,s',h,s,hs=>by
  rw[okSs] at h;split at h
  ·rename_i hx;rcases Zl.1 hs with rfl|hs
   ·simp only[okSt,Zg] at hx;exact hx.2.2.2.1
   ·exact GQ next p r _ s' h s hs
  ·cases h
theorem GR(next:Int):∀(l:List Prc) (q:Option Prc) (seen:List Int),okPs next q seen l=true->∀p∈l,okCl p
 |[],_,_,_,p,hp=>by cases hp
 |x::r,q,seen,h,p,hp=>by
  rw[okPs,Zg,Zg] at h;obtain⟨_,_,h3⟩:=h;split at h3
  ·cases h3
  ·rename_i s' hs;rcases Zl.1 hp with rfl|hp
   ·exact fun s hs'=>mw (GQ next _ _ _ _ hs s hs')
   ·exact GR next r (some x) s' h3 p hp
theorem QZ{d:Dbs}(h:okD d=true):∀p∈d.procs,okCl p:=by
 simp only[okD,Zg] at h;exact GR _ _ _ _ h.2.2.2.2
def zP:Prc:=⟨[],0,false,[]⟩
def keyP(s:List UInt8)(a:Int):Prc:=⟨s,a,false,[]⟩
def YC(d:Dbs)(s:List UInt8)(a:Int):Option Prc:=if okD d=true then(if fnD d.procs (keyP s a)=true then d.procs[lbD d.procs (keyP s a)]? else none) else none
theorem my(p:Prc)(q:Nat)(H:Heap)(z:Bool)(h:H[q]? =some (.arr (some 9) (Sto.pvs p.cls) z)):AV.freeze deep (pA p q) H=some (p.pv,H.set q (.arr (some 9) (Sto.pvs p.cls) true)):=by
 have e:∀n l hp,AV.freeze (n+1) (.agg l) hp=match AV.freeze.go n l hp with|some (ps,hp')=>some (.agg ps,hp')|none=>none:=fun _ _ _=>rfl
 show AV.freeze (7+1) (.agg _) _=_;simp[e,AV.freeze.go,AV.freeze,h,Sto.pvs_len,Prc.pv]
set_option maxRecDepth 20000 in
theorem Vk(d:Dbs)(hb:BndD d)(s:List UInt8)(a:Int)(hp:Heap):S 12 [d.av,O7 s,O5 a] hp=some (.ret (.tuple [((YC d s a).getD zP).av,.pv none (.bool (YC d s a).isSome)]),hp):=by
 refine Ya rfl rfl rfl (z8 [(some 2,d.pv),(none,.str s),(none,.int .i64 a)]) rfl ?_;have h1:=fun hp=>X1 d hb.1 hb.2.1 hb.2.2 hp;have hz0:Yi A2 [] []=some (.agg A2):=rfl;simp only[Dbs.av] at h1;by_cases hv:okD d=true
 rotate_left
 ·have hv':okD d=false:=by simpa using hv
  have e:YC d s a=none:=by unfold YC;rw[Za hv]
  rw[hv'] at h1;rw[e];simp -dsimp -implicitDefEqProofs only[go_sem,seval,Dbs.av,h1,hz0,z7 (Ze _)];exact⟨_,rfl⟩
 have hi:=jq hv;have h2:=fun hp=>jp d s a hb.1 hi hp;have ek:(⟨s,a,false,[]⟩:Prc)=keyP s a:=rfl;rw[ek] at h2;rw[hv] at h1;simp only[Dbs.av] at h2;by_cases hf:fnD d.procs (keyP s a)=true
 rotate_left
 ·have hf':fnD d.procs (keyP s a)=false:=by simpa using hf
  have e:YC d s a=none:=by unfold YC;rw[Zd hv,Za hf]
  rw[hf'] at h2;rw[e];simp -dsimp -implicitDefEqProofs only[go_sem,seval,Dbs.av,h1,h2,hz0,z7 (Ze _)];exact⟨_,rfl⟩
 rw[hf] at h2;obtain⟨p,hpp⟩:∃p,d.procs[lbD d.procs (keyP s a)]? =some p:=by
  unfold fnD at hf;split at hf
  ·rename_i p h;exact⟨p,h⟩
  ·cases hf
 have e:YC d s a=some p:=by unfold YC;rw[Zd hv,Zd hf,hpp]
 rw[e];have hpm:=Zj hpp;have hcl:=QX hpm;have htd:totD d.procs<=500:=by
  simp only[okD,Zg,Zr] at hv;exact hv.2.2.2.1
 have h3:=fun hp=>GP p (by omega) (QZ hv p hpm) hp;simp only[Prc.av] at h3;have hst:∀(x0 x2:AObj) (v:AV) (X:Heap),Yb (some 4) 0 (x0::.box (some 4) v::x2::X) [.ptr 1 0,pA p 6]=some (.undef,x0::.box (some 4) (pA p 6)::x2::X):=fun x0 x2 v X=>by
  simp[Yb,astore,pA,AV.plain,AV.shp,AV.own,Yf,yI,total,Sh.size]
 simp -dsimp -implicitDefEqProofs only[go_sem,seval,Dbs.av,h1,h2,h3,hz0,hst,YB,Yc (Prc.pvs_get hpp)];obtain⟨H,hH⟩:∃H:Heap,H=[.box (some 2) (.pv (some 2) d.pv),.box (some 4) (pA p 6),.arr (some 9) [] false,.box (some 4) (pA p 6),.box (some 4) (pA p 6),.arr (some 9) [] false,.arr (some 9) (Sto.pvs p.cls) false]:=⟨_,rfl⟩;have hfz:=my p 6 H false (by rw[hH];rfl);have e3:∀X,AV.freeze deep (O6 true) X=some (.bool true,X):=fun _=>rfl;have hsh:(pA p 6).shp=some 4:=rfl;have hr:Y8 ⟨[(6,.ptr 1 0),(7,O6 true)],H⟩ (6,some (some 4))=some (pA p 6):=by
  rw[hH];simp[Y8,Fr.look,aload]
 rw[<-hH,hr];show Am.frozen (.tuple [.pv (some 4) p.pv,O6 true]) (.tuple [pA p 6,O6 true]) H;refine⟨H.set 6 (.arr (some 9) (Sto.pvs p.cls) true),?_⟩;simp only[AV.freezeRes,Yp,hfz,e3,hsh];rfl
theorem GS{t:Tm}(h:t.valid=true):same t t=true:=by simp[same,h,Tm.cmp_zero]
theorem mz(s:Sto)(vh:s.cl.head.valid=true)(vb:s.cl.body.valid=true)(hp:Heap):S 62 [s.av,s.av] hp=some (.ret (O6 true),hp):=by
 refine Ya rfl rfl rfl (z8 [(some 9,s.pv),(some 9,s.pv)]) rfl ?_;have zh:=yb vh;have zb:=yb vb;have h1:=fun hp=>QS s.cl.head s.cl.head hp (by omega) (by omega);have h2:=fun hp=>QS s.cl.body s.cl.body hp (by omega) (by omega);rw[GS vh] at h1;rw[GS vb] at h2;simp only[Tm.av] at h1 h2;simp -dsimp -implicitDefEqProofs only[go_sem,seval,Sto.av,YT,GM,GN,h1,h2]
 done
set_option maxRecDepth 20000 in
theorem mA(p:Prc)(hl:p.cls.length<1000000000)(hc:okCl p)(hp:Heap):S 31 [p.av,p.av] hp=some (.ret (O6 true),hp):=by
 refine Ya rfl rfl rfl (z8 [(some 4,p.pv),(some 4,p.pv)]) rfl ?_;have e1:=eq_self p.name;have hb:∀b:Bool,(b == b)=true:=fun b=>by cases b <;> rfl
 simp -dsimp -implicitDefEqProofs only[go_sem,seval,Prc.av,YP,YR,Vc,yd,Sto.pvs_len,hb];refine Yy (α:=Unit) p.cls.length (fun _ _=>True) (fun i _=>⟨[(2,.ptr 0 0),(3,.ptr 1 0),(5,O5 i)],[.box (some 4) (.pv (some 4) p.pv),.box (some 4) (.pv (some 4) p.pv)]⟩) () ⟨trivial,rfl⟩ ?_ ?_
 ·rintro i - h -;have hcc:(i:Int)<(p.cls.length:Int):=by omega
  have w1:=O0 i (by omega)
  obtain⟨s,hs⟩:∃s,p.cls[i]? =some s:=⟨_,Zf h⟩;obtain⟨vh,vb⟩:=hc s (Zj hs);have h3:=fun hp=>mz s vh vb hp;simp only[Sto.av] at h3;simp -dsimp -implicitDefEqProofs only[go_sem,seval,hcc,w1,yd,Sto.pvs_len,Yc (Sto.pvs_get hs),h3];exact⟨(),trivial⟩
 ·rintro - -;have hcc:¬(p.cls.length:Int)<(p.cls.length:Int):=by omega
  simp -dsimp -implicitDefEqProofs only[go_sem,seval,hcc,yd,Sto.pvs_len]
  done
def q7:AV:=.agg A2
def elsA(l:List Prc)(b i:Nat):List AV:=l.mapIdx fun j p=>if j<i then pA p (b+6*j) else q7
theorem X3(l:List Prc)(b i:Nat):(elsA l b i).length=l.length:=by simp[elsA]
theorem mB(l:List Prc)(b:Nat):elsA l b 0=List.replicate l.length q7:=by
 refine zA fun j=> ?_;simp[elsA,List.getElem?_mapIdx,List.getElem?_replicate];by_cases h:j<l.length
 ·simp[h]
 ·simp[h]
theorem GT{l:List Prc}{b i:Nat}{p:Prc}(h:l[i]? =some p):(elsA l b i).set i (pA p (b+6*i))=elsA l b (i+1):=by
 refine zA fun j=> ?_;have hi:=(Zb.1 h).1;rw[List.getElem?_set];by_cases hj:i=j
 ·subst hj;have he:l[i]=p:=(Zb.1 h).2;simp[elsA,List.getElem?_mapIdx,h,hi,he]
 ·simp only[Za hj];simp only[elsA,List.getElem?_mapIdx];cases l[j]? with
  |none=>rfl
  |some x=>
   have e:(j<i)=(j<i+1):=propext ⟨fun _=>by omega,fun _=>by omega⟩;simp[e]
def cE(p:Prc)(b:Nat):Heap:=[.box (some 4) (.pv (some 4) p.pv),.arr (some 9) [] false,.box (some 4) (pA p b),.box (some 4) (pA p b),.arr (some 9) [] false,.arr (some 9) (Sto.pvs p.cls) false]
def cEs:List Prc->Nat->Heap
 |[],_=>[]
 |p::r,b=>cE p b++cEs r (b+6)
theorem GU:∀(l:List Prc) (b:Nat),(cEs l b).length=6*l.length
 |[],_=>rfl
 |p::r,b=>by rw[cEs,Zi,GU r,ZF];show 6+_=_;omega
theorem GV:∀(l:List Prc) (p:Prc) (b:Nat),cEs (l++[p]) b=cEs l b++cE p (b+6*l.length)
 |[],p,b=>by simp[cEs]
 |x::r,p,b=>by
  rw[ZJ,cEs,GV r p (b+6),cEs,Zw,ZF]
  congr 2
  congr 1
  omega
theorem Vl{n b:Nat}{fr:Fr}{hp:Heap}{k:Nat}{o:AObj}(hk:b<=k)(hn:k<n)(ho:hp[k]? =some o)(hr:o.refs.all (fun q=>decide (q<n))=false):collect n b fr hp=hp:=by
 unfold collect;rw[Za];intro h;rw[Zg] at h;have h2:=Zm.1 h.2 o (by
  refine Z6.2 ⟨k - b,?_⟩;rw[ZR,ZN,Zd (by omega),show b+(k - b)=k by omega];exact ho)
 rw[hr] at h2;cases h2
def dA(d:Dbs)(q:Nat):AV:=.agg [(none,O5 d.next),(none,.slv (some 4) q d.procs.length 0 d.procs.length)]
theorem mC{Γ:Oracle}{b:Nat}{vs:List AV}{hp:Heap}{K:AV->Heap->Prop}{Kp:PV->Heap->Prop}(sh:Sh)(z:AV):opK (aOp Γ b (.mkslicev sh z) vs hp) K Kp=YL (xw sh z hp vs) K:=by
 show opK (match xw sh z hp vs with|some (v,hp')=>some (OpRes.val v hp')|none=>none) K Kp=_;cases xw sh z hp vs with
 |none=>rfl
 |some r=>cases r;rfl
theorem GW(d:Dbs)(hl:d.procs.length<1000000)(hcl:∀p∈d.procs,p.cls.length<1000000/\okCl p)(hp:Heap):S 118 [d.av] hp=some (.ret (dA d (hp.length+2)),hp++([.box (some 2) (dA d (hp.length+2)),.box (some 2) (dA d (hp.length+2)),.arv (some 4) (elsA d.procs (hp.length+8) d.procs.length)]++cEs d.procs (hp.length+8))):=by
 refine yp rfl rfl rfl rfl ?_;have hpl:=Prc.pvs_len d.procs;have hlim:d.procs.length<=lim:=by unfold lim;omega
 have hnil:∀H:Heap,Yf A3 H=(A3,H):=fun _=>rfl;have hmk:∀H:Heap,xw (some 4) q7 H [O5 d.procs.length,O5 d.procs.length]=some (.slv (some 4) H.length d.procs.length 0 d.procs.length,H++[.arv (some 4) (List.replicate d.procs.length q7)]):=fun H=>by
  simp[xw,hlim,xJ]
 simp only[q7] at hmk;simp -dsimp -implicitDefEqProofs only[go_sem,seval,Dbs.av,YB,hpl,hnil,hmk,mC,z7 (Zs _ _)];obtain⟨x1,hx1⟩:∃x1:AObj,x1=.box (some 2) (.agg A1):=⟨_,rfl⟩;rw[<-hx1];obtain⟨b0,hb0⟩:∃b0,b0=hp.length+8:=⟨_,rfl⟩;rw[<-hb0];obtain⟨PP,hPP⟩:∃PP:Nat->Heap->Heap,PP=fun j e=>hp++([.box (some 2) (.pv (some 2) d.pv),x1,.arv (some 4) (elsA d.procs b0 j)]++e):=⟨_,rfl⟩;have hPa:∀j e X,PP j e++X=PP j (e++X):=fun j e X=>by rw[hPP];simp
 have hPl:∀j e,(PP j e).length=hp.length+3+e.length:=fun j e=>by rw[hPP];simp;omega
 have hP2:∀j e,(PP j e)[hp.length+2]? =some (.arv (some 4) (elsA d.procs b0 j)):=fun j e=>by rw[hPP];exact getN rfl 2
 refine Yy (α:=Unit) d.procs.length (fun _ _=>True) (fun i _=>⟨[(1,.ptr hp.length 0),(2,.ptr (hp.length+1) 0),(3,.slv (some 4) (hp.length+2) d.procs.length 0 d.procs.length),(11,.pv none (.sl (some 4) (Prc.pvs d.procs))),(12,O5 d.procs.length),(13,O5 i)],PP i (cEs (d.procs.take i) b0)⟩) () ⟨trivial,by rw[hPP];simp only[mB];rfl⟩ ?_ ?_
 ·rintro i - h -;have hcc:(i:Int)<(d.procs.length:Int):=by omega
  have w1:=O0 i (by omega)
  obtain⟨p,hpp⟩:∃p,d.procs[i]? =some p:=⟨_,Zf h⟩;obtain⟨c1,c2⟩:=hcl p (Zj hpp);obtain⟨e,he⟩:∃e,e=cEs (d.procs.take i) b0:=⟨_,rfl⟩;have hel:e.length=6*i:=by rw[he,GU,Zh];omega
  obtain⟨n,hn⟩:∃n,n=hp.length+3+6*i:=⟨_,rfl⟩;have hpn:∀j,(PP j e).length=n:=fun j=>by rw[hPl,hel,hn]
  have hbn:hp.length<=n:=by omega
  have hpr:S 34 [.pv (some 4) p.pv] (PP i e++[.box (some 4) (.pv (some 4) p.pv),.arr (some 9) [] false])=some (.ret (pA p (n+5)),PP i e++[.box (some 4) (.pv (some 4) p.pv),.arr (some 9) [] false,.box (some 4) (pA p (n+5)),.box (some 4) (pA p (n+5)),.arr (some 9) [] false,.arr (some 9) (Sto.pvs p.cls) false]):=by
   have h3:=GP p c1 c2 (PP i e++[.box (some 4) (.pv (some 4) p.pv),.arr (some 9) [] false]);rw[Zi,hpn,Zw] at h3;exact h3
  have hia:Yq (some 4) [.slv (some 4) (hp.length+2) d.procs.length 0 d.procs.length,O5 i]=some (.epv (some 4) (hp.length+2) d.procs.length i 0):=by
   simp[Yq,aindex,h]
  have hst:∀X,Yb (some 4) hp.length (PP i e++X) [.epv (some 4) (hp.length+2) d.procs.length i 0,pA p (n+5)]=some (.undef,PP (i+1) e++X):=fun X=>by
   have hq:n+5=b0+6*i:=by omega
   have hs:=GT (b:=b0) hpp;have hg:(PP i e++X)[hp.length+2]? =some (.arv (some 4) (elsA d.procs b0 i)):=by rw[hPa];exact hP2 _ _
   have hset:(PP i e++X).set (hp.length+2) (.arv (some 4) (elsA d.procs b0 (i+1)))=PP (i+1) e++X:=by
    rw[hPa,hPa,hPP];exact setN rfl 2 _
   have hlt:i<(elsA d.procs b0 i).length:=by rw[X3];exact h
   obtain⟨old,ho⟩:∃old,(elsA d.procs b0 i)[i]? =some old:=⟨_,Zf hlt⟩;have hpln:(pA p (b0+6*i)).plain=true:=rfl;have hsh:(pA p (b0+6*i)).shp=some 4:=rfl;rw[hq];simp[Yb,astore,hg,X3,ho,hpln,hsh,hs,hset]
  rw[<-he];simp -dsimp -implicitDefEqProofs only[go_sem,seval,hcc,w1,Yc (Prc.pvs_get hpp),hpr,hia,hst,z7 (ZV hbn (Zs _ _)),hpn,getN (hpn _),YY (hpn _),setN (hpn _),yq (hpn _)];refine⟨(),?_⟩;have hgi:(elsA d.procs b0 (i+1))[i]? =some (pA p (b0+6*i)):=by
   rw[<-GT hpp];simp[X3,h]
  have hrf:(AObj.arv (some 4) (elsA d.procs b0 (i+1))).refs.all (fun q=>decide (q<hp.length+3))=false:=by
   rw[List.all_eq_false];refine⟨b0+6*i,(xa _ _).2 ⟨_,Zj hgi,by simp[pA,AV.refsIn,AV.refsIn.go]⟩,by simp;omega⟩
  rw[Vl (k:=hp.length+2) (by omega) (by omega) (by rw[hPa];exact hP2 _ _) hrf];have htk:d.procs.take (i+1)=d.procs.take i++[p]:=by rw[zO,hpp];rfl
  have hli:(d.procs.take i).length=i:=by rw[Zh];omega
  rw[hPa,htk,GV,hli,<-he];have hq:n+5=b0+6*i:=by omega
  rw[hq];rfl
 ·rintro - -;have hcc:¬(d.procs.length:Int)<(d.procs.length:Int):=by omega
  have hup:∀(q:Nat),AV.upd deep (.pv (some 2) d.pv) 1 none (.slv (some 4) q d.procs.length 0 d.procs.length)=some (dA d q):=fun q=>rfl;have hs1:∀(x1 x2:AObj) (X:Heap),Yb none hp.length (hp++.box (some 2) (.pv (some 2) d.pv)::x1::x2::X) [.ptr hp.length 1,.slv (some 4) (hp.length+2) d.procs.length 0 d.procs.length]=some (.undef,hp++.box (some 2) (dA d (hp.length+2))::x1::x2::X):=fun x1 x2 X=>by
   simp[Yb,astore,YY rfl,yq rfl,AV.plain,AV.shp,AV.own,hup]
  have hs2:∀(x0 x2:AObj) (v:AV) (X:Heap),Yb (some 2) hp.length (hp++x0::.box (some 2) v::x2::X) [.ptr (hp.length+1) 0,dA d (hp.length+2)]=some (.undef,hp++x0::.box (some 2) (dA d (hp.length+2))::x2::X):=fun x0 x2 v X=>by
   simp[Yb,astore,getN rfl,setN rfl,dA,AV.plain,AV.shp,AV.own,Yf,yI,total,Sh.size]
  rw[ZS,hPP,hx1];simp -dsimp -implicitDefEqProofs only[go_sem,seval,hcc,hs1,hs2];rw[Za (by simp[dA,AV.refsIn,AV.refsIn.go])]
def Fz(H H':Heap):Prop:=∀k:Nat,(∀(s:Sh) (es:List PV) (z:Bool),H[k]? =some (AObj.arr s es z)->∃z':Bool,H'[k]? =some (AObj.arr s es z'))/\(∀(s:Sh) (es:List AV),H[k]? =some (AObj.arv s es)->H'[k]? =some (AObj.arv s es))
theorem Fz.refl(H:Heap):Fz H H:=fun _=>⟨fun _ _ z h=>⟨z,h⟩,fun _ _ h=>h⟩
theorem Fz.trans{A B C:Heap}(h1:Fz A B)(h2:Fz B C):Fz A C:=fun k=>⟨fun s es z h=>by
  obtain⟨z',h'⟩:=(h1 k).1 s es z h;exact(h2 k).1 s es z' h',fun s es h=>(h2 k).2 s es ((h1 k).2 s es h)⟩
theorem Fz.set{H:Heap}{q:Nat}{s:Sh}{es:List PV}{z:Bool}(h:H[q]? =some (.arr s es z)):Fz H (H.set q (.arr s es true)):=fun k=>by
 by_cases hk:q=k
 ·subst hk;have hlt:=ya h;refine⟨fun s' es' z' h'=> ?_,fun s' es' h'=> ?_⟩
  ·rw[h] at h';cases h';exact⟨true,by simp[hlt]⟩
  ·rw[h] at h';cases h'
 ·rw[Zo hk];exact⟨fun _ _ z h=>⟨z,h⟩,fun _ _ h=>h⟩
def SvP(sv:AV)(l:List Sto)(H:Heap):Prop:=sv=.tsl (some 9) (Sto.pvs l)\/∃(q ver:Nat) (es:List PV) (z:Bool),sv=.sl (some 9) q ver 0 l.length/\H[q]? =some (.arr (some 9) es z)/\es.length=ver/\l.length<=ver/\es.take l.length=Sto.pvs l
def pAg(p:Prc)(sv:AV):AV:=.agg [(none,O7 p.name),(none,O5 p.ar),(none,O6 p.dyn),(none,sv)]
def ElP(p:Prc)(v:AV)(H:Heap):Prop:=v=p.av\/∃sv,v=pAg p sv/\SvP sv p.cls H
theorem SvP.fz{sv:AV}{l:List Sto}{H H':Heap}(h:SvP sv l H)(f:Fz H H'):SvP sv l H':=by
 rcases h with h|⟨q,ver,es,z,h1,h2,h3⟩
 ·exact .inl h
 ·obtain⟨z',h'⟩:=(f q).1 _ _ _ h2;exact .inr ⟨q,ver,es,z',h1,h',h3⟩
theorem ElP.fz{p:Prc}{v:AV}{H H':Heap}(h:ElP p v H)(f:Fz H H'):ElP p v H':=by
 rcases h with h|⟨sv,h1,h2⟩
 ·exact .inl h
 ·exact .inr ⟨sv,h1,h2.fz f⟩
theorem SvP.frz{sv:AV}{l:List Sto}{H:Heap}(h:SvP sv l H)(n:Nat):∃H',AV.freeze0 (n+1) sv H=some (.sl (some 9) (Sto.pvs l),H')/\Fz H H':=by
 rcases h with rfl|⟨q,ver,es,z,rfl,h2,h3,h4,h5⟩
 ·exact⟨H,rfl,Fz.refl H⟩
 ·refine⟨H.set q (.arr (some 9) es true),?_,Fz.set h2⟩;simp only[AV.freeze0,h2];by_cases he:l.length=es.length
  ·rw[Zd ⟨h3.symm,trivial,he⟩];rw[<-h5,Zu (by omega)]
  ·rw[Za (fun hh=>he hh.2.2),Zd ⟨h3.symm,by omega⟩,Z5,h5]
theorem ElP.frz{p:Prc}{v:AV}{H:Heap}(h:ElP p v H):∃H',AV.freeze0 6 v H=some (p.pv,H')/\Fz H H':=by
 rcases h with rfl|⟨sv,rfl,h2⟩
 ·exact⟨H,rfl,Fz.refl H⟩
 ·obtain⟨H',h3,h4⟩:=h2.frz 4;refine⟨H',?_,h4⟩;have e:∀n l hp,AV.freeze0 (n+1) (.agg l) hp=match AV.freeze0.go n l hp with|some (ps,hp')=>some (.agg ps,hp')|none=>none:=fun _ _ _=>rfl
  have e0:∀(x:PV) (s:Sh) (X:Heap),AV.freeze0 5 (.pv s x) X=some (x,X):=fun _ _ _=>rfl;show AV.freeze0 (5+1) (.agg _) H=_;simp only[e,AV.freeze0.go,e0,h3];rfl
theorem GX:∀(ps:List Prc) (els:List AV) (H:Heap),els.length=ps.length->(∀(j:Nat) (p:Prc) (v:AV),ps[j]? =some p->els[j]? =some v->ElP p v H)->∃H',AV.freeze0.go 6 (els.map fun e=>(some 4,e)) H=some (ps.map (fun p=>(some 4,p.pv)),H')/\Fz H H'
 |[],[],H,_,_=>⟨H,rfl,Fz.refl H⟩
 |[],_::_,_,h,_=>by simp at h
 |_::_,[],_,h,_=>by simp at h
 |p::r,v::w,H,hl,he=>by
  obtain⟨H1,h1,f1⟩:=(he 0 p v rfl rfl).frz;obtain⟨H2,h2,f2⟩:=GX r w H1 (by simpa using hl) fun j p' v' hp hv=>(he (j+1) p' v' (by simpa using hp) (by simpa using hv)).fz f1;refine⟨H2,?_,f1.trans f2⟩;simp only[ZX,AV.freeze0.go,h1,h2]
def DbA(d:Dbs)(v:AV)(H:Heap):Prop:=∃(q ver:Nat) (els:List AV) (ps:List Prc),v=.agg [(none,O5 d.next),(none,.slv (some 4) q ver 0 d.procs.length)]/\H[q]? =some (.arv (some 4) els)/\els.length=ver/\d.procs.length<=ver/\ps.length=ver/\ps.take d.procs.length=d.procs/\∀(j:Nat) (p:Prc) (v:AV),ps[j]? =some p->els[j]? =some v->ElP p v H
theorem DbA.frz{d:Dbs}{v:AV}{H:Heap}(h:DbA d v H):∃H',AV.freeze deep v H=some (d.pv,H'):=by
 obtain⟨q,ver,els,ps,rfl,h1,h2,h3,h4,h5,h6⟩:=h;obtain⟨H1,g1,g2⟩:=GX ps els H (by omega) h6;have h1':=(g2 q).2 _ _ h1;refine⟨H1.set q (.arr (some 4) (Prc.pvs ps) true),?_⟩;have e:∀n l hp,AV.freeze (n+1) (.agg l) hp=match AV.freeze.go n l hp with|some (ps,hp')=>some (.agg ps,hp')|none=>none:=fun _ _ _=>rfl
 have e0:∀(x:PV) (s:Sh) (X:Heap),AV.freeze 7 (.pv s x) X=some (x,X):=fun _ _ _=>rfl;have em:(ps.map (fun p=>((some 4:Sh),p.pv))).map (·.2)=Prc.pvs ps:=by simp[Prc.pvs]
 have et:(Prc.pvs ps).take d.procs.length=Prc.pvs d.procs:=by
  rw[Prc.pvs,<-List.map_take,h5];rfl
 have hlen:els.length=els.length:=rfl;have hfs:AV.freeze 7 (.slv (some 4) q ver 0 d.procs.length) H=some (.sl (some 4) (Prc.pvs d.procs),H1.set q (.arr (some 4) (Prc.pvs ps) true)):=by
  show AV.freeze (6+1) _ H=_;simp only[AV.freeze,h1,g1,h1',em,Z5,et];rw[Zd ⟨h2.symm,by omega⟩];simp
 show AV.freeze (7+1) (.agg _) H=_;simp only[e,AV.freeze.go,e0,hfs];rfl
theorem Vm:∀(l:List Prc) (b j:Nat) (p:Prc),l[j]? =some p->(cEs l b)[6*j+5]? =some (.arr (some 9) (Sto.pvs p.cls) false)
 |[],_,_,_,h=>by simp at h
 |x::r,b,0,p,h=>by
  simp at h;subst h;rfl
 |x::r,b,j+1,p,h=>by
  have ih:=Vm r (b+6) j p (by simpa using h);rw[cEs,ZZ (by show 6<=_;omega)];show(cEs r (b+6))[6*(j+1)+5 - 6]? =_;rw[show 6*(j+1)+5 - 6=6*j+5 by omega];exact ih
theorem jr{l:List Prc}{b j:Nat}{p:Prc}(h:l[j]? =some p):(elsA l b l.length)[j]? =some (pA p (b+6*j)):=by
 have hj:=(Zb.1 h).1;have he:l[j]=p:=(Zb.1 h).2;simp[elsA,List.getElem?_mapIdx,hj,he]
theorem mD:∀(t:Tm) (hp:Heap),t.size<1000000000->S 109 [t.av] hp=some (.ret t.av,hp):=by
 intro t
 induction t using Tm.zyE with
 |h t ih=>
  intro hp ht;have hts:=t.size_eq;have hlen:=Tm.zyA t.args;refine Ya rfl rfl rfl (z8 [(some 4,t.pv)]) rfl ?_;have hb:Yi A0 [0,1,2] [O5 t.kind,O5 t.n,O7 t.name]=some (.agg [(none,O5 t.kind),(none,O5 t.n),(none,O7 t.name),(none,.tsl (some 4) [])]):=rfl;simp -dsimp -implicitDefEqProofs only[go_sem,seval,Tm.av,Yk,yD,Yt,Yd,Tm.pvs_len,hb,z7 (Ze _)];refine Yy (α:=Unit) t.args.length (fun _ _=>True) (fun i _=>⟨[(1,.ptr 0 0),(2,.ptr 1 0),(3,.ptr 3 0),(4,O5 i)],appH 0 t i⟩) () ⟨trivial,rfl⟩ ?_ ?_
  ·rintro i - h -;have hc:(i:Int)<(t.args.length:Int):=by omega
   obtain⟨u,hu⟩:∃u,t.args[i]? =some u:=⟨_,Zf h⟩;have hum:=Zj hu;have husz:=Tm.zyC hum;have hcall:=fun hp=>ih u hum hp (by omega);simp only[Tm.av] at hcall;have w2:=O0 i (by omega)
   have hl:(Tm.pvs (t.args.take i)).length=i:=by rw[Tm.pvs_len,Zh];omega
   have hlim:i+1<=lim:=by unfold lim;omega
   simp -dsimp -implicitDefEqProofs only[go_sem,seval,appH,Yd,Tm.pvs_len,hc,Yc (Tm.pvs_get hu),hcall,w2,hl,hlim,Tm.zyB hu,z7 (Ze _),XE (Ze _)];exact⟨(),rfl⟩
  ·rintro - -;have hc:¬(t.args.length:Int)<(t.args.length:Int):=by omega
   simp -dsimp -implicitDefEqProofs only[go_sem,seval,appH,Yd,Tm.pvs_len,hc,ZS,Yn,z7 (Ze _),XE (Ze _)];exact MN t rfl
def arg0(t:Tm):Tm:=match t.args with
 |x::_=>x
 |_=>.mk 0 0 [] []
def arg1(t:Tm):Tm:=match t.args with
 |_::y::_=>y
 |_=>.mk 0 0 [] []
theorem args_two{t:Tm}(h:t.args.length=2):t.args=[arg0 t,arg1 t]:=by
 unfold arg0 arg1
 match e:t.args,h with
 |[x,y],_=>rfl
theorem GY{t:Tm}(h:t.args.length=2):t.args[0]? =some (arg0 t):=by rw[args_two h];rfl
theorem GZ{t:Tm}(h:t.args.length=2):t.args[1]? =some (arg1 t):=by rw[args_two h];rfl
theorem mE{t:Tm}(h:t.args.length=2):arg0 t∈t.args:=Zj (GY h)
theorem q8{t:Tm}(h:t.args.length=2):arg1 t∈t.args:=Zj (GZ h)
def nilT:Tm:=.mk 2 0 [91,93] []
theorem fit9{t:Tm}(h:t.valid=true):t.size<1000000000:=by have:=yb h;omega
theorem ia0{es:List PV}{p:PV}(h:es[0]? =some p):Yq (some 4) [.pv none (.sl (some 4) es),O5 0]=some (.iptr (some 4) p 0):=Mf h
theorem ia1{es:List PV}{p:PV}(h:es[1]? =some p):Yq (some 4) [.pv none (.sl (some 4) es),O5 1]=some (.iptr (some 4) p 0):=by
 simp[Yq,aindex,h]
def zg(q:Nat):AV:=.agg [(none,O5 0),(none,O5 0),(none,O7 []),(none,.sl (some 4) q 0 0 0)]
theorem Q0:∀t:Tm,PV.beq t.pv t.pv=true:=by
 intro t
 induction t using Tm.zyE with
 |h t ih=>
  cases t with
  |mk k n s ts=>
   have:∀l:List Tm,(∀u∈l,PV.beq u.pv u.pv=true)->PV.beqs (Tm.pvs l) (Tm.pvs l)=true:=by
    intro l
    induction l with
    |nil=>intro _;rfl
    |cons x r ihr=>intro h;simp only[Tm.pvs,PV.beqs,h x (by simp),ihr (fun u hu=>h u (by simp[hu])),Bool.and_self]
   simp[Tm.pv,PV.beq,PV.beqc,this ts ih]
def cs(t:Tm):Prop:=t.kind=3/\t.name=[46]/\t.args.length=2
instance (t:Tm):Decidable (cs t):=inferInstanceAs (Decidable (_/\_))
def tl(t:Tm):Tm:=if h:cs t then tl (arg1 t) else t
termination_by t.size
decreasing_by exact Tm.zyC (q8 h.2.2)
def els(t:Tm):List Tm:=if h:cs t then arg0 t::els (arg1 t) else[]
termination_by t.size
decreasing_by exact Tm.zyC (q8 h.2.2)
theorem tl_c{t:Tm}(h:cs t):tl t=tl (arg1 t):=by rw[tl,dif_pos h]
theorem tl_n{t:Tm}(h:¬cs t):tl t=t:=by rw[tl,dif_neg h]
theorem Vn{t:Tm}(h:cs t):els t=arg0 t::els (arg1 t):=by rw[els,dif_pos h]
theorem js{t:Tm}(h:¬cs t):els t=[]:=by rw[els,dif_neg h]
theorem mF:∀(n:Nat) (t:Tm),t.size=n->(els t).length<=t.size:=by
 intro n
 induction n using Nat.strongRecOn with
 |_ n ih=>
  intro t hn;by_cases h:cs t
  ·have h3:=Tm.zyC (q8 h.2.2);have:=ih _ (by omega) (arg1 t) rfl;rw[Vn h,ZF];omega
  ·rw[js h];exact Ze _
theorem Vo{l:List Tm}{t:Tm}{a0 a1 a2 a3:AObj}:Am.frozen (.tuple [.pv none (.sl (some 4) (Tm.pvs l)),.pv (some 4) t.pv]) (.tuple [.sl (some 4) 4 l.length 0 l.length,.pv (some 4) t.pv]) [a0,a1,a2,a3,.arr (some 4) (Tm.pvs l) false]:=by
 refine⟨[a0,a1,a2,a3,.arr (some 4) (Tm.pvs l) true],?_⟩;have e2:∀p hp,AV.freeze deep (.pv (some 4) p) hp=some (p,hp):=fun _ _=>rfl;simp[AV.freezeRes,Yp,e2,AV.freeze,deep,Tm.pvs_len,pvs,AV.shp]
theorem O1:∀H:Heap,YU (some 4) H=some (.sl (some 4) H.length 0 0 0,H++[.arr (some 4) [] false]):=fun H=>Xd (sh:=some 4) (by decide)
theorem G0(t:Tm)(hv:t.valid=true)(hp:Heap):S 123 [t.av] hp=some (.ret (.tuple [.pv none (.sl (some 4) (Tm.pvs (els t))),(tl t).av]),hp):=by
 refine Ya rfl rfl rfl (z8 [(some 4,t.pv)]) rfl ?_;have hz:=yb hv;have hlen:=mF _ t rfl;have h1:=fun hp=>Xj t hp (by omega);have hn0:=O1;simp only[Tm.av] at h1;simp -dsimp -implicitDefEqProofs only[go_sem,seval,Tm.av,h1,hv,hn0];refine xK (fun n st=>∃(t1:Tm) (d:List Tm),n=t1.size/\t1.valid=true/\d++els t1=els t/\tl t1=tl t/\st=⟨[(1,.ptr 0 0),(3,.ptr 2 0),(4,.sl (some 4) 4 d.length 0 d.length)],[.box (some 4) (.pv (some 4) t1.pv),.arr (some 4) [] false,.box (some 4) (zg 3),.arr (some 4) [] false,.arr (some 4) (Tm.pvs d) false]⟩) (n:=t.size) ⟨t,[],rfl,hv,rfl,rfl,rfl⟩ ?_;rintro n st ⟨t1,d,rfl,hv1,he,ht,rfl⟩;have hdl:=congrArg List.length he;rw[Zi] at hdl;by_cases h:cs t1
 ·have hlt:=Tm.zyC (q8 h.2.2);have v0:=yR hv1 (mE h.2.2);have v1:=yR hv1 (q8 h.2.2);have hcp:=fun hp=>XZ (arg0 t1) hp v0 (fit9 v0);have hlim:d.length+1<=lim:=by unfold lim;omega
  have hpl:=Tm.pvs_len d;have k1:=Zn h.1;have k2:=Zn h.2.1;have k3:=Zn (show(t1.args.length:Int)=2 by have:=h.2.2;omega);rw[Vn h] at he;simp only[Tm.av] at hcp;simp -dsimp -implicitDefEqProofs only[go_sem,seval,zg,Yk,Yt,Yd,Tm.pvs_len,k1,k2,k3,hcp,ia0 (Tm.pvs_get (GY h.2.2)),ia1 (Tm.pvs_get (GZ h.2.2)),hpl,hlim];refine⟨_,hlt,arg1 t1,d++[arg0 t1],rfl,v1,by rw[<-he,Zw];rfl,by rw[<-ht,tl_c h],?_⟩;rw[Tm.zyM,Zi];rfl
 ·have hcp:=fun hp=>XZ t1 hp hv1 (fit9 hv1);rw[js h,ZB] at he;rw[tl_n h] at ht;simp only[Tm.av] at hcp;rw[<-he,<-ht];by_cases k1:t1.kind=3
  ·have k1':=Zn k1;by_cases k2:t1.name=[46]
   ·have k2':=Zn k2;have k3':=Zp (show ¬(t1.args.length:Int)=2 by
     intro e;exact h ⟨k1,k2,by omega⟩)
    simp -dsimp -implicitDefEqProofs only[go_sem,seval,zg,Yk,Yt,Yd,Tm.pvs_len,k1',k2',k3',hcp];exact Vo
   ·have k2':=Zp k2;simp -dsimp -implicitDefEqProofs only[go_sem,seval,zg,Yk,Yt,Yd,Tm.pvs_len,k1',k2',hcp];exact Vo
  ·have k1':=Zp k1;simp -dsimp -implicitDefEqProofs only[go_sem,seval,zg,Yk,Yt,Yd,Tm.pvs_len,k1',hcp];exact Vo
def Ye(nm:List UInt8):Tm:=.mk 2 0 nm []
def strT(nm:List UInt8)(l:List Tm):Tm:=.mk 3 0 nm l
theorem Q1{nm:List UInt8}(h:nm.length<=100):(Ye nm).valid=true:=by
 have:(nm.length:Int)<=100:=by omega
 refine xM ?_ (by have:(Ye nm).size=1:=rfl;omega);simp[Ye,Tm.fits,Tm.fitsAll,Tm.node,Tm.kind,Tm.n,Tm.name,Tm.args,this]
theorem Qs{nm:List UInt8}{l:List Tm}(h:nm.length<=100)(h1:0<l.length)(h2:l.length<=8)(hl:Tm.fitsAll l=true):(strT nm l).fits=true:=by
 have a:(nm.length:Int)<=100:=by omega
 have b:0<(l.length:Int):=by omega
 have c:(l.length:Int)<=8:=by omega
 simp[strT,Tm.fits,Tm.node,Tm.kind,Tm.n,Tm.name,Tm.args,a,b,c,h1,hl]
theorem jt(nm:List UInt8)(h:nm.length<=100)(hp:Heap):S 115 [O7 nm] hp=some (.ret (Ye nm).av,hp):=by
 refine Ya rfl rfl rfl (z8 [(none,.str nm)]) rfl ?_;have hv:=Q1 h;have hb:Yi A0 [0,2] [O5 2,O7 nm]=some (.agg [(none,O5 2),(none,O5 0),(none,O7 nm),(none,.tsl (some 4) [])]):=rfl;have hcl:∀H:Heap,S 29 [.agg [(none,O5 2),(none,O5 0),(none,O7 nm),(none,.tsl (some 4) [])]] H=some (.ret (Ye nm).av,H):=fun H=>
  XF (F:=find tab) (prim:=prim) (f:=29) (args:=[.agg [(none,O5 2),(none,O5 0),(none,O7 nm),(none,.tsl (some 4) [])]]) (ps:=[(some 4,(Ye nm).pv)]) (hp:=H) (hp1:=H) rfl rfl rfl rfl (XZ (Ye nm) [] hv (fit9 hv))
 simp only[Tm.av] at hcl;simp -dsimp -implicitDefEqProofs only[go_sem,seval,Tm.av,hb,hcl]
 try rfl
theorem G1(nm:List UInt8)(l:List Tm)(h1:0<l.length)(hv:(strT nm l).valid=true)(hp:Heap):S 117 [O7 nm,.pv none (.sl (some 4) (Tm.pvs l))] hp=some (.ret (strT nm l).av,hp):=by
 refine Ya rfl rfl rfl (z8 [(none,.str nm),(none,.sl (some 4) (Tm.pvs l))]) rfl ?_;have hb:Yi A0 [0,2,3] [O5 3,O7 nm,.pv none (.sl (some 4) (Tm.pvs l))]=some (.pv (some 4) (strT nm l).pv):=rfl;have hcl:=fun hp=>XZ (strT nm l) hp hv (fit9 hv);have hne:=Zp (show ¬(l.length:Int)=0 by omega);simp only[Tm.av] at hcl;simp -dsimp -implicitDefEqProofs only[go_sem,seval,Tm.av,hb,hcl,Tm.pvs_len,hne]
 try rfl
theorem q9{f:FuncId}{fn:AFn}{ps:List (Sh × PV)}{args:List AV}{t:Tm}{hp hp1:Heap}(hp0:prim f=none)(hf:find tab f=some fn)(hm:fn.heapMode=false)(hz:Yp args hp=some (ps,hp1))(hr:fn.rcv=none)(h:S f (pvs ps) []=some (.ret t.av,[])):S f args hp=some (.ret t.av,hp1):=by
 have h:=XF (F:=find tab) (prim:=prim) (f:=f) (args:=args) (ps:=ps) (hp:=hp) (hp1:=hp1) hp0 hf hm hz h hr;have hs:∀t:Tm,t.av.scalar=false:=fun t=>by cases t;rfl
 rw[hs] at h;exact h
def errN:List UInt8:=[101,114,114,111,114]
def errT(f:Tm):Tm:=strT errN [f,nilT]
theorem G2(fn:List UInt8)(l:List Tm)(h1:0<l.length)(hv1:(strT fn l).valid=true)(hv2:(errT (strT fn l)).valid=true)(hp:Heap):S 140 [O7 fn,.pv none (.sl (some 4) (Tm.pvs l))] hp=some (.ret (errT (strT fn l)).av,hp):=by
 refine Ya rfl rfl rfl (z8 [(none,.str fn),(none,.sl (some 4) (Tm.pvs l))]) rfl ?_;have ha:=G1 fn l h1 hv1;have hb:=jt [91,93] (by decide);have hc:∀H:Heap,S 117 [O7 errN,.tsl (some 4) [(strT fn l).pv,nilT.pv]] H=some (.ret (errT (strT fn l)).av,H):=fun H=>
  q9 (ps:=[(none,.str errN),(none,.sl (some 4) (Tm.pvs [strT fn l,nilT]))]) rfl rfl rfl rfl rfl (G1 errN [strT fn l,nilT] (by simp) hv2 [])
 have e:Ye [91,93]=nilT:=rfl;rw[e] at hb;simp only[Tm.av] at ha hb hc;generalize strT fn l=F at*;simp only[errN] at hc;simp -dsimp -implicitDefEqProofs only[go_sem,seval,Tm.av,ha,hb,hc]
 try rfl
def culk(k:Nat)(t:Tm):Tm:=if 2000<3+k+t.size then Ye [46,46,46] else t
def gErr(fnm:List UInt8)(nms:List (List UInt8))(t:Tm):Tm:=strT fnm (nms.map Ye++[culk nms.length t])
theorem G3:∀(nms:List (List UInt8)) (l:List Tm),(∀x∈nms,x.length<=100)->Tm.fitsAll l=true->Tm.fitsAll (nms.map Ye++l)=true
 |[],l,_,h=>h
 |x::r,l,h,hl=>by
  simp only[ZX,ZJ,Tm.fitsAll,Zg];exact⟨valid_fits (Q1 (h x (by simp))),G3 r l (fun y hy=>h y (by simp[hy])) hl⟩
theorem G4:∀(nms:List (List UInt8)) (t:Tm),Tm.sizes (nms.map Ye++[t])=nms.length+(t.size+0)
 |[],t=>by simp[Tm.sizes]
 |x::r,t=>by
  have ih:=G4 r t;show(Ye x).size+Tm.sizes (r.map Ye++[t])=_;have:(Ye x).size=1:=rfl;rw[ih,this,ZF];omega
theorem Vp{fnm:List UInt8}{nms:List (List UInt8)}{t:Tm}(hf:fnm.length<=100)(hn:∀x∈nms,x.length<=100)(hl:nms.length<=3)(hv:t.valid=true):(gErr fnm nms t).valid=true/\(errT (gErr fnm nms t)).valid=true:=by
 have hc:(culk nms.length t).valid=true/\(culk nms.length t).size+nms.length+3<=2000:=by
  unfold culk;split
  ·exact⟨Q1 (by decide),by have:(Ye [46,46,46]).size=1:=rfl;omega⟩
  ·exact⟨hv,by omega⟩
 have f1:(gErr fnm nms t).fits=true:=Qs hf (by simp) (by simp;omega) (G3 nms _ hn (by simp[Tm.fitsAll,valid_fits hc.1]));have s1:(gErr fnm nms t).size=1+(nms.length+((culk nms.length t).size+0)):=by
  rw[Tm.size_eq,<-G4];rfl
 have f2:(errT (gErr fnm nms t)).fits=true:=Qs (by decide) (by simp) (by simp) (by simp[Tm.fitsAll,f1];decide);have s2:(errT (gErr fnm nms t)).size=1+((gErr fnm nms t).size+(1+0)):=by
  rw[Tm.size_eq];rfl
 exact⟨xM f1 (by omega),xM f2 (by omega)⟩
theorem G5(fnm:List UInt8)(hf:fnm.length<=100)(nms:List (List UInt8))(hn:∀x∈nms,x.length<=100)(hl:nms.length<=3)(t:Tm)(hv:t.valid=true)(hp:Heap):S 124 [t.av,O7 fnm,.pv none (.sl none (nms.map .str))] hp=some (.ret (errT (gErr fnm nms t)).av,hp):=by
 refine Ya rfl rfl rfl (z8 [(some 4,t.pv),(none,.str fnm),(none,.sl none (nms.map .str))]) rfl ?_;have hz:=yb hv;have h1:=fun hp=>Xj t hp (by omega);have h2:=fun hp=>qR t hp (by omega);have h4:=jt [46,46,46] (by decide);obtain⟨v1,v2⟩:=Vp hf hn hl hv;have hn0:=O1;have hmin:min t.size 2001=t.size:=by omega
 rw[hmin] at h2;have hsl:(nms.map PV.str).length=nms.length:=by simp
 have hra:∀(a0 a1 a2:AObj) (u:Tm),culk nms.length t=u->S 140 [O7 fnm,.sl (some 4) 3 (nms.length+1) 0 (nms.length+1)] [a0,a1,a2,.arr (some 4) (Tm.pvs (nms.map Ye)++[u.pv]) false]=some (.ret (errT (gErr fnm nms t)).av,[a0,a1,a2,.arr (some 4) (Tm.pvs (nms.map Ye)++[u.pv]) true]):=fun a0 a1 a2 u hu=>by
  subst hu;have e:Tm.pvs (nms.map Ye)++[(culk nms.length t).pv]=Tm.pvs (nms.map Ye++[culk nms.length t]):=by rw[Tm.zyM];rfl
  rw[e];refine q9 (ps:=[(none,.str fnm),(none,.sl (some 4) (Tm.pvs (nms.map Ye++[culk nms.length t])))]) rfl rfl rfl ?_ rfl (G2 fnm (nms.map Ye++[culk nms.length t]) (by simp) v1 v2 []);have hle:(Tm.pvs (nms.map Ye++[culk nms.length t])).length=nms.length+1:=by rw[Tm.pvs_len];simp
  simp[Yp,AV.freeze,deep,hle,AV.shp]
 have hnl:nms.length+1<=lim:=by unfold lim;omega
 have hal:(Tm.pvs (nms.map Ye)).length=nms.length:=by rw[Tm.pvs_len];simp
 have w1:IntKind.i64.wrap (3+(nms.length:Int))=3+(nms.length:Int):=Yh (by omega) (by omega);have w2:IntKind.i64.wrap (3+(nms.length:Int)+(t.size:Int))=3+(nms.length:Int)+(t.size:Int):=Yh (by omega) (by omega);simp only[Tm.av] at h1 h2 h4 hra;simp -dsimp -implicitDefEqProofs only[go_sem,seval,Tm.av,h1,hv,hn0,hsl];refine Yy (α:=Unit) nms.length (fun _ _=>True) (fun i _=>⟨[(1,O7 fnm),(2,.pv none (.sl none (nms.map .str))),(3,.ptr 0 0),(6,.ptr 1 0),(7,.sl (some 4) 3 i 0 i),(14,.pv none (.sl none (nms.map .str))),(15,O5 nms.length),(16,O5 i)],[.box (some 4) (.pv (some 4) t.pv),.box (some 4) (zg 2),.arr (some 4) [] false,.arr (some 4) (Tm.pvs ((nms.map Ye).take i)) false]⟩) () ⟨trivial,rfl⟩ ?_ ?_
 ·rintro i - hi -;have hc:(i:Int)<(nms.length:Int):=by omega
  obtain⟨nm,hnm⟩:∃nm,nms[i]? =some nm:=⟨_,Zf hi⟩;have hnl2:=hn nm (Zj hnm);have h3:=jt nm hnl2;have hsl2:=Zp (show ¬(100:Int)<(nm.length:Int) by omega);have hia:∀s k,Yq none [.pv s (.sl none (nms.map PV.str)),.pv none (.int k i)]=some (.iptr none (.str nm) 0):=fun s k=>Yc (by simp[hnm]);have w3:=O0 i (by omega)
  have hil:i+1<=lim:=by unfold lim;omega
  have hpl:(Tm.pvs ((nms.map Ye).take i)).length=i:=by rw[Tm.pvs_len];simp;omega
  have htk:Tm.pvs ((nms.map Ye).take i)++[(Ye nm).pv]=Tm.pvs ((nms.map Ye).take (i+1)):=Tm.zyB (by simp[hnm]);have hap:∀a0 a1 a2:AObj,YK (some 4) [a0,a1,a2,.arr (some 4) (Tm.pvs ((nms.map Ye).take i)) false] [.sl (some 4) 3 i 0 i,.tsl (some 4) [(Ye nm).pv]]=some (.sl (some 4) 3 (i+1) 0 (i+1),[a0,a1,a2,.arr (some 4) (Tm.pvs ((nms.map Ye).take (i+1))) false]):=fun _ _ _=>by
   rw[<-htk];simp[YK,aappend,elems,hpl,hil]
  simp only[Tm.av] at h3;generalize (Ye nm).pv=X at*;simp -dsimp -implicitDefEqProofs only[go_sem,seval,zg,hc,hia,hsl2,h3,hap,w3];exact⟨(),rfl⟩
 ·rintro - -;have hc:¬(nms.length:Int)<(nms.length:Int):=by omega
  have htk:Tm.pvs ((nms.map Ye).take nms.length)=Tm.pvs (nms.map Ye):=by rw[Zu (by simp)]
  rw[htk];have hap:∀(a0 a1 a2:AObj) (Y:PV),YK (some 4) [a0,a1,a2,.arr (some 4) (Tm.pvs (nms.map Ye)) false] [.sl (some 4) 3 nms.length 0 nms.length,.tsl (some 4) [Y]]=some (.sl (some 4) 3 (nms.length+1) 0 (nms.length+1),[a0,a1,a2,.arr (some 4) (Tm.pvs (nms.map Ye)++[Y]) false]):=fun _ _ _ Y=>by
   simp[YK,aappend,elems,hal,hnl]
  by_cases hbig:(2000:Int)<3+(nms.length:Int)+(t.size:Int)
  ·have hcu:culk nms.length t=Ye [46,46,46]:=by unfold culk;rw[Zd (by omega)]
   have hra':=fun a0 a1 a2=>hra a0 a1 a2 _ hcu;generalize (Ye [46,46,46]).pv=Y at*;simp -dsimp -implicitDefEqProofs only[go_sem,seval,zg,hc,h2,hsl,w1,w2,hbig,h4,hap,hra'];rfl
  ·have hcu:culk nms.length t=t:=by unfold culk;rw[Za (by omega)]
   have hra':=fun a0 a1 a2=>hra a0 a1 a2 _ hcu;simp -dsimp -implicitDefEqProofs only[go_sem,seval,zg,hc,h2,hsl,w1,w2,hbig,hap,hra'];rfl
def doN:List UInt8:=[100,111,109,97,105,110,95,101,114,114,111,114]
def peN:List UInt8:=[112,101,114,109,105,115,115,105,111,110,95,101,114,114,111,114]
def domT(nm:List UInt8)(t:Tm):Tm:=errT (gErr doN [nm] t)
def perT(a b:List UInt8)(t:Tm):Tm:=errT (gErr peN [a,b] t)
theorem mG(nm:List UInt8)(hn:nm.length<=100)(t:Tm)(hv:t.valid=true)(hp:Heap):S 146 [O7 nm,t.av] hp=some (.ret (domT nm t).av,hp):=by
 refine Ya rfl rfl rfl (z8 [(none,.str nm),(some 4,t.pv)]) rfl ?_;have h1:∀H:Heap,S 124 [t.av,O7 doN,.tsl none [.str nm]] H=some (.ret (domT nm t).av,H):=fun H=>q9 (ps:=[(some 4,t.pv),(none,.str doN),(none,.sl none [.str nm])]) rfl rfl rfl rfl rfl (G5 doN (by decide) [nm] (by simpa using hn) (by simp) t hv []);simp only[Tm.av,doN] at h1;simp -dsimp -implicitDefEqProofs only[go_sem,seval,Tm.av,h1]
 try rfl
theorem mH(a b:List UInt8)(ha:a.length<=100)(hb:b.length<=100)(t:Tm)(hv:t.valid=true)(hp:Heap):S 99 [O7 a,O7 b,t.av] hp=some (.ret (perT a b t).av,hp):=by
 refine Ya rfl rfl rfl (z8 [(none,.str a),(none,.str b),(some 4,t.pv)]) rfl ?_;have h1:∀H:Heap,S 124 [t.av,O7 peN,.tsl none [.str a,.str b]] H=some (.ret (perT a b t).av,H):=fun H=>q9 (ps:=[(some 4,t.pv),(none,.str peN),(none,.sl none [.str a,.str b])]) rfl rfl rfl rfl rfl (G5 peN (by decide) [a,b] (by simpa using⟨ha,hb⟩) (by simp) t hv []);simp only[Tm.av,peN] at h1;simp -dsimp -implicitDefEqProofs only[go_sem,seval,Tm.av,h1]
 try rfl
def reN:List UInt8:=[114,101,112,114,101,115,101,110,116,97,116,105,111,110,95,101,114,114,111,114]
def repT(nm:List UInt8):Tm:=errT (strT reN [Ye nm])
theorem G6{nm:List UInt8}(hn:nm.length<=100):(strT reN [Ye nm]).valid=true/\(repT nm).valid=true:=by
 have h3:=Q1 hn;have f1:(strT reN [Ye nm]).fits=true:=Qs (by decide) (by simp) (by simp) (by simp[Tm.fitsAll,valid_fits h3]);have s1:(strT reN [Ye nm]).size=2:=by rw[Tm.size_eq];rfl
 have f2:(repT nm).fits=true:=Qs (by decide) (by simp) (by simp) (by simp[Tm.fitsAll,f1];decide);have s2:(repT nm).size=1+((strT reN [Ye nm]).size+(1+0)):=by
  show(errT _).size=_;rw[Tm.size_eq];rfl
 exact⟨xM f1 (by omega),xM f2 (by omega)⟩
theorem mI(nm:List UInt8)(hn:nm.length<=100)(hp:Heap):S 156 [O7 reN,O7 nm] hp=some (.ret (repT nm).av,hp):=by
 refine Ya rfl rfl rfl (z8 [(none,.str reN),(none,.str nm)]) rfl ?_;obtain⟨v1,v2⟩:=G6 hn;have h1:=jt nm hn;have hsl:=Zp (show ¬(100:Int)<(nm.length:Int) by omega);have h2:∀H:Heap,S 140 [O7 reN,.tsl (some 4) [(Ye nm).pv]] H=some (.ret (repT nm).av,H):=fun H=>q9 (ps:=[(none,.str reN),(none,.sl (some 4) (Tm.pvs [Ye nm]))]) rfl rfl rfl rfl rfl (G2 reN [Ye nm] (by simp) v1 v2 []);simp only[Tm.av] at h1 h2;generalize (Ye nm).pv=X at*;simp -dsimp -implicitDefEqProofs only[go_sem,seval,Tm.av,h1,h2,hsl]
 try rfl
theorem mJ(nm:List UInt8)(hn:nm.length<=100)(hp:Heap):S 147 [O7 nm] hp=some (.ret (repT nm).av,hp):=by
 refine Ya rfl rfl rfl (z8 [(none,.str nm)]) rfl ?_;have h1:=mI nm hn;simp only[Tm.av,reN] at h1;simp -dsimp -implicitDefEqProofs only[go_sem,seval,Tm.av,h1]
 try rfl
end Go.Proofs.YtkkppaoehnpboaaGreatDoor
