/- What is proved: db.Valid. -/
import Derived.Test.YtgedfopkiebjkaaGreatDoorDb1
import Derived.Test.YtgedfopkiebjkaaGreatDoorCl
import Derived.Test.YtgedfopkiebjkaaGreatDoorAm5
import Derived.Test.YtgedfopkiebjkaaGreatDoorCards
import Derived.Test.YtgedfopkiebjkaaGreatDoorTie
import Derived.ProofKit
import Derived.OpenShut
import Derived.Lay
import Derived.Deep.DeepHandedRow
import Derived.Deep.DeepWitnessRowRef
import Derived.Lib.LaidTab
import Derived.SevenTiedAt
set_option linter.unusedSimpArgs false
set_option linter.unusedVariables false
namespace Go.Proofs.YtgedfopkiebjkaaGreatDoor
open Go.Am
def yH(l:List Int):List (Int × PV):=l.map fun v=>(v,.int .i64 1)
theorem G8(v:Int)(l:List Int):Y6 v (yH l)=if v∈l then some (.int .i64 1) else none:=by
 induction l with
 |nil=>rfl
 |cons x r ih=>
  grind [Y6,yH]
theorem Vb(v:Int):∀(l:List Int),v ∉ l->mPut v (.int .i64 1) (yH l)=yH (l++[v])
 |[],_=>rfl
 |x::r,h=>by
  have h':¬x=v:=fun e=>h (by grind);have ih:=Vb v r fun hm=>h (Zm _ hm)
  grind [mPut,yH]
def namB(p:Prc):Bool:=decide (p.name.length<=100) && (decide (0<=p.ar) && decide (p.ar<=8))
def okSt(next:Int)(p:Prc)(seen:List Int)(s:Sto):Bool:=decide (1<=s.id) && (decide (s.id<next) && (decide (s.id ∉ seen) && (okC s.cl && (decide (s.cl.head.name=p.name) && decide ((s.cl.head.args.length:Int)=p.ar)))))
def okSs(next:Int)(p:Prc):List Int->List Sto->Option (List Int)
 |seen,[]=>some seen
 |seen,s::r=>if okSt next p seen s=true then okSs next p (seen++[s.id]) r else none
def preB:Option Prc->Prc->Bool
 |none,_=>true
 |some q,p=>decide (ordP q p<0)
def okPs(next:Int):Option Prc->List Int->List Prc->Bool
 |_,_,[]=>true
 |q,seen,p::r=>namB p && (preB q p && match okSs next p seen p.cls with
  |none=>false
  |some s=>okPs next (some p) s r)
def okD(d:Dbs):Bool:=decide (1<=d.next) && (decide (d.next<=4294967296) && (decide (d.procs.length<=500) && (decide (totD d.procs<=500) && okPs d.next none [] d.procs)))
theorem Qx{l:List Prc}{p:Prc}(h:p∈l):p.cls.length<=totD l:=by
 induction l with
 |nil=>cases h
 |cons x r ih=>
  grind [totD]
theorem js{α:Type}{l:List α}{i:Nat}{x:α}(h:l[i]? =some x):l.drop i=x::l.drop (i+1):=by
 grind [zF]
def vM(d:Dbs)(m:List (Int × PV)):Heap:=[.box (some 2) (.pv (some 2) d.pv),.map none (Ya m)]
def vH(d:Dbs)(seen:List Int):Heap:=vM d (yH seen)
theorem yK(s:Sto):PV.part deep s.pv 3 none=some (.str s.cl.head.name):=by
 cases s with|mk i c=>cases c with|mk h b=>cases h;rfl
theorem yZ(s:Sto):PV.part deep s.pv 4 none=some (.sl (some 4) (Tm.pvs s.cl.head.args)):=by
 cases s with|mk i c=>cases c with|mk h b=>cases h;rfl
theorem jt{m:List (Int × PV)}{hp:Heap}{r:Nat}{s:Sh}{v:Int}(h:hp[r]? =some (.map none (Ya m))):YF false none (P4 0) false hp [.map r,.pv s (.int .i64 v)]=some (match Y6 v m with|some x=>.pv none x|none=>P4 0):=by
 grind [jj,kL,kK]
set_option maxRecDepth 20000 in
theorem Qy(d:Dbs)(hl:d.procs.length<1000000000)(ht:totD d.procs<1000000000)(hz:∀p∈d.procs,∀s∈p.cls,s.cl.head.size<100000000/\s.cl.body.size<100000000)(hp:Heap):S 15 [d.av] hp=some (.ret (P5 (okD d)),hp):=by
 refine zL rfl rfl rfl (zJ [(some 2,d.pv)]) rfl ?_;have h1:=fun hp=>Nn d hl ht hp;simp only[Dbs.av] at h1;by_cases b1:d.next<1
 ·have e:okD d=false:=by
   grind [okD]
  rw[e];simp -dsimp -implicitDefEqProofs only[go_sem,seval,Dbs.av,YA,Yr,b1,Prc.pvs_len]
  done
 by_cases b2:4294967296<d.next
 ·have e:okD d=false:=by
   grind [okD]
  rw[e];simp -dsimp -implicitDefEqProofs only[go_sem,seval,Dbs.av,YA,Yr,b1,b2,Prc.pvs_len]
  done
 by_cases b3:(500:Int)<(d.procs.length:Int)
 ·have e:okD d=false:=by
   grind [okD]
  rw[e];simp -dsimp -implicitDefEqProofs only[go_sem,seval,Dbs.av,YA,Yr,b1,b2,b3,Prc.pvs_len]
  done
 by_cases b4:(500:Int)<(totD d.procs:Int)
 ·have e:okD d=false:=by
   grind [okD]
  rw[e];simp -dsimp -implicitDefEqProofs only[go_sem,seval,Dbs.av,YA,Yr,b1,b2,b3,b4,h1,Prc.pvs_len]
  done
 obtain⟨R,hR⟩:∃R,R=okPs d.next none [] d.procs:=⟨_,rfl⟩
 have e:okD d=R:=by
  grind [okD]
 rw[e];simp -dsimp -implicitDefEqProofs only[go_sem,seval,Dbs.av,YA,Yr,b1,b2,b3,b4,h1,Prc.pvs_len];refine Yf (α:=List Int) d.procs.length (fun i seen=>R=okPs d.next (if i=0 then none else d.procs[i - 1]?) seen (d.procs.drop i)) (fun i seen=>⟨[(1,.ptr 0 0),(3,.map 1),(4,P5 true),(30,.pv none (.sl (some 4) (Prc.pvs d.procs))),(31,P4 d.procs.length),(32,P4 i)],vH d seen⟩) [] ⟨by grind,rfl⟩ ?_ ?_
 ·rintro i seen h hinv;have hc:(i:Int)<(d.procs.length:Int):=by omega
  have w1:IntKind.i64.wrap ((i:Int)+1)=((i+1:Nat):Int):=by grind [zO]
  obtain⟨p,hpp⟩:∃p,d.procs[i]? =some p:=⟨_,Zd h⟩;have hpm:=Zi hpp;have hpl:=Qx hpm;have h2:=fun hp=>Nl p.name p.ar hp;rw[js hpp,okPs] at hinv;have hvl:(vH d seen).length=2:=rfl;have hg0:∀X,(vH d seen++X)[0]? =some (.box (some 2) (.pv (some 2) d.pv)):=fun _=>rfl;obtain⟨V,hV⟩:∃V,V=vH d seen:=⟨_,rfl⟩;rw[<-hV] at hvl hg0 ⊢;have h2:∀hp,S 53 [P6 p.name,P4 p.ar] hp=some (.ret (P5 (namB p)),hp):=h2;by_cases nb:namB p=true
  rotate_left
  ·have nb':namB p=false:=by grind
   have hR0:R=false:=by grind
   rw[nb'] at h2;rw[hR0];simp -dsimp -implicitDefEqProofs only[go_sem,seval,hc,w1,zM (Prc.pvs_get hpp),Yq,Yu,h2,hvl,hg0,zH (Za _),getN hvl,zX hvl,setN hvl,Yg hvl]
   done
  rw[nb,Bool.true_and] at hinv;rw[nb] at h2;have hcase:(¬0<(i:Int)/\preB (if i=0 then none else d.procs[i - 1]?) p=true)\/∃q,0<(i:Int)/\Yc (some 4) [.pv none (.sl (some 4) (Prc.pvs d.procs)),P4 (IntKind.i64.wrap ((i:Int) - 1))]=some (.iptr (some 4) q.pv 0)/\(∀hp,S 54 [.pv (some 4) q.pv,.pv (some 4) p.pv] hp=some (.ret (P4 (ordP q p)),hp))/\preB (if i=0 then none else d.procs[i - 1]?) p=decide (ordP q p<0):=by
   by_cases i0:i=0
   ·left;refine⟨by omega,?_⟩;rw[Zh i0];rfl
   ·right;obtain⟨q,hq⟩:∃q,d.procs[i - 1]? =some q:=⟨_,Zd (by omega)⟩;have w3:IntKind.i64.wrap ((i:Int) - 1)=((i - 1:Nat):Int):=by grind [zO]
    refine⟨q,by omega,by grind [zM,Prc.pvs_get],fun hp=>G7 q p hp,?_⟩;rw[Zb i0,hq];rfl
  have hbad:∀q:Prc,preB (if i=0 then none else d.procs[i - 1]?) p=decide (ordP q p<0)->0<=ordP q p->R=false:=fun q h1 h2=>by
   grind
  have hgood:preB (if i=0 then none else d.procs[i - 1]?) p=true->R=match okSs d.next p seen p.cls with|none=>false|some s=>okPs d.next (some p) s (d.procs.drop (i+1)):=fun h1=>by
   grind
  rcases hcase with⟨i0,hpb⟩|⟨q,i0,hia,hoq,hpb⟩
  rotate_left
  ·by_cases ho:0<=ordP q p
   ·rw[hbad q hpb ho];simp -dsimp -implicitDefEqProofs only[go_sem,seval,hc,w1,i0,hia,hoq,ho,zM (Prc.pvs_get hpp),Yq,Yu,Yr,h2,hvl,hg0,zH (Za _),getN hvl,zX hvl,setN hvl,Yg hvl]
    done
   have hRR:=hgood (by grind);simp -dsimp -implicitDefEqProofs only[go_sem,seval,hc,w1,i0,hia,hoq,ho,zM (Prc.pvs_get hpp),Yq,Yu,Y7,Yr,Sto.pvs_len,h2,hvl,hg0,zH (Za _),getN hvl,zX hvl,setN hvl,Yg hvl];clear hinv hbad hgood h1 h2;have hV2:V=vH d seen:=hV;rw[hV2];refine Yf (α:=List Int) p.cls.length (fun k sn=>okSs d.next p seen p.cls=okSs d.next p sn (p.cls.drop k)) (fun k sn=>⟨[(1,.ptr 0 0),(3,.map 1),(4,P5 true),(6,.ptr 2 0),(30,.pv none (.sl (some 4) (Prc.pvs d.procs))),(31,P4 d.procs.length),(32,P4 i),(59,.pv none (.sl (some 9) (Sto.pvs p.cls))),(60,P4 p.cls.length),(61,P4 k)],[.box (some 2) (.pv (some 2) d.pv),.map none (Ya (yH sn)),.box (some 4) (.pv (some 4) p.pv),.arr (some 9) [] false]⟩) seen ⟨rfl,rfl⟩ ?_ ?_
   ·rintro k sn hk hin;have hck:(k:Int)<(p.cls.length:Int):=by omega
    have wk:IntKind.i64.wrap ((k:Int)+1)=((k+1:Nat):Int):=by grind [zO]
    obtain⟨s,hs⟩:∃s,p.cls[k]? =some s:=⟨_,Zd hk⟩;obtain⟨zs1,zs2⟩:=hz p hpm s (Zi hs);have h3:=fun hp=>G6 s.cl zs1 zs2 hp;simp only[Cz.av] at h3;rw[js hs,okSs] at hin;obtain⟨c,hcc⟩:∃c:Int,c=if s.id∈sn then 1 else 0:=⟨_,rfl⟩
    have hc01:c=0\/c=1:=by grind
    have wc:IntKind.i64.wrap (c+1)=c+1:=zO (by omega) (by omega);obtain⟨m2,hm2⟩:∃m2,m2=mPut s.id (.int .i64 (c+1)) (yH sn):=⟨_,rfl⟩;have hl1:∀X,YF false none (P4 0) false (.box (some 2) (.pv (some 2) d.pv)::.map none (Ya (yH sn))::X) [.map 1,P4 s.id]=some (P4 c):=fun X=>by
     grind [jt,G8]
    have hl2:∀X,YF false none (P4 0) false (.box (some 2) (.pv (some 2) d.pv)::.map none (Ya m2)::X) [.map 1,P4 s.id]=some (P4 (c+1)):=fun X=>by
     grind [jt,qU]
    have hms:∀X,yP false none (.box (some 2) (.pv (some 2) d.pv)::.map none (Ya (yH sn))::X) [.map 1,P4 s.id,P4 (c+1)]=some (.undef,.box (some 2) (.pv (some 2) d.pv)::.map none (Ya m2)::X):=fun X=>by
     grind [QW,Qu]
    have hbadS:okSt d.next p sn s=false->R=false:=fun h=>by
     grind
    by_cases a1:s.id<1
    ·rw[hbadS (by grind [okSt])];simp -dsimp -implicitDefEqProofs only[go_sem,seval,hck,wk,wc,a1,zM (Sto.pvs_get hs),YK,hl1,hl2,hms,YA,zH (Za _)]
     done
    by_cases a2:d.next<=s.id
    ·rw[hbadS (by grind [okSt])];simp -dsimp -implicitDefEqProofs only[go_sem,seval,hck,wk,wc,a1,a2,zM (Sto.pvs_get hs),YK,yx,yK,yZ,Yq,Yu,Tm.pvs_len,hl1,hl2,hms,YA,zH (Za _)]
     done
    have p1:decide (1<=s.id)=true:=ZL (by omega);have p2:decide (s.id<d.next)=true:=ZL (by omega);by_cases a3:s.id∈sn
    ·have hc1:c=1:=by grind
     have a3':1<c+1:=by omega
     rw[hbadS (by grind [okSt])];simp -dsimp -implicitDefEqProofs only[go_sem,seval,hck,wk,wc,a1,a2,a3',zM (Sto.pvs_get hs),YK,yx,yK,yZ,Yq,Yu,Tm.pvs_len,hl1,hl2,hms,YA,zH (Za _)]
     done
    have hc0:c=0:=by grind
    have a3':¬1<c+1:=by omega
    have p3:decide (s.id ∉ sn)=true:=ZL a3;cases a4:okC s.cl with
    |false=>
     rw[hbadS (by grind [okSt])];rw[a4] at h3;simp -dsimp -implicitDefEqProofs only[go_sem,seval,hck,wk,wc,a1,a2,a3',h3,zM (Sto.pvs_get hs),YK,yx,yK,yZ,Yq,Yu,Tm.pvs_len,hl1,hl2,hms,YA,zH (Za _)]
     done
    |true=>
    rw[a4] at h3;by_cases a5:s.cl.head.name=p.name
    rotate_left
    ·rw[hbadS (by grind [okSt])];have a5':=Zj a5;simp -dsimp -implicitDefEqProofs only[go_sem,seval,hck,wk,wc,a1,a2,a3',h3,a5',zM (Sto.pvs_get hs),YK,yx,yK,yZ,Yq,Yu,Tm.pvs_len,hl1,hl2,hms,YA,zH (Za _)]
     done
    have a5':=Zg a5;by_cases a6:(s.cl.head.args.length:Int)=p.ar
    rotate_left
    ·rw[hbadS (by grind [okSt])];have a6':=Zj a6;simp -dsimp -implicitDefEqProofs only[go_sem,seval,hck,wk,wc,a1,a2,a3',h3,a5',a6',zM (Sto.pvs_get hs),YK,yx,yK,yZ,Yq,Yu,Tm.pvs_len,hl1,hl2,hms,YA,zH (Za _)]
     done
    have a6':=Zg a6;have hok:okSt d.next p sn s=true:=by grind [okSt]
    rw[Zh hok] at hin;have hm3:m2=yH (sn++[s.id]):=by grind [Vb]
    simp -dsimp -implicitDefEqProofs only[go_sem,seval,hck,wk,wc,a1,a2,a3',h3,a5',a6',zM (Sto.pvs_get hs),YK,yx,yK,yZ,Yq,Yu,Tm.pvs_len,hl1,hl2,hms,YA,zH (Za _)];refine⟨sn++[s.id],hin,?_⟩;rw[hm3];rfl
   ·rintro sn hin;have hck:¬(p.cls.length:Int)<(p.cls.length:Int):=by omega
    rw[List.drop_length,okSs] at hin;rw[hin] at hRR;simp -dsimp -implicitDefEqProofs only[go_sem,seval,hck,w1];refine⟨sn,?_,?_⟩
    ·grind
    ·rfl
  ·have hRR:=hgood hpb;simp -dsimp -implicitDefEqProofs only[go_sem,seval,hc,w1,i0,zM (Prc.pvs_get hpp),Yq,Yu,Y7,Yr,Sto.pvs_len,h2,hvl,hg0,zH (Za _),getN hvl,zX hvl,setN hvl,Yg hvl];clear hinv hbad hgood h1 h2;have hV2:V=vH d seen:=hV;rw[hV2];refine Yf (α:=List Int) p.cls.length (fun k sn=>okSs d.next p seen p.cls=okSs d.next p sn (p.cls.drop k)) (fun k sn=>⟨[(1,.ptr 0 0),(3,.map 1),(4,P5 true),(6,.ptr 2 0),(30,.pv none (.sl (some 4) (Prc.pvs d.procs))),(31,P4 d.procs.length),(32,P4 i),(59,.pv none (.sl (some 9) (Sto.pvs p.cls))),(60,P4 p.cls.length),(61,P4 k)],[.box (some 2) (.pv (some 2) d.pv),.map none (Ya (yH sn)),.box (some 4) (.pv (some 4) p.pv),.arr (some 9) [] false]⟩) seen ⟨rfl,rfl⟩ ?_ ?_
   ·rintro k sn hk hin;have hck:(k:Int)<(p.cls.length:Int):=by omega
    have wk:IntKind.i64.wrap ((k:Int)+1)=((k+1:Nat):Int):=by grind [zO]
    obtain⟨s,hs⟩:∃s,p.cls[k]? =some s:=⟨_,Zd hk⟩;obtain⟨zs1,zs2⟩:=hz p hpm s (Zi hs);have h3:=fun hp=>G6 s.cl zs1 zs2 hp;simp only[Cz.av] at h3;rw[js hs,okSs] at hin;obtain⟨c,hcc⟩:∃c:Int,c=if s.id∈sn then 1 else 0:=⟨_,rfl⟩
    have hc01:c=0\/c=1:=by grind
    have wc:IntKind.i64.wrap (c+1)=c+1:=zO (by omega) (by omega);obtain⟨m2,hm2⟩:∃m2,m2=mPut s.id (.int .i64 (c+1)) (yH sn):=⟨_,rfl⟩;have hl1:∀X,YF false none (P4 0) false (.box (some 2) (.pv (some 2) d.pv)::.map none (Ya (yH sn))::X) [.map 1,P4 s.id]=some (P4 c):=fun X=>by
     grind [jt,G8]
    have hl2:∀X,YF false none (P4 0) false (.box (some 2) (.pv (some 2) d.pv)::.map none (Ya m2)::X) [.map 1,P4 s.id]=some (P4 (c+1)):=fun X=>by
     grind [jt,qU]
    have hms:∀X,yP false none (.box (some 2) (.pv (some 2) d.pv)::.map none (Ya (yH sn))::X) [.map 1,P4 s.id,P4 (c+1)]=some (.undef,.box (some 2) (.pv (some 2) d.pv)::.map none (Ya m2)::X):=fun X=>by
     grind [QW,Qu]
    have hbadS:okSt d.next p sn s=false->R=false:=fun h=>by
     grind
    by_cases a1:s.id<1
    ·rw[hbadS (by grind [okSt])];simp -dsimp -implicitDefEqProofs only[go_sem,seval,hck,wk,wc,a1,zM (Sto.pvs_get hs),YK,hl1,hl2,hms,YA,zH (Za _)]
     done
    by_cases a2:d.next<=s.id
    ·rw[hbadS (by grind [okSt])];simp -dsimp -implicitDefEqProofs only[go_sem,seval,hck,wk,wc,a1,a2,zM (Sto.pvs_get hs),YK,yx,yK,yZ,Yq,Yu,Tm.pvs_len,hl1,hl2,hms,YA,zH (Za _)]
     done
    have p1:decide (1<=s.id)=true:=ZL (by omega);have p2:decide (s.id<d.next)=true:=ZL (by omega);by_cases a3:s.id∈sn
    ·have hc1:c=1:=by grind
     have a3':1<c+1:=by omega
     rw[hbadS (by grind [okSt])];simp -dsimp -implicitDefEqProofs only[go_sem,seval,hck,wk,wc,a1,a2,a3',zM (Sto.pvs_get hs),YK,yx,yK,yZ,Yq,Yu,Tm.pvs_len,hl1,hl2,hms,YA,zH (Za _)]
     done
    have hc0:c=0:=by grind
    have a3':¬1<c+1:=by omega
    have p3:decide (s.id ∉ sn)=true:=ZL a3;cases a4:okC s.cl with
    |false=>
     rw[hbadS (by grind [okSt])];rw[a4] at h3;simp -dsimp -implicitDefEqProofs only[go_sem,seval,hck,wk,wc,a1,a2,a3',h3,zM (Sto.pvs_get hs),YK,yx,yK,yZ,Yq,Yu,Tm.pvs_len,hl1,hl2,hms,YA,zH (Za _)]
     done
    |true=>
    rw[a4] at h3;by_cases a5:s.cl.head.name=p.name
    rotate_left
    ·rw[hbadS (by grind [okSt])];have a5':=Zj a5;simp -dsimp -implicitDefEqProofs only[go_sem,seval,hck,wk,wc,a1,a2,a3',h3,a5',zM (Sto.pvs_get hs),YK,yx,yK,yZ,Yq,Yu,Tm.pvs_len,hl1,hl2,hms,YA,zH (Za _)]
     done
    have a5':=Zg a5;by_cases a6:(s.cl.head.args.length:Int)=p.ar
    rotate_left
    ·rw[hbadS (by grind [okSt])];have a6':=Zj a6;simp -dsimp -implicitDefEqProofs only[go_sem,seval,hck,wk,wc,a1,a2,a3',h3,a5',a6',zM (Sto.pvs_get hs),YK,yx,yK,yZ,Yq,Yu,Tm.pvs_len,hl1,hl2,hms,YA,zH (Za _)]
     done
    have a6':=Zg a6;have hok:okSt d.next p sn s=true:=by grind [okSt]
    rw[Zh hok] at hin;have hm3:m2=yH (sn++[s.id]):=by grind [Vb]
    simp -dsimp -implicitDefEqProofs only[go_sem,seval,hck,wk,wc,a1,a2,a3',h3,a5',a6',zM (Sto.pvs_get hs),YK,yx,yK,yZ,Yq,Yu,Tm.pvs_len,hl1,hl2,hms,YA,zH (Za _)];refine⟨sn++[s.id],hin,?_⟩;rw[hm3];rfl
   ·rintro sn hin;have hck:¬(p.cls.length:Int)<(p.cls.length:Int):=by omega
    rw[List.drop_length,okSs] at hin;rw[hin] at hRR;simp -dsimp -implicitDefEqProofs only[go_sem,seval,hck,w1];refine⟨sn,?_,?_⟩
    ·grind
    ·rfl
 ·rintro seen hinv;have hc:¬(d.procs.length:Int)<(d.procs.length:Int):=by omega
  rw[List.drop_length] at hinv;have:R=true:=by rw[hinv];rfl
  rw[this];simp -dsimp -implicitDefEqProofs only[go_sem,seval,hc]
  done
theorem G9:∀a:List UInt8,Op.bytesLess a a=false
 |[]=>rfl
 |x::r=>by
  have:=G9 r
  grind [Op.bytesLess]
theorem gc:∀a b c:List UInt8,Op.bytesLess a b=true->Op.bytesLess b c=true->Op.bytesLess a c=true
 |_,[],_,h,_=>by grind [Op.bytesLess]
 |_,_::_,[],_,h=>by grind [Op.bytesLess]
 |[],_::_,_::_,_,_=>rfl
 |x::a,y::b,z::c,h1,h2=>by
  simp only[Op.bytesLess,Bool.or_eq_true,Zk,ZH,beq_iff_eq] at h1 h2 ⊢;rcases h1 with h1|⟨rfl,h1⟩
  ·grind
  ·rcases h2 with h2|⟨rfl,h2⟩
   ·grind
   ·exact .inr ⟨rfl,gc a b c h1 h2⟩
theorem gd{p q:Prc}:ordP p q<0↔Op.bytesLess p.name q.name=true\/(p.name=q.name/\p.ar<q.ar):=by
 grind [ordP,strC,intC]
theorem ju{p q r:Prc}(h1:ordP p q<0)(h2:ordP q r<0):ordP p r<0:=by
 rw[gd] at h1 h2 ⊢
 grind [gc]
theorem ordP_zero{p q:Prc}:ordP p q=0↔p.name=q.name/\p.ar=q.ar:=by
 grind [ordP,strC,intC,G9]
def lbD(l:List Prc)(q:Prc):Nat:=(l.takeWhile fun p=>decide (ordP p q<0)).length
def fnD(l:List Prc)(q:Prc):Bool:=match l[lbD l q]? with
 |some p=>decide (ordP p q=0)
 |none=>false
def IncP(l:List Prc):Prop:=∀(i j:Nat) (a b:Prc),i<j->l[i]? =some a->l[j]? =some b->ordP a b<0
theorem Np(l:List Prc)(q:Prc):lbD l q<=l.length:=by
 grind [lbD,List.takeWhile_prefix]
theorem jv{q:Prc}:∀{l:List Prc} {k:Nat} {x:Prc},IncP l->l[k]? =some x->(ordP x q<0↔k<lbD l q)
 |[],k,x,_,h=>by grind
 |y::r,k,x,hi,h=>by
  have hr:IncP r:=fun i j a b hij ha hb=>hi (i+1) (j+1) a b (by omega) (by grind) (by grind);unfold lbD;rw[List.takeWhile_cons];by_cases hy:ordP y q<0
  ·rw[Zh (ZL hy),ZV];cases k with
   |zero=>
    grind
   |succ k=>
    have:=jv (q:=q) hr (k:=k) (x:=x) (by grind)
    grind [lbD]
  ·rw[Zb (by grind)];constructor
   ·intro hx;exfalso;cases k with
    |zero=>
     grind
    |succ k=>exact hy (ju (hi 0 (k+1) y x (by omega) rfl h) hx)
   grind
theorem Nq(p q:Prc)(hp:Heap):S 97 [p.av,q.av] hp=some (.ret (P4 (ordP p q)),hp):=by
 refine zL rfl rfl rfl (zJ [(some 4,p.pv),(some 4,q.pv)]) rfl ?_;have h1:=fun hp=>G7 p q hp;simp only[Prc.av] at h1;simp -dsimp -implicitDefEqProofs only[go_sem,seval,Prc.av,h1]
 done
theorem Nr(l:List Prc)(t:Prc)(hl:l.length<1000000000)(hi:IncP l)(hp:Heap):
  S 96 [.pv none (.sl (some 4) (Prc.pvs l)),.pv (some 4) t.pv,.pv none (.func (.func 97))] hp=some (.ret (.tuple [P4 (lbD l t:Int),P5 (fnD l t)]),hp):=by
 refine zL rfl rfl rfl (zJ [(none,.sl (some 4) (Prc.pvs l)),(some 4,t.pv),(none,.func (.func 97))]) rfl ?_;have hlb:=Np l t;have hcmp:∀(x:Prc) hp,S 97 [.pv (some 4) x.pv,.pv (some 4) t.pv] hp=some (.ret (P4 (ordP x t)),hp):=fun x hp=>Nq x t hp;simp -dsimp -implicitDefEqProofs only[go_sem,seval,Prc.pvs_len];refine XL (fun n st=>∃i j:Nat,n=j - i/\i<=lbD l t/\lbD l t<=j/\j<=l.length/\st=⟨[(0,.pv none (.sl (some 4) (Prc.pvs l))),(2,.pv none (.func (.func 97))),(4,.ptr 0 0),(8,P4 (l.length:Int)),(9,P4 i),(10,P4 j)],[.box (some 4) (.pv (some 4) t.pv)]⟩) (n:=l.length) ⟨0,l.length,by omega,by omega,hlb,by omega,?_⟩ ?_
 ·simp -dsimp -implicitDefEqProofs only[go_sem,seval]
  try rfl
 ·rintro n st ⟨i,j,hn,h1,h2,h3,rfl⟩;by_cases hij:i<j
  ·have hc:(i:Int)<(j:Int):=by omega
   obtain⟨x,hx⟩:∃x,l[(i+j) / 2]? =some x:=⟨_,Zd (by omega)⟩;have hcall:=hcmp x;have hs:=jv (q:=t) hi hx;have w1:IntKind.i64.wrap ((i:Int)+(j:Int))=((i+j:Nat):Int):=by grind [zO]
   have w2:IntKind.u64.wrap ((i+j:Nat):Int)=((i+j:Nat):Int):=Gh (by omega) (by omega);have w3:IntKind.i64.wrap (((i+j:Nat):Int) / 2)=(((i+j) / 2:Nat):Int):=by grind [zO]
   have w4:IntKind.i64.wrap ((((i+j) / 2:Nat):Int)+1)=(((i+j) / 2+1:Nat):Int):=by grind [zO]
   by_cases h0:ordP x t<0
   ·simp -dsimp -implicitDefEqProofs only[go_sem,seval,Prc.pvs_len,hc,jc (show 0<IntKind.bits .u64 by decide),w1,w2,w3,w4,zM (Prc.pvs_get hx),hcall,h0];refine⟨j - ((i+j) / 2+1),by omega,(i+j) / 2+1,j,rfl,?_,h2,h3,rfl⟩
    grind
   ·simp -dsimp -implicitDefEqProofs only[go_sem,seval,Prc.pvs_len,hc,jc (show 0<IntKind.bits .u64 by decide),w1,w2,w3,w4,zM (Prc.pvs_get hx),hcall,h0];refine⟨(i+j) / 2 - i,by omega,i,(i+j) / 2,rfl,h1,?_,by omega,rfl⟩
    grind
  ·have hc:¬(i:Int)<(j:Int):=by omega
   obtain rfl:i=lbD l t:=by omega
   by_cases hll:lbD l t<l.length
   ·have hc2:((lbD l t:Nat):Int)<(l.length:Int):=by omega
    obtain⟨x,hx⟩:∃x,l[lbD l t]? =some x:=⟨_,Zd hll⟩;have hcall:=hcmp x;have hf:fnD l t=decide (ordP x t=0):=by grind [fnD]
    simp -dsimp -implicitDefEqProofs only[go_sem,seval,Prc.pvs_len,hc,hc2,zM (Prc.pvs_get hx),hcall,hf]
   ·have hc2:¬((lbD l t:Nat):Int)<(l.length:Int):=by omega
    have hf:fnD l t=false:=by grind [fnD]
    simp -dsimp -implicitDefEqProofs only[go_sem,seval,Prc.pvs_len,hc,hc2,hf]
theorem Ns(d:Dbs)(s:List UInt8)(a:Int)(hl:d.procs.length<1000000000)(hi:IncP d.procs)(hp:Heap):S 56 [d.av,P6 s,P4 a] hp=some (.ret (.tuple [P4 (lbD d.procs ⟨s,a,false,[]⟩:Int),P5 (fnD d.procs ⟨s,a,false,[]⟩)]),hp):=by
 refine zL rfl rfl rfl (zJ [(some 2,d.pv),(none,.str s),(none,.int .i64 a)]) rfl ?_;have hbu:zR A2 [0,1] [P6 s,P4 a]=some (.agg [(none,P6 s),(none,P4 a),(none,P5 false),(none,.tsl (some 9) [])]):=rfl;have h1:∀hp,S 96 [.pv none (.sl (some 4) (Prc.pvs d.procs)),.agg [(none,P6 s),(none,P4 a),(none,P5 false),(none,.tsl (some 9) [])],.pv none (.func (.func 97))] hp=some (.ret (.tuple [P4 (lbD d.procs ⟨s,a,false,[]⟩:Int),P5 (fnD d.procs ⟨s,a,false,[]⟩)]),hp):=fun hp=>
  yX (F:=find tab) (prim:=prim) (ps:=[(none,.sl (some 4) (Prc.pvs d.procs)),(some 4,(Prc.mk s a false []).pv),(none,.func (.func 97))]) (hp1:=hp) rfl rfl rfl rfl (Nr d.procs ⟨s,a,false,[]⟩ hl hi [])
 simp -dsimp -implicitDefEqProofs only[go_sem,seval,Dbs.av,Yr,hbu,h1]
 done
theorem ge(next:Int):∀(l:List Prc) (q:Option Prc) (seen:List Int),okPs next q seen l=true->(∀p,l.head? =some p->preB q p=true)/\IncP l
 |[],q,seen,_=>⟨fun p h=>(by cases h),fun i j a b _ h=>(by grind)⟩
 |x::r,q,seen,h=>by
  rw[okPs,Zk,Zk] at h;obtain⟨_,h2,h3⟩:=h;split at h3
  ·cases h3
  ·rename_i s' hs;obtain⟨g1,g2⟩:=ge next r (some x) s' h3
   have hx:∀(j:Nat) (b:Prc),r[j]? =some b->ordP x b<0:=by
    intro j b hb;cases r with
    |nil=>grind
    |cons y r'=>
     have h0:=g1 y rfl;have h0':ordP x y<0:=Z5 h0;cases j with
     |zero=>
      grind
     |succ j=>exact ju h0' (g2 0 (j+1) y b (by omega) rfl hb)
   refine⟨fun p hp=>(by grind),fun i j a b hij ha hb=> ?_⟩;cases j with
   |zero=>omega
   |succ j=>
    cases i with
    |zero=>
     grind
    |succ i=>exact g2 i j a b (by omega) (by grind) (by grind)
def BndD(d:Dbs):Prop:=d.procs.length<1000000000/\totD d.procs<1000000000/\∀p∈d.procs,∀s∈p.cls,s.cl.head.size<100000000/\s.cl.body.size<100000000
theorem Nt{d:Dbs}(h:okD d=true):IncP d.procs:=by
 grind [okD,ge]
def Sto.av(s:Sto):AV:=.pv (some 9) s.pv
theorem Nu(s:Sto):PV.part deep s.pv 1 (some 4)=some s.cl.head.pv:=by
 cases s with|mk i c=>cases c with|mk h b=>cases h;rfl
theorem Nv(s:Sto):PV.part deep s.pv 5 (some 4)=some s.cl.body.pv:=by
 cases s with|mk i c=>cases c with|mk h b=>cases h;cases b;rfl
theorem Nw(s:Sto)(vh:s.cl.head.valid=true)(vb:s.cl.body.valid=true)(hp:Heap):S 98 [s.av] hp=some (.ret s.av,hp):=by
 refine zL rfl rfl rfl (zJ [(some 9,s.pv)]) rfl ?_;have zh:=valid_size vh;have zb:=valid_size vb;have h1:=fun hp=>Xu s.cl.head hp vh (by omega);have h2:=fun hp=>Xu s.cl.body hp vb (by omega);have b1:zR A6 [0,1] [.pv (some 4) s.cl.head.pv,.pv (some 4) s.cl.body.pv]=some (.pv (some 8) s.cl.pv):=rfl;have b2:zR [(none,P4 0),(some 8,.agg A6)] [0,1] [P4 s.id,.pv (some 8) s.cl.pv]=some (.pv (some 9) s.pv):=rfl;simp only[Tm.av] at h1 h2;simp -dsimp -implicitDefEqProofs only[b1,b2,g98,c98r0,c98r1,c98,go_sem,seval,Sto.av,YK,yx,Nu,Nv,h1,h2,zH (Za _)]
 done
def okCl(p:Prc):Prop:=∀s∈p.cls,s.cl.head.valid=true/\s.cl.body.valid=true
def pA(p:Prc)(q:Nat):AV:=.agg [(none,P6 p.name),(none,P4 p.ar),(none,P5 p.dyn),(none,.sl (some 9) q p.cls.length 0 p.cls.length)]
def zS:PV:=.agg [(none,.int .i64 0),(some 8,.agg [(some 4,.agg [(none,.int .i64 0),(none,.int .i64 0),(none,.str []),(none,.sl (some 4) [])]),(some 4,.agg [(none,.int .i64 0),(none,.int .i64 0),(none,.str []),(none,.sl (some 4) [])])])]
theorem gf{Γ:Oracle}{b:Nat}{vs:List AV}{hp:Heap}{K:AV->Heap->Prop}{Kp:PV->Heap->Prop}(sh:Sh):opK (aOp Γ b (.copy sh) vs hp) K Kp=YM (Xy sh hp vs) K:=by
 show opK (match Xy sh hp vs with|some (v,hp')=>some (OpRes.val v hp')|none=>none) K Kp=_;cases Xy sh hp vs with
 |none=>rfl
 |some r=>cases r;rfl
theorem Nx{α:Type}{l:List α}{i:Nat}{x:α}(h:l[i]? =some x):l.set i x=l:=by
 grind [List.set_getElem_self]
theorem gg(p:Prc)(hl:p.cls.length<1000000)(hc:okCl p)(hp:Heap):S 57 [p.av] hp=some (.ret (pA p (hp.length+3)),hp++[.box (some 4) (pA p (hp.length+3)),.box (some 4) (pA p (hp.length+3)),.arr (some 9) [] false,.arr (some 9) (Sto.pvs p.cls) false]):=by
 refine Yj rfl rfl rfl rfl ?_;have hpl:=Sto.pvs_len p.cls;have hlim:p.cls.length<=lim:=by grind [lim]
 have hmk:∀H:Heap,xo (some 9) zS H [P4 p.cls.length,P4 p.cls.length]=some (.sl (some 9) H.length p.cls.length 0 p.cls.length,H++[.arr (some 9) (List.replicate p.cls.length zS) false]):=fun H=>by
  grind [xo,xI]
 have hcp:∀x0 x1 x2:AObj,Xy (some 9) (hp++[x0,x1,x2,.arr (some 9) (List.replicate p.cls.length zS) false]) [.sl (some 9) (hp.length+3) p.cls.length 0 p.cls.length,.pv none (.sl (some 9) (Sto.pvs p.cls))]=some (P4 p.cls.length,hp++[x0,x1,x2,.arr (some 9) (Sto.pvs p.cls) false]):=fun x0 x1 x2=>by
  have e:Nat.min p.cls.length p.cls.length=p.cls.length:=Nat.min_self _;simp_all[Zn,Xy,elems]
 simp only[zS] at hmk;simp -dsimp -implicitDefEqProofs only[go_sem,seval,Prc.av,Y7,hpl,hmk,zH (Zf _ _)];simp only[zS] at hcp;simp -dsimp -implicitDefEqProofs only[go_sem,seval,Prc.av,Y7,hpl,gf,hcp,zH (Zf _ _)];obtain⟨x1,hx1⟩:∃x1:AObj,x1=.box (some 4) (.agg [(none,P6 []),(none,P4 0),(none,P5 false),(none,.sl (some 9) (hp.length+2) 0 0 0)]):=⟨_,rfl⟩;rw[<-hx1];refine Yf (α:=Unit) p.cls.length (fun _ _=>True) (fun i _=>⟨[(1,.ptr hp.length 0),(2,.ptr (hp.length+1) 0),(3,.sl (some 9) (hp.length+3) p.cls.length 0 p.cls.length),(14,.sl (some 9) (hp.length+3) p.cls.length 0 p.cls.length),(15,P4 p.cls.length),(16,P4 i)],hp++[.box (some 4) (.pv (some 4) p.pv),x1,.arr (some 9) [] false,.arr (some 9) (Sto.pvs p.cls) false]⟩) () ⟨trivial,rfl⟩ ?_ ?_
 ·rintro i - h -;have hcc:(i:Int)<(p.cls.length:Int):=by omega
  have w1:IntKind.i64.wrap ((i:Int)+1)=((i+1:Nat):Int):=by grind [zO]
  obtain⟨s,hs⟩:∃s,p.cls[i]? =some s:=⟨_,Zd h⟩;obtain⟨vh,vb⟩:=hc s (Zi hs);have h3:=fun hp=>Nw s vh vb hp;simp only[Sto.av] at h3;have hia:Yc (some 9) [.sl (some 9) (hp.length+3) p.cls.length 0 p.cls.length,P4 i]=some (.eptr (some 9) (hp.length+3) p.cls.length i 0):=by
   grind [xH]
  have hld:∀(x0 x1 x2:AObj) (X:Heap),aload (some 9) (hp++x0::x1::x2::.arr (some 9) (Sto.pvs p.cls) false::X) (.eptr (some 9) (hp.length+3) p.cls.length i 0)=some (.pv (some 9) s.pv):=fun x0 x1 x2 X=>by
   grind [aload,Sto.pvs_get]
  have hst:∀(x0 x1 x2:AObj) (X:Heap),zK (some 9) hp.length (hp++x0::x1::x2::.arr (some 9) (Sto.pvs p.cls) false::X) [.eptr (some 9) (hp.length+3) p.cls.length i 0,.pv (some 9) s.pv]=some (.undef,hp++x0::x1::x2::.arr (some 9) (Sto.pvs p.cls) false::X):=fun x0 x1 x2 X=>by
   have e:∀H,AV.freeze deep (.pv (some 9) s.pv) H=some (s.pv,H):=fun _=>rfl;have e2:=Nx (Sto.pvs_get hs);simp_all[zK,astore,AV.shp]
  simp -dsimp -implicitDefEqProofs only[go_sem,seval,hcc,w1,hia,hld,hst,h3,zH (Zf _ _)];simp_all[yF,AObj.refs,AV.refsIn,AV.refsIn.go]
 ·rintro - -;have hcc:¬(p.cls.length:Int)<(p.cls.length:Int):=by omega
  have hup:∀(q:Nat),AV.upd deep (.pv (some 4) p.pv) 3 none (.sl (some 9) q p.cls.length 0 p.cls.length)=some (pA p q):=fun q=>rfl;have hs1:∀x1 x2 x3:AObj,zK none hp.length (hp++[.box (some 4) (.pv (some 4) p.pv),x1,x2,x3]) [.ptr hp.length 3,.sl (some 9) (hp.length+3) p.cls.length 0 p.cls.length]=some (.undef,hp++[.box (some 4) (pA p (hp.length+3)),x1,x2,x3]):=fun x1 x2 x3=>by
   grind [zK,astore,AV.plain,AV.shp,AV.own]
  have hs2:∀(x0 x2 x3:AObj) (v:AV),zK (some 4) hp.length (hp++[x0,.box (some 4) v,x2,x3]) [.ptr (hp.length+1) 0,pA p (hp.length+3)]=some (.undef,hp++[x0,.box (some 4) (pA p (hp.length+3)),x2,x3]):=fun x0 x2 x3 v=>by
   simp[zK,astore,getN rfl,setN rfl,pA,AV.plain,AV.shp,AV.own,zU,Y3,total,Sh.size]
  rw[hx1];simp -dsimp -implicitDefEqProofs only[go_sem,seval,hcc,hs1,hs2]
  grind [pA,AV.refsIn,AV.refsIn.go]
theorem Vc{c:Cz}(h:okC c=true):c.head.valid=true/\c.body.valid=true:=by
 simp only[okC,Zk] at h;obtain⟨h1,_,_,h4,_⟩:=h;refine⟨h1,?_⟩;split at h4
 ·simp_all[G5]
 grind
theorem gh(next:Int)(p:Prc):∀(l:List Sto) (seen s':List Int),okSs next p seen l=some s'->∀s∈l,okC s.cl=true
 |[],_,_,_,s,hs=>by cases hs
 |x::r,seen,s',h,s,hs=>by
  rw[okSs] at h;split at h
  ·rename_i hx;rcases ZB.1 hs with rfl|hs
   ·grind [okSt]
   ·exact gh next p r _ s' h s hs
  grind
theorem gi(next:Int):∀(l:List Prc) (q:Option Prc) (seen:List Int),okPs next q seen l=true->∀p∈l,okCl p
 |[],_,_,_,p,hp=>by cases hp
 |x::r,q,seen,h,p,hp=>by
  rw[okPs,Zk,Zk] at h;obtain⟨_,_,h3⟩:=h;split at h3
  ·cases h3
  ·rename_i s' hs;rcases ZB.1 hp with rfl|hp
   ·exact fun s hs'=>Vc (gh next _ _ _ _ hs s hs')
   ·exact gi next r (some x) s' h3 p hp
theorem jw{d:Dbs}(h:okD d=true):∀p∈d.procs,okCl p:=by
 grind [okD,gi]
def zP:Prc:=⟨[],0,false,[]⟩
def keyP(s:List UInt8)(a:Int):Prc:=⟨s,a,false,[]⟩
def yb(d:Dbs)(s:List UInt8)(a:Int):Option Prc:=if okD d=true then(if fnD d.procs (keyP s a)=true then d.procs[lbD d.procs (keyP s a)]? else none) else none
theorem Ny(p:Prc)(q:Nat)(H:Heap)(z:Bool)(h:H[q]? =some (.arr (some 9) (Sto.pvs p.cls) z)):AV.freeze deep (pA p q) H=some (p.pv,H.set q (.arr (some 9) (Sto.pvs p.cls) true)):=by
 have e:∀n l hp,AV.freeze (n+1) (.agg l) hp=match AV.freeze.go n l hp with|some (ps,hp')=>some (.agg ps,hp')|none=>none:=fun _ _ _=>rfl
 show AV.freeze (7+1) (.agg _) _=_;simp[e,AV.freeze.go,AV.freeze,h,Sto.pvs_len,Prc.pv]
set_option maxRecDepth 20000 in
theorem gj(d:Dbs)(hb:BndD d)(s:List UInt8)(a:Int)(hp:Heap):S 17 [d.av,P6 s,P4 a] hp=some (.ret (.tuple [((yb d s a).getD zP).av,.pv none (.bool (yb d s a).isSome)]),hp):=by
 refine zL rfl rfl rfl (zJ [(some 2,d.pv),(none,.str s),(none,.int .i64 a)]) rfl ?_;have h1:=fun hp=>Qy d hb.1 hb.2.1 hb.2.2 hp;have hz0:zR A2 [] []=some (.agg A2):=rfl;simp only[Dbs.av] at h1;by_cases hv:okD d=true
 rotate_left
 ·have hv':okD d=false:=by grind
  have e:yb d s a=none:=by grind [yb]
  rw[hv'] at h1;rw[e];simp -dsimp -implicitDefEqProofs only[go_sem,seval,Dbs.av,h1,hz0,zH (Za _)];exact⟨_,rfl⟩
 have hi:=Nt hv;have h2:=fun hp=>Ns d s a hb.1 hi hp;have ek:(⟨s,a,false,[]⟩:Prc)=keyP s a:=rfl;rw[ek] at h2;rw[hv] at h1;simp only[Dbs.av] at h2;by_cases hf:fnD d.procs (keyP s a)=true
 rotate_left
 ·have hf':fnD d.procs (keyP s a)=false:=by grind
  have e:yb d s a=none:=by grind [yb]
  rw[hf'] at h2;rw[e];simp -dsimp -implicitDefEqProofs only[go_sem,seval,Dbs.av,h1,h2,hz0,zH (Za _)];exact⟨_,rfl⟩
 rw[hf] at h2;obtain⟨p,hpp⟩:∃p,d.procs[lbD d.procs (keyP s a)]? =some p:=by
  grind [fnD]
 have e:yb d s a=some p:=by grind [yb]
 rw[e];have hpm:=Zi hpp;have hcl:=Qx hpm;have htd:totD d.procs<=500:=by
  grind [okD]
 have h3:=fun hp=>gg p (by omega) (jw hv p hpm) hp;simp only[Prc.av] at h3;have hst:∀(x0 x2:AObj) (v:AV) (X:Heap),zK (some 4) 0 (x0::.box (some 4) v::x2::X) [.ptr 1 0,pA p 6]=some (.undef,x0::.box (some 4) (pA p 6)::x2::X):=fun x0 x2 v X=>by
  simp[zK,astore,pA,AV.plain,AV.shp,AV.own,zU,Y3,total,Sh.size]
 simp -dsimp -implicitDefEqProofs only[go_sem,seval,Dbs.av,h1,h2,h3,hz0,hst,Yr,zM (Prc.pvs_get hpp)];obtain⟨H,hH⟩:∃H:Heap,H=[.box (some 2) (.pv (some 2) d.pv),.box (some 4) (pA p 6),.arr (some 9) [] false,.box (some 4) (pA p 6),.box (some 4) (pA p 6),.arr (some 9) [] false,.arr (some 9) (Sto.pvs p.cls) false]:=⟨_,rfl⟩;have hfz:=Ny p 6 H false (by grind);have e3:∀X,AV.freeze deep (P5 true) X=some (.bool true,X):=fun _=>rfl;have hsh:(pA p 6).shp=some 4:=rfl;have hr:ye ⟨[(6,.ptr 1 0),(7,P5 true)],H⟩ (6,some (some 4))=some (pA p 6):=by
  grind [ye,Fr.look,aload]
 rw[<-hH,hr];show Am.frozen (.tuple [.pv (some 4) p.pv,P5 true]) (.tuple [pA p 6,P5 true]) H;refine⟨H.set 6 (.arr (some 9) (Sto.pvs p.cls) true),?_⟩;simp only[AV.freezeRes,zZ,hfz,e3,hsh];rfl
theorem Nz(s:Sto)(id:Int)(hp:Heap)(r:Nat)(hr:hp[r]? =some (.box none (P4 id))):S 103 [s.av,.ptr r 0] hp=some (.ret (P5 (decide (s.id=id))),hp):=by
 refine Yj rfl rfl rfl rfl ?_;have hr':∀X,(hp++X)[r]? =some (.box none (P4 id)):=fun X=>by grind
 simp -dsimp -implicitDefEqProofs only[go_sem,seval,Sto.av,YK,hr'];simp[AV.refsIn]
def idS(l:List Sto)(id:Int):Option Nat:=l.findIdx? fun s=>decide (s.id=id)
theorem NA{l:List Sto}{id:Int}{i:Nat}{s:Sto}(h:l[i]? =some s)(hs:s.id=id)(hb:∀(j:Nat) (u:Sto),j<i->l[j]? =some u->u.id≠id):idS l id=some i:=by
 grind [idS,List.findIdx?_eq_some_iff_getElem]
theorem gk{l:List Sto}{id:Int}(hb:∀(j:Nat) (u:Sto),l[j]? =some u->u.id≠id):idS l id=none:=by
 grind [idS,ZM]
def idI:Option Nat->Int
 |some i=>i
 |none=> -1
theorem NB(l:List Sto)(id:Int)(hl:l.length<1000000000)(hp:Heap)(r:Nat)(hr:hp[r]? =some (.box none (P4 id))):S 102 [.pv none (.sl (some 9) (Sto.pvs l)),.func (.func 103) [] [.ptr r 0]] hp=some (.ret (P4 (idI (idS l id))),hp):=by
 refine Yj rfl rfl rfl rfl ?_;have hw:=fun s=>Nz s id hp r hr;simp only[Sto.av] at hw;simp -dsimp -implicitDefEqProofs only[go_sem,seval,Sto.pvs_len];refine Yf (α:=Unit) l.length (fun i _=>∀(j:Nat) (u:Sto),j<i->l[j]? =some u->u.id≠id) (fun i _=>⟨[(0,.pv none (.sl (some 9) (Sto.pvs l))),(1,.func (.func 103) [] [.ptr r 0]),(7,P4 l.length),(8,P4 i)],hp⟩) () ⟨fun j u h=>by omega,rfl⟩ ?_ ?_
 ·rintro i - h hinv;have hc:(i:Int)<(l.length:Int):=by omega
  have w1:IntKind.i64.wrap ((i:Int)+1)=((i+1:Nat):Int):=by grind [zO]
  obtain⟨s,hs⟩:∃s,l[i]? =some s:=⟨_,Zd h⟩;have hws:=hw s;by_cases he:s.id=id
  ·rw[ZL he] at hws;rw[NA hs he hinv];simp -dsimp -implicitDefEqProofs only[go_sem,seval,hc,w1,zM (Sto.pvs_get hs),hws];exact⟨rfl,by grind⟩
  ·rw[zr he] at hws;simp -dsimp -implicitDefEqProofs only[go_sem,seval,hc,w1,zM (Sto.pvs_get hs),hws];refine⟨(),fun j u hj hu=> ?_,?_⟩
   ·grind
   grind [mc]
 ·rintro - hinv;have hc:¬(l.length:Int)<(l.length:Int):=by omega
  rw[gk fun j u hj=>hinv j u (Ze.1 hj).1 hj];simp -dsimp -implicitDefEqProofs only[go_sem,seval,hc];exact⟨rfl,by grind⟩
def whR:List Prc->Int->Option (Nat × Nat)
 |[],_=>none
 |p::r,id=>match idS p.cls id with
  |some k=>some (0,k)
  |none=>match whR r id with
   |some x=>some (x.1+1,x.2)
   |none=>none
theorem gl{id:Int}{k:Nat}{p:Prc}:∀{l:List Prc} {i:Nat},l[i]? =some p->idS p.cls id=some k->(∀(j:Nat) (q:Prc),j<i->l[j]? =some q->idS q.cls id=none)->whR l id=some (i,k)
 |[],i,h,_,_=>by grind
 |x::r,0,h,hk,_=>by
  grind [whR]
 |x::r,i+1,h,hk,hb=>by
  have h0:=hb 0 x (by omega) rfl;have ih:=gl (l:=r) (i:=i) (by grind) hk fun j q hj hq=>hb (j+1) q (by omega) (by grind)
  grind [whR]
theorem Vd{id:Int}:∀{l:List Prc},(∀(j:Nat) (q:Prc),l[j]? =some q->idS q.cls id=none)->whR l id=none
 |[],_=>rfl
 |x::r,hb=>by
  have h0:=hb 0 x rfl;have ih:=Vd (l:=r) fun j q hq=>hb (j+1) q (by grind)
  grind [whR]
theorem gm(d:Dbs)(id:Int)(hl:d.procs.length<1000000000)(ht:totD d.procs<1000000000)(hp:Heap):S 61 [d.av,P4 id] hp=some (.ret (match whR d.procs id with|some x=>.tuple [P4 x.1,P4 x.2,P5 true]|none=>.tuple [P4 0,P4 0,P5 false]),hp):=by
 refine zL rfl rfl rfl (zJ [(some 2,d.pv),(none,.int .i64 id)]) rfl ?_;simp -dsimp -implicitDefEqProofs only[go_sem,seval,Dbs.av,Yr,Prc.pvs_len];refine Yf (α:=Unit) d.procs.length (fun i _=>∀(j:Nat) (q:Prc),j<i->d.procs[j]? =some q->idS q.cls id=none) (fun i _=>⟨[(3,.ptr 1 0),(11,.pv none (.sl (some 4) (Prc.pvs d.procs))),(12,P4 d.procs.length),(13,P4 i)],[.box (some 2) (.pv (some 2) d.pv),.box none (P4 id)]⟩) () ⟨fun j u h=>by omega,rfl⟩ ?_ ?_
 ·rintro i - h hinv;have hc:(i:Int)<(d.procs.length:Int):=by omega
  have w1:IntKind.i64.wrap ((i:Int)+1)=((i+1:Nat):Int):=by grind [zO]
  obtain⟨p,hpp⟩:∃p,d.procs[i]? =some p:=⟨_,Zd h⟩;have hpl:=Qx (Zi hpp);have hix:∀(x0:AObj) (X:Heap),S 102 [.pv none (.sl (some 9) (Sto.pvs p.cls)),.func (.func 103) [] [.ptr 1 0]] (x0::.box none (P4 id)::X)=some (.ret (P4 (idI (idS p.cls id))),x0::.box none (P4 id)::X):=fun x0 X=>NB p.cls id (by omega) _ 1 rfl;cases hk:idS p.cls id with
  |some k=>
   rw[hk] at hix;have hk0:(0:Int)<=idI (some k):=by show(0:Int)<=(k:Int);omega
   rw[gl hpp hk hinv];simp -dsimp -implicitDefEqProofs only[go_sem,seval,hc,w1,zM (Prc.pvs_get hpp),Y7,hix,hk0,zH (Za _)];rfl
  |none=>
   rw[hk] at hix;have hk0:¬(0:Int)<=idI none:=by decide
   simp -dsimp -implicitDefEqProofs only[go_sem,seval,hc,w1,zM (Prc.pvs_get hpp),Y7,hix,hk0,zH (Za _)];refine⟨(),fun j q hj hq=> ?_,rfl⟩
   grind
 ·rintro - hinv;have hc:¬(d.procs.length:Int)<(d.procs.length:Int):=by omega
  rw[Vd fun j u hj=>hinv j u (Ze.1 hj).1 hj];simp -dsimp -implicitDefEqProofs only[go_sem,seval,hc]
  done
def qZ:AV:=.agg A2
def elsA(l:List Prc)(b i:Nat):List AV:=l.mapIdx fun j p=>if j<i then pA p (b+6*j) else qZ
theorem QZ(l:List Prc)(b i:Nat):(elsA l b i).length=l.length:=by simp[elsA]
theorem NC(l:List Prc)(b:Nat):elsA l b 0=List.replicate l.length qZ:=by
 refine Z3 fun j=> ?_
 grind [elsA]
theorem gn{l:List Prc}{b i:Nat}{p:Prc}(h:l[i]? =some p):(elsA l b i).set i (pA p (b+6*i))=elsA l b (i+1):=by
 refine Z3 fun j=> ?_
 grind [elsA]
def cE(p:Prc)(b:Nat):Heap:=[.box (some 4) (.pv (some 4) p.pv),.arr (some 9) [] false,.box (some 4) (pA p b),.box (some 4) (pA p b),.arr (some 9) [] false,.arr (some 9) (Sto.pvs p.cls) false]
def cEs:List Prc->Nat->Heap
 |[],_=>[]
 |p::r,b=>cE p b++cEs r (b+6)
theorem gq:∀(l:List Prc) (b:Nat),(cEs l b).length=6*l.length
 |[],_=>rfl
 |p::r,b=>by rw[cEs,Z2,gq r,ZV];show 6+_=_;omega
theorem gr:∀(l:List Prc) (p:Prc) (b:Nat),cEs (l++[p]) b=cEs l b++cE p (b+6*l.length)
 |[],p,b=>by simp[cEs]
 |x::r,p,b=>by
  rw[Zs,cEs,gr r p (b+6),cEs,Zl,ZV]
  grind
theorem Ve{n b:Nat}{fr:Fr}{hp:Heap}{k:Nat}{o:AObj}(hk:b<=k)(hn:k<n)(ho:hp[k]? =some o)(hr:o.refs.all (fun q=>decide (q<n))=false):collect n b fr hp=hp:=by
 unfold collect;rw[Zb];intro h;rw[Zk] at h;have h2:=Zp.1 h.2 o (by
  refine ZM.2 ⟨k - b,?_⟩
  grind)
 grind
def dA(d:Dbs)(q:Nat):AV:=.agg [(none,P4 d.next),(none,.slv (some 4) q d.procs.length 0 d.procs.length)]
theorem ND{Γ:Oracle}{b:Nat}{vs:List AV}{hp:Heap}{K:AV->Heap->Prop}{Kp:PV->Heap->Prop}(sh:Sh)(z:AV):opK (aOp Γ b (.mkslicev sh z) vs hp) K Kp=YM (xr sh z hp vs) K:=by
 show opK (match xr sh z hp vs with|some (v,hp')=>some (OpRes.val v hp')|none=>none) K Kp=_;cases xr sh z hp vs with
 |none=>rfl
 |some r=>cases r;rfl
theorem NE(d:Dbs)(hl:d.procs.length<1000000)(hcl:∀p∈d.procs,p.cls.length<1000000/\okCl p)(hp:Heap):S 62 [d.av] hp=some (.ret (dA d (hp.length+2)),hp++([.box (some 2) (dA d (hp.length+2)),.box (some 2) (dA d (hp.length+2)),.arv (some 4) (elsA d.procs (hp.length+8) d.procs.length)]++cEs d.procs (hp.length+8))):=by
 refine Yj rfl rfl rfl rfl ?_;have hpl:=Prc.pvs_len d.procs;have hlim:d.procs.length<=lim:=by grind [lim]
 have hnil:∀H:Heap,zU A3 H=(A3,H):=fun _=>rfl;have hmk:∀H:Heap,xr (some 4) qZ H [P4 d.procs.length,P4 d.procs.length]=some (.slv (some 4) H.length d.procs.length 0 d.procs.length,H++[.arv (some 4) (List.replicate d.procs.length qZ)]):=fun H=>by
  grind [xr,xI]
 simp only[qZ] at hmk;simp -dsimp -implicitDefEqProofs only[go_sem,seval,Dbs.av,Yr,hpl,hnil,hmk,ND,zH (Zf _ _)];obtain⟨x1,hx1⟩:∃x1:AObj,x1=.box (some 2) (.agg A1):=⟨_,rfl⟩;rw[<-hx1];obtain⟨b0,hb0⟩:∃b0,b0=hp.length+8:=⟨_,rfl⟩;rw[<-hb0];obtain⟨PP,hPP⟩:∃PP:Nat->Heap->Heap,PP=fun j e=>hp++([.box (some 2) (.pv (some 2) d.pv),x1,.arv (some 4) (elsA d.procs b0 j)]++e):=⟨_,rfl⟩;have hPa:∀j e X,PP j e++X=PP j (e++X):=fun j e X=>by grind
 have hPl:∀j e,(PP j e).length=hp.length+3+e.length:=fun j e=>by grind
 have hP2:∀j e,(PP j e)[hp.length+2]? =some (.arv (some 4) (elsA d.procs b0 j)):=fun j e=>by grind
 refine Yf (α:=Unit) d.procs.length (fun _ _=>True) (fun i _=>⟨[(1,.ptr hp.length 0),(2,.ptr (hp.length+1) 0),(3,.slv (some 4) (hp.length+2) d.procs.length 0 d.procs.length),(11,.pv none (.sl (some 4) (Prc.pvs d.procs))),(12,P4 d.procs.length),(13,P4 i)],PP i (cEs (d.procs.take i) b0)⟩) () ⟨trivial,by rw[hPP];simp only[NC];rfl⟩ ?_ ?_
 ·rintro i - h -;have hcc:(i:Int)<(d.procs.length:Int):=by omega
  have w1:IntKind.i64.wrap ((i:Int)+1)=((i+1:Nat):Int):=by grind [zO]
  obtain⟨p,hpp⟩:∃p,d.procs[i]? =some p:=⟨_,Zd h⟩;obtain⟨c1,c2⟩:=hcl p (Zi hpp);obtain⟨e,he⟩:∃e,e=cEs (d.procs.take i) b0:=⟨_,rfl⟩;have hel:e.length=6*i:=by grind [gq]
  obtain⟨n,hn⟩:∃n,n=hp.length+3+6*i:=⟨_,rfl⟩;have hpn:∀j,(PP j e).length=n:=fun j=>by grind
  have hbn:hp.length<=n:=by omega
  have hpr:S 57 [.pv (some 4) p.pv] (PP i e++[.box (some 4) (.pv (some 4) p.pv),.arr (some 9) [] false])=some (.ret (pA p (n+5)),PP i e++[.box (some 4) (.pv (some 4) p.pv),.arr (some 9) [] false,.box (some 4) (pA p (n+5)),.box (some 4) (pA p (n+5)),.arr (some 9) [] false,.arr (some 9) (Sto.pvs p.cls) false]):=by
   have h3:=gg p c1 c2 (PP i e++[.box (some 4) (.pv (some 4) p.pv),.arr (some 9) [] false]);rw[Z2,hpn,Zl] at h3;exact h3
  have hia:Yc (some 4) [.slv (some 4) (hp.length+2) d.procs.length 0 d.procs.length,P4 i]=some (.epv (some 4) (hp.length+2) d.procs.length i 0):=by
   simp[Yc,aindex,h]
  have hst:∀X,zK (some 4) hp.length (PP i e++X) [.epv (some 4) (hp.length+2) d.procs.length i 0,pA p (n+5)]=some (.undef,PP (i+1) e++X):=fun X=>by
   have hq:n+5=b0+6*i:=by omega
   have hs:=gn (b:=b0) hpp;have hg:(PP i e++X)[hp.length+2]? =some (.arv (some 4) (elsA d.procs b0 i)):=by grind
   have hset:(PP i e++X).set (hp.length+2) (.arv (some 4) (elsA d.procs b0 (i+1)))=PP (i+1) e++X:=by
    simp_all
   have hlt:i<(elsA d.procs b0 i).length:=by grind [QZ]
   obtain⟨old,ho⟩:∃old,(elsA d.procs b0 i)[i]? =some old:=⟨_,Zd hlt⟩;have hpln:(pA p (b0+6*i)).plain=true:=rfl;have hsh:(pA p (b0+6*i)).shp=some 4:=rfl;simp_all[zK,astore,QZ]
  rw[<-he];simp -dsimp -implicitDefEqProofs only[go_sem,seval,hcc,w1,zM (Prc.pvs_get hpp),hpr,hia,hst,zH (ZD hbn (Zf _ _)),hpn,getN (hpn _),zX (hpn _),setN (hpn _),Yg (hpn _)];refine⟨(),?_⟩;have hgi:(elsA d.procs b0 (i+1))[i]? =some (pA p (b0+6*i)):=by
   rw[<-gn hpp];simp[QZ,h]
  have hrf:(AObj.arv (some 4) (elsA d.procs b0 (i+1))).refs.all (fun q=>decide (q<hp.length+3))=false:=by
   rw[List.all_eq_false];refine⟨b0+6*i,(Qf _ _).2 ⟨_,Zi hgi,by simp[pA,AV.refsIn,AV.refsIn.go]⟩,by grind⟩
  rw[Ve (k:=hp.length+2) (by omega) (by omega) (by grind) hrf];have htk:d.procs.take (i+1)=d.procs.take i++[p]:=by grind [Z7]
  have hli:(d.procs.take i).length=i:=by grind
  rw[hPa,htk,gr,hli,<-he];have hq:n+5=b0+6*i:=by omega
  rw[hq];rfl
 ·rintro - -;have hcc:¬(d.procs.length:Int)<(d.procs.length:Int):=by omega
  have hup:∀(q:Nat),AV.upd deep (.pv (some 2) d.pv) 1 none (.slv (some 4) q d.procs.length 0 d.procs.length)=some (dA d q):=fun q=>rfl;have hs1:∀(x1 x2:AObj) (X:Heap),zK none hp.length (hp++.box (some 2) (.pv (some 2) d.pv)::x1::x2::X) [.ptr hp.length 1,.slv (some 4) (hp.length+2) d.procs.length 0 d.procs.length]=some (.undef,hp++.box (some 2) (dA d (hp.length+2))::x1::x2::X):=fun x1 x2 X=>by
   grind [zK,astore,AV.plain,AV.shp,AV.own]
  have hs2:∀(x0 x2:AObj) (v:AV) (X:Heap),zK (some 2) hp.length (hp++x0::.box (some 2) v::x2::X) [.ptr (hp.length+1) 0,dA d (hp.length+2)]=some (.undef,hp++x0::.box (some 2) (dA d (hp.length+2))::x2::X):=fun x0 x2 v X=>by
   simp[zK,astore,getN rfl,setN rfl,dA,AV.plain,AV.shp,AV.own,zU,Y3,total,Sh.size]
  rw[ZJ,hPP,hx1];simp -dsimp -implicitDefEqProofs only[go_sem,seval,hcc,hs1,hs2]
  grind [dA,AV.refsIn,AV.refsIn.go]
def Fz(H H':Heap):Prop:=∀k:Nat,(∀(s:Sh) (es:List PV) (z:Bool),H[k]? =some (AObj.arr s es z)->∃z':Bool,H'[k]? =some (AObj.arr s es z'))/\(∀(s:Sh) (es:List AV),H[k]? =some (AObj.arv s es)->H'[k]? =some (AObj.arv s es))
theorem Fz.refl(H:Heap):Fz H H:=fun _=>⟨fun _ _ z h=>⟨z,h⟩,fun _ _ h=>h⟩
theorem Fz.trans{A B C:Heap}(h1:Fz A B)(h2:Fz B C):Fz A C:=fun k=>⟨fun s es z h=>by
  obtain⟨z',h'⟩:=(h1 k).1 s es z h;exact(h2 k).1 s es z' h',fun s es h=>(h2 k).2 s es ((h1 k).2 s es h)⟩
theorem Fz.set{H:Heap}{q:Nat}{s:Sh}{es:List PV}{z:Bool}(h:H[q]? =some (.arr s es z)):Fz H (H.set q (.arr s es true)):=fun k=>by
 grind
def SvP(sv:AV)(l:List Sto)(H:Heap):Prop:=sv=.tsl (some 9) (Sto.pvs l)\/∃(q ver:Nat) (es:List PV) (z:Bool),sv=.sl (some 9) q ver 0 l.length/\H[q]? =some (.arr (some 9) es z)/\es.length=ver/\l.length<=ver/\es.take l.length=Sto.pvs l
def pAg(p:Prc)(sv:AV):AV:=.agg [(none,P6 p.name),(none,P4 p.ar),(none,P5 p.dyn),(none,sv)]
def ElP(p:Prc)(v:AV)(H:Heap):Prop:=v=p.av\/∃sv,v=pAg p sv/\SvP sv p.cls H
theorem SvP.fz{sv:AV}{l:List Sto}{H H':Heap}(h:SvP sv l H)(f:Fz H H'):SvP sv l H':=by
 rcases h with h|⟨q,ver,es,z,h1,h2,h3⟩
 ·exact .inl h
 ·obtain⟨z',h'⟩:=(f q).1 _ _ _ h2;exact .inr ⟨q,ver,es,z',h1,h',h3⟩
theorem ElP.fz{p:Prc}{v:AV}{H H':Heap}(h:ElP p v H)(f:Fz H H'):ElP p v H':=by
 rcases h with h|⟨sv,h1,h2⟩
 ·exact .inl h
 ·exact .inr ⟨sv,h1,h2.fz f⟩
theorem SvP.frz{sv:AV}{l:List Sto}{H:Heap}(h:SvP sv l H)(n:Nat):∃H',AV.freeze0 (n+1) sv H=some (.sl (some 9) (Sto.pvs l),H')/\Fz H H':=by
 rcases h with rfl|⟨q,ver,es,z,rfl,h2,h3,h4,h5⟩
 ·exact⟨H,rfl,Fz.refl H⟩
 ·refine⟨H.set q (.arr (some 9) es true),?_,Fz.set h2⟩
  grind [AV.freeze0]
theorem ElP.frz{p:Prc}{v:AV}{H:Heap}(h:ElP p v H):∃H',AV.freeze0 6 v H=some (p.pv,H')/\Fz H H':=by
 rcases h with rfl|⟨sv,rfl,h2⟩
 ·exact⟨H,rfl,Fz.refl H⟩
 ·obtain⟨H',h3,h4⟩:=h2.frz 4;refine⟨H',?_,h4⟩;have e:∀n l hp,AV.freeze0 (n+1) (.agg l) hp=match AV.freeze0.go n l hp with|some (ps,hp')=>some (.agg ps,hp')|none=>none:=fun _ _ _=>rfl
  have e0:∀(x:PV) (s:Sh) (X:Heap),AV.freeze0 5 (.pv s x) X=some (x,X):=fun _ _ _=>rfl;show AV.freeze0 (5+1) (.agg _) H=_;simp only[e,AV.freeze0.go,e0,h3];rfl
theorem gt:∀(ps:List Prc) (els:List AV) (H:Heap),els.length=ps.length->(∀(j:Nat) (p:Prc) (v:AV),ps[j]? =some p->els[j]? =some v->ElP p v H)->∃H',AV.freeze0.go 6 (els.map fun e=>(some 4,e)) H=some (ps.map (fun p=>(some 4,p.pv)),H')/\Fz H H'
 |[],[],H,_,_=>⟨H,rfl,Fz.refl H⟩
 |[],_::_,_,h,_=>by grind
 |_::_,[],_,h,_=>by grind
 |p::r,v::w,H,hl,he=>by
  obtain⟨H1,h1,f1⟩:=(he 0 p v rfl rfl).frz;obtain⟨H2,h2,f2⟩:=gt r w H1 (by grind) fun j p' v' hp hv=>(he (j+1) p' v' (by grind) (by grind)).fz f1;refine⟨H2,?_,f1.trans f2⟩
  grind [AV.freeze0.go]
def DbA(d:Dbs)(v:AV)(H:Heap):Prop:=∃(q ver:Nat) (els:List AV) (ps:List Prc),v=.agg [(none,P4 d.next),(none,.slv (some 4) q ver 0 d.procs.length)]/\H[q]? =some (.arv (some 4) els)/\els.length=ver/\d.procs.length<=ver/\ps.length=ver/\ps.take d.procs.length=d.procs/\∀(j:Nat) (p:Prc) (v:AV),ps[j]? =some p->els[j]? =some v->ElP p v H
theorem DbA.frz{d:Dbs}{v:AV}{H:Heap}(h:DbA d v H):∃H',AV.freeze deep v H=some (d.pv,H'):=by
 obtain⟨q,ver,els,ps,rfl,h1,h2,h3,h4,h5,h6⟩:=h;obtain⟨H1,g1,g2⟩:=gt ps els H (by omega) h6;have h1':=(g2 q).2 _ _ h1;refine⟨H1.set q (.arr (some 4) (Prc.pvs ps) true),?_⟩;have e:∀n l hp,AV.freeze (n+1) (.agg l) hp=match AV.freeze.go n l hp with|some (ps,hp')=>some (.agg ps,hp')|none=>none:=fun _ _ _=>rfl
 have e0:∀(x:PV) (s:Sh) (X:Heap),AV.freeze 7 (.pv s x) X=some (x,X):=fun _ _ _=>rfl;have em:(ps.map (fun p=>((some 4:Sh),p.pv))).map (·.2)=Prc.pvs ps:=by simp[Prc.pvs]
 have et:(Prc.pvs ps).take d.procs.length=Prc.pvs d.procs:=by
  grind [Prc.pvs,List.map_take]
 have hlen:els.length=els.length:=rfl;have hfs:AV.freeze 7 (.slv (some 4) q ver 0 d.procs.length) H=some (.sl (some 4) (Prc.pvs d.procs),H1.set q (.arr (some 4) (Prc.pvs ps) true)):=by
  grind [AV.freeze]
 show AV.freeze (7+1) (.agg _) H=_;simp only[e,AV.freeze.go,e0,hfs];rfl
theorem Vf:∀(l:List Prc) (b j:Nat) (p:Prc),l[j]? =some p->(cEs l b)[6*j+5]? =some (.arr (some 9) (Sto.pvs p.cls) false)
 |[],_,_,_,h=>by simp at h
 |x::r,b,0,p,h=>by
  simp at h;subst h;rfl
 |x::r,b,j+1,p,h=>by
  have ih:=Vf r (b+6) j p (by simpa using h);rw[cEs,zo (by show 6<=_;omega)];show(cEs r (b+6))[6*(j+1)+5 - 6]? =_;rw[show 6*(j+1)+5 - 6=6*j+5 by omega];exact ih
theorem gu{l:List Prc}{b j:Nat}{p:Prc}(h:l[j]? =some p):(elsA l b l.length)[j]? =some (pA p (b+6*j)):=by
 have hj:=(Ze.1 h).1;have he:l[j]=p:=(Ze.1 h).2;simp[elsA,List.getElem?_mapIdx,hj,he]
def Vg:Dbs:=⟨0,[]⟩
theorem NF{ps:List Prc}{k:Prc}(h:fnD ps k=true):∃p,ps[lbD ps k]? =some p:=by
 cases e:ps[lbD ps k]? with
 |some p=>exact⟨p,rfl⟩
 |none=>simp[fnD,e] at h
def ids(l:List Prc):List Int:=l.flatMap fun p=>p.cls.map (·.id)
theorem Vh(A B:List Prc):ids (A++B)=ids A++ids B:=by simp[ids]
theorem XO(p:Prc)(B:List Prc):ids (p::B)=p.cls.map (·.id)++ids B:=by simp[ids]
theorem mem_ids{l:List Prc}{x:Int}:x∈ids l↔∃p∈l,∃s∈p.cls,s.id=x:=by simp[ids]
def okS(next:Int)(p:Prc)(s:Sto):Prop:=1<=s.id/\s.id<next/\okC s.cl=true/\s.cl.head.name=p.name/\(s.cl.head.args.length:Int)=p.ar
theorem gv(next:Int)(p:Prc)(seen:List Int)(s:Sto):okSt next p seen s=true↔s.id ∉ seen/\okS next p s:=by
 grind [okSt,okS]
theorem Vi(next:Int)(p:Prc):∀(l:List Sto) (seen s':List Int),okSs next p seen l=some s'↔s'=seen++l.map (·.id)/\(l.map (·.id)).Nodup/\(∀x∈l,x.id ∉ seen)/\∀s∈l,okS next p s
 |[],seen,s'=>by grind [okSs]
 |s::r,seen,s'=>by
  rw[okSs];by_cases h:okSt next p seen s=true
  ·rw[Zh h,Vi next p r]
   grind [gv]
  grind [gv]
def OkP(next:Int)(l:List Prc):Prop:=(∀p∈l,namB p=true)/\l.Pairwise (fun a b=>ordP a b<0)/\(ids l).Nodup/\∀p∈l,∀s∈p.cls,okS next p s
theorem gw(next:Int):∀(l:List Prc) (q:Option Prc) (seen:List Int),okPs next q seen l=true->OkP next l/\(∀p,l.head? =some p->preB q p=true)/\∀x∈ids l,x ∉ seen
 |[],q,seen,_=>⟨⟨fun p h=>(by cases h),List.Pairwise.nil,List.nodup_nil,fun p h=>(by cases h)⟩,fun p h=>(by cases h),fun x h=>(by cases h)⟩
 |x::r,q,seen,h=>by
  rw[okPs,Zk,Zk] at h;obtain⟨h1,h2,h3⟩:=h;split at h3
  ·cases h3
  ·rename_i s' hs;obtain⟨rfl,e2,e3,e4⟩:=(Vi ..).1 hs;obtain⟨⟨g1,g2,g3,g4⟩,g5,g6⟩:=gw next r (some x) _ h3
   have hx:∀b∈r,ordP x b<0:=by
    intro b hb;cases r with
    |nil=>cases hb
    |cons y r'=>
     have h0:ordP x y<0:=Z5 (g5 y rfl)
     grind [ju,zd]
   refine⟨⟨fun p hp=> ?_,zd.2 ⟨hx,g2⟩,?_,fun p hp=> ?_⟩,fun p hp=>by grind,fun y hy=> ?_⟩
   ·grind
   ·grind [XO]
   ·grind
   grind [XO]
theorem gx(next:Int):∀(l:List Prc) (q:Option Prc) (seen:List Int),OkP next l->(∀p,l.head? =some p->preB q p=true)->(∀x∈ids l,x ∉ seen)->okPs next q seen l=true
 |[],q,seen,_,_,_=>rfl
 |x::r,q,seen,⟨h1,h2,h3,h4⟩,h5,h6=>by
  rw[okPs,h1 x Zw,h5 x rfl];rw[XO,List.nodup_append] at h3;obtain⟨k1,k2⟩:=zd.1 h2;have hs:okSs next x seen x.cls=some (seen++x.cls.map (·.id)):=(Vi ..).2 ⟨rfl,h3.1,fun u hu=>h6 u.id (by grind [XO]),h4 x Zw⟩
  rw[hs];simp only[Bool.true_and];refine gx next r (some x) _ ⟨fun p hp=>h1 p (Zm _ hp),k2,h3.2.1,fun p hp=>h4 p (Zm _ hp)⟩ (fun p hp=> ?_) fun y hy hm=> ?_
  ·exact ZL (k1 p (List.mem_of_mem_head? (by grind)))
  grind [XO]
theorem XP(d:Dbs):okD d=true↔1<=d.next/\d.next<=4294967296/\d.procs.length<=500/\totD d.procs<=500/\OkP d.next d.procs:=by
 simp only[okD,Zk,ZH];constructor
 ·grind [gw]
 ·rintro⟨a,b,c,e,f⟩;exact⟨a,b,c,e,gx _ _ _ _ f (fun _ _=>rfl) fun _ _ h=>by cases h⟩
theorem OkP.mono{n n':Int}{l:List Prc}(h:OkP n l)(hn:n<=n'):OkP n' l:=⟨h.1,h.2.1,h.2.2.1,fun p hp s hs=>by
 obtain⟨a,b,c⟩:=h.2.2.2 p hp s hs;exact⟨a,by omega,c⟩⟩
theorem gy(next:Int)(A B:List Prc)(q:Prc):OkP next (A++q::B)↔OkP next (A++B)/\namB q=true/\(∀a∈A,ordP a q<0)/\(∀b∈B,ordP q b<0)/\(q.cls.map (·.id)).Nodup/\(∀s∈q.cls,s.id ∉ ids (A++B))/\∀s∈q.cls,okS next q s:=by
 have hperm:(ids (A++q::B)).Perm (q.cls.map (·.id)++ids (A++B)):=by
  grind [Vh,XO]
 unfold OkP;rw[hperm.nodup_iff,List.nodup_append,List.pairwise_append,List.pairwise_append,zd];constructor
 ·grind
 grind
theorem NG{p q p' q':Prc}(h1:p.name=p'.name)(h2:p.ar=p'.ar)(h3:q.name=q'.name)(h4:q.ar=q'.ar):ordP p q=ordP p' q':=by
 grind [ordP]
theorem Vj{l:List Prc}(h:l.Pairwise (fun a b=>ordP a b<0)):IncP l:=fun i j a b hij ha hb=>by
 grind [List.pairwise_iff_getElem]
theorem gA{l:List Prc}(k:Prc)(h:l.Pairwise (fun a b=>ordP a b<0)):fnD l k=true↔∃p∈l,ordP p k=0:=by
 have hi:=Vj h;constructor
 ·grind [fnD]
 ·rintro⟨p,hp,e⟩;obtain⟨j,hj⟩:=ZM.1 hp;have h1:¬j<lbD l k:=fun hlt=>by
   have:=(jv hi hj).2 hlt;omega
  have h2:¬lbD l k<j:=fun hlt=>by
   have hl:lbD l k<l.length:=by
    grind
   have hx:=hi _ j _ p hlt (Zd hl) hj;have hz:=ordP_zero.1 e;have hx':ordP l[lbD l k] k<0:=by
    grind [NG]
   have:=(jv hi (Zd hl)).1 hx';omega
  grind [fnD]
theorem NH{l:List Prc}{k p:Prc}(h:l.Pairwise (fun a b=>ordP a b<0))(hp:p∈l)(e:ordP p k=0):l[lbD l k]? =some p:=by
 have hi:=Vj h;have hf:=(gA k h).2 ⟨p,hp,e⟩;obtain⟨q,hq⟩:=NF hf;have e2:ordP q k=0:=by
  grind [fnD]
 obtain⟨j,hj⟩:=ZM.1 hp;have z1:=ordP_zero.1 e;have z2:=ordP_zero.1 e2;have e0:ordP p q=0:=ordP_zero.2 ⟨z1.1.trans z2.1.symm,z1.2.trans z2.2.symm⟩;have e1:ordP q p=0:=ordP_zero.2 ⟨z2.1.trans z1.1.symm,z2.2.trans z1.2.symm⟩;rcases Nat.lt_trichotomy j (lbD l k) with hlt|hlt|hlt
 ·have:=hi _ _ _ _ hlt hj hq;omega
 ·grind
 ·have:=hi _ _ _ _ hlt hq hj;omega
theorem jx{d:Dbs}(hv:okD d=true)(s:List UInt8)(a:Int)(p:Prc):yb d s a=some p↔p∈d.procs/\p.name=s/\p.ar=a:=by
 have hpw:=((XP d).1 hv).2.2.2.2.2.1;unfold yb;rw[Zh hv];constructor
 ·intro h;split at h
  ·rename_i hf;refine⟨Zi h,?_⟩;unfold fnD at hf;rw[h] at hf;exact ordP_zero.1 (Z5 hf)
  grind
 grind [keyP,ordP_zero,gA,NH]
theorem Qz{d:Dbs}(hv:okD d=true):BndD d:=by
 have h:=(XP d).1 hv;refine⟨by omega,by omega,fun p hp s hs=> ?_⟩;obtain⟨vh,vb⟩:=jw hv p hp s hs
 grind [valid_size]
theorem jy{α:Type}{l:List α}{i:Nat}{x:α}(h:l[i]? =some x):l=l.take i++x::l.drop (i+1):=by
 grind [js,Z4]
theorem NI(p:Prc)(B:List Prc):totD (p::B)=p.cls.length+totD B:=by simp[totD]
theorem NJ{n:Int}{p q:Prc}{s:Sto}(h:okS n p s)(h1:p.name=q.name)(h2:p.ar=q.ar):okS n q s:=by
 obtain⟨a,b,c,d,e⟩:=h;exact⟨a,b,c,by grind,by grind⟩
end Go.Proofs.YtgedfopkiebjkaaGreatDoor
namespace Go.Proofs.YtgedfopkiebjkaaGreatDoor
open Go.Am Go.ChangeShapes Go.WideShapes Go.ChangeAt Go.RowKit
theorem NK{n:Nat}{p:PV}(h:wt Tryz.prog n 39 p):∃x:Cz,p=x.pv:=by
 obtain⟨m,l,rfl,h'⟩:=je (ts:=[27,27]) (by kernel_rfl) h;obtain⟨a,l,rfl,ha,h⟩:=XM h';obtain⟨b,l,rfl,hb,h⟩:=XM h;obtain rfl:=jf h;obtain⟨x,rfl,_⟩:=(kF GN m).1 a ha;obtain⟨y,rfl,_⟩:=(kF GN m).1 b hb;refine⟨⟨x,y⟩,?_⟩;rw[show shOf Tryz.prog 27=some 4 from by kernel_rfl];rfl
theorem NL{n:Nat}{p:PV}(h:wt Tryz.prog n 49 p):∃x:Sto,p=x.pv:=by
 obtain⟨m,l,rfl,h'⟩:=je (ts:=[2,39]) (by kernel_rfl) h;obtain⟨a,l,rfl,ha,h⟩:=XM h';obtain⟨b,l,rfl,hb,h⟩:=XM h;obtain rfl:=jf h;obtain⟨x,rfl,_⟩:=kH (by kernel_rfl) ha;obtain⟨y,rfl⟩:=NK hb;refine⟨⟨x,y⟩,?_⟩;rw[show shOf Tryz.prog 2=none from by kernel_rfl,show shOf Tryz.prog 39=some 8 from by kernel_rfl];rfl
theorem NM{n:Nat}{p:PV}(h:wt Tryz.prog n 45 p):∃x:Prc,p=x.pv:=by
 obtain⟨m,l,rfl,h'⟩:=je (ts:=[9,3,4,43]) (by kernel_rfl) h;obtain⟨a,l,rfl,ha,h⟩:=XM h';obtain⟨b,l,rfl,hb,h⟩:=XM h;obtain⟨c,l,rfl,hc,h⟩:=XM h;obtain⟨d,l,rfl,hd,h⟩:=XM h;obtain rfl:=jf h;obtain⟨x,rfl⟩:=M8 (by kernel_rfl) ha;obtain⟨y,rfl,_⟩:=kH (by kernel_rfl) hb;obtain⟨z,rfl⟩:=M9 (by kernel_rfl) hc;obtain⟨k,es,rfl,he⟩:=GC (e:=49) (by kernel_rfl) hd;obtain⟨gs,rfl,_⟩:=kI (f:=Sto.pv) (Q:=fun _=>True) es fun x hx=>by
  obtain⟨g,rfl⟩:=NL (he x hx);exact⟨g,rfl,trivial⟩
 refine⟨⟨x,y,z,gs⟩,?_⟩;rw[show shOf Tryz.prog 9=none from by kernel_rfl,show shOf Tryz.prog 3=none from by kernel_rfl,show shOf Tryz.prog 4=none from by kernel_rfl,show shOf Tryz.prog 43=none from by kernel_rfl,show shOf Tryz.prog 49=some 9 from by kernel_rfl];rfl
theorem NN{n:Nat}{p:PV}(h:wt Tryz.prog n 24 p):∃x:Dbs,p=x.pv:=by
 obtain⟨m,l,rfl,h'⟩:=je (ts:=[2,22]) (by kernel_rfl) h;obtain⟨a,l,rfl,ha,h⟩:=XM h';obtain⟨b,l,rfl,hb,h⟩:=XM h;obtain rfl:=jf h;obtain⟨x,rfl,_⟩:=kH (by kernel_rfl) ha;obtain⟨k,es,rfl,he⟩:=GC (e:=45) (by kernel_rfl) hb;obtain⟨gs,rfl,_⟩:=kI (f:=Prc.pv) (Q:=fun _=>True) es fun x hx=>by
  obtain⟨g,rfl⟩:=NM (he x hx);exact⟨g,rfl,trivial⟩
 refine⟨⟨x,gs⟩,?_⟩;rw[show shOf Tryz.prog 2=none from by kernel_rfl,show shOf Tryz.prog 22=none from by kernel_rfl,show shOf Tryz.prog 45=some 4 from by kernel_rfl];rfl
theorem NO(c:Cz):c.head.size<=c.pv.sz/\c.body.size<=c.pv.sz:=by
 have h1:=Tm.zAL c.head;have h2:=Tm.zAL c.body;simp[Cz.pv,PV.sz,PV.szc];omega
theorem NP(s:Sto):s.cl.pv.sz<=s.pv.sz:=by
 simp[Sto.pv,PV.sz,PV.szc];omega
theorem Vk:∀l:List Sto,l.length<=PV.szs (Sto.pvs l)/\∀s∈l,s.pv.sz<=PV.szs (Sto.pvs l)
 |[]=>⟨Za _,fun b hb=>by cases hb⟩
 |x::r=>by
  obtain⟨h1,h2⟩:=Vk r;have h4:PV.szs (Sto.pvs (x::r))=x.pv.sz+PV.szs (Sto.pvs r):=by simp[Sto.pvs,PV.szs]
  have h5:1<=x.pv.sz:=by simp[Sto.pv,PV.sz];try omega
  refine⟨by simp only[ZV];omega,fun b hb=> ?_⟩;rcases ZB.1 hb with rfl|hb
  ·omega
  ·have:=h2 b hb;omega
theorem gB(p:Prc):PV.szs (Sto.pvs p.cls)+1<=p.pv.sz:=by
 simp[Prc.pv,PV.sz,PV.szc];omega
theorem gD:∀l:List Prc,l.length<=PV.szs (Prc.pvs l)/\totD l<=PV.szs (Prc.pvs l)/\∀p∈l,p.pv.sz<=PV.szs (Prc.pvs l)
 |[]=>⟨Za _,Za _,fun b hb=>by cases hb⟩
 |x::r=>by
  obtain⟨h1,h2,h3⟩:=gD r;have h4:PV.szs (Prc.pvs (x::r))=x.pv.sz+PV.szs (Prc.pvs r):=by simp[Prc.pvs,PV.szs]
  have h5:=gB x;have h6:=(Vk x.cls).1;have h7:totD (x::r)=x.cls.length+totD r:=by simp[totD]
  refine⟨by simp only[ZV];omega,by omega,fun b hb=> ?_⟩;rcases ZB.1 hb with rfl|hb
  ·omega
  ·have:=h3 b hb;omega
theorem NQ{d:Dbs}(h:d.pv.sz<=1048576):BndD d:=by
 have h0:PV.szs (Prc.pvs d.procs)<=d.pv.sz:=by
  simp[Dbs.pv,PV.sz,PV.szc];omega
 obtain⟨h1,h2,h3⟩:=gD d.procs;refine⟨by omega,by omega,fun p hp s hs=> ?_⟩;have g1:=h3 p hp;have g2:=gB p;have g3:=(Vk p.cls).2 s hs;have g4:=NP s;have g5:=NO s.cl;omega
set_option maxRecDepth 100000 in
theorem NR{H:Type}{enc:TypeId × Value->H}{W:World}{base:Nat}{v:Value}{d:DataW H}{ps:List MemPlace}(h:DataW.Trod enc Tryz.prog W 0 (fun _=>true) true 24 v d ps)(hv:Value.okWide Tryz.prog W .any base 24 v):
  ∃f:Dbs,AR W (noX (P:=Tryz.prog)) noμ [] f.av v/\f.pv.sz<=Rows.uptoBulk d:=by
 obtain⟨n,p,h1,h2,h3⟩:=GP (by decide) (by kernel_rfl) h hv;obtain⟨f,rfl⟩:=NN h2;rw[show shOf Tryz.prog 24=some 2 from by kernel_rfl] at h1;exact⟨f,h1,h3⟩
set_option maxRecDepth 100000 in
theorem gE{H:Type}{enc:TypeId × Value->H}{W:World}{base:Nat}{v:Value}{d:DataW H}{ps:List MemPlace}(h:DataW.Trod enc Tryz.prog W 0 (fun _=>true) true 5 v d ps)(hv:Value.okWide Tryz.prog W .any base 5 v):
  ∃x:Int,AR W (noX (P:=Tryz.prog)) noμ [] (.pv none (.int .u8 x)) v/\0<=x/\x<256:=by
 obtain⟨n,p,h1,h2,h3⟩:=GP (by decide) (by kernel_rfl) h hv;obtain⟨x,rfl,hx⟩:=mF (k:=.u8) (by kernel_rfl) h2;rw[show shOf Tryz.prog 5=none from by kernel_rfl] at h1;refine⟨x,h1,?_⟩;simp[Lit.wf,IntKind.min,IntKind.max,IntKind.signed,IntKind.bits] at hx;omega
end Go.Proofs.YtgedfopkiebjkaaGreatDoor
namespace Go.Proofs.YtgedfopkiebjkaaGreatDoor
open Go.Am Go.ChangeShapes Go.WideShapes Go.ChangeAt Go.RowKit
def jz:List (String × DataW Unit):=[("unicode.White_Space",Rows.laid_unicode_White_Space),("strings.asciiSpace",Rows.laid_strings_asciiSpace)]
noncomputable def Vl(os:Os):World:=World.laidAll Tryz.prog os jz
theorem NS(os:Os)(args:Array Value):laidMet Tryz.prog jz ((Vl os).forCall (fun _ _=>0) ⟨#[],args,[]⟩).memory:=laidMet_laidAll args (by kernel_rfl) (by kernel_rfl)
theorem gTab:Tryz.prog.globalNamed "strings.asciiSpace" =some 0:=by kernel_rfl
theorem gTabType:(Tryz.prog.globals[0]?).map (·.type)=some 125:=by kernel_rfl
theorem NT:Tryz.prog.cellsOf 125=256:=by kernel_rfl
theorem NU:Tryz.prog.cellsOf 5=1:=by kernel_rfl
theorem NV:Rows.laid_strings_asciiSpace (H:=Unit)=Lib.tabData .u8 Lib.asciiSpaceTab:=by kernel_rfl
theorem NW{W:World}(h:laidMetH Tryz.prog jz W):TabR Tryz.prog W fun _=>True:=by
 have h0:laidMet Tryz.prog jz W:=h;obtain⟨ps,⟨g1,t1,cs1,fuel1,p1,q1,_,_,_,_,⟨g,t,cs,fuel,p,q,hg,ht,hvar,hd,_,_⟩,_⟩,_⟩:=h0;obtain rfl:=Option.some.inj (gTab.symm.trans hg);obtain rfl:=Option.some.inj (gTabType.symm.trans ht);rw[NV] at hd;have hcs:=Lib.cells_of_tab Tryz.underlying125 Tryz.underlying5 NU NT hd;refine mj (fun _=>trivial) fun g' hg'=> ?_;obtain rfl:=Option.some.inj (gTab.symm.trans hg');unfold World.var? at hvar;rw[gTab] at hvar;simp only[Option.bind_some] at hvar;split at hvar
 ·rename_i c t fr hb;cases hvar;refine⟨t,fr,?_⟩;rw[hb,<-hcs]
 ·cases hvar
theorem NX:∀(t:Tm) (hp:Heap),t.size<1000000000->S 132 [t.av] hp=some (.ret t.av,hp):=by
 intro t
 induction t using Tm.zAl with
 |h t ih=>
  intro hp ht;have hts:=t.size_eq;have hlen:=Tm.zAk t.args;refine zL rfl rfl rfl (zJ [(some 4,t.pv)]) rfl ?_;have hb:zR A0 [0,1,2] [P4 t.kind,P4 t.n,P6 t.name]=some (.agg [(none,P4 t.kind),(none,P4 t.n),(none,P6 t.name),(none,.tsl (some 4) [])]):=rfl;simp -dsimp -implicitDefEqProofs only[go_sem,seval,Tm.av,zQ,Yb,Ye,zN,Tm.pvs_len,hb,zH (Za _)];refine Yf (α:=Unit) t.args.length (fun _ _=>True) (fun i _=>⟨[(1,.ptr 0 0),(2,.ptr 1 0),(3,.ptr 3 0),(4,P4 i)],appH 0 t i⟩) () ⟨trivial,rfl⟩ ?_ ?_
  ·rintro i - h -;have hc:(i:Int)<(t.args.length:Int):=by omega
   obtain⟨u,hu⟩:∃u,t.args[i]? =some u:=⟨_,Zd h⟩;have hum:=Zi hu;have husz:=Tm.zAq hum;have hcall:=fun hp=>ih u hum hp (by omega);simp only[Tm.av] at hcall;have w2:IntKind.i64.wrap ((i:Int)+1)=((i+1:Nat):Int):=by rw[zO (by omega) (by omega)];omega
   have hl:(Tm.pvs (t.args.take i)).length=i:=by rw[Tm.pvs_len,Zx];omega
   have hlim:i+1<=lim:=by unfold lim;omega
   simp -dsimp -implicitDefEqProofs only[go_sem,seval,appH,zN,Tm.pvs_len,hc,zM (Tm.pvs_get hu),hcall,w2,hl,hlim,Tm.zAn hu,zH (Za _),Y4 (Za _)];exact⟨(),rfl⟩
  ·rintro - -;have hc:¬(t.args.length:Int)<(t.args.length:Int):=by omega
   simp -dsimp -implicitDefEqProofs only[go_sem,seval,appH,zN,Tm.pvs_len,hc,ZJ,zT,zH (Za _),Y4 (Za _)];exact mP t rfl
def arg0(t:Tm):Tm:=match t.args with
 |x::_=>x
 |_=>.mk 0 0 [] []
def arg1(t:Tm):Tm:=match t.args with
 |_::y::_=>y
 |_=>.mk 0 0 [] []
theorem args_two{t:Tm}(h:t.args.length=2):t.args=[arg0 t,arg1 t]:=by
 unfold arg0 arg1
 match e:t.args,h with
 |[x,y],_=>rfl
theorem NY{t:Tm}(h:t.args.length=2):t.args[1]? =some (arg1 t):=by grind [args_two]
theorem gF{t:Tm}(h:t.args.length=2):arg1 t∈t.args:=Zi (NY h)
def nilT:Tm:=.mk 2 0 [91,93] []
theorem fit9{t:Tm}(h:t.valid=true):t.size<1000000000:=by grind [valid_size]
def zg(q:Nat):AV:=.agg [(none,P4 0),(none,P4 0),(none,P6 []),(none,.sl (some 4) q 0 0 0)]
theorem xN:∀t:Tm,PV.beq t.pv t.pv=true:=by
 intro t
 induction t using Tm.zAl with
 |h t ih=>
  cases t with
  |mk k n s ts=>
   have:∀l:List Tm,(∀u∈l,PV.beq u.pv u.pv=true)->PV.beqs (Tm.pvs l) (Tm.pvs l)=true:=by
    intro l
    induction l with
    |nil=>intro _;rfl
    |cons x r ihr=>grind [Tm.pvs,PV.beqs]
   simp[Tm.pv,PV.beq,PV.beqc,this ts ih]
def cs(t:Tm):Prop:=t.kind=3/\t.name=[46]/\t.args.length=2
instance (t:Tm):Decidable (cs t):=inferInstanceAs (Decidable (_/\_))
def tl(t:Tm):Tm:=if h:cs t then tl (arg1 t) else t
termination_by t.size
decreasing_by exact Tm.zAq (gF h.2.2)
def els(t:Tm):List Tm:=if h:cs t then arg0 t::els (arg1 t) else[]
termination_by t.size
decreasing_by exact Tm.zAq (gF h.2.2)
def zW(nm:List UInt8):Tm:=.mk 2 0 nm []
def strT(nm:List UInt8)(l:List Tm):Tm:=.mk 3 0 nm l
theorem q8{nm:List UInt8}(h:nm.length<=100):(zW nm).valid=true:=by
 have:(nm.length:Int)<=100:=by omega
 refine Xw ?_ (by have:(zW nm).size=1:=rfl;omega)
 grind [zW,Tm.fits,Tm.fitsAll,Tm.node,Tm.kind,Tm.n,Tm.name,Tm.args]
theorem xO{nm:List UInt8}{l:List Tm}(h:nm.length<=100)(h1:0<l.length)(h2:l.length<=8)(hl:Tm.fitsAll l=true):(strT nm l).fits=true:=by
 grind [strT,Tm.fits,Tm.node,Tm.kind,Tm.n,Tm.name,Tm.args]
theorem jA(nm:List UInt8)(h:nm.length<=100)(hp:Heap):S 45 [P6 nm] hp=some (.ret (zW nm).av,hp):=by
 refine zL rfl rfl rfl (zJ [(none,.str nm)]) rfl ?_;have hv:=q8 h;have hb:zR A0 [0,2] [P4 2,P6 nm]=some (.agg [(none,P4 2),(none,P4 0),(none,P6 nm),(none,.tsl (some 4) [])]):=rfl;have hcl:∀H:Heap,S 41 [.agg [(none,P4 2),(none,P4 0),(none,P6 nm),(none,.tsl (some 4) [])]] H=some (.ret (zW nm).av,H):=fun H=>
  yX (F:=find tab) (prim:=prim) (f:=41) (args:=[.agg [(none,P4 2),(none,P4 0),(none,P6 nm),(none,.tsl (some 4) [])]]) (ps:=[(some 4,(zW nm).pv)]) (hp:=H) (hp1:=H) rfl rfl rfl rfl (Xu (zW nm) [] hv (fit9 hv))
 simp only[Tm.av] at hcl;simp -dsimp -implicitDefEqProofs only[go_sem,seval,Tm.av,hb,hcl]
 try rfl
theorem Vm(nm:List UInt8)(l:List Tm)(h1:0<l.length)(hv:(strT nm l).valid=true)(hp:Heap):S 126 [P6 nm,.pv none (.sl (some 4) (Tm.pvs l))] hp=some (.ret (strT nm l).av,hp):=by
 refine zL rfl rfl rfl (zJ [(none,.str nm),(none,.sl (some 4) (Tm.pvs l))]) rfl ?_;have hb:zR A0 [0,2,3] [P4 3,P6 nm,.pv none (.sl (some 4) (Tm.pvs l))]=some (.pv (some 4) (strT nm l).pv):=rfl;have hcl:=fun hp=>Xu (strT nm l) hp hv (fit9 hv);have hne:=Zj (show ¬(l.length:Int)=0 by omega);simp only[Tm.av] at hcl;simp -dsimp -implicitDefEqProofs only[go_sem,seval,Tm.av,hb,hcl,Tm.pvs_len,hne]
 try rfl
theorem jB{f:FuncId}{fn:AFn}{ps:List (Sh × PV)}{args:List AV}{t:Tm}{hp hp1:Heap}(hp0:prim f=none)(hf:find tab f=some fn)(hm:fn.heapMode=false)(hz:zZ args hp=some (ps,hp1))(hr:fn.rcv=none)(h:S f (pvs ps) []=some (.ret t.av,[])):S f args hp=some (.ret t.av,hp1):=by
 have h:=yX (F:=find tab) (prim:=prim) (f:=f) (args:=args) (ps:=ps) (hp:=hp) (hp1:=hp1) hp0 hf hm hz h hr;have hs:∀t:Tm,t.av.scalar=false:=fun t=>by cases t;rfl
 grind
def errN:List UInt8:=[101,114,114,111,114]
def errT(f:Tm):Tm:=strT errN [f,nilT]
theorem NZ(fn:List UInt8)(l:List Tm)(h1:0<l.length)(hv1:(strT fn l).valid=true)(hv2:(errT (strT fn l)).valid=true)(hp:Heap):S 87 [P6 fn,.pv none (.sl (some 4) (Tm.pvs l))] hp=some (.ret (errT (strT fn l)).av,hp):=by
 refine zL rfl rfl rfl (zJ [(none,.str fn),(none,.sl (some 4) (Tm.pvs l))]) rfl ?_;have ha:=Vm fn l h1 hv1;have hb:=jA [91,93] (by decide);have hc:∀H:Heap,S 126 [P6 errN,.tsl (some 4) [(strT fn l).pv,nilT.pv]] H=some (.ret (errT (strT fn l)).av,H):=fun H=>
  jB (ps:=[(none,.str errN),(none,.sl (some 4) (Tm.pvs [strT fn l,nilT]))]) rfl rfl rfl rfl rfl (Vm errN [strT fn l,nilT] (by simp) hv2 [])
 have e:zW [91,93]=nilT:=rfl;rw[e] at hb;simp only[Tm.av] at ha hb hc;generalize strT fn l=F at*;simp only[errN] at hc;simp -dsimp -implicitDefEqProofs only[go_sem,seval,Tm.av,ha,hb,hc]
 try rfl
def culk(k:Nat)(t:Tm):Tm:=if 2000<3+k+t.size then zW [46,46,46] else t
def gErr(fnm:List UInt8)(nms:List (List UInt8))(t:Tm):Tm:=strT fnm (nms.map zW++[culk nms.length t])
theorem gG:∀(nms:List (List UInt8)) (l:List Tm),(∀x∈nms,x.length<=100)->Tm.fitsAll l=true->Tm.fitsAll (nms.map zW++l)=true
 |[],l,_,h=>h
 |x::r,l,h,hl=>by
  simp only[ZW,Zs,Tm.fitsAll,Zk];exact⟨valid_fits (q8 (h x (by simp))),gG r l (fun y hy=>h y (by grind)) hl⟩
theorem gH:∀(nms:List (List UInt8)) (t:Tm),Tm.sizes (nms.map zW++[t])=nms.length+(t.size+0)
 |[],t=>by simp[Tm.sizes]
 |x::r,t=>by
  have ih:=gH r t;show(zW x).size+Tm.sizes (r.map zW++[t])=_;have:(zW x).size=1:=rfl
  grind
theorem gI{fnm:List UInt8}{nms:List (List UInt8)}{t:Tm}(hf:fnm.length<=100)(hn:∀x∈nms,x.length<=100)(hl:nms.length<=3)(hv:t.valid=true):(gErr fnm nms t).valid=true/\(errT (gErr fnm nms t)).valid=true:=by
 have hc:(culk nms.length t).valid=true/\(culk nms.length t).size+nms.length+3<=2000:=by
  unfold culk;split
  ·exact⟨q8 (by decide),by have:(zW [46,46,46]).size=1:=rfl;omega⟩
  grind
 have f1:(gErr fnm nms t).fits=true:=xO hf (by simp) (by grind) (gG nms _ hn (by grind [Tm.fitsAll,valid_fits]));have s1:(gErr fnm nms t).size=1+(nms.length+((culk nms.length t).size+0)):=by
  rw[Tm.size_eq,<-gH];rfl
 have f2:(errT (gErr fnm nms t)).fits=true:=xO (by decide) (by simp) (by simp) (by simp[Tm.fitsAll,f1];decide);have s2:(errT (gErr fnm nms t)).size=1+((gErr fnm nms t).size+(1+0)):=by
  rw[Tm.size_eq];rfl
 grind [Xw]
theorem P2:∀H:Heap,YW (some 4) H=some (.sl (some 4) H.length 0 0 0,H++[.arr (some 4) [] false]):=fun H=>Xt (sh:=some 4) (by decide)
theorem N0(fnm:List UInt8)(hf:fnm.length<=100)(nms:List (List UInt8))(hn:∀x∈nms,x.length<=100)(hl:nms.length<=3)(t:Tm)(hv:t.valid=true)(hp:Heap):S 88 [t.av,P6 fnm,.pv none (.sl none (nms.map .str))] hp=some (.ret (errT (gErr fnm nms t)).av,hp):=by
 refine zL rfl rfl rfl (zJ [(some 4,t.pv),(none,.str fnm),(none,.sl none (nms.map .str))]) rfl ?_;have hz:=valid_size hv;have h1:=fun hp=>yu t hp (by omega);have h2:=fun hp=>qN t hp (by omega);have h4:=jA [46,46,46] (by decide);obtain⟨v1,v2⟩:=gI hf hn hl hv;have hn0:=P2;have hmin:min t.size 2001=t.size:=by omega
 rw[hmin] at h2;have hsl:(nms.map PV.str).length=nms.length:=by simp
 have hra:∀(a0 a1 a2:AObj) (u:Tm),culk nms.length t=u->S 87 [P6 fnm,.sl (some 4) 3 (nms.length+1) 0 (nms.length+1)] [a0,a1,a2,.arr (some 4) (Tm.pvs (nms.map zW)++[u.pv]) false]=some (.ret (errT (gErr fnm nms t)).av,[a0,a1,a2,.arr (some 4) (Tm.pvs (nms.map zW)++[u.pv]) true]):=fun a0 a1 a2 u hu=>by
  subst hu;have e:Tm.pvs (nms.map zW)++[(culk nms.length t).pv]=Tm.pvs (nms.map zW++[culk nms.length t]):=by rw[Tm.zAG];rfl
  rw[e];refine jB (ps:=[(none,.str fnm),(none,.sl (some 4) (Tm.pvs (nms.map zW++[culk nms.length t])))]) rfl rfl rfl ?_ rfl (NZ fnm (nms.map zW++[culk nms.length t]) (by simp) v1 v2 []);simp_all[Tm.pvs_len,zZ,AV.freeze,deep,AV.shp]
 have hnl:nms.length+1<=lim:=by grind [lim]
 have hal:(Tm.pvs (nms.map zW)).length=nms.length:=by grind [Tm.pvs_len]
 have w1:IntKind.i64.wrap (3+(nms.length:Int))=3+(nms.length:Int):=zO (by omega) (by omega);have w2:IntKind.i64.wrap (3+(nms.length:Int)+(t.size:Int))=3+(nms.length:Int)+(t.size:Int):=zO (by omega) (by omega);simp only[Tm.av] at h1 h2 h4 hra;simp -dsimp -implicitDefEqProofs only[go_sem,seval,Tm.av,h1,hv,hn0,hsl];refine Yf (α:=Unit) nms.length (fun _ _=>True) (fun i _=>⟨[(1,P6 fnm),(2,.pv none (.sl none (nms.map .str))),(3,.ptr 0 0),(6,.ptr 1 0),(7,.sl (some 4) 3 i 0 i),(14,.pv none (.sl none (nms.map .str))),(15,P4 nms.length),(16,P4 i)],[.box (some 4) (.pv (some 4) t.pv),.box (some 4) (zg 2),.arr (some 4) [] false,.arr (some 4) (Tm.pvs ((nms.map zW).take i)) false]⟩) () ⟨trivial,rfl⟩ ?_ ?_
 ·rintro i - hi -;have hc:(i:Int)<(nms.length:Int):=by omega
  obtain⟨nm,hnm⟩:∃nm,nms[i]? =some nm:=⟨_,Zd hi⟩;have hnl2:=hn nm (Zi hnm);have h3:=jA nm hnl2;have hsl2:=Zj (show ¬(100:Int)<(nm.length:Int) by omega);have hia:∀s k,Yc none [.pv s (.sl none (nms.map PV.str)),.pv none (.int k i)]=some (.iptr none (.str nm) 0):=fun s k=>zM (by grind);have w3:IntKind.i64.wrap ((i:Int)+1)=((i+1:Nat):Int):=by grind [zO]
  have hil:i+1<=lim:=by grind
  have hpl:(Tm.pvs ((nms.map zW).take i)).length=i:=by grind [Tm.pvs_len]
  have htk:Tm.pvs ((nms.map zW).take i)++[(zW nm).pv]=Tm.pvs ((nms.map zW).take (i+1)):=Tm.zAn (by grind);have hap:∀a0 a1 a2:AObj,z6 (some 4) [a0,a1,a2,.arr (some 4) (Tm.pvs ((nms.map zW).take i)) false] [.sl (some 4) 3 i 0 i,.tsl (some 4) [(zW nm).pv]]=some (.sl (some 4) 3 (i+1) 0 (i+1),[a0,a1,a2,.arr (some 4) (Tm.pvs ((nms.map zW).take (i+1))) false]):=fun _ _ _=>by
   simp_all[z6,aappend,elems]
  simp only[Tm.av] at h3;generalize (zW nm).pv=X at*;simp -dsimp -implicitDefEqProofs only[go_sem,seval,zg,hc,hia,hsl2,h3,hap,w3];exact⟨(),rfl⟩
 ·rintro - -;have hc:¬(nms.length:Int)<(nms.length:Int):=by omega
  have htk:Tm.pvs ((nms.map zW).take nms.length)=Tm.pvs (nms.map zW):=by grind [Zn]
  rw[htk];have hap:∀(a0 a1 a2:AObj) (Y:PV),z6 (some 4) [a0,a1,a2,.arr (some 4) (Tm.pvs (nms.map zW)) false] [.sl (some 4) 3 nms.length 0 nms.length,.tsl (some 4) [Y]]=some (.sl (some 4) 3 (nms.length+1) 0 (nms.length+1),[a0,a1,a2,.arr (some 4) (Tm.pvs (nms.map zW)++[Y]) false]):=fun _ _ _ Y=>by
   simp_all[z6,aappend,elems]
  by_cases hbig:(2000:Int)<3+(nms.length:Int)+(t.size:Int)
  ·have hcu:culk nms.length t=zW [46,46,46]:=by grind [culk]
   have hra':=fun a0 a1 a2=>hra a0 a1 a2 _ hcu;generalize (zW [46,46,46]).pv=Y at*;simp -dsimp -implicitDefEqProofs only[go_sem,seval,zg,hc,h2,hsl,w1,w2,hbig,h4,hap,hra'];rfl
  ·have hcu:culk nms.length t=t:=by grind [culk]
   have hra':=fun a0 a1 a2=>hra a0 a1 a2 _ hcu;simp -dsimp -implicitDefEqProofs only[go_sem,seval,zg,hc,h2,hsl,w1,w2,hbig,hap,hra'];rfl
def peN:List UInt8:=[112,101,114,109,105,115,115,105,111,110,95,101,114,114,111,114]
def perT(a b:List UInt8)(t:Tm):Tm:=errT (gErr peN [a,b] t)
theorem N1(a b:List UInt8)(ha:a.length<=100)(hb:b.length<=100)(t:Tm)(hv:t.valid=true)(hp:Heap):S 120 [P6 a,P6 b,t.av] hp=some (.ret (perT a b t).av,hp):=by
 refine zL rfl rfl rfl (zJ [(none,.str a),(none,.str b),(some 4,t.pv)]) rfl ?_;have h1:∀H:Heap,S 88 [t.av,P6 peN,.tsl none [.str a,.str b]] H=some (.ret (perT a b t).av,H):=fun H=>jB (ps:=[(some 4,t.pv),(none,.str peN),(none,.sl none [.str a,.str b])]) rfl rfl rfl rfl rfl (N0 peN (by decide) [a,b] (by grind) (by simp) t hv []);simp only[Tm.av,peN] at h1;simp -dsimp -implicitDefEqProofs only[go_sem,seval,Tm.av,h1]
 try rfl
end Go.Proofs.YtgedfopkiebjkaaGreatDoor
