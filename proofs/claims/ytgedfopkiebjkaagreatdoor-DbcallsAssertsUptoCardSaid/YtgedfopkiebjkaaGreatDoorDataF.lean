/- What is proved: databases azs data; names, order and number of clauses. -/
import Derived.Test.YtgedfopkiebjkaaGreatDoorVal
import Derived.Test.YtgedfopkiebjkaaGreatDoorTerm
import Derived.Test.YtgedfopkiebjkaaGreatDoorAm5
set_option linter.unusedSimpArgs false
set_option linter.unusedVariables false
namespace Go.Proofs.YtgedfopkiebjkaaGreatDoor
open Go.Am
structure Sto where
 id:Int
 cl:Cz
def Sto.pv(s:Sto):PV:=.agg [(none,.int .i64 s.id),(some 8,s.cl.pv)]
def Sto.pvs(l:List Sto):List PV:=l.map Sto.pv
structure Prc where
 name:List UInt8
 ar:Int
 dyn:Bool
 cls:List Sto
def Prc.pv(p:Prc):PV:=.agg [(none,.str p.name),(none,.int .i64 p.ar),(none,.bool p.dyn),(none,.sl (some 9) (Sto.pvs p.cls))]
def Prc.av(p:Prc):AV:=.pv (some 4) p.pv
def Prc.pvs(l:List Prc):List PV:=l.map Prc.pv
structure Dbs where
 next:Int
 procs:List Prc
def Dbs.pv(d:Dbs):PV:=.agg [(none,.int .i64 d.next),(none,.sl (some 4) (Prc.pvs d.procs))]
def Dbs.av(d:Dbs):AV:=.pv (some 2) d.pv
theorem Sto.pvs_len(l:List Sto):(Sto.pvs l).length=l.length:=by simp[Sto.pvs]
theorem Prc.pvs_len(l:List Prc):(Prc.pvs l).length=l.length:=by simp[Prc.pvs]
theorem Sto.pvs_get{l:List Sto}{i:Nat}{s:Sto}(h:l[i]? =some s):(Sto.pvs l)[i]? =some s.pv:=by simp[Sto.pvs,h]
theorem Prc.pvs_get{l:List Prc}{i:Nat}{s:Prc}(h:l[i]? =some s):(Prc.pvs l)[i]? =some s.pv:=by simp[Prc.pvs,h]
theorem YF(s:Sto):PV.part deep s.pv 0 none=some (.int .i64 s.id):=rfl
theorem yz(s:Sto):PV.part deep s.pv 1 (some 8)=some s.cl.pv:=by cases s with|mk i c=>cases c;rfl
theorem Yu(p:Prc):PV.part deep p.pv 0 none=some (.str p.name):=rfl
theorem Yw(p:Prc):PV.part deep p.pv 1 none=some (.int .i64 p.ar):=rfl
theorem jB(p:Prc):PV.part deep p.pv 2 none=some (.bool p.dyn):=rfl
theorem YG(p:Prc):PV.part deep p.pv 3 none=some (.sl (some 9) (Sto.pvs p.cls)):=rfl
theorem Yl(d:Dbs):PV.part deep d.pv 0 none=some (.int .i64 d.next):=rfl
theorem Yn(d:Dbs):PV.part deep d.pv 1 none=some (.sl (some 4) (Prc.pvs d.procs)):=rfl
def strC(a b:List UInt8):Int:=if Op.bytesLess a b=true then -1 else if a=b then 0 else 1
def intC(a b:Int):Int:=if a<b then -1 else if b<a then 1 else 0
theorem NQ(a b:List UInt8)(hp:Heap):S 93 [P6 a,P6 b] hp=some (.ret (P4 (strC a b)),hp):=by
 refine zM rfl rfl rfl (zJ [(none,.str a),(none,.str b)]) rfl ?_;have hn:∀(x:List UInt8) (hp:Heap),S 128 [P6 x] hp=some (.ret (P5 false),hp):=fun x hp=>by
  refine zM rfl rfl rfl (zJ [(none,.str x)]) rfl ?_;simp -dsimp -implicitDefEqProofs only[go_sem,seval]
  try simp
 have hg:Xt .gtr a b=some (.bool (!(Op.bytesLess a b || decide (a=b)))):=rfl;unfold strC;cases h1:Op.bytesLess a b with
 |true=>simp -dsimp -implicitDefEqProofs only[go_sem,seval,hn,h1]
 |false=>
  rw[h1] at hg;by_cases h2:a=b
  ·rw[ZN h2] at hg;have hg':Xt .gtr a b=some (.bool false):=hg;rw[Zb (by decide),Zh h2];simp -dsimp -implicitDefEqProofs only[go_sem,seval,hn,h1,hg']
  ·rw[zA h2] at hg;have hg':Xt .gtr a b=some (.bool true):=hg;rw[Zb (by decide),Zb h2];simp -dsimp -implicitDefEqProofs only[go_sem,seval,hn,h1,hg']
theorem NR(a b:Int)(hp:Heap):S 94 [P4 a,P4 b] hp=some (.ret (P4 (intC a b)),hp):=by
 refine zM rfl rfl rfl (zJ [(none,.int .i64 a),(none,.int .i64 b)]) rfl ?_;have hn:∀(x:Int) (hp:Heap),S 129 [P4 x] hp=some (.ret (P5 false),hp):=fun x hp=>by
  refine zM rfl rfl rfl (zJ [(none,.int .i64 x)]) rfl ?_;simp -dsimp -implicitDefEqProofs only[go_sem,seval]
  try simp
 unfold intC;by_cases h1:a<b
 ·simp -dsimp -implicitDefEqProofs only[go_sem,seval,hn,h1]
 ·by_cases h2:b<a
  ·simp -dsimp -implicitDefEqProofs only[go_sem,seval,hn,h1,h2]
  ·simp -dsimp -implicitDefEqProofs only[go_sem,seval,hn,h1,h2]
theorem NS(s:List UInt8)(a:Int)(hp:Heap):S 53 [P6 s,P4 a] hp=some (.ret (P5 (decide (s.length<=100) && (decide (0<=a) && decide (a<=8)))),hp):=by
 refine zM rfl rfl rfl (zJ [(none,.str s),(none,.int .i64 a)]) rfl ?_;by_cases h1:s.length<=100
 ·have h1':(s.length:Int)<=100:=by omega
  by_cases h2:0<=a
  ·simp -dsimp -implicitDefEqProofs only[go_sem,seval,h1,h1',h2]
  ·simp -dsimp -implicitDefEqProofs only[go_sem,seval,h1,h1',h2]
 ·have h1':¬(s.length:Int)<=100:=by omega
  simp -dsimp -implicitDefEqProofs only[go_sem,seval,h1,h1']
def ordP(p q:Prc):Int:=if strC p.name q.name=0 then intC p.ar q.ar else strC p.name q.name
theorem NT(a b:Int)(hp:Heap):S 92 [.pv none (.sl none [.int .i64 a,.int .i64 b])] hp=some (.ret (P4 (if a=0 then b else a)),hp):=by
 refine zM rfl rfl rfl (zJ [(none,.sl none [.int .i64 a,.int .i64 b])]) rfl ?_;have hl:([.int .i64 a,.int .i64 b]:List PV).length=2:=rfl;simp -dsimp -implicitDefEqProofs only[go_sem,seval,hl];have e2:((2:Nat):Int)=2:=rfl;have e1:((1:Nat):Int)=1:=rfl;have e0:((0:Nat):Int)=0:=rfl;refine Ye (α:=Unit) 2 (fun i _=>(0<i->a=0)/\(1<i->b=0)) (fun i _=>⟨[(3,P4 0),(6,.pv none (.sl none [.int .i64 a,.int .i64 b])),(7,P4 2),(8,P4 i)],[]⟩) () ⟨⟨by omega,by omega⟩,rfl⟩ ?_ ?_
 ·rintro i - h ⟨ha,hb⟩
  match i,h with
  |0,_=>
   have c2:(0:Int)<2:=by decide
   have w2:IntKind.i64.wrap ((0:Int)+1)=((0+1:Nat):Int):=by decide
   have g:Yc none [.pv none (.sl none [.int .i64 a,.int .i64 b]),P4 0]=some (.iptr none (.int .i64 a) 0):=rfl;by_cases h0:a=0
   ·have h0':=Zg h0;simp -dsimp -implicitDefEqProofs only[go_sem,seval,e0,c2,w2,g,h0'];simp_all
   ·simp -dsimp -implicitDefEqProofs only[go_sem,seval,e0,c2,w2,g,h0]
    try rw[Zb h0]
    try exact⟨_,rfl⟩
  |1,_=>
   have h0:=ha (by omega);have c2:(1:Int)<2:=by decide
   have w2:IntKind.i64.wrap ((1:Int)+1)=((1+1:Nat):Int):=by decide
   have g:Yc none [.pv none (.sl none [.int .i64 a,.int .i64 b]),P4 1]=some (.iptr none (.int .i64 b) 0):=rfl;by_cases h1:b=0
   ·have h1':=Zg h1;simp -dsimp -implicitDefEqProofs only[go_sem,seval,e1,c2,w2,g,h1'];simp_all
   ·rw[Zh h0];simp -dsimp -implicitDefEqProofs only[go_sem,seval,e1,c2,w2,g,h1]
    try exact⟨_,rfl⟩
 ·rintro - ⟨ha,hb⟩;have h0:=ha (by omega);have h1:=hb (by omega);have c2:¬(2:Int)<2:=by decide
  rw[Zh h0,h1];simp -dsimp -implicitDefEqProofs only[go_sem,seval,e2,c2]
  try exact⟨_,rfl⟩
theorem gy(p q:Prc)(hp:Heap):S 54 [p.av,q.av] hp=some (.ret (P4 (ordP p q)),hp):=by
 refine zM rfl rfl rfl (zJ [(some 4,p.pv),(some 4,q.pv)]) rfl ?_;have h1:=fun hp=>NQ p.name q.name hp;have h2:=fun hp=>NR p.ar q.ar hp;have h3:=fun hp=>NT (strC p.name q.name) (intC p.ar q.ar) hp;unfold ordP;simp -dsimp -implicitDefEqProofs only[go_sem,seval,Prc.av,Yu,Yw,h1,h2,h3]
 done
def totD(l:List Prc):Nat:=(l.map fun p=>p.cls.length).sum
theorem Vv{l:List Prc}{i:Nat}{p:Prc}(h:l[i]? =some p):totD (l.take (i+1))=totD (l.take i)+p.cls.length:=by
 grind [totD,Z0]
theorem Vw{l:List Prc}(i:Nat):totD (l.take i)<=totD l:=by
 grind [ZX,totD]
theorem QK(d:Dbs)(h1:d.procs.length<1000000000)(h2:totD d.procs<1000000000)(hp:Heap):S 52 [d.av] hp=some (.ret (P4 (totD d.procs:Int)),hp):=by
 refine zM rfl rfl rfl (zJ [(some 2,d.pv)]) rfl ?_;simp -dsimp -implicitDefEqProofs only[go_sem,seval,Dbs.av,Yn,Prc.pvs_len];refine Ye (α:=Unit) d.procs.length (fun _ _=>True) (fun i _=>⟨[(3,P4 (totD (d.procs.take i):Int)),(7,.pv none (.sl (some 4) (Prc.pvs d.procs))),(8,P4 d.procs.length),(9,P4 i)],[.box (some 2) (.pv (some 2) d.pv)]⟩) () ⟨trivial,rfl⟩ ?_ ?_
 ·rintro i - h -;have hc:(i:Int)<(d.procs.length:Int):=by omega
  obtain⟨p,hpp⟩:∃p,d.procs[i]? =some p:=⟨_,Zd h⟩;have ht:=Vv hpp;have hle:=Vw (l:=d.procs) (i+1);have w1:IntKind.i64.wrap ((i:Int)+1)=((i+1:Nat):Int):=by grind [zW]
  have w2:IntKind.i64.wrap ((totD (d.procs.take i):Int)+(p.cls.length:Int))=(totD (d.procs.take (i+1)):Int):=by grind [zW]
  simp -dsimp -implicitDefEqProofs only[go_sem,seval,hc,w1,w2,zQ (Prc.pvs_get hpp),YG,Sto.pvs_len,zH (Za _)];exact⟨(),rfl⟩
 ·rintro - -;have hc:¬(d.procs.length:Int)<(d.procs.length:Int):=by omega
  simp -dsimp -implicitDefEqProofs only[go_sem,seval,hc,ZF]
  done
def yH(l:List Int):List (Int × PV):=l.map fun v=>(v,.int .i64 1)
theorem gA(v:Int)(l:List Int):Y6 v (yH l)=if v∈l then some (.int .i64 1) else none:=by
 induction l with
 |nil=>rfl
 |cons x r ih=>
  grind [Y6,yH]
theorem Vx(v:Int):∀(l:List Int),v ∉ l->mPut v (.int .i64 1) (yH l)=yH (l++[v])
 |[],_=>rfl
 |x::r,h=>by
  have h':¬x=v:=fun e=>h (by grind);have ih:=Vx v r fun hm=>h (Zm _ hm)
  grind [mPut,yH]
def namB(p:Prc):Bool:=decide (p.name.length<=100) && (decide (0<=p.ar) && decide (p.ar<=8))
def okSt(next:Int)(p:Prc)(seen:List Int)(s:Sto):Bool:=decide (1<=s.id) && (decide (s.id<next) && (decide (s.id ∉ seen) && (okC s.cl && (decide (s.cl.head.name=p.name) && decide ((s.cl.head.args.length:Int)=p.ar)))))
def okSs(next:Int)(p:Prc):List Int->List Sto->Option (List Int)
 |seen,[]=>some seen
 |seen,s::r=>if okSt next p seen s=true then okSs next p (seen++[s.id]) r else none
def preB:Option Prc->Prc->Bool
 |none,_=>true
 |some q,p=>decide (ordP q p<0)
def okPs(next:Int):Option Prc->List Int->List Prc->Bool
 |_,_,[]=>true
 |q,seen,p::r=>namB p && (preB q p && match okSs next p seen p.cls with
  |none=>false
  |some s=>okPs next (some p) s r)
def okD(d:Dbs):Bool:=decide (1<=d.next) && (decide (d.next<=4294967296) && (decide (d.procs.length<=500) && (decide (totD d.procs<=500) && okPs d.next none [] d.procs)))
theorem XW{l:List Prc}{p:Prc}(h:p∈l):p.cls.length<=totD l:=by
 induction l with
 |nil=>cases h
 |cons x r ih=>
  grind [totD]
theorem jC{α:Type}{l:List α}{i:Nat}{x:α}(h:l[i]? =some x):l.drop i=x::l.drop (i+1):=by
 grind [zF]
def vM(d:Dbs)(m:List (Int × PV)):Heap:=[.box (some 2) (.pv (some 2) d.pv),.map none (Ya m)]
def vH(d:Dbs)(seen:List Int):Heap:=vM d (yH seen)
theorem yO(s:Sto):PV.part deep s.pv 3 none=some (.str s.cl.head.name):=by
 cases s with|mk i c=>cases c with|mk h b=>cases h;rfl
theorem y5(s:Sto):PV.part deep s.pv 4 none=some (.sl (some 4) (Tm.pvs s.cl.head.args)):=by
 cases s with|mk i c=>cases c with|mk h b=>cases h;rfl
theorem jD{m:List (Int × PV)}{hp:Heap}{r:Nat}{s:Sh}{v:Int}(h:hp[r]? =some (.map none (Ya m))):YH false none (P4 0) false hp [.map r,.pv s (.int .i64 v)]=some (match Y6 v m with|some x=>.pv none x|none=>P4 0):=by
 grind [jt,Vd,Vc]
set_option maxRecDepth 20000 in
theorem yP(d:Dbs)(hl:d.procs.length<1000000000)(ht:totD d.procs<1000000000)(hz:∀p∈d.procs,∀s∈p.cls,s.cl.head.size<100000000/\s.cl.body.size<100000000)(hp:Heap):S 15 [d.av] hp=some (.ret (P5 (okD d)),hp):=by
 refine zM rfl rfl rfl (zJ [(some 2,d.pv)]) rfl ?_;have h1:=fun hp=>QK d hl ht hp;simp only[Dbs.av] at h1;by_cases b1:d.next<1
 ·have e:okD d=false:=by
   grind [okD]
  rw[e];simp -dsimp -implicitDefEqProofs only[go_sem,seval,Dbs.av,Yl,Yn,b1,Prc.pvs_len]
  done
 by_cases b2:4294967296<d.next
 ·have e:okD d=false:=by
   grind [okD]
  rw[e];simp -dsimp -implicitDefEqProofs only[go_sem,seval,Dbs.av,Yl,Yn,b1,b2,Prc.pvs_len]
  done
 by_cases b3:(500:Int)<(d.procs.length:Int)
 ·have e:okD d=false:=by
   grind [okD]
  rw[e];simp -dsimp -implicitDefEqProofs only[go_sem,seval,Dbs.av,Yl,Yn,b1,b2,b3,Prc.pvs_len]
  done
 by_cases b4:(500:Int)<(totD d.procs:Int)
 ·have e:okD d=false:=by
   grind [okD]
  rw[e];simp -dsimp -implicitDefEqProofs only[go_sem,seval,Dbs.av,Yl,Yn,b1,b2,b3,b4,h1,Prc.pvs_len]
  done
 obtain⟨R,hR⟩:∃R,R=okPs d.next none [] d.procs:=⟨_,rfl⟩
 have e:okD d=R:=by
  grind [okD]
 rw[e];simp -dsimp -implicitDefEqProofs only[go_sem,seval,Dbs.av,Yl,Yn,b1,b2,b3,b4,h1,Prc.pvs_len];refine Ye (α:=List Int) d.procs.length (fun i seen=>R=okPs d.next (if i=0 then none else d.procs[i - 1]?) seen (d.procs.drop i)) (fun i seen=>⟨[(1,.ptr 0 0),(3,.map 1),(4,P5 true),(30,.pv none (.sl (some 4) (Prc.pvs d.procs))),(31,P4 d.procs.length),(32,P4 i)],vH d seen⟩) [] ⟨by grind,rfl⟩ ?_ ?_
 ·rintro i seen h hinv;have hc:(i:Int)<(d.procs.length:Int):=by omega
  have w1:IntKind.i64.wrap ((i:Int)+1)=((i+1:Nat):Int):=by grind [zW]
  obtain⟨p,hpp⟩:∃p,d.procs[i]? =some p:=⟨_,Zd h⟩;have hpm:=Zj hpp;have hpl:=XW hpm;have h2:=fun hp=>NS p.name p.ar hp;rw[jC hpp,okPs] at hinv;have hvl:(vH d seen).length=2:=rfl;have hg0:∀X,(vH d seen++X)[0]? =some (.box (some 2) (.pv (some 2) d.pv)):=fun _=>rfl;obtain⟨V,hV⟩:∃V,V=vH d seen:=⟨_,rfl⟩;rw[<-hV] at hvl hg0 ⊢;have h2:∀hp,S 53 [P6 p.name,P4 p.ar] hp=some (.ret (P5 (namB p)),hp):=h2;by_cases nb:namB p=true
  rotate_left
  ·have nb':namB p=false:=by grind
   have hR0:R=false:=by grind
   rw[nb'] at h2;rw[hR0];simp -dsimp -implicitDefEqProofs only[go_sem,seval,hc,w1,zQ (Prc.pvs_get hpp),Yu,Yw,h2,hvl,hg0,zH (Za _),getN hvl,z7 hvl,setN hvl,Yi hvl]
   done
  rw[nb,Bool.true_and] at hinv;rw[nb] at h2;have hcase:(¬0<(i:Int)/\preB (if i=0 then none else d.procs[i - 1]?) p=true)\/∃q,0<(i:Int)/\Yc (some 4) [.pv none (.sl (some 4) (Prc.pvs d.procs)),P4 (IntKind.i64.wrap ((i:Int) - 1))]=some (.iptr (some 4) q.pv 0)/\(∀hp,S 54 [.pv (some 4) q.pv,.pv (some 4) p.pv] hp=some (.ret (P4 (ordP q p)),hp))/\preB (if i=0 then none else d.procs[i - 1]?) p=decide (ordP q p<0):=by
   by_cases i0:i=0
   ·left;refine⟨by omega,?_⟩;rw[Zh i0];rfl
   ·right;obtain⟨q,hq⟩:∃q,d.procs[i - 1]? =some q:=⟨_,Zd (by omega)⟩;have w3:IntKind.i64.wrap ((i:Int) - 1)=((i - 1:Nat):Int):=by grind [zW]
    refine⟨q,by omega,by grind [zQ,Prc.pvs_get],fun hp=>gy q p hp,?_⟩;rw[Zb i0,hq];rfl
  have hbad:∀q:Prc,preB (if i=0 then none else d.procs[i - 1]?) p=decide (ordP q p<0)->0<=ordP q p->R=false:=fun q h1 h2=>by
   grind
  have hgood:preB (if i=0 then none else d.procs[i - 1]?) p=true->R=match okSs d.next p seen p.cls with|none=>false|some s=>okPs d.next (some p) s (d.procs.drop (i+1)):=fun h1=>by
   grind
  rcases hcase with⟨i0,hpb⟩|⟨q,i0,hia,hoq,hpb⟩
  rotate_left
  ·by_cases ho:0<=ordP q p
   ·rw[hbad q hpb ho];simp -dsimp -implicitDefEqProofs only[go_sem,seval,hc,w1,i0,hia,hoq,ho,zQ (Prc.pvs_get hpp),Yu,Yw,Yn,h2,hvl,hg0,zH (Za _),getN hvl,z7 hvl,setN hvl,Yi hvl]
    done
   have hRR:=hgood (by grind);simp -dsimp -implicitDefEqProofs only[go_sem,seval,hc,w1,i0,hia,hoq,ho,zQ (Prc.pvs_get hpp),Yu,Yw,YG,Yn,Sto.pvs_len,h2,hvl,hg0,zH (Za _),getN hvl,z7 hvl,setN hvl,Yi hvl];clear hinv hbad hgood h1 h2;have hV2:V=vH d seen:=hV;rw[hV2];refine Ye (α:=List Int) p.cls.length (fun k sn=>okSs d.next p seen p.cls=okSs d.next p sn (p.cls.drop k)) (fun k sn=>⟨[(1,.ptr 0 0),(3,.map 1),(4,P5 true),(6,.ptr 2 0),(30,.pv none (.sl (some 4) (Prc.pvs d.procs))),(31,P4 d.procs.length),(32,P4 i),(59,.pv none (.sl (some 9) (Sto.pvs p.cls))),(60,P4 p.cls.length),(61,P4 k)],[.box (some 2) (.pv (some 2) d.pv),.map none (Ya (yH sn)),.box (some 4) (.pv (some 4) p.pv),.arr (some 9) [] false]⟩) seen ⟨rfl,rfl⟩ ?_ ?_
   ·rintro k sn hk hin;have hck:(k:Int)<(p.cls.length:Int):=by omega
    have wk:IntKind.i64.wrap ((k:Int)+1)=((k+1:Nat):Int):=by grind [zW]
    obtain⟨s,hs⟩:∃s,p.cls[k]? =some s:=⟨_,Zd hk⟩;obtain⟨zs1,zs2⟩:=hz p hpm s (Zj hs);have h3:=fun hp=>xS s.cl zs1 zs2 hp;simp only[Cz.av] at h3;rw[jC hs,okSs] at hin;obtain⟨c,hcc⟩:∃c:Int,c=if s.id∈sn then 1 else 0:=⟨_,rfl⟩
    have hc01:c=0\/c=1:=by grind
    have wc:IntKind.i64.wrap (c+1)=c+1:=zW (by omega) (by omega);obtain⟨m2,hm2⟩:∃m2,m2=mPut s.id (.int .i64 (c+1)) (yH sn):=⟨_,rfl⟩;have hl1:∀X,YH false none (P4 0) false (.box (some 2) (.pv (some 2) d.pv)::.map none (Ya (yH sn))::X) [.map 1,P4 s.id]=some (P4 c):=fun X=>by
     grind [jD,gA]
    have hl2:∀X,YH false none (P4 0) false (.box (some 2) (.pv (some 2) d.pv)::.map none (Ya m2)::X) [.map 1,P4 s.id]=some (P4 (c+1)):=fun X=>by
     grind [jD,Ji]
    have hms:∀X,yT false none (.box (some 2) (.pv (some 2) d.pv)::.map none (Ya (yH sn))::X) [.map 1,P4 s.id,P4 (c+1)]=some (.undef,.box (some 2) (.pv (some 2) d.pv)::.map none (Ya m2)::X):=fun X=>by
     grind [Q9,QG]
    have hbadS:okSt d.next p sn s=false->R=false:=fun h=>by
     grind
    by_cases a1:s.id<1
    ·rw[hbadS (by grind [okSt])];simp -dsimp -implicitDefEqProofs only[go_sem,seval,hck,wk,wc,a1,zQ (Sto.pvs_get hs),YF,hl1,hl2,hms,Yl,zH (Za _)]
     done
    by_cases a2:d.next<=s.id
    ·rw[hbadS (by grind [okSt])];simp -dsimp -implicitDefEqProofs only[go_sem,seval,hck,wk,wc,a1,a2,zQ (Sto.pvs_get hs),YF,yz,yO,y5,Yu,Yw,Tm.pvs_len,hl1,hl2,hms,Yl,zH (Za _)]
     done
    have p1:decide (1<=s.id)=true:=ZN (by omega);have p2:decide (s.id<d.next)=true:=ZN (by omega);by_cases a3:s.id∈sn
    ·have hc1:c=1:=by grind
     have a3':1<c+1:=by omega
     rw[hbadS (by grind [okSt])];simp -dsimp -implicitDefEqProofs only[go_sem,seval,hck,wk,wc,a1,a2,a3',zQ (Sto.pvs_get hs),YF,yz,yO,y5,Yu,Yw,Tm.pvs_len,hl1,hl2,hms,Yl,zH (Za _)]
     done
    have hc0:c=0:=by grind
    have a3':¬1<c+1:=by omega
    have p3:decide (s.id ∉ sn)=true:=ZN a3;cases a4:okC s.cl with
    |false=>
     rw[hbadS (by grind [okSt])];rw[a4] at h3;simp -dsimp -implicitDefEqProofs only[go_sem,seval,hck,wk,wc,a1,a2,a3',h3,zQ (Sto.pvs_get hs),YF,yz,yO,y5,Yu,Yw,Tm.pvs_len,hl1,hl2,hms,Yl,zH (Za _)]
     done
    |true=>
    rw[a4] at h3;by_cases a5:s.cl.head.name=p.name
    rotate_left
    ·rw[hbadS (by grind [okSt])];have a5':=Zi a5;simp -dsimp -implicitDefEqProofs only[go_sem,seval,hck,wk,wc,a1,a2,a3',h3,a5',zQ (Sto.pvs_get hs),YF,yz,yO,y5,Yu,Yw,Tm.pvs_len,hl1,hl2,hms,Yl,zH (Za _)]
     done
    have a5':=Zg a5;by_cases a6:(s.cl.head.args.length:Int)=p.ar
    rotate_left
    ·rw[hbadS (by grind [okSt])];have a6':=Zi a6;simp -dsimp -implicitDefEqProofs only[go_sem,seval,hck,wk,wc,a1,a2,a3',h3,a5',a6',zQ (Sto.pvs_get hs),YF,yz,yO,y5,Yu,Yw,Tm.pvs_len,hl1,hl2,hms,Yl,zH (Za _)]
     done
    have a6':=Zg a6;have hok:okSt d.next p sn s=true:=by grind [okSt]
    rw[Zh hok] at hin;have hm3:m2=yH (sn++[s.id]):=by grind [Vx]
    simp -dsimp -implicitDefEqProofs only[go_sem,seval,hck,wk,wc,a1,a2,a3',h3,a5',a6',zQ (Sto.pvs_get hs),YF,yz,yO,y5,Yu,Yw,Tm.pvs_len,hl1,hl2,hms,Yl,zH (Za _)];refine⟨sn++[s.id],hin,?_⟩;rw[hm3];rfl
   ·rintro sn hin;have hck:¬(p.cls.length:Int)<(p.cls.length:Int):=by omega
    rw[List.drop_length,okSs] at hin;rw[hin] at hRR;simp -dsimp -implicitDefEqProofs only[go_sem,seval,hck,w1];refine⟨sn,?_,?_⟩
    ·grind
    ·rfl
  ·have hRR:=hgood hpb;simp -dsimp -implicitDefEqProofs only[go_sem,seval,hc,w1,i0,zQ (Prc.pvs_get hpp),Yu,Yw,YG,Yn,Sto.pvs_len,h2,hvl,hg0,zH (Za _),getN hvl,z7 hvl,setN hvl,Yi hvl];clear hinv hbad hgood h1 h2;have hV2:V=vH d seen:=hV;rw[hV2];refine Ye (α:=List Int) p.cls.length (fun k sn=>okSs d.next p seen p.cls=okSs d.next p sn (p.cls.drop k)) (fun k sn=>⟨[(1,.ptr 0 0),(3,.map 1),(4,P5 true),(6,.ptr 2 0),(30,.pv none (.sl (some 4) (Prc.pvs d.procs))),(31,P4 d.procs.length),(32,P4 i),(59,.pv none (.sl (some 9) (Sto.pvs p.cls))),(60,P4 p.cls.length),(61,P4 k)],[.box (some 2) (.pv (some 2) d.pv),.map none (Ya (yH sn)),.box (some 4) (.pv (some 4) p.pv),.arr (some 9) [] false]⟩) seen ⟨rfl,rfl⟩ ?_ ?_
   ·rintro k sn hk hin;have hck:(k:Int)<(p.cls.length:Int):=by omega
    have wk:IntKind.i64.wrap ((k:Int)+1)=((k+1:Nat):Int):=by grind [zW]
    obtain⟨s,hs⟩:∃s,p.cls[k]? =some s:=⟨_,Zd hk⟩;obtain⟨zs1,zs2⟩:=hz p hpm s (Zj hs);have h3:=fun hp=>xS s.cl zs1 zs2 hp;simp only[Cz.av] at h3;rw[jC hs,okSs] at hin;obtain⟨c,hcc⟩:∃c:Int,c=if s.id∈sn then 1 else 0:=⟨_,rfl⟩
    have hc01:c=0\/c=1:=by grind
    have wc:IntKind.i64.wrap (c+1)=c+1:=zW (by omega) (by omega);obtain⟨m2,hm2⟩:∃m2,m2=mPut s.id (.int .i64 (c+1)) (yH sn):=⟨_,rfl⟩;have hl1:∀X,YH false none (P4 0) false (.box (some 2) (.pv (some 2) d.pv)::.map none (Ya (yH sn))::X) [.map 1,P4 s.id]=some (P4 c):=fun X=>by
     grind [jD,gA]
    have hl2:∀X,YH false none (P4 0) false (.box (some 2) (.pv (some 2) d.pv)::.map none (Ya m2)::X) [.map 1,P4 s.id]=some (P4 (c+1)):=fun X=>by
     grind [jD,Ji]
    have hms:∀X,yT false none (.box (some 2) (.pv (some 2) d.pv)::.map none (Ya (yH sn))::X) [.map 1,P4 s.id,P4 (c+1)]=some (.undef,.box (some 2) (.pv (some 2) d.pv)::.map none (Ya m2)::X):=fun X=>by
     grind [Q9,QG]
    have hbadS:okSt d.next p sn s=false->R=false:=fun h=>by
     grind
    by_cases a1:s.id<1
    ·rw[hbadS (by grind [okSt])];simp -dsimp -implicitDefEqProofs only[go_sem,seval,hck,wk,wc,a1,zQ (Sto.pvs_get hs),YF,hl1,hl2,hms,Yl,zH (Za _)]
     done
    by_cases a2:d.next<=s.id
    ·rw[hbadS (by grind [okSt])];simp -dsimp -implicitDefEqProofs only[go_sem,seval,hck,wk,wc,a1,a2,zQ (Sto.pvs_get hs),YF,yz,yO,y5,Yu,Yw,Tm.pvs_len,hl1,hl2,hms,Yl,zH (Za _)]
     done
    have p1:decide (1<=s.id)=true:=ZN (by omega);have p2:decide (s.id<d.next)=true:=ZN (by omega);by_cases a3:s.id∈sn
    ·have hc1:c=1:=by grind
     have a3':1<c+1:=by omega
     rw[hbadS (by grind [okSt])];simp -dsimp -implicitDefEqProofs only[go_sem,seval,hck,wk,wc,a1,a2,a3',zQ (Sto.pvs_get hs),YF,yz,yO,y5,Yu,Yw,Tm.pvs_len,hl1,hl2,hms,Yl,zH (Za _)]
     done
    have hc0:c=0:=by grind
    have a3':¬1<c+1:=by omega
    have p3:decide (s.id ∉ sn)=true:=ZN a3;cases a4:okC s.cl with
    |false=>
     rw[hbadS (by grind [okSt])];rw[a4] at h3;simp -dsimp -implicitDefEqProofs only[go_sem,seval,hck,wk,wc,a1,a2,a3',h3,zQ (Sto.pvs_get hs),YF,yz,yO,y5,Yu,Yw,Tm.pvs_len,hl1,hl2,hms,Yl,zH (Za _)]
     done
    |true=>
    rw[a4] at h3;by_cases a5:s.cl.head.name=p.name
    rotate_left
    ·rw[hbadS (by grind [okSt])];have a5':=Zi a5;simp -dsimp -implicitDefEqProofs only[go_sem,seval,hck,wk,wc,a1,a2,a3',h3,a5',zQ (Sto.pvs_get hs),YF,yz,yO,y5,Yu,Yw,Tm.pvs_len,hl1,hl2,hms,Yl,zH (Za _)]
     done
    have a5':=Zg a5;by_cases a6:(s.cl.head.args.length:Int)=p.ar
    rotate_left
    ·rw[hbadS (by grind [okSt])];have a6':=Zi a6;simp -dsimp -implicitDefEqProofs only[go_sem,seval,hck,wk,wc,a1,a2,a3',h3,a5',a6',zQ (Sto.pvs_get hs),YF,yz,yO,y5,Yu,Yw,Tm.pvs_len,hl1,hl2,hms,Yl,zH (Za _)]
     done
    have a6':=Zg a6;have hok:okSt d.next p sn s=true:=by grind [okSt]
    rw[Zh hok] at hin;have hm3:m2=yH (sn++[s.id]):=by grind [Vx]
    simp -dsimp -implicitDefEqProofs only[go_sem,seval,hck,wk,wc,a1,a2,a3',h3,a5',a6',zQ (Sto.pvs_get hs),YF,yz,yO,y5,Yu,Yw,Tm.pvs_len,hl1,hl2,hms,Yl,zH (Za _)];refine⟨sn++[s.id],hin,?_⟩;rw[hm3];rfl
   ·rintro sn hin;have hck:¬(p.cls.length:Int)<(p.cls.length:Int):=by omega
    rw[List.drop_length,okSs] at hin;rw[hin] at hRR;simp -dsimp -implicitDefEqProofs only[go_sem,seval,hck,w1];refine⟨sn,?_,?_⟩
    ·grind
    ·rfl
 ·rintro seen hinv;have hc:¬(d.procs.length:Int)<(d.procs.length:Int):=by omega
  rw[List.drop_length] at hinv;have:R=true:=by rw[hinv];rfl
  rw[this];simp -dsimp -implicitDefEqProofs only[go_sem,seval,hc]
  done
theorem gB:∀a:List UInt8,Op.bytesLess a a=false
 |[]=>rfl
 |x::r=>by
  have:=gB r
  grind [Op.bytesLess]
theorem gD:∀a b c:List UInt8,Op.bytesLess a b=true->Op.bytesLess b c=true->Op.bytesLess a c=true
 |_,[],_,h,_=>by grind [Op.bytesLess]
 |_,_::_,[],_,h=>by grind [Op.bytesLess]
 |[],_::_,_::_,_,_=>rfl
 |x::a,y::b,z::c,h1,h2=>by
  simp only[Op.bytesLess,Bool.or_eq_true,Zk,Zz,beq_iff_eq] at h1 h2 ⊢;rcases h1 with h1|⟨rfl,h1⟩
  ·grind
  ·rcases h2 with h2|⟨rfl,h2⟩
   ·grind
   ·exact .inr ⟨rfl,gD a b c h1 h2⟩
theorem Vy{p q:Prc}:ordP p q<0↔Op.bytesLess p.name q.name=true\/(p.name=q.name/\p.ar<q.ar):=by
 grind [ordP,strC,intC]
theorem jE{p q r:Prc}(h1:ordP p q<0)(h2:ordP q r<0):ordP p r<0:=by
 rw[Vy] at h1 h2 ⊢
 grind [gD]
theorem ordP_zero{p q:Prc}:ordP p q=0↔p.name=q.name/\p.ar=q.ar:=by
 grind [ordP,strC,intC,gB]
def lbD(l:List Prc)(q:Prc):Nat:=(l.takeWhile fun p=>decide (ordP p q<0)).length
def fnD(l:List Prc)(q:Prc):Bool:=match l[lbD l q]? with
 |some p=>decide (ordP p q=0)
 |none=>false
def IncP(l:List Prc):Prop:=∀(i j:Nat) (a b:Prc),i<j->l[i]? =some a->l[j]? =some b->ordP a b<0
theorem Vz(l:List Prc)(q:Prc):lbD l q<=l.length:=by
 grind [lbD,List.takeWhile_prefix]
theorem qf{q:Prc}:∀{l:List Prc} {k:Nat} {x:Prc},IncP l->l[k]? =some x->(ordP x q<0↔k<lbD l q)
 |[],k,x,_,h=>by grind
 |y::r,k,x,hi,h=>by
  have hr:IncP r:=fun i j a b hij ha hb=>hi (i+1) (j+1) a b (by omega) (by grind) (by grind);unfold lbD;rw[List.takeWhile_cons];by_cases hy:ordP y q<0
  ·rw[Zh (ZN hy),ZZ];cases k with
   |zero=>
    grind
   |succ k=>
    have:=qf (q:=q) hr (k:=k) (x:=x) (by grind)
    grind [lbD]
  ·rw[Zb (by grind)];constructor
   ·intro hx;exfalso;cases k with
    |zero=>
     grind
    |succ k=>exact hy (jE (hi 0 (k+1) y x (by omega) rfl h) hx)
   grind
theorem NU(p q:Prc)(hp:Heap):S 97 [p.av,q.av] hp=some (.ret (P4 (ordP p q)),hp):=by
 refine zM rfl rfl rfl (zJ [(some 4,p.pv),(some 4,q.pv)]) rfl ?_;have h1:=fun hp=>gy p q hp;simp only[Prc.av] at h1;simp -dsimp -implicitDefEqProofs only[go_sem,seval,Prc.av,h1]
 done
theorem NV(l:List Prc)(t:Prc)(hl:l.length<1000000000)(hi:IncP l)(hp:Heap):
  S 96 [.pv none (.sl (some 4) (Prc.pvs l)),.pv (some 4) t.pv,.pv none (.func (.func 97))] hp=some (.ret (.tuple [P4 (lbD l t:Int),P5 (fnD l t)]),hp):=by
 refine zM rfl rfl rfl (zJ [(none,.sl (some 4) (Prc.pvs l)),(some 4,t.pv),(none,.func (.func 97))]) rfl ?_;have hlb:=Vz l t;have hcmp:∀(x:Prc) hp,S 97 [.pv (some 4) x.pv,.pv (some 4) t.pv] hp=some (.ret (P4 (ordP x t)),hp):=fun x hp=>NU x t hp;simp -dsimp -implicitDefEqProofs only[go_sem,seval,Prc.pvs_len];refine XS (fun n st=>∃i j:Nat,n=j - i/\i<=lbD l t/\lbD l t<=j/\j<=l.length/\st=⟨[(0,.pv none (.sl (some 4) (Prc.pvs l))),(2,.pv none (.func (.func 97))),(4,.ptr 0 0),(8,P4 (l.length:Int)),(9,P4 i),(10,P4 j)],[.box (some 4) (.pv (some 4) t.pv)]⟩) (n:=l.length) ⟨0,l.length,by omega,by omega,hlb,by omega,?_⟩ ?_
 ·simp -dsimp -implicitDefEqProofs only[go_sem,seval]
  try rfl
 ·rintro n st ⟨i,j,hn,h1,h2,h3,rfl⟩;by_cases hij:i<j
  ·have hc:(i:Int)<(j:Int):=by omega
   obtain⟨x,hx⟩:∃x,l[(i+j) / 2]? =some x:=⟨_,Zd (by omega)⟩;have hcall:=hcmp x;have hs:=qf (q:=t) hi hx;have w1:IntKind.i64.wrap ((i:Int)+(j:Int))=((i+j:Nat):Int):=by grind [zW]
   have w2:IntKind.u64.wrap ((i+j:Nat):Int)=((i+j:Nat):Int):=GD (by omega) (by omega);have w3:IntKind.i64.wrap (((i+j:Nat):Int) / 2)=(((i+j) / 2:Nat):Int):=by grind [zW]
   have w4:IntKind.i64.wrap ((((i+j) / 2:Nat):Int)+1)=(((i+j) / 2+1:Nat):Int):=by grind [zW]
   by_cases h0:ordP x t<0
   ·simp -dsimp -implicitDefEqProofs only[go_sem,seval,Prc.pvs_len,hc,jm (show 0<IntKind.bits .u64 by decide),w1,w2,w3,w4,zQ (Prc.pvs_get hx),hcall,h0];refine⟨j - ((i+j) / 2+1),by omega,(i+j) / 2+1,j,rfl,?_,h2,h3,rfl⟩
    grind
   ·simp -dsimp -implicitDefEqProofs only[go_sem,seval,Prc.pvs_len,hc,jm (show 0<IntKind.bits .u64 by decide),w1,w2,w3,w4,zQ (Prc.pvs_get hx),hcall,h0];refine⟨(i+j) / 2 - i,by omega,i,(i+j) / 2,rfl,h1,?_,by omega,rfl⟩
    grind
  ·have hc:¬(i:Int)<(j:Int):=by omega
   obtain rfl:i=lbD l t:=by omega
   by_cases hll:lbD l t<l.length
   ·have hc2:((lbD l t:Nat):Int)<(l.length:Int):=by omega
    obtain⟨x,hx⟩:∃x,l[lbD l t]? =some x:=⟨_,Zd hll⟩;have hcall:=hcmp x;have hf:fnD l t=decide (ordP x t=0):=by grind [fnD]
    simp -dsimp -implicitDefEqProofs only[go_sem,seval,Prc.pvs_len,hc,hc2,zQ (Prc.pvs_get hx),hcall,hf]
   ·have hc2:¬((lbD l t:Nat):Int)<(l.length:Int):=by omega
    have hf:fnD l t=false:=by grind [fnD]
    simp -dsimp -implicitDefEqProofs only[go_sem,seval,Prc.pvs_len,hc,hc2,hf]
theorem qg(d:Dbs)(s:List UInt8)(a:Int)(hl:d.procs.length<1000000000)(hi:IncP d.procs)(hp:Heap):S 56 [d.av,P6 s,P4 a] hp=some (.ret (.tuple [P4 (lbD d.procs ⟨s,a,false,[]⟩:Int),P5 (fnD d.procs ⟨s,a,false,[]⟩)]),hp):=by
 refine zM rfl rfl rfl (zJ [(some 2,d.pv),(none,.str s),(none,.int .i64 a)]) rfl ?_;have hbu:zT A2 [0,1] [P6 s,P4 a]=some (.agg [(none,P6 s),(none,P4 a),(none,P5 false),(none,.tsl (some 9) [])]):=rfl;have h1:∀hp,S 96 [.pv none (.sl (some 4) (Prc.pvs d.procs)),.agg [(none,P6 s),(none,P4 a),(none,P5 false),(none,.tsl (some 9) [])],.pv none (.func (.func 97))] hp=some (.ret (.tuple [P4 (lbD d.procs ⟨s,a,false,[]⟩:Int),P5 (fnD d.procs ⟨s,a,false,[]⟩)]),hp):=fun hp=>
  yw (F:=find tab) (prim:=prim) (ps:=[(none,.sl (some 4) (Prc.pvs d.procs)),(some 4,(Prc.mk s a false []).pv),(none,.func (.func 97))]) (hp1:=hp) rfl rfl rfl rfl (NV d.procs ⟨s,a,false,[]⟩ hl hi [])
 simp -dsimp -implicitDefEqProofs only[go_sem,seval,Dbs.av,Yn,hbu,h1]
 done
theorem gE(next:Int):∀(l:List Prc) (q:Option Prc) (seen:List Int),okPs next q seen l=true->(∀p,l.head? =some p->preB q p=true)/\IncP l
 |[],q,seen,_=>⟨fun p h=>(by cases h),fun i j a b _ h=>(by grind)⟩
 |x::r,q,seen,h=>by
  rw[okPs,Zk,Zk] at h;obtain⟨_,h2,h3⟩:=h;split at h3
  ·cases h3
  ·rename_i s' hs;obtain⟨g1,g2⟩:=gE next r (some x) s' h3
   have hx:∀(j:Nat) (b:Prc),r[j]? =some b->ordP x b<0:=by
    intro j b hb;cases r with
    |nil=>grind
    |cons y r'=>
     have h0:=g1 y rfl;have h0':ordP x y<0:=Z8 h0;cases j with
     |zero=>
      grind
     |succ j=>exact jE h0' (g2 0 (j+1) y b (by omega) rfl hb)
   refine⟨fun p hp=>(by grind),fun i j a b hij ha hb=> ?_⟩;cases j with
   |zero=>omega
   |succ j=>
    cases i with
    |zero=>
     grind
    |succ i=>exact g2 i j a b (by omega) (by grind) (by grind)
def BndD(d:Dbs):Prop:=d.procs.length<1000000000/\totD d.procs<1000000000/\∀p∈d.procs,∀s∈p.cls,s.cl.head.size<100000000/\s.cl.body.size<100000000
theorem qh{d:Dbs}(h:okD d=true):IncP d.procs:=by
 grind [okD,gE]
theorem jF(d:Dbs)(hb:BndD d)(hp:Heap):S 16 [d.av] hp=some (.ret (P4 (if okD d=true then(totD d.procs:Int) else 0)),hp):=by
 refine zM rfl rfl rfl (zJ [(some 2,d.pv)]) rfl ?_;have h1:=fun hp=>yP d hb.1 hb.2.1 hb.2.2 hp;have h2:=fun hp=>QK d hb.1 hb.2.1 hp;simp only[Dbs.av] at h1 h2;by_cases h:okD d=true
 ·rw[h] at h1;rw[Zh h];simp -dsimp -implicitDefEqProofs only[go_sem,seval,Dbs.av,h1,h2]
 ·have h':okD d=false:=by grind
  rw[h'] at h1;rw[Zb h];simp -dsimp -implicitDefEqProofs only[go_sem,seval,Dbs.av,h1,h2]
def Sto.av(s:Sto):AV:=.pv (some 9) s.pv
theorem gF(s:Sto):PV.part deep s.pv 1 (some 4)=some s.cl.head.pv:=by
 cases s with|mk i c=>cases c with|mk h b=>cases h;rfl
theorem gG(s:Sto):PV.part deep s.pv 5 (some 4)=some s.cl.body.pv:=by
 cases s with|mk i c=>cases c with|mk h b=>cases h;cases b;rfl
theorem VA(s:Sto)(vh:s.cl.head.valid=true)(vb:s.cl.body.valid=true)(hp:Heap):S 98 [s.av] hp=some (.ret s.av,hp):=by
 refine zM rfl rfl rfl (zJ [(some 9,s.pv)]) rfl ?_;have zh:=valid_size vh;have zb:=valid_size vb;have h1:=fun hp=>XA s.cl.head hp vh (by omega);have h2:=fun hp=>XA s.cl.body hp vb (by omega);have b1:zT [(some 4,.agg A0),(some 4,.agg A0)] [0,1] [.pv (some 4) s.cl.head.pv,.pv (some 4) s.cl.body.pv]=some (.pv (some 8) s.cl.pv):=rfl;have b2:zT A4 [0,1] [P4 s.id,.pv (some 8) s.cl.pv]=some (.pv (some 9) s.pv):=rfl;simp only[Tm.av] at h1 h2;simp -dsimp -implicitDefEqProofs only[b1,b2,g98,c98r0,c98r1,c98,go_sem,seval,Sto.av,YF,yz,gF,gG,h1,h2,zH (Za _)]
 done
def okCl(p:Prc):Prop:=∀s∈p.cls,s.cl.head.valid=true/\s.cl.body.valid=true
def pA(p:Prc)(q:Nat):AV:=.agg [(none,P6 p.name),(none,P4 p.ar),(none,P5 p.dyn),(none,.sl (some 9) q p.cls.length 0 p.cls.length)]
def zS:PV:=.agg [(none,.int .i64 0),(some 8,.agg [(some 4,.agg [(none,.int .i64 0),(none,.int .i64 0),(none,.str []),(none,.sl (some 4) [])]),(some 4,.agg [(none,.int .i64 0),(none,.int .i64 0),(none,.str []),(none,.sl (some 4) [])])])]
theorem gH{Γ:Oracle}{b:Nat}{vs:List AV}{hp:Heap}{K:AV->Heap->Prop}{Kp:PV->Heap->Prop}(sh:Sh):opK (aOp Γ b (.copy sh) vs hp) K Kp=YK (XD sh hp vs) K:=by
 show opK (match XD sh hp vs with|some (v,hp')=>some (OpRes.val v hp')|none=>none) K Kp=_;cases XD sh hp vs with
 |none=>rfl
 |some r=>cases r;rfl
theorem gI{α:Type}{l:List α}{i:Nat}{x:α}(h:l[i]? =some x):l.set i x=l:=by
 grind [List.set_getElem_self]
theorem gJ(p:Prc)(hl:p.cls.length<1000000)(hc:okCl p)(hp:Heap):S 57 [p.av] hp=some (.ret (pA p (hp.length+3)),hp++[.box (some 4) (pA p (hp.length+3)),.box (some 4) (pA p (hp.length+3)),.arr (some 9) [] false,.arr (some 9) (Sto.pvs p.cls) false]):=by
 refine Yk rfl rfl rfl rfl ?_;have hpl:=Sto.pvs_len p.cls;have hlim:p.cls.length<=lim:=by grind [lim]
 have hmk:∀H:Heap,xz (some 9) zS H [P4 p.cls.length,P4 p.cls.length]=some (.sl (some 9) H.length p.cls.length 0 p.cls.length,H++[.arr (some 9) (List.replicate p.cls.length zS) false]):=fun H=>by
  grind [xz,xf]
 have hcp:∀x0 x1 x2:AObj,XD (some 9) (hp++[x0,x1,x2,.arr (some 9) (List.replicate p.cls.length zS) false]) [.sl (some 9) (hp.length+3) p.cls.length 0 p.cls.length,.pv none (.sl (some 9) (Sto.pvs p.cls))]=some (P4 p.cls.length,hp++[x0,x1,x2,.arr (some 9) (Sto.pvs p.cls) false]):=fun x0 x1 x2=>by
  have e:Nat.min p.cls.length p.cls.length=p.cls.length:=Nat.min_self _;simp_all[Zl,XD,elems]
 simp only[zS] at hmk;simp -dsimp -implicitDefEqProofs only[go_sem,seval,Prc.av,YG,hpl,hmk,zH (Zf _ _)];simp only[zS] at hcp;simp -dsimp -implicitDefEqProofs only[go_sem,seval,Prc.av,YG,hpl,gH,hcp,zH (Zf _ _)];obtain⟨x1,hx1⟩:∃x1:AObj,x1=.box (some 4) (.agg [(none,P6 []),(none,P4 0),(none,P5 false),(none,.sl (some 9) (hp.length+2) 0 0 0)]):=⟨_,rfl⟩;rw[<-hx1];refine Ye (α:=Unit) p.cls.length (fun _ _=>True) (fun i _=>⟨[(1,.ptr hp.length 0),(2,.ptr (hp.length+1) 0),(3,.sl (some 9) (hp.length+3) p.cls.length 0 p.cls.length),(14,.sl (some 9) (hp.length+3) p.cls.length 0 p.cls.length),(15,P4 p.cls.length),(16,P4 i)],hp++[.box (some 4) (.pv (some 4) p.pv),x1,.arr (some 9) [] false,.arr (some 9) (Sto.pvs p.cls) false]⟩) () ⟨trivial,rfl⟩ ?_ ?_
 ·rintro i - h -;have hcc:(i:Int)<(p.cls.length:Int):=by omega
  have w1:IntKind.i64.wrap ((i:Int)+1)=((i+1:Nat):Int):=by grind [zW]
  obtain⟨s,hs⟩:∃s,p.cls[i]? =some s:=⟨_,Zd h⟩;obtain⟨vh,vb⟩:=hc s (Zj hs);have h3:=fun hp=>VA s vh vb hp;simp only[Sto.av] at h3;have hia:Yc (some 9) [.sl (some 9) (hp.length+3) p.cls.length 0 p.cls.length,P4 i]=some (.eptr (some 9) (hp.length+3) p.cls.length i 0):=by
   grind [Qx]
  have hld:∀(x0 x1 x2:AObj) (X:Heap),aload (some 9) (hp++x0::x1::x2::.arr (some 9) (Sto.pvs p.cls) false::X) (.eptr (some 9) (hp.length+3) p.cls.length i 0)=some (.pv (some 9) s.pv):=fun x0 x1 x2 X=>by
   grind [aload,Sto.pvs_get]
  have hst:∀(x0 x1 x2:AObj) (X:Heap),zL (some 9) hp.length (hp++x0::x1::x2::.arr (some 9) (Sto.pvs p.cls) false::X) [.eptr (some 9) (hp.length+3) p.cls.length i 0,.pv (some 9) s.pv]=some (.undef,hp++x0::x1::x2::.arr (some 9) (Sto.pvs p.cls) false::X):=fun x0 x1 x2 X=>by
   have e:∀H,AV.freeze deep (.pv (some 9) s.pv) H=some (s.pv,H):=fun _=>rfl;have e2:=gI (Sto.pvs_get hs);simp_all[zL,astore,AV.shp]
  simp -dsimp -implicitDefEqProofs only[go_sem,seval,hcc,w1,hia,hld,hst,h3,zH (Zf _ _)];simp_all[yF,AObj.refs,AV.refsIn,AV.refsIn.go]
 ·rintro - -;have hcc:¬(p.cls.length:Int)<(p.cls.length:Int):=by omega
  have hup:∀(q:Nat),AV.upd deep (.pv (some 4) p.pv) 3 none (.sl (some 9) q p.cls.length 0 p.cls.length)=some (pA p q):=fun q=>rfl;have hs1:∀x1 x2 x3:AObj,zL none hp.length (hp++[.box (some 4) (.pv (some 4) p.pv),x1,x2,x3]) [.ptr hp.length 3,.sl (some 9) (hp.length+3) p.cls.length 0 p.cls.length]=some (.undef,hp++[.box (some 4) (pA p (hp.length+3)),x1,x2,x3]):=fun x1 x2 x3=>by
   grind [zL,astore,AV.plain,AV.shp,AV.own]
  have hs2:∀(x0 x2 x3:AObj) (v:AV),zL (some 4) hp.length (hp++[x0,.box (some 4) v,x2,x3]) [.ptr (hp.length+1) 0,pA p (hp.length+3)]=some (.undef,hp++[x0,.box (some 4) (pA p (hp.length+3)),x2,x3]):=fun x0 x2 x3 v=>by
   simp[zL,astore,getN rfl,setN rfl,pA,AV.plain,AV.shp,AV.own,zX,Y3,total,Sh.size]
  rw[hx1];simp -dsimp -implicitDefEqProofs only[go_sem,seval,hcc,hs1,hs2]
  grind [pA,AV.refsIn,AV.refsIn.go]
theorem Jl{c:Cz}(h:okC c=true):c.head.valid=true/\c.body.valid=true:=by
 simp only[okC,Zk] at h;obtain⟨h1,_,_,h4,_⟩:=h;refine⟨h1,?_⟩;split at h4
 ·simp_all[gx]
 grind
theorem gL(next:Int)(p:Prc):∀(l:List Sto) (seen s':List Int),okSs next p seen l=some s'->∀s∈l,okC s.cl=true
 |[],_,_,_,s,hs=>by cases hs
 |x::r,seen,s',h,s,hs=>by
  rw[okSs] at h;split at h
  ·rename_i hx;rcases ZC.1 hs with rfl|hs
   ·grind [okSt]
   ·exact gL next p r _ s' h s hs
  grind
theorem gM(next:Int):∀(l:List Prc) (q:Option Prc) (seen:List Int),okPs next q seen l=true->∀p∈l,okCl p
 |[],_,_,_,p,hp=>by cases hp
 |x::r,q,seen,h,p,hp=>by
  rw[okPs,Zk,Zk] at h;obtain⟨_,_,h3⟩:=h;split at h3
  ·cases h3
  ·rename_i s' hs;rcases ZC.1 hp with rfl|hp
   ·exact fun s hs'=>Jl (gL next _ _ _ _ hs s hs')
   ·exact gM next r (some x) s' h3 p hp
theorem qi{d:Dbs}(h:okD d=true):∀p∈d.procs,okCl p:=by
 grind [okD,gM]
def zP:Prc:=⟨[],0,false,[]⟩
def keyP(s:List UInt8)(a:Int):Prc:=⟨s,a,false,[]⟩
def Ys(d:Dbs)(s:List UInt8)(a:Int):Option Prc:=if okD d=true then(if fnD d.procs (keyP s a)=true then d.procs[lbD d.procs (keyP s a)]? else none) else none
theorem NW(p:Prc)(q:Nat)(H:Heap)(z:Bool)(h:H[q]? =some (.arr (some 9) (Sto.pvs p.cls) z)):AV.freeze deep (pA p q) H=some (p.pv,H.set q (.arr (some 9) (Sto.pvs p.cls) true)):=by
 have e:∀n l hp,AV.freeze (n+1) (.agg l) hp=match AV.freeze.go n l hp with|some (ps,hp')=>some (.agg ps,hp')|none=>none:=fun _ _ _=>rfl
 show AV.freeze (7+1) (.agg _) _=_;simp[e,AV.freeze.go,AV.freeze,h,Sto.pvs_len,Prc.pv]
set_option maxRecDepth 20000 in
theorem jG(d:Dbs)(hb:BndD d)(s:List UInt8)(a:Int)(hp:Heap):S 17 [d.av,P6 s,P4 a] hp=some (.ret (.tuple [((Ys d s a).getD zP).av,.pv none (.bool (Ys d s a).isSome)]),hp):=by
 refine zM rfl rfl rfl (zJ [(some 2,d.pv),(none,.str s),(none,.int .i64 a)]) rfl ?_;have h1:=fun hp=>yP d hb.1 hb.2.1 hb.2.2 hp;have hz0:zT A2 [] []=some (.agg A2):=rfl;simp only[Dbs.av] at h1;by_cases hv:okD d=true
 rotate_left
 ·have hv':okD d=false:=by grind
  have e:Ys d s a=none:=by grind [Ys]
  rw[hv'] at h1;rw[e];simp -dsimp -implicitDefEqProofs only[go_sem,seval,Dbs.av,h1,hz0,zH (Za _)];exact⟨_,rfl⟩
 have hi:=qh hv;have h2:=fun hp=>qg d s a hb.1 hi hp;have ek:(⟨s,a,false,[]⟩:Prc)=keyP s a:=rfl;rw[ek] at h2;rw[hv] at h1;simp only[Dbs.av] at h2;by_cases hf:fnD d.procs (keyP s a)=true
 rotate_left
 ·have hf':fnD d.procs (keyP s a)=false:=by grind
  have e:Ys d s a=none:=by grind [Ys]
  rw[hf'] at h2;rw[e];simp -dsimp -implicitDefEqProofs only[go_sem,seval,Dbs.av,h1,h2,hz0,zH (Za _)];exact⟨_,rfl⟩
 rw[hf] at h2;obtain⟨p,hpp⟩:∃p,d.procs[lbD d.procs (keyP s a)]? =some p:=by
  grind [fnD]
 have e:Ys d s a=some p:=by grind [Ys]
 rw[e];have hpm:=Zj hpp;have hcl:=XW hpm;have htd:totD d.procs<=500:=by
  grind [okD]
 have h3:=fun hp=>gJ p (by omega) (qi hv p hpm) hp;simp only[Prc.av] at h3;have hst:∀(x0 x2:AObj) (v:AV) (X:Heap),zL (some 4) 0 (x0::.box (some 4) v::x2::X) [.ptr 1 0,pA p 6]=some (.undef,x0::.box (some 4) (pA p 6)::x2::X):=fun x0 x2 v X=>by
  simp[zL,astore,pA,AV.plain,AV.shp,AV.own,zX,Y3,total,Sh.size]
 simp -dsimp -implicitDefEqProofs only[go_sem,seval,Dbs.av,h1,h2,h3,hz0,hst,Yn,zQ (Prc.pvs_get hpp)];obtain⟨H,hH⟩:∃H:Heap,H=[.box (some 2) (.pv (some 2) d.pv),.box (some 4) (pA p 6),.arr (some 9) [] false,.box (some 4) (pA p 6),.box (some 4) (pA p 6),.arr (some 9) [] false,.arr (some 9) (Sto.pvs p.cls) false]:=⟨_,rfl⟩;have hfz:=NW p 6 H false (by grind);have e3:∀X,AV.freeze deep (P5 true) X=some (.bool true,X):=fun _=>rfl;have hsh:(pA p 6).shp=some 4:=rfl;have hr:YI ⟨[(6,.ptr 1 0),(7,P5 true)],H⟩ (6,some (some 4))=some (pA p 6):=by
  grind [YI,Fr.look,aload]
 rw[<-hH,hr];show Am.frozen (.tuple [.pv (some 4) p.pv,P5 true]) (.tuple [pA p 6,P5 true]) H;refine⟨H.set 6 (.arr (some 9) (Sto.pvs p.cls) true),?_⟩;simp only[AV.freezeRes,zZ,hfz,e3,hsh];rfl
theorem NX(s:Sto)(id:Int)(hp:Heap)(r:Nat)(hr:hp[r]? =some (.box none (P4 id))):S 103 [s.av,.ptr r 0] hp=some (.ret (P5 (decide (s.id=id))),hp):=by
 refine Yk rfl rfl rfl rfl ?_;have hr':∀X,(hp++X)[r]? =some (.box none (P4 id)):=fun X=>by grind
 simp -dsimp -implicitDefEqProofs only[go_sem,seval,Sto.av,YF,hr'];simp[AV.refsIn]
def idS(l:List Sto)(id:Int):Option Nat:=l.findIdx? fun s=>decide (s.id=id)
theorem NY{l:List Sto}{id:Int}{i:Nat}{s:Sto}(h:l[i]? =some s)(hs:s.id=id)(hb:∀(j:Nat) (u:Sto),j<i->l[j]? =some u->u.id≠id):idS l id=some i:=by
 grind [idS,List.findIdx?_eq_some_iff_getElem]
theorem gN{l:List Sto}{id:Int}(hb:∀(j:Nat) (u:Sto),l[j]? =some u->u.id≠id):idS l id=none:=by
 grind [idS,ZG]
def idI:Option Nat->Int
 |some i=>i
 |none=> -1
theorem NZ(l:List Sto)(id:Int)(hl:l.length<1000000000)(hp:Heap)(r:Nat)(hr:hp[r]? =some (.box none (P4 id))):S 102 [.pv none (.sl (some 9) (Sto.pvs l)),.func (.func 103) [] [.ptr r 0]] hp=some (.ret (P4 (idI (idS l id))),hp):=by
 refine Yk rfl rfl rfl rfl ?_;have hw:=fun s=>NX s id hp r hr;simp only[Sto.av] at hw;simp -dsimp -implicitDefEqProofs only[go_sem,seval,Sto.pvs_len];refine Ye (α:=Unit) l.length (fun i _=>∀(j:Nat) (u:Sto),j<i->l[j]? =some u->u.id≠id) (fun i _=>⟨[(0,.pv none (.sl (some 9) (Sto.pvs l))),(1,.func (.func 103) [] [.ptr r 0]),(7,P4 l.length),(8,P4 i)],hp⟩) () ⟨fun j u h=>by omega,rfl⟩ ?_ ?_
 ·rintro i - h hinv;have hc:(i:Int)<(l.length:Int):=by omega
  have w1:IntKind.i64.wrap ((i:Int)+1)=((i+1:Nat):Int):=by grind [zW]
  obtain⟨s,hs⟩:∃s,l[i]? =some s:=⟨_,Zd h⟩;have hws:=hw s;by_cases he:s.id=id
  ·rw[ZN he] at hws;rw[NY hs he hinv];simp -dsimp -implicitDefEqProofs only[go_sem,seval,hc,w1,zQ (Sto.pvs_get hs),hws];exact⟨rfl,by grind⟩
  ·rw[zA he] at hws;simp -dsimp -implicitDefEqProofs only[go_sem,seval,hc,w1,zQ (Sto.pvs_get hs),hws];refine⟨(),fun j u hj hu=> ?_,?_⟩
   ·grind
   grind [mT]
 ·rintro - hinv;have hc:¬(l.length:Int)<(l.length:Int):=by omega
  rw[gN fun j u hj=>hinv j u (Ze.1 hj).1 hj];simp -dsimp -implicitDefEqProofs only[go_sem,seval,hc];exact⟨rfl,by grind⟩
def whR:List Prc->Int->Option (Nat × Nat)
 |[],_=>none
 |p::r,id=>match idS p.cls id with
  |some k=>some (0,k)
  |none=>match whR r id with
   |some x=>some (x.1+1,x.2)
   |none=>none
theorem gO{id:Int}{k:Nat}{p:Prc}:∀{l:List Prc} {i:Nat},l[i]? =some p->idS p.cls id=some k->(∀(j:Nat) (q:Prc),j<i->l[j]? =some q->idS q.cls id=none)->whR l id=some (i,k)
 |[],i,h,_,_=>by grind
 |x::r,0,h,hk,_=>by
  grind [whR]
 |x::r,i+1,h,hk,hb=>by
  have h0:=hb 0 x (by omega) rfl;have ih:=gO (l:=r) (i:=i) (by grind) hk fun j q hj hq=>hb (j+1) q (by omega) (by grind)
  grind [whR]
theorem VB{id:Int}:∀{l:List Prc},(∀(j:Nat) (q:Prc),l[j]? =some q->idS q.cls id=none)->whR l id=none
 |[],_=>rfl
 |x::r,hb=>by
  have h0:=hb 0 x rfl;have ih:=VB (l:=r) fun j q hq=>hb (j+1) q (by grind)
  grind [whR]
theorem gP(d:Dbs)(id:Int)(hl:d.procs.length<1000000000)(ht:totD d.procs<1000000000)(hp:Heap):S 61 [d.av,P4 id] hp=some (.ret (match whR d.procs id with|some x=>.tuple [P4 x.1,P4 x.2,P5 true]|none=>.tuple [P4 0,P4 0,P5 false]),hp):=by
 refine zM rfl rfl rfl (zJ [(some 2,d.pv),(none,.int .i64 id)]) rfl ?_;simp -dsimp -implicitDefEqProofs only[go_sem,seval,Dbs.av,Yn,Prc.pvs_len];refine Ye (α:=Unit) d.procs.length (fun i _=>∀(j:Nat) (q:Prc),j<i->d.procs[j]? =some q->idS q.cls id=none) (fun i _=>⟨[(3,.ptr 1 0),(11,.pv none (.sl (some 4) (Prc.pvs d.procs))),(12,P4 d.procs.length),(13,P4 i)],[.box (some 2) (.pv (some 2) d.pv),.box none (P4 id)]⟩) () ⟨fun j u h=>by omega,rfl⟩ ?_ ?_
 ·rintro i - h hinv;have hc:(i:Int)<(d.procs.length:Int):=by omega
  have w1:IntKind.i64.wrap ((i:Int)+1)=((i+1:Nat):Int):=by grind [zW]
  obtain⟨p,hpp⟩:∃p,d.procs[i]? =some p:=⟨_,Zd h⟩;have hpl:=XW (Zj hpp);have hix:∀(x0:AObj) (X:Heap),S 102 [.pv none (.sl (some 9) (Sto.pvs p.cls)),.func (.func 103) [] [.ptr 1 0]] (x0::.box none (P4 id)::X)=some (.ret (P4 (idI (idS p.cls id))),x0::.box none (P4 id)::X):=fun x0 X=>NZ p.cls id (by omega) _ 1 rfl;cases hk:idS p.cls id with
  |some k=>
   rw[hk] at hix;have hk0:(0:Int)<=idI (some k):=by show(0:Int)<=(k:Int);omega
   rw[gO hpp hk hinv];simp -dsimp -implicitDefEqProofs only[go_sem,seval,hc,w1,zQ (Prc.pvs_get hpp),YG,hix,hk0,zH (Za _)];rfl
  |none=>
   rw[hk] at hix;have hk0:¬(0:Int)<=idI none:=by decide
   simp -dsimp -implicitDefEqProofs only[go_sem,seval,hc,w1,zQ (Prc.pvs_get hpp),YG,hix,hk0,zH (Za _)];refine⟨(),fun j q hj hq=> ?_,rfl⟩
   grind
 ·rintro - hinv;have hc:¬(d.procs.length:Int)<(d.procs.length:Int):=by omega
  rw[VB fun j u hj=>hinv j u (Ze.1 hj).1 hj];simp -dsimp -implicitDefEqProofs only[go_sem,seval,hc]
  done
theorem gQ{t:Tm}(h:t.valid=true):same t t=true:=by simp[same,h,Tm.zBf]
theorem N0(s:Sto)(vh:s.cl.head.valid=true)(vb:s.cl.body.valid=true)(hp:Heap):S 86 [s.av,s.av] hp=some (.ret (P5 true),hp):=by
 refine zM rfl rfl rfl (zJ [(some 9,s.pv),(some 9,s.pv)]) rfl ?_;have zh:=valid_size vh;have zb:=valid_size vb;have h1:=fun hp=>qb s.cl.head s.cl.head hp (by omega) (by omega);have h2:=fun hp=>qb s.cl.body s.cl.body hp (by omega) (by omega);rw[gQ vh] at h1;rw[gQ vb] at h2;simp only[Tm.av] at h1 h2;simp -dsimp -implicitDefEqProofs only[go_sem,seval,Sto.av,YF,gF,gG,h1,h2]
 done
set_option maxRecDepth 20000 in
theorem N1(p:Prc)(hl:p.cls.length<1000000000)(hc:okCl p)(hp:Heap):S 43 [p.av,p.av] hp=some (.ret (P5 true),hp):=by
 refine zM rfl rfl rfl (zJ [(some 4,p.pv),(some 4,p.pv)]) rfl ?_;have e1:=eq_self p.name;have hb:∀b:Bool,(b == b)=true:=fun b=>by cases b <;> rfl
 simp -dsimp -implicitDefEqProofs only[go_sem,seval,Prc.av,Yu,Yw,jB,YG,Sto.pvs_len,hb];refine Ye (α:=Unit) p.cls.length (fun _ _=>True) (fun i _=>⟨[(2,.ptr 0 0),(3,.ptr 1 0),(5,P4 i)],[.box (some 4) (.pv (some 4) p.pv),.box (some 4) (.pv (some 4) p.pv)]⟩) () ⟨trivial,rfl⟩ ?_ ?_
 ·rintro i - h -;have hcc:(i:Int)<(p.cls.length:Int):=by omega
  have w1:IntKind.i64.wrap ((i:Int)+1)=((i+1:Nat):Int):=by rw[zW (by omega) (by omega)];omega
  obtain⟨s,hs⟩:∃s,p.cls[i]? =some s:=⟨_,Zd h⟩;obtain⟨vh,vb⟩:=hc s (Zj hs);have h3:=fun hp=>N0 s vh vb hp;simp only[Sto.av] at h3;simp -dsimp -implicitDefEqProofs only[go_sem,seval,hcc,w1,YG,Sto.pvs_len,zQ (Sto.pvs_get hs),h3];exact⟨(),trivial⟩
 ·rintro - -;have hcc:¬(p.cls.length:Int)<(p.cls.length:Int):=by omega
  simp -dsimp -implicitDefEqProofs only[go_sem,seval,hcc,YG,Sto.pvs_len]
  done
def Jm:AV:=.agg A2
def elsA(l:List Prc)(b i:Nat):List AV:=l.mapIdx fun j p=>if j<i then pA p (b+6*j) else Jm
theorem Xq(l:List Prc)(b i:Nat):(elsA l b i).length=l.length:=by simp[elsA]
theorem N2(l:List Prc)(b:Nat):elsA l b 0=List.replicate l.length Jm:=by
 refine ZY fun j=> ?_
 grind [elsA]
theorem gS{l:List Prc}{b i:Nat}{p:Prc}(h:l[i]? =some p):(elsA l b i).set i (pA p (b+6*i))=elsA l b (i+1):=by
 refine ZY fun j=> ?_
 grind [elsA]
def cE(p:Prc)(b:Nat):Heap:=[.box (some 4) (.pv (some 4) p.pv),.arr (some 9) [] false,.box (some 4) (pA p b),.box (some 4) (pA p b),.arr (some 9) [] false,.arr (some 9) (Sto.pvs p.cls) false]
def cEs:List Prc->Nat->Heap
 |[],_=>[]
 |p::r,b=>cE p b++cEs r (b+6)
theorem gT:∀(l:List Prc) (b:Nat),(cEs l b).length=6*l.length
 |[],_=>rfl
 |p::r,b=>by rw[cEs,Z6,gT r,ZZ];show 6+_=_;omega
theorem gU:∀(l:List Prc) (p:Prc) (b:Nat),cEs (l++[p]) b=cEs l b++cE p (b+6*l.length)
 |[],p,b=>by simp[cEs]
 |x::r,p,b=>by
  rw[Zs,cEs,gU r p (b+6),cEs,Zn,ZZ]
  grind
theorem VC{n b:Nat}{fr:Fr}{hp:Heap}{k:Nat}{o:AObj}(hk:b<=k)(hn:k<n)(ho:hp[k]? =some o)(hr:o.refs.all (fun q=>decide (q<n))=false):collect n b fr hp=hp:=by
 unfold collect;rw[Zb];intro h;rw[Zk] at h;have h2:=Zq.1 h.2 o (by
  refine ZG.2 ⟨k - b,?_⟩
  grind)
 grind
def dA(d:Dbs)(q:Nat):AV:=.agg [(none,P4 d.next),(none,.slv (some 4) q d.procs.length 0 d.procs.length)]
theorem N3{Γ:Oracle}{b:Nat}{vs:List AV}{hp:Heap}{K:AV->Heap->Prop}{Kp:PV->Heap->Prop}(sh:Sh)(z:AV):opK (aOp Γ b (.mkslicev sh z) vs hp) K Kp=YK (xB sh z hp vs) K:=by
 show opK (match xB sh z hp vs with|some (v,hp')=>some (OpRes.val v hp')|none=>none) K Kp=_;cases xB sh z hp vs with
 |none=>rfl
 |some r=>cases r;rfl
theorem VD(d:Dbs)(hl:d.procs.length<1000000)(hcl:∀p∈d.procs,p.cls.length<1000000/\okCl p)(hp:Heap):S 62 [d.av] hp=some (.ret (dA d (hp.length+2)),hp++([.box (some 2) (dA d (hp.length+2)),.box (some 2) (dA d (hp.length+2)),.arv (some 4) (elsA d.procs (hp.length+8) d.procs.length)]++cEs d.procs (hp.length+8))):=by
 refine Yk rfl rfl rfl rfl ?_;have hpl:=Prc.pvs_len d.procs;have hlim:d.procs.length<=lim:=by grind [lim]
 have hnil:∀H:Heap,zX A3 H=(A3,H):=fun _=>rfl;have hmk:∀H:Heap,xB (some 4) Jm H [P4 d.procs.length,P4 d.procs.length]=some (.slv (some 4) H.length d.procs.length 0 d.procs.length,H++[.arv (some 4) (List.replicate d.procs.length Jm)]):=fun H=>by
  grind [xB,xf]
 simp only[Jm] at hmk;simp -dsimp -implicitDefEqProofs only[go_sem,seval,Dbs.av,Yn,hpl,hnil,hmk,N3,zH (Zf _ _)];obtain⟨x1,hx1⟩:∃x1:AObj,x1=.box (some 2) (.agg A1):=⟨_,rfl⟩;rw[<-hx1];obtain⟨b0,hb0⟩:∃b0,b0=hp.length+8:=⟨_,rfl⟩;rw[<-hb0];obtain⟨PP,hPP⟩:∃PP:Nat->Heap->Heap,PP=fun j e=>hp++([.box (some 2) (.pv (some 2) d.pv),x1,.arv (some 4) (elsA d.procs b0 j)]++e):=⟨_,rfl⟩;have hPa:∀j e X,PP j e++X=PP j (e++X):=fun j e X=>by grind
 have hPl:∀j e,(PP j e).length=hp.length+3+e.length:=fun j e=>by grind
 have hP2:∀j e,(PP j e)[hp.length+2]? =some (.arv (some 4) (elsA d.procs b0 j)):=fun j e=>by grind
 refine Ye (α:=Unit) d.procs.length (fun _ _=>True) (fun i _=>⟨[(1,.ptr hp.length 0),(2,.ptr (hp.length+1) 0),(3,.slv (some 4) (hp.length+2) d.procs.length 0 d.procs.length),(11,.pv none (.sl (some 4) (Prc.pvs d.procs))),(12,P4 d.procs.length),(13,P4 i)],PP i (cEs (d.procs.take i) b0)⟩) () ⟨trivial,by rw[hPP];simp only[N2];rfl⟩ ?_ ?_
 ·rintro i - h -;have hcc:(i:Int)<(d.procs.length:Int):=by omega
  have w1:IntKind.i64.wrap ((i:Int)+1)=((i+1:Nat):Int):=by grind [zW]
  obtain⟨p,hpp⟩:∃p,d.procs[i]? =some p:=⟨_,Zd h⟩;obtain⟨c1,c2⟩:=hcl p (Zj hpp);obtain⟨e,he⟩:∃e,e=cEs (d.procs.take i) b0:=⟨_,rfl⟩;have hel:e.length=6*i:=by grind [gT]
  obtain⟨n,hn⟩:∃n,n=hp.length+3+6*i:=⟨_,rfl⟩;have hpn:∀j,(PP j e).length=n:=fun j=>by grind
  have hbn:hp.length<=n:=by omega
  have hpr:S 57 [.pv (some 4) p.pv] (PP i e++[.box (some 4) (.pv (some 4) p.pv),.arr (some 9) [] false])=some (.ret (pA p (n+5)),PP i e++[.box (some 4) (.pv (some 4) p.pv),.arr (some 9) [] false,.box (some 4) (pA p (n+5)),.box (some 4) (pA p (n+5)),.arr (some 9) [] false,.arr (some 9) (Sto.pvs p.cls) false]):=by
   have h3:=gJ p c1 c2 (PP i e++[.box (some 4) (.pv (some 4) p.pv),.arr (some 9) [] false]);rw[Z6,hpn,Zn] at h3;exact h3
  have hia:Yc (some 4) [.slv (some 4) (hp.length+2) d.procs.length 0 d.procs.length,P4 i]=some (.epv (some 4) (hp.length+2) d.procs.length i 0):=by
   simp[Yc,aindex,h]
  have hst:∀X,zL (some 4) hp.length (PP i e++X) [.epv (some 4) (hp.length+2) d.procs.length i 0,pA p (n+5)]=some (.undef,PP (i+1) e++X):=fun X=>by
   have hq:n+5=b0+6*i:=by omega
   have hs:=gS (b:=b0) hpp;have hg:(PP i e++X)[hp.length+2]? =some (.arv (some 4) (elsA d.procs b0 i)):=by grind
   have hset:(PP i e++X).set (hp.length+2) (.arv (some 4) (elsA d.procs b0 (i+1)))=PP (i+1) e++X:=by
    simp_all
   have hlt:i<(elsA d.procs b0 i).length:=by grind [Xq]
   obtain⟨old,ho⟩:∃old,(elsA d.procs b0 i)[i]? =some old:=⟨_,Zd hlt⟩;have hpln:(pA p (b0+6*i)).plain=true:=rfl;have hsh:(pA p (b0+6*i)).shp=some 4:=rfl;simp_all[zL,astore,Xq]
  rw[<-he];simp -dsimp -implicitDefEqProofs only[go_sem,seval,hcc,w1,zQ (Prc.pvs_get hpp),hpr,hia,hst,zH (ZH hbn (Zf _ _)),hpn,getN (hpn _),z7 (hpn _),setN (hpn _),Yi (hpn _)];refine⟨(),?_⟩;have hgi:(elsA d.procs b0 (i+1))[i]? =some (pA p (b0+6*i)):=by
   rw[<-gS hpp];simp[Xq,h]
  have hrf:(AObj.arv (some 4) (elsA d.procs b0 (i+1))).refs.all (fun q=>decide (q<hp.length+3))=false:=by
   rw[List.all_eq_false];refine⟨b0+6*i,(Qo _ _).2 ⟨_,Zj hgi,by simp[pA,AV.refsIn,AV.refsIn.go]⟩,by grind⟩
  rw[VC (k:=hp.length+2) (by omega) (by omega) (by grind) hrf];have htk:d.procs.take (i+1)=d.procs.take i++[p]:=by grind [Z0]
  have hli:(d.procs.take i).length=i:=by grind
  rw[hPa,htk,gU,hli,<-he];have hq:n+5=b0+6*i:=by omega
  rw[hq];rfl
 ·rintro - -;have hcc:¬(d.procs.length:Int)<(d.procs.length:Int):=by omega
  have hup:∀(q:Nat),AV.upd deep (.pv (some 2) d.pv) 1 none (.slv (some 4) q d.procs.length 0 d.procs.length)=some (dA d q):=fun q=>rfl;have hs1:∀(x1 x2:AObj) (X:Heap),zL none hp.length (hp++.box (some 2) (.pv (some 2) d.pv)::x1::x2::X) [.ptr hp.length 1,.slv (some 4) (hp.length+2) d.procs.length 0 d.procs.length]=some (.undef,hp++.box (some 2) (dA d (hp.length+2))::x1::x2::X):=fun x1 x2 X=>by
   grind [zL,astore,AV.plain,AV.shp,AV.own]
  have hs2:∀(x0 x2:AObj) (v:AV) (X:Heap),zL (some 2) hp.length (hp++x0::.box (some 2) v::x2::X) [.ptr (hp.length+1) 0,dA d (hp.length+2)]=some (.undef,hp++x0::.box (some 2) (dA d (hp.length+2))::x2::X):=fun x0 x2 v X=>by
   simp[zL,astore,getN rfl,setN rfl,dA,AV.plain,AV.shp,AV.own,zX,Y3,total,Sh.size]
  rw[ZF,hPP,hx1];simp -dsimp -implicitDefEqProofs only[go_sem,seval,hcc,hs1,hs2]
  grind [dA,AV.refsIn,AV.refsIn.go]
def Fz(H H':Heap):Prop:=∀k:Nat,(∀(s:Sh) (es:List PV) (z:Bool),H[k]? =some (AObj.arr s es z)->∃z':Bool,H'[k]? =some (AObj.arr s es z'))/\(∀(s:Sh) (es:List AV),H[k]? =some (AObj.arv s es)->H'[k]? =some (AObj.arv s es))
theorem Fz.refl(H:Heap):Fz H H:=fun _=>⟨fun _ _ z h=>⟨z,h⟩,fun _ _ h=>h⟩
theorem Fz.trans{A B C:Heap}(h1:Fz A B)(h2:Fz B C):Fz A C:=fun k=>⟨fun s es z h=>by
  obtain⟨z',h'⟩:=(h1 k).1 s es z h;exact(h2 k).1 s es z' h',fun s es h=>(h2 k).2 s es ((h1 k).2 s es h)⟩
theorem Fz.set{H:Heap}{q:Nat}{s:Sh}{es:List PV}{z:Bool}(h:H[q]? =some (.arr s es z)):Fz H (H.set q (.arr s es true)):=fun k=>by
 grind
def SvP(sv:AV)(l:List Sto)(H:Heap):Prop:=sv=.tsl (some 9) (Sto.pvs l)\/∃(q ver:Nat) (es:List PV) (z:Bool),sv=.sl (some 9) q ver 0 l.length/\H[q]? =some (.arr (some 9) es z)/\es.length=ver/\l.length<=ver/\es.take l.length=Sto.pvs l
def pAg(p:Prc)(sv:AV):AV:=.agg [(none,P6 p.name),(none,P4 p.ar),(none,P5 p.dyn),(none,sv)]
def ElP(p:Prc)(v:AV)(H:Heap):Prop:=v=p.av\/∃sv,v=pAg p sv/\SvP sv p.cls H
theorem SvP.fz{sv:AV}{l:List Sto}{H H':Heap}(h:SvP sv l H)(f:Fz H H'):SvP sv l H':=by
 rcases h with h|⟨q,ver,es,z,h1,h2,h3⟩
 ·exact .inl h
 ·obtain⟨z',h'⟩:=(f q).1 _ _ _ h2;exact .inr ⟨q,ver,es,z',h1,h',h3⟩
theorem ElP.fz{p:Prc}{v:AV}{H H':Heap}(h:ElP p v H)(f:Fz H H'):ElP p v H':=by
 rcases h with h|⟨sv,h1,h2⟩
 ·exact .inl h
 ·exact .inr ⟨sv,h1,h2.fz f⟩
theorem SvP.frz{sv:AV}{l:List Sto}{H:Heap}(h:SvP sv l H)(n:Nat):∃H',AV.freeze0 (n+1) sv H=some (.sl (some 9) (Sto.pvs l),H')/\Fz H H':=by
 rcases h with rfl|⟨q,ver,es,z,rfl,h2,h3,h4,h5⟩
 ·exact⟨H,rfl,Fz.refl H⟩
 ·refine⟨H.set q (.arr (some 9) es true),?_,Fz.set h2⟩
  grind [AV.freeze0]
theorem ElP.frz{p:Prc}{v:AV}{H:Heap}(h:ElP p v H):∃H',AV.freeze0 6 v H=some (p.pv,H')/\Fz H H':=by
 rcases h with rfl|⟨sv,rfl,h2⟩
 ·exact⟨H,rfl,Fz.refl H⟩
 ·obtain⟨H',h3,h4⟩:=h2.frz 4;refine⟨H',?_,h4⟩;have e:∀n l hp,AV.freeze0 (n+1) (.agg l) hp=match AV.freeze0.go n l hp with|some (ps,hp')=>some (.agg ps,hp')|none=>none:=fun _ _ _=>rfl
  have e0:∀(x:PV) (s:Sh) (X:Heap),AV.freeze0 5 (.pv s x) X=some (x,X):=fun _ _ _=>rfl;show AV.freeze0 (5+1) (.agg _) H=_;simp only[e,AV.freeze0.go,e0,h3];rfl
theorem gW:∀(ps:List Prc) (els:List AV) (H:Heap),els.length=ps.length->(∀(j:Nat) (p:Prc) (v:AV),ps[j]? =some p->els[j]? =some v->ElP p v H)->∃H',AV.freeze0.go 6 (els.map fun e=>(some 4,e)) H=some (ps.map (fun p=>(some 4,p.pv)),H')/\Fz H H'
 |[],[],H,_,_=>⟨H,rfl,Fz.refl H⟩
 |[],_::_,_,h,_=>by grind
 |_::_,[],_,h,_=>by grind
 |p::r,v::w,H,hl,he=>by
  obtain⟨H1,h1,f1⟩:=(he 0 p v rfl rfl).frz;obtain⟨H2,h2,f2⟩:=gW r w H1 (by grind) fun j p' v' hp hv=>(he (j+1) p' v' (by grind) (by grind)).fz f1;refine⟨H2,?_,f1.trans f2⟩
  grind [AV.freeze0.go]
def DbA(d:Dbs)(v:AV)(H:Heap):Prop:=∃(q ver:Nat) (els:List AV) (ps:List Prc),v=.agg [(none,P4 d.next),(none,.slv (some 4) q ver 0 d.procs.length)]/\H[q]? =some (.arv (some 4) els)/\els.length=ver/\d.procs.length<=ver/\ps.length=ver/\ps.take d.procs.length=d.procs/\∀(j:Nat) (p:Prc) (v:AV),ps[j]? =some p->els[j]? =some v->ElP p v H
theorem DbA.frz{d:Dbs}{v:AV}{H:Heap}(h:DbA d v H):∃H',AV.freeze deep v H=some (d.pv,H'):=by
 obtain⟨q,ver,els,ps,rfl,h1,h2,h3,h4,h5,h6⟩:=h;obtain⟨H1,g1,g2⟩:=gW ps els H (by omega) h6;have h1':=(g2 q).2 _ _ h1;refine⟨H1.set q (.arr (some 4) (Prc.pvs ps) true),?_⟩;have e:∀n l hp,AV.freeze (n+1) (.agg l) hp=match AV.freeze.go n l hp with|some (ps,hp')=>some (.agg ps,hp')|none=>none:=fun _ _ _=>rfl
 have e0:∀(x:PV) (s:Sh) (X:Heap),AV.freeze 7 (.pv s x) X=some (x,X):=fun _ _ _=>rfl;have em:(ps.map (fun p=>((some 4:Sh),p.pv))).map (·.2)=Prc.pvs ps:=by simp[Prc.pvs]
 have et:(Prc.pvs ps).take d.procs.length=Prc.pvs d.procs:=by
  grind [Prc.pvs,List.map_take]
 have hlen:els.length=els.length:=rfl;have hfs:AV.freeze 7 (.slv (some 4) q ver 0 d.procs.length) H=some (.sl (some 4) (Prc.pvs d.procs),H1.set q (.arr (some 4) (Prc.pvs ps) true)):=by
  grind [AV.freeze]
 show AV.freeze (7+1) (.agg _) H=_;simp only[e,AV.freeze.go,e0,hfs];rfl
theorem qj:∀(l:List Prc) (b j:Nat) (p:Prc),l[j]? =some p->(cEs l b)[6*j+5]? =some (.arr (some 9) (Sto.pvs p.cls) false)
 |[],_,_,_,h=>by simp at h
 |x::r,b,0,p,h=>by
  simp at h;subst h;rfl
 |x::r,b,j+1,p,h=>by
  have ih:=qj r (b+6) j p (by simpa using h);rw[cEs,Z7 (by show 6<=_;omega)];show(cEs r (b+6))[6*(j+1)+5 - 6]? =_;rw[show 6*(j+1)+5 - 6=6*j+5 by omega];exact ih
theorem qk{l:List Prc}{b j:Nat}{p:Prc}(h:l[j]? =some p):(elsA l b l.length)[j]? =some (pA p (b+6*j)):=by
 have hj:=(Ze.1 h).1;have he:l[j]=p:=(Ze.1 h).2;simp[elsA,List.getElem?_mapIdx,hj,he]
def yI:Dbs:=⟨0,[]⟩
theorem VE{ps:List Prc}{k:Prc}(h:fnD ps k=true):∃p,ps[lbD ps k]? =some p:=by
 cases e:ps[lbD ps k]? with
 |some p=>exact⟨p,rfl⟩
 |none=>simp[fnD,e] at h
def ids(l:List Prc):List Int:=l.flatMap fun p=>p.cls.map (·.id)
theorem VF(A B:List Prc):ids (A++B)=ids A++ids B:=by simp[ids]
theorem XX(p:Prc)(B:List Prc):ids (p::B)=p.cls.map (·.id)++ids B:=by simp[ids]
theorem mem_ids{l:List Prc}{x:Int}:x∈ids l↔∃p∈l,∃s∈p.cls,s.id=x:=by simp[ids]
def okS(next:Int)(p:Prc)(s:Sto):Prop:=1<=s.id/\s.id<next/\okC s.cl=true/\s.cl.head.name=p.name/\(s.cl.head.args.length:Int)=p.ar
theorem gX(next:Int)(p:Prc)(seen:List Int)(s:Sto):okSt next p seen s=true↔s.id ∉ seen/\okS next p s:=by
 grind [okSt,okS]
theorem VG(next:Int)(p:Prc):∀(l:List Sto) (seen s':List Int),okSs next p seen l=some s'↔s'=seen++l.map (·.id)/\(l.map (·.id)).Nodup/\(∀x∈l,x.id ∉ seen)/\∀s∈l,okS next p s
 |[],seen,s'=>by grind [okSs]
 |s::r,seen,s'=>by
  rw[okSs];by_cases h:okSt next p seen s=true
  ·rw[Zh h,VG next p r]
   grind [gX]
  grind [gX]
def OkP(next:Int)(l:List Prc):Prop:=(∀p∈l,namB p=true)/\l.Pairwise (fun a b=>ordP a b<0)/\(ids l).Nodup/\∀p∈l,∀s∈p.cls,okS next p s
theorem gY(next:Int):∀(l:List Prc) (q:Option Prc) (seen:List Int),okPs next q seen l=true->OkP next l/\(∀p,l.head? =some p->preB q p=true)/\∀x∈ids l,x ∉ seen
 |[],q,seen,_=>⟨⟨fun p h=>(by cases h),List.Pairwise.nil,List.nodup_nil,fun p h=>(by cases h)⟩,fun p h=>(by cases h),fun x h=>(by cases h)⟩
 |x::r,q,seen,h=>by
  rw[okPs,Zk,Zk] at h;obtain⟨h1,h2,h3⟩:=h;split at h3
  ·cases h3
  ·rename_i s' hs;obtain⟨rfl,e2,e3,e4⟩:=(VG ..).1 hs;obtain⟨⟨g1,g2,g3,g4⟩,g5,g6⟩:=gY next r (some x) _ h3
   have hx:∀b∈r,ordP x b<0:=by
    intro b hb;cases r with
    |nil=>cases hb
    |cons y r'=>
     have h0:ordP x y<0:=Z8 (g5 y rfl)
     grind [jE,zj]
   refine⟨⟨fun p hp=> ?_,zj.2 ⟨hx,g2⟩,?_,fun p hp=> ?_⟩,fun p hp=>by grind,fun y hy=> ?_⟩
   ·grind
   ·grind [XX]
   ·grind
   grind [XX]
theorem gZ(next:Int):∀(l:List Prc) (q:Option Prc) (seen:List Int),OkP next l->(∀p,l.head? =some p->preB q p=true)->(∀x∈ids l,x ∉ seen)->okPs next q seen l=true
 |[],q,seen,_,_,_=>rfl
 |x::r,q,seen,⟨h1,h2,h3,h4⟩,h5,h6=>by
  rw[okPs,h1 x Zx,h5 x rfl];rw[XX,List.nodup_append] at h3;obtain⟨k1,k2⟩:=zj.1 h2;have hs:okSs next x seen x.cls=some (seen++x.cls.map (·.id)):=(VG ..).2 ⟨rfl,h3.1,fun u hu=>h6 u.id (by grind [XX]),h4 x Zx⟩
  rw[hs];simp only[Bool.true_and];refine gZ next r (some x) _ ⟨fun p hp=>h1 p (Zm _ hp),k2,h3.2.1,fun p hp=>h4 p (Zm _ hp)⟩ (fun p hp=> ?_) fun y hy hm=> ?_
  ·exact ZN (k1 p (List.mem_of_mem_head? (by grind)))
  grind [XX]
theorem Xg(d:Dbs):okD d=true↔1<=d.next/\d.next<=4294967296/\d.procs.length<=500/\totD d.procs<=500/\OkP d.next d.procs:=by
 simp only[okD,Zk,Zz];constructor
 ·grind [gY]
 ·rintro⟨a,b,c,e,f⟩;exact⟨a,b,c,e,gZ _ _ _ _ f (fun _ _=>rfl) fun _ _ h=>by cases h⟩
theorem OkP.mono{n n':Int}{l:List Prc}(h:OkP n l)(hn:n<=n'):OkP n' l:=⟨h.1,h.2.1,h.2.2.1,fun p hp s hs=>by
 obtain⟨a,b,c⟩:=h.2.2.2 p hp s hs;exact⟨a,by omega,c⟩⟩
theorem ql(next:Int)(A B:List Prc)(q:Prc):OkP next (A++q::B)↔OkP next (A++B)/\namB q=true/\(∀a∈A,ordP a q<0)/\(∀b∈B,ordP q b<0)/\(q.cls.map (·.id)).Nodup/\(∀s∈q.cls,s.id ∉ ids (A++B))/\∀s∈q.cls,okS next q s:=by
 have hperm:(ids (A++q::B)).Perm (q.cls.map (·.id)++ids (A++B)):=by
  grind [VF,XX]
 unfold OkP;rw[hperm.nodup_iff,List.nodup_append,List.pairwise_append,List.pairwise_append,zj];constructor
 ·grind
 grind
theorem Jn{p q p' q':Prc}(h1:p.name=p'.name)(h2:p.ar=p'.ar)(h3:q.name=q'.name)(h4:q.ar=q'.ar):ordP p q=ordP p' q':=by
 grind [ordP]
theorem Ba:∀a b:List UInt8,Op.bytesLess a b=false->a≠b->Op.bytesLess b a=true
 |[],[],_,h=>absurd rfl h
 |[],_::_,h,_=>by grind [Op.bytesLess]
 |_::_,[],_,_=>rfl
 |x::a,y::b,h,hne=>by
  simp only[Op.bytesLess,Bool.or_eq_false_iff,Bool.and_eq_false_iff,Bool.or_eq_true,Zk,Zz,decide_eq_false_iff_not,beq_iff_eq,beq_eq_false_iff_ne] at h ⊢;obtain⟨h1,h2⟩:=h;by_cases e:x=y
  ·subst e;rcases h2 with h2|h2
   ·grind
   ·exact .inr ⟨rfl,Ba a b h2 fun e=>hne (by rw[e])⟩
  grind
theorem N4{p q:Prc}(h1:¬ordP p q<0)(h2:ordP p q≠0):ordP q p<0:=by
 rw[Vy] at h1 ⊢
 grind [ordP_zero,Ba]
theorem jH{l:List Prc}(h:l.Pairwise (fun a b=>ordP a b<0)):IncP l:=fun i j a b hij ha hb=>by
 grind [List.pairwise_iff_getElem]
theorem N5{l:List Prc}(k:Prc)(h:l.Pairwise (fun a b=>ordP a b<0)):(∀a∈l.take (lbD l k),ordP a k<0)/\∀b∈l.drop (lbD l k),¬ordP b k<0:=by
 have hi:=jH h;constructor
 ·intro a ha;obtain⟨j,hj⟩:=ZG.1 ha;rw[Z1] at hj;split at hj
  ·rename_i hlt;exact(qf hi hj).2 hlt
  grind
 ·intro b hb;obtain⟨j,hj⟩:=ZG.1 hb;rw[Z5] at hj;intro hlt;have:=(qf hi hj).1 hlt;omega
theorem VH{l:List Prc}(k:Prc)(h:l.Pairwise (fun a b=>ordP a b<0)):fnD l k=true↔∃p∈l,ordP p k=0:=by
 have hi:=jH h;constructor
 ·grind [fnD]
 ·rintro⟨p,hp,e⟩;obtain⟨j,hj⟩:=ZG.1 hp;have h1:¬j<lbD l k:=fun hlt=>by
   have:=(qf hi hj).2 hlt;omega
  have h2:¬lbD l k<j:=fun hlt=>by
   have hl:lbD l k<l.length:=by
    grind
   have hx:=hi _ j _ p hlt (Zd hl) hj;have hz:=ordP_zero.1 e;have hx':ordP l[lbD l k] k<0:=by
    grind [Jn]
   have:=(qf hi (Zd hl)).1 hx';omega
  grind [fnD]
theorem N6{l:List Prc}{k p:Prc}(h:l.Pairwise (fun a b=>ordP a b<0))(hp:p∈l)(e:ordP p k=0):l[lbD l k]? =some p:=by
 have hi:=jH h;have hf:=(VH k h).2 ⟨p,hp,e⟩;obtain⟨q,hq⟩:=VE hf;have e2:ordP q k=0:=by
  grind [fnD]
 obtain⟨j,hj⟩:=ZG.1 hp;have z1:=ordP_zero.1 e;have z2:=ordP_zero.1 e2;have e0:ordP p q=0:=ordP_zero.2 ⟨z1.1.trans z2.1.symm,z1.2.trans z2.2.symm⟩;have e1:ordP q p=0:=ordP_zero.2 ⟨z2.1.trans z1.1.symm,z2.2.trans z1.2.symm⟩;rcases Nat.lt_trichotomy j (lbD l k) with hlt|hlt|hlt
 ·have:=hi _ _ _ _ hlt hj hq;omega
 ·grind
 ·have:=hi _ _ _ _ hlt hq hj;omega
theorem xl{d:Dbs}(hv:okD d=true)(s:List UInt8)(a:Int)(p:Prc):Ys d s a=some p↔p∈d.procs/\p.name=s/\p.ar=a:=by
 have hpw:=((Xg d).1 hv).2.2.2.2.2.1;unfold Ys;rw[Zh hv];constructor
 ·intro h;split at h
  ·rename_i hf;refine⟨Zj h,?_⟩;unfold fnD at hf;rw[h] at hf;exact ordP_zero.1 (Z8 hf)
  grind
 grind [keyP,ordP_zero,VH,N6]
theorem xm{d:Dbs}(hv:okD d=true):BndD d:=by
 have h:=(Xg d).1 hv;refine⟨by omega,by omega,fun p hp s hs=> ?_⟩;obtain⟨vh,vb⟩:=qi hv p hp s hs
 grind [valid_size]
theorem QL{α:Type}{l:List α}{i:Nat}{x:α}(h:l[i]? =some x):l=l.take i++x::l.drop (i+1):=by
 grind [jC,ZX]
theorem VI{α:Type}{l:List α}{i:Nat}{x:α}(h:l[i]? =some x)(y:α):l.set i y=l.take i++y::l.drop (i+1):=by
 grind [List.set_eq_take_append_cons_drop]
theorem VJ(A B:List Prc):totD (A++B)=totD A+totD B:=by simp[totD]
theorem VK(p:Prc)(B:List Prc):totD (p::B)=p.cls.length+totD B:=by simp[totD]
theorem N7{l:List Prc}{i:Nat}{p:Prc}(h:l[i]? =some p)(q:Prc):totD (l.set i q)+p.cls.length=totD l+q.cls.length:=by
 have e:totD l=totD (l.take i++p::l.drop (i+1)):=by grind [QL]
 grind [VI,VJ,VK]
theorem Bb{l:List Prc}{i:Nat}{p:Prc}(h:l[i]? =some p)(q x:Prc):x∈l.set i q↔x=q\/x∈l.take i++l.drop (i+1):=by
 grind [VI]
theorem N8{l:List Prc}{i:Nat}{p:Prc}(h:l[i]? =some p)(x:Prc):x∈l↔x=p\/x∈l.take i++l.drop (i+1):=by
 have e:=Bb h p x
 grind [gI]
theorem N9{l m:List Prc}(h:∀x∈l,x∈m){y:Int}(hy:y∈ids l):y∈ids m:=by
 grind [mem_ids]
theorem Bc{n:Int}{p q:Prc}{s:Sto}(h:okS n p s)(h1:p.name=q.name)(h2:p.ar=q.ar):okS n q s:=by
 obtain⟨a,b,c,d,e⟩:=h;exact⟨a,b,c,by grind,by grind⟩
theorem na{n n':Int}{l:List Prc}{i:Nat}{p q:Prc}(h:OkP n l)(hp:l[i]? =some p)(hn:q.name=p.name)(ha:q.ar=p.ar)(hle:n<=n')(hnd:(q.cls.map (·.id)).Nodup)(hfr:∀s∈q.cls,s∈p.cls\/s.id ∉ ids l)(hok:∀s∈q.cls,okS n' q s):OkP n' (l.set i q):=by
 rw[VI hp];rw[QL hp] at h;obtain⟨g1,g2,g3,g4,g5,g6,g7⟩:=(ql ..).1 h;refine(ql ..).2 ⟨g1.mono hle,?_,fun a ha'=> ?_,fun b hb=> ?_,hnd,fun s hs=> ?_,hok⟩
 ·grind [namB]
 ·grind [Jn]
 ·grind [Jn]
 grind [N9]
theorem nc{n n':Int}{l:List Prc}{q:Prc}(h:OkP n l)(hf:fnD l (keyP q.name q.ar)=false)(hnm:namB q=true)(hle:n<=n')(hnd:(q.cls.map (·.id)).Nodup)(hfr:∀s∈q.cls,s.id ∉ ids l)(hok:∀s∈q.cls,okS n' q s):OkP n' (l.take (lbD l (keyP q.name q.ar))++q::l.drop (lbD l (keyP q.name q.ar))):=by
 obtain⟨c1,c2⟩:=N5 (keyP q.name q.ar) h.2.1;have ht:l.take (lbD l (keyP q.name q.ar))++l.drop (lbD l (keyP q.name q.ar))=l:=ZX _ _;refine(ql ..).2 ⟨by rw[ht];exact h.mono hle,hnm,fun a ha=> ?_,fun b hb=> ?_,hnd,fun s hs=>by grind,hok⟩
 ·grind [Jn,keyP]
 ·rw[Jn (p:=q) (p':=keyP q.name q.ar) rfl rfl rfl rfl];refine N4 (c2 b hb) fun e=> ?_;rw[(VH _ h.2.1).2 ⟨b,List.mem_of_mem_drop hb,e⟩] at hf;cases hf
def ApR(d n:Dbs)(s:List UInt8)(a:Int):Prop:=∀p∈d.procs,¬(p.name=s/\p.ar=a)->Ys n p.name p.ar=some p
theorem Bd{d n:Dbs}{s:List UInt8}{a:Int}(hn:okD n=true)(h:∀p∈d.procs,¬(p.name=s/\p.ar=a)->p∈n.procs):ApR d n s a:=fun p hp hk=>(xl hn _ _ _).2 ⟨h p hp hk,rfl,rfl⟩
theorem nf{d:Dbs}(hv:okD d=true){s:List UInt8}{a:Int}(hf:fnD d.procs (keyP s a)=true):∃p,d.procs[lbD d.procs (keyP s a)]? =some p/\p.name=s/\p.ar=a/\Ys d s a=some p:=by
 grind [VE,Ys,xl]
theorem ng{d:Dbs}{s:List UInt8}{a:Int}(hf:fnD d.procs (keyP s a)=false):Ys d s a=none:=by
 grind [Ys]
end Go.Proofs.YtgedfopkiebjkaaGreatDoor
namespace Go.Proofs.YtgedfopkiebjkaaGreatDoor
open Go.Am Go.ChangeShapes Go.WideShapes Go.ChangeAt Go.RowKit
theorem nh{n:Nat}{p:PV}(h:wt Tryz.prog n 39 p):∃x:Cz,p=x.pv:=by
 obtain⟨m,l,rfl,h'⟩:=jo (ts:=[27,27]) (by kernel_rfl) h;obtain⟨a,l,rfl,ha,h⟩:=XT h';obtain⟨b,l,rfl,hb,h⟩:=XT h;obtain rfl:=jp h;obtain⟨x,rfl,_⟩:=(kY Vj m).1 a ha;obtain⟨y,rfl,_⟩:=(kY Vj m).1 b hb;refine⟨⟨x,y⟩,?_⟩;rw[show shOf Tryz.prog 27=some 4 from by kernel_rfl];rfl
theorem ni{n:Nat}{p:PV}(h:wt Tryz.prog n 49 p):∃x:Sto,p=x.pv:=by
 obtain⟨m,l,rfl,h'⟩:=jo (ts:=[2,39]) (by kernel_rfl) h;obtain⟨a,l,rfl,ha,h⟩:=XT h';obtain⟨b,l,rfl,hb,h⟩:=XT h;obtain rfl:=jp h;obtain⟨x,rfl,_⟩:=k9 (by kernel_rfl) ha;obtain⟨y,rfl⟩:=nh hb;refine⟨⟨x,y⟩,?_⟩;rw[show shOf Tryz.prog 2=none from by kernel_rfl,show shOf Tryz.prog 39=some 8 from by kernel_rfl];rfl
theorem nj{n:Nat}{p:PV}(h:wt Tryz.prog n 45 p):∃x:Prc,p=x.pv:=by
 obtain⟨m,l,rfl,h'⟩:=jo (ts:=[9,3,4,43]) (by kernel_rfl) h;obtain⟨a,l,rfl,ha,h⟩:=XT h';obtain⟨b,l,rfl,hb,h⟩:=XT h;obtain⟨c,l,rfl,hc,h⟩:=XT h;obtain⟨d,l,rfl,hd,h⟩:=XT h;obtain rfl:=jp h;obtain⟨x,rfl⟩:=mS (by kernel_rfl) ha;obtain⟨y,rfl,_⟩:=k9 (by kernel_rfl) hb;obtain⟨z,rfl⟩:=GY (by kernel_rfl) hc;obtain⟨k,es,rfl,he⟩:=GZ (e:=49) (by kernel_rfl) hd;obtain⟨gs,rfl,_⟩:=Va (f:=Sto.pv) (Q:=fun _=>True) es fun x hx=>by
  obtain⟨g,rfl⟩:=ni (he x hx);exact⟨g,rfl,trivial⟩
 refine⟨⟨x,y,z,gs⟩,?_⟩;rw[show shOf Tryz.prog 9=none from by kernel_rfl,show shOf Tryz.prog 3=none from by kernel_rfl,show shOf Tryz.prog 4=none from by kernel_rfl,show shOf Tryz.prog 43=none from by kernel_rfl,show shOf Tryz.prog 49=some 9 from by kernel_rfl];rfl
theorem nk{n:Nat}{p:PV}(h:wt Tryz.prog n 24 p):∃x:Dbs,p=x.pv:=by
 obtain⟨m,l,rfl,h'⟩:=jo (ts:=[2,22]) (by kernel_rfl) h;obtain⟨a,l,rfl,ha,h⟩:=XT h';obtain⟨b,l,rfl,hb,h⟩:=XT h;obtain rfl:=jp h;obtain⟨x,rfl,_⟩:=k9 (by kernel_rfl) ha;obtain⟨k,es,rfl,he⟩:=GZ (e:=45) (by kernel_rfl) hb;obtain⟨gs,rfl,_⟩:=Va (f:=Prc.pv) (Q:=fun _=>True) es fun x hx=>by
  obtain⟨g,rfl⟩:=nj (he x hx);exact⟨g,rfl,trivial⟩
 refine⟨⟨x,gs⟩,?_⟩;rw[show shOf Tryz.prog 2=none from by kernel_rfl,show shOf Tryz.prog 22=none from by kernel_rfl,show shOf Tryz.prog 45=some 4 from by kernel_rfl];rfl
theorem nl(c:Cz):c.head.size<=c.pv.sz/\c.body.size<=c.pv.sz:=by
 have h1:=Tm.zBw c.head;have h2:=Tm.zBw c.body;simp[Cz.pv,PV.sz,PV.szc];omega
theorem nn(s:Sto):s.cl.pv.sz<=s.pv.sz:=by
 simp[Sto.pv,PV.sz,PV.szc];omega
theorem VL:∀l:List Sto,l.length<=PV.szs (Sto.pvs l)/\∀s∈l,s.pv.sz<=PV.szs (Sto.pvs l)
 |[]=>⟨Za _,fun b hb=>by cases hb⟩
 |x::r=>by
  obtain⟨h1,h2⟩:=VL r;have h4:PV.szs (Sto.pvs (x::r))=x.pv.sz+PV.szs (Sto.pvs r):=by simp[Sto.pvs,PV.szs]
  have h5:1<=x.pv.sz:=by simp[Sto.pv,PV.sz];try omega
  refine⟨by simp only[ZZ];omega,fun b hb=> ?_⟩;rcases ZC.1 hb with rfl|hb
  ·omega
  ·have:=h2 b hb;omega
theorem Be(p:Prc):PV.szs (Sto.pvs p.cls)+1<=p.pv.sz:=by
 simp[Prc.pv,PV.sz,PV.szc];omega
theorem Bf:∀l:List Prc,l.length<=PV.szs (Prc.pvs l)/\totD l<=PV.szs (Prc.pvs l)/\∀p∈l,p.pv.sz<=PV.szs (Prc.pvs l)
 |[]=>⟨Za _,Za _,fun b hb=>by cases hb⟩
 |x::r=>by
  obtain⟨h1,h2,h3⟩:=Bf r;have h4:PV.szs (Prc.pvs (x::r))=x.pv.sz+PV.szs (Prc.pvs r):=by simp[Prc.pvs,PV.szs]
  have h5:=Be x;have h6:=(VL x.cls).1;have h7:totD (x::r)=x.cls.length+totD r:=by simp[totD]
  refine⟨by simp only[ZZ];omega,by omega,fun b hb=> ?_⟩;rcases ZC.1 hb with rfl|hb
  ·omega
  ·have:=h3 b hb;omega
theorem np{d:Dbs}(h:d.pv.sz<=1048576):BndD d:=by
 have h0:PV.szs (Prc.pvs d.procs)<=d.pv.sz:=by
  simp[Dbs.pv,PV.sz,PV.szc];omega
 obtain⟨h1,h2,h3⟩:=Bf d.procs;refine⟨by omega,by omega,fun p hp s hs=> ?_⟩;have g1:=h3 p hp;have g2:=Be p;have g3:=(VL p.cls).2 s hs;have g4:=nn s;have g5:=nl s.cl;omega
set_option maxRecDepth 100000 in
theorem nq{H:Type}{enc:TypeId × Value->H}{W:World}{base:Nat}{v:Value}{d:DataW H}{ps:List MemPlace}(h:DataW.Trod enc Tryz.prog W 0 (fun _=>true) true 24 v d ps)(hv:Value.okWide Tryz.prog W .any base 24 v):
  ∃f:Dbs,AR W (noX (P:=Tryz.prog)) noμ [] f.av v/\f.pv.sz<=Rows.uptoBulk d:=by
 obtain⟨n,p,h1,h2,h3⟩:=gd (by decide) (by kernel_rfl) h hv;obtain⟨f,rfl⟩:=nk h2;rw[show shOf Tryz.prog 24=some 2 from by kernel_rfl] at h1;exact⟨f,h1,h3⟩
set_option maxRecDepth 100000 in
theorem nr{H:Type}{enc:TypeId × Value->H}{W:World}{base:Nat}{v:Value}{d:DataW H}{ps:List MemPlace}(h:DataW.Trod enc Tryz.prog W 0 (fun _=>true) true 4 v d ps)(hv:Value.okWide Tryz.prog W .any base 4 v):
  ∃x:Bool,AR W (noX (P:=Tryz.prog)) noμ [] (P5 x) v/\True:=by
 obtain⟨n,p,h1,h2,h3⟩:=gd (by decide) (by kernel_rfl) h hv;obtain⟨x,rfl⟩:=GY (by kernel_rfl) h2;rw[show shOf Tryz.prog 4=none from by kernel_rfl] at h1;exact⟨x,h1,trivial⟩
end Go.Proofs.YtgedfopkiebjkaaGreatDoor
