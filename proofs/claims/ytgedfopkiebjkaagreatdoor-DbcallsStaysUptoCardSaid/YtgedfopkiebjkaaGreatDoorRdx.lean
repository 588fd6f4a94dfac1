/- What the operations leave of a valid database, in plain terms. -/
import Derived.Test.YtgedfopkiebjkaaGreatDoorOkp
import Derived.Test.YtgedfopkiebjkaaGreatDoorTerm
import Derived.Test.YtgedfopkiebjkaaGreatDoorAm5
import Derived.Test.YtgedfopkiebjkaaGreatDoorCards
import Derived.Test.YtgedfopkiebjkaaGreatDoorTie
import Derived.ProofKit
import Derived.OpenShut
import Derived.Lay
import Derived.Deep.DeepHandedRow
import Derived.Deep.DeepWitnessRowRef
import Derived.Lib.LaidTab
import Derived.SevenTiedAt
import Derived.Test.YtgedfopkiebjkaaGreatDoorDb1
set_option linter.unusedSimpArgs false
set_option linter.unusedVariables false
set_option maxRecDepth 20000
namespace Go.Proofs.YtgedfopkiebjkaaGreatDoor
open Go.Am
theorem Xi{d:Dbs}(hv:okD d=true):BndD d:=by
 have h:=(yw d).1 hv;refine⟨by omega,by omega,fun p hp s hs=> ?_⟩;obtain⟨vh,vb⟩:=xc hv p hp s hs
 grind [valid_size]
theorem xA{α:Type}{l:List α}{i:Nat}{x:α}(h:l[i]? =some x):l=l.take i++x::l.drop (i+1):=by
 grind [jS,ZY]
theorem gS{α:Type}{l:List α}{i:Nat}{x:α}(h:l[i]? =some x)(y:α):l.set i y=l.take i++y::l.drop (i+1):=by
 grind [List.set_eq_take_append_cons_drop]
theorem qo(A B:List Prc):totD (A++B)=totD A+totD B:=by simp[totD]
theorem qp(p:Prc)(B:List Prc):totD (p::B)=p.cls.length+totD B:=by simp[totD]
theorem gT{l:List Prc}{i:Nat}{p:Prc}(h:l[i]? =some p)(q:Prc):totD (l.set i q)+p.cls.length=totD l+q.cls.length:=by
 have e:totD l=totD (l.take i++p::l.drop (i+1)):=by grind [xA]
 grind [gS,qo,qp]
theorem NO{l m:List Prc}(h:∀x∈l,x∈m){y:Int}(hy:y∈ids l):y∈ids m:=by
 grind [mem_ids]
theorem VO{n:Int}{p q:Prc}{s:Sto}(h:okS n p s)(h1:p.name=q.name)(h2:p.ar=q.ar):okS n q s:=by
 obtain⟨a,b,c,d,e⟩:=h;exact⟨a,b,c,by grind,by grind⟩
theorem gU{n n':Int}{l:List Prc}{i:Nat}{p q:Prc}(h:OkP n l)(hp:l[i]? =some p)(hn:q.name=p.name)(ha:q.ar=p.ar)(hle:n<=n')(hnd:(q.cls.map (·.id)).Nodup)(hfr:∀s∈q.cls,s∈p.cls\/s.id ∉ ids l)(hok:∀s∈q.cls,okS n' q s):OkP n' (l.set i q):=by
 rw[gS hp];rw[xA hp] at h;obtain⟨g1,g2,g3,g4,g5,g6,g7⟩:=(QR ..).1 h;refine(QR ..).2 ⟨g1.mono hle,?_,fun a ha'=> ?_,fun b hb=> ?_,hnd,fun s hs=> ?_,hok⟩
 ·grind [namB]
 ·grind [Jv]
 ·grind [Jv]
 grind [NO]
theorem gW{n n':Int}{l:List Prc}{q:Prc}(h:OkP n l)(hf:fnD l (keyP q.name q.ar)=false)(hnm:namB q=true)(hle:n<=n')(hnd:(q.cls.map (·.id)).Nodup)(hfr:∀s∈q.cls,s.id ∉ ids l)(hok:∀s∈q.cls,okS n' q s):OkP n' (l.take (lbD l (keyP q.name q.ar))++q::l.drop (lbD l (keyP q.name q.ar))):=by
 obtain⟨c1,c2⟩:=NM (keyP q.name q.ar) h.2.1;have ht:l.take (lbD l (keyP q.name q.ar))++l.drop (lbD l (keyP q.name q.ar))=l:=ZY _ _;refine(QR ..).2 ⟨by rw[ht];exact h.mono hle,hnm,fun a ha=> ?_,fun b hb=> ?_,hnd,fun s hs=>by grind,hok⟩
 ·grind [Jv,keyP]
 ·rw[Jv (p:=q) (p':=keyP q.name q.ar) rfl rfl rfl rfl];refine NL (c2 b hb) fun e=> ?_;rw[(VN _ h.2.1).2 ⟨b,List.mem_of_mem_drop hb,e⟩] at hf;cases hf
theorem VP{d:Dbs}(hv:okD d=true){s:List UInt8}{a:Int}(hf:fnD d.procs (keyP s a)=true):∃p,d.procs[lbD d.procs (keyP s a)]? =some p/\p.name=s/\p.ar=a/\Y3 d s a=some p:=by
 grind [Ju,Y3,gQ]
theorem NP{d:Dbs}{s:List UInt8}{a:Int}{b:Bool}(h:(Y8 d s a b).2=0):okD (Y8 d s a b).1=true/\(Y8 d s a b).1.next=d.next:=by
 by_cases hbad:okD d=false\/namB (keyP s a)=false
 ·grind [Y8]
 have hv:okD d=true:=by grind
 have hnm:namB (keyP s a)=true:=by grind
 obtain⟨d1,d2,d3,d4,d5⟩:=(yw d).1 hv;cases hf:fnD d.procs (keyP s a) with
 |true=>
  obtain⟨p,hpp,rfl,rfl,hfd⟩:=VP hv hf;have e:Y8 d p.name p.ar b=(⟨d.next,d.procs.set (lbD d.procs (keyP p.name p.ar)) (dynP p b)⟩,0):=by grind [Y8]
  rw[e];refine⟨?_,rfl⟩
  ·have ht:=gT hpp (dynP p b);have hq:(dynP p b).cls=p.cls:=rfl;rw[hq] at ht;have hpm:=Zh hpp;have d5':=d5;rw[xA hpp] at d5';refine(yw _).2 ⟨d1,d2,by grind,by grind,gU d5 hpp rfl rfl (Int.le_refl _) ((QR ..).1 d5').2.2.2.2.1 (fun s hs=>.inl hs) fun s hs=>VO (d5.2.2.2 p hpm s hs) rfl rfl⟩
 |false=>
  by_cases hl:d.procs.length=500
  ·grind [Y8]
  have e:Y8 d s a b=(⟨d.next,d.procs.take (lbD d.procs (keyP s a))++(⟨s,a,b,[]⟩:Prc)::d.procs.drop (lbD d.procs (keyP s a))⟩,0):=by grind [Y8]
  rw[e];refine⟨?_,rfl⟩
  ·have hlb:=Jr d.procs (keyP s a);refine(yw _).2 ⟨d1,d2,?_,?_,gW (q:=⟨s,a,b,[]⟩) d5 hf hnm (Int.le_refl _) List.nodup_nil (fun s hs=>by cases hs) fun s hs=>by cases hs⟩
   ·grind
   grind [ZY,qo,qp]
theorem NQ(d:Dbs)(s:List UInt8)(a:Int)(b:Bool):(Y8 d s a b).2=0\/(Y8 d s a b).2=1\/(Y8 d s a b).2=13:=by
 grind [Y8]
end Go.Proofs.YtgedfopkiebjkaaGreatDoor
namespace Go.Proofs.YtgedfopkiebjkaaGreatDoor
open Go.Am Go.ChangeShapes Go.WideShapes Go.ChangeAt Go.RowKit
theorem NR{n:Nat}{p:PV}(h:wt Tryz.prog n 39 p):∃x:Cz,p=x.pv:=by
 obtain⟨m,l,rfl,h'⟩:=jE (ts:=[27,27]) (by kernel_rfl) h;obtain⟨a,l,rfl,ha,h⟩:=X8 h';obtain⟨b,l,rfl,hb,h⟩:=X8 h;obtain rfl:=jF h;obtain⟨x,rfl,_⟩:=(Vn Vx m).1 a ha;obtain⟨y,rfl,_⟩:=(Vn Vx m).1 b hb;refine⟨⟨x,y⟩,?_⟩;rw[show shOf Tryz.prog 27=some 4 from by kernel_rfl];rfl
theorem NS{n:Nat}{p:PV}(h:wt Tryz.prog n 49 p):∃x:Sto,p=x.pv:=by
 obtain⟨m,l,rfl,h'⟩:=jE (ts:=[2,39]) (by kernel_rfl) h;obtain⟨a,l,rfl,ha,h⟩:=X8 h';obtain⟨b,l,rfl,hb,h⟩:=X8 h;obtain rfl:=jF h;obtain⟨x,rfl,_⟩:=Vp (by kernel_rfl) ha;obtain⟨y,rfl⟩:=NR hb;refine⟨⟨x,y⟩,?_⟩;rw[show shOf Tryz.prog 2=none from by kernel_rfl,show shOf Tryz.prog 39=some 8 from by kernel_rfl];rfl
theorem NT{n:Nat}{p:PV}(h:wt Tryz.prog n 45 p):∃x:Prc,p=x.pv:=by
 obtain⟨m,l,rfl,h'⟩:=jE (ts:=[9,3,4,43]) (by kernel_rfl) h;obtain⟨a,l,rfl,ha,h⟩:=X8 h';obtain⟨b,l,rfl,hb,h⟩:=X8 h;obtain⟨c,l,rfl,hc,h⟩:=X8 h;obtain⟨d,l,rfl,hd,h⟩:=X8 h;obtain rfl:=jF h;obtain⟨x,rfl⟩:=mt (by kernel_rfl) ha;obtain⟨y,rfl,_⟩:=Vp (by kernel_rfl) hb;obtain⟨z,rfl⟩:=mw (by kernel_rfl) hc;obtain⟨k,es,rfl,he⟩:=GR (e:=49) (by kernel_rfl) hd;obtain⟨gs,rfl,_⟩:=Vq (f:=Sto.pv) (Q:=fun _=>True) es fun x hx=>by
  obtain⟨g,rfl⟩:=NS (he x hx);exact⟨g,rfl,trivial⟩
 refine⟨⟨x,y,z,gs⟩,?_⟩;rw[show shOf Tryz.prog 9=none from by kernel_rfl,show shOf Tryz.prog 3=none from by kernel_rfl,show shOf Tryz.prog 4=none from by kernel_rfl,show shOf Tryz.prog 43=none from by kernel_rfl,show shOf Tryz.prog 49=some 9 from by kernel_rfl];rfl
theorem NU{n:Nat}{p:PV}(h:wt Tryz.prog n 24 p):∃x:Dbs,p=x.pv:=by
 obtain⟨m,l,rfl,h'⟩:=jE (ts:=[2,22]) (by kernel_rfl) h;obtain⟨a,l,rfl,ha,h⟩:=X8 h';obtain⟨b,l,rfl,hb,h⟩:=X8 h;obtain rfl:=jF h;obtain⟨x,rfl,_⟩:=Vp (by kernel_rfl) ha;obtain⟨k,es,rfl,he⟩:=GR (e:=45) (by kernel_rfl) hb;obtain⟨gs,rfl,_⟩:=Vq (f:=Prc.pv) (Q:=fun _=>True) es fun x hx=>by
  obtain⟨g,rfl⟩:=NT (he x hx);exact⟨g,rfl,trivial⟩
 refine⟨⟨x,gs⟩,?_⟩;rw[show shOf Tryz.prog 2=none from by kernel_rfl,show shOf Tryz.prog 22=none from by kernel_rfl,show shOf Tryz.prog 45=some 4 from by kernel_rfl];rfl
theorem NV(c:Cz):c.head.size<=c.pv.sz/\c.body.size<=c.pv.sz:=by
 have h1:=Tm.zA5 c.head;have h2:=Tm.zA5 c.body;simp[Cz.pv,PV.sz,PV.szc];omega
theorem NW(s:Sto):s.cl.pv.sz<=s.pv.sz:=by
 simp[Sto.pv,PV.sz,PV.szc];omega
theorem VQ:∀l:List Sto,l.length<=PV.szs (Sto.pvs l)/\∀s∈l,s.pv.sz<=PV.szs (Sto.pvs l)
 |[]=>⟨Za _,fun b hb=>by cases hb⟩
 |x::r=>by
  obtain⟨h1,h2⟩:=VQ r;have h4:PV.szs (Sto.pvs (x::r))=x.pv.sz+PV.szs (Sto.pvs r):=by simp[Sto.pvs,PV.szs]
  have h5:1<=x.pv.sz:=by simp[Sto.pv,PV.sz];try omega
  refine⟨by simp only[Z5];omega,fun b hb=> ?_⟩;rcases Zy.1 hb with rfl|hb
  ·omega
  ·have:=h2 b hb;omega
theorem gX(p:Prc):PV.szs (Sto.pvs p.cls)+1<=p.pv.sz:=by
 simp[Prc.pv,PV.sz,PV.szc];omega
theorem gY:∀l:List Prc,l.length<=PV.szs (Prc.pvs l)/\totD l<=PV.szs (Prc.pvs l)/\∀p∈l,p.pv.sz<=PV.szs (Prc.pvs l)
 |[]=>⟨Za _,Za _,fun b hb=>by cases hb⟩
 |x::r=>by
  obtain⟨h1,h2,h3⟩:=gY r;have h4:PV.szs (Prc.pvs (x::r))=x.pv.sz+PV.szs (Prc.pvs r):=by simp[Prc.pvs,PV.szs]
  have h5:=gX x;have h6:=(VQ x.cls).1;have h7:totD (x::r)=x.cls.length+totD r:=by simp[totD]
  refine⟨by simp only[Z5];omega,by omega,fun b hb=> ?_⟩;rcases Zy.1 hb with rfl|hb
  ·omega
  ·have:=h3 b hb;omega
theorem NX{d:Dbs}(h:d.pv.sz<=1048576):BndD d:=by
 have h0:PV.szs (Prc.pvs d.procs)<=d.pv.sz:=by
  simp[Dbs.pv,PV.sz,PV.szc];omega
 obtain⟨h1,h2,h3⟩:=gY d.procs;refine⟨by omega,by omega,fun p hp s hs=> ?_⟩;have g1:=h3 p hp;have g2:=gX p;have g3:=(VQ p.cls).2 s hs;have g4:=NW s;have g5:=NV s.cl;omega
set_option maxRecDepth 100000 in
theorem NY{H:Type}{enc:TypeId × Value->H}{W:World}{base:Nat}{v:Value}{d:DataW H}{ps:List MemPlace}(h:DataW.Trod enc Tryz.prog W 0 (fun _=>true) true 24 v d ps)(hv:Value.okWide Tryz.prog W .any base 24 v):
  ∃f:Dbs,AR W (noX (P:=Tryz.prog)) noμ [] f.av v/\f.pv.sz<=Rows.uptoBulk d:=by
 obtain⟨n,p,h1,h2,h3⟩:=mQ (by decide) (by kernel_rfl) h hv;obtain⟨f,rfl⟩:=NU h2;rw[show shOf Tryz.prog 24=some 2 from by kernel_rfl] at h1;exact⟨f,h1,h3⟩
end Go.Proofs.YtgedfopkiebjkaaGreatDoor
namespace Go.Proofs.YtgedfopkiebjkaaGreatDoor
open Go.Am Go.ChangeShapes Go.WideShapes Go.ChangeAt Go.RowKit
def jU:List (String × DataW Unit):=[("unicode.White_Space",Rows.laid_unicode_White_Space),("strings.asciiSpace",Rows.laid_strings_asciiSpace)]
noncomputable def VR(os:Os):World:=World.laidAll Tryz.prog os jU
theorem NZ(os:Os)(args:Array Value):laidMet Tryz.prog jU ((VR os).forCall (fun _ _=>0) ⟨#[],args,[]⟩).memory:=laidMet_laidAll args (by kernel_rfl) (by kernel_rfl)
theorem gTab:Tryz.prog.globalNamed "strings.asciiSpace" =some 0:=by kernel_rfl
theorem gTabType:(Tryz.prog.globals[0]?).map (·.type)=some 125:=by kernel_rfl
theorem N0:Tryz.prog.cellsOf 125=256:=by kernel_rfl
theorem N1:Tryz.prog.cellsOf 5=1:=by kernel_rfl
theorem N2:Rows.laid_strings_asciiSpace (H:=Unit)=Lib.tabData .u8 Lib.asciiSpaceTab:=by kernel_rfl
theorem N3{W:World}(h:laidMetH Tryz.prog jU W):TabR Tryz.prog W fun _=>True:=by
 have h0:laidMet Tryz.prog jU W:=h;obtain⟨ps,⟨g1,t1,cs1,fuel1,p1,q1,_,_,_,_,⟨g,t,cs,fuel,p,q,hg,ht,hvar,hd,_,_⟩,_⟩,_⟩:=h0;obtain rfl:=Option.some.inj (gTab.symm.trans hg);obtain rfl:=Option.some.inj (gTabType.symm.trans ht);rw[N2] at hd;have hcs:=Lib.cells_of_tab Tryz.underlying125 Tryz.underlying5 N1 N0 hd;refine mh (fun _=>trivial) fun g' hg'=> ?_;obtain rfl:=Option.some.inj (gTab.symm.trans hg');unfold World.var? at hvar;rw[gTab] at hvar;simp only[Option.bind_some] at hvar;split at hvar
 ·rename_i c t fr hb;cases hvar;refine⟨t,fr,?_⟩;rw[hb,<-hcs]
 ·cases hvar
def arg0(t:Tm):Tm:=match t.args with
 |x::_=>x
 |_=>.mk 0 0 [] []
def arg1(t:Tm):Tm:=match t.args with
 |_::y::_=>y
 |_=>.mk 0 0 [] []
theorem args_two{t:Tm}(h:t.args.length=2):t.args=[arg0 t,arg1 t]:=by
 unfold arg0 arg1
 match e:t.args,h with
 |[x,y],_=>rfl
theorem jV{t:Tm}(h:t.args.length=2):t.args[0]? =some (arg0 t):=by grind [args_two]
theorem jW{t:Tm}(h:t.args.length=2):t.args[1]? =some (arg1 t):=by grind [args_two]
theorem jX{t:Tm}(h:t.args.length=2):arg0 t∈t.args:=Zh (jV h)
theorem xd{t:Tm}(h:t.args.length=2):arg1 t∈t.args:=Zh (jW h)
def nilT:Tm:=.mk 2 0 [91,93] []
theorem fit9{t:Tm}(h:t.valid=true):t.size<1000000000:=by grind [valid_size]
theorem ia0{es:List PV}{p:PV}(h:es[0]? =some p):zX (some 4) [.pv none (.sl (some 4) es),P4 0]=some (.iptr (some 4) p 0):=mr h
theorem ia1{es:List PV}{p:PV}(h:es[1]? =some p):zX (some 4) [.pv none (.sl (some 4) es),P4 1]=some (.iptr (some 4) p 0):=by
 simp[zX,aindex,h]
def zg(q:Nat):AV:=.agg [(none,P4 0),(none,P4 0),(none,P6 []),(none,.sl (some 4) q 0 0 0)]
theorem xB:∀t:Tm,PV.beq t.pv t.pv=true:=by
 intro t
 induction t using Tm.zAH with
 |h t ih=>
  cases t with
  |mk k n s ts=>
   have:∀l:List Tm,(∀u∈l,PV.beq u.pv u.pv=true)->PV.beqs (Tm.pvs l) (Tm.pvs l)=true:=by
    intro l
    induction l with
    |nil=>intro _;rfl
    |cons x r ihr=>grind [Tm.pvs,PV.beqs]
   simp[Tm.pv,PV.beq,PV.beqc,this ts ih]
def cs(t:Tm):Prop:=t.kind=3/\t.name=[46]/\t.args.length=2
instance (t:Tm):Decidable (cs t):=inferInstanceAs (Decidable (_/\_))
def tl(t:Tm):Tm:=if h:cs t then tl (arg1 t) else t
termination_by t.size
decreasing_by exact Tm.zAI (xd h.2.2)
def els(t:Tm):List Tm:=if h:cs t then arg0 t::els (arg1 t) else[]
termination_by t.size
decreasing_by exact Tm.zAI (xd h.2.2)
theorem tl_c{t:Tm}(h:cs t):tl t=tl (arg1 t):=by grind [tl]
theorem tl_n{t:Tm}(h:¬cs t):tl t=t:=by grind [tl]
theorem VS{t:Tm}(h:cs t):els t=arg0 t::els (arg1 t):=by grind [els]
theorem VT{t:Tm}(h:¬cs t):els t=[]:=by grind [els]
theorem gZ:∀(n:Nat) (t:Tm),t.size=n->(els t).length<=t.size:=by
 intro n
 induction n using Nat.strongRecOn with
 |_ n ih=>
  intro t hn;by_cases h:cs t
  ·have h3:=Tm.zAI (xd h.2.2)
   grind [VS]
  grind [VT]
theorem N4:∀(n:Nat) (t:Tm),t.size=n->t.valid=true->(tl t).valid=true:=by
 intro n
 induction n using Nat.strongRecOn with
 |_ n ih=>
  grind [cs,tl_c,Tm.zAI,xd,YS,tl_n]
def eE(t:Tm):Heap:=[.box (some 4) (.pv (some 4) (tl t).pv),.arr (some 4) [] false,.box (some 4) (.pv (some 4) (tl t).pv),.arr (some 4) [] false,.arr (some 4) (Tm.pvs (els t)) false]
theorem P3:∀H:Heap,YM (some 4) H=some (.sl (some 4) H.length 0 0 0,H++[.arr (some 4) [] false]):=fun H=>Xo (sh:=some 4) (by decide)
theorem N5(t:Tm)(hv:t.valid=true)(hp:Heap):S 137 [t.av] hp=some (.ret (.tuple [.sl (some 4) (hp.length+4) (els t).length 0 (els t).length,(tl t).av]),hp++eE t):=by
 refine Yj rfl rfl rfl rfl ?_;have hz:=valid_size hv;have hlen:=gZ _ t rfl;have h1:=fun hp=>YR t hp (by omega);have hn0:=P3;simp only[Tm.av] at h1;simp -dsimp -implicitDefEqProofs only[go_sem,seval,Tm.av,h1,hv,hn0];refine XH (fun n st=>∃(t1:Tm) (d:List Tm),n=t1.size/\t1.valid=true/\d++els t1=els t/\tl t1=tl t/\st=⟨[(1,.ptr hp.length 0),(3,.ptr (hp.length+2) 0),(4,.sl (some 4) (hp.length+4) d.length 0 d.length)],hp++[.box (some 4) (.pv (some 4) t1.pv),.arr (some 4) [] false,.box (some 4) (zg (hp.length+3)),.arr (some 4) [] false,.arr (some 4) (Tm.pvs d) false]⟩) (n:=t.size) ⟨t,[],rfl,hv,rfl,rfl,rfl⟩ ?_;rintro n st ⟨t1,d,rfl,hv1,he,ht,rfl⟩;have hdl:=congrArg List.length he;rw[zi] at hdl;by_cases h:cs t1
 ·have hlt:=Tm.zAI (xd h.2.2);have v0:=YS hv1 (jX h.2.2);have v1:=YS hv1 (xd h.2.2);have hcp:=fun hp=>Xg (arg0 t1) hp v0 (fit9 v0);have hlim:d.length+1<=lim:=by grind [lim]
  have hpl:=Tm.pvs_len d;have k1:=Zi h.1;have k2:=Zi h.2.1;have k3:=Zi (show(t1.args.length:Int)=2 by have:=h.2.2;omega);rw[VS h] at he;simp only[Tm.av] at hcp;have hap:∀(x0 x1 x2 x3:AObj) (p:PV),z8 (some 4) (hp++[x0,x1,x2,x3,.arr (some 4) (Tm.pvs d) false]) [.sl (some 4) (hp.length+4) d.length 0 d.length,.tsl (some 4) [p]]=some (.sl (some 4) (hp.length+4) (d.length+1) 0 (d.length+1),hp++[x0,x1,x2,x3,.arr (some 4) (Tm.pvs d++[p]) false]):=fun x0 x1 x2 x3 p=>by
   simp_all[z8,aappend,elems]
  simp -dsimp -implicitDefEqProofs only[go_sem,seval,zg,zJ,zN,zL,Tm.pvs_len,k1,k2,k3,hcp,ia0 (Tm.pvs_get (jV h.2.2)),ia1 (Tm.pvs_get (jW h.2.2)),hpl,hlim,hap];refine⟨_,hlt,arg1 t1,d++[arg0 t1],rfl,v1,by grind,by grind [tl_c],?_⟩;rw[Tm.zAN,zi,GT (by grind)];rfl
 ·have hcp:=fun hp=>Xg t1 hp hv1 (fit9 hv1);rw[VT h,ZL] at he;rw[tl_n h] at ht;simp only[Tm.av] at hcp;unfold eE;rw[<-he,<-ht];have e2:∀(H:Heap) (v:AV),H[hp.length+2]? =some (.box (some 4) v)->Yn ⟨[(2,.sl (some 4) (hp.length+4) d.length 0 d.length),(3,.ptr (hp.length+2) 0)],H⟩ (3,some (some 4))=some v:=fun H v h=>by
   grind [jA,Fr.look,aload]
  by_cases k1:t1.kind=3
  ·have k1':=Zi k1;by_cases k2:t1.name=[46]
   ·have k2':=Zi k2;have k3':=Zg (show ¬(t1.args.length:Int)=2 by
     intro e;exact h ⟨k1,k2,by omega⟩)
    simp -dsimp -implicitDefEqProofs only[go_sem,seval,zg,zJ,zN,zL,Tm.pvs_len,k1',k2',k3',hcp];rw[Zb (by grind [AV.refsIn,AV.refsIn.gol])];rw[e2 _ _ ((YJ hp _ 2).trans rfl)];exact⟨rfl,rfl⟩
   ·have k2':=Zg k2;simp -dsimp -implicitDefEqProofs only[go_sem,seval,zg,zJ,zN,zL,Tm.pvs_len,k1',k2',hcp];rw[Zb (by grind [AV.refsIn,AV.refsIn.gol])];rw[e2 _ _ ((YJ hp _ 2).trans rfl)];exact⟨rfl,rfl⟩
  ·have k1':=Zg k1;simp -dsimp -implicitDefEqProofs only[go_sem,seval,zg,zJ,zN,zL,Tm.pvs_len,k1',hcp];rw[Zb (by grind [AV.refsIn,AV.refsIn.gol])];rw[e2 _ _ ((YJ hp _ 2).trans rfl)];exact⟨rfl,rfl⟩
def zO(nm:List UInt8):Tm:=.mk 2 0 nm []
def strT(nm:List UInt8)(l:List Tm):Tm:=.mk 3 0 nm l
theorem Qf{nm:List UInt8}(h:nm.length<=100):(zO nm).valid=true:=by
 have:(nm.length:Int)<=100:=by omega
 refine QN ?_ (by have:(zO nm).size=1:=rfl;omega)
 grind [zO,Tm.fits,Tm.fitsAll,Tm.node,Tm.kind,Tm.n,Tm.name,Tm.args]
theorem xe{nm:List UInt8}{l:List Tm}(h:nm.length<=100)(h1:0<l.length)(h2:l.length<=8)(hl:Tm.fitsAll l=true):(strT nm l).fits=true:=by
 grind [strT,Tm.fits,Tm.node,Tm.kind,Tm.n,Tm.name,Tm.args]
theorem xf(nm:List UInt8)(h:nm.length<=100)(hp:Heap):S 45 [P6 nm] hp=some (.ret (zO nm).av,hp):=by
 refine zM rfl rfl rfl (zK [(none,.str nm)]) rfl ?_;have hv:=Qf h;have hb:zQ A0 [0,2] [P4 2,P6 nm]=some (.agg [(none,P4 2),(none,P4 0),(none,P6 nm),(none,.tsl (some 4) [])]):=rfl;have hcl:∀H:Heap,S 41 [.agg [(none,P4 2),(none,P4 0),(none,P6 nm),(none,.tsl (some 4) [])]] H=some (.ret (zO nm).av,H):=fun H=>
  X7 (F:=find tab) (prim:=prim) (f:=41) (args:=[.agg [(none,P4 2),(none,P4 0),(none,P6 nm),(none,.tsl (some 4) [])]]) (ps:=[(some 4,(zO nm).pv)]) (hp:=H) (hp1:=H) rfl rfl rfl rfl (Xg (zO nm) [] hv (fit9 hv))
 simp only[Tm.av] at hcl;simp -dsimp -implicitDefEqProofs only[go_sem,seval,Tm.av,hb,hcl]
 try rfl
theorem jY(nm:List UInt8)(l:List Tm)(h1:0<l.length)(hv:(strT nm l).valid=true)(hp:Heap):S 126 [P6 nm,.pv none (.sl (some 4) (Tm.pvs l))] hp=some (.ret (strT nm l).av,hp):=by
 refine zM rfl rfl rfl (zK [(none,.str nm),(none,.sl (some 4) (Tm.pvs l))]) rfl ?_;have hb:zQ A0 [0,2,3] [P4 3,P6 nm,.pv none (.sl (some 4) (Tm.pvs l))]=some (.pv (some 4) (strT nm l).pv):=rfl;have hcl:=fun hp=>Xg (strT nm l) hp hv (fit9 hv);have hne:=Zg (show ¬(l.length:Int)=0 by omega);simp only[Tm.av] at hcl;simp -dsimp -implicitDefEqProofs only[go_sem,seval,Tm.av,hb,hcl,Tm.pvs_len,hne]
 try rfl
theorem xg{f:FuncId}{fn:AFn}{ps:List (Sh × PV)}{args:List AV}{t:Tm}{hp hp1:Heap}(hp0:prim f=none)(hf:find tab f=some fn)(hm:fn.heapMode=false)(hz:zZ args hp=some (ps,hp1))(hr:fn.rcv=none)(h:S f (pvs ps) []=some (.ret t.av,[])):S f args hp=some (.ret t.av,hp1):=by
 have h:=X7 (F:=find tab) (prim:=prim) (f:=f) (args:=args) (ps:=ps) (hp:=hp) (hp1:=hp1) hp0 hf hm hz h hr;have hs:∀t:Tm,t.av.scalar=false:=fun t=>by cases t;rfl
 grind
def errN:List UInt8:=[101,114,114,111,114]
def errT(f:Tm):Tm:=strT errN [f,nilT]
theorem VU(fn:List UInt8)(l:List Tm)(h1:0<l.length)(hv1:(strT fn l).valid=true)(hv2:(errT (strT fn l)).valid=true)(hp:Heap):S 87 [P6 fn,.pv none (.sl (some 4) (Tm.pvs l))] hp=some (.ret (errT (strT fn l)).av,hp):=by
 refine zM rfl rfl rfl (zK [(none,.str fn),(none,.sl (some 4) (Tm.pvs l))]) rfl ?_;have ha:=jY fn l h1 hv1;have hb:=xf [91,93] (by decide);have hc:∀H:Heap,S 126 [P6 errN,.tsl (some 4) [(strT fn l).pv,nilT.pv]] H=some (.ret (errT (strT fn l)).av,H):=fun H=>
  xg (ps:=[(none,.str errN),(none,.sl (some 4) (Tm.pvs [strT fn l,nilT]))]) rfl rfl rfl rfl rfl (jY errN [strT fn l,nilT] (by simp) hv2 [])
 have e:zO [91,93]=nilT:=rfl;rw[e] at hb;simp only[Tm.av] at ha hb hc;generalize strT fn l=F at*;simp only[errN] at hc;simp -dsimp -implicitDefEqProofs only[go_sem,seval,Tm.av,ha,hb,hc]
 try rfl
def tyN:List UInt8:=[116,121,112,101,95,101,114,114,111,114]
def cul(t:Tm):Tm:=if 2000<t.size+4 then zO [46,46,46] else t
def typT(nm:List UInt8)(t:Tm):Tm:=errT (strT tyN [zO nm,cul t])
theorem N6{t:Tm}(hv:t.valid=true):(cul t).valid=true/\(cul t).size+4<=2000:=by
 unfold cul;split
 ·exact⟨Qf (by decide),by have:(zO [46,46,46]).size=1:=rfl;omega⟩
 grind
theorem jZ{nm:List UInt8}(hn:nm.length<=100){t:Tm}(hv:t.valid=true):(strT tyN [zO nm,cul t]).valid=true/\(typT nm t).valid=true:=by
 obtain⟨h1,h2⟩:=N6 hv;have h3:=Qf hn;have f1:(strT tyN [zO nm,cul t]).fits=true:=xe (by decide) (by simp) (by simp) (by grind [Tm.fitsAll,valid_fits]);have s1:(strT tyN [zO nm,cul t]).size=1+(1+((cul t).size+0)):=by rw[Tm.size_eq];rfl
 have f2:(typT nm t).fits=true:=xe (by decide) (by simp) (by simp) (by simp[Tm.fitsAll,f1];decide);have s2:(typT nm t).size=1+((strT tyN [zO nm,cul t]).size+(1+0)):=by
  show(errT _).size=_;rw[Tm.size_eq];rfl
 grind [QN]
theorem N7(nm:List UInt8)(hn:nm.length<=100)(t:Tm)(hv:t.valid=true)(hp:Heap):S 88 [t.av,P6 tyN,.pv none (.sl none [.str nm])] hp=some (.ret (typT nm t).av,hp):=by
 refine zM rfl rfl rfl (zK [(some 4,t.pv),(none,.str tyN),(none,.sl none [.str nm])]) rfl ?_;have hz:=valid_size hv;have h1:=fun hp=>YR t hp (by omega);have h2:=fun hp=>qg t hp (by omega);have h3:=xf nm hn;have h4:=xf [46,46,46] (by decide);obtain⟨v1,v2⟩:=jZ hn hv;have hn0:=P3;have hmin:min t.size 2001=t.size:=by omega
 rw[hmin] at h2;have hsl:=Zg (show ¬(100:Int)<(nm.length:Int) by omega);have hia:zX none [.pv none (.sl none [.str nm]),P4 0]=some (.iptr none (.str nm) 0):=rfl;have w1:IntKind.i64.wrap 4=4:=by decide
 have w2:IntKind.i64.wrap ((4:Int)+(t.size:Int))=4+(t.size:Int):=zU (by omega) (by omega);have w3:IntKind.i64.wrap 1=1:=by decide
 have hp0:Tm.pvs []=[]:=rfl;have hra:∀(a0 a1 a2:AObj),S 87 [P6 tyN,.sl (some 4) 3 2 0 2] [a0,a1,a2,.arr (some 4) [(zO nm).pv,(cul t).pv] false]=some (.ret (typT nm t).av,[a0,a1,a2,.arr (some 4) [(zO nm).pv,(cul t).pv] true]):=fun a0 a1 a2=>
  xg (ps:=[(none,.str tyN),(none,.sl (some 4) (Tm.pvs [zO nm,cul t]))]) rfl rfl rfl rfl rfl (VU tyN [zO nm,cul t] (by simp) v1 v2 [])
 have hl1:(1:Nat)+1<=lim:=by grind [lim]
 have hl0:(0:Nat)+1<=lim:=by grind
 simp only[Tm.av] at h1 h2 h3 h4 hra;simp -dsimp -implicitDefEqProofs only[go_sem,seval,Tm.av,h1,hv,hn0];refine Yp (α:=Unit) 1 (fun _ _=>True) (fun i _=>⟨[(1,P6 tyN),(2,.pv none (.sl none [.str nm])),(3,.ptr 0 0),(6,.ptr 1 0),(7,.sl (some 4) 3 i 0 i),(14,.pv none (.sl none [.str nm])),(15,P4 1),(16,P4 i)],[.box (some 4) (.pv (some 4) t.pv),.box (some 4) (zg 2),.arr (some 4) [] false,.arr (some 4) (Tm.pvs ([zO nm].take i)) false]⟩) () ⟨trivial,rfl⟩ ?_ ?_
 ·rintro i - hi -;have:i=0:=by omega
  subst this;have hc:(0:Int)<(1:Int):=by omega
  have hap:∀a0 a1 a2:AObj,z8 (some 4) [a0,a1,a2,.arr (some 4) [] false] [.sl (some 4) 3 0 0 0,.tsl (some 4) [(zO nm).pv]]=some (.sl (some 4) 3 1 0 1,[a0,a1,a2,.arr (some 4) [(zO nm).pv] false]):=fun _ _ _=>rfl;have htk:Tm.pvs ([zO nm].take 0)=[]:=rfl;have htk1:Tm.pvs ([zO nm].take 1)=[(zO nm).pv]:=rfl;generalize (zO nm).pv=X at*;simp -dsimp -implicitDefEqProofs only[go_sem,seval,zg,htk,hp0,hc,hia,hsl,h3,hap,w3];exact⟨(),by rw[htk1];rfl⟩
 ·rintro - -;have hc:¬(1:Int)<(1:Int):=by omega
  have htk:Tm.pvs ([zO nm].take 1)=[(zO nm).pv]:=rfl;by_cases hbig:(2000:Int)<4+(t.size:Int)
  ·have hcu:cul t=zO [46,46,46]:=by grind [cul]
   have hap:∀(a0 a1 a2:AObj),z8 (some 4) [a0,a1,a2,.arr (some 4) [(zO nm).pv] false] [.sl (some 4) 3 1 0 1,.tsl (some 4) [(zO [46,46,46]).pv]]=some (.sl (some 4) 3 2 0 2,[a0,a1,a2,.arr (some 4) [(zO nm).pv,(zO [46,46,46]).pv] false]):=fun _ _ _=>rfl;rw[hcu] at hra;generalize (zO [46,46,46]).pv=Y at*;generalize (zO nm).pv=X at*;simp -dsimp -implicitDefEqProofs only[go_sem,seval,zg,htk,hc,h2,w1,w2,hbig,h4,hap,hra];rfl
  ·have hcu:cul t=t:=by grind [cul]
   have hap:∀(a0 a1 a2:AObj),z8 (some 4) [a0,a1,a2,.arr (some 4) [(zO nm).pv] false] [.sl (some 4) 3 1 0 1,.tsl (some 4) [t.pv]]=some (.sl (some 4) 3 2 0 2,[a0,a1,a2,.arr (some 4) [(zO nm).pv,t.pv] false]):=fun _ _ _=>rfl;rw[hcu] at hra;generalize (zO nm).pv=X at*;simp -dsimp -implicitDefEqProofs only[go_sem,seval,zg,htk,hc,h2,w1,w2,hbig,hap,hra];rfl
theorem xC(nm:List UInt8)(hn:nm.length<=100)(t:Tm)(hv:t.valid=true)(hp:Heap):S 48 [P6 nm,t.av] hp=some (.ret (typT nm t).av,hp):=by
 refine zM rfl rfl rfl (zK [(none,.str nm),(some 4,t.pv)]) rfl ?_;have h1:∀H:Heap,S 88 [t.av,P6 tyN,.tsl none [.str nm]] H=some (.ret (typT nm t).av,H):=fun H=>xg (ps:=[(some 4,t.pv),(none,.str tyN),(none,.sl none [.str nm])]) rfl rfl rfl rfl rfl (N7 nm hn t hv []);simp only[Tm.av,tyN] at h1;simp -dsimp -implicitDefEqProofs only[go_sem,seval,Tm.av,h1]
 try rfl
def Xj:List UInt8:=[105,110,115,116,97,110,116,105,97,116,105,111,110,95,101,114,114,111,114]
def instT:Tm:=errT (zO Xj)
theorem VV:instT.valid=true:=by decide
theorem VW(hp:Heap):S 46 [] hp=some (.ret instT.av,hp):=by
 refine zM (ps:=[]) rfl rfl rfl rfl rfl ?_;have h0:∀H:Heap,S 126 [P6 Xj,.pv none (.sl (some 4) [])] H=some (.ret (zO Xj).av,H):=fun H=>by
  refine zM rfl rfl rfl (zK [(none,.str Xj),(none,.sl (some 4) [])]) rfl ?_;have ha:=xf Xj (by decide);simp only[Tm.av] at ha;simp -dsimp -implicitDefEqProofs only[go_sem,seval,Tm.av,ha]
  try rfl
 have h1:∀H:Heap,S 87 [P6 Xj,.tsl (some 4) []] H=some (.ret instT.av,H):=fun H=>xg (ps:=[(none,.str Xj),(none,.sl (some 4) [])]) rfl rfl rfl rfl rfl (by
  refine zM rfl rfl rfl (zK [(none,.str Xj),(none,.sl (some 4) [])]) rfl ?_;have hb:=xf [91,93] (by decide);have hc:∀H:Heap,S 126 [P6 errN,.tsl (some 4) [(zO Xj).pv,nilT.pv]] H=some (.ret instT.av,H):=fun H=>
   xg (ps:=[(none,.str errN),(none,.sl (some 4) (Tm.pvs [zO Xj,nilT]))]) rfl rfl rfl rfl rfl (jY errN [zO Xj,nilT] (by decide) VV [])
  have e:zO [91,93]=nilT:=rfl;rw[e] at hb;simp only[Tm.av,errN] at h0 hb hc;generalize (zO Xj).pv=X at*;simp -dsimp -implicitDefEqProofs only[go_sem,seval,Tm.av,h0,hb,hc]
  try rfl)
 simp only[Tm.av,Xj] at h1;simp -dsimp -implicitDefEqProofs only[go_sem,seval,Tm.av,h1]
 try rfl
def culk(k:Nat)(t:Tm):Tm:=if 2000<3+k+t.size then zO [46,46,46] else t
def gErr(fnm:List UInt8)(nms:List (List UInt8))(t:Tm):Tm:=strT fnm (nms.map zO++[culk nms.length t])
theorem Ba:∀(nms:List (List UInt8)) (l:List Tm),(∀x∈nms,x.length<=100)->Tm.fitsAll l=true->Tm.fitsAll (nms.map zO++l)=true
 |[],l,_,h=>h
 |x::r,l,h,hl=>by
  simp only[ZV,Zq,Tm.fitsAll,Zk];exact⟨valid_fits (Qf (h x (by simp))),Ba r l (fun y hy=>h y (by grind)) hl⟩
theorem Bb:∀(nms:List (List UInt8)) (t:Tm),Tm.sizes (nms.map zO++[t])=nms.length+(t.size+0)
 |[],t=>by simp[Tm.sizes]
 |x::r,t=>by
  have ih:=Bb r t;show(zO x).size+Tm.sizes (r.map zO++[t])=_;have:(zO x).size=1:=rfl
  grind
theorem Jw{fnm:List UInt8}{nms:List (List UInt8)}{t:Tm}(hf:fnm.length<=100)(hn:∀x∈nms,x.length<=100)(hl:nms.length<=3)(hv:t.valid=true):(gErr fnm nms t).valid=true/\(errT (gErr fnm nms t)).valid=true:=by
 have hc:(culk nms.length t).valid=true/\(culk nms.length t).size+nms.length+3<=2000:=by
  unfold culk;split
  ·exact⟨Qf (by decide),by have:(zO [46,46,46]).size=1:=rfl;omega⟩
  grind
 have f1:(gErr fnm nms t).fits=true:=xe hf (by simp) (by grind) (Ba nms _ hn (by grind [Tm.fitsAll,valid_fits]));have s1:(gErr fnm nms t).size=1+(nms.length+((culk nms.length t).size+0)):=by
  rw[Tm.size_eq,<-Bb];rfl
 have f2:(errT (gErr fnm nms t)).fits=true:=xe (by decide) (by simp) (by simp) (by simp[Tm.fitsAll,f1];decide);have s2:(errT (gErr fnm nms t)).size=1+((gErr fnm nms t).size+(1+0)):=by
  rw[Tm.size_eq];rfl
 grind [QN]
theorem Bc(fnm:List UInt8)(hf:fnm.length<=100)(nms:List (List UInt8))(hn:∀x∈nms,x.length<=100)(hl:nms.length<=3)(t:Tm)(hv:t.valid=true)(hp:Heap):S 88 [t.av,P6 fnm,.pv none (.sl none (nms.map .str))] hp=some (.ret (errT (gErr fnm nms t)).av,hp):=by
 refine zM rfl rfl rfl (zK [(some 4,t.pv),(none,.str fnm),(none,.sl none (nms.map .str))]) rfl ?_;have hz:=valid_size hv;have h1:=fun hp=>YR t hp (by omega);have h2:=fun hp=>qg t hp (by omega);have h4:=xf [46,46,46] (by decide);obtain⟨v1,v2⟩:=Jw hf hn hl hv;have hn0:=P3;have hmin:min t.size 2001=t.size:=by omega
 rw[hmin] at h2;have hsl:(nms.map PV.str).length=nms.length:=by simp
 have hra:∀(a0 a1 a2:AObj) (u:Tm),culk nms.length t=u->S 87 [P6 fnm,.sl (some 4) 3 (nms.length+1) 0 (nms.length+1)] [a0,a1,a2,.arr (some 4) (Tm.pvs (nms.map zO)++[u.pv]) false]=some (.ret (errT (gErr fnm nms t)).av,[a0,a1,a2,.arr (some 4) (Tm.pvs (nms.map zO)++[u.pv]) true]):=fun a0 a1 a2 u hu=>by
  subst hu;have e:Tm.pvs (nms.map zO)++[(culk nms.length t).pv]=Tm.pvs (nms.map zO++[culk nms.length t]):=by rw[Tm.zAN];rfl
  rw[e];refine xg (ps:=[(none,.str fnm),(none,.sl (some 4) (Tm.pvs (nms.map zO++[culk nms.length t])))]) rfl rfl rfl ?_ rfl (VU fnm (nms.map zO++[culk nms.length t]) (by simp) v1 v2 []);simp_all[Tm.pvs_len,zZ,AV.freeze,deep,AV.shp]
 have hnl:nms.length+1<=lim:=by grind [lim]
 have hal:(Tm.pvs (nms.map zO)).length=nms.length:=by grind [Tm.pvs_len]
 have w1:IntKind.i64.wrap (3+(nms.length:Int))=3+(nms.length:Int):=zU (by omega) (by omega);have w2:IntKind.i64.wrap (3+(nms.length:Int)+(t.size:Int))=3+(nms.length:Int)+(t.size:Int):=zU (by omega) (by omega);simp only[Tm.av] at h1 h2 h4 hra;simp -dsimp -implicitDefEqProofs only[go_sem,seval,Tm.av,h1,hv,hn0,hsl];refine Yp (α:=Unit) nms.length (fun _ _=>True) (fun i _=>⟨[(1,P6 fnm),(2,.pv none (.sl none (nms.map .str))),(3,.ptr 0 0),(6,.ptr 1 0),(7,.sl (some 4) 3 i 0 i),(14,.pv none (.sl none (nms.map .str))),(15,P4 nms.length),(16,P4 i)],[.box (some 4) (.pv (some 4) t.pv),.box (some 4) (zg 2),.arr (some 4) [] false,.arr (some 4) (Tm.pvs ((nms.map zO).take i)) false]⟩) () ⟨trivial,rfl⟩ ?_ ?_
 ·rintro i - hi -;have hc:(i:Int)<(nms.length:Int):=by omega
  obtain⟨nm,hnm⟩:∃nm,nms[i]? =some nm:=⟨_,Ze hi⟩;have hnl2:=hn nm (Zh hnm);have h3:=xf nm hnl2;have hsl2:=Zg (show ¬(100:Int)<(nm.length:Int) by omega);have hia:∀s k,zX none [.pv s (.sl none (nms.map PV.str)),.pv none (.int k i)]=some (.iptr none (.str nm) 0):=fun s k=>zT (by grind);have w3:IntKind.i64.wrap ((i:Int)+1)=((i+1:Nat):Int):=by grind [zU]
  have hil:i+1<=lim:=by grind
  have hpl:(Tm.pvs ((nms.map zO).take i)).length=i:=by grind [Tm.pvs_len]
  have htk:Tm.pvs ((nms.map zO).take i)++[(zO nm).pv]=Tm.pvs ((nms.map zO).take (i+1)):=Tm.zAM (by grind);have hap:∀a0 a1 a2:AObj,z8 (some 4) [a0,a1,a2,.arr (some 4) (Tm.pvs ((nms.map zO).take i)) false] [.sl (some 4) 3 i 0 i,.tsl (some 4) [(zO nm).pv]]=some (.sl (some 4) 3 (i+1) 0 (i+1),[a0,a1,a2,.arr (some 4) (Tm.pvs ((nms.map zO).take (i+1))) false]):=fun _ _ _=>by
   simp_all[z8,aappend,elems]
  simp only[Tm.av] at h3;generalize (zO nm).pv=X at*;simp -dsimp -implicitDefEqProofs only[go_sem,seval,zg,hc,hia,hsl2,h3,hap,w3];exact⟨(),rfl⟩
 ·rintro - -;have hc:¬(nms.length:Int)<(nms.length:Int):=by omega
  have htk:Tm.pvs ((nms.map zO).take nms.length)=Tm.pvs (nms.map zO):=by grind [Zl]
  rw[htk];have hap:∀(a0 a1 a2:AObj) (Y:PV),z8 (some 4) [a0,a1,a2,.arr (some 4) (Tm.pvs (nms.map zO)) false] [.sl (some 4) 3 nms.length 0 nms.length,.tsl (some 4) [Y]]=some (.sl (some 4) 3 (nms.length+1) 0 (nms.length+1),[a0,a1,a2,.arr (some 4) (Tm.pvs (nms.map zO)++[Y]) false]):=fun _ _ _ Y=>by
   simp_all[z8,aappend,elems]
  by_cases hbig:(2000:Int)<3+(nms.length:Int)+(t.size:Int)
  ·have hcu:culk nms.length t=zO [46,46,46]:=by grind [culk]
   have hra':=fun a0 a1 a2=>hra a0 a1 a2 _ hcu;generalize (zO [46,46,46]).pv=Y at*;simp -dsimp -implicitDefEqProofs only[go_sem,seval,zg,hc,h2,hsl,w1,w2,hbig,h4,hap,hra'];rfl
  ·have hcu:culk nms.length t=t:=by grind [culk]
   have hra':=fun a0 a1 a2=>hra a0 a1 a2 _ hcu;simp -dsimp -implicitDefEqProofs only[go_sem,seval,zg,hc,h2,hsl,w1,w2,hbig,hap,hra'];rfl
def doN:List UInt8:=[100,111,109,97,105,110,95,101,114,114,111,114]
def peN:List UInt8:=[112,101,114,109,105,115,115,105,111,110,95,101,114,114,111,114]
def domT(nm:List UInt8)(t:Tm):Tm:=errT (gErr doN [nm] t)
def perT(a b:List UInt8)(t:Tm):Tm:=errT (gErr peN [a,b] t)
theorem N8(nm:List UInt8)(hn:nm.length<=100)(t:Tm)(hv:t.valid=true)(hp:Heap):S 154 [P6 nm,t.av] hp=some (.ret (domT nm t).av,hp):=by
 refine zM rfl rfl rfl (zK [(none,.str nm),(some 4,t.pv)]) rfl ?_;have h1:∀H:Heap,S 88 [t.av,P6 doN,.tsl none [.str nm]] H=some (.ret (domT nm t).av,H):=fun H=>xg (ps:=[(some 4,t.pv),(none,.str doN),(none,.sl none [.str nm])]) rfl rfl rfl rfl rfl (Bc doN (by decide) [nm] (by grind) (by simp) t hv []);simp only[Tm.av,doN] at h1;simp -dsimp -implicitDefEqProofs only[go_sem,seval,Tm.av,h1]
 try rfl
theorem Bd(a b:List UInt8)(ha:a.length<=100)(hb:b.length<=100)(t:Tm)(hv:t.valid=true)(hp:Heap):S 120 [P6 a,P6 b,t.av] hp=some (.ret (perT a b t).av,hp):=by
 refine zM rfl rfl rfl (zK [(none,.str a),(none,.str b),(some 4,t.pv)]) rfl ?_;have h1:∀H:Heap,S 88 [t.av,P6 peN,.tsl none [.str a,.str b]] H=some (.ret (perT a b t).av,H):=fun H=>xg (ps:=[(some 4,t.pv),(none,.str peN),(none,.sl none [.str a,.str b])]) rfl rfl rfl rfl rfl (Bc peN (by decide) [a,b] (by grind) (by simp) t hv []);simp only[Tm.av,peN] at h1;simp -dsimp -implicitDefEqProofs only[go_sem,seval,Tm.av,h1]
 try rfl
def reN:List UInt8:=[114,101,112,114,101,115,101,110,116,97,116,105,111,110,95,101,114,114,111,114]
def repT(nm:List UInt8):Tm:=errT (strT reN [zO nm])
theorem Be{nm:List UInt8}(hn:nm.length<=100):(strT reN [zO nm]).valid=true/\(repT nm).valid=true:=by
 have h3:=Qf hn;have f1:(strT reN [zO nm]).fits=true:=xe (by decide) (by simp) (by simp) (by simp[Tm.fitsAll,valid_fits h3]);have s1:(strT reN [zO nm]).size=2:=by rw[Tm.size_eq];rfl
 have f2:(repT nm).fits=true:=xe (by decide) (by simp) (by simp) (by simp[Tm.fitsAll,f1];decide);have s2:(repT nm).size=1+((strT reN [zO nm]).size+(1+0)):=by
  show(errT _).size=_;rw[Tm.size_eq];rfl
 grind [QN]
theorem N9(nm:List UInt8)(hn:nm.length<=100)(hp:Heap):S 161 [P6 reN,P6 nm] hp=some (.ret (repT nm).av,hp):=by
 refine zM rfl rfl rfl (zK [(none,.str reN),(none,.str nm)]) rfl ?_;obtain⟨v1,v2⟩:=Be hn;have h1:=xf nm hn;have hsl:=Zg (show ¬(100:Int)<(nm.length:Int) by omega);have h2:∀H:Heap,S 87 [P6 reN,.tsl (some 4) [(zO nm).pv]] H=some (.ret (repT nm).av,H):=fun H=>xg (ps:=[(none,.str reN),(none,.sl (some 4) (Tm.pvs [zO nm]))]) rfl rfl rfl rfl rfl (VU reN [zO nm] (by simp) v1 v2 []);simp only[Tm.av] at h1 h2;generalize (zO nm).pv=X at*;simp -dsimp -implicitDefEqProofs only[go_sem,seval,Tm.av,h1,h2,hsl]
 try rfl
theorem na(nm:List UInt8)(hn:nm.length<=100)(hp:Heap):S 155 [P6 nm] hp=some (.ret (repT nm).av,hp):=by
 refine zM rfl rfl rfl (zK [(none,.str nm)]) rfl ?_;have h1:=N9 nm hn;simp only[Tm.av,reN] at h1;simp -dsimp -implicitDefEqProofs only[go_sem,seval,Tm.av,h1]
 try rfl
def intT(k:Int):Tm:=.mk 1 k [] []
def indT(nm:List UInt8)(k:Int):Tm:=.mk 3 0 [47] [zO nm,intT k]
theorem nc(k:Int):(intT k).fits=true:=by
 simp[intT,Tm.fits,Tm.fitsAll,Tm.node,Tm.kind,Tm.n,Tm.name,Tm.args]
theorem j6{nm:List UInt8}{k:Int}(h:nm.length<=100):(indT nm k).valid=true:=by
 refine QN (xe (nm:=[47]) (by decide) (by simp) (by simp) (by simp[Tm.fitsAll,valid_fits (Qf h),nc])) ?_;have:(indT nm k).size=3:=rfl;omega
theorem Jx(t:Tm)(hv:t.valid=true)(hk:t.kind≠0)(hp:Heap):S 139 [t.av] hp=some (.ret (.tuple [zt.av,P5 true]),hp):=by
 refine zM rfl rfl rfl (zK [(some 4,t.pv)]) rfl ?_;have h1:=fun hp=>YR t hp (by grind [valid_size]);have hk':=Zg hk;have hz0:=P0;rw[hv] at h1;simp only[Tm.av] at h1;simp -dsimp -implicitDefEqProofs only[go_sem,seval,Tm.av,zJ,h1,hk',hz0,zD (Za _),zF];exact⟨_,rfl⟩
def negN:List UInt8:=[110,111,116,95,108,101,115,115,95,116,104,97,110,95,122,101,114,111]
def maxN:List UInt8:=[109,97,120,95,97,114,105,116,121]
def strs(l:List (List UInt8)):List PV:=l.map .str
theorem nf(l:List (List UInt8)):(strs l).length=l.length:=by simp[strs]
theorem Bf{l:List (List UInt8)}{i:Nat}{s:List UInt8}(h:l[i]? =some s):(strs l)[i]? =some (.str s):=by simp[strs,h]
def idxI:List (List UInt8)->List UInt8->Nat->Int
 |[],_,_=> -1
 |x::r,s,k=>if s=x then k else idxI r s (k+1)
theorem Bg:∀(l:List (List UInt8)) (s:List UInt8) (k:Nat),0<=idxI l s k↔s∈l
 |[],s,k=>by simp[idxI]
 |x::r,s,k=>by
  unfold idxI;split
  ·rename_i h;simp[h]
  ·rename_i h;rw[Bg r s (k+1)];simp[h]
theorem ng(l:List (List UInt8))(s:List UInt8)(hl:l.length<=1000000)(hp:Heap):S 99 [.pv none (.sl none (strs l)),P6 s] hp=some (.ret (P4 (idxI l s 0)),hp):=by
 refine zM rfl rfl rfl (zK [(none,.sl none (strs l)),(none,.str s)]) rfl ?_;simp -dsimp -implicitDefEqProofs only[go_sem,seval,nf];refine Yp (α:=Unit) l.length (fun i _=>idxI l s 0=idxI (l.drop i) s i) (fun i _=>⟨[(0,.pv none (.sl none (strs l))),(1,P6 s),(7,P4 l.length),(8,P4 i)],[]⟩) () ⟨rfl,rfl⟩ ?_ ?_
 ·rintro i - h hinv;have hc:(i:Int)<(l.length:Int):=by omega
  obtain⟨u,hu⟩:∃u,l[i]? =some u:=⟨_,Ze h⟩;have w2:IntKind.i64.wrap ((i:Int)+1)=((i+1:Nat):Int):=by rw[zU (by omega) (by omega)];omega
  have hd:l.drop i=u::l.drop (i+1):=by
   have hlt:=(Zf.1 hu).1;rw[zC hlt]
   congr 1
   exact(Zf.1 hu).2
  rw[hd,idxI] at hinv;by_cases hs:s=u
  ·rw[Zj hs] at hinv;subst hs;simp -dsimp -implicitDefEqProofs only[go_sem,seval,hc,zT (Bf hu),hinv]
  ·rw[Zb hs] at hinv;simp -dsimp -implicitDefEqProofs only[go_sem,seval,hc,zT (Bf hu),hs,w2];exact⟨(),hinv⟩
 ·rintro - hinv;have hc:¬(l.length:Int)<(l.length:Int):=by omega
  rw[List.drop_length,idxI] at hinv;simp -dsimp -implicitDefEqProofs only[go_sem,seval,hc,hinv]
theorem nh(l:List (List UInt8))(s:List UInt8)(hl:l.length<=1000000)(hp:Heap):S 58 [.pv none (.sl none (strs l)),P6 s] hp=some (.ret (P5 (decide (s∈l))),hp):=by
 refine zM rfl rfl rfl (zK [(none,.sl none (strs l)),(none,.str s)]) rfl ?_;have h:=ng l s hl;have e:decide (0<=idxI l s 0)=decide (s∈l):=by simp[Bg]
 simp -dsimp -implicitDefEqProofs only[go_sem,seval,h,e]
def sp1(l:List UInt8):List UInt8 × List (List UInt8):=l.foldr (fun b r=>if b=32 then([],r.1::r.2) else(b::r.1,r.2)) ([],[])
def sp(l:List UInt8):List (List UInt8):=(sp1 l).1::(sp1 l).2
def rs0:List UInt8:=[116,114,117,101,32,102,97,105,108,32,33,32,104,97,108,116,32,110,108,32,102,108,117,115,104,95,111,117,116,112,117,116,32,97,116,95,101,110,100,95,111,102,95,115,116,114,101,97,109]
def nm0:List (List UInt8):=sp rs0
def rs1:List UInt8:=[92,43,32,111,110,99,101,32,99,97,108,108,32,116,104,114,111,119,32,114,101,116,114,97,99,116,32,118,97,114,32,110,111,110,118,97,114,32,97,116,111,109,32,105,110,116,101,103,101,114,32,97,116,111,109,105,99,32,99,111,109,112,111,117,110,100,32,99,97,108,108,97,98,108,101,32,105,115,95,108,105,115,116,32,103,114,111,117,110,100,32,97,115,115,101,114,116,97,32,97,115,115,101,114,116,122,32,97,98,111,108,105,115,104,32,100,121,110,97,109,105,99,32,99,117,114,114,101,110,116,95,112,114,101,100,105,99,97,116,101,32,36,101,114,97,115,101,32,99,117,114,114,101,110,116,95,105,110,112,117,116,32,99,117,114,114,101,110,116,95,111,117,116,112,117,116,32,115,101,116,95,105,110,112,117,116,32,115,101,116,95,111,117,116,112,117,116,32,99,108,111,115,101,32,102,108,117,115,104,95,111,117,116,112,117,116,32,97,116,95,101,110,100,95,111,102,95,115,116,114,101,97,109,32,103,101,116,95,99,104,97,114,32,112,101,101,107,95,99,104,97,114,32,112,117,116,95,99,104,97,114,32,103,101,116,95,99,111,100,101,32,112,101,101,107,95,99,111,100,101,32,112,117,116,95,99,111,100,101,32,110,108,32,114,101,97,100,32,119,114,105,116,101,32,119,114,105,116,101,113,32,119,114,105,116,101,95,99,97,110,111,110,105,99,97,108]
def nm1:List (List UInt8):=sp rs1
def rs2:List UInt8:=[44,32,59,32,45,62,32,61,32,100,101,108,95,97,116,116,114,32,99,97,108,108,32,99,117,114,114,101,110,116,95,99,104,97,114,95,99,111,110,118,101,114,115,105,111,110,32,99,104,97,114,95,99,111,110,118,101,114,115,105,111,110,32,115,101,116,95,112,114,111,108,111,103,95,102,108,97,103,32,99,117,114,114,101,110,116,95,112,114,111,108,111,103,95,102,108,97,103,32,105,115,32,61,58,61,32,61,92,61,32,60,32,62,32,61,60,32,62,61,32,61,61,32,92,61,61,32,64,60,32,64,61,60,32,64,62,32,64,62,61,32,92,61,32,61,46,46,32,99,111,112,121,95,116,101,114,109,32,116,101,114,109,95,118,97,114,105,97,98,108,101,115,32,108,101,110,103,116,104,32,109,115,111,114,116,32,115,111,114,116,32,107,101,121,115,111,114,116,32,97,116,111,109,95,108,101,110,103,116,104,32,97,116,111,109,95,99,104,97,114,115,32,97,116,111,109,95,99,111,100,101,115,32,99,104,97,114,95,99,111,100,101,32,110,117,109,98,101,114,95,99,104,97,114,115,32,110,117,109,98,101,114,95,99,111,100,101,115,32,99,108,97,117,115,101,32,99,108,111,115,101,32,103,101,116,95,99,104,97,114,32,112,101,101,107,95,99,104,97,114,32,112,117,116,95,99,104,97,114,32,103,101,116,95,99,111,100,101,32,112,101,101,107,95,99,111,100,101,32,112,117,116,95,99,111,100,101,32,114,101,97,100,32,114,101,97,100,95,116,101,114,109,32,119,114,105,116,101,32,119,114,105,116,101,113,32,119,114,105,116,101,95,99,97,110,111,110,105,99,97,108,32,119,114,105,116,101,95,116,101,114,109]
def nm2:List (List UInt8):=sp rs2
def rs3:List UInt8:=[99,97,108,108,32,99,97,116,99,104,32,102,105,110,100,97,108,108,32,98,97,103,111,102,32,115,101,116,111,102,32,112,117,116,95,97,116,116,114,32,103,101,116,95,97,116,116,114,32,111,112,32,99,117,114,114,101,110,116,95,111,112,32,99,111,109,112,97,114,101,32,102,117,110,99,116,111,114,32,97,114,103,32,98,101,116,119,101,101,110,32,97,116,111,109,95,99,111,110,99,97,116,32,36,99,108,97,117,115,101,32,36,98,97,103,32,36,115,101,116,32,111,112,101,110,32,114,101,97,100,95,116,101,114,109,32,119,114,105,116,101,95,116,101,114,109]
def nm3:List (List UInt8):=sp rs3
def rs4:List UInt8:=[99,97,108,108,32,111,112,101,110]
def nm4:List (List UInt8):=sp rs4
def rs5:List UInt8:=[99,97,108,108,32,115,117,98,95,97,116,111,109]
def nm5:List (List UInt8):=sp rs5
def rs6:List UInt8:=[99,97,108,108]
def nm6:List (List UInt8):=sp rs6
def Jy(n:Int):List (List UInt8):=if n=0 then nm0 else if n=1 then nm1 else if n=2 then nm2 else if n=3 then nm3 else if n=4 then nm4 else if n=5 then nm5 else if n=6 then nm6 else if n=7 then nm6 else if n=8 then nm6 else[]
def rsOf:List PV:=[.str rs0,.str rs1,.str rs2,.str rs3,.str rs4,.str rs5,.str rs6,.str rs6,.str rs6]
theorem QS{s:List UInt8}{l:List (List UInt8)}(h1:decide (s.length<4294967281)=true)(h2:s.all (fun b=>decide (b.toNat<128))=true)(h3:Lib.fields s=l)(hp:Heap):S 59 [P6 s] hp=some (.ret (.pv none (.sl none (strs l))),hp):=by
 have h:QK 59 [P6 s] hp=some (.ret (.pv none (.sl none (strs l))),hp):=by
  unfold QK;simp only[];rw[Zj ⟨zj h1,h2⟩,h3];rfl
 rw[S,x9 (F:=find tab) (prim:=prim) (p:=QK) rfl];exact h
theorem fl0(hp:Heap):S 59 [P6 rs0] hp=some (.ret (.pv none (.sl none (strs nm0))),hp):=QS (by kernel_rfl) (by kernel_rfl) (by kernel_rfl) hp
theorem fl1(hp:Heap):S 59 [P6 rs1] hp=some (.ret (.pv none (.sl none (strs nm1))),hp):=QS (by kernel_rfl) (by kernel_rfl) (by kernel_rfl) hp
theorem fl2(hp:Heap):S 59 [P6 rs2] hp=some (.ret (.pv none (.sl none (strs nm2))),hp):=QS (by kernel_rfl) (by kernel_rfl) (by kernel_rfl) hp
theorem fl3(hp:Heap):S 59 [P6 rs3] hp=some (.ret (.pv none (.sl none (strs nm3))),hp):=QS (by kernel_rfl) (by kernel_rfl) (by kernel_rfl) hp
theorem fl4(hp:Heap):S 59 [P6 rs4] hp=some (.ret (.pv none (.sl none (strs nm4))),hp):=QS (by kernel_rfl) (by kernel_rfl) (by kernel_rfl) hp
theorem fl5(hp:Heap):S 59 [P6 rs5] hp=some (.ret (.pv none (.sl none (strs nm5))),hp):=QS (by kernel_rfl) (by kernel_rfl) (by kernel_rfl) hp
theorem fl6(hp:Heap):S 59 [P6 rs6] hp=some (.ret (.pv none (.sl none (strs nm6))),hp):=QS (by kernel_rfl) (by kernel_rfl) (by kernel_rfl) hp
theorem ni:S 60 [] []=some (.ret (.pv (some 9) (.agg (rsOf.map fun p=>(none,p)))),[]):=sem_iff.2 ⟨20,by kernel_rfl⟩
theorem xD{n:Int}{r:List UInt8}{l:List (List UInt8)}(h1:¬n<0)(h2:¬8<n)(ha:∀s':Sh,Qm 9 [.pv s' (.agg (rsOf.map fun p=>(none,p))),P4 n]=some (P6 r))(hf:∀hp:Heap,S 59 [P6 r] hp=some (.ret (.pv none (.sl none (strs l))),hp))(hl:l.length<=1000000)(s:List UInt8)(hp:Heap):S 18 [P6 s,P4 n] hp=some (.ret (P5 (decide (s∈l))),hp):=by
 refine zM rfl rfl rfl (zK [(none,.str s),(none,.int .i64 n)]) rfl ?_;have hr:=ni;have hc:=nh l s hl;generalize decide (s∈l)=q at hc;simp -dsimp -implicitDefEqProofs only[go_sem,seval,hr,h1,h2,ha,hf,hc]
theorem nj(s:List UInt8)(n:Int)(hp:Heap):S 18 [P6 s,P4 n] hp=some (.ret (P5 (decide (s∈Jy n))),hp):=by
 by_cases hn:n<0\/8<n
 ·have e:Jy n=[]:=by
   unfold Jy;simp only[show ¬n=0 by omega,show ¬n=1 by omega,show ¬n=2 by omega,show ¬n=3 by omega,show ¬n=4 by omega,show ¬n=5 by omega,show ¬n=6 by omega,show ¬n=7 by omega,show ¬n=8 by omega,if_false]
  rw[e];refine zM rfl rfl rfl (zK [(none,.str s),(none,.int .i64 n)]) rfl ?_;by_cases h:n<0
  ·simp -dsimp -implicitDefEqProofs only[go_sem,seval,h];simp
  ·have h2:8<n:=by omega
   simp -dsimp -implicitDefEqProofs only[go_sem,seval,h,h2];simp
 ·have h:n=0\/n=1\/n=2\/n=3\/n=4\/n=5\/n=6\/n=7\/n=8:=by omega
  rcases h with rfl|rfl|rfl|rfl|rfl|rfl|rfl|rfl|rfl
  ·exact xD (by decide) (by decide) (fun _=>rfl) fl0 (by decide) s hp
  ·exact xD (by decide) (by decide) (fun _=>rfl) fl1 (by decide) s hp
  ·exact xD (by decide) (by decide) (fun _=>rfl) fl2 (by decide) s hp
  ·exact xD (by decide) (by decide) (fun _=>rfl) fl3 (by decide) s hp
  ·exact xD (by decide) (by decide) (fun _=>rfl) fl4 (by decide) s hp
  ·exact xD (by decide) (by decide) (fun _=>rfl) fl5 (by decide) s hp
  ·exact xD (by decide) (by decide) (fun _=>rfl) fl6 (by decide) s hp
  ·exact xD (by decide) (by decide) (fun _=>rfl) fl6 (by decide) s hp
  ·exact xD (by decide) (by decide) (fun _=>rfl) fl6 (by decide) s hp
theorem j7(hp:Heap):S 39 [] hp=some (.ret (.map hp.length),hp++[.map none (YA 8 prS prN prF)]):=by
 rw[S,x9 (F:=find tab) (prim:=prim) (p:=Jb none (YA 8 prS prN prF)) rfl];rfl
def XM(b:Tm):PV:=.iface 110 (some 4) (.agg [(some 4,b.pv)])
def Qg(e:Int):PV:=.iface 112 (some 1) (.agg [(none,.int .i64 e)])
theorem xE(b:Tm)(hp:Heap):S 107 [b.av] hp=some (.panic (XM b),hp):=by
 refine qh rfl rfl rfl (zK [(some 4,b.pv)]) rfl ?_;have hsb:zQ [(some 4,.agg A0)] [0] [.pv (some 4) b.pv]=some (.pv (some 4) (.agg [(some 4,b.pv)])):=rfl;have hmi:∀(s:Sh) (p:PV),Xl 110 [.pv s p]=some (.pv none (.iface 110 s p)):=fun _ _=>rfl;have hpan:∀A:Prop,panK true A=A:=fun _=>rfl;simp -dsimp -implicitDefEqProofs only[go_sem,seval,Tm.av,hsb,hmi,hpan,Jk]
 try rfl
theorem Bh(hp:Heap):S 108 [P4 0] hp=some (.ret (.tuple []),hp):=by
 refine zM rfl rfl rfl (zK [(none,.int .i64 0)]) rfl ?_;simp -dsimp -implicitDefEqProofs only[go_sem,seval]
 try rfl
theorem j8(e:Int)(h:e≠0)(hp:Heap):S 108 [P4 e] hp=some (.panic (Qg e),hp):=by
 refine qh rfl rfl rfl (zK [(none,.int .i64 e)]) rfl ?_;have hsb:zQ A6 [0] [P4 e]=some (.pv (some 1) (.agg [(none,.int .i64 e)])):=rfl;have hmi:∀(s:Sh) (p:PV),Xl 112 [.pv s p]=some (.pv none (.iface 112 s p)):=fun _ _=>rfl;have hpan:∀A:Prop,panK true A=A:=fun _=>rfl;simp -dsimp -implicitDefEqProofs only[go_sem,seval,h,hsb,hmi,hpan,Jk]
 try rfl
def cB(d:Dbs)(g:Tm)(s:AV):AV:=.agg [(some 2,.pv (some 2) d.pv),(some 4,.pv (some 4) g.pv),(none,s)]
theorem yF(d:Dbs)(g:Tm)(s:AV):AV.part deep (cB d g s) 0 (some 2)=some (.pv (some 2) d.pv):=rfl
def xh(d:Dbs)(s:List UInt8)(a:Int):Bool:=decide (s∈Jy a) || ((Y3 d s a).isSome && !((Y3 d s a).getD zP).dyn)
theorem VX(d:Dbs)(hb:BndD d)(g:Tm)(sv:AV)(s:List UInt8)(a:Int)(hp:Heap)(r:Nat)(hr:hp[r]? =some (.box (some 7) (cB d g sv))):S 119 [.ptr r 0,P6 s,P4 a] hp=some (.ret (P5 (xh d s a)),hp):=by
 refine Yj rfl rfl rfl rfl ?_;have hr':∀X,(hp++X)[r]? =some (.box (some 7) (cB d g sv)):=fun X=>by grind
 have h1:=fun hp=>gA d hb s a hp;have h2:=fun hp=>nj s a hp;unfold xh;generalize (Y3 d s a).getD zP=w at h1;generalize (Y3 d s a).isSome=z at h1;generalize decide (s∈Jy a)=q at h2;have p2:=gj w;simp only[Dbs.av,Prc.av] at h1;cases q <;> cases z
 all_goals simp -dsimp -implicitDefEqProofs only[go_sem,seval,z6,h1,h2,hr,hr',yF,p2,zF,zD (Zd _ _)]
 all_goals simp[AV.refsIn]
def stN:List UInt8:=[115,116,97,116,105,99,95,112,114,111,99,101,100,117,114,101]
def moN:List UInt8:=[109,111,100,105,102,121]
theorem j9(d:Dbs)(hb:BndD d)(g:Tm)(sv:AV)(s:List UInt8)(a:Int)(t:Tm)(hs:xh d s a=false)(hp:Heap)(r:Nat)(hr:hp[r]? =some (.box (some 7) (cB d g sv))):S 109 [.ptr r 0,P6 s,P4 a,t.av] hp=some (.ret (.tuple []),hp):=by
 refine Yj rfl rfl rfl rfl ?_;have hr':∀X,(hp++X)[r]? =some (.box (some 7) (cB d g sv)):=fun X=>by grind
 have h1:∀X,_:=fun X=>VX d hb g sv s a (hp++X) r (hr' X);rw[hs] at h1;simp -dsimp -implicitDefEqProofs only[go_sem,seval,Tm.av,h1]
 grind
theorem Ka(d:Dbs)(hb:BndD d)(g:Tm)(sv:AV)(s:List UInt8)(a:Int)(t:Tm)(hv:t.valid=true)(hs:xh d s a=true)(hp:Heap)(r:Nat)(hr:hp[r]? =some (.box (some 7) (cB d g sv))):S 109 [.ptr r 0,P6 s,P4 a,t.av] hp=some (.panic (XM (perT moN stN t)),hp):=by
 obtain⟨v,hp',h,rfl,rfl⟩:∃v hp',S 109 [.ptr r 0,P6 s,P4 a,t.av] hp=some (v,hp')/\v=.panic (XM (perT moN stN t))/\hp'=hp:=by
  refine XJ (fun v hp'=>v=.panic (XM (perT moN stN t))/\hp'=hp) rfl rfl rfl rfl ?_;have hr':∀X,(hp++X)[r]? =some (.box (some 7) (cB d g sv)):=fun X=>by grind
  have h1:∀X,_:=fun X=>VX d hb g sv s a (hp++X) r (hr' X);rw[hs] at h1;have h2:=fun hp=>Bd moN stN (by decide) (by decide) t hv hp;have h3:=fun hp=>xE (perT moN stN t) hp;have hpan:∀A:Prop,panK true A=A:=fun _=>rfl;simp only[Tm.av,moN,stN] at h2 h3;simp -dsimp -implicitDefEqProofs only[go_sem,seval,Tm.av,moN,stN,h1,h2,h3,hpan,Yg,Ym,Ys]
  grind
 exact h
theorem Xt(d:Dbs)(g:Tm)(s:AV):AV.part deep (cB d g s) 2 (some 4)=some (.pv (some 4) g.pv):=rfl
theorem YK(d:Dbs)(g:Tm)(s:AV):AV.part deep (cB d g s) 5 none=some (.pv none (.sl (some 4) (Tm.pvs g.args))):=by cases g;rfl
abbrev slA(q m:Nat):AV:=.sl (some 4) q m 0 m
theorem Kb{d n:Dbs}{g:Tm}{q m b:Nat}{hp:Heap}{r:Nat}(hr:hp[r]? =some (.box (some 7) (cB d g (slA q m))))(hb:r<b):zH (some 2) b hp [.ptr r 0,.pv (some 2) n.pv]=some (.undef,hp.set r (.box (some 7) (cB n g (slA q m)))):=by
 have hu:AV.upd deep (cB d g (slA q m)) 0 (some 2) (.pv (some 2) n.pv)=some (cB n g (slA q m)):=rfl
 grind [zH,astore,AV.plain,AV.shp,AV.refsIn]
theorem nk{d:Dbs}{g:Tm}{q m b:Nat}{hp:Heap}{r:Nat}(hr:hp[r]? =some (.box (some 7) (cB d g (slA q m))))(hb:r<b):zH none b hp [.ptr r 6,.tsl (some 4) [g.pv]]=some (.undef,hp.set r (.box (some 7) (cB d g (.tsl (some 4) [g.pv])))):=by
 have hu:AV.upd deep (cB d g (slA q m)) 6 none (.tsl (some 4) [g.pv])=some (cB d g (.tsl (some 4) [g.pv])):=rfl
 grind [zH,astore,AV.plain,AV.shp,AV.refsIn]
theorem Jz(d:Dbs)(g:Tm)(q m:Nat)(hp:Heap)(r:Nat)(hr:hp[r]? =some (.box (some 7) (cB d g (slA q m)))):S 112 [.ptr r 0] hp=some (.ret (.tuple []),hp.set r (.box (some 7) (cB d g (.tsl (some 4) [g.pv])))):=by
 refine Yj rfl rfl rfl rfl ?_;have hs:=nk hr (YZ hr);simp -dsimp -implicitDefEqProofs only[go_sem,seval,z6,hr,Xt,hs];have hl:(hp.set r (.box (some 7) (cB d g (.tsl (some 4) [g.pv])))).length=hp.length:=by simp
 grind
def Bq(hp:Heap):Prop:=∀x∈hp,AObj.beq x x=true
theorem Bq.same:∀{hp:Heap},Bq hp->Y4 hp hp=true
 |[],_=>rfl
 |x::r,h=>by
  show(AObj.beq x x && Y4 r r)=true;rw[h x ZG,Bq.same (hp:=r) fun y hy=>h y (Zw _ hy)];rfl
theorem Bq.app{a b:Heap}(h1:Bq a)(h2:Bq b):Bq (a++b):=fun x hx=>(Z6.1 hx).elim (h1 x) (h2 x)
theorem Bq.cons{x:AObj}{b:Heap}(h1:AObj.beq x x=true)(h2:Bq b):Bq (x::b):=fun y hy=>(Zy.1 hy).elim (fun e=>e▸h1) (h2 y)
theorem Bq.nil:Bq []:=fun _ h=>by cases h
theorem Bq.set{hp:Heap}(h:Bq hp)(i:Nat){x:AObj}(hx:AObj.beq x x=true):Bq (hp.set i x):=fun y hy=>by
 rcases List.mem_or_eq_of_mem_set hy with h1|rfl
 ·exact h y h1
 ·exact hx
theorem yG(t:Tm):AObj.beq (.box (some 4) (.pv (some 4) t.pv)) (.box (some 4) (.pv (some 4) t.pv))=true:=by simp[AObj.beq,AV.beq,xB]
theorem VY{es:List PV}(h:∀x∈es,PV.beq x x=true):PV.beqs es es=true:=by
 induction es with
 |nil=>rfl
 |cons x r ih=>
  show(PV.beq x x && PV.beqs r r)=true;rw[h x ZG,ih fun y hy=>h y (Zw _ hy)];rfl
theorem nl{Γ:Oracle}{b:Nat}{s:Sh}{f:FuncId}{vs:List AV}{v:AV}{hp:Heap}{K:AV->Heap->Prop}{Kp:PV->Heap->Prop}(hc:Γ .fn f vs hp=some (.ret v,hp))(h:Y4 hp hp=true):opK (aOp Γ b .callg (.pv s (.func (.func f))::vs) hp) K Kp=K v hp:=by
 have h2:Y4 (hp.take hp.length) hp=true:=by rw[ZW];exact h
 simp[aOp,xJ,yI,yn,hc,h];rfl
def gK(r:Option (ARes × Heap))(hp:Heap)(K:AV->Heap->Prop):Prop:=match r with
 |some (.ret v,hp')=>Y4 (hp'.take hp.length) hp=true/\K v hp'
 |_=>False
theorem JA{Γ:Oracle}{b:Nat}{s:Sh}{f:FuncId}{vs:List AV}{hp:Heap}{K:AV->Heap->Prop}{Kp:PV->Heap->Prop}:opK (aOp Γ b .callg (.pv s (.func (.func f))::vs) hp) K Kp=gK (Γ .fn f vs hp) hp K:=by
 unfold gK;simp only[aOp,xJ,yI,yn,Zu,ZL];cases Γ .fn f vs hp with
 |none=>rfl
 |some r=>
  obtain⟨r,hp'⟩:=r;cases r with
  |panic p=>rfl
  |ret v=>
   by_cases h:Y4 (hp'.take hp.length) hp=true
   ·simp only[h,if_true,true_and];rfl
   ·have h':Y4 (hp'.take hp.length) hp=false:=by simpa using h
    simp only[h',ZJ,if_false,false_and];rfl
theorem JB{v:AV}{hp hp':Heap}{K:AV->Heap->Prop}:gK (some (.ret v,hp')) hp K=(Y4 (hp'.take hp.length) hp=true/\K v hp'):=rfl
theorem JC{hp a b:Heap}(h:Bq hp):Y4 (hp++a) (hp++b)=Y4 a b:=by
 induction hp with
 |nil=>rfl
 |cons x r ih=>
  show(AObj.beq x x && Y4 (r++a) (r++b))=_;rw[h x ZG,ih fun y hy=>h y (Zw _ hy)];rfl
theorem JD(x y:AObj)(a b:Heap):Y4 (x::a) (y::b)=(AObj.beq x y && Y4 a b):=rfl
theorem JE:Y4 [] []=true:=rfl
theorem Qh(s:Sh)(z:Bool):AObj.beq (.arr s [] z) (.arr s [] z)=true:=by simp[AObj.beq,PV.beqs]
theorem nn(k:IntKind)(i:Int)(a b:Sh):AObj.beq (.box a (.pv b (.int k i))) (.box a (.pv b (.int k i)))=true:=by simp[AObj.beq,AV.beq,PV.beq]
theorem np(l:List Tm):PV.beqs (Tm.pvs l) (Tm.pvs l)=true:=VY fun x hx=>by
 rw[Tm.zAT] at hx;obtain⟨t,_,rfl⟩:=zd.1 hx;exact xB t
theorem VZ(s:Sh)(l:List Tm)(z:Bool):AObj.beq (.arr s (Tm.pvs l) z) (.arr s (Tm.pvs l) z)=true:=by simp[AObj.beq,np]
def InX(n k:Nat)(E:Heap)(ts:List Tm)(m:Nat)(v:ARes):Prop:=v=.ret (.sl (some 4) (n+k) ts.length 0 ts.length)/\E[k]? =some (.arr (some 4) (Tm.pvs ts) false)/\(∀t∈ts,t.valid=true)/\ts.length<=m+1/\∀o∈E,o.refs=[]/\AObj.beq o o=true
theorem nq:∀(n:Nat) (t:Tm),t.size=n->t.valid=true->∀u∈els t,u.valid=true:=by
 intro n
 induction n using Nat.strongRecOn with
 |_ n ih=>
  intro t hn hv u hu;by_cases h:cs t
  ·rw[VS h] at hu;have:=Tm.zAI (xd h.2.2);rcases Zy.1 hu with rfl|hu
   ·exact YS hv (jX h.2.2)
   ·exact ih _ (by omega) _ rfl (YS hv (xd h.2.2)) u hu
  grind [VT]
theorem nr{hp E1 E2:Heap}(a b:AObj){k1 k2:Nat}{xs ys:List PV}(h1:E1[k1]? =some (.arr (some 4) xs false))(h2:E2[k2]? =some (.arr (some 4) ys false))(hl:xs.length+ys.length<1000000):z8 (some 4) (hp++a::b::(E1++E2)) [.sl (some 4) (hp.length+(2+k1)) xs.length 0 xs.length,.sl (some 4) (hp.length+(2+(E1.length+k2))) ys.length 0 ys.length]=some (.sl (some 4) (hp.length+(2+k1)) (xs.length+ys.length) 0 (xs.length+ys.length),hp++a::b::(E1.set k1 (.arr (some 4) (xs++ys) false)++E2)):=by
 have hl1:=YZ h1;have g1:(hp++a::b::(E1++E2))[hp.length+(2+k1)]? =some (.arr (some 4) xs false):=by
  grind
 have g2:(hp++a::b::(E1++E2))[hp.length+(2+(E1.length+k2))]? =some (.arr (some 4) ys false):=by
  grind
 have hlim:xs.length+ys.length<=lim:=by grind [lim]
 have hs:(hp++a::b::(E1++E2)).set (hp.length+(2+k1)) (.arr (some 4) (xs++ys) false)=hp++a::b::(E1.set k1 (.arr (some 4) (xs++ys) false)++E2):=by
  rw[jH,show 2+k1=k1+1+1 by omega]
  grind
 by_cases hy:ys=[]
 ·subst hy;have hs0:E1.set k1 (.arr (some 4) xs false)=E1:=Z4 fun j=>by
   grind
  grind [z8,aappend,elems]
 grind [z8,aappend,elems]
theorem Bi{T:Tm}{nm:List UInt8}(hc:¬(T.kind=3/\T.name=nm/\T.args.length=2)):((T.kind=3)=False/\True/\True)\/((T.kind=3)=True/\(T.name=nm)=False/\True)\/((T.kind=3)=True/\(T.name=nm)=True/\(((T.args.length:Nat):Int)=2)=False):=by
 grind
theorem nu:∀(n:Nat) (T:Tm),T.size=n->T.valid=true->∀hp:Heap,Bq hp->∃v hp',S 115 [T.av] hp=some (v,hp')/\∃k E ts,hp'=hp++E/\InX hp.length k E ts T.size v:=by
 intro n
 induction n using Nat.strongRecOn with
 |_ n ih=>
  intro T hn hv hp hb;refine XJ (fun v hp'=>∃k E ts,hp'=hp++E/\InX hp.length k E ts T.size v) rfl rfl rfl rfl ?_;have hz:=valid_size hv;have hn0:=P3;by_cases hc:T.kind=3/\T.name=[44]/\T.args.length=2
  ·have k1:=Zi hc.1;have k2:=Zi hc.2.1;have k3:=Zi (show((T.args.length:Nat):Int)=2 by grind);have i0:=Tm.pvs_get (jV hc.2.2);have i1:=Tm.pvs_get (jW hc.2.2);have l0:=Tm.zAI (jX hc.2.2);have l1:=Tm.zAI (xd hc.2.2);have bT:Bq ([.box (some 4) (.pv (some 4) T.pv),.arr (some 4) [] false]:Heap):=by
    intro o ho
    grind [yG,Qh]
   obtain⟨v1,hp1,h1,q1,E1,ts1,rfl,rfl,e1,t1,n1,o1⟩:=ih _ (by omega) (arg0 T) rfl (YS hv (jX hc.2.2)) (hp++[.box (some 4) (.pv (some 4) T.pv),.arr (some 4) [] false]) (hb.app bT);obtain⟨v2,hp2,h2,q2,E2,ts2,rfl,rfl,e2,t2,n2,o2⟩:=ih _ (by omega) (arg1 T) rfl (YS hv (xd hc.2.2)) (hp++([.box (some 4) (.pv (some 4) T.pv),.arr (some 4) [] false]++E1)) (hb.app (Bq.app bT fun o ho=>(o1 o ho).2));have hap:=fun a b=>nr (hp:=hp) a b e1 e2 (by grind [Tm.pvs_len]);rw[Tm.pvs_len,Tm.pvs_len] at hap;have x1:(hp++[AObj.box (some 4) (.pv (some 4) T.pv),.arr (some 4) [] false]).length+q1=hp.length+(2+q1):=by grind
   have x2:(hp++([AObj.box (some 4) (.pv (some 4) T.pv),.arr (some 4) [] false]++E1)).length+q2=hp.length+(2+(E1.length+q2)):=by grind
   have b1:Bq E1:=fun o ho=>(o1 o ho).2;have b2:Bq E2:=fun o ho=>(o2 o ho).2;have hbe:Y4 (E1++E2) (E1++E2)=true:=(Bq.app b1 b2).same;have hbe1:Y4 E1 E1=true:=b1.same;rw[x1] at h1;rw[x2] at h2;simp only[Tm.av,Zo,Zq,Zu] at h1 h2;simp -dsimp -implicitDefEqProofs only[go_sem,seval,Tm.av,zJ,zN,zL,Tm.pvs_len,k1,k2,k3,ia0 i0,ia1 i1,h1,h2,hap,hn0,JA,JB,Jg rfl,JC hb,ZE,JD,JE,yG,Qh,zF,zD (Zd _ _),Ym];rw[Zb (by simp[AV.refsIn])];have hsz:T.size=1+((arg0 T).size+((arg1 T).size+0)):=by
    have:=T.size_eq
    rwa [args_two hc.2.2] at this
   refine⟨2+q1,_,ts1++ts2,rfl,by grind,?_,fun t ht=>(Z6.1 ht).elim (t1 t) (t2 t),by grind,fun o ho=> ?_⟩
   ·grind [Tm.zAN]
   ·rcases Zy.1 ho with rfl|ho
    ·exact⟨rfl,yG T⟩
    rcases Zy.1 ho with rfl|ho
    ·exact⟨rfl,Qh _ _⟩
    rcases Z6.1 ho with ho|ho
    ·rcases List.mem_or_eq_of_mem_set ho with ho|rfl
     ·grind
     ·rw[<-Tm.zAN];exact⟨rfl,VZ _ _ _⟩
    grind
  ·have h1:=fun hp=>N5 T hv hp;have hlen:=gZ _ T rfl;have he:=nq _ T rfl hv;have ht:=N4 _ T rfl hv;have hc':=Bi hc;have ht':((tl T).kind=2)=True/\((tl T).name=[91,93])=True/\True\/((tl T).kind=2)=True/\((tl T).name=[91,93])=False/\((tl T).kind=0)=False\/((tl T).kind=2)=False/\True/\((tl T).kind=0)=True\/((tl T).kind=2)=False/\True/\((tl T).kind=0)=False:=by
    grind
   obtain⟨l,hl⟩:∃l,l=els T:=⟨_,rfl⟩;obtain⟨u,hu⟩:∃u,u=tl T:=⟨_,rfl⟩;have hpl:=Tm.pvs_len l;have hlim:l.length+1<=lim:=by grind [lim]
   have hap:∀(x0 x1 x2 x3 x4 x5 x7 x8:AObj),z8 (some 4) (hp++[x0,x1,x2,x3,x4,x5,.arr (some 4) (Tm.pvs l) false,x7,x8]) [.sl (some 4) (hp.length+6) l.length 0 l.length,.tsl (some 4) [u.pv]]=some (.sl (some 4) (hp.length+6) (l.length+1) 0 (l.length+1),hp++[x0,x1,x2,x3,x4,x5,.arr (some 4) (Tm.pvs l++[u.pv]) false,x7,x8]):=fun x0 x1 x2 x3 x4 x5 x7 x8=>by
    simp_all[z8,aappend,elems]
   have hbo:∀(H:Heap) (p:PV),XP (some 4) H [.pv (some 4) p]=some (.sl (some 4) H.length 1 0 1,H++[.arr (some 4) [p] false]):=fun _ _=>rfl;have b6:∀w:List Tm,∀o∈[AObj.box (some 4) (.pv (some 4) T.pv),.arr (some 4) [] false,.box (some 4) (.pv (some 4) u.pv),.arr (some 4) [] false,.box (some 4) (.pv (some 4) u.pv),.arr (some 4) [] false,.arr (some 4) (Tm.pvs w) false,.box (some 4) (.pv (some 4) u.pv),.arr (some 4) [] false],o.refs=[]/\AObj.beq o o=true:=fun w=>by
    simp_all[VZ,AObj.refs,AV.refsIn,yG,Qh]
   have bT:∀o∈[AObj.arr (some 4) [T.pv] false],o.refs=[]/\AObj.beq o o=true:=fun o ho=>by
    rw[List.mem_singleton.1 ho];exact⟨rfl,VZ (some 4) [T] false⟩
   simp only[Tm.av,eE,<-hl,<-hu] at h1 hlen he ht ht';rcases hc' with⟨k1,k2,k3⟩|⟨k1,k2,k3⟩|⟨k1,k2,k3⟩ <;> rcases ht' with⟨j1,j2,j3⟩|⟨j1,j2,j3⟩|⟨j1,j2,j3⟩|⟨j1,j2,j3⟩
   all_goals
    simp -dsimp -implicitDefEqProofs only[go_sem,seval,Tm.av,zJ,zN,zL,Tm.pvs_len,k1,k2,k3,j1,j2,j3,h1,hn0,hap,hbo,zF,zD (Zd _ _),Ym];rw[Zb (by simp[AV.refsIn])]
    first
    |exact⟨6,_,l,rfl,rfl,rfl,he,by omega,b6 l⟩
    |exact⟨6,_,l++[u],rfl,by rw[zi];rfl,by rw[Tm.zAN];rfl,fun t h=>(Z6.1 h).elim (he t) fun h=>by grind,by grind,by
      have:=b6 (l++[u]);rw[Tm.zAN] at this;exact this⟩
    |exact⟨9,_,[T],rfl,rfl,rfl,fun t h=>by grind,Nat.le_add_left _ _,fun o ho=>by
      grind⟩
theorem nw{Γ:Oracle}{b:Nat}{vs:List AV}{hp:Heap}{K:AV->Heap->Prop}{Kp:PV->Heap->Prop}(neg:Bool):opK (aOp Γ b (.slnil neg) vs hp) K Kp=valK (Qr neg vs) fun v=>K v hp:=by
 show opK (match(match Qr neg vs with|some v=>some (v,hp)|none=>none) with|some (v,hp')=>some (OpRes.val v hp')|none=>none) K Kp=_;cases Qr neg vs <;> rfl
theorem ny{Γ:Oracle}{b:Nat}{vs:List AV}{hp:Heap}{K:AV->Heap->Prop}{Kp:PV->Heap->Prop}[Tag K][Tag Kp](sh:Sh):opK (aOp Γ b (.storex sh) vs hp) K Kp=YD (xk sh b hp vs) K:=by
 show opK (match(xk sh b hp vs) with|some (v,hp')=>some (OpRes.val v hp')|none=>none) K Kp=_;cases (xk sh b hp vs) with
 |none=>rfl
 |some r=>cases r;rfl
theorem nz(es:List PV)(hne:0<es.length)(hl:es.length<=10)(hp:Heap):S 138 [.pv none (.sl (some 4) es)] hp=some (.ret (.sl (some 4) (hp.length+1) es.length 0 es.length),hp++[.arr (some 4) [] false,.arr (some 4) es false]):=by
 refine Yj rfl rfl rfl rfl ?_;have hlim:es.length<=lim:=by grind [lim]
 have happ:∀H:Heap,z8 (some 4) H [.tsl (some 4) [],.pv none (.sl (some 4) es)]=some (.sl (some 4) H.length es.length 0 es.length,H++[.arr (some 4) es false]):=fun H=>by
  grind [z8,aappend,elems]
 have hni:Qr false [.pv none (.sl (some 4) es)]=some (P5 false):=by
  cases es with
  |nil=>grind
  |cons x r=>rfl
 simp -dsimp -implicitDefEqProofs only[go_sem,seval,nw,hni,hlim,happ,Xo (sh:=some 4) (by decide)]
 grind [AV.refsIn]
def ansT(g:Tm)(fs:List Tm):Tm:=.mk g.kind 0 g.name (fs++g.args.drop fs.length)
theorem V0{l:List Prc}:PV.beqs (Prc.pvs l) (Prc.pvs l)=true:=by
 have hs:∀s:Sto,PV.beq s.pv s.pv=true:=fun s=>by simp[Sto.pv,Cz.pv,PV.beq,PV.beqc,xB]
 have hl:∀l:List Sto,PV.beqs (Sto.pvs l) (Sto.pvs l)=true:=fun l=>by
  induction l with
  |nil=>rfl
  |cons x r ih=>
   grind [PV.beqs,Sto.pvs]
 induction l with
 |nil=>rfl
 |cons x r ih=>
  simp_all[PV.beq,PV.beqs,Prc.pvs,Prc.pv,PV.beqc]
theorem Bj(d:Dbs)(g:Tm)(q m:Nat):AObj.beq (.box (some 7) (cB d g (slA q m))) (.box (some 7) (cB d g (slA q m)))=true:=by
 simp[cB,AObj.beq,AV.beq,AV.beqc,xB,Dbs.pv,PV.beq,PV.beqc,V0]
theorem Kc(d:Dbs)(g:Tm)(s:AV):AV.part deep (cB d g s) 6 none=some s:=rfl
theorem nA(d:Dbs)(g:Tm)(s:AV):AV.part deep (cB d g s) 2 none=some (P4 g.kind):=by cases g;rfl
theorem V1(d:Dbs)(g:Tm)(s:AV):AV.part deep (cB d g s) 4 none=some (P6 g.name):=by cases g;rfl
theorem nB(t:Tm)(hv:t.valid=true)(h0:t.kind≠0)(h1:t.kind≠1)(hp:Heap):S 118 [t.av] hp=some (.ret (.tuple [zt.av,P5 true]),hp):=by
 refine zM rfl rfl rfl (zK [(some 4,t.pv)]) rfl ?_;have hb:=Jx t hv h0;have h1':=Zg h1;have hz0:=P0;simp only[Tm.av] at hb;simp -dsimp -implicitDefEqProofs only[go_sem,seval,Tm.av,hb,zJ,h1',hz0,zD (Za _),zF];exact⟨_,rfl⟩
theorem Bk(k:Int)(hp:Heap):S 123 [P4 k] hp=some (.ret (intT k).av,hp):=by
 refine zM rfl rfl rfl (zK [(none,.int .i64 k)]) rfl ?_;have hb:zQ A0 [0,1] [P4 1,P4 k]=some (.agg [(none,P4 1),(none,P4 k),(none,P6 []),(none,.tsl (some 4) [])]):=rfl;simp -dsimp -implicitDefEqProofs only[go_sem,seval,Tm.av,hb,zD (Za _),zF];exact⟨_,rfl⟩
theorem V2(nm:List UInt8)(k:Int)(hn:nm.length<=100)(h0:0<=k)(h8:k<=8)(hp:Heap):S 110 [P6 nm,P4 k] hp=some (.ret (indT nm k).av,hp):=by
 refine zM rfl rfl rfl (zK [(none,.str nm),(none,.int .i64 k)]) rfl ?_;have h1:=xf nm hn;have h2:=Bk k;have h3:∀H,S 126 [P6 [47],.tsl (some 4) [(zO nm).pv,(intT k).pv]] H=some (.ret (indT nm k).av,H):=fun H=>
  xg (ps:=[(none,.str [47]),(none,.sl (some 4) (Tm.pvs [zO nm,intT k]))]) rfl rfl rfl rfl rfl (jY [47] [zO nm,intT k] (by simp) (j6 hn) [])
 have c1:=Zg (show ¬(100:Int)<(nm.length:Int) by omega);have c2:=Zg (show ¬k<0 by omega);have c3':=Zg (show ¬(8:Int)<k by omega);simp only[Tm.av] at h1 h2 h3;simp -dsimp -implicitDefEqProofs only[go_sem,seval,Tm.av,h1,h2,h3,c1,c2,c3',zD (Za _),zF]
 try rfl
end Go.Proofs.YtgedfopkiebjkaaGreatDoor
