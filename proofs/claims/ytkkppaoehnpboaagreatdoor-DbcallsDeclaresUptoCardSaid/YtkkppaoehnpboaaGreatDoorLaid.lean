/- What is proved: databases, lists of names, lists of small numbers among the arguments. -/
import Derived.Test.YtkkppaoehnpboaaGreatDoorCl
import Derived.Test.YtkkppaoehnpboaaGreatDoorBal
import Derived.Test.YtkkppaoehnpboaaGreatDoorLde
import Derived.Test.YtkkppaoehnpboaaGreatDoorAm5
import Derived.Test.YtkkppaoehnpboaaGreatDoorCards
import Derived.Test.YtkkppaoehnpboaaGreatDoorTie
import Derived.ProofKit
import Derived.OpenShut
import Derived.Lay
import Derived.Deep.DeepHandedRow
import Derived.Deep.DeepWitnessRowRef
import Derived.Lib.LaidTab
import Derived.SevenTiedAt
set_option linter.unusedSimpArgs false
set_option linter.unusedVariables false
namespace Go.Proofs.YtkkppaoehnpboaaGreatDoor
open Go.Am Go.ChangeShapes Go.WideShapes Go.ChangeAt Go.RowKit
theorem ni{n:Nat}{p:PV}(h:wt Tryz.prog n 52 p):∃x:Cz,p=x.pv:=by
 obtain⟨m,l,rfl,h'⟩:=ja (ts:=[31,31]) (by kernel_rfl) h;obtain⟨a,l,rfl,ha,h⟩:=XY h';obtain⟨b,l,rfl,hb,h⟩:=XY h;obtain rfl:=jb h;obtain⟨x,rfl,_⟩:=(kz Gm m).1 a ha;obtain⟨y,rfl,_⟩:=(kz Gm m).1 b hb;refine⟨⟨x,y⟩,?_⟩;rw[show shOf Tryz.prog 31=some 4 from by kernel_rfl];rfl
theorem nj{n:Nat}{p:PV}(h:wt Tryz.prog n 54 p):∃x:Sto,p=x.pv:=by
 obtain⟨m,l,rfl,h'⟩:=ja (ts:=[2,52]) (by kernel_rfl) h;obtain⟨a,l,rfl,ha,h⟩:=XY h';obtain⟨b,l,rfl,hb,h⟩:=XY h;obtain rfl:=jb h;obtain⟨x,rfl,_⟩:=kD (by kernel_rfl) ha;obtain⟨y,rfl⟩:=ni hb;refine⟨⟨x,y⟩,?_⟩;rw[show shOf Tryz.prog 2=none from by kernel_rfl,show shOf Tryz.prog 52=some 8 from by kernel_rfl];rfl
theorem nk{n:Nat}{p:PV}(h:wt Tryz.prog n 43 p):∃x:Prc,p=x.pv:=by
 obtain⟨m,l,rfl,h'⟩:=ja (ts:=[9,3,4,41]) (by kernel_rfl) h;obtain⟨a,l,rfl,ha,h⟩:=XY h';obtain⟨b,l,rfl,hb,h⟩:=XY h;obtain⟨c,l,rfl,hc,h⟩:=XY h;obtain⟨d,l,rfl,hd,h⟩:=XY h;obtain rfl:=jb h;obtain⟨x,rfl⟩:=Ga (by kernel_rfl) ha;obtain⟨y,rfl,_⟩:=kD (by kernel_rfl) hb;obtain⟨z,rfl⟩:=Mh (by kernel_rfl) hc;obtain⟨k,es,rfl,he⟩:=jc (e:=54) (by kernel_rfl) hd;obtain⟨gs,rfl,_⟩:=je (f:=Sto.pv) (Q:=fun _=>True) es fun x hx=>by
  obtain⟨g,rfl⟩:=nj (he x hx);exact⟨g,rfl,trivial⟩
 refine⟨⟨x,y,z,gs⟩,?_⟩;rw[show shOf Tryz.prog 9=none from by kernel_rfl,show shOf Tryz.prog 3=none from by kernel_rfl,show shOf Tryz.prog 4=none from by kernel_rfl,show shOf Tryz.prog 41=none from by kernel_rfl,show shOf Tryz.prog 54=some 9 from by kernel_rfl];rfl
theorem nl{n:Nat}{p:PV}(h:wt Tryz.prog n 24 p):∃x:Dbs,p=x.pv:=by
 obtain⟨m,l,rfl,h'⟩:=ja (ts:=[2,22]) (by kernel_rfl) h;obtain⟨a,l,rfl,ha,h⟩:=XY h';obtain⟨b,l,rfl,hb,h⟩:=XY h;obtain rfl:=jb h;obtain⟨x,rfl,_⟩:=kD (by kernel_rfl) ha;obtain⟨k,es,rfl,he⟩:=jc (e:=43) (by kernel_rfl) hb;obtain⟨gs,rfl,_⟩:=je (f:=Prc.pv) (Q:=fun _=>True) es fun x hx=>by
  obtain⟨g,rfl⟩:=nk (he x hx);exact⟨g,rfl,trivial⟩
 refine⟨⟨x,gs⟩,?_⟩;rw[show shOf Tryz.prog 2=none from by kernel_rfl,show shOf Tryz.prog 22=none from by kernel_rfl,show shOf Tryz.prog 43=some 4 from by kernel_rfl];rfl
theorem nn(c:Cz):c.head.size<=c.pv.sz/\c.body.size<=c.pv.sz:=by
 have h1:=Tm.zyW c.head;have h2:=Tm.zyW c.body;simp[Cz.pv,PV.sz,PV.szc];omega
theorem np(s:Sto):s.cl.pv.sz<=s.pv.sz:=by
 simp[Sto.pv,PV.sz,PV.szc];omega
theorem VO:∀l:List Sto,l.length<=PV.szs (Sto.pvs l)/\∀s∈l,s.pv.sz<=PV.szs (Sto.pvs l)
 |[]=>⟨Ze _,fun b hb=>by cases hb⟩
 |x::r=>by
  obtain⟨h1,h2⟩:=VO r;have h4:PV.szs (Sto.pvs (x::r))=x.pv.sz+PV.szs (Sto.pvs r):=by simp[Sto.pvs,PV.szs]
  have h5:1<=x.pv.sz:=by simp[Sto.pv,PV.sz];try omega
  refine⟨by simp only[ZF];omega,fun b hb=> ?_⟩;rcases Zl.1 hb with rfl|hb
  ·omega
  ·have:=h2 b hb;omega
theorem Bv(p:Prc):PV.szs (Sto.pvs p.cls)+1<=p.pv.sz:=by
 simp[Prc.pv,PV.sz,PV.szc];omega
theorem Bw:∀l:List Prc,l.length<=PV.szs (Prc.pvs l)/\totD l<=PV.szs (Prc.pvs l)/\∀p∈l,p.pv.sz<=PV.szs (Prc.pvs l)
 |[]=>⟨Ze _,Ze _,fun b hb=>by cases hb⟩
 |x::r=>by
  obtain⟨h1,h2,h3⟩:=Bw r;have h4:PV.szs (Prc.pvs (x::r))=x.pv.sz+PV.szs (Prc.pvs r):=by simp[Prc.pvs,PV.szs]
  have h5:=Bv x;have h6:=(VO x.cls).1;have h7:totD (x::r)=x.cls.length+totD r:=by simp[totD]
  refine⟨by simp only[ZF];omega,by omega,fun b hb=> ?_⟩;rcases Zl.1 hb with rfl|hb
  ·omega
  ·have:=h3 b hb;omega
theorem nq{d:Dbs}(h:d.pv.sz<=1048576):BndD d:=by
 have h0:PV.szs (Prc.pvs d.procs)<=d.pv.sz:=by
  simp[Dbs.pv,PV.sz,PV.szc];omega
 obtain⟨h1,h2,h3⟩:=Bw d.procs;refine⟨by omega,by omega,fun p hp s hs=> ?_⟩;have g1:=h3 p hp;have g2:=Bv p;have g3:=(VO p.cls).2 s hs;have g4:=np s;have g5:=nn s.cl;omega
set_option maxRecDepth 100000 in
theorem nr{H:Type}{enc:TypeId × Value->H}{W:World}{base:Nat}{v:Value}{d:DataW H}{ps:List MemPlace}(h:DataW.Trod enc Tryz.prog W 0 (fun _=>true) true 24 v d ps)(hv:Value.okWide Tryz.prog W .any base 24 v):
  ∃f:Dbs,AR W (noX (P:=Tryz.prog)) noμ [] f.av v/\f.pv.sz<=Rows.uptoBulk d:=by
 obtain⟨n,p,h1,h2,h3⟩:=kL (by decide) (by kernel_rfl) h hv;obtain⟨f,rfl⟩:=nl h2;rw[show shOf Tryz.prog 24=some 2 from by kernel_rfl] at h1;exact⟨f,h1,h3⟩
theorem VP:∀l:List PV,(∀x∈l,1<=x.sz)->l.length<=PV.szs l
 |[],_=>Ze _
 |x::r,h=>by
  have h1:=h x (by simp);have h2:=VP r fun y hy=>h y (Zy _ hy);have h4:PV.szs (x::r)=x.sz+PV.szs r:=by simp[PV.szs]
  rw[h4,ZF];omega
set_option maxRecDepth 100000 in
theorem nu{H:Type}{enc:TypeId × Value->H}{W:World}{base:Nat}{v:Value}{d:DataW H}{ps:List MemPlace}(h:DataW.Trod enc Tryz.prog W 0 (fun _=>true) true 25 v d ps)(hv:Value.okWide Tryz.prog W .any base 25 v):
  ∃l:List (List UInt8),AR W (noX (P:=Tryz.prog)) noμ [] (.pv none (.sl none (strs l))) v/\l.length<=Rows.uptoBulk d:=by
 obtain⟨n,p,h1,h2,h3⟩:=kL (by decide) (by kernel_rfl) h hv;obtain⟨k,es,rfl,he⟩:=jc (e:=9) (by kernel_rfl) h2;obtain⟨l,rfl,_⟩:=je (f:=PV.str) (Q:=fun _=>True) es fun x hx=>by
  obtain⟨g,rfl⟩:=Ga (by kernel_rfl) (he x hx);exact⟨g,rfl,trivial⟩
 rw[show shOf Tryz.prog 25=none from by kernel_rfl,show shOf Tryz.prog 9=none from by kernel_rfl] at h1;refine⟨l,h1,ZV ?_ h3⟩;have:=VP (l.map PV.str) fun x hx=>by
  obtain⟨y,_,rfl⟩:=Z0.1 hx;simp[PV.sz]
 rw[Z8] at this;simp[PV.sz];omega
set_option maxRecDepth 100000 in
theorem nw{H:Type}{enc:TypeId × Value->H}{W:World}{base:Nat}{v:Value}{d:DataW H}{ps:List MemPlace}(h:DataW.Trod enc Tryz.prog W 0 (fun _=>true) true 26 v d ps)(hv:Value.okWide Tryz.prog W .any base 26 v):
  ∃l:List Int,AR W (noX (P:=Tryz.prog)) noμ [] (.pv none (.sl none (i8s l))) v/\(∀k∈l,-128<=k/\k<128)/\l.length<=Rows.uptoBulk d:=by
 obtain⟨n,p,h1,h2,h3⟩:=kL (by decide) (by kernel_rfl) h hv;obtain⟨k,es,rfl,he⟩:=jc (e:=35) (by kernel_rfl) h2;obtain⟨l,rfl,hl⟩:=Gp (k:=.i8) es fun x hx=>MD (by kernel_rfl) (he x hx);rw[show shOf Tryz.prog 26=none from by kernel_rfl,show shOf Tryz.prog 35=none from by kernel_rfl] at h1;refine⟨l,h1,fun k hk=> ?_,ZV ?_ h3⟩
 ·have:=hl k hk;have e1:IntKind.i8.min= -128:=by decide
  have e2:IntKind.i8.max=127:=by decide
  simp[Lit.wf,e1,e2] at this;omega
 ·have:=VP (l.map (PV.int .i8)) fun x hx=>by
   obtain⟨y,_,rfl⟩:=Z0.1 hx;simp[PV.sz]
  rw[Z8] at this;simp[PV.sz];omega
def jK:List (String × DataW Unit):=[("unicode.White_Space",Rows.laid_unicode_White_Space),("strings.asciiSpace",Rows.laid_strings_asciiSpace)]
noncomputable def VQ(os:Os):World:=World.laidAll Tryz.prog os jK
theorem ny(os:Os)(args:Array Value):laidMet Tryz.prog jK ((VQ os).forCall (fun _ _=>0) ⟨#[],args,[]⟩).memory:=laidMet_laidAll args (by kernel_rfl) (by kernel_rfl)
theorem gTab:Tryz.prog.globalNamed "strings.asciiSpace" =some 0:=by kernel_rfl
theorem gTabType:(Tryz.prog.globals[0]?).map (·.type)=some 101:=by kernel_rfl
theorem nz:Tryz.prog.cellsOf 101=256:=by kernel_rfl
theorem nA:Tryz.prog.cellsOf 5=1:=by kernel_rfl
theorem nB:Rows.laid_strings_asciiSpace (H:=Unit)=Lib.tabData .u8 Lib.asciiSpaceTab:=by kernel_rfl
theorem nC{W:World}(h:laidMetH Tryz.prog jK W):TabR Tryz.prog W fun _=>True:=by
 have h0:laidMet Tryz.prog jK W:=h;obtain⟨ps,⟨g1,t1,cs1,fuel1,p1,q1,_,_,_,_,⟨g,t,cs,fuel,p,q,hg,ht,hvar,hd,_,_⟩,_⟩,_⟩:=h0;obtain rfl:=Option.some.inj (gTab.symm.trans hg);obtain rfl:=Option.some.inj (gTabType.symm.trans ht);rw[nB] at hd;have hcs:=Lib.cells_of_tab Tryz.underlying101 Tryz.underlying5 nA nz hd;refine Mm (fun _=>trivial) fun g' hg'=> ?_;obtain rfl:=Option.some.inj (gTab.symm.trans hg');unfold World.var? at hvar;rw[gTab] at hvar;simp only[Option.bind_some] at hvar;split at hvar
 ·rename_i c t fr hb;cases hvar;refine⟨t,fr,?_⟩;rw[hb,<-hcs]
 ·cases hvar
end Go.Proofs.YtkkppaoehnpboaaGreatDoor
