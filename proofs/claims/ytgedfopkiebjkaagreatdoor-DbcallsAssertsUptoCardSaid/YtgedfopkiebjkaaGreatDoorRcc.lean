/- What is proved: what the rows' lists of variables give: the library's table of white space. -/
import Derived.Test.YtgedfopkiebjkaaGreatDoorTerm
import Derived.Test.YtgedfopkiebjkaaGreatDoorCards
import Derived.Test.YtgedfopkiebjkaaGreatDoorTie
import Derived.ProofKit
import Derived.OpenShut
import Derived.Lay
import Derived.Deep.DeepHandedRow
import Derived.Deep.DeepWitnessRowRef
import Derived.Lib.LaidTab
import Derived.SevenTiedAt
import Derived.Test.YtgedfopkiebjkaaGreatDoorVal
import Derived.Test.YtgedfopkiebjkaaGreatDoorAm5
import Derived.Test.YtgedfopkiebjkaaGreatDoorDataF
set_option linter.unusedSimpArgs false
set_option linter.unusedVariables false
set_option maxRecDepth 20000
namespace Go.Proofs.YtgedfopkiebjkaaGreatDoor
open Go.Am Go.ChangeShapes Go.WideShapes Go.ChangeAt Go.RowKit
def jI:List (String × DataW Unit):=[("unicode.White_Space",Rows.laid_unicode_White_Space),("strings.asciiSpace",Rows.laid_strings_asciiSpace)]
noncomputable def VM(os:Os):World:=World.laidAll Tryz.prog os jI
theorem nu(os:Os)(args:Array Value):laidMet Tryz.prog jI ((VM os).forCall (fun _ _=>0) ⟨#[],args,[]⟩).memory:=laidMet_laidAll args (by kernel_rfl) (by kernel_rfl)
theorem gTab:Tryz.prog.globalNamed "strings.asciiSpace" =some 0:=by kernel_rfl
theorem gTabType:(Tryz.prog.globals[0]?).map (·.type)=some 125:=by kernel_rfl
theorem nw:Tryz.prog.cellsOf 125=256:=by kernel_rfl
theorem ny:Tryz.prog.cellsOf 5=1:=by kernel_rfl
theorem nz:Rows.laid_strings_asciiSpace (H:=Unit)=Lib.tabData .u8 Lib.asciiSpaceTab:=by kernel_rfl
theorem nA{W:World}(h:laidMetH Tryz.prog jI W):TabR Tryz.prog W fun _=>True:=by
 have h0:laidMet Tryz.prog jI W:=h;obtain⟨ps,⟨g1,t1,cs1,fuel1,p1,q1,_,_,_,_,⟨g,t,cs,fuel,p,q,hg,ht,hvar,hd,_,_⟩,_⟩,_⟩:=h0;obtain rfl:=Option.some.inj (gTab.symm.trans hg);obtain rfl:=Option.some.inj (gTabType.symm.trans ht);rw[nz] at hd;have hcs:=Lib.cells_of_tab Tryz.underlying125 Tryz.underlying5 ny nw hd;refine m5 (fun _=>trivial) fun g' hg'=> ?_;obtain rfl:=Option.some.inj (gTab.symm.trans hg');unfold World.var? at hvar;rw[gTab] at hvar;simp only[Option.bind_some] at hvar;split at hvar
 ·rename_i c t fr hb;cases hvar;refine⟨t,fr,?_⟩;rw[hb,<-hcs]
 ·cases hvar
end Go.Proofs.YtgedfopkiebjkaaGreatDoor
namespace Go.Proofs.YtgedfopkiebjkaaGreatDoor
open Go.Am
theorem nB:∀(t:Tm) (hp:Heap),t.size<1000000000->S 132 [t.av] hp=some (.ret t.av,hp):=by
 intro t
 induction t using Tm.zA6 with
 |h t ih=>
  intro hp ht;have hts:=t.size_eq;have hlen:=Tm.zA5 t.args;refine zM rfl rfl rfl (zJ [(some 4,t.pv)]) rfl ?_;have hb:zT A0 [0,1,2] [P4 t.kind,P4 t.n,P6 t.name]=some (.agg [(none,P4 t.kind),(none,P4 t.n),(none,P6 t.name),(none,.tsl (some 4) [])]):=rfl;simp -dsimp -implicitDefEqProofs only[go_sem,seval,Tm.av,zO,Yd,zU,zK,Tm.pvs_len,hb,zH (Za _)];refine Ye (α:=Unit) t.args.length (fun _ _=>True) (fun i _=>⟨[(1,.ptr 0 0),(2,.ptr 1 0),(3,.ptr 3 0),(4,P4 i)],appH 0 t i⟩) () ⟨trivial,rfl⟩ ?_ ?_
  ·rintro i - h -;have hc:(i:Int)<(t.args.length:Int):=by omega
   obtain⟨u,hu⟩:∃u,t.args[i]? =some u:=⟨_,Zd h⟩;have hum:=Zj hu;have husz:=Tm.zBb hum;have hcall:=fun hp=>ih u hum hp (by omega);simp only[Tm.av] at hcall;have w2:IntKind.i64.wrap ((i:Int)+1)=((i+1:Nat):Int):=by rw[zW (by omega) (by omega)];omega
   have hl:(Tm.pvs (t.args.take i)).length=i:=by rw[Tm.pvs_len,Zw];omega
   have hlim:i+1<=lim:=by unfold lim;omega
   simp -dsimp -implicitDefEqProofs only[go_sem,seval,appH,zK,Tm.pvs_len,hc,zQ (Tm.pvs_get hu),hcall,w2,hl,hlim,Tm.zA9 hu,zH (Za _),Y4 (Za _)];exact⟨(),rfl⟩
  ·rintro - -;have hc:¬(t.args.length:Int)<(t.args.length:Int):=by omega
   simp -dsimp -implicitDefEqProofs only[go_sem,seval,appH,zK,Tm.pvs_len,hc,ZF,zN,zH (Za _),Y4 (Za _)];exact Nw t rfl
end Go.Proofs.YtgedfopkiebjkaaGreatDoor
namespace Go.Proofs.YtgedfopkiebjkaaGreatDoor
open Go.Am
def arg0(t:Tm):Tm:=match t.args with
 |x::_=>x
 |_=>.mk 0 0 [] []
def arg1(t:Tm):Tm:=match t.args with
 |_::y::_=>y
 |_=>.mk 0 0 [] []
theorem args_two{t:Tm}(h:t.args.length=2):t.args=[arg0 t,arg1 t]:=by
 unfold arg0 arg1
 match e:t.args,h with
 |[x,y],_=>rfl
theorem nC{t:Tm}(h:t.args.length=2):t.args[1]? =some (arg1 t):=by grind [args_two]
theorem Bg{t:Tm}(h:t.args.length=2):arg1 t∈t.args:=Zj (nC h)
def nilT:Tm:=.mk 2 0 [91,93] []
theorem fit9{t:Tm}(h:t.valid=true):t.size<1000000000:=by grind [valid_size]
def zg(q:Nat):AV:=.agg [(none,P4 0),(none,P4 0),(none,P6 []),(none,.sl (some 4) q 0 0 0)]
theorem xT:∀t:Tm,PV.beq t.pv t.pv=true:=by
 intro t
 induction t using Tm.zA6 with
 |h t ih=>
  cases t with
  |mk k n s ts=>
   have:∀l:List Tm,(∀u∈l,PV.beq u.pv u.pv=true)->PV.beqs (Tm.pvs l) (Tm.pvs l)=true:=by
    intro l
    induction l with
    |nil=>intro _;rfl
    |cons x r ihr=>grind [Tm.pvs,PV.beqs]
   simp[Tm.pv,PV.beq,PV.beqc,this ts ih]
def cs(t:Tm):Prop:=t.kind=3/\t.name=[46]/\t.args.length=2
instance (t:Tm):Decidable (cs t):=inferInstanceAs (Decidable (_/\_))
def tl(t:Tm):Tm:=if h:cs t then tl (arg1 t) else t
termination_by t.size
decreasing_by exact Tm.zBb (Bg h.2.2)
def els(t:Tm):List Tm:=if h:cs t then arg0 t::els (arg1 t) else[]
termination_by t.size
decreasing_by exact Tm.zBb (Bg h.2.2)
end Go.Proofs.YtgedfopkiebjkaaGreatDoor
namespace Go.Proofs.YtgedfopkiebjkaaGreatDoor
open Go.Am
def zR(nm:List UInt8):Tm:=.mk 2 0 nm []
def strT(nm:List UInt8)(l:List Tm):Tm:=.mk 3 0 nm l
theorem xU{nm:List UInt8}(h:nm.length<=100):(zR nm).valid=true:=by
 have:(nm.length:Int)<=100:=by omega
 refine xj ?_ (by have:(zR nm).size=1:=rfl;omega)
 grind [zR,Tm.fits,Tm.fitsAll,Tm.node,Tm.kind,Tm.n,Tm.name,Tm.args]
theorem XY{nm:List UInt8}{l:List Tm}(h:nm.length<=100)(h1:0<l.length)(h2:l.length<=8)(hl:Tm.fitsAll l=true):(strT nm l).fits=true:=by
 grind [strT,Tm.fits,Tm.node,Tm.kind,Tm.n,Tm.name,Tm.args]
theorem xn(nm:List UInt8)(h:nm.length<=100)(hp:Heap):S 45 [P6 nm] hp=some (.ret (zR nm).av,hp):=by
 refine zM rfl rfl rfl (zJ [(none,.str nm)]) rfl ?_;have hv:=xU h;have hb:zT A0 [0,2] [P4 2,P6 nm]=some (.agg [(none,P4 2),(none,P4 0),(none,P6 nm),(none,.tsl (some 4) [])]):=rfl;have hcl:∀H:Heap,S 41 [.agg [(none,P4 2),(none,P4 0),(none,P6 nm),(none,.tsl (some 4) [])]] H=some (.ret (zR nm).av,H):=fun H=>
  yw (F:=find tab) (prim:=prim) (f:=41) (args:=[.agg [(none,P4 2),(none,P4 0),(none,P6 nm),(none,.tsl (some 4) [])]]) (ps:=[(some 4,(zR nm).pv)]) (hp:=H) (hp1:=H) rfl rfl rfl rfl (XA (zR nm) [] hv (fit9 hv))
 simp only[Tm.av] at hcl;simp -dsimp -implicitDefEqProofs only[go_sem,seval,Tm.av,hb,hcl]
 try rfl
theorem jJ(nm:List UInt8)(l:List Tm)(h1:0<l.length)(hv:(strT nm l).valid=true)(hp:Heap):S 126 [P6 nm,.pv none (.sl (some 4) (Tm.pvs l))] hp=some (.ret (strT nm l).av,hp):=by
 refine zM rfl rfl rfl (zJ [(none,.str nm),(none,.sl (some 4) (Tm.pvs l))]) rfl ?_;have hb:zT A0 [0,2,3] [P4 3,P6 nm,.pv none (.sl (some 4) (Tm.pvs l))]=some (.pv (some 4) (strT nm l).pv):=rfl;have hcl:=fun hp=>XA (strT nm l) hp hv (fit9 hv);have hne:=Zi (show ¬(l.length:Int)=0 by omega);simp only[Tm.av] at hcl;simp -dsimp -implicitDefEqProofs only[go_sem,seval,Tm.av,hb,hcl,Tm.pvs_len,hne]
 try rfl
theorem xV{f:FuncId}{fn:AFn}{ps:List (Sh × PV)}{args:List AV}{t:Tm}{hp hp1:Heap}(hp0:prim f=none)(hf:find tab f=some fn)(hm:fn.heapMode=false)(hz:zZ args hp=some (ps,hp1))(hr:fn.rcv=none)(h:S f (pvs ps) []=some (.ret t.av,[])):S f args hp=some (.ret t.av,hp1):=by
 have h:=yw (F:=find tab) (prim:=prim) (f:=f) (args:=args) (ps:=ps) (hp:=hp) (hp1:=hp1) hp0 hf hm hz h hr;have hs:∀t:Tm,t.av.scalar=false:=fun t=>by cases t;rfl
 grind
def errN:List UInt8:=[101,114,114,111,114]
def errT(f:Tm):Tm:=strT errN [f,nilT]
theorem Bh(fn:List UInt8)(l:List Tm)(h1:0<l.length)(hv1:(strT fn l).valid=true)(hv2:(errT (strT fn l)).valid=true)(hp:Heap):S 87 [P6 fn,.pv none (.sl (some 4) (Tm.pvs l))] hp=some (.ret (errT (strT fn l)).av,hp):=by
 refine zM rfl rfl rfl (zJ [(none,.str fn),(none,.sl (some 4) (Tm.pvs l))]) rfl ?_;have ha:=jJ fn l h1 hv1;have hb:=xn [91,93] (by decide);have hc:∀H:Heap,S 126 [P6 errN,.tsl (some 4) [(strT fn l).pv,nilT.pv]] H=some (.ret (errT (strT fn l)).av,H):=fun H=>
  xV (ps:=[(none,.str errN),(none,.sl (some 4) (Tm.pvs [strT fn l,nilT]))]) rfl rfl rfl rfl rfl (jJ errN [strT fn l,nilT] (by simp) hv2 [])
 have e:zR [91,93]=nilT:=rfl;rw[e] at hb;simp only[Tm.av] at ha hb hc;generalize strT fn l=F at*;simp only[errN] at hc;simp -dsimp -implicitDefEqProofs only[go_sem,seval,Tm.av,ha,hb,hc]
 try rfl
def tyN:List UInt8:=[116,121,112,101,95,101,114,114,111,114]
def cul(t:Tm):Tm:=if 2000<t.size+4 then zR [46,46,46] else t
def typT(nm:List UInt8)(t:Tm):Tm:=errT (strT tyN [zR nm,cul t])
theorem nD{t:Tm}(hv:t.valid=true):(cul t).valid=true/\(cul t).size+4<=2000:=by
 unfold cul;split
 ·exact⟨xU (by decide),by have:(zR [46,46,46]).size=1:=rfl;omega⟩
 grind
theorem VN{nm:List UInt8}(hn:nm.length<=100){t:Tm}(hv:t.valid=true):(strT tyN [zR nm,cul t]).valid=true/\(typT nm t).valid=true:=by
 obtain⟨h1,h2⟩:=nD hv;have h3:=xU hn;have f1:(strT tyN [zR nm,cul t]).fits=true:=XY (by decide) (by simp) (by simp) (by grind [Tm.fitsAll,valid_fits]);have s1:(strT tyN [zR nm,cul t]).size=1+(1+((cul t).size+0)):=by rw[Tm.size_eq];rfl
 have f2:(typT nm t).fits=true:=XY (by decide) (by simp) (by simp) (by simp[Tm.fitsAll,f1];decide);have s2:(typT nm t).size=1+((strT tyN [zR nm,cul t]).size+(1+0)):=by
  show(errT _).size=_;rw[Tm.size_eq];rfl
 grind [xj]
theorem P3:∀H:Heap,YS (some 4) H=some (.sl (some 4) H.length 0 0 0,H++[.arr (some 4) [] false]):=fun H=>Xf (sh:=some 4) (by decide)
theorem nE(nm:List UInt8)(hn:nm.length<=100)(t:Tm)(hv:t.valid=true)(hp:Heap):S 88 [t.av,P6 tyN,.pv none (.sl none [.str nm])] hp=some (.ret (typT nm t).av,hp):=by
 refine zM rfl rfl rfl (zJ [(some 4,t.pv),(none,.str tyN),(none,.sl none [.str nm])]) rfl ?_;have hz:=valid_size hv;have h1:=fun hp=>Y8 t hp (by omega);have h2:=fun hp=>qa t hp (by omega);have h3:=xn nm hn;have h4:=xn [46,46,46] (by decide);obtain⟨v1,v2⟩:=VN hn hv;have hn0:=P3;have hmin:min t.size 2001=t.size:=by omega
 rw[hmin] at h2;have hsl:=Zi (show ¬(100:Int)<(nm.length:Int) by omega);have hia:Yc none [.pv none (.sl none [.str nm]),P4 0]=some (.iptr none (.str nm) 0):=rfl;have w1:IntKind.i64.wrap 4=4:=by decide
 have w2:IntKind.i64.wrap ((4:Int)+(t.size:Int))=4+(t.size:Int):=zW (by omega) (by omega);have w3:IntKind.i64.wrap 1=1:=by decide
 have hp0:Tm.pvs []=[]:=rfl;have hra:∀(a0 a1 a2:AObj),S 87 [P6 tyN,.sl (some 4) 3 2 0 2] [a0,a1,a2,.arr (some 4) [(zR nm).pv,(cul t).pv] false]=some (.ret (typT nm t).av,[a0,a1,a2,.arr (some 4) [(zR nm).pv,(cul t).pv] true]):=fun a0 a1 a2=>
  xV (ps:=[(none,.str tyN),(none,.sl (some 4) (Tm.pvs [zR nm,cul t]))]) rfl rfl rfl rfl rfl (Bh tyN [zR nm,cul t] (by simp) v1 v2 [])
 have hl1:(1:Nat)+1<=lim:=by grind [lim]
 have hl0:(0:Nat)+1<=lim:=by grind
 simp only[Tm.av] at h1 h2 h3 h4 hra;simp -dsimp -implicitDefEqProofs only[go_sem,seval,Tm.av,h1,hv,hn0];refine Ye (α:=Unit) 1 (fun _ _=>True) (fun i _=>⟨[(1,P6 tyN),(2,.pv none (.sl none [.str nm])),(3,.ptr 0 0),(6,.ptr 1 0),(7,.sl (some 4) 3 i 0 i),(14,.pv none (.sl none [.str nm])),(15,P4 1),(16,P4 i)],[.box (some 4) (.pv (some 4) t.pv),.box (some 4) (zg 2),.arr (some 4) [] false,.arr (some 4) (Tm.pvs ([zR nm].take i)) false]⟩) () ⟨trivial,rfl⟩ ?_ ?_
 ·rintro i - hi -;have:i=0:=by omega
  subst this;have hc:(0:Int)<(1:Int):=by omega
  have hap:∀a0 a1 a2:AObj,Yg (some 4) [a0,a1,a2,.arr (some 4) [] false] [.sl (some 4) 3 0 0 0,.tsl (some 4) [(zR nm).pv]]=some (.sl (some 4) 3 1 0 1,[a0,a1,a2,.arr (some 4) [(zR nm).pv] false]):=fun _ _ _=>rfl;have htk:Tm.pvs ([zR nm].take 0)=[]:=rfl;have htk1:Tm.pvs ([zR nm].take 1)=[(zR nm).pv]:=rfl;generalize (zR nm).pv=X at*;simp -dsimp -implicitDefEqProofs only[go_sem,seval,zg,htk,hp0,hc,hia,hsl,h3,hap,w3];exact⟨(),by rw[htk1];rfl⟩
 ·rintro - -;have hc:¬(1:Int)<(1:Int):=by omega
  have htk:Tm.pvs ([zR nm].take 1)=[(zR nm).pv]:=rfl;by_cases hbig:(2000:Int)<4+(t.size:Int)
  ·have hcu:cul t=zR [46,46,46]:=by grind [cul]
   have hap:∀(a0 a1 a2:AObj),Yg (some 4) [a0,a1,a2,.arr (some 4) [(zR nm).pv] false] [.sl (some 4) 3 1 0 1,.tsl (some 4) [(zR [46,46,46]).pv]]=some (.sl (some 4) 3 2 0 2,[a0,a1,a2,.arr (some 4) [(zR nm).pv,(zR [46,46,46]).pv] false]):=fun _ _ _=>rfl;rw[hcu] at hra;generalize (zR [46,46,46]).pv=Y at*;generalize (zR nm).pv=X at*;simp -dsimp -implicitDefEqProofs only[go_sem,seval,zg,htk,hc,h2,w1,w2,hbig,h4,hap,hra];rfl
  ·have hcu:cul t=t:=by grind [cul]
   have hap:∀(a0 a1 a2:AObj),Yg (some 4) [a0,a1,a2,.arr (some 4) [(zR nm).pv] false] [.sl (some 4) 3 1 0 1,.tsl (some 4) [t.pv]]=some (.sl (some 4) 3 2 0 2,[a0,a1,a2,.arr (some 4) [(zR nm).pv,t.pv] false]):=fun _ _ _=>rfl;rw[hcu] at hra;generalize (zR nm).pv=X at*;simp -dsimp -implicitDefEqProofs only[go_sem,seval,zg,htk,hc,h2,w1,w2,hbig,hap,hra];rfl
theorem Bi(nm:List UInt8)(hn:nm.length<=100)(t:Tm)(hv:t.valid=true)(hp:Heap):S 48 [P6 nm,t.av] hp=some (.ret (typT nm t).av,hp):=by
 refine zM rfl rfl rfl (zJ [(none,.str nm),(some 4,t.pv)]) rfl ?_;have h1:∀H:Heap,S 88 [t.av,P6 tyN,.tsl none [.str nm]] H=some (.ret (typT nm t).av,H):=fun H=>xV (ps:=[(some 4,t.pv),(none,.str tyN),(none,.sl none [.str nm])]) rfl rfl rfl rfl rfl (nE nm hn t hv []);simp only[Tm.av,tyN] at h1;simp -dsimp -implicitDefEqProofs only[go_sem,seval,Tm.av,h1]
 try rfl
def Xh:List UInt8:=[105,110,115,116,97,110,116,105,97,116,105,111,110,95,101,114,114,111,114]
def instT:Tm:=errT (zR Xh)
theorem Bj:instT.valid=true:=by decide
theorem nF(hp:Heap):S 46 [] hp=some (.ret instT.av,hp):=by
 refine zM (ps:=[]) rfl rfl rfl rfl rfl ?_;have h0:∀H:Heap,S 126 [P6 Xh,.pv none (.sl (some 4) [])] H=some (.ret (zR Xh).av,H):=fun H=>by
  refine zM rfl rfl rfl (zJ [(none,.str Xh),(none,.sl (some 4) [])]) rfl ?_;have ha:=xn Xh (by decide);simp only[Tm.av] at ha;simp -dsimp -implicitDefEqProofs only[go_sem,seval,Tm.av,ha]
  try rfl
 have h1:∀H:Heap,S 87 [P6 Xh,.tsl (some 4) []] H=some (.ret instT.av,H):=fun H=>xV (ps:=[(none,.str Xh),(none,.sl (some 4) [])]) rfl rfl rfl rfl rfl (by
  refine zM rfl rfl rfl (zJ [(none,.str Xh),(none,.sl (some 4) [])]) rfl ?_;have hb:=xn [91,93] (by decide);have hc:∀H:Heap,S 126 [P6 errN,.tsl (some 4) [(zR Xh).pv,nilT.pv]] H=some (.ret instT.av,H):=fun H=>
   xV (ps:=[(none,.str errN),(none,.sl (some 4) (Tm.pvs [zR Xh,nilT]))]) rfl rfl rfl rfl rfl (jJ errN [zR Xh,nilT] (by decide) Bj [])
  have e:zR [91,93]=nilT:=rfl;rw[e] at hb;simp only[Tm.av,errN] at h0 hb hc;generalize (zR Xh).pv=X at*;simp -dsimp -implicitDefEqProofs only[go_sem,seval,Tm.av,h0,hb,hc]
  try rfl)
 simp only[Tm.av,Xh] at h1;simp -dsimp -implicitDefEqProofs only[go_sem,seval,Tm.av,h1]
 try rfl
end Go.Proofs.YtgedfopkiebjkaaGreatDoor
namespace Go.Proofs.YtgedfopkiebjkaaGreatDoor
open Go.Am
def culk(k:Nat)(t:Tm):Tm:=if 2000<3+k+t.size then zR [46,46,46] else t
def gErr(fnm:List UInt8)(nms:List (List UInt8))(t:Tm):Tm:=strT fnm (nms.map zR++[culk nms.length t])
theorem Bk:∀(nms:List (List UInt8)) (l:List Tm),(∀x∈nms,x.length<=100)->Tm.fitsAll l=true->Tm.fitsAll (nms.map zR++l)=true
 |[],l,_,h=>h
 |x::r,l,h,hl=>by
  simp only[ZU,Zs,Tm.fitsAll,Zk];exact⟨valid_fits (xU (h x (by simp))),Bk r l (fun y hy=>h y (by grind)) hl⟩
theorem Bl:∀(nms:List (List UInt8)) (t:Tm),Tm.sizes (nms.map zR++[t])=nms.length+(t.size+0)
 |[],t=>by simp[Tm.sizes]
 |x::r,t=>by
  have ih:=Bl r t;show(zR x).size+Tm.sizes (r.map zR++[t])=_;have:(zR x).size=1:=rfl
  grind
theorem Bm{fnm:List UInt8}{nms:List (List UInt8)}{t:Tm}(hf:fnm.length<=100)(hn:∀x∈nms,x.length<=100)(hl:nms.length<=3)(hv:t.valid=true):(gErr fnm nms t).valid=true/\(errT (gErr fnm nms t)).valid=true:=by
 have hc:(culk nms.length t).valid=true/\(culk nms.length t).size+nms.length+3<=2000:=by
  unfold culk;split
  ·exact⟨xU (by decide),by have:(zR [46,46,46]).size=1:=rfl;omega⟩
  grind
 have f1:(gErr fnm nms t).fits=true:=XY hf (by simp) (by grind) (Bk nms _ hn (by grind [Tm.fitsAll,valid_fits]));have s1:(gErr fnm nms t).size=1+(nms.length+((culk nms.length t).size+0)):=by
  rw[Tm.size_eq,<-Bl];rfl
 have f2:(errT (gErr fnm nms t)).fits=true:=XY (by decide) (by simp) (by simp) (by simp[Tm.fitsAll,f1];decide);have s2:(errT (gErr fnm nms t)).size=1+((gErr fnm nms t).size+(1+0)):=by
  rw[Tm.size_eq];rfl
 grind [xj]
theorem nG(fnm:List UInt8)(hf:fnm.length<=100)(nms:List (List UInt8))(hn:∀x∈nms,x.length<=100)(hl:nms.length<=3)(t:Tm)(hv:t.valid=true)(hp:Heap):S 88 [t.av,P6 fnm,.pv none (.sl none (nms.map .str))] hp=some (.ret (errT (gErr fnm nms t)).av,hp):=by
 refine zM rfl rfl rfl (zJ [(some 4,t.pv),(none,.str fnm),(none,.sl none (nms.map .str))]) rfl ?_;have hz:=valid_size hv;have h1:=fun hp=>Y8 t hp (by omega);have h2:=fun hp=>qa t hp (by omega);have h4:=xn [46,46,46] (by decide);obtain⟨v1,v2⟩:=Bm hf hn hl hv;have hn0:=P3;have hmin:min t.size 2001=t.size:=by omega
 rw[hmin] at h2;have hsl:(nms.map PV.str).length=nms.length:=by simp
 have hra:∀(a0 a1 a2:AObj) (u:Tm),culk nms.length t=u->S 87 [P6 fnm,.sl (some 4) 3 (nms.length+1) 0 (nms.length+1)] [a0,a1,a2,.arr (some 4) (Tm.pvs (nms.map zR)++[u.pv]) false]=some (.ret (errT (gErr fnm nms t)).av,[a0,a1,a2,.arr (some 4) (Tm.pvs (nms.map zR)++[u.pv]) true]):=fun a0 a1 a2 u hu=>by
  subst hu;have e:Tm.pvs (nms.map zR)++[(culk nms.length t).pv]=Tm.pvs (nms.map zR++[culk nms.length t]):=by rw[Tm.zBr];rfl
  rw[e];refine xV (ps:=[(none,.str fnm),(none,.sl (some 4) (Tm.pvs (nms.map zR++[culk nms.length t])))]) rfl rfl rfl ?_ rfl (Bh fnm (nms.map zR++[culk nms.length t]) (by simp) v1 v2 []);simp_all[Tm.pvs_len,zZ,AV.freeze,deep,AV.shp]
 have hnl:nms.length+1<=lim:=by grind [lim]
 have hal:(Tm.pvs (nms.map zR)).length=nms.length:=by grind [Tm.pvs_len]
 have w1:IntKind.i64.wrap (3+(nms.length:Int))=3+(nms.length:Int):=zW (by omega) (by omega);have w2:IntKind.i64.wrap (3+(nms.length:Int)+(t.size:Int))=3+(nms.length:Int)+(t.size:Int):=zW (by omega) (by omega);simp only[Tm.av] at h1 h2 h4 hra;simp -dsimp -implicitDefEqProofs only[go_sem,seval,Tm.av,h1,hv,hn0,hsl];refine Ye (α:=Unit) nms.length (fun _ _=>True) (fun i _=>⟨[(1,P6 fnm),(2,.pv none (.sl none (nms.map .str))),(3,.ptr 0 0),(6,.ptr 1 0),(7,.sl (some 4) 3 i 0 i),(14,.pv none (.sl none (nms.map .str))),(15,P4 nms.length),(16,P4 i)],[.box (some 4) (.pv (some 4) t.pv),.box (some 4) (zg 2),.arr (some 4) [] false,.arr (some 4) (Tm.pvs ((nms.map zR).take i)) false]⟩) () ⟨trivial,rfl⟩ ?_ ?_
 ·rintro i - hi -;have hc:(i:Int)<(nms.length:Int):=by omega
  obtain⟨nm,hnm⟩:∃nm,nms[i]? =some nm:=⟨_,Zd hi⟩;have hnl2:=hn nm (Zj hnm);have h3:=xn nm hnl2;have hsl2:=Zi (show ¬(100:Int)<(nm.length:Int) by omega);have hia:∀s k,Yc none [.pv s (.sl none (nms.map PV.str)),.pv none (.int k i)]=some (.iptr none (.str nm) 0):=fun s k=>zQ (by grind);have w3:IntKind.i64.wrap ((i:Int)+1)=((i+1:Nat):Int):=by grind [zW]
  have hil:i+1<=lim:=by grind
  have hpl:(Tm.pvs ((nms.map zR).take i)).length=i:=by grind [Tm.pvs_len]
  have htk:Tm.pvs ((nms.map zR).take i)++[(zR nm).pv]=Tm.pvs ((nms.map zR).take (i+1)):=Tm.zA9 (by grind);have hap:∀a0 a1 a2:AObj,Yg (some 4) [a0,a1,a2,.arr (some 4) (Tm.pvs ((nms.map zR).take i)) false] [.sl (some 4) 3 i 0 i,.tsl (some 4) [(zR nm).pv]]=some (.sl (some 4) 3 (i+1) 0 (i+1),[a0,a1,a2,.arr (some 4) (Tm.pvs ((nms.map zR).take (i+1))) false]):=fun _ _ _=>by
   simp_all[Yg,aappend,elems]
  simp only[Tm.av] at h3;generalize (zR nm).pv=X at*;simp -dsimp -implicitDefEqProofs only[go_sem,seval,zg,hc,hia,hsl2,h3,hap,w3];exact⟨(),rfl⟩
 ·rintro - -;have hc:¬(nms.length:Int)<(nms.length:Int):=by omega
  have htk:Tm.pvs ((nms.map zR).take nms.length)=Tm.pvs (nms.map zR):=by grind [Zl]
  rw[htk];have hap:∀(a0 a1 a2:AObj) (Y:PV),Yg (some 4) [a0,a1,a2,.arr (some 4) (Tm.pvs (nms.map zR)) false] [.sl (some 4) 3 nms.length 0 nms.length,.tsl (some 4) [Y]]=some (.sl (some 4) 3 (nms.length+1) 0 (nms.length+1),[a0,a1,a2,.arr (some 4) (Tm.pvs (nms.map zR)++[Y]) false]):=fun _ _ _ Y=>by
   simp_all[Yg,aappend,elems]
  by_cases hbig:(2000:Int)<3+(nms.length:Int)+(t.size:Int)
  ·have hcu:culk nms.length t=zR [46,46,46]:=by grind [culk]
   have hra':=fun a0 a1 a2=>hra a0 a1 a2 _ hcu;generalize (zR [46,46,46]).pv=Y at*;simp -dsimp -implicitDefEqProofs only[go_sem,seval,zg,hc,h2,hsl,w1,w2,hbig,h4,hap,hra'];rfl
  ·have hcu:culk nms.length t=t:=by grind [culk]
   have hra':=fun a0 a1 a2=>hra a0 a1 a2 _ hcu;simp -dsimp -implicitDefEqProofs only[go_sem,seval,zg,hc,h2,hsl,w1,w2,hbig,hap,hra'];rfl
def peN:List UInt8:=[112,101,114,109,105,115,115,105,111,110,95,101,114,114,111,114]
def perT(a b:List UInt8)(t:Tm):Tm:=errT (gErr peN [a,b] t)
theorem nI(a b:List UInt8)(ha:a.length<=100)(hb:b.length<=100)(t:Tm)(hv:t.valid=true)(hp:Heap):S 120 [P6 a,P6 b,t.av] hp=some (.ret (perT a b t).av,hp):=by
 refine zM rfl rfl rfl (zJ [(none,.str a),(none,.str b),(some 4,t.pv)]) rfl ?_;have h1:∀H:Heap,S 88 [t.av,P6 peN,.tsl none [.str a,.str b]] H=some (.ret (perT a b t).av,H):=fun H=>xV (ps:=[(some 4,t.pv),(none,.str peN),(none,.sl none [.str a,.str b])]) rfl rfl rfl rfl rfl (nG peN (by decide) [a,b] (by grind) (by simp) t hv []);simp only[Tm.av,peN] at h1;simp -dsimp -implicitDefEqProofs only[go_sem,seval,Tm.av,h1]
 try rfl
end Go.Proofs.YtgedfopkiebjkaaGreatDoor
namespace Go.Proofs.YtgedfopkiebjkaaGreatDoor
open Go.Am
def intT(k:Int):Tm:=.mk 1 k [] []
def indT(nm:List UInt8)(k:Int):Tm:=.mk 3 0 [47] [zR nm,intT k]
theorem nJ(k:Int):(intT k).fits=true:=by
 simp[intT,Tm.fits,Tm.fitsAll,Tm.node,Tm.kind,Tm.n,Tm.name,Tm.args]
theorem Bn{nm:List UInt8}{k:Int}(h:nm.length<=100):(indT nm k).valid=true:=by
 refine xj (XY (nm:=[47]) (by decide) (by simp) (by simp) (by simp[Tm.fitsAll,valid_fits (xU h),nJ])) ?_;have:(indT nm k).size=3:=rfl;omega
theorem nK(t:Tm)(hv:t.valid=true)(hk:t.kind≠0)(hp:Heap):S 139 [t.av] hp=some (.ret (.tuple [zt.av,P5 true]),hp):=by
 refine zM rfl rfl rfl (zJ [(some 4,t.pv)]) rfl ?_;have h1:=fun hp=>Y8 t hp (by grind [valid_size]);have hk':=Zi hk;have hz0:=P1;rw[hv] at h1;simp only[Tm.av] at h1;simp -dsimp -implicitDefEqProofs only[go_sem,seval,Tm.av,zO,h1,hk',hz0,zH (Za _),zN];exact⟨_,rfl⟩
end Go.Proofs.YtgedfopkiebjkaaGreatDoor
namespace Go.Proofs.YtgedfopkiebjkaaGreatDoor
open Go.Am
def strs(l:List (List UInt8)):List PV:=l.map .str
theorem nL(l:List (List UInt8)):(strs l).length=l.length:=by simp[strs]
theorem Bo{l:List (List UInt8)}{i:Nat}{s:List UInt8}(h:l[i]? =some s):(strs l)[i]? =some (.str s):=by simp[strs,h]
def idxI:List (List UInt8)->List UInt8->Nat->Int
 |[],_,_=> -1
 |x::r,s,k=>if s=x then k else idxI r s (k+1)
theorem Bp:∀(l:List (List UInt8)) (s:List UInt8) (k:Nat),0<=idxI l s k↔s∈l
 |[],s,k=>by simp[idxI]
 |x::r,s,k=>by
  unfold idxI;split
  ·rename_i h;simp[h]
  ·rename_i h;rw[Bp r s (k+1)];simp[h]
theorem nM(l:List (List UInt8))(s:List UInt8)(hl:l.length<=1000000)(hp:Heap):S 99 [.pv none (.sl none (strs l)),P6 s] hp=some (.ret (P4 (idxI l s 0)),hp):=by
 refine zM rfl rfl rfl (zJ [(none,.sl none (strs l)),(none,.str s)]) rfl ?_;simp -dsimp -implicitDefEqProofs only[go_sem,seval,nL];refine Ye (α:=Unit) l.length (fun i _=>idxI l s 0=idxI (l.drop i) s i) (fun i _=>⟨[(0,.pv none (.sl none (strs l))),(1,P6 s),(7,P4 l.length),(8,P4 i)],[]⟩) () ⟨rfl,rfl⟩ ?_ ?_
 ·rintro i - h hinv;have hc:(i:Int)<(l.length:Int):=by omega
  obtain⟨u,hu⟩:∃u,l[i]? =some u:=⟨_,Zd h⟩;have w2:IntKind.i64.wrap ((i:Int)+1)=((i+1:Nat):Int):=by rw[zW (by omega) (by omega)];omega
  have hd:l.drop i=u::l.drop (i+1):=by
   have hlt:=(Ze.1 hu).1;rw[zF hlt]
   congr 1
   exact(Ze.1 hu).2
  rw[hd,idxI] at hinv;by_cases hs:s=u
  ·rw[Zh hs] at hinv;subst hs;simp -dsimp -implicitDefEqProofs only[go_sem,seval,hc,zQ (Bo hu),hinv]
  ·rw[Zb hs] at hinv;simp -dsimp -implicitDefEqProofs only[go_sem,seval,hc,zQ (Bo hu),hs,w2];exact⟨(),hinv⟩
 ·rintro - hinv;have hc:¬(l.length:Int)<(l.length:Int):=by omega
  rw[List.drop_length,idxI] at hinv;simp -dsimp -implicitDefEqProofs only[go_sem,seval,hc,hinv]
theorem nN(l:List (List UInt8))(s:List UInt8)(hl:l.length<=1000000)(hp:Heap):S 58 [.pv none (.sl none (strs l)),P6 s] hp=some (.ret (P5 (decide (s∈l))),hp):=by
 refine zM rfl rfl rfl (zJ [(none,.sl none (strs l)),(none,.str s)]) rfl ?_;have h:=nM l s hl;have e:decide (0<=idxI l s 0)=decide (s∈l):=by simp[Bp]
 simp -dsimp -implicitDefEqProofs only[go_sem,seval,h,e]
def sp1(l:List UInt8):List UInt8 × List (List UInt8):=l.foldr (fun b r=>if b=32 then([],r.1::r.2) else(b::r.1,r.2)) ([],[])
def sp(l:List UInt8):List (List UInt8):=(sp1 l).1::(sp1 l).2
def rs0:List UInt8:=[116,114,117,101,32,102,97,105,108,32,33,32,104,97,108,116,32,110,108,32,102,108,117,115,104,95,111,117,116,112,117,116,32,97,116,95,101,110,100,95,111,102,95,115,116,114,101,97,109]
def nm0:List (List UInt8):=sp rs0
def rs1:List UInt8:=[92,43,32,111,110,99,101,32,99,97,108,108,32,116,104,114,111,119,32,114,101,116,114,97,99,116,32,118,97,114,32,110,111,110,118,97,114,32,97,116,111,109,32,105,110,116,101,103,101,114,32,97,116,111,109,105,99,32,99,111,109,112,111,117,110,100,32,99,97,108,108,97,98,108,101,32,105,115,95,108,105,115,116,32,103,114,111,117,110,100,32,97,115,115,101,114,116,97,32,97,115,115,101,114,116,122,32,97,98,111,108,105,115,104,32,100,121,110,97,109,105,99,32,99,117,114,114,101,110,116,95,112,114,101,100,105,99,97,116,101,32,36,101,114,97,115,101,32,99,117,114,114,101,110,116,95,105,110,112,117,116,32,99,117,114,114,101,110,116,95,111,117,116,112,117,116,32,115,101,116,95,105,110,112,117,116,32,115,101,116,95,111,117,116,112,117,116,32,99,108,111,115,101,32,102,108,117,115,104,95,111,117,116,112,117,116,32,97,116,95,101,110,100,95,111,102,95,115,116,114,101,97,109,32,103,101,116,95,99,104,97,114,32,112,101,101,107,95,99,104,97,114,32,112,117,116,95,99,104,97,114,32,103,101,116,95,99,111,100,101,32,112,101,101,107,95,99,111,100,101,32,112,117,116,95,99,111,100,101,32,110,108,32,114,101,97,100,32,119,114,105,116,101,32,119,114,105,116,101,113,32,119,114,105,116,101,95,99,97,110,111,110,105,99,97,108]
def nm1:List (List UInt8):=sp rs1
def rs2:List UInt8:=[44,32,59,32,45,62,32,61,32,100,101,108,95,97,116,116,114,32,99,97,108,108,32,99,117,114,114,101,110,116,95,99,104,97,114,95,99,111,110,118,101,114,115,105,111,110,32,99,104,97,114,95,99,111,110,118,101,114,115,105,111,110,32,115,101,116,95,112,114,111,108,111,103,95,102,108,97,103,32,99,117,114,114,101,110,116,95,112,114,111,108,111,103,95,102,108,97,103,32,105,115,32,61,58,61,32,61,92,61,32,60,32,62,32,61,60,32,62,61,32,61,61,32,92,61,61,32,64,60,32,64,61,60,32,64,62,32,64,62,61,32,92,61,32,61,46,46,32,99,111,112,121,95,116,101,114,109,32,116,101,114,109,95,118,97,114,105,97,98,108,101,115,32,108,101,110,103,116,104,32,109,115,111,114,116,32,115,111,114,116,32,107,101,121,115,111,114,116,32,97,116,111,109,95,108,101,110,103,116,104,32,97,116,111,109,95,99,104,97,114,115,32,97,116,111,109,95,99,111,100,101,115,32,99,104,97,114,95,99,111,100,101,32,110,117,109,98,101,114,95,99,104,97,114,115,32,110,117,109,98,101,114,95,99,111,100,101,115,32,99,108,97,117,115,101,32,99,108,111,115,101,32,103,101,116,95,99,104,97,114,32,112,101,101,107,95,99,104,97,114,32,112,117,116,95,99,104,97,114,32,103,101,116,95,99,111,100,101,32,112,101,101,107,95,99,111,100,101,32,112,117,116,95,99,111,100,101,32,114,101,97,100,32,114,101,97,100,95,116,101,114,109,32,119,114,105,116,101,32,119,114,105,116,101,113,32,119,114,105,116,101,95,99,97,110,111,110,105,99,97,108,32,119,114,105,116,101,95,116,101,114,109]
def nm2:List (List UInt8):=sp rs2
def rs3:List UInt8:=[99,97,108,108,32,99,97,116,99,104,32,102,105,110,100,97,108,108,32,98,97,103,111,102,32,115,101,116,111,102,32,112,117,116,95,97,116,116,114,32,103,101,116,95,97,116,116,114,32,111,112,32,99,117,114,114,101,110,116,95,111,112,32,99,111,109,112,97,114,101,32,102,117,110,99,116,111,114,32,97,114,103,32,98,101,116,119,101,101,110,32,97,116,111,109,95,99,111,110,99,97,116,32,36,99,108,97,117,115,101,32,36,98,97,103,32,36,115,101,116,32,111,112,101,110,32,114,101,97,100,95,116,101,114,109,32,119,114,105,116,101,95,116,101,114,109]
def nm3:List (List UInt8):=sp rs3
def rs4:List UInt8:=[99,97,108,108,32,111,112,101,110]
def nm4:List (List UInt8):=sp rs4
def rs5:List UInt8:=[99,97,108,108,32,115,117,98,95,97,116,111,109]
def nm5:List (List UInt8):=sp rs5
def rs6:List UInt8:=[99,97,108,108]
def nm6:List (List UInt8):=sp rs6
def qm(n:Int):List (List UInt8):=if n=0 then nm0 else if n=1 then nm1 else if n=2 then nm2 else if n=3 then nm3 else if n=4 then nm4 else if n=5 then nm5 else if n=6 then nm6 else if n=7 then nm6 else if n=8 then nm6 else[]
def rsOf:List PV:=[.str rs0,.str rs1,.str rs2,.str rs3,.str rs4,.str rs5,.str rs6,.str rs6,.str rs6]
theorem QM{s:List UInt8}{l:List (List UInt8)}(h1:decide (s.length<4294967281)=true)(h2:s.all (fun b=>decide (b.toNat<128))=true)(h3:Lib.fields s=l)(hp:Heap):S 59 [P6 s] hp=some (.ret (.pv none (.sl none (strs l))),hp):=by
 have h:QD 59 [P6 s] hp=some (.ret (.pv none (.sl none (strs l))),hp):=by
  unfold QD;simp only[];rw[Zh ⟨Z8 h1,h2⟩,h3];rfl
 rw[S,QB (F:=find tab) (prim:=prim) (p:=QD) rfl];exact h
theorem fl0(hp:Heap):S 59 [P6 rs0] hp=some (.ret (.pv none (.sl none (strs nm0))),hp):=QM (by kernel_rfl) (by kernel_rfl) (by kernel_rfl) hp
theorem fl1(hp:Heap):S 59 [P6 rs1] hp=some (.ret (.pv none (.sl none (strs nm1))),hp):=QM (by kernel_rfl) (by kernel_rfl) (by kernel_rfl) hp
theorem fl2(hp:Heap):S 59 [P6 rs2] hp=some (.ret (.pv none (.sl none (strs nm2))),hp):=QM (by kernel_rfl) (by kernel_rfl) (by kernel_rfl) hp
theorem fl3(hp:Heap):S 59 [P6 rs3] hp=some (.ret (.pv none (.sl none (strs nm3))),hp):=QM (by kernel_rfl) (by kernel_rfl) (by kernel_rfl) hp
theorem fl4(hp:Heap):S 59 [P6 rs4] hp=some (.ret (.pv none (.sl none (strs nm4))),hp):=QM (by kernel_rfl) (by kernel_rfl) (by kernel_rfl) hp
theorem fl5(hp:Heap):S 59 [P6 rs5] hp=some (.ret (.pv none (.sl none (strs nm5))),hp):=QM (by kernel_rfl) (by kernel_rfl) (by kernel_rfl) hp
theorem fl6(hp:Heap):S 59 [P6 rs6] hp=some (.ret (.pv none (.sl none (strs nm6))),hp):=QM (by kernel_rfl) (by kernel_rfl) (by kernel_rfl) hp
theorem nO:S 60 [] []=some (.ret (.pv (some 9) (.agg (rsOf.map fun p=>(none,p)))),[]):=sem_iff.2 ⟨20,by kernel_rfl⟩
theorem xo{n:Int}{r:List UInt8}{l:List (List UInt8)}(h1:¬n<0)(h2:¬8<n)(ha:∀s':Sh,x8 9 [.pv s' (.agg (rsOf.map fun p=>(none,p))),P4 n]=some (P6 r))(hf:∀hp:Heap,S 59 [P6 r] hp=some (.ret (.pv none (.sl none (strs l))),hp))(hl:l.length<=1000000)(s:List UInt8)(hp:Heap):S 18 [P6 s,P4 n] hp=some (.ret (P5 (decide (s∈l))),hp):=by
 refine zM rfl rfl rfl (zJ [(none,.str s),(none,.int .i64 n)]) rfl ?_;have hr:=nO;have hc:=nN l s hl;generalize decide (s∈l)=q at hc;simp -dsimp -implicitDefEqProofs only[go_sem,seval,hr,h1,h2,ha,hf,hc]
theorem Br(s:List UInt8)(n:Int)(hp:Heap):S 18 [P6 s,P4 n] hp=some (.ret (P5 (decide (s∈qm n))),hp):=by
 by_cases hn:n<0\/8<n
 ·have e:qm n=[]:=by
   unfold qm;simp only[show ¬n=0 by omega,show ¬n=1 by omega,show ¬n=2 by omega,show ¬n=3 by omega,show ¬n=4 by omega,show ¬n=5 by omega,show ¬n=6 by omega,show ¬n=7 by omega,show ¬n=8 by omega,if_false]
  rw[e];refine zM rfl rfl rfl (zJ [(none,.str s),(none,.int .i64 n)]) rfl ?_;by_cases h:n<0
  ·simp -dsimp -implicitDefEqProofs only[go_sem,seval,h];simp
  ·have h2:8<n:=by omega
   simp -dsimp -implicitDefEqProofs only[go_sem,seval,h,h2];simp
 ·have h:n=0\/n=1\/n=2\/n=3\/n=4\/n=5\/n=6\/n=7\/n=8:=by omega
  rcases h with rfl|rfl|rfl|rfl|rfl|rfl|rfl|rfl|rfl
  ·exact xo (by decide) (by decide) (fun _=>rfl) fl0 (by decide) s hp
  ·exact xo (by decide) (by decide) (fun _=>rfl) fl1 (by decide) s hp
  ·exact xo (by decide) (by decide) (fun _=>rfl) fl2 (by decide) s hp
  ·exact xo (by decide) (by decide) (fun _=>rfl) fl3 (by decide) s hp
  ·exact xo (by decide) (by decide) (fun _=>rfl) fl4 (by decide) s hp
  ·exact xo (by decide) (by decide) (fun _=>rfl) fl5 (by decide) s hp
  ·exact xo (by decide) (by decide) (fun _=>rfl) fl6 (by decide) s hp
  ·exact xo (by decide) (by decide) (fun _=>rfl) fl6 (by decide) s hp
  ·exact xo (by decide) (by decide) (fun _=>rfl) fl6 (by decide) s hp
theorem VO(hp:Heap):S 39 [] hp=some (.ret (.map hp.length),hp++[.map none (YJ 8 prS prN prF)]):=by
 rw[S,QB (F:=find tab) (prim:=prim) (p:=qZ none (YJ 8 prS prN prF)) rfl];rfl
end Go.Proofs.YtgedfopkiebjkaaGreatDoor
namespace Go.Proofs.YtgedfopkiebjkaaGreatDoor
open Go.Am
def xW(b:Tm):PV:=.iface 110 (some 4) (.agg [(some 4,b.pv)])
def QN(e:Int):PV:=.iface 112 (some 1) (.agg [(none,.int .i64 e)])
theorem Bs(b:Tm)(hp:Heap):S 107 [b.av] hp=some (.panic (xW b),hp):=by
 refine Jf rfl rfl rfl (zJ [(some 4,b.pv)]) rfl ?_;have hsb:zT [(some 4,.agg A0)] [0] [.pv (some 4) b.pv]=some (.pv (some 4) (.agg [(some 4,b.pv)])):=rfl;have hmi:∀(s:Sh) (p:PV),Xl 110 [.pv s p]=some (.pv none (.iface 110 s p)):=fun _ _=>rfl;have hpan:∀A:Prop,panK true A=A:=fun _=>rfl;simp -dsimp -implicitDefEqProofs only[go_sem,seval,Tm.av,hsb,hmi,hpan,Je]
 try rfl
theorem nP(hp:Heap):S 108 [P4 0] hp=some (.ret (.tuple []),hp):=by
 refine zM rfl rfl rfl (zJ [(none,.int .i64 0)]) rfl ?_;simp -dsimp -implicitDefEqProofs only[go_sem,seval]
 try rfl
theorem VP(e:Int)(h:e≠0)(hp:Heap):S 108 [P4 e] hp=some (.panic (QN e),hp):=by
 refine Jf rfl rfl rfl (zJ [(none,.int .i64 e)]) rfl ?_;have hsb:zT A6 [0] [P4 e]=some (.pv (some 1) (.agg [(none,.int .i64 e)])):=rfl;have hmi:∀(s:Sh) (p:PV),Xl 112 [.pv s p]=some (.pv none (.iface 112 s p)):=fun _ _=>rfl;have hpan:∀A:Prop,panK true A=A:=fun _=>rfl;simp -dsimp -implicitDefEqProofs only[go_sem,seval,h,hsb,hmi,hpan,Je]
 try rfl
def cB(d:Dbs)(g:Tm)(s:AV):AV:=.agg [(some 2,.pv (some 2) d.pv),(some 4,.pv (some 4) g.pv),(none,s)]
theorem Jo(d:Dbs)(g:Tm)(s:AV):AV.part deep (cB d g s) 0 (some 2)=some (.pv (some 2) d.pv):=rfl
def yo(d:Dbs)(s:List UInt8)(a:Int):Bool:=decide (s∈qm a) || ((Ys d s a).isSome && !((Ys d s a).getD zP).dyn)
theorem VQ(d:Dbs)(hb:BndD d)(g:Tm)(sv:AV)(s:List UInt8)(a:Int)(hp:Heap)(r:Nat)(hr:hp[r]? =some (.box (some 7) (cB d g sv))):S 119 [.ptr r 0,P6 s,P4 a] hp=some (.ret (P5 (yo d s a)),hp):=by
 refine Yk rfl rfl rfl rfl ?_;have hr':∀X,(hp++X)[r]? =some (.box (some 7) (cB d g sv)):=fun X=>by grind
 have h1:=fun hp=>jG d hb s a hp;have h2:=fun hp=>Br s a hp;unfold yo;generalize (Ys d s a).getD zP=w at h1;generalize (Ys d s a).isSome=z at h1;generalize decide (s∈qm a)=q at h2;have p2:=jB w;simp only[Dbs.av,Prc.av] at h1;cases q <;> cases z
 all_goals simp -dsimp -implicitDefEqProofs only[go_sem,seval,YE,h1,h2,hr,hr',Jo,p2,zN,zH (Zf _ _)]
 all_goals simp[AV.refsIn]
def stN:List UInt8:=[115,116,97,116,105,99,95,112,114,111,99,101,100,117,114,101]
def moN:List UInt8:=[109,111,100,105,102,121]
theorem nQ(d:Dbs)(hb:BndD d)(g:Tm)(sv:AV)(s:List UInt8)(a:Int)(t:Tm)(hs:yo d s a=false)(hp:Heap)(r:Nat)(hr:hp[r]? =some (.box (some 7) (cB d g sv))):S 109 [.ptr r 0,P6 s,P4 a,t.av] hp=some (.ret (.tuple []),hp):=by
 refine Yk rfl rfl rfl rfl ?_;have hr':∀X,(hp++X)[r]? =some (.box (some 7) (cB d g sv)):=fun X=>by grind
 have h1:∀X,_:=fun X=>VQ d hb g sv s a (hp++X) r (hr' X);rw[hs] at h1;simp -dsimp -implicitDefEqProofs only[go_sem,seval,Tm.av,h1]
 grind
theorem nR(d:Dbs)(hb:BndD d)(g:Tm)(sv:AV)(s:List UInt8)(a:Int)(t:Tm)(hv:t.valid=true)(hs:yo d s a=true)(hp:Heap)(r:Nat)(hr:hp[r]? =some (.box (some 7) (cB d g sv))):S 109 [.ptr r 0,P6 s,P4 a,t.av] hp=some (.panic (xW (perT moN stN t)),hp):=by
 obtain⟨v,hp',h,rfl,rfl⟩:∃v hp',S 109 [.ptr r 0,P6 s,P4 a,t.av] hp=some (v,hp')/\v=.panic (xW (perT moN stN t))/\hp'=hp:=by
  refine qe (fun v hp'=>v=.panic (xW (perT moN stN t))/\hp'=hp) rfl rfl rfl rfl ?_;have hr':∀X,(hp++X)[r]? =some (.box (some 7) (cB d g sv)):=fun X=>by grind
  have h1:∀X,_:=fun X=>VQ d hb g sv s a (hp++X) r (hr' X);rw[hs] at h1;have h2:=fun hp=>nI moN stN (by decide) (by decide) t hv hp;have h3:=fun hp=>Bs (perT moN stN t) hp;have hpan:∀A:Prop,panK true A=A:=fun _=>rfl;simp only[Tm.av,moN,stN] at h2 h3;simp -dsimp -implicitDefEqProofs only[go_sem,seval,Tm.av,moN,stN,h1,h2,h3,hpan,YB,YN,YO]
  grind
 exact h
theorem xp(d:Dbs)(g:Tm)(s:AV):AV.part deep (cB d g s) 2 (some 4)=some (.pv (some 4) g.pv):=rfl
theorem QO(d:Dbs)(g:Tm)(s:AV):AV.part deep (cB d g s) 5 none=some (.pv none (.sl (some 4) (Tm.pvs g.args))):=by cases g;rfl
abbrev slA(q m:Nat):AV:=.sl (some 4) q m 0 m
theorem nS{d n:Dbs}{g:Tm}{q m b:Nat}{hp:Heap}{r:Nat}(hr:hp[r]? =some (.box (some 7) (cB d g (slA q m))))(hb:r<b):zL (some 2) b hp [.ptr r 0,.pv (some 2) n.pv]=some (.undef,hp.set r (.box (some 7) (cB n g (slA q m)))):=by
 have hu:AV.upd deep (cB d g (slA q m)) 0 (some 2) (.pv (some 2) n.pv)=some (cB n g (slA q m)):=rfl
 grind [zL,astore,AV.plain,AV.shp,AV.refsIn]
theorem nT{d:Dbs}{g:Tm}{q m b:Nat}{hp:Heap}{r:Nat}(hr:hp[r]? =some (.box (some 7) (cB d g (slA q m))))(hb:r<b):zL none b hp [.ptr r 6,.tsl (some 4) [g.pv]]=some (.undef,hp.set r (.box (some 7) (cB d g (.tsl (some 4) [g.pv])))):=by
 have hu:AV.upd deep (cB d g (slA q m)) 6 none (.tsl (some 4) [g.pv])=some (cB d g (.tsl (some 4) [g.pv])):=rfl
 grind [zL,astore,AV.plain,AV.shp,AV.refsIn]
theorem nU(d:Dbs)(g:Tm)(q m:Nat)(hp:Heap)(r:Nat)(hr:hp[r]? =some (.box (some 7) (cB d g (slA q m)))):S 112 [.ptr r 0] hp=some (.ret (.tuple []),hp.set r (.box (some 7) (cB d g (.tsl (some 4) [g.pv])))):=by
 refine Yk rfl rfl rfl rfl ?_;have hs:=nT hr (yN hr);simp -dsimp -implicitDefEqProofs only[go_sem,seval,YE,hr,xp,hs];have hl:(hp.set r (.box (some 7) (cB d g (.tsl (some 4) [g.pv])))).length=hp.length:=by simp
 grind
end Go.Proofs.YtgedfopkiebjkaaGreatDoor
namespace Go.Proofs.YtgedfopkiebjkaaGreatDoor
open Go.Am
def Bq(hp:Heap):Prop:=∀x∈hp,AObj.beq x x=true
theorem Bq.same:∀{hp:Heap},Bq hp->yj hp hp=true
 |[],_=>rfl
 |x::r,h=>by
  show(AObj.beq x x && yj r r)=true;rw[h x Zx,Bq.same (hp:=r) fun y hy=>h y (Zm _ hy)];rfl
theorem Bq.app{a b:Heap}(h1:Bq a)(h2:Bq b):Bq (a++b):=fun x hx=>(zp.1 hx).elim (h1 x) (h2 x)
theorem Bq.cons{x:AObj}{b:Heap}(h1:AObj.beq x x=true)(h2:Bq b):Bq (x::b):=fun y hy=>(ZC.1 hy).elim (fun e=>e▸h1) (h2 y)
theorem Bq.nil:Bq []:=fun _ h=>by cases h
theorem Bq.set{hp:Heap}(h:Bq hp)(i:Nat){x:AObj}(hx:AObj.beq x x=true):Bq (hp.set i x):=fun y hy=>by
 rcases List.mem_or_eq_of_mem_set hy with h1|rfl
 ·exact h y h1
 ·exact hx
theorem XZ(t:Tm):AObj.beq (.box (some 4) (.pv (some 4) t.pv)) (.box (some 4) (.pv (some 4) t.pv))=true:=by simp[AObj.beq,AV.beq,xT]
theorem VR{es:List PV}(h:∀x∈es,PV.beq x x=true):PV.beqs es es=true:=by
 induction es with
 |nil=>rfl
 |cons x r ih=>
  show(PV.beq x x && PV.beqs r r)=true;rw[h x Zx,ih fun y hy=>h y (Zm _ hy)];rfl
theorem nV{Γ:Oracle}{b:Nat}{s:Sh}{f:FuncId}{vs:List AV}{v:AV}{hp:Heap}{K:AV->Heap->Prop}{Kp:PV->Heap->Prop}(hc:Γ .fn f vs hp=some (.ret v,hp))(h:yj hp hp=true):opK (aOp Γ b .callg (.pv s (.func (.func f))::vs) hp) K Kp=K v hp:=by
 have h2:yj (hp.take hp.length) hp=true:=by rw[ZF];exact h
 simp[aOp,xC,yK,yp,hc,h];rfl
def gK(r:Option (ARes × Heap))(hp:Heap)(K:AV->Heap->Prop):Prop:=match r with
 |some (.ret v,hp')=>yj (hp'.take hp.length) hp=true/\K v hp'
 |_=>False
theorem VS{Γ:Oracle}{b:Nat}{s:Sh}{f:FuncId}{vs:List AV}{hp:Heap}{K:AV->Heap->Prop}{Kp:PV->Heap->Prop}:opK (aOp Γ b .callg (.pv s (.func (.func f))::vs) hp) K Kp=gK (Γ .fn f vs hp) hp K:=by
 unfold gK;simp only[aOp,xC,yK,yp,Zv,ZT];cases Γ .fn f vs hp with
 |none=>rfl
 |some r=>
  obtain⟨r,hp'⟩:=r;cases r with
  |panic p=>rfl
  |ret v=>
   by_cases h:yj (hp'.take hp.length) hp=true
   ·simp only[h,if_true,true_and];rfl
   ·have h':yj (hp'.take hp.length) hp=false:=by simpa using h
    simp only[h',ZV,if_false,false_and];rfl
theorem VT{v:AV}{hp hp':Heap}{K:AV->Heap->Prop}:gK (some (.ret v,hp')) hp K=(yj (hp'.take hp.length) hp=true/\K v hp'):=rfl
theorem VU{hp a b:Heap}(h:Bq hp):yj (hp++a) (hp++b)=yj a b:=by
 induction hp with
 |nil=>rfl
 |cons x r ih=>
  show(AObj.beq x x && yj (r++a) (r++b))=_;rw[h x Zx,ih fun y hy=>h y (Zm _ hy)];rfl
theorem VV(x y:AObj)(a b:Heap):yj (x::a) (y::b)=(AObj.beq x y && yj a b):=rfl
theorem VW:yj [] []=true:=rfl
theorem Jp(s:Sh)(z:Bool):AObj.beq (.arr s [] z) (.arr s [] z)=true:=by simp[AObj.beq,PV.beqs]
theorem nW(l:List Tm):PV.beqs (Tm.pvs l) (Tm.pvs l)=true:=VR fun x hx=>by
 rw[Tm.zBi] at hx;obtain⟨t,_,rfl⟩:=ZM.1 hx;exact xT t
theorem nX(s:Sh)(l:List Tm)(z:Bool):AObj.beq (.arr s (Tm.pvs l) z) (.arr s (Tm.pvs l) z)=true:=by simp[AObj.beq,nW]
end Go.Proofs.YtgedfopkiebjkaaGreatDoor
namespace Go.Proofs.YtgedfopkiebjkaaGreatDoor
open Go.Am
theorem nY{Γ:Oracle}{b:Nat}{vs:List AV}{hp:Heap}{K:AV->Heap->Prop}{Kp:PV->Heap->Prop}(neg:Bool):opK (aOp Γ b (.slnil neg) vs hp) K Kp=valK (Qd neg vs) fun v=>K v hp:=by
 show opK (match(match Qd neg vs with|some v=>some (v,hp)|none=>none) with|some (v,hp')=>some (OpRes.val v hp')|none=>none) K Kp=_;cases Qd neg vs <;> rfl
theorem nZ{Γ:Oracle}{b:Nat}{vs:List AV}{hp:Heap}{K:AV->Heap->Prop}{Kp:PV->Heap->Prop}[Tag K][Tag Kp](sh:Sh):opK (aOp Γ b (.storex sh) vs hp) K Kp=YK (X6 sh b hp vs) K:=by
 show opK (match(X6 sh b hp vs) with|some (v,hp')=>some (OpRes.val v hp')|none=>none) K Kp=_;cases (X6 sh b hp vs) with
 |none=>rfl
 |some r=>cases r;rfl
theorem n8(es:List PV)(hne:0<es.length)(hl:es.length<=10)(hp:Heap):S 138 [.pv none (.sl (some 4) es)] hp=some (.ret (.sl (some 4) (hp.length+1) es.length 0 es.length),hp++[.arr (some 4) [] false,.arr (some 4) es false]):=by
 refine Yk rfl rfl rfl rfl ?_;have hlim:es.length<=lim:=by grind [lim]
 have happ:∀H:Heap,Yg (some 4) H [.tsl (some 4) [],.pv none (.sl (some 4) es)]=some (.sl (some 4) H.length es.length 0 es.length,H++[.arr (some 4) es false]):=fun H=>by
  grind [Yg,aappend,elems]
 have hni:Qd false [.pv none (.sl (some 4) es)]=some (P5 false):=by
  cases es with
  |nil=>grind
  |cons x r=>rfl
 simp -dsimp -implicitDefEqProofs only[go_sem,seval,nY,hni,hlim,happ,Xf (sh:=some 4) (by decide)]
 grind [AV.refsIn]
def ansT(g:Tm)(fs:List Tm):Tm:=.mk g.kind 0 g.name (fs++g.args.drop fs.length)
theorem Bt{l:List Prc}:PV.beqs (Prc.pvs l) (Prc.pvs l)=true:=by
 have hs:∀s:Sto,PV.beq s.pv s.pv=true:=fun s=>by simp[Sto.pv,Cz.pv,PV.beq,PV.beqc,xT]
 have hl:∀l:List Sto,PV.beqs (Sto.pvs l) (Sto.pvs l)=true:=fun l=>by
  induction l with
  |nil=>rfl
  |cons x r ih=>
   grind [PV.beqs,Sto.pvs]
 induction l with
 |nil=>rfl
 |cons x r ih=>
  simp_all[PV.beq,PV.beqs,Prc.pvs,Prc.pv,PV.beqc]
theorem VX(d:Dbs)(g:Tm)(q m:Nat):AObj.beq (.box (some 7) (cB d g (slA q m))) (.box (some 7) (cB d g (slA q m)))=true:=by
 simp[cB,AObj.beq,AV.beq,AV.beqc,xT,Dbs.pv,PV.beq,PV.beqc,Bt]
theorem VY(d:Dbs)(g:Tm)(s:AV):AV.part deep (cB d g s) 6 none=some s:=rfl
theorem n9(d:Dbs)(g:Tm)(s:AV):AV.part deep (cB d g s) 2 none=some (P4 g.kind):=by cases g;rfl
theorem VZ(d:Dbs)(g:Tm)(s:AV):AV.part deep (cB d g s) 4 none=some (P6 g.name):=by cases g;rfl
theorem Oa(d:Dbs)(g:Tm)(h0:0<g.args.length)(h8:g.args.length<=8)(L fs:List Tm)(hL:L.length<1000)(hf:fs.length<=g.args.length)(hp:Heap)(r q s:Nat)(hr:hp[r]? =some (.box (some 7) (cB d g (slA q L.length))))(hq:hp[q]? =some (.arr (some 4) (Tm.pvs L) false))(hs:hp[s]? =some (.arr (some 4) (Tm.pvs fs) false)):
  S 117 [.ptr r 0,.sl (some 4) s fs.length 0 fs.length] hp=some (.ret (.tuple []),(hp.set q (.arr (some 4) (Tm.pvs (L++[ansT g fs])) false)).set r (.box (some 7) (cB d g (slA q (L.length+1))))):=by
 refine Yk rfl rfl rfl rfl ?_;have h1:=fun hp=>n8 (Tm.pvs g.args) (by grind [Tm.pvs_len]) (by grind [Tm.pvs_len]) hp;have hlr:=yN hr;have hlq:=yN hq;have hls:=yN hs;have hr':∀X,(hp++X)[r]? =some (.box (some 7) (cB d g (slA q L.length))):=fun X=>by grind
 have hsb:zT A0 [0,2,3] [P4 g.kind,P6 g.name,.sl (some 4) (hp.length+1) g.args.length 0 g.args.length]=some (.agg [(none,P4 g.kind),(none,P4 0),(none,P6 g.name),(none,.sl (some 4) (hp.length+1) g.args.length 0 g.args.length)]):=rfl;have hsp:∀X k,Yx hp (hp++X) (.ptr r k)=true:=fun X k=>by grind [Yx,VX]
 have hA:Tm.pvs (fs++g.args.drop fs.length)=Tm.pvs fs++(Tm.pvs g.args).drop fs.length:=by simp[Tm.zBi]
 have hal:(fs++g.args.drop fs.length).length=g.args.length:=by grind
 have hcp:∀x0 x2 x3:AObj,XD (some 4) (hp++[x0,.arr (some 4) (Tm.pvs g.args) false,x2,x3]) [.sl (some 4) (hp.length+1) g.args.length 0 g.args.length,.sl (some 4) s fs.length 0 fs.length]=some (P4 (Nat.min g.args.length fs.length),hp++[x0,.arr (some 4) (Tm.pvs (fs++g.args.drop fs.length)) false,x2,x3]):=fun x0 x2 x3=>by
  have e1:(hp++[x0,.arr (some 4) (Tm.pvs g.args) false,x2,x3])[s]? =some (.arr (some 4) (Tm.pvs fs) false):=by grind
  have e2:Nat.min g.args.length fs.length=fs.length:=Nat.min_eq_right hf;simp_all[XD,elems,Tm.pvs_len,Zl]
 have hfz:∀x0 x3:AObj,∀x2,AV.freeze deep (.agg [(none,P4 g.kind),(none,P4 0),(none,P6 g.name),(none,.sl (some 4) (hp.length+1) g.args.length 0 g.args.length)]) (hp++[x0,.arr (some 4) (Tm.pvs (fs++g.args.drop fs.length)) false,x2,x3])=some ((ansT g fs).pv,hp++[x0,.arr (some 4) (Tm.pvs (fs++g.args.drop fs.length)) true,x2,x3]):=fun x0 x3 x2=>by
  have e:=P0
  show AV.freeze (7+1) (.agg _) _=_;simp[e,AV.freeze.go,AV.freeze,getN rfl,setN rfl,Tm.pvs_len,hal];rfl
 have hst:∀(x0 x3:AObj) (fr:Fr),Qy [] ⟨fr,hp++[x0,.arr (some 4) (Tm.pvs (fs++g.args.drop fs.length)) false,.box (some 4) (.agg [(none,P4 g.kind),(none,P4 0),(none,P6 g.name),(none,.sl (some 4) (hp.length+1) g.args.length 0 g.args.length)]),x3]⟩ (hp.length+2) (some (.box (some 4) (.agg [(none,P4 g.kind),(none,P4 0),(none,P6 g.name),(none,.sl (some 4) (hp.length+1) g.args.length 0 g.args.length)])))=some ⟨fr,hp++[x0,.arr (some 4) (Tm.pvs (fs++g.args.drop fs.length)) true,.box (some 4) (.pv (some 4) (ansT g fs).pv),x3]⟩:=fun x0 x3 fr=>by
  simp[Qy,hfz,setN rfl];rfl
 obtain⟨z,hz⟩:∃z:PV,z=.agg [(none,.int .i64 0),(none,.int .i64 0),(none,.str []),(none,.sl (some 4) [])]:=⟨_,rfl⟩;have hbs:∀H:Heap,YZ (some 4) H [.agg A0]=some (.tsl (some 4) [z],H):=fun H=>by
  have e:=P0
  have e2:AV.freeze deep (.agg A0) H=some (z,H):=by
   show AV.freeze (7+1) (.agg _) _=_;simp_all[AV.freeze.go,AV.freeze]
  simp_all[YZ,zZ,AV.shp,total,Sh.size,YP]
 have hsp2:∀(X:Heap) (k:Nat),Yx (hp++X) (hp++X) (.ptr r k)=true:=fun X k=>by grind [Yx,VX]
 have hsp3:∀(x0 x1 x3:AObj),Yx (hp++[x0,x1,.box (some 4) (.pv (some 4) (ansT g fs).pv),x3]) (hp++[x0,x1,.box (some 4) (.pv (some 4) (ansT g fs).pv),x3]) (.ptr (hp.length+2) 0)=true:=fun x0 x1 x3=>by grind [Yx,getN,AObj.beq,AV.beq,xT]
 have hlim:L.length+1<=lim:=by grind [lim]
 have hrq:r≠q:=fun e=>by grind
 have happ:∀X:Heap,Yg (some 4) (hp++X) [.sl (some 4) q L.length 0 L.length,.tsl (some 4) [z]]=some (.sl (some 4) q (L.length+1) 0 (L.length+1),hp.set q (.arr (some 4) (Tm.pvs L++[z]) false)++X):=fun X=>by
  grind [Yg,aappend,elems,Tm.pvs_len]
 have hia:Yc (some 4) [.sl (some 4) q (L.length+1) 0 (L.length+1),P4 (L.length:Int)]=some (.eptr (some 4) q (L.length+1) L.length 0):=by
  grind [Qx]
 have hw1:∀X:Heap,zL (some 4) hp.length (hp.set q (.arr (some 4) (Tm.pvs L++[z]) false)++X) [.eptr (some 4) q (L.length+1) L.length 0,.pv (some 4) (ansT g fs).pv]=some (.undef,hp.set q (.arr (some 4) (Tm.pvs (L++[ansT g fs])) false)++X):=fun X=>by
  have e:∀H,AV.freeze deep (.pv (some 4) (ansT g fs).pv) H=some ((ansT g fs).pv,H):=fun _=>rfl;have e1:(hp.set q (.arr (some 4) (Tm.pvs L++[z]) false)++X)[q]? =some (.arr (some 4) (Tm.pvs L++[z]) false):=by grind
  have e2:Tm.pvs (L++[ansT g fs])=Tm.pvs L++[(ansT g fs).pv]:=by simp[Tm.zBi]
  have e3:(Tm.pvs L++[z]).set L.length (ansT g fs).pv=Tm.pvs L++[(ansT g fs).pv]:=by
   simp_all[Tm.pvs_len]
  simp_all[zL,astore,AV.shp,Tm.pvs_len]
 have hw2:∀(X:Heap) (i:Nat),X6 none hp.length (hp.set q (.arr (some 4) (Tm.pvs (L++[ansT g fs])) false)++X) [.ptr r 6,.sl (some 4) q (L.length+1) 0 (L.length+1),.eptr (some 4) q (L.length+1) i 0,.pv (some 4) (ansT g fs).pv]=some (.undef,(hp.set q (.arr (some 4) (Tm.pvs (L++[ansT g fs])) false)).set r (.box (some 7) (cB d g (slA q (L.length+1))))++X):=fun X i=>by
  have hu:AV.upd deep (cB d g (slA q L.length)) 6 none (.sl (some 4) q (L.length+1) 0 (L.length+1))=some (cB d g (slA q (L.length+1))):=rfl;have hm:q∈(cB d g (slA q L.length)).refsIn:=by simp[cB,AV.refsIn,AV.refsIn.go]
  have hb':¬hp.length<=r:=by omega
  have e1:(hp.set q (.arr (some 4) (Tm.pvs (L++[ansT g fs])) false)++X)[r]? =some (.box (some 7) (cB d g (slA q L.length))):=by grind
  grind [X6,astore,AV.plain,AV.shp,AV.refsIn]
 simp -dsimp -implicitDefEqProofs only[go_sem,seval,YE,hr,hr',VY,n9,VZ,QO,h1,hsb,hsp,hcp,hst,hbs,hsp2,hsp3,happ,hia,hw1,hw2,Tm.pvs_len,gH,xi,nZ,ZK,ZW,ZO,ZQ,zN,zH (Zf _ _)]
 grind
end Go.Proofs.YtgedfopkiebjkaaGreatDoor
namespace Go.Proofs.YtgedfopkiebjkaaGreatDoor
open Go.Am
theorem Ob(t:Tm)(hv:t.valid=true)(h0:t.kind≠0)(h1:t.kind≠1)(hp:Heap):S 118 [t.av] hp=some (.ret (.tuple [zt.av,P5 true]),hp):=by
 refine zM rfl rfl rfl (zJ [(some 4,t.pv)]) rfl ?_;have hb:=nK t hv h0;have h1':=Zi h1;have hz0:=P1;simp only[Tm.av] at hb;simp -dsimp -implicitDefEqProofs only[go_sem,seval,Tm.av,hb,zO,h1',hz0,zH (Za _),zN];exact⟨_,rfl⟩
theorem Oc(k:Int)(hp:Heap):S 123 [P4 k] hp=some (.ret (intT k).av,hp):=by
 refine zM rfl rfl rfl (zJ [(none,.int .i64 k)]) rfl ?_;have hb:zT A0 [0,1] [P4 1,P4 k]=some (.agg [(none,P4 1),(none,P4 k),(none,P6 []),(none,.tsl (some 4) [])]):=rfl;simp -dsimp -implicitDefEqProofs only[go_sem,seval,Tm.av,hb,zH (Za _),zN];exact⟨_,rfl⟩
theorem Bu(nm:List UInt8)(k:Int)(hn:nm.length<=100)(h0:0<=k)(h8:k<=8)(hp:Heap):S 110 [P6 nm,P4 k] hp=some (.ret (indT nm k).av,hp):=by
 refine zM rfl rfl rfl (zJ [(none,.str nm),(none,.int .i64 k)]) rfl ?_;have h1:=xn nm hn;have h2:=Oc k;have h3:∀H,S 126 [P6 [47],.tsl (some 4) [(zR nm).pv,(intT k).pv]] H=some (.ret (indT nm k).av,H):=fun H=>
  xV (ps:=[(none,.str [47]),(none,.sl (some 4) (Tm.pvs [zR nm,intT k]))]) rfl rfl rfl rfl rfl (jJ [47] [zR nm,intT k] (by simp) (Bn hn) [])
 have c1:=Zi (show ¬(100:Int)<(nm.length:Int) by omega);have c2:=Zi (show ¬k<0 by omega);have c3':=Zi (show ¬(8:Int)<k by omega);simp only[Tm.av] at h1 h2 h3;simp -dsimp -implicitDefEqProofs only[go_sem,seval,Tm.av,h1,h2,h3,c1,c2,c3',zH (Za _),zN]
 try rfl
end Go.Proofs.YtgedfopkiebjkaaGreatDoor
namespace Go.Proofs.YtgedfopkiebjkaaGreatDoor
open Go.Am
def rawP(k n:Int)(s:List UInt8)(es:List PV):PV:=.agg [(none,.int .i64 k),(none,.int .i64 n),(none,.str s),(none,.sl (some 4) es)]
theorem jK{hp:Heap}{r:Nat}(k n:Int)(s:List UInt8)(es:List PV)(m:Nat)(hm:m=es.length)(h:hp[r]? =some (.arr (some 4) es false)):Am.frozen (.pv (some 4) (rawP k n s es)) (.agg [(none,P4 k),(none,P4 n),(none,P6 s),(none,.sl (some 4) r m 0 m)]) hp:=by
 subst hm;refine⟨hp.set r (.arr (some 4) es true),?_⟩;show(match AV.freeze (7+1) (.agg _) hp with|some (p,hp')=>some (AV.pv _ p,hp')|none=>none)=_;have e:=P0
 simp[e,AV.freeze.go,AV.freeze,h,rawP];rfl
theorem Od(t:Tm)(hp:Heap)(hv:t.valid=true)(ht:t.size<1000000000):S 105 [t.av] hp=some (.ret t.av,hp):=by
 refine zM rfl rfl rfl (zJ [(some 4,t.pv)]) rfl ?_;have h1:=fun hp=>xh t hp ht;have h2:=fun hp=>nB t hp ht;rw[hv] at h1;simp only[Tm.av] at h1 h2;simp -dsimp -implicitDefEqProofs only[go_sem,seval,Tm.av,h1,h2,zH (Za _)]
theorem Bv{x:Int}:∀{l:List Int} {i:Nat},l[i]? =some x->(∀j,j<i->l[j]?≠some x)->l.idxOf x=i
 |[],_,h,_=>by grind
 |y::r,0,h,_=>by
  grind
 |y::r,i+1,h,hn=>by
  have h0:=hn 0 (by omega);have hy:¬y=x:=fun e=>h0 (by simp[e]);rw[zB,beq_eq_false_iff_ne.2 hy];simp only[cond_false];rw[Bv (l:=r) (i:=i) (by grind) fun j hj=>by grind]
theorem Bw(l:List Int)(x:Int)(hl:l.length<1000000000)(hm:x∈l)(hp:Heap):S 72 [.pv none (.sl none (ints l)),P4 x] hp=some (.ret (P4 ((l.idxOf x:Nat):Int)),hp):=by
 refine zM rfl rfl rfl (zJ [(none,.sl none (ints l)),(none,.int .i64 x)]) rfl ?_;simp -dsimp -implicitDefEqProofs only[go_sem,seval,Y9];refine Ye (α:=Unit) l.length (fun i _=>∀j,j<i->l[j]?≠some x) (fun i _=>⟨[(0,.pv none (.sl none (ints l))),(1,P4 x),(5,P4 i)],[]⟩) () ⟨fun j hj=>by omega,rfl⟩ ?_ ?_
 ·rintro i - h hinv;have hc:(i:Int)<(l.length:Int):=by omega
  obtain⟨b,hb⟩:∃b,l[i]? =some b:=⟨_,Zd h⟩;have w2:IntKind.i64.wrap ((i:Int)+1)=((i+1:Nat):Int):=by grind [zW]
  by_cases hbx:b=x
  ·have hi:=Bv (by grind) hinv;simp -dsimp -implicitDefEqProofs only[go_sem,seval,Y9,hc,zQ (QF hb),hbx,hi]
  ·simp -dsimp -implicitDefEqProofs only[go_sem,seval,Y9,hc,zQ (QF hb),hbx,w2];refine⟨(),fun j hj=> ?_⟩
   grind
 grind
def appR(t:Tm)(ts:List Tm)(i:Nat):Heap:=[.box (some 4) (.pv (some 4) t.pv),.box (some 4) (.agg [(none,P4 0),(none,P4 0),(none,P6 []),(none,.sl (some 4) 2 0 0 0)]),.arr (some 4) [] false,.box (some 4) (.agg [(none,P4 t.kind),(none,P4 t.n),(none,P6 t.name),(none,.sl (some 4) 5 i 0 i)]),.arr (some 4) [] false,.arr (some 4) (Tm.pvs (ts.take i)) false]
theorem Oe(L:List Int)(hL:L.length<100000000):∀(t:Tm) (hp:Heap),t.fits=true->t.size<1000000000->(∀w∈t.occ,w∈L)->S 34 [.pv none (.sl none (ints L)),t.av] hp=some (.ret (Tm.sub (cPos L) t).av,hp):=by
 intro t
 induction t using Tm.zA6 with
 |h t ih=>
  intro hp hf ht ho;have hts:=t.size_eq;have hlen:=Tm.zA5 t.args;refine zM rfl rfl rfl (zJ [(none,.sl none (ints L)),(some 4,t.pv)]) rfl ?_;have hb:zT A0 [0,1,2] [P4 t.kind,P4 t.n,P6 t.name]=some (.agg [(none,P4 t.kind),(none,P4 t.n),(none,P6 t.name),(none,.tsl (some 4) [])]):=rfl;by_cases hk:t.kind=0
  ·have hk':=Zg hk;have hm:t.n∈L:=ho _ (by grind [Tm.zA8]);have hpos:=fun hp=>Bw L t.n (by omega) hm hp;have ha:t.args=[]:=by rw[yx hf hk];rfl
   have hnm:t.name=[]:=by rw[yx hf hk];rfl
   have e:Tm.sub (cPos L) t=tvar (L.idxOf t.n:Nat):=by rw[Tm.zBe,Zh hk];rfl
   rw[e];generalize ((L.idxOf t.n:Nat):Int)=k at hpos ⊢;simp -dsimp -implicitDefEqProofs only[go_sem,seval,Tm.av,zO,Yd,zU,zK,Tm.pvs_len,hk',hb,hpos,zH (Za _)];refine Ye (α:=Unit) 0 (fun _ _=>True) (fun i _=>⟨[(0,.pv none (.sl none (ints L))),(3,.ptr 0 0),(4,.ptr 1 0),(5,.ptr 3 0),(6,P4 i)],[.box (some 4) (.pv (some 4) t.pv),.box (some 4) (.agg [(none,P4 0),(none,P4 0),(none,P6 []),(none,.sl (some 4) 2 0 0 0)]),.arr (some 4) [] false,.box (some 4) (.agg [(none,P4 t.kind),(none,P4 k),(none,P6 t.name),(none,.sl (some 4) 5 0 0 0)]),.arr (some 4) [] false,.arr (some 4) [] false]⟩) () ⟨trivial,rfl⟩ ?_ ?_
   ·grind
   ·rintro - -;have hc:¬(0:Int)<(t.args.length:Int):=by grind
    simp -dsimp -implicitDefEqProofs only[go_sem,seval,zK,Tm.pvs_len,hc,zN,zH (Za _),Y4 (Za _)];rw[hk,hnm];exact jK _ _ _ [] _ rfl rfl
  ·have hk':=Zi hk;rw[Vu hk];obtain⟨ts',hts'⟩:∃ts',ts'=t.args.map (Tm.sub (cPos L)):=⟨_,rfl⟩;have htl:ts'.length=t.args.length:=by grind
   rw[<-hts'];simp -dsimp -implicitDefEqProofs only[go_sem,seval,Tm.av,zO,Yd,zU,zK,Tm.pvs_len,hk',hb,zH (Za _)];refine Ye (α:=Unit) t.args.length (fun _ _=>True) (fun i _=>⟨[(0,.pv none (.sl none (ints L))),(3,.ptr 0 0),(4,.ptr 1 0),(5,.ptr 3 0),(6,P4 i)],appR t ts' i⟩) () ⟨trivial,rfl⟩ ?_ ?_
   ·rintro i - h -;have hc:(i:Int)<(t.args.length:Int):=by omega
    obtain⟨u,hu⟩:∃u,t.args[i]? =some u:=⟨_,Zd h⟩;have hum:=Zj hu;have husz:=Tm.zBb hum;have hcall:=fun hp=>ih u hum hp (Tm.zA7 hf hum) (by omega) fun w hw=>ho w (Tm.zBo hk hum hw);simp only[Tm.av] at hcall;have w2:IntKind.i64.wrap ((i:Int)+1)=((i+1:Nat):Int):=by grind [zW]
    have hl:(Tm.pvs (ts'.take i)).length=i:=by grind [Tm.pvs_len]
    have hlim:i+1<=lim:=by grind [lim]
    have hus:ts'[i]? =some (Tm.sub (cPos L) u):=by grind
    simp -dsimp -implicitDefEqProofs only[go_sem,seval,appR,zK,Tm.pvs_len,hc,zQ (Tm.pvs_get hu),hcall,w2,hl,hlim,Tm.zA9 hus,zH (Za _),Y4 (Za _)];exact⟨(),rfl⟩
   ·rintro - -;have hc:¬(t.args.length:Int)<(t.args.length:Int):=by omega
    have htk:ts'.take t.args.length=ts':=Zl (by omega);simp -dsimp -implicitDefEqProofs only[go_sem,seval,appR,zK,Tm.pvs_len,hc,htk,zN,zH (Za _),Y4 (Za _)];exact jK _ _ _ (Tm.pvs ts') _ (by rw[Tm.pvs_len,htl]) rfl
theorem Of{s:AV}{H:Heap}{l:List Int}(h:IsV s H l):s.alone H=some (.pv none (.sl none (ints l))):=by
 rcases h with⟨rfl,rfl⟩|⟨r,rfl,h⟩
 ·rfl
 grind [AV.freezeRes,AV.alone,AV.bare,AV.freeze,deep,Y9,AV.shp]
end Go.Proofs.YtgedfopkiebjkaaGreatDoor
namespace Go.Proofs.YtgedfopkiebjkaaGreatDoor
open Go.Am
theorem Og(t:Tm)(s:List UInt8)(n:Int)(hp:Heap):S 131 [t.av,P6 s,P4 n] hp=some (.ret (P5 (decide ((t.kind=2\/t.kind=3)/\t.name=s/\(t.args.length:Int)=n))),hp):=by
 refine zM rfl rfl rfl (zJ [(some 4,t.pv),(none,.str s),(none,.int .i64 n)]) rfl ?_;by_cases h2:t.kind=2
 ·have h2':=Zg h2;by_cases hn:t.name=s
  ·have hn':=Zg hn;simp -dsimp -implicitDefEqProofs only[go_sem,seval,Tm.av,zO,zU,zK,Tm.pvs_len,h2',hn',true_or]
  ·have hn':=Zi hn;simp -dsimp -implicitDefEqProofs only[go_sem,seval,Tm.av,zO,zU,zK,Tm.pvs_len,h2',hn',true_or]
 ·have h2':=Zi h2;by_cases h3:t.kind=3
  ·have h3':=Zg h3;by_cases hn:t.name=s
   ·have hn':=Zg hn;simp -dsimp -implicitDefEqProofs only[go_sem,seval,Tm.av,zO,zU,zK,Tm.pvs_len,h2',h3',hn',false_or]
   ·have hn':=Zi hn;simp -dsimp -implicitDefEqProofs only[go_sem,seval,Tm.av,zO,zU,zK,Tm.pvs_len,h2',h3',hn',false_or]
  ·have h3':=Zi h3;simp -dsimp -implicitDefEqProofs only[go_sem,seval,Tm.av,zO,zU,zK,Tm.pvs_len,h2',h3',false_or]
theorem Oh{t:Tm}(hf:t.fits=true)(s:List UInt8):((t.kind=2\/t.kind=3)/\t.name=s/\(t.args.length:Int)=2)↔(t.kind=3/\t.args.length=2/\t.name=s):=by
 grind [Tm.zBc,Tm.node]
theorem Bx(t:Tm)(hf:t.fits=true)(hp:Heap):S 104 [t.av] hp=some (.ret (P5 (decide (jn t))),hp):=by
 refine zM rfl rfl rfl (zJ [(some 4,t.pv)]) rfl ?_;have h1:=fun s hp=>Og t s 2 hp;simp only[Oh hf,Tm.av] at h1;have e:decide (jn t)=(decide (t.kind=3/\t.args.length=2/\t.name=[44]) || (decide (t.kind=3/\t.args.length=2/\t.name=[59]) || decide (t.kind=3/\t.args.length=2/\t.name=[45,62]))):=by
  grind [jn]
 rw[e];have g1:=h1 [44];have g2:=h1 [59];have g3:=h1 [45,62];generalize decide (t.kind=3/\t.args.length=2/\t.name=[44])=x at g1;generalize decide (t.kind=3/\t.args.length=2/\t.name=[59])=y at g2;generalize decide (t.kind=3/\t.args.length=2/\t.name=[45,62])=z at g3;clear e h1;cases x
 ·cases y
  ·simp -dsimp -implicitDefEqProofs only[go_sem,seval,Tm.av,g1,g2,g3,Bool.false_or]
  ·simp -dsimp -implicitDefEqProofs only[go_sem,seval,Tm.av,g1,g2,g3,Bool.false_or,Bool.true_or]
 ·simp -dsimp -implicitDefEqProofs only[go_sem,seval,Tm.av,g1,g2,g3,Bool.true_or]
def rcF:Nat->Tm->Tm × Bool
 |0,_=>(zt,false)
 |n+1,t=>if t.kind=0 then(tstr Jg [t],true) else if t.kind=1 then(zt,false) else if jn t then(match t.args with
   |[a,b]=>(tstr t.name [(rcF n a).1,(rcF n b).1],(rcF n a).2 && (rcF n b).2)
   |_=>(zt,false)) else(t,true)
theorem Oi(t a b ga gb:Tm)(oa ob:Bool)(hab:t.args=[a,b])(hf:t.fits=true)(k0:¬t.kind=0)(k1:¬t.kind=1)(hjn:jn t)(h1:∀hp,S 66 [a.av] hp=some (.ret (.tuple [ga.av,P5 oa]),hp))(h2:∀hp,S 66 [b.av] hp=some (.ret (.tuple [gb.av,P5 ob]),hp))(hp:Heap):S 66 [t.av] hp=some (.ret (.tuple [(tstr t.name [ga,gb]).av,P5 (oa && ob)]),hp):=by
 refine zM rfl rfl rfl (zJ [(some 4,t.pv)]) rfl ?_;have k0':=Zi k0;have k1':=Zi k1;have hj:=fun hp=>Bx t hf hp;rw[ZN hjn] at hj;have pa:PV.part deep t.pv 3 none=some (.sl (some 4) [a.pv,b.pv]):=by rw[zK,hab];rfl
 have i0:Yc (some 4) [.pv none (.sl (some 4) [a.pv,b.pv]),P4 0]=some (.iptr (some 4) a.pv 0):=rfl;have i1:Yc (some 4) [.pv none (.sl (some 4) [a.pv,b.pv]),P4 1]=some (.iptr (some 4) b.pv 0):=rfl;have hb:zT A0 [0,2,3] [P4 3,P6 t.name,.tsl (some 4) [ga.pv,gb.pv]]=some (cV t.name [ga.pv,gb.pv]):=rfl;have hst:=fun x0 v r=>jr x0 v r t.name ga.pv [gb.pv];simp only[Tm.av] at h1 h2 hj;cases oa
 ·simp -dsimp -implicitDefEqProofs only[go_sem,seval,Tm.av,zO,zU,k0',k1',hj,h1,h2,pa,i0,i1,hb,hst,zH (Za _)];exact⟨_,rfl⟩
 ·simp -dsimp -implicitDefEqProofs only[go_sem,seval,Tm.av,zO,zU,k0',k1',hj,h1,h2,pa,i0,i1,hb,hst,zH (Za _)];exact⟨_,rfl⟩
theorem Oj:∀(n:Nat) (t:Tm),t.size<=n->t.valid=true->∀hp,S 66 [t.av] hp=some (.ret (.tuple [(rcF n t).1.av,.pv none (.bool (rcF n t).2)]),hp):=by
 intro n
 induction n with
 |zero=>
  intro t h;have:=t.size_eq;omega
 |succ n ih=>
  intro t hs hv hp;have hf:=valid_fits hv;have hts:=t.size_eq;have hsz:=valid_size hv;rw[rcF];by_cases k0:t.kind=0
  ·rw[Zh k0];refine zM rfl rfl rfl (zJ [(some 4,t.pv)]) rfl ?_;have k0':=Zg k0;have hb:zT A0 [0,2,3] [P4 3,P6 [99,97,108,108],.tsl (some 4) [t.pv]]=some (cV Jg [t.pv]):=rfl;have hst:=fun x0 v r=>jr x0 v r Jg t.pv [];simp -dsimp -implicitDefEqProofs only[go_sem,seval,Tm.av,zO,k0',hb,hst,zH (Za _)];exact⟨_,rfl⟩
  have k0':=Zi k0;rw[Zb k0];by_cases k1:t.kind=1
  ·rw[Zh k1];refine zM rfl rfl rfl (zJ [(some 4,t.pv)]) rfl ?_;have k1':=Zg k1;have hb:=P1;simp -dsimp -implicitDefEqProofs only[go_sem,seval,Tm.av,zO,k0',k1',hb,zH (Za _)];exact⟨_,rfl⟩
  have k1':=Zi k1;rw[Zb k1];by_cases hjn:jn t
  ·rw[Zh hjn];obtain⟨a,b,hab⟩:=Vo hjn.2.1;have ha:a∈t.args:=by grind
   have hbm:b∈t.args:=by grind
   have z1:=Tm.zBb ha;have z2:=Tm.zBb hbm
   grind [Oi,XB]
  ·rw[Zb hjn];refine zM rfl rfl rfl (zJ [(some 4,t.pv)]) rfl ?_;have hj:=fun hp=>Bx t hf hp;rw[zA hjn] at hj;have hcl:=fun hp=>Od t hp hv (by omega);simp only[Tm.av] at hj hcl;simp -dsimp -implicitDefEqProofs only[go_sem,seval,Tm.av,zO,k0',k1',hj,hcl,zH (Za _)];exact⟨_,rfl⟩
theorem Ok:∀(n:Nat) (t:Tm),(rcF n t).2=true->t.fits=true->cvF n t=some (rcF n t).1:=by
 intro n
 induction n with
 |zero=>intro t h;cases h
 |succ n ih=>
  intro t h hf;rw[rcF] at h ⊢;rw[cvF];by_cases k0:t.kind=0
  ·grind
  grind [Tm.zA7,Tm.zBc,Tm.node]
theorem Ol:∀(n:Nat) (t:Tm),(rcF n t).1.size<=2*t.size:=by
 intro n
 induction n with
 |zero=>
  intro t;have:=t.size_eq;show 1<=_;omega
 |succ n ih=>
  intro t;have hts:=t.size_eq;rw[rcF];split
  ·show 1+(t.size+0)<=_;omega
  ·split
   ·show 1<=_;omega
   ·split
    ·split
     ·rename_i a b hab;have h1:=ih a;have h2:=ih b;rw[hab] at hts;have e:Tm.sizes [a,b]=a.size+(b.size+0):=rfl;rw[e] at hts;show 1+((rcF n a).1.size+((rcF n b).1.size+0))<=_;omega
     ·show 1<=_;omega
    grind
end Go.Proofs.YtgedfopkiebjkaaGreatDoor
namespace Go.Proofs.YtgedfopkiebjkaaGreatDoor
open Go.Am
theorem By(l:List Tm)(hf:∀t∈l,t.fits=true)(hz:Tm.sizes l<50000000)(hp:Heap):S 67 [.pv none (.sl (some 4) (Tm.pvs l))] hp=some (.ret (.pv none (.sl none (ints (vads [] (Tm.occs l))))),hp):=by
 refine zM rfl rfl rfl (zJ [(none,.sl (some 4) (Tm.pvs l))]) rfl ?_;have hlen:=Tm.zA5 l;have hn0:∀H:Heap,YS none H=some (.sl none H.length 0 0 0,H++[.arr none [] false]):=fun H=>Xf (sh:=none) (by decide);simp -dsimp -implicitDefEqProofs only[go_sem,seval,hn0];refine Ye (α:=AV × Heap) l.length (fun i a=>IsV a.1 a.2 (vads [] (Tm.occs (l.take i)))) (fun i a=>⟨[(0,.pv none (.sl (some 4) (Tm.pvs l))),(3,a.1),(4,P4 i)],a.2⟩) (.sl none 1 0 0 0,[.arr none [] false,.arr none [] false]) ⟨.inr ⟨1,rfl,rfl⟩,rfl⟩ ?_ ?_
 ·rintro i ⟨s1,H⟩ h k1;dsimp only at k1;have hc:(i:Int)<(l.length:Int):=by omega
  obtain⟨u,hu⟩:∃u,l[i]? =some u:=⟨_,Zd h⟩;have hum:=Zj hu;have hst:=Tm.zBd hu;have hle:=Tm.zBa l (i+1);have hvl:=xk (Tm.occs (l.take i)) [];have hol:=Tm.zBh (l.take i);simp only[zy] at hvl;obtain⟨s2,H2,hcall,p1,p2,p3⟩:=gj u s1 H _ k1 (hf u hum) (by omega);simp only[Tm.av] at hcall;have w2:IntKind.i64.wrap ((i:Int)+1)=((i+1:Nat):Int):=by grind [zW]
  simp -dsimp -implicitDefEqProofs only[go_sem,seval,Tm.pvs_len,hc,zQ (Tm.pvs_get hu),hcall,w2];have hcc:=gh 2 0 [(0,.pv none (.sl (some 4) (Tm.pvs l))),(3,s2),(4,P4 ((i+1:Nat):Int))] H2;refine⟨(s2,collect 2 0 [(0,.pv none (.sl (some 4) (Tm.pvs l))),(3,s2),(4,P4 ((i+1:Nat):Int))] H2),?_,rfl⟩;generalize collect 2 0 [(0,.pv none (.sl (some 4) (Tm.pvs l))),(3,s2),(4,P4 ((i+1:Nat):Int))] H2=HC at hcc;rw[Tm.zBg hu,xQ];rcases hcc with rfl|⟨rfl,hr⟩
  ·exact p1
  ·exact p1.take (hr (3,s2) (by simp))
 ·rintro⟨s1,H⟩ k1;dsimp only at k1;have hc:¬(l.length:Int)<(l.length:Int):=by omega
  rw[ZF] at k1;simp -dsimp -implicitDefEqProofs only[go_sem,seval,Tm.pvs_len,hc];exact NE k1
theorem Om(l:List Tm)(hf:∀t∈l,t.fits=true)(hz:Tm.sizes l<50000000)(hp:Heap):S 68 [.pv none (.sl (some 4) (Tm.pvs l))] hp=some (.ret (.pv none (.sl (some 4) (Tm.pvs (l.map (Tm.sub (cPos (vads [] (Tm.occs l)))))))),hp):=by
 refine zM rfl rfl rfl (zJ [(none,.sl (some 4) (Tm.pvs l))]) rfl ?_;have hlen:=Tm.zA5 l;have hn4:=P3;have h1:=fun hp=>By l hf hz hp;have hvl:=xk (Tm.occs l) [];have hol:=Tm.zBh l;simp only[zy] at hvl;have hnum:=fun(u:Tm) (hu:u∈l) hp=>Oe (vads [] (Tm.occs l)) (by omega) u hp (hf u hu) (by have:=Tm.zBp hu;omega) fun w hw=>(Jh _ [] w).2 (.inr (Tm.zBs hu hw));generalize vads [] (Tm.occs l)=L at*;obtain⟨ts',hts'⟩:∃ts',ts'=l.map (Tm.sub (cPos L)):=⟨_,rfl⟩;have htl:ts'.length=l.length:=by grind
 rw[<-hts'];simp -dsimp -implicitDefEqProofs only[go_sem,seval,hn4,h1];refine Ye (α:=Unit) l.length (fun _ _=>True) (fun i _=>⟨[(0,.pv none (.sl (some 4) (Tm.pvs l))),(3,.pv none (.sl none (ints L))),(4,.sl (some 4) 1 i 0 i),(5,P4 i)],[.arr (some 4) [] false,.arr (some 4) (Tm.pvs (ts'.take i)) false]⟩) () ⟨trivial,rfl⟩ ?_ ?_
 ·rintro i - h -;have hc:(i:Int)<(l.length:Int):=by omega
  obtain⟨u,hu⟩:∃u,l[i]? =some u:=⟨_,Zd h⟩;have hum:=Zj hu;have hcall:=fun hp=>hnum u hum hp;simp only[Tm.av] at hcall;have w2:IntKind.i64.wrap ((i:Int)+1)=((i+1:Nat):Int):=by grind [zW]
  have hll:(Tm.pvs (ts'.take i)).length=i:=by grind [Tm.pvs_len]
  have hlim:i+1<=lim:=by grind [lim]
  have hus:ts'[i]? =some (Tm.sub (cPos L) u):=by grind
  simp -dsimp -implicitDefEqProofs only[go_sem,seval,Tm.pvs_len,hc,zQ (Tm.pvs_get hu),hcall,w2,hll,hlim,Tm.zA9 hus];simp_all
 ·rintro - -;have hc:¬(l.length:Int)<(l.length:Int):=by omega
  have htk:ts'.take l.length=ts':=Zl (by omega);simp -dsimp -implicitDefEqProofs only[go_sem,seval,Tm.pvs_len,hc,htk];have hlp:(Tm.pvs ts').length=l.length:=by rw[Tm.pvs_len,htl]
  rw[GC (sh:=some 4) (hp:=[AObj.arr (some 4) [] false,AObj.arr (some 4) (Tm.pvs ts') false]) (r:=1) (n:=l.length) hlp];rfl
theorem On(a a' b b':Tm)(z1:a.size<1000000000)(z2:a'.size<1000000000)(z3:b.size<1000000000)(z4:b'.size<1000000000)(hp:Heap):S 65 [.pv none (.sl (some 4) (Tm.pvs [a',b'])),.pv none (.sl (some 4) (Tm.pvs [a,b]))] hp=some (.ret (P5 (same a' a && same b' b)),hp):=by
 refine zM rfl rfl rfl (zJ [(none,.sl (some 4) (Tm.pvs [a',b'])),(none,.sl (some 4) (Tm.pvs [a,b]))]) rfl ?_;have h1:=fun hp=>qb a' a hp z2 z1;have h2:=fun hp=>qb b' b hp z4 z3;have e2:((2:Nat):Int)=2:=rfl;have e1:((1:Nat):Int)=1:=rfl;have e0:((0:Nat):Int)=0:=rfl;have p1:Tm.pvs [a',b']=[a'.pv,b'.pv]:=rfl;have p2:Tm.pvs [a,b]=[a.pv,b.pv]:=rfl;have hl:∀x y:PV,(([x,y]:List PV).length:Int)=2:=fun _ _=>rfl;simp only[Tm.av] at h1 h2;rw[p1,p2];simp -dsimp -implicitDefEqProofs only[go_sem,seval,hl,e2];refine Ye (α:=Unit) 2 (fun i _=>(0<i->same a' a=true)/\(1<i->same b' b=true)) (fun i _=>⟨[(0,.pv none (.sl (some 4) [a'.pv,b'.pv])),(1,.pv none (.sl (some 4) [a.pv,b.pv])),(5,P4 i)],[]⟩) () ⟨⟨by omega,by omega⟩,rfl⟩ ?_ ?_
 ·rintro i - h ⟨ha,hb⟩
  match i,h with
  |0,_=>
   have c2:(0:Int)<2:=by decide
   have w2:IntKind.i64.wrap ((0:Int)+1)=((0+1:Nat):Int):=by decide
   have i0:Yc (some 4) [.pv none (.sl (some 4) [a'.pv,b'.pv]),P4 0]=some (.iptr (some 4) a'.pv 0):=rfl;have i1:Yc (some 4) [.pv none (.sl (some 4) [a.pv,b.pv]),P4 0]=some (.iptr (some 4) a.pv 0):=rfl;cases hs:same a' a with
   |true=>
    rw[hs] at h1;simp -dsimp -implicitDefEqProofs only[go_sem,seval,hl,e2,e0,c2,w2,i0,i1,h1];simp_all
   |false=>
    rw[hs] at h1;simp -dsimp -implicitDefEqProofs only[go_sem,seval,hl,e2,e0,c2,w2,i0,i1,h1]
    try exact⟨_,rfl⟩
  |1,_=>
   have h0:=ha (by omega);have c2:(1:Int)<2:=by decide
   have w2:IntKind.i64.wrap ((1:Int)+1)=((1+1:Nat):Int):=by decide
   have i0:Yc (some 4) [.pv none (.sl (some 4) [a'.pv,b'.pv]),P4 1]=some (.iptr (some 4) b'.pv 0):=rfl;have i1:Yc (some 4) [.pv none (.sl (some 4) [a.pv,b.pv]),P4 1]=some (.iptr (some 4) b.pv 0):=rfl;rw[h0];cases hs:same b' b with
   |true=>
    rw[hs] at h2;simp -dsimp -implicitDefEqProofs only[go_sem,seval,hl,e2,e1,c2,w2,i0,i1,h2];simp_all
   |false=>
    rw[hs] at h2;simp -dsimp -implicitDefEqProofs only[go_sem,seval,hl,e2,e1,c2,w2,i0,i1,h2]
    try exact⟨_,rfl⟩
 ·rintro - ⟨ha,hb⟩;have h0:=ha (by omega);have h1':=hb (by omega);have c2:¬(2:Int)<2:=by decide
  rw[h0,h1'];simp -dsimp -implicitDefEqProofs only[go_sem,seval,hl,e2,c2]
  try exact⟨_,rfl⟩
end Go.Proofs.YtgedfopkiebjkaaGreatDoor
namespace Go.Proofs.YtgedfopkiebjkaaGreatDoor
open Go.Am
theorem Xi(c:Cz):PV.part deep c.pv 0 none=some (.int .i64 c.head.kind):=by
 obtain⟨⟨_,_,_,_⟩,_⟩:=c;rfl
theorem Oo(c:Cz)(z1:c.head.size<100000000)(z2:c.body.size<100000000)(hp:Heap):∃r:Bool,S 29 [c.av] hp=some (.ret (P5 r),hp)/\(r=true->okC c=true):=by
 have h1:=fun hp=>xh c.head hp (by omega);have h2:=fun hp=>xh c.body hp (by omega);simp only[Tm.av] at h1 h2;cases v1:c.head.valid with
 |false=>
  rw[v1] at h1;refine⟨false,zM rfl rfl rfl (zJ [(some 8,c.pv)]) rfl ?_,fun h=>by cases h⟩;simp -dsimp -implicitDefEqProofs only[go_sem,seval,Cz.av,YL,YM,Xi,h1]
 |true=>
 rw[v1] at h1;cases v2:c.body.valid with
 |false=>
  rw[v2] at h2;refine⟨false,zM rfl rfl rfl (zJ [(some 8,c.pv)]) rfl ?_,fun h=>by cases h⟩;simp -dsimp -implicitDefEqProofs only[go_sem,seval,Cz.av,YL,YM,Xi,h1,h2]
 |true=>
 rw[v2] at h2;have hs1:=valid_size v1;have hs2:=valid_size v2;by_cases hk:c.head.kind=2\/c.head.kind=3
 rotate_left
 ·have k2:(c.head.kind=2)=False:=Zi fun h=>hk (.inl h);have k3:(c.head.kind=3)=False:=Zi fun h=>hk (.inr h);refine⟨false,zM rfl rfl rfl (zJ [(some 8,c.pv)]) rfl ?_,fun h=>by cases h⟩;simp -dsimp -implicitDefEqProofs only[go_sem,seval,Cz.av,YL,YM,Xi,h1,h2,k2,k3]
 have h3:=fun hp=>Oj c.body.size c.body (Zc _) v2 hp;have hcv:=Ok c.body.size c.body;have hcs:=Ol c.body.size c.body;generalize rcF c.body.size c.body=R at h3 hcv hcs;obtain⟨g,ok⟩:=R;dsimp only at h3 hcv hcs;have h4:=fun hp=>qb g c.body hp (by omega) (by omega);have h5:=fun hp=>Vl c.head hp (by omega);have h6:=fun hp=>Vl c.body hp (by omega);have w1:IntKind.i64.wrap (((min c.head.size 2001:Nat):Int)+((min c.body.size 2001:Nat):Int))=((c.head.size+c.body.size:Nat):Int):=by grind [zW]
 simp only[Tm.av] at h3 h4 h5 h6;have hfl:∀t∈[c.head,c.body],t.fits=true:=fun t ht=>by
  grind [valid_fits]
 have hzz:Tm.sizes [c.head,c.body]<50000000:=by
  show c.head.size+(c.body.size+0)<_;omega
 have eoc:Tm.occs [c.head,c.body]=c.head.occ++c.body.occ:=by
  show c.head.occ++(c.body.occ++[])=_
  grind
 have h7:∀hp,S 67 [.tsl (some 4) [c.head.pv,c.body.pv]] hp=some (.ret (.pv none (.sl none (ints c.vars))),hp):=fun hp=>by
  have:=yw (F:=find tab) (prim:=prim) (f:=67) (args:=[.tsl (some 4) [c.head.pv,c.body.pv]]) (ps:=[(none,.sl (some 4) [c.head.pv,c.body.pv])]) (hp:=hp) (hp1:=hp) rfl rfl rfl rfl (By [c.head,c.body] hfl hzz []);rw[eoc] at this;exact this
 have h8:∀hp,S 68 [.tsl (some 4) [c.head.pv,c.body.pv]] hp=some (.ret (.pv none (.sl (some 4) [c.can.head.pv,c.can.body.pv])),hp):=fun hp=>by
  have:=yw (F:=find tab) (prim:=prim) (f:=68) (args:=[.tsl (some 4) [c.head.pv,c.body.pv]]) (ps:=[(none,.sl (some 4) [c.head.pv,c.body.pv])]) (hp:=hp) (hp1:=hp) rfl rfl rfl rfl (Om [c.head,c.body] hfl hzz []);rw[eoc] at this;exact this
 have q1:c.can.head.size=c.head.size:=QJ _ (valid_fits v1);have q2:c.can.body.size=c.body.size:=QJ _ (valid_fits v2);have h9:∀hp,S 65 [.pv none (.sl (some 4) [c.can.head.pv,c.can.body.pv]),.tsl (some 4) [c.head.pv,c.body.pv]] hp=some (.ret (P5 (same c.can.head c.head && same c.can.body c.body)),hp):=fun hp=>by
  have:=yw (F:=find tab) (prim:=prim) (f:=65) (args:=[.pv none (.sl (some 4) [c.can.head.pv,c.can.body.pv]),.tsl (some 4) [c.head.pv,c.body.pv]]) (ps:=[(none,.sl (some 4) [c.can.head.pv,c.can.body.pv]),(none,.sl (some 4) [c.head.pv,c.body.pv])]) (hp:=hp) (hp1:=hp) rfl rfl rfl rfl (On c.head c.can.head c.body c.can.body (by omega) (by omega) (by omega) (by omega) [])
  grind
 cases ok with
 |false=>
  refine⟨false,zM rfl rfl rfl (zJ [(some 8,c.pv)]) rfl ?_,fun h=>by cases h⟩;rcases hk with hk|hk
  ·have k2:=Zg hk;simp -dsimp -implicitDefEqProofs only[go_sem,seval,Cz.av,YL,YM,Xi,h1,h2,h3,k2,zH (Za _)]
  ·have k3:=Zg hk;have k2:(c.head.kind=2)=False:=Zi (by omega);simp -dsimp -implicitDefEqProofs only[go_sem,seval,Cz.av,YL,YM,Xi,h1,h2,h3,k2,k3,zH (Za _)]
 |true=>
 cases sm:same g c.body with
 |false=>
  rw[sm] at h4;refine⟨false,zM rfl rfl rfl (zJ [(some 8,c.pv)]) rfl ?_,fun h=>by cases h⟩;rcases hk with hk|hk
  ·have k2:=Zg hk;simp -dsimp -implicitDefEqProofs only[go_sem,seval,Cz.av,YL,YM,Xi,h1,h2,h3,h4,k2,zH (Za _)]
  ·have k3:=Zg hk;have k2:(c.head.kind=2)=False:=Zi (by omega);simp -dsimp -implicitDefEqProofs only[go_sem,seval,Cz.av,YL,YM,Xi,h1,h2,h3,h4,k2,k3,zH (Za _)]
 |true=>
 rw[sm] at h4;by_cases hsz:c.head.size+c.body.size<=2000
 rotate_left
 ·have hgt:(2000:Int)<((c.head.size+c.body.size:Nat):Int):=by omega
  refine⟨false,zM rfl rfl rfl (zJ [(some 8,c.pv)]) rfl ?_,fun h=>by cases h⟩;rcases hk with hk|hk
  ·have k2:=Zg hk;simp -dsimp -implicitDefEqProofs only[go_sem,seval,Cz.av,YL,YM,Xi,h1,h2,h3,h4,h5,h6,w1,hgt,k2,zH (Za _)]
  ·have k3:=Zg hk;have k2:(c.head.kind=2)=False:=Zi (by omega);simp -dsimp -implicitDefEqProofs only[go_sem,seval,Cz.av,YL,YM,Xi,h1,h2,h3,h4,h5,h6,w1,hgt,k2,k3,zH (Za _)]
 have hgt:¬(2000:Int)<((c.head.size+c.body.size:Nat):Int):=by omega
 by_cases hvl:c.vars.length<=64
 rotate_left
 ·have hv':¬((c.vars.length:Nat):Int)<=64:=by omega
  refine⟨false,zM rfl rfl rfl (zJ [(some 8,c.pv)]) rfl ?_,fun h=>by cases h⟩;rcases hk with hk|hk
  ·have k2:=Zg hk;simp -dsimp -implicitDefEqProofs only[go_sem,seval,Cz.av,YL,YM,Xi,h1,h2,h3,h4,h5,h6,h7,w1,hgt,hv',Y9,k2,zH (Za _)]
  ·have k3:=Zg hk;have k2:(c.head.kind=2)=False:=Zi (by omega);simp -dsimp -implicitDefEqProofs only[go_sem,seval,Cz.av,YL,YM,Xi,h1,h2,h3,h4,h5,h6,h7,w1,hgt,hv',Y9,k2,k3,zH (Za _)]
 have hv':((c.vars.length:Nat):Int)<=64:=by omega
 refine⟨same c.can.head c.head && same c.can.body c.body,zM rfl rfl rfl (zJ [(some 8,c.pv)]) rfl ?_,fun h=> ?_⟩
 ·rcases hk with hk|hk
  ·have k2:=Zg hk;simp -dsimp -implicitDefEqProofs only[go_sem,seval,Cz.av,YL,YM,Xi,h1,h2,h3,h4,h5,h6,h7,h8,h9,w1,hgt,hv',Y9,k2,zH (Za _)]
  ·have k3:=Zg hk;have k2:(c.head.kind=2)=False:=Zi (by omega);simp -dsimp -implicitDefEqProofs only[go_sem,seval,Cz.av,YL,YM,Xi,h1,h2,h3,h4,h5,h6,h7,h8,h9,w1,hgt,hv',Y9,k2,k3,zH (Za _)]
 ·rw[Zk] at h;have hg:yG c.body=some g:=by
   have hgv:g.valid=true:=by
    grind [same]
   grind [valid_size,yG,cv]
  grind [okC]
end Go.Proofs.YtgedfopkiebjkaaGreatDoor
