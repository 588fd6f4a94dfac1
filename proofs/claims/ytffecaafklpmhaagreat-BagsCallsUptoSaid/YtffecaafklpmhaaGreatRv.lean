/- What is proved: elements of lists, names of structures, the next variable. -/
import Derived.Test.YtffecaafklpmhaaGreatPFre
set_option linter.unusedSimpArgs false
set_option linter.unusedVariables false
namespace Go.Proofs.YtffecaafklpmhaaGreat
open Go.Am
def cs(t:Tm):Prop:=t.kind=3/\t.name=[46]/\t.args.length=2
instance (t:Tm):Decidable (cs t):=inferInstanceAs (Decidable (_/\_))
def tl(t:Tm):Tm:=if h:cs t then tl (arg1 t) else t
termination_by t.size
decreasing_by exact Tm.zyQ (Xx h.2.2)
def els(t:Tm):List Tm:=if h:cs t then arg0 t::els (arg1 t) else[]
termination_by t.size
decreasing_by exact Tm.zyQ (Xx h.2.2)
theorem tl_c{t:Tm}(h:cs t):tl t=tl (arg1 t):=by rw[tl,dif_pos h]
theorem tl_n{t:Tm}(h:¬cs t):tl t=t:=by rw[tl,dif_neg h]
theorem qn{t:Tm}(h:cs t):els t=arg0 t::els (arg1 t):=by rw[els,dif_pos h]
theorem qo{t:Tm}(h:¬cs t):els t=[]:=by rw[els,dif_neg h]
theorem jw:∀(n:Nat) (t:Tm),t.size=n->(els t).length<=t.size:=by
 intro n
 induction n using Nat.strongRecOn with
 |_ n ih=>
  intro t hn;by_cases h:cs t
  ·have h3:=Tm.zyQ (Xx h.2.2);have:=ih _ (by omega) (arg1 t) rfl;rw[qn h,ZB];omega
  ·rw[qo h];exact Zg _
theorem mi(t:Tm)(hp:Heap):S 102 [t.av] hp=some (.ret (O9 (decide (cs t))),hp):=by
 refine Yb rfl rfl rfl (Yd [(some 4,t.pv)]) rfl ?_;by_cases h1:t.kind=3
 ·have h1':=Zj h1;by_cases h2:t.name=[46]
  ·have h2':=Zj h2;by_cases h3:t.args.length=2
   ·have h3':=Zj (show(t.args.length:Int)=2 by omega);have e:decide (cs t)=true:=by simp[cs,h1,h2,h3]
    rw[e];simp -dsimp -implicitDefEqProofs only[go_sem,seval,↓reduceIte,Tm.av,Ya,Ye,zV,Tm.pvs_len,h1',h2',h3']
   ·have h3':=Zl (show ¬(t.args.length:Int)=2 by omega);have e:decide (cs t)=false:=by simp[cs,h3]
    rw[e];simp -dsimp -implicitDefEqProofs only[go_sem,seval,↓reduceIte,Tm.av,Ya,Ye,zV,Tm.pvs_len,h1',h2',h3']
  ·have h2':=Zl h2;have e:decide (cs t)=false:=by simp[cs,h2]
   rw[e];simp -dsimp -implicitDefEqProofs only[go_sem,seval,↓reduceIte,Tm.av,Ya,Ye,zV,Tm.pvs_len,h1',h2']
 ·have h1':=Zl h1;have e:decide (cs t)=false:=by simp[cs,h1]
  rw[e];simp -dsimp -implicitDefEqProofs only[go_sem,seval,↓reduceIte,Tm.av,Ya,Ye,zV,Tm.pvs_len,h1']
theorem jx{l:List Tm}{t:Tm}{a0 a1 a2 a3:AObj}:Am.frozen (.tuple [.pv none (.sl (some 4) (Tm.pvs l)),.pv (some 4) t.pv]) (.tuple [.sl (some 4) 4 l.length 0 l.length,.pv (some 4) t.pv]) [a0,a1,a2,a3,.arr (some 4) (Tm.pvs l) false]:=by
 refine⟨[a0,a1,a2,a3,.arr (some 4) (Tm.pvs l) true],?_⟩;have e2:∀p hp,AV.freeze deep (.pv (some 4) p) hp=some (p,hp):=fun _ _=>rfl;simp[AV.freezeRes,Yi,e2,AV.freeze,deep,Tm.pvs_len,pvs,AV.shp]
theorem O1:∀H:Heap,YB (some 4) H=some (.sl (some 4) H.length 0 0 0,H++[.arr (some 4) [] false]):=fun H=>YA (sh:=some 4) (by decide)
theorem Gj(t:Tm)(hv:t.valid=true)(hp:Heap):S 56 [t.av] hp=some (.ret (.tuple [.pv none (.sl (some 4) (Tm.pvs (els t))),(tl t).av]),hp):=by
 refine Yb rfl rfl rfl (Yd [(some 4,t.pv)]) rfl ?_;have hz:=valid_size hv;have hlen:=jw _ t rfl;have h1:=fun hp=>yS t hp (by omega);have hn0:=O1;simp only[Tm.av] at h1;simp -dsimp -implicitDefEqProofs only[go_sem,seval,↓reduceIte,Tm.av,h1,hv,hn0];refine Yr (fun n st=>∃(t1:Tm) (d:List Tm),n=t1.size/\t1.valid=true/\d++els t1=els t/\tl t1=tl t/\st=⟨[(1,.ptr 0 0),(3,.ptr 2 0),(4,.sl (some 4) 4 d.length 0 d.length)],[.box (some 4) (.pv (some 4) t1.pv),.arr (some 4) [] false,.box (some 4) (zg 3),.arr (some 4) [] false,.arr (some 4) (Tm.pvs d) false]⟩) (n:=t.size) ⟨t,[],rfl,hv,rfl,rfl,rfl⟩ ?_;rintro n st ⟨t1,d,rfl,hv1,he,ht,rfl⟩;have hq:=mi t1;simp only[Tm.av] at hq;have hdl:=congrArg List.length he;rw[Zc] at hdl;by_cases h:cs t1
 ·have hd:decide (cs t1)=true:=by simp[h]
  rw[hd] at hq;have hlt:=Tm.zyQ (Xx h.2.2);have v0:=YK hv1 (jv h.2.2);have v1:=YK hv1 (Xx h.2.2);have hcp:=fun hp=>kK (arg0 t1) hp (fit9 v0);have hlim:d.length+1<=lim:=by unfold lim;omega
  have hpl:=Tm.pvs_len d;rw[qn h] at he;simp only[Tm.av] at hcp;simp -dsimp -implicitDefEqProofs only[go_sem,seval,↓reduceIte,zg,hq,zV,hcp,ia0 (Tm.pvs_get (Jj h.2.2)),ia1 (Tm.pvs_get (Jk h.2.2)),hpl,hlim];refine⟨_,hlt,arg1 t1,d++[arg0 t1],rfl,v1,by rw[<-he,Zd];rfl,by rw[<-ht,tl_c h],?_⟩;rw[Tm.zyO,Zc];rfl
 ·have hd:decide (cs t1)=false:=by simp[h]
  rw[hd] at hq;have hcp:=fun hp=>kK t1 hp (fit9 hv1);rw[qo h,ZF] at he;rw[tl_n h] at ht;simp only[Tm.av] at hcp;rw[<-he,<-ht];simp -dsimp -implicitDefEqProofs only[go_sem,seval,↓reduceIte,zg,hq,hcp];exact jx
theorem mj(t:Tm)(hv:t.valid=true)(hp:Heap):S 50 [t.av] hp=some (.ret (.tuple [.pv none (.sl (some 4) (Tm.pvs (els t))),(tl t).av]),hp):=by
 refine Yb rfl rfl rfl (Yd [(some 4,t.pv)]) rfl ?_;have hz:=valid_size hv;have hlen:=jw _ t rfl;have h1:=fun hp=>yR t hp (by omega);have hn0:=O1;simp only[Tm.av] at h1;simp -dsimp -implicitDefEqProofs only[go_sem,seval,↓reduceIte,Tm.av,h1,hv,hn0];refine Yr (fun n st=>∃(t1:Tm) (d:List Tm),n=t1.size/\t1.valid=true/\d++els t1=els t/\tl t1=tl t/\st=⟨[(1,.ptr 0 0),(3,.ptr 2 0),(4,.sl (some 4) 4 d.length 0 d.length)],[.box (some 4) (.pv (some 4) t1.pv),.arr (some 4) [] false,.box (some 4) (zg 3),.arr (some 4) [] false,.arr (some 4) (Tm.pvs d) false]⟩) (n:=t.size) ⟨t,[],rfl,hv,rfl,rfl,rfl⟩ ?_;rintro n st ⟨t1,d,rfl,hv1,he,ht,rfl⟩;have hdl:=congrArg List.length he;rw[Zc] at hdl;by_cases h:cs t1
 ·have hlt:=Tm.zyQ (Xx h.2.2);have v0:=YK hv1 (jv h.2.2);have v1:=YK hv1 (Xx h.2.2);have hcp:=fun hp=>XU (arg0 t1) hp v0 (fit9 v0);have hlim:d.length+1<=lim:=by unfold lim;omega
  have hpl:=Tm.pvs_len d;have k1:=Zj h.1;have k2:=Zj h.2.1;have k3:=Zj (show(t1.args.length:Int)=2 by have:=h.2.2;omega);rw[qn h] at he;simp only[Tm.av] at hcp;simp -dsimp -implicitDefEqProofs only[go_sem,seval,↓reduceIte,zg,Ya,Ye,zV,Tm.pvs_len,k1,k2,k3,hcp,ia0 (Tm.pvs_get (Jj h.2.2)),ia1 (Tm.pvs_get (Jk h.2.2)),hpl,hlim];refine⟨_,hlt,arg1 t1,d++[arg0 t1],rfl,v1,by rw[<-he,Zd];rfl,by rw[<-ht,tl_c h],?_⟩;rw[Tm.zyO,Zc];rfl
 ·have hcp:=fun hp=>XU t1 hp hv1 (fit9 hv1);rw[qo h,ZF] at he;rw[tl_n h] at ht;simp only[Tm.av] at hcp;rw[<-he,<-ht];by_cases k1:t1.kind=3
  ·have k1':=Zj k1;by_cases k2:t1.name=[46]
   ·have k2':=Zj k2;have k3':=Zl (show ¬(t1.args.length:Int)=2 by
     intro e;exact h ⟨k1,k2,by omega⟩)
    simp -dsimp -implicitDefEqProofs only[go_sem,seval,↓reduceIte,zg,Ya,Ye,zV,Tm.pvs_len,k1',k2',k3',hcp];exact jx
   ·have k2':=Zl k2;simp -dsimp -implicitDefEqProofs only[go_sem,seval,↓reduceIte,zg,Ya,Ye,zV,Tm.pvs_len,k1',k2',hcp];exact jx
  ·have k1':=Zl k1;simp -dsimp -implicitDefEqProofs only[go_sem,seval,↓reduceIte,zg,Ya,Ye,zV,Tm.pvs_len,k1',hcp];exact jx
def ll(t:Tm):Prop:=(tl t).kind=0\/((tl t).kind=2/\(tl t).name=[91,93])
instance (t:Tm):Decidable (ll t):=inferInstanceAs (Decidable (_\/_))
def mx(x y:Int):Int:=if x<y then y else x
def Yf(nm:List UInt8):Tm:=.mk 2 0 nm []
def strT(nm:List UInt8)(l:List Tm):Tm:=.mk 3 0 nm l
theorem Va{nm:List UInt8}(h:nm.length<=100):(Yf nm).valid=true:=by
 have:(nm.length:Int)<=100:=by omega
 refine QG ?_ (by have:(Yf nm).size=1:=rfl;omega);simp[Yf,Tm.fits,Tm.fitsAll,Tm.node,Tm.kind,Tm.n,Tm.name,Tm.args,this]
theorem Gk{nm:List UInt8}{l:List Tm}(h:nm.length<=100)(h1:0<l.length)(h2:l.length<=8)(hl:Tm.fitsAll l=true):(strT nm l).fits=true:=by
 have a:(nm.length:Int)<=100:=by omega
 have b:0<(l.length:Int):=by omega
 have c:(l.length:Int)<=8:=by omega
 simp[strT,Tm.fits,Tm.node,Tm.kind,Tm.n,Tm.name,Tm.args,a,b,c,h1,hl]
theorem Jm(nm:List UInt8)(h:nm.length<=100)(hp:Heap):S 28 [Oh nm] hp=some (.ret (Yf nm).av,hp):=by
 refine Yb rfl rfl rfl (Yd [(none,.str nm)]) rfl ?_;have hv:=Va h;have hb:Ym A0 [0,2] [O8 2,Oh nm]=some (.agg [(none,O8 2),(none,O8 0),(none,Oh nm),(none,.tsl (some 4) [])]):=rfl;have hcl:∀H:Heap,S 38 [.agg [(none,O8 2),(none,O8 0),(none,Oh nm),(none,.tsl (some 4) [])]] H=some (.ret (Yf nm).av,H):=fun H=>
  yG (F:=find tab) (prim:=prim) (f:=38) (args:=[.agg [(none,O8 2),(none,O8 0),(none,Oh nm),(none,.tsl (some 4) [])]]) (ps:=[(some 4,(Yf nm).pv)]) (hp:=H) (hp1:=H) rfl rfl rfl rfl (XU (Yf nm) [] hv (fit9 hv))
 simp only[Tm.av] at hcl;simp -dsimp -implicitDefEqProofs only[go_sem,seval,↓reduceIte,Tm.av,hb,hcl]
 try rfl
theorem Vb(nm:List UInt8)(l:List Tm)(h1:0<l.length)(hv:(strT nm l).valid=true)(hp:Heap):S 26 [Oh nm,.pv none (.sl (some 4) (Tm.pvs l))] hp=some (.ret (strT nm l).av,hp):=by
 refine Yb rfl rfl rfl (Yd [(none,.str nm),(none,.sl (some 4) (Tm.pvs l))]) rfl ?_;have hb:Ym A0 [0,2,3] [O8 3,Oh nm,.pv none (.sl (some 4) (Tm.pvs l))]=some (.pv (some 4) (strT nm l).pv):=rfl;have hcl:=fun hp=>XU (strT nm l) hp hv (fit9 hv);have hne:=Zl (show ¬(l.length:Int)=0 by omega);simp only[Tm.av] at hcl;simp -dsimp -implicitDefEqProofs only[go_sem,seval,↓reduceIte,Tm.av,hb,hcl,Tm.pvs_len,hne]
 try rfl
theorem QK{f:FuncId}{fn:AFn}{ps:List (Sh × PV)}{args:List AV}{t:Tm}{hp hp1:Heap}(hp0:prim f=none)(hf:find tab f=some fn)(hm:fn.heapMode=false)(hz:Yi args hp=some (ps,hp1))(hr:fn.rcv=none)(h:S f (pvs ps) []=some (.ret t.av,[])):S f args hp=some (.ret t.av,hp1):=by
 have h:=yG (F:=find tab) (prim:=prim) (f:=f) (args:=args) (ps:=ps) (hp:=hp) (hp1:=hp1) hp0 hf hm hz h hr;have hs:∀t:Tm,t.av.scalar=false:=fun t=>by cases t;rfl
 rw[hs] at h;exact h
def errN:List UInt8:=[101,114,114,111,114]
def errT(f:Tm):Tm:=strT errN [f,nilT]
theorem ml(fn:List UInt8)(l:List Tm)(h1:0<l.length)(hv1:(strT fn l).valid=true)(hv2:(errT (strT fn l)).valid=true)(hp:Heap):S 111 [Oh fn,.pv none (.sl (some 4) (Tm.pvs l))] hp=some (.ret (errT (strT fn l)).av,hp):=by
 refine Yb rfl rfl rfl (Yd [(none,.str fn),(none,.sl (some 4) (Tm.pvs l))]) rfl ?_;have ha:=Vb fn l h1 hv1;have hb:=Jm [91,93] (by decide);have hc:∀H:Heap,S 26 [Oh errN,.tsl (some 4) [(strT fn l).pv,nilT.pv]] H=some (.ret (errT (strT fn l)).av,H):=fun H=>
  QK (ps:=[(none,.str errN),(none,.sl (some 4) (Tm.pvs [strT fn l,nilT]))]) rfl rfl rfl rfl rfl (Vb errN [strT fn l,nilT] (by simp) hv2 [])
 have e:Yf [91,93]=nilT:=rfl;rw[e] at hb;simp only[Tm.av] at ha hb hc;generalize strT fn l=F at*;simp only[errN] at hc;simp -dsimp -implicitDefEqProofs only[go_sem,seval,↓reduceIte,Tm.av,ha,hb,hc]
 try rfl
def tyN:List UInt8:=[116,121,112,101,95,101,114,114,111,114]
def cul(t:Tm):Tm:=if 2000<t.size+4 then Yf [46,46,46] else t
def typT(nm:List UInt8)(t:Tm):Tm:=errT (strT tyN [Yf nm,cul t])
theorem mm{t:Tm}(hv:t.valid=true):(cul t).valid=true/\(cul t).size+4<=2000:=by
 unfold cul;split
 ·exact⟨Va (by decide),by have:(Yf [46,46,46]).size=1:=rfl;omega⟩
 ·exact⟨hv,by omega⟩
theorem jy{nm:List UInt8}(hn:nm.length<=100){t:Tm}(hv:t.valid=true):(strT tyN [Yf nm,cul t]).valid=true/\(typT nm t).valid=true:=by
 obtain⟨h1,h2⟩:=mm hv;have h3:=Va hn;have f1:(strT tyN [Yf nm,cul t]).fits=true:=Gk (by decide) (by simp) (by simp) (by simp[Tm.fitsAll,valid_fits h1,valid_fits h3]);have s1:(strT tyN [Yf nm,cul t]).size=1+(1+((cul t).size+0)):=by rw[Tm.size_eq];rfl
 have f2:(typT nm t).fits=true:=Gk (by decide) (by simp) (by simp) (by simp[Tm.fitsAll,f1];decide);have s2:(typT nm t).size=1+((strT tyN [Yf nm,cul t]).size+(1+0)):=by
  show(errT _).size=_;rw[Tm.size_eq];rfl
 exact⟨QG f1 (by omega),QG f2 (by omega)⟩
theorem mn(nm:List UInt8)(hn:nm.length<=100)(t:Tm)(hv:t.valid=true)(hp:Heap):S 112 [t.av,Oh tyN,.pv none (.sl none [.str nm])] hp=some (.ret (typT nm t).av,hp):=by
 refine Yb rfl rfl rfl (Yd [(some 4,t.pv),(none,.str tyN),(none,.sl none [.str nm])]) rfl ?_;have hz:=valid_size hv;have h1:=fun hp=>yR t hp (by omega);have h2:=fun hp=>kH t hp (by omega);have h3:=Jm nm hn;have h4:=Jm [46,46,46] (by decide);obtain⟨v1,v2⟩:=jy hn hv;have hn0:=O1;have hmin:min t.size 2001=t.size:=by omega
 rw[hmin] at h2;have hsl:=Zl (show ¬(100:Int)<(nm.length:Int) by omega);have hia:yg none [.pv none (.sl none [.str nm]),O8 0]=some (.iptr none (.str nm) 0):=rfl;have w1:IntKind.i64.wrap 4=4:=by decide
 have w2:IntKind.i64.wrap ((4:Int)+(t.size:Int))=4+(t.size:Int):=zZ (by omega) (by omega);have w3:IntKind.i64.wrap 1=1:=by decide
 have hp0:Tm.pvs []=[]:=rfl;have hra:∀(a0 a1 a2:AObj),S 111 [Oh tyN,.sl (some 4) 3 2 0 2] [a0,a1,a2,.arr (some 4) [(Yf nm).pv,(cul t).pv] false]=some (.ret (typT nm t).av,[a0,a1,a2,.arr (some 4) [(Yf nm).pv,(cul t).pv] true]):=fun a0 a1 a2=>
  QK (ps:=[(none,.str tyN),(none,.sl (some 4) (Tm.pvs [Yf nm,cul t]))]) rfl rfl rfl rfl rfl (ml tyN [Yf nm,cul t] (by simp) v1 v2 [])
 have hl1:(1:Nat)+1<=lim:=by unfold lim;omega
 have hl0:(0:Nat)+1<=lim:=by unfold lim;omega
 simp only[Tm.av] at h1 h2 h3 h4 hra;simp -dsimp -implicitDefEqProofs only[go_sem,seval,↓reduceIte,Tm.av,h1,hv,hn0];refine Yv (α:=Unit) 1 (fun _ _=>True) (fun i _=>⟨[(1,Oh tyN),(2,.pv none (.sl none [.str nm])),(3,.ptr 0 0),(6,.ptr 1 0),(7,.sl (some 4) 3 i 0 i),(14,.pv none (.sl none [.str nm])),(15,O8 1),(16,O8 i)],[.box (some 4) (.pv (some 4) t.pv),.box (some 4) (zg 2),.arr (some 4) [] false,.arr (some 4) (Tm.pvs ([Yf nm].take i)) false]⟩) () ⟨trivial,rfl⟩ ?_ ?_
 ·rintro i - hi -;have:i=0:=by omega
  subst this;have hc:(0:Int)<(1:Int):=by omega
  have hap:∀a0 a1 a2:AObj,YN (some 4) [a0,a1,a2,.arr (some 4) [] false] [.sl (some 4) 3 0 0 0,.tsl (some 4) [(Yf nm).pv]]=some (.sl (some 4) 3 1 0 1,[a0,a1,a2,.arr (some 4) [(Yf nm).pv] false]):=fun _ _ _=>rfl;have htk:Tm.pvs ([Yf nm].take 0)=[]:=rfl;have htk1:Tm.pvs ([Yf nm].take 1)=[(Yf nm).pv]:=rfl;generalize (Yf nm).pv=X at*;simp -dsimp -implicitDefEqProofs only[go_sem,seval,↓reduceIte,zg,htk,hp0,hc,hia,hsl,h3,hap,w3];exact⟨(),by rw[htk1];rfl⟩
 ·rintro - -;have hc:¬(1:Int)<(1:Int):=by omega
  have htk:Tm.pvs ([Yf nm].take 1)=[(Yf nm).pv]:=rfl;by_cases hbig:(2000:Int)<4+(t.size:Int)
  ·have hcu:cul t=Yf [46,46,46]:=by unfold cul;rw[Zb (by omega)]
   have hap:∀(a0 a1 a2:AObj),YN (some 4) [a0,a1,a2,.arr (some 4) [(Yf nm).pv] false] [.sl (some 4) 3 1 0 1,.tsl (some 4) [(Yf [46,46,46]).pv]]=some (.sl (some 4) 3 2 0 2,[a0,a1,a2,.arr (some 4) [(Yf nm).pv,(Yf [46,46,46]).pv] false]):=fun _ _ _=>rfl;rw[hcu] at hra;generalize (Yf [46,46,46]).pv=Y at*;generalize (Yf nm).pv=X at*;simp -dsimp -implicitDefEqProofs only[go_sem,seval,↓reduceIte,zg,htk,hc,h2,w1,w2,hbig,h4,hap,hra];rfl
  ·have hcu:cul t=t:=by unfold cul;rw[Za (by omega)]
   have hap:∀(a0 a1 a2:AObj),YN (some 4) [a0,a1,a2,.arr (some 4) [(Yf nm).pv] false] [.sl (some 4) 3 1 0 1,.tsl (some 4) [t.pv]]=some (.sl (some 4) 3 2 0 2,[a0,a1,a2,.arr (some 4) [(Yf nm).pv,t.pv] false]):=fun _ _ _=>rfl;rw[hcu] at hra;generalize (Yf nm).pv=X at*;simp -dsimp -implicitDefEqProofs only[go_sem,seval,↓reduceIte,zg,htk,hc,h2,w1,w2,hbig,hap,hra];rfl
theorem jz(nm:List UInt8)(hp:Heap):S 78 [Oh nm] hp=some (.ret (Yf nm).av,hp):=by
 refine Yb rfl rfl rfl (Yd [(none,.str nm)]) rfl ?_;have hb:Ym A0 [0,2] [O8 2,Oh nm]=some (.agg [(none,O8 2),(none,O8 0),(none,Oh nm),(none,.tsl (some 4) [])]):=rfl;simp -dsimp -implicitDefEqProofs only[go_sem,seval,↓reduceIte,Tm.av,hb,Yc (Zg _)];exact⟨_,rfl⟩
theorem Gm(nm:List UInt8)(l:List Tm)(hp:Heap):S 114 [Oh nm,.pv none (.sl (some 4) (Tm.pvs l))] hp=some (.ret (strT nm l).av,hp):=by
 refine Yb rfl rfl rfl (Yd [(none,.str nm),(none,.sl (some 4) (Tm.pvs l))]) rfl ?_;have hb:Ym A0 [0,2,3] [O8 3,Oh nm,.pv none (.sl (some 4) (Tm.pvs l))]=some (.pv (some 4) (strT nm l).pv):=rfl;simp -dsimp -implicitDefEqProofs only[go_sem,seval,↓reduceIte,Tm.av,hb]
 try rfl
theorem Gn(f:Tm)(hv:(errT f).valid=true)(hp:Heap):S 77 [f.av] hp=some (.ret (errT f).av,hp):=by
 refine Yb rfl rfl rfl (Yd [(some 4,f.pv)]) rfl ?_;have h1:=jz [91,93] [];have h2:=Gm errN [f,nilT] [];have h3:=kL (errT f) [] hv (fit9 hv);have e:Yf [91,93]=nilT:=rfl;have e2:Tm.pvs [f,nilT]=[f.pv,nilT.pv]:=rfl;have e3:strT errN [f,nilT]=errT f:=rfl;rw[e] at h1;rw[e2,e3] at h2;simp only[Tm.av,errN] at h1 h2 h3;simp -dsimp -implicitDefEqProofs only[go_sem,seval,↓reduceIte,Tm.av,h1,h2,h3]
 try rfl
theorem mo(nm:List UInt8)(hn:nm.length<=100)(t:Tm)(hv:t.valid=true)(hp:Heap):S 79 [t.av,Oh tyN,.pv none (.sl none [.str nm])] hp=some (.ret (typT nm t).av,hp):=by
 refine Yb rfl rfl rfl (Yd [(some 4,t.pv),(none,.str tyN),(none,.sl none [.str nm])]) rfl ?_;have hz:=valid_size hv;have h1:=fun hp=>yS t hp (by omega);have h2:=fun hp=>uW t hp (by omega);have h3:=jz nm;have h4:=jz [46,46,46];obtain⟨v1,v2⟩:=jy hn hv;have hn0:=O1;have hmin:min t.size 2001=t.size:=by omega
 rw[hmin] at h2;have hia:yg none [.pv none (.sl none [.str nm]),O8 0]=some (.iptr none (.str nm) 0):=rfl;have w1:IntKind.i64.wrap 3=3:=by decide
 have w2:IntKind.i64.wrap ((3:Int)+(t.size:Int))=3+(t.size:Int):=zZ (by omega) (by omega);have w4:IntKind.i64.wrap ((3:Int)+(t.size:Int)+1)=3+(t.size:Int)+1:=zZ (by omega) (by omega);have w3:IntKind.i64.wrap 1=1:=by decide
 have hp0:Tm.pvs []=[]:=rfl;have hst:∀(a0 a1 a2:AObj),S 114 [Oh tyN,.sl (some 4) 3 2 0 2] [a0,a1,a2,.arr (some 4) [(Yf nm).pv,(cul t).pv] false]=some (.ret (strT tyN [Yf nm,cul t]).av,[a0,a1,a2,.arr (some 4) [(Yf nm).pv,(cul t).pv] true]):=fun a0 a1 a2=>
  QK (ps:=[(none,.str tyN),(none,.sl (some 4) (Tm.pvs [Yf nm,cul t]))]) rfl rfl rfl rfl rfl (Gm tyN [Yf nm,cul t] [])
 have hba:=Gn (strT tyN [Yf nm,cul t]) v2;have hba:∀hp,S 77 [(strT tyN [Yf nm,cul t]).av] hp=some (.ret (typT nm t).av,hp):=hba;simp only[Tm.av] at h1 h2 h3 h4 hst hba;simp -dsimp -implicitDefEqProofs only[go_sem,seval,↓reduceIte,Tm.av,h1,hv,hn0];refine Yv (α:=Unit) 1 (fun _ _=>True) (fun i _=>⟨[(1,Oh tyN),(2,.pv none (.sl none [.str nm])),(3,.ptr 0 0),(6,.ptr 1 0),(7,.sl (some 4) 3 i 0 i),(8,O8 i)],[.box (some 4) (.pv (some 4) t.pv),.box (some 4) (zg 2),.arr (some 4) [] false,.arr (some 4) (Tm.pvs ([Yf nm].take i)) false]⟩) () ⟨trivial,rfl⟩ ?_ ?_
 ·rintro i - hi -;have:i=0:=by omega
  subst this;have hc:(0:Int)<(1:Int):=by omega
  have hap:∀a0 a1 a2:AObj,YN (some 4) [a0,a1,a2,.arr (some 4) [] false] [.sl (some 4) 3 0 0 0,.tsl (some 4) [(Yf nm).pv]]=some (.sl (some 4) 3 1 0 1,[a0,a1,a2,.arr (some 4) [(Yf nm).pv] false]):=fun _ _ _=>rfl;have htk:Tm.pvs ([Yf nm].take 0)=[]:=rfl;have htk1:Tm.pvs ([Yf nm].take 1)=[(Yf nm).pv]:=rfl;generalize (Yf nm).pv=X at*;simp -dsimp -implicitDefEqProofs only[go_sem,seval,↓reduceIte,zg,htk,hp0,hc,hia,h3,hap,w3];exact⟨(),by rw[htk1];rfl⟩
 ·rintro - -;have hc:¬(1:Int)<(1:Int):=by omega
  have htk:Tm.pvs ([Yf nm].take 1)=[(Yf nm).pv]:=rfl;by_cases hbig:(2000:Int)<3+(t.size:Int)+1
  ·have hcu:cul t=Yf [46,46,46]:=by unfold cul;rw[Zb (by omega)]
   have hap:∀(a0 a1 a2:AObj),YN (some 4) [a0,a1,a2,.arr (some 4) [(Yf nm).pv] false] [.sl (some 4) 3 1 0 1,.tsl (some 4) [(Yf [46,46,46]).pv]]=some (.sl (some 4) 3 2 0 2,[a0,a1,a2,.arr (some 4) [(Yf nm).pv,(Yf [46,46,46]).pv] false]):=fun _ _ _=>rfl;rw[hcu] at hst hba;generalize (strT tyN [Yf nm,Yf [46,46,46]]).pv=Z0 at*;generalize (Yf [46,46,46]).pv=Y at*;generalize (Yf nm).pv=X at*;simp -dsimp -implicitDefEqProofs only[go_sem,seval,↓reduceIte,zg,htk,hc,h2,w1,w2,w4,hbig,h4,hap,hst,hba];rfl
  ·have hcu:cul t=t:=by unfold cul;rw[Za (by omega)]
   have hap:∀(a0 a1 a2:AObj),YN (some 4) [a0,a1,a2,.arr (some 4) [(Yf nm).pv] false] [.sl (some 4) 3 1 0 1,.tsl (some 4) [t.pv]]=some (.sl (some 4) 3 2 0 2,[a0,a1,a2,.arr (some 4) [(Yf nm).pv,t.pv] false]):=fun _ _ _=>rfl;rw[hcu] at hst hba;generalize (strT tyN [Yf nm,t]).pv=Z0 at*;generalize (Yf nm).pv=X at*;simp -dsimp -implicitDefEqProofs only[go_sem,seval,↓reduceIte,zg,htk,hc,h2,w1,w2,w4,hbig,hap,hst,hba];rfl
theorem Gp(nm:List UInt8)(hn:nm.length<=100)(t:Tm)(hv:t.valid=true)(hp:Heap):S 69 [Oh nm,t.av] hp=some (.ret (typT nm t).av,hp):=by
 refine Yb rfl rfl rfl (Yd [(none,.str nm),(some 4,t.pv)]) rfl ?_;have h1:∀H:Heap,S 112 [t.av,Oh tyN,.tsl none [.str nm]] H=some (.ret (typT nm t).av,H):=fun H=>QK (ps:=[(some 4,t.pv),(none,.str tyN),(none,.sl none [.str nm])]) rfl rfl rfl rfl rfl (mn nm hn t hv []);simp only[Tm.av,tyN] at h1;simp -dsimp -implicitDefEqProofs only[go_sem,seval,↓reduceIte,Tm.av,h1]
 try rfl
theorem Gq(nm:List UInt8)(hn:nm.length<=100)(t:Tm)(hv:t.valid=true)(hp:Heap):S 33 [Oh nm,t.av] hp=some (.ret (typT nm t).av,hp):=by
 refine Yb rfl rfl rfl (Yd [(none,.str nm),(some 4,t.pv)]) rfl ?_;have h1:∀H:Heap,S 79 [t.av,Oh tyN,.tsl none [.str nm]] H=some (.ret (typT nm t).av,H):=fun H=>QK (ps:=[(some 4,t.pv),(none,.str tyN),(none,.sl none [.str nm])]) rfl rfl rfl rfl rfl (mo nm hn t hv []);simp only[Tm.av,tyN] at h1;simp -dsimp -implicitDefEqProofs only[go_sem,seval,↓reduceIte,Tm.av,h1]
 try rfl
def yT:List UInt8:=[105,110,115,116,97,110,116,105,97,116,105,111,110,95,101,114,114,111,114]
def instT:Tm:=errT (Yf yT)
theorem jA:instT.valid=true:=by decide
theorem Gr(hp:Heap):S 32 [] hp=some (.ret instT.av,hp):=by
 refine Yb (ps:=[]) rfl rfl rfl rfl rfl ?_;have h1:=jz yT;have h2:=Gn (Yf yT) jA;have e:errT (Yf yT)=instT:=rfl;rw[e] at h2;simp only[Tm.av,yT] at h1 h2;simp -dsimp -implicitDefEqProofs only[go_sem,seval,↓reduceIte,Tm.av,h1,h2]
 try rfl
theorem Gs(hp:Heap):S 68 [] hp=some (.ret instT.av,hp):=by
 refine Yb (ps:=[]) rfl rfl rfl rfl rfl ?_;have h0:∀H:Heap,S 26 [Oh yT,.pv none (.sl (some 4) [])] H=some (.ret (Yf yT).av,H):=fun H=>by
  refine Yb rfl rfl rfl (Yd [(none,.str yT),(none,.sl (some 4) [])]) rfl ?_;have ha:=Jm yT (by decide);simp only[Tm.av] at ha;simp -dsimp -implicitDefEqProofs only[go_sem,seval,↓reduceIte,Tm.av,ha]
  try rfl
 have h1:∀H:Heap,S 111 [Oh yT,.tsl (some 4) []] H=some (.ret instT.av,H):=fun H=>QK (ps:=[(none,.str yT),(none,.sl (some 4) [])]) rfl rfl rfl rfl rfl (by
  refine Yb rfl rfl rfl (Yd [(none,.str yT),(none,.sl (some 4) [])]) rfl ?_;have hb:=Jm [91,93] (by decide);have hc:∀H:Heap,S 26 [Oh errN,.tsl (some 4) [(Yf yT).pv,nilT.pv]] H=some (.ret instT.av,H):=fun H=>
   QK (ps:=[(none,.str errN),(none,.sl (some 4) (Tm.pvs [Yf yT,nilT]))]) rfl rfl rfl rfl rfl (Vb errN [Yf yT,nilT] (by decide) jA [])
  have e:Yf [91,93]=nilT:=rfl;rw[e] at hb;simp only[Tm.av,errN] at h0 hb hc;generalize (Yf yT).pv=X at*;simp -dsimp -implicitDefEqProofs only[go_sem,seval,↓reduceIte,Tm.av,h0,hb,hc]
  try rfl)
 simp only[Tm.av,yT] at h1;simp -dsimp -implicitDefEqProofs only[go_sem,seval,↓reduceIte,Tm.av,h1]
 try rfl
def posF:Nat->List Int->List (Int × PV)
 |_,[]=>[]
 |k,x::r=>(x,.int .i64 (k:Int))::posF (k+1) r
theorem Gt:∀(l:List Int) (k:Nat),(posF k l).length=l.length
 |[],_=>rfl
 |x::r,k=>by rw[posF,ZB,Gt r];rfl
theorem Vc(v:Int):∀(l:List Int) (k:Nat),yt v (posF k l)=if v∈l then some (.int .i64 ((k+l.idxOf v:Nat):Int)) else none
 |[],_=>rfl
 |x::r,k=>by
  rw[posF,yt,Vc v r];by_cases h:x=v
  ·subst h;simp
  ·have h':¬v=x:=fun e=>h e.symm;simp only[Za h,Zt,h',false_or];rw[List.idxOf_cons];have hb:(x == v)=false:=by simpa using h
   rw[hb];simp only[cond_false];split
   ·first|(congr 2;omega)|(congr 1;omega)|(congr 3;omega)|(congr 4;omega)
   ·rfl
theorem Gu(v:Int):∀(l:List Int) (k:Nat),v ∉ l->mPut v (.int .i64 ((k+l.length:Nat):Int)) (posF k l)=posF k (l++[v])
 |[],k,_=>rfl
 |x::r,k,h=>by
  have h':¬x=v:=fun e=>h (by rw[e];exact Zv);have ih:=Gu v r (k+1) fun hm=>h (Zu _ hm);rw[posF,mPut,Za h',Zw,posF,<-ih,ZB]
  first|(congr 4;omega)|(congr 3;omega)|(congr 2;omega)|(congr 5;omega)|(congr 6;omega)
theorem Gv{v:Int}:∀{l L:List Int},v∈l->l <+: L->L.idxOf v=l.idxOf v
 |[],_,h,_=>by cases h
 |x::r,L,h,hp=>by
  obtain⟨m,rfl⟩:=hp;rw[Zw,List.idxOf_cons,List.idxOf_cons];cases hb:x == v with
  |true=>rfl
  |false=>
   simp only[cond_false];have hx:¬x=v:=by simpa using hb
   have hm:v∈r:=(Zt.1 h).resolve_left fun e=>hx e.symm;rw[Gv hm ⟨m,rfl⟩]
theorem Gw{v:Int}:∀{l:List Int},v ∉ l->(l++[v]).idxOf v=l.length
 |[],_=>by simp[List.idxOf_cons]
 |x::r,h=>by
  have h':¬x=v:=fun e=>h (by rw[e];exact Zv);rw[Zw,List.idxOf_cons,beq_eq_false_iff_ne.2 h',ZB];simp only[cond_false];rw[Gw fun hm=>h (Zu _ hm)]
theorem mp(l:List Int)(v:Int):l <+: vadd l v:=by
 unfold vadd;split
 ·exact List.prefix_refl _
 ·exact List.prefix_append _ _
theorem Gx:∀(ws l:List Int),l <+: vads l ws
 |[],l=>List.prefix_refl _
 |w::r,l=>(mp l w).trans (Gx r (vadd l w))
def cPos(L:List Int)(v:Int):Tm:=tvar (L.idxOf v:Int)
def canT(t:Tm):Tm:=Tm.sub (cPos (vads [] t.occ)) t
theorem mq(l:List Int)(v:Int):v∈vadd l v:=by
 unfold vadd;split
 ·assumption
 ·simp
theorem Gy{L:List Int}{t:Tm}(hk:¬t.kind=0):Tm.sub (cPos L) t=.mk t.kind t.n t.name (t.args.map (Tm.sub (cPos L))):=by
 rw[Tm.zyX,Za hk]
def cagg(k:Int)(q:Nat):AV:=.agg [(none,O8 0),(none,O8 k),(none,Oh []),(none,.sl (some 4) q 0 0 0)]
def gC(t:Tm)(l:List Int):Heap:=[.box (some 4) (.pv (some 4) t.pv),.box (some 4) (cagg 0 2),.arr (some 4) [] false,.map none (Yl (posF 0 l)),.box none (.map 3)]
theorem Gz{m:List (Int × PV)}{hp:Heap}{r:Nat}{s:Sh}{v:Int}(h:hp[r]? =some (.map none (Yl m))):yh false none (O8 0) true hp [.map r,.pv s (.int .i64 v)]=some (match yt v m with|some x=>.tuple [.pv none x,O9 true]|none=>.tuple [O8 0,O9 false]):=by
 have hf:=k8 v m;cases hm:yt v m with
 |none=>rw[hm] at hf;exact uj h hf
 |some x=>rw[hm] at hf;exact ui h hf
theorem GA{k:Int}{q:Nat}{H:Heap}(h:H[q]? =some (.arr (some 4) [] false)):AV.freeze deep (cagg k q) H=some ((tvar k).pv,H.set q (.arr (some 4) [] true)):=by
 have e:=O3
 show AV.freeze (7+1) (.agg _) _=_;simp[e,AV.freeze.go,AV.freeze,h];rfl
theorem GB(t:Tm)(l:List Int)(ext:Heap):(gC t l++ext).length=ext.length+5:=by simp[gC]
theorem gC_4(t:Tm)(l:List Int)(ext X:Heap):(gC t l++ext++X)[4]? =some (.box none (.map 3)):=rfl
theorem gC_3(t:Tm)(l:List Int)(ext X:Heap):(gC t l++ext++X)[3]? =some (.map none (Yl (posF 0 l))):=rfl
theorem mr(t:Tm)(l l':List Int)(ext X:Heap):(gC t l++ext++X).set 3 (.map none (Yl (posF 0 l')))=gC t l'++ext++X:=rfl
theorem mt(t0 u:Tm)(l:List Int)(ext:Heap)(hl:l.length<100000000)(n:Nat)(hn:n=ext.length+5):
  S 97 [u.av,.ptr 4 0] (gC t0 l++ext)=some (.ret (cagg ((vadd l u.n).idxOf u.n:Nat) (n+3)),gC t0 (vadd l u.n)++(ext++[.box (some 4) (.pv (some 4) u.pv),.box (some 4) (cagg ((vadd l u.n).idxOf u.n:Nat) (n+3)),.arr (some 4) [] false,.arr (some 4) [] false])):=by
 obtain⟨K,hK⟩:∃K:List Int->Heap,K=fun l=>gC t0 l++ext:=⟨_,rfl⟩;have hKs:∀l,gC t0 l++ext=K l:=fun l=>by rw[hK]
 have hKl:∀l,(K l).length=n:=fun l=>by rw[<-hKs,GB,hn]
 have hKa:∀l X,gC t0 l++(ext++X)=K l++X:=fun l X=>by rw[<-hKs,Zd]
 have hK4:∀l X,(K l++X)[4]? =some (.box none (.map 3)):=fun l X=>by rw[<-hKs];exact gC_4 t0 l ext X
 have hK3:∀l X,(K l++X)[3]? =some (.map none (Yl (posF 0 l))):=fun l X=>by rw[<-hKs];exact gC_3 t0 l ext X
 have hKS:∀l l' X,(K l++X).set 3 (.map none (Yl (posF 0 l')))=K l'++X:=fun l l' X=>by rw[<-hKs,<-hKs];exact mr t0 l l' ext X
 have hle:∀k,n<=n+k:=fun k=>ZA _ _;rw[hKa,hKs];unfold cagg;refine YR rfl rfl rfl rfl ?_;rw[hKl];have hb:∀k:Int,Ym A0 [1] [O8 k]=some (.agg [(none,O8 0),(none,O8 k),(none,Oh []),(none,.tsl (some 4) [])]):=fun _=>rfl;by_cases hm:u.n∈l
 ·have e:vadd l u.n=l:=by simp[vadd,hm]
  rw[e];have hlk:∀X:Heap,yh false none (O8 0) true (K l++X) [.map 3,O8 u.n]=some (.tuple [O8 ((l.idxOf u.n:Nat):Int),O9 true]):=fun X=>by
   rw[Gz (m:=posF 0 l) (hK3 _ _),Vc,Zb hm,ZH]
  simp -dsimp -implicitDefEqProofs only[go_sem,seval,↓reduceIte,cagg,Zd,zW,z6,z7,z9,Zh,Zc,Tm.av,Yh,hlk,hb,Y0,Yc (ZA _ _),hK4,hKl,getN (hKl _),YY (hKl _),setN (hKl _),yQ (hKl _)];rw[Za (by simp[AV.refsIn,AV.refsIn.go])]
 ·have e:vadd l u.n=l++[u.n]:=by simp[vadd,hm]
  rw[e,Gw hm];have hlk:∀X:Heap,yh false none (O8 0) true (K l++X) [.map 3,O8 u.n]=some (.tuple [O8 0,O9 false]):=fun X=>by
   rw[Gz (m:=posF 0 l) (hK3 _ _),Vc,Za hm]
  have hml:∀X:Heap,xe (K l++X) [.map 3]=some (O8 (l.length:Int)):=fun X=>by
   simp[xe,hK3,Yl,Gt]
  have hms:∀X:Heap,Xr false none (K l++X) [.map 3,O8 u.n,O8 (l.length:Int)]=some (.undef,K (l++[u.n])++X):=fun X=>by
   have:=Gu u.n l 0 hm;rw[ZH] at this;rw[q9 (es:=Yl (posF 0 l)) (hK3 _ _) (qm _ _ _),this,hKS]
  simp -dsimp -implicitDefEqProofs only[go_sem,seval,↓reduceIte,cagg,Zd,zW,z6,z7,z9,Zh,Zc,Tm.av,Yh,hlk,hml,hms,hb,Y0,Yc (ZA _ _),hK4,hKl,getN (hKl _),YY (hKl _),setN (hKl _),yQ (hKl _)];rw[Za (by simp[AV.refsIn,AV.refsIn.go])]
def appC(n:Nat)(t:Tm)(ts:List Tm)(i:Nat):Heap:=[.box (some 4) (.pv (some 4) t.pv),.box (some 4) (.agg [(none,O8 0),(none,O8 0),(none,Oh []),(none,.sl (some 4) (n+2) 0 0 0)]),.arr (some 4) [] false,.box (some 4) (.agg [(none,O8 t.kind),(none,O8 t.n),(none,Oh t.name),(none,.sl (some 4) (n+5) i 0 i)]),.arr (some 4) [] false,.arr (some 4) (Tm.pvs (ts.take i)) false]
theorem mw(a b:List Tm):Tm.occs (a++b)=Tm.occs a++Tm.occs b:=by
 induction a with
 |nil=>rfl
 |cons x r ih=>rw[Zw,Tm.occs,Tm.occs,ih,Zd]
theorem my(t0:Tm):∀(t:Tm) (l L:List Int) (ext:Heap),t.fits=true->t.size<10000000->l.length+t.size<100000000->vads l t.occ <+: L->
  ∃v e,S 88 [t.av,.func (.func 97) [] [.ptr 4 0]] (gC t0 l++ext)=some (.ret v,gC t0 (vads l t.occ)++(ext++e))/\v.shp=some 4/\v.plain=true/\(∀H,v.own H=(v,H))/\
   (∃e2,AV.freeze deep v (gC t0 (vads l t.occ)++(ext++e))=some ((Tm.sub (cPos L) t).pv,gC t0 (vads l t.occ)++(ext++e2)))/\
   ∀H:Heap,(∀j,ext.length+5<=j->H[j]? =(gC t0 (vads l t.occ)++(ext++e))[j]?)->∃H2,AV.freeze deep v H=some ((Tm.sub (cPos L) t).pv,H2):=by
 intro t
 induction t using Tm.zyR with
 |h t ih=>
  intro l L ext hf ht hl hp;have hts:=t.size_eq;have hlen:=Tm.zyN t.args;obtain⟨n,hn⟩:∃n,n=ext.length+5:=⟨_,rfl⟩;have h1:=fun X=>mt t0 t l (ext++X) (by omega);obtain⟨K,hK⟩:∃K:List Int->Heap,K=fun l=>gC t0 l++ext:=⟨_,rfl⟩;have hKs:∀l,gC t0 l++ext=K l:=fun l=>by rw[hK]
  have hKl:∀l,(K l).length=n:=fun l=>by rw[<-hKs,GB,hn]
  have hKa:∀l X,gC t0 l++(ext++X)=K l++X:=fun l X=>by rw[<-hKs,Zd]
  simp only[<-hn];simp only[Zd] at h1;simp only[hKa] at h1;simp only[hKa,hKs];rw[Tm.zyW] at hp ⊢;by_cases hk:t.kind=0
  ·rw[Zb hk] at hp ⊢;have e1:vads l [t.n]=vadd l t.n:=rfl;rw[e1] at hp ⊢;have e2:Tm.sub (cPos L) t=tvar ((vadd l t.n).idxOf t.n:Nat):=by
    rw[Tm.zyX,Zb hk];unfold cPos;rw[Gv (mq l t.n) hp]
   rw[e2];generalize (((vadd l t.n).idxOf t.n:Nat):Int)=k at*;generalize vadd l t.n=l2 at*;refine⟨cagg k (n+6),[.box (some 4) (.pv (some 4) t.pv),.box (some 4) (cagg k (n+6)),.arr (some 4) [] false,.box (some 4) (.pv (some 4) t.pv),.box (some 4) (cagg k (n+6)),.arr (some 4) [] false,.arr (some 4) [] false],?_,rfl,rfl,fun _=>rfl,?_,fun H hH=> ?_⟩
   ·unfold cagg;refine YR rfl rfl rfl rfl ?_;have hk':=Zj hk;have h2:=h1 [.box (some 4) (.pv (some 4) t.pv),.box (some 4) (cagg 0 (n+2)),.arr (some 4) [] false] (n+3) (by rw[hn];simp);simp only[Tm.av,cagg,Zw,ZE] at h2;rw[hKl];simp -dsimp -implicitDefEqProofs only[go_sem,seval,↓reduceIte,Tm.av,cagg,Ya,hk',h2,Y0,Zd,zW,z6,z7,z9,Zh,Zc,hKl,getN (hKl _),YY (hKl _),setN (hKl _),yQ (hKl _),Yc (ZA _ _)];rw[Za (by simp[AV.refsIn,AV.refsIn.go])]
   ·refine⟨[.box (some 4) (.pv (some 4) t.pv),.box (some 4) (cagg k (n+6)),.arr (some 4) [] false,.box (some 4) (.pv (some 4) t.pv),.box (some 4) (cagg k (n+6)),.arr (some 4) [] false,.arr (some 4) [] true],?_⟩;rw[GA (by rw[getN (hKl _)];rfl),setN (hKl _)];rfl
   ·exact⟨_,GA (by rw[hH _ (by omega),getN (hKl _)];rfl)⟩
  ·rw[Za hk] at hp ⊢;rw[Gy hk];obtain⟨ts',hts'⟩:∃ts',ts'=t.args.map (Tm.sub (cPos L)):=⟨_,rfl⟩;have htl:ts'.length=t.args.length:=by rw[hts',ZO]
   rw[<-hts'];refine⟨.agg [(none,O8 t.kind),(none,O8 t.n),(none,Oh t.name),(none,.sl (some 4) (n+5) t.args.length 0 t.args.length)],
    [.box (some 4) (.pv (some 4) t.pv),.box (some 4) (.agg [(none,O8 t.kind),(none,O8 t.n),(none,Oh t.name),(none,.sl (some 4) (n+5) t.args.length 0 t.args.length)]),.arr (some 4) [] false,.box (some 4) (.agg [(none,O8 t.kind),(none,O8 t.n),(none,Oh t.name),(none,.sl (some 4) (n+5) t.args.length 0 t.args.length)]),.arr (some 4) [] false,.arr (some 4) (Tm.pvs ts') false],?_,rfl,rfl,fun _=>rfl,?_,?_⟩
   ·refine YR rfl rfl rfl rfl ?_;have hk':=Zl hk;have hb:Ym A0 [0,1,2] [O8 t.kind,O8 t.n,Oh t.name]=some (.agg [(none,O8 t.kind),(none,O8 t.n),(none,Oh t.name),(none,.tsl (some 4) [])]):=rfl;have hle:∀k,n<=n+k:=fun k=>ZA _ _;rw[hKl];simp -dsimp -implicitDefEqProofs only[go_sem,seval,↓reduceIte,Tm.av,Ya,Yh,Ye,zV,hk',Tm.pvs_len,hb,Yc (ZA _ _),Zd,zW,z6,z7,z9,Zh,Zc,hKl,getN (hKl _),YY (hKl _),setN (hKl _),yQ (hKl _)];refine Yv (α:=Unit) t.args.length (fun _ _=>True) (fun i _=>⟨[(1,.func (.func 97) [] [.ptr 4 0]),(4,.ptr (n+1) 0),(5,.ptr (n+3) 0),(22,.pv none (.sl (some 4) (Tm.pvs t.args))),(23,O8 t.args.length),(24,O8 i)],K (vads l (Tm.occs (t.args.take i)))++appC n t ts' i⟩) () ⟨trivial,?_⟩ ?_ ?_
    ·rw[zd];rfl
    ·rintro i - h -;have hc:(i:Int)<(t.args.length:Int):=by omega
     obtain⟨u,hu⟩:∃u,t.args[i]? =some u:=⟨_,Zf h⟩;have hum:=Zk hu;have husz:=Tm.zyQ hum;have hst:=Tm.zyV hu;have hle2:=Tm.zyS t.args (i+1);have hvl:=Ji (Tm.occs (t.args.take i)) l;have hol:=Tm.zy4 (t.args.take i);have hpre:vads (vads l (Tm.occs (t.args.take i))) u.occ <+: L:=by
      rw[<-Jh,<-Tm.zy0 hu];refine List.IsPrefix.trans ?_ hp;have e:=ZK (i+1) t.args;rw[<-e,mw,Jh,e];exact Gx _ _
     obtain⟨v,e,hcall,hvs,hvp,_,⟨e2,hfz⟩,_⟩:=ih u hum (vads l (Tm.occs (t.args.take i))) L (ext++(appC n t ts' i++[.box (some 4) (.pv (some 4) u.pv),.arr (some 4) [] false])) (Tm.zyP hf hum) (by omega) (by omega) hpre;rw[<-Jh,<-Tm.zy0 hu] at hcall hfz;simp only[Zd,hKa] at hcall hfz;generalize vads l (Tm.occs (t.args.take (i+1)))=l2 at hcall hfz ⊢;generalize vads l (Tm.occs (t.args.take i))=l1 at hcall hfz hvl ⊢;have w2:=O0 i (by omega)
     have hl:(Tm.pvs (ts'.take i)).length=i:=by rw[Tm.pvs_len,Zn];omega
     have hlim:i+1<=lim:=by unfold lim;omega
     have hus:ts'[i]? =some (Tm.sub (cPos L) u):=by rw[hts'];simp[hu]
     have hbs:yp (some 4) (K l2++(appC n t ts' i++([.box (some 4) (.pv (some 4) u.pv),.arr (some 4) [] false]++e))) [v]=some (.tsl (some 4) [(Tm.sub (cPos L) u).pv],K l2++(appC n t ts' i++([.box (some 4) (.pv (some 4) u.pv),.arr (some 4) [] false]++e2))):=by
      simp only[yp,Yi,hfz,hvs,yf,if_true]
     have hs1:∀(k k':List Int) (e e':Heap),yC (K k++(appC n t ts' i++e)) (K k'++(appC n t ts' i++e')) (.ptr (n+3) 3)=true:=fun k k' e e'=>kJ (t:=t) (q:=n+5) (i:=i) (by rw[getN (hKl _)];rfl) (by rw[getN (hKl _)];rfl);simp only[Tm.av] at hcall;simp only[appC,Zd,Zw,ZE] at hcall hbs hs1;simp -dsimp -implicitDefEqProofs only[go_sem,seval,↓reduceIte,appC,hc,zY (Tm.pvs_get hu),qh,ZZ,zA,List.all_cons,List.all_nil,hcall,hbs,hs1,w2,hl,hlim,Tm.zyT hus,Yc (ZA _ _),yF (ZA _ _),Zd,zW,z6,z7,z9,Zh,Zc,hKl,getN (hKl _),YY (hKl _),setN (hKl _),yQ (hKl _)];refine⟨(),?_⟩;rw[Xd 6 (hKl _) rfl (by simp[AObj.refs,AV.ofComps,pures,AV.refsIn,AV.refsIn.go]) (by simp[AV.refsIn,AV.refsIn.gol])];rfl
    ·rintro - -;have hc:¬(t.args.length:Int)<(t.args.length:Int):=by omega
     have htk:ts'.take t.args.length=ts':=Zp (by omega);simp -dsimp -implicitDefEqProofs only[go_sem,seval,↓reduceIte,appC,hc,ZC,htk,Y0,Yc (ZA _ _),yF (ZA _ _),Zd,zW,z6,z7,z9,Zh,Zc,hKl,getN (hKl _),YY (hKl _),setN (hKl _),yQ (hKl _)];rw[Za (by simp[AV.refsIn,AV.refsIn.go])]
   ·have e:=O3
    refine⟨[.box (some 4) (.pv (some 4) t.pv),.box (some 4) (.agg [(none,O8 t.kind),(none,O8 t.n),(none,Oh t.name),(none,.sl (some 4) (n+5) t.args.length 0 t.args.length)]),.arr (some 4) [] false,.box (some 4) (.agg [(none,O8 t.kind),(none,O8 t.n),(none,Oh t.name),(none,.sl (some 4) (n+5) t.args.length 0 t.args.length)]),.arr (some 4) [] false,.arr (some 4) (Tm.pvs ts') true],?_⟩;show AV.freeze (7+1) (.agg _) _=_;simp[e,AV.freeze.go,AV.freeze,getN (hKl _),setN (hKl _),htl,Tm.pvs_len,Tm.pv]
   ·intro H hH;have h5:=hH (n+5) (by omega);rw[getN (hKl _)] at h5;have e:=O3
    refine⟨H.set (n+5) (.arr (some 4) (Tm.pvs ts') true),?_⟩;show AV.freeze (7+1) (.agg _) _=_;simp only[List.getElem?_cons_succ,zQ] at h5;simp[e,AV.freeze.go,AV.freeze,h5,htl,Tm.pvs_len,Tm.pv]
def canR(t:Tm):Tm:=if t.valid=true then canT t else zt
theorem Vd(t:Tm)(hp:Heap)(ht:t.size<1000000000):S 47 [t.av] hp=some (.ret (canR t).av,hp):=by
 refine Yb rfl rfl rfl (Yd [(some 4,t.pv)]) rfl ?_;have h1:=fun hp=>yR t hp ht;unfold canR;by_cases hv:t.valid=true
 ·rw[Zb hv];have hsz:=valid_size hv;obtain⟨v,e,h2,h3,h4,h5,_,h6⟩:=my t t [] (vads [] t.occ) [] (valid_fits hv) (by omega) (by simp;omega) (List.prefix_refl _);rw[hv] at h1;simp only[Tm.av,gC,cagg,Zw,ZE] at h1 h2;have hmk:∀(a0 a1 a2:AObj),Yw none 0 [a0,a1,a2,.map none [],.box none (.pv none .nilmap)] [.ptr 4 0,.map 3]=some (.undef,[a0,a1,a2,.map none [],.box none (.map 3)]):=fun _ _ _=>rfl;have e0:Yl (posF 0 [])=[]:=rfl;rw[e0] at h2;have hst:∀(a0 a2 a3 a4:AObj),Yw (some 4) 0 (a0::.box (some 4) (.agg [(none,O8 0),(none,O8 0),(none,Oh []),(none,.sl (some 4) 2 0 0 0)])::a2::a3::a4::e) [.ptr 1 0,v]=some (.undef,a0::.box (some 4) v::a2::a3::a4::e):=fun _ _ _ _=>by
   simp[Yw,astore,h3,h4,h5]
  have hfr:∀(a0 a1 a2 a3 a4:AObj),Am.frozen (canT t).av v (a0::a1::a2::a3::a4::e):=fun a0 a1 a2 a3 a4=>by
   obtain⟨H2,k⟩:=h6 (a0::a1::a2::a3::a4::e) fun j hj=>by
    match j,hj with
    |j+5,_=>rfl
   exact uZ h3 h4 k
  simp -dsimp -implicitDefEqProofs only[go_sem,seval,↓reduceIte,Tm.av,h1,h2,hst,hmk,Yc (Zg _)];exact hfr _ _ _ _ _
 ·rw[Za hv];have hv':t.valid=false:=by simpa using hv
  rw[hv'] at h1;simp only[Tm.av] at h1;simp -dsimp -implicitDefEqProofs only[go_sem,seval,↓reduceIte,Tm.av,h1,Yc (Zg _),zt];exact⟨_,rfl⟩
theorem find_mem{l:List B}{v:Int}(h:fndB l v=true):(v,toB l v)∈l:=Zk (XV h)
theorem mz{l:List B}{v:Int}{t:Tm}{x:B}(h:x=(v,t)\/x∈l):x∈insB l v t:=by
 unfold insB;simp only[Zr,ZV];rcases h with h|h
 ·exact .inl (.inr h)
 ·rw[<-ZK (lbB l v) l] at h;rcases Zr.1 h with h|h
  ·exact .inl (.inl h)
  ·exact .inr h
theorem Ve{l:List B}(hs:Srt' l){b:B}(hb:b∈l):fndB l b.1=true/\toB l b.1=b.2:=by
 obtain⟨i,hlt,rfl⟩:=zi hb;have hg:=Zf hlt;obtain⟨h1,h2⟩:=kV hs hg;refine⟨h1,?_⟩;unfold toB;rw[h2,hg]
theorem GC{l:List B}(hs:Srt' l)(v:Int):fndB l v=true↔v∈l.map (·.1):=by
 constructor
 ·intro h;exact Z2.2 ⟨_,find_mem h,rfl⟩
 ·intro h;obtain⟨b,hb,rfl⟩:=Z2.1 h;exact(Ve hs hb).1
theorem GD{n:Int}(h:0<=n/\n<=1099511627776):(tvar n).fits=true:=by
 simp[tvar,Tm.fits,Tm.fitsAll,Tm.node,Tm.kind,Tm.n,Tm.name,Tm.args,h.1,h.2]
open Classical in
noncomputable def okb(l:List B):Bool:=decide (OKB l)
theorem okb_iff{l:List B}:okb l=true↔OKB l:=by unfold okb;simp
theorem GE(l:List B)(hl:l.length<100000000)(hsz:∀b∈l,b.2.size<1000000000)(hp:Heap):S 91 [.pv none (.sl (some 5) (bds l))] hp=some (.ret (O9 (okb l)),hp):=by
 obtain⟨v,h1,b,rfl,h2⟩:=MT l hl hsz;have:b=okb l:=by
  rw[Bool.eq_iff_iff,h2,okb_iff]
 rw[h1,this]
noncomputable def rsR(l:List B)(t:Tm):Tm × Int:=if okb l=true/\t.valid=true then(if(rs l t).size<=2000 then(rs l t,0) else(zt,2)) else(zt,1)
theorem mA(l:List B)(t:Tm)(hl:l.length<100000000)(hsz:∀b∈l,b.2.size<1000000000)(ht:t.size<1000000000)(hp:Heap):
  S 44 [.pv none (.sl (some 5) (bds l)),t.av] hp=some (.ret (.tuple [(rsR l t).1.av,.pv none (.int .i64 (rsR l t).2)]),hp):=by
 refine Yb rfl rfl rfl (Yd [(none,.sl (some 5) (bds l)),(some 4,t.pv)]) rfl ?_;have h1:=GE l hl hsz;have h2:=fun hp=>yS t hp ht;simp only[Tm.av] at h2;unfold rsR;cases hb:okb l with
 |false=>
  rw[hb] at h1;rw[Za (by simp)];dsimp only;simp -dsimp -implicitDefEqProofs only[go_sem,seval,↓reduceIte,Tm.av,h1,h2,Yc (Zg _),hb0];exact XN _ _ _ rfl
 |true=>
  rw[hb] at h1;have hO:=okb_iff.1 hb;by_cases hv:t.valid=true
  ·rw[Zb ⟨rfl,hv⟩];have h3:=M0 l hO (by omega) t hv;unfold rsd at h3;by_cases hs:(rs l t).size<=2000
   ·rw[Zb hs];dsimp only;rw[Zb hs] at h3;simp only[Tm.av] at h3;simp -dsimp -implicitDefEqProofs only[go_sem,seval,↓reduceIte,Tm.av,h1,h2,hv,h3,Yc (Zg _),hb0];exact ju _ _ _ _ _
   ·rw[Za hs];dsimp only;rw[Za hs] at h3;simp only[Tm.av] at h3;simp -dsimp -implicitDefEqProofs only[go_sem,seval,↓reduceIte,Tm.av,h1,h2,hv,h3,Yc (Zg _),hb0];exact XN _ _ _ rfl
  ·rw[Za fun h=>hv h.2];dsimp only;have hv':t.valid=false:=by simpa using hv
   simp -dsimp -implicitDefEqProofs only[go_sem,seval,↓reduceIte,Tm.av,h1,h2,hv',Yc (Zg _),hb0];exact XN _ _ _ rfl
def IsS(s:AV)(hp:Heap)(l:List B):Prop:=s=.pv none (.sl (some 5) (bds l))\/IsB s hp l
theorem IsS.more{s:AV}{hp:Heap}{l:List B}(h:IsS s hp l)(e:Heap):IsS s (hp++e) l:=h.elim .inl fun h=>.inr (h.more e)
theorem IsS.place{s:AV}{hp:Heap}{l:List B}(h:IsS s hp l)(v:Int)(hs:Srt' l)(hl:l.length<1000000000)(e:Heap):
  S 154 [s,O8 v] (hp++e)=some (.ret (.tuple [O8 (lbB l v:Int),O9 (fndB l v)]),hp++e):=by
 rcases h.more e with rfl|h
 ·exact jq l v hs hl _
 ·exact kM h v hs hl
theorem IsS.elem{s:AV}{hp:Heap}{l:List B}(h:IsS s hp l){i:Nat}{b:B}(hb:l[i]? =some b):
  ∃p q,yg (some 5) [s,O8 i]=some p/\XX 1 [p]=some q/\∀e,aload (some 4) (hp++e) q=some (.pv (some 4) b.2.pv):=by
 have hlt:=(Ze.1 hb).1;rcases h with rfl|h
 ·refine⟨_,_,zY (Yx hb),rfl,fun e=> ?_⟩;simp[aload,yY]
 ·rcases h with⟨rfl,rfl⟩|⟨r,rfl,hr⟩
  ·simp at hb
  ·refine⟨_,_,Yp hlt,rfl,fun e=> ?_⟩;have h1:(hp++e)[r]? =some (.arr (some 5) (bds l) false):=by rw[Zx (Y9 hr)];exact hr
   simp[aload,h1,Yk,Yx hb,yY]
def zagg(q:Nat):AV:=.agg [(none,O8 0),(none,O8 0),(none,Oh []),(none,.sl (some 4) q 0 0 0)]
theorem IsS.low{s:AV}{hp:Heap}{l:List B}(h:IsS s hp l)(k:Nat):s.refsIn.all (fun q=>decide (q<hp.length+k))=true:=by
 rw[Zo];intro q hq;rcases h with rfl|h
 ·cases hq
 ·have:=h.low q hq;simp;omega
def bndX(n:Nat)(t:Tm):Heap:=[.box (some 4) (.pv (some 4) t.pv),.box (some 4) (zagg (n+3)),.arr (some 4) [] false,.arr (some 4) [] false]
theorem jB{s:AV}{hp:Heap}{l:List B}(h:IsS s hp l)(hs:Srt' l)(hl:l.length<1000000000)(t:Tm)(hk:t.kind=0)(hf:fndB l t.n=true):
  S 145 [s,t.av] hp=some (.ret (.tuple [(toB l t.n).av,O9 true]),hp):=by
 refine YR rfl rfl rfl rfl ?_;have hpl:=fun e=>h.place t.n hs hl e;obtain⟨p,q,h1,h2,h3⟩:=h.elem (XV hf);rw[hf] at hpl;simp only at h3;simp -dsimp -implicitDefEqProofs only[go_sem,seval,↓reduceIte,Tm.av,Ya,Yh,hk,hpl,h1,h2,h3,Zd,zW,z6,z7,z9,Zh,Zc];rw[ql rfl ((zW hp _ 1).trans rfl)];refine⟨rfl,?_⟩;rw[Zb (by simp[AV.refsIn,AV.refsIn.gol,Tm.av])];exact zj
theorem jC{s:AV}{hp:Heap}{l:List B}(h:IsS s hp l)(hs:Srt' l)(hl:l.length<1000000000)(t:Tm)(hf:¬(t.kind=0/\fndB l t.n=true)):
  S 145 [s,t.av] hp=some (.ret (.tuple [zagg (hp.length+3),O9 false]),hp++bndX hp.length t):=by
 refine YR rfl rfl rfl rfl ?_;have hpl:=fun e=>h.place t.n hs hl e;by_cases hk:t.kind=0
 ·have hf':fndB l t.n=false:=by
   cases e:fndB l t.n with
   |true=>exact absurd ⟨hk,e⟩ hf
   |false=>rfl
  rw[hf'] at hpl;have hk':=Zj hk;simp -dsimp -implicitDefEqProofs only[go_sem,seval,↓reduceIte,Tm.av,Ya,Yh,hk',hpl,hb0,Yc (ZA _ _),Zd,zW,z6,z7,z9,Zh,Zc];rw[ql rfl ((zW hp _ 1).trans rfl)];refine⟨rfl,?_⟩;rw[Za (by simp[AV.refsIn,AV.refsIn.gol,AV.refsIn.go,zagg])];rfl
 ·have hk':=Zl hk;simp -dsimp -implicitDefEqProofs only[go_sem,seval,↓reduceIte,Tm.av,Ya,Yh,hk',hb0,Yc (ZA _ _),Zd,zW,z6,z7,z9,Zh,Zc];rw[ql rfl ((zW hp _ 1).trans rfl)];refine⟨rfl,?_⟩;rw[Za (by simp[AV.refsIn,AV.refsIn.gol,AV.refsIn.go,zagg])];rfl
theorem GF{s:AV}{hp:Heap}{l:List B}(h:IsS s hp l)(hO:OKB l)(hl:l.length<1000000000)(t:Tm)(hv:t.valid=true):
  S 143 [s,t.av] hp=some (.ret (flw l t).av,hp):=by
 refine YR rfl rfl rfl rfl ?_;simp -dsimp -implicitDefEqProofs only[go_sem,seval,↓reduceIte,Tm.av,Zd,zW,z6,z7,z9,Zh,Zc];refine Yr (fun n st=>∃t1:Tm,n=mu l t1/\t1.valid=true/\flw l t1=flw l t/\st=⟨[(0,s),(3,.ptr hp.length 0),(4,.ptr (hp.length+1) 0)],hp++[.box (some 4) (.pv (some 4) t1.pv),.box (some 4) (zagg (hp.length+2)),.arr (some 4) [] false]⟩) (n:=mu l t) ⟨t,rfl,hv,rfl,?_⟩ ?_
 ·simp -dsimp -implicitDefEqProofs only[go_sem,seval,↓reduceIte]
  try rfl
 ·rintro n st ⟨t1,rfl,hv1,he,rfl⟩;by_cases hc:t1.kind=0/\fndB l t1.n=true
  ·obtain⟨hk,hf⟩:=hc;have hb:=fun e=>jB (h.more e) hO.good.1 hl t1 hk hf;simp only[Tm.av] at hb;have hlt:=yZ hO.Acyc hk hf;simp -dsimp -implicitDefEqProofs only[go_sem,seval,↓reduceIte,hb,Zd,zW,z6,z7,z9,Zh,Zc];refine⟨mu l (toB l t1.n),hlt,toB l t1.n,rfl,(hO.to hf).1,by rw[<-he,QH hO.Acyc hk hf],?_⟩;rw[Xd 3 rfl rfl (by simp[AObj.refs,AV.ofComps,pures,AV.refsIn,AV.refsIn.go,zagg]) (by simp[AV.refsIn,AV.refsIn.gol,h.low])];rfl
  ·have hb:=fun e=>jC (h.more e) hO.good.1 hl t1 hc;have he2:flw l t1=t1:=by
    by_cases hk:t1.kind=0
    ·exact QI hO.Acyc (valid_fits hv1) hk fun e=>hc ⟨hk,e⟩
    ·exact xV l hk
   rw[he2] at he;rw[<-he];simp only[Tm.av] at hb;simp -dsimp -implicitDefEqProofs only[go_sem,seval,↓reduceIte,hb,bndX,zagg,Y0,Yc (ZA _ _),Zd,zW,z6,z7,z9,Zh,Zc];refine⟨rfl,?_⟩;rw[Zb (by simp[AV.refsIn,Tm.av])];exact zj
def Dep(l:List B)(v w:Int):Prop:=fndB l v=true/\w∈(toB l v).occ
theorem mB{l:List B}{r:Int->Nat}(hr:∀v,fndB l v=true->∀w∈(toB l v).occ,fndB l w=true->r w<r v){a b:Int}(h:Relation.TransGen (Dep l) a b)(hb:fndB l b=true):r b<r a:=by
 induction h with
 |single h=>exact hr _ h.1 _ h.2 hb
 |tail h1 h2 ih=>exact Nat.lt_trans (hr _ h2.1 _ h2.2 hb) (ih h2.1)
theorem mC{l:List B}{x:Int}(h:Relation.TransGen (Dep l) x x)(hx:fndB l x=true):¬Acyc l:=fun⟨_,hr⟩=>Nat.lt_irrefl _ (mB hr h hx)
def MapI(m:List (Int × PV))(f:Int->Int):Prop:=∀v,(yt v m).getD (.int .i64 0)=.int .i64 (f v)
theorem MapI.put{m:List (Int × PV)}{f:Int->Int}(h:MapI m f)(v x:Int):MapI (mPut v (.int .i64 x) m) (fun w=>if w=v then x else f w):=fun w=>by
 rw[Jl];by_cases e:w=v
 ·simp[e]
 ·simp only[Za e];exact h w
structure CInv(l:List B)(st:Int->Int):Prop where
 val:∀o,st o=0\/st o=1\/st o=2
 bnd:∀o,st o≠0->fndB l o=true
 done:∃(rk:Int->Nat) (c:Nat),∀v,st v=2->rk v<c/\∀w∈(toB l v).occ,fndB l w=true->st w=2/\rk w<rk v
structure CPost(l:List B)(st st':Int->Int)(v:Int):Prop where
 inv:CInv l st'
 opn:∀o,st' o=1↔st o=1
 dn:∀o,st o=2->st' o=2
 me:fndB l v=true->st' v=2
def cnt(l:List B)(st:Int->Int):Nat:=(l.filter fun b=>decide (st b.1=0)).length
theorem mD{l:List B}{st st':Int->Int}(h:∀o,st o≠0->st' o≠0):cnt l st'<=cnt l st:=by
 unfold cnt
 induction l with
 |nil=>exact Zi _
 |cons x r ih=>
  simp only[List.filter_cons];by_cases h1:st' x.1=0
  ·have h2:st x.1=0:=by
    rcases Int.lt_trichotomy (st x.1) 0 with h3|h3|h3
    ·exact absurd h1 (h _ (by omega))
    ·exact h3
    ·exact absurd h1 (h _ (by omega))
   simp[h1,h2];exact ih
  ·by_cases h2:st x.1=0
   ·simp[h1,h2];omega
   ·simp[h1,h2];exact ih
theorem GG{st st':Int->Int}(h:∀o,st o≠0->st' o≠0){v:Int}(h0:st v=0)(h1:st' v≠0){t:Tm}:∀{l:List B},(v,t)∈l->cnt l st'<cnt l st
 |[],hm=>by cases hm
 |x::r,hm=>by
  have hle:=mD (l:=r) h;unfold cnt at hle ⊢;simp only[List.filter_cons];by_cases e:x.1=v
  ·rw[e];simp[h0,h1];omega
  ·have hr:(v,t)∈r:=by
    rcases Zt.1 hm with h|h
    ·exact absurd (by rw[<-h]) e
    ·exact h
   have ih:=GG h h0 h1 hr;unfold cnt at ih;by_cases h2:st' x.1=0
   ·have h3:st x.1=0:=by
     rcases Int.lt_trichotomy (st x.1) 0 with h3|h3|h3
     ·exact absurd h2 (h _ (by omega))
     ·exact h3
     ·exact absurd h2 (h _ (by omega))
    simp[h2,h3];omega
   ·by_cases h3:st x.1=0
    ·simp[h2,h3];omega
    ·simp[h2,h3];omega
theorem CPost.mono{l:List B}{st st':Int->Int}{v:Int}(h:CInv l st)(hp:CPost l st st' v)(o:Int)(ho:st o≠0):st' o≠0:=by
 rcases h.val o with e|e|e
 ·exact absurd e ho
 ·rw[(hp.opn o).2 e];decide
 ·rw[hp.dn o e];decide
theorem CInv.open_{l:List B}{st:Int->Int}(h:CInv l st){v:Int}(hf:fndB l v=true)(h0:st v=0):CInv l (fun w=>if w=v then 1 else st w):=by
 obtain⟨h1,h2,rk,c,h3⟩:=h;refine⟨fun o=> ?_,fun o ho=> ?_,rk,c,fun w hw=> ?_⟩
 ·by_cases e:o=v
  ·simp[e]
  ·simp only[Za e];exact h1 o
 ·by_cases e:o=v
  ·rw[e];exact hf
  ·simp only[Za e] at ho;exact h2 o ho
 ·have hne:w≠v:=fun e=>by simp[e] at hw
  simp only[Za hne] at hw;obtain⟨k1,k2⟩:=h3 w hw;refine⟨k1,fun x hx hfx=> ?_⟩;obtain⟨k3,k4⟩:=k2 x hx hfx;have hne2:x≠v:=fun e=>by rw[e,h0] at k3;cases k3
  simp only[Za hne2];exact⟨k3,k4⟩
theorem CInv.close_{l:List B}{st:Int->Int}(h:CInv l st){v:Int}(hf:fndB l v=true)(h1:st v=1)(hall:∀w∈(toB l v).occ,fndB l w=true->st w=2):CInv l (fun w=>if w=v then 2 else st w):=by
 obtain⟨g1,g2,rk,c,g3⟩:=h;refine⟨fun o=> ?_,fun o ho=> ?_,fun w=>if w=v then c else rk w,c+1,fun w hw=> ?_⟩
 ·by_cases e:o=v
  ·simp[e]
  ·simp only[Za e];exact g1 o
 ·by_cases e:o=v
  ·rw[e];exact hf
  ·simp only[Za e] at ho;exact g2 o ho
 ·have key:∀x∈(toB l w).occ,fndB l x=true->st x=2->x≠v:=fun x _ _ e e2=>by rw[e2,h1] at e;cases e
  by_cases e:w=v
  ·subst e;refine⟨by simp,fun x hx hfx=> ?_⟩;have k:=hall x hx hfx;have hne:=key x hx hfx k;simp only[Za hne,if_true];exact⟨k,(g3 x k).1⟩
  ·simp only[Za e] at hw ⊢;obtain⟨k1,k2⟩:=g3 w hw;refine⟨by omega,fun x hx hfx=> ?_⟩;obtain⟨k3,k4⟩:=k2 x hx hfx;have hne:=key x hx hfx k3;simp only[Za hne];exact⟨k3,k4⟩
theorem CInv.acyc{l:List B}{st:Int->Int}(h:CInv l st)(hall:∀v,fndB l v=true->st v=2):Acyc l:=by
 obtain⟨_,_,rk,c,g3⟩:=h;exact⟨rk,fun v hv w hw hf=>((g3 v (hall v hv)).2 w hw hf).2⟩
theorem QL{sh:Sh}{hp:Heap}(l:List (Sh × AV)):wBox sh hp [.agg l]=if some (total l)=sh then ke sh hp.length (Yu l (hp++[.box sh (.agg l)])) else none:=by
 simp only[wBox,AV.plain,AV.shp,true_and,AV.own];rfl
def vagg(v:Int):AV:=.agg [(none,O8 0),(none,O8 v),(none,Oh []),(none,.tsl (some 4) [])]
theorem mE(l:List B)(hs:Srt' l)(hl:l.length<1000000000)(v:Int)(hf:fndB l v=true)(hp:Heap):
  S 145 [.pv none (.sl (some 5) (bds l)),vagg v] hp=some (.ret (.tuple [(toB l v).av,O9 true]),hp):=by
 refine YR rfl rfl rfl rfl ?_;have hpl:=jq l v hs hl;rw[hf] at hpl;simp -dsimp -implicitDefEqProofs only[go_sem,seval,↓reduceIte,vagg,Tm.av,hpl,zY (Yx (XV hf)),yY,QL,Zd,zW,z6,z7,z9,Zh,Zc];rw[ql rfl ((zW hp _ 2).trans rfl)];refine⟨rfl,?_⟩;rw[Zb (by simp[AV.refsIn,AV.refsIn.gol,Tm.av])];exact zj
theorem mF(l:List B)(hs:Srt' l)(hl:l.length<1000000000)(v:Int)(hf:fndB l v=false)(hp:Heap):
  ∃v' hp',S 145 [.pv none (.sl (some 5) (bds l)),vagg v] hp=some (.ret v',hp')/\∃e q,v'=.tuple [zagg q,O9 false]/\hp'=hp++e/\q<(hp++e).length/\0<e.length:=by
 refine xp _ rfl rfl rfl rfl ?_;have hpl:=jq l v hs hl;rw[hf] at hpl;simp -dsimp -implicitDefEqProofs only[go_sem,seval,↓reduceIte,vagg,Tm.av,hpl,hb0,QL,Yc (ZA _ _),Zd,zW,z6,z7,z9,Zh,Zc];rw[ql rfl ((zW hp _ 2).trans rfl)];rw[Za (by simp[AV.refsIn,AV.refsIn.gol,AV.refsIn.go])];exact⟨_,_,rfl,rfl,by simp,by simp⟩
theorem mG(l:List B)(hG:Good l)(hl:l.length<1000000000):∀(n:Nat) (st:Int->Int) (m:List (Int × PV)) (v:Int) (hp:Heap) (r:Nat),cnt l st=n->hp[r]? =some (.map none (Yl m))->MapI m st->CInv l st->(∀o,st o=1->Relation.TransGen (Dep l) o v)->
  ∃(b:Bool) (m':List (Int × PV)),S 142 [.pv none (.sl (some 5) (bds l)),O8 v,.map r] hp=some (.ret (O9 b),hp.set r (.map none (Yl m')))/\(b=true->¬Acyc l)/\(b=false->∃st',MapI m' st'/\CPost l st st' v):=by
 intro n
 induction n using Nat.strongRecOn with
 |_ n ih=>
  intro st m v hp r hn hr hM hI hpre;have hlt:=Y9 hr;have hself:hp.set r (.map none (Yl m))=hp:=by
   have:=Ze.1 hr;obtain⟨_,h⟩:=this;rw[<-h];exact List.set_getElem_self _
  have hlk0:∀e:Heap,yh false none (O8 0) false (hp++e) [.map r,O8 v]=some (O8 (st v)):=fun e=>by
   rw[QJ (m:=m) (by rw[Zx hlt];exact hr),hM v]
  by_cases h0:st v=0
  rotate_left
  ·have hw:S 142 [.pv none (.sl (some 5) (bds l)),O8 v,.map r] hp=some (.ret (O9 (decide (st v=1))),hp):=by
    refine YR rfl rfl rfl rfl ?_;have hlk:=hlk0 [];rw[ZF] at hlk;simp -dsimp -implicitDefEqProofs only[c142b18,go_sem,seval,↓reduceIte,hlk,h0];rw[Zb (by simp[AV.refsIn]),ZC]
   refine⟨decide (st v=1),m,by rw[hself];exact hw,fun hb=> ?_,fun hb=>⟨st,hM,hI,fun _=>Iff.rfl,fun _ h=>h,fun hf=> ?_⟩⟩
   ·have h1:st v=1:=ze hb;exact mC (hpre v h1) (hI.bnd v h0)
   ·have h1:¬st v=1:=of_decide_eq_false hb;rcases hI.val v with h|h|h
    ·exact absurd h h0
    ·exact absurd h h1
    ·exact h
  ·by_cases hf:fndB l v=true
   ·suffices hP:∃v' hp',S 142 [.pv none (.sl (some 5) (bds l)),O8 v,.map r] hp=some (.ret v',hp')/\∃(b:Bool) (m':List (Int × PV)),v'=O9 b/\hp'=hp.set r (.map none (Yl m'))/\(b=true->¬Acyc l)/\(b=false->∃st',MapI m' st'/\CPost l st st' v) by
     obtain⟨v',hp',h1,b,m',rfl,rfl,h2⟩:=hP;exact⟨b,m',h1,h2⟩
    obtain⟨htv,hts⟩:=hG.2 _ (Zk (XV hf));simp only at htv hts;have htz:=valid_size htv;have hb:=mE l hG.1 hl v hf;have hV:=fun hp=>mh (toB l v) htv hp;have hLm:∀x,x∈vads [] (toB l v).occ↔x∈(toB l v).occ:=fun x=>by rw[Gf];simp
    have hvl:=Ji (toB l v).occ [];have hol:=(toB l v).occ_len;rw[zn,ZH] at hvl;generalize hL:vads [] (toB l v).occ=L at hV hLm hvl;simp only[Tm.av,vagg] at hb hV;have hbu:Ym A0 [1] [O8 v]=some (.agg [(none,O8 0),(none,O8 v),(none,Oh []),(none,.tsl (some 4) [])]):=rfl;have hms:∀(x:Int) (m:List (Int × PV)) (e:Heap),Xr false none (hp.set r (.map none (Yl m))++e) [.map r,O8 v,O8 x]=some (.undef,hp.set r (.map none (Yl (mPut v (.int .i64 x) m)))++e):=fun x m e=>by
     rw[q9 (es:=Yl m) (by rw[Zx (by simpa using hlt),ZG hlt]) (qm _ _ _),ZW _ _ (by simpa using hlt),Z8]
    have hms1:=fun e=>hms 1 m e;rw[hself] at hms1;refine xp _ rfl rfl rfl rfl ?_;have hlk:=hlk0 [];rw[ZF] at hlk;have hg0:∀(X:AObj) (e:Heap),(hp.set r X++e)[hp.length]? =e[0]? :=fun X e=>YY (by simp);simp -dsimp -implicitDefEqProofs only[go_sem,seval,↓reduceIte,hlk,h0,hbu,hb,hms1,hg0,hV,yz,Y0,Yc (ZA _ _),Zd,zW,z6,z7,z9,Zh,Zc];have hI1:=hI.open_ hf h0;have hM1:=hM.put v 1;refine Yv (α:=List (Int × PV)) L.length (fun i m=>∃st':Int->Int,MapI m st'/\CInv l st'/\(∀o,st' o=1↔(o=v\/st o=1))/\(∀o,st o=2->st' o=2)/\∀j,j<i->∀x,L[j]? =some x->fndB l x=true->st' x=2)
     (fun i m=>⟨[(0,.pv none (.sl (some 5) (bds l))),(1,O8 v),(2,.map r),(31,.pv none (.sl none (ints L))),(32,O8 L.length),(33,O8 i)],hp.set r (.map none (Yl m))++[.box (some 4) (.pv (some 4) (toB l v).pv),.arr (some 4) [] false]⟩) _ ⟨⟨_,hM1,hI1,fun o=> ?_,fun o ho=> ?_,fun j hj=>by omega⟩,?_⟩ ?_ ?_
    ·by_cases e:o=v
     ·simp[e]
     ·simp[e]
    ·have:o≠v:=fun e=>by rw[e,h0] at ho;cases ho
     simp only[Za this];exact ho
    ·rfl
    ·rintro i m2 h ⟨st2,k1,k2,k3,k4,k5⟩;have hc:(i:Int)<(L.length:Int):=by omega
     obtain⟨x,hx⟩:∃x,L[i]? =some x:=⟨_,Zf h⟩;have hxo:=(hLm x).1 (Zk hx);have hnz:∀o,st o≠0->st2 o≠0:=fun o ho=>by
      rcases hI.val o with e|e|e
      ·exact absurd e ho
      ·rw[(k3 o).2 (.inr e)];decide
      ·rw[k4 o e];decide
     have hcl:cnt l st2<n:=by
      rw[<-hn];exact GG hnz h0 (by rw[(k3 v).2 (.inl rfl)];decide) (find_mem hf)
     obtain⟨b,m3,hcall,q1,q2⟩:=ih _ hcl st2 m2 x (hp.set r (.map none (Yl m2))++[.box (some 4) (.pv (some 4) (toB l v).pv),.arr (some 4) [] false]) r rfl (by rw[Zx (by simpa using hlt),ZG hlt]) k1 k2 (fun o ho=>by
      rcases(k3 o).1 ho with rfl|ho
      ·exact .single ⟨hf,hxo⟩
      ·exact .tail (hpre o ho) ⟨hf,hxo⟩)
     rw[ZW _ _ (by simpa using hlt),Z8] at hcall;have w2:=O0 i (by omega)
     cases b with
     |true=>
      simp -dsimp -implicitDefEqProofs only[c142b18,go_sem,seval,↓reduceIte,yz,hc,zY (xW hx),hcall];refine⟨true,m3,rfl,?_,q1,fun e=>by cases e⟩;rw[Zb (by simp[AV.refsIn])];exact ZD (by simp)
     |false=>
      obtain⟨st3,r1,r2⟩:=q2 rfl;simp -dsimp -implicitDefEqProofs only[c142b18,go_sem,seval,↓reduceIte,yz,hc,zY (xW hx),hcall,w2];refine⟨m3,⟨st3,r1,r2.inv,fun o=>by rw[r2.opn,k3],fun o ho=>r2.dn o (k4 o ho),fun j hj y hy hfy=> ?_⟩,?_⟩
      ·rcases Zq j i with h|h
       ·exact r2.dn y (k5 j h y hy hfy)
       ·have:j=i:=by omega
        subst this;rw[hx] at hy;cases hy;exact r2.me hfy
      ·rw[YW (by simp)]
    ·rintro m2 ⟨st2,k1,k2,k3,k4,k5⟩;have hc:¬(L.length:Int)<(L.length:Int):=by omega
     have hms2:=fun e=>hms 2 m2 e;simp -dsimp -implicitDefEqProofs only[c142b18,go_sem,seval,↓reduceIte,yz,hc,hms2];refine⟨false,mPut v (.int .i64 2) m2,rfl,?_,(fun e=>by cases e),fun _=>⟨_,k1.put v 2,?_⟩⟩
     ·rw[Zb (by simp[AV.refsIn])];exact ZD (by simp)
     ·have hall:∀w∈(toB l v).occ,fndB l w=true->st2 w=2:=fun w hw hfw=>by
       obtain⟨j,hj,rfl⟩:=zi ((hLm w).2 hw);exact k5 j hj _ (Zf hj) hfw
      refine⟨k2.close_ hf ((k3 v).2 (.inl rfl)) hall,fun o=> ?_,fun o ho=> ?_,fun _=>by simp⟩
      ·by_cases e:o=v
       ·simp[e,h0]
       ·simp only[Za e];rw[k3];simp[e]
      ·by_cases e:o=v
       ·simp[e]
       ·simp only[Za e];exact k4 o ho
   ·have hf':fndB l v=false:=by simpa using hf
    obtain⟨v',hp',hb,e,q,rfl,rfl,hq,he⟩:=mF l hG.1 hl v hf' hp;have hw:S 142 [.pv none (.sl (some 5) (bds l)),O8 v,.map r] hp=some (.ret (O9 false),hp):=by
     refine YR rfl rfl rfl rfl ?_;have hlk:=hlk0 [];rw[ZF] at hlk;simp only[vagg] at hb;have hbu:Ym A0 [1] [O8 v]=some (.agg [(none,O8 0),(none,O8 v),(none,Oh []),(none,.tsl (some 4) [])]):=rfl;simp -dsimp -implicitDefEqProofs only[c142b18,go_sem,seval,↓reduceIte,hlk,h0,hbu,hb,zagg,Y0,Yc (ZA _ _),Zd,zW,z6,z7,z9,Zh,Zc];rw[Zb (by simp[AV.refsIn])];exact zj
    exact⟨false,m,by rw[hself];exact hw,(fun h=>by cases h),fun _=>⟨st,hM,hI,fun _=>Iff.rfl,fun _ h=>h,fun h=>absurd h hf⟩⟩
theorem GH(l:List B)(hl:l.length<100000000)(hsz:∀b∈l,b.2.size<1000000000)(hp:Heap):S 119 [.pv none (.sl (some 5) (bds l))] hp=some (.ret (O9 (okb l)),hp):=by
 suffices hV:∃v,(∀hp,S 119 [.pv none (.sl (some 5) (bds l))] hp=some (.ret v,hp))/\VP l v by
  obtain⟨v,h1,b,rfl,h2⟩:=hV;have:b=okb l:=by rw[Bool.eq_iff_iff,h2,okb_iff]
  rw[h1,this]
 refine Jg (ps:=[(none,.sl (some 5) (bds l))]) (VP l) rfl rfl rfl (fun hp=>rfl) rfl ?_;simp -dsimp -implicitDefEqProofs only[c119k23,go_sem,seval,↓reduceIte,Yk];refine Yv (α:=Unit) l.length (fun i _=>∀j,j<i->WfAt l j) (fun i _=>⟨[(0,.pv none (.sl (some 5) (bds l))),(8,.pv none (.sl (some 5) (bds l))),(9,O8 l.length),(10,O8 i)],[]⟩) () ⟨fun j hj=>by omega,rfl⟩ ?_ ?_
 ·rintro i - h hinv;have hc:(i:Int)<(l.length:Int):=by omega
  obtain⟨b,hb⟩:∃b,l[i]? =some b:=⟨_,Zf h⟩;have hbs:=hsz b (Zk hb);have hv:=fun hp=>yR b.2 hp hbs;simp only[Tm.av] at hv;have w2:=O0 i (by omega)
  have next:WfAt l i->∀j,j<i+1->WfAt l j:=fun hw j hj=>by
   rcases Zq j i with h|h
   ·exact hinv j h
   ·have:j=i:=by omega
    subst this;exact hw
  by_cases h1:b.1<0
  ·simp -dsimp -implicitDefEqProofs only[c119b10,go_sem,seval,↓reduceIte,Yk,hc,zY (Yx hb),Y3,h1];exact XM fun h=>by have:=(h.wf i b hb).1;omega
  ·by_cases h2:1099511627776<b.1
   ·simp -dsimp -implicitDefEqProofs only[c119b10,go_sem,seval,↓reduceIte,Yk,hc,zY (Yx hb),Y3,h1,h2];exact XM fun h=>by have:=(h.wf i b hb).2.1;omega
   ·by_cases h3:0<i
    ·have h3':(0:Int)<(i:Int):=by omega
     obtain⟨c,hcc⟩:∃c,l[i - 1]? =some c:=⟨_,Zf (by omega)⟩;have w3:IntKind.i64.wrap ((i:Int) - 1)=((i - 1:Nat):Int):=by rw[zZ (by omega) (by omega)];omega
     by_cases h4:b.1<=c.1
     ·simp -dsimp -implicitDefEqProofs only[c119b10,go_sem,seval,↓reduceIte,Yk,hc,zY (Yx hb),zY (Yx hcc),Y3,h1,h2,h3',h4,w3];exact XM fun h=>by have:=(h.wf i b hb).2.2.2 h3 c hcc;omega
     ·by_cases h5:b.2.valid=true
      ·simp -dsimp -implicitDefEqProofs only[c119b10,go_sem,seval,↓reduceIte,Yk,hc,zY (Yx hb),zY (Yx hcc),Y3,yY,h1,h2,h3',h4,w3,hv,h5,w2];exact⟨(),next fun b' hb'=>by rw[hb] at hb';cases hb';exact⟨by omega,by omega,h5,fun _ c' hc'=>by rw[hcc] at hc';cases hc';omega⟩,by rfl⟩
      ·have h5':b.2.valid=false:=by simpa using h5
       simp -dsimp -implicitDefEqProofs only[c119b10,go_sem,seval,↓reduceIte,Yk,hc,zY (Yx hb),zY (Yx hcc),Y3,yY,h1,h2,h3',h4,w3,hv,h5'];exact XM fun h=>by have:=(h.wf i b hb).2.2.1;rw[h5'] at this;cases this
    ·have h3':¬(0:Int)<(i:Int):=by omega
     by_cases h5:b.2.valid=true
     ·simp -dsimp -implicitDefEqProofs only[c119b10,go_sem,seval,↓reduceIte,Yk,hc,zY (Yx hb),Y3,yY,h1,h2,h3',hv,h5,w2];exact⟨(),next fun b' hb'=>by rw[hb] at hb';cases hb';exact⟨by omega,by omega,h5,fun h=>absurd h h3⟩,by rfl⟩
     ·have h5':b.2.valid=false:=by simpa using h5
      simp -dsimp -implicitDefEqProofs only[c119b10,go_sem,seval,↓reduceIte,Yk,hc,zY (Yx hb),Y3,yY,h1,h2,h3',hv,h5'];exact XM fun h=>by have:=(h.wf i b hb).2.2.1;rw[h5'] at this;cases this
 ·rintro - hinv;have hc:¬(l.length:Int)<(l.length:Int):=by omega
  have hG:Good l:=⟨kU hinv,fun b hb=>by
   obtain⟨i,hlt,rfl⟩:=zi hb;exact⟨(hinv i hlt _ (Zf hlt)).2.2.1,hsz _ hb⟩⟩
  have hrg:∀b∈l,0<=b.1/\b.1<=1099511627776:=fun b hb=>by
   obtain⟨i,hlt,rfl⟩:=zi hb;exact⟨(hinv i hlt _ (Zf hlt)).1,(hinv i hlt _ (Zf hlt)).2.1⟩
  simp -dsimp -implicitDefEqProofs only[c119b10,c119k23,go_sem,seval,↓reduceIte,Yk,hc];refine Yv (α:=List (Int × PV)) l.length (fun i m=>∃st:Int->Int,MapI m st/\CInv l st/\(∀o,st o≠1)/\∀j,j<i->∀b,l[j]? =some b->st b.1=2) (fun i m=>⟨[(0,.pv none (.sl (some 5) (bds l))),(5,.map 0),(46,.pv none (.sl (some 5) (bds l))),(47,O8 l.length),(48,O8 i)],[.map none (Yl m)]⟩) [] ⟨⟨fun _=>0,fun v=>rfl,⟨fun _=>.inl rfl,fun o h=>absurd rfl h,fun _=>0,0,(fun v h=>(by cases h))⟩,(fun o h=>(by cases h)),fun j hj=>by omega⟩,rfl⟩ ?_ ?_
  ·rintro i m h ⟨st,k1,k2,k3,k4⟩;have hc:(i:Int)<(l.length:Int):=by omega
   obtain⟨b,hb⟩:∃b,l[i]? =some b:=⟨_,Zf h⟩;have w2:=O0 i (by omega)
   obtain⟨bb,m3,hcall,q1,q2⟩:=mG l hG (by omega) _ st m b.1 [.map none (Yl m),.box (some 5) (.pv (some 5) (bdp b))] 0 rfl rfl k1 k2 (fun o ho=>absurd ho (k3 o));simp only[zI] at hcall;cases bb with
   |true=>
    simp -dsimp -implicitDefEqProofs only[c119b10,c119b22,c119k23,go_sem,seval,↓reduceIte,Yk,hc,zY (Yx hb),Y3,hcall];exact XM fun h=>q1 rfl h.Acyc
   |false=>
    obtain⟨st3,r1,r2⟩:=q2 rfl;simp -dsimp -implicitDefEqProofs only[c119b10,c119b22,c119k23,go_sem,seval,↓reduceIte,Yk,hc,zY (Yx hb),Y3,hcall,w2];refine⟨m3,⟨st3,r1,r2.inv,fun o ho=>k3 o ((r2.opn o).1 ho),fun j hj y hy=> ?_⟩,by rfl⟩;rcases Zq j i with h|h
    ·exact r2.dn _ (k4 j h y hy)
    ·have:j=i:=by omega
     subst this;rw[hb] at hy;cases hy;exact r2.me (kV hG.1 hb).1
  ·rintro m ⟨st,k1,k2,k3,k4⟩;have hc:¬(l.length:Int)<(l.length:Int):=by omega
   simp -dsimp -implicitDefEqProofs only[c119b10,c119b22,c119k23,go_sem,seval,↓reduceIte,Yk,hc];refine Gb (Gc hG hrg (k2.acyc fun v hv=> ?_));have:=XV hv;exact k4 _ (Ze.1 this).1 _ this
theorem mH{hp hp':Heap}{t:Tm}{r o:Nat}(h:hp[r]? =some (.box (some 4) (.pv (some 4) t.pv)))(h':hp'[r]? =some (.box (some 4) (.pv (some 4) t.pv))):yC hp hp' (.ptr r o)=true:=by
 simp[yC,h,h',AObj.beq,AV.beq,jr]
def SzI(l:List B)(m:List (Int × PV)):Prop:=∃f:Int->Int,MapI m f/\∀v,f v≠0->fndB l v=true/\f v=((min (rs l (toB l v)).size 2001:Nat):Int)
theorem SzI.put{l:List B}{m:List (Int × PV)}(h:SzI l m){v:Int}(hf:fndB l v=true):SzI l (mPut v (.int .i64 ((min (rs l (toB l v)).size 2001:Nat):Int)) m):=by
 obtain⟨f,h1,h2⟩:=h;refine⟨_,h1.put v _,fun w hw=> ?_⟩;by_cases e:w=v
 ·subst e;simp[hf]
 ·simp only[Za e] at hw ⊢;exact h2 w hw
def XL(n:Nat)(t:Tm):Heap:=[.box (some 4) (.pv (some 4) t.pv),.box (some 4) (.pv (some 4) t.pv),.box (some 4) (zagg (n+4)),.arr (some 4) [] false,.arr (some 4) [] false,.box (some 4) (zagg (n+4)),.arr (some 4) [] false]
theorem mI(l:List B)(hO:OKB l)(hl:l.length<1000000000):∀(k:Nat) (t:Tm) (hp:Heap) (r:Nat) (m:List (Int × PV)),mu l t=k->t.valid=true->hp[r]? =some (.map none (Yl m))->SzI l m->
  ∃m',S 123 [.pv none (.sl (some 5) (bds l)),t.av,.map r] hp=some (.ret (O8 ((min (rs l t).size 2001:Nat):Int)),hp.set r (.map none (Yl m')))/\SzI l m':=by
 intro k
 induction k using Nat.strongRecOn with
 |_ k ih=>
  intro t hp r m hk hv hr hS;have hlt:=Y9 hr;have htz:=valid_size hv;have hself:hp.set r (.map none (Yl m))=hp:=by
   obtain⟨_,h⟩:=Ze.1 hr;rw[<-h];exact List.set_getElem_self _
  have hg0:∀(X:AObj) (e:Heap),(hp.set r X++e)[hp.length]? =e[0]? :=fun X e=>YY (by simp);have hg1:∀(X:AObj) (e:Heap) (k:Nat),(hp.set r X++e)[hp.length+k]? =e[k]? :=fun X e k=>getN (by simp) k;have hlen:∀(X:AObj),(hp.set r X).length=hp.length:=fun X=>by simp
  have hs1:∀(X Y:AObj) (e:Heap) (k:Nat),(hp.set r X++e).set (hp.length+k) Y=hp.set r X++e.set k Y:=fun X Y e k=>setN (by simp) k Y;have hrr:∀(X:AObj) (e:Heap),(hp.set r X++e)[r]? =some X:=fun X e=>by rw[Zx (by simpa using hlt),ZG hlt]
  have hss:∀(X Y:AObj) (e:Heap),(hp.set r X++e).set r Y=hp.set r Y++e:=fun X Y e=>by rw[ZW _ _ (by simpa using hlt),Z8]
  suffices hP:∃v' hp',S 123 [.pv none (.sl (some 5) (bds l)),t.av,.map r] hp=some (.ret v',hp')/\∃m',v'=O8 ((min (rs l t).size 2001:Nat):Int)/\hp'=hp.set r (.map none (Yl m'))/\SzI l m' by
   obtain⟨v',hp',h1,m',rfl,rfl,h2⟩:=hP;exact⟨m',h1,h2⟩
  by_cases hc:t.kind=0/\fndB l t.n=true
  ·obtain⟨hk0,hf⟩:=hc;have hb:=fun hp=>jB (s:=.pv none (.sl (some 5) (bds l))) (hp:=hp) (l:=l) (.inl rfl) hO.good.1 hl t hk0 hf;simp only[Tm.av] at hb;obtain⟨hto,_⟩:=hO.to hf;have hlt2:=yZ hO.Acyc hk0 hf;have hrs:rs l t=rs l (toB l t.n):=by rw[QF hO.Acyc hk0,Zb hf]
   rw[hrs];obtain⟨f,hM,hfv⟩:=id hS;have hlk:∀e:Heap,yh false none (O8 0) false (hp++e) [.map r,O8 t.n]=some (O8 (f t.n)):=fun e=>by
    rw[QJ (m:=m) (by rw[Zx hlt];exact hr),hM]
   refine xp _ rfl rfl rfl rfl ?_;have hpos:=Tm.size_pos (rs l (toB l t.n));by_cases h0:f t.n=0
   ·obtain⟨m2,hcall,hS2⟩:=ih _ (by omega) (toB l t.n) (hp++[.box (some 4) (.pv (some 4) t.pv),.box (some 4) (.pv (some 4) (toB l t.n).pv),.arr (some 4) [] false]) r m rfl hto (by rw[Zx hlt];exact hr) hS;rw[ZW _ _ hlt] at hcall;simp only[Tm.av] at hcall;have hsp:∀(X:AObj) (e e':Heap),yC (hp++.box (some 4) (.pv (some 4) t.pv)::e) (hp.set r X++.box (some 4) (.pv (some 4) t.pv)::e') (.ptr hp.length 1)=true:=fun X e e'=>mH (t:=t) (by rw[z6];rfl) (by rw[hg0];rfl);have hms:∀(x:Int) (m:List (Int × PV)) (e:Heap),Xr false none (hp.set r (.map none (Yl m))++e) [.map r,O8 t.n,O8 x]=some (.undef,hp.set r (.map none (Yl (mPut t.n (.int .i64 x) m)))++e):=fun x m e=>by
     rw[q9 (es:=Yl m) (hrr _ _) (qm _ _ _),hss]
    have hlk2:∀(x:Int) (m:List (Int × PV)) (e:Heap),yh false none (O8 0) false (hp.set r (.map none (Yl (mPut t.n (.int .i64 x) m)))++e) [.map r,O8 t.n]=some (O8 x):=fun x m e=>by
     rw[QJ (m:=mPut t.n (.int .i64 x) m) (hrr _ _),Jl,Zb rfl];rfl
    simp -dsimp -implicitDefEqProofs only[go_sem,seval,↓reduceIte,Tm.av,hb,Yh,hlk,h0,hcall,hsp,hms,hlk2,hg0,ZZ,zA,List.all_cons,List.all_nil,Yc (ZA _ _),Zd,zW,z6,z7,z9,Zh,Zc];exact⟨_,by rw[Zb (by simp[AV.refsIn])];exact ZD (by simp),hS2.put hf⟩
   ·have hfe:=(hfv _ h0).2;simp -dsimp -implicitDefEqProofs only[go_sem,seval,↓reduceIte,Tm.av,hb,Yh,hlk,h0,Yc (ZA _ _),Zd,zW,z6,z7,z9,Zh,Zc];exact⟨m,by rw[hfe],by rw[Zb (by simp[AV.refsIn]),hself];exact zj,hS⟩
  ·have hb:=fun hp=>jC (s:=.pv none (.sl (some 5) (bds l))) (hp:=hp) (l:=l) (.inl rfl) hO.good.1 hl t hc;simp only[Tm.av] at hb;have hrs:(rs l t).size=1+Tm.sizes (t.args.map (rs l)):=by
    by_cases hk0:t.kind=0
    ·have hf:¬fndB l t.n=true:=fun e=>hc ⟨hk0,e⟩;rw[qk hO.Acyc (valid_fits hv) hk0 hf,yn (valid_fits hv) hk0];rfl
    ·rw[xu l hk0,Tm.size_eq];rfl
   have harg:∀u∈t.args,mu l u<k/\u.valid=true:=fun u hu=>by
    have hk0:¬t.kind=0:=fun hk0=>by
     rw[yn (valid_fits hv) hk0] at hu;cases hu
    exact⟨by rw[<-hk];exact xr l hk0 hu,YK hv hu⟩
   refine xp _ rfl rfl rfl rfl ?_;simp -dsimp -implicitDefEqProofs only[go_sem,seval,↓reduceIte,Tm.av,hb,bndX,zagg,zV,Tm.pvs_len,Y0,Yc (ZA _ _),Zd,zW,z6,z7,z9,Zh,Zc];refine Yv (α:=List (Int × PV)) t.args.length (fun _ m=>SzI l m) (fun i m=>⟨[(0,.pv none (.sl (some 5) (bds l))),(2,.map r),(9,O8 ((min (1+Tm.sizes ((t.args.map (rs l)).take i)) 2001:Nat):Int)),(36,.pv none (.sl (some 4) (Tm.pvs t.args))),(37,O8 t.args.length),(38,O8 i)],hp.set r (.map none (Yl m))++XL hp.length t⟩) m ⟨hS,?_⟩ ?_ ?_
   ·rw[hself];rfl
   ·rintro i m2 h hS2;have hc:(i:Int)<(t.args.length:Int):=by omega
    obtain⟨u,hu⟩:∃u,t.args[i]? =some u:=⟨_,Zf h⟩;have hum:=Zk hu;obtain⟨ha1,ha2⟩:=harg u hum;have hrt:=Tm.zyV (l:=t.args.map (rs l)) (i:=i) (t:=rs l u) (by simp[hu]);have hlen2:=Tm.zyN t.args;have hts:=t.size_eq;obtain⟨m3,hcall,hS3⟩:=ih _ ha1 u (hp.set r (.map none (Yl m2))++(XL hp.length t++[.box (some 4) (.pv (some 4) u.pv),.arr (some 4) [] false])) r m2 rfl ha2 (hrr _ _) hS2;rw[hss] at hcall;simp only[Tm.av,XL,zagg,Zw,ZE] at hcall;have w2:=O0 i (by omega)
    have w3:IntKind.i64.wrap (((min (1+Tm.sizes ((t.args.map (rs l)).take i)) 2001:Nat):Int)+((min (rs l u).size 2001:Nat):Int))=((min (1+Tm.sizes ((t.args.map (rs l)).take i)) 2001+min (rs l u).size 2001:Nat):Int):=by rw[zZ (by omega) (by omega)];omega
    have w4:(if(2001:Int)<((min (1+Tm.sizes ((t.args.map (rs l)).take i)) 2001+min (rs l u).size 2001:Nat):Int) then 2001 else((min (1+Tm.sizes ((t.args.map (rs l)).take i)) 2001+min (rs l u).size 2001:Nat):Int))=((min (1+Tm.sizes ((t.args.map (rs l)).take (i+1))) 2001:Nat):Int):=by
     rw[hrt];split <;> omega
    simp -dsimp -implicitDefEqProofs only[c123b16,go_sem,seval,↓reduceIte,XL,zagg,hc,zY (Tm.pvs_get hu),hcall,w2,w3,w4,hlen,hg0,hg1,hs1,Y0,Yc (ZA _ _),Zd,zW,z6,z7,z9,Zh,Zc];refine⟨m3,hS3,?_⟩;rw[Xd 7 (by simp) rfl (by simp[AObj.refs,AV.ofComps,pures,AV.refsIn,AV.refsIn.go]) (by simp[AV.refsIn,AV.refsIn.gol];omega)];rfl
   ·rintro m2 hS2;have hc:¬(t.args.length:Int)<(t.args.length:Int):=by omega
    simp -dsimp -implicitDefEqProofs only[c123b16,go_sem,seval,↓reduceIte,hc];refine⟨m2,?_,?_,hS2⟩
    ·rw[hrs,Zp (by rw[ZO];exact Zi _)]
    ·rw[Zb (by simp[AV.refsIn])];exact ZD (by simp)
def appP(t:Tm)(es:List PV):Heap:=[.box (some 4) (.pv (some 4) t.pv),.box (some 4) (zagg 2),.arr (some 4) [] false,.box (some 4) (.pv (some 4) t.pv),.box (some 4) (zagg 6),.arr (some 4) [] false,.arr (some 4) [] false,.box (some 4) (zagg 6),.arr (some 4) [] false,.box (some 4) (.agg [(none,O8 t.kind),(none,O8 t.n),(none,Oh t.name),(none,.sl (some 4) 11 es.length 0 es.length)]),.arr (some 4) [] false,.arr (some 4) es false]
theorem mJ(l:List B)(hO:OKB l)(hl:l.length<1000000000):∀(k:Nat) (t:Tm),mu l t=k->t.valid=true->∀hp:Heap,S 124 [.pv none (.sl (some 5) (bds l)),t.av] hp=some (.ret (rs l t).av,hp):=by
 intro k
 induction k using Nat.strongRecOn with
 |_ k ih=>
  intro t hk hv hp;have htz:=valid_size hv;have hlen2:=Tm.zyN t.args;have hts:=t.size_eq;refine Yb rfl rfl rfl (Yd [(none,.sl (some 5) (bds l)),(some 4,t.pv)]) rfl ?_;have hb4:Ym A0 [0,1,2] [O8 t.kind,O8 t.n,Oh t.name]=some (.agg [(none,O8 t.kind),(none,O8 t.n),(none,Oh t.name),(none,.tsl (some 4) [])]):=rfl;by_cases hc:t.kind=0/\fndB l t.n=true
  ·obtain⟨hk0,hf⟩:=hc;have hb:=fun hp=>jB (s:=.pv none (.sl (some 5) (bds l))) (hp:=hp) (l:=l) (.inl rfl) hO.good.1 hl t hk0 hf;obtain⟨hto,_⟩:=hO.to hf;have hlt2:=yZ hO.Acyc hk0 hf;have hrs:rs l t=rs l (toB l t.n):=by rw[QF hO.Acyc hk0,Zb hf]
   have hcall:=ih _ (by omega) (toB l t.n) rfl hto;rw[hrs];simp only[Tm.av] at hb hcall;simp -dsimp -implicitDefEqProofs only[go_sem,seval,↓reduceIte,Tm.av,hb,hcall,Yc (Zg _)]
  ·have hb:=fun hp=>jC (s:=.pv none (.sl (some 5) (bds l))) (hp:=hp) (l:=l) (.inl rfl) hO.good.1 hl t hc;simp only[Tm.av] at hb;have hrs:rs l t=.mk t.kind t.n t.name (t.args.map (rs l)):=by
    by_cases hk0:t.kind=0
    ·have hf:¬fndB l t.n=true:=fun e=>hc ⟨hk0,e⟩;rw[qk hO.Acyc (valid_fits hv) hk0 hf,yn (valid_fits hv) hk0];rfl
    ·exact xu l hk0
   have harg:∀u∈t.args,mu l u<k/\u.valid=true:=fun u hu=>by
    have hk0:¬t.kind=0:=fun hk0=>by
     rw[yn (valid_fits hv) hk0] at hu;cases hu
    exact⟨by rw[<-hk];exact xr l hk0 hu,YK hv hu⟩
   rw[hrs];generalize hts':t.args.map (rs l)=ts';have htl:ts'.length=t.args.length:=by rw[<-hts',ZO]
   simp -dsimp -implicitDefEqProofs only[go_sem,seval,↓reduceIte,Tm.av,hb,bndX,zagg,hb4,Ya,Yh,Ye,zV,Tm.pvs_len,Y0,Yc (Zg _)];refine Yv (α:=Unit) t.args.length (fun _ _=>True) (fun i _=>⟨[(0,.pv none (.sl (some 5) (bds l))),(4,.ptr 1 0),(7,.ptr 9 0),(28,.pv none (.sl (some 4) (Tm.pvs t.args))),(29,O8 t.args.length),(30,O8 i)],appP t (Tm.pvs (ts'.take i))⟩) () ⟨trivial,rfl⟩ ?_ ?_
   ·rintro i - h -;have hc:(i:Int)<(t.args.length:Int):=by omega
    obtain⟨u,hu⟩:∃u,t.args[i]? =some u:=⟨_,Zf h⟩;have hum:=Zk hu;obtain⟨ha1,ha2⟩:=harg u hum;have hcall:=ih _ ha1 u rfl ha2;simp only[Tm.av] at hcall;have hpt:=Tm.zyT (l:=ts') (i:=i) (t:=rs l u) (by rw[<-hts'];simp[hu]);have w2:=O0 i (by omega)
    have hl1:(Tm.pvs (ts'.take i)).length=i:=by rw[Tm.pvs_len,Zn];omega
    have hl2:(ts'.take (i+1)).length=i+1:=by rw[Zn];omega
    have hlim:i+1<=lim:=by unfold lim;omega
    simp -dsimp -implicitDefEqProofs only[c124b13,go_sem,seval,↓reduceIte,appP,zagg,zV,Tm.pvs_len,hc,zY (Tm.pvs_get hu),hcall,w2,hl1,hlim,hpt,Yc (Zg _),yF (Zg _)];exact⟨(),by rw[hl2];rfl⟩
   ·rintro - -;have hc:¬(t.args.length:Int)<(t.args.length:Int):=by omega
    have htk:ts'.take t.args.length=ts':=Zp (by omega);simp -dsimp -implicitDefEqProofs only[c124b13,go_sem,seval,↓reduceIte,appP,zagg,zV,Tm.pvs_len,hc,htk,Y0,Yc (Zg _),yF (Zg _)];exact kX _ _ _ (Tm.pvs ts') _ (Tm.pvs_len ts').symm rfl
theorem mK(l:List B)(t:Tm)(hl:l.length<100000000)(hsz:∀b∈l,b.2.size<1000000000)(ht:t.size<1000000000)(hp:Heap):
  S 86 [.pv none (.sl (some 5) (bds l)),t.av] hp=some (.ret (.tuple [(rsR l t).1.av,.pv none (.int .i64 (rsR l t).2)]),hp):=by
 refine Yb rfl rfl rfl (Yd [(none,.sl (some 5) (bds l)),(some 4,t.pv)]) rfl ?_;have h1:=GH l hl hsz;have h2:=fun hp=>yR t hp ht;simp only[Tm.av] at h2;unfold rsR;cases hb:okb l with
 |false=>
  rw[hb] at h1;rw[Za (by simp)];dsimp only;simp -dsimp -implicitDefEqProofs only[go_sem,seval,↓reduceIte,Tm.av,h1,h2,Yc (Zg _),hb0];exact XN _ _ _ rfl
 |true=>
  rw[hb] at h1;have hO:=okb_iff.1 hb;by_cases hv:t.valid=true
  ·rw[Zb ⟨rfl,hv⟩];have h3:=mJ l hO (by omega) _ t rfl hv;obtain⟨m',h4,_⟩:=mI l hO (by omega) _ t [.box (some 4) (.pv (some 4) t.pv),.box (some 4) (zagg 2),.arr (some 4) [] false,.map none []] 3 [] rfl hv rfl ⟨fun _=>0,fun _=>rfl,fun v h=>absurd rfl h⟩;simp only[Tm.av,zagg,zI,zJ] at h3 h4;by_cases hs:(rs l t).size<=2000
   ·rw[Zb hs];dsimp only;have hm:¬(2000:Int)<((min (rs l t).size 2001:Nat):Int):=by omega
    simp -dsimp -implicitDefEqProofs only[go_sem,seval,↓reduceIte,Tm.av,h1,h2,hv,h3,h4,hm,Yc (Zg _),hb0];exact ju _ _ _ _ _
   ·rw[Za hs];dsimp only;have hm:(2000:Int)<((min (rs l t).size 2001:Nat):Int):=by omega
    simp -dsimp -implicitDefEqProofs only[go_sem,seval,↓reduceIte,Tm.av,h1,h2,hv,h3,h4,hm,Yc (Zg _),hb0];exact XN _ _ _ rfl
  ·rw[Za fun h=>hv h.2];dsimp only;have hv':t.valid=false:=by simpa using hv
   simp -dsimp -implicitDefEqProofs only[go_sem,seval,↓reduceIte,Tm.av,h1,h2,hv',Yc (Zg _),hb0];exact XN _ _ _ rfl
end Go.Proofs.YtffecaafklpmhaaGreat
