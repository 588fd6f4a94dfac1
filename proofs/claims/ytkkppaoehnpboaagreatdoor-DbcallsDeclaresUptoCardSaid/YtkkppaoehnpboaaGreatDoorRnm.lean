/- What is proved: dynamic/1. -/
import Derived.Test.YtkkppaoehnpboaaGreatDoorDfo
import Derived.Test.YtkkppaoehnpboaaGreatDoorDb1
import Derived.Test.YtkkppaoehnpboaaGreatDoorCl
import Derived.Test.YtkkppaoehnpboaaGreatDoorBal
set_option linter.unusedSimpArgs false
set_option linter.unusedVariables false
namespace Go.Proofs.YtkkppaoehnpboaaGreatDoor
open Go.Am
def dynQ(d:Dbs)(g:Tm)(sv:AV)(L:List (List UInt8 × Int))(hp:Heap)(r:Nat)(v:ARes)(hp':Heap):Prop:=match chkL d L with
 |some b=>v=.panic (xk b)/\hp'=hp
 |none=>if(decL d L).2=0 then v=.ret (.tuple [])/\hp'=hp.set r (.box (some 7) (cB (decL d L).1 g (.tsl (some 4) [g.pv])))
  else v=.panic (Q3 (decL d L).2)/\∃d2,hp'=hp.set r (.box (some 7) (cB d2 g sv))
structure HasT(lv:AV)(n:Nat)(E:Heap)(ts:List Tm):Prop where
 len:sLen [lv]=some (O5 ts.length)
 idx:∀(i:Nat) (u:Tm) (H0 X:Heap),H0.length=n->ts[i]? =some u->∃p,(∀k,Yq (some 4) [lv,.pv none (.int k i)]=some p)/\aload (some 4) (H0++(E++X)) p=some (.pv (some 4) u.pv)
 refs:lv.refsIn.all (fun q=>decide (q<n+E.length))=true
 eref:E.all (fun o=>o.refs.all (fun q=>decide (q<n+E.length)))=true
theorem gC(n:Nat)(ts:List Tm):HasT (.pv none (.sl (some 4) (Tm.pvs ts))) n [] ts where
 len:=by simp[sLen,Tm.pvs_len]
 idx:=fun i u H0 X _ h=>⟨_,fun k=>Yc (Tm.pvs_get h),rfl⟩
 refs:=rfl
 eref:=rfl
theorem Nt{n k:Nat}{E:Heap}{ts:List Tm}(hk:E[k]? =some (.arr (some 4) (Tm.pvs ts) false))(hE:∀o∈E,o.refs=[]):HasT (.sl (some 4) (n+k) ts.length 0 ts.length) n E ts where
 len:=rfl
 idx:=fun i u H0 X hn h=>by
  refine⟨_,fun kk=>qN (Zb.1 h).1,?_⟩;have hlt:=ya hk;have e:(H0++(E++X))[n+k]? =some (.arr (some 4) (Tm.pvs ts) false):=by
   rw[getN hn,ZI hlt,hk]
  simp[aload,e,Tm.pvs_get h,Tm.pvs_len]
 refs:=by
  have hlt:=ya hk;simp[AV.refsIn];omega
 eref:=by
  rw[Zm];intro o ho;rw[hE o ho];rfl
set_option maxRecDepth 20000 in
theorem Nu(d:Dbs)(hv:okD d=true)(g T:Tm)(hg:g.args=[T])(q m:Nat)(L:List (List UInt8 × Int))(hL:∀x∈L,x.1.length<=100)(hlen:L.length<1000000)(hp:Heap)(r:Nat)(hr:hp[r]? =some (.box (some 7) (cB d g (slA q m))))(lv:AV)(E:Heap)(hi:S 93 [T.av] hp=some (.ret lv,hp++E))(hT:HasT lv hp.length E (L.map fun x=>indT x.1 x.2)):
  ∃v hp',S 56 [.ptr r 0] hp=some (v,hp')/\dynQ d g (slA q m) L hp r v hp':=by
 refine GD (dynQ d g (slA q m) L hp r) rfl rfl rfl rfl ?_;have hb:=Q7 hv;have hlt:=ya hr;have hr':∀X,(hp++X)[r]? =some (.box (some 7) (cB d g (slA q m))):=fun X=>by rw[yY hlt,hr]
 have ha:AV.part deep (cB d g (slA q m)) 5 none=some (.pv none (.sl (some 4) (Tm.pvs [T]))):=by rw[m5,hg]
 have i0:Yq (some 4) [.pv none (.sl (some 4) (Tm.pvs [T])),O5 0]=some (.iptr (some 4) T.pv 0):=ia0 rfl;have hsl:=hT.len;rw[Z8] at hsl;simp only[Tm.av] at hi;simp -dsimp -implicitDefEqProofs only[go_sem,seval,xi,hr,hr',ha,i0,hi,hsl];have hcol:∀(fr:Fr) (X:Heap),fr.all (fun x=>x.2.refsIn.all (fun q=>decide (q<hp.length+E.length)))=true->collect (hp.length+E.length) hp.length fr (hp++(E++X))=hp++E:=fun fr X hf=>by
  rw[Qq E.length rfl rfl (by rw[Z7];exact hT.eref) hf,Z7]
 have hrefs:=hT.refs;refine Yy (α:=Unit) L.length (fun i _=>chkL d L=chkL d (L.drop i)) (fun i _=>⟨[(0,.ptr r 0),(2,lv),(21,lv),(22,O5 L.length),(23,O5 i)],hp++E⟩) () ⟨rfl,rfl⟩ ?_ ?_
 ·rintro i - h hinv;have hc:(i:Int)<(L.length:Int):=by omega
  have w1:=O0 i (by omega)
  obtain⟨x,hx⟩:∃x,L[i]? =some x:=⟨_,Zf h⟩;have hdr:L.drop i=x::L.drop (i+1):=by
   rw[zC h,(Zb.1 hx).2]
  have hn:=hL x (Zj hx);obtain⟨p,p1,p2⟩:=hT.idx i (indT x.1 x.2) hp [] rfl (by rw[ZK,hx];rfl);rw[ZB] at p2;have hvt:=ju (k:=x.2) hn;cases hk:indB x.2 with
  |some b=>
   have h3:=fun hp=>mY x.1 x.2 hn b hk hp;simp only[Tm.av] at h3;simp -dsimp -implicitDefEqProofs only[go_sem,seval,hc,p1,p2,h3,Yn,jk];unfold dynQ;rw[hinv,hdr,chkL,hk];exact⟨rfl,Z7⟩
  |none=>
   have h3:=fun hp=>gf x.1 x.2 hn hk hp;simp only[Tm.av] at h3;by_cases hs:XH d x.1 x.2=true
   ·have h4:=fun X=>mX d hb g (slA q m) x.1 x.2 (indT x.1 x.2) hvt hs (hp++X) r (hr' X);simp only[Tm.av] at h4;simp -dsimp -implicitDefEqProofs only[go_sem,seval,hc,p1,p2,h3,h4,Yn,jk];unfold dynQ;rw[hinv,hdr,chkL,hk];dsimp only;rw[Zd hs];exact⟨rfl,Z7⟩
   ·have hs':XH d x.1 x.2=false:=by simpa using hs
    have h4:=fun X=>mW d hb g (slA q m) x.1 x.2 (indT x.1 x.2) hs' (hp++X) r (hr' X);simp only[Tm.av] at h4;simp -dsimp -implicitDefEqProofs only[go_sem,seval,hc,w1,p1,p2,h3,h4,Yn];refine⟨(),?_,?_⟩
    ·rw[hinv,hdr,chkL,hk];dsimp only;rw[Za hs]
    ·rw[hcol _ _ (by simp[AV.refsIn];exact⟨by omega,by simpa using hrefs⟩)]
 ·rintro - hinv;have hc:¬(L.length:Int)<(L.length:Int):=by omega
  rw[zK] at hinv;have hnone:chkL d L=none:=hinv;simp -dsimp -implicitDefEqProofs only[go_sem,seval,hc,hsl];have hs0:hp.set r (.box (some 7) (cB d g (slA q m)))=hp:=zA fun j=>by
   by_cases hj:j=r
   ·subst hj;rw[Zx hlt,hr]
   ·rw[Zo (by omega)]
  refine Yy (α:=Dbs) L.length (fun i di=>decL d L=decL di (L.drop i)/\BndD di) (fun i di=>⟨[(0,.ptr r 0),(38,lv),(39,O5 L.length),(40,O5 i)],hp.set r (.box (some 7) (cB di g (slA q m)))++E⟩) d ⟨⟨rfl,hb⟩,by rw[hs0];rfl⟩ ?_ ?_
  ·rintro i di h ⟨hdi,hbi⟩;obtain⟨K,hK⟩:∃K,K=hp.set r (.box (some 7) (cB di g (slA q m))):=⟨_,rfl⟩;have hl:hp.length=K.length:=by rw[hK];simp
   have hKr:∀X,(K++X)[r]? =some (.box (some 7) (cB di g (slA q m))):=fun X=>by
    rw[yY (by omega),hK,Zx hlt]
   have hst:∀(n:Dbs) (X:Heap),Yb (some 2) K.length (K++X) [.ptr r 0,.pv (some 2) n.pv]=some (.undef,hp.set r (.box (some 7) (cB n g (slA q m)))++X):=fun n X=>by
    rw[m6 (hKr X) (by omega),zV _ _ (by omega),hK,List.set_set]
   obtain⟨Q,hQ⟩:∃Q:Dbs->Heap,Q=fun n=>hp.set r (.box (some 7) (cB n g (slA q m))):=⟨_,rfl⟩;have hQl:∀n,(Q n).length=K.length:=fun n=>by rw[hQ,<-hl];simp
   have hQe:∀n,hp.set r (.box (some 7) (cB n g (slA q m)))=Q n:=fun n=>by rw[hQ]
   simp only[hQe] at hst ⊢;have hKQ:Q di=K:=by rw[hQ,hK]
   rw[hKQ];rw[hl] at hcol hT hrefs ⊢;have hc:(i:Int)<(L.length:Int):=by omega
   have w1:=O0 i (by omega)
   obtain⟨x,hx⟩:∃x,L[i]? =some x:=⟨_,Zf h⟩;have hdr:L.drop i=x::L.drop (i+1):=by
    rw[zC h,(Zb.1 hx).2]
   have hn:=hL x (Zj hx);obtain⟨p,p1,p2⟩:=hT.idx i (indT x.1 x.2) K [] rfl (by rw[ZK,hx];rfl);rw[ZB] at p2;have hk:=(VC hnone x (Zj hx)).1;have h3:=fun hp=>gf x.1 x.2 hn hk hp;have h5:=fun hp=>mQ di hbi x.1 x.2 true hp;have hbn:=Np di x.1 x.2 true;rw[hdr,decL] at hdi;generalize Yo di x.1 x.2 true=R at*;obtain⟨n,e⟩:=R;dsimp only at h5 hbn hdi;have hnil:∀H:Heap,Yf A3 H=(A3,H):=fun _=>rfl;simp only[Tm.av,Dbs.av] at h3 h5;by_cases he:e=0
   ·subst he;rw[Zd rfl] at hdi;have h6:=fun hp=>mU hp;simp -dsimp -implicitDefEqProofs only[go_sem,seval,xi,hc,w1,p1,p2,hKr,Vu,h3,h5,h6,hst,hnil,Yn,z7 (Zs _ _)];refine⟨n,⟨hdi,hbn⟩,?_⟩;have hcl:∀(fr:Fr) (X:Heap),fr.all (fun x=>x.2.refsIn.all (fun q=>decide (q<hp.length+E.length)))=true->collect (hp.length+E.length) K.length fr (Q n++(E++X))=Q n++E:=fun fr X hf=>by
     rw[Qq E.length (hQl n) (by omega) (by rw[Z7,hl];exact hT.eref) hf,Z7]
    rw[hcl _ _ (by simp[AV.refsIn];exact⟨by omega,by rw[hl];simpa using hrefs⟩),hQ]
   ·rw[Za he] at hdi;have h6:=fun hp=>mV e he hp;have hpan:∀A:Prop,panK true A=A:=fun _=>rfl;simp -dsimp -implicitDefEqProofs only[go_sem,seval,xi,hc,w1,p1,p2,hKr,Vu,h3,h5,h6,hst,hnil,hpan,Yn,z7 (Zs _ _),jk];unfold dynQ;rw[hnone,hdi];dsimp only;rw[Za he];refine⟨rfl,di,?_⟩;rw[Z7,hK]
  ·rintro di ⟨hdi,hbi⟩;rw[zK] at hdi;have hdi:decL d L=(di,0):=hdi;obtain⟨K,hK⟩:∃K,K=hp.set r (.box (some 7) (cB di g (slA q m))):=⟨_,rfl⟩;have hl:hp.length=K.length:=by rw[hK];simp
   have hKr:∀X,(K++X)[r]? =some (.box (some 7) (cB di g (slA q m))):=fun X=>by
    rw[yY (by omega),hK,Zx hlt]
   have h6:∀X,S 90 [.ptr r 0] (K++X)=some (.ret (.tuple []),hp.set r (.box (some 7) (cB di g (.tsl (some 4) [g.pv])))++X):=fun X=>by
    rw[m8 di g q m (K++X) r (hKr X),zV _ _ (by omega),hK,List.set_set]
   have hc:¬(L.length:Int)<(L.length:Int):=by omega
   rw[<-hK];generalize hZ:hp.set r (.box (some 7) (cB di g (.tsl (some 4) [g.pv])))=Z at h6;have hZl:Z.length=hp.length:=by rw[<-hZ];simp
   simp -dsimp -implicitDefEqProofs only[go_sem,seval,hc,h6,Va,k9];unfold dynQ;rw[hnone,hdi];dsimp only;rw[Zd rfl,hZ];refine⟨rfl,?_⟩;simp[AV.refsIn,AV.refsIn.gol,<-hZl]
def houD(F:FuncId->Option AFn)(prim:FuncId->Option Ym)(rs:List RSlot)(n s:Nat)(st:St)(v:AV)(hp':Heap)(p:PV)(st2:St):Prop:=
 ∃g fs cs,st.fr.look s=some (.func (.func g) fs cs)/\∃r H,sem F prim .dfr g (.pv none p::(fs++cs)) st2.hp=some (.ret r,H)/\Yz ⟨st2.fr,H⟩ rs=some v/\(if v.refsIn.all (fun q=>decide (q<n))=true then H.take n else H)=hp'
def houK(F:FuncId->Option AFn)(prim:FuncId->Option Ym)(rs:List RSlot)(n s:Nat)(st:St)(v:AV)(hp':Heap):AExit->St->Prop
 | .normal,st2=>houD F prim rs n s st v hp' .niliface st2
 | .ret,st2=>houD F prim rs n s st v hp' .niliface st2
 | .panic w,st2=>houD F prim rs n s st v hp' w st2
 | .exit _,_=>False
def hdfK(F:FuncId->Option AFn)(prim:FuncId->Option Ym)(rs:List RSlot)(n s:Nat)(c2:ACode)(v:AV)(hp':Heap):AExit->St->Prop
 | .normal,st=>(st.fr.look s).isSome=true/\W (sem F prim) (sloop F prim) n c2 st (houK F prim rs n s st v hp')
 |_,_=>False
section
variable{F:FuncId->Option AFn} {prim:FuncId->Option Ym} {rs:List RSlot} {n s:Nat} {c2:ACode} {v:AV} {hp':Heap} {st st2:St}
theorem VD:hdfK F prim rs n s c2 v hp' .normal st=((st.fr.look s).isSome=true/\W (sem F prim) (sloop F prim) n c2 st (houK F prim rs n s st v hp')):=rfl
theorem VE:houK F prim rs n s st v hp' .ret st2=houD F prim rs n s st v hp' .niliface st2:=rfl
theorem VF{w:PV}:houK F prim rs n s st v hp' (.panic w) st2=houD F prim rs n s st v hp' w st2:=rfl
end
theorem VG{F:FuncId->Option AFn}{prim:FuncId->Option Ym}{f:FuncId}{fn:AFn}{args:List AV}{hp hp':Heap}{v:AV}{s:Nat}{c2:ACode}(hp0:prim f=none)(hf:F f=some fn)(hm:fn.heapMode=true)(hn:args.length=fn.nparams)(hmo:fn.more=[(.dfr s,c2)])
  (h:W (sem F prim) (sloop F prim) hp.length fn.code ⟨params 0 args,hp⟩ (hdfK F prim fn.results hp.length s c2 v hp'))(hr:fn.rcv=none:=by rfl):sem F prim .fn f args hp=some (.ret v,hp'):=by
 rw[XW];unfold Y6;rw[hp0,hf]
 suffices hB:∃H,abody (sem F prim) (sloop F prim) fn args hp=some (.ret v,H)/\(if v.refsIn.all (fun q=>decide (q<hp.length))=true then H.take hp.length else H)=hp' by
  obtain⟨H,h1,h2⟩:=hB;simp only[hr,zm,hm,if_true,ZM,if_false,h1,h2]
 unfold abody;rw[Za (by simpa using hn),hmo];simp only;unfold W at h;split at h
 ·rename_i e st1 he;cases e with
  |normal=>
   obtain⟨-,hW⟩:=h;unfold W at hW;split at hW
   ·rename_i e2 st2 he2;have fin:∀p:Option PV,houD F prim fn.results hp.length s st1 v hp' (p.getD .niliface) st2->∀e:AExit,(e=.normal\/e=.ret->p=none)->(∀w,e=.panic w->p=some w)->(∀i,e≠.exit i)->e=e2->∃H,aleave (sem F prim) fn (apieces (sem F prim) (sloop F prim) hp.length [(.dfr s,c2)] fn.code ⟨params 0 args,hp⟩ [])=some (.ret v,H)/\(if v.refsIn.all (fun q=>decide (q<hp.length))=true then H.take hp.length else H)=hp':=by
     rintro p ⟨g,fs,cs,k1,r,H,k2,k3,k4⟩ e n1 n2 n3 rfl;refine⟨H,?_,k4⟩;have k5:atop (sem F prim) (.dfr s) st1 []=some (.normal,st1,[.func (.func g) fs cs]):=by simp[atop,k1]
     have ka:apieces (sem F prim) (sloop F prim) hp.length [(.dfr s,c2)] fn.code ⟨params 0 args,hp⟩ []=some (e,st2,[.func (.func g) fs cs]):=by
      simp only[apieces,he,k5,he2]
     have ku:∀p':Option PV,p'=p->aunwind (sem F prim) [.func (.func g) fs cs] p' st2.hp=some (none,H):=by
      rintro p' rfl;simp only[aunwind,yL,k2]
     rw[ka];cases e with
     |normal=>simp only[aleave,ku none (n1 (.inl rfl)).symm,aresult,k3]
     |ret=>simp only[aleave,ku none (n1 (.inr rfl)).symm,aresult,k3]
     |panic w=>simp only[aleave,ku (some w) (n2 w rfl).symm,aresult,k3]
     |exit i=>exact absurd rfl (n3 i)
    cases e2 with
    |normal=>exact fin none hW .normal (fun _=>rfl) (fun w e=>by cases e) (fun i e=>by cases e) rfl
    |ret=>exact fin none hW .ret (fun _=>rfl) (fun w e=>by cases e) (fun i e=>by cases e) rfl
    |panic w=>exact fin (some w) hW (.panic w) (fun e=>by rcases e with e|e <;> cases e) (fun w e=>by cases e;rfl) (fun i e=>by cases e) rfl
    |exit i=>exact hW.elim
   ·exact hW.elim
  |ret=>exact h.elim
  |exit i=>exact h.elim
  |panic v=>exact h.elim
 ·exact h.elim
theorem Nv(H:Heap)(a b:AV):sem (find tab) prim .dfr 60 [.pv none .niliface,a,b] H=some (.ret (.tuple []),H):=by
 refine qZ (t:=4) rfl rfl rfl rfl ?_;have h1:∀z,Xm 94 (some 4) z true [.pv none .niliface]=some (.tuple [z,O6 false]):=fun _=>rfl;have h2:∀z,Xm 96 (some 1) z true [.pv none .niliface]=some (.tuple [z,O6 false]):=fun _=>rfl;simp -dsimp -implicitDefEqProofs only[go_sem,seval,h1,h2,qY];simp
theorem Nw(b:Tm)(hp:Heap)(s0 v0:AV)(a1:AObj):sem (find tab) prim .dfr 60 [.pv none (xk b),.ptr hp.length 0,.ptr (hp.length+2) 0] (hp++[.box (some 4) s0,a1,.box none v0])=some (.ret (.tuple []),hp++[.box (some 4) (.pv (some 4) b.pv),a1,.box none (O5 8)]):=by
 refine qZ (t:=4) rfl rfl rfl rfl ?_;have h1:∀z,Xm 94 (some 4) z true [.pv none (xk b)]=some (.tuple [.pv (some 4) b.pv,O6 true]):=fun _=>rfl;simp -dsimp -implicitDefEqProofs only[go_sem,seval,h1,qY,Yn];rw[xL rfl];rfl
theorem Nx(e:Int)(hp:Heap)(s0 v0:AV)(a1:AObj):sem (find tab) prim .dfr 60 [.pv none (Q3 e),.ptr hp.length 0,.ptr (hp.length+2) 0] (hp++[.box (some 4) s0,a1,.box none v0])=some (.ret (.tuple []),hp++[.box (some 4) s0,a1,.box none (O5 e)]):=by
 refine qZ (t:=4) rfl rfl rfl rfl ?_;have h1:∀z,Xm 94 (some 4) z true [.pv none (Q3 e)]=some (.tuple [z,O6 false]):=fun _=>rfl;have h2:∀z,Xm 96 (some 1) z true [.pv none (Q3 e)]=some (.tuple [.pv (some 1) (.agg [(none,.int .i64 e)]),O6 true]):=fun _=>rfl;simp -dsimp -implicitDefEqProofs only[go_sem,seval,h1,h2,qY,Yn];rw[xL rfl];rfl
def x3(n:Nat):Heap:=[.box (some 4) (zg (n+1)),.arr (some 4) [] false,.box none (O5 0)]
theorem Ny(f:FuncId)(hp H:Heap)(r:Nat)(hH:H.length=hp.length)(h:S f [.ptr r 0] (hp++x3 hp.length)=some (.ret (.tuple []),H++x3 hp.length)):S 28 [.ptr r 0,.pv none (.func (.func f))] hp=some (.ret (.tuple [zg (hp.length+3),O5 0]),H++[.box (some 4) (zg (hp.length+3)),.arr (some 4) [] false,.box none (O5 0),.arr (some 4) [] false]):=by
 refine VG rfl rfl rfl rfl rfl ?_;unfold x3 at h;simp only[zg] at h;have hz0:=O2;simp -dsimp -implicitDefEqProofs only[go_sem,seval,h,hz0,Yn,z7 (Zc _),z7 (Zs _ _),VD,VE,VF,getN hH,YY hH,setN hH,yq hH,hH];refine⟨rfl,60,[],_,rfl,_,_,Nv _ _ _,?_,?_⟩
 ·simp[Yz,yE,Y8,Fr.look,aload,getN hH,YY hH,zg,XD,AV.shp,total,Sh.size]
 ·rw[Za (by simp[AV.refsIn,AV.refsIn.gol,AV.refsIn.go,zg])];simp[zg]
theorem Nz(f:FuncId)(hp:Heap)(r:Nat)(b:Tm)(h:S f [.ptr r 0] (hp++x3 hp.length)=some (.panic (xk b),hp++x3 hp.length)):S 28 [.ptr r 0,.pv none (.func (.func f))] hp=some (.ret (.tuple [b.av,O5 8]),hp):=by
 refine VG rfl rfl rfl rfl rfl ?_;have hd:=Nw b hp (zg (hp.length+1)) (O5 0) (.arr (some 4) [] false);unfold x3 at h;simp only[zg] at h;have hpan:∀A:Prop,panK true A=A:=fun _=>rfl;simp -dsimp -implicitDefEqProofs only[go_sem,seval,h,hpan,Yn,VD,VE,VF];refine⟨rfl,60,[],_,rfl,_,_,hd,?_,?_⟩
 ·simp[Yz,yE,Y8,Fr.look,aload,XD,AV.shp,Tm.av,yc,XG]
 ·rw[Zd (by simp[AV.refsIn,AV.refsIn.gol,AV.refsIn.go,Tm.av])];exact Z7
theorem NA(f:FuncId)(hp H:Heap)(r:Nat)(hH:H.length=hp.length)(e:Int)(h:S f [.ptr r 0] (hp++x3 hp.length)=some (.panic (Q3 e),H++x3 hp.length)):S 28 [.ptr r 0,.pv none (.func (.func f))] hp=some (.ret (.tuple [zg (hp.length+1),O5 e]),H++[.box (some 4) (zg (hp.length+1)),.arr (some 4) [] false,.box none (O5 e)]):=by
 refine VG rfl rfl rfl rfl rfl ?_;have hd:=Nx e H (zg (hp.length+1)) (O5 0) (.arr (some 4) [] false);rw[hH] at hd;unfold x3 at h;simp only[zg] at h;have hpan:∀A:Prop,panK true A=A:=fun _=>rfl;simp -dsimp -implicitDefEqProofs only[go_sem,seval,h,hpan,Yn,VD,VE,VF];refine⟨rfl,60,[],_,rfl,_,_,hd,?_,?_⟩
 ·simp[Yz,yE,Y8,Fr.look,aload,getN hH,YY hH,zg,XD,AV.shp,total,Sh.size]
 ·rw[Za (by simp[AV.refsIn,AV.refsIn.gol,AV.refsIn.go,zg])]
theorem VH(t:Tm)(hp:Heap)(hv:t.valid=true)(ho:t.occ=[]):S 26 [t.av] hp=some (.ret t.av,hp):=by
 refine Ya rfl rfl rfl (z8 [(some 4,t.pv)]) rfl ?_;have hsz:=yb hv;have h1:=fun hp=>Xj t hp (by omega);rw[hv] at h1;obtain⟨v,e,h2,h3,h4,h5,_,h6⟩:=Gr (.func (.func 53) [] [.ptr 4 0]) t [.box (some 4) (.pv (some 4) t.pv),.box (some 4) (.agg [(none,O5 0),(none,O5 0),(none,O7 []),(none,.sl (some 4) 2 0 0 0)]),.arr (some 4) [] false,.map none [],.box none (.map 3)] (valid_fits hv) (by omega) (.inr ⟨ho,rfl⟩);simp only[Tm.av,ZJ,ZP] at h1 h2;have hmk:∀(a0 a1 a2:AObj),Yb none 0 [a0,a1,a2,.map none [],.box none (.pv none .nilmap)] [.ptr 4 0,.map 3]=some (.undef,[a0,a1,a2,.map none [],.box none (.map 3)]):=fun _ _ _=>rfl;have hst:∀(a0 a2 a3 a4:AObj),Yb (some 4) 0 (a0::.box (some 4) (.agg [(none,O5 0),(none,O5 0),(none,O7 []),(none,.sl (some 4) 2 0 0 0)])::a2::a3::a4::e) [.ptr 1 0,v]=some (.undef,a0::.box (some 4) v::a2::a3::a4::e):=fun _ _ _ _=>by
  simp[Yb,astore,h3,h4,h5]
 have hfr:∀(a0 a1 a2 a3 a4:AObj),Am.frozen t.av v (a0::a1::a2::a3::a4::e):=fun a0 a1 a2 a3 a4=>by
  obtain⟨H2,k⟩:=h6 (a0::a1::a2::a3::a4::e) fun j hj=>by
   match j,hj with
   |j+5,_=>rfl
  exact Gs h3 h4 k
 simp -dsimp -implicitDefEqProofs only[go_sem,seval,Tm.av,h1,h2,hst,hmk,z7 (Ze _)];exact hfr _ _ _ _ _
def dynN:List UInt8:=[100,121,110,97,109,105,99]
def goT(T:Tm):Tm:=strT dynN [T]
def YG:AV:=.agg A1
theorem NB(d:Dbs)(hbd:BndD d)(g:Tm)(hz:g.size<1000000000)(h:okD d=false\/g.valid=false)(hp:Heap):
  S 9 [d.av,g.av] hp=some (.ret (.tuple [YG,.sl (some 4) (hp.length+6) 0 0 0,zg (hp.length+7),O5 1]),hp++[.box (some 2) (.pv (some 2) d.pv),.box (some 4) (.pv (some 4) g.pv),.box (some 2) YG,.arr (some 4) [] false,.box (some 4) (zg (hp.length+7)),.arr (some 4) [] false,.arr (some 4) [] false,.arr (some 4) [] false]):=by
 have h1:=fun hp=>X1 d hbd.1 hbd.2.1 hbd.2.2 hp;have h2:=fun hp=>Xj g hp hz;have hz0:=O2;have hz1:Yi A1 [] []=some YG:=rfl;have hnil:∀H:Heap,Yf A3 H=(A3,H):=fun _=>rfl;have hn0:=O1;simp only[Tm.av,Dbs.av] at h1 h2;refine yp rfl rfl rfl rfl ?_;have hg:okD d=false\/(okD d=true/\g.valid=false):=by
  cases e:okD d with
  |false=>exact .inl rfl
  |true=>exact .inr ⟨rfl,h.resolve_left (by rw[e];decide)⟩
 rcases hg with e|⟨e,e'⟩
 ·rw[e] at h1;simp -dsimp -implicitDefEqProofs only[go_sem,seval,Tm.av,Dbs.av,YG,h1,hz0,hz1,hnil,hn0,Yn,z7 (Zs _ _)];simp[Y8,Fr.look,aload,XD,yc,XG,YG,zg,AV.shp,total,Sh.size,tupO,xI,valK,AV.refsIn,AV.refsIn.gol,AV.refsIn.go]
 ·rw[e] at h1;rw[e'] at h2;simp -dsimp -implicitDefEqProofs only[go_sem,seval,Tm.av,Dbs.av,YG,h1,h2,hz0,hz1,hnil,hn0,Yn,z7 (Zs _ _)];simp[Y8,Fr.look,aload,XD,yc,XG,YG,zg,AV.shp,total,Sh.size,tupO,xI,valK,AV.refsIn,AV.refsIn.gol,AV.refsIn.go]
theorem VI{l:List Prc}:PV.beqs (Prc.pvs l) (Prc.pvs l)=true:=by
 have hs:∀s:Sto,PV.beq s.pv s.pv=true:=fun s=>by simp[Sto.pv,Cz.pv,PV.beq,PV.beqc,Q0]
 have hl:∀l:List Sto,PV.beqs (Sto.pvs l) (Sto.pvs l)=true:=fun l=>by
  induction l with
  |nil=>rfl
  |cons x r ih=>
   show(PV.beq x.pv x.pv && PV.beqs (Sto.pvs r) (Sto.pvs r))=true;rw[hs,ih];rfl
 induction l with
 |nil=>rfl
 |cons x r ih=>
  show(PV.beq x.pv x.pv && PV.beqs (Prc.pvs r) (Prc.pvs r))=true;rw[ih];simp[Prc.pv,PV.beq,PV.beqc,hl]
theorem Xk(d:Dbs):AObj.beq (.box (some 2) (.pv (some 2) d.pv)) (.box (some 2) (.pv (some 2) d.pv))=true:=by simp[AObj.beq,AV.beq,Dbs.pv,PV.beq,PV.beqc,VI]
theorem XI(s:Sh)(q:Nat):AObj.beq (.box s (zg q)) (.box s (zg q))=true:=by simp[AObj.beq,AV.beq,AV.beqc,zg,PV.beq]
theorem xO:AObj.beq (.box (some 2) YG) (.box (some 2) YG)=true:=by decide
def y9(d:Dbs)(g:Tm)(n:Nat):Heap:=[.box (some 2) (.pv (some 2) d.pv),.box (some 4) (.pv (some 4) g.pv),.box (some 2) YG,.arr (some 4) [] false,.box (some 4) (zg (n+5)),.arr (some 4) [] false,.map none (YX 8 prS prN prF),.box (some 7) (cB d g (slA (n+8) 0)),.arr (some 4) [] false]
theorem VJ(hp:Heap)(a b c d e f:AObj)(s:Sh)(Z:Heap):X5 [1,0] none (.pv none .nilfunc) true (hp++a::b::c::d::e::f::.map none (YX 8 prS prN prF)::Z) [.map (hp.length+6),.pv s (.agg [(none,.str dynN),(none,.int .i64 1)])]=some (.tuple [.pv none (.func (.func 56)),O6 true]):=by
 have e1:(hp++a::b::c::d::e::f::.map none (YX 8 prS prN prF)::Z)[hp.length+6]? =some (.map none (YX 8 prS prN prF)):=by rw[yc];rfl
 have e2:Yu [1,0] [(none,PV.str dynN),(none,.int .i64 1)] [(none,.str dynN),(none,.int .i64 1)]=some true:=by decide
 have e3:afindr [1,0] [(none,PV.str dynN),(none,.int .i64 1)] (YX 8 prS prN prF)=some (some (.func (.func 56))):=by rfl
 simp[X5,e1,e2,e3]
theorem VK{hp:Heap}{g:Tm}(a b:AObj)(Y Z:Heap):yM (hp++a::.box (some 4) (.pv (some 4) g.pv)::Y) (hp++b::.box (some 4) (.pv (some 4) g.pv)::Z) (.ptr (hp.length+1) 0)=true:=by
 have e1:∀(a:AObj) (Y:Heap),(hp++a::.box (some 4) (.pv (some 4) g.pv)::Y)[hp.length+1]? =some (.box (some 4) (.pv (some 4) g.pv)):=fun a Y=>by rw[yc];rfl
 simp[yM,e1,AObj.beq,AV.beq,Q0]
structure GoalOk(g T:Tm):Prop where
 v:g.valid=true
 c:g.occ=[]
 e:g=goT T
theorem NC(d:Dbs)(hv:okD d=true)(g T:Tm)(hg:GoalOk g T)(hp:Heap)(hb:Bq hp)(b:Tm)
  (hr:S 28 [.ptr (hp.length+7) 0,.pv none (.func (.func 56))] (hp++y9 d g hp.length)=some (.ret (.tuple [b.av,O5 8]),hp++y9 d g hp.length)):
  S 9 [d.av,g.av] hp=some (.ret (.tuple [YG,.sl (some 4) (hp.length+9) 0 0 0,b.av,O5 8]),hp++[.box (some 2) (.pv (some 2) d.pv),.box (some 4) (.pv (some 4) g.pv),.box (some 2) YG,.arr (some 4) [] false,.box (some 4) b.av,.arr (some 4) [] false,.map none (YX 8 prS prN prF),.box (some 7) (cB d g (slA (hp.length+8) 0)),.arr (some 4) [] false,.arr (some 4) [] false]):=by
 have hbd:=Q7 hv;have hz:=yb hg.v;have h1:=fun hp=>X1 d hbd.1 hbd.2.1 hbd.2.2 hp;have h2:=fun hp=>Xj g hp (by omega);have h3:=fun hp=>VH g hp hg.v hg.c;have h4:=fun hp=>QT g g hp (by omega) (by omega);have hsm:same g g=true:=by simp[same,hg.v,Tm.cmp_zero]
 rw[hsm] at h4;rw[hv] at h1;rw[hg.v] at h2;have hz0:=O2;have hz1:=O4;have hbk:∀(s:List UInt8) (k:Int),Yi A7 [0,1] [O7 s,O5 k]=some (.pv (some 2) (.agg [(none,.str s),(none,.int .i64 k)])):=fun _ _=>rfl;have hbr:Yi A6 [0,1] [.pv (some 2) d.pv,.pv (some 4) g.pv]=some (.agg [(some 2,.pv (some 2) d.pv),(some 4,.pv (some 4) g.pv),(none,.tsl (some 4) [])]):=rfl;have hnil:∀H:Heap,Yf A3 H=(A3,H):=fun _=>rfl;have hn0:=O1;have hstn:∀(H:Heap) (v:AV),y3 (some 2) hp.length H [.ptr (hp.length+2) 0,v,.ptr (hp.length+4) 0]=Yb (some 2) hp.length H [.ptr (hp.length+2) 0,v]:=fun H v=>by
  have e:Nat.beq (hp.length+4) (hp.length+2)=false:=by
   cases h:Nat.beq (hp.length+4) (hp.length+2) with
   |false=>rfl
   |true=>
    have:=zd h;omega
  simp[y3,Yb,xp,e]
 have hnm:g.name=dynN:=by rw[hg.e];rfl
 have hal:((g.args.length:Nat):Int)=1:=by rw[hg.e];rfl
 have hk3:=Zn (show g.kind=3 by rw[hg.e];rfl);have hlk:=fun a b c d e f s Z=>VJ hp a b c d e f s Z;have hzb:=xO;have hzg:=fun q=>XI (some 4) q;simp only[Tm.av,Dbs.av,y9,cB,slA,YG,zg] at h1 h2 h3 h4 hr hzb hzg;refine yp rfl rfl rfl rfl ?_;simp -dsimp -implicitDefEqProofs only[go_sem,seval,xi,Tm.av,Dbs.av,h1,h2,h3,h4,hr,Yt,Yk,Yd,Tm.pvs_len,hnm,hal,hk3,hlk,Vt,hz0,hz1,hbk,hbr,hnil,hn0,hstn,Q4,Q5,xL rfl,jx hb,ZW,Jb,Jc,zJ,zB,zI,VK,yt,Xk,hzb,hzg,YA,Vb,Yn,z7 (Zs _ _)];have hf:∀k,¬hp.length+k<hp.length:=fun k=>by omega
 simp[Y8,Fr.look,aload,XD,yc,XG,YG,zg,cB,Tm.av,Dbs.av,hf,AV.shp,total,Sh.size,tupO,xI,valK,AV.refsIn,AV.refsIn.gol,AV.refsIn.go]
theorem ND(d d2:Dbs)(hv:okD d=true)(g T:Tm)(hg:GoalOk g T)(hp:Heap)(hb:Bq hp)(e:Int)(he:¬e=0)
  (hr:S 28 [.ptr (hp.length+7) 0,.pv none (.func (.func 56))] (hp++y9 d g hp.length)=some (.ret (.tuple [zg (hp.length+10),O5 e]),hp++(y9 d g hp.length).set 7 (.box (some 7) (cB d2 g (slA (hp.length+8) 0)))++[.box (some 4) (zg (hp.length+10)),.arr (some 4) [] false,.box none (O5 e)])):
  S 9 [d.av,g.av] hp=some (.ret (.tuple [YG,.sl (some 4) (hp.length+12) 0 0 0,zg (hp.length+10),O5 e]),hp++[.box (some 2) (.pv (some 2) d.pv),.box (some 4) (.pv (some 4) g.pv),.box (some 2) YG,.arr (some 4) [] false,.box (some 4) (zg (hp.length+10)),.arr (some 4) [] false,.map none (YX 8 prS prN prF),.box (some 7) (cB d2 g (slA (hp.length+8) 0)),.arr (some 4) [] false,.box (some 4) (zg (hp.length+10)),.arr (some 4) [] false,.box none (O5 e),.arr (some 4) [] false]):=by
 have hbd:=Q7 hv;have hz:=yb hg.v;have h1:=fun hp=>X1 d hbd.1 hbd.2.1 hbd.2.2 hp;have h2:=fun hp=>Xj g hp (by omega);have h3:=fun hp=>VH g hp hg.v hg.c;have h4:=fun hp=>QT g g hp (by omega) (by omega);have hsm:same g g=true:=by simp[same,hg.v,Tm.cmp_zero]
 rw[hsm] at h4;rw[hv] at h1;rw[hg.v] at h2;have hz0:=O2;have hz1:=O4;have hbk:∀(s:List UInt8) (k:Int),Yi A7 [0,1] [O7 s,O5 k]=some (.pv (some 2) (.agg [(none,.str s),(none,.int .i64 k)])):=fun _ _=>rfl;have hbr:Yi A6 [0,1] [.pv (some 2) d.pv,.pv (some 4) g.pv]=some (.agg [(some 2,.pv (some 2) d.pv),(some 4,.pv (some 4) g.pv),(none,.tsl (some 4) [])]):=rfl;have hnil:∀H:Heap,Yf A3 H=(A3,H):=fun _=>rfl;have hn0:=O1;have hstn:∀(H:Heap) (v:AV),y3 (some 2) hp.length H [.ptr (hp.length+2) 0,v,.ptr (hp.length+4) 0]=Yb (some 2) hp.length H [.ptr (hp.length+2) 0,v]:=fun H v=>by
  have e:Nat.beq (hp.length+4) (hp.length+2)=false:=by
   cases h:Nat.beq (hp.length+4) (hp.length+2) with
   |false=>rfl
   |true=>
    have:=zd h;omega
  simp[y3,Yb,xp,e]
 have hnm:g.name=dynN:=by rw[hg.e];rfl
 have hal:((g.args.length:Nat):Int)=1:=by rw[hg.e];rfl
 have hk3:=Zn (show g.kind=3 by rw[hg.e];rfl);have hlk:=fun a b c d e f s Z=>VJ hp a b c d e f s Z;have hzb:=xO;have hzg:=fun q=>XI (some 4) q;simp only[Tm.av,Dbs.av,y9,cB,slA,YG,zg,List.set_cons_succ,List.set_cons_zero,Zw,ZJ,ZP] at h1 h2 h3 h4 hr hzb hzg;refine yp rfl rfl rfl rfl ?_;simp -dsimp -implicitDefEqProofs only[go_sem,seval,xi,Tm.av,Dbs.av,h1,h2,h3,h4,hr,he,Yt,Yk,Yd,Tm.pvs_len,hnm,hal,hk3,hlk,Vt,hz0,hz1,hbk,hbr,hnil,hn0,hstn,Q4,Q5,xL rfl,jx hb,ZW,Jb,Jc,zJ,zB,zI,VK,yt,Xk,hzb,hzg,YA,Vb,Yn,z7 (Zs _ _)];have hf:∀k,¬hp.length+k<hp.length:=fun k=>by omega
 simp[Y8,Fr.look,aload,XD,yc,XG,YG,zg,cB,Tm.av,Dbs.av,hf,AV.shp,total,Sh.size,tupO,xI,valK,AV.refsIn,AV.refsIn.gol,AV.refsIn.go]
theorem NE(d d2:Dbs)(hv:okD d=true)(g T:Tm)(hg:GoalOk g T)(hp:Heap)(hb:Bq hp)(hcd:∀hp,S 30 [d2.av] hp=some (.ret d2.av,hp))
  (hr:S 28 [.ptr (hp.length+7) 0,.pv none (.func (.func 56))] (hp++y9 d g hp.length)=some (.ret (.tuple [zg (hp.length+12),O5 0]),hp++(y9 d g hp.length).set 7 (.box (some 7) (cB d2 g (.tsl (some 4) [g.pv])))++[.box (some 4) (zg (hp.length+12)),.arr (some 4) [] false,.box none (O5 0),.arr (some 4) [] false])):
  S 9 [d.av,g.av] hp=some (.ret (.tuple [d2.av,.sl (some 4) (hp.length+3) 1 0 1,zg (hp.length+13),O5 0]),hp++[.box (some 2) (.pv (some 2) d.pv),.box (some 4) (.pv (some 4) g.pv),.box (some 2) d2.av,.arr (some 4) [g.pv] false,.box (some 4) (zg (hp.length+13)),.arr (some 4) [] false,.map none (YX 8 prS prN prF),.box (some 7) (cB d2 g (.tsl (some 4) [g.pv])),.arr (some 4) [] false,.box (some 4) (zg (hp.length+12)),.arr (some 4) [] false,.box none (O5 0),.arr (some 4) [] false,.arr (some 4) [] false]):=by
 have hbd:=Q7 hv;have hz:=yb hg.v;have h1:=fun hp=>X1 d hbd.1 hbd.2.1 hbd.2.2 hp;have h2:=fun hp=>Xj g hp (by omega);have h3:=fun hp=>VH g hp hg.v hg.c;have h4:=fun hp=>QT g g hp (by omega) (by omega);have hsm:same g g=true:=by simp[same,hg.v,Tm.cmp_zero]
 rw[hsm] at h4;rw[hv] at h1;rw[hg.v] at h2;have hz0:=O2;have hz1:=O4;have hbk:∀(s:List UInt8) (k:Int),Yi A7 [0,1] [O7 s,O5 k]=some (.pv (some 2) (.agg [(none,.str s),(none,.int .i64 k)])):=fun _ _=>rfl;have hbr:Yi A6 [0,1] [.pv (some 2) d.pv,.pv (some 4) g.pv]=some (.agg [(some 2,.pv (some 2) d.pv),(some 4,.pv (some 4) g.pv),(none,.tsl (some 4) [])]):=rfl;have hnil:∀H:Heap,Yf A3 H=(A3,H):=fun _=>rfl;have hn0:=O1;have hstn:∀(H:Heap) (v:AV),y3 (some 2) hp.length H [.ptr (hp.length+2) 0,v,.ptr (hp.length+4) 0]=Yb (some 2) hp.length H [.ptr (hp.length+2) 0,v]:=fun H v=>by
  have e:Nat.beq (hp.length+4) (hp.length+2)=false:=by
   cases h:Nat.beq (hp.length+4) (hp.length+2) with
   |false=>rfl
   |true=>
    have:=zd h;omega
  simp[y3,Yb,xp,e]
 have hnm:g.name=dynN:=by rw[hg.e];rfl
 have hal:((g.args.length:Nat):Int)=1:=by rw[hg.e];rfl
 have hk3:=Zn (show g.kind=3 by rw[hg.e];rfl);have hlk:=fun a b c d e f s Z=>VJ hp a b c d e f s Z;have hzb:=xO;have hzg:=fun q=>XI (some 4) q;have h8:=fun hp=>XZ g hp hg.v (by omega);simp only[Tm.av,Dbs.av,y9,cB,slA,YG,zg,List.set_cons_succ,List.set_cons_zero,Zw,ZJ,ZP] at h1 h2 h3 h4 hr hzb hzg h8 hcd;refine yp rfl rfl rfl rfl ?_;simp -dsimp -implicitDefEqProofs only[go_sem,seval,xi,Tm.av,Dbs.av,h1,h2,h3,h4,hr,h8,hcd,Yt,Yk,Yd,Tm.pvs_len,hnm,hal,hk3,hlk,Vt,hz0,hz1,hbk,hbr,hnil,hn0,hstn,Q4,Q5,xL rfl,jx hb,ZW,Jb,Jc,zJ,zB,zI,VK,yt,Xk,hzb,hzg,YA,Vb,Yn,z7 (Zs _ _)];have hia:Yq (some 4) [.tsl (some 4) [g.pv],O5 0]=some (.iptr (some 4) g.pv 0):=rfl;have happ:∀(a b c:AObj) (Z:Heap),YK (some 4) (hp++a::b::c::.arr (some 4) [] false::Z) [.sl (some 4) (hp.length+3) 0 0 0,.tsl (some 4) [g.pv]]=some (.sl (some 4) (hp.length+3) 1 0 1,hp++a::b::c::.arr (some 4) [g.pv] false::Z):=fun a b c Z=>by
  have g1:(hp++a::b::c::.arr (some 4) [] false::Z)[hp.length+3]? =some (.arr (some 4) [] false):=by rw[yc];rfl
  have hl:(1:Nat)<=lim:=by unfold lim;omega
  simp[YK,aappend,elems,g1,hl]
 refine Yy (α:=Unit) 1 (fun _ _=>True) (fun i _=>⟨[(4,.ptr (hp.length+2) 0),(5,.sl (some 4) (hp.length+3) i 0 i),(6,.ptr (hp.length+4) 0),(10,.ptr (hp.length+7) 0),(68,.tsl (some 4) [g.pv]),(69,O5 1),(70,O5 i)],hp++[.box (some 2) (.pv (some 2) d.pv),.box (some 4) (.pv (some 4) g.pv),.box (some 2) YG,.arr (some 4) (List.replicate i g.pv) false,.box (some 4) (zg (hp.length+12)),.arr (some 4) [] false,.map none (YX 8 prS prN prF),.box (some 7) (.agg [(some 2,.pv (some 2) d2.pv),(some 4,.pv (some 4) g.pv),(none,.tsl (some 4) [g.pv])]),.arr (some 4) [] false,.box (some 4) (zg (hp.length+12)),.arr (some 4) [] false,.box none (O5 0),.arr (some 4) [] false]⟩) () ⟨trivial,rfl⟩ ?_ ?_
 ·rintro i - h -;obtain rfl:i=0:=by omega
  have w1:IntKind.i64.wrap 1=1:=by decide
  simp -dsimp -implicitDefEqProofs only[go_sem,seval,Tm.av,YG,zg,List.replicate_zero,List.replicate_succ,hia,happ,h2,h8,w1,Yn,z7 (Zs _ _)];refine⟨(),?_⟩;rw[Qq 13 rfl rfl (by simp[AObj.refs,AV.refsIn,AV.refsIn.gol,AV.refsIn.go]) (by simp[AV.refsIn,AV.refsIn.gol])];rfl
 ·rintro - -;simp -dsimp -implicitDefEqProofs only[go_sem,seval,xi,Tm.av,YG,zg,List.replicate_zero,List.replicate_succ,hcd,hz0,Yn,z7 (Zs _ _)];have hf:∀k,¬hp.length+k<hp.length:=fun k=>by omega
  simp[Y8,Fr.look,aload,XD,yc,XG,YG,zg,cB,Tm.av,Dbs.av,hf,AV.shp,total,Sh.size,tupO,xI,valK,AV.refsIn,AV.refsIn.gol,AV.refsIn.go]
def pK(p:Prc)(q m:Nat):AV:=.agg [(none,O7 p.name),(none,O5 p.ar),(none,O6 p.dyn),(none,.sl (some 9) q m 0 m)]
theorem NF{Γ:Oracle}{b:Nat}{vs:List AV}{hp:Heap}{K:AV->Heap->Prop}{Kp:PV->Heap->Prop}(sh:Sh):opK (aOp Γ b (.bslov sh) vs hp) K Kp=YL (yV sh hp vs) K:=by
 show opK (match yV sh hp vs with|some (v,hp')=>some (OpRes.val v hp')|none=>none) K Kp=_;cases yV sh hp vs with
 |none=>rfl
 |some r=>cases r;rfl
theorem NG{Γ:Oracle}{b:Nat}{vs:List AV}{hp:Heap}{K:AV->Heap->Prop}{Kp:PV->Heap->Prop}(sh:Sh):opK (aOp Γ b (.appendv sh) vs hp) K Kp=YL (Xu sh b hp vs) K:=by
 show opK (match Xu sh b hp vs with|some (v,hp')=>some (OpRes.val v hp')|none=>none) K Kp=_;cases Xu sh b hp vs with
 |none=>rfl
 |some r=>cases r;rfl
def frC(d:Dbs)(i:Nat):Fr:=[(2,.ptr 1 0),(3,.ptr 2 0),(13,.pv none (.sl (some 4) (Prc.pvs d.procs))),(14,O5 d.procs.length),(15,O5 i)]
def o4(p:Prc)(n:Nat):Heap:=[.box (some 4) (pK p (n+2) p.cls.length),.arr (some 9) [] false,.arr (some 9) (Sto.pvs p.cls) false,.arv (some 4) [pK p (n+2) p.cls.length]]
theorem NH{K Y X:Heap}{n m:Nat}{fr:Fr}(hK:K.length=n)(hY:Y.length=m)(h1:(K++Y).all (fun o=>o.refs.all (fun q=>decide (q<n+m)))=true)(hf:fr.all (fun x=>x.2.refsIn.all (fun q=>decide (q<n+m)))=true):collect (n+m) 0 fr (K++(Y++X))=K++Y:=by
 have ht:(K++(Y++X)).take (n+m)=K++Y:=by rw[xL hK,Mi hY]
 have:=Qq (n:=n+m) (b:=0) (n+m) (fr:=fr) (base:=[]) (xs:=K++(Y++X)) rfl (by omega) (by rw[ht];exact h1) hf;rw[ht] at this;exact this
set_option maxRecDepth 20000 in
theorem gD(d:Dbs)(hl:d.procs.length<1000000)(i:Nat)(hi:i<d.procs.length)(p:Prc)(hpp:d.procs[i]? =some p)(hpl:p.cls.length<1000000)(hc:okCl p)(K:Heap)(n:Nat)(hKl:K.length=n)(h3n:3<=n)(hK:K.all (fun o=>o.refs.all (fun q=>decide (q<n)))=true)(sv sv':AV)(hsp:sv'.plain=true)(hss:sv'.shp=none)(hso:∀H,sv'.own H=(sv',H))(K1 W1:Heap)(hK1:K1.length=n)
  (h2:K[2]? =some (.box (some 2) (.agg [(none,O5 d.next),(none,sv)])))(h21:K1[2]? =some (.box (some 2) (.agg [(none,O5 d.next),(none,sv)])))
  (hap:Xu (some 4) 0 (K++o4 p n) [sv,.slv (some 4) (n+3) 1 0 1]=some (sv',K1++(o4 p n++W1)))(hup:AV.upd deep (.agg [(none,O5 d.next),(none,sv)]) 1 none sv'=some (.agg [(none,O5 d.next),(none,sv')]))
  (R:St->Prop)(Q:AExit->St->Prop)(hR:R ⟨[(2,.ptr 1 0),(3,.ptr 2 0),(13,.pv none (.sl (some 4) (Prc.pvs d.procs))),(14,O5 d.procs.length),(15,O5 (i+1:Nat))],K1.set 2 (.box (some 2) (.agg [(none,O5 d.next),(none,sv')]))++(o4 p n++W1)⟩):
  W (sem (find tab) prim) (sloop (find tab) prim) 0 c30b20 ⟨frC d i,K⟩ (seqK R Q):=by
 have hcc:(i:Int)<(d.procs.length:Int):=by omega
 have w1:=O0 i (by omega)
 have hst7:∀a1:AObj,Yb none 0 (K++[.box (some 4) (.pv (some 4) p.pv),a1]) [.ptr n 3,.tsl (some 9) []]=some (.undef,K++[.box (some 4) (pK p (n+2) 0),a1,.arr (some 9) [] false]):=fun a1=>by
  have e:AV.upd deep (.pv (some 4) p.pv) 3 none (.sl (some 9) (n+2) 0 0 0)=some (pK p (n+2) 0):=rfl;simp[Yb,astore,YY hKl,yq hKl,hKl,AV.plain,AV.shp,AV.own,xJ,e]
 have hpt:∀q m:Nat,AV.part deep (pK p q m) 3 none=some (.sl (some 9) q m 0 m):=fun _ _=>rfl;have hpt1:AV.part deep (.agg [(none,O5 d.next),(none,sv)]) 1 none=some sv:=rfl;have hst17:∀Z:Heap,Yb none 0 (K1++Z) [.ptr 2 1,sv']=some (.undef,K1.set 2 (.box (some 2) (.agg [(none,O5 d.next),(none,sv')]))++Z):=fun Z=>by
  have e:(K1++Z)[2]? =some (.box (some 2) (.agg [(none,O5 d.next),(none,sv)])):=by rw[yY (by omega),h21]
  have e2:(K1++Z).set 2 (.box (some 2) (.agg [(none,O5 d.next),(none,sv')]))=K1.set 2 (.box (some 2) (.agg [(none,O5 d.next),(none,sv')]))++Z:=zV _ _ (by omega);simp[Yb,astore,e,hsp,hss,hso,hup,e2]
 have hK3:∀(m:Nat) (es:List PV),(K++([.box (some 4) (pK p (n+2) m),.arr (some 9) [] false,.arr (some 9) es false]:Heap)).all (fun o=>o.refs.all (fun q=>decide (q<n+3)))=true:=fun m es=>by
  rw[List.all_append,Zg];refine⟨Zm.2 fun o ho=>Zm.2 fun q hq=> ?_,by simp[AObj.refs,pK,AV.refsIn,AV.refsIn.go]⟩;have:=Zm.1 (Zm.1 hK o ho) q hq;simp only[Zr] at this ⊢;omega
 unfold frC;simp -dsimp -implicitDefEqProofs only[go_sem,seval,hcc,w1,YB,Prc.pvs_len,yd,Sto.pvs_len,Yc (Prc.pvs_get hpp),hst7,hKl,Yn,getN hKl,YY hKl,setN hKl,yq hKl];refine Yy (α:=Unit) p.cls.length (fun _ _=>True) (fun k _=>⟨[(2,.ptr 1 0),(3,.ptr 2 0),(5,.ptr n 0),(13,.pv none (.sl (some 4) (Prc.pvs d.procs))),(14,O5 d.procs.length),(15,O5 i),(22,.pv none (.sl (some 9) (Sto.pvs p.cls))),(23,O5 p.cls.length),(24,O5 k)],K++[.box (some 4) (pK p (n+2) k),.arr (some 9) [] false,.arr (some 9) (Sto.pvs (p.cls.take k)) false]⟩) () ⟨trivial,rfl⟩ ?_ ?_
 ·rintro k - hk -;have hck:(k:Int)<(p.cls.length:Int):=by omega
  have w2:=O0 k (by omega)
  obtain⟨x,hx⟩:∃x,p.cls[k]? =some x:=⟨_,Zf hk⟩;obtain⟨vh,vb⟩:=hc x (Zj hx);have h5:=XZ x.cl.head [] vh (fit9 vh);have h6:=XZ x.cl.body [] vb (fit9 vb);have q0:PV.part deep x.pv 0 none=some (.int .i64 x.id):=rfl;have q1:PV.part deep x.pv 1 (some 4)=some x.cl.head.pv:=rfl;have q5:PV.part deep x.pv 5 (some 4)=some x.cl.body.pv:=rfl;have hb40:∀a b:PV,Yi A4 [0,1] [.pv (some 4) a,.pv (some 4) b]=some (.pv (some 8) (.agg [(some 4,a),(some 4,b)])):=fun _ _=>rfl;have hb41:Yi [(none,O5 0),(some 8,.agg A4)] [0,1] [O5 x.id,.pv (some 8) (.agg [(some 4,x.cl.head.pv),(some 4,x.cl.body.pv)])]=some (.pv (some 9) x.pv):=rfl;have hlim:k+1<=lim:=by unfold lim;omega
  have htl:(Sto.pvs (p.cls.take k)).length=k:=by rw[Sto.pvs_len,Zh];omega
  have htk:Sto.pvs (p.cls.take k)++[x.pv]=Sto.pvs (p.cls.take (k+1)):=by rw[zO,hx];simp[Sto.pvs]
  have happ:∀(a b:AObj) (Z:Heap),YK (some 9) (K++a::b::.arr (some 9) (Sto.pvs (p.cls.take k)) false::Z) [.sl (some 9) (n+2) k 0 k,.tsl (some 9) [x.pv]]=some (.sl (some 9) (n+2) (k+1) 0 (k+1),K++a::b::.arr (some 9) (Sto.pvs (p.cls.take (k+1))) false::Z):=fun a b Z=>by
   rw[<-htk];simp[YK,aappend,elems,getN hKl,setN hKl,htl,hlim]
  have hst12:∀Z:Heap,Yb none 0 (K++.box (some 4) (pK p (n+2) k)::Z) [.ptr n 3,.sl (some 9) (n+2) (k+1) 0 (k+1)]=some (.undef,K++.box (some 4) (pK p (n+2) (k+1))::Z):=fun Z=>by
   have e:AV.upd deep (pK p (n+2) k) 3 none (.sl (some 9) (n+2) (k+1) 0 (k+1))=some (pK p (n+2) (k+1)):=rfl;simp[Yb,astore,YY hKl,yq hKl,AV.plain,AV.shp,AV.own,e]
  generalize Sto.pvs (p.cls.take k)=es at*;simp only[Tm.av] at h5 h6;simp -dsimp -implicitDefEqProofs only[go_sem,seval,hck,w2,Sto.pvs_len,Yc (Sto.pvs_get hx),hpt,q0,q1,q5,h5,h6,hb40,hb41,happ,hst12,hKl,Yn,getN hKl,YY hKl,setN hKl,yq hKl];refine⟨(),?_⟩;have hcl:=NH (fr:=[(2,.ptr 1 0),(3,.ptr 2 0),(5,.ptr n 0),(13,.pv none (.sl (some 4) (Prc.pvs d.procs))),(14,O5 d.procs.length),(15,O5 i),(22,.pv none (.sl (some 9) (Sto.pvs p.cls))),(23,O5 p.cls.length),(24,O5 (k+1:Nat))]) (K:=K) (Y:=[.box (some 4) (pK p (n+2) (k+1)),.arr (some 9) [] false,.arr (some 9) (Sto.pvs (p.cls.take (k+1))) false]) (X:=[.box (some 9) (.pv (some 9) x.pv)]) hKl (m:=3) rfl (hK3 (k+1) _) (by simp[AV.refsIn]);simp only[ZJ,ZP] at hcl;rw[hcl]
 ·rintro - -;have hck:¬(p.cls.length:Int)<(p.cls.length:Int):=by omega
  rw[ZS];have hbs:yV (some 4) (K++[.box (some 4) (pK p (n+2) p.cls.length),.arr (some 9) [] false,.arr (some 9) (Sto.pvs p.cls) false]) [pK p (n+2) p.cls.length]=some (.slv (some 4) (n+3) 1 0 1,K++o4 p n):=by
   have e1:(pK p (n+2) p.cls.length).plain=true:=rfl;have e2:(pK p (n+2) p.cls.length).shp=some 4:=rfl;simp[yV,e1,e2,xJ,hKl,o4]
  have e2:∀Z:Heap,(K++Z)[2]? =some (.box (some 2) (.agg [(none,O5 d.next),(none,sv)])):=fun Z=>by rw[yY (by omega),h2]
  simp -dsimp -implicitDefEqProofs only[go_sem,seval,hck,w1,Sto.pvs_len,hpt1,e2,hbs,hap,hst17,NF,NG,hKl,getN hKl,YY hKl];exact hR
theorem gol_mem{q:Nat}:∀{l:List AV},q∈AV.refsIn.gol l↔∃v∈l,q∈v.refsIn
 |[]=>by simp[AV.refsIn.gol]
 |x::r=>by
  have ih:=gol_mem (q:=q) (l:=r);simp[AV.refsIn.gol,ih]
def CdI(d:Dbs)(i:Nat)(H:Heap):Prop:=(i=0/\H=[.box (some 2) (.pv (some 2) d.pv),.box (some 2) YG,.box (some 2) (.agg [(none,O5 d.next),(none,.nilv (some 4))])])\/
 (0<i/\8<=H.length/\H.all (fun o=>o.refs.all (fun q=>decide (q<H.length)))=true/\H[0]? =some (.box (some 2) (.pv (some 2) d.pv))/\H[1]? =some (.box (some 2) YG)/\H[2]? =some (.box (some 2) (.agg [(none,O5 d.next),(none,.slv (some 4) 7 i 0 i)]))/\
  ∃els,H[7]? =some (.arv (some 4) els)/\els.length=i/\∀(j:Nat) (p:Prc) (v:AV),(d.procs.take i)[j]? =some p->els[j]? =some v->∃q,v=pA p q/\H[q]? =some (.arr (some 9) (Sto.pvs p.cls) false))
set_option maxRecDepth 20000 in
theorem NI(d:Dbs)(hl:d.procs.length<1000000)(hcl:∀p∈d.procs,p.cls.length<1000000/\okCl p)(hp:Heap):S 30 [d.av] hp=some (.ret d.av,hp):=by
 refine Ya rfl rfl rfl (z8 [(some 2,d.pv)]) rfl ?_;have hnil:∀H:Heap,Yf A3 H=(A3,H):=fun _=>rfl;have hb11:∀k:Int,Yi A1 [0] [O5 k]=some (.agg [(none,O5 k),(none,.nilv (some 4))]):=fun _=>rfl;simp -dsimp -implicitDefEqProofs only[go_sem,seval,Dbs.av,YH,YB,Prc.pvs_len,hnil,hb11,Yn,z7 (Ze _)];refine Yy (α:=Heap) d.procs.length (fun i H=>CdI d i H) (fun i H=>⟨frC d i,H⟩) [.box (some 2) (.pv (some 2) d.pv),.box (some 2) YG,.box (some 2) (.agg [(none,O5 d.next),(none,.nilv (some 4))])] ⟨.inl ⟨rfl,rfl⟩,rfl⟩ ?_ ?_
 ·rintro i H hi hI;obtain⟨p,hpp⟩:∃p,d.procs[i]? =some p:=⟨_,Zf hi⟩;obtain⟨hpl,hc⟩:=hcl p (Zj hpp);have htk:d.procs.take (i+1)=d.procs.take i++[p]:=by rw[zO,hpp];rfl
  rcases hI with⟨rfl,rfl⟩|⟨h0,h8,hrf,g0,g1,g2,els,g7,hel,hels⟩
  ·have hap:Xu (some 4) 0 ([.box (some 2) (.pv (some 2) d.pv),.box (some 2) YG,.box (some 2) (.agg [(none,O5 d.next),(none,.nilv (some 4))])]++o4 p 3) [.nilv (some 4),.slv (some 4) (3+3) 1 0 1]=some (.slv (some 4) 7 1 0 1,[.box (some 2) (.pv (some 2) d.pv),.box (some 2) YG,.box (some 2) (.agg [(none,O5 d.next),(none,.nilv (some 4))])]++(o4 p 3++[.arv (some 4) [pK p 5 p.cls.length]])):=by
    have hlim:1<=lim:=by unfold lim;omega
    simp[Xu,aappendv,elemsv,o4,xJ,hlim]
   refine gD d hl 0 hi p hpp hpl hc _ 3 rfl (by omega) (by simp[AObj.refs,AV.refsIn,AV.refsIn.go,YG]) (.nilv (some 4)) (.slv (some 4) 7 1 0 1) rfl rfl (fun _=>rfl) _ _ rfl rfl rfl hap rfl _ _ ?_;have hk:∀fr:Fr,collect 3 0 fr [.box (some 2) (.pv (some 2) d.pv),.box (some 2) YG,.box (some 2) (.agg [(none,O5 d.next),(none,.slv (some 4) 7 1 0 1)]),.box (some 4) (pK p (3+2) p.cls.length),.arr (some 9) [] false,.arr (some 9) (Sto.pvs p.cls) false,.arv (some 4) [pK p (3+2) p.cls.length],.arv (some 4) [pK p 5 p.cls.length]]=[.box (some 2) (.pv (some 2) d.pv),.box (some 2) YG,.box (some 2) (.agg [(none,O5 d.next),(none,.slv (some 4) 7 1 0 1)]),.box (some 4) (pK p (3+2) p.cls.length),.arr (some 9) [] false,.arr (some 9) (Sto.pvs p.cls) false,.arv (some 4) [pK p (3+2) p.cls.length],.arv (some 4) [pK p 5 p.cls.length]]:=fun fr=>Vl (k:=2) (by omega) (by omega) rfl rfl;refine⟨_,.inr ⟨by omega,?_,?_,?_,?_,?_,[pK p 5 p.cls.length],?_,rfl,?_⟩,congrArg (St.mk (frC d 1)) (hk _)⟩
   ·simp
   ·simp[AObj.refs,AV.refsIn,AV.refsIn.go,AV.refsIn.gol,YG,pK]
   ·rfl
   ·rfl
   ·rfl
   ·rfl
   ·intro j p' v hp' hv
    match j,hv with
    |0,hv=>
     rw[htk] at hp';simp at hp' hv;subst hp' hv;exact⟨5,rfl,rfl⟩
  ·have h7:7<H.length:=by omega
   obtain⟨n,hn⟩:∃n,H.length=n:=⟨_,rfl⟩;rw[hn] at hrf h7 h8;have hgol:∀q∈AV.refsIn.gol els,q<n:=fun q hq=>by
    have:=Zm.1 (Zm.1 hrf _ (Zj g7)) q hq;simpa using this
   have hlim:i+1<=lim:=by unfold lim;omega
   have e1:(H++o4 p n)[n+3]? =some (.arv (some 4) [pK p (n+2) p.cls.length]):=by rw[getN hn];rfl
   have e2:(H++o4 p n)[7]? =some (.arv (some 4) els):=by rw[yY (by omega),g7]
   have hap:Xu (some 4) 0 (H++o4 p n) [.slv (some 4) 7 i 0 i,.slv (some 4) (n+3) 1 0 1]=some (.slv (some 4) 7 (i+1) 0 (i+1),H.set 7 (.arv (some 4) (els++[pK p (n+2) p.cls.length]))++(o4 p n++[])):=by
    have e3:(H++o4 p n).set 7 (.arv (some 4) (els++[pK p (n+2) p.cls.length]))=H.set 7 (.arv (some 4) (els++[pK p (n+2) p.cls.length]))++o4 p n:=zV _ _ (by omega);simp[Xu,aappendv,elemsv,e1,e2,hel,xJ,xP,hlim,e3]
   have g21:(H.set 7 (.arv (some 4) (els++[pK p (n+2) p.cls.length])))[2]? =some (.box (some 2) (.agg [(none,O5 d.next),(none,.slv (some 4) 7 i 0 i)])):=by rw[Zo (by omega),g2]
   refine gD d hl i hi p hpp hpl hc H n hn (by omega) hrf (.slv (some 4) 7 i 0 i) (.slv (some 4) 7 (i+1) 0 (i+1)) rfl rfl (fun _=>rfl) _ _ (by rw[List.length_set,hn]) g2 g21 hap rfl _ _ ?_;obtain⟨H',hH'⟩:∃H',H'=(H.set 7 (.arv (some 4) (els++[pK p (n+2) p.cls.length]))).set 2 (.box (some 2) (.agg [(none,O5 d.next),(none,.slv (some 4) 7 (i+1) 0 (i+1))]))++(o4 p n++[]):=⟨_,rfl⟩;rw[<-hH'];have hl':H'.length=n+4:=by
    rw[hH'];simp[o4,hn]
   have hg:∀k,k<n->k≠2->k≠7->H'[k]? =H[k]? :=fun k hk h2 h7=>by
    rw[hH',yY (by simp;omega),Zo (by omega),Zo (by omega)]
   have hg2:H'[2]? =some (.box (some 2) (.agg [(none,O5 d.next),(none,.slv (some 4) 7 (i+1) 0 (i+1))])):=by
    rw[hH',yY (by simp;omega),Zx (by simp;omega)]
   have hg7:H'[7]? =some (.arv (some 4) (els++[pK p (n+2) p.cls.length])):=by
    rw[hH',yY (by simp;omega),Zo (by omega),Zx (by omega)]
   have hgn:H'[n+2]? =some (.arr (some 9) (Sto.pvs p.cls) false):=by
    rw[hH',getN (by simp[hn])];rfl
   have hpr:∀q,q∈(pK p (n+2) p.cls.length).refsIn->q=n+2:=fun q hq=>by simpa[pK,AV.refsIn,AV.refsIn.go] using hq
   have hk:∀fr:Fr,collect 3 0 fr H'=H':=fun fr=>Vl (k:=2) (by omega) (by omega) hg2 rfl;refine⟨H',.inr ⟨by omega,by omega,?_,?_,?_,hg2,_,hg7,by simp[hel],?_⟩,?_⟩
   ·rw[Zm];intro o ho;rw[Zm];intro q hq;rw[hl'];simp only[Zr];obtain⟨k,hk2⟩:=Z6.1 ho;have hkl:=ya hk2;by_cases c2:k=2
    ·subst c2;rw[hg2] at hk2;cases hk2;have:q=7:=by simpa[AObj.refs,AV.refsIn,AV.refsIn.go] using hq
     omega
    ·by_cases c7:k=7
     ·subst c7;rw[hg7] at hk2;cases hk2;obtain⟨v,hv,hq2⟩:=gol_mem.1 (show q∈AV.refsIn.gol _ from hq);rcases ZE.1 hv with hv|hv
      ·have:=hgol q (gol_mem.2 ⟨v,hv,hq2⟩);omega
      ·rw[List.mem_singleton.1 hv] at hq2;have:=hpr q hq2;omega
     ·by_cases ck:k<n
      ·rw[hg k ck c2 c7] at hk2;have:=Zm.1 (Zm.1 hrf _ (Zj hk2)) q hq;simp only[Zr] at this;omega
      ·obtain⟨m,rfl⟩:∃m,k=n+m:=⟨k - n,by omega⟩;rw[hH',getN (by simp[hn]),ZB] at hk2;have hm:=Zj hk2;simp only[o4,Zl,zj,or_false] at hm;rcases hm with rfl|rfl|rfl|rfl
       ·have:=hpr q hq;omega
       ·cases hq
       ·cases hq
       ·obtain⟨v,hv,hq2⟩:=gol_mem.1 (show q∈AV.refsIn.gol _ from hq);rw[List.mem_singleton.1 hv] at hq2;have:=hpr q hq2;omega
   ·rw[hg 0 (by omega) (by omega) (by omega),g0]
   ·rw[hg 1 (by omega) (by omega) (by omega),g1]
   ·intro j p' v hp' hv;rw[htk] at hp';have htl:(d.procs.take i).length=i:=by rw[Zh];omega
    by_cases hj:j<i
    ·rw[ZI (by omega)] at hp' hv;obtain⟨q,rfl,hq⟩:=hels j p' v hp' hv;have hql:=ya hq;refine⟨q,rfl,?_⟩;rw[hg q (by omega) (fun e=>by rw[e,g2] at hq;cases hq) (fun e=>by rw[e,g7] at hq;cases hq),hq]
    ·rw[ZZ (by omega)] at hp' hv;rw[htl] at hp';rw[hel] at hv
     match e:j - i,hp',hv with
     |0,hp',hv=>
      simp at hp' hv;subst hp' hv;exact⟨n+2,rfl,hgn⟩
   ·exact congrArg (St.mk (frC d (i+1))) (hk _)
 ·rintro H hI;have hcc:¬(d.procs.length:Int)<(d.procs.length:Int):=by omega
  rcases hI with⟨h0,rfl⟩|⟨h0,h8,hrf,g0,g1,g2,els,g7,hel,hels⟩
  ·have hd:d.procs=[]:=zf h0;have hfz:∀H:Heap,Am.frozen d.av (.agg [(none,O5 d.next),(none,.nilv (some 4))]) H:=fun H=>by
    obtain⟨nx,ps⟩:=d;have hd:ps=[]:=hd;subst hd;exact⟨_,rfl⟩
   unfold frC;simp -dsimp -implicitDefEqProofs only[go_sem,seval,hcc,hnil,Yn,z7 (Ze _)];exact hfz _
  ·have hw:Yb (some 2) 0 H [.ptr 1 0,.agg [(none,O5 d.next),(none,.slv (some 4) 7 d.procs.length 0 d.procs.length)]]=some (.undef,H.set 1 (.box (some 2) (.agg [(none,O5 d.next),(none,.slv (some 4) 7 d.procs.length 0 d.procs.length)]))):=by
    simp[Yb,astore,g1,AV.plain,AV.shp,AV.own,total,Sh.size,Yf,yI]
   unfold frC;simp -dsimp -implicitDefEqProofs only[go_sem,seval,hcc,g2,hw];obtain⟨v,hv⟩:∃v:AV,v=.agg [(none,O5 d.next),(none,.slv (some 4) 7 d.procs.length 0 d.procs.length)]:=⟨_,rfl⟩;rw[<-hv];have e1:(H.set 1 (.box (some 2) v))[1]? =some (.box (some 2) v):=Zx (by omega);have htake:∀l:List Sto,(Sto.pvs l).take l.length=Sto.pvs l:=fun l=>Zu (by rw[Sto.pvs_len];exact Zc _);have hD:DbA d v (H.set 1 (.box (some 2) v)):=by
    refine⟨7,d.procs.length,els,d.procs,hv,by rw[Zo (by omega),g7],hel,Zc _,rfl,by simp,fun j p w hp hw=> ?_⟩;obtain⟨q,rfl,hq⟩:=hels j p w (by rw[ZS];exact hp) hw;have hq1:(H.set 1 (.box (some 2) v))[q]? =some (.arr (some 9) (Sto.pvs p.cls) false):=by
     have hne:(1:Nat)≠q:=fun e=>by
      rw[<-e,g1] at hq;cases hq
     rw[Zo hne,hq]
    exact .inr ⟨_,rfl,.inr ⟨q,p.cls.length,Sto.pvs p.cls,false,rfl,hq1,Sto.pvs_len _,Zc _,htake _⟩⟩
   have hsh:v.shp=some 2:=by rw[hv];rfl
   rw[e1];show Am.frozen d.av v _;obtain⟨H',hz⟩:=hD.frz;refine⟨H',?_⟩;have hnt:∀H:Heap,v.freezeRes H=match AV.freeze deep v H with|some (p,hp')=>some (.pv v.shp p,hp')|none=>none:=by rw[hv];exact fun _=>rfl
   rw[hnt,hz,hsh];rfl
theorem n_ok(n:Int)(hp:Heap):S 8 [O5 n] hp=some (.ret (intT n).av,hp):=by
 refine Ya rfl rfl rfl (z8 [(none,.int .i64 n)]) rfl ?_;have hbu:Yi A0 [0,1] [O5 1,O5 n]=some (.agg [(none,O5 1),(none,O5 n),(none,O7 []),(none,.tsl (some 4) [])]):=rfl;simp -dsimp -implicitDefEqProofs only[go_sem,seval,hbu];exact⟨_,rfl⟩
theorem a_ok(s:List UInt8)(hp:Heap):S 7 [O7 s] hp=some (.ret (Ye s).av,hp):=by
 refine Ya rfl rfl rfl (z8 [(none,.str s)]) rfl ?_;have hbu:Yi A0 [0,2] [O5 2,O7 s]=some (.agg [(none,O5 2),(none,O5 0),(none,O7 s),(none,.tsl (some 4) [])]):=rfl;simp -dsimp -implicitDefEqProofs only[go_sem,seval,hbu];exact⟨_,rfl⟩
theorem NJ(s:List UInt8)(l:List Tm):W Z L 0 (g6).code ⟨params 0 (pvs [(none,.str s),(none,.sl (some 4) (Tm.pvs l))]),[]⟩ (endK (g6).results (Am.frozen (strT s l).av)):=by
 have hbu:Yi A0 [0,2,3] [O5 3,O7 s,.pv none (.sl (some 4) (Tm.pvs l))]=some (.pv (some 4) (strT s l).pv):=rfl;simp -dsimp -implicitDefEqProofs only[go_sem,seval,hbu,Tm.av]
theorem Jf(s:List UInt8)(l:List Tm)(hp:Heap):S 6 [O7 s,.tsl (some 4) (Tm.pvs l)] hp=some (.ret (strT s l).av,hp):=
 Ya (ps:=[(none,.str s),(none,.sl (some 4) (Tm.pvs l))]) rfl rfl rfl rfl rfl (NJ s l)
theorem NK(a b:Tm)(ha:a.size<1000000000)(hb:b.size<1000000000):W Z L 0 (g11).code ⟨params 0 (pvs [(some 4,a.pv),(some 4,b.pv)]),[]⟩ (endK (g11).results (Am.frozen (O6 (same a b)))):=by
 have h1:=fun hp=>QS a b hp ha hb;simp only[Tm.av] at h1;simp -dsimp -implicitDefEqProofs only[go_sem,seval,h1]
theorem NL(a b:Tm)(hp:Heap)(ha:a.size<1000000000)(hb:b.size<1000000000):S 11 [a.av,b.av] hp=some (.ret (O6 (same a b)),hp):=
 Ya rfl rfl rfl (z8 [(some 4,a.pv),(some 4,b.pv)]) rfl (NK a b ha hb)
theorem NM{g:Tm}(h:g.valid=true):same g g=true:=by simp[same,h,Tm.cmp_zero]
theorem NN{H:Heap}{q:Nat}{z:Bool}(h:H[q]? =some (.arr (some 4) [] z)):AV.freeze deep (zg q) H=some (zt.pv,H.set q (.arr (some 4) [] true)):=by
 have e:=O3
 show AV.freeze (7+1) (.agg _) _=_;simp[e,AV.freeze.go,AV.freeze,h];rfl
def BvI(bv:AV)(b:Tm)(n:Nat)(E:Heap):Prop:=bv=b.av\/(b=zt/\∃j z,bv=zg (n+j)/\E[j]? =some (.arr (some 4) [] z))
theorem NO{bv cv:AV}{b:Tm}{n m:Nat}{E F H:Heap}(hz:b.size<1000000000)(hs:same b b=true)(h1:BvI bv b n E)(h2:BvI cv b m F)(hE:∀j x,E[j]? =some x->H[n+j]? =some x)(hF:∀j x,F[j]? =some x->H[m+j]? =some x):S 11 [bv,cv] H=some (.ret (O6 true),H):=by
 have one:∀(v:AV) (n:Nat) (E H:Heap),BvI v b n E->(∀(j:Nat) (z:Bool),E[j]? =some (AObj.arr (some 4) [] z)->∃z',H[n+j]? =some (AObj.arr (some 4) [] z'))->v.shp=some 4/\∃H',AV.freeze deep v H=some (b.pv,H')/\∀k:Nat,(∀z:Bool,H[k]? =some (AObj.arr (some 4) [] z)->∃z',H'[k]? =some (AObj.arr (some 4) [] z')):=by
  rintro v n E H (rfl|⟨rfl,j,z,rfl,hj⟩) hh
  ·refine⟨rfl,H,rfl,fun k z h=>⟨z,h⟩⟩
  ·obtain⟨z',hz'⟩:=hh j z hj;refine⟨rfl,_,NN hz',fun k z hk=> ?_⟩;by_cases e:n+j=k
   ·subst e;exact⟨true,Zx (ya hz')⟩
   ·exact⟨z,by rw[Zo e,hk]⟩
 obtain⟨s1,H1,f1,k1⟩:=one bv n E H h1 fun j z hj=>⟨z,hE j _ hj⟩;obtain⟨s2,H2,f2,-⟩:=one cv m F H1 h2 fun j z hj=>k1 _ z (hF j _ hj);have hz':Yp [bv,cv] H=some ([(some 4,b.pv),(some 4,b.pv)],H2):=by simp[Yp,f1,f2,s1,s2]
 have h:=XF (F:=find tab) (prim:=prim) (f:=11) (args:=[bv,cv]) (hp:=H) (hp1:=H2) rfl rfl rfl hz' (NL b b [] hz hz);rw[hs] at h;exact h
def outL(d:Dbs)(L:List (List UInt8 × Int)):Dbs × Nat × Tm × Int:=match chkL d L with
 |some b=>(y0,0,b,8)
 |none=>if(decL d L).2=0 then((decL d L).1,1,zt,0) else(y0,0,zt,(decL d L).2)
def MvI(mv:AV)(m:Dbs):Prop:=mv=m.av\/(m=y0/\mv=YG)
def jC(d:Dbs)(g:Tm)(o:Dbs × Nat × Tm × Int)(hp:Heap):Prop:=∃(mv:AV) (k:Nat) (bv:AV) (E:Heap),
 S 9 [d.av,g.av] hp=some (.ret (.tuple [mv,.sl (some 4) (hp.length+k) o.2.1 0 o.2.1,bv,O5 o.2.2.2]),hp++E)/\MvI mv o.1/\BvI bv o.2.2.1 hp.length E/\Bq E
theorem jD(d:Dbs)(g:Tm)(s:AV)(hs:AV.beq s s=true):AObj.beq (.box (some 7) (cB d g s)) (.box (some 7) (cB d g s))=true:=by
 have h1:PV.beq d.pv d.pv=true:=by simp[Dbs.pv,PV.beq,PV.beqc,VI]
 simp[AObj.beq,AV.beq,AV.beqc,cB,h1,hs,Q0]
theorem jE:AObj.beq (.map none (YX 8 prS prN prF)) (.map none (YX 8 prS prN prF))=true:=by decide
theorem VL(e:Int):AObj.beq (.box none (O5 e)) (.box none (O5 e))=true:=by simp[AObj.beq,AV.beq,PV.beq]
theorem call_arg'(d:Dbs)(hb:BndD d)(g:Tm)(hz:g.size<1000000000)(h:okD d=false\/g.valid=false)(hp:Heap):jC d g (y0,0,zt,1) hp:=by
 refine⟨YG,6,zg (hp.length+7),_,NB d hb g hz h hp,.inr ⟨rfl,rfl⟩,.inr ⟨rfl,7,false,rfl,rfl⟩,?_⟩;intro o ho;simp only[Zl,zj,or_false] at ho;rcases ho with rfl|rfl|rfl|rfl|rfl|rfl|rfl|rfl
 ·exact Xk d
 ·exact yt _
 ·exact xO
 ·exact YA _ _
 ·exact XI _ _
 ·exact YA _ _
 ·exact YA _ _
 ·exact YA _ _
theorem NP(d:Dbs)(g:Tm)(n:Nat):Bq (y9 d g n):=by
 intro o ho;simp only[y9,Zl,zj,or_false] at ho;rcases ho with rfl|rfl|rfl|rfl|rfl|rfl|rfl|rfl|rfl
 ·exact Xk d
 ·exact yt _
 ·exact xO
 ·exact YA _ _
 ·exact XI _ _
 ·exact YA _ _
 ·exact jE
 ·exact jD _ _ _ (by simp[AV.beq])
 ·exact YA _ _
theorem gE(d:Dbs)(hv:okD d=true)(g T:Tm)(hg:GoalOk g T)(L:List (List UInt8 × Int))(hL:∀x∈L,x.1.length<=100)(hlen:L.length<1000000)
  (hi:∀H:Heap,Bq H->∃lv E,S 93 [T.av] H=some (.ret lv,H++E)/\HasT lv H.length E (L.map fun x=>indT x.1 x.2))(hp:Heap)(hb:Bq hp):jC d g (outL d L) hp:=by
 have hx3:∀n,Bq (x3 n):=fun n o ho=>by
  simp only[x3,Zl,zj,or_false] at ho;rcases ho with rfl|rfl|rfl
  ·exact XI _ _
  ·exact YA _ _
  ·exact VL _
 obtain⟨B,hB⟩:∃B,B=hp++y9 d g hp.length:=⟨_,rfl⟩;have hBl:B.length=hp.length+9:=by rw[hB];simp[y9]
 have hBr:∀X,(B++X)[hp.length+7]? =some (.box (some 7) (cB d g (slA (hp.length+8) 0))):=fun X=>by
  rw[hB,Zw,yc];rfl
 have hset:∀(X:Heap) (o:AObj),(B++X).set (hp.length+7) o=hp++(y9 d g hp.length).set 7 o++X:=fun X o=>by
  rw[zV _ _ (by omega),hB,setN rfl]
 obtain⟨lv,E,h1,h2⟩:=hi (B++x3 B.length) ((hB▸hb.app (NP d g _)).app (hx3 _));have hga:g.args=[T]:=by rw[hg.e];rfl
 obtain⟨v,hp',h3,h4⟩:=Nu d hv g T hga (hp.length+8) 0 L hL hlen (B++x3 B.length) (hp.length+7) (hBr _) lv E h1 h2;unfold dynQ at h4;unfold outL;cases hc:chkL d L with
 |some b=>
  rw[hc] at h4;obtain⟨rfl,rfl⟩:=h4;have hr:=Nz 56 B (hp.length+7) b h3;rw[hB] at hr;refine⟨_,9,_,_,NC d hv g T hg hp hb b hr,.inr ⟨rfl,rfl⟩,.inl rfl,?_⟩;intro o ho;simp only[Zl,zj,or_false] at ho;rcases ho with rfl|rfl|rfl|rfl|rfl|rfl|rfl|rfl|rfl|rfl
  ·exact Xk d
  ·exact yt _
  ·exact xO
  ·exact YA _ _
  ·exact yt _
  ·exact YA _ _
  ·exact jE
  ·exact jD _ _ _ (by simp[AV.beq])
  ·exact YA _ _
  ·exact YA _ _
 |none=>
  rw[hc] at h4;dsimp only at h4 ⊢;by_cases he:(decL d L).2=0
  ·rw[Zd he] at h4 ⊢;obtain⟨rfl,rfl⟩:=h4;have hok:=(jB L d hv he).1.1;have hd5:=(Qu _).1 hok;have hcd:=fun hp=>NI (decL d L).1 (by omega) (fun p hp=>⟨by have:=QX hp;omega,QZ hok p hp⟩) hp;generalize (decL d L).1=d2 at*;rw[hset] at h3;have hr:=Ny 56 B (hp++(y9 d g hp.length).set 7 (.box (some 7) (cB d2 g (.tsl (some 4) [g.pv])))) (hp.length+7) (by rw[hBl];simp[y9]) h3;rw[hBl,hB] at hr;refine⟨_,3,_,_,NE d d2 hv g T hg hp hb hcd hr,.inl rfl,.inr ⟨rfl,13,false,rfl,rfl⟩,?_⟩;intro o ho;simp only[Zl,zj,or_false] at ho;rcases ho with rfl|rfl|rfl|rfl|rfl|rfl|rfl|rfl|rfl|rfl|rfl|rfl|rfl|rfl
   ·exact Xk d
   ·exact yt _
   ·exact Xk d2
   ·exact Jd (some 4) [g] false
   ·exact XI _ _
   ·exact YA _ _
   ·exact jE
   ·exact jD _ _ _ (by simp[AV.beq,PV.beqs,Q0])
   ·exact YA _ _
   ·exact XI _ _
   ·exact YA _ _
   ·exact VL _
   ·exact YA _ _
   ·exact YA _ _
  ·rw[Za he] at h4 ⊢;obtain⟨rfl,d2,rfl⟩:=h4;generalize (decL d L).2=e at*;rw[hset] at h3;have hr:=NA 56 B (hp++(y9 d g hp.length).set 7 (.box (some 7) (cB d2 g (slA (hp.length+8) 0)))) (hp.length+7) (by rw[hBl];simp[y9]) e h3;rw[hBl,hB] at hr;refine⟨_,12,_,_,ND d d2 hv g T hg hp hb e he hr,.inr ⟨rfl,rfl⟩,.inr ⟨rfl,10,false,rfl,rfl⟩,?_⟩;intro o ho;simp only[Zl,zj,or_false] at ho;rcases ho with rfl|rfl|rfl|rfl|rfl|rfl|rfl|rfl|rfl|rfl|rfl|rfl|rfl
   ·exact Xk d
   ·exact yt _
   ·exact xO
   ·exact YA _ _
   ·exact XI _ _
   ·exact YA _ _
   ·exact jE
   ·exact jD _ _ _ (by simp[AV.beq])
   ·exact YA _ _
   ·exact XI _ _
   ·exact YA _ _
   ·exact VL _
   ·exact YA _ _
def sfD(d:Dbs):Prop:=d.procs.length<1000000000/\∀p∈d.procs,okCl p/\p.cls.length<1000000000
theorem VM:sfD y0:=⟨by decide,fun p hp=>by cases hp⟩
theorem NQ{d:Dbs}(hv:okD d=true):sfD d:=by
 have hd5:=(Qu d).1 hv;exact⟨by omega,fun p hp=>⟨QZ hv p hp,by have:=QX hp;omega⟩⟩
set_option maxRecDepth 20000 in
theorem NR(d:Dbs)(h:sfD d)(hp:Heap):S 10 [d.av,d.av] hp=some (.ret (O6 true),hp):=by
 refine Ya rfl rfl rfl (z8 [(some 2,d.pv),(some 2,d.pv)]) rfl ?_;simp -dsimp -implicitDefEqProofs only[go_sem,seval,Dbs.av,YH,YB,Prc.pvs_len];refine Yy (α:=Unit) d.procs.length (fun _ _=>True) (fun i _=>⟨[(2,.ptr 0 0),(3,.ptr 1 0),(5,O5 i)],[.box (some 2) (.pv (some 2) d.pv),.box (some 2) (.pv (some 2) d.pv)]⟩) () ⟨trivial,rfl⟩ ?_ ?_
 ·rintro i - hi -;have hcc:(i:Int)<(d.procs.length:Int):=by omega
  have hl:=h.1;have w1:=O0 i (by omega)
  obtain⟨p,hpp⟩:∃p,d.procs[i]? =some p:=⟨_,Zf hi⟩;obtain⟨hc,hl2⟩:=h.2 p (Zj hpp);have h3:=fun hp=>mA p hl2 hc hp;simp only[Prc.av] at h3;simp -dsimp -implicitDefEqProofs only[go_sem,seval,hcc,w1,YB,Prc.pvs_len,Yc (Prc.pvs_get hpp),h3];exact⟨(),trivial⟩
 ·rintro - -;have hcc:¬(d.procs.length:Int)<(d.procs.length:Int):=by omega
  simp -dsimp -implicitDefEqProofs only[go_sem,seval,hcc,YB,Prc.pvs_len]
  done
def inT(x:List UInt8 × Int):Tm:=indT x.1 x.2
theorem jF(x:Tm)(r:List Tm):Ys (x::r)=strT [46] [x,Ys r]:=rfl
theorem jG(x y:Tm)(r:List Tm):comT (x::y::r)=strT [44] [x,comT (y::r)]:=rfl
theorem gF(nm:List UInt8)(x y:Tm):(strT nm [x,y]).size=1+(x.size+(y.size+0)):=by
 rw[Tm.size_eq];rfl
theorem gG:∀ts:List Tm,(∀t∈ts,t.size=3)->(Ys ts).size=1+4*ts.length
 |[],_=>rfl
 |x::r,h=>by
  rw[jF,gF,h x (by simp),gG r fun t ht=>h t (Zy _ ht),ZF];omega
theorem gH:∀ts:List Tm,(∀t∈ts,t.size=3)->(comT ts).size<=1+4*ts.length
 |[],_=>Zc _
 |[x],h=>by
  show x.size<=_;rw[h x (by simp)];simp
 |x::y::r,h=>by
  have:=gH (y::r) fun t ht=>h t (Zy _ ht);rw[jG,gF,h x (by simp),ZF];omega
theorem gI{nm:List UInt8}{x y:Tm}(hn:nm.length<=100)(hx:x.fits=true)(hy:y.fits=true):(strT nm [x,y]).fits=true:=Qs hn (by simp) (by simp) (by simp[Tm.fitsAll,hx,hy])
theorem gJ:∀ts:List Tm,(∀t∈ts,t.fits=true)->(Ys ts).fits=true
 |[],_=>by decide
 |x::r,h=>by
  rw[jF];exact gI (by decide) (h x (by simp)) (gJ r fun t ht=>h t (Zy _ ht))
theorem gL:∀ts:List Tm,(∀t∈ts,t.fits=true)->(comT ts).fits=true
 |[],_=>by decide
 |[x],h=>h x (by simp)
 |x::y::r,h=>by
  rw[jG];exact gI (by decide) (h x (by simp)) (gL (y::r) fun t ht=>h t (Zy _ ht))
theorem gM:∀ts:List Tm,(Ys ts).valid=true->∀t∈ts,t.valid=true
 |x::r,h,t,ht=>by
  rw[jF] at h;have vx:=yR h (show x∈[x,Ys r] by simp);have vr:=yR h (show Ys r∈[x,Ys r] by simp);rcases Zl.1 ht with rfl|ht
  ·exact vx
  ·exact gM r vr t ht
theorem gN:∀ts:List Tm,(comT ts).valid=true->∀t∈ts,t.valid=true
 |[x],h,t,ht=>by
  rw[List.mem_singleton.1 ht];exact h
 |x::y::r,h,t,ht=>by
  rw[jG] at h;have vx:=yR h (show x∈[x,comT (y::r)] by simp);have vr:=yR h (show comT (y::r)∈[x,comT (y::r)] by simp);rcases Zl.1 ht with rfl|ht
  ·exact vx
  ·exact gN (y::r) vr t ht
theorem gO(nm:List UInt8)(x y:Tm):(strT nm [x,y]).occ=x.occ++(y.occ++[]):=by
 rw[Tm.zyI];rfl
theorem gP:∀ts:List Tm,(∀t∈ts,t.occ=[])->(Ys ts).occ=[]
 |[],_=>rfl
 |x::r,h=>by
  rw[jF,gO,h x (by simp),gP r fun t ht=>h t (Zy _ ht)];rfl
theorem gQ:∀ts:List Tm,(∀t∈ts,t.occ=[])->(comT ts).occ=[]
 |[],_=>rfl
 |[x],h=>h x (by simp)
 |x::y::r,h=>by
  rw[jG,gO,h x (by simp),gQ (y::r) fun t ht=>h t (Zy _ ht)];rfl
theorem VN(T:Tm):(goT T).size=1+(T.size+0):=by
 unfold goT;rw[Tm.size_eq];rfl
theorem gR{T:Tm}(h1:T.fits=true)(h2:T.size<=1000)(h3:T.occ=[]):GoalOk (goT T) T where
 v:=xM (Qs (by decide) (by simp) (by simp) (by simp[Tm.fitsAll,h1])) (by rw[VN];omega)
 c:=by
  unfold goT;rw[Tm.zyI];show T.occ++[]=[];rw[h3];rfl
 e:=rfl
theorem both(d:Dbs)(hb:BndD d)(L:List (List UInt8 × Int))(hl:L.length<=20):∃o:Dbs × Nat × Tm × Int,(∀H:Heap,Bq H->jC d (goT (Ys (L.map inT))) o H/\jC d (goT (comT (L.map inT))) o H)/\(o=(y0,0,zt,1)\/(okD d=true/\(∀x∈L,x.1.length<=100)/\o=outL d L)):=by
 have hs:∀t∈L.map inT,t.size=3:=fun t ht=>by
  obtain⟨x,_,rfl⟩:=Z0.1 ht;rfl
 have ho:∀t∈L.map inT,t.occ=[]:=fun t ht=>by
  obtain⟨x,_,rfl⟩:=Z0.1 ht;rfl
 have z1:=gG _ hs;have z2:=gH _ hs;rw[Z8] at z1 z2;have y1:(goT (Ys (L.map inT))).size<1000000000:=by rw[VN];omega
 have y2:(goT (comT (L.map inT))).size<1000000000:=by rw[VN];omega
 cases hv:okD d with
 |false=>exact⟨(y0,0,zt,1),fun H _=>⟨call_arg' d hb _ y1 (.inl hv) H,call_arg' d hb _ y2 (.inl hv) H⟩,.inl rfl⟩
 |true=>
 by_cases hn:∀x∈L,x.1.length<=100
 ·have hf:∀t∈L.map inT,t.fits=true:=fun t ht=>by
   obtain⟨x,hx,rfl⟩:=Z0.1 ht;exact valid_fits (ju (hn x hx))
  have g1:=gR (gJ _ hf) (by omega) (gP _ ho);have g2:=gR (gL _ hf) (by omega) (gQ _ ho);have v1:=yR g1.v (show Ys (L.map inT)∈[Ys (L.map inT)] by simp);have v2:=yR g2.v (show comT (L.map inT)∈[comT (L.map inT)] by simp);refine⟨outL d L,fun H hb=>⟨gE d hv _ _ g1 L hn (by omega) (fun H _=>⟨_,[],by rw[ZB];exact gj _ v1 H,gC _ _⟩) H hb,gE d hv _ _ g2 L hn (by omega) (fun H hb=> ?_) H hb⟩,.inr ⟨rfl,hn,rfl⟩⟩;by_cases h0:L=[]
  ·subst h0;exact⟨_,[],by rw[ZB];exact gj [] v1 H,gC _ _⟩
  ·obtain⟨k,E,e1,e2,e3⟩:=gm (L.map inT) (by simpa using h0) (fun t ht=>by
    obtain⟨x,_,rfl⟩:=Z0.1 ht;exact⟨_,_,rfl⟩) v2 (by rw[Z8];omega) H hb
   exact⟨_,E,e1,Nt e2 fun o ho=>(e3 o ho).1⟩
 ·have hno:∀{T:Tm},(T.valid=true->∀t∈L.map inT,t.valid=true)->(goT T).valid=false:=fun{T} h=>by
   cases hv:(goT T).valid with
   |false=>rfl
   |true=>
    refine absurd (fun x hx=> ?_) hn;have vT:=yR hv (show T∈[T] by simp);have vx:=h vT (inT x) (List.mem_map_of_mem hx);have va:=yR vx (show Ye x.1∈[Ye x.1,intT x.2] by simp);have:=valid_fits va;simp[Ye,Tm.fits,Tm.fitsAll,Tm.node,Tm.kind,Tm.n,Tm.name,Tm.args] at this;have:=zl this;omega
  refine⟨(y0,0,zt,1),fun H _=>⟨call_arg' d hb _ y1 (.inr (hno (gM _))) H,call_arg' d hb _ y2 (.inr (hno (gN _))) H⟩,.inl rfl⟩
theorem NS{k:Int}{b:Tm}(h:indB k=some b):b.valid=true:=by
 unfold indB at h;by_cases c1:k<0
 ·rw[Zd c1] at h;cases h;exact(Vp (fnm:=doN) (nms:=[negN]) (by decide) (by simp;decide) (by simp) (Vq k)).2
 ·rw[Za c1] at h;by_cases c2:8<k
  ·rw[Zd c2] at h;cases h;exact(G6 (by decide)).2
  ·rw[Za c2] at h;cases h
theorem gS{d:Dbs}:∀{L:List (List UInt8 × Int)} {b:Tm},(∀x∈L,x.1.length<=100)->chkL d L=some b->b.valid=true
 |[],_,_,h=>by cases h
 |x::r,b,hn,h=>by
  rw[chkL] at h;cases e:indB x.2 with
  |some c=>
   rw[e] at h;cases h;exact NS e
  |none=>
   rw[e] at h;dsimp only at h;by_cases hs:XH d x.1 x.2=true
   ·rw[Zd hs] at h;cases h;exact(Vp (fnm:=peN) (nms:=[moN,stN]) (by decide) (by simp;decide) (by simp) (ju (hn x (by simp)))).2
   ·rw[Za hs] at h;exact gS (fun y hy=>hn y (Zy _ hy)) h
theorem NT{d:Dbs}{L:List (List UInt8 × Int)}{m:Dbs}{n:Nat}{b:Tm}{e:Int}(h:(m,n,b,e)=(y0,0,zt,1)\/(okD d=true/\(∀x∈L,x.1.length<=100)/\(m,n,b,e)=outL d L)):sfD m/\b.size<1000000000/\same b b=true/\(e=0->okD d=true/\okD m=true/\chkL d L=none/\(decL d L).2=0/\m=(decL d L).1):=by
 rcases h with h|⟨hv,hn,h⟩
 ·cases h;exact⟨VM,by decide,by decide,fun h=>by cases h⟩
 ·unfold outL at h;cases hc:chkL d L with
  |some c=>
   rw[hc] at h;cases h;have hcv:=gS hn hc;exact⟨VM,by have:=yb hcv;omega,NM hcv,fun h=>by cases h⟩
  |none=>
   rw[hc] at h;dsimp only at h;by_cases he:(decL d L).2=0
   ·rw[Zd he] at h;cases h;have hok:=(jB L d hv he).1.1;exact⟨NQ hok,by decide,by decide,fun _=>⟨hv,hok,rfl,he,rfl⟩⟩
   ·rw[Za he] at h;cases h;exact⟨VM,by decide,by decide,fun h=>absurd h he⟩
def rawP(k n:Int)(s:List UInt8)(es:List PV):PV:=.agg [(none,.int .i64 k),(none,.int .i64 n),(none,.str s),(none,.sl (some 4) es)]
theorem gT{hp:Heap}{r:Nat}(k n:Int)(s:List UInt8)(es:List PV)(m:Nat)(hm:m=es.length)(h:hp[r]? =some (.arr (some 4) es false)):Am.frozen (.pv (some 4) (rawP k n s es)) (.agg [(none,O5 k),(none,O5 n),(none,O7 s),(none,.sl (some 4) r m 0 m)]) hp:=by
 subst hm;refine⟨hp.set r (.arr (some 4) es true),?_⟩;show(match AV.freeze (7+1) (.agg _) hp with|some (p,hp')=>some (AV.pv _ p,hp')|none=>none)=_;have e:=O3
 simp[e,AV.freeze.go,AV.freeze,h,rawP];rfl
theorem NU(t:Tm)(hp:Heap)(hv:t.valid=true)(ht:t.size<1000000000):S 72 [t.av] hp=some (.ret t.av,hp):=by
 refine Ya rfl rfl rfl (z8 [(some 4,t.pv)]) rfl ?_;have h1:=fun hp=>qS t hp ht;have h2:=fun hp=>mD t hp ht;rw[hv] at h1;simp only[Tm.av] at h1 h2;simp -dsimp -implicitDefEqProofs only[go_sem,seval,Tm.av,h1,h2,z7 (Ze _)]
theorem gU{x:Int}:∀{l:List Int} {i:Nat},l[i]? =some x->(∀j,j<i->l[j]?≠some x)->l.idxOf x=i
 |[],_,h,_=>by simp at h
 |y::r,0,h,_=>by
  simp at h;simp[h]
 |y::r,i+1,h,hn=>by
  have h0:=hn 0 (by omega);have hy:¬y=x:=fun e=>h0 (by simp[e]);rw[List.idxOf_cons,beq_eq_false_iff_ne.2 hy];simp only[cond_false];rw[gU (l:=r) (i:=i) (by simpa using h) fun j hj=>by simpa using hn (j+1) (by omega)]
theorem NV(l:List Int)(x:Int)(hl:l.length<1000000000)(hm:x∈l)(hp:Heap):S 110 [.pv none (.sl none (ints l)),O5 x] hp=some (.ret (O5 ((l.idxOf x:Nat):Int)),hp):=by
 refine Ya rfl rfl rfl (z8 [(none,.sl none (ints l)),(none,.int .i64 x)]) rfl ?_;simp -dsimp -implicitDefEqProofs only[go_sem,seval,yS];refine Yy (α:=Unit) l.length (fun i _=>∀j,j<i->l[j]?≠some x) (fun i _=>⟨[(0,.pv none (.sl none (ints l))),(1,O5 x),(5,O5 i)],[]⟩) () ⟨fun j hj=>by omega,rfl⟩ ?_ ?_
 ·rintro i - h hinv;have hc:(i:Int)<(l.length:Int):=by omega
  obtain⟨b,hb⟩:∃b,l[i]? =some b:=⟨_,Zf h⟩;have w2:=O0 i (by omega)
  by_cases hbx:b=x
  ·have hi:=gU (by rw[hb,hbx]) hinv;simp -dsimp -implicitDefEqProofs only[go_sem,seval,yS,hc,Yc (qW hb),hbx,hi]
  ·simp -dsimp -implicitDefEqProofs only[go_sem,seval,yS,hc,Yc (qW hb),hbx,w2];refine⟨(),fun j hj=> ?_⟩;rcases Zt j i with h|h
   ·exact hinv j h
   ·have:j=i:=by omega
    subst this;rw[hb];intro e;cases e;exact hbx rfl
 ·rintro - hinv;obtain⟨j,hlt,hj⟩:=List.getElem_of_mem hm;exact absurd (by rw[Zf hlt,hj]) (hinv j hlt)
def appR(t:Tm)(ts:List Tm)(i:Nat):Heap:=[.box (some 4) (.pv (some 4) t.pv),.box (some 4) (.agg [(none,O5 0),(none,O5 0),(none,O7 []),(none,.sl (some 4) 2 0 0 0)]),.arr (some 4) [] false,.box (some 4) (.agg [(none,O5 t.kind),(none,O5 t.n),(none,O7 t.name),(none,.sl (some 4) 5 i 0 i)]),.arr (some 4) [] false,.arr (some 4) (Tm.pvs (ts.take i)) false]
theorem NW(L:List Int)(hL:L.length<100000000):∀(t:Tm) (hp:Heap),t.fits=true->t.size<1000000000->(∀w∈t.occ,w∈L)->S 75 [.pv none (.sl none (ints L)),t.av] hp=some (.ret (Tm.sub (cPos L) t).av,hp):=by
 intro t
 induction t using Tm.zyE with
 |h t ih=>
  intro hp hf ht ho;have hts:=t.size_eq;have hlen:=Tm.zyA t.args;refine Ya rfl rfl rfl (z8 [(none,.sl none (ints L)),(some 4,t.pv)]) rfl ?_;have hb:Yi A0 [0,1,2] [O5 t.kind,O5 t.n,O7 t.name]=some (.agg [(none,O5 t.kind),(none,O5 t.n),(none,O7 t.name),(none,.tsl (some 4) [])]):=rfl;by_cases hk:t.kind=0
  ·have hk':=Zn hk;have hm:t.n∈L:=ho _ (by rw[Tm.zyI,Zd hk];simp);have hpos:=fun hp=>NV L t.n (by omega) hm hp;have ha:t.args=[]:=by rw[qV hf hk];rfl
   have hnm:t.name=[]:=by rw[qV hf hk];rfl
   have e:Tm.sub (cPos L) t=tvar (L.idxOf t.n:Nat):=by rw[Tm.zyT,Zd hk];rfl
   rw[e];generalize ((L.idxOf t.n:Nat):Int)=k at hpos ⊢;simp -dsimp -implicitDefEqProofs only[go_sem,seval,Tm.av,Yk,yD,Yt,Yd,Tm.pvs_len,hk',hb,hpos,z7 (Ze _)];refine Yy (α:=Unit) 0 (fun _ _=>True) (fun i _=>⟨[(0,.pv none (.sl none (ints L))),(3,.ptr 0 0),(4,.ptr 1 0),(5,.ptr 3 0),(6,O5 i)],[.box (some 4) (.pv (some 4) t.pv),.box (some 4) (.agg [(none,O5 0),(none,O5 0),(none,O7 []),(none,.sl (some 4) 2 0 0 0)]),.arr (some 4) [] false,.box (some 4) (.agg [(none,O5 t.kind),(none,O5 k),(none,O7 t.name),(none,.sl (some 4) 5 0 0 0)]),.arr (some 4) [] false,.arr (some 4) [] false]⟩) () ⟨trivial,rfl⟩ ?_ ?_
   ·rintro i - h -;omega
   ·rintro - -;have hc:¬(0:Int)<(t.args.length:Int):=by rw[ha];simp
    simp -dsimp -implicitDefEqProofs only[go_sem,seval,Yd,Tm.pvs_len,hc,Yn,z7 (Ze _),XE (Ze _)];rw[hk,hnm];exact gT _ _ _ [] _ rfl rfl
  ·have hk':=Zp hk;rw[M4 hk];obtain⟨ts',hts'⟩:∃ts',ts'=t.args.map (Tm.sub (cPos L)):=⟨_,rfl⟩;have htl:ts'.length=t.args.length:=by rw[hts',Z8]
   rw[<-hts'];simp -dsimp -implicitDefEqProofs only[go_sem,seval,Tm.av,Yk,yD,Yt,Yd,Tm.pvs_len,hk',hb,z7 (Ze _)];refine Yy (α:=Unit) t.args.length (fun _ _=>True) (fun i _=>⟨[(0,.pv none (.sl none (ints L))),(3,.ptr 0 0),(4,.ptr 1 0),(5,.ptr 3 0),(6,O5 i)],appR t ts' i⟩) () ⟨trivial,rfl⟩ ?_ ?_
   ·rintro i - h -;have hc:(i:Int)<(t.args.length:Int):=by omega
    obtain⟨u,hu⟩:∃u,t.args[i]? =some u:=⟨_,Zf h⟩;have hum:=Zj hu;have husz:=Tm.zyC hum;have hcall:=fun hp=>ih u hum hp (Tm.zyF hf hum) (by omega) fun w hw=>ho w (Tm.zy2 hk hum hw);simp only[Tm.av] at hcall;have w2:=O0 i (by omega)
    have hl:(Tm.pvs (ts'.take i)).length=i:=by rw[Tm.pvs_len,Zh];omega
    have hlim:i+1<=lim:=by unfold lim;omega
    have hus:ts'[i]? =some (Tm.sub (cPos L) u):=by rw[hts'];simp[hu]
    simp -dsimp -implicitDefEqProofs only[go_sem,seval,appR,Yd,Tm.pvs_len,hc,Yc (Tm.pvs_get hu),hcall,w2,hl,hlim,Tm.zyB hus,z7 (Ze _),XE (Ze _)];exact⟨(),rfl⟩
   ·rintro - -;have hc:¬(t.args.length:Int)<(t.args.length:Int):=by omega
    have htk:ts'.take t.args.length=ts':=Zu (by omega);simp -dsimp -implicitDefEqProofs only[go_sem,seval,appR,Yd,Tm.pvs_len,hc,htk,Yn,z7 (Ze _),XE (Ze _)];exact gT _ _ _ (Tm.pvs ts') _ (by rw[Tm.pvs_len,htl]) rfl
end Go.Proofs.YtkkppaoehnpboaaGreatDoor
