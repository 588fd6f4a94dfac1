/- What is proved: the reference's free variables. -/
import Derived.Test.YtffecaafklpmhaaLst
import Derived.Test.YtffecaafklpmhaaRUn
import Derived.Test.YtffecaafklpmhaaAm4
set_option linter.unusedSimpArgs false
set_option linter.unusedVariables false
namespace Go.Proofs.Ytffecaafklpmhaa
open Go.Am
theorem IsV.elems{s:AV}{hp:Heap}{l:List Int}(h:IsV s hp l):Am.elems hp s=some (none,ints l):=by
 rcases h with⟨rfl,rfl⟩|⟨r,rfl,h⟩
 ·rfl
 ·simp[Am.elems,h,zbu]
def zvD(g:Tm):List Int:=(quants g).flatMap fun q=>vads [] q.occ
def hl(p g:Tm):List Int:=vads [] p.occ++zvD g
theorem IsV.keep{s:AV}{hp hp':Heap}{l:List Int}(h:IsV s hp l)(hP:PresV (.tsl none []) hp hp'):IsV s hp' l:=by
 rcases h with h|⟨r,h1,h2⟩
 ·exact .inl h
 ·exact .inr ⟨r,h1,hP.2 r _ h2 (fun v o n e=>by cases e)⟩
theorem IsV.len{s:AV}{hp:Heap}{l:List Int}(h:IsV s hp l):sLen [s]=some (.pv none (.int .i64 l.length)):=by
 rcases h with⟨rfl,rfl⟩|⟨r,rfl,_⟩ <;> rfl
theorem IsV.get{s:AV}{hp:Heap}{l:List Int}(h:IsV s hp l){i:Nat}{x:Int}(hx:l[i]? =some x):∃a,zbJ none [s,.pv none (.int .i64 i)]=some a/\aload none hp a=some (.pv none (.int .i64 x)):=by
 rcases h with⟨rfl,rfl⟩|⟨r,rfl,h⟩
 ·simp at hx
 ·have hlt:=(List.getElem?_eq_some_iff.1 hx).1
  refine⟨_,zaq hlt,?_⟩
  simp[aload,h,zbu,zi4 hx,toAV]
theorem IsV.other{s:AV}{hp:Heap}{l:List Int}(h:IsV s hp l){r:Nat}{es es':List PV}{z z':Bool}(hr:hp[r]? =some (.arr (some 4) es z)):IsV s (hp.set r (.arr (some 4) es' z')) l:=by
 rcases h with h|⟨q,h1,h2⟩
 ·exact .inl h
 ·refine .inr ⟨q,h1,?_⟩
  have:r≠q:=fun e=>by rw[e,h2] at hr;cases hr
  rw[List.getElem?_set_ne this]
  exact h2
def MapB(m:List (Int × PV))(s:List Int):Prop:=∀v,(zc2 v m).getD (.bool false)=.bool (decide (v∈s))
theorem MapB.put{m:List (Int × PV)}{s:List Int}(h:MapB m s)(v:Int):MapB (mPut v (.bool true) m) (s++[v]):=fun w=>by
 rw[zdK]
 by_cases e:w=v
 ·rw[if_pos e];simp[e]
 ·rw[if_neg e,h w];simp[e]
def cs(t:Tm):Prop:=t.kind=3/\t.name=[46]/\t.args.length=2
instance (t:Tm):Decidable (cs t):=inferInstanceAs (Decidable (_/\_))
def tl(t:Tm):Tm:=if h:cs t then tl (arg1 t) else t
termination_by t.size
decreasing_by exact Tm.zvN (zdZ h.2.2)
def els(t:Tm):List Tm:=if h:cs t then arg0 t::els (arg1 t) else[]
termination_by t.size
decreasing_by exact Tm.zvN (zdZ h.2.2)
theorem tl_c{t:Tm}(h:cs t):tl t=tl (arg1 t):=by rw[tl,dif_pos h]
theorem tl_n{t:Tm}(h:¬cs t):tl t=t:=by rw[tl,dif_neg h]
theorem ztS{t:Tm}(h:cs t):els t=arg0 t::els (arg1 t):=by rw[els,dif_pos h]
theorem ztT{t:Tm}(h:¬cs t):els t=[]:=by rw[els,dif_neg h]
theorem ztU:∀(n:Nat) (t:Tm),t.size=n->(els t).length<=t.size:=by
 intro n
 induction n using Nat.strongRecOn with
 |_ n ih=>
  intro t hn
  by_cases h:cs t
  ·have h3:=Tm.zvN (zdZ h.2.2)
   have:=ih _ (by omega) (arg1 t) rfl
   rw[ztS h,List.length_cons];omega
  ·rw[ztT h];exact Nat.zero_le _
theorem zfw{l:List Tm}{t:Tm}{a0 a1 a2 a3:AObj}:Am.frozen (.tuple [.pv none (.sl (some 4) (Tm.pvs l)),.pv (some 4) t.pv]) (.tuple [.sl (some 4) 4 l.length 0 l.length,.pv (some 4) t.pv]) [a0,a1,a2,a3,.arr (some 4) (Tm.pvs l) false]:=by
 refine⟨[a0,a1,a2,a3,.arr (some 4) (Tm.pvs l) true],?_⟩
 have e2:∀p hp,AV.freeze deep (.pv (some 4) p) hp=some (p,hp):=fun _ _=>rfl
 simp[AV.freezeRes,zal,e2,AV.freeze,deep,Tm.pvs_len,pvs,AV.shp]
theorem zqu(t:Tm)(hv:t.valid=true)(hp:Heap):S 11 [t.av] hp=some (.ret (.tuple [.pv none (.sl (some 4) (Tm.pvs (els t))),(tl t).av]),hp):=by
 refine zar rfl rfl rfl (zad [(some 4,t.pv)]) rfl ?_
 have hz:=valid_size hv
 have hlen:=ztU _ t rfl
 have h1:=fun hp=>za6 t hp (by omega)
 have hn0:∀H:Heap,zbW (some 4) H=some (.sl (some 4) H.length 0 0 0,H++[.arr (some 4) [] false]):=fun H=>zdg (sh:=some 4) (by decide)
 simp only[Tm.av] at h1
 simp -dsimp -implicitDefEqProofs only[go_sem,seval,↓reduceIte,Tm.av,h1,hv,hn0]
 refine zbk (fun n st=>∃(t1:Tm) (d:List Tm),n=t1.size/\t1.valid=true/\d++els t1=els t/\tl t1=tl t/\st=⟨[(1,.ptr 0 0),(3,.ptr 2 0),(4,.sl (some 4) 4 d.length 0 d.length)],[.box (some 4) (.pv (some 4) t1.pv),.arr (some 4) [] false,.box (some 4) (zg 3),.arr (some 4) [] false,.arr (some 4) (Tm.pvs d) false]⟩) (n:=t.size) ⟨t,[],rfl,hv,rfl,rfl,rfl⟩ ?_
 rintro n st ⟨t1,d,rfl,hv1,he,ht,rfl⟩
 have hdl:=congrArg List.length he
 rw[List.length_append] at hdl
 by_cases h:cs t1
 ·have hlt:=Tm.zvN (zdZ h.2.2)
  have v0:=zaW hv1 (zsh h.2.2)
  have v1:=zaW hv1 (zdZ h.2.2)
  have hcp:=fun hp=>zcT (arg0 t1) hp v0 (fit9 v0)
  have hlim:d.length+1<=lim:=by unfold lim;omega
  have hpl:=Tm.pvs_len d
  have k1:=eq_true h.1
  have k2:=eq_true h.2.1
  have k3:=eq_true (show(t1.args.length:Int)=2 by have:=h.2.2;omega)
  rw[ztS h] at he
  simp only[Tm.av] at hcp
  simp -dsimp -implicitDefEqProofs only[go_sem,seval,↓reduceIte,zg,zam,zax,zag,Tm.pvs_len,k1,k2,k3,hcp,ia0 (Tm.pvs_get (zml h.2.2)),ia1 (Tm.pvs_get (zmm h.2.2)),hpl,hlim]
  refine⟨_,hlt,arg1 t1,d++[arg0 t1],rfl,v1,by rw[<-he,List.append_assoc];rfl,by rw[<-ht,tl_c h],?_⟩
  rw[Tm.zvO,List.length_append]
  rfl
 ·have hcp:=fun hp=>zcT t1 hp hv1 (fit9 hv1)
  rw[ztT h,List.append_nil] at he
  rw[tl_n h] at ht
  simp only[Tm.av] at hcp
  rw[<-he,<-ht]
  by_cases k1:t1.kind=3
  ·have k1':=eq_true k1
   by_cases k2:t1.name=[46]
   ·have k2':=eq_true k2
    have k3':=eq_false (show ¬(t1.args.length:Int)=2 by
     intro e
     exact h ⟨k1,k2,by omega⟩)
    simp -dsimp -implicitDefEqProofs only[go_sem,seval,↓reduceIte,zg,zam,zax,zag,Tm.pvs_len,k1',k2',k3',hcp]
    exact zfw
   ·have k2':=eq_false k2
    simp -dsimp -implicitDefEqProofs only[go_sem,seval,↓reduceIte,zg,zam,zax,zag,Tm.pvs_len,k1',k2',hcp]
    exact zfw
  ·have k1':=eq_false k1
   simp -dsimp -implicitDefEqProofs only[go_sem,seval,↓reduceIte,zg,zam,zax,zag,Tm.pvs_len,k1',hcp]
   exact zfw
def ll(t:Tm):Prop:=(tl t).kind=0\/((tl t).kind=2/\(tl t).name=[91,93])
instance (t:Tm):Decidable (ll t):=inferInstanceAs (Decidable (_\/_))
def mx(x y:Int):Int:=if x<y then y else x
theorem zsk(hp:Heap)(x:Int):S 77 [.pv none (.int .i64 x)] hp=some (.ret (.pv none (.bool false)),hp):=by
 refine zar rfl rfl rfl (zad [(none,.int .i64 x)]) rfl ?_
 (repeat' (first|(simp -dsimp -implicitDefEqProofs only[go_sem,seval,↓reduceIte, *])|(refine zat (fun _=> ?_) (fun _=> ?_))))
theorem zqo(hp:Heap)(x y:Int):S 65 [.pv none (.int .i64 x),.pv none (.int .i64 y)] hp=some (.ret (.pv none (.int .i64 (cmpI x y))),hp):=by
 refine zar rfl rfl rfl (zad [(none,.int .i64 x),(none,.int .i64 y)]) rfl ?_
 (repeat' (first|(simp -dsimp -implicitDefEqProofs only[go_sem,seval,↓reduceIte,zsk,cmpI, *])|(refine zat (fun _=> ?_) (fun _=> ?_))))
theorem zkg(hp:Heap)(x y:List UInt8):S 79 [.pv none (.str x),.pv none (.str y)] hp=some (.ret (.pv none (.int .i64 (Lib.compareBytes x y))),hp):=by
 refine zar rfl rfl rfl (zad [(none,.str x),(none,.str y)]) rfl ?_
 have h:∀hp,S 89 [.pv none (.str x),.pv none (.str y)] hp=some (.ret (.pv none (.int .i64 (Lib.compareBytes x y))),hp):=fun hp=>(ziL (p:=ziE) rfl _ _).trans rfl
 (repeat' (first|(simp -dsimp -implicitDefEqProofs only[go_sem,seval,↓reduceIte, *])|(refine zat (fun _=> ?_) (fun _=> ?_))))
theorem zfv(hp:Heap)(x y:List UInt8):S 67 [.pv none (.str x),.pv none (.str y)] hp=some (.ret (.pv none (.int .i64 (Lib.compareBytes x y))),hp):=by
 refine zar rfl rfl rfl (zad [(none,.str x),(none,.str y)]) rfl ?_
 (repeat' (first|(simp -dsimp -implicitDefEqProofs only[go_sem,seval,↓reduceIte,zkg, *])|(refine zat (fun _=> ?_) (fun _=> ?_))))
theorem zkh(a b:Tm)(ih:∀u,u∈a.args->∀(b:Tm) (hp:Heap),u.size<1000000000->u.fits=true->b.fits=true->S 40 [u.av,b.av] hp=some (.ret (.pv none (.int .i64 (u.cmp b))),hp))
  (ha:a.size<1000000000)(fa:a.fits=true)(fb:b.fits=true)(hlb:a.args.length=b.args.length)(p:PV)(fr:Fr)(Q:AExit->St->Prop)
  (hfr:fr.keep [3,57,58,59]=[(3,.ptr 1 0),(57,.pv none (.sl (some 4) (Tm.pvs a.args))),(58,.pv none (.int .i64 (a.args.length:Int))),(59,.pv none (.int .i64 0))])
  (h:Tm.cmps a.args b.args=0->∀fr hp,Q (.exit 0) ⟨fr,hp⟩)(h':Tm.cmps a.args b.args≠0->∀hp r,Q .ret ⟨(4,.pv none (.int .i64 (Tm.cmps a.args b.args)))::r,hp⟩):
  W (sem (find tab) prim) (sloop (find tab) prim) 0 (.loop [3,57,58,59] c40b27) ⟨fr,[.box (some 4) (.pv (some 4) a.pv),.box (some 4) (.pv (some 4) b.pv),.box (some 4) (.pv (some 4) p)]⟩ Q:=by
 have hts:=a.size_eq
 have hlen:=Tm.zvK a.args
 refine zbk (fun n st=>∃(i:Nat),n=a.args.length - i/\i<=a.args.length/\Tm.cmps a.args b.args=Tm.cmps (a.args.drop i) (b.args.drop i)/\
  st=⟨[(3,.ptr 1 0),(57,.pv none (.sl (some 4) (Tm.pvs a.args))),(58,.pv none (.int .i64 (a.args.length:Int))),(59,.pv none (.int .i64 i))],[.box (some 4) (.pv (some 4) a.pv),.box (some 4) (.pv (some 4) b.pv),.box (some 4) (.pv (some 4) p)]⟩) (n:=a.args.length) ⟨0,rfl,Nat.zero_le _,rfl,?_⟩ ?_
 ·rw[hfr]
  rfl
 ·rintro n st ⟨i,hn,hi,he,rfl⟩
  by_cases hi':i<a.args.length
  ·have hc:(i:Int)<(a.args.length:Int):=by omega
   obtain⟨u,hu⟩:∃u,a.args[i]? =some u:=⟨_,List.getElem?_eq_getElem hi'⟩
   obtain⟨w,hw⟩:∃w,b.args[i]? =some w:=⟨_,List.getElem?_eq_getElem (by omega)⟩
   have hum:=List.mem_of_getElem? hu
   have husz:=Tm.zvN hum
   have hcall:=fun hp=>ih u hum w hp (by omega) (Tm.zvM fa hum) (Tm.zvM fb (List.mem_of_getElem? hw))
   simp only[Tm.av] at hcall
   have w2:IntKind.i64.wrap ((i:Int)+1)=((i+1:Nat):Int):=by rw[zao (by omega) (by omega)];omega
   rw[Tm.zv3 hu hw] at he
   by_cases h0:u.cmp w=0
   ·rw[h0,zfq] at he
    simp -dsimp -implicitDefEqProofs only[c40b27,go_sem,seval,↓reduceIte,zag,Tm.pvs_len,hc,zac (Tm.pvs_get hu),zac (Tm.pvs_get hw),hcall,w2,h0]
    refine⟨a.args.length - (i+1),by omega,i+1,rfl,by omega,he,?_⟩
    rfl
   ·simp -dsimp -implicitDefEqProofs only[c40b27,go_sem,seval,↓reduceIte,zag,Tm.pvs_len,hc,zac (Tm.pvs_get hu),zac (Tm.pvs_get hw),hcall,w2,h0]
    rw[ziM h0] at he
    have:=h' (by rw[he];exact h0)
    rw[he] at this
    exact this _ _
  ·have hc:¬(i:Int)<(a.args.length:Int):=by omega
   obtain rfl:i=a.args.length:=by omega
   simp -dsimp -implicitDefEqProofs only[c40b27,go_sem,seval,↓reduceIte,zag,Tm.pvs_len,hc]
   rw[List.drop_length,Tm.zvW] at he
   exact h he _ _

set_option maxHeartbeats 4000000 in
theorem zhW:∀(a b:Tm) (hp:Heap),a.size<1000000000->a.fits=true->b.fits=true->S 40 [a.av,b.av] hp=some (.ret (.pv none (.int .i64 (a.cmp b))),hp):=by
 intro a
 induction a using Tm.zvL with
 |h a ih=>
  intro b hp ha fa fb
  refine zar rfl rfl rfl (zad [(some 4,a.pv),(some 4,b.pv)]) rfl ?_
  rw[Tm.zvY]
  have loop:=zkh a b ih ha fa fb
  clear ih
  have hb:za7 [(none,(.pv none (.int .i64 (0)))),(none,(.pv none (.int .i64 (0)))),(none,(.pv none (.int .i64 (0)))),(none,(.pv none (.int .i64 (0))))] [0,1,2,3] [.pv none (.int .i64 (0)),.pv none (.int .i64 (1)),.pv none (.int .i64 (2)),.pv none (.int .i64 (3))]=some (.pv (some 4) (.agg [(none,.int .i64 0),(none,.int .i64 1),(none,.int .i64 2),(none,.int .i64 3)])):=rfl
  have h0:∀r:Nat,zbP none 4 [.ptr r 0,.pv none (.int .i64 0)]=some (.ptr r 0):=fun r=>rfl
  have h1:∀r:Nat,zbP none 4 [.ptr r 0,.pv none (.int .i64 1)]=some (.ptr r 1):=fun r=>by rw[zdC none (by decide)];simp[Sh.size]
  have h2:∀r:Nat,zbP none 4 [.ptr r 0,.pv none (.int .i64 2)]=some (.ptr r 2):=fun r=>by rw[zdC none (by decide)];simp[Sh.size]
  have h3:∀r:Nat,zbP none 4 [.ptr r 0,.pv none (.int .i64 3)]=some (.ptr r 3):=fun r=>by rw[zdC none (by decide)];simp[Sh.size]
  have hc:=zqe
  have hcmp:=zqo
  have hcmp64:=zgT
  have hstr:=zfv
  have fin:Kept (a.name=[]->a.args=[]->b.name=[]->b.args=[]->AV.pv none (.int .i64 (cmpI a.n b.n))=AV.pv none (.int .i64 (if cmpI a.n b.n=0 then if cmpI (a.args.length:Int) (b.args.length:Int)=0 then if Lib.compareBytes a.name b.name=0 then Tm.cmps a.args b.args else Lib.compareBytes a.name b.name else cmpI (a.args.length:Int) (b.args.length:Int) else cmpI a.n b.n))):=by
   intro h1 h2 h3 h4
   rw[h1,h2,h3,h4]
   simp only[show cmpI (([]:List Tm).length:Int) (([]:List Tm).length:Int)=0 from by decide,Lib.compareBytes,Tm.cmps,if_true]
   split <;> simp_all
  have hlen:Kept (cmpI (a.args.length:Int) (b.args.length:Int)=0->a.args.length=b.args.length):=fun h=>by have:=cmpI_zero.1 h;omega
  rcases Tm.zv7 fa with⟨ka,xa,ya⟩|⟨ka,xa,ya⟩|⟨ka,xa,ya⟩|⟨ka,xa⟩ <;>
  rcases Tm.zv7 fb with⟨kb,xb,yb⟩|⟨kb,xb,yb⟩|⟨kb,xb,yb⟩|⟨kb,xb⟩ <;> (try replace ya:=Kept.mk ya) <;> (try replace yb:=Kept.mk yb) <;> (try replace xa:=Kept.mk (show a.name=[] from xa)) <;> (try replace xb:=Kept.mk (show b.name=[] from xb))
  all_goals (repeat' (first|(simp -dsimp -implicitDefEqProofs only[go_sem,seval,↓reduceIte,zam,zaN,zax,zag,Tm.pvs_len,zcp, *])|(refine zat (fun _=> ?_) (fun _=> ?_))))
  all_goals first
   |(exact fin xa ya xb yb)
   |(refine loop (hlen.out (by assumption)) _ _ _ rfl (fun hz fr hp=> ?_) (fun hz hp r=> ?_) <;> simp -dsimp -implicitDefEqProofs only[go_sem,seval,↓reduceIte,zcp,zcB, *])
   |trace_state
theorem zdN(fv:AV)(hp:Heap)(r:Nat)(hr:r<hp.length)(a b n N:Nat)(P X M Y R:List PV)(hP:P.length=a)(hX:X.length=n)(hY:Y.length=n)(hb:b=a+n+M.length)(hN:N=(P++X++M++Y++R).length)(hN':N<1000000000):
  S 103 [.sl (some 4) r N 0 N,.pv none (.int .i64 a),.pv none (.int .i64 b),.pv none (.int .i64 n),fv] (hp.set r (.arr (some 4) (P++X++M++Y++R) false))=some (.ret (.tuple []),hp.set r (.arr (some 4) (P++Y++M++X++R) false)):=by
 refine zaI rfl rfl rfl rfl ?_
 have e1:∀A,(hp.set r A)[r]? =some A:=fun A=>by simp[hr]
 have hNl:N=P.length+n+M.length+n+R.length:=by rw[hN];simp[hX,hY];omega
 simp -dsimp -implicitDefEqProofs only[go_sem,seval,↓reduceIte]
 refine zbk (fun k st=>∃(i:Nat) (X1 X2 Y1 Y2:List PV),k=n - i/\i<=n/\X=X1++X2/\Y=Y1++Y2/\X1.length=i/\Y1.length=i/\st=⟨[(0,.sl (some 4) r N 0 N),(1,.pv none (.int .i64 a)),(2,.pv none (.int .i64 b)),(3,.pv none (.int .i64 n)),(10,.pv none (.int .i64 i))],hp.set r (.arr (some 4) (P++Y1++X2++M++X1++Y2++R) false)⟩) (n:=n) ⟨0,[],X,[],Y,rfl,Nat.zero_le _,rfl,rfl,rfl,rfl,?_⟩ ?_
 ·simp -dsimp -implicitDefEqProofs only[go_sem,seval,↓reduceIte]
  simp
 ·rintro k st ⟨i,X1,X2,Y1,Y2,hk,hi,eX,eY,lX,lY,rfl⟩
  have l2X:X2.length=n - i:=by rw[eX] at hX;simp at hX;omega
  have l2Y:Y2.length=n - i:=by rw[eY] at hY;simp at hY;omega
  have hlen:(P++Y1++X2++M++X1++Y2++R).length=N:=by simp;omega
  by_cases h:i<n
  ·have hc:(i:Int)<(n:Int):=by omega
   obtain⟨x,X2,rfl⟩:∃x l,X2=x::l:=by cases X2 with|nil=>simp at l2X;omega|cons x l=>exact⟨x,l,rfl⟩
   obtain⟨y,Y2,rfl⟩:∃x l,Y2=x::l:=by cases Y2 with|nil=>simp at l2Y;omega|cons x l=>exact⟨x,l,rfl⟩
   have w1:IntKind.i64.wrap ((a:Int)+(i:Int))=((a+i:Nat):Int):=by rw[zao (by omega) (by omega)];omega
   have w2:IntKind.i64.wrap ((b:Int)+(i:Int))=((b+i:Nat):Int):=by rw[zao (by omega) (by omega)];omega
   have w3:IntKind.i64.wrap ((i:Int)+1)=((i+1:Nat):Int):=by rw[zao (by omega) (by omega)];omega
   have la:a+i<N:=by omega
   have lb:b+i<N:=by omega
   have s1:P++Y1++x::X2++M++X1++y::Y2++R=(P++Y1)++x::(X2++M++X1++y::Y2++R):=by simp
   have s2:P++Y1++x::X2++M++X1++y::Y2++R=(P++Y1++x::X2++M++X1)++y::(Y2++R):=by simp
   have g1:(P++Y1++x::X2++M++X1++y::Y2++R)[a+i]? =some x:=by rw[s1];exact zdG (by simp;omega)
   have g2:(P++Y1++x::X2++M++X1++y::Y2++R)[b+i]? =some y:=by rw[s2];exact zdG (by simp at l2X ⊢;omega)
   have g3:((P++Y1++x::X2++M++X1++y::Y2++R).set (a+i) y).set (b+i) x=P++(Y1++[y])++X2++M++(X1++[x])++Y2++R:=by
    rw[s1,zdH (by simp;omega)]
    have s3:(P++Y1)++y::(X2++M++X1++y::Y2++R)=(P++Y1++y::X2++M++X1)++y::(Y2++R):=by simp
    rw[s3,zdH (by simp at l2X ⊢;omega)]
    simp
   generalize hxs:P++Y1++x::X2++M++X1++y::Y2++R=xs at g1 g2 g3 hlen ⊢
   simp -dsimp -implicitDefEqProofs only[go_sem,seval,↓reduceIte,hc,w1,w2,w3,zaq la,zaq lb,zaO,zcR,e1,g1,g2,hlen,List.length_set,List.set_set,la,lb,g3]
   refine⟨n - (i+1),by omega,i+1,X1++[x],X2,Y1++[y],Y2,rfl,by omega,by simp[eX],by simp[eY],by simp[lX],by simp[lY],?_⟩
   rw[zaC (by simp)]
  ·have hc:¬(i:Int)<(n:Int):=by omega
   obtain rfl:i=n:=by omega
   have:X2=[]:=List.length_eq_zero_iff.1 (by omega)
   subst this
   have:Y2=[]:=List.length_eq_zero_iff.1 (by omega)
   subst this
   simp -dsimp -implicitDefEqProofs only[go_sem,seval,↓reduceIte,hc]
   rw[List.take_of_length_le (by simp)]
   simp[eX,eY]

theorem zq2(fv:AV)(hp:Heap)(r:Nat)(hr:r<hp.length)(a m b N:Nat)(P U V R:List PV)(hP:P.length=a)(hU:m=a+U.length)(hV:b=m+V.length)(hN:N=(P++U++V++R).length)(hN':N<1000000000)(hU0:0<U.length)(hV0:0<V.length):
  S 98 [.sl (some 4) r N 0 N,.pv none (.int .i64 a),.pv none (.int .i64 m),.pv none (.int .i64 b),fv] (hp.set r (.arr (some 4) (P++U++V++R) false))=some (.ret (.tuple []),hp.set r (.arr (some 4) (P++V++U++R) false)):=by
 refine zaI rfl rfl rfl rfl ?_
 have hNl:N=P.length+U.length+V.length+R.length:=by(rw[hN];simp <;> omega)
 have w1:IntKind.i64.wrap ((m:Int) - (a:Int))=((U.length:Nat):Int):=by rw[zao (by omega) (by omega)];omega
 have w2:IntKind.i64.wrap ((b:Int) - (m:Int))=((V.length:Nat):Int):=by rw[zao (by omega) (by omega)];omega
 simp -dsimp -implicitDefEqProofs only[go_sem,seval,↓reduceIte,w1,w2]
 refine zbk (fun k st=>∃(i j:Nat) (P' X Y R':List PV),k=i+j/\0<i/\0<j/\X.length=i/\Y.length=j/\P'.length+i=m/\P'++Y++X++R'=P++V++U++R/\(P'++X++Y++R').length=N/\st=⟨[(0,.sl (some 4) r N 0 N),(2,.pv none (.int .i64 m)),(4,fv),(10,.pv none (.int .i64 i)),(11,.pv none (.int .i64 j))],hp.set r (.arr (some 4) (P'++X++Y++R') false)⟩) (n:=U.length+V.length) ⟨U.length,V.length,P,U,V,R,rfl,hU0,hV0,rfl,rfl,by omega,rfl,hN.symm,?_⟩ ?_
 ·simp -dsimp -implicitDefEqProofs only[go_sem,seval,↓reduceIte]
 ·rintro k st ⟨i,j,P',X,Y,R',hk,i0,j0,lX,lY,lP,hT,hL,rfl⟩
  have hLn:P'.length+i+j+R'.length=N:=by(rw[<-hL];simp <;> omega)
  by_cases hij:i=j
  ·have hc:(i:Int)=(j:Int):=by omega
   have w3:IntKind.i64.wrap ((m:Int) - (j:Int))=((P'.length:Nat):Int):=by rw[zao (by omega) (by omega)];omega
   have hcall:=zdN fv hp r hr P'.length m j N P' X [] Y R' rfl (by omega) (by omega) (by(simp <;> omega)) (by simp at hL ⊢;omega) hN'
   simp only[List.append_nil] at hcall
   rw[hT] at hcall
   simp -dsimp -implicitDefEqProofs only[go_sem,seval,↓reduceIte,hc,w3,hcall]
   rw[List.take_of_length_le (by simp)]
  ·have hc:¬(i:Int)=(j:Int):=by omega
   by_cases hgt:j<i
   ·have hc2:(j:Int)<(i:Int):=by omega
    have w3:IntKind.i64.wrap ((m:Int) - (i:Int))=((P'.length:Nat):Int):=by rw[zao (by omega) (by omega)];omega
    have w4:IntKind.i64.wrap ((i:Int) - (j:Int))=((i - j:Nat):Int):=by rw[zao (by omega) (by omega)];omega
    have eX:X=X.take j++X.drop j:=(List.take_append_drop j X).symm
    have hcall:=zdN fv hp r hr P'.length m j N P' (X.take j) (X.drop j) Y R' rfl (by(simp <;> omega)) (by omega) (by(simp <;> omega)) (by(rw[<-hL];simp <;> omega)) hN'
    have e0:P'++X.take j++X.drop j++Y++R'=P'++X++Y++R':=by simp
    rw[e0] at hcall
    simp -dsimp -implicitDefEqProofs only[go_sem,seval,↓reduceIte,hc,hc2,w3,w4,hcall]
    refine⟨i - j+j,by omega,i - j,j,P'++Y,X.drop j,X.take j,R',rfl,by omega,by omega,by(simp <;> omega),by(simp <;> omega),by(simp <;> omega),?_,?_,?_⟩
    ·rw[<-hT];simp
    ·rw[<-hL];simp <;> omega
    ·rw[zaC (by simp)]
   ·have hc2:¬(j:Int)<(i:Int):=by omega
    have w3:IntKind.i64.wrap ((m:Int) - (i:Int))=((P'.length:Nat):Int):=by rw[zao (by omega) (by omega)];omega
    have w4:IntKind.i64.wrap ((j:Int) - (i:Int))=((j - i:Nat):Int):=by rw[zao (by omega) (by omega)];omega
    have w5:IntKind.i64.wrap ((m:Int)+(j:Int))=((m+j:Nat):Int):=by rw[zao (by omega) (by omega)];omega
    have w6:IntKind.i64.wrap (((m+j:Nat):Int) - (i:Int))=((m+j - i:Nat):Int):=by rw[zao (by omega) (by omega)];omega
    have hcall:=zdN fv hp r hr P'.length (m+j - i) i N P' X (Y.take (j - i)) (Y.drop (j - i)) R' rfl lX (by(simp <;> omega)) (by(simp <;> omega)) (by(rw[<-hL];simp <;> omega)) hN'
    have e0:P'++X++Y.take (j - i)++Y.drop (j - i)++R'=P'++X++Y++R':=by simp
    rw[e0] at hcall
    simp -dsimp -implicitDefEqProofs only[go_sem,seval,↓reduceIte,hc,hc2,w3,w4,w5,w6,hcall]
    refine⟨i+(j - i),by omega,i,j - i,P',Y.drop (j - i),Y.take (j - i),X++R',rfl,by omega,by omega,by(simp <;> omega),by(simp <;> omega),by omega,?_,?_,?_⟩
    ·rw[<-hT];simp
    ·rw[<-hL];simp <;> omega
    ·rw[zaC (by simp)];simp

def CmpF(c:PV->PV->Int)(fv:AV)(D:PV->Prop)(hp:Heap)(r:Nat):Prop:=∃g fs cs,za5 fv=some (g,fs,cs)/\∀x y,D x->D y->∀A,S g (fs++[.pv (some 4) x,.pv (some 4) y]++cs) (hp.set r A)=some (.ret (.pv none (.int .i64 (c x y))),hp.set r A)

theorem zsG(c:PV->PV->Int)(hC:Cmp c)(fv:AV)(D:PV->Prop)(hp:Heap)(r:Nat)(hg:CmpF c fv D hp r)(hr:r<hp.length)(a b i N:Nat)(P S1 R:List PV)(t:PV)(hP:P.length=a)(hs:Srt c S1)(hi:i=a+S1.length)(hN:N=(P++S1++t::R).length)(hN':N<1000000000)(hD:∀x∈S1,D x)(hDt:D t)
  (fr:Fr)(Q:AExit->St->Prop)
  (hfr:fr.keep [0,1,2,3,8,9]=[(0,.sl (some 4) r N 0 N),(1,.pv none (.int .i64 a)),(2,.pv none (.int .i64 b)),(3,fv),(8,.pv none (.int .i64 i)),(9,.pv none (.int .i64 i))])
  (h:∀rest,Q (.exit 2) ⟨(0,.sl (some 4) r N 0 N)::(1,.pv none (.int .i64 a))::(2,.pv none (.int .i64 b))::(3,fv)::(8,.pv none (.int .i64 i))::rest,hp.set r (.arr (some 4) (P++insC c t S1++R) false)⟩):
  W Z L hp.length (.loop [0,1,2,3,8,9] c94b9) ⟨fr,hp.set r (.arr (some 4) (P++S1++t::R) false)⟩ Q:=by
 have e1:∀A,(hp.set r A)[r]? =some A:=fun A=>by simp[hr]
 have hNl:N=P.length+S1.length+R.length+1:=by rw[hN];simp;omega
 refine zbk (fun k st=>∃(L1 M:List PV),k=L1.length/\S1=L1++M/\(∀m∈M,c t m<0)/\st=⟨[(0,.sl (some 4) r N 0 N),(1,.pv none (.int .i64 a)),(2,.pv none (.int .i64 b)),(3,fv),(8,.pv none (.int .i64 i)),(9,.pv none (.int .i64 ((a+L1.length:Nat):Int)))],hp.set r (.arr (some 4) (P++L1++t::M++R) false)⟩) (n:=S1.length) ⟨S1,[],rfl,by simp,by simp,?_⟩ ?_
 ·rw[hfr,hi]
  simp
 ·rintro k st ⟨L1,M,hk,hS,hM,rfl⟩
  have hSl:S1.length=L1.length+M.length:=by rw[hS];simp
  have hlen:(P++L1++t::M++R).length=N:=by simp;omega
  have fin:(∀x∈L1,¬c t x<0)->P++insC c t S1++R=P++L1++t::M++R:=fun hx=>by
   rw[hS,zhS hx hM];simp
  rcases zej L1 with rfl|⟨L2,x,rfl⟩
  ·have hc:¬((a:Nat):Int)<((a+([]:List PV).length:Nat):Int):=by simp
   have hf:=fin (by simp)
   rw[hf] at h
   simp -dsimp -implicitDefEqProofs only[c94b9,go_sem,seval,↓reduceIte,hc,Int.lt_irrefl]
   exact h _
  ·have hxl:(L2++[x]).length=L2.length+1:=by simp
   have hc:((a:Nat):Int)<((a+(L2++[x]).length:Nat):Int):=by rw[hxl];omega
   have w1:IntKind.i64.wrap (((a+(L2++[x]).length:Nat):Int) - 1)=((a+L2.length:Nat):Int):=by rw[zao (by omega) (by omega)];omega
   have la:a+(L2++[x]).length<N:=by omega
   have lb:a+L2.length<N:=by omega
   have s1:P++(L2++[x])++t::M++R=(P++(L2++[x]))++t::(M++R):=by simp
   have s2:P++(L2++[x])++t::M++R=(P++L2)++x::(t::M++R):=by simp
   have g1:(P++(L2++[x])++t::M++R)[a+(L2++[x]).length]? =some t:=by rw[s1];exact zdG (by simp;omega)
   have g2:(P++(L2++[x])++t::M++R)[a+L2.length]? =some x:=by rw[s2];exact zdG (by simp;omega)
   have hxm:x∈S1:=by rw[hS];simp
   obtain⟨g,fs,cs,hcal,hg'⟩:=hg
   have hcall:=hg' t x hDt (hD x hxm)
   by_cases hlt:c t x<0
   ·have g3:((P++(L2++[x])++t::M++R).set (a+(L2++[x]).length) x).set (a+L2.length) t=P++L2++t::(x::M)++R:=by
     rw[s1,zdH (by simp;omega)]
     have s3:(P++(L2++[x]))++x::(M++R)=(P++L2)++x::(x::M++R):=by simp
     rw[s3,zdH (by simp;omega)]
     simp
    generalize hxs:P++(L2++[x])++t::M++R=xs at g1 g2 g3 hlen ⊢
    simp -dsimp -implicitDefEqProofs only[c94b9,go_sem,seval,↓reduceIte,hc,w1,zaq la,zaq lb,zaO,zcR,e1,g1,g2,hlen,List.length_set,List.set_set,la,lb,g3,hcall,zcc hcal,hlt]
    refine⟨L2.length,by omega,L2,x::M,rfl,by rw[hS];simp,?_,?_⟩
    ·intro m hm
     rcases List.mem_cons.1 hm with rfl|hm
     ·exact hlt
     ·exact hM m hm
    ·rw[zaC (by simp)]
   ·have hf:=fin (fun y hy=>by
     rcases List.mem_append.1 hy with hy|hy
     ·have hyx:c y x<=0:=by
       rw[hS] at hs
       have:=(List.pairwise_append.1 (List.pairwise_append.1 hs).1).2.2 y hy x (by simp)
       exact this
      intro hty
      have:=hC.lt_of_lt_le hty hyx
      exact hlt this
     ·simp at hy;subst hy;exact hlt)
    rw[hf] at h
    generalize hxs:P++(L2++[x])++t::M++R=xs at g1 g2 hlen h ⊢
    simp -dsimp -implicitDefEqProofs only[c94b9,go_sem,seval,↓reduceIte,hc,w1,zaq la,zaq lb,zaO,e1,g1,g2,hlen,hcall,zcc hcal,hlt]
    exact h _

theorem zf0(c:PV->PV->Int)(hC:Cmp c)(fv:AV)(D:PV->Prop)(hp:Heap)(r:Nat)(hg:CmpF c fv D hp r)(hr:r<hp.length)(a b N:Nat)(P A R:List PV)(hP:P.length=a)(hA:b=a+A.length)(hN:N=(P++A++R).length)(hN':N<1000000000)(hD:∀x∈A,D x):
  S 94 [.sl (some 4) r N 0 N,.pv none (.int .i64 a),.pv none (.int .i64 b),fv] (hp.set r (.arr (some 4) (P++A++R) false))=some (.ret (.tuple []),hp.set r (.arr (some 4) (P++isort c A++R) false)):=by
 refine zaI rfl rfl rfl rfl ?_
 have hNl:N=P.length+A.length+R.length:=by(rw[hN];simp <;> omega)
 have hsl:(hp.set r (.arr (some 4) (P++A++R) false)).length=hp.length:=by simp
 have w0:IntKind.i64.wrap ((a:Int)+1)=((a+1:Nat):Int):=by rw[zao (by omega) (by omega)];omega
 rw[hsl]
 simp -dsimp -implicitDefEqProofs only[c94b9,go_sem,seval,↓reduceIte,w0]
 refine zbk (fun n st=>∃k:Nat,n=A.length - k/\1<=k/\st=⟨[(0,.sl (some 4) r N 0 N),(1,.pv none (.int .i64 a)),(2,.pv none (.int .i64 b)),(3,fv),(8,.pv none (.int .i64 ((a+k:Nat):Int)))],hp.set r (.arr (some 4) (P++isort c (A.take k)++A.drop k++R) false)⟩) (n:=A.length - 1) ⟨1,rfl,Nat.le_refl _,?_⟩ ?_
 ·simp -dsimp -implicitDefEqProofs only[go_sem,seval,↓reduceIte]
  cases A with
  |nil=>simp[isort]
  |cons x A=>simp[isort,insC]
 ·rintro n st ⟨k,hn,hk,rfl⟩
  by_cases h:k<A.length
  ·have hc:((a+k:Nat):Int)<(b:Int):=by omega
   obtain⟨t,R1,hd⟩:∃t R1,A.drop k=t::R1:=⟨A[k],A.drop (k+1),List.drop_eq_getElem_cons h⟩
   have hd1:A.drop (k+1)=R1:=by rw[<-List.drop_drop,hd];rfl
   have ht:A.take (k+1)=A.take k++[t]:=by
    have:A[k]? =some t:=by have:=congrArg List.head? hd;simpa using this
    rw[List.take_add_one,this];rfl
   have w3:IntKind.i64.wrap (((a+k:Nat):Int)+1)=((a+(k+1):Nat):Int):=by rw[zao (by omega) (by omega)];omega
   have hlk:(isort c (A.take k)).length=k:=by rw[zaw];simp;omega
   have e0:P++isort c (A.take k)++A.drop k++R=P++isort c (A.take k)++t::(R1++R):=by rw[hd];simp
   have hmem:∀x∈isort c (A.take k),D x:=fun x hx=>hD x (List.mem_of_mem_take ((zbN _).mem_iff.1 hx))
   have htm:D t:=hD t (List.mem_of_mem_drop (show t∈A.drop k from by rw[hd];simp))
   simp -dsimp -implicitDefEqProofs only[go_sem,seval,↓reduceIte,hc]
   rw[e0]
   refine zsG c hC fv D hp r hg hr a b (a+k) N P (isort c (A.take k)) (R1++R) t hP (zcd hC _) (by omega) (by rw[<-e0];simp[hlk];omega) hN' hmem htm _ _ rfl fun rest=> ?_
   simp -dsimp -implicitDefEqProofs only[go_sem,seval,↓reduceIte,w3]
   refine⟨A.length - (k+1),by omega,k+1,rfl,by omega,?_⟩
   rw[zaC (by simp),ht,zhR,hd1]
   simp
  ·have hc:¬((a+k:Nat):Int)<(b:Int):=by omega
   simp -dsimp -implicitDefEqProofs only[go_sem,seval,↓reduceIte,hc]
   rw[List.take_of_length_le (by simp),List.take_of_length_le (by omega),List.drop_eq_nil_of_le (by omega)]
   simp
theorem zvd(c:PV->PV->Int)(fv:AV)(D:PV->Prop)(hp:Heap)(r:Nat)(hg:CmpF c fv D hp r)(hr:r<hp.length)(xs:List PV)(N a i0 j0:Nat)(hN:xs.length=N)(hN':N<1000000000)(ha:a<N)(hj:j0<=N)(hij:i0<=j0)(hD:∀h,h<N->D (at' xs h))
  (hm:∀h h',i0<=h'->h'<=h->h<j0->c (at' xs h) (at' xs a)<0->c (at' xs h') (at' xs a)<0)
  (fr:Fr)(Q:AExit->St->Prop)
  (hfr:fr.keep [0,1,4,10,11]=[(0,.sl (some 4) r N 0 N),(1,.pv none (.int .i64 a)),(4,fv),(10,.pv none (.int .i64 i0)),(11,.pv none (.int .i64 j0))])
  (h:∀k,i0<=k->k<=j0->(∀h,i0<=h->h<k->c (at' xs h) (at' xs a)<0)->(∀h,k<=h->h<j0->¬c (at' xs h) (at' xs a)<0)->∀rest,Q (.exit 0) ⟨(0,.sl (some 4) r N 0 N)::(1,.pv none (.int .i64 a))::(4,fv)::(10,.pv none (.int .i64 k))::rest,hp.set r (.arr (some 4) xs false)⟩):
  W Z L hp.length (.loop [0,1,4,10,11] c95b11) ⟨fr,hp.set r (.arr (some 4) xs false)⟩ Q:=by
 have e1:∀A,(hp.set r A)[r]? =some A:=fun A=>by simp[hr]
 refine zbk (fun n st=>∃i j:Nat,n=j - i/\i0<=i/\i<=j/\j<=j0/\(∀h,i0<=h->h<i->c (at' xs h) (at' xs a)<0)/\(∀h,j<=h->h<j0->¬c (at' xs h) (at' xs a)<0)/\
  st=⟨[(0,.sl (some 4) r N 0 N),(1,.pv none (.int .i64 a)),(4,fv),(10,.pv none (.int .i64 i)),(11,.pv none (.int .i64 j))],hp.set r (.arr (some 4) xs false)⟩) (n:=j0 - i0) ⟨i0,j0,rfl,by omega,hij,by omega,fun h h1 h2=>by omega,fun h h1 h2=>by omega,?_⟩ ?_
 ·rw[hfr]
 ·rintro n st ⟨i,j,hn,h1,h2,h3,h4,h5,rfl⟩
  by_cases hlt:i<j
  ·have hc:(i:Int)<(j:Int):=by omega
   have w1:IntKind.i64.wrap ((i:Int)+(j:Int))=((i+j:Nat):Int):=by rw[zao (by omega) (by omega)];omega
   have w2:IntKind.u64.wrap ((i+j:Nat):Int)=((i+j:Nat):Int):=zeP (by omega) (by omega)
   have w3:IntKind.i64.wrap (((i+j:Nat):Int) / 2)=(((i+j) / 2:Nat):Int):=by rw[zao (by omega) (by omega)];omega
   have w4:IntKind.i64.wrap ((((i+j) / 2:Nat):Int)+1)=(((i+j) / 2+1:Nat):Int):=by rw[zao (by omega) (by omega)];omega
   have lh:(i+j) / 2<N:=by omega
   have gh:=zek (xs:=xs) (i:=(i+j) / 2) (by omega)
   have ga:=zek (xs:=xs) (i:=a) (by omega)
   obtain⟨g,fs,cs,hcal,hg'⟩:=hg
   have hcall:=hg' _ _ (hD _ lh) (hD a ha)
   by_cases h0:c (at' xs ((i+j) / 2)) (at' xs a)<0
   ·simp -dsimp -implicitDefEqProofs only[c95b11,c95b19,c95b33,c95b41,c95b62,c95r64,c95r65,c95k67,c95r68,c95k70,c95r71,c95k73,go_sem,seval,↓reduceIte,hc,zea (show 0<IntKind.bits .u64 by decide),w1,w2,w3,w4,zaq lh,zaq ha,zaO,e1,gh,ga,hN,hcall,zcc hcal,h0]
    refine⟨j - ((i+j) / 2+1),by omega,(i+j) / 2+1,j,rfl,by omega,by omega,h3,fun h x1 x2=>hm _ _ x1 (by omega) (by omega) h0,h5,?_⟩
    rw[zaC (by simp)]
   ·simp -dsimp -implicitDefEqProofs only[c95b11,c95b19,c95b33,c95b41,c95b62,c95r64,c95r65,c95k67,c95r68,c95k70,c95r71,c95k73,go_sem,seval,↓reduceIte,hc,zea (show 0<IntKind.bits .u64 by decide),w1,w2,w3,w4,zaq lh,zaq ha,zaO,e1,gh,ga,hN,hcall,zcc hcal,h0]
    refine⟨(i+j) / 2 - i,by omega,i,(i+j) / 2,rfl,h1,by omega,by omega,h4,fun h x1 x2 x3=>h0 (hm _ _ (by omega) x1 x2 x3),?_⟩
    rw[zaC (by simp)]
  ·have hc:¬(i:Int)<(j:Int):=by omega
   obtain rfl:i=j:=by omega
   simp -dsimp -implicitDefEqProofs only[c95b11,c95b19,c95b33,c95b41,c95b62,c95r64,c95r65,c95k67,c95r68,c95k70,c95r71,c95k73,go_sem,seval,↓reduceIte,hc]
   exact h i h1 h3 h4 h5 _
theorem zve(c:PV->PV->Int)(fv:AV)(D:PV->Prop)(hp:Heap)(r:Nat)(hg:CmpF c fv D hp r)(hr:r<hp.length)(xs:List PV)(N m i0 j0:Nat)(hN:xs.length=N)(hN':N<1000000000)(ha:m<N)(hj:j0<=N)(hij:i0<=j0)(hD:∀h,h<N->D (at' xs h))
  (hm:∀h h',i0<=h'->h'<=h->h<j0->¬c (at' xs m) (at' xs h)<0->¬c (at' xs m) (at' xs h')<0)
  (fr:Fr)(Q:AExit->St->Prop)
  (hfr:fr.keep [0,2,4,14,15]=[(0,.sl (some 4) r N 0 N),(2,.pv none (.int .i64 m)),(4,fv),(14,.pv none (.int .i64 i0)),(15,.pv none (.int .i64 j0))])
  (h:∀k,i0<=k->k<=j0->(∀h,i0<=h->h<k->¬c (at' xs m) (at' xs h)<0)->(∀h,k<=h->h<j0->c (at' xs m) (at' xs h)<0)->∀rest,Q (.exit 4) ⟨(0,.sl (some 4) r N 0 N)::(2,.pv none (.int .i64 m))::(4,fv)::(14,.pv none (.int .i64 k))::rest,hp.set r (.arr (some 4) xs false)⟩):
  W Z L hp.length (.loop [0,2,4,14,15] c95b33) ⟨fr,hp.set r (.arr (some 4) xs false)⟩ Q:=by
 have e1:∀A,(hp.set r A)[r]? =some A:=fun A=>by simp[hr]
 refine zbk (fun n st=>∃i j:Nat,n=j - i/\i0<=i/\i<=j/\j<=j0/\(∀h,i0<=h->h<i->¬c (at' xs m) (at' xs h)<0)/\(∀h,j<=h->h<j0->c (at' xs m) (at' xs h)<0)/\
  st=⟨[(0,.sl (some 4) r N 0 N),(2,.pv none (.int .i64 m)),(4,fv),(14,.pv none (.int .i64 i)),(15,.pv none (.int .i64 j))],hp.set r (.arr (some 4) xs false)⟩) (n:=j0 - i0) ⟨i0,j0,rfl,by omega,hij,by omega,fun h h1 h2=>by omega,fun h h1 h2=>by omega,?_⟩ ?_
 ·rw[hfr]
 ·rintro n st ⟨i,j,hn,h1,h2,h3,h4,h5,rfl⟩
  by_cases hlt:i<j
  ·have hc:(i:Int)<(j:Int):=by omega
   have w1:IntKind.i64.wrap ((i:Int)+(j:Int))=((i+j:Nat):Int):=by rw[zao (by omega) (by omega)];omega
   have w2:IntKind.u64.wrap ((i+j:Nat):Int)=((i+j:Nat):Int):=zeP (by omega) (by omega)
   have w3:IntKind.i64.wrap (((i+j:Nat):Int) / 2)=(((i+j) / 2:Nat):Int):=by rw[zao (by omega) (by omega)];omega
   have w4:IntKind.i64.wrap ((((i+j) / 2:Nat):Int)+1)=(((i+j) / 2+1:Nat):Int):=by rw[zao (by omega) (by omega)];omega
   have lh:(i+j) / 2<N:=by omega
   have gh:=zek (xs:=xs) (i:=(i+j) / 2) (by omega)
   have ga:=zek (xs:=xs) (i:=m) (by omega)
   obtain⟨g,fs,cs,hcal,hg'⟩:=hg
   have hcall:=hg' _ _ (hD m ha) (hD _ lh)
   by_cases h0:c (at' xs m) (at' xs ((i+j) / 2))<0
   ·simp -dsimp -implicitDefEqProofs only[c95b11,c95b19,c95b33,c95b41,c95b62,c95r64,c95r65,c95k67,c95r68,c95k70,c95r71,c95k73,go_sem,seval,↓reduceIte,hc,zea (show 0<IntKind.bits .u64 by decide),w1,w2,w3,w4,zaq lh,zaq ha,zaO,e1,gh,ga,hN,hcall,zcc hcal,h0]
    refine⟨(i+j) / 2 - i,by omega,i,(i+j) / 2,rfl,h1,by omega,by omega,h4,fun h x1 x2=>Classical.byContradiction fun x3=>hm _ _ (by omega) x1 x2 x3 h0,?_⟩
    rw[zaC (by simp)]
   ·simp -dsimp -implicitDefEqProofs only[c95b11,c95b19,c95b33,c95b41,c95b62,c95r64,c95r65,c95k67,c95r68,c95k70,c95r71,c95k73,go_sem,seval,↓reduceIte,hc,zea (show 0<IntKind.bits .u64 by decide),w1,w2,w3,w4,zaq lh,zaq ha,zaO,e1,gh,ga,hN,hcall,zcc hcal,h0]
    refine⟨j - ((i+j) / 2+1),by omega,(i+j) / 2+1,j,rfl,by omega,by omega,h3,fun h x1 x2=>hm _ _ x1 (by omega) (by omega) h0,h5,?_⟩
    rw[zaC (by simp)]
  ·have hc:¬(i:Int)<(j:Int):=by omega
   obtain rfl:i=j:=by omega
   simp -dsimp -implicitDefEqProofs only[c95b11,c95b19,c95b33,c95b41,c95b62,c95r64,c95r65,c95k67,c95r68,c95k70,c95r71,c95k73,go_sem,seval,↓reduceIte,hc]
   exact h i h1 h3 h4 h5 _
theorem zs9(c:PV->PV->Int)(fv:AV)(D:PV->Prop)(hp:Heap)(r:Nat)(hg:CmpF c fv D hp r)(hr:r<hp.length)(xs:List PV)(N a m b mid n p i0 j0:Nat)(hN:xs.length=N)(hN':N<1000000000)(hj:j0<=N)(hp1:p<N+i0)(hp2:j0<=p+1)(hij:i0<=j0)(hD:∀h,h<N->D (at' xs h))
  (hm:∀h h',i0<=h'->h'<=h->h<j0->¬c (at' xs (p - h)) (at' xs h)<0->¬c (at' xs (p - h')) (at' xs h')<0)(hb:p<1000000000+1000000000)
  (fr:Fr)(Q:AExit->St->Prop)
  (hfr:fr.keep [0,1,2,3,4,18,19,20,21,22]=[(0,.sl (some 4) r N 0 N),(1,.pv none (.int .i64 a)),(2,.pv none (.int .i64 m)),(3,.pv none (.int .i64 b)),(4,fv),(18,.pv none (.int .i64 mid)),(19,.pv none (.int .i64 n)),(20,.pv none (.int .i64 i0)),(21,.pv none (.int .i64 j0)),(22,.pv none (.int .i64 p))])
  (h:∀k,i0<=k->k<=j0->(∀h,i0<=h->h<k->¬c (at' xs (p - h)) (at' xs h)<0)->(∀h,k<=h->h<j0->c (at' xs (p - h)) (at' xs h)<0)->
   ∀rest,Q (.exit 8) ⟨(0,.sl (some 4) r N 0 N)::(1,.pv none (.int .i64 a))::(2,.pv none (.int .i64 m))::(3,.pv none (.int .i64 b))::(4,fv)::(18,.pv none (.int .i64 mid))::(19,.pv none (.int .i64 n))::(20,.pv none (.int .i64 k))::rest,hp.set r (.arr (some 4) xs false)⟩):
  W Z L hp.length (.loop [0,1,2,3,4,18,19,20,21,22] c95b62) ⟨fr,hp.set r (.arr (some 4) xs false)⟩ Q:=by
 have e1:∀A,(hp.set r A)[r]? =some A:=fun A=>by simp[hr]
 refine zbk (fun k st=>∃i j:Nat,k=j - i/\i0<=i/\i<=j/\j<=j0/\(∀h,i0<=h->h<i->¬c (at' xs (p - h)) (at' xs h)<0)/\(∀h,j<=h->h<j0->c (at' xs (p - h)) (at' xs h)<0)/\
  st=⟨[(0,.sl (some 4) r N 0 N),(1,.pv none (.int .i64 a)),(2,.pv none (.int .i64 m)),(3,.pv none (.int .i64 b)),(4,fv),(18,.pv none (.int .i64 mid)),(19,.pv none (.int .i64 n)),(20,.pv none (.int .i64 i)),(21,.pv none (.int .i64 j)),(22,.pv none (.int .i64 p))],hp.set r (.arr (some 4) xs false)⟩) (n:=j0 - i0) ⟨i0,j0,rfl,by omega,hij,by omega,fun h h1 h2=>by omega,fun h h1 h2=>by omega,?_⟩ ?_
 ·rw[hfr]
 ·rintro k st ⟨i,j,hn,h1,h2,h3,h4,h5,rfl⟩
  by_cases hlt:i<j
  ·have hc:(i:Int)<(j:Int):=by omega
   have w1:IntKind.i64.wrap ((i:Int)+(j:Int))=((i+j:Nat):Int):=by rw[zao (by omega) (by omega)];omega
   have w2:IntKind.u64.wrap ((i+j:Nat):Int)=((i+j:Nat):Int):=zeP (by omega) (by omega)
   have w3:IntKind.i64.wrap (((i+j:Nat):Int) / 2)=(((i+j) / 2:Nat):Int):=by rw[zao (by omega) (by omega)];omega
   have w4:IntKind.i64.wrap ((((i+j) / 2:Nat):Int)+1)=(((i+j) / 2+1:Nat):Int):=by rw[zao (by omega) (by omega)];omega
   have w5:IntKind.i64.wrap ((p:Int) - (((i+j) / 2:Nat):Int))=((p - (i+j) / 2:Nat):Int):=by rw[zao (by omega) (by omega)];omega
   have lh:(i+j) / 2<N:=by omega
   have lp:p - (i+j) / 2<N:=by omega
   have gh:=zek (xs:=xs) (i:=(i+j) / 2) (by omega)
   have ga:=zek (xs:=xs) (i:=p - (i+j) / 2) (by omega)
   obtain⟨g,fs,cs,hcal,hg'⟩:=hg
   have hcall:=hg' _ _ (hD _ lp) (hD _ lh)
   by_cases h0:c (at' xs (p - (i+j) / 2)) (at' xs ((i+j) / 2))<0
   ·simp -dsimp -implicitDefEqProofs only[c95b11,c95b19,c95b33,c95b41,c95b62,c95r64,c95r65,c95k67,c95r68,c95k70,c95r71,c95k73,go_sem,seval,↓reduceIte,hc,zea (show 0<IntKind.bits .u64 by decide),w1,w2,w3,w4,w5,zaq lh,zaq lp,zaO,e1,gh,ga,hN,hcall,zcc hcal,h0]
    refine⟨(i+j) / 2 - i,by omega,i,(i+j) / 2,rfl,h1,by omega,by omega,h4,fun h x1 x2=>Classical.byContradiction fun x3=>hm _ _ (by omega) x1 x2 x3 h0,?_⟩
    rw[zaC (by simp)]
   ·simp -dsimp -implicitDefEqProofs only[c95b11,c95b19,c95b33,c95b41,c95b62,c95r64,c95r65,c95k67,c95r68,c95k70,c95r71,c95k73,go_sem,seval,↓reduceIte,hc,zea (show 0<IntKind.bits .u64 by decide),w1,w2,w3,w4,w5,zaq lh,zaq lp,zaO,e1,gh,ga,hN,hcall,zcc hcal,h0]
    refine⟨j - ((i+j) / 2+1),by omega,(i+j) / 2+1,j,rfl,by omega,by omega,h3,fun h x1 x2=>hm _ _ x1 (by omega) (by omega) h0,h5,?_⟩
    rw[zaC (by simp)]
  ·have hc:¬(i:Int)<(j:Int):=by omega
   obtain rfl:i=j:=by omega
   simp -dsimp -implicitDefEqProofs only[c95b11,c95b19,c95b33,c95b41,c95b62,c95r64,c95r65,c95k67,c95r68,c95k70,c95r71,c95k73,go_sem,seval,↓reduceIte,hc]
   exact h i h1 h3 h4 h5 _

theorem zvI(hp:Heap)(r:Nat)(hr:r<hp.length)(N i a:Nat)(P B1 T:List PV)(x:PV)(hP:P.length=a)(hi:i=a+1+B1.length)(hN:N=(P++x::B1++T).length)(hN':N<1000000000)(fr:Fr)(Q:AExit->St->Prop)
  (hfr:fr.keep [0,10,13]=[(0,.sl (some 4) r N 0 N),(10,.pv none (.int .i64 i)),(13,.pv none (.int .i64 a))])
  (h:∀fr,Q (.exit 2) ⟨fr,hp.set r (.arr (some 4) (P++B1++x::T) false)⟩):
  W Z L hp.length (.loop [0,10,13] c95b19) ⟨fr,hp.set r (.arr (some 4) (P++x::B1++T) false)⟩ Q:=by
 have e1:∀A,(hp.set r A)[r]? =some A:=fun A=>by simp[hr]
 have hNl:N=P.length+B1.length+T.length+1:=by(rw[hN];simp <;> omega)
 have w0:IntKind.i64.wrap ((i:Int) - 1)=((a+B1.length:Nat):Int):=by rw[zao (by omega) (by omega)];omega
 refine zbk (fun k st=>∃(C1 C2:List PV),k=C2.length/\B1=C1++C2/\st=⟨[(0,.sl (some 4) r N 0 N),(10,.pv none (.int .i64 i)),(13,.pv none (.int .i64 ((a+C1.length:Nat):Int)))],hp.set r (.arr (some 4) (P++C1++x::C2++T) false)⟩) (n:=B1.length) ⟨[],B1,rfl,rfl,?_⟩ ?_
 ·rw[hfr]
  simp
 ·rintro k st ⟨C1,C2,hk,hB,rfl⟩
  have hBl:B1.length=C1.length+C2.length:=by rw[hB];simp
  have hlen:(P++C1++x::C2++T).length=N:=by(simp <;> omega)
  cases C2 with
  |nil=>
   have hc:¬((a+C1.length:Nat):Int)<((a+B1.length:Nat):Int):=by simp at hBl;omega
   simp -dsimp -implicitDefEqProofs only[c95b11,c95b19,c95b33,c95b41,c95b62,c95r64,c95r65,c95k67,c95r68,c95k70,c95r71,c95k73,go_sem,seval,↓reduceIte,hc,w0]
   rw[List.append_nil] at hB
   have e:P++C1++[x]++T=P++B1++x::T:=by rw[hB];simp
   rw[e]
   exact h _
  |cons y C2=>
   simp only[List.length_cons] at hBl hk
   have hc:((a+C1.length:Nat):Int)<((a+B1.length:Nat):Int):=by omega
   have w1:IntKind.i64.wrap (((a+C1.length:Nat):Int)+1)=((a+C1.length+1:Nat):Int):=by rw[zao (by omega) (by omega)];omega
   have la:a+C1.length<N:=by omega
   have lb:a+C1.length+1<N:=by omega
   have s1:P++C1++x::y::C2++T=(P++C1)++x::(y::C2++T):=by simp
   have s2:P++C1++x::y::C2++T=(P++C1++[x])++y::(C2++T):=by simp
   have g1:(P++C1++x::y::C2++T)[a+C1.length]? =some x:=by rw[s1];exact zdG (by simp;omega)
   have g2:(P++C1++x::y::C2++T)[a+C1.length+1]? =some y:=by rw[s2];exact zdG (by simp;omega)
   have g3:((P++C1++x::y::C2++T).set (a+C1.length) y).set (a+C1.length+1) x=P++(C1++[y])++x::C2++T:=by
    rw[s1,zdH (by simp;omega)]
    have s3:(P++C1)++y::(y::C2++T)=(P++C1++[y])++y::(C2++T):=by simp
    rw[s3,zdH (by simp;omega)]
    simp
   generalize hxs:P++C1++x::y::C2++T=xs at g1 g2 g3 hlen ⊢
   simp -dsimp -implicitDefEqProofs only[c95b11,c95b19,c95b33,c95b41,c95b62,c95r64,c95r65,c95k67,c95r68,c95k70,c95r71,c95k73,go_sem,seval,↓reduceIte,hc,w0,w1,zaq la,zaq lb,zaO,zcR,e1,g1,g2,hlen,List.length_set,List.set_set,la,lb,g3]
   refine⟨C2.length,by omega,C1++[y],C2,rfl,by rw[hB];simp,?_⟩
   rw[zaC (by simp)]
   simp
   rfl
theorem zvJ(hp:Heap)(r:Nat)(hr:r<hp.length)(N i m:Nat)(P A2 T:List PV)(y:PV)(hP:P.length=i)(hi:m=i+A2.length)(hN:N=(P++A2++y::T).length)(hN':N<1000000000)(fr:Fr)(Q:AExit->St->Prop)
  (hfr:fr.keep [0,14,17]=[(0,.sl (some 4) r N 0 N),(14,.pv none (.int .i64 i)),(17,.pv none (.int .i64 m))])
  (h:∀fr,Q (.exit 6) ⟨fr,hp.set r (.arr (some 4) (P++y::A2++T) false)⟩):
  W Z L hp.length (.loop [0,14,17] c95b41) ⟨fr,hp.set r (.arr (some 4) (P++A2++y::T) false)⟩ Q:=by
 have e1:∀A,(hp.set r A)[r]? =some A:=fun A=>by simp[hr]
 have hNl:N=P.length+A2.length+T.length+1:=by(rw[hN];simp <;> omega)
 refine zbk (fun k st=>∃(C1 C2:List PV),k=C1.length/\A2=C1++C2/\st=⟨[(0,.sl (some 4) r N 0 N),(14,.pv none (.int .i64 i)),(17,.pv none (.int .i64 ((i+C1.length:Nat):Int)))],hp.set r (.arr (some 4) (P++C1++y::C2++T) false)⟩) (n:=A2.length) ⟨A2,[],rfl,by simp,?_⟩ ?_
 ·rw[hfr,hi]
  simp
 ·rintro k st ⟨C1,C2,hk,hB,rfl⟩
  have hBl:A2.length=C1.length+C2.length:=by rw[hB];simp
  have hlen:(P++C1++y::C2++T).length=N:=by(simp <;> omega)
  rcases zej C1 with rfl|⟨C3,x,rfl⟩
  ·have hc:¬((i:Nat):Int)<((i+([]:List PV).length:Nat):Int):=by simp
   simp -dsimp -implicitDefEqProofs only[c95b11,c95b19,c95b33,c95b41,c95b62,c95r64,c95r65,c95k67,c95r68,c95k70,c95r71,c95k73,go_sem,seval,↓reduceIte,hc,Int.lt_irrefl]
   rw[List.nil_append] at hB
   have e:P++[]++y::C2++T=P++y::A2++T:=by rw[hB];simp
   rw[e]
   exact h _
  ·have hxl:(C3++[x]).length=C3.length+1:=by simp
   have hc:((i:Nat):Int)<((i+(C3++[x]).length:Nat):Int):=by rw[hxl];omega
   have w1:IntKind.i64.wrap (((i+(C3++[x]).length:Nat):Int) - 1)=((i+C3.length:Nat):Int):=by rw[zao (by omega) (by omega)];omega
   have la:i+(C3++[x]).length<N:=by omega
   have lb:i+C3.length<N:=by omega
   have s1:P++(C3++[x])++y::C2++T=(P++(C3++[x]))++y::(C2++T):=by simp
   have s2:P++(C3++[x])++y::C2++T=(P++C3)++x::(y::C2++T):=by simp
   have g1:(P++(C3++[x])++y::C2++T)[i+(C3++[x]).length]? =some y:=by rw[s1];exact zdG (by simp;omega)
   have g2:(P++(C3++[x])++y::C2++T)[i+C3.length]? =some x:=by rw[s2];exact zdG (by simp;omega)
   have g3:((P++(C3++[x])++y::C2++T).set (i+(C3++[x]).length) x).set (i+C3.length) y=P++C3++y::(x::C2)++T:=by
    rw[s1,zdH (by simp;omega)]
    have s3:(P++(C3++[x]))++x::(C2++T)=(P++C3)++x::(x::C2++T):=by simp
    rw[s3,zdH (by simp;omega)]
    simp
   generalize hxs:P++(C3++[x])++y::C2++T=xs at g1 g2 g3 hlen ⊢
   simp -dsimp -implicitDefEqProofs only[c95b11,c95b19,c95b33,c95b41,c95b62,c95r64,c95r65,c95k67,c95r68,c95k70,c95r71,c95k73,go_sem,seval,↓reduceIte,hc,w1,zaq la,zaq lb,zaO,zcR,e1,g1,g2,hlen,List.length_set,List.set_set,la,lb,g3]
   refine⟨C3.length,by omega,C3,x::C2,rfl,by rw[hB];simp,?_⟩
   rw[zaC (by simp)]

set_option maxHeartbeats 4000000 in
theorem zta(c:PV->PV->Int)(hC:Cmp c)(fv:AV)(D:PV->Prop)(hp:Heap)(r:Nat)(hg:CmpF c fv D hp r)(hr:r<hp.length)(N:Nat)(hN':N<100000000):∀(d a m b:Nat) (P A B R:List PV),b - a<=d->P.length=a->m=a+A.length->b=m+B.length->N=(P++A++B++R).length->0<A.length->0<B.length->Srt c A->Srt c B->(∀x∈P++A++B++R,D x)->
  S 95 [.sl (some 4) r N 0 N,.pv none (.int .i64 a),.pv none (.int .i64 m),.pv none (.int .i64 b),fv] (hp.set r (.arr (some 4) (P++A++B++R) false))=some (.ret (.tuple []),hp.set r (.arr (some 4) (P++mrg c A B++R) false)):=by
 intro d
 induction d with
 |zero=>intro a m b P A B R hd hP hm hb hN hA hB;omega
 |succ d ih=>
  intro a m b P A B R hd hP hm hb hN hA hB sA sB hD
  have hNl:N=P.length+A.length+B.length+R.length:=by(rw[hN];simp <;> omega)
  have hDat:∀h,h<N->D (at' (P++A++B++R) h):=fun h hh=>hD _ (zuF (by omega))
  have hsl:(hp.set r (.arr (some 4) (P++A++B++R) false)).length=hp.length:=by simp
  have w1:IntKind.i64.wrap ((m:Int) - (a:Int))=((A.length:Nat):Int):=by rw[zao (by omega) (by omega)];omega
  have w2:IntKind.i64.wrap ((b:Int) - (m:Int))=((B.length:Nat):Int):=by rw[zao (by omega) (by omega)];omega
  have atA:∀k,k<A.length->at' (P++A++B++R) (a+k)=at' A k:=fun k hk=>by
   have:=zsV (P:=P) (A:=A) (R:=B++R) hP hk
   rwa [<-List.append_assoc] at this
  have atB:∀k,k<B.length->at' (P++A++B++R) (m+k)=at' B k:=fun k hk=>zsV (P:=P++A) (A:=B) (R:=R) (by simp;omega) hk
  refine zaI rfl rfl rfl rfl ?_
  rw[hsl]
  by_cases hA1:A.length=1
  ·obtain⟨x,rfl⟩:∃x,A=[x]:=List.length_eq_one_iff.1 hA1
   have hc1:((1:Nat):Int)=1:=rfl
   simp -dsimp -implicitDefEqProofs only[c95b33,c95b41,c95b62,c95r64,c95r65,c95k67,c95r68,c95k70,c95r71,c95k73,go_sem,seval,↓reduceIte,w1,hc1]
   refine zvd c fv D hp r hg hr _ N a m b hN.symm (by omega) (by omega) (by omega) (by omega) hDat (fun h h' h1 h2 h3 h4=> ?_) _ _ rfl fun k k1 k2 k3 k4 rest=> ?_
   ·have e1:=atB (h - m) (by omega)
    have e2:=atB (h' - m) (by omega)
    rw[show m+(h - m)=h by omega] at e1
    rw[show m+(h' - m)=h' by omega] at e2
    rw[e1] at h4
    rw[e2]
    exact hC.lt_of_le_lt (zcS hC sB (by omega) (by omega)) h4
   ·have e0:=atA 0 (by simp)
    rw[Nat.add_zero] at e0
    have e0':at' [x] 0=x:=rfl
    rw[e0'] at e0
    rw[e0] at k3 k4
    simp -dsimp -implicitDefEqProofs only[c95b33,c95b41,c95b62,c95r64,c95r65,c95k67,c95r68,c95k70,c95r71,c95k73,go_sem,seval,↓reduceIte]
    have hsplit:P++[x]++B++R=P++x::(B.take (k - m))++(B.drop (k - m)++R):=by
     rw[show P++[x]++B++R=P++[x]++(B.take (k - m)++B.drop (k - m))++R by rw[List.take_append_drop]]
     simp only[List.append_assoc,List.cons_append,List.nil_append]
    have hmr:mrg c [x] B=B.take (k - m)++x::B.drop (k - m):=by
     have h1:=zdE hC (A:=[]) (U:=[x]) (V:=B.take (k - m)) (B:=B.drop (k - m)) (fun _ h=>by simp at h) (fun u hu v hv=>by
      simp at hu;subst hu
      obtain⟨i,hi,rfl⟩:=zdm hv
      simp at hi
      rw[zfs (by omega)]
      have:=k3 (m+i) (by omega) (by omega)
      rwa [atB i (by omega)] at this)
     have h2:mrg c [x] (B.drop (k - m))=x::B.drop (k - m):=zfr hC (A:=[x]) fun u hu v hv=>by
      simp at hu;subst hu
      obtain⟨i,hi,rfl⟩:=zdm hv
      simp at hi
      rw[zft]
      have:=k4 (k+i) (by omega) (by omega)
      have e:=atB (k - m+i) (by omega)
      rw[show m+(k - m+i)=k+i by omega] at e
      rw[e] at this
      have:=hC.neg u (at' B (k - m+i))
      omega
     rw[List.take_append_drop,List.nil_append,zei,h2] at h1
     exact h1
    rw[hsplit]
    refine zvI hp r hr N k a P (B.take (k - m)) (B.drop (k - m)++R) x hP (by simp at hm ⊢;omega) (by rw[<-hsplit];exact hN) (by omega) _ _ rfl fun fr=> ?_
    simp -dsimp -implicitDefEqProofs only[c95b33,c95b41,c95b62,c95r64,c95r65,c95k67,c95r68,c95k70,c95r71,c95k73,go_sem,seval,↓reduceIte]
    rw[List.take_of_length_le (by simp),hmr]
    simp
  ·have hA1':¬((A.length:Nat):Int)=1:=by omega
   by_cases hB1:B.length=1
   ·obtain⟨y,rfl⟩:∃y,B=[y]:=List.length_eq_one_iff.1 hB1
    have hc1:((1:Nat):Int)=1:=rfl
    simp -dsimp -implicitDefEqProofs only[c95b11,c95b19,c95b62,c95r64,c95r65,c95k67,c95r68,c95k70,c95r71,c95k73,go_sem,seval,↓reduceIte,w1,w2,hA1',hc1]
    have e0:=atB 0 (by simp)
    rw[Nat.add_zero] at e0
    have e0':at' [y] 0=y:=rfl
    rw[e0'] at e0
    refine zve c fv D hp r hg hr _ N m a m hN.symm (by omega) (by simp at hNl;omega) (by omega) (by omega) hDat (fun h h' h1 h2 h3 h4=> ?_) _ _ rfl fun k k1 k2 k3 k4 rest=> ?_
    ·have e1:=atA (h - a) (by omega)
     have e2:=atA (h' - a) (by omega)
     rw[show a+(h - a)=h by omega] at e1
     rw[show a+(h' - a)=h' by omega] at e2
     rw[e1] at h4
     rw[e2]
     intro h5
     exact h4 (hC.lt_of_lt_le h5 (zcS hC sA (by omega) (by omega)))
    ·rw[e0] at k3 k4
     simp -dsimp -implicitDefEqProofs only[c95b11,c95b19,c95b62,c95r64,c95r65,c95k67,c95r68,c95k70,c95r71,c95k73,go_sem,seval,↓reduceIte]
     have hsplit:P++A++[y]++R=(P++A.take (k - a))++A.drop (k - a)++y::R:=by
      rw[show P++A++[y]++R=P++(A.take (k - a)++A.drop (k - a))++[y]++R by rw[List.take_append_drop]]
      simp only[List.append_assoc,List.cons_append,List.nil_append]
     have hmr:mrg c A [y]=A.take (k - a)++y::A.drop (k - a):=by
      have h1:=zdE hC (A:=A.take (k - a)) (U:=A.drop (k - a)) (V:=[y]) (B:=[]) (fun _ _ _ h=>by simp at h) (fun u hu v hv=>by
       simp at hv;subst hv
       obtain⟨i,hi,rfl⟩:=zdm hu
       simp at hi
       rw[zft]
       have:=k4 (k+i) (by omega) (by omega)
       have e:=atA (k - a+i) (by omega)
       rw[show a+(k - a+i)=k+i by omega] at e
       rwa [e] at this)
      have h2:mrg c (A.take (k - a)) [y]=A.take (k - a)++[y]:=zfr hC fun u hu v hv=>by
       simp at hv;subst hv
       obtain⟨i,hi,rfl⟩:=zdm hu
       simp at hi
       rw[zfs (by omega)]
       have:=k3 (a+i) (by omega) (by omega)
       rw[atA i (by omega)] at this
       have:=hC.neg (at' A i) v
       omega
      rw[List.take_append_drop,List.append_nil,zaE,h2] at h1
      rw[h1]
      simp
     rw[hsplit]
     refine zvJ hp r hr N k m (P++A.take (k - a)) (A.drop (k - a)) R y (by simp;omega) (by simp;omega) (by rw[<-hsplit];exact hN) (by omega) _ _ rfl fun fr=> ?_
     simp -dsimp -implicitDefEqProofs only[c95b11,c95b19,c95b62,c95r64,c95r65,c95k67,c95r68,c95k70,c95r71,c95k73,go_sem,seval,↓reduceIte]
     rw[List.take_of_length_le (by simp),hmr]
     simp
   ·have hB1':¬((B.length:Nat):Int)=1:=by omega
    have w3:IntKind.i64.wrap ((a:Int)+(b:Int))=((a+b:Nat):Int):=by rw[zao (by omega) (by omega)];omega
    have w4:IntKind.u64.wrap ((a+b:Nat):Int)=((a+b:Nat):Int):=zeP (by omega) (by omega)
    have w5:IntKind.i64.wrap (((a+b:Nat):Int) / 2)=(((a+b) / 2:Nat):Int):=by rw[zao (by omega) (by omega)];omega
    generalize hmid:(a+b) / 2=mid at w5
    have w6:IntKind.i64.wrap ((mid:Int)+(m:Int))=((mid+m:Nat):Int):=by rw[zao (by omega) (by omega)];omega
    have w7:IntKind.i64.wrap (((mid+m:Nat):Int) - 1)=((mid+m - 1:Nat):Int):=by rw[zao (by omega) (by omega)];omega
    have hm1:a<=mid:=by omega
    have hm2:mid<b:=by omega
    have tail:∀(k:Nat) (rest:Fr) (Q:AExit->St->Prop),a<=k->k<=m->k<=mid->mid+m - k<=b->(∀x∈A.take (k - a),∀y∈B.drop (mid - k),c x y<=0)->(∀u∈A.drop (k - a),∀v∈B.take (mid - k),c v u<0)->
      (∀fr,Q .normal ⟨fr,hp.set r (.arr (some 4) (P++mrg c A B++R) false)⟩)->
      W Z L hp.length (.seq (.region true c95r64 [0,1,2,3,4,18,20,24]) (.seq (.seq (.region true c95r65 [0,1,2,3,4,18,20,24,185]) c95k67) (.seq (.seq (.region true c95r68 [0,1,3,4,18,20,24,199]) c95k70) (.seq (.region true c95r71 [0,3,4,18,24,213]) c95k73))))
       ⟨(0,.sl (some 4) r N 0 N)::(1,.pv none (.int .i64 a))::(2,.pv none (.int .i64 m))::(3,.pv none (.int .i64 b))::(4,fv)::(18,.pv none (.int .i64 mid))::(19,.pv none (.int .i64 ((mid+m:Nat):Int)))::(20,.pv none (.int .i64 k))::rest,hp.set r (.arr (some 4) (P++A++B++R) false)⟩ Q:=by
     intro k rest Q k1 k2 k3 k4 f1 f2 hQ
     have w8:IntKind.i64.wrap (((mid+m:Nat):Int) - (k:Int))=((mid+m - k:Nat):Int):=by rw[zao (by omega) (by omega)];omega
     have lA1:(A.take (k - a)).length=k - a:=by(simp <;> omega)
     have lU:(A.drop (k - a)).length=m - k:=by(simp <;> omega)
     have lV:(B.take (mid - k)).length=mid - k:=by(simp <;> omega)
     have lB2:(B.drop (mid - k)).length=b - (mid+m - k):=by(simp <;> omega)
     have hmr:=zdE hC f1 f2
     rw[List.take_append_drop,List.take_append_drop] at hmr
     have hdat:P++A++B++R=(P++A.take (k - a))++A.drop (k - a)++B.take (mid - k)++(B.drop (mid - k)++R):=by
      rw[show P++A++B++R=P++(A.take (k - a)++A.drop (k - a))++(B.take (mid - k)++B.drop (mid - k))++R by rw[List.take_append_drop,List.take_append_drop]]
      simp only[List.append_assoc]
     have sA1:Srt c (A.take (k - a)):=sA.sublist (List.take_sublist _ _)
     have sU:Srt c (A.drop (k - a)):=sA.sublist (List.drop_sublist _ _)
     have sV:Srt c (B.take (mid - k)):=sB.sublist (List.take_sublist _ _)
     have sB2:Srt c (B.drop (mid - k)):=sB.sublist (List.drop_sublist _ _)
     rw[hdat] at hN hD ⊢
     rw[hmr] at hQ
     generalize A.take (k - a)=A1 at*
     generalize A.drop (k - a)=U at*
     generalize B.take (mid - k)=V at*
     generalize B.drop (mid - k)=B2 at*
     have hrot:=zq2 (fv) hp r hr k m (mid+m - k) N (P++A1) U V (B2++R) (by simp;omega) (by omega) (by omega) hN (by omega)
     refine ztM (fun st=>st=⟨[(0,.sl (some 4) r N 0 N),(1,.pv none (.int .i64 a)),(2,.pv none (.int .i64 m)),(3,.pv none (.int .i64 b)),(4,fv),(18,.pv none (.int .i64 mid)),(20,.pv none (.int .i64 k)),(24,.pv none (.int .i64 ((mid+m - k:Nat):Int)))],hp.set r (.arr (some 4) (P++A1++U++V++(B2++R)) false)⟩) ?_ ?_
     ·simp -dsimp -implicitDefEqProofs only[c95b11,c95b19,c95b33,c95b41,c95b62,c95r64,c95r65,c95k67,c95r68,c95k70,c95r71,c95k73,go_sem,seval,↓reduceIte,w8]
     rintro _ rfl
     refine ztM (fun st=>st.hp=hp.set r (.arr (some 4) (P++A1++V++U++(B2++R)) false)/\st.fr.look 0=some (.sl (some 4) r N 0 N)/\st.fr.look 1=some (.pv none (.int .i64 a))/\st.fr.look 3=some (.pv none (.int .i64 b))/\st.fr.look 4=some (fv)/\st.fr.look 18=some (.pv none (.int .i64 mid))/\st.fr.look 20=some (.pv none (.int .i64 k))/\st.fr.look 24=some (.pv none (.int .i64 ((mid+m - k:Nat):Int)))) ?_ ?_
     ·by_cases hU:k<m
      ·have hc1:(k:Int)<(m:Int):=by omega
       by_cases hV:m<mid+m - k
       ·have hc2:(m:Int)<((mid+m - k:Nat):Int):=by omega
        have hrot':=hrot (by omega) (by omega)
        simp -dsimp -implicitDefEqProofs only[c95b11,c95b19,c95b33,c95b41,c95b62,c95r64,c95r65,c95k67,c95r68,c95k70,c95r71,c95k73,go_sem,seval,↓reduceIte,hc1,hc2,hrot']
       ·have hc2:¬(m:Int)<((mid+m - k:Nat):Int):=by omega
        have hV0:V=[]:=List.length_eq_zero_iff.1 (by omega)
        subst hV0
        simp -dsimp -implicitDefEqProofs only[c95b11,c95b19,c95b33,c95b41,c95b62,c95r64,c95r65,c95k67,c95r68,c95k70,c95r71,c95k73,go_sem,seval,↓reduceIte,hc1,hc2,List.append_nil]
      ·have hc1:¬(k:Int)<(m:Int):=by omega
       have hU0:U=[]:=List.length_eq_zero_iff.1 (by omega)
       subst hU0
       simp -dsimp -implicitDefEqProofs only[c95b11,c95b19,c95b33,c95b41,c95b62,c95r64,c95r65,c95k67,c95r68,c95k70,c95r71,c95k73,go_sem,seval,↓reduceIte,hc1,List.append_nil]
     rintro⟨fr1,hp1⟩ ⟨x1,x2,x3,x4,x5,x6,x7,x8⟩
     simp only at x1 x2 x3 x4 x5 x6 x7 x8
     subst x1
     refine ztM (fun st=>st.hp=hp.set r (.arr (some 4) (P++mrg c A1 V++U++(B2++R)) false)/\st.fr.look 0=some (.sl (some 4) r N 0 N)/\st.fr.look 3=some (.pv none (.int .i64 b))/\st.fr.look 4=some (fv)/\st.fr.look 18=some (.pv none (.int .i64 mid))/\st.fr.look 24=some (.pv none (.int .i64 ((mid+m - k:Nat):Int)))) ?_ ?_
     ·by_cases hA1:a<k
      ·have hc1:(a:Int)<(k:Int):=by omega
       by_cases hV:k<mid
       ·have hc2:(k:Int)<(mid:Int):=by omega
        have hih:=ih a k mid P A1 V (U++(B2++R)) (by omega) hP (by omega) (by omega) (by rw[hN];simp;omega) (by omega) (by omega) sA1 sV (fun x hx=>hD x (by simp at hx ⊢;rcases hx with h|h|h|h|h|h <;> simp[h]))
        have e0:P++A1++V++(U++(B2++R))=P++A1++V++U++(B2++R):=by simp
        have e1:P++mrg c A1 V++(U++(B2++R))=P++mrg c A1 V++U++(B2++R):=by simp
        rw[e0,e1] at hih
        simp -dsimp -implicitDefEqProofs only[c95b11,c95b19,c95b33,c95b41,c95b62,c95r64,c95r65,c95k67,c95r68,c95k70,c95r71,c95k73,go_sem,seval,↓reduceIte,hc1,hc2,x2,x3,x4,x5,x6,x7,x8,hih]
       ·have hc2:¬(k:Int)<(mid:Int):=by omega
        have hV0:V=[]:=List.length_eq_zero_iff.1 (by omega)
        subst hV0
        simp -dsimp -implicitDefEqProofs only[c95b11,c95b19,c95b33,c95b41,c95b62,c95r64,c95r65,c95k67,c95r68,c95k70,c95r71,c95k73,go_sem,seval,↓reduceIte,hc1,hc2,x2,x3,x4,x5,x6,x7,x8,List.append_nil,zaE]
      ·have hc1:¬(a:Int)<(k:Int):=by omega
       have hA0:A1=[]:=List.length_eq_zero_iff.1 (by omega)
       subst hA0
       simp -dsimp -implicitDefEqProofs only[c95b11,c95b19,c95b33,c95b41,c95b62,c95r64,c95r65,c95k67,c95r68,c95k70,c95r71,c95k73,go_sem,seval,↓reduceIte,hc1,x2,x3,x4,x5,x6,x7,x8,List.append_nil,zei]
     rintro⟨fr2,hp2⟩ ⟨y1,y2,y4,y5,y6,y8⟩
     simp only at y1 y2 y4 y5 y6 y8
     subst y1
     have hml:(mrg c A1 V).length=A1.length+V.length:=zhQ A1 V
     by_cases hU:mid<mid+m - k
     ·have hc1:(mid:Int)<((mid+m - k:Nat):Int):=by omega
      by_cases hB2:mid+m - k<b
      ·have hc2:((mid+m - k:Nat):Int)<(b:Int):=by omega
       have hih:=ih mid (mid+m - k) b (P++mrg c A1 V) U B2 R (by omega) (by simp[hml];omega) (by omega) (by omega) (by rw[hN];simp[hml];omega) (by omega) (by omega) sU sB2 (fun x hx=>hD x (by
        simp only[List.mem_append,mem_mrg] at hx ⊢
        rcases hx with(((h|h|h)|h)|h)|h <;> simp[h]))
       have e0:P++mrg c A1 V++U++(B2++R)=P++mrg c A1 V++U++B2++R:=by simp
       have e1:P++mrg c A1 V++mrg c U B2++R=P++(mrg c A1 V++mrg c U B2)++R:=by simp
       rw[e1] at hih
       rw[e0]
       simp -dsimp -implicitDefEqProofs only[c95b11,c95b19,c95b33,c95b41,c95b62,c95r64,c95r65,c95k67,c95r68,c95k70,c95r71,c95k73,go_sem,seval,↓reduceIte,hc1,hc2,y2,y4,y5,y6,y8,hih]
       exact hQ _
      ·have hc2:¬((mid+m - k:Nat):Int)<(b:Int):=by omega
       have hB0:B2=[]:=List.length_eq_zero_iff.1 (by omega)
       subst hB0
       simp -dsimp -implicitDefEqProofs only[c95b11,c95b19,c95b33,c95b41,c95b62,c95r64,c95r65,c95k67,c95r68,c95k70,c95r71,c95k73,go_sem,seval,↓reduceIte,hc1,hc2,y2,y4,y5,y6,y8]
       have hQ:=hQ
       rw[zaE] at hQ
       have e0:P++mrg c A1 V++U++R=P++(mrg c A1 V++U)++R:=by simp
       rw[e0]
       exact hQ _
     ·have hc1:¬(mid:Int)<((mid+m - k:Nat):Int):=by omega
      have hU0:U=[]:=List.length_eq_zero_iff.1 (by omega)
      subst hU0
      simp -dsimp -implicitDefEqProofs only[c95b11,c95b19,c95b33,c95b41,c95b62,c95r64,c95r65,c95k67,c95r68,c95k70,c95r71,c95k73,go_sem,seval,↓reduceIte,hc1,y2,y4,y5,y6,y8]
      have hQ:=hQ
      rw[zei] at hQ
      have e0:P++mrg c A1 V++[]++(B2++R)=P++(mrg c A1 V++B2)++R:=by simp
      rw[e0]
      exact hQ _
    by_cases hmm:mid<m
    ·skip
     have hc:(mid:Int)<(m:Int):=by omega
     have w9:IntKind.i64.wrap (((mid+m:Nat):Int) - (b:Int))=((mid+m - b:Nat):Int):=by rw[zao (by omega) (by omega)];omega
     simp -dsimp -implicitDefEqProofs only[c95b11,c95b19,c95b33,c95b41,go_sem,seval,↓reduceIte,w1,w2,hA1',hB1',w3,w4,zea (show 0<IntKind.bits .u64 by decide),hmid,w5,w6,w7,hc,w9]
     refine zs9 c fv D hp r hg hr _ N a m b mid (mid+m) (mid+m - 1) (mid+m - b) mid hN.symm (by omega) (by omega) (by omega) (by omega) (by omega) hDat (fun h h' h1 h2 h3 h4=> ?_) (by omega) _ _ rfl fun k k1 k2 k3 k4 rest=> ?_
     ·have e1:=atA (h - a) (by omega)
      have e2:=atA (h' - a) (by omega)
      have e3:=atB (mid+m - 1 - h - m) (by omega)
      have e4:=atB (mid+m - 1 - h' - m) (by omega)
      rw[show a+(h - a)=h by omega] at e1
      rw[show a+(h' - a)=h' by omega] at e2
      rw[show m+(mid+m - 1 - h - m)=mid+m - 1 - h by omega] at e3
      rw[show m+(mid+m - 1 - h' - m)=mid+m - 1 - h' by omega] at e4
      rw[e1,e3] at h4
      rw[e2,e4]
      have s1:c (at' A (h' - a)) (at' A (h - a))<=0:=zcS hC sA (by omega) (by omega)
      have s2:c (at' B (mid+m - 1 - h - m)) (at' B (mid+m - 1 - h' - m))<=0:=zcS hC sB (by omega) (by omega)
      intro h5
      exact h4 (hC.lt_of_le_lt s2 (hC.lt_of_lt_le h5 s1))
     ·simp -dsimp -implicitDefEqProofs only[go_sem,seval,↓reduceIte]
      refine tail k rest _ (by omega) (by omega) (by omega) (by omega) ?_ ?_ fun fr=> ?_
      ·intro x hx y hy
       obtain⟨i,hi,rfl⟩:=zdm hx
       obtain⟨j,hj,rfl⟩:=zdm hy
       simp at hi hj
       rw[zfs (by omega),zft]
       have h1:=k3 (k - 1) (by omega) (by omega)
       have e1:=atA (k - 1 - a) (by omega)
       have e3:=atB (mid - k) (by omega)
       rw[show a+(k - 1 - a)=k - 1 by omega] at e1
       rw[show m+(mid - k)=mid+m - 1 - (k - 1) by omega] at e3
       rw[e1,e3] at h1
       have s1:c (at' A i) (at' A (k - 1 - a))<=0:=zcS hC sA (by omega) (by omega)
       have s2:c (at' B (mid - k)) (at' B (mid - k+j))<=0:=zcS hC sB (by omega) (by omega)
       have s3:c (at' A (k - 1 - a)) (at' B (mid - k))<=0:=by have:=hC.neg (at' A (k - 1 - a)) (at' B (mid - k));omega
       exact hC.trans (hC.trans s1 s3) s2
      ·intro u hu v hv
       obtain⟨i,hi,rfl⟩:=zdm hu
       obtain⟨j,hj,rfl⟩:=zdm hv
       simp at hi hj
       rw[zfs (by omega),zft]
       have h1:=k4 k (by omega) (by omega)
       have e1:=atA (k - a) (by omega)
       have e3:=atB (mid - 1 - k) (by omega)
       rw[show a+(k - a)=k by omega] at e1
       rw[show m+(mid - 1 - k)=mid+m - 1 - k by omega] at e3
       rw[e1,e3] at h1
       have s1:c (at' A (k - a)) (at' A (k - a+i))<=0:=zcS hC sA (by omega) (by omega)
       have s2:c (at' B j) (at' B (mid - 1 - k))<=0:=zcS hC sB (by omega) (by omega)
       exact hC.lt_of_le_lt s2 (hC.lt_of_lt_le h1 s1)
      ·simp -dsimp -implicitDefEqProofs only[g95,go_sem,seval,↓reduceIte]
       rw[List.take_of_length_le (by simp)]
    ·skip
     have hc:¬(mid:Int)<(m:Int):=by omega
     simp -dsimp -implicitDefEqProofs only[c95b11,c95b19,c95b33,c95b41,go_sem,seval,↓reduceIte,w1,w2,hA1',hB1',w3,w4,zea (show 0<IntKind.bits .u64 by decide),hmid,w5,w6,w7,hc]
     refine zs9 c fv D hp r hg hr _ N a m b mid (mid+m) (mid+m - 1) a m hN.symm (by omega) (by omega) (by omega) (by omega) (by omega) hDat (fun h h' h1 h2 h3 h4=> ?_) (by omega) _ _ rfl fun k k1 k2 k3 k4 rest=> ?_
     ·have e1:=atA (h - a) (by omega)
      have e2:=atA (h' - a) (by omega)
      have e3:=atB (mid+m - 1 - h - m) (by omega)
      have e4:=atB (mid+m - 1 - h' - m) (by omega)
      rw[show a+(h - a)=h by omega] at e1
      rw[show a+(h' - a)=h' by omega] at e2
      rw[show m+(mid+m - 1 - h - m)=mid+m - 1 - h by omega] at e3
      rw[show m+(mid+m - 1 - h' - m)=mid+m - 1 - h' by omega] at e4
      rw[e1,e3] at h4
      rw[e2,e4]
      have s1:c (at' A (h' - a)) (at' A (h - a))<=0:=zcS hC sA (by omega) (by omega)
      have s2:c (at' B (mid+m - 1 - h - m)) (at' B (mid+m - 1 - h' - m))<=0:=zcS hC sB (by omega) (by omega)
      intro h5
      exact h4 (hC.lt_of_le_lt s2 (hC.lt_of_lt_le h5 s1))
     ·simp -dsimp -implicitDefEqProofs only[go_sem,seval,↓reduceIte]
      refine tail k rest _ (by omega) (by omega) (by omega) (by omega) ?_ ?_ fun fr=> ?_
      ·intro x hx y hy
       obtain⟨i,hi,rfl⟩:=zdm hx
       obtain⟨j,hj,rfl⟩:=zdm hy
       simp at hi hj
       rw[zfs (by omega),zft]
       have h1:=k3 (k - 1) (by omega) (by omega)
       have e1:=atA (k - 1 - a) (by omega)
       have e3:=atB (mid - k) (by omega)
       rw[show a+(k - 1 - a)=k - 1 by omega] at e1
       rw[show m+(mid - k)=mid+m - 1 - (k - 1) by omega] at e3
       rw[e1,e3] at h1
       have s1:c (at' A i) (at' A (k - 1 - a))<=0:=zcS hC sA (by omega) (by omega)
       have s2:c (at' B (mid - k)) (at' B (mid - k+j))<=0:=zcS hC sB (by omega) (by omega)
       have s3:c (at' A (k - 1 - a)) (at' B (mid - k))<=0:=by have:=hC.neg (at' A (k - 1 - a)) (at' B (mid - k));omega
       exact hC.trans (hC.trans s1 s3) s2
      ·intro u hu v hv
       obtain⟨i,hi,rfl⟩:=zdm hu
       obtain⟨j,hj,rfl⟩:=zdm hv
       simp at hi hj
       rw[zfs (by omega),zft]
       have h1:=k4 k (by omega) (by omega)
       have e1:=atA (k - a) (by omega)
       have e3:=atB (mid - 1 - k) (by omega)
       rw[show a+(k - a)=k by omega] at e1
       rw[show m+(mid - 1 - k)=mid+m - 1 - k by omega] at e3
       rw[e1,e3] at h1
       have s1:c (at' A (k - a)) (at' A (k - a+i))<=0:=zcS hC sA (by omega) (by omega)
       have s2:c (at' B j) (at' B (mid - 1 - k))<=0:=zcS hC sB (by omega) (by omega)
       exact hC.lt_of_le_lt s2 (hC.lt_of_lt_le h1 s1)
      ·simp -dsimp -implicitDefEqProofs only[g95,go_sem,seval,↓reduceIte]
       rw[List.take_of_length_le (by simp)]
section
variable(c:PV->PV->Int) (hC:Cmp c) (fv:AV) (D:PV->Prop) (hp:Heap) (r:Nat) (hg:CmpF c fv D hp r) (hr:r<hp.length) (N:Nat) (hN':N<100000000)
include hC hg hr hN'
theorem zq1(xs:List PV)(hN:N=xs.length)(hD:∀x∈xs,D x):
  S 88 [.sl (some 4) r N 0 N,.pv none (.int .i64 N),fv] (hp.set r (.arr (some 4) xs false))=some (.ret (.tuple []),hp.set r (.arr (some 4) (isort c xs) false)):=by
 have hsl:(hp.set r (.arr (some 4) xs false)).length=hp.length:=by simp
 refine zaI rfl rfl rfl rfl ?_
 rw[hsl]
 simp -dsimp -implicitDefEqProofs only[go_sem,seval,↓reduceIte]
 /- the blocks -/
 refine zbk (fun n st=>∃(a:Nat) (Z:List PV),n=N - a/\a<=N/\Full c 20 (xs.take a) Z/\st=⟨[(0,.sl (some 4) r N 0 N),(1,.pv none (.int .i64 N)),(2,fv),(6,.pv none (.int .i64 20)),(7,.pv none (.int .i64 a)),(8,.pv none (.int .i64 ((a+20:Nat):Int)))],hp.set r (.arr (some 4) (Z++xs.drop a) false)⟩) (n:=N) ⟨0,[],rfl,Nat.zero_le _,.nil,?_⟩ ?_
 ·simp -dsimp -implicitDefEqProofs only[go_sem,seval,↓reduceIte]
  try simp
 ·rintro n st ⟨a,Z,hn,ha,hF,rfl⟩
  have hZ:Z.length=a:=by rw[hF.length];simp;omega
  have hD':∀x∈xs.drop a,D x:=fun x hx=>hD x (List.mem_of_mem_drop hx)
  by_cases hb:a+20<=N
  ·have hc:((a+20:Nat):Int)<=(N:Int):=by omega
   have w1:IntKind.i64.wrap (((a+20:Nat):Int)+20)=((a+20+20:Nat):Int):=by rw[zao (by omega) (by omega)];omega
   have hx:(xs.drop a).take 20++(xs.drop a).drop 20=xs.drop a:=List.take_append_drop _ _
   have hl:((xs.drop a).take 20).length=20:=by simp;omega
   have hcall:=zf0 c hC fv D hp r hg hr a (a+20) N Z ((xs.drop a).take 20) ((xs.drop a).drop 20) hZ (by omega) (by simp[hZ];omega) (by omega) (fun x h=>hD' x (List.mem_of_mem_take h))
   rw[show Z++(xs.drop a).take 20++(xs.drop a).drop 20=Z++xs.drop a by rw[List.append_assoc,hx]] at hcall
   simp -dsimp -implicitDefEqProofs only[go_sem,seval,↓reduceIte,hc,w1,hcall]
   refine⟨N - (a+20),by omega,a+20,Z++isort c ((xs.drop a).take 20),rfl,by omega,?_,?_⟩
   ·have:=Full.snoc (c:=c) (n:=20) _ _ _ hl hF
    rwa [<-List.take_add] at this
   ·rw[zaC (by simp),List.drop_drop]
  ·have hc:¬((a+20:Nat):Int)<=(N:Int):=by omega
   have hcall:=zf0 c hC fv D hp r hg hr a N N Z (xs.drop a) [] hZ (by simp;omega) (by simp[hZ];omega) (by omega) hD'
   simp only[List.append_nil] at hcall
   have hB:Blk c 20 xs (Z++isort c (xs.drop a)):=by
    have:=hF.blk (.last (xs.drop a) (by simp;omega))
    rwa [List.take_append_drop] at this
   simp -dsimp -implicitDefEqProofs only[go_sem,seval,↓reduceIte,hc,hcall]
   generalize Z++isort c (xs.drop a)=d0 at hB
   clear hcall hF hZ hD' ha hn hc hb Z a
   /- the merging -/
   refine zbk (fun n st=>∃(bs:Nat) (d:List PV),n=N - bs/\20<=bs/\Blk c bs xs d/\st=⟨[(0,.sl (some 4) r N 0 N),(1,.pv none (.int .i64 N)),(2,fv),(6,.pv none (.int .i64 bs))],hp.set r (.arr (some 4) d false)⟩) (n:=N - 20) ⟨20,d0,rfl,Nat.le_refl _,hB,?_⟩ ?_
   ·simp -dsimp -implicitDefEqProofs only[go_sem,seval,↓reduceIte]
    try rfl
   ·rintro n1 st ⟨bs,d,hn1,hbs,hB,rfl⟩
    by_cases hlt:bs<N
    ·have hc:(bs:Int)<(N:Int):=by omega
     have w1:IntKind.i64.wrap (2*(bs:Int))=((0+2*bs:Nat):Int):=by rw[zao (by omega) (by omega)];omega
     have w2:IntKind.i64.wrap ((bs:Int)*2)=((2*bs:Nat):Int):=by rw[zao (by omega) (by omega)];omega
     simp -dsimp -implicitDefEqProofs only[go_sem,seval,↓reduceIte,hc,w1]
     refine zbk (fun n st=>∃(a:Nat) (Z d r0 r1:List PV),n=N - a/\a<=N/\xs=r0++r1/\r0.length=a/\Full c (2*bs) r0 Z/\Blk c bs r1 d/\st=⟨[(0,.sl (some 4) r N 0 N),(1,.pv none (.int .i64 N)),(2,fv),(6,.pv none (.int .i64 bs)),(7,.pv none (.int .i64 a)),(8,.pv none (.int .i64 ((a+2*bs:Nat):Int)))],hp.set r (.arr (some 4) (Z++d) false)⟩) (n:=N) ⟨0,[],d,[],xs,rfl,Nat.zero_le _,rfl,rfl,.nil,hB,?_⟩ ?_
     ·simp -dsimp -implicitDefEqProofs only[go_sem,seval,↓reduceIte]
      try rfl
     ·rintro n2 st ⟨a,Z,d,r0,r1,hn2,ha,hxs,hr0,hF,hB1,rfl⟩
      have hZ:Z.length=a:=by rw[hF.length,hr0]
      have hl1:a+r1.length=N:=by rw[hN,hxs];simp[hr0]
      have hDZ:∀x∈Z++d,D x:=fun x hx=>hD x (by
       rw[hxs]
       rcases List.mem_append.1 hx with h|h
       ·exact List.mem_append.2 (.inl (hF.mem.1 h))
       ·exact List.mem_append.2 (.inr (hB1.mem.1 h)))
      have w3:IntKind.i64.wrap ((a:Int)+(bs:Int))=((a+bs:Nat):Int):=by rw[zao (by omega) (by omega)];omega
      by_cases hb:a+2*bs<=N
      ·have hc2:((a+2*bs:Nat):Int)<=(N:Int):=by omega
       obtain⟨x,y,r2,d2,e1,e2,lx,ly,ly0,hB2,hy⟩:=hB1.two (by omega) (by omega)
       have ly':y.length=bs:=by
        rcases Nat.lt_or_ge y.length bs with h|h
        ·have:=hy h;rw[e1,this] at hl1;simp at hl1;omega
        ·omega
       have w4:IntKind.i64.wrap (2*(bs:Int))=((2*bs:Nat):Int):=by rw[zao (by omega) (by omega)];omega
       have w5:IntKind.i64.wrap (((a+2*bs:Nat):Int)+((2*bs:Nat):Int))=((a+2*bs+2*bs:Nat):Int):=by rw[zao (by omega) (by omega)];omega
       have hld:=hB1.length
       have hcall:=zta c hC fv D hp r hg hr N hN' (2*bs) a (a+bs) (a+2*bs) Z (isort c x) (isort c y) d2 (by omega) hZ (by rw[zaw,lx]) (by rw[zaw,ly'];omega) (by rw[e2] at hld;simp[zaw] at hld ⊢;omega) (by rw[zaw];omega) (by rw[zaw];omega) (zcd hC x) (zcd hC y) (fun z hz=>hDZ z (by rw[e2];simpa using hz))
       rw[show Z++isort c x++isort c y++d2=Z++d by rw[e2];simp,<-zfW hC] at hcall
       simp -dsimp -implicitDefEqProofs only[go_sem,seval,↓reduceIte,hc2,w3,w4,w5,hcall]
       refine⟨N - (a+2*bs),by omega,a+2*bs,Z++isort c (x++y),d2,r0++(x++y),r2,rfl,hb,by rw[hxs,e1];simp,by simp[hr0,lx,ly'];omega,.snoc _ _ _ (by simp[lx,ly'];omega) hF,hB2,?_⟩
       rw[zaC (by simp)]
      ·have hc2:¬((a+2*bs:Nat):Int)<=(N:Int):=by omega
       by_cases hm:a+bs<N
       ·have hc3:((a+bs:Nat):Int)<(N:Int):=by omega
        obtain⟨x,y,r2,d2,e1,e2,lx,ly,ly0,hB2,hy⟩:=hB1.two (by omega) (by omega)
        have ly':y.length<bs:=by rw[e1] at hl1;simp at hl1;omega
        have hr2:=hy ly'
        subst hr2
        have hd2:d2=[]:=List.length_eq_zero_iff.1 hB2.length
        subst hd2
        have hld:=hB1.length
        have hcall:=zta c hC fv D hp r hg hr N hN' (2*bs) a (a+bs) N Z (isort c x) (isort c y) [] (by omega) hZ (by rw[zaw,lx]) (by rw[zaw];rw[e1] at hl1;simp at hl1;omega) (by rw[e2] at hld;simp[zaw] at hld ⊢;omega) (by rw[zaw];omega) (by rw[zaw];omega) (zcd hC x) (zcd hC y) (fun z hz=>hDZ z (by rw[e2];simpa using hz))
        rw[show Z++isort c x++isort c y++[]=Z++d by rw[e2];simp,<-zfW hC] at hcall
        simp -dsimp -implicitDefEqProofs only[go_sem,seval,↓reduceIte,hc2,hc3,w2,w3,hcall]
        have hres:=hF.blk (.last r1 (by omega:r1.length<=2*bs))
        rw[<-hxs] at hres
        refine⟨N - 2*bs,by omega,2*bs,Z++isort c r1,rfl,by omega,hres,?_⟩
        rw[zaC (by simp),e1]
        simp
       ·have hc3:¬((a+bs:Nat):Int)<(N:Int):=by omega
        have hd:=hB1.whole (by omega)
        simp -dsimp -implicitDefEqProofs only[go_sem,seval,↓reduceIte,hc2,hc3,w2,w3]
        have hres:=hF.blk (.last r1 (by omega:r1.length<=2*bs))
        rw[<-hxs] at hres
        refine⟨N - 2*bs,by omega,2*bs,Z++isort c r1,rfl,by omega,hres,?_⟩
        rw[zaC (by simp),hd]
    ·have hc:¬(bs:Int)<(N:Int):=by omega
     have hd:=hB.whole (by omega)
     simp -dsimp -implicitDefEqProofs only[go_sem,seval,↓reduceIte,hc]
     rw[List.take_of_length_le (by simp),hd]
end
def zbf(l:List Tm):Bool:=l.all Tm.valid
theorem ziT{l:List Tm}{i:Nat}{t:Tm}(h:l[i]? =some t):zbf (l.take (i+1))=(zbf (l.take i) && t.valid):=by
 unfold zbf
 rw[List.take_add_one,h,List.all_append]
 simp
theorem zho{l:List Tm}{t:Tm}(h:t∈l)(hv:t.valid=false):zbf l=false:=by
 unfold zbf
 rw[List.all_eq_false]
 exact⟨t,h,by simp[hv]⟩

theorem zq8(l:List Tm)(hl:Tm.sizes l<1000000000):S 63 [.pv none (.sl (some 4) (Tm.pvs l))] []=some (.ret (.pv none (.bool (zbf l))),[]):=by
 refine zar rfl rfl rfl (zad [(none,.sl (some 4) (Tm.pvs l))]) rfl ?_
 have hlen:=Tm.zvK l
 simp -dsimp -implicitDefEqProofs only[go_sem,seval,↓reduceIte,Tm.pvs_len]
 refine zbk (fun n st=>∃i:Nat,n=l.length - i/\i<=l.length/\zbf (l.take i)=true/\st=⟨[(5,.pv none (.sl (some 4) (Tm.pvs l))),(6,.pv none (.int .i64 (l.length:Int))),(7,.pv none (.int .i64 i))],[]⟩) (n:=l.length) ⟨0,rfl,Nat.zero_le _,rfl,?_⟩ ?_
 ·simp -dsimp -implicitDefEqProofs only[go_sem,seval,↓reduceIte]
  try rfl
 ·rintro n st ⟨i,hn,hi,he,rfl⟩
  by_cases h:i<l.length
  ·have hc:(i:Int)<(l.length:Int):=by omega
   obtain⟨u,hu⟩:∃u,l[i]? =some u:=⟨_,List.getElem?_eq_getElem h⟩
   have hum:=List.mem_of_getElem? hu
   have husz:=Tm.zvT hum
   have hcall:=fun hp=>za6 u hp (by omega)
   simp only[Tm.av] at hcall
   have w2:IntKind.i64.wrap ((i:Int)+1)=((i+1:Nat):Int):=by rw[zao (by omega) (by omega)];omega
   by_cases h0:u.valid=true
   ·simp -dsimp -implicitDefEqProofs only[go_sem,seval,↓reduceIte,Tm.pvs_len,hc,zac (Tm.pvs_get hu),hcall,w2,h0]
    exact⟨l.length - (i+1),by omega,i+1,rfl,by omega,by rw[ziT hu,he,h0];rfl,rfl⟩
   ·rw[Bool.not_eq_true] at h0
    simp -dsimp -implicitDefEqProofs only[go_sem,seval,↓reduceIte,Tm.pvs_len,hc,zac (Tm.pvs_get hu),hcall,w2,h0,zho hum h0]
  ·have hc:¬(i:Int)<(l.length:Int):=by omega
   obtain rfl:i=l.length:=by omega
   rw[List.take_length] at he
   simp -dsimp -implicitDefEqProofs only[go_sem,seval,↓reduceIte,Tm.pvs_len,hc,he]
theorem zoc(l:List Tm)(hl:Tm.sizes l<1000000000)(hp:Heap):S 63 [.pv none (.sl (some 4) (Tm.pvs l))] hp=some (.ret (.pv none (.bool (zbf l))),hp):=
 zcC (ps:=[(none,.sl (some 4) (Tm.pvs l))]) rfl rfl rfl rfl (zq8 l hl)
theorem zcU{l:List Tm}(h:zbf l=true){t:Tm}(ht:t∈l):t.valid=true:=List.all_eq_true.1 h t ht
theorem zlI{hp ext junk:Heap}{n:Nat}{fr:Fr}(hn:n=hp.length+ext.length)(hf:fr.all (fun x=>x.2.refsIn.all (·<n))=true)(he:ext.all (fun o=>o.refs.all (·<n))=true):collect n hp.length fr (hp++ext++junk)=hp++ext:=by
 have ht:(hp++ext++junk).take n=hp++ext:=by
  rw[List.take_append_of_le_length (by simp;omega),List.take_of_length_le (by simp;omega)]
 unfold collect
 rw[ht,hf,List.drop_left,Bool.true_and]
 exact if_pos he
theorem zob{sh s s':Sh}{k k':IntKind}{z:PV}{hp:Heap}{n:Nat}(hs:0<sh.size)(h:n<=lim):zcI sh z hp [.pv s (.int k 0),.pv s' (.int k' n)]=some (.sl sh hp.length 0 0 0,hp++[.arr sh [] false]):=by
 have h1:((n:Nat):Int)<=((lim:Nat):Int):=by omega
 simp[zcI,hs,h1]
structure IsL(v:AV)(hp:Heap)(l:List Tm):Prop where
 len:sLen [v]=some (.pv none (.int .i64 l.length))
 idx:∀(i:Nat) (u:Tm),l[i]? =some u->∃p,(∀(s:Sh) (k:IntKind),zbJ (some 4) [v,.pv s (.int k i)]=some p)/\∀ext,aload (some 4) (hp++ext) p=some (.pv (some 4) u.pv)
 refs:∀q,q∈v.refsIn->q<hp.length
 frz:∃hp1:Heap,hp1.length=hp.length/\∀ext,zal [v] (hp++ext)=some ([(none,.sl (some 4) (Tm.pvs l))],hp1++ext)
theorem IsL.more{v:AV}{hp:Heap}{l:List Tm}(h:IsL v hp l)(e:Heap):IsL v (hp++e) l where
 len:=h.len
 idx:=fun i u hu=>by
  obtain⟨p,h1,h2⟩:=h.idx i u hu
  exact⟨p,h1,fun ext=>by rw[List.append_assoc];exact h2 _⟩
 refs:=fun q hq=>by have:=h.refs q hq;simp;omega
 frz:=by
  obtain⟨hp1,h1,h2⟩:=h.frz
  exact⟨hp1++e,by simp[h1],fun ext=>by rw[List.append_assoc,h2,List.append_assoc]⟩
theorem zvc(hp:Heap)(l:List Tm):IsL (.pv none (.sl (some 4) (Tm.pvs l))) hp l where
 len:=by rw[zmc,Tm.pvs_len]
 idx:=fun i u hu=>⟨.iptr (some 4) u.pv 0,fun s k=>zac (Tm.pvs_get hu),fun ext=>by rw[zhP];simp⟩
 refs:=fun q hq=>by simp[AV.refsIn] at hq
 frz:=⟨hp,rfl,fun ext=>zad [(none,.sl (some 4) (Tm.pvs l))]⟩
def CmpG(c:PV->PV->Int)(g:FuncId)(D:PV->Prop):Prop:=∀x y,D x->D y->∀hp,S g [.pv (some 4) x,.pv (some 4) y] hp=some (.ret (.pv none (.int .i64 (c x y))),hp)
theorem CmpG.toF{c:PV->PV->Int}{g:FuncId}{D:PV->Prop}(h:CmpG c g D)(hp:Heap)(r:Nat):CmpF c (.pv none (.func (.func g))) D hp r:=⟨g,[],[],rfl,fun x y hx hy A=>h x y hx hy _⟩
section
variable(c:PV->PV->Int) (hC:Cmp c) (g:FuncId) (D:PV->Prop) (hg:CmpG c g D)
include hC hg
theorem ziY(hp:Heap)(r:Nat)(hr:r<hp.length)(N:Nat)(hN':N<100000000)(xs:List PV)(hN:N=xs.length)(hD:∀x∈xs,D x):
  S 76 [.sl (some 4) r N 0 N,.pv none (.func (.func g))] (hp.set r (.arr (some 4) xs false))=some (.ret (.tuple []),hp.set r (.arr (some 4) (isort c xs) false)):=by
 have hcall:=zq1 c hC (.pv none (.func (.func g))) D hp r (hg.toF hp r) hr N hN' xs hN hD
 have hsl:(hp.set r (.arr (some 4) xs false)).length=hp.length:=by simp
 refine zaI rfl rfl rfl rfl ?_
 simp -dsimp -implicitDefEqProofs only[go_sem,seval,↓reduceIte,hcall,hsl]
 rw[List.take_of_length_le (by simp)]
theorem zq0(v:AV)(hp:Heap)(ts:List Tm)(hL:IsL v hp ts)(hv:∀t∈ts,t.valid=true)(hl:Tm.sizes ts<100000000)(hD:∀t∈ts,D t.pv):
  S 64 [v,.pv none (.func (.func g))] hp=some (.ret (.sl (some 4) (hp.length+1) ts.length 0 ts.length),hp++[.arr (some 4) [] false,.arr (some 4) (isort c (Tm.pvs ts)) false]):=by
 have hlen:=Tm.zvK ts
 refine zaI rfl rfl rfl rfl ?_
 have hm:ts.length<=lim:=by unfold lim;omega
 simp -dsimp -implicitDefEqProofs only[go_sem,seval,↓reduceIte,hL.len,zdg (sh:=some 4) (by decide),zob (sh:=some 4) (by decide) hm,List.append_assoc,zai,zae,zak,zaf,Nat.add_assoc,List.length_append]
 refine zbk (fun n st=>∃i:Nat,n=ts.length - i/\i<=ts.length/\st=⟨[(1,.pv none (.func (.func g))),(5,.sl (some 4) (hp.length+1) i 0 i),(11,v),(12,.pv none (.int .i64 ts.length)),(13,.pv none (.int .i64 i))],hp++[.arr (some 4) [] false,.arr (some 4) (Tm.pvs (ts.take i)) false]⟩) (n:=ts.length) ⟨0,rfl,Nat.zero_le _,?_⟩ ?_
 ·simp -dsimp -implicitDefEqProofs only[go_sem,seval,↓reduceIte]
  simp[Tm.pvs]
 ·rintro n st ⟨i,hn,hi,rfl⟩
  by_cases h:i<ts.length
  ·have hc:(i:Int)<(ts.length:Int):=by omega
   obtain⟨u,hu⟩:∃u,ts[i]? =some u:=⟨_,List.getElem?_eq_getElem h⟩
   have hum:=List.mem_of_getElem? hu
   have husz:=Tm.zvT hum
   have hcall:=fun hp=>zcT u hp (hv u hum) (by omega)
   simp only[Tm.av] at hcall
   obtain⟨p,hp1,hp2⟩:=hL.idx i u hu
   have w2:IntKind.i64.wrap ((i:Int)+1)=((i+1:Nat):Int):=by rw[zao (by omega) (by omega)];omega
   have hl2:(Tm.pvs (ts.take i)).length=i:=by rw[Tm.pvs_len,List.length_take];omega
   have hlim:i+1<=lim:=by unfold lim;omega
   simp -dsimp -implicitDefEqProofs only[go_sem,seval,↓reduceIte,hc,hp1,hp2,hcall,w2,hl2,hlim,List.append_assoc,zai,zae,zak,zaf,Nat.add_assoc,List.length_append,Tm.zvQ hu]
   refine⟨ts.length - (i+1),by omega,i+1,rfl,by omega,?_⟩
   rw[show ∀a b c d:AObj,hp++[a,b,c,d]=hp++[a,b]++[c,d] from fun _ _ _ _=>by simp]
   rw[zlI (by simp) (by simp[AV.refsIn];intro q hq;have:=hL.refs q hq;omega) rfl]
  ·have hc:¬(i:Int)<(ts.length:Int):=by omega
   obtain rfl:i=ts.length:=by omega
   have hcall:=ziY c hC g D hg (hp++[.arr (some 4) [] false,.arr (some 4) (Tm.pvs ts) false]) (hp.length+1) (by simp) ts.length (by omega) (Tm.pvs ts) (Tm.pvs_len ts).symm (by rw[Tm.zv6];simpa using hD)
   have e1:∀x,(hp++[AObj.arr (some 4) [] false,.arr (some 4) (Tm.pvs ts) false]).set (hp.length+1) x=hp++[.arr (some 4) [] false,x]:=fun x=>by rw[List.set_append_right _ _ (by omega)];simp
   rw[e1,e1] at hcall
   simp -dsimp -implicitDefEqProofs only[go_sem,seval,↓reduceIte,hc,List.take_length,hcall,List.append_assoc,zai,zae,zak,zaf,Nat.add_assoc,List.length_append]
   simp[AV.refsIn]
end
def small(p:PV):Prop:=∃t:Tm,p=t.pv/\t.valid=true/\t.size<1000000000
def zaU(t:Tm):Bool:=decide (t.kind=3) && decide (t.name=[45]) && decide (t.args.length=2)
def zkl(p:PV):Prop:=∃t:Tm,p=t.pv/\t.valid=true/\t.size<1000000000/\zaU t=true
theorem zsv:CmpG (onPV zbt) 68 zkl:=by
 rintro x y ⟨t,rfl,ht,hts,htp⟩ ⟨u,rfl,hu,hus,hup⟩ hp
 simp only[zaU,Bool.and_eq_true,decide_eq_true_eq] at htp hup
 obtain⟨k1,k2,hk⟩:∃k1 k2,t.args=[k1,k2]:=by
  match t.args,htp.2 with
  |[a,b],_=>exact⟨a,b,rfl⟩
 obtain⟨j1,j2,hj⟩:∃k1 k2,u.args=[k1,k2]:=by
  match u.args,hup.2 with
  |[a,b],_=>exact⟨a,b,rfl⟩
 have h1:k1∈t.args:=by rw[hk];simp
 have h2:j1∈u.args:=by rw[hj];simp
 have hs:=Tm.zvN h1
 have h:=fun hp=>zhW k1 j1 hp (by omega) (Tm.zvM (Tm.valid_fits ht) h1) (Tm.zvM (Tm.valid_fits hu) h2)
 simp only[Tm.av] at h
 have e1:(Tm.pvs t.args)[0]? =some k1.pv:=Tm.pvs_get (by rw[hk];rfl)
 have e2:(Tm.pvs u.args)[0]? =some j1.pv:=Tm.pvs_get (by rw[hj];rfl)
 have ek:zbt t u=k1.cmp j1:=by unfold zbt zab;rw[hk,hj];rfl
 refine zar rfl rfl rfl (zad [(some 4,t.pv),(some 4,u.pv)]) rfl ?_
 simp -dsimp -implicitDefEqProofs only[go_sem,seval,↓reduceIte,zag,zaM e1,zaM e2,h]
 rw[show onPV zbt t.pv u.pv=zbt t u by simp[onPV,zqh],ek]
def zdJ(ts:List Tm):Int:=if zbf ts=true then(if ts.all zaU=true then 0 else 3) else 1
def zbC(ts:List Tm):List Tm:=if zbf ts=true/\ts.all zaU=true then isort zbt ts else[]
def ztY(ts:List Tm)(hp:Heap)(v:AV)(H:Heap):Prop:=∃q E,H=hp++E/\hp.length<=q/\H[q]? =some (.arr (some 4) (Tm.pvs (zbC ts)) false)/\v=.tuple [.sl (some 4) q (zbC ts).length 0 (zbC ts).length,.pv none (.int .i64 (zdJ ts))]
theorem zeZ{ts:List Tm}{hp:Heap}{q:Nat}{E:Heap}{n:Nat}(hq:hp.length<=q)(h:(hp++E)[q]? =some (.arr (some 4) (Tm.pvs (zbC ts)) false))(hn:n=(zbC ts).length){e:Int}(he:e=zdJ ts):
  ztY ts hp (.tuple [.sl (some 4) q n 0 n,.pv none (.int .i64 e)]) (if(AV.tuple [.sl (some 4) q n 0 n,.pv none (.int .i64 e)]).refsIn.all (fun q=>decide (q<hp.length))=true then(hp++E).take hp.length else hp++E):=by
 rw[if_neg (by simp[AV.refsIn,AV.refsIn.gol];omega)]
 exact⟨q,E,rfl,hq,h,by rw[hn,he]⟩
theorem zuU(ts:List Tm)(hl:Tm.sizes ts<100000000)(hp:Heap):∃v H,S 45 [.pv none (.sl (some 4) (Tm.pvs ts))] hp=some (.ret v,H)/\ztY ts hp v H:=by
 have hv:=zoc ts (by omega)
 have hlen:=Tm.zvK ts
 refine zb1 (ztY ts hp) rfl rfl rfl rfl ?_
 have hn0:∀H:Heap,zbW (some 4) H=some (.sl (some 4) H.length 0 0 0,H++[.arr (some 4) [] false]):=fun H=>zdg (sh:=some 4) (by decide)
 by_cases h:zbf ts=true
 ·rw[h] at hv
  simp -dsimp -implicitDefEqProofs only[go_sem,seval,↓reduceIte,hv,hn0,Tm.pvs_len,List.append_assoc,zai,zae,zak,zaf,Nat.add_assoc,List.length_append]
  refine zbk (fun n st=>∃i:Nat,n=ts.length - i/\i<=ts.length/\(ts.take i).all zaU=true/\st=⟨[(0,.pv none (.sl (some 4) (Tm.pvs ts))),(9,.pv none (.sl (some 4) (Tm.pvs ts))),(10,.pv none (.int .i64 ts.length)),(11,.pv none (.int .i64 i))],hp++[.arr (some 4) [] false]⟩) (n:=ts.length) ⟨0,rfl,Nat.zero_le _,rfl,?_⟩ ?_
  ·rfl
  ·rintro n st ⟨i,hn,hi,hp1,rfl⟩
   by_cases hlt:i<ts.length
   ·have hc:(i:Int)<(ts.length:Int):=by omega
    obtain⟨u,hu⟩:∃u,ts[i]? =some u:=⟨_,List.getElem?_eq_getElem hlt⟩
    have hum:=List.mem_of_getElem? hu
    have w2:IntKind.i64.wrap ((i:Int)+1)=((i+1:Nat):Int):=by rw[zao (by omega) (by omega)];omega
    have hbad:zaU u=false->zdJ ts=3/\zbC ts=[]:=fun hb=>by
     have:ts.all zaU=false:=List.all_eq_false.2 ⟨u,hum,by simp[hb]⟩
     unfold zdJ zbC
     simp[h,this]
    by_cases k1:u.kind=3
    ·have k1':=eq_true k1
     by_cases k2:u.name=[45]
     ·have k2':=eq_true k2
      by_cases k3:u.args.length=2
      ·have k3':=eq_true (show(u.args.length:Int)=2 by omega)
       simp -dsimp -implicitDefEqProofs only[go_sem,seval,↓reduceIte,hc,zac (Tm.pvs_get hu),zam,zax,zag,Tm.pvs_len,k1',k2',k3',w2,hn0,List.append_assoc,zai,zae,zak,zaf,Nat.add_assoc,List.length_append]
       refine⟨ts.length - (i+1),by omega,i+1,rfl,by omega,by rw[List.take_add_one,hu];simp[hp1,zaU,k1,k2,k3],?_⟩
       rw[zaZ 1 rfl rfl rfl (by simp[AV.refsIn])]
       rfl
      ·have k3':=eq_false (show ¬(u.args.length:Int)=2 by omega)
       simp -dsimp -implicitDefEqProofs only[go_sem,seval,↓reduceIte,hc,zac (Tm.pvs_get hu),zam,zax,zag,Tm.pvs_len,k1',k2',k3',w2,hn0,List.append_assoc,zai,zae,zak,zaf,Nat.add_assoc,List.length_append]
       exact zeZ (by omega) (by rw[zai,(hbad (by simp[zaU,k3])).2];rfl) (by rw[(hbad (by simp[zaU,k3])).2];rfl) (hbad (by simp[zaU,k3])).1.symm
     ·have k2':=eq_false k2
      simp -dsimp -implicitDefEqProofs only[go_sem,seval,↓reduceIte,hc,zac (Tm.pvs_get hu),zam,zax,zag,Tm.pvs_len,k1',k2',w2,hn0,List.append_assoc,zai,zae,zak,zaf,Nat.add_assoc,List.length_append]
      exact zeZ (by omega) (by rw[zai,(hbad (by simp[zaU,k2])).2];rfl) (by rw[(hbad (by simp[zaU,k2])).2];rfl) (hbad (by simp[zaU,k2])).1.symm
    ·have k1':=eq_false k1
     simp -dsimp -implicitDefEqProofs only[go_sem,seval,↓reduceIte,hc,zac (Tm.pvs_get hu),zam,zax,zag,Tm.pvs_len,k1',w2,hn0,List.append_assoc,zai,zae,zak,zaf,Nat.add_assoc,List.length_append]
     exact zeZ (by omega) (by rw[zai,(hbad (by simp[zaU,k1])).2];rfl) (by rw[(hbad (by simp[zaU,k1])).2];rfl) (hbad (by simp[zaU,k1])).1.symm
   ·have hc:¬(i:Int)<(ts.length:Int):=by omega
    obtain rfl:i=ts.length:=by omega
    rw[List.take_length] at hp1
    have eE:zdJ ts=0:=by unfold zdJ;rw[if_pos h,if_pos hp1]
    have eL:zbC ts=isort zbt ts:=by unfold zbC;rw[if_pos ⟨h,hp1⟩]
    have hcall:=zq0 (onPV zbt) (zse key_cmp) 68 zkl zsv (.pv none (.sl (some 4) (Tm.pvs ts))) (hp++[.arr (some 4) [] false]) ts (zvc _ _) (fun t ht=>zcU h ht) hl (fun t ht=>⟨t,rfl,zcU h ht,by have:=Tm.zvT ht;omega,List.all_eq_true.1 hp1 t ht⟩)
    simp only[zqi,List.length_append,List.length_cons,List.length_nil,List.append_assoc,List.cons_append,List.nil_append,Nat.add_assoc,Nat.zero_add] at hcall
    simp -dsimp -implicitDefEqProofs only[go_sem,seval,↓reduceIte,hc,hcall,List.append_assoc,zai,zae,zak,zaf,Nat.add_assoc,List.length_append]
    exact zeZ (by omega) (by rw[zai,eL];rfl) (by rw[eL,zaw]) eE.symm
 ·have eE:zdJ ts=1:=by unfold zdJ;rw[if_neg h]
  have eL:zbC ts=[]:=by unfold zbC;rw[if_neg (fun e=>h e.1)]
  rw[Bool.not_eq_true] at h
  rw[h] at hv
  simp -dsimp -implicitDefEqProofs only[go_sem,seval,↓reduceIte,hv,hn0,List.append_assoc,zai,zae,zak,zaf,Nat.add_assoc,List.length_append]
  exact zeZ (by omega) (by rw[zai,eL];rfl) (by rw[eL];rfl) eE.symm
theorem ze2{t:Tm}(h:zaU t=true):∃a b,t.args=[a,b]:=by
 simp only[zaU,Bool.and_eq_true,decide_eq_true_eq] at h
 match t.args,h.2 with
 |[a,b],_=>exact⟨a,b,rfl⟩
theorem zen{t:Tm}(h:zaU t=true):zab t∈t.args:=by
 obtain⟨a,b,e⟩:=ze2 h
 unfold zab
 rw[e]
 simp
end Go.Proofs.Ytffecaafklpmhaa
