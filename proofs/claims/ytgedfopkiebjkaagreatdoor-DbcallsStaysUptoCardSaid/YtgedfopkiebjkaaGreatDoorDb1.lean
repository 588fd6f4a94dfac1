/- What is proved: whether two terms are the same, by the program and by the reference. -/
import Derived.Test.YtgedfopkiebjkaaGreatDoorTerm
import Derived.Test.YtgedfopkiebjkaaGreatDoorAm5
set_option linter.unusedSimpArgs false
set_option linter.unusedVariables false
set_option maxRecDepth 20000
namespace Go.Proofs.YtgedfopkiebjkaaGreatDoor
open Go.Am
theorem mY:∀(a b:Tm) (hp:Heap),a.size<1000000000->S 64 [a.av,b.av] hp=some (.ret (P5 (decide (a.cmp b=0))),hp):=by
 intro a
 induction a using Tm.zAH with
 |h a ih=>
  intro b hp ha;have hts:=a.size_eq;have hlen:=Tm.zAG a.args;refine zM rfl rfl rfl (zK [(some 4,a.pv),(some 4,b.pv)]) rfl ?_;by_cases hall:a.kind=b.kind/\a.n=b.n/\a.name=b.name/\a.args.length=b.args.length
  ·obtain⟨h1,h2,h3,h4⟩:=hall;have hz:a.cmp b=Tm.cmps a.args b.args:=by
    rw[Tm.zBa,h1,h2,h3,h4,qd,qd,qd,cb_zero.2 rfl];rfl
   rw[hz];simp -dsimp -implicitDefEqProofs only[c64b12,go_sem,seval,zJ,Yf,zN,zL,Tm.pvs_len,h1,h2,h3,h4];refine XH (fun n st=>∃i:Nat,n=a.args.length - i/\i<=a.args.length/\Tm.cmps a.args b.args=Tm.cmps (a.args.drop i) (b.args.drop i)/\st=⟨[(2,.ptr 0 0),(3,.ptr 1 0),(5,P4 i)],[.box (some 4) (.pv (some 4) a.pv),.box (some 4) (.pv (some 4) b.pv)]⟩) (n:=a.args.length) ⟨0,rfl,Za _,rfl,?_⟩ ?_
   ·simp -dsimp -implicitDefEqProofs only[go_sem,seval]
    try rfl
   ·rintro n st ⟨i,hn,hi,he,rfl⟩;by_cases h:i<a.args.length
    ·have hc:(i:Int)<(a.args.length:Int):=by omega
     obtain⟨u,hu⟩:∃u,a.args[i]? =some u:=⟨_,Ze h⟩;obtain⟨w,hw⟩:∃w,b.args[i]? =some w:=⟨_,Ze (by omega)⟩;have hum:=Zh hu;have husz:=Tm.zAI hum;have hcall:=fun hp=>ih u hum w hp (by omega);simp only[Tm.av] at hcall;have w2:IntKind.i64.wrap ((i:Int)+1)=((i+1:Nat):Int):=by grind [zU]
     rw[Tm.zA2 hu hw] at he;by_cases h0:u.cmp w=0
     ·rw[h0,Gy] at he;simp -dsimp -implicitDefEqProofs only[c64b12,go_sem,seval,zL,Tm.pvs_len,hc,zT (Tm.pvs_get hu),zT (Tm.pvs_get hw),hcall,w2,h0]
      grind
     ·rw[Gz h0] at he;simp -dsimp -implicitDefEqProofs only[c64b12,go_sem,seval,zL,Tm.pvs_len,hc,zT (Tm.pvs_get hu),zT (Tm.pvs_get hw),hcall,w2,h0,he]
    ·have hc:¬(i:Int)<(a.args.length:Int):=by omega
     obtain rfl:i=a.args.length:=by omega
     rw[List.drop_length,Tm.zAW] at he;simp -dsimp -implicitDefEqProofs only[c64b12,go_sem,seval,zL,Tm.pvs_len,hc,he]
  ·have hz:¬a.cmp b=0:=fun h=>hall (by grind [Tm.zAQ])
   replace hall:=Kept.mk hall
   replace hts:=Kept.mk hts
   clear ih
   (repeat' (first|(simp -dsimp -implicitDefEqProofs only[go_sem,seval,zJ,Yf,zN,zL,Tm.pvs_len, *])|(refine Y6 (fun _=> ?_) (fun _=> ?_))))
   exact absurd ⟨‹_›,‹_›,‹_›,by omega⟩ hall.out

def same(a b:Tm):Bool:=a.valid && (b.valid && decide (a.cmp b=0))
theorem VA(a b:Tm)(hp:Heap)(ha:a.size<1000000000)(hb:b.size<1000000000):S 44 [a.av,b.av] hp=some (.ret (P5 (same a b)),hp):=by
 refine zM rfl rfl rfl (zK [(some 4,a.pv),(some 4,b.pv)]) rfl ?_;have h1:=fun hp=>Vz a hp ha;have h2:=fun hp=>Vz b hp hb;have h3:=fun hp=>mY a b hp ha;simp only[Tm.av] at h1 h2 h3;unfold same;by_cases va:a.valid=true
 ·by_cases vb:b.valid=true
  ·(repeat' (first|(simp -dsimp -implicitDefEqProofs only[go_sem,seval, *])|(refine Y6 (fun _=> ?_) (fun _=> ?_))))
  ·(repeat' (first|(simp -dsimp -implicitDefEqProofs only[go_sem,seval, *])|(refine Y6 (fun _=> ?_) (fun _=> ?_))))
 ·(repeat' (first|(simp -dsimp -implicitDefEqProofs only[go_sem,seval, *])|(refine Y6 (fun _=> ?_) (fun _=> ?_))))

theorem mZ:∀(a b:Tm) (hp:Heap),a.size<1000000000->S 75 [a.av,b.av] hp=some (.ret (P5 (decide (a.cmp b=0))),hp):=by
 intro a
 induction a using Tm.zAH with
 |h a ih=>
  intro b hp ha;have hts:=a.size_eq;have hlen:=Tm.zAG a.args;refine zM rfl rfl rfl (zK [(some 4,a.pv),(some 4,b.pv)]) rfl ?_;by_cases hall:a.kind=b.kind/\a.n=b.n/\a.name=b.name/\a.args.length=b.args.length
  ·obtain⟨h1,h2,h3,h4⟩:=hall;have hz:a.cmp b=Tm.cmps a.args b.args:=by
    rw[Tm.zBa,h1,h2,h3,h4,qd,qd,qd,cb_zero.2 rfl];rfl
   rw[hz];simp -dsimp -implicitDefEqProofs only[c75b13,go_sem,seval,zJ,Yf,zN,zL,Tm.pvs_len,h1,h2,h3,h4];have hbl:(b.args.length:Int)=(a.args.length:Int):=by rw[h4]
   refine Yp (α:=Unit) a.args.length (fun i _=>Tm.cmps a.args b.args=Tm.cmps (a.args.drop i) (b.args.drop i)) (fun i _=>⟨[(3,.ptr 1 0),(36,.pv none (.sl (some 4) (Tm.pvs a.args))),(37,P4 b.args.length),(38,P4 i)],[.box (some 4) (.pv (some 4) a.pv),.box (some 4) (.pv (some 4) b.pv)]⟩) () ⟨rfl,rfl⟩ ?_ ?_
   ·rintro i - h he;have hc:(i:Int)<(b.args.length:Int):=by omega
    obtain⟨u,hu⟩:∃u,a.args[i]? =some u:=⟨_,Ze h⟩;obtain⟨w,hw⟩:∃w,b.args[i]? =some w:=⟨_,Ze (by omega)⟩;have hum:=Zh hu;have husz:=Tm.zAI hum;have hcall:=fun hp=>ih u hum w hp (by omega);simp only[Tm.av] at hcall;have w2:IntKind.i64.wrap ((i:Int)+1)=((i+1:Nat):Int):=by grind [zU]
    rw[Tm.zA2 hu hw] at he;by_cases h0:u.cmp w=0
    ·rw[h0,Gy] at he;simp -dsimp -implicitDefEqProofs only[c75b13,go_sem,seval,zL,Tm.pvs_len,hc,zT (Tm.pvs_get hu),zT (Tm.pvs_get hw),hcall,w2,h0];exact⟨(),he,rfl⟩
    ·rw[Gz h0] at he;simp -dsimp -implicitDefEqProofs only[c75b13,go_sem,seval,zL,Tm.pvs_len,hc,zT (Tm.pvs_get hu),zT (Tm.pvs_get hw),hcall,w2,h0,he]
   ·rintro - he;have hc:¬(a.args.length:Int)<(b.args.length:Int):=by omega
    rw[List.drop_length,Tm.zAW] at he;simp -dsimp -implicitDefEqProofs only[c75b13,go_sem,seval,zL,Tm.pvs_len,hc,he]
  ·have hz:¬a.cmp b=0:=fun h=>hall (by grind [Tm.zAQ])
   replace hall:=Kept.mk hall
   replace hts:=Kept.mk hts
   clear ih
   (repeat' (first|(simp -dsimp -implicitDefEqProofs only[go_sem,seval,zJ,Yf,zN,zL,Tm.pvs_len, *])|(refine Y6 (fun _=> ?_) (fun _=> ?_))))
   exact absurd ⟨‹_›,‹_›,‹_›,by omega⟩ hall.out
theorem Qa(a b:Tm)(hp:Heap)(ha:a.size<1000000000)(hb:b.size<1000000000):S 37 [a.av,b.av] hp=some (.ret (P5 (same a b)),hp):=by
 refine zM rfl rfl rfl (zK [(some 4,a.pv),(some 4,b.pv)]) rfl ?_;have h1:=fun hp=>YR a hp ha;have h2:=fun hp=>YR b hp hb;have h3:=fun hp=>mZ a b hp ha;simp only[Tm.av] at h1 h2 h3;unfold same;by_cases va:a.valid=true
 ·by_cases vb:b.valid=true
  ·(repeat' (first|(simp -dsimp -implicitDefEqProofs only[go_sem,seval, *])|(refine Y6 (fun _=> ?_) (fun _=> ?_))))
  ·(repeat' (first|(simp -dsimp -implicitDefEqProofs only[go_sem,seval, *])|(refine Y6 (fun _=> ?_) (fun _=> ?_))))
 ·(repeat' (first|(simp -dsimp -implicitDefEqProofs only[go_sem,seval, *])|(refine Y6 (fun _=> ?_) (fun _=> ?_))))
theorem YJ{α:Type}(l r:List α)(k:Nat):(l++r)[l.length+k]? =r[k]? :=by
 grind
theorem xx{α:Type}(l r:List α):(l++r)[l.length]? =r[0]? :=YJ l r 0
theorem jH{α:Type}(l r:List α)(k:Nat)(x:α):(l++r).set (l.length+k) x=l++r.set k x:=by
 grind
theorem m5{α:Type}(l r:List α)(x:α):(l++r).set l.length x=l++r.set 0 x:=jH l r 0 x
theorem m6(t:Tm)(hp:Heap):S 85 [t.av] hp=some (.ret t.av,hp):=by
 refine zM rfl rfl rfl (zK [(some 4,t.pv)]) rfl ?_
 (repeat' (first|(simp -dsimp -implicitDefEqProofs only[go_sem,seval,Tm.av, *])|(refine Y6 (fun _=> ?_) (fun _=> ?_))))

theorem zF(s s0:Sh)(r v o n:Nat)(l:List (Sh × AV))(hp:Heap):zR ((s,.sl s0 r v o n)::l) hp=YI (s,.sl s0 r v o n) (zR l hp):=rfl
theorem Qb{Γ:Oracle}{b:Nat}{vs:List AV}{hp:Heap}{K:AV->Heap->Prop}{Kp:PV->Heap->Prop}(sh:Sh)(n:Nat):opK (aOp Γ b (.bslicen sh n) vs hp) K Kp=YD (YW sh hp (vs.drop n)) (fun v hp'=>(vs.take n).all (Yy hp hp')=true/\K v hp'):=by
 grind [aOp,qw,opK,YD]
def appH(n:Nat)(t:Tm)(i:Nat):Heap:=[.box (some 4) (.pv (some 4) t.pv),.box (some 4) (.agg [(none,P4 0),(none,P4 0),(none,P6 []),(none,.sl (some 4) (n+2) 0 0 0)]),.arr (some 4) [] false,.box (some 4) (.agg [(none,P4 t.kind),(none,P4 t.n),(none,P6 t.name),(none,.sl (some 4) (n+5) i 0 i)]),.arr (some 4) [] false,.arr (some 4) (Tm.pvs (t.args.take i)) false]
theorem Jj{hp hp':Heap}{r o q i:Nat}{t:Tm}(h:hp[r]? =some (.box (some 4) (.agg [(none,P4 t.kind),(none,P4 t.n),(none,P6 t.name),(none,.sl (some 4) q i 0 i)])))(h':hp'[r]? =some (.box (some 4) (.agg [(none,P4 t.kind),(none,P4 t.n),(none,P6 t.name),(none,.sl (some 4) q i 0 i)]))):Yy hp hp' (.ptr r o)=true:=by
 simp_all[Yy,AObj.beq,AV.beq,AV.beqc,PV.beq]
attribute [go_sem] Zo YJ xx jH m5 Nat.add_assoc zi
theorem P1:∀l hp,AV.freeze (7+1) (.agg l) hp=match AV.freeze.go 7 l hp with|some (ps,hp')=>some (.agg ps,hp')|none=>none:=fun _ _=>rfl
theorem m7(cl:AV):∀(t:Tm) (hp:Heap),t.fits=true->t.size<1000000000->(cl=.pv none (.func (.func 85))\/(t.occ=[]/\cl.refsIn.all (fun q=>decide (q<hp.length))=true))->∃v e,S 76 [t.av,cl] hp=some (.ret v,hp++e)/\v.shp=some 4/\v.plain=true/\(∀H,v.own H=(v,H))/\(∃e2,AV.freeze deep v (hp++e)=some (t.pv,hp++e2))/\∀H:Heap,(∀j,hp.length<=j->H[j]? =(hp++e)[j]?)->∃H2,AV.freeze deep v H=some (t.pv,H2):=by
 intro t
 induction t using Tm.zAH with
 |h t ih=>
  intro hp hf ht hcl;have hts:=t.size_eq;have hlen:=Tm.zAG t.args;have h1:=fun hp=>m6 t hp;simp only[Tm.av] at h1;by_cases hk:t.kind=0
  ·have hcl:cl=.pv none (.func (.func 85)):=by
    grind [Tm.zAJ]
   subst hcl;refine⟨t.av,[],?_,rfl,rfl,fun _=>rfl,⟨[],rfl⟩,fun H _=>⟨H,rfl⟩⟩;rw[ZL];refine Yj rfl rfl rfl rfl ?_;have hk':=Zi hk;simp -dsimp -implicitDefEqProofs only[go_sem,seval,Tm.av,zJ,hk',h1]
   grind [AV.refsIn]
  ·refine⟨.agg [(none,P4 t.kind),(none,P4 t.n),(none,P6 t.name),(none,.sl (some 4) (hp.length+5) t.args.length 0 t.args.length)],
    [.box (some 4) (.pv (some 4) t.pv),.box (some 4) (.agg [(none,P4 t.kind),(none,P4 t.n),(none,P6 t.name),(none,.sl (some 4) (hp.length+5) t.args.length 0 t.args.length)]),.arr (some 4) [] false,.box (some 4) (.agg [(none,P4 t.kind),(none,P4 t.n),(none,P6 t.name),(none,.sl (some 4) (hp.length+5) t.args.length 0 t.args.length)]),.arr (some 4) [] false,.arr (some 4) (Tm.pvs t.args) false],?_,rfl,rfl,fun _=>rfl,?_,?_⟩
   ·refine Yj rfl rfl rfl rfl ?_;have hk':=Zg hk;have hb:zQ A0 [0,1,2] [P4 t.kind,P4 t.n,P6 t.name]=some (.agg [(none,P4 t.kind),(none,P4 t.n),(none,P6 t.name),(none,.tsl (some 4) [])]):=rfl;simp -dsimp -implicitDefEqProofs only[go_sem,seval,Tm.av,zJ,Yf,zN,zL,hk',Tm.pvs_len,hb,zD (Zd _ _)];refine Yp (α:=Unit) t.args.length (fun _ _=>True) (fun i _=>⟨[(1,cl),(4,.ptr (hp.length+1) 0),(5,.ptr (hp.length+3) 0),(22,.pv none (.sl (some 4) (Tm.pvs t.args))),(23,P4 t.args.length),(24,P4 i)],hp++appH hp.length t i⟩) () ⟨trivial,rfl⟩ ?_ ?_
    ·rintro i - h -;have hc:(i:Int)<(t.args.length:Int):=by omega
     obtain⟨u,hu⟩:∃u,t.args[i]? =some u:=⟨_,Ze h⟩;have hum:=Zh hu;have husz:=Tm.zAI hum;obtain⟨v,e,hcall,hvs,_,_,⟨e2,hfz⟩,_⟩:=ih u hum (hp++(appH hp.length t i++[.box (some 4) (.pv (some 4) u.pv),.arr (some 4) [] false])) (Tm.zAK hf hum) (by omega) (hcl.imp_right fun h=>⟨by
      have ho:=h.1;obtain⟨x,y,e⟩:=List.append_of_mem hum;rw[Tm.zAJ,Zb hk,e,Tm.zA0] at ho;exact(List.append_eq_nil_iff.1 (List.append_eq_nil_iff.1 ho).2).1,Zr.2 fun q hq=>(by
      grind)⟩)
     have w2:IntKind.i64.wrap ((i:Int)+1)=((i+1:Nat):Int):=by grind [zU]
     have hl:(Tm.pvs (t.args.take i)).length=i:=by grind [Tm.pvs_len]
     have hlim:i+1<=lim:=by grind [lim]
     have hbs:YW (some 4) (hp++(appH hp.length t i++[.box (some 4) (.pv (some 4) u.pv),.arr (some 4) [] false])++e) [v]=some (.tsl (some 4) [u.pv],hp++(appH hp.length t i++[.box (some 4) (.pv (some 4) u.pv),.arr (some 4) [] false])++e2):=by
      simp_all[YW,zZ,YG]
     simp only[Tm.av] at hcall;have hs1:∀e e':Heap,Yy (hp++(appH hp.length t i++e)) (hp++(appH hp.length t i++e')) (.ptr (hp.length+3) 3)=true:=fun e e'=>Jj (t:=t) (q:=hp.length+5) (i:=i) (by rw[YJ];rfl) (by rw[YJ];rfl);simp only[appH,Zo,Zq,Zu] at hcall hbs hs1;simp -dsimp -implicitDefEqProofs only[go_sem,seval,appH,hc,zT (Tm.pvs_get hu),Qb,ZE,ZX,ZR,ZS,hcall,hbs,hs1,w2,hl,hlim,Tm.zAM hu,zD (Zd _ _),yY (Zd _ _)];have hcr:cl.refsIn.all (fun q=>decide (q<hp.length+6))=true:=by
      rcases hcl with h|h
      ·rw[h];rfl
      grind
     simp_all[ym,AObj.refs,AV.ofComps,pures,AV.refsIn,AV.refsIn.go]
    ·rintro - -;have hc:¬(t.args.length:Int)<(t.args.length:Int):=by omega
     simp -dsimp -implicitDefEqProofs only[go_sem,seval,appH,hc,ZW,zF,zD (Zd _ _),yY (Zd _ _)]
     grind [AV.refsIn,AV.refsIn.go]
   ·have e:=P1
    cases t with
    |mk k n s ts=>
     refine⟨[.box (some 4) (.pv (some 4) (Tm.mk k n s ts).pv),.box (some 4) (.agg [(none,P4 k),(none,P4 n),(none,P6 s),(none,.sl (some 4) (hp.length+5) ts.length 0 ts.length)]),.arr (some 4) [] false,.box (some 4) (.agg [(none,P4 k),(none,P4 n),(none,P6 s),(none,.sl (some 4) (hp.length+5) ts.length 0 ts.length)]),.arr (some 4) [] false,.arr (some 4) (Tm.pvs ts) true],?_⟩;show AV.freeze (7+1) (.agg _) _=_;simp[e,AV.freeze.go,AV.freeze,YJ,Tm.kind,Tm.n,Tm.name,Tm.args,Tm.pvs_len,Tm.pv]
   ·intro H hH;have h5:=hH (hp.length+5) (by omega);rw[YJ] at h5;have e:=P1
    cases t with
    |mk k n s ts=>
     refine⟨H.set (hp.length+5) (.arr (some 4) (Tm.pvs ts) true),?_⟩;show AV.freeze (7+1) (.agg _) _=_;simp only[Tm.args,zA,List.getElem?_cons_zero] at h5;simp_all[AV.freeze.go,AV.freeze,Tm.kind,Tm.n,Tm.name,Tm.args,Tm.pvs_len,Tm.pv]
theorem Tm.valid_fits{t:Tm}(h:t.valid=true):t.fits=true:=by
 grind [Tm.valid]
theorem G3{t:Tm}{v:AV}{H H2:Heap}(h1:v.shp=some 4)(h2:v.plain=true)(h3:AV.freeze deep v H=some (t.pv,H2)):Am.frozen t.av v H:=by
 refine⟨H2,?_⟩;cases v <;> first|(cases h2;done)|(simp only[AV.freezeRes,h3,h1];rfl)
theorem Xg(t:Tm)(hp:Heap)(hv:t.valid=true)(ht:t.size<1000000000):S 41 [t.av] hp=some (.ret t.av,hp):=by
 refine zM rfl rfl rfl (zK [(some 4,t.pv)]) rfl ?_;have h1:=fun hp=>YR t hp ht;obtain⟨v,e,h2,h3,h4,h5,_,h6⟩:=m7 _ t [.box (some 4) (.pv (some 4) t.pv),.box (some 4) (.agg [(none,P4 0),(none,P4 0),(none,P6 []),(none,.sl (some 4) 2 0 0 0)]),.arr (some 4) [] false] (Tm.valid_fits hv) ht (.inl rfl);have hst:zH (some 4) 0 ([.box (some 4) (.pv (some 4) t.pv),.box (some 4) (.agg [(none,P4 0),(none,P4 0),(none,P6 []),(none,.sl (some 4) 2 0 0 0)]),.arr (some 4) [] false]++e) [.ptr 1 0,v]=some (.undef,[.box (some 4) (.pv (some 4) t.pv),.box (some 4) v,.arr (some 4) [] false]++e):=by
  grind [zH,astore]
 have hfz:=fun(H:Heap) (hH:∀j,3<=j->H[j]? =_)=>(h6 H hH).elim fun H2 k=>G3 h3 h4 k;have hfr:Am.frozen t.av v ([.box (some 4) (.pv (some 4) t.pv),.box (some 4) v,.arr (some 4) [] false]++e):=by
  grind
 rw[hv] at h1;simp only[Tm.av,Zq,Zu] at h1 h2 hst;simp -dsimp -implicitDefEqProofs only[go_sem,seval,Tm.av,h1,h2,hst,zD (Za _)];exact hfr
theorem YS{t u:Tm}(h:t.valid=true)(hu:u∈t.args):u.valid=true:=by
 unfold Tm.valid at h ⊢;simp only[Zk,ZN] at h ⊢;have:=Tm.zAI hu
 grind [Tm.zAK]
theorem valid_fits{t:Tm}(h:t.valid=true):t.fits=true:=by grind [Tm.valid]
theorem QN{t:Tm}(h:t.fits=true)(h2:t.size<=2000):t.valid=true:=by grind [Tm.valid]
def panE(p:PV):AExit->St->Prop
 | .panic v,_=>v=p
 |_,_=>False
theorem Jk(p v:PV)(st:St):panE p (.panic v) st=(v=p):=rfl
theorem qh{F:FuncId->Option AFn}{prim:FuncId->Option Ya}{f:FuncId}{fn:AFn}{args:List AV}{ps:List (Sh × PV)}{hp:Heap}{p:PV}(hp0:prim f=none)(hf:F f=some fn)(hm:fn.heapMode=false)(hz:zZ args hp=some (ps,hp))(hn:(pvs ps).length=fn.nparams)
  (h:W (sem F prim) (sloop F prim) 0 fn.code ⟨params 0 (pvs ps),[]⟩ (panE p))(hr:fn.rcv=none:=by rfl)(hmo:fn.more=[]:=by rfl):sem F prim .fn f args hp=some (.panic p,hp):=by
 rw[X3];unfold YY;rw[hp0,hf];simp only[hr,hmo,zy,hm,ZJ,if_false,hz,abody,hn,ne_eq,not_true_eq_false];unfold W at h;split at h
 ·rename_i e st' he;have hl:([]:Heap).length=0:=rfl;rw[hl,he];cases e with
  |panic v=>
   have:v=p:=h
   grind
  |normal=>exact h.elim
  |ret=>exact h.elim
  |exit i=>exact h.elim
 grind
def jn(t:Tm):Prop:=t.kind=3/\t.args.length=2/\(t.name=[44]\/t.name=[59]\/t.name=[45,62])
instance (t:Tm):Decidable (jn t):=inferInstanceAs (Decidable (_/\_/\_))
theorem m8(t:Tm)(hp:Heap):S 127 [t.av] hp=some (.ret (P5 (decide (jn t))),hp):=by
 refine zM rfl rfl rfl (zK [(some 4,t.pv)]) rfl ?_;by_cases h1:t.kind=3
 ·have h1':=Zi h1;by_cases h2:t.args.length=2
  ·have h2':=Zi (show(t.args.length:Int)=2 by omega);by_cases h3:t.name=[44]
   ·have h3':=Zi h3;have e:decide (jn t)=true:=Z1 ⟨h1,h2,.inl h3⟩;rw[e];simp -dsimp -implicitDefEqProofs only[go_sem,seval,Tm.av,zJ,zN,zL,Tm.pvs_len,h1',h2',h3']
   ·have h3':=Zg h3;by_cases h4:t.name=[59]
    ·have h4':=Zi h4;have e:decide (jn t)=true:=Z1 ⟨h1,h2,.inr (.inl h4)⟩;rw[e];simp -dsimp -implicitDefEqProofs only[go_sem,seval,Tm.av,zJ,zN,zL,Tm.pvs_len,h1',h2',h3',h4']
    ·have h4':=Zg h4;have e:decide (jn t)=decide (t.name=[45,62]):=by grind [jn]
     rw[e];simp -dsimp -implicitDefEqProofs only[go_sem,seval,Tm.av,zJ,zN,zL,Tm.pvs_len,h1',h2',h3',h4']
  ·have h2':=Zg (show ¬(t.args.length:Int)=2 by omega);have e:decide (jn t)=false:=by grind [jn]
   rw[e];simp -dsimp -implicitDefEqProofs only[go_sem,seval,Tm.av,zJ,zN,zL,Tm.pvs_len,h1',h2']
 ·have h1':=Zg h1;have e:decide (jn t)=false:=by grind [jn]
  rw[e];simp -dsimp -implicitDefEqProofs only[go_sem,seval,Tm.av,zJ,zN,zL,Tm.pvs_len,h1']
theorem VB(t:Tm)(hp:Heap):S 47 [t.av] hp=some (.ret (P5 (decide (t.kind=2) || decide (t.kind=3))),hp):=by
 refine zM rfl rfl rfl (zK [(some 4,t.pv)]) rfl ?_;by_cases h1:t.kind=2
 ·simp -dsimp -implicitDefEqProofs only[go_sem,seval,Tm.av,zJ,h1,Bool.true_or]
 ·simp -dsimp -implicitDefEqProofs only[go_sem,seval,Tm.av,zJ,h1,Bool.false_or]
def G4:List UInt8:=[99,97,108,108]
def tstr(s:List UInt8)(l:List Tm):Tm:=.mk 3 0 s l
def cvF:Nat->Tm->Option Tm
 |0,_=>none
 |n+1,t=>if t.kind=0 then some (tstr G4 [t]) else if jn t then(match t.args with
   |[a,b]=>match cvF n a with
    |none=>none
    |some x=>match cvF n b with
     |none=>none
     |some y=>some (tstr t.name [x,y])
   |_=>none) else if t.kind=2\/t.kind=3 then some t else none
theorem G5{l:List Tm}(h:l.length=2):∃a b,l=[a,b]:=by
 match l,h with
 |[a,b],_=>grind
def noG:PV:=.iface 116 (some 0) (.agg [])
def resB:Option Tm->ARes
 |some g=>.ret g.av
 |none=>.panic noG
def cV(s:List UInt8)(l:List PV):AV:=.agg [(none,P4 3),(none,P4 0),(none,P6 s),(none,.tsl (some 4) l)]
theorem G6(x0:AObj)(v:AV)(r:Heap)(s:List UInt8)(a:PV)(l:List PV):zH (some 4) 0 (x0::.box (some 4) v::r) [.ptr 1 0,cV s (a::l)]=some (.undef,x0::.box (some 4) (cV s (a::l))::r):=by
 simp[zH,astore,cV,AV.plain,AV.shp,AV.own,zR,YI,total,Sh.size]
theorem m9:∀(n:Nat) (t:Tm),t.size<=n->t.valid=true->∀hp,S 90 [t.av] hp=some (resB (cvF n t),hp):=by
 intro n
 induction n with
 |zero=>
  intro t h;have:=t.size_eq;omega
 |succ n ih=>
  intro t hn hv hp;have hsz:=valid_size hv;have h1:=fun hp=>m8 t hp;have h2:=fun hp=>VB t hp;have h3:=fun hp=>Xg t hp hv (by omega);have hbu:∀(s:List UInt8) (l:List PV),zQ A0 [0,2,3] [P4 3,P6 s,.tsl (some 4) l]=some (cV s l):=fun _ _=>rfl;have hb0:zQ [] [] []=some (.pv (some 0) (.agg [])):=rfl;have hmi:∀(s:Sh) (p:PV),Xl 116 [.pv s p]=some (.pv none (.iface 116 s p)):=fun _ _=>rfl;simp only[Tm.av] at h1 h2 h3;by_cases k0:t.kind=0
  ·have e:cvF (n+1) t=some (tstr G4 [t]):=by grind [cvF]
   rw[e];refine zM rfl rfl rfl (zK [(some 4,t.pv)]) rfl ?_;have k0':=Zi k0;simp -dsimp -implicitDefEqProofs only[go_sem,seval,Tm.av,zJ,k0',hbu,G6];exact⟨_,rfl⟩
  have k0':=Zg k0;by_cases kj:jn t
  rotate_left
  ·have ej:decide (jn t)=false:=decide_eq_false kj;rw[ej] at h1;by_cases kc:t.kind=2\/t.kind=3
   ·have e:cvF (n+1) t=some t:=by grind [cvF]
    have ec:(decide (t.kind=2) || decide (t.kind=3))=true:=by grind
    rw[ec] at h2;rw[e];refine zM rfl rfl rfl (zK [(some 4,t.pv)]) rfl ?_;simp -dsimp -implicitDefEqProofs only[go_sem,seval,Tm.av,zJ,k0',h1,h2,h3,zD (Za _)]
    done
   ·have e:cvF (n+1) t=none:=by grind [cvF]
    have ec:(decide (t.kind=2) || decide (t.kind=3))=false:=by
     grind
    rw[ec] at h2;rw[e];refine qh rfl rfl rfl (zK [(some 4,t.pv)]) rfl ?_;simp -dsimp -implicitDefEqProofs only[go_sem,seval,Tm.av,zJ,k0',h1,h2,h3,hb0,hmi,zD (Za _),Jk]
    try rfl
  ·have ej:decide (jn t)=true:=Z1 kj;rw[ej] at h1;obtain⟨a,b,hab⟩:=G5 kj.2.1;have ma:a∈t.args:=by grind
   have mb:b∈t.args:=by grind
   have za:=Tm.zAI ma;have zb:=Tm.zAI mb;have ha:=fun hp=>ih a (by omega) (YS hv ma) hp;have hb:=fun hp=>ih b (by omega) (YS hv mb) hp;have g0:zX (some 4) [.pv none (.sl (some 4) (Tm.pvs t.args)),P4 0]=some (.iptr (some 4) a.pv 0):=by rw[hab];rfl
   have g1:zX (some 4) [.pv none (.sl (some 4) (Tm.pvs t.args)),P4 1]=some (.iptr (some 4) b.pv 0):=by rw[hab];rfl
   have e:cvF (n+1) t=match cvF n a with
    |none=>none
    |some x=>match cvF n b with
     |none=>none
     |some y=>some (tstr t.name [x,y]):=by grind [cvF]
   rw[e];simp only[Tm.av] at ha hb;cases ea:cvF n a with
   |none=>
    rw[ea] at ha;simp only[resB] at ha;refine qh rfl rfl rfl (zK [(some 4,t.pv)]) rfl ?_;simp -dsimp -implicitDefEqProofs only[go_sem,seval,Tm.av,zJ,zN,zL,k0',h1,h2,ha,g0,g1,zD (Za _),Jk]
    done
   |some x=>
    rw[ea] at ha;simp only[resB,Tm.av] at ha;cases eb:cvF n b with
    |none=>
     rw[eb] at hb;simp only[resB] at hb;refine qh rfl rfl rfl (zK [(some 4,t.pv)]) rfl ?_;simp -dsimp -implicitDefEqProofs only[go_sem,seval,Tm.av,zJ,zN,zL,k0',h1,h2,ha,hb,g0,g1,zD (Za _),Jk]
     done
    |some y=>
     rw[eb] at hb;simp only[resB,Tm.av] at hb;refine zM rfl rfl rfl (zK [(some 4,t.pv)]) rfl ?_;simp -dsimp -implicitDefEqProofs only[go_sem,seval,Tm.av,zJ,zN,zL,k0',h1,h2,ha,hb,g0,g1,hbu,G6,zD (Za _)];exact⟨_,rfl⟩
theorem jI{a b:Tm}(h:same a b=true):a=b:=by
 grind [same,Tm.zAQ]
mutual
def Tm.sub(f:Int->Tm):Tm->Tm
 | .mk k n s ts=>if k=0 then f n else .mk k n s (Tm.subs f ts)
def Tm.subs(f:Int->Tm):List Tm->List Tm
 |[]=>[]
 |t::r=>Tm.sub f t::Tm.subs f r
end
theorem Tm.zA8(f:Int->Tm):∀l:List Tm,Tm.subs f l=l.map (Tm.sub f)
 |[]=>rfl
 |t::r=>by rw[Tm.subs,Tm.zA8 f r];rfl
theorem Tm.zAR(f:Int->Tm)(t:Tm):Tm.sub f t=if t.kind=0 then f t.n else .mk t.kind t.n t.name (t.args.map (Tm.sub f)):=by
 cases t with
 |mk k n s ts=>
  grind [Tm.sub,Tm.kind,Tm.n,Tm.name,Tm.args,Tm.zA8]
def tvar(v:Int):Tm:=.mk 0 v [] []
theorem XI{t:Tm}(h:t.fits=true)(hk:t.kind=0):t=tvar t.n:=by
 rw[Tm.zAO] at h;have h1:t.node=true:=by grind
 cases t with
 |mk k n s ts=>
  simp only[Tm.kind] at hk;subst hk;simp[Tm.node,Tm.kind,Tm.n,Tm.name,Tm.args] at h1;obtain⟨⟨_,h3⟩,h4⟩:=h1;rw[h4,zj h3];rfl
theorem Na{F:FuncId->Option AFn}{prim:FuncId->Option Ya}{f:FuncId}{fn:AFn}{args:List AV}{hp:Heap}(P:AV->Heap->Prop)(hp0:prim f=none)(hf:F f=some fn)(hm:fn.heapMode=true)(hn:args.length=fn.nparams)
  (h:W (sem F prim) (sloop F prim) hp.length fn.code ⟨params 0 args,hp⟩ (endK fn.results (fun v' h'=>P v' (if v'.refsIn.all (fun q=>decide (q<hp.length))=true then h'.take hp.length else h'))))(hr:fn.rcv=none:=by rfl)(hmo:fn.more=[]:=by rfl):∃v hp',sem F prim .fn f args hp=some (.ret v,hp')/\P v hp':=by
 rw[X3];unfold YY;rw[hp0,hf];simp only[hr,hmo,zy,ZJ,if_false,hm,if_true,abody,hn,ne_eq,not_true_eq_false,if_false];unfold W at h;split at h
 ·rename_i e st' he;rw[he];cases e with
  |normal=>
   rw[Je] at h;cases hr:Yr st' fn.results with
   |none=>rw[hr] at h;exact h.elim
   |some u=>rw[hr] at h;exact⟨_,_,by grind,h⟩
  |ret=>
   rw[qc] at h;cases hr:Yr st' fn.results with
   |none=>rw[hr] at h;exact h.elim
   |some u=>rw[hr] at h;exact⟨_,_,by grind,h⟩
  |exit i=>exact h.elim
  |panic v=>exact h.elim
 grind
theorem Tm.zA9{l:List Tm}{u:Tm}(h:u∈l){w:Int}(hw:w∈u.occ):w∈Tm.occs l:=by
 induction l with
 |nil=>cases h
 |cons x r ih=>
  grind [Tm.occs]
theorem Tm.zAV{l:List Tm}{w:Int}(hw:w∈Tm.occs l):∃u∈l,w∈u.occ:=by
 induction l with
 |nil=>cases hw
 |cons x r ih=>
  grind [Tm.occs]
theorem Tm.zA6{t u:Tm}(hk:¬t.kind=0)(h:u∈t.args){w:Int}(hw:w∈u.occ):w∈t.occ:=by
 grind [Tm.zAJ,Tm.zA9]
theorem Tm.zBd{f g:Int->Tm}:∀t:Tm,(∀w∈t.occ,f w=g w)->Tm.sub f t=Tm.sub g t:=by
 intro t
 induction t using Tm.zAH with
 |h t ih=>
  grind [Tm.zAR,Tm.zAJ,List.map_congr_left,Tm.zA6]
def ints(l:List Int):List PV:=l.map (.int .i64)
theorem Jl(l:List Int):(ints l).length=l.length:=by simp[ints]
theorem G7{l:List Int}{i:Nat}{x:Int}(h:l[i]? =some x):(ints l)[i]? =some (.int .i64 x):=by simp[ints,h]
theorem Nb(l:List Int)(x:Int):ints l++[.int .i64 x]=ints (l++[x]):=by simp[ints]
def vadd(s:List Int)(w:Int):List Int:=if w∈s then s else s++[w]
def vads(s:List Int)(ws:List Int):List Int:=ws.foldl vadd s
theorem qi(s a b:List Int):vads s (a++b)=vads (vads s a) b:=by simp[vads]
theorem qj(ws:List Int):∀s:List Int,(vads s ws).length<=s.length+ws.length:=by
 induction ws with
 |nil=>grind [vads]
 |cons w r ih=>
  intro s;have:=ih (vadd s w)
  grind [vadd,vads]
theorem VC(ws:List Int):∀(s:List Int) (x:Int),x∈vads s ws↔x∈s\/x∈ws:=by
 induction ws with
 |nil=>grind [vads]
 |cons w r ih=>
  intro s x;have:=ih (vadd s w) x
  grind [vads,vadd]
def IsV(s:AV)(hp:Heap)(l:List Int):Prop:=(s=.tsl none []/\l=[])\/∃r,s=.sl none r l.length 0 l.length/\hp[r]? =some (.arr none (ints l) false)
def PresV(s:AV)(hp hp':Heap):Prop:=hp.length<=hp'.length/\∀(i:Nat) (x:AObj),hp[i]? =some x->(∀v o n,s≠.sl none i v o n)->hp'[i]? =some x
def OwnV(s:AV)(hp:Heap)(s':AV):Prop:=∀r v o n,s'=.sl none r v o n->(∃v o n,s=.sl none r v o n)\/hp.length<=r
theorem PresV.refl(s:AV)(hp:Heap):PresV s hp hp:=⟨Zc _,fun _ _ h _=>h⟩
theorem OwnV.refl(s:AV)(hp:Heap):OwnV s hp s:=fun r v o n h=>.inl ⟨v,o,n,h⟩
theorem IsV.more{s:AV}{hp:Heap}{l:List Int}(h:IsV s hp l)(e:Heap):IsV s (hp++e) l:=by
 rcases h with h|⟨r,h1,h2⟩
 ·exact .inl h
 ·exact .inr ⟨r,h1,by grind⟩
theorem OwnV.trans{s s1 s2:AV}{hp hp1:Heap}(h1:OwnV s hp s1)(hl:hp.length<=hp1.length)(h2:OwnV s1 hp1 s2):OwnV s hp s2:=fun r v o n e=>by
 rcases h2 r v o n e with⟨v',o',n',e'⟩|h
 ·exact h1 r v' o' n' e'
 grind
theorem PresV.trans{s s1:AV}{hp hp1 hp2:Heap}(h1:PresV s hp hp1)(ho:OwnV s hp s1)(h2:PresV s1 hp1 hp2):PresV s hp hp2:=
 ⟨Zz h1.1 h2.1,fun i x hx hne=>h2.2 i x (h1.2 i x hx hne) fun v o n e=>by
  rcases ho i v o n e with⟨v',o',n',e'⟩|h
  ·grind
  grind⟩
theorem PresV.take{s:AV}{hp hp1:Heap}{n:Nat}(h:PresV s hp hp1)(hn:hp.length<=n):PresV s hp (hp1.take n):=
 ⟨by rw[Zx];have:=h.1;omega,fun i x hx hne=>by
  have:=YZ hx;rw[ZT,Zj (by omega)];exact h.2 i x hx hne⟩
theorem PresV.less{s:AV}{hp e hp1:Heap}(h:PresV s (hp++e) hp1):PresV s hp hp1:=
 ⟨by have:=h.1;grind,fun i x hx hne=>h.2 i x (by grind) hne⟩
theorem OwnV.less{s s':AV}{hp e:Heap}(h:OwnV s (hp++e) s'):OwnV s hp s':=fun r v o n h1=>by
 rcases h r v o n h1 with h|h
 ·grind
 grind
theorem IsV.take{s:AV}{hp:Heap}{l:List Int}{n:Nat}(h:IsV s hp l)(hr:∀q∈s.refsIn,q<n):IsV s (hp.take n) l:=by
 rcases h with h|⟨r,rfl,h2⟩
 ·exact .inl h
 ·have:r<n:=hr r (by simp[AV.refsIn]);exact .inr ⟨r,rfl,by grind⟩
theorem IsV.freeze{s:AV}{hp:Heap}{l:List Int}(h:IsV s hp l):∃hp1,AV.freeze deep s hp=some (.sl none (ints l),hp1)/\s.shp=none/\s.plain=true:=by
 rcases h with⟨rfl,rfl⟩|⟨r,rfl,h⟩
 ·exact⟨hp,rfl,rfl,rfl⟩
 ·exact⟨hp.set r (.arr none (ints l) true),by simp[AV.freeze,deep,h,Jl],rfl,rfl⟩
theorem jJ{st:St}{o r:Nat}{sh:Sh}{v q:AV}{K:AV->Prop}[Tag K](h1:st.fr.look o=some (.ptr r 0))(h2:st.hp[r]? =some (.box sh v)):valK (tupO (XG (Yn st (o,some sh)) (some [q]))) K=K (.tuple [v,q]):=by
 rw[jA,h1];simp only[my h2];rfl
theorem Nc{t:Tm}(h:t.fits=true)(hk:t.kind=0):0<=t.n/\t.n<=1099511627776:=by
 grind [Tm.zAO,Tm.node]
theorem Nd:∀{t:Tm},t.fits=true->∀w∈t.occ,0<=w/\w<=1099511627776:=by
 intro t
 induction t using Tm.zAH with
 |h t ih=>
  grind [Tm.zAJ,Nc,Tm.zAV,Tm.zAK]
def Y1(v:Int):List (Int × PV)->Option PV
 |[]=>none
 |x::r=>if x.1=v then some x.2 else Y1 v r
def mPut(v:Int)(p:PV):List (Int × PV)->List (Int × PV)
 |[]=>[(v,p)]
 |x::r=>if x.1=v then(v,p)::r else x::mPut v p r
def z7(m:List (Int × PV)):List (PV × PV):=m.map fun x=>(.int .i64 x.1,x.2)
theorem jK(v:Int):∀m,afind false (.int .i64 v) (z7 m)=some (Y1 v m)
 |[]=>rfl
 |x::r=>by
  have ih:=jK v r;unfold z7 at ih ⊢;simp only[ZV,afind,PV.same,if_true,Y1];by_cases h:x.1=v
  ·simp[h]
  ·have h':¬v=x.1:=fun e=>h e.symm;simp only[decide_eq_false h',Zb h];exact ih
theorem QO(v:Int)(p:PV):∀m,aput false (.int .i64 v) p (z7 m)=some (z7 (mPut v p m))
 |[]=>rfl
 |x::r=>by
  have ih:=QO v p r;unfold z7 at ih ⊢;simp only[ZV,aput,PV.same,if_true,mPut];by_cases h:x.1=v
  ·simp[h]
  ·have h':¬v=x.1:=fun e=>h e.symm;simp only[decide_eq_false h',Zb h,ZV];rw[ih]
theorem Jm(v w:Int)(p:PV):∀m,Y1 v (mPut w p m)=if v=w then some p else Y1 v m
 |[]=>by
  by_cases h:v=w
  ·simp[mPut,Y1,h]
  ·have h':¬w=v:=fun e=>h e.symm;simp[mPut,Y1,h,h']
 |x::r=>by
  have ih:=Jm v w p r;unfold mPut;by_cases h:x.1=w
  ·rw[Zj h];by_cases e:v=w
   ·simp[Y1,e]
   ·have e':¬w=v:=fun q=>e q.symm;have e2:¬x.1=v:=fun q=>e (q.symm.trans h);simp[Y1,e,e',e2]
  ·rw[Zb h];simp only[Y1,ih];by_cases e:x.1=v
   ·have e2:¬v=w:=fun q=>h (e.trans q);simp[e,e2]
   ·simp[e]
theorem jL{m:List (Int × PV)}{z:PV}{hp:Heap}{r:Nat}{s:Sh}{v:Int}(h:hp[r]? =some (.map none (z7 m))):YF false none (.pv none z) false hp [.map r,.pv s (.int .i64 v)]=some (.pv none ((Y1 v m).getD z)):=by
 have hf:=jK v m;cases hm:Y1 v m with
 |none=>rw[hm] at hf;exact Vs h hf
 |some x=>rw[hm] at hf;exact Vr h hf
def posF:Nat->List Int->List (Int × PV)
 |_,[]=>[]
 |k,x::r=>(x,.int .i64 (k:Int))::posF (k+1) r
theorem jM:∀(l:List Int) (k:Nat),(posF k l).length=l.length
 |[],_=>rfl
 |x::r,k=>by rw[posF,Z5,jM r];rfl
theorem Jn(v:Int):∀(l:List Int) (k:Nat),Y1 v (posF k l)=if v∈l then some (.int .i64 ((k+l.idxOf v:Nat):Int)) else none
 |[],_=>rfl
 |x::r,k=>by
  rw[posF,Y1,Jn v r];by_cases h:x=v
  ·subst h;simp
  ·have h':¬v=x:=fun e=>h e.symm;simp only[Zb h,Zy,h',false_or];rw[List.idxOf_cons];have hb:(x == v)=false:=by simpa using h
   rw[hb];simp only[cond_false];split
   ·first|(congr 2;omega)|(congr 1;omega)|(congr 3;omega)
   ·rfl
theorem VD(v:Int):∀(l:List Int) (k:Nat),v ∉ l->mPut v (.int .i64 ((k+l.length:Nat):Int)) (posF k l)=posF k (l++[v])
 |[],k,_=>rfl
 |x::r,k,h=>by
  have h':¬x=v:=fun e=>h (by rw[e];exact ZG);have ih:=VD v r (k+1) fun hm=>h (Zw _ hm);rw[posF,mPut,Zb h',Zq,posF,<-ih,Z5]
  first|(congr 4;omega)|(congr 3;omega)|(congr 5;omega)
theorem VE{v:Int}:∀{l L:List Int},v∈l->l <+: L->L.idxOf v=l.idxOf v
 |[],_,h,_=>by cases h
 |x::r,L,h,hp=>by
  obtain⟨m,rfl⟩:=hp;rw[Zq,List.idxOf_cons,List.idxOf_cons];cases hb:x == v with
  |true=>rfl
  |false=>
   simp only[cond_false];have hx:¬x=v:=by simpa using hb
   have hm:v∈r:=(Zy.1 h).resolve_left fun e=>hx e.symm;rw[VE hm ⟨m,rfl⟩]
theorem VF{v:Int}:∀{l:List Int},v ∉ l->(l++[v]).idxOf v=l.length
 |[],_=>by simp[List.idxOf_cons]
 |x::r,h=>by
  have h':¬x=v:=fun e=>h (by rw[e];exact ZG);rw[Zq,List.idxOf_cons,beq_eq_false_iff_ne.2 h',Z5];simp only[cond_false];rw[VF fun hm=>h (Zw _ hm)]
theorem Nf(l:List Int)(v:Int):l <+: vadd l v:=by
 unfold vadd;split
 ·exact List.prefix_refl _
 ·exact List.prefix_append _ _
theorem jN:∀(ws l:List Int),l <+: vads l ws
 |[],l=>List.prefix_refl _
 |w::r,l=>(Nf l w).trans (jN r (vadd l w))
def cPos(L:List Int)(v:Int):Tm:=tvar (L.idxOf v:Int)
def canT(t:Tm):Tm:=Tm.sub (cPos (vads [] t.occ)) t
theorem G8(l:List Int)(v:Int):v∈vadd l v:=by
 unfold vadd;split
 ·assumption
 ·simp
theorem Ng{L:List Int}{t:Tm}(hk:¬t.kind=0):Tm.sub (cPos L) t=.mk t.kind t.n t.name (t.args.map (Tm.sub (cPos L))):=by
 rw[Tm.zAR,Zb hk]
theorem jO{m:List (Int × PV)}{hp:Heap}{r:Nat}{s:Sh}{v:Int}(h:hp[r]? =some (.map none (z7 m))):YF false none (P4 0) true hp [.map r,.pv s (.int .i64 v)]=some (match Y1 v m with|some x=>.tuple [.pv none x,P5 true]|none=>.tuple [P4 0,P5 false]):=by
 grind [jK,Vs,Vr]
def appC(n:Nat)(t:Tm)(ts:List Tm)(i:Nat):Heap:=[.box (some 4) (.pv (some 4) t.pv),.box (some 4) (.agg [(none,P4 0),(none,P4 0),(none,P6 []),(none,.sl (some 4) (n+2) 0 0 0)]),.arr (some 4) [] false,.box (some 4) (.agg [(none,P4 t.kind),(none,P4 t.n),(none,P6 t.name),(none,.sl (some 4) (n+5) i 0 i)]),.arr (some 4) [] false,.arr (some 4) (Tm.pvs (ts.take i)) false]
theorem G9(a b:List Tm):Tm.occs (a++b)=Tm.occs a++Tm.occs b:=by
 induction a with
 |nil=>rfl
 |cons x r ih=>grind [Tm.occs]
def sgg(u:Tm)(q:Nat):AV:=.agg [(none,P4 u.kind),(none,P4 u.n),(none,P6 u.name),(none,.sl (some 4) q u.args.length 0 u.args.length)]
theorem Nh{u:Tm}{q:Nat}{H:Heap}{z:Bool}(h:H[q]? =some (.arr (some 4) (Tm.pvs u.args) z)):AV.freeze deep (sgg u q) H=some (u.pv,H.set q (.arr (some 4) (Tm.pvs u.args) true)):=by
 have e:=P1
 show AV.freeze (7+1) (.agg _) _=_;simp[e,AV.freeze.go,AV.freeze,h,Tm.pvs_len];cases u;rfl
def CopR(v:AV)(u:Tm)(n:Nat)(H:Heap):Prop:=v=.pv (some 4) u.pv\/∃q z,n<=q/\v=sgg u q/\H[q]? =some (.arr (some 4) (Tm.pvs u.args) z)
theorem CopR.shp{v:AV}{u:Tm}{n:Nat}{H:Heap}(h:CopR v u n H):v.shp=some 4:=by
 rcases h with rfl|⟨q,z,_,rfl,_⟩ <;> rfl
theorem CopR.frz{v:AV}{u:Tm}{n:Nat}{B e:Heap}(h:CopR v u n (B++e))(hn:B.length=n):∃e2,e2.length=e.length/\AV.freeze deep v (B++e)=some (u.pv,B++e2):=by
 rcases h with rfl|⟨q,z,hq,rfl,hH⟩
 ·exact⟨e,rfl,rfl⟩
 grind [Nh]
def NumR(v:AV)(u:Tm)(n:Nat)(H:Heap):Prop:=∃q z,n<=q/\v=sgg u q/\H[q]? =some (.arr (some 4) (Tm.pvs u.args) z)
def nH(hp:Heap)(m:Nat)(l:List Int):Heap:=hp.set m (.map none (z7 (posF 0 l)))
theorem Ni(hp:Heap)(m:Nat)(l:List Int):(nH hp m l).length=hp.length:=by simp[nH]
theorem Nj{hp:Heap}{m:Nat}(hm:m<hp.length)(l:List Int)(X:Heap):(nH hp m l++X)[m]? =some (.map none (z7 (posF 0 l))):=by
 grind [nH]
theorem Nk{hp:Heap}{m:Nat}(hm:m<hp.length)(l l':List Int)(X:Heap):(nH hp m l++X).set m (.map none (z7 (posF 0 l')))=nH hp m l'++X:=by
 simp_all[nH]
theorem Nl{t:Tm}(h:t.fits=true)(hk:t.kind=0):t.name=[]/\t.args=[]:=by
 have:=XI h hk;rw[this];exact⟨rfl,rfl⟩
set_option maxHeartbeats 1000000 in
theorem ga(hp:Heap)(m:Nat)(hm:m<hp.length):∀(t:Tm) (l L:List Int) (ext:Heap),t.fits=true->t.size<100000->l.length+t.size<200000->vads l t.occ <+: L->
  ∃v e,S 91 [t.av,.map m] (nH hp m l++ext)=some (.ret v,nH hp m (vads l t.occ)++(ext++e))/\NumR v (Tm.sub (cPos L) t) (hp.length+ext.length) (nH hp m (vads l t.occ)++(ext++e)):=by
 intro t
 induction t using Tm.zAH with
 |h t ih=>
  intro l L ext hf ht hl hp2;have hts:=t.size_eq;have hlen:=Tm.zAG t.args;obtain⟨n,hn⟩:∃n,n=hp.length+ext.length:=⟨_,rfl⟩;obtain⟨P,hP⟩:∃P:List Int->Heap,P=fun l=>nH hp m l++ext:=⟨_,rfl⟩;have hPs:∀l,nH hp m l++ext=P l:=fun l=>by rw[hP]
  have hPa:∀l X,nH hp m l++(ext++X)=P l++X:=fun l X=>by grind
  have hPl:∀l,(P l).length=n:=fun l=>by grind [Ni]
  have hPm:∀l X,(P l++X)[m]? =some (.map none (z7 (posF 0 l))):=fun l X=>by grind [Nj]
  have hPsm:∀l l' X,(P l++X).set m (.map none (z7 (posF 0 l')))=P l'++X:=fun l l' X=>by grind [Nk]
  simp only[<-hn];simp only[hPa,hPs];rw[Tm.zAJ] at hp2 ⊢;have hb:zQ A0 [0,1,2] [P4 t.kind,P4 t.n,P6 t.name]=some (.agg [(none,P4 t.kind),(none,P4 t.n),(none,P6 t.name),(none,.tsl (some 4) [])]):=rfl;by_cases hk:t.kind=0
  ·rw[Zj hk] at hp2 ⊢;have hk':=Zi hk;obtain⟨vn,va⟩:=Nl hf hk;have hta:Tm.pvs t.args=[]:=by rw[va];rfl
   have e1:vads l [t.n]=vadd l t.n:=rfl;rw[e1] at hp2 ⊢;have e2:Tm.sub (cPos L) t=tvar ((vadd l t.n).idxOf t.n:Nat):=by
    grind [Tm.zAR,cPos,VE,G8]
   rw[e2];have hz:∀k:Int,AV.upd deep (.agg [(none,P4 t.kind),(none,P4 t.n),(none,P6 t.name),(none,.sl (some 4) (n+5) 0 0 0)]) 1 none (P4 k)=some (.agg [(none,P4 t.kind),(none,P4 k),(none,P6 t.name),(none,.sl (some 4) (n+5) 0 0 0)]):=fun _=>rfl;by_cases hmem:t.n∈l
   ·have e:vadd l t.n=l:=by grind [vadd]
    rw[e];have hlk:∀X:Heap,YF false none (P4 0) true (P l++X) [.map m,P4 t.n]=some (.tuple [P4 ((l.idxOf t.n:Nat):Int),P5 true]):=fun X=>by
     grind [jO,Jn]
    obtain⟨k,hkk⟩:∃k:Int,k=((l.idxOf t.n:Nat):Int):=⟨_,rfl⟩;rw[<-hkk] at hlk ⊢;refine⟨sgg (tvar k) (n+5),[.box (some 4) (.pv (some 4) t.pv),.box (some 4) (sgg (tvar k) (n+5)),.arr (some 4) [] false,.box (some 4) (sgg (tvar k) (n+5)),.arr (some 4) [] false,.arr (some 4) [] false],?_,⟨n+5,false,by omega,rfl,by rw[getN (hPl _)];rfl⟩⟩;refine Yj rfl rfl rfl rfl ?_;rw[hPl];simp -dsimp -implicitDefEqProofs only[go_sem,seval,Tm.av,zJ,Yf,zN,zL,hk',hta,hlk,Tm.pvs_len,hb,hz,zD (Zd _ _),zF,hPl,getN (hPl _),Ye (hPl _),setN (hPl _),Yl (hPl _)];refine Yp (α:=Unit) 0 (fun _ _=>True) (fun _ _=>⟨[(1,.map m),(4,.ptr (n+1) 0),(5,.ptr (n+3) 0),(38,.pv none (.sl (some 4) [])),(39,P4 0),(40,P4 0)],P l++[.box (some 4) (.pv (some 4) t.pv),.box (some 4) (.agg [(none,P4 0),(none,P4 0),(none,P6 []),(none,.sl (some 4) (n+2) 0 0 0)]),.arr (some 4) [] false,.box (some 4) (.agg [(none,P4 t.kind),(none,P4 k),(none,P6 t.name),(none,.sl (some 4) (n+5) 0 0 0)]),.arr (some 4) [] false,.arr (some 4) [] false]⟩) () ⟨trivial,rfl⟩ (by grind) ?_;rintro - -;have hc0:¬(0:Int)<(0:Int):=by decide
    simp -dsimp -implicitDefEqProofs only[go_sem,seval,hc0,zF,zD (Zd _ _),yY (Zd _ _),hPl,getN (hPl _),Ye (hPl _),setN (hPl _),Yl (hPl _)];rw[hk,vn];refine⟨rfl,?_⟩;rw[Zb (by simp[sgg,AV.refsIn,AV.refsIn.go])];rfl
   ·have e:vadd l t.n=l++[t.n]:=by grind [vadd]
    rw[e,VF hmem];have hlk:∀X:Heap,YF false none (P4 0) true (P l++X) [.map m,P4 t.n]=some (.tuple [P4 0,P5 false]):=fun X=>by
     grind [jO,Jn]
    have hml:∀X:Heap,y8 (P l++X) [.map m]=some (P4 (l.length:Int)):=fun X=>by
     grind [y8,z7,jM]
    have hms:∀X:Heap,yR false none (P l++X) [.map m,P4 t.n,P4 (l.length:Int)]=some (.undef,P (l++[t.n])++X):=fun X=>by
     have:=VD t.n l 0 hmem
     grind [qf,QO]
    obtain⟨k,hkk⟩:∃k:Int,k=(l.length:Int):=⟨_,rfl⟩;rw[<-hkk] at hml hms ⊢;refine⟨sgg (tvar k) (n+5),[.box (some 4) (.pv (some 4) t.pv),.box (some 4) (sgg (tvar k) (n+5)),.arr (some 4) [] false,.box (some 4) (sgg (tvar k) (n+5)),.arr (some 4) [] false,.arr (some 4) [] false],?_,⟨n+5,false,by omega,rfl,by rw[getN (hPl _)];rfl⟩⟩;refine Yj rfl rfl rfl rfl ?_;rw[hPl];simp -dsimp -implicitDefEqProofs only[go_sem,seval,Tm.av,zJ,Yf,zN,zL,hk',hta,hlk,hml,hms,Tm.pvs_len,hb,hz,zD (Zd _ _),zF,hPl,getN (hPl _),Ye (hPl _),setN (hPl _),Yl (hPl _)];refine Yp (α:=Unit) 0 (fun _ _=>True) (fun _ _=>⟨[(1,.map m),(4,.ptr (n+1) 0),(5,.ptr (n+3) 0),(38,.pv none (.sl (some 4) [])),(39,P4 0),(40,P4 0)],P (l++[t.n])++[.box (some 4) (.pv (some 4) t.pv),.box (some 4) (.agg [(none,P4 0),(none,P4 0),(none,P6 []),(none,.sl (some 4) (n+2) 0 0 0)]),.arr (some 4) [] false,.box (some 4) (.agg [(none,P4 t.kind),(none,P4 k),(none,P6 t.name),(none,.sl (some 4) (n+5) 0 0 0)]),.arr (some 4) [] false,.arr (some 4) [] false]⟩) () ⟨trivial,rfl⟩ (by grind) ?_;rintro - -;have hc0:¬(0:Int)<(0:Int):=by decide
    simp -dsimp -implicitDefEqProofs only[go_sem,seval,hc0,zF,zD (Zd _ _),yY (Zd _ _),hPl,getN (hPl _),Ye (hPl _),setN (hPl _),Yl (hPl _)];rw[hk,vn];refine⟨rfl,?_⟩;rw[Zb (by simp[sgg,AV.refsIn,AV.refsIn.go])];rfl
  ·rw[Zb hk] at hp2 ⊢;have hk':=Zg hk;have e2:Tm.sub (cPos L) t=.mk t.kind t.n t.name (t.args.map (Tm.sub (cPos L))):=by grind [Tm.zAR]
   rw[e2];obtain⟨ts',hts'⟩:∃ts',ts'=t.args.map (Tm.sub (cPos L)):=⟨_,rfl⟩;have htl:ts'.length=t.args.length:=by grind
   rw[<-hts'];refine⟨.agg [(none,P4 t.kind),(none,P4 t.n),(none,P6 t.name),(none,.sl (some 4) (n+5) t.args.length 0 t.args.length)],
    [.box (some 4) (.pv (some 4) t.pv),.box (some 4) (.agg [(none,P4 t.kind),(none,P4 t.n),(none,P6 t.name),(none,.sl (some 4) (n+5) t.args.length 0 t.args.length)]),.arr (some 4) [] false,.box (some 4) (.agg [(none,P4 t.kind),(none,P4 t.n),(none,P6 t.name),(none,.sl (some 4) (n+5) t.args.length 0 t.args.length)]),.arr (some 4) [] false,.arr (some 4) (Tm.pvs ts') false],?_,⟨n+5,false,by omega,?_,?_⟩⟩
   ·refine Yj rfl rfl rfl rfl ?_;rw[hPl];simp -dsimp -implicitDefEqProofs only[go_sem,seval,Tm.av,zJ,Yf,zN,zL,hk',Tm.pvs_len,hb,zD (Zd _ _),zF,hPl,getN (hPl _),Ye (hPl _),setN (hPl _),Yl (hPl _)];refine Yp (α:=Unit) t.args.length (fun _ _=>True) (fun i _=>⟨[(1,.map m),(4,.ptr (n+1) 0),(5,.ptr (n+3) 0),(38,.pv none (.sl (some 4) (Tm.pvs t.args))),(39,P4 t.args.length),(40,P4 i)],P (vads l (Tm.occs (t.args.take i)))++appC n t ts' i⟩) () ⟨trivial,?_⟩ ?_ ?_
    ·rw[zu];rfl
    ·rintro i - h -;have hc:(i:Int)<(t.args.length:Int):=by omega
     obtain⟨u,hu⟩:∃u,t.args[i]? =some u:=⟨_,Ze h⟩;have hum:=Zh hu;have husz:=Tm.zAI hum;have hst:=Tm.zAP hu;have hle2:=Tm.zAL t.args (i+1);have hvl:=qj (Tm.occs (t.args.take i)) l;have hol:=Tm.zAZ (t.args.take i);have hpre:vads (vads l (Tm.occs (t.args.take i))) u.occ <+: L:=by
      grind [qi,Tm.zAS,ZY,G9,jN]
     obtain⟨v,e,hcall,hcop0⟩:=ih u hum (vads l (Tm.occs (t.args.take i))) L (ext++(appC n t ts' i++[.box (some 4) (.pv (some 4) u.pv),.arr (some 4) [] false])) (Tm.zAK hf hum) (by omega) (by omega) hpre;have hcop:CopR _ _ _ _:=.inr hcop0;rw[<-qi,<-Tm.zAS hu] at hcall hcop;have hus:ts'[i]? =some (Tm.sub (cPos L) u):=by grind
     simp only[Zo,hPa] at hcall hcop;obtain⟨e2,he2,hfz⟩:∃e2,e2.length=e.length/\AV.freeze deep v (P (vads l (Tm.occs (t.args.take (i+1))))++(appC n t ts' i++([.box (some 4) (.pv (some 4) u.pv),.arr (some 4) [] false]++e)))=some ((Tm.sub (cPos L) u).pv,P (vads l (Tm.occs (t.args.take (i+1))))++(appC n t ts' i++([.box (some 4) (.pv (some 4) u.pv),.arr (some 4) [] false]++e2))):=by
      have h:=CopR.frz (B:=P (vads l (Tm.occs (t.args.take (i+1))))++(appC n t ts' i++[.box (some 4) (.pv (some 4) u.pv),.arr (some 4) [] false])) (e:=e) (v:=v) (u:=Tm.sub (cPos L) u) (n:=hp.length+(ext++(appC n t ts' i++([.box (some 4) (.pv (some 4) u.pv),.arr (some 4) [] false]:Heap))).length) (by grind) (by grind);simp_all
     have hvs:=hcop.shp;generalize vads l (Tm.occs (t.args.take (i+1)))=l2 at hcall hfz ⊢;generalize vads l (Tm.occs (t.args.take i))=l1 at hcall hvl ⊢;have w2:IntKind.i64.wrap ((i:Int)+1)=((i+1:Nat):Int):=by grind [zU]
     have hll:(Tm.pvs (ts'.take i)).length=i:=by grind [Tm.pvs_len]
     have hlim:i+1<=lim:=by grind [lim]
     have hbs:YW (some 4) (P l2++(appC n t ts' i++([.box (some 4) (.pv (some 4) u.pv),.arr (some 4) [] false]++e))) [v]=some (.tsl (some 4) [(Tm.sub (cPos L) u).pv],P l2++(appC n t ts' i++([.box (some 4) (.pv (some 4) u.pv),.arr (some 4) [] false]++e2))):=by
      simp_all[YW,zZ,YG]
     have hs1:∀(a a':List Int) (e e':Heap),Yy (P a++(appC n t ts' i++e)) (P a'++(appC n t ts' i++e')) (.ptr (n+3) 3)=true:=fun a a' e e'=>Jj (t:=t) (q:=n+5) (i:=i) (by rw[getN (hPl _)];rfl) (by rw[getN (hPl _)];rfl);simp only[Tm.av] at hcall;simp only[appC,Zo,Zq,Zu] at hcall hbs hs1;simp -dsimp -implicitDefEqProofs only[go_sem,seval,appC,hc,zT (Tm.pvs_get hu),Qb,ZE,ZX,ZR,ZS,hcall,hbs,hs1,w2,hll,hlim,Tm.zAM hus,zD (Zd _ _),yY (Zd _ _),hPl,getN (hPl _),Ye (hPl _),setN (hPl _),Yl (hPl _)];refine⟨(),?_⟩;rw[ym 6 (hPl _) rfl (by simp[AObj.refs,AV.ofComps,pures,AV.refsIn,AV.refsIn.go]) (by grind [AV.refsIn])];rfl
    ·rintro - -;have hc:¬(t.args.length:Int)<(t.args.length:Int):=by omega
     have htk:ts'.take t.args.length=ts':=Zl (by omega);simp -dsimp -implicitDefEqProofs only[go_sem,seval,appC,hc,ZW,htk,zF,zD (Zd _ _),yY (Zd _ _),hPl,getN (hPl _),Ye (hPl _),setN (hPl _),Yl (hPl _)]
     grind [AV.refsIn,AV.refsIn.go]
   ·unfold sgg;show _=AV.agg [(none,P4 t.kind),(none,P4 t.n),(none,P6 t.name),(none,.sl (some 4) (n+5) ts'.length 0 ts'.length)];rw[htl]
   ·rw[getN (hPl _)];rfl
structure Cz where
 head:Tm
 body:Tm
def Cz.pv(c:Cz):PV:=.agg [(some 4,c.head.pv),(some 4,c.body.pv)]
def Cz.av(c:Cz):AV:=.pv (some 8) c.pv
theorem xa(c:Cz):PV.part deep c.pv 0 (some 4)=some c.head.pv:=by cases c with|mk h b=>cases h;rfl
theorem xb(c:Cz):PV.part deep c.pv 4 (some 4)=some c.body.pv:=by cases c with|mk h b=>cases h;cases b;rfl
def Cz.vars(c:Cz):List Int:=vads [] (c.head.occ++c.body.occ)
def Cz.can(c:Cz):Cz:=⟨Tm.sub (cPos c.vars) c.head,Tm.sub (cPos c.vars) c.body⟩
theorem Nm{u w:Tm}{q1 q2:Nat}{H:Heap}{z1 z2:Bool}(h1:H[q1]? =some (.arr (some 4) (Tm.pvs u.args) z1))(h2:H[q2]? =some (.arr (some 4) (Tm.pvs w.args) z2))(hne:q1≠q2):AV.freeze deep (.agg [(some 4,sgg u q1),(some 4,sgg w q2)]) H=some ((Cz.mk u w).pv,(H.set q1 (.arr (some 4) (Tm.pvs u.args) true)).set q2 (.arr (some 4) (Tm.pvs w.args) true)):=by
 have e:∀n l hp,AV.freeze (n+1) (.agg l) hp=match AV.freeze.go n l hp with|some (ps,hp')=>some (.agg ps,hp')|none=>none:=fun _ _ _=>rfl
 have h2':(H.set q1 (.arr (some 4) (Tm.pvs u.args) true))[q2]? =some (.arr (some 4) (Tm.pvs w.args) z2):=by grind
 show AV.freeze (7+1) (.agg _) _=_;simp[sgg,e,AV.freeze.go,AV.freeze,h1,h2',Tm.pvs_len];cases u;cases w;rfl
def zagV:AV:=.agg A0
def cN(c:Cz)(l:List Int)(a:AV):Heap:=[.box (some 8) (.pv (some 8) c.pv),.box (some 8) a,.map none (z7 (posF 0 l))]
theorem gc(c:Cz)(fh:c.head.fits=true)(fb:c.body.fits=true)(hz:c.head.size+c.body.size<90000)(hp:Heap):S 51 [c.av] hp=some (.ret (.tuple [c.can.av,P4 (c.vars.length:Int)]),hp):=by
 refine zM rfl rfl rfl (zK [(some 8,c.pv)]) rfl ?_;obtain⟨L,hL⟩:∃L,L=c.vars:=⟨_,rfl⟩;have hLa:L=vads (vads [] c.head.occ) c.body.occ:=by rw[hL,Cz.vars,qi]
 have hp1:vads [] c.head.occ <+: L:=by grind [jN]
 obtain⟨v1,e1,hc1,q1,z1,hq1,hv1,ha1⟩:=ga (cN c [] (.agg [(some 4,zagV),(some 4,zagV)])) 2 (by show 2<3;omega) c.head [] L [] fh (by omega) (by grind) hp1;have hl1:=qj c.head.occ [];have ho1:=Tm.occ_len c.head;simp only[List.length_nil] at hl1;obtain⟨v2,e2,hc2,q2,z2,hq2,hv2,ha2⟩:=ga (cN c (vads [] c.head.occ) (.agg [(some 4,v1),(some 4,zagV)])) 2 (by show 2<3;omega) c.body (vads [] c.head.occ) L e1 fb (by omega) (by omega) (by grind);rw[<-hLa] at hc2 ha2;have hcan:c.can=⟨Tm.sub (cPos L) c.head,Tm.sub (cPos L) c.body⟩:=by rw[hL];rfl
 obtain⟨u,hu⟩:∃u,u=Tm.sub (cPos L) c.head:=⟨_,rfl⟩;obtain⟨w,hw⟩:∃w,w=Tm.sub (cPos L) c.body:=⟨_,rfl⟩;rw[<-hu] at hv1 ha1 hcan;rw[<-hw] at hv2 ha2 hcan;subst hv1 hv2;rw[hcan,<-hL];have n1:∀(l l':List Int) (a:AV),nH (cN c l a) 2 l'=cN c l' a:=fun _ _ _=>rfl;simp only[n1,Zu,ZL] at hc1 hc2 ha1 ha2;have up0:AV.upd deep (.agg [(some 4,zagV),(some 4,zagV)]) 0 (some 4) (sgg u q1)=some (.agg [(some 4,sgg u q1),(some 4,zagV)]):=rfl;have up4:AV.upd deep (.agg [(some 4,sgg u q1),(some 4,zagV)]) 4 (some 4) (sgg w q2)=some (.agg [(some 4,sgg u q1),(some 4,sgg w q2)]):=rfl;simp only[zagV,sgg] at up0 up4;have st1:∀(l:List Int) (e:Heap),zH (some 4) 0 (cN c l (.agg [(some 4,zagV),(some 4,zagV)])++e) [.ptr 1 0,sgg u q1]=some (.undef,cN c l (.agg [(some 4,sgg u q1),(some 4,zagV)])++e):=fun l e=>by
  simp[zH,astore,cN,sgg,zagV,AV.plain,AV.shp,AV.own,zR,YI,total,Sh.size,up0,up4]
 have st2:∀(l:List Int) (e:Heap),zH (some 4) 0 (cN c l (.agg [(some 4,sgg u q1),(some 4,zagV)])++e) [.ptr 1 4,sgg w q2]=some (.undef,cN c l (.agg [(some 4,sgg u q1),(some 4,sgg w q2)])++e):=fun l e=>by
  simp[zH,astore,cN,sgg,zagV,AV.plain,AV.shp,AV.own,zR,YI,total,Sh.size,up0,up4]
 have st3:∀(l:List Int) (e:Heap),zH (some 8) 0 (cN c l (.agg [(some 4,sgg u q1),(some 4,sgg w q2)])++e) [.ptr 1 0,.agg [(some 4,sgg u q1),(some 4,sgg w q2)]]=some (.undef,cN c l (.agg [(some 4,sgg u q1),(some 4,sgg w q2)])++e):=fun l e=>by
  simp[zH,astore,cN,sgg,zagV,AV.plain,AV.shp,AV.own,zR,YI,total,Sh.size]
 have g0:∀(l:List Int) (a:AV) (e:Heap),(cN c l a++e)[0]? =some (.box (some 8) (.pv (some 8) c.pv)):=fun _ _ _=>rfl;have g1:∀(l:List Int) (a:AV) (e:Heap),(cN c l a++e)[1]? =some (.box (some 8) a):=fun _ _ _=>rfl;have ml:∀(l:List Int) (a:AV) (e:Heap),y8 (cN c l a++e) [.map 2]=some (P4 (l.length:Int)):=fun l a e=>by
  simp[y8,cN,z7,jM]
 have k0:z7 (posF 0 [])=[]:=rfl;have hc1':=hc1;simp only[cN,k0,zagV,Tm.av] at hc1';have hc3:S 91 [.pv (some 4) c.head.pv,.map 2] [.box (some 8) (.pv (some 8) c.pv),.box (some 8) (.agg [(some 4,.agg A0),(some 4,.agg A0)]),.map none []]=some (.ret (sgg u q1),cN c (vads [] c.head.occ) (.agg [(some 4,zagV),(some 4,zagV)])++e1):=hc1';simp only[Tm.av] at hc2;obtain⟨s1,hs1⟩:∃s1,s1=sgg u q1:=⟨_,rfl⟩;obtain⟨s2,hs2⟩:∃s2,s2=sgg w q2:=⟨_,rfl⟩;rw[<-hs1] at hc3 hc2 st1 st2 st3;rw[<-hs2] at hc2 st2 st3;clear hc1 hc1' up0 up4;simp -dsimp -implicitDefEqProofs only[go_sem,seval,Cz.av,xa,xb,hc3,hc2,st1,st2,st3,g0,g1,ml,zD (Za _)];obtain⟨j1,rfl⟩:∃j,q1=3+j:=⟨q1 - 3,by have:3<=q1:=hq1;omega⟩;obtain⟨j2,rfl⟩:∃j,q2=3+j:=⟨q2 - 3,by have:3+e1.length<=q2:=hq2;omega⟩;have g3:∀(l:List Int) (a:AV) (e:Heap) (j:Nat),(cN c l a++e)[3+j]? =e[j]? :=fun l a e j=>getN (l:=cN c l a) rfl j;rw[g3] at ha1 ha2;have hj1:=(Zf.1 ha1).1;have hq2':3+e1.length<=3+j2:=hq2;have h1:(cN c L (.agg [(some 4,s1),(some 4,s2)])++(e1++e2))[3+j1]? =some (.arr (some 4) (Tm.pvs u.args) z1):=by grind
 have h2:(cN c L (.agg [(some 4,s1),(some 4,s2)])++(e1++e2))[3+j2]? =some (.arr (some 4) (Tm.pvs w.args) z2):=by grind
 have hf:=Nm h1 h2 (by omega);rw[<-hs1,<-hs2] at hf;have hr:∀H:Heap,H[1]? =some (.box (some 8) (.agg [(some 4,s1),(some 4,s2)]))->Yn ⟨[(2,.ptr 1 0),(3,P4 (L.length:Int))],H⟩ (2,some (some 8))=some (.agg [(some 4,s1),(some 4,s2)]):=fun H h=>by
  simp[Yn,Fr.look,aload,h]
 rw[hr _ (g1 _ _ _)];have hsh:(AV.agg [(some 4,s1),(some 4,s2)]).shp=some 8:=rfl;have e3:∀X,AV.freeze deep (P4 (L.length:Int)) X=some (.int .i64 (L.length:Int),X):=fun _=>rfl;obtain⟨HH,hHH⟩:∃HH,HH=cN c L (.agg [(some 4,s1),(some 4,s2)])++(e1++e2):=⟨_,rfl⟩;rw[<-hHH] at hf;show Am.frozen _ (.tuple [.agg [(some 4,s1),(some 4,s2)],P4 (L.length:Int)]) (cN c L (.agg [(some 4,s1),(some 4,s2)])++(e1++e2));rw[<-hHH];refine⟨(HH.set (3+j1) (.arr (some 4) (Tm.pvs u.args) true)).set (3+j2) (.arr (some 4) (Tm.pvs w.args) true),?_⟩;simp only[AV.freezeRes,zZ,hf,e3,hsh];rfl
def outD(F:FuncId->Option AFn)(prim:FuncId->Option Ya)(rs:List RSlot)(s:Nat)(v:AV)(st:St)(p:PV)(st2:St):Prop:=
 ∃g fs cs,st.fr.look s=some (.func (.func g) fs cs)/\∃r hp' v',sem F prim .dfr g (.pv none p::(fs++cs)) st2.hp=some (.ret r,hp')/\Yr ⟨st2.fr,hp'⟩ rs=some v'/\Am.frozen v v' hp'
def outK(F:FuncId->Option AFn)(prim:FuncId->Option Ya)(rs:List RSlot)(s:Nat)(v:AV)(st:St):AExit->St->Prop
 | .normal,st2=>outD F prim rs s v st .niliface st2
 | .ret,st2=>outD F prim rs s v st .niliface st2
 | .panic w,st2=>outD F prim rs s v st w st2
 | .exit _,_=>False
def dfrK(F:FuncId->Option AFn)(prim:FuncId->Option Ya)(rs:List RSlot)(s:Nat)(c2:ACode)(v:AV):AExit->St->Prop
 | .normal,st=>(st.fr.look s).isSome=true/\W (sem F prim) (sloop F prim) 0 c2 st (outK F prim rs s v st)
 | .ret,st=>endK rs (Am.frozen v) .ret st
 |_,_=>False
theorem jP{F:FuncId->Option AFn}{prim:FuncId->Option Ya}{rs:List RSlot}{s:Nat}{c2:ACode}{v:AV}{st:St}:dfrK F prim rs s c2 v .normal st=((st.fr.look s).isSome=true/\W (sem F prim) (sloop F prim) 0 c2 st (outK F prim rs s v st)):=rfl
theorem Jo{F:FuncId->Option AFn}{prim:FuncId->Option Ya}{rs:List RSlot}{s:Nat}{c2:ACode}{v:AV}{st:St}:dfrK F prim rs s c2 v .ret st=endK rs (Am.frozen v) .ret st:=rfl
theorem jQ{F:FuncId->Option AFn}{prim:FuncId->Option Ya}{rs:List RSlot}{s:Nat}{v:AV}{st st2:St}:outK F prim rs s v st .ret st2=outD F prim rs s v st .niliface st2:=rfl
theorem jR{F:FuncId->Option AFn}{prim:FuncId->Option Ya}{rs:List RSlot}{s:Nat}{v:AV}{st st2:St}{w:PV}:outK F prim rs s v st (.panic w) st2=outD F prim rs s v st w st2:=rfl
theorem gd{F:FuncId->Option AFn}{prim:FuncId->Option Ya}{f:FuncId}{fn:AFn}{args:List AV}{ps:List (Sh × PV)}{hp:Heap}{v:AV}{s:Nat}{c2:ACode}(hp0:prim f=none)(hf:F f=some fn)(hm:fn.heapMode=false)(hz:zZ args hp=some (ps,hp))(hn:(pvs ps).length=fn.nparams)(hmo:fn.more=[(.dfr s,c2)])
  (h:W (sem F prim) (sloop F prim) 0 fn.code ⟨params 0 (pvs ps),[]⟩ (dfrK F prim fn.results s c2 v))(hr:fn.rcv=none:=by rfl):sem F prim .fn f args hp=some (.ret v,hp):=by
 rw[X3];unfold YY;rw[hp0,hf];have hl:([]:Heap).length=0:=rfl
 suffices hB:∃v' hp2,abody (sem F prim) (sloop F prim) fn (pvs ps) []=some (.ret v',hp2)/\Am.frozen v v' hp2 by
  obtain⟨v',hp2,h1,hp3,h2⟩:=hB
  grind
 unfold abody;rw[Zb (by grind),hmo];simp only[hl];unfold W at h;split at h
 ·rename_i e st1 he;cases e with
  |normal=>
   obtain⟨-,hW⟩:=h;unfold W at hW;split at hW
   ·rename_i e2 st2 he2;have fin:∀p:Option PV,outD F prim fn.results s v st1 (p.getD .niliface) st2->∀e:AExit,(e=.normal\/e=.ret->p=none)->(∀w,e=.panic w->p=some w)->(∀i,e≠.exit i)->e=e2->∃v' hp2,aleave (sem F prim) fn (apieces (sem F prim) (sloop F prim) 0 [(.dfr s,c2)] fn.code ⟨params 0 (pvs ps),[]⟩ [])=some (.ret v',hp2)/\Am.frozen v v' hp2:=by
     rintro p ⟨g,fs,cs,k1,r,hp',v',k2,k3,k4⟩ e n1 n2 n3 rfl;refine⟨v',hp',?_,k4⟩;have k5:atop (sem F prim) (.dfr s) st1 []=some (.normal,st1,[.func (.func g) fs cs]):=by grind [atop]
     have ka:apieces (sem F prim) (sloop F prim) 0 [(.dfr s,c2)] fn.code ⟨params 0 (pvs ps),[]⟩ []=some (e,st2,[.func (.func g) fs cs]):=by
      grind [apieces]
     have ku:∀p':Option PV,p'=p->aunwind (sem F prim) [.func (.func g) fs cs] p' st2.hp=some (none,hp'):=by
      grind [aunwind,yn]
     rw[ka];cases e with
     |normal=>grind [aleave,aresult]
     |ret=>grind [aleave,aresult]
     |panic w=>grind [aleave,aresult]
     |exit i=>grind
    cases e2 with
    |normal=>exact fin none hW .normal (fun _=>rfl) (fun w e=>by cases e) (fun i e=>by cases e) rfl
    |ret=>exact fin none hW .ret (fun _=>rfl) (fun w e=>by cases e) (fun i e=>by cases e) rfl
    |panic w=>exact fin (some w) hW (.panic w) (fun e=>by grind) (fun w e=>by grind) (fun i e=>by cases e) rfl
    |exit i=>exact hW.elim
   grind
  |ret=>
   rw[Jo,qc] at h;cases hr:Yr st1 fn.results with
   |none=>rw[hr] at h;exact h.elim
   |some u=>
    rw[hr] at h;exact⟨u,st1.hp,by simp_all[aleave,apieces,aunwind,aresult],h⟩
  |exit i=>exact h.elim
  |panic v=>exact h.elim
 grind
def ge(n:Nat)(H:Heap):AExit->St->Prop
 | .normal,st=>st.hp.take n=H
 | .ret,st=>st.hp.take n=H
 |_,_=>False
theorem QP{n:Nat}{H:Heap}{st:St}:ge n H .normal st=(st.hp.take n=H):=rfl
theorem QQ{F:FuncId->Option AFn}{prim:FuncId->Option Ya}{g:FuncId}{fn:AFn}{ws:List AV}{hp H:Heap}{s:Sh}{p:PV}{t:Nat}(hf:F g=some fn)(hr:fn.rcv=some t)(hmo:fn.more=[])(hn:ws.length=fn.nparams)
  (h:W (sem F prim) (sloop F prim) hp.length fn.code ⟨(t,.pv s p)::params 0 ws,hp⟩ (ge hp.length H)):sem F prim .dfr g (.pv s p::ws) hp=some (.ret (.tuple []),H):=by
 rw[Hb];unfold adefer;simp only[hf,hr,hmo,hn,ne_eq,not_true_eq_false,if_false];unfold W at h;split at h
 ·rename_i e st he;rw[he];cases e with
  |normal=>rw[<-h]
  |ret=>rw[<-h]
  |exit i=>exact h.elim
  |panic v=>exact h.elim
 grind
def endA(rs:List RSlot)(n:Nat)(P:ARes->Heap->Prop):AExit->St->Prop
 | .panic v,st=>P (.panic v) (st.hp.take n)
 |e,st=>endK rs (fun v' h'=>P (.ret v') (if v'.refsIn.all (fun q=>decide (q<n))=true then h'.take n else h')) e st
theorem Yg(rs:List RSlot)(n:Nat)(P:ARes->Heap->Prop)(v:PV)(st:St):endA rs n P (.panic v) st=P (.panic v) (st.hp.take n):=rfl
theorem Ym(rs:List RSlot)(n:Nat)(P:ARes->Heap->Prop)(st:St):endA rs n P .ret st=endK rs (fun v' h'=>P (.ret v') (if v'.refsIn.all (fun q=>decide (q<n))=true then h'.take n else h')) .ret st:=rfl
theorem Ys(rs:List RSlot)(n:Nat)(P:ARes->Heap->Prop)(st:St):endA rs n P .normal st=endK rs (fun v' h'=>P (.ret v') (if v'.refsIn.all (fun q=>decide (q<n))=true then h'.take n else h')) .normal st:=rfl
theorem XJ{F:FuncId->Option AFn}{prim:FuncId->Option Ya}{f:FuncId}{fn:AFn}{args:List AV}{hp:Heap}(P:ARes->Heap->Prop)(hp0:prim f=none)(hf:F f=some fn)(hm:fn.heapMode=true)(hn:args.length=fn.nparams)
  (h:W (sem F prim) (sloop F prim) hp.length fn.code ⟨params 0 args,hp⟩ (endA fn.results hp.length P))(hr:fn.rcv=none:=by rfl)(hmo:fn.more=[]:=by rfl):∃v hp',sem F prim .fn f args hp=some (v,hp')/\P v hp':=by
 rw[X3];unfold YY;rw[hp0,hf];simp only[hr,hmo,zy,ZJ,if_false,hm,if_true,abody,hn,ne_eq,not_true_eq_false,if_false];unfold W at h;split at h
 ·rename_i e st' he;rw[he];cases e with
  |normal=>
   rw[Ys,Je] at h;cases hr:Yr st' fn.results with
   |none=>rw[hr] at h;exact h.elim
   |some u=>rw[hr] at h;exact⟨_,_,by grind,h⟩
  |ret=>
   rw[Ym,qc] at h;cases hr:Yr st' fn.results with
   |none=>rw[hr] at h;exact h.elim
   |some u=>rw[hr] at h;exact⟨_,_,by grind,h⟩
  |exit i=>exact h.elim
  |panic v=>exact⟨_,_,rfl,h⟩
 grind
theorem xy{sh:Sh}{hp:Heap}(l:List (Sh × AV)):wBox sh hp [.agg l]=if some (total l)=sh then Vf sh hp.length (zR l (hp++[.box sh (.agg l)])) else none:=by
 simp only[wBox,AV.plain,AV.shp,true_and,AV.own];rfl
def zt:Tm:=.mk 0 0 [] []
theorem Nn(H:Heap):sem (find tab) prim .dfr 89 [.pv none .niliface,.ptr 1 0,.ptr 3 0] H=some (.ret (.tuple []),H):=by
 refine QQ (t:=5) rfl rfl rfl rfl ?_;have hin:xj true [.pv none .niliface]=some (P5 false):=rfl;simp -dsimp -implicitDefEqProofs only[go_sem,seval,hin,QP]
 try simp
def zG:AV:=.agg A0
theorem Np(x0 x2:AObj)(v:AV)(c:Bool):sem (find tab) prim .dfr 89 [.pv none noG,.ptr 1 0,.ptr 3 0] [x0,.box (some 4) v,x2,.box none (P5 c)]=some (.ret (.tuple []),[x0,.box (some 4) zG,x2,.box none (P5 false)]):=by
 refine QQ (t:=5) rfl rfl rfl rfl ?_;have hin:xj true [.pv none noG]=some (P5 true):=rfl;have has:∀z,yP 116 (some 0) z true [.pv none noG]=some (.tuple [.pv (some 0) (.agg []),P5 true]):=fun _=>rfl;have hz0:zQ A0 [] []=some zG:=rfl;have hst:∀X:AObj,zH (some 4) 4 [x0,.box (some 4) v,x2,.box none (P5 c),X] [.ptr 1 0,zG]=some (.undef,[x0,.box (some 4) zG,x2,.box none (P5 c),X]):=fun X=>by
  simp[zH,astore,zG,AV.plain,AV.shp,AV.refsIn,AV.refsIn.go,total,Sh.size]
 simp -dsimp -implicitDefEqProofs only[go_sem,seval,hin,has,hz0,hst,QP,zD (Za _)]
 try rfl
def cv(t:Tm):Option Tm:=cvF t.size t
theorem gf(t:Tm)(hv:t.valid=true)(hp:Heap):S 49 [t.av] hp=some (.ret (.tuple [((cv t).getD zt).av,.pv none (.bool (cv t).isSome)]),hp):=by
 refine gd rfl rfl rfl (zK [(some 4,t.pv)]) rfl rfl ?_;have h1:=fun hp=>m9 t.size t (Zc _) hv hp;have hz0:zQ A0 [] []=some zG:=rfl;unfold cv;cases e:cvF t.size t with
 |none=>
  rw[e] at h1;simp only[resB,Tm.av] at h1;simp -dsimp -implicitDefEqProofs only[go_sem,seval,Tm.av,h1,hz0,(fun A=>rfl:∀A:Prop,panK true A=A),zD (Za _),zF,Jo,jP,jQ,jR];refine⟨rfl,89,[],[.ptr 1 0,.ptr 3 0],rfl,_,_,_,Np _ _ _ _,rfl,?_⟩;exact⟨_,rfl⟩
 |some g=>
  rw[e] at h1;simp only[resB,Tm.av] at h1;simp -dsimp -implicitDefEqProofs only[go_sem,seval,Tm.av,h1,hz0,(fun A=>rfl:∀A:Prop,panK true A=A),zD (Za _),zF,Jo,jP,jQ,jR];refine⟨rfl,89,[],[.ptr 1 0,.ptr 3 0],rfl,_,_,_,Nn _,rfl,?_⟩;exact⟨_,rfl⟩
def y4(t:Tm):Option Tm:=if t.valid=true then match cv t with
 |some g=>if 2000<g.size then none else some g
 |none=>none
 else none
theorem gg:∀(n:Nat) (t g:Tm),cvF n t=some g->g.size<=2*t.size:=by
 intro n
 induction n with
 |zero=>intro t g h;cases h
 |succ n ih=>
  intro t g h;rw[cvF] at h;split at h
  ·cases h;rw[Tm.size_eq];show 1+(t.size+0)<=_;have:=t.size_eq;omega
  ·split at h
   ·split at h
    ·rename_i a b hab;split at h
     ·cases h
     ·rename_i x hx;split at h
      ·cases h
      ·rename_i y hy;cases h;have h1:=ih _ _ hx;have h2:=ih _ _ hy;have e:t.size=1+(a.size+(b.size+0)):=by rw[Tm.size_eq,hab];rfl
       rw[Tm.size_eq];show 1+(x.size+(y.size+0))<=_;omega
    grind
   grind
theorem P0:zQ A0 [] []=some (.agg A0):=rfl
theorem Nq(t:Tm)(hz:t.size<100000000)(hp:Heap):S 95 [t.av] hp=some (.ret (.tuple [((y4 t).getD zt).av,.pv none (.bool (y4 t).isSome)]),hp):=by
 refine zM rfl rfl rfl (zK [(some 4,t.pv)]) rfl ?_;have h1:=fun hp=>YR t hp (by omega);have hz0:=P0;simp only[Tm.av] at h1;by_cases hv:t.valid=true
 rotate_left
 ·have hv':t.valid=false:=by grind
  have e:y4 t=none:=by grind [y4]
  rw[e];simp -dsimp -implicitDefEqProofs only[go_sem,seval,Tm.av,h1,hv',hz0,zD (Za _)];exact⟨_,rfl⟩
 have h2:=fun hp=>gf t hv hp;have vz:=valid_size hv;cases ec:cv t with
 |none=>
  have e:y4 t=none:=by grind [y4]
  rw[ec] at h2;simp only[Option.getD_none,zy,Tm.av] at h2;rw[e];simp -dsimp -implicitDefEqProofs only[go_sem,seval,Tm.av,h1,h2,hv,hz0,zD (Za _)];exact⟨_,rfl⟩
 |some g=>
  have gz:=gg _ _ _ ec;rw[ec] at h2;have h3:=fun hp=>qg g hp (by omega);simp only[Option.getD_some,Option.isSome_some,Tm.av] at h2 h3;by_cases hg:2000<g.size
  ·have e:y4 t=none:=by grind [y4]
   have hm:min g.size 2001=2001:=by omega
   rw[hm] at h3;have hc:(2000:Int)<((2001:Nat):Int):=by decide
   rw[e];simp -dsimp -implicitDefEqProofs only[go_sem,seval,Tm.av,h1,h2,h3,hc,hv,hz0,zD (Za _)];exact⟨_,rfl⟩
  ·have e:y4 t=some g:=by grind [y4]
   have hm:min g.size 2001=g.size:=by omega
   rw[hm] at h3;have hc:¬(2000:Int)<(g.size:Int):=by omega
   rw[e];simp -dsimp -implicitDefEqProofs only[go_sem,seval,Tm.av,h1,h2,h3,hc,hv,hz0,zD (Za _)];exact⟨_,rfl⟩
theorem Jp{L:List Int}:∀t:Tm,t.fits=true->(Tm.sub (cPos L) t).size=t.size:=by
 intro t
 induction t using Tm.zAH with
 |h t ih=>
  intro hf;rw[Tm.zAR];by_cases hk:t.kind=0
  ·rw[Zj hk,XI hf hk];rfl
  ·rw[Zb hk,Tm.size_eq,t.size_eq]
   congr 1
   have hargs:∀u∈t.args,(Tm.sub (cPos L) u).size=u.size:=fun u hu=>ih u hu (Tm.zAK hf hu);show Tm.sizes (t.args.map (Tm.sub (cPos L)))=_;generalize t.args=l at hargs;clear ih
   induction l with
   |nil=>rfl
   |cons x r ihl=>
    grind [Tm.sizes]
theorem gh(c:Cz)(h1:c.head.size<100000000)(h2:c.body.size<100000000)(hp:Heap):S 50 [c.av] hp=some (.ret (P5 (decide (c.head.size+c.body.size<=2000))),hp):=by
 refine zM rfl rfl rfl (zK [(some 8,c.pv)]) rfl ?_;have a1:=fun hp=>qg c.head hp (by omega);have a2:=fun hp=>qg c.body hp (by omega);have w1:IntKind.i64.wrap (((min c.head.size 2001:Nat):Int)+((min c.body.size 2001:Nat):Int))=((min c.head.size 2001+min c.body.size 2001:Nat):Int):=by grind [zU]
 simp only[Tm.av] at a1 a2;have e:decide (c.head.size+c.body.size<=2000)=decide (((min c.head.size 2001+min c.body.size 2001:Nat):Int)<=2000):=by
  grind
 rw[e];simp -dsimp -implicitDefEqProofs only[go_sem,seval,Cz.av,xa,xb,a1,a2,w1]
def okC(c:Cz):Bool:=c.head.valid && ((decide (c.head.kind=2) || decide (c.head.kind=3)) && (decide (c.head.size+c.body.size<=2000) && ((match y4 c.body with|some g=>same g c.body|none=>false) && (decide (c.vars.length<=64) && (same c.can.head c.head && same c.can.body c.body)))))
theorem gi{t g:Tm}(h:y4 t=some g):t.valid=true/\g.size<=2000:=by
 grind [y4]
theorem Qc(c:Cz)(z1:c.head.size<100000000)(z2:c.body.size<100000000)(hp:Heap):S 55 [c.av] hp=some (.ret (P5 (okC c)),hp):=by
 refine zM rfl rfl rfl (zK [(some 8,c.pv)]) rfl ?_;have h1:=fun hp=>YR c.head hp (by omega);have h2:=fun hp=>VB c.head hp;have h3:=fun hp=>gh c z1 z2 hp;have h4:=fun hp=>Nq c.body z2 hp;simp only[Tm.av,Cz.av] at h1 h2 h3 h4;by_cases b1:c.head.valid=true
 rotate_left
 ·have b1':c.head.valid=false:=by grind
  have e:okC c=false:=by grind [okC]
  rw[e];simp -dsimp -implicitDefEqProofs only[go_sem,seval,Cz.av,xa,xb,h1,b1']
  done
 cases b2:(decide (c.head.kind=2) || decide (c.head.kind=3)) with
 |false=>
  have e:okC c=false:=by grind [okC]
  rw[e];rw[b2] at h2;simp -dsimp -implicitDefEqProofs only[go_sem,seval,Cz.av,xa,xb,h1,b1,h2]
  done
 |true=>
 rw[b2] at h2;cases b3:decide (c.head.size+c.body.size<=2000) with
 |false=>
  have e:okC c=false:=by grind [okC]
  rw[e];rw[b3] at h3;simp -dsimp -implicitDefEqProofs only[go_sem,seval,Cz.av,xa,xb,h1,b1,h2,h3]
  done
 |true=>
 rw[b3] at h3;have b3':=zj b3;cases b4:y4 c.body with
 |none=>
  have e:okC c=false:=by grind [okC]
  rw[e];rw[b4] at h4;simp only[Option.getD_none,zy,Tm.av] at h4;simp -dsimp -implicitDefEqProofs only[go_sem,seval,Cz.av,xa,xb,h1,b1,h2,h3,h4,zD (Za _)]
  done
 |some g=>
 obtain⟨vb,zg⟩:=gi b4;rw[b4] at h4;have h5:=fun hp=>Qa g c.body hp (by omega) (by omega);have fh:=valid_fits b1;have fb:=valid_fits vb;have h6:=fun hp=>gc c fh fb (by omega) hp;have zh:c.can.head.size=c.head.size:=Jp _ fh;have zb:c.can.body.size=c.body.size:=Jp _ fb;have h7:=fun hp=>Qa c.can.head c.head hp (by omega) (by omega);have h8:=fun hp=>Qa c.can.body c.body hp (by omega) (by omega);simp only[Option.getD_some,Option.isSome_some,Tm.av,Cz.av] at h4 h5 h6 h7 h8;cases b5:same g c.body with
 |false=>
  have e:okC c=false:=by grind [okC]
  rw[e];rw[b5] at h5;simp -dsimp -implicitDefEqProofs only[go_sem,seval,Cz.av,xa,xb,h1,b1,h2,h3,h4,h5,zD (Za _)]
  done
 |true=>
 rw[b5] at h5;have e:okC c=(decide (c.vars.length<=64) && (same c.can.head c.head && same c.can.body c.body)):=by grind [okC]
 rw[e];by_cases b6:c.vars.length<=64
 ·have b6':(c.vars.length:Int)<=64:=by omega
  cases b7:same c.can.head c.head with
  |false=>
   rw[b7] at h7;simp -dsimp -implicitDefEqProofs only[go_sem,seval,Cz.av,xa,xb,h1,b1,h2,h3,h4,h5,h6,h7,b6,b6',zD (Za _)]
   done
  |true=>
   rw[b7] at h7;simp -dsimp -implicitDefEqProofs only[go_sem,seval,Cz.av,xa,xb,h1,b1,h2,h3,h4,h5,h6,h7,h8,b6,b6',zD (Za _)]
   done
 ·have b6':¬(c.vars.length:Int)<=64:=by omega
  simp -dsimp -implicitDefEqProofs only[go_sem,seval,Cz.av,xa,xb,h1,b1,h2,h3,h4,h5,h6,b6,b6',zD (Za _)]
  done
structure Sto where
 id:Int
 cl:Cz
def Sto.pv(s:Sto):PV:=.agg [(none,.int .i64 s.id),(some 8,s.cl.pv)]
def Sto.pvs(l:List Sto):List PV:=l.map Sto.pv
structure Prc where
 name:List UInt8
 ar:Int
 dyn:Bool
 cls:List Sto
def Prc.pv(p:Prc):PV:=.agg [(none,.str p.name),(none,.int .i64 p.ar),(none,.bool p.dyn),(none,.sl (some 9) (Sto.pvs p.cls))]
def Prc.av(p:Prc):AV:=.pv (some 4) p.pv
def Prc.pvs(l:List Prc):List PV:=l.map Prc.pv
structure Dbs where
 next:Int
 procs:List Prc
def Dbs.pv(d:Dbs):PV:=.agg [(none,.int .i64 d.next),(none,.sl (some 4) (Prc.pvs d.procs))]
def Dbs.av(d:Dbs):AV:=.pv (some 2) d.pv
theorem Sto.pvs_len(l:List Sto):(Sto.pvs l).length=l.length:=by simp[Sto.pvs]
theorem Prc.pvs_len(l:List Prc):(Prc.pvs l).length=l.length:=by simp[Prc.pvs]
theorem Sto.pvs_get{l:List Sto}{i:Nat}{s:Sto}(h:l[i]? =some s):(Sto.pvs l)[i]? =some s.pv:=by simp[Sto.pvs,h]
theorem Prc.pvs_get{l:List Prc}{i:Nat}{s:Prc}(h:l[i]? =some s):(Prc.pvs l)[i]? =some s.pv:=by simp[Prc.pvs,h]
theorem yu(s:Sto):PV.part deep s.pv 0 none=some (.int .i64 s.id):=rfl
theorem Xh(s:Sto):PV.part deep s.pv 1 (some 8)=some s.cl.pv:=by cases s with|mk i c=>cases c;rfl
theorem yg(p:Prc):PV.part deep p.pv 0 none=some (.str p.name):=rfl
theorem yh(p:Prc):PV.part deep p.pv 1 none=some (.int .i64 p.ar):=rfl
theorem gj(p:Prc):PV.part deep p.pv 2 none=some (.bool p.dyn):=rfl
theorem yM(p:Prc):PV.part deep p.pv 3 none=some (.sl (some 9) (Sto.pvs p.cls)):=rfl
theorem YB(d:Dbs):PV.part deep d.pv 0 none=some (.int .i64 d.next):=rfl
theorem YC(d:Dbs):PV.part deep d.pv 1 none=some (.sl (some 4) (Prc.pvs d.procs)):=rfl
def strC(a b:List UInt8):Int:=if Op.bytesLess a b=true then -1 else if a=b then 0 else 1
def intC(a b:Int):Int:=if a<b then -1 else if b<a then 1 else 0
theorem Nr(a b:List UInt8)(hp:Heap):S 93 [P6 a,P6 b] hp=some (.ret (P4 (strC a b)),hp):=by
 refine zM rfl rfl rfl (zK [(none,.str a),(none,.str b)]) rfl ?_;have hn:∀(x:List UInt8) (hp:Heap),S 128 [P6 x] hp=some (.ret (P5 false),hp):=fun x hp=>by
  refine zM rfl rfl rfl (zK [(none,.str x)]) rfl ?_;simp -dsimp -implicitDefEqProofs only[go_sem,seval]
  try simp
 have hg:Xy .gtr a b=some (.bool (!(Op.bytesLess a b || decide (a=b)))):=rfl;unfold strC;cases h1:Op.bytesLess a b with
 |true=>simp -dsimp -implicitDefEqProofs only[go_sem,seval,hn,h1]
 |false=>
  rw[h1] at hg;by_cases h2:a=b
  ·rw[Z1 h2] at hg;have hg':Xy .gtr a b=some (.bool false):=hg;rw[Zb (by decide),Zj h2];simp -dsimp -implicitDefEqProofs only[go_sem,seval,hn,h1,hg']
  ·rw[decide_eq_false h2] at hg;have hg':Xy .gtr a b=some (.bool true):=hg;rw[Zb (by decide),Zb h2];simp -dsimp -implicitDefEqProofs only[go_sem,seval,hn,h1,hg']
theorem Ns(a b:Int)(hp:Heap):S 94 [P4 a,P4 b] hp=some (.ret (P4 (intC a b)),hp):=by
 refine zM rfl rfl rfl (zK [(none,.int .i64 a),(none,.int .i64 b)]) rfl ?_;have hn:∀(x:Int) (hp:Heap),S 129 [P4 x] hp=some (.ret (P5 false),hp):=fun x hp=>by
  refine zM rfl rfl rfl (zK [(none,.int .i64 x)]) rfl ?_;simp -dsimp -implicitDefEqProofs only[go_sem,seval]
  try simp
 unfold intC;by_cases h1:a<b
 ·simp -dsimp -implicitDefEqProofs only[go_sem,seval,hn,h1]
 ·by_cases h2:b<a
  ·simp -dsimp -implicitDefEqProofs only[go_sem,seval,hn,h1,h2]
  ·simp -dsimp -implicitDefEqProofs only[go_sem,seval,hn,h1,h2]
theorem Jq(s:List UInt8)(a:Int)(hp:Heap):S 53 [P6 s,P4 a] hp=some (.ret (P5 (decide (s.length<=100) && (decide (0<=a) && decide (a<=8)))),hp):=by
 refine zM rfl rfl rfl (zK [(none,.str s),(none,.int .i64 a)]) rfl ?_;by_cases h1:s.length<=100
 ·have h1':(s.length:Int)<=100:=by omega
  by_cases h2:0<=a
  ·simp -dsimp -implicitDefEqProofs only[go_sem,seval,h1,h1',h2]
  ·simp -dsimp -implicitDefEqProofs only[go_sem,seval,h1,h1',h2]
 ·have h1':¬(s.length:Int)<=100:=by omega
  simp -dsimp -implicitDefEqProofs only[go_sem,seval,h1,h1']
def ordP(p q:Prc):Int:=if strC p.name q.name=0 then intC p.ar q.ar else strC p.name q.name
theorem Nt(a b:Int)(hp:Heap):S 92 [.pv none (.sl none [.int .i64 a,.int .i64 b])] hp=some (.ret (P4 (if a=0 then b else a)),hp):=by
 refine zM rfl rfl rfl (zK [(none,.sl none [.int .i64 a,.int .i64 b])]) rfl ?_;have hl:([.int .i64 a,.int .i64 b]:List PV).length=2:=rfl;simp -dsimp -implicitDefEqProofs only[go_sem,seval,hl];have e2:((2:Nat):Int)=2:=rfl;have e1:((1:Nat):Int)=1:=rfl;have e0:((0:Nat):Int)=0:=rfl;refine Yp (α:=Unit) 2 (fun i _=>(0<i->a=0)/\(1<i->b=0)) (fun i _=>⟨[(3,P4 0),(6,.pv none (.sl none [.int .i64 a,.int .i64 b])),(7,P4 2),(8,P4 i)],[]⟩) () ⟨⟨by omega,by omega⟩,rfl⟩ ?_ ?_
 ·rintro i - h ⟨ha,hb⟩
  match i,h with
  |0,_=>
   have c2:(0:Int)<2:=by decide
   have w2:IntKind.i64.wrap ((0:Int)+1)=((0+1:Nat):Int):=by decide
   have g:zX none [.pv none (.sl none [.int .i64 a,.int .i64 b]),P4 0]=some (.iptr none (.int .i64 a) 0):=rfl;by_cases h0:a=0
   ·have h0':=Zi h0;simp -dsimp -implicitDefEqProofs only[go_sem,seval,e0,c2,w2,g,h0'];simp_all
   ·simp -dsimp -implicitDefEqProofs only[go_sem,seval,e0,c2,w2,g,h0]
    try rw[Zb h0]
    try exact⟨_,rfl⟩
  |1,_=>
   have h0:=ha (by omega);have c2:(1:Int)<2:=by decide
   have w2:IntKind.i64.wrap ((1:Int)+1)=((1+1:Nat):Int):=by decide
   have g:zX none [.pv none (.sl none [.int .i64 a,.int .i64 b]),P4 1]=some (.iptr none (.int .i64 b) 0):=rfl;by_cases h1:b=0
   ·have h1':=Zi h1;simp -dsimp -implicitDefEqProofs only[go_sem,seval,e1,c2,w2,g,h1'];simp_all
   ·rw[Zj h0];simp -dsimp -implicitDefEqProofs only[go_sem,seval,e1,c2,w2,g,h1]
    try exact⟨_,rfl⟩
 ·rintro - ⟨ha,hb⟩;have h0:=ha (by omega);have h1:=hb (by omega);have c2:¬(2:Int)<2:=by decide
  rw[Zj h0,h1];simp -dsimp -implicitDefEqProofs only[go_sem,seval,e2,c2]
  try exact⟨_,rfl⟩
theorem gk(p q:Prc)(hp:Heap):S 54 [p.av,q.av] hp=some (.ret (P4 (ordP p q)),hp):=by
 refine zM rfl rfl rfl (zK [(some 4,p.pv),(some 4,q.pv)]) rfl ?_;have h1:=fun hp=>Nr p.name q.name hp;have h2:=fun hp=>Ns p.ar q.ar hp;have h3:=fun hp=>Nt (strC p.name q.name) (intC p.ar q.ar) hp;unfold ordP;simp -dsimp -implicitDefEqProofs only[go_sem,seval,Prc.av,yg,yh,h1,h2,h3]
 done
def totD(l:List Prc):Nat:=(l.map fun p=>p.cls.length).sum
theorem Nu{l:List Prc}{i:Nat}{p:Prc}(h:l[i]? =some p):totD (l.take (i+1))=totD (l.take i)+p.cls.length:=by
 grind [totD,Z8]
theorem Nv{l:List Prc}(i:Nat):totD (l.take i)<=totD l:=by
 grind [ZY,totD]
theorem qk(d:Dbs)(h1:d.procs.length<1000000000)(h2:totD d.procs<1000000000)(hp:Heap):S 52 [d.av] hp=some (.ret (P4 (totD d.procs:Int)),hp):=by
 refine zM rfl rfl rfl (zK [(some 2,d.pv)]) rfl ?_;simp -dsimp -implicitDefEqProofs only[go_sem,seval,Dbs.av,YC,Prc.pvs_len];refine Yp (α:=Unit) d.procs.length (fun _ _=>True) (fun i _=>⟨[(3,P4 (totD (d.procs.take i):Int)),(7,.pv none (.sl (some 4) (Prc.pvs d.procs))),(8,P4 d.procs.length),(9,P4 i)],[.box (some 2) (.pv (some 2) d.pv)]⟩) () ⟨trivial,rfl⟩ ?_ ?_
 ·rintro i - h -;have hc:(i:Int)<(d.procs.length:Int):=by omega
  obtain⟨p,hpp⟩:∃p,d.procs[i]? =some p:=⟨_,Ze h⟩;have ht:=Nu hpp;have hle:=Nv (l:=d.procs) (i+1);have w1:IntKind.i64.wrap ((i:Int)+1)=((i+1:Nat):Int):=by grind [zU]
  have w2:IntKind.i64.wrap ((totD (d.procs.take i):Int)+(p.cls.length:Int))=(totD (d.procs.take (i+1)):Int):=by grind [zU]
  simp -dsimp -implicitDefEqProofs only[go_sem,seval,hc,w1,w2,zT (Prc.pvs_get hpp),yM,Sto.pvs_len,zD (Za _)];exact⟨(),rfl⟩
 ·rintro - -;have hc:¬(d.procs.length:Int)<(d.procs.length:Int):=by omega
  simp -dsimp -implicitDefEqProofs only[go_sem,seval,hc,ZW]
  done
end Go.Proofs.YtgedfopkiebjkaaGreatDoor
