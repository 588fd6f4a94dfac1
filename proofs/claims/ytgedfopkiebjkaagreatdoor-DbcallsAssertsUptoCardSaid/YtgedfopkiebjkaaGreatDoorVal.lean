/- What is proved: whether two terms are the same, by the program and by the reference. -/
import Derived.Test.YtgedfopkiebjkaaGreatDoorTerm
import Derived.Test.YtgedfopkiebjkaaGreatDoorAm5
set_option linter.unusedSimpArgs false
set_option linter.unusedVariables false
namespace Go.Proofs.YtgedfopkiebjkaaGreatDoor
open Go.Am
theorem ge:∀(a b:Tm) (hp:Heap),a.size<1000000000->S 64 [a.av,b.av] hp=some (.ret (P5 (decide (a.cmp b=0))),hp):=by
 intro a
 induction a using Tm.zA6 with
 |h a ih=>
  intro b hp ha;have hts:=a.size_eq;have hlen:=Tm.zA5 a.args;refine zM rfl rfl rfl (zJ [(some 4,a.pv),(some 4,b.pv)]) rfl ?_;by_cases hall:a.kind=b.kind/\a.n=b.n/\a.name=b.name/\a.args.length=b.args.length
  ·obtain⟨h1,h2,h3,h4⟩:=hall;have hz:a.cmp b=Tm.cmps a.args b.args:=by
    rw[Tm.zBz,h1,h2,h3,h4,Q7,Q7,Q7,cb_zero.2 rfl];rfl
   rw[hz];simp -dsimp -implicitDefEqProofs only[c64b12,go_sem,seval,zO,Yd,zU,zK,Tm.pvs_len,h1,h2,h3,h4];refine XS (fun n st=>∃i:Nat,n=a.args.length - i/\i<=a.args.length/\Tm.cmps a.args b.args=Tm.cmps (a.args.drop i) (b.args.drop i)/\st=⟨[(2,.ptr 0 0),(3,.ptr 1 0),(5,P4 i)],[.box (some 4) (.pv (some 4) a.pv),.box (some 4) (.pv (some 4) b.pv)]⟩) (n:=a.args.length) ⟨0,rfl,Za _,rfl,?_⟩ ?_
   ·simp -dsimp -implicitDefEqProofs only[go_sem,seval]
    try rfl
   ·rintro n st ⟨i,hn,hi,he,rfl⟩;by_cases h:i<a.args.length
    ·have hc:(i:Int)<(a.args.length:Int):=by omega
     obtain⟨u,hu⟩:∃u,a.args[i]? =some u:=⟨_,Zd h⟩;obtain⟨w,hw⟩:∃w,b.args[i]? =some w:=⟨_,Zd (by omega)⟩;have hum:=Zj hu;have husz:=Tm.zBb hum;have hcall:=fun hp=>ih u hum w hp (by omega);simp only[Tm.av] at hcall;have w2:IntKind.i64.wrap ((i:Int)+1)=((i+1:Nat):Int):=by grind [zW]
     rw[Tm.zBt hu hw] at he;by_cases h0:u.cmp w=0
     ·rw[h0,GF] at he;simp -dsimp -implicitDefEqProofs only[c64b12,go_sem,seval,zK,Tm.pvs_len,hc,zQ (Tm.pvs_get hu),zQ (Tm.pvs_get hw),hcall,w2,h0]
      grind
     ·rw[GG h0] at he;simp -dsimp -implicitDefEqProofs only[c64b12,go_sem,seval,zK,Tm.pvs_len,hc,zQ (Tm.pvs_get hu),zQ (Tm.pvs_get hw),hcall,w2,h0,he]
    ·have hc:¬(i:Int)<(a.args.length:Int):=by omega
     obtain rfl:i=a.args.length:=by omega
     rw[List.drop_length,Tm.zBl] at he;simp -dsimp -implicitDefEqProofs only[c64b12,go_sem,seval,zK,Tm.pvs_len,hc,he]
  ·have hz:¬a.cmp b=0:=fun h=>hall (by grind [Tm.zBf])
   replace hall:=Kept.mk hall
   replace hts:=Kept.mk hts
   clear ih
   (repeat' (first|(simp -dsimp -implicitDefEqProofs only[go_sem,seval,zO,Yd,zU,zK,Tm.pvs_len, *])|(refine YX (fun _=> ?_) (fun _=> ?_))))
   exact absurd ⟨‹_›,‹_›,‹_›,by omega⟩ hall.out

def same(a b:Tm):Bool:=a.valid && (b.valid && decide (a.cmp b=0))
theorem qb(a b:Tm)(hp:Heap)(ha:a.size<1000000000)(hb:b.size<1000000000):S 44 [a.av,b.av] hp=some (.ret (P5 (same a b)),hp):=by
 refine zM rfl rfl rfl (zJ [(some 4,a.pv),(some 4,b.pv)]) rfl ?_;have h1:=fun hp=>xh a hp ha;have h2:=fun hp=>xh b hp hb;have h3:=fun hp=>ge a b hp ha;simp only[Tm.av] at h1 h2 h3;unfold same;by_cases va:a.valid=true
 ·by_cases vb:b.valid=true
  ·(repeat' (first|(simp -dsimp -implicitDefEqProofs only[go_sem,seval, *])|(refine YX (fun _=> ?_) (fun _=> ?_))))
  ·(repeat' (first|(simp -dsimp -implicitDefEqProofs only[go_sem,seval, *])|(refine YX (fun _=> ?_) (fun _=> ?_))))
 ·(repeat' (first|(simp -dsimp -implicitDefEqProofs only[go_sem,seval, *])|(refine YX (fun _=> ?_) (fun _=> ?_))))

theorem Nt:∀(a b:Tm) (hp:Heap),a.size<1000000000->S 75 [a.av,b.av] hp=some (.ret (P5 (decide (a.cmp b=0))),hp):=by
 intro a
 induction a using Tm.zA6 with
 |h a ih=>
  intro b hp ha;have hts:=a.size_eq;have hlen:=Tm.zA5 a.args;refine zM rfl rfl rfl (zJ [(some 4,a.pv),(some 4,b.pv)]) rfl ?_;by_cases hall:a.kind=b.kind/\a.n=b.n/\a.name=b.name/\a.args.length=b.args.length
  ·obtain⟨h1,h2,h3,h4⟩:=hall;have hz:a.cmp b=Tm.cmps a.args b.args:=by
    rw[Tm.zBz,h1,h2,h3,h4,Q7,Q7,Q7,cb_zero.2 rfl];rfl
   rw[hz];simp -dsimp -implicitDefEqProofs only[c75b13,go_sem,seval,zO,Yd,zU,zK,Tm.pvs_len,h1,h2,h3,h4];have hbl:(b.args.length:Int)=(a.args.length:Int):=by rw[h4]
   refine Ye (α:=Unit) a.args.length (fun i _=>Tm.cmps a.args b.args=Tm.cmps (a.args.drop i) (b.args.drop i)) (fun i _=>⟨[(3,.ptr 1 0),(36,.pv none (.sl (some 4) (Tm.pvs a.args))),(37,P4 b.args.length),(38,P4 i)],[.box (some 4) (.pv (some 4) a.pv),.box (some 4) (.pv (some 4) b.pv)]⟩) () ⟨rfl,rfl⟩ ?_ ?_
   ·rintro i - h he;have hc:(i:Int)<(b.args.length:Int):=by omega
    obtain⟨u,hu⟩:∃u,a.args[i]? =some u:=⟨_,Zd h⟩;obtain⟨w,hw⟩:∃w,b.args[i]? =some w:=⟨_,Zd (by omega)⟩;have hum:=Zj hu;have husz:=Tm.zBb hum;have hcall:=fun hp=>ih u hum w hp (by omega);simp only[Tm.av] at hcall;have w2:IntKind.i64.wrap ((i:Int)+1)=((i+1:Nat):Int):=by grind [zW]
    rw[Tm.zBt hu hw] at he;by_cases h0:u.cmp w=0
    ·rw[h0,GF] at he;simp -dsimp -implicitDefEqProofs only[c75b13,go_sem,seval,zK,Tm.pvs_len,hc,zQ (Tm.pvs_get hu),zQ (Tm.pvs_get hw),hcall,w2,h0];exact⟨(),he,rfl⟩
    ·rw[GG h0] at he;simp -dsimp -implicitDefEqProofs only[c75b13,go_sem,seval,zK,Tm.pvs_len,hc,zQ (Tm.pvs_get hu),zQ (Tm.pvs_get hw),hcall,w2,h0,he]
   ·rintro - he;have hc:¬(a.args.length:Int)<(b.args.length:Int):=by omega
    rw[List.drop_length,Tm.zBl] at he;simp -dsimp -implicitDefEqProofs only[c75b13,go_sem,seval,zK,Tm.pvs_len,hc,he]
  ·have hz:¬a.cmp b=0:=fun h=>hall (by grind [Tm.zBf])
   replace hall:=Kept.mk hall
   replace hts:=Kept.mk hts
   clear ih
   (repeat' (first|(simp -dsimp -implicitDefEqProofs only[go_sem,seval,zO,Yd,zU,zK,Tm.pvs_len, *])|(refine YX (fun _=> ?_) (fun _=> ?_))))
   exact absurd ⟨‹_›,‹_›,‹_›,by omega⟩ hall.out
theorem QE(a b:Tm)(hp:Heap)(ha:a.size<1000000000)(hb:b.size<1000000000):S 37 [a.av,b.av] hp=some (.ret (P5 (same a b)),hp):=by
 refine zM rfl rfl rfl (zJ [(some 4,a.pv),(some 4,b.pv)]) rfl ?_;have h1:=fun hp=>Y8 a hp ha;have h2:=fun hp=>Y8 b hp hb;have h3:=fun hp=>Nt a b hp ha;simp only[Tm.av] at h1 h2 h3;unfold same;by_cases va:a.valid=true
 ·by_cases vb:b.valid=true
  ·(repeat' (first|(simp -dsimp -implicitDefEqProofs only[go_sem,seval, *])|(refine YX (fun _=> ?_) (fun _=> ?_))))
  ·(repeat' (first|(simp -dsimp -implicitDefEqProofs only[go_sem,seval, *])|(refine YX (fun _=> ?_) (fun _=> ?_))))
 ·(repeat' (first|(simp -dsimp -implicitDefEqProofs only[go_sem,seval, *])|(refine YX (fun _=> ?_) (fun _=> ?_))))
theorem YR{α:Type}(l r:List α)(k:Nat):(l++r)[l.length+k]? =r[k]? :=by
 grind
theorem XV{α:Type}(l r:List α):(l++r)[l.length]? =r[0]? :=YR l r 0
theorem Vm{α:Type}(l r:List α)(k:Nat)(x:α):(l++r).set (l.length+k) x=l++r.set k x:=by
 grind
theorem Nu{α:Type}(l r:List α)(x:α):(l++r).set l.length x=l++r.set 0 x:=Vm l r 0 x
theorem Nv(t:Tm)(hp:Heap):S 85 [t.av] hp=some (.ret t.av,hp):=by
 refine zM rfl rfl rfl (zJ [(some 4,t.pv)]) rfl ?_
 (repeat' (first|(simp -dsimp -implicitDefEqProofs only[go_sem,seval,Tm.av, *])|(refine YX (fun _=> ?_) (fun _=> ?_))))

theorem zN(s s0:Sh)(r v o n:Nat)(l:List (Sh × AV))(hp:Heap):zX ((s,.sl s0 r v o n)::l) hp=Y3 (s,.sl s0 r v o n) (zX l hp):=rfl
theorem P0:∀l hp,AV.freeze (7+1) (.agg l) hp=match AV.freeze.go 7 l hp with|some (ps,hp')=>some (.agg ps,hp')|none=>none:=fun _ _=>rfl
theorem Nw{hp:Heap}{r:Nat}(t:Tm)(h:hp[r]? =some (.arr (some 4) (Tm.pvs t.args) false)):Am.frozen t.av (.agg [(none,P4 t.kind),(none,P4 t.n),(none,P6 t.name),(none,.sl (some 4) r t.args.length 0 t.args.length)]) hp:=by
 refine⟨hp.set r (.arr (some 4) (Tm.pvs t.args) true),?_⟩;cases t with
 |mk k n s ts=>
  show(match AV.freeze (7+1) (.agg _) hp with|some (p,hp')=>some (AV.pv _ p,hp')|none=>none)=_;have e:=P0
  simp only[Tm.args] at h;simp[e,AV.freeze.go,AV.freeze,h,Tm.kind,Tm.n,Tm.name,Tm.args,Tm.pvs_len,Tm.av,Tm.pv];rfl

theorem xi{Γ:Oracle}{b:Nat}{vs:List AV}{hp:Heap}{K:AV->Heap->Prop}{Kp:PV->Heap->Prop}(sh:Sh)(n:Nat):opK (aOp Γ b (.bslicen sh n) vs hp) K Kp=YK (YZ sh hp (vs.drop n)) (fun v hp'=>(vs.take n).all (Yx hp hp')=true/\K v hp'):=by
 grind [aOp,qr,opK,YK]
def appH(n:Nat)(t:Tm)(i:Nat):Heap:=[.box (some 4) (.pv (some 4) t.pv),.box (some 4) (.agg [(none,P4 0),(none,P4 0),(none,P6 []),(none,.sl (some 4) (n+2) 0 0 0)]),.arr (some 4) [] false,.box (some 4) (.agg [(none,P4 t.kind),(none,P4 t.n),(none,P6 t.name),(none,.sl (some 4) (n+5) i 0 i)]),.arr (some 4) [] false,.arr (some 4) (Tm.pvs (t.args.take i)) false]
theorem Jd{hp hp':Heap}{r o q i:Nat}{t:Tm}(h:hp[r]? =some (.box (some 4) (.agg [(none,P4 t.kind),(none,P4 t.n),(none,P6 t.name),(none,.sl (some 4) q i 0 i)])))(h':hp'[r]? =some (.box (some 4) (.agg [(none,P4 t.kind),(none,P4 t.n),(none,P6 t.name),(none,.sl (some 4) q i 0 i)]))):Yx hp hp' (.ptr r o)=true:=by
 simp_all[Yx,AObj.beq,AV.beq,AV.beqc,PV.beq]
attribute [go_sem] Zn YR XV Vm Nu Nat.add_assoc Z6
theorem Nx(cl:AV):∀(t:Tm) (hp:Heap),t.fits=true->t.size<1000000000->(cl=.pv none (.func (.func 85))\/(t.occ=[]/\cl.refsIn.all (fun q=>decide (q<hp.length))=true))->∃v e,S 76 [t.av,cl] hp=some (.ret v,hp++e)/\v.shp=some 4/\v.plain=true/\(∀H,v.own H=(v,H))/\(∃e2,AV.freeze deep v (hp++e)=some (t.pv,hp++e2))/\∀H:Heap,(∀j,hp.length<=j->H[j]? =(hp++e)[j]?)->∃H2,AV.freeze deep v H=some (t.pv,H2):=by
 intro t
 induction t using Tm.zA6 with
 |h t ih=>
  intro hp hf ht hcl;have hts:=t.size_eq;have hlen:=Tm.zA5 t.args;have h1:=fun hp=>Nv t hp;simp only[Tm.av] at h1;by_cases hk:t.kind=0
  ·have hcl:cl=.pv none (.func (.func 85)):=by
    grind [Tm.zA8]
   subst hcl;refine⟨t.av,[],?_,rfl,rfl,fun _=>rfl,⟨[],rfl⟩,fun H _=>⟨H,rfl⟩⟩;rw[ZT];refine Yk rfl rfl rfl rfl ?_;have hk':=Zg hk;simp -dsimp -implicitDefEqProofs only[go_sem,seval,Tm.av,zO,hk',h1]
   grind [AV.refsIn]
  ·refine⟨.agg [(none,P4 t.kind),(none,P4 t.n),(none,P6 t.name),(none,.sl (some 4) (hp.length+5) t.args.length 0 t.args.length)],
    [.box (some 4) (.pv (some 4) t.pv),.box (some 4) (.agg [(none,P4 t.kind),(none,P4 t.n),(none,P6 t.name),(none,.sl (some 4) (hp.length+5) t.args.length 0 t.args.length)]),.arr (some 4) [] false,.box (some 4) (.agg [(none,P4 t.kind),(none,P4 t.n),(none,P6 t.name),(none,.sl (some 4) (hp.length+5) t.args.length 0 t.args.length)]),.arr (some 4) [] false,.arr (some 4) (Tm.pvs t.args) false],?_,rfl,rfl,fun _=>rfl,?_,?_⟩
   ·refine Yk rfl rfl rfl rfl ?_;have hk':=Zi hk;have hb:zT A0 [0,1,2] [P4 t.kind,P4 t.n,P6 t.name]=some (.agg [(none,P4 t.kind),(none,P4 t.n),(none,P6 t.name),(none,.tsl (some 4) [])]):=rfl;simp -dsimp -implicitDefEqProofs only[go_sem,seval,Tm.av,zO,Yd,zU,zK,hk',Tm.pvs_len,hb,zH (Zf _ _)];refine Ye (α:=Unit) t.args.length (fun _ _=>True) (fun i _=>⟨[(1,cl),(4,.ptr (hp.length+1) 0),(5,.ptr (hp.length+3) 0),(22,.pv none (.sl (some 4) (Tm.pvs t.args))),(23,P4 t.args.length),(24,P4 i)],hp++appH hp.length t i⟩) () ⟨trivial,rfl⟩ ?_ ?_
    ·rintro i - h -;have hc:(i:Int)<(t.args.length:Int):=by omega
     obtain⟨u,hu⟩:∃u,t.args[i]? =some u:=⟨_,Zd h⟩;have hum:=Zj hu;have husz:=Tm.zBb hum;obtain⟨v,e,hcall,hvs,_,_,⟨e2,hfz⟩,_⟩:=ih u hum (hp++(appH hp.length t i++[.box (some 4) (.pv (some 4) u.pv),.arr (some 4) [] false])) (Tm.zA7 hf hum) (by omega) (hcl.imp_right fun h=>⟨by
      have ho:=h.1;obtain⟨x,y,e⟩:=List.append_of_mem hum;rw[Tm.zA8,Zb hk,e,Tm.zBq] at ho;exact(List.append_eq_nil_iff.1 (List.append_eq_nil_iff.1 ho).2).1,Zq.2 fun q hq=>(by
      grind)⟩)
     have w2:IntKind.i64.wrap ((i:Int)+1)=((i+1:Nat):Int):=by grind [zW]
     have hl:(Tm.pvs (t.args.take i)).length=i:=by grind [Tm.pvs_len]
     have hlim:i+1<=lim:=by grind [lim]
     have hbs:YZ (some 4) (hp++(appH hp.length t i++[.box (some 4) (.pv (some 4) u.pv),.arr (some 4) [] false])++e) [v]=some (.tsl (some 4) [u.pv],hp++(appH hp.length t i++[.box (some 4) (.pv (some 4) u.pv),.arr (some 4) [] false])++e2):=by
      simp_all[YZ,zZ,YP]
     simp only[Tm.av] at hcall;have hs1:∀e e':Heap,Yx (hp++(appH hp.length t i++e)) (hp++(appH hp.length t i++e')) (.ptr (hp.length+3) 3)=true:=fun e e'=>Jd (t:=t) (q:=hp.length+5) (i:=i) (by rw[YR];rfl) (by rw[YR];rfl);simp only[appH,Zn,Zs,Zv] at hcall hbs hs1;simp -dsimp -implicitDefEqProofs only[go_sem,seval,appH,hc,zQ (Tm.pvs_get hu),xi,ZK,ZW,ZO,ZQ,hcall,hbs,hs1,w2,hl,hlim,Tm.zA9 hu,zH (Zf _ _),Y4 (Zf _ _)];have hcr:cl.refsIn.all (fun q=>decide (q<hp.length+6))=true:=by
      rcases hcl with h|h
      ·rw[h];rfl
      grind
     simp_all[yF,AObj.refs,AV.ofComps,pures,AV.refsIn,AV.refsIn.go]
    ·rintro - -;have hc:¬(t.args.length:Int)<(t.args.length:Int):=by omega
     simp -dsimp -implicitDefEqProofs only[go_sem,seval,appH,hc,ZF,zN,zH (Zf _ _),Y4 (Zf _ _)]
     grind [AV.refsIn,AV.refsIn.go]
   ·have e:=P0
    cases t with
    |mk k n s ts=>
     refine⟨[.box (some 4) (.pv (some 4) (Tm.mk k n s ts).pv),.box (some 4) (.agg [(none,P4 k),(none,P4 n),(none,P6 s),(none,.sl (some 4) (hp.length+5) ts.length 0 ts.length)]),.arr (some 4) [] false,.box (some 4) (.agg [(none,P4 k),(none,P4 n),(none,P6 s),(none,.sl (some 4) (hp.length+5) ts.length 0 ts.length)]),.arr (some 4) [] false,.arr (some 4) (Tm.pvs ts) true],?_⟩;show AV.freeze (7+1) (.agg _) _=_;simp[e,AV.freeze.go,AV.freeze,YR,Tm.kind,Tm.n,Tm.name,Tm.args,Tm.pvs_len,Tm.pv]
   ·intro H hH;have h5:=hH (hp.length+5) (by omega);rw[YR] at h5;have e:=P0
    cases t with
    |mk k n s ts=>
     refine⟨H.set (hp.length+5) (.arr (some 4) (Tm.pvs ts) true),?_⟩;show AV.freeze (7+1) (.agg _) _=_;simp only[Tm.args,List.getElem?_cons_succ,List.getElem?_cons_zero] at h5;simp_all[AV.freeze.go,AV.freeze,Tm.kind,Tm.n,Tm.name,Tm.args,Tm.pvs_len,Tm.pv]
theorem Tm.valid_fits{t:Tm}(h:t.valid=true):t.fits=true:=by
 grind [Tm.valid]
theorem gf{t:Tm}{v:AV}{H H2:Heap}(h1:v.shp=some 4)(h2:v.plain=true)(h3:AV.freeze deep v H=some (t.pv,H2)):Am.frozen t.av v H:=by
 refine⟨H2,?_⟩;cases v <;> first|(cases h2;done)|(simp only[AV.freezeRes,h3,h1];rfl)
theorem XA(t:Tm)(hp:Heap)(hv:t.valid=true)(ht:t.size<1000000000):S 41 [t.av] hp=some (.ret t.av,hp):=by
 refine zM rfl rfl rfl (zJ [(some 4,t.pv)]) rfl ?_;have h1:=fun hp=>Y8 t hp ht;obtain⟨v,e,h2,h3,h4,h5,_,h6⟩:=Nx _ t [.box (some 4) (.pv (some 4) t.pv),.box (some 4) (.agg [(none,P4 0),(none,P4 0),(none,P6 []),(none,.sl (some 4) 2 0 0 0)]),.arr (some 4) [] false] (Tm.valid_fits hv) ht (.inl rfl);have hst:zL (some 4) 0 ([.box (some 4) (.pv (some 4) t.pv),.box (some 4) (.agg [(none,P4 0),(none,P4 0),(none,P6 []),(none,.sl (some 4) 2 0 0 0)]),.arr (some 4) [] false]++e) [.ptr 1 0,v]=some (.undef,[.box (some 4) (.pv (some 4) t.pv),.box (some 4) v,.arr (some 4) [] false]++e):=by
  grind [zL,astore]
 have hfz:=fun(H:Heap) (hH:∀j,3<=j->H[j]? =_)=>(h6 H hH).elim fun H2 k=>gf h3 h4 k;have hfr:Am.frozen t.av v ([.box (some 4) (.pv (some 4) t.pv),.box (some 4) v,.arr (some 4) [] false]++e):=by
  grind
 rw[hv] at h1;simp only[Tm.av,Zs,Zv] at h1 h2 hst;simp -dsimp -implicitDefEqProofs only[go_sem,seval,Tm.av,h1,h2,hst,zH (Za _)];exact hfr
theorem XB{t u:Tm}(h:t.valid=true)(hu:u∈t.args):u.valid=true:=by
 unfold Tm.valid at h ⊢;simp only[Zk,Zz] at h ⊢;have:=Tm.zBb hu
 grind [Tm.zA7]
theorem valid_fits{t:Tm}(h:t.valid=true):t.fits=true:=by grind [Tm.valid]
theorem xj{t:Tm}(h:t.fits=true)(h2:t.size<=2000):t.valid=true:=by grind [Tm.valid]
def panE(p:PV):AExit->St->Prop
 | .panic v,_=>v=p
 |_,_=>False
theorem Je(p v:PV)(st:St):panE p (.panic v) st=(v=p):=rfl
theorem Jf{F:FuncId->Option AFn}{prim:FuncId->Option z8}{f:FuncId}{fn:AFn}{args:List AV}{ps:List (Sh × PV)}{hp:Heap}{p:PV}(hp0:prim f=none)(hf:F f=some fn)(hm:fn.heapMode=false)(hz:zZ args hp=some (ps,hp))(hn:(pvs ps).length=fn.nparams)
  (h:W (sem F prim) (sloop F prim) 0 fn.code ⟨params 0 (pvs ps),[]⟩ (panE p))(hr:fn.rcv=none:=by rfl)(hmo:fn.more=[]:=by rfl):sem F prim .fn f args hp=some (.panic p,hp):=by
 rw[XO];unfold Y1;rw[hp0,hf];simp only[hr,hmo,zz,hm,ZV,if_false,hz,abody,hn,ne_eq,not_true_eq_false];unfold W at h;split at h
 ·rename_i e st' he;have hl:([]:Heap).length=0:=rfl;rw[hl,he];cases e with
  |panic v=>
   have:v=p:=h
   grind
  |normal=>exact h.elim
  |ret=>exact h.elim
  |exit i=>exact h.elim
 grind
def jn(t:Tm):Prop:=t.kind=3/\t.args.length=2/\(t.name=[44]\/t.name=[59]\/t.name=[45,62])
instance (t:Tm):Decidable (jn t):=inferInstanceAs (Decidable (_/\_/\_))
theorem Ny(t:Tm)(hp:Heap):S 127 [t.av] hp=some (.ret (P5 (decide (jn t))),hp):=by
 refine zM rfl rfl rfl (zJ [(some 4,t.pv)]) rfl ?_;by_cases h1:t.kind=3
 ·have h1':=Zg h1;by_cases h2:t.args.length=2
  ·have h2':=Zg (show(t.args.length:Int)=2 by omega);by_cases h3:t.name=[44]
   ·have h3':=Zg h3;have e:decide (jn t)=true:=ZN ⟨h1,h2,.inl h3⟩;rw[e];simp -dsimp -implicitDefEqProofs only[go_sem,seval,Tm.av,zO,zU,zK,Tm.pvs_len,h1',h2',h3']
   ·have h3':=Zi h3;by_cases h4:t.name=[59]
    ·have h4':=Zg h4;have e:decide (jn t)=true:=ZN ⟨h1,h2,.inr (.inl h4)⟩;rw[e];simp -dsimp -implicitDefEqProofs only[go_sem,seval,Tm.av,zO,zU,zK,Tm.pvs_len,h1',h2',h3',h4']
    ·have h4':=Zi h4;have e:decide (jn t)=decide (t.name=[45,62]):=by grind [jn]
     rw[e];simp -dsimp -implicitDefEqProofs only[go_sem,seval,Tm.av,zO,zU,zK,Tm.pvs_len,h1',h2',h3',h4']
  ·have h2':=Zi (show ¬(t.args.length:Int)=2 by omega);have e:decide (jn t)=false:=by grind [jn]
   rw[e];simp -dsimp -implicitDefEqProofs only[go_sem,seval,Tm.av,zO,zU,zK,Tm.pvs_len,h1',h2']
 ·have h1':=Zi h1;have e:decide (jn t)=false:=by grind [jn]
  rw[e];simp -dsimp -implicitDefEqProofs only[go_sem,seval,Tm.av,zO,zU,zK,Tm.pvs_len,h1']
theorem Vn(t:Tm)(hp:Heap):S 47 [t.av] hp=some (.ret (P5 (decide (t.kind=2) || decide (t.kind=3))),hp):=by
 refine zM rfl rfl rfl (zJ [(some 4,t.pv)]) rfl ?_;by_cases h1:t.kind=2
 ·simp -dsimp -implicitDefEqProofs only[go_sem,seval,Tm.av,zO,h1,Bool.true_or]
 ·simp -dsimp -implicitDefEqProofs only[go_sem,seval,Tm.av,zO,h1,Bool.false_or]
def Jg:List UInt8:=[99,97,108,108]
def tstr(s:List UInt8)(l:List Tm):Tm:=.mk 3 0 s l
def cvF:Nat->Tm->Option Tm
 |0,_=>none
 |n+1,t=>if t.kind=0 then some (tstr Jg [t]) else if jn t then(match t.args with
   |[a,b]=>match cvF n a with
    |none=>none
    |some x=>match cvF n b with
     |none=>none
     |some y=>some (tstr t.name [x,y])
   |_=>none) else if t.kind=2\/t.kind=3 then some t else none
theorem Vo{l:List Tm}(h:l.length=2):∃a b,l=[a,b]:=by
 match l,h with
 |[a,b],_=>grind
def noG:PV:=.iface 116 (some 0) (.agg [])
def resB:Option Tm->ARes
 |some g=>.ret g.av
 |none=>.panic noG
def cV(s:List UInt8)(l:List PV):AV:=.agg [(none,P4 3),(none,P4 0),(none,P6 s),(none,.tsl (some 4) l)]
theorem jr(x0:AObj)(v:AV)(r:Heap)(s:List UInt8)(a:PV)(l:List PV):zL (some 4) 0 (x0::.box (some 4) v::r) [.ptr 1 0,cV s (a::l)]=some (.undef,x0::.box (some 4) (cV s (a::l))::r):=by
 simp[zL,astore,cV,AV.plain,AV.shp,AV.own,zX,Y3,total,Sh.size]
theorem Nz:∀(n:Nat) (t:Tm),t.size<=n->t.valid=true->∀hp,S 90 [t.av] hp=some (resB (cvF n t),hp):=by
 intro n
 induction n with
 |zero=>
  intro t h;have:=t.size_eq;omega
 |succ n ih=>
  intro t hn hv hp;have hsz:=valid_size hv;have h1:=fun hp=>Ny t hp;have h2:=fun hp=>Vn t hp;have h3:=fun hp=>XA t hp hv (by omega);have hbu:∀(s:List UInt8) (l:List PV),zT A0 [0,2,3] [P4 3,P6 s,.tsl (some 4) l]=some (cV s l):=fun _ _=>rfl;have hb0:zT [] [] []=some (.pv (some 0) (.agg [])):=rfl;have hmi:∀(s:Sh) (p:PV),Xl 116 [.pv s p]=some (.pv none (.iface 116 s p)):=fun _ _=>rfl;simp only[Tm.av] at h1 h2 h3;by_cases k0:t.kind=0
  ·have e:cvF (n+1) t=some (tstr Jg [t]):=by grind [cvF]
   rw[e];refine zM rfl rfl rfl (zJ [(some 4,t.pv)]) rfl ?_;have k0':=Zg k0;simp -dsimp -implicitDefEqProofs only[go_sem,seval,Tm.av,zO,k0',hbu,jr];exact⟨_,rfl⟩
  have k0':=Zi k0;by_cases kj:jn t
  rotate_left
  ·have ej:decide (jn t)=false:=zA kj;rw[ej] at h1;by_cases kc:t.kind=2\/t.kind=3
   ·have e:cvF (n+1) t=some t:=by grind [cvF]
    have ec:(decide (t.kind=2) || decide (t.kind=3))=true:=by grind
    rw[ec] at h2;rw[e];refine zM rfl rfl rfl (zJ [(some 4,t.pv)]) rfl ?_;simp -dsimp -implicitDefEqProofs only[go_sem,seval,Tm.av,zO,k0',h1,h2,h3,zH (Za _)]
    done
   ·have e:cvF (n+1) t=none:=by grind [cvF]
    have ec:(decide (t.kind=2) || decide (t.kind=3))=false:=by
     grind
    rw[ec] at h2;rw[e];refine Jf rfl rfl rfl (zJ [(some 4,t.pv)]) rfl ?_;simp -dsimp -implicitDefEqProofs only[go_sem,seval,Tm.av,zO,k0',h1,h2,h3,hb0,hmi,zH (Za _),Je]
    try rfl
  ·have ej:decide (jn t)=true:=ZN kj;rw[ej] at h1;obtain⟨a,b,hab⟩:=Vo kj.2.1;have ma:a∈t.args:=by grind
   have mb:b∈t.args:=by grind
   have za:=Tm.zBb ma;have zb:=Tm.zBb mb;have ha:=fun hp=>ih a (by omega) (XB hv ma) hp;have hb:=fun hp=>ih b (by omega) (XB hv mb) hp;have g0:Yc (some 4) [.pv none (.sl (some 4) (Tm.pvs t.args)),P4 0]=some (.iptr (some 4) a.pv 0):=by rw[hab];rfl
   have g1:Yc (some 4) [.pv none (.sl (some 4) (Tm.pvs t.args)),P4 1]=some (.iptr (some 4) b.pv 0):=by rw[hab];rfl
   have e:cvF (n+1) t=match cvF n a with
    |none=>none
    |some x=>match cvF n b with
     |none=>none
     |some y=>some (tstr t.name [x,y]):=by grind [cvF]
   rw[e];simp only[Tm.av] at ha hb;cases ea:cvF n a with
   |none=>
    rw[ea] at ha;simp only[resB] at ha;refine Jf rfl rfl rfl (zJ [(some 4,t.pv)]) rfl ?_;simp -dsimp -implicitDefEqProofs only[go_sem,seval,Tm.av,zO,zU,zK,k0',h1,h2,ha,g0,g1,zH (Za _),Je]
    done
   |some x=>
    rw[ea] at ha;simp only[resB,Tm.av] at ha;cases eb:cvF n b with
    |none=>
     rw[eb] at hb;simp only[resB] at hb;refine Jf rfl rfl rfl (zJ [(some 4,t.pv)]) rfl ?_;simp -dsimp -implicitDefEqProofs only[go_sem,seval,Tm.av,zO,zU,zK,k0',h1,h2,ha,hb,g0,g1,zH (Za _),Je]
     done
    |some y=>
     rw[eb] at hb;simp only[resB,Tm.av] at hb;refine zM rfl rfl rfl (zJ [(some 4,t.pv)]) rfl ?_;simp -dsimp -implicitDefEqProofs only[go_sem,seval,Tm.av,zO,zU,zK,k0',h1,h2,ha,hb,g0,g1,hbu,jr,zH (Za _)];exact⟨_,rfl⟩
theorem js{a b:Tm}(h:same a b=true):a=b:=by
 grind [same,Tm.zBf]
mutual
def Tm.sub(f:Int->Tm):Tm->Tm
 | .mk k n s ts=>if k=0 then f n else .mk k n s (Tm.subs f ts)
def Tm.subs(f:Int->Tm):List Tm->List Tm
 |[]=>[]
 |t::r=>Tm.sub f t::Tm.subs f r
end
theorem Tm.zBy(f:Int->Tm):∀l:List Tm,Tm.subs f l=l.map (Tm.sub f)
 |[]=>rfl
 |t::r=>by rw[Tm.subs,Tm.zBy f r];rfl
theorem Tm.zBe(f:Int->Tm)(t:Tm):Tm.sub f t=if t.kind=0 then f t.n else .mk t.kind t.n t.name (t.args.map (Tm.sub f)):=by
 cases t with
 |mk k n s ts=>
  grind [Tm.sub,Tm.kind,Tm.n,Tm.name,Tm.args,Tm.zBy]
def tvar(v:Int):Tm:=.mk 0 v [] []
theorem yx{t:Tm}(h:t.fits=true)(hk:t.kind=0):t=tvar t.n:=by
 rw[Tm.zBc] at h;have h1:t.node=true:=by grind
 cases t with
 |mk k n s ts=>
  simp only[Tm.kind] at hk;subst hk;simp[Tm.node,Tm.kind,Tm.n,Tm.name,Tm.args] at h1;obtain⟨⟨_,h3⟩,h4⟩:=h1;rw[h4,Z8 h3];rfl
theorem NA{F:FuncId->Option AFn}{prim:FuncId->Option z8}{f:FuncId}{fn:AFn}{args:List AV}{ps:List (Sh × PV)}(P:AV->Prop)(hp0:prim f=none)(hf:F f=some fn)(hm:fn.heapMode=false)(hz:∀hp,zZ args hp=some (ps,hp))(hn:(pvs ps).length=fn.nparams)
  (h:W (sem F prim) (sloop F prim) 0 fn.code ⟨params 0 (pvs ps),[]⟩ (endK fn.results (fun v hp=>∃v',Am.frozen v' v hp/\P v')))(hr:fn.rcv=none:=by rfl)(hmo:fn.more=[]:=by rfl):∃v,(∀hp,sem F prim .fn f args hp=some (.ret v,hp))/\P v:=by
 have key:∃v,P v/\W (sem F prim) (sloop F prim) 0 fn.code ⟨params 0 (pvs ps),[]⟩ (endK fn.results (Am.frozen v)):=by
  unfold W at h ⊢;split at h
  ·rename_i e st' he;cases e with
   |normal=>
    rw[xg] at h;cases hr:Yp st' fn.results with
    |none=>rw[hr] at h;exact h.elim
    |some u=>rw[hr] at h;obtain⟨v',h1,h2⟩:=h;exact⟨v',h2,by simp only[he,xg,hr];exact h1⟩
   |ret=>
    rw[XR] at h;cases hr:Yp st' fn.results with
    |none=>rw[hr] at h;exact h.elim
    |some u=>rw[hr] at h;obtain⟨v',h1,h2⟩:=h;exact⟨v',h2,by simp only[he,XR,hr];exact h1⟩
   |exit i=>exact h.elim
   |panic v=>exact h.elim
  grind
 obtain⟨v,h1,h2⟩:=key;exact⟨v,fun hp=>zM hp0 hf hm (hz hp) hn h2 hr hmo,h1⟩
theorem gg{F:FuncId->Option AFn}{prim:FuncId->Option z8}{f:FuncId}{fn:AFn}{args:List AV}{hp:Heap}(P:AV->Heap->Prop)(hp0:prim f=none)(hf:F f=some fn)(hm:fn.heapMode=true)(hn:args.length=fn.nparams)
  (h:W (sem F prim) (sloop F prim) hp.length fn.code ⟨params 0 args,hp⟩ (endK fn.results (fun v' h'=>P v' (if v'.refsIn.all (fun q=>decide (q<hp.length))=true then h'.take hp.length else h'))))(hr:fn.rcv=none:=by rfl)(hmo:fn.more=[]:=by rfl):∃v hp',sem F prim .fn f args hp=some (.ret v,hp')/\P v hp':=by
 rw[XO];unfold Y1;rw[hp0,hf];simp only[hr,hmo,zz,ZV,if_false,hm,if_true,abody,hn,ne_eq,not_true_eq_false,if_false];unfold W at h;split at h
 ·rename_i e st' he;rw[he];cases e with
  |normal=>
   rw[xg] at h;cases hr:Yp st' fn.results with
   |none=>rw[hr] at h;exact h.elim
   |some u=>rw[hr] at h;exact⟨_,_,by grind,h⟩
  |ret=>
   rw[XR] at h;cases hr:Yp st' fn.results with
   |none=>rw[hr] at h;exact h.elim
   |some u=>rw[hr] at h;exact⟨_,_,by grind,h⟩
  |exit i=>exact h.elim
  |panic v=>exact h.elim
 grind
theorem gh(n b:Nat)(fr:Fr)(hp:Heap):collect n b fr hp=hp\/(collect n b fr hp=hp.take n/\∀x∈fr,∀q∈x.2.refsIn,q<n):=by
 grind [collect]
theorem Tm.zBs{l:List Tm}{u:Tm}(h:u∈l){w:Int}(hw:w∈u.occ):w∈Tm.occs l:=by
 induction l with
 |nil=>cases h
 |cons x r ih=>
  grind [Tm.occs]
theorem Tm.zBk{l:List Tm}{w:Int}(hw:w∈Tm.occs l):∃u∈l,w∈u.occ:=by
 induction l with
 |nil=>cases hw
 |cons x r ih=>
  grind [Tm.occs]
theorem Tm.zBo{t u:Tm}(hk:¬t.kind=0)(h:u∈t.args){w:Int}(hw:w∈u.occ):w∈t.occ:=by
 grind [Tm.zA8,Tm.zBs]
theorem Tm.zBC{f g:Int->Tm}:∀t:Tm,(∀w∈t.occ,f w=g w)->Tm.sub f t=Tm.sub g t:=by
 intro t
 induction t using Tm.zA6 with
 |h t ih=>
  grind [Tm.zBe,Tm.zA8,List.map_congr_left,Tm.zBo]
def ints(l:List Int):List PV:=l.map (.int .i64)
theorem Y9(l:List Int):(ints l).length=l.length:=by simp[ints]
theorem QF{l:List Int}{i:Nat}{x:Int}(h:l[i]? =some x):(ints l)[i]? =some (.int .i64 x):=by simp[ints,h]
theorem gi(l:List Int)(x:Int):ints l++[.int .i64 x]=ints (l++[x]):=by simp[ints]
theorem NB(l:List Int)(x:Int)(hl:l.length<1000000000)(hp:Heap):∃y:Int,(∀hp,S 72 [.pv none (.sl none (ints l)),P4 x] hp=some (.ret (P4 y),hp))/\(y<0↔x ∉ l):=by
 obtain⟨v,h1,y,rfl,h2⟩:=NA (F:=find tab) (prim:=prim) (f:=72) (ps:=[(none,.sl none (ints l)),(none,.int .i64 x)]) (args:=[.pv none (.sl none (ints l)),P4 x]) (fun v=>∃y:Int,v=P4 y/\(y<0↔x ∉ l)) rfl rfl rfl (fun hp=>rfl) rfl (by
  simp -dsimp -implicitDefEqProofs only[go_sem,seval,Y9];refine Ye (α:=Unit) l.length (fun i _=>∀j,j<i->l[j]?≠some x) (fun i _=>⟨[(0,.pv none (.sl none (ints l))),(1,P4 x),(5,P4 i)],[]⟩) () ⟨fun j hj=>by omega,rfl⟩ ?_ ?_
  ·rintro i - h hinv;have hc:(i:Int)<(l.length:Int):=by omega
   obtain⟨b,hb⟩:∃b,l[i]? =some b:=⟨_,Zd h⟩;have w2:IntKind.i64.wrap ((i:Int)+1)=((i+1:Nat):Int):=by grind [zW]
   by_cases hbx:b=x
   ·simp -dsimp -implicitDefEqProofs only[go_sem,seval,Y9,hc,zQ (QF hb),hbx]
    grind
   ·simp -dsimp -implicitDefEqProofs only[go_sem,seval,Y9,hc,zQ (QF hb),hbx,w2];refine⟨(),fun j hj=> ?_⟩
    grind
  ·rintro - hinv;have hc:¬(l.length:Int)<(l.length:Int):=by omega
   simp -dsimp -implicitDefEqProofs only[go_sem,seval,Y9,hc]
   grind [List.getElem_of_mem])
 grind
def vadd(s:List Int)(w:Int):List Int:=if w∈s then s else s++[w]
def vads(s:List Int)(ws:List Int):List Int:=ws.foldl vadd s
theorem xQ(s a b:List Int):vads s (a++b)=vads (vads s a) b:=by simp[vads]
theorem xk(ws:List Int):∀s:List Int,(vads s ws).length<=s.length+ws.length:=by
 induction ws with
 |nil=>grind [vads]
 |cons w r ih=>
  intro s;have:=ih (vadd s w)
  grind [vadd,vads]
theorem Jh(ws:List Int):∀(s:List Int) (x:Int),x∈vads s ws↔x∈s\/x∈ws:=by
 induction ws with
 |nil=>grind [vads]
 |cons w r ih=>
  intro s x;have:=ih (vadd s w) x
  grind [vads,vadd]
def IsV(s:AV)(hp:Heap)(l:List Int):Prop:=(s=.tsl none []/\l=[])\/∃r,s=.sl none r l.length 0 l.length/\hp[r]? =some (.arr none (ints l) false)
def PresV(s:AV)(hp hp':Heap):Prop:=hp.length<=hp'.length/\∀(i:Nat) (x:AObj),hp[i]? =some x->(∀v o n,s≠.sl none i v o n)->hp'[i]? =some x
def OwnV(s:AV)(hp:Heap)(s':AV):Prop:=∀r v o n,s'=.sl none r v o n->(∃v o n,s=.sl none r v o n)\/hp.length<=r
theorem PresV.refl(s:AV)(hp:Heap):PresV s hp hp:=⟨Zc _,fun _ _ h _=>h⟩
theorem OwnV.refl(s:AV)(hp:Heap):OwnV s hp s:=fun r v o n h=>.inl ⟨v,o,n,h⟩
theorem IsV.more{s:AV}{hp:Heap}{l:List Int}(h:IsV s hp l)(e:Heap):IsV s (hp++e) l:=by
 rcases h with h|⟨r,h1,h2⟩
 ·exact .inl h
 ·exact .inr ⟨r,h1,by grind⟩
theorem IsV.not_box{s:AV}{hp:Heap}{l:List Int}(h:IsV s hp l){i:Nat}{sh:Sh}{v:AV}(hi:hp[i]? =some (.box sh v)):∀v o n,s≠.sl none i v o n:=by
 rcases h with⟨rfl,_⟩|⟨r,rfl,h2⟩
 ·grind
 grind
theorem OwnV.trans{s s1 s2:AV}{hp hp1:Heap}(h1:OwnV s hp s1)(hl:hp.length<=hp1.length)(h2:OwnV s1 hp1 s2):OwnV s hp s2:=fun r v o n e=>by
 rcases h2 r v o n e with⟨v',o',n',e'⟩|h
 ·exact h1 r v' o' n' e'
 grind
theorem PresV.trans{s s1:AV}{hp hp1 hp2:Heap}(h1:PresV s hp hp1)(ho:OwnV s hp s1)(h2:PresV s1 hp1 hp2):PresV s hp hp2:=
 ⟨ZH h1.1 h2.1,fun i x hx hne=>h2.2 i x (h1.2 i x hx hne) fun v o n e=>by
  rcases ho i v o n e with⟨v',o',n',e'⟩|h
  ·grind
  grind⟩
theorem PresV.take{s:AV}{hp hp1:Heap}{n:Nat}(h:PresV s hp hp1)(hn:hp.length<=n):PresV s hp (hp1.take n):=
 ⟨by rw[Zw];have:=h.1;omega,fun i x hx hne=>by
  have:=yN hx;rw[Z1,Zh (by omega)];exact h.2 i x hx hne⟩
theorem PresV.less{s:AV}{hp e hp1:Heap}(h:PresV s (hp++e) hp1):PresV s hp hp1:=
 ⟨by have:=h.1;grind,fun i x hx hne=>h.2 i x (by grind) hne⟩
theorem OwnV.less{s s':AV}{hp e:Heap}(h:OwnV s (hp++e) s'):OwnV s hp s':=fun r v o n h1=>by
 rcases h r v o n h1 with h|h
 ·grind
 grind
theorem IsV.take{s:AV}{hp:Heap}{l:List Int}{n:Nat}(h:IsV s hp l)(hr:∀q∈s.refsIn,q<n):IsV s (hp.take n) l:=by
 rcases h with h|⟨r,rfl,h2⟩
 ·exact .inl h
 ·have:r<n:=hr r (by simp[AV.refsIn]);exact .inr ⟨r,rfl,by grind⟩
theorem IsV.freeze{s:AV}{hp:Heap}{l:List Int}(h:IsV s hp l):∃hp1,AV.freeze deep s hp=some (.sl none (ints l),hp1)/\s.shp=none/\s.plain=true:=by
 rcases h with⟨rfl,rfl⟩|⟨r,rfl,h⟩
 ·exact⟨hp,rfl,rfl,rfl⟩
 ·exact⟨hp.set r (.arr none (ints l) true),by simp[AV.freeze,deep,h,Y9],rfl,rfl⟩
theorem NC{s:AV}{hp:Heap}{l:List Int}(h:IsV s hp l)(x:Int)(hl:l.length<1000000000):∃s' H',Yg none hp [s,.tsl none [.int .i64 x]]=some (s',H')/\IsV s' H' (l++[x])/\PresV s hp H'/\OwnV s hp s':=by
 have hlim:l.length+1<=lim:=by grind [lim]
 rcases h with⟨rfl,rfl⟩|⟨r,rfl,h⟩
 ·refine⟨_,_,rfl,.inr ⟨hp.length,rfl,?_⟩,⟨by simp,fun i x hx _=>by grind⟩,fun r v o n e=>by grind⟩;rw[Z7 (Zc _),Nat.sub_self];rfl
 ·have hlt:=yN h;refine⟨.sl none r (l.length+1) 0 (l.length+1),hp.set r (.arr none (ints (l++[x])) false),?_,.inr ⟨r,by simp,by grind⟩,⟨by simp,fun i x hx hne=> ?_⟩,fun r v o n e=>by grind⟩
  ·grind [Yg,aappend,elems,ints]
  grind
theorem ND{s:AV}{hp:Heap}{l:List Int}(h:IsV s hp l)(x:Int)(hl:l.length<1000000000):∃y:Int,S 72 [s,P4 x] hp=some (.ret (P4 y),hp)/\(y<0↔x ∉ l):=by
 obtain⟨y,h1,h2⟩:=NB l x hl hp;obtain⟨hp1,z1,z2,_⟩:=h.freeze;refine⟨y,?_,h2⟩;have:=yw (F:=find tab) (prim:=prim) (f:=72) (args:=[s,P4 x]) (ps:=[(none,.sl none (ints l)),(none,.int .i64 x)]) (hp:=hp) (hp1:=hp1) rfl rfl rfl (by
  have e:∀H:Heap,AV.freeze deep (P4 x) H=some (.int .i64 x,H):=fun _=>rfl;simp only[zZ,z1,e,z2];rfl) (h1 [])
 exact this
theorem Vp{s s1:AV}{hp e H:Heap}{l:List Int}(h1:IsV s1 H l)(h2:PresV s (hp++e) H)(h3:OwnV s (hp++e) s1):
  IsV s1 (if s1.refsIn.all (fun q=>decide (q<hp.length))=true then H.take hp.length else H) l/\PresV s hp (if s1.refsIn.all (fun q=>decide (q<hp.length))=true then H.take hp.length else H)/\OwnV s hp s1:=by
 refine⟨?_,?_,h3.less⟩
 ·split
  ·rename_i hr;exact h1.take fun q hq=>by grind
  grind
 ·split
  ·exact h2.less.take (Zc _)
  ·exact h2.less
theorem Vq(t:Tm)(ih:∀u∈t.args,∀(s:AV) (hp:Heap) (l:List Int),IsV s hp l->u.fits=true->l.length+u.size<100000000->∃s' hp',S 35 [s,u.av] hp=some (.ret s',hp')/\IsV s' hp' (vads l u.occ)/\PresV s hp hp'/\OwnV s hp s')
  (s:AV)(H0:Heap)(n0 b:Nat)(l:List Int)(hB:IsV s H0 l)(h1:H0[n0]? =some (.box (some 4) (.pv (some 4) t.pv)))(hf:t.fits=true)(hl:l.length+Tm.sizes t.args<100000000)(Q:AExit->St->Prop)
  (hQ:∀(s1:AV) (H:Heap) (r:Fr),IsV s1 H (vads l (Tm.occs t.args))->PresV s H0 H->OwnV s H0 s1->Q .normal ⟨(0,s1)::r,H⟩):
  W Z L b c35k11 ⟨[(0,s),(3,.ptr n0 0),(5,P4 0)],H0⟩ Q:=by
 have hts:=t.size_eq;have hlen:=Tm.zA5 t.args;have nb1:=hB.not_box h1;simp -dsimp -implicitDefEqProofs only[c35b10,c35k11,go_sem,seval];refine Ye (α:=AV × Heap) t.args.length (fun i a=>IsV a.1 a.2 (vads l (Tm.occs (t.args.take i)))/\PresV s H0 a.2/\OwnV s H0 a.1)
  (fun i a=>⟨[(0,a.1),(3,.ptr n0 0),(5,P4 i)],a.2⟩) (s,H0) ⟨⟨hB,PresV.refl _ _,OwnV.refl _ _⟩,rfl⟩ ?_ ?_
 ·rintro i ⟨s1,H⟩ h ⟨k1,k2,k3⟩;dsimp only at k1 k2 k3;have hc:(i:Int)<(t.args.length:Int):=by omega
  have b1:=k2.2 n0 _ h1 nb1;obtain⟨u,hu⟩:∃u,t.args[i]? =some u:=⟨_,Zd h⟩;have hum:=Zj hu;have hst:=Tm.zBd hu;have hle:=Tm.zBa t.args (i+1);have hvl:=xk (Tm.occs (t.args.take i)) l;have hol:=Tm.zBh (t.args.take i);obtain⟨s2,H2,hcall,p1,p2,p3⟩:=ih u hum s1 H _ k1 (Tm.zA7 hf hum) (by omega);simp only[Tm.av] at hcall;have w2:IntKind.i64.wrap ((i:Int)+1)=((i+1:Nat):Int):=by grind [zW]
  simp -dsimp -implicitDefEqProofs only[c35b10,c35k11,go_sem,seval,zK,Tm.pvs_len,hc,b1,zQ (Tm.pvs_get hu),hcall,w2];have hcc:=gh H0.length b [(0,s2),(3,.ptr n0 0),(5,P4 ((i+1:Nat):Int))] H2;refine⟨(s2,collect H0.length b [(0,s2),(3,.ptr n0 0),(5,P4 ((i+1:Nat):Int))] H2),?_,rfl⟩;generalize collect H0.length b [(0,s2),(3,.ptr n0 0),(5,P4 ((i+1:Nat):Int))] H2=HC at hcc;have q1:=k2.trans k3 p2;have q2:=k3.trans k2.1 p3;rw[Tm.zBg hu,xQ];rcases hcc with rfl|⟨rfl,hr⟩
  ·grind
  ·exact⟨p1.take (hr (0,s2) (by simp)),q1.take (Zc _),q2⟩
 ·rintro⟨s1,H⟩ ⟨k1,k2,k3⟩;dsimp only at k1 k2 k3;have hc:¬(t.args.length:Int)<(t.args.length:Int):=by omega
  have b1:=k2.2 n0 _ h1 nb1;rw[ZF] at k1;simp -dsimp -implicitDefEqProofs only[c35b10,c35k11,go_sem,seval,zK,Tm.pvs_len,hc,b1]
  grind
theorem gj:∀(t:Tm) (s:AV) (hp:Heap) (l:List Int),IsV s hp l->t.fits=true->l.length+t.size<100000000->∃s' hp',S 35 [s,t.av] hp=some (.ret s',hp')/\IsV s' hp' (vads l t.occ)/\PresV s hp hp'/\OwnV s hp s':=by
 intro t
 induction t using Tm.zA6 with
 |h t ih=>
  intro s hp l hB hf ht;have hts:=t.size_eq;have hn0:∀H:Heap,YS none H=some (.sl none H.length 0 0 0,H++[.arr none [] false]):=fun H=>Xf (sh:=none) (by decide);have hB1:=hB.more [.box (some 4) (.pv (some 4) t.pv),.arr none [] false];obtain⟨y,hpos,hy⟩:=ND hB1 t.n (by omega);refine gg (fun v hp'=>IsV v hp' (vads l t.occ)/\PresV s hp hp'/\OwnV s hp v) rfl rfl rfl rfl ?_;have hbox:(hp++([.box (some 4) (.pv (some 4) t.pv),.arr none [] false]:Heap))[hp.length]? =some (.box (some 4) (.pv (some 4) t.pv)):=by grind
  rw[Tm.zA8];by_cases hk:t.kind=0
  ·rw[Zh hk];have ha:t.args=[]:=by rw[yx hf hk];rfl
   by_cases hm:t.n∈l
   ·have e:vads l [t.n]=l:=by grind [vads,vadd]
    have hy':¬y<0:=fun h=>hy.1 h hm;rw[e];simp -dsimp -implicitDefEqProofs only[go_sem,seval,Tm.av,zO,Yd,zK,hk,hn0,hpos,hy'];refine Vq t ih s _ hp.length hp.length l hB1 hbox hf (by omega) _ fun s1 H r k1 k2 k3=> ?_;rw[ha] at k1;simp -dsimp -implicitDefEqProofs only[go_sem,seval];exact Vp k1 k2 k3
   ·have e:vads l [t.n]=l++[t.n]:=by grind [vads,vadd]
    have hy':y<0:=hy.2 hm;rw[e];obtain⟨s1,H1,happ,k1,k2,k3⟩:=NC hB1 t.n (by omega);have b1:=k2.2 hp.length _ hbox (hB1.not_box hbox);simp -dsimp -implicitDefEqProofs only[go_sem,seval,Tm.av,zO,Yd,zK,hk,hn0,hpos,hy',happ];refine Vq t ih s1 _ hp.length hp.length _ k1 b1 hf (by grind) _ fun s2 H r j1 j2 j3=> ?_;rw[ha] at j1;simp -dsimp -implicitDefEqProofs only[go_sem,seval];exact Vp j1 (k2.trans k3 j2) (k3.trans k2.1 j3)
  ·rw[Zb hk];simp -dsimp -implicitDefEqProofs only[go_sem,seval,Tm.av,zO,Yd,zK,hk,hn0];refine Vq t ih s _ hp.length hp.length l hB1 hbox hf (by omega) _ fun s1 H r k1 k2 k3=> ?_;simp -dsimp -implicitDefEqProofs only[go_sem,seval]
   grind [Vp]
theorem NE{s:AV}{H:Heap}{l:List Int}(h:IsV s H l):Am.frozen (.pv none (.sl none (ints l))) s H:=by
 rcases h with⟨rfl,rfl⟩|⟨r,rfl,h⟩
 ·exact⟨H,rfl⟩
 ·exact⟨H.set r (.arr none (ints l) true),by simp[AV.freezeRes,AV.freeze,deep,h,Y9,AV.shp]⟩
theorem qc{st:St}{o r:Nat}{sh:Sh}{v q:AV}{K:AV->Prop}[Tag K](h1:st.fr.look o=some (.ptr r 0))(h2:st.hp[r]? =some (.box sh v)):valK (tupO (XQ (YI st (o,some sh)) (some [q]))) K=K (.tuple [v,q]):=by
 rw[kR,h1];simp only[mU h2];rfl
theorem NF{t:Tm}(h:t.fits=true)(hk:t.kind=0):0<=t.n/\t.n<=1099511627776:=by
 grind [Tm.zBc,Tm.node]
theorem gk:∀{t:Tm},t.fits=true->∀w∈t.occ,0<=w/\w<=1099511627776:=by
 intro t
 induction t using Tm.zA6 with
 |h t ih=>
  grind [Tm.zA8,NF,Tm.zBk,Tm.zA7]
def Y6(v:Int):List (Int × PV)->Option PV
 |[]=>none
 |x::r=>if x.1=v then some x.2 else Y6 v r
def mPut(v:Int)(p:PV):List (Int × PV)->List (Int × PV)
 |[]=>[(v,p)]
 |x::r=>if x.1=v then(v,p)::r else x::mPut v p r
def Ya(m:List (Int × PV)):List (PV × PV):=m.map fun x=>(.int .i64 x.1,x.2)
theorem jt(v:Int):∀m,afind false (.int .i64 v) (Ya m)=some (Y6 v m)
 |[]=>rfl
 |x::r=>by
  have ih:=jt v r;unfold Ya at ih ⊢;simp only[ZU,afind,PV.same,if_true,Y6];by_cases h:x.1=v
  ·simp[h]
  ·have h':¬v=x.1:=fun e=>h e.symm;simp only[zA h',Zb h];exact ih
theorem QG(v:Int)(p:PV):∀m,aput false (.int .i64 v) p (Ya m)=some (Ya (mPut v p m))
 |[]=>rfl
 |x::r=>by
  have ih:=QG v p r;unfold Ya at ih ⊢;simp only[ZU,aput,PV.same,if_true,mPut];by_cases h:x.1=v
  ·simp[h]
  ·have h':¬v=x.1:=fun e=>h e.symm;simp only[zA h',Zb h,ZU];rw[ih]
theorem Ji(v w:Int)(p:PV):∀m,Y6 v (mPut w p m)=if v=w then some p else Y6 v m
 |[]=>by
  by_cases h:v=w
  ·simp[mPut,Y6,h]
  ·have h':¬w=v:=fun e=>h e.symm;simp[mPut,Y6,h,h']
 |x::r=>by
  have ih:=Ji v w p r;unfold mPut;by_cases h:x.1=w
  ·rw[Zh h];by_cases e:v=w
   ·simp[Y6,e]
   ·have e':¬w=v:=fun q=>e q.symm;have e2:¬x.1=v:=fun q=>e (q.symm.trans h);simp[Y6,e,e',e2]
  ·rw[Zb h];simp only[Y6,ih];by_cases e:x.1=v
   ·have e2:¬v=w:=fun q=>h (e.trans q);simp[e,e2]
   ·simp[e]
theorem ju{m:List (Int × PV)}{z:PV}{hp:Heap}{r:Nat}{s:Sh}{v:Int}(h:hp[r]? =some (.map none (Ya m))):YH false none (.pv none z) false hp [.map r,.pv s (.int .i64 v)]=some (.pv none ((Y6 v m).getD z)):=by
 have hf:=jt v m;cases hm:Y6 v m with
 |none=>rw[hm] at hf;exact Vd h hf
 |some x=>rw[hm] at hf;exact Vc h hf
def posF:Nat->List Int->List (Int × PV)
 |_,[]=>[]
 |k,x::r=>(x,.int .i64 (k:Int))::posF (k+1) r
theorem jv:∀(l:List Int) (k:Nat),(posF k l).length=l.length
 |[],_=>rfl
 |x::r,k=>by rw[posF,ZZ,jv r];rfl
theorem Jj(v:Int):∀(l:List Int) (k:Nat),Y6 v (posF k l)=if v∈l then some (.int .i64 ((k+l.idxOf v:Nat):Int)) else none
 |[],_=>rfl
 |x::r,k=>by
  rw[posF,Y6,Jj v r];by_cases h:x=v
  ·subst h;simp
  ·have h':¬v=x:=fun e=>h e.symm;simp only[Zb h,ZC,h',false_or];rw[zB];have hb:(x == v)=false:=by simpa using h
   rw[hb];simp only[cond_false];split
   ·first|(congr 2;omega)|(congr 1;omega)|(congr 3;omega)
   ·rfl
theorem Vr(v:Int):∀(l:List Int) (k:Nat),v ∉ l->mPut v (.int .i64 ((k+l.length:Nat):Int)) (posF k l)=posF k (l++[v])
 |[],k,_=>rfl
 |x::r,k,h=>by
  have h':¬x=v:=fun e=>h (by rw[e];exact Zx);have ih:=Vr v r (k+1) fun hm=>h (Zm _ hm);rw[posF,mPut,Zb h',Zs,posF,<-ih,ZZ]
  first|(congr 4;omega)|(congr 3;omega)|(congr 5;omega)
theorem Vs{v:Int}:∀{l L:List Int},v∈l->l <+: L->L.idxOf v=l.idxOf v
 |[],_,h,_=>by cases h
 |x::r,L,h,hp=>by
  obtain⟨m,rfl⟩:=hp;rw[Zs,zB,zB];cases hb:x == v with
  |true=>rfl
  |false=>
   simp only[cond_false];have hx:¬x=v:=by simpa using hb
   have hm:v∈r:=(ZC.1 h).resolve_left fun e=>hx e.symm;rw[Vs hm ⟨m,rfl⟩]
theorem Vt{v:Int}:∀{l:List Int},v ∉ l->(l++[v]).idxOf v=l.length
 |[],_=>by simp[zB]
 |x::r,h=>by
  have h':¬x=v:=fun e=>h (by rw[e];exact Zx);rw[Zs,zB,beq_eq_false_iff_ne.2 h',ZZ];simp only[cond_false];rw[Vt fun hm=>h (Zm _ hm)]
theorem NG(l:List Int)(v:Int):l <+: vadd l v:=by
 unfold vadd;split
 ·exact List.prefix_refl _
 ·exact List.prefix_append _ _
theorem jw:∀(ws l:List Int),l <+: vads l ws
 |[],l=>List.prefix_refl _
 |w::r,l=>(NG l w).trans (jw r (vadd l w))
def cPos(L:List Int)(v:Int):Tm:=tvar (L.idxOf v:Int)
def canT(t:Tm):Tm:=Tm.sub (cPos (vads [] t.occ)) t
theorem gl(l:List Int)(v:Int):v∈vadd l v:=by
 unfold vadd;split
 ·assumption
 ·simp
theorem Vu{L:List Int}{t:Tm}(hk:¬t.kind=0):Tm.sub (cPos L) t=.mk t.kind t.n t.name (t.args.map (Tm.sub (cPos L))):=by
 rw[Tm.zBe,Zb hk]
theorem jx{m:List (Int × PV)}{hp:Heap}{r:Nat}{s:Sh}{v:Int}(h:hp[r]? =some (.map none (Ya m))):YH false none (P4 0) true hp [.map r,.pv s (.int .i64 v)]=some (match Y6 v m with|some x=>.tuple [.pv none x,P5 true]|none=>.tuple [P4 0,P5 false]):=by
 grind [jt,Vd,Vc]
def appC(n:Nat)(t:Tm)(ts:List Tm)(i:Nat):Heap:=[.box (some 4) (.pv (some 4) t.pv),.box (some 4) (.agg [(none,P4 0),(none,P4 0),(none,P6 []),(none,.sl (some 4) (n+2) 0 0 0)]),.arr (some 4) [] false,.box (some 4) (.agg [(none,P4 t.kind),(none,P4 t.n),(none,P6 t.name),(none,.sl (some 4) (n+5) i 0 i)]),.arr (some 4) [] false,.arr (some 4) (Tm.pvs (ts.take i)) false]
theorem gm(a b:List Tm):Tm.occs (a++b)=Tm.occs a++Tm.occs b:=by
 induction a with
 |nil=>rfl
 |cons x r ih=>grind [Tm.occs]
def sgg(u:Tm)(q:Nat):AV:=.agg [(none,P4 u.kind),(none,P4 u.n),(none,P6 u.name),(none,.sl (some 4) q u.args.length 0 u.args.length)]
theorem NH{u:Tm}{q:Nat}{H:Heap}{z:Bool}(h:H[q]? =some (.arr (some 4) (Tm.pvs u.args) z)):AV.freeze deep (sgg u q) H=some (u.pv,H.set q (.arr (some 4) (Tm.pvs u.args) true)):=by
 have e:=P0
 show AV.freeze (7+1) (.agg _) _=_;simp[e,AV.freeze.go,AV.freeze,h,Tm.pvs_len];cases u;rfl
def CopR(v:AV)(u:Tm)(n:Nat)(H:Heap):Prop:=v=.pv (some 4) u.pv\/∃q z,n<=q/\v=sgg u q/\H[q]? =some (.arr (some 4) (Tm.pvs u.args) z)
theorem CopR.shp{v:AV}{u:Tm}{n:Nat}{H:Heap}(h:CopR v u n H):v.shp=some 4:=by
 rcases h with rfl|⟨q,z,_,rfl,_⟩ <;> rfl
theorem CopR.frz{v:AV}{u:Tm}{n:Nat}{B e:Heap}(h:CopR v u n (B++e))(hn:B.length=n):∃e2,e2.length=e.length/\AV.freeze deep v (B++e)=some (u.pv,B++e2):=by
 rcases h with rfl|⟨q,z,hq,rfl,hH⟩
 ·exact⟨e,rfl,rfl⟩
 grind [NH]
def NumR(v:AV)(u:Tm)(n:Nat)(H:Heap):Prop:=∃q z,n<=q/\v=sgg u q/\H[q]? =some (.arr (some 4) (Tm.pvs u.args) z)
def nH(hp:Heap)(m:Nat)(l:List Int):Heap:=hp.set m (.map none (Ya (posF 0 l)))
theorem NI(hp:Heap)(m:Nat)(l:List Int):(nH hp m l).length=hp.length:=by simp[nH]
theorem NJ{hp:Heap}{m:Nat}(hm:m<hp.length)(l:List Int)(X:Heap):(nH hp m l++X)[m]? =some (.map none (Ya (posF 0 l))):=by
 grind [nH]
theorem NK{hp:Heap}{m:Nat}(hm:m<hp.length)(l l':List Int)(X:Heap):(nH hp m l++X).set m (.map none (Ya (posF 0 l')))=nH hp m l'++X:=by
 simp_all[nH]
theorem NL{t:Tm}(h:t.fits=true)(hk:t.kind=0):t.name=[]/\t.args=[]:=by
 have:=yx h hk;rw[this];exact⟨rfl,rfl⟩
set_option maxHeartbeats 1000000 in
theorem gn(hp:Heap)(m:Nat)(hm:m<hp.length):∀(t:Tm) (l L:List Int) (ext:Heap),t.fits=true->t.size<100000->l.length+t.size<200000->vads l t.occ <+: L->
  ∃v e,S 91 [t.av,.map m] (nH hp m l++ext)=some (.ret v,nH hp m (vads l t.occ)++(ext++e))/\NumR v (Tm.sub (cPos L) t) (hp.length+ext.length) (nH hp m (vads l t.occ)++(ext++e)):=by
 intro t
 induction t using Tm.zA6 with
 |h t ih=>
  intro l L ext hf ht hl hp2;have hts:=t.size_eq;have hlen:=Tm.zA5 t.args;obtain⟨n,hn⟩:∃n,n=hp.length+ext.length:=⟨_,rfl⟩;obtain⟨P,hP⟩:∃P:List Int->Heap,P=fun l=>nH hp m l++ext:=⟨_,rfl⟩;have hPs:∀l,nH hp m l++ext=P l:=fun l=>by rw[hP]
  have hPa:∀l X,nH hp m l++(ext++X)=P l++X:=fun l X=>by grind
  have hPl:∀l,(P l).length=n:=fun l=>by grind [NI]
  have hPm:∀l X,(P l++X)[m]? =some (.map none (Ya (posF 0 l))):=fun l X=>by grind [NJ]
  have hPsm:∀l l' X,(P l++X).set m (.map none (Ya (posF 0 l')))=P l'++X:=fun l l' X=>by grind [NK]
  simp only[<-hn];simp only[hPa,hPs];rw[Tm.zA8] at hp2 ⊢;have hb:zT A0 [0,1,2] [P4 t.kind,P4 t.n,P6 t.name]=some (.agg [(none,P4 t.kind),(none,P4 t.n),(none,P6 t.name),(none,.tsl (some 4) [])]):=rfl;by_cases hk:t.kind=0
  ·rw[Zh hk] at hp2 ⊢;have hk':=Zg hk;obtain⟨vn,va⟩:=NL hf hk;have hta:Tm.pvs t.args=[]:=by rw[va];rfl
   have e1:vads l [t.n]=vadd l t.n:=rfl;rw[e1] at hp2 ⊢;have e2:Tm.sub (cPos L) t=tvar ((vadd l t.n).idxOf t.n:Nat):=by
    grind [Tm.zBe,cPos,Vs,gl]
   rw[e2];have hz:∀k:Int,AV.upd deep (.agg [(none,P4 t.kind),(none,P4 t.n),(none,P6 t.name),(none,.sl (some 4) (n+5) 0 0 0)]) 1 none (P4 k)=some (.agg [(none,P4 t.kind),(none,P4 k),(none,P6 t.name),(none,.sl (some 4) (n+5) 0 0 0)]):=fun _=>rfl;by_cases hmem:t.n∈l
   ·have e:vadd l t.n=l:=by grind [vadd]
    rw[e];have hlk:∀X:Heap,YH false none (P4 0) true (P l++X) [.map m,P4 t.n]=some (.tuple [P4 ((l.idxOf t.n:Nat):Int),P5 true]):=fun X=>by
     grind [jx,Jj]
    obtain⟨k,hkk⟩:∃k:Int,k=((l.idxOf t.n:Nat):Int):=⟨_,rfl⟩;rw[<-hkk] at hlk ⊢;refine⟨sgg (tvar k) (n+5),[.box (some 4) (.pv (some 4) t.pv),.box (some 4) (sgg (tvar k) (n+5)),.arr (some 4) [] false,.box (some 4) (sgg (tvar k) (n+5)),.arr (some 4) [] false,.arr (some 4) [] false],?_,⟨n+5,false,by omega,rfl,by rw[getN (hPl _)];rfl⟩⟩;refine Yk rfl rfl rfl rfl ?_;rw[hPl];simp -dsimp -implicitDefEqProofs only[go_sem,seval,Tm.av,zO,Yd,zU,zK,hk',hta,hlk,Tm.pvs_len,hb,hz,zH (Zf _ _),zN,hPl,getN (hPl _),z7 (hPl _),setN (hPl _),Yi (hPl _)];refine Ye (α:=Unit) 0 (fun _ _=>True) (fun _ _=>⟨[(1,.map m),(4,.ptr (n+1) 0),(5,.ptr (n+3) 0),(38,.pv none (.sl (some 4) [])),(39,P4 0),(40,P4 0)],P l++[.box (some 4) (.pv (some 4) t.pv),.box (some 4) (.agg [(none,P4 0),(none,P4 0),(none,P6 []),(none,.sl (some 4) (n+2) 0 0 0)]),.arr (some 4) [] false,.box (some 4) (.agg [(none,P4 t.kind),(none,P4 k),(none,P6 t.name),(none,.sl (some 4) (n+5) 0 0 0)]),.arr (some 4) [] false,.arr (some 4) [] false]⟩) () ⟨trivial,rfl⟩ (by grind) ?_;rintro - -;have hc0:¬(0:Int)<(0:Int):=by decide
    simp -dsimp -implicitDefEqProofs only[go_sem,seval,hc0,zN,zH (Zf _ _),Y4 (Zf _ _),hPl,getN (hPl _),z7 (hPl _),setN (hPl _),Yi (hPl _)];rw[hk,vn];refine⟨rfl,?_⟩;rw[Zb (by simp[sgg,AV.refsIn,AV.refsIn.go])];rfl
   ·have e:vadd l t.n=l++[t.n]:=by grind [vadd]
    rw[e,Vt hmem];have hlk:∀X:Heap,YH false none (P4 0) true (P l++X) [.map m,P4 t.n]=some (.tuple [P4 0,P5 false]):=fun X=>by
     grind [jx,Jj]
    have hml:∀X:Heap,y7 (P l++X) [.map m]=some (P4 (l.length:Int)):=fun X=>by
     grind [y7,Ya,jv]
    have hms:∀X:Heap,yT false none (P l++X) [.map m,P4 t.n,P4 (l.length:Int)]=some (.undef,P (l++[t.n])++X):=fun X=>by
     have:=Vr t.n l 0 hmem
     grind [Q9,QG]
    obtain⟨k,hkk⟩:∃k:Int,k=(l.length:Int):=⟨_,rfl⟩;rw[<-hkk] at hml hms ⊢;refine⟨sgg (tvar k) (n+5),[.box (some 4) (.pv (some 4) t.pv),.box (some 4) (sgg (tvar k) (n+5)),.arr (some 4) [] false,.box (some 4) (sgg (tvar k) (n+5)),.arr (some 4) [] false,.arr (some 4) [] false],?_,⟨n+5,false,by omega,rfl,by rw[getN (hPl _)];rfl⟩⟩;refine Yk rfl rfl rfl rfl ?_;rw[hPl];simp -dsimp -implicitDefEqProofs only[go_sem,seval,Tm.av,zO,Yd,zU,zK,hk',hta,hlk,hml,hms,Tm.pvs_len,hb,hz,zH (Zf _ _),zN,hPl,getN (hPl _),z7 (hPl _),setN (hPl _),Yi (hPl _)];refine Ye (α:=Unit) 0 (fun _ _=>True) (fun _ _=>⟨[(1,.map m),(4,.ptr (n+1) 0),(5,.ptr (n+3) 0),(38,.pv none (.sl (some 4) [])),(39,P4 0),(40,P4 0)],P (l++[t.n])++[.box (some 4) (.pv (some 4) t.pv),.box (some 4) (.agg [(none,P4 0),(none,P4 0),(none,P6 []),(none,.sl (some 4) (n+2) 0 0 0)]),.arr (some 4) [] false,.box (some 4) (.agg [(none,P4 t.kind),(none,P4 k),(none,P6 t.name),(none,.sl (some 4) (n+5) 0 0 0)]),.arr (some 4) [] false,.arr (some 4) [] false]⟩) () ⟨trivial,rfl⟩ (by grind) ?_;rintro - -;have hc0:¬(0:Int)<(0:Int):=by decide
    simp -dsimp -implicitDefEqProofs only[go_sem,seval,hc0,zN,zH (Zf _ _),Y4 (Zf _ _),hPl,getN (hPl _),z7 (hPl _),setN (hPl _),Yi (hPl _)];rw[hk,vn];refine⟨rfl,?_⟩;rw[Zb (by simp[sgg,AV.refsIn,AV.refsIn.go])];rfl
  ·rw[Zb hk] at hp2 ⊢;have hk':=Zi hk;have e2:Tm.sub (cPos L) t=.mk t.kind t.n t.name (t.args.map (Tm.sub (cPos L))):=by grind [Tm.zBe]
   rw[e2];obtain⟨ts',hts'⟩:∃ts',ts'=t.args.map (Tm.sub (cPos L)):=⟨_,rfl⟩;have htl:ts'.length=t.args.length:=by grind
   rw[<-hts'];refine⟨.agg [(none,P4 t.kind),(none,P4 t.n),(none,P6 t.name),(none,.sl (some 4) (n+5) t.args.length 0 t.args.length)],
    [.box (some 4) (.pv (some 4) t.pv),.box (some 4) (.agg [(none,P4 t.kind),(none,P4 t.n),(none,P6 t.name),(none,.sl (some 4) (n+5) t.args.length 0 t.args.length)]),.arr (some 4) [] false,.box (some 4) (.agg [(none,P4 t.kind),(none,P4 t.n),(none,P6 t.name),(none,.sl (some 4) (n+5) t.args.length 0 t.args.length)]),.arr (some 4) [] false,.arr (some 4) (Tm.pvs ts') false],?_,⟨n+5,false,by omega,?_,?_⟩⟩
   ·refine Yk rfl rfl rfl rfl ?_;rw[hPl];simp -dsimp -implicitDefEqProofs only[go_sem,seval,Tm.av,zO,Yd,zU,zK,hk',Tm.pvs_len,hb,zH (Zf _ _),zN,hPl,getN (hPl _),z7 (hPl _),setN (hPl _),Yi (hPl _)];refine Ye (α:=Unit) t.args.length (fun _ _=>True) (fun i _=>⟨[(1,.map m),(4,.ptr (n+1) 0),(5,.ptr (n+3) 0),(38,.pv none (.sl (some 4) (Tm.pvs t.args))),(39,P4 t.args.length),(40,P4 i)],P (vads l (Tm.occs (t.args.take i)))++appC n t ts' i⟩) () ⟨trivial,?_⟩ ?_ ?_
    ·rw[zl];rfl
    ·rintro i - h -;have hc:(i:Int)<(t.args.length:Int):=by omega
     obtain⟨u,hu⟩:∃u,t.args[i]? =some u:=⟨_,Zd h⟩;have hum:=Zj hu;have husz:=Tm.zBb hum;have hst:=Tm.zBd hu;have hle2:=Tm.zBa t.args (i+1);have hvl:=xk (Tm.occs (t.args.take i)) l;have hol:=Tm.zBh (t.args.take i);have hpre:vads (vads l (Tm.occs (t.args.take i))) u.occ <+: L:=by
      grind [xQ,Tm.zBg,ZX,gm,jw]
     obtain⟨v,e,hcall,hcop0⟩:=ih u hum (vads l (Tm.occs (t.args.take i))) L (ext++(appC n t ts' i++[.box (some 4) (.pv (some 4) u.pv),.arr (some 4) [] false])) (Tm.zA7 hf hum) (by omega) (by omega) hpre;have hcop:CopR _ _ _ _:=.inr hcop0;rw[<-xQ,<-Tm.zBg hu] at hcall hcop;have hus:ts'[i]? =some (Tm.sub (cPos L) u):=by grind
     simp only[Zn,hPa] at hcall hcop;obtain⟨e2,he2,hfz⟩:∃e2,e2.length=e.length/\AV.freeze deep v (P (vads l (Tm.occs (t.args.take (i+1))))++(appC n t ts' i++([.box (some 4) (.pv (some 4) u.pv),.arr (some 4) [] false]++e)))=some ((Tm.sub (cPos L) u).pv,P (vads l (Tm.occs (t.args.take (i+1))))++(appC n t ts' i++([.box (some 4) (.pv (some 4) u.pv),.arr (some 4) [] false]++e2))):=by
      have h:=CopR.frz (B:=P (vads l (Tm.occs (t.args.take (i+1))))++(appC n t ts' i++[.box (some 4) (.pv (some 4) u.pv),.arr (some 4) [] false])) (e:=e) (v:=v) (u:=Tm.sub (cPos L) u) (n:=hp.length+(ext++(appC n t ts' i++([.box (some 4) (.pv (some 4) u.pv),.arr (some 4) [] false]:Heap))).length) (by grind) (by grind);simp_all
     have hvs:=hcop.shp;generalize vads l (Tm.occs (t.args.take (i+1)))=l2 at hcall hfz ⊢;generalize vads l (Tm.occs (t.args.take i))=l1 at hcall hvl ⊢;have w2:IntKind.i64.wrap ((i:Int)+1)=((i+1:Nat):Int):=by grind [zW]
     have hll:(Tm.pvs (ts'.take i)).length=i:=by grind [Tm.pvs_len]
     have hlim:i+1<=lim:=by grind [lim]
     have hbs:YZ (some 4) (P l2++(appC n t ts' i++([.box (some 4) (.pv (some 4) u.pv),.arr (some 4) [] false]++e))) [v]=some (.tsl (some 4) [(Tm.sub (cPos L) u).pv],P l2++(appC n t ts' i++([.box (some 4) (.pv (some 4) u.pv),.arr (some 4) [] false]++e2))):=by
      simp_all[YZ,zZ,YP]
     have hs1:∀(a a':List Int) (e e':Heap),Yx (P a++(appC n t ts' i++e)) (P a'++(appC n t ts' i++e')) (.ptr (n+3) 3)=true:=fun a a' e e'=>Jd (t:=t) (q:=n+5) (i:=i) (by rw[getN (hPl _)];rfl) (by rw[getN (hPl _)];rfl);simp only[Tm.av] at hcall;simp only[appC,Zn,Zs,Zv] at hcall hbs hs1;simp -dsimp -implicitDefEqProofs only[go_sem,seval,appC,hc,zQ (Tm.pvs_get hu),xi,ZK,ZW,ZO,ZQ,hcall,hbs,hs1,w2,hll,hlim,Tm.zA9 hus,zH (Zf _ _),Y4 (Zf _ _),hPl,getN (hPl _),z7 (hPl _),setN (hPl _),Yi (hPl _)];refine⟨(),?_⟩;rw[yF 6 (hPl _) rfl (by simp[AObj.refs,AV.ofComps,pures,AV.refsIn,AV.refsIn.go]) (by grind [AV.refsIn])];rfl
    ·rintro - -;have hc:¬(t.args.length:Int)<(t.args.length:Int):=by omega
     have htk:ts'.take t.args.length=ts':=Zl (by omega);simp -dsimp -implicitDefEqProofs only[go_sem,seval,appC,hc,ZF,htk,zN,zH (Zf _ _),Y4 (Zf _ _),hPl,getN (hPl _),z7 (hPl _),setN (hPl _),Yi (hPl _)]
     grind [AV.refsIn,AV.refsIn.go]
   ·unfold sgg;show _=AV.agg [(none,P4 t.kind),(none,P4 t.n),(none,P6 t.name),(none,.sl (some 4) (n+5) ts'.length 0 ts'.length)];rw[htl]
   ·rw[getN (hPl _)];rfl
structure Cz where
 head:Tm
 body:Tm
def Cz.pv(c:Cz):PV:=.agg [(some 4,c.head.pv),(some 4,c.body.pv)]
def Cz.av(c:Cz):AV:=.pv (some 8) c.pv
theorem YL(c:Cz):PV.part deep c.pv 0 (some 4)=some c.head.pv:=by cases c with|mk h b=>cases h;rfl
theorem YM(c:Cz):PV.part deep c.pv 4 (some 4)=some c.body.pv:=by cases c with|mk h b=>cases h;cases b;rfl
def Cz.vars(c:Cz):List Int:=vads [] (c.head.occ++c.body.occ)
def Cz.can(c:Cz):Cz:=⟨Tm.sub (cPos c.vars) c.head,Tm.sub (cPos c.vars) c.body⟩
theorem NM{u w:Tm}{q1 q2:Nat}{H:Heap}{z1 z2:Bool}(h1:H[q1]? =some (.arr (some 4) (Tm.pvs u.args) z1))(h2:H[q2]? =some (.arr (some 4) (Tm.pvs w.args) z2))(hne:q1≠q2):AV.freeze deep (.agg [(some 4,sgg u q1),(some 4,sgg w q2)]) H=some ((Cz.mk u w).pv,(H.set q1 (.arr (some 4) (Tm.pvs u.args) true)).set q2 (.arr (some 4) (Tm.pvs w.args) true)):=by
 have e:∀n l hp,AV.freeze (n+1) (.agg l) hp=match AV.freeze.go n l hp with|some (ps,hp')=>some (.agg ps,hp')|none=>none:=fun _ _ _=>rfl
 have h2':(H.set q1 (.arr (some 4) (Tm.pvs u.args) true))[q2]? =some (.arr (some 4) (Tm.pvs w.args) z2):=by grind
 show AV.freeze (7+1) (.agg _) _=_;simp[sgg,e,AV.freeze.go,AV.freeze,h1,h2',Tm.pvs_len];cases u;cases w;rfl
def zagV:AV:=.agg A0
def cN(c:Cz)(l:List Int)(a:AV):Heap:=[.box (some 8) (.pv (some 8) c.pv),.box (some 8) a,.map none (Ya (posF 0 l))]
theorem gq(c:Cz)(fh:c.head.fits=true)(fb:c.body.fits=true)(hz:c.head.size+c.body.size<90000)(hp:Heap):S 51 [c.av] hp=some (.ret (.tuple [c.can.av,P4 (c.vars.length:Int)]),hp):=by
 refine zM rfl rfl rfl (zJ [(some 8,c.pv)]) rfl ?_;obtain⟨L,hL⟩:∃L,L=c.vars:=⟨_,rfl⟩;have hLa:L=vads (vads [] c.head.occ) c.body.occ:=by rw[hL,Cz.vars,xQ]
 have hp1:vads [] c.head.occ <+: L:=by grind [jw]
 obtain⟨v1,e1,hc1,q1,z1,hq1,hv1,ha1⟩:=gn (cN c [] (.agg [(some 4,zagV),(some 4,zagV)])) 2 (by show 2<3;omega) c.head [] L [] fh (by omega) (by grind) hp1;have hl1:=xk c.head.occ [];have ho1:=Tm.occ_len c.head;simp only[zy] at hl1;obtain⟨v2,e2,hc2,q2,z2,hq2,hv2,ha2⟩:=gn (cN c (vads [] c.head.occ) (.agg [(some 4,v1),(some 4,zagV)])) 2 (by show 2<3;omega) c.body (vads [] c.head.occ) L e1 fb (by omega) (by omega) (by grind);rw[<-hLa] at hc2 ha2;have hcan:c.can=⟨Tm.sub (cPos L) c.head,Tm.sub (cPos L) c.body⟩:=by rw[hL];rfl
 obtain⟨u,hu⟩:∃u,u=Tm.sub (cPos L) c.head:=⟨_,rfl⟩;obtain⟨w,hw⟩:∃w,w=Tm.sub (cPos L) c.body:=⟨_,rfl⟩;rw[<-hu] at hv1 ha1 hcan;rw[<-hw] at hv2 ha2 hcan;subst hv1 hv2;rw[hcan,<-hL];have n1:∀(l l':List Int) (a:AV),nH (cN c l a) 2 l'=cN c l' a:=fun _ _ _=>rfl;simp only[n1,Zv,ZT] at hc1 hc2 ha1 ha2;have up0:AV.upd deep (.agg [(some 4,zagV),(some 4,zagV)]) 0 (some 4) (sgg u q1)=some (.agg [(some 4,sgg u q1),(some 4,zagV)]):=rfl;have up4:AV.upd deep (.agg [(some 4,sgg u q1),(some 4,zagV)]) 4 (some 4) (sgg w q2)=some (.agg [(some 4,sgg u q1),(some 4,sgg w q2)]):=rfl;simp only[zagV,sgg] at up0 up4;have st1:∀(l:List Int) (e:Heap),zL (some 4) 0 (cN c l (.agg [(some 4,zagV),(some 4,zagV)])++e) [.ptr 1 0,sgg u q1]=some (.undef,cN c l (.agg [(some 4,sgg u q1),(some 4,zagV)])++e):=fun l e=>by
  simp[zL,astore,cN,sgg,zagV,AV.plain,AV.shp,AV.own,zX,Y3,total,Sh.size,up0,up4]
 have st2:∀(l:List Int) (e:Heap),zL (some 4) 0 (cN c l (.agg [(some 4,sgg u q1),(some 4,zagV)])++e) [.ptr 1 4,sgg w q2]=some (.undef,cN c l (.agg [(some 4,sgg u q1),(some 4,sgg w q2)])++e):=fun l e=>by
  simp[zL,astore,cN,sgg,zagV,AV.plain,AV.shp,AV.own,zX,Y3,total,Sh.size,up0,up4]
 have st3:∀(l:List Int) (e:Heap),zL (some 8) 0 (cN c l (.agg [(some 4,sgg u q1),(some 4,sgg w q2)])++e) [.ptr 1 0,.agg [(some 4,sgg u q1),(some 4,sgg w q2)]]=some (.undef,cN c l (.agg [(some 4,sgg u q1),(some 4,sgg w q2)])++e):=fun l e=>by
  simp[zL,astore,cN,sgg,zagV,AV.plain,AV.shp,AV.own,zX,Y3,total,Sh.size]
 have g0:∀(l:List Int) (a:AV) (e:Heap),(cN c l a++e)[0]? =some (.box (some 8) (.pv (some 8) c.pv)):=fun _ _ _=>rfl;have g1:∀(l:List Int) (a:AV) (e:Heap),(cN c l a++e)[1]? =some (.box (some 8) a):=fun _ _ _=>rfl;have ml:∀(l:List Int) (a:AV) (e:Heap),y7 (cN c l a++e) [.map 2]=some (P4 (l.length:Int)):=fun l a e=>by
  simp[y7,cN,Ya,jv]
 have k0:Ya (posF 0 [])=[]:=rfl;have hc1':=hc1;simp only[cN,k0,zagV,Tm.av] at hc1';have hc3:S 91 [.pv (some 4) c.head.pv,.map 2] [.box (some 8) (.pv (some 8) c.pv),.box (some 8) (.agg [(some 4,.agg A0),(some 4,.agg A0)]),.map none []]=some (.ret (sgg u q1),cN c (vads [] c.head.occ) (.agg [(some 4,zagV),(some 4,zagV)])++e1):=hc1';simp only[Tm.av] at hc2;obtain⟨s1,hs1⟩:∃s1,s1=sgg u q1:=⟨_,rfl⟩;obtain⟨s2,hs2⟩:∃s2,s2=sgg w q2:=⟨_,rfl⟩;rw[<-hs1] at hc3 hc2 st1 st2 st3;rw[<-hs2] at hc2 st2 st3;clear hc1 hc1' up0 up4;simp -dsimp -implicitDefEqProofs only[go_sem,seval,Cz.av,YL,YM,hc3,hc2,st1,st2,st3,g0,g1,ml,zH (Za _)];obtain⟨j1,rfl⟩:∃j,q1=3+j:=⟨q1 - 3,by have:3<=q1:=hq1;omega⟩;obtain⟨j2,rfl⟩:∃j,q2=3+j:=⟨q2 - 3,by have:3+e1.length<=q2:=hq2;omega⟩;have g3:∀(l:List Int) (a:AV) (e:Heap) (j:Nat),(cN c l a++e)[3+j]? =e[j]? :=fun l a e j=>getN (l:=cN c l a) rfl j;rw[g3] at ha1 ha2;have hj1:=(Ze.1 ha1).1;have hq2':3+e1.length<=3+j2:=hq2;have h1:(cN c L (.agg [(some 4,s1),(some 4,s2)])++(e1++e2))[3+j1]? =some (.arr (some 4) (Tm.pvs u.args) z1):=by grind
 have h2:(cN c L (.agg [(some 4,s1),(some 4,s2)])++(e1++e2))[3+j2]? =some (.arr (some 4) (Tm.pvs w.args) z2):=by grind
 have hf:=NM h1 h2 (by omega);rw[<-hs1,<-hs2] at hf;have hr:∀H:Heap,H[1]? =some (.box (some 8) (.agg [(some 4,s1),(some 4,s2)]))->YI ⟨[(2,.ptr 1 0),(3,P4 (L.length:Int))],H⟩ (2,some (some 8))=some (.agg [(some 4,s1),(some 4,s2)]):=fun H h=>by
  simp[YI,Fr.look,aload,h]
 rw[hr _ (g1 _ _ _)];have hsh:(AV.agg [(some 4,s1),(some 4,s2)]).shp=some 8:=rfl;have e3:∀X,AV.freeze deep (P4 (L.length:Int)) X=some (.int .i64 (L.length:Int),X):=fun _=>rfl;obtain⟨HH,hHH⟩:∃HH,HH=cN c L (.agg [(some 4,s1),(some 4,s2)])++(e1++e2):=⟨_,rfl⟩;rw[<-hHH] at hf;show Am.frozen _ (.tuple [.agg [(some 4,s1),(some 4,s2)],P4 (L.length:Int)]) (cN c L (.agg [(some 4,s1),(some 4,s2)])++(e1++e2));rw[<-hHH];refine⟨(HH.set (3+j1) (.arr (some 4) (Tm.pvs u.args) true)).set (3+j2) (.arr (some 4) (Tm.pvs w.args) true),?_⟩;simp only[AV.freezeRes,zZ,hf,e3,hsh];rfl
def outD(F:FuncId->Option AFn)(prim:FuncId->Option z8)(rs:List RSlot)(s:Nat)(v:AV)(st:St)(p:PV)(st2:St):Prop:=
 ∃g fs cs,st.fr.look s=some (.func (.func g) fs cs)/\∃r hp' v',sem F prim .dfr g (.pv none p::(fs++cs)) st2.hp=some (.ret r,hp')/\Yp ⟨st2.fr,hp'⟩ rs=some v'/\Am.frozen v v' hp'
def outK(F:FuncId->Option AFn)(prim:FuncId->Option z8)(rs:List RSlot)(s:Nat)(v:AV)(st:St):AExit->St->Prop
 | .normal,st2=>outD F prim rs s v st .niliface st2
 | .ret,st2=>outD F prim rs s v st .niliface st2
 | .panic w,st2=>outD F prim rs s v st w st2
 | .exit _,_=>False
def dfrK(F:FuncId->Option AFn)(prim:FuncId->Option z8)(rs:List RSlot)(s:Nat)(c2:ACode)(v:AV):AExit->St->Prop
 | .normal,st=>(st.fr.look s).isSome=true/\W (sem F prim) (sloop F prim) 0 c2 st (outK F prim rs s v st)
 | .ret,st=>endK rs (Am.frozen v) .ret st
 |_,_=>False
theorem jy{F:FuncId->Option AFn}{prim:FuncId->Option z8}{rs:List RSlot}{s:Nat}{c2:ACode}{v:AV}{st:St}:dfrK F prim rs s c2 v .normal st=((st.fr.look s).isSome=true/\W (sem F prim) (sloop F prim) 0 c2 st (outK F prim rs s v st)):=rfl
theorem Jk{F:FuncId->Option AFn}{prim:FuncId->Option z8}{rs:List RSlot}{s:Nat}{c2:ACode}{v:AV}{st:St}:dfrK F prim rs s c2 v .ret st=endK rs (Am.frozen v) .ret st:=rfl
theorem jz{F:FuncId->Option AFn}{prim:FuncId->Option z8}{rs:List RSlot}{s:Nat}{v:AV}{st st2:St}:outK F prim rs s v st .ret st2=outD F prim rs s v st .niliface st2:=rfl
theorem jA{F:FuncId->Option AFn}{prim:FuncId->Option z8}{rs:List RSlot}{s:Nat}{v:AV}{st st2:St}{w:PV}:outK F prim rs s v st (.panic w) st2=outD F prim rs s v st w st2:=rfl
theorem gr{F:FuncId->Option AFn}{prim:FuncId->Option z8}{f:FuncId}{fn:AFn}{args:List AV}{ps:List (Sh × PV)}{hp:Heap}{v:AV}{s:Nat}{c2:ACode}(hp0:prim f=none)(hf:F f=some fn)(hm:fn.heapMode=false)(hz:zZ args hp=some (ps,hp))(hn:(pvs ps).length=fn.nparams)(hmo:fn.more=[(.dfr s,c2)])
  (h:W (sem F prim) (sloop F prim) 0 fn.code ⟨params 0 (pvs ps),[]⟩ (dfrK F prim fn.results s c2 v))(hr:fn.rcv=none:=by rfl):sem F prim .fn f args hp=some (.ret v,hp):=by
 rw[XO];unfold Y1;rw[hp0,hf];have hl:([]:Heap).length=0:=rfl
 suffices hB:∃v' hp2,abody (sem F prim) (sloop F prim) fn (pvs ps) []=some (.ret v',hp2)/\Am.frozen v v' hp2 by
  obtain⟨v',hp2,h1,hp3,h2⟩:=hB
  grind
 unfold abody;rw[Zb (by grind),hmo];simp only[hl];unfold W at h;split at h
 ·rename_i e st1 he;cases e with
  |normal=>
   obtain⟨-,hW⟩:=h;unfold W at hW;split at hW
   ·rename_i e2 st2 he2;have fin:∀p:Option PV,outD F prim fn.results s v st1 (p.getD .niliface) st2->∀e:AExit,(e=.normal\/e=.ret->p=none)->(∀w,e=.panic w->p=some w)->(∀i,e≠.exit i)->e=e2->∃v' hp2,aleave (sem F prim) fn (apieces (sem F prim) (sloop F prim) 0 [(.dfr s,c2)] fn.code ⟨params 0 (pvs ps),[]⟩ [])=some (.ret v',hp2)/\Am.frozen v v' hp2:=by
     rintro p ⟨g,fs,cs,k1,r,hp',v',k2,k3,k4⟩ e n1 n2 n3 rfl;refine⟨v',hp',?_,k4⟩;have k5:atop (sem F prim) (.dfr s) st1 []=some (.normal,st1,[.func (.func g) fs cs]):=by grind [atop]
     have ka:apieces (sem F prim) (sloop F prim) 0 [(.dfr s,c2)] fn.code ⟨params 0 (pvs ps),[]⟩ []=some (e,st2,[.func (.func g) fs cs]):=by
      grind [apieces]
     have ku:∀p':Option PV,p'=p->aunwind (sem F prim) [.func (.func g) fs cs] p' st2.hp=some (none,hp'):=by
      grind [aunwind,yp]
     rw[ka];cases e with
     |normal=>grind [aleave,aresult]
     |ret=>grind [aleave,aresult]
     |panic w=>grind [aleave,aresult]
     |exit i=>grind
    cases e2 with
    |normal=>exact fin none hW .normal (fun _=>rfl) (fun w e=>by cases e) (fun i e=>by cases e) rfl
    |ret=>exact fin none hW .ret (fun _=>rfl) (fun w e=>by cases e) (fun i e=>by cases e) rfl
    |panic w=>exact fin (some w) hW (.panic w) (fun e=>by grind) (fun w e=>by grind) (fun i e=>by cases e) rfl
    |exit i=>exact hW.elim
   grind
  |ret=>
   rw[Jk,XR] at h;cases hr:Yp st1 fn.results with
   |none=>rw[hr] at h;exact h.elim
   |some u=>
    rw[hr] at h;exact⟨u,st1.hp,by simp_all[aleave,apieces,aunwind,aresult],h⟩
  |exit i=>exact h.elim
  |panic v=>exact h.elim
 grind
def gt(n:Nat)(H:Heap):AExit->St->Prop
 | .normal,st=>st.hp.take n=H
 | .ret,st=>st.hp.take n=H
 |_,_=>False
theorem QH{n:Nat}{H:Heap}{st:St}:gt n H .normal st=(st.hp.take n=H):=rfl
theorem QI{F:FuncId->Option AFn}{prim:FuncId->Option z8}{g:FuncId}{fn:AFn}{ws:List AV}{hp H:Heap}{s:Sh}{p:PV}{t:Nat}(hf:F g=some fn)(hr:fn.rcv=some t)(hmo:fn.more=[])(hn:ws.length=fn.nparams)
  (h:W (sem F prim) (sloop F prim) hp.length fn.code ⟨(t,.pv s p)::params 0 ws,hp⟩ (gt hp.length H)):sem F prim .dfr g (.pv s p::ws) hp=some (.ret (.tuple []),H):=by
 rw[Hz];unfold adefer;simp only[hf,hr,hmo,hn,ne_eq,not_true_eq_false,if_false];unfold W at h;split at h
 ·rename_i e st he;rw[he];cases e with
  |normal=>rw[<-h]
  |ret=>rw[<-h]
  |exit i=>exact h.elim
  |panic v=>exact h.elim
 grind
def endA(rs:List RSlot)(n:Nat)(P:ARes->Heap->Prop):AExit->St->Prop
 | .panic v,st=>P (.panic v) (st.hp.take n)
 |e,st=>endK rs (fun v' h'=>P (.ret v') (if v'.refsIn.all (fun q=>decide (q<n))=true then h'.take n else h')) e st
theorem YB(rs:List RSlot)(n:Nat)(P:ARes->Heap->Prop)(v:PV)(st:St):endA rs n P (.panic v) st=P (.panic v) (st.hp.take n):=rfl
theorem YN(rs:List RSlot)(n:Nat)(P:ARes->Heap->Prop)(st:St):endA rs n P .ret st=endK rs (fun v' h'=>P (.ret v') (if v'.refsIn.all (fun q=>decide (q<n))=true then h'.take n else h')) .ret st:=rfl
theorem YO(rs:List RSlot)(n:Nat)(P:ARes->Heap->Prop)(st:St):endA rs n P .normal st=endK rs (fun v' h'=>P (.ret v') (if v'.refsIn.all (fun q=>decide (q<n))=true then h'.take n else h')) .normal st:=rfl
theorem qe{F:FuncId->Option AFn}{prim:FuncId->Option z8}{f:FuncId}{fn:AFn}{args:List AV}{hp:Heap}(P:ARes->Heap->Prop)(hp0:prim f=none)(hf:F f=some fn)(hm:fn.heapMode=true)(hn:args.length=fn.nparams)
  (h:W (sem F prim) (sloop F prim) hp.length fn.code ⟨params 0 args,hp⟩ (endA fn.results hp.length P))(hr:fn.rcv=none:=by rfl)(hmo:fn.more=[]:=by rfl):∃v hp',sem F prim .fn f args hp=some (v,hp')/\P v hp':=by
 rw[XO];unfold Y1;rw[hp0,hf];simp only[hr,hmo,zz,ZV,if_false,hm,if_true,abody,hn,ne_eq,not_true_eq_false,if_false];unfold W at h;split at h
 ·rename_i e st' he;rw[he];cases e with
  |normal=>
   rw[YO,xg] at h;cases hr:Yp st' fn.results with
   |none=>rw[hr] at h;exact h.elim
   |some u=>rw[hr] at h;exact⟨_,_,by grind,h⟩
  |ret=>
   rw[YN,XR] at h;cases hr:Yp st' fn.results with
   |none=>rw[hr] at h;exact h.elim
   |some u=>rw[hr] at h;exact⟨_,_,by grind,h⟩
  |exit i=>exact h.elim
  |panic v=>exact⟨_,_,rfl,h⟩
 grind
theorem xR{sh:Sh}{hp:Heap}(l:List (Sh × AV)):wBox sh hp [.agg l]=if some (total l)=sh then kS sh hp.length (zX l (hp++[.box sh (.agg l)])) else none:=by
 simp only[wBox,AV.plain,AV.shp,true_and,AV.own];rfl
def zt:Tm:=.mk 0 0 [] []
theorem NN(H:Heap):sem (find tab) prim .dfr 89 [.pv none .niliface,.ptr 1 0,.ptr 3 0] H=some (.ret (.tuple []),H):=by
 refine QI (t:=5) rfl rfl rfl rfl ?_;have hin:X3 true [.pv none .niliface]=some (P5 false):=rfl;simp -dsimp -implicitDefEqProofs only[go_sem,seval,hin,QH]
 try simp
def zG:AV:=.agg A0
theorem NO(x0 x2:AObj)(v:AV)(c:Bool):sem (find tab) prim .dfr 89 [.pv none noG,.ptr 1 0,.ptr 3 0] [x0,.box (some 4) v,x2,.box none (P5 c)]=some (.ret (.tuple []),[x0,.box (some 4) zG,x2,.box none (P5 false)]):=by
 refine QI (t:=5) rfl rfl rfl rfl ?_;have hin:X3 true [.pv none noG]=some (P5 true):=rfl;have has:∀z,yR 116 (some 0) z true [.pv none noG]=some (.tuple [.pv (some 0) (.agg []),P5 true]):=fun _=>rfl;have hz0:zT A0 [] []=some zG:=rfl;have hst:∀X:AObj,zL (some 4) 4 [x0,.box (some 4) v,x2,.box none (P5 c),X] [.ptr 1 0,zG]=some (.undef,[x0,.box (some 4) zG,x2,.box none (P5 c),X]):=fun X=>by
  simp[zL,astore,zG,AV.plain,AV.shp,AV.refsIn,AV.refsIn.go,total,Sh.size]
 simp -dsimp -implicitDefEqProofs only[go_sem,seval,hin,has,hz0,hst,QH,zH (Za _)]
 try rfl
def cv(t:Tm):Option Tm:=cvF t.size t
theorem gu(t:Tm)(hv:t.valid=true)(hp:Heap):S 49 [t.av] hp=some (.ret (.tuple [((cv t).getD zt).av,.pv none (.bool (cv t).isSome)]),hp):=by
 refine gr rfl rfl rfl (zJ [(some 4,t.pv)]) rfl rfl ?_;have h1:=fun hp=>Nz t.size t (Zc _) hv hp;have hz0:zT A0 [] []=some zG:=rfl;unfold cv;cases e:cvF t.size t with
 |none=>
  rw[e] at h1;simp only[resB,Tm.av] at h1;simp -dsimp -implicitDefEqProofs only[go_sem,seval,Tm.av,h1,hz0,(fun A=>rfl:∀A:Prop,panK true A=A),zH (Za _),zN,Jk,jy,jz,jA];refine⟨rfl,89,[],[.ptr 1 0,.ptr 3 0],rfl,_,_,_,NO _ _ _ _,rfl,?_⟩;exact⟨_,rfl⟩
 |some g=>
  rw[e] at h1;simp only[resB,Tm.av] at h1;simp -dsimp -implicitDefEqProofs only[go_sem,seval,Tm.av,h1,hz0,(fun A=>rfl:∀A:Prop,panK true A=A),zH (Za _),zN,Jk,jy,jz,jA];refine⟨rfl,89,[],[.ptr 1 0,.ptr 3 0],rfl,_,_,_,NN _,rfl,?_⟩;exact⟨_,rfl⟩
def yG(t:Tm):Option Tm:=if t.valid=true then match cv t with
 |some g=>if 2000<g.size then none else some g
 |none=>none
 else none
theorem gv:∀(n:Nat) (t g:Tm),cvF n t=some g->g.size<=2*t.size:=by
 intro n
 induction n with
 |zero=>intro t g h;cases h
 |succ n ih=>
  intro t g h;rw[cvF] at h;split at h
  ·cases h;rw[Tm.size_eq];show 1+(t.size+0)<=_;have:=t.size_eq;omega
  ·split at h
   ·split at h
    ·rename_i a b hab;split at h
     ·cases h
     ·rename_i x hx;split at h
      ·cases h
      ·rename_i y hy;cases h;have h1:=ih _ _ hx;have h2:=ih _ _ hy;have e:t.size=1+(a.size+(b.size+0)):=by rw[Tm.size_eq,hab];rfl
       rw[Tm.size_eq];show 1+(x.size+(y.size+0))<=_;omega
    grind
   grind
theorem P1:zT A0 [] []=some (.agg A0):=rfl
theorem NP(t:Tm)(hz:t.size<100000000)(hp:Heap):S 95 [t.av] hp=some (.ret (.tuple [((yG t).getD zt).av,.pv none (.bool (yG t).isSome)]),hp):=by
 refine zM rfl rfl rfl (zJ [(some 4,t.pv)]) rfl ?_;have h1:=fun hp=>Y8 t hp (by omega);have hz0:=P1;simp only[Tm.av] at h1;by_cases hv:t.valid=true
 rotate_left
 ·have hv':t.valid=false:=by grind
  have e:yG t=none:=by grind [yG]
  rw[e];simp -dsimp -implicitDefEqProofs only[go_sem,seval,Tm.av,h1,hv',hz0,zH (Za _)];exact⟨_,rfl⟩
 have h2:=fun hp=>gu t hv hp;have vz:=valid_size hv;cases ec:cv t with
 |none=>
  have e:yG t=none:=by grind [yG]
  rw[ec] at h2;simp only[Option.getD_none,zz,Tm.av] at h2;rw[e];simp -dsimp -implicitDefEqProofs only[go_sem,seval,Tm.av,h1,h2,hv,hz0,zH (Za _)];exact⟨_,rfl⟩
 |some g=>
  have gz:=gv _ _ _ ec;rw[ec] at h2;have h3:=fun hp=>qa g hp (by omega);simp only[zx,Option.isSome_some,Tm.av] at h2 h3;by_cases hg:2000<g.size
  ·have e:yG t=none:=by grind [yG]
   have hm:min g.size 2001=2001:=by omega
   rw[hm] at h3;have hc:(2000:Int)<((2001:Nat):Int):=by decide
   rw[e];simp -dsimp -implicitDefEqProofs only[go_sem,seval,Tm.av,h1,h2,h3,hc,hv,hz0,zH (Za _)];exact⟨_,rfl⟩
  ·have e:yG t=some g:=by grind [yG]
   have hm:min g.size 2001=g.size:=by omega
   rw[hm] at h3;have hc:¬(2000:Int)<(g.size:Int):=by omega
   rw[e];simp -dsimp -implicitDefEqProofs only[go_sem,seval,Tm.av,h1,h2,h3,hc,hv,hz0,zH (Za _)];exact⟨_,rfl⟩
theorem QJ{L:List Int}:∀t:Tm,t.fits=true->(Tm.sub (cPos L) t).size=t.size:=by
 intro t
 induction t using Tm.zA6 with
 |h t ih=>
  intro hf;rw[Tm.zBe];by_cases hk:t.kind=0
  ·rw[Zh hk,yx hf hk];rfl
  ·rw[Zb hk,Tm.size_eq,t.size_eq]
   congr 1
   have hargs:∀u∈t.args,(Tm.sub (cPos L) u).size=u.size:=fun u hu=>ih u hu (Tm.zA7 hf hu);show Tm.sizes (t.args.map (Tm.sub (cPos L)))=_;generalize t.args=l at hargs;clear ih
   induction l with
   |nil=>rfl
   |cons x r ihl=>
    grind [Tm.sizes]
theorem gw(c:Cz)(h1:c.head.size<100000000)(h2:c.body.size<100000000)(hp:Heap):S 50 [c.av] hp=some (.ret (P5 (decide (c.head.size+c.body.size<=2000))),hp):=by
 refine zM rfl rfl rfl (zJ [(some 8,c.pv)]) rfl ?_;have a1:=fun hp=>qa c.head hp (by omega);have a2:=fun hp=>qa c.body hp (by omega);have w1:IntKind.i64.wrap (((min c.head.size 2001:Nat):Int)+((min c.body.size 2001:Nat):Int))=((min c.head.size 2001+min c.body.size 2001:Nat):Int):=by grind [zW]
 simp only[Tm.av] at a1 a2;have e:decide (c.head.size+c.body.size<=2000)=decide (((min c.head.size 2001+min c.body.size 2001:Nat):Int)<=2000):=by
  grind
 rw[e];simp -dsimp -implicitDefEqProofs only[go_sem,seval,Cz.av,YL,YM,a1,a2,w1]
def okC(c:Cz):Bool:=c.head.valid && ((decide (c.head.kind=2) || decide (c.head.kind=3)) && (decide (c.head.size+c.body.size<=2000) && ((match yG c.body with|some g=>same g c.body|none=>false) && (decide (c.vars.length<=64) && (same c.can.head c.head && same c.can.body c.body)))))
theorem gx{t g:Tm}(h:yG t=some g):t.valid=true/\g.size<=2000:=by
 grind [yG]
set_option maxRecDepth 20000 in
theorem xS(c:Cz)(z1:c.head.size<100000000)(z2:c.body.size<100000000)(hp:Heap):S 55 [c.av] hp=some (.ret (P5 (okC c)),hp):=by
 refine zM rfl rfl rfl (zJ [(some 8,c.pv)]) rfl ?_;have h1:=fun hp=>Y8 c.head hp (by omega);have h2:=fun hp=>Vn c.head hp;have h3:=fun hp=>gw c z1 z2 hp;have h4:=fun hp=>NP c.body z2 hp;simp only[Tm.av,Cz.av] at h1 h2 h3 h4;by_cases b1:c.head.valid=true
 rotate_left
 ·have b1':c.head.valid=false:=by grind
  have e:okC c=false:=by grind [okC]
  rw[e];simp -dsimp -implicitDefEqProofs only[go_sem,seval,Cz.av,YL,YM,h1,b1']
  done
 cases b2:(decide (c.head.kind=2) || decide (c.head.kind=3)) with
 |false=>
  have e:okC c=false:=by grind [okC]
  rw[e];rw[b2] at h2;simp -dsimp -implicitDefEqProofs only[go_sem,seval,Cz.av,YL,YM,h1,b1,h2]
  done
 |true=>
 rw[b2] at h2;cases b3:decide (c.head.size+c.body.size<=2000) with
 |false=>
  have e:okC c=false:=by grind [okC]
  rw[e];rw[b3] at h3;simp -dsimp -implicitDefEqProofs only[go_sem,seval,Cz.av,YL,YM,h1,b1,h2,h3]
  done
 |true=>
 rw[b3] at h3;have b3':=Z8 b3;cases b4:yG c.body with
 |none=>
  have e:okC c=false:=by grind [okC]
  rw[e];rw[b4] at h4;simp only[Option.getD_none,zz,Tm.av] at h4;simp -dsimp -implicitDefEqProofs only[go_sem,seval,Cz.av,YL,YM,h1,b1,h2,h3,h4,zH (Za _)]
  done
 |some g=>
 obtain⟨vb,zg⟩:=gx b4;rw[b4] at h4;have h5:=fun hp=>QE g c.body hp (by omega) (by omega);have fh:=valid_fits b1;have fb:=valid_fits vb;have h6:=fun hp=>gq c fh fb (by omega) hp;have zh:c.can.head.size=c.head.size:=QJ _ fh;have zb:c.can.body.size=c.body.size:=QJ _ fb;have h7:=fun hp=>QE c.can.head c.head hp (by omega) (by omega);have h8:=fun hp=>QE c.can.body c.body hp (by omega) (by omega);simp only[zx,Option.isSome_some,Tm.av,Cz.av] at h4 h5 h6 h7 h8;cases b5:same g c.body with
 |false=>
  have e:okC c=false:=by grind [okC]
  rw[e];rw[b5] at h5;simp -dsimp -implicitDefEqProofs only[go_sem,seval,Cz.av,YL,YM,h1,b1,h2,h3,h4,h5,zH (Za _)]
  done
 |true=>
 rw[b5] at h5;have e:okC c=(decide (c.vars.length<=64) && (same c.can.head c.head && same c.can.body c.body)):=by grind [okC]
 rw[e];by_cases b6:c.vars.length<=64
 ·have b6':(c.vars.length:Int)<=64:=by omega
  cases b7:same c.can.head c.head with
  |false=>
   rw[b7] at h7;simp -dsimp -implicitDefEqProofs only[go_sem,seval,Cz.av,YL,YM,h1,b1,h2,h3,h4,h5,h6,h7,b6,b6',zH (Za _)]
   done
  |true=>
   rw[b7] at h7;simp -dsimp -implicitDefEqProofs only[go_sem,seval,Cz.av,YL,YM,h1,b1,h2,h3,h4,h5,h6,h7,h8,b6,b6',zH (Za _)]
   done
 ·have b6':¬(c.vars.length:Int)<=64:=by omega
  simp -dsimp -implicitDefEqProofs only[go_sem,seval,Cz.av,YL,YM,h1,b1,h2,h3,h4,h5,h6,b6,b6',zH (Za _)]
  done
end Go.Proofs.YtgedfopkiebjkaaGreatDoor
