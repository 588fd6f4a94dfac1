/- What is proved: the program's clone of bindings. -/
import Derived.Test.YtffecaafklpmhaaGreatStk
import Derived.Test.YtffecaafklpmhaaGreatRv
import Derived.Test.YtffecaafklpmhaaGreatAm4
set_option linter.unusedSimpArgs false
set_option linter.unusedVariables false
namespace Go.Proofs.YtffecaafklpmhaaGreat
open Go.Am
def Bq(hp:Heap):Prop:=∀x∈hp,AObj.beq x x=true
theorem Bq.same:∀{hp:Heap},Bq hp->XB hp hp=true
 |[],_=>rfl
 |x::r,h=>by
  show(AObj.beq x x && XB r r)=true;rw[h x Zv,Bq.same (hp:=r) fun y hy=>h y (Zu _ hy)];rfl
theorem Bq.app{a b:Heap}(h1:Bq a)(h2:Bq b):Bq (a++b):=fun x hx=>(Zr.1 hx).elim (h1 x) (h2 x)
theorem Bq.cons{x:AObj}{b:Heap}(h1:AObj.beq x x=true)(h2:Bq b):Bq (x::b):=fun y hy=>(Zt.1 hy).elim (fun e=>e▸h1) (h2 y)
theorem Bq.nil:Bq []:=fun _ h=>by cases h
theorem Bq.set{hp:Heap}(h:Bq hp)(i:Nat){x:AObj}(hx:AObj.beq x x=true):Bq (hp.set i x):=fun y hy=>by
 rcases List.mem_or_eq_of_mem_set hy with h1|rfl
 ·exact h y h1
 ·exact hx
theorem jK(t:Tm):AObj.beq (.box (some 4) (.pv (some 4) t.pv)) (.box (some 4) (.pv (some 4) t.pv))=true:=by simp[AObj.beq,AV.beq,jr]
theorem GW{es:List PV}(h:∀x∈es,PV.beq x x=true):PV.beqs es es=true:=by
 induction es with
 |nil=>rfl
 |cons x r ih=>
  show(PV.beq x x && PV.beqs r r)=true;rw[h x Zv,ih fun y hy=>h y (Zu _ hy)];rfl
theorem GX(b:B):PV.beq (bdp b) (bdp b)=true:=by simp[bdp,PV.beq,PV.beqc,jr]
theorem Vo(l:List B)(z:Bool):AObj.beq (.arr (some 5) (bds l) z) (.arr (some 5) (bds l) z)=true:=by
 have:PV.beqs (bds l) (bds l)=true:=GW fun x hx=>by
  obtain⟨b,_,rfl⟩:=Z2.1 hx;exact GX b
 simp[AObj.beq,this]
theorem m8{v:AV}{hp:Heap}{K:AV->Heap->Prop}(h:XB hp hp=true):jf (some (.ret v,hp)) hp K=K v hp:=by
 simp[jf,h]
theorem m9{Γ:Oracle}{b:Nat}{s:Sh}{f:FuncId}{vs:List AV}{v:AV}{hp:Heap}{K:AV->Heap->Prop}{Kp:PV->Heap->Prop}(hc:Γ .fn f vs hp=some (.ret v,hp))(h:XB hp hp=true):opK (aOp Γ b .callg (.pv s (.func (.func f))::vs) hp) K Kp=K v hp:=by
 have h2:XB (hp.take hp.length) hp=true:=by rw[ZC];exact h
 simp[aOp,Qj,yl,yB,hc,h];rfl
theorem Na(l:List B)(hG:Good l)(hl:l.length<90000000)(hp:Heap)(hb:Bq hp):
  S 121 [.pv none (.sl (some 5) (bds l))] hp=some (.ret (.sl (some 5) (hp.length+1) l.length 0 l.length),hp++[.arr (some 5) [] false,.arr (some 5) (bds l) false]):=by
 refine YR rfl rfl rfl rfl ?_;have hn0:=O5;simp -dsimp -implicitDefEqProofs only[go_sem,seval,↓reduceIte,hn0,Yk,Zd,zW,z6,z7,z9,Zh,Zc];refine Yv (α:=Unit) l.length (fun i _=>True) (fun i _=>⟨[(3,.sl (some 5) (hp.length+1) i 0 i),(6,.pv none (.sl (some 5) (bds l))),(7,O8 l.length),(8,O8 i)],hp++[.arr (some 5) [] false,.arr (some 5) (bds (l.take i)) false]⟩) () ⟨trivial,rfl⟩ ?_ ?_
 ·rintro i - h -;have hc:(i:Int)<(l.length:Int):=by omega
  obtain⟨b,hbb⟩:∃b,l[i]? =some b:=⟨_,Zf h⟩;have hbv:=hG.2 b (Zk hbb);have w2:=O0 i (by omega)
  have hlim:i+1<=lim:=by unfold lim;omega
  have htl:(bds (l.take i)).length=i:=by rw[Yk,Zn];omega
  have hcl:=fun hp=>XU b.2 hp hbv.1 hbv.2;simp only[Tm.av] at hcl;have hbd:Ym A3 [0,1] [O8 b.1,.pv (some 4) b.2.pv]=some (.pv (some 5) (bdp (b.1,b.2))):=rfl;have hsh:XB (hp++[.arr (some 5) [] false,.arr (some 5) (bds (l.take i)) false,.box (some 5) (.pv (some 5) (bdp b))]) (hp++[.arr (some 5) [] false,.arr (some 5) (bds (l.take i)) false,.box (some 5) (.pv (some 5) (bdp b))])=true:=
   (hb.app (Bq.cons (Vo [] false) (Bq.cons (Vo _ _) (Bq.cons (by simp[AObj.beq,AV.beq,GX]) Bq.nil)))).same
  have happ:YN (some 5) (hp++[.arr (some 5) [] false,.arr (some 5) (bds (l.take i)) false,.box (some 5) (.pv (some 5) (bdp b))]) [.sl (some 5) (hp.length+1) i 0 i,.tsl (some 5) [bdp (b.1,b.2)]]=some (.sl (some 5) (hp.length+1) (i+1) 0 (i+1),hp++[.arr (some 5) [] false,.arr (some 5) (bds (l.take (i+1))) false,.box (some 5) (.pv (some 5) (bdp b))]):=by
   have e:bds (l.take (i+1))=bds (l.take i)++[bdp (b.1,b.2)]:=by rw[xU hbb];simp[bds]
   rw[kk (by rw[getN rfl];exact⟨rfl,htl⟩) (by simpa using hlim),e];simp;rfl
  simp -dsimp -implicitDefEqProofs only[go_sem,seval,↓reduceIte,hc,zY (Yx hbb),Y3,yY,w2,hbd,hcl,m8 hsh,happ,Zd,zW,z6,z7,z9,Zh,Zc];refine⟨(),?_⟩;rw[Xd 2 rfl rfl (by simp[AObj.refs]) (by simp[AV.refsIn])];rfl
 ·rintro - -;have hc:¬(l.length:Int)<(l.length:Int):=by omega
  simp -dsimp -implicitDefEqProofs only[go_sem,seval,↓reduceIte,hc,Zd,zW,z6,z7,z9,Zh,Zc];rw[Za (by simp[AV.refsIn]),ZC]
def prP(p:Tm × Tm):PV:=.agg [(some 4,p.1.pv),(some 4,p.2.pv)]
def prs(r:List (Tm × Tm)):List PV:=r.map prP
theorem Vp(p:Tm × Tm):PV.beq (prP p) (prP p)=true:=by simp[prP,PV.beq,PV.beqc,jr]
theorem jL(p:Tm × Tm):PV.part deep (prP p) 0 (some 4)=some p.1.pv:=rfl
theorem jM(p:Tm × Tm):PV.part deep (prP p) 4 (some 4)=some p.2.pv:=rfl
theorem Nb{es:List PV}(h:∀x∈es,PV.beq x x=true):AObj.beq (.arr (some 8) es false) (.arr (some 8) es false)=true:=by
 simp[AObj.beq,GW h]
theorem Nc{hp:Heap}(hb:Bq hp)(q r:Nat)(l:List B):Bq (US hp q r l):=by
 unfold US;exact(hb.set q (by simp[AObj.beq,AV.beq,AV.beqc])).set r (Vo l false)
def InV(V:List Int)(t:Tm):Prop:=∀w∈t.occ,w∈V
def InVB(V:List Int)(l:List B):Prop:=∀b∈l,b.1∈V/\InV V b.2
theorem InV.arg{V:List Int}{t u:Tm}(h:InV V t)(hk:¬t.kind=0)(hu:u∈t.args):InV V u:=fun w hw=>h w (Tm.zy7 hk hu hw)
theorem InV.var{V:List Int}{t:Tm}(h:InV V t)(hk:t.kind=0):t.n∈V:=h _ (by rw[Tm.zyW,Zb hk];simp)
theorem InV.flw{V:List Int}{l:List B}(hO:OKB l)(hb:InVB V l):∀(k:Nat) (u:Tm),mu l u=k->u.valid=true->InV V u->InV V (flw l u):=by
 intro k
 induction k using Nat.strongRecOn with
 |_ k ih=>
  intro u hk hv h;by_cases hk0:u.kind=0
  ·by_cases hf:fndB l u.n=true
   ·rw[QH hO.Acyc hk0 hf];have:=yZ hO.Acyc hk0 hf;exact ih _ (by omega) _ rfl (hO.to hf).1 (hb _ (find_mem hf)).2
   ·rw[QI hO.Acyc (valid_fits hv) hk0 hf];exact h
  ·rw[xV l hk0];exact h
theorem InVB.len{V:List Int}{l:List B}(hG:Good l)(hb:InVB V l):l.length<=V.length:=by
 have h1:(l.map (·.1)).Nodup:=by
  refine List.pairwise_map.2 (hG.1.imp fun{a b} h=> ?_);omega
 have h2:=Vg (l.map (·.1)) V h1 fun x hx=>by
  obtain⟨b,hb1,rfl⟩:=Z2.1 hx;exact(hb b hb1).1
 rwa [ZO] at h2
theorem GY{V:List Int}{l:List B}{x y:Tm}(hx:InV V x)(hy:InV V y){v:Int}{t:Tm}(h:ustep l x y=.bind v t):v∈V/\InV V t:=by
 unfold ustep at h;split at h
 ·rename_i hk;split at h
  ·cases h;exact⟨hx.var hk.1,hy⟩
  ·split at h
   ·cases h;exact⟨hy.var hk.2,hx⟩
   ·cases h
 ·split at h
  ·rename_i hk;split at h
   ·cases h
   ·cases h;exact⟨hx.var hk,hy⟩
  ·split at h
   ·rename_i hk;split at h
    ·cases h
    ·cases h;exact⟨hy.var hk,hx⟩
   ·split at h <;> cases h
theorem GZ{V:List Int}{l:List B}{x y:Tm}(hx:InV V x)(hy:InV V y){xs:List (Tm × Tm)}(h:ustep l x y=.args xs):∀p∈xs,InV V p.1/\InV V p.2:=by
 unfold ustep at h;split at h
 ·split at h
  ·cases h
  ·split at h
   ·cases h
   ·cases h;exact fun p hp=>by cases hp
 ·split at h
  ·split at h <;> cases h
  ·split at h
   ·split at h <;> cases h
   ·split at h
    ·rename_i hk1 hk2 _;cases h;exact fun p hp=>⟨hx.arg hk1 (List.of_mem_zip hp).1,hy.arg hk2 (List.of_mem_zip hp).2⟩
    ·cases h
structure RunI(V:List Int)(l0:List B)(p0:Tm × Tm)(n:Nat)(l:List B)(r:List (Tm × Tm)):Prop where
 okb:OKB l
 val:∀p∈r,p.1.valid=true/\p.2.valid=true
 eq:uni 1048576 l0 [p0]=uni n l r
 le:n<=1048576
 stk:StkI l r
 vb:InVB V l
 vp:∀p∈r,InV V p.1/\InV V p.2
theorem RunI.lim{V:List Int}{l0:List B}{p0:Tm × Tm}{n:Nat}{l:List B}{r:List (Tm × Tm)}(h:RunI V l0 p0 n l r)(h0:V.length<=500000):r.length+1<=Am.lim:=by
 have h1:=h.stk.len;have h2:=InVB.len h.okb.good h.vb;unfold Am.lim;omega
theorem RunI.short{V:List Int}{l0:List B}{p0:Tm × Tm}{n:Nat}{l:List B}{r:List (Tm × Tm)}(h:RunI V l0 p0 n l r)(h0:V.length<=500000):l.length<80000000:=by
 have h2:=InVB.len h.okb.good h.vb;omega
theorem RunI.flw{V:List Int}{l0:List B}{p0:Tm × Tm}{n:Nat}{l:List B}{p:Tm × Tm}{r:List (Tm × Tm)}(h:RunI V l0 p0 n l (p::r)):InV V (flw l p.1)/\InV V (flw l p.2):=
 have hv:=h.val p Zv;have hi:=h.vp p Zv
 ⟨InV.flw h.okb h.vb _ _ rfl hv.1 hi.1,InV.flw h.okb h.vb _ _ rfl hv.2 hi.2⟩
theorem RunI.bind{V:List Int}{l0:List B}{p0:Tm × Tm}{n:Nat}{l:List B}{p:Tm × Tm}{r:List (Tm × Tm)}(h:RunI V l0 p0 (n+1) l (p::r)){v:Int}{t:Tm}(hu:ustep l (Go.Proofs.YtffecaafklpmhaaGreat.flw l p.1) (Go.Proofs.YtffecaafklpmhaaGreat.flw l p.2)=.bind v t):RunI V l0 p0 n (insB l v t) r:=by
 have hbv:=GY h.flw.1 h.flw.2 hu;obtain⟨hO,hv,he,hle,hs,hvb,hvp⟩:=h;have hp:=hv p Zv;have hb:=Jp hO (Xf hO hp.1) (Xf hO hp.2) hu;refine⟨Jo hO hb.unb hb.rng hb.val hb.out,fun q hq=>hv q (Zu _ hq),by rw[he,qt r hu],by omega,StkI.ins hO.good hb.unb hs.2,fun b hb=> ?_,fun q hq=>hvp q (Zu _ hq)⟩;rcases QE hb with rfl|h
 ·exact hbv
 ·exact hvb b h
theorem RunI.none{V:List Int}{l0:List B}{p0:Tm × Tm}{n:Nat}{l:List B}{p:Tm × Tm}{r:List (Tm × Tm)}(h:RunI V l0 p0 (n+1) l (p::r))(hu:ustep l (Go.Proofs.YtffecaafklpmhaaGreat.flw l p.1) (Go.Proofs.YtffecaafklpmhaaGreat.flw l p.2)=.args []):RunI V l0 p0 n l r:=by
 obtain⟨hO,hv,he,hle,hs,hvb,hvp⟩:=h;exact⟨hO,fun q hq=>hv q (Zu _ hq),by rw[he,X9 r hu];rfl,by omega,hs.2,hvb,fun q hq=>hvp q (Zu _ hq)⟩
theorem RunI.args{V:List Int}{l0:List B}{p0:Tm × Tm}{n:Nat}{l:List B}{p:Tm × Tm}{r:List (Tm × Tm)}(h:RunI V l0 p0 (n+1) l (p::r))(hk:¬(Go.Proofs.YtffecaafklpmhaaGreat.flw l p.1).kind=0)(hl:(Go.Proofs.YtffecaafklpmhaaGreat.flw l p.1).args.length=(Go.Proofs.YtffecaafklpmhaaGreat.flw l p.2).args.length)(hu:ustep l (Go.Proofs.YtffecaafklpmhaaGreat.flw l p.1) (Go.Proofs.YtffecaafklpmhaaGreat.flw l p.2)=.args ((Go.Proofs.YtffecaafklpmhaaGreat.flw l p.1).args.zip (Go.Proofs.YtffecaafklpmhaaGreat.flw l p.2).args)):RunI V l0 p0 n l ((Go.Proofs.YtffecaafklpmhaaGreat.flw l p.1).args.zip (Go.Proofs.YtffecaafklpmhaaGreat.flw l p.2).args++r):=by
 have hav:=GZ h.flw.1 h.flw.2 hu;obtain⟨hO,hv,he,hle,hs,hvb,hvp⟩:=h;have hp:=hv p Zv;have ha:=Vi (Xf hO hp.1) (Xf hO hp.2) hu;exact⟨hO,fun q hq=>(Zr.1 hq).elim (ha.1 q) fun hq=>hv q (Zu _ hq),by rw[he,X9 r hu],by omega,hs.push hO hp.1 _ hk hl,hvb,fun q hq=>(Zr.1 hq).elim (hav q) fun hq=>hvp q (Zu _ hq)⟩
def RunP(hp:Heap)(q r:Nat)(R:List B × Int)(res:ARes)(hp':Heap):Prop:=
 (∃l',R=(l',0)/\res=.ret (.tuple [])/\hp'=US hp q r l')\/∃e l',R=([],e)/\res=.panic (qu e)/\hp'=US hp q r l'
theorem Nd(V:List Int)(l0:List B)(a b:Tm)(hO:OKB l0)(hl:V.length<=500000)(hVb:InVB V l0)(hVa:InV V a)(hVc:InV V b)(ha:a.valid=true)(hb:b.valid=true)(hp:Heap)(hbq:Bq hp)(q r:Nat)(hq:q<hp.length)(hr:r<hp.length)(hn:q≠r):
  ∃res hp',S 122 [.ptr q 0,a.av,b.av] (US hp q r l0)=some (res,hp')/\RunP hp q r (uni 1048576 l0 [(a,b)]) res hp':=by
 have hlen:=fun l=>xx hp q r l;have hg0:∀(l:List B) (e:Heap),(US hp q r l++e)[hp.length]? =e[0]? :=fun l e=>YY (hlen l);have hg1:∀(l:List B) (e:Heap) (j:Nat),(US hp q r l++e)[hp.length+j]? =e[j]? :=fun l e j=>getN (hlen l) j;have hs1:∀(l:List B) (Y:AObj) (e:Heap) (j:Nat),(US hp q r l++e).set (hp.length+j) Y=US hp q r l++e.set j Y:=fun l Y e j=>setN (hlen l) j Y;have hld:=fun l e=>Vm (r:=r) hq hn l e;have hsb:∀x:Int,Ym A4 [0] [O8 x]=some (.pv (some 1) (.agg [(none,.int .i64 x)])):=fun _=>rfl;have hmi:∀(s:Sh) (p:PV),xd 100 [.pv s p]=some (.pv none (.iface 100 s p)):=fun _ _=>rfl;have hpan:∀A:Prop,panK true A=A:=fun _=>rfl;have htk:∀(l:List B) (e:Heap),List.take hp.length (US hp q r l++e)=US hp q r l:=fun l e=>ZD (hlen l);refine Vl (RunP hp q r (uni 1048576 l0 [(a,b)])) rfl rfl rfl rfl ?_;have hbp:∀u w:Tm,Ym [(some 4,.agg A0),(some 4,.agg A0)] [0,1] [.pv (some 4) u.pv,.pv (some 4) w.pv]=some (.pv (some 8) (prP (u,w))):=fun _ _=>rfl;have hbs:∀(e:Heap),xC (some 8) (US hp q r l0++e) [.pv (some 8) (prP (a,b))]=some (.sl (some 8) (US hp q r l0++e).length 1 0 1,US hp q r l0++e++[.arr (some 8) [prP (a,b)] false]):=fun e=>by
  simp[xC,Yi,AV.freeze,deep,AV.shp,yf,Sh.size]
 simp -dsimp -implicitDefEqProofs only[go_sem,seval,↓reduceIte,Tm.av,hbp,hbs,hsb,hmi,hpan,hlen,hg0,hg1,hs1,hld,YD,yd,Y6,Y7,Zd,zW,z6,z7,z9,Zh,Zc];refine Yr (fun n st=>∃(l:List B) (rs:List (Tm × Tm)) (es:List PV),RunI V l0 (a,b) n l rs/\es.take rs.length=prs rs.reverse/\rs.length<=es.length/\(∀x∈es,PV.beq x x=true)/\
  st=⟨[(0,.ptr q 0),(6,.sl (some 8) (hp.length+2) es.length 0 rs.length),(7,O8 (1048576 - (n:Int)))],US hp q r l++[.box (some 4) (.pv (some 4) a.pv),.box (some 4) (.pv (some 4) b.pv),.arr (some 8) es false]⟩) (n:=1048576) ?_ ?_
 ·refine⟨l0,[(a,b)],[prP (a,b)],⟨hO,fun p hp=> ?_,rfl,Zi _,⟨⟨[],List.nodup_nil,(fun w hw=>by cases hw),?_⟩,trivial⟩,?_,fun p hp=> ?_⟩,rfl,Zi _,fun x hx=> ?_,?_⟩
  ·rw[ZV] at hp;rw[hp];exact⟨ha,hb⟩
  ·have:=valid_size ha;show 0+a.size<=2000*(0+1);omega
  ·exact hVb
  ·rw[ZV] at hp;rw[hp];exact⟨hVa,hVc⟩
  ·rw[ZV] at hx;rw[hx];exact Vp _
  ·rfl
 ·rintro n st ⟨l,rs,es,hI,ht,hle,hbe,rfl⟩;cases rs with
  |nil=>
   have hc:¬(0:Int)<((0:Nat):Int):=by omega
   simp -dsimp -implicitDefEqProofs only[go_sem,seval,↓reduceIte,hc,hsb,hmi,hpan,hlen,hg0,hg1,hs1,hld,YD,yd,Y6,Y7,Zd,zW,z6,z7,z9,Zh,Zc];have he:=hI.eq;rw[qr] at he;refine .inl ⟨l,he,rfl,?_⟩;exact htk _ _
  |cons p rs=>
  have hc:(0:Int)<((rs.length+1:Nat):Int):=by omega
  have hpv:=hI.val p Zv;have hn1:=hI.le;cases n with
  |zero=>
   have hc2:=Zj (show(1048576:Int) - ((0:Nat):Int)=1048576 by omega);simp -dsimp -implicitDefEqProofs only[go_sem,seval,↓reduceIte,hc,hc2,hsb,hmi,hpan,hlen,hg0,hg1,hs1,hld,YD,yd,Y6,Y7,Zd,zW,z6,z7,z9,Zh,Zc];have he:=hI.eq;rw[jH] at he;exact .inr ⟨2,l,he,rfl,htk _ _⟩
  |succ n=>
  have hc2:¬(1048576:Int) - ((n+1:Nat):Int)=1048576:=by omega
  have hlim:=hI.lim hl;simp only[ZB] at hlim;have hlim2:rs.length+2<=1073741824:=by unfold Am.lim at hlim;omega
  have w1:IntKind.i64.wrap (((rs.length+1:Nat):Int) - 1)=(rs.length:Int):=by rw[zZ (by omega) (by omega)];omega
  have w2:IntKind.i64.wrap (1048576 - ((n+1:Nat):Int)+1)=1048576 - (n:Int):=by rw[zZ (by omega) (by omega)];omega
  have htop:es[rs.length]? =some (prP p):=by
   have h1:(es.take (rs.length+1))[rs.length]? =es[rs.length]? :=by rw[ZU,Zb (by omega)]
   rw[<-h1];rw[ZB] at ht;rw[ht];simp[prs]
  have ht2:es.take rs.length=prs rs.reverse:=by
   have h1:es.take rs.length=(es.take (rs.length+1)).take rs.length:=by rw[ZX,zs (Nat.le_succ _)]
   rw[h1];rw[ZB] at ht;rw[ht];simp[prs]
  have hle2:rs.length+1<=es.length:=hle;have hias:yg (some 8) [.sl (some 8) (hp.length+2) es.length 0 (rs.length+1),O8 (rs.length:Int)]=some (.eptr (some 8) (hp.length+2) es.length rs.length 0):=by
   have:=Yp (sh:=some 8) (r:=hp.length+2) (v:=es.length) (o:=0) (n:=rs.length+1) (i:=rs.length) (s':=none) (k:=.i64) (by omega);rw[ZH] at this;exact this
  have hsl:yk (some 8) false true [.sl (some 8) (hp.length+2) es.length 0 (rs.length+1),O8 (rs.length:Int)]=some (.sl (some 8) (hp.length+2) es.length 0 rs.length):=by
   have h1:(rs.length:Int)<=(rs.length:Int)+1:=by omega
   simp[yk,aslice,h1]
  have hae:∀e:Heap,aload (some 8) (US hp q r l++.box (some 4) (.pv (some 4) a.pv)::.box (some 4) (.pv (some 4) b.pv)::.arr (some 8) es false::e) (.eptr (some 8) (hp.length+2) es.length rs.length 0)=some (.pv (some 8) (prP p)):=fun e=>by
   simp[aload,hg1,htop,toAV]
  have hO1:=hI.okb;have hx:=Xf hO1 hpv.1;have hy:=Xf hO1 hpv.2;have hl1:l.length<80000000:=hI.short hl;have hf1:=fun e=>GF (.inr (US_B (q:=q) hr l e)) hO1 (by omega) p.1 hpv.1;have hf2:=fun e=>GF (.inr (US_B (q:=q) hr l e)) hO1 (by omega) p.2 hpv.2;have hia0:∀ρ:Nat,Xi (some 4) 2 [.ptr ρ 0,O8 0]=some (.ptr ρ 0):=fun _=>rfl;have hia1:∀ρ:Nat,Xi (some 4) 2 [.ptr ρ 0,O8 1]=some (.ptr ρ 4):=fun _=>rfl;have hsame:XB (US hp q r l++[.box (some 4) (.pv (some 4) a.pv),.box (some 4) (.pv (some 4) b.pv),.arr (some 8) es false,.box (some 8) (.pv (some 8) (prP p))]) (US hp q r l++[.box (some 4) (.pv (some 4) a.pv),.box (some 4) (.pv (some 4) b.pv),.arr (some 8) es false,.box (some 8) (.pv (some 8) (prP p))])=true:=
   ((Nc hbq q r l).app (Bq.cons (jK a) (Bq.cons (jK b) (Bq.cons (Nb hbe) (Bq.cons (by simp[AObj.beq,AV.beq,Vp]) Bq.nil))))).same
  obtain⟨res,hp',hcall,hP⟩:=m6 l hO1 (by omega) (flw l p.1) (flw l p.2) hx hy (hp++[.box (some 4) (.pv (some 4) a.pv),.box (some 4) (.pv (some 4) b.pv),.arr (some 8) es false,.box (some 8) (.pv (some 8) (prP p)),.box (some 4) (.pv (some 4) (flw l p.1).pv),.arr (some 4) [] false,.box (some 4) (.pv (some 4) (flw l p.2).pv),.arr (some 4) [] false]) q r (by simp;omega) (by simp;omega) hn;rw[Xz hq hr] at hcall;unfold Xg at hP;simp only[Tm.av] at hf1 hf2 hcall;have hcg:=fun K Kp=>m9 (b:=hp.length) (s:=none) (K:=K) (Kp:=Kp) (hf1 [.box (some 4) (.pv (some 4) a.pv),.box (some 4) (.pv (some 4) b.pv),.arr (some 8) es false,.box (some 8) (.pv (some 8) (prP p))]) hsame;cases hu:ustep l (flw l p.1) (flw l p.2) with
  |err e=>
   rw[hu] at hP;obtain⟨rfl,rfl⟩:=hP;rw[Xz hq hr] at hcall;simp -dsimp -implicitDefEqProofs only[go_sem,seval,↓reduceIte,hc,hc2,w1,hias,hae,hsl,hia0,hia1,jL,jM,hcg,hf2,hcall,hsb,hmi,hpan,hlen,hg0,hg1,hs1,hld,YD,yd,Y6,Y7,Zd,zW,z6,z7,z9,Zh,Zc];have he:=hI.eq;rw[jI rs hu] at he;exact .inr ⟨e,l,he,rfl,htk _ _⟩
  |bind v t=>
   rw[hu] at hP;obtain⟨rfl,rfl⟩:=hP;rw[Xz hq hr] at hcall;simp -dsimp -implicitDefEqProofs only[go_sem,seval,↓reduceIte,hc,hc2,w1,w2,hias,hae,hsl,hia0,hia1,jL,jM,hcg,hf2,hcall,hsb,hmi,hpan,hlen,hg0,hg1,hs1,hld,YD,yd,Y6,Y7,Zd,zW,z6,z7,z9,Zh,Zc];refine⟨n,zu _,insB l v t,rs,es,hI.bind hu,ht2,Nat.le_of_succ_le hle2,hbe,?_⟩;rw[Xd 3 (hlen _) rfl (by simp[AObj.refs,AV.refsIn]) (by simp[AV.refsIn];omega)];rfl
  |args xs=>
   rw[hu] at hP;obtain⟨rfl,⟨rfl,rfl⟩|⟨rfl,rfl,hll⟩⟩:=hP
   ·rw[Xz hq hr] at hcall;simp -dsimp -implicitDefEqProofs only[go_sem,seval,↓reduceIte,hc,hc2,w1,w2,hias,hae,hsl,hia0,hia1,jL,jM,hcg,hf2,hcall,hsb,hmi,hpan,hlen,hg0,hg1,hs1,hld,YD,yd,Y6,Y7,Zd,zW,z6,z7,z9,Zh,Zc];refine⟨n,zu _,l,rs,es,hI.none hu,ht2,Nat.le_of_succ_le hle2,hbe,?_⟩;rw[Xd 3 (hlen _) rfl (by simp[AObj.refs,AV.refsIn]) (by simp[AV.refsIn];omega)];rfl
   ·rw[Xz hq hr] at hcall;have hRI:RunI V l0 (a,b) n l ((flw l p.1).args.zip (flw l p.2).args++rs):=by
     by_cases hk:(flw l p.1).kind=0
     ·have e:(flw l p.1).args=[]:=(congrArg Tm.args (hx.2 hk).2.1).trans rfl;have e2:(flw l p.1).args.zip (flw l p.2).args=[]:=by rw[e];rfl
      rw[e2] at hu ⊢;exact hI.none hu
     ·exact hI.args hk hll hu
    have hxz:=valid_size hx.1;have hxz2:=(flw l p.1).size_eq;have hxz3:=Tm.zyN (flw l p.1).args;have w0:IntKind.i64.wrap (((flw l p.1).args.length:Int) - 1)=((flw l p.1).args.length:Int) - 1:=zZ (by omega) (by omega);simp -dsimp -implicitDefEqProofs only[go_sem,seval,↓reduceIte,hc,hc2,w1,w2,hias,hae,hsl,hia0,hia1,jL,jM,hcg,hf2,hcall,zV,Tm.pvs_len,w0,hsb,hmi,hpan,hlen,hg0,hg1,hs1,hld,YD,yd,Y6,Y7,Zd,zW,z6,z7,z9,Zh,Zc];generalize hX:flw l p.1=x at*;generalize hY:flw l p.2=y at*;have hzl:(x.args.zip y.args).length=x.args.length:=by rw[List.length_zip];omega
    have hlm:=hRI.lim hl;rw[Zc,hzl] at hlm;refine Yv (α:=List PV) x.args.length (fun i es1=>es1.take (rs.length+i)=prs (rs.reverse++((x.args.zip y.args).drop (x.args.length - i)).reverse)/\rs.length+i<=es1.length/\∀z∈es1,PV.beq z z=true)
     (fun i es1=>⟨[(0,.ptr q 0),(6,.sl (some 8) (hp.length+2) es1.length 0 (rs.length+i)),(7,O8 (1048576 - ((n+1:Nat):Int))),(9,.ptr (hp.length+4) 0),(10,.ptr (hp.length+6) 0),(11,O8 ((x.args.length:Int) - 1 - (i:Int)))],US hp q r l++[.box (some 4) (.pv (some 4) a.pv),.box (some 4) (.pv (some 4) b.pv),.arr (some 8) es1 false,.box (some 8) (.pv (some 8) (prP p)),.box (some 4) (.pv (some 4) x.pv),.arr (some 4) [] false,.box (some 4) (.pv (some 4) y.pv),.arr (some 4) [] false]⟩) es ⟨⟨?_,Nat.le_of_succ_le hle2,hbe⟩,?_⟩ ?_ ?_
    ·rw[Nat.sub_zero,zr (by omega)];simpa using ht2
    ·rw[show(x.args.length:Int) - 1 - ((0:Nat):Int)=(x.args.length:Int) - 1 by omega];rfl
    ·rintro i es1 h ⟨k1,k2,k3⟩;obtain⟨j,hj⟩:∃j,j=x.args.length - 1 - i:=⟨_,rfl⟩;have ej:(x.args.length:Int) - 1 - (i:Int)=(j:Int):=by omega
     have hc5:(0:Int)<=(j:Int):=by omega
     obtain⟨u,hu1⟩:∃u,x.args[j]? =some u:=⟨_,Zf (by omega)⟩;obtain⟨w,hw1⟩:∃w,y.args[j]? =some w:=⟨_,Zf (by omega)⟩;have hdr:(x.args.zip y.args).drop (x.args.length - (i+1))=(u,w)::(x.args.zip y.args).drop (x.args.length - i):=by
      obtain⟨q1,e1⟩:=Ze.1 hu1;obtain⟨q2,e2⟩:=Ze.1 hw1;have ea:x.args.length - (i+1)=j:=by omega
      have eb:x.args.length - i=j+1:=by omega
      rw[ea,eb,ZS (by omega),List.getElem_zip,e1,e2]
     have w5:IntKind.i64.wrap ((j:Int) - 1)=(x.args.length:Int) - 1 - ((i+1:Nat):Int):=by rw[zZ (by omega) (by unfold Am.lim at hlm;omega)];omega
     obtain⟨es2,hpu,g1,g2,g3⟩:=m7 (hp:=US hp q r l++[.box (some 4) (.pv (some 4) a.pv),.box (some 4) (.pv (some 4) b.pv),.arr (some 8) es1 false,.box (some 8) (.pv (some 8) (prP p)),.box (some 4) (.pv (some 4) x.pv),.arr (some 4) [] false,.box (some 4) (.pv (some 4) y.pv),.arr (some 4) [] false]) (r:=hp.length+2) (es:=es1) (len:=rs.length+i) (x:=prP (u,w)) (by rw[hg1];rfl) k2 (by omega);rw[hs1] at hpu;simp only[zJ,zI] at hpu;simp -dsimp -implicitDefEqProofs only[go_sem,seval,↓reduceIte,ej,hc5,w5,zY (Tm.pvs_get hu1),zY (Tm.pvs_get hw1),zV,Tm.pvs_len,hbp,hpu,hsb,hmi,hpan,hlen,hg0,hg1,hs1,hld,YD,yd,Y6,Y7,Zd,zW,z6,z7,z9,Zh,Zc];refine⟨es2,⟨?_,g2,fun z hz=> ?_⟩,?_⟩
     ·rw[hdr,List.reverse_cons,<-Zd];show es2.take (rs.length+i+1)=_;rw[g1,k1];simp[prs]
     ·rcases g3 z hz with h|rfl
      ·exact k3 z h
      ·exact Vp _
     ·rw[Xd 8 (hlen _) rfl (by simp[AObj.refs,AV.refsIn]) (by simp[AV.refsIn];omega)];rfl
    ·rintro es1 ⟨k1,k2,k3⟩;have hc5:¬(0:Int)<=(x.args.length:Int) - 1 - (x.args.length:Int):=by omega
     simp -dsimp -implicitDefEqProofs only[go_sem,seval,↓reduceIte,hc5,w2,hsb,hmi,hpan,hlen,hg0,hg1,hs1,hld,YD,yd,Y6,Y7,Zd,zW,z6,z7,z9,Zh,Zc];rw[Nat.sub_self,Z4,<-List.reverse_append] at k1;have hal:(x.args.zip y.args++rs).length=rs.length+x.args.length:=by rw[Zc,hzl];omega
     refine⟨n,zu _,l,x.args.zip y.args++rs,es1,hRI,by rw[hal];exact k1,by rw[hal];exact k2,k3,?_⟩;rw[Xd 3 (hlen _) rfl (by simp[AObj.refs,AV.refsIn]) (by simp[AV.refsIn];omega),hal];rfl
def outD(F:FuncId->Option AFn)(prim:FuncId->Option Ys)(rs:List RSlot)(s:Nat)(v:AV)(st:St)(p:PV)(st2:St):Prop:=
 ∃g fs cs,st.fr.look s=some (.func (.func g) fs cs)/\∃r hp' v',sem F prim .dfr g (.pv none p::(fs++cs)) st2.hp=some (.ret r,hp')/\YO ⟨st2.fr,hp'⟩ rs=some v'/\Am.frozen v v' hp'
def outK(F:FuncId->Option AFn)(prim:FuncId->Option Ys)(rs:List RSlot)(s:Nat)(v:AV)(st:St):AExit->St->Prop
 | .normal,st2=>outD F prim rs s v st .niliface st2
 | .ret,st2=>outD F prim rs s v st .niliface st2
 | .panic w,st2=>outD F prim rs s v st w st2
 | .exit _,_=>False
def dfrK(F:FuncId->Option AFn)(prim:FuncId->Option Ys)(rs:List RSlot)(s:Nat)(c2:ACode)(v:AV):AExit->St->Prop
 | .normal,st=>(st.fr.look s).isSome=true/\W (sem F prim) (sloop F prim) 0 c2 st (outK F prim rs s v st)
 | .ret,st=>endK rs (Am.frozen v) .ret st
 |_,_=>False
theorem G0{F:FuncId->Option AFn}{prim:FuncId->Option Ys}{rs:List RSlot}{s:Nat}{c2:ACode}{v:AV}{st:St}:dfrK F prim rs s c2 v .normal st=((st.fr.look s).isSome=true/\W (sem F prim) (sloop F prim) 0 c2 st (outK F prim rs s v st)):=rfl
theorem qv{F:FuncId->Option AFn}{prim:FuncId->Option Ys}{rs:List RSlot}{s:Nat}{c2:ACode}{v:AV}{st:St}:dfrK F prim rs s c2 v .ret st=endK rs (Am.frozen v) .ret st:=rfl
theorem G1{F:FuncId->Option AFn}{prim:FuncId->Option Ys}{rs:List RSlot}{s:Nat}{v:AV}{st st2:St}:outK F prim rs s v st .ret st2=outD F prim rs s v st .niliface st2:=rfl
theorem G2{F:FuncId->Option AFn}{prim:FuncId->Option Ys}{rs:List RSlot}{s:Nat}{v:AV}{st st2:St}{w:PV}:outK F prim rs s v st (.panic w) st2=outD F prim rs s v st w st2:=rfl
theorem Nf{F:FuncId->Option AFn}{prim:FuncId->Option Ys}{f:FuncId}{fn:AFn}{args:List AV}{ps:List (Sh × PV)}{hp:Heap}{v:AV}{s:Nat}{c2:ACode}(hp0:prim f=none)(hf:F f=some fn)(hm:fn.heapMode=false)(hz:Yi args hp=some (ps,hp))(hn:(pvs ps).length=fn.nparams)(hmo:fn.more=[(.dfr s,c2)])
  (h:W (sem F prim) (sloop F prim) 0 fn.code ⟨params 0 (pvs ps),[]⟩ (dfrK F prim fn.results s c2 v))(hr:fn.rcv=none:=by rfl):sem F prim .fn f args hp=some (.ret v,hp):=by
 rw[xN];unfold yq;rw[hp0,hf];have hl:([]:Heap).length=0:=rfl
 suffices hB:∃v' hp2,abody (sem F prim) (sloop F prim) fn (pvs ps) []=some (.ret v',hp2)/\Am.frozen v v' hp2 by
  obtain⟨v',hp2,h1,hp3,h2⟩:=hB;simp only[hr,zL,hm,ZR,if_false,hz,h1,h2];cases v.scalar <;> rfl
 unfold abody;rw[Za (by simpa using hn),hmo];simp only[hl];unfold W at h;split at h
 ·rename_i e st1 he;cases e with
  |normal=>
   obtain⟨-,hW⟩:=h;unfold W at hW;split at hW
   ·rename_i e2 st2 he2;have fin:∀p:Option PV,outD F prim fn.results s v st1 (p.getD .niliface) st2->∀e:AExit,(e=.normal\/e=.ret->p=none)->(∀w,e=.panic w->p=some w)->(∀i,e≠.exit i)->e=e2->∃v' hp2,aleave (sem F prim) fn (apieces (sem F prim) (sloop F prim) 0 [(.dfr s,c2)] fn.code ⟨params 0 (pvs ps),[]⟩ [])=some (.ret v',hp2)/\Am.frozen v v' hp2:=by
     rintro p ⟨g,fs,cs,k1,r,hp',v',k2,k3,k4⟩ e n1 n2 n3 rfl;refine⟨v',hp',?_,k4⟩;have k5:atop (sem F prim) (.dfr s) st1 []=some (.normal,st1,[.func (.func g) fs cs]):=by simp[atop,k1]
     have ka:apieces (sem F prim) (sloop F prim) 0 [(.dfr s,c2)] fn.code ⟨params 0 (pvs ps),[]⟩ []=some (e,st2,[.func (.func g) fs cs]):=by
      simp only[apieces,he,k5,he2]
     have ku:∀p':Option PV,p'=p->aunwind (sem F prim) [.func (.func g) fs cs] p' st2.hp=some (none,hp'):=by
      rintro p' rfl;simp only[aunwind,yB,k2]
     rw[ka];cases e with
     |normal=>simp only[aleave,ku none (n1 (.inl rfl)).symm,aresult,k3]
     |ret=>simp only[aleave,ku none (n1 (.inr rfl)).symm,aresult,k3]
     |panic w=>simp only[aleave,ku (some w) (n2 w rfl).symm,aresult,k3]
     |exit i=>exact absurd rfl (n3 i)
    cases e2 with
    |normal=>exact fin none hW .normal (fun _=>rfl) (fun w e=>by cases e) (fun i e=>by cases e) rfl
    |ret=>exact fin none hW .ret (fun _=>rfl) (fun w e=>by cases e) (fun i e=>by cases e) rfl
    |panic w=>exact fin (some w) hW (.panic w) (fun e=>by rcases e with e|e <;> cases e) (fun w e=>by cases e;rfl) (fun i e=>by cases e) rfl
    |exit i=>exact hW.elim
   ·exact hW.elim
  |ret=>
   rw[qv,xO] at h;cases hr:YO st1 fn.results with
   |none=>rw[hr] at h;exact h.elim
   |some u=>
    rw[hr] at h;exact⟨u,st1.hp,by simp only[aleave,apieces,he,aunwind,aresult,hr],h⟩
  |exit i=>exact h.elim
  |panic v=>exact h.elim
 ·exact h.elim
def G3(n:Nat)(H:Heap):AExit->St->Prop
 | .normal,st=>st.hp.take n=H
 | .ret,st=>st.hp.take n=H
 |_,_=>False
theorem G4{n:Nat}{H:Heap}{st:St}:G3 n H .normal st=(st.hp.take n=H):=rfl
theorem G5{F:FuncId->Option AFn}{prim:FuncId->Option Ys}{g:FuncId}{fn:AFn}{ws:List AV}{hp H:Heap}{s:Sh}{p:PV}{t:Nat}(hf:F g=some fn)(hr:fn.rcv=some t)(hmo:fn.more=[])(hn:ws.length=fn.nparams)
  (h:W (sem F prim) (sloop F prim) hp.length fn.code ⟨(t,.pv s p)::params 0 ws,hp⟩ (G3 hp.length H)):sem F prim .dfr g (.pv s p::ws) hp=some (.ret (.tuple []),H):=by
 rw[Eo];unfold adefer;simp only[hf,hr,hmo,hn,ne_eq,not_true_eq_false,if_false];unfold W at h;split at h
 ·rename_i e st he;rw[he];cases e with
  |normal=>rw[<-h]
  |ret=>rw[<-h]
  |exit i=>exact h.elim
  |panic v=>exact h.elim
 ·exact h.elim
theorem Ng(x0 x1 x3:AObj)(s:AV)(k:AV)(e:Heap):sem (find tab) prim .dfr 120 [.pv none .niliface,.ptr 2 0,.ptr 4 0] (x0::x1::.box none s::x3::.box none k::e)=some (.ret (.tuple []),x0::x1::.box none s::x3::.box none k::e):=by
 refine G5 (t:=5) rfl rfl rfl rfl ?_;have has:xA 100 (some 1) (.pv (some 1) (.agg [(none,.int .i64 0)])) true [.pv none .niliface]=some (.tuple [.pv (some 1) (.agg [(none,.int .i64 0)]),O9 false]):=rfl;have hin:Qh true [.pv none .niliface]=some (O9 false):=rfl;simp -dsimp -implicitDefEqProofs only[go_sem,seval,↓reduceIte,has,hin,G4,Zd,zW,z6,z7,z9,Zh,Zc];simp
theorem Nh(x0 x1 x3:AObj)(s:AV)(k y:Int)(e:Heap):sem (find tab) prim .dfr 120 [.pv none (qu y),.ptr 2 0,.ptr 4 0] (x0::x1::.box none s::x3::.box none (O8 k)::e)=some (.ret (.tuple []),x0::x1::.box none (.tsl (some 5) [])::x3::.box none (O8 y)::e):=by
 refine G5 (t:=5) rfl rfl rfl rfl ?_;have has:xA 100 (some 1) (.pv (some 1) (.agg [(none,.int .i64 0)])) true [.pv none (qu y)]=some (.tuple [.pv (some 1) (.agg [(none,.int .i64 y)]),O9 true]):=rfl;have hst:∀E:Heap,xB none (e.length+5) (x0::x1::.box none s::x3::.box none (O8 k)::E) [.ptr 2 0,.tsl (some 5) [],.ptr (e.length+5) 0]=some (.undef,x0::x1::.box none (.tsl (some 5) [])::x3::.box none (O8 k)::E):=fun E=>by
  have h1:¬e.length+5<=2:=by omega
  simp[xB,astore,qz,AV.plain,AV.shp,AV.refsIn,h1]
 simp -dsimp -implicitDefEqProofs only[go_sem,seval,↓reduceIte,has,hst,G4,Zd,zW,z6,z7,z9,Zh,Zc];simp
theorem Ni(V:List Int)(l:List B)(a b:Tm)(hV:V.length<=500000)(hVb:InVB V l)(hVa:InV V a)(hVc:InV V b)(hl:l.length<=500000)(hsz:∀b∈l,b.2.size<1000000000)(ha:a.size<1000000000)(hb:b.size<1000000000)(hp:Heap):
  S 85 [.pv none (.sl (some 5) (bds l)),a.av,b.av] hp=some (.ret (.tuple [.pv none (.sl (some 5) (bds (unR l a b).1)),.pv none (.int .i64 (unR l a b).2)]),hp):=by
 refine Nf rfl rfl rfl (Yd [(none,.sl (some 5) (bds l)),(some 4,a.pv),(some 4,b.pv)]) rfl rfl ?_;have h1:=GH l (by omega) hsz;have h2:=fun hp=>yR a hp ha;have h3:=fun hp=>yR b hp hb;simp only[Tm.av] at h2 h3;have hal:∀a0 a1:AObj,y9 none (.tsl (some 5) []) [a0,a1] []=some (.ptr 2 0,[a0,a1,.box none (.sl (some 5) 3 0 0 0),.arr (some 5) [] false]):=fun _ _=>rfl;by_cases hg:okb l=true/\a.valid=true/\b.valid=true
 rotate_left
 ·have e:unR l a b=([],1):=by unfold unR;rw[Za hg]
  rw[e];have hst:∀(x0 x1 x3 x4:AObj),Yw none 0 [x0,x1,.box none (.sl (some 5) 3 0 0 0),x3,x4] [.ptr 2 0,.tsl (some 5) []]=some (.undef,[x0,x1,.box none (.sl (some 5) 5 0 0 0),x3,x4,.arr (some 5) [] false]):=fun _ _ _ _=>rfl;cases hok:okb l with
  |false=>
   rw[hok] at h1;simp -dsimp -implicitDefEqProofs only[go_sem,seval,↓reduceIte,Tm.av,hal,hst,h1,h2,h3,qv,Zd,zW,z6,z7,z9,Zh,Zc];exact⟨_,rfl⟩
  |true=>
   rw[hok] at h1;by_cases va:a.valid=true
   ·have vb:b.valid=false:=by
     cases e:b.valid with
     |false=>rfl
     |true=>exact absurd ⟨hok,va,e⟩ hg
    simp -dsimp -implicitDefEqProofs only[go_sem,seval,↓reduceIte,Tm.av,hal,hst,h1,h2,h3,va,vb,qv,Zd,zW,z6,z7,z9,Zh,Zc];exact⟨_,rfl⟩
   ·have va':a.valid=false:=by simpa using va
    simp -dsimp -implicitDefEqProofs only[go_sem,seval,↓reduceIte,Tm.av,hal,hst,h1,h2,h3,va',qv,Zd,zW,z6,z7,z9,Zh,Zc];exact⟨_,rfl⟩
 ·have e:unR l a b=uni 1048576 l [(a,b)]:=by unfold unR;rw[Zb hg]
  rw[e];obtain⟨hok,va,vb⟩:=hg;have hO:=okb_iff.1 hok;rw[hok] at h1;obtain⟨H5,hH5⟩:∃H5:Heap,H5=[.box (some 4) (.pv (some 4) a.pv),.box (some 4) (.pv (some 4) b.pv),.box none (.sl (some 5) 3 0 0 0),.arr (some 5) [] false,.box none (O8 0)]:=⟨_,rfl⟩;have hb5:Bq H5:=by
   rw[hH5];exact Bq.cons (jK a) (Bq.cons (jK b) (Bq.cons rfl (Bq.cons rfl (Bq.cons rfl Bq.nil))))
  have hcn:=Na l hO.good (by omega) H5 hb5;obtain⟨res,hp',hrun,hP⟩:=Nd V l a b hO hV hVb hVa hVc va vb (H5++[.arr (some 5) [] false,.arr (some 5) [] false,.box (some 1) .undef]) (hb5.app (Bq.cons rfl (Bq.cons rfl (Bq.cons rfl Bq.nil)))) 7 6 (by rw[hH5];simp) (by rw[hH5];simp) (by decide);have hU:∀l,US (H5++[.arr (some 5) [] false,.arr (some 5) [] false,.box (some 1) .undef]) 7 6 l=[.box (some 4) (.pv (some 4) a.pv),.box (some 4) (.pv (some 4) b.pv),.box none (.sl (some 5) 3 0 0 0),.arr (some 5) [] false,.box none (O8 0),.arr (some 5) [] false,.arr (some 5) (bds l) false,.box (some 1) (.agg [(none,.sl (some 5) 6 l.length 0 l.length)])]:=fun l=>by rw[hH5];rfl
  rw[hH5] at hcn;rw[hU] at hrun;simp only[Tm.av,Zw,ZE,ZB,zn] at hrun hcn;have hbu:Ym [(none,.tsl (some 5) [])] [0] [.sl (some 5) 6 l.length 0 l.length]=some (.agg [(none,.sl (some 5) 6 l.length 0 l.length)]):=rfl;have hpan:∀A:Prop,panK true A=A:=fun _=>rfl;rcases hP with⟨l',he,rfl,rfl⟩|⟨e,l',he,rfl,rfl⟩
  ·rw[hU] at hrun;rw[he];simp -dsimp -implicitDefEqProofs only[go_sem,seval,↓reduceIte,Tm.av,hal,h1,h2,h3,va,vb,hcn,hbu,hrun,Y0,QL,yF (Zg _),YD,qv,G0,G1,G2,hpan,Zd,zW,z6,z7,z9,Zh,Zc];refine⟨rfl,120,[],[.ptr 2 0,.ptr 4 0],rfl,_,_,_,Ng _ _ _ _ _ _,rfl,?_⟩;refine⟨[.box (some 4) (.pv (some 4) a.pv),.box (some 4) (.pv (some 4) b.pv),.box none (.sl (some 5) 6 l'.length 0 l'.length),.arr (some 5) [] false,.box none (O8 0),.arr (some 5) [] false,.arr (some 5) (bds l') true,.box (some 1) (.agg [(none,.sl (some 5) 6 l'.length 0 l'.length)])],?_⟩;simp[AV.freezeRes,Yi,AV.freeze,deep,Yk,pvs,AV.shp]
  ·rw[hU] at hrun;rw[he];simp -dsimp -implicitDefEqProofs only[go_sem,seval,↓reduceIte,Tm.av,hal,h1,h2,h3,va,vb,hcn,hbu,hrun,Y0,QL,yF (Zg _),YD,qv,G0,G1,G2,hpan,Zd,zW,z6,z7,z9,Zh,Zc];refine⟨rfl,120,[],[.ptr 2 0,.ptr 4 0],rfl,_,_,_,Nh _ _ _ _ _ _ _,rfl,?_⟩;exact⟨_,rfl⟩
theorem Nj(hp:Heap)(x:Int):S 139 [O8 x] hp=some (.ret (O9 false),hp):=by
 refine Yb rfl rfl rfl (Yd [(none,.int .i64 x)]) rfl ?_
 (repeat' (first|(simp -dsimp -implicitDefEqProofs only[go_sem,seval,↓reduceIte, *])|(refine YI (fun _=> ?_) (fun _=> ?_))))
theorem Nk(hp:Heap)(x y:Int):S 116 [O8 x,O8 y] hp=some (.ret (O8 (cmpI x y)),hp):=by
 refine Yb rfl rfl rfl (Yd [(none,.int .i64 x),(none,.int .i64 y)]) rfl ?_
 (repeat' (first|(simp -dsimp -implicitDefEqProofs only[go_sem,seval,↓reduceIte,Nj,cmpI, *])|(refine YI (fun _=> ?_) (fun _=> ?_))))
theorem jN(hp:Heap)(x y:Int):S 135 [O8 x,O8 y] hp=some (.ret (O8 (cmpI x y)),hp):=by
 refine Yb rfl rfl rfl (Yd [(none,.int .i64 x),(none,.int .i64 y)]) rfl ?_
 (repeat' (first|(simp -dsimp -implicitDefEqProofs only[go_sem,seval,↓reduceIte,cmpI, *])|(refine YI (fun _=> ?_) (fun _=> ?_))))
theorem Nl(hp:Heap)(x y:List UInt8):S 141 [Oh x,Oh y] hp=some (.ret (O8 (Lib.compareBytes x y)),hp):=by
 refine Yb rfl rfl rfl (Yd [(none,.str x),(none,.str y)]) rfl ?_;have h:∀hp,S 152 [Oh x,Oh y] hp=some (.ret (O8 (Lib.compareBytes x y)),hp):=fun hp=>(ko (p:=J9) rfl _ _).trans rfl
 (repeat' (first|(simp -dsimp -implicitDefEqProofs only[go_sem,seval,↓reduceIte, *])|(refine YI (fun _=> ?_) (fun _=> ?_))))
theorem Nm(hp:Heap)(x y:List UInt8):S 118 [Oh x,Oh y] hp=some (.ret (O8 (Lib.compareBytes x y)),hp):=by
 refine Yb rfl rfl rfl (Yd [(none,.str x),(none,.str y)]) rfl ?_
 (repeat' (first|(simp -dsimp -implicitDefEqProofs only[go_sem,seval,↓reduceIte,Nl, *])|(refine YI (fun _=> ?_) (fun _=> ?_))))
theorem Nn(hp:Heap)(x y:List UInt8)(hx:x.length<1000000000):S 136 [Oh x,Oh y] hp=some (.ret (O8 (Lib.compareBytes x y)),hp):=by
 refine Yb rfl rfl rfl (Yd [(none,.str x),(none,.str y)]) rfl ?_;simp -dsimp -implicitDefEqProofs only[go_sem,seval,↓reduceIte];refine Yr (fun n st=>∃i:Nat,n=x.length - i/\i<=x.length/\i<=y.length/\Lib.compareBytes x y=Lib.compareBytes (x.drop i) (y.drop i)/\st=⟨[(0,Oh x),(1,Oh y),(5,O8 i)],[]⟩) (n:=x.length) ⟨0,rfl,Zg _,Zg _,rfl,?_⟩ ?_
 ·simp -dsimp -implicitDefEqProofs only[go_sem,seval,↓reduceIte]
  try rfl
 ·rintro n st ⟨i,hn,hi,hi',he,rfl⟩;by_cases h:i<x.length
  ·have hc:(i:Int)<(x.length:Int):=by omega
   by_cases h':i<y.length
   ·have hc':(i:Int)<(y.length:Int):=by omega
    have w2:=O0 i (by omega)
    have ex:x[i]? =some x[i]:=Zf h;have ey:y[i]? =some y[i]:=Zf h';have hd:Lib.compareBytes (x.drop i) (y.drop i)=if x[i]<y[i] then -1 else if y[i]<x[i] then 1 else Lib.compareBytes (x.drop (i+1)) (y.drop (i+1)):=by
     rw[ZS h,ZS h',Lib.compareBytes]
    rw[hd] at he;have c1:(((x[i].toNat:Nat):Int)<((y[i].toNat:Nat):Int))=(x[i]<y[i]):=propext (by rw[UInt8.lt_iff_toNat_lt];omega);have c2:(((y[i].toNat:Nat):Int)<((x[i].toNat:Nat):Int))=(y[i]<x[i]):=propext (by rw[UInt8.lt_iff_toNat_lt];omega);by_cases l1:x[i]<y[i]
    ·simp -dsimp -implicitDefEqProofs only[go_sem,seval,↓reduceIte,hc,hc',Q8 ex,Q8 ey,c1,c2,l1,he]
    ·by_cases l2:y[i]<x[i]
     ·simp -dsimp -implicitDefEqProofs only[go_sem,seval,↓reduceIte,hc,hc',Q8 ex,Q8 ey,c1,c2,l1,l2,he]
     ·simp -dsimp -implicitDefEqProofs only[go_sem,seval,↓reduceIte,hc,hc',Q8 ex,Q8 ey,c1,c2,l1,l2,w2];rw[Za l1,Za l2] at he;exact⟨x.length - (i+1),by omega,i+1,rfl,by omega,by omega,he,rfl⟩
   ·have hc':¬(i:Int)<(y.length:Int):=by omega
    simp -dsimp -implicitDefEqProofs only[go_sem,seval,↓reduceIte,hc,hc',jN];rw[he,ZS h,List.drop_eq_nil_of_le (by omega:y.length<=i)];simp only[Lib.compareBytes,cmpI];rw[Za (by omega),Zb (by omega)]
  ·have hc:¬(i:Int)<(x.length:Int):=by omega
   simp -dsimp -implicitDefEqProofs only[go_sem,seval,↓reduceIte,hc,jN];rw[he,List.drop_eq_nil_of_le (by omega:x.length<=i)];by_cases h':i<y.length
   ·rw[ZS h'];simp only[Lib.compareBytes,cmpI];rw[Zb (by omega)]
   ·rw[List.drop_eq_nil_of_le (by omega:y.length<=i)];simp only[Lib.compareBytes,cmpI];rw[Za (by omega),Za (by omega)]


theorem Np(a b:Tm)(ih:∀u,u∈a.args->∀(b:Tm) (hp:Heap),u.size<1000000000->u.fits=true->b.fits=true->S 105 [u.av,b.av] hp=some (.ret (O8 (u.cmp b)),hp))
  (ha:a.size<1000000000)(fa:a.fits=true)(fb:b.fits=true)(v:Int)(hl:v=0->a.args.length=b.args.length)(fr:Fr)(Q:AExit->St->Prop)
  (hfr:fr.keep [2,3,5,6]=[(2,.ptr 0 0),(3,.ptr 1 0),(5,O8 v),(6,O8 0)])
  (h:∀r,Q (.exit 0) ⟨(2,.ptr 0 0)::(3,.ptr 1 0)::(5,O8 (YT v (Tm.cmps a.args b.args)))::r,[.box (some 4) (.pv (some 4) a.pv),.box (some 4) (.pv (some 4) b.pv)]⟩):
  W (sem (find tab) prim) (sloop (find tab) prim) 0 (.loop [2,3,5,6] c105b17) ⟨fr,[.box (some 4) (.pv (some 4) a.pv),.box (some 4) (.pv (some 4) b.pv)]⟩ Q:=by
 have hts:=a.size_eq;have hlen:=Tm.zyN a.args;refine Yr (fun n st=>∃(i:Nat) (c:Int),n=a.args.length - i/\i<=a.args.length/\(c=0->a.args.length=b.args.length)/\YT v (Tm.cmps a.args b.args)=YT c (Tm.cmps (a.args.drop i) (b.args.drop i))/\
  st=⟨[(2,.ptr 0 0),(3,.ptr 1 0),(5,O8 c),(6,O8 i)],[.box (some 4) (.pv (some 4) a.pv),.box (some 4) (.pv (some 4) b.pv)]⟩) (n:=a.args.length) ⟨0,v,rfl,Zg _,hl,rfl,?_⟩ ?_
 ·rw[hfr];rfl
 ·rintro n st ⟨i,c,hn,hi,hcl,he,rfl⟩;by_cases hi':i<a.args.length
  ·have hc:(i:Int)<(a.args.length:Int):=by omega
   by_cases h0:c=0
   ·subst h0;have hlb:=hcl rfl;obtain⟨u,hu⟩:∃u,a.args[i]? =some u:=⟨_,Zf hi'⟩;obtain⟨w,hw⟩:∃w,b.args[i]? =some w:=⟨_,Zf (by omega)⟩;have hum:=Zk hu;have husz:=Tm.zyQ hum;have hcall:=fun hp=>ih u hum w hp (by omega) (Tm.zyP fa hum) (Tm.zyP fb (Zk hw));have w2:=O0 i (by omega)
    simp -dsimp -implicitDefEqProofs only[c105b17,go_sem,seval,↓reduceIte,zV,Tm.pvs_len,hc,zY (Tm.pvs_get hu),zY (Tm.pvs_get hw),show AV.pv (some 4) u.pv=u.av from rfl,show AV.pv (some 4) w.pv=w.av from rfl,hcall,w2];exact⟨a.args.length - (i+1),by omega,i+1,u.cmp w,rfl,by omega,fun _=>hlb,by rw[he,q7,Tm.zy6 hu hw],rfl⟩
   ·simp -dsimp -implicitDefEqProofs only[c105b17,go_sem,seval,↓reduceIte,zV,Tm.pvs_len,hc,h0];rw[q8 h0] at he;rw[he] at h;exact h _
  ·have hc:¬(i:Int)<(a.args.length:Int):=by omega
   obtain rfl:i=a.args.length:=by omega
   simp -dsimp -implicitDefEqProofs only[c105b17,go_sem,seval,↓reduceIte,zV,Tm.pvs_len,hc];rw[zh,Tm.zyY,lT] at he;rw[he] at h;exact h _

theorem G6:∀(a b:Tm) (hp:Heap),a.size<1000000000->a.fits=true->b.fits=true->S 105 [a.av,b.av] hp=some (.ret (O8 (a.cmp b)),hp):=by
 intro a
 induction a using Tm.zyR with
 |h a ih=>
  intro b hp ha fa fb;have na:a.name.length<1000000000:=by
   have:=a.fits_eq;rw[fa] at this;exact Tm.zzn (by simpa using this.symm)
  refine Yb rfl rfl rfl (Yd [(some 4,a.pv),(some 4,b.pv)]) rfl ?_;rw[Tm.zy3];have loop:=Np a b ih ha fa fb;clear ih;by_cases hk:a.kind=b.kind
  ·have hk':cmpI b.kind b.kind=0:=xP _;have hnam:=fun hp=>Nn hp a.name b.name na
   (repeat' (first|(simp -dsimp -implicitDefEqProofs only[go_sem,seval,↓reduceIte,Ya,Yh,Ye,zV,Tm.pvs_len,q7,jN, *])|(refine YI (fun _=> ?_) (fun _=> ?_))))
   all_goals (refine loop _ ?_ _ _ rfl fun r=> ?_)
   all_goals first
    |(intro h0;first|(exact absurd h0 ‹_›)|(have:=cmpI_zero.1 ‹cmpI (a.args.length:Int) (b.args.length:Int)=0›;omega))
    |(simp -dsimp -implicitDefEqProofs only[go_sem,seval,↓reduceIte,YT, *])
  ·have hk':cmpI a.kind b.kind≠0:=fun h=>hk (cmpI_zero.1 h);simp -dsimp -implicitDefEqProofs only[c105b17,go_sem,seval,↓reduceIte,Ya,Yh,Ye,zV,Tm.pvs_len,hk,jN,q8 hk']

theorem Nq(a b:Tm)(ih:∀u,u∈a.args->∀(b:Tm) (hp:Heap),u.size<1000000000->u.fits=true->b.fits=true->S 83 [u.av,b.av] hp=some (.ret (O8 (u.cmp b)),hp))
  (ha:a.size<1000000000)(fa:a.fits=true)(fb:b.fits=true)(hlb:a.args.length=b.args.length)(p:PV)(fr:Fr)(Q:AExit->St->Prop)
  (hfr:fr.keep [3,57,58,59]=[(3,.ptr 1 0),(57,.pv none (.sl (some 4) (Tm.pvs a.args))),(58,O8 (a.args.length:Int)),(59,O8 0)])
  (h:Tm.cmps a.args b.args=0->∀fr hp,Q (.exit 0) ⟨fr,hp⟩)(h':Tm.cmps a.args b.args≠0->∀hp r,Q .ret ⟨(4,O8 (Tm.cmps a.args b.args))::r,hp⟩):
  W (sem (find tab) prim) (sloop (find tab) prim) 0 (.loop [3,57,58,59] c83b27) ⟨fr,[.box (some 4) (.pv (some 4) a.pv),.box (some 4) (.pv (some 4) b.pv),.box (some 4) (.pv (some 4) p)]⟩ Q:=by
 have hts:=a.size_eq;have hlen:=Tm.zyN a.args;refine Yr (fun n st=>∃(i:Nat),n=a.args.length - i/\i<=a.args.length/\Tm.cmps a.args b.args=Tm.cmps (a.args.drop i) (b.args.drop i)/\
  st=⟨[(3,.ptr 1 0),(57,.pv none (.sl (some 4) (Tm.pvs a.args))),(58,O8 (a.args.length:Int)),(59,O8 i)],[.box (some 4) (.pv (some 4) a.pv),.box (some 4) (.pv (some 4) b.pv),.box (some 4) (.pv (some 4) p)]⟩) (n:=a.args.length) ⟨0,rfl,Zg _,rfl,?_⟩ ?_
 ·rw[hfr];rfl
 ·rintro n st ⟨i,hn,hi,he,rfl⟩;by_cases hi':i<a.args.length
  ·have hc:(i:Int)<(a.args.length:Int):=by omega
   obtain⟨u,hu⟩:∃u,a.args[i]? =some u:=⟨_,Zf hi'⟩;obtain⟨w,hw⟩:∃w,b.args[i]? =some w:=⟨_,Zf (by omega)⟩;have hum:=Zk hu;have husz:=Tm.zyQ hum;have hcall:=fun hp=>ih u hum w hp (by omega) (Tm.zyP fa hum) (Tm.zyP fb (Zk hw));simp only[Tm.av] at hcall;have w2:=O0 i (by omega)
   rw[Tm.zy6 hu hw] at he;by_cases h0:u.cmp w=0
   ·rw[h0,q7] at he;simp -dsimp -implicitDefEqProofs only[c83b27,go_sem,seval,↓reduceIte,zV,Tm.pvs_len,hc,zY (Tm.pvs_get hu),zY (Tm.pvs_get hw),hcall,w2,h0];refine⟨a.args.length - (i+1),by omega,i+1,rfl,by omega,he,?_⟩;rfl
   ·simp -dsimp -implicitDefEqProofs only[c83b27,go_sem,seval,↓reduceIte,zV,Tm.pvs_len,hc,zY (Tm.pvs_get hu),zY (Tm.pvs_get hw),hcall,w2,h0];rw[q8 h0] at he;have:=h' (by rw[he];exact h0);rw[he] at this;exact this _ _
  ·have hc:¬(i:Int)<(a.args.length:Int):=by omega
   obtain rfl:i=a.args.length:=by omega
   simp -dsimp -implicitDefEqProofs only[c83b27,go_sem,seval,↓reduceIte,zV,Tm.pvs_len,hc];rw[zh,Tm.zyY] at he;exact h he _ _

set_option maxHeartbeats 4000000 in
theorem Vq:∀(a b:Tm) (hp:Heap),a.size<1000000000->a.fits=true->b.fits=true->S 83 [a.av,b.av] hp=some (.ret (O8 (a.cmp b)),hp):=by
 intro a
 induction a using Tm.zyR with
 |h a ih=>
  intro b hp ha fa fb;refine Yb rfl rfl rfl (Yd [(some 4,a.pv),(some 4,b.pv)]) rfl ?_;rw[Tm.zy3];have loop:=Nq a b ih ha fa fb;clear ih;have hb:Ym [(none,(O8 (0))),(none,(O8 (0))),(none,(O8 (0))),(none,(O8 (0)))] [0,1,2,3] [O8 (0),O8 (1),O8 (2),O8 (3)]=some (.pv (some 4) (.agg [(none,.int .i64 0),(none,.int .i64 1),(none,.int .i64 2),(none,.int .i64 3)])):=rfl;have h0:∀r:Nat,Xi none 4 [.ptr r 0,O8 0]=some (.ptr r 0):=fun r=>rfl;have h1:∀r:Nat,Xi none 4 [.ptr r 0,O8 1]=some (.ptr r 1):=fun r=>by rw[kq none (by decide)];simp[Sh.size]
  have h2:∀r:Nat,Xi none 4 [.ptr r 0,O8 2]=some (.ptr r 2):=fun r=>by rw[kq none (by decide)];simp[Sh.size]
  have h3:∀r:Nat,Xi none 4 [.ptr r 0,O8 3]=some (.ptr r 3):=fun r=>by rw[kq none (by decide)];simp[Sh.size]
  have hc:=lW;have hcmp:=Nk;have hcmp64:=u5;have hstr:=Nm;have fin:Kept (a.name=[]->a.args=[]->b.name=[]->b.args=[]->AV.pv none (.int .i64 (cmpI a.n b.n))=AV.pv none (.int .i64 (if cmpI a.n b.n=0 then if cmpI (a.args.length:Int) (b.args.length:Int)=0 then if Lib.compareBytes a.name b.name=0 then Tm.cmps a.args b.args else Lib.compareBytes a.name b.name else cmpI (a.args.length:Int) (b.args.length:Int) else cmpI a.n b.n))):=by
   intro h1 h2 h3 h4;rw[h1,h2,h3,h4];simp only[show cmpI (([]:List Tm).length:Int) (([]:List Tm).length:Int)=0 from by decide,Lib.compareBytes,Tm.cmps,if_true];split <;> simp_all
  have hlen:Kept (cmpI (a.args.length:Int) (b.args.length:Int)=0->a.args.length=b.args.length):=fun h=>by have:=cmpI_zero.1 h;omega
  rcases Tm.zze fa with⟨ka,xa,ya⟩|⟨ka,xa,ya⟩|⟨ka,xa,ya⟩|⟨ka,xa⟩ <;>
  rcases Tm.zze fb with⟨kb,xb,yb⟩|⟨kb,xb,yb⟩|⟨kb,xb,yb⟩|⟨kb,xb⟩ <;> (try replace ya:=Kept.mk ya) <;> (try replace yb:=Kept.mk yb) <;> (try replace xa:=Kept.mk (show a.name=[] from xa)) <;> (try replace xb:=Kept.mk (show b.name=[] from xb))
  all_goals (repeat' (first|(simp -dsimp -implicitDefEqProofs only[go_sem,seval,↓reduceIte,Ya,Yh,Ye,zV,Tm.pvs_len,YT, *])|(refine YI (fun _=> ?_) (fun _=> ?_))))
  all_goals first
   |(exact fin xa ya xb yb)
   |(refine loop (hlen.out (by assumption)) _ _ _ rfl (fun hz fr hp=> ?_) (fun hz hp r=> ?_) <;> simp -dsimp -implicitDefEqProofs only[go_sem,seval,↓reduceIte,YT,xP, *])
   |trace_state
theorem Vr(fv:AV)(hp:Heap)(r:Nat)(hr:r<hp.length)(a b n N:Nat)(P X M Y R:List PV)(hP:P.length=a)(hX:X.length=n)(hY:Y.length=n)(hb:b=a+n+M.length)(hN:N=(P++X++M++Y++R).length)(hN':N<1000000000):
  S 161 [.sl (some 4) r N 0 N,O8 a,O8 b,O8 n,fv] (hp.set r (.arr (some 4) (P++X++M++Y++R) false))=some (.ret (.tuple []),hp.set r (.arr (some 4) (P++Y++M++X++R) false)):=by
 refine YR rfl rfl rfl rfl ?_;have e1:∀A,(hp.set r A)[r]? =some A:=fun A=>by simp[hr]
 have hNl:N=P.length+n+M.length+n+R.length:=by rw[hN];simp[hX,hY];omega
 simp -dsimp -implicitDefEqProofs only[go_sem,seval,↓reduceIte];refine Yr (fun k st=>∃(i:Nat) (X1 X2 Y1 Y2:List PV),k=n - i/\i<=n/\X=X1++X2/\Y=Y1++Y2/\X1.length=i/\Y1.length=i/\st=⟨[(0,.sl (some 4) r N 0 N),(1,O8 a),(2,O8 b),(3,O8 n),(10,O8 i)],hp.set r (.arr (some 4) (P++Y1++X2++M++X1++Y2++R) false)⟩) (n:=n) ⟨0,[],X,[],Y,rfl,Zg _,rfl,rfl,rfl,rfl,?_⟩ ?_
 ·simp -dsimp -implicitDefEqProofs only[go_sem,seval,↓reduceIte];simp
 ·rintro k st ⟨i,X1,X2,Y1,Y2,hk,hi,eX,eY,lX,lY,rfl⟩;have l2X:X2.length=n - i:=by rw[eX] at hX;simp at hX;omega
  have l2Y:Y2.length=n - i:=by rw[eY] at hY;simp at hY;omega
  have hlen:(P++Y1++X2++M++X1++Y2++R).length=N:=by simp;omega
  by_cases h:i<n
  ·have hc:(i:Int)<(n:Int):=by omega
   obtain⟨x,X2,rfl⟩:∃x l,X2=x::l:=by cases X2 with|nil=>simp at l2X;omega|cons x l=>exact⟨x,l,rfl⟩
   obtain⟨y,Y2,rfl⟩:∃x l,Y2=x::l:=by cases Y2 with|nil=>simp at l2Y;omega|cons x l=>exact⟨x,l,rfl⟩
   have w1:IntKind.i64.wrap ((a:Int)+(i:Int))=((a+i:Nat):Int):=by rw[zZ (by omega) (by omega)];omega
   have w2:IntKind.i64.wrap ((b:Int)+(i:Int))=((b+i:Nat):Int):=by rw[zZ (by omega) (by omega)];omega
   have w3:=O0 i (by omega)
   have la:a+i<N:=by omega
   have lb:b+i<N:=by omega
   have s1:P++Y1++x::X2++M++X1++y::Y2++R=(P++Y1)++x::(X2++M++X1++y::Y2++R):=by simp
   have s2:P++Y1++x::X2++M++X1++y::Y2++R=(P++Y1++x::X2++M++X1)++y::(Y2++R):=by simp
   have g1:(P++Y1++x::X2++M++X1++y::Y2++R)[a+i]? =some x:=by rw[s1];exact xR (by simp;omega)
   have g2:(P++Y1++x::X2++M++X1++y::Y2++R)[b+i]? =some y:=by rw[s2];exact xR (by simp at l2X ⊢;omega)
   have g3:((P++Y1++x::X2++M++X1++y::Y2++R).set (a+i) y).set (b+i) x=P++(Y1++[y])++X2++M++(X1++[x])++Y2++R:=by
    rw[s1,xS (by simp;omega)];have s3:(P++Y1)++y::(X2++M++X1++y::Y2++R)=(P++Y1++y::X2++M++X1)++y::(Y2++R):=by simp
    rw[s3,xS (by simp at l2X ⊢;omega)];simp
   generalize hxs:P++Y1++x::X2++M++X1++y::Y2++R=xs at g1 g2 g3 hlen ⊢;simp -dsimp -implicitDefEqProofs only[go_sem,seval,↓reduceIte,hc,w1,w2,w3,Yp la,Yp lb,YX,qb,e1,g1,g2,hlen,zm,Z8,la,lb,g3];refine⟨n - (i+1),by omega,i+1,X1++[x],X2,Y1++[y],Y2,rfl,by omega,by simp[eX],by simp[eY],by simp[lX],by simp[lY],?_⟩;rw[YW (by simp)]
  ·have hc:¬(i:Int)<(n:Int):=by omega
   obtain rfl:i=n:=by omega
   have:X2=[]:=ZQ.1 (by omega);subst this;have:Y2=[]:=ZQ.1 (by omega);subst this;simp -dsimp -implicitDefEqProofs only[go_sem,seval,↓reduceIte,hc];rw[Zp (by simp)];simp[eX,eY]

theorem Nr(fv:AV)(hp:Heap)(r:Nat)(hr:r<hp.length)(a m b N:Nat)(P U V R:List PV)(hP:P.length=a)(hU:m=a+U.length)(hV:b=m+V.length)(hN:N=(P++U++V++R).length)(hN':N<1000000000)(hU0:0<U.length)(hV0:0<V.length):
  S 156 [.sl (some 4) r N 0 N,O8 a,O8 m,O8 b,fv] (hp.set r (.arr (some 4) (P++U++V++R) false))=some (.ret (.tuple []),hp.set r (.arr (some 4) (P++V++U++R) false)):=by
 refine YR rfl rfl rfl rfl ?_;have hNl:N=P.length+U.length+V.length+R.length:=by(rw[hN];simp <;> omega)
 have w1:IntKind.i64.wrap ((m:Int) - (a:Int))=((U.length:Nat):Int):=by rw[zZ (by omega) (by omega)];omega
 have w2:IntKind.i64.wrap ((b:Int) - (m:Int))=((V.length:Nat):Int):=by rw[zZ (by omega) (by omega)];omega
 simp -dsimp -implicitDefEqProofs only[go_sem,seval,↓reduceIte,w1,w2];refine Yr (fun k st=>∃(i j:Nat) (P' X Y R':List PV),k=i+j/\0<i/\0<j/\X.length=i/\Y.length=j/\P'.length+i=m/\P'++Y++X++R'=P++V++U++R/\(P'++X++Y++R').length=N/\st=⟨[(0,.sl (some 4) r N 0 N),(2,O8 m),(4,fv),(10,O8 i),(11,O8 j)],hp.set r (.arr (some 4) (P'++X++Y++R') false)⟩) (n:=U.length+V.length) ⟨U.length,V.length,P,U,V,R,rfl,hU0,hV0,rfl,rfl,by omega,rfl,hN.symm,?_⟩ ?_
 ·simp -dsimp -implicitDefEqProofs only[go_sem,seval,↓reduceIte]
 ·rintro k st ⟨i,j,P',X,Y,R',hk,i0,j0,lX,lY,lP,hT,hL,rfl⟩;have hLn:P'.length+i+j+R'.length=N:=by(rw[<-hL];simp <;> omega)
  by_cases hij:i=j
  ·have hc:(i:Int)=(j:Int):=by omega
   have w3:IntKind.i64.wrap ((m:Int) - (j:Int))=((P'.length:Nat):Int):=by rw[zZ (by omega) (by omega)];omega
   have hcall:=Vr fv hp r hr P'.length m j N P' X [] Y R' rfl (by omega) (by omega) (by(simp <;> omega)) (by simp at hL ⊢;omega) hN';simp only[ZF] at hcall;rw[hT] at hcall;simp -dsimp -implicitDefEqProofs only[go_sem,seval,↓reduceIte,hc,w3,hcall];rw[Zp (by simp)]
  ·have hc:¬(i:Int)=(j:Int):=by omega
   by_cases hgt:j<i
   ·have hc2:(j:Int)<(i:Int):=by omega
    have w3:IntKind.i64.wrap ((m:Int) - (i:Int))=((P'.length:Nat):Int):=by rw[zZ (by omega) (by omega)];omega
    have w4:IntKind.i64.wrap ((i:Int) - (j:Int))=((i - j:Nat):Int):=by rw[zZ (by omega) (by omega)];omega
    have eX:X=X.take j++X.drop j:=(ZK j X).symm;have hcall:=Vr fv hp r hr P'.length m j N P' (X.take j) (X.drop j) Y R' rfl (by(simp <;> omega)) (by omega) (by(simp <;> omega)) (by(rw[<-hL];simp <;> omega)) hN';have e0:P'++X.take j++X.drop j++Y++R'=P'++X++Y++R':=by simp
    rw[e0] at hcall;simp -dsimp -implicitDefEqProofs only[go_sem,seval,↓reduceIte,hc,hc2,w3,w4,hcall];refine⟨i - j+j,by omega,i - j,j,P'++Y,X.drop j,X.take j,R',rfl,by omega,by omega,by(simp <;> omega),by(simp <;> omega),by(simp <;> omega),?_,?_,?_⟩
    ·rw[<-hT];simp
    ·rw[<-hL];simp <;> omega
    ·rw[YW (by simp)]
   ·have hc2:¬(j:Int)<(i:Int):=by omega
    have w3:IntKind.i64.wrap ((m:Int) - (i:Int))=((P'.length:Nat):Int):=by rw[zZ (by omega) (by omega)];omega
    have w4:IntKind.i64.wrap ((j:Int) - (i:Int))=((j - i:Nat):Int):=by rw[zZ (by omega) (by omega)];omega
    have w5:IntKind.i64.wrap ((m:Int)+(j:Int))=((m+j:Nat):Int):=by rw[zZ (by omega) (by omega)];omega
    have w6:IntKind.i64.wrap (((m+j:Nat):Int) - (i:Int))=((m+j - i:Nat):Int):=by rw[zZ (by omega) (by omega)];omega
    have hcall:=Vr fv hp r hr P'.length (m+j - i) i N P' X (Y.take (j - i)) (Y.drop (j - i)) R' rfl lX (by(simp <;> omega)) (by(simp <;> omega)) (by(rw[<-hL];simp <;> omega)) hN';have e0:P'++X++Y.take (j - i)++Y.drop (j - i)++R'=P'++X++Y++R':=by simp
    rw[e0] at hcall;simp -dsimp -implicitDefEqProofs only[go_sem,seval,↓reduceIte,hc,hc2,w3,w4,w5,w6,hcall];refine⟨i+(j - i),by omega,i,j - i,P',Y.drop (j - i),Y.take (j - i),X++R',rfl,by omega,by omega,by(simp <;> omega),by(simp <;> omega),by omega,?_,?_,?_⟩
    ·rw[<-hT];simp
    ·rw[<-hL];simp <;> omega
    ·rw[YW (by simp)];simp

def CmpF(c:PV->PV->Int)(fv:AV)(D:PV->Prop)(hp:Heap)(r:Nat):Prop:=∃g fs cs,yB fv=some (g,fs,cs)/\∀x y,D x->D y->∀A,S g (fs++[.pv (some 4) x,.pv (some 4) y]++cs) (hp.set r A)=some (.ret (O8 (c x y)),hp.set r A)

theorem Ns(c:PV->PV->Int)(hC:Cmp c)(fv:AV)(D:PV->Prop)(hp:Heap)(r:Nat)(hg:CmpF c fv D hp r)(hr:r<hp.length)(a b i N:Nat)(P S1 R:List PV)(t:PV)(hP:P.length=a)(hs:Srt c S1)(hi:i=a+S1.length)(hN:N=(P++S1++t::R).length)(hN':N<1000000000)(hD:∀x∈S1,D x)(hDt:D t)
  (fr:Fr)(Q:AExit->St->Prop)
  (hfr:fr.keep [0,1,2,3,8,9]=[(0,.sl (some 4) r N 0 N),(1,O8 a),(2,O8 b),(3,fv),(8,O8 i),(9,O8 i)])
  (h:∀rest,Q (.exit 2) ⟨(0,.sl (some 4) r N 0 N)::(1,O8 a)::(2,O8 b)::(3,fv)::(8,O8 i)::rest,hp.set r (.arr (some 4) (P++insC c t S1++R) false)⟩):
  W Z L hp.length (.loop [0,1,2,3,8,9] c150b9) ⟨fr,hp.set r (.arr (some 4) (P++S1++t::R) false)⟩ Q:=by
 have e1:∀A,(hp.set r A)[r]? =some A:=fun A=>by simp[hr]
 have hNl:N=P.length+S1.length+R.length+1:=by rw[hN];simp;omega
 refine Yr (fun k st=>∃(L1 M:List PV),k=L1.length/\S1=L1++M/\(∀m∈M,c t m<0)/\st=⟨[(0,.sl (some 4) r N 0 N),(1,O8 a),(2,O8 b),(3,fv),(8,O8 i),(9,O8 ((a+L1.length:Nat):Int))],hp.set r (.arr (some 4) (P++L1++t::M++R) false)⟩) (n:=S1.length) ⟨S1,[],rfl,by simp,by simp,?_⟩ ?_
 ·rw[hfr,hi];simp
 ·rintro k st ⟨L1,M,hk,hS,hM,rfl⟩;have hSl:S1.length=L1.length+M.length:=by rw[hS];simp
  have hlen:(P++L1++t::M++R).length=N:=by simp;omega
  have fin:(∀x∈L1,¬c t x<0)->P++insC c t S1++R=P++L1++t::M++R:=fun hx=>by
   rw[hS,jk hx hM];simp
  rcases Jc L1 with rfl|⟨L2,x,rfl⟩
  ·have hc:¬((a:Nat):Int)<((a+([]:List PV).length:Nat):Int):=by simp
   have hf:=fin (by simp);rw[hf] at h;simp -dsimp -implicitDefEqProofs only[c150b9,go_sem,seval,↓reduceIte,hc,Int.lt_irrefl];exact h _
  ·have hxl:(L2++[x]).length=L2.length+1:=by simp
   have hc:((a:Nat):Int)<((a+(L2++[x]).length:Nat):Int):=by rw[hxl];omega
   have w1:IntKind.i64.wrap (((a+(L2++[x]).length:Nat):Int) - 1)=((a+L2.length:Nat):Int):=by rw[zZ (by omega) (by omega)];omega
   have la:a+(L2++[x]).length<N:=by omega
   have lb:a+L2.length<N:=by omega
   have s1:P++(L2++[x])++t::M++R=(P++(L2++[x]))++t::(M++R):=by simp
   have s2:P++(L2++[x])++t::M++R=(P++L2)++x::(t::M++R):=by simp
   have g1:(P++(L2++[x])++t::M++R)[a+(L2++[x]).length]? =some t:=by rw[s1];exact xR (by simp;omega)
   have g2:(P++(L2++[x])++t::M++R)[a+L2.length]? =some x:=by rw[s2];exact xR (by simp;omega)
   have hxm:x∈S1:=by rw[hS];simp
   obtain⟨g,fs,cs,hcal,hg'⟩:=hg;have hcall:=hg' t x hDt (hD x hxm);by_cases hlt:c t x<0
   ·have g3:((P++(L2++[x])++t::M++R).set (a+(L2++[x]).length) x).set (a+L2.length) t=P++L2++t::(x::M)++R:=by
     rw[s1,xS (by simp;omega)];have s3:(P++(L2++[x]))++x::(M++R)=(P++L2)++x::(x::M++R):=by simp
     rw[s3,xS (by simp;omega)];simp
    generalize hxs:P++(L2++[x])++t::M++R=xs at g1 g2 g3 hlen ⊢;simp -dsimp -implicitDefEqProofs only[c150b9,go_sem,seval,↓reduceIte,hc,w1,Yp la,Yp lb,YX,qb,e1,g1,g2,hlen,zm,Z8,la,lb,g3,hcall,xQ hcal,hlt];refine⟨L2.length,by omega,L2,x::M,rfl,by rw[hS];simp,?_,?_⟩
    ·intro m hm;rcases Zt.1 hm with rfl|hm
     ·exact hlt
     ·exact hM m hm
    ·rw[YW (by simp)]
   ·have hf:=fin (fun y hy=>by
     rcases Zr.1 hy with hy|hy
     ·have hyx:c y x<=0:=by
       rw[hS] at hs;have:=(List.pairwise_append.1 (List.pairwise_append.1 hs).1).2.2 y hy x (by simp);exact this
      intro hty;have:=hC.lt_of_lt_le hty hyx;exact hlt this
     ·simp at hy;subst hy;exact hlt)
    rw[hf] at h;generalize hxs:P++(L2++[x])++t::M++R=xs at g1 g2 hlen h ⊢;simp -dsimp -implicitDefEqProofs only[c150b9,go_sem,seval,↓reduceIte,hc,w1,Yp la,Yp lb,YX,e1,g1,g2,hlen,hcall,xQ hcal,hlt];exact h _

theorem G7(c:PV->PV->Int)(hC:Cmp c)(fv:AV)(D:PV->Prop)(hp:Heap)(r:Nat)(hg:CmpF c fv D hp r)(hr:r<hp.length)(a b N:Nat)(P A R:List PV)(hP:P.length=a)(hA:b=a+A.length)(hN:N=(P++A++R).length)(hN':N<1000000000)(hD:∀x∈A,D x):
  S 150 [.sl (some 4) r N 0 N,O8 a,O8 b,fv] (hp.set r (.arr (some 4) (P++A++R) false))=some (.ret (.tuple []),hp.set r (.arr (some 4) (P++isort c A++R) false)):=by
 refine YR rfl rfl rfl rfl ?_;have hNl:N=P.length+A.length+R.length:=by(rw[hN];simp <;> omega)
 have hsl:(hp.set r (.arr (some 4) (P++A++R) false)).length=hp.length:=by simp
 have w0:=O0 a (by omega)
 rw[hsl];simp -dsimp -implicitDefEqProofs only[c150b9,go_sem,seval,↓reduceIte,w0];refine Yr (fun n st=>∃k:Nat,n=A.length - k/\1<=k/\st=⟨[(0,.sl (some 4) r N 0 N),(1,O8 a),(2,O8 b),(3,fv),(8,O8 ((a+k:Nat):Int))],hp.set r (.arr (some 4) (P++isort c (A.take k)++A.drop k++R) false)⟩) (n:=A.length - 1) ⟨1,rfl,Zi _,?_⟩ ?_
 ·simp -dsimp -implicitDefEqProofs only[go_sem,seval,↓reduceIte];cases A with
  |nil=>simp[isort]
  |cons x A=>simp[isort,insC]
 ·rintro n st ⟨k,hn,hk,rfl⟩;by_cases h:k<A.length
  ·have hc:((a+k:Nat):Int)<(b:Int):=by omega
   obtain⟨t,R1,hd⟩:∃t R1,A.drop k=t::R1:=⟨A[k],A.drop (k+1),ZS h⟩;have hd1:A.drop (k+1)=R1:=by rw[<-ZN,hd];rfl
   have ht:A.take (k+1)=A.take k++[t]:=by
    have:A[k]? =some t:=by have:=congrArg List.head? hd;simpa using this
    rw[ZL,this];rfl
   have w3:IntKind.i64.wrap (((a+k:Nat):Int)+1)=((a+(k+1):Nat):Int):=by rw[zZ (by omega) (by omega)];omega
   have hlk:(isort c (A.take k)).length=k:=by rw[ym];simp;omega
   have e0:P++isort c (A.take k)++A.drop k++R=P++isort c (A.take k)++t::(R1++R):=by rw[hd];simp
   have hmem:∀x∈isort c (A.take k),D x:=fun x hx=>hD x (zO ((X8 _).mem_iff.1 hx));have htm:D t:=hD t (zG (show t∈A.drop k from by rw[hd];simp));simp -dsimp -implicitDefEqProofs only[go_sem,seval,↓reduceIte,hc];rw[e0];refine Ns c hC fv D hp r hg hr a b (a+k) N P (isort c (A.take k)) (R1++R) t hP (qc hC _) (by omega) (by rw[<-e0];simp[hlk];omega) hN' hmem htm _ _ rfl fun rest=> ?_;simp -dsimp -implicitDefEqProofs only[go_sem,seval,↓reduceIte,w3];refine⟨A.length - (k+1),by omega,k+1,rfl,by omega,?_⟩;rw[YW (by simp),ht,l9,hd1];simp
  ·have hc:¬((a+k:Nat):Int)<(b:Int):=by omega
   simp -dsimp -implicitDefEqProofs only[go_sem,seval,↓reduceIte,hc];rw[Zp (by simp),Zp (by omega),List.drop_eq_nil_of_le (by omega)];simp
end Go.Proofs.YtffecaafklpmhaaGreat
