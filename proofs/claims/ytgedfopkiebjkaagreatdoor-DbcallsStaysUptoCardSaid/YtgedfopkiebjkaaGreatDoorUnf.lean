/- Unification: from chapter 05. -/
import Derived.Test.YtgedfopkiebjkaaGreatDoorRdx
set_option linter.unusedSimpArgs false
set_option linter.unusedVariables false
set_option maxRecDepth 20000
namespace Go.Proofs.YtgedfopkiebjkaaGreatDoor
open Go.Am
abbrev B:=Int × Tm
def bdp(b:B):PV:=.agg [(none,.int .i64 b.1),(some 4,b.2.pv)]
def bds(l:List B):List PV:=l.map bdp
theorem Xu(l:List B):(bds l).length=l.length:=by simp[bds]
theorem JF{l:List B}{i:Nat}{b:B}(h:l[i]? =some b):(bds l)[i]? =some (bdp b):=by simp[bds,h]
theorem Bl(b:B):PV.part deep (bdp b) 0 none=some (.int .i64 b.1):=rfl
theorem V3(b:B):PV.part deep (bdp b) 1 (some 4)=some b.2.pv:=rfl
def Srt'(l:List B):Prop:=l.Pairwise (fun a b=>a.1<b.1)
def lbB(l:List B)(v:Int):Nat:=(l.takeWhile (fun b=>decide (b.1<v))).length
def fndB(l:List B)(v:Int):Bool:=match l[lbB l v]? with
 |some b=>decide (b.1=v)
 |none=>false
theorem Bm(l:List B)(v:Int):lbB l v<=l.length:=(List.takeWhile_sublist _).length_le
theorem Kd{v:Int}:∀{l:List B},Srt' l->∀{k:Nat} {x:B},l[k]? =some x->(x.1<v↔k<lbB l v)
 |[],_,k,x,h=>by grind
 |y::r,hs,k,x,h=>by
  obtain⟨h1,h2⟩:=zp.1 hs;unfold lbB;by_cases hy:y.1<v
  ·rw[List.takeWhile_cons_of_pos (by grind)];cases k with
   |zero=>grind
   |succ k=>
    have:=Kd (v:=v) h2 (k:=k) (x:=x) (by grind)
    grind [lbB]
  grind [List.takeWhile_cons_of_neg]
theorem nC(hp:Heap)(x:Int):S 174 [P4 x] hp=some (.ret (P5 false),hp):=by
 refine zM rfl rfl rfl (zK [(none,.int .i64 x)]) rfl ?_
 (repeat' (first|(simp -dsimp -implicitDefEqProofs only[go_sem,seval, *])|(refine Y6 (fun _=> ?_) (fun _=> ?_))))
theorem nD(hp:Heap)(x y:Int):S 171 [P4 x,P4 y] hp=some (.ret (P4 (cmpI x y)),hp):=by
 refine zM rfl rfl rfl (zK [(none,.int .i64 x),(none,.int .i64 y)]) rfl ?_
 (repeat' (first|(simp -dsimp -implicitDefEqProofs only[go_sem,seval,nC,cmpI, *])|(refine Y6 (fun _=> ?_) (fun _=> ?_))))
theorem nE(hp:Heap)(b:B)(v:Int):S 170 [.pv (some 5) (bdp b),P4 v] hp=some (.ret (P4 (cmpI b.1 v)),hp):=by
 refine zM rfl rfl rfl (zK [(some 5,bdp b),(none,.int .i64 v)]) rfl ?_;have h:=fun hp=>nD hp b.1 v
 (repeat' (first|(simp -dsimp -implicitDefEqProofs only[go_sem,seval,Bl, *])|(refine Y6 (fun _=> ?_) (fun _=> ?_))))
theorem cmpI_lt{x y:Int}:cmpI x y<0↔x<y:=by
 grind [cmpI]
theorem nF(l:List B)(v:Int)(hs:Srt' l)(hl:l.length<1000000000)(hp:Heap):
  S 169 [.pv none (.sl (some 5) (bds l)),P4 v,.pv none (.func (.func 170))] hp=some (.ret (.tuple [P4 (lbB l v:Int),P5 (fndB l v)]),hp):=by
 refine zM rfl rfl rfl (zK [(none,.sl (some 5) (bds l)),(none,.int .i64 v),(none,.func (.func 170))]) rfl ?_;have hlb:=Bm l v;have hcall:=fun(b:B) hp=>nE hp b v;simp -dsimp -implicitDefEqProofs only[go_sem,seval,Xu];refine XH (fun n st=>∃i j:Nat,n=j - i/\i<=lbB l v/\lbB l v<=j/\j<=l.length/\st=⟨[(0,.pv none (.sl (some 5) (bds l))),(1,P4 v),(2,.pv none (.func (.func 170))),(8,P4 (l.length:Int)),(9,P4 i),(10,P4 j)],[]⟩) (n:=l.length) ⟨0,l.length,by omega,by omega,hlb,by omega,?_⟩ ?_
 ·simp -dsimp -implicitDefEqProofs only[go_sem,seval]
  try rfl
 ·rintro n st ⟨i,j,hn,h1,h2,h3,rfl⟩;by_cases hij:i<j
  ·have hc:(i:Int)<(j:Int):=by omega
   obtain⟨x,hx⟩:∃x,l[(i+j) / 2]? =some x:=⟨_,Ze (by omega)⟩;have hsp:=Kd (v:=v) hs hx;have w1:IntKind.i64.wrap ((i:Int)+(j:Int))=((i+j:Nat):Int):=by grind [zU]
   have w2:IntKind.u64.wrap ((i+j:Nat):Int)=((i+j:Nat):Int):=Gw (by omega) (by omega);have w3:IntKind.i64.wrap (((i+j:Nat):Int) / 2)=(((i+j) / 2:Nat):Int):=by grind [zU]
   have w4:IntKind.i64.wrap ((((i+j) / 2:Nat):Int)+1)=(((i+j) / 2+1:Nat):Int):=by grind [zU]
   by_cases h0:cmpI x.1 v<0
   ·simp -dsimp -implicitDefEqProofs only[go_sem,seval,Xu,hc,jD (show 0<IntKind.bits .u64 by decide),w1,w2,w3,w4,zT (JF hx),hcall,h0];refine⟨j - ((i+j) / 2+1),by omega,(i+j) / 2+1,j,rfl,?_,h2,h3,rfl⟩
    grind [cmpI_lt]
   ·simp -dsimp -implicitDefEqProofs only[go_sem,seval,Xu,hc,jD (show 0<IntKind.bits .u64 by decide),w1,w2,w3,w4,zT (JF hx),hcall,h0];refine⟨(i+j) / 2 - i,by omega,i,(i+j) / 2,rfl,h1,?_,by omega,rfl⟩;simp_all[cmpI_lt]
  ·have hc:¬(i:Int)<(j:Int):=by omega
   obtain rfl:i=lbB l v:=by omega
   by_cases hll:lbB l v<l.length
   ·have hc2:((lbB l v:Nat):Int)<(l.length:Int):=by omega
    obtain⟨x,hx⟩:∃x,l[lbB l v]? =some x:=⟨_,Ze hll⟩;have hf:fndB l v=decide (cmpI x.1 v=0):=by grind [fndB,GA]
    simp -dsimp -implicitDefEqProofs only[go_sem,seval,Xu,hc,hc2,zT (JF hx),hcall,hf]
   ·have hc2:¬((lbB l v:Nat):Int)<(l.length:Int):=by omega
    have hf:fndB l v=false:=by grind [fndB]
    simp -dsimp -implicitDefEqProofs only[go_sem,seval,Xu,hc,hc2,hf]
theorem Bn(l:List B)(v:Int)(hs:Srt' l)(hl:l.length<1000000000)(hp:Heap):
  S 166 [.pv none (.sl (some 5) (bds l)),P4 v] hp=some (.ret (.tuple [P4 (lbB l v:Int),P5 (fndB l v)]),hp):=by
 refine zM rfl rfl rfl (zK [(none,.sl (some 5) (bds l)),(none,.int .i64 v)]) rfl ?_;have h:=nF l v hs hl;simp -dsimp -implicitDefEqProofs only[go_sem,seval,h]
def IsB(s:AV)(hp:Heap)(l:List B):Prop:=(s=.tsl (some 5) []/\l=[])\/∃r,s=.sl (some 5) r l.length 0 l.length/\hp[r]? =some (.arr (some 5) (bds l) false)
theorem IsB.freeze{s:AV}{hp:Heap}{l:List B}(h:IsB s hp l):∃hp1,AV.freeze deep s hp=some (.sl (some 5) (bds l),hp1)/\s.shp=none/\s.plain=true:=by
 rcases h with⟨rfl,rfl⟩|⟨r,rfl,h⟩
 ·exact⟨hp,rfl,rfl,rfl⟩
 ·exact⟨hp.set r (.arr (some 5) (bds l) true),by simp[AV.freeze,deep,h,Xu],rfl,rfl⟩
theorem V4{s:AV}{hp:Heap}{l:List B}(h:IsB s hp l)(v:Int)(hs:Srt' l)(hl:l.length<1000000000):
  S 166 [s,P4 v] hp=some (.ret (.tuple [P4 (lbB l v:Int),P5 (fndB l v)]),hp):=by
 obtain⟨hp1,h1,h2,_⟩:=h.freeze;have:=X7 (F:=find tab) (prim:=prim) (f:=166) (args:=[s,P4 v]) (ps:=[(none,.sl (some 5) (bds l)),(none,.int .i64 v)]) (hp:=hp) (hp1:=hp1) rfl rfl rfl (by
  have e:∀H:Heap,AV.freeze deep (P4 v) H=some (.int .i64 v,H):=fun _=>rfl;simp only[zZ,h1,e,h2];rfl) (Bn l v hs hl [])
 exact this
def insB(l:List B)(v:Int)(t:Tm):List B:=l.take (lbB l v)++[(v,t)]++l.drop (lbB l v)
theorem Ke(l:List B)(v:Int)(t:Tm):(insB l v t).length=l.length+1:=by
 grind [insB]
theorem nG(l:List B)(v:Int)(t:Tm):bds (insB l v t)=(bds l).take (lbB l v)++[bdp (v,t)]++(bds l).drop (lbB l v):=by
 simp[bds,insB,List.map_take,List.map_drop]
def Pres(s:AV)(hp hp':Heap):Prop:=hp.length<=hp'.length/\∀(i:Nat) (x:AObj),hp[i]? =some x->(∀v o n,s≠.sl (some 5) i v o n)->hp'[i]? =some x
theorem Bo{s:AV}{H:Heap}{l:List B}(h:IsB s H l)(v:Int)(t:Tm)(hl:l.length+1<1000000000):
  ∃s' H',S 168 [s,P4 (lbB l v:Int),.tsl (some 5) [bdp (v,t)]] H=some (.ret s',H')/\IsB s' H' (insB l v t)/\Pres s H H'/\((∃r n,s=.sl (some 5) r n 0 n/\s'=.sl (some 5) r (l.length+1) 0 (l.length+1)/\H'=H.set r (.arr (some 5) (bds (insB l v t)) false))\/(s=.tsl (some 5) []/\s'=.sl (some 5) H.length 1 0 1/\H'=H++[.arr (some 5) (bds (insB l v t)) false])):=by
 have hlb:=Bm l v;have hlen:=Ke l v t;rcases h with⟨rfl,rfl⟩|⟨r,rfl,hr⟩
 ·refine⟨.sl (some 5) H.length 1 0 1,H++[.arr (some 5) [bdp (v,t)] false],?_,.inr ⟨H.length,rfl,by simp[bds,insB,lbB]⟩,⟨by simp,fun i x hx _=>by grind⟩,.inr ⟨rfl,rfl,by simp[bds,insB,lbB]⟩⟩;rw[S,x9 (F:=find tab) (prim:=prim) (p:=yK (some 5)) rfl];simp[yK,lbB,z8,aappend,elems,lim]
 ·refine⟨.sl (some 5) r (l.length+1) 0 (l.length+1),H.set r (.arr (some 5) (bds (insB l v t)) false),?_,.inr ⟨r,by grind,by grind⟩,⟨by simp,fun i x hx hne=> ?_⟩,.inl ⟨r,_,rfl,rfl,rfl⟩⟩
  ·rw[S,x9 (F:=find tab) (prim:=prim) (p:=yK (some 5)) rfl,nG];by_cases he:lbB l v=l.length
   ·have e1:(bds l).take (lbB l v)=bds l:=by grind [Xu]
    have e2:(bds l).drop (lbB l v)=[]:=by grind
    grind [lim,yK,z8,aappend,elems,Xu]
   grind [lim,yK,Xu]
  grind
theorem IsB.more{s:AV}{hp:Heap}{l:List B}(h:IsB s hp l)(e:Heap):IsB s (hp++e) l:=by
 rcases h with h|⟨r,h1,h2⟩
 ·exact .inl h
 ·exact .inr ⟨r,h1,by grind⟩
theorem IsB.low{s:AV}{hp:Heap}{l:List B}(h:IsB s hp l):∀q∈s.refsIn,q<hp.length:=by
 rcases h with⟨rfl,_⟩|⟨r,rfl,h2⟩
 ·intro q hq;cases hq
 grind [AV.refsIn]
def Own(s:AV)(hp:Heap)(s':AV):Prop:=∀r v o n,s'=.sl (some 5) r v o n->(∃v o n,s=.sl (some 5) r v o n)\/hp.length<=r
theorem Own.trans{s s1 s2:AV}{hp hp1:Heap}(h1:Own s hp s1)(hl:hp.length<=hp1.length)(h2:Own s1 hp1 s2):Own s hp s2:=fun r v o n e=>by
 rcases h2 r v o n e with⟨v',o',n',e'⟩|h
 ·exact h1 r v' o' n' e'
 grind
theorem Pres.trans{s s1:AV}{hp hp1 hp2:Heap}(h1:Pres s hp hp1)(ho:Own s hp s1)(h2:Pres s1 hp1 hp2):Pres s hp hp2:=
 ⟨Zz h1.1 h2.1,fun i x hx hne=>h2.2 i x (h1.2 i x hx hne) fun v o n e=>by
  rcases ho i v o n e with⟨v',o',n',e'⟩|h
  ·grind
  grind⟩
theorem Pres.take{s:AV}{hp hp1:Heap}{n:Nat}(h:Pres s hp hp1)(hn:hp.length<=n):Pres s hp (hp1.take n):=
 ⟨by rw[Zx];have:=h.1;omega,fun i x hx hne=>by
  have:=YZ hx;rw[ZT,Zj (by omega)];exact h.2 i x hx hne⟩
theorem IsB.take{s:AV}{hp:Heap}{l:List B}{n:Nat}(h:IsB s hp l)(hr:∀q∈s.refsIn,q<n):IsB s (hp.take n) l:=by
 rcases h with h|⟨r,rfl,h2⟩
 ·exact .inl h
 ·have:r<n:=hr r (by simp[AV.refsIn]);exact .inr ⟨r,rfl,by grind⟩
def Good(l:List B):Prop:=Srt' l/\∀b∈l,b.2.valid=true/\b.2.size<1000000000
theorem Bp(b:B)(r:List B)(v:Int):lbB (b::r) v=if b.1<v then lbB r v+1 else 0:=by
 grind [lbB,List.takeWhile_cons_of_pos,List.takeWhile_cons_of_neg]
theorem nI(b:B)(r:List B)(v:Int):fndB (b::r) v=if b.1<v then fndB r v else decide (b.1=v):=by
 grind [fndB,Bp]
theorem nJ(b:B)(r:List B)(v:Int)(t:Tm):insB (b::r) v t=if b.1<v then b::insB r v t else(v,t)::b::r:=by
 grind [insB,Bp]
theorem Kf{l:List B}{v:Int}{t:Tm}{x:B}(h:x∈insB l v t):x=(v,t)\/x∈l:=by
 grind [insB]
theorem JG:∀{l:List B} {v:Int} {t:Tm},Srt' l->fndB l v=false->Srt' (insB l v t)
 |[],v,t,_,_=>by simp[insB,Srt']
 |b::r,v,t,hs,hf=>by
  obtain⟨h1,h2⟩:=zp.1 hs;rw[nJ];rw[nI] at hf;split
  ·rename_i hb;rw[Zj hb] at hf;refine zp.2 ⟨fun x hx=> ?_,JG h2 hf⟩;rcases Kf hx with rfl|hx
   ·exact hb
   grind
  ·rename_i hb;rw[Zb hb] at hf;have hne:b.1≠v:=by grind
   refine zp.2 ⟨fun x hx=> ?_,hs⟩
   grind
theorem nK{l:List B}{v:Int}{t:Tm}(h:Good l)(hf:fndB l v=false)(hv:t.valid=true)(ht:t.size<1000000000):Good (insB l v t):=
 ⟨JG h.1 hf,fun b hb=>by
  rcases Kf hb with rfl|hb
  ·grind
  ·exact h.2 b hb⟩
theorem nL{α:Type}{l:List α}{i:Nat}{x:α}(h:l[i]? =some x):l.take (i+1)=l.take i++[x]:=by
 grind [Z8]
structure OKB(l:List B):Prop where
 good:Good l
 rng:∀b∈l,0<=b.1/\b.1<=1099511627776
 acyc:∃rk:Nat->Nat,∀(i:Nat) (b:B),l[i]? =some b->∀w∈b.2.occ,fndB l w=true->rk (lbB l w)<rk i
mutual
def Tm.wt(f:Int->Nat):Tm->Nat
 | .mk k n _ ts=>1+(if k=0 then f n else Tm.wts f ts)
def Tm.wts(f:Int->Nat):List Tm->Nat
 |[]=>0
 |t::r=>Tm.wt f t+Tm.wts f r
end
theorem Tm.zBe(f:Int->Nat)(t:Tm):Tm.wt f t=1+(if t.kind=0 then f t.n else Tm.wts f t.args):=by
 cases t;rfl
theorem Tm.zBc{f:Int->Nat}:∀{l:List Tm} {t:Tm},t∈l->Tm.wt f t<=Tm.wts f l
 |[],_,h=>by cases h
 |x::r,t,h=>by
  rw[Tm.wts];rcases Zy.1 h with rfl|h
  ·omega
  ·have:=Tm.zBc (f:=f) h;omega
theorem Tm.zA4{f g:Int->Nat}:∀l:List Tm,(∀u∈l,Tm.wt f u=Tm.wt g u)->Tm.wts f l=Tm.wts g l
 |[],_=>rfl
 |x::r,h=>by rw[Tm.wts,Tm.wts,h x ZG,Tm.zA4 r fun u hu=>h u (Zw _ hu)]
theorem Tm.zBf{f g:Int->Nat}:∀t:Tm,(∀w∈t.occ,f w=g w)->Tm.wt f t=Tm.wt g t:=by
 intro t
 induction t using Tm.zAH with
 |h t ih=>
  grind [Tm.zBe,Tm.zAJ,Tm.zA4,Tm.zA6]
def toB(l:List B)(v:Int):Tm:=match l[lbB l v]? with
 |some b=>b.2
 |none=>default
theorem JH{l:List B}{v:Int}(h:fndB l v=true):l[lbB l v]? =some (v,toB l v):=by
 grind [fndB,toB]
def Acyc(l:List B):Prop:=∃r:Int->Nat,∀v,fndB l v=true->∀w∈(toB l v).occ,fndB l w=true->r w<r v
theorem Br{l:List B}(hs:Srt' l){i:Nat}{b:B}(hb:l[i]? =some b):fndB l b.1=true/\lbB l b.1=i:=by
 have hlt:=(Zf.1 hb).1;have h1:¬i<lbB l b.1:=fun h=>by have:=(Kd (v:=b.1) hs hb).2 h;omega
 have h2:¬lbB l b.1<i:=fun h=>by
  obtain⟨c,hc⟩:∃c,l[lbB l b.1]? =some c:=⟨_,Ze (by omega)⟩;have h3:c.1<b.1:=by
   obtain⟨l1,e1⟩:=Zf.1 hc;obtain⟨l2,e2⟩:=Zf.1 hb;have:=List.pairwise_iff_getElem.1 hs _ _ l1 l2 h
   grind
  have:=(Kd (v:=b.1) hs hc).1 h3;omega
 grind [fndB]
theorem OKB.Acyc{l:List B}(h:OKB l):Acyc l:=by
 obtain⟨rk,hr⟩:=h.acyc;refine⟨fun v=>rk (lbB l v),fun v hv w hw hf=> ?_⟩
 grind [JH]
theorem nM{l:List B}(hG:Good l)(hr:∀b∈l,0<=b.1/\b.1<=1099511627776)(ha:Acyc l):OKB l:=by
 obtain⟨r,ha⟩:=ha;refine⟨hG,hr,fun i=>match l[i]? with|some b=>r b.1|none=>0,fun i b hb w hw hf=> ?_⟩;obtain⟨h1,h2⟩:=Br hG.1 hb
 grind [JH]
theorem V5{X:Type}{l:List B}(h:Acyc l)(u:Int->X)(s:(Int->X)->Tm->X)(cg:∀f g t,(∀w∈t.occ,f w=g w)->s f t=s g t):
  ∃f:Int->X,∀v,f v=if fndB l v=true then s f (toB l v) else u v:=by
 obtain⟨rk,ha⟩:=h;obtain⟨it,h0,h1⟩:∃it:Nat->Int->X,(∀v,it 0 v=u v)/\∀n v,it (n+1) v=if fndB l v=true then s (it n) (toB l v) else u v:=
  ⟨fun n=>Nat.rec u (fun _ f v=>if fndB l v=true then s f (toB l v) else u v) n,fun _=>rfl,fun _ _=>rfl⟩
 have hu:∀n v,¬fndB l v=true->it n v=u v:=fun n v hv=>by
  cases n with
  |zero=>grind
  |succ n=>grind
 have stab:∀k n m v,rk v=k->k<n->k<m->it n v=it m v:=by
  intro k
  induction k using Nat.strongRecOn with
  |_ k ih=>
   intro n m v hk hn hm;by_cases hv:fndB l v=true
   ·obtain⟨n',rfl⟩:∃n',n=n'+1:=⟨n - 1,by omega⟩;obtain⟨m',rfl⟩:∃m',m=m'+1:=⟨m - 1,by omega⟩
    grind
   grind
 refine⟨fun v=>it (rk v+1) v,fun v=> ?_⟩
 grind
open Classical in
noncomputable def rsv(l:List B):Int->Tm:=if h:Acyc l then Classical.choose (V5 h tvar Tm.sub fun _ _ t h=>Tm.zBd t h) else tvar
theorem nN{l:List B}(h:Acyc l)(v:Int):rsv l v=if fndB l v=true then Tm.sub (rsv l) (toB l v) else tvar v:=by
 unfold rsv
 grind
open Classical in
noncomputable def muv(l:List B):Int->Nat:=if h:Acyc l then Classical.choose (V5 h (fun _=>0) Tm.wt fun _ _ t h=>Tm.zBf t h) else fun _=>0
theorem nO{l:List B}(h:Acyc l)(v:Int):muv l v=if fndB l v=true then Tm.wt (muv l) (toB l v) else 0:=by
 unfold muv
 grind
noncomputable def rs(l:List B)(t:Tm):Tm:=Tm.sub (rsv l) t
noncomputable def mu(l:List B)(t:Tm):Nat:=Tm.wt (muv l) t
theorem V6(l:List B){t u:Tm}(hk:¬t.kind=0)(h:u∈t.args):mu l u<mu l t:=by
 unfold mu;rw[Tm.zBe _ t,Zb hk];have:=Tm.zBc (f:=muv l) h;omega
theorem Qi{l:List B}(h:Acyc l){t:Tm}(hk:t.kind=0)(hf:fndB l t.n=true):mu l (toB l t.n)<mu l t:=by
 grind [mu,Tm.zBe,nO]
theorem V7{l:List B}(h:Acyc l){t:Tm}(hk:t.kind=0):rs l t=if fndB l t.n=true then rs l (toB l t.n) else tvar t.n:=by
 grind [rs,Tm.zAR,nN]
theorem nP(l:List B){t:Tm}(hk:¬t.kind=0):rs l t=.mk t.kind t.n t.name (t.args.map (rs l)):=by
 simp_all[rs,Tm.zAR]
theorem valid_size{t:Tm}(h:t.valid=true):t.size<=2000:=by grind [Tm.valid]
theorem OKB.to{l:List B}(h:OKB l){v:Int}(hf:fndB l v=true):(toB l v).valid=true/\(toB l v).size<1000000000:=h.good.2 _ (Zh (JH hf))
def fstep(f:Int->Tm)(t:Tm):Tm:=if t.kind=0 then f t.n else t
theorem nQ{f g:Int->Tm}(t:Tm)(h:∀w∈t.occ,f w=g w):fstep f t=fstep g t:=by
 grind [fstep,Tm.zAJ]
open Classical in
noncomputable def flv(l:List B):Int->Tm:=if h:Acyc l then Classical.choose (V5 h tvar fstep fun _ _ t h=>nQ t h) else tvar
theorem Bs{l:List B}(h:Acyc l)(v:Int):flv l v=if fndB l v=true then fstep (flv l) (toB l v) else tvar v:=by
 unfold flv
 grind
noncomputable def flw(l:List B)(t:Tm):Tm:=fstep (flv l) t
theorem Kg(l:List B){t:Tm}(hk:¬t.kind=0):flw l t=t:=by grind [flw,fstep]
theorem Kh{l:List B}(h:Acyc l){t:Tm}(hk:t.kind=0)(hf:fndB l t.n=true):flw l t=flw l (toB l t.n):=by
 grind [flw,fstep,Bs]
theorem Ki{l:List B}(h:Acyc l){t:Tm}(hv:t.fits=true)(hk:t.kind=0)(hf:¬fndB l t.n=true):flw l t=t:=by
 grind [flw,fstep,Bs,XI]
theorem nR{l:List B}(h:OKB l):∀(m:Nat) (t:Tm),mu l t=m->t.valid=true->(flw l t).valid=true/\rs l (flw l t)=rs l t/\mu l (flw l t)<=mu l t/\¬((flw l t).kind=0/\fndB l (flw l t).n=true):=by
 intro m
 induction m using Nat.strongRecOn with
 |_ m ih=>
  intro t hm hv;by_cases hk:t.kind=0
  ·by_cases hf:fndB l t.n=true
   ·have hlt:=Qi h.Acyc hk hf;obtain⟨h1,h2,h3,h4⟩:=ih _ (by omega) (toB l t.n) rfl (h.to hf).1;rw[Kh h.Acyc hk hf];exact⟨h1,by rw[h2,V7 h.Acyc hk,Zj hf],by omega,h4⟩
   ·rw[Ki h.Acyc (valid_fits hv) hk hf]
    grind
  grind [Kg]
theorem nS{l:List B}(h:Acyc l){t:Tm}(hv:t.fits=true)(hk:t.kind=0)(hf:¬fndB l t.n=true):rs l t=t:=by
 grind [V7,XI]
theorem hb0:zQ A0 [] []=some (.agg A0):=rfl
open Classical in
noncomputable def okb(l:List B):Bool:=decide (OKB l)
theorem find_mem{l:List B}{v:Int}(h:fndB l v=true):(v,toB l v)∈l:=Zh (JH h)
theorem nT{l:List B}{v:Int}{t:Tm}{x:B}(h:x=(v,t)\/x∈l):x∈insB l v t:=by
 grind [insB,ZY]
theorem V8{l:List B}(hs:Srt' l){b:B}(hb:b∈l):fndB l b.1=true/\toB l b.1=b.2:=by
 obtain⟨i,hlt,rfl⟩:=List.getElem_of_mem hb;have hg:=Ze hlt
 grind [Br,toB]
theorem Bt{l:List B}(hs:Srt' l)(v:Int):fndB l v=true↔v∈l.map (·.1):=by
 constructor
 ·intro h;exact zd.2 ⟨_,find_mem h,rfl⟩
 ·intro h;obtain⟨b,hb,rfl⟩:=zd.1 h
  grind [V8]
theorem Bu{n:Int}(h:0<=n/\n<=1099511627776):(tvar n).fits=true:=by
 simp_all[tvar,Tm.fits,Tm.fitsAll,Tm.node,Tm.kind,Tm.n,Tm.name,Tm.args]
def IsS(s:AV)(hp:Heap)(l:List B):Prop:=s=.pv none (.sl (some 5) (bds l))\/IsB s hp l
theorem IsS.more{s:AV}{hp:Heap}{l:List B}(h:IsS s hp l)(e:Heap):IsS s (hp++e) l:=h.elim .inl fun h=>.inr (h.more e)
theorem IsS.place{s:AV}{hp:Heap}{l:List B}(h:IsS s hp l)(v:Int)(hs:Srt' l)(hl:l.length<1000000000)(e:Heap):
  S 166 [s,P4 v] (hp++e)=some (.ret (.tuple [P4 (lbB l v:Int),P5 (fndB l v)]),hp++e):=by
 rcases h.more e with rfl|h
 ·grind [Bn]
 grind [V4]
theorem IsS.elem{s:AV}{hp:Heap}{l:List B}(h:IsS s hp l){i:Nat}{b:B}(hb:l[i]? =some b):
  ∃p q,zX (some 5) [s,P4 i]=some p/\yO 1 [p]=some q/\∀e,aload (some 4) (hp++e) q=some (.pv (some 4) b.2.pv):=by
 have hlt:=(Zf.1 hb).1;rcases h with rfl|h
 ·refine⟨_,_,zT (JF hb),rfl,fun e=> ?_⟩;simp[aload,V3]
 ·rcases h with⟨rfl,rfl⟩|⟨r,rfl,hr⟩
  ·grind
  ·refine⟨_,_,xZ hlt,rfl,fun e=> ?_⟩
   grind [bds,aload,V3]
def zagg(q:Nat):AV:=.agg [(none,P4 0),(none,P4 0),(none,P6 []),(none,.sl (some 4) q 0 0 0)]
theorem IsS.low{s:AV}{hp:Heap}{l:List B}(h:IsS s hp l)(k:Nat):s.refsIn.all (fun q=>decide (q<hp.length+k))=true:=by
 rw[Zr];intro q hq;rcases h with rfl|h
 ·cases hq
 ·have:=h.low q hq
  grind
def bndX(n:Nat)(t:Tm):Heap:=[.box (some 4) (.pv (some 4) t.pv),.box (some 4) (zagg (n+3)),.arr (some 4) [] false,.arr (some 4) [] false]
theorem Bv{s:AV}{hp:Heap}{l:List B}(h:IsS s hp l)(hs:Srt' l)(hl:l.length<1000000000)(t:Tm)(hk:t.kind=0)(hf:fndB l t.n=true):
  S 162 [s,t.av] hp=some (.ret (.tuple [(toB l t.n).av,P5 true]),hp):=by
 refine Yj rfl rfl rfl rfl ?_;have hpl:=fun e=>h.place t.n hs hl e;obtain⟨p,q,h1,h2,h3⟩:=h.elem (JH hf);rw[hf] at hpl;simp only at h3;simp -dsimp -implicitDefEqProofs only[go_sem,seval,Tm.av,zJ,Yf,hk,hpl,h1,h2,h3];rw[jJ rfl ((YJ hp _ 1).trans rfl)]
 grind [AV.refsIn,AV.refsIn.gol,Tm.av]
theorem Bw{s:AV}{hp:Heap}{l:List B}(h:IsS s hp l)(hs:Srt' l)(hl:l.length<1000000000)(t:Tm)(hf:¬(t.kind=0/\fndB l t.n=true)):
  S 162 [s,t.av] hp=some (.ret (.tuple [zagg (hp.length+3),P5 false]),hp++bndX hp.length t):=by
 refine Yj rfl rfl rfl rfl ?_;have hpl:=fun e=>h.place t.n hs hl e;by_cases hk:t.kind=0
 ·have hf':fndB l t.n=false:=by
   grind
  rw[hf'] at hpl;have hk':=Zi hk;simp -dsimp -implicitDefEqProofs only[go_sem,seval,Tm.av,zJ,Yf,hk',hpl,hb0,zD (Zd _ _)];rw[jJ rfl ((YJ hp _ 1).trans rfl)];refine⟨rfl,?_⟩;rw[Zb (by simp[AV.refsIn,AV.refsIn.gol,AV.refsIn.go,zagg])];rfl
 ·have hk':=Zg hk;simp -dsimp -implicitDefEqProofs only[go_sem,seval,Tm.av,zJ,Yf,hk',hb0,zD (Zd _ _)];rw[jJ rfl ((YJ hp _ 1).trans rfl)];refine⟨rfl,?_⟩;rw[Zb (by simp[AV.refsIn,AV.refsIn.gol,AV.refsIn.go,zagg])];rfl
theorem Bx{s:AV}{hp:Heap}{l:List B}(h:IsS s hp l)(hO:OKB l)(hl:l.length<1000000000)(t:Tm)(hv:t.valid=true):
  S 157 [s,t.av] hp=some (.ret (flw l t).av,hp):=by
 refine Yj rfl rfl rfl rfl ?_;simp -dsimp -implicitDefEqProofs only[go_sem,seval,Tm.av];refine XH (fun n st=>∃t1:Tm,n=mu l t1/\t1.valid=true/\flw l t1=flw l t/\st=⟨[(0,s),(3,.ptr hp.length 0),(4,.ptr (hp.length+1) 0)],hp++[.box (some 4) (.pv (some 4) t1.pv),.box (some 4) (zagg (hp.length+2)),.arr (some 4) [] false]⟩) (n:=mu l t) ⟨t,rfl,hv,rfl,?_⟩ ?_
 ·simp -dsimp -implicitDefEqProofs only[go_sem,seval]
  try rfl
 ·rintro n st ⟨t1,rfl,hv1,he,rfl⟩;by_cases hc:t1.kind=0/\fndB l t1.n=true
  ·obtain⟨hk,hf⟩:=hc;have hb:=fun e=>Bv (h.more e) hO.good.1 hl t1 hk hf;simp only[Tm.av] at hb;have hlt:=Qi hO.Acyc hk hf;simp -dsimp -implicitDefEqProofs only[go_sem,seval,hb];refine⟨mu l (toB l t1.n),hlt,toB l t1.n,rfl,(hO.to hf).1,by rw[<-he,Kh hO.Acyc hk hf],?_⟩;rw[ym 3 rfl rfl (by simp[AObj.refs,AV.ofComps,pures,AV.refsIn,AV.refsIn.go,zagg]) (by simp[AV.refsIn,AV.refsIn.gol,h.low])];rfl
  ·have hb:=fun e=>Bw (h.more e) hO.good.1 hl t1 hc;have he2:flw l t1=t1:=by
    by_cases hk:t1.kind=0
    ·exact Ki hO.Acyc (valid_fits hv1) hk fun e=>hc ⟨hk,e⟩
    grind [Kg]
   rw[he2] at he;rw[<-he];simp only[Tm.av] at hb;simp -dsimp -implicitDefEqProofs only[go_sem,seval,hb,bndX,zagg,zF,zD (Zd _ _)]
   grind [AV.refsIn,Tm.av]
def MapI(m:List (Int × PV))(f:Int->Int):Prop:=∀v,(Y1 v m).getD (.int .i64 0)=.int .i64 (f v)
theorem MapI.put{m:List (Int × PV)}{f:Int->Int}(h:MapI m f)(v x:Int):MapI (mPut v (.int .i64 x) m) (fun w=>if w=v then x else f w):=fun w=>by
 rw[Jm];by_cases e:w=v
 ·simp[e]
 ·simp only[Zb e];exact h w
structure CInv(l:List B)(st:Int->Int):Prop where
 val:∀o,st o=0\/st o=1\/st o=2
 bnd:∀o,st o≠0->fndB l o=true
 done:∃(rk:Int->Nat) (c:Nat),∀v,st v=2->rk v<c/\∀w∈(toB l v).occ,fndB l w=true->st w=2/\rk w<rk v
structure CPost(l:List B)(st st':Int->Int)(v:Int):Prop where
 inv:CInv l st'
 opn:∀o,st' o=1↔st o=1
 dn:∀o,st o=2->st' o=2
 me:fndB l v=true->st' v=2
def cnt(l:List B)(st:Int->Int):Nat:=(l.filter fun b=>decide (st b.1=0)).length
theorem CPost.mono{l:List B}{st st':Int->Int}{v:Int}(h:CInv l st)(hp:CPost l st st' v)(o:Int)(ho:st o≠0):st' o≠0:=by
 rcases h.val o with e|e|e
 ·grind
 ·rw[(hp.opn o).2 e];decide
 ·rw[hp.dn o e];decide
theorem CInv.acyc{l:List B}{st:Int->Int}(h:CInv l st)(hall:∀v,fndB l v=true->st v=2):Acyc l:=by
 obtain⟨_,_,rk,c,g3⟩:=h;exact⟨rk,fun v hv w hw hf=>((g3 v (hall v hv)).2 w hw hf).2⟩
def vagg(v:Int):AV:=.agg [(none,P4 0),(none,P4 v),(none,P6 []),(none,.tsl (some 4) [])]
def SzI(l:List B)(m:List (Int × PV)):Prop:=∃f:Int->Int,MapI m f/\∀v,f v≠0->fndB l v=true/\f v=((min (rs l (toB l v)).size 2001:Nat):Int)
theorem SzI.put{l:List B}{m:List (Int × PV)}(h:SzI l m){v:Int}(hf:fndB l v=true):SzI l (mPut v (.int .i64 ((min (rs l (toB l v)).size 2001:Nat):Int)) m):=by
 obtain⟨f,h1,h2⟩:=h;refine⟨_,h1.put v _,fun w hw=> ?_⟩
 grind
def inR(l:List B)(v:Int)(t:Tm):Prop:=v∈(rs l t).occ
theorem Kj{l:List B}(h:Acyc l){v:Int}{t:Tm}(hv:t.fits=true)(hk:t.kind=0)(hf:¬fndB l t.n=true):inR l v t↔v=t.n:=by
 grind [inR,nS,Tm.zAJ]
theorem V9{l:List B}(h:Acyc l){v:Int}{t:Tm}(hk:t.kind=0)(hf:fndB l t.n=true):inR l v t↔inR l v (toB l t.n):=by
 grind [inR,V7]
theorem ve{l:List B}{v:Int}{t:Tm}(hk:¬t.kind=0):inR l v t↔∃u∈t.args,inR l v u:=by
 unfold inR;rw[nP l hk,Tm.zAJ,Zb (by exact hk)];constructor
 ·intro h;obtain⟨u,hu,h⟩:=Tm.zAV h;obtain⟨x,hx,rfl⟩:=zd.1 hu
  grind
 ·rintro⟨u,hu,h⟩;exact Tm.zA9 (zd.2 ⟨u,hu,rfl⟩) h
def SeenPre(l:List B)(v:Int)(sn:Int->Prop)(t:Tm):Prop:=∀w,sn w->fndB l w=true/\(¬inR l v (tvar w)\/mu l t<mu l (tvar w))
structure SeenPost(l:List B)(v:Int)(sn sn':Int->Prop)(t:Tm)(b:Bool):Prop where
 yes:b=true->inR l v t
 no:b=false->¬inR l v t/\∀w,sn' w->sn w\/(fndB l w=true/\¬inR l v (tvar w))
theorem SeenPre.arg{l:List B}{v:Int}{sn:Int->Prop}{t u:Tm}(h:SeenPre l v sn t)(hm:mu l u<mu l t):SeenPre l v sn u:=fun w hw=>by
 obtain⟨h1,h2|h2⟩:=h w hw
 ·grind
 grind
theorem Kk{l:List B}{t:Tm}(hv:t.fits=true)(hk:t.kind=0):mu l (tvar t.n)=mu l t:=by grind [XI]
theorem SeenPre.old{l:List B}{v:Int}{sn:Int->Prop}{t:Tm}(h:SeenPre l v sn t)(hv:t.fits=true)(hk:t.kind=0)(hs:sn t.n):¬inR l v t:=by
 obtain⟨_,h2|h2⟩:=h t.n hs
 ·grind [XI]
 grind [Kk]
theorem SeenPre.new{l:List B}{v:Int}{sn:Int->Prop}{t:Tm}(h:SeenPre l v sn t)(ha:Acyc l)(hv:t.fits=true)(hk:t.kind=0)(hf:fndB l t.n=true):SeenPre l v (fun w=>w=t.n\/sn w) (toB l t.n):=fun w hw=>by
 have hlt:=Qi ha hk hf;rcases hw with rfl|hw
 ·grind [Kk]
 ·exact h.arg hlt w hw
theorem SeenPost.new{l:List B}{v:Int}{sn sn':Int->Prop}{t:Tm}{b:Bool}(h:SeenPost l v (fun w=>w=t.n\/sn w) sn' (toB l t.n) b)(ha:Acyc l)(hv:t.fits=true)(hk:t.kind=0)(hf:fndB l t.n=true):SeenPost l v sn sn' t b:=
 ⟨fun hb=>(V9 ha hk hf).2 (h.yes hb),fun hb=>by
  obtain⟨h1,h2⟩:=h.no hb
  grind [V9,XI]⟩
def unS(f:Int->Int):List B->Nat
 |[]=>0
 |b::r=>(if f b.1=0 then b.2.size else 0)+unS f r
theorem vf{f g:Int->Int}(h:∀w,f w≠0->g w≠0):∀l:List B,unS g l<=unS f l
 |[]=>Zc _
 |b::r=>by
  have ih:=vf h r
  grind [unS]
theorem By{f g:Int->Int}(h:∀w,f w≠0->g w≠0){v:Int}(h0:f v=0)(h1:g v≠0){t:Tm}:∀{l:List B},(v,t)∈l->unS g l+t.size<=unS f l
 |[],hm=>by cases hm
 |b::r,hm=>by
  have hle:=vf h r;rcases Zy.1 hm with rfl|hm
  ·grind [unS]
  ·have ih:=By h h0 h1 hm
   grind [unS]
theorem IsS.setm{s:AV}{hp:Heap}{l:List B}(h:IsS s hp l){r:Nat}{sh:Sh}{es:List (PV × PV)}(hr:hp[r]? =some (.map sh es))(X:AObj):IsS s (hp.set r X) l:=by
 rcases h with h|h|⟨q,h1,h2⟩
 ·exact .inl h
 ·exact .inr (.inl h)
 ·refine .inr (.inr ⟨q,h1,?_⟩)
  grind
structure OcR(l:List B)(v:Int)(t:Tm)(f:Int->Int)(m':List (Int × PV))(b:Bool)(f':Int->Int):Prop where
 map:MapI m' f'
 pos:∀w,0<=f' w
 mono:∀w,f w≠0->f' w≠0
 post:SeenPost l v (fun w=>f w≠0) (fun w=>f' w≠0) t b
 cost:∀w,f' w+(unS f' l:Int)<=f w+t.size+unS f l
theorem nU(l:List B)(hO:OKB l)(hl:l.length<1000000000)(v:Int)(s:AV):∀(k:Nat) (t:Tm) (hp:Heap) (r:Nat) (m:List (Int × PV)) (f:Int->Int),mu l t=k->t.valid=true->hp[r]? =some (.map none (z7 m))->IsS s hp l->MapI m f->(∀w,0<=f w)->SeenPre l v (fun w=>f w≠0) t->(∀w,f w+t.size+unS f l<=1000000000000000)->
  ∃(m':List (Int × PV)) (b:Bool) (f':Int->Int),S 167 [s,P4 v,t.av,.map r] hp=some (.ret (P5 b),hp.set r (.map none (z7 m')))/\OcR l v t f m' b f':=by
 intro k
 induction k using Nat.strongRecOn with
 |_ k ih=>
  intro t hp r m f hk hv hr hS hM hpos hpre hbig;have hlt:=YZ hr;have htz:=valid_size hv;have hself:hp.set r (.map none (z7 m))=hp:=by
   grind [List.set_getElem_self]
  have hg0:∀(X:AObj) (e:Heap),(hp.set r X++e)[hp.length]? =e[0]? :=fun X e=>Ye (by simp);have hg1:∀(X:AObj) (e:Heap) (k:Nat),(hp.set r X++e)[hp.length+k]? =e[k]? :=fun X e k=>getN (by simp) k;have hlen:∀(X:AObj),(hp.set r X).length=hp.length:=fun X=>by simp
  have hs1:∀(X Y:AObj) (e:Heap) (k:Nat),(hp.set r X++e).set (hp.length+k) Y=hp.set r X++e.set k Y:=fun X Y e k=>setN (by simp) k Y;have hrr:∀(X:AObj) (e:Heap),(hp.set r X++e)[r]? =some X:=fun X e=>by grind
  have hss:∀(X Y:AObj) (e:Heap),(hp.set r X++e).set r Y=hp.set r Y++e:=fun X Y e=>by simp_all
  suffices hP:∃v' hp',S 167 [s,P4 v,t.av,.map r] hp=some (.ret v',hp')/\∃(m':List (Int × PV)) (b:Bool) (f':Int->Int),v'=P5 b/\hp'=hp.set r (.map none (z7 m'))/\OcR l v t f m' b f' by
   grind
  refine Na _ rfl rfl rfl rfl ?_;by_cases hk0:t.kind=0
  ·have hk':=Zi hk0;by_cases hf:fndB l t.n=true
   ·have hb:=fun e=>Bv (hS.more e) hO.good.1 hl t hk0 hf;obtain⟨hto,_⟩:=hO.to hf;have hlt2:=Qi hO.Acyc hk0 hf;have hts1:t.size=1:=by rw[XI (valid_fits hv) hk0];rfl
    have hlk:∀e:Heap,YF false none (P4 0) false (hp++e) [.map r,P4 t.n]=some (P4 (f t.n)):=fun e=>by
     rw[jL (m:=m) (by grind),hM]
    have hms:∀(x:Int) (e:Heap),yR false none (hp++e) [.map r,P4 t.n,P4 x]=some (.undef,hp.set r (.map none (z7 (mPut t.n (.int .i64 x) m)))++e):=fun x e=>by
     grind [qf,QO]
    have hlk2:∀(x:Int) (e:Heap),YF false none (P4 0) false (hp.set r (.map none (z7 (mPut t.n (.int .i64 x) m)))++e) [.map r,P4 t.n]=some (P4 x):=fun x e=>by
     rw[jL (m:=mPut t.n (.int .i64 x) m) (hrr _ _),Jm,Zj rfl];rfl
    have hb1:=hbig t.n;have hb2:=hpos t.n;have w1:IntKind.i64.wrap (f t.n+1)=f t.n+1:=zU (by omega) (by omega);have hM1:=hM.put t.n (f t.n+1);have hmono1:∀w,f w≠0->(fun w=>if w=t.n then f t.n+1 else f w) w≠0:=fun w hw=>by
     grind
    have hpos1:∀w,0<=(fun w=>if w=t.n then f t.n+1 else f w) w:=fun w=>by
     grind
    simp only[Tm.av] at hb;by_cases h0:f t.n=0
    ·rw[h0] at hM1 hmono1 hpos1;simp only[Int.zero_add] at hM1 hmono1 hpos1;have hun:=By hmono1 h0 (by simp) (find_mem hf);have hbig1:∀w,(fun w=>if w=t.n then(1:Int) else f w) w+(toB l t.n).size+unS (fun w=>if w=t.n then(1:Int) else f w) l<=1000000000000000:=fun w=>by
      grind
     have hpre1:SeenPre l v (fun w=>(fun w=>if w=t.n then(1:Int) else f w) w≠0) (toB l t.n):=fun w hw=>by
      refine hpre.new hO.Acyc (valid_fits hv) hk0 hf w ?_
      grind
     obtain⟨m2,bb,f2,hcall,hR⟩:=ih _ (by omega) (toB l t.n) (hp.set r (.map none (z7 (mPut t.n (.int .i64 1) m)))++[.box (some 4) (.pv (some 4) t.pv),.box (some 4) (.pv (some 4) (toB l t.n).pv),.arr (some 4) [] false]) r _ _ rfl hto (hrr _ _) ((hS.setm hr _).more _) hM1 hpos1 hpre1 hbig1;rw[hss] at hcall;simp only[Tm.av] at hcall;rw[h0] at w1;simp only[Int.zero_add] at w1;simp -dsimp -implicitDefEqProofs only[go_sem,seval,Tm.av,zJ,Yf,hk',hb,hlk,h0,w1,hms,hlk2,hcall,hg0,hg1,Int.zero_add,zD (Zd _ _)];refine⟨m2,bb,f2,rfl,?_,hR.map,hR.pos,fun w hw=>hR.mono w (hmono1 w hw),?_,fun w=> ?_⟩
     ·grind [AV.refsIn]
     ·have hq:SeenPost l v (fun w=>w=t.n\/f w≠0) (fun w=>f2 w≠0) (toB l t.n) bb:=⟨hR.post.yes,fun hb=>⟨(hR.post.no hb).1,fun w hw=>((hR.post.no hb).2 w hw).imp (fun h=>by
       grind) id⟩⟩
      exact hq.new hO.Acyc (valid_fits hv) hk0 hf
     ·have h3:=hR.cost w
      grind
    ·have h1:¬f t.n+1=1:=by omega
     simp -dsimp -implicitDefEqProofs only[go_sem,seval,Tm.av,zJ,Yf,hk',hb,hlk,h1,w1,hms,hlk2,hg0,hg1,zD (Zd _ _)];refine⟨_,false,_,rfl,?_,hM1,hpos1,hmono1,⟨(fun e=>by cases e),fun _=>⟨hpre.old (valid_fits hv) hk0 h0,fun w hw=> ?_⟩⟩,fun w=> ?_⟩
     ·grind [AV.refsIn]
     ·grind
     ·have h3:=vf hmono1 l
      grind
   ·have hb:=fun e=>Bw (hS.more e) hO.good.1 hl t fun h=>hf h.2;simp only[Tm.av] at hb;simp -dsimp -implicitDefEqProofs only[go_sem,seval,Tm.av,zJ,Yf,hk',hb,bndX,zagg,zF,zD (Zd _ _)];refine⟨m,decide (t.n=v),f,rfl,?_,hM,hpos,fun _ h=>h,⟨fun h=> ?_,fun h=>⟨fun e=> ?_,fun w hw=>.inl hw⟩⟩,fun w=>by omega⟩
    ·grind [AV.refsIn]
    ·exact(Kj hO.Acyc (valid_fits hv) hk0 hf).2 (zj h).symm
    ·exact of_decide_eq_false h ((Kj hO.Acyc (valid_fits hv) hk0 hf).1 e).symm
  ·have hk':=Zg hk0;simp -dsimp -implicitDefEqProofs only[go_sem,seval,Tm.av,zJ,zL,Tm.pvs_len,hk'];refine Yp (α:=List (Int × PV)) t.args.length (fun i m2=>∃f2:Int->Int,MapI m2 f2/\(∀w,0<=f2 w)/\(∀w,f w≠0->f2 w≠0)/\(∀j,j<i->∀u,t.args[j]? =some u->¬inR l v u)/\(∀w,f2 w≠0->f w≠0\/(fndB l w=true/\¬inR l v (tvar w)))/\∀w,f2 w+(unS f2 l:Int)<=f w+Tm.sizes (t.args.take i)+unS f l)
    (fun i m2=>⟨[(0,s),(1,P4 v),(3,.map r),(46,.pv none (.sl (some 4) (Tm.pvs t.args))),(47,P4 t.args.length),(48,P4 i)],hp.set r (.map none (z7 m2))++[.box (some 4) (.pv (some 4) t.pv)]⟩) m ⟨⟨f,hM,hpos,fun _ h=>h,fun j hj=>by omega,fun w hw=>.inl hw,fun w=>by grind⟩,?_⟩ ?_ ?_
   ·rw[hself];rfl
   ·rintro i m2 h ⟨f2,q1,q2,q3,q4,q5,q6⟩;have hc:(i:Int)<(t.args.length:Int):=by omega
    obtain⟨u,hu⟩:∃u,t.args[i]? =some u:=⟨_,Ze h⟩;have hum:=Zh hu;have hmu:=V6 l hk0 hum;have hst:=Tm.zAP hu;have hle:=Tm.zAL t.args (i+1);have hts:=t.size_eq;have hlen2:=Tm.zAG t.args;have hpre2:SeenPre l v (fun w=>f2 w≠0) u:=fun w hw=>by
     rcases q5 w hw with h|⟨h1,h2⟩
     ·exact hpre.arg hmu w h
     grind
    obtain⟨m3,bb,f3,hcall,hR⟩:=ih _ (by omega) u (hp.set r (.map none (z7 m2))++[.box (some 4) (.pv (some 4) t.pv),.box (some 4) (.pv (some 4) u.pv),.arr (some 4) [] false]) r m2 f2 rfl (YS hv hum) (hrr _ _) ((hS.setm hr _).more _) q1 q2 hpre2 (fun w=>by grind);rw[hss] at hcall;simp only[Tm.av] at hcall;have w2:IntKind.i64.wrap ((i:Int)+1)=((i+1:Nat):Int):=by grind [zU]
    cases bb with
    |true=>
     simp -dsimp -implicitDefEqProofs only[c167b18,go_sem,seval,hc,zT (Tm.pvs_get hu),hcall,hlen,hg0,hg1,hs1];refine⟨m3,true,f3,rfl,?_,hR.map,hR.pos,fun w hw=>hR.mono w (q3 w hw),⟨fun _=>(ve hk0).2 ⟨u,hum,hR.post.yes rfl⟩,fun e=>by cases e⟩,fun w=> ?_⟩
     ·grind [AV.refsIn]
     ·have:=hR.cost w;grind
    |false=>
     obtain⟨n1,n2⟩:=hR.post.no rfl;simp -dsimp -implicitDefEqProofs only[c167b18,go_sem,seval,hc,zT (Tm.pvs_get hu),hcall,w2,hlen,hg0,hg1,hs1];refine⟨m3,⟨f3,hR.map,hR.pos,fun w hw=>hR.mono w (q3 w hw),fun j hj x hx=> ?_,fun w hw=> ?_,fun w=> ?_⟩,?_⟩
     ·grind
     ·grind
     ·have:=hR.cost w;grind
     ·rw[ym 1 (by simp) rfl (by simp[AObj.refs,AV.refsIn]) (by simp[AV.refsIn,AV.refsIn.gol,hS.low];omega)];rfl
   ·rintro m2 ⟨f2,q1,q2,q3,q4,q5,q6⟩;have hc:¬(t.args.length:Int)<(t.args.length:Int):=by omega
    have hts:=t.size_eq;simp -dsimp -implicitDefEqProofs only[c167b18,go_sem,seval,hc];refine⟨m2,false,f2,rfl,?_,q1,q2,q3,⟨(fun e=>by cases e),fun _=>⟨fun e=> ?_,q5⟩⟩,fun w=> ?_⟩
    ·grind [AV.refsIn]
    ·obtain⟨u,hu,h⟩:=(ve hk0).1 e;obtain⟨j,hj,rfl⟩:=List.getElem_of_mem hu;simp_all
    grind
theorem Bz(f:Int->Int):∀l:List B,(∀b∈l,b.2.size<=1000000)->unS f l<=1000000*l.length
 |[],_=>Za _
 |b::r,h=>by
  have ih:=Bz f r fun c hc=>h c (Zw _ hc)
  grind [unS]
theorem BA:∀(a b:List Int),a.Nodup->(∀x∈a,x∈b)->a.length<=b.length
 |[],_,_,_=>Za _
 |x::a,b,h,hs=>by
  have hx:=hs x ZG;have h1:=List.nodup_cons.1 h;have ih:=BA a (b.erase x) h1.2 fun y hy=>(List.mem_erase_of_ne (fun e=>h1.1 (by grind))).2 (hs y (Zw _ hy))
  grind
theorem nV{l:List B}{σ:List Int}(h1:σ.Nodup)(h2:∀w∈σ,fndB l w=true):σ.length<=l.length:=by
 have:=BA σ (l.map (·.1)) h1 fun w hw=>by
  exact zd.2 ⟨_,find_mem (h2 w hw),rfl⟩
 grind
inductive UStep where
 |err (e:Int)
 |bind (v:Int) (t:Tm)
 |args (xs:List (Tm × Tm))
open Classical in
noncomputable def ustep(l:List B)(x y:Tm):UStep:=
 if x.kind=0/\y.kind=0 then
  if y.n<x.n then .bind x.n y else if x.n<y.n then .bind y.n x else .args []
 else if x.kind=0 then(if inR l x.n y then .err 9 else .bind x.n y)
 else if y.kind=0 then(if inR l y.n x then .err 9 else .bind y.n x)
 else if x.kind=y.kind/\x.n=y.n/\x.name=y.name/\x.args.length=y.args.length then .args (x.args.zip y.args) else .err 4
noncomputable def uni:Nat->List B->List (Tm × Tm)->List B × Int
 |_,l,[]=>(l,0)
 |0,_,_::_=>([],2)
 |n+1,l,p::r=>match ustep l (flw l p.1) (flw l p.2) with
  | .err e=>([],e)
  | .bind v t=>uni n (insB l v t) r
  | .args xs=>uni n l (xs++r)
theorem nW(n:Nat)(l:List B):uni n l []=(l,0):=by cases n <;> rfl
theorem nX(l:List B)(p:Tm × Tm)(r:List (Tm × Tm)):uni 0 l (p::r)=([],2):=rfl
theorem nY{n:Nat}{l:List B}{p:Tm × Tm}{e:Int}(r:List (Tm × Tm))(h:ustep l (flw l p.1) (flw l p.2)=.err e):uni (n+1) l (p::r)=([],e):=by rw[uni,h]
theorem nZ{n:Nat}{l:List B}{p:Tm × Tm}{v:Int}{t:Tm}(r:List (Tm × Tm))(h:ustep l (flw l p.1) (flw l p.2)=.bind v t):uni (n+1) l (p::r)=uni n (insB l v t) r:=by rw[uni,h]
theorem BB{n:Nat}{l:List B}{p:Tm × Tm}{xs:List (Tm × Tm)}(r:List (Tm × Tm))(h:ustep l (flw l p.1) (flw l p.2)=.args xs):uni (n+1) l (p::r)=uni n l (xs++r):=by rw[uni,h]
theorem mem_insB_iff{l:List B}{v:Int}{t:Tm}{x:B}:x∈insB l v t↔x=(v,t)\/x∈l:=⟨Kf,nT⟩
theorem JI{l:List B}(hG:Good l){v:Int}{t:Tm}(hf:fndB l v=false)(w:Int):fndB (insB l v t) w=true↔w=v\/fndB l w=true:=by
 rw[Bt (JG hG.1 hf),Bt hG.1];simp only[zd,mem_insB_iff]
 grind
theorem n8{l:List B}(hG:Good l){v:Int}{t:Tm}(hf:fndB l v=false):toB (insB l v t) v=t:=(V8 (JG hG.1 hf) (mem_insB_iff.2 (.inl rfl))).2
theorem Kl{l:List B}(hG:Good l){v:Int}{t:Tm}(hf:fndB l v=false){w:Int}(hw:fndB l w=true):toB (insB l v t) w=toB l w:=
 (V8 (JG hG.1 hf) (mem_insB_iff.2 (.inr (find_mem hw)))).2
theorem BC{l:List B}{w:Int}:∀t:Tm,t.fits=true->w∈t.occ->mu l (tvar w)<=mu l t:=by
 intro t
 induction t using Tm.zAH with
 |h t ih=>
  intro hf hw;rw[Tm.zAJ] at hw;by_cases hk:t.kind=0
  ·grind [Kk]
  ·rw[Zb hk] at hw;obtain⟨u,hu,h⟩:=Tm.zAV hw;have:=ih u hu (Tm.zAK hf hu) h;have:=V6 l hk hu;omega
theorem BD{l:List B}{v w:Int}:∀t:Tm,t.fits=true->w∈t.occ->inR l v (tvar w)->inR l v t:=by
 intro t
 induction t using Tm.zAH with
 |h t ih=>
  grind [Tm.zAJ,XI,Tm.zAV,ve,Tm.zAK]
theorem n9{l:List B}(hO:OKB l){v:Int}{t:Tm}(hf:fndB l v=false)(hv:0<=v/\v<=1099511627776)(ht:t.valid=true)(hn:¬inR l v t):OKB (insB l v t):=by
 have htz:=valid_size ht;have hA:=hO.Acyc;refine nM (nK hO.good hf ht (by omega)) (fun b hb=> ?_) ?_
 ·rcases Kf hb with rfl|h
  ·exact hv
  ·exact hO.rng b h
 ·refine⟨fun w=>by classical exact if inR l v (tvar w) then mu l (tvar w)+mu l t+1 else mu l (tvar w),fun x hx y hy hfy=> ?_⟩;have hvv:inR l v (tvar v):=(Kj hA (Bu hv) rfl (by show ¬fndB l v=true;grind)).2 rfl;simp only;by_cases hxv:x=v
  ·subst hxv;rw[n8 hO.good hf] at hy;have h1:¬inR l x (tvar y):=fun h=>hn (BD t (valid_fits ht) hy h);have h2:=BC (l:=l) t (valid_fits ht) hy
   grind
  ·have hfx:fndB l x=true:=((JI hO.good hf x).1 hx).resolve_left hxv;rw[Kl hO.good hf hfx] at hy;have hto:=valid_fits (hO.to hfx).1;have h2:=BC (l:=l) _ hto hy;have h3:=Qi (l:=l) hA (t:=tvar x) rfl hfx;have h3:mu l (toB l x)<mu l (tvar x):=h3;have h4:inR l v (tvar y)->inR l v (tvar x):=fun h=>(V9 hA (t:=tvar x) rfl hfx).2 (BD _ hto hy h)
   grind
def Flwd(l:List B)(x:Tm):Prop:=x.valid=true/\(x.kind=0->fndB l x.n=false/\x=tvar x.n/\0<=x.n/\x.n<=1099511627776)
theorem Oa{x:Tm}(hf:x.fits=true)(hk:x.kind=0):0<=x.n/\x.n<=1099511627776:=by
 exact Nd hf x.n (by grind [Tm.zAJ])
theorem QT{l:List B}(hO:OKB l){t:Tm}(hv:t.valid=true):Flwd l (flw l t):=by
 obtain⟨h1,_,_,h4⟩:=nR hO _ t rfl hv;refine⟨h1,fun hk=>⟨?_,XI (valid_fits h1) hk,Oa (valid_fits h1) hk⟩⟩
 grind
theorem BE{l:List B}(hO:OKB l){x:Tm}(hx:Flwd l x)(hk:x.kind=0)(v:Int):inR l v x↔v=x.n:=
 Kj hO.Acyc (valid_fits hx.1) hk (by simp[(hx.2 hk).1])
structure UBind(l:List B)(v:Int)(t:Tm):Prop where
 unb:fndB l v=false
 rng:0<=v/\v<=1099511627776
 val:t.valid=true
 out:¬inR l v t
theorem Ob{l:List B}(hO:OKB l){x y:Tm}(hx:Flwd l x)(hy:Flwd l y){v:Int}{t:Tm}(h:ustep l x y=.bind v t):UBind l v t:=by
 unfold ustep at h;split at h
 ·rename_i hk;have hx2:=hx.2 hk.1;have hy2:=hy.2 hk.2;split at h
  ·rename_i hlt;cases h;exact⟨hx2.1,hx2.2.2,hy.1,fun e=>by grind [BE]⟩
  ·split at h
   ·rename_i hlt;cases h;exact⟨hy2.1,hy2.2.2,hx.1,fun e=>by grind [BE]⟩
   grind
 ·split at h
  ·rename_i hk;split at h
   ·cases h
   ·rename_i hn;cases h;exact⟨(hx.2 hk).1,(hx.2 hk).2.2,hy.1,hn⟩
  ·split at h
   ·rename_i hk;split at h
    ·cases h
    ·rename_i hn;cases h;exact⟨(hy.2 hk).1,(hy.2 hk).2.2,hx.1,hn⟩
   grind
theorem Oc{l:List B}{x y:Tm}(hx:Flwd l x)(hy:Flwd l y){xs:List (Tm × Tm)}(h:ustep l x y=.args xs):(∀p∈xs,p.1.valid=true/\p.2.valid=true)/\xs.length<=2000:=by
 unfold ustep at h;split at h
 ·grind
 ·split at h
  ·grind
  ·split at h
   ·grind
   ·split at h
    ·cases h;have hs:=valid_size hx.1;have hse:=x.size_eq;have hlen:=Tm.zAG x.args;refine⟨fun p hp=> ?_,by grind⟩;have:=List.of_mem_zip hp;exact⟨YS hx.1 this.1,YS hy.1 this.2⟩
    grind
theorem okb_nil:OKB []:=⟨⟨List.Pairwise.nil,(fun b hb=>by cases hb)⟩,(fun b hb=>by cases hb),fun _=>0,(fun i b hb=>by grind)⟩
def Ext(l R:List B):Prop:=∀v,fndB l v=true->fndB R v=true/\toB R v=toB l v
theorem Ext.ins{l:List B}(hG:Good l){v:Int}{t:Tm}(hf:fndB l v=false){R:List B}(h:Ext (insB l v t) R):Ext l R:=fun w hw=>by
 have h1:=h w ((JI hG hf w).2 (.inr hw))
 grind [Kl]
def US(hp:Heap)(q r:Nat)(l:List B):Heap:=(hp.set q (.box (some 1) (.agg [(none,.sl (some 5) r l.length 0 l.length)]))).set r (.arr (some 5) (bds l) false)
def UA(hp:Heap)(q r:Nat)(l l':List B):Heap:=(US hp q r l).set r (.arr (some 5) (bds l') false)
theorem JJ(hp:Heap)(q r:Nat)(l:List B):(US hp q r l).length=hp.length:=by simp[US]
theorem Od(hp:Heap)(q r:Nat)(l l':List B):(UA hp q r l l').length=hp.length:=by simp[UA,JJ]
theorem Xk{hp:Heap}{q r:Nat}(hq:q<hp.length)(hr:r<hp.length)(l:List B)(e:Heap):US (hp++e) q r l=US hp q r l++e:=by
 grind [US]
theorem US_q{hp:Heap}{q r:Nat}(hq:q<hp.length)(hn:q≠r)(l:List B)(e:Heap):(US hp q r l++e)[q]? =some (.box (some 1) (.agg [(none,.sl (some 5) r l.length 0 l.length)])):=by
 grind [US]
theorem US_r{hp:Heap}{q r:Nat}(hr:r<hp.length)(l:List B)(e:Heap):(US hp q r l++e)[r]? =some (.arr (some 5) (bds l) false):=by
 grind [US]
theorem US_B{hp:Heap}{q r:Nat}(hr:r<hp.length)(l:List B)(e:Heap):IsB (.sl (some 5) r l.length 0 l.length) (US hp q r l++e) l:=.inr ⟨r,rfl,US_r hr l e⟩
theorem vi{hp:Heap}{q r:Nat}(hq:q<hp.length)(hn:q≠r)(l:List B)(e:Heap):aload none (US hp q r l++e) (.ptr q 0)=some (.sl (some 5) r l.length 0 l.length):=by
 simp[aload,US_q hq hn];rfl
theorem BF{hp:Heap}{q r:Nat}(hq:q<hp.length)(hn:q≠r)(l l':List B)(b:Nat)(hb:q<b)(e:Heap):zH none b (UA hp q r l l'++e) [.ptr q 0,.sl (some 5) r l'.length 0 l'.length]=some (.undef,US hp q r l'++e):=by
 have h1:(UA hp q r l l'++e)[q]? =some (.box (some 1) (.agg [(none,.sl (some 5) r l.length 0 l.length)])):=by
  rw[ZZ (by grind [Od])];unfold UA;rw[zm (Ne.symm hn)];have:=US_q (r:=r) hq hn l []
  grind
 have h2:AV.upd deep (.agg [(none,.sl (some 5) r l.length 0 l.length)]) 0 none (.sl (some 5) r l'.length 0 l'.length)=some (.agg [(none,.sl (some 5) r l'.length 0 l'.length)]):=rfl;have h3:¬b<=q:=by omega
 have h4:(UA hp q r l l'++e).set q (.box (some 1) (.agg [(none,.sl (some 5) r l'.length 0 l'.length)]))=US hp q r l'++e:=by
  grind [UA,US,List.set_set,List.set_comm]
 grind [zH,astore,AV.plain,AV.shp,AV.refsIn,AV.refsIn.go]
theorem BG{hp:Heap}{q r:Nat}(hq:q<hp.length)(hn:q≠r)(l:List B)(e e':Heap):Yy (US hp q r l++e) (US hp q r l++e') (.ptr q 0)=true:=by
 simp[Yy,US_q hq hn,AObj.beq,AV.beq,AV.beqc]
def qq(e:Int):PV:=.iface 172 (some 1) (.agg [(none,.int .i64 e)])
theorem BH(l:List B)(hO:OKB l)(hl:l.length<90000000)(v:Int)(t:Tm)(hv:t.valid=true)(hp:Heap)(q r:Nat)(hq:q<hp.length)(hr:r<hp.length)(hn:q≠r):
  ∃res hp',S 163 [.ptr q 0,P4 v,t.av] (US hp q r l)=some (res,hp')/\(inR l v t->res=.panic (qq 9)/\hp'=US hp q r l)/\(¬inR l v t->res=.ret (.tuple [])/\hp'=US hp q r (insB l v t)):=by
 have htz:=valid_size hv;have hlen:=fun l=>JJ hp q r l;have hg0:∀(l:List B) (e:Heap),(US hp q r l++e)[hp.length]? =e[0]? :=fun l e=>Ye (hlen l);have hg1:∀(l:List B) (e:Heap) (j:Nat),(US hp q r l++e)[hp.length+j]? =e[j]? :=fun l e j=>getN (hlen l) j;have hld:=fun l e=>vi (r:=r) hq hn l e;have hsm:=fun l e e'=>BG (r:=r) hq hn l e e';refine XJ (fun res hp'=>(inR l v t->res=.panic (qq 9)/\hp'=US hp q r l)/\(¬inR l v t->res=.ret (.tuple [])/\hp'=US hp q r (insB l v t))) rfl rfl rfl rfl ?_;have hu:=Bz (fun _=>0) l fun b hb=>by have:=valid_size (hO.good.2 b hb).1;omega
 obtain⟨m',bb,f',hcall,hR⟩:=nU l hO (by omega) v (.sl (some 5) r l.length 0 l.length) _ t (US hp q r l++[.box (some 4) (.pv (some 4) t.pv),.map none []]) (hp.length+1) [] (fun _=>0) rfl hv (by rw[hg1];rfl) (.inr (US_B hr l _)) (fun _=>rfl) (fun _=>Int.le_refl _) (fun w hw=>absurd rfl hw) (fun w=>by omega);have hs2:∀(X:AObj),(US hp q r l++([.box (some 4) (.pv (some 4) t.pv),.map none []]:Heap)).set (hp.length+1) X=US hp q r l++[.box (some 4) (.pv (some 4) t.pv),X]:=fun X=>by simp_all
 rw[hs2] at hcall;have hmk:∀a:AObj,(US hp q r l++[a]).length=hp.length+1:=fun a=>by grind
 simp only[Tm.av] at hcall;have hsb:∀x:Int,zQ A6 [0] [P4 x]=some (.pv (some 1) (.agg [(none,.int .i64 x)])):=fun _=>rfl;have hmi:∀(s:Sh) (p:PV),Xl 172 [.pv s p]=some (.pv none (.iface 172 s p)):=fun _ _=>rfl;have hpan:∀A:Prop,panK true A=A:=fun _=>rfl;cases bb with
 |true=>
  have hin:inR l v t:=hR.post.yes rfl;simp -dsimp -implicitDefEqProofs only[go_sem,seval,Tm.av,hcall,hsb,hmi,hpan,hlen,hg0,hg1,hld,Yg,Ym,Ys,z6];exact⟨fun _=>⟨rfl,ZF (hlen _)⟩,fun h=>h hin⟩
 |false=>
  have hin:¬inR l v t:=(hR.post.no rfl).1;have hpl:=fun e=>V4 (US_B (q:=q) hr l e) v hO.good.1 (by omega);have hcl:=fun hp=>Xg t hp hv (by omega);simp only[Tm.av] at hcl;have hbd:zQ A5 [0,1] [P4 v,.pv (some 4) t.pv]=some (.pv (some 5) (bdp (v,t))):=rfl;have hins:∀e:Heap,S 168 [.sl (some 5) r l.length 0 l.length,P4 (lbB l v:Int),.tsl (some 5) [bdp (v,t)]] (US hp q r l++e)=some (.ret (.sl (some 5) r (insB l v t).length 0 (insB l v t).length),UA hp q r l (insB l v t)++e):=fun e=>by
   obtain⟨s',H',h1,_,_,h2|h2⟩:=Bo (US_B (q:=q) hr l e) v t (by omega)
   ·obtain⟨r',n',h3,h4,h5⟩:=h2;cases h3;rw[h1,h4,h5,Ke,List.set_append_left _ _ (by grind)];rfl
   grind
  have hst:=fun l' e=>BF (r:=r) hq hn l l' hp.length hq e;simp -dsimp -implicitDefEqProofs only[go_sem,seval,Tm.av,hcall,hpl,hcl,hbd,hsm,hins,hst,hlen,hg0,hg1,hld,Qb,ZE,ZX,ZR,ZS,Yg,Ym,Ys,z6]
  grind
def zw(w:Int)(q:Nat):AV:=.agg [(none,P4 0),(none,P4 w),(none,P6 []),(none,.sl (some 4) q 0 0 0)]
theorem Oe{s:AV}{hp:Heap}{l:List B}(h:IsS s hp l)(hs:Srt' l)(hl:l.length<1000000000)(w:Int)(q:Nat)(hq:q<hp.length)(hf:fndB l w=false):
  S 162 [s,zw w q] hp=some (.ret (.tuple [zagg (hp.length+3),P5 false]),hp++[.box (some 4) (zw w q),.box (some 4) (zagg (hp.length+3)),.arr (some 4) [] false,.arr (some 4) [] false]):=by
 refine Yj rfl rfl rfl rfl ?_;have hpl:=fun e=>h.place w hs hl e;rw[hf] at hpl;simp -dsimp -implicitDefEqProofs only[go_sem,seval,zw,hpl,hb0,zF,xy,zD (Zd _ _)];rw[jJ rfl ((YJ hp _ 1).trans rfl)];refine⟨rfl,?_⟩;rw[Zb (by simp[AV.refsIn,AV.refsIn.gol,AV.refsIn.go,zagg])];rfl
theorem Of{s:AV}{hp:Heap}{l:List B}(h:IsS s hp l)(hs:Srt' l)(hl:l.length<1000000000)(v w:Int)(q r:Nat)(hq:q<hp.length)(hf:fndB l w=false)(hvw:w≠v):
  S 167 [s,P4 v,zw w q,.map r] hp=some (.ret (P5 false),hp):=by
 refine Yj rfl rfl rfl rfl ?_;have hb:=fun e=>Oe (h.more e) hs hl w q (by grind) hf;simp only[zw,zagg] at hb;simp -dsimp -implicitDefEqProofs only[go_sem,seval,zw,hb,hvw,zF,xy,zD (Zd _ _)]
 grind [AV.refsIn]
theorem Og(w:Int)(hw:0<=w/\w<=1099511627776)(q:Nat)(hp:Heap)(hq:hp[q]? =some (.arr (some 4) [] false)):
  S 41 [zw w q] hp=some (.ret (tvar w).av,hp.set q (.arr (some 4) [] true)):=by
 have hv:(tvar w).valid=true:=QN (Bu hw) (by have:(tvar w).size=1:=rfl;omega);have h1:=Xg (tvar w) [] hv (by have:(tvar w).size=1:=rfl;omega);have:=X7 (F:=find tab) (prim:=prim) (f:=41) (args:=[zw w q]) (ps:=[(some 4,(tvar w).pv)]) (hp:=hp) (hp1:=hp.set q (.arr (some 4) [] true)) rfl rfl rfl (by
  simp[zZ,zw,AV.freeze,AV.freeze.go,deep,hq,AV.shp];exact⟨rfl,rfl⟩) h1
 exact this
theorem BI(l:List B)(hO:OKB l)(hl:l.length<90000000)(v w:Int)(hw:0<=w/\w<=1099511627776)(hf:fndB l w=false)(hvw:w≠v)(hp:Heap)(q r:Nat)(hq:q<hp.length)(hr:r<hp.length)(hn:q≠r):
  S 163 [.ptr q 0,P4 v,vagg w] (US hp q r l)=some (.ret (.tuple []),US hp q r (insB l v (tvar w))):=by
 have hlen:=fun l=>JJ hp q r l;have hg0:∀(l:List B) (e:Heap),(US hp q r l++e)[hp.length]? =e[0]? :=fun l e=>Ye (hlen l);have hg1:∀(l:List B) (e:Heap) (j:Nat),(US hp q r l++e)[hp.length+j]? =e[j]? :=fun l e j=>getN (hlen l) j;have hs0:∀(l:List B) (Y:AObj) (e:Heap),(US hp q r l++e).set hp.length Y=US hp q r l++e.set 0 Y:=fun l Y e=>Yl (hlen l) Y;have hld:=fun l e=>vi (r:=r) hq hn l e;have hsm:=fun l e e'=>BG (r:=r) hq hn l e e';refine Yj rfl rfl rfl rfl ?_;have hoc:∀e:Heap,1<e.length->S 167 [.sl (some 5) r l.length 0 l.length,P4 v,zw w (hp.length+1),.map (hp.length+2)] (US hp q r l++e)=some (.ret (P5 false),US hp q r l++e):=fun e he=>
  Of (.inr (US_B hr l e)) hO.good.1 (by omega) v w (hp.length+1) (hp.length+2) (by grind) hf hvw
 have hoc1:=hoc [.box (some 4) (zw w (hp.length+1)),.arr (some 4) [] false,.map none []] (by simp);have hpl:=fun e=>V4 (US_B (q:=q) hr l e) v hO.good.1 (by omega);have hcl:=Og w hw (hp.length+1) (US hp q r l++[.box (some 4) (zw w (hp.length+1)),.arr (some 4) [] false,.map none []]) (by grind);rw[setN (hlen l)] at hcl;simp only[List.set_cons_succ,List.set_cons_zero,Tm.av] at hcl;have hbd:zQ A5 [0,1] [P4 v,.pv (some 4) (tvar w).pv]=some (.pv (some 5) (bdp (v,tvar w))):=rfl;have hins:∀e:Heap,S 168 [.sl (some 5) r l.length 0 l.length,P4 (lbB l v:Int),.tsl (some 5) [bdp (v,tvar w)]] (US hp q r l++e)=some (.ret (.sl (some 5) r (insB l v (tvar w)).length 0 (insB l v (tvar w)).length),UA hp q r l (insB l v (tvar w))++e):=fun e=>by
  obtain⟨s',H',h1,_,_,h2|h2⟩:=Bo (US_B (q:=q) hr l e) v (tvar w) (by omega)
  ·obtain⟨r',n',h3,h4,h5⟩:=h2;cases h3;rw[h1,h4,h5,Ke,List.set_append_left _ _ (by grind)];rfl
  grind
 have hst:=fun l' e=>BF (r:=r) hq hn l l' hp.length hq e;simp only[zw] at hoc1 hcl;generalize hT:(tvar w).pv=T at hcl hbd;simp -dsimp -implicitDefEqProofs only[go_sem,seval,vagg,hoc1,hpl,hcl,hbd,hsm,hins,hst,hlen,hg0,hg1,hs0,hld,xy,Qb,ZE,ZX,ZR,ZS,z6]
 grind
def yN(hp:Heap)(q r:Nat)(l:List B)(x y:Tm)(res:ARes)(hp':Heap):Prop:=
 match ustep l x y with
 | .err e=>res=.panic (qq e)/\hp'=US hp q r l
 | .bind v t=>res=.ret (P5 false)/\hp'=US hp q r (insB l v t)
 | .args xs=>hp'=US hp q r l/\((res=.ret (P5 false)/\xs=[])\/(res=.ret (P5 true)/\xs=x.args.zip y.args/\x.args.length=y.args.length))
theorem Oh(l:List B)(hO:OKB l)(hl:l.length<90000000)(x y:Tm)(hx:Flwd l x)(hy:Flwd l y)(hp:Heap)(q r:Nat)(hq:q<hp.length)(hr:r<hp.length)(hn:q≠r):
  ∃res hp',S 158 [.ptr q 0,x.av,y.av] (US hp q r l)=some (res,hp')/\yN hp q r l x y res hp':=by
 have hlen:=fun l=>JJ hp q r l;have hg0:∀(l:List B) (e:Heap),(US hp q r l++e)[hp.length]? =e[0]? :=fun l e=>Ye (hlen l);have hg1:∀(l:List B) (e:Heap) (j:Nat),(US hp q r l++e)[hp.length+j]? =e[j]? :=fun l e j=>getN (hlen l) j;have hsb:∀x:Int,zQ A6 [0] [P4 x]=some (.pv (some 1) (.agg [(none,.int .i64 x)])):=fun _=>rfl;have hmi:∀(s:Sh) (p:PV),Xl 172 [.pv s p]=some (.pv none (.iface 172 s p)):=fun _ _=>rfl;have hpan:∀A:Prop,panK true A=A:=fun _=>rfl;have htk:∀(l:List B) (e:Heap),List.take hp.length (US hp q r l++e)=US hp q r l:=fun l e=>ZF (hlen l);have hif:∀(b:Bool) (A B:Heap),(if((AV.pv none (PV.bool b)).refsIn.all fun q=>decide (q<hp.length))=true then A else B)=A:=fun b A B=>Zj (by simp[AV.refsIn]);refine XJ (yN hp q r l x y) rfl rfl rfl rfl ?_;have hbu:∀v:Int,zQ A0 [1] [P4 v]=some (.agg [(none,P4 0),(none,P4 v),(none,P6 []),(none,.tsl (some 4) [])]):=fun _=>rfl;by_cases hxk:x.kind=0
 ·have hx2:=hx.2 hxk;have hxk':=Zi hxk;by_cases hyk:y.kind=0
  ·have hy2:=hy.2 hyk;have hyk':=Zi hyk;by_cases hlt:y.n<x.n
   ·have hu:ustep l x y=.bind x.n y:=by grind [ustep]
    have hcall:=BI l hO hl x.n y.n hy2.2.2 hy2.1 (by omega) (hp++[.box (some 4) (.pv (some 4) x.pv),.box (some 4) (.pv (some 4) y.pv)]) q r (by grind) (by grind) hn;rw[Xk hq hr,Xk hq hr,<-hy2.2.1] at hcall;simp only[vagg] at hcall;have hne:¬x.n=y.n:=by omega
    have h1:=Zi hlt;have h2:=Zg (show ¬x.n<y.n by omega);simp -dsimp -implicitDefEqProofs only[go_sem,seval,Tm.av,hxk',hyk',hne,h1,h2,hbu,hcall,hsb,hmi,hpan,zJ,Yf,hlen,hg0,hg1,Yg,Ym,Ys];unfold yN;rw[hu];exact⟨rfl,by rw[hif];grind⟩
   ·by_cases hgt:x.n<y.n
    ·have hu:ustep l x y=.bind y.n x:=by grind [ustep]
     have hcall:=BI l hO hl y.n x.n hx2.2.2 hx2.1 (by omega) (hp++[.box (some 4) (.pv (some 4) x.pv),.box (some 4) (.pv (some 4) y.pv)]) q r (by grind) (by grind) hn;rw[Xk hq hr,Xk hq hr,<-hx2.2.1] at hcall;simp only[vagg] at hcall;have hne:¬x.n=y.n:=by omega
     have h1:=Zi hgt;have h2:=Zg (show ¬y.n<x.n by omega);simp -dsimp -implicitDefEqProofs only[go_sem,seval,Tm.av,hxk',hyk',hne,h1,h2,hbu,hcall,hsb,hmi,hpan,zJ,Yf,hlen,hg0,hg1,Yg,Ym,Ys];unfold yN;rw[hu];exact⟨rfl,by rw[hif];grind⟩
    ·have hu:ustep l x y=.args []:=by grind [ustep]
     have hne:=Zi (show x.n=y.n by omega);simp -dsimp -implicitDefEqProofs only[go_sem,seval,Tm.av,hxk',hyk',hne,hsb,hmi,hpan,zJ,Yf,hlen,hg0,hg1,Yg,Ym,Ys];unfold yN;rw[hu];exact⟨by rw[hif];grind,.inl ⟨rfl,rfl⟩⟩
  ·have hyk':=Zg hyk;obtain⟨res,hp',hcall,hin,hout⟩:=BH l hO hl x.n y hy.1 (hp++[.box (some 4) (.pv (some 4) x.pv),.box (some 4) (.pv (some 4) y.pv)]) q r (by grind) (by grind) hn;rw[Xk hq hr] at hcall hin;rw[Xk hq hr] at hout;simp only[Tm.av] at hcall;by_cases hi:inR l x.n y
   ·have hu:ustep l x y=.err 9:=by grind [ustep]
    obtain⟨rfl,rfl⟩:=hin hi;simp -dsimp -implicitDefEqProofs only[go_sem,seval,Tm.av,hxk',hyk',hcall,hsb,hmi,hpan,zJ,Yf,hlen,hg0,hg1,Yg,Ym,Ys]
    grind [yN]
   ·have hu:ustep l x y=.bind x.n y:=by grind [ustep]
    obtain⟨rfl,rfl⟩:=hout hi;simp -dsimp -implicitDefEqProofs only[go_sem,seval,Tm.av,hxk',hyk',hcall,hsb,hmi,hpan,zJ,Yf,hlen,hg0,hg1,Yg,Ym,Ys];unfold yN;rw[hu];exact⟨rfl,by rw[hif];grind⟩
 ·have hxk':=Zg hxk;by_cases hyk:y.kind=0
  ·have hy2:=hy.2 hyk;have hyk':=Zi hyk;obtain⟨res,hp',hcall,hin,hout⟩:=BH l hO hl y.n x hx.1 (hp++[.box (some 4) (.pv (some 4) x.pv),.box (some 4) (.pv (some 4) y.pv)]) q r (by grind) (by grind) hn;rw[Xk hq hr] at hcall hin;rw[Xk hq hr] at hout;simp only[Tm.av] at hcall;by_cases hi:inR l y.n x
   ·have hu:ustep l x y=.err 9:=by grind [ustep]
    obtain⟨rfl,rfl⟩:=hin hi;simp -dsimp -implicitDefEqProofs only[go_sem,seval,Tm.av,hxk',hyk',hcall,hsb,hmi,hpan,zJ,Yf,hlen,hg0,hg1,Yg,Ym,Ys]
    grind [yN]
   ·have hu:ustep l x y=.bind y.n x:=by grind [ustep]
    obtain⟨rfl,rfl⟩:=hout hi;simp -dsimp -implicitDefEqProofs only[go_sem,seval,Tm.av,hxk',hyk',hcall,hsb,hmi,hpan,zJ,Yf,hlen,hg0,hg1,Yg,Ym,Ys];unfold yN;rw[hu];exact⟨rfl,by rw[hif];grind⟩
  ·have hyk':=Zg hyk;by_cases hm:x.kind=y.kind/\x.n=y.n/\x.name=y.name/\x.args.length=y.args.length
   ·have hu:ustep l x y=.args (x.args.zip y.args):=by grind [ustep]
    obtain⟨m1,m2,m3,m4⟩:=hm;have m1':=Zi m1;have m2':=Zi m2;have m3':=Zi m3;have m4':=Zi (show(x.args.length:Int)=(y.args.length:Int) by omega);simp -dsimp -implicitDefEqProofs only[go_sem,seval,Tm.av,hxk',hyk',m1',m2',m3',m4',zN,zL,Tm.pvs_len,hsb,hmi,hpan,zJ,Yf,hlen,hg0,hg1,Yg,Ym,Ys];unfold yN;rw[hu];exact⟨by rw[hif];grind,.inr ⟨rfl,rfl,m4⟩⟩
   ·have hu:ustep l x y=.err 4:=by grind [ustep]
    by_cases m1:x.kind=y.kind
    ·by_cases m2:x.n=y.n
     ·by_cases m3:x.name=y.name
      ·have m4:¬x.args.length=y.args.length:=fun e=>hm ⟨m1,m2,m3,e⟩;have m4:¬(x.args.length:Int)=(y.args.length:Int):=by omega
       have m1':=Zi m1;have m2':=Zi m2;have m3':=Zi m3;simp -dsimp -implicitDefEqProofs only[go_sem,seval,Tm.av,hxk',hyk',m1',m2',m3',m4,zN,zL,Tm.pvs_len,hsb,hmi,hpan,zJ,Yf,hlen,hg0,hg1,Yg,Ym,Ys];unfold yN;rw[hu];exact⟨rfl,htk _ _⟩
      ·have m1':=Zi m1;have m2':=Zi m2;simp -dsimp -implicitDefEqProofs only[go_sem,seval,Tm.av,hxk',hyk',m1',m2',m3,zN,zL,Tm.pvs_len,hsb,hmi,hpan,zJ,Yf,hlen,hg0,hg1,Yg,Ym,Ys];unfold yN;rw[hu];exact⟨rfl,htk _ _⟩
     ·have m1':=Zi m1;simp -dsimp -implicitDefEqProofs only[go_sem,seval,Tm.av,hxk',hyk',m1',m2,zN,zL,Tm.pvs_len,hsb,hmi,hpan,zJ,Yf,hlen,hg0,hg1,Yg,Ym,Ys];unfold yN;rw[hu];exact⟨rfl,htk _ _⟩
    ·simp -dsimp -implicitDefEqProofs only[go_sem,seval,Tm.av,hxk',hyk',m1,zN,zL,Tm.pvs_len,hsb,hmi,hpan,zJ,Yf,hlen,hg0,hg1,Yg,Ym,Ys];unfold yN;rw[hu];exact⟨rfl,htk _ _⟩
inductive Vis(l:List B)(w:Int):Tm->Prop
 |tov:fndB l w=true->Vis l w (toB l w)
 |arg {x u:Tm}:Vis l w x->¬x.kind=0->u∈x.args->Vis l w u
 |jump {x:Tm}:Vis l w x->x.kind=0->fndB l x.n=true->Vis l w (toB l x.n)
theorem Vis.lt{l:List B}(hA:Acyc l){w:Int}{x:Tm}(h:Vis l w x):mu l x<mu l (tvar w):=by
 induction h with
 |tov hf=>exact Qi (t:=tvar w) hA rfl hf
 |arg _ hk hu ih=>have:=V6 l hk hu;omega
 |jump _ hk hf ih=>grind [Qi]
theorem Vis.ins{l:List B}(hG:Good l){v:Int}{t:Tm}(hf:fndB l v=false){w:Int}{x:Tm}(h:Vis l w x):Vis (insB l v t) w x:=by
 induction h with
 |tov h1=>
  have:=Vis.tov (l:=insB l v t) (w:=w) ((JI hG hf w).2 (.inr h1))
  grind [Kl]
 |arg _ hk hu ih=>exact ih.arg hk hu
 |jump _ hk h1 ih=>
  have:=ih.jump hk ((JI hG hf _).2 (.inr h1))
  grind [Kl]
theorem Vis.flw{l:List B}(hO:OKB l){w:Int}:∀(k:Nat) (u:Tm),mu l u=k->u.valid=true->Vis l w u->Vis l w (flw l u):=by
 intro k
 induction k using Nat.strongRecOn with
 |_ k ih=>
  intro u hk hv h;by_cases hk0:u.kind=0
  ·by_cases hf:fndB l u.n=true
   ·rw[Kh hO.Acyc hk0 hf];have:=Qi hO.Acyc hk0 hf;exact ih _ (by omega) _ rfl (hO.to hf).1 (h.jump hk0 hf)
   ·rw[Ki hO.Acyc (valid_fits hv) hk0 hf];exact h
  grind [Kg]
def PosI(l:List B)(u:Tm)(i:Nat):Prop:=∃D:List Int,D.Nodup/\(∀w∈D,fndB l w=true/\Vis l w u)/\i+u.size<=2000*(D.length+1)
def StkI(l:List B):List (Tm × Tm)->Prop
 |[]=>True
 |p::r=>PosI l p.1 r.length/\StkI l r
theorem PosI.ins{l:List B}(hG:Good l){v:Int}{t:Tm}(hf:fndB l v=false){u:Tm}{i:Nat}(h:PosI l u i):PosI (insB l v t) u i:=by
 obtain⟨D,h1,h2,h3⟩:=h;exact⟨D,h1,fun w hw=>⟨(JI hG hf w).2 (.inr (h2 w hw).1),(h2 w hw).2.ins hG hf⟩,h3⟩
theorem StkI.ins{l:List B}(hG:Good l){v:Int}{t:Tm}(hf:fndB l v=false):∀{r:List (Tm × Tm)},StkI l r->StkI (insB l v t) r
 |[],_=>trivial
 |_::_,h=>⟨h.1.ins hG hf,StkI.ins hG hf h.2⟩
theorem StkI.len{l:List B}{r:List (Tm × Tm)}(h:StkI l r):r.length<=2000*(l.length+1):=by
 cases r with
 |nil=>grind
 |cons p r=>
  obtain⟨D,h1,h2,h3⟩:=h.1;have:=nV h1 fun w hw=>(h2 w hw).1;have h4:=p.1.size_eq
  grind
theorem vj{l:List B}{D:List Int}(h1:D.Nodup):∀(us vs:List Tm) (r:List (Tm × Tm)),us.length=vs.length->(∀u∈us,∀w∈D,fndB l w=true/\Vis l w u)->r.length+Tm.sizes us<=2000*(D.length+1)->StkI l r->StkI l (us.zip vs++r)
 |[],_,r,_,_,_,hr=>hr
 |u::us,[],r,hl,_,_,_=>by cases hl
 |u::us,v::vs,r,hl,hD,hs,hr=>by
  have hl':us.length=vs.length:=by grind
  have hs':r.length+(u.size+Tm.sizes us)<=2000*(D.length+1):=hs;have hz:=Tm.zAG us;refine⟨⟨D,h1,hD u ZG,?_⟩,vj h1 us vs r hl' (fun x hx=>hD x (Zw _ hx)) (by omega) hr⟩;show(us.zip vs++r).length+u.size<=_
  grind
theorem StkI.push{l:List B}(hO:OKB l){p:Tm × Tm}{r:List (Tm × Tm)}(hp:p.1.valid=true)(h:StkI l (p::r))(vs:List Tm)(hk:¬(Go.Proofs.YtgedfopkiebjkaaGreatDoor.flw l p.1).kind=0)(hl:(Go.Proofs.YtgedfopkiebjkaaGreatDoor.flw l p.1).args.length=vs.length):StkI l ((Go.Proofs.YtgedfopkiebjkaaGreatDoor.flw l p.1).args.zip vs++r):=by
 obtain⟨⟨D,h1,h2,h3⟩,hr⟩:=h;have hx:=QT hO hp;have hxs:=valid_size hx.1;have hxe:=(Go.Proofs.YtgedfopkiebjkaaGreatDoor.flw l p.1).size_eq;by_cases hk0:p.1.kind=0
 ·have hps:p.1.size=1:=by rw[XI (valid_fits hp) hk0];rfl
  have hf:fndB l p.1.n=true:=by
   cases e:fndB l p.1.n with
   |true=>rfl
   |false=>exact absurd (by rw[Ki hO.Acyc (valid_fits hp) hk0 (by simp[e])];grind) hk
  have hv:Vis l p.1.n (Go.Proofs.YtgedfopkiebjkaaGreatDoor.flw l p.1):=by
   rw[Kh hO.Acyc hk0 hf];exact Vis.flw hO _ _ rfl (hO.to hf).1 (.tov hf)
  have hnm:p.1.n ∉ D:=fun hm=>by
   have:=(h2 _ hm).2.lt hO.Acyc
   grind [Kk,valid_fits]
  refine vj (D:=p.1.n::D) (List.nodup_cons.2 ⟨hnm,h1⟩) _ vs r hl (fun u hu w hw=> ?_) (by grind) hr;rcases Zy.1 hw with rfl|hw
  ·exact⟨hf,hv.arg hk hu⟩
  ·exact⟨(h2 w hw).1,(Vis.flw hO _ _ rfl hp (h2 w hw).2).arg hk hu⟩
 ·rw[Kg l hk0] at hxe hk hl ⊢;exact vj h1 _ vs r hl (fun u hu w hw=>⟨(h2 w hw).1,(h2 w hw).2.arg hk0 hu⟩) (by omega) hr
theorem Oi{hp:Heap}{r len:Nat}{es:List PV}{x:PV}(h:hp[r]? =some (.arr (some 8) es false))(hlen:len<=es.length)(hlim:len+1<=lim):
  ∃es',z8 (some 8) hp [.sl (some 8) r es.length 0 len,.tsl (some 8) [x]]=some (.sl (some 8) r es'.length 0 (len+1),hp.set r (.arr (some 8) es' false))/\es'.take (len+1)=es.take len++[x]/\len+1<=es'.length/\∀y∈es',y∈es\/y=x:=by
 by_cases h1:len=es.length
 ·subst h1;refine⟨es++[x],by grind [z8,aappend,elems],by grind,by simp,fun y hy=>by grind⟩
 ·have h2:len+1<=es.length:=by omega
  refine⟨es.take len++[x]++es.drop (len+1),?_,?_,?_,fun y hy=> ?_⟩
  ·grind [z8,aappend,elems]
  ·grind
  ·grind
  grind
theorem BJ(b:B):PV.beq (bdp b) (bdp b)=true:=by simp[bdp,PV.beq,PV.beqc,xB]
theorem Oj(l:List B)(z:Bool):AObj.beq (.arr (some 5) (bds l) z) (.arr (some 5) (bds l) z)=true:=by
 grind [bds,VY,BJ,AObj.beq]
theorem Ok(l:List B)(hG:Good l)(hl:l.length<90000000)(hp:Heap)(hb:Bq hp):
  S 145 [.pv none (.sl (some 5) (bds l))] hp=some (.ret (.sl (some 5) (hp.length+1) l.length 0 l.length),hp++[.arr (some 5) [] false,.arr (some 5) (bds l) false]):=by
 refine Yj rfl rfl rfl rfl ?_;have hn0:∀H:Heap,YM (some 5) H=some (.sl (some 5) H.length 0 0 0,H++[.arr (some 5) [] false]):=fun H=>Xo (sh:=some 5) (by decide);simp -dsimp -implicitDefEqProofs only[go_sem,seval,hn0,Xu];refine Yp (α:=Unit) l.length (fun i _=>True) (fun i _=>⟨[(3,.sl (some 5) (hp.length+1) i 0 i),(6,.pv none (.sl (some 5) (bds l))),(7,P4 l.length),(8,P4 i)],hp++[.arr (some 5) [] false,.arr (some 5) (bds (l.take i)) false]⟩) () ⟨trivial,rfl⟩ ?_ ?_
 ·rintro i - h -;have hc:(i:Int)<(l.length:Int):=by omega
  obtain⟨b,hbb⟩:∃b,l[i]? =some b:=⟨_,Ze h⟩;have hbv:=hG.2 b (Zh hbb);have w2:IntKind.i64.wrap ((i:Int)+1)=((i+1:Nat):Int):=by grind [zU]
  have hlim:i+1<=lim:=by grind [lim]
  have htl:(bds (l.take i)).length=i:=by grind [Xu]
  have hcl:=fun hp=>Xg b.2 hp hbv.1 hbv.2;simp only[Tm.av] at hcl;have hbd:zQ A5 [0,1] [P4 b.1,.pv (some 4) b.2.pv]=some (.pv (some 5) (bdp (b.1,b.2))):=rfl;have hs1:Yy (hp++[.arr (some 5) [] false,.arr (some 5) (bds (l.take i)) false,.box (some 5) (.pv (some 5) (bdp b))]) (hp++[.arr (some 5) [] false,.arr (some 5) (bds (l.take i)) false,.box (some 5) (.pv (some 5) (bdp b))]) (.ptr (hp.length+2) 0)=true:=by simp[Yy,YJ,AObj.beq,AV.beq,BJ]
  have happ:z8 (some 5) (hp++[.arr (some 5) [] false,.arr (some 5) (bds (l.take i)) false,.box (some 5) (.pv (some 5) (bdp b))]) [.sl (some 5) (hp.length+1) i 0 i,.tsl (some 5) [bdp (b.1,b.2)]]=some (.sl (some 5) (hp.length+1) (i+1) 0 (i+1),hp++[.arr (some 5) [] false,.arr (some 5) (bds (l.take (i+1))) false,.box (some 5) (.pv (some 5) (bdp b))]):=by
   have e:bds (l.take (i+1))=bds (l.take i)++[bdp (b.1,b.2)]:=by simp_all[nL,bds]
   rw[Gv (by rw[getN rfl];exact⟨rfl,htl⟩) (by grind),e];simp;rfl
  simp -dsimp -implicitDefEqProofs only[go_sem,seval,hc,zT (JF hbb),Bl,V3,w2,hbd,hcl,ZE,ZX,ZR,ZS,hs1,happ];simp_all[ym,AObj.refs,AV.refsIn]
 ·rintro - -;have hc:¬(l.length:Int)<(l.length:Int):=by omega
  simp -dsimp -implicitDefEqProofs only[go_sem,seval,hc]
  grind [AV.refsIn]
def prP(p:Tm × Tm):PV:=.agg [(some 4,p.1.pv),(some 4,p.2.pv)]
def prs(r:List (Tm × Tm)):List PV:=r.map prP
theorem vk(p:Tm × Tm):PV.beq (prP p) (prP p)=true:=by simp[prP,PV.beq,PV.beqc,xB]
theorem Km(p:Tm × Tm):PV.part deep (prP p) 0 (some 4)=some p.1.pv:=rfl
theorem Kn(p:Tm × Tm):PV.part deep (prP p) 4 (some 4)=some p.2.pv:=rfl
theorem Ol{es:List PV}(h:∀x∈es,PV.beq x x=true):AObj.beq (.arr (some 8) es false) (.arr (some 8) es false)=true:=by
 simp[AObj.beq,VY h]
theorem Om{hp:Heap}(hb:Bq hp)(q r:Nat)(l:List B):Bq (US hp q r l):=by
 unfold US;exact(hb.set q (by simp[AObj.beq,AV.beq,AV.beqc])).set r (Oj l false)
structure RunI(l0:List B)(p0:Tm × Tm)(n:Nat)(l:List B)(r:List (Tm × Tm)):Prop where
 okb:OKB l
 val:∀p∈r,p.1.valid=true/\p.2.valid=true
 eq:uni 1048576 l0 [p0]=uni n l r
 le:n<=1048576
 stk:StkI l r
 cnt:r.length+2000*l.length+2000*n<=1+2000*1048576+2000*l0.length
theorem RunI.lim{l0:List B}{p0:Tm × Tm}{n:Nat}{l:List B}{r:List (Tm × Tm)}(h:RunI l0 p0 n l r)(h0:l0.length<=10000):r.length+1<=Am.lim:=by
 have h1:=h.stk.len;have h2:=h.cnt
 grind [Am.lim]
theorem RunI.short{l0:List B}{p0:Tm × Tm}{n:Nat}{l:List B}{r:List (Tm × Tm)}(h:RunI l0 p0 n l r)(h0:l0.length<=10000):l.length<80000000:=by
 have h2:=h.cnt;omega
theorem RunI.bind{l0:List B}{p0:Tm × Tm}{n:Nat}{l:List B}{p:Tm × Tm}{r:List (Tm × Tm)}(h:RunI l0 p0 (n+1) l (p::r)){v:Int}{t:Tm}(hu:ustep l (flw l p.1) (flw l p.2)=.bind v t):RunI l0 p0 n (insB l v t) r:=by
 obtain⟨hO,hv,he,hle,hs,hc⟩:=h;have hp:=hv p ZG;have hb:=Ob hO (QT hO hp.1) (QT hO hp.2) hu;refine⟨n9 hO hb.unb hb.rng hb.val hb.out,fun q hq=>hv q (Zw _ hq),by grind [nZ],by omega,StkI.ins hO.good hb.unb hs.2,?_⟩
 grind [Ke]
theorem RunI.none{l0:List B}{p0:Tm × Tm}{n:Nat}{l:List B}{p:Tm × Tm}{r:List (Tm × Tm)}(h:RunI l0 p0 (n+1) l (p::r))(hu:ustep l (flw l p.1) (flw l p.2)=.args []):RunI l0 p0 n l r:=by
 obtain⟨hO,hv,he,hle,hs,hc⟩:=h;refine⟨hO,fun q hq=>hv q (Zw _ hq),by simp_all[BB],by omega,hs.2,?_⟩
 grind
theorem RunI.args{l0:List B}{p0:Tm × Tm}{n:Nat}{l:List B}{p:Tm × Tm}{r:List (Tm × Tm)}(h:RunI l0 p0 (n+1) l (p::r))(hk:¬(flw l p.1).kind=0)(hl:(flw l p.1).args.length=(flw l p.2).args.length)(hu:ustep l (flw l p.1) (flw l p.2)=.args ((flw l p.1).args.zip (flw l p.2).args)):RunI l0 p0 n l ((flw l p.1).args.zip (flw l p.2).args++r):=by
 obtain⟨hO,hv,he,hle,hs,hc⟩:=h;have hp:=hv p ZG;have ha:=Oc (QT hO hp.1) (QT hO hp.2) hu;refine⟨hO,fun q hq=>(Z6.1 hq).elim (ha.1 q) fun hq=>hv q (Zw _ hq),by grind [BB],by omega,hs.push hO hp.1 _ hk hl,?_⟩
 grind
def RunP(hp:Heap)(q r:Nat)(R:List B × Int)(res:ARes)(hp':Heap):Prop:=
 (∃l',R=(l',0)/\res=.ret (.tuple [])/\hp'=US hp q r l')\/∃e l',R=([],e)/\res=.panic (qq e)/\hp'=US hp q r l'
theorem On(l0:List B)(a b:Tm)(hO:OKB l0)(hl:l0.length<=10000)(ha:a.valid=true)(hb:b.valid=true)(hp:Heap)(hbq:Bq hp)(q r:Nat)(hq:q<hp.length)(hr:r<hp.length)(hn:q≠r):
  ∃res hp',S 146 [.ptr q 0,a.av,b.av] (US hp q r l0)=some (res,hp')/\RunP hp q r (uni 1048576 l0 [(a,b)]) res hp':=by
 have hlen:=fun l=>JJ hp q r l;have hg0:∀(l:List B) (e:Heap),(US hp q r l++e)[hp.length]? =e[0]? :=fun l e=>Ye (hlen l);have hg1:∀(l:List B) (e:Heap) (j:Nat),(US hp q r l++e)[hp.length+j]? =e[j]? :=fun l e j=>getN (hlen l) j;have hs1:∀(l:List B) (Y:AObj) (e:Heap) (j:Nat),(US hp q r l++e).set (hp.length+j) Y=US hp q r l++e.set j Y:=fun l Y e j=>setN (hlen l) j Y;have hld:=fun l e=>vi (r:=r) hq hn l e;have hsb:∀x:Int,zQ A6 [0] [P4 x]=some (.pv (some 1) (.agg [(none,.int .i64 x)])):=fun _=>rfl;have hmi:∀(s:Sh) (p:PV),Xl 172 [.pv s p]=some (.pv none (.iface 172 s p)):=fun _ _=>rfl;have hpan:∀A:Prop,panK true A=A:=fun _=>rfl;have htk:∀(l:List B) (e:Heap),List.take hp.length (US hp q r l++e)=US hp q r l:=fun l e=>ZF (hlen l);refine XJ (RunP hp q r (uni 1048576 l0 [(a,b)])) rfl rfl rfl rfl ?_;have hbp:∀u w:Tm,zQ [(some 4,.agg A0),(some 4,.agg A0)] [0,1] [.pv (some 4) u.pv,.pv (some 4) w.pv]=some (.pv (some 8) (prP (u,w))):=fun _ _=>rfl;have hbs:∀(e:Heap),XP (some 8) (US hp q r l0++e) [.pv (some 8) (prP (a,b))]=some (.sl (some 8) (US hp q r l0++e).length 1 0 1,US hp q r l0++e++[.arr (some 8) [prP (a,b)] false]):=fun e=>by
  simp[XP,zZ,AV.freeze,deep,AV.shp,YG,Sh.size]
 simp -dsimp -implicitDefEqProofs only[go_sem,seval,Tm.av,hbp,hbs,hsb,hmi,hpan,hlen,hg0,hg1,hs1,hld,z6,Yg,Ym,Ys];refine XH (fun n st=>∃(l:List B) (rs:List (Tm × Tm)) (es:List PV),RunI l0 (a,b) n l rs/\es.take rs.length=prs rs.reverse/\rs.length<=es.length/\(∀x∈es,PV.beq x x=true)/\
  st=⟨[(0,.ptr q 0),(6,.sl (some 8) (hp.length+2) es.length 0 rs.length),(7,P4 (1048576 - (n:Int)))],US hp q r l++[.box (some 4) (.pv (some 4) a.pv),.box (some 4) (.pv (some 4) b.pv),.arr (some 8) es false]⟩) (n:=1048576) ?_ ?_
 ·refine⟨l0,[(a,b)],[prP (a,b)],⟨hO,fun p hp=> ?_,rfl,Zc _,⟨⟨[],List.nodup_nil,(fun w hw=>by cases hw),?_⟩,trivial⟩,?_⟩,rfl,Zc _,fun x hx=> ?_,?_⟩
  ·grind
  ·grind [valid_size]
  ·grind
  ·grind [vk]
  ·rfl
 ·rintro n st ⟨l,rs,es,hI,ht,hle,hbe,rfl⟩;cases rs with
  |nil=>
   have hc:¬(0:Int)<((0:Nat):Int):=by omega
   simp -dsimp -implicitDefEqProofs only[go_sem,seval,hc,hsb,hmi,hpan,hlen,hg0,hg1,hs1,hld,z6,Yg,Ym,Ys];have he:=hI.eq;rw[nW] at he;refine .inl ⟨l,he,rfl,?_⟩
   grind
  |cons p rs=>
  have hc:(0:Int)<((rs.length+1:Nat):Int):=by omega
  have hpv:=hI.val p ZG;have hn1:=hI.le;cases n with
  |zero=>
   have hc2:=Zi (show(1048576:Int) - ((0:Nat):Int)=1048576 by omega);simp -dsimp -implicitDefEqProofs only[go_sem,seval,hc,hc2,hsb,hmi,hpan,hlen,hg0,hg1,hs1,hld,z6,Yg,Ym,Ys];have he:=hI.eq;rw[nX] at he;exact .inr ⟨2,l,he,rfl,htk _ _⟩
  |succ n=>
  have hc2:¬(1048576:Int) - ((n+1:Nat):Int)=1048576:=by omega
  have hlim:=hI.lim hl;simp only[Z5] at hlim;have hlim2:rs.length+2<=1073741824:=by grind [Am.lim]
  have w1:IntKind.i64.wrap (((rs.length+1:Nat):Int) - 1)=(rs.length:Int):=by grind [zU]
  have w2:IntKind.i64.wrap (1048576 - ((n+1:Nat):Int)+1)=1048576 - (n:Int):=by grind [zU]
  have htop:es[rs.length]? =some (prP p):=by
   have h1:(es.take (rs.length+1))[rs.length]? =es[rs.length]? :=by grind
   grind [prs]
  have ht2:es.take rs.length=prs rs.reverse:=by
   have h1:es.take rs.length=(es.take (rs.length+1)).take rs.length:=by grind
   grind [prs]
  have hle2:rs.length+1<=es.length:=hle;have hias:zX (some 8) [.sl (some 8) (hp.length+2) es.length 0 (rs.length+1),P4 (rs.length:Int)]=some (.eptr (some 8) (hp.length+2) es.length rs.length 0):=by
   grind [xZ]
  have hsl:YE (some 8) false true [.sl (some 8) (hp.length+2) es.length 0 (rs.length+1),P4 (rs.length:Int)]=some (.sl (some 8) (hp.length+2) es.length 0 rs.length):=by
   grind [YE,aslice]
  have hae:∀e:Heap,aload (some 8) (US hp q r l++.box (some 4) (.pv (some 4) a.pv)::.box (some 4) (.pv (some 4) b.pv)::.arr (some 8) es false::e) (.eptr (some 8) (hp.length+2) es.length rs.length 0)=some (.pv (some 8) (prP p)):=fun e=>by
   grind [aload]
  have hO1:=hI.okb;have hx:=QT hO1 hpv.1;have hy:=QT hO1 hpv.2;have hl1:l.length<80000000:=hI.short hl;have hf1:=fun e=>Bx (.inr (US_B (q:=q) hr l e)) hO1 (by omega) p.1 hpv.1;have hf2:=fun e=>Bx (.inr (US_B (q:=q) hr l e)) hO1 (by omega) p.2 hpv.2;have hia0:∀ρ:Nat,xG (some 4) 2 [.ptr ρ 0,P4 0]=some (.ptr ρ 0):=fun _=>rfl;have hia1:∀ρ:Nat,xG (some 4) 2 [.ptr ρ 0,P4 1]=some (.ptr ρ 4):=fun _=>rfl;have hsame:Y4 (US hp q r l++[.box (some 4) (.pv (some 4) a.pv),.box (some 4) (.pv (some 4) b.pv),.arr (some 8) es false,.box (some 8) (.pv (some 8) (prP p))]) (US hp q r l++[.box (some 4) (.pv (some 4) a.pv),.box (some 4) (.pv (some 4) b.pv),.arr (some 8) es false,.box (some 8) (.pv (some 8) (prP p))])=true:=
   ((Om hbq q r l).app (Bq.cons (yG a) (Bq.cons (yG b) (Bq.cons (Ol hbe) (Bq.cons (by simp[AObj.beq,AV.beq,vk]) Bq.nil))))).same
  obtain⟨res,hp',hcall,hP⟩:=Oh l hO1 (by omega) (flw l p.1) (flw l p.2) hx hy (hp++[.box (some 4) (.pv (some 4) a.pv),.box (some 4) (.pv (some 4) b.pv),.arr (some 8) es false,.box (some 8) (.pv (some 8) (prP p)),.box (some 4) (.pv (some 4) (flw l p.1).pv),.arr (some 4) [] false,.box (some 4) (.pv (some 4) (flw l p.2).pv),.arr (some 4) [] false]) q r (by grind) (by grind) hn;rw[Xk hq hr] at hcall;unfold yN at hP;simp only[Tm.av] at hf1 hf2 hcall;have hcg:=fun K Kp=>nl (b:=hp.length) (s:=none) (K:=K) (Kp:=Kp) (hf1 [.box (some 4) (.pv (some 4) a.pv),.box (some 4) (.pv (some 4) b.pv),.arr (some 8) es false,.box (some 8) (.pv (some 8) (prP p))]) hsame;cases hu:ustep l (flw l p.1) (flw l p.2) with
  |err e=>
   rw[hu] at hP;obtain⟨rfl,rfl⟩:=hP;rw[Xk hq hr] at hcall;simp -dsimp -implicitDefEqProofs only[go_sem,seval,hc,hc2,w1,hias,hae,hsl,hia0,hia1,Km,Kn,hcg,hf2,hcall,hsb,hmi,hpan,hlen,hg0,hg1,hs1,hld,z6,Yg,Ym,Ys];have he:=hI.eq;rw[nY rs hu] at he;exact .inr ⟨e,l,he,rfl,htk _ _⟩
  |bind v t=>
   rw[hu] at hP;obtain⟨rfl,rfl⟩:=hP;rw[Xk hq hr] at hcall;simp -dsimp -implicitDefEqProofs only[go_sem,seval,hc,hc2,w1,w2,hias,hae,hsl,hia0,hia1,Km,Kn,hcg,hf2,hcall,hsb,hmi,hpan,hlen,hg0,hg1,hs1,hld,z6,Yg,Ym,Ys];refine⟨n,zn _,insB l v t,rs,es,hI.bind hu,ht2,Nat.le_of_succ_le hle2,hbe,?_⟩;rw[ym 3 (hlen _) rfl (by simp[AObj.refs,AV.refsIn]) (by grind [AV.refsIn])];rfl
  |args xs=>
   rw[hu] at hP;obtain⟨rfl,⟨rfl,rfl⟩|⟨rfl,rfl,hll⟩⟩:=hP
   ·rw[Xk hq hr] at hcall;simp -dsimp -implicitDefEqProofs only[go_sem,seval,hc,hc2,w1,w2,hias,hae,hsl,hia0,hia1,Km,Kn,hcg,hf2,hcall,hsb,hmi,hpan,hlen,hg0,hg1,hs1,hld,z6,Yg,Ym,Ys];refine⟨n,zn _,l,rs,es,hI.none hu,ht2,Nat.le_of_succ_le hle2,hbe,?_⟩;rw[ym 3 (hlen _) rfl (by simp[AObj.refs,AV.refsIn]) (by grind [AV.refsIn])];rfl
   ·rw[Xk hq hr] at hcall;have hRI:RunI l0 (a,b) n l ((flw l p.1).args.zip (flw l p.2).args++rs):=by
     by_cases hk:(flw l p.1).kind=0
     ·have e:(flw l p.1).args=[]:=(congrArg Tm.args (hx.2 hk).2.1).trans rfl;have e2:(flw l p.1).args.zip (flw l p.2).args=[]:=by rw[e];rfl
      rw[e2] at hu ⊢;exact hI.none hu
     ·exact hI.args hk hll hu
    have hxz:=valid_size hx.1;have hxz2:=(flw l p.1).size_eq;have hxz3:=Tm.zAG (flw l p.1).args;have w0:IntKind.i64.wrap (((flw l p.1).args.length:Int) - 1)=((flw l p.1).args.length:Int) - 1:=zU (by omega) (by omega);simp -dsimp -implicitDefEqProofs only[go_sem,seval,hc,hc2,w1,w2,hias,hae,hsl,hia0,hia1,Km,Kn,hcg,hf2,hcall,zL,Tm.pvs_len,w0,hsb,hmi,hpan,hlen,hg0,hg1,hs1,hld,z6,Yg,Ym,Ys];generalize hX:flw l p.1=x at*;generalize hY:flw l p.2=y at*;have hzl:(x.args.zip y.args).length=x.args.length:=by grind
    have hlm:=hRI.lim hl;rw[zi,hzl] at hlm;refine Yp (α:=List PV) x.args.length (fun i es1=>es1.take (rs.length+i)=prs (rs.reverse++((x.args.zip y.args).drop (x.args.length - i)).reverse)/\rs.length+i<=es1.length/\∀z∈es1,PV.beq z z=true)
     (fun i es1=>⟨[(0,.ptr q 0),(6,.sl (some 8) (hp.length+2) es1.length 0 (rs.length+i)),(7,P4 (1048576 - ((n+1:Nat):Int))),(9,.ptr (hp.length+4) 0),(10,.ptr (hp.length+6) 0),(11,P4 ((x.args.length:Int) - 1 - (i:Int)))],US hp q r l++[.box (some 4) (.pv (some 4) a.pv),.box (some 4) (.pv (some 4) b.pv),.arr (some 8) es1 false,.box (some 8) (.pv (some 8) (prP p)),.box (some 4) (.pv (some 4) x.pv),.arr (some 4) [] false,.box (some 4) (.pv (some 4) y.pv),.arr (some 4) [] false]⟩) es ⟨⟨?_,Nat.le_of_succ_le hle2,hbe⟩,?_⟩ ?_ ?_
    ·grind
    ·rw[show(x.args.length:Int) - 1 - ((0:Nat):Int)=(x.args.length:Int) - 1 by omega];rfl
    ·rintro i es1 h ⟨k1,k2,k3⟩;obtain⟨j,hj⟩:∃j,j=x.args.length - 1 - i:=⟨_,rfl⟩;have ej:(x.args.length:Int) - 1 - (i:Int)=(j:Int):=by omega
     have hc5:(0:Int)<=(j:Int):=by omega
     obtain⟨u,hu1⟩:∃u,x.args[j]? =some u:=⟨_,Ze (by omega)⟩;obtain⟨w,hw1⟩:∃w,y.args[j]? =some w:=⟨_,Ze (by omega)⟩;have hdr:(x.args.zip y.args).drop (x.args.length - (i+1))=(u,w)::(x.args.zip y.args).drop (x.args.length - i):=by
      grind [zC]
     have w5:IntKind.i64.wrap ((j:Int) - 1)=(x.args.length:Int) - 1 - ((i+1:Nat):Int):=by grind [zU]
     obtain⟨es2,hpu,g1,g2,g3⟩:=Oi (hp:=US hp q r l++[.box (some 4) (.pv (some 4) a.pv),.box (some 4) (.pv (some 4) b.pv),.arr (some 8) es1 false,.box (some 8) (.pv (some 8) (prP p)),.box (some 4) (.pv (some 4) x.pv),.arr (some 4) [] false,.box (some 4) (.pv (some 4) y.pv),.arr (some 4) [] false]) (r:=hp.length+2) (es:=es1) (len:=rs.length+i) (x:=prP (u,w)) (by grind) k2 (by omega);rw[hs1] at hpu;simp only[List.set_cons_succ,List.set_cons_zero] at hpu;simp -dsimp -implicitDefEqProofs only[go_sem,seval,ej,hc5,w5,zT (Tm.pvs_get hu1),zT (Tm.pvs_get hw1),zL,Tm.pvs_len,hbp,hpu,hsb,hmi,hpan,hlen,hg0,hg1,hs1,hld,z6,Yg,Ym,Ys];refine⟨es2,⟨?_,g2,fun z hz=> ?_⟩,?_⟩
     ·rw[hdr,List.reverse_cons,<-Zo]
      grind [prs]
     ·grind [vk]
     ·rw[ym 8 (hlen _) rfl (by simp[AObj.refs,AV.refsIn]) (by grind [AV.refsIn])];rfl
    ·rintro es1 ⟨k1,k2,k3⟩;have hc5:¬(0:Int)<=(x.args.length:Int) - 1 - (x.args.length:Int):=by omega
     simp -dsimp -implicitDefEqProofs only[go_sem,seval,hc5,w2,hsb,hmi,hpan,hlen,hg0,hg1,hs1,hld,z6,Yg,Ym,Ys];rw[Nat.sub_self,List.drop_zero,<-List.reverse_append] at k1;have hal:(x.args.zip y.args++rs).length=rs.length+x.args.length:=by grind
     refine⟨n,zn _,l,x.args.zip y.args++rs,es1,hRI,by grind,by grind,k3,?_⟩;rw[ym 3 (hlen _) rfl (by simp[AObj.refs,AV.refsIn]) (by grind [AV.refsIn]),hal];rfl
theorem Oo(x0 x1 x3:AObj)(s:AV)(k:AV)(e:Heap):sem (find tab) prim .dfr 144 [.pv none .niliface,.ptr 2 0,.ptr 4 0] (x0::x1::.box none s::x3::.box none k::e)=some (.ret (.tuple []),x0::x1::.box none s::x3::.box none k::e):=by
 refine QQ (t:=5) rfl rfl rfl rfl ?_;have has:yP 172 (some 1) (.pv (some 1) (.agg [(none,.int .i64 0)])) true [.pv none .niliface]=some (.tuple [.pv (some 1) (.agg [(none,.int .i64 0)]),P5 false]):=rfl;have hin:xj true [.pv none .niliface]=some (P5 false):=rfl;simp -dsimp -implicitDefEqProofs only[go_sem,seval,has,hin,QP];simp
theorem Oq(x0 x1 x3:AObj)(s:AV)(k y:Int)(e:Heap):sem (find tab) prim .dfr 144 [.pv none (qq y),.ptr 2 0,.ptr 4 0] (x0::x1::.box none s::x3::.box none (P4 k)::e)=some (.ret (.tuple []),x0::x1::.box none (.tsl (some 5) [])::x3::.box none (P4 y)::e):=by
 refine QQ (t:=5) rfl rfl rfl rfl ?_;have has:yP 172 (some 1) (.pv (some 1) (.agg [(none,.int .i64 0)])) true [.pv none (qq y)]=some (.tuple [.pv (some 1) (.agg [(none,.int .i64 y)]),P5 true]):=rfl;have hst:∀E:Heap,YV none (e.length+5) (x0::x1::.box none s::x3::.box none (P4 k)::E) [.ptr 2 0,.tsl (some 5) [],.ptr (e.length+5) 0]=some (.undef,x0::x1::.box none (.tsl (some 5) [])::x3::.box none (P4 k)::E):=fun E=>by
  simp_all[YV,astore,XB,AV.plain,AV.shp,AV.refsIn]
 simp -dsimp -implicitDefEqProofs only[go_sem,seval,has,hst,QP];simp
end Go.Proofs.YtgedfopkiebjkaaGreatDoor
