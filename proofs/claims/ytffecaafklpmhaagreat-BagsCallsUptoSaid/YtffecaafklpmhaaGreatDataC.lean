/- What is proved: bags.pairs. -/
import Derived.Test.YtffecaafklpmhaaGreatBLs
import Derived.Test.YtffecaafklpmhaaGreatVn
import Derived.Test.YtffecaafklpmhaaGreatAm4
import Derived.Test.YtffecaafklpmhaaGreatRMt
import Derived.Test.YtffecaafklpmhaaGreatAm5
set_option linter.unusedSimpArgs false
set_option linter.unusedVariables false
namespace Go.Proofs.YtffecaafklpmhaaGreat
open Go.Am
def Jx:List UInt8:=[112,97,105,114]
def Xh:List Tm->Option Tm
 |[]=>none
 |p::r=>if p.kind=0 then some instT else if Yj p=true then Xh r else some (typT Jx p)
def YG(t:Tm):List Tm × Tm × Bool:=
 if(YF t).2.2=true then(match Xh (YF t).1 with|none=>((YF t).1,zt,true)|some b=>([],b,false)) else([],(YF t).2.1,false)
theorem elsv:∀(n:Nat) (t:Tm),t.size=n->t.valid=true->∀x∈els t,x.valid=true:=by
 intro n
 induction n using Nat.strongRecOn with
 |_ n ih=>
  intro t hn hv x hx;by_cases h:cs t
  ·rw[qn h] at hx;rcases Zt.1 hx with rfl|hx
   ·exact YK hv (jv h.2.2)
   ·have:=Tm.zyQ (Xx h.2.2);exact ih _ (by omega) _ rfl (YK hv (Xx h.2.2)) x hx
  ·rw[qo h] at hx;cases hx
theorem jU(t:Tm):(∀x∈(YF t).1,x.valid=true)/\(YF t).1.length<=t.size:=by
 unfold YF;split
 ·rename_i hv;split
  ·exact⟨fun x h=>(by cases h),Zg _⟩
  ·split
   ·exact⟨elsv _ t rfl hv,jw _ t rfl⟩
   ·exact⟨fun x h=>(by cases h),Zg _⟩
 ·exact⟨fun x h=>(by cases h),Zg _⟩
theorem nv(t:Tm)(hp:Heap):S 67 [t.av,Oh [45],O8 2] hp=some (.ret (O9 (Yj t)),hp):=by
 refine Yb rfl rfl rfl (Yd [(some 4,t.pv),(none,.str [45]),(none,.int .i64 2)]) rfl ?_;unfold Yj;by_cases k1:t.kind=3
 ·by_cases k2:t.name=[45]
  ·by_cases k3:t.args.length=2
   ·have k3':=Zj (show(t.args.length:Int)=2 by omega);simp -dsimp -implicitDefEqProofs only[go_sem,seval,↓reduceIte,Ya,Ye,zV,Tm.pvs_len,Zj k1,Zj k2,k3'];simp[k1,k2,k3]
   ·have k3':=Zl (show ¬(t.args.length:Int)=2 by omega);simp -dsimp -implicitDefEqProofs only[go_sem,seval,↓reduceIte,Ya,Ye,zV,Tm.pvs_len,Zj k1,Zj k2,k3'];simp[k3]
  ·simp -dsimp -implicitDefEqProofs only[go_sem,seval,↓reduceIte,Ya,Ye,zV,Tm.pvs_len,Zj k1,Zl k2]
   try simp[k2]
 ·simp -dsimp -implicitDefEqProofs only[go_sem,seval,↓reduceIte,Ya,Ye,zV,Tm.pvs_len,Zl k1]
  try simp[k1]
theorem gT{p:PV}{B:Bool}{H:Heap}{r:Nat}(h2:H[r]? =some (.arr (some 4) [] false)):Am.frozen (.tuple [.pv none p,.pv (some 4) zt.pv,O9 B]) (.tuple [.pv none p,zg r,O9 B]) H:=by
 refine⟨H.set r (.arr (some 4) [] true),?_⟩;have e:=O3
 have e2:∀p hp,AV.freeze (7+1) (.pv none p) hp=some (p,hp):=fun _ _=>rfl;simp[AV.freezeRes,Yi,AV.freeze,deep,pvs,AV.shp,zg,e,e2,AV.freeze.go,h2];exact⟨rfl,rfl⟩
theorem nw(t:Tm)(ht:t.size<100000000)(hp:Heap):S 48 [t.av] hp=some (.ret (.tuple [.pv none (.sl (some 4) (Tm.pvs (YG t).1)),(YG t).2.1.av,.pv none (.bool (YG t).2.2)]),hp):=by
 refine Yb rfl rfl rfl (Yd [(some 4,t.pv)]) rfl ?_;have h1:=fun hp=>nu t ht hp;have hn0:=O1;have hb0:=O4;obtain⟨hlv,hll⟩:=jU t;unfold YG;generalize YF t=R at*;obtain⟨l,b,B⟩:=R;dsimp only at hlv hll h1 ⊢;simp only[Tm.av] at h1;cases B with
 |false=>
  rw[Za (by simp)];dsimp only;simp -dsimp -implicitDefEqProofs only[go_sem,seval,↓reduceIte,Tm.av,hn0,h1];exact XW (l:=[]) (q:=4) (fz:=false) rfl
 |true=>
  rw[Zb rfl];have hinst:=fun hp=>Gs hp;simp only[Tm.av] at hinst;simp -dsimp -implicitDefEqProofs only[go_sem,seval,↓reduceIte,Tm.av,Tm.pvs_len,hn0,h1];refine Yv (α:=Unit) l.length (fun i _=>Xh l=Xh (l.drop i)) (fun i _=>⟨[(2,.pv none (.sl (some 4) (Tm.pvs l))),(3,.ptr 2 0),(16,.pv none (.sl (some 4) (Tm.pvs l))),(17,O8 l.length),(18,O8 i)],[.box (some 4) (.pv (some 4) t.pv),.arr (some 4) [] false,.box (some 4) (.pv (some 4) b.pv),.arr (some 4) [] false]⟩) () ⟨rfl,rfl⟩ ?_ ?_
  ·rintro i - hi hfb;have hc:(i:Int)<(l.length:Int):=by omega
   obtain⟨u,hu⟩:∃u,l[i]? =some u:=⟨_,Zf hi⟩;have huv:=hlv u (Zk hu);have hdr:l.drop i=u::l.drop (i+1):=by
    obtain⟨q1,e1⟩:=Ze.1 hu;rw[ZS q1,e1]
   rw[hdr,Xh] at hfb;have hug:=zY (sh:=some 4) (s:=none) (s':=none) (k:=.i64) (Tm.pvs_get hu);have w2:=O0 i (by omega)
   have his:=fun hp=>nv u hp;have htyp:=fun hp=>Gp Jx (by decide) u huv hp;have hen:Jx=[112,97,105,114]:=rfl;simp only[Tm.av] at his htyp;rw[hen] at htyp;by_cases k0:u.kind=0
   ·rw[Zb k0] at hfb;rw[hfb];simp -dsimp -implicitDefEqProofs only[go_sem,seval,↓reduceIte,hn0,hc,hug,Ya,Zj k0,hinst];exact XW (l:=[]) (q:=6) (fz:=false) rfl
   ·rw[Za k0] at hfb;cases kp:Yj u with
    |true=>
     rw[kp,Zb rfl] at hfb;rw[kp] at his;simp -dsimp -implicitDefEqProofs only[go_sem,seval,↓reduceIte,hn0,hc,hug,Ya,Zl k0,his,w2];refine⟨(),hfb,?_⟩;rw[y0 (by simp[AObj.refs,AV.refsIn]) (by simp[AV.refsIn])];rfl
    |false=>
     rw[kp,Za (by simp)] at hfb;rw[kp] at his;rw[hfb];simp -dsimp -implicitDefEqProofs only[go_sem,seval,↓reduceIte,hn0,hc,hug,Ya,Zl k0,his,htyp];exact XW (l:=[]) (q:=6) (fz:=false) rfl
  ·rintro - hfb;have hc:¬(l.length:Int)<(l.length:Int):=by omega
   rw[zh,Xh] at hfb;rw[hfb];simp -dsimp -implicitDefEqProofs only[go_sem,seval,↓reduceIte,hn0,hb0,hc,Yc (Zg _)];exact gT (r:=4) rfl
theorem gW(t u:Tm)(hp:Heap)(ht:t.valid=true)(hu:u.valid=true)(hs:t.size<1000000000):S 134 [.pv (some 4) t.pv,.pv (some 4) u.pv] hp=some (.ret (O9 (decide (t.cmp u=0))),hp):=by
 have h:=fun hp=>Vq t u hp hs (Tm.valid_fits ht) (Tm.valid_fits hu);simp only[Tm.av] at h;refine Yb rfl rfl rfl (Yd [(some 4,t.pv),(some 4,u.pv)]) rfl ?_
 (repeat' (first|(simp -dsimp -implicitDefEqProofs only[go_sem,seval,↓reduceIte, *])|(refine YI (fun _=> ?_) (fun _=> ?_))))
theorem VF{l:List Tm}{j:Nat}{y:Tm}(h:l[j]? =some y):(l.take (j+1)).getLast? =some y:=by
 rw[ZL,h];simp
theorem ny(hp:Heap)(r:Nat)(hr:r<hp.length)(ts:List Tm)(N:Nat)(hN:N=ts.length)(hN':N<1000000000)(hv:∀t∈ts,t.valid=true)(hs:∀t∈ts,t.size<1000000000)(k0:Nat)(hk0:1<=k0)(hk:k0<N)(hd:dd (ts.take (k0+1))=ts.take k0)(ext:Heap)
  (fr:Fr)(Q:AExit->St->Prop)
  (hfr:fr.keep [0,1,5,6,7]=[(0,.sl (some 4) r N 0 N),(1,.pv none (.func (.func 134))),(5,O8 k0),(6,.sl (some 4) r N k0 (N - k0)),(7,O8 1)])
  (h:∀rest es,es.length=N->es.take (dd ts).length=Tm.pvs (dd ts)->Q (.exit 2) ⟨(0,.sl (some 4) r N 0 N)::(1,.pv none (.func (.func 134)))::(5,.pv none (.int .i64 (dd ts).length))::rest,hp.set r (.arr (some 4) es false)++ext⟩):
  W Z L hp.length (.loop [0,1,5,6,7] c133b18) ⟨fr,hp.set r (.arr (some 4) (Tm.pvs ts) false)++ext⟩ Q:=by
 have e1:∀A,(hp.set r A++ext)[r]? =some A:=fun A=>by rw[qZ (by simpa using hr)];simp[hr]
 have e4:∀A B,(hp.set r A++ext).set r B=hp.set r B++ext:=fun A B=>by rw[jh (by simpa using hr)];simp
 refine Yr (fun n st=>∃(m k:Nat) (es:List PV),n=N - (k0+m)/\1<=m/\k0+m<=N/\k=(dd (ts.take (k0+m))).length/\k<=k0+m - 1/\es.length=N/\es.take k=Tm.pvs (dd (ts.take (k0+m)))/\es.drop (k0+m - 1)=(Tm.pvs ts).drop (k0+m - 1)/\st=⟨[(0,.sl (some 4) r N 0 N),(1,.pv none (.func (.func 134))),(5,O8 k),(6,.sl (some 4) r N k0 (N - k0)),(7,O8 m)],hp.set r (.arr (some 4) es false)++ext⟩) (n:=N - (k0+1)) ⟨1,k0,Tm.pvs ts,rfl,Zi _,by omega,by rw[hd,Zn];omega,by omega,by rw[Tm.pvs_len,hN],by rw[hd,Tm.zzd],rfl,?_⟩ ?_
 ·rw[hfr];rfl
 ·rintro n st ⟨m,k,es,hn,hm,hmN,hkl,hkm,hes,htk,hdr,rfl⟩;have hget:∀i u,k0+m - 1<=i->ts[i]? =some u->es[i]? =some u.pv:=fun i u hi hu=>by
   have h1:(es.drop (k0+m - 1))[i - (k0+m - 1)]? =es[i]? :=by rw[ZT];congr 1;omega
   rw[<-h1,hdr,ZT,show k0+m - 1+(i - (k0+m - 1))=i by omega];exact Tm.pvs_get hu
  by_cases hlt:m<N - k0
  ·have hc:(m:Int)<((N - k0:Nat):Int):=by omega
   obtain⟨x,hx⟩:∃x,ts[k0+m]? =some x:=⟨_,Zf (by omega)⟩;obtain⟨y,hy⟩:∃y,ts[k0+(m - 1)]? =some y:=⟨_,Zf (by omega)⟩;have gx:=hget _ x (by omega) hx;have gy:=hget _ y (by omega) hy;have hxm:=Zk hx;have hym:=Zk hy;have hcall:=fun hp=>gW x y hp (hv x hxm) (hv y hym) (hs x hxm);have hlast:(ts.take (k0+m)).getLast? =some y:=by
    have:=VF hy
    rwa [show k0+(m - 1)+1=k0+m by omega] at this
   have htx:ts.take (k0+(m+1))=ts.take (k0+m)++[x]:=by rw[show k0+(m+1)=k0+m+1 by omega,ZL,hx];rfl
   have w1:IntKind.i64.wrap ((m:Int) - 1)=((m - 1:Nat):Int):=by rw[zZ (by omega) (by omega)];omega
   have w2:=O0 m (by omega)
   have w3:=O0 k (by omega)
   have la:m - 1<N - k0:=by omega
   have lk:k<N:=by omega
   by_cases h0:x.cmp y=0
   ·simp -dsimp -implicitDefEqProofs only[c133b18,go_sem,seval,↓reduceIte,hc,Yp hlt,Yp la,YX,e1,hes,gx,gy,hcall,w1,w2,h0];refine⟨N - (k0+(m+1)),by omega,m+1,k,es,rfl,by omega,by omega,by rw[htx,jm hlast h0,hkl],by omega,hes,by rw[htx,jm hlast h0,htk],?_,?_⟩
    ·have:=congrArg (List.drop 1) hdr;rw[ZN,ZN] at this
     rwa [show k0+(m+1) - 1=k0+m - 1+1 by omega]
    ·rw[YW (by simp)]
   ·simp -dsimp -implicitDefEqProofs only[c133b18,go_sem,seval,↓reduceIte,hc,Yp hlt,Yp la,Yp lk,YX,qb,e1,e4,hes,lk,gx,gy,hcall,w1,w2,w3,h0];refine⟨N - (k0+(m+1)),by omega,m+1,k+1,es.set k x.pv,rfl,by omega,by omega,by rw[htx,jl hlast h0,Zc,hkl];rfl,by omega,by simp[hes],?_,?_,?_⟩
    ·rw[htx,jl hlast h0,Tm.zyO,<-htk,ZL];simp[hes,lk,List.take_set,Tm.pvs];rw[List.set_eq_of_length_le (by rw[Zn];omega)]
    ·have:=congrArg (List.drop 1) hdr;rw[ZN,ZN] at this;rw[List.drop_set,Zb (by omega)]
     rwa [show k0+(m+1) - 1=k0+m - 1+1 by omega]
    ·rw[YW (by simp)]
  ·have hc:¬(m:Int)<((N - k0:Nat):Int):=by omega
   have hfull:ts.take (k0+m)=ts:=Zp (by omega);rw[hfull] at hkl htk;simp -dsimp -implicitDefEqProofs only[c133b18,go_sem,seval,↓reduceIte,hc];rw[hkl] at htk ⊢;exact h _ es hes htk
theorem nz{sh s:Sh}{k:IntKind}{r N n h:Nat}(hh:h<=n):yk sh false true [.sl sh r N 0 n,.pv s (.int k h)]=some (.sl sh r N 0 h):=by
 have h1:(h:Int)<=(n:Int):=by omega
 simp[yk,aslice,h1]
theorem gX{sh s:Sh}{k:IntKind}{r N n h:Nat}(hh:h<=n):yk sh true false [.sl sh r N 0 n,.pv s (.int k h)]=some (.sl sh r N h (n - h)):=by
 have h1:(h:Int)<=(n:Int):=by omega
 simp[yk,aslice,h1]
theorem nA{sh:Sh}{z:PV}{hp:Heap}{r N o n:Nat}{es:List PV}(h:hp[r]? =some (.arr sh es false))(hN:es.length=N)(hon:o+n=N):xD sh z hp [.sl sh r N o n]=some (.undef,hp.set r (.arr sh (es.take o++List.replicate n z) false)):=by
 have:es.drop (o+n)=[]:=List.drop_eq_nil_iff.2 (by omega);simp only[xD,h];rw[Zb ⟨trivial,hN.symm,by omega⟩,this,ZF]
def gY:PV:=.agg [(none,.int .i64 0),(none,.int .i64 0),(none,.str []),(none,.sl (some 4) [])]
def packed(N:Nat)(l:List Tm):List PV:=Tm.pvs l++List.replicate (N - l.length) gY
theorem nB{ts:List Tm}{k:Nat}{x y:Tm}(hd:dd (ts.take k)=ts.take k)(hx:ts[k]? =some x)(hy:ts[k - 1]? =some y)(hk:1<=k):dd (ts.take (k+1))=if x.cmp y=0 then ts.take k else ts.take (k+1):=by
 have hlast:(ts.take k).getLast? =some y:=by
  have:=VF hy
  rwa [show k - 1+1=k by omega] at this
 have htx:ts.take (k+1)=ts.take k++[x]:=by rw[ZL,hx];rfl
 rw[htx];split
 ·rename_i h;rw[jm hlast h,hd]
 ·rename_i h;rw[jl hlast h,hd]
theorem nC(hp:Heap)(r:Nat)(hr:r<hp.length)(ts:List Tm)(N:Nat)(hN:N=ts.length)(hN':N<1000000000)(hv:∀t∈ts,t.valid=true)(hs:∀t∈ts,t.size<1000000000):
  S 133 [.sl (some 4) r N 0 N,.pv none (.func (.func 134))] (hp.set r (.arr (some 4) (Tm.pvs ts) false))=some (.ret (.sl (some 4) r N 0 (dd ts).length),hp.set r (.arr (some 4) (packed N (dd ts)) false)):=by
 have hsl:(hp.set r (.arr (some 4) (Tm.pvs ts) false)).length=hp.length:=by simp
 have e1:∀A ext,(hp.set r A++ext)[r]? =some A:=fun A ext=>by rw[qZ (by simpa using hr)];simp[hr]
 have e4:∀A B ext,(hp.set r A++ext).set r B=hp.set r B++ext:=fun A B ext=>by rw[jh (by simpa using hr)];simp
 refine YR rfl rfl rfl rfl ?_;rw[hsl];by_cases h2:N<2
 ·have hc:(N:Int)<2:=by omega
  simp -dsimp -implicitDefEqProofs only[c133b18,go_sem,seval,↓reduceIte,YA (sh:=some 4) (by decide),hc];have hdd:dd ts=ts:=by
   match ts,hN with
   |[],_=>rfl
   |[x],_=>rfl
   |_::_::_,h=>simp at h;omega
  have ht:∀(A:AObj) (e:Heap),(hp.set r A++e).take hp.length=hp.set r A:=fun A e=>by
   rw[zk (by simp),Zp (by simp)]
  rw[hdd,<-hN,ht];simp[AV.refsIn,hr,packed,<-hN]
 ·have hc:¬(N:Int)<2:=by omega
  simp -dsimp -implicitDefEqProofs only[c133b18,go_sem,seval,↓reduceIte,YA (sh:=some 4) (by decide),hc];refine Yr (fun n st=>∃k:Nat,n=N - k/\1<=k/\k<=N/\dd (ts.take k)=ts.take k/\st=⟨[(0,.sl (some 4) r N 0 N),(1,.pv none (.func (.func 134))),(5,O8 k)],hp.set r (.arr (some 4) (Tm.pvs ts) false)++[.arr (some 4) [] false]⟩) (n:=N - 1) ⟨1,rfl,Zi _,by omega,?_,?_⟩ ?_
  ·match ts,hN with
   |x::l,_=>rfl
   |[],h=>simp at h;omega
  ·simp -dsimp -implicitDefEqProofs only[go_sem,seval,↓reduceIte]
   try rfl
  ·rintro n st ⟨k,hn,hk,hkN,hd,rfl⟩;by_cases hlt:k<N
   ·have hc:(k:Int)<(N:Int):=by omega
    obtain⟨x,hx⟩:∃x,ts[k]? =some x:=⟨_,Zf (by omega)⟩;obtain⟨y,hy⟩:∃y,ts[k - 1]? =some y:=⟨_,Zf (by omega)⟩;have gx:=Tm.pvs_get hx;have gy:=Tm.pvs_get hy;have hxm:=Zk hx;have hym:=Zk hy;have hcall:=fun hp=>gW x y hp (hv x hxm) (hv y hym) (hs x hxm);have hstep:=nB hd hx hy hk;have hlen:(Tm.pvs ts).length=N:=by rw[Tm.pvs_len,hN]
    have w1:IntKind.i64.wrap ((k:Int) - 1)=((k - 1:Nat):Int):=by rw[zZ (by omega) (by omega)];omega
    have w2:=O0 k (by omega)
    have la:k - 1<N:=by omega
    by_cases h0:x.cmp y=0
    ·rw[Zb h0] at hstep;simp -dsimp -implicitDefEqProofs only[go_sem,seval,↓reduceIte,hc,Yp hlt,Yp la,YX,e1,hlen,gx,gy,hcall,w1,w2,h0,gX hkN];refine ny hp r hr ts N hN hN' hv hs k hk hlt hstep _ _ _ rfl fun rest es hes htk=> ?_;have hdl:(dd ts).length<=N:=by rw[hN];exact jn ts
     simp -dsimp -implicitDefEqProofs only[c133b18,go_sem,seval,↓reduceIte,gX hdl,nz hdl,nA (e1 _ _) hes (show(dd ts).length+(N - (dd ts).length)=N by omega),e4];have ht:∀(A:AObj) (e:Heap),(hp.set r A++e).take hp.length=hp.set r A:=fun A e=>by
      rw[zk (by simp),Zp (by simp)]
     rw[ht,htk];simp[AV.refsIn,hr,packed,gY]
    ·rw[Za h0] at hstep;simp -dsimp -implicitDefEqProofs only[c133b18,go_sem,seval,↓reduceIte,hc,Yp hlt,Yp la,YX,e1,hlen,gx,gy,hcall,w1,w2,h0];refine⟨N - (k+1),by omega,k+1,rfl,by omega,by omega,hstep,?_⟩;rw[YW (by simp)]
   ·have hc:¬(k:Int)<(N:Int):=by omega
    have hdd:dd ts=ts:=by rwa [Zp (by omega)] at hd
    have ht:∀(A:AObj) (e:Heap),(hp.set r A++e).take hp.length=hp.set r A:=fun A e=>by
     rw[zk (by simp),Zp (by simp)]
    simp -dsimp -implicitDefEqProofs only[c133b18,go_sem,seval,↓reduceIte,hc];rw[hdd,<-hN,ht];simp[AV.refsIn,hr,packed,<-hN]
theorem nD(v:AV)(hp:Heap)(ts:List Tm)(hL:IsL v hp ts)(hl:Tm.sizes ts<100000000):S 101 [v] hp=some (.ret (.tuple (if Yt ts=true then[.sl (some 4) (hp.length+3) ts.length 0 (dd (isort Tm.cmp ts)).length,O8 0] else[.sl (some 4) (hp.length+3) 0 0 0,O8 1])),hp++(if Yt ts=true then[.arr (some 4) [] false,.arr (some 4) [] false,.arr (some 4) [] false,.arr (some 4) (packed ts.length (dd (isort Tm.cmp ts))) false] else[.arr (some 4) [] false,.arr (some 4) [] false,.arr (some 4) [] false,.arr (some 4) [] false])):=by
 refine YR rfl rfl rfl rfl ?_;have hst:=NF v (hp++[.arr (some 4) [] false]) ts (hL.more _) hl;have hlen:=Tm.zyN ts;by_cases h:Yt ts=true
 ·have hmem:∀t∈isort Tm.cmp ts,t∈ts:=fun t ht=>(X8 ts).mem_iff.1 ht;have hcp:=nC (hp++[.arr (some 4) [] false,.arr (some 4) [] false,.arr (some 4) [] false,.arr (some 4) (Tm.pvs (isort Tm.cmp ts)) false]) (hp.length+3) (by simp) (isort Tm.cmp ts) ts.length (ym ts).symm (by omega) (fun t ht=>yU h (hmem t ht)) (fun t ht=>by have:=Tm.zyU (hmem t ht);omega);simp only[h,if_true,Zc,ZB,zn,Zd,Zw,ZE,Zh,ZH,Nat.reduceAdd] at hst;simp only[z7,zJ,zI] at hcp;simp -dsimp -implicitDefEqProofs only[go_sem,seval,↓reduceIte,h,hst,hcp,YA (sh:=some 4) (by decide),Zd,zW,z6,z7,z9,Zh,Zc];simp[AV.refsIn,AV.refsIn.gol]
 ·rw[Bool.not_eq_true] at h;simp only[h,if_false,ZR,Zc,ZB,zn,Zd,Zw,ZE,Zh,ZH,Nat.reduceAdd] at hst;simp -dsimp -implicitDefEqProofs only[go_sem,seval,↓reduceIte,h,hst,YA (sh:=some 4) (by decide),Zd,zW,z6,z7,z9,Zh,Zc];simp[AV.refsIn,AV.refsIn.gol]
def bagN:List UInt8:=[36,98,97,103]
def setN:List UInt8:=[36,115,101,116]
def xY(l:List Tm):List Tm:=dd (isort Tm.cmp l)
theorem nE(l:List Tm)(hp:Heap):S 99 [.pv none (.sl (some 4) (Tm.pvs l))] hp=some (.ret (.pv none (.sl (some 4) (Tm.pvs l))),hp):=by
 refine Yb rfl rfl rfl (Yd [(none,.sl (some 4) (Tm.pvs l))]) rfl ?_;have hn0:=O1;simp -dsimp -implicitDefEqProofs only[go_sem,seval,↓reduceIte,hn0]
theorem nF{H:Heap}{q N:Nat}{l:List Tm}(h:H[q]? =some (.arr (some 4) (packed N l) false))(hl:l.length<=N):Am.frozen (.pv none (.sl (some 4) (Tm.pvs l))) (.sl (some 4) q N 0 l.length) H:=by
 have h1:(packed N l).length=N:=by unfold packed;simp[Tm.pvs_len];omega
 have h2:(packed N l).take l.length=Tm.pvs l:=by
  unfold packed;rw[zk (by rw[Tm.pvs_len];exact Zi _),Zp (by rw[Tm.pvs_len];exact Zi _)]
 refine⟨H.set q (.arr (some 4) (packed N l) true),?_⟩;by_cases e:l.length=N
 ·have h3:packed N l=Tm.pvs l:=by rw[<-h2,e,Zp (by omega)]
  rw[h3] at h;have h4:(Tm.pvs l).length=N:=by rw[Tm.pvs_len,e]
  simp[AV.freezeRes,AV.freeze,deep,h,h3,h4,AV.shp,e]
 ·simp[AV.freezeRes,AV.freeze,deep,h,h1,h2,AV.shp,hl,e]
theorem nG(l:List Tm)(hv:Yt l=true)(hl:Tm.sizes l<100000000)(hp:Heap):S 100 [.pv none (.sl (some 4) (Tm.pvs l))] hp=some (.ret (.pv none (.sl (some 4) (Tm.pvs (xY l)))),hp):=by
 refine Yb rfl rfl rfl (Yd [(none,.sl (some 4) (Tm.pvs l))]) rfl ?_;have hn0:=O1;have hs:=fun H=>nD (.pv none (.sl (some 4) (Tm.pvs l))) H l (gf _ _) hl;simp only[hv,if_true] at hs;have hdl:=jn (isort Tm.cmp l);rw[ym] at hdl;simp -dsimp -implicitDefEqProofs only[go_sem,seval,↓reduceIte,hn0,hs];exact nF rfl hdl
def predsP:List PV:=[.agg [(none,.str bagN),(none,.func (.func 99))],.agg [(none,.str setN),(none,.func (.func 100))]]
theorem nH(hp:Heap):S 49 [] hp=some (.ret (.pv none (.sl (some 2) predsP)),hp):=by
 refine Yb (ps:=[]) rfl rfl rfl rfl rfl ?_;have hn0:∀H:Heap,YB (some 2) H=some (.sl (some 2) H.length 0 0 0,H++[.arr (some 2) [] false]):=fun H=>YA (sh:=some 2) (by decide);have hb1:Ym [(none,Oh []),(none,.pv none .nilfunc)] [0,1] [Oh [36,98,97,103],.pv none (.func (.func 99))]=some (.pv (some 2) (.agg [(none,.str bagN),(none,.func (.func 99))])):=rfl;have hb2:Ym [(none,Oh []),(none,.pv none .nilfunc)] [0,1] [Oh [36,115,101,116],.pv none (.func (.func 100))]=some (.pv (some 2) (.agg [(none,.str setN),(none,.func (.func 100))])):=rfl;simp -dsimp -implicitDefEqProofs only[go_sem,seval,↓reduceIte,hn0,hb1,hb2]
 try rfl
theorem gZ(nm:List UInt8)(k:Int)(hp:Heap):S 16 [Oh nm,O8 k] hp=some (.ret (O9 (decide (k=3/\(nm=bagN\/nm=setN)))),hp):=by
 refine Yb rfl rfl rfl (Yd [(none,.str nm),(none,.int .i64 k)]) rfl ?_;by_cases h3:k=3
 ·by_cases h1:nm=bagN
  ·have h1':=Zj (show nm=[36,98,97,103] from h1);simp -dsimp -implicitDefEqProofs only[go_sem,seval,↓reduceIte,Zj h3,h1']
   try simp[h3,h1]
  ·have h1':=Zl (show ¬nm=[36,98,97,103] from h1);by_cases h2:nm=setN
   ·have h2':=Zj (show nm=[36,115,101,116] from h2);simp -dsimp -implicitDefEqProofs only[go_sem,seval,↓reduceIte,Zj h3,h1',h2']
    try simp[h3,h2]
   ·have h2':=Zl (show ¬nm=[36,115,101,116] from h2);simp -dsimp -implicitDefEqProofs only[go_sem,seval,↓reduceIte,Zj h3,h1',h2']
    try simp[h1,h2]
 ·simp -dsimp -implicitDefEqProofs only[go_sem,seval,↓reduceIte,Zl h3]
  try simp[h3]
theorem nI(nm:List UInt8)(k:Nat)(hp:Heap):S 16 [Oh nm,O8 (k:Int)] hp=some (.ret (O9 (decide (k=3/\(nm=bagN\/nm=setN)))),hp):=by
 rw[gZ];have:((k:Int)=3)=(k=3):=by apply propext;omega
 simp only[this]
def itm(nm:List UInt8)(l:List Tm):List Tm:=if nm=bagN then l else xY l
def ansT(nm:List UInt8)(s g:Tm):Tm:=.mk 3 0 nm [z8 g,s,lst (itm nm (els (Yg g)))]
theorem nJ(nm:List UInt8)(x y z:Tm)(hp:Heap):S 51 [Oh nm,.pv none (.sl (some 4) [x.pv,y.pv,z.pv])] hp=some (.ret (Tm.mk 3 0 nm [x,y,z]).av,hp):=by
 refine Yb (ps:=[(none,.str nm),(none,.sl (some 4) [x.pv,y.pv,z.pv])]) rfl rfl rfl rfl rfl ?_;have hb:Ym A0 [0,2,3] [O8 3,Oh nm,.pv none (.sl (some 4) [x.pv,y.pv,z.pv])]=some (.pv (some 4) (Tm.mk 3 0 nm [x,y,z]).pv):=rfl;simp -dsimp -implicitDefEqProofs only[go_sem,seval,↓reduceIte,hb]
 try rfl
theorem VG:∀(n:Nat) (t:Tm),t.size=n->Tm.sizes (els t)<=t.size:=by
 intro n
 induction n using Nat.strongRecOn with
 |_ n ih=>
  intro t hn;by_cases h:cs t
  ·rw[qn h];have h1:=Tm.zyQ (Xx h.2.2);have h2:=ih _ (by omega) (arg1 t) rfl;have h3:t.args=[arg0 t,arg1 t]:=by
    have e0:=Jj h.2.2;have e1:=Jk h.2.2
    match t.args,h.2.2,e0,e1 with
    |[a,b],_,e0,e1=>simp at e0 e1;rw[e0,e1]
   have h4:=t.size_eq;rw[h3] at h4;simp only[Tm.sizes] at h4 ⊢;omega
  ·rw[qo h];exact Zg _
structure GrOk(g:Tm):Prop where
 pr:Yj g=true
 val:g.valid=true
set_option maxHeartbeats 4000000 in
theorem g8(goal s:Tm)(G:List Tm)(f:FuncId)(pnm:PV)(i:Nat)(hgs:goal.size<100000000)(hga:(Tm.pvs goal.args)[1]? =some s.pv)(hss:s.size<=2000)(hG:∀g∈G,GrOk g)(hGl:G.length<100000)
  (hf:∀l:List Tm,Yt l=true->Tm.sizes l<=2000->S f [.pv none (.sl (some 4) (Tm.pvs l))] []=some (.ret (.pv none (.sl (some 4) (Tm.pvs (itm goal.name l)))),[]))
  (hil:∀l:List Tm,Yt l=true->Tm.sizes l<=2000->(itm goal.name l).length<=l.length/\∀t∈itm goal.name l,t.valid=true)(Q:AExit->St->Prop)
  (hQ:(∀g∈G,(ansT goal.name s g).valid=true)->Q .normal ⟨[(1,.ptr 0 0),(2,.sl (some 4) 1 G.length 0 G.length),(3,.ptr 2 0),(7,.pv none (.sl (some 4) (Tm.pvs G))),(9,.ptr 4 0),(60,.pv none (.sl (some 2) predsP)),(61,O8 2),(62,O8 i),(71,.pv none (.sl (some 4) (Tm.pvs G))),(72,O8 G.length),(73,O8 G.length),(74,O9 false)],
   [.box (some 4) (.pv (some 4) goal.pv),.arr (some 4) (Tm.pvs (G.map (ansT goal.name s))) false,.box (some 4) (.pv (some 4) zt.pv),.arr (some 4) [] false,.box (some 2) (.pv (some 2) (.agg [(none,pnm),(none,.func (.func f))]))]⟩)
  (hE:(¬∀g∈G,(ansT goal.name s g).valid=true)->∀(a0 a1:AObj) (X:Heap) (q k:Nat) (r:Fr),(a0::a1::.box (some 4) (zg k)::X)[q]? =some (.arr (some 4) [] false)->(a0::a1::.box (some 4) (zg k)::X)[k]? =some (.arr (some 4) [] false)->q≠k->Q .ret ⟨[(2,.sl (some 4) q 0 0 0),(3,.ptr 2 0),(4,O8 2)],a0::a1::.box (some 4) (zg k)::X⟩):
  W Z L 0 c13k34 ⟨[(1,.ptr 0 0),(2,.sl (some 4) 1 0 0 0),(3,.ptr 2 0),(7,.pv none (.sl (some 4) (Tm.pvs G))),(9,.ptr 4 0),(60,.pv none (.sl (some 2) predsP)),(61,O8 2),(62,O8 i),(71,.pv none (.sl (some 4) (Tm.pvs G))),(72,O8 G.length),(73,O8 0)],
   [.box (some 4) (.pv (some 4) goal.pv),.arr (some 4) [] false,.box (some 4) (.pv (some 4) zt.pv),.arr (some 4) [] false,.box (some 2) (.pv (some 2) (.agg [(none,pnm),(none,.func (.func f))]))]⟩ Q:=by
 have hn0:=O1;have hb0:=O4;simp -dsimp -implicitDefEqProofs only[c13k34,go_sem,seval,↓reduceIte];refine Yv (α:=Unit) G.length (fun j _=>∀g∈G.take j,(ansT goal.name s g).valid=true) (fun j _=>⟨[(1,.ptr 0 0),(2,.sl (some 4) 1 j 0 j),(3,.ptr 2 0),(7,.pv none (.sl (some 4) (Tm.pvs G))),(9,.ptr 4 0),(60,.pv none (.sl (some 2) predsP)),(61,O8 2),(62,O8 i),(71,.pv none (.sl (some 4) (Tm.pvs G))),(72,O8 G.length),(73,O8 j)],
   [.box (some 4) (.pv (some 4) goal.pv),.arr (some 4) (Tm.pvs ((G.take j).map (ansT goal.name s))) false,.box (some 4) (.pv (some 4) zt.pv),.arr (some 4) [] false,.box (some 2) (.pv (some 2) (.agg [(none,pnm),(none,.func (.func f))]))]⟩) () ⟨fun g hg=>(by cases hg),rfl⟩ ?_ ?_
 ·rintro j - hj hall;have hc:(j:Int)<(G.length:Int):=by omega
  obtain⟨g,hg⟩:∃g,G[j]? =some g:=⟨_,Zf hj⟩;have hgo:=hG g (Zk hg);obtain⟨g0,g1,hgi⟩:=xX hgo.pr;have hiv:=Ju hgo.pr hgo.val;have hgg:=zY (sh:=some 4) (s:=none) (s':=none) (k:=.i64) (Tm.pvs_get hg);have q1:=zY (sh:=some 4) (s:=none) (s':=none) (k:=.i64) g1;have q2:=zY (sh:=some 4) (s:=none) (s':=none) (k:=.i64) hga;simp only[show((1:Nat):Int)=1 from rfl] at q1 q2;have hel:=fun hp=>mj (Yg g) hiv hp;have hev:Yt (els (Yg g))=true:=Zo.2 fun x hx=>elsv _ _ rfl hiv x hx;have hes:Tm.sizes (els (Yg g))<=2000:=ZJ (VG _ _ rfl) (valid_size hiv);have hff:=hf _ hev hes;obtain⟨hil1,hil2⟩:=hil _ hev hes;have hesl:=Tm.zyN (els (Yg g));have hst:=fun hp=>Gg (itm goal.name (els (Yg g))) (by omega) hp;have h3:∀hp,S 51 [Oh goal.name,.pv none (.sl (some 4) [(z8 g).pv,s.pv,(lst (itm goal.name (els (Yg g)))).pv])] hp=some (.ret (ansT goal.name s g).av,hp):=fun hp=>nJ goal.name (z8 g) s _ hp;have hks:=valid_size (YK hgo.val (Xq hgo.pr));have hls:=Jt (itm goal.name (els (Yg g))) 2000 fun t ht=>valid_size (hil2 t ht);have hasz:(ansT goal.name s g).size=1+((z8 g).size+(s.size+(lst (itm goal.name (els (Yg g)))).size)):=by
   show 1+((z8 g).size+(s.size+((lst (itm goal.name (els (Yg g)))).size+0)))=_;omega
  have h4:=fun hp=>yR (ansT goal.name s g) hp (by omega);have hjm:(Tm.pvs ((G.take j).map (ansT goal.name s))).length=j:=by rw[Tm.pvs_len,ZO,Zn];omega
  have hlim:j+1<=lim:=by unfold lim;omega
  have hap:Tm.pvs ((G.take j).map (ansT goal.name s))++[(ansT goal.name s g).pv]=Tm.pvs ((G.take (j+1)).map (ansT goal.name s)):=by rw[ZL,hg];simp[Tm.zyO];rfl
  have w2:=O0 j (by omega)
  have hpp:PV.part deep (.agg [(none,pnm),(none,.func (.func f))]) 1 none=some (.func (.func f)):=rfl;simp only[Tm.av] at hel hst h3 h4;cases hva:(ansT goal.name s g).valid with
  |true=>
   rw[hva] at h4;have h5:=fun hp=>XU (ansT goal.name s g) hp hva (by omega);simp only[Tm.av] at h5;have hall2:∀x∈G.take (j+1),(ansT goal.name s x).valid=true:=fun x hx=>by
    rw[ZL,hg] at hx;rcases Zr.1 hx with hx|hx
    ·exact hall x hx
    ·have:x=g:=by simpa using hx
     rw[this];exact hva
   simp -dsimp -implicitDefEqProofs only[c13k34,go_sem,seval,↓reduceIte,hn0,hc,hgg,zV,Ye,yc g0,q1,q2,hel,hpp,hff,hst,h3,h4,h5,hjm,hlim,hap,w2];refine⟨(),hall2,?_⟩;rw[y0 (by simp[AObj.refs,AV.refsIn]) (by simp[AV.refsIn])];rfl
  |false=>
   rw[hva] at h4;have hnot:¬∀g∈G,(ansT goal.name s g).valid=true:=fun h=>by
    have:=h g (Zk hg);rw[hva] at this;cases this
   simp -dsimp -implicitDefEqProofs only[c13k34,go_sem,seval,↓reduceIte,hn0,hb0,hc,hgg,zV,Ye,yc g0,q1,q2,hel,hpp,hff,hst,h3,h4,Yc (Zg _)];exact hE hnot _ _ _ 11 12 [] rfl rfl (by decide)
 ·rintro - hall;rw[ZC] at hall;have hc:¬(G.length:Int)<(G.length:Int):=by omega
  rw[ZC];simp -dsimp -implicitDefEqProofs only[c13k34,go_sem,seval,↓reduceIte,hc];exact hQ hall
noncomputable def yo(goal:Tm):List Tm × Tm × Int:=
 if goal.valid=true/\same goal (canR goal)=true then
  if goal.kind=3/\goal.args.length=3/\(goal.name=bagN\/goal.name=setN) then
   if(YG (arg1 goal)).2.2=true then
    if(YL (YG (arg1 goal)).1).2=0 then
     if ∀g∈(YL (YG (arg1 goal)).1).1,(ansT goal.name (arg1 goal) g).valid=true then((YL (YG (arg1 goal)).1).1.map (ansT goal.name (arg1 goal)),zt,0) else([],zt,2)
    else([],zt,(YL (YG (arg1 goal)).1).2)
   else([],(YG (arg1 goal)).2.1,8)
  else([],zt,4)
 else([],zt,1)
theorem y3{l:List Tm}{e:Int}{H:Heap}{q r:Nat}{fz:Bool}(h:H[q]? =some (.arr (some 4) (Tm.pvs l) fz))(h2:H[r]? =some (.arr (some 4) [] false))(hn:q≠r):Am.frozen (.tuple [.pv none (.sl (some 4) (Tm.pvs l)),.pv (some 4) zt.pv,O8 e]) (.tuple [.sl (some 4) q l.length 0 l.length,zg r,O8 e]) H:=by
 refine⟨(H.set q (.arr (some 4) (Tm.pvs l) true)).set r (.arr (some 4) [] true),?_⟩;have e:=O3
 have h3:(H.set q (.arr (some 4) (Tm.pvs l) true))[r]? =some (.arr (some 4) [] false):=by rw[Zy hn];exact h2
 simp[AV.freezeRes,Yi,AV.freeze,deep,Tm.pvs_len,pvs,AV.shp,h,zg,e,AV.freeze.go,h3];exact⟨rfl,rfl⟩
theorem jV{l:List Tm}{b:Tm}{e:Int}{H:Heap}{q:Nat}{fz:Bool}(h:H[q]? =some (.arr (some 4) (Tm.pvs l) fz)):Am.frozen (.tuple [.pv none (.sl (some 4) (Tm.pvs l)),.pv (some 4) b.pv,O8 e]) (.tuple [.sl (some 4) q l.length 0 l.length,.pv (some 4) b.pv,O8 e]) H:=by
 refine⟨H.set q (.arr (some 4) (Tm.pvs l) true),?_⟩;have e2:∀p hp,AV.freeze deep (.pv (some 4) p) hp=some (p,hp):=fun _ _=>rfl;simp[AV.freezeRes,Yi,e2,AV.freeze,deep,Tm.pvs_len,pvs,AV.shp,h]
theorem VH(t:Tm)(hz:(YG t).2.2=true):(∀x∈(YG t).1,x.valid=true)/\(YG t).1.length<=t.size/\Tm.sizes (YG t).1<=t.size/\(YG t).2.1=zt:=by
 unfold YG at hz ⊢;split
 ·rename_i h;rw[Zb h] at hz;cases hf:Xh (YF t).1 with
  |some b=>rw[hf] at hz;cases hz
  |none=>
   have h1:=jU t;refine⟨h1.1,h1.2,?_,rfl⟩;show Tm.sizes (YF t).1<=_;unfold YF at h ⊢;split
   ·split
    ·exact Zg _
    ·split
     ·exact VG _ t rfl
     ·exact Zg _
   ·exact Zg _
 ·rename_i h;rw[Za h] at hz;cases hz
theorem Ba:∀(n:Nat) (l G:List Tm),grps n l=some G->∀g∈G,Yj g=true
 |_,[],G,h=>by rw[grps] at h;cases h;exact fun g hg=>by cases hg
 |0,_::_,G,h=>by rw[grps] at h;cases h;exact fun g hg=>by cases hg
 |n+1,p::r,G,h=>by
  rw[grps] at h;cases ht:grp p (r.filter fun q=>vari (z8 q) (z8 p)) with
  |none=>rw[ht] at h;cases h
  |some t=>
   rw[ht] at h;cases e:grps n (r.filter fun q=> !vari (z8 q) (z8 p)) with
   |none=>rw[e] at h;cases h
   |some g'=>
    rw[e] at h;cases h;intro u hu;rcases Zt.1 hu with rfl|hu
    ·unfold grp at ht;split at ht
     ·cases ht
     ·split at ht
      ·cases ht;rfl
      ·cases ht
    ·exact Ba n _ g' e u hu
theorem Bb(ts:List Tm):∀g∈(YL ts).1,GrOk g:=fun g hg=>by
 refine⟨?_,NW ts g hg⟩;unfold YL at hg;split at hg
 ·cases h:grps (Yo ts).length (Yo ts) with
  |some l=>rw[h] at hg;exact Ba _ _ _ h g hg
  |none=>rw[h] at hg;cases hg
 ·cases hg
theorem Bc(l:List Tm)(hv:Yt l=true):(xY l).length<=l.length/\∀t∈xY l,t.valid=true:=by
 have h1:=jn (isort Tm.cmp l);rw[ym] at h1;refine⟨h1,fun t ht=> ?_⟩;have h2:t∈isort Tm.cmp l:=mem_dd.1 ht;exact yU hv ((X8 l).mem_iff.1 h2)
set_option maxHeartbeats 4000000 in
theorem nK(goal:Tm)(ht:goal.size<100000000)(hp:Heap):S 13 [goal.av] hp=some (.ret (.tuple [.pv none (.sl (some 4) (Tm.pvs (yo goal).1)),(yo goal).2.1.av,.pv none (.int .i64 (yo goal).2.2)]),hp):=by
 refine Yb rfl rfl rfl (Yd [(some 4,goal.pv)]) rfl ?_;have h1:=fun hp=>yR goal hp (by omega);have hn0:=O1;have hb0:=O4;simp only[Tm.av] at h1;by_cases hv:goal.valid=true
 rotate_left
 ·have e:yo goal=([],zt,1):=by unfold yo;rw[Za (fun h=>hv h.1)]
  have hv':goal.valid=false:=by simpa using hv
  rw[e];rw[hv'] at h1;simp -dsimp -implicitDefEqProofs only[go_sem,seval,↓reduceIte,Tm.av,h1,hn0,hb0,Yc (Zg _)];exact y3 (l:=[]) (q:=4) (r:=5) (fz:=false) rfl rfl (by decide)
 have hgsz:=valid_size hv;have h2:=fun hp=>Vd goal hp (by omega);have hcv:canR goal=canT goal:=by unfold canR;rw[Zb hv]
 have hcsz:=Vv hv;have h3:=fun hp=>Mv goal (canR goal) hp (by omega) (by rw[hcv];omega);simp only[Tm.av] at h2 h3;rw[hv] at h1;cases hsm:same goal (canR goal) with
 |false=>
  have e:yo goal=([],zt,1):=by unfold yo;rw[Za (fun h=>by rw[hsm] at h;cases h.2)]
  rw[e];rw[hsm] at h3;simp -dsimp -implicitDefEqProofs only[go_sem,seval,↓reduceIte,Tm.av,h1,h2,h3,hn0,hb0,Yc (Zg _)];exact y3 (l:=[]) (q:=4) (r:=5) (fz:=false) rfl rfl (by decide)
 |true=>
  rw[hsm] at h3;have e0:yo goal=if goal.kind=3/\goal.args.length=3/\(goal.name=bagN\/goal.name=setN) then
   if(YG (arg1 goal)).2.2=true then
    if(YL (YG (arg1 goal)).1).2=0 then
     if ∀g∈(YL (YG (arg1 goal)).1).1,(ansT goal.name (arg1 goal) g).valid=true then((YL (YG (arg1 goal)).1).1.map (ansT goal.name (arg1 goal)),zt,0) else([],zt,2)
    else([],zt,(YL (YG (arg1 goal)).1).2)
   else([],(YG (arg1 goal)).2.1,8)
  else([],zt,4):=by unfold yo;rw[Zb ⟨hv,hsm⟩]
  rw[e0];by_cases hk3:goal.kind=3
  rotate_left
  ·rw[Za (fun h=>hk3 h.1)];simp -dsimp -implicitDefEqProofs only[go_sem,seval,↓reduceIte,Tm.av,h1,h2,h3,Ya,Ye,zV,Tm.pvs_len,Zl hk3,hn0,hb0,Yc (Zg _)];exact y3 (l:=[]) (q:=4) (r:=5) (fz:=false) rfl rfl (by decide)
  have hhas:=fun hp=>nI goal.name goal.args.length hp;by_cases hh:goal.args.length=3/\(goal.name=bagN\/goal.name=setN)
  rotate_left
  ·rw[Za (fun h=>hh h.2)];rw[decide_eq_false hh] at hhas;simp -dsimp -implicitDefEqProofs only[go_sem,seval,↓reduceIte,Tm.av,h1,h2,h3,Ya,Ye,zV,Tm.pvs_len,Zj hk3,hhas,hn0,hb0,Yc (Zg _)];exact y3 (l:=[]) (q:=4) (r:=5) (fz:=false) rfl rfl (by decide)
  rw[Zb ⟨hk3,hh⟩];rw[zz hh] at hhas;have hga:(Tm.pvs goal.args)[1]? =some (arg1 goal).pv:=by
   refine Tm.pvs_get ?_
   match goal,hh.1 with
   | .mk k n s [a,b,c],_=>rfl
  have ham:arg1 goal∈goal.args:=by
   match goal,hh.1 with
   | .mk k n s [a,b,c],_=>simp[arg1,Tm.args]
  have hav:=YK hv ham;have hasz:=valid_size hav;have q1:=zY (sh:=some 4) (s:=none) (s':=none) (k:=.i64) hga;simp only[show((1:Nat):Int)=1 from rfl] at q1;have h4:=fun hp=>nw (arg1 goal) (by omega) hp;simp only[Tm.av] at h4;have hpf:=VH (arg1 goal);generalize YG (arg1 goal)=PR at*;obtain⟨l,ball,ok⟩:=PR;dsimp only at h4 hpf ⊢;cases ok with
  |false=>
   rw[Za (by simp)];simp -dsimp -implicitDefEqProofs only[go_sem,seval,↓reduceIte,Tm.av,h1,h2,h3,Ya,Ye,zV,Tm.pvs_len,Zj hk3,hhas,q1,h4,hn0,hb0,Yc (Zg _)];exact jV (l:=[]) (q:=4) (fz:=false) rfl
  |true=>
   rw[Zb rfl];obtain⟨f1,f2,f3,rfl⟩:=hpf rfl;have h5:=nc l (by omega) (by omega) (fun _=>by omega);have hgo:=Bb l;have hgl:=VD l;generalize YL l=GR at*;obtain⟨G,e⟩:=GR;dsimp only at h5 hgo hgl ⊢;by_cases he:e=0
   rotate_left
   ·rw[Za he];simp -dsimp -implicitDefEqProofs only[go_sem,seval,↓reduceIte,Tm.av,h1,h2,h3,Ya,Ye,zV,Tm.pvs_len,Zj hk3,hhas,q1,h4,h5,Zl he,hn0,hb0,Yc (Zg _)];exact y3 (l:=[]) (q:=4) (r:=5) (fz:=false) rfl rfl (by decide)
   rw[Zb he];have h6:=fun hp=>nH hp;obtain⟨A,hA⟩:∃A:Prop,A=∀g∈G,(ansT goal.name (arg1 goal) g).valid=true:=⟨_,rfl⟩;obtain⟨R,hR⟩:∃R:List Tm × Tm × Int,R=if ∀g∈G,(ansT goal.name (arg1 goal) g).valid=true then(G.map (ansT goal.name (arg1 goal)),zt,0) else([],zt,2):=⟨_,rfl⟩
   rw[<-hR];have hRt:A->R=(G.map (ansT goal.name (arg1 goal)),zt,0):=fun h=>by rw[hR,Zb (by rw[hA] at h;exact h)]
   have hRf:¬A->R=([],zt,2):=fun h=>by rw[hR,Za (by rw[hA] at h;exact h)]
   clear hR;simp -dsimp -implicitDefEqProofs only[go_sem,seval,↓reduceIte,Tm.av,h1,h2,h3,Ya,Ye,zV,Tm.pvs_len,Zj hk3,hhas,q1,h4,h5,Zj he,h6,hn0];have hn1:¬bagN=setN:=by decide
   have hn2:¬setN=bagN:=by decide
   have i0:predsP[0]? =some (.agg [(none,.str bagN),(none,.func (.func 99))]):=rfl;have i1:predsP[1]? =some (.agg [(none,.str setN),(none,.func (.func 100))]):=rfl;have j0:=yc (sh:=some 2) (s:=none) (s':=none) (k:=.i64) i0;have j1:=zY (sh:=some 2) (s:=none) (s':=none) (k:=.i64) i1;simp only[show((1:Nat):Int)=1 from rfl] at j1;have hpl:((predsP.length:Nat):Int)=2:=rfl;have hp1:∀(n:List UInt8) (f:FuncId),PV.part deep (.agg [(none,.str n),(none,.func (.func f))]) 0 none=some (.str n):=fun _ _=>rfl;rcases hh.2 with hnm|hnm
   ·refine Yv (α:=List Tm) 2 (fun i D=>(i=0->D=[])/\(0<i->D=G.map (ansT goal.name (arg1 goal))/\A)) (fun i D=>⟨[(1,.ptr 0 0),(2,.sl (some 4) 1 D.length 0 D.length),(3,.ptr 2 0),(7,.pv none (.sl (some 4) (Tm.pvs G))),(60,.pv none (.sl (some 2) predsP)),(61,O8 2),(62,O8 i)],[.box (some 4) (.pv (some 4) goal.pv),.arr (some 4) (Tm.pvs D) false,.box (some 4) (.pv (some 4) zt.pv),.arr (some 4) [] false]⟩) [] ⟨⟨fun _=>rfl,fun h=>by omega⟩,rfl⟩ ?_ ?_
    ·rintro i D hi ⟨d0,d1⟩;have hi2:i=0\/i=1:=by omega
     rcases hi2 with rfl|rfl
     ·rw[d0 rfl];have hne:=Zj (show bagN=goal.name from hnm.symm);simp -dsimp -implicitDefEqProofs only[go_sem,seval,↓reduceIte,show((0:Nat):Int)=0 from rfl,show(0:Int)<2 from by decide,j0,hp1,Ye,hne,Tm.pvs_len,hn0];have hit:∀l,itm goal.name l=l:=fun l=>by unfold itm;rw[Zb hnm]
      refine g8 goal (arg1 goal) G 99 (.str bagN) 0 (by omega) hga hasz hgo (by omega) (fun l _ _=>by rw[hit];exact nE l []) (fun l hv _=>by rw[hit];exact⟨Zi _,fun t ht=>yU hv ht⟩) _ (fun hall=> ?_) fun hno a0 a1 X q k _ hx1 hx2 hqk=> ?_
      ·simp -dsimp -implicitDefEqProofs only[go_sem,seval,↓reduceIte];refine⟨G.map (ansT goal.name (arg1 goal)),⟨fun h=>(by cases h),fun _=>⟨rfl,by rw[hA];exact hall⟩⟩,?_⟩;rw[y0 (by simp[AObj.refs,AV.refsIn]) (by simp[AV.refsIn]),ZO];rfl
      ·rw[hRf (by rw[hA];exact hno)];exact y3 (l:=[]) (q:=q) (r:=k) (fz:=false) hx1 hx2 hqk
     ·obtain⟨e1,hAt⟩:=d1 (by omega);have hne:=Zl (show ¬setN=goal.name from fun h=>hn2 (h.trans hnm));simp -dsimp -implicitDefEqProofs only[go_sem,seval,↓reduceIte,show((1:Nat):Int)=1 from rfl,show(1:Int)<2 from by decide,j1,hp1,Ye,hne,hn0];refine⟨D,⟨fun h=>h.elim,fun _=>⟨e1,hAt⟩⟩,?_⟩;rw[y0 (by simp[AObj.refs,AV.refsIn]) (by simp[AV.refsIn])];rfl
    ·rintro D ⟨_,d1⟩;obtain⟨e1,hAt⟩:=d1 (by omega);rw[hRt hAt,e1];simp -dsimp -implicitDefEqProofs only[go_sem,seval,↓reduceIte,show((2:Nat):Int)=2 from rfl,show ¬(2:Int)<2 from by decide,hn0,hb0,Yc (Zg _)];exact y3 (l:=G.map (ansT goal.name (arg1 goal))) (q:=1) (r:=4) (fz:=false) rfl rfl (by decide)
   ·refine Yv (α:=List Tm) 2 (fun i D=>(i<2->D=[])/\(i=2->D=G.map (ansT goal.name (arg1 goal))/\A)) (fun i D=>⟨[(1,.ptr 0 0),(2,.sl (some 4) 1 D.length 0 D.length),(3,.ptr 2 0),(7,.pv none (.sl (some 4) (Tm.pvs G))),(60,.pv none (.sl (some 2) predsP)),(61,O8 2),(62,O8 i)],[.box (some 4) (.pv (some 4) goal.pv),.arr (some 4) (Tm.pvs D) false,.box (some 4) (.pv (some 4) zt.pv),.arr (some 4) [] false]⟩) [] ⟨⟨fun _=>rfl,fun h=>by omega⟩,rfl⟩ ?_ ?_
    ·rintro i D hi ⟨d0,d1⟩;have hi2:i=0\/i=1:=by omega
     rcases hi2 with rfl|rfl
     ·rw[d0 (by omega)];have hne:=Zl (show ¬bagN=goal.name from fun h=>hn1 (h.trans hnm));simp -dsimp -implicitDefEqProofs only[go_sem,seval,↓reduceIte,show((0:Nat):Int)=0 from rfl,show(0:Int)<2 from by decide,j0,hp1,Ye,hne,Tm.pvs_len,hn0];refine⟨[],⟨fun _=>rfl,fun h=>(by cases h)⟩,?_⟩;rw[y0 (by simp[AObj.refs,AV.refsIn]) (by simp[AV.refsIn])];rfl
     ·rw[d0 (by omega)];have hne:=Zj (show setN=goal.name from hnm.symm);simp -dsimp -implicitDefEqProofs only[go_sem,seval,↓reduceIte,show((1:Nat):Int)=1 from rfl,show(1:Int)<2 from by decide,j1,hp1,Ye,hne,Tm.pvs_len,hn0];have hit:∀l,itm goal.name l=xY l:=fun l=>by unfold itm;rw[Za (by rw[hnm];exact hn2)]
      refine g8 goal (arg1 goal) G 100 (.str setN) 1 (by omega) hga hasz hgo (by omega) (fun l hv hl=>by rw[hit];exact nG l hv (by omega) []) (fun l hv _=>by rw[hit];exact Bc l hv) _ (fun hall=> ?_) fun hno a0 a1 X q k _ hx1 hx2 hqk=> ?_
      ·simp -dsimp -implicitDefEqProofs only[go_sem,seval,↓reduceIte];refine⟨G.map (ansT goal.name (arg1 goal)),⟨(by intro h;simp at h),fun _=>⟨rfl,by rw[hA];exact hall⟩⟩,?_⟩;rw[y0 (by simp[AObj.refs,AV.refsIn]) (by simp[AV.refsIn]),ZO];rfl
      ·rw[hRf (by rw[hA];exact hno)];exact y3 (l:=[]) (q:=q) (r:=k) (fz:=false) hx1 hx2 hqk
    ·rintro D ⟨_,d1⟩;obtain⟨e1,hAt⟩:=d1 rfl;rw[hRt hAt,e1];simp -dsimp -implicitDefEqProofs only[go_sem,seval,↓reduceIte,show((2:Nat):Int)=2 from rfl,show ¬(2:Int)<2 from by decide,hn0,hb0,Yc (Zg _)];exact y3 (l:=G.map (ansT goal.name (arg1 goal))) (q:=1) (r:=4) (fz:=false) rfl rfl (by decide)
theorem VI(l:List Tm):YQ false l=isort Tm.cmp l:=gn false l
theorem nL(l:List Tm):l.all (okK false)=true:=Zo.2 fun _ _=>rfl
theorem nM(l:List Tm)(hv:Yt l=true)(hl:Tm.sizes l<100000000)(hp:Heap):S 104 [.pv none (.sl (some 4) (Tm.pvs l))] hp=some (.ret (.tuple [.pv none (.sl (some 4) (Tm.pvs (isort Tm.cmp l))),O8 0]),hp):=by
 refine Yb rfl rfl rfl (Yd [(none,.sl (some 4) (Tm.pvs l))]) rfl ?_;have hlen:=Tm.zyN l;have h2:=fun hp=>gd l (by omega) hp;rw[<-VI];simp -dsimp -implicitDefEqProofs only[go_sem,seval,↓reduceIte,h2,hv,YA (show 0<Sh.size (some 4) by decide)];refine Yr (fun n st=>∃i:Nat,n=l.length - i/\i<=l.length/\((i=0/\st=⟨[(0,.pv none (.sl (some 4) (Tm.pvs l))),(4,.sl (some 4) 1 0 0 0),(5,O8 0)],[.arr (some 4) [] false,.arr (some 4) [] false]⟩)\/
  ∃fz,st=⟨[(0,.pv none (.sl (some 4) (Tm.pvs l))),(4,.pv none (.sl (some 4) (Tm.pvs (YQ false (l.take i))))),(5,O8 i)],[.arr (some 4) [] false,.arr (some 4) [] fz]⟩)) (n:=l.length) ⟨0,rfl,Zg _,.inl ⟨rfl,?_⟩⟩ ?_
 ·simp -dsimp -implicitDefEqProofs only[go_sem,seval,↓reduceIte]
 ·rintro n st ⟨i,hn,hi,hst⟩;by_cases h:i<l.length
  ·have hc:(i:Int)<(l.length:Int):=by omega
   obtain⟨x,hx⟩:∃x,l[i]? =some x:=⟨_,Zf h⟩;have hm:=Zk hx;have hsx:=Tm.zyU hm;have hst':=Tm.zyS l i;have w2:=O0 i (by omega)
   have nx:insK false (YQ false (l.take i)) x=YQ false (l.take (i+1)):=by rw[ZL,hx,<-gl];rfl
   have hva:Yt (YQ false (l.take i))=true:=Vu (Zo.2 fun y hy=>Zo.1 hv y (zO hy));rcases hst with⟨rfl,rfl⟩|⟨fz,rfl⟩
   ·have hcall:=jO false [] x [.sl (some 4) 1 0 0 0,.pv (some 4) x.pv,O9 false] [.arr (some 4) [] false,.arr (some 4) [] false] [.arr (some 4) [] false,.arr (some 4) [] true] rfl (by simp[Tm.sizes];omega) rfl (yU hv hm) rfl rfl;have hc:(0:Int)<(l.length:Int):=by omega
    have w1:IntKind.i64.wrap ((0:Int)+1)=((1:Nat):Int):=by rw[zZ (by omega) (by omega)];rfl
    have nx':insK false [] x=YQ false (l.take 1):=nx;simp -dsimp -implicitDefEqProofs only[go_sem,seval,↓reduceIte,Tm.pvs_len,hc,yc (Tm.pvs_get hx),hcall,w1,nx'];exact⟨l.length - 1,by omega,1,rfl,by omega,.inr ⟨true,rfl⟩⟩
   ·have hcall:=fun hp=>jO false (YQ false (l.take i)) x [.pv none (.sl (some 4) (Tm.pvs (YQ false (l.take i)))),.pv (some 4) x.pv,O9 false] hp hp (Yd [(none,.sl (some 4) (Tm.pvs (YQ false (l.take i)))),(some 4,x.pv),(none,.bool false)]) (by rw[(Js false _).2.1];omega) hva (yU hv hm) (nL _) rfl;simp -dsimp -implicitDefEqProofs only[go_sem,seval,↓reduceIte,Tm.pvs_len,hc,zY (Tm.pvs_get hx),hcall,w2,nx];exact⟨l.length - (i+1),by omega,i+1,rfl,by omega,.inr ⟨fz,rfl⟩⟩
  ·have hc:¬(i:Int)<(l.length:Int):=by omega
   obtain rfl:i=l.length:=by omega
   rcases hst with⟨h0,rfl⟩|⟨fz,rfl⟩
   ·have hnil:l=[]:=ZQ.1 h0;subst hnil;have hz:¬(0:Int)<((0:Nat):Int):=by decide
    simp -dsimp -implicitDefEqProofs only[go_sem,seval,↓reduceIte,Tm.pvs,hz];rfl
   ·rw[ZC];simp -dsimp -implicitDefEqProofs only[go_sem,seval,↓reduceIte,Tm.pvs_len,hc]
theorem nN{s:List Tm}{j:Nat}{x y:Tm}(hx:s[j]? =some x)(hy:s[j+1]? =some y):dd (s.take (j+2))=if x.cmp y=0 then dd (s.take (j+1)) else dd (s.take (j+1))++[y]:=by
 have hl:(s.take (j+1)).getLast? =some x:=VF hx;have e:s.take (j+2)=s.take (j+1)++[y]:=xU hy;have hn:=Tm.zzc x y;rw[e];split
 ·exact jm hl (by omega)
 ·exact jl hl (by omega)
theorem nO(l:List Tm)(hv:Yt l=true)(hl:Tm.sizes l<100000000)(hp:Heap):S 57 [.pv none (.sl (some 4) (Tm.pvs l))] hp=some (.ret (.tuple [.pv none (.sl (some 4) (Tm.pvs (xY l))),O8 0]),hp):=by
 refine Yb rfl rfl rfl (Yd [(none,.sl (some 4) (Tm.pvs l))]) rfl ?_;have h2:=fun hp=>nM l hv hl hp;have hvs:Yt (isort Tm.cmp l)=true:=by rw[<-VI];exact Vu hv
 have hsz:Tm.sizes (isort Tm.cmp l)<=Tm.sizes l:=by rw[<-VI,(Js false l).2.1];exact Zi _
 unfold xY;generalize isort Tm.cmp l=s at h2 hvs hsz ⊢;have hlen:=Tm.zyN s;simp -dsimp -implicitDefEqProofs only[go_sem,seval,↓reduceIte,h2,YA (show 0<Sh.size (some 4) by decide)];refine Yr (fun n st=>∃i:Nat,n=s.length - i/\i<=s.length/\st=⟨[(4,.pv none (.sl (some 4) (Tm.pvs s))),(5,O8 0),(6,.sl (some 4) 1 (dd (s.take i)).length 0 (dd (s.take i)).length),(7,O8 i)],[.arr (some 4) [] false,.arr (some 4) (Tm.pvs (dd (s.take i))) false]⟩) (n:=s.length) ⟨0,rfl,Zg _,?_⟩ ?_
 ·simp -dsimp -implicitDefEqProofs only[go_sem,seval,↓reduceIte];rfl
 ·rintro n st ⟨i,hn,hi,rfl⟩;by_cases h:i<s.length
  ·have hc:(i:Int)<(s.length:Int):=by omega
   obtain⟨y,hy⟩:∃y,s[i]? =some y:=⟨_,Zf h⟩;have hmy:=Zk hy;have hd3:=jn (s.take i);rw[Zn] at hd3;have hlm:(dd (s.take i)).length+1<=lim:=by unfold lim;omega
   have w2:=O0 i (by omega)
   have ap:Tm.pvs (dd (s.take i))++[y.pv]=Tm.pvs (dd (s.take i)++[y]):=by rw[Tm.zyO];rfl
   have al:(dd (s.take i)).length+1=(dd (s.take i)++[y]).length:=by simp
   by_cases h0:i=0
   ·have hc0:(i:Int)=0:=by omega
    have hdd:dd (s.take (i+1))=dd (s.take i)++[y]:=by
     rw[xU hy,h0];rfl
    simp -dsimp -implicitDefEqProofs only[go_sem,seval,↓reduceIte,Tm.pvs_len,hc,Zj hc0,zY (Tm.pvs_get hy),w2,hlm,ap];exact⟨s.length - (i+1),by omega,i+1,rfl,by omega,by rw[hdd,al]⟩
   ·obtain⟨j,rfl⟩:∃j,i=j+1:=⟨i - 1,by omega⟩;have hc0:¬(((j+1:Nat):Int))=0:=by omega
    obtain⟨x,hx⟩:∃x,s[j]? =some x:=⟨_,Zf (by omega)⟩;have hmx:=Zk hx;have hsx:=Tm.zyU hmx;have hcall:=fun hp=>G6 x y hp (by omega) (valid_fits (yU hvs hmx)) (valid_fits (yU hvs hmy));simp only[Tm.av] at hcall;have w1:IntKind.i64.wrap (((j+1:Nat):Int) - 1)=((j:Nat):Int):=by rw[zZ (by omega) (by omega)];omega
    have hdt:=nN hx hy;by_cases hz:x.cmp y=0
    ·rw[Zb hz] at hdt;simp -dsimp -implicitDefEqProofs only[go_sem,seval,↓reduceIte,Tm.pvs_len,hc,hc0,zY (Tm.pvs_get hy),zY (Tm.pvs_get hx),w1,w2,hcall,hz];exact⟨s.length - (j+1+1),by omega,j+1+1,rfl,by omega,by rw[hdt]⟩
    ·rw[Za hz] at hdt;simp -dsimp -implicitDefEqProofs only[go_sem,seval,↓reduceIte,Tm.pvs_len,hc,hc0,zY (Tm.pvs_get hy),zY (Tm.pvs_get hx),w1,w2,hcall,hz,hlm,ap];exact⟨s.length - (j+1+1),by omega,j+1+1,rfl,by omega,by rw[hdt,al]⟩
  ·have hc:¬(i:Int)<(s.length:Int):=by omega
   obtain rfl:i=s.length:=by omega
   rw[ZC];simp -dsimp -implicitDefEqProofs only[go_sem,seval,↓reduceIte,Tm.pvs_len,hc]
theorem nP(t:Tm)(ht:t.size<100000000)(hp:Heap):S 53 [t.av] hp=some (.ret (O9 (decide (t.valid=true/\same t (canR t)=true))),hp):=by
 refine Yb rfl rfl rfl (Yd [(some 4,t.pv)]) rfl ?_;have h1:=fun hp=>yS t hp (by omega);simp only[Tm.av] at h1;cases hv:t.valid with
 |false=>
  rw[hv] at h1;have e:decide (false=true/\same t (canR t)=true)=false:=by simp
  simp -dsimp -implicitDefEqProofs only[go_sem,seval,↓reduceIte,Tm.av,h1,e]
 |true=>
  have h2:=fun hp=>Vw t hp (by omega);have h3:=fun hp=>kI t (canR t) hp (by omega);simp only[Tm.av] at h2 h3;rw[hv] at h1;have e:decide (same t (canR t)=true)=decide (t.cmp (canR t)=0):=by
   by_cases hc:t.cmp (canR t)=0
   ·have:=Tm.cmp_zero.1 hc;rw[<-this];simp[same,hv]
   ·simp[same,hc]
  simp -dsimp -implicitDefEqProofs only[go_sem,seval,↓reduceIte,Tm.av,h1,h2,h3,e]
theorem nQ(t:Tm)(ht:t.size<100000000)(hp:Heap):S 54 [t.av] hp=some (.ret (.tuple [.pv none (.sl (some 4) (Tm.pvs (YF t).1)),(YF t).2.1.av,.pv none (.bool (YF t).2.2)]),hp):=by
 refine Yb rfl rfl rfl (Yd [(some 4,t.pv)]) rfl ?_;have h1:=fun hp=>yS t hp (by omega);have hn0:=O1;have hb0:=O4;simp only[Tm.av] at h1;cases hv:t.valid with
 |false=>
  have e:YF t=([],zt,false):=by unfold YF;rw[hv,Za (by simp)]
  rw[e];rw[hv] at h1;simp -dsimp -implicitDefEqProofs only[go_sem,seval,↓reduceIte,Tm.av,h1,hn0,hb0,Yc (Zg _)];exact VE (l:=[]) (q:=_) (r:=_) (fz:=false) rfl rfl (by decide)
 |true=>
  rw[hv] at h1;have hz:=valid_size hv;have hel:=fun hp=>Gj t hv hp;have hinst:=fun hp=>Gr hp;have htyp:=fun hp=>Gq QN (by decide) t hv hp;have hen:QN=[108,105,115,116]:=rfl;have e:YF t=if(tl t).kind=0 then([],instT,false) else if(tl t).kind=2/\(tl t).name=[91,93] then(els t,zt,true) else([],typT QN t,false):=by unfold YF;rw[hv,Zb rfl]
  rw[e];simp only[Tm.av] at hel hinst htyp;rw[hen] at htyp;by_cases m0:(tl t).kind=0
  ·rw[Zb m0];simp -dsimp -implicitDefEqProofs only[go_sem,seval,↓reduceIte,Tm.av,h1,hel,hn0,hinst,Ya,Ye,Zj m0];exact XW (l:=[]) (q:=_) (fz:=false) rfl
  ·rw[Za m0];by_cases m2:(tl t).kind=2
   ·by_cases m3:(tl t).name=[91,93]
    ·rw[Zb ⟨m2,m3⟩];simp -dsimp -implicitDefEqProofs only[go_sem,seval,↓reduceIte,Tm.av,h1,hel,hn0,hb0,Ya,Ye,Zl m0,Zj m2,Zj m3,Yc (Zg _)];exact gT (r:=_) rfl
    ·rw[Za (fun e=>m3 e.2)];simp -dsimp -implicitDefEqProofs only[go_sem,seval,↓reduceIte,Tm.av,h1,hel,hn0,htyp,Ya,Ye,Zl m0,Zj m2,Zl m3];exact XW (l:=[]) (q:=_) (fz:=false) rfl
   ·rw[Za (fun e=>m2 e.1)];simp -dsimp -implicitDefEqProofs only[go_sem,seval,↓reduceIte,Tm.av,h1,hel,hn0,htyp,Ya,Ye,Zl m0,Zl m2];exact XW (l:=[]) (q:=_) (fz:=false) rfl
theorem Bd(nm:List UInt8)(k:Int)(hp:Heap):S 17 [Oh nm,O8 k] hp=some (.ret (O9 (decide (k=3/\(nm=bagN\/nm=setN)))),hp):=by
 refine Yb rfl rfl rfl (Yd [(none,.str nm),(none,.int .i64 k)]) rfl ?_;by_cases h3:k=3
 ·by_cases h1:nm=bagN
  ·have h1':=Zj (show nm=[36,98,97,103] from h1);simp -dsimp -implicitDefEqProofs only[go_sem,seval,↓reduceIte,Zj h3,h1']
   try simp[h3,h1]
  ·have h1':=Zl (show ¬nm=[36,98,97,103] from h1);by_cases h2:nm=setN
   ·have h2':=Zj (show nm=[36,115,101,116] from h2);simp -dsimp -implicitDefEqProofs only[go_sem,seval,↓reduceIte,Zj h3,h1',h2']
    try simp[h3,h2]
   ·have h2':=Zl (show ¬nm=[36,115,101,116] from h2);simp -dsimp -implicitDefEqProofs only[go_sem,seval,↓reduceIte,Zj h3,h1',h2']
    try simp[h1,h2]
 ·by_cases h1:nm=bagN
  ·have h1':=Zj (show nm=[36,98,97,103] from h1);simp -dsimp -implicitDefEqProofs only[go_sem,seval,↓reduceIte,Zl h3,h1']
   try simp[h3]
  ·have h1':=Zl (show ¬nm=[36,98,97,103] from h1);by_cases h2:nm=setN
   ·have h2':=Zj (show nm=[36,115,101,116] from h2);simp -dsimp -implicitDefEqProofs only[go_sem,seval,↓reduceIte,Zl h3,h1',h2']
    try simp[h3]
   ·have h2':=Zl (show ¬nm=[36,115,101,116] from h2);simp -dsimp -implicitDefEqProofs only[go_sem,seval,↓reduceIte,Zl h3,h1',h2']
    try simp[h1,h2]
theorem nR(nm:List UInt8)(x y z:Tm)(hp:Heap):S 41 [Oh nm,.pv none (.sl (some 4) [x.pv,y.pv,z.pv])] hp=some (.ret (Tm.mk 3 0 nm [x,y,z]).av,hp):=by
 refine Yb (ps:=[(none,.str nm),(none,.sl (some 4) [x.pv,y.pv,z.pv])]) rfl rfl rfl rfl rfl ?_;have hb:Ym A0 [0,2,3] [O8 3,Oh nm,.pv none (.sl (some 4) [x.pv,y.pv,z.pv])]=some (.pv (some 4) (Tm.mk 3 0 nm [x,y,z]).pv):=rfl;simp -dsimp -implicitDefEqProofs only[go_sem,seval,↓reduceIte,hb]
 try rfl
set_option maxHeartbeats 4000000 in
theorem nS(goal:Tm)(ht:goal.size<100000000)(hp:Heap):S 14 [goal.av] hp=some (.ret (.tuple [.pv none (.sl (some 4) (Tm.pvs (yo goal).1)),(yo goal).2.1.av,.pv none (.int .i64 (yo goal).2.2)]),hp):=by
 refine Yb rfl rfl rfl (Yd [(some 4,goal.pv)]) rfl ?_;have h1:=fun hp=>nP goal ht hp;have hn0:=O1;have hb0:=O4;simp only[Tm.av] at h1;by_cases hvs:goal.valid=true/\same goal (canR goal)=true
 rotate_left
 ·have e:yo goal=([],zt,1):=by unfold yo;rw[Za hvs]
  rw[e];rw[decide_eq_false hvs] at h1;simp -dsimp -implicitDefEqProofs only[go_sem,seval,↓reduceIte,Tm.av,h1,hn0,hb0,Yc (Zg _)];exact y3 (l:=[]) (q:=_) (r:=_) (fz:=false) rfl rfl (by decide)
 rw[zz hvs] at h1;have hv:=hvs.1;have hgsz:=valid_size hv;have e0:yo goal=if goal.kind=3/\goal.args.length=3/\(goal.name=bagN\/goal.name=setN) then
  if(YG (arg1 goal)).2.2=true then
   if(YL (YG (arg1 goal)).1).2=0 then
    if ∀g∈(YL (YG (arg1 goal)).1).1,(ansT goal.name (arg1 goal) g).valid=true then((YL (YG (arg1 goal)).1).1.map (ansT goal.name (arg1 goal)),zt,0) else([],zt,2)
   else([],zt,(YL (YG (arg1 goal)).1).2)
  else([],(YG (arg1 goal)).2.1,8)
 else([],zt,4):=by unfold yo;rw[Zb hvs]
 rw[e0];by_cases hk3:goal.kind=3
 rotate_left
 ·rw[Za (fun h=>hk3 h.1)];simp -dsimp -implicitDefEqProofs only[go_sem,seval,↓reduceIte,Tm.av,h1,Ya,Ye,zV,Tm.pvs_len,Zl hk3,hn0,hb0,Yc (Zg _)];exact y3 (l:=[]) (q:=_) (r:=_) (fz:=false) rfl rfl (by decide)
 have hhas:=fun hp=>Bd goal.name goal.args.length hp;by_cases hh:goal.args.length=3/\(goal.name=bagN\/goal.name=setN)
 rotate_left
 ·rw[Za (fun h=>hh h.2)];rw[decide_eq_false (fun h=>hh ⟨by omega,h.2⟩)] at hhas;simp -dsimp -implicitDefEqProofs only[go_sem,seval,↓reduceIte,Tm.av,h1,Ya,Ye,zV,Tm.pvs_len,Zj hk3,hhas,hn0,hb0,Yc (Zg _)];exact y3 (l:=[]) (q:=_) (r:=_) (fz:=false) rfl rfl (by decide)
 rw[Zb ⟨hk3,hh⟩];rw[zz (show((goal.args.length:Int)=3/\_) from⟨by omega,hh.2⟩)] at hhas;have hga:(Tm.pvs goal.args)[1]? =some (arg1 goal).pv:=by
  refine Tm.pvs_get ?_
  match goal,hh.1 with
  | .mk k n s [a,b,c],_=>rfl
 have ham:arg1 goal∈goal.args:=by
  match goal,hh.1 with
  | .mk k n s [a,b,c],_=>simp[arg1,Tm.args]
 have hav:=YK hv ham;have hasz:=valid_size hav;have q1:=zY (sh:=some 4) (s:=none) (s':=none) (k:=.i64) hga;simp only[show((1:Nat):Int)=1 from rfl] at q1;have h4:=fun hp=>nQ (arg1 goal) (by omega) hp;have hpf:=VH (arg1 goal);have hpR:YG (arg1 goal)=if(YF (arg1 goal)).2.2=true then(match Xh (YF (arg1 goal)).1 with|none=>((YF (arg1 goal)).1,zt,true)|some b=>([],b,false)) else([],(YF (arg1 goal)).2.1,false):=rfl
 obtain⟨hlv,hll⟩:=jU (arg1 goal);simp only[Tm.av] at h4;obtain⟨P,hP⟩:∃P,P=YG (arg1 goal):=⟨_,rfl⟩;rw[<-hP] at hpf hpR ⊢;clear hP;generalize YF (arg1 goal)=LR at*;obtain⟨l,b,B⟩:=LR;dsimp only at h4 hpR hlv hll;cases B with
 |false=>
  rw[Za (by simp)] at hpR;rw[hpR,Za (by simp)];simp -dsimp -implicitDefEqProofs only[go_sem,seval,↓reduceIte,Tm.av,h1,Ya,Ye,zV,Tm.pvs_len,Zj hk3,hhas,q1,h4,hn0,hb0,Yc (Zg _)];exact jV (l:=[]) (q:=_) (fz:=false) rfl
 |true=>
  rw[Zb rfl] at hpR;simp -dsimp -implicitDefEqProofs only[c14k23,go_sem,seval,↓reduceIte,Tm.av,h1,Ya,Ye,zV,Tm.pvs_len,Zj hk3,hhas,q1,h4,hn0];have hinst:=fun hp=>Gr hp;have hen:Jx=[112,97,105,114]:=rfl;simp only[Tm.av] at hinst;refine Yv (α:=Unit) l.length (fun i _=>Xh l=Xh (l.drop i)) (fun i _=>⟨[(1,.ptr 0 0),(3,.ptr 2 0),(5,.pv none (.sl (some 4) (Tm.pvs l))),(8,O8 i)],[.box (some 4) (.pv (some 4) goal.pv),.arr (some 4) [] false,.box (some 4) (zg 3),.arr (some 4) [] false,.box (some 4) (.pv (some 4) b.pv),.arr (some 4) [] false]⟩) () ⟨rfl,rfl⟩ ?_ ?_
  ·rintro i - hi hfb;have hc:(i:Int)<(l.length:Int):=by omega
   obtain⟨u,hu⟩:∃u,l[i]? =some u:=⟨_,Zf hi⟩;have huv:=hlv u (Zk hu);have hdr:l.drop i=u::l.drop (i+1):=by
    obtain⟨q1,e1⟩:=Ze.1 hu;rw[ZS q1,e1]
   rw[hdr,Xh] at hfb;have hug:=zY (sh:=some 4) (s:=none) (s':=none) (k:=.i64) (Tm.pvs_get hu);have w2:=O0 i (by omega)
   have his:=fun hp=>gp u hp;have htyp:=fun hp=>Gq Jx (by decide) u huv hp;simp only[Tm.av] at htyp;rw[hen] at htyp;by_cases k0:u.kind=0
   ·rw[Zb k0] at hfb;rw[hfb] at hpR;rw[hpR,Za (by simp)];simp -dsimp -implicitDefEqProofs only[c14k23,go_sem,seval,↓reduceIte,zg,Tm.av,Tm.pvs_len,hn0,hc,hug,Ya,Zj k0,hinst];exact jV (l:=[]) (q:=_) (fz:=false) rfl
   ·rw[Za k0] at hfb;cases kp:Yj u with
    |true=>
     rw[kp,Zb rfl] at hfb;rw[kp] at his;simp -dsimp -implicitDefEqProofs only[c14k23,go_sem,seval,↓reduceIte,zg,Tm.av,Tm.pvs_len,hn0,hc,hug,Ya,Zl k0,his,w2];refine⟨(),hfb,?_⟩;rw[y0 (by simp[AObj.refs,AV.refsIn,AV.ofComps,pures,AV.refsIn.go]) (by simp[AV.refsIn])];rfl
    |false=>
     rw[kp,Za (by simp)] at hfb;rw[kp] at his;rw[hfb] at hpR;rw[hpR,Za (by simp)];simp -dsimp -implicitDefEqProofs only[c14k23,go_sem,seval,↓reduceIte,zg,Tm.av,Tm.pvs_len,hn0,hc,hug,Ya,Zl k0,his,htyp];exact jV (l:=[]) (q:=_) (fz:=false) rfl
  ·rintro - hfb;have hc:¬(l.length:Int)<(l.length:Int):=by omega
   rw[zh,Xh] at hfb;rw[hfb] at hpR;dsimp only at hpR;rw[hpR] at hpf ⊢;obtain⟨f1,f2,f3,_⟩:=hpf rfl;dsimp only at f1 f2 f3 ⊢;rw[Zb rfl];have h5:=nn l (by omega) (by omega) (fun _=>by omega);have hgo:=Bb l;have hgl:=VD l;generalize YL l=GR at*;obtain⟨G,e⟩:=GR;dsimp only at h5 hgo hgl ⊢;by_cases he:e=0
   rotate_left
   ·rw[Za he];simp -dsimp -implicitDefEqProofs only[c14k23,go_sem,seval,↓reduceIte,zg,Tm.av,Tm.pvs_len,hc,h5,Zl he,hn0,hb0,Yc (Zg _)];exact y3 (l:=[]) (q:=_) (r:=_) (fz:=false) rfl rfl (by decide)
   rw[Zb he];obtain⟨A,hA⟩:∃A:Prop,A=∀g∈G,(ansT goal.name (arg1 goal) g).valid=true:=⟨_,rfl⟩;obtain⟨R,hR⟩:∃R:List Tm × Tm × Int,R=if ∀g∈G,(ansT goal.name (arg1 goal) g).valid=true then(G.map (ansT goal.name (arg1 goal)),zt,0) else([],zt,2):=⟨_,rfl⟩
   rw[<-hR];have hRt:A->R=(G.map (ansT goal.name (arg1 goal)),zt,0):=fun h=>by rw[hR,Zb (by rw[hA] at h;exact h)]
   have hRf:¬A->R=([],zt,2):=fun h=>by rw[hR,Za (by rw[hA] at h;exact h)]
   clear hR;simp -dsimp -implicitDefEqProofs only[c14k23,c14k44,go_sem,seval,↓reduceIte,zg,Tm.av,Tm.pvs_len,hc,h5,Zj he,hn0];have hGl:G.length<=2000:=by omega
   obtain⟨s,hs⟩:∃s,s=arg1 goal:=⟨_,rfl⟩;rw[<-hs] at hga hasz q1 hA hRt;refine Yv (α:=Unit) G.length (fun j _=>∀g∈G.take j,(ansT goal.name s g).valid=true) (fun j _=>⟨[(1,.ptr 0 0),(3,.ptr 2 0),(9,.pv none (.sl (some 4) (Tm.pvs G))),(11,.sl (some 4) 6 j 0 j),(12,O8 j)],[.box (some 4) (.pv (some 4) goal.pv),.arr (some 4) [] false,.box (some 4) (zg 3),.arr (some 4) [] false,.box (some 4) (.pv (some 4) b.pv),.arr (some 4) [] false,.arr (some 4) (Tm.pvs ((G.take j).map (ansT goal.name s))) false]⟩) () ⟨fun g hg=>(by cases hg),rfl⟩ ?_ ?_
   ·rintro j - hj hall;have hc:(j:Int)<(G.length:Int):=by omega
    obtain⟨g,hg⟩:∃g,G[j]? =some g:=⟨_,Zf hj⟩;have hgo:=hgo g (Zk hg);obtain⟨g0,g1,hgi⟩:=xX hgo.pr;have hiv:=Ju hgo.pr hgo.val;have hgg:=zY (sh:=some 4) (s:=none) (s':=none) (k:=.i64) (Tm.pvs_get hg);have q2:=zY (sh:=some 4) (s:=none) (s':=none) (k:=.i64) g1;simp only[show((1:Nat):Int)=1 from rfl] at q2;have hel:=fun hp=>Gj (Yg g) hiv hp;have hev:Yt (els (Yg g))=true:=Zo.2 fun x hx=>elsv _ _ rfl hiv x hx;have hes:Tm.sizes (els (Yg g))<=2000:=ZJ (VG _ _ rfl) (valid_size hiv);obtain⟨hil1,hil2⟩:(itm goal.name (els (Yg g))).length<=(els (Yg g)).length/\∀t∈itm goal.name (els (Yg g)),t.valid=true:=by
     unfold itm;split
     ·exact⟨Zi _,fun t ht=>yU hev ht⟩
     ·exact Bc _ hev
    have hesl:=Tm.zyN (els (Yg g));have hst:=fun hp=>Gh (itm goal.name (els (Yg g))) (by omega) hp;have h3:∀hp,S 41 [Oh goal.name,.pv none (.sl (some 4) [(z8 g).pv,s.pv,(lst (itm goal.name (els (Yg g)))).pv])] hp=some (.ret (ansT goal.name s g).av,hp):=fun hp=>nR goal.name (z8 g) s _ hp;have hks:=valid_size (YK hgo.val (Xq hgo.pr));have hls:=Jt (itm goal.name (els (Yg g))) 2000 fun t ht=>valid_size (hil2 t ht);have hasz':(ansT goal.name s g).size=1+((z8 g).size+(s.size+(lst (itm goal.name (els (Yg g)))).size)):=by
     show 1+((z8 g).size+(s.size+((lst (itm goal.name (els (Yg g)))).size+0)))=_;omega
    have h4:=fun hp=>yS (ansT goal.name s g) hp (by omega);have hjm:(Tm.pvs ((G.take j).map (ansT goal.name s))).length=j:=by rw[Tm.pvs_len,ZO,Zn];omega
    have hlim:j+1<=lim:=by unfold lim;omega
    have hap:Tm.pvs ((G.take j).map (ansT goal.name s))++[(ansT goal.name s g).pv]=Tm.pvs ((G.take (j+1)).map (ansT goal.name s)):=by rw[ZL,hg];simp[Tm.zyO];rfl
    have w2:=O0 j (by omega)
    have hso:=fun hp=>nO (els (Yg g)) hev (by omega) hp;simp only[Tm.av] at hel hst h3 h4;have hn1:¬bagN=[36,115,101,116]:=by decide
    have hn2:¬setN=bagN:=by decide
    obtain⟨w,hw,hwt,hwf⟩:∃w:Bool,w=decide (goal.name=setN)/\(w=true->itm goal.name (els (Yg g))=xY (els (Yg g)))/\(w=false->itm goal.name (els (Yg g))=els (Yg g)):=by
     refine⟨_,rfl,fun h=> ?_,fun h=> ?_⟩
     ·have:=ze h;unfold itm;rw[Za (by rw[this];exact hn2)]
     ·have:=of_decide_eq_false h;unfold itm;rw[Zb (hh.2.resolve_right this)]
    generalize itm goal.name (els (Yg g))=I at*;cases w with
    |true=>
     have hI:=hwt rfl;have hnm:(goal.name=[36,115,101,116])=True:=Zj (ze hw.symm);rw[<-hI] at hso;cases hva:(ansT goal.name s g).valid with
     |true=>
      rw[hva] at h4;have h5:=fun hp=>kL (ansT goal.name s g) hp hva (by omega);simp only[Tm.av] at h5;have hall2:∀x∈G.take (j+1),(ansT goal.name s x).valid=true:=fun x hx=>by
       rw[ZL,hg] at hx;rcases Zr.1 hx with hx|hx
       ·exact hall x hx
       ·have:x=g:=by simpa using hx
        rw[this];exact hva
      simp -dsimp -implicitDefEqProofs only[c14k23,c14k44,go_sem,seval,↓reduceIte,zg,Tm.av,Tm.pvs_len,hn0,hc,hgg,zV,Ye,yc g0,q1,q2,hel,hnm,hso,hst,h3,h4,h5,hjm,hlim,hap,w2];refine⟨(),hall2,?_⟩;rw[y0 (by simp[AObj.refs,AV.refsIn,AV.ofComps,pures,AV.refsIn.go]) (by simp[AV.refsIn])];rfl
     |false=>
      rw[hva] at h4;have hnot:¬A:=fun h=>by
       rw[hA] at h;have:=h g (Zk hg);rw[hva] at this;cases this
      simp -dsimp -implicitDefEqProofs only[c14k23,c14k44,go_sem,seval,↓reduceIte,zg,Tm.av,Tm.pvs_len,hn0,hb0,hc,hgg,zV,Ye,yc g0,q1,q2,hel,hnm,hso,hst,h3,h4,Yc (Zg _)];rw[hRf hnot];exact y3 (l:=[]) (q:=_) (r:=_) (fz:=false) rfl rfl (by decide)
    |false=>
     have hI:=hwf rfl;have hnm:(goal.name=[36,115,101,116])=False:=Zl (of_decide_eq_false hw.symm);rw[<-hI] at hel;cases hva:(ansT goal.name s g).valid with
     |true=>
      rw[hva] at h4;have h5:=fun hp=>kL (ansT goal.name s g) hp hva (by omega);simp only[Tm.av] at h5;have hall2:∀x∈G.take (j+1),(ansT goal.name s x).valid=true:=fun x hx=>by
       rw[ZL,hg] at hx;rcases Zr.1 hx with hx|hx
       ·exact hall x hx
       ·have:x=g:=by simpa using hx
        rw[this];exact hva
      simp -dsimp -implicitDefEqProofs only[c14k23,c14k44,go_sem,seval,↓reduceIte,zg,Tm.av,Tm.pvs_len,hn0,hc,hgg,zV,Ye,yc g0,q1,q2,hel,hnm,hst,h3,h4,h5,hjm,hlim,hap,w2];refine⟨(),hall2,?_⟩;rw[y0 (by simp[AObj.refs,AV.refsIn,AV.ofComps,pures,AV.refsIn.go]) (by simp[AV.refsIn])];rfl
     |false=>
      rw[hva] at h4;have hnot:¬A:=fun h=>by
       rw[hA] at h;have:=h g (Zk hg);rw[hva] at this;cases this
      simp -dsimp -implicitDefEqProofs only[c14k23,c14k44,go_sem,seval,↓reduceIte,zg,Tm.av,Tm.pvs_len,hn0,hb0,hc,hgg,zV,Ye,yc g0,q1,q2,hel,hnm,hst,h3,h4,Yc (Zg _)];rw[hRf hnot];exact y3 (l:=[]) (q:=_) (r:=_) (fz:=false) rfl rfl (by decide)
   ·rintro - hall;rw[ZC] at hall;have hc:¬(G.length:Int)<(G.length:Int):=by omega
    rw[ZC,hRt (by rw[hA];exact hall)];simp -dsimp -implicitDefEqProofs only[c14k23,c14k44,go_sem,seval,↓reduceIte,zg,Tm.av,Tm.pvs_len,hc,hn0,hb0,Yc (Zg _)];have hml:(G.map (ansT goal.name s)).length=G.length:=ZO ..;rw[<-hml];exact y3 (l:=G.map (ansT goal.name s)) (q:=_) (r:=_) (fz:=false) rfl rfl (by decide)
def tP(k n:Int)(s:List UInt8)(l:List PV):PV:=.agg [(none,.int .i64 k),(none,.int .i64 n),(none,.str s),(none,.sl (some 4) l)]
theorem fok0:FactsOk (find tab) prim []:=.nil
def fq0:List (Sh × PV):=[((some 4),(tP 2 0 [97] []))]
def fv0:AV:=(.pv (some 4) (tP 2 0 [97] []))
theorem ff0:resV (sem (find tab) prim .fn 47 (pvs fq0) [])=some fv0:=yj (n:=60) fok0 (by kernel_rfl)
def fK1:Facts:=(47,fq0,fv0)::[]
theorem fok1:FactsOk (find tab) prim fK1:=.cons (by kernel_rfl) ff0 fok0
def fq1:List (Sh × PV):=[((some 4),(tP 2 0 [97] [])),((some 4),(tP 2 0 [97] []))]
def fv1:AV:=(O9 true)
theorem ff1:resV (sem (find tab) prim .fn 36 (pvs fq1) [])=some fv1:=yj (n:=60) fok1 (by kernel_rfl)
def fK2:Facts:=(36,fq1,fv1)::fK1
theorem fok2:FactsOk (find tab) prim fK2:=.cons (by kernel_rfl) ff1 fok1
def fq2:List (Sh × PV):=[((some 4),(tP 2 0 [98] []))]
def fv2:AV:=(.pv (some 4) (tP 2 0 [98] []))
theorem ff2:resV (sem (find tab) prim .fn 47 (pvs fq2) [])=some fv2:=yj (n:=60) fok2 (by kernel_rfl)
def fK3:Facts:=(47,fq2,fv2)::fK2
theorem fok3:FactsOk (find tab) prim fK3:=.cons (by kernel_rfl) ff2 fok2
def fq3:List (Sh × PV):=[((some 4),(tP 2 0 [98] [])),((some 4),(tP 2 0 [97] []))]
def fv3:AV:=(O9 false)
theorem ff3:resV (sem (find tab) prim .fn 36 (pvs fq3) [])=some fv3:=yj (n:=60) fok3 (by kernel_rfl)
def fK4:Facts:=(36,fq3,fv3)::fK3
theorem fok4:FactsOk (find tab) prim fK4:=.cons (by kernel_rfl) ff3 fok3
def fq4:List (Sh × PV):=[(none,(.sl (some 5) [])),((some 4),(tP 2 0 [97] []))]
def fv4:AV:=(.tuple [(.pv (some 4) (tP 2 0 [97] [])),(O8 (0))])
theorem ff4:resV (sem (find tab) prim .fn 86 (pvs fq4) [])=some fv4:=yj (n:=60) fok4 (by kernel_rfl)
def fK5:Facts:=(86,fq4,fv4)::fK4
theorem fok5:FactsOk (find tab) prim fK5:=.cons (by kernel_rfl) ff4 fok4
def fq5:List (Sh × PV):=[(none,(.sl (some 5) [])),((some 4),(tP 1 2 [] []))]
def fv5:AV:=(.tuple [(.pv (some 4) (tP 1 2 [] [])),(O8 (0))])
theorem ff5:resV (sem (find tab) prim .fn 86 (pvs fq5) [])=some fv5:=yj (n:=60) fok5 (by kernel_rfl)
def fK6:Facts:=(86,fq5,fv5)::fK5
theorem fok6:FactsOk (find tab) prim fK6:=.cons (by kernel_rfl) ff5 fok5
def fq6:List (Sh × PV):=[(none,(.sl (some 4) [(tP 3 0 [45] [(tP 2 0 [97] []),(tP 1 2 [] [])])]))]
def fv6:AV:=(.tuple [(.pv (some 4) (tP 3 0 [45] [(tP 2 0 [97] []),(tP 3 0 [46] [(tP 1 2 [] []),(tP 2 0 [91,93] [])])])),(O8 (0))])
theorem ff6:resV (sem (find tab) prim .fn 37 (pvs fq6) [])=some fv6:=yj (n:=60) fok6 (by kernel_rfl)
def fK7:Facts:=(37,fq6,fv6)::fK6
theorem fok7:FactsOk (find tab) prim fK7:=.cons (by kernel_rfl) ff6 fok6
def fq7:List (Sh × PV):=[((some 4),(tP 2 0 [98] [])),((some 4),(tP 2 0 [98] []))]
def fv7:AV:=(O9 true)
theorem ff7:resV (sem (find tab) prim .fn 36 (pvs fq7) [])=some fv7:=yj (n:=60) fok7 (by kernel_rfl)
def fK8:Facts:=(36,fq7,fv7)::fK7
theorem fok8:FactsOk (find tab) prim fK8:=.cons (by kernel_rfl) ff7 fok7
def fq8:List (Sh × PV):=[(none,(.sl (some 5) [])),((some 4),(tP 2 0 [98] [])),((some 4),(tP 2 0 [98] []))]
def fv8:AV:=(.tuple [(.pv none (.sl (some 5) [])),(O8 (0))])
theorem ff8:resV (sem (find tab) prim .fn 85 (pvs fq8) [])=some fv8:=yj (n:=60) fok8 (by kernel_rfl)
def fK9:Facts:=(85,fq8,fv8)::fK8
theorem fok9:FactsOk (find tab) prim fK9:=.cons (by kernel_rfl) ff8 fok8
def fq9:List (Sh × PV):=[(none,(.sl (some 5) [])),((some 4),(tP 2 0 [98] []))]
def fv9:AV:=(.tuple [(.pv (some 4) (tP 2 0 [98] [])),(O8 (0))])
theorem ff9:resV (sem (find tab) prim .fn 86 (pvs fq9) [])=some fv9:=yj (n:=60) fok9 (by kernel_rfl)
def fK10:Facts:=(86,fq9,fv9)::fK9
theorem Be:FactsOk (find tab) prim fK10:=.cons (by kernel_rfl) ff9 fok9
def fq10:List (Sh × PV):=[(none,(.sl (some 5) [])),((some 4),(tP 1 1 [] []))]
def fv10:AV:=(.tuple [(.pv (some 4) (tP 1 1 [] [])),(O8 (0))])
theorem ff10:resV (sem (find tab) prim .fn 86 (pvs fq10) [])=some fv10:=yj (n:=60) Be (by kernel_rfl)
def fK11:Facts:=(86,fq10,fv10)::fK10
theorem Bf:FactsOk (find tab) prim fK11:=.cons (by kernel_rfl) ff10 Be
def fq11:List (Sh × PV):=[(none,(.sl (some 5) [])),((some 4),(tP 1 3 [] []))]
def fv11:AV:=(.tuple [(.pv (some 4) (tP 1 3 [] [])),(O8 (0))])
theorem ff11:resV (sem (find tab) prim .fn 86 (pvs fq11) [])=some fv11:=yj (n:=60) Bf (by kernel_rfl)
def fK12:Facts:=(86,fq11,fv11)::fK11
theorem Bg:FactsOk (find tab) prim fK12:=.cons (by kernel_rfl) ff11 Bf
def fq12:List (Sh × PV):=[(none,(.sl (some 4) [(tP 3 0 [45] [(tP 2 0 [98] []),(tP 1 1 [] [])]),(tP 3 0 [45] [(tP 2 0 [98] []),(tP 1 3 [] [])])]))]
def fv12:AV:=(.tuple [(.pv (some 4) (tP 3 0 [45] [(tP 2 0 [98] []),(tP 3 0 [46] [(tP 1 1 [] []),(tP 3 0 [46] [(tP 1 3 [] []),(tP 2 0 [91,93] [])])])])),(O8 (0))])
theorem ff12:resV (sem (find tab) prim .fn 37 (pvs fq12) [])=some fv12:=yj (n:=60) Bg (by kernel_rfl)
def fK13:Facts:=(37,fq12,fv12)::fK12
theorem Bh:FactsOk (find tab) prim fK13:=.cons (by kernel_rfl) ff12 Bg
def fq13:List (Sh × PV):=[(none,(.sl (some 4) [(tP 3 0 [45] [(tP 2 0 [98] []),(tP 1 1 [] [])]),(tP 3 0 [45] [(tP 2 0 [97] []),(tP 1 2 [] [])]),(tP 3 0 [45] [(tP 2 0 [98] []),(tP 1 3 [] [])])]))]
def fv13:AV:=(.tuple [(.pv none (.sl (some 4) [(tP 3 0 [45] [(tP 2 0 [97] []),(tP 3 0 [46] [(tP 1 2 [] []),(tP 2 0 [91,93] [])])]),(tP 3 0 [45] [(tP 2 0 [98] []),(tP 3 0 [46] [(tP 1 1 [] []),(tP 3 0 [46] [(tP 1 3 [] []),(tP 2 0 [91,93] [])])])])])),(O8 (0))])
theorem ff13:resV (sem (find tab) prim .fn 10 (pvs fq13) [])=some fv13:=yj (n:=60) Bh (by kernel_rfl)
def fK14:Facts:=(10,fq13,fv13)::fK13
theorem Bi:FactsOk (find tab) prim fK14:=.cons (by kernel_rfl) ff13 Bh
def fq14:List (Sh × PV):=[((some 4),(tP 3 0 [36,115,101,116] [(tP 0 0 [] []),(tP 3 0 [46] [(tP 3 0 [45] [(tP 2 0 [97] []),(tP 1 2 [] [])]),(tP 3 0 [46] [(tP 3 0 [45] [(tP 2 0 [97] []),(tP 1 1 [] [])]),(tP 3 0 [46] [(tP 3 0 [45] [(tP 2 0 [97] []),(tP 1 2 [] [])]),(tP 2 0 [91,93] [])])])]),(tP 0 1 [] [])]))]
def fv14:AV:=(.pv (some 4) (tP 3 0 [36,115,101,116] [(tP 0 0 [] []),(tP 3 0 [46] [(tP 3 0 [45] [(tP 2 0 [97] []),(tP 1 2 [] [])]),(tP 3 0 [46] [(tP 3 0 [45] [(tP 2 0 [97] []),(tP 1 1 [] [])]),(tP 3 0 [46] [(tP 3 0 [45] [(tP 2 0 [97] []),(tP 1 2 [] [])]),(tP 2 0 [91,93] [])])])]),(tP 0 1 [] [])]))
theorem ff14:resV (sem (find tab) prim .fn 47 (pvs fq14) [])=some fv14:=yj (n:=60) Bi (by kernel_rfl)
def fK15:Facts:=(47,fq14,fv14)::fK14
theorem Bj:FactsOk (find tab) prim fK15:=.cons (by kernel_rfl) ff14 Bi
def fq15:List (Sh × PV):=[((some 4),(tP 3 0 [46] [(tP 3 0 [45] [(tP 2 0 [97] []),(tP 1 2 [] [])]),(tP 3 0 [46] [(tP 3 0 [45] [(tP 2 0 [97] []),(tP 1 1 [] [])]),(tP 3 0 [46] [(tP 3 0 [45] [(tP 2 0 [97] []),(tP 1 2 [] [])]),(tP 2 0 [91,93] [])])])]))]
def fv15:AV:=(.tuple [(.pv none (.sl (some 4) [(tP 3 0 [45] [(tP 2 0 [97] []),(tP 1 2 [] [])]),(tP 3 0 [45] [(tP 2 0 [97] []),(tP 1 1 [] [])]),(tP 3 0 [45] [(tP 2 0 [97] []),(tP 1 2 [] [])])])),(.pv (some 4) (tP 0 0 [] [])),(O9 true)])
theorem ff15:resV (sem (find tab) prim .fn 48 (pvs fq15) [])=some fv15:=yj (n:=60) Bj (by kernel_rfl)
def fK16:Facts:=(48,fq15,fv15)::fK15
theorem Bk:FactsOk (find tab) prim fK16:=.cons (by kernel_rfl) ff15 Bj
def fq16:List (Sh × PV):=[(none,(.sl (some 5) [])),((some 4),(tP 2 0 [97] [])),((some 4),(tP 2 0 [97] []))]
def fv16:AV:=(.tuple [(.pv none (.sl (some 5) [])),(O8 (0))])
theorem ff16:resV (sem (find tab) prim .fn 85 (pvs fq16) [])=some fv16:=yj (n:=60) Bk (by kernel_rfl)
def fK17:Facts:=(85,fq16,fv16)::fK16
theorem Bl:FactsOk (find tab) prim fK17:=.cons (by kernel_rfl) ff16 Bk
def fq17:List (Sh × PV):=[(none,(.sl (some 4) [(tP 3 0 [45] [(tP 2 0 [97] []),(tP 1 2 [] [])]),(tP 3 0 [45] [(tP 2 0 [97] []),(tP 1 1 [] [])]),(tP 3 0 [45] [(tP 2 0 [97] []),(tP 1 2 [] [])])]))]
def fv17:AV:=(.tuple [(.pv (some 4) (tP 3 0 [45] [(tP 2 0 [97] []),(tP 3 0 [46] [(tP 1 2 [] []),(tP 3 0 [46] [(tP 1 1 [] []),(tP 3 0 [46] [(tP 1 2 [] []),(tP 2 0 [91,93] [])])])])])),(O8 (0))])
theorem ff17:resV (sem (find tab) prim .fn 37 (pvs fq17) [])=some fv17:=yj (n:=60) Bl (by kernel_rfl)
def fK18:Facts:=(37,fq17,fv17)::fK17
theorem Bm:FactsOk (find tab) prim fK18:=.cons (by kernel_rfl) ff17 Bl
def fq18:List (Sh × PV):=[(none,(.sl (some 4) [(tP 3 0 [45] [(tP 2 0 [97] []),(tP 1 2 [] [])]),(tP 3 0 [45] [(tP 2 0 [97] []),(tP 1 1 [] [])]),(tP 3 0 [45] [(tP 2 0 [97] []),(tP 1 2 [] [])])]))]
def fv18:AV:=(.tuple [(.pv none (.sl (some 4) [(tP 3 0 [45] [(tP 2 0 [97] []),(tP 3 0 [46] [(tP 1 2 [] []),(tP 3 0 [46] [(tP 1 1 [] []),(tP 3 0 [46] [(tP 1 2 [] []),(tP 2 0 [91,93] [])])])])])])),(O8 (0))])
theorem ff18:resV (sem (find tab) prim .fn 10 (pvs fq18) [])=some fv18:=yj (n:=60) Bm (by kernel_rfl)
def fK19:Facts:=(10,fq18,fv18)::fK18
theorem Bn:FactsOk (find tab) prim fK19:=.cons (by kernel_rfl) ff18 Bm
def fq19:List (Sh × PV):=[((some 4),(tP 3 0 [36,115,101,116] [(tP 0 0 [] []),(tP 3 0 [46] [(tP 3 0 [45] [(tP 2 0 [97] []),(tP 1 2 [] [])]),(tP 3 0 [46] [(tP 3 0 [45] [(tP 2 0 [97] []),(tP 1 1 [] [])]),(tP 3 0 [46] [(tP 3 0 [45] [(tP 2 0 [97] []),(tP 1 2 [] [])]),(tP 2 0 [91,93] [])])])]),(tP 0 1 [] [])]))]
def fv19:AV:=(.tuple [(.pv none (.sl (some 4) [(tP 3 0 [36,115,101,116] [(tP 2 0 [97] []),(tP 3 0 [46] [(tP 3 0 [45] [(tP 2 0 [97] []),(tP 1 2 [] [])]),(tP 3 0 [46] [(tP 3 0 [45] [(tP 2 0 [97] []),(tP 1 1 [] [])]),(tP 3 0 [46] [(tP 3 0 [45] [(tP 2 0 [97] []),(tP 1 2 [] [])]),(tP 2 0 [91,93] [])])])]),(tP 3 0 [46] [(tP 1 1 [] []),(tP 3 0 [46] [(tP 1 2 [] []),(tP 2 0 [91,93] [])])])])])),(.pv (some 4) (tP 0 0 [] [])),(O8 (0))])
theorem ff19:resV (sem (find tab) prim .fn 13 (pvs fq19) [])=some fv19:=yj (n:=60) Bn (by kernel_rfl)
def fK20:Facts:=(13,fq19,fv19)::fK19
theorem Bo:FactsOk (find tab) prim fK20:=.cons (by kernel_rfl) ff19 Bn
def fq20:List (Sh × PV):=[((some 4),(tP 0 0 [] [])),((some 4),(tP 3 0 [94] [(tP 0 1 [] []),(tP 3 0 [112] [(tP 0 0 [] []),(tP 0 1 [] []),(tP 0 2 [] [])])]))]
def fv20:AV:=(.pv (some 4) (tP 3 0 [46] [(tP 0 2 [] []),(tP 2 0 [91,93] [])]))
theorem ff20:resV (sem (find tab) prim .fn 21 (pvs fq20) [])=some fv20:=yj (n:=60) Bo (by kernel_rfl)
def fK21:Facts:=(21,fq20,fv20)::fK20
theorem nT:FactsOk (find tab) prim fK21:=.cons (by kernel_rfl) ff20 Bo
def fq21:List (Sh × PV):=[]
def fv21:AV:=(O9 true)
theorem ff21:resV (sem (find tab) prim .fn 9 (pvs fq21) [])=some fv21:=yj (n:=60) nT (by kernel_rfl)
theorem nU:∃H,S 9 [] []=some (.ret (O9 true),H):=by
 have h:=ff21;have e:pvs fq21=[]:=rfl;rw[e] at h;cases hs:sem (find tab) prim .fn 9 [] [] with
 |none=>rw[hs] at h;cases h
 |some r=>
  obtain⟨r,H⟩:=r;rw[hs] at h;cases r with
  |ret v=>
   have h:some v=some fv21:=h;cases h;exact⟨H,hs⟩
  |panic v=>cases h
end Go.Proofs.YtffecaafklpmhaaGreat
namespace Go.Proofs.YtffecaafklpmhaaGreat
open Go.Am Go.ChangeShapes Go.WideShapes Go.ChangeAt Go.RowKit
theorem Bp(H:Type):BulkLaws (H:=H) Rows.uptoBulk Rows.uptoBulkAll where
 nil:=by simp[Rows.uptoBulkAll]
 cons d r:=by simp[Rows.uptoBulkAll]
 slice e s:=by simp[Rows.uptoBulk]
 agg l:=by simp[Rows.uptoBulk]
 string l:=by simp[Rows.uptoBulk]
theorem nV{H:Type}{l:List (DataW H)}(hk:Rows.uptoSmall H l=true):Rows.uptoBulkAll l<=1048576:=ze hk
def Br(P:Program)(tA tT:TypeId):Bool:=
 (match P.underlying tA with|some (.slice t)=>t == tT|_=>false) &&
 (match P.underlying tT with
  |some (.struct fs)=>match fs.toList.map (·.type) with
   |[a,b,c,d]=>d == tA && (match P.underlying a with|some (.int .i64)=>true|_=>false) && (match P.underlying b with|some (.int .i64)=>true|_=>false) && (match P.underlying c with|some .string=>true|_=>false) && decide (shOf P a=none) && decide (shOf P b=none) && decide (shOf P c=none)
   |_=>false
  |_=>false) && decide (shOf P tT=some 4) && decide (shOf P tA=none)
theorem nW{P:Program}{tA tT:TypeId}(h:Br P tA tT=true):TermTy P tA tT:=by
 unfold Br at h;simp only[Zm,Zz] at h;obtain⟨⟨⟨h1,h2⟩,h3⟩,h4⟩:=h;refine⟨?_,?_⟩
 ·split at h1
  ·rename_i t ht;rw[ht];simp at h1;rw[h1]
  ·cases h1
 ·split at h2
  ·rename_i fs hfs;split at h2
   ·rename_i a b c d hl;simp only[Zm,Zz,beq_iff_eq] at h2;obtain⟨⟨⟨⟨⟨⟨k1,k2⟩,k3⟩,k4⟩,k5⟩,k6⟩,k7⟩:=h2;subst k1;refine⟨fs,a,b,c,hfs,hl,?_,?_,?_,h3,h4,k5,k6,k7⟩
    ·split at k2
     ·assumption
     ·cases k2
    ·split at k3
     ·assumption
     ·cases k3
    ·split at k4
     ·assumption
     ·cases k4
   ·cases h2
  ·cases h2
theorem nX:TermTy Tryz.prog 22 30:=nW (by kernel_rfl)
def VJ:List TypeId:=[2,3,4,5,9,22,30]
theorem closed:uK Tryz.prog VJ=true:=by kernel_rfl
set_option maxRecDepth 100000 in
theorem nY{H:Type}{enc:TypeId × Value->H}{W:World}{base:Nat}{v:Value}{d:DataW H}{ps:List MemPlace}(h:DataW.Trod enc Tryz.prog W 0 (fun _=>true) true 30 v d ps)(hv:Value.okWide Tryz.prog W .any base 30 v):
  ∃t:Tm,AR W (noX (P:=Tryz.prog)) noμ [] t.av v/\t.size<=Rows.uptoBulk d/\t.rng:=by
 obtain⟨fuel,h0⟩:=h;obtain⟨p,hp⟩:=uN closed fuel _ _ _ _ (by simp[VJ]) h0;obtain⟨t,rfl,h1,h2⟩:=(uP nX (Bp H) fuel).1 d p hp;have:=uH ⟨fuel,h0⟩ (by kernel_rfl) hp (uI hv);rw[show shOf Tryz.prog 30=some 4 from by kernel_rfl] at this;exact⟨t,this,h1,h2⟩
end Go.Proofs.YtffecaafklpmhaaGreat
namespace Go.Proofs.YtffecaafklpmhaaGreat
open Go.Am Go.ChangeShapes Go.WideShapes Go.ChangeAt Go.RowKit
theorem nZ(H:Type):BulkLaws2 (H:=H) Rows.uptoBulk Rows.uptoBulkAll:=
 ⟨Bp H,fun d=>by
  cases d with
  |lit l=>cases l <;> simp[Rows.uptoBulk]
  |_=>simp[Rows.uptoBulk]⟩
set_option maxRecDepth 100000 in
theorem Bs{H:Type}{enc:TypeId × Value->H}{W:World}{base:Nat}{v:Value}{d:DataW H}{ps:List MemPlace}{t:TypeId}(ht:t∈VJ)(hok:okT Tryz.prog t=true)(h:DataW.Trod enc Tryz.prog W 0 (fun _=>true) true t v d ps)(hv:Value.okWide Tryz.prog W .any base t v):
  ∃n p,AR W (noX (P:=Tryz.prog)) noμ [] (.pv (shOf Tryz.prog t) p) v/\wt Tryz.prog n t p/\p.sz<=Rows.uptoBulk d:=by
 obtain⟨fuel,h0⟩:=h;obtain⟨p,hp⟩:=uN closed fuel _ _ _ _ ht h0;obtain⟨h1,h2⟩:=uT (nZ H) fuel _ _ _ hp;exact⟨fuel,p,uH ⟨fuel,h0⟩ hok hp (uI hv),h1,h2⟩
set_option maxRecDepth 100000 in
theorem n8{H:Type}{enc:TypeId × Value->H}{W:World}{base:Nat}{v:Value}{d:DataW H}{ps:List MemPlace}(h:DataW.Trod enc Tryz.prog W 0 (fun _=>true) true 3 v d ps)(hv:Value.okWide Tryz.prog W .any base 3 v):
  ∃x:Int,AR W (noX (P:=Tryz.prog)) noμ [] (O8 x) v/\QC x:=by
 obtain⟨n,p,h1,h2,h3⟩:=Bs (by decide) (by kernel_rfl) h hv;obtain⟨x,rfl,hx⟩:=Mg (by kernel_rfl) h2;rw[show shOf Tryz.prog 3=none from by kernel_rfl] at h1;exact⟨x,h1,hx⟩
set_option maxRecDepth 100000 in
theorem n9{H:Type}{enc:TypeId × Value->H}{W:World}{base:Nat}{v:Value}{d:DataW H}{ps:List MemPlace}(h:DataW.Trod enc Tryz.prog W 0 (fun _=>true) true 9 v d ps)(hv:Value.okWide Tryz.prog W .any base 9 v):
  ∃s:List UInt8,AR W (noX (P:=Tryz.prog)) noμ [] (Oh s) v/\(PV.str s).sz<=Rows.uptoBulk d:=by
 obtain⟨n,p,h1,h2,h3⟩:=Bs (by decide) (by kernel_rfl) h hv;obtain⟨s,rfl⟩:=Mh (by kernel_rfl) h2;rw[show shOf Tryz.prog 9=none from by kernel_rfl] at h1;exact⟨s,h1,h3⟩
end Go.Proofs.YtffecaafklpmhaaGreat
