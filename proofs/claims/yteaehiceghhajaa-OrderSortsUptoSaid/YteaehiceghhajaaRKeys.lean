/- What is proved: the library's compacting drops neighbours that are the same, where the elements show references. -/
import Derived.Test.YteaehiceghhajaaCmp
import Derived.Test.YteaehiceghhajaaAm5
set_option linter.unusedSimpArgs false
set_option linter.unusedVariables false
namespace Go.Proofs.Yteaehiceghhajaa
open Go.Am
theorem zcJ{F:FuncId->Option AFn}{prim:FuncId->Option zbW}{f:FuncId}{fn:AFn}{args:List AV}{hp:Heap}(P:AV->Heap->Prop)(hp0:prim f=none)(hf:F f=some fn)(hm:fn.heapMode=true)(hn:args.length=fn.nparams)
  (h:W (sem F prim) (sloop F prim) 0 fn.code ⟨params 0 args,hp⟩ (endK fn.results P))(hr:fn.rcv=none:=by rfl)(hmo:fn.more=[]:=by rfl):∃v h' H,sem F prim .fn f args hp=some (.ret v,H)/\P v h'/\(H=h'\/(H=h'.take hp.length/\v.refsIn.all (fun q=>decide (q<hp.length))=true)):=by
 have key:∃v h',P v h'/\W (sem F prim) (sloop F prim) 0 fn.code ⟨params 0 args,hp⟩ (endK fn.results (fun v' h1=>v'=v/\h1=h')):=by
  unfold W at h ⊢
  split at h
  ·rename_i e st' he
   cases e with
   |normal=>
    rw[zbJ] at h
    cases hr:zay st' fn.results with
    |none=>rw[hr] at h;exact h.elim
    |some u=>
     rw[hr] at h
     exact⟨u,st'.hp,h,by simp only[zbJ,hr];exact⟨rfl,rfl⟩⟩
   |ret=>
    rw[zdL] at h
    cases hr:zay st' fn.results with
    |none=>rw[hr] at h;exact h.elim
    |some u=>
     rw[hr] at h
     exact⟨u,st'.hp,h,by simp only[zdL,hr];exact⟨rfl,rfl⟩⟩
   |exit i=>exact h.elim
   |panic v=>exact h.elim
  ·exact h.elim
 obtain⟨v,h',hP,hW⟩:=key
 refine⟨v,h',if(v.refsIn.all (fun q=>decide (q<hp.length)) && zcA hp.length hp h')=true then h'.take hp.length else h',?_,hP,?_⟩
 ·exact zey hp0 hf hm hn (zgf hW fun e st he=>zez (fun v' h1 ⟨k1,k2⟩=>⟨k1,by rw[k2]⟩) he) hr hmo
 ·split
  ·rename_i hc
   simp only[Bool.and_eq_true] at hc
   exact .inr ⟨rfl,hc.1⟩
  ·exact .inl rfl
theorem zh3{hp ext:Heap}{r N i:Nat}{xs:List TE}(hr:r<hp.length)(hl:xs.length=N):aload (some 4) (hp.set r (obj xs)++ext) (.epv (some 4) r N i 0)=toE xs[i]? :=by
 rw[<-zc5 hr hl]
 have h:(hp.set r (obj xs)++ext)[r]? =(hp.set r (obj xs))[r]? :=zch (by simpa using hr)
 simp only[aload,h]
theorem zrw{hp ext:Heap}{r N i:Nat}{xs:List TE}{x:TE}(hr:r<hp.length)(hl:xs.length=N)(hi:i<N):zaB (some 4) 0 (hp.set r (obj xs)++ext) [.epv (some 4) r N i 0,eA x]=some (.undef,hp.set r (obj (xs.set i x))++ext):=by
 have h:(hp.set r (obj xs)++ext)[r]? =some (.arv (some 4) (xs.map eA)):=by rw[zch (by simpa using hr)];simp[hr,obj]
 obtain⟨y,hy⟩:∃y,xs[i]? =some y:=⟨_,List.getElem?_eq_getElem (by omega)⟩
 have e:obj (xs.set i x)=.arv (some 4) ((xs.map eA).set i (eA x)):=by simp[obj]
 have e2:∀B,(hp.set r (obj xs)++ext).set r B=hp.set r B++ext:=fun B=>by rw[zh1 (by simpa using hr)];simp
 rw[e]
 simp[zaB,astore,h,zdR,zfq,hl,hy,e2]
def zE:TE:=(.mk 0 0 [] [],none)
theorem zkN{hp ext:Heap}{r N o n:Nat}{xs:List TE}(hr:r<hp.length)(hN:xs.length=N)(hon:o+n=N):ze6 (some 4) (.agg [(none,.int .i64 0),(none,.int .i64 0),(none,.str []),(none,.sl (some 4) [])]) (hp.set r (obj xs)++ext) [.slv (some 4) r N o n]=some (.undef,hp.set r (obj (xs.take o++List.replicate n zE))++ext):=by
 have h:(hp.set r (obj xs)++ext)[r]? =some (.arv (some 4) (xs.map eA)):=by rw[zch (by simpa using hr)];simp[hr,obj]
 have e2:∀B,(hp.set r (obj xs)++ext).set r B=hp.set r B++ext:=fun B=>by rw[zh1 (by simpa using hr)];simp
 have h3:(xs.map eA).drop (o+n)=[]:=List.drop_eq_nil_iff.2 (by simp;omega)
 have hz:eA zE=.pv (some 4) (.agg [(none,.int .i64 0),(none,.int .i64 0),(none,.str []),(none,.sl (some 4) [])]):=rfl
 have e:obj (xs.take o++List.replicate n zE)=.arv (some 4) ((xs.map eA).take o++List.replicate n (.pv (some 4) (.agg [(none,.int .i64 0),(none,.int .i64 0),(none,.str []),(none,.sl (some 4) [])]))):=by
  rw[<-hz];simp[obj,List.map_take]
 simp only[ze6,h]
 rw[if_pos ⟨trivial,by simp[hN],by simp;omega⟩,h3,List.append_nil,e2,e]
theorem zjw{sh s:Sh}{k:IntKind}{r N n h:Nat}(hh:h<=n):zbr sh false true [.slv sh r N 0 n,.pv s (.int k h)]=some (.slv sh r N 0 h):=by
 have h1:(h:Int)<=(n:Int):=by omega
 simp[zbr,aslice,h1]
theorem zfp{sh s:Sh}{k:IntKind}{r N n h:Nat}(hh:h<=n):zbr sh true false [.slv sh r N 0 n,.pv s (.int k h)]=some (.slv sh r N h (n - h)):=by
 have h1:(h:Int)<=(n:Int):=by omega
 simp[zbr,aslice,h1]
theorem zgm{l:List Tm}{j:Nat}{y:Tm}(h:l[j]? =some y):(l.take (j+1)).getLast? =some y:=by
 rw[List.take_add_one,h];simp
theorem zjx{ts:List Tm}{k:Nat}{x y:Tm}(hd:dd (ts.take k)=ts.take k)(hx:ts[k]? =some x)(hy:ts[k - 1]? =some y)(hk:1<=k):dd (ts.take (k+1))=if x.cmp y=0 then ts.take k else ts.take (k+1):=by
 have hlast:(ts.take k).getLast? =some y:=by
  have:=zgm hy
  rwa [show k - 1+1=k by omega] at this
 have htx:ts.take (k+1)=ts.take k++[x]:=by rw[List.take_add_one,hx];rfl
 rw[htx]
 split
 ·rename_i h;rw[zqh hlast h,hd]
 ·rename_i h;rw[zqg hlast h,hd]
section
variable(hp:Heap) (r:Nat) (hr:r<hp.length) (xs:List TE) (ts:List Tm) (hts:ts=xs.map Prod.fst) (N:Nat) (hN:N=xs.length) (hN':N<1000000000)
 (hcl:∀x∈xs,∀y∈xs,∀A ext,S 40 [eA x,eA y] (hp.set r A++ext)=some (.ret (.pv none (.bool (decide (x.1.cmp y.1=0)))),hp.set r A++ext))
include hr hts hN hN' hcl
theorem zh4(k0:Nat)(hk0:1<=k0)(hk:k0<N)(hd:dd (ts.take (k0+1))=ts.take k0)(ext:Heap)
  (fr:Fr)(Q:AExit->St->Prop)
  (hfr:fr.keep [0,1,5,6,7]=[(0,.slv (some 4) r N 0 N),(1,.pv none (.func (.func 40))),(5,.pv none (.int .i64 k0)),(6,.slv (some 4) r N k0 (N - k0)),(7,.pv none (.int .i64 1))])
  (h:∀rest es,es.length=N->(es.take (dd ts).length).map Prod.fst=dd ts->(∀x∈es,x∈xs)->Q (.exit 2) ⟨(0,.slv (some 4) r N 0 N)::(1,.pv none (.func (.func 40)))::(5,.pv none (.int .i64 (dd ts).length))::rest,hp.set r (obj es)++ext⟩):
  W Z L 0 (.loop [0,1,5,6,7] c39b18) ⟨fr,hp.set r (obj xs)++ext⟩ Q:=by
 have hlt0:ts.length=N:=by rw[hts,hN,List.length_map]
 refine zaE (fun n st=>∃(m k:Nat) (es:List TE),n=N - (k0+m)/\1<=m/\k0+m<=N/\k=(dd (ts.take (k0+m))).length/\k<=k0+m - 1/\es.length=N/\(es.take k).map Prod.fst=dd (ts.take (k0+m))/\es.drop (k0+m - 1)=xs.drop (k0+m - 1)/\(∀x∈es,x∈xs)/\st=⟨[(0,.slv (some 4) r N 0 N),(1,.pv none (.func (.func 40))),(5,.pv none (.int .i64 k)),(6,.slv (some 4) r N k0 (N - k0)),(7,.pv none (.int .i64 m))],hp.set r (obj es)++ext⟩) (n:=N - (k0+1)) ⟨1,k0,xs,rfl,Nat.le_refl _,by omega,by rw[hd,List.length_take];omega,by omega,hN.symm,by rw[hd,List.map_take,hts],rfl,fun x hx=>hx,?_⟩ ?_
 ·rw[hfr]
  rfl
 ·rintro n st ⟨m,k,es,hn,hm,hmN,hkl,hkm,hes,htk,hdr,hsub,rfl⟩
  have hget:∀i u,k0+m - 1<=i->xs[i]? =some u->es[i]? =some u:=fun i u hi hu=>by
   have h1:(es.drop (k0+m - 1))[i - (k0+m - 1)]? =es[i]? :=by rw[List.getElem?_drop];congr 1;omega
   rw[<-h1,hdr,List.getElem?_drop,show k0+m - 1+(i - (k0+m - 1))=i by omega]
   exact hu
  by_cases hlt:m<N - k0
  ·have hc:(m:Int)<((N - k0:Nat):Int):=by omega
   obtain⟨x,hx⟩:∃x,xs[k0+m]? =some x:=⟨_,List.getElem?_eq_getElem (by omega)⟩
   obtain⟨y,hy⟩:∃y,xs[k0+(m - 1)]? =some y:=⟨_,List.getElem?_eq_getElem (by omega)⟩
   have hx1:ts[k0+m]? =some x.1:=by rw[hts,List.getElem?_map,hx];rfl
   have hy1:ts[k0+(m - 1)]? =some y.1:=by rw[hts,List.getElem?_map,hy];rfl
   have gx:=hget _ x (by omega) hx
   have gy:=hget _ y (by omega) hy
   have hxm:=List.mem_of_getElem? hx
   have hym:=List.mem_of_getElem? hy
   have hcall:=hcl x hxm y hym
   have hlast:(ts.take (k0+m)).getLast? =some y.1:=by
    have:=zgm hy1
    rwa [show k0+(m - 1)+1=k0+m by omega] at this
   have htx:ts.take (k0+(m+1))=ts.take (k0+m)++[x.1]:=by rw[show k0+(m+1)=k0+m+1 by omega,List.take_add_one,hx1];rfl
   have w1:IntKind.i64.wrap ((m:Int) - 1)=((m - 1:Nat):Int):=by rw[zaj (by omega) (by omega)];omega
   have w2:IntKind.i64.wrap ((m:Int)+1)=((m+1:Nat):Int):=by rw[zaj (by omega) (by omega)];omega
   have w3:IntKind.i64.wrap ((k:Int)+1)=((k+1:Nat):Int):=by rw[zaj (by omega) (by omega)];omega
   have la:m - 1<N - k0:=by omega
   have lk:k<N:=by omega
   by_cases h0:x.1.cmp y.1=0
   ·simp -dsimp -implicitDefEqProofs only[c39b18,go_sem,seval,↓reduceIte,hc,zae hlt,zae la,zh3 hr,za1,hes,gx,gy,hcall,w1,w2,h0]
    refine⟨N - (k0+(m+1)),by omega,m+1,k,es,rfl,by omega,by omega,by rw[htx,zqh hlast h0,hkl],by omega,hes,by rw[htx,zqh hlast h0,htk],?_,hsub,?_⟩
    ·have:=congrArg (List.drop 1) hdr
     rw[List.drop_drop,List.drop_drop] at this
     rwa [show k0+(m+1) - 1=k0+m - 1+1 by omega]
    ·rw[zao (by simp)]
   ·simp -dsimp -implicitDefEqProofs only[c39b18,go_sem,seval,↓reduceIte,hc,zae hlt,zae la,zae lk,zh3 hr,zrw hr,za1,hes,lk,gx,gy,hcall,w1,w2,w3,h0]
    refine⟨N - (k0+(m+1)),by omega,m+1,k+1,es.set k x,rfl,by omega,by omega,by rw[htx,zqg hlast h0,List.length_append,hkl];rfl,by omega,by simp[hes],?_,?_,?_,?_⟩
    ·rw[htx,zqg hlast h0,<-htk,List.take_add_one]
     simp[hes,lk,List.take_set]
     rw[List.set_eq_of_length_le (by rw[List.length_take,List.length_map];omega)]
    ·have:=congrArg (List.drop 1) hdr
     rw[List.drop_drop,List.drop_drop] at this
     rw[List.drop_set,if_pos (by omega)]
     rwa [show k0+(m+1) - 1=k0+m - 1+1 by omega]
    ·intro z hz
     rcases List.mem_or_eq_of_mem_set hz with h|h
     ·exact hsub z h
     ·rw[h];exact hxm
    ·rw[zao (by simp)]
  ·have hc:¬(m:Int)<((N - k0:Nat):Int):=by omega
   have hfull:ts.take (k0+m)=ts:=List.take_of_length_le (by omega)
   rw[hfull] at hkl htk
   simp -dsimp -implicitDefEqProofs only[c39b18,go_sem,seval,↓reduceIte,hc]
   rw[hkl] at htk ⊢
   exact h _ es hes htk hsub
def CmF(es:List TE):Prop:=es.length=N/\(es.take (dd ts).length).map Prod.fst=dd ts/\(∀x∈es,x∈xs\/x=zE)/\∀x∈es.take (dd ts).length,x∈xs
theorem zmJ:∃es ext,CmF xs ts N es/\S 39 [.slv (some 4) r N 0 N,.pv none (.func (.func 40))] (hp.set r (obj xs))=some (.ret (.slv (some 4) r N 0 (dd ts).length),hp.set r (obj es)++ext):=by
 have hlt0:ts.length=N:=by rw[hts,hN,List.length_map]
 have hsl:(hp.set r (obj xs)).length=hp.length:=by simp
 suffices hS:∃v h' H,S 39 [.slv (some 4) r N 0 N,.pv none (.func (.func 40))] (hp.set r (obj xs))=some (.ret v,H)/\(v=.slv (some 4) r N 0 (dd ts).length/\∃es ext,CmF xs ts N es/\h'=hp.set r (obj es)++ext)/\(H=h'\/(H=h'.take (hp.set r (obj xs)).length/\v.refsIn.all (fun q=>decide (q<(hp.set r (obj xs)).length))=true)) by
  obtain⟨v,h',H,h1,⟨rfl,es,ext,h2,rfl⟩,h3|⟨h3,_⟩⟩:=hS
  ·exact⟨es,ext,h2,by rw[h1,h3]⟩
  ·refine⟨es,[],h2,?_⟩
   rw[h1,h3,List.append_nil,List.take_append_of_le_length (by simp),List.take_of_length_le (by simp)]
 have whole:dd ts=ts->CmF xs ts N xs:=fun h=>⟨hN.symm,by rw[h,hlt0,hN,List.take_length,hts],fun x hx=>.inl hx,fun x hx=>List.mem_of_mem_take hx⟩
 refine zcJ _ rfl rfl rfl rfl ?_
 by_cases h2:N<2
 ·have hc:(N:Int)<2:=by omega
  simp -dsimp -implicitDefEqProofs only[c39b18,go_sem,seval,↓reduceIte,zba (sh:=some 4) (by decide),hc]
  have hdd:dd ts=ts:=by
   match ts,hlt0 with
   |[],_=>rfl
   |[x],_=>rfl
   |_::_::_,h=>simp at h;omega
  exact⟨by rw[hdd,hlt0],xs,_,whole hdd,rfl⟩
 ·have hc:¬(N:Int)<2:=by omega
  simp -dsimp -implicitDefEqProofs only[c39b18,go_sem,seval,↓reduceIte,zba (sh:=some 4) (by decide),hc]
  refine zaE (fun n st=>∃k:Nat,n=N - k/\1<=k/\k<=N/\dd (ts.take k)=ts.take k/\st=⟨[(0,.slv (some 4) r N 0 N),(1,.pv none (.func (.func 40))),(5,.pv none (.int .i64 k))],hp.set r (obj xs)++[.arr (some 4) [] false]⟩) (n:=N - 1) ⟨1,rfl,Nat.le_refl _,by omega,?_,?_⟩ ?_
  ·match ts,hlt0 with
   |x::l,_=>rfl
   |[],h=>simp at h;omega
  ·simp -dsimp -implicitDefEqProofs only[go_sem,seval,↓reduceIte]
   try rfl
  ·rintro n st ⟨k,hn,hk,hkN,hd,rfl⟩
   by_cases hlt:k<N
   ·have hc:(k:Int)<(N:Int):=by omega
    obtain⟨x,hx⟩:∃x,xs[k]? =some x:=⟨_,List.getElem?_eq_getElem (by omega)⟩
    obtain⟨y,hy⟩:∃y,xs[k - 1]? =some y:=⟨_,List.getElem?_eq_getElem (by omega)⟩
    have hx1:ts[k]? =some x.1:=by rw[hts,List.getElem?_map,hx];rfl
    have hy1:ts[k - 1]? =some y.1:=by rw[hts,List.getElem?_map,hy];rfl
    have hxm:=List.mem_of_getElem? hx
    have hym:=List.mem_of_getElem? hy
    have hcall:=hcl x hxm y hym
    have hstep:=zjx hd hx1 hy1 hk
    have hlen:=hN.symm
    have w1:IntKind.i64.wrap ((k:Int) - 1)=((k - 1:Nat):Int):=by rw[zaj (by omega) (by omega)];omega
    have w2:IntKind.i64.wrap ((k:Int)+1)=((k+1:Nat):Int):=by rw[zaj (by omega) (by omega)];omega
    have la:k - 1<N:=by omega
    by_cases h0:x.1.cmp y.1=0
    ·rw[if_pos h0] at hstep
     simp -dsimp -implicitDefEqProofs only[go_sem,seval,↓reduceIte,hc,zae hlt,zae la,zh3 hr,za1,hlen,hx,hy,hcall,w1,w2,h0,zfp hkN]
     refine zh4 hp r hr xs ts hts N hN hN' hcl k hk hlt hstep _ _ _ rfl fun rest es hes htk hsub=> ?_
     have hdl:(dd ts).length<=N:=by rw[<-hlt0];exact zeB ts
     simp -dsimp -implicitDefEqProofs only[c39b18,go_sem,seval,↓reduceIte,zfp hdl,zjw hdl,zkN hr hes (show(dd ts).length+(N - (dd ts).length)=N by omega)]
     have hl1:(es.take (dd ts).length).length=(dd ts).length:=by rw[List.length_take];omega
     refine⟨_,_,⟨by simp[hes];omega,?_,?_,?_⟩,rfl⟩
     ·rw[List.take_left' hl1,htk]
     ·intro z hz
      rcases List.mem_append.1 hz with h|h
      ·exact .inl (hsub z (List.mem_of_mem_take h))
      ·exact .inr (List.eq_of_mem_replicate h)
     ·intro z hz
      rw[List.take_left' hl1] at hz
      exact hsub z (List.mem_of_mem_take hz)
    ·rw[if_neg h0] at hstep
     simp -dsimp -implicitDefEqProofs only[c39b18,go_sem,seval,↓reduceIte,hc,zae hlt,zae la,zh3 hr,za1,hlen,hx,hy,hcall,w1,w2,h0]
     refine⟨N - (k+1),by omega,k+1,rfl,by omega,by omega,hstep,?_⟩
     rw[zao (by simp)]
   ·have hc:¬(k:Int)<(N:Int):=by omega
    have hdd:dd ts=ts:=by rwa [List.take_of_length_le (by omega)] at hd
    simp -dsimp -implicitDefEqProofs only[c39b18,go_sem,seval,↓reduceIte,hc]
    exact⟨by rw[hdd,hlt0],xs,_,whole hdd,rfl⟩
end
theorem zbn{α:Type}(l r:List α)(k:Nat):(l++r)[l.length+k]? =r[k]? :=by
 rw[List.getElem?_append_right (by omega)];congr 1;omega
theorem zb6{α:Type}(l r:List α):(l++r)[l.length]? =r[0]? :=zbn l r 0
theorem zcY{α:Type}(l r:List α)(k:Nat)(x:α):(l++r).set (l.length+k) x=l++r.set k x:=by
 rw[List.set_append_right _ _ (by omega)];congr 2;omega
theorem zdQ{α:Type}(l r:List α)(x:α):(l++r).set l.length x=l++r.set 0 x:=zcY l r 0 x
theorem zqj(t:Tm)(hp:Heap):S 69 [t.av] hp=some (.ret t.av,hp):=by
 refine zap rfl rfl rfl (zab [(some 4,t.pv)]) rfl ?_
 (repeat' (first|(simp -dsimp -implicitDefEqProofs only[go_sem,seval,↓reduceIte,Tm.av, *])|(refine zas (fun _=> ?_) (fun _=> ?_))))
theorem zkM(s s0:Sh)(r v o n:Nat)(l:List (Sh × AV))(hp:Heap):zam ((s,.sl s0 r v o n)::l) hp=zgg (s,.sl s0 r v o n) (zam l hp):=rfl
theorem zmI{Γ:Oracle}{b:Nat}{vs:List AV}{hp:Heap}{K:AV->Heap->Prop}{Kp:PV->Heap->Prop}(sh:Sh)(n:Nat):opK (aOp Γ b (.bslicen sh n) vs hp) K Kp=zbZ (zbi sh hp (vs.drop n)) (fun v hp'=>(vs.take n).all (zb9 hp hp')=true/\K v hp'):=by
 simp only[aOp,zea]
 cases zbi sh hp (vs.drop n) with
 |none=>rfl
 |some r=>
  obtain⟨v,hp'⟩:=r
  simp only[opK,zbZ]
  split
  ·rename_i h;split at h
   ·cases h;simp[*]
   ·cases h
  ·rename_i h;split at h <;> cases h
  ·rename_i h;split at h
   ·cases h
   ·simp[*]
def ClR(t:Tm)(v:AV)(lo:Nat)(H:Heap):Prop:=(t.args=[]/\v=eA (t,none))\/∃q,lo<=q/\v=eA (t,some q)/\H[q]? =some (.arr (some 4) (Tm.pvs t.args) false)
theorem zgl(t:Tm)(q:Nat)(H:Heap){z:Bool}(h:H[q]? =some (.arr (some 4) (Tm.pvs t.args) z)):AV.freeze deep (eA (t,some q)) H=some (t.pv,H.set q (.arr (some 4) (Tm.pvs t.args) true)):=by
 have e:∀l hp,AV.freeze (7+1) (.agg l) hp=match AV.freeze.go 7 l hp with|some (ps,hp')=>some (.agg ps,hp')|none=>none:=fun _ _=>rfl
 cases t with
 |mk k n s ts=>
  show AV.freeze (7+1) (.agg _) _=_
  simp only[Tm.args] at h
  simp[e,AV.freeze.go,AV.freeze,h,Tm.kind,Tm.n,Tm.name,Tm.args,Tm.pvs_len,Tm.pv]
theorem ClR.freeze{t:Tm}{v:AV}{base e:Heap}(h:ClR t v base.length (base++e)):∃e2,AV.freeze deep v (base++e)=some (t.pv,base++e2):=by
 rcases h with⟨_,rfl⟩|⟨q,hq,rfl,hH⟩
 ·exact⟨e,rfl⟩
 ·refine⟨e.set (q - base.length) (.arr (some 4) (Tm.pvs t.args) true),?_⟩
  rw[zgl t q _ hH,List.set_append_right _ _ hq]
theorem zfo{n b:Nat}{fr:Fr}{base j:Heap}(h:base.length<=n):∃j',collect n b fr (base++j)=base++j':=by
 unfold collect
 split
 ·exact⟨j.take (n - base.length),by rw[List.take_append,List.take_of_length_le h]⟩
 ·exact⟨j,rfl⟩
def appH(n:Nat)(t:Tm)(i k:Nat):Heap:=[.box (some 4) (.pv (some 4) t.pv),.box (some 4) (.agg [(none,.pv none (.int .i64 0)),(none,.pv none (.int .i64 0)),(none,.pv none (.str [])),(none,.sl (some 4) (n+2) 0 0 0)]),.arr (some 4) [] false,.box (some 4) (.agg [(none,.pv none (.int .i64 t.kind)),(none,.pv none (.int .i64 t.n)),(none,.pv none (.str t.name)),(none,.sl (some 4) (n+5) i 0 i)]),.arr (some 4) [] false,.arr (some 4) (Tm.pvs (t.args.take k)) false]
theorem zoN{hp hp':Heap}{r o q i:Nat}{t:Tm}(h:hp[r]? =some (.box (some 4) (.agg [(none,.pv none (.int .i64 t.kind)),(none,.pv none (.int .i64 t.n)),(none,.pv none (.str t.name)),(none,.sl (some 4) q i 0 i)])))(h':hp'[r]? =some (.box (some 4) (.agg [(none,.pv none (.int .i64 t.kind)),(none,.pv none (.int .i64 t.n)),(none,.pv none (.str t.name)),(none,.sl (some 4) q i 0 i)]))):zb9 hp hp' (.ptr r o)=true:=by
 simp[zb9,h,h',AObj.beq,AV.beq,AV.beqc,PV.beq]
theorem zqk:∀(t:Tm) (hp:Heap),t.fits=true->t.size<1000000000->∃v e,S 68 [t.av,.pv none (.func (.func 69))] hp=some (.ret v,hp++e)/\ClR t v hp.length (hp++e):=by
 intro t
 induction t using Tm.zsF with
 |h t ih=>
  intro hp hf ht
  have hts:=t.size_eq
  have hlen:=Tm.zsz t.args
  have h1:=fun hp=>zqj t hp
  simp only[Tm.av] at h1
  by_cases hk:t.kind=0
  ·have ha:t.args=[]:=by
    rw[Tm.fits_eq] at hf
    simp only[Bool.and_eq_true,Tm.node,hk] at hf
    simp at hf
    exact hf.1.2
   refine⟨t.av,[],?_,.inl ⟨ha,rfl⟩⟩
   rw[List.append_nil]
   refine zgh rfl rfl rfl rfl rfl ?_
   have hk':=eq_true hk
   simp -dsimp -implicitDefEqProofs only[go_sem,seval,↓reduceIte,Tm.av,zaK,hk',h1,List.append_assoc,zbn,zb6,zcY,zdQ,Nat.add_assoc,List.length_append]
   exact⟨zd6 _ _ _,List.take_left⟩
  ·obtain⟨PP,hPP⟩:∃PP:Nat->Heap->Heap,PP=fun i j=>hp++(appH hp.length t i i++j):=⟨_,rfl⟩
   obtain⟨QQ,hQQ⟩:∃QQ:Nat->Heap->Heap,QQ=fun i j=>hp++(appH hp.length t i (i+1)++j):=⟨_,rfl⟩
   suffices hS:∃v h' H,S 68 [t.av,.pv none (.func (.func 69))] hp=some (.ret v,H)/\(v=eA (t,some (hp.length+5))/\∃e,h'=hp++e/\(hp++e)[hp.length+5]? =some (.arr (some 4) (Tm.pvs t.args) false))/\(H=h'\/(H=h'.take hp.length/\v.refsIn.all (fun q=>decide (q<hp.length))=true)) by
    obtain⟨v,h',H,k1,⟨rfl,e,rfl,k2⟩,k3⟩:=hS
    rcases k3 with rfl|⟨_,k3⟩
    ·exact⟨_,e,k1,.inr ⟨_,by omega,rfl,k2⟩⟩
    ·exfalso
     have k4:=List.all_eq_true.1 k3 (hp.length+5) (by simp[eA,AV.refsIn,AV.refsIn.go])
     have:=of_decide_eq_true k4
     omega
   refine zcJ _ rfl rfl rfl rfl ?_
   have hk':=eq_false hk
   have hb:zdW [(none,.pv none (.int .i64 0)),(none,.pv none (.int .i64 0)),(none,.pv none (.str [])),(none,.tsl (some 4) [])] [0,1,2] [.pv none (.int .i64 t.kind),.pv none (.int .i64 t.n),.pv none (.str t.name)]=some (.agg [(none,.pv none (.int .i64 t.kind)),(none,.pv none (.int .i64 t.n)),(none,.pv none (.str t.name)),(none,.tsl (some 4) [])]):=rfl
   simp -dsimp -implicitDefEqProofs only[go_sem,seval,↓reduceIte,Tm.av,zaK,zdm,zaN,zag,hk',Tm.pvs_len,hb,zbm (Nat.zero_le _),List.append_assoc,zbn,zb6,zcY,zdQ,Nat.add_assoc,List.length_append]
   have hP0:hp++[.box (some 4) (.pv (some 4) t.pv),.box (some 4) (.agg [(none,.pv none (.int .i64 0)),(none,.pv none (.int .i64 0)),(none,.pv none (.str [])),(none,.sl (some 4) (hp.length+2) 0 0 0)]),.arr (some 4) [] false,.box (some 4) (.agg [(none,.pv none (.int .i64 t.kind)),(none,.pv none (.int .i64 t.n)),(none,.pv none (.str t.name)),(none,.sl (some 4) (hp.length+5) 0 0 0)]),.arr (some 4) [] false,.arr (some 4) [] false]=PP 0 []:=by rw[hPP];rfl
   have hPl:∀i j,(PP i j).length=hp.length+(j.length+6):=fun i j=>by rw[hPP];simp[appH]
   have hPb:∀i,PP i []=hp++appH hp.length t i i:=fun i=>by rw[hPP];simp
   have hPj:∀i j,PP i j=PP i []++j:=fun i j=>by rw[hPP];simp
   have hP3:∀i j,(PP i j)[hp.length+3]? =some (.box (some 4) (.agg [(none,.pv none (.int .i64 t.kind)),(none,.pv none (.int .i64 t.n)),(none,.pv none (.str t.name)),(none,.sl (some 4) (hp.length+5) i 0 i)])):=fun i j=>by rw[hPP];exact zbn _ _ 3
   have hgP:∀i j k,(PP i j)[hp.length+(k+6)]? =j[k]? :=fun i j k=>by rw[hPP];exact zbn _ _ (k+6)
   have hsP:∀i j k x,(PP i j).set (hp.length+(k+6)) x=PP i (j.set k x):=fun i j k x=>by rw[hPP];exact zcY _ _ (k+6) x
   have f1:∀i j,zbD (some 4) (.agg [(none,.pv none (.int .i64 0)),(none,.pv none (.int .i64 0)),(none,.pv none (.str [])),(none,.tsl (some 4) [])]) (PP i j) []=some (.ptr (hp.length+(j.length+6)) 0,PP i (j++[.box (some 4) (.agg [(none,.pv none (.int .i64 0)),(none,.pv none (.int .i64 0)),(none,.pv none (.str [])),(none,.sl (some 4) (hp.length+(j.length+6)+1) 0 0 0)]),.arr (some 4) [] false])):=fun i j=>by
    have h1:∀x y:AObj,PP i (j++[x,y])=PP i j++[x,y]:=fun x y=>by rw[hPj i (j++[x,y]),hPj i j];simp
    rw[h1]
    simp[zbD,AV.plain,AV.shp,AV.own,zam,total,Sh.size,hPl]
   have f2:∀i j v a p,zaB (some 4) 0 (PP i (j++[.box (some 4) v,a])) [.ptr (hp.length+(j.length+6)) 0,.pv (some 4) p]=some (.undef,PP i (j++[.box (some 4) (.pv (some 4) p),a])):=fun i j v a p=>by
    simp[zaB,astore,hgP,hsP,AV.plain,AV.shp,AV.own]
   have f3:∀i j v a,aload (some 4) (PP i (j++[.box (some 4) v,a])) (.ptr (hp.length+(j.length+6)) 0)=some v:=fun i j v a=>by
    simp[aload,hgP]
   have f4:∀i j,aload none (PP i j) (.ptr (hp.length+3) 3)=some (.sl (some 4) (hp.length+5) i 0 i):=fun i j=>by
    simp only[aload,hP3]
    rfl
   have f5:∀i j j',zb9 (PP i j) (PP i j') (.ptr (hp.length+3) 3)=true:=fun i j j'=>zoN (t:=t) (q:=hp.length+5) (i:=i) (hP3 _ _) (hP3 _ _)
   have f6:∀i j p,i<t.args.length->t.args[i]? =some p->za8 (some 4) (PP i j) [.sl (some 4) (hp.length+5) i 0 i,.tsl (some 4) [p.pv]]=some (.sl (some 4) (hp.length+5) (i+1) 0 (i+1),QQ i j):=fun i j p hi hp'=>by
    have hg:(PP i j)[hp.length+5]? =some (.arr (some 4) (Tm.pvs (t.args.take i)) false):=by rw[hPP];exact zbn _ _ 5
    have hl:(Tm.pvs (t.args.take i)).length=i:=by rw[Tm.pvs_len,List.length_take];omega
    have hlim:i+1<=lim:=by unfold lim;omega
    have hse:(PP i j).set (hp.length+5) (.arr (some 4) (Tm.pvs (t.args.take i)++[p.pv]) false)=QQ i j:=by
     rw[hPP,hQQ,Tm.zsD hp']
     exact zcY _ _ 5 _
    simp[za8,aappend,elems,hg,hl,hlim,hse]
   have f7:∀i j,zaB none 0 (QQ i j) [.ptr (hp.length+3) 3,.sl (some 4) (hp.length+5) (i+1) 0 (i+1)]=some (.undef,PP (i+1) j):=fun i j=>by
    have hg:(QQ i j)[hp.length+3]? =some (.box (some 4) (.agg [(none,.pv none (.int .i64 t.kind)),(none,.pv none (.int .i64 t.n)),(none,.pv none (.str t.name)),(none,.sl (some 4) (hp.length+5) i 0 i)])):=by rw[hQQ];exact zbn _ _ 3
    have hse:(QQ i j).set (hp.length+3) (.box (some 4) (.agg [(none,.pv none (.int .i64 t.kind)),(none,.pv none (.int .i64 t.n)),(none,.pv none (.str t.name)),(none,.sl (some 4) (hp.length+5) (i+1) 0 (i+1))]))=PP (i+1) j:=by
     rw[hPP,hQQ]
     exact zcY _ _ 3 _
    have hup:AV.upd deep (.agg [(none,.pv none (.int .i64 t.kind)),(none,.pv none (.int .i64 t.n)),(none,.pv none (.str t.name)),(none,.sl (some 4) (hp.length+5) i 0 i)]) 3 none (.sl (some 4) (hp.length+5) (i+1) 0 (i+1))=some (.agg [(none,.pv none (.int .i64 t.kind)),(none,.pv none (.int .i64 t.n)),(none,.pv none (.str t.name)),(none,.sl (some 4) (hp.length+5) (i+1) 0 (i+1))]):=rfl
    simp[zaB,astore,hg,AV.plain,AV.shp,AV.own,hup,hse]
   rw[hP0]
   refine zqf (α:=Heap) t.args.length (fun _ _=>True) (fun i j=>⟨[(1,.pv none (.func (.func 69))),(4,.ptr (hp.length+1) 0),(5,.ptr (hp.length+3) 0),(22,.pv none (.sl (some 4) (Tm.pvs t.args))),(23,.pv none (.int .i64 t.args.length)),(24,.pv none (.int .i64 i))],PP i j⟩) [] ⟨trivial,rfl⟩ ?_ ?_
   ·rintro i j h -
    have hc:(i:Int)<(t.args.length:Int):=by omega
    obtain⟨u,hu⟩:∃u,t.args[i]? =some u:=⟨_,List.getElem?_eq_getElem h⟩
    have hum:=List.mem_of_getElem? hu
    have husz:=Tm.zsE hum
    have w2:IntKind.i64.wrap ((i:Int)+1)=((i+1:Nat):Int):=by rw[zaj (by omega) (by omega)];omega
    obtain⟨v,e,hcall,hcr⟩:=ih u hum (PP i (j++[.box (some 4) (.pv (some 4) u.pv),.arr (some 4) [] false])) (Tm.zsC hf hum) (by omega)
    obtain⟨e2,hfz⟩:=hcr.freeze
    have hvs:v.shp=some 4:=by rcases hcr with⟨_,rfl⟩|⟨q,_,rfl,_⟩ <;> exact zfq _
    have e3:∀x,PP i (j++[.box (some 4) (.pv (some 4) u.pv),.arr (some 4) [] false])++x=PP i (j++[.box (some 4) (.pv (some 4) u.pv),.arr (some 4) [] false]++x):=fun x=>by rw[hPj i (j++_),hPj i (j++_++x)];simp
    rw[e3] at hcall hfz
    rw[e3] at hfz
    have hbs:zbi (some 4) (PP i (j++[.box (some 4) (.pv (some 4) u.pv),.arr (some 4) [] false]++e)) [v]=some (.tsl (some 4) [u.pv],PP i (j++[.box (some 4) (.pv (some 4) u.pv),.arr (some 4) [] false]++e2)):=by
     simp only[zbi,zal,hfz,hvs,za0,if_true]
    simp only[Tm.av] at hcall
    have g6:=fun j=>f6 i j u h hu
    obtain⟨j',hj'⟩:=zfo (n:=(PP 0 []).length) (b:=0) (fr:=[(1,.pv none (.func (.func 69))),(4,.ptr (hp.length+1) 0),(5,.ptr (hp.length+3) 0),(22,.pv none (.sl (some 4) (Tm.pvs t.args))),(23,.pv none (.int .i64 t.args.length)),(24,.pv none (.int .i64 ((i+1:Nat):Int)))]) (base:=PP (i+1) []) (j:=j++[.box (some 4) (.pv (some 4) u.pv),.arr (some 4) [] false]++e2) (Nat.le_of_eq (by rw[hPl,hPl]))
    rw[<-hPj,<-hPj] at hj'
    simp -dsimp -implicitDefEqProofs only[go_sem,seval,↓reduceIte,hc,zad (Tm.pvs_get hu),f1,f2,f3,f4,f5,g6,f7,zmI,List.take_succ_cons,List.drop_succ_cons,List.all_cons,List.all_nil,hcall,hbs,w2]
    first|exact⟨j',by rw[<-hj']⟩|exact⟨j',trivial,by rw[<-hj']⟩
   ·rintro j -
    have hc:¬(t.args.length:Int)<(t.args.length:Int):=by omega
    have hl:aload (some 4) (PP t.args.length j) (.ptr (hp.length+3) 0)=some (eA (t,some (hp.length+5))):=by
     simp only[aload,hP3]
     rfl
    have hs:∃e,zaB (some 4) 0 (PP t.args.length j) [.ptr (hp.length+1) 0,eA (t,some (hp.length+5))]=some (.undef,hp++e)/\(hp++e)[hp.length+5]? =some (.arr (some 4) (Tm.pvs t.args) false)/\(hp++e)[hp.length+1]? =some (.box (some 4) (eA (t,some (hp.length+5)))):=by
     have hg:(PP t.args.length j)[hp.length+1]? =some (.box (some 4) (.agg [(none,.pv none (.int .i64 0)),(none,.pv none (.int .i64 0)),(none,.pv none (.str [])),(none,.sl (some 4) (hp.length+2) 0 0 0)])):=by rw[hPP];exact zbn _ _ 1
     refine⟨(appH hp.length t t.args.length t.args.length++j).set 1 (.box (some 4) (eA (t,some (hp.length+5)))),?_,?_,?_⟩
     ·have ho:∀H,(eA (t,some (hp.length+5))).own H=(eA (t,some (hp.length+5)),H):=fun H=>rfl
      have hse:(PP t.args.length j).set (hp.length+1) (.box (some 4) (eA (t,some (hp.length+5))))=hp++(appH hp.length t t.args.length t.args.length++j).set 1 (.box (some 4) (eA (t,some (hp.length+5)))):=by rw[hPP];exact zcY _ _ 1 _
      simp[zaB,astore,hg,zdR,zfq,ho,hse]
     ·rw[zbn]
      simp[appH]
     ·rw[zbn]
      simp[appH]
    obtain⟨e,hs1,hs2,hs3⟩:=hs
    have hl2:aload (some 4) (hp++e) (.ptr (hp.length+1) 0)=some (eA (t,some (hp.length+5))):=zoJ hs3
    simp -dsimp -implicitDefEqProofs only[go_sem,seval,↓reduceIte,hc,hl,hs1,hl2]
    first|exact⟨e,rfl,hs2⟩|exact⟨trivial,e,rfl,hs2⟩
def zak(l:List Tm):Bool:=l.all Tm.valid
theorem zc0{l:List Tm}{i:Nat}{t:Tm}(h:l[i]? =some t):zak (l.take (i+1))=(zak (l.take i) && t.valid):=by
 unfold zak
 rw[List.take_add_one,h,List.all_append]
 simp
theorem zcy{l:List Tm}{t:Tm}(h:t∈l)(hv:t.valid=false):zak l=false:=by
 unfold zak
 rw[List.all_eq_false]
 exact⟨t,h,by simp[hv]⟩

theorem zpb(l:List Tm)(hl:Tm.sizes l<1000000000):S 41 [.pv none (.sl (some 4) (Tm.pvs l))] []=some (.ret (.pv none (.bool (zak l))),[]):=by
 refine zap rfl rfl rfl (zab [(none,.sl (some 4) (Tm.pvs l))]) rfl ?_
 have hlen:=Tm.zsz l
 simp -dsimp -implicitDefEqProofs only[go_sem,seval,↓reduceIte,Tm.pvs_len]
 refine zaE (fun n st=>∃i:Nat,n=l.length - i/\i<=l.length/\zak (l.take i)=true/\st=⟨[(5,.pv none (.sl (some 4) (Tm.pvs l))),(6,.pv none (.int .i64 (l.length:Int))),(7,.pv none (.int .i64 i))],[]⟩) (n:=l.length) ⟨0,rfl,Nat.zero_le _,rfl,?_⟩ ?_
 ·simp -dsimp -implicitDefEqProofs only[go_sem,seval,↓reduceIte]
  try rfl
 ·rintro n st ⟨i,hn,hi,he,rfl⟩
  by_cases h:i<l.length
  ·have hc:(i:Int)<(l.length:Int):=by omega
   obtain⟨u,hu⟩:∃u,l[i]? =some u:=⟨_,List.getElem?_eq_getElem h⟩
   have hum:=List.mem_of_getElem? hu
   have husz:=Tm.zsA hum
   have hcall:=fun hp=>zly u hp (by omega)
   simp only[Tm.av] at hcall
   have w2:IntKind.i64.wrap ((i:Int)+1)=((i+1:Nat):Int):=by rw[zaj (by omega) (by omega)];omega
   by_cases h0:u.valid=true
   ·simp -dsimp -implicitDefEqProofs only[go_sem,seval,↓reduceIte,Tm.pvs_len,hc,zad (Tm.pvs_get hu),hcall,w2,h0]
    exact⟨l.length - (i+1),by omega,i+1,rfl,by omega,by rw[zc0 hu,he,h0];rfl,rfl⟩
   ·rw[Bool.not_eq_true] at h0
    simp -dsimp -implicitDefEqProofs only[go_sem,seval,↓reduceIte,Tm.pvs_len,hc,zad (Tm.pvs_get hu),hcall,w2,h0,zcy hum h0]
  ·have hc:¬(i:Int)<(l.length:Int):=by omega
   obtain rfl:i=l.length:=by omega
   rw[List.take_length] at he
   simp -dsimp -implicitDefEqProofs only[go_sem,seval,↓reduceIte,Tm.pvs_len,hc,he]
theorem ze3(l:List Tm)(hl:Tm.sizes l<1000000000)(hp:Heap):S 41 [.pv none (.sl (some 4) (Tm.pvs l))] hp=some (.ret (.pv none (.bool (zak l))),hp):=
 zdp (ps:=[(none,.sl (some 4) (Tm.pvs l))]) rfl rfl rfl rfl (zpb l hl)
theorem zar{l:List Tm}(h:zak l=true){t:Tm}(ht:t∈l):t.valid=true:=List.all_eq_true.1 h t ht
theorem Tm.valid_fits{t:Tm}(h:t.valid=true):t.fits=true:=by
 unfold Tm.valid at h
 simp only[Bool.and_eq_true] at h
 exact h.2
theorem zqr(t:Tm)(hp:Heap)(hv:t.valid=true)(ht:t.size<1000000000):∃v e,S 59 [t.av] hp=some (.ret v,hp++e)/\ClR t v hp.length (hp++e):=by
 suffices hS:∃v h' H,S 59 [t.av] hp=some (.ret v,H)/\(∃e,h'=hp++e/\ClR t v hp.length (hp++e))/\(H=h'\/(H=h'.take hp.length/\v.refsIn.all (fun q=>decide (q<hp.length))=true)) by
  obtain⟨v,h',H,k1,⟨e,rfl,k2⟩,k3⟩:=hS
  rcases k3 with rfl|⟨rfl,k3⟩
  ·exact⟨v,e,k1,k2⟩
  ·refine⟨v,[],by rw[List.append_nil,k1,List.take_left],?_⟩
   rcases k2 with h|⟨q,hq,rfl,_⟩
   ·exact .inl h
   ·exfalso
    have k4:=List.all_eq_true.1 k3 q (by simp[eA,AV.refsIn,AV.refsIn.go])
    have:=of_decide_eq_true k4
    omega
 have h1:=fun hp=>zly t hp ht
 obtain⟨v,e,h2,h3⟩:=zqk t (hp++[.box (some 4) (.pv (some 4) t.pv),.box (some 4) (.agg [(none,.pv none (.int .i64 0)),(none,.pv none (.int .i64 0)),(none,.pv none (.str [])),(none,.sl (some 4) (hp.length+2) 0 0 0)]),.arr (some 4) [] false]) (Tm.valid_fits hv) ht
 have hsh:v.shp=some 4/\v.plain=true/\∀H,v.own H=(v,H):=by rcases h3 with⟨_,rfl⟩|⟨q,_,rfl,_⟩ <;> exact⟨zfq _,zdR _,fun H=>rfl⟩
 obtain⟨g1,g2,g3⟩:=hsh
 rw[hv] at h1
 simp only[Tm.av,List.append_assoc,List.cons_append,List.nil_append] at h1 h2
 have hst:zaB (some 4) 0 (hp++(.box (some 4) (.pv (some 4) t.pv)::.box (some 4) (.agg [(none,.pv none (.int .i64 0)),(none,.pv none (.int .i64 0)),(none,.pv none (.str [])),(none,.sl (some 4) (hp.length+2) 0 0 0)])::.arr (some 4) [] false::e)) [.ptr (hp.length+1) 0,v]=some (.undef,hp++(.box (some 4) (.pv (some 4) t.pv)::.box (some 4) v::.arr (some 4) [] false::e)):=by
  simp[zaB,astore,g1,g2,g3,zbn,zcY]
 refine zcJ _ rfl rfl rfl rfl ?_
 simp -dsimp -implicitDefEqProofs only[go_sem,seval,↓reduceIte,Tm.av,h1,h2,hst,zbm (Nat.zero_le _),List.append_assoc,zbn,zb6,zcY,zdQ,Nat.add_assoc,List.length_append]
 refine⟨_,rfl,?_⟩
 rcases h3 with h|⟨q,hq,rfl,hH⟩
 ·exact .inl h
 ·simp only[List.length_append,List.length_cons,List.length_nil] at hq
  refine .inr ⟨q,by omega,rfl,?_⟩
  obtain⟨k,rfl⟩:∃k,q=hp.length+(k+3):=⟨q - hp.length - 3,by omega⟩
  rw[List.append_assoc,zbn] at hH
  rw[zbn]
  exact hH
def okW(lo:Nat)(H:Heap)(x:TE):Prop:=match x.2 with
 |none=>x.1.args=[]
 |some q=>lo<=q/\H[q]? =some (.arr (some 4) (Tm.pvs x.1.args) false)
def okE(H:Heap)(x:TE):Prop:=match x.2 with
 |none=>x.1.args=[]
 |some q=>∃z,H[q]? =some (.arr (some 4) (Tm.pvs x.1.args) z)
theorem okW.okE{lo:Nat}{H:Heap}{x:TE}(h:okW lo H x):okE H x:=by
 obtain⟨t,q⟩:=x
 cases q with
 |none=>exact h
 |some q=>exact⟨_,h.2⟩
theorem okW.keep{lo:Nat}{H H':Heap}{x:TE}(h:okW lo H x)(hk:∀q,x.2=some q->H'[q]? =H[q]?):okW lo H' x:=by
 obtain⟨t,q⟩:=x
 cases q with
 |none=>exact h
 |some q=>exact⟨h.1,by rw[hk q rfl];exact h.2⟩
theorem okW.app{lo:Nat}{H:Heap}{x:TE}(h:okW lo H x)(e:Heap):okW lo (H++e) x:=h.keep fun q hq=>by
 obtain⟨t,q'⟩:=x
 cases hq
 exact zch (zcH h.2)
theorem okW.set{lo:Nat}{H:Heap}{x:TE}{r:Nat}{o:AObj}(h:okW lo H x)(hr:∀q,x.2=some q->q≠r):okW lo (H.set r o) x:=h.keep fun q hq=>by
 rw[List.getElem?_set_ne (fun e=>hr q hq e.symm)]
theorem okE.set{H:Heap}{x:TE}{r:Nat}{o:AObj}(h:okE H x)(hr:∀q,x.2=some q->q≠r):okE (H.set r o) x:=by
 obtain⟨t,q⟩:=x
 cases q with
 |none=>exact h
 |some q=>
  obtain⟨z,h⟩:=h
  exact⟨z,by rw[List.getElem?_set_ne (fun e=>hr q rfl e.symm)];exact h⟩
theorem okE.freeze{H:Heap}{x:TE}(h:okE H x):∃H1,AV.freeze deep (eA x) H=some (x.1.pv,H1)/\∀y,okE H y->okE H1 y:=by
 obtain⟨t,q⟩:=x
 cases q with
 |none=>exact⟨H,rfl,fun _ h=>h⟩
 |some q=>
  obtain⟨z,h⟩:=h
  refine⟨_,zgl t q H h,fun y hy=> ?_⟩
  obtain⟨u,p⟩:=y
  cases p with
  |none=>exact hy
  |some p=>
   obtain⟨z',h'⟩:=hy
   by_cases e:p=q
   ·subst e
    have e2:Tm.pvs t.args=Tm.pvs u.args:=by rw[h] at h';simp at h';exact h'.1
    exact⟨true,by rw[List.getElem?_set_self (zcH h),e2]⟩
   ·exact⟨z',by rw[List.getElem?_set_ne (fun k=>e k.symm)];exact h'⟩
theorem zrA{H:Heap}{x y:TE}(hx:okE H x)(hy:okE H y):∃H2,zal [eA x,eA y] H=some ([(some 4,x.1.pv),(some 4,y.1.pv)],H2):=by
 obtain⟨H1,h1,h2⟩:=hx.freeze
 obtain⟨H2,h3,_⟩:=(h2 y hy).freeze
 exact⟨H2,by simp only[zal,h1,h3,zfq]⟩
theorem zrB{g:FuncId}{fn:AFn}{p:PV}(hp0:prim g=none)(hf:find tab g=some fn)(hm:fn.heapMode=false)(hr:fn.rcv=none)(hsc:p.scalar=true){H:Heap}{x y:TE}(hx:okE H x)(hy:okE H y)(h:S g [.pv (some 4) x.1.pv,.pv (some 4) y.1.pv] []=some (.ret (.pv none p),[])):S g [eA x,eA y] H=some (.ret (.pv none p),H):=by
 obtain⟨H2,h2⟩:=zrA hx hy
 have:=zdp (hp2:=[]) hp0 hf hm h2 h hr
 simp only[AV.scalar,hsc,cond_true] at this
 exact this
def SInv(hp:Heap)(r:Nat)(H:Heap)(xs:List TE):Prop:=(∃e,H=hp++e)/\H[r]? =some (obj xs)/\∀x∈xs,okW hp.length H x
theorem zqs{xs:List TE}{x:TE}{q:Nat}(hx:x∈xs)(hq:x.2=some q):q∈(obj xs).refs:=by
 rw[obj,AObj.refs,zaL]
 refine⟨eA x,List.mem_map_of_mem hx,?_⟩
 obtain⟨t,q'⟩:=x
 cases hq
 simp[eA,AV.refsIn,AV.refsIn.go]
theorem SInv.collect{hp H:Heap}{r n:Nat}{xs:List TE}(h:SInv hp r H xs)(hr:r<n)(hn:hp.length<=n)(fr:Fr):SInv hp r (collect n 0 fr H) xs:=by
 unfold Am.collect
 split
 ·rename_i hc
  simp only[Bool.and_eq_true,List.drop_zero] at hc
  obtain⟨⟨e,rfl⟩,h2,h3⟩:=h
  refine⟨⟨e.take (n - hp.length),by rw[List.take_append,List.take_of_length_le hn]⟩,by rw[List.getElem?_take_of_lt hr];exact h2,fun x hx=>(h3 x hx).keep fun q hq=> ?_⟩
  have h4:=List.all_eq_true.1 hc.2 (obj xs) (List.mem_of_getElem? (i:=r) (by rw[List.getElem?_take_of_lt hr];exact h2))
  have h5:=of_decide_eq_true (List.all_eq_true.1 h4 q (zqs hx hq))
  rw[List.getElem?_take_of_lt h5]
 ·exact h
theorem SInv.ne{hp H:Heap}{r:Nat}{xs:List TE}(h:SInv hp r H xs){x:TE}(hx:x∈xs){q:Nat}(hq:x.2=some q):q≠r:=by
 rintro rfl
 have h3:=h.2.2 x hx
 obtain⟨t,q'⟩:=x
 cases hq
 have:=h3.2
 rw[h.2.1] at this
 cases this
def CmpT(cT:Tm->Tm->Int)(g:FuncId)(D:Tm->Prop):Prop:=∀(H:Heap) (x y:TE),D x.1->D y.1->okE H x->okE H y->S g [eA x,eA y] H=some (.ret (.pv none (.int .i64 (cT x.1 y.1))),H)
theorem zo5{α β:Type}(f:α->β)(c:β->β->Int):∀l:List α,(isort (fun x y=>c (f x) (f y)) l).map f=isort c (l.map f):=by
 have hi:∀(x:α) (l:List α),(insC (fun x y=>c (f x) (f y)) x l).map f=insC c (f x) (l.map f):=by
  intro x l
  induction l with
  |nil=>rfl
  |cons y l ih=>
   simp only[insC,List.map_cons]
   split
   ·rfl
   ·simp only[List.map_cons,ih]
 have key:∀n (l:List α),l.length=n->(isort (fun x y=>c (f x) (f y)) l).map f=isort c (l.map f):=by
  intro n
  induction n with
  |zero=>intro l h;rw[List.length_eq_zero_iff.1 h];rfl
  |succ n ih=>
   intro l h
   rcases zbL l with rfl|⟨r,x,rfl⟩
   ·rfl
   ·rw[zeY,hi,ih r (by simp at h;exact h),List.map_append,List.map_cons,List.map_nil,zeY]
 exact fun l=>key _ l rfl
section
variable(cT:Tm->Tm->Int) (hC:Cmp cT) (g:FuncId) (D:Tm->Prop) (hg:CmpT cT g D)
include hC hg
theorem zh7(hp:Heap)(r:Nat)(H:Heap)(xs:List TE)(hS:SInv hp r H xs)(hr0:hp.length<=r)(hl:xs.length<100000000)(hD:∀x∈xs,D x.1):
  ∃H2 ys,S 60 [.slv (some 4) r xs.length 0 xs.length,.pv none (.func (.func g))] H=some (.ret (.tuple []),H2)/\SInv hp r H2 ys/\ys.map Prod.fst=isort cT (xs.map Prod.fst)/\ys.length=xs.length:=by
 have hr:=zcH hS.2.1
 have hH:H=H.set r (obj xs):=by
  have h1:H[r]=obj xs:=(List.getElem?_eq_some_iff.1 hS.2.1).2
  rw[<-h1,List.set_getElem_self]
 have hF:CmpF (fun x y:TE=>cT x.1 y.1) (.pv none (.func (.func g))) (fun x=>x∈xs) H r:=⟨g,[],[],rfl,fun x y hx hy A=>hg _ x y (hD x hx) (hD y hy) ((hS.2.2 x hx).okE.set fun q hq=>hS.ne hx hq) ((hS.2.2 y hy).okE.set fun q hq=>hS.ne hy hq)⟩
 have hcall:=zo6 (fun x y:TE=>cT x.1 y.1) ⟨fun x y=>hC.neg _ _,fun h1 h2=>hC.trans h1 h2⟩ (.pv none (.func (.func g))) (fun x=>x∈xs) H r hF hr xs.length hl xs rfl (fun x hx=>hx)
 have hsl:(H.set r (obj xs)).length=H.length:=by simp
 refine⟨H.set r (obj (isort (fun x y:TE=>cT x.1 y.1) xs)),isort (fun x y:TE=>cT x.1 y.1) xs,?_,⟨?_,?_,?_⟩,zo5 Prod.fst cT xs,zan _⟩
 ·rw[hH,List.set_set]
  refine zdM (by simp) rfl rfl rfl rfl ?_
  simp -dsimp -implicitDefEqProofs only[go_sem,seval,↓reduceIte,hcall]
 ·obtain⟨e,rfl⟩:=hS.1
  exact⟨_,List.set_append_right _ _ hr0⟩
 ·simp[hr]
 ·intro x hx
  have hm:x∈xs:=(za2 xs).mem_iff.1 hx
  exact(hS.2.2 x hm).set fun q hq=>hS.ne hm hq
theorem zjE(hp:Heap)(ts:List Tm)(hv:∀t∈ts,t.valid=true)(hl:Tm.sizes ts<100000000)(hD:∀t∈ts,D t):
  ∃r H ys,S 42 [.pv none (.sl (some 4) (Tm.pvs ts)),.pv none (.func (.func g))] hp=some (.ret (.slv (some 4) r ts.length 0 ts.length),H)/\SInv hp r H ys/\hp.length<=r/\ys.map Prod.fst=isort cT ts:=by
 have hlen:=Tm.zsz ts
 suffices hS:∃v h' H,S 42 [.pv none (.sl (some 4) (Tm.pvs ts)),.pv none (.func (.func g))] hp=some (.ret v,H)/\(v=.slv (some 4) (hp.length+1) ts.length 0 ts.length/\∃ys,SInv hp (hp.length+1) h' ys/\ys.map Prod.fst=isort cT ts)/\(H=h'\/(H=h'.take hp.length/\v.refsIn.all (fun q=>decide (q<hp.length))=true)) by
  obtain⟨v,h',H,k1,⟨rfl,ys,k2,k3⟩,k4⟩:=hS
  rcases k4 with rfl|⟨_,k4⟩
  ·exact⟨_,_,ys,k1,k2,by omega,k3⟩
  ·exfalso
   have k5:=of_decide_eq_true (List.all_eq_true.1 k4 (hp.length+1) (by simp[AV.refsIn]))
   omega
 refine zcJ _ rfl rfl rfl rfl ?_
 have hm:ts.length<=lim:=by unfold lim;omega
 have hmk:zbQ (some 4) (.agg [(none,.pv none (.int .i64 0)),(none,.pv none (.int .i64 0)),(none,.pv none (.str [])),(none,.tsl (some 4) [])]) (hp++[.arr (some 4) [] false]) [.pv none (.int .i64 0),.pv none (.int .i64 ts.length)]=some (.slv (some 4) (hp.length+1) 0 0 0,hp++[.arr (some 4) [] false,obj []]):=by
  have h1:((ts.length:Nat):Int)<=((lim:Nat):Int):=by omega
  simp[zbQ,Sh.size,h1,obj]
 simp -dsimp -implicitDefEqProofs only[go_sem,seval,↓reduceIte,Tm.pvs_len,zba (sh:=some 4) (by decide),hmk]
 refine zaE (fun n st=>∃(i:Nat) (xs:List TE) (H:Heap),n=ts.length - i/\i<=ts.length/\SInv hp (hp.length+1) H xs/\xs.map Prod.fst=ts.take i/\st=⟨[(1,.pv none (.func (.func g))),(5,.slv (some 4) (hp.length+1) i 0 i),(11,.pv none (.sl (some 4) (Tm.pvs ts))),(12,.pv none (.int .i64 ts.length)),(13,.pv none (.int .i64 i))],H⟩) (n:=ts.length) ⟨0,[],hp++[.arr (some 4) [] false,obj []],rfl,Nat.zero_le _,⟨⟨_,rfl⟩,by rw[zbn];rfl,fun x hx=>by cases hx⟩,rfl,?_⟩ ?_
 ·simp -dsimp -implicitDefEqProofs only[go_sem,seval,↓reduceIte]
  try rfl
 ·rintro n st ⟨i,xs,H,hn,hi,hS,hx,rfl⟩
  have hxl:xs.length=i:=by
   have:=congrArg List.length hx
   rw[List.length_map,List.length_take] at this
   omega
  by_cases h:i<ts.length
  ·have hc:(i:Int)<(ts.length:Int):=by omega
   obtain⟨u,hu⟩:∃u,ts[i]? =some u:=⟨_,List.getElem?_eq_getElem h⟩
   have hum:=List.mem_of_getElem? hu
   have husz:=Tm.zsA hum
   have w2:IntKind.i64.wrap ((i:Int)+1)=((i+1:Nat):Int):=by rw[zaj (by omega) (by omega)];omega
   obtain⟨v,e,hcall,hcr⟩:=zqr u (H++[.box (some 4) (.pv (some 4) u.pv),.arr (some 4) [] false]) (hv u hum) (by omega)
   have hsh:v.shp=some 4/\v.plain=true:=by rcases hcr with⟨_,rfl⟩|⟨q,_,rfl,_⟩ <;> exact⟨zfq _,zdR _⟩
   simp only[Tm.av,List.append_assoc] at hcall
   have hal:zbD (some 4) (.agg [(none,.pv none (.int .i64 0)),(none,.pv none (.int .i64 0)),(none,.pv none (.str [])),(none,.tsl (some 4) [])]) H []=some (.ptr H.length 0,H++[.box (some 4) (.agg [(none,.pv none (.int .i64 0)),(none,.pv none (.int .i64 0)),(none,.pv none (.str [])),(none,.sl (some 4) (H.length+1) 0 0 0)]),.arr (some 4) [] false]):=by
    simp[zbD,AV.plain,AV.shp,AV.own,zam,total,Sh.size]
   have hst:zaB (some 4) 0 (H++[.box (some 4) (.agg [(none,.pv none (.int .i64 0)),(none,.pv none (.int .i64 0)),(none,.pv none (.str [])),(none,.sl (some 4) (H.length+1) 0 0 0)]),.arr (some 4) [] false]) [.ptr H.length 0,.pv (some 4) u.pv]=some (.undef,H++[.box (some 4) (.pv (some 4) u.pv),.arr (some 4) [] false]):=by
    simp[zaB,astore,AV.plain,AV.shp,AV.own,zdQ]
   have hld:aload (some 4) (H++[.box (some 4) (.pv (some 4) u.pv),.arr (some 4) [] false]) (.ptr H.length 0)=some (.pv (some 4) u.pv):=by
    simp[aload]

   obtain⟨x,hxv,hx1,hxw⟩:∃x:TE,v=eA x/\x.1=u/\okW H.length (H++([.box (some 4) (.pv (some 4) u.pv),.arr (some 4) [] false]++e)) x:=by
    rcases hcr with⟨k1,rfl⟩|⟨q,k1,rfl,k2⟩
    ·exact⟨_,rfl,rfl,k1⟩
    ·exact⟨_,rfl,rfl,by simp at k1;omega,by rw[<-List.append_assoc];exact k2⟩
   subst hxv
   obtain⟨E,hE⟩:∃E:Heap,E=[AObj.box (some 4) (.pv (some 4) u.pv),.arr (some 4) [] false]++e:=⟨_,rfl⟩
   rw[<-hE] at hcall hxw
   have hrl:=zcH hS.2.1
   have hbs:zdX (some 4) (H++E) [eA x]=some (.slv (some 4) (H++E).length 1 0 1,H++E++[obj [x]]):=by
    simp[zdX,zdR,zfq,Sh.size,obj]
   have hap:zcn (some 4) 0 (H++E++[obj [x]]) [.slv (some 4) (hp.length+1) i 0 i,.slv (some 4) (H++E).length 1 0 1]=some (.slv (some 4) (hp.length+1) (i+1) 0 (i+1),(H++E++[obj [x]]).set (hp.length+1) (obj (xs++[x]))):=by
    have g1:(H++E++[obj [x]])[hp.length+1]? =some (.arv (some 4) (xs.map eA)):=by rw[List.append_assoc,zch hrl];exact hS.2.1
    have g2:(H++E++[obj [x]])[(H++E).length]? =some (.arv (some 4) [eA x]):=by rw[zb6];rfl
    have hlim:i+1<=lim:=by unfold lim;omega
    have ho:obj (xs++[x])=.arv (some 4) (xs.map eA++[eA x]):=by simp[obj]
    have g3:(H++(E++[obj [x]]))[hp.length+1]? =some (.arv (some 4) (xs.map eA)):=by rw[zch hrl];exact hS.2.1
    simp only[zcn,aappendv,elemsv,g2]
    simp[g3,Sh.size,zkX,hxl,hlim,ho]
   have hS2:SInv hp (hp.length+1) ((H++E++[obj [x]]).set (hp.length+1) (obj (xs++[x]))) (xs++[x]):=by
    obtain⟨⟨e0,he0⟩,k2,k3⟩:=hS
    refine⟨?_,?_,?_⟩
    ·rw[List.append_assoc,List.set_append_left _ _ hrl,he0,List.set_append_right _ _ (by omega)]
     exact⟨_,List.append_assoc _ _ _⟩
    ·rw[List.getElem?_set_self (by simp;omega)]
    ·intro y hy
     rcases List.mem_append.1 hy with hy|hy
     ·rw[List.append_assoc]
      refine((k3 y hy).app _).set fun q hq=> ?_
      rintro rfl
      have h5:=k3 y hy
      obtain⟨t,q'⟩:=y
      cases hq
      have:=h5.2
      rw[k2] at this
      cases this
     ·rw[List.mem_singleton] at hy
      subst hy
      have hlo:okW hp.length (H++E) y:=by
       obtain⟨t,q⟩:=y
       cases q with
       |none=>exact hxw
       |some q=>exact⟨by have:=hxw.1;rw[he0] at this;simp at this;omega,hxw.2⟩
      refine(hlo.app _).set fun q hq=> ?_
      rintro rfl
      obtain⟨t,q'⟩:=y
      cases hq
      have:=hxw.1
      omega
   have hcol:=fun fr=>hS2.collect (n:=hp.length+2) (by omega) (by omega) fr
   have hln:(hp++[AObj.arr (some 4) [] false,obj []]).length=hp.length+2:=by simp
   simp -dsimp -implicitDefEqProofs only[go_sem,seval,↓reduceIte,hc,zad (Tm.pvs_get hu),hal,hst,hld,hcall,hbs,hap,w2]
   rw[hln]
   exact⟨ts.length - (i+1),by omega,i+1,xs++[x],_,rfl,by omega,hcol _,by rw[List.map_append,hx,List.take_add_one,hu,<-hx1];rfl,rfl⟩
  ·have hc:¬(i:Int)<(ts.length:Int):=by omega
   obtain rfl:i=ts.length:=by omega
   rw[List.take_length] at hx
   obtain⟨H2,ys,hcall,k1,k2,k3⟩:=zh7 cT hC g D hg hp (hp.length+1) H xs hS (by omega) (by omega) (fun x hx'=>hD _ (by rw[<-hx];exact List.mem_map_of_mem hx'))
   rw[hxl] at hcall
   simp -dsimp -implicitDefEqProofs only[go_sem,seval,↓reduceIte,hc,hcall]
   first|exact⟨ys,k1,by rw[k2,hx]⟩|exact⟨trivial,ys,k1,by rw[k2,hx]⟩
end
def okR(lo hi:Nat)(H:Heap)(x:TE):Prop:=match x.2 with
 |none=>x.1.args=[]
 |some q=>lo<=q/\q<hi/\H[q]? =some (.arr (some 4) (Tm.pvs x.1.args) false)
def LOut(lo hi:Nat)(zs:List Tm)(v:AV)(H:Heap):Prop:=(zs=[]/\∃q,lo<=q/\q<hi/\v=.sl (some 4) q 0 0 0/\H[q]? =some (.arr (some 4) [] false))\/
 ∃r N xs,lo<=r/\r<hi/\v=.slv (some 4) r N 0 zs.length/\H[r]? =some (obj xs)/\xs.length=N/\zs.length<=N/\(xs.take zs.length).map Prod.fst=zs/\∀x∈xs,okR lo hi H x
theorem okW.okR{lo:Nat}{H:Heap}{x:TE}(h:okW lo H x):okR lo H.length H x:=by
 obtain⟨t,q⟩:=x
 cases q with
 |none=>exact h
 |some q=>exact⟨h.1,zcH h.2,h.2⟩
theorem okR.okE{lo hi:Nat}{H:Heap}{x:TE}(h:okR lo hi H x):okE H x:=by
 obtain⟨t,q⟩:=x
 cases q with
 |none=>exact h
 |some q=>exact⟨_,h.2.2⟩
theorem okR.agree{lo hi:Nat}{H H':Heap}{x:TE}(h:okR lo hi H x)(ha:∀j,lo<=j->j<hi->H'[j]? =H[j]?):okR lo hi H' x:=by
 obtain⟨t,q⟩:=x
 cases q with
 |none=>exact h
 |some q=>exact⟨h.1,h.2.1,by rw[ha q h.1 h.2.1];exact h.2.2⟩
theorem LOut.agree{lo hi:Nat}{zs:List Tm}{v:AV}{H H':Heap}(h:LOut lo hi zs v H)(ha:∀j,lo<=j->j<hi->H'[j]? =H[j]?):LOut lo hi zs v H':=by
 rcases h with⟨h1,q,h2,h3,h4,h5⟩|⟨r,N,xs,h1,h2,h3,h4,h5,h6,h7,h8⟩
 ·exact .inl ⟨h1,q,h2,h3,h4,by rw[ha q h2 h3];exact h5⟩
 ·exact .inr ⟨r,N,xs,h1,h2,h3,by rw[ha r h1 h2];exact h4,h5,h6,h7,fun x hx=>(h8 x hx).agree ha⟩
theorem zrF:CmpT Tm.cmp 37 (fun t=>t.valid=true/\t.size<1000000000):=by
 rintro H x y ⟨hx,hxs⟩ ⟨hy,hys⟩ ox oy
 refine zrB rfl rfl rfl rfl rfl ox oy ?_
 have h:=ze2 x.1 y.1 [] hxs (Tm.valid_fits hx) (Tm.valid_fits hy)
 exact h
theorem zrG:Cmp Tm.cmp:=⟨fun x y=>Tm.zsP _ _,fun h1 h2=>Tm.zsI h1 h2⟩
def TOut(hp:Heap)(zs:List Tm)(e:Int)(res:Option (ARes × Heap)):Prop:=∃v H,res=some (.ret (.tuple [v,.pv none (.int .i64 e)]),H)/\(∃x,H=hp++x)/\LOut hp.length H.length zs v H
theorem TOut.of{f:FuncId}{fn:AFn}{args:List AV}{hp:Heap}(zs:List Tm)(e:Int)(hp0:prim f=none)(hf:find tab f=some fn)(hm:fn.heapMode=true)(hn:args.length=fn.nparams)
  (h:W Z L 0 fn.code ⟨params 0 args,hp⟩ (endK fn.results fun v' H=>∃v,v'=.tuple [v,.pv none (.int .i64 e)]/\(∃x,H=hp++x)/\LOut hp.length H.length zs v H))(hr:fn.rcv=none:=by rfl)(hmo:fn.more=[]:=by rfl):TOut hp zs e (S f args hp):=by
 obtain⟨v',h',H,k1,⟨v,rfl,k2,k3⟩,k4⟩:=zcJ _ hp0 hf hm hn h hr hmo
 rcases k4 with rfl|⟨_,k4⟩
 ·exact⟨v,H,k1,k2,k3⟩
 ·exfalso
  rcases k3 with⟨_,q,h2,_,rfl,_⟩|⟨r,N,xs,h2,_,rfl,_⟩
  ·have k5:=of_decide_eq_true (List.all_eq_true.1 k4 q (by simp[AV.refsIn,AV.refsIn.gol]))
   omega
  ·have k5:=of_decide_eq_true (List.all_eq_true.1 k4 r (by simp[AV.refsIn,AV.refsIn.gol]))
   omega
theorem SInv.lout{hp H:Heap}{r:Nat}{ys:List TE}{zs:List Tm}(h:SInv hp r H ys)(hr:hp.length<=r)(hz:ys.map Prod.fst=zs):LOut hp.length H.length zs (.slv (some 4) r zs.length 0 zs.length) H:=by
 have hl:ys.length=zs.length:=by rw[<-hz,List.length_map]
 exact .inr ⟨r,zs.length,ys,hr,zcH h.2.1,rfl,h.2.1,hl,Nat.le_refl _,by rw[<-hl,List.take_length,hz],fun x hx=>(h.2.2 x hx).okR⟩
theorem LOut.app{lo hi:Nat}{zs:List Tm}{v:AV}{H:Heap}(h:LOut lo hi zs v H)(hh:hi<=H.length)(e:Heap):LOut lo hi zs v (H++e):=h.agree fun j _ h2=>zch (by omega)
theorem LOut.wide{lo hi lo' hi':Nat}{zs:List Tm}{v:AV}{H:Heap}(h:LOut lo hi zs v H)(h1:lo'<=lo)(h2:hi<=hi'):LOut lo' hi' zs v H:=by
 rcases h with⟨k1,q,k2,k3,k4,k5⟩|⟨r,N,xs,k1,k2,k3,k4,k5,k6,k7,k8⟩
 ·exact .inl ⟨k1,q,by omega,by omega,k4,k5⟩
 ·refine .inr ⟨r,N,xs,by omega,by omega,k3,k4,k5,k6,k7,fun x hx=> ?_⟩
  have:=k8 x hx
  obtain⟨t,q⟩:=x
  cases q with
  |none=>exact this
  |some q=>exact⟨by have:=this.1;omega,by have:=this.2.1;omega,this.2.2⟩
theorem zh9{lo:Nat}{H:Heap}{q:Nat}(h1:lo<=q)(h2:H[q]? =some (.arr (some 4) [] false)):LOut lo H.length [] (.sl (some 4) q 0 0 0) H:=.inl ⟨rfl,q,h1,zcH h2,rfl,h2⟩
theorem zfu(hp:Heap)(ts:List Tm)(hl:Tm.sizes ts<100000000)(h:zak ts=true):∃r H ys,S 17 [.pv none (.sl (some 4) (Tm.pvs ts))] hp=some (.ret (.tuple [.slv (some 4) r ts.length 0 ts.length,.pv none (.int .i64 0)]),H)/\SInv hp r H ys/\hp.length<=r/\ys.map Prod.fst=isort Tm.cmp ts:=by
 have hv:=fun hp=>ze3 ts (by omega) hp
 have hn0:∀H:Heap,zb2 (some 4) H=some (.sl (some 4) H.length 0 0 0,H++[.arr (some 4) [] false]):=fun H=>zba (sh:=some 4) (by decide)
 rw[h] at hv
 obtain⟨r,H,ys,hcall,⟨⟨e,he⟩,k4,k5⟩,k2,k3⟩:=zjE Tm.cmp zrG 37 _ zrF (hp++[.arr (some 4) [] false]) ts (fun t ht=>zar h ht) hl (fun t ht=>⟨zar h ht,by have:=Tm.zsA ht;omega⟩)
 refine⟨r,H,ys,?_,⟨⟨_,by rw[he,List.append_assoc]⟩,k4,fun x hx=> ?_⟩,by simp at k2;omega,k3⟩
 ·have hr:=zcH k4
  refine zoG ?_ rfl rfl rfl rfl ?_
  ·simp at k2
   simp[AV.refsIn,AV.refsIn.gol]
   omega
  ·simp -dsimp -implicitDefEqProofs only[go_sem,seval,↓reduceIte,hv,hn0,hcall]
 ·have:=k5 x hx
  obtain⟨t,q⟩:=x
  cases q with
  |none=>exact this
  |some q=>exact⟨by have:=this.1;simp at this;omega,this.2⟩
theorem zhb(hp:Heap)(ts:List Tm)(hl:Tm.sizes ts<100000000):TOut hp (if zak ts=true then isort Tm.cmp ts else[]) (if zak ts=true then 0 else 1) (S 17 [.pv none (.sl (some 4) (Tm.pvs ts))] hp):=by
 by_cases h:zak ts=true
 ·rw[if_pos h,if_pos h]
  obtain⟨r,H,ys,hcall,k1,k2,k3⟩:=zfu hp ts hl h
  refine⟨_,H,hcall,k1.1,?_⟩
  have hln:ts.length=(isort Tm.cmp ts).length:=(zan ts).symm
  rw[hln]
  exact k1.lout k2 k3
 ·have hv:=fun hp=>ze3 ts (by omega) hp
  have hn0:∀H:Heap,zb2 (some 4) H=some (.sl (some 4) H.length 0 0 0,H++[.arr (some 4) [] false]):=fun H=>zba (sh:=some 4) (by decide)
  rw[if_neg h,if_neg h]
  refine TOut.of _ _ rfl rfl rfl rfl ?_
  rw[Bool.not_eq_true] at h
  rw[h] at hv
  simp -dsimp -implicitDefEqProofs only[go_sem,seval,↓reduceIte,hv,hn0,h]
  refine⟨_,rfl,⟨_,List.append_assoc _ _ _⟩,?_⟩
  exact zh9 (q:=(hp++[AObj.arr (some 4) [] false]).length) (by simp) (by rw[zb6];rfl)
def zaO(t:Tm):Bool:=decide (t.kind=3) && decide (t.name=[45]) && decide (t.args.length=2)
theorem zqz:CmpT zgi 43 (fun t=>t.valid=true/\t.size<1000000000/\zaO t=true):=by
 rintro H x y ⟨ht,hts,htp⟩ ⟨hu,hus,hup⟩ ox oy
 refine zrB rfl rfl rfl rfl rfl ox oy ?_
 generalize x.1=t at*
 generalize y.1=u at*
 simp only[zaO,Bool.and_eq_true,decide_eq_true_eq] at htp hup
 obtain⟨k1,k2,hk⟩:∃k1 k2,t.args=[k1,k2]:=by
  match t.args,htp.2 with
  |[a,b],_=>exact⟨a,b,rfl⟩
 obtain⟨j1,j2,hj⟩:∃k1 k2,u.args=[k1,k2]:=by
  match u.args,hup.2 with
  |[a,b],_=>exact⟨a,b,rfl⟩
 have h1:k1∈t.args:=by rw[hk];simp
 have h2:j1∈u.args:=by rw[hj];simp
 have hs:=Tm.zsE h1
 have h:=fun hp=>ze2 k1 j1 hp (by omega) (Tm.zsC (Tm.valid_fits ht) h1) (Tm.zsC (Tm.valid_fits hu) h2)
 simp only[Tm.av] at h
 have e1:(Tm.pvs t.args)[0]? =some k1.pv:=Tm.pvs_get (by rw[hk];rfl)
 have e2:(Tm.pvs u.args)[0]? =some j1.pv:=Tm.pvs_get (by rw[hj];rfl)
 have ek:zgi t u=k1.cmp j1:=by unfold zgi zfm;rw[hk,hj];rfl
 refine zap rfl rfl rfl (zab [(some 4,t.pv),(some 4,u.pv)]) rfl ?_
 simp -dsimp -implicitDefEqProofs only[go_sem,seval,↓reduceIte,zag,zci e1,zci e2,h]
 rw[ek]
def zdV(ts:List Tm):Int:=if zak ts=true then(if ts.all zaO=true then 0 else 3) else 1
def zcj(ts:List Tm):List Tm:=if zak ts=true/\ts.all zaO=true then isort zgi ts else[]
theorem zqA:Cmp zgi:=⟨fun x y=>Tm.zsP _ _,fun h1 h2=>Tm.zsI h1 h2⟩
theorem zqB(hp:Heap)(ts:List Tm)(hl:Tm.sizes ts<100000000):TOut hp (zcj ts) (zdV ts) (S 18 [.pv none (.sl (some 4) (Tm.pvs ts))] hp):=by
 have hv:=fun hp=>ze3 ts (by omega) hp
 have hlen:=Tm.zsz ts
 refine TOut.of _ _ rfl rfl rfl rfl ?_
 have hn0:∀H:Heap,zb2 (some 4) H=some (.sl (some 4) H.length 0 0 0,H++[.arr (some 4) [] false]):=fun H=>zba (sh:=some 4) (by decide)
 have nil:∀(x:Heap),zcj ts=[]->∀e,e=zdV ts->∃v,(AV.tuple [.sl (some 4) (hp++x).length 0 0 0,.pv none (.int .i64 e)])=.tuple [v,.pv none (.int .i64 (zdV ts))]/\(∃z,hp++x++[AObj.arr (some 4) [] false]=hp++z)/\LOut hp.length (hp++x++[AObj.arr (some 4) [] false]).length (zcj ts) v (hp++x++[AObj.arr (some 4) [] false]):=fun x h1 e h2=>by
  rw[h1,h2]
  refine⟨_,rfl,⟨_,List.append_assoc _ _ _⟩,?_⟩
  exact zh9 (q:=(hp++x).length) (by simp) (by rw[zb6];rfl)
 by_cases h:zak ts=true
 ·rw[h] at hv
  simp -dsimp -implicitDefEqProofs only[go_sem,seval,↓reduceIte,hv,hn0,Tm.pvs_len]
  refine zaE (fun n st=>∃(i:Nat) (x:Heap),n=ts.length - i/\i<=ts.length/\(ts.take i).all zaO=true/\st=⟨[(0,.pv none (.sl (some 4) (Tm.pvs ts))),(9,.pv none (.sl (some 4) (Tm.pvs ts))),(10,.pv none (.int .i64 ts.length)),(11,.pv none (.int .i64 i))],hp++x⟩) (n:=ts.length) ⟨0,[.arr (some 4) [] false],rfl,Nat.zero_le _,rfl,?_⟩ ?_
  ·rfl
  ·rintro n st ⟨i,x,hn,hi,hp1,rfl⟩
   by_cases hlt:i<ts.length
   ·have hc:(i:Int)<(ts.length:Int):=by omega
    obtain⟨u,hu⟩:∃u,ts[i]? =some u:=⟨_,List.getElem?_eq_getElem hlt⟩
    have hum:=List.mem_of_getElem? hu
    have w2:IntKind.i64.wrap ((i:Int)+1)=((i+1:Nat):Int):=by rw[zaj (by omega) (by omega)];omega
    have hbad:zaO u=false->zcj ts=[]/\3=zdV ts:=fun hb=>by
     have:ts.all zaO=false:=List.all_eq_false.2 ⟨u,hum,by simp[hb]⟩
     unfold zdV zcj
     simp[h,this]
    obtain⟨H,hH⟩:∃H:Heap,H=hp++x:=⟨_,rfl⟩
    obtain⟨H2,hH2⟩:∃H2:Heap,H2=H++[.box (some 4) (.pv (some 4) u.pv),.arr (some 4) [] false]:=⟨_,rfl⟩
    have hal:zbD (some 4) (.agg [(none,.pv none (.int .i64 0)),(none,.pv none (.int .i64 0)),(none,.pv none (.str [])),(none,.tsl (some 4) [])]) H []=some (.ptr H.length 0,H++[.box (some 4) (.agg [(none,.pv none (.int .i64 0)),(none,.pv none (.int .i64 0)),(none,.pv none (.str [])),(none,.sl (some 4) (H.length+1) 0 0 0)]),.arr (some 4) [] false]):=by
     simp[zbD,AV.plain,AV.shp,AV.own,zam,total,Sh.size]
    have hst:zaB (some 4) 0 (H++[.box (some 4) (.agg [(none,.pv none (.int .i64 0)),(none,.pv none (.int .i64 0)),(none,.pv none (.str [])),(none,.sl (some 4) (H.length+1) 0 0 0)]),.arr (some 4) [] false]) [.ptr H.length 0,.pv (some 4) u.pv]=some (.undef,H2):=by
     rw[hH2]
     simp[zaB,astore,AV.plain,AV.shp,AV.own,zdQ]
    have hg:H2[H.length]? =some (.box (some 4) (.pv (some 4) u.pv)):=by rw[hH2,zb6];rfl
    have l0:aload none H2 (.ptr H.length 0)=some (.pv none (.int .i64 u.kind)):=by
     simp only[aload,hg]
     rw[if_neg (by simp)]
     cases u
     rfl
    have l2:aload none H2 (.ptr H.length 2)=some (.pv none (.str u.name)):=by
     simp only[aload,hg]
     rw[if_neg (by simp)]
     cases u
     rfl
    have l3:aload none H2 (.ptr H.length 3)=some (.pv none (.sl (some 4) (Tm.pvs u.args))):=by
     simp only[aload,hg]
     rw[if_neg (by simp)]
     cases u
     rfl
    have hcol:∀n fr,hp.length<=n->∃y,collect n 0 fr H2=hp++y:=fun n fr hn=>by
     rw[hH2,hH,List.append_assoc]
     exact zfo hn
    have hH3:H2=hp++(x++[.box (some 4) (.pv (some 4) u.pv),.arr (some 4) [] false]):=by rw[hH2,hH,List.append_assoc]
    rw[<-hH]
    by_cases k1:u.kind=3
    ·have k1':=eq_true k1
     by_cases k2:u.name=[45]
     ·have k2':=eq_true k2
      by_cases k3:u.args.length=2
      ·have k3':=eq_true (show(u.args.length:Int)=2 by omega)
       simp -dsimp -implicitDefEqProofs only[go_sem,seval,↓reduceIte,hc,zad (Tm.pvs_get hu),Tm.pvs_len,hal,hst,l0,l2,l3,k1',k2',k3',w2]
       obtain⟨y,hy⟩:=hcol (hp++[AObj.arr (some 4) [] false]).length [(0,.pv none (.sl (some 4) (Tm.pvs ts))),(9,.pv none (.sl (some 4) (Tm.pvs ts))),(10,.pv none (.int .i64 ts.length)),(11,.pv none (.int .i64 ((i+1:Nat):Int)))] (by simp)
       rw[hy]
       exact⟨ts.length - (i+1),by omega,i+1,y,rfl,by omega,by rw[List.take_add_one,hu];simp[hp1,zaO,k1,k2,k3],rfl⟩
      ·have k3':=eq_false (show ¬(u.args.length:Int)=2 by omega)
       simp -dsimp -implicitDefEqProofs only[go_sem,seval,↓reduceIte,hc,zad (Tm.pvs_get hu),Tm.pvs_len,hal,hst,l0,l2,l3,k1',k2',k3',hn0]
       rw[hH3]
       exact nil _ (hbad (by simp[zaO,k3])).1 _ (hbad (by simp[zaO,k3])).2
     ·have k2':=eq_false k2
      simp -dsimp -implicitDefEqProofs only[go_sem,seval,↓reduceIte,hc,zad (Tm.pvs_get hu),Tm.pvs_len,hal,hst,l0,l2,l3,k1',k2',hn0]
      rw[hH3]
      exact nil _ (hbad (by simp[zaO,k2])).1 _ (hbad (by simp[zaO,k2])).2
    ·have k1':=eq_false k1
     simp -dsimp -implicitDefEqProofs only[go_sem,seval,↓reduceIte,hc,zad (Tm.pvs_get hu),Tm.pvs_len,hal,hst,l0,l2,l3,k1',hn0]
     rw[hH3]
     exact nil _ (hbad (by simp[zaO,k1])).1 _ (hbad (by simp[zaO,k1])).2
   ·have hc:¬(i:Int)<(ts.length:Int):=by omega
    obtain rfl:i=ts.length:=by omega
    rw[List.take_length] at hp1
    have eE:zdV ts=0:=by unfold zdV;rw[if_pos h,if_pos hp1]
    have eL:zcj ts=isort zgi ts:=by unfold zcj;rw[if_pos ⟨h,hp1⟩]
    obtain⟨r,H,ys,hcall,q1,q2,q3⟩:=zjE zgi zqA 43 _ zqz (hp++x) ts (fun t ht=>zar h ht) hl (fun t ht=>⟨zar h ht,by have:=Tm.zsA ht;omega,List.all_eq_true.1 hp1 t ht⟩)
    have hln:ts.length=(zcj ts).length:=by rw[eL,zan]
    rw[eE]
    simp -dsimp -implicitDefEqProofs only[go_sem,seval,↓reduceIte,hc,hcall]
    obtain⟨⟨e,he⟩,k4,k5⟩:=q1
    refine⟨_,rfl,⟨_,by rw[he,List.append_assoc]⟩,?_⟩
    rw[hln]
    have:=SInv.lout (hp:=hp++x) ⟨⟨e,he⟩,k4,k5⟩ q2 (q3.trans eL.symm)
    exact this.wide (by simp) (Nat.le_refl _)
 ·have eE:zdV ts=1:=by unfold zdV;rw[if_neg h]
  have eL:zcj ts=[]:=by unfold zcj;rw[if_neg (fun e=>h e.1)]
  rw[Bool.not_eq_true] at h
  rw[h] at hv
  simp -dsimp -implicitDefEqProofs only[go_sem,seval,↓reduceIte,hv,hn0]
  exact nil _ eL _ eE.symm
def zmR(l:List Tm):List Tm:=dd (isort Tm.cmp l)
theorem zpa(t u:Tm)(ht:t.valid=true)(hu:u.valid=true)(hs:t.size<1000000000):S 40 [.pv (some 4) t.pv,.pv (some 4) u.pv] []=some (.ret (.pv none (.bool (decide (t.cmp u=0)))),[]):=by
 have h:=fun hp=>ze2 t u hp hs (Tm.valid_fits ht) (Tm.valid_fits hu)
 simp only[Tm.av] at h
 refine zap rfl rfl rfl (zab [(some 4,t.pv),(some 4,u.pv)]) rfl ?_
 (repeat' (first|(simp -dsimp -implicitDefEqProofs only[go_sem,seval,↓reduceIte, *])|(refine zas (fun _=> ?_) (fun _=> ?_))))
theorem zqC(hp:Heap)(ts:List Tm)(hl:Tm.sizes ts<100000000):TOut hp (if zak ts=true then zmR ts else[]) (if zak ts=true then 0 else 1) (S 16 [.pv none (.sl (some 4) (Tm.pvs ts))] hp):=by
 refine TOut.of _ _ rfl rfl rfl rfl ?_
 have hn0:∀H:Heap,zb2 (some 4) H=some (.sl (some 4) H.length 0 0 0,H++[.arr (some 4) [] false]):=fun H=>zba (sh:=some 4) (by decide)
 have hlen:=Tm.zsz ts
 by_cases h:zak ts=true
 ·rw[if_pos h,if_pos h]
  have hmem:∀t∈isort Tm.cmp ts,t∈ts:=fun t ht=>(za2 ts).mem_iff.1 ht
  obtain⟨r,H,ys,hcall,hS,k2,k3⟩:=zfu (hp++[.arr (some 4) [] false]) ts hl h
  have hr:=zcH hS.2.1
  have hyl:ys.length=ts.length:=by rw[<-zan (c:=Tm.cmp) ts,<-k3,List.length_map]
  have hH:H=H.set r (obj ys):=by
   have h1:H[r]=obj ys:=(List.getElem?_eq_some_iff.1 hS.2.1).2
   rw[<-h1,List.set_getElem_self]
  have hyv:∀x∈ys,x.1∈ts:=fun x hx=>hmem _ (by rw[<-k3];exact List.mem_map_of_mem hx)
  obtain⟨es,ext,⟨c1,c2,c3,c4⟩,hcp⟩:=zmJ H r hr ys (isort Tm.cmp ts) k3.symm ts.length hyl.symm (by omega) (fun x hx y hy A ext=>by
   have h1:=hyv x hx
   have h2:=hyv y hy
   refine zrB rfl rfl rfl rfl rfl ?_ ?_ (zpa x.1 y.1 (zar h h1) (zar h h2) (by have:=Tm.zsA h1;omega))
   ·exact(((hS.2.2 x hx).set fun q hq=>hS.ne hx hq).app ext).okE
   ·exact(((hS.2.2 y hy).set fun q hq=>hS.ne hy hq).app ext).okE)
  rw[<-hH] at hcp
  simp -dsimp -implicitDefEqProofs only[go_sem,seval,↓reduceIte,hcall,hn0,hcp]
  obtain⟨⟨e,he⟩,k4,k5⟩:=hS
  simp at k2
  refine⟨_,rfl,⟨([AObj.arr (some 4) [] false]++e).set (r - hp.length) (obj es)++ext,?_⟩,?_⟩
  ·rw[he,List.append_assoc,List.set_append_right _ _ (by omega),List.append_assoc]
  ·refine .inr ⟨r,ts.length,es,by omega,by simp;omega,rfl,?_,c1,?_,c2,fun x hx=> ?_⟩
   ·rw[zch (by simpa using hr)]
    simp[hr]
   ·rw[<-hyl,show ys.length=(isort Tm.cmp ts).length by rw[hyl,zan]]
    exact zeB _
   ·rcases c3 x hx with hx|rfl
    ·have h1:=((k5 x hx).set (r:=r) (o:=obj es) fun q hq=>SInv.ne ⟨⟨e,he⟩,k4,k5⟩ hx hq).app ext
     have h2:=h1.okR
     obtain⟨t,q⟩:=x
     cases q with
     |none=>exact h2
     |some q=>exact⟨by have:=h2.1;simp at this;omega,h2.2⟩
    ·rfl
 ·obtain⟨v,H,hcall,⟨x,hx⟩,hL⟩:=zhb (hp++[.arr (some 4) [] false]) ts hl
  rw[if_neg h] at hL
  rw[if_neg h] at hcall
  rw[if_neg h,if_neg h]
  simp -dsimp -implicitDefEqProofs only[go_sem,seval,↓reduceIte,hcall,hn0]
  refine⟨_,rfl,⟨_,by rw[hx,List.append_assoc,List.append_assoc]⟩,?_⟩
  exact zh9 (q:=H.length) (by rw[hx];simp) (by rw[zb6];rfl)
theorem valid_fits{t:Tm}(h:t.valid=true):t.fits=true:=Tm.valid_fits h
theorem zgn{α:Type}{l:List α}{i:Nat}{x:α}(h:l[i]? =some x):l.take (i+1)=l.take i++[x]:=by
 rw[List.take_add_one,h];rfl
theorem zdS(hp:Heap)(x y:Int):S 57 [.pv none (.int .i64 x),.pv none (.int .i64 y)] hp=some (.ret (.pv none (.int .i64 (cmpI x y))),hp):=by
 refine zap rfl rfl rfl (zab [(none,.int .i64 x),(none,.int .i64 y)]) rfl ?_
 (repeat' (first|(simp -dsimp -implicitDefEqProofs only[go_sem,seval,↓reduceIte,cmpI, *])|(refine zas (fun _=> ?_) (fun _=> ?_))))
theorem zoV(hp:Heap)(x y:List UInt8)(hx:x.length<1000000000):S 58 [.pv none (.str x),.pv none (.str y)] hp=some (.ret (.pv none (.int .i64 (Lib.compareBytes x y))),hp):=by
 refine zap rfl rfl rfl (zab [(none,.str x),(none,.str y)]) rfl ?_
 simp -dsimp -implicitDefEqProofs only[go_sem,seval,↓reduceIte]
 refine zaE (fun n st=>∃i:Nat,n=x.length - i/\i<=x.length/\i<=y.length/\Lib.compareBytes x y=Lib.compareBytes (x.drop i) (y.drop i)/\st=⟨[(0,.pv none (.str x)),(1,.pv none (.str y)),(5,.pv none (.int .i64 i))],[]⟩) (n:=x.length) ⟨0,rfl,Nat.zero_le _,Nat.zero_le _,rfl,?_⟩ ?_
 ·simp -dsimp -implicitDefEqProofs only[go_sem,seval,↓reduceIte]
  try rfl
 ·rintro n st ⟨i,hn,hi,hi',he,rfl⟩
  by_cases h:i<x.length
  ·have hc:(i:Int)<(x.length:Int):=by omega
   by_cases h':i<y.length
   ·have hc':(i:Int)<(y.length:Int):=by omega
    have w2:IntKind.i64.wrap ((i:Int)+1)=((i+1:Nat):Int):=by rw[zaj (by omega) (by omega)];omega
    have ex:x[i]? =some x[i]:=List.getElem?_eq_getElem h
    have ey:y[i]? =some y[i]:=List.getElem?_eq_getElem h'
    have hd:Lib.compareBytes (x.drop i) (y.drop i)=if x[i]<y[i] then -1 else if y[i]<x[i] then 1 else Lib.compareBytes (x.drop (i+1)) (y.drop (i+1)):=by
     rw[List.drop_eq_getElem_cons h,List.drop_eq_getElem_cons h',Lib.compareBytes]
    rw[hd] at he
    have c1:(((x[i].toNat:Nat):Int)<((y[i].toNat:Nat):Int))=(x[i]<y[i]):=propext (by rw[UInt8.lt_iff_toNat_lt];omega)
    have c2:(((y[i].toNat:Nat):Int)<((x[i].toNat:Nat):Int))=(y[i]<x[i]):=propext (by rw[UInt8.lt_iff_toNat_lt];omega)
    by_cases l1:x[i]<y[i]
    ·simp -dsimp -implicitDefEqProofs only[go_sem,seval,↓reduceIte,hc,hc',zdK ex,zdK ey,c1,c2,l1,he]
    ·by_cases l2:y[i]<x[i]
     ·simp -dsimp -implicitDefEqProofs only[go_sem,seval,↓reduceIte,hc,hc',zdK ex,zdK ey,c1,c2,l1,l2,he]
     ·simp -dsimp -implicitDefEqProofs only[go_sem,seval,↓reduceIte,hc,hc',zdK ex,zdK ey,c1,c2,l1,l2,w2]
      rw[if_neg l1,if_neg l2] at he
      exact⟨x.length - (i+1),by omega,i+1,rfl,by omega,by omega,he,rfl⟩
   ·have hc':¬(i:Int)<(y.length:Int):=by omega
    simp -dsimp -implicitDefEqProofs only[go_sem,seval,↓reduceIte,hc,hc',zdS]
    rw[he,List.drop_eq_getElem_cons h,List.drop_eq_nil_of_le (by omega:y.length<=i)]
    simp only[Lib.compareBytes,cmpI]
    rw[if_neg (by omega),if_pos (by omega)]
  ·have hc:¬(i:Int)<(x.length:Int):=by omega
   simp -dsimp -implicitDefEqProofs only[go_sem,seval,↓reduceIte,hc,zdS]
   rw[he,List.drop_eq_nil_of_le (by omega:x.length<=i)]
   by_cases h':i<y.length
   ·rw[List.drop_eq_getElem_cons h']
    simp only[Lib.compareBytes,cmpI]
    rw[if_pos (by omega)]
   ·rw[List.drop_eq_nil_of_le (by omega:y.length<=i)]
    simp only[Lib.compareBytes,cmpI]
    rw[if_neg (by omega),if_neg (by omega)]


theorem zh6(a b:Tm)(ih:∀u,u∈a.args->∀(b:Tm) (hp:Heap),u.size<1000000000->u.fits=true->b.fits=true->S 38 [u.av,b.av] hp=some (.ret (.pv none (.int .i64 (u.cmp b))),hp))
  (ha:a.size<1000000000)(fa:a.fits=true)(fb:b.fits=true)(v:Int)(hl:v=0->a.args.length=b.args.length)(fr:Fr)(Q:AExit->St->Prop)
  (hfr:fr.keep [2,3,5,6]=[(2,.ptr 0 0),(3,.ptr 1 0),(5,.pv none (.int .i64 v)),(6,.pv none (.int .i64 0))])
  (h:∀r,Q (.exit 0) ⟨(2,.ptr 0 0)::(3,.ptr 1 0)::(5,.pv none (.int .i64 (zbK v (Tm.cmps a.args b.args))))::r,[.box (some 4) (.pv (some 4) a.pv),.box (some 4) (.pv (some 4) b.pv)]⟩):
  W (sem (find tab) prim) (sloop (find tab) prim) 0 (.loop [2,3,5,6] c38b17) ⟨fr,[.box (some 4) (.pv (some 4) a.pv),.box (some 4) (.pv (some 4) b.pv)]⟩ Q:=by
 have hts:=a.size_eq
 have hlen:=Tm.zsz a.args
 refine zaE (fun n st=>∃(i:Nat) (c:Int),n=a.args.length - i/\i<=a.args.length/\(c=0->a.args.length=b.args.length)/\zbK v (Tm.cmps a.args b.args)=zbK c (Tm.cmps (a.args.drop i) (b.args.drop i))/\
  st=⟨[(2,.ptr 0 0),(3,.ptr 1 0),(5,.pv none (.int .i64 c)),(6,.pv none (.int .i64 i))],[.box (some 4) (.pv (some 4) a.pv),.box (some 4) (.pv (some 4) b.pv)]⟩) (n:=a.args.length) ⟨0,v,rfl,Nat.zero_le _,hl,rfl,?_⟩ ?_
 ·rw[hfr]
  rfl
 ·rintro n st ⟨i,c,hn,hi,hcl,he,rfl⟩
  by_cases hi':i<a.args.length
  ·have hc:(i:Int)<(a.args.length:Int):=by omega
   by_cases h0:c=0
   ·subst h0
    have hlb:=hcl rfl
    obtain⟨u,hu⟩:∃u,a.args[i]? =some u:=⟨_,List.getElem?_eq_getElem hi'⟩
    obtain⟨w,hw⟩:∃w,b.args[i]? =some w:=⟨_,List.getElem?_eq_getElem (by omega)⟩
    have hum:=List.mem_of_getElem? hu
    have husz:=Tm.zsE hum
    have hcall:=fun hp=>ih u hum w hp (by omega) (Tm.zsC fa hum) (Tm.zsC fb (List.mem_of_getElem? hw))
    have w2:IntKind.i64.wrap ((i:Int)+1)=((i+1:Nat):Int):=by rw[zaj (by omega) (by omega)];omega
    simp -dsimp -implicitDefEqProofs only[c38b17,go_sem,seval,↓reduceIte,zag,Tm.pvs_len,hc,zad (Tm.pvs_get hu),zad (Tm.pvs_get hw),show AV.pv (some 4) u.pv=u.av from rfl,show AV.pv (some 4) w.pv=w.av from rfl,hcall,w2]
    exact⟨a.args.length - (i+1),by omega,i+1,u.cmp w,rfl,by omega,fun _=>hlb,by rw[he,zdN,Tm.zsO hu hw],rfl⟩
   ·simp -dsimp -implicitDefEqProofs only[c38b17,go_sem,seval,↓reduceIte,zag,Tm.pvs_len,hc,h0]
    rw[zfH h0] at he
    rw[he] at h
    exact h _
  ·have hc:¬(i:Int)<(a.args.length:Int):=by omega
   obtain rfl:i=a.args.length:=by omega
   simp -dsimp -implicitDefEqProofs only[c38b17,go_sem,seval,↓reduceIte,zag,Tm.pvs_len,hc]
   rw[List.drop_length,Tm.zsH,zkJ] at he
   rw[he] at h
   exact h _

theorem zgo:∀(a b:Tm) (hp:Heap),a.size<1000000000->a.fits=true->b.fits=true->S 38 [a.av,b.av] hp=some (.ret (.pv none (.int .i64 (a.cmp b))),hp):=by
 intro a
 induction a using Tm.zsF with
 |h a ih=>
  intro b hp ha fa fb
  have na:a.name.length<1000000000:=by
   have:=a.fits_eq
   rw[fa] at this
   exact Tm.zsV (by simpa using this.symm)
  refine zap rfl rfl rfl (zab [(some 4,a.pv),(some 4,b.pv)]) rfl ?_
  rw[Tm.zsM]
  have loop:=zh6 a b ih ha fa fb
  clear ih
  by_cases hk:a.kind=b.kind
  ·have hk':cmpI b.kind b.kind=0:=zdo _
   have hnam:=fun hp=>zoV hp a.name b.name na
   (repeat' (first|(simp -dsimp -implicitDefEqProofs only[go_sem,seval,↓reduceIte,zaK,zdm,zaN,zag,Tm.pvs_len,zdN,zdS, *])|(refine zas (fun _=> ?_) (fun _=> ?_))))
   all_goals (refine loop _ ?_ _ _ rfl fun r=> ?_)
   all_goals first
    |(intro h0;first|(exact absurd h0 ‹_›)|(have:=cmpI_zero.1 ‹cmpI (a.args.length:Int) (b.args.length:Int)=0›;omega))
    |(simp -dsimp -implicitDefEqProofs only[go_sem,seval,↓reduceIte,zbK, *])
  ·have hk':cmpI a.kind b.kind≠0:=fun h=>hk (cmpI_zero.1 h)
   simp -dsimp -implicitDefEqProofs only[c38b17,go_sem,seval,↓reduceIte,zaK,zdm,zaN,zag,Tm.pvs_len,hk,zdS,zfH hk']

theorem zjC(l:List Tm)(hl:Tm.sizes l<1000000000):S 44 [.pv none (.sl (some 4) (Tm.pvs l))] []=some (.ret (.pv none (.bool (zak l))),[]):=by
 refine zap rfl rfl rfl (zab [(none,.sl (some 4) (Tm.pvs l))]) rfl ?_
 have hlen:=Tm.zsz l
 simp -dsimp -implicitDefEqProofs only[go_sem,seval,↓reduceIte]
 refine zaE (fun n st=>∃i:Nat,n=l.length - i/\i<=l.length/\zak (l.take i)=true/\st=⟨[(0,.pv none (.sl (some 4) (Tm.pvs l))),(3,.pv none (.int .i64 i))],[]⟩) (n:=l.length) ⟨0,rfl,Nat.zero_le _,rfl,?_⟩ ?_
 ·simp -dsimp -implicitDefEqProofs only[go_sem,seval,↓reduceIte]
  try rfl
 ·rintro n st ⟨i,hn,hi,he,rfl⟩
  by_cases h:i<l.length
  ·have hc:(i:Int)<(l.length:Int):=by omega
   obtain⟨u,hu⟩:∃u,l[i]? =some u:=⟨_,List.getElem?_eq_getElem h⟩
   have hum:=List.mem_of_getElem? hu
   have husz:=Tm.zsA hum
   have hcall:=fun hp=>zdv u hp (by omega)
   simp only[Tm.av] at hcall
   have w2:IntKind.i64.wrap ((i:Int)+1)=((i+1:Nat):Int):=by rw[zaj (by omega) (by omega)];omega
   by_cases h0:u.valid=true
   ·simp -dsimp -implicitDefEqProofs only[go_sem,seval,↓reduceIte,Tm.pvs_len,hc,zad (Tm.pvs_get hu),hcall,w2,h0]
    exact⟨l.length - (i+1),by omega,i+1,rfl,by omega,by rw[zc0 hu,he,h0];rfl,rfl⟩
   ·rw[Bool.not_eq_true] at h0
    simp -dsimp -implicitDefEqProofs only[go_sem,seval,↓reduceIte,Tm.pvs_len,hc,zad (Tm.pvs_get hu),hcall,w2,h0,zcy hum h0]
  ·have hc:¬(i:Int)<(l.length:Int):=by omega
   obtain rfl:i=l.length:=by omega
   rw[List.take_length] at he
   simp -dsimp -implicitDefEqProofs only[go_sem,seval,↓reduceIte,Tm.pvs_len,hc,he]

theorem zc1(l:List Tm)(hl:Tm.sizes l<1000000000)(hp:Heap):S 44 [.pv none (.sl (some 4) (Tm.pvs l))] hp=some (.ret (.pv none (.bool (zak l))),hp):=
 zdp (ps:=[(none,.sl (some 4) (Tm.pvs l))]) rfl rfl rfl rfl (zjC l hl)
theorem zjD{t:Tm}(h:zaO t=true):∃a b,t.args=[a,b]:=by
 simp only[zaO,Bool.and_eq_true,decide_eq_true_eq] at h
 match t.args,h.2 with
 |[a,b],_=>exact⟨a,b,rfl⟩
theorem zoW{t:Tm}(h:zaO t=true):zfm t∈t.args:=by
 obtain⟨a,b,e⟩:=zjD h
 unfold zfm
 rw[e]
 simp
def kO:Bool->Tm->Tm
 |true,t=>zfm t
 |false,t=>t
def kC(b:Bool)(x y:Tm):Int:=(kO b x).cmp (kO b y)
theorem zg7(b:Bool):Cmp (kC b):=⟨fun x y=>Tm.zsP _ _,fun h1 h2=>Tm.zsI h1 h2⟩
def okK:Bool->Tm->Bool
 |true,t=>zaO t
 |false,_=>true
theorem zoX{b:Bool}{t:Tm}(h:okK b t=true):(kO b t).size<=t.size/\(t.fits=true->(kO b t).fits=true):=by
 cases b with
 |false=>exact⟨Nat.le_refl _,fun h=>h⟩
 |true=>exact⟨Nat.le_of_lt (Tm.zsE (zoW h)),fun hf=>Tm.zsC hf (zoW h)⟩
theorem zlw(b:Bool)(t:Tm)(h:okK b t=true)(hp:Heap):S 61 [.pv (some 4) t.pv,.pv none (.bool b)] hp=some (.ret (.pv (some 4) (kO b t).pv),hp):=by
 refine zap rfl rfl rfl (zab [(some 4,t.pv),(none,.bool b)]) rfl ?_
 cases b with
 |false=>simp -dsimp -implicitDefEqProofs only[go_sem,seval,↓reduceIte,kO]
 |true=>
  obtain⟨a,b,e⟩:=zjD h
  have e1:(Tm.pvs t.args)[0]? =some (zfm t).pv:=Tm.pvs_get (by unfold zfm;rw[e];rfl)
  simp -dsimp -implicitDefEqProofs only[go_sem,seval,↓reduceIte,zag,zci e1,zbm (Nat.zero_le _)]
  first|rfl|exact⟨_,rfl⟩
def za3(b:Bool)(l:List Tm)(t:Tm):Nat->Nat
 |0=>0
 |n+1=>match l[n]? with
  |some x=>if 0<kC b x t then za3 b l t n else n+1
  |none=>n+1
def insK(b:Bool)(l:List Tm)(t:Tm):List Tm:=l.take (za3 b l t l.length)++t::l.drop (za3 b l t l.length)
theorem zg8(b:Bool)(l:List Tm)(t:Tm):∀n,za3 b l t n<=n
 |0=>Nat.le_refl _
 |n+1=>by
  unfold za3
  split
  ·split
   ·have:=zg8 b l t n;omega
   ·omega
  ·omega
theorem zqn{b:Bool}{l:List Tm}{t x:Tm}:x∈insK b l t↔x∈l\/x=t:=by
 unfold insK
 rw[List.mem_append,List.mem_cons]
 have h:x∈l↔x∈l.take (za3 b l t l.length)\/x∈l.drop (za3 b l t l.length):=by rw[<-List.mem_append,List.take_append_drop]
 rw[h]
 constructor
 ·rintro(h|h|h) <;> simp[h]
 ·rintro((h|h)|h) <;> simp[h]
theorem zmO(b:Bool)(l:List Tm)(t:Tm):Tm.sizes (insK b l t)=Tm.sizes l+t.size:=by
 unfold insK
 have h:=Tm.zsG (l.take (za3 b l t l.length)) (l.drop (za3 b l t l.length))
 rw[List.take_append_drop] at h
 rw[Tm.zsG,h]
 simp only[Tm.sizes]
 omega
theorem zkS(b:Bool)(l:List Tm)(t:Tm):(insK b l t).length=l.length+1:=by
 unfold insK
 have:=zg8 b l t l.length
 simp
 omega
theorem zkT(b:Bool)(l:List Tm)(t:Tm)(hl:Tm.sizes l+t.size<1000000000)(hv:zak l=true)(ht:t.valid=true)(pl:l.all (okK b)=true)(pt:okK b t=true)(hp:Heap):
  S 45 [.pv none (.sl (some 4) (Tm.pvs l)),.pv (some 4) t.pv,.pv none (.bool b)] hp=some (.ret (.pv none (.sl (some 4) (Tm.pvs (insK b l t)))),hp):=by
 refine zap rfl rfl rfl (zab [(none,.sl (some 4) (Tm.pvs l)),(some 4,t.pv),(none,.bool b)]) rfl ?_
 have hlen:=Tm.zsz l
 have hkt:=zlw b t pt
 simp -dsimp -implicitDefEqProofs only[go_sem,seval,↓reduceIte,Tm.pvs_len,zba (show 0<Sh.size (some 4) by decide)]
 refine zaE (fun n st=>∃i:Nat,n=i/\i<=l.length/\za3 b l t l.length=za3 b l t i/\st=⟨[(0,.pv none (.sl (some 4) (Tm.pvs l))),(2,.pv none (.bool b)),(4,.ptr 0 0),(7,.pv none (.int .i64 i))],[.box (some 4) (.pv (some 4) t.pv),.arr (some 4) [] false]⟩) (n:=l.length) ⟨l.length,rfl,Nat.le_refl _,rfl,?_⟩ ?_
 ·simp -dsimp -implicitDefEqProofs only[go_sem,seval,↓reduceIte]
 ·rintro n st ⟨i,hn,hi,he,rfl⟩
  have hti:(l.take i).length=i:=by simp;omega
  have htd:(l.drop i).length=l.length - i:=by simp
  have hl1:i<=lim:=by unfold lim;omega
  have hl2:i+1<=lim:=by unfold lim;omega
  have hl3:i+1+(l.length - i)<=lim:=by unfold lim;omega
  have hpl:i<=(Tm.pvs l).length:=by rw[Tm.pvs_len];exact hi
  have hln:(Tm.pvs (l.take i)++[t.pv]).length=i+1:=by simp[Tm.pvs_len,hti]
  have hln3:(Tm.pvs (l.take i)++[t.pv]++Tm.pvs (l.drop i)).length=i+1+(l.length - i):=by simp[Tm.pvs_len,hti,htd];omega
  have fin:i=za3 b l t l.length->Tm.pvs (insK b l t)=Tm.pvs (l.take i)++[t.pv]++Tm.pvs (l.drop i):=by
   intro hk
   unfold insK
   rw[<-hk,Tm.zsL,List.append_assoc]
   rfl
  by_cases h0:i=0
  ·have hc:¬(0:Int)<(i:Int):=by omega
   have hf:=fin (by rw[he,h0];rfl)
   simp -dsimp -implicitDefEqProofs only[go_sem,seval,↓reduceIte,Tm.pvs_len,hc,zba (show 0<Sh.size (some 4) by decide),zgZ hpl,zg0 hpl,Tm.zsT,Tm.zsU,hti,htd,hl1,hl2,hl3,hln,hln3,hf]
  ·have hc:(0:Int)<(i:Int):=by omega
   obtain⟨j,rfl⟩:∃j,i=j+1:=⟨i - 1,by omega⟩
   obtain⟨x,hx⟩:∃x,l[j]? =some x:=⟨_,List.getElem?_eq_getElem (by omega)⟩
   have hm:=List.mem_of_getElem? hx
   have hsx:=Tm.zsA hm
   have w1:IntKind.i64.wrap (((j+1:Nat):Int) - 1)=((j:Nat):Int):=by rw[zaj (by omega) (by omega)];omega
   have px:=List.all_eq_true.1 pl x hm
   have hkx:=zlw b x px
   have hcall:=fun hp=>zgo (kO b x) (kO b t) hp (by have:=(zoX px).1;omega) ((zoX px).2 (valid_fits (zar hv hm))) ((zoX pt).2 (valid_fits ht))
   rw[show(kO b x).cmp (kO b t)=kC b x t from rfl] at hcall
   simp only[Tm.av] at hcall
   by_cases hgt:0<kC b x t
   ·simp -dsimp -implicitDefEqProofs only[go_sem,seval,↓reduceIte,Tm.pvs_len,hc,w1,zad (Tm.pvs_get hx),hkx,hkt,hcall,hgt]
    exact⟨j,by omega,j,rfl,by omega,by rw[he];simp[za3,hx,hgt],rfl⟩
   ·have hf:=fin (by rw[he];simp[za3,hx,hgt])
    simp -dsimp -implicitDefEqProofs only[go_sem,seval,↓reduceIte,Tm.pvs_len,hc,w1,zad (Tm.pvs_get hx),hkx,hkt,hcall,hgt,zba (show 0<Sh.size (some 4) by decide),zgZ hpl,zg0 hpl,Tm.zsT,Tm.zsU,hti,htd,hl1,hl2,hl3,hln,hln3,hf]

theorem zc2(b:Bool)(l:List Tm)(t:Tm)(args:List AV)(hp hp1:Heap)(hz:zal args hp=some ([(none,.sl (some 4) (Tm.pvs l)),(some 4,t.pv),(none,.bool b)],hp1))(hl:Tm.sizes l+t.size<1000000000)(hv:zak l=true)(ht:t.valid=true)(pl:l.all (okK b)=true)(pt:okK b t=true):
  S 45 args hp=some (.ret (.pv none (.sl (some 4) (Tm.pvs (insK b l t)))),hp1):=
 zdp rfl rfl rfl hz (zkT b l t hl hv ht pl pt [])
def zaz(b:Bool)(l:List Tm):List Tm:=l.foldl (insK b) []
theorem zfr(b:Bool)(l:List Tm)(t:Tm):zaz b (l++[t])=insK b (zaz b l) t:=by simp[zaz]
theorem zdZ(b:Bool):∀(l acc:List Tm),(∀x,x∈l.foldl (insK b) acc↔x∈acc\/x∈l)/\Tm.sizes (l.foldl (insK b) acc)=Tm.sizes acc+Tm.sizes l/\(l.foldl (insK b) acc).length=acc.length+l.length
 |[],acc=>⟨fun x=>by simp,by simp[Tm.sizes],by simp⟩
 |t::l,acc=>by
  obtain⟨h1,h2,h3⟩:=zdZ b l (insK b acc t)
  simp only[List.foldl_cons]
  refine⟨fun x=> ?_,?_,?_⟩
  ·rw[h1,zqn,List.mem_cons,or_assoc]
  ·rw[h2,zmO];simp only[Tm.sizes];omega
  ·rw[h3,zkS,List.length_cons];omega
theorem zbC(b:Bool)(l:List Tm):(∀x,x∈zaz b l↔x∈l)/\Tm.sizes (zaz b l)=Tm.sizes l/\(zaz b l).length=l.length:=by
 obtain⟨h1,h2,h3⟩:=zdZ b l []
 exact⟨fun x=>by unfold zaz;rw[h1];simp,by unfold zaz;rw[h2];simp[Tm.sizes],by unfold zaz;rw[h3];simp⟩
theorem zb0{b:Bool}{l:List Tm}(h:zak l=true):zak (zaz b l)=true:=
 List.all_eq_true.2 fun x hx=>List.all_eq_true.1 h x (((zbC b l).1 x).1 hx)

theorem zrx{b:Bool}{l:List Tm}(hs:Srt (kC b) l)(t:Tm):insK b l t=insC (kC b) t l:=by
 have key:∀n,n<=l.length->(∀x∈l.drop n,0<kC b x t)->l.take (za3 b l t n)++t::l.drop (za3 b l t n)=insC (kC b) t l:=by
  intro n
  induction n with
  |zero=>
   intro _ h
   have:=zdO (c:=kC b) (t:=t) (A:=[]) (B:=l) (by simp) (fun x hx=>by have:=h x (by simpa using hx);rw[(zg7 b).neg x t];omega)
   simpa[za3] using this.symm
  |succ n ih=>
   intro hn h
   obtain⟨x,hx⟩:∃x,l[n]? =some x:=⟨_,List.getElem?_eq_getElem (by omega)⟩
   obtain⟨q1,q2⟩:=List.getElem?_eq_some_iff.1 hx
   unfold za3
   rw[hx]
   simp only
   split
   ·rename_i hgt
    refine ih (by omega) fun y hy=> ?_
    rw[List.drop_eq_getElem_cons q1,q2] at hy
    rcases List.mem_cons.1 hy with rfl|hy
    ·exact hgt
    ·exact h y hy
   ·rename_i hle
    have:=zdO (c:=kC b) (t:=t) (A:=l.take (n+1)) (B:=l.drop (n+1)) (fun y hy=> ?_) (fun y hy=>by have:=h y hy;rw[(zg7 b).neg y t];omega)
    ·rw[List.take_append_drop] at this
     exact this.symm
    ·rw[zgn hx] at hy
     have hyx:kC b y x<=0:=by
      rcases List.mem_append.1 hy with hy|hy
      ·have hs':=hs
       rw[<-List.take_append_drop n l,List.drop_eq_getElem_cons q1,q2] at hs'
       exact(List.pairwise_append.1 hs').2.2 y hy x List.mem_cons_self
      ·rw[List.mem_singleton] at hy
       rw[hy,(zg7 b).self];omega
     have:=(zg7 b).trans hyx (show kC b x t<=0 by omega)
     have:=(zg7 b).neg y t
     omega
 unfold insK
 exact key l.length (Nat.le_refl _) (by simp)
theorem zg9(b:Bool)(l:List Tm):zaz b l=isort (kC b) l:=by
 suffices h:∀(l A:List Tm),Srt (kC b) A->l.foldl (insK b) A=l.foldl (fun s t=>insC (kC b) t s) A from h l [] List.Pairwise.nil
 intro l
 induction l with
 |nil=>intro A _;rfl
 |cons t l ih=>
  intro A hA
  simp only[List.foldl_cons]
  rw[zrx hA]
  exact ih _ (zlr (zg7 b) hA t)
theorem zkU{b:Bool}{l:List Tm}{p:Tm->Bool}(h:l.all p=true):(zaz b l).all p=true:=
 List.all_eq_true.2 fun x hx=>List.all_eq_true.1 h x (((zbC b l).1 x).1 hx)
theorem zoY(t:Tm)(hp:Heap):S 46 [.pv (some 4) t.pv] hp=some (.ret (.pv none (.bool (zaO t))),hp):=by
 refine zap rfl rfl rfl (zab [(some 4,t.pv)]) rfl ?_
 by_cases k1:t.kind=3
 ·have k1':=eq_true k1
  by_cases k2:t.name=[45]
  ·have k2':=eq_true k2
   by_cases k3:t.args.length=2
   ·have k3':=eq_true (show(t.args.length:Int)=2 by omega)
    have e:zaO t=true:=by simp[zaO,k1,k2,k3]
    simp -dsimp -implicitDefEqProofs only[go_sem,seval,↓reduceIte,zaK,zaN,zag,Tm.pvs_len,k1',k2',k3',e]
    try rfl
   ·have k3':=eq_false (show ¬(t.args.length:Int)=2 by omega)
    have e:zaO t=false:=by simp[zaO,k3]
    simp -dsimp -implicitDefEqProofs only[go_sem,seval,↓reduceIte,zaK,zaN,zag,Tm.pvs_len,k1',k2',k3',e]
    try rfl
  ·have k2':=eq_false k2
   have e:zaO t=false:=by simp[zaO,k2]
   simp -dsimp -implicitDefEqProofs only[go_sem,seval,↓reduceIte,zaK,zaN,zag,Tm.pvs_len,k1',k2',e]
   try rfl
 ·have k1':=eq_false k1
  have e:zaO t=false:=by simp[zaO,k1]
  simp -dsimp -implicitDefEqProofs only[go_sem,seval,↓reduceIte,zaK,zaN,zag,Tm.pvs_len,k1',e]
  try rfl
theorem zqo(l:List Tm)(hl:Tm.sizes l<100000000)(hp:Heap):S 21 [.pv none (.sl (some 4) (Tm.pvs l))] hp=some (.ret (.tuple [.pv none (.sl (some 4) (Tm.pvs (zcj l))),.pv none (.int .i64 (zdV l))]),hp):=by
 refine zap rfl rfl rfl (zab [(none,.sl (some 4) (Tm.pvs l))]) rfl ?_
 have hlen:=Tm.zsz l
 have h2:=fun hp=>zc1 l (by omega) hp
 have hn0:∀H:Heap,zb2 (some 4) H=some (.sl (some 4) H.length 0 0 0,H++[.arr (some 4) [] false]):=fun H=>zba (sh:=some 4) (by decide)
 by_cases hv:zak l=true
 ·simp -dsimp -implicitDefEqProofs only[go_sem,seval,↓reduceIte,h2,hv,hn0]
  refine zaE (fun n st=>∃i:Nat,n=l.length - i/\i<=l.length/\(l.take i).all zaO=true/\st=⟨[(0,.pv none (.sl (some 4) (Tm.pvs l))),(4,.pv none (.int .i64 i))],[.arr (some 4) [] false]⟩) (n:=l.length) ⟨0,rfl,Nat.zero_le _,rfl,rfl⟩ ?_
  rintro n st ⟨i,hn,hi,hall,rfl⟩
  by_cases h:i<l.length
  ·have hc:(i:Int)<(l.length:Int):=by omega
   obtain⟨x,hx⟩:∃x,l[i]? =some x:=⟨_,List.getElem?_eq_getElem h⟩
   have hm:=List.mem_of_getElem? hx
   have w2:IntKind.i64.wrap ((i:Int)+1)=((i+1:Nat):Int):=by rw[zaj (by omega) (by omega)];omega
   have hpr:=zoY x
   cases hpx:zaO x with
   |true=>
    rw[hpx] at hpr
    simp -dsimp -implicitDefEqProofs only[go_sem,seval,↓reduceIte,Tm.pvs_len,hc,zad (Tm.pvs_get hx),hpr,w2]
    exact⟨l.length - (i+1),by omega,i+1,rfl,by omega,by rw[List.take_add_one,hx];simp[hall,hpx],rfl⟩
   |false=>
    rw[hpx] at hpr
    have ha:l.all zaO=false:=List.all_eq_false.2 ⟨x,hm,by simp[hpx]⟩
    have e1:zcj l=[]:=by unfold zcj;simp[ha]
    have e2:zdV l=3:=by unfold zdV;simp[hv,ha]
    simp -dsimp -implicitDefEqProofs only[go_sem,seval,↓reduceIte,Tm.pvs_len,hc,zad (Tm.pvs_get hx),hpr,hn0,e1,e2]
    try rfl
  ·have hc:¬(i:Int)<(l.length:Int):=by omega
   obtain rfl:i=l.length:=by omega
   rw[List.take_length] at hall
   have e1:zcj l=zaz true l:=by unfold zcj;rw[if_pos ⟨hv,hall⟩,zg9];rfl
   have e2:zdV l=0:=by unfold zdV;rw[if_pos hv,if_pos hall]
   simp -dsimp -implicitDefEqProofs only[go_sem,seval,↓reduceIte,Tm.pvs_len,hc,hn0]
   refine zaE (fun n st=>∃i:Nat,n=l.length - i/\i<=l.length/\((i=0/\st=⟨[(0,.pv none (.sl (some 4) (Tm.pvs l))),(5,.sl (some 4) 1 0 0 0),(6,.pv none (.int .i64 0))],[.arr (some 4) [] false,.arr (some 4) [] false]⟩)\/
   ∃fz,st=⟨[(0,.pv none (.sl (some 4) (Tm.pvs l))),(5,.pv none (.sl (some 4) (Tm.pvs (zaz true (l.take i))))),(6,.pv none (.int .i64 i))],[.arr (some 4) [] false,.arr (some 4) [] fz]⟩)) (n:=l.length) ⟨0,rfl,Nat.zero_le _,.inl ⟨rfl,rfl⟩⟩ ?_
   rintro n st ⟨i,hn,hi,hst⟩
   by_cases h:i<l.length
   ·have hc:(i:Int)<(l.length:Int):=by omega
    obtain⟨x,hx⟩:∃x,l[i]? =some x:=⟨_,List.getElem?_eq_getElem h⟩
    have hm:=List.mem_of_getElem? hx
    have hsx:=Tm.zsA hm
    have hst':=Tm.zsB l i
    have w2:IntKind.i64.wrap ((i:Int)+1)=((i+1:Nat):Int):=by rw[zaj (by omega) (by omega)];omega
    have nx:insK true (zaz true (l.take i)) x=zaz true (l.take (i+1)):=by rw[List.take_add_one,hx,<-zfr];rfl
    have hva:zak (zaz true (l.take i))=true:=zb0 (List.all_eq_true.2 fun y hy=>List.all_eq_true.1 hv y (List.mem_of_mem_take hy))
    have hpa:(zaz true (l.take i)).all zaO=true:=zkU (List.all_eq_true.2 fun y hy=>List.all_eq_true.1 hall y (List.mem_of_mem_take hy))
    have hpx:=List.all_eq_true.1 hall x hm
    rcases hst with⟨rfl,rfl⟩|⟨fz,rfl⟩
    ·have hcall:=zc2 true [] x [.sl (some 4) 1 0 0 0,.pv (some 4) x.pv,.pv none (.bool true)] [.arr (some 4) [] false,.arr (some 4) [] false] [.arr (some 4) [] false,.arr (some 4) [] true] rfl (by simp[Tm.sizes];omega) rfl (zar hv hm) rfl hpx
     have hc:(0:Int)<(l.length:Int):=by omega
     have w1:IntKind.i64.wrap ((0:Int)+1)=((1:Nat):Int):=by rw[zaj (by omega) (by omega)];rfl
     have nx':insK true [] x=zaz true (l.take 1):=nx
     simp -dsimp -implicitDefEqProofs only[go_sem,seval,↓reduceIte,Tm.pvs_len,hc,zci (Tm.pvs_get hx),hcall,w1,nx']
     exact⟨l.length - 1,by omega,1,rfl,by omega,.inr ⟨true,rfl⟩⟩
    ·have hcall:=fun hp=>zc2 true (zaz true (l.take i)) x [.pv none (.sl (some 4) (Tm.pvs (zaz true (l.take i)))),.pv (some 4) x.pv,.pv none (.bool true)] hp hp (zab [(none,.sl (some 4) (Tm.pvs (zaz true (l.take i)))),(some 4,x.pv),(none,.bool true)]) (by rw[(zbC true _).2.1];omega) hva (zar hv hm) hpa hpx
     simp -dsimp -implicitDefEqProofs only[go_sem,seval,↓reduceIte,Tm.pvs_len,hc,zad (Tm.pvs_get hx),hcall,w2,nx]
     exact⟨l.length - (i+1),by omega,i+1,rfl,by omega,.inr ⟨fz,rfl⟩⟩
   ·have hc:¬(i:Int)<(l.length:Int):=by omega
    obtain rfl:i=l.length:=by omega
    rcases hst with⟨h0,rfl⟩|⟨fz,rfl⟩
    ·have hnil:l=[]:=List.length_eq_zero_iff.1 h0
     subst hnil
     have hz:¬(0:Int)<((0:Nat):Int):=by decide
     simp -dsimp -implicitDefEqProofs only[go_sem,seval,↓reduceIte,Tm.pvs,hz,e1,e2]
     rfl
    ·rw[List.take_length]
     simp -dsimp -implicitDefEqProofs only[go_sem,seval,↓reduceIte,Tm.pvs_len,hc,e1,e2]
 ·have e1:zcj l=[]:=by unfold zcj;rw[if_neg (fun e=>hv e.1)]
  have e2:zdV l=1:=by unfold zdV;rw[if_neg hv]
  simp -dsimp -implicitDefEqProofs only[go_sem,seval,↓reduceIte,h2,hv,hn0,e1,e2]
  rfl
end Go.Proofs.Yteaehiceghhajaa
