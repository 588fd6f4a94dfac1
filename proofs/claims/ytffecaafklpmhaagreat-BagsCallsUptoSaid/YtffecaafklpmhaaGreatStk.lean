/- What is proved: the program's occurs. -/
import Derived.Test.YtffecaafklpmhaaGreatRv
set_option linter.unusedSimpArgs false
set_option linter.unusedVariables false
namespace Go.Proofs.YtffecaafklpmhaaGreat
open Go.Am
def inR(l:List B)(v:Int)(t:Tm):Prop:=v∈(rs l t).occ
theorem qp{l:List B}(h:Acyc l){v:Int}{t:Tm}(hv:t.fits=true)(hk:t.kind=0)(hf:¬fndB l t.n=true):inR l v t↔v=t.n:=by
 unfold inR;rw[qk h hv hk hf,Tm.zyW,Zb hk];simp
theorem jD{l:List B}(h:Acyc l){v:Int}{t:Tm}(hk:t.kind=0)(hf:fndB l t.n=true):inR l v t↔inR l v (toB l t.n):=by
 unfold inR;rw[QF h hk,Zb hf]
theorem Jn{l:List B}{v:Int}{t:Tm}(hk:¬t.kind=0):inR l v t↔∃u∈t.args,inR l v u:=by
 unfold inR;rw[xu l hk,Tm.zyW,Za (by exact hk)];constructor
 ·intro h;obtain⟨u,hu,h⟩:=Tm.zza h;obtain⟨x,hx,rfl⟩:=Z2.1 hu;exact⟨x,hx,h⟩
 ·rintro⟨u,hu,h⟩;exact Tm.zy9 (Z2.2 ⟨u,hu,rfl⟩) h
def SeenPre(l:List B)(v:Int)(sn:Int->Prop)(t:Tm):Prop:=∀w,sn w->fndB l w=true/\(¬inR l v (tvar w)\/mu l t<mu l (tvar w))
structure SeenPost(l:List B)(v:Int)(sn sn':Int->Prop)(t:Tm)(b:Bool):Prop where
 yes:b=true->inR l v t
 no:b=false->¬inR l v t/\∀w,sn' w->sn w\/(fndB l w=true/\¬inR l v (tvar w))
theorem SeenPre.arg{l:List B}{v:Int}{sn:Int->Prop}{t u:Tm}(h:SeenPre l v sn t)(hm:mu l u<mu l t):SeenPre l v sn u:=fun w hw=>by
 obtain⟨h1,h2|h2⟩:=h w hw
 ·exact⟨h1,.inl h2⟩
 ·exact⟨h1,.inr (by omega)⟩
theorem jE{l:List B}{t:Tm}(hv:t.fits=true)(hk:t.kind=0):mu l (tvar t.n)=mu l t:=by rw[<-yn hv hk]
theorem SeenPre.old{l:List B}{v:Int}{sn:Int->Prop}{t:Tm}(h:SeenPre l v sn t)(hv:t.fits=true)(hk:t.kind=0)(hs:sn t.n):¬inR l v t:=by
 obtain⟨_,h2|h2⟩:=h t.n hs
 ·rw[<-yn hv hk] at h2;exact h2
 ·rw[jE hv hk] at h2;exact absurd h2 (Nat.lt_irrefl _)
theorem SeenPre.new{l:List B}{v:Int}{sn:Int->Prop}{t:Tm}(h:SeenPre l v sn t)(ha:Acyc l)(hv:t.fits=true)(hk:t.kind=0)(hf:fndB l t.n=true):SeenPre l v (fun w=>w=t.n\/sn w) (toB l t.n):=fun w hw=>by
 have hlt:=yZ ha hk hf;rcases hw with rfl|hw
 ·exact⟨hf,.inr (by rw[jE hv hk];exact hlt)⟩
 ·exact h.arg hlt w hw
theorem SeenPost.new{l:List B}{v:Int}{sn sn':Int->Prop}{t:Tm}{b:Bool}(h:SeenPost l v (fun w=>w=t.n\/sn w) sn' (toB l t.n) b)(ha:Acyc l)(hv:t.fits=true)(hk:t.kind=0)(hf:fndB l t.n=true):SeenPost l v sn sn' t b:=
 ⟨fun hb=>(jD ha hk hf).2 (h.yes hb),fun hb=>by
  obtain⟨h1,h2⟩:=h.no hb;refine⟨fun e=>h1 ((jD ha hk hf).1 e),fun w hw=> ?_⟩;rcases h2 w hw with(rfl|h3)|h3
  ·exact .inr ⟨hf,fun e=>h1 ((jD ha hk hf).1 (by rw[yn hv hk];exact e))⟩
  ·exact .inl h3
  ·exact .inr h3⟩
def unS(f:Int->Int):List B->Nat
 |[]=>0
 |b::r=>(if f b.1=0 then b.2.size else 0)+unS f r
theorem Vf{f g:Int->Int}(h:∀w,f w≠0->g w≠0):∀l:List B,unS g l<=unS f l
 |[]=>Zi _
 |b::r=>by
  have ih:=Vf h r;unfold unS;by_cases h1:g b.1=0
  ·have h2:f b.1=0:=by
    rcases Int.lt_trichotomy (f b.1) 0 with h3|h3|h3
    ·exact absurd h1 (h _ (by omega))
    ·exact h3
    ·exact absurd h1 (h _ (by omega))
   rw[Zb h1,Zb h2];omega
  ·rw[Za h1];omega
theorem GI{f g:Int->Int}(h:∀w,f w≠0->g w≠0){v:Int}(h0:f v=0)(h1:g v≠0){t:Tm}:∀{l:List B},(v,t)∈l->unS g l+t.size<=unS f l
 |[],hm=>by cases hm
 |b::r,hm=>by
  have hle:=Vf h r;rcases Zt.1 hm with rfl|hm
  ·simp only[unS];rw[Za h1,Zb h0];omega
  ·have ih:=GI h h0 h1 hm;simp only[unS];by_cases h2:g b.1=0
   ·have h2:f b.1=0:=by
     rcases Int.lt_trichotomy (f b.1) 0 with h3|h3|h3
     ·exact absurd h2 (h _ (by omega))
     ·exact h3
     ·exact absurd h2 (h _ (by omega))
    split <;> omega
   ·rw[Za h2];omega
theorem IsS.setm{s:AV}{hp:Heap}{l:List B}(h:IsS s hp l){r:Nat}{sh:Sh}{es:List (PV × PV)}(hr:hp[r]? =some (.map sh es))(X:AObj):IsS s (hp.set r X) l:=by
 rcases h with h|h|⟨q,h1,h2⟩
 ·exact .inl h
 ·exact .inr (.inl h)
 ·refine .inr (.inr ⟨q,h1,?_⟩);have:r≠q:=fun e=>by rw[e,h2] at hr;cases hr
  rw[Zy this];exact h2
structure OcR(l:List B)(v:Int)(t:Tm)(f:Int->Int)(m':List (Int × PV))(b:Bool)(f':Int->Int):Prop where
 map:MapI m' f'
 pos:∀w,0<=f' w
 mono:∀w,f w≠0->f' w≠0
 post:SeenPost l v (fun w=>f w≠0) (fun w=>f' w≠0) t b
 cost:∀w,f' w+(unS f' l:Int)<=f w+t.size+unS f l
theorem mL(l:List B)(hO:OKB l)(hl:l.length<1000000000)(v:Int)(s:AV):∀(k:Nat) (t:Tm) (hp:Heap) (r:Nat) (m:List (Int × PV)) (f:Int->Int),mu l t=k->t.valid=true->hp[r]? =some (.map none (Yl m))->IsS s hp l->MapI m f->(∀w,0<=f w)->SeenPre l v (fun w=>f w≠0) t->(∀w,f w+t.size+unS f l<=1000000000000000)->
  ∃(m':List (Int × PV)) (b:Bool) (f':Int->Int),S 157 [s,O8 v,t.av,.map r] hp=some (.ret (O9 b),hp.set r (.map none (Yl m')))/\OcR l v t f m' b f':=by
 intro k
 induction k using Nat.strongRecOn with
 |_ k ih=>
  intro t hp r m f hk hv hr hS hM hpos hpre hbig;have hlt:=Y9 hr;have htz:=valid_size hv;have hself:hp.set r (.map none (Yl m))=hp:=by
   obtain⟨_,h⟩:=Ze.1 hr;rw[<-h];exact List.set_getElem_self _
  have hg0:∀(X:AObj) (e:Heap),(hp.set r X++e)[hp.length]? =e[0]? :=fun X e=>YY (by simp);have hg1:∀(X:AObj) (e:Heap) (k:Nat),(hp.set r X++e)[hp.length+k]? =e[k]? :=fun X e k=>getN (by simp) k;have hlen:∀(X:AObj),(hp.set r X).length=hp.length:=fun X=>by simp
  have hs1:∀(X Y:AObj) (e:Heap) (k:Nat),(hp.set r X++e).set (hp.length+k) Y=hp.set r X++e.set k Y:=fun X Y e k=>setN (by simp) k Y;have hrr:∀(X:AObj) (e:Heap),(hp.set r X++e)[r]? =some X:=fun X e=>by rw[Zx (by simpa using hlt),ZG hlt]
  have hss:∀(X Y:AObj) (e:Heap),(hp.set r X++e).set r Y=hp.set r Y++e:=fun X Y e=>by rw[ZW _ _ (by simpa using hlt),Z8]
  suffices hP:∃v' hp',S 157 [s,O8 v,t.av,.map r] hp=some (.ret v',hp')/\∃(m':List (Int × PV)) (b:Bool) (f':Int->Int),v'=O9 b/\hp'=hp.set r (.map none (Yl m'))/\OcR l v t f m' b f' by
   obtain⟨v',hp',h1,m',b,f',rfl,rfl,h2⟩:=hP;exact⟨m',b,f',h1,h2⟩
  refine xp _ rfl rfl rfl rfl ?_;by_cases hk0:t.kind=0
  ·have hk':=Zj hk0;by_cases hf:fndB l t.n=true
   ·have hb:=fun e=>jB (hS.more e) hO.good.1 hl t hk0 hf;obtain⟨hto,_⟩:=hO.to hf;have hlt2:=yZ hO.Acyc hk0 hf;have hts1:t.size=1:=by rw[yn (valid_fits hv) hk0];rfl
    have hlk:∀e:Heap,yh false none (O8 0) false (hp++e) [.map r,O8 t.n]=some (O8 (f t.n)):=fun e=>by
     rw[QJ (m:=m) (by rw[Zx hlt];exact hr),hM]
    have hms:∀(x:Int) (e:Heap),Xr false none (hp++e) [.map r,O8 t.n,O8 x]=some (.undef,hp.set r (.map none (Yl (mPut t.n (.int .i64 x) m)))++e):=fun x e=>by
     have:=q9 (str:=false) (sh:=none) (s:=none) (hp:=hp.set r (.map none (Yl m))++e) (r:=r) (k:=.int .i64 t.n) (p:=.int .i64 x) (es:=Yl m) (hrr _ _) (qm _ _ _);rw[hss,hself] at this;exact this
    have hlk2:∀(x:Int) (e:Heap),yh false none (O8 0) false (hp.set r (.map none (Yl (mPut t.n (.int .i64 x) m)))++e) [.map r,O8 t.n]=some (O8 x):=fun x e=>by
     rw[QJ (m:=mPut t.n (.int .i64 x) m) (hrr _ _),Jl,Zb rfl];rfl
    have hb1:=hbig t.n;have hb2:=hpos t.n;have w1:IntKind.i64.wrap (f t.n+1)=f t.n+1:=zZ (by omega) (by omega);have hM1:=hM.put t.n (f t.n+1);have hmono1:∀w,f w≠0->(fun w=>if w=t.n then f t.n+1 else f w) w≠0:=fun w hw=>by
     by_cases e:w=t.n
     ·simp only[Zb e];omega
     ·simp only[Za e];exact hw
    have hpos1:∀w,0<=(fun w=>if w=t.n then f t.n+1 else f w) w:=fun w=>by
     by_cases e:w=t.n
     ·simp only[Zb e];omega
     ·simp only[Za e];exact hpos w
    simp only[Tm.av] at hb;by_cases h0:f t.n=0
    ·rw[h0] at hM1 hmono1 hpos1;simp only[Int.zero_add] at hM1 hmono1 hpos1;have hun:=GI hmono1 h0 (by simp) (find_mem hf);have hbig1:∀w,(fun w=>if w=t.n then(1:Int) else f w) w+(toB l t.n).size+unS (fun w=>if w=t.n then(1:Int) else f w) l<=1000000000000000:=fun w=>by
      have h3:=hbig w;have h4:=hpos w;by_cases e:w=t.n
      ·simp only[Zb e];omega
      ·simp only[Za e];omega
     have hpre1:SeenPre l v (fun w=>(fun w=>if w=t.n then(1:Int) else f w) w≠0) (toB l t.n):=fun w hw=>by
      refine hpre.new hO.Acyc (valid_fits hv) hk0 hf w ?_;by_cases e:w=t.n
      ·exact .inl e
      ·simp only[Za e] at hw;exact .inr hw
     obtain⟨m2,bb,f2,hcall,hR⟩:=ih _ (by omega) (toB l t.n) (hp.set r (.map none (Yl (mPut t.n (.int .i64 1) m)))++[.box (some 4) (.pv (some 4) t.pv),.box (some 4) (.pv (some 4) (toB l t.n).pv),.arr (some 4) [] false]) r _ _ rfl hto (hrr _ _) ((hS.setm hr _).more _) hM1 hpos1 hpre1 hbig1;rw[hss] at hcall;simp only[Tm.av] at hcall;rw[h0] at w1;simp only[Int.zero_add] at w1;simp -dsimp -implicitDefEqProofs only[go_sem,seval,↓reduceIte,Tm.av,Ya,Yh,hk',hb,hlk,h0,w1,hms,hlk2,hcall,hg0,hg1,Int.zero_add,Yc (ZA _ _),Zd,zW,z6,z7,z9,Zh,Zc];refine⟨m2,bb,f2,rfl,?_,hR.map,hR.pos,fun w hw=>hR.mono w (hmono1 w hw),?_,fun w=> ?_⟩
     ·rw[Zb (by simp[AV.refsIn])];exact ZD (by simp)
     ·have hq:SeenPost l v (fun w=>w=t.n\/f w≠0) (fun w=>f2 w≠0) (toB l t.n) bb:=⟨hR.post.yes,fun hb=>⟨(hR.post.no hb).1,fun w hw=>((hR.post.no hb).2 w hw).imp (fun h=>by
       by_cases e:w=t.n
       ·exact .inl e
       ·simp only[Za e] at h;exact .inr h) id⟩⟩
      exact hq.new hO.Acyc (valid_fits hv) hk0 hf
     ·have h3:=hR.cost w;have h4:=hpos w;by_cases e:w=t.n
      ·simp only[Zb e] at h3;omega
      ·simp only[Za e] at h3;omega
    ·have h1:¬f t.n+1=1:=by omega
     simp -dsimp -implicitDefEqProofs only[go_sem,seval,↓reduceIte,Tm.av,Ya,Yh,hk',hb,hlk,h1,w1,hms,hlk2,hg0,hg1,Yc (ZA _ _),Zd,zW,z6,z7,z9,Zh,Zc];refine⟨_,false,_,rfl,?_,hM1,hpos1,hmono1,⟨(fun e=>by cases e),fun _=>⟨hpre.old (valid_fits hv) hk0 h0,fun w hw=> ?_⟩⟩,fun w=> ?_⟩
     ·rw[Zb (by simp[AV.refsIn])];exact ZD (by simp)
     ·by_cases e:w=t.n
      ·rw[e];exact .inl h0
      ·simp only[Za e] at hw;exact .inl hw
     ·have h3:=Vf hmono1 l;by_cases e:w=t.n
      ·simp only[Zb e];rw[e];omega
      ·simp only[Za e];omega
   ·have hb:=fun e=>jC (hS.more e) hO.good.1 hl t fun h=>hf h.2;simp only[Tm.av] at hb;simp -dsimp -implicitDefEqProofs only[go_sem,seval,↓reduceIte,Tm.av,Ya,Yh,hk',hb,bndX,zagg,Y0,Yc (ZA _ _),Zd,zW,z6,z7,z9,Zh,Zc];refine⟨m,decide (t.n=v),f,rfl,?_,hM,hpos,fun _ h=>h,⟨fun h=> ?_,fun h=>⟨fun e=> ?_,fun w hw=>.inl hw⟩⟩,fun w=>by omega⟩
    ·rw[Zb (by simp[AV.refsIn]),hself];exact zj
    ·exact(qp hO.Acyc (valid_fits hv) hk0 hf).2 (ze h).symm
    ·exact of_decide_eq_false h ((qp hO.Acyc (valid_fits hv) hk0 hf).1 e).symm
  ·have hk':=Zl hk0;simp -dsimp -implicitDefEqProofs only[go_sem,seval,↓reduceIte,Tm.av,Ya,zV,Tm.pvs_len,hk',Zd,zW,z6,z7,z9,Zh,Zc];refine Yv (α:=List (Int × PV)) t.args.length (fun i m2=>∃f2:Int->Int,MapI m2 f2/\(∀w,0<=f2 w)/\(∀w,f w≠0->f2 w≠0)/\(∀j,j<i->∀u,t.args[j]? =some u->¬inR l v u)/\(∀w,f2 w≠0->f w≠0\/(fndB l w=true/\¬inR l v (tvar w)))/\∀w,f2 w+(unS f2 l:Int)<=f w+Tm.sizes (t.args.take i)+unS f l)
    (fun i m2=>⟨[(0,s),(1,O8 v),(3,.map r),(46,.pv none (.sl (some 4) (Tm.pvs t.args))),(47,O8 t.args.length),(48,O8 i)],hp.set r (.map none (Yl m2))++[.box (some 4) (.pv (some 4) t.pv)]⟩) m ⟨⟨f,hM,hpos,fun _ h=>h,fun j hj=>by omega,fun w hw=>.inl hw,fun w=>by simp[Tm.sizes]⟩,?_⟩ ?_ ?_
   ·rw[hself];rfl
   ·rintro i m2 h ⟨f2,q1,q2,q3,q4,q5,q6⟩;have hc:(i:Int)<(t.args.length:Int):=by omega
    obtain⟨u,hu⟩:∃u,t.args[i]? =some u:=⟨_,Zf h⟩;have hum:=Zk hu;have hmu:=xr l hk0 hum;have hst:=Tm.zyV hu;have hle:=Tm.zyS t.args (i+1);have hts:=t.size_eq;have hlen2:=Tm.zyN t.args;have hpre2:SeenPre l v (fun w=>f2 w≠0) u:=fun w hw=>by
     rcases q5 w hw with h|⟨h1,h2⟩
     ·exact hpre.arg hmu w h
     ·exact⟨h1,.inl h2⟩
    obtain⟨m3,bb,f3,hcall,hR⟩:=ih _ (by omega) u (hp.set r (.map none (Yl m2))++[.box (some 4) (.pv (some 4) t.pv),.box (some 4) (.pv (some 4) u.pv),.arr (some 4) [] false]) r m2 f2 rfl (YK hv hum) (hrr _ _) ((hS.setm hr _).more _) q1 q2 hpre2 (fun w=>by have:=q6 w;have:=hbig w;omega);rw[hss] at hcall;simp only[Tm.av] at hcall;have w2:=O0 i (by omega)
    cases bb with
    |true=>
     simp -dsimp -implicitDefEqProofs only[c157b18,go_sem,seval,↓reduceIte,hc,zY (Tm.pvs_get hu),hcall,hlen,hg0,hg1,hs1,Zd,zW,z6,z7,z9,Zh,Zc];refine⟨m3,true,f3,rfl,?_,hR.map,hR.pos,fun w hw=>hR.mono w (q3 w hw),⟨fun _=>(Jn hk0).2 ⟨u,hum,hR.post.yes rfl⟩,fun e=>by cases e⟩,fun w=> ?_⟩
     ·rw[Zb (by simp[AV.refsIn])];exact ZD (by simp)
     ·have:=hR.cost w;have:=q6 w;omega
    |false=>
     obtain⟨n1,n2⟩:=hR.post.no rfl;simp -dsimp -implicitDefEqProofs only[c157b18,go_sem,seval,↓reduceIte,hc,zY (Tm.pvs_get hu),hcall,w2,hlen,hg0,hg1,hs1,Zd,zW,z6,z7,z9,Zh,Zc];refine⟨m3,⟨f3,hR.map,hR.pos,fun w hw=>hR.mono w (q3 w hw),fun j hj x hx=> ?_,fun w hw=> ?_,fun w=> ?_⟩,?_⟩
     ·rcases Zq j i with h|h
      ·exact q4 j h x hx
      ·have:j=i:=by omega
       subst this;rw[hu] at hx;cases hx;exact n1
     ·rcases n2 w hw with h|h
      ·exact q5 w h
      ·exact .inr h
     ·have:=hR.cost w;have:=q6 w;omega
     ·rw[Xd 1 (by simp) rfl (by simp[AObj.refs,AV.refsIn]) (by simp[AV.refsIn,AV.refsIn.gol,hS.low];omega)];rfl
   ·rintro m2 ⟨f2,q1,q2,q3,q4,q5,q6⟩;have hc:¬(t.args.length:Int)<(t.args.length:Int):=by omega
    have hts:=t.size_eq;simp -dsimp -implicitDefEqProofs only[c157b18,go_sem,seval,↓reduceIte,hc];refine⟨m2,false,f2,rfl,?_,q1,q2,q3,⟨(fun e=>by cases e),fun _=>⟨fun e=> ?_,q5⟩⟩,fun w=> ?_⟩
    ·rw[Zb (by simp[AV.refsIn])];exact ZD (by simp)
    ·obtain⟨u,hu,h⟩:=(Jn hk0).1 e;obtain⟨j,hj,rfl⟩:=zi hu;exact q4 j hj _ (Zf hj) h
    ·have:=q6 w;rw[ZC] at this;omega
theorem GJ(f:Int->Int):∀l:List B,(∀b∈l,b.2.size<=1000000)->unS f l<=1000000*l.length
 |[],_=>Zg _
 |b::r,h=>by
  have ih:=GJ f r fun c hc=>h c (Zu _ hc);have h1:=h b Zv;simp only[unS,ZB];split <;> omega
theorem Vg:∀(a b:List Int),a.Nodup->(∀x∈a,x∈b)->a.length<=b.length
 |[],_,_,_=>Zg _
 |x::a,b,h,hs=>by
  have hx:=hs x Zv;have h1:=List.nodup_cons.1 h;have ih:=Vg a (b.erase x) h1.2 fun y hy=>(List.mem_erase_of_ne (fun e=>h1.1 (by rw[<-e];exact hy))).2 (hs y (Zu _ hy));have h2:=List.length_erase_of_mem hx;have h3:=List.length_pos_of_mem hx;simp only[ZB];omega
theorem GK{l:List B}{σ:List Int}(h1:σ.Nodup)(h2:∀w∈σ,fndB l w=true):σ.length<=l.length:=by
 have:=Vg σ (l.map (·.1)) h1 fun w hw=>by
  exact Z2.2 ⟨_,find_mem (h2 w hw),rfl⟩
 simpa using this
def HS(hp:Heap)(q r:Nat)(σ:List Int):Heap:=(hp.set q (.box none (.sl none r σ.length 0 σ.length))).set r (.arr none (ints σ) false)
def HA(hp:Heap)(q r:Nat)(σ:List Int)(x:Int):Heap:=(HS hp q r σ).set r (.arr none (ints (σ++[x])) false)
theorem qq(hp:Heap)(q r:Nat)(σ:List Int):(HS hp q r σ).length=hp.length:=by simp[HS]
theorem jF{hp:Heap}{q r:Nat}(hq:q<hp.length)(hr:r<hp.length)(σ:List Int)(e:Heap):HS (hp++e) q r σ=HS hp q r σ++e:=by
 unfold HS;rw[ZW _ _ hq,ZW _ _ (by simpa using hr)]
theorem HS_q{hp:Heap}{q r:Nat}(hq:q<hp.length)(hn:q≠r)(σ:List Int)(e:Heap):(HS hp q r σ++e)[q]? =some (.box none (.sl none r σ.length 0 σ.length)):=by
 rw[Zx (by rw[qq];exact hq)];unfold HS;rw[Zy (Ne.symm hn),ZG hq]
theorem HS_r{hp:Heap}{q r:Nat}(hr:r<hp.length)(σ:List Int)(e:Heap):(HS hp q r σ++e)[r]? =some (.arr none (ints σ) false):=by
 rw[Zx (by rw[qq];exact hr)];unfold HS;rw[ZG (by simpa using hr)]
theorem mM{hp:Heap}{q r:Nat}(hr:r<hp.length){σ:List Int}(hl:σ.length<1000000000)(x:Int)(e:Heap):
  YN none (HS hp q r σ++e) [.sl none r σ.length 0 σ.length,.tsl none [.int .i64 x]]=some (.sl none r (σ.length+1) 0 (σ.length+1),HA hp q r σ x++e):=by
 have hlim:σ.length+1<=lim:=by unfold lim;omega
 simp[YN,aappend,elems,HS_r hr σ e,yz,hlim];rw[ZW _ _ (by rw[qq];exact hr)];simp[ints,HA]
theorem mN{hp:Heap}{q r:Nat}(hq:q<hp.length)(hn:q≠r)(σ:List Int)(x:Int)(e:Heap){b:Nat}(hb:q<b):
  Yw none b (HA hp q r σ x++e) [.ptr q 0,.sl none r (σ.length+1) 0 (σ.length+1)]=some (.undef,HS hp q r (σ++[x])++e):=by
 have h1:(HA hp q r σ x++e)[q]? =some (.box none (.sl none r σ.length 0 σ.length)):=by
  rw[Zx (by unfold HA;rw[zm,qq];exact hq)];unfold HA;rw[Zy (Ne.symm hn)];have:=HS_q (r:=r) hq hn σ [];rw[ZF] at this;exact this
 rw[uk hb h1,ZW _ _ (by unfold HA;rw[zm,qq];exact hq)];have:(HA hp q r σ x).set q (.box none (.sl none r (σ.length+1) 0 (σ.length+1)))=HS hp q r (σ++[x]):=by
  unfold HA HS;rw[Z8,List.set_comm _ _ hn,Z8];simp;exact List.set_comm _ _ (Ne.symm hn)
 rw[this]
theorem mO(l:List B)(hO:OKB l)(hl:l.length<100000000)(v:Int):∀(k:Nat) (t:Tm) (hp:Heap) (q r:Nat) (σ:List Int),mu l t=k->t.valid=true->q<hp.length->r<hp.length->q≠r->SeenPre l v (·∈σ) t->σ.Nodup->
  ∃(σ':List Int) (b:Bool),S 155 [.pv none (.sl (some 5) (bds l)),O8 v,t.av,.ptr q 0] (HS hp q r σ)=some (.ret (O9 b),HS hp q r σ')/\(∀w∈σ,w∈σ')/\σ'.Nodup/\(∀w∈σ',fndB l w=true)/\SeenPost l v (·∈σ) (·∈σ') t b:=by
 intro k
 induction k using Nat.strongRecOn with
 |_ k ih=>
  intro t hp q r σ hk hv hq hr hn hpre hnd;have htz:=valid_size hv;have hfn:∀w∈σ,fndB l w=true:=fun w hw=>(hpre w hw).1;have hsl:=GK hnd hfn;have hlen:=qq hp q r;have hg0:∀(σ:List Int) (e:Heap),(HS hp q r σ++e)[hp.length]? =e[0]? :=fun σ e=>YY (hlen σ);have hg1:∀(σ:List Int) (e:Heap) (k:Nat),(HS hp q r σ++e)[hp.length+k]? =e[k]? :=fun σ e k=>getN (hlen σ) k;have hs1:∀(σ:List Int) (Y:AObj) (e:Heap) (k:Nat),(HS hp q r σ++e).set (hp.length+k) Y=HS hp q r σ++e.set k Y:=fun σ Y e k=>setN (hlen σ) k Y;have hgq:=fun σ e=>HS_q (r:=r) hq hn σ e;have hgr:=fun σ e=>HS_r (q:=q) hr σ e;have ha0:∀(x:Int) (e:Heap),(HA hp q r σ x++e)[hp.length]? =e[0]? :=fun x e=>YY (by unfold HA;rw[zm];exact hlen σ);have hap:=fun x e=>mM (q:=q) hr (σ:=σ) (by omega) x e;have hst:=fun x e=>mN (r:=r) hq hn σ x e hq;have hsp:∀e:Heap,yC (HS hp q r σ++e) (HS hp q r σ++e) (.ptr q 0)=true:=fun e=>by
   simp[yC,hgq,AObj.beq,AV.beq]
  suffices hP:∃v' hp',S 155 [.pv none (.sl (some 5) (bds l)),O8 v,t.av,.ptr q 0] (HS hp q r σ)=some (.ret v',hp')/\∃(σ':List Int) (b:Bool),v'=O9 b/\hp'=HS hp q r σ'/\(∀w∈σ,w∈σ')/\σ'.Nodup/\(∀w∈σ',fndB l w=true)/\SeenPost l v (·∈σ) (·∈σ') t b by
   obtain⟨v',hp',h1,σ',b,rfl,rfl,h2⟩:=hP;exact⟨σ',b,h1,h2⟩
  refine xp _ rfl rfl rfl rfl ?_;by_cases hk0:t.kind=0
  ·have hk':=Zj hk0;have hfd:=kP l t.n hO.good.1 (by omega);by_cases hf:fndB l t.n=true
   ·have hfi:fdI l t.n=(lbB l t.n:Int):=by unfold fdI;rw[Zb hf]
    have hnn:¬((lbB l t.n:Nat):Int)<0:=by omega
    rw[hfi] at hfd;obtain⟨hto,_⟩:=hO.to hf;have hlt2:=yZ hO.Acyc hk0 hf;simp -dsimp -implicitDefEqProofs only[go_sem,seval,↓reduceIte,Tm.av,Ya,Yh,hk',hfd,hnn,hlen,hg0,hg1,Zd,zW,z6,z7,z9,Zh,Zc];refine Yv (α:=Unit) σ.length (fun i _=>∀j,j<i->σ[j]?≠some t.n) (fun i _=>⟨[(0,.pv none (.sl (some 5) (bds l))),(1,O8 v),(3,.ptr q 0),(6,.ptr hp.length 0),(9,O8 (lbB l t.n)),(10,O8 i)],HS hp q r σ++[.box (some 4) (.pv (some 4) t.pv)]⟩) () ⟨fun j hj=>by omega,rfl⟩ ?_ ?_
    ·rintro i - h hinv;have hc:(i:Int)<(σ.length:Int):=by omega
     obtain⟨b,hb⟩:∃b,σ[i]? =some b:=⟨_,Zf h⟩;have w2:=O0 i (by omega)
     have hld:∀e:Heap,aload none (HS hp q r σ++e) (.eptr none r σ.length i 0)=some (O8 b):=fun e=>by
      simp[aload,hgr,yz,xW hb,toAV]
     by_cases hbx:b=t.n
     ·simp -dsimp -implicitDefEqProofs only[go_sem,seval,↓reduceIte,Yh,hc,Yp h,hld,hbx,hlen,hg0,hg1,hgq,hgr,YD,Zd,zW,z6,z7,z9,Zh,Zc];refine⟨σ,false,rfl,?_,fun _ h=>h,hnd,hfn,⟨(fun e=>by cases e),fun _=>⟨hpre.old (valid_fits hv) hk0 (by rw[<-hbx];exact Zk hb),fun w hw=>.inl hw⟩⟩⟩;rw[Zb (by simp[AV.refsIn])];exact ZD (hlen _)
     ·simp -dsimp -implicitDefEqProofs only[go_sem,seval,↓reduceIte,Yh,hc,Yp h,hld,hbx,w2,hlen,hg0,hg1,hgq,hgr,YD,Zd,zW,z6,z7,z9,Zh,Zc];refine⟨(),?_,?_⟩
      ·intro j hj;rcases Zq j i with h|h
       ·exact hinv j h
       ·have:j=i:=by omega
        subst this;rw[hb];intro e;cases e;exact hbx rfl
      ·rw[Xd 1 (hlen _) rfl (by simp[AObj.refs,AV.refsIn]) (by simp[AV.refsIn];omega)];rfl
    ·rintro - hinv;have hc:¬(σ.length:Int)<(σ.length:Int):=by omega
     have hmem:t.n ∉ σ:=fun hm=>by
      obtain⟨j,hj,e⟩:=zi hm;exact hinv j hj (by rw[Zf hj,e])
     have hpre1:SeenPre l v (·∈σ++[t.n]) (toB l t.n):=fun w hw=>hpre.new hO.Acyc (valid_fits hv) hk0 hf w (by
      rcases Zr.1 hw with h|h
      ·exact .inr h
      ·exact .inl (ZV.1 h))
     have hnd1:(σ++[t.n]).Nodup:=List.nodup_append.2 ⟨hnd,by simp,fun a ha b hb e=>by
      rw[ZV] at hb;exact hmem (by rw[<-hb,<-e];exact ha)⟩
     obtain⟨σ2,bb,hcall,hR⟩:=ih _ (by omega) (toB l t.n) (hp++[.box (some 4) (.pv (some 4) t.pv)]) q r (σ++[t.n]) rfl hto (by simp;omega) (by simp;omega) hn hpre1 hnd1;rw[jF hq hr,jF hq hr] at hcall;simp only[Tm.av] at hcall;simp -dsimp -implicitDefEqProofs only[go_sem,seval,↓reduceIte,Yh,yY,hc,zY (Yx (XV hf)),hcall,hap,hst,ha0,hsp,qh,ZZ,zA,List.all_cons,List.all_nil,hlen,hg0,hg1,hgq,hgr,YD,Zd,zW,z6,z7,z9,Zh,Zc];obtain⟨p1,p2,p3,hR⟩:=hR;have hq:SeenPost l v (fun w=>w=t.n\/w∈σ) (·∈σ2) (toB l t.n) bb:=⟨hR.yes,fun hb=>⟨(hR.no hb).1,fun w hw=>((hR.no hb).2 w hw).imp (fun h=>by
      rcases Zr.1 h with h|h
      ·exact .inr h
      ·exact .inl (ZV.1 h)) id⟩⟩
     refine⟨σ2,bb,rfl,?_,fun w hw=>p1 w (List.mem_append_left _ hw),p2,p3,hq.new hO.Acyc (valid_fits hv) hk0 hf⟩;rw[Zb (by simp[AV.refsIn])];exact ZD (hlen _)
   ·have hfi:fdI l t.n= -1:=by unfold fdI;rw[Za hf]
    have hnn:(-1:Int)<0:=by omega
    rw[hfi] at hfd;simp -dsimp -implicitDefEqProofs only[go_sem,seval,↓reduceIte,Tm.av,Ya,Yh,hk',hfd,hnn,hlen,hg0,hg1,Zd,zW,z6,z7,z9,Zh,Zc];refine⟨σ,decide (t.n=v),rfl,?_,fun _ h=>h,hnd,hfn,⟨fun h=> ?_,fun h=>⟨fun e=> ?_,fun w hw=>.inl hw⟩⟩⟩
    ·rw[Zb (by simp[AV.refsIn])];exact ZD (hlen _)
    ·exact(qp hO.Acyc (valid_fits hv) hk0 hf).2 (ze h).symm
    ·exact of_decide_eq_false h ((qp hO.Acyc (valid_fits hv) hk0 hf).1 e).symm
  ·have hk':=Zl hk0;simp -dsimp -implicitDefEqProofs only[go_sem,seval,↓reduceIte,Tm.av,Ya,hk',hlen,hg0,hg1,Zd,zW,z6,z7,z9,Zh,Zc];refine Yv (α:=List Int) t.args.length (fun i σ2=>(∀w∈σ,w∈σ2)/\σ2.Nodup/\(∀w∈σ2,fndB l w=true)/\(∀j,j<i->∀u,t.args[j]? =some u->¬inR l v u)/\(∀w∈σ2,w∈σ\/(fndB l w=true/\¬inR l v (tvar w))))
    (fun i σ2=>⟨[(0,.pv none (.sl (some 5) (bds l))),(1,O8 v),(3,.ptr q 0),(6,.ptr hp.length 0),(11,O8 i)],HS hp q r σ2++[.box (some 4) (.pv (some 4) t.pv)]⟩) σ ⟨⟨fun _ h=>h,hnd,hfn,fun j hj=>by omega,fun w hw=>.inl hw⟩,rfl⟩ ?_ ?_
   ·rintro i σ2 h ⟨q1,q2,q3,q4,q5⟩;have hc:(i:Int)<(t.args.length:Int):=by omega
    obtain⟨u,hu⟩:∃u,t.args[i]? =some u:=⟨_,Zf h⟩;have hum:=Zk hu;have hmu:=xr l hk0 hum;have hts:=t.size_eq;have hlen2:=Tm.zyN t.args;have hpre2:SeenPre l v (·∈σ2) u:=fun w hw=>by
     rcases q5 w hw with h|⟨h1,h2⟩
     ·exact hpre.arg hmu w h
     ·exact⟨h1,.inl h2⟩
    obtain⟨σ3,bb,hcall,p1,p2,p3,hR⟩:=ih _ (by omega) u (hp++[.box (some 4) (.pv (some 4) t.pv)]) q r σ2 rfl (YK hv hum) (by simp;omega) (by simp;omega) hn hpre2 q2;rw[jF hq hr,jF hq hr] at hcall;simp only[Tm.av] at hcall;have w2:=O0 i (by omega)
    cases bb with
    |true=>
     simp -dsimp -implicitDefEqProofs only[go_sem,seval,↓reduceIte,zV,Tm.pvs_len,hc,zY (Tm.pvs_get hu),hcall,hlen,hg0,hg1,Zd,zW,z6,z7,z9,Zh,Zc];refine⟨σ3,true,rfl,?_,fun w hw=>p1 w (q1 w hw),p2,p3,⟨fun _=>(Jn hk0).2 ⟨u,hum,hR.yes rfl⟩,fun e=>by cases e⟩⟩;rw[Zb (by simp[AV.refsIn])];exact ZD (hlen _)
    |false=>
     obtain⟨n1,n2⟩:=hR.no rfl;simp -dsimp -implicitDefEqProofs only[go_sem,seval,↓reduceIte,zV,Tm.pvs_len,hc,zY (Tm.pvs_get hu),hcall,w2,hlen,hg0,hg1,Zd,zW,z6,z7,z9,Zh,Zc];refine⟨σ3,⟨fun w hw=>p1 w (q1 w hw),p2,p3,fun j hj x hx=> ?_,fun w hw=> ?_⟩,?_⟩
     ·rcases Zq j i with h|h
      ·exact q4 j h x hx
      ·have:j=i:=by omega
       subst this;rw[hu] at hx;cases hx;exact n1
     ·rcases n2 w hw with h|h
      ·exact q5 w h
      ·exact .inr h
     ·rw[Xd 1 (hlen _) rfl (by simp[AObj.refs,AV.refsIn]) (by simp[AV.refsIn];omega)];rfl
   ·rintro σ2 ⟨q1,q2,q3,q4,q5⟩;have hc:¬(t.args.length:Int)<(t.args.length:Int):=by omega
    simp -dsimp -implicitDefEqProofs only[go_sem,seval,↓reduceIte,zV,Tm.pvs_len,hc,hlen,hg0,hg1,Zd,zW,z6,z7,z9,Zh,Zc];refine⟨σ2,false,rfl,?_,q1,q2,q3,⟨(fun e=>by cases e),fun _=>⟨fun e=> ?_,q5⟩⟩⟩
    ·rw[Zb (by simp[AV.refsIn])];exact ZD (hlen _)
    ·obtain⟨u,hu,h⟩:=(Jn hk0).1 e;obtain⟨j,hj,rfl⟩:=zi hu;exact q4 j hj _ (Zf hj) h
theorem jG(l:List B)(hO:OKB l)(hl:l.length<100000000)(v:Int)(t:Tm)(hv:t.valid=true)(b:Bool)(hb:b=true↔inR l v t)(hp:Heap):
  S 149 [.pv none (.sl (some 5) (bds l)),O8 v,t.av] hp=some (.ret (O9 b),hp):=by
 refine Yb rfl rfl rfl (Yd [(none,.sl (some 5) (bds l)),(none,.int .i64 v),(some 4,t.pv)]) rfl ?_;obtain⟨σ,bb,hcall,_,_,_,hR⟩:=mO l hO hl v _ t [.box (some 4) (.pv (some 4) t.pv),.box none (.sl none 2 0 0 0),.arr none [] false] 1 2 [] rfl hv (by simp) (by simp) (by decide) (fun w hw=>by cases hw) List.nodup_nil;have e:bb=b:=by
  rw[Bool.eq_iff_iff,hb];constructor
  ·exact hR.yes
  ·intro h;cases bb with
   |true=>rfl
   |false=>exact absurd h (hR.no rfl).1
 rw[e] at hcall;have e2:HS [.box (some 4) (.pv (some 4) t.pv),.box none (.sl none 2 0 0 0),.arr none [] false] 1 2 []=[.box (some 4) (.pv (some 4) t.pv),.box none (.sl none 2 0 0 0),.arr none [] false]:=rfl;rw[e2] at hcall;simp only[Tm.av] at hcall;have hal:∀a0:AObj,y9 none (.tsl none []) [a0] []=some (.ptr 1 0,[a0,.box none (.sl none 2 0 0 0),.arr none [] false]):=fun _=>rfl;simp -dsimp -implicitDefEqProofs only[go_sem,seval,↓reduceIte,Tm.av,hal,hcall]
inductive UStep where
 |err (e:Int)
 |bind (v:Int) (t:Tm)
 |args (xs:List (Tm × Tm))
open Classical in
noncomputable def ustep(l:List B)(x y:Tm):UStep:=
 if x.kind=0/\y.kind=0 then
  if y.n<x.n then .bind x.n y else if x.n<y.n then .bind y.n x else .args []
 else if x.kind=0 then(if inR l x.n y then .err 9 else .bind x.n y)
 else if y.kind=0 then(if inR l y.n x then .err 9 else .bind y.n x)
 else if x.kind=y.kind/\x.n=y.n/\x.name=y.name/\x.args.length=y.args.length then .args (x.args.zip y.args) else .err 4
noncomputable def uni:Nat->List B->List (Tm × Tm)->List B × Int
 |_,l,[]=>(l,0)
 |0,_,_::_=>([],2)
 |n+1,l,p::r=>match ustep l (flw l p.1) (flw l p.2) with
  | .err e=>([],e)
  | .bind v t=>uni n (insB l v t) r
  | .args xs=>uni n l (xs++r)
theorem qr(n:Nat)(l:List B):uni n l []=(l,0):=by cases n <;> rfl
theorem jH(l:List B)(p:Tm × Tm)(r:List (Tm × Tm)):uni 0 l (p::r)=([],2):=rfl
theorem jI{n:Nat}{l:List B}{p:Tm × Tm}{e:Int}(r:List (Tm × Tm))(h:ustep l (flw l p.1) (flw l p.2)=.err e):uni (n+1) l (p::r)=([],e):=by rw[uni,h]
theorem qt{n:Nat}{l:List B}{p:Tm × Tm}{v:Int}{t:Tm}(r:List (Tm × Tm))(h:ustep l (flw l p.1) (flw l p.2)=.bind v t):uni (n+1) l (p::r)=uni n (insB l v t) r:=by rw[uni,h]
theorem X9{n:Nat}{l:List B}{p:Tm × Tm}{xs:List (Tm × Tm)}(r:List (Tm × Tm))(h:ustep l (flw l p.1) (flw l p.2)=.args xs):uni (n+1) l (p::r)=uni n l (xs++r):=by rw[uni,h]
theorem mem_insB_iff{l:List B}{v:Int}{t:Tm}{x:B}:x∈insB l v t↔x=(v,t)\/x∈l:=⟨QE,mz⟩
theorem jJ{l:List B}(hG:Good l){v:Int}{t:Tm}(hf:fndB l v=false)(w:Int):fndB (insB l v t) w=true↔w=v\/fndB l w=true:=by
 rw[GC (Jf hG.1 hf),GC hG.1];simp only[Z2,mem_insB_iff];constructor
 ·rintro⟨x,rfl|h,rfl⟩
  ·exact .inl rfl
  ·exact .inr ⟨x,h,rfl⟩
 ·rintro(rfl|⟨x,h,rfl⟩)
  ·exact⟨_,.inl rfl,rfl⟩
  ·exact⟨x,.inr h,rfl⟩
theorem mP{l:List B}(hG:Good l){v:Int}{t:Tm}(hf:fndB l v=false):toB (insB l v t) v=t:=(Ve (Jf hG.1 hf) (mem_insB_iff.2 (.inl rfl))).2
theorem Vh{l:List B}(hG:Good l){v:Int}{t:Tm}(hf:fndB l v=false){w:Int}(hw:fndB l w=true):toB (insB l v t) w=toB l w:=
 (Ve (Jf hG.1 hf) (mem_insB_iff.2 (.inr (find_mem hw)))).2
theorem GL{l:List B}{w:Int}:∀t:Tm,t.fits=true->w∈t.occ->mu l (tvar w)<=mu l t:=by
 intro t
 induction t using Tm.zyR with
 |h t ih=>
  intro hf hw;rw[Tm.zyW] at hw;by_cases hk:t.kind=0
  ·rw[Zb hk,ZV] at hw;rw[hw,jE hf hk];exact Zi _
  ·rw[Za hk] at hw;obtain⟨u,hu,h⟩:=Tm.zza hw;have:=ih u hu (Tm.zyP hf hu) h;have:=xr l hk hu;omega
theorem GM{l:List B}{v w:Int}:∀t:Tm,t.fits=true->w∈t.occ->inR l v (tvar w)->inR l v t:=by
 intro t
 induction t using Tm.zyR with
 |h t ih=>
  intro hf hw hi;rw[Tm.zyW] at hw;by_cases hk:t.kind=0
  ·rw[Zb hk,ZV] at hw;rw[yn hf hk,<-hw];exact hi
  ·rw[Za hk] at hw;obtain⟨u,hu,h⟩:=Tm.zza hw;exact(Jn hk).2 ⟨u,hu,ih u hu (Tm.zyP hf hu) h hi⟩
theorem Jo{l:List B}(hO:OKB l){v:Int}{t:Tm}(hf:fndB l v=false)(hv:0<=v/\v<=1099511627776)(ht:t.valid=true)(hn:¬inR l v t):OKB (insB l v t):=by
 have htz:=valid_size ht;have hA:=hO.Acyc;refine Gc (MG hO.good hf ht (by omega)) (fun b hb=> ?_) ?_
 ·rcases QE hb with rfl|h
  ·exact hv
  ·exact hO.rng b h
 ·refine⟨fun w=>by classical exact if inR l v (tvar w) then mu l (tvar w)+mu l t+1 else mu l (tvar w),fun x hx y hy hfy=> ?_⟩;have hvv:inR l v (tvar v):=(qp hA (GD hv) rfl (by show ¬fndB l v=true;simp[hf])).2 rfl;simp only;by_cases hxv:x=v
  ·subst hxv;rw[mP hO.good hf] at hy;have h1:¬inR l x (tvar y):=fun h=>hn (GM t (valid_fits ht) hy h);have h2:=GL (l:=l) t (valid_fits ht) hy;rw[Zb hvv,Za h1];omega
  ·have hfx:fndB l x=true:=((jJ hO.good hf x).1 hx).resolve_left hxv;rw[Vh hO.good hf hfx] at hy;have hto:=valid_fits (hO.to hfx).1;have h2:=GL (l:=l) _ hto hy;have h3:=yZ (l:=l) hA (t:=tvar x) rfl hfx;have h3:mu l (toB l x)<mu l (tvar x):=h3;have h4:inR l v (tvar y)->inR l v (tvar x):=fun h=>(jD hA (t:=tvar x) rfl hfx).2 (GM _ hto hy h);by_cases h5:inR l v (tvar y)
   ·rw[Zb h5,Zb (h4 h5)];omega
   ·rw[Za h5];split <;> omega
def Flwd(l:List B)(x:Tm):Prop:=x.valid=true/\(x.kind=0->fndB l x.n=false/\x=tvar x.n/\0<=x.n/\x.n<=1099511627776)
theorem mQ{x:Tm}(hf:x.fits=true)(hk:x.kind=0):0<=x.n/\x.n<=1099511627776:=by
 exact ma hf x.n (by rw[Tm.zyW,Zb hk];simp)
theorem Xf{l:List B}(hO:OKB l){t:Tm}(hv:t.valid=true):Flwd l (flw l t):=by
 obtain⟨h1,_,_,h4⟩:=jt hO _ t rfl hv;refine⟨h1,fun hk=>⟨?_,yn (valid_fits h1) hk,mQ (valid_fits h1) hk⟩⟩;cases e:fndB l (flw l t).n with
 |false=>rfl
 |true=>exact absurd ⟨hk,e⟩ h4
theorem GN{l:List B}(hO:OKB l){x:Tm}(hx:Flwd l x)(hk:x.kind=0)(v:Int):inR l v x↔v=x.n:=
 qp hO.Acyc (valid_fits hx.1) hk (by simp[(hx.2 hk).1])
structure UBind(l:List B)(v:Int)(t:Tm):Prop where
 unb:fndB l v=false
 rng:0<=v/\v<=1099511627776
 val:t.valid=true
 out:¬inR l v t
theorem Jp{l:List B}(hO:OKB l){x y:Tm}(hx:Flwd l x)(hy:Flwd l y){v:Int}{t:Tm}(h:ustep l x y=.bind v t):UBind l v t:=by
 unfold ustep at h;split at h
 ·rename_i hk;have hx2:=hx.2 hk.1;have hy2:=hy.2 hk.2;split at h
  ·rename_i hlt;cases h;exact⟨hx2.1,hx2.2.2,hy.1,fun e=>by have:=(GN hO hy hk.2 _).1 e;omega⟩
  ·split at h
   ·rename_i hlt;cases h;exact⟨hy2.1,hy2.2.2,hx.1,fun e=>by have:=(GN hO hx hk.1 _).1 e;omega⟩
   ·cases h
 ·split at h
  ·rename_i hk;split at h
   ·cases h
   ·rename_i hn;cases h;exact⟨(hx.2 hk).1,(hx.2 hk).2.2,hy.1,hn⟩
  ·split at h
   ·rename_i hk;split at h
    ·cases h
    ·rename_i hn;cases h;exact⟨(hy.2 hk).1,(hy.2 hk).2.2,hx.1,hn⟩
   ·split at h <;> cases h
theorem Vi{l:List B}{x y:Tm}(hx:Flwd l x)(hy:Flwd l y){xs:List (Tm × Tm)}(h:ustep l x y=.args xs):(∀p∈xs,p.1.valid=true/\p.2.valid=true)/\xs.length<=2000:=by
 unfold ustep at h;split at h
 ·split at h
  ·cases h
  ·split at h
   ·cases h
   ·cases h;exact⟨(fun p hp=>by cases hp),Zg _⟩
 ·split at h
  ·split at h <;> cases h
  ·split at h
   ·split at h <;> cases h
   ·split at h
    ·cases h;have hs:=valid_size hx.1;have hse:=x.size_eq;have hlen:=Tm.zyN x.args;refine⟨fun p hp=> ?_,by rw[List.length_zip];omega⟩;have:=List.of_mem_zip hp;exact⟨YK hx.1 this.1,YK hy.1 this.2⟩
    ·cases h
theorem QM:OKB []:=⟨⟨List.Pairwise.nil,(fun b hb=>by cases hb)⟩,(fun b hb=>by cases hb),fun _=>0,(fun i b hb=>by simp at hb)⟩
theorem Vj:∀(n:Nat) (l:List B) (r:List (Tm × Tm)),OKB l->(∀p∈r,p.1.valid=true/\p.2.valid=true)->OKB (uni n l r).1/\(uni n l r).1.length<=l.length+n
 |n,l,[],hO,_=>by rw[qr];exact⟨hO,by simp⟩
 |0,l,p::r,_,_=>by rw[jH];exact⟨QM,by simp⟩
 |n+1,l,p::r,hO,hr=>by
  have hp:=hr p Zv;have hx:=Xf hO hp.1;have hy:=Xf hO hp.2;have hr2:=fun q hq=>hr q (Zu _ hq);cases e:ustep l (flw l p.1) (flw l p.2) with
  |err e'=>rw[jI r e];exact⟨QM,by simp⟩
  |bind v t=>
   rw[qt r e];obtain⟨b1,b2,b3,b4⟩:=Jp hO hx hy e;have ih:=Vj n (insB l v t) r (Jo hO b1 b2 b3 b4) hr2;have:=qi l v t;exact⟨ih.1,by omega⟩
  |args xs=>
   rw[X9 r e];have ih:=Vj n l (xs++r) hO fun q hq=>(Zr.1 hq).elim ((Vi hx hy e).1 q) (hr2 q);exact⟨ih.1,by omega⟩
def KS(hp:Heap)(q:Nat)(l:List B)(k:Int):Heap:=hp.set q (.box (some 2) (.pv (some 2) (.agg [(none,.sl (some 5) (bds l)),(none,.int .i64 k)])))
theorem Vk(hp:Heap)(q:Nat)(l:List B)(k:Int):(KS hp q l k).length=hp.length:=by simp[KS]
theorem GO{hp:Heap}{q:Nat}(hq:q<hp.length)(l:List B)(k:Int)(e:Heap):KS (hp++e) q l k=KS hp q l k++e:=by
 unfold KS;rw[ZW _ _ hq]
theorem KS_q{hp:Heap}{q:Nat}(hq:q<hp.length)(l:List B)(k:Int)(e:Heap):(KS hp q l k++e)[q]? =some (.box (some 2) (.pv (some 2) (.agg [(none,.sl (some 5) (bds l)),(none,.int .i64 k)]))):=by
 rw[Zx (by rw[Vk];exact hq)];unfold KS;rw[ZG hq]
theorem GP{hp:Heap}{q:Nat}(hq:q<hp.length)(l:List B)(k:Int)(l':List B)(k':Int)(e:Heap):(KS hp q l k++e).set q (.box (some 2) (.pv (some 2) (.agg [(none,.sl (some 5) (bds l')),(none,.int .i64 k')])))=KS hp q l' k'++e:=by
 rw[ZW _ _ (by rw[Vk];exact hq)];unfold KS;rw[Z8]
theorem mR{hp:Heap}{q:Nat}(hq:q<hp.length)(l:List B)(k:Int)(e:Heap):aload none (KS hp q l k++e) (.ptr q 0)=some (.pv none (.sl (some 5) (bds l))):=by
 simp[aload,KS_q hq];rfl
theorem mS{hp:Heap}{q:Nat}(hq:q<hp.length)(l:List B)(k:Int)(e:Heap):aload none (KS hp q l k++e) (.ptr q 1)=some (O8 k):=by
 simp[aload,KS_q hq];rfl
theorem mT{hp:Heap}{q:Nat}(hq:q<hp.length)(l:List B)(k:Int)(l':List B)(b:Nat)(e:Heap):Yw none b (KS hp q l k++e) [.ptr q 0,.pv none (.sl (some 5) (bds l'))]=some (.undef,KS hp q l' k++e):=by
 have h:AV.upd deep (.pv (some 2) (.agg [(none,.sl (some 5) (bds l)),(none,.int .i64 k)])) 0 none (.pv none (.sl (some 5) (bds l')))=some (.pv (some 2) (.agg [(none,.sl (some 5) (bds l')),(none,.int .i64 k)])):=rfl;rw[<-GP hq l k l' k e];have ho:∀(x:PV) (H:Heap),AV.own (.pv none x) H=(.pv none x,H):=fun _ _=>rfl;by_cases hb:b<=q <;> simp[Yw,astore,KS_q hq,h,hb,ho,AV.plain,AV.shp,AV.refsIn]
theorem mU{hp:Heap}{q:Nat}(hq:q<hp.length)(l:List B)(k k':Int)(b:Nat)(e:Heap):Yw none b (KS hp q l k++e) [.ptr q 1,O8 k']=some (.undef,KS hp q l k'++e):=by
 have h:AV.upd deep (.pv (some 2) (.agg [(none,.sl (some 5) (bds l)),(none,.int .i64 k)])) 1 none (O8 k')=some (.pv (some 2) (.agg [(none,.sl (some 5) (bds l)),(none,.int .i64 k')])):=rfl;rw[<-GP hq l k l k' e];have ho:∀(x:PV) (H:Heap),AV.own (.pv none x) H=(.pv none x,H):=fun _ _=>rfl;by_cases hb:b<=q <;> simp[Yw,astore,KS_q hq,h,hb,ho,AV.plain,AV.shp,AV.refsIn]
structure PairR(n:Nat)(l:List B)(p:Tm × Tm)(e:Int)(l':List B)(n':Nat):Prop where
 okb:OKB l'
 le:n'<=n
 len:l'.length+n'<=l.length+n
 bad:e≠0->∀r,uni n l (p::r)=([],e)
 good:e=0->∀r,uni n l (p::r)=uni n' l' r
theorem PairR.zzt{n:Nat}{l:List B}{p:Tm × Tm}{e:Int}(hO:OKB l)(he:e≠0)(h:ustep l (flw l p.1) (flw l p.2)=.err e):PairR (n+1) l p e l n:=
 ⟨hO,by omega,by omega,fun _ r=>jI r h,fun h=>absurd h he⟩
theorem PairR.zzq{n:Nat}{l:List B}{p:Tm × Tm}{v:Int}{t:Tm}(hO:OKB l)(hb:UBind l v t)(h:ustep l (flw l p.1) (flw l p.2)=.bind v t):PairR (n+1) l p 0 (insB l v t) n:=
 ⟨Jo hO hb.unb hb.rng hb.val hb.out,by omega,by rw[qi];omega,fun h=>absurd rfl h,fun _ r=>qt r h⟩
theorem mV:∀(n:Nat) (l:List B) (a b:Tm) (hp:Heap) (q:Nat),n<=1048576->OKB l->l.length+n<90000000->a.valid=true->b.valid=true->q<hp.length->
  ∃(e:Int) (l':List B) (n':Nat),S 128 [.ptr q 0,a.av,b.av] (KS hp q l (1048576 - (n:Int)))=some (.ret (O8 e),KS hp q l' (1048576 - (n':Int)))/\PairR n l (a,b) e l' n':=by
 intro n
 induction n using Nat.strongRecOn with
 |_ n ih=>
  intro l a b hp q hn hO hl ha hb hq;have hlen:=fun l k=>Vk hp q l k;have hg0:∀(l:List B) (k:Int) (e:Heap),(KS hp q l k++e)[hp.length]? =e[0]? :=fun l k e=>YY (hlen l k);have hg1:∀(l:List B) (k:Int) (e:Heap) (j:Nat),(KS hp q l k++e)[hp.length+j]? =e[j]? :=fun l k e j=>getN (hlen l k) j;have hs0:∀(l:List B) (k:Int) (Y:AObj) (e:Heap),(KS hp q l k++e).set hp.length Y=KS hp q l k++e.set 0 Y:=fun l k Y e=>yQ (hlen l k) Y;have hs1:∀(l:List B) (k:Int) (Y:AObj) (e:Heap) (j:Nat),(KS hp q l k++e).set (hp.length+j) Y=KS hp q l k++e.set j Y:=fun l k Y e j=>setN (hlen l k) j Y;have hl0:=fun l k e=>mR hq l k e;have hl1:=fun l k e=>mS hq l k e;have ht0:=fun l k l' b e=>mT hq l k l' b e;have ht1:=fun l k k' b e=>mU hq l k k' b e
  suffices hP:∃v' hp',S 128 [.ptr q 0,a.av,b.av] (KS hp q l (1048576 - (n:Int)))=some (.ret v',hp')/\∃(e:Int) (l':List B) (n':Nat),v'=O8 e/\hp'=KS hp q l' (1048576 - (n':Int))/\PairR n l (a,b) e l' n' by
   obtain⟨v',hp',h1,e,l',n',rfl,rfl,h2⟩:=hP;exact⟨e,l',n',h1,h2⟩
  refine xp _ rfl rfl rfl rfl ?_;cases n with
  |zero=>
   have hc:(1048576:Int)<=1048576 - ((0:Nat):Int):=by omega
   simp -dsimp -implicitDefEqProofs only[go_sem,seval,↓reduceIte,Tm.av,hc,hlen,hg0,hg1,hs0,hs1,hl0,hl1,ht0,ht1,YD,Zd,zW,z6,z7,z9,Zh,Zc];refine⟨2,l,0,rfl,?_,⟨hO,by omega,by omega,fun _ r=>jH _ _ _,fun e=>by cases e⟩⟩;rw[Zb (by simp[AV.refsIn])];exact ZD (hlen _ _)
  |succ n=>
   have hc:¬(1048576:Int)<=1048576 - ((n+1:Nat):Int):=by omega
   have w1:IntKind.i64.wrap (1048576 - ((n+1:Nat):Int)+1)=1048576 - (n:Int):=by rw[zZ (by omega) (by omega)];omega
   have hf1:=kW l a hO (by omega) ha;have hf2:=kW l b hO (by omega) hb;have hx:=Xf hO ha;have hy:=Xf hO hb;have herr:=fun(e:Int) (he:e≠0) (h:ustep l (flw l a) (flw l b)=.err e)=>PairR.zzt (n:=n) (p:=(a,b)) hO he h;have hbnd:=fun(v:Int) (t:Tm) (hb:UBind l v t) (h:ustep l (flw l a) (flw l b)=.bind v t)=>PairR.zzq (n:=n) (p:=(a,b)) hO hb h;simp only[Tm.av] at hf1 hf2;have hub:= @Jp l hO (flw l a) (flw l b) hx hy;generalize hX:flw l a=x at*;generalize hY:flw l b=y at*;have fin:∀(e:Int) (l':List B) (n':Nat) (X:Heap),PairR (n+1) l (a,b) e l' n'->∃(e':Int) (l'':List B) (n'':Nat),(AV.pv none (.int .i64 e))=O8 e'/\(if((AV.pv none (PV.int IntKind.i64 e)).refsIn.all fun q=>decide (q<hp.length))=true then List.take hp.length (KS hp q l' (1048576 - (n':Int))++X) else KS hp q l' (1048576 - (n':Int))++X)=KS hp q l'' (1048576 - (n'':Int))/\PairR (n+1) l (a,b) e' l'' n'':=fun e l' n' X h=>by
    refine⟨e,l',n',rfl,?_,h⟩;rw[Zb (by simp[AV.refsIn])];exact ZD (hlen _ _)
   by_cases hxk:x.kind=0
   ·have hx2:=hx.2 hxk;have hxk':=Zj hxk;by_cases hyk:y.kind=0
    ·have hy2:=hy.2 hyk;have hyk':=Zj hyk;by_cases hlt:y.n<x.n
     ·have hrb:=js l x.n y hO.good.1 hx2.1 (by omega);have hu:ustep l x y=.bind x.n y:=by unfold ustep;rw[Zb ⟨hxk,hyk⟩,Zb hlt]
      simp -dsimp -implicitDefEqProofs only[go_sem,seval,↓reduceIte,Tm.av,hc,w1,hf1,hf2,hxk',hyk',hlt,hrb,Ya,Yh,hlen,hg0,hg1,hs0,hs1,hl0,hl1,ht0,ht1,YD,Zd,zW,z6,z7,z9,Zh,Zc];exact fin 0 _ n _ (hbnd _ _ (hub hu) hu)
     ·by_cases hgt:x.n<y.n
      ·have hrb:=js l y.n x hO.good.1 hy2.1 (by omega);have hu:ustep l x y=.bind y.n x:=by unfold ustep;rw[Zb ⟨hxk,hyk⟩,Za hlt,Zb hgt]
       simp -dsimp -implicitDefEqProofs only[go_sem,seval,↓reduceIte,Tm.av,hc,w1,hf1,hf2,hxk',hyk',hlt,hgt,hrb,Ya,Yh,hlen,hg0,hg1,hs0,hs1,hl0,hl1,ht0,ht1,YD,Zd,zW,z6,z7,z9,Zh,Zc];exact fin 0 _ n _ (hbnd _ _ (hub hu) hu)
      ·have hu:ustep l x y=.args []:=by unfold ustep;rw[Zb ⟨hxk,hyk⟩,Za hlt,Za hgt]
       simp -dsimp -implicitDefEqProofs only[go_sem,seval,↓reduceIte,Tm.av,hc,w1,hf1,hf2,hxk',hyk',hlt,hgt,Ya,Yh,hlen,hg0,hg1,hs0,hs1,hl0,hl1,ht0,ht1,YD,Zd,zW,z6,z7,z9,Zh,Zc];exact fin 0 l n _ ⟨hO,by omega,by omega,fun h=>absurd rfl h,fun _ r=>X9 (p:=(a,b)) r (by show ustep l (flw l a) (flw l b)=_;rw[hX,hY];exact hu)⟩
    ·have hyk':=Zl hyk;by_cases hin:inR l x.n y
     ·have hw:=jG l hO (by omega) x.n y hy.1 true (by simp[hin]);have hu:ustep l x y=.err 9:=by unfold ustep;rw[Za (fun h=>hyk h.2),Zb hxk,Zb hin]
      simp only[Tm.av] at hw;simp -dsimp -implicitDefEqProofs only[go_sem,seval,↓reduceIte,Tm.av,hc,w1,hf1,hf2,hxk',hyk',hw,Ya,Yh,hlen,hg0,hg1,hs0,hs1,hl0,hl1,ht0,ht1,YD,Zd,zW,z6,z7,z9,Zh,Zc];exact fin 9 l n _ (herr 9 (by decide) hu)
     ·have hw:=jG l hO (by omega) x.n y hy.1 false (by simp[hin]);have hrb:=js l x.n y hO.good.1 hx2.1 (by omega);have hu:ustep l x y=.bind x.n y:=by unfold ustep;rw[Za (fun h=>hyk h.2),Zb hxk,Za hin]
      simp only[Tm.av] at hw;simp -dsimp -implicitDefEqProofs only[go_sem,seval,↓reduceIte,Tm.av,hc,w1,hf1,hf2,hxk',hyk',hw,hrb,Ya,Yh,hlen,hg0,hg1,hs0,hs1,hl0,hl1,ht0,ht1,YD,Zd,zW,z6,z7,z9,Zh,Zc];exact fin 0 _ n _ (hbnd _ _ (hub hu) hu)
   ·have hxk':=Zl hxk;by_cases hyk:y.kind=0
    ·have hy2:=hy.2 hyk;have hyk':=Zj hyk;by_cases hin:inR l y.n x
     ·have hw:=jG l hO (by omega) y.n x hx.1 true (by simp[hin]);have hu:ustep l x y=.err 9:=by unfold ustep;rw[Za (fun h=>hxk h.1),Za hxk,Zb hyk,Zb hin]
      simp only[Tm.av] at hw;simp -dsimp -implicitDefEqProofs only[go_sem,seval,↓reduceIte,Tm.av,hc,w1,hf1,hf2,hxk',hyk',hw,Ya,Yh,hlen,hg0,hg1,hs0,hs1,hl0,hl1,ht0,ht1,YD,Zd,zW,z6,z7,z9,Zh,Zc];exact fin 9 l n _ (herr 9 (by decide) hu)
     ·have hw:=jG l hO (by omega) y.n x hx.1 false (by simp[hin]);have hrb:=js l y.n x hO.good.1 hy2.1 (by omega);have hu:ustep l x y=.bind y.n x:=by unfold ustep;rw[Za (fun h=>hxk h.1),Za hxk,Zb hyk,Za hin]
      simp only[Tm.av] at hw;simp -dsimp -implicitDefEqProofs only[go_sem,seval,↓reduceIte,Tm.av,hc,w1,hf1,hf2,hxk',hyk',hw,hrb,Ya,Yh,hlen,hg0,hg1,hs0,hs1,hl0,hl1,ht0,ht1,YD,Zd,zW,z6,z7,z9,Zh,Zc];exact fin 0 _ n _ (hbnd _ _ (hub hu) hu)
    ·have hyk':=Zl hyk;by_cases hm:x.kind=y.kind/\x.n=y.n/\x.name=y.name/\x.args.length=y.args.length
     rotate_left
     ·have hu:ustep l x y=.err 4:=by unfold ustep;rw[Za (fun h=>hxk h.1),Za hxk,Za hyk,Za hm]
      have hz:=fin 4 l n [AObj.box (some 4) (AV.pv (some 4) x.pv),AObj.box (some 4) (AV.pv (some 4) y.pv)] (herr 4 (by decide) hu);by_cases m1:x.kind=y.kind
      ·by_cases m2:x.n=y.n
       ·by_cases m3:x.name=y.name
        ·have m4:¬x.args.length=y.args.length:=fun e=>hm ⟨m1,m2,m3,e⟩;have m4:¬(x.args.length:Int)=(y.args.length:Int):=by omega
         have m1':=Zj m1;have m2':=Zj m2;have m3':=Zj m3;simp -dsimp -implicitDefEqProofs only[go_sem,seval,↓reduceIte,Tm.av,hc,w1,hf1,hf2,hxk',hyk',m1',m2',m3',m4,Ye,zV,Tm.pvs_len,Ya,Yh,hlen,hg0,hg1,hs0,hs1,hl0,hl1,ht0,ht1,YD,Zd,zW,z6,z7,z9,Zh,Zc];exact hz
        ·have m1':=Zj m1;have m2':=Zj m2;simp -dsimp -implicitDefEqProofs only[go_sem,seval,↓reduceIte,Tm.av,hc,w1,hf1,hf2,hxk',hyk',m1',m2',m3,Ye,zV,Tm.pvs_len,Ya,Yh,hlen,hg0,hg1,hs0,hs1,hl0,hl1,ht0,ht1,YD,Zd,zW,z6,z7,z9,Zh,Zc];exact hz
       ·have m1':=Zj m1;simp -dsimp -implicitDefEqProofs only[go_sem,seval,↓reduceIte,Tm.av,hc,w1,hf1,hf2,hxk',hyk',m1',m2,Ye,zV,Tm.pvs_len,Ya,Yh,hlen,hg0,hg1,hs0,hs1,hl0,hl1,ht0,ht1,YD,Zd,zW,z6,z7,z9,Zh,Zc];exact hz
      ·simp -dsimp -implicitDefEqProofs only[go_sem,seval,↓reduceIte,Tm.av,hc,w1,hf1,hf2,hxk',hyk',m1,Ye,zV,Tm.pvs_len,Ya,Yh,hlen,hg0,hg1,hs0,hs1,hl0,hl1,ht0,ht1,YD,Zd,zW,z6,z7,z9,Zh,Zc];exact hz
     ·have hu:ustep l x y=.args (x.args.zip y.args):=by unfold ustep;rw[Za (fun h=>hxk h.1),Za hxk,Za hyk,Zb hm]
      obtain⟨m1,m2,m3,m4⟩:=hm;have m1':=Zj m1;have m2':=Zj m2;have m3':=Zj m3;have m4':=Zj (show(x.args.length:Int)=(y.args.length:Int) by omega);simp -dsimp -implicitDefEqProofs only[go_sem,seval,↓reduceIte,Tm.av,hc,w1,hf1,hf2,hxk',hyk',m1',m2',m3',m4',Ye,zV,Tm.pvs_len,Ya,Yh,hlen,hg0,hg1,hs0,hs1,hl0,hl1,ht0,ht1,YD,Zd,zW,z6,z7,z9,Zh,Zc];have hua:∀r,uni (n+1) l ((a,b)::r)=uni n l (x.args.zip y.args++r):=fun r=>X9 (p:=(a,b)) r (by show ustep l (flw l a) (flw l b)=_;rw[hX,hY];exact hu);have hxs:=valid_size hx.1;have hxe:=x.size_eq;have hxl:=Tm.zyN x.args;have hzl:(x.args.zip y.args).length=x.args.length:=by rw[List.length_zip];omega
      refine Yv (α:=List B × Nat) x.args.length (fun i m=>OKB m.1/\m.2<=n/\m.1.length+m.2<=l.length+n/\∀r,uni n l (x.args.zip y.args++r)=uni m.2 m.1 ((x.args.zip y.args).drop i++r))
       (fun i m=>⟨[(0,.ptr q 0),(4,.ptr hp.length 0),(5,.ptr (hp.length+1) 0),(7,O8 i)],KS hp q m.1 (1048576 - (m.2:Int))++[.box (some 4) (.pv (some 4) x.pv),.box (some 4) (.pv (some 4) y.pv)]⟩) (l,n) ⟨⟨hO,Zi _,Zi _,fun r=>rfl⟩,rfl⟩ ?_ ?_
      ·rintro i ⟨l1,n1⟩ h ⟨q1,q2,q3,q4⟩;dsimp only at q1 q2 q3 q4;have hc:(i:Int)<(x.args.length:Int):=by omega
       obtain⟨u,hu⟩:∃u,x.args[i]? =some u:=⟨_,Zf h⟩;obtain⟨w,hw⟩:∃w,y.args[i]? =some w:=⟨_,Zf (by omega)⟩;have hdr:(x.args.zip y.args).drop i=(u,w)::(x.args.zip y.args).drop (i+1):=by
        obtain⟨k1,e1⟩:=Ze.1 hu;obtain⟨k2,e2⟩:=Ze.1 hw;rw[ZS (by omega),List.getElem_zip,e1,e2]
       obtain⟨e,l2,n2,hcall,hR⟩:=ih n1 (by omega) l1 u w (hp++[.box (some 4) (.pv (some 4) x.pv),.box (some 4) (.pv (some 4) y.pv)]) q (by omega) q1 (by omega) (YK hx.1 (Zk hu)) (YK hy.1 (Zk hw)) (by simp;omega);rw[GO hq,GO hq] at hcall;simp only[Tm.av] at hcall;have w2:=O0 i (by omega)
       have hle:=hR.le;have hle2:=hR.len;by_cases he:e=0
       ·have he':=Zj he;simp -dsimp -implicitDefEqProofs only[go_sem,seval,↓reduceIte,zV,Tm.pvs_len,hc,zY (Tm.pvs_get hu),zY (Tm.pvs_get hw),hcall,he',w2,Ya,Yh,hlen,hg0,hg1,hs0,hs1,hl0,hl1,ht0,ht1,YD,Zd,zW,z6,z7,z9,Zh,Zc];refine⟨(l2,n2),⟨hR.okb,by dsimp only;omega,by dsimp only;omega,fun r=> ?_⟩,?_⟩
        ·rw[q4,hdr,Zw,hR.good he]
        ·rw[Xd 2 (hlen _ _) rfl (by simp[AObj.refs,AV.refsIn]) (by simp[AV.refsIn];omega)];rfl
       ·simp -dsimp -implicitDefEqProofs only[go_sem,seval,↓reduceIte,zV,Tm.pvs_len,hc,zY (Tm.pvs_get hu),zY (Tm.pvs_get hw),hcall,he,Ya,Yh,hlen,hg0,hg1,hs0,hs1,hl0,hl1,ht0,ht1,YD,Zd,zW,z6,z7,z9,Zh,Zc];refine fin e l2 n2 _ ⟨hR.okb,by omega,by omega,fun _ r=> ?_,fun h=>absurd h he⟩;rw[hua,q4,hdr,Zw,hR.bad he]
      ·rintro⟨l1,n1⟩ ⟨q1,q2,q3,q4⟩;dsimp only at q1 q2 q3 q4;have hc:¬(x.args.length:Int)<(x.args.length:Int):=by omega
       simp -dsimp -implicitDefEqProofs only[go_sem,seval,↓reduceIte,zV,Tm.pvs_len,hc,Ya,Yh,hlen,hg0,hg1,hs0,hs1,hl0,hl1,ht0,ht1,YD,Zd,zW,z6,z7,z9,Zh,Zc];refine fin 0 l1 n1 _ ⟨q1,by omega,by omega,fun h=>absurd rfl h,fun _ r=> ?_⟩;rw[hua,q4,<-hzl,zh,ZE]
theorem mW(l:List B)(a b:Tm)(hO:OKB l)(hl:l.length<80000000)(ha:a.valid=true)(hb:b.valid=true):
  ∃k:Int,∀hp,S 92 [.pv none (.sl (some 5) (bds l)),a.av,b.av] hp=some (.ret (.tuple [.pv none (.sl (some 5) (bds (uni 1048576 l [(a,b)]).1)),O8 k,.pv none (.int .i64 (uni 1048576 l [(a,b)]).2)]),hp):=by
 have hn0:=O5;obtain⟨e,l',n',hcall,hR⟩:=mV 1048576 l a b [.box (some 4) (.pv (some 4) a.pv),.box (some 4) (.pv (some 4) b.pv),.arr (some 5) [] false,.box none .undef] 3 (by omega) hO (by omega) ha hb (by simp);refine⟨1048576 - (n':Int),fun hp=>Yb rfl rfl rfl (Yd [(none,.sl (some 5) (bds l)),(some 4,a.pv),(some 4,b.pv)]) rfl ?_⟩;have e1:KS [.box (some 4) (.pv (some 4) a.pv),.box (some 4) (.pv (some 4) b.pv),.arr (some 5) [] false,.box none .undef] 3 l (1048576 - ((1048576:Nat):Int))=[.box (some 4) (.pv (some 4) a.pv),.box (some 4) (.pv (some 4) b.pv),.arr (some 5) [] false,.box (some 2) (.pv (some 2) (.agg [(none,.sl (some 5) (bds l)),(none,.int .i64 0)]))]:=rfl;have e2:KS [.box (some 4) (.pv (some 4) a.pv),.box (some 4) (.pv (some 4) b.pv),.arr (some 5) [] false,.box none .undef] 3 l' (1048576 - (n':Int))=[.box (some 4) (.pv (some 4) a.pv),.box (some 4) (.pv (some 4) b.pv),.arr (some 5) [] false,.box (some 2) (.pv (some 2) (.agg [(none,.sl (some 5) (bds l')),(none,.int .i64 (1048576 - (n':Int)))]))]:=rfl;rw[e1,e2] at hcall;simp only[Tm.av] at hcall;have hbd:Ym [(none,.tsl (some 5) []),(none,O8 0)] [0] [.pv none (.sl (some 5) (bds l))]=some (.pv (some 2) (.agg [(none,.sl (some 5) (bds l)),(none,.int .i64 0)])):=rfl;have p0:∀k:Int,PV.part deep (.agg [(none,.sl (some 5) (bds l')),(none,.int .i64 k)]) 0 none=some (.sl (some 5) (bds l')):=fun _=>rfl;have p1:∀k:Int,PV.part deep (.agg [(none,.sl (some 5) (bds l')),(none,.int .i64 k)]) 1 none=some (.int .i64 k):=fun _=>rfl;by_cases he:e=0
 ·have he':=Zj he;have hu:=hR.good he [];rw[qr] at hu;rw[hu];simp -dsimp -implicitDefEqProofs only[go_sem,seval,↓reduceIte,Tm.av,hn0,hbd,hcall,he',p0,p1,YD,Zd,zW,z6,z7,z9,Zh,Zc]
 ·have hu:=hR.bad he [];rw[hu];simp -dsimp -implicitDefEqProofs only[go_sem,seval,↓reduceIte,Tm.av,hn0,hbd,hcall,he,p0,p1,YD,Zd,zW,z6,z7,z9,Zh,Zc];rfl
noncomputable def unR(l:List B)(a b:Tm):List B × Int:=if okb l=true/\a.valid=true/\b.valid=true then uni 1048576 l [(a,b)] else([],1)
theorem mX(l:List B)(a b:Tm)(hl:l.length<80000000)(hsz:∀b∈l,b.2.size<1000000000)(ha:a.size<1000000000)(hb:b.size<1000000000)(hp:Heap):
  S 40 [.pv none (.sl (some 5) (bds l)),a.av,b.av] hp=some (.ret (.tuple [.pv none (.sl (some 5) (bds (unR l a b).1)),.pv none (.int .i64 (unR l a b).2)]),hp):=by
 have hn0:=O5;refine Yb rfl rfl rfl (Yd [(none,.sl (some 5) (bds l)),(some 4,a.pv),(some 4,b.pv)]) rfl ?_;have h1:=GE l (by omega) hsz;have h2:=fun hp=>yS a hp ha;have h3:=fun hp=>yS b hp hb;simp only[Tm.av] at h2 h3;cases hok:okb l with
 |false=>
  rw[hok] at h1;have e:unR l a b=([],1):=by unfold unR;rw[Za (by simp[hok])]
  rw[e];simp -dsimp -implicitDefEqProofs only[go_sem,seval,↓reduceIte,Tm.av,hn0,h1,h2,h3,Zd,zW,z6,z7,z9,Zh,Zc]
  try rfl
 |true=>
  rw[hok] at h1;by_cases va:a.valid=true
  ·by_cases vb:b.valid=true
   ·have e:unR l a b=uni 1048576 l [(a,b)]:=by unfold unR;rw[Zb ⟨hok,va,vb⟩]
    rw[e];obtain⟨k,h4⟩:=mW l a b (okb_iff.1 hok) hl va vb;simp only[Tm.av] at h4;generalize uni 1048576 l [(a,b)]=R at h4 ⊢;simp -dsimp -implicitDefEqProofs only[go_sem,seval,↓reduceIte,Tm.av,hn0,h1,h2,h3,va,vb,h4,Zd,zW,z6,z7,z9,Zh,Zc]
    try rfl
   ·have vb':b.valid=false:=by simpa using vb
    have e:unR l a b=([],1):=by unfold unR;rw[Za (by simp[vb'])]
    rw[e];simp -dsimp -implicitDefEqProofs only[go_sem,seval,↓reduceIte,Tm.av,hn0,h1,h2,h3,va,vb',Zd,zW,z6,z7,z9,Zh,Zc]
    try rfl
  ·have va':a.valid=false:=by simpa using va
   have e:unR l a b=([],1):=by unfold unR;rw[Za (by simp[va'])]
   rw[e];simp -dsimp -implicitDefEqProofs only[go_sem,seval,↓reduceIte,Tm.av,hn0,h1,h2,h3,va',Zd,zW,z6,z7,z9,Zh,Zc]
   try rfl
def endA(rs:List RSlot)(n:Nat)(P:ARes->Heap->Prop):AExit->St->Prop
 | .panic v,st=>P (.panic v) (st.hp.take n)
 |e,st=>endK rs (fun v' h'=>P (.ret v') (if v'.refsIn.all (fun q=>decide (q<n))=true then h'.take n else h')) e st
theorem yd(rs:List RSlot)(n:Nat)(P:ARes->Heap->Prop)(v:PV)(st:St):endA rs n P (.panic v) st=P (.panic v) (st.hp.take n):=rfl
theorem Y6(rs:List RSlot)(n:Nat)(P:ARes->Heap->Prop)(st:St):endA rs n P .ret st=endK rs (fun v' h'=>P (.ret v') (if v'.refsIn.all (fun q=>decide (q<n))=true then h'.take n else h')) .ret st:=rfl
theorem Y7(rs:List RSlot)(n:Nat)(P:ARes->Heap->Prop)(st:St):endA rs n P .normal st=endK rs (fun v' h'=>P (.ret v') (if v'.refsIn.all (fun q=>decide (q<n))=true then h'.take n else h')) .normal st:=rfl
theorem Vl{F:FuncId->Option AFn}{prim:FuncId->Option Ys}{f:FuncId}{fn:AFn}{args:List AV}{hp:Heap}(P:ARes->Heap->Prop)(hp0:prim f=none)(hf:F f=some fn)(hm:fn.heapMode=true)(hn:args.length=fn.nparams)
  (h:W (sem F prim) (sloop F prim) hp.length fn.code ⟨params 0 args,hp⟩ (endA fn.results hp.length P))(hr:fn.rcv=none:=by rfl)(hmo:fn.more=[]:=by rfl):∃v hp',sem F prim .fn f args hp=some (v,hp')/\P v hp':=by
 rw[xN];unfold yq;rw[hp0,hf];simp only[hr,hmo,zL,ZR,if_false,hm,if_true,abody,hn,ne_eq,not_true_eq_false,if_false];unfold W at h;split at h
 ·rename_i e st' he;rw[he];cases e with
  |normal=>
   rw[Y7,Qy] at h;cases hr:YO st' fn.results with
   |none=>rw[hr] at h;exact h.elim
   |some u=>rw[hr] at h;exact⟨_,_,by simp only[hr],h⟩
  |ret=>
   rw[Y6,xO] at h;cases hr:YO st' fn.results with
   |none=>rw[hr] at h;exact h.elim
   |some u=>rw[hr] at h;exact⟨_,_,by simp only[hr],h⟩
  |exit i=>exact h.elim
  |panic v=>exact⟨_,_,rfl,h⟩
 ·exact h.elim
def US(hp:Heap)(q r:Nat)(l:List B):Heap:=(hp.set q (.box (some 1) (.agg [(none,.sl (some 5) r l.length 0 l.length)]))).set r (.arr (some 5) (bds l) false)
def UA(hp:Heap)(q r:Nat)(l l':List B):Heap:=(US hp q r l).set r (.arr (some 5) (bds l') false)
theorem xx(hp:Heap)(q r:Nat)(l:List B):(US hp q r l).length=hp.length:=by simp[US]
theorem GQ(hp:Heap)(q r:Nat)(l l':List B):(UA hp q r l l').length=hp.length:=by simp[UA,xx]
theorem Xz{hp:Heap}{q r:Nat}(hq:q<hp.length)(hr:r<hp.length)(l:List B)(e:Heap):US (hp++e) q r l=US hp q r l++e:=by
 unfold US;rw[ZW _ _ hq,ZW _ _ (by simpa using hr)]
theorem US_q{hp:Heap}{q r:Nat}(hq:q<hp.length)(hn:q≠r)(l:List B)(e:Heap):(US hp q r l++e)[q]? =some (.box (some 1) (.agg [(none,.sl (some 5) r l.length 0 l.length)])):=by
 rw[Zx (by rw[xx];exact hq)];unfold US;rw[Zy (Ne.symm hn),ZG hq]
theorem US_r{hp:Heap}{q r:Nat}(hr:r<hp.length)(l:List B)(e:Heap):(US hp q r l++e)[r]? =some (.arr (some 5) (bds l) false):=by
 rw[Zx (by rw[xx];exact hr)];unfold US;rw[ZG (by simpa using hr)]
theorem US_B{hp:Heap}{q r:Nat}(hr:r<hp.length)(l:List B)(e:Heap):IsB (.sl (some 5) r l.length 0 l.length) (US hp q r l++e) l:=.inr ⟨r,rfl,US_r hr l e⟩
theorem Vm{hp:Heap}{q r:Nat}(hq:q<hp.length)(hn:q≠r)(l:List B)(e:Heap):aload none (US hp q r l++e) (.ptr q 0)=some (.sl (some 5) r l.length 0 l.length):=by
 simp[aload,US_q hq hn];rfl
theorem GS{hp:Heap}{q r:Nat}(hq:q<hp.length)(hn:q≠r)(l l':List B)(b:Nat)(hb:q<b)(e:Heap):Yw none b (UA hp q r l l'++e) [.ptr q 0,.sl (some 5) r l'.length 0 l'.length]=some (.undef,US hp q r l'++e):=by
 have h1:(UA hp q r l l'++e)[q]? =some (.box (some 1) (.agg [(none,.sl (some 5) r l.length 0 l.length)])):=by
  rw[Zx (by rw[GQ];exact hq)];unfold UA;rw[Zy (Ne.symm hn)];have:=US_q (r:=r) hq hn l [];rw[ZF] at this;exact this
 have h2:AV.upd deep (.agg [(none,.sl (some 5) r l.length 0 l.length)]) 0 none (.sl (some 5) r l'.length 0 l'.length)=some (.agg [(none,.sl (some 5) r l'.length 0 l'.length)]):=rfl;have h3:¬b<=q:=by omega
 have h4:(UA hp q r l l'++e).set q (.box (some 1) (.agg [(none,.sl (some 5) r l'.length 0 l'.length)]))=US hp q r l'++e:=by
  rw[ZW _ _ (by rw[GQ];exact hq)]
  congr 1
  unfold UA US;rw[Z8,List.set_comm _ _ hn,Z8];exact List.set_comm _ _ (Ne.symm hn)
 simp[Yw,astore,h1,h2,h3,h4,AV.plain,AV.shp,AV.refsIn,AV.refsIn.go]
theorem GT{hp:Heap}{q r:Nat}(hq:q<hp.length)(hn:q≠r)(l:List B)(e e':Heap):yC (US hp q r l++e) (US hp q r l++e') (.ptr q 0)=true:=by
 simp[yC,US_q hq hn,AObj.beq,AV.beq,AV.beqc]
def qu(e:Int):PV:=.iface 100 (some 1) (.agg [(none,.int .i64 e)])
theorem GU(l:List B)(hO:OKB l)(hl:l.length<90000000)(v:Int)(t:Tm)(hv:t.valid=true)(hp:Heap)(q r:Nat)(hq:q<hp.length)(hr:r<hp.length)(hn:q≠r):
  ∃res hp',S 153 [.ptr q 0,O8 v,t.av] (US hp q r l)=some (res,hp')/\(inR l v t->res=.panic (qu 9)/\hp'=US hp q r l)/\(¬inR l v t->res=.ret (.tuple [])/\hp'=US hp q r (insB l v t)):=by
 have htz:=valid_size hv;have hlen:=fun l=>xx hp q r l;have hg0:∀(l:List B) (e:Heap),(US hp q r l++e)[hp.length]? =e[0]? :=fun l e=>YY (hlen l);have hg1:∀(l:List B) (e:Heap) (j:Nat),(US hp q r l++e)[hp.length+j]? =e[j]? :=fun l e j=>getN (hlen l) j;have hld:=fun l e=>Vm (r:=r) hq hn l e;have hsm:=fun l e e'=>GT (r:=r) hq hn l e e';refine Vl (fun res hp'=>(inR l v t->res=.panic (qu 9)/\hp'=US hp q r l)/\(¬inR l v t->res=.ret (.tuple [])/\hp'=US hp q r (insB l v t))) rfl rfl rfl rfl ?_;have hu:=GJ (fun _=>0) l fun b hb=>by have:=valid_size (hO.good.2 b hb).1;omega
 obtain⟨m',bb,f',hcall,hR⟩:=mL l hO (by omega) v (.sl (some 5) r l.length 0 l.length) _ t (US hp q r l++[.box (some 4) (.pv (some 4) t.pv),.map none []]) (hp.length+1) [] (fun _=>0) rfl hv (by rw[hg1];rfl) (.inr (US_B hr l _)) (fun _=>rfl) (fun _=>Int.le_refl _) (fun w hw=>absurd rfl hw) (fun w=>by omega);have hs2:∀(X:AObj),(US hp q r l++([.box (some 4) (.pv (some 4) t.pv),.map none []]:Heap)).set (hp.length+1) X=US hp q r l++[.box (some 4) (.pv (some 4) t.pv),X]:=fun X=>by rw[setN (hlen l)];rfl
 rw[hs2] at hcall;have hmk:∀a:AObj,(US hp q r l++[a]).length=hp.length+1:=fun a=>by simp[hlen]
 simp only[Tm.av] at hcall;have hsb:∀x:Int,Ym A4 [0] [O8 x]=some (.pv (some 1) (.agg [(none,.int .i64 x)])):=fun _=>rfl;have hmi:∀(s:Sh) (p:PV),xd 100 [.pv s p]=some (.pv none (.iface 100 s p)):=fun _ _=>rfl;have hpan:∀A:Prop,panK true A=A:=fun _=>rfl;cases bb with
 |true=>
  have hin:inR l v t:=hR.post.yes rfl;simp -dsimp -implicitDefEqProofs only[go_sem,seval,↓reduceIte,Tm.av,hcall,hsb,hmi,hpan,hlen,hg0,hg1,hld,yd,Y6,Y7,YD,Zd,zW,z6,z7,z9,Zh,Zc];exact⟨fun _=>⟨rfl,ZD (hlen _)⟩,fun h=>h hin⟩
 |false=>
  have hin:¬inR l v t:=(hR.post.no rfl).1;have hpl:=fun e=>kM (US_B (q:=q) hr l e) v hO.good.1 (by omega);have hcl:=fun hp=>XU t hp hv (by omega);simp only[Tm.av] at hcl;have hbd:Ym A3 [0,1] [O8 v,.pv (some 4) t.pv]=some (.pv (some 5) (bdp (v,t))):=rfl;have hins:∀e:Heap,S 158 [.sl (some 5) r l.length 0 l.length,O8 (lbB l v:Int),.tsl (some 5) [bdp (v,t)]] (US hp q r l++e)=some (.ret (.sl (some 5) r (insB l v t).length 0 (insB l v t).length),UA hp q r l (insB l v t)++e):=fun e=>by
   obtain⟨s',H',h1,_,_,h2|h2⟩:=u6 (US_B (q:=q) hr l e) v t (by omega)
   ·obtain⟨r',n',h3,h4,h5⟩:=h2;cases h3;rw[h1,h4,h5,qi,ZW _ _ (by rw[xx];exact hr)];rfl
   ·cases h2.1
  have hst:=fun l' e=>GS (r:=r) hq hn l l' hp.length hq e;simp -dsimp -implicitDefEqProofs only[go_sem,seval,↓reduceIte,Tm.av,hcall,hpl,hcl,hbd,hsm,hins,hst,hlen,hg0,hg1,hld,qh,ZZ,zA,List.all_cons,List.all_nil,yd,Y6,Y7,YD,Zd,zW,z6,z7,z9,Zh,Zc];exact⟨fun h=>hin h,fun _=>ZD (hlen _)⟩
def zw(w:Int)(q:Nat):AV:=.agg [(none,O8 0),(none,O8 w),(none,Oh []),(none,.sl (some 4) q 0 0 0)]
theorem mY{s:AV}{hp:Heap}{l:List B}(h:IsS s hp l)(hs:Srt' l)(hl:l.length<1000000000)(w:Int)(q:Nat)(hq:q<hp.length)(hf:fndB l w=false):
  S 145 [s,zw w q] hp=some (.ret (.tuple [zagg (hp.length+3),O9 false]),hp++[.box (some 4) (zw w q),.box (some 4) (zagg (hp.length+3)),.arr (some 4) [] false,.arr (some 4) [] false]):=by
 refine YR rfl rfl rfl rfl ?_;have hpl:=fun e=>h.place w hs hl e;rw[hf] at hpl;simp -dsimp -implicitDefEqProofs only[go_sem,seval,↓reduceIte,zw,hpl,hb0,Y0,QL,Yc (ZA _ _),Zd,zW,z6,z7,z9,Zh,Zc];rw[ql rfl ((zW hp _ 1).trans rfl)];refine⟨rfl,?_⟩;rw[Za (by simp[AV.refsIn,AV.refsIn.gol,AV.refsIn.go,zagg])];rfl
theorem mZ{s:AV}{hp:Heap}{l:List B}(h:IsS s hp l)(hs:Srt' l)(hl:l.length<1000000000)(v w:Int)(q r:Nat)(hq:q<hp.length)(hf:fndB l w=false)(hvw:w≠v):
  S 157 [s,O8 v,zw w q,.map r] hp=some (.ret (O9 false),hp):=by
 refine YR rfl rfl rfl rfl ?_;have hb:=fun e=>mY (h.more e) hs hl w q (by simp;omega) hf;simp only[zw,zagg] at hb;simp -dsimp -implicitDefEqProofs only[go_sem,seval,↓reduceIte,zw,hb,hvw,Y0,QL,Yc (ZA _ _),Zd,zW,z6,z7,z9,Zh,Zc];rw[Zb (by simp[AV.refsIn])];exact zj
theorem m5(w:Int)(hw:0<=w/\w<=1099511627776)(q:Nat)(hp:Heap)(hq:hp[q]? =some (.arr (some 4) [] false)):
  S 38 [zw w q] hp=some (.ret (tvar w).av,hp.set q (.arr (some 4) [] true)):=by
 have hv:(tvar w).valid=true:=QG (GD hw) (by have:(tvar w).size=1:=rfl;omega);have h1:=XU (tvar w) [] hv (by have:(tvar w).size=1:=rfl;omega);have:=yG (F:=find tab) (prim:=prim) (f:=38) (args:=[zw w q]) (ps:=[(some 4,(tvar w).pv)]) (hp:=hp) (hp1:=hp.set q (.arr (some 4) [] true)) rfl rfl rfl (by
  simp[Yi,zw,AV.freeze,AV.freeze.go,deep,hq,AV.shp];exact⟨rfl,rfl⟩) h1
 exact this
theorem GV(l:List B)(hO:OKB l)(hl:l.length<90000000)(v w:Int)(hw:0<=w/\w<=1099511627776)(hf:fndB l w=false)(hvw:w≠v)(hp:Heap)(q r:Nat)(hq:q<hp.length)(hr:r<hp.length)(hn:q≠r):
  S 153 [.ptr q 0,O8 v,vagg w] (US hp q r l)=some (.ret (.tuple []),US hp q r (insB l v (tvar w))):=by
 have hlen:=fun l=>xx hp q r l;have hg0:∀(l:List B) (e:Heap),(US hp q r l++e)[hp.length]? =e[0]? :=fun l e=>YY (hlen l);have hg1:∀(l:List B) (e:Heap) (j:Nat),(US hp q r l++e)[hp.length+j]? =e[j]? :=fun l e j=>getN (hlen l) j;have hs0:∀(l:List B) (Y:AObj) (e:Heap),(US hp q r l++e).set hp.length Y=US hp q r l++e.set 0 Y:=fun l Y e=>yQ (hlen l) Y;have hld:=fun l e=>Vm (r:=r) hq hn l e;have hsm:=fun l e e'=>GT (r:=r) hq hn l e e';refine YR rfl rfl rfl rfl ?_;have hoc:∀e:Heap,1<e.length->S 157 [.sl (some 5) r l.length 0 l.length,O8 v,zw w (hp.length+1),.map (hp.length+2)] (US hp q r l++e)=some (.ret (O9 false),US hp q r l++e):=fun e he=>
  mZ (.inr (US_B hr l e)) hO.good.1 (by omega) v w (hp.length+1) (hp.length+2) (by rw[Zc,hlen];omega) hf hvw
 have hoc1:=hoc [.box (some 4) (zw w (hp.length+1)),.arr (some 4) [] false,.map none []] (by simp);have hpl:=fun e=>kM (US_B (q:=q) hr l e) v hO.good.1 (by omega);have hcl:=m5 w hw (hp.length+1) (US hp q r l++[.box (some 4) (zw w (hp.length+1)),.arr (some 4) [] false,.map none []]) (by rw[hg1];rfl);rw[setN (hlen l)] at hcl;simp only[zJ,zI,Tm.av] at hcl;have hbd:Ym A3 [0,1] [O8 v,.pv (some 4) (tvar w).pv]=some (.pv (some 5) (bdp (v,tvar w))):=rfl;have hins:∀e:Heap,S 158 [.sl (some 5) r l.length 0 l.length,O8 (lbB l v:Int),.tsl (some 5) [bdp (v,tvar w)]] (US hp q r l++e)=some (.ret (.sl (some 5) r (insB l v (tvar w)).length 0 (insB l v (tvar w)).length),UA hp q r l (insB l v (tvar w))++e):=fun e=>by
  obtain⟨s',H',h1,_,_,h2|h2⟩:=u6 (US_B (q:=q) hr l e) v (tvar w) (by omega)
  ·obtain⟨r',n',h3,h4,h5⟩:=h2;cases h3;rw[h1,h4,h5,qi,ZW _ _ (by rw[xx];exact hr)];rfl
  ·cases h2.1
 have hst:=fun l' e=>GS (r:=r) hq hn l l' hp.length hq e;simp only[zw] at hoc1 hcl;generalize hT:(tvar w).pv=T at hcl hbd;simp -dsimp -implicitDefEqProofs only[go_sem,seval,↓reduceIte,vagg,hoc1,hpl,hcl,hbd,hsm,hins,hst,hlen,hg0,hg1,hs0,hld,QL,qh,ZZ,zA,List.all_cons,List.all_nil,YD,Zd,zW,z6,z7,z9,Zh,Zc];exact ZD (hlen _)
def Xg(hp:Heap)(q r:Nat)(l:List B)(x y:Tm)(res:ARes)(hp':Heap):Prop:=
 match ustep l x y with
 | .err e=>res=.panic (qu e)/\hp'=US hp q r l
 | .bind v t=>res=.ret (O9 false)/\hp'=US hp q r (insB l v t)
 | .args xs=>hp'=US hp q r l/\((res=.ret (O9 false)/\xs=[])\/(res=.ret (O9 true)/\xs=x.args.zip y.args/\x.args.length=y.args.length))
theorem m6(l:List B)(hO:OKB l)(hl:l.length<90000000)(x y:Tm)(hx:Flwd l x)(hy:Flwd l y)(hp:Heap)(q r:Nat)(hq:q<hp.length)(hr:r<hp.length)(hn:q≠r):
  ∃res hp',S 144 [.ptr q 0,x.av,y.av] (US hp q r l)=some (res,hp')/\Xg hp q r l x y res hp':=by
 have hlen:=fun l=>xx hp q r l;have hg0:∀(l:List B) (e:Heap),(US hp q r l++e)[hp.length]? =e[0]? :=fun l e=>YY (hlen l);have hg1:∀(l:List B) (e:Heap) (j:Nat),(US hp q r l++e)[hp.length+j]? =e[j]? :=fun l e j=>getN (hlen l) j;have hsb:∀x:Int,Ym A4 [0] [O8 x]=some (.pv (some 1) (.agg [(none,.int .i64 x)])):=fun _=>rfl;have hmi:∀(s:Sh) (p:PV),xd 100 [.pv s p]=some (.pv none (.iface 100 s p)):=fun _ _=>rfl;have hpan:∀A:Prop,panK true A=A:=fun _=>rfl;have htk:∀(l:List B) (e:Heap),List.take hp.length (US hp q r l++e)=US hp q r l:=fun l e=>ZD (hlen l);have hif:∀(b:Bool) (A B:Heap),(if((AV.pv none (PV.bool b)).refsIn.all fun q=>decide (q<hp.length))=true then A else B)=A:=fun b A B=>Zb (by simp[AV.refsIn]);refine Vl (Xg hp q r l x y) rfl rfl rfl rfl ?_;have hbu:∀v:Int,Ym A0 [1] [O8 v]=some (.agg [(none,O8 0),(none,O8 v),(none,Oh []),(none,.tsl (some 4) [])]):=fun _=>rfl;by_cases hxk:x.kind=0
 ·have hx2:=hx.2 hxk;have hxk':=Zj hxk;by_cases hyk:y.kind=0
  ·have hy2:=hy.2 hyk;have hyk':=Zj hyk;by_cases hlt:y.n<x.n
   ·have hu:ustep l x y=.bind x.n y:=by unfold ustep;rw[Zb ⟨hxk,hyk⟩,Zb hlt]
    have hcall:=GV l hO hl x.n y.n hy2.2.2 hy2.1 (by omega) (hp++[.box (some 4) (.pv (some 4) x.pv),.box (some 4) (.pv (some 4) y.pv)]) q r (by simp;omega) (by simp;omega) hn;rw[Xz hq hr,Xz hq hr,<-hy2.2.1] at hcall;simp only[vagg] at hcall;have hne:¬x.n=y.n:=by omega
    have h1:=Zj hlt;have h2:=Zl (show ¬x.n<y.n by omega);simp -dsimp -implicitDefEqProofs only[go_sem,seval,↓reduceIte,Tm.av,hxk',hyk',hne,h1,h2,hbu,hcall,hsb,hmi,hpan,Ya,Yh,hlen,hg0,hg1,yd,Y6,Y7,Zd,zW,z6,z7,z9,Zh,Zc];unfold Xg;rw[hu];exact⟨rfl,by rw[hif];exact htk _ _⟩
   ·by_cases hgt:x.n<y.n
    ·have hu:ustep l x y=.bind y.n x:=by unfold ustep;rw[Zb ⟨hxk,hyk⟩,Za hlt,Zb hgt]
     have hcall:=GV l hO hl y.n x.n hx2.2.2 hx2.1 (by omega) (hp++[.box (some 4) (.pv (some 4) x.pv),.box (some 4) (.pv (some 4) y.pv)]) q r (by simp;omega) (by simp;omega) hn;rw[Xz hq hr,Xz hq hr,<-hx2.2.1] at hcall;simp only[vagg] at hcall;have hne:¬x.n=y.n:=by omega
     have h1:=Zj hgt;have h2:=Zl (show ¬y.n<x.n by omega);simp -dsimp -implicitDefEqProofs only[go_sem,seval,↓reduceIte,Tm.av,hxk',hyk',hne,h1,h2,hbu,hcall,hsb,hmi,hpan,Ya,Yh,hlen,hg0,hg1,yd,Y6,Y7,Zd,zW,z6,z7,z9,Zh,Zc];unfold Xg;rw[hu];exact⟨rfl,by rw[hif];exact htk _ _⟩
    ·have hu:ustep l x y=.args []:=by unfold ustep;rw[Zb ⟨hxk,hyk⟩,Za hlt,Za hgt]
     have hne:=Zj (show x.n=y.n by omega);simp -dsimp -implicitDefEqProofs only[go_sem,seval,↓reduceIte,Tm.av,hxk',hyk',hne,hsb,hmi,hpan,Ya,Yh,hlen,hg0,hg1,yd,Y6,Y7,Zd,zW,z6,z7,z9,Zh,Zc];unfold Xg;rw[hu];exact⟨by rw[hif];exact htk _ _,.inl ⟨rfl,rfl⟩⟩
  ·have hyk':=Zl hyk;obtain⟨res,hp',hcall,hin,hout⟩:=GU l hO hl x.n y hy.1 (hp++[.box (some 4) (.pv (some 4) x.pv),.box (some 4) (.pv (some 4) y.pv)]) q r (by simp;omega) (by simp;omega) hn;rw[Xz hq hr] at hcall hin;rw[Xz hq hr] at hout;simp only[Tm.av] at hcall;by_cases hi:inR l x.n y
   ·have hu:ustep l x y=.err 9:=by unfold ustep;rw[Za (fun h=>hyk h.2),Zb hxk,Zb hi]
    obtain⟨rfl,rfl⟩:=hin hi;simp -dsimp -implicitDefEqProofs only[go_sem,seval,↓reduceIte,Tm.av,hxk',hyk',hcall,hsb,hmi,hpan,Ya,Yh,hlen,hg0,hg1,yd,Y6,Y7,Zd,zW,z6,z7,z9,Zh,Zc];unfold Xg;rw[hu];exact⟨rfl,htk _ _⟩
   ·have hu:ustep l x y=.bind x.n y:=by unfold ustep;rw[Za (fun h=>hyk h.2),Zb hxk,Za hi]
    obtain⟨rfl,rfl⟩:=hout hi;simp -dsimp -implicitDefEqProofs only[go_sem,seval,↓reduceIte,Tm.av,hxk',hyk',hcall,hsb,hmi,hpan,Ya,Yh,hlen,hg0,hg1,yd,Y6,Y7,Zd,zW,z6,z7,z9,Zh,Zc];unfold Xg;rw[hu];exact⟨rfl,by rw[hif];exact htk _ _⟩
 ·have hxk':=Zl hxk;by_cases hyk:y.kind=0
  ·have hy2:=hy.2 hyk;have hyk':=Zj hyk;obtain⟨res,hp',hcall,hin,hout⟩:=GU l hO hl y.n x hx.1 (hp++[.box (some 4) (.pv (some 4) x.pv),.box (some 4) (.pv (some 4) y.pv)]) q r (by simp;omega) (by simp;omega) hn;rw[Xz hq hr] at hcall hin;rw[Xz hq hr] at hout;simp only[Tm.av] at hcall;by_cases hi:inR l y.n x
   ·have hu:ustep l x y=.err 9:=by unfold ustep;rw[Za (fun h=>hxk h.1),Za hxk,Zb hyk,Zb hi]
    obtain⟨rfl,rfl⟩:=hin hi;simp -dsimp -implicitDefEqProofs only[go_sem,seval,↓reduceIte,Tm.av,hxk',hyk',hcall,hsb,hmi,hpan,Ya,Yh,hlen,hg0,hg1,yd,Y6,Y7,Zd,zW,z6,z7,z9,Zh,Zc];unfold Xg;rw[hu];exact⟨rfl,htk _ _⟩
   ·have hu:ustep l x y=.bind y.n x:=by unfold ustep;rw[Za (fun h=>hxk h.1),Za hxk,Zb hyk,Za hi]
    obtain⟨rfl,rfl⟩:=hout hi;simp -dsimp -implicitDefEqProofs only[go_sem,seval,↓reduceIte,Tm.av,hxk',hyk',hcall,hsb,hmi,hpan,Ya,Yh,hlen,hg0,hg1,yd,Y6,Y7,Zd,zW,z6,z7,z9,Zh,Zc];unfold Xg;rw[hu];exact⟨rfl,by rw[hif];exact htk _ _⟩
  ·have hyk':=Zl hyk;by_cases hm:x.kind=y.kind/\x.n=y.n/\x.name=y.name/\x.args.length=y.args.length
   ·have hu:ustep l x y=.args (x.args.zip y.args):=by unfold ustep;rw[Za (fun h=>hxk h.1),Za hxk,Za hyk,Zb hm]
    obtain⟨m1,m2,m3,m4⟩:=hm;have m1':=Zj m1;have m2':=Zj m2;have m3':=Zj m3;have m4':=Zj (show(x.args.length:Int)=(y.args.length:Int) by omega);simp -dsimp -implicitDefEqProofs only[go_sem,seval,↓reduceIte,Tm.av,hxk',hyk',m1',m2',m3',m4',Ye,zV,Tm.pvs_len,hsb,hmi,hpan,Ya,Yh,hlen,hg0,hg1,yd,Y6,Y7,Zd,zW,z6,z7,z9,Zh,Zc];unfold Xg;rw[hu];exact⟨by rw[hif];exact htk _ _,.inr ⟨rfl,rfl,m4⟩⟩
   ·have hu:ustep l x y=.err 4:=by unfold ustep;rw[Za (fun h=>hxk h.1),Za hxk,Za hyk,Za hm]
    by_cases m1:x.kind=y.kind
    ·by_cases m2:x.n=y.n
     ·by_cases m3:x.name=y.name
      ·have m4:¬x.args.length=y.args.length:=fun e=>hm ⟨m1,m2,m3,e⟩;have m4:¬(x.args.length:Int)=(y.args.length:Int):=by omega
       have m1':=Zj m1;have m2':=Zj m2;have m3':=Zj m3;simp -dsimp -implicitDefEqProofs only[go_sem,seval,↓reduceIte,Tm.av,hxk',hyk',m1',m2',m3',m4,Ye,zV,Tm.pvs_len,hsb,hmi,hpan,Ya,Yh,hlen,hg0,hg1,yd,Y6,Y7,Zd,zW,z6,z7,z9,Zh,Zc];unfold Xg;rw[hu];exact⟨rfl,htk _ _⟩
      ·have m1':=Zj m1;have m2':=Zj m2;simp -dsimp -implicitDefEqProofs only[go_sem,seval,↓reduceIte,Tm.av,hxk',hyk',m1',m2',m3,Ye,zV,Tm.pvs_len,hsb,hmi,hpan,Ya,Yh,hlen,hg0,hg1,yd,Y6,Y7,Zd,zW,z6,z7,z9,Zh,Zc];unfold Xg;rw[hu];exact⟨rfl,htk _ _⟩
     ·have m1':=Zj m1;simp -dsimp -implicitDefEqProofs only[go_sem,seval,↓reduceIte,Tm.av,hxk',hyk',m1',m2,Ye,zV,Tm.pvs_len,hsb,hmi,hpan,Ya,Yh,hlen,hg0,hg1,yd,Y6,Y7,Zd,zW,z6,z7,z9,Zh,Zc];unfold Xg;rw[hu];exact⟨rfl,htk _ _⟩
    ·simp -dsimp -implicitDefEqProofs only[go_sem,seval,↓reduceIte,Tm.av,hxk',hyk',m1,Ye,zV,Tm.pvs_len,hsb,hmi,hpan,Ya,Yh,hlen,hg0,hg1,yd,Y6,Y7,Zd,zW,z6,z7,z9,Zh,Zc];unfold Xg;rw[hu];exact⟨rfl,htk _ _⟩
inductive Vis(l:List B)(w:Int):Tm->Prop
 |to:fndB l w=true->Vis l w (toB l w)
 |arg {x u:Tm}:Vis l w x->¬x.kind=0->u∈x.args->Vis l w u
 |jump {x:Tm}:Vis l w x->x.kind=0->fndB l x.n=true->Vis l w (toB l x.n)
theorem Vis.lt{l:List B}(hA:Acyc l){w:Int}{x:Tm}(h:Vis l w x):mu l x<mu l (tvar w):=by
 induction h with
 |to hf=>exact yZ (t:=tvar w) hA rfl hf
 |arg _ hk hu ih=>have:=xr l hk hu;omega
 |jump _ hk hf ih=>have:=yZ hA hk hf;omega
theorem Vis.ins{l:List B}(hG:Good l){v:Int}{t:Tm}(hf:fndB l v=false){w:Int}{x:Tm}(h:Vis l w x):Vis (insB l v t) w x:=by
 induction h with
 |to h1=>
  have:=Vis.to (l:=insB l v t) (w:=w) ((jJ hG hf w).2 (.inr h1));rw[Vh hG hf h1] at this;exact this
 |arg _ hk hu ih=>exact ih.arg hk hu
 |jump _ hk h1 ih=>
  have:=ih.jump hk ((jJ hG hf _).2 (.inr h1));rw[Vh hG hf h1] at this;exact this
theorem Vis.flw{l:List B}(hO:OKB l){w:Int}:∀(k:Nat) (u:Tm),mu l u=k->u.valid=true->Vis l w u->Vis l w (flw l u):=by
 intro k
 induction k using Nat.strongRecOn with
 |_ k ih=>
  intro u hk hv h;by_cases hk0:u.kind=0
  ·by_cases hf:fndB l u.n=true
   ·rw[QH hO.Acyc hk0 hf];have:=yZ hO.Acyc hk0 hf;exact ih _ (by omega) _ rfl (hO.to hf).1 (h.jump hk0 hf)
   ·rw[QI hO.Acyc (valid_fits hv) hk0 hf];exact h
  ·rw[xV l hk0];exact h
def PosI(l:List B)(u:Tm)(i:Nat):Prop:=∃D:List Int,D.Nodup/\(∀w∈D,fndB l w=true/\Vis l w u)/\i+u.size<=2000*(D.length+1)
def StkI(l:List B):List (Tm × Tm)->Prop
 |[]=>True
 |p::r=>PosI l p.1 r.length/\StkI l r
theorem PosI.ins{l:List B}(hG:Good l){v:Int}{t:Tm}(hf:fndB l v=false){u:Tm}{i:Nat}(h:PosI l u i):PosI (insB l v t) u i:=by
 obtain⟨D,h1,h2,h3⟩:=h;exact⟨D,h1,fun w hw=>⟨(jJ hG hf w).2 (.inr (h2 w hw).1),(h2 w hw).2.ins hG hf⟩,h3⟩
theorem StkI.ins{l:List B}(hG:Good l){v:Int}{t:Tm}(hf:fndB l v=false):∀{r:List (Tm × Tm)},StkI l r->StkI (insB l v t) r
 |[],_=>trivial
 |_::_,h=>⟨h.1.ins hG hf,StkI.ins hG hf h.2⟩
theorem StkI.len{l:List B}{r:List (Tm × Tm)}(h:StkI l r):r.length<=2000*(l.length+1):=by
 cases r with
 |nil=>exact Zg _
 |cons p r=>
  obtain⟨D,h1,h2,h3⟩:=h.1;have:=GK h1 fun w hw=>(h2 w hw).1;have h4:=p.1.size_eq;simp only[ZB];omega
theorem Vn{l:List B}{D:List Int}(h1:D.Nodup):∀(us vs:List Tm) (r:List (Tm × Tm)),us.length=vs.length->(∀u∈us,∀w∈D,fndB l w=true/\Vis l w u)->r.length+Tm.sizes us<=2000*(D.length+1)->StkI l r->StkI l (us.zip vs++r)
 |[],_,r,_,_,_,hr=>hr
 |u::us,[],r,hl,_,_,_=>by cases hl
 |u::us,v::vs,r,hl,hD,hs,hr=>by
  have hl':us.length=vs.length:=by simpa using hl
  have hs':r.length+(u.size+Tm.sizes us)<=2000*(D.length+1):=hs;have hz:=Tm.zyN us;refine⟨⟨D,h1,hD u Zv,?_⟩,Vn h1 us vs r hl' (fun x hx=>hD x (Zu _ hx)) (by omega) hr⟩;show(us.zip vs++r).length+u.size<=_;rw[Zc,List.length_zip];omega
theorem StkI.push{l:List B}(hO:OKB l){p:Tm × Tm}{r:List (Tm × Tm)}(hp:p.1.valid=true)(h:StkI l (p::r))(vs:List Tm)(hk:¬(Go.Proofs.YtffecaafklpmhaaGreat.flw l p.1).kind=0)(hl:(Go.Proofs.YtffecaafklpmhaaGreat.flw l p.1).args.length=vs.length):StkI l ((Go.Proofs.YtffecaafklpmhaaGreat.flw l p.1).args.zip vs++r):=by
 obtain⟨⟨D,h1,h2,h3⟩,hr⟩:=h;have hx:=Xf hO hp;have hxs:=valid_size hx.1;have hxe:=(Go.Proofs.YtffecaafklpmhaaGreat.flw l p.1).size_eq;by_cases hk0:p.1.kind=0
 ·have hps:p.1.size=1:=by rw[yn (valid_fits hp) hk0];rfl
  have hf:fndB l p.1.n=true:=by
   cases e:fndB l p.1.n with
   |true=>rfl
   |false=>exact absurd (by rw[QI hO.Acyc (valid_fits hp) hk0 (by simp[e])];exact hk0) hk
  have hv:Vis l p.1.n (Go.Proofs.YtffecaafklpmhaaGreat.flw l p.1):=by
   rw[QH hO.Acyc hk0 hf];exact Vis.flw hO _ _ rfl (hO.to hf).1 (.to hf)
  have hnm:p.1.n ∉ D:=fun hm=>by
   have:=(h2 _ hm).2.lt hO.Acyc;rw[jE (valid_fits hp) hk0] at this;omega
  refine Vn (D:=p.1.n::D) (List.nodup_cons.2 ⟨hnm,h1⟩) _ vs r hl (fun u hu w hw=> ?_) (by simp only[ZB];omega) hr;rcases Zt.1 hw with rfl|hw
  ·exact⟨hf,hv.arg hk hu⟩
  ·exact⟨(h2 w hw).1,(Vis.flw hO _ _ rfl hp (h2 w hw).2).arg hk hu⟩
 ·rw[xV l hk0] at hxe hk hl ⊢;exact Vn h1 _ vs r hl (fun u hu w hw=>⟨(h2 w hw).1,(h2 w hw).2.arg hk0 hu⟩) (by omega) hr
theorem m7{hp:Heap}{r len:Nat}{es:List PV}{x:PV}(h:hp[r]? =some (.arr (some 8) es false))(hlen:len<=es.length)(hlim:len+1<=lim):
  ∃es',YN (some 8) hp [.sl (some 8) r es.length 0 len,.tsl (some 8) [x]]=some (.sl (some 8) r es'.length 0 (len+1),hp.set r (.arr (some 8) es' false))/\es'.take (len+1)=es.take len++[x]/\len+1<=es'.length/\∀y∈es',y∈es\/y=x:=by
 by_cases h1:len=es.length
 ·subst h1;refine⟨es++[x],by simp[YN,aappend,elems,h,hlim],by rw[Zp (by simp)];simp,by simp,fun y hy=>by simpa using hy⟩
 ·have h2:len+1<=es.length:=by omega
  refine⟨es.take len++[x]++es.drop (len+1),?_,?_,?_,fun y hy=> ?_⟩
  ·have e:(es.take len++[x]++es.drop (len+1)).length=es.length:=by simp;omega
   rw[e];simp[YN,aappend,elems,h,hlim,h1,h2]
  ·rw[zk (by simp;omega),Zp (by simp;omega)]
  ·simp;omega
  ·rcases Zr.1 hy with hy|hy
   ·rcases Zr.1 hy with hy|hy
    ·exact .inl (zO hy)
    ·exact .inr (ZV.1 hy)
   ·exact .inl (zG hy)
end Go.Proofs.YtffecaafklpmhaaGreat
