/- What is proved: the program's occurs. -/
import Derived.Test.YtiifblpdlphchaaGreatRRRv
import Derived.Test.YtiifblpdlphchaaGreatRRDfr
set_option linter.unusedSimpArgs false
set_option linter.unusedVariables false
namespace Go.Proofs.YtiifblpdlphchaaGreatRR
open Go.Am
def inR(l:List B)(v:Int)(t:Tm):Prop:=v∈(rs l t).occ
theorem zfQ{l:List B}(h:Acyc l){v:Int}{t:Tm}(hv:t.fits=true)(hk:t.kind=0)(hf:¬fndB l t.n=true):inR l v t↔v=t.n:=by
 unfold inR
 rw[zte h hv hk hf,Tm.occ_eq,if_pos hk]
 simp
theorem zlR{l:List B}(h:Acyc l){v:Int}{t:Tm}(hk:t.kind=0)(hf:fndB l t.n=true):inR l v t↔inR l v (toB l t.n):=by
 unfold inR
 rw[zpY h hk,if_pos hf]
theorem zkW{l:List B}{v:Int}{t:Tm}(hk:¬t.kind=0):inR l v t↔∃u∈t.args,inR l v u:=by
 unfold inR
 rw[zuj l hk,Tm.occ_eq,if_neg (by exact hk)]
 constructor
 ·intro h
  obtain⟨u,hu,h⟩:=Tm.zvb h
  obtain⟨x,hx,rfl⟩:=List.mem_map.1 hu
  exact⟨x,hx,h⟩
 ·rintro⟨u,hu,h⟩
  exact Tm.zvn (List.mem_map.2 ⟨u,hu,rfl⟩) h
def SeenPre(l:List B)(v:Int)(sn:Int->Prop)(t:Tm):Prop:=∀w,sn w->fndB l w=true/\(¬inR l v (tvar w)\/mu l t<mu l (tvar w))
structure SeenPost(l:List B)(v:Int)(sn sn':Int->Prop)(t:Tm)(b:Bool):Prop where
 yes:b=true->inR l v t
 no:b=false->¬inR l v t/\∀w,sn' w->sn w\/(fndB l w=true/\¬inR l v (tvar w))
theorem SeenPre.arg{l:List B}{v:Int}{sn:Int->Prop}{t u:Tm}(h:SeenPre l v sn t)(hm:mu l u<mu l t):SeenPre l v sn u:=fun w hw=>by
 obtain⟨h1,h2|h2⟩:=h w hw
 ·exact⟨h1,.inl h2⟩
 ·exact⟨h1,.inr (by omega)⟩
theorem zrx{l:List B}{t:Tm}(hv:t.fits=true)(hk:t.kind=0):mu l (tvar t.n)=mu l t:=by rw[<-zbr hv hk]
theorem SeenPre.old{l:List B}{v:Int}{sn:Int->Prop}{t:Tm}(h:SeenPre l v sn t)(hv:t.fits=true)(hk:t.kind=0)(hs:sn t.n):¬inR l v t:=by
 obtain⟨_,h2|h2⟩:=h t.n hs
 ·rw[<-zbr hv hk] at h2;exact h2
 ·rw[zrx hv hk] at h2;exact absurd h2 (Nat.lt_irrefl _)
theorem SeenPre.new{l:List B}{v:Int}{sn:Int->Prop}{t:Tm}(h:SeenPre l v sn t)(ha:Acyc l)(hv:t.fits=true)(hk:t.kind=0)(hf:fndB l t.n=true):SeenPre l v (fun w=>w=t.n\/sn w) (toB l t.n):=fun w hw=>by
 have hlt:=zim ha hk hf
 rcases hw with rfl|hw
 ·exact⟨hf,.inr (by rw[zrx hv hk];exact hlt)⟩
 ·exact h.arg hlt w hw
theorem SeenPost.new{l:List B}{v:Int}{sn sn':Int->Prop}{t:Tm}{b:Bool}(h:SeenPost l v (fun w=>w=t.n\/sn w) sn' (toB l t.n) b)(ha:Acyc l)(hv:t.fits=true)(hk:t.kind=0)(hf:fndB l t.n=true):SeenPost l v sn sn' t b:=
 ⟨fun hb=>(zlR ha hk hf).2 (h.yes hb),fun hb=>by
  obtain⟨h1,h2⟩:=h.no hb
  refine⟨fun e=>h1 ((zlR ha hk hf).1 e),fun w hw=> ?_⟩
  rcases h2 w hw with(rfl|h3)|h3
  ·exact .inr ⟨hf,fun e=>h1 ((zlR ha hk hf).1 (by rw[zbr hv hk];exact e))⟩
  ·exact .inl h3
  ·exact .inr h3⟩
def unS(f:Int->Int):List B->Nat
 |[]=>0
 |b::r=>(if f b.1=0 then b.2.size else 0)+unS f r
theorem zpJ{f g:Int->Int}(h:∀w,f w≠0->g w≠0):∀l:List B,unS g l<=unS f l
 |[]=>Nat.le_refl _
 |b::r=>by
  have ih:=zpJ h r
  unfold unS
  by_cases h1:g b.1=0
  ·have h2:f b.1=0:=by
    rcases Int.lt_trichotomy (f b.1) 0 with h3|h3|h3
    ·exact absurd h1 (h _ (by omega))
    ·exact h3
    ·exact absurd h1 (h _ (by omega))
   rw[if_pos h1,if_pos h2];omega
  ·rw[if_neg h1];omega
theorem zr9{f g:Int->Int}(h:∀w,f w≠0->g w≠0){v:Int}(h0:f v=0)(h1:g v≠0){t:Tm}:∀{l:List B},(v,t)∈l->unS g l+t.size<=unS f l
 |[],hm=>by cases hm
 |b::r,hm=>by
  have hle:=zpJ h r
  rcases List.mem_cons.1 hm with rfl|hm
  ·simp only[unS]
   rw[if_neg h1,if_pos h0];omega
  ·have ih:=zr9 h h0 h1 hm
   simp only[unS]
   by_cases h2:g b.1=0
   ·have h2:f b.1=0:=by
     rcases Int.lt_trichotomy (f b.1) 0 with h3|h3|h3
     ·exact absurd h2 (h _ (by omega))
     ·exact h3
     ·exact absurd h2 (h _ (by omega))
    split <;> omega
   ·rw[if_neg h2];omega
theorem IsS.setm{s:AV}{hp:Heap}{l:List B}(h:IsS s hp l){r:Nat}{sh:Sh}{es:List (PV × PV)}(hr:hp[r]? =some (.map sh es))(X:AObj):IsS s (hp.set r X) l:=by
 rcases h with h|h|⟨q,h1,h2⟩
 ·exact .inl h
 ·exact .inr (.inl h)
 ·refine .inr (.inr ⟨q,h1,?_⟩)
  have:r≠q:=fun e=>by rw[e,h2] at hr;cases hr
  rw[List.getElem?_set_ne this]
  exact h2
structure OcR(l:List B)(v:Int)(t:Tm)(f:Int->Int)(m':List (Int × PV))(b:Bool)(f':Int->Int):Prop where
 map:MapI m' f'
 pos:∀w,0<=f' w
 mono:∀w,f w≠0->f' w≠0
 post:SeenPost l v (fun w=>f w≠0) (fun w=>f' w≠0) t b
 cost:∀w,f' w+(unS f' l:Int)<=f w+t.size+unS f l
theorem zs5(l:List B)(hO:OKB l)(hl:l.length<1000000000)(v:Int)(s:AV):∀(k:Nat) (t:Tm) (hp:Heap) (r:Nat) (m:List (Int × PV)) (f:Int->Int),mu l t=k->t.valid=true->hp[r]? =some (.map none (za7 m))->IsS s hp l->MapI m f->(∀w,0<=f w)->SeenPre l v (fun w=>f w≠0) t->(∀w,f w+t.size+unS f l<=1000000000000000)->
  ∃(m':List (Int × PV)) (b:Bool) (f':Int->Int),S 145 [s,.pv none (.int .i64 v),t.av,.map r] hp=some (.ret (.pv none (.bool b)),hp.set r (.map none (za7 m')))/\OcR l v t f m' b f':=by
 intro k
 induction k using Nat.strongRecOn with
 |_ k ih=>
  intro t hp r m f hk hv hr hS hM hpos hpre hbig
  have hlt:=zbh hr
  have htz:=valid_size hv
  have hself:hp.set r (.map none (za7 m))=hp:=by
   obtain⟨_,h⟩:=List.getElem?_eq_some_iff.1 hr
   rw[<-h];exact List.set_getElem_self _
  have hg0:∀(X:AObj) (e:Heap),(hp.set r X++e)[hp.length]? =e[0]? :=fun X e=>zcJ (by simp)
  have hg1:∀(X:AObj) (e:Heap) (k:Nat),(hp.set r X++e)[hp.length+k]? =e[k]? :=fun X e k=>getN (by simp) k
  have hlen:∀(X:AObj),(hp.set r X).length=hp.length:=fun X=>by simp
  have hs1:∀(X Y:AObj) (e:Heap) (k:Nat),(hp.set r X++e).set (hp.length+k) Y=hp.set r X++e.set k Y:=fun X Y e k=>setN (by simp) k Y
  have hrr:∀(X:AObj) (e:Heap),(hp.set r X++e)[r]? =some X:=fun X e=>by rw[List.getElem?_append_left (by simpa using hlt),List.getElem?_set_self hlt]
  have hss:∀(X Y:AObj) (e:Heap),(hp.set r X++e).set r Y=hp.set r Y++e:=fun X Y e=>by rw[List.set_append_left _ _ (by simpa using hlt),List.set_set]
  suffices hP:∃v' hp',S 145 [s,.pv none (.int .i64 v),t.av,.map r] hp=some (.ret v',hp')/\∃(m':List (Int × PV)) (b:Bool) (f':Int->Int),v'=.pv none (.bool b)/\hp'=hp.set r (.map none (za7 m'))/\OcR l v t f m' b f' by
   obtain⟨v',hp',h1,m',b,f',rfl,rfl,h2⟩:=hP
   exact⟨m',b,f',h1,h2⟩
  refine zc4 _ rfl rfl rfl rfl ?_
  by_cases hk0:t.kind=0
  ·have hk':=eq_true hk0
   by_cases hf:fndB l t.n=true
   ·have hb:=fun e=>zjw (hS.more e) hO.good.1 hl t hk0 hf
    obtain⟨hto,_⟩:=hO.to hf
    have hlt2:=zim hO.Acyc hk0 hf
    have hts1:t.size=1:=by rw[zbr (valid_fits hv) hk0];rfl
    have hlk:∀e:Heap,zaW false none (.pv none (.int .i64 0)) false (hp++e) [.map r,.pv none (.int .i64 t.n)]=some (.pv none (.int .i64 (f t.n))):=fun e=>by
     rw[zjI (m:=m) (by rw[List.getElem?_append_left hlt];exact hr),hM]
    have hms:∀(x:Int) (e:Heap),zbD false none (hp++e) [.map r,.pv none (.int .i64 t.n),.pv none (.int .i64 x)]=some (.undef,hp.set r (.map none (za7 (mPut t.n (.int .i64 x) m)))++e):=fun x e=>by
     have:=zbP (str:=false) (sh:=none) (s:=none) (hp:=hp.set r (.map none (za7 m))++e) (r:=r) (k:=.int .i64 t.n) (p:=.int .i64 x) (es:=za7 m) (hrr _ _) (zds _ _ _)
     rw[hss,hself] at this
     exact this
    have hlk2:∀(x:Int) (e:Heap),zaW false none (.pv none (.int .i64 0)) false (hp.set r (.map none (za7 (mPut t.n (.int .i64 x) m)))++e) [.map r,.pv none (.int .i64 t.n)]=some (.pv none (.int .i64 x)):=fun x e=>by
     rw[zjI (m:=mPut t.n (.int .i64 x) m) (hrr _ _),zgC,if_pos rfl]
     rfl
    have hb1:=hbig t.n
    have hb2:=hpos t.n
    have w1:IntKind.i64.wrap (f t.n+1)=f t.n+1:=zaH (by omega) (by omega)
    have hM1:=hM.put t.n (f t.n+1)
    have hmono1:∀w,f w≠0->(fun w=>if w=t.n then f t.n+1 else f w) w≠0:=fun w hw=>by
     by_cases e:w=t.n
     ·simp only[if_pos e];omega
     ·simp only[if_neg e];exact hw
    have hpos1:∀w,0<=(fun w=>if w=t.n then f t.n+1 else f w) w:=fun w=>by
     by_cases e:w=t.n
     ·simp only[if_pos e];omega
     ·simp only[if_neg e];exact hpos w
    simp only[Tm.av] at hb
    by_cases h0:f t.n=0
    ·rw[h0] at hM1 hmono1 hpos1
     simp only[Int.zero_add] at hM1 hmono1 hpos1
     have hun:=zr9 hmono1 h0 (by simp) (find_mem hf)
     have hbig1:∀w,(fun w=>if w=t.n then(1:Int) else f w) w+(toB l t.n).size+unS (fun w=>if w=t.n then(1:Int) else f w) l<=1000000000000000:=fun w=>by
      have h3:=hbig w
      have h4:=hpos w
      by_cases e:w=t.n
      ·simp only[if_pos e];omega
      ·simp only[if_neg e];omega
     have hpre1:SeenPre l v (fun w=>(fun w=>if w=t.n then(1:Int) else f w) w≠0) (toB l t.n):=fun w hw=>by
      refine hpre.new hO.Acyc (valid_fits hv) hk0 hf w ?_
      by_cases e:w=t.n
      ·exact .inl e
      ·simp only[if_neg e] at hw;exact .inr hw
     obtain⟨m2,bb,f2,hcall,hR⟩:=ih _ (by omega) (toB l t.n) (hp.set r (.map none (za7 (mPut t.n (.int .i64 1) m)))++[.box (some 4) (.pv (some 4) t.pv),.box (some 4) (.pv (some 4) (toB l t.n).pv),.arr (some 4) [] false]) r _ _ rfl hto (hrr _ _) ((hS.setm hr _).more _) hM1 hpos1 hpre1 hbig1
     rw[hss] at hcall
     simp only[Tm.av] at hcall
     rw[h0] at w1
     simp only[Int.zero_add] at w1
     simp -dsimp -implicitDefEqProofs only[go_sem,seval,↓reduceIte,Tm.av,zao,zaF,hk',hb,hlk,h0,w1,hms,hlk2,hcall,hg0,hg1,Int.zero_add,zae (Nat.le_add_right _ _),List.append_assoc,zaf,zac,zah,zad,Nat.add_assoc,List.length_append]
     refine⟨m2,bb,f2,rfl,?_,hR.map,hR.pos,fun w hw=>hR.mono w (hmono1 w hw),?_,fun w=> ?_⟩
     ·rw[if_pos (by simp[AV.refsIn])]
      exact List.take_left' (by simp)
     ·have hq:SeenPost l v (fun w=>w=t.n\/f w≠0) (fun w=>f2 w≠0) (toB l t.n) bb:=⟨hR.post.yes,fun hb=>⟨(hR.post.no hb).1,fun w hw=>((hR.post.no hb).2 w hw).imp (fun h=>by
       by_cases e:w=t.n
       ·exact .inl e
       ·simp only[if_neg e] at h;exact .inr h) id⟩⟩
      exact hq.new hO.Acyc (valid_fits hv) hk0 hf
     ·have h3:=hR.cost w
      have h4:=hpos w
      by_cases e:w=t.n
      ·simp only[if_pos e] at h3;omega
      ·simp only[if_neg e] at h3;omega
    ·have h1:¬f t.n+1=1:=by omega
     simp -dsimp -implicitDefEqProofs only[go_sem,seval,↓reduceIte,Tm.av,zao,zaF,hk',hb,hlk,h1,w1,hms,hlk2,hg0,hg1,zae (Nat.le_add_right _ _),List.append_assoc,zaf,zac,zah,zad,Nat.add_assoc,List.length_append]
     refine⟨_,false,_,rfl,?_,hM1,hpos1,hmono1,⟨(fun e=>by cases e),fun _=>⟨hpre.old (valid_fits hv) hk0 h0,fun w hw=> ?_⟩⟩,fun w=> ?_⟩
     ·rw[if_pos (by simp[AV.refsIn])]
      exact List.take_left' (by simp)
     ·by_cases e:w=t.n
      ·rw[e];exact .inl h0
      ·simp only[if_neg e] at hw;exact .inl hw
     ·have h3:=zpJ hmono1 l
      by_cases e:w=t.n
      ·simp only[if_pos e];rw[e];omega
      ·simp only[if_neg e];omega
   ·have hb:=fun e=>zlD (hS.more e) hO.good.1 hl t fun h=>hf h.2
    simp only[Tm.av] at hb
    simp -dsimp -implicitDefEqProofs only[go_sem,seval,↓reduceIte,Tm.av,zao,zaF,hk',hb,bndX,zagg,zat,zae (Nat.le_add_right _ _),List.append_assoc,zaf,zac,zah,zad,Nat.add_assoc,List.length_append]
    refine⟨m,decide (t.n=v),f,rfl,?_,hM,hpos,fun _ h=>h,⟨fun h=> ?_,fun h=>⟨fun e=> ?_,fun w hw=>.inl hw⟩⟩,fun w=>by omega⟩
    ·rw[if_pos (by simp[AV.refsIn]),hself]
     exact List.take_left
    ·exact(zfQ hO.Acyc (valid_fits hv) hk0 hf).2 (of_decide_eq_true h).symm
    ·exact of_decide_eq_false h ((zfQ hO.Acyc (valid_fits hv) hk0 hf).1 e).symm
  ·have hk':=eq_false hk0
   simp -dsimp -implicitDefEqProofs only[go_sem,seval,↓reduceIte,Tm.av,zao,zai,Tm.pvs_len,hk',List.append_assoc,zaf,zac,zah,zad,Nat.add_assoc,List.length_append]
   refine zc0 (α:=List (Int × PV)) t.args.length (fun i m2=>∃f2:Int->Int,MapI m2 f2/\(∀w,0<=f2 w)/\(∀w,f w≠0->f2 w≠0)/\(∀j,j<i->∀u,t.args[j]? =some u->¬inR l v u)/\(∀w,f2 w≠0->f w≠0\/(fndB l w=true/\¬inR l v (tvar w)))/\∀w,f2 w+(unS f2 l:Int)<=f w+Tm.sizes (t.args.take i)+unS f l)
    (fun i m2=>⟨[(0,s),(1,.pv none (.int .i64 v)),(3,.map r),(46,.pv none (.sl (some 4) (Tm.pvs t.args))),(47,.pv none (.int .i64 t.args.length)),(48,.pv none (.int .i64 i))],hp.set r (.map none (za7 m2))++[.box (some 4) (.pv (some 4) t.pv)]⟩) m ⟨⟨f,hM,hpos,fun _ h=>h,fun j hj=>by omega,fun w hw=>.inl hw,fun w=>by simp[Tm.sizes]⟩,?_⟩ ?_ ?_
   ·rw[hself]
    rfl
   ·rintro i m2 h ⟨f2,q1,q2,q3,q4,q5,q6⟩
    have hc:(i:Int)<(t.args.length:Int):=by omega
    obtain⟨u,hu⟩:∃u,t.args[i]? =some u:=⟨_,List.getElem?_eq_getElem h⟩
    have hum:=List.mem_of_getElem? hu
    have hmu:=zpX l hk0 hum
    have hst:=Tm.zu4 hu
    have hle:=Tm.zuZ t.args (i+1)
    have hts:=t.size_eq
    have hlen2:=Tm.zuW t.args
    have hpre2:SeenPre l v (fun w=>f2 w≠0) u:=fun w hw=>by
     rcases q5 w hw with h|⟨h1,h2⟩
     ·exact hpre.arg hmu w h
     ·exact⟨h1,.inl h2⟩
    obtain⟨m3,bb,f3,hcall,hR⟩:=ih _ (by omega) u (hp.set r (.map none (za7 m2))++[.box (some 4) (.pv (some 4) t.pv),.box (some 4) (.pv (some 4) u.pv),.arr (some 4) [] false]) r m2 f2 rfl (zbl hv hum) (hrr _ _) ((hS.setm hr _).more _) q1 q2 hpre2 (fun w=>by have:=q6 w;have:=hbig w;omega)
    rw[hss] at hcall
    simp only[Tm.av] at hcall
    have w2:IntKind.i64.wrap ((i:Int)+1)=((i+1:Nat):Int):=by rw[zaH (by omega) (by omega)];omega
    cases bb with
    |true=>
     simp -dsimp -implicitDefEqProofs only[c145b18,go_sem,seval,↓reduceIte,hc,zaj (Tm.pvs_get hu),hcall,hlen,hg0,hg1,hs1,List.append_assoc,zaf,zac,zah,zad,Nat.add_assoc,List.length_append]
     refine⟨m3,true,f3,rfl,?_,hR.map,hR.pos,fun w hw=>hR.mono w (q3 w hw),⟨fun _=>(zkW hk0).2 ⟨u,hum,hR.post.yes rfl⟩,fun e=>by cases e⟩,fun w=> ?_⟩
     ·rw[if_pos (by simp[AV.refsIn])]
      exact List.take_left' (by simp)
     ·have:=hR.cost w;have:=q6 w;omega
    |false=>
     obtain⟨n1,n2⟩:=hR.post.no rfl
     simp -dsimp -implicitDefEqProofs only[c145b18,go_sem,seval,↓reduceIte,hc,zaj (Tm.pvs_get hu),hcall,w2,hlen,hg0,hg1,hs1,List.append_assoc,zaf,zac,zah,zad,Nat.add_assoc,List.length_append]
     refine⟨m3,⟨f3,hR.map,hR.pos,fun w hw=>hR.mono w (q3 w hw),fun j hj x hx=> ?_,fun w hw=> ?_,fun w=> ?_⟩,?_⟩
     ·rcases Nat.lt_or_ge j i with h|h
      ·exact q4 j h x hx
      ·have:j=i:=by omega
       subst this
       rw[hu] at hx
       cases hx
       exact n1
     ·rcases n2 w hw with h|h
      ·exact q5 w h
      ·exact .inr h
     ·have:=hR.cost w;have:=q6 w;omega
     ·rw[za6 1 (by simp) rfl (by simp[AObj.refs,AV.refsIn]) (by simp[AV.refsIn,AV.refsIn.gol,hS.low];omega)]
      rfl
   ·rintro m2 ⟨f2,q1,q2,q3,q4,q5,q6⟩
    have hc:¬(t.args.length:Int)<(t.args.length:Int):=by omega
    have hts:=t.size_eq
    simp -dsimp -implicitDefEqProofs only[c145b18,go_sem,seval,↓reduceIte,hc]
    refine⟨m2,false,f2,rfl,?_,q1,q2,q3,⟨(fun e=>by cases e),fun _=>⟨fun e=> ?_,q5⟩⟩,fun w=> ?_⟩
    ·rw[if_pos (by simp[AV.refsIn])]
     exact List.take_left' (by simp)
    ·obtain⟨u,hu,h⟩:=(zkW hk0).1 e
     obtain⟨j,hj,rfl⟩:=List.getElem_of_mem hu
     exact q4 j hj _ (List.getElem?_eq_getElem hj) h
    ·have:=q6 w
     rw[List.take_length] at this
     omega
theorem zjK(f:Int->Int):∀l:List B,(∀b∈l,b.2.size<=1000000)->unS f l<=1000000*l.length
 |[],_=>Nat.zero_le _
 |b::r,h=>by
  have ih:=zjK f r fun c hc=>h c (List.mem_cons_of_mem _ hc)
  have h1:=h b List.mem_cons_self
  simp only[unS,List.length_cons]
  split <;> omega
theorem zgE:∀(a b:List Int),a.Nodup->(∀x∈a,x∈b)->a.length<=b.length
 |[],_,_,_=>Nat.zero_le _
 |x::a,b,h,hs=>by
  have hx:=hs x List.mem_cons_self
  have h1:=List.nodup_cons.1 h
  have ih:=zgE a (b.erase x) h1.2 fun y hy=>(List.mem_erase_of_ne (fun e=>h1.1 (by rw[<-e];exact hy))).2 (hs y (List.mem_cons_of_mem _ hy))
  have h2:=List.length_erase_of_mem hx
  have h3:=List.length_pos_of_mem hx
  simp only[List.length_cons]
  omega
theorem ztc{l:List B}{σ:List Int}(h1:σ.Nodup)(h2:∀w∈σ,fndB l w=true):σ.length<=l.length:=by
 have:=zgE σ (l.map (·.1)) h1 fun w hw=>by
  exact List.mem_map.2 ⟨_,find_mem (h2 w hw),rfl⟩
 simpa using this
inductive UStep where
 |err (e:Int)
 |bind (v:Int) (t:Tm)
 |args (xs:List (Tm × Tm))
open Classical in
noncomputable def ustep(l:List B)(x y:Tm):UStep:=
 if x.kind=0/\y.kind=0 then
  if y.n<x.n then .bind x.n y else if x.n<y.n then .bind y.n x else .args []
 else if x.kind=0 then(if inR l x.n y then .err 9 else .bind x.n y)
 else if y.kind=0 then(if inR l y.n x then .err 9 else .bind y.n x)
 else if x.kind=y.kind/\x.n=y.n/\x.name=y.name/\x.args.length=y.args.length then .args (x.args.zip y.args) else .err 4
noncomputable def uni:Nat->List B->List (Tm × Tm)->List B × Int
 |_,l,[]=>(l,0)
 |0,_,_::_=>([],2)
 |n+1,l,p::r=>match ustep l (flw l p.1) (flw l p.2) with
  | .err e=>([],e)
  | .bind v t=>uni n (insB l v t) r
  | .args xs=>uni n l (xs++r)
theorem zti(n:Nat)(l:List B):uni n l []=(l,0):=by cases n <;> rfl
theorem zrK(l:List B)(p:Tm × Tm)(r:List (Tm × Tm)):uni 0 l (p::r)=([],2):=rfl
theorem ztj{n:Nat}{l:List B}{p:Tm × Tm}{e:Int}(r:List (Tm × Tm))(h:ustep l (flw l p.1) (flw l p.2)=.err e):uni (n+1) l (p::r)=([],e):=by rw[uni,h]
theorem zrL{n:Nat}{l:List B}{p:Tm × Tm}{v:Int}{t:Tm}(r:List (Tm × Tm))(h:ustep l (flw l p.1) (flw l p.2)=.bind v t):uni (n+1) l (p::r)=uni n (insB l v t) r:=by rw[uni,h]
theorem zlU{n:Nat}{l:List B}{p:Tm × Tm}{xs:List (Tm × Tm)}(r:List (Tm × Tm))(h:ustep l (flw l p.1) (flw l p.2)=.args xs):uni (n+1) l (p::r)=uni n l (xs++r):=by rw[uni,h]
theorem mem_insB_iff{l:List B}{v:Int}{t:Tm}{x:B}:x∈insB l v t↔x=(v,t)\/x∈l:=⟨zeE,znf⟩
theorem zio{l:List B}(hG:Good l){v:Int}{t:Tm}(hf:fndB l v=false)(w:Int):fndB (insB l v t) w=true↔w=v\/fndB l w=true:=by
 rw[zpF (zeF hG.1 hf),zpF hG.1]
 simp only[List.mem_map,mem_insB_iff]
 constructor
 ·rintro⟨x,rfl|h,rfl⟩
  ·exact .inl rfl
  ·exact .inr ⟨x,h,rfl⟩
 ·rintro(rfl|⟨x,h,rfl⟩)
  ·exact⟨_,.inl rfl,rfl⟩
  ·exact⟨x,.inr h,rfl⟩
theorem zus{l:List B}(hG:Good l){v:Int}{t:Tm}(hf:fndB l v=false):toB (insB l v t) v=t:=(zs3 (zeF hG.1 hf) (mem_insB_iff.2 (.inl rfl))).2
theorem zgH{l:List B}(hG:Good l){v:Int}{t:Tm}(hf:fndB l v=false){w:Int}(hw:fndB l w=true):toB (insB l v t) w=toB l w:=
 (zs3 (zeF hG.1 hf) (mem_insB_iff.2 (.inr (find_mem hw)))).2
theorem zse{l:List B}{w:Int}:∀t:Tm,t.fits=true->w∈t.occ->mu l (tvar w)<=mu l t:=by
 intro t
 induction t using Tm.zuX with
 |h t ih=>
  intro hf hw
  rw[Tm.occ_eq] at hw
  by_cases hk:t.kind=0
  ·rw[if_pos hk,List.mem_singleton] at hw
   rw[hw,zrx hf hk]
   exact Nat.le_refl _
  ·rw[if_neg hk] at hw
   obtain⟨u,hu,h⟩:=Tm.zvb hw
   have:=ih u hu (Tm.zuY hf hu) h
   have:=zpX l hk hu
   omega
theorem zp3{l:List B}{v w:Int}:∀t:Tm,t.fits=true->w∈t.occ->inR l v (tvar w)->inR l v t:=by
 intro t
 induction t using Tm.zuX with
 |h t ih=>
  intro hf hw hi
  rw[Tm.occ_eq] at hw
  by_cases hk:t.kind=0
  ·rw[if_pos hk,List.mem_singleton] at hw
   rw[zbr hf hk,<-hw]
   exact hi
  ·rw[if_neg hk] at hw
   obtain⟨u,hu,h⟩:=Tm.zvb hw
   exact(zkW hk).2 ⟨u,hu,ih u hu (Tm.zuY hf hu) h hi⟩
theorem ztk{l:List B}(hO:OKB l){v:Int}{t:Tm}(hf:fndB l v=false)(hv:0<=v/\v<=1099511627776)(ht:t.valid=true)(hn:¬inR l v t):OKB (insB l v t):=by
 have htz:=valid_size ht
 have hA:=hO.Acyc
 refine zsc (zpI hO.good hf ht (by omega)) (fun b hb=> ?_) ?_
 ·rcases zeE hb with rfl|h
  ·exact hv
  ·exact hO.rng b h
 ·refine⟨fun w=>by classical exact if inR l v (tvar w) then mu l (tvar w)+mu l t+1 else mu l (tvar w),fun x hx y hy hfy=> ?_⟩
  have hvv:inR l v (tvar v):=(zfQ hA (zjJ hv) rfl (by show ¬fndB l v=true;simp[hf])).2 rfl
  simp only
  by_cases hxv:x=v
  ·subst hxv
   rw[zus hO.good hf] at hy
   have h1:¬inR l x (tvar y):=fun h=>hn (zp3 t (valid_fits ht) hy h)
   have h2:=zse (l:=l) t (valid_fits ht) hy
   rw[if_pos hvv,if_neg h1]
   omega
  ·have hfx:fndB l x=true:=((zio hO.good hf x).1 hx).resolve_left hxv
   rw[zgH hO.good hf hfx] at hy
   have hto:=valid_fits (hO.to hfx).1
   have h2:=zse (l:=l) _ hto hy
   have h3:=zim (l:=l) hA (t:=tvar x) rfl hfx
   have h3:mu l (toB l x)<mu l (tvar x):=h3
   have h4:inR l v (tvar y)->inR l v (tvar x):=fun h=>(zlR hA (t:=tvar x) rfl hfx).2 (zp3 _ hto hy h)
   by_cases h5:inR l v (tvar y)
   ·rw[if_pos h5,if_pos (h4 h5)];omega
   ·rw[if_neg h5]
    split <;> omega
def Flwd(l:List B)(x:Tm):Prop:=x.valid=true/\(x.kind=0->fndB l x.n=false/\x=tvar x.n/\0<=x.n/\x.n<=1099511627776)
theorem ztl{x:Tm}(hf:x.fits=true)(hk:x.kind=0):0<=x.n/\x.n<=1099511627776:=by
 exact ztn hf x.n (by rw[Tm.occ_eq,if_pos hk];simp)
theorem zc6{l:List B}(hO:OKB l){t:Tm}(hv:t.valid=true):Flwd l (flw l t):=by
 obtain⟨h1,_,_,h4⟩:=zuk hO _ t rfl hv
 refine⟨h1,fun hk=>⟨?_,zbr (valid_fits h1) hk,ztl (valid_fits h1) hk⟩⟩
 cases e:fndB l (flw l t).n with
 |false=>rfl
 |true=>exact absurd ⟨hk,e⟩ h4
theorem zp4{l:List B}(hO:OKB l){x:Tm}(hx:Flwd l x)(hk:x.kind=0)(v:Int):inR l v x↔v=x.n:=
 zfQ hO.Acyc (valid_fits hx.1) hk (by simp[(hx.2 hk).1])
structure UBind(l:List B)(v:Int)(t:Tm):Prop where
 unb:fndB l v=false
 rng:0<=v/\v<=1099511627776
 val:t.valid=true
 out:¬inR l v t
theorem znk{l:List B}(hO:OKB l){x y:Tm}(hx:Flwd l x)(hy:Flwd l y){v:Int}{t:Tm}(h:ustep l x y=.bind v t):UBind l v t:=by
 unfold ustep at h
 split at h
 ·rename_i hk
  have hx2:=hx.2 hk.1
  have hy2:=hy.2 hk.2
  split at h
  ·rename_i hlt
   cases h
   exact⟨hx2.1,hx2.2.2,hy.1,fun e=>by have:=(zp4 hO hy hk.2 _).1 e;omega⟩
  ·split at h
   ·rename_i hlt
    cases h
    exact⟨hy2.1,hy2.2.2,hx.1,fun e=>by have:=(zp4 hO hx hk.1 _).1 e;omega⟩
   ·cases h
 ·split at h
  ·rename_i hk
   split at h
   ·cases h
   ·rename_i hn
    cases h
    exact⟨(hx.2 hk).1,(hx.2 hk).2.2,hy.1,hn⟩
  ·split at h
   ·rename_i hk
    split at h
    ·cases h
    ·rename_i hn
     cases h
     exact⟨(hy.2 hk).1,(hy.2 hk).2.2,hx.1,hn⟩
   ·split at h <;> cases h
theorem znl{l:List B}{x y:Tm}(hx:Flwd l x)(hy:Flwd l y){xs:List (Tm × Tm)}(h:ustep l x y=.args xs):(∀p∈xs,p.1.valid=true/\p.2.valid=true)/\xs.length<=2000:=by
 unfold ustep at h
 split at h
 ·split at h
  ·cases h
  ·split at h
   ·cases h
   ·cases h;exact⟨(fun p hp=>by cases hp),Nat.zero_le _⟩
 ·split at h
  ·split at h <;> cases h
  ·split at h
   ·split at h <;> cases h
   ·split at h
    ·cases h
     have hs:=valid_size hx.1
     have hse:=x.size_eq
     have hlen:=Tm.zuW x.args
     refine⟨fun p hp=> ?_,by rw[List.length_zip];omega⟩
     have:=List.of_mem_zip hp
     exact⟨zbl hx.1 this.1,zbl hy.1 this.2⟩
    ·cases h
noncomputable def unR(l:List B)(a b:Tm):List B × Int:=if okb l=true/\a.valid=true/\b.valid=true then uni 1048576 l [(a,b)] else([],1)
def US(hp:Heap)(q r:Nat)(l:List B):Heap:=(hp.set q (.box (some 1) (.agg [(none,.sl (some 5) r l.length 0 l.length)]))).set r (.arr (some 5) (bds l) false)
def UA(hp:Heap)(q r:Nat)(l l':List B):Heap:=(US hp q r l).set r (.arr (some 5) (bds l') false)
theorem zeG(hp:Heap)(q r:Nat)(l:List B):(US hp q r l).length=hp.length:=by simp[US]
theorem zsa(hp:Heap)(q r:Nat)(l l':List B):(UA hp q r l l').length=hp.length:=by simp[UA,zeG]
theorem zbQ{hp:Heap}{q r:Nat}(hq:q<hp.length)(hr:r<hp.length)(l:List B)(e:Heap):US (hp++e) q r l=US hp q r l++e:=by
 unfold US
 rw[List.set_append_left _ _ hq,List.set_append_left _ _ (by simpa using hr)]
theorem US_q{hp:Heap}{q r:Nat}(hq:q<hp.length)(hn:q≠r)(l:List B)(e:Heap):(US hp q r l++e)[q]? =some (.box (some 1) (.agg [(none,.sl (some 5) r l.length 0 l.length)])):=by
 rw[List.getElem?_append_left (by rw[zeG];exact hq)]
 unfold US
 rw[List.getElem?_set_ne (Ne.symm hn),List.getElem?_set_self hq]
theorem US_r{hp:Heap}{q r:Nat}(hr:r<hp.length)(l:List B)(e:Heap):(US hp q r l++e)[r]? =some (.arr (some 5) (bds l) false):=by
 rw[List.getElem?_append_left (by rw[zeG];exact hr)]
 unfold US
 rw[List.getElem?_set_self (by simpa using hr)]
theorem US_B{hp:Heap}{q r:Nat}(hr:r<hp.length)(l:List B)(e:Heap):IsB (.sl (some 5) r l.length 0 l.length) (US hp q r l++e) l:=.inr ⟨r,rfl,US_r hr l e⟩
theorem zs7{hp:Heap}{q r:Nat}(hq:q<hp.length)(hn:q≠r)(l:List B)(e:Heap):aload none (US hp q r l++e) (.ptr q 0)=some (.sl (some 5) r l.length 0 l.length):=by
 simp[aload,US_q hq hn]
 rfl
theorem zue{hp:Heap}{q r:Nat}(hq:q<hp.length)(hn:q≠r)(l l':List B)(b:Nat)(hb:q<b)(e:Heap):zaG none b (UA hp q r l l'++e) [.ptr q 0,.sl (some 5) r l'.length 0 l'.length]=some (.undef,US hp q r l'++e):=by
 have h1:(UA hp q r l l'++e)[q]? =some (.box (some 1) (.agg [(none,.sl (some 5) r l.length 0 l.length)])):=by
  rw[List.getElem?_append_left (by rw[zsa];exact hq)]
  unfold UA
  rw[List.getElem?_set_ne (Ne.symm hn)]
  have:=US_q (r:=r) hq hn l []
  rw[List.append_nil] at this
  exact this
 have h2:AV.upd deep (.agg [(none,.sl (some 5) r l.length 0 l.length)]) 0 none (.sl (some 5) r l'.length 0 l'.length)=some (.agg [(none,.sl (some 5) r l'.length 0 l'.length)]):=rfl
 have h3:¬b<=q:=by omega
 have h4:(UA hp q r l l'++e).set q (.box (some 1) (.agg [(none,.sl (some 5) r l'.length 0 l'.length)]))=US hp q r l'++e:=by
  rw[List.set_append_left _ _ (by rw[zsa];exact hq)]
  congr 1
  unfold UA US
  rw[List.set_set,List.set_comm _ _ hn,List.set_set]
  exact List.set_comm _ _ (Ne.symm hn)
 simp[zaG,astore,h1,h2,h3,h4,AV.plain,AV.shp,AV.refsIn,AV.refsIn.go]
theorem zpK{hp:Heap}{q r:Nat}(hq:q<hp.length)(hn:q≠r)(l:List B)(e e':Heap):zbL (US hp q r l++e) (US hp q r l++e') (.ptr q 0)=true:=by
 simp[zbL,US_q hq hn,AObj.beq,AV.beq,AV.beqc]
def zni(e:Int):PV:=.iface 82 (some 1) (.agg [(none,.int .i64 e)])
theorem zlT(l:List B)(hO:OKB l)(hl:l.length<90000000)(v:Int)(t:Tm)(hv:t.valid=true)(hp:Heap)(q r:Nat)(hq:q<hp.length)(hr:r<hp.length)(hn:q≠r):
  ∃res hp',S 134 [.ptr q 0,.pv none (.int .i64 v),t.av] (US hp q r l)=some (res,hp')/\(inR l v t->res=.panic (zni 9)/\hp'=US hp q r l)/\(¬inR l v t->res=.ret (.tuple [])/\hp'=US hp q r (insB l v t)):=by
 have htz:=valid_size hv
 have hlen:=fun l=>zeG hp q r l
 have hg0:∀(l:List B) (e:Heap),(US hp q r l++e)[hp.length]? =e[0]? :=fun l e=>zcJ (hlen l)
 have hg1:∀(l:List B) (e:Heap) (j:Nat),(US hp q r l++e)[hp.length+j]? =e[j]? :=fun l e j=>getN (hlen l) j
 have hld:=fun l e=>zs7 (r:=r) hq hn l e
 have hsm:=fun l e e'=>zpK (r:=r) hq hn l e e'
 refine zdr (fun res hp'=>(inR l v t->res=.panic (zni 9)/\hp'=US hp q r l)/\(¬inR l v t->res=.ret (.tuple [])/\hp'=US hp q r (insB l v t))) rfl rfl rfl rfl ?_
 have hu:=zjK (fun _=>0) l fun b hb=>by have:=valid_size (hO.good.2 b hb).1;omega
 obtain⟨m',bb,f',hcall,hR⟩:=zs5 l hO (by omega) v (.sl (some 5) r l.length 0 l.length) _ t (US hp q r l++[.box (some 4) (.pv (some 4) t.pv),.map none []]) (hp.length+1) [] (fun _=>0) rfl hv (by rw[hg1];rfl) (.inr (US_B hr l _)) (fun _=>rfl) (fun _=>Int.le_refl _) (fun w hw=>absurd rfl hw) (fun w=>by omega)
 have hs2:∀(X:AObj),(US hp q r l++([.box (some 4) (.pv (some 4) t.pv),.map none []]:Heap)).set (hp.length+1) X=US hp q r l++[.box (some 4) (.pv (some 4) t.pv),X]:=fun X=>by rw[setN (hlen l)];rfl
 rw[hs2] at hcall
 have hmk:∀a:AObj,(US hp q r l++[a]).length=hp.length+1:=fun a=>by simp[hlen]
 simp only[Tm.av] at hcall
 have hsb:∀x:Int,zaJ [(none,.pv none (.int .i64 0))] [0] [.pv none (.int .i64 x)]=some (.pv (some 1) (.agg [(none,.int .i64 x)])):=fun _=>rfl
 have hmi:∀(s:Sh) (p:PV),zb4 82 [.pv s p]=some (.pv none (.iface 82 s p)):=fun _ _=>rfl
 have hpan:∀A:Prop,panK true A=A:=fun _=>rfl
 cases bb with
 |true=>
  have hin:inR l v t:=hR.post.yes rfl
  simp -dsimp -implicitDefEqProofs only[go_sem,seval,↓reduceIte,Tm.av,hcall,hsb,hmi,hpan,hlen,hg0,hg1,hld,zax,zaE,zar,zan,List.append_assoc,zaf,zac,zah,zad,Nat.add_assoc,List.length_append]
  exact⟨fun _=>⟨rfl,List.take_left' (hlen _)⟩,fun h=>h hin⟩
 |false=>
  have hin:¬inR l v t:=(hR.post.no rfl).1
  have hpl:=fun e=>zgs (US_B (q:=q) hr l e) v hO.good.1 (by omega)
  have hcl:=fun hp=>zfN t hp hv (by omega)
  simp only[Tm.av] at hcl
  have hbd:zaJ [(none,.pv none (.int .i64 0)),(some 4,.agg [(none,.pv none (.int .i64 0)),(none,.pv none (.int .i64 0)),(none,.pv none (.str [])),(none,.tsl (some 4) [])])] [0,1] [.pv none (.int .i64 v),.pv (some 4) t.pv]=some (.pv (some 5) (bdp (v,t))):=rfl
  have hins:∀e:Heap,S 146 [.sl (some 5) r l.length 0 l.length,.pv none (.int .i64 (lbB l v:Int)),.tsl (some 5) [bdp (v,t)]] (US hp q r l++e)=some (.ret (.sl (some 5) r (insB l v t).length 0 (insB l v t).length),UA hp q r l (insB l v t)++e):=fun e=>by
   obtain⟨s',H',h1,_,_,h2|h2⟩:=zr8 (US_B (q:=q) hr l e) v t (by omega)
   ·obtain⟨r',n',h3,h4,h5⟩:=h2
    cases h3
    rw[h1,h4,h5,zih,List.set_append_left _ _ (by rw[zeG];exact hr)]
    rfl
   ·cases h2.1
  have hst:=fun l' e=>zue (r:=r) hq hn l l' hp.length hq e
  simp -dsimp -implicitDefEqProofs only[go_sem,seval,↓reduceIte,Tm.av,hcall,hpl,hcl,hbd,hsm,hins,hst,hlen,hg0,hg1,hld,zcK,List.take_succ_cons,List.drop_succ_cons,List.all_cons,List.all_nil,zax,zaE,zar,zan,List.append_assoc,zaf,zac,zah,zad,Nat.add_assoc,List.length_append]
  exact⟨fun h=>hin h,fun _=>List.take_left' (hlen _)⟩
def zw(w:Int)(q:Nat):AV:=.agg [(none,.pv none (.int .i64 0)),(none,.pv none (.int .i64 w)),(none,.pv none (.str [])),(none,.sl (some 4) q 0 0 0)]
theorem zpL{s:AV}{hp:Heap}{l:List B}(h:IsS s hp l)(hs:Srt' l)(hl:l.length<1000000000)(w:Int)(q:Nat)(hq:q<hp.length)(hf:fndB l w=false):
  S 133 [s,zw w q] hp=some (.ret (.tuple [zagg (hp.length+3),.pv none (.bool false)]),hp++[.box (some 4) (zw w q),.box (some 4) (zagg (hp.length+3)),.arr (some 4) [] false,.arr (some 4) [] false]):=by
 refine zav rfl rfl rfl rfl ?_
 have hpl:=fun e=>h.place w hs hl e
 rw[hf] at hpl
 simp -dsimp -implicitDefEqProofs only[go_sem,seval,↓reduceIte,zw,hpl,hb0,zat,zcq,zae (Nat.le_add_right _ _),List.append_assoc,zaf,zac,zah,zad,Nat.add_assoc,List.length_append]
 rw[zfg rfl ((zaf hp _ 1).trans rfl)]
 refine⟨rfl,?_⟩
 rw[if_neg (by simp[AV.refsIn,AV.refsIn.gol,AV.refsIn.go,zagg])]
 rfl
theorem zs8{s:AV}{hp:Heap}{l:List B}(h:IsS s hp l)(hs:Srt' l)(hl:l.length<1000000000)(v w:Int)(q r:Nat)(hq:q<hp.length)(hf:fndB l w=false)(hvw:w≠v):
  S 145 [s,.pv none (.int .i64 v),zw w q,.map r] hp=some (.ret (.pv none (.bool false)),hp):=by
 refine zav rfl rfl rfl rfl ?_
 have hb:=fun e=>zpL (h.more e) hs hl w q (by simp;omega) hf
 simp only[zw,zagg] at hb
 simp -dsimp -implicitDefEqProofs only[go_sem,seval,↓reduceIte,zw,hb,hvw,zat,zcq,zae (Nat.le_add_right _ _),List.append_assoc,zaf,zac,zah,zad,Nat.add_assoc,List.length_append]
 rw[if_pos (by simp[AV.refsIn])]
 exact List.take_left
theorem zpM(w:Int)(hw:0<=w/\w<=1099511627776)(q:Nat)(hp:Heap)(hq:hp[q]? =some (.arr (some 4) [] false)):
  S 51 [zw w q] hp=some (.ret (tvar w).av,hp.set q (.arr (some 4) [] true)):=by
 have hv:(tvar w).valid=true:=zrD (zjJ hw) (by have:(tvar w).size=1:=rfl;omega)
 have h1:=zfN (tvar w) [] hv (by have:(tvar w).size=1:=rfl;omega)
 have:=ze5 (F:=find tab) (prim:=prim) (f:=51) (args:=[zw w q]) (ps:=[(some 4,(tvar w).pv)]) (hp:=hp) (hp1:=hp.set q (.arr (some 4) [] true)) rfl rfl rfl (by
  simp[zam,zw,AV.freeze,AV.freeze.go,deep,hq,AV.shp]
  exact⟨rfl,rfl⟩) h1
 exact this
theorem zjL(l:List B)(hO:OKB l)(hl:l.length<90000000)(v w:Int)(hw:0<=w/\w<=1099511627776)(hf:fndB l w=false)(hvw:w≠v)(hp:Heap)(q r:Nat)(hq:q<hp.length)(hr:r<hp.length)(hn:q≠r):
  S 134 [.ptr q 0,.pv none (.int .i64 v),vagg w] (US hp q r l)=some (.ret (.tuple []),US hp q r (insB l v (tvar w))):=by
 have hlen:=fun l=>zeG hp q r l
 have hg0:∀(l:List B) (e:Heap),(US hp q r l++e)[hp.length]? =e[0]? :=fun l e=>zcJ (hlen l)
 have hg1:∀(l:List B) (e:Heap) (j:Nat),(US hp q r l++e)[hp.length+j]? =e[j]? :=fun l e j=>getN (hlen l) j
 have hs0:∀(l:List B) (Y:AObj) (e:Heap),(US hp q r l++e).set hp.length Y=US hp q r l++e.set 0 Y:=fun l Y e=>zd1 (hlen l) Y
 have hld:=fun l e=>zs7 (r:=r) hq hn l e
 have hsm:=fun l e e'=>zpK (r:=r) hq hn l e e'
 refine zav rfl rfl rfl rfl ?_
 have hoc:∀e:Heap,1<e.length->S 145 [.sl (some 5) r l.length 0 l.length,.pv none (.int .i64 v),zw w (hp.length+1),.map (hp.length+2)] (US hp q r l++e)=some (.ret (.pv none (.bool false)),US hp q r l++e):=fun e he=>
  zs8 (.inr (US_B hr l e)) hO.good.1 (by omega) v w (hp.length+1) (hp.length+2) (by rw[List.length_append,hlen];omega) hf hvw
 have hoc1:=hoc [.box (some 4) (zw w (hp.length+1)),.arr (some 4) [] false,.map none []] (by simp)
 have hpl:=fun e=>zgs (US_B (q:=q) hr l e) v hO.good.1 (by omega)
 have hcl:=zpM w hw (hp.length+1) (US hp q r l++[.box (some 4) (zw w (hp.length+1)),.arr (some 4) [] false,.map none []]) (by rw[hg1];rfl)
 rw[setN (hlen l)] at hcl
 simp only[List.set_cons_succ,List.set_cons_zero,Tm.av] at hcl
 have hbd:zaJ [(none,.pv none (.int .i64 0)),(some 4,.agg [(none,.pv none (.int .i64 0)),(none,.pv none (.int .i64 0)),(none,.pv none (.str [])),(none,.tsl (some 4) [])])] [0,1] [.pv none (.int .i64 v),.pv (some 4) (tvar w).pv]=some (.pv (some 5) (bdp (v,tvar w))):=rfl
 have hins:∀e:Heap,S 146 [.sl (some 5) r l.length 0 l.length,.pv none (.int .i64 (lbB l v:Int)),.tsl (some 5) [bdp (v,tvar w)]] (US hp q r l++e)=some (.ret (.sl (some 5) r (insB l v (tvar w)).length 0 (insB l v (tvar w)).length),UA hp q r l (insB l v (tvar w))++e):=fun e=>by
  obtain⟨s',H',h1,_,_,h2|h2⟩:=zr8 (US_B (q:=q) hr l e) v (tvar w) (by omega)
  ·obtain⟨r',n',h3,h4,h5⟩:=h2
   cases h3
   rw[h1,h4,h5,zih,List.set_append_left _ _ (by rw[zeG];exact hr)]
   rfl
  ·cases h2.1
 have hst:=fun l' e=>zue (r:=r) hq hn l l' hp.length hq e
 simp only[zw] at hoc1 hcl
 generalize hT:(tvar w).pv=T at hcl hbd
 simp -dsimp -implicitDefEqProofs only[go_sem,seval,↓reduceIte,vagg,hoc1,hpl,hcl,hbd,hsm,hins,hst,hlen,hg0,hg1,hs0,hld,zcq,zcK,List.take_succ_cons,List.drop_succ_cons,List.all_cons,List.all_nil,zan,List.append_assoc,zaf,zac,zah,zad,Nat.add_assoc,List.length_append]
 exact List.take_left' (hlen _)
def zd5(hp:Heap)(q r:Nat)(l:List B)(x y:Tm)(res:ARes)(hp':Heap):Prop:=
 match ustep l x y with
 | .err e=>res=.panic (zni e)/\hp'=US hp q r l
 | .bind v t=>res=.ret (.pv none (.bool false))/\hp'=US hp q r (insB l v t)
 | .args xs=>hp'=US hp q r l/\((res=.ret (.pv none (.bool false))/\xs=[])\/(res=.ret (.pv none (.bool true))/\xs=x.args.zip y.args/\x.args.length=y.args.length))
theorem zrB(l:List B)(hO:OKB l)(hl:l.length<90000000)(x y:Tm)(hx:Flwd l x)(hy:Flwd l y)(hp:Heap)(q r:Nat)(hq:q<hp.length)(hr:r<hp.length)(hn:q≠r):
  ∃res hp',S 110 [.ptr q 0,x.av,y.av] (US hp q r l)=some (res,hp')/\zd5 hp q r l x y res hp':=by
 have hlen:=fun l=>zeG hp q r l
 have hg0:∀(l:List B) (e:Heap),(US hp q r l++e)[hp.length]? =e[0]? :=fun l e=>zcJ (hlen l)
 have hg1:∀(l:List B) (e:Heap) (j:Nat),(US hp q r l++e)[hp.length+j]? =e[j]? :=fun l e j=>getN (hlen l) j
 have hsb:∀x:Int,zaJ [(none,.pv none (.int .i64 0))] [0] [.pv none (.int .i64 x)]=some (.pv (some 1) (.agg [(none,.int .i64 x)])):=fun _=>rfl
 have hmi:∀(s:Sh) (p:PV),zb4 82 [.pv s p]=some (.pv none (.iface 82 s p)):=fun _ _=>rfl
 have hpan:∀A:Prop,panK true A=A:=fun _=>rfl
 have htk:∀(l:List B) (e:Heap),List.take hp.length (US hp q r l++e)=US hp q r l:=fun l e=>List.take_left' (hlen l)
 have hif:∀(b:Bool) (A B:Heap),(if((AV.pv none (PV.bool b)).refsIn.all fun q=>decide (q<hp.length))=true then A else B)=A:=fun b A B=>if_pos (by simp[AV.refsIn])
 refine zdr (zd5 hp q r l x y) rfl rfl rfl rfl ?_
 have hbu:∀v:Int,zaJ [(none,.pv none (.int .i64 0)),(none,.pv none (.int .i64 0)),(none,.pv none (.str [])),(none,.tsl (some 4) [])] [1] [.pv none (.int .i64 v)]=some (.agg [(none,.pv none (.int .i64 0)),(none,.pv none (.int .i64 v)),(none,.pv none (.str [])),(none,.tsl (some 4) [])]):=fun _=>rfl
 by_cases hxk:x.kind=0
 ·have hx2:=hx.2 hxk
  have hxk':=eq_true hxk
  by_cases hyk:y.kind=0
  ·have hy2:=hy.2 hyk
   have hyk':=eq_true hyk
   by_cases hlt:y.n<x.n
   ·have hu:ustep l x y=.bind x.n y:=by unfold ustep;rw[if_pos ⟨hxk,hyk⟩,if_pos hlt]
    have hcall:=zjL l hO hl x.n y.n hy2.2.2 hy2.1 (by omega) (hp++[.box (some 4) (.pv (some 4) x.pv),.box (some 4) (.pv (some 4) y.pv)]) q r (by simp;omega) (by simp;omega) hn
    rw[zbQ hq hr,zbQ hq hr,<-hy2.2.1] at hcall
    simp only[vagg] at hcall
    have hne:¬x.n=y.n:=by omega
    have h1:=eq_true hlt
    have h2:=eq_false (show ¬x.n<y.n by omega)
    simp -dsimp -implicitDefEqProofs only[go_sem,seval,↓reduceIte,Tm.av,hxk',hyk',hne,h1,h2,hbu,hcall,hsb,hmi,hpan,zao,zaF,hlen,hg0,hg1,zax,zaE,zar,List.append_assoc,zaf,zac,zah,zad,Nat.add_assoc,List.length_append]
    unfold zd5
    rw[hu]
    exact⟨rfl,by rw[hif];exact htk _ _⟩
   ·by_cases hgt:x.n<y.n
    ·have hu:ustep l x y=.bind y.n x:=by unfold ustep;rw[if_pos ⟨hxk,hyk⟩,if_neg hlt,if_pos hgt]
     have hcall:=zjL l hO hl y.n x.n hx2.2.2 hx2.1 (by omega) (hp++[.box (some 4) (.pv (some 4) x.pv),.box (some 4) (.pv (some 4) y.pv)]) q r (by simp;omega) (by simp;omega) hn
     rw[zbQ hq hr,zbQ hq hr,<-hx2.2.1] at hcall
     simp only[vagg] at hcall
     have hne:¬x.n=y.n:=by omega
     have h1:=eq_true hgt
     have h2:=eq_false (show ¬y.n<x.n by omega)
     simp -dsimp -implicitDefEqProofs only[go_sem,seval,↓reduceIte,Tm.av,hxk',hyk',hne,h1,h2,hbu,hcall,hsb,hmi,hpan,zao,zaF,hlen,hg0,hg1,zax,zaE,zar,List.append_assoc,zaf,zac,zah,zad,Nat.add_assoc,List.length_append]
     unfold zd5
     rw[hu]
     exact⟨rfl,by rw[hif];exact htk _ _⟩
    ·have hu:ustep l x y=.args []:=by unfold ustep;rw[if_pos ⟨hxk,hyk⟩,if_neg hlt,if_neg hgt]
     have hne:=eq_true (show x.n=y.n by omega)
     simp -dsimp -implicitDefEqProofs only[go_sem,seval,↓reduceIte,Tm.av,hxk',hyk',hne,hsb,hmi,hpan,zao,zaF,hlen,hg0,hg1,zax,zaE,zar,List.append_assoc,zaf,zac,zah,zad,Nat.add_assoc,List.length_append]
     unfold zd5
     rw[hu]
     exact⟨by rw[hif];exact htk _ _,.inl ⟨rfl,rfl⟩⟩
  ·have hyk':=eq_false hyk
   obtain⟨res,hp',hcall,hin,hout⟩:=zlT l hO hl x.n y hy.1 (hp++[.box (some 4) (.pv (some 4) x.pv),.box (some 4) (.pv (some 4) y.pv)]) q r (by simp;omega) (by simp;omega) hn
   rw[zbQ hq hr] at hcall hin
   rw[zbQ hq hr] at hout
   simp only[Tm.av] at hcall
   by_cases hi:inR l x.n y
   ·have hu:ustep l x y=.err 9:=by unfold ustep;rw[if_neg (fun h=>hyk h.2),if_pos hxk,if_pos hi]
    obtain⟨rfl,rfl⟩:=hin hi
    simp -dsimp -implicitDefEqProofs only[go_sem,seval,↓reduceIte,Tm.av,hxk',hyk',hcall,hsb,hmi,hpan,zao,zaF,hlen,hg0,hg1,zax,zaE,zar,List.append_assoc,zaf,zac,zah,zad,Nat.add_assoc,List.length_append]
    unfold zd5
    rw[hu]
    exact⟨rfl,htk _ _⟩
   ·have hu:ustep l x y=.bind x.n y:=by unfold ustep;rw[if_neg (fun h=>hyk h.2),if_pos hxk,if_neg hi]
    obtain⟨rfl,rfl⟩:=hout hi
    simp -dsimp -implicitDefEqProofs only[go_sem,seval,↓reduceIte,Tm.av,hxk',hyk',hcall,hsb,hmi,hpan,zao,zaF,hlen,hg0,hg1,zax,zaE,zar,List.append_assoc,zaf,zac,zah,zad,Nat.add_assoc,List.length_append]
    unfold zd5
    rw[hu]
    exact⟨rfl,by rw[hif];exact htk _ _⟩
 ·have hxk':=eq_false hxk
  by_cases hyk:y.kind=0
  ·have hy2:=hy.2 hyk
   have hyk':=eq_true hyk
   obtain⟨res,hp',hcall,hin,hout⟩:=zlT l hO hl y.n x hx.1 (hp++[.box (some 4) (.pv (some 4) x.pv),.box (some 4) (.pv (some 4) y.pv)]) q r (by simp;omega) (by simp;omega) hn
   rw[zbQ hq hr] at hcall hin
   rw[zbQ hq hr] at hout
   simp only[Tm.av] at hcall
   by_cases hi:inR l y.n x
   ·have hu:ustep l x y=.err 9:=by unfold ustep;rw[if_neg (fun h=>hxk h.1),if_neg hxk,if_pos hyk,if_pos hi]
    obtain⟨rfl,rfl⟩:=hin hi
    simp -dsimp -implicitDefEqProofs only[go_sem,seval,↓reduceIte,Tm.av,hxk',hyk',hcall,hsb,hmi,hpan,zao,zaF,hlen,hg0,hg1,zax,zaE,zar,List.append_assoc,zaf,zac,zah,zad,Nat.add_assoc,List.length_append]
    unfold zd5
    rw[hu]
    exact⟨rfl,htk _ _⟩
   ·have hu:ustep l x y=.bind y.n x:=by unfold ustep;rw[if_neg (fun h=>hxk h.1),if_neg hxk,if_pos hyk,if_neg hi]
    obtain⟨rfl,rfl⟩:=hout hi
    simp -dsimp -implicitDefEqProofs only[go_sem,seval,↓reduceIte,Tm.av,hxk',hyk',hcall,hsb,hmi,hpan,zao,zaF,hlen,hg0,hg1,zax,zaE,zar,List.append_assoc,zaf,zac,zah,zad,Nat.add_assoc,List.length_append]
    unfold zd5
    rw[hu]
    exact⟨rfl,by rw[hif];exact htk _ _⟩
  ·have hyk':=eq_false hyk
   by_cases hm:x.kind=y.kind/\x.n=y.n/\x.name=y.name/\x.args.length=y.args.length
   ·have hu:ustep l x y=.args (x.args.zip y.args):=by unfold ustep;rw[if_neg (fun h=>hxk h.1),if_neg hxk,if_neg hyk,if_pos hm]
    obtain⟨m1,m2,m3,m4⟩:=hm
    have m1':=eq_true m1
    have m2':=eq_true m2
    have m3':=eq_true m3
    have m4':=eq_true (show(x.args.length:Int)=(y.args.length:Int) by omega)
    simp -dsimp -implicitDefEqProofs only[go_sem,seval,↓reduceIte,Tm.av,hxk',hyk',m1',m2',m3',m4',zaA,zai,Tm.pvs_len,hsb,hmi,hpan,zao,zaF,hlen,hg0,hg1,zax,zaE,zar,List.append_assoc,zaf,zac,zah,zad,Nat.add_assoc,List.length_append]
    unfold zd5
    rw[hu]
    exact⟨by rw[hif];exact htk _ _,.inr ⟨rfl,rfl,m4⟩⟩
   ·have hu:ustep l x y=.err 4:=by unfold ustep;rw[if_neg (fun h=>hxk h.1),if_neg hxk,if_neg hyk,if_neg hm]
    by_cases m1:x.kind=y.kind
    ·by_cases m2:x.n=y.n
     ·by_cases m3:x.name=y.name
      ·have m4:¬x.args.length=y.args.length:=fun e=>hm ⟨m1,m2,m3,e⟩
       have m4:¬(x.args.length:Int)=(y.args.length:Int):=by omega
       have m1':=eq_true m1
       have m2':=eq_true m2
       have m3':=eq_true m3
       simp -dsimp -implicitDefEqProofs only[go_sem,seval,↓reduceIte,Tm.av,hxk',hyk',m1',m2',m3',m4,zaA,zai,Tm.pvs_len,hsb,hmi,hpan,zao,zaF,hlen,hg0,hg1,zax,zaE,zar,List.append_assoc,zaf,zac,zah,zad,Nat.add_assoc,List.length_append]
       unfold zd5
       rw[hu]
       exact⟨rfl,htk _ _⟩
      ·have m1':=eq_true m1
       have m2':=eq_true m2
       simp -dsimp -implicitDefEqProofs only[go_sem,seval,↓reduceIte,Tm.av,hxk',hyk',m1',m2',m3,zaA,zai,Tm.pvs_len,hsb,hmi,hpan,zao,zaF,hlen,hg0,hg1,zax,zaE,zar,List.append_assoc,zaf,zac,zah,zad,Nat.add_assoc,List.length_append]
       unfold zd5
       rw[hu]
       exact⟨rfl,htk _ _⟩
     ·have m1':=eq_true m1
      simp -dsimp -implicitDefEqProofs only[go_sem,seval,↓reduceIte,Tm.av,hxk',hyk',m1',m2,zaA,zai,Tm.pvs_len,hsb,hmi,hpan,zao,zaF,hlen,hg0,hg1,zax,zaE,zar,List.append_assoc,zaf,zac,zah,zad,Nat.add_assoc,List.length_append]
      unfold zd5
      rw[hu]
      exact⟨rfl,htk _ _⟩
    ·simp -dsimp -implicitDefEqProofs only[go_sem,seval,↓reduceIte,Tm.av,hxk',hyk',m1,zaA,zai,Tm.pvs_len,hsb,hmi,hpan,zao,zaF,hlen,hg0,hg1,zax,zaE,zar,List.append_assoc,zaf,zac,zah,zad,Nat.add_assoc,List.length_append]
     unfold zd5
     rw[hu]
     exact⟨rfl,htk _ _⟩
inductive Vis(l:List B)(w:Int):Tm->Prop
 |to:fndB l w=true->Vis l w (toB l w)
 |arg {x u:Tm}:Vis l w x->¬x.kind=0->u∈x.args->Vis l w u
 |jump {x:Tm}:Vis l w x->x.kind=0->fndB l x.n=true->Vis l w (toB l x.n)
theorem Vis.lt{l:List B}(hA:Acyc l){w:Int}{x:Tm}(h:Vis l w x):mu l x<mu l (tvar w):=by
 induction h with
 |to hf=>exact zim (t:=tvar w) hA rfl hf
 |arg _ hk hu ih=>have:=zpX l hk hu;omega
 |jump _ hk hf ih=>have:=zim hA hk hf;omega
theorem Vis.ins{l:List B}(hG:Good l){v:Int}{t:Tm}(hf:fndB l v=false){w:Int}{x:Tm}(h:Vis l w x):Vis (insB l v t) w x:=by
 induction h with
 |to h1=>
  have:=Vis.to (l:=insB l v t) (w:=w) ((zio hG hf w).2 (.inr h1))
  rw[zgH hG hf h1] at this
  exact this
 |arg _ hk hu ih=>exact ih.arg hk hu
 |jump _ hk h1 ih=>
  have:=ih.jump hk ((zio hG hf _).2 (.inr h1))
  rw[zgH hG hf h1] at this
  exact this
theorem Vis.flw{l:List B}(hO:OKB l){w:Int}:∀(k:Nat) (u:Tm),mu l u=k->u.valid=true->Vis l w u->Vis l w (flw l u):=by
 intro k
 induction k using Nat.strongRecOn with
 |_ k ih=>
  intro u hk hv h
  by_cases hk0:u.kind=0
  ·by_cases hf:fndB l u.n=true
   ·rw[zjN hO.Acyc hk0 hf]
    have:=zim hO.Acyc hk0 hf
    exact ih _ (by omega) _ rfl (hO.to hf).1 (h.jump hk0 hf)
   ·rw[zeH hO.Acyc (valid_fits hv) hk0 hf];exact h
  ·rw[zgG l hk0];exact h
def PosI(l:List B)(u:Tm)(i:Nat):Prop:=∃D:List Int,D.Nodup/\(∀w∈D,fndB l w=true/\Vis l w u)/\i+u.size<=2000*(D.length+1)
def StkI(l:List B):List (Tm × Tm)->Prop
 |[]=>True
 |p::r=>PosI l p.1 r.length/\StkI l r
theorem PosI.ins{l:List B}(hG:Good l){v:Int}{t:Tm}(hf:fndB l v=false){u:Tm}{i:Nat}(h:PosI l u i):PosI (insB l v t) u i:=by
 obtain⟨D,h1,h2,h3⟩:=h
 exact⟨D,h1,fun w hw=>⟨(zio hG hf w).2 (.inr (h2 w hw).1),(h2 w hw).2.ins hG hf⟩,h3⟩
theorem StkI.ins{l:List B}(hG:Good l){v:Int}{t:Tm}(hf:fndB l v=false):∀{r:List (Tm × Tm)},StkI l r->StkI (insB l v t) r
 |[],_=>trivial
 |_::_,h=>⟨h.1.ins hG hf,StkI.ins hG hf h.2⟩
theorem StkI.len{l:List B}{r:List (Tm × Tm)}(h:StkI l r):r.length<=2000*(l.length+1):=by
 cases r with
 |nil=>exact Nat.zero_le _
 |cons p r=>
  obtain⟨D,h1,h2,h3⟩:=h.1
  have:=ztc h1 fun w hw=>(h2 w hw).1
  have h4:=p.1.size_eq
  simp only[List.length_cons]
  omega
theorem zin{l:List B}{D:List Int}(h1:D.Nodup):∀(us vs:List Tm) (r:List (Tm × Tm)),us.length=vs.length->(∀u∈us,∀w∈D,fndB l w=true/\Vis l w u)->r.length+Tm.sizes us<=2000*(D.length+1)->StkI l r->StkI l (us.zip vs++r)
 |[],_,r,_,_,_,hr=>hr
 |u::us,[],r,hl,_,_,_=>by cases hl
 |u::us,v::vs,r,hl,hD,hs,hr=>by
  have hl':us.length=vs.length:=by simpa using hl
  have hs':r.length+(u.size+Tm.sizes us)<=2000*(D.length+1):=hs
  have hz:=Tm.zuW us
  refine⟨⟨D,h1,hD u List.mem_cons_self,?_⟩,zin h1 us vs r hl' (fun x hx=>hD x (List.mem_cons_of_mem _ hx)) (by omega) hr⟩
  show(us.zip vs++r).length+u.size<=_
  rw[List.length_append,List.length_zip]
  omega
theorem StkI.push{l:List B}(hO:OKB l){p:Tm × Tm}{r:List (Tm × Tm)}(hp:p.1.valid=true)(h:StkI l (p::r))(vs:List Tm)(hk:¬(Go.Proofs.YtiifblpdlphchaaGreatRR.flw l p.1).kind=0)(hl:(Go.Proofs.YtiifblpdlphchaaGreatRR.flw l p.1).args.length=vs.length):StkI l ((Go.Proofs.YtiifblpdlphchaaGreatRR.flw l p.1).args.zip vs++r):=by
 obtain⟨⟨D,h1,h2,h3⟩,hr⟩:=h
 have hx:=zc6 hO hp
 have hxs:=valid_size hx.1
 have hxe:=(Go.Proofs.YtiifblpdlphchaaGreatRR.flw l p.1).size_eq
 by_cases hk0:p.1.kind=0
 ·have hps:p.1.size=1:=by rw[zbr (valid_fits hp) hk0];rfl
  have hf:fndB l p.1.n=true:=by
   cases e:fndB l p.1.n with
   |true=>rfl
   |false=>exact absurd (by rw[zeH hO.Acyc (valid_fits hp) hk0 (by simp[e])];exact hk0) hk
  have hv:Vis l p.1.n (Go.Proofs.YtiifblpdlphchaaGreatRR.flw l p.1):=by
   rw[zjN hO.Acyc hk0 hf]
   exact Vis.flw hO _ _ rfl (hO.to hf).1 (.to hf)
  have hnm:p.1.n ∉ D:=fun hm=>by
   have:=(h2 _ hm).2.lt hO.Acyc
   rw[zrx (valid_fits hp) hk0] at this
   omega
  refine zin (D:=p.1.n::D) (List.nodup_cons.2 ⟨hnm,h1⟩) _ vs r hl (fun u hu w hw=> ?_) (by simp only[List.length_cons];omega) hr
  rcases List.mem_cons.1 hw with rfl|hw
  ·exact⟨hf,hv.arg hk hu⟩
  ·exact⟨(h2 w hw).1,(Vis.flw hO _ _ rfl hp (h2 w hw).2).arg hk hu⟩
 ·rw[zgG l hk0] at hxe hk hl ⊢
  exact zin h1 _ vs r hl (fun u hu w hw=>⟨(h2 w hw).1,(h2 w hw).2.arg hk0 hu⟩) (by omega) hr
theorem ztf{hp:Heap}{r len:Nat}{es:List PV}{x:PV}(h:hp[r]? =some (.arr (some 8) es false))(hlen:len<=es.length)(hlim:len+1<=lim):
  ∃es',zaL (some 8) hp [.sl (some 8) r es.length 0 len,.tsl (some 8) [x]]=some (.sl (some 8) r es'.length 0 (len+1),hp.set r (.arr (some 8) es' false))/\es'.take (len+1)=es.take len++[x]/\len+1<=es'.length/\∀y∈es',y∈es\/y=x:=by
 by_cases h1:len=es.length
 ·subst h1
  refine⟨es++[x],by simp[zaL,aappend,elems,h,hlim],by rw[List.take_of_length_le (by simp)];simp,by simp,fun y hy=>by simpa using hy⟩
 ·have h2:len+1<=es.length:=by omega
  refine⟨es.take len++[x]++es.drop (len+1),?_,?_,?_,fun y hy=> ?_⟩
  ·have e:(es.take len++[x]++es.drop (len+1)).length=es.length:=by simp;omega
   rw[e]
   simp[zaL,aappend,elems,h,hlim,h1,h2]
  ·rw[List.take_append_of_le_length (by simp;omega),List.take_of_length_le (by simp;omega)]
  ·simp;omega
  ·rcases List.mem_append.1 hy with hy|hy
   ·rcases List.mem_append.1 hy with hy|hy
    ·exact .inl (List.mem_of_mem_take hy)
    ·exact .inr (List.mem_singleton.1 hy)
   ·exact .inl (List.mem_of_mem_drop hy)
theorem zpN(b:B):PV.beq (bdp b) (bdp b)=true:=by simp[bdp,PV.beq,PV.beqc,zeD]
theorem zpO(l:List B)(z:Bool):AObj.beq (.arr (some 5) (bds l) z) (.arr (some 5) (bds l) z)=true:=by
 have:PV.beqs (bds l) (bds l)=true:=zfP fun x hx=>by
  obtain⟨b,_,rfl⟩:=List.mem_map.1 hx
  exact zpN b
 simp[AObj.beq,this]
theorem zpP(l:List B)(hG:Good l)(hl:l.length<90000000)(hp:Heap)(hb:Bq hp):
  S 54 [.pv none (.sl (some 5) (bds l))] hp=some (.ret (.sl (some 5) (hp.length+1) l.length 0 l.length),hp++[.arr (some 5) [] false,.arr (some 5) (bds l) false]):=by
 refine zav rfl rfl rfl rfl ?_
 have hn0:∀H:Heap,zcs (some 5) H=some (.sl (some 5) H.length 0 0 0,H++[.arr (some 5) [] false]):=fun H=>zbH (sh:=some 5) (by decide)
 simp -dsimp -implicitDefEqProofs only[go_sem,seval,↓reduceIte,hn0,zaP,List.append_assoc,zaf,zac,zah,zad,Nat.add_assoc,List.length_append]
 refine zc0 (α:=Unit) l.length (fun i _=>True) (fun i _=>⟨[(3,.sl (some 5) (hp.length+1) i 0 i),(6,.pv none (.sl (some 5) (bds l))),(7,.pv none (.int .i64 l.length)),(8,.pv none (.int .i64 i))],hp++[.arr (some 5) [] false,.arr (some 5) (bds (l.take i)) false]⟩) () ⟨trivial,rfl⟩ ?_ ?_
 ·rintro i - h -
  have hc:(i:Int)<(l.length:Int):=by omega
  obtain⟨b,hbb⟩:∃b,l[i]? =some b:=⟨_,List.getElem?_eq_getElem h⟩
  have hbv:=hG.2 b (List.mem_of_getElem? hbb)
  have w2:IntKind.i64.wrap ((i:Int)+1)=((i+1:Nat):Int):=by rw[zaH (by omega) (by omega)];omega
  have hlim:i+1<=lim:=by unfold lim;omega
  have htl:(bds (l.take i)).length=i:=by rw[zaP,List.length_take];omega
  have hcl:=fun hp=>zfN b.2 hp hbv.1 hbv.2
  simp only[Tm.av] at hcl
  have hbd:zaJ [(none,.pv none (.int .i64 0)),(some 4,.agg [(none,.pv none (.int .i64 0)),(none,.pv none (.int .i64 0)),(none,.pv none (.str [])),(none,.tsl (some 4) [])])] [0,1] [.pv none (.int .i64 b.1),.pv (some 4) b.2.pv]=some (.pv (some 5) (bdp (b.1,b.2))):=rfl
  have hsh:zaI (hp++[.arr (some 5) [] false,.arr (some 5) (bds (l.take i)) false,.box (some 5) (.pv (some 5) (bdp b))]) (hp++[.arr (some 5) [] false,.arr (some 5) (bds (l.take i)) false,.box (some 5) (.pv (some 5) (bdp b))])=true:=
   (hb.app (Bq.cons (zpO [] false) (Bq.cons (zpO _ _) (Bq.cons (by simp[AObj.beq,AV.beq,zpN]) Bq.nil)))).same
  have happ:zaL (some 5) (hp++[.arr (some 5) [] false,.arr (some 5) (bds (l.take i)) false,.box (some 5) (.pv (some 5) (bdp b))]) [.sl (some 5) (hp.length+1) i 0 i,.tsl (some 5) [bdp (b.1,b.2)]]=some (.sl (some 5) (hp.length+1) (i+1) 0 (i+1),hp++[.arr (some 5) [] false,.arr (some 5) (bds (l.take (i+1))) false,.box (some 5) (.pv (some 5) (bdp b))]):=by
   have e:bds (l.take (i+1))=bds (l.take i)++[bdp (b.1,b.2)]:=by rw[zpR hbb];simp[bds]
   rw[zfA (by rw[getN rfl];exact⟨rfl,htl⟩) (by simpa using hlim),e]
   simp
   rfl
  simp -dsimp -implicitDefEqProofs only[go_sem,seval,↓reduceIte,hc,zaj (zba hbb),zbK,zdp,w2,hbd,hcl,zpA hsh,happ,List.append_assoc,zaf,zac,zah,zad,Nat.add_assoc,List.length_append]
  refine⟨(),?_⟩
  rw[za6 2 rfl rfl (by simp[AObj.refs]) (by simp[AV.refsIn])]
  rfl
 ·rintro - -
  have hc:¬(l.length:Int)<(l.length:Int):=by omega
  simp -dsimp -implicitDefEqProofs only[go_sem,seval,↓reduceIte,hc,List.append_assoc,zaf,zac,zah,zad,Nat.add_assoc,List.length_append]
  rw[if_neg (by simp[AV.refsIn]),List.take_length]
def prP(p:Tm × Tm):PV:=.agg [(some 4,p.1.pv),(some 4,p.2.pv)]
def prs(r:List (Tm × Tm)):List PV:=r.map prP
theorem zkY(p:Tm × Tm):PV.beq (prP p) (prP p)=true:=by simp[prP,PV.beq,PV.beqc,zeD]
theorem zik(p:Tm × Tm):PV.part deep (prP p) 0 (some 4)=some p.1.pv:=rfl
theorem zil(p:Tm × Tm):PV.part deep (prP p) 4 (some 4)=some p.2.pv:=rfl
theorem zs9{es:List PV}(h:∀x∈es,PV.beq x x=true):AObj.beq (.arr (some 8) es false) (.arr (some 8) es false)=true:=by
 simp[AObj.beq,zfP h]
theorem zuS{hp:Heap}(hb:Bq hp)(q r:Nat)(l:List B):Bq (US hp q r l):=by
 unfold US
 exact(hb.set q (by simp[AObj.beq,AV.beq,AV.beqc])).set r (zpO l false)
def InV(V:List Int)(t:Tm):Prop:=∀w∈t.occ,w∈V
def InVB(V:List Int)(l:List B):Prop:=∀b∈l,b.1∈V/\InV V b.2
theorem InV.arg{V:List Int}{t u:Tm}(h:InV V t)(hk:¬t.kind=0)(hu:u∈t.args):InV V u:=fun w hw=>h w (Tm.zve hk hu hw)
theorem InV.var{V:List Int}{t:Tm}(h:InV V t)(hk:t.kind=0):t.n∈V:=h _ (by rw[Tm.occ_eq,if_pos hk];simp)
theorem InV.flw{V:List Int}{l:List B}(hO:OKB l)(hb:InVB V l):∀(k:Nat) (u:Tm),mu l u=k->u.valid=true->InV V u->InV V (flw l u):=by
 intro k
 induction k using Nat.strongRecOn with
 |_ k ih=>
  intro u hk hv h
  by_cases hk0:u.kind=0
  ·by_cases hf:fndB l u.n=true
   ·rw[zjN hO.Acyc hk0 hf]
    have:=zim hO.Acyc hk0 hf
    exact ih _ (by omega) _ rfl (hO.to hf).1 (hb _ (find_mem hf)).2
   ·rw[zeH hO.Acyc (valid_fits hv) hk0 hf];exact h
  ·rw[zgG l hk0];exact h
theorem InVB.len{V:List Int}{l:List B}(hG:Good l)(hb:InVB V l):l.length<=V.length:=by
 have h1:(l.map (·.1)).Nodup:=by
  refine List.pairwise_map.2 (hG.1.imp fun{a b} h=> ?_)
  omega
 have h2:=zgE (l.map (·.1)) V h1 fun x hx=>by
  obtain⟨b,hb1,rfl⟩:=List.mem_map.1 hx
  exact(hb b hb1).1
 rwa [List.length_map] at h2
theorem zkZ{V:List Int}{l:List B}{x y:Tm}(hx:InV V x)(hy:InV V y){v:Int}{t:Tm}(h:ustep l x y=.bind v t):v∈V/\InV V t:=by
 unfold ustep at h
 split at h
 ·rename_i hk
  split at h
  ·cases h;exact⟨hx.var hk.1,hy⟩
  ·split at h
   ·cases h;exact⟨hy.var hk.2,hx⟩
   ·cases h
 ·split at h
  ·rename_i hk
   split at h
   ·cases h
   ·cases h;exact⟨hx.var hk,hy⟩
  ·split at h
   ·rename_i hk
    split at h
    ·cases h
    ·cases h;exact⟨hy.var hk,hx⟩
   ·split at h <;> cases h
theorem zk0{V:List Int}{l:List B}{x y:Tm}(hx:InV V x)(hy:InV V y){xs:List (Tm × Tm)}(h:ustep l x y=.args xs):∀p∈xs,InV V p.1/\InV V p.2:=by
 unfold ustep at h
 split at h
 ·split at h
  ·cases h
  ·split at h
   ·cases h
   ·cases h;exact fun p hp=>by cases hp
 ·split at h
  ·split at h <;> cases h
  ·split at h
   ·split at h <;> cases h
   ·split at h
    ·rename_i hk1 hk2 _
     cases h
     exact fun p hp=>⟨hx.arg hk1 (List.of_mem_zip hp).1,hy.arg hk2 (List.of_mem_zip hp).2⟩
    ·cases h
structure RunI(V:List Int)(l0:List B)(p0:Tm × Tm)(n:Nat)(l:List B)(r:List (Tm × Tm)):Prop where
 okb:OKB l
 val:∀p∈r,p.1.valid=true/\p.2.valid=true
 eq:uni 1048576 l0 [p0]=uni n l r
 le:n<=1048576
 stk:StkI l r
 vb:InVB V l
 vp:∀p∈r,InV V p.1/\InV V p.2
theorem RunI.lim{V:List Int}{l0:List B}{p0:Tm × Tm}{n:Nat}{l:List B}{r:List (Tm × Tm)}(h:RunI V l0 p0 n l r)(h0:V.length<=500000):r.length+1<=Am.lim:=by
 have h1:=h.stk.len
 have h2:=InVB.len h.okb.good h.vb
 unfold Am.lim
 omega
theorem RunI.short{V:List Int}{l0:List B}{p0:Tm × Tm}{n:Nat}{l:List B}{r:List (Tm × Tm)}(h:RunI V l0 p0 n l r)(h0:V.length<=500000):l.length<80000000:=by
 have h2:=InVB.len h.okb.good h.vb
 omega
theorem RunI.flw{V:List Int}{l0:List B}{p0:Tm × Tm}{n:Nat}{l:List B}{p:Tm × Tm}{r:List (Tm × Tm)}(h:RunI V l0 p0 n l (p::r)):InV V (flw l p.1)/\InV V (flw l p.2):=
 have hv:=h.val p List.mem_cons_self
 have hi:=h.vp p List.mem_cons_self
 ⟨InV.flw h.okb h.vb _ _ rfl hv.1 hi.1,InV.flw h.okb h.vb _ _ rfl hv.2 hi.2⟩
theorem RunI.bind{V:List Int}{l0:List B}{p0:Tm × Tm}{n:Nat}{l:List B}{p:Tm × Tm}{r:List (Tm × Tm)}(h:RunI V l0 p0 (n+1) l (p::r)){v:Int}{t:Tm}(hu:ustep l (Go.Proofs.YtiifblpdlphchaaGreatRR.flw l p.1) (Go.Proofs.YtiifblpdlphchaaGreatRR.flw l p.2)=.bind v t):RunI V l0 p0 n (insB l v t) r:=by
 have hbv:=zkZ h.flw.1 h.flw.2 hu
 obtain⟨hO,hv,he,hle,hs,hvb,hvp⟩:=h
 have hp:=hv p List.mem_cons_self
 have hb:=znk hO (zc6 hO hp.1) (zc6 hO hp.2) hu
 refine⟨ztk hO hb.unb hb.rng hb.val hb.out,fun q hq=>hv q (List.mem_cons_of_mem _ hq),by rw[he,zrL r hu],by omega,StkI.ins hO.good hb.unb hs.2,fun b hb=> ?_,fun q hq=>hvp q (List.mem_cons_of_mem _ hq)⟩
 rcases zeE hb with rfl|h
 ·exact hbv
 ·exact hvb b h
theorem RunI.none{V:List Int}{l0:List B}{p0:Tm × Tm}{n:Nat}{l:List B}{p:Tm × Tm}{r:List (Tm × Tm)}(h:RunI V l0 p0 (n+1) l (p::r))(hu:ustep l (Go.Proofs.YtiifblpdlphchaaGreatRR.flw l p.1) (Go.Proofs.YtiifblpdlphchaaGreatRR.flw l p.2)=.args []):RunI V l0 p0 n l r:=by
 obtain⟨hO,hv,he,hle,hs,hvb,hvp⟩:=h
 exact⟨hO,fun q hq=>hv q (List.mem_cons_of_mem _ hq),by rw[he,zlU r hu];rfl,by omega,hs.2,hvb,fun q hq=>hvp q (List.mem_cons_of_mem _ hq)⟩
theorem RunI.args{V:List Int}{l0:List B}{p0:Tm × Tm}{n:Nat}{l:List B}{p:Tm × Tm}{r:List (Tm × Tm)}(h:RunI V l0 p0 (n+1) l (p::r))(hk:¬(Go.Proofs.YtiifblpdlphchaaGreatRR.flw l p.1).kind=0)(hl:(Go.Proofs.YtiifblpdlphchaaGreatRR.flw l p.1).args.length=(Go.Proofs.YtiifblpdlphchaaGreatRR.flw l p.2).args.length)(hu:ustep l (Go.Proofs.YtiifblpdlphchaaGreatRR.flw l p.1) (Go.Proofs.YtiifblpdlphchaaGreatRR.flw l p.2)=.args ((Go.Proofs.YtiifblpdlphchaaGreatRR.flw l p.1).args.zip (Go.Proofs.YtiifblpdlphchaaGreatRR.flw l p.2).args)):RunI V l0 p0 n l ((Go.Proofs.YtiifblpdlphchaaGreatRR.flw l p.1).args.zip (Go.Proofs.YtiifblpdlphchaaGreatRR.flw l p.2).args++r):=by
 have hav:=zk0 h.flw.1 h.flw.2 hu
 obtain⟨hO,hv,he,hle,hs,hvb,hvp⟩:=h
 have hp:=hv p List.mem_cons_self
 have ha:=znl (zc6 hO hp.1) (zc6 hO hp.2) hu
 exact⟨hO,fun q hq=>(List.mem_append.1 hq).elim (ha.1 q) fun hq=>hv q (List.mem_cons_of_mem _ hq),by rw[he,zlU r hu],by omega,hs.push hO hp.1 _ hk hl,hvb,fun q hq=>(List.mem_append.1 hq).elim (hav q) fun hq=>hvp q (List.mem_cons_of_mem _ hq)⟩
def RunP(hp:Heap)(q r:Nat)(R:List B × Int)(res:ARes)(hp':Heap):Prop:=
 (∃l',R=(l',0)/\res=.ret (.tuple [])/\hp'=US hp q r l')\/∃e l',R=([],e)/\res=.panic (zni e)/\hp'=US hp q r l'
theorem zta(V:List Int)(l0:List B)(a b:Tm)(hO:OKB l0)(hl:V.length<=500000)(hVb:InVB V l0)(hVa:InV V a)(hVc:InV V b)(ha:a.valid=true)(hb:b.valid=true)(hp:Heap)(hbq:Bq hp)(q r:Nat)(hq:q<hp.length)(hr:r<hp.length)(hn:q≠r):
  ∃res hp',S 55 [.ptr q 0,a.av,b.av] (US hp q r l0)=some (res,hp')/\RunP hp q r (uni 1048576 l0 [(a,b)]) res hp':=by
 have hlen:=fun l=>zeG hp q r l
 have hg0:∀(l:List B) (e:Heap),(US hp q r l++e)[hp.length]? =e[0]? :=fun l e=>zcJ (hlen l)
 have hg1:∀(l:List B) (e:Heap) (j:Nat),(US hp q r l++e)[hp.length+j]? =e[j]? :=fun l e j=>getN (hlen l) j
 have hs1:∀(l:List B) (Y:AObj) (e:Heap) (j:Nat),(US hp q r l++e).set (hp.length+j) Y=US hp q r l++e.set j Y:=fun l Y e j=>setN (hlen l) j Y
 have hld:=fun l e=>zs7 (r:=r) hq hn l e
 have hsb:∀x:Int,zaJ [(none,.pv none (.int .i64 0))] [0] [.pv none (.int .i64 x)]=some (.pv (some 1) (.agg [(none,.int .i64 x)])):=fun _=>rfl
 have hmi:∀(s:Sh) (p:PV),zb4 82 [.pv s p]=some (.pv none (.iface 82 s p)):=fun _ _=>rfl
 have hpan:∀A:Prop,panK true A=A:=fun _=>rfl
 have htk:∀(l:List B) (e:Heap),List.take hp.length (US hp q r l++e)=US hp q r l:=fun l e=>List.take_left' (hlen l)
 refine zdr (RunP hp q r (uni 1048576 l0 [(a,b)])) rfl rfl rfl rfl ?_
 have hbp:∀u w:Tm,zaJ [(some 4,.agg [(none,.pv none (.int .i64 0)),(none,.pv none (.int .i64 0)),(none,.pv none (.str [])),(none,.tsl (some 4) [])]),(some 4,.agg [(none,.pv none (.int .i64 0)),(none,.pv none (.int .i64 0)),(none,.pv none (.str [])),(none,.tsl (some 4) [])])] [0,1] [.pv (some 4) u.pv,.pv (some 4) w.pv]=some (.pv (some 8) (prP (u,w))):=fun _ _=>rfl
 have hbs:∀(e:Heap),zd7 (some 8) (US hp q r l0++e) [.pv (some 8) (prP (a,b))]=some (.sl (some 8) (US hp q r l0++e).length 1 0 1,US hp q r l0++e++[.arr (some 8) [prP (a,b)] false]):=fun e=>by
  simp[zd7,zam,AV.freeze,deep,AV.shp,zaR,Sh.size]
 simp -dsimp -implicitDefEqProofs only[go_sem,seval,↓reduceIte,Tm.av,hbp,hbs,hsb,hmi,hpan,hlen,hg0,hg1,hs1,hld,zan,zax,zaE,zar,List.append_assoc,zaf,zac,zah,zad,Nat.add_assoc,List.length_append]
 refine zdS (fun n st=>∃(l:List B) (rs:List (Tm × Tm)) (es:List PV),RunI V l0 (a,b) n l rs/\es.take rs.length=prs rs.reverse/\rs.length<=es.length/\(∀x∈es,PV.beq x x=true)/\
  st=⟨[(0,.ptr q 0),(6,.sl (some 8) (hp.length+2) es.length 0 rs.length),(7,.pv none (.int .i64 (1048576 - (n:Int))))],US hp q r l++[.box (some 4) (.pv (some 4) a.pv),.box (some 4) (.pv (some 4) b.pv),.arr (some 8) es false]⟩) (n:=1048576) ?_ ?_
 ·refine⟨l0,[(a,b)],[prP (a,b)],⟨hO,fun p hp=> ?_,rfl,Nat.le_refl _,⟨⟨[],List.nodup_nil,(fun w hw=>by cases hw),?_⟩,trivial⟩,?_,fun p hp=> ?_⟩,rfl,Nat.le_refl _,fun x hx=> ?_,?_⟩
  ·rw[List.mem_singleton] at hp
   rw[hp];exact⟨ha,hb⟩
  ·have:=valid_size ha
   show 0+a.size<=2000*(0+1)
   omega
  ·exact hVb
  ·rw[List.mem_singleton] at hp
   rw[hp];exact⟨hVa,hVc⟩
  ·rw[List.mem_singleton] at hx
   rw[hx];exact zkY _
  ·rfl
 ·rintro n st ⟨l,rs,es,hI,ht,hle,hbe,rfl⟩
  cases rs with
  |nil=>
   have hc:¬(0:Int)<((0:Nat):Int):=by omega
   simp -dsimp -implicitDefEqProofs only[go_sem,seval,↓reduceIte,hc,hsb,hmi,hpan,hlen,hg0,hg1,hs1,hld,zan,zax,zaE,zar,List.append_assoc,zaf,zac,zah,zad,Nat.add_assoc,List.length_append]
   have he:=hI.eq
   rw[zti] at he
   refine .inl ⟨l,he,rfl,?_⟩
   exact htk _ _
  |cons p rs=>
  have hc:(0:Int)<((rs.length+1:Nat):Int):=by omega
  have hpv:=hI.val p List.mem_cons_self
  have hn1:=hI.le
  cases n with
  |zero=>
   have hc2:=eq_true (show(1048576:Int) - ((0:Nat):Int)=1048576 by omega)
   simp -dsimp -implicitDefEqProofs only[go_sem,seval,↓reduceIte,hc,hc2,hsb,hmi,hpan,hlen,hg0,hg1,hs1,hld,zan,zax,zaE,zar,List.append_assoc,zaf,zac,zah,zad,Nat.add_assoc,List.length_append]
   have he:=hI.eq
   rw[zrK] at he
   exact .inr ⟨2,l,he,rfl,htk _ _⟩
  |succ n=>
  have hc2:¬(1048576:Int) - ((n+1:Nat):Int)=1048576:=by omega
  have hlim:=hI.lim hl
  simp only[List.length_cons] at hlim
  have hlim2:rs.length+2<=1073741824:=by unfold Am.lim at hlim;omega
  have w1:IntKind.i64.wrap (((rs.length+1:Nat):Int) - 1)=(rs.length:Int):=by rw[zaH (by omega) (by omega)];omega
  have w2:IntKind.i64.wrap (1048576 - ((n+1:Nat):Int)+1)=1048576 - (n:Int):=by rw[zaH (by omega) (by omega)];omega
  have htop:es[rs.length]? =some (prP p):=by
   have h1:(es.take (rs.length+1))[rs.length]? =es[rs.length]? :=by rw[List.getElem?_take,if_pos (by omega)]
   rw[<-h1]
   rw[List.length_cons] at ht
   rw[ht]
   simp[prs]
  have ht2:es.take rs.length=prs rs.reverse:=by
   have h1:es.take rs.length=(es.take (rs.length+1)).take rs.length:=by rw[List.take_take,Nat.min_eq_left (Nat.le_succ _)]
   rw[h1]
   rw[List.length_cons] at ht
   rw[ht]
   simp[prs]
  have hle2:rs.length+1<=es.length:=hle
  have hias:zaT (some 8) [.sl (some 8) (hp.length+2) es.length 0 (rs.length+1),.pv none (.int .i64 (rs.length:Int))]=some (.eptr (some 8) (hp.length+2) es.length rs.length 0):=by
   have:=zcd (sh:=some 8) (r:=hp.length+2) (v:=es.length) (o:=0) (n:=rs.length+1) (i:=rs.length) (s':=none) (k:=.i64) (by omega)
   rw[Nat.zero_add] at this
   exact this
  have hsl:zcE (some 8) false true [.sl (some 8) (hp.length+2) es.length 0 (rs.length+1),.pv none (.int .i64 (rs.length:Int))]=some (.sl (some 8) (hp.length+2) es.length 0 rs.length):=by
   have h1:(rs.length:Int)<=(rs.length:Int)+1:=by omega
   simp[zcE,aslice,h1]
  have hae:∀e:Heap,aload (some 8) (US hp q r l++.box (some 4) (.pv (some 4) a.pv)::.box (some 4) (.pv (some 4) b.pv)::.arr (some 8) es false::e) (.eptr (some 8) (hp.length+2) es.length rs.length 0)=some (.pv (some 8) (prP p)):=fun e=>by
   simp[aload,hg1,htop,toAV]
  have hO1:=hI.okb
  have hx:=zc6 hO1 hpv.1
  have hy:=zc6 hO1 hpv.2
  have hl1:l.length<80000000:=hI.short hl
  have hf1:=fun e=>zjx (.inr (US_B (q:=q) hr l e)) hO1 (by omega) p.1 hpv.1
  have hf2:=fun e=>zjx (.inr (US_B (q:=q) hr l e)) hO1 (by omega) p.2 hpv.2
  have hia0:∀ρ:Nat,zbC (some 4) 2 [.ptr ρ 0,.pv none (.int .i64 0)]=some (.ptr ρ 0):=fun _=>rfl
  have hia1:∀ρ:Nat,zbC (some 4) 2 [.ptr ρ 0,.pv none (.int .i64 1)]=some (.ptr ρ 4):=fun _=>rfl
  have hsame:zaI (US hp q r l++[.box (some 4) (.pv (some 4) a.pv),.box (some 4) (.pv (some 4) b.pv),.arr (some 8) es false,.box (some 8) (.pv (some 8) (prP p))]) (US hp q r l++[.box (some 4) (.pv (some 4) a.pv),.box (some 4) (.pv (some 4) b.pv),.arr (some 8) es false,.box (some 8) (.pv (some 8) (prP p))])=true:=
   ((zuS hbq q r l).app (Bq.cons (zgz a) (Bq.cons (zgz b) (Bq.cons (zs9 hbe) (Bq.cons (by simp[AObj.beq,AV.beq,zkY]) Bq.nil))))).same
  obtain⟨res,hp',hcall,hP⟩:=zrB l hO1 (by omega) (flw l p.1) (flw l p.2) hx hy (hp++[.box (some 4) (.pv (some 4) a.pv),.box (some 4) (.pv (some 4) b.pv),.arr (some 8) es false,.box (some 8) (.pv (some 8) (prP p)),.box (some 4) (.pv (some 4) (flw l p.1).pv),.arr (some 4) [] false,.box (some 4) (.pv (some 4) (flw l p.2).pv),.arr (some 4) [] false]) q r (by simp;omega) (by simp;omega) hn
  rw[zbQ hq hr] at hcall
  unfold zd5 at hP
  simp only[Tm.av] at hf1 hf2 hcall
  have hcg:=fun K Kp=>zjG (b:=hp.length) (s:=none) (K:=K) (Kp:=Kp) (hf1 [.box (some 4) (.pv (some 4) a.pv),.box (some 4) (.pv (some 4) b.pv),.arr (some 8) es false,.box (some 8) (.pv (some 8) (prP p))]) hsame
  cases hu:ustep l (flw l p.1) (flw l p.2) with
  |err e=>
   rw[hu] at hP
   obtain⟨rfl,rfl⟩:=hP
   rw[zbQ hq hr] at hcall
   simp -dsimp -implicitDefEqProofs only[go_sem,seval,↓reduceIte,hc,hc2,w1,hias,hae,hsl,hia0,hia1,zik,zil,hcg,hf2,hcall,hsb,hmi,hpan,hlen,hg0,hg1,hs1,hld,zan,zax,zaE,zar,List.append_assoc,zaf,zac,zah,zad,Nat.add_assoc,List.length_append]
   have he:=hI.eq
   rw[ztj rs hu] at he
   exact .inr ⟨e,l,he,rfl,htk _ _⟩
  |bind v t=>
   rw[hu] at hP
   obtain⟨rfl,rfl⟩:=hP
   rw[zbQ hq hr] at hcall
   simp -dsimp -implicitDefEqProofs only[go_sem,seval,↓reduceIte,hc,hc2,w1,w2,hias,hae,hsl,hia0,hia1,zik,zil,hcg,hf2,hcall,hsb,hmi,hpan,hlen,hg0,hg1,hs1,hld,zan,zax,zaE,zar,List.append_assoc,zaf,zac,zah,zad,Nat.add_assoc,List.length_append]
   refine⟨n,Nat.lt_succ_self _,insB l v t,rs,es,hI.bind hu,ht2,Nat.le_of_succ_le hle2,hbe,?_⟩
   rw[za6 3 (hlen _) rfl (by simp[AObj.refs,AV.refsIn]) (by simp[AV.refsIn];omega)]
   rfl
  |args xs=>
   rw[hu] at hP
   obtain⟨rfl,⟨rfl,rfl⟩|⟨rfl,rfl,hll⟩⟩:=hP
   ·rw[zbQ hq hr] at hcall
    simp -dsimp -implicitDefEqProofs only[go_sem,seval,↓reduceIte,hc,hc2,w1,w2,hias,hae,hsl,hia0,hia1,zik,zil,hcg,hf2,hcall,hsb,hmi,hpan,hlen,hg0,hg1,hs1,hld,zan,zax,zaE,zar,List.append_assoc,zaf,zac,zah,zad,Nat.add_assoc,List.length_append]
    refine⟨n,Nat.lt_succ_self _,l,rs,es,hI.none hu,ht2,Nat.le_of_succ_le hle2,hbe,?_⟩
    rw[za6 3 (hlen _) rfl (by simp[AObj.refs,AV.refsIn]) (by simp[AV.refsIn];omega)]
    rfl
   ·rw[zbQ hq hr] at hcall
    have hRI:RunI V l0 (a,b) n l ((flw l p.1).args.zip (flw l p.2).args++rs):=by
     by_cases hk:(flw l p.1).kind=0
     ·have e:(flw l p.1).args=[]:=(congrArg Tm.args (hx.2 hk).2.1).trans rfl
      have e2:(flw l p.1).args.zip (flw l p.2).args=[]:=by rw[e];rfl
      rw[e2] at hu ⊢
      exact hI.none hu
     ·exact hI.args hk hll hu
    have hxz:=valid_size hx.1
    have hxz2:=(flw l p.1).size_eq
    have hxz3:=Tm.zuW (flw l p.1).args
    have w0:IntKind.i64.wrap (((flw l p.1).args.length:Int) - 1)=((flw l p.1).args.length:Int) - 1:=zaH (by omega) (by omega)
    simp -dsimp -implicitDefEqProofs only[go_sem,seval,↓reduceIte,hc,hc2,w1,w2,hias,hae,hsl,hia0,hia1,zik,zil,hcg,hf2,hcall,zai,Tm.pvs_len,w0,hsb,hmi,hpan,hlen,hg0,hg1,hs1,hld,zan,zax,zaE,zar,List.append_assoc,zaf,zac,zah,zad,Nat.add_assoc,List.length_append]
    generalize hX:flw l p.1=x at*
    generalize hY:flw l p.2=y at*
    have hzl:(x.args.zip y.args).length=x.args.length:=by rw[List.length_zip];omega
    have hlm:=hRI.lim hl
    rw[List.length_append,hzl] at hlm
    refine zc0 (α:=List PV) x.args.length (fun i es1=>es1.take (rs.length+i)=prs (rs.reverse++((x.args.zip y.args).drop (x.args.length - i)).reverse)/\rs.length+i<=es1.length/\∀z∈es1,PV.beq z z=true)
     (fun i es1=>⟨[(0,.ptr q 0),(6,.sl (some 8) (hp.length+2) es1.length 0 (rs.length+i)),(7,.pv none (.int .i64 (1048576 - ((n+1:Nat):Int)))),(9,.ptr (hp.length+4) 0),(10,.ptr (hp.length+6) 0),(11,.pv none (.int .i64 ((x.args.length:Int) - 1 - (i:Int))))],US hp q r l++[.box (some 4) (.pv (some 4) a.pv),.box (some 4) (.pv (some 4) b.pv),.arr (some 8) es1 false,.box (some 8) (.pv (some 8) (prP p)),.box (some 4) (.pv (some 4) x.pv),.arr (some 4) [] false,.box (some 4) (.pv (some 4) y.pv),.arr (some 4) [] false]⟩) es ⟨⟨?_,Nat.le_of_succ_le hle2,hbe⟩,?_⟩ ?_ ?_
    ·rw[Nat.sub_zero,List.drop_of_length_le (by omega)]
     simpa using ht2
    ·rw[show(x.args.length:Int) - 1 - ((0:Nat):Int)=(x.args.length:Int) - 1 by omega]
     rfl
    ·rintro i es1 h ⟨k1,k2,k3⟩
     obtain⟨j,hj⟩:∃j,j=x.args.length - 1 - i:=⟨_,rfl⟩
     have ej:(x.args.length:Int) - 1 - (i:Int)=(j:Int):=by omega
     have hc5:(0:Int)<=(j:Int):=by omega
     obtain⟨u,hu1⟩:∃u,x.args[j]? =some u:=⟨_,List.getElem?_eq_getElem (by omega)⟩
     obtain⟨w,hw1⟩:∃w,y.args[j]? =some w:=⟨_,List.getElem?_eq_getElem (by omega)⟩
     have hdr:(x.args.zip y.args).drop (x.args.length - (i+1))=(u,w)::(x.args.zip y.args).drop (x.args.length - i):=by
      obtain⟨q1,e1⟩:=List.getElem?_eq_some_iff.1 hu1
      obtain⟨q2,e2⟩:=List.getElem?_eq_some_iff.1 hw1
      have ea:x.args.length - (i+1)=j:=by omega
      have eb:x.args.length - i=j+1:=by omega
      rw[ea,eb,List.drop_eq_getElem_cons (by omega),List.getElem_zip,e1,e2]
     have w5:IntKind.i64.wrap ((j:Int) - 1)=(x.args.length:Int) - 1 - ((i+1:Nat):Int):=by rw[zaH (by omega) (by unfold Am.lim at hlm;omega)];omega
     obtain⟨es2,hpu,g1,g2,g3⟩:=ztf (hp:=US hp q r l++[.box (some 4) (.pv (some 4) a.pv),.box (some 4) (.pv (some 4) b.pv),.arr (some 8) es1 false,.box (some 8) (.pv (some 8) (prP p)),.box (some 4) (.pv (some 4) x.pv),.arr (some 4) [] false,.box (some 4) (.pv (some 4) y.pv),.arr (some 4) [] false]) (r:=hp.length+2) (es:=es1) (len:=rs.length+i) (x:=prP (u,w)) (by rw[hg1];rfl) k2 (by omega)
     rw[hs1] at hpu
     simp only[List.set_cons_succ,List.set_cons_zero] at hpu
     simp -dsimp -implicitDefEqProofs only[go_sem,seval,↓reduceIte,ej,hc5,w5,zaj (Tm.pvs_get hu1),zaj (Tm.pvs_get hw1),zai,Tm.pvs_len,hbp,hpu,hsb,hmi,hpan,hlen,hg0,hg1,hs1,hld,zan,zax,zaE,zar,List.append_assoc,zaf,zac,zah,zad,Nat.add_assoc,List.length_append]
     refine⟨es2,⟨?_,g2,fun z hz=> ?_⟩,?_⟩
     ·rw[hdr,List.reverse_cons,<-List.append_assoc]
      show es2.take (rs.length+i+1)=_
      rw[g1,k1]
      simp[prs]
     ·rcases g3 z hz with h|rfl
      ·exact k3 z h
      ·exact zkY _
     ·rw[za6 8 (hlen _) rfl (by simp[AObj.refs,AV.refsIn]) (by simp[AV.refsIn];omega)]
      rfl
    ·rintro es1 ⟨k1,k2,k3⟩
     have hc5:¬(0:Int)<=(x.args.length:Int) - 1 - (x.args.length:Int):=by omega
     simp -dsimp -implicitDefEqProofs only[go_sem,seval,↓reduceIte,hc5,w2,hsb,hmi,hpan,hlen,hg0,hg1,hs1,hld,zan,zax,zaE,zar,List.append_assoc,zaf,zac,zah,zad,Nat.add_assoc,List.length_append]
     rw[Nat.sub_self,List.drop_zero,<-List.reverse_append] at k1
     have hal:(x.args.zip y.args++rs).length=rs.length+x.args.length:=by rw[List.length_append,hzl];omega
     refine⟨n,Nat.lt_succ_self _,l,x.args.zip y.args++rs,es1,hRI,by rw[hal];exact k1,by rw[hal];exact k2,k3,?_⟩
     rw[za6 3 (hlen _) rfl (by simp[AObj.refs,AV.refsIn]) (by simp[AV.refsIn];omega),hal]
     rfl
theorem ztb(x0 x1 x3:AObj)(s:AV)(k:AV)(e:Heap):sem (find tab) prim .dfr 53 [.pv none .niliface,.ptr 2 0,.ptr 4 0] (x0::x1::.box none s::x3::.box none k::e)=some (.ret (.tuple []),x0::x1::.box none s::x3::.box none k::e):=by
 refine zie (t:=5) rfl rfl rfl rfl ?_
 have has:zc8 82 (some 1) (.pv (some 1) (.agg [(none,.int .i64 0)])) true [.pv none .niliface]=some (.tuple [.pv (some 1) (.agg [(none,.int .i64 0)]),.pv none (.bool false)]):=rfl
 have hin:zfh true [.pv none .niliface]=some (.pv none (.bool false)):=rfl
 simp -dsimp -implicitDefEqProofs only[go_sem,seval,↓reduceIte,has,hin,zdq,List.append_assoc,zaf,zac,zah,zad,Nat.add_assoc,List.length_append]
 simp
theorem zrC(x0 x1 x3:AObj)(s:AV)(k y:Int)(e:Heap):sem (find tab) prim .dfr 53 [.pv none (zni y),.ptr 2 0,.ptr 4 0] (x0::x1::.box none s::x3::.box none (.pv none (.int .i64 k))::e)=some (.ret (.tuple []),x0::x1::.box none (.tsl (some 5) [])::x3::.box none (.pv none (.int .i64 y))::e):=by
 refine zie (t:=5) rfl rfl rfl rfl ?_
 have has:zc8 82 (some 1) (.pv (some 1) (.agg [(none,.int .i64 0)])) true [.pv none (zni y)]=some (.tuple [.pv (some 1) (.agg [(none,.int .i64 y)]),.pv none (.bool true)]):=rfl
 have hst:∀E:Heap,zbZ none (e.length+5) (x0::x1::.box none s::x3::.box none (.pv none (.int .i64 k))::E) [.ptr 2 0,.tsl (some 5) [],.ptr (e.length+5) 0]=some (.undef,x0::x1::.box none (.tsl (some 5) [])::x3::.box none (.pv none (.int .i64 k))::E):=fun E=>by
  have h1:¬e.length+5<=2:=by omega
  simp[zbZ,astore,zfT,AV.plain,AV.shp,AV.refsIn,h1]
 simp -dsimp -implicitDefEqProofs only[go_sem,seval,↓reduceIte,has,hst,zdq,List.append_assoc,zaf,zac,zah,zad,Nat.add_assoc,List.length_append]
 simp
theorem zpQ(V:List Int)(l:List B)(a b:Tm)(hV:V.length<=500000)(hVb:InVB V l)(hVa:InV V a)(hVc:InV V b)(hl:l.length<=500000)(hsz:∀b∈l,b.2.size<1000000000)(ha:a.size<1000000000)(hb:b.size<1000000000)(hp:Heap):
  S 21 [.pv none (.sl (some 5) (bds l)),a.av,b.av] hp=some (.ret (.tuple [.pv none (.sl (some 5) (bds (unR l a b).1)),.pv none (.int .i64 (unR l a b).2)]),hp):=by
 refine zfB rfl rfl rfl (zab [(none,.sl (some 5) (bds l)),(some 4,a.pv),(some 4,b.pv)]) rfl rfl ?_
 have h1:=znc l (by omega) hsz
 have h2:=fun hp=>zbw a hp ha
 have h3:=fun hp=>zbw b hp hb
 simp only[Tm.av] at h2 h3
 have hal:∀a0 a1:AObj,zcg none (.tsl (some 5) []) [a0,a1] []=some (.ptr 2 0,[a0,a1,.box none (.sl (some 5) 3 0 0 0),.arr (some 5) [] false]):=fun _ _=>rfl
 by_cases hg:okb l=true/\a.valid=true/\b.valid=true
 rotate_left
 ·have e:unR l a b=([],1):=by unfold unR;rw[if_neg hg]
  rw[e]
  have hst:∀(x0 x1 x3 x4:AObj),zaG none 0 [x0,x1,.box none (.sl (some 5) 3 0 0 0),x3,x4] [.ptr 2 0,.tsl (some 5) []]=some (.undef,[x0,x1,.box none (.sl (some 5) 5 0 0 0),x3,x4,.arr (some 5) [] false]):=fun _ _ _ _=>rfl
  cases hok:okb l with
  |false=>
   rw[hok] at h1
   simp -dsimp -implicitDefEqProofs only[go_sem,seval,↓reduceIte,Tm.av,hal,hst,h1,h2,h3,zbp,List.append_assoc,zaf,zac,zah,zad,Nat.add_assoc,List.length_append]
   exact⟨_,rfl⟩
  |true=>
   rw[hok] at h1
   by_cases va:a.valid=true
   ·have vb:b.valid=false:=by
     cases e:b.valid with
     |false=>rfl
     |true=>exact absurd ⟨hok,va,e⟩ hg
    simp -dsimp -implicitDefEqProofs only[go_sem,seval,↓reduceIte,Tm.av,hal,hst,h1,h2,h3,va,vb,zbp,List.append_assoc,zaf,zac,zah,zad,Nat.add_assoc,List.length_append]
    exact⟨_,rfl⟩
   ·have va':a.valid=false:=by simpa using va
    simp -dsimp -implicitDefEqProofs only[go_sem,seval,↓reduceIte,Tm.av,hal,hst,h1,h2,h3,va',zbp,List.append_assoc,zaf,zac,zah,zad,Nat.add_assoc,List.length_append]
    exact⟨_,rfl⟩
 ·have e:unR l a b=uni 1048576 l [(a,b)]:=by unfold unR;rw[if_pos hg]
  rw[e]
  obtain⟨hok,va,vb⟩:=hg
  have hO:=okb_iff.1 hok
  rw[hok] at h1
  obtain⟨H5,hH5⟩:∃H5:Heap,H5=[.box (some 4) (.pv (some 4) a.pv),.box (some 4) (.pv (some 4) b.pv),.box none (.sl (some 5) 3 0 0 0),.arr (some 5) [] false,.box none (.pv none (.int .i64 0))]:=⟨_,rfl⟩
  have hb5:Bq H5:=by
   rw[hH5]
   exact Bq.cons (zgz a) (Bq.cons (zgz b) (Bq.cons rfl (Bq.cons rfl (Bq.cons rfl Bq.nil))))
  have hcn:=zpP l hO.good (by omega) H5 hb5
  obtain⟨res,hp',hrun,hP⟩:=zta V l a b hO hV hVb hVa hVc va vb (H5++[.arr (some 5) [] false,.arr (some 5) [] false,.box (some 1) .undef]) (hb5.app (Bq.cons rfl (Bq.cons rfl (Bq.cons rfl Bq.nil)))) 7 6 (by rw[hH5];simp) (by rw[hH5];simp) (by decide)
  have hU:∀l,US (H5++[.arr (some 5) [] false,.arr (some 5) [] false,.box (some 1) .undef]) 7 6 l=[.box (some 4) (.pv (some 4) a.pv),.box (some 4) (.pv (some 4) b.pv),.box none (.sl (some 5) 3 0 0 0),.arr (some 5) [] false,.box none (.pv none (.int .i64 0)),.arr (some 5) [] false,.arr (some 5) (bds l) false,.box (some 1) (.agg [(none,.sl (some 5) 6 l.length 0 l.length)])]:=fun l=>by rw[hH5];rfl
  rw[hH5] at hcn
  rw[hU] at hrun
  simp only[Tm.av,List.cons_append,List.nil_append,List.length_cons,List.length_nil] at hrun hcn
  have hbu:zaJ [(none,.tsl (some 5) [])] [0] [.sl (some 5) 6 l.length 0 l.length]=some (.agg [(none,.sl (some 5) 6 l.length 0 l.length)]):=rfl
  have hpan:∀A:Prop,panK true A=A:=fun _=>rfl
  rcases hP with⟨l',he,rfl,rfl⟩|⟨e,l',he,rfl,rfl⟩
  ·rw[hU] at hrun
   rw[he]
   simp -dsimp -implicitDefEqProofs only[go_sem,seval,↓reduceIte,Tm.av,hal,h1,h2,h3,va,vb,hcn,hbu,hrun,zat,zcq,zaY (Nat.zero_le _),zan,zbp,zbb,zb9,zbq,hpan,List.append_assoc,zaf,zac,zah,zad,Nat.add_assoc,List.length_append]
   refine⟨rfl,53,[],[.ptr 2 0,.ptr 4 0],rfl,_,_,_,ztb _ _ _ _ _ _,rfl,?_⟩
   refine⟨[.box (some 4) (.pv (some 4) a.pv),.box (some 4) (.pv (some 4) b.pv),.box none (.sl (some 5) 6 l'.length 0 l'.length),.arr (some 5) [] false,.box none (.pv none (.int .i64 0)),.arr (some 5) [] false,.arr (some 5) (bds l') true,.box (some 1) (.agg [(none,.sl (some 5) 6 l'.length 0 l'.length)])],?_⟩
   simp[AV.freezeRes,zam,AV.freeze,deep,zaP,pvs,AV.shp]
  ·rw[hU] at hrun
   rw[he]
   simp -dsimp -implicitDefEqProofs only[go_sem,seval,↓reduceIte,Tm.av,hal,h1,h2,h3,va,vb,hcn,hbu,hrun,zat,zcq,zaY (Nat.zero_le _),zan,zbp,zbb,zb9,zbq,hpan,List.append_assoc,zaf,zac,zah,zad,Nat.add_assoc,List.length_append]
   refine⟨rfl,53,[],[.ptr 2 0,.ptr 4 0],rfl,_,_,_,zrC _ _ _ _ _ _ _,rfl,?_⟩
   exact⟨_,rfl⟩
theorem zlL(s:List UInt8)(l:List Tm)(hs:(tstr s l).size<1000000000):W Z L 0 (g14).code ⟨params 0 (pvs [(none,.str s),(none,.sl (some 4) (Tm.pvs l))]),[]⟩ (endK (g14).results (Am.frozen (.tuple [(canR (tstr s l)).av,.pv none (.bool (tstr s l).valid)]))):=by
 have h1:=fun hp=>f_ok s l hp
 have h2:=fun hp=>zpV (tstr s l) hp hs
 have h3:=fun hp=>zeI (tstr s l) hp hs
 generalize tstr s l=g at h1 h2 h3 ⊢
 simp only[Tm.av] at h1 h2 h3
 simp -dsimp -implicitDefEqProofs only[go_sem,seval,↓reduceIte,Tm.av,h1,h2,h3,zae (Nat.zero_le _)]
 exact⟨_,rfl⟩
theorem zs1(s:List UInt8)(l:List Tm)(hs:(tstr s l).size<1000000000)(hp:Heap):S 14 [.pv none (.str s),.pv none (.sl (some 4) (Tm.pvs l))] hp=some (.ret (.tuple [(canR (tstr s l)).av,.pv none (.bool (tstr s l).valid)]),hp):=
 zak rfl rfl rfl (zab [(none,.str s),(none,.sl (some 4) (Tm.pvs l))]) rfl (zlL s l hs)
theorem zrt(s:List UInt8)(l:List Tm)(hs:(tstr s l).size<1000000000)(hp:Heap):S 14 [.pv none (.str s),.tsl (some 4) (Tm.pvs l)] hp=some (.ret (.tuple [(canR (tstr s l)).av,.pv none (.bool (tstr s l).valid)]),hp):=
 zak (ps:=[(none,.str s),(none,.sl (some 4) (Tm.pvs l))]) rfl rfl rfl rfl rfl (zlL s l hs)
theorem zlM(s:List UInt8)(l:List Tm):canT (tstr s l)=tstr s (l.map (Tm.sub (cPos (vads [] (Tm.occs l))))):=by
 have ho:(tstr s l).occ=Tm.occs l:=by rw[Tm.occ_eq];rfl
 unfold canT
 rw[Tm.zu3,ho]
 rfl
end Go.Proofs.YtiifblpdlphchaaGreatRR
