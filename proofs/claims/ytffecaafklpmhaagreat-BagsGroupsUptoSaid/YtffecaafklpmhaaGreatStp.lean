/- What is proved: the reference's pair, Unified and Unify. -/
import Derived.Test.YtffecaafklpmhaaGreatUni
import Derived.Test.YtffecaafklpmhaaGreatCn
import Derived.Test.YtffecaafklpmhaaGreatAm4
set_option linter.unusedSimpArgs false
set_option linter.unusedVariables false
namespace Go.Proofs.YtffecaafklpmhaaGreat
open Go.Am
def KS(hp:Heap)(q:Nat)(l:List B)(k:Int):Heap:=hp.set q (.box (some 2) (.pv (some 2) (.agg [(none,.sl (some 5) (bds l)),(none,.int .i64 k)])))
theorem zrH(hp:Heap)(q:Nat)(l:List B)(k:Int):(KS hp q l k).length=hp.length:=by simp[KS]
theorem zrI{hp:Heap}{q:Nat}(hq:q<hp.length)(l:List B)(k:Int)(e:Heap):KS (hp++e) q l k=KS hp q l k++e:=by
 unfold KS
 rw[List.set_append_left _ _ hq]
theorem KS_q{hp:Heap}{q:Nat}(hq:q<hp.length)(l:List B)(k:Int)(e:Heap):(KS hp q l k++e)[q]? =some (.box (some 2) (.pv (some 2) (.agg [(none,.sl (some 5) (bds l)),(none,.int .i64 k)]))):=by
 rw[List.getElem?_append_left (by rw[zrH];exact hq)]
 unfold KS
 rw[List.getElem?_set_self hq]
theorem zt4{hp:Heap}{q:Nat}(hq:q<hp.length)(l:List B)(k:Int)(l':List B)(k':Int)(e:Heap):(KS hp q l k++e).set q (.box (some 2) (.pv (some 2) (.agg [(none,.sl (some 5) (bds l')),(none,.int .i64 k')])))=KS hp q l' k'++e:=by
 rw[List.set_append_left _ _ (by rw[zrH];exact hq)]
 unfold KS
 rw[List.set_set]
theorem zv0{hp:Heap}{q:Nat}(hq:q<hp.length)(l:List B)(k:Int)(e:Heap):aload none (KS hp q l k++e) (.ptr q 0)=some (.pv none (.sl (some 5) (bds l))):=by
 simp[aload,KS_q hq]
 rfl
theorem zv1{hp:Heap}{q:Nat}(hq:q<hp.length)(l:List B)(k:Int)(e:Heap):aload none (KS hp q l k++e) (.ptr q 1)=some (.pv none (.int .i64 k)):=by
 simp[aload,KS_q hq]
 rfl
theorem zv2{hp:Heap}{q:Nat}(hq:q<hp.length)(l:List B)(k:Int)(l':List B)(b:Nat)(e:Heap):zaU none b (KS hp q l k++e) [.ptr q 0,.pv none (.sl (some 5) (bds l'))]=some (.undef,KS hp q l' k++e):=by
 have h:AV.upd deep (.pv (some 2) (.agg [(none,.sl (some 5) (bds l)),(none,.int .i64 k)])) 0 none (.pv none (.sl (some 5) (bds l')))=some (.pv (some 2) (.agg [(none,.sl (some 5) (bds l')),(none,.int .i64 k)])):=rfl
 rw[<-zt4 hq l k l' k e]
 have ho:∀(x:PV) (H:Heap),AV.own (.pv none x) H=(.pv none x,H):=fun _ _=>rfl
 by_cases hb:b<=q <;> simp[zaU,astore,KS_q hq,h,hb,ho,AV.plain,AV.shp,AV.refsIn]
theorem zv3{hp:Heap}{q:Nat}(hq:q<hp.length)(l:List B)(k k':Int)(b:Nat)(e:Heap):zaU none b (KS hp q l k++e) [.ptr q 1,.pv none (.int .i64 k')]=some (.undef,KS hp q l k'++e):=by
 have h:AV.upd deep (.pv (some 2) (.agg [(none,.sl (some 5) (bds l)),(none,.int .i64 k)])) 1 none (.pv none (.int .i64 k'))=some (.pv (some 2) (.agg [(none,.sl (some 5) (bds l)),(none,.int .i64 k')])):=rfl
 rw[<-zt4 hq l k l k' e]
 have ho:∀(x:PV) (H:Heap),AV.own (.pv none x) H=(.pv none x,H):=fun _ _=>rfl
 by_cases hb:b<=q <;> simp[zaU,astore,KS_q hq,h,hb,ho,AV.plain,AV.shp,AV.refsIn]
structure PairR(n:Nat)(l:List B)(p:Tm × Tm)(e:Int)(l':List B)(n':Nat):Prop where
 okb:OKB l'
 le:n'<=n
 len:l'.length+n'<=l.length+n
 bad:e≠0->∀r,uni n l (p::r)=([],e)
 good:e=0->∀r,uni n l (p::r)=uni n' l' r
theorem PairR.zxy{n:Nat}{l:List B}{p:Tm × Tm}{e:Int}(hO:OKB l)(he:e≠0)(h:ustep l (flw l p.1) (flw l p.2)=.err e):PairR (n+1) l p e l n:=
 ⟨hO,by omega,by omega,fun _ r=>zju r h,fun h=>absurd h he⟩
theorem PairR.zxv{n:Nat}{l:List B}{p:Tm × Tm}{v:Int}{t:Tm}(hO:OKB l)(hb:UBind l v t)(h:ustep l (flw l p.1) (flw l p.2)=.bind v t):PairR (n+1) l p 0 (insB l v t) n:=
 ⟨zhH hO hb.unb hb.rng hb.val hb.out,by omega,by rw[zel];omega,fun h=>absurd rfl h,fun _ r=>zeq r h⟩
theorem ztz:∀(n:Nat) (l:List B) (a b:Tm) (hp:Heap) (q:Nat),n<=1048576->OKB l->l.length+n<90000000->a.valid=true->b.valid=true->q<hp.length->
  ∃(e:Int) (l':List B) (n':Nat),S 128 [.ptr q 0,a.av,b.av] (KS hp q l (1048576 - (n:Int)))=some (.ret (.pv none (.int .i64 e)),KS hp q l' (1048576 - (n':Int)))/\PairR n l (a,b) e l' n':=by
 intro n
 induction n using Nat.strongRecOn with
 |_ n ih=>
  intro l a b hp q hn hO hl ha hb hq
  have hlen:=fun l k=>zrH hp q l k
  have hg0:∀(l:List B) (k:Int) (e:Heap),(KS hp q l k++e)[hp.length]? =e[0]? :=fun l k e=>zct (hlen l k)
  have hg1:∀(l:List B) (k:Int) (e:Heap) (j:Nat),(KS hp q l k++e)[hp.length+j]? =e[j]? :=fun l k e j=>getN (hlen l k) j
  have hs0:∀(l:List B) (k:Int) (Y:AObj) (e:Heap),(KS hp q l k++e).set hp.length Y=KS hp q l k++e.set 0 Y:=fun l k Y e=>zdV (hlen l k) Y
  have hs1:∀(l:List B) (k:Int) (Y:AObj) (e:Heap) (j:Nat),(KS hp q l k++e).set (hp.length+j) Y=KS hp q l k++e.set j Y:=fun l k Y e j=>setN (hlen l k) j Y
  have hl0:=fun l k e=>zv0 hq l k e
  have hl1:=fun l k e=>zv1 hq l k e
  have ht0:=fun l k l' b e=>zv2 hq l k l' b e
  have ht1:=fun l k k' b e=>zv3 hq l k k' b e
  suffices hP:∃v' hp',S 128 [.ptr q 0,a.av,b.av] (KS hp q l (1048576 - (n:Int)))=some (.ret v',hp')/\∃(e:Int) (l':List B) (n':Nat),v'=.pv none (.int .i64 e)/\hp'=KS hp q l' (1048576 - (n':Int))/\PairR n l (a,b) e l' n' by
   obtain⟨v',hp',h1,e,l',n',rfl,rfl,h2⟩:=hP
   exact⟨e,l',n',h1,h2⟩
  refine zbu _ rfl rfl rfl rfl ?_
  cases n with
  |zero=>
   have hc:(1048576:Int)<=1048576 - ((0:Nat):Int):=by omega
   simp -dsimp -implicitDefEqProofs only[go_sem,seval,↓reduceIte,Tm.av,hc,hlen,hg0,hg1,hs0,hs1,hl0,hl1,ht0,ht1,zal,List.append_assoc,zah,zae,zai,zaf,Nat.add_assoc,List.length_append]
   refine⟨2,l,0,rfl,?_,⟨hO,by omega,by omega,fun _ r=>zgE _ _ _,fun e=>by cases e⟩⟩
   rw[if_pos (by simp[AV.refsIn])]
   exact List.take_left' (hlen _ _)
  |succ n=>
   have hc:¬(1048576:Int)<=1048576 - ((n+1:Nat):Int):=by omega
   have w1:IntKind.i64.wrap (1048576 - ((n+1:Nat):Int)+1)=1048576 - (n:Int):=by rw[zan (by omega) (by omega)];omega
   have hf1:=zfV l a hO (by omega) ha
   have hf2:=zfV l b hO (by omega) hb
   have hx:=zbv hO ha
   have hy:=zbv hO hb
   have herr:=fun(e:Int) (he:e≠0) (h:ustep l (flw l a) (flw l b)=.err e)=>PairR.zxy (n:=n) (p:=(a,b)) hO he h
   have hbnd:=fun(v:Int) (t:Tm) (hb:UBind l v t) (h:ustep l (flw l a) (flw l b)=.bind v t)=>PairR.zxv (n:=n) (p:=(a,b)) hO hb h
   simp only[Tm.av] at hf1 hf2
   have hub:= @zdg l hO (flw l a) (flw l b) hx hy
   generalize hX:flw l a=x at*
   generalize hY:flw l b=y at*
   have fin:∀(e:Int) (l':List B) (n':Nat) (X:Heap),PairR (n+1) l (a,b) e l' n'->∃(e':Int) (l'':List B) (n'':Nat),(AV.pv none (.int .i64 e))=.pv none (.int .i64 e')/\(if((AV.pv none (PV.int IntKind.i64 e)).refsIn.all fun q=>decide (q<hp.length))=true then List.take hp.length (KS hp q l' (1048576 - (n':Int))++X) else KS hp q l' (1048576 - (n':Int))++X)=KS hp q l'' (1048576 - (n'':Int))/\PairR (n+1) l (a,b) e' l'' n'':=fun e l' n' X h=>by
    refine⟨e,l',n',rfl,?_,h⟩
    rw[if_pos (by simp[AV.refsIn])]
    exact List.take_left' (hlen _ _)
   by_cases hxk:x.kind=0
   ·have hx2:=hx.2 hxk
    have hxk':=eq_true hxk
    by_cases hyk:y.kind=0
    ·have hy2:=hy.2 hyk
     have hyk':=eq_true hyk
     by_cases hlt:y.n<x.n
     ·have hrb:=zfr l x.n y hO.good.1 hx2.1 (by omega)
      have hu:ustep l x y=.bind x.n y:=by unfold ustep;rw[if_pos ⟨hxk,hyk⟩,if_pos hlt]
      simp -dsimp -implicitDefEqProofs only[go_sem,seval,↓reduceIte,Tm.av,hc,w1,hf1,hf2,hxk',hyk',hlt,hrb,zaj,zav,hlen,hg0,hg1,hs0,hs1,hl0,hl1,ht0,ht1,zal,List.append_assoc,zah,zae,zai,zaf,Nat.add_assoc,List.length_append]
      exact fin 0 _ n _ (hbnd _ _ (hub hu) hu)
     ·by_cases hgt:x.n<y.n
      ·have hrb:=zfr l y.n x hO.good.1 hy2.1 (by omega)
       have hu:ustep l x y=.bind y.n x:=by unfold ustep;rw[if_pos ⟨hxk,hyk⟩,if_neg hlt,if_pos hgt]
       simp -dsimp -implicitDefEqProofs only[go_sem,seval,↓reduceIte,Tm.av,hc,w1,hf1,hf2,hxk',hyk',hlt,hgt,hrb,zaj,zav,hlen,hg0,hg1,hs0,hs1,hl0,hl1,ht0,ht1,zal,List.append_assoc,zah,zae,zai,zaf,Nat.add_assoc,List.length_append]
       exact fin 0 _ n _ (hbnd _ _ (hub hu) hu)
      ·have hu:ustep l x y=.args []:=by unfold ustep;rw[if_pos ⟨hxk,hyk⟩,if_neg hlt,if_neg hgt]
       simp -dsimp -implicitDefEqProofs only[go_sem,seval,↓reduceIte,Tm.av,hc,w1,hf1,hf2,hxk',hyk',hlt,hgt,zaj,zav,hlen,hg0,hg1,hs0,hs1,hl0,hl1,ht0,ht1,zal,List.append_assoc,zah,zae,zai,zaf,Nat.add_assoc,List.length_append]
       exact fin 0 l n _ ⟨hO,by omega,by omega,fun h=>absurd rfl h,fun _ r=>zcj (p:=(a,b)) r (by show ustep l (flw l a) (flw l b)=_;rw[hX,hY];exact hu)⟩
    ·have hyk':=eq_false hyk
     by_cases hin:inR l x.n y
     ·have hw:=zeo l hO (by omega) x.n y hy.1 true (by simp[hin])
      have hu:ustep l x y=.err 9:=by unfold ustep;rw[if_neg (fun h=>hyk h.2),if_pos hxk,if_pos hin]
      simp only[Tm.av] at hw
      simp -dsimp -implicitDefEqProofs only[go_sem,seval,↓reduceIte,Tm.av,hc,w1,hf1,hf2,hxk',hyk',hw,zaj,zav,hlen,hg0,hg1,hs0,hs1,hl0,hl1,ht0,ht1,zal,List.append_assoc,zah,zae,zai,zaf,Nat.add_assoc,List.length_append]
      exact fin 9 l n _ (herr 9 (by decide) hu)
     ·have hw:=zeo l hO (by omega) x.n y hy.1 false (by simp[hin])
      have hrb:=zfr l x.n y hO.good.1 hx2.1 (by omega)
      have hu:ustep l x y=.bind x.n y:=by unfold ustep;rw[if_neg (fun h=>hyk h.2),if_pos hxk,if_neg hin]
      simp only[Tm.av] at hw
      simp -dsimp -implicitDefEqProofs only[go_sem,seval,↓reduceIte,Tm.av,hc,w1,hf1,hf2,hxk',hyk',hw,hrb,zaj,zav,hlen,hg0,hg1,hs0,hs1,hl0,hl1,ht0,ht1,zal,List.append_assoc,zah,zae,zai,zaf,Nat.add_assoc,List.length_append]
      exact fin 0 _ n _ (hbnd _ _ (hub hu) hu)
   ·have hxk':=eq_false hxk
    by_cases hyk:y.kind=0
    ·have hy2:=hy.2 hyk
     have hyk':=eq_true hyk
     by_cases hin:inR l y.n x
     ·have hw:=zeo l hO (by omega) y.n x hx.1 true (by simp[hin])
      have hu:ustep l x y=.err 9:=by unfold ustep;rw[if_neg (fun h=>hxk h.1),if_neg hxk,if_pos hyk,if_pos hin]
      simp only[Tm.av] at hw
      simp -dsimp -implicitDefEqProofs only[go_sem,seval,↓reduceIte,Tm.av,hc,w1,hf1,hf2,hxk',hyk',hw,zaj,zav,hlen,hg0,hg1,hs0,hs1,hl0,hl1,ht0,ht1,zal,List.append_assoc,zah,zae,zai,zaf,Nat.add_assoc,List.length_append]
      exact fin 9 l n _ (herr 9 (by decide) hu)
     ·have hw:=zeo l hO (by omega) y.n x hx.1 false (by simp[hin])
      have hrb:=zfr l y.n x hO.good.1 hy2.1 (by omega)
      have hu:ustep l x y=.bind y.n x:=by unfold ustep;rw[if_neg (fun h=>hxk h.1),if_neg hxk,if_pos hyk,if_neg hin]
      simp only[Tm.av] at hw
      simp -dsimp -implicitDefEqProofs only[go_sem,seval,↓reduceIte,Tm.av,hc,w1,hf1,hf2,hxk',hyk',hw,hrb,zaj,zav,hlen,hg0,hg1,hs0,hs1,hl0,hl1,ht0,ht1,zal,List.append_assoc,zah,zae,zai,zaf,Nat.add_assoc,List.length_append]
      exact fin 0 _ n _ (hbnd _ _ (hub hu) hu)
    ·have hyk':=eq_false hyk
     by_cases hm:x.kind=y.kind/\x.n=y.n/\x.name=y.name/\x.args.length=y.args.length
     rotate_left
     ·have hu:ustep l x y=.err 4:=by unfold ustep;rw[if_neg (fun h=>hxk h.1),if_neg hxk,if_neg hyk,if_neg hm]
      have hz:=fin 4 l n [AObj.box (some 4) (AV.pv (some 4) x.pv),AObj.box (some 4) (AV.pv (some 4) y.pv)] (herr 4 (by decide) hu)
      by_cases m1:x.kind=y.kind
      ·by_cases m2:x.n=y.n
       ·by_cases m3:x.name=y.name
        ·have m4:¬x.args.length=y.args.length:=fun e=>hm ⟨m1,m2,m3,e⟩
         have m4:¬(x.args.length:Int)=(y.args.length:Int):=by omega
         have m1':=eq_true m1
         have m2':=eq_true m2
         have m3':=eq_true m3
         simp -dsimp -implicitDefEqProofs only[go_sem,seval,↓reduceIte,Tm.av,hc,w1,hf1,hf2,hxk',hyk',m1',m2',m3',m4,zat,zad,Tm.pvs_len,zaj,zav,hlen,hg0,hg1,hs0,hs1,hl0,hl1,ht0,ht1,zal,List.append_assoc,zah,zae,zai,zaf,Nat.add_assoc,List.length_append]
         exact hz
        ·have m1':=eq_true m1
         have m2':=eq_true m2
         simp -dsimp -implicitDefEqProofs only[go_sem,seval,↓reduceIte,Tm.av,hc,w1,hf1,hf2,hxk',hyk',m1',m2',m3,zat,zad,Tm.pvs_len,zaj,zav,hlen,hg0,hg1,hs0,hs1,hl0,hl1,ht0,ht1,zal,List.append_assoc,zah,zae,zai,zaf,Nat.add_assoc,List.length_append]
         exact hz
       ·have m1':=eq_true m1
        simp -dsimp -implicitDefEqProofs only[go_sem,seval,↓reduceIte,Tm.av,hc,w1,hf1,hf2,hxk',hyk',m1',m2,zat,zad,Tm.pvs_len,zaj,zav,hlen,hg0,hg1,hs0,hs1,hl0,hl1,ht0,ht1,zal,List.append_assoc,zah,zae,zai,zaf,Nat.add_assoc,List.length_append]
        exact hz
      ·simp -dsimp -implicitDefEqProofs only[go_sem,seval,↓reduceIte,Tm.av,hc,w1,hf1,hf2,hxk',hyk',m1,zat,zad,Tm.pvs_len,zaj,zav,hlen,hg0,hg1,hs0,hs1,hl0,hl1,ht0,ht1,zal,List.append_assoc,zah,zae,zai,zaf,Nat.add_assoc,List.length_append]
       exact hz
     ·have hu:ustep l x y=.args (x.args.zip y.args):=by unfold ustep;rw[if_neg (fun h=>hxk h.1),if_neg hxk,if_neg hyk,if_pos hm]
      obtain⟨m1,m2,m3,m4⟩:=hm
      have m1':=eq_true m1
      have m2':=eq_true m2
      have m3':=eq_true m3
      have m4':=eq_true (show(x.args.length:Int)=(y.args.length:Int) by omega)
      simp -dsimp -implicitDefEqProofs only[go_sem,seval,↓reduceIte,Tm.av,hc,w1,hf1,hf2,hxk',hyk',m1',m2',m3',m4',zat,zad,Tm.pvs_len,zaj,zav,hlen,hg0,hg1,hs0,hs1,hl0,hl1,ht0,ht1,zal,List.append_assoc,zah,zae,zai,zaf,Nat.add_assoc,List.length_append]
      have hua:∀r,uni (n+1) l ((a,b)::r)=uni n l (x.args.zip y.args++r):=fun r=>zcj (p:=(a,b)) r (by show ustep l (flw l a) (flw l b)=_;rw[hX,hY];exact hu)
      have hxs:=valid_size hx.1
      have hxe:=x.size_eq
      have hxl:=Tm.zwT x.args
      have hzl:(x.args.zip y.args).length=x.args.length:=by rw[List.length_zip];omega
      refine zbQ (α:=List B × Nat) x.args.length (fun i m=>OKB m.1/\m.2<=n/\m.1.length+m.2<=l.length+n/\∀r,uni n l (x.args.zip y.args++r)=uni m.2 m.1 ((x.args.zip y.args).drop i++r))
       (fun i m=>⟨[(0,.ptr q 0),(4,.ptr hp.length 0),(5,.ptr (hp.length+1) 0),(7,.pv none (.int .i64 i))],KS hp q m.1 (1048576 - (m.2:Int))++[.box (some 4) (.pv (some 4) x.pv),.box (some 4) (.pv (some 4) y.pv)]⟩) (l,n) ⟨⟨hO,Nat.le_refl _,Nat.le_refl _,fun r=>rfl⟩,rfl⟩ ?_ ?_
      ·rintro i ⟨l1,n1⟩ h ⟨q1,q2,q3,q4⟩
       dsimp only at q1 q2 q3 q4
       have hc:(i:Int)<(x.args.length:Int):=by omega
       obtain⟨u,hu⟩:∃u,x.args[i]? =some u:=⟨_,List.getElem?_eq_getElem h⟩
       obtain⟨w,hw⟩:∃w,y.args[i]? =some w:=⟨_,List.getElem?_eq_getElem (by omega)⟩
       have hdr:(x.args.zip y.args).drop i=(u,w)::(x.args.zip y.args).drop (i+1):=by
        obtain⟨k1,e1⟩:=List.getElem?_eq_some_iff.1 hu
        obtain⟨k2,e2⟩:=List.getElem?_eq_some_iff.1 hw
        rw[List.drop_eq_getElem_cons (by omega),List.getElem_zip,e1,e2]
       obtain⟨e,l2,n2,hcall,hR⟩:=ih n1 (by omega) l1 u w (hp++[.box (some 4) (.pv (some 4) x.pv),.box (some 4) (.pv (some 4) y.pv)]) q (by omega) q1 (by omega) (zaR hx.1 (List.mem_of_getElem? hu)) (zaR hy.1 (List.mem_of_getElem? hw)) (by simp;omega)
       rw[zrI hq,zrI hq] at hcall
       simp only[Tm.av] at hcall
       have w2:IntKind.i64.wrap ((i:Int)+1)=((i+1:Nat):Int):=by rw[zan (by omega) (by omega)];omega
       have hle:=hR.le
       have hle2:=hR.len
       by_cases he:e=0
       ·have he':=eq_true he
        simp -dsimp -implicitDefEqProofs only[go_sem,seval,↓reduceIte,zad,Tm.pvs_len,hc,zab (Tm.pvs_get hu),zab (Tm.pvs_get hw),hcall,he',w2,zaj,zav,hlen,hg0,hg1,hs0,hs1,hl0,hl1,ht0,ht1,zal,List.append_assoc,zah,zae,zai,zaf,Nat.add_assoc,List.length_append]
        refine⟨(l2,n2),⟨hR.okb,by dsimp only;omega,by dsimp only;omega,fun r=> ?_⟩,?_⟩
        ·rw[q4,hdr,List.cons_append,hR.good he]
        ·rw[zaQ 2 (hlen _ _) rfl (by simp[AObj.refs,AV.refsIn]) (by simp[AV.refsIn];omega)]
         rfl
       ·simp -dsimp -implicitDefEqProofs only[go_sem,seval,↓reduceIte,zad,Tm.pvs_len,hc,zab (Tm.pvs_get hu),zab (Tm.pvs_get hw),hcall,he,zaj,zav,hlen,hg0,hg1,hs0,hs1,hl0,hl1,ht0,ht1,zal,List.append_assoc,zah,zae,zai,zaf,Nat.add_assoc,List.length_append]
        refine fin e l2 n2 _ ⟨hR.okb,by omega,by omega,fun _ r=> ?_,fun h=>absurd h he⟩
        rw[hua,q4,hdr,List.cons_append,hR.bad he]
      ·rintro⟨l1,n1⟩ ⟨q1,q2,q3,q4⟩
       dsimp only at q1 q2 q3 q4
       have hc:¬(x.args.length:Int)<(x.args.length:Int):=by omega
       simp -dsimp -implicitDefEqProofs only[go_sem,seval,↓reduceIte,zad,Tm.pvs_len,hc,zaj,zav,hlen,hg0,hg1,hs0,hs1,hl0,hl1,ht0,ht1,zal,List.append_assoc,zah,zae,zai,zaf,Nat.add_assoc,List.length_append]
       refine fin 0 l1 n1 _ ⟨q1,by omega,by omega,fun h=>absurd rfl h,fun _ r=> ?_⟩
       rw[hua,q4,<-hzl,List.drop_length,List.nil_append]
theorem zmr(l:List B)(a b:Tm)(hO:OKB l)(hl:l.length<80000000)(ha:a.valid=true)(hb:b.valid=true):
  ∃k:Int,∀hp,S 92 [.pv none (.sl (some 5) (bds l)),a.av,b.av] hp=some (.ret (.tuple [.pv none (.sl (some 5) (bds (uni 1048576 l [(a,b)]).1)),.pv none (.int .i64 k),.pv none (.int .i64 (uni 1048576 l [(a,b)]).2)]),hp):=by
 have hn0:∀H:Heap,zbD (some 5) H=some (.sl (some 5) H.length 0 0 0,H++[.arr (some 5) [] false]):=fun H=>zbH (sh:=some 5) (by decide)
 obtain⟨e,l',n',hcall,hR⟩:=ztz 1048576 l a b [.box (some 4) (.pv (some 4) a.pv),.box (some 4) (.pv (some 4) b.pv),.arr (some 5) [] false,.box none .undef] 3 (by omega) hO (by omega) ha hb (by simp)
 refine⟨1048576 - (n':Int),fun hp=>zao rfl rfl rfl (zac [(none,.sl (some 5) (bds l)),(some 4,a.pv),(some 4,b.pv)]) rfl ?_⟩
 have e1:KS [.box (some 4) (.pv (some 4) a.pv),.box (some 4) (.pv (some 4) b.pv),.arr (some 5) [] false,.box none .undef] 3 l (1048576 - ((1048576:Nat):Int))=[.box (some 4) (.pv (some 4) a.pv),.box (some 4) (.pv (some 4) b.pv),.arr (some 5) [] false,.box (some 2) (.pv (some 2) (.agg [(none,.sl (some 5) (bds l)),(none,.int .i64 0)]))]:=rfl
 have e2:KS [.box (some 4) (.pv (some 4) a.pv),.box (some 4) (.pv (some 4) b.pv),.arr (some 5) [] false,.box none .undef] 3 l' (1048576 - (n':Int))=[.box (some 4) (.pv (some 4) a.pv),.box (some 4) (.pv (some 4) b.pv),.arr (some 5) [] false,.box (some 2) (.pv (some 2) (.agg [(none,.sl (some 5) (bds l')),(none,.int .i64 (1048576 - (n':Int)))]))]:=rfl
 rw[e1,e2] at hcall
 simp only[Tm.av] at hcall
 have hbd:zaY [(none,.tsl (some 5) []),(none,.pv none (.int .i64 0))] [0] [.pv none (.sl (some 5) (bds l))]=some (.pv (some 2) (.agg [(none,.sl (some 5) (bds l)),(none,.int .i64 0)])):=rfl
 have p0:∀k:Int,PV.part deep (.agg [(none,.sl (some 5) (bds l')),(none,.int .i64 k)]) 0 none=some (.sl (some 5) (bds l')):=fun _=>rfl
 have p1:∀k:Int,PV.part deep (.agg [(none,.sl (some 5) (bds l')),(none,.int .i64 k)]) 1 none=some (.int .i64 k):=fun _=>rfl
 by_cases he:e=0
 ·have he':=eq_true he
  have hu:=hR.good he []
  rw[zfY] at hu
  rw[hu]
  simp -dsimp -implicitDefEqProofs only[go_sem,seval,↓reduceIte,Tm.av,hn0,hbd,hcall,he',p0,p1,zal,List.append_assoc,zah,zae,zai,zaf,Nat.add_assoc,List.length_append]
 ·have hu:=hR.bad he []
  rw[hu]
  simp -dsimp -implicitDefEqProofs only[go_sem,seval,↓reduceIte,Tm.av,hn0,hbd,hcall,he,p0,p1,zal,List.append_assoc,zah,zae,zai,zaf,Nat.add_assoc,List.length_append]
  rfl
noncomputable def unR(l:List B)(a b:Tm):List B × Int:=if okb l=true/\a.valid=true/\b.valid=true then uni 1048576 l [(a,b)] else([],1)
theorem zrJ(l:List B)(a b:Tm)(hl:l.length<80000000)(hsz:∀b∈l,b.2.size<1000000000)(ha:a.size<1000000000)(hb:b.size<1000000000)(hp:Heap):
  S 40 [.pv none (.sl (some 5) (bds l)),a.av,b.av] hp=some (.ret (.tuple [.pv none (.sl (some 5) (bds (unR l a b).1)),.pv none (.int .i64 (unR l a b).2)]),hp):=by
 have hn0:∀H:Heap,zbD (some 5) H=some (.sl (some 5) H.length 0 0 0,H++[.arr (some 5) [] false]):=fun H=>zbH (sh:=some 5) (by decide)
 refine zao rfl rfl rfl (zac [(none,.sl (some 5) (bds l)),(some 4,a.pv),(some 4,b.pv)]) rfl ?_
 have h1:=ziy l (by omega) hsz
 have h2:=fun hp=>zbK a hp ha
 have h3:=fun hp=>zbK b hp hb
 simp only[Tm.av] at h2 h3
 cases hok:okb l with
 |false=>
  rw[hok] at h1
  have e:unR l a b=([],1):=by unfold unR;rw[if_neg (by simp[hok])]
  rw[e]
  simp -dsimp -implicitDefEqProofs only[go_sem,seval,↓reduceIte,Tm.av,hn0,h1,h2,h3,List.append_assoc,zah,zae,zai,zaf,Nat.add_assoc,List.length_append]
  try rfl
 |true=>
  rw[hok] at h1
  by_cases va:a.valid=true
  ·by_cases vb:b.valid=true
   ·have e:unR l a b=uni 1048576 l [(a,b)]:=by unfold unR;rw[if_pos ⟨hok,va,vb⟩]
    rw[e]
    obtain⟨k,h4⟩:=zmr l a b (okb_iff.1 hok) hl va vb
    simp only[Tm.av] at h4
    generalize uni 1048576 l [(a,b)]=R at h4 ⊢
    simp -dsimp -implicitDefEqProofs only[go_sem,seval,↓reduceIte,Tm.av,hn0,h1,h2,h3,va,vb,h4,List.append_assoc,zah,zae,zai,zaf,Nat.add_assoc,List.length_append]
    try rfl
   ·have vb':b.valid=false:=by simpa using vb
    have e:unR l a b=([],1):=by unfold unR;rw[if_neg (by simp[vb'])]
    rw[e]
    simp -dsimp -implicitDefEqProofs only[go_sem,seval,↓reduceIte,Tm.av,hn0,h1,h2,h3,va,vb',List.append_assoc,zah,zae,zai,zaf,Nat.add_assoc,List.length_append]
    try rfl
  ·have va':a.valid=false:=by simpa using va
   have e:unR l a b=([],1):=by unfold unR;rw[if_neg (by simp[va'])]
   rw[e]
   simp -dsimp -implicitDefEqProofs only[go_sem,seval,↓reduceIte,Tm.av,hn0,h1,h2,h3,va',List.append_assoc,zah,zae,zai,zaf,Nat.add_assoc,List.length_append]
   try rfl
def endA(rs:List RSlot)(n:Nat)(P:ARes->Heap->Prop):AExit->St->Prop
 | .panic v,st=>P (.panic v) (st.hp.take n)
 |e,st=>endK rs (fun v' h'=>P (.ret v') (if v'.refsIn.all (fun q=>decide (q<n))=true then h'.take n else h')) e st
theorem zaE(rs:List RSlot)(n:Nat)(P:ARes->Heap->Prop)(v:PV)(st:St):endA rs n P (.panic v) st=P (.panic v) (st.hp.take n):=rfl
theorem zaT(rs:List RSlot)(n:Nat)(P:ARes->Heap->Prop)(st:St):endA rs n P .ret st=endK rs (fun v' h'=>P (.ret v') (if v'.refsIn.all (fun q=>decide (q<n))=true then h'.take n else h')) .ret st:=rfl
theorem zaz(rs:List RSlot)(n:Nat)(P:ARes->Heap->Prop)(st:St):endA rs n P .normal st=endK rs (fun v' h'=>P (.ret v') (if v'.refsIn.all (fun q=>decide (q<n))=true then h'.take n else h')) .normal st:=rfl
theorem zd2{F:FuncId->Option AFn}{prim:FuncId->Option zbq}{f:FuncId}{fn:AFn}{args:List AV}{hp:Heap}(P:ARes->Heap->Prop)(hp0:prim f=none)(hf:F f=some fn)(hm:fn.heapMode=true)(hn:args.length=fn.nparams)
  (h:W (sem F prim) (sloop F prim) hp.length fn.code ⟨params 0 args,hp⟩ (endA fn.results hp.length P))(hr:fn.rcv=none:=by rfl)(hmo:fn.more=[]:=by rfl):∃v hp',sem F prim .fn f args hp=some (v,hp')/\P v hp':=by
 rw[zgk]
 unfold zbs
 rw[hp0,hf]
 simp only[hr,hmo,Option.isSome_none,Bool.false_eq_true,if_false,hm,if_true,abody,hn,ne_eq,not_true_eq_false,if_false]
 unfold W at h
 split at h
 ·rename_i e st' he
  rw[he]
  cases e with
  |normal=>
   rw[zaz,zbV] at h
   cases hr:zaJ st' fn.results with
   |none=>rw[hr] at h;exact h.elim
   |some u=>rw[hr] at h;exact⟨_,_,by simp only[hr],h⟩
  |ret=>
   rw[zaT,zc3] at h
   cases hr:zaJ st' fn.results with
   |none=>rw[hr] at h;exact h.elim
   |some u=>rw[hr] at h;exact⟨_,_,by simp only[hr],h⟩
  |exit i=>exact h.elim
  |panic v=>exact⟨_,_,rfl,h⟩
 ·exact h.elim
def US(hp:Heap)(q r:Nat)(l:List B):Heap:=(hp.set q (.box (some 1) (.agg [(none,.sl (some 5) r l.length 0 l.length)]))).set r (.arr (some 5) (bds l) false)
def UA(hp:Heap)(q r:Nat)(l l':List B):Heap:=(US hp q r l).set r (.arr (some 5) (bds l') false)
theorem zfq(hp:Heap)(q r:Nat)(l:List B):(US hp q r l).length=hp.length:=by simp[US]
theorem zt1(hp:Heap)(q r:Nat)(l l':List B):(UA hp q r l l').length=hp.length:=by simp[UA,zfq]
theorem zce{hp:Heap}{q r:Nat}(hq:q<hp.length)(hr:r<hp.length)(l:List B)(e:Heap):US (hp++e) q r l=US hp q r l++e:=by
 unfold US
 rw[List.set_append_left _ _ hq,List.set_append_left _ _ (by simpa using hr)]
theorem US_q{hp:Heap}{q r:Nat}(hq:q<hp.length)(hn:q≠r)(l:List B)(e:Heap):(US hp q r l++e)[q]? =some (.box (some 1) (.agg [(none,.sl (some 5) r l.length 0 l.length)])):=by
 rw[List.getElem?_append_left (by rw[zfq];exact hq)]
 unfold US
 rw[List.getElem?_set_ne (Ne.symm hn),List.getElem?_set_self hq]
theorem US_r{hp:Heap}{q r:Nat}(hr:r<hp.length)(l:List B)(e:Heap):(US hp q r l++e)[r]? =some (.arr (some 5) (bds l) false):=by
 rw[List.getElem?_append_left (by rw[zfq];exact hr)]
 unfold US
 rw[List.getElem?_set_self (by simpa using hr)]
theorem US_B{hp:Heap}{q r:Nat}(hr:r<hp.length)(l:List B)(e:Heap):IsB (.sl (some 5) r l.length 0 l.length) (US hp q r l++e) l:=.inr ⟨r,rfl,US_r hr l e⟩
theorem zuX{hp:Heap}{q r:Nat}(hq:q<hp.length)(hn:q≠r)(l:List B)(e:Heap):aload none (US hp q r l++e) (.ptr q 0)=some (.sl (some 5) r l.length 0 l.length):=by
 simp[aload,US_q hq hn]
 rfl
theorem zvT{hp:Heap}{q r:Nat}(hq:q<hp.length)(hn:q≠r)(l l':List B)(b:Nat)(hb:q<b)(e:Heap):zaU none b (UA hp q r l l'++e) [.ptr q 0,.sl (some 5) r l'.length 0 l'.length]=some (.undef,US hp q r l'++e):=by
 have h1:(UA hp q r l l'++e)[q]? =some (.box (some 1) (.agg [(none,.sl (some 5) r l.length 0 l.length)])):=by
  rw[List.getElem?_append_left (by rw[zt1];exact hq)]
  unfold UA
  rw[List.getElem?_set_ne (Ne.symm hn)]
  have:=US_q (r:=r) hq hn l []
  rw[List.append_nil] at this
  exact this
 have h2:AV.upd deep (.agg [(none,.sl (some 5) r l.length 0 l.length)]) 0 none (.sl (some 5) r l'.length 0 l'.length)=some (.agg [(none,.sl (some 5) r l'.length 0 l'.length)]):=rfl
 have h3:¬b<=q:=by omega
 have h4:(UA hp q r l l'++e).set q (.box (some 1) (.agg [(none,.sl (some 5) r l'.length 0 l'.length)]))=US hp q r l'++e:=by
  rw[List.set_append_left _ _ (by rw[zt1];exact hq)]
  congr 1
  unfold UA US
  rw[List.set_set,List.set_comm _ _ hn,List.set_set]
  exact List.set_comm _ _ (Ne.symm hn)
 simp[zaU,astore,h1,h2,h3,h4,AV.plain,AV.shp,AV.refsIn,AV.refsIn.go]
theorem zru{hp:Heap}{q r:Nat}(hq:q<hp.length)(hn:q≠r)(l:List B)(e e':Heap):zbx (US hp q r l++e) (US hp q r l++e') (.ptr q 0)=true:=by
 simp[zbx,US_q hq hn,AObj.beq,AV.beq,AV.beqc]
def zoS(e:Int):PV:=.iface 100 (some 1) (.agg [(none,.int .i64 e)])
theorem znk(l:List B)(hO:OKB l)(hl:l.length<90000000)(v:Int)(t:Tm)(hv:t.valid=true)(hp:Heap)(q r:Nat)(hq:q<hp.length)(hr:r<hp.length)(hn:q≠r):
  ∃res hp',S 153 [.ptr q 0,.pv none (.int .i64 v),t.av] (US hp q r l)=some (res,hp')/\(inR l v t->res=.panic (zoS 9)/\hp'=US hp q r l)/\(¬inR l v t->res=.ret (.tuple [])/\hp'=US hp q r (insB l v t)):=by
 have htz:=valid_size hv
 have hlen:=fun l=>zfq hp q r l
 have hg0:∀(l:List B) (e:Heap),(US hp q r l++e)[hp.length]? =e[0]? :=fun l e=>zct (hlen l)
 have hg1:∀(l:List B) (e:Heap) (j:Nat),(US hp q r l++e)[hp.length+j]? =e[j]? :=fun l e j=>getN (hlen l) j
 have hld:=fun l e=>zuX (r:=r) hq hn l e
 have hsm:=fun l e e'=>zru (r:=r) hq hn l e e'
 refine zd2 (fun res hp'=>(inR l v t->res=.panic (zoS 9)/\hp'=US hp q r l)/\(¬inR l v t->res=.ret (.tuple [])/\hp'=US hp q r (insB l v t))) rfl rfl rfl rfl ?_
 have hu:=zkS (fun _=>0) l fun b hb=>by have:=valid_size (hO.good.2 b hb).1;omega
 obtain⟨m',bb,f',hcall,hR⟩:=zuW l hO (by omega) v (.sl (some 5) r l.length 0 l.length) _ t (US hp q r l++[.box (some 4) (.pv (some 4) t.pv),.map none []]) (hp.length+1) [] (fun _=>0) rfl hv (by rw[hg1];rfl) (.inr (US_B hr l _)) (fun _=>rfl) (fun _=>Int.le_refl _) (fun w hw=>absurd rfl hw) (fun w=>by omega)
 have hs2:∀(X:AObj),(US hp q r l++([.box (some 4) (.pv (some 4) t.pv),.map none []]:Heap)).set (hp.length+1) X=US hp q r l++[.box (some 4) (.pv (some 4) t.pv),X]:=fun X=>by rw[setN (hlen l)];rfl
 rw[hs2] at hcall
 have hmk:∀a:AObj,(US hp q r l++[a]).length=hp.length+1:=fun a=>by simp[hlen]
 simp only[Tm.av] at hcall
 have hsb:∀x:Int,zaY [(none,.pv none (.int .i64 0))] [0] [.pv none (.int .i64 x)]=some (.pv (some 1) (.agg [(none,.int .i64 x)])):=fun _=>rfl
 have hmi:∀(s:Sh) (p:PV),zcA 100 [.pv s p]=some (.pv none (.iface 100 s p)):=fun _ _=>rfl
 have hpan:∀A:Prop,panK true A=A:=fun _=>rfl
 cases bb with
 |true=>
  have hin:inR l v t:=hR.post.yes rfl
  simp -dsimp -implicitDefEqProofs only[go_sem,seval,↓reduceIte,Tm.av,hcall,hsb,hmi,hpan,hlen,hg0,hg1,hld,zaE,zaT,zaz,zal,List.append_assoc,zah,zae,zai,zaf,Nat.add_assoc,List.length_append]
  exact⟨fun _=>⟨rfl,List.take_left' (hlen _)⟩,fun h=>h hin⟩
 |false=>
  have hin:¬inR l v t:=(hR.post.no rfl).1
  have hpl:=fun e=>zhi (US_B (q:=q) hr l e) v hO.good.1 (by omega)
  have hcl:=fun hp=>zfl t hp hv (by omega)
  simp only[Tm.av] at hcl
  have hbd:zaY [(none,.pv none (.int .i64 0)),(some 4,.agg [(none,.pv none (.int .i64 0)),(none,.pv none (.int .i64 0)),(none,.pv none (.str [])),(none,.tsl (some 4) [])])] [0,1] [.pv none (.int .i64 v),.pv (some 4) t.pv]=some (.pv (some 5) (bdp (v,t))):=rfl
  have hins:∀e:Heap,S 158 [.sl (some 5) r l.length 0 l.length,.pv none (.int .i64 (lbB l v:Int)),.tsl (some 5) [bdp (v,t)]] (US hp q r l++e)=some (.ret (.sl (some 5) r (insB l v t).length 0 (insB l v t).length),UA hp q r l (insB l v t)++e):=fun e=>by
   obtain⟨s',H',h1,_,_,h2|h2⟩:=ztZ (US_B (q:=q) hr l e) v t (by omega)
   ·obtain⟨r',n',h3,h4,h5⟩:=h2
    cases h3
    rw[h1,h4,h5,zel,List.set_append_left _ _ (by rw[zfq];exact hr)]
    rfl
   ·cases h2.1
  have hst:=fun l' e=>zvT (r:=r) hq hn l l' hp.length hq e
  simp -dsimp -implicitDefEqProofs only[go_sem,seval,↓reduceIte,Tm.av,hcall,hpl,hcl,hbd,hsm,hins,hst,hlen,hg0,hg1,hld,zcH,List.take_succ_cons,List.drop_succ_cons,List.all_cons,List.all_nil,zaE,zaT,zaz,zal,List.append_assoc,zah,zae,zai,zaf,Nat.add_assoc,List.length_append]
  exact⟨fun h=>hin h,fun _=>List.take_left' (hlen _)⟩
def zw(w:Int)(q:Nat):AV:=.agg [(none,.pv none (.int .i64 0)),(none,.pv none (.int .i64 w)),(none,.pv none (.str [])),(none,.sl (some 4) q 0 0 0)]
theorem zrv{s:AV}{hp:Heap}{l:List B}(h:IsS s hp l)(hs:Srt' l)(hl:l.length<1000000000)(w:Int)(q:Nat)(hq:q<hp.length)(hf:fndB l w=false):
  S 145 [s,zw w q] hp=some (.ret (.tuple [zagg (hp.length+3),.pv none (.bool false)]),hp++[.box (some 4) (zw w q),.box (some 4) (zagg (hp.length+3)),.arr (some 4) [] false,.arr (some 4) [] false]):=by
 refine zaO rfl rfl rfl rfl ?_
 have hpl:=fun e=>h.place w hs hl e
 rw[hf] at hpl
 simp -dsimp -implicitDefEqProofs only[go_sem,seval,↓reduceIte,zw,hpl,hb0,zay,zcR,zag (Nat.le_add_right _ _),List.append_assoc,zah,zae,zai,zaf,Nat.add_assoc,List.length_append]
 rw[zf2 rfl ((zah hp _ 1).trans rfl)]
 refine⟨rfl,?_⟩
 rw[if_neg (by simp[AV.refsIn,AV.refsIn.gol,AV.refsIn.go,zagg])]
 rfl
theorem zuY{s:AV}{hp:Heap}{l:List B}(h:IsS s hp l)(hs:Srt' l)(hl:l.length<1000000000)(v w:Int)(q r:Nat)(hq:q<hp.length)(hf:fndB l w=false)(hvw:w≠v):
  S 157 [s,.pv none (.int .i64 v),zw w q,.map r] hp=some (.ret (.pv none (.bool false)),hp):=by
 refine zaO rfl rfl rfl rfl ?_
 have hb:=fun e=>zrv (h.more e) hs hl w q (by simp;omega) hf
 simp only[zw,zagg] at hb
 simp -dsimp -implicitDefEqProofs only[go_sem,seval,↓reduceIte,zw,hb,hvw,zay,zcR,zag (Nat.le_add_right _ _),List.append_assoc,zah,zae,zai,zaf,Nat.add_assoc,List.length_append]
 rw[if_pos (by simp[AV.refsIn])]
 exact List.take_left
theorem zrw(w:Int)(hw:0<=w/\w<=1099511627776)(q:Nat)(hp:Heap)(hq:hp[q]? =some (.arr (some 4) [] false)):
  S 38 [zw w q] hp=some (.ret (tvar w).av,hp.set q (.arr (some 4) [] true)):=by
 have hv:(tvar w).valid=true:=zgD (zkR hw) (by have:(tvar w).size=1:=rfl;omega)
 have h1:=zfl (tvar w) [] hv (by have:(tvar w).size=1:=rfl;omega)
 have:=zcc (F:=find tab) (prim:=prim) (f:=38) (args:=[zw w q]) (ps:=[(some 4,(tvar w).pv)]) (hp:=hp) (hp1:=hp.set q (.arr (some 4) [] true)) rfl rfl rfl (by
  simp[zap,zw,AV.freeze,AV.freeze.go,deep,hq,AV.shp]
  exact⟨rfl,rfl⟩) h1
 exact this
theorem zkT(l:List B)(hO:OKB l)(hl:l.length<90000000)(v w:Int)(hw:0<=w/\w<=1099511627776)(hf:fndB l w=false)(hvw:w≠v)(hp:Heap)(q r:Nat)(hq:q<hp.length)(hr:r<hp.length)(hn:q≠r):
  S 153 [.ptr q 0,.pv none (.int .i64 v),vagg w] (US hp q r l)=some (.ret (.tuple []),US hp q r (insB l v (tvar w))):=by
 have hlen:=fun l=>zfq hp q r l
 have hg0:∀(l:List B) (e:Heap),(US hp q r l++e)[hp.length]? =e[0]? :=fun l e=>zct (hlen l)
 have hg1:∀(l:List B) (e:Heap) (j:Nat),(US hp q r l++e)[hp.length+j]? =e[j]? :=fun l e j=>getN (hlen l) j
 have hs0:∀(l:List B) (Y:AObj) (e:Heap),(US hp q r l++e).set hp.length Y=US hp q r l++e.set 0 Y:=fun l Y e=>zdV (hlen l) Y
 have hld:=fun l e=>zuX (r:=r) hq hn l e
 have hsm:=fun l e e'=>zru (r:=r) hq hn l e e'
 refine zaO rfl rfl rfl rfl ?_
 have hoc:∀e:Heap,1<e.length->S 157 [.sl (some 5) r l.length 0 l.length,.pv none (.int .i64 v),zw w (hp.length+1),.map (hp.length+2)] (US hp q r l++e)=some (.ret (.pv none (.bool false)),US hp q r l++e):=fun e he=>
  zuY (.inr (US_B hr l e)) hO.good.1 (by omega) v w (hp.length+1) (hp.length+2) (by rw[List.length_append,hlen];omega) hf hvw
 have hoc1:=hoc [.box (some 4) (zw w (hp.length+1)),.arr (some 4) [] false,.map none []] (by simp)
 have hpl:=fun e=>zhi (US_B (q:=q) hr l e) v hO.good.1 (by omega)
 have hcl:=zrw w hw (hp.length+1) (US hp q r l++[.box (some 4) (zw w (hp.length+1)),.arr (some 4) [] false,.map none []]) (by rw[hg1];rfl)
 rw[setN (hlen l)] at hcl
 simp only[List.set_cons_succ,List.set_cons_zero,Tm.av] at hcl
 have hbd:zaY [(none,.pv none (.int .i64 0)),(some 4,.agg [(none,.pv none (.int .i64 0)),(none,.pv none (.int .i64 0)),(none,.pv none (.str [])),(none,.tsl (some 4) [])])] [0,1] [.pv none (.int .i64 v),.pv (some 4) (tvar w).pv]=some (.pv (some 5) (bdp (v,tvar w))):=rfl
 have hins:∀e:Heap,S 158 [.sl (some 5) r l.length 0 l.length,.pv none (.int .i64 (lbB l v:Int)),.tsl (some 5) [bdp (v,tvar w)]] (US hp q r l++e)=some (.ret (.sl (some 5) r (insB l v (tvar w)).length 0 (insB l v (tvar w)).length),UA hp q r l (insB l v (tvar w))++e):=fun e=>by
  obtain⟨s',H',h1,_,_,h2|h2⟩:=ztZ (US_B (q:=q) hr l e) v (tvar w) (by omega)
  ·obtain⟨r',n',h3,h4,h5⟩:=h2
   cases h3
   rw[h1,h4,h5,zel,List.set_append_left _ _ (by rw[zfq];exact hr)]
   rfl
  ·cases h2.1
 have hst:=fun l' e=>zvT (r:=r) hq hn l l' hp.length hq e
 simp only[zw] at hoc1 hcl
 generalize hT:(tvar w).pv=T at hcl hbd
 simp -dsimp -implicitDefEqProofs only[go_sem,seval,↓reduceIte,vagg,hoc1,hpl,hcl,hbd,hsm,hins,hst,hlen,hg0,hg1,hs0,hld,zcR,zcH,List.take_succ_cons,List.drop_succ_cons,List.all_cons,List.all_nil,zal,List.append_assoc,zah,zae,zai,zaf,Nat.add_assoc,List.length_append]
 exact List.take_left' (hlen _)
def zeJ(hp:Heap)(q r:Nat)(l:List B)(x y:Tm)(res:ARes)(hp':Heap):Prop:=
 match ustep l x y with
 | .err e=>res=.panic (zoS e)/\hp'=US hp q r l
 | .bind v t=>res=.ret (.pv none (.bool false))/\hp'=US hp q r (insB l v t)
 | .args xs=>hp'=US hp q r l/\((res=.ret (.pv none (.bool false))/\xs=[])\/(res=.ret (.pv none (.bool true))/\xs=x.args.zip y.args/\x.args.length=y.args.length))
theorem ztr(l:List B)(hO:OKB l)(hl:l.length<90000000)(x y:Tm)(hx:Flwd l x)(hy:Flwd l y)(hp:Heap)(q r:Nat)(hq:q<hp.length)(hr:r<hp.length)(hn:q≠r):
  ∃res hp',S 144 [.ptr q 0,x.av,y.av] (US hp q r l)=some (res,hp')/\zeJ hp q r l x y res hp':=by
 have hlen:=fun l=>zfq hp q r l
 have hg0:∀(l:List B) (e:Heap),(US hp q r l++e)[hp.length]? =e[0]? :=fun l e=>zct (hlen l)
 have hg1:∀(l:List B) (e:Heap) (j:Nat),(US hp q r l++e)[hp.length+j]? =e[j]? :=fun l e j=>getN (hlen l) j
 have hsb:∀x:Int,zaY [(none,.pv none (.int .i64 0))] [0] [.pv none (.int .i64 x)]=some (.pv (some 1) (.agg [(none,.int .i64 x)])):=fun _=>rfl
 have hmi:∀(s:Sh) (p:PV),zcA 100 [.pv s p]=some (.pv none (.iface 100 s p)):=fun _ _=>rfl
 have hpan:∀A:Prop,panK true A=A:=fun _=>rfl
 have htk:∀(l:List B) (e:Heap),List.take hp.length (US hp q r l++e)=US hp q r l:=fun l e=>List.take_left' (hlen l)
 have hif:∀(b:Bool) (A B:Heap),(if((AV.pv none (PV.bool b)).refsIn.all fun q=>decide (q<hp.length))=true then A else B)=A:=fun b A B=>if_pos (by simp[AV.refsIn])
 refine zd2 (zeJ hp q r l x y) rfl rfl rfl rfl ?_
 have hbu:∀v:Int,zaY [(none,.pv none (.int .i64 0)),(none,.pv none (.int .i64 0)),(none,.pv none (.str [])),(none,.tsl (some 4) [])] [1] [.pv none (.int .i64 v)]=some (.agg [(none,.pv none (.int .i64 0)),(none,.pv none (.int .i64 v)),(none,.pv none (.str [])),(none,.tsl (some 4) [])]):=fun _=>rfl
 by_cases hxk:x.kind=0
 ·have hx2:=hx.2 hxk
  have hxk':=eq_true hxk
  by_cases hyk:y.kind=0
  ·have hy2:=hy.2 hyk
   have hyk':=eq_true hyk
   by_cases hlt:y.n<x.n
   ·have hu:ustep l x y=.bind x.n y:=by unfold ustep;rw[if_pos ⟨hxk,hyk⟩,if_pos hlt]
    have hcall:=zkT l hO hl x.n y.n hy2.2.2 hy2.1 (by omega) (hp++[.box (some 4) (.pv (some 4) x.pv),.box (some 4) (.pv (some 4) y.pv)]) q r (by simp;omega) (by simp;omega) hn
    rw[zce hq hr,zce hq hr,<-hy2.2.1] at hcall
    simp only[vagg] at hcall
    have hne:¬x.n=y.n:=by omega
    have h1:=eq_true hlt
    have h2:=eq_false (show ¬x.n<y.n by omega)
    simp -dsimp -implicitDefEqProofs only[go_sem,seval,↓reduceIte,Tm.av,hxk',hyk',hne,h1,h2,hbu,hcall,hsb,hmi,hpan,zaj,zav,hlen,hg0,hg1,zaE,zaT,zaz,List.append_assoc,zah,zae,zai,zaf,Nat.add_assoc,List.length_append]
    unfold zeJ
    rw[hu]
    exact⟨rfl,by rw[hif];exact htk _ _⟩
   ·by_cases hgt:x.n<y.n
    ·have hu:ustep l x y=.bind y.n x:=by unfold ustep;rw[if_pos ⟨hxk,hyk⟩,if_neg hlt,if_pos hgt]
     have hcall:=zkT l hO hl y.n x.n hx2.2.2 hx2.1 (by omega) (hp++[.box (some 4) (.pv (some 4) x.pv),.box (some 4) (.pv (some 4) y.pv)]) q r (by simp;omega) (by simp;omega) hn
     rw[zce hq hr,zce hq hr,<-hx2.2.1] at hcall
     simp only[vagg] at hcall
     have hne:¬x.n=y.n:=by omega
     have h1:=eq_true hgt
     have h2:=eq_false (show ¬y.n<x.n by omega)
     simp -dsimp -implicitDefEqProofs only[go_sem,seval,↓reduceIte,Tm.av,hxk',hyk',hne,h1,h2,hbu,hcall,hsb,hmi,hpan,zaj,zav,hlen,hg0,hg1,zaE,zaT,zaz,List.append_assoc,zah,zae,zai,zaf,Nat.add_assoc,List.length_append]
     unfold zeJ
     rw[hu]
     exact⟨rfl,by rw[hif];exact htk _ _⟩
    ·have hu:ustep l x y=.args []:=by unfold ustep;rw[if_pos ⟨hxk,hyk⟩,if_neg hlt,if_neg hgt]
     have hne:=eq_true (show x.n=y.n by omega)
     simp -dsimp -implicitDefEqProofs only[go_sem,seval,↓reduceIte,Tm.av,hxk',hyk',hne,hsb,hmi,hpan,zaj,zav,hlen,hg0,hg1,zaE,zaT,zaz,List.append_assoc,zah,zae,zai,zaf,Nat.add_assoc,List.length_append]
     unfold zeJ
     rw[hu]
     exact⟨by rw[hif];exact htk _ _,.inl ⟨rfl,rfl⟩⟩
  ·have hyk':=eq_false hyk
   obtain⟨res,hp',hcall,hin,hout⟩:=znk l hO hl x.n y hy.1 (hp++[.box (some 4) (.pv (some 4) x.pv),.box (some 4) (.pv (some 4) y.pv)]) q r (by simp;omega) (by simp;omega) hn
   rw[zce hq hr] at hcall hin
   rw[zce hq hr] at hout
   simp only[Tm.av] at hcall
   by_cases hi:inR l x.n y
   ·have hu:ustep l x y=.err 9:=by unfold ustep;rw[if_neg (fun h=>hyk h.2),if_pos hxk,if_pos hi]
    obtain⟨rfl,rfl⟩:=hin hi
    simp -dsimp -implicitDefEqProofs only[go_sem,seval,↓reduceIte,Tm.av,hxk',hyk',hcall,hsb,hmi,hpan,zaj,zav,hlen,hg0,hg1,zaE,zaT,zaz,List.append_assoc,zah,zae,zai,zaf,Nat.add_assoc,List.length_append]
    unfold zeJ
    rw[hu]
    exact⟨rfl,htk _ _⟩
   ·have hu:ustep l x y=.bind x.n y:=by unfold ustep;rw[if_neg (fun h=>hyk h.2),if_pos hxk,if_neg hi]
    obtain⟨rfl,rfl⟩:=hout hi
    simp -dsimp -implicitDefEqProofs only[go_sem,seval,↓reduceIte,Tm.av,hxk',hyk',hcall,hsb,hmi,hpan,zaj,zav,hlen,hg0,hg1,zaE,zaT,zaz,List.append_assoc,zah,zae,zai,zaf,Nat.add_assoc,List.length_append]
    unfold zeJ
    rw[hu]
    exact⟨rfl,by rw[hif];exact htk _ _⟩
 ·have hxk':=eq_false hxk
  by_cases hyk:y.kind=0
  ·have hy2:=hy.2 hyk
   have hyk':=eq_true hyk
   obtain⟨res,hp',hcall,hin,hout⟩:=znk l hO hl y.n x hx.1 (hp++[.box (some 4) (.pv (some 4) x.pv),.box (some 4) (.pv (some 4) y.pv)]) q r (by simp;omega) (by simp;omega) hn
   rw[zce hq hr] at hcall hin
   rw[zce hq hr] at hout
   simp only[Tm.av] at hcall
   by_cases hi:inR l y.n x
   ·have hu:ustep l x y=.err 9:=by unfold ustep;rw[if_neg (fun h=>hxk h.1),if_neg hxk,if_pos hyk,if_pos hi]
    obtain⟨rfl,rfl⟩:=hin hi
    simp -dsimp -implicitDefEqProofs only[go_sem,seval,↓reduceIte,Tm.av,hxk',hyk',hcall,hsb,hmi,hpan,zaj,zav,hlen,hg0,hg1,zaE,zaT,zaz,List.append_assoc,zah,zae,zai,zaf,Nat.add_assoc,List.length_append]
    unfold zeJ
    rw[hu]
    exact⟨rfl,htk _ _⟩
   ·have hu:ustep l x y=.bind y.n x:=by unfold ustep;rw[if_neg (fun h=>hxk h.1),if_neg hxk,if_pos hyk,if_neg hi]
    obtain⟨rfl,rfl⟩:=hout hi
    simp -dsimp -implicitDefEqProofs only[go_sem,seval,↓reduceIte,Tm.av,hxk',hyk',hcall,hsb,hmi,hpan,zaj,zav,hlen,hg0,hg1,zaE,zaT,zaz,List.append_assoc,zah,zae,zai,zaf,Nat.add_assoc,List.length_append]
    unfold zeJ
    rw[hu]
    exact⟨rfl,by rw[hif];exact htk _ _⟩
  ·have hyk':=eq_false hyk
   by_cases hm:x.kind=y.kind/\x.n=y.n/\x.name=y.name/\x.args.length=y.args.length
   ·have hu:ustep l x y=.args (x.args.zip y.args):=by unfold ustep;rw[if_neg (fun h=>hxk h.1),if_neg hxk,if_neg hyk,if_pos hm]
    obtain⟨m1,m2,m3,m4⟩:=hm
    have m1':=eq_true m1
    have m2':=eq_true m2
    have m3':=eq_true m3
    have m4':=eq_true (show(x.args.length:Int)=(y.args.length:Int) by omega)
    simp -dsimp -implicitDefEqProofs only[go_sem,seval,↓reduceIte,Tm.av,hxk',hyk',m1',m2',m3',m4',zat,zad,Tm.pvs_len,hsb,hmi,hpan,zaj,zav,hlen,hg0,hg1,zaE,zaT,zaz,List.append_assoc,zah,zae,zai,zaf,Nat.add_assoc,List.length_append]
    unfold zeJ
    rw[hu]
    exact⟨by rw[hif];exact htk _ _,.inr ⟨rfl,rfl,m4⟩⟩
   ·have hu:ustep l x y=.err 4:=by unfold ustep;rw[if_neg (fun h=>hxk h.1),if_neg hxk,if_neg hyk,if_neg hm]
    by_cases m1:x.kind=y.kind
    ·by_cases m2:x.n=y.n
     ·by_cases m3:x.name=y.name
      ·have m4:¬x.args.length=y.args.length:=fun e=>hm ⟨m1,m2,m3,e⟩
       have m4:¬(x.args.length:Int)=(y.args.length:Int):=by omega
       have m1':=eq_true m1
       have m2':=eq_true m2
       have m3':=eq_true m3
       simp -dsimp -implicitDefEqProofs only[go_sem,seval,↓reduceIte,Tm.av,hxk',hyk',m1',m2',m3',m4,zat,zad,Tm.pvs_len,hsb,hmi,hpan,zaj,zav,hlen,hg0,hg1,zaE,zaT,zaz,List.append_assoc,zah,zae,zai,zaf,Nat.add_assoc,List.length_append]
       unfold zeJ
       rw[hu]
       exact⟨rfl,htk _ _⟩
      ·have m1':=eq_true m1
       have m2':=eq_true m2
       simp -dsimp -implicitDefEqProofs only[go_sem,seval,↓reduceIte,Tm.av,hxk',hyk',m1',m2',m3,zat,zad,Tm.pvs_len,hsb,hmi,hpan,zaj,zav,hlen,hg0,hg1,zaE,zaT,zaz,List.append_assoc,zah,zae,zai,zaf,Nat.add_assoc,List.length_append]
       unfold zeJ
       rw[hu]
       exact⟨rfl,htk _ _⟩
     ·have m1':=eq_true m1
      simp -dsimp -implicitDefEqProofs only[go_sem,seval,↓reduceIte,Tm.av,hxk',hyk',m1',m2,zat,zad,Tm.pvs_len,hsb,hmi,hpan,zaj,zav,hlen,hg0,hg1,zaE,zaT,zaz,List.append_assoc,zah,zae,zai,zaf,Nat.add_assoc,List.length_append]
      unfold zeJ
      rw[hu]
      exact⟨rfl,htk _ _⟩
    ·simp -dsimp -implicitDefEqProofs only[go_sem,seval,↓reduceIte,Tm.av,hxk',hyk',m1,zat,zad,Tm.pvs_len,hsb,hmi,hpan,zaj,zav,hlen,hg0,hg1,zaE,zaT,zaz,List.append_assoc,zah,zae,zai,zaf,Nat.add_assoc,List.length_append]
     unfold zeJ
     rw[hu]
     exact⟨rfl,htk _ _⟩
inductive Vis(l:List B)(w:Int):Tm->Prop
 |to:fndB l w=true->Vis l w (toB l w)
 |arg {x u:Tm}:Vis l w x->¬x.kind=0->u∈x.args->Vis l w u
 |jump {x:Tm}:Vis l w x->x.kind=0->fndB l x.n=true->Vis l w (toB l x.n)
theorem Vis.lt{l:List B}(hA:Acyc l){w:Int}{x:Tm}(h:Vis l w x):mu l x<mu l (tvar w):=by
 induction h with
 |to hf=>exact zes (t:=tvar w) hA rfl hf
 |arg _ hk hu ih=>have:=zfs l hk hu;omega
 |jump _ hk hf ih=>have:=zes hA hk hf;omega
theorem Vis.ins{l:List B}(hG:Good l){v:Int}{t:Tm}(hf:fndB l v=false){w:Int}{x:Tm}(h:Vis l w x):Vis (insB l v t) w x:=by
 induction h with
 |to h1=>
  have:=Vis.to (l:=insB l v t) (w:=w) ((zjv hG hf w).2 (.inr h1))
  rw[zhG hG hf h1] at this
  exact this
 |arg _ hk hu ih=>exact ih.arg hk hu
 |jump _ hk h1 ih=>
  have:=ih.jump hk ((zjv hG hf _).2 (.inr h1))
  rw[zhG hG hf h1] at this
  exact this
theorem Vis.flw{l:List B}(hO:OKB l){w:Int}:∀(k:Nat) (u:Tm),mu l u=k->u.valid=true->Vis l w u->Vis l w (flw l u):=by
 intro k
 induction k using Nat.strongRecOn with
 |_ k ih=>
  intro u hk hv h
  by_cases hk0:u.kind=0
  ·by_cases hf:fndB l u.n=true
   ·rw[zhF hO.Acyc hk0 hf]
    have:=zes hO.Acyc hk0 hf
    exact ih _ (by omega) _ rfl (hO.to hf).1 (h.jump hk0 hf)
   ·rw[zdA hO.Acyc (valid_fits hv) hk0 hf];exact h
  ·rw[zd4 l hk0];exact h
def PosI(l:List B)(u:Tm)(i:Nat):Prop:=∃D:List Int,D.Nodup/\(∀w∈D,fndB l w=true/\Vis l w u)/\i+u.size<=2000*(D.length+1)
def StkI(l:List B):List (Tm × Tm)->Prop
 |[]=>True
 |p::r=>PosI l p.1 r.length/\StkI l r
theorem PosI.ins{l:List B}(hG:Good l){v:Int}{t:Tm}(hf:fndB l v=false){u:Tm}{i:Nat}(h:PosI l u i):PosI (insB l v t) u i:=by
 obtain⟨D,h1,h2,h3⟩:=h
 exact⟨D,h1,fun w hw=>⟨(zjv hG hf w).2 (.inr (h2 w hw).1),(h2 w hw).2.ins hG hf⟩,h3⟩
theorem StkI.ins{l:List B}(hG:Good l){v:Int}{t:Tm}(hf:fndB l v=false):∀{r:List (Tm × Tm)},StkI l r->StkI (insB l v t) r
 |[],_=>trivial
 |_::_,h=>⟨h.1.ins hG hf,StkI.ins hG hf h.2⟩
theorem StkI.len{l:List B}{r:List (Tm × Tm)}(h:StkI l r):r.length<=2000*(l.length+1):=by
 cases r with
 |nil=>exact Nat.zero_le _
 |cons p r=>
  obtain⟨D,h1,h2,h3⟩:=h.1
  have:=zrG h1 fun w hw=>(h2 w hw).1
  have h4:=p.1.size_eq
  simp only[List.length_cons]
  omega
theorem zjt{l:List B}{D:List Int}(h1:D.Nodup):∀(us vs:List Tm) (r:List (Tm × Tm)),us.length=vs.length->(∀u∈us,∀w∈D,fndB l w=true/\Vis l w u)->r.length+Tm.sizes us<=2000*(D.length+1)->StkI l r->StkI l (us.zip vs++r)
 |[],_,r,_,_,_,hr=>hr
 |u::us,[],r,hl,_,_,_=>by cases hl
 |u::us,v::vs,r,hl,hD,hs,hr=>by
  have hl':us.length=vs.length:=by simpa using hl
  have hs':r.length+(u.size+Tm.sizes us)<=2000*(D.length+1):=hs
  have hz:=Tm.zwT us
  refine⟨⟨D,h1,hD u List.mem_cons_self,?_⟩,zjt h1 us vs r hl' (fun x hx=>hD x (List.mem_cons_of_mem _ hx)) (by omega) hr⟩
  show(us.zip vs++r).length+u.size<=_
  rw[List.length_append,List.length_zip]
  omega
theorem StkI.push{l:List B}(hO:OKB l){p:Tm × Tm}{r:List (Tm × Tm)}(hp:p.1.valid=true)(h:StkI l (p::r))(vs:List Tm)(hk:¬(Go.Proofs.YtffecaafklpmhaaGreat.flw l p.1).kind=0)(hl:(Go.Proofs.YtffecaafklpmhaaGreat.flw l p.1).args.length=vs.length):StkI l ((Go.Proofs.YtffecaafklpmhaaGreat.flw l p.1).args.zip vs++r):=by
 obtain⟨⟨D,h1,h2,h3⟩,hr⟩:=h
 have hx:=zbv hO hp
 have hxs:=valid_size hx.1
 have hxe:=(Go.Proofs.YtffecaafklpmhaaGreat.flw l p.1).size_eq
 by_cases hk0:p.1.kind=0
 ·have hps:p.1.size=1:=by rw[za1 (valid_fits hp) hk0];rfl
  have hf:fndB l p.1.n=true:=by
   cases e:fndB l p.1.n with
   |true=>rfl
   |false=>exact absurd (by rw[zdA hO.Acyc (valid_fits hp) hk0 (by simp[e])];exact hk0) hk
  have hv:Vis l p.1.n (Go.Proofs.YtffecaafklpmhaaGreat.flw l p.1):=by
   rw[zhF hO.Acyc hk0 hf]
   exact Vis.flw hO _ _ rfl (hO.to hf).1 (.to hf)
  have hnm:p.1.n ∉ D:=fun hm=>by
   have:=(h2 _ hm).2.lt hO.Acyc
   rw[ztp (valid_fits hp) hk0] at this
   omega
  refine zjt (D:=p.1.n::D) (List.nodup_cons.2 ⟨hnm,h1⟩) _ vs r hl (fun u hu w hw=> ?_) (by simp only[List.length_cons];omega) hr
  rcases List.mem_cons.1 hw with rfl|hw
  ·exact⟨hf,hv.arg hk hu⟩
  ·exact⟨(h2 w hw).1,(Vis.flw hO _ _ rfl hp (h2 w hw).2).arg hk hu⟩
 ·rw[zd4 l hk0] at hxe hk hl ⊢
  exact zjt h1 _ vs r hl (fun u hu w hw=>⟨(h2 w hw).1,(h2 w hw).2.arg hk0 hu⟩) (by omega) hr
theorem zu8{hp:Heap}{r len:Nat}{es:List PV}{x:PV}(h:hp[r]? =some (.arr (some 8) es false))(hlen:len<=es.length)(hlim:len+1<=lim):
  ∃es',za8 (some 8) hp [.sl (some 8) r es.length 0 len,.tsl (some 8) [x]]=some (.sl (some 8) r es'.length 0 (len+1),hp.set r (.arr (some 8) es' false))/\es'.take (len+1)=es.take len++[x]/\len+1<=es'.length/\∀y∈es',y∈es\/y=x:=by
 by_cases h1:len=es.length
 ·subst h1
  refine⟨es++[x],by simp[za8,aappend,elems,h,hlim],by rw[List.take_of_length_le (by simp)];simp,by simp,fun y hy=>by simpa using hy⟩
 ·have h2:len+1<=es.length:=by omega
  refine⟨es.take len++[x]++es.drop (len+1),?_,?_,?_,fun y hy=> ?_⟩
  ·have e:(es.take len++[x]++es.drop (len+1)).length=es.length:=by simp;omega
   rw[e]
   simp[za8,aappend,elems,h,hlim,h1,h2]
  ·rw[List.take_append_of_le_length (by simp;omega),List.take_of_length_le (by simp;omega)]
  ·simp;omega
  ·rcases List.mem_append.1 hy with hy|hy
   ·rcases List.mem_append.1 hy with hy|hy
    ·exact .inl (List.mem_of_mem_take hy)
    ·exact .inr (List.mem_singleton.1 hy)
   ·exact .inl (List.mem_of_mem_drop hy)
def Bq(hp:Heap):Prop:=∀x∈hp,AObj.beq x x=true
theorem Bq.same:∀{hp:Heap},Bq hp->zbS hp hp=true
 |[],_=>rfl
 |x::r,h=>by
  show(AObj.beq x x && zbS r r)=true
  rw[h x List.mem_cons_self,Bq.same (hp:=r) fun y hy=>h y (List.mem_cons_of_mem _ hy)]
  rfl
theorem Bq.app{a b:Heap}(h1:Bq a)(h2:Bq b):Bq (a++b):=fun x hx=>(List.mem_append.1 hx).elim (h1 x) (h2 x)
theorem Bq.cons{x:AObj}{b:Heap}(h1:AObj.beq x x=true)(h2:Bq b):Bq (x::b):=fun y hy=>(List.mem_cons.1 hy).elim (fun e=>e▸h1) (h2 y)
theorem Bq.nil:Bq []:=fun _ h=>by cases h
theorem Bq.set{hp:Heap}(h:Bq hp)(i:Nat){x:AObj}(hx:AObj.beq x x=true):Bq (hp.set i x):=fun y hy=>by
 rcases List.mem_or_eq_of_mem_set hy with h1|rfl
 ·exact h y h1
 ·exact hx
theorem ztq(t:Tm):AObj.beq (.box (some 4) (.pv (some 4) t.pv)) (.box (some 4) (.pv (some 4) t.pv))=true:=by simp[AObj.beq,AV.beq,zgC]
theorem znl{es:List PV}(h:∀x∈es,PV.beq x x=true):PV.beqs es es=true:=by
 induction es with
 |nil=>rfl
 |cons x r ih=>
  show(PV.beq x x && PV.beqs r r)=true
  rw[h x List.mem_cons_self,ih fun y hy=>h y (List.mem_cons_of_mem _ hy)]
  rfl
theorem zrx(b:B):PV.beq (bdp b) (bdp b)=true:=by simp[bdp,PV.beq,PV.beqc,zgC]
theorem zry(l:List B)(z:Bool):AObj.beq (.arr (some 5) (bds l) z) (.arr (some 5) (bds l) z)=true:=by
 have:PV.beqs (bds l) (bds l)=true:=znl fun x hx=>by
  obtain⟨b,_,rfl⟩:=List.mem_map.1 hx
  exact zrx b
 simp[AObj.beq,this]
theorem zrz{v:AV}{hp:Heap}{K:AV->Heap->Prop}(h:zbS hp hp=true):zsO (some (.ret v,hp)) hp K=K v hp:=by
 simp[zsO,h]
theorem zkU{Γ:Oracle}{b:Nat}{s:Sh}{f:FuncId}{vs:List AV}{v:AV}{hp:Heap}{K:AV->Heap->Prop}{Kp:PV->Heap->Prop}(hc:Γ .fn f vs hp=some (.ret v,hp))(h:zbS hp hp=true):opK (aOp Γ b .callg (.pv s (.func (.func f))::vs) hp) K Kp=K v hp:=by
 have h2:zbS (hp.take hp.length) hp=true:=by rw[List.take_length];exact h
 simp[aOp,zgJ,zc7,zbe,hc,h]
 rfl
theorem zrA(l:List B)(hG:Good l)(hl:l.length<90000000)(hp:Heap)(hb:Bq hp):
  S 121 [.pv none (.sl (some 5) (bds l))] hp=some (.ret (.sl (some 5) (hp.length+1) l.length 0 l.length),hp++[.arr (some 5) [] false,.arr (some 5) (bds l) false]):=by
 refine zaO rfl rfl rfl rfl ?_
 have hn0:∀H:Heap,zbD (some 5) H=some (.sl (some 5) H.length 0 0 0,H++[.arr (some 5) [] false]):=fun H=>zbH (sh:=some 5) (by decide)
 simp -dsimp -implicitDefEqProofs only[go_sem,seval,↓reduceIte,hn0,zau,List.append_assoc,zah,zae,zai,zaf,Nat.add_assoc,List.length_append]
 refine zbQ (α:=Unit) l.length (fun i _=>True) (fun i _=>⟨[(3,.sl (some 5) (hp.length+1) i 0 i),(6,.pv none (.sl (some 5) (bds l))),(7,.pv none (.int .i64 l.length)),(8,.pv none (.int .i64 i))],hp++[.arr (some 5) [] false,.arr (some 5) (bds (l.take i)) false]⟩) () ⟨trivial,rfl⟩ ?_ ?_
 ·rintro i - h -
  have hc:(i:Int)<(l.length:Int):=by omega
  obtain⟨b,hbb⟩:∃b,l[i]? =some b:=⟨_,List.getElem?_eq_getElem h⟩
  have hbv:=hG.2 b (List.mem_of_getElem? hbb)
  have w2:IntKind.i64.wrap ((i:Int)+1)=((i+1:Nat):Int):=by rw[zan (by omega) (by omega)];omega
  have hlim:i+1<=lim:=by unfold lim;omega
  have htl:(bds (l.take i)).length=i:=by rw[zau,List.length_take];omega
  have hcl:=fun hp=>zfl b.2 hp hbv.1 hbv.2
  simp only[Tm.av] at hcl
  have hbd:zaY [(none,.pv none (.int .i64 0)),(some 4,.agg [(none,.pv none (.int .i64 0)),(none,.pv none (.int .i64 0)),(none,.pv none (.str [])),(none,.tsl (some 4) [])])] [0,1] [.pv none (.int .i64 b.1),.pv (some 4) b.2.pv]=some (.pv (some 5) (bdp (b.1,b.2))):=rfl
  have hsh:zbS (hp++[.arr (some 5) [] false,.arr (some 5) (bds (l.take i)) false,.box (some 5) (.pv (some 5) (bdp b))]) (hp++[.arr (some 5) [] false,.arr (some 5) (bds (l.take i)) false,.box (some 5) (.pv (some 5) (bdp b))])=true:=
   (hb.app (Bq.cons (zry [] false) (Bq.cons (zry _ _) (Bq.cons (by simp[AObj.beq,AV.beq,zrx]) Bq.nil)))).same
  have happ:za8 (some 5) (hp++[.arr (some 5) [] false,.arr (some 5) (bds (l.take i)) false,.box (some 5) (.pv (some 5) (bdp b))]) [.sl (some 5) (hp.length+1) i 0 i,.tsl (some 5) [bdp (b.1,b.2)]]=some (.sl (some 5) (hp.length+1) (i+1) 0 (i+1),hp++[.arr (some 5) [] false,.arr (some 5) (bds (l.take (i+1))) false,.box (some 5) (.pv (some 5) (bdp b))]):=by
   have e:bds (l.take (i+1))=bds (l.take i)++[bdp (b.1,b.2)]:=by rw[zdf hbb];simp[bds]
   rw[zdT (by rw[getN rfl];exact⟨rfl,htl⟩) (by simpa using hlim),e]
   simp
   rfl
  simp -dsimp -implicitDefEqProofs only[go_sem,seval,↓reduceIte,hc,zab (zaH hbb),zaP,zbO,w2,hbd,hcl,zrz hsh,happ,List.append_assoc,zah,zae,zai,zaf,Nat.add_assoc,List.length_append]
  refine⟨(),?_⟩
  rw[zaQ 2 rfl rfl (by simp[AObj.refs]) (by simp[AV.refsIn])]
  rfl
 ·rintro - -
  have hc:¬(l.length:Int)<(l.length:Int):=by omega
  simp -dsimp -implicitDefEqProofs only[go_sem,seval,↓reduceIte,hc,List.append_assoc,zah,zae,zai,zaf,Nat.add_assoc,List.length_append]
  rw[if_neg (by simp[AV.refsIn]),List.take_length]
def prP(p:Tm × Tm):PV:=.agg [(some 4,p.1.pv),(some 4,p.2.pv)]
def prs(r:List (Tm × Tm)):List PV:=r.map prP
theorem zmh(p:Tm × Tm):PV.beq (prP p) (prP p)=true:=by simp[prP,PV.beq,PV.beqc,zgC]
theorem zjn(p:Tm × Tm):PV.part deep (prP p) 0 (some 4)=some p.1.pv:=rfl
theorem zjo(p:Tm × Tm):PV.part deep (prP p) 4 (some 4)=some p.2.pv:=rfl
theorem zuZ{es:List PV}(h:∀x∈es,PV.beq x x=true):AObj.beq (.arr (some 8) es false) (.arr (some 8) es false)=true:=by
 simp[AObj.beq,znl h]
theorem zwK{hp:Heap}(hb:Bq hp)(q r:Nat)(l:List B):Bq (US hp q r l):=by
 unfold US
 exact(hb.set q (by simp[AObj.beq,AV.beq,AV.beqc])).set r (zry l false)
def InV(V:List Int)(t:Tm):Prop:=∀w∈t.occ,w∈V
def InVB(V:List Int)(l:List B):Prop:=∀b∈l,b.1∈V/\InV V b.2
theorem InV.arg{V:List Int}{t u:Tm}(h:InV V t)(hk:¬t.kind=0)(hu:u∈t.args):InV V u:=fun w hw=>h w (Tm.zxc hk hu hw)
theorem InV.var{V:List Int}{t:Tm}(h:InV V t)(hk:t.kind=0):t.n∈V:=h _ (by rw[Tm.zw1,if_pos hk];simp)
theorem InV.flw{V:List Int}{l:List B}(hO:OKB l)(hb:InVB V l):∀(k:Nat) (u:Tm),mu l u=k->u.valid=true->InV V u->InV V (flw l u):=by
 intro k
 induction k using Nat.strongRecOn with
 |_ k ih=>
  intro u hk hv h
  by_cases hk0:u.kind=0
  ·by_cases hf:fndB l u.n=true
   ·rw[zhF hO.Acyc hk0 hf]
    have:=zes hO.Acyc hk0 hf
    exact ih _ (by omega) _ rfl (hO.to hf).1 (hb _ (find_mem hf)).2
   ·rw[zdA hO.Acyc (valid_fits hv) hk0 hf];exact h
  ·rw[zd4 l hk0];exact h
theorem InVB.len{V:List Int}{l:List B}(hG:Good l)(hb:InVB V l):l.length<=V.length:=by
 have h1:(l.map (·.1)).Nodup:=by
  refine List.pairwise_map.2 (hG.1.imp fun{a b} h=> ?_)
  omega
 have h2:=zhA (l.map (·.1)) V h1 fun x hx=>by
  obtain⟨b,hb1,rfl⟩:=List.mem_map.1 hx
  exact(hb b hb1).1
 rwa [List.length_map] at h2
theorem zhv{V:List Int}{l:List B}{x y:Tm}(hx:InV V x)(hy:InV V y){v:Int}{t:Tm}(h:ustep l x y=.bind v t):v∈V/\InV V t:=by
 unfold ustep at h
 split at h
 ·rename_i hk
  split at h
  ·cases h;exact⟨hx.var hk.1,hy⟩
  ·split at h
   ·cases h;exact⟨hy.var hk.2,hx⟩
   ·cases h
 ·split at h
  ·rename_i hk
   split at h
   ·cases h
   ·cases h;exact⟨hx.var hk,hy⟩
  ·split at h
   ·rename_i hk
    split at h
    ·cases h
    ·cases h;exact⟨hy.var hk,hx⟩
   ·split at h <;> cases h
theorem zhw{V:List Int}{l:List B}{x y:Tm}(hx:InV V x)(hy:InV V y){xs:List (Tm × Tm)}(h:ustep l x y=.args xs):∀p∈xs,InV V p.1/\InV V p.2:=by
 unfold ustep at h
 split at h
 ·split at h
  ·cases h
  ·split at h
   ·cases h
   ·cases h;exact fun p hp=>by cases hp
 ·split at h
  ·split at h <;> cases h
  ·split at h
   ·split at h <;> cases h
   ·split at h
    ·rename_i hk1 hk2 _
     cases h
     exact fun p hp=>⟨hx.arg hk1 (List.of_mem_zip hp).1,hy.arg hk2 (List.of_mem_zip hp).2⟩
    ·cases h
structure RunI(V:List Int)(l0:List B)(p0:Tm × Tm)(n:Nat)(l:List B)(r:List (Tm × Tm)):Prop where
 okb:OKB l
 val:∀p∈r,p.1.valid=true/\p.2.valid=true
 eq:uni 1048576 l0 [p0]=uni n l r
 le:n<=1048576
 stk:StkI l r
 vb:InVB V l
 vp:∀p∈r,InV V p.1/\InV V p.2
theorem RunI.lim{V:List Int}{l0:List B}{p0:Tm × Tm}{n:Nat}{l:List B}{r:List (Tm × Tm)}(h:RunI V l0 p0 n l r)(h0:V.length<=500000):r.length+1<=Am.lim:=by
 have h1:=h.stk.len
 have h2:=InVB.len h.okb.good h.vb
 unfold Am.lim
 omega
theorem RunI.short{V:List Int}{l0:List B}{p0:Tm × Tm}{n:Nat}{l:List B}{r:List (Tm × Tm)}(h:RunI V l0 p0 n l r)(h0:V.length<=500000):l.length<80000000:=by
 have h2:=InVB.len h.okb.good h.vb
 omega
theorem RunI.flw{V:List Int}{l0:List B}{p0:Tm × Tm}{n:Nat}{l:List B}{p:Tm × Tm}{r:List (Tm × Tm)}(h:RunI V l0 p0 n l (p::r)):InV V (flw l p.1)/\InV V (flw l p.2):=
 have hv:=h.val p List.mem_cons_self
 have hi:=h.vp p List.mem_cons_self
 ⟨InV.flw h.okb h.vb _ _ rfl hv.1 hi.1,InV.flw h.okb h.vb _ _ rfl hv.2 hi.2⟩
theorem RunI.bind{V:List Int}{l0:List B}{p0:Tm × Tm}{n:Nat}{l:List B}{p:Tm × Tm}{r:List (Tm × Tm)}(h:RunI V l0 p0 (n+1) l (p::r)){v:Int}{t:Tm}(hu:ustep l (Go.Proofs.YtffecaafklpmhaaGreat.flw l p.1) (Go.Proofs.YtffecaafklpmhaaGreat.flw l p.2)=.bind v t):RunI V l0 p0 n (insB l v t) r:=by
 have hbv:=zhv h.flw.1 h.flw.2 hu
 obtain⟨hO,hv,he,hle,hs,hvb,hvp⟩:=h
 have hp:=hv p List.mem_cons_self
 have hb:=zdg hO (zbv hO hp.1) (zbv hO hp.2) hu
 refine⟨zhH hO hb.unb hb.rng hb.val hb.out,fun q hq=>hv q (List.mem_cons_of_mem _ hq),by rw[he,zeq r hu],by omega,StkI.ins hO.good hb.unb hs.2,fun b hb=> ?_,fun q hq=>hvp q (List.mem_cons_of_mem _ hq)⟩
 rcases zdy hb with rfl|h
 ·exact hbv
 ·exact hvb b h
theorem RunI.none{V:List Int}{l0:List B}{p0:Tm × Tm}{n:Nat}{l:List B}{p:Tm × Tm}{r:List (Tm × Tm)}(h:RunI V l0 p0 (n+1) l (p::r))(hu:ustep l (Go.Proofs.YtffecaafklpmhaaGreat.flw l p.1) (Go.Proofs.YtffecaafklpmhaaGreat.flw l p.2)=.args []):RunI V l0 p0 n l r:=by
 obtain⟨hO,hv,he,hle,hs,hvb,hvp⟩:=h
 exact⟨hO,fun q hq=>hv q (List.mem_cons_of_mem _ hq),by rw[he,zcj r hu];rfl,by omega,hs.2,hvb,fun q hq=>hvp q (List.mem_cons_of_mem _ hq)⟩
theorem RunI.args{V:List Int}{l0:List B}{p0:Tm × Tm}{n:Nat}{l:List B}{p:Tm × Tm}{r:List (Tm × Tm)}(h:RunI V l0 p0 (n+1) l (p::r))(hk:¬(Go.Proofs.YtffecaafklpmhaaGreat.flw l p.1).kind=0)(hl:(Go.Proofs.YtffecaafklpmhaaGreat.flw l p.1).args.length=(Go.Proofs.YtffecaafklpmhaaGreat.flw l p.2).args.length)(hu:ustep l (Go.Proofs.YtffecaafklpmhaaGreat.flw l p.1) (Go.Proofs.YtffecaafklpmhaaGreat.flw l p.2)=.args ((Go.Proofs.YtffecaafklpmhaaGreat.flw l p.1).args.zip (Go.Proofs.YtffecaafklpmhaaGreat.flw l p.2).args)):RunI V l0 p0 n l ((Go.Proofs.YtffecaafklpmhaaGreat.flw l p.1).args.zip (Go.Proofs.YtffecaafklpmhaaGreat.flw l p.2).args++r):=by
 have hav:=zhw h.flw.1 h.flw.2 hu
 obtain⟨hO,hv,he,hle,hs,hvb,hvp⟩:=h
 have hp:=hv p List.mem_cons_self
 have ha:=zfZ (zbv hO hp.1) (zbv hO hp.2) hu
 exact⟨hO,fun q hq=>(List.mem_append.1 hq).elim (ha.1 q) fun hq=>hv q (List.mem_cons_of_mem _ hq),by rw[he,zcj r hu],by omega,hs.push hO hp.1 _ hk hl,hvb,fun q hq=>(List.mem_append.1 hq).elim (hav q) fun hq=>hvp q (List.mem_cons_of_mem _ hq)⟩
def RunP(hp:Heap)(q r:Nat)(R:List B × Int)(res:ARes)(hp':Heap):Prop:=
 (∃l',R=(l',0)/\res=.ret (.tuple [])/\hp'=US hp q r l')\/∃e l',R=([],e)/\res=.panic (zoS e)/\hp'=US hp q r l'
theorem zu0(V:List Int)(l0:List B)(a b:Tm)(hO:OKB l0)(hl:V.length<=500000)(hVb:InVB V l0)(hVa:InV V a)(hVc:InV V b)(ha:a.valid=true)(hb:b.valid=true)(hp:Heap)(hbq:Bq hp)(q r:Nat)(hq:q<hp.length)(hr:r<hp.length)(hn:q≠r):
  ∃res hp',S 122 [.ptr q 0,a.av,b.av] (US hp q r l0)=some (res,hp')/\RunP hp q r (uni 1048576 l0 [(a,b)]) res hp':=by
 have hlen:=fun l=>zfq hp q r l
 have hg0:∀(l:List B) (e:Heap),(US hp q r l++e)[hp.length]? =e[0]? :=fun l e=>zct (hlen l)
 have hg1:∀(l:List B) (e:Heap) (j:Nat),(US hp q r l++e)[hp.length+j]? =e[j]? :=fun l e j=>getN (hlen l) j
 have hs1:∀(l:List B) (Y:AObj) (e:Heap) (j:Nat),(US hp q r l++e).set (hp.length+j) Y=US hp q r l++e.set j Y:=fun l Y e j=>setN (hlen l) j Y
 have hld:=fun l e=>zuX (r:=r) hq hn l e
 have hsb:∀x:Int,zaY [(none,.pv none (.int .i64 0))] [0] [.pv none (.int .i64 x)]=some (.pv (some 1) (.agg [(none,.int .i64 x)])):=fun _=>rfl
 have hmi:∀(s:Sh) (p:PV),zcA 100 [.pv s p]=some (.pv none (.iface 100 s p)):=fun _ _=>rfl
 have hpan:∀A:Prop,panK true A=A:=fun _=>rfl
 have htk:∀(l:List B) (e:Heap),List.take hp.length (US hp q r l++e)=US hp q r l:=fun l e=>List.take_left' (hlen l)
 refine zd2 (RunP hp q r (uni 1048576 l0 [(a,b)])) rfl rfl rfl rfl ?_
 have hbp:∀u w:Tm,zaY [(some 4,.agg [(none,.pv none (.int .i64 0)),(none,.pv none (.int .i64 0)),(none,.pv none (.str [])),(none,.tsl (some 4) [])]),(some 4,.agg [(none,.pv none (.int .i64 0)),(none,.pv none (.int .i64 0)),(none,.pv none (.str [])),(none,.tsl (some 4) [])])] [0,1] [.pv (some 4) u.pv,.pv (some 4) w.pv]=some (.pv (some 8) (prP (u,w))):=fun _ _=>rfl
 have hbs:∀(e:Heap),zjz (some 8) (US hp q r l0++e) [.pv (some 8) (prP (a,b))]=some (.sl (some 8) (US hp q r l0++e).length 1 0 1,US hp q r l0++e++[.arr (some 8) [prP (a,b)] false]):=fun e=>by
  simp[zjz,zap,AV.freeze,deep,AV.shp,zbg,Sh.size]
 simp -dsimp -implicitDefEqProofs only[go_sem,seval,↓reduceIte,Tm.av,hbp,hbs,hsb,hmi,hpan,hlen,hg0,hg1,hs1,hld,zal,zaE,zaT,zaz,List.append_assoc,zah,zae,zai,zaf,Nat.add_assoc,List.length_append]
 refine za0 (fun n st=>∃(l:List B) (rs:List (Tm × Tm)) (es:List PV),RunI V l0 (a,b) n l rs/\es.take rs.length=prs rs.reverse/\rs.length<=es.length/\(∀x∈es,PV.beq x x=true)/\
  st=⟨[(0,.ptr q 0),(6,.sl (some 8) (hp.length+2) es.length 0 rs.length),(7,.pv none (.int .i64 (1048576 - (n:Int))))],US hp q r l++[.box (some 4) (.pv (some 4) a.pv),.box (some 4) (.pv (some 4) b.pv),.arr (some 8) es false]⟩) (n:=1048576) ?_ ?_
 ·refine⟨l0,[(a,b)],[prP (a,b)],⟨hO,fun p hp=> ?_,rfl,Nat.le_refl _,⟨⟨[],List.nodup_nil,(fun w hw=>by cases hw),?_⟩,trivial⟩,?_,fun p hp=> ?_⟩,rfl,Nat.le_refl _,fun x hx=> ?_,?_⟩
  ·rw[List.mem_singleton] at hp
   rw[hp];exact⟨ha,hb⟩
  ·have:=valid_size ha
   show 0+a.size<=2000*(0+1)
   omega
  ·exact hVb
  ·rw[List.mem_singleton] at hp
   rw[hp];exact⟨hVa,hVc⟩
  ·rw[List.mem_singleton] at hx
   rw[hx];exact zmh _
  ·rfl
 ·rintro n st ⟨l,rs,es,hI,ht,hle,hbe,rfl⟩
  cases rs with
  |nil=>
   have hc:¬(0:Int)<((0:Nat):Int):=by omega
   simp -dsimp -implicitDefEqProofs only[go_sem,seval,↓reduceIte,hc,hsb,hmi,hpan,hlen,hg0,hg1,hs1,hld,zal,zaE,zaT,zaz,List.append_assoc,zah,zae,zai,zaf,Nat.add_assoc,List.length_append]
   have he:=hI.eq
   rw[zfY] at he
   refine .inl ⟨l,he,rfl,?_⟩
   exact htk _ _
  |cons p rs=>
  have hc:(0:Int)<((rs.length+1:Nat):Int):=by omega
  have hpv:=hI.val p List.mem_cons_self
  have hn1:=hI.le
  cases n with
  |zero=>
   have hc2:=eq_true (show(1048576:Int) - ((0:Nat):Int)=1048576 by omega)
   simp -dsimp -implicitDefEqProofs only[go_sem,seval,↓reduceIte,hc,hc2,hsb,hmi,hpan,hlen,hg0,hg1,hs1,hld,zal,zaE,zaT,zaz,List.append_assoc,zah,zae,zai,zaf,Nat.add_assoc,List.length_append]
   have he:=hI.eq
   rw[zgE] at he
   exact .inr ⟨2,l,he,rfl,htk _ _⟩
  |succ n=>
  have hc2:¬(1048576:Int) - ((n+1:Nat):Int)=1048576:=by omega
  have hlim:=hI.lim hl
  simp only[List.length_cons] at hlim
  have hlim2:rs.length+2<=1073741824:=by unfold Am.lim at hlim;omega
  have w1:IntKind.i64.wrap (((rs.length+1:Nat):Int) - 1)=(rs.length:Int):=by rw[zan (by omega) (by omega)];omega
  have w2:IntKind.i64.wrap (1048576 - ((n+1:Nat):Int)+1)=1048576 - (n:Int):=by rw[zan (by omega) (by omega)];omega
  have htop:es[rs.length]? =some (prP p):=by
   have h1:(es.take (rs.length+1))[rs.length]? =es[rs.length]? :=by rw[List.getElem?_take,if_pos (by omega)]
   rw[<-h1]
   rw[List.length_cons] at ht
   rw[ht]
   simp[prs]
  have ht2:es.take rs.length=prs rs.reverse:=by
   have h1:es.take rs.length=(es.take (rs.length+1)).take rs.length:=by rw[List.take_take,Nat.min_eq_left (Nat.le_succ _)]
   rw[h1]
   rw[List.length_cons] at ht
   rw[ht]
   simp[prs]
  have hle2:rs.length+1<=es.length:=hle
  have hias:zck (some 8) [.sl (some 8) (hp.length+2) es.length 0 (rs.length+1),.pv none (.int .i64 (rs.length:Int))]=some (.eptr (some 8) (hp.length+2) es.length rs.length 0):=by
   have:=zar (sh:=some 8) (r:=hp.length+2) (v:=es.length) (o:=0) (n:=rs.length+1) (i:=rs.length) (s':=none) (k:=.i64) (by omega)
   rw[Nat.zero_add] at this
   exact this
  have hsl:zcl (some 8) false true [.sl (some 8) (hp.length+2) es.length 0 (rs.length+1),.pv none (.int .i64 (rs.length:Int))]=some (.sl (some 8) (hp.length+2) es.length 0 rs.length):=by
   have h1:(rs.length:Int)<=(rs.length:Int)+1:=by omega
   simp[zcl,aslice,h1]
  have hae:∀e:Heap,aload (some 8) (US hp q r l++.box (some 4) (.pv (some 4) a.pv)::.box (some 4) (.pv (some 4) b.pv)::.arr (some 8) es false::e) (.eptr (some 8) (hp.length+2) es.length rs.length 0)=some (.pv (some 8) (prP p)):=fun e=>by
   simp[aload,hg1,htop,toAV]
  have hO1:=hI.okb
  have hx:=zbv hO1 hpv.1
  have hy:=zbv hO1 hpv.2
  have hl1:l.length<80000000:=hI.short hl
  have hf1:=fun e=>zkH (.inr (US_B (q:=q) hr l e)) hO1 (by omega) p.1 hpv.1
  have hf2:=fun e=>zkH (.inr (US_B (q:=q) hr l e)) hO1 (by omega) p.2 hpv.2
  have hia0:∀ρ:Nat,zb1 (some 4) 2 [.ptr ρ 0,.pv none (.int .i64 0)]=some (.ptr ρ 0):=fun _=>rfl
  have hia1:∀ρ:Nat,zb1 (some 4) 2 [.ptr ρ 0,.pv none (.int .i64 1)]=some (.ptr ρ 4):=fun _=>rfl
  have hsame:zbS (US hp q r l++[.box (some 4) (.pv (some 4) a.pv),.box (some 4) (.pv (some 4) b.pv),.arr (some 8) es false,.box (some 8) (.pv (some 8) (prP p))]) (US hp q r l++[.box (some 4) (.pv (some 4) a.pv),.box (some 4) (.pv (some 4) b.pv),.arr (some 8) es false,.box (some 8) (.pv (some 8) (prP p))])=true:=
   ((zwK hbq q r l).app (Bq.cons (ztq a) (Bq.cons (ztq b) (Bq.cons (zuZ hbe) (Bq.cons (by simp[AObj.beq,AV.beq,zmh]) Bq.nil))))).same
  obtain⟨res,hp',hcall,hP⟩:=ztr l hO1 (by omega) (flw l p.1) (flw l p.2) hx hy (hp++[.box (some 4) (.pv (some 4) a.pv),.box (some 4) (.pv (some 4) b.pv),.arr (some 8) es false,.box (some 8) (.pv (some 8) (prP p)),.box (some 4) (.pv (some 4) (flw l p.1).pv),.arr (some 4) [] false,.box (some 4) (.pv (some 4) (flw l p.2).pv),.arr (some 4) [] false]) q r (by simp;omega) (by simp;omega) hn
  rw[zce hq hr] at hcall
  unfold zeJ at hP
  simp only[Tm.av] at hf1 hf2 hcall
  have hcg:=fun K Kp=>zkU (b:=hp.length) (s:=none) (K:=K) (Kp:=Kp) (hf1 [.box (some 4) (.pv (some 4) a.pv),.box (some 4) (.pv (some 4) b.pv),.arr (some 8) es false,.box (some 8) (.pv (some 8) (prP p))]) hsame
  cases hu:ustep l (flw l p.1) (flw l p.2) with
  |err e=>
   rw[hu] at hP
   obtain⟨rfl,rfl⟩:=hP
   rw[zce hq hr] at hcall
   simp -dsimp -implicitDefEqProofs only[go_sem,seval,↓reduceIte,hc,hc2,w1,hias,hae,hsl,hia0,hia1,zjn,zjo,hcg,hf2,hcall,hsb,hmi,hpan,hlen,hg0,hg1,hs1,hld,zal,zaE,zaT,zaz,List.append_assoc,zah,zae,zai,zaf,Nat.add_assoc,List.length_append]
   have he:=hI.eq
   rw[zju rs hu] at he
   exact .inr ⟨e,l,he,rfl,htk _ _⟩
  |bind v t=>
   rw[hu] at hP
   obtain⟨rfl,rfl⟩:=hP
   rw[zce hq hr] at hcall
   simp -dsimp -implicitDefEqProofs only[go_sem,seval,↓reduceIte,hc,hc2,w1,w2,hias,hae,hsl,hia0,hia1,zjn,zjo,hcg,hf2,hcall,hsb,hmi,hpan,hlen,hg0,hg1,hs1,hld,zal,zaE,zaT,zaz,List.append_assoc,zah,zae,zai,zaf,Nat.add_assoc,List.length_append]
   refine⟨n,Nat.lt_succ_self _,insB l v t,rs,es,hI.bind hu,ht2,Nat.le_of_succ_le hle2,hbe,?_⟩
   rw[zaQ 3 (hlen _) rfl (by simp[AObj.refs,AV.refsIn]) (by simp[AV.refsIn];omega)]
   rfl
  |args xs=>
   rw[hu] at hP
   obtain⟨rfl,⟨rfl,rfl⟩|⟨rfl,rfl,hll⟩⟩:=hP
   ·rw[zce hq hr] at hcall
    simp -dsimp -implicitDefEqProofs only[go_sem,seval,↓reduceIte,hc,hc2,w1,w2,hias,hae,hsl,hia0,hia1,zjn,zjo,hcg,hf2,hcall,hsb,hmi,hpan,hlen,hg0,hg1,hs1,hld,zal,zaE,zaT,zaz,List.append_assoc,zah,zae,zai,zaf,Nat.add_assoc,List.length_append]
    refine⟨n,Nat.lt_succ_self _,l,rs,es,hI.none hu,ht2,Nat.le_of_succ_le hle2,hbe,?_⟩
    rw[zaQ 3 (hlen _) rfl (by simp[AObj.refs,AV.refsIn]) (by simp[AV.refsIn];omega)]
    rfl
   ·rw[zce hq hr] at hcall
    have hRI:RunI V l0 (a,b) n l ((flw l p.1).args.zip (flw l p.2).args++rs):=by
     by_cases hk:(flw l p.1).kind=0
     ·have e:(flw l p.1).args=[]:=(congrArg Tm.args (hx.2 hk).2.1).trans rfl
      have e2:(flw l p.1).args.zip (flw l p.2).args=[]:=by rw[e];rfl
      rw[e2] at hu ⊢
      exact hI.none hu
     ·exact hI.args hk hll hu
    have hxz:=valid_size hx.1
    have hxz2:=(flw l p.1).size_eq
    have hxz3:=Tm.zwT (flw l p.1).args
    have w0:IntKind.i64.wrap (((flw l p.1).args.length:Int) - 1)=((flw l p.1).args.length:Int) - 1:=zan (by omega) (by omega)
    simp -dsimp -implicitDefEqProofs only[go_sem,seval,↓reduceIte,hc,hc2,w1,w2,hias,hae,hsl,hia0,hia1,zjn,zjo,hcg,hf2,hcall,zad,Tm.pvs_len,w0,hsb,hmi,hpan,hlen,hg0,hg1,hs1,hld,zal,zaE,zaT,zaz,List.append_assoc,zah,zae,zai,zaf,Nat.add_assoc,List.length_append]
    generalize hX:flw l p.1=x at*
    generalize hY:flw l p.2=y at*
    have hzl:(x.args.zip y.args).length=x.args.length:=by rw[List.length_zip];omega
    have hlm:=hRI.lim hl
    rw[List.length_append,hzl] at hlm
    refine zbQ (α:=List PV) x.args.length (fun i es1=>es1.take (rs.length+i)=prs (rs.reverse++((x.args.zip y.args).drop (x.args.length - i)).reverse)/\rs.length+i<=es1.length/\∀z∈es1,PV.beq z z=true)
     (fun i es1=>⟨[(0,.ptr q 0),(6,.sl (some 8) (hp.length+2) es1.length 0 (rs.length+i)),(7,.pv none (.int .i64 (1048576 - ((n+1:Nat):Int)))),(9,.ptr (hp.length+4) 0),(10,.ptr (hp.length+6) 0),(11,.pv none (.int .i64 ((x.args.length:Int) - 1 - (i:Int))))],US hp q r l++[.box (some 4) (.pv (some 4) a.pv),.box (some 4) (.pv (some 4) b.pv),.arr (some 8) es1 false,.box (some 8) (.pv (some 8) (prP p)),.box (some 4) (.pv (some 4) x.pv),.arr (some 4) [] false,.box (some 4) (.pv (some 4) y.pv),.arr (some 4) [] false]⟩) es ⟨⟨?_,Nat.le_of_succ_le hle2,hbe⟩,?_⟩ ?_ ?_
    ·rw[Nat.sub_zero,List.drop_of_length_le (by omega)]
     simpa using ht2
    ·rw[show(x.args.length:Int) - 1 - ((0:Nat):Int)=(x.args.length:Int) - 1 by omega]
     rfl
    ·rintro i es1 h ⟨k1,k2,k3⟩
     obtain⟨j,hj⟩:∃j,j=x.args.length - 1 - i:=⟨_,rfl⟩
     have ej:(x.args.length:Int) - 1 - (i:Int)=(j:Int):=by omega
     have hc5:(0:Int)<=(j:Int):=by omega
     obtain⟨u,hu1⟩:∃u,x.args[j]? =some u:=⟨_,List.getElem?_eq_getElem (by omega)⟩
     obtain⟨w,hw1⟩:∃w,y.args[j]? =some w:=⟨_,List.getElem?_eq_getElem (by omega)⟩
     have hdr:(x.args.zip y.args).drop (x.args.length - (i+1))=(u,w)::(x.args.zip y.args).drop (x.args.length - i):=by
      obtain⟨q1,e1⟩:=List.getElem?_eq_some_iff.1 hu1
      obtain⟨q2,e2⟩:=List.getElem?_eq_some_iff.1 hw1
      have ea:x.args.length - (i+1)=j:=by omega
      have eb:x.args.length - i=j+1:=by omega
      rw[ea,eb,List.drop_eq_getElem_cons (by omega),List.getElem_zip,e1,e2]
     have w5:IntKind.i64.wrap ((j:Int) - 1)=(x.args.length:Int) - 1 - ((i+1:Nat):Int):=by rw[zan (by omega) (by unfold Am.lim at hlm;omega)];omega
     obtain⟨es2,hpu,g1,g2,g3⟩:=zu8 (hp:=US hp q r l++[.box (some 4) (.pv (some 4) a.pv),.box (some 4) (.pv (some 4) b.pv),.arr (some 8) es1 false,.box (some 8) (.pv (some 8) (prP p)),.box (some 4) (.pv (some 4) x.pv),.arr (some 4) [] false,.box (some 4) (.pv (some 4) y.pv),.arr (some 4) [] false]) (r:=hp.length+2) (es:=es1) (len:=rs.length+i) (x:=prP (u,w)) (by rw[hg1];rfl) k2 (by omega)
     rw[hs1] at hpu
     simp only[List.set_cons_succ,List.set_cons_zero] at hpu
     simp -dsimp -implicitDefEqProofs only[go_sem,seval,↓reduceIte,ej,hc5,w5,zab (Tm.pvs_get hu1),zab (Tm.pvs_get hw1),zad,Tm.pvs_len,hbp,hpu,hsb,hmi,hpan,hlen,hg0,hg1,hs1,hld,zal,zaE,zaT,zaz,List.append_assoc,zah,zae,zai,zaf,Nat.add_assoc,List.length_append]
     refine⟨es2,⟨?_,g2,fun z hz=> ?_⟩,?_⟩
     ·rw[hdr,List.reverse_cons,<-List.append_assoc]
      show es2.take (rs.length+i+1)=_
      rw[g1,k1]
      simp[prs]
     ·rcases g3 z hz with h|rfl
      ·exact k3 z h
      ·exact zmh _
     ·rw[zaQ 8 (hlen _) rfl (by simp[AObj.refs,AV.refsIn]) (by simp[AV.refsIn];omega)]
      rfl
    ·rintro es1 ⟨k1,k2,k3⟩
     have hc5:¬(0:Int)<=(x.args.length:Int) - 1 - (x.args.length:Int):=by omega
     simp -dsimp -implicitDefEqProofs only[go_sem,seval,↓reduceIte,hc5,w2,hsb,hmi,hpan,hlen,hg0,hg1,hs1,hld,zal,zaE,zaT,zaz,List.append_assoc,zah,zae,zai,zaf,Nat.add_assoc,List.length_append]
     rw[Nat.sub_self,List.drop_zero,<-List.reverse_append] at k1
     have hal:(x.args.zip y.args++rs).length=rs.length+x.args.length:=by rw[List.length_append,hzl];omega
     refine⟨n,Nat.lt_succ_self _,l,x.args.zip y.args++rs,es1,hRI,by rw[hal];exact k1,by rw[hal];exact k2,k3,?_⟩
     rw[zaQ 3 (hlen _) rfl (by simp[AObj.refs,AV.refsIn]) (by simp[AV.refsIn];omega),hal]
     rfl
def outD(F:FuncId->Option AFn)(prim:FuncId->Option zbq)(rs:List RSlot)(s:Nat)(v:AV)(st:St)(p:PV)(st2:St):Prop:=
 ∃g fs cs,st.fr.look s=some (.func (.func g) fs cs)/\∃r hp' v',sem F prim .dfr g (.pv none p::(fs++cs)) st2.hp=some (.ret r,hp')/\zaJ ⟨st2.fr,hp'⟩ rs=some v'/\Am.frozen v v' hp'
def outK(F:FuncId->Option AFn)(prim:FuncId->Option zbq)(rs:List RSlot)(s:Nat)(v:AV)(st:St):AExit->St->Prop
 | .normal,st2=>outD F prim rs s v st .niliface st2
 | .ret,st2=>outD F prim rs s v st .niliface st2
 | .panic w,st2=>outD F prim rs s v st w st2
 | .exit _,_=>False
def dfrK(F:FuncId->Option AFn)(prim:FuncId->Option zbq)(rs:List RSlot)(s:Nat)(c2:ACode)(v:AV):AExit->St->Prop
 | .normal,st=>(st.fr.look s).isSome=true/\W (sem F prim) (sloop F prim) 0 c2 st (outK F prim rs s v st)
 | .ret,st=>endK rs (Am.frozen v) .ret st
 |_,_=>False
theorem zhx{F:FuncId->Option AFn}{prim:FuncId->Option zbq}{rs:List RSlot}{s:Nat}{c2:ACode}{v:AV}{st:St}:dfrK F prim rs s c2 v .normal st=((st.fr.look s).isSome=true/\W (sem F prim) (sloop F prim) 0 c2 st (outK F prim rs s v st)):=rfl
theorem zen{F:FuncId->Option AFn}{prim:FuncId->Option zbq}{rs:List RSlot}{s:Nat}{c2:ACode}{v:AV}{st:St}:dfrK F prim rs s c2 v .ret st=endK rs (Am.frozen v) .ret st:=rfl
theorem znm{F:FuncId->Option AFn}{prim:FuncId->Option zbq}{rs:List RSlot}{s:Nat}{v:AV}{st st2:St}:outK F prim rs s v st .ret st2=outD F prim rs s v st .niliface st2:=rfl
theorem zit{F:FuncId->Option AFn}{prim:FuncId->Option zbq}{rs:List RSlot}{s:Nat}{v:AV}{st st2:St}{w:PV}:outK F prim rs s v st (.panic w) st2=outD F prim rs s v st w st2:=rfl
theorem zkV{F:FuncId->Option AFn}{prim:FuncId->Option zbq}{f:FuncId}{fn:AFn}{args:List AV}{ps:List (Sh × PV)}{hp:Heap}{v:AV}{s:Nat}{c2:ACode}(hp0:prim f=none)(hf:F f=some fn)(hm:fn.heapMode=false)(hz:zap args hp=some (ps,hp))(hn:(pvs ps).length=fn.nparams)(hmo:fn.more=[(.dfr s,c2)])
  (h:W (sem F prim) (sloop F prim) 0 fn.code ⟨params 0 (pvs ps),[]⟩ (dfrK F prim fn.results s c2 v))(hr:fn.rcv=none:=by rfl):sem F prim .fn f args hp=some (.ret v,hp):=by
 rw[zgk]
 unfold zbs
 rw[hp0,hf]
 have hl:([]:Heap).length=0:=rfl
 suffices hB:∃v' hp2,abody (sem F prim) (sloop F prim) fn (pvs ps) []=some (.ret v',hp2)/\Am.frozen v v' hp2 by
  obtain⟨v',hp2,h1,hp3,h2⟩:=hB
  simp only[hr,Option.isSome_none,hm,Bool.false_eq_true,if_false,hz,h1,h2]
  cases v.scalar <;> rfl
 unfold abody
 rw[if_neg (by simpa using hn),hmo]
 simp only[hl]
 unfold W at h
 split at h
 ·rename_i e st1 he
  cases e with
  |normal=>
   obtain⟨-,hW⟩:=h
   unfold W at hW
   split at hW
   ·rename_i e2 st2 he2
    have fin:∀p:Option PV,outD F prim fn.results s v st1 (p.getD .niliface) st2->∀e:AExit,(e=.normal\/e=.ret->p=none)->(∀w,e=.panic w->p=some w)->(∀i,e≠.exit i)->e=e2->∃v' hp2,aleave (sem F prim) fn (apieces (sem F prim) (sloop F prim) 0 [(.dfr s,c2)] fn.code ⟨params 0 (pvs ps),[]⟩ [])=some (.ret v',hp2)/\Am.frozen v v' hp2:=by
     rintro p ⟨g,fs,cs,k1,r,hp',v',k2,k3,k4⟩ e n1 n2 n3 rfl
     refine⟨v',hp',?_,k4⟩
     have k5:atop (sem F prim) (.dfr s) st1 []=some (.normal,st1,[.func (.func g) fs cs]):=by simp[atop,k1]
     have ka:apieces (sem F prim) (sloop F prim) 0 [(.dfr s,c2)] fn.code ⟨params 0 (pvs ps),[]⟩ []=some (e,st2,[.func (.func g) fs cs]):=by
      simp only[apieces,he,k5,he2]
     have ku:∀p':Option PV,p'=p->aunwind (sem F prim) [.func (.func g) fs cs] p' st2.hp=some (none,hp'):=by
      rintro p' rfl
      simp only[aunwind,zbe,k2]
     rw[ka]
     cases e with
     |normal=>simp only[aleave,ku none (n1 (.inl rfl)).symm,aresult,k3]
     |ret=>simp only[aleave,ku none (n1 (.inr rfl)).symm,aresult,k3]
     |panic w=>simp only[aleave,ku (some w) (n2 w rfl).symm,aresult,k3]
     |exit i=>exact absurd rfl (n3 i)
    cases e2 with
    |normal=>exact fin none hW .normal (fun _=>rfl) (fun w e=>by cases e) (fun i e=>by cases e) rfl
    |ret=>exact fin none hW .ret (fun _=>rfl) (fun w e=>by cases e) (fun i e=>by cases e) rfl
    |panic w=>exact fin (some w) hW (.panic w) (fun e=>by rcases e with e|e <;> cases e) (fun w e=>by cases e;rfl) (fun i e=>by cases e) rfl
    |exit i=>exact hW.elim
   ·exact hW.elim
  |ret=>
   rw[zen,zc3] at h
   cases hr:zaJ st1 fn.results with
   |none=>rw[hr] at h;exact h.elim
   |some u=>
    rw[hr] at h
    exact⟨u,st1.hp,by simp only[aleave,apieces,he,aunwind,aresult,hr],h⟩
  |exit i=>exact h.elim
  |panic v=>exact h.elim
 ·exact h.elim
def zvU(n:Nat)(H:Heap):AExit->St->Prop
 | .normal,st=>st.hp.take n=H
 | .ret,st=>st.hp.take n=H
 |_,_=>False
theorem zgm{n:Nat}{H:Heap}{st:St}:zvU n H .normal st=(st.hp.take n=H):=rfl
theorem znn{F:FuncId->Option AFn}{prim:FuncId->Option zbq}{g:FuncId}{fn:AFn}{ws:List AV}{hp H:Heap}{s:Sh}{p:PV}{t:Nat}(hf:F g=some fn)(hr:fn.rcv=some t)(hmo:fn.more=[])(hn:ws.length=fn.nparams)
  (h:W (sem F prim) (sloop F prim) hp.length fn.code ⟨(t,.pv s p)::params 0 ws,hp⟩ (zvU hp.length H)):sem F prim .dfr g (.pv s p::ws) hp=some (.ret (.tuple []),H):=by
 rw[zur]
 unfold adefer
 simp only[hf,hr,hmo,hn,ne_eq,not_true_eq_false,if_false]
 unfold W at h
 split at h
 ·rename_i e st he
  rw[he]
  cases e with
  |normal=>rw[<-h]
  |ret=>rw[<-h]
  |exit i=>exact h.elim
  |panic v=>exact h.elim
 ·exact h.elim
theorem zu1(x0 x1 x3:AObj)(s:AV)(k:AV)(e:Heap):sem (find tab) prim .dfr 120 [.pv none .niliface,.ptr 2 0,.ptr 4 0] (x0::x1::.box none s::x3::.box none k::e)=some (.ret (.tuple []),x0::x1::.box none s::x3::.box none k::e):=by
 refine znn (t:=5) rfl rfl rfl rfl ?_
 have has:zdE 100 (some 1) (.pv (some 1) (.agg [(none,.int .i64 0)])) true [.pv none .niliface]=some (.tuple [.pv (some 1) (.agg [(none,.int .i64 0)]),.pv none (.bool false)]):=rfl
 have hin:zgG true [.pv none .niliface]=some (.pv none (.bool false)):=rfl
 simp -dsimp -implicitDefEqProofs only[go_sem,seval,↓reduceIte,has,hin,zgm,List.append_assoc,zah,zae,zai,zaf,Nat.add_assoc,List.length_append]
 simp
theorem zts(x0 x1 x3:AObj)(s:AV)(k y:Int)(e:Heap):sem (find tab) prim .dfr 120 [.pv none (zoS y),.ptr 2 0,.ptr 4 0] (x0::x1::.box none s::x3::.box none (.pv none (.int .i64 k))::e)=some (.ret (.tuple []),x0::x1::.box none (.tsl (some 5) [])::x3::.box none (.pv none (.int .i64 y))::e):=by
 refine znn (t:=5) rfl rfl rfl rfl ?_
 have has:zdE 100 (some 1) (.pv (some 1) (.agg [(none,.int .i64 0)])) true [.pv none (zoS y)]=some (.tuple [.pv (some 1) (.agg [(none,.int .i64 y)]),.pv none (.bool true)]):=rfl
 have hst:∀E:Heap,zdF none (e.length+5) (x0::x1::.box none s::x3::.box none (.pv none (.int .i64 k))::E) [.ptr 2 0,.tsl (some 5) [],.ptr (e.length+5) 0]=some (.undef,x0::x1::.box none (.tsl (some 5) [])::x3::.box none (.pv none (.int .i64 k))::E):=fun E=>by
  have h1:¬e.length+5<=2:=by omega
  simp[zdF,astore,zjy,AV.plain,AV.shp,AV.refsIn,h1]
 simp -dsimp -implicitDefEqProofs only[go_sem,seval,↓reduceIte,has,hst,zgm,List.append_assoc,zah,zae,zai,zaf,Nat.add_assoc,List.length_append]
 simp
theorem zrB(V:List Int)(l:List B)(a b:Tm)(hV:V.length<=500000)(hVb:InVB V l)(hVa:InV V a)(hVc:InV V b)(hl:l.length<=500000)(hsz:∀b∈l,b.2.size<1000000000)(ha:a.size<1000000000)(hb:b.size<1000000000)(hp:Heap):
  S 85 [.pv none (.sl (some 5) (bds l)),a.av,b.av] hp=some (.ret (.tuple [.pv none (.sl (some 5) (bds (unR l a b).1)),.pv none (.int .i64 (unR l a b).2)]),hp):=by
 refine zkV rfl rfl rfl (zac [(none,.sl (some 5) (bds l)),(some 4,a.pv),(some 4,b.pv)]) rfl rfl ?_
 have h1:=zio l (by omega) hsz
 have h2:=fun hp=>zci a hp ha
 have h3:=fun hp=>zci b hp hb
 simp only[Tm.av] at h2 h3
 have hal:∀a0 a1:AObj,zcJ none (.tsl (some 5) []) [a0,a1] []=some (.ptr 2 0,[a0,a1,.box none (.sl (some 5) 3 0 0 0),.arr (some 5) [] false]):=fun _ _=>rfl
 by_cases hg:okb l=true/\a.valid=true/\b.valid=true
 rotate_left
 ·have e:unR l a b=([],1):=by unfold unR;rw[if_neg hg]
  rw[e]
  have hst:∀(x0 x1 x3 x4:AObj),zaU none 0 [x0,x1,.box none (.sl (some 5) 3 0 0 0),x3,x4] [.ptr 2 0,.tsl (some 5) []]=some (.undef,[x0,x1,.box none (.sl (some 5) 5 0 0 0),x3,x4,.arr (some 5) [] false]):=fun _ _ _ _=>rfl
  cases hok:okb l with
  |false=>
   rw[hok] at h1
   simp -dsimp -implicitDefEqProofs only[go_sem,seval,↓reduceIte,Tm.av,hal,hst,h1,h2,h3,zen,List.append_assoc,zah,zae,zai,zaf,Nat.add_assoc,List.length_append]
   exact⟨_,rfl⟩
  |true=>
   rw[hok] at h1
   by_cases va:a.valid=true
   ·have vb:b.valid=false:=by
     cases e:b.valid with
     |false=>rfl
     |true=>exact absurd ⟨hok,va,e⟩ hg
    simp -dsimp -implicitDefEqProofs only[go_sem,seval,↓reduceIte,Tm.av,hal,hst,h1,h2,h3,va,vb,zen,List.append_assoc,zah,zae,zai,zaf,Nat.add_assoc,List.length_append]
    exact⟨_,rfl⟩
   ·have va':a.valid=false:=by simpa using va
    simp -dsimp -implicitDefEqProofs only[go_sem,seval,↓reduceIte,Tm.av,hal,hst,h1,h2,h3,va',zen,List.append_assoc,zah,zae,zai,zaf,Nat.add_assoc,List.length_append]
    exact⟨_,rfl⟩
 ·have e:unR l a b=uni 1048576 l [(a,b)]:=by unfold unR;rw[if_pos hg]
  rw[e]
  obtain⟨hok,va,vb⟩:=hg
  have hO:=okb_iff.1 hok
  rw[hok] at h1
  obtain⟨H5,hH5⟩:∃H5:Heap,H5=[.box (some 4) (.pv (some 4) a.pv),.box (some 4) (.pv (some 4) b.pv),.box none (.sl (some 5) 3 0 0 0),.arr (some 5) [] false,.box none (.pv none (.int .i64 0))]:=⟨_,rfl⟩
  have hb5:Bq H5:=by
   rw[hH5]
   exact Bq.cons (ztq a) (Bq.cons (ztq b) (Bq.cons rfl (Bq.cons rfl (Bq.cons rfl Bq.nil))))
  have hcn:=zrA l hO.good (by omega) H5 hb5
  obtain⟨res,hp',hrun,hP⟩:=zu0 V l a b hO hV hVb hVa hVc va vb (H5++[.arr (some 5) [] false,.arr (some 5) [] false,.box (some 1) .undef]) (hb5.app (Bq.cons rfl (Bq.cons rfl (Bq.cons rfl Bq.nil)))) 7 6 (by rw[hH5];simp) (by rw[hH5];simp) (by decide)
  have hU:∀l,US (H5++[.arr (some 5) [] false,.arr (some 5) [] false,.box (some 1) .undef]) 7 6 l=[.box (some 4) (.pv (some 4) a.pv),.box (some 4) (.pv (some 4) b.pv),.box none (.sl (some 5) 3 0 0 0),.arr (some 5) [] false,.box none (.pv none (.int .i64 0)),.arr (some 5) [] false,.arr (some 5) (bds l) false,.box (some 1) (.agg [(none,.sl (some 5) 6 l.length 0 l.length)])]:=fun l=>by rw[hH5];rfl
  rw[hH5] at hcn
  rw[hU] at hrun
  simp only[Tm.av,List.cons_append,List.nil_append,List.length_cons,List.length_nil] at hrun hcn
  have hbu:zaY [(none,.tsl (some 5) [])] [0] [.sl (some 5) 6 l.length 0 l.length]=some (.agg [(none,.sl (some 5) 6 l.length 0 l.length)]):=rfl
  have hpan:∀A:Prop,panK true A=A:=fun _=>rfl
  rcases hP with⟨l',he,rfl,rfl⟩|⟨e,l',he,rfl,rfl⟩
  ·rw[hU] at hrun
   rw[he]
   simp -dsimp -implicitDefEqProofs only[go_sem,seval,↓reduceIte,Tm.av,hal,h1,h2,h3,va,vb,hcn,hbu,hrun,zay,zcR,zaX (Nat.zero_le _),zal,zen,zhx,znm,zit,hpan,List.append_assoc,zah,zae,zai,zaf,Nat.add_assoc,List.length_append]
   refine⟨rfl,120,[],[.ptr 2 0,.ptr 4 0],rfl,_,_,_,zu1 _ _ _ _ _ _,rfl,?_⟩
   refine⟨[.box (some 4) (.pv (some 4) a.pv),.box (some 4) (.pv (some 4) b.pv),.box none (.sl (some 5) 6 l'.length 0 l'.length),.arr (some 5) [] false,.box none (.pv none (.int .i64 0)),.arr (some 5) [] false,.arr (some 5) (bds l') true,.box (some 1) (.agg [(none,.sl (some 5) 6 l'.length 0 l'.length)])],?_⟩
   simp[AV.freezeRes,zap,AV.freeze,deep,zau,pvs,AV.shp]
  ·rw[hU] at hrun
   rw[he]
   simp -dsimp -implicitDefEqProofs only[go_sem,seval,↓reduceIte,Tm.av,hal,h1,h2,h3,va,vb,hcn,hbu,hrun,zay,zcR,zaX (Nat.zero_le _),zal,zen,zhx,znm,zit,hpan,List.append_assoc,zah,zae,zai,zaf,Nat.add_assoc,List.length_append]
   refine⟨rfl,120,[],[.ptr 2 0,.ptr 4 0],rfl,_,_,_,zts _ _ _ _ _ _ _,rfl,?_⟩
   exact⟨_,rfl⟩
def qd(t:Tm):Prop:=t.kind=3/\t.name=[94]/\t.args.length=2
instance (t:Tm):Decidable (qd t):=inferInstanceAs (Decidable (_/\_))
def arg0(t:Tm):Tm:=match t.args with
 |x::_=>x
 |_=>.mk 0 0 [] []
def arg1(t:Tm):Tm:=match t.args with
 |_::y::_=>y
 |_=>.mk 0 0 [] []
theorem args_two{t:Tm}(h:t.args.length=2):t.args=[arg0 t,arg1 t]:=by
 unfold arg0 arg1
 match e:t.args,h with
 |[x,y],_=>rfl
theorem zs7{t:Tm}(h:t.args.length=2):t.args[1]? =some (arg1 t):=by rw[args_two h];rfl
theorem zm7{t:Tm}(h:t.args.length=2):arg1 t∈t.args:=List.mem_of_getElem? (zs7 h)
def quants(t:Tm):List Tm:=if h:qd t then arg0 t::quants (arg1 t) else[]
termination_by t.size
decreasing_by exact Tm.zwY (zm7 h.2.2)
def hid(p g:Tm):List Int:=p.occ++Tm.occs (quants g)
def free(p g:Tm):List Int:=(vads [] g.occ).filter fun v=>decide (v ∉ hid p g)
def nilT:Tm:=.mk 2 0 [91,93] []
def zji(x y:Tm):Tm:=.mk 3 0 [46] [x,y]
def lst:List Tm->Tm
 |[]=>nilT
 |x::r=>zji x (lst r)
def zg(q:Nat):AV:=.agg [(none,.pv none (.int .i64 0)),(none,.pv none (.int .i64 0)),(none,.pv none (.str [])),(none,.sl (some 4) q 0 0 0)]
end Go.Proofs.YtffecaafklpmhaaGreat
