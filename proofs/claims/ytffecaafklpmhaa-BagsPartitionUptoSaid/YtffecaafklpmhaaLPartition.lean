/- What is proved: BagsPartition answers true for all lists of terms, where what it reads is of bulk at most 1048576. -/
import Derived.Test.YtffecaafklpmhaaData
set_option linter.unusedSimpArgs false
set_option linter.unusedVariables false
namespace Go.Proofs.Ytffecaafklpmhaa
open Go.Am Go.ChangeShapes Go.WideShapes Go.ChangeAt Go.RowKit
def okP(x:Tm × Tm):Bool:=x.1.valid && (decide ((vads [] x.1.occ).length=0) && (decide (x.1.size<20) && (x.2.valid && decide (x.2.size<20))))
def mkP(x:Tm × Tm):Tm:=prT x.1 x.2
theorem zmv{x:Tm × Tm}(h:okP x=true):PairOk (mkP x)/\zn5 x.1 x.2=mkP x:=by
 unfold okP at h
 simp only[Bool.and_eq_true,decide_eq_true_eq] at h
 obtain⟨h1,h2,h3,h4,h5⟩:=h
 have hv:(prT x.1 x.2).valid=true:=by
  refine zd1 (ziQ (valid_fits h1) (valid_fits h4)) ?_
  show 1+(x.1.size+(x.2.size+0))<=_
  omega
 have ho:x.1.occ=[]:=by
  cases e:x.1.occ with
  |nil=>rfl
  |cons w r=>
   have:=(zmE x.1.occ [] w).2 (.inr (by rw[e];exact List.mem_cons_self))
   rw[List.eq_nil_of_length_eq_zero h2] at this
   cases this
 exact⟨⟨rfl,hv,⟨h1,ho⟩,h3,h5⟩,by unfold zn5;rw[if_pos hv];rfl⟩
def lsP(z:List (Tm × Tm)):List Tm:=(z.filter okP).map mkP
theorem zsw(z:List (Tm × Tm))(x:Tm × Tm):lsP (z++[x])=lsP z++if okP x=true then[mkP x] else[]:=by
 unfold lsP
 rw[List.filter_append,List.map_append]
 congr 1
 cases h:okP x <;> simp[h]
theorem frz0(es:List PV)(n:Nat)(h:es.length=n)(fz:Bool):zal [.sl (some 4) 0 n 0 n] [.arr (some 4) es fz]=some ([(none,.sl (some 4) es)],[.arr (some 4) es true]):=by
 rw[zcb (show zd9 n ([AObj.arr (some 4) es fz][0]?) from h)]
 rfl
theorem zvF(a0 a1 a2:AObj)(X:Heap)(es:List PV)(n:Nat)(h:es.length=n)(p:PV):zal [.pv none p,.sl (some 4) 3 n 0 n] (a0::a1::a2::.arr (some 4) es false::X)=some ([(none,p),(none,.sl (some 4) es)],a0::a1::a2::.arr (some 4) es true::X):=by
 subst h
 simp[zal,AV.freeze,deep,AV.shp]
theorem znY{H:Heap}{q n i:Nat}{es:List PV}{fz:Bool}{t:Tm}(h:H[q]? =some (.arr (some 4) es fz))(hn:es.length=n)(h0:es[i]? =some t.pv):aload none H (.eptr (some 4) q n i 3)=some (.pv none (.sl (some 4) (Tm.pvs t.args))):=by
 simp[aload,h,hn,h0,toAV,zag]
set_option maxHeartbeats 4000000 in
theorem zsx(ks is:List Tm)(hk:Tm.sizes ks<=1048576)(hi:Tm.sizes is<=1048576):S 4 [.pv none (.sl (some 4) (Tm.pvs ks)),.pv none (.sl (some 4) (Tm.pvs is))] []=some (.ret (.pv none (.bool true)),[]):=by
 refine zar rfl rfl rfl (zad [(none,.sl (some 4) (Tm.pvs ks)),(none,.sl (some 4) (Tm.pvs is))]) rfl ?_
 have haw:∀hp,S 9 [] hp=some (.ret (.pv none (.bool true)),hp):=fun hp=>zcC (F:=find tab) (prim:=prim) (f:=9) (args:=[]) (ps:=[]) (hp:=hp) (hp1:=hp) rfl rfl rfl rfl sem9
 have hn4:∀(H:Heap),zbW (some 4) H=some (.sl (some 4) H.length 0 0 0,H++[.arr (some 4) [] false]):=fun H=>zdg (sh:=some 4) (by decide)
 by_cases h60:(60:Int)<(ks.length:Int)
 ·simp -dsimp -implicitDefEqProofs only[go_sem,seval,↓reduceIte,Tm.pvs_len,h60,haw]
 by_cases h61:(60:Int)<(is.length:Int)
 ·simp -dsimp -implicitDefEqProofs only[go_sem,seval,↓reduceIte,Tm.pvs_len,h60,h61,haw]
 simp -dsimp -implicitDefEqProofs only[go_sem,seval,↓reduceIte,Tm.pvs_len,h60,h61,hn4]
 obtain⟨N,hN⟩:∃N,N=min ks.length is.length:=⟨_,rfl⟩
 have hNk:N<=ks.length:=by omega
 have hNi:N<=is.length:=by omega
 have hzl:(ks.zip is).length=N:=by rw[List.length_zip,hN]
 refine zc0 (α:=Unit) N (fun _ _=>True) (fun i _=>⟨[(0,.pv none (.sl (some 4) (Tm.pvs ks))),(1,.pv none (.sl (some 4) (Tm.pvs is))),(5,.sl (some 4) 0 (lsP ((ks.zip is).take i)).length 0 (lsP ((ks.zip is).take i)).length),(6,.pv none (.int .i64 i))],[.arr (some 4) (Tm.pvs (lsP ((ks.zip is).take i))) false]⟩) () ⟨trivial,rfl⟩ ?_ ?_
 ·rintro i - h -
  have hc1:(i:Int)<(ks.length:Int):=by omega
  have hc2:(i:Int)<(is.length:Int):=by omega
  obtain⟨k,hk1⟩:∃k,ks[i]? =some k:=⟨_,List.getElem?_eq_getElem (by omega)⟩
  obtain⟨t,ht1⟩:∃t,is[i]? =some t:=⟨_,List.getElem?_eq_getElem (by omega)⟩
  have hks:=Tm.zvT (List.mem_of_getElem? hk1)
  have hts:=Tm.zvT (List.mem_of_getElem? ht1)
  have hz:(ks.zip is)[i]? =some (k,t):=by
   rw[List.getElem?_zip_eq_some]
   exact⟨hk1,ht1⟩
  have hsn:lsP ((ks.zip is).take (i+1))=lsP ((ks.zip is).take i)++if okP (k,t)=true then[mkP (k,t)] else[]:=by
   rw[List.take_add_one,hz]
   exact zsw _ _
  have hll:=Tm.pvs_len (lsP ((ks.zip is).take i))
  have hlb:(lsP ((ks.zip is).take i)).length<=i:=by
   unfold lsP
   rw[List.length_map]
   refine Nat.le_trans (List.length_filter_le _ _) ?_
   rw[List.length_take]
   omega
  have hlim:(lsP ((ks.zip is).take i)).length+1<=lim:=by unfold lim;omega
  rw[hsn]
  generalize lsP ((ks.zip is).take i)=l at*
  have w2:IntKind.i64.wrap ((i:Int)+1)=((i+1:Nat):Int):=by rw[zao (by omega) (by omega)];omega
  have hgk:=zac (sh:=some 4) (s:=none) (s':=none) (k:=.i64) (Tm.pvs_get hk1)
  have hgt:=zac (sh:=some 4) (s:=none) (s':=none) (k:=.i64) (Tm.pvs_get ht1)
  have h1:=fun hp=>zt7 k t (by omega) hp
  have h2:=fun hp=>za6 k hp (by omega)
  have h3:=fun hp=>za6 t hp (by omega)
  have h4:=fun hp=>zi0 k hp (by omega)
  have h5:=fun hp=>zi0 t hp (by omega)
  simp only[Tm.av] at h1 h2 h3 h4 h5
  have hpk:= @zmv (k,t)
  have hok:okP (k,t)=(k.valid && (decide ((vads [] k.occ).length=0) && (decide (k.size<20) && (t.valid && decide (t.size<20))))):=rfl
  by_cases v1:k.valid=true
  rotate_left
  ·have v1':k.valid=false:=by simpa using v1
   rw[v1'] at h2
   have e:okP (k,t)=false:=by rw[hok,v1'];rfl
   simp -dsimp -implicitDefEqProofs only[go_sem,seval,↓reduceIte,Tm.pvs_len,hc1,hc2,hgk,hgt,h1,h2,w2]
   refine⟨(),?_⟩
   rw[e,zb5 (by simp[AObj.refs,AV.refsIn]) (by simp[AV.refsIn])]
   simp
  have h6:=fun hp=>zmD k v1 hp
  simp only[Tm.av] at h6
  rw[v1] at h2
  by_cases v2:(vads [] k.occ).length=0
  rotate_left
  ·have e:okP (k,t)=false:=by rw[hok,v1,decide_eq_false v2];rfl
   have v2':¬((vads [] k.occ).length:Int)=0:=by omega
   simp -dsimp -implicitDefEqProofs only[go_sem,seval,↓reduceIte,Tm.pvs_len,zbu,hc1,hc2,hgk,hgt,h1,h2,h6,v2',w2]
   refine⟨(),?_⟩
   rw[e,zb5 (by simp[AObj.refs,AV.refsIn]) (by simp[AV.refsIn])]
   simp
  have v2':((vads [] k.occ).length:Int)=0:=by omega
  by_cases v3:k.size<20
  rotate_left
  ·have e:okP (k,t)=false:=by rw[hok,v1,decide_eq_true v2,decide_eq_false v3];rfl
   have v3':¬((min k.size 2001:Nat):Int)<20:=by omega
   simp -dsimp -implicitDefEqProofs only[go_sem,seval,↓reduceIte,Tm.pvs_len,zbu,hc1,hc2,hgk,hgt,h1,h2,h4,h6,v2',v3',w2]
   refine⟨(),?_⟩
   rw[e,zb5 (by simp[AObj.refs,AV.refsIn]) (by simp[AV.refsIn])]
   simp
  have v3':((min k.size 2001:Nat):Int)<20:=by omega
  by_cases v4:t.valid=true
  rotate_left
  ·have v4':t.valid=false:=by simpa using v4
   rw[v4'] at h3
   have e:okP (k,t)=false:=by rw[hok,v1,decide_eq_true v2,decide_eq_true v3,v4'];rfl
   simp -dsimp -implicitDefEqProofs only[go_sem,seval,↓reduceIte,Tm.pvs_len,zbu,hc1,hc2,hgk,hgt,h1,h2,h3,h4,h6,v2',v3',w2]
   refine⟨(),?_⟩
   rw[e,zb5 (by simp[AObj.refs,AV.refsIn]) (by simp[AV.refsIn])]
   simp
  rw[v4] at h3
  by_cases v5:t.size<20
  rotate_left
  ·have e:okP (k,t)=false:=by rw[hok,v1,decide_eq_true v2,decide_eq_true v3,v4,decide_eq_false v5];rfl
   have v5':¬((min t.size 2001:Nat):Int)<20:=by omega
   simp -dsimp -implicitDefEqProofs only[go_sem,seval,↓reduceIte,Tm.pvs_len,zbu,hc1,hc2,hgk,hgt,h1,h2,h3,h4,h5,h6,v2',v3',v5',w2]
   refine⟨(),?_⟩
   rw[e,zb5 (by simp[AObj.refs,AV.refsIn]) (by simp[AV.refsIn])]
   simp
  have v5':((min t.size 2001:Nat):Int)<20:=by omega
  have e:okP (k,t)=true:=by rw[hok,v1,decide_eq_true v2,decide_eq_true v3,v4,decide_eq_true v5];rfl
  obtain⟨hP,hPr⟩:=hpk e
  rw[e,if_pos rfl]
  dsimp only at hPr
  rw[hPr] at h1
  have hkd:(mkP (k,t)).kind=3:=rfl
  have hap:Tm.pvs l++[(mkP (k,t)).pv]=Tm.pvs (l++[mkP (k,t)]):=by rw[Tm.zvO];rfl
  generalize mkP (k,t)=m at*
  simp -dsimp -implicitDefEqProofs only[go_sem,seval,↓reduceIte,Tm.pvs_len,zbu,hc1,hc2,hgk,hgt,h1,h2,h3,h4,h5,h6,v2',v3',v5',zam,hkd,hll,hlim,hap,w2]
  refine⟨(),?_⟩
  rw[zb5 (by simp[AObj.refs,AV.refsIn]) (by simp[AV.refsIn])]
  simp
 ·rintro - -
  rw[List.take_of_length_le (by omega)]
  obtain⟨L,hL⟩:∃L,L=lsP (ks.zip is):=⟨_,rfl⟩
  have hLn:L.length<=60:=by
   rw[hL]
   unfold lsP
   rw[List.length_map]
   exact Nat.le_trans (List.length_filter_le _ _) (by omega)
  have hLq:∀q∈L,PairOk q:=fun q hq=>by
   rw[hL] at hq
   obtain⟨x,hx,rfl⟩:=List.mem_map.1 hq
   exact(zmv (List.mem_filter.1 hx).2).1
  rw[<-hL]
  clear hL
  obtain⟨G,hG,hP⟩:=zks L hLn hLq
  have hGv:=ziR L
  have hGl:=zlB L
  have hLs:Tm.sizes L<=200000:=by
   have:=zgY L (List.all_eq_true.2 fun q hq=>(hLq q hq).val)
   omega
  have hgr:=znX L (by omega) (by omega) (fun _=>hLs) []
  rw[hG] at hgr hGv hGl
  dsimp only at hgr hGv hGl
  have hLl:(Tm.pvs L).length=L.length:=Tm.pvs_len L
  have hcall:=zcC rfl rfl rfl (frz0 (Tm.pvs L) L.length hLl false) hgr
  have e8:∀(l:List PV) (e:Int),(AV.tuple [.pv none (.sl (some 4) l),.pv none (.int .i64 e)]).scalar=false:=fun _ _=>rfl
  simp only[e8,cond_false] at hcall
  obtain⟨cn,hcn⟩:∃cn:Nat->Nat,cn=fun i=>((G.take i).map fun g=>(L.filter (eqk (zab g))).length).sum:=⟨_,rfl⟩
  have hcb:∀i,cn i<=60:=fun i=>by
   have h1:=hP.cnt
   have h2:(G.map fun g=>(L.filter (eqk (zab g))).length)=((G.take i).map fun g=>(L.filter (eqk (zab g))).length)++((G.drop i).map fun g=>(L.filter (eqk (zab g))).length):=by rw[<-List.map_append,List.take_append_drop]
   rw[h2,List.sum_append] at h1
   rw[hcn]
   dsimp only
   omega
  have hcs:∀i g,G[i]? =some g->cn (i+1)=cn i+(L.filter (eqk (zab g))).length:=fun i g hg=>by
   rw[hcn]
   dsimp only
   rw[List.take_add_one,hg,List.map_append,List.sum_append]
   simp
  have hc0:cn 0=0:=by rw[hcn];rfl
  have hcN:cn G.length=L.length:=by
   rw[hcn]
   dsimp only
   rw[List.take_length]
   exact hP.cnt
  clear hcn
  have hcc:¬(N:Int)<(ks.length:Int)\/((N:Int)<(ks.length:Int)/\¬(N:Int)<(is.length:Int)):=by omega
  have hGll:(Tm.pvs G).length=G.length:=Tm.pvs_len G
  have hi0:((0:Nat):Int)=0:=rfl
  rcases hcc with hc1|⟨hc1,hc2⟩
  all_goals first
   |simp -dsimp -implicitDefEqProofs only[go_sem,seval,↓reduceIte,Tm.pvs_len,hc1,hc2,hcall]
   |simp -dsimp -implicitDefEqProofs only[go_sem,seval,↓reduceIte,Tm.pvs_len,hc1,hcall]
  all_goals
   refine zc0 (α:=Unit) G.length (fun _ _=>True) (fun i _=>⟨[(5,.sl (some 4) 0 L.length 0 L.length),(8,.pv none (.sl (some 4) (Tm.pvs G))),(10,.pv none (.int .i64 (cn i:Int))),(11,.pv none (.int .i64 i))],[.arr (some 4) (Tm.pvs L) true]⟩) () ⟨trivial,?_⟩ ?_ ?_
   ·rw[hc0]
    rfl
   ·rintro i - hi -
    have hc:(i:Int)<(G.length:Int):=by omega
    obtain⟨g,hg⟩:∃g,G[i]? =some g:=⟨_,List.getElem?_eq_getElem hi⟩
    have hgm:=List.mem_of_getElem? hg
    have hgv:=hGv g hgm
    obtain⟨p,hp,hge⟩:=hP.mem g hgm
    have hpk:=hLq p hp
    have hcs1:=hcs i g hg
    have hgk:zab g=zab p:=by rw[hge];rfl
    rw[hgk] at hcs1
    obtain⟨key,hkey⟩:∃key,key=zab p:=⟨_,rfl⟩
    rw[<-hkey] at hge hcs1 hgk
    have hkv:key.valid=true:=by rw[hkey];exact hpk.key.1
    have hks:=valid_size hkv
    obtain⟨W,hW⟩:∃W,W=(L.filter (eqk key)).map za0:=⟨_,rfl⟩
    have hWl:W.length=(L.filter (eqk key)).length:=by rw[hW,List.length_map]
    have hWpos:¬(W.length:Int)=0:=by
     have h1:p∈L.filter (eqk key):=List.mem_filter.2 ⟨hp,eqk_iff.2 hkey.symm⟩
     have:=List.length_pos_of_mem h1
     omega
    have hWv:∀t∈W,t.valid=true:=fun t ht=>by
     rw[hW] at ht
     obtain⟨q,hq,rfl⟩:=List.mem_map.1 ht
     have:=hLq q (List.mem_filter.1 hq).1
     exact zfx this.pr this.val
    have hWb:W.length<=L.length:=by rw[hWl];exact List.length_filter_le _ _
    rw[<-hW] at hge
    have hga:g.args=[key,lst W]:=by rw[hge];rfl
    have hgkd:g.kind=3:=by rw[hge];rfl
    have hgnm:g.name=[45]:=by rw[hge];rfl
    have hgal:((g.args.length:Nat):Int)=2:=by rw[hga];rfl
    have g0:(Tm.pvs g.args)[0]? =some key.pv:=by rw[hga];rfl
    have g1:(Tm.pvs g.args)[1]? =some (lst W).pv:=by rw[hga];rfl
    have q1:=zac (sh:=some 4) (s:=none) (s':=none) (k:=.i64) g1
    simp only[show((1:Nat):Int)=1 from rfl] at q1
    have hlv:(lst W).valid=true:=zaW hgv (by rw[hga];simp)
    have hel:=fun hp=>zqu (lst W) hlv hp
    rw[zqU] at hel
    have hSA:=fun X=>zcC rfl rfl rfl (zvF (.arr (some 4) (Tm.pvs L) true) (.box (some 4) (.pv (some 4) g.pv)) (.arr (some 4) [] false) X (Tm.pvs W) W.length (Tm.pvs_len W) (.sl (some 4) (Tm.pvs W))) (zki W hWv (by omega))
    have e9:(AV.pv none (.bool true)).scalar=true:=rfl
    simp only[e9,cond_true] at hSA
    have hgg:=zac (sh:=some 4) (s:=none) (s':=none) (k:=.i64) (Tm.pvs_get hg)
    have w2:IntKind.i64.wrap ((i:Int)+1)=((i+1:Nat):Int):=by rw[zao (by omega) (by omega)];omega
    have hcb1:=hcb (i+1)
    have w4:IntKind.i64.wrap ((cn i:Int)+(W.length:Int))=(cn (i+1):Int):=by rw[zao (by omega) (by omega)];omega
    have hpre:(0:Int)<(i:Int)->∃g' k':Tm,G[i - 1]? =some g'/\(Tm.pvs g'.args)[0]? =some k'.pv/\(∀hp,S 20 [k'.av,key.av] hp=some (.ret (.pv none (.int .i64 (-1))),hp)):=fun h0=>by
     obtain⟨g',hg'⟩:∃g',G[i - 1]? =some g':=⟨_,List.getElem?_eq_getElem (by omega)⟩
     obtain⟨p',hp',hge'⟩:=hP.mem g' (List.mem_of_getElem? hg')
     have hpk':=hLq p' hp'
     refine⟨g',zab p',hg',by rw[hge'];rfl,fun hp=> ?_⟩
     have h1:(zab g').cmp (zab g)<0:=by
      obtain⟨a1,b1⟩:=List.getElem?_eq_some_iff.1 hg'
      obtain⟨a2,b2⟩:=List.getElem?_eq_some_iff.1 hg
      have:=List.pairwise_iff_getElem.1 hP.inc (i - 1) i a1 a2 (by omega)
      rwa [b1,b2] at this
     have e1:zab g'=zab p':=by rw[hge'];rfl
     rw[e1,hgk] at h1
     have h2:=Tm.zwk (zab p') key
     have h3:(zab p').cmp key= -1:=by omega
     rw[<-h3]
     exact zt8 (zab p') key hpk'.key.1 hkv hp
    simp only[Tm.av] at hel
    have hpre2:(∃g' k':Tm,(0:Int)<(i:Int)/\(Tm.pvs g'.args)[0]? =some k'.pv/\(∀hp,S 20 [.pv (some 4) k'.pv,.pv (some 4) key.pv] hp=some (.ret (.pv none (.int .i64 (-1))),hp))/\IntKind.i64.wrap ((i:Int) - 1)=((i - 1:Nat):Int)/\G[i - 1]? =some g')\/¬(0:Int)<(i:Int):=by
     by_cases h0:(0:Int)<(i:Int)
     ·obtain⟨g',k',hg',hk',hcmp⟩:=hpre h0
      simp only[Tm.av] at hcmp
      exact .inl ⟨g',k',h0,hk',hcmp,by rw[zao (by omega) (by omega)];omega,hg'⟩
     ·exact .inr h0
    clear hpre
    rcases hpre2 with⟨g',k',h0,hk',hcmp,w1,hg'⟩|h0
    all_goals first
     |(have hgg':=zac (sh:=some 4) (s:=none) (s':=none) (k:=.i64) (Tm.pvs_get hg')
       simp -dsimp -implicitDefEqProofs only[go_sem,seval,↓reduceIte,hn4,hGll,hc,hgg,zam,zax,zag,Tm.pvs_len,hgkd,hgnm,hgal,h0,w1,hgg',zaM hk',zaM g0,hcmp])
     |simp -dsimp -implicitDefEqProofs only[go_sem,seval,↓reduceIte,hn4,hGll,hc,hgg,zam,zax,zag,Tm.pvs_len,hgkd,hgnm,hgal,h0]
    all_goals
     refine zc0 (α:=Unit) L.length (fun _ _=>True) (fun k _=>⟨[(5,.sl (some 4) 0 L.length 0 L.length),(8,.pv none (.sl (some 4) (Tm.pvs G))),(10,.pv none (.int .i64 (cn i:Int))),(11,.pv none (.int .i64 i)),(12,.ptr 1 0),(13,.sl (some 4) 3 (((L.take k).filter (eqk key)).map za0).length 0 (((L.take k).filter (eqk key)).map za0).length),(14,.pv none (.int .i64 k))],
      [.arr (some 4) (Tm.pvs L) true,.box (some 4) (.pv (some 4) g.pv),.arr (some 4) [] false,.arr (some 4) (Tm.pvs (((L.take k).filter (eqk key)).map za0)) false]⟩) () ⟨trivial,rfl⟩ ?_ ?_
     ·rintro k - hk -
      have hck:(k:Int)<(L.length:Int):=by omega
      obtain⟨u,hu⟩:∃u,L[k]? =some u:=⟨_,List.getElem?_eq_getElem hk⟩
      have huq:=hLq u (List.mem_of_getElem? hu)
      obtain⟨u0,u1,_⟩:=zeX huq.pr
      have hsz1:=valid_size huq.key.1
      have hld:∀X:Heap,aload none (.arr (some 4) (Tm.pvs L) true::X) (.eptr (some 4) 0 L.length k 3)=some (.pv none (.sl (some 4) (Tm.pvs u.args))):=fun X=>znY rfl hLl (Tm.pvs_get hu)
      have hsm:=fun hp=>zsF (zab u) key hp (by omega) (by omega)
      have hse:same (zab u) key=eqk key u:=by unfold same eqk;rw[huq.key.1,hkv];rfl
      rw[hse] at hsm
      simp only[Tm.av] at hsm
      have hft:=zel (f:=eqk key) hu
      have hwl:(((L.take k).filter (eqk key)).map za0).length<=k:=by
       rw[List.length_map]
       exact Nat.le_trans (List.length_filter_le _ _) (by rw[List.length_take];omega)
      have p1:=zac (sh:=some 4) (s:=none) (s':=none) (k:=.i64) u1
      simp only[show((1:Nat):Int)=1 from rfl] at p1
      have w3:IntKind.i64.wrap ((k:Int)+1)=((k+1:Nat):Int):=by rw[zao (by omega) (by omega)];omega
      rw[hft,List.map_append]
      generalize ((L.take k).filter (eqk key)).map za0=M at*
      have hMl:=Tm.pvs_len M
      have hlim:M.length+1<=lim:=by unfold lim;omega
      have hap:Tm.pvs M++[(za0 u).pv]=Tm.pvs (M++[za0 u]):=by rw[Tm.zvO];rfl
      cases hek:eqk key u with
      |true=>
       rw[hek] at hsm
       simp -dsimp -implicitDefEqProofs only[go_sem,seval,↓reduceIte,hck,zaq hk,hld,zag,zaM u0,zaM g0,p1,hsm,hMl,hlim,hap,w3]
       refine⟨(),?_⟩
       rw[zb5 (by simp[AObj.refs,AV.refsIn]) (by simp[AV.refsIn])]
       simp
      |false=>
       rw[hek] at hsm
       simp -dsimp -implicitDefEqProofs only[go_sem,seval,↓reduceIte,hck,zaq hk,hld,zag,zaM u0,zaM g0,hsm,w3]
       refine⟨(),?_⟩
       rw[zb5 (by simp[AObj.refs,AV.refsIn]) (by simp[AV.refsIn])]
       simp
     ·rintro - -
      rw[List.take_length,<-hW]
      have hck:¬(L.length:Int)<(L.length:Int):=by omega
      simp -dsimp -implicitDefEqProofs only[go_sem,seval,↓reduceIte,hck,zag,q1,hel,hWpos,hSA,w4,w2]
      refine⟨(),?_⟩
      rw[zb5 (by simp[AObj.refs,AV.refsIn]) (by simp[AV.refsIn])]
      simp
   ·rintro - -
    have hc:¬(G.length:Int)<(G.length:Int):=by omega
    have hq:=eq_true (show((cn G.length:Nat):Int)=(L.length:Int) by rw[hcN])
    simp -dsimp -implicitDefEqProofs only[go_sem,seval,↓reduceIte,hn4,hGll,hc,hq,haw]
set_option maxRecDepth 100000 in
theorem bagsPartition_lifted(os:Os)(started:os.Started)(H:Type)(enc:TypeId × Value->H)(F:Stop.Interp):
  ReturnsInHanded {} Try.checked os 4 .any ((Rows.OpenSpec.upto Rows.bagsPartitionSpec).pre6 enc Try.prog Try.f4 Rows.bagsPartitionUptoRow.domain false) (((Rows.OpenSpec.upto Rows.bagsPartitionSpec).at F).post enc Try.prog Try.f4 false true false false):=by
 refine returnsInHanded_of_cond (C:=Try.checked) (s:=(Rows.OpenSpec.upto Rows.bagsPartitionSpec)) (k:=Rows.uptoSmall) rfl Try.own started (by kernel_rfl) Try.func4
  (OpenSpec.witness (enc:=enc) (C:=Try.checked) (s:=(Rows.OpenSpec.upto Rows.bagsPartitionSpec)) (k:=Rows.uptoSmall) rfl false ⟨#[],#[.slice none 0 0,.slice none 0 0],[]⟩ 8 (by kernel_rfl) (by kernel_rfl) (by kernel_rfl)
   (x:=([.nil,.nil],[],[])) (by kernel_rfl) rfl (by kernel_rfl)) ?_
 intro W base args ds gs before hval0 hW _ hk _
 have hval:∀(j:Nat) t v,Try.f4.params[j]? =some t->args[j]? =some v->Value.okWide Try.prog W .any base t v:=hval0
 have hb:=znS hk
 have hW':=hW
 obtain⟨p,q,hA0,hV,rfl,hfz,hnd⟩:=hW
 have hA:DataW.TrodAll enc Try.prog W 0 (fun _=>true) true Try.f4.params.toList args.toList ds p:=hA0
 rw[Try.params4] at hA hval
 clear hA0 hval0
 obtain⟨v0,vs0,d0,ds0,p0,q0,e0,rfl,rfl,h0,r0'⟩:=trodAll_cons hA
 obtain⟨v1,vs1,d1,ds1,p1,q1,e1,rfl,rfl,h1,r1'⟩:=trodAll_cons r0'
 obtain⟨e2,rfl,rfl⟩:=trodAll_nil r1'
 subst e2
 subst e1
 obtain rfl:args= #[v0,v1]:=by cases args;simp_all
 obtain⟨rfl,rfl⟩:=trodVars_none hV
 obtain⟨t0,a0,z0,r0⟩:=zhY h0 (hval 0 _ v0 rfl rfl)
 obtain⟨t1,a1,z1,r1⟩:=zhY h1 (hval 1 _ v1 rfl rfl)
 simp only[Rows.uptoBulkAll,List.append_nil] at hb
 exact zjU sound Try.func4 (by kernel_rfl) Try.zwl (s:=Rows.bagsPartitionSpec) rfl rfl hW' (.cons a0 (.cons a1 (.nil))) (zsx t0 t1 (by omega) (by omega))
theorem bagsPartition_holds:Rows.BagsPartitionUptoSaid:=
 OpenClaim.holds_of_cond 4 Try.f4 rfl rfl rfl rfl rfl rfl rfl ⟨rfl,rfl,rfl,rfl,rfl⟩ rfl rfl rfl rfl rfl (by kernel_rfl) Try.func4 (by kernel_rfl)
  (of_decide_eq_true (by kernel_rfl)) (by unfold Func.isWrapper;first|(rw[if_pos (by decide+kernel)];kernel_rfl)|(rw[if_neg (by decide+kernel)];exact⟨rfl,rfl⟩))
  (fun os started H enc _ F=>bagsPartition_lifted os started H enc F)
end Go.Proofs.Ytffecaafklpmhaa
