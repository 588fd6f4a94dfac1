/- What matching means, without the program. -/
import Derived.Test.YtffecaafklpmhaaGreatCn
set_option linter.unusedSimpArgs false
set_option linter.unusedVariables false
namespace Go.Proofs.YtffecaafklpmhaaGreat
open Go.Am
theorem find_mem{l:List B}{v:Int}(h:fndB l v=true):(v,toB l v)∈l:=List.mem_of_getElem? (zcU h)
theorem zoP{l:List B}{v:Int}{t:Tm}{x:B}(h:x=(v,t)\/x∈l):x∈insB l v t:=by
 unfold insB
 simp only[List.mem_append,List.mem_singleton]
 rcases h with h|h
 ·exact .inl (.inr h)
 ·rw[<-List.take_append_drop (lbB l v) l] at h
  rcases List.mem_append.1 h with h|h
  ·exact .inl (.inl h)
  ·exact .inr h
theorem zuU{l:List B}(hs:Srt' l){b:B}(hb:b∈l):fndB l b.1=true/\toB l b.1=b.2:=by
 obtain⟨i,hlt,rfl⟩:=List.getElem_of_mem hb
 have hg:=List.getElem?_eq_getElem hlt
 obtain⟨h1,h2⟩:=zrP hs hg
 refine⟨h1,?_⟩
 unfold toB
 rw[h2,hg]
theorem zrp{l:List B}(hs:Srt' l)(v:Int):fndB l v=true↔v∈l.map (·.1):=by
 constructor
 ·intro h;exact List.mem_map.2 ⟨_,find_mem h,rfl⟩
 ·intro h
  obtain⟨b,hb,rfl⟩:=List.mem_map.1 h
  exact(zuU hs hb).1
theorem zkR{n:Int}(h:0<=n/\n<=1099511627776):(tvar n).fits=true:=by
 simp[tvar,Tm.fits,Tm.fitsAll,Tm.node,Tm.kind,Tm.n,Tm.name,Tm.args,h.1,h.2]
open Classical in
noncomputable def okb(l:List B):Bool:=decide (OKB l)
theorem okb_iff{l:List B}:okb l=true↔OKB l:=by unfold okb;simp
theorem ziy(l:List B)(hl:l.length<100000000)(hsz:∀b∈l,b.2.size<1000000000)(hp:Heap):S 91 [.pv none (.sl (some 5) (bds l))] hp=some (.ret (.pv none (.bool (okb l))),hp):=by
 obtain⟨v,h1,b,rfl,h2⟩:=zoX l hl hsz
 have:b=okb l:=by
  rw[Bool.eq_iff_iff,h2,okb_iff]
 rw[h1,this]
noncomputable def rsR(l:List B)(t:Tm):Tm × Int:=if okb l=true/\t.valid=true then(if(rs l t).size<=2000 then(rs l t,0) else(zt,2)) else(zt,1)
theorem zmq(l:List B)(t:Tm)(hl:l.length<100000000)(hsz:∀b∈l,b.2.size<1000000000)(ht:t.size<1000000000)(hp:Heap):
  S 44 [.pv none (.sl (some 5) (bds l)),t.av] hp=some (.ret (.tuple [(rsR l t).1.av,.pv none (.int .i64 (rsR l t).2)]),hp):=by
 refine zao rfl rfl rfl (zac [(none,.sl (some 5) (bds l)),(some 4,t.pv)]) rfl ?_
 have h1:=ziy l hl hsz
 have h2:=fun hp=>zbK t hp ht
 simp only[Tm.av] at h2
 unfold rsR
 cases hb:okb l with
 |false=>
  rw[hb] at h1
  rw[if_neg (by simp)];dsimp only
  simp -dsimp -implicitDefEqProofs only[go_sem,seval,↓reduceIte,Tm.av,h1,h2,zag (Nat.zero_le _),hb0]
  exact zbo _ _ _ rfl
 |true=>
  rw[hb] at h1
  have hO:=okb_iff.1 hb
  by_cases hv:t.valid=true
  ·rw[if_pos ⟨rfl,hv⟩]
   have h3:=zty l hO (by omega) t hv
   unfold rsd at h3
   by_cases hs:(rs l t).size<=2000
   ·rw[if_pos hs];dsimp only
    rw[if_pos hs] at h3
    simp only[Tm.av] at h3
    simp -dsimp -implicitDefEqProofs only[go_sem,seval,↓reduceIte,Tm.av,h1,h2,hv,h3,zag (Nat.zero_le _),hb0]
    exact zep _ _ _ _ _
   ·rw[if_neg hs];dsimp only
    rw[if_neg hs] at h3
    simp only[Tm.av] at h3
    simp -dsimp -implicitDefEqProofs only[go_sem,seval,↓reduceIte,Tm.av,h1,h2,hv,h3,zag (Nat.zero_le _),hb0]
    exact zbo _ _ _ rfl
  ·rw[if_neg fun h=>hv h.2];dsimp only
   have hv':t.valid=false:=by simpa using hv
   simp -dsimp -implicitDefEqProofs only[go_sem,seval,↓reduceIte,Tm.av,h1,h2,hv',zag (Nat.zero_le _),hb0]
   exact zbo _ _ _ rfl
def IsS(s:AV)(hp:Heap)(l:List B):Prop:=s=.pv none (.sl (some 5) (bds l))\/IsB s hp l
theorem IsS.more{s:AV}{hp:Heap}{l:List B}(h:IsS s hp l)(e:Heap):IsS s (hp++e) l:=h.elim .inl fun h=>.inr (h.more e)
theorem IsS.place{s:AV}{hp:Heap}{l:List B}(h:IsS s hp l)(v:Int)(hs:Srt' l)(hl:l.length<1000000000)(e:Heap):
  S 154 [s,.pv none (.int .i64 v)] (hp++e)=some (.ret (.tuple [.pv none (.int .i64 (lbB l v:Int)),.pv none (.bool (fndB l v))]),hp++e):=by
 rcases h.more e with rfl|h
 ·exact zgz l v hs hl _
 ·exact zhi h v hs hl
theorem IsS.elem{s:AV}{hp:Heap}{l:List B}(h:IsS s hp l){i:Nat}{b:B}(hb:l[i]? =some b):
  ∃p q,zck (some 5) [s,.pv none (.int .i64 i)]=some p/\zet 1 [p]=some q/\∀e,aload (some 4) (hp++e) q=some (.pv (some 4) b.2.pv):=by
 have hlt:=(List.getElem?_eq_some_iff.1 hb).1
 rcases h with rfl|h
 ·refine⟨_,_,zab (zaH hb),rfl,fun e=> ?_⟩
  simp[aload,zbO]
 ·rcases h with⟨rfl,rfl⟩|⟨r,rfl,hr⟩
  ·simp at hb
  ·refine⟨_,_,zar hlt,rfl,fun e=> ?_⟩
   have h1:(hp++e)[r]? =some (.arr (some 5) (bds l) false):=by rw[List.getElem?_append_left (zbI hr)];exact hr
   simp[aload,h1,zau,zaH hb,zbO]
def zagg(q:Nat):AV:=.agg [(none,.pv none (.int .i64 0)),(none,.pv none (.int .i64 0)),(none,.pv none (.str [])),(none,.sl (some 4) q 0 0 0)]
theorem IsS.low{s:AV}{hp:Heap}{l:List B}(h:IsS s hp l)(k:Nat):s.refsIn.all (fun q=>decide (q<hp.length+k))=true:=by
 rw[List.all_eq_true]
 intro q hq
 rcases h with rfl|h
 ·cases hq
 ·have:=h.low q hq
  simp;omega
def bndX(n:Nat)(t:Tm):Heap:=[.box (some 4) (.pv (some 4) t.pv),.box (some 4) (zagg (n+3)),.arr (some 4) [] false,.arr (some 4) [] false]
theorem zfk{s:AV}{hp:Heap}{l:List B}(h:IsS s hp l)(hs:Srt' l)(hl:l.length<1000000000)(t:Tm)(hk:t.kind=0)(hf:fndB l t.n=true):
  S 145 [s,t.av] hp=some (.ret (.tuple [(toB l t.n).av,.pv none (.bool true)]),hp):=by
 refine zaO rfl rfl rfl rfl ?_
 have hpl:=fun e=>h.place t.n hs hl e
 obtain⟨p,q,h1,h2,h3⟩:=h.elem (zcU hf)
 rw[hf] at hpl
 simp only at h3
 simp -dsimp -implicitDefEqProofs only[go_sem,seval,↓reduceIte,Tm.av,zaj,zav,hk,hpl,h1,h2,h3,List.append_assoc,zah,zae,zai,zaf,Nat.add_assoc,List.length_append]
 rw[zf2 rfl ((zah hp _ 1).trans rfl)]
 refine⟨rfl,?_⟩
 rw[if_pos (by simp[AV.refsIn,AV.refsIn.gol,Tm.av])]
 exact List.take_left
theorem zgA{s:AV}{hp:Heap}{l:List B}(h:IsS s hp l)(hs:Srt' l)(hl:l.length<1000000000)(t:Tm)(hf:¬(t.kind=0/\fndB l t.n=true)):
  S 145 [s,t.av] hp=some (.ret (.tuple [zagg (hp.length+3),.pv none (.bool false)]),hp++bndX hp.length t):=by
 refine zaO rfl rfl rfl rfl ?_
 have hpl:=fun e=>h.place t.n hs hl e
 by_cases hk:t.kind=0
 ·have hf':fndB l t.n=false:=by
   cases e:fndB l t.n with
   |true=>exact absurd ⟨hk,e⟩ hf
   |false=>rfl
  rw[hf'] at hpl
  have hk':=eq_true hk
  simp -dsimp -implicitDefEqProofs only[go_sem,seval,↓reduceIte,Tm.av,zaj,zav,hk',hpl,hb0,zag (Nat.le_add_right _ _),List.append_assoc,zah,zae,zai,zaf,Nat.add_assoc,List.length_append]
  rw[zf2 rfl ((zah hp _ 1).trans rfl)]
  refine⟨rfl,?_⟩
  rw[if_neg (by simp[AV.refsIn,AV.refsIn.gol,AV.refsIn.go,zagg])]
  rfl
 ·have hk':=eq_false hk
  simp -dsimp -implicitDefEqProofs only[go_sem,seval,↓reduceIte,Tm.av,zaj,zav,hk',hb0,zag (Nat.le_add_right _ _),List.append_assoc,zah,zae,zai,zaf,Nat.add_assoc,List.length_append]
  rw[zf2 rfl ((zah hp _ 1).trans rfl)]
  refine⟨rfl,?_⟩
  rw[if_neg (by simp[AV.refsIn,AV.refsIn.gol,AV.refsIn.go,zagg])]
  rfl
theorem zkH{s:AV}{hp:Heap}{l:List B}(h:IsS s hp l)(hO:OKB l)(hl:l.length<1000000000)(t:Tm)(hv:t.valid=true):
  S 143 [s,t.av] hp=some (.ret (flw l t).av,hp):=by
 refine zaO rfl rfl rfl rfl ?_
 simp -dsimp -implicitDefEqProofs only[go_sem,seval,↓reduceIte,Tm.av,List.append_assoc,zah,zae,zai,zaf,Nat.add_assoc,List.length_append]
 refine za0 (fun n st=>∃t1:Tm,n=mu l t1/\t1.valid=true/\flw l t1=flw l t/\st=⟨[(0,s),(3,.ptr hp.length 0),(4,.ptr (hp.length+1) 0)],hp++[.box (some 4) (.pv (some 4) t1.pv),.box (some 4) (zagg (hp.length+2)),.arr (some 4) [] false]⟩) (n:=mu l t) ⟨t,rfl,hv,rfl,?_⟩ ?_
 ·simp -dsimp -implicitDefEqProofs only[go_sem,seval,↓reduceIte]
  try rfl
 ·rintro n st ⟨t1,rfl,hv1,he,rfl⟩
  by_cases hc:t1.kind=0/\fndB l t1.n=true
  ·obtain⟨hk,hf⟩:=hc
   have hb:=fun e=>zfk (h.more e) hO.good.1 hl t1 hk hf
   simp only[Tm.av] at hb
   have hlt:=zes hO.Acyc hk hf
   simp -dsimp -implicitDefEqProofs only[go_sem,seval,↓reduceIte,hb,List.append_assoc,zah,zae,zai,zaf,Nat.add_assoc,List.length_append]
   refine⟨mu l (toB l t1.n),hlt,toB l t1.n,rfl,(hO.to hf).1,by rw[<-he,zhF hO.Acyc hk hf],?_⟩
   rw[zaQ 3 rfl rfl (by simp[AObj.refs,AV.ofComps,pures,AV.refsIn,AV.refsIn.go,zagg]) (by simp[AV.refsIn,AV.refsIn.gol,h.low])]
   rfl
  ·have hb:=fun e=>zgA (h.more e) hO.good.1 hl t1 hc
   have he2:flw l t1=t1:=by
    by_cases hk:t1.kind=0
    ·exact zdA hO.Acyc (valid_fits hv1) hk fun e=>hc ⟨hk,e⟩
    ·exact zd4 l hk
   rw[he2] at he
   rw[<-he]
   simp only[Tm.av] at hb
   simp -dsimp -implicitDefEqProofs only[go_sem,seval,↓reduceIte,hb,bndX,zagg,zay,zag (Nat.le_add_right _ _),List.append_assoc,zah,zae,zai,zaf,Nat.add_assoc,List.length_append]
   refine⟨rfl,?_⟩
   rw[if_pos (by simp[AV.refsIn,Tm.av])]
   exact List.take_left
def Dep(l:List B)(v w:Int):Prop:=fndB l v=true/\w∈(toB l v).occ
theorem zte{l:List B}{r:Int->Nat}(hr:∀v,fndB l v=true->∀w∈(toB l v).occ,fndB l w=true->r w<r v){a b:Int}(h:Relation.TransGen (Dep l) a b)(hb:fndB l b=true):r b<r a:=by
 induction h with
 |single h=>exact hr _ h.1 _ h.2 hb
 |tail h1 h2 ih=>exact Nat.lt_trans (hr _ h2.1 _ h2.2 hb) (ih h2.1)
theorem ztf{l:List B}{x:Int}(h:Relation.TransGen (Dep l) x x)(hx:fndB l x=true):¬Acyc l:=fun⟨_,hr⟩=>Nat.lt_irrefl _ (zte hr h hx)
def MapI(m:List (Int × PV))(f:Int->Int):Prop:=∀v,(zdd v m).getD (.int .i64 0)=.int .i64 (f v)
theorem MapI.put{m:List (Int × PV)}{f:Int->Int}(h:MapI m f)(v x:Int):MapI (mPut v (.int .i64 x) m) (fun w=>if w=v then x else f w):=fun w=>by
 rw[zd1]
 by_cases e:w=v
 ·simp[e]
 ·simp only[if_neg e];exact h w
structure CInv(l:List B)(st:Int->Int):Prop where
 val:∀o,st o=0\/st o=1\/st o=2
 bnd:∀o,st o≠0->fndB l o=true
 done:∃(rk:Int->Nat) (c:Nat),∀v,st v=2->rk v<c/\∀w∈(toB l v).occ,fndB l w=true->st w=2/\rk w<rk v
structure CPost(l:List B)(st st':Int->Int)(v:Int):Prop where
 inv:CInv l st'
 opn:∀o,st' o=1↔st o=1
 dn:∀o,st o=2->st' o=2
 me:fndB l v=true->st' v=2
def cnt(l:List B)(st:Int->Int):Nat:=(l.filter fun b=>decide (st b.1=0)).length
theorem zvI{l:List B}{st st':Int->Int}(h:∀o,st o≠0->st' o≠0):cnt l st'<=cnt l st:=by
 unfold cnt
 induction l with
 |nil=>exact Nat.le_refl _
 |cons x r ih=>
  simp only[List.filter_cons]
  by_cases h1:st' x.1=0
  ·have h2:st x.1=0:=by
    rcases Int.lt_trichotomy (st x.1) 0 with h3|h3|h3
    ·exact absurd h1 (h _ (by omega))
    ·exact h3
    ·exact absurd h1 (h _ (by omega))
   simp[h1,h2];exact ih
  ·by_cases h2:st x.1=0
   ·simp[h1,h2];omega
   ·simp[h1,h2];exact ih
theorem ztW{st st':Int->Int}(h:∀o,st o≠0->st' o≠0){v:Int}(h0:st v=0)(h1:st' v≠0){t:Tm}:∀{l:List B},(v,t)∈l->cnt l st'<cnt l st
 |[],hm=>by cases hm
 |x::r,hm=>by
  have hle:=zvI (l:=r) h
  unfold cnt at hle ⊢
  simp only[List.filter_cons]
  by_cases e:x.1=v
  ·rw[e]
   simp[h0,h1];omega
  ·have hr:(v,t)∈r:=by
    rcases List.mem_cons.1 hm with h|h
    ·exact absurd (by rw[<-h]) e
    ·exact h
   have ih:=ztW h h0 h1 hr
   unfold cnt at ih
   by_cases h2:st' x.1=0
   ·have h3:st x.1=0:=by
     rcases Int.lt_trichotomy (st x.1) 0 with h3|h3|h3
     ·exact absurd h2 (h _ (by omega))
     ·exact h3
     ·exact absurd h2 (h _ (by omega))
    simp[h2,h3];omega
   ·by_cases h3:st x.1=0
    ·simp[h2,h3];omega
    ·simp[h2,h3];omega
theorem CPost.mono{l:List B}{st st':Int->Int}{v:Int}(h:CInv l st)(hp:CPost l st st' v)(o:Int)(ho:st o≠0):st' o≠0:=by
 rcases h.val o with e|e|e
 ·exact absurd e ho
 ·rw[(hp.opn o).2 e];decide
 ·rw[hp.dn o e];decide
theorem CInv.open_{l:List B}{st:Int->Int}(h:CInv l st){v:Int}(hf:fndB l v=true)(h0:st v=0):CInv l (fun w=>if w=v then 1 else st w):=by
 obtain⟨h1,h2,rk,c,h3⟩:=h
 refine⟨fun o=> ?_,fun o ho=> ?_,rk,c,fun w hw=> ?_⟩
 ·by_cases e:o=v
  ·simp[e]
  ·simp only[if_neg e];exact h1 o
 ·by_cases e:o=v
  ·rw[e];exact hf
  ·simp only[if_neg e] at ho;exact h2 o ho
 ·have hne:w≠v:=fun e=>by simp[e] at hw
  simp only[if_neg hne] at hw
  obtain⟨k1,k2⟩:=h3 w hw
  refine⟨k1,fun x hx hfx=> ?_⟩
  obtain⟨k3,k4⟩:=k2 x hx hfx
  have hne2:x≠v:=fun e=>by rw[e,h0] at k3;cases k3
  simp only[if_neg hne2]
  exact⟨k3,k4⟩
theorem CInv.close_{l:List B}{st:Int->Int}(h:CInv l st){v:Int}(hf:fndB l v=true)(h1:st v=1)(hall:∀w∈(toB l v).occ,fndB l w=true->st w=2):CInv l (fun w=>if w=v then 2 else st w):=by
 obtain⟨g1,g2,rk,c,g3⟩:=h
 refine⟨fun o=> ?_,fun o ho=> ?_,fun w=>if w=v then c else rk w,c+1,fun w hw=> ?_⟩
 ·by_cases e:o=v
  ·simp[e]
  ·simp only[if_neg e];exact g1 o
 ·by_cases e:o=v
  ·rw[e];exact hf
  ·simp only[if_neg e] at ho;exact g2 o ho
 ·have key:∀x∈(toB l w).occ,fndB l x=true->st x=2->x≠v:=fun x _ _ e e2=>by rw[e2,h1] at e;cases e
  by_cases e:w=v
  ·subst e
   refine⟨by simp,fun x hx hfx=> ?_⟩
   have k:=hall x hx hfx
   have hne:=key x hx hfx k
   simp only[if_neg hne,if_true]
   exact⟨k,(g3 x k).1⟩
  ·simp only[if_neg e] at hw ⊢
   obtain⟨k1,k2⟩:=g3 w hw
   refine⟨by omega,fun x hx hfx=> ?_⟩
   obtain⟨k3,k4⟩:=k2 x hx hfx
   have hne:=key x hx hfx k3
   simp only[if_neg hne]
   exact⟨k3,k4⟩
theorem CInv.acyc{l:List B}{st:Int->Int}(h:CInv l st)(hall:∀v,fndB l v=true->st v=2):Acyc l:=by
 obtain⟨_,_,rk,c,g3⟩:=h
 exact⟨rk,fun v hv w hw hf=>((g3 v (hall v hv)).2 w hw hf).2⟩
theorem zcR{sh:Sh}{hp:Heap}(l:List (Sh × AV)):wBox sh hp [.agg l]=if some (total l)=sh then zqM sh hp.length (zaw l (hp++[.box sh (.agg l)])) else none:=by
 simp only[wBox,AV.plain,AV.shp,true_and,AV.own]
 rfl
def vagg(v:Int):AV:=.agg [(none,.pv none (.int .i64 0)),(none,.pv none (.int .i64 v)),(none,.pv none (.str [])),(none,.tsl (some 4) [])]
theorem zoF(l:List B)(hs:Srt' l)(hl:l.length<1000000000)(v:Int)(hf:fndB l v=true)(hp:Heap):
  S 145 [.pv none (.sl (some 5) (bds l)),vagg v] hp=some (.ret (.tuple [(toB l v).av,.pv none (.bool true)]),hp):=by
 refine zaO rfl rfl rfl rfl ?_
 have hpl:=zgz l v hs hl
 rw[hf] at hpl
 simp -dsimp -implicitDefEqProofs only[go_sem,seval,↓reduceIte,vagg,Tm.av,hpl,zab (zaH (zcU hf)),zbO,zcR,List.append_assoc,zah,zae,zai,zaf,Nat.add_assoc,List.length_append]
 rw[zf2 rfl ((zah hp _ 2).trans rfl)]
 refine⟨rfl,?_⟩
 rw[if_pos (by simp[AV.refsIn,AV.refsIn.gol,Tm.av])]
 exact List.take_left
theorem zrg(l:List B)(hs:Srt' l)(hl:l.length<1000000000)(v:Int)(hf:fndB l v=false)(hp:Heap):
  ∃v' hp',S 145 [.pv none (.sl (some 5) (bds l)),vagg v] hp=some (.ret v',hp')/\∃e q,v'=.tuple [zagg q,.pv none (.bool false)]/\hp'=hp++e/\q<(hp++e).length/\0<e.length:=by
 refine zbu _ rfl rfl rfl rfl ?_
 have hpl:=zgz l v hs hl
 rw[hf] at hpl
 simp -dsimp -implicitDefEqProofs only[go_sem,seval,↓reduceIte,vagg,Tm.av,hpl,hb0,zcR,zag (Nat.le_add_right _ _),List.append_assoc,zah,zae,zai,zaf,Nat.add_assoc,List.length_append]
 rw[zf2 rfl ((zah hp _ 2).trans rfl)]
 rw[if_neg (by simp[AV.refsIn,AV.refsIn.gol,AV.refsIn.go])]
 exact⟨_,_,rfl,rfl,by simp,by simp⟩
theorem zvJ(l:List B)(hG:Good l)(hl:l.length<1000000000):∀(n:Nat) (st:Int->Int) (m:List (Int × PV)) (v:Int) (hp:Heap) (r:Nat),cnt l st=n->hp[r]? =some (.map none (za5 m))->MapI m st->CInv l st->(∀o,st o=1->Relation.TransGen (Dep l) o v)->
  ∃(b:Bool) (m':List (Int × PV)),S 142 [.pv none (.sl (some 5) (bds l)),.pv none (.int .i64 v),.map r] hp=some (.ret (.pv none (.bool b)),hp.set r (.map none (za5 m')))/\(b=true->¬Acyc l)/\(b=false->∃st',MapI m' st'/\CPost l st st' v):=by
 intro n
 induction n using Nat.strongRecOn with
 |_ n ih=>
  intro st m v hp r hn hr hM hI hpre
  have hlt:=zbI hr
  have hself:hp.set r (.map none (za5 m))=hp:=by
   have:=List.getElem?_eq_some_iff.1 hr
   obtain⟨_,h⟩:=this
   rw[<-h];exact List.set_getElem_self _
  have hlk0:∀e:Heap,zbh false none (.pv none (.int .i64 0)) false (hp++e) [.map r,.pv none (.int .i64 v)]=some (.pv none (.int .i64 (st v))):=fun e=>by
   rw[zht (m:=m) (by rw[List.getElem?_append_left hlt];exact hr),hM v]
  by_cases h0:st v=0
  rotate_left
  ·have hw:S 142 [.pv none (.sl (some 5) (bds l)),.pv none (.int .i64 v),.map r] hp=some (.ret (.pv none (.bool (decide (st v=1)))),hp):=by
    refine zaO rfl rfl rfl rfl ?_
    have hlk:=hlk0 []
    rw[List.append_nil] at hlk
    simp -dsimp -implicitDefEqProofs only[c142b18,go_sem,seval,↓reduceIte,hlk,h0]
    rw[if_pos (by simp[AV.refsIn]),List.take_length]
   refine⟨decide (st v=1),m,by rw[hself];exact hw,fun hb=> ?_,fun hb=>⟨st,hM,hI,fun _=>Iff.rfl,fun _ h=>h,fun hf=> ?_⟩⟩
   ·have h1:st v=1:=of_decide_eq_true hb
    exact ztf (hpre v h1) (hI.bnd v h0)
   ·have h1:¬st v=1:=of_decide_eq_false hb
    rcases hI.val v with h|h|h
    ·exact absurd h h0
    ·exact absurd h h1
    ·exact h
  ·by_cases hf:fndB l v=true
   ·suffices hP:∃v' hp',S 142 [.pv none (.sl (some 5) (bds l)),.pv none (.int .i64 v),.map r] hp=some (.ret v',hp')/\∃(b:Bool) (m':List (Int × PV)),v'=.pv none (.bool b)/\hp'=hp.set r (.map none (za5 m'))/\(b=true->¬Acyc l)/\(b=false->∃st',MapI m' st'/\CPost l st st' v) by
     obtain⟨v',hp',h1,b,m',rfl,rfl,h2⟩:=hP
     exact⟨b,m',h1,h2⟩
    obtain⟨htv,hts⟩:=hG.2 _ (List.mem_of_getElem? (zcU hf))
    simp only at htv hts
    have htz:=valid_size htv
    have hb:=zoF l hG.1 hl v hf
    have hV:=fun hp=>ztI (toB l v) htv hp
    have hLm:∀x,x∈vads [] (toB l v).occ↔x∈(toB l v).occ:=fun x=>by rw[znq];simp
    have hvl:=zfv (toB l v).occ []
    have hol:=(toB l v).occ_len
    rw[List.length_nil,Nat.zero_add] at hvl
    generalize hL:vads [] (toB l v).occ=L at hV hLm hvl
    simp only[Tm.av,vagg] at hb hV
    have hbu:zaY [(none,.pv none (.int .i64 0)),(none,.pv none (.int .i64 0)),(none,.pv none (.str [])),(none,.tsl (some 4) [])] [1] [.pv none (.int .i64 v)]=some (.agg [(none,.pv none (.int .i64 0)),(none,.pv none (.int .i64 v)),(none,.pv none (.str [])),(none,.tsl (some 4) [])]):=rfl
    have hms:∀(x:Int) (m:List (Int × PV)) (e:Heap),zb7 false none (hp.set r (.map none (za5 m))++e) [.map r,.pv none (.int .i64 v),.pv none (.int .i64 x)]=some (.undef,hp.set r (.map none (za5 (mPut v (.int .i64 x) m)))++e):=fun x m e=>by
     rw[zcQ (es:=za5 m) (by rw[List.getElem?_append_left (by simpa using hlt),List.getElem?_set_self hlt]) (zde _ _ _),List.set_append_left _ _ (by simpa using hlt),List.set_set]
    have hms1:=fun e=>hms 1 m e
    rw[hself] at hms1
    refine zbu _ rfl rfl rfl rfl ?_
    have hlk:=hlk0 []
    rw[List.append_nil] at hlk
    have hg0:∀(X:AObj) (e:Heap),(hp.set r X++e)[hp.length]? =e[0]? :=fun X e=>zct (by simp)
    simp -dsimp -implicitDefEqProofs only[go_sem,seval,↓reduceIte,hlk,h0,hbu,hb,hms1,hg0,hV,za7,zay,zag (Nat.le_add_right _ _),List.append_assoc,zah,zae,zai,zaf,Nat.add_assoc,List.length_append]
    have hI1:=hI.open_ hf h0
    have hM1:=hM.put v 1
    refine zbQ (α:=List (Int × PV)) L.length (fun i m=>∃st':Int->Int,MapI m st'/\CInv l st'/\(∀o,st' o=1↔(o=v\/st o=1))/\(∀o,st o=2->st' o=2)/\∀j,j<i->∀x,L[j]? =some x->fndB l x=true->st' x=2)
     (fun i m=>⟨[(0,.pv none (.sl (some 5) (bds l))),(1,.pv none (.int .i64 v)),(2,.map r),(31,.pv none (.sl none (ints L))),(32,.pv none (.int .i64 L.length)),(33,.pv none (.int .i64 i))],hp.set r (.map none (za5 m))++[.box (some 4) (.pv (some 4) (toB l v).pv),.arr (some 4) [] false]⟩) _ ⟨⟨_,hM1,hI1,fun o=> ?_,fun o ho=> ?_,fun j hj=>by omega⟩,?_⟩ ?_ ?_
    ·by_cases e:o=v
     ·simp[e]
     ·simp[e]
    ·have:o≠v:=fun e=>by rw[e,h0] at ho;cases ho
     simp only[if_neg this];exact ho
    ·rfl
    ·rintro i m2 h ⟨st2,k1,k2,k3,k4,k5⟩
     have hc:(i:Int)<(L.length:Int):=by omega
     obtain⟨x,hx⟩:∃x,L[i]? =some x:=⟨_,List.getElem?_eq_getElem h⟩
     have hxo:=(hLm x).1 (List.mem_of_getElem? hx)
     have hnz:∀o,st o≠0->st2 o≠0:=fun o ho=>by
      rcases hI.val o with e|e|e
      ·exact absurd e ho
      ·rw[(k3 o).2 (.inr e)];decide
      ·rw[k4 o e];decide
     have hcl:cnt l st2<n:=by
      rw[<-hn]
      exact ztW hnz h0 (by rw[(k3 v).2 (.inl rfl)];decide) (find_mem hf)
     obtain⟨b,m3,hcall,q1,q2⟩:=ih _ hcl st2 m2 x (hp.set r (.map none (za5 m2))++[.box (some 4) (.pv (some 4) (toB l v).pv),.arr (some 4) [] false]) r rfl (by rw[List.getElem?_append_left (by simpa using hlt),List.getElem?_set_self hlt]) k1 k2 (fun o ho=>by
      rcases(k3 o).1 ho with rfl|ho
      ·exact .single ⟨hf,hxo⟩
      ·exact .tail (hpre o ho) ⟨hf,hxo⟩)
     rw[List.set_append_left _ _ (by simpa using hlt),List.set_set] at hcall
     have w2:IntKind.i64.wrap ((i:Int)+1)=((i+1:Nat):Int):=by rw[zan (by omega) (by omega)];omega
     cases b with
     |true=>
      simp -dsimp -implicitDefEqProofs only[c142b18,go_sem,seval,↓reduceIte,za7,hc,zab (zc6 hx),hcall]
      refine⟨true,m3,rfl,?_,q1,fun e=>by cases e⟩
      rw[if_pos (by simp[AV.refsIn])]
      exact List.take_left' (by simp)
     |false=>
      obtain⟨st3,r1,r2⟩:=q2 rfl
      simp -dsimp -implicitDefEqProofs only[c142b18,go_sem,seval,↓reduceIte,za7,hc,zab (zc6 hx),hcall,w2]
      refine⟨m3,⟨st3,r1,r2.inv,fun o=>by rw[r2.opn,k3],fun o ho=>r2.dn o (k4 o ho),fun j hj y hy hfy=> ?_⟩,?_⟩
      ·rcases Nat.lt_or_ge j i with h|h
       ·exact r2.dn y (k5 j h y hy hfy)
       ·have:j=i:=by omega
        subst this
        rw[hx] at hy
        cases hy
        exact r2.me hfy
      ·rw[zaD (by simp)]
    ·rintro m2 ⟨st2,k1,k2,k3,k4,k5⟩
     have hc:¬(L.length:Int)<(L.length:Int):=by omega
     have hms2:=fun e=>hms 2 m2 e
     simp -dsimp -implicitDefEqProofs only[c142b18,go_sem,seval,↓reduceIte,za7,hc,hms2]
     refine⟨false,mPut v (.int .i64 2) m2,rfl,?_,(fun e=>by cases e),fun _=>⟨_,k1.put v 2,?_⟩⟩
     ·rw[if_pos (by simp[AV.refsIn])]
      exact List.take_left' (by simp)
     ·have hall:∀w∈(toB l v).occ,fndB l w=true->st2 w=2:=fun w hw hfw=>by
       obtain⟨j,hj,rfl⟩:=List.getElem_of_mem ((hLm w).2 hw)
       exact k5 j hj _ (List.getElem?_eq_getElem hj) hfw
      refine⟨k2.close_ hf ((k3 v).2 (.inl rfl)) hall,fun o=> ?_,fun o ho=> ?_,fun _=>by simp⟩
      ·by_cases e:o=v
       ·simp[e,h0]
       ·simp only[if_neg e]
        rw[k3]
        simp[e]
      ·by_cases e:o=v
       ·simp[e]
       ·simp only[if_neg e];exact k4 o ho
   ·have hf':fndB l v=false:=by simpa using hf
    obtain⟨v',hp',hb,e,q,rfl,rfl,hq,he⟩:=zrg l hG.1 hl v hf' hp
    have hw:S 142 [.pv none (.sl (some 5) (bds l)),.pv none (.int .i64 v),.map r] hp=some (.ret (.pv none (.bool false)),hp):=by
     refine zaO rfl rfl rfl rfl ?_
     have hlk:=hlk0 []
     rw[List.append_nil] at hlk
     simp only[vagg] at hb
     have hbu:zaY [(none,.pv none (.int .i64 0)),(none,.pv none (.int .i64 0)),(none,.pv none (.str [])),(none,.tsl (some 4) [])] [1] [.pv none (.int .i64 v)]=some (.agg [(none,.pv none (.int .i64 0)),(none,.pv none (.int .i64 v)),(none,.pv none (.str [])),(none,.tsl (some 4) [])]):=rfl
     simp -dsimp -implicitDefEqProofs only[c142b18,go_sem,seval,↓reduceIte,hlk,h0,hbu,hb,zagg,zay,zag (Nat.le_add_right _ _),List.append_assoc,zah,zae,zai,zaf,Nat.add_assoc,List.length_append]
     rw[if_pos (by simp[AV.refsIn])]
     exact List.take_left
    exact⟨false,m,by rw[hself];exact hw,(fun h=>by cases h),fun _=>⟨st,hM,hI,fun _=>Iff.rfl,fun _ h=>h,fun h=>absurd h hf⟩⟩
theorem zio(l:List B)(hl:l.length<100000000)(hsz:∀b∈l,b.2.size<1000000000)(hp:Heap):S 119 [.pv none (.sl (some 5) (bds l))] hp=some (.ret (.pv none (.bool (okb l))),hp):=by
 suffices hV:∃v,(∀hp,S 119 [.pv none (.sl (some 5) (bds l))] hp=some (.ret v,hp))/\VP l v by
  obtain⟨v,h1,b,rfl,h2⟩:=hV
  have:b=okb l:=by rw[Bool.eq_iff_iff,h2,okb_iff]
  rw[h1,this]
 refine zcT (ps:=[(none,.sl (some 5) (bds l))]) (VP l) rfl rfl rfl (fun hp=>rfl) rfl ?_
 simp -dsimp -implicitDefEqProofs only[c119k23,go_sem,seval,↓reduceIte,zau]
 refine zbQ (α:=Unit) l.length (fun i _=>∀j,j<i->WfAt l j) (fun i _=>⟨[(0,.pv none (.sl (some 5) (bds l))),(8,.pv none (.sl (some 5) (bds l))),(9,.pv none (.int .i64 l.length)),(10,.pv none (.int .i64 i))],[]⟩) () ⟨fun j hj=>by omega,rfl⟩ ?_ ?_
 ·rintro i - h hinv
  have hc:(i:Int)<(l.length:Int):=by omega
  obtain⟨b,hb⟩:∃b,l[i]? =some b:=⟨_,List.getElem?_eq_getElem h⟩
  have hbs:=hsz b (List.mem_of_getElem? hb)
  have hv:=fun hp=>zci b.2 hp hbs
  simp only[Tm.av] at hv
  have w2:IntKind.i64.wrap ((i:Int)+1)=((i+1:Nat):Int):=by rw[zan (by omega) (by omega)];omega
  have next:WfAt l i->∀j,j<i+1->WfAt l j:=fun hw j hj=>by
   rcases Nat.lt_or_ge j i with h|h
   ·exact hinv j h
   ·have:j=i:=by omega
    subst this;exact hw
  by_cases h1:b.1<0
  ·simp -dsimp -implicitDefEqProofs only[c119b10,go_sem,seval,↓reduceIte,zau,hc,zab (zaH hb),zaP,h1]
   exact zgt fun h=>by have:=(h.wf i b hb).1;omega
  ·by_cases h2:1099511627776<b.1
   ·simp -dsimp -implicitDefEqProofs only[c119b10,go_sem,seval,↓reduceIte,zau,hc,zab (zaH hb),zaP,h1,h2]
    exact zgt fun h=>by have:=(h.wf i b hb).2.1;omega
   ·by_cases h3:0<i
    ·have h3':(0:Int)<(i:Int):=by omega
     obtain⟨c,hcc⟩:∃c,l[i - 1]? =some c:=⟨_,List.getElem?_eq_getElem (by omega)⟩
     have w3:IntKind.i64.wrap ((i:Int) - 1)=((i - 1:Nat):Int):=by rw[zan (by omega) (by omega)];omega
     by_cases h4:b.1<=c.1
     ·simp -dsimp -implicitDefEqProofs only[c119b10,go_sem,seval,↓reduceIte,zau,hc,zab (zaH hb),zab (zaH hcc),zaP,h1,h2,h3',h4,w3]
      exact zgt fun h=>by have:=(h.wf i b hb).2.2.2 h3 c hcc;omega
     ·by_cases h5:b.2.valid=true
      ·simp -dsimp -implicitDefEqProofs only[c119b10,go_sem,seval,↓reduceIte,zau,hc,zab (zaH hb),zab (zaH hcc),zaP,zbO,h1,h2,h3',h4,w3,hv,h5,w2]
       exact⟨(),next fun b' hb'=>by rw[hb] at hb';cases hb';exact⟨by omega,by omega,h5,fun _ c' hc'=>by rw[hcc] at hc';cases hc';omega⟩,by rfl⟩
      ·have h5':b.2.valid=false:=by simpa using h5
       simp -dsimp -implicitDefEqProofs only[c119b10,go_sem,seval,↓reduceIte,zau,hc,zab (zaH hb),zab (zaH hcc),zaP,zbO,h1,h2,h3',h4,w3,hv,h5']
       exact zgt fun h=>by have:=(h.wf i b hb).2.2.1;rw[h5'] at this;cases this
    ·have h3':¬(0:Int)<(i:Int):=by omega
     by_cases h5:b.2.valid=true
     ·simp -dsimp -implicitDefEqProofs only[c119b10,go_sem,seval,↓reduceIte,zau,hc,zab (zaH hb),zaP,zbO,h1,h2,h3',hv,h5,w2]
      exact⟨(),next fun b' hb'=>by rw[hb] at hb';cases hb';exact⟨by omega,by omega,h5,fun h=>absurd h h3⟩,by rfl⟩
     ·have h5':b.2.valid=false:=by simpa using h5
      simp -dsimp -implicitDefEqProofs only[c119b10,go_sem,seval,↓reduceIte,zau,hc,zab (zaH hb),zaP,zbO,h1,h2,h3',hv,h5']
      exact zgt fun h=>by have:=(h.wf i b hb).2.2.1;rw[h5'] at this;cases this
 ·rintro - hinv
  have hc:¬(l.length:Int)<(l.length:Int):=by omega
  have hG:Good l:=⟨zrM hinv,fun b hb=>by
   obtain⟨i,hlt,rfl⟩:=List.getElem_of_mem hb
   exact⟨(hinv i hlt _ (List.getElem?_eq_getElem hlt)).2.2.1,hsz _ hb⟩⟩
  have hrg:∀b∈l,0<=b.1/\b.1<=1099511627776:=fun b hb=>by
   obtain⟨i,hlt,rfl⟩:=List.getElem_of_mem hb
   exact⟨(hinv i hlt _ (List.getElem?_eq_getElem hlt)).1,(hinv i hlt _ (List.getElem?_eq_getElem hlt)).2.1⟩
  simp -dsimp -implicitDefEqProofs only[c119b10,c119k23,go_sem,seval,↓reduceIte,zau,hc]
  refine zbQ (α:=List (Int × PV)) l.length (fun i m=>∃st:Int->Int,MapI m st/\CInv l st/\(∀o,st o≠1)/\∀j,j<i->∀b,l[j]? =some b->st b.1=2) (fun i m=>⟨[(0,.pv none (.sl (some 5) (bds l))),(5,.map 0),(46,.pv none (.sl (some 5) (bds l))),(47,.pv none (.int .i64 l.length)),(48,.pv none (.int .i64 i))],[.map none (za5 m)]⟩) [] ⟨⟨fun _=>0,fun v=>rfl,⟨fun _=>.inl rfl,fun o h=>absurd rfl h,fun _=>0,0,(fun v h=>(by cases h))⟩,(fun o h=>(by cases h)),fun j hj=>by omega⟩,rfl⟩ ?_ ?_
  ·rintro i m h ⟨st,k1,k2,k3,k4⟩
   have hc:(i:Int)<(l.length:Int):=by omega
   obtain⟨b,hb⟩:∃b,l[i]? =some b:=⟨_,List.getElem?_eq_getElem h⟩
   have w2:IntKind.i64.wrap ((i:Int)+1)=((i+1:Nat):Int):=by rw[zan (by omega) (by omega)];omega
   obtain⟨bb,m3,hcall,q1,q2⟩:=zvJ l hG (by omega) _ st m b.1 [.map none (za5 m),.box (some 5) (.pv (some 5) (bdp b))] 0 rfl rfl k1 k2 (fun o ho=>absurd ho (k3 o))
   simp only[List.set_cons_zero] at hcall
   cases bb with
   |true=>
    simp -dsimp -implicitDefEqProofs only[c119b10,c119b22,c119k23,go_sem,seval,↓reduceIte,zau,hc,zab (zaH hb),zaP,hcall]
    exact zgt fun h=>q1 rfl h.Acyc
   |false=>
    obtain⟨st3,r1,r2⟩:=q2 rfl
    simp -dsimp -implicitDefEqProofs only[c119b10,c119b22,c119k23,go_sem,seval,↓reduceIte,zau,hc,zab (zaH hb),zaP,hcall,w2]
    refine⟨m3,⟨st3,r1,r2.inv,fun o ho=>k3 o ((r2.opn o).1 ho),fun j hj y hy=> ?_⟩,by rfl⟩
    rcases Nat.lt_or_ge j i with h|h
    ·exact r2.dn _ (k4 j h y hy)
    ·have:j=i:=by omega
     subst this
     rw[hb] at hy
     cases hy
     exact r2.me (zrP hG.1 hb).1
  ·rintro m ⟨st,k1,k2,k3,k4⟩
   have hc:¬(l.length:Int)<(l.length:Int):=by omega
   simp -dsimp -implicitDefEqProofs only[c119b10,c119b22,c119k23,go_sem,seval,↓reduceIte,zau,hc]
   refine zt5 (zt6 hG hrg (k2.acyc fun v hv=> ?_))
   have:=zcU hv
   exact k4 _ (List.getElem?_eq_some_iff.1 this).1 _ this
theorem zoQ{hp hp':Heap}{t:Tm}{r o:Nat}(h:hp[r]? =some (.box (some 4) (.pv (some 4) t.pv)))(h':hp'[r]? =some (.box (some 4) (.pv (some 4) t.pv))):zbx hp hp' (.ptr r o)=true:=by
 simp[zbx,h,h',AObj.beq,AV.beq,zgC]
def SzI(l:List B)(m:List (Int × PV)):Prop:=∃f:Int->Int,MapI m f/\∀v,f v≠0->fndB l v=true/\f v=((min (rs l (toB l v)).size 2001:Nat):Int)
theorem SzI.put{l:List B}{m:List (Int × PV)}(h:SzI l m){v:Int}(hf:fndB l v=true):SzI l (mPut v (.int .i64 ((min (rs l (toB l v)).size 2001:Nat):Int)) m):=by
 obtain⟨f,h1,h2⟩:=h
 refine⟨_,h1.put v _,fun w hw=> ?_⟩
 by_cases e:w=v
 ·subst e;simp[hf]
 ·simp only[if_neg e] at hw ⊢;exact h2 w hw
def XL(n:Nat)(t:Tm):Heap:=[.box (some 4) (.pv (some 4) t.pv),.box (some 4) (.pv (some 4) t.pv),.box (some 4) (zagg (n+4)),.arr (some 4) [] false,.arr (some 4) [] false,.box (some 4) (zagg (n+4)),.arr (some 4) [] false]
theorem zoR(l:List B)(hO:OKB l)(hl:l.length<1000000000):∀(k:Nat) (t:Tm) (hp:Heap) (r:Nat) (m:List (Int × PV)),mu l t=k->t.valid=true->hp[r]? =some (.map none (za5 m))->SzI l m->
  ∃m',S 123 [.pv none (.sl (some 5) (bds l)),t.av,.map r] hp=some (.ret (.pv none (.int .i64 ((min (rs l t).size 2001:Nat):Int))),hp.set r (.map none (za5 m')))/\SzI l m':=by
 intro k
 induction k using Nat.strongRecOn with
 |_ k ih=>
  intro t hp r m hk hv hr hS
  have hlt:=zbI hr
  have htz:=valid_size hv
  have hself:hp.set r (.map none (za5 m))=hp:=by
   obtain⟨_,h⟩:=List.getElem?_eq_some_iff.1 hr
   rw[<-h];exact List.set_getElem_self _
  have hg0:∀(X:AObj) (e:Heap),(hp.set r X++e)[hp.length]? =e[0]? :=fun X e=>zct (by simp)
  have hg1:∀(X:AObj) (e:Heap) (k:Nat),(hp.set r X++e)[hp.length+k]? =e[k]? :=fun X e k=>getN (by simp) k
  have hlen:∀(X:AObj),(hp.set r X).length=hp.length:=fun X=>by simp
  have hs1:∀(X Y:AObj) (e:Heap) (k:Nat),(hp.set r X++e).set (hp.length+k) Y=hp.set r X++e.set k Y:=fun X Y e k=>setN (by simp) k Y
  have hrr:∀(X:AObj) (e:Heap),(hp.set r X++e)[r]? =some X:=fun X e=>by rw[List.getElem?_append_left (by simpa using hlt),List.getElem?_set_self hlt]
  have hss:∀(X Y:AObj) (e:Heap),(hp.set r X++e).set r Y=hp.set r Y++e:=fun X Y e=>by rw[List.set_append_left _ _ (by simpa using hlt),List.set_set]
  suffices hP:∃v' hp',S 123 [.pv none (.sl (some 5) (bds l)),t.av,.map r] hp=some (.ret v',hp')/\∃m',v'=.pv none (.int .i64 ((min (rs l t).size 2001:Nat):Int))/\hp'=hp.set r (.map none (za5 m'))/\SzI l m' by
   obtain⟨v',hp',h1,m',rfl,rfl,h2⟩:=hP
   exact⟨m',h1,h2⟩
  by_cases hc:t.kind=0/\fndB l t.n=true
  ·obtain⟨hk0,hf⟩:=hc
   have hb:=fun hp=>zfk (s:=.pv none (.sl (some 5) (bds l))) (hp:=hp) (l:=l) (.inl rfl) hO.good.1 hl t hk0 hf
   simp only[Tm.av] at hb
   obtain⟨hto,_⟩:=hO.to hf
   have hlt2:=zes hO.Acyc hk0 hf
   have hrs:rs l t=rs l (toB l t.n):=by rw[zhD hO.Acyc hk0,if_pos hf]
   rw[hrs]
   obtain⟨f,hM,hfv⟩:=id hS
   have hlk:∀e:Heap,zbh false none (.pv none (.int .i64 0)) false (hp++e) [.map r,.pv none (.int .i64 t.n)]=some (.pv none (.int .i64 (f t.n))):=fun e=>by
    rw[zht (m:=m) (by rw[List.getElem?_append_left hlt];exact hr),hM]
   refine zbu _ rfl rfl rfl rfl ?_
   have hpos:=Tm.size_pos (rs l (toB l t.n))
   by_cases h0:f t.n=0
   ·obtain⟨m2,hcall,hS2⟩:=ih _ (by omega) (toB l t.n) (hp++[.box (some 4) (.pv (some 4) t.pv),.box (some 4) (.pv (some 4) (toB l t.n).pv),.arr (some 4) [] false]) r m rfl hto (by rw[List.getElem?_append_left hlt];exact hr) hS
    rw[List.set_append_left _ _ hlt] at hcall
    simp only[Tm.av] at hcall
    have hsp:∀(X:AObj) (e e':Heap),zbx (hp++.box (some 4) (.pv (some 4) t.pv)::e) (hp.set r X++.box (some 4) (.pv (some 4) t.pv)::e') (.ptr hp.length 1)=true:=fun X e e'=>zoQ (t:=t) (by rw[zae];rfl) (by rw[hg0];rfl)
    have hms:∀(x:Int) (m:List (Int × PV)) (e:Heap),zb7 false none (hp.set r (.map none (za5 m))++e) [.map r,.pv none (.int .i64 t.n),.pv none (.int .i64 x)]=some (.undef,hp.set r (.map none (za5 (mPut t.n (.int .i64 x) m)))++e):=fun x m e=>by
     rw[zcQ (es:=za5 m) (hrr _ _) (zde _ _ _),hss]
    have hlk2:∀(x:Int) (m:List (Int × PV)) (e:Heap),zbh false none (.pv none (.int .i64 0)) false (hp.set r (.map none (za5 (mPut t.n (.int .i64 x) m)))++e) [.map r,.pv none (.int .i64 t.n)]=some (.pv none (.int .i64 x)):=fun x m e=>by
     rw[zht (m:=mPut t.n (.int .i64 x) m) (hrr _ _),zd1,if_pos rfl]
     rfl
    simp -dsimp -implicitDefEqProofs only[go_sem,seval,↓reduceIte,Tm.av,hb,zav,hlk,h0,hcall,hsp,hms,hlk2,hg0,List.take_succ_cons,List.drop_succ_cons,List.all_cons,List.all_nil,zag (Nat.le_add_right _ _),List.append_assoc,zah,zae,zai,zaf,Nat.add_assoc,List.length_append]
    exact⟨_,by rw[if_pos (by simp[AV.refsIn])];exact List.take_left' (by simp),hS2.put hf⟩
   ·have hfe:=(hfv _ h0).2
    simp -dsimp -implicitDefEqProofs only[go_sem,seval,↓reduceIte,Tm.av,hb,zav,hlk,h0,zag (Nat.le_add_right _ _),List.append_assoc,zah,zae,zai,zaf,Nat.add_assoc,List.length_append]
    exact⟨m,by rw[hfe],by rw[if_pos (by simp[AV.refsIn]),hself];exact List.take_left,hS⟩
  ·have hb:=fun hp=>zgA (s:=.pv none (.sl (some 5) (bds l))) (hp:=hp) (l:=l) (.inl rfl) hO.good.1 hl t hc
   simp only[Tm.av] at hb
   have hrs:(rs l t).size=1+Tm.sizes (t.args.map (rs l)):=by
    by_cases hk0:t.kind=0
    ·have hf:¬fndB l t.n=true:=fun e=>hc ⟨hk0,e⟩
     rw[zfX hO.Acyc (valid_fits hv) hk0 hf,za1 (valid_fits hv) hk0]
     rfl
    ·rw[zft l hk0,Tm.size_eq]
     rfl
   have harg:∀u∈t.args,mu l u<k/\u.valid=true:=fun u hu=>by
    have hk0:¬t.kind=0:=fun hk0=>by
     rw[za1 (valid_fits hv) hk0] at hu
     cases hu
    exact⟨by rw[<-hk];exact zfs l hk0 hu,zaR hv hu⟩
   refine zbu _ rfl rfl rfl rfl ?_
   simp -dsimp -implicitDefEqProofs only[go_sem,seval,↓reduceIte,Tm.av,hb,bndX,zagg,zad,Tm.pvs_len,zay,zag (Nat.le_add_right _ _),List.append_assoc,zah,zae,zai,zaf,Nat.add_assoc,List.length_append]
   refine zbQ (α:=List (Int × PV)) t.args.length (fun _ m=>SzI l m) (fun i m=>⟨[(0,.pv none (.sl (some 5) (bds l))),(2,.map r),(9,.pv none (.int .i64 ((min (1+Tm.sizes ((t.args.map (rs l)).take i)) 2001:Nat):Int))),(36,.pv none (.sl (some 4) (Tm.pvs t.args))),(37,.pv none (.int .i64 t.args.length)),(38,.pv none (.int .i64 i))],hp.set r (.map none (za5 m))++XL hp.length t⟩) m ⟨hS,?_⟩ ?_ ?_
   ·rw[hself]
    rfl
   ·rintro i m2 h hS2
    have hc:(i:Int)<(t.args.length:Int):=by omega
    obtain⟨u,hu⟩:∃u,t.args[i]? =some u:=⟨_,List.getElem?_eq_getElem h⟩
    have hum:=List.mem_of_getElem? hu
    obtain⟨ha1,ha2⟩:=harg u hum
    have hrt:=Tm.zw0 (l:=t.args.map (rs l)) (i:=i) (t:=rs l u) (by simp[hu])
    have hlen2:=Tm.zwT t.args
    have hts:=t.size_eq
    obtain⟨m3,hcall,hS3⟩:=ih _ ha1 u (hp.set r (.map none (za5 m2))++(XL hp.length t++[.box (some 4) (.pv (some 4) u.pv),.arr (some 4) [] false])) r m2 rfl ha2 (hrr _ _) hS2
    rw[hss] at hcall
    simp only[Tm.av,XL,zagg,List.cons_append,List.nil_append] at hcall
    have w2:IntKind.i64.wrap ((i:Int)+1)=((i+1:Nat):Int):=by rw[zan (by omega) (by omega)];omega
    have w3:IntKind.i64.wrap (((min (1+Tm.sizes ((t.args.map (rs l)).take i)) 2001:Nat):Int)+((min (rs l u).size 2001:Nat):Int))=((min (1+Tm.sizes ((t.args.map (rs l)).take i)) 2001+min (rs l u).size 2001:Nat):Int):=by rw[zan (by omega) (by omega)];omega
    have w4:(if(2001:Int)<((min (1+Tm.sizes ((t.args.map (rs l)).take i)) 2001+min (rs l u).size 2001:Nat):Int) then 2001 else((min (1+Tm.sizes ((t.args.map (rs l)).take i)) 2001+min (rs l u).size 2001:Nat):Int))=((min (1+Tm.sizes ((t.args.map (rs l)).take (i+1))) 2001:Nat):Int):=by
     rw[hrt]
     split <;> omega
    simp -dsimp -implicitDefEqProofs only[c123b16,go_sem,seval,↓reduceIte,XL,zagg,hc,zab (Tm.pvs_get hu),hcall,w2,w3,w4,hlen,hg0,hg1,hs1,zay,zag (Nat.le_add_right _ _),List.append_assoc,zah,zae,zai,zaf,Nat.add_assoc,List.length_append]
    refine⟨m3,hS3,?_⟩
    rw[zaQ 7 (by simp) rfl (by simp[AObj.refs,AV.ofComps,pures,AV.refsIn,AV.refsIn.go]) (by simp[AV.refsIn,AV.refsIn.gol];omega)]
    rfl
   ·rintro m2 hS2
    have hc:¬(t.args.length:Int)<(t.args.length:Int):=by omega
    simp -dsimp -implicitDefEqProofs only[c123b16,go_sem,seval,↓reduceIte,hc]
    refine⟨m2,?_,?_,hS2⟩
    ·rw[hrs,List.take_of_length_le (by rw[List.length_map];exact Nat.le_refl _)]
    ·rw[if_pos (by simp[AV.refsIn])]
     exact List.take_left' (by simp)
def appP(t:Tm)(es:List PV):Heap:=[.box (some 4) (.pv (some 4) t.pv),.box (some 4) (zagg 2),.arr (some 4) [] false,.box (some 4) (.pv (some 4) t.pv),.box (some 4) (zagg 6),.arr (some 4) [] false,.arr (some 4) [] false,.box (some 4) (zagg 6),.arr (some 4) [] false,.box (some 4) (.agg [(none,.pv none (.int .i64 t.kind)),(none,.pv none (.int .i64 t.n)),(none,.pv none (.str t.name)),(none,.sl (some 4) 11 es.length 0 es.length)]),.arr (some 4) [] false,.arr (some 4) es false]
theorem zoY(l:List B)(hO:OKB l)(hl:l.length<1000000000):∀(k:Nat) (t:Tm),mu l t=k->t.valid=true->∀hp:Heap,S 124 [.pv none (.sl (some 5) (bds l)),t.av] hp=some (.ret (rs l t).av,hp):=by
 intro k
 induction k using Nat.strongRecOn with
 |_ k ih=>
  intro t hk hv hp
  have htz:=valid_size hv
  have hlen2:=Tm.zwT t.args
  have hts:=t.size_eq
  refine zao rfl rfl rfl (zac [(none,.sl (some 5) (bds l)),(some 4,t.pv)]) rfl ?_
  have hb4:zaY [(none,.pv none (.int .i64 0)),(none,.pv none (.int .i64 0)),(none,.pv none (.str [])),(none,.tsl (some 4) [])] [0,1,2] [.pv none (.int .i64 t.kind),.pv none (.int .i64 t.n),.pv none (.str t.name)]=some (.agg [(none,.pv none (.int .i64 t.kind)),(none,.pv none (.int .i64 t.n)),(none,.pv none (.str t.name)),(none,.tsl (some 4) [])]):=rfl
  by_cases hc:t.kind=0/\fndB l t.n=true
  ·obtain⟨hk0,hf⟩:=hc
   have hb:=fun hp=>zfk (s:=.pv none (.sl (some 5) (bds l))) (hp:=hp) (l:=l) (.inl rfl) hO.good.1 hl t hk0 hf
   obtain⟨hto,_⟩:=hO.to hf
   have hlt2:=zes hO.Acyc hk0 hf
   have hrs:rs l t=rs l (toB l t.n):=by rw[zhD hO.Acyc hk0,if_pos hf]
   have hcall:=ih _ (by omega) (toB l t.n) rfl hto
   rw[hrs]
   simp only[Tm.av] at hb hcall
   simp -dsimp -implicitDefEqProofs only[go_sem,seval,↓reduceIte,Tm.av,hb,hcall,zag (Nat.zero_le _)]
  ·have hb:=fun hp=>zgA (s:=.pv none (.sl (some 5) (bds l))) (hp:=hp) (l:=l) (.inl rfl) hO.good.1 hl t hc
   simp only[Tm.av] at hb
   have hrs:rs l t=.mk t.kind t.n t.name (t.args.map (rs l)):=by
    by_cases hk0:t.kind=0
    ·have hf:¬fndB l t.n=true:=fun e=>hc ⟨hk0,e⟩
     rw[zfX hO.Acyc (valid_fits hv) hk0 hf,za1 (valid_fits hv) hk0]
     rfl
    ·exact zft l hk0
   have harg:∀u∈t.args,mu l u<k/\u.valid=true:=fun u hu=>by
    have hk0:¬t.kind=0:=fun hk0=>by
     rw[za1 (valid_fits hv) hk0] at hu
     cases hu
    exact⟨by rw[<-hk];exact zfs l hk0 hu,zaR hv hu⟩
   rw[hrs]
   generalize hts':t.args.map (rs l)=ts'
   have htl:ts'.length=t.args.length:=by rw[<-hts',List.length_map]
   simp -dsimp -implicitDefEqProofs only[go_sem,seval,↓reduceIte,Tm.av,hb,bndX,zagg,hb4,zaj,zav,zat,zad,Tm.pvs_len,zay,zag (Nat.zero_le _)]
   refine zbQ (α:=Unit) t.args.length (fun _ _=>True) (fun i _=>⟨[(0,.pv none (.sl (some 5) (bds l))),(4,.ptr 1 0),(7,.ptr 9 0),(28,.pv none (.sl (some 4) (Tm.pvs t.args))),(29,.pv none (.int .i64 t.args.length)),(30,.pv none (.int .i64 i))],appP t (Tm.pvs (ts'.take i))⟩) () ⟨trivial,rfl⟩ ?_ ?_
   ·rintro i - h -
    have hc:(i:Int)<(t.args.length:Int):=by omega
    obtain⟨u,hu⟩:∃u,t.args[i]? =some u:=⟨_,List.getElem?_eq_getElem h⟩
    have hum:=List.mem_of_getElem? hu
    obtain⟨ha1,ha2⟩:=harg u hum
    have hcall:=ih _ ha1 u rfl ha2
    simp only[Tm.av] at hcall
    have hpt:=Tm.zwX (l:=ts') (i:=i) (t:=rs l u) (by rw[<-hts'];simp[hu])
    have w2:IntKind.i64.wrap ((i:Int)+1)=((i+1:Nat):Int):=by rw[zan (by omega) (by omega)];omega
    have hl1:(Tm.pvs (ts'.take i)).length=i:=by rw[Tm.pvs_len,List.length_take];omega
    have hl2:(ts'.take (i+1)).length=i+1:=by rw[List.length_take];omega
    have hlim:i+1<=lim:=by unfold lim;omega
    simp -dsimp -implicitDefEqProofs only[c124b13,go_sem,seval,↓reduceIte,appP,zagg,zad,Tm.pvs_len,hc,zab (Tm.pvs_get hu),hcall,w2,hl1,hlim,hpt,zag (Nat.zero_le _),zaX (Nat.zero_le _)]
    exact⟨(),by rw[hl2];rfl⟩
   ·rintro - -
    have hc:¬(t.args.length:Int)<(t.args.length:Int):=by omega
    have htk:ts'.take t.args.length=ts':=List.take_of_length_le (by omega)
    simp -dsimp -implicitDefEqProofs only[c124b13,go_sem,seval,↓reduceIte,appP,zagg,zad,Tm.pvs_len,hc,htk,zay,zag (Nat.zero_le _),zaX (Nat.zero_le _)]
    exact zfW _ _ _ (Tm.pvs ts') _ (Tm.pvs_len ts').symm rfl
theorem zmt(l:List B)(t:Tm)(hl:l.length<100000000)(hsz:∀b∈l,b.2.size<1000000000)(ht:t.size<1000000000)(hp:Heap):
  S 86 [.pv none (.sl (some 5) (bds l)),t.av] hp=some (.ret (.tuple [(rsR l t).1.av,.pv none (.int .i64 (rsR l t).2)]),hp):=by
 refine zao rfl rfl rfl (zac [(none,.sl (some 5) (bds l)),(some 4,t.pv)]) rfl ?_
 have h1:=zio l hl hsz
 have h2:=fun hp=>zci t hp ht
 simp only[Tm.av] at h2
 unfold rsR
 cases hb:okb l with
 |false=>
  rw[hb] at h1
  rw[if_neg (by simp)];dsimp only
  simp -dsimp -implicitDefEqProofs only[go_sem,seval,↓reduceIte,Tm.av,h1,h2,zag (Nat.zero_le _),hb0]
  exact zbo _ _ _ rfl
 |true=>
  rw[hb] at h1
  have hO:=okb_iff.1 hb
  by_cases hv:t.valid=true
  ·rw[if_pos ⟨rfl,hv⟩]
   have h3:=zoY l hO (by omega) _ t rfl hv
   obtain⟨m',h4,_⟩:=zoR l hO (by omega) _ t [.box (some 4) (.pv (some 4) t.pv),.box (some 4) (zagg 2),.arr (some 4) [] false,.map none []] 3 [] rfl hv rfl ⟨fun _=>0,fun _=>rfl,fun v h=>absurd rfl h⟩
   simp only[Tm.av,zagg,List.set_cons_zero,List.set_cons_succ] at h3 h4
   by_cases hs:(rs l t).size<=2000
   ·rw[if_pos hs];dsimp only
    have hm:¬(2000:Int)<((min (rs l t).size 2001:Nat):Int):=by omega
    simp -dsimp -implicitDefEqProofs only[go_sem,seval,↓reduceIte,Tm.av,h1,h2,hv,h3,h4,hm,zag (Nat.zero_le _),hb0]
    exact zep _ _ _ _ _
   ·rw[if_neg hs];dsimp only
    have hm:(2000:Int)<((min (rs l t).size 2001:Nat):Int):=by omega
    simp -dsimp -implicitDefEqProofs only[go_sem,seval,↓reduceIte,Tm.av,h1,h2,hv,h3,h4,hm,zag (Nat.zero_le _),hb0]
    exact zbo _ _ _ rfl
  ·rw[if_neg fun h=>hv h.2];dsimp only
   have hv':t.valid=false:=by simpa using hv
   simp -dsimp -implicitDefEqProofs only[go_sem,seval,↓reduceIte,Tm.av,h1,h2,hv',zag (Nat.zero_le _),hb0]
   exact zbo _ _ _ rfl
def inR(l:List B)(v:Int)(t:Tm):Prop:=v∈(rs l t).occ
theorem zem{l:List B}(h:Acyc l){v:Int}{t:Tm}(hv:t.fits=true)(hk:t.kind=0)(hf:¬fndB l t.n=true):inR l v t↔v=t.n:=by
 unfold inR
 rw[zfX h hv hk hf,Tm.zw1,if_pos hk]
 simp
theorem znj{l:List B}(h:Acyc l){v:Int}{t:Tm}(hk:t.kind=0)(hf:fndB l t.n=true):inR l v t↔inR l v (toB l t.n):=by
 unfold inR
 rw[zhD h hk,if_pos hf]
theorem zhu{l:List B}{v:Int}{t:Tm}(hk:¬t.kind=0):inR l v t↔∃u∈t.args,inR l v u:=by
 unfold inR
 rw[zft l hk,Tm.zw1,if_neg (by exact hk)]
 constructor
 ·intro h
  obtain⟨u,hu,h⟩:=Tm.zxf h
  obtain⟨x,hx,rfl⟩:=List.mem_map.1 hu
  exact⟨x,hx,h⟩
 ·rintro⟨u,hu,h⟩
  exact Tm.zxe (List.mem_map.2 ⟨u,hu,rfl⟩) h
def SeenPre(l:List B)(v:Int)(sn:Int->Prop)(t:Tm):Prop:=∀w,sn w->fndB l w=true/\(¬inR l v (tvar w)\/mu l t<mu l (tvar w))
structure SeenPost(l:List B)(v:Int)(sn sn':Int->Prop)(t:Tm)(b:Bool):Prop where
 yes:b=true->inR l v t
 no:b=false->¬inR l v t/\∀w,sn' w->sn w\/(fndB l w=true/\¬inR l v (tvar w))
theorem SeenPre.arg{l:List B}{v:Int}{sn:Int->Prop}{t u:Tm}(h:SeenPre l v sn t)(hm:mu l u<mu l t):SeenPre l v sn u:=fun w hw=>by
 obtain⟨h1,h2|h2⟩:=h w hw
 ·exact⟨h1,.inl h2⟩
 ·exact⟨h1,.inr (by omega)⟩
theorem ztp{l:List B}{t:Tm}(hv:t.fits=true)(hk:t.kind=0):mu l (tvar t.n)=mu l t:=by rw[<-za1 hv hk]
theorem SeenPre.old{l:List B}{v:Int}{sn:Int->Prop}{t:Tm}(h:SeenPre l v sn t)(hv:t.fits=true)(hk:t.kind=0)(hs:sn t.n):¬inR l v t:=by
 obtain⟨_,h2|h2⟩:=h t.n hs
 ·rw[<-za1 hv hk] at h2;exact h2
 ·rw[ztp hv hk] at h2;exact absurd h2 (Nat.lt_irrefl _)
theorem SeenPre.new{l:List B}{v:Int}{sn:Int->Prop}{t:Tm}(h:SeenPre l v sn t)(ha:Acyc l)(hv:t.fits=true)(hk:t.kind=0)(hf:fndB l t.n=true):SeenPre l v (fun w=>w=t.n\/sn w) (toB l t.n):=fun w hw=>by
 have hlt:=zes ha hk hf
 rcases hw with rfl|hw
 ·exact⟨hf,.inr (by rw[ztp hv hk];exact hlt)⟩
 ·exact h.arg hlt w hw
theorem SeenPost.new{l:List B}{v:Int}{sn sn':Int->Prop}{t:Tm}{b:Bool}(h:SeenPost l v (fun w=>w=t.n\/sn w) sn' (toB l t.n) b)(ha:Acyc l)(hv:t.fits=true)(hk:t.kind=0)(hf:fndB l t.n=true):SeenPost l v sn sn' t b:=
 ⟨fun hb=>(znj ha hk hf).2 (h.yes hb),fun hb=>by
  obtain⟨h1,h2⟩:=h.no hb
  refine⟨fun e=>h1 ((znj ha hk hf).1 e),fun w hw=> ?_⟩
  rcases h2 w hw with(rfl|h3)|h3
  ·exact .inr ⟨hf,fun e=>h1 ((znj ha hk hf).1 (by rw[za1 hv hk];exact e))⟩
  ·exact .inl h3
  ·exact .inr h3⟩
def unS(f:Int->Int):List B->Nat
 |[]=>0
 |b::r=>(if f b.1=0 then b.2.size else 0)+unS f r
theorem zrt{f g:Int->Int}(h:∀w,f w≠0->g w≠0):∀l:List B,unS g l<=unS f l
 |[]=>Nat.le_refl _
 |b::r=>by
  have ih:=zrt h r
  unfold unS
  by_cases h1:g b.1=0
  ·have h2:f b.1=0:=by
    rcases Int.lt_trichotomy (f b.1) 0 with h3|h3|h3
    ·exact absurd h1 (h _ (by omega))
    ·exact h3
    ·exact absurd h1 (h _ (by omega))
   rw[if_pos h1,if_pos h2];omega
  ·rw[if_neg h1];omega
theorem zt0{f g:Int->Int}(h:∀w,f w≠0->g w≠0){v:Int}(h0:f v=0)(h1:g v≠0){t:Tm}:∀{l:List B},(v,t)∈l->unS g l+t.size<=unS f l
 |[],hm=>by cases hm
 |b::r,hm=>by
  have hle:=zrt h r
  rcases List.mem_cons.1 hm with rfl|hm
  ·simp only[unS]
   rw[if_neg h1,if_pos h0];omega
  ·have ih:=zt0 h h0 h1 hm
   simp only[unS]
   by_cases h2:g b.1=0
   ·have h2:f b.1=0:=by
     rcases Int.lt_trichotomy (f b.1) 0 with h3|h3|h3
     ·exact absurd h2 (h _ (by omega))
     ·exact h3
     ·exact absurd h2 (h _ (by omega))
    split <;> omega
   ·rw[if_neg h2];omega
theorem IsS.setm{s:AV}{hp:Heap}{l:List B}(h:IsS s hp l){r:Nat}{sh:Sh}{es:List (PV × PV)}(hr:hp[r]? =some (.map sh es))(X:AObj):IsS s (hp.set r X) l:=by
 rcases h with h|h|⟨q,h1,h2⟩
 ·exact .inl h
 ·exact .inr (.inl h)
 ·refine .inr (.inr ⟨q,h1,?_⟩)
  have:r≠q:=fun e=>by rw[e,h2] at hr;cases hr
  rw[List.getElem?_set_ne this]
  exact h2
structure OcR(l:List B)(v:Int)(t:Tm)(f:Int->Int)(m':List (Int × PV))(b:Bool)(f':Int->Int):Prop where
 map:MapI m' f'
 pos:∀w,0<=f' w
 mono:∀w,f w≠0->f' w≠0
 post:SeenPost l v (fun w=>f w≠0) (fun w=>f' w≠0) t b
 cost:∀w,f' w+(unS f' l:Int)<=f w+t.size+unS f l
theorem zuW(l:List B)(hO:OKB l)(hl:l.length<1000000000)(v:Int)(s:AV):∀(k:Nat) (t:Tm) (hp:Heap) (r:Nat) (m:List (Int × PV)) (f:Int->Int),mu l t=k->t.valid=true->hp[r]? =some (.map none (za5 m))->IsS s hp l->MapI m f->(∀w,0<=f w)->SeenPre l v (fun w=>f w≠0) t->(∀w,f w+t.size+unS f l<=1000000000000000)->
  ∃(m':List (Int × PV)) (b:Bool) (f':Int->Int),S 157 [s,.pv none (.int .i64 v),t.av,.map r] hp=some (.ret (.pv none (.bool b)),hp.set r (.map none (za5 m')))/\OcR l v t f m' b f':=by
 intro k
 induction k using Nat.strongRecOn with
 |_ k ih=>
  intro t hp r m f hk hv hr hS hM hpos hpre hbig
  have hlt:=zbI hr
  have htz:=valid_size hv
  have hself:hp.set r (.map none (za5 m))=hp:=by
   obtain⟨_,h⟩:=List.getElem?_eq_some_iff.1 hr
   rw[<-h];exact List.set_getElem_self _
  have hg0:∀(X:AObj) (e:Heap),(hp.set r X++e)[hp.length]? =e[0]? :=fun X e=>zct (by simp)
  have hg1:∀(X:AObj) (e:Heap) (k:Nat),(hp.set r X++e)[hp.length+k]? =e[k]? :=fun X e k=>getN (by simp) k
  have hlen:∀(X:AObj),(hp.set r X).length=hp.length:=fun X=>by simp
  have hs1:∀(X Y:AObj) (e:Heap) (k:Nat),(hp.set r X++e).set (hp.length+k) Y=hp.set r X++e.set k Y:=fun X Y e k=>setN (by simp) k Y
  have hrr:∀(X:AObj) (e:Heap),(hp.set r X++e)[r]? =some X:=fun X e=>by rw[List.getElem?_append_left (by simpa using hlt),List.getElem?_set_self hlt]
  have hss:∀(X Y:AObj) (e:Heap),(hp.set r X++e).set r Y=hp.set r Y++e:=fun X Y e=>by rw[List.set_append_left _ _ (by simpa using hlt),List.set_set]
  suffices hP:∃v' hp',S 157 [s,.pv none (.int .i64 v),t.av,.map r] hp=some (.ret v',hp')/\∃(m':List (Int × PV)) (b:Bool) (f':Int->Int),v'=.pv none (.bool b)/\hp'=hp.set r (.map none (za5 m'))/\OcR l v t f m' b f' by
   obtain⟨v',hp',h1,m',b,f',rfl,rfl,h2⟩:=hP
   exact⟨m',b,f',h1,h2⟩
  refine zbu _ rfl rfl rfl rfl ?_
  by_cases hk0:t.kind=0
  ·have hk':=eq_true hk0
   by_cases hf:fndB l t.n=true
   ·have hb:=fun e=>zfk (hS.more e) hO.good.1 hl t hk0 hf
    obtain⟨hto,_⟩:=hO.to hf
    have hlt2:=zes hO.Acyc hk0 hf
    have hts1:t.size=1:=by rw[za1 (valid_fits hv) hk0];rfl
    have hlk:∀e:Heap,zbh false none (.pv none (.int .i64 0)) false (hp++e) [.map r,.pv none (.int .i64 t.n)]=some (.pv none (.int .i64 (f t.n))):=fun e=>by
     rw[zht (m:=m) (by rw[List.getElem?_append_left hlt];exact hr),hM]
    have hms:∀(x:Int) (e:Heap),zb7 false none (hp++e) [.map r,.pv none (.int .i64 t.n),.pv none (.int .i64 x)]=some (.undef,hp.set r (.map none (za5 (mPut t.n (.int .i64 x) m)))++e):=fun x e=>by
     have:=zcQ (str:=false) (sh:=none) (s:=none) (hp:=hp.set r (.map none (za5 m))++e) (r:=r) (k:=.int .i64 t.n) (p:=.int .i64 x) (es:=za5 m) (hrr _ _) (zde _ _ _)
     rw[hss,hself] at this
     exact this
    have hlk2:∀(x:Int) (e:Heap),zbh false none (.pv none (.int .i64 0)) false (hp.set r (.map none (za5 (mPut t.n (.int .i64 x) m)))++e) [.map r,.pv none (.int .i64 t.n)]=some (.pv none (.int .i64 x)):=fun x e=>by
     rw[zht (m:=mPut t.n (.int .i64 x) m) (hrr _ _),zd1,if_pos rfl]
     rfl
    have hb1:=hbig t.n
    have hb2:=hpos t.n
    have w1:IntKind.i64.wrap (f t.n+1)=f t.n+1:=zan (by omega) (by omega)
    have hM1:=hM.put t.n (f t.n+1)
    have hmono1:∀w,f w≠0->(fun w=>if w=t.n then f t.n+1 else f w) w≠0:=fun w hw=>by
     by_cases e:w=t.n
     ·simp only[if_pos e];omega
     ·simp only[if_neg e];exact hw
    have hpos1:∀w,0<=(fun w=>if w=t.n then f t.n+1 else f w) w:=fun w=>by
     by_cases e:w=t.n
     ·simp only[if_pos e];omega
     ·simp only[if_neg e];exact hpos w
    simp only[Tm.av] at hb
    by_cases h0:f t.n=0
    ·rw[h0] at hM1 hmono1 hpos1
     simp only[Int.zero_add] at hM1 hmono1 hpos1
     have hun:=zt0 hmono1 h0 (by simp) (find_mem hf)
     have hbig1:∀w,(fun w=>if w=t.n then(1:Int) else f w) w+(toB l t.n).size+unS (fun w=>if w=t.n then(1:Int) else f w) l<=1000000000000000:=fun w=>by
      have h3:=hbig w
      have h4:=hpos w
      by_cases e:w=t.n
      ·simp only[if_pos e];omega
      ·simp only[if_neg e];omega
     have hpre1:SeenPre l v (fun w=>(fun w=>if w=t.n then(1:Int) else f w) w≠0) (toB l t.n):=fun w hw=>by
      refine hpre.new hO.Acyc (valid_fits hv) hk0 hf w ?_
      by_cases e:w=t.n
      ·exact .inl e
      ·simp only[if_neg e] at hw;exact .inr hw
     obtain⟨m2,bb,f2,hcall,hR⟩:=ih _ (by omega) (toB l t.n) (hp.set r (.map none (za5 (mPut t.n (.int .i64 1) m)))++[.box (some 4) (.pv (some 4) t.pv),.box (some 4) (.pv (some 4) (toB l t.n).pv),.arr (some 4) [] false]) r _ _ rfl hto (hrr _ _) ((hS.setm hr _).more _) hM1 hpos1 hpre1 hbig1
     rw[hss] at hcall
     simp only[Tm.av] at hcall
     rw[h0] at w1
     simp only[Int.zero_add] at w1
     simp -dsimp -implicitDefEqProofs only[go_sem,seval,↓reduceIte,Tm.av,zaj,zav,hk',hb,hlk,h0,w1,hms,hlk2,hcall,hg0,hg1,Int.zero_add,zag (Nat.le_add_right _ _),List.append_assoc,zah,zae,zai,zaf,Nat.add_assoc,List.length_append]
     refine⟨m2,bb,f2,rfl,?_,hR.map,hR.pos,fun w hw=>hR.mono w (hmono1 w hw),?_,fun w=> ?_⟩
     ·rw[if_pos (by simp[AV.refsIn])]
      exact List.take_left' (by simp)
     ·have hq:SeenPost l v (fun w=>w=t.n\/f w≠0) (fun w=>f2 w≠0) (toB l t.n) bb:=⟨hR.post.yes,fun hb=>⟨(hR.post.no hb).1,fun w hw=>((hR.post.no hb).2 w hw).imp (fun h=>by
       by_cases e:w=t.n
       ·exact .inl e
       ·simp only[if_neg e] at h;exact .inr h) id⟩⟩
      exact hq.new hO.Acyc (valid_fits hv) hk0 hf
     ·have h3:=hR.cost w
      have h4:=hpos w
      by_cases e:w=t.n
      ·simp only[if_pos e] at h3;omega
      ·simp only[if_neg e] at h3;omega
    ·have h1:¬f t.n+1=1:=by omega
     simp -dsimp -implicitDefEqProofs only[go_sem,seval,↓reduceIte,Tm.av,zaj,zav,hk',hb,hlk,h1,w1,hms,hlk2,hg0,hg1,zag (Nat.le_add_right _ _),List.append_assoc,zah,zae,zai,zaf,Nat.add_assoc,List.length_append]
     refine⟨_,false,_,rfl,?_,hM1,hpos1,hmono1,⟨(fun e=>by cases e),fun _=>⟨hpre.old (valid_fits hv) hk0 h0,fun w hw=> ?_⟩⟩,fun w=> ?_⟩
     ·rw[if_pos (by simp[AV.refsIn])]
      exact List.take_left' (by simp)
     ·by_cases e:w=t.n
      ·rw[e];exact .inl h0
      ·simp only[if_neg e] at hw;exact .inl hw
     ·have h3:=zrt hmono1 l
      by_cases e:w=t.n
      ·simp only[if_pos e];rw[e];omega
      ·simp only[if_neg e];omega
   ·have hb:=fun e=>zgA (hS.more e) hO.good.1 hl t fun h=>hf h.2
    simp only[Tm.av] at hb
    simp -dsimp -implicitDefEqProofs only[go_sem,seval,↓reduceIte,Tm.av,zaj,zav,hk',hb,bndX,zagg,zay,zag (Nat.le_add_right _ _),List.append_assoc,zah,zae,zai,zaf,Nat.add_assoc,List.length_append]
    refine⟨m,decide (t.n=v),f,rfl,?_,hM,hpos,fun _ h=>h,⟨fun h=> ?_,fun h=>⟨fun e=> ?_,fun w hw=>.inl hw⟩⟩,fun w=>by omega⟩
    ·rw[if_pos (by simp[AV.refsIn]),hself]
     exact List.take_left
    ·exact(zem hO.Acyc (valid_fits hv) hk0 hf).2 (of_decide_eq_true h).symm
    ·exact of_decide_eq_false h ((zem hO.Acyc (valid_fits hv) hk0 hf).1 e).symm
  ·have hk':=eq_false hk0
   simp -dsimp -implicitDefEqProofs only[go_sem,seval,↓reduceIte,Tm.av,zaj,zad,Tm.pvs_len,hk',List.append_assoc,zah,zae,zai,zaf,Nat.add_assoc,List.length_append]
   refine zbQ (α:=List (Int × PV)) t.args.length (fun i m2=>∃f2:Int->Int,MapI m2 f2/\(∀w,0<=f2 w)/\(∀w,f w≠0->f2 w≠0)/\(∀j,j<i->∀u,t.args[j]? =some u->¬inR l v u)/\(∀w,f2 w≠0->f w≠0\/(fndB l w=true/\¬inR l v (tvar w)))/\∀w,f2 w+(unS f2 l:Int)<=f w+Tm.sizes (t.args.take i)+unS f l)
    (fun i m2=>⟨[(0,s),(1,.pv none (.int .i64 v)),(3,.map r),(46,.pv none (.sl (some 4) (Tm.pvs t.args))),(47,.pv none (.int .i64 t.args.length)),(48,.pv none (.int .i64 i))],hp.set r (.map none (za5 m2))++[.box (some 4) (.pv (some 4) t.pv)]⟩) m ⟨⟨f,hM,hpos,fun _ h=>h,fun j hj=>by omega,fun w hw=>.inl hw,fun w=>by simp[Tm.sizes]⟩,?_⟩ ?_ ?_
   ·rw[hself]
    rfl
   ·rintro i m2 h ⟨f2,q1,q2,q3,q4,q5,q6⟩
    have hc:(i:Int)<(t.args.length:Int):=by omega
    obtain⟨u,hu⟩:∃u,t.args[i]? =some u:=⟨_,List.getElem?_eq_getElem h⟩
    have hum:=List.mem_of_getElem? hu
    have hmu:=zfs l hk0 hum
    have hst:=Tm.zw0 hu
    have hle:=Tm.zwW t.args (i+1)
    have hts:=t.size_eq
    have hlen2:=Tm.zwT t.args
    have hpre2:SeenPre l v (fun w=>f2 w≠0) u:=fun w hw=>by
     rcases q5 w hw with h|⟨h1,h2⟩
     ·exact hpre.arg hmu w h
     ·exact⟨h1,.inl h2⟩
    obtain⟨m3,bb,f3,hcall,hR⟩:=ih _ (by omega) u (hp.set r (.map none (za5 m2))++[.box (some 4) (.pv (some 4) t.pv),.box (some 4) (.pv (some 4) u.pv),.arr (some 4) [] false]) r m2 f2 rfl (zaR hv hum) (hrr _ _) ((hS.setm hr _).more _) q1 q2 hpre2 (fun w=>by have:=q6 w;have:=hbig w;omega)
    rw[hss] at hcall
    simp only[Tm.av] at hcall
    have w2:IntKind.i64.wrap ((i:Int)+1)=((i+1:Nat):Int):=by rw[zan (by omega) (by omega)];omega
    cases bb with
    |true=>
     simp -dsimp -implicitDefEqProofs only[c157b18,go_sem,seval,↓reduceIte,hc,zab (Tm.pvs_get hu),hcall,hlen,hg0,hg1,hs1,List.append_assoc,zah,zae,zai,zaf,Nat.add_assoc,List.length_append]
     refine⟨m3,true,f3,rfl,?_,hR.map,hR.pos,fun w hw=>hR.mono w (q3 w hw),⟨fun _=>(zhu hk0).2 ⟨u,hum,hR.post.yes rfl⟩,fun e=>by cases e⟩,fun w=> ?_⟩
     ·rw[if_pos (by simp[AV.refsIn])]
      exact List.take_left' (by simp)
     ·have:=hR.cost w;have:=q6 w;omega
    |false=>
     obtain⟨n1,n2⟩:=hR.post.no rfl
     simp -dsimp -implicitDefEqProofs only[c157b18,go_sem,seval,↓reduceIte,hc,zab (Tm.pvs_get hu),hcall,w2,hlen,hg0,hg1,hs1,List.append_assoc,zah,zae,zai,zaf,Nat.add_assoc,List.length_append]
     refine⟨m3,⟨f3,hR.map,hR.pos,fun w hw=>hR.mono w (q3 w hw),fun j hj x hx=> ?_,fun w hw=> ?_,fun w=> ?_⟩,?_⟩
     ·rcases Nat.lt_or_ge j i with h|h
      ·exact q4 j h x hx
      ·have:j=i:=by omega
       subst this
       rw[hu] at hx
       cases hx
       exact n1
     ·rcases n2 w hw with h|h
      ·exact q5 w h
      ·exact .inr h
     ·have:=hR.cost w;have:=q6 w;omega
     ·rw[zaQ 1 (by simp) rfl (by simp[AObj.refs,AV.refsIn]) (by simp[AV.refsIn,AV.refsIn.gol,hS.low];omega)]
      rfl
   ·rintro m2 ⟨f2,q1,q2,q3,q4,q5,q6⟩
    have hc:¬(t.args.length:Int)<(t.args.length:Int):=by omega
    have hts:=t.size_eq
    simp -dsimp -implicitDefEqProofs only[c157b18,go_sem,seval,↓reduceIte,hc]
    refine⟨m2,false,f2,rfl,?_,q1,q2,q3,⟨(fun e=>by cases e),fun _=>⟨fun e=> ?_,q5⟩⟩,fun w=> ?_⟩
    ·rw[if_pos (by simp[AV.refsIn])]
     exact List.take_left' (by simp)
    ·obtain⟨u,hu,h⟩:=(zhu hk0).1 e
     obtain⟨j,hj,rfl⟩:=List.getElem_of_mem hu
     exact q4 j hj _ (List.getElem?_eq_getElem hj) h
    ·have:=q6 w
     rw[List.take_length] at this
     omega
theorem zkS(f:Int->Int):∀l:List B,(∀b∈l,b.2.size<=1000000)->unS f l<=1000000*l.length
 |[],_=>Nat.zero_le _
 |b::r,h=>by
  have ih:=zkS f r fun c hc=>h c (List.mem_cons_of_mem _ hc)
  have h1:=h b List.mem_cons_self
  simp only[unS,List.length_cons]
  split <;> omega
theorem zhA:∀(a b:List Int),a.Nodup->(∀x∈a,x∈b)->a.length<=b.length
 |[],_,_,_=>Nat.zero_le _
 |x::a,b,h,hs=>by
  have hx:=hs x List.mem_cons_self
  have h1:=List.nodup_cons.1 h
  have ih:=zhA a (b.erase x) h1.2 fun y hy=>(List.mem_erase_of_ne (fun e=>h1.1 (by rw[<-e];exact hy))).2 (hs y (List.mem_cons_of_mem _ hy))
  have h2:=List.length_erase_of_mem hx
  have h3:=List.length_pos_of_mem hx
  simp only[List.length_cons]
  omega
theorem zrG{l:List B}{σ:List Int}(h1:σ.Nodup)(h2:∀w∈σ,fndB l w=true):σ.length<=l.length:=by
 have:=zhA σ (l.map (·.1)) h1 fun w hw=>by
  exact List.mem_map.2 ⟨_,find_mem (h2 w hw),rfl⟩
 simpa using this
def HS(hp:Heap)(q r:Nat)(σ:List Int):Heap:=(hp.set q (.box none (.sl none r σ.length 0 σ.length))).set r (.arr none (ints σ) false)
def HA(hp:Heap)(q r:Nat)(σ:List Int)(x:Int):Heap:=(HS hp q r σ).set r (.arr none (ints (σ++[x])) false)
theorem zix(hp:Heap)(q r:Nat)(σ:List Int):(HS hp q r σ).length=hp.length:=by simp[HS]
theorem zjq{hp:Heap}{q r:Nat}(hq:q<hp.length)(hr:r<hp.length)(σ:List Int)(e:Heap):HS (hp++e) q r σ=HS hp q r σ++e:=by
 unfold HS
 rw[List.set_append_left _ _ hq,List.set_append_left _ _ (by simpa using hr)]
theorem HS_q{hp:Heap}{q r:Nat}(hq:q<hp.length)(hn:q≠r)(σ:List Int)(e:Heap):(HS hp q r σ++e)[q]? =some (.box none (.sl none r σ.length 0 σ.length)):=by
 rw[List.getElem?_append_left (by rw[zix];exact hq)]
 unfold HS
 rw[List.getElem?_set_ne (Ne.symm hn),List.getElem?_set_self hq]
theorem HS_r{hp:Heap}{q r:Nat}(hr:r<hp.length)(σ:List Int)(e:Heap):(HS hp q r σ++e)[r]? =some (.arr none (ints σ) false):=by
 rw[List.getElem?_append_left (by rw[zix];exact hr)]
 unfold HS
 rw[List.getElem?_set_self (by simpa using hr)]
theorem zvY{hp:Heap}{q r:Nat}(hr:r<hp.length){σ:List Int}(hl:σ.length<1000000000)(x:Int)(e:Heap):
  za8 none (HS hp q r σ++e) [.sl none r σ.length 0 σ.length,.tsl none [.int .i64 x]]=some (.sl none r (σ.length+1) 0 (σ.length+1),HA hp q r σ x++e):=by
 have hlim:σ.length+1<=lim:=by unfold lim;omega
 simp[za8,aappend,elems,HS_r hr σ e,za7,hlim]
 rw[List.set_append_left _ _ (by rw[zix];exact hr)]
 simp[ints,HA]
theorem zwP{hp:Heap}{q r:Nat}(hq:q<hp.length)(hn:q≠r)(σ:List Int)(x:Int)(e:Heap){b:Nat}(hb:q<b):
  zaU none b (HA hp q r σ x++e) [.ptr q 0,.sl none r (σ.length+1) 0 (σ.length+1)]=some (.undef,HS hp q r (σ++[x])++e):=by
 have h1:(HA hp q r σ x++e)[q]? =some (.box none (.sl none r σ.length 0 σ.length)):=by
  rw[List.getElem?_append_left (by unfold HA;rw[List.length_set,zix];exact hq)]
  unfold HA
  rw[List.getElem?_set_ne (Ne.symm hn)]
  have:=HS_q (r:=r) hq hn σ []
  rw[List.append_nil] at this
  exact this
 rw[zex hb h1,List.set_append_left _ _ (by unfold HA;rw[List.length_set,zix];exact hq)]
 have:(HA hp q r σ x).set q (.box none (.sl none r (σ.length+1) 0 (σ.length+1)))=HS hp q r (σ++[x]):=by
  unfold HA HS
  rw[List.set_set,List.set_comm _ _ hn,List.set_set]
  simp
  exact List.set_comm _ _ (Ne.symm hn)
 rw[this]
theorem zu4(l:List B)(hO:OKB l)(hl:l.length<100000000)(v:Int):∀(k:Nat) (t:Tm) (hp:Heap) (q r:Nat) (σ:List Int),mu l t=k->t.valid=true->q<hp.length->r<hp.length->q≠r->SeenPre l v (·∈σ) t->σ.Nodup->
  ∃(σ':List Int) (b:Bool),S 155 [.pv none (.sl (some 5) (bds l)),.pv none (.int .i64 v),t.av,.ptr q 0] (HS hp q r σ)=some (.ret (.pv none (.bool b)),HS hp q r σ')/\(∀w∈σ,w∈σ')/\σ'.Nodup/\(∀w∈σ',fndB l w=true)/\SeenPost l v (·∈σ) (·∈σ') t b:=by
 intro k
 induction k using Nat.strongRecOn with
 |_ k ih=>
  intro t hp q r σ hk hv hq hr hn hpre hnd
  have htz:=valid_size hv
  have hfn:∀w∈σ,fndB l w=true:=fun w hw=>(hpre w hw).1
  have hsl:=zrG hnd hfn
  have hlen:=zix hp q r
  have hg0:∀(σ:List Int) (e:Heap),(HS hp q r σ++e)[hp.length]? =e[0]? :=fun σ e=>zct (hlen σ)
  have hg1:∀(σ:List Int) (e:Heap) (k:Nat),(HS hp q r σ++e)[hp.length+k]? =e[k]? :=fun σ e k=>getN (hlen σ) k
  have hs1:∀(σ:List Int) (Y:AObj) (e:Heap) (k:Nat),(HS hp q r σ++e).set (hp.length+k) Y=HS hp q r σ++e.set k Y:=fun σ Y e k=>setN (hlen σ) k Y
  have hgq:=fun σ e=>HS_q (r:=r) hq hn σ e
  have hgr:=fun σ e=>HS_r (q:=q) hr σ e
  have ha0:∀(x:Int) (e:Heap),(HA hp q r σ x++e)[hp.length]? =e[0]? :=fun x e=>zct (by unfold HA;rw[List.length_set];exact hlen σ)
  have hap:=fun x e=>zvY (q:=q) hr (σ:=σ) (by omega) x e
  have hst:=fun x e=>zwP (r:=r) hq hn σ x e hq
  have hsp:∀e:Heap,zbx (HS hp q r σ++e) (HS hp q r σ++e) (.ptr q 0)=true:=fun e=>by
   simp[zbx,hgq,AObj.beq,AV.beq]
  suffices hP:∃v' hp',S 155 [.pv none (.sl (some 5) (bds l)),.pv none (.int .i64 v),t.av,.ptr q 0] (HS hp q r σ)=some (.ret v',hp')/\∃(σ':List Int) (b:Bool),v'=.pv none (.bool b)/\hp'=HS hp q r σ'/\(∀w∈σ,w∈σ')/\σ'.Nodup/\(∀w∈σ',fndB l w=true)/\SeenPost l v (·∈σ) (·∈σ') t b by
   obtain⟨v',hp',h1,σ',b,rfl,rfl,h2⟩:=hP
   exact⟨σ',b,h1,h2⟩
  refine zbu _ rfl rfl rfl rfl ?_
  by_cases hk0:t.kind=0
  ·have hk':=eq_true hk0
   have hfd:=zjp l t.n hO.good.1 (by omega)
   by_cases hf:fndB l t.n=true
   ·have hfi:fdI l t.n=(lbB l t.n:Int):=by unfold fdI;rw[if_pos hf]
    have hnn:¬((lbB l t.n:Nat):Int)<0:=by omega
    rw[hfi] at hfd
    obtain⟨hto,_⟩:=hO.to hf
    have hlt2:=zes hO.Acyc hk0 hf
    simp -dsimp -implicitDefEqProofs only[go_sem,seval,↓reduceIte,Tm.av,zaj,zav,hk',hfd,hnn,hlen,hg0,hg1,List.append_assoc,zah,zae,zai,zaf,Nat.add_assoc,List.length_append]
    refine zbQ (α:=Unit) σ.length (fun i _=>∀j,j<i->σ[j]?≠some t.n) (fun i _=>⟨[(0,.pv none (.sl (some 5) (bds l))),(1,.pv none (.int .i64 v)),(3,.ptr q 0),(6,.ptr hp.length 0),(9,.pv none (.int .i64 (lbB l t.n))),(10,.pv none (.int .i64 i))],HS hp q r σ++[.box (some 4) (.pv (some 4) t.pv)]⟩) () ⟨fun j hj=>by omega,rfl⟩ ?_ ?_
    ·rintro i - h hinv
     have hc:(i:Int)<(σ.length:Int):=by omega
     obtain⟨b,hb⟩:∃b,σ[i]? =some b:=⟨_,List.getElem?_eq_getElem h⟩
     have w2:IntKind.i64.wrap ((i:Int)+1)=((i+1:Nat):Int):=by rw[zan (by omega) (by omega)];omega
     have hld:∀e:Heap,aload none (HS hp q r σ++e) (.eptr none r σ.length i 0)=some (.pv none (.int .i64 b)):=fun e=>by
      simp[aload,hgr,za7,zc6 hb,toAV]
     by_cases hbx:b=t.n
     ·simp -dsimp -implicitDefEqProofs only[go_sem,seval,↓reduceIte,zav,hc,zar h,hld,hbx,hlen,hg0,hg1,hgq,hgr,zal,List.append_assoc,zah,zae,zai,zaf,Nat.add_assoc,List.length_append]
      refine⟨σ,false,rfl,?_,fun _ h=>h,hnd,hfn,⟨(fun e=>by cases e),fun _=>⟨hpre.old (valid_fits hv) hk0 (by rw[<-hbx];exact List.mem_of_getElem? hb),fun w hw=>.inl hw⟩⟩⟩
      rw[if_pos (by simp[AV.refsIn])]
      exact List.take_left' (hlen _)
     ·simp -dsimp -implicitDefEqProofs only[go_sem,seval,↓reduceIte,zav,hc,zar h,hld,hbx,w2,hlen,hg0,hg1,hgq,hgr,zal,List.append_assoc,zah,zae,zai,zaf,Nat.add_assoc,List.length_append]
      refine⟨(),?_,?_⟩
      ·intro j hj
       rcases Nat.lt_or_ge j i with h|h
       ·exact hinv j h
       ·have:j=i:=by omega
        subst this
        rw[hb]
        intro e
        cases e
        exact hbx rfl
      ·rw[zaQ 1 (hlen _) rfl (by simp[AObj.refs,AV.refsIn]) (by simp[AV.refsIn];omega)]
       rfl
    ·rintro - hinv
     have hc:¬(σ.length:Int)<(σ.length:Int):=by omega
     have hmem:t.n ∉ σ:=fun hm=>by
      obtain⟨j,hj,e⟩:=List.getElem_of_mem hm
      exact hinv j hj (by rw[List.getElem?_eq_getElem hj,e])
     have hpre1:SeenPre l v (·∈σ++[t.n]) (toB l t.n):=fun w hw=>hpre.new hO.Acyc (valid_fits hv) hk0 hf w (by
      rcases List.mem_append.1 hw with h|h
      ·exact .inr h
      ·exact .inl (List.mem_singleton.1 h))
     have hnd1:(σ++[t.n]).Nodup:=List.nodup_append.2 ⟨hnd,by simp,fun a ha b hb e=>by
      rw[List.mem_singleton] at hb
      exact hmem (by rw[<-hb,<-e];exact ha)⟩
     obtain⟨σ2,bb,hcall,hR⟩:=ih _ (by omega) (toB l t.n) (hp++[.box (some 4) (.pv (some 4) t.pv)]) q r (σ++[t.n]) rfl hto (by simp;omega) (by simp;omega) hn hpre1 hnd1
     rw[zjq hq hr,zjq hq hr] at hcall
     simp only[Tm.av] at hcall
     simp -dsimp -implicitDefEqProofs only[go_sem,seval,↓reduceIte,zav,zbO,hc,zab (zaH (zcU hf)),hcall,hap,hst,ha0,hsp,zcH,List.take_succ_cons,List.drop_succ_cons,List.all_cons,List.all_nil,hlen,hg0,hg1,hgq,hgr,zal,List.append_assoc,zah,zae,zai,zaf,Nat.add_assoc,List.length_append]
     obtain⟨p1,p2,p3,hR⟩:=hR
     have hq:SeenPost l v (fun w=>w=t.n\/w∈σ) (·∈σ2) (toB l t.n) bb:=⟨hR.yes,fun hb=>⟨(hR.no hb).1,fun w hw=>((hR.no hb).2 w hw).imp (fun h=>by
      rcases List.mem_append.1 h with h|h
      ·exact .inr h
      ·exact .inl (List.mem_singleton.1 h)) id⟩⟩
     refine⟨σ2,bb,rfl,?_,fun w hw=>p1 w (List.mem_append_left _ hw),p2,p3,hq.new hO.Acyc (valid_fits hv) hk0 hf⟩
     rw[if_pos (by simp[AV.refsIn])]
     exact List.take_left' (hlen _)
   ·have hfi:fdI l t.n= -1:=by unfold fdI;rw[if_neg hf]
    have hnn:(-1:Int)<0:=by omega
    rw[hfi] at hfd
    simp -dsimp -implicitDefEqProofs only[go_sem,seval,↓reduceIte,Tm.av,zaj,zav,hk',hfd,hnn,hlen,hg0,hg1,List.append_assoc,zah,zae,zai,zaf,Nat.add_assoc,List.length_append]
    refine⟨σ,decide (t.n=v),rfl,?_,fun _ h=>h,hnd,hfn,⟨fun h=> ?_,fun h=>⟨fun e=> ?_,fun w hw=>.inl hw⟩⟩⟩
    ·rw[if_pos (by simp[AV.refsIn])]
     exact List.take_left' (hlen _)
    ·exact(zem hO.Acyc (valid_fits hv) hk0 hf).2 (of_decide_eq_true h).symm
    ·exact of_decide_eq_false h ((zem hO.Acyc (valid_fits hv) hk0 hf).1 e).symm
  ·have hk':=eq_false hk0
   simp -dsimp -implicitDefEqProofs only[go_sem,seval,↓reduceIte,Tm.av,zaj,hk',hlen,hg0,hg1,List.append_assoc,zah,zae,zai,zaf,Nat.add_assoc,List.length_append]
   refine zbQ (α:=List Int) t.args.length (fun i σ2=>(∀w∈σ,w∈σ2)/\σ2.Nodup/\(∀w∈σ2,fndB l w=true)/\(∀j,j<i->∀u,t.args[j]? =some u->¬inR l v u)/\(∀w∈σ2,w∈σ\/(fndB l w=true/\¬inR l v (tvar w))))
    (fun i σ2=>⟨[(0,.pv none (.sl (some 5) (bds l))),(1,.pv none (.int .i64 v)),(3,.ptr q 0),(6,.ptr hp.length 0),(11,.pv none (.int .i64 i))],HS hp q r σ2++[.box (some 4) (.pv (some 4) t.pv)]⟩) σ ⟨⟨fun _ h=>h,hnd,hfn,fun j hj=>by omega,fun w hw=>.inl hw⟩,rfl⟩ ?_ ?_
   ·rintro i σ2 h ⟨q1,q2,q3,q4,q5⟩
    have hc:(i:Int)<(t.args.length:Int):=by omega
    obtain⟨u,hu⟩:∃u,t.args[i]? =some u:=⟨_,List.getElem?_eq_getElem h⟩
    have hum:=List.mem_of_getElem? hu
    have hmu:=zfs l hk0 hum
    have hts:=t.size_eq
    have hlen2:=Tm.zwT t.args
    have hpre2:SeenPre l v (·∈σ2) u:=fun w hw=>by
     rcases q5 w hw with h|⟨h1,h2⟩
     ·exact hpre.arg hmu w h
     ·exact⟨h1,.inl h2⟩
    obtain⟨σ3,bb,hcall,p1,p2,p3,hR⟩:=ih _ (by omega) u (hp++[.box (some 4) (.pv (some 4) t.pv)]) q r σ2 rfl (zaR hv hum) (by simp;omega) (by simp;omega) hn hpre2 q2
    rw[zjq hq hr,zjq hq hr] at hcall
    simp only[Tm.av] at hcall
    have w2:IntKind.i64.wrap ((i:Int)+1)=((i+1:Nat):Int):=by rw[zan (by omega) (by omega)];omega
    cases bb with
    |true=>
     simp -dsimp -implicitDefEqProofs only[go_sem,seval,↓reduceIte,zad,Tm.pvs_len,hc,zab (Tm.pvs_get hu),hcall,hlen,hg0,hg1,List.append_assoc,zah,zae,zai,zaf,Nat.add_assoc,List.length_append]
     refine⟨σ3,true,rfl,?_,fun w hw=>p1 w (q1 w hw),p2,p3,⟨fun _=>(zhu hk0).2 ⟨u,hum,hR.yes rfl⟩,fun e=>by cases e⟩⟩
     rw[if_pos (by simp[AV.refsIn])]
     exact List.take_left' (hlen _)
    |false=>
     obtain⟨n1,n2⟩:=hR.no rfl
     simp -dsimp -implicitDefEqProofs only[go_sem,seval,↓reduceIte,zad,Tm.pvs_len,hc,zab (Tm.pvs_get hu),hcall,w2,hlen,hg0,hg1,List.append_assoc,zah,zae,zai,zaf,Nat.add_assoc,List.length_append]
     refine⟨σ3,⟨fun w hw=>p1 w (q1 w hw),p2,p3,fun j hj x hx=> ?_,fun w hw=> ?_⟩,?_⟩
     ·rcases Nat.lt_or_ge j i with h|h
      ·exact q4 j h x hx
      ·have:j=i:=by omega
       subst this
       rw[hu] at hx
       cases hx
       exact n1
     ·rcases n2 w hw with h|h
      ·exact q5 w h
      ·exact .inr h
     ·rw[zaQ 1 (hlen _) rfl (by simp[AObj.refs,AV.refsIn]) (by simp[AV.refsIn];omega)]
      rfl
   ·rintro σ2 ⟨q1,q2,q3,q4,q5⟩
    have hc:¬(t.args.length:Int)<(t.args.length:Int):=by omega
    simp -dsimp -implicitDefEqProofs only[go_sem,seval,↓reduceIte,zad,Tm.pvs_len,hc,hlen,hg0,hg1,List.append_assoc,zah,zae,zai,zaf,Nat.add_assoc,List.length_append]
    refine⟨σ2,false,rfl,?_,q1,q2,q3,⟨(fun e=>by cases e),fun _=>⟨fun e=> ?_,q5⟩⟩⟩
    ·rw[if_pos (by simp[AV.refsIn])]
     exact List.take_left' (hlen _)
    ·obtain⟨u,hu,h⟩:=(zhu hk0).1 e
     obtain⟨j,hj,rfl⟩:=List.getElem_of_mem hu
     exact q4 j hj _ (List.getElem?_eq_getElem hj) h
theorem zeo(l:List B)(hO:OKB l)(hl:l.length<100000000)(v:Int)(t:Tm)(hv:t.valid=true)(b:Bool)(hb:b=true↔inR l v t)(hp:Heap):
  S 149 [.pv none (.sl (some 5) (bds l)),.pv none (.int .i64 v),t.av] hp=some (.ret (.pv none (.bool b)),hp):=by
 refine zao rfl rfl rfl (zac [(none,.sl (some 5) (bds l)),(none,.int .i64 v),(some 4,t.pv)]) rfl ?_
 obtain⟨σ,bb,hcall,_,_,_,hR⟩:=zu4 l hO hl v _ t [.box (some 4) (.pv (some 4) t.pv),.box none (.sl none 2 0 0 0),.arr none [] false] 1 2 [] rfl hv (by simp) (by simp) (by decide) (fun w hw=>by cases hw) List.nodup_nil
 have e:bb=b:=by
  rw[Bool.eq_iff_iff,hb]
  constructor
  ·exact hR.yes
  ·intro h
   cases bb with
   |true=>rfl
   |false=>exact absurd h (hR.no rfl).1
 rw[e] at hcall
 have e2:HS [.box (some 4) (.pv (some 4) t.pv),.box none (.sl none 2 0 0 0),.arr none [] false] 1 2 []=[.box (some 4) (.pv (some 4) t.pv),.box none (.sl none 2 0 0 0),.arr none [] false]:=rfl
 rw[e2] at hcall
 simp only[Tm.av] at hcall
 have hal:∀a0:AObj,zcJ none (.tsl none []) [a0] []=some (.ptr 1 0,[a0,.box none (.sl none 2 0 0 0),.arr none [] false]):=fun _=>rfl
 simp -dsimp -implicitDefEqProofs only[go_sem,seval,↓reduceIte,Tm.av,hal,hcall]
inductive UStep where
 |err (e:Int)
 |bind (v:Int) (t:Tm)
 |args (xs:List (Tm × Tm))
open Classical in
noncomputable def ustep(l:List B)(x y:Tm):UStep:=
 if x.kind=0/\y.kind=0 then
  if y.n<x.n then .bind x.n y else if x.n<y.n then .bind y.n x else .args []
 else if x.kind=0 then(if inR l x.n y then .err 9 else .bind x.n y)
 else if y.kind=0 then(if inR l y.n x then .err 9 else .bind y.n x)
 else if x.kind=y.kind/\x.n=y.n/\x.name=y.name/\x.args.length=y.args.length then .args (x.args.zip y.args) else .err 4
noncomputable def uni:Nat->List B->List (Tm × Tm)->List B × Int
 |_,l,[]=>(l,0)
 |0,_,_::_=>([],2)
 |n+1,l,p::r=>match ustep l (flw l p.1) (flw l p.2) with
  | .err e=>([],e)
  | .bind v t=>uni n (insB l v t) r
  | .args xs=>uni n l (xs++r)
theorem zfY(n:Nat)(l:List B):uni n l []=(l,0):=by cases n <;> rfl
theorem zgE(l:List B)(p:Tm × Tm)(r:List (Tm × Tm)):uni 0 l (p::r)=([],2):=rfl
theorem zju{n:Nat}{l:List B}{p:Tm × Tm}{e:Int}(r:List (Tm × Tm))(h:ustep l (flw l p.1) (flw l p.2)=.err e):uni (n+1) l (p::r)=([],e):=by rw[uni,h]
theorem zeq{n:Nat}{l:List B}{p:Tm × Tm}{v:Int}{t:Tm}(r:List (Tm × Tm))(h:ustep l (flw l p.1) (flw l p.2)=.bind v t):uni (n+1) l (p::r)=uni n (insB l v t) r:=by rw[uni,h]
theorem zcj{n:Nat}{l:List B}{p:Tm × Tm}{xs:List (Tm × Tm)}(r:List (Tm × Tm))(h:ustep l (flw l p.1) (flw l p.2)=.args xs):uni (n+1) l (p::r)=uni n l (xs++r):=by rw[uni,h]
theorem mem_insB_iff{l:List B}{v:Int}{t:Tm}{x:B}:x∈insB l v t↔x=(v,t)\/x∈l:=⟨zdy,zoP⟩
theorem zjv{l:List B}(hG:Good l){v:Int}{t:Tm}(hf:fndB l v=false)(w:Int):fndB (insB l v t) w=true↔w=v\/fndB l w=true:=by
 rw[zrp (zfp hG.1 hf),zrp hG.1]
 simp only[List.mem_map,mem_insB_iff]
 constructor
 ·rintro⟨x,rfl|h,rfl⟩
  ·exact .inl rfl
  ·exact .inr ⟨x,h,rfl⟩
 ·rintro(rfl|⟨x,h,rfl⟩)
  ·exact⟨_,.inl rfl,rfl⟩
  ·exact⟨x,.inr h,rfl⟩
theorem zwl{l:List B}(hG:Good l){v:Int}{t:Tm}(hf:fndB l v=false):toB (insB l v t) v=t:=(zuU (zfp hG.1 hf) (mem_insB_iff.2 (.inl rfl))).2
theorem zhG{l:List B}(hG:Good l){v:Int}{t:Tm}(hf:fndB l v=false){w:Int}(hw:fndB l w=true):toB (insB l v t) w=toB l w:=
 (zuU (zfp hG.1 hf) (mem_insB_iff.2 (.inr (find_mem hw)))).2
theorem zua{l:List B}{w:Int}:∀t:Tm,t.fits=true->w∈t.occ->mu l (tvar w)<=mu l t:=by
 intro t
 induction t using Tm.zwV with
 |h t ih=>
  intro hf hw
  rw[Tm.zw1] at hw
  by_cases hk:t.kind=0
  ·rw[if_pos hk,List.mem_singleton] at hw
   rw[hw,ztp hf hk]
   exact Nat.le_refl _
  ·rw[if_neg hk] at hw
   obtain⟨u,hu,h⟩:=Tm.zxf hw
   have:=ih u hu (Tm.zwU hf hu) h
   have:=zfs l hk hu
   omega
theorem zrX{l:List B}{v w:Int}:∀t:Tm,t.fits=true->w∈t.occ->inR l v (tvar w)->inR l v t:=by
 intro t
 induction t using Tm.zwV with
 |h t ih=>
  intro hf hw hi
  rw[Tm.zw1] at hw
  by_cases hk:t.kind=0
  ·rw[if_pos hk,List.mem_singleton] at hw
   rw[za1 hf hk,<-hw]
   exact hi
  ·rw[if_neg hk] at hw
   obtain⟨u,hu,h⟩:=Tm.zxf hw
   exact(zhu hk).2 ⟨u,hu,ih u hu (Tm.zwU hf hu) h hi⟩
theorem zhH{l:List B}(hO:OKB l){v:Int}{t:Tm}(hf:fndB l v=false)(hv:0<=v/\v<=1099511627776)(ht:t.valid=true)(hn:¬inR l v t):OKB (insB l v t):=by
 have htz:=valid_size ht
 have hA:=hO.Acyc
 refine zt6 (zrs hO.good hf ht (by omega)) (fun b hb=> ?_) ?_
 ·rcases zdy hb with rfl|h
  ·exact hv
  ·exact hO.rng b h
 ·refine⟨fun w=>by classical exact if inR l v (tvar w) then mu l (tvar w)+mu l t+1 else mu l (tvar w),fun x hx y hy hfy=> ?_⟩
  have hvv:inR l v (tvar v):=(zem hA (zkR hv) rfl (by show ¬fndB l v=true;simp[hf])).2 rfl
  simp only
  by_cases hxv:x=v
  ·subst hxv
   rw[zwl hO.good hf] at hy
   have h1:¬inR l x (tvar y):=fun h=>hn (zrX t (valid_fits ht) hy h)
   have h2:=zua (l:=l) t (valid_fits ht) hy
   rw[if_pos hvv,if_neg h1]
   omega
  ·have hfx:fndB l x=true:=((zjv hO.good hf x).1 hx).resolve_left hxv
   rw[zhG hO.good hf hfx] at hy
   have hto:=valid_fits (hO.to hfx).1
   have h2:=zua (l:=l) _ hto hy
   have h3:=zes (l:=l) hA (t:=tvar x) rfl hfx
   have h3:mu l (toB l x)<mu l (tvar x):=h3
   have h4:inR l v (tvar y)->inR l v (tvar x):=fun h=>(znj hA (t:=tvar x) rfl hfx).2 (zrX _ hto hy h)
   by_cases h5:inR l v (tvar y)
   ·rw[if_pos h5,if_pos (h4 h5)];omega
   ·rw[if_neg h5]
    split <;> omega
def Flwd(l:List B)(x:Tm):Prop:=x.valid=true/\(x.kind=0->fndB l x.n=false/\x=tvar x.n/\0<=x.n/\x.n<=1099511627776)
theorem zva{x:Tm}(hf:x.fits=true)(hk:x.kind=0):0<=x.n/\x.n<=1099511627776:=by
 exact zvc hf x.n (by rw[Tm.zw1,if_pos hk];simp)
theorem zbv{l:List B}(hO:OKB l){t:Tm}(hv:t.valid=true):Flwd l (flw l t):=by
 obtain⟨h1,_,_,h4⟩:=znp hO _ t rfl hv
 refine⟨h1,fun hk=>⟨?_,za1 (valid_fits h1) hk,zva (valid_fits h1) hk⟩⟩
 cases e:fndB l (flw l t).n with
 |false=>rfl
 |true=>exact absurd ⟨hk,e⟩ h4
theorem zrY{l:List B}(hO:OKB l){x:Tm}(hx:Flwd l x)(hk:x.kind=0)(v:Int):inR l v x↔v=x.n:=
 zem hO.Acyc (valid_fits hx.1) hk (by simp[(hx.2 hk).1])
structure UBind(l:List B)(v:Int)(t:Tm):Prop where
 unb:fndB l v=false
 rng:0<=v/\v<=1099511627776
 val:t.valid=true
 out:¬inR l v t
theorem zdg{l:List B}(hO:OKB l){x y:Tm}(hx:Flwd l x)(hy:Flwd l y){v:Int}{t:Tm}(h:ustep l x y=.bind v t):UBind l v t:=by
 unfold ustep at h
 split at h
 ·rename_i hk
  have hx2:=hx.2 hk.1
  have hy2:=hy.2 hk.2
  split at h
  ·rename_i hlt
   cases h
   exact⟨hx2.1,hx2.2.2,hy.1,fun e=>by have:=(zrY hO hy hk.2 _).1 e;omega⟩
  ·split at h
   ·rename_i hlt
    cases h
    exact⟨hy2.1,hy2.2.2,hx.1,fun e=>by have:=(zrY hO hx hk.1 _).1 e;omega⟩
   ·cases h
 ·split at h
  ·rename_i hk
   split at h
   ·cases h
   ·rename_i hn
    cases h
    exact⟨(hx.2 hk).1,(hx.2 hk).2.2,hy.1,hn⟩
  ·split at h
   ·rename_i hk
    split at h
    ·cases h
    ·rename_i hn
     cases h
     exact⟨(hy.2 hk).1,(hy.2 hk).2.2,hx.1,hn⟩
   ·split at h <;> cases h
theorem zfZ{l:List B}{x y:Tm}(hx:Flwd l x)(hy:Flwd l y){xs:List (Tm × Tm)}(h:ustep l x y=.args xs):(∀p∈xs,p.1.valid=true/\p.2.valid=true)/\xs.length<=2000:=by
 unfold ustep at h
 split at h
 ·split at h
  ·cases h
  ·split at h
   ·cases h
   ·cases h;exact⟨(fun p hp=>by cases hp),Nat.zero_le _⟩
 ·split at h
  ·split at h <;> cases h
  ·split at h
   ·split at h <;> cases h
   ·split at h
    ·cases h
     have hs:=valid_size hx.1
     have hse:=x.size_eq
     have hlen:=Tm.zwT x.args
     refine⟨fun p hp=> ?_,by rw[List.length_zip];omega⟩
     have:=List.of_mem_zip hp
     exact⟨zaR hx.1 this.1,zaR hy.1 this.2⟩
    ·cases h
theorem zeK:OKB []:=⟨⟨List.Pairwise.nil,(fun b hb=>by cases hb)⟩,(fun b hb=>by cases hb),fun _=>0,(fun i b hb=>by simp at hb)⟩
theorem zrZ:∀(n:Nat) (l:List B) (r:List (Tm × Tm)),OKB l->(∀p∈r,p.1.valid=true/\p.2.valid=true)->OKB (uni n l r).1/\(uni n l r).1.length<=l.length+n
 |n,l,[],hO,_=>by rw[zfY];exact⟨hO,by simp⟩
 |0,l,p::r,_,_=>by rw[zgE];exact⟨zeK,by simp⟩
 |n+1,l,p::r,hO,hr=>by
  have hp:=hr p List.mem_cons_self
  have hx:=zbv hO hp.1
  have hy:=zbv hO hp.2
  have hr2:=fun q hq=>hr q (List.mem_cons_of_mem _ hq)
  cases e:ustep l (flw l p.1) (flw l p.2) with
  |err e'=>rw[zju r e];exact⟨zeK,by simp⟩
  |bind v t=>
   rw[zeq r e]
   obtain⟨b1,b2,b3,b4⟩:=zdg hO hx hy e
   have ih:=zrZ n (insB l v t) r (zhH hO b1 b2 b3 b4) hr2
   have:=zel l v t
   exact⟨ih.1,by omega⟩
  |args xs=>
   rw[zcj r e]
   have ih:=zrZ n l (xs++r) hO fun q hq=>(List.mem_append.1 hq).elim ((zfZ hx hy e).1 q) (hr2 q)
   exact⟨ih.1,by omega⟩
end Go.Proofs.YtffecaafklpmhaaGreat
