/- What is proved: the copy that is sorted. -/
import Derived.Test.YtffecaafklpmhaaValids
import Derived.Test.YtffecaafklpmhaaAm4
import Derived.Test.YtffecaafklpmhaaPUn
import Derived.Test.YtffecaafklpmhaaRv
set_option linter.unusedSimpArgs false
set_option linter.unusedVariables false
namespace Go.Proofs.Ytffecaafklpmhaa
open Go.Am
theorem zme{hp ext junk:Heap}{n:Nat}{fr:Fr}(hn:n=hp.length+ext.length)(hf:fr.all (fun x=>x.2.refsIn.all (·<n))=true)(he:ext.all (fun o=>o.refs.all (·<n))=true):collect n hp.length fr (hp++ext++junk)=hp++ext:=by
 have ht:(hp++ext++junk).take n=hp++ext:=by
  rw[List.take_append_of_le_length (by simp;omega),List.take_of_length_le (by simp;omega)]
 unfold collect
 rw[ht,hf,List.drop_left,Bool.true_and]
 exact if_pos he
theorem zoP{sh s s':Sh}{k k':IntKind}{z:PV}{hp:Heap}{n:Nat}(hs:0<sh.size)(h:n<=lim):zcS sh z hp [.pv s (.int k 0),.pv s' (.int k' n)]=some (.sl sh hp.length 0 0 0,hp++[.arr sh [] false]):=by
 have h1:((n:Nat):Int)<=((lim:Nat):Int):=by omega
 simp[zcS,hs,h1]
structure IsL(v:AV)(hp:Heap)(l:List Tm):Prop where
 len:sLen [v]=some (.pv none (.int .i64 l.length))
 idx:∀(i:Nat) (u:Tm),l[i]? =some u->∃p,(∀(s:Sh) (k:IntKind),zbH (some 4) [v,.pv s (.int k i)]=some p)/\∀ext,aload (some 4) (hp++ext) p=some (.pv (some 4) u.pv)
 refs:∀q,q∈v.refsIn->q<hp.length
 frz:∃hp1:Heap,hp1.length=hp.length/\∀ext,zal [v] (hp++ext)=some ([(none,.sl (some 4) (Tm.pvs l))],hp1++ext)
theorem IsL.more{v:AV}{hp:Heap}{l:List Tm}(h:IsL v hp l)(e:Heap):IsL v (hp++e) l where
 len:=h.len
 idx:=fun i u hu=>by
  obtain⟨p,h1,h2⟩:=h.idx i u hu
  exact⟨p,h1,fun ext=>by rw[List.append_assoc];exact h2 _⟩
 refs:=fun q hq=>by have:=h.refs q hq;simp;omega
 frz:=by
  obtain⟨hp1,h1,h2⟩:=h.frz
  exact⟨hp1++e,by simp[h1],fun ext=>by rw[List.append_assoc,h2,List.append_assoc]⟩
theorem zrx(hp:Heap)(l:List Tm):IsL (.pv none (.sl (some 4) (Tm.pvs l))) hp l where
 len:=by rw[zmL,Tm.pvs_len]
 idx:=fun i u hu=>⟨.iptr (some 4) u.pv 0,fun s k=>zac (Tm.pvs_get hu),fun ext=>by rw[zh9];simp⟩
 refs:=fun q hq=>by simp[AV.refsIn] at hq
 frz:=⟨hp,rfl,fun ext=>zab [(none,.sl (some 4) (Tm.pvs l))]⟩
def CmpG(c:PV->PV->Int)(g:FuncId)(D:PV->Prop):Prop:=∀x y,D x->D y->∀hp,S g [.pv (some 4) x,.pv (some 4) y] hp=some (.ret (.pv none (.int .i64 (c x y))),hp)
theorem CmpG.toF{c:PV->PV->Int}{g:FuncId}{D:PV->Prop}(h:CmpG c g D)(hp:Heap)(r:Nat):CmpF c (.pv none (.func (.func g))) D hp r:=⟨g,[],[],rfl,fun x y hx hy A=>h x y hx hy _⟩
section
variable(c:PV->PV->Int) (hC:Cmp c) (g:FuncId) (D:PV->Prop) (hg:CmpG c g D)
include hC hg
theorem zjm(hp:Heap)(r:Nat)(hr:r<hp.length)(N:Nat)(hN':N<100000000)(xs:List PV)(hN:N=xs.length)(hD:∀x∈xs,D x):
  S 76 [.sl (some 4) r N 0 N,.pv none (.func (.func g))] (hp.set r (.arr (some 4) xs false))=some (.ret (.tuple []),hp.set r (.arr (some 4) (isort c xs) false)):=by
 have hcall:=zry c hC (.pv none (.func (.func g))) D hp r (hg.toF hp r) hr N hN' xs hN hD
 have hsl:(hp.set r (.arr (some 4) xs false)).length=hp.length:=by simp
 refine zaG rfl rfl rfl rfl ?_
 simp -dsimp -implicitDefEqProofs only[go_sem,seval,↓reduceIte,hcall,hsl]
 rw[List.take_of_length_le (by simp)]
theorem zkW(v:AV)(hp:Heap)(ts:List Tm)(hL:IsL v hp ts)(hv:∀t∈ts,t.valid=true)(hl:Tm.sizes ts<100000000)(hD:∀t∈ts,D t.pv):
  S 64 [v,.pv none (.func (.func g))] hp=some (.ret (.sl (some 4) (hp.length+1) ts.length 0 ts.length),hp++[.arr (some 4) [] false,.arr (some 4) (isort c (Tm.pvs ts)) false]):=by
 have hlen:=Tm.zwj ts
 refine zaG rfl rfl rfl rfl ?_
 have hm:ts.length<=lim:=by unfold lim;omega
 simp -dsimp -implicitDefEqProofs only[go_sem,seval,↓reduceIte,hL.len,zbe (sh:=some 4) (by decide),zoP (sh:=some 4) (by decide) hm,List.append_assoc,zah,zaf,zaj,zag,Nat.add_assoc,List.length_append]
 refine zba (fun n st=>∃i:Nat,n=ts.length - i/\i<=ts.length/\st=⟨[(1,.pv none (.func (.func g))),(5,.sl (some 4) (hp.length+1) i 0 i),(11,v),(12,.pv none (.int .i64 ts.length)),(13,.pv none (.int .i64 i))],hp++[.arr (some 4) [] false,.arr (some 4) (Tm.pvs (ts.take i)) false]⟩) (n:=ts.length) ⟨0,rfl,Nat.zero_le _,?_⟩ ?_
 ·simp -dsimp -implicitDefEqProofs only[go_sem,seval,↓reduceIte]
  simp[Tm.pvs]
 ·rintro n st ⟨i,hn,hi,rfl⟩
  by_cases h:i<ts.length
  ·have hc:(i:Int)<(ts.length:Int):=by omega
   obtain⟨u,hu⟩:∃u,ts[i]? =some u:=⟨_,List.getElem?_eq_getElem h⟩
   have hum:=List.mem_of_getElem? hu
   have husz:=Tm.zws hum
   have hcall:=fun hp=>zbL u hp (hv u hum) (by omega)
   simp only[Tm.av] at hcall
   obtain⟨p,hp1,hp2⟩:=hL.idx i u hu
   have w2:IntKind.i64.wrap ((i:Int)+1)=((i+1:Nat):Int):=by rw[zaq (by omega) (by omega)];omega
   have hl2:(Tm.pvs (ts.take i)).length=i:=by rw[Tm.pvs_len,List.length_take];omega
   have hlim:i+1<=lim:=by unfold lim;omega
   simp -dsimp -implicitDefEqProofs only[go_sem,seval,↓reduceIte,hc,hp1,hp2,hcall,w2,hl2,hlim,List.append_assoc,zah,zaf,zaj,zag,Nat.add_assoc,List.length_append,Tm.zwp hu]
   refine⟨ts.length - (i+1),by omega,i+1,rfl,by omega,?_⟩
   rw[show ∀a b c d:AObj,hp++[a,b,c,d]=hp++[a,b]++[c,d] from fun _ _ _ _=>by simp]
   rw[zme (by simp) (by simp[AV.refsIn];intro q hq;have:=hL.refs q hq;omega) rfl]
  ·have hc:¬(i:Int)<(ts.length:Int):=by omega
   obtain rfl:i=ts.length:=by omega
   have hcall:=zjm c hC g D hg (hp++[.arr (some 4) [] false,.arr (some 4) (Tm.pvs ts) false]) (hp.length+1) (by simp) ts.length (by omega) (Tm.pvs ts) (Tm.pvs_len ts).symm (by rw[Tm.zwz];simpa using hD)
   have e1:∀x,(hp++[AObj.arr (some 4) [] false,.arr (some 4) (Tm.pvs ts) false]).set (hp.length+1) x=hp++[.arr (some 4) [] false,x]:=fun x=>by rw[List.set_append_right _ _ (by omega)];simp
   rw[e1,e1] at hcall
   simp -dsimp -implicitDefEqProofs only[go_sem,seval,↓reduceIte,hc,List.take_length,hcall,List.append_assoc,zah,zaf,zaj,zag,Nat.add_assoc,List.length_append]
   simp[AV.refsIn]
end
def small(p:PV):Prop:=∃t:Tm,p=t.pv/\t.valid=true/\t.size<1000000000
theorem zuH:CmpG (onPV Tm.cmp) 40 small:=by
 rintro x y ⟨t,rfl,ht,hts⟩ ⟨u,rfl,hu,hus⟩ hp
 have h:=zfE t u hp hts (Tm.valid_fits ht) (Tm.valid_fits hu)
 simp only[Tm.av] at h
 simpa[onPV,zl0] using h
theorem zuI(ts:List Tm)(hl:Tm.sizes ts<1000000000)(v:AV)(hp:Heap)(hL:IsL v hp ts)(ext:Heap):S 63 [v] (hp++ext)=some (.ret (.pv none (.bool (zaL ts))),hp++ext):=by
 obtain⟨hp1,_,hz⟩:=hL.frz
 exact zb7 rfl rfl rfl (hz ext) (zkZ ts hl)
theorem zkX(v:AV)(hp:Heap)(ts:List Tm)(hL:IsL v hp ts)(hl:Tm.sizes ts<100000000):S 37 [v] hp=some (.ret (.tuple (if zaL ts=true then[.sl (some 4) (hp.length+2) ts.length 0 ts.length,.pv none (.int .i64 0)] else[.sl (some 4) (hp.length+1) 0 0 0,.pv none (.int .i64 1)])),hp++(if zaL ts=true then[.arr (some 4) [] false,.arr (some 4) [] false,.arr (some 4) (Tm.pvs (isort Tm.cmp ts)) false] else[.arr (some 4) [] false,.arr (some 4) [] false])):=by
 have hv:=zuI ts (by omega) v hp hL
 refine zaG rfl rfl rfl rfl ?_
 by_cases h:zaL ts=true
 ·rw[h] at hv
  have hcall:=fun e=>zkW (onPV Tm.cmp) (zmR zvd) 40 small zuH v (hp++e) ts (hL.more e) (fun t ht=>zbl h ht) hl (fun t ht=>⟨t,rfl,zbl h ht,by have:=Tm.zws ht;omega⟩)
  simp only[zky,List.length_append,List.append_assoc] at hcall
  simp -dsimp -implicitDefEqProofs only[go_sem,seval,↓reduceIte,hv,hcall,h,zbe (sh:=some 4) (by decide),List.append_assoc,zah,zaf,zaj,zag,Nat.add_assoc,List.length_append]
  simp[AV.refsIn,AV.refsIn.gol]
 ·rw[Bool.not_eq_true] at h
  rw[h] at hv
  simp -dsimp -implicitDefEqProofs only[go_sem,seval,↓reduceIte,hv,h,zbe (sh:=some 4) (by decide),List.append_assoc,zah,zaf,zaj,zag,Nat.add_assoc,List.length_append]
  simp[AV.refsIn,AV.refsIn.gol]
def zaT(t:Tm):Bool:=decide (t.kind=3) && decide (t.name=[45]) && decide (t.args.length=2)
def zkN(p:PV):Prop:=∃t:Tm,p=t.pv/\t.valid=true/\t.size<1000000000/\zaT t=true
theorem zs6:CmpG (onPV zeX) 68 zkN:=by
 rintro x y ⟨t,rfl,ht,hts,htp⟩ ⟨u,rfl,hu,hus,hup⟩ hp
 simp only[zaT,Bool.and_eq_true,decide_eq_true_eq] at htp hup
 obtain⟨k1,k2,hk⟩:∃k1 k2,t.args=[k1,k2]:=by
  match t.args,htp.2 with
  |[a,b],_=>exact⟨a,b,rfl⟩
 obtain⟨j1,j2,hj⟩:∃k1 k2,u.args=[k1,k2]:=by
  match u.args,hup.2 with
  |[a,b],_=>exact⟨a,b,rfl⟩
 have h1:k1∈t.args:=by rw[hk];simp
 have h2:j1∈u.args:=by rw[hj];simp
 have hs:=Tm.zwk h1
 have h:=fun hp=>zfE k1 j1 hp (by omega) (Tm.zwm (Tm.valid_fits ht) h1) (Tm.zwm (Tm.valid_fits hu) h2)
 simp only[Tm.av] at h
 have e1:(Tm.pvs t.args)[0]? =some k1.pv:=Tm.pvs_get (by rw[hk];rfl)
 have e2:(Tm.pvs u.args)[0]? =some j1.pv:=Tm.pvs_get (by rw[hj];rfl)
 have ek:zeX t u=k1.cmp j1:=by unfold zeX zao;rw[hk,hj];rfl
 refine zam rfl rfl rfl (zab [(some 4,t.pv),(some 4,u.pv)]) rfl ?_
 simp -dsimp -implicitDefEqProofs only[go_sem,seval,↓reduceIte,zad,zaR e1,zaR e2,h]
 rw[show onPV zeX t.pv u.pv=zeX t u by simp[onPV,zl0],ek]
def zeo(ts:List Tm):Int:=if zaL ts=true then(if ts.all zaT=true then 0 else 3) else 1
def zbG(ts:List Tm):List Tm:=if zaL ts=true/\ts.all zaT=true then isort zeX ts else[]
def zuu(ts:List Tm)(hp:Heap)(v:AV)(H:Heap):Prop:=∃q E,H=hp++E/\hp.length<=q/\H[q]? =some (.arr (some 4) (Tm.pvs (zbG ts)) false)/\v=.tuple [.sl (some 4) q (zbG ts).length 0 (zbG ts).length,.pv none (.int .i64 (zeo ts))]
theorem ze7{ts:List Tm}{hp:Heap}{q:Nat}{E:Heap}{n:Nat}(hq:hp.length<=q)(h:(hp++E)[q]? =some (.arr (some 4) (Tm.pvs (zbG ts)) false))(hn:n=(zbG ts).length){e:Int}(he:e=zeo ts):
  zuu ts hp (.tuple [.sl (some 4) q n 0 n,.pv none (.int .i64 e)]) (if(AV.tuple [.sl (some 4) q n 0 n,.pv none (.int .i64 e)]).refsIn.all (fun q=>decide (q<hp.length))=true then(hp++E).take hp.length else hp++E):=by
 rw[if_neg (by simp[AV.refsIn,AV.refsIn.gol];omega)]
 exact⟨q,E,rfl,hq,h,by rw[hn,he]⟩
theorem zvr(ts:List Tm)(hl:Tm.sizes ts<100000000)(hp:Heap):∃v H,S 45 [.pv none (.sl (some 4) (Tm.pvs ts))] hp=some (.ret v,H)/\zuu ts hp v H:=by
 have hv:=zoQ ts (by omega)
 have hlen:=Tm.zwj ts
 refine zb8 (zuu ts hp) rfl rfl rfl rfl ?_
 have hn0:∀H:Heap,zbs (some 4) H=some (.sl (some 4) H.length 0 0 0,H++[.arr (some 4) [] false]):=fun H=>zbe (sh:=some 4) (by decide)
 by_cases h:zaL ts=true
 ·rw[h] at hv
  simp -dsimp -implicitDefEqProofs only[go_sem,seval,↓reduceIte,hv,hn0,Tm.pvs_len,List.append_assoc,zah,zaf,zaj,zag,Nat.add_assoc,List.length_append]
  refine zba (fun n st=>∃i:Nat,n=ts.length - i/\i<=ts.length/\(ts.take i).all zaT=true/\st=⟨[(0,.pv none (.sl (some 4) (Tm.pvs ts))),(9,.pv none (.sl (some 4) (Tm.pvs ts))),(10,.pv none (.int .i64 ts.length)),(11,.pv none (.int .i64 i))],hp++[.arr (some 4) [] false]⟩) (n:=ts.length) ⟨0,rfl,Nat.zero_le _,rfl,?_⟩ ?_
  ·rfl
  ·rintro n st ⟨i,hn,hi,hp1,rfl⟩
   by_cases hlt:i<ts.length
   ·have hc:(i:Int)<(ts.length:Int):=by omega
    obtain⟨u,hu⟩:∃u,ts[i]? =some u:=⟨_,List.getElem?_eq_getElem hlt⟩
    have hum:=List.mem_of_getElem? hu
    have w2:IntKind.i64.wrap ((i:Int)+1)=((i+1:Nat):Int):=by rw[zaq (by omega) (by omega)];omega
    have hbad:zaT u=false->zeo ts=3/\zbG ts=[]:=fun hb=>by
     have:ts.all zaT=false:=List.all_eq_false.2 ⟨u,hum,by simp[hb]⟩
     unfold zeo zbG
     simp[h,this]
    by_cases k1:u.kind=3
    ·have k1':=eq_true k1
     by_cases k2:u.name=[45]
     ·have k2':=eq_true k2
      by_cases k3:u.args.length=2
      ·have k3':=eq_true (show(u.args.length:Int)=2 by omega)
       simp -dsimp -implicitDefEqProofs only[go_sem,seval,↓reduceIte,hc,zac (Tm.pvs_get hu),zak,zan,zad,Tm.pvs_len,k1',k2',k3',w2,hn0,List.append_assoc,zah,zaf,zaj,zag,Nat.add_assoc,List.length_append]
       refine⟨ts.length - (i+1),by omega,i+1,rfl,by omega,by rw[List.take_add_one,hu];simp[hp1,zaT,k1,k2,k3],?_⟩
       rw[za2 1 rfl rfl rfl (by simp[AV.refsIn])]
       rfl
      ·have k3':=eq_false (show ¬(u.args.length:Int)=2 by omega)
       simp -dsimp -implicitDefEqProofs only[go_sem,seval,↓reduceIte,hc,zac (Tm.pvs_get hu),zak,zan,zad,Tm.pvs_len,k1',k2',k3',w2,hn0,List.append_assoc,zah,zaf,zaj,zag,Nat.add_assoc,List.length_append]
       exact ze7 (by omega) (by rw[zah,(hbad (by simp[zaT,k3])).2];rfl) (by rw[(hbad (by simp[zaT,k3])).2];rfl) (hbad (by simp[zaT,k3])).1.symm
     ·have k2':=eq_false k2
      simp -dsimp -implicitDefEqProofs only[go_sem,seval,↓reduceIte,hc,zac (Tm.pvs_get hu),zak,zan,zad,Tm.pvs_len,k1',k2',w2,hn0,List.append_assoc,zah,zaf,zaj,zag,Nat.add_assoc,List.length_append]
      exact ze7 (by omega) (by rw[zah,(hbad (by simp[zaT,k2])).2];rfl) (by rw[(hbad (by simp[zaT,k2])).2];rfl) (hbad (by simp[zaT,k2])).1.symm
    ·have k1':=eq_false k1
     simp -dsimp -implicitDefEqProofs only[go_sem,seval,↓reduceIte,hc,zac (Tm.pvs_get hu),zak,zan,zad,Tm.pvs_len,k1',w2,hn0,List.append_assoc,zah,zaf,zaj,zag,Nat.add_assoc,List.length_append]
     exact ze7 (by omega) (by rw[zah,(hbad (by simp[zaT,k1])).2];rfl) (by rw[(hbad (by simp[zaT,k1])).2];rfl) (hbad (by simp[zaT,k1])).1.symm
   ·have hc:¬(i:Int)<(ts.length:Int):=by omega
    obtain rfl:i=ts.length:=by omega
    rw[List.take_length] at hp1
    have eE:zeo ts=0:=by unfold zeo;rw[if_pos h,if_pos hp1]
    have eL:zbG ts=isort zeX ts:=by unfold zbG;rw[if_pos ⟨h,hp1⟩]
    have hcall:=zkW (onPV zeX) (zmR zuj) 68 zkN zs6 (.pv none (.sl (some 4) (Tm.pvs ts))) (hp++[.arr (some 4) [] false]) ts (zrx _ _) (fun t ht=>zbl h ht) hl (fun t ht=>⟨t,rfl,zbl h ht,by have:=Tm.zws ht;omega,List.all_eq_true.1 hp1 t ht⟩)
    simp only[zky,List.length_append,List.length_cons,List.length_nil,List.append_assoc,List.cons_append,List.nil_append,Nat.add_assoc,Nat.zero_add] at hcall
    simp -dsimp -implicitDefEqProofs only[go_sem,seval,↓reduceIte,hc,hcall,List.append_assoc,zah,zaf,zaj,zag,Nat.add_assoc,List.length_append]
    exact ze7 (by omega) (by rw[zah,eL];rfl) (by rw[eL,zaw]) eE.symm
 ·have eE:zeo ts=1:=by unfold zeo;rw[if_neg h]
  have eL:zbG ts=[]:=by unfold zbG;rw[if_neg (fun e=>h e.1)]
  rw[Bool.not_eq_true] at h
  rw[h] at hv
  simp -dsimp -implicitDefEqProofs only[go_sem,seval,↓reduceIte,hv,hn0,List.append_assoc,zah,zaf,zaj,zag,Nat.add_assoc,List.length_append]
  exact ze7 (by omega) (by rw[zah,eL];rfl) (by rw[eL];rfl) eE.symm
theorem zfa{t:Tm}(h:zaT t=true):∃a b,t.args=[a,b]:=by
 simp only[zaT,Bool.and_eq_true,decide_eq_true_eq] at h
 match t.args,h.2 with
 |[a,b],_=>exact⟨a,b,rfl⟩
theorem zfJ{t:Tm}(h:zaT t=true):zao t∈t.args:=by
 obtain⟨a,b,e⟩:=zfa h
 unfold zao
 rw[e]
 simp
def vari(a b:Tm):Bool:=a.valid && (b.valid && decide ((canT a).cmp (canT b)=0))
theorem zrF{L:List Int}:∀t:Tm,t.fits=true->(Tm.sub (cPos L) t).size=t.size:=by
 intro t
 induction t using Tm.zwl with
 |h t ih=>
  intro hf
  rw[Tm.zwx]
  by_cases hk:t.kind=0
  ·rw[if_pos hk,zbz hf hk]
   rfl
  ·rw[if_neg hk,Tm.size_eq,t.size_eq]
   congr 1
   have hargs:∀u∈t.args,(Tm.sub (cPos L) u).size=u.size:=fun u hu=>ih u hu (Tm.zwm hf hu)
   show Tm.sizes (t.args.map (Tm.sub (cPos L)))=_
   generalize t.args=l at hargs
   clear ih
   induction l with
   |nil=>rfl
   |cons x r ihl=>
    rw[List.map_cons,Tm.sizes,Tm.sizes,hargs x List.mem_cons_self,ihl fun u hu=>hargs u (List.mem_cons_of_mem _ hu)]
theorem zhA{t:Tm}(h:t.valid=true):(canT t).size=t.size:=zrF t (valid_fits h)
theorem zoS(a b:Tm)(hp:Heap)(ha:a.size<1000000000)(hb:b.size<1000000000):S 47 [a.av,b.av] hp=some (.ret (.pv none (.bool (vari a b))),hp):=by
 refine zam rfl rfl rfl (zab [(some 4,a.pv),(some 4,b.pv)]) rfl ?_
 have h1:=fun hp=>za9 a hp ha
 have h2:=fun hp=>za9 b hp hb
 simp only[Tm.av] at h1 h2
 unfold vari
 by_cases va:a.valid=true
 ·by_cases vb:b.valid=true
  ·have h4:=fun hp=>ze2 a hp ha
   have h5:=fun hp=>ze2 b hp hb
   have hs:=zhA va
   have h3:=fun hp=>zkV (canT a) (canT b) hp (by omega)
   rw[canR,if_pos va] at h4
   rw[canR,if_pos vb] at h5
   simp only[Tm.av] at h3 h4 h5
   (repeat' (first|(simp -dsimp -implicitDefEqProofs only[go_sem,seval,↓reduceIte, *])|(refine zau (fun _=> ?_) (fun _=> ?_))))
  ·(repeat' (first|(simp -dsimp -implicitDefEqProofs only[go_sem,seval,↓reduceIte, *])|(refine zau (fun _=> ?_) (fun _=> ?_))))
 ·(repeat' (first|(simp -dsimp -implicitDefEqProofs only[go_sem,seval,↓reduceIte, *])|(refine zau (fun _=> ?_) (fun _=> ?_))))
theorem ztk(p key:Tm)(hp:zaT p=true)(H:Heap)(c:Nat)(hc:H[c]? =some (.box (some 4) (.pv (some 4) key.pv)))(h1:p.size<1000000000)(h2:key.size<1000000000):
  S 46 [p.av,.ptr c 0] H=some (.ret (.pv none (.bool (vari (zao p) key))),H):=by
 refine zaG rfl rfl rfl rfl ?_
 obtain⟨a,b,e⟩:=zfa hp
 have e1:(Tm.pvs p.args)[0]? =some (zao p).pv:=Tm.pvs_get (by unfold zao;rw[e];rfl)
 have hk:=zfJ hp
 have hks:=Tm.zwk hk
 have h3:=fun hp=>zoS (zao p) key hp (by omega) h2
 have hcl:=zbX hc
 have hld:∀X:Heap,(H++X)[c]? =some (.box (some 4) (.pv (some 4) key.pv)):=fun X=>by rw[List.getElem?_append_left hcl];exact hc
 simp only[Tm.av] at h3
 simp -dsimp -implicitDefEqProofs only[go_sem,seval,↓reduceIte,Tm.av,zad,zaR e1,h3,hld,List.append_assoc,zah,zaf,zaj,zag,Nat.add_assoc,List.length_append]
 simp[AV.refsIn]
theorem uniV{V:List Int}:∀(n:Nat) (l:List B) (r:List (Tm × Tm)),OKB l->(∀p∈r,p.1.valid=true/\p.2.valid=true)->InVB V l->(∀p∈r,InV V p.1/\InV V p.2)->InVB V (uni n l r).1
 |n,l,[],_,_,hl,_=>by rw[zmg];exact hl
 |0,l,p::r,_,_,_,_=>by rw[zjo];exact fun b hb=>by cases hb
 |n+1,l,p::r,hO,hr,hl,hp=>by
  have hv:=hr p List.mem_cons_self
  have hi:=hp p List.mem_cons_self
  have hx:=zb2 hO hv.1
  have hy:=zb2 hO hv.2
  have ix:=InV.flw hO hl _ _ rfl hv.1 hi.1
  have iy:=InV.flw hO hl _ _ rfl hv.2 hi.2
  have hr2:=fun q hq=>hr q (List.mem_cons_of_mem _ hq)
  have hp2:=fun q hq=>hp q (List.mem_cons_of_mem _ hq)
  cases e:ustep l (flw l p.1) (flw l p.2) with
  |err e'=>rw[zmh r e];exact fun b hb=>by cases hb
  |bind v t=>
   rw[zjp r e]
   obtain⟨b1,b2,b3,b4⟩:=zfK hO hx hy e
   refine uniV n (insB l v t) r (zmi hO b1 b2 b3 b4) hr2 (fun b hb=> ?_) hp2
   rcases zd4 hb with rfl|h
   ·exact zhr ix iy e
   ·exact hl b h
  |args xs=>
   rw[zgv r e]
   exact uniV n l (xs++r) hO (fun q hq=>(List.mem_append.1 hq).elim ((zfL hx hy e).1 q) (hr2 q)) hl fun q hq=>(List.mem_append.1 hq).elim (zhs ix iy e q) (hp2 q)
theorem zwe{V:List Int}{l:List B}{a b:Tm}(hl:InVB V l)(ha:InV V a)(hb:InV V b):InVB V (unR l a b).1:=by
 unfold unR
 split
 ·rename_i h
  refine uniV _ _ _ (okb_iff.1 h.1) (fun p hp=> ?_) hl fun p hp=> ?_
  ·rw[List.mem_singleton] at hp;rw[hp];exact h.2
  ·rw[List.mem_singleton] at hp;rw[hp];exact⟨ha,hb⟩
 ·exact fun b hb=>by cases hb
theorem zur(l:List B)(a b:Tm):OKB (unR l a b).1:=by
 unfold unR
 split
 ·rename_i h
  refine(zrE _ _ _ (okb_iff.1 h.1) fun p hp=> ?_).1
  rw[List.mem_singleton] at hp;rw[hp];exact h.2
 ·exact zhz
def zbk(t:Tm):Tm:=(t.args[1]?).getD (.mk 0 0 [] [])
def prT(k t:Tm):Tm:=.mk 3 0 [45] [k,t]
noncomputable def gU(key:Tm):List B->List Tm->Option (List B)
 |s,[]=>some s
 |s,p::r=>if(unR s (zao p) key).2=0 then gU key (unR s (zao p) key).1 r else none
noncomputable def grp(p:Tm)(r:List Tm):Option Tm:=
 match gU (zao p) [] r with
 |none=>none
 |some s=>if(rsR s (zao p)).2=0/\(∀t∈p::r,(rsR s (zbk t)).2=0)/\(prT (rsR s (zao p)).1 (lst ((p::r).map fun t=>(rsR s (zbk t)).1))).size<=2000 then some (prT (rsR s (zao p)).1 (lst ((p::r).map fun t=>(rsR s (zbk t)).1))) else none
def zus:Option Tm->Option (List Tm)->Option (List Tm)
 |none,_=>none
 |some t,g=>g.map (t::·)
noncomputable def grps:Nat->List Tm->Option (List Tm)
 |_,[]=>some []
 |0,_::_=>some []
 |n+1,p::r=>zus (grp p (r.filter fun q=>vari (zao q) (zao p))) (grps n (r.filter fun q=> !vari (zao q) (zao p)))
def ofG:Option (List Tm)->List Tm × Int
 |some l=>(l,0)
 |none=>([],2)
noncomputable def zaY(ts:List Tm):List Tm × Int:=if zeo ts=0 then ofG (grps (zbG ts).length (zbG ts)) else([],zeo ts)
theorem zhm{s:List B}{t:Tm}(h:(rsR s t).2=0):(rsR s t).1.valid=true/\(rsR s t).1.size<=2000:=by
 unfold rsR at h ⊢
 split
 ·rename_i hc
  rw[if_pos hc] at h
  split
  ·rename_i hz
   exact⟨zd6 (zuF (okb_iff.1 hc.1) _ t rfl (valid_fits hc.2)) hz,hz⟩
  ·rename_i hz
   rw[if_neg hz] at h
   cases h
 ·rename_i hc
  rw[if_neg hc] at h
  cases h
theorem zkL:∀l:List Tm,(∀t∈l,t.fits=true)->(lst l).fits=true
 |[],_=>by decide
 |x::r,h=>by
  have ih:=zkL r fun w hw=>h w (List.mem_cons_of_mem _ hw)
  have hv:=h x List.mem_cons_self
  show(zqY x (lst r)).fits=true
  simp[zqY,Tm.fits,Tm.fitsAll,Tm.node,ih,hv,Tm.kind,Tm.n,Tm.name,Tm.args]
theorem zhn:∀(l:List Tm) (m:Nat),(∀t∈l,t.size<=m)->(lst l).size<=(m+1)*l.length+1
 |[],_,_=>by show 1<=_;omega
 |x::r,m,h=>by
  have ih:=zhn r m fun w hw=>h w (List.mem_cons_of_mem _ hw)
  have hx:=h x List.mem_cons_self
  show 1+(x.size+((lst r).size+0))<=(m+1)*(r.length+1)+1
  rw[Nat.mul_succ]
  omega
theorem zs2{k t:Tm}(hk:k.fits=true)(ht:t.fits=true):(prT k t).fits=true:=by
 simp[prT,Tm.fits,Tm.fitsAll,Tm.node,hk,ht,Tm.kind,Tm.n,Tm.name,Tm.args]
theorem zkM{p:Tm}{r:List Tm}{t:Tm}(h:grp p r=some t):t.valid=true:=by
 unfold grp at h
 split at h
 ·cases h
 ·rename_i s _
  split at h
  ·rename_i hc
   cases h
   refine zd6 (zs2 (valid_fits (zhm hc.1).1) (zkL _ fun x hx=> ?_)) hc.2.2
   obtain⟨q,hq,rfl⟩:=List.mem_map.1 hx
   exact valid_fits (zhm (hc.2.1 q hq)).1
  ·cases h
theorem zik:∀(n:Nat) (l:List Tm) (g:List Tm),grps n l=some g->∀t∈g,t.valid=true
 |_,[],g,h=>by rw[grps] at h;cases h;exact fun t ht=>by cases ht
 |0,_::_,g,h=>by rw[grps] at h;cases h;exact fun t ht=>by cases ht
 |n+1,p::r,g,h=>by
  rw[grps] at h
  cases ht:grp p (r.filter fun q=>vari (zao q) (zao p)) with
  |none=>rw[ht] at h;cases h
  |some t=>
   rw[ht] at h
   cases e:grps n (r.filter fun q=> !vari (zao q) (zao p)) with
   |none=>rw[e] at h;cases h
   |some g'=>
    rw[e] at h
    cases h
    intro u hu
    rcases List.mem_cons.1 hu with rfl|hu
    ·exact zkM ht
    ·exact zik n _ g' e u hu
theorem zje(ts:List Tm):∀t∈(zaY ts).1,t.valid=true:=by
 unfold zaY
 split
 ·cases h:grps (zbG ts).length (zbG ts) with
  |some l=>exact zik _ _ _ h
  |none=>exact fun t ht=>by cases ht
 ·exact fun t ht=>by cases ht
def shp(t:Tm):Tm:=Tm.sub (fun _=>tvar 0) t
theorem zil{t:Tm}(h:zaT t=true)(hv:t.valid=true):(zbk t).valid=true:=by
 obtain⟨a,b,e⟩:=zfa h
 exact zaJ hv (by unfold zbk;rw[e];simp)
def GrpV(o:Option Tm)(v:AV):Prop:=match o with
 |some t=>v=.tuple [t.av,.pv none (.int .i64 0)]
 |none=>∃e:Int,e≠0/\v=.tuple [zt.av,.pv none (.int .i64 e)]
theorem ze4{e:Int}(h:e≠0):GrpV none (.tuple [zt.av,.pv none (.int .i64 e)]):=⟨e,h,rfl⟩
theorem zs3(nm:List UInt8)(x y:Tm)(hp:Heap):S 27 [.pv none (.str nm),.pv none (.sl (some 4) [x.pv,y.pv])] hp=some (.ret (Tm.mk 3 0 nm [x,y]).av,hp):=by
 refine zam (ps:=[(none,.str nm),(none,.sl (some 4) [x.pv,y.pv])]) rfl rfl rfl rfl rfl ?_
 have hb:zaP [(none,.pv none (.int .i64 0)),(none,.pv none (.int .i64 0)),(none,.pv none (.str [])),(none,.tsl (some 4) [])] [0,2,3] [.pv none (.int .i64 3),.pv none (.str nm),.pv none (.sl (some 4) [x.pv,y.pv])]=some (.pv (some 4) (Tm.mk 3 0 nm [x,y]).pv):=rfl
 simp -dsimp -implicitDefEqProofs only[go_sem,seval,↓reduceIte,hb]
 try rfl
theorem zoy{s:Nat}{r:List Nat}{fr:Fr}{a0 a1 a2 a3 a4 a5 a6 a7:AObj}{es:List PV}{X:Heap}:zfv s r ⟨fr,a0::a1::a2::a3::a4::a5::a6::a7::.arr (some 4) es false::X⟩ (some (.sl (some 4) 8 es.length 0 es.length))=Am.settle r ⟨(s,.pv none (.sl (some 4) es))::fr,a0::a1::a2::a3::a4::a5::a6::a7::.arr (some 4) es true::X⟩:=by
 simp[zfv,AV.freeze,deep]
theorem zc3{n:Nat}{fr:Fr}{xs:Heap}(ho:(xs.take n).all (fun o=>o.refs.all (fun q=>decide (q<n)))=true)(hf:fr.all (fun x=>x.2.refsIn.all (fun q=>decide (q<n)))=true):collect n 0 fr xs=xs.take n:=by
 unfold collect
 rw[List.drop_zero,if_pos (by rw[hf,ho];rfl)]
def s5G(i:Nat)(s:List B):AV:=if i<=1 then .sl (some 5) 4 0 0 0 else .pv none (.sl (some 5) (bds s))
def gH(key:Tm)(fz:Bool)(items:List Tm):Heap:=[.box (some 4) (.agg [(none,.pv none (.int .i64 0)),(none,.pv none (.int .i64 0)),(none,.pv none (.str [])),(none,.sl (some 4) 1 0 0 0)]),.arr (some 4) [] false,.box (some 4) (.pv (some 4) key.pv),.arr (some 4) [] false,.arr (some 5) [] fz,.arr (some 4) (Tm.pvs items) false]
theorem ze5{t:Tm}(h:zaT t=true):(Tm.pvs t.args)[0]? =some (zao t).pv/\(Tm.pvs t.args)[1]? =some (zbk t).pv/\zbk t∈t.args:=by
 obtain⟨a,b,e⟩:=zfa h
 refine⟨Tm.pvs_get (by unfold zao;rw[e];rfl),Tm.pvs_get (by unfold zbk;rw[e];rfl),?_⟩
 unfold zbk
 rw[e]
 simp
theorem frz5(a0 a1 a2 a3:AObj)(fz:Bool)(X:Heap)(x y:PV):zal [.sl (some 5) 4 0 0 0,.pv (some 4) x,.pv (some 4) y] (a0::a1::a2::a3::.arr (some 5) [] fz::X)=some ([(none,.sl (some 5) []),(some 4,x),(some 4,y)],a0::a1::a2::a3::.arr (some 5) [] true::X):=by
 rw[zc1 (show zeS 0 ((a0::a1::a2::a3::AObj.arr (some 5) [] fz::X)[4]?) from rfl)]
 rfl
theorem zvq(a0 a1 a2 a3:AObj)(fz:Bool)(X:Heap)(x:PV):zal [.sl (some 5) 4 0 0 0,.pv (some 4) x] (a0::a1::a2::a3::.arr (some 5) [] fz::X)=some ([(none,.sl (some 5) []),(some 4,x)],a0::a1::a2::a3::.arr (some 5) [] true::X):=by
 rw[zc1 (show zeS 0 ((a0::a1::a2::a3::AObj.arr (some 5) [] fz::X)[4]?) from rfl)]
 rfl
theorem ze6(x:Tm)(q:AV):(AV.tuple [x.av,q]).scalar=false:=by cases x;rfl
theorem zq9(p:Tm)(r:List Tm)(V:List Int)(hV:V.length<=200000)(hps:∀q∈p::r,zaT q=true/\q.valid=true)(hVk:∀q∈p::r,InV V (zao q))(hl:r.length<100000):
  ∃v,(∀hp,S 48 [.pv none (.sl (some 4) (Tm.pvs (p::r)))] hp=some (.ret v,hp))/\GrpV (grp p r) v:=by
 obtain⟨ps,hpe⟩:∃ps,ps=p::r:=⟨_,rfl⟩
 have hp0:ps[0]? =some p:=by rw[hpe];rfl
 have hpl:ps.length=r.length+1:=by rw[hpe];rfl
 have hpn:∀j,ps[j+1]? =r[j]? :=fun j=>by rw[hpe];rfl
 rw[<-hpe] at hps hVk
 rw[<-hpe]
 refine zhu _ rfl rfl rfl (fun hp=>zab [(none,.sl (some 4) (Tm.pvs ps))]) rfl ?_
 have hn4:∀(H:Heap),zbs (some 4) H=some (.sl (some 4) H.length 0 0 0,H++[.arr (some 4) [] false]):=fun H=>zbe (sh:=some 4) (by decide)
 have hn5:∀(H:Heap),zbs (some 5) H=some (.sl (some 5) H.length 0 0 0,H++[.arr (some 5) [] false]):=fun H=>zbe (sh:=some 5) (by decide)
 have hb0:zaP [(none,.pv none (.int .i64 0)),(none,.pv none (.int .i64 0)),(none,.pv none (.str [])),(none,.tsl (some 4) [])] [] []=some (.agg [(none,.pv none (.int .i64 0)),(none,.pv none (.int .i64 0)),(none,.pv none (.str [])),(none,.tsl (some 4) [])]):=rfl
 have hpp:=hps p (List.mem_of_getElem? hp0)
 obtain⟨g0,_,_⟩:=ze5 hpp.1
 have hkv:(zao p).valid=true:=zaJ hpp.2 (zfJ hpp.1)
 have hks:=valid_size hkv
 have hgn:∀s,gU (zao p) [] r=some s->grp p r=(if(rsR s (zao p)).2=0/\(∀t∈ps,(rsR s (zbk t)).2=0)/\(prT (rsR s (zao p)).1 (lst (ps.map fun t=>(rsR s (zbk t)).1))).size<=2000 then some (prT (rsR s (zao p)).1 (lst (ps.map fun t=>(rsR s (zbk t)).1))) else none):=fun s h=>by
  rw[hpe]
  unfold grp
  rw[h]
 have hgz:gU (zao p) [] r=none->grp p r=none:=fun h=>by
  unfold grp
  rw[h]
 have hVp:=hVk p (List.mem_of_getElem? hp0)
 generalize grp p r=G at hgn hgz ⊢
 obtain⟨key,hkey⟩:∃key,key=zao p:=⟨_,rfl⟩
 rw[<-hkey] at g0 hkv hks hgn hgz hVp
 simp -dsimp -implicitDefEqProofs only[go_sem,seval,↓reduceIte,hn4,hn5,Tm.pvs_len,zaR (Tm.pvs_get hp0),zad,zaR g0]
 refine zcK (α:=List B) ps.length (fun i s=>OKB s/\InVB V s/\(i<=1->s=[])/\gU key [] r=gU key s (r.drop (i - 1))) (fun i s=>⟨[(2,.ptr 0 0),(4,.ptr 2 0),(5,s5G i s),(6,.sl (some 4) 5 i 0 i),(25,.pv none (.sl (some 4) (Tm.pvs ps))),(26,.pv none (.int .i64 ps.length)),(27,.pv none (.int .i64 i))],gH key (decide (1<i)) ((ps.take i).map zbk)⟩) [] ⟨⟨zhz,(fun b hb=>by cases hb),fun _=>rfl,rfl⟩,rfl⟩ ?_ ?_
 ·rintro i s h ⟨hO,hVs,hs1,hgu⟩
  have hc:(i:Int)<(ps.length:Int):=by omega
  obtain⟨u,hu⟩:∃u,ps[i]? =some u:=⟨_,List.getElem?_eq_getElem h⟩
  have hum:=List.mem_of_getElem? hu
  obtain⟨hup,huv⟩:=hps u hum
  obtain⟨u0,u1,u2⟩:=ze5 hup
  have hVu:=hVk u hum
  have hk2:(zao u).valid=true:=zaJ huv (zfJ hup)
  have hk2s:=valid_size hk2
  have q1:=zac (sh:=some 4) (s:=none) (s':=none) (k:=.i64) u1
  have q0:=zac (sh:=some 4) (s:=none) (s':=none) (k:=.i64) u0
  simp only[show((1:Nat):Int)=1 from rfl,show((0:Nat):Int)=0 from rfl] at q1 q0
  have hll:(Tm.pvs ((ps.take i).map zbk)).length=i:=by rw[Tm.pvs_len,List.length_map,List.length_take];omega
  have hlim:i+1<=lim:=by unfold lim;omega
  have hap:Tm.pvs ((ps.take i).map zbk)++[(zbk u).pv]=Tm.pvs ((ps.take (i+1)).map zbk):=by rw[List.take_add_one,hu];simp[Tm.zwn];rfl
  have w2:IntKind.i64.wrap ((i:Int)+1)=((i+1:Nat):Int):=by rw[zaq (by omega) (by omega)];omega
  cases i with
  |zero=>
   have z:((0:Nat):Int)=0:=rfl
   rw[z] at hc w2
   simp only[List.take_zero,List.map_nil,Nat.zero_add] at hap hll
   simp -dsimp -implicitDefEqProofs only[go_sem,seval,↓reduceIte,List.map_nil,gH,s5G,z,hn4,hn5,hc,zaR (Tm.pvs_get hu),zad,q0,q1,hll,hlim,hap,w2]
   rw[hs1 (by omega)] at hgu
   exact⟨[],⟨zhz,(fun b hb=>by cases hb),fun _=>rfl,hgu⟩,rfl⟩
  |succ i=>
   have hi0:¬((i+1:Nat):Int)=0:=by omega
   have hur:r[i]? =some u:=by rw[<-hpn];exact hu
   have hdr:r.drop i=u::r.drop (i+1):=by
    obtain⟨q1,e1⟩:=List.getElem?_eq_some_iff.1 hur
    rw[List.drop_eq_getElem_cons q1,e1]
   have hgu:gU key [] r=gU key s (u::r.drop (i+1)):=by rw[hgu,Nat.add_sub_cancel,hdr]
   rw[gU] at hgu
   have hO2:=zur s (zao u) key
   have hV2:=zwe hVs hVu hVp
   have hun:=zrq V s (zao u) key (by omega) hVs hVu hVp (by have:=InVB.len hO.good hVs;omega) (fun b hb=>(hO.good.2 b hb).2) (by omega) (by omega)
   have hfin:∀{e:Int},e≠0->(unR s (zao u) key).2=e->GrpV G (.tuple [zt.av,.pv none (.int .i64 e)]):=fun{e} he h=>by
    rw[if_neg (by rw[h];exact he)] at hgu
    rw[hgz hgu]
    exact ze4 he
   have hgu2:(unR s (zao u) key).2=0->gU key [] r=gU key (unR s (zao u) key).1 (r.drop (i+1)):=fun h=>by rw[hgu,if_pos h]
   clear hgu
   generalize unR s (zao u) key=R at*
   obtain⟨s2,e⟩:=R
   dsimp only at hO2 hV2 hun hfin hgu2
   cases i with
   |zero=>
    have hs0:=hs1 (by omega)
    subst hs0
    have hq:=zac (sh:=some 4) (s:=none) (s':=none) (k:=.i64) (Tm.pvs_get hu)
    simp only[Nat.zero_add,show((1:Nat):Int)=1 from rfl] at hc hll hlim hap w2 hq
    have hcall:=fun(a0 a1 a2 a3:AObj) (X:Heap)=>zb7 rfl rfl rfl (frz5 a0 a1 a2 a3 false X (zao u).pv key.pv) (hun [])
    by_cases he:e=0
    ·have he':=eq_true he
     simp -dsimp -implicitDefEqProofs only[go_sem,seval,↓reduceIte,gH,s5G,hn4,hn5,hc,hi0,hq,zad,q0,q1,hll,hlim,hap,w2,hcall,he']
     exact⟨s2,⟨hO2,hV2,fun h=>by revert h;simp,hgu2 he⟩,rfl⟩
    ·simp -dsimp -implicitDefEqProofs only[go_sem,seval,↓reduceIte,gH,s5G,hn4,hn5,hb0,hc,hi0,hq,zad,q0,q1,hll,hlim,hap,w2,hcall,he,zae (Nat.zero_le _)]
     exact⟨_,zbS _ _ _ rfl,hfin he rfl⟩
   |succ i=>
    simp only[Tm.av] at hun
    by_cases he:e=0
    ·have he':=eq_true he
     simp -dsimp -implicitDefEqProofs only[go_sem,seval,↓reduceIte,gH,s5G,hn4,hn5,hc,hi0,zac (Tm.pvs_get hu),zad,q0,q1,hll,hlim,hap,w2,hun,he']
     exact⟨s2,⟨hO2,hV2,fun h=>by revert h;simp,hgu2 he⟩,rfl⟩
    ·simp -dsimp -implicitDefEqProofs only[go_sem,seval,↓reduceIte,gH,s5G,hn4,hn5,hb0,hc,hi0,zac (Tm.pvs_get hu),zad,q0,q1,hll,hlim,hap,w2,hun,he,zae (Nat.zero_le _)]
     exact⟨_,zbS _ _ _ rfl,hfin he rfl⟩
 ·rintro s ⟨hO,hVs,hs1,hgu⟩
  have hc:¬(ps.length:Int)<(ps.length:Int):=by omega
  have hgS:gU key [] r=some s:=by
   rw[hgu,hpl,Nat.add_sub_cancel,List.drop_length]
   rfl
  have hG:=hgn s hgS
  clear hgn hgz hgu hgS
  have hsl:=InVB.len hO.good hVs
  have hpr:=fun t (ht:t.size<1000000000)=>zmc s t (by omega) (fun b hb=>(hO.good.2 b hb).2) ht
  obtain⟨s5,o4,e1,e2,hr1,hr2,hlow⟩:∃(s5:AV) (o4:AObj),s5G ps.length s=s5/\AObj.arr (some 5) [] (decide (1<ps.length))=o4/\
    (∀t:Tm,t.size<1000000000->∀(a0 a1 a2 a3:AObj) (X:Heap),S 70 [s5,t.av] (a0::a1::a2::a3::o4::X)=some (.ret (.tuple [(rsR s t).1.av,.pv none (.int .i64 (rsR s t).2)]),a0::a1::a2::a3::.arr (some 5) [] true::X))/\
    (∀t:Tm,t.size<1000000000->∀(a0 a1 a2 a3:AObj) (X:Heap),S 70 [s5,t.av] (a0::a1::a2::a3::.arr (some 5) [] true::X)=some (.ret (.tuple [(rsR s t).1.av,.pv none (.int .i64 (rsR s t).2)]),a0::a1::a2::a3::.arr (some 5) [] true::X))/\
    s5.refsIn.all (fun q=>decide (q<9))=true:=by
   by_cases h1:ps.length<=1
   ·have hs0:=hs1 h1
    subst hs0
    refine⟨.sl (some 5) 4 0 0 0,.arr (some 5) [] false,by unfold s5G;rw[if_pos h1],by rw[decide_eq_false (by omega)],fun t ht a0 a1 a2 a3 X=> ?_,fun t ht a0 a1 a2 a3 X=> ?_,rfl⟩
    ·exact(zb7 rfl rfl rfl (zvq a0 a1 a2 a3 false X t.pv) (hpr t ht [])).trans (by rw[ze6];rfl)
    ·exact(zb7 rfl rfl rfl (zvq a0 a1 a2 a3 true X t.pv) (hpr t ht [])).trans (by rw[ze6];rfl)
   ·refine⟨.pv none (.sl (some 5) (bds s)),.arr (some 5) [] true,by unfold s5G;rw[if_neg h1],by rw[decide_eq_true (by omega)],fun t ht a0 a1 a2 a3 X=>hpr t ht _,fun t ht a0 a1 a2 a3 X=>hpr t ht _,rfl⟩
  simp only[gH,e1,e2]
  clear e1 e2 hs1 hpr
  have hk1:=hr1 key (by omega)
  simp only[Tm.av] at hk1
  have hrv:=fun t=>zhm (s:=s) (t:=t)
  by_cases he:(rsR s key).2=0
  rotate_left
  ·rw[if_neg (fun h=>he h.1)] at hG
   generalize rsR s key=R at*
   obtain⟨k,e⟩:=R
   dsimp only at he hk1
   simp -dsimp -implicitDefEqProofs only[go_sem,seval,↓reduceIte,hn4,hn5,hb0,hc,List.take_length,hk1,he,zae (Nat.zero_le _)]
   rw[hG]
   exact⟨_,zbS _ _ _ rfl,ze4 he⟩
  ·have hkv2:=hrv key he
   obtain⟨k,hk⟩:∃k,k=(rsR s key).1:=⟨_,rfl⟩
   have he':=eq_true he
   rw[<-hk] at hk1 hG hkv2
   simp -dsimp -implicitDefEqProofs only[go_sem,seval,↓reduceIte,hn4,hn5,hc,List.take_length,hk1,he']
   refine zcK (α:=Unit) ps.length (fun i _=>∀t∈ps.take i,(rsR s (zbk t)).2=0) (fun i _=>⟨[(2,.ptr 0 0),(5,s5),(11,.ptr 6 0),(13,.sl (some 4) 8 i 0 i),(67,.sl (some 4) 5 ps.length 0 ps.length),(68,.pv none (.int .i64 ps.length)),(69,.pv none (.int .i64 i))],
    [.box (some 4) (.agg [(none,.pv none (.int .i64 0)),(none,.pv none (.int .i64 0)),(none,.pv none (.str [])),(none,.sl (some 4) 1 0 0 0)]),.arr (some 4) [] false,.box (some 4) (.pv (some 4) key.pv),.arr (some 4) [] false,.arr (some 5) [] true,.arr (some 4) (Tm.pvs (ps.map zbk)) false,.box (some 4) (.pv (some 4) k.pv),.arr (some 4) [] false,.arr (some 4) (Tm.pvs ((ps.take i).map fun t=>(rsR s (zbk t)).1)) false]⟩) () ⟨(fun t ht=>by cases ht),rfl⟩ ?_ ?_
   ·rintro i - h hall
    have hc:(i:Int)<(ps.length:Int):=by omega
    obtain⟨u,hu⟩:∃u,ps[i]? =some u:=⟨_,List.getElem?_eq_getElem h⟩
    have hum:=List.mem_of_getElem? hu
    obtain⟨hup,huv⟩:=hps u hum
    obtain⟨u0,u1,u2⟩:=ze5 hup
    have hk2:(zbk u).valid=true:=zaJ huv u2
    have hk2s:=valid_size hk2
    have hcall:=hr2 (zbk u) (by omega)
    have hug:(Tm.pvs (ps.map zbk))[i]? =some (zbk u).pv:=Tm.pvs_get (by rw[List.getElem?_map,hu];rfl)
    have hll:(Tm.pvs ((ps.take i).map fun t=>(rsR s (zbk t)).1)).length=i:=by rw[Tm.pvs_len,List.length_map,List.length_take];omega
    have hlm:(Tm.pvs (ps.map zbk)).length=ps.length:=by rw[Tm.pvs_len,List.length_map]
    have hlim:i+1<=lim:=by unfold lim;omega
    have hap:Tm.pvs ((ps.take i).map fun t=>(rsR s (zbk t)).1)++[(rsR s (zbk u)).1.pv]=Tm.pvs ((ps.take (i+1)).map fun t=>(rsR s (zbk t)).1):=by rw[List.take_add_one,hu];simp[Tm.zwn];rfl
    have w2:IntKind.i64.wrap ((i:Int)+1)=((i+1:Nat):Int):=by rw[zaq (by omega) (by omega)];omega
    simp only[Tm.av] at hcall
    by_cases hue:(rsR s (zbk u)).2=0
    ·have hue':=eq_true hue
     have hall2:∀t∈ps.take (i+1),(rsR s (zbk t)).2=0:=fun t ht=>by
      rw[List.take_add_one,hu] at ht
      rcases List.mem_append.1 ht with ht|ht
      ·exact hall t ht
      ·have:t=u:=by simpa using ht
       rw[this];exact hue
     simp -dsimp -implicitDefEqProofs only[go_sem,seval,↓reduceIte,hn4,hn5,hc,zap h,zaK,hug,hcall,hue',hll,hlm,hlim,hap,w2]
     refine⟨(),hall2,?_⟩
     rw[zc3 (by simp[AObj.refs,AV.refsIn,AV.refsIn.go]) (by simp[AV.refsIn];simpa using hlow)]
     rfl
    ·have hGn:G=none:=by rw[hG,if_neg (fun h=>hue (h.2.1 u hum))]
     generalize rsR s (zbk u)=R at*
     obtain⟨x,e⟩:=R
     dsimp only at hcall hue
     simp -dsimp -implicitDefEqProofs only[go_sem,seval,↓reduceIte,hn4,hn5,hb0,hc,zap h,zaK,hug,hcall,hue,hll,hlm,hlim,w2,zae (Nat.zero_le _)]
     rw[hGn]
     exact⟨_,zbS _ _ _ rfl,ze4 hue⟩
   ·rintro - hall
    rw[List.take_length] at hall
    obtain⟨L,hL⟩:∃L,L=ps.map fun t=>(rsR s (zbk t)).1:=⟨_,rfl⟩
    have hLl:L.length=ps.length:=by rw[hL,List.length_map]
    have hLp:(Tm.pvs L).length=ps.length:=by rw[Tm.pvs_len,hLl]
    have hLs:∀t∈L,t.size<=2000:=fun t ht=>by
     rw[hL] at ht
     obtain⟨q,hq,rfl⟩:=List.mem_map.1 ht
     exact(hrv _ (hall q hq)).2
    have hls:=zhn L 2000 hLs
    rw[List.take_length,<-hL]
    rw[<-hL] at hG
    have hset:=fun(st:List Nat) (fr:Fr) (a0 a1 a2 a3 a4 a5 a6 a7:AObj) (X:Heap)=>zoy (s:=13) (r:=st) (fr:=fr) (a0:=a0) (a1:=a1) (a2:=a2) (a3:=a3) (a4:=a4) (a5:=a5) (a6:=a6) (a7:=a7) (es:=Tm.pvs L) (X:=X)
    rw[hLp] at hset
    have h1:=fun hp=>zm4 L (by omega) hp
    have h2:∀hp,S 27 [.pv none (.str [45]),.pv none (.sl (some 4) [k.pv,(lst L).pv])] hp=some (.ret (prT k (lst L)).av,hp):=fun hp=>zs3 [45] k (lst L) hp
    have hsz:(prT k (lst L)).size=1+(k.size+(lst L).size):=by
     show 1+(k.size+((lst L).size+0))=_
     omega
    have h3:=fun hp=>zmf (prT k (lst L)) hp (by omega)
    simp only[Tm.av] at h1 h2 h3
    by_cases hz:(prT k (lst L)).size<=2000
    ·rw[if_pos ⟨he,hall,hz⟩] at hG
     have hz':¬(2000:Int)<((min (prT k (lst L)).size 2001:Nat):Int):=by omega
     simp -dsimp -implicitDefEqProofs only[go_sem,seval,↓reduceIte,hn4,hn5,hc,hset,h1,h2,h3,hz',zae (Nat.zero_le _)]
     rw[hG]
     exact⟨_,zin _ _ _ _ _,rfl⟩
    ·rw[if_neg (fun h=>hz h.2.2)] at hG
     have hz':(2000:Int)<((min (prT k (lst L)).size 2001:Nat):Int):=by omega
     simp -dsimp -implicitDefEqProofs only[go_sem,seval,↓reduceIte,hn4,hn5,hb0,hc,hset,h1,h2,h3,hz',zae (Nat.zero_le _)]
     rw[hG]
     exact⟨_,zbS _ _ _ rfl,ze4 (by decide)⟩
theorem zoz{n b:Nat}{fr:Fr}{hp:Heap}(h:fr.all (fun x=>x.2.refsIn.all (fun q=>decide (q<n)))=false):collect n b fr hp=hp:=by
 unfold collect
 rw[h]
 rfl
theorem zoA{n b:Nat}{fr:Fr}{H A X:Heap}(h:H.length+A.length=n):∃X',collect n b fr (H++(A++X))=H++(A++X'):=by
 unfold collect
 split
 ·refine⟨[],?_⟩
  rw[List.append_nil,<-List.append_assoc]
  exact List.take_left' (by rw[List.length_append,h])
 ·exact⟨X,rfl⟩
theorem zho{n k:Nat}{fr:Fr}{H X:Heap}{a b c d c' d':AObj}(h:H.length+4=n)(hc:c=c')(hd:d=d'):∃X',(⟨fr,collect n k fr (H++(a::b::c::d::X))⟩:St)=⟨fr,H++(a::b::c'::d'::X')⟩:=by
 subst hc hd
 obtain⟨X',e⟩:=zoA (n:=n) (b:=k) (fr:=fr) (H:=H) (A:=[a,b,c,d]) (X:=X) h
 exact⟨X',congrArg _ e⟩
theorem zra{k:Tm}(h:k.valid=true):vari k k=true:=by
 unfold vari
 rw[h,Tm.cmp_zero.2 rfl]
 rfl
theorem zhp{f:Tm->Bool}{L:List Tm}{i:Nat}{u:Tm}(h:L[i]? =some u):(L.take (i+1)).filter f=(L.take i).filter f++(if f u=true then[u] else[]):=by
 rw[List.take_add_one,h,List.filter_append]
 congr 1
 cases e:f u <;> simp[e]
theorem frzG{H:Heap}{h:Nat}(hh:H.length=h)(x0 x1 x3:AObj)(X:Heap)(es:List PV)(n:Nat)(hn:es.length=n):zal [.sl (some 4) (h+2) n 0 n] (H++(x0::x1::.arr (some 4) es false::x3::X))=some ([(none,.sl (some 4) es)],H++(x0::x1::.arr (some 4) es true::x3::X)):=by
 have hg:(H++(x0::x1::.arr (some 4) es false::x3::X))[h+2]? =some (.arr (some 4) es false):=by rw[getN hh];rfl
 rw[zc1 (show zeS n ((H++(x0::x1::.arr (some 4) es false::x3::X))[h+2]?) from by rw[hg];exact hn),hg,setN hh]
 rfl
theorem zrb{H:Heap}{q n:Nat}{es:List PV}{fz:Bool}{x:Int}(h:H[q]? =some (.arr (some 4) es fz))(hn:es.length=n):Am.frozen (.tuple [.pv none (.sl (some 4) es),.pv none (.int .i64 x)]) (.tuple [.sl (some 4) q n 0 n,.pv none (.int .i64 x)]) H:=by
 subst hn
 exact⟨H.set q (.arr (some 4) es true),by simp[AV.freezeRes,zal,AV.freeze,deep,h,pvs,AV.shp]⟩
theorem zl8{sh s':Sh}{k:IntKind}{r v n:Nat}(h:0<n):zbH sh [.sl sh r v 0 n,.pv s' (.int k 0)]=some (.eptr sh r v 0 0):=zap (i:=0) h
theorem zrc{H:Heap}{q n:Nat}{es:List PV}{fz:Bool}{t:Tm}(h:H[q]? =some (.arr (some 4) es fz))(hn:es.length=n)(h0:es[0]? =some t.pv):aload none H (.eptr (some 4) q n 0 3)=some (.pv none (.sl (some 4) (Tm.pvs t.args))):=by
 simp[aload,h,hn,h0,toAV,zad]
theorem zoB(ts:List Tm)(hl:Tm.sizes ts<100000000)(hn:ts.length<100000)(hz:zaL ts=true->Tm.sizes ts<=200000)(hp:Heap):
  S 19 [.pv none (.sl (some 4) (Tm.pvs ts))] hp=some (.ret (.tuple [.pv none (.sl (some 4) (Tm.pvs (zaY ts).1)),.pv none (.int .i64 (zaY ts).2)]),hp):=by
 refine zam rfl rfl rfl (zab [(none,.sl (some 4) (Tm.pvs ts))]) rfl ?_
 have hn4:∀(H:Heap),zbs (some 4) H=some (.sl (some 4) H.length 0 0 0,H++[.arr (some 4) [] false]):=fun H=>zbe (sh:=some 4) (by decide)
 obtain⟨v,H0,hcall,q0,E,hE,hq0,hq1,rfl⟩:=zvr ts hl [.arr (some 4) [] false]
 have hH0:H0[0]? =some (.arr (some 4) [] false):=by rw[hE];rfl
 by_cases he:zeo ts=0
 rotate_left
 ·have e:zaY ts=([],zeo ts):=by unfold zaY;rw[if_neg he]
  rw[e]
  dsimp only
  generalize zeo ts=k at*
  simp -dsimp -implicitDefEqProofs only[go_sem,seval,↓reduceIte,hn4,hcall,he]
  rw[<-zdI]
  exact zrb (es:=[]) (fz:=false) (List.getElem?_concat_length) rfl
 ·have he':=eq_true he
  have e:zaY ts=ofG (grps (zbG ts).length (zbG ts)):=by unfold zaY;rw[if_pos he]
  rw[e]
  have hval:zaL ts=true:=by
   unfold zeo at he
   split at he
   ·assumption
   ·cases he
  have hall:ts.all zaT=true:=by
   unfold zeo at he
   rw[if_pos hval] at he
   split at he
   ·assumption
   ·cases he
  have hm:∀x∈zbG ts,x∈ts:=fun x hx=>by
   unfold zbG at hx
   rw[if_pos ⟨hval,hall⟩] at hx
   exact(zbv ts).mem_iff.1 hx
  have hkl:(zbG ts).length=ts.length:=by
   unfold zbG
   rw[if_pos ⟨hval,hall⟩,zaw]
  have hV:(Tm.occs ts).length<=200000:=Nat.le_trans (Tm.zwH ts) (hz hval)
  have hprop:∀x∈zbG ts,zaT x=true/\x.valid=true/\InV (Tm.occs ts) (zao x):=fun x hx=>by
   have h1:=List.all_eq_true.1 hall x (hm x hx)
   refine⟨h1,zbl hval (hm x hx),fun w hw=>Tm.zwI (hm x hx) ?_⟩
   refine Tm.zwF (fun hk=> ?_) (zfJ h1) hw
   simp[zaT,hk] at h1
  generalize Tm.occs ts=V at hV hprop
  obtain⟨n0,hn0⟩:∃n0,n0=(zbG ts).length:=⟨_,rfl⟩
  obtain⟨G,hG⟩:∃G,G=grps n0 (zbG ts):=⟨_,rfl⟩
  rw[<-hn0,<-hG]
  simp -dsimp -implicitDefEqProofs only[go_sem,seval,↓reduceIte,hn4,hcall,he']
  refine zba (fun n st=>∃(D L:List Tm) (q:Nat) (H:Heap) (m:Nat),n=L.length/\L.length<=m/\D.length+L.length<=100000/\G=(grps m L).map (D++·)/\(∀x∈L,zaT x=true/\x.valid=true/\InV V (zao x))/\H0.length<=H.length/\H[0]? =some (.arr (some 4) (Tm.pvs D) false)/\H[q]? =some (.arr (some 4) (Tm.pvs L) false)/\0<q/\st=⟨[(2,.sl (some 4) 0 D.length 0 D.length),(4,.sl (some 4) q L.length 0 L.length)],H⟩) (n:=n0) ⟨[],zbG ts,q0,H0,n0,hn0,by omega,by simp;omega,by rw[hG];cases grps n0 (zbG ts) <;> rfl,hprop,Nat.le_refl _,hH0,hq1,hq0,?_⟩ ?_
  ·rfl
  ·rintro n st ⟨D,L,q,H,m,hnL,hm1,hDL,hGD,hP,hHl,hh0,hhq,hqp,rfl⟩
   cases L with
   |nil=>
    have hg:G=some D:=by
     rw[hGD]
     cases m <;> simp[grps]
    rw[hg]
    have hc:¬(0:Int)<((0:Nat):Int):=by omega
    simp -dsimp -implicitDefEqProofs only[go_sem,seval,↓reduceIte,hn4,hc]
    rw[<-zdI]
    exact zrb hh0 (Tm.pvs_len D)
   |cons p r=>
    obtain⟨h,hh⟩:∃h,H.length=h:=⟨_,rfl⟩
    have hpp:=hP p List.mem_cons_self
    obtain⟨g0,_,_⟩:=ze5 hpp.1
    have hkv:(zao p).valid=true:=zaJ hpp.2.1 (zfJ hpp.1)
    have hks:=valid_size hkv
    obtain⟨key,hkey⟩:∃key,key=zao p:=⟨_,rfl⟩
    rw[<-hkey] at g0 hkv hks
    obtain⟨L,hL⟩:∃L,L=p::r:=⟨_,rfl⟩
    obtain⟨N,hN⟩:∃N,N=L.length:=⟨_,rfl⟩
    have hNp:0<N:=by rw[hN,hL];simp
    have hL0:(Tm.pvs L)[0]? =some p.pv:=by rw[hL];rfl
    rw[<-hL] at hnL hm1 hDL hP hhq ⊢
    rw[<-hN] at hnL hm1 hDL ⊢
    have hLl:(Tm.pvs L).length=N:=by rw[Tm.pvs_len,hN]
    have hql:=zbX hhq
    have h0l:=zbX hh0
    have hq:∀X,(H++X)[q]? =some (.arr (some 4) (Tm.pvs L) false):=fun X=>by rw[List.getElem?_append_left hql];exact hhq
    have hx0:∀X,(H++X)[0]? =some (.arr (some 4) (Tm.pvs D) false):=fun X=>by rw[List.getElem?_append_left h0l];exact hh0
    have hx0s:∀X Y,(H++X).set 0 Y=H.set 0 Y++X:=fun X Y=>List.set_append_left _ _ h0l
    have hfl:=zrc hhq hLl hL0
    have hc:(0:Int)<(N:Int):=by omega
    simp -dsimp -implicitDefEqProofs only[go_sem,seval,↓reduceIte,hn4,hc,zl8 hNp,hfl,zaR g0,hh,getN hh,zcJ hh,setN hh,zd7 hh,List.append_assoc,zah,zaf,zaj,zag,Nat.add_assoc,List.length_append]
    refine zcK (α:=Heap) N (fun _ _=>True) (fun i X=>⟨[(2,.sl (some 4) 0 D.length 0 D.length),(6,.func (.func 46) [] [.ptr h 0]),(7,.sl (some 4) (h+2) ((L.take i).filter fun q=>vari (zao q) key).length 0 ((L.take i).filter fun q=>vari (zao q) key).length),(8,.sl (some 4) (h+3) ((L.take i).filter fun q=> !vari (zao q) key).length 0 ((L.take i).filter fun q=> !vari (zao q) key).length),(31,.sl (some 4) q N 0 N),(32,.pv none (.int .i64 N)),(33,.pv none (.int .i64 i))],
     H++([.box (some 4) (.pv (some 4) key.pv),.arr (some 4) [] false,.arr (some 4) (Tm.pvs ((L.take i).filter fun q=>vari (zao q) key)) false,.arr (some 4) (Tm.pvs ((L.take i).filter fun q=> !vari (zao q) key)) false]++X)⟩) [] ⟨trivial,?_⟩ ?_ ?_
    ·rfl
    ·rintro i X hi -
     have hc:(i:Int)<(N:Int):=by omega
     obtain⟨u,hu⟩:∃u,L[i]? =some u:=⟨_,List.getElem?_eq_getElem (by omega)⟩
     have hum:=List.mem_of_getElem? hu
     obtain⟨up,uv,_⟩:=hP u hum
     have hus:=valid_size uv
     have hug:=Tm.pvs_get hu
     have hcl:∀X:Heap,S 46 [u.av,.ptr h 0] (H++(.box (some 4) (.pv (some 4) key.pv)::X))=some (.ret (.pv none (.bool (vari (zao u) key))),H++(.box (some 4) (.pv (some 4) key.pv)::X)):=fun X=>
      ztk u key up _ h (by rw[zcJ hh];rfl) (by omega) (by omega)
     have hf1:=zhp (f:=fun q=>vari (zao q) key) hu
     have hf2:=zhp (f:=fun q=> !vari (zao q) key) hu
     have hlen1:((L.take i).filter fun q=>vari (zao q) key).length<=i:=Nat.le_trans (List.length_filter_le _ _) (by rw[List.length_take];omega)
     have hlen2:((L.take i).filter fun q=> !vari (zao q) key).length<=i:=Nat.le_trans (List.length_filter_le _ _) (by rw[List.length_take];omega)
     rw[hf1,hf2]
     generalize ((L.take i).filter fun q=>vari (zao q) key)=A at*
     generalize ((L.take i).filter fun q=> !vari (zao q) key)=B at*
     have hA:(Tm.pvs A).length=A.length:=Tm.pvs_len A
     have hB:(Tm.pvs B).length=B.length:=Tm.pvs_len B
     have hlA:A.length+1<=lim:=by unfold lim;omega
     have hlB:B.length+1<=lim:=by unfold lim;omega
     have hA1:Tm.pvs A++[u.pv]=Tm.pvs (A++[u]):=by rw[Tm.zwn];rfl
     have hB1:Tm.pvs B++[u.pv]=Tm.pvs (B++[u]):=by rw[Tm.zwn];rfl
     have w2:IntKind.i64.wrap ((i:Int)+1)=((i+1:Nat):Int):=by rw[zaq (by omega) (by omega)];omega
     simp only[Tm.av] at hcl
     cases hv:vari (zao u) key with
     |true=>
      rw[hv] at hcl
      simp -dsimp -implicitDefEqProofs only[go_sem,seval,↓reduceIte,hn4,hc,zap hi,zaK,hq,hLl,hug,hcl,hA,hlA,hA1,w2,hh,getN hh,zcJ hh,setN hh,zd7 hh,List.append_assoc,zah,zaf,zaj,zag,Nat.add_assoc,List.length_append]
      exact zho (by omega) rfl (by rw[List.append_nil])
     |false=>
      rw[hv] at hcl
      simp -dsimp -implicitDefEqProofs only[go_sem,seval,↓reduceIte,hn4,hc,zap hi,zaK,hq,hLl,hug,hcl,hB,hlB,hB1,w2,hh,getN hh,zcJ hh,setN hh,zd7 hh,List.append_assoc,zah,zaf,zaj,zag,Nat.add_assoc,List.length_append]
      exact zho (by omega) (by rw[List.append_nil]) rfl
    ·rintro X -
     have hc:¬(N:Int)<(N:Int):=by omega
     have htk:L.take N=L:=List.take_of_length_le (by omega)
     have hvs:vari (zao p) key=true:=by rw[<-hkey];exact zra hkv
     have hf1:(L.filter fun q=>vari (zao q) key)=p::r.filter fun q=>vari (zao q) key:=by rw[hL,List.filter_cons,if_pos hvs]
     have hf2:(L.filter fun q=> !vari (zao q) key)=r.filter fun q=> !vari (zao q) key:=by rw[hL,List.filter_cons,if_neg (by rw[hvs];simp)]
     rw[htk,hf1,hf2]
     have hrl:r.length+1=N:=by rw[hN,hL];rfl
     have hl1:(r.filter fun q=>vari (zao q) key).length<=r.length:=List.length_filter_le _ _
     have hl2:(r.filter fun q=> !vari (zao q) key).length<=r.length:=List.length_filter_le _ _
     have hP2:∀x∈r.filter (fun q=> !vari (zao q) key),zaT x=true/\x.valid=true/\InV V (zao x):=fun x hx=>hP x (by rw[hL];exact List.mem_cons_of_mem _ (List.mem_filter.1 hx).1)
     have hP1:∀x∈p::r.filter (fun q=>vari (zao q) key),zaT x=true/\x.valid=true/\InV V (zao x):=fun x hx=>hP x (by
      rw[hL]
      rcases List.mem_cons.1 hx with rfl|hx
      ·exact List.mem_cons_self
      ·exact List.mem_cons_of_mem _ (List.mem_filter.1 hx).1)
     obtain⟨m',rfl⟩:∃m',m=m'+1:=⟨m - 1,by omega⟩
     have hgd:G=(zus (grp p (r.filter fun q=>vari (zao q) key)) (grps m' (r.filter fun q=> !vari (zao q) key))).map (D++·):=by
      rw[hGD,grps,<-hkey]
     clear hGD
     generalize (r.filter fun q=> !vari (zao q) key)=R2 at*
     generalize (r.filter fun q=>vari (zao q) key)=R1 at*
     obtain⟨v,hv,hV2⟩:=zq9 p R1 V (by omega) (fun q hq=>⟨(hP1 q hq).1,(hP1 q hq).2.1⟩) (fun q hq=>(hP1 q hq).2.2) (by omega)
     have hfz:=fun(x0 x1 x3:AObj) (X:Heap)=>frzG hh x0 x1 x3 X (Tm.pvs (p::R1)) (R1.length+1) (by rw[Tm.pvs_len];rfl)
     have hcall:=fun(x0 x1 x3:AObj) (X:Heap)=>zb7 rfl rfl rfl (hfz x0 x1 x3 X) (hv [])
     have hDl:(Tm.pvs D).length=D.length:=Tm.pvs_len D
     have hlD:D.length+1<=lim:=by unfold lim;omega
     cases hgr:grp p R1 with
     |none=>
      rw[hgr] at hV2 hgd
      obtain⟨e,he0,rfl⟩:=hV2
      have hGn:G=none:=hgd
      rw[hGn]
      simp only[ze6,cond_false] at hcall
      simp only[Tm.av] at hcall
      generalize zt.pv=zp at hcall
      simp -dsimp -implicitDefEqProofs only[go_sem,seval,↓reduceIte,hn4,hc,hcall,he0,hh,getN hh,zcJ hh,setN hh,zd7 hh,List.append_assoc,zah,zaf,zaj,zag,Nat.add_assoc,List.length_append]
      rfl
     |some t=>
      rw[hgr] at hV2 hgd
      have htv:=zkM hgr
      have hts:=valid_size htv
      have hV3:v=.tuple [t.av,.pv none (.int .i64 0)]:=hV2
      subst hV3
      have hclone:=fun hp=>zbL t hp htv (by omega)
      have hD1:Tm.pvs D++[t.pv]=Tm.pvs (D++[t]):=by rw[Tm.zwn];rfl
      simp only[ze6,cond_false] at hcall
      simp only[Tm.av] at hcall hclone
      simp -dsimp -implicitDefEqProofs only[go_sem,seval,↓reduceIte,hn4,hc,hcall,hclone,hx0,hx0s,hDl,hlD,hD1,hh,getN hh,zcJ hh,setN hh,zd7 hh,List.append_assoc,zah,zaf,zaj,zag,Nat.add_assoc,List.length_append]
      rw[zoz (by simp[AV.refsIn];omega)]
      refine⟨R2.length,by omega,D++[t],R2,h+3,H.set 0 (.arr (some 4) (Tm.pvs (D++[t])) false)++(.box (some 4) (.pv (some 4) key.pv)::.arr (some 4) [] false::.arr (some 4) (Tm.pvs (p::R1)) true::.arr (some 4) (Tm.pvs R2) false::(X++[.box (some 4) (.pv (some 4) t.pv),.arr (some 4) [] false])),m',rfl,by omega,by simp;omega,?_,hP2,?_,?_,?_,by omega,?_⟩
      ·rw[hgd]
       cases grps m' R2 <;> simp[zus]
      ·rw[List.length_append,List.length_set]
       omega
      ·rw[List.getElem?_append_left (by rw[List.length_set];exact h0l),List.getElem?_set_self h0l]
      ·rw[getN (by rw[List.length_set];exact hh)]
       rfl
      ·rw[List.length_append]
       rfl
theorem zkK(l:List Tm)(hv:∀t∈l,t.valid=true)(hl:l.length<1000000000):S 14 [.pv none (.sl (some 4) (Tm.pvs l)),.pv none (.sl (some 4) (Tm.pvs l))] []=some (.ret (.pv none (.bool true)),[]):=by
 refine zam rfl rfl rfl (zab [(none,.sl (some 4) (Tm.pvs l)),(none,.sl (some 4) (Tm.pvs l))]) rfl ?_
 simp -dsimp -implicitDefEqProofs only[go_sem,seval,↓reduceIte]
 refine zcK (α:=Unit) l.length (fun _ _=>True) (fun i _=>⟨[(0,.pv none (.sl (some 4) (Tm.pvs l))),(1,.pv none (.sl (some 4) (Tm.pvs l))),(5,.pv none (.int .i64 i))],[]⟩) () ⟨trivial,rfl⟩ ?_ ?_
 ·rintro i - h -
  have hc:(i:Int)<(l.length:Int):=by omega
  obtain⟨u,hu⟩:∃u,l[i]? =some u:=⟨_,List.getElem?_eq_getElem h⟩
  have hum:=List.mem_of_getElem? hu
  have hus:=valid_size (hv u hum)
  have hcall:=fun hp=>znd u u hp (by omega) (by omega)
  rw[zdR (hv u hum)] at hcall
  simp only[Tm.av] at hcall
  have w2:IntKind.i64.wrap ((i:Int)+1)=((i+1:Nat):Int):=by rw[zaq (by omega) (by omega)];omega
  simp -dsimp -implicitDefEqProofs only[go_sem,seval,↓reduceIte,Tm.pvs_len,hc,zac (Tm.pvs_get hu),hcall,w2]
  exact⟨(),trivial⟩
 ·rintro - -
  have hc:¬(l.length:Int)<(l.length:Int):=by omega
  simp -dsimp -implicitDefEqProofs only[go_sem,seval,↓reduceIte,Tm.pvs_len,hc]
theorem zl7{l r:List Tm}(h:l.Perm r):Tm.sizes l=Tm.sizes r:=by
 induction h with
 |nil=>rfl
 |cons x _ ih=>simp only[Tm.sizes,ih]
 |swap x y l=>simp only[Tm.sizes];omega
 |trans _ _ h1 h2=>rw[h1,h2]
theorem zs1(ts:List Tm):(zbG ts).length<=ts.length/\Tm.sizes (zbG ts)<=Tm.sizes ts:=by
 unfold zbG
 split
 ·exact⟨by rw[zaw];exact Nat.le_refl _,by rw[zl7 (zbv ts)];exact Nat.le_refl _⟩
 ·exact⟨Nat.zero_le _,Nat.zero_le _⟩
theorem zm3:∀(n:Nat) (l g:List Tm),grps n l=some g->g.length<=l.length
 |_,[],g,h=>by rw[grps] at h;cases h;exact Nat.le_refl _
 |0,_::_,g,h=>by rw[grps] at h;cases h;exact Nat.zero_le _
 |n+1,p::r,g,h=>by
  rw[grps] at h
  cases ht:grp p (r.filter fun q=>vari (zao q) (zao p)) with
  |none=>rw[ht] at h;cases h
  |some t=>
   rw[ht] at h
   cases e:grps n (r.filter fun q=> !vari (zao q) (zao p)) with
   |none=>rw[e] at h;cases h
   |some g'=>
    rw[e] at h
    cases h
    have h1:=zm3 n _ g' e
    have h2:(r.filter fun q=> !vari (zao q) (zao p)).length<=r.length:=List.length_filter_le _ _
    simp only[List.length_cons]
    omega
theorem zhl(ts:List Tm):(zaY ts).1.length<=ts.length:=by
 unfold zaY
 split
 ·cases h:grps (zbG ts).length (zbG ts) with
  |some l=>exact Nat.le_trans (zm3 _ _ _ h) (zs1 ts).1
  |none=>exact Nat.zero_le _
 ·exact Nat.zero_le _
theorem zrr:∀l:List Tm,els (lst l)=l
 |[]=>zox (fun h=>by have:=h.1;simp[lst,nilT,Tm.kind] at this)
 |x::r=>by
  have hc:cs (lst (x::r)):=⟨rfl,rfl,rfl⟩
  rw[zow hc]
  show x::els (lst r)=_
  rw[zrr r]
theorem zoI(t:Tm)(hp:Heap)(ht:t.size<1000000000):S 29 [t.av] hp=some (.ret (if t.valid=true then t else zt).av,hp):=by
 by_cases hv:t.valid=true
 ·rw[if_pos hv]
  exact zbL t hp hv ht
 ·rw[if_neg hv]
  refine zam rfl rfl rfl (zab [(some 4,t.pv)]) rfl ?_
  have h1:=fun hp=>za9 t hp ht
  have hv':t.valid=false:=by simpa using hv
  rw[hv'] at h1
  simp only[Tm.av] at h1
  have hb0:zaP [(none,.pv none (.int .i64 0)),(none,.pv none (.int .i64 0)),(none,.pv none (.str [])),(none,.tsl (some 4) [])] [] []=some (.agg [(none,.pv none (.int .i64 0)),(none,.pv none (.int .i64 0)),(none,.pv none (.str [])),(none,.tsl (some 4) [])]):=rfl
  simp -dsimp -implicitDefEqProofs only[go_sem,seval,↓reduceIte,Tm.av,h1,hb0,zae (Nat.zero_le _),zt]
  exact⟨_,rfl⟩
def zsL:List UInt8:=[108,105,115,116]
def zcO(t:Tm):List Tm × Tm × Bool:=
 if t.valid=true then(if(tl t).kind=0 then([],instT,false) else if(tl t).kind=2/\(tl t).name=[91,93] then(els t,zt,true) else([],typT zsL t,false)) else([],zt,false)
theorem zcn{l:List Tm}{b:Tm}{B:Bool}{H:Heap}{q:Nat}{fz:Bool}(h:H[q]? =some (.arr (some 4) (Tm.pvs l) fz)):Am.frozen (.tuple [.pv none (.sl (some 4) (Tm.pvs l)),.pv (some 4) b.pv,.pv none (.bool B)]) (.tuple [.sl (some 4) q l.length 0 l.length,.pv (some 4) b.pv,.pv none (.bool B)]) H:=by
 refine⟨H.set q (.arr (some 4) (Tm.pvs l) true),?_⟩
 have e2:∀p hp,AV.freeze deep (.pv (some 4) p) hp=some (p,hp):=fun _ _=>rfl
 simp[AV.freezeRes,zal,e2,AV.freeze,deep,Tm.pvs_len,pvs,AV.shp,h]
theorem zif{l:List Tm}{B:Bool}{H:Heap}{q r:Nat}{fz:Bool}(h:H[q]? =some (.arr (some 4) (Tm.pvs l) fz))(h2:H[r]? =some (.arr (some 4) [] false))(hn:q≠r):Am.frozen (.tuple [.pv none (.sl (some 4) (Tm.pvs l)),.pv (some 4) zt.pv,.pv none (.bool B)]) (.tuple [.sl (some 4) q l.length 0 l.length,zg r,.pv none (.bool B)]) H:=by
 refine⟨(H.set q (.arr (some 4) (Tm.pvs l) true)).set r (.arr (some 4) [] true),?_⟩
 have e:∀l hp,AV.freeze (7+1) (.agg l) hp=match AV.freeze.go 7 l hp with|some (ps,hp')=>some (.agg ps,hp')|none=>none:=fun _ _=>rfl
 have h3:(H.set q (.arr (some 4) (Tm.pvs l) true))[r]? =some (.arr (some 4) [] false):=by rw[List.getElem?_set_ne hn];exact h2
 simp[AV.freezeRes,zal,AV.freeze,deep,Tm.pvs_len,pvs,AV.shp,h,zg,e,AV.freeze.go,h3]
 exact⟨rfl,rfl⟩
theorem zsM(t:Tm)(ht:t.size<100000000)(hp:Heap):S 52 [t.av] hp=some (.ret (.tuple [.pv none (.sl (some 4) (Tm.pvs (zcO t).1)),(zcO t).2.1.av,.pv none (.bool (zcO t).2.2)]),hp):=by
 refine zam rfl rfl rfl (zab [(some 4,t.pv)]) rfl ?_
 have h1:=fun hp=>za9 t hp (by omega)
 have hn0:∀H:Heap,zbs (some 4) H=some (.sl (some 4) H.length 0 0 0,H++[.arr (some 4) [] false]):=fun H=>zbe (sh:=some 4) (by decide)
 have hb0:zaP [(none,.pv none (.int .i64 0)),(none,.pv none (.int .i64 0)),(none,.pv none (.str [])),(none,.tsl (some 4) [])] [] []=some (.agg [(none,.pv none (.int .i64 0)),(none,.pv none (.int .i64 0)),(none,.pv none (.str [])),(none,.tsl (some 4) [])]):=rfl
 simp only[Tm.av] at h1
 cases hv:t.valid with
 |false=>
  have e:zcO t=([],zt,false):=by unfold zcO;rw[hv,if_neg (by simp)]
  rw[e]
  rw[hv] at h1
  simp -dsimp -implicitDefEqProofs only[go_sem,seval,↓reduceIte,Tm.av,h1,hn0,hb0,zae (Nat.zero_le _)]
  exact zif (l:=[]) (q:=4) (r:=5) (fz:=false) rfl rfl (by decide)
 |true=>
  rw[hv] at h1
  have hz:=valid_size hv
  have hlen:=zl6 _ t rfl
  have hinst:=fun hp=>zm2 hp
  have htyp:=fun hp=>zm1 zsL (by decide) t hv hp
  have hen:zsL=[108,105,115,116]:=rfl
  simp only[Tm.av] at hinst htyp
  rw[hen] at htyp
  simp -dsimp -implicitDefEqProofs only[go_sem,seval,↓reduceIte,Tm.av,h1,hn0]
  refine zba (fun n st=>∃(t1:Tm) (d:List Tm),n=t1.size/\t1.valid=true/\d++els t1=els t/\tl t1=tl t/\st=⟨[(1,.ptr 0 0),(2,.sl (some 4) 1 d.length 0 d.length),(3,.ptr 2 0),(5,.ptr 4 0)],[.box (some 4) (.pv (some 4) t.pv),.arr (some 4) (Tm.pvs d) false,.box (some 4) (zg 3),.arr (some 4) [] false,.box (some 4) (.pv (some 4) t1.pv),.arr (some 4) [] false]⟩) (n:=t.size) ⟨t,[],rfl,hv,rfl,rfl,rfl⟩ ?_
  rintro n st ⟨t1,d,rfl,hv1,he,htl,rfl⟩
  have hdl:=congrArg List.length he
  rw[List.length_append] at hdl
  by_cases h:cs t1
  ·have hlt:=Tm.zwk (zb0 h.2.2)
   have v0:=zaJ hv1 (zjc h.2.2)
   have v1:=zaJ hv1 (zb0 h.2.2)
   have hcp:=fun hp=>zbL (arg0 t1) hp v0 (fit9 v0)
   have hlim:d.length+1<=lim:=by unfold lim;omega
   have hpl:=Tm.pvs_len d
   have k1:=eq_true h.1
   have k2:=eq_true h.2.1
   have k3:=eq_true (show(t1.args.length:Int)=2 by have:=h.2.2;omega)
   rw[zow h] at he
   simp only[Tm.av] at hcp
   simp -dsimp -implicitDefEqProofs only[go_sem,seval,↓reduceIte,zg,zak,zan,zad,Tm.pvs_len,k1,k2,k3,hcp,ia0 (Tm.pvs_get (zgp h.2.2)),ia1 (Tm.pvs_get (zgq h.2.2)),hpl,hlim]
   refine⟨_,hlt,arg1 t1,d++[arg0 t1],rfl,v1,by rw[<-he,List.append_assoc];rfl,by rw[<-htl,tl_c h],?_⟩
   rw[Tm.zwn,List.length_append]
   rfl
  ·rw[zox h,List.append_nil] at he
   rw[tl_n h] at htl
   have hex:∃A:Prop,A:=⟨True,trivial⟩
   have hdef:zcO t=if t1.kind=0 then([],instT,false) else if t1.kind=2/\t1.name=[91,93] then(d,zt,true) else([],typT zsL t,false):=by
    unfold zcO
    rw[hv,if_pos rfl,<-htl,<-he]
   rw[hdef]
   have key:(t1.kind=3/\t1.name=[46]/\¬(t1.args.length:Int)=2)\/(t1.kind=3/\¬t1.name=[46])\/¬t1.kind=3:=by
    by_cases k1:t1.kind=3
    ·by_cases k2:t1.name=[46]
     ·exact .inl ⟨k1,k2,fun e=>h ⟨k1,k2,by omega⟩⟩
     ·exact .inr (.inl ⟨k1,k2⟩)
    ·exact .inr (.inr k1)
   rcases key with⟨k1,k2,k3⟩|⟨k1,k2⟩|k1
   ·have m0:¬t1.kind=0:=by omega
    have m2:¬t1.kind=2:=by omega
    rw[if_neg m0,if_neg (fun e=>m2 e.1)]
    simp -dsimp -implicitDefEqProofs only[go_sem,seval,↓reduceIte,zg,hn0,zak,zan,zad,Tm.pvs_len,eq_true k1,eq_true k2,eq_false k3,m0,m2,htyp]
    exact zcn (l:=[]) (q:=6) (fz:=false) rfl
   ·have m0:¬t1.kind=0:=by omega
    have m2:¬t1.kind=2:=by omega
    rw[if_neg m0,if_neg (fun e=>m2 e.1)]
    simp -dsimp -implicitDefEqProofs only[go_sem,seval,↓reduceIte,zg,hn0,zak,zan,zad,Tm.pvs_len,eq_true k1,eq_false k2,m0,m2,htyp]
    exact zcn (l:=[]) (q:=6) (fz:=false) rfl
   ·by_cases m0:t1.kind=0
    ·rw[if_pos m0]
     simp -dsimp -implicitDefEqProofs only[go_sem,seval,↓reduceIte,zg,hn0,zak,zan,zad,Tm.pvs_len,eq_false k1,eq_true m0,hinst]
     exact zcn (l:=[]) (q:=6) (fz:=false) rfl
    ·rw[if_neg m0]
     by_cases m2:t1.kind=2
     ·by_cases m3:t1.name=[91,93]
      ·rw[if_pos ⟨m2,m3⟩]
       simp -dsimp -implicitDefEqProofs only[go_sem,seval,↓reduceIte,zg,hn0,hb0,zak,zan,zad,Tm.pvs_len,eq_false k1,eq_false m0,eq_true m2,eq_true m3,zae (Nat.zero_le _)]
       exact zif (l:=d) (q:=1) (r:=6) (fz:=false) rfl rfl (by decide)
      ·rw[if_neg (fun e=>m3 e.2)]
       simp -dsimp -implicitDefEqProofs only[go_sem,seval,↓reduceIte,zg,hn0,zak,zan,zad,Tm.pvs_len,eq_false k1,eq_false m0,eq_true m2,eq_false m3,htyp]
       exact zcn (l:=[]) (q:=6) (fz:=false) rfl
     ·rw[if_neg (fun e=>m2 e.1)]
      simp -dsimp -implicitDefEqProofs only[go_sem,seval,↓reduceIte,zg,hn0,zak,zan,zad,Tm.pvs_len,eq_false k1,eq_false m0,eq_false m2,htyp]
      exact zcn (l:=[]) (q:=6) (fz:=false) rfl
def zuD:List UInt8:=[112,97,105,114]
def zcc:List Tm->Option Tm
 |[]=>none
 |p::r=>if p.kind=0 then some instT else if zaT p=true then zcc r else some (typT zuD p)
def za7(t:Tm):List Tm × Tm × Bool:=
 if(zcO t).2.2=true then(match zcc (zcO t).1 with|none=>((zcO t).1,zt,true)|some b=>([],b,false)) else([],(zcO t).2.1,false)
theorem elsv:∀(n:Nat) (t:Tm),t.size=n->t.valid=true->∀x∈els t,x.valid=true:=by
 intro n
 induction n using Nat.strongRecOn with
 |_ n ih=>
  intro t hn hv x hx
  by_cases h:cs t
  ·rw[zow h] at hx
   rcases List.mem_cons.1 hx with rfl|hx
   ·exact zaJ hv (zjc h.2.2)
   ·have:=Tm.zwk (zb0 h.2.2)
    exact ih _ (by omega) _ rfl (zaJ hv (zb0 h.2.2)) x hx
  ·rw[zox h] at hx
   cases hx
theorem zeq(t:Tm):(∀x∈(zcO t).1,x.valid=true)/\(zcO t).1.length<=t.size:=by
 unfold zcO
 split
 ·rename_i hv
  split
  ·exact⟨fun x h=>(by cases h),Nat.zero_le _⟩
  ·split
   ·exact⟨elsv _ t rfl hv,zl6 _ t rfl⟩
   ·exact⟨fun x h=>(by cases h),Nat.zero_le _⟩
 ·exact⟨fun x h=>(by cases h),Nat.zero_le _⟩
theorem zvv(t:Tm)(hp:Heap):S 54 [t.av,.pv none (.str [45]),.pv none (.int .i64 2)] hp=some (.ret (.pv none (.bool (zaT t))),hp):=by
 refine zam rfl rfl rfl (zab [(some 4,t.pv),(none,.str [45]),(none,.int .i64 2)]) rfl ?_
 unfold zaT
 by_cases k1:t.kind=3
 ·by_cases k2:t.name=[45]
  ·by_cases k3:t.args.length=2
   ·have k3':=eq_true (show(t.args.length:Int)=2 by omega)
    simp -dsimp -implicitDefEqProofs only[go_sem,seval,↓reduceIte,zak,zan,zad,Tm.pvs_len,eq_true k1,eq_true k2,k3']
    simp[k1,k2,k3]
   ·have k3':=eq_false (show ¬(t.args.length:Int)=2 by omega)
    simp -dsimp -implicitDefEqProofs only[go_sem,seval,↓reduceIte,zak,zan,zad,Tm.pvs_len,eq_true k1,eq_true k2,k3']
    simp[k3]
  ·simp -dsimp -implicitDefEqProofs only[go_sem,seval,↓reduceIte,zak,zan,zad,Tm.pvs_len,eq_true k1,eq_false k2]
   try simp[k2]
 ·simp -dsimp -implicitDefEqProofs only[go_sem,seval,↓reduceIte,zak,zan,zad,Tm.pvs_len,eq_false k1]
  try simp[k1]
theorem zoJ{p:PV}{B:Bool}{H:Heap}{r:Nat}(h2:H[r]? =some (.arr (some 4) [] false)):Am.frozen (.tuple [.pv none p,.pv (some 4) zt.pv,.pv none (.bool B)]) (.tuple [.pv none p,zg r,.pv none (.bool B)]) H:=by
 refine⟨H.set r (.arr (some 4) [] true),?_⟩
 have e:∀l hp,AV.freeze (7+1) (.agg l) hp=match AV.freeze.go 7 l hp with|some (ps,hp')=>some (.agg ps,hp')|none=>none:=fun _ _=>rfl
 have e2:∀p hp,AV.freeze (7+1) (.pv none p) hp=some (p,hp):=fun _ _=>rfl
 simp[AV.freezeRes,zal,AV.freeze,deep,pvs,AV.shp,zg,e,e2,AV.freeze.go,h2]
 exact⟨rfl,rfl⟩
theorem ztc(t:Tm)(ht:t.size<100000000)(hp:Heap):S 25 [t.av] hp=some (.ret (.tuple [.pv none (.sl (some 4) (Tm.pvs (za7 t).1)),(za7 t).2.1.av,.pv none (.bool (za7 t).2.2)]),hp):=by
 refine zam rfl rfl rfl (zab [(some 4,t.pv)]) rfl ?_
 have h1:=fun hp=>zsM t ht hp
 have hn0:∀H:Heap,zbs (some 4) H=some (.sl (some 4) H.length 0 0 0,H++[.arr (some 4) [] false]):=fun H=>zbe (sh:=some 4) (by decide)
 have hb0:zaP [(none,.pv none (.int .i64 0)),(none,.pv none (.int .i64 0)),(none,.pv none (.str [])),(none,.tsl (some 4) [])] [] []=some (.agg [(none,.pv none (.int .i64 0)),(none,.pv none (.int .i64 0)),(none,.pv none (.str [])),(none,.tsl (some 4) [])]):=rfl
 obtain⟨hlv,hll⟩:=zeq t
 unfold za7
 generalize zcO t=R at*
 obtain⟨l,b,B⟩:=R
 dsimp only at hlv hll h1 ⊢
 simp only[Tm.av] at h1
 cases B with
 |false=>
  rw[if_neg (by simp)]
  dsimp only
  simp -dsimp -implicitDefEqProofs only[go_sem,seval,↓reduceIte,Tm.av,hn0,h1]
  exact zcn (l:=[]) (q:=4) (fz:=false) rfl
 |true=>
  rw[if_pos rfl]
  have hinst:=fun hp=>zm2 hp
  simp only[Tm.av] at hinst
  simp -dsimp -implicitDefEqProofs only[go_sem,seval,↓reduceIte,Tm.av,Tm.pvs_len,hn0,h1]
  refine zcK (α:=Unit) l.length (fun i _=>zcc l=zcc (l.drop i)) (fun i _=>⟨[(2,.pv none (.sl (some 4) (Tm.pvs l))),(3,.ptr 2 0),(16,.pv none (.sl (some 4) (Tm.pvs l))),(17,.pv none (.int .i64 l.length)),(18,.pv none (.int .i64 i))],[.box (some 4) (.pv (some 4) t.pv),.arr (some 4) [] false,.box (some 4) (.pv (some 4) b.pv),.arr (some 4) [] false]⟩) () ⟨rfl,rfl⟩ ?_ ?_
  ·rintro i - hi hfb
   have hc:(i:Int)<(l.length:Int):=by omega
   obtain⟨u,hu⟩:∃u,l[i]? =some u:=⟨_,List.getElem?_eq_getElem hi⟩
   have huv:=hlv u (List.mem_of_getElem? hu)
   have hdr:l.drop i=u::l.drop (i+1):=by
    obtain⟨q1,e1⟩:=List.getElem?_eq_some_iff.1 hu
    rw[List.drop_eq_getElem_cons q1,e1]
   rw[hdr,zcc] at hfb
   have hug:=zac (sh:=some 4) (s:=none) (s':=none) (k:=.i64) (Tm.pvs_get hu)
   have w2:IntKind.i64.wrap ((i:Int)+1)=((i+1:Nat):Int):=by rw[zaq (by omega) (by omega)];omega
   have his:=fun hp=>zvv u hp
   have htyp:=fun hp=>zm1 zuD (by decide) u huv hp
   have hen:zuD=[112,97,105,114]:=rfl
   simp only[Tm.av] at his htyp
   rw[hen] at htyp
   by_cases k0:u.kind=0
   ·rw[if_pos k0] at hfb
    rw[hfb]
    simp -dsimp -implicitDefEqProofs only[go_sem,seval,↓reduceIte,hn0,hc,hug,zak,eq_true k0,hinst]
    exact zcn (l:=[]) (q:=6) (fz:=false) rfl
   ·rw[if_neg k0] at hfb
    cases kp:zaT u with
    |true=>
     rw[kp,if_pos rfl] at hfb
     rw[kp] at his
     simp -dsimp -implicitDefEqProofs only[go_sem,seval,↓reduceIte,hn0,hc,hug,zak,eq_false k0,his,w2]
     refine⟨(),hfb,?_⟩
     rw[zc3 (by simp[AObj.refs,AV.refsIn]) (by simp[AV.refsIn])]
     rfl
    |false=>
     rw[kp,if_neg (by simp)] at hfb
     rw[kp] at his
     rw[hfb]
     simp -dsimp -implicitDefEqProofs only[go_sem,seval,↓reduceIte,hn0,hc,hug,zak,eq_false k0,his,htyp]
     exact zcn (l:=[]) (q:=6) (fz:=false) rfl
  ·rintro - hfb
   have hc:¬(l.length:Int)<(l.length:Int):=by omega
   rw[List.drop_length,zcc] at hfb
   rw[hfb]
   simp -dsimp -implicitDefEqProofs only[go_sem,seval,↓reduceIte,hn0,hb0,hc,zae (Nat.zero_le _)]
   exact zoJ (r:=4) rfl
theorem zkG(t u:Tm)(hp:Heap)(ht:t.valid=true)(hu:u.valid=true)(hs:t.size<1000000000):S 39 [.pv (some 4) t.pv,.pv (some 4) u.pv] hp=some (.ret (.pv none (.bool (decide (t.cmp u=0)))),hp):=by
 have h:=fun hp=>zfE t u hp hs (Tm.valid_fits ht) (Tm.valid_fits hu)
 simp only[Tm.av] at h
 refine zam rfl rfl rfl (zab [(some 4,t.pv),(some 4,u.pv)]) rfl ?_
 (repeat' (first|(simp -dsimp -implicitDefEqProofs only[go_sem,seval,↓reduceIte, *])|(refine zau (fun _=> ?_) (fun _=> ?_))))
theorem zkH{l:List Tm}{j:Nat}{y:Tm}(h:l[j]? =some y):(l.take (j+1)).getLast? =some y:=by
 rw[List.take_add_one,h];simp
theorem zjd(hp:Heap)(r:Nat)(hr:r<hp.length)(ts:List Tm)(N:Nat)(hN:N=ts.length)(hN':N<1000000000)(hv:∀t∈ts,t.valid=true)(hs:∀t∈ts,t.size<1000000000)(k0:Nat)(hk0:1<=k0)(hk:k0<N)(hd:dd (ts.take (k0+1))=ts.take k0)(ext:Heap)
  (fr:Fr)(Q:AExit->St->Prop)
  (hfr:fr.keep [0,1,5,6,7]=[(0,.sl (some 4) r N 0 N),(1,.pv none (.func (.func 39))),(5,.pv none (.int .i64 k0)),(6,.sl (some 4) r N k0 (N - k0)),(7,.pv none (.int .i64 1))])
  (h:∀rest es,es.length=N->es.take (dd ts).length=Tm.pvs (dd ts)->Q (.exit 2) ⟨(0,.sl (some 4) r N 0 N)::(1,.pv none (.func (.func 39)))::(5,.pv none (.int .i64 (dd ts).length))::rest,hp.set r (.arr (some 4) es false)++ext⟩):
  W Z L hp.length (.loop [0,1,5,6,7] c38b18) ⟨fr,hp.set r (.arr (some 4) (Tm.pvs ts) false)++ext⟩ Q:=by
 have e1:∀A,(hp.set r A++ext)[r]? =some A:=fun A=>by rw[zg7 (by simpa using hr)];simp[hr]
 have e4:∀A B,(hp.set r A++ext).set r B=hp.set r B++ext:=fun A B=>by rw[zi7 (by simpa using hr)];simp
 refine zba (fun n st=>∃(m k:Nat) (es:List PV),n=N - (k0+m)/\1<=m/\k0+m<=N/\k=(dd (ts.take (k0+m))).length/\k<=k0+m - 1/\es.length=N/\es.take k=Tm.pvs (dd (ts.take (k0+m)))/\es.drop (k0+m - 1)=(Tm.pvs ts).drop (k0+m - 1)/\st=⟨[(0,.sl (some 4) r N 0 N),(1,.pv none (.func (.func 39))),(5,.pv none (.int .i64 k)),(6,.sl (some 4) r N k0 (N - k0)),(7,.pv none (.int .i64 m))],hp.set r (.arr (some 4) es false)++ext⟩) (n:=N - (k0+1)) ⟨1,k0,Tm.pvs ts,rfl,Nat.le_refl _,by omega,by rw[hd,List.length_take];omega,by omega,by rw[Tm.pvs_len,hN],by rw[hd,Tm.zwS],rfl,?_⟩ ?_
 ·rw[hfr]
  rfl
 ·rintro n st ⟨m,k,es,hn,hm,hmN,hkl,hkm,hes,htk,hdr,rfl⟩
  have hget:∀i u,k0+m - 1<=i->ts[i]? =some u->es[i]? =some u.pv:=fun i u hi hu=>by
   have h1:(es.drop (k0+m - 1))[i - (k0+m - 1)]? =es[i]? :=by rw[List.getElem?_drop];congr 1;omega
   rw[<-h1,hdr,List.getElem?_drop,show k0+m - 1+(i - (k0+m - 1))=i by omega]
   exact Tm.pvs_get hu
  by_cases hlt:m<N - k0
  ·have hc:(m:Int)<((N - k0:Nat):Int):=by omega
   obtain⟨x,hx⟩:∃x,ts[k0+m]? =some x:=⟨_,List.getElem?_eq_getElem (by omega)⟩
   obtain⟨y,hy⟩:∃y,ts[k0+(m - 1)]? =some y:=⟨_,List.getElem?_eq_getElem (by omega)⟩
   have gx:=hget _ x (by omega) hx
   have gy:=hget _ y (by omega) hy
   have hxm:=List.mem_of_getElem? hx
   have hym:=List.mem_of_getElem? hy
   have hcall:=fun hp=>zkG x y hp (hv x hxm) (hv y hym) (hs x hxm)
   have hlast:(ts.take (k0+m)).getLast? =some y:=by
    have:=zkH hy
    rwa [show k0+(m - 1)+1=k0+m by omega] at this
   have htx:ts.take (k0+(m+1))=ts.take (k0+m)++[x]:=by rw[show k0+(m+1)=k0+m+1 by omega,List.take_add_one,hx];rfl
   have w1:IntKind.i64.wrap ((m:Int) - 1)=((m - 1:Nat):Int):=by rw[zaq (by omega) (by omega)];omega
   have w2:IntKind.i64.wrap ((m:Int)+1)=((m+1:Nat):Int):=by rw[zaq (by omega) (by omega)];omega
   have w3:IntKind.i64.wrap ((k:Int)+1)=((k+1:Nat):Int):=by rw[zaq (by omega) (by omega)];omega
   have la:m - 1<N - k0:=by omega
   have lk:k<N:=by omega
   by_cases h0:x.cmp y=0
   ·simp -dsimp -implicitDefEqProofs only[c38b18,go_sem,seval,↓reduceIte,hc,zap hlt,zap la,zaK,e1,hes,gx,gy,hcall,w1,w2,h0]
    refine⟨N - (k0+(m+1)),by omega,m+1,k,es,rfl,by omega,by omega,by rw[htx,zul hlast h0,hkl],by omega,hes,by rw[htx,zul hlast h0,htk],?_,?_⟩
    ·have:=congrArg (List.drop 1) hdr
     rw[List.drop_drop,List.drop_drop] at this
     rwa [show k0+(m+1) - 1=k0+m - 1+1 by omega]
    ·rw[zay (by simp)]
   ·simp -dsimp -implicitDefEqProofs only[c38b18,go_sem,seval,↓reduceIte,hc,zap hlt,zap la,zap lk,zaK,zck,e1,e4,hes,lk,gx,gy,hcall,w1,w2,w3,h0]
    refine⟨N - (k0+(m+1)),by omega,m+1,k+1,es.set k x.pv,rfl,by omega,by omega,by rw[htx,zuk hlast h0,List.length_append,hkl];rfl,by omega,by simp[hes],?_,?_,?_⟩
    ·rw[htx,zuk hlast h0,Tm.zwn,<-htk,List.take_add_one]
     simp[hes,lk,List.take_set,Tm.pvs]
     rw[List.set_eq_of_length_le (by rw[List.length_take];omega)]
    ·have:=congrArg (List.drop 1) hdr
     rw[List.drop_drop,List.drop_drop] at this
     rw[List.drop_set,if_pos (by omega)]
     rwa [show k0+(m+1) - 1=k0+m - 1+1 by omega]
    ·rw[zay (by simp)]
  ·have hc:¬(m:Int)<((N - k0:Nat):Int):=by omega
   have hfull:ts.take (k0+m)=ts:=List.take_of_length_le (by omega)
   rw[hfull] at hkl htk
   simp -dsimp -implicitDefEqProofs only[c38b18,go_sem,seval,↓reduceIte,hc]
   rw[hkl] at htk ⊢
   exact h _ es hes htk
theorem zl4{sh s:Sh}{k:IntKind}{r N n h:Nat}(hh:h<=n):zcd sh false true [.sl sh r N 0 n,.pv s (.int k h)]=some (.sl sh r N 0 h):=by
 have h1:(h:Int)<=(n:Int):=by omega
 simp[zcd,aslice,h1]
theorem zhf{sh s:Sh}{k:IntKind}{r N n h:Nat}(hh:h<=n):zcd sh true false [.sl sh r N 0 n,.pv s (.int k h)]=some (.sl sh r N h (n - h)):=by
 have h1:(h:Int)<=(n:Int):=by omega
 simp[zcd,aslice,h1]
theorem zos{sh:Sh}{z:PV}{hp:Heap}{r N o n:Nat}{es:List PV}(h:hp[r]? =some (.arr sh es false))(hN:es.length=N)(hon:o+n=N):zfP sh z hp [.sl sh r N o n]=some (.undef,hp.set r (.arr sh (es.take o++List.replicate n z) false)):=by
 have:es.drop (o+n)=[]:=List.drop_eq_nil_iff.2 (by omega)
 simp only[zfP,h]
 rw[if_pos ⟨trivial,hN.symm,by omega⟩,this,List.append_nil]
def zvl:PV:=.agg [(none,.int .i64 0),(none,.int .i64 0),(none,.str []),(none,.sl (some 4) [])]
def packed(N:Nat)(l:List Tm):List PV:=Tm.pvs l++List.replicate (N - l.length) zvl
theorem zkI{ts:List Tm}{k:Nat}{x y:Tm}(hd:dd (ts.take k)=ts.take k)(hx:ts[k]? =some x)(hy:ts[k - 1]? =some y)(hk:1<=k):dd (ts.take (k+1))=if x.cmp y=0 then ts.take k else ts.take (k+1):=by
 have hlast:(ts.take k).getLast? =some y:=by
  have:=zkH hy
  rwa [show k - 1+1=k by omega] at this
 have htx:ts.take (k+1)=ts.take k++[x]:=by rw[List.take_add_one,hx];rfl
 rw[htx]
 split
 ·rename_i h;rw[zul hlast h,hd]
 ·rename_i h;rw[zuk hlast h,hd]
theorem zot(hp:Heap)(r:Nat)(hr:r<hp.length)(ts:List Tm)(N:Nat)(hN:N=ts.length)(hN':N<1000000000)(hv:∀t∈ts,t.valid=true)(hs:∀t∈ts,t.size<1000000000):
  S 38 [.sl (some 4) r N 0 N,.pv none (.func (.func 39))] (hp.set r (.arr (some 4) (Tm.pvs ts) false))=some (.ret (.sl (some 4) r N 0 (dd ts).length),hp.set r (.arr (some 4) (packed N (dd ts)) false)):=by
 have hsl:(hp.set r (.arr (some 4) (Tm.pvs ts) false)).length=hp.length:=by simp
 have e1:∀A ext,(hp.set r A++ext)[r]? =some A:=fun A ext=>by rw[zg7 (by simpa using hr)];simp[hr]
 have e4:∀A B ext,(hp.set r A++ext).set r B=hp.set r B++ext:=fun A B ext=>by rw[zi7 (by simpa using hr)];simp
 refine zaG rfl rfl rfl rfl ?_
 rw[hsl]
 by_cases h2:N<2
 ·have hc:(N:Int)<2:=by omega
  simp -dsimp -implicitDefEqProofs only[c38b18,go_sem,seval,↓reduceIte,zbe (sh:=some 4) (by decide),hc]
  have hdd:dd ts=ts:=by
   match ts,hN with
   |[],_=>rfl
   |[x],_=>rfl
   |_::_::_,h=>simp at h;omega
  have ht:∀(A:AObj) (e:Heap),(hp.set r A++e).take hp.length=hp.set r A:=fun A e=>by
   rw[List.take_append_of_le_length (by simp),List.take_of_length_le (by simp)]
  rw[hdd,<-hN,ht]
  simp[AV.refsIn,hr,packed,<-hN]
 ·have hc:¬(N:Int)<2:=by omega
  simp -dsimp -implicitDefEqProofs only[c38b18,go_sem,seval,↓reduceIte,zbe (sh:=some 4) (by decide),hc]
  refine zba (fun n st=>∃k:Nat,n=N - k/\1<=k/\k<=N/\dd (ts.take k)=ts.take k/\st=⟨[(0,.sl (some 4) r N 0 N),(1,.pv none (.func (.func 39))),(5,.pv none (.int .i64 k))],hp.set r (.arr (some 4) (Tm.pvs ts) false)++[.arr (some 4) [] false]⟩) (n:=N - 1) ⟨1,rfl,Nat.le_refl _,by omega,?_,?_⟩ ?_
  ·match ts,hN with
   |x::l,_=>rfl
   |[],h=>simp at h;omega
  ·simp -dsimp -implicitDefEqProofs only[go_sem,seval,↓reduceIte]
   try rfl
  ·rintro n st ⟨k,hn,hk,hkN,hd,rfl⟩
   by_cases hlt:k<N
   ·have hc:(k:Int)<(N:Int):=by omega
    obtain⟨x,hx⟩:∃x,ts[k]? =some x:=⟨_,List.getElem?_eq_getElem (by omega)⟩
    obtain⟨y,hy⟩:∃y,ts[k - 1]? =some y:=⟨_,List.getElem?_eq_getElem (by omega)⟩
    have gx:=Tm.pvs_get hx
    have gy:=Tm.pvs_get hy
    have hxm:=List.mem_of_getElem? hx
    have hym:=List.mem_of_getElem? hy
    have hcall:=fun hp=>zkG x y hp (hv x hxm) (hv y hym) (hs x hxm)
    have hstep:=zkI hd hx hy hk
    have hlen:(Tm.pvs ts).length=N:=by rw[Tm.pvs_len,hN]
    have w1:IntKind.i64.wrap ((k:Int) - 1)=((k - 1:Nat):Int):=by rw[zaq (by omega) (by omega)];omega
    have w2:IntKind.i64.wrap ((k:Int)+1)=((k+1:Nat):Int):=by rw[zaq (by omega) (by omega)];omega
    have la:k - 1<N:=by omega
    by_cases h0:x.cmp y=0
    ·rw[if_pos h0] at hstep
     simp -dsimp -implicitDefEqProofs only[go_sem,seval,↓reduceIte,hc,zap hlt,zap la,zaK,e1,hlen,gx,gy,hcall,w1,w2,h0,zhf hkN]
     refine zjd hp r hr ts N hN hN' hv hs k hk hlt hstep _ _ _ rfl fun rest es hes htk=> ?_
     have hdl:(dd ts).length<=N:=by rw[hN];exact zeY ts
     simp -dsimp -implicitDefEqProofs only[c38b18,go_sem,seval,↓reduceIte,zhf hdl,zl4 hdl,zos (e1 _ _) hes (show(dd ts).length+(N - (dd ts).length)=N by omega),e4]
     have ht:∀(A:AObj) (e:Heap),(hp.set r A++e).take hp.length=hp.set r A:=fun A e=>by
      rw[List.take_append_of_le_length (by simp),List.take_of_length_le (by simp)]
     rw[ht,htk]
     simp[AV.refsIn,hr,packed,zvl]
    ·rw[if_neg h0] at hstep
     simp -dsimp -implicitDefEqProofs only[c38b18,go_sem,seval,↓reduceIte,hc,zap hlt,zap la,zaK,e1,hlen,gx,gy,hcall,w1,w2,h0]
     refine⟨N - (k+1),by omega,k+1,rfl,by omega,by omega,hstep,?_⟩
     rw[zay (by simp)]
   ·have hc:¬(k:Int)<(N:Int):=by omega
    have hdd:dd ts=ts:=by rwa [List.take_of_length_le (by omega)] at hd
    have ht:∀(A:AObj) (e:Heap),(hp.set r A++e).take hp.length=hp.set r A:=fun A e=>by
     rw[List.take_append_of_le_length (by simp),List.take_of_length_le (by simp)]
    simp -dsimp -implicitDefEqProofs only[c38b18,go_sem,seval,↓reduceIte,hc]
    rw[hdd,<-hN,ht]
    simp[AV.refsIn,hr,packed,<-hN]
theorem zrw(v:AV)(hp:Heap)(ts:List Tm)(hL:IsL v hp ts)(hl:Tm.sizes ts<100000000):S 12 [v] hp=some (.ret (.tuple (if zaL ts=true then[.sl (some 4) (hp.length+3) ts.length 0 (dd (isort Tm.cmp ts)).length,.pv none (.int .i64 0)] else[.sl (some 4) (hp.length+3) 0 0 0,.pv none (.int .i64 1)])),hp++(if zaL ts=true then[.arr (some 4) [] false,.arr (some 4) [] false,.arr (some 4) [] false,.arr (some 4) (packed ts.length (dd (isort Tm.cmp ts))) false] else[.arr (some 4) [] false,.arr (some 4) [] false,.arr (some 4) [] false,.arr (some 4) [] false])):=by
 refine zaG rfl rfl rfl rfl ?_
 have hst:=zkX v (hp++[.arr (some 4) [] false]) ts (hL.more _) hl
 have hlen:=Tm.zwj ts
 by_cases h:zaL ts=true
 ·have hmem:∀t∈isort Tm.cmp ts,t∈ts:=fun t ht=>(zbv ts).mem_iff.1 ht
  have hcp:=zot (hp++[.arr (some 4) [] false,.arr (some 4) [] false,.arr (some 4) [] false,.arr (some 4) (Tm.pvs (isort Tm.cmp ts)) false]) (hp.length+3) (by simp) (isort Tm.cmp ts) ts.length (zaw ts).symm (by omega) (fun t ht=>zbl h (hmem t ht)) (fun t ht=>by have:=Tm.zws (hmem t ht);omega)
  simp only[h,if_true,List.length_append,List.length_cons,List.length_nil,List.append_assoc,List.cons_append,List.nil_append,Nat.add_assoc,Nat.zero_add,Nat.reduceAdd] at hst
  simp only[zaj,List.set_cons_succ,List.set_cons_zero] at hcp
  simp -dsimp -implicitDefEqProofs only[go_sem,seval,↓reduceIte,h,hst,hcp,zbe (sh:=some 4) (by decide),List.append_assoc,zah,zaf,zaj,zag,Nat.add_assoc,List.length_append]
  simp[AV.refsIn,AV.refsIn.gol]
 ·rw[Bool.not_eq_true] at h
  simp only[h,if_false,Bool.false_eq_true,List.length_append,List.length_cons,List.length_nil,List.append_assoc,List.cons_append,List.nil_append,Nat.add_assoc,Nat.zero_add,Nat.reduceAdd] at hst
  simp -dsimp -implicitDefEqProofs only[go_sem,seval,↓reduceIte,h,hst,zbe (sh:=some 4) (by decide),List.append_assoc,zah,zaf,zaj,zag,Nat.add_assoc,List.length_append]
  simp[AV.refsIn,AV.refsIn.gol]
def bagN:List UInt8:=[36,98,97,103]
def setN:List UInt8:=[36,115,101,116]
def zfC(l:List Tm):List Tm:=dd (isort Tm.cmp l)
theorem zvh(l:List Tm)(hp:Heap):S 56 [.pv none (.sl (some 4) (Tm.pvs l))] hp=some (.ret (.pv none (.sl (some 4) (Tm.pvs l))),hp):=by
 refine zam rfl rfl rfl (zab [(none,.sl (some 4) (Tm.pvs l))]) rfl ?_
 have hn0:∀H:Heap,zbs (some 4) H=some (.sl (some 4) H.length 0 0 0,H++[.arr (some 4) [] false]):=fun H=>zbe (sh:=some 4) (by decide)
 simp -dsimp -implicitDefEqProofs only[go_sem,seval,↓reduceIte,hn0]
theorem zqZ{H:Heap}{q N:Nat}{l:List Tm}(h:H[q]? =some (.arr (some 4) (packed N l) false))(hl:l.length<=N):Am.frozen (.pv none (.sl (some 4) (Tm.pvs l))) (.sl (some 4) q N 0 l.length) H:=by
 have h1:(packed N l).length=N:=by unfold packed;simp[Tm.pvs_len];omega
 have h2:(packed N l).take l.length=Tm.pvs l:=by
  unfold packed
  rw[List.take_append_of_le_length (by rw[Tm.pvs_len];exact Nat.le_refl _),List.take_of_length_le (by rw[Tm.pvs_len];exact Nat.le_refl _)]
 refine⟨H.set q (.arr (some 4) (packed N l) true),?_⟩
 by_cases e:l.length=N
 ·have h3:packed N l=Tm.pvs l:=by rw[<-h2,e,List.take_of_length_le (by omega)]
  rw[h3] at h
  have h4:(Tm.pvs l).length=N:=by rw[Tm.pvs_len,e]
  simp[AV.freezeRes,AV.freeze,deep,h,h3,h4,AV.shp,e]
 ·simp[AV.freezeRes,AV.freeze,deep,h,h1,h2,AV.shp,hl,e]
theorem zvi(l:List Tm)(hv:zaL l=true)(hl:Tm.sizes l<100000000)(hp:Heap):S 57 [.pv none (.sl (some 4) (Tm.pvs l))] hp=some (.ret (.pv none (.sl (some 4) (Tm.pvs (zfC l)))),hp):=by
 refine zam rfl rfl rfl (zab [(none,.sl (some 4) (Tm.pvs l))]) rfl ?_
 have hn0:∀H:Heap,zbs (some 4) H=some (.sl (some 4) H.length 0 0 0,H++[.arr (some 4) [] false]):=fun H=>zbe (sh:=some 4) (by decide)
 have hs:=fun H=>zrw (.pv none (.sl (some 4) (Tm.pvs l))) H l (zrx _ _) hl
 simp only[hv,if_true] at hs
 have hdl:=zeY (isort Tm.cmp l)
 rw[zaw] at hdl
 simp -dsimp -implicitDefEqProofs only[go_sem,seval,↓reduceIte,hn0,hs]
 exact zqZ rfl hdl
def predsP:List PV:=[.agg [(none,.str bagN),(none,.func (.func 56))],.agg [(none,.str setN),(none,.func (.func 57))]]
theorem zsO(hp:Heap):S 26 [] hp=some (.ret (.pv none (.sl (some 2) predsP)),hp):=by
 refine zam (ps:=[]) rfl rfl rfl rfl rfl ?_
 have hn0:∀H:Heap,zbs (some 2) H=some (.sl (some 2) H.length 0 0 0,H++[.arr (some 2) [] false]):=fun H=>zbe (sh:=some 2) (by decide)
 have hb1:zaP [(none,.pv none (.str [])),(none,.pv none .nilfunc)] [0,1] [.pv none (.str [36,98,97,103]),.pv none (.func (.func 56))]=some (.pv (some 2) (.agg [(none,.str bagN),(none,.func (.func 56))])):=rfl
 have hb2:zaP [(none,.pv none (.str [])),(none,.pv none .nilfunc)] [0,1] [.pv none (.str [36,115,101,116]),.pv none (.func (.func 57))]=some (.pv (some 2) (.agg [(none,.str setN),(none,.func (.func 57))])):=rfl
 simp -dsimp -implicitDefEqProofs only[go_sem,seval,↓reduceIte,hn0,hb1,hb2]
 try rfl
theorem zuq(nm:List UInt8)(k:Nat)(hp:Heap):S 24 [.pv none (.str nm),.pv none (.int .i64 (k:Int))] hp=some (.ret (.pv none (.bool (decide (k=3/\(nm=bagN\/nm=setN))))),hp):=by
 refine zam rfl rfl rfl (zab [(none,.str nm),(none,.int .i64 (k:Int))]) rfl ?_
 by_cases h3:k=3
 ·have h3':=eq_true (show(k:Int)=3 by omega)
  by_cases h1:nm=bagN
  ·have h1':=eq_true (show nm=[36,98,97,103] from h1)
   simp -dsimp -implicitDefEqProofs only[go_sem,seval,↓reduceIte,h3',h1']
   simp[h3,h1]
  ·have h1':=eq_false (show ¬nm=[36,98,97,103] from h1)
   by_cases h2:nm=setN
   ·have h2':=eq_true (show nm=[36,115,101,116] from h2)
    simp -dsimp -implicitDefEqProofs only[go_sem,seval,↓reduceIte,h3',h1',h2']
    simp[h3,h2]
   ·have h2':=eq_false (show ¬nm=[36,115,101,116] from h2)
    simp -dsimp -implicitDefEqProofs only[go_sem,seval,↓reduceIte,h3',h1',h2']
    simp[h1,h2]
 ·have h3':=eq_false (show ¬(k:Int)=3 by omega)
  simp -dsimp -implicitDefEqProofs only[go_sem,seval,↓reduceIte,h3']
  simp[h3]
end Go.Proofs.Ytffecaafklpmhaa
