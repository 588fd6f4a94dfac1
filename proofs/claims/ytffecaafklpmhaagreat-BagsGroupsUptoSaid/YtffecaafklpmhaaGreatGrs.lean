/- What is proved: the copy that is sorted. -/
import Derived.Test.YtffecaafklpmhaaGreatValids
import Derived.Test.YtffecaafklpmhaaGreatAm4
import Derived.Test.YtffecaafklpmhaaGreatCn
import Derived.Test.YtffecaafklpmhaaGreatUni
import Derived.Test.YtffecaafklpmhaaGreatStp
set_option linter.unusedSimpArgs false
set_option linter.unusedVariables false
namespace Go.Proofs.YtffecaafklpmhaaGreat
open Go.Am
theorem zmu{hp ext junk:Heap}{n:Nat}{fr:Fr}(hn:n=hp.length+ext.length)(hf:fr.all (fun x=>x.2.refsIn.all (·<n))=true)(he:ext.all (fun o=>o.refs.all (·<n))=true):collect n hp.length fr (hp++ext++junk)=hp++ext:=by
 have ht:(hp++ext++junk).take n=hp++ext:=by
  rw[List.take_append_of_le_length (by simp;omega),List.take_of_length_le (by simp;omega)]
 unfold collect
 rw[ht,hf,List.drop_left,Bool.true_and]
 exact if_pos he
theorem zoZ{sh s s':Sh}{k k':IntKind}{z:PV}{hp:Heap}{n:Nat}(hs:0<sh.size)(h:n<=lim):zbR sh z hp [.pv s (.int k 0),.pv s' (.int k' n)]=some (.sl sh hp.length 0 0 0,hp++[.arr sh [] false]):=by
 have h1:((n:Nat):Int)<=((lim:Nat):Int):=by omega
 simp[zbR,hs,h1]
structure IsL(v:AV)(hp:Heap)(l:List Tm):Prop where
 len:sLen [v]=some (.pv none (.int .i64 l.length))
 idx:∀(i:Nat) (u:Tm),l[i]? =some u->∃p,(∀(s:Sh) (k:IntKind),zck (some 4) [v,.pv s (.int k i)]=some p)/\∀ext,aload (some 4) (hp++ext) p=some (.pv (some 4) u.pv)
 refs:∀q,q∈v.refsIn->q<hp.length
 frz:∃hp1:Heap,hp1.length=hp.length/\∀ext,zap [v] (hp++ext)=some ([(none,.sl (some 4) (Tm.pvs l))],hp1++ext)
theorem IsL.more{v:AV}{hp:Heap}{l:List Tm}(h:IsL v hp l)(e:Heap):IsL v (hp++e) l where
 len:=h.len
 idx:=fun i u hu=>by
  obtain⟨p,h1,h2⟩:=h.idx i u hu
  exact⟨p,h1,fun ext=>by rw[List.append_assoc];exact h2 _⟩
 refs:=fun q hq=>by have:=h.refs q hq;simp;omega
 frz:=by
  obtain⟨hp1,h1,h2⟩:=h.frz
  exact⟨hp1++e,by simp[h1],fun ext=>by rw[List.append_assoc,h2,List.append_assoc]⟩
theorem zwi(hp:Heap)(l:List Tm):IsL (.pv none (.sl (some 4) (Tm.pvs l))) hp l where
 len:=by rw[zmY,Tm.pvs_len]
 idx:=fun i u hu=>⟨.iptr (some 4) u.pv 0,fun s k=>zab (Tm.pvs_get hu),fun ext=>by rw[zih];simp⟩
 refs:=fun q hq=>by simp[AV.refsIn] at hq
 frz:=⟨hp,rfl,fun ext=>zac [(none,.sl (some 4) (Tm.pvs l))]⟩
def CmpG(c:PV->PV->Int)(g:FuncId)(D:PV->Prop):Prop:=∀x y,D x->D y->∀hp,S g [.pv (some 4) x,.pv (some 4) y] hp=some (.ret (.pv none (.int .i64 (c x y))),hp)
theorem CmpG.toF{c:PV->PV->Int}{g:FuncId}{D:PV->Prop}(h:CmpG c g D)(hp:Heap)(r:Nat):CmpF c (.pv none (.func (.func g))) D hp r:=⟨g,[],[],rfl,fun x y hx hy A=>h x y hx hy _⟩
section
variable(c:PV->PV->Int) (hC:Cmp c) (g:FuncId) (D:PV->Prop) (hg:CmpG c g D)
include hC hg
theorem zjs(hp:Heap)(r:Nat)(hr:r<hp.length)(N:Nat)(hN':N<100000000)(xs:List PV)(hN:N=xs.length)(hD:∀x∈xs,D x):
  S 115 [.sl (some 4) r N 0 N,.pv none (.func (.func g))] (hp.set r (.arr (some 4) xs false))=some (.ret (.tuple []),hp.set r (.arr (some 4) (isort c xs) false)):=by
 have hcall:=zrS c hC (.pv none (.func (.func g))) D hp r (hg.toF hp r) hr N hN' xs hN hD
 have hsl:(hp.set r (.arr (some 4) xs false)).length=hp.length:=by simp
 refine zaO rfl rfl rfl rfl ?_
 simp -dsimp -implicitDefEqProofs only[go_sem,seval,↓reduceIte,hcall,hsl]
 rw[List.take_of_length_le (by simp)]
theorem zrR(v:AV)(hp:Heap)(ts:List Tm)(hL:IsL v hp ts)(hv:∀t∈ts,t.valid=true)(hl:Tm.sizes ts<100000000)(hD:∀t∈ts,D t.pv):
  S 81 [v,.pv none (.func (.func g))] hp=some (.ret (.sl (some 4) (hp.length+1) ts.length 0 ts.length),hp++[.arr (some 4) [] false,.arr (some 4) (isort c (Tm.pvs ts)) false]):=by
 have hlen:=Tm.zwT ts
 refine zaO rfl rfl rfl rfl ?_
 have hm:ts.length<=lim:=by unfold lim;omega
 simp -dsimp -implicitDefEqProofs only[go_sem,seval,↓reduceIte,hL.len,zbH (sh:=some 4) (by decide),zoZ (sh:=some 4) (by decide) hm,List.append_assoc,zah,zae,zai,zaf,Nat.add_assoc,List.length_append]
 refine za0 (fun n st=>∃i:Nat,n=ts.length - i/\i<=ts.length/\st=⟨[(1,.pv none (.func (.func g))),(5,.sl (some 4) (hp.length+1) i 0 i),(11,v),(12,.pv none (.int .i64 ts.length)),(13,.pv none (.int .i64 i))],hp++[.arr (some 4) [] false,.arr (some 4) (Tm.pvs (ts.take i)) false]⟩) (n:=ts.length) ⟨0,rfl,Nat.zero_le _,?_⟩ ?_
 ·simp -dsimp -implicitDefEqProofs only[go_sem,seval,↓reduceIte]
  simp[Tm.pvs]
 ·rintro n st ⟨i,hn,hi,rfl⟩
  by_cases h:i<ts.length
  ·have hc:(i:Int)<(ts.length:Int):=by omega
   obtain⟨u,hu⟩:∃u,ts[i]? =some u:=⟨_,List.getElem?_eq_getElem h⟩
   have hum:=List.mem_of_getElem? hu
   have husz:=Tm.zw2 hum
   have hcall:=fun hp=>zfl u hp (hv u hum) (by omega)
   simp only[Tm.av] at hcall
   obtain⟨p,hp1,hp2⟩:=hL.idx i u hu
   have w2:IntKind.i64.wrap ((i:Int)+1)=((i+1:Nat):Int):=by rw[zan (by omega) (by omega)];omega
   have hl2:(Tm.pvs (ts.take i)).length=i:=by rw[Tm.pvs_len,List.length_take];omega
   have hlim:i+1<=lim:=by unfold lim;omega
   simp -dsimp -implicitDefEqProofs only[go_sem,seval,↓reduceIte,hc,hp1,hp2,hcall,w2,hl2,hlim,List.append_assoc,zah,zae,zai,zaf,Nat.add_assoc,List.length_append,Tm.zwX hu]
   refine⟨ts.length - (i+1),by omega,i+1,rfl,by omega,?_⟩
   rw[show ∀a b c d:AObj,hp++[a,b,c,d]=hp++[a,b]++[c,d] from fun _ _ _ _=>by simp]
   rw[zmu (by simp) (by simp[AV.refsIn];intro q hq;have:=hL.refs q hq;omega) rfl]
  ·have hc:¬(i:Int)<(ts.length:Int):=by omega
   obtain rfl:i=ts.length:=by omega
   have hcall:=zjs c hC g D hg (hp++[.arr (some 4) [] false,.arr (some 4) (Tm.pvs ts) false]) (hp.length+1) (by simp) ts.length (by omega) (Tm.pvs ts) (Tm.pvs_len ts).symm (by rw[Tm.zxa];simpa using hD)
   have e1:∀x,(hp++[AObj.arr (some 4) [] false,.arr (some 4) (Tm.pvs ts) false]).set (hp.length+1) x=hp++[.arr (some 4) [] false,x]:=fun x=>by rw[List.set_append_right _ _ (by omega)];simp
   rw[e1,e1] at hcall
   simp -dsimp -implicitDefEqProofs only[go_sem,seval,↓reduceIte,hc,List.take_length,hcall,List.append_assoc,zah,zae,zai,zaf,Nat.add_assoc,List.length_append]
   simp[AV.refsIn]
end
def small(p:PV):Prop:=∃t:Tm,p=t.pv/\t.valid=true/\t.size<1000000000
def zaG(t:Tm):Bool:=decide (t.kind=3) && decide (t.name=[45]) && decide (t.args.length=2)
def zkQ(p:PV):Prop:=∃t:Tm,p=t.pv/\t.valid=true/\t.size<1000000000/\zaG t=true
theorem ztm:CmpG (onPV zbJ) 82 zkQ:=by
 rintro x y ⟨t,rfl,ht,hts,htp⟩ ⟨u,rfl,hu,hus,hup⟩ hp
 simp only[zaG,Bool.and_eq_true,decide_eq_true_eq] at htp hup
 obtain⟨k1,k2,hk⟩:∃k1 k2,t.args=[k1,k2]:=by
  match t.args,htp.2 with
  |[a,b],_=>exact⟨a,b,rfl⟩
 obtain⟨j1,j2,hj⟩:∃k1 k2,u.args=[k1,k2]:=by
  match u.args,hup.2 with
  |[a,b],_=>exact⟨a,b,rfl⟩
 have h1:k1∈t.args:=by rw[hk];simp
 have h2:j1∈u.args:=by rw[hj];simp
 have hs:=Tm.zwY h1
 have h:=fun hp=>zoE k1 j1 hp (by omega) (Tm.zwU (Tm.valid_fits ht) h1) (Tm.zwU (Tm.valid_fits hu) h2)
 simp only[Tm.av] at h
 have e1:(Tm.pvs t.args)[0]? =some k1.pv:=Tm.pvs_get (by rw[hk];rfl)
 have e2:(Tm.pvs u.args)[0]? =some j1.pv:=Tm.pvs_get (by rw[hj];rfl)
 have ek:zbJ t u=k1.cmp j1:=by unfold zbJ zam;rw[hk,hj];rfl
 refine zao rfl rfl rfl (zac [(some 4,t.pv),(some 4,u.pv)]) rfl ?_
 simp -dsimp -implicitDefEqProofs only[go_sem,seval,↓reduceIte,zad,zaW e1,zaW e2,h]
 rw[show onPV zbJ t.pv u.pv=zbJ t u by simp[onPV,zq6],ek]
def zcd(ts:List Tm):Int:=if zaN ts=true then(if ts.all zaG=true then 0 else 3) else 1
def zbd(ts:List Tm):List Tm:=if zaN ts=true/\ts.all zaG=true then isort zbJ ts else[]
def zuT(ts:List Tm)(hp:Heap)(v:AV)(H:Heap):Prop:=∃q E,H=hp++E/\hp.length<=q/\H[q]? =some (.arr (some 4) (Tm.pvs (zbd ts)) false)/\v=.tuple [.sl (some 4) q (zbd ts).length 0 (zbd ts).length,.pv none (.int .i64 (zcd ts))]
theorem zfn{ts:List Tm}{hp:Heap}{q:Nat}{E:Heap}{n:Nat}(hq:hp.length<=q)(h:(hp++E)[q]? =some (.arr (some 4) (Tm.pvs (zbd ts)) false))(hn:n=(zbd ts).length){e:Int}(he:e=zcd ts):
  zuT ts hp (.tuple [.sl (some 4) q n 0 n,.pv none (.int .i64 e)]) (if(AV.tuple [.sl (some 4) q n 0 n,.pv none (.int .i64 e)]).refsIn.all (fun q=>decide (q<hp.length))=true then(hp++E).take hp.length else hp++E):=by
 rw[if_neg (by simp[AV.refsIn,AV.refsIn.gol];omega)]
 exact⟨q,E,rfl,hq,h,by rw[hn,he]⟩
theorem zvS(ts:List Tm)(hl:Tm.sizes ts<100000000)(hp:Heap):∃v H,S 34 [.pv none (.sl (some 4) (Tm.pvs ts))] hp=some (.ret v,H)/\zuT ts hp v H:=by
 have hv:=zo0 ts (by omega)
 have hlen:=Tm.zwT ts
 refine zbu (zuT ts hp) rfl rfl rfl rfl ?_
 have hn0:∀H:Heap,zbD (some 4) H=some (.sl (some 4) H.length 0 0 0,H++[.arr (some 4) [] false]):=fun H=>zbH (sh:=some 4) (by decide)
 by_cases h:zaN ts=true
 ·rw[h] at hv
  simp -dsimp -implicitDefEqProofs only[go_sem,seval,↓reduceIte,hv,hn0,Tm.pvs_len,List.append_assoc,zah,zae,zai,zaf,Nat.add_assoc,List.length_append]
  refine za0 (fun n st=>∃i:Nat,n=ts.length - i/\i<=ts.length/\(ts.take i).all zaG=true/\st=⟨[(0,.pv none (.sl (some 4) (Tm.pvs ts))),(9,.pv none (.sl (some 4) (Tm.pvs ts))),(10,.pv none (.int .i64 ts.length)),(11,.pv none (.int .i64 i))],hp++[.arr (some 4) [] false]⟩) (n:=ts.length) ⟨0,rfl,Nat.zero_le _,rfl,?_⟩ ?_
  ·rfl
  ·rintro n st ⟨i,hn,hi,hp1,rfl⟩
   by_cases hlt:i<ts.length
   ·have hc:(i:Int)<(ts.length:Int):=by omega
    obtain⟨u,hu⟩:∃u,ts[i]? =some u:=⟨_,List.getElem?_eq_getElem hlt⟩
    have hum:=List.mem_of_getElem? hu
    have w2:IntKind.i64.wrap ((i:Int)+1)=((i+1:Nat):Int):=by rw[zan (by omega) (by omega)];omega
    have hbad:zaG u=false->zcd ts=3/\zbd ts=[]:=fun hb=>by
     have:ts.all zaG=false:=List.all_eq_false.2 ⟨u,hum,by simp[hb]⟩
     unfold zcd zbd
     simp[h,this]
    by_cases k1:u.kind=3
    ·have k1':=eq_true k1
     by_cases k2:u.name=[45]
     ·have k2':=eq_true k2
      by_cases k3:u.args.length=2
      ·have k3':=eq_true (show(u.args.length:Int)=2 by omega)
       simp -dsimp -implicitDefEqProofs only[go_sem,seval,↓reduceIte,hc,zab (Tm.pvs_get hu),zaj,zat,zad,Tm.pvs_len,k1',k2',k3',w2,hn0,List.append_assoc,zah,zae,zai,zaf,Nat.add_assoc,List.length_append]
       refine⟨ts.length - (i+1),by omega,i+1,rfl,by omega,by rw[List.take_add_one,hu];simp[hp1,zaG,k1,k2,k3],?_⟩
       rw[zaQ 1 rfl rfl rfl (by simp[AV.refsIn])]
       rfl
      ·have k3':=eq_false (show ¬(u.args.length:Int)=2 by omega)
       simp -dsimp -implicitDefEqProofs only[go_sem,seval,↓reduceIte,hc,zab (Tm.pvs_get hu),zaj,zat,zad,Tm.pvs_len,k1',k2',k3',w2,hn0,List.append_assoc,zah,zae,zai,zaf,Nat.add_assoc,List.length_append]
       exact zfn (by omega) (by rw[zah,(hbad (by simp[zaG,k3])).2];rfl) (by rw[(hbad (by simp[zaG,k3])).2];rfl) (hbad (by simp[zaG,k3])).1.symm
     ·have k2':=eq_false k2
      simp -dsimp -implicitDefEqProofs only[go_sem,seval,↓reduceIte,hc,zab (Tm.pvs_get hu),zaj,zat,zad,Tm.pvs_len,k1',k2',w2,hn0,List.append_assoc,zah,zae,zai,zaf,Nat.add_assoc,List.length_append]
      exact zfn (by omega) (by rw[zah,(hbad (by simp[zaG,k2])).2];rfl) (by rw[(hbad (by simp[zaG,k2])).2];rfl) (hbad (by simp[zaG,k2])).1.symm
    ·have k1':=eq_false k1
     simp -dsimp -implicitDefEqProofs only[go_sem,seval,↓reduceIte,hc,zab (Tm.pvs_get hu),zaj,zat,zad,Tm.pvs_len,k1',w2,hn0,List.append_assoc,zah,zae,zai,zaf,Nat.add_assoc,List.length_append]
     exact zfn (by omega) (by rw[zah,(hbad (by simp[zaG,k1])).2];rfl) (by rw[(hbad (by simp[zaG,k1])).2];rfl) (hbad (by simp[zaG,k1])).1.symm
   ·have hc:¬(i:Int)<(ts.length:Int):=by omega
    obtain rfl:i=ts.length:=by omega
    rw[List.take_length] at hp1
    have eE:zcd ts=0:=by unfold zcd;rw[if_pos h,if_pos hp1]
    have eL:zbd ts=isort zbJ ts:=by unfold zbd;rw[if_pos ⟨h,hp1⟩]
    have hcall:=zrR (onPV zbJ) (zs4 key_cmp) 82 zkQ ztm (.pv none (.sl (some 4) (Tm.pvs ts))) (hp++[.arr (some 4) [] false]) ts (zwi _ _) (fun t ht=>zbt h ht) hl (fun t ht=>⟨t,rfl,zbt h ht,by have:=Tm.zw2 ht;omega,List.all_eq_true.1 hp1 t ht⟩)
    simp only[zq7,List.length_append,List.length_cons,List.length_nil,List.append_assoc,List.cons_append,List.nil_append,Nat.add_assoc,Nat.zero_add] at hcall
    simp -dsimp -implicitDefEqProofs only[go_sem,seval,↓reduceIte,hc,hcall,List.append_assoc,zah,zae,zai,zaf,Nat.add_assoc,List.length_append]
    exact zfn (by omega) (by rw[zah,eL];rfl) (by rw[eL,zaB]) eE.symm
 ·have eE:zcd ts=1:=by unfold zcd;rw[if_neg h]
  have eL:zbd ts=[]:=by unfold zbd;rw[if_neg (fun e=>h e.1)]
  rw[Bool.not_eq_true] at h
  rw[h] at hv
  simp -dsimp -implicitDefEqProofs only[go_sem,seval,↓reduceIte,hv,hn0,List.append_assoc,zah,zae,zai,zaf,Nat.add_assoc,List.length_append]
  exact zfn (by omega) (by rw[zah,eL];rfl) (by rw[eL];rfl) eE.symm
theorem zd3{t:Tm}(h:zaG t=true):∃a b,t.args=[a,b]:=by
 simp only[zaG,Bool.and_eq_true,decide_eq_true_eq] at h
 match t.args,h.2 with
 |[a,b],_=>exact⟨a,b,rfl⟩
theorem zcf{t:Tm}(h:zaG t=true):zam t∈t.args:=by
 obtain⟨a,b,e⟩:=zd3 h
 unfold zam
 rw[e]
 simp
theorem zno(t:Tm)(h:zaG t=true)(hp:Heap):S 106 [.pv (some 4) t.pv,.pv none (.bool true)] hp=some (.ret (.pv (some 4) (zam t).pv),hp):=by
 refine zao rfl rfl rfl (zac [(some 4,t.pv),(none,.bool true)]) rfl ?_
 obtain⟨a,b,e⟩:=zd3 h
 have e1:(Tm.pvs t.args)[0]? =some (zam t).pv:=Tm.pvs_get (by unfold zam;rw[e];rfl)
 simp -dsimp -implicitDefEqProofs only[go_sem,seval,↓reduceIte,zad,zaW e1,zag (Nat.zero_le _)]
 try exact⟨_,rfl⟩
def zbz(l:List Tm)(t:Tm):Nat->Nat
 |0=>0
 |n+1=>match l[n]? with
  |some x=>if 0<zbJ x t then zbz l t n else n+1
  |none=>n+1
def insK(l:List Tm)(t:Tm):List Tm:=l.take (zbz l t l.length)++t::l.drop (zbz l t l.length)
theorem ziw(l:List Tm)(t:Tm):∀n,zbz l t n<=n
 |0=>Nat.le_refl _
 |n+1=>by
  unfold zbz
  split
  ·split
   ·have:=ziw l t n;omega
   ·omega
  ·omega
theorem ztw{l:List Tm}{t x:Tm}:x∈insK l t↔x∈l\/x=t:=by
 unfold insK
 rw[List.mem_append,List.mem_cons]
 have h:x∈l↔x∈l.take (zbz l t l.length)\/x∈l.drop (zbz l t l.length):=by rw[<-List.mem_append,List.take_append_drop]
 rw[h]
 constructor
 ·rintro(h|h|h) <;> simp[h]
 ·rintro((h|h)|h) <;> simp[h]
theorem zoU(l:List Tm)(t:Tm):Tm.sizes (insK l t)=Tm.sizes l+t.size:=by
 unfold insK
 have h:=Tm.zw5 (l.take (zbz l t l.length)) (l.drop (zbz l t l.length))
 rw[List.take_append_drop] at h
 rw[Tm.zw5,h]
 simp only[Tm.sizes]
 omega
theorem zmn(l:List Tm)(t:Tm):(insK l t).length=l.length+1:=by
 unfold insK
 have:=ziw l t l.length
 simp
 omega
theorem zmo(l:List Tm)(t:Tm)(hl:Tm.sizes l+t.size<1000000000)(hv:zaN l=true)(ht:t.valid=true)(pl:l.all zaG=true)(pt:zaG t=true)(hp:Heap):
  S 60 [.pv none (.sl (some 4) (Tm.pvs l)),.pv (some 4) t.pv,.pv none (.bool true)] hp=some (.ret (.pv none (.sl (some 4) (Tm.pvs (insK l t)))),hp):=by
 refine zao rfl rfl rfl (zac [(none,.sl (some 4) (Tm.pvs l)),(some 4,t.pv),(none,.bool true)]) rfl ?_
 have hlen:=Tm.zwT l
 have hkt:=zno t pt
 simp -dsimp -implicitDefEqProofs only[go_sem,seval,↓reduceIte,Tm.pvs_len,zbH (show 0<Sh.size (some 4) by decide)]
 refine za0 (fun n st=>∃i:Nat,n=i/\i<=l.length/\zbz l t l.length=zbz l t i/\st=⟨[(0,.pv none (.sl (some 4) (Tm.pvs l))),(2,.pv none (.bool true)),(4,.ptr 0 0),(7,.pv none (.int .i64 i))],[.box (some 4) (.pv (some 4) t.pv),.arr (some 4) [] false]⟩) (n:=l.length) ⟨l.length,rfl,Nat.le_refl _,rfl,?_⟩ ?_
 ·simp -dsimp -implicitDefEqProofs only[go_sem,seval,↓reduceIte]
 ·rintro n st ⟨i,hn,hi,he,rfl⟩
  have hti:(l.take i).length=i:=by simp;omega
  have htd:(l.drop i).length=l.length - i:=by simp
  have hl1:i<=lim:=by unfold lim;omega
  have hl2:i+1<=lim:=by unfold lim;omega
  have hl3:i+1+(l.length - i)<=lim:=by unfold lim;omega
  have hpl:i<=(Tm.pvs l).length:=by rw[Tm.pvs_len];exact hi
  have hln:(Tm.pvs (l.take i)++[t.pv]).length=i+1:=by simp[Tm.pvs_len,hti]
  have hln3:(Tm.pvs (l.take i)++[t.pv]++Tm.pvs (l.drop i)).length=i+1+(l.length - i):=by simp[Tm.pvs_len,hti,htd];omega
  have fin:i=zbz l t l.length->Tm.pvs (insK l t)=Tm.pvs (l.take i)++[t.pv]++Tm.pvs (l.drop i):=by
   intro hk
   unfold insK
   rw[<-hk,Tm.zwZ,List.append_assoc]
   rfl
  by_cases h0:i=0
  ·have hc:¬(0:Int)<(i:Int):=by omega
   have hf:=fin (by rw[he,h0];rfl)
   simp -dsimp -implicitDefEqProofs only[go_sem,seval,↓reduceIte,Tm.pvs_len,hc,zbH (show 0<Sh.size (some 4) by decide),zii hpl,zij hpl,Tm.zxm,Tm.zxn,hti,htd,hl1,hl2,hl3,hln,hln3,hf]
  ·have hc:(0:Int)<(i:Int):=by omega
   obtain⟨j,rfl⟩:∃j,i=j+1:=⟨i - 1,by omega⟩
   obtain⟨x,hx⟩:∃x,l[j]? =some x:=⟨_,List.getElem?_eq_getElem (by omega)⟩
   have hm:=List.mem_of_getElem? hx
   have hsx:=Tm.zw2 hm
   have w1:IntKind.i64.wrap (((j+1:Nat):Int) - 1)=((j:Nat):Int):=by rw[zan (by omega) (by omega)];omega
   have px:=List.all_eq_true.1 pl x hm
   have hkx:=zno x px
   have hcall:=fun hp=>zl9 (zam x) (zam t) hp (by have:=Tm.zwY (zcf px);omega) (Tm.zwU (valid_fits (zbt hv hm)) (zcf px)) (Tm.zwU (valid_fits ht) (zcf pt))
   rw[show(zam x).cmp (zam t)=zbJ x t from rfl] at hcall
   simp only[Tm.av] at hcall
   by_cases hgt:0<zbJ x t
   ·simp -dsimp -implicitDefEqProofs only[go_sem,seval,↓reduceIte,Tm.pvs_len,hc,w1,zab (Tm.pvs_get hx),hkx,hkt,hcall,hgt]
    exact⟨j,by omega,j,rfl,by omega,by rw[he];simp[zbz,hx,hgt],rfl⟩
   ·have hf:=fin (by rw[he];simp[zbz,hx,hgt])
    simp -dsimp -implicitDefEqProofs only[go_sem,seval,↓reduceIte,Tm.pvs_len,hc,w1,zab (Tm.pvs_get hx),hkx,hkt,hcall,hgt,zbH (show 0<Sh.size (some 4) by decide),zii hpl,zij hpl,Tm.zxm,Tm.zxn,hti,htd,hl1,hl2,hl3,hln,hln3,hf]

theorem zhz(l:List Tm)(t:Tm)(args:List AV)(hp hp1:Heap)(hz:zap args hp=some ([(none,.sl (some 4) (Tm.pvs l)),(some 4,t.pv),(none,.bool true)],hp1))(hl:Tm.sizes l+t.size<1000000000)(hv:zaN l=true)(ht:t.valid=true)(pl:l.all zaG=true)(pt:zaG t=true):
  S 60 args hp=some (.ret (.pv none (.sl (some 4) (Tm.pvs (insK l t)))),hp1):=
 zcc rfl rfl rfl hz (zmo l t hl hv ht pl pt [])
def zbl(l:List Tm):List Tm:=l.foldl insK []
theorem zkX(l:List Tm)(t:Tm):zbl (l++[t])=insK (zbl l) t:=by simp[zbl]
theorem zez:∀(l acc:List Tm),(∀x,x∈l.foldl insK acc↔x∈acc\/x∈l)/\Tm.sizes (l.foldl insK acc)=Tm.sizes acc+Tm.sizes l/\(l.foldl insK acc).length=acc.length+l.length
 |[],acc=>⟨fun x=>by simp,by simp[Tm.sizes],by simp⟩
 |t::l,acc=>by
  obtain⟨h1,h2,h3⟩:=zez l (insK acc t)
  simp only[List.foldl_cons]
  refine⟨fun x=> ?_,?_,?_⟩
  ·rw[h1,ztw,List.mem_cons,or_assoc]
  ·rw[h2,zoU];simp only[Tm.sizes];omega
  ·rw[h3,zmn,List.length_cons];omega
theorem zdz(l:List Tm):(∀x,x∈zbl l↔x∈l)/\Tm.sizes (zbl l)=Tm.sizes l/\(zbl l).length=l.length:=by
 obtain⟨h1,h2,h3⟩:=zez l []
 exact⟨fun x=>by unfold zbl;rw[h1];simp,by unfold zbl;rw[h2];simp[Tm.sizes],by unfold zbl;rw[h3];simp⟩
theorem zgs{l:List Tm}(h:zaN l=true):zaN (zbl l)=true:=
 List.all_eq_true.2 fun x hx=>List.all_eq_true.1 h x (((zdz l).1 x).1 hx)

theorem zu3{l:List Tm}(hs:Srt zbJ l)(t:Tm):insK l t=insC zbJ t l:=by
 have key:∀n,n<=l.length->(∀x∈l.drop n,0<zbJ x t)->l.take (zbz l t n)++t::l.drop (zbz l t n)=insC zbJ t l:=by
  intro n
  induction n with
  |zero=>
   intro _ h
   have:=zeh (c:=zbJ) (t:=t) (A:=[]) (B:=l) (by simp) (fun x hx=>by have:=h x (by simpa using hx);rw[key_cmp.neg x t];omega)
   simpa[zbz] using this.symm
  |succ n ih=>
   intro hn h
   obtain⟨x,hx⟩:∃x,l[n]? =some x:=⟨_,List.getElem?_eq_getElem (by omega)⟩
   obtain⟨q1,q2⟩:=List.getElem?_eq_some_iff.1 hx
   unfold zbz
   rw[hx]
   simp only
   split
   ·rename_i hgt
    refine ih (by omega) fun y hy=> ?_
    rw[List.drop_eq_getElem_cons q1,q2] at hy
    rcases List.mem_cons.1 hy with rfl|hy
    ·exact hgt
    ·exact h y hy
   ·rename_i hle
    have:=zeh (c:=zbJ) (t:=t) (A:=l.take (n+1)) (B:=l.drop (n+1)) (fun y hy=> ?_) (fun y hy=>by have:=h y hy;rw[key_cmp.neg y t];omega)
    ·rw[List.take_append_drop] at this
     exact this.symm
    ·rw[zdf hx] at hy
     have hyx:zbJ y x<=0:=by
      rcases List.mem_append.1 hy with hy|hy
      ·have hs':=hs
       rw[<-List.take_append_drop n l,List.drop_eq_getElem_cons q1,q2] at hs'
       exact(List.pairwise_append.1 hs').2.2 y hy x List.mem_cons_self
      ·rw[List.mem_singleton] at hy
       rw[hy,key_cmp.self];omega
     have:=key_cmp.trans hyx (show zbJ x t<=0 by omega)
     have:=key_cmp.neg y t
     omega
 unfold insK
 exact key l.length (Nat.le_refl _) (by simp)
theorem zoV(l:List Tm):zbl l=isort zbJ l:=by
 suffices h:∀(l A:List Tm),Srt zbJ A->l.foldl insK A=l.foldl (fun s t=>insC zbJ t s) A from h l [] List.Pairwise.nil
 intro l
 induction l with
 |nil=>intro A _;rfl
 |cons t l ih=>
  intro A hA
  simp only[List.foldl_cons]
  rw[zu3 hA]
  exact ih _ (zm3 key_cmp hA t)
theorem zmp{l:List Tm}{p:Tm->Bool}(h:l.all p=true):(zbl l).all p=true:=
 List.all_eq_true.2 fun x hx=>List.all_eq_true.1 h x (((zdz l).1 x).1 hx)
theorem zrE(t:Tm)(hp:Heap):S 55 [.pv (some 4) t.pv] hp=some (.ret (.pv none (.bool (zaG t))),hp):=by
 refine zao rfl rfl rfl (zac [(some 4,t.pv)]) rfl ?_
 by_cases k1:t.kind=3
 ·have k1':=eq_true k1
  by_cases k2:t.name=[45]
  ·have k2':=eq_true k2
   by_cases k3:t.args.length=2
   ·have k3':=eq_true (show(t.args.length:Int)=2 by omega)
    have e:zaG t=true:=by simp[zaG,k1,k2,k3]
    simp -dsimp -implicitDefEqProofs only[go_sem,seval,↓reduceIte,zaj,zat,zad,Tm.pvs_len,k1',k2',k3',e]
    try rfl
   ·have k3':=eq_false (show ¬(t.args.length:Int)=2 by omega)
    have e:zaG t=false:=by simp[zaG,k3]
    simp -dsimp -implicitDefEqProofs only[go_sem,seval,↓reduceIte,zaj,zat,zad,Tm.pvs_len,k1',k2',k3',e]
    try rfl
  ·have k2':=eq_false k2
   have e:zaG t=false:=by simp[zaG,k2]
   simp -dsimp -implicitDefEqProofs only[go_sem,seval,↓reduceIte,zaj,zat,zad,Tm.pvs_len,k1',k2',e]
   try rfl
 ·have k1':=eq_false k1
  have e:zaG t=false:=by simp[zaG,k1]
  simp -dsimp -implicitDefEqProofs only[go_sem,seval,↓reduceIte,zaj,zat,zad,Tm.pvs_len,k1',e]
  try rfl
theorem ztx(l:List Tm)(hl:Tm.sizes l<100000000)(hp:Heap):S 18 [.pv none (.sl (some 4) (Tm.pvs l))] hp=some (.ret (.tuple [.pv none (.sl (some 4) (Tm.pvs (zbd l))),.pv none (.int .i64 (zcd l))]),hp):=by
 refine zao rfl rfl rfl (zac [(none,.sl (some 4) (Tm.pvs l))]) rfl ?_
 have hlen:=Tm.zwT l
 have h2:=fun hp=>zjw l (by omega) hp
 have hn0:∀H:Heap,zbD (some 4) H=some (.sl (some 4) H.length 0 0 0,H++[.arr (some 4) [] false]):=fun H=>zbH (sh:=some 4) (by decide)
 by_cases hv:zaN l=true
 ·simp -dsimp -implicitDefEqProofs only[go_sem,seval,↓reduceIte,h2,hv,hn0]
  refine za0 (fun n st=>∃i:Nat,n=l.length - i/\i<=l.length/\(l.take i).all zaG=true/\st=⟨[(0,.pv none (.sl (some 4) (Tm.pvs l))),(4,.pv none (.int .i64 i))],[.arr (some 4) [] false]⟩) (n:=l.length) ⟨0,rfl,Nat.zero_le _,rfl,rfl⟩ ?_
  rintro n st ⟨i,hn,hi,hall,rfl⟩
  by_cases h:i<l.length
  ·have hc:(i:Int)<(l.length:Int):=by omega
   obtain⟨x,hx⟩:∃x,l[i]? =some x:=⟨_,List.getElem?_eq_getElem h⟩
   have hm:=List.mem_of_getElem? hx
   have w2:IntKind.i64.wrap ((i:Int)+1)=((i+1:Nat):Int):=by rw[zan (by omega) (by omega)];omega
   have hpr:=zrE x
   cases hpx:zaG x with
   |true=>
    rw[hpx] at hpr
    simp -dsimp -implicitDefEqProofs only[go_sem,seval,↓reduceIte,Tm.pvs_len,hc,zab (Tm.pvs_get hx),hpr,w2]
    exact⟨l.length - (i+1),by omega,i+1,rfl,by omega,by rw[List.take_add_one,hx];simp[hall,hpx],rfl⟩
   |false=>
    rw[hpx] at hpr
    have ha:l.all zaG=false:=List.all_eq_false.2 ⟨x,hm,by simp[hpx]⟩
    have e1:zbd l=[]:=by unfold zbd;simp[ha]
    have e2:zcd l=3:=by unfold zcd;simp[hv,ha]
    simp -dsimp -implicitDefEqProofs only[go_sem,seval,↓reduceIte,Tm.pvs_len,hc,zab (Tm.pvs_get hx),hpr,hn0,e1,e2]
    try rfl
  ·have hc:¬(i:Int)<(l.length:Int):=by omega
   obtain rfl:i=l.length:=by omega
   rw[List.take_length] at hall
   have e1:zbd l=zbl l:=by unfold zbd;rw[if_pos ⟨hv,hall⟩,zoV]
   have e2:zcd l=0:=by unfold zcd;rw[if_pos hv,if_pos hall]
   simp -dsimp -implicitDefEqProofs only[go_sem,seval,↓reduceIte,Tm.pvs_len,hc,hn0]
   refine za0 (fun n st=>∃i:Nat,n=l.length - i/\i<=l.length/\((i=0/\st=⟨[(0,.pv none (.sl (some 4) (Tm.pvs l))),(5,.sl (some 4) 1 0 0 0),(6,.pv none (.int .i64 0))],[.arr (some 4) [] false,.arr (some 4) [] false]⟩)\/
   ∃fz,st=⟨[(0,.pv none (.sl (some 4) (Tm.pvs l))),(5,.pv none (.sl (some 4) (Tm.pvs (zbl (l.take i))))),(6,.pv none (.int .i64 i))],[.arr (some 4) [] false,.arr (some 4) [] fz]⟩)) (n:=l.length) ⟨0,rfl,Nat.zero_le _,.inl ⟨rfl,rfl⟩⟩ ?_
   rintro n st ⟨i,hn,hi,hst⟩
   by_cases h:i<l.length
   ·have hc:(i:Int)<(l.length:Int):=by omega
    obtain⟨x,hx⟩:∃x,l[i]? =some x:=⟨_,List.getElem?_eq_getElem h⟩
    have hm:=List.mem_of_getElem? hx
    have hsx:=Tm.zw2 hm
    have hst':=Tm.zwW l i
    have w2:IntKind.i64.wrap ((i:Int)+1)=((i+1:Nat):Int):=by rw[zan (by omega) (by omega)];omega
    have nx:insK (zbl (l.take i)) x=zbl (l.take (i+1)):=by rw[List.take_add_one,hx,<-zkX];rfl
    have hva:zaN (zbl (l.take i))=true:=zgs (List.all_eq_true.2 fun y hy=>List.all_eq_true.1 hv y (List.mem_of_mem_take hy))
    have hpa:(zbl (l.take i)).all zaG=true:=zmp (List.all_eq_true.2 fun y hy=>List.all_eq_true.1 hall y (List.mem_of_mem_take hy))
    have hpx:=List.all_eq_true.1 hall x hm
    rcases hst with⟨rfl,rfl⟩|⟨fz,rfl⟩
    ·have hcall:=zhz [] x [.sl (some 4) 1 0 0 0,.pv (some 4) x.pv,.pv none (.bool true)] [.arr (some 4) [] false,.arr (some 4) [] false] [.arr (some 4) [] false,.arr (some 4) [] true] rfl (by simp[Tm.sizes];omega) rfl (zbt hv hm) rfl hpx
     have hc:(0:Int)<(l.length:Int):=by omega
     have w1:IntKind.i64.wrap ((0:Int)+1)=((1:Nat):Int):=by rw[zan (by omega) (by omega)];rfl
     have nx':insK [] x=zbl (l.take 1):=nx
     simp -dsimp -implicitDefEqProofs only[go_sem,seval,↓reduceIte,Tm.pvs_len,hc,zaW (Tm.pvs_get hx),hcall,w1,nx']
     exact⟨l.length - 1,by omega,1,rfl,by omega,.inr ⟨true,rfl⟩⟩
    ·have hcall:=fun hp=>zhz (zbl (l.take i)) x [.pv none (.sl (some 4) (Tm.pvs (zbl (l.take i)))),.pv (some 4) x.pv,.pv none (.bool true)] hp hp (zac [(none,.sl (some 4) (Tm.pvs (zbl (l.take i)))),(some 4,x.pv),(none,.bool true)]) (by rw[(zdz _).2.1];omega) hva (zbt hv hm) hpa hpx
     simp -dsimp -implicitDefEqProofs only[go_sem,seval,↓reduceIte,Tm.pvs_len,hc,zab (Tm.pvs_get hx),hcall,w2,nx]
     exact⟨l.length - (i+1),by omega,i+1,rfl,by omega,.inr ⟨fz,rfl⟩⟩
   ·have hc:¬(i:Int)<(l.length:Int):=by omega
    obtain rfl:i=l.length:=by omega
    rcases hst with⟨h0,rfl⟩|⟨fz,rfl⟩
    ·have hnil:l=[]:=List.length_eq_zero_iff.1 h0
     subst hnil
     have hz:¬(0:Int)<((0:Nat):Int):=by decide
     simp -dsimp -implicitDefEqProofs only[go_sem,seval,↓reduceIte,Tm.pvs,hz,e1,e2]
     rfl
    ·rw[List.take_length]
     simp -dsimp -implicitDefEqProofs only[go_sem,seval,↓reduceIte,Tm.pvs_len,hc,e1,e2]
 ·have e1:zbd l=[]:=by unfold zbd;rw[if_neg (fun e=>hv e.1)]
  have e2:zcd l=1:=by unfold zcd;rw[if_neg hv]
  simp -dsimp -implicitDefEqProofs only[go_sem,seval,↓reduceIte,h2,hv,hn0,e1,e2]
  rfl
def vari(a b:Tm):Bool:=a.valid && (b.valid && decide ((canT a).cmp (canT b)=0))
theorem zr1{L:List Int}:∀t:Tm,t.fits=true->(Tm.sub (cPos L) t).size=t.size:=by
 intro t
 induction t using Tm.zwV with
 |h t ih=>
  intro hf
  rw[Tm.zw3]
  by_cases hk:t.kind=0
  ·rw[if_pos hk,za1 hf hk]
   rfl
  ·rw[if_neg hk,Tm.size_eq,t.size_eq]
   congr 1
   have hargs:∀u∈t.args,(Tm.sub (cPos L) u).size=u.size:=fun u hu=>ih u hu (Tm.zwU hf hu)
   show Tm.sizes (t.args.map (Tm.sub (cPos L)))=_
   generalize t.args=l at hargs
   clear ih
   induction l with
   |nil=>rfl
   |cons x r ihl=>
    rw[List.map_cons,Tm.sizes,Tm.sizes,hargs x List.mem_cons_self,ihl fun u hu=>hargs u (List.mem_cons_of_mem _ hu)]
theorem zk5{t:Tm}(h:t.valid=true):(canT t).size=t.size:=zr1 t (valid_fits h)
theorem zo2(a b:Tm)(hp:Heap)(ha:a.size<1000000000)(hb:b.size<1000000000):S 36 [a.av,b.av] hp=some (.ret (.pv none (.bool (vari a b))),hp):=by
 refine zao rfl rfl rfl (zac [(some 4,a.pv),(some 4,b.pv)]) rfl ?_
 have h1:=fun hp=>zci a hp ha
 have h2:=fun hp=>zci b hp hb
 simp only[Tm.av] at h1 h2
 unfold vari
 by_cases va:a.valid=true
 ·by_cases vb:b.valid=true
  ·have h4:=fun hp=>zm8 a hp ha
   have h5:=fun hp=>zm8 b hp hb
   have hs:=zk5 va
   have h3:=fun hp=>zrQ (canT a) (canT b) hp (by omega)
   rw[canR,if_pos va] at h4
   rw[canR,if_pos vb] at h5
   simp only[Tm.av] at h3 h4 h5
   (repeat' (first|(simp -dsimp -implicitDefEqProofs only[go_sem,seval,↓reduceIte, *])|(refine zax (fun _=> ?_) (fun _=> ?_))))
  ·(repeat' (first|(simp -dsimp -implicitDefEqProofs only[go_sem,seval,↓reduceIte, *])|(refine zax (fun _=> ?_) (fun _=> ?_))))
 ·(repeat' (first|(simp -dsimp -implicitDefEqProofs only[go_sem,seval,↓reduceIte, *])|(refine zax (fun _=> ?_) (fun _=> ?_))))
theorem ztJ(p key:Tm)(hp:zaG p=true)(H:Heap)(c:Nat)(hc:H[c]? =some (.box (some 4) (.pv (some 4) key.pv)))(h1:p.size<1000000000)(h2:key.size<1000000000):
  S 35 [p.av,.ptr c 0] H=some (.ret (.pv none (.bool (vari (zam p) key))),H):=by
 refine zaO rfl rfl rfl rfl ?_
 obtain⟨a,b,e⟩:=zd3 hp
 have e1:(Tm.pvs p.args)[0]? =some (zam p).pv:=Tm.pvs_get (by unfold zam;rw[e];rfl)
 have hk:=zcf hp
 have hks:=Tm.zwY hk
 have h3:=fun hp=>zo2 (zam p) key hp (by omega) h2
 have hcl:=zbI hc
 have hld:∀X:Heap,(H++X)[c]? =some (.box (some 4) (.pv (some 4) key.pv)):=fun X=>by rw[List.getElem?_append_left hcl];exact hc
 simp only[Tm.av] at h3
 simp -dsimp -implicitDefEqProofs only[go_sem,seval,↓reduceIte,Tm.av,zad,zaW e1,h3,hld,List.append_assoc,zah,zae,zai,zaf,Nat.add_assoc,List.length_append]
 simp[AV.refsIn]
theorem zk0{x:Int}:∀{l:List Int} {i:Nat},l[i]? =some x->(∀j,j<i->l[j]?≠some x)->l.idxOf x=i
 |[],_,h,_=>by simp at h
 |y::r,0,h,_=>by
  simp at h
  simp[h]
 |y::r,i+1,h,hn=>by
  have h0:=hn 0 (by omega)
  have hy:¬y=x:=fun e=>h0 (by simp[e])
  rw[List.idxOf_cons,beq_eq_false_iff_ne.2 hy]
  simp only[cond_false]
  rw[zk0 (l:=r) (i:=i) (by simpa using h) fun j hj=>by simpa using hn (j+1) (by omega)]
theorem zu6(l:List Int)(x:Int)(hl:l.length<1000000000)(hm:x∈l)(hp:Heap):S 137 [.pv none (.sl none (ints l)),.pv none (.int .i64 x)] hp=some (.ret (.pv none (.int .i64 ((l.idxOf x:Nat):Int))),hp):=by
 refine zao rfl rfl rfl (zac [(none,.sl none (ints l)),(none,.int .i64 x)]) rfl ?_
 simp -dsimp -implicitDefEqProofs only[go_sem,seval,↓reduceIte,za7]
 refine zbQ (α:=Unit) l.length (fun i _=>∀j,j<i->l[j]?≠some x) (fun i _=>⟨[(0,.pv none (.sl none (ints l))),(1,.pv none (.int .i64 x)),(5,.pv none (.int .i64 i))],[]⟩) () ⟨fun j hj=>by omega,rfl⟩ ?_ ?_
 ·rintro i - h hinv
  have hc:(i:Int)<(l.length:Int):=by omega
  obtain⟨b,hb⟩:∃b,l[i]? =some b:=⟨_,List.getElem?_eq_getElem h⟩
  have w2:IntKind.i64.wrap ((i:Int)+1)=((i+1:Nat):Int):=by rw[zan (by omega) (by omega)];omega
  by_cases hbx:b=x
  ·have hi:=zk0 (by rw[hb,hbx]) hinv
   simp -dsimp -implicitDefEqProofs only[go_sem,seval,↓reduceIte,za7,hc,zab (zc6 hb),hbx,hi]
  ·simp -dsimp -implicitDefEqProofs only[go_sem,seval,↓reduceIte,za7,hc,zab (zc6 hb),hbx,w2]
   refine⟨(),fun j hj=> ?_⟩
   rcases Nat.lt_or_ge j i with h|h
   ·exact hinv j h
   ·have:j=i:=by omega
    subst this
    rw[hb]
    intro e
    cases e
    exact hbx rfl
 ·rintro - hinv
  obtain⟨j,hlt,hj⟩:=List.getElem_of_mem hm
  exact absurd (by rw[List.getElem?_eq_getElem hlt,hj]) (hinv j hlt)
def appN(t:Tm)(ts:List Tm)(i:Nat):Heap:=[.box (some 4) (.pv (some 4) t.pv),.box (some 4) (.agg [(none,.pv none (.int .i64 0)),(none,.pv none (.int .i64 0)),(none,.pv none (.str [])),(none,.sl (some 4) 2 0 0 0)]),.arr (some 4) [] false,.box (some 4) (.agg [(none,.pv none (.int .i64 t.kind)),(none,.pv none (.int .i64 t.n)),(none,.pv none (.str t.name)),(none,.sl (some 4) 5 i 0 i)]),.arr (some 4) [] false,.arr (some 4) (Tm.pvs (ts.take i)) false]
theorem zrN(L:List Int)(hL:L.length<100000000):∀(t:Tm) (hp:Heap),t.fits=true->t.size<1000000000->(∀w∈t.occ,w∈L)->S 126 [.pv none (.sl none (ints L)),t.av] hp=some (.ret (Tm.sub (cPos L) t).av,hp):=by
 intro t
 induction t using Tm.zwV with
 |h t ih=>
  intro hp hf ht ho
  have hts:=t.size_eq
  have hlen:=Tm.zwT t.args
  refine zao rfl rfl rfl (zac [(none,.sl none (ints L)),(some 4,t.pv)]) rfl ?_
  have hb:zaY [(none,.pv none (.int .i64 0)),(none,.pv none (.int .i64 0)),(none,.pv none (.str [])),(none,.tsl (some 4) [])] [0,1,2] [.pv none (.int .i64 t.kind),.pv none (.int .i64 t.n),.pv none (.str t.name)]=some (.agg [(none,.pv none (.int .i64 t.kind)),(none,.pv none (.int .i64 t.n)),(none,.pv none (.str t.name)),(none,.tsl (some 4) [])]):=rfl
  by_cases hk:t.kind=0
  ·have hk':=eq_true hk
   have hm:t.n∈L:=ho _ (by rw[Tm.zw1,if_pos hk];simp)
   have hpos:=fun hp=>zu6 L t.n (by omega) hm hp
   have ha:t.args=[]:=by rw[za1 hf hk];rfl
   have hnm:t.name=[]:=by rw[za1 hf hk];rfl
   have e:Tm.sub (cPos L) t=tvar (L.idxOf t.n:Nat):=by rw[Tm.zw3,if_pos hk];rfl
   rw[e]
   generalize ((L.idxOf t.n:Nat):Int)=k at hpos ⊢
   simp -dsimp -implicitDefEqProofs only[go_sem,seval,↓reduceIte,Tm.av,zaj,zav,zat,zad,Tm.pvs_len,hk',hb,hpos,zag (Nat.zero_le _)]
   refine zbQ (α:=Unit) 0 (fun _ _=>True) (fun i _=>⟨[(0,.pv none (.sl none (ints L))),(3,.ptr 0 0),(4,.ptr 1 0),(5,.ptr 3 0),(6,.pv none (.int .i64 i))],[.box (some 4) (.pv (some 4) t.pv),.box (some 4) (.agg [(none,.pv none (.int .i64 0)),(none,.pv none (.int .i64 0)),(none,.pv none (.str [])),(none,.sl (some 4) 2 0 0 0)]),.arr (some 4) [] false,.box (some 4) (.agg [(none,.pv none (.int .i64 t.kind)),(none,.pv none (.int .i64 k)),(none,.pv none (.str t.name)),(none,.sl (some 4) 5 0 0 0)]),.arr (some 4) [] false,.arr (some 4) [] false]⟩) () ⟨trivial,rfl⟩ ?_ ?_
   ·rintro i - h -
    omega
   ·rintro - -
    have hc:¬(0:Int)<(t.args.length:Int):=by rw[ha];simp
    simp -dsimp -implicitDefEqProofs only[go_sem,seval,↓reduceIte,zad,Tm.pvs_len,hc,zay,zag (Nat.zero_le _),zaX (Nat.zero_le _)]
    rw[hk,hnm]
    exact zfW _ _ _ [] _ rfl rfl
  ·have hk':=eq_false hk
   rw[zhm hk]
   obtain⟨ts',hts'⟩:∃ts',ts'=t.args.map (Tm.sub (cPos L)):=⟨_,rfl⟩
   have htl:ts'.length=t.args.length:=by rw[hts',List.length_map]
   rw[<-hts']
   simp -dsimp -implicitDefEqProofs only[go_sem,seval,↓reduceIte,Tm.av,zaj,zav,zat,zad,Tm.pvs_len,hk',hb,zag (Nat.zero_le _)]
   refine zbQ (α:=Unit) t.args.length (fun _ _=>True) (fun i _=>⟨[(0,.pv none (.sl none (ints L))),(3,.ptr 0 0),(4,.ptr 1 0),(5,.ptr 3 0),(6,.pv none (.int .i64 i))],appN t ts' i⟩) () ⟨trivial,rfl⟩ ?_ ?_
   ·rintro i - h -
    have hc:(i:Int)<(t.args.length:Int):=by omega
    obtain⟨u,hu⟩:∃u,t.args[i]? =some u:=⟨_,List.getElem?_eq_getElem h⟩
    have hum:=List.mem_of_getElem? hu
    have husz:=Tm.zwY hum
    have hcall:=fun hp=>ih u hum hp (Tm.zwU hf hum) (by omega) fun w hw=>ho w (Tm.zxc hk hum hw)
    simp only[Tm.av] at hcall
    have w2:IntKind.i64.wrap ((i:Int)+1)=((i+1:Nat):Int):=by rw[zan (by omega) (by omega)];omega
    have hl:(Tm.pvs (ts'.take i)).length=i:=by rw[Tm.pvs_len,List.length_take];omega
    have hlim:i+1<=lim:=by unfold lim;omega
    have hus:ts'[i]? =some (Tm.sub (cPos L) u):=by rw[hts'];simp[hu]
    simp -dsimp -implicitDefEqProofs only[go_sem,seval,↓reduceIte,appN,zad,Tm.pvs_len,hc,zab (Tm.pvs_get hu),hcall,w2,hl,hlim,Tm.zwX hus,zag (Nat.zero_le _),zaX (Nat.zero_le _)]
    exact⟨(),rfl⟩
   ·rintro - -
    have hc:¬(t.args.length:Int)<(t.args.length:Int):=by omega
    have htk:ts'.take t.args.length=ts':=List.take_of_length_le (by omega)
    simp -dsimp -implicitDefEqProofs only[go_sem,seval,↓reduceIte,appN,zad,Tm.pvs_len,hc,htk,zay,zag (Nat.zero_le _),zaX (Nat.zero_le _)]
    exact zfW _ _ _ (Tm.pvs ts') _ (by rw[Tm.pvs_len,htl]) rfl
theorem zrO{s:AV}{H:Heap}{l:List Int}(h:IsV s H l):s.alone H=some (.pv none (.sl none (ints l))):=by
 rcases h with⟨rfl,rfl⟩|⟨r,rfl,h⟩
 ·rfl
 ·simp[AV.alone,AV.bare,AV.freeze,deep,h,za7,AV.shp]
theorem zk1(t:Tm)(hp:Heap)(ht:t.size<1000000000):S 90 [t.av] hp=some (.ret (canR t).av,hp):=by
 refine zao rfl rfl rfl (zac [(some 4,t.pv)]) rfl ?_
 have h1:=fun hp=>zbK t hp ht
 unfold canR
 by_cases hv:t.valid=true
 ·rw[if_pos hv]
  have hsz:=valid_size hv
  obtain⟨s',H',hcall,hI,_,_⟩:=ztK t (.tsl none []) [] [] (.inl ⟨rfl,rfl⟩) (valid_fits hv) (by simp;omega)
  have ha:=zrO hI
  have hll:=zfv t.occ []
  have hol:=Tm.occ_len t
  have hnum:=fun hp=>zrN (vads [] t.occ) (by simp only[List.length_nil] at hll;omega) t hp (valid_fits hv) ht fun w hw=>(znq t.occ [] w).2 (.inr hw)
  rw[hv] at h1
  have e:Tm.sub (cPos (vads [] t.occ)) t=canT t:=rfl
  rw[e] at hnum
  generalize canT t=c at hnum ⊢
  generalize vads [] t.occ=l at*
  simp only[Tm.av] at h1 hcall hnum
  simp -dsimp -implicitDefEqProofs only[go_sem,seval,↓reduceIte,Tm.av,h1,hcall,ha,hnum,zag (Nat.zero_le _)]
 ·rw[if_neg hv]
  have hv':t.valid=false:=by simpa using hv
  rw[hv'] at h1
  simp only[Tm.av] at h1
  have hb0:zaY [(none,.pv none (.int .i64 0)),(none,.pv none (.int .i64 0)),(none,.pv none (.str [])),(none,.tsl (some 4) [])] [] []=some (.agg [(none,.pv none (.int .i64 0)),(none,.pv none (.int .i64 0)),(none,.pv none (.str [])),(none,.tsl (some 4) [])]):=rfl
  simp -dsimp -implicitDefEqProofs only[go_sem,seval,↓reduceIte,Tm.av,h1,hb0,zag (Nat.zero_le _),zt]
  exact⟨_,rfl⟩
theorem zms(a b:Tm)(hp:Heap)(ha:a.size<1000000000)(hb:b.size<1000000000):S 39 [a.av,b.av] hp=some (.ret (.pv none (.bool (vari a b))),hp):=by
 refine zao rfl rfl rfl (zac [(some 4,a.pv),(some 4,b.pv)]) rfl ?_
 have h1:=fun hp=>zbK a hp ha
 have h2:=fun hp=>zbK b hp hb
 simp only[Tm.av] at h1 h2
 unfold vari
 by_cases va:a.valid=true
 ·by_cases vb:b.valid=true
  ·have h4:=fun hp=>zk1 a hp ha
   have h5:=fun hp=>zk1 b hp hb
   have hs:=zk5 va
   have h3:=fun hp=>zk2 (canT a) (canT b) hp (by omega)
   rw[canR,if_pos va] at h4
   rw[canR,if_pos vb] at h5
   simp only[Tm.av] at h3 h4 h5
   (repeat' (first|(simp -dsimp -implicitDefEqProofs only[go_sem,seval,↓reduceIte, *])|(refine zax (fun _=> ?_) (fun _=> ?_))))
  ·(repeat' (first|(simp -dsimp -implicitDefEqProofs only[go_sem,seval,↓reduceIte, *])|(refine zax (fun _=> ?_) (fun _=> ?_))))
 ·(repeat' (first|(simp -dsimp -implicitDefEqProofs only[go_sem,seval,↓reduceIte, *])|(refine zax (fun _=> ?_) (fun _=> ?_))))
theorem uniV{V:List Int}:∀(n:Nat) (l:List B) (r:List (Tm × Tm)),OKB l->(∀p∈r,p.1.valid=true/\p.2.valid=true)->InVB V l->(∀p∈r,InV V p.1/\InV V p.2)->InVB V (uni n l r).1
 |n,l,[],_,_,hl,_=>by rw[zfY];exact hl
 |0,l,p::r,_,_,_,_=>by rw[zgE];exact fun b hb=>by cases hb
 |n+1,l,p::r,hO,hr,hl,hp=>by
  have hv:=hr p List.mem_cons_self
  have hi:=hp p List.mem_cons_self
  have hx:=zbv hO hv.1
  have hy:=zbv hO hv.2
  have ix:=InV.flw hO hl _ _ rfl hv.1 hi.1
  have iy:=InV.flw hO hl _ _ rfl hv.2 hi.2
  have hr2:=fun q hq=>hr q (List.mem_cons_of_mem _ hq)
  have hp2:=fun q hq=>hp q (List.mem_cons_of_mem _ hq)
  cases e:ustep l (flw l p.1) (flw l p.2) with
  |err e'=>rw[zju r e];exact fun b hb=>by cases hb
  |bind v t=>
   rw[zeq r e]
   obtain⟨b1,b2,b3,b4⟩:=zdg hO hx hy e
   refine uniV n (insB l v t) r (zhH hO b1 b2 b3 b4) hr2 (fun b hb=> ?_) hp2
   rcases zdy hb with rfl|h
   ·exact zhv ix iy e
   ·exact hl b h
  |args xs=>
   rw[zcj r e]
   exact uniV n l (xs++r) hO (fun q hq=>(List.mem_append.1 hq).elim ((zfZ hx hy e).1 q) (hr2 q)) hl fun q hq=>(List.mem_append.1 hq).elim (zhw ix iy e q) (hp2 q)
theorem zvM{V:List Int}{l:List B}{a b:Tm}(hl:InVB V l)(ha:InV V a)(hb:InV V b):InVB V (unR l a b).1:=by
 unfold unR
 split
 ·rename_i h
  refine uniV _ _ _ (okb_iff.1 h.1) (fun p hp=> ?_) hl fun p hp=> ?_
  ·rw[List.mem_singleton] at hp;rw[hp];exact h.2
  ·rw[List.mem_singleton] at hp;rw[hp];exact⟨ha,hb⟩
 ·exact fun b hb=>by cases hb
theorem zme(l:List B)(a b:Tm):OKB (unR l a b).1:=by
 unfold unR
 split
 ·rename_i h
  refine(zrZ _ _ _ (okb_iff.1 h.1) fun p hp=> ?_).1
  rw[List.mem_singleton] at hp;rw[hp];exact h.2
 ·exact zeK
def zbk(t:Tm):Tm:=(t.args[1]?).getD (.mk 0 0 [] [])
def prT(k t:Tm):Tm:=.mk 3 0 [45] [k,t]
noncomputable def gU(key:Tm):List B->List Tm->Option (List B)
 |s,[]=>some s
 |s,p::r=>if(unR s (zam p) key).2=0 then gU key (unR s (zam p) key).1 r else none
noncomputable def grp(p:Tm)(r:List Tm):Option Tm:=
 match gU (zam p) [] r with
 |none=>none
 |some s=>if(rsR s (zam p)).2=0/\(∀t∈p::r,(rsR s (zbk t)).2=0)/\(prT (rsR s (zam p)).1 (lst ((p::r).map fun t=>(rsR s (zbk t)).1))).size<=2000 then some (prT (rsR s (zam p)).1 (lst ((p::r).map fun t=>(rsR s (zbk t)).1))) else none
def zth:Option Tm->Option (List Tm)->Option (List Tm)
 |none,_=>none
 |some t,g=>g.map (t::·)
noncomputable def grps:Nat->List Tm->Option (List Tm)
 |_,[]=>some []
 |0,_::_=>some []
 |n+1,p::r=>zth (grp p (r.filter fun q=>vari (zam q) (zam p))) (grps n (r.filter fun q=> !vari (zam q) (zam p)))
def ofG:Option (List Tm)->List Tm × Int
 |some l=>(l,0)
 |none=>([],2)
noncomputable def zby(ts:List Tm):List Tm × Int:=if zcd ts=0 then ofG (grps (zbd ts).length (zbd ts)) else([],zcd ts)
theorem zho{s:List B}{t:Tm}(h:(rsR s t).2=0):(rsR s t).1.valid=true/\(rsR s t).1.size<=2000:=by
 unfold rsR at h ⊢
 split
 ·rename_i hc
  rw[if_pos hc] at h
  split
  ·rename_i hz
   exact⟨zgD (zu7 (okb_iff.1 hc.1) _ t rfl (valid_fits hc.2)) hz,hz⟩
  ·rename_i hz
   rw[if_neg hz] at h
   cases h
 ·rename_i hc
  rw[if_neg hc] at h
  cases h
theorem zhp:∀l:List Tm,(∀t∈l,t.fits=true)->(lst l).fits=true
 |[],_=>by decide
 |x::r,h=>by
  have ih:=zhp r fun w hw=>h w (List.mem_cons_of_mem _ hw)
  have hv:=h x List.mem_cons_self
  show(zji x (lst r)).fits=true
  simp[zji,Tm.fits,Tm.fitsAll,Tm.node,ih,hv,Tm.kind,Tm.n,Tm.name,Tm.args]
theorem zhq:∀(l:List Tm) (m:Nat),(∀t∈l,t.size<=m)->(lst l).size<=(m+1)*l.length+1
 |[],_,_=>by show 1<=_;omega
 |x::r,m,h=>by
  have ih:=zhq r m fun w hw=>h w (List.mem_cons_of_mem _ hw)
  have hx:=h x List.mem_cons_self
  show 1+(x.size+((lst r).size+0))<=(m+1)*(r.length+1)+1
  rw[Nat.mul_succ]
  omega
theorem znf{k t:Tm}(hk:k.fits=true)(ht:t.fits=true):(prT k t).fits=true:=by
 simp[prT,Tm.fits,Tm.fitsAll,Tm.node,hk,ht,Tm.kind,Tm.n,Tm.name,Tm.args]
theorem zkM{p:Tm}{r:List Tm}{t:Tm}(h:grp p r=some t):t.valid=true:=by
 unfold grp at h
 split at h
 ·cases h
 ·rename_i s _
  split at h
  ·rename_i hc
   cases h
   refine zgD (znf (valid_fits (zho hc.1).1) (zhp _ fun x hx=> ?_)) hc.2.2
   obtain⟨q,hq,rfl⟩:=List.mem_map.1 hx
   exact valid_fits (zho (hc.2.1 q hq)).1
  ·cases h
theorem ziq:∀(n:Nat) (l:List Tm) (g:List Tm),grps n l=some g->∀t∈g,t.valid=true
 |_,[],g,h=>by rw[grps] at h;cases h;exact fun t ht=>by cases ht
 |0,_::_,g,h=>by rw[grps] at h;cases h;exact fun t ht=>by cases ht
 |n+1,p::r,g,h=>by
  rw[grps] at h
  cases ht:grp p (r.filter fun q=>vari (zam q) (zam p)) with
  |none=>rw[ht] at h;cases h
  |some t=>
   rw[ht] at h
   cases e:grps n (r.filter fun q=> !vari (zam q) (zam p)) with
   |none=>rw[e] at h;cases h
   |some g'=>
    rw[e] at h
    cases h
    intro u hu
    rcases List.mem_cons.1 hu with rfl|hu
    ·exact zkM ht
    ·exact ziq n _ g' e u hu
theorem zjk(ts:List Tm):∀t∈(zby ts).1,t.valid=true:=by
 unfold zby
 split
 ·cases h:grps (zbd ts).length (zbd ts) with
  |some l=>exact ziq _ _ _ h
  |none=>exact fun t ht=>by cases ht
 ·exact fun t ht=>by cases ht
def swp(p:Tm × Tm):Tm × Tm:=(p.2,p.1)
def shp(t:Tm):Tm:=Tm.sub (fun _=>tvar 0) t
theorem zuR(f g:Int->Tm):∀t:Tm,Tm.sub f (Tm.sub g t)=Tm.sub (fun v=>Tm.sub f (g v)) t:=by
 intro t
 induction t using Tm.zwV with
 |h t ih=>
  rw[Tm.zw3 g t,Tm.zw3 (fun v=>Tm.sub f (g v)) t]
  by_cases hk:t.kind=0
  ·rw[if_pos hk,if_pos hk]
  ·rw[if_neg hk,if_neg hk,Tm.zw3,if_neg (by exact hk)]
   show Tm.mk t.kind t.n t.name ((t.args.map (Tm.sub g)).map (Tm.sub f))=_
   rw[List.map_map]
   congr 1
   exact List.map_congr_left fun u hu=>ih u hu
theorem zrj(t:Tm):shp (canT t)=shp t:=zuR _ _ t
theorem zti{a b:Tm}(h:vari a b=true):shp a=shp b:=by
 unfold vari at h
 simp only[Bool.and_eq_true,decide_eq_true_eq] at h
 rw[<-zrj a,<-zrj b,Tm.cmp_zero.1 h.2.2]
theorem zoI{a b:Tm}(h:vari a b=true):a.valid=true/\b.valid=true:=by
 unfold vari at h
 simp only[Bool.and_eq_true] at h
 exact⟨h.1,h.2.1⟩
theorem zkN(a b:Tm):vari a b=vari b a:=by
 have h:∀x y:Tm,decide (x.cmp y=0)=decide (y.cmp x=0):=fun x y=>by
  rw[Bool.eq_iff_iff,decide_eq_true_eq,decide_eq_true_eq,Tm.cmp_zero,Tm.cmp_zero]
  exact eq_comm
 unfold vari
 rw[h (canT a) (canT b)]
 cases a.valid <;> cases b.valid <;> rfl
theorem zgB{t:Tm}:(shp t).kind=t.kind:=by
 unfold shp
 rw[Tm.zw3]
 split
 ·rename_i h;rw[h];rfl
 ·rfl
theorem zrk{t:Tm}(hk:¬t.kind=0):shp t=.mk t.kind t.n t.name (t.args.map shp):=by
 unfold shp
 rw[Tm.zw3,if_neg hk]
def VV(l:List B):Prop:=∀b∈l,b.2.kind=0
theorem ztX{l:List B}(hO:OKB l)(hv:VV l):∀(k:Nat) (t:Tm),mu l t=k->t.valid=true->t.kind=0->(flw l t).kind=0:=by
 intro k
 induction k using Nat.strongRecOn with
 |_ k ih=>
  intro t hk hval hk0
  by_cases hf:fndB l t.n=true
  ·rw[zhF hO.Acyc hk0 hf]
   have:=zes hO.Acyc hk0 hf
   exact ih _ (by omega) _ rfl (hO.to hf).1 (hv _ (find_mem hf))
  ·rw[zdA hO.Acyc (valid_fits hval) hk0 hf];exact hk0
def wsum(r:List (Tm × Tm)):Nat:=(r.map fun p=>p.1.size).sum
theorem zng:∀(a b:List Tm),a.length=b.length->wsum (a.zip b)=Tm.sizes a
 |[],[],_=>rfl
 |x::a,y::b,h=>by
  have ih:=zng a b (by simpa using h)
  unfold wsum at ih ⊢
  simp only[List.zip_cons_cons,List.map_cons,List.sum_cons,ih,Tm.sizes]
 |[],_::_,h=>by cases h
theorem zrl:∀{a b:List Tm},a.map shp=b.map shp->∀p∈a.zip b,shp p.1=shp p.2
 |[],_,_,p,hp=>by simp at hp
 |x::a,[],h,p,hp=>by simp at hp
 |x::a,y::b,h,p,hp=>by
  simp only[List.map_cons,List.cons.injEq] at h
  rw[List.zip_cons_cons] at hp
  rcases List.mem_cons.1 hp with rfl|hp
  ·exact h.1
  ·exact zrl h.2 p hp
theorem znh:∀(n:Nat) (l:List B) (r:List (Tm × Tm)),OKB l->VV l->(∀p∈r,(p.1.valid=true/\p.2.valid=true)/\shp p.1=shp p.2)->wsum r<=n->∃l',uni n l r=(l',0)/\uni n l (r.map swp)=(l',0)/\VV l'
 |n,l,[],_,hv,_,_=>⟨l,zfY n l,zfY n l,hv⟩
 |0,l,p::r,_,_,_,hw=>by
  have:=p.1.size_eq
  unfold wsum at hw
  simp only[List.map_cons,List.sum_cons] at hw
  omega
 |n+1,l,p::r,hO,hv,hr,hw=>by
  obtain⟨⟨v1,v2⟩,hs⟩:=hr p List.mem_cons_self
  have hr2:=fun q hq=>hr q (List.mem_cons_of_mem _ hq)
  have hx:=zbv hO v1
  have hy:=zbv hO v2
  have hsz:=p.1.size_eq
  have hws:wsum (p::r)=p.1.size+wsum r:=by unfold wsum;simp
  rw[List.map_cons]
  by_cases hk:p.1.kind=0
  ·have hk2:p.2.kind=0:=by rw[<-zgB,<-hs,zgB];exact hk
   have fx:=ztX hO hv _ _ rfl v1 hk
   have fy:=ztX hO hv _ _ rfl v2 hk2
   have bnd:∀{v:Int} {t:Tm},ustep l (flw l p.1) (flw l p.2)=.bind v t->ustep l (flw l p.2) (flw l p.1)=.bind v t->t.kind=0->∃l',uni (n+1) l (p::r)=(l',0)/\uni (n+1) l (swp p::r.map swp)=(l',0)/\VV l':=fun{v t} e e' ht=>by
    obtain⟨b1,b2,b3,b4⟩:=zdg hO hx hy e
    obtain⟨l',h1,h2,h3⟩:=znh n (insB l v t) r (zhH hO b1 b2 b3 b4) (fun b hb=>by
     rcases zdy hb with rfl|h
     ·exact ht
     ·exact hv b h) hr2 (by omega)
    exact⟨l',by rw[zeq r e];exact h1,by rw[zeq (p:=swp p) (r.map swp) e'];exact h2,h3⟩
   by_cases h1:(flw l p.2).n<(flw l p.1).n
   ·have h2:¬(flw l p.1).n<(flw l p.2).n:=by omega
    refine bnd (v:=(flw l p.1).n) (t:=flw l p.2) ?_ ?_ fy
    ·unfold ustep;rw[if_pos ⟨fx,fy⟩,if_pos h1]
    ·unfold ustep;rw[if_pos ⟨fy,fx⟩,if_neg h2,if_pos h1]
   ·by_cases h2:(flw l p.1).n<(flw l p.2).n
    ·refine bnd (v:=(flw l p.2).n) (t:=flw l p.1) ?_ ?_ fx
     ·unfold ustep;rw[if_pos ⟨fx,fy⟩,if_neg h1,if_pos h2]
     ·unfold ustep;rw[if_pos ⟨fy,fx⟩,if_pos h2]
    ·have e:ustep l (flw l p.1) (flw l p.2)=.args []:=by unfold ustep;rw[if_pos ⟨fx,fy⟩,if_neg h1,if_neg h2]
     have e':ustep l (flw l p.2) (flw l p.1)=.args []:=by unfold ustep;rw[if_pos ⟨fy,fx⟩,if_neg h2,if_neg h1]
     obtain⟨l',h3,h4,h5⟩:=znh n l r hO hv hr2 (by omega)
     exact⟨l',by rw[zcj r e];exact h3,by rw[zcj (p:=swp p) (r.map swp) e'];exact h4,h5⟩
  ·have hk2:¬p.2.kind=0:=by rw[<-zgB,<-hs,zgB];exact hk
   have hs2:=hs
   rw[zrk hk,zrk hk2] at hs2
   injection hs2 with s1 s2 s3 s4
   have s5:p.1.args.length=p.2.args.length:=by have:=congrArg List.length s4;simpa using this
   have f1:=zd4 l hk
   have f2:=zd4 l hk2
   have e:ustep l (flw l p.1) (flw l p.2)=.args (p.1.args.zip p.2.args):=by rw[f1,f2];unfold ustep;rw[if_neg (fun h=>hk h.1),if_neg hk,if_neg hk2,if_pos ⟨s1,s2,s3,s5⟩]
   have e':ustep l (flw l p.2) (flw l p.1)=.args (p.2.args.zip p.1.args):=by rw[f1,f2];unfold ustep;rw[if_neg (fun h=>hk2 h.1),if_neg hk2,if_neg hk,if_pos ⟨s1.symm,s2.symm,s3.symm,s5.symm⟩]
   have ez:p.2.args.zip p.1.args=(p.1.args.zip p.2.args).map swp:=by
    have key:∀a b:List Tm,b.zip a=(a.zip b).map swp:=fun a=>by
     induction a with
     |nil=>intro b;cases b <;> rfl
     |cons x r ih=>
      intro b
      cases b with
      |nil=>rfl
      |cons y s=>simp only[List.zip_cons_cons,List.map_cons,ih];rfl
    exact key _ _
   have hwz:wsum (p.1.args.zip p.2.args++r)=Tm.sizes p.1.args+wsum r:=by
    rw[<-zng p.1.args p.2.args s5]
    unfold wsum
    rw[List.map_append,List.sum_append]
   obtain⟨l',h3,h4,h5⟩:=znh n l (p.1.args.zip p.2.args++r) hO hv (fun q hq=>by
    rcases List.mem_append.1 hq with hq|hq
    ·have:=List.of_mem_zip hq
     exact⟨⟨zaR v1 this.1,zaR v2 this.2⟩,zrl s4 q hq⟩
    ·exact hr2 q hq) (by omega)
   refine⟨l',by rw[zcj r e];exact h3,?_,h5⟩
   rw[zcj (p:=swp p) (r.map swp) e',ez,<-List.map_append]
   exact h4
theorem zvN{l:List B}(hO:OKB l)(hv:VV l){a b:Tm}(h:vari a b=true):∃l',unR l a b=(l',0)/\unR l b a=(l',0)/\VV l'/\OKB l':=by
 obtain⟨va,vb⟩:=zoI h
 obtain⟨l',h1,h2,h3⟩:=znh 1048576 l [(a,b)] hO hv (fun p hp=>by
  rw[List.mem_singleton] at hp
  rw[hp]
  exact⟨⟨va,vb⟩,zti h⟩) (by
  have:=valid_size va
  show a.size+0<=_
  omega)
 have e1:unR l a b=(l',0):=by unfold unR;rw[if_pos ⟨okb_iff.2 hO,va,vb⟩];exact h1
 have e2:unR l b a=(l',0):=by unfold unR;rw[if_pos ⟨okb_iff.2 hO,vb,va⟩];exact h2
 have:=zme l a b
 rw[e1] at this
 exact⟨l',e1,e2,h3,this⟩
noncomputable def zcS(w:Tm):List B->List Tm->List B
 |s,[]=>s
 |s,q::r=>zcS w (unR s w (zam q)).1 r
theorem zir(w:Tm)(q:Tm):∀(r:List Tm) (s:List B),zcS w s (r++[q])=(unR (zcS w s r) w (zam q)).1
 |[],s=>rfl
 |x::r,s=>zir w q r _
theorem zvO(w:Tm):∀(r:List Tm) (s:List B),OKB s->VV s->(∀q∈r,vari (zam q) w=true)->gU w s r=some (zcS w s r)/\OKB (zcS w s r)/\VV (zcS w s r)
 |[],s,hO,hv,_=>⟨rfl,hO,hv⟩
 |q::r,s,hO,hv,h=>by
  obtain⟨l',e1,e2,h3,h4⟩:=zvN hO hv (h q List.mem_cons_self)
  rw[gU,zcS,e1,e2,if_pos rfl]
  exact zvO w r l' h4 h3 fun x hx=>h x (List.mem_cons_of_mem _ hx)
theorem zis{l:List B}(hO:OKB l)(hv:VV l):∀(k:Nat) (t:Tm),mu l t=k->t.fits=true->(rs l t).size=t.size:=by
 intro k
 induction k using Nat.strongRecOn with
 |_ k ih=>
  intro t hk hf
  by_cases hk0:t.kind=0
  ·have ht:t.size=1:=by rw[za1 hf hk0];rfl
   by_cases hfd:fndB l t.n=true
   ·rw[zhD hO.Acyc hk0,if_pos hfd]
    have h1:=zes hO.Acyc hk0 hfd
    have h2:=valid_fits (hO.to hfd).1
    rw[ih _ (by omega) _ rfl h2,ht,za1 h2 (hv _ (find_mem hfd))]
    rfl
   ·rw[zfX hO.Acyc hf hk0 hfd]
  ·rw[zft l hk0,Tm.size_eq,t.size_eq]
   congr 1
   show Tm.sizes (t.args.map (rs l))=_
   have hargs:∀u∈t.args,(rs l u).size=u.size:=fun u hu=>ih _ (by have:=zfs l hk0 hu;omega) u rfl (Tm.zwU hf hu)
   generalize t.args=ts at hargs
   induction ts with
   |nil=>rfl
   |cons x r ihl=>rw[List.map_cons,Tm.sizes,Tm.sizes,hargs x List.mem_cons_self,ihl fun u hu=>hargs u (List.mem_cons_of_mem _ hu)]
theorem ztY(l:List B):∀ts:List Tm,rs l (lst ts)=lst (ts.map (rs l))
 |[]=>zft l (by decide)
 |x::r=>by
  show rs l (zji x (lst r))=zji (rs l x) (lst (r.map (rs l)))
  rw[<-ztY l r]
  exact zft l (by show ¬(3:Int)=0;decide)
theorem zvP(l:List B)(k t:Tm):rs l (prT k t)=prT (rs l k) (rs l t):=zft l (by show ¬(3:Int)=0;decide)
theorem zni{l:List B}(hO:OKB l)(hv:VV l){t:Tm}(h:t.valid=true):rsR l t=(rs l t,0):=by
 unfold rsR
 rw[if_pos ⟨okb_iff.2 hO,h⟩,if_pos (by rw[zis hO hv _ t rfl (valid_fits h)];exact valid_size h)]
def grpT(p:Tm)(r:List Tm):Tm:=prT (zam p) (lst ((p::r).map zbk))
theorem zfT{t:Tm}(h:zaG t=true)(hv:t.valid=true):(zbk t).valid=true:=by
 obtain⟨a,b,e⟩:=zd3 h
 exact zaR hv (by unfold zbk;rw[e];simp)
theorem zkO{p:Tm}{r:List Tm}(hp:∀q∈p::r,zaG q=true/\q.valid=true):(grpT p r).fits=true:=by
 have h0:=hp p List.mem_cons_self
 refine znf (valid_fits (zaR h0.2 (zcf h0.1))) (zhp _ fun t ht=> ?_)
 obtain⟨q,hq,rfl⟩:=List.mem_map.1 ht
 exact valid_fits (zfT (hp q hq).1 (hp q hq).2)
theorem zvQ{p:Tm}{r:List Tm}(hp:∀q∈p::r,zaG q=true/\q.valid=true)(hv:∀q∈r,vari (zam q) (zam p)=true):
  OKB (zcS (zam p) [] r)/\VV (zcS (zam p) [] r)/\grp p r=if(grpT p r).valid=true then some (rs (zcS (zam p) [] r) (grpT p r)) else none:=by
 obtain⟨h1,h2,h3⟩:=zvO (zam p) r [] zeK (fun b hb=>by cases hb) hv
 refine⟨h2,h3,?_⟩
 unfold grp
 rw[h1]
 dsimp only
 generalize zcS (zam p) [] r=s at*
 have h0:=hp p List.mem_cons_self
 have hk:=zaR h0.2 (zcf h0.1)
 have hit:∀q∈p::r,rsR s (zbk q)=(rs s (zbk q),0):=fun q hq=>zni h2 h3 (zfT (hp q hq).1 (hp q hq).2)
 have hmap:((p::r).map fun t=>(rsR s (zbk t)).1)=((p::r).map zbk).map (rs s):=by
  rw[List.map_map]
  exact List.map_congr_left fun q hq=>by rw[hit q hq];rfl
 have e1:prT (rsR s (zam p)).1 (lst ((p::r).map fun t=>(rsR s (zbk t)).1))=rs s (grpT p r):=by
  rw[zni h2 h3 hk,hmap,<-ztY,grpT,zvP]
 rw[e1,zis h2 h3 _ _ rfl (zkO hp)]
 have hf:=zkO hp
 by_cases hz:(grpT p r).size<=2000
 ·rw[if_pos ⟨by rw[zni h2 h3 hk],fun t ht=>by rw[hit t ht],hz⟩,if_pos (zgD hf hz)]
 ·rw[if_neg (fun h=>hz h.2.2),if_neg (fun h=>hz (valid_size h))]
def GrpV(o:Option Tm)(v:AV):Prop:=match o with
 |some t=>v=.tuple [t.av,.pv none (.int .i64 0)]
 |none=>∃e:Int,e≠0/\v=.tuple [zt.av,.pv none (.int .i64 e)]
theorem zfm{e:Int}(h:e≠0):GrpV none (.tuple [zt.av,.pv none (.int .i64 e)]):=⟨e,h,rfl⟩
theorem ztj(nm:List UInt8)(x y:Tm)(hp:Heap):S 51 [.pv none (.str nm),.pv none (.sl (some 4) [x.pv,y.pv])] hp=some (.ret (Tm.mk 3 0 nm [x,y]).av,hp):=by
 refine zao (ps:=[(none,.str nm),(none,.sl (some 4) [x.pv,y.pv])]) rfl rfl rfl rfl rfl ?_
 have hb:zaY [(none,.pv none (.int .i64 0)),(none,.pv none (.int .i64 0)),(none,.pv none (.str [])),(none,.tsl (some 4) [])] [0,2,3] [.pv none (.int .i64 3),.pv none (.str nm),.pv none (.sl (some 4) [x.pv,y.pv])]=some (.pv (some 4) (Tm.mk 3 0 nm [x,y]).pv):=rfl
 simp -dsimp -implicitDefEqProofs only[go_sem,seval,↓reduceIte,hb]
 try rfl
theorem zoJ{s:Nat}{r:List Nat}{fr:Fr}{a0 a1 a2 a3 a4 a5 a6 a7:AObj}{es:List PV}{X:Heap}:zdt s r ⟨fr,a0::a1::a2::a3::a4::a5::a6::a7::.arr (some 4) es false::X⟩ (some (.sl (some 4) 8 es.length 0 es.length))=Am.settle r ⟨(s,.pv none (.sl (some 4) es))::fr,a0::a1::a2::a3::a4::a5::a6::a7::.arr (some 4) es true::X⟩:=by
 simp[zdt,AV.freeze,deep]
theorem zdx{n:Nat}{fr:Fr}{xs:Heap}(ho:(xs.take n).all (fun o=>o.refs.all (fun q=>decide (q<n)))=true)(hf:fr.all (fun x=>x.2.refsIn.all (fun q=>decide (q<n)))=true):collect n 0 fr xs=xs.take n:=by
 unfold collect
 rw[List.drop_zero,if_pos (by rw[hf,ho];rfl)]
def s5G(i:Nat)(s:List B):AV:=if i<=1 then .sl (some 5) 4 0 0 0 else .pv none (.sl (some 5) (bds s))
def gH(key:Tm)(fz:Bool)(items:List Tm):Heap:=[.box (some 4) (.agg [(none,.pv none (.int .i64 0)),(none,.pv none (.int .i64 0)),(none,.pv none (.str [])),(none,.sl (some 4) 1 0 0 0)]),.arr (some 4) [] false,.box (some 4) (.pv (some 4) key.pv),.arr (some 4) [] false,.arr (some 5) [] fz,.arr (some 4) (Tm.pvs items) false]
theorem zek{t:Tm}(h:zaG t=true):(Tm.pvs t.args)[0]? =some (zam t).pv/\(Tm.pvs t.args)[1]? =some (zbk t).pv/\zbk t∈t.args:=by
 obtain⟨a,b,e⟩:=zd3 h
 refine⟨Tm.pvs_get (by unfold zam;rw[e];rfl),Tm.pvs_get (by unfold zbk;rw[e];rfl),?_⟩
 unfold zbk
 rw[e]
 simp
theorem frz5(a0 a1 a2 a3:AObj)(fz:Bool)(X:Heap)(x y:PV):zap [.sl (some 5) 4 0 0 0,.pv (some 4) x,.pv (some 4) y] (a0::a1::a2::a3::.arr (some 5) [] fz::X)=some ([(none,.sl (some 5) []),(some 4,x),(some 4,y)],a0::a1::a2::a3::.arr (some 5) [] true::X):=by
 rw[zbZ (show zdC 0 ((a0::a1::a2::a3::AObj.arr (some 5) [] fz::X)[4]?) from rfl)]
 rfl
theorem zvR(a0 a1 a2 a3:AObj)(fz:Bool)(X:Heap)(x:PV):zap [.sl (some 5) 4 0 0 0,.pv (some 4) x] (a0::a1::a2::a3::.arr (some 5) [] fz::X)=some ([(none,.sl (some 5) []),(some 4,x)],a0::a1::a2::a3::.arr (some 5) [] true::X):=by
 rw[zbZ (show zdC 0 ((a0::a1::a2::a3::AObj.arr (some 5) [] fz::X)[4]?) from rfl)]
 rfl
theorem zd0(x:Tm)(q:AV):(AV.tuple [x.av,q]).scalar=false:=by cases x;rfl
theorem zrm(p:Tm)(r:List Tm)(V:List Int)(hV:V.length<=200000)(hps:∀q∈p::r,zaG q=true/\q.valid=true)(hVk:∀q∈p::r,InV V (zam q))(hl:r.length<100000):
  ∃v,(∀hp,S 37 [.pv none (.sl (some 4) (Tm.pvs (p::r)))] hp=some (.ret v,hp))/\GrpV (grp p r) v:=by
 obtain⟨ps,hpe⟩:∃ps,ps=p::r:=⟨_,rfl⟩
 have hp0:ps[0]? =some p:=by rw[hpe];rfl
 have hpl:ps.length=r.length+1:=by rw[hpe];rfl
 have hpn:∀j,ps[j+1]? =r[j]? :=fun j=>by rw[hpe];rfl
 rw[<-hpe] at hps hVk
 rw[<-hpe]
 refine zcT _ rfl rfl rfl (fun hp=>zac [(none,.sl (some 4) (Tm.pvs ps))]) rfl ?_
 have hn4:∀(H:Heap),zbD (some 4) H=some (.sl (some 4) H.length 0 0 0,H++[.arr (some 4) [] false]):=fun H=>zbH (sh:=some 4) (by decide)
 have hn5:∀(H:Heap),zbD (some 5) H=some (.sl (some 5) H.length 0 0 0,H++[.arr (some 5) [] false]):=fun H=>zbH (sh:=some 5) (by decide)
 have hb0:zaY [(none,.pv none (.int .i64 0)),(none,.pv none (.int .i64 0)),(none,.pv none (.str [])),(none,.tsl (some 4) [])] [] []=some (.agg [(none,.pv none (.int .i64 0)),(none,.pv none (.int .i64 0)),(none,.pv none (.str [])),(none,.tsl (some 4) [])]):=rfl
 have hpp:=hps p (List.mem_of_getElem? hp0)
 obtain⟨g0,_,_⟩:=zek hpp.1
 have hkv:(zam p).valid=true:=zaR hpp.2 (zcf hpp.1)
 have hks:=valid_size hkv
 have hgn:∀s,gU (zam p) [] r=some s->grp p r=(if(rsR s (zam p)).2=0/\(∀t∈ps,(rsR s (zbk t)).2=0)/\(prT (rsR s (zam p)).1 (lst (ps.map fun t=>(rsR s (zbk t)).1))).size<=2000 then some (prT (rsR s (zam p)).1 (lst (ps.map fun t=>(rsR s (zbk t)).1))) else none):=fun s h=>by
  rw[hpe]
  unfold grp
  rw[h]
 have hgz:gU (zam p) [] r=none->grp p r=none:=fun h=>by
  unfold grp
  rw[h]
 have hVp:=hVk p (List.mem_of_getElem? hp0)
 generalize grp p r=G at hgn hgz ⊢
 obtain⟨key,hkey⟩:∃key,key=zam p:=⟨_,rfl⟩
 rw[<-hkey] at g0 hkv hks hgn hgz hVp
 simp -dsimp -implicitDefEqProofs only[go_sem,seval,↓reduceIte,hn4,hn5,Tm.pvs_len,zaW (Tm.pvs_get hp0),zad,zaW g0]
 refine zbQ (α:=List B) ps.length (fun i s=>OKB s/\InVB V s/\(i<=1->s=[])/\gU key [] r=gU key s (r.drop (i - 1))) (fun i s=>⟨[(2,.ptr 0 0),(4,.ptr 2 0),(5,s5G i s),(6,.sl (some 4) 5 i 0 i),(25,.pv none (.sl (some 4) (Tm.pvs ps))),(26,.pv none (.int .i64 ps.length)),(27,.pv none (.int .i64 i))],gH key (decide (1<i)) ((ps.take i).map zbk)⟩) [] ⟨⟨zeK,(fun b hb=>by cases hb),fun _=>rfl,rfl⟩,rfl⟩ ?_ ?_
 ·rintro i s h ⟨hO,hVs,hs1,hgu⟩
  have hc:(i:Int)<(ps.length:Int):=by omega
  obtain⟨u,hu⟩:∃u,ps[i]? =some u:=⟨_,List.getElem?_eq_getElem h⟩
  have hum:=List.mem_of_getElem? hu
  obtain⟨hup,huv⟩:=hps u hum
  obtain⟨u0,u1,u2⟩:=zek hup
  have hVu:=hVk u hum
  have hk2:(zam u).valid=true:=zaR huv (zcf hup)
  have hk2s:=valid_size hk2
  have q1:=zab (sh:=some 4) (s:=none) (s':=none) (k:=.i64) u1
  have q0:=zab (sh:=some 4) (s:=none) (s':=none) (k:=.i64) u0
  simp only[show((1:Nat):Int)=1 from rfl,show((0:Nat):Int)=0 from rfl] at q1 q0
  have hll:(Tm.pvs ((ps.take i).map zbk)).length=i:=by rw[Tm.pvs_len,List.length_map,List.length_take];omega
  have hlim:i+1<=lim:=by unfold lim;omega
  have hap:Tm.pvs ((ps.take i).map zbk)++[(zbk u).pv]=Tm.pvs ((ps.take (i+1)).map zbk):=by rw[List.take_add_one,hu];simp[Tm.zwZ];rfl
  have w2:IntKind.i64.wrap ((i:Int)+1)=((i+1:Nat):Int):=by rw[zan (by omega) (by omega)];omega
  cases i with
  |zero=>
   have z:((0:Nat):Int)=0:=rfl
   rw[z] at hc w2
   simp only[List.take_zero,List.map_nil,Nat.zero_add] at hap hll
   simp -dsimp -implicitDefEqProofs only[go_sem,seval,↓reduceIte,List.map_nil,gH,s5G,z,hn4,hn5,hc,zaW (Tm.pvs_get hu),zad,q0,q1,hll,hlim,hap,w2]
   rw[hs1 (by omega)] at hgu
   exact⟨[],⟨zeK,(fun b hb=>by cases hb),fun _=>rfl,hgu⟩,rfl⟩
  |succ i=>
   have hi0:¬((i+1:Nat):Int)=0:=by omega
   have hur:r[i]? =some u:=by rw[<-hpn];exact hu
   have hdr:r.drop i=u::r.drop (i+1):=by
    obtain⟨q1,e1⟩:=List.getElem?_eq_some_iff.1 hur
    rw[List.drop_eq_getElem_cons q1,e1]
   have hgu:gU key [] r=gU key s (u::r.drop (i+1)):=by rw[hgu,Nat.add_sub_cancel,hdr]
   rw[gU] at hgu
   have hO2:=zme s (zam u) key
   have hV2:=zvM hVs hVu hVp
   have hun:=zrB V s (zam u) key (by omega) hVs hVu hVp (by have:=InVB.len hO.good hVs;omega) (fun b hb=>(hO.good.2 b hb).2) (by omega) (by omega)
   have hfin:∀{e:Int},e≠0->(unR s (zam u) key).2=e->GrpV G (.tuple [zt.av,.pv none (.int .i64 e)]):=fun{e} he h=>by
    rw[if_neg (by rw[h];exact he)] at hgu
    rw[hgz hgu]
    exact zfm he
   have hgu2:(unR s (zam u) key).2=0->gU key [] r=gU key (unR s (zam u) key).1 (r.drop (i+1)):=fun h=>by rw[hgu,if_pos h]
   clear hgu
   generalize unR s (zam u) key=R at*
   obtain⟨s2,e⟩:=R
   dsimp only at hO2 hV2 hun hfin hgu2
   cases i with
   |zero=>
    have hs0:=hs1 (by omega)
    subst hs0
    have hq:=zab (sh:=some 4) (s:=none) (s':=none) (k:=.i64) (Tm.pvs_get hu)
    simp only[Nat.zero_add,show((1:Nat):Int)=1 from rfl] at hc hll hlim hap w2 hq
    have hcall:=fun(a0 a1 a2 a3:AObj) (X:Heap)=>zcc rfl rfl rfl (frz5 a0 a1 a2 a3 false X (zam u).pv key.pv) (hun [])
    by_cases he:e=0
    ·have he':=eq_true he
     simp -dsimp -implicitDefEqProofs only[go_sem,seval,↓reduceIte,gH,s5G,hn4,hn5,hc,hi0,hq,zad,q0,q1,hll,hlim,hap,w2,hcall,he']
     exact⟨s2,⟨hO2,hV2,fun h=>by revert h;simp,hgu2 he⟩,rfl⟩
    ·simp -dsimp -implicitDefEqProofs only[go_sem,seval,↓reduceIte,gH,s5G,hn4,hn5,hb0,hc,hi0,hq,zad,q0,q1,hll,hlim,hap,w2,hcall,he,zag (Nat.zero_le _)]
     exact⟨_,zbo _ _ _ rfl,hfin he rfl⟩
   |succ i=>
    simp only[Tm.av] at hun
    by_cases he:e=0
    ·have he':=eq_true he
     simp -dsimp -implicitDefEqProofs only[go_sem,seval,↓reduceIte,gH,s5G,hn4,hn5,hc,hi0,zab (Tm.pvs_get hu),zad,q0,q1,hll,hlim,hap,w2,hun,he']
     exact⟨s2,⟨hO2,hV2,fun h=>by revert h;simp,hgu2 he⟩,rfl⟩
    ·simp -dsimp -implicitDefEqProofs only[go_sem,seval,↓reduceIte,gH,s5G,hn4,hn5,hb0,hc,hi0,zab (Tm.pvs_get hu),zad,q0,q1,hll,hlim,hap,w2,hun,he,zag (Nat.zero_le _)]
     exact⟨_,zbo _ _ _ rfl,hfin he rfl⟩
 ·rintro s ⟨hO,hVs,hs1,hgu⟩
  have hc:¬(ps.length:Int)<(ps.length:Int):=by omega
  have hgS:gU key [] r=some s:=by
   rw[hgu,hpl,Nat.add_sub_cancel,List.drop_length]
   rfl
  have hG:=hgn s hgS
  clear hgn hgz hgu hgS
  have hsl:=InVB.len hO.good hVs
  have hpr:=fun t (ht:t.size<1000000000)=>zmt s t (by omega) (fun b hb=>(hO.good.2 b hb).2) ht
  obtain⟨s5,o4,e1,e2,hr1,hr2,hlow⟩:∃(s5:AV) (o4:AObj),s5G ps.length s=s5/\AObj.arr (some 5) [] (decide (1<ps.length))=o4/\
    (∀t:Tm,t.size<1000000000->∀(a0 a1 a2 a3:AObj) (X:Heap),S 86 [s5,t.av] (a0::a1::a2::a3::o4::X)=some (.ret (.tuple [(rsR s t).1.av,.pv none (.int .i64 (rsR s t).2)]),a0::a1::a2::a3::.arr (some 5) [] true::X))/\
    (∀t:Tm,t.size<1000000000->∀(a0 a1 a2 a3:AObj) (X:Heap),S 86 [s5,t.av] (a0::a1::a2::a3::.arr (some 5) [] true::X)=some (.ret (.tuple [(rsR s t).1.av,.pv none (.int .i64 (rsR s t).2)]),a0::a1::a2::a3::.arr (some 5) [] true::X))/\
    s5.refsIn.all (fun q=>decide (q<9))=true:=by
   by_cases h1:ps.length<=1
   ·have hs0:=hs1 h1
    subst hs0
    refine⟨.sl (some 5) 4 0 0 0,.arr (some 5) [] false,by unfold s5G;rw[if_pos h1],by rw[decide_eq_false (by omega)],fun t ht a0 a1 a2 a3 X=> ?_,fun t ht a0 a1 a2 a3 X=> ?_,rfl⟩
    ·exact(zcc rfl rfl rfl (zvR a0 a1 a2 a3 false X t.pv) (hpr t ht [])).trans (by rw[zd0];rfl)
    ·exact(zcc rfl rfl rfl (zvR a0 a1 a2 a3 true X t.pv) (hpr t ht [])).trans (by rw[zd0];rfl)
   ·refine⟨.pv none (.sl (some 5) (bds s)),.arr (some 5) [] true,by unfold s5G;rw[if_neg h1],by rw[decide_eq_true (by omega)],fun t ht a0 a1 a2 a3 X=>hpr t ht _,fun t ht a0 a1 a2 a3 X=>hpr t ht _,rfl⟩
  simp only[gH,e1,e2]
  clear e1 e2 hs1 hpr
  have hk1:=hr1 key (by omega)
  simp only[Tm.av] at hk1
  have hrv:=fun t=>zho (s:=s) (t:=t)
  by_cases he:(rsR s key).2=0
  rotate_left
  ·rw[if_neg (fun h=>he h.1)] at hG
   generalize rsR s key=R at*
   obtain⟨k,e⟩:=R
   dsimp only at he hk1
   simp -dsimp -implicitDefEqProofs only[go_sem,seval,↓reduceIte,hn4,hn5,hb0,hc,List.take_length,hk1,he,zag (Nat.zero_le _)]
   rw[hG]
   exact⟨_,zbo _ _ _ rfl,zfm he⟩
  ·have hkv2:=hrv key he
   obtain⟨k,hk⟩:∃k,k=(rsR s key).1:=⟨_,rfl⟩
   have he':=eq_true he
   rw[<-hk] at hk1 hG hkv2
   simp -dsimp -implicitDefEqProofs only[go_sem,seval,↓reduceIte,hn4,hn5,hc,List.take_length,hk1,he']
   refine zbQ (α:=Unit) ps.length (fun i _=>∀t∈ps.take i,(rsR s (zbk t)).2=0) (fun i _=>⟨[(2,.ptr 0 0),(5,s5),(11,.ptr 6 0),(13,.sl (some 4) 8 i 0 i),(67,.sl (some 4) 5 ps.length 0 ps.length),(68,.pv none (.int .i64 ps.length)),(69,.pv none (.int .i64 i))],
    [.box (some 4) (.agg [(none,.pv none (.int .i64 0)),(none,.pv none (.int .i64 0)),(none,.pv none (.str [])),(none,.sl (some 4) 1 0 0 0)]),.arr (some 4) [] false,.box (some 4) (.pv (some 4) key.pv),.arr (some 4) [] false,.arr (some 5) [] true,.arr (some 4) (Tm.pvs (ps.map zbk)) false,.box (some 4) (.pv (some 4) k.pv),.arr (some 4) [] false,.arr (some 4) (Tm.pvs ((ps.take i).map fun t=>(rsR s (zbk t)).1)) false]⟩) () ⟨(fun t ht=>by cases ht),rfl⟩ ?_ ?_
   ·rintro i - h hall
    have hc:(i:Int)<(ps.length:Int):=by omega
    obtain⟨u,hu⟩:∃u,ps[i]? =some u:=⟨_,List.getElem?_eq_getElem h⟩
    have hum:=List.mem_of_getElem? hu
    obtain⟨hup,huv⟩:=hps u hum
    obtain⟨u0,u1,u2⟩:=zek hup
    have hk2:(zbk u).valid=true:=zaR huv u2
    have hk2s:=valid_size hk2
    have hcall:=hr2 (zbk u) (by omega)
    have hug:(Tm.pvs (ps.map zbk))[i]? =some (zbk u).pv:=Tm.pvs_get (by rw[List.getElem?_map,hu];rfl)
    have hll:(Tm.pvs ((ps.take i).map fun t=>(rsR s (zbk t)).1)).length=i:=by rw[Tm.pvs_len,List.length_map,List.length_take];omega
    have hlm:(Tm.pvs (ps.map zbk)).length=ps.length:=by rw[Tm.pvs_len,List.length_map]
    have hlim:i+1<=lim:=by unfold lim;omega
    have hap:Tm.pvs ((ps.take i).map fun t=>(rsR s (zbk t)).1)++[(rsR s (zbk u)).1.pv]=Tm.pvs ((ps.take (i+1)).map fun t=>(rsR s (zbk t)).1):=by rw[List.take_add_one,hu];simp[Tm.zwZ];rfl
    have w2:IntKind.i64.wrap ((i:Int)+1)=((i+1:Nat):Int):=by rw[zan (by omega) (by omega)];omega
    simp only[Tm.av] at hcall
    by_cases hue:(rsR s (zbk u)).2=0
    ·have hue':=eq_true hue
     have hall2:∀t∈ps.take (i+1),(rsR s (zbk t)).2=0:=fun t ht=>by
      rw[List.take_add_one,hu] at ht
      rcases List.mem_append.1 ht with ht|ht
      ·exact hall t ht
      ·have:t=u:=by simpa using ht
       rw[this];exact hue
     simp -dsimp -implicitDefEqProofs only[go_sem,seval,↓reduceIte,hn4,hn5,hc,zar h,zaI,hug,hcall,hue',hll,hlm,hlim,hap,w2]
     refine⟨(),hall2,?_⟩
     rw[zdx (by simp[AObj.refs,AV.refsIn,AV.refsIn.go]) (by simp[AV.refsIn];simpa using hlow)]
     rfl
    ·have hGn:G=none:=by rw[hG,if_neg (fun h=>hue (h.2.1 u hum))]
     generalize rsR s (zbk u)=R at*
     obtain⟨x,e⟩:=R
     dsimp only at hcall hue
     simp -dsimp -implicitDefEqProofs only[go_sem,seval,↓reduceIte,hn4,hn5,hb0,hc,zar h,zaI,hug,hcall,hue,hll,hlm,hlim,w2,zag (Nat.zero_le _)]
     rw[hGn]
     exact⟨_,zbo _ _ _ rfl,zfm hue⟩
   ·rintro - hall
    rw[List.take_length] at hall
    obtain⟨L,hL⟩:∃L,L=ps.map fun t=>(rsR s (zbk t)).1:=⟨_,rfl⟩
    have hLl:L.length=ps.length:=by rw[hL,List.length_map]
    have hLp:(Tm.pvs L).length=ps.length:=by rw[Tm.pvs_len,hLl]
    have hLs:∀t∈L,t.size<=2000:=fun t ht=>by
     rw[hL] at ht
     obtain⟨q,hq,rfl⟩:=List.mem_map.1 ht
     exact(hrv _ (hall q hq)).2
    have hls:=zhq L 2000 hLs
    rw[List.take_length,<-hL]
    rw[<-hL] at hG
    have hset:=fun(st:List Nat) (fr:Fr) (a0 a1 a2 a3 a4 a5 a6 a7:AObj) (X:Heap)=>zoJ (s:=13) (r:=st) (fr:=fr) (a0:=a0) (a1:=a1) (a2:=a2) (a3:=a3) (a4:=a4) (a5:=a5) (a6:=a6) (a7:=a7) (es:=Tm.pvs L) (X:=X)
    rw[hLp] at hset
    have h1:=fun hp=>ztn L (by omega) hp
    have h2:∀hp,S 51 [.pv none (.str [45]),.pv none (.sl (some 4) [k.pv,(lst L).pv])] hp=some (.ret (prT k (lst L)).av,hp):=fun hp=>ztj [45] k (lst L) hp
    have hsz:(prT k (lst L)).size=1+(k.size+(lst L).size):=by
     show 1+(k.size+((lst L).size+0))=_
     omega
    have h3:=fun hp=>zrU (prT k (lst L)) hp (by omega)
    simp only[Tm.av] at h1 h2 h3
    by_cases hz:(prT k (lst L)).size<=2000
    ·rw[if_pos ⟨he,hall,hz⟩] at hG
     have hz':¬(2000:Int)<((min (prT k (lst L)).size 2001:Nat):Int):=by omega
     simp -dsimp -implicitDefEqProofs only[go_sem,seval,↓reduceIte,hn4,hn5,hc,hset,h1,h2,h3,hz',zag (Nat.zero_le _)]
     rw[hG]
     exact⟨_,zep _ _ _ _ _,rfl⟩
    ·rw[if_neg (fun h=>hz h.2.2)] at hG
     have hz':(2000:Int)<((min (prT k (lst L)).size 2001:Nat):Int):=by omega
     simp -dsimp -implicitDefEqProofs only[go_sem,seval,↓reduceIte,hn4,hn5,hb0,hc,hset,h1,h2,h3,hz',zag (Nat.zero_le _)]
     rw[hG]
     exact⟨_,zbo _ _ _ rfl,zfm (by decide)⟩
theorem zoK{n b:Nat}{fr:Fr}{hp:Heap}(h:fr.all (fun x=>x.2.refsIn.all (fun q=>decide (q<n)))=false):collect n b fr hp=hp:=by
 unfold collect
 rw[h]
 rfl
theorem zoL{n b:Nat}{fr:Fr}{H A X:Heap}(h:H.length+A.length=n):∃X',collect n b fr (H++(A++X))=H++(A++X'):=by
 unfold collect
 split
 ·refine⟨[],?_⟩
  rw[List.append_nil,<-List.append_assoc]
  exact List.take_left' (by rw[List.length_append,h])
 ·exact⟨X,rfl⟩
theorem zhr{n k:Nat}{fr:Fr}{H X:Heap}{a b c d c' d':AObj}(h:H.length+4=n)(hc:c=c')(hd:d=d'):∃X',(⟨fr,collect n k fr (H++(a::b::c::d::X))⟩:St)=⟨fr,H++(a::b::c'::d'::X')⟩:=by
 subst hc hd
 obtain⟨X',e⟩:=zoL (n:=n) (b:=k) (fr:=fr) (H:=H) (A:=[a,b,c,d]) (X:=X) h
 exact⟨X',congrArg _ e⟩
theorem zkP{k:Tm}(h:k.valid=true):vari k k=true:=by
 unfold vari
 rw[h,Tm.cmp_zero.2 rfl]
 rfl
theorem zhs{f:Tm->Bool}{L:List Tm}{i:Nat}{u:Tm}(h:L[i]? =some u):(L.take (i+1)).filter f=(L.take i).filter f++(if f u=true then[u] else[]):=by
 rw[List.take_add_one,h,List.filter_append]
 congr 1
 cases e:f u <;> simp[e]
theorem frzG{H:Heap}{h:Nat}(hh:H.length=h)(x0 x1 x3:AObj)(X:Heap)(es:List PV)(n:Nat)(hn:es.length=n):zap [.sl (some 4) (h+2) n 0 n] (H++(x0::x1::.arr (some 4) es false::x3::X))=some ([(none,.sl (some 4) es)],H++(x0::x1::.arr (some 4) es true::x3::X)):=by
 have hg:(H++(x0::x1::.arr (some 4) es false::x3::X))[h+2]? =some (.arr (some 4) es false):=by rw[getN hh];rfl
 rw[zbZ (show zdC n ((H++(x0::x1::.arr (some 4) es false::x3::X))[h+2]?) from by rw[hg];exact hn),hg,setN hh]
 rfl
theorem zmf{H:Heap}{q n:Nat}{es:List PV}{fz:Bool}{x:Int}(h:H[q]? =some (.arr (some 4) es fz))(hn:es.length=n):Am.frozen (.tuple [.pv none (.sl (some 4) es),.pv none (.int .i64 x)]) (.tuple [.sl (some 4) q n 0 n,.pv none (.int .i64 x)]) H:=by
 subst hn
 exact⟨H.set q (.arr (some 4) es true),by simp[AV.freezeRes,zap,AV.freeze,deep,h,pvs,AV.shp]⟩
theorem zmg{sh s':Sh}{k:IntKind}{r v n:Nat}(h:0<n):zck sh [.sl sh r v 0 n,.pv s' (.int k 0)]=some (.eptr sh r v 0 0):=zar (i:=0) h
theorem zrn{H:Heap}{q n:Nat}{es:List PV}{fz:Bool}{t:Tm}(h:H[q]? =some (.arr (some 4) es fz))(hn:es.length=n)(h0:es[0]? =some t.pv):aload none H (.eptr (some 4) q n 0 3)=some (.pv none (.sl (some 4) (Tm.pvs t.args))):=by
 simp[aload,h,hn,h0,toAV,zad]
theorem zoM(ts:List Tm)(hl:Tm.sizes ts<100000000)(hn:ts.length<100000)(hz:zaN ts=true->Tm.sizes ts<=200000)(hp:Heap):
  S 10 [.pv none (.sl (some 4) (Tm.pvs ts))] hp=some (.ret (.tuple [.pv none (.sl (some 4) (Tm.pvs (zby ts).1)),.pv none (.int .i64 (zby ts).2)]),hp):=by
 refine zao rfl rfl rfl (zac [(none,.sl (some 4) (Tm.pvs ts))]) rfl ?_
 have hn4:∀(H:Heap),zbD (some 4) H=some (.sl (some 4) H.length 0 0 0,H++[.arr (some 4) [] false]):=fun H=>zbH (sh:=some 4) (by decide)
 obtain⟨v,H0,hcall,q0,E,hE,hq0,hq1,rfl⟩:=zvS ts hl [.arr (some 4) [] false]
 have hH0:H0[0]? =some (.arr (some 4) [] false):=by rw[hE];rfl
 by_cases he:zcd ts=0
 rotate_left
 ·have e:zby ts=([],zcd ts):=by unfold zby;rw[if_neg he]
  rw[e]
  dsimp only
  generalize zcd ts=k at*
  simp -dsimp -implicitDefEqProofs only[go_sem,seval,↓reduceIte,hn4,hcall,he]
  rw[<-zc4]
  exact zmf (es:=[]) (fz:=false) (List.getElem?_concat_length) rfl
 ·have he':=eq_true he
  have e:zby ts=ofG (grps (zbd ts).length (zbd ts)):=by unfold zby;rw[if_pos he]
  rw[e]
  have hval:zaN ts=true:=by
   unfold zcd at he
   split at he
   ·assumption
   ·cases he
  have hall:ts.all zaG=true:=by
   unfold zcd at he
   rw[if_pos hval] at he
   split at he
   ·assumption
   ·cases he
  have hm:∀x∈zbd ts,x∈ts:=fun x hx=>by
   unfold zbd at hx
   rw[if_pos ⟨hval,hall⟩] at hx
   exact(zb0 ts).mem_iff.1 hx
  have hkl:(zbd ts).length=ts.length:=by
   unfold zbd
   rw[if_pos ⟨hval,hall⟩,zaB]
  have hV:(Tm.occs ts).length<=200000:=Nat.le_trans (Tm.zw9 ts) (hz hval)
  have hprop:∀x∈zbd ts,zaG x=true/\x.valid=true/\InV (Tm.occs ts) (zam x):=fun x hx=>by
   have h1:=List.all_eq_true.1 hall x (hm x hx)
   refine⟨h1,zbt hval (hm x hx),fun w hw=>Tm.zxe (hm x hx) ?_⟩
   refine Tm.zxc (fun hk=> ?_) (zcf h1) hw
   simp[zaG,hk] at h1
  generalize Tm.occs ts=V at hV hprop
  obtain⟨n0,hn0⟩:∃n0,n0=(zbd ts).length:=⟨_,rfl⟩
  obtain⟨G,hG⟩:∃G,G=grps n0 (zbd ts):=⟨_,rfl⟩
  rw[<-hn0,<-hG]
  simp -dsimp -implicitDefEqProofs only[go_sem,seval,↓reduceIte,hn4,hcall,he']
  refine za0 (fun n st=>∃(D L:List Tm) (q:Nat) (H:Heap) (m:Nat),n=L.length/\L.length<=m/\D.length+L.length<=100000/\G=(grps m L).map (D++·)/\(∀x∈L,zaG x=true/\x.valid=true/\InV V (zam x))/\H0.length<=H.length/\H[0]? =some (.arr (some 4) (Tm.pvs D) false)/\H[q]? =some (.arr (some 4) (Tm.pvs L) false)/\0<q/\st=⟨[(2,.sl (some 4) 0 D.length 0 D.length),(4,.sl (some 4) q L.length 0 L.length)],H⟩) (n:=n0) ⟨[],zbd ts,q0,H0,n0,hn0,by omega,by simp;omega,by rw[hG];cases grps n0 (zbd ts) <;> rfl,hprop,Nat.le_refl _,hH0,hq1,hq0,?_⟩ ?_
  ·rfl
  ·rintro n st ⟨D,L,q,H,m,hnL,hm1,hDL,hGD,hP,hHl,hh0,hhq,hqp,rfl⟩
   cases L with
   |nil=>
    have hg:G=some D:=by
     rw[hGD]
     cases m <;> simp[grps]
    rw[hg]
    have hc:¬(0:Int)<((0:Nat):Int):=by omega
    simp -dsimp -implicitDefEqProofs only[go_sem,seval,↓reduceIte,hn4,hc]
    rw[<-zc4]
    exact zmf hh0 (Tm.pvs_len D)
   |cons p r=>
    obtain⟨h,hh⟩:∃h,H.length=h:=⟨_,rfl⟩
    have hpp:=hP p List.mem_cons_self
    obtain⟨g0,_,_⟩:=zek hpp.1
    have hkv:(zam p).valid=true:=zaR hpp.2.1 (zcf hpp.1)
    have hks:=valid_size hkv
    obtain⟨key,hkey⟩:∃key,key=zam p:=⟨_,rfl⟩
    rw[<-hkey] at g0 hkv hks
    obtain⟨L,hL⟩:∃L,L=p::r:=⟨_,rfl⟩
    obtain⟨N,hN⟩:∃N,N=L.length:=⟨_,rfl⟩
    have hNp:0<N:=by rw[hN,hL];simp
    have hL0:(Tm.pvs L)[0]? =some p.pv:=by rw[hL];rfl
    rw[<-hL] at hnL hm1 hDL hP hhq ⊢
    rw[<-hN] at hnL hm1 hDL ⊢
    have hLl:(Tm.pvs L).length=N:=by rw[Tm.pvs_len,hN]
    have hql:=zbI hhq
    have h0l:=zbI hh0
    have hq:∀X,(H++X)[q]? =some (.arr (some 4) (Tm.pvs L) false):=fun X=>by rw[List.getElem?_append_left hql];exact hhq
    have hx0:∀X,(H++X)[0]? =some (.arr (some 4) (Tm.pvs D) false):=fun X=>by rw[List.getElem?_append_left h0l];exact hh0
    have hx0s:∀X Y,(H++X).set 0 Y=H.set 0 Y++X:=fun X Y=>List.set_append_left _ _ h0l
    have hfl:=zrn hhq hLl hL0
    have hc:(0:Int)<(N:Int):=by omega
    simp -dsimp -implicitDefEqProofs only[go_sem,seval,↓reduceIte,hn4,hc,zmg hNp,hfl,zaW g0,hh,getN hh,zct hh,setN hh,zdV hh,List.append_assoc,zah,zae,zai,zaf,Nat.add_assoc,List.length_append]
    refine zbQ (α:=Heap) N (fun _ _=>True) (fun i X=>⟨[(2,.sl (some 4) 0 D.length 0 D.length),(6,.func (.func 35) [] [.ptr h 0]),(7,.sl (some 4) (h+2) ((L.take i).filter fun q=>vari (zam q) key).length 0 ((L.take i).filter fun q=>vari (zam q) key).length),(8,.sl (some 4) (h+3) ((L.take i).filter fun q=> !vari (zam q) key).length 0 ((L.take i).filter fun q=> !vari (zam q) key).length),(31,.sl (some 4) q N 0 N),(32,.pv none (.int .i64 N)),(33,.pv none (.int .i64 i))],
     H++([.box (some 4) (.pv (some 4) key.pv),.arr (some 4) [] false,.arr (some 4) (Tm.pvs ((L.take i).filter fun q=>vari (zam q) key)) false,.arr (some 4) (Tm.pvs ((L.take i).filter fun q=> !vari (zam q) key)) false]++X)⟩) [] ⟨trivial,?_⟩ ?_ ?_
    ·rfl
    ·rintro i X hi -
     have hc:(i:Int)<(N:Int):=by omega
     obtain⟨u,hu⟩:∃u,L[i]? =some u:=⟨_,List.getElem?_eq_getElem (by omega)⟩
     have hum:=List.mem_of_getElem? hu
     obtain⟨up,uv,_⟩:=hP u hum
     have hus:=valid_size uv
     have hug:=Tm.pvs_get hu
     have hcl:∀X:Heap,S 35 [u.av,.ptr h 0] (H++(.box (some 4) (.pv (some 4) key.pv)::X))=some (.ret (.pv none (.bool (vari (zam u) key))),H++(.box (some 4) (.pv (some 4) key.pv)::X)):=fun X=>
      ztJ u key up _ h (by rw[zct hh];rfl) (by omega) (by omega)
     have hf1:=zhs (f:=fun q=>vari (zam q) key) hu
     have hf2:=zhs (f:=fun q=> !vari (zam q) key) hu
     have hlen1:((L.take i).filter fun q=>vari (zam q) key).length<=i:=Nat.le_trans (List.length_filter_le _ _) (by rw[List.length_take];omega)
     have hlen2:((L.take i).filter fun q=> !vari (zam q) key).length<=i:=Nat.le_trans (List.length_filter_le _ _) (by rw[List.length_take];omega)
     rw[hf1,hf2]
     generalize ((L.take i).filter fun q=>vari (zam q) key)=A at*
     generalize ((L.take i).filter fun q=> !vari (zam q) key)=B at*
     have hA:(Tm.pvs A).length=A.length:=Tm.pvs_len A
     have hB:(Tm.pvs B).length=B.length:=Tm.pvs_len B
     have hlA:A.length+1<=lim:=by unfold lim;omega
     have hlB:B.length+1<=lim:=by unfold lim;omega
     have hA1:Tm.pvs A++[u.pv]=Tm.pvs (A++[u]):=by rw[Tm.zwZ];rfl
     have hB1:Tm.pvs B++[u.pv]=Tm.pvs (B++[u]):=by rw[Tm.zwZ];rfl
     have w2:IntKind.i64.wrap ((i:Int)+1)=((i+1:Nat):Int):=by rw[zan (by omega) (by omega)];omega
     simp only[Tm.av] at hcl
     cases hv:vari (zam u) key with
     |true=>
      rw[hv] at hcl
      simp -dsimp -implicitDefEqProofs only[go_sem,seval,↓reduceIte,hn4,hc,zar hi,zaI,hq,hLl,hug,hcl,hA,hlA,hA1,w2,hh,getN hh,zct hh,setN hh,zdV hh,List.append_assoc,zah,zae,zai,zaf,Nat.add_assoc,List.length_append]
      exact zhr (by omega) rfl (by rw[List.append_nil])
     |false=>
      rw[hv] at hcl
      simp -dsimp -implicitDefEqProofs only[go_sem,seval,↓reduceIte,hn4,hc,zar hi,zaI,hq,hLl,hug,hcl,hB,hlB,hB1,w2,hh,getN hh,zct hh,setN hh,zdV hh,List.append_assoc,zah,zae,zai,zaf,Nat.add_assoc,List.length_append]
      exact zhr (by omega) (by rw[List.append_nil]) rfl
    ·rintro X -
     have hc:¬(N:Int)<(N:Int):=by omega
     have htk:L.take N=L:=List.take_of_length_le (by omega)
     have hvs:vari (zam p) key=true:=by rw[<-hkey];exact zkP hkv
     have hf1:(L.filter fun q=>vari (zam q) key)=p::r.filter fun q=>vari (zam q) key:=by rw[hL,List.filter_cons,if_pos hvs]
     have hf2:(L.filter fun q=> !vari (zam q) key)=r.filter fun q=> !vari (zam q) key:=by rw[hL,List.filter_cons,if_neg (by rw[hvs];simp)]
     rw[htk,hf1,hf2]
     have hrl:r.length+1=N:=by rw[hN,hL];rfl
     have hl1:(r.filter fun q=>vari (zam q) key).length<=r.length:=List.length_filter_le _ _
     have hl2:(r.filter fun q=> !vari (zam q) key).length<=r.length:=List.length_filter_le _ _
     have hP2:∀x∈r.filter (fun q=> !vari (zam q) key),zaG x=true/\x.valid=true/\InV V (zam x):=fun x hx=>hP x (by rw[hL];exact List.mem_cons_of_mem _ (List.mem_filter.1 hx).1)
     have hP1:∀x∈p::r.filter (fun q=>vari (zam q) key),zaG x=true/\x.valid=true/\InV V (zam x):=fun x hx=>hP x (by
      rw[hL]
      rcases List.mem_cons.1 hx with rfl|hx
      ·exact List.mem_cons_self
      ·exact List.mem_cons_of_mem _ (List.mem_filter.1 hx).1)
     obtain⟨m',rfl⟩:∃m',m=m'+1:=⟨m - 1,by omega⟩
     have hgd:G=(zth (grp p (r.filter fun q=>vari (zam q) key)) (grps m' (r.filter fun q=> !vari (zam q) key))).map (D++·):=by
      rw[hGD,grps,<-hkey]
     clear hGD
     generalize (r.filter fun q=> !vari (zam q) key)=R2 at*
     generalize (r.filter fun q=>vari (zam q) key)=R1 at*
     obtain⟨v,hv,hV2⟩:=zrm p R1 V (by omega) (fun q hq=>⟨(hP1 q hq).1,(hP1 q hq).2.1⟩) (fun q hq=>(hP1 q hq).2.2) (by omega)
     have hfz:=fun(x0 x1 x3:AObj) (X:Heap)=>frzG hh x0 x1 x3 X (Tm.pvs (p::R1)) (R1.length+1) (by rw[Tm.pvs_len];rfl)
     have hcall:=fun(x0 x1 x3:AObj) (X:Heap)=>zcc rfl rfl rfl (hfz x0 x1 x3 X) (hv [])
     have hDl:(Tm.pvs D).length=D.length:=Tm.pvs_len D
     have hlD:D.length+1<=lim:=by unfold lim;omega
     cases hgr:grp p R1 with
     |none=>
      rw[hgr] at hV2 hgd
      obtain⟨e,he0,rfl⟩:=hV2
      have hGn:G=none:=hgd
      rw[hGn]
      simp only[zd0,cond_false] at hcall
      simp only[Tm.av] at hcall
      generalize zt.pv=zp at hcall
      simp -dsimp -implicitDefEqProofs only[go_sem,seval,↓reduceIte,hn4,hc,hcall,he0,hh,getN hh,zct hh,setN hh,zdV hh,List.append_assoc,zah,zae,zai,zaf,Nat.add_assoc,List.length_append]
      rfl
     |some t=>
      rw[hgr] at hV2 hgd
      have htv:=zkM hgr
      have hts:=valid_size htv
      have hV3:v=.tuple [t.av,.pv none (.int .i64 0)]:=hV2
      subst hV3
      have hclone:=fun hp=>zfl t hp htv (by omega)
      have hD1:Tm.pvs D++[t.pv]=Tm.pvs (D++[t]):=by rw[Tm.zwZ];rfl
      simp only[zd0,cond_false] at hcall
      simp only[Tm.av] at hcall hclone
      simp -dsimp -implicitDefEqProofs only[go_sem,seval,↓reduceIte,hn4,hc,hcall,hclone,hx0,hx0s,hDl,hlD,hD1,hh,getN hh,zct hh,setN hh,zdV hh,List.append_assoc,zah,zae,zai,zaf,Nat.add_assoc,List.length_append]
      rw[zoK (by simp[AV.refsIn];omega)]
      refine⟨R2.length,by omega,D++[t],R2,h+3,H.set 0 (.arr (some 4) (Tm.pvs (D++[t])) false)++(.box (some 4) (.pv (some 4) key.pv)::.arr (some 4) [] false::.arr (some 4) (Tm.pvs (p::R1)) true::.arr (some 4) (Tm.pvs R2) false::(X++[.box (some 4) (.pv (some 4) t.pv),.arr (some 4) [] false])),m',rfl,by omega,by simp;omega,?_,hP2,?_,?_,?_,by omega,?_⟩
      ·rw[hgd]
       cases grps m' R2 <;> simp[zth]
      ·rw[List.length_append,List.length_set]
       omega
      ·rw[List.getElem?_append_left (by rw[List.length_set];exact h0l),List.getElem?_set_self h0l]
      ·rw[getN (by rw[List.length_set];exact hh)]
       rfl
      ·rw[List.length_append]
       rfl
end Go.Proofs.YtffecaafklpmhaaGreat
