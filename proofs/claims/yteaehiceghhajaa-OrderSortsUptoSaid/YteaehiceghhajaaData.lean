/- What is proved: the reference's sorting. -/
import Derived.Test.YteaehiceghhajaaRKeys
import Derived.Test.YteaehiceghhajaaCmp
import Derived.Test.YteaehiceghhajaaAm5
set_option linter.unusedSimpArgs false
set_option linter.unusedVariables false
namespace Go.Proofs.Yteaehiceghhajaa
open Go.Am
theorem zkV(l:List Tm):zaz false l=isort Tm.cmp l:=zg9 false l
theorem zry(l:List Tm):l.all (okK false)=true:=List.all_eq_true.2 fun _ _=>rfl
theorem zha(l:List Tm)(hv:zak l=true)(hl:Tm.sizes l<100000000)(hp:Heap):S 20 [.pv none (.sl (some 4) (Tm.pvs l))] hp=some (.ret (.tuple [.pv none (.sl (some 4) (Tm.pvs (isort Tm.cmp l))),.pv none (.int .i64 0)]),hp):=by
 refine zap rfl rfl rfl (zab [(none,.sl (some 4) (Tm.pvs l))]) rfl ?_
 have hlen:=Tm.zsz l
 have h2:=fun hp=>zc1 l (by omega) hp
 rw[<-zkV]
 simp -dsimp -implicitDefEqProofs only[go_sem,seval,↓reduceIte,h2,hv,zba (show 0<Sh.size (some 4) by decide)]
 refine zaE (fun n st=>∃i:Nat,n=l.length - i/\i<=l.length/\((i=0/\st=⟨[(0,.pv none (.sl (some 4) (Tm.pvs l))),(4,.sl (some 4) 1 0 0 0),(5,.pv none (.int .i64 0))],[.arr (some 4) [] false,.arr (some 4) [] false]⟩)\/
  ∃fz,st=⟨[(0,.pv none (.sl (some 4) (Tm.pvs l))),(4,.pv none (.sl (some 4) (Tm.pvs (zaz false (l.take i))))),(5,.pv none (.int .i64 i))],[.arr (some 4) [] false,.arr (some 4) [] fz]⟩)) (n:=l.length) ⟨0,rfl,Nat.zero_le _,.inl ⟨rfl,?_⟩⟩ ?_
 ·simp -dsimp -implicitDefEqProofs only[go_sem,seval,↓reduceIte]
 ·rintro n st ⟨i,hn,hi,hst⟩
  by_cases h:i<l.length
  ·have hc:(i:Int)<(l.length:Int):=by omega
   obtain⟨x,hx⟩:∃x,l[i]? =some x:=⟨_,List.getElem?_eq_getElem h⟩
   have hm:=List.mem_of_getElem? hx
   have hsx:=Tm.zsA hm
   have hst':=Tm.zsB l i
   have w2:IntKind.i64.wrap ((i:Int)+1)=((i+1:Nat):Int):=by rw[zaj (by omega) (by omega)];omega
   have nx:insK false (zaz false (l.take i)) x=zaz false (l.take (i+1)):=by rw[List.take_add_one,hx,<-zfr];rfl
   have hva:zak (zaz false (l.take i))=true:=zb0 (List.all_eq_true.2 fun y hy=>List.all_eq_true.1 hv y (List.mem_of_mem_take hy))
   rcases hst with⟨rfl,rfl⟩|⟨fz,rfl⟩
   ·have hcall:=zc2 false [] x [.sl (some 4) 1 0 0 0,.pv (some 4) x.pv,.pv none (.bool false)] [.arr (some 4) [] false,.arr (some 4) [] false] [.arr (some 4) [] false,.arr (some 4) [] true] rfl (by simp[Tm.sizes];omega) rfl (zar hv hm) rfl rfl
    have hc:(0:Int)<(l.length:Int):=by omega
    have w1:IntKind.i64.wrap ((0:Int)+1)=((1:Nat):Int):=by rw[zaj (by omega) (by omega)];rfl
    have nx':insK false [] x=zaz false (l.take 1):=nx
    simp -dsimp -implicitDefEqProofs only[go_sem,seval,↓reduceIte,Tm.pvs_len,hc,zci (Tm.pvs_get hx),hcall,w1,nx']
    exact⟨l.length - 1,by omega,1,rfl,by omega,.inr ⟨true,rfl⟩⟩
   ·have hcall:=fun hp=>zc2 false (zaz false (l.take i)) x [.pv none (.sl (some 4) (Tm.pvs (zaz false (l.take i)))),.pv (some 4) x.pv,.pv none (.bool false)] hp hp (zab [(none,.sl (some 4) (Tm.pvs (zaz false (l.take i)))),(some 4,x.pv),(none,.bool false)]) (by rw[(zbC false _).2.1];omega) hva (zar hv hm) (zry _) rfl
    simp -dsimp -implicitDefEqProofs only[go_sem,seval,↓reduceIte,Tm.pvs_len,hc,zad (Tm.pvs_get hx),hcall,w2,nx]
    exact⟨l.length - (i+1),by omega,i+1,rfl,by omega,.inr ⟨fz,rfl⟩⟩
  ·have hc:¬(i:Int)<(l.length:Int):=by omega
   obtain rfl:i=l.length:=by omega
   rcases hst with⟨h0,rfl⟩|⟨fz,rfl⟩
   ·have hnil:l=[]:=List.length_eq_zero_iff.1 h0
    subst hnil
    have hz:¬(0:Int)<((0:Nat):Int):=by decide
    simp -dsimp -implicitDefEqProofs only[go_sem,seval,↓reduceIte,Tm.pvs,hz]
    rfl
   ·rw[List.take_length]
    simp -dsimp -implicitDefEqProofs only[go_sem,seval,↓reduceIte,Tm.pvs_len,hc]
theorem zrz{s:List Tm}{j:Nat}{x y:Tm}(hx:s[j]? =some x)(hy:s[j+1]? =some y):dd (s.take (j+2))=if x.cmp y=0 then dd (s.take (j+1)) else dd (s.take (j+1))++[y]:=by
 have hl:(s.take (j+1)).getLast? =some x:=zgm hx
 have e:s.take (j+2)=s.take (j+1)++[y]:=zgn hy
 have hn:=Tm.zsP x y
 rw[e]
 split
 ·exact zqh hl (by omega)
 ·exact zqg hl (by omega)
theorem zqp(l:List Tm)(hv:zak l=true)(hl:Tm.sizes l<100000000)(hp:Heap):S 19 [.pv none (.sl (some 4) (Tm.pvs l))] hp=some (.ret (.tuple [.pv none (.sl (some 4) (Tm.pvs (zmR l))),.pv none (.int .i64 0)]),hp):=by
 refine zap rfl rfl rfl (zab [(none,.sl (some 4) (Tm.pvs l))]) rfl ?_
 have h2:=fun hp=>zha l hv hl hp
 have hvs:zak (isort Tm.cmp l)=true:=by rw[<-zkV];exact zb0 hv
 have hsz:Tm.sizes (isort Tm.cmp l)<=Tm.sizes l:=by rw[<-zkV,(zbC false l).2.1];exact Nat.le_refl _
 unfold zmR
 generalize isort Tm.cmp l=s at h2 hvs hsz ⊢
 have hlen:=Tm.zsz s
 simp -dsimp -implicitDefEqProofs only[go_sem,seval,↓reduceIte,h2,zba (show 0<Sh.size (some 4) by decide)]
 refine zaE (fun n st=>∃i:Nat,n=s.length - i/\i<=s.length/\st=⟨[(4,.pv none (.sl (some 4) (Tm.pvs s))),(5,.pv none (.int .i64 0)),(6,.sl (some 4) 1 (dd (s.take i)).length 0 (dd (s.take i)).length),(7,.pv none (.int .i64 i))],[.arr (some 4) [] false,.arr (some 4) (Tm.pvs (dd (s.take i))) false]⟩) (n:=s.length) ⟨0,rfl,Nat.zero_le _,?_⟩ ?_
 ·simp -dsimp -implicitDefEqProofs only[go_sem,seval,↓reduceIte]
  rfl
 ·rintro n st ⟨i,hn,hi,rfl⟩
  by_cases h:i<s.length
  ·have hc:(i:Int)<(s.length:Int):=by omega
   obtain⟨y,hy⟩:∃y,s[i]? =some y:=⟨_,List.getElem?_eq_getElem h⟩
   have hmy:=List.mem_of_getElem? hy
   have hd3:=zeB (s.take i)
   rw[List.length_take] at hd3
   have hlm:(dd (s.take i)).length+1<=lim:=by unfold lim;omega
   have w2:IntKind.i64.wrap ((i:Int)+1)=((i+1:Nat):Int):=by rw[zaj (by omega) (by omega)];omega
   have ap:Tm.pvs (dd (s.take i))++[y.pv]=Tm.pvs (dd (s.take i)++[y]):=by rw[Tm.zsL];rfl
   have al:(dd (s.take i)).length+1=(dd (s.take i)++[y]).length:=by simp
   by_cases h0:i=0
   ·have hc0:(i:Int)=0:=by omega
    have hdd:dd (s.take (i+1))=dd (s.take i)++[y]:=by
     rw[zgn hy,h0]
     rfl
    simp -dsimp -implicitDefEqProofs only[go_sem,seval,↓reduceIte,Tm.pvs_len,hc,eq_true hc0,zad (Tm.pvs_get hy),w2,hlm,ap]
    exact⟨s.length - (i+1),by omega,i+1,rfl,by omega,by rw[hdd,al]⟩
   ·obtain⟨j,rfl⟩:∃j,i=j+1:=⟨i - 1,by omega⟩
    have hc0:¬(((j+1:Nat):Int))=0:=by omega
    obtain⟨x,hx⟩:∃x,s[j]? =some x:=⟨_,List.getElem?_eq_getElem (by omega)⟩
    have hmx:=List.mem_of_getElem? hx
    have hsx:=Tm.zsA hmx
    have hcall:=fun hp=>zgo x y hp (by omega) (valid_fits (zar hvs hmx)) (valid_fits (zar hvs hmy))
    simp only[Tm.av] at hcall
    have w1:IntKind.i64.wrap (((j+1:Nat):Int) - 1)=((j:Nat):Int):=by rw[zaj (by omega) (by omega)];omega
    have hdt:=zrz hx hy
    by_cases hz:x.cmp y=0
    ·rw[if_pos hz] at hdt
     simp -dsimp -implicitDefEqProofs only[go_sem,seval,↓reduceIte,Tm.pvs_len,hc,hc0,zad (Tm.pvs_get hy),zad (Tm.pvs_get hx),w1,w2,hcall,hz]
     exact⟨s.length - (j+1+1),by omega,j+1+1,rfl,by omega,by rw[hdt]⟩
    ·rw[if_neg hz] at hdt
     simp -dsimp -implicitDefEqProofs only[go_sem,seval,↓reduceIte,Tm.pvs_len,hc,hc0,zad (Tm.pvs_get hy),zad (Tm.pvs_get hx),w1,w2,hcall,hz,hlm,ap]
     exact⟨s.length - (j+1+1),by omega,j+1+1,rfl,by omega,by rw[hdt,al]⟩
  ·have hc:¬(i:Int)<(s.length:Int):=by omega
   obtain rfl:i=s.length:=by omega
   rw[List.take_length]
   simp -dsimp -implicitDefEqProofs only[go_sem,seval,↓reduceIte,Tm.pvs_len,hc]
theorem zgp(l:List Tm)(hv:zak l=false)(hl:Tm.sizes l<100000000)(hp:Heap):S 20 [.pv none (.sl (some 4) (Tm.pvs l))] hp=some (.ret (.tuple [.pv none (.sl (some 4) (Tm.pvs [])),.pv none (.int .i64 1)]),hp):=by
 refine zap rfl rfl rfl (zab [(none,.sl (some 4) (Tm.pvs l))]) rfl ?_
 have h2:=fun hp=>zc1 l (by omega) hp
 simp -dsimp -implicitDefEqProofs only[go_sem,seval,↓reduceIte,h2,hv,zba (show 0<Sh.size (some 4) by decide)]
 try rfl
theorem zoZ(l:List Tm)(hv:zak l=false)(hl:Tm.sizes l<100000000)(hp:Heap):S 19 [.pv none (.sl (some 4) (Tm.pvs l))] hp=some (.ret (.tuple [.pv none (.sl (some 4) (Tm.pvs [])),.pv none (.int .i64 1)]),hp):=by
 refine zap rfl rfl rfl (zab [(none,.sl (some 4) (Tm.pvs l))]) rfl ?_
 have h2:=fun hp=>zgp l hv hl hp
 simp -dsimp -implicitDefEqProofs only[go_sem,seval,↓reduceIte,h2,zba (show 0<Sh.size (some 4) by decide)]
 refine zaE (fun n st=>st=⟨[(4,.pv none (.sl (some 4) (Tm.pvs []))),(5,.pv none (.int .i64 1)),(6,.sl (some 4) 1 0 0 0),(7,.pv none (.int .i64 0))],[.arr (some 4) [] false,.arr (some 4) [] false]⟩) (n:=0) ?_ ?_
 ·simp -dsimp -implicitDefEqProofs only[go_sem,seval,↓reduceIte]
  try rfl
 ·rintro n st rfl
  have hc:¬(0:Int)<((0:Nat):Int):=by decide
  simp -dsimp -implicitDefEqProofs only[go_sem,seval,↓reduceIte,Tm.pvs,hc]
  try rfl
def okL(lo hi:Nat)(H:Heap)(x:TE):Prop:=match x.2 with
 |none=>x.1.args=[]
 |some q=>lo<=q/\q<hi/\∃es,H[q]? =some (.arr (some 4) es false)/\es.length=x.1.args.length
structure Spo(lo hi r N i:Nat)(H0 H:Heap)(xs:List TE):Prop where
 len:H.length=H0.length
 out:∀j,j<lo\/hi<=j->H[j]? =H0[j]?
 arr:∃es,H[r]? =some (.arv (some 4) es)/\es.length=N/\∀(j:Nat) (x:TE),i<=j->xs[j]? =some x->es[j]? =some (eA x)
 els:∀x∈xs,okL lo hi H x
theorem Spo.inner{lo hi r N i:Nat}{H0 H:Heap}{xs:List TE}(h:Spo lo hi r N i H0 H xs){q k n:Nat}{es:List PV}(h1:lo<=q)(h2:q<hi)(hq:H[q]? =some (.arr (some 4) es false))(hn:es.length=n)(hk:k<n)(p:PV):
  zaB (some 4) 0 H [.eptr (some 4) q n k 0,.pv (some 4) p]=some (.undef,H.set q (.arr (some 4) (es.set k p) false))/\Spo lo hi r N i H0 (H.set q (.arr (some 4) (es.set k p) false)) xs:=by
 have hf:AV.freeze deep (.pv (some 4) p) H=some (p,H):=rfl
 obtain⟨vs,a1,a2,a3⟩:=h.arr
 have hrq:r≠q:=by
  rintro rfl
  rw[a1] at hq
  cases hq
 refine⟨?_,⟨by simp[h.len],fun j hj=> ?_,⟨vs,by rw[List.getElem?_set_ne (fun e=>hrq e.symm)];exact a1,a2,a3⟩,fun x hx=> ?_⟩⟩
 ·obtain⟨y,hy⟩:∃y,es[k]? =some y:=⟨_,List.getElem?_eq_getElem (by omega)⟩
  simp[zaB,astore,AV.shp,hf,hq,hn,hy]
 ·rw[List.getElem?_set_ne (by omega)]
  exact h.out j hj
 ·have h3:=h.els x hx
  obtain⟨t,q'⟩:=x
  cases q' with
  |none=>exact h3
  |some q'=>
   obtain⟨k1,k2,es',k3,k4⟩:=h3
   by_cases e:q'=q
   ·subst e
    rw[hq] at k3
    cases k3
    exact⟨k1,k2,es.set k p,by rw[List.getElem?_set_self (zcH hq)],by rw[List.length_set];exact k4⟩
   ·exact⟨k1,k2,es',by rw[List.getElem?_set_ne (fun h=>e h.symm)];exact k3,k4⟩
theorem Spo.outer{lo hi r N i:Nat}{H0 H:Heap}{xs:List TE}(h:Spo lo hi r N i H0 H xs)(h1:lo<=r)(h2:r<hi)(hi':i<N)(v:AV)(hv:v.plain=true)(hs:v.shp=some 4):
  ∃H',zaB (some 4) 0 H [.epv (some 4) r N i 0,v]=some (.undef,H')/\Spo lo hi r N (i+1) H0 H' xs:=by
 obtain⟨vs,a1,a2,a3⟩:=h.arr
 obtain⟨y,hy⟩:∃y,vs[i]? =some y:=⟨_,List.getElem?_eq_getElem (by omega)⟩
 refine⟨H.set r (.arv (some 4) (vs.set i v)),?_,⟨by simp[h.len],fun j hj=> ?_,⟨vs.set i v,by rw[List.getElem?_set_self (zcH a1)],by simp[a2],fun j x hj hx=> ?_⟩,fun x hx=> ?_⟩⟩
 ·simp[zaB,astore,hv,hs,a1,a2,hy]
 ·rw[List.getElem?_set_ne (by omega)]
  exact h.out j hj
 ·rw[List.getElem?_set_ne (by omega)]
  exact a3 j x (by omega) hx
 ·have h3:=h.els x hx
  obtain⟨t,q'⟩:=x
  cases q' with
  |none=>exact h3
  |some q'=>
   obtain⟨k1,k2,es',k3,k4⟩:=h3
   have hne:r≠q':=by
    rintro rfl
    rw[a1] at k3
    cases k3
   exact⟨k1,k2,es',by rw[List.getElem?_set_ne hne];exact k3,k4⟩
theorem Spo.load{lo hi r N i:Nat}{H0 H:Heap}{xs:List TE}(h:Spo lo hi r N i H0 H xs){x:TE}(hx:xs[i]? =some x):aload none H (.epv (some 4) r N i 3)=AV.part deep (eA x) 3 none:=by
 obtain⟨vs,a1,a2,a3⟩:=h.arr
 simp[aload,a1,a2,a3 i x (Nat.le_refl _) hx]
theorem zrC(t:Tm)(q:Nat):AV.part deep (eA (t,some q)) 3 none=some (.sl (some 4) q t.args.length 0 t.args.length):=rfl
theorem zqt(t:Tm)(h:t.args=[]):AV.part deep (eA (t,none)) 3 none=some (.pv none (.sl (some 4) [])):=by
 cases t with
 |mk k n s a=>
  simp only[Tm.args] at h
  subst h
  rfl
def p7:PV:=.agg [(none,.int .i64 7),(none,.int .i64 0),(none,.str []),(none,.sl (some 4) [])]
theorem zd9{sh:Sh}{r v i o k:Nat}:ze4 k [.epv sh r v i o]=some (.epv sh r v i (o+k)):=rfl
theorem zmQ{H:Heap}{sh:Sh}{r v i o:Nat}:zaB (some 4) 0 H [.eptr sh r v i o,.agg [(none,.pv none (.int .i64 7)),(none,.pv none (.int .i64 0)),(none,.pv none (.str [])),(none,.tsl (some 4) [])]]=zaB (some 4) 0 H [.eptr sh r v i o,.pv (some 4) p7]:=rfl
theorem zlx:zdW [(none,.pv none (.int .i64 0)),(none,.pv none (.int .i64 0)),(none,.pv none (.str [])),(none,.tsl (some 4) [])] [0] [.pv none (.int .i64 7)]=some (.agg [(none,.pv none (.int .i64 7)),(none,.pv none (.int .i64 0)),(none,.pv none (.str [])),(none,.tsl (some 4) [])]):=rfl
section
variable{lo hi r N:Nat} {H0:Heap} {xs:List TE} (n:Nat)
theorem zkW{H:Heap}{i:Nat}(hS:Spo lo hi r N i H0 H xs){x:TE}(hin:i<n)(hx:xs[i]? =some x)(hm:x.1.args.length<100000000)(fr:Fr)(Q:AExit->St->Prop)
  (hfr:fr.keep [0,2,3]=[(0,.slv (some 4) r N 0 n),(2,.pv none (.int .i64 i)),(3,.pv none (.int .i64 0))])
  (hQ:∀H' rest,Spo lo hi r N i H0 H' xs->Q (.exit 2) ⟨(0,.slv (some 4) r N 0 n)::(2,.pv none (.int .i64 i))::rest,H'⟩):
  W Z L 0 (.loop [0,2,3] c25b9) ⟨fr,H⟩ Q:=by
 refine zaE (fun m st=>∃(k:Nat) (H:Heap),m=x.1.args.length - k/\k<=x.1.args.length/\Spo lo hi r N i H0 H xs/\st=⟨[(0,.slv (some 4) r N 0 n),(2,.pv none (.int .i64 i)),(3,.pv none (.int .i64 k))],H⟩) (n:=x.1.args.length) ⟨0,H,rfl,Nat.zero_le _,hS,?_⟩ ?_
 ·rw[hfr]
  rfl
 ·rintro m st ⟨k,H1,hm,hk,hS1,rfl⟩
  have hld:=hS1.load hx
  have hel:=hS1.els x (List.mem_of_getElem? hx)
  have hln:H.length=H1.length:=by rw[hS.len,hS1.len]
  have w2:IntKind.i64.wrap ((k:Int)+1)=((k+1:Nat):Int):=by rw[zaj (by omega) (by omega)];omega
  obtain⟨t,q⟩:=x
  cases q with
  |none=>
   have ha:t.args=[]:=hel
   have hk0:k=0:=by simp only[ha,List.length_nil] at hk;omega
   subst hk0
   rw[zqt t ha] at hld
   have hc:¬(0:Int)<0:=by omega
   simp -dsimp -implicitDefEqProofs only[c25b9,c25b14,go_sem,seval,↓reduceIte,zae hin,zd9,hld,hc]
   exact hQ _ _ hS1
  |some q=>
   rw[zrC t q] at hld
   obtain⟨g1,g2,es,g3,g4⟩:=hel
   simp only[] at hk hm
   by_cases hlt:k<t.args.length
   ·have hc:(k:Int)<(t.args.length:Int):=by omega
    obtain⟨i1,i2⟩:=hS1.inner g1 g2 g3 g4 hlt p7
    simp -dsimp -implicitDefEqProofs only[c25b9,c25b14,go_sem,seval,↓reduceIte,zae hin,zd9,hld,hc,zlx,zmn hlt,zmQ,i1,w2]
    refine⟨t.args.length - (k+1),by omega,k+1,_,rfl,by omega,i2,?_⟩
    rw[zao (i2.len.trans hS.len.symm)]
   ·have hc:¬(k:Int)<(t.args.length:Int):=by omega
    simp -dsimp -implicitDefEqProofs only[c25b9,c25b14,go_sem,seval,↓reduceIte,zae hin,zd9,hld,hc]
    exact hQ _ _ hS1
end
theorem zh8(lo hi:Nat)(zs:List Tm)(v:AV)(H0:Heap)(hL:LOut lo hi zs v H0)(hz:Tm.sizes zs<100000000):∃H,S 25 [v] H0=some (.ret (.tuple []),H)/\H.length=H0.length/\∀j,j<lo\/hi<=j->H[j]? =H0[j]? :=by
 suffices hS:∃v' h' H,S 25 [v] H0=some (.ret v',H)/\(v'=.tuple []/\h'.length=H0.length/\∀j,j<lo\/hi<=j->h'[j]? =H0[j]?)/\(H=h'\/(H=h'.take H0.length/\v'.refsIn.all (fun q=>decide (q<H0.length))=true)) by
  obtain⟨v',h',H,k1,⟨rfl,k2,k3⟩,k4⟩:=hS
  have:H=h':=by
   rcases k4 with h|⟨h,_⟩
   ·exact h
   ·rw[h,<-k2,List.take_length]
  subst this
  exact⟨H,k1,k2,k3⟩
 refine zcJ _ rfl rfl rfl rfl ?_
 rcases hL with⟨rfl,q,h2,h3,rfl,h5⟩|⟨r,N,xs,h1,h2,rfl,h4,h5,h6,h7,h8⟩
 ·simp -dsimp -implicitDefEqProofs only[c25b9,go_sem,seval,↓reduceIte]
  refine zaE (fun n st=>st=⟨[(0,.sl (some 4) q 0 0 0),(2,.pv none (.int .i64 0))],H0⟩) (n:=0) rfl ?_
  rintro n st rfl
  have hc:¬(0:Int)<0:=by omega
  simp -dsimp -implicitDefEqProofs only[c25b9,c25b14,go_sem,seval,↓reduceIte,hc]
  first|exact fun _ _=>trivial|exact⟨rfl,fun _ _=>rfl⟩|exact⟨trivial,rfl,fun _ _=>rfl⟩
 ·have hlen:=Tm.zsz zs
  have hS0:Spo lo hi r N 0 H0 H0 xs:=⟨rfl,fun _ _=>rfl,⟨xs.map eA,h4,by rw[List.length_map,h5],fun j x _ hx=>by rw[List.getElem?_map,hx];rfl⟩,fun x hx=>by
   have:=h8 x hx
   obtain⟨t,q⟩:=x
   cases q with
   |none=>exact this
   |some q=>exact⟨this.1,this.2.1,_,this.2.2,by rw[Tm.pvs_len]⟩⟩
  simp -dsimp -implicitDefEqProofs only[c25b9,go_sem,seval,↓reduceIte]
  refine zaE (fun n st=>∃(i:Nat) (H:Heap),n=zs.length - i/\i<=zs.length/\Spo lo hi r N i H0 H xs/\st=⟨[(0,.slv (some 4) r N 0 zs.length),(2,.pv none (.int .i64 i))],H⟩) (n:=zs.length) ⟨0,H0,rfl,Nat.zero_le _,hS0,?_⟩ ?_
  ·simp -dsimp -implicitDefEqProofs only[go_sem,seval,↓reduceIte]
   try rfl
  ·rintro n st ⟨i,H,hn,hi',hS,rfl⟩
   by_cases hlt:i<zs.length
   ·have hc:(i:Int)<(zs.length:Int):=by omega
    obtain⟨x,hx⟩:∃x,xs[i]? =some x:=⟨_,List.getElem?_eq_getElem (by omega)⟩
    have hxz:zs[i]? =some x.1:=by
     rw[<-h7,List.getElem?_map,List.getElem?_take_of_lt hlt,hx]
     rfl
    have hxs:=Tm.zsA (List.mem_of_getElem? hxz)
    have hxl:=Tm.zsz x.1.args
    have hxe:=x.1.size_eq
    have w2:IntKind.i64.wrap ((i:Int)+1)=((i+1:Nat):Int):=by rw[zaj (by omega) (by omega)];omega
    simp -dsimp -implicitDefEqProofs only[c25b14,go_sem,seval,↓reduceIte,hc]
    refine zkW zs.length hS hlt hx (by omega) _ _ rfl fun H' rest hS'=> ?_
    obtain⟨H3,o1,o2⟩:=hS'.outer h1 h2 (show i<N by omega) (.agg [(none,.pv none (.int .i64 7)),(none,.pv none (.int .i64 0)),(none,.pv none (.str [])),(none,.tsl (some 4) [])]) rfl rfl
    simp -dsimp -implicitDefEqProofs only[c25b14,go_sem,seval,↓reduceIte,zlx,zae hlt,o1,w2]
    refine⟨zs.length - (i+1),by omega,i+1,_,rfl,by omega,o2,?_⟩
    rw[zao o2.len]
   ·have hc:¬(i:Int)<(zs.length:Int):=by omega
    simp -dsimp -implicitDefEqProofs only[c25b14,go_sem,seval,↓reduceIte,hc]
    first|exact⟨hS.len,hS.out⟩|exact⟨trivial,hS.len,hS.out⟩
theorem zo0:∀(a b:Tm) (hp:Heap),a.size<1000000000->S 49 [a.av,b.av] hp=some (.ret (.pv none (.bool (decide (a.cmp b=0)))),hp):=by
 intro a
 induction a using Tm.zsF with
 |h a ih=>
  intro b hp ha
  have hts:=a.size_eq
  have hlen:=Tm.zsz a.args
  refine zap rfl rfl rfl (zab [(some 4,a.pv),(some 4,b.pv)]) rfl ?_
  by_cases hall:a.kind=b.kind/\a.n=b.n/\a.name=b.name/\a.args.length=b.args.length
  ·obtain⟨h1,h2,h3,h4⟩:=hall
   have hz:a.cmp b=Tm.cmps a.args b.args:=by
    rw[Tm.zsM,h1,h2,h3,h4,zdo,zdo,zdo,cb_zero.2 rfl]
    rfl
   rw[hz]
   simp -dsimp -implicitDefEqProofs only[c49b12,go_sem,seval,↓reduceIte,zaK,zdm,zaN,zag,Tm.pvs_len,h1,h2,h3,h4]
   refine zaE (fun n st=>∃i:Nat,n=a.args.length - i/\i<=a.args.length/\Tm.cmps a.args b.args=Tm.cmps (a.args.drop i) (b.args.drop i)/\st=⟨[(2,.ptr 0 0),(3,.ptr 1 0),(5,.pv none (.int .i64 i))],[.box (some 4) (.pv (some 4) a.pv),.box (some 4) (.pv (some 4) b.pv)]⟩) (n:=a.args.length) ⟨0,rfl,Nat.zero_le _,rfl,?_⟩ ?_
   ·simp -dsimp -implicitDefEqProofs only[go_sem,seval,↓reduceIte]
    try rfl
   ·rintro n st ⟨i,hn,hi,he,rfl⟩
    by_cases h:i<a.args.length
    ·have hc:(i:Int)<(a.args.length:Int):=by omega
     obtain⟨u,hu⟩:∃u,a.args[i]? =some u:=⟨_,List.getElem?_eq_getElem h⟩
     obtain⟨w,hw⟩:∃w,b.args[i]? =some w:=⟨_,List.getElem?_eq_getElem (by omega)⟩
     have hum:=List.mem_of_getElem? hu
     have husz:=Tm.zsE hum
     have hcall:=fun hp=>ih u hum w hp (by omega)
     simp only[Tm.av] at hcall
     have w2:IntKind.i64.wrap ((i:Int)+1)=((i+1:Nat):Int):=by rw[zaj (by omega) (by omega)];omega
     rw[Tm.zsO hu hw] at he
     by_cases h0:u.cmp w=0
     ·rw[h0,zdN] at he
      simp -dsimp -implicitDefEqProofs only[c49b12,go_sem,seval,↓reduceIte,zag,Tm.pvs_len,hc,zad (Tm.pvs_get hu),zad (Tm.pvs_get hw),hcall,w2,h0]
      exact⟨a.args.length - (i+1),by omega,i+1,rfl,by omega,he,rfl⟩
     ·rw[zfH h0] at he
      simp -dsimp -implicitDefEqProofs only[c49b12,go_sem,seval,↓reduceIte,zag,Tm.pvs_len,hc,zad (Tm.pvs_get hu),zad (Tm.pvs_get hw),hcall,w2,h0,he]
    ·have hc:¬(i:Int)<(a.args.length:Int):=by omega
     obtain rfl:i=a.args.length:=by omega
     rw[List.drop_length,Tm.zsH] at he
     simp -dsimp -implicitDefEqProofs only[c49b12,go_sem,seval,↓reduceIte,zag,Tm.pvs_len,hc,he]
  ·have hz:¬a.cmp b=0:=fun h=>hall (by rw[Tm.cmp_zero.1 h];exact⟨rfl,rfl,rfl,rfl⟩)
   replace hall:=Kept.mk hall
   replace hts:=Kept.mk hts
   clear ih
   (repeat' (first|(simp -dsimp -implicitDefEqProofs only[go_sem,seval,↓reduceIte,zaK,zdm,zaN,zag,Tm.pvs_len, *])|(refine zas (fun _=> ?_) (fun _=> ?_))))
   exact absurd ⟨‹_›,‹_›,‹_›,by omega⟩ hall.out

def same(a b:Tm):Bool:=a.valid && (b.valid && decide (a.cmp b=0))
theorem zqq(a b:Tm)(hp:Heap)(ha:a.size<1000000000)(hb:b.size<1000000000):S 28 [a.av,b.av] hp=some (.ret (.pv none (.bool (same a b))),hp):=by
 refine zap rfl rfl rfl (zab [(some 4,a.pv),(some 4,b.pv)]) rfl ?_
 have h1:=fun hp=>zdv a hp ha
 have h2:=fun hp=>zdv b hp hb
 have h3:=fun hp=>zo0 a b hp ha
 simp only[Tm.av] at h1 h2 h3
 unfold same
 by_cases va:a.valid=true
 ·by_cases vb:b.valid=true
  ·(repeat' (first|(simp -dsimp -implicitDefEqProofs only[go_sem,seval,↓reduceIte, *])|(refine zas (fun _=> ?_) (fun _=> ?_))))
  ·(repeat' (first|(simp -dsimp -implicitDefEqProofs only[go_sem,seval,↓reduceIte, *])|(refine zas (fun _=> ?_) (fun _=> ?_))))
 ·(repeat' (first|(simp -dsimp -implicitDefEqProofs only[go_sem,seval,↓reduceIte, *])|(refine zas (fun _=> ?_) (fun _=> ?_))))

theorem zo1{t:Tm}(h:t.valid=true):same t t=true:=by simp[same,h,Tm.cmp_zero]
theorem zfs(l:List Tm)(hv:∀t∈l,t.valid=true)(hl:l.length<1000000000):S 22 [.pv none (.sl (some 4) (Tm.pvs l)),.pv none (.sl (some 4) (Tm.pvs l))] []=some (.ret (.pv none (.bool true)),[]):=by
 refine zap rfl rfl rfl (zab [(none,.sl (some 4) (Tm.pvs l)),(none,.sl (some 4) (Tm.pvs l))]) rfl ?_
 simp -dsimp -implicitDefEqProofs only[go_sem,seval,↓reduceIte]
 refine zqf (α:=Unit) l.length (fun _ _=>True) (fun i _=>⟨[(0,.pv none (.sl (some 4) (Tm.pvs l))),(1,.pv none (.sl (some 4) (Tm.pvs l))),(5,.pv none (.int .i64 i))],[]⟩) () ⟨trivial,rfl⟩ ?_ ?_
 ·rintro i - h -
  have hc:(i:Int)<(l.length:Int):=by omega
  obtain⟨u,hu⟩:∃u,l[i]? =some u:=⟨_,List.getElem?_eq_getElem h⟩
  have hum:=List.mem_of_getElem? hu
  have hus:=zg3 (hv u hum)
  have hcall:=fun hp=>zqq u u hp (by omega) (by omega)
  rw[zo1 (hv u hum)] at hcall
  simp only[Tm.av] at hcall
  have w2:IntKind.i64.wrap ((i:Int)+1)=((i+1:Nat):Int):=by rw[zaj (by omega) (by omega)];omega
  simp -dsimp -implicitDefEqProofs only[go_sem,seval,↓reduceIte,Tm.pvs_len,hc,zad (Tm.pvs_get hu),hcall,w2]
  exact⟨(),trivial⟩
 ·rintro - -
  have hc:¬(l.length:Int)<(l.length:Int):=by omega
  simp -dsimp -implicitDefEqProofs only[go_sem,seval,↓reduceIte,Tm.pvs_len,hc]
theorem zo2(l:List Tm)(hl:Tm.sizes l<1000000000):S 23 [.pv none (.sl (some 4) (Tm.pvs l))] []=some (.ret (.pv none (.bool (zak l))),[]):=by
 refine zap rfl rfl rfl (zab [(none,.sl (some 4) (Tm.pvs l))]) rfl ?_
 have hlen:=Tm.zsz l
 simp -dsimp -implicitDefEqProofs only[go_sem,seval,↓reduceIte]
 refine zaE (fun n st=>∃i:Nat,n=l.length - i/\i<=l.length/\zak (l.take i)=true/\st=⟨[(0,.pv none (.sl (some 4) (Tm.pvs l))),(3,.pv none (.int .i64 i))],[]⟩) (n:=l.length) ⟨0,rfl,Nat.zero_le _,rfl,?_⟩ ?_
 ·simp -dsimp -implicitDefEqProofs only[go_sem,seval,↓reduceIte]
  try rfl
 ·rintro n st ⟨i,hn,hi,he,rfl⟩
  by_cases h:i<l.length
  ·have hc:(i:Int)<(l.length:Int):=by omega
   obtain⟨u,hu⟩:∃u,l[i]? =some u:=⟨_,List.getElem?_eq_getElem h⟩
   have hum:=List.mem_of_getElem? hu
   have husz:=Tm.zsA hum
   have hcall:=fun hp=>zdv u hp (by omega)
   simp only[Tm.av] at hcall
   have w2:IntKind.i64.wrap ((i:Int)+1)=((i+1:Nat):Int):=by rw[zaj (by omega) (by omega)];omega
   by_cases h0:u.valid=true
   ·simp -dsimp -implicitDefEqProofs only[go_sem,seval,↓reduceIte,Tm.pvs_len,hc,zad (Tm.pvs_get hu),hcall,w2,h0]
    exact⟨l.length - (i+1),by omega,i+1,rfl,by omega,by rw[zc0 hu,he,h0];rfl,rfl⟩
   ·rw[Bool.not_eq_true] at h0
    simp -dsimp -implicitDefEqProofs only[go_sem,seval,↓reduceIte,Tm.pvs_len,hc,zad (Tm.pvs_get hu),hcall,w2,h0,zcy hum h0]
  ·have hc:¬(i:Int)<(l.length:Int):=by omega
   obtain rfl:i=l.length:=by omega
   rw[List.take_length] at he
   simp -dsimp -implicitDefEqProofs only[go_sem,seval,↓reduceIte,Tm.pvs_len,hc,he]
theorem zmP(l:List Tm)(hl:Tm.sizes l<1000000000)(hp:Heap):S 23 [.pv none (.sl (some 4) (Tm.pvs l))] hp=some (.ret (.pv none (.bool (zak l))),hp):=
 zdp (ps:=[(none,.sl (some 4) (Tm.pvs l))]) rfl rfl rfl rfl (zo2 l hl)
theorem zsc(l:List Tm)(hl:Tm.sizes l<1000000000)(hp:Heap):S 15 [.pv none (.sl (some 4) (Tm.pvs l))] hp=some (.ret (.pv none (.sl (some 4) (Tm.pvs (l.take 40)))),hp):=by
 refine zap rfl rfl rfl (zab [(none,.sl (some 4) (Tm.pvs l))]) rfl ?_
 have hlen:=Tm.zsz l
 simp -dsimp -implicitDefEqProofs only[go_sem,seval,↓reduceIte,zba (show 0<Sh.size (some 4) by decide)]
 refine zaE (fun n st=>∃i:Nat,n=l.length - i/\i<=l.length/\i<=40/\st=⟨[(0,.pv none (.sl (some 4) (Tm.pvs l))),(3,.sl (some 4) 1 i 0 i),(4,.pv none (.int .i64 i))],[.arr (some 4) [] false,.arr (some 4) (Tm.pvs (l.take i)) false]⟩) (n:=l.length) ⟨0,rfl,Nat.zero_le _,by omega,?_⟩ ?_
 ·simp -dsimp -implicitDefEqProofs only[go_sem,seval,↓reduceIte]
  rfl
 ·rintro n st ⟨i,hn,hi,hi',rfl⟩
  by_cases h:i<l.length
  ·have hc:(i:Int)<(l.length:Int):=by omega
   by_cases h40:i<40
   ·have hc':(i:Int)<40:=by omega
    obtain⟨u,hu⟩:∃u,l[i]? =some u:=⟨_,List.getElem?_eq_getElem h⟩
    have w2:IntKind.i64.wrap ((i:Int)+1)=((i+1:Nat):Int):=by rw[zaj (by omega) (by omega)];omega
    have hlm:i+1<=lim:=by unfold lim;omega
    have hti:(l.take i).length=i:=by simp;omega
    simp -dsimp -implicitDefEqProofs only[go_sem,seval,↓reduceIte,Tm.pvs_len,hc,hc',zad (Tm.pvs_get hu),w2,hlm,hti,Tm.zsD hu]
    exact⟨l.length - (i+1),by omega,i+1,rfl,by omega,by omega,rfl⟩
   ·have hc':¬(i:Int)<40:=by omega
    obtain rfl:i=40:=by omega
    have hti:(l.take 40).length=40:=by simp;omega
    have hd:(40:Int)<(l.length:Int):=by omega
    have hd2:¬(40:Int)<40:=by omega
    simp -dsimp -implicitDefEqProofs only[go_sem,seval,↓reduceIte,Tm.pvs_len,hc,hc',hd,hd2,show((40:Nat):Int)=40 from rfl,hti]
  ·have hc:¬(i:Int)<(l.length:Int):=by omega
   obtain rfl:i=l.length:=by omega
   have hti:(l.take l.length).length=l.length:=by simp
   simp -dsimp -implicitDefEqProofs only[go_sem,seval,↓reduceIte,Tm.pvs_len,hc,hti]
   rw[List.take_length,List.take_of_length_le hi']

theorem zo3{hp:Heap}{r:Nat}(t:Tm)(h:hp[r]? =some (.arr (some 4) (Tm.pvs t.args) false)):Am.frozen t.av (.agg [(none,.pv none (.int .i64 t.kind)),(none,.pv none (.int .i64 t.n)),(none,.pv none (.str t.name)),(none,.sl (some 4) r t.args.length 0 t.args.length)]) hp:=by
 refine⟨hp.set r (.arr (some 4) (Tm.pvs t.args) true),?_⟩
 cases t with
 |mk k n s ts=>
  show(match AV.freeze (7+1) (.agg _) hp with|some (p,hp')=>some (AV.pv _ p,hp')|none=>none)=_
  have e:∀l hp,AV.freeze (7+1) (.agg l) hp=match AV.freeze.go 7 l hp with|some (ps,hp')=>some (.agg ps,hp')|none=>none:=fun _ _=>rfl
  simp only[Tm.args] at h
  simp[e,AV.freeze.go,AV.freeze,h,Tm.kind,Tm.n,Tm.name,Tm.args,Tm.pvs_len,Tm.av,Tm.pv]
  rfl

def appR(n:Nat)(t:Tm)(i:Nat):Heap:=appH n t i i
theorem zo4:∀(t:Tm) (hp:Heap),t.size<1000000000->S 47 [t.av] hp=some (.ret t.av,hp):=by
 intro t
 induction t using Tm.zsF with
 |h t ih=>
  intro hp ht
  have hts:=t.size_eq
  have hlen:=Tm.zsz t.args
  refine zap rfl rfl rfl (zab [(some 4,t.pv)]) rfl ?_
  have hb:zdW [(none,.pv none (.int .i64 0)),(none,.pv none (.int .i64 0)),(none,.pv none (.str [])),(none,.tsl (some 4) [])] [0,1,2] [.pv none (.int .i64 t.kind),.pv none (.int .i64 t.n),.pv none (.str t.name)]=some (.agg [(none,.pv none (.int .i64 t.kind)),(none,.pv none (.int .i64 t.n)),(none,.pv none (.str t.name)),(none,.tsl (some 4) [])]):=rfl
  simp -dsimp -implicitDefEqProofs only[go_sem,seval,↓reduceIte,Tm.av,zaK,zdm,zaN,zag,Tm.pvs_len,hb,zbm (Nat.zero_le _)]
  refine zqf (α:=Unit) t.args.length (fun _ _=>True) (fun i _=>⟨[(1,.ptr 0 0),(2,.ptr 1 0),(3,.ptr 3 0),(4,.pv none (.int .i64 i))],appR 0 t i⟩) () ⟨trivial,rfl⟩ ?_ ?_
  ·rintro i - h -
   have hc:(i:Int)<(t.args.length:Int):=by omega
   obtain⟨u,hu⟩:∃u,t.args[i]? =some u:=⟨_,List.getElem?_eq_getElem h⟩
   have hum:=List.mem_of_getElem? hu
   have husz:=Tm.zsE hum
   have hcall:=fun hp=>ih u hum hp (by omega)
   simp only[Tm.av] at hcall
   have w2:IntKind.i64.wrap ((i:Int)+1)=((i+1:Nat):Int):=by rw[zaj (by omega) (by omega)];omega
   have hl:(Tm.pvs (t.args.take i)).length=i:=by rw[Tm.pvs_len,List.length_take];omega
   have hlim:i+1<=lim:=by unfold lim;omega
   simp -dsimp -implicitDefEqProofs only[go_sem,seval,↓reduceIte,appR,appH,zag,Tm.pvs_len,hc,zad (Tm.pvs_get hu),hcall,w2,hl,hlim,Tm.zsD hu,zbm (Nat.zero_le _),zg1 (Nat.zero_le _)]
   exact⟨(),rfl⟩
  ·rintro - -
   have hc:¬(t.args.length:Int)<(t.args.length:Int):=by omega
   simp -dsimp -implicitDefEqProofs only[go_sem,seval,↓reduceIte,appR,appH,zag,Tm.pvs_len,hc,List.take_length,zkM,zbm (Nat.zero_le _),zg1 (Nat.zero_le _)]
   exact zo3 t rfl
theorem zoM:yes (asem (find tab) prim 60 .fn 14 [] [])=true:=by kernel_rfl
theorem zqi(hp:Heap):sem (find tab) prim .fn 14 [] hp=some (.ret (.pv none (.bool true)),hp):=
 zdp (ps:=[]) rfl rfl rfl rfl (sem_iff.2 ⟨60,zr9 zoM⟩)
theorem LOut.freeze{lo hi:Nat}{zs:List Tm}{v:AV}{H:Heap}(h:LOut lo hi zs v H):∃H',AV.freeze deep v H=some (.sl (some 4) (Tm.pvs zs),H')/\v.shp=none:=by
 rcases h with⟨rfl,q,h2,h3,rfl,h5⟩|⟨r,N,xs,h1,h2,rfl,h4,h5,h6,h7,h8⟩
 ·refine⟨H.set q (.arr (some 4) [] true),?_,rfl⟩
  show AV.freeze (7+1) _ _=_
  simp[AV.freeze,h5,Tm.pvs]
 ·have key:∀(l:List TE) (H:Heap),(∀x∈l,okE H x)->∃H',AV.freeze0.go 7 (l.map fun x=>(some 4,eA x)) H=some (l.map fun x=>(some 4,x.1.pv),H')/\(∀y,okE H y->okE H' y)/\∀j:Nat,(∃es,H[j]? =some (AObj.arv (some 4) es))->H'[j]? =H[j]? :=by
   intro l
   induction l with
   |nil=>exact fun H _=>⟨H,rfl,fun _ h=>h,fun _ _=>rfl⟩
   |cons x l ih=>
    intro H hH
    obtain⟨t,q⟩:=x
    have hx:=hH (t,q) List.mem_cons_self
    cases q with
    |none=>
     obtain⟨H',k1,k2,k3⟩:=ih H fun y hy=>hH y (List.mem_cons_of_mem _ hy)
     refine⟨H',?_,k2,k3⟩
     have e:AV.freeze0 7 (eA (t,none)) H=some (t.pv,H):=rfl
     simp only[List.map_cons,AV.freeze0.go,e,k1]
    |some q=>
     obtain⟨z,hz⟩:=hx
     have e:AV.freeze0 7 (eA (t,some q)) H=some (t.pv,H.set q (.arr (some 4) (Tm.pvs t.args) true)):=by
      cases t with
      |mk k n s ts=>
       simp only[Tm.args] at hz
       show AV.freeze0 (6+1) (.agg _) _=_
       simp[AV.freeze0,AV.freeze0.go,hz,Tm.kind,Tm.n,Tm.name,Tm.args,Tm.pvs_len,Tm.pv]
     have hk:∀y,okE H y->okE (H.set q (.arr (some 4) (Tm.pvs t.args) true)) y:=by
      intro y hy
      obtain⟨H1,g1,g2⟩:=okE.freeze (H:=H) (x:=(t,some q)) ⟨z,hz⟩
      rw[zgl t q H hz] at g1
      cases g1
      exact g2 y hy
     obtain⟨H',k1,k2,k3⟩:=ih (H.set q (.arr (some 4) (Tm.pvs t.args) true)) fun y hy=>hk y (hH y (List.mem_cons_of_mem _ hy))
     have hne:∀j,(∃es,H[j]? =some (AObj.arv (some 4) es))->q≠j:=by
      rintro j ⟨es,hj⟩ rfl
      rw[hj] at hz
      cases hz
     refine⟨H',by simp only[List.map_cons,AV.freeze0.go,e,k1],fun y hy=>k2 y (hk y hy),fun j hj=> ?_⟩
     rw[k3 j (by obtain⟨es,hj'⟩:=hj;exact⟨es,by rw[List.getElem?_set_ne (hne j ⟨es,hj'⟩)];exact hj'⟩),List.getElem?_set_ne (hne j hj)]
  obtain⟨H',k1,_,k3⟩:=key xs H fun x hx=>(h8 x hx).okE
  simp only[obj] at h4
  have g1:=k3 r ⟨_,h4⟩
  rw[h4] at g1
  refine⟨H'.set r (.arr (some 4) (xs.map fun x=>x.1.pv) true),?_,rfl⟩
  show AV.freeze (7+1) _ _=_
  have e1:((xs.map eA).map fun e=>((some 4:Sh),e))=xs.map fun x=>(some 4,eA x):=by rw[List.map_map];rfl
  have e2:((xs.map fun x=>((some 4:Sh),x.1.pv)).map (·.2))=xs.map fun x=>x.1.pv:=by rw[List.map_map];rfl
  have e3:(xs.map fun x:TE=>x.1.pv).take zs.length=Tm.pvs zs:=by
   rw[Tm.zsK]
   conv=>rhs;rw[<-h7]
   rw[<-List.map_take,List.map_map]
   rfl
  simp only[AV.freeze,h4,List.length_map,h5]
  rw[if_pos ⟨trivial,by omega⟩,e1,k1]
  simp only[g1,List.length_map,h5,if_true,e2,List.drop_zero,e3]
theorem zh5{lo hi:Nat}{zs:List Tm}{v:AV}{H:Heap}(h:LOut lo hi zs v H)(hv:∀t∈zs,t.valid=true)(hl:zs.length<1000000000):S 22 [v,.pv none (.sl (some 4) (Tm.pvs zs))] H=some (.ret (.pv none (.bool true)),H):=by
 obtain⟨H',h1,h2⟩:=h.freeze
 have hf:AV.freeze deep (.pv none (.sl (some 4) (Tm.pvs zs))) H'=some (.sl (some 4) (Tm.pvs zs),H'):=rfl
 have hz:zal [v,.pv none (.sl (some 4) (Tm.pvs zs))] H=some ([(none,.sl (some 4) (Tm.pvs zs)),(none,.sl (some 4) (Tm.pvs zs))],H'):=by
  simp only[zal,h1,h2,hf]
  rfl
 exact zdp rfl rfl rfl hz (zfs zs hv hl)
theorem zoS(t:Tm)(hp:Heap)(hv:t.valid=true)(ht:t.size<1000000000):S 24 [t.av] hp=some (.ret t.av,hp):=by
 refine zap rfl rfl rfl (zab [(some 4,t.pv)]) rfl ?_
 have h1:=fun hp=>zdv t hp ht
 have h2:=fun hp=>zo4 t hp ht
 rw[hv] at h1
 simp only[Tm.av] at h1 h2
 simp -dsimp -implicitDefEqProofs only[go_sem,seval,↓reduceIte,Tm.av,h1,h2,zbm (Nat.zero_le _)]
def zS(K:List Tm):List Tm:=if zak K=true then zmR K else[]
def zB(K:List Tm):List Tm:=if zak K=true then isort Tm.cmp K else[]
def zI(K:List Tm):Int:=if zak K=true then 0 else 1
theorem zqQ{K:List Tm}{t:Tm}(h:t∈zB K):t∈K/\t.valid=true:=by
 unfold zB at h
 split at h
 ·rename_i hv
  have:=(za2 K).mem_iff.1 h
  exact⟨this,zar hv this⟩
 ·cases h
theorem zqR{K:List Tm}{t:Tm}(h:t∈zS K):t∈K/\t.valid=true:=by
 unfold zS zmR at h
 split at h
 ·rename_i hv
  have:=(za2 K).mem_iff.1 (mem_dd.1 h)
  exact⟨this,zar hv this⟩
 ·cases h
theorem zjA{K:List Tm}{t:Tm}(h:t∈zcj K):t∈K/\t.valid=true:=by
 unfold zcj at h
 split at h
 ·rename_i hv
  have:=(za2 K).mem_iff.1 h
  exact⟨this,zar hv.1 this⟩
 ·cases h
theorem zqS(K:List Tm):(zB K).length<=K.length:=by
 unfold zB
 split
 ·rw[zan];exact Nat.le_refl _
 ·exact Nat.zero_le _
theorem zqT(K:List Tm):(zS K).length<=K.length:=by
 unfold zS zmR
 split
 ·have:=zeB (isort Tm.cmp K);rw[zan] at this;exact this
 ·exact Nat.zero_le _
theorem zjB(K:List Tm):(zcj K).length<=K.length:=by
 unfold zcj
 split
 ·rw[zan];exact Nat.le_refl _
 ·exact Nat.zero_le _
theorem zcZ:∀(l:List Tm),(∀t∈l,t.valid=true)->Tm.sizes l<=2000*l.length
 |[],_=>Nat.zero_le _
 |x::r,h=>by
  have hx:=zg3 (h x List.mem_cons_self)
  have ih:=zcZ r fun t ht=>h t (List.mem_cons_of_mem _ ht)
  simp only[Tm.sizes,List.length_cons]
  omega
theorem zoT(K:List Tm)(hl:Tm.sizes K<100000000)(hp:Heap):S 19 [.pv none (.sl (some 4) (Tm.pvs K))] hp=some (.ret (.tuple [.pv none (.sl (some 4) (Tm.pvs (zS K))),.pv none (.int .i64 (zI K))]),hp):=by
 unfold zS zI
 by_cases h:zak K=true
 ·rw[if_pos h,if_pos h];exact zqp K h hl hp
 ·rw[if_neg h,if_neg h];exact zoZ K (by simpa using h) hl hp
theorem zkR(K:List Tm)(hl:Tm.sizes K<100000000)(hp:Heap):S 20 [.pv none (.sl (some 4) (Tm.pvs K))] hp=some (.ret (.tuple [.pv none (.sl (some 4) (Tm.pvs (zB K))),.pv none (.int .i64 (zI K))]),hp):=by
 unfold zB zI
 by_cases h:zak K=true
 ·rw[if_pos h,if_pos h];exact zha K h hl hp
 ·rw[if_neg h,if_neg h];exact zgp K (by simpa using h) hl hp
theorem zoU(l:List Tm)(hl:Tm.sizes l<=1048576):S 4 [.pv none (.sl (some 4) (Tm.pvs l))] []=some (.ret (.pv none (.bool true)),[]):=by
 refine zgh rfl rfl rfl rfl rfl ?_
 have hfew:=fun hp=>zsc l (by omega) hp
 have hKs:=Tm.zsB l 40
 have hK40:(l.take 40).length<=40:=by rw[List.length_take];omega
 generalize l.take 40=K at hfew hKs hK40
 obtain⟨v1,H1,e1,⟨x1,p1⟩,o1⟩:TOut [] (zS K) (zI K) _:=zqC [] K (by omega)
 obtain⟨v2,H2,e2,⟨x2,p2⟩,o2⟩:TOut H1 (zB K) (zI K) _:=zhb H1 K (by omega)
 obtain⟨v3,H3,e3,⟨x3,p3⟩,o3⟩:=zqB H2 K (by omega)
 have q12:H1.length<=H2.length:=by rw[p2];simp
 have q23:H2.length<=H3.length:=by rw[p3];simp
 have o13:LOut 0 H1.length (zS K) v1 H3:=by
  have:=o1.app (Nat.le_refl _) (x2++x3)
  rw[<-List.append_assoc,<-p2,<-p3] at this
  exact this
 have o23:LOut H1.length H2.length (zB K) v2 H3:=by
  have:=o2.app (Nat.le_refl _) x3
  rw[<-p3] at this
  exact this
 have r1:=fun hp=>zoT K (by omega) hp
 have r2:=fun hp=>zkR K (by omega) hp
 have r3:=fun hp=>zqo K (by omega) hp
 have s1:=zh5 o13 (fun t ht=>(zqR ht).2) (by have:=zqT K;omega)
 have s2:=zh5 o23 (fun t ht=>(zqQ ht).2) (by have:=zqS K;omega)
 have s3:=zh5 o3 (fun t ht=>(zjA ht).2) (by have:=zjB K;omega)
 have hv:=fun hp=>zmP K (by omega) hp
 have haw:=zqi
 have hn0:∀H:Heap,zb2 (some 4) H=some (.sl (some 4) H.length 0 0 0,H++[.arr (some 4) [] false]):=fun H=>zba (sh:=some 4) (by decide)
 by_cases h:zak K=true
 ·rw[h] at hv
  simp -dsimp -implicitDefEqProofs only[go_sem,seval,↓reduceIte,hfew,e1,e2,e3,r1,r2,r3,s1,s2,s3,hv,hn0]
  obtain⟨Q0,hQ0⟩:∃Q0:Nat->Heap,Q0=fun i=>H3++[.arr (some 4) (Tm.pvs (K.take i)) false]:=⟨_,rfl⟩
  have hg:∀i,(Q0 i)[H3.length]? =some (.arr (some 4) (Tm.pvs (K.take i)) false):=fun i=>by rw[hQ0];exact zb6 _ _
  have hln:∀i,(Q0 i).length=H3.length+1:=fun i=>by rw[hQ0];simp
  have hap:∀i u,i<K.length->K[i]? =some u->za8 (some 4) (Q0 i) [.sl (some 4) H3.length i 0 i,.tsl (some 4) [u.pv]]=some (.sl (some 4) H3.length (i+1) 0 (i+1),Q0 (i+1)):=fun i u hi hu=>by
   have hl:(Tm.pvs (K.take i)).length=i:=by rw[Tm.pvs_len,List.length_take];omega
   have hlim:i+1<=lim:=by unfold lim;omega
   have hse:(Q0 i).set H3.length (.arr (some 4) (Tm.pvs (K.take i)++[u.pv]) false)=Q0 (i+1):=by
    rw[hQ0,Tm.zsD hu]
    exact zdQ _ _ _
   simp[za8,aappend,elems,hg,hl,hlim,hse]
  have hbs:∀i (u:Tm),zbi (some 4) (Q0 i) [.pv (some 4) u.pv]=some (.tsl (some 4) [u.pv],Q0 i):=fun i u=>rfl
  have hst0:H3++[.arr (some 4) [] false]=Q0 0:=by rw[hQ0];rfl
  rw[hst0]
  refine zqf (α:=Unit) K.length (fun _ _=>True) (fun i _=>⟨[(0,.pv none (.sl (some 4) (Tm.pvs K))),(3,v1),(5,v2),(7,v3),(15,.sl (some 4) H3.length i 0 i),(16,.pv none (.int .i64 i))],Q0 i⟩) () ⟨trivial,rfl⟩ ?_ ?_
  ·rintro i - hi -
   have hc:(i:Int)<(K.length:Int):=by omega
   obtain⟨u,hu⟩:∃u,K[i]? =some u:=⟨_,List.getElem?_eq_getElem hi⟩
   have hum:=List.mem_of_getElem? hu
   have hus:=Tm.zsA hum
   have w2:IntKind.i64.wrap ((i:Int)+1)=((i+1:Nat):Int):=by rw[zaj (by omega) (by omega)];omega
   have hcl:=fun hp=>zoS u hp (zar h hum) (by omega)
   simp only[Tm.av] at hcl
   have ha:=hap i u hi hu
   simp -dsimp -implicitDefEqProofs only[go_sem,seval,↓reduceIte,Tm.pvs_len,hc,zad (Tm.pvs_get hu),hcl,hbs,ha,w2]
   first|exact⟨(),by rw[zao ((hln _).trans (hln 0).symm)]⟩|exact⟨(),trivial,by rw[zao ((hln _).trans (hln 0).symm)]⟩
  ·rintro - -
   have hc:¬(K.length:Int)<(K.length:Int):=by omega
   have ext:∀(lo hi:Nat) (zs:List Tm) (v:AV),LOut lo hi zs v H3->hi<=H3.length->LOut lo hi zs v (Q0 K.length):=fun lo hi zs v ho hh=>by rw[hQ0];exact ho.app hh _
   obtain⟨H5,u1,u2,u3⟩:=zh8 0 H1.length (zS K) v1 (Q0 K.length) (ext _ _ _ _ o13 (by omega)) (by have:=zcZ (zS K) fun t ht=>(zqR ht).2;have:=zqT K;omega)
   obtain⟨H6,u4,u5,u6⟩:=zh8 H1.length H2.length (zB K) v2 H5 ((ext _ _ _ _ o23 q23).agree fun j h1 h2=>u3 j (by omega)) (by have:=zcZ (zB K) fun t ht=>(zqQ ht).2;have:=zqS K;omega)
   obtain⟨H7,u7,u8,u9⟩:=zh8 H2.length H3.length (zcj K) v3 H6 ((ext _ _ _ _ o3 (Nat.le_refl _)).agree fun j h1 h2=>by rw[u6 j (by omega),u3 j (by omega)]) (by have:=zcZ (zcj K) fun t ht=>(zjA ht).2;have:=zjB K;omega)
   have hw:H7[H3.length]? =some (.arr (some 4) (Tm.pvs K) false):=by
    rw[u9 _ (by omega),u6 _ (by omega),u3 _ (by omega),hg,List.take_length]
   have s4:S 22 [.pv none (.sl (some 4) (Tm.pvs K)),.sl (some 4) H3.length K.length 0 K.length] H7=some (.ret (.pv none (.bool true)),H7):=by
    have hf1:AV.freeze deep (.pv none (.sl (some 4) (Tm.pvs K))) H7=some (.sl (some 4) (Tm.pvs K),H7):=rfl
    have hf2:AV.freeze deep (.sl (some 4) H3.length K.length 0 K.length) H7=some (.sl (some 4) (Tm.pvs K),H7.set H3.length (.arr (some 4) (Tm.pvs K) true)):=by
     show AV.freeze (7+1) _ _=_
     simp[AV.freeze,hw,Tm.pvs_len]
    have hz:zal [.pv none (.sl (some 4) (Tm.pvs K)),.sl (some 4) H3.length K.length 0 K.length] H7=some ([(none,.sl (some 4) (Tm.pvs K)),(none,.sl (some 4) (Tm.pvs K))],H7.set H3.length (.arr (some 4) (Tm.pvs K) true)):=by
     simp only[zal,hf1,hf2]
     rfl
    exact zdp rfl rfl rfl hz (zfs K (fun t ht=>zar h ht) (by omega))
   simp -dsimp -implicitDefEqProofs only[go_sem,seval,↓reduceIte,Tm.pvs_len,hc,u1,u4,u7,s4,haw]
   have hk:zcA ([]:Heap).length [] H7=true:=by cases H7 <;> rfl
   first|exact hk|exact⟨rfl,hk,rfl⟩
 ·rw[Bool.not_eq_true] at h
  rw[h] at hv
  simp -dsimp -implicitDefEqProofs only[go_sem,seval,↓reduceIte,hfew,e1,e2,e3,r1,r2,r3,s1,s2,s3,hv,haw]
  cases H3 <;> rfl
end Go.Proofs.Yteaehiceghhajaa
namespace Go.Proofs.Yteaehiceghhajaa
open Go.Am Go.ChangeShapes Go.WideShapes Go.ChangeAt Go.RowKit
theorem zoP(H:Type):BulkLaws (H:=H) Rows.uptoBulk Rows.uptoBulkAll where
 nil:=by simp[Rows.uptoBulkAll]
 cons d r:=by simp[Rows.uptoBulkAll]
 slice e s:=by simp[Rows.uptoBulk]
 agg l:=by simp[Rows.uptoBulk]
 string l:=by simp[Rows.uptoBulk]
theorem zmL{H:Type}{l:List (DataW H)}(hk:Rows.uptoSmall H l=true):Rows.uptoBulkAll l<=1048576:=of_decide_eq_true hk
def zlu(P:Program)(tA tT:TypeId):Bool:=
 (match P.underlying tA with|some (.slice t)=>t == tT|_=>false) &&
 (match P.underlying tT with
  |some (.struct fs)=>match fs.toList.map (·.type) with
   |[a,b,c,d]=>d == tA && (match P.underlying a with|some (.int .i64)=>true|_=>false) && (match P.underlying b with|some (.int .i64)=>true|_=>false) && (match P.underlying c with|some .string=>true|_=>false) && decide (shOf P a=none) && decide (shOf P b=none) && decide (shOf P c=none)
   |_=>false
  |_=>false) && decide (shOf P tT=some 4) && decide (shOf P tA=none)
theorem zkP{P:Program}{tA tT:TypeId}(h:zlu P tA tT=true):TermTy P tA tT:=by
 unfold zlu at h
 simp only[Bool.and_eq_true,decide_eq_true_eq] at h
 obtain⟨⟨⟨h1,h2⟩,h3⟩,h4⟩:=h
 refine⟨?_,?_⟩
 ·split at h1
  ·rename_i t ht;rw[ht];simp at h1;rw[h1]
  ·cases h1
 ·split at h2
  ·rename_i fs hfs
   split at h2
   ·rename_i a b c d hl
    simp only[Bool.and_eq_true,decide_eq_true_eq,beq_iff_eq] at h2
    obtain⟨⟨⟨⟨⟨⟨k1,k2⟩,k3⟩,k4⟩,k5⟩,k6⟩,k7⟩:=h2
    subst k1
    refine⟨fs,a,b,c,hfs,hl,?_,?_,?_,h3,h4,k5,k6,k7⟩
    ·split at k2
     ·assumption
     ·cases k2
    ·split at k3
     ·assumption
     ·cases k3
    ·split at k4
     ·assumption
     ·cases k4
   ·cases h2
  ·cases h2
theorem zsa:TermTy Try.prog 22 24:=zkP (by kernel_rfl)
def zoQ:List TypeId:=[2,3,4,5,9,22,24,43]
theorem closed:zlt Try.prog zoQ=true:=by kernel_rfl
set_option maxRecDepth 100000 in
theorem zmM{H:Type}{enc:TypeId × Value->H}{W:World}{base:Nat}{v:Value}{d:DataW H}{ps:List MemPlace}(h:DataW.Trod enc Try.prog W 0 (fun _=>true) true 22 v d ps)(hv:Value.okWide Try.prog W .any base 22 v):
  ∃l:List Tm,AR W (noX (P:=Try.prog)) noμ [] (.pv none (.sl (some 4) (Tm.pvs l))) v/\Tm.sizes l<=Rows.uptoBulk d/\Tm.rngs l:=by
 obtain⟨fuel,h0⟩:=h
 obtain⟨p,hp⟩:=zoK closed fuel _ _ _ _ (by simp[zoQ]) h0
 obtain⟨t,rfl,h1,h2⟩:=(zjv zsa (zoP H) fuel).2 d p hp
 have:=zr7 ⟨fuel,h0⟩ (by kernel_rfl) hp (zmH hv)
 rw[show shOf Try.prog 22=none from by kernel_rfl] at this
 exact⟨t,this,h1,h2⟩
end Go.Proofs.Yteaehiceghhajaa
