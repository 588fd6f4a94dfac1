/- What is proved: the reference's Groups. -/
import Derived.Test.YtffecaafklpmhaaGreatGrs
import Derived.Test.YtffecaafklpmhaaGreatStp
import Derived.Test.YtffecaafklpmhaaGreatRMt
import Derived.Test.YtffecaafklpmhaaGreatAm4
set_option linter.unusedSimpArgs false
set_option linter.unusedVariables false
namespace Go.Proofs.YtffecaafklpmhaaGreat
open Go.Am
def tb(n:Nat)(T:Nat->Bool):List PV:=(List.range n).map fun x=>.bool (T x)
theorem ziu(n:Nat)(T:Nat->Bool):(tb n T).length=n:=by simp[tb]
theorem zkW{n:Nat}(T:Nat->Bool){k:Nat}(h:k<n):(tb n T)[k]? =some (.bool (T k)):=by simp[tb,h]
def putT(T:Nat->Bool)(k:Nat):Nat->Bool:=fun x=>decide (x=k) || T x
theorem zvW(n:Nat)(T:Nat->Bool)(k:Nat):(tb n T).set k (.bool true)=tb n (putT T k):=by
 refine List.ext_getElem? fun i=> ?_
 rw[List.getElem?_set]
 by_cases h:k=i
 ·subst h
  by_cases hk:k<n
  ·rw[if_pos rfl,if_pos (by rw[ziu];exact hk),zkW _ hk]
   simp[putT]
  ·rw[if_pos rfl,if_neg (by rw[ziu];exact hk),List.getElem?_eq_none (by rw[ziu];omega)]
 ·rw[if_neg h]
  by_cases hi:i<n
  ·rw[zkW _ hi,zkW _ hi]
   have:¬i=k:=fun e=>h e.symm
   simp[putT,this]
  ·rw[List.getElem?_eq_none (by rw[ziu];omega),List.getElem?_eq_none (by rw[ziu];omega)]
def rem(T:Nat->Bool):Nat->List Tm->List Tm
 |_,[]=>[]
 |i,p::r=>if T i=true then rem T (i+1) r else p::rem T (i+1) r
theorem zrC(T:Nat->Bool):∀(a:List Tm) (i:Nat) (b:List Tm),rem T i (a++b)=rem T i a++rem T (i+a.length) b
 |[],i,b=>rfl
 |x::a,i,b=>by
  rw[List.cons_append,rem,rem,zrC T a (i+1) b,List.length_cons,show i+1+a.length=i+(a.length+1) by omega]
  split
  ·rfl
  ·rfl
theorem ziv{T T':Nat->Bool}{f:Tm->Bool}:∀(l:List Tm) (i:Nat),(∀y q,l[y]? =some q->T' (i+y)=(T (i+y) || f q))->rem T' i l=(rem T i l).filter fun q=> !f q
 |[],_,_=>rfl
 |p::r,i,h=>by
  have h0:=h 0 p rfl
  rw[Nat.add_zero] at h0
  have ih:=ziv (T:=T) (T':=T') (f:=f) r (i+1) fun y q hq=>by rw[show i+1+y=i+(y+1) by omega];exact h (y+1) q hq
  rw[rem,rem,h0,ih]
  cases T i <;> cases hf:f p <;> simp[hf]
theorem zmk(T:Nat->Bool):∀(l:List Tm) (i:Nat),(rem T i l).length<=l.length
 |[],_=>Nat.le_refl _
 |p::r,i=>by
  have:=zmk T r (i+1)
  rw[rem]
  split
  ·simp only[List.length_cons];omega
  ·simp only[List.length_cons];omega
theorem zml(T:Nat->Bool):∀(l:List Tm) (i:Nat),∀x∈rem T i l,x∈l
 |[],_,x,h=>h
 |p::r,i,x,h=>by
  rw[rem] at h
  split at h
  ·exact List.mem_cons_of_mem _ (zml T r (i+1) x h)
  ·rcases List.mem_cons.1 h with rfl|h
   ·exact List.mem_cons_self
   ·exact List.mem_cons_of_mem _ (zml T r (i+1) x h)
theorem ztt(nm:List UInt8)(x y:Tm)(hp:Heap):S 41 [.pv none (.str nm),.pv none (.sl (some 4) [x.pv,y.pv])] hp=some (.ret (Tm.mk 3 0 nm [x,y]).av,hp):=by
 refine zao (ps:=[(none,.str nm),(none,.sl (some 4) [x.pv,y.pv])]) rfl rfl rfl rfl rfl ?_
 have hb:zaY [(none,.pv none (.int .i64 0)),(none,.pv none (.int .i64 0)),(none,.pv none (.str [])),(none,.tsl (some 4) [])] [0,2,3] [.pv none (.int .i64 3),.pv none (.str nm),.pv none (.sl (some 4) [x.pv,y.pv])]=some (.pv (some 4) (Tm.mk 3 0 nm [x,y]).pv):=rfl
 simp -dsimp -implicitDefEqProofs only[go_sem,seval,↓reduceIte,hb]
 try rfl
theorem frzU(a0 a1 a2 a3 a4:AObj)(fz:Bool)(X:Heap)(x y:PV):zap [.sl (some 5) 5 0 0 0,.pv (some 4) x,.pv (some 4) y] (a0::a1::a2::a3::a4::.arr (some 5) [] fz::X)=some ([(none,.sl (some 5) []),(some 4,x),(some 4,y)],a0::a1::a2::a3::a4::.arr (some 5) [] true::X):=by
 rw[zbZ (show zdC 0 ((a0::a1::a2::a3::a4::AObj.arr (some 5) [] fz::X)[5]?) from rfl)]
 rfl
theorem zwO(a0 a1 a2 a3 a4:AObj)(fz:Bool)(X:Heap)(x:PV):zap [.sl (some 5) 5 0 0 0,.pv (some 4) x] (a0::a1::a2::a3::a4::.arr (some 5) [] fz::X)=some ([(none,.sl (some 5) []),(some 4,x)],a0::a1::a2::a3::a4::.arr (some 5) [] true::X):=by
 rw[zbZ (show zdC 0 ((a0::a1::a2::a3::a4::AObj.arr (some 5) [] fz::X)[5]?) from rfl)]
 rfl
def s5R(c:Nat)(s:List B):AV:=if c=0 then .sl (some 5) 5 0 0 0 else .pv none (.sl (some 5) (bds s))
theorem zrD{V:List Int}{w:Tm}(hw:InV V w):∀(r:List Tm) (s:List B),OKB s->InVB V s->(∀q∈r,InV V (zam q))->InVB V (zcS w s r)/\OKB (zcS w s r)
 |[],s,hO,hs,_=>⟨hs,hO⟩
 |q::r,s,hO,hs,h=>zrD hw r _ (zme _ _ _) (zvM hs hw (h q List.mem_cons_self)) fun x hx=>h x (List.mem_cons_of_mem _ hx)
def tkn(T:Nat->Bool)(f:Tm->Bool)(K:List Tm)(i j:Nat):Nat->Bool:=fun x=>T x || (decide (i<=x) && decide (x<i+j) && f ((K[x]?).getD zt))
theorem ztu(T:Nat->Bool)(f:Tm->Bool)(K:List Tm)(i:Nat):tkn T f K i 0=T:=by
 funext x
 have:(decide (i<=x) && decide (x<i+0))=false:=by
  rw[Bool.eq_false_iff]
  simp
 unfold tkn
 rw[this]
 simp
theorem zvX(T:Nat->Bool)(f:Tm->Bool)(K:List Tm)(i j:Nat):tkn T f K i j (i+j)=T (i+j):=by
 unfold tkn
 simp
theorem zu2{T:Nat->Bool}{f:Tm->Bool}{K:List Tm}{i j:Nat}{u:Tm}(hu:K[i+j]? =some u)(hf:f u=true):putT (tkn T f K i j) (i+j)=tkn T f K i (j+1):=by
 funext x
 unfold putT tkn
 by_cases hx:x=i+j
 ·subst hx
  simp[hu,hf]
 ·have:(decide (x<i+(j+1)))=decide (x<i+j):=by rw[decide_eq_decide];omega
  rw[this]
  simp[hx]
theorem ztv{T:Nat->Bool}{f:Tm->Bool}{K:List Tm}{i j:Nat}{u:Tm}(hu:K[i+j]? =some u)(h:T (i+j)=true\/f u=false):tkn T f K i j=tkn T f K i (j+1):=by
 funext x
 unfold tkn
 by_cases hx:x=i+j
 ·subst hx
  rcases h with h|h <;> simp[hu,h]
 ·have:(decide (x<i+(j+1)))=decide (x<i+j):=by rw[decide_eq_decide];omega
  rw[this]
theorem zmm{s:Nat}{r:List Nat}{fr:Fr}{q n:Nat}{es:List PV}{H:Heap}(h:H[q]? =some (.arr (some 4) es false))(hn:es.length=n):zdt s r ⟨fr,H⟩ (some (.sl (some 4) q n 0 n))=Am.settle r ⟨(s,.pv none (.sl (some 4) es))::fr,H.set q (.arr (some 4) es true)⟩:=by
 subst hn
 simp[zdt,AV.freeze,deep,h]
set_option maxHeartbeats 4000000 in
theorem zoT(ts:List Tm)(hl:Tm.sizes ts<100000000)(hn:ts.length<100000)(hz:zaN ts=true->Tm.sizes ts<=200000)(hp:Heap):
  S 11 [.pv none (.sl (some 4) (Tm.pvs ts))] hp=some (.ret (.tuple [.pv none (.sl (some 4) (Tm.pvs (zby ts).1)),.pv none (.int .i64 (zby ts).2)]),hp):=by
 refine zao rfl rfl rfl (zac [(none,.sl (some 4) (Tm.pvs ts))]) rfl ?_
 have hn4:∀(H:Heap),zbD (some 4) H=some (.sl (some 4) H.length 0 0 0,H++[.arr (some 4) [] false]):=fun H=>zbH (sh:=some 4) (by decide)
 have hn5:∀(H:Heap),zbD (some 5) H=some (.sl (some 5) H.length 0 0 0,H++[.arr (some 5) [] false]):=fun H=>zbH (sh:=some 5) (by decide)
 have hK:=ztx ts hl
 by_cases he:zcd ts=0
 rotate_left
 ·have e:zby ts=([],zcd ts):=by unfold zby;rw[if_neg he]
  rw[e]
  dsimp only
  generalize zcd ts=k at*
  simp -dsimp -implicitDefEqProofs only[go_sem,seval,↓reduceIte,hn4,hK,he]
  rfl
 ·have he':=eq_true he
  have e:zby ts=ofG (grps (zbd ts).length (zbd ts)):=by unfold zby;rw[if_pos he]
  rw[e]
  have hval:zaN ts=true:=by
   unfold zcd at he
   split at he
   ·assumption
   ·cases he
  have hall:ts.all zaG=true:=by
   unfold zcd at he
   rw[if_pos hval] at he
   split at he
   ·assumption
   ·cases he
  have hm:∀x∈zbd ts,x∈ts:=fun x hx=>by
   unfold zbd at hx
   rw[if_pos ⟨hval,hall⟩] at hx
   exact(zb0 ts).mem_iff.1 hx
  have hkl:(zbd ts).length=ts.length:=by
   unfold zbd
   rw[if_pos ⟨hval,hall⟩,zaB]
  have hprop:∀x∈zbd ts,zaG x=true/\x.valid=true:=fun x hx=>⟨List.all_eq_true.1 hall x (hm x hx),zbt hval (hm x hx)⟩
  have hV:(Tm.occs ts).length<=200000:=Nat.le_trans (Tm.zw9 ts) (hz hval)
  have hVk:∀x∈zbd ts,InV (Tm.occs ts) (zam x):=fun x hx w hw=>Tm.zxe (hm x hx) (by
   have h1:=List.all_eq_true.1 hall x (hm x hx)
   refine Tm.zxc (fun hk=> ?_) (zcf h1) hw
   simp[zaG,hk] at h1)
  generalize Tm.occs ts=V at hV hVk
  generalize zbd ts=K at*
  obtain⟨n,hnK⟩:∃n,n=K.length:=⟨_,rfl⟩
  obtain⟨G,hG⟩:∃G,G=grps n K:=⟨_,rfl⟩
  rw[<-hnK,<-hG]
  have hKl:(Tm.pvs K).length=n:=by rw[Tm.pvs_len,hnK]
  have hmk:∀(a0 a1:AObj),zbR none (.bool false) [a0,a1] [.pv none (.int .i64 (n:Int)),.pv none (.int .i64 (n:Int))]=some (.sl none 2 n 0 n,[a0,a1,.arr none (tb n fun _=>false) false]):=fun a0 a1=>by
   have h1:(n:Int)<=1073741824:=by omega
   have h2:tb n (fun _=>false)=List.replicate n (.bool false):=by
    unfold tb
    refine List.ext_getElem? fun i=> ?_
    by_cases hi:i<n
    ·simp[hi]
    ·rw[List.getElem?_eq_none (by simp;omega),List.getElem?_eq_none (by simp;omega)]
   rw[h2]
   simp[zbR,lim,h1,Sh.size]
  simp -dsimp -implicitDefEqProofs only[go_sem,seval,↓reduceIte,hn4,hK,he',hKl,hmk]
  refine zbQ (α:=List Tm × (Nat->Bool)) n (fun i a=>a.1.length<=i/\∃m,(rem a.2 i (K.drop i)).length<=m/\G=(grps m (rem a.2 i (K.drop i))).map (a.1++·)) (fun i a=>⟨[(4,.pv none (.sl (some 4) (Tm.pvs K))),(6,.sl (some 4) 1 a.1.length 0 a.1.length),(7,.sl none 2 n 0 n),(8,.pv none (.int .i64 i))],
   [.arr (some 4) [] false,.arr (some 4) (Tm.pvs a.1) false,.arr none (tb n a.2) false]⟩) ([],fun _=>false) ⟨⟨Nat.le_refl _,n,?_,?_⟩,rfl⟩ ?_ ?_
  ·exact Nat.le_trans (zmk _ _ _) (by simp[hnK])
  ·have hr:∀(l:List Tm) (i:Nat),rem (fun _=>false) i l=l:=fun l=>by
    induction l with
    |nil=>intro i;rfl
    |cons p r ih=>intro i;rw[rem,ih];rfl
   rw[List.drop_zero,hr,hG]
   cases grps n K <;> rfl
  ·rintro i ⟨D,T⟩ hi ⟨hD,m,hm1,hGm⟩
   dsimp only at hD hm1 hGm ⊢
   have hc:(i:Int)<(n:Int):=by omega
   obtain⟨p,hp⟩:∃p,K[i]? =some p:=⟨_,List.getElem?_eq_getElem (by omega)⟩
   have hpm:=List.mem_of_getElem? hp
   obtain⟨hpp,hpv⟩:=hprop p hpm
   have hdr:K.drop i=p::K.drop (i+1):=by
    obtain⟨q1,e1⟩:=List.getElem?_eq_some_iff.1 hp
    rw[List.drop_eq_getElem_cons q1,e1]
   have w2:IntKind.i64.wrap ((i:Int)+1)=((i+1:Nat):Int):=by rw[zan (by omega) (by omega)];omega
   have hTl:∀T:Nat->Bool,(tb n T).length=n:=fun T=>ziu n T
   have hTg:=zkW T hi
   rw[hdr,rem] at hm1 hGm
   cases hT:T i with
   |true=>
    rw[hT,if_pos rfl] at hm1 hGm
    rw[hT] at hTg
    simp -dsimp -implicitDefEqProofs only[go_sem,seval,↓reduceIte,hn4,hKl,hc,zar hi,zaI,hTl,hTg,w2]
    refine⟨(D,T),⟨by dsimp only;omega,m,hm1,hGm⟩,?_⟩
    rfl
   |false=>
    rw[hT,if_neg (by simp)] at hm1 hGm
    rw[hT] at hTg
    obtain⟨g0,_,_⟩:=zek hpp
    have hkv:(zam p).valid=true:=zaR hpv (zcf hpp)
    have hks:=valid_size hkv
    obtain⟨key,hkey⟩:∃key,key=zam p:=⟨_,rfl⟩
    have hVp:=hVk p hpm
    rw[<-hkey] at g0 hkv hks hVp
    have hpg:=zab (sh:=some 4) (s:=none) (s':=none) (k:=.i64) (Tm.pvs_get hp)
    simp -dsimp -implicitDefEqProofs only[go_sem,seval,↓reduceIte,hn4,hn5,hKl,hc,zar hi,zaI,hTl,hTg,hpg,zad,zaW g0]
    obtain⟨f,hf⟩:∃f:Tm->Bool,f=fun q=>vari key (zam q):=⟨_,rfl⟩
    obtain⟨R0,hR0⟩:∃R0,R0=rem T (i+1) (K.drop (i+1)):=⟨_,rfl⟩
    obtain⟨cj,hcj⟩:∃cj:Nat->List Tm,cj=fun j=>(rem T (i+1) ((K.drop (i+1)).take (j - 1))).filter f:=⟨_,rfl⟩
    obtain⟨ij,hij⟩:∃ij:Nat->List Tm,ij=fun j=>if j=0 then[] else(p::cj j).map zbk:=⟨_,rfl⟩
    have hfp:f p=true:=by rw[hf];dsimp only;rw[<-hkey];exact zkP hkv
    have hc0:cj 0=[]:=by rw[hcj];rfl
    have hc1:cj 1=[]:=by rw[hcj];rfl
    have hi0:ij 0=[]:=by rw[hij];rfl
    have hi1:∀j,ij (j+1)=(p::cj (j+1)).map zbk:=fun j=>by rw[hij];dsimp only;rw[if_neg (Nat.succ_ne_zero j)]
    have hcs:∀j u,K[i+(j+1)]? =some u->cj (j+1+1)=cj (j+1)++(if T (i+(j+1))=true then[] else if f u=true then[u] else[]):=fun j u hu=>by
     have hlt:=zbI hu
     have e1:(K.drop (i+1)).take (j+1)=(K.drop (i+1)).take j++[u]:=by
      rw[List.take_add_one,List.getElem?_drop,show i+1+j=i+(j+1) by omega,hu]
      rfl
     have e2:((K.drop (i+1)).take j).length=j:=by rw[List.length_take,List.length_drop];omega
     rw[hcj]
     dsimp only
     rw[Nat.add_sub_cancel,Nat.add_sub_cancel,e1,zrC,e2,List.filter_append,rem,rem,show i+1+j=i+(j+1) by omega]
     congr 1
     cases T (i+(j+1)) <;> cases h:f u <;> simp[h]
    have hcm:∀j,∀q∈cj j,q∈K/\f q=true:=fun j q hq=>by
     rw[hcj] at hq
     obtain⟨h1,h2⟩:=List.mem_filter.1 hq
     exact⟨List.mem_of_mem_drop (List.mem_of_mem_take (zml _ _ _ _ h1)),h2⟩
    have hcl:∀j,(cj j).length<=n:=fun j=>by
     rw[hcj]
     refine Nat.le_trans (List.length_filter_le _ _) (Nat.le_trans (zmk _ _ _) ?_)
     rw[List.length_take,List.length_drop]
     omega
    have hfb:∀j,InVB V (zcS key [] (cj j))/\OKB (zcS key [] (cj j)):=fun j=>zrD hVp _ _ zeK (fun b hb=>by cases hb) fun q hq=>hVk q (hcm j q hq).1
    have hlow:∀c s,(s5R c s).refsIn.all (fun q=>decide (q<7))=true:=fun c s=>by unfold s5R;split <;> rfl
    refine zbQ (α:=Unit) (n - i) (fun _ _=>True) (fun j _=>⟨[(4,.pv none (.sl (some 4) (Tm.pvs K))),(6,.sl (some 4) 1 D.length 0 D.length),(7,.sl none 2 n 0 n),(8,.pv none (.int .i64 i)),(9,.ptr 3 0),(10,s5R (cj j).length (zcS key [] (cj j))),(11,.sl (some 4) 6 (ij j).length 0 (ij j).length),(12,.pv none (.int .i64 ((i+j:Nat):Int)))],
     [.arr (some 4) [] false,.arr (some 4) (Tm.pvs D) false,.arr none (tb n (tkn T f K i j)) false,.box (some 4) (.pv (some 4) key.pv),.arr (some 4) [] false,.arr (some 5) [] (decide (0<(cj j).length)),.arr (some 4) (Tm.pvs (ij j)) false]⟩) () ⟨trivial,?_⟩ ?_ ?_
    ·rw[hc0,hi0,ztu]
     rfl
    ·rintro j - hj -
     have hk:i+j<n:=by omega
     have hck:((i+j:Nat):Int)<(n:Int):=by omega
     obtain⟨u,hu⟩:∃u,K[i+j]? =some u:=⟨_,List.getElem?_eq_getElem (by omega)⟩
     have hum:=List.mem_of_getElem? hu
     obtain⟨hup,huv⟩:=hprop u hum
     obtain⟨u0,u1,u2⟩:=zek hup
     have hku:(zam u).valid=true:=zaR huv (zcf hup)
     have hkus:=valid_size hku
     have hTk:=zkW (tkn T f K i j) hk
     rw[zvX] at hTk
     have w3:IntKind.i64.wrap (((i+j:Nat):Int)+1)=((i+(j+1):Nat):Int):=by rw[zan (by omega) (by omega)];omega
     have hug:=zab (sh:=some 4) (s:=none) (s':=none) (k:=.i64) (Tm.pvs_get hu)
     have q1:=zab (sh:=some 4) (s:=none) (s':=none) (k:=.i64) u1
     simp only[show((1:Nat):Int)=1 from rfl] at q1
     have hvar:=fun hp=>zms key (zam u) hp (by omega) (by omega)
     have hfu:vari key (zam u)=f u:=by rw[hf]
     rw[hfu] at hvar
     simp only[Tm.av] at hvar
     have hia:=zar (sh:=none) (s':=none) (k:=.i64) (r:=2) (v:=n) (o:=0) hk
     have skip:T (i+j)=true\/f u=false->cj (j+1)=cj j/\ij (j+1)=ij j/\tkn T f K i (j+1)=tkn T f K i j:=fun h=>by
      cases j with
      |zero=>
       exfalso
       rw[Nat.add_zero,hp] at hu
       cases hu
       rcases h with h|h
       ·rw[Nat.add_zero,hT] at h;cases h
       ·rw[hfp] at h;cases h
      |succ j=>
       have e1:cj (j+1+1)=cj (j+1):=by
        rw[hcs j u hu]
        rcases h with h|h <;> simp[h]
       exact⟨e1,by rw[hi1,hi1,e1],(ztv hu h).symm⟩
     cases hTu:T (i+j) with
     |true=>
      obtain⟨k1,k2,k3⟩:=skip (.inl hTu)
      rw[hTu] at hTk
      simp -dsimp -implicitDefEqProofs only[go_sem,seval,↓reduceIte,hn4,hn5,hKl,hck,hia,zaI,hTl,hTk,w3]
      refine⟨(),?_⟩
      rw[zdx (by simp[AObj.refs,AV.refsIn]) (by simp[AV.refsIn];simpa using hlow _ _),k1,k2,k3]
      rfl
     |false=>
      rw[hTu] at hTk
      cases hfv:f u with
      |false=>
       obtain⟨k1,k2,k3⟩:=skip (.inr hfv)
       rw[hfv] at hvar
       simp -dsimp -implicitDefEqProofs only[go_sem,seval,↓reduceIte,hn4,hn5,hKl,hck,hia,zaI,hTl,hTk,hug,zad,zaW u0,hvar,w3]
       refine⟨(),?_⟩
       rw[zdx (by simp[AObj.refs,AV.refsIn]) (by simp[AV.refsIn];simpa using hlow _ _),k1,k2,k3]
       rfl
      |true=>
       rw[hfv] at hvar
       have hwst:∀(b:Nat) (a0 a1:AObj) (X:Heap),zaU none b (a0::a1::.arr none (tb n (tkn T f K i j)) false::X) [.eptr none 2 n (i+j) 0,.pv none (.bool true)]=some (.undef,a0::a1::.arr none (tb n (tkn T f K i (j+1))) false::X):=fun b a0 a1 X=>by
        rw[<-zu2 hu hfv,<-zvW]
        exact zcs (sh:=none) (s:=none) (b:=b) (hp:=a0::a1::.arr none (tb n (tkn T f K i j)) false::X) (r:=2) (n:=n) (i:=i+j) (p:=.bool true) ⟨rfl,hTl _⟩ hk
       have hll:(Tm.pvs (ij j)).length=(ij j).length:=Tm.pvs_len _
       have hlim:(ij j).length+1<=lim:=by
        have h1:=hcl j
        have:(ij j).length<=n+1:=by
         rw[hij]
         dsimp only
         split
         ·simp
         ·simp only[List.length_map,List.length_cons];omega
        unfold lim
        omega
       cases j with
       |zero=>
        rw[Nat.add_zero,hp] at hu
        cases hu
        have hngt:¬(i:Int)<(i:Int):=by omega
        have hap:[(zbk p).pv]=Tm.pvs (ij (0+1)):=by rw[hi1,hc1];rfl
        have hl1:(ij (0+1)).length=1:=by rw[hi1,hc1];rfl
        simp only[Nat.add_zero,Nat.zero_add,hi0,hc0,show Tm.pvs []=[] from rfl,List.length_nil] at hck hia hTk w3 hwst hll hlim hug hap hl1 ⊢
        simp -dsimp -implicitDefEqProofs only[go_sem,seval,↓reduceIte,hn4,hn5,hKl,hck,hia,zaI,hTl,hTk,hug,zad,zaW u0,q1,hvar,w3,hwst,hll,hlim,hngt]
        refine⟨(),?_⟩
        rw[zdx (by simp[AObj.refs,AV.refsIn]) (by simp[AV.refsIn];simpa using hlow _ _),hc1,hl1,<-hap]
        rfl
       |succ j=>
        have hgt:(i:Int)<((i+(j+1):Nat):Int):=by omega
        have hce:=hcs j u hu
        rw[hTu,hfv,if_neg (by simp),if_pos rfl] at hce
        have hie:ij (j+1+1)=ij (j+1)++[zbk u]:=by rw[hi1,hi1,hce];simp
        have hap:Tm.pvs (ij (j+1))++[(zbk u).pv]=Tm.pvs (ij (j+1+1)):=by rw[hie,Tm.zwZ];rfl
        have hil:(ij (j+1+1)).length=(ij (j+1)).length+1:=by rw[hie];simp
        have hfo:zcS key [] (cj (j+1+1))=(unR (zcS key [] (cj (j+1))) key (zam u)).1:=by rw[hce,zir]
        have hcl2:(cj (j+1+1)).length=(cj (j+1)).length+1:=by rw[hce];simp
        obtain⟨hbV,hbO⟩:=hfb (j+1)
        have hun:=zrJ (zcS key [] (cj (j+1))) key (zam u) (by have:=InVB.len hbO.good hbV;omega) (fun b hb=>(hbO.good.2 b hb).2) (by omega) (by omega)
        rw[<-hfo] at hun
        simp only[Tm.av] at hun
        generalize (unR (zcS key [] (cj (j+1))) key (zam u)).2=e2 at hun
        clear hfo
        by_cases h0:(cj (j+1)).length=0
        ·have hc0':cj (j+1)=[]:=List.eq_nil_of_length_eq_zero h0
         have e5:∀s,s5R (cj (j+1)).length s=.sl (some 5) 5 0 0 0:=fun s=>by unfold s5R;rw[if_pos h0]
         have e6:decide (0<(cj (j+1)).length)=false:=by rw[h0];rfl
         rw[e5,e6]
         have hb0:zcS key [] (cj (j+1))=[]:=by rw[hc0'];rfl
         rw[hb0] at hun
         have hcall:=fun(a0 a1 a2 a3 a4:AObj) (X:Heap)=>zcc rfl rfl rfl (frzU a0 a1 a2 a3 a4 false X key.pv (zam u).pv) (hun [])
         have e8:∀(l:List PV) (e:Int),(AV.tuple [.pv none (.sl (some 5) l),.pv none (.int .i64 e)]).scalar=false:=fun _ _=>rfl
         simp only[e8,cond_false] at hcall
         simp -dsimp -implicitDefEqProofs only[go_sem,seval,↓reduceIte,hn4,hn5,hKl,hck,hia,zaI,hTl,hTk,hug,zad,zaW u0,q1,hvar,w3,hwst,hll,hlim,hgt,hcall,hap]
         refine⟨(),?_⟩
         rw[zdx (by simp[AObj.refs,AV.refsIn]) (by simp[AV.refsIn]),hil,hcl2]
         have e7:∀s,s5R ((cj (j+1)).length+1) s=.pv none (.sl (some 5) (bds s)):=fun s=>by unfold s5R;rw[if_neg (Nat.succ_ne_zero _)]
         rw[e7,decide_eq_true (Nat.succ_pos _)]
         rfl
        ·have e5:∀s,s5R (cj (j+1)).length s=.pv none (.sl (some 5) (bds s)):=fun s=>by unfold s5R;rw[if_neg h0]
         have e6:decide (0<(cj (j+1)).length)=true:=decide_eq_true (by omega)
         rw[e5,e6]
         simp -dsimp -implicitDefEqProofs only[go_sem,seval,↓reduceIte,hn4,hn5,hKl,hck,hia,zaI,hTl,hTk,hug,zad,zaW u0,q1,hvar,w3,hwst,hll,hlim,hgt,hun,hap]
         refine⟨(),?_⟩
         rw[zdx (by simp[AObj.refs,AV.refsIn]) (by simp[AV.refsIn]),hil,hcl2]
         have e7:∀s,s5R ((cj (j+1)).length+1) s=.pv none (.sl (some 5) (bds s)):=fun s=>by unfold s5R;rw[if_neg (Nat.succ_ne_zero _)]
         rw[e7,decide_eq_true (Nat.succ_pos _)]
         rfl
    ·rintro - -
     have hck:¬((i+(n - i):Nat):Int)<(n:Int):=by omega
     obtain⟨j,hj⟩:∃j,n - i=j+1:=⟨n - i - 1,by omega⟩
     rw[hj] at hck ⊢
     obtain⟨R1,hR1⟩:∃R1,R1=R0.filter f:=⟨_,rfl⟩
     have hcR:cj (j+1)=R1:=by
      rw[hR1,hR0,hcj]
      dsimp only
      rw[Nat.add_sub_cancel,List.take_of_length_le (by rw[List.length_drop];omega)]
     have hR1m:∀q∈R1,q∈K/\f q=true:=fun q hq=>hcm (j+1) q (by rw[hcR];exact hq)
     have hpr:∀q∈p::R1,zaG q=true/\q.valid=true:=fun q hq=>by
      rcases List.mem_cons.1 hq with rfl|hq
      ·exact⟨hpp,hpv⟩
      ·exact hprop q (hR1m q hq).1
     obtain⟨hbO,hbv,hgr⟩:=zvQ hpr fun q hq=>by
      have:=(hR1m q hq).2
      rw[hf] at this
      dsimp only at this
      rw[zkN,<-hkey]
      exact this
     obtain⟨hbV,_⟩:=hfb (j+1)
     have hRl:=hcl (j+1)
     rw[hi1 j]
     rw[hcR] at hbV hRl ⊢
     rw[<-hkey] at hbO hbv hgr
     obtain⟨I,hI⟩:∃I,I=(p::R1).map zbk:=⟨_,rfl⟩
     have hIl:I.length=R1.length+1:=by rw[hI];simp
     have hIs:∀t∈I,t.size<=2000:=fun t ht=>by
      rw[hI] at ht
      obtain⟨q,hq,rfl⟩:=List.mem_map.1 ht
      exact valid_size (zfT (hpr q hq).1 (hpr q hq).2)
     have hgT:grpT p R1=prT key (lst I):=by rw[grpT,<-hkey,hI]
     rw[<-hI]
     rw[hgT] at hgr
     have hbn:R1.length=0->zcS key [] R1=[]:=fun h=>by rw[List.eq_nil_of_length_eq_zero h];rfl
     generalize zcS key [] R1=b at*
     have hgsz:=zhq I 2000 hIs
     have hgs:(prT key (lst I)).size=1+(key.size+(lst I).size):=by
      show 1+(key.size+((lst I).size+0))=_
      omega
     have h1:=fun hp=>zto I (by omega) hp
     have h2:∀hp,S 41 [.pv none (.str [45]),.pv none (.sl (some 4) [key.pv,(lst I).pv])] hp=some (.ret (prT key (lst I)).av,hp):=fun hp=>ztt [45] key (lst I) hp
     have h3:=fun hp=>zbK (prT key (lst I)) hp (by omega)
     have hbl:=InVB.len hbO.good hbV
     have h4:=fun hp=>zmq b (prT key (lst I)) (by omega) (fun x hx=>(hbO.good.2 x hx).2) (by omega) hp
     have hset:∀(st:List Nat) (fr:Fr) (a0 a1 a2 a3 a4 a5:AObj) (X:Heap),zdt 11 st ⟨fr,a0::a1::a2::a3::a4::a5::.arr (some 4) (Tm.pvs I) false::X⟩ (some (.sl (some 4) 6 I.length 0 I.length))=Am.settle st ⟨(11,.pv none (.sl (some 4) (Tm.pvs I)))::fr,a0::a1::a2::a3::a4::a5::.arr (some 4) (Tm.pvs I) true::X⟩:=fun st fr a0 a1 a2 a3 a4 a5 X=>zmm rfl (Tm.pvs_len I)
     obtain⟨m',rfl⟩:∃m',m=m'+1:=⟨m - 1,by simp only[List.length_cons] at hm1;omega⟩
     have hff:∀l:List Tm,(l.filter fun q=>vari (zam q) (zam p))=l.filter f/\(l.filter fun q=> !vari (zam q) (zam p))=l.filter fun q=> !f q:=fun l=>by
      have:(fun q=>vari (zam q) (zam p))=f:=by
       rw[hf]
       funext q
       rw[<-hkey,zkN]
      rw[this]
      exact⟨rfl,by congr 1;funext q;rw[<-this]⟩
     rw[grps,(hff _).1,(hff _).2,<-hR0,<-hR1] at hGm
     have hrem:rem (tkn T f K i (j+1)) (i+1) (K.drop (i+1))=R0.filter fun q=> !f q:=by
      rw[hR0]
      refine ziv _ _ fun y q hq=> ?_
      have hlt:=zbI hq
      rw[List.length_drop] at hlt
      rw[List.getElem?_drop] at hq
      unfold tkn
      rw[hq,decide_eq_true (show i<=i+1+y by omega),decide_eq_true (show i+1+y<i+(j+1) by omega)]
      rfl
     have hDl:(Tm.pvs D).length=D.length:=Tm.pvs_len D
     have hlD:D.length+1<=lim:=by unfold lim;omega
     simp only[Tm.av] at h1 h2 h3 h4
     cases hgv:(prT key (lst I)).valid with
     |false=>
      rw[hgv,if_neg (by simp)] at hgr
      have hGn:G=none:=by rw[hGm,hgr];rfl
      rw[hGn]
      rw[hgv] at h3
      simp -dsimp -implicitDefEqProofs only[go_sem,seval,↓reduceIte,hn4,hn5,hKl,hck,hset,h1,h2,h3]
      rfl
     |true=>
      rw[hgv,if_pos rfl] at hgr
      rw[hgv] at h3
      rw[zni hbO hbv hgv] at h4
      obtain⟨x,hx⟩:∃x,x=rs b (prT key (lst I)):=⟨_,rfl⟩
      rw[<-hx] at hgr
      dsimp only at h4
      rw[<-hx] at h4
      have hap:Tm.pvs D++[x.pv]=Tm.pvs (D++[x]):=by rw[Tm.zwZ];rfl
      obtain⟨s5,o5,e1,e2,hcall⟩:∃(s5:AV) (o5:AObj),s5R R1.length b=s5/\AObj.arr (some 5) [] (decide (0<R1.length))=o5/\
        (∀(a0 a1 a2 a3 a4:AObj) (X:Heap),S 44 [s5,.pv (some 4) (prT key (lst I)).pv] (a0::a1::a2::a3::a4::o5::X)=some (.ret (.tuple [.pv (some 4) x.pv,.pv none (.int .i64 0)]),a0::a1::a2::a3::a4::.arr (some 5) [] true::X)):=by
       have e8:(AV.tuple [.pv (some 4) x.pv,.pv none (.int .i64 0)]).scalar=false:=zd0 x _
       by_cases h0:R1.length=0
       ·refine⟨.sl (some 5) 5 0 0 0,.arr (some 5) [] false,by unfold s5R;rw[if_pos h0],by rw[h0];rfl,fun a0 a1 a2 a3 a4 X=> ?_⟩
        have hb0:b=[]:=hbn h0
        subst hb0
        exact(zcc rfl rfl rfl (zwO a0 a1 a2 a3 a4 false X (prT key (lst I)).pv) (h4 [])).trans (by rw[e8];rfl)
       ·exact⟨.pv none (.sl (some 5) (bds b)),.arr (some 5) [] true,by unfold s5R;rw[if_neg h0],by rw[decide_eq_true (by omega)],fun a0 a1 a2 a3 a4 X=>h4 _⟩
      rw[e1,e2]
      simp -dsimp -implicitDefEqProofs only[go_sem,seval,↓reduceIte,hn4,hn5,hKl,hck,hset,h1,h2,h3,hcall,hDl,hlD,hap,w2]
      refine⟨(D++[x],tkn T f K i (j+1)),⟨by simp;omega,m',?_,?_⟩,?_⟩
      ·rw[hrem]
       refine Nat.le_trans (List.length_filter_le _ _) ?_
       rw[hR0]
       simp only[List.length_cons] at hm1
       omega
      ·dsimp only
       rw[hrem,hGm,hgr]
       cases grps m' (R0.filter fun q=> !f q) <;> simp[zth]
      ·rw[zdx (by simp[AObj.refs,AV.refsIn]) (by simp[AV.refsIn])]
       simp
  ·rintro⟨D,T⟩ ⟨hD,m,hm1,hGm⟩
   dsimp only at hD hm1 hGm ⊢
   have hc:¬(n:Int)<(n:Int):=by omega
   have e0:K.drop n=[]:=by rw[hnK,List.drop_length]
   have hg:G=some D:=by
    rw[hGm,e0]
    cases m <;> simp[grps,rem]
   rw[hg]
   simp -dsimp -implicitDefEqProofs only[go_sem,seval,↓reduceIte,hn4,hKl,hc]
   rw[<-zc4]
   exact zmf (fz:=false) rfl (Tm.pvs_len D)
theorem zkL(l:List Tm)(hv:∀t∈l,t.valid=true)(hl:l.length<1000000000):S 12 [.pv none (.sl (some 4) (Tm.pvs l)),.pv none (.sl (some 4) (Tm.pvs l))] []=some (.ret (.pv none (.bool true)),[]):=by
 refine zao rfl rfl rfl (zac [(none,.sl (some 4) (Tm.pvs l)),(none,.sl (some 4) (Tm.pvs l))]) rfl ?_
 simp -dsimp -implicitDefEqProofs only[go_sem,seval,↓reduceIte]
 refine zbQ (α:=Unit) l.length (fun _ _=>True) (fun i _=>⟨[(0,.pv none (.sl (some 4) (Tm.pvs l))),(1,.pv none (.sl (some 4) (Tm.pvs l))),(5,.pv none (.int .i64 i))],[]⟩) () ⟨trivial,rfl⟩ ?_ ?_
 ·rintro i - h -
  have hc:(i:Int)<(l.length:Int):=by omega
  obtain⟨u,hu⟩:∃u,l[i]? =some u:=⟨_,List.getElem?_eq_getElem h⟩
  have hum:=List.mem_of_getElem? hu
  have hus:=valid_size (hv u hum)
  have hcall:=fun hp=>ztB u u hp (by omega) (by omega)
  rw[zrF (hv u hum)] at hcall
  simp only[Tm.av] at hcall
  have w2:IntKind.i64.wrap ((i:Int)+1)=((i+1:Nat):Int):=by rw[zan (by omega) (by omega)];omega
  simp -dsimp -implicitDefEqProofs only[go_sem,seval,↓reduceIte,Tm.pvs_len,hc,zab (Tm.pvs_get hu),hcall,w2]
  exact⟨(),trivial⟩
 ·rintro - -
  have hc:¬(l.length:Int)<(l.length:Int):=by omega
  simp -dsimp -implicitDefEqProofs only[go_sem,seval,↓reduceIte,Tm.pvs_len,hc]
theorem zhn:∀l:List Tm,zaN l=true->Tm.sizes l<=2000*l.length
 |[],_=>Nat.zero_le _
 |x::r,h=>by
  have hx:=valid_size (zbt h List.mem_cons_self)
  have ih:=zhn r (by
   unfold zaN at h ⊢
   simp only[List.all_cons,Bool.and_eq_true] at h
   exact h.2)
  show x.size+Tm.sizes r<=2000*(r.length+1)
  omega
theorem zmc{l r:List Tm}(h:l.Perm r):Tm.sizes l=Tm.sizes r:=by
 induction h with
 |nil=>rfl
 |cons x _ ih=>simp only[Tm.sizes,ih]
 |swap x y l=>simp only[Tm.sizes];omega
 |trans _ _ h1 h2=>rw[h1,h2]
theorem ztg(ts:List Tm):(zbd ts).length<=ts.length/\Tm.sizes (zbd ts)<=Tm.sizes ts:=by
 unfold zbd
 split
 ·exact⟨by rw[zaB];exact Nat.le_refl _,by rw[zmc (zb0 ts)];exact Nat.le_refl _⟩
 ·exact⟨Nat.zero_le _,Nat.zero_le _⟩
theorem zne:∀(n:Nat) (l g:List Tm),grps n l=some g->g.length<=l.length
 |_,[],g,h=>by rw[grps] at h;cases h;exact Nat.le_refl _
 |0,_::_,g,h=>by rw[grps] at h;cases h;exact Nat.zero_le _
 |n+1,p::r,g,h=>by
  rw[grps] at h
  cases ht:grp p (r.filter fun q=>vari (zam q) (zam p)) with
  |none=>rw[ht] at h;cases h
  |some t=>
   rw[ht] at h
   cases e:grps n (r.filter fun q=> !vari (zam q) (zam p)) with
   |none=>rw[e] at h;cases h
   |some g'=>
    rw[e] at h
    cases h
    have h1:=zne n _ g' e
    have h2:(r.filter fun q=> !vari (zam q) (zam p)).length<=r.length:=List.length_filter_le _ _
    simp only[List.length_cons]
    omega
theorem zmd(ts:List Tm):(zby ts).1.length<=ts.length:=by
 unfold zby
 split
 ·cases h:grps (zbd ts).length (zbd ts) with
  |some l=>exact Nat.le_trans (zne _ _ _ h) (ztg ts).1
  |none=>exact Nat.zero_le _
 ·exact Nat.zero_le _
def tP(k n:Int)(s:List UInt8)(l:List PV):PV:=.agg [(none,.int .i64 k),(none,.int .i64 n),(none,.str s),(none,.sl (some 4) l)]
theorem fok0:FactsOk (find tab) prim []:=.nil
def fq0:List (Sh × PV):=[((some 4),(tP 2 0 [97] []))]
def fv0:AV:=(.pv (some 4) (tP 2 0 [97] []))
theorem ff0:resV (sem (find tab) prim .fn 47 (pvs fq0) [])=some fv0:=zbj (n:=60) fok0 (by kernel_rfl)
def fK1:Facts:=(47,fq0,fv0)::[]
theorem fok1:FactsOk (find tab) prim fK1:=.cons (by kernel_rfl) ff0 fok0
def fq1:List (Sh × PV):=[((some 4),(tP 2 0 [97] [])),((some 4),(tP 2 0 [97] []))]
def fv1:AV:=(.pv none (.bool true))
theorem ff1:resV (sem (find tab) prim .fn 36 (pvs fq1) [])=some fv1:=zbj (n:=60) fok1 (by kernel_rfl)
def fK2:Facts:=(36,fq1,fv1)::fK1
theorem fok2:FactsOk (find tab) prim fK2:=.cons (by kernel_rfl) ff1 fok1
def fq2:List (Sh × PV):=[((some 4),(tP 2 0 [98] []))]
def fv2:AV:=(.pv (some 4) (tP 2 0 [98] []))
theorem ff2:resV (sem (find tab) prim .fn 47 (pvs fq2) [])=some fv2:=zbj (n:=60) fok2 (by kernel_rfl)
def fK3:Facts:=(47,fq2,fv2)::fK2
theorem fok3:FactsOk (find tab) prim fK3:=.cons (by kernel_rfl) ff2 fok2
def fq3:List (Sh × PV):=[((some 4),(tP 2 0 [98] [])),((some 4),(tP 2 0 [97] []))]
def fv3:AV:=(.pv none (.bool false))
theorem ff3:resV (sem (find tab) prim .fn 36 (pvs fq3) [])=some fv3:=zbj (n:=60) fok3 (by kernel_rfl)
def fK4:Facts:=(36,fq3,fv3)::fK3
theorem fok4:FactsOk (find tab) prim fK4:=.cons (by kernel_rfl) ff3 fok3
def fq4:List (Sh × PV):=[(none,(.sl (some 5) [])),((some 4),(tP 2 0 [97] []))]
def fv4:AV:=(.tuple [(.pv (some 4) (tP 2 0 [97] [])),(.pv none (.int .i64 (0)))])
theorem ff4:resV (sem (find tab) prim .fn 86 (pvs fq4) [])=some fv4:=zbj (n:=60) fok4 (by kernel_rfl)
def fK5:Facts:=(86,fq4,fv4)::fK4
theorem fok5:FactsOk (find tab) prim fK5:=.cons (by kernel_rfl) ff4 fok4
def fq5:List (Sh × PV):=[(none,(.sl (some 5) [])),((some 4),(tP 1 2 [] []))]
def fv5:AV:=(.tuple [(.pv (some 4) (tP 1 2 [] [])),(.pv none (.int .i64 (0)))])
theorem ff5:resV (sem (find tab) prim .fn 86 (pvs fq5) [])=some fv5:=zbj (n:=60) fok5 (by kernel_rfl)
def fK6:Facts:=(86,fq5,fv5)::fK5
theorem fok6:FactsOk (find tab) prim fK6:=.cons (by kernel_rfl) ff5 fok5
def fq6:List (Sh × PV):=[(none,(.sl (some 4) [(tP 3 0 [45] [(tP 2 0 [97] []),(tP 1 2 [] [])])]))]
def fv6:AV:=(.tuple [(.pv (some 4) (tP 3 0 [45] [(tP 2 0 [97] []),(tP 3 0 [46] [(tP 1 2 [] []),(tP 2 0 [91,93] [])])])),(.pv none (.int .i64 (0)))])
theorem ff6:resV (sem (find tab) prim .fn 37 (pvs fq6) [])=some fv6:=zbj (n:=60) fok6 (by kernel_rfl)
def fK7:Facts:=(37,fq6,fv6)::fK6
theorem fok7:FactsOk (find tab) prim fK7:=.cons (by kernel_rfl) ff6 fok6
def fq7:List (Sh × PV):=[((some 4),(tP 2 0 [98] [])),((some 4),(tP 2 0 [98] []))]
def fv7:AV:=(.pv none (.bool true))
theorem ff7:resV (sem (find tab) prim .fn 36 (pvs fq7) [])=some fv7:=zbj (n:=60) fok7 (by kernel_rfl)
def fK8:Facts:=(36,fq7,fv7)::fK7
theorem fok8:FactsOk (find tab) prim fK8:=.cons (by kernel_rfl) ff7 fok7
def fq8:List (Sh × PV):=[(none,(.sl (some 5) [])),((some 4),(tP 2 0 [98] [])),((some 4),(tP 2 0 [98] []))]
def fv8:AV:=(.tuple [(.pv none (.sl (some 5) [])),(.pv none (.int .i64 (0)))])
theorem ff8:resV (sem (find tab) prim .fn 85 (pvs fq8) [])=some fv8:=zbj (n:=60) fok8 (by kernel_rfl)
def fK9:Facts:=(85,fq8,fv8)::fK8
theorem fok9:FactsOk (find tab) prim fK9:=.cons (by kernel_rfl) ff8 fok8
def fq9:List (Sh × PV):=[(none,(.sl (some 5) [])),((some 4),(tP 2 0 [98] []))]
def fv9:AV:=(.tuple [(.pv (some 4) (tP 2 0 [98] [])),(.pv none (.int .i64 (0)))])
theorem ff9:resV (sem (find tab) prim .fn 86 (pvs fq9) [])=some fv9:=zbj (n:=60) fok9 (by kernel_rfl)
def fK10:Facts:=(86,fq9,fv9)::fK9
theorem zv6:FactsOk (find tab) prim fK10:=.cons (by kernel_rfl) ff9 fok9
def fq10:List (Sh × PV):=[(none,(.sl (some 5) [])),((some 4),(tP 1 1 [] []))]
def fv10:AV:=(.tuple [(.pv (some 4) (tP 1 1 [] [])),(.pv none (.int .i64 (0)))])
theorem ff10:resV (sem (find tab) prim .fn 86 (pvs fq10) [])=some fv10:=zbj (n:=60) zv6 (by kernel_rfl)
def fK11:Facts:=(86,fq10,fv10)::fK10
theorem zv7:FactsOk (find tab) prim fK11:=.cons (by kernel_rfl) ff10 zv6
def fq11:List (Sh × PV):=[(none,(.sl (some 5) [])),((some 4),(tP 1 3 [] []))]
def fv11:AV:=(.tuple [(.pv (some 4) (tP 1 3 [] [])),(.pv none (.int .i64 (0)))])
theorem ff11:resV (sem (find tab) prim .fn 86 (pvs fq11) [])=some fv11:=zbj (n:=60) zv7 (by kernel_rfl)
def fK12:Facts:=(86,fq11,fv11)::fK11
theorem zv8:FactsOk (find tab) prim fK12:=.cons (by kernel_rfl) ff11 zv7
def fq12:List (Sh × PV):=[(none,(.sl (some 4) [(tP 3 0 [45] [(tP 2 0 [98] []),(tP 1 1 [] [])]),(tP 3 0 [45] [(tP 2 0 [98] []),(tP 1 3 [] [])])]))]
def fv12:AV:=(.tuple [(.pv (some 4) (tP 3 0 [45] [(tP 2 0 [98] []),(tP 3 0 [46] [(tP 1 1 [] []),(tP 3 0 [46] [(tP 1 3 [] []),(tP 2 0 [91,93] [])])])])),(.pv none (.int .i64 (0)))])
theorem ff12:resV (sem (find tab) prim .fn 37 (pvs fq12) [])=some fv12:=zbj (n:=60) zv8 (by kernel_rfl)
def fK13:Facts:=(37,fq12,fv12)::fK12
theorem zv9:FactsOk (find tab) prim fK13:=.cons (by kernel_rfl) ff12 zv8
def fq13:List (Sh × PV):=[(none,(.sl (some 4) [(tP 3 0 [45] [(tP 2 0 [98] []),(tP 1 1 [] [])]),(tP 3 0 [45] [(tP 2 0 [97] []),(tP 1 2 [] [])]),(tP 3 0 [45] [(tP 2 0 [98] []),(tP 1 3 [] [])])]))]
def fv13:AV:=(.tuple [(.pv none (.sl (some 4) [(tP 3 0 [45] [(tP 2 0 [97] []),(tP 3 0 [46] [(tP 1 2 [] []),(tP 2 0 [91,93] [])])]),(tP 3 0 [45] [(tP 2 0 [98] []),(tP 3 0 [46] [(tP 1 1 [] []),(tP 3 0 [46] [(tP 1 3 [] []),(tP 2 0 [91,93] [])])])])])),(.pv none (.int .i64 (0)))])
theorem ff13:resV (sem (find tab) prim .fn 10 (pvs fq13) [])=some fv13:=zbj (n:=60) zv9 (by kernel_rfl)
def fK14:Facts:=(10,fq13,fv13)::fK13
theorem zwa:FactsOk (find tab) prim fK14:=.cons (by kernel_rfl) ff13 zv9
def fq14:List (Sh × PV):=[((some 4),(tP 3 0 [36,115,101,116] [(tP 0 0 [] []),(tP 3 0 [46] [(tP 3 0 [45] [(tP 2 0 [97] []),(tP 1 2 [] [])]),(tP 3 0 [46] [(tP 3 0 [45] [(tP 2 0 [97] []),(tP 1 1 [] [])]),(tP 3 0 [46] [(tP 3 0 [45] [(tP 2 0 [97] []),(tP 1 2 [] [])]),(tP 2 0 [91,93] [])])])]),(tP 0 1 [] [])]))]
def fv14:AV:=(.pv (some 4) (tP 3 0 [36,115,101,116] [(tP 0 0 [] []),(tP 3 0 [46] [(tP 3 0 [45] [(tP 2 0 [97] []),(tP 1 2 [] [])]),(tP 3 0 [46] [(tP 3 0 [45] [(tP 2 0 [97] []),(tP 1 1 [] [])]),(tP 3 0 [46] [(tP 3 0 [45] [(tP 2 0 [97] []),(tP 1 2 [] [])]),(tP 2 0 [91,93] [])])])]),(tP 0 1 [] [])]))
theorem ff14:resV (sem (find tab) prim .fn 47 (pvs fq14) [])=some fv14:=zbj (n:=60) zwa (by kernel_rfl)
def fK15:Facts:=(47,fq14,fv14)::fK14
theorem zwb:FactsOk (find tab) prim fK15:=.cons (by kernel_rfl) ff14 zwa
def fq15:List (Sh × PV):=[((some 4),(tP 3 0 [46] [(tP 3 0 [45] [(tP 2 0 [97] []),(tP 1 2 [] [])]),(tP 3 0 [46] [(tP 3 0 [45] [(tP 2 0 [97] []),(tP 1 1 [] [])]),(tP 3 0 [46] [(tP 3 0 [45] [(tP 2 0 [97] []),(tP 1 2 [] [])]),(tP 2 0 [91,93] [])])])]))]
def fv15:AV:=(.tuple [(.pv none (.sl (some 4) [(tP 3 0 [45] [(tP 2 0 [97] []),(tP 1 2 [] [])]),(tP 3 0 [45] [(tP 2 0 [97] []),(tP 1 1 [] [])]),(tP 3 0 [45] [(tP 2 0 [97] []),(tP 1 2 [] [])])])),(.pv (some 4) (tP 0 0 [] [])),(.pv none (.bool true))])
theorem ff15:resV (sem (find tab) prim .fn 48 (pvs fq15) [])=some fv15:=zbj (n:=60) zwb (by kernel_rfl)
def fK16:Facts:=(48,fq15,fv15)::fK15
theorem zwc:FactsOk (find tab) prim fK16:=.cons (by kernel_rfl) ff15 zwb
def fq16:List (Sh × PV):=[(none,(.sl (some 5) [])),((some 4),(tP 2 0 [97] [])),((some 4),(tP 2 0 [97] []))]
def fv16:AV:=(.tuple [(.pv none (.sl (some 5) [])),(.pv none (.int .i64 (0)))])
theorem ff16:resV (sem (find tab) prim .fn 85 (pvs fq16) [])=some fv16:=zbj (n:=60) zwc (by kernel_rfl)
def fK17:Facts:=(85,fq16,fv16)::fK16
theorem zwd:FactsOk (find tab) prim fK17:=.cons (by kernel_rfl) ff16 zwc
def fq17:List (Sh × PV):=[(none,(.sl (some 4) [(tP 3 0 [45] [(tP 2 0 [97] []),(tP 1 2 [] [])]),(tP 3 0 [45] [(tP 2 0 [97] []),(tP 1 1 [] [])]),(tP 3 0 [45] [(tP 2 0 [97] []),(tP 1 2 [] [])])]))]
def fv17:AV:=(.tuple [(.pv (some 4) (tP 3 0 [45] [(tP 2 0 [97] []),(tP 3 0 [46] [(tP 1 2 [] []),(tP 3 0 [46] [(tP 1 1 [] []),(tP 3 0 [46] [(tP 1 2 [] []),(tP 2 0 [91,93] [])])])])])),(.pv none (.int .i64 (0)))])
theorem ff17:resV (sem (find tab) prim .fn 37 (pvs fq17) [])=some fv17:=zbj (n:=60) zwd (by kernel_rfl)
def fK18:Facts:=(37,fq17,fv17)::fK17
theorem zwe:FactsOk (find tab) prim fK18:=.cons (by kernel_rfl) ff17 zwd
def fq18:List (Sh × PV):=[(none,(.sl (some 4) [(tP 3 0 [45] [(tP 2 0 [97] []),(tP 1 2 [] [])]),(tP 3 0 [45] [(tP 2 0 [97] []),(tP 1 1 [] [])]),(tP 3 0 [45] [(tP 2 0 [97] []),(tP 1 2 [] [])])]))]
def fv18:AV:=(.tuple [(.pv none (.sl (some 4) [(tP 3 0 [45] [(tP 2 0 [97] []),(tP 3 0 [46] [(tP 1 2 [] []),(tP 3 0 [46] [(tP 1 1 [] []),(tP 3 0 [46] [(tP 1 2 [] []),(tP 2 0 [91,93] [])])])])])])),(.pv none (.int .i64 (0)))])
theorem ff18:resV (sem (find tab) prim .fn 10 (pvs fq18) [])=some fv18:=zbj (n:=60) zwe (by kernel_rfl)
def fK19:Facts:=(10,fq18,fv18)::fK18
theorem zwf:FactsOk (find tab) prim fK19:=.cons (by kernel_rfl) ff18 zwe
def fq19:List (Sh × PV):=[((some 4),(tP 3 0 [36,115,101,116] [(tP 0 0 [] []),(tP 3 0 [46] [(tP 3 0 [45] [(tP 2 0 [97] []),(tP 1 2 [] [])]),(tP 3 0 [46] [(tP 3 0 [45] [(tP 2 0 [97] []),(tP 1 1 [] [])]),(tP 3 0 [46] [(tP 3 0 [45] [(tP 2 0 [97] []),(tP 1 2 [] [])]),(tP 2 0 [91,93] [])])])]),(tP 0 1 [] [])]))]
def fv19:AV:=(.tuple [(.pv none (.sl (some 4) [(tP 3 0 [36,115,101,116] [(tP 2 0 [97] []),(tP 3 0 [46] [(tP 3 0 [45] [(tP 2 0 [97] []),(tP 1 2 [] [])]),(tP 3 0 [46] [(tP 3 0 [45] [(tP 2 0 [97] []),(tP 1 1 [] [])]),(tP 3 0 [46] [(tP 3 0 [45] [(tP 2 0 [97] []),(tP 1 2 [] [])]),(tP 2 0 [91,93] [])])])]),(tP 3 0 [46] [(tP 1 1 [] []),(tP 3 0 [46] [(tP 1 2 [] []),(tP 2 0 [91,93] [])])])])])),(.pv (some 4) (tP 0 0 [] [])),(.pv none (.int .i64 (0)))])
theorem ff19:resV (sem (find tab) prim .fn 13 (pvs fq19) [])=some fv19:=zbj (n:=60) zwf (by kernel_rfl)
def fK20:Facts:=(13,fq19,fv19)::fK19
theorem zwg:FactsOk (find tab) prim fK20:=.cons (by kernel_rfl) ff19 zwf
def fq20:List (Sh × PV):=[((some 4),(tP 0 0 [] [])),((some 4),(tP 3 0 [94] [(tP 0 1 [] []),(tP 3 0 [112] [(tP 0 0 [] []),(tP 0 1 [] []),(tP 0 2 [] [])])]))]
def fv20:AV:=(.pv (some 4) (tP 3 0 [46] [(tP 0 2 [] []),(tP 2 0 [91,93] [])]))
theorem ff20:resV (sem (find tab) prim .fn 21 (pvs fq20) [])=some fv20:=zbj (n:=60) zwg (by kernel_rfl)
def fK21:Facts:=(21,fq20,fv20)::fK20
theorem zwQ:FactsOk (find tab) prim fK21:=.cons (by kernel_rfl) ff20 zwg
def fq21:List (Sh × PV):=[]
def fv21:AV:=(.pv none (.bool true))
theorem ff21:resV (sem (find tab) prim .fn 9 (pvs fq21) [])=some fv21:=zbj (n:=60) zwQ (by kernel_rfl)
theorem zwh:∃H,S 9 [] []=some (.ret (.pv none (.bool true)),H):=by
 have h:=ff21
 have e:pvs fq21=[]:=rfl
 rw[e] at h
 cases hs:sem (find tab) prim .fn 9 [] [] with
 |none=>rw[hs] at h;cases h
 |some r=>
  obtain⟨r,H⟩:=r
  rw[hs] at h
  cases r with
  |ret v=>
   have h:some v=some fv21:=h
   cases h
   exact⟨H,hs⟩
  |panic v=>cases h
end Go.Proofs.YtffecaafklpmhaaGreat
namespace Go.Proofs.YtffecaafklpmhaaGreat
open Go.Am Go.ChangeShapes Go.WideShapes Go.ChangeAt Go.RowKit
theorem zrh(H:Type):BulkLaws (H:=H) Rows.uptoBulk Rows.uptoBulkAll where
 nil:=by simp[Rows.uptoBulkAll]
 cons d r:=by simp[Rows.uptoBulkAll]
 slice e s:=by simp[Rows.uptoBulk]
 agg l:=by simp[Rows.uptoBulk]
 string l:=by simp[Rows.uptoBulk]
theorem zoG{H:Type}{l:List (DataW H)}(hk:Rows.uptoSmall H l=true):Rows.uptoBulkAll l<=1048576:=of_decide_eq_true hk
def znd(P:Program)(tA tT:TypeId):Bool:=
 (match P.underlying tA with|some (.slice t)=>t == tT|_=>false) &&
 (match P.underlying tT with
  |some (.struct fs)=>match fs.toList.map (·.type) with
   |[a,b,c,d]=>d == tA && (match P.underlying a with|some (.int .i64)=>true|_=>false) && (match P.underlying b with|some (.int .i64)=>true|_=>false) && (match P.underlying c with|some .string=>true|_=>false) && decide (shOf P a=none) && decide (shOf P b=none) && decide (shOf P c=none)
   |_=>false
  |_=>false) && decide (shOf P tT=some 4) && decide (shOf P tA=none)
theorem zmb{P:Program}{tA tT:TypeId}(h:znd P tA tT=true):TermTy P tA tT:=by
 unfold znd at h
 simp only[Bool.and_eq_true,decide_eq_true_eq] at h
 obtain⟨⟨⟨h1,h2⟩,h3⟩,h4⟩:=h
 refine⟨?_,?_⟩
 ·split at h1
  ·rename_i t ht;rw[ht];simp at h1;rw[h1]
  ·cases h1
 ·split at h2
  ·rename_i fs hfs
   split at h2
   ·rename_i a b c d hl
    simp only[Bool.and_eq_true,decide_eq_true_eq,beq_iff_eq] at h2
    obtain⟨⟨⟨⟨⟨⟨k1,k2⟩,k3⟩,k4⟩,k5⟩,k6⟩,k7⟩:=h2
    subst k1
    refine⟨fs,a,b,c,hfs,hl,?_,?_,?_,h3,h4,k5,k6,k7⟩
    ·split at k2
     ·assumption
     ·cases k2
    ·split at k3
     ·assumption
     ·cases k3
    ·split at k4
     ·assumption
     ·cases k4
   ·cases h2
  ·cases h2
theorem zvK:TermTy Tryz.prog 22 30:=zmb (by kernel_rfl)
def zri:List TypeId:=[2,3,4,5,9,22,30]
theorem closed:zm6 Tryz.prog zri=true:=by kernel_rfl
set_option maxRecDepth 100000 in
theorem zoH{H:Type}{enc:TypeId × Value->H}{W:World}{base:Nat}{v:Value}{d:DataW H}{ps:List MemPlace}(h:DataW.Trod enc Tryz.prog W 0 (fun _=>true) true 22 v d ps)(hv:Value.okWide Tryz.prog W .any base 22 v):
  ∃l:List Tm,AR W (noX (P:=Tryz.prog)) noμ [] (.pv none (.sl (some 4) (Tm.pvs l))) v/\Tm.sizes l<=Rows.uptoBulk d/\Tm.rngs l:=by
 obtain⟨fuel,h0⟩:=h
 obtain⟨p,hp⟩:=zq9 closed fuel _ _ _ _ (by simp[zri]) h0
 obtain⟨t,rfl,h1,h2⟩:=(zkG zvK (zrh H) fuel).2 d p hp
 have:=zvE ⟨fuel,h0⟩ (by kernel_rfl) hp (zoB hv)
 rw[show shOf Tryz.prog 22=none from by kernel_rfl] at this
 exact⟨t,this,h1,h2⟩
end Go.Proofs.YtffecaafklpmhaaGreat
