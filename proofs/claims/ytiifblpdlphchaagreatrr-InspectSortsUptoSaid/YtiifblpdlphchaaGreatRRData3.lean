/- What is proved: the program's run of a unification. -/
import Derived.Test.YtiifblpdlphchaaGreatRRPCn
import Derived.Test.YtiifblpdlphchaaGreatRRRVd
import Derived.Test.YtiifblpdlphchaaGreatRRHas
import Derived.Test.YtiifblpdlphchaaGreatRRSwap
import Derived.Test.YtiifblpdlphchaaGreatRRAm4
import Derived.Test.YtiifblpdlphchaaGreatRRAm5
set_option linter.unusedSimpArgs false
set_option linter.unusedVariables false
namespace Go.Proofs.YtiifblpdlphchaaGreatRR
open Go.Am
def InV(V:List Int)(t:Tm):Prop:=∀w∈t.occ,w∈V
def InVB(V:List Int)(l:List B):Prop:=∀b∈l,b.1∈V/\InV V b.2
theorem InV.arg{V:List Int}{t u:Tm}(h:InV V t)(hk:¬t.kind=0)(hu:u∈t.args):InV V u:=fun w hw=>h w (Tm.zwL hk hu hw)
theorem InV.var{V:List Int}{t:Tm}(h:InV V t)(hk:t.kind=0):t.n∈V:=h _ (by rw[Tm.occ_eq,if_pos hk];simp)
theorem InV.flw{V:List Int}{l:List B}(hO:OKB l)(hb:InVB V l):∀(k:Nat) (u:Tm),mu l u=k->u.valid=true->InV V u->InV V (flw l u):=by
 intro k
 induction k using Nat.strongRecOn with
 |_ k ih=>
  intro u hk hv h
  by_cases hk0:u.kind=0
  ·by_cases hf:fndB l u.n=true
   ·rw[zmY hO.Acyc hk0 hf]
    have:=zlU hO.Acyc hk0 hf
    exact ih _ (by omega) _ rfl (hO.to hf).1 (hb _ (find_mem hf)).2
   ·rw[zgd hO.Acyc (valid_fits hv) hk0 hf];exact h
  ·rw[zi7 l hk0];exact h
theorem InVB.len{V:List Int}{l:List B}(hG:Good l)(hb:InVB V l):l.length<=V.length:=by
 have h1:(l.map (·.1)).Nodup:=by
  refine List.pairwise_map.2 (hG.1.imp fun{a b} h=> ?_)
  omega
 have h2:=zhb (l.map (·.1)) V h1 fun x hx=>by
  obtain⟨b,hb1,rfl⟩:=List.mem_map.1 hx
  exact(hb b hb1).1
 rwa [List.length_map] at h2
theorem zlR{V:List Int}{l:List B}{x y:Tm}(hx:InV V x)(hy:InV V y){v:Int}{t:Tm}(h:ustep l x y=.bind v t):v∈V/\InV V t:=by
 unfold ustep at h
 split at h
 ·rename_i hk
  split at h
  ·cases h;exact⟨hx.var hk.1,hy⟩
  ·split at h
   ·cases h;exact⟨hy.var hk.2,hx⟩
   ·cases h
 ·split at h
  ·rename_i hk
   split at h
   ·cases h
   ·cases h;exact⟨hx.var hk,hy⟩
  ·split at h
   ·rename_i hk
    split at h
    ·cases h
    ·cases h;exact⟨hy.var hk,hx⟩
   ·split at h <;> cases h
theorem zlS{V:List Int}{l:List B}{x y:Tm}(hx:InV V x)(hy:InV V y){xs:List (Tm × Tm)}(h:ustep l x y=.args xs):∀p∈xs,InV V p.1/\InV V p.2:=by
 unfold ustep at h
 split at h
 ·split at h
  ·cases h
  ·split at h
   ·cases h
   ·cases h;exact fun p hp=>by cases hp
 ·split at h
  ·split at h <;> cases h
  ·split at h
   ·split at h <;> cases h
   ·split at h
    ·rename_i hk1 hk2 _
     cases h
     exact fun p hp=>⟨hx.arg hk1 (List.of_mem_zip hp).1,hy.arg hk2 (List.of_mem_zip hp).2⟩
    ·cases h
structure RunI(V:List Int)(l0:List B)(p0:Tm × Tm)(n:Nat)(l:List B)(r:List (Tm × Tm)):Prop where
 okb:OKB l
 val:∀p∈r,p.1.valid=true/\p.2.valid=true
 eq:uni 1048576 l0 [p0]=uni n l r
 le:n<=1048576
 stk:StkI l r
 vb:InVB V l
 vp:∀p∈r,InV V p.1/\InV V p.2
theorem RunI.flw{V:List Int}{l0:List B}{p0:Tm × Tm}{n:Nat}{l:List B}{p:Tm × Tm}{r:List (Tm × Tm)}(h:RunI V l0 p0 n l (p::r)):InV V (flw l p.1)/\InV V (flw l p.2):=
 have hv:=h.val p List.mem_cons_self
 have hi:=h.vp p List.mem_cons_self
 ⟨InV.flw h.okb h.vb _ _ rfl hv.1 hi.1,InV.flw h.okb h.vb _ _ rfl hv.2 hi.2⟩
theorem RunI.bind{V:List Int}{l0:List B}{p0:Tm × Tm}{n:Nat}{l:List B}{p:Tm × Tm}{r:List (Tm × Tm)}(h:RunI V l0 p0 (n+1) l (p::r)){v:Int}{t:Tm}(hu:ustep l (Go.Proofs.YtiifblpdlphchaaGreatRR.flw l p.1) (Go.Proofs.YtiifblpdlphchaaGreatRR.flw l p.2)=.bind v t):RunI V l0 p0 n (insB l v t) r:=by
 have hbv:=zlR h.flw.1 h.flw.2 hu
 obtain⟨hO,hv,he,hle,hs,hvb,hvp⟩:=h
 have hp:=hv p List.mem_cons_self
 have hb:=zoA hO (zeY hO hp.1) (zeY hO hp.2) hu
 refine⟨zuR hO hb.unb hb.rng hb.val hb.out,fun q hq=>hv q (List.mem_cons_of_mem _ hq),by rw[he,zs8 r hu],by omega,StkI.ins hO.good hb.unb hs.2,fun b hb=> ?_,fun q hq=>hvp q (List.mem_cons_of_mem _ hq)⟩
 rcases zeW hb with rfl|h
 ·exact hbv
 ·exact hvb b h
theorem RunI.args{V:List Int}{l0:List B}{p0:Tm × Tm}{n:Nat}{l:List B}{p:Tm × Tm}{r:List (Tm × Tm)}(h:RunI V l0 p0 (n+1) l (p::r))(hk:¬(Go.Proofs.YtiifblpdlphchaaGreatRR.flw l p.1).kind=0)(hl:(Go.Proofs.YtiifblpdlphchaaGreatRR.flw l p.1).args.length=(Go.Proofs.YtiifblpdlphchaaGreatRR.flw l p.2).args.length)(hu:ustep l (Go.Proofs.YtiifblpdlphchaaGreatRR.flw l p.1) (Go.Proofs.YtiifblpdlphchaaGreatRR.flw l p.2)=.args ((Go.Proofs.YtiifblpdlphchaaGreatRR.flw l p.1).args.zip (Go.Proofs.YtiifblpdlphchaaGreatRR.flw l p.2).args)):RunI V l0 p0 n l ((Go.Proofs.YtiifblpdlphchaaGreatRR.flw l p.1).args.zip (Go.Proofs.YtiifblpdlphchaaGreatRR.flw l p.2).args++r):=by
 have hav:=zlS h.flw.1 h.flw.2 hu
 obtain⟨hO,hv,he,hle,hs,hvb,hvp⟩:=h
 have hp:=hv p List.mem_cons_self
 have ha:=zoB (zeY hO hp.1) (zeY hO hp.2) hu
 exact⟨hO,fun q hq=>(List.mem_append.1 hq).elim (ha.1 q) fun hq=>hv q (List.mem_cons_of_mem _ hq),by rw[he,zs9 r hu],by omega,hs.push hO hp.1 _ hk hl,hvb,fun q hq=>(List.mem_append.1 hq).elim (hav q) fun hq=>hvp q (List.mem_cons_of_mem _ hq)⟩
theorem zsJ(s:List UInt8)(l:List Tm)(hs:(tstr s l).size<1000000000):W Z L 0 (g14).code ⟨params 0 (pvs [(none,.str s),(none,.sl (some 4) (Tm.pvs l))]),[]⟩ (endK (g14).results (Am.frozen (.tuple [(canR (tstr s l)).av,.pv none (.bool (tstr s l).valid)]))):=by
 have h1:=fun hp=>f_ok s l hp
 have h2:=fun hp=>zq3 (tstr s l) hp hs
 have h3:=fun hp=>zcX (tstr s l) hp hs
 generalize tstr s l=g at h1 h2 h3 ⊢
 simp only[Tm.av] at h1 h2 h3
 simp -dsimp -implicitDefEqProofs only[go_sem,seval,↓reduceIte,Tm.av,h1,h2,h3,zae (Nat.zero_le _)]
 exact⟨_,rfl⟩
theorem zmO(s:List UInt8)(l:List Tm)(hs:(tstr s l).size<1000000000)(hp:Heap):S 14 [.pv none (.str s),.tsl (some 4) (Tm.pvs l)] hp=some (.ret (.tuple [(canR (tstr s l)).av,.pv none (.bool (tstr s l).valid)]),hp):=
 zai (ps:=[(none,.str s),(none,.sl (some 4) (Tm.pvs l))]) rfl rfl rfl rfl rfl (zsJ s l hs)
theorem zi2(L:List Int)(t:Tm):(Tm.sub (cPos L) t).kind=t.kind:=by
 rw[Tm.zwu]
 split
 ·rename_i h
  rw[h]
  rfl
 ·rfl
theorem zmP(s:List UInt8)(l:List Tm):canT (tstr s l)=tstr s (l.map (Tm.sub (cPos (vads [] (Tm.occs l))))):=by
 have ho:(tstr s l).occ=Tm.occs l:=by rw[Tm.occ_eq];rfl
 unfold canT
 rw[Tm.zwu,ho]
 rfl
theorem zmQ(L:List Int)(t:Tm):cs (Tm.sub (cPos L) t)↔cs t:=by
 by_cases hk:t.kind=0
 ·constructor
  ·intro h
   have:=h.1
   rw[zi2,hk] at this
   cases this
  ·intro h
   have:=h.1
   rw[hk] at this
   cases this
 ·rw[zbP hk]
  unfold cs
  show t.kind=3/\t.name=[46]/\(t.args.map _).length=2↔_
  rw[List.length_map]
theorem zmR(L:List Int){t:Tm}(h:cs t):arg1 (Tm.sub (cPos L) t)=Tm.sub (cPos L) (arg1 t):=by
 have hk:¬t.kind=0:=by rw[h.1];decide
 rw[zbP hk]
 have e:(Tm.mk t.kind t.n t.name (t.args.map (Tm.sub (cPos L)))).args=[Tm.sub (cPos L) (arg0 t),Tm.sub (cPos L) (arg1 t)]:=by
  show t.args.map _=_
  rw[args_two h.2.2]
  rfl
 generalize Tm.mk t.kind t.n t.name (t.args.map (Tm.sub (cPos L)))=u at e
 conv=>lhs;unfold arg1
 rw[e]
theorem zsK(L:List Int){t:Tm}(h:cs t):arg0 (Tm.sub (cPos L) t)=Tm.sub (cPos L) (arg0 t):=by
 have hk:¬t.kind=0:=by rw[h.1];decide
 rw[zbP hk]
 have e:(Tm.mk t.kind t.n t.name (t.args.map (Tm.sub (cPos L)))).args=[Tm.sub (cPos L) (arg0 t),Tm.sub (cPos L) (arg1 t)]:=by
  show t.args.map _=_
  rw[args_two h.2.2]
  rfl
 generalize Tm.mk t.kind t.n t.name (t.args.map (Tm.sub (cPos L)))=u at e
 conv=>lhs;unfold arg0
 rw[e]
theorem ztw(L:List Int):∀(n:Nat) (t:Tm),t.size=n->tl (Tm.sub (cPos L) t)=Tm.sub (cPos L) (tl t):=by
 intro n
 induction n using Nat.strongRecOn with
 |_ n ih=>
  intro t hn
  by_cases h:cs t
  ·have hlt:=Tm.zwr (zbs h.2.2)
   rw[tl_c h,tl_c ((zmQ L t).2 h),zmR L h,ih _ (by omega) _ rfl]
  ·rw[tl_n h,tl_n fun h'=>h ((zmQ L t).1 h')]
theorem zuz(L:List Int):∀(n:Nat) (t:Tm),t.size=n->els (Tm.sub (cPos L) t)=(els t).map (Tm.sub (cPos L)):=by
 intro n
 induction n using Nat.strongRecOn with
 |_ n ih=>
  intro t hn
  by_cases h:cs t
  ·have hlt:=Tm.zwr (zbs h.2.2)
   rw[zks h,zks ((zmQ L t).2 h),zmR L h,zsK L h,ih _ (by omega) _ rfl,List.map_cons]
  ·rw[zkt h,zkt fun h'=>h ((zmQ L t).1 h')]
   rfl
theorem zuu(s:List UInt8)(hp:Heap):S 125 [.pv none (.str s)] hp=some (.ret (tatm s).av,hp):=by
 refine zai rfl rfl rfl (zab [(none,.str s)]) rfl ?_
 have hbu:za1 [(none,.pv none (.int .i64 0)),(none,.pv none (.int .i64 0)),(none,.pv none (.str [])),(none,.tsl (some 4) [])] [0,2] [.pv none (.int .i64 2),.pv none (.str s)]=some (.agg [(none,.pv none (.int .i64 2)),(none,.pv none (.int .i64 0)),(none,.pv none (.str s)),(none,.tsl (some 4) [])]):=rfl
 simp -dsimp -implicitDefEqProofs only[go_sem,seval,↓reduceIte,hbu]
 exact⟨_,rfl⟩
theorem zdG(t:Tm)(hv:t.valid=true)(hp:Heap):S 132 [t.av] hp=some (.ret (.pv none (.bool (decide ((tl t).kind=0)))),hp):=by
 refine zai rfl rfl rfl (zab [(some 4,t.pv)]) rfl ?_
 have h1:=fun hp=>zg2 t hv hp
 have h2:=fun hp=>zm7 (tl t) hp
 simp only[Tm.av] at h1 h2
 simp -dsimp -implicitDefEqProofs only[go_sem,seval,↓reduceIte,Tm.av,h1,h2,zae (Nat.zero_le _)]
theorem zlY(t:Tm)(hv:t.valid=true)(hp:Heap):S 130 [t.av] hp=some (.ret (.pv none (.bool (decide (zcY (tl t)) || decide ((tl t).kind=0)))),hp):=by
 refine zai rfl rfl rfl (zab [(some 4,t.pv)]) rfl ?_
 have h1:=fun hp=>zkF t hv hp
 have h2:=fun hp=>zdG t hv hp
 simp only[Tm.av] at h1 h2
 cases hk:decide (zcY (tl t))
 ·rw[hk] at h1
  simp -dsimp -implicitDefEqProofs only[go_sem,seval,↓reduceIte,Tm.av,h1,h2,Bool.false_or]
 ·rw[hk] at h1
  simp -dsimp -implicitDefEqProofs only[go_sem,seval,↓reduceIte,Tm.av,h1,h2,Bool.true_or]
def strL:List UInt8:=[108,105,115,116]
def hK(hp:Heap)(r:Nat)(g:Tm)(j:Nat):Heap:=hp.set r (.box (some 5) (.pv (some 5) (runV g j)))
theorem zus(g:Tm)(ts:List Tm)(hv:g.valid=true)(hc:canT g=g)(hk:g.kind=3)(hn:g.name∈zb9 g.args.length)(hts:ts.all Tm.valid=true)(hl:ts.length<=1000)(q:Nat)(x6:AObj)(X:Heap)(z:Bool)
  (he:S 50 [.ptr 6 0] (hE g)=some (.ret (.tuple [.sl (some 4) q ts.length 0 ts.length,.pv none (.int .i64 0)]),(hE g).take 6++x6::X))(hq:7<=q)(hX:X[q - 7]? =some (.arr (some 4) (Tm.pvs ts) z)):zlQ g ts zt 0:=by
 intro hp
 have h3:=zsz g hp hv hc hk hn ts 0 _ x6 X he (fun H hH=>zvA (z:=z) rfl (hH q _ (by omega) (by
  obtain⟨j,rfl⟩:∃j,q=j+7:=⟨q - 7,by omega⟩
  exact hX))) (by omega) fun t ht=>by
   have:=valid_size (List.all_eq_true.1 hts t ht)
   omega
 have hr:zhr ts 0=(ts,0):=by
  have:¬1000<ts.length:=by omega
  simp only[zhr,ne_eq,not_true_eq_false,if_false,this,hts,if_true]
 rw[hr] at h3
 exact h3
theorem zwg(g:Tm):Bq (hE g++eJ g):=(zuw g).app (Bq.cons rfl (Bq.cons rfl (Bq.cons (zlO _ _) (Bq.cons (zi0 _) (Bq.cons (zi1 _) Bq.nil)))))
def byF(i:Nat):FuncId:=match i with
 |0=>34
 |1=>35
 |_=>36
def byR(i:Nat)(ts:List Tm):List Tm:=match i with
 |0=>isort Tm.cmp ts
 |1=>dd (isort Tm.cmp ts)
 |_=>isort zd1 ts
theorem zrf(l:List Tm):(dd l).Sublist l:=by
 have hstep:∀(m:List Tm) (x:Tm) (acc:List Tm),acc.Sublist m->(zdD acc x).Sublist (m++[x]):=fun m x acc h=>by
  unfold zdD
  split
  ·split
   ·exact h.trans (List.sublist_append_left _ _)
   ·exact h.append (List.Sublist.refl _)
  ·exact List.sublist_append_right _ _
 have key:∀l m acc:List Tm,acc.Sublist m->(l.foldl zdD acc).Sublist (m++l):=by
  intro l
  induction l with
  |nil=>intro m acc h;simpa using h
  |cons x r ih=>
   intro m acc h
   have:=ih (m++[x]) (zdD acc x) (hstep m x acc h)
   simpa using this
 have:=key l [] [] (List.Sublist.refl _)
 simpa[dd] using this
theorem zel{l r:List Tm}(h:l.Perm r):Tm.sizes l=Tm.sizes r:=by
 induction h with
 |nil=>rfl
 |cons x _ ih=>simp only[Tm.sizes,ih]
 |swap x y l=>simp only[Tm.sizes];omega
 |trans _ _ ih1 ih2=>rw[ih1,ih2]
theorem zox{l r:List Tm}(h:l.Sublist r):Tm.sizes l<=Tm.sizes r:=by
 induction h with
 |slnil=>exact Nat.le_refl _
 |cons x _ ih=>simp only[Tm.sizes];omega
 |cons_cons x _ ih=>simp only[Tm.sizes];omega
theorem zuO{i:Nat}{ts:List Tm}{t:Tm}(h:t∈byR i ts):t∈ts:=by
 unfold byR at h
 split at h
 ·exact(za6 ts).mem_iff.1 h
 ·exact(za6 ts).mem_iff.1 ((zrf _).subset h)
 ·exact(za6 ts).mem_iff.1 h
theorem zrg(i:Nat)(ts:List Tm):Tm.sizes (byR i ts)<=Tm.sizes ts:=by
 unfold byR
 split
 ·rw[zel (za6 ts)];exact Nat.le_refl _
 ·have:=zox (zrf (isort Tm.cmp ts))
  rw[zel (za6 ts)] at this
  exact this
 ·rw[zel (za6 ts)];exact Nat.le_refl _
theorem zfA(i:Nat)(ts:List Tm):(byR i ts).length<=ts.length:=by
 unfold byR
 split
 ·rw[zat];exact Nat.le_refl _
 ·have:=zki (isort Tm.cmp ts)
  rw[zat] at this
  exact this
 ·rw[zat];exact Nat.le_refl _
def SlO(H:Heap)(q N:Nat)(l:List Tm):Prop:=∃es,H[q]? =some (.arr (some 4) es false)/\es.length=N/\es.take l.length=Tm.pvs l/\l.length<=N
theorem zoy(i:Nat)(hi:i<3)(ts:List Tm)(hv:zaI ts=true)(hp2:i=2->ts.all zaZ=true)(hl:Tm.sizes ts<100000000)(hp:Heap)(w:AV)(hL:IsL w hp ts):∃q N E,S (byF i) [w] hp=some (.ret (.tuple [.sl (some 4) q N 0 (byR i ts).length,.pv none (.int .i64 0)]),hp++E)/\hp.length<=q/\SlO (hp++E) q N (byR i ts):=by
 match i,hi with
 |0,_=>
  have h:=zf0 w hp ts hL hl
  rw[if_pos hv,if_pos hv] at h
  have e:(byR 0 ts).length=ts.length:=zat ts
  refine⟨hp.length+2,ts.length,_,by rw[e];exact h,by omega,Tm.pvs (isort Tm.cmp ts),by rw[getN rfl];rfl,by rw[Tm.pvs_len,zat],?_,by rw[e];exact Nat.le_refl _⟩
  rw[List.take_of_length_le (by rw[Tm.pvs_len];exact Nat.le_refl _)]
  rfl
 |1,_=>
  have h:=zuL w hp ts hL hl
  rw[if_pos hv,if_pos hv] at h
  have hl2:=zfA 1 ts
  refine⟨hp.length+3,ts.length,_,h,by omega,packed ts.length (dd (isort Tm.cmp ts)),by rw[getN rfl];rfl,?_,?_,hl2⟩
  ·unfold packed
   rw[List.length_append,Tm.pvs_len,List.length_replicate]
   have:(dd (isort Tm.cmp ts)).length<=ts.length:=hl2
   omega
  ·unfold packed
   rw[List.take_append_of_le_length (by rw[Tm.pvs_len];exact Nat.le_refl _),List.take_of_length_le (by rw[Tm.pvs_len];exact Nat.le_refl _)]
   rfl
 |2,_=>
  obtain⟨v,H,h,q,E,rfl,hq,hH,rfl⟩:=zvC ts hl hp w hL
  have he:zhs ts=0:=by unfold zhs;rw[if_pos hv,if_pos (hp2 rfl)]
  have hL:zfw ts=byR 2 ts:=by unfold zfw;rw[if_pos ⟨hv,hp2 rfl⟩];rfl
  rw[he,hL] at h
  rw[hL] at hH
  refine⟨q,(byR 2 ts).length,E,h,hq,_,hH,Tm.pvs_len _,?_,Nat.le_refl _⟩
  rw[List.take_of_length_le (by rw[Tm.pvs_len];exact Nat.le_refl _)]
theorem zs2(l:List Tm)(hl:l.length<1000000000)(t:Tm)(H:Heap)(q N:Nat)(h:SlO H q N l):∃x,S 131 [.sl (some 4) q N 0 l.length,t.av] H=some (.ret (lstT l t).av,H.set q x):=by
 obtain⟨es,h1,h2,h3,h4⟩:=h
 refine⟨.arr (some 4) es true,?_⟩
 have hr:=zsQ l hl t []
 have hz:zan [.sl (some 4) q N 0 l.length,t.av] H=some ([(none,.sl (some 4) (Tm.pvs l)),(some 4,t.pv)],H.set q (.arr (some 4) es true)):=by
  have e1:AV.freeze deep (.sl (some 4) q N 0 l.length) H=some (.sl (some 4) (Tm.pvs l),H.set q (.arr (some 4) es true)):=by
   have h5:l.length<=es.length:=by omega
   simp[AV.freeze,deep,h1,h2,h3,h5,h4]
   intro hN
   rw[<-h3,List.take_of_length_le (by omega)]
  have e2:∀X,AV.freeze deep (.pv (some 4) t.pv) X=some (t.pv,X):=fun _=>rfl
  simp[zan,e1,e2,AV.shp,Tm.av]
 have hx:=zfl (F:=find tab) (prim:=prim) (f:=131) (args:=[.sl (some 4) q N 0 l.length,t.av]) rfl rfl rfl hz hr
 have hs:∀u:Tm,u.av.scalar=false:=fun u=>by cases u;rfl
 rw[hs] at hx
 exact hx
def nSrt(i:Nat):List UInt8:=match i with
 |0=>[109,115,111,114,116]
 |1=>[115,111,114,116]
 |_=>[107,101,121,115,111,114,116]
def sJ(L y:Tm):Heap:=[.box (some 4) (.pv (some 4) L.pv),.box (some 4) (.pv (some 4) y.pv),.arr (some 4) [] false,.box none (.pv none (.str strL)),.box (some 4) (.pv (some 4) L.pv),.box (some 4) (.pv (some 4) (tl L).pv),.arr (some 4) [] false,.box none (.pv none (.str strL)),.box (some 4) (.pv (some 4) y.pv)]
theorem zoz(i:Nat)(hi:i<3)(g:Tm)(k:Nat)(L y:Tm)(hgn:g.name=nSrt i)(vL:L.valid=true)(hnl:zcY (tl L))(hval:zaI (els L)=true)(hpr:i=2->(els L).all zaZ=true)(hsz:Tm.sizes (els L)<100000000)(vy:y.valid=true)(hy:y.kind=0)(hga:g.args.length=2)(hp:Heap)(r:Nat)(hr:hp[r]? =some (.box (some 5) (.pv (some 5) (runV g k))))(hb:Bq hp):
  ∃B:Heap,hp.length<=B.length/\(∀j,j<hp.length->B[j]? =hp[j]?)/\S 106 [.ptr r 0,L.av,y.av] hp=some (.ret (.sl (some 4) (B.length+6) 1 0 1),B++wJ B.length g 1 (lstT (byR i (els L)) (tatm [91,93]))):=by
 have hlt:=zbG hr
 obtain⟨q,N,E,hby,hq,hslo⟩:=zoy i hi (els L) hval hpr hsz (hp++sJ L y) _ (zvR _ _)
 have hbl:=zfA i (els L)
 have hel:=zfu _ L rfl
 have hLz:=valid_size vL
 obtain⟨x,hli⟩:=zs2 (byR i (els L)) (by omega) (tatm [91,93]) _ q N hslo
 have hqp:hp.length<=q:=by
  have:(hp++sJ L y).length=hp.length+9:=by rw[List.length_append];rfl
  omega
 obtain⟨B,hB⟩:∃B,B=(hp++sJ L y++E).set q x:=⟨_,rfl⟩
 have hBl:hp.length<=B.length:=by rw[hB];simp
 have hBj:∀j,j<hp.length->B[j]? =hp[j]? :=fun j hj=>by
  rw[hB,List.getElem?_set_ne (by omega),List.append_assoc,zb8 hj]
 have hBr:B[r]? =some (.box (some 5) (.pv (some 5) (runV g k))):=by rw[hBj r hlt,hr]
 rw[<-hB] at hli
 have hwi:=zuW g k 1 (lstT (byR i (els L)) (tatm [91,93])) (by omega) (by omega) B r hBr
 refine⟨B,hBl,hBj,?_⟩
 refine zaD rfl rfl rfl rfl ?_
 have hr':∀X,(hp++X)[r]? =some (.box (some 5) (.pv (some 5) (runV g k))):=fun X=>by rw[zb8 hlt,hr]
 have h1:=fun hp=>zdG L vL hp
 have e1:decide ((tl L).kind=0)=false:=decide_eq_false (by rw[hnl.1];decide)
 rw[e1] at h1
 have h2:=fun hp=>zkF L vL hp
 have e2:decide (zcY (tl L))=true:=decide_eq_true hnl
 rw[e2] at h2
 have h3:=zte
 have h4:=fun n t hp=>ztf n t hp
 have h5:=fun n hp=>zuu n hp
 have h6:=fun hp=>zg2 L vL hp
 have hcy:¬cs y:=fun h=>by
  have:=h.1
  rw[hy] at this
  cases this
 have h7:=fun hp=>zlY y vy hp
 have e7:(decide (zcY (tl y)) || decide ((tl y).kind=0))=true:=by
  rw[tl_n hcy,hy]
  simp
 rw[e7] at h7
 have e0:((1:Nat):Int)=1:=rfl
 rw[e0] at hwi
 generalize lstT (byR i (els L)) (tatm [91,93])=ls at hli hwi ⊢
 generalize B++wJ B.length g 1 ls=H3 at hwi ⊢
 simp only[Tm.av] at h1 h2 h4 h5 h6 h7 hli hwi
 simp only[sJ,strL,List.append_assoc,List.cons_append,List.nil_append] at hby hli
 match i,hi with
 |0,_=>
  have hgn0:g.name=[109,115,111,114,116]:=hgn
  have hby0:S 34 _ _=_:=hby
  have m1:=eq_false (show ¬([109,115,111,114,116]:List UInt8)=[115,111,114,116] by decide)
  have m2:=eq_false (show ¬([109,115,111,114,116]:List UInt8)=[107,101,121,115,111,114,116] by decide)
  simp -dsimp -implicitDefEqProofs only[go_sem,seval,↓reduceIte,Tm.av,h1,h2,h3,h4,h6,h7,zcx,hgn0,m1,m2,hby0,hli,h5,hwi,zap,zac,hr,hr',zlP,zg4,zdE,zkg rfl,zdh hb,List.take_succ_cons,zcw,zdi,zku,zej,zg5,zaV,zaY (sh:=some 4) (by decide),zae (Nat.zero_le _),List.append_assoc,zah,zaf,zaj,zag,Nat.add_assoc,List.length_append]
  rw[if_neg (by simp[AV.refsIn,AV.refsIn.gol];omega)]
 |1,_=>
  have hgn0:g.name=[115,111,114,116]:=hgn
  have hby0:S 35 _ _=_:=hby
  have m1:=eq_true (rfl:([115,111,114,116]:List UInt8)=[115,111,114,116])
  have m2:=eq_false (show ¬([115,111,114,116]:List UInt8)=[107,101,121,115,111,114,116] by decide)
  simp -dsimp -implicitDefEqProofs only[go_sem,seval,↓reduceIte,Tm.av,h1,h2,h3,h4,h6,h7,zcx,hgn0,m1,m2,hby0,hli,h5,hwi,zap,zac,hr,hr',zlP,zg4,zdE,zkg rfl,zdh hb,List.take_succ_cons,zcw,zdi,zku,zej,zg5,zaV,zaY (sh:=some 4) (by decide),zae (Nat.zero_le _),List.append_assoc,zah,zaf,zaj,zag,Nat.add_assoc,List.length_append]
  rw[if_neg (by simp[AV.refsIn,AV.refsIn.gol];omega)]
 |2,_=>
  have hel2:∀e∈els L,e.kind=3/\e.name=[45]/\e.args.length=2:=fun e he=>by
   have:=List.all_eq_true.1 (hpr rfl) e he
   simp only[zaZ,Bool.and_eq_true,decide_eq_true_eq] at this
   exact⟨this.1.1,this.1.2,this.2⟩
  have hlen:=Tm.pvs_len (els L)
  have hgn0:g.name=[107,101,121,115,111,114,116]:=hgn
  have hby0:S 36 _ _=_:=hby
  have m1:=eq_false (show ¬([107,101,121,115,111,114,116]:List UInt8)=[115,111,114,116] by decide)
  have m2:=eq_true (rfl:([107,101,121,115,111,114,116]:List UInt8)=[107,101,121,115,111,114,116])
  simp -dsimp -implicitDefEqProofs only[go_sem,seval,↓reduceIte,Tm.av,h1,h2,h3,h4,h6,h7,zcx,hgn0,m1,m2,hby0,hli,h5,hwi,zap,zac,hr,hr',zlP,zg4,zdE,zkg rfl,zdh hb,List.take_succ_cons,zcw,zdi,zku,zej,zg5,zaV,zaY (sh:=some 4) (by decide),zae (Nat.zero_le _),List.append_assoc,zah,zaf,zaj,zag,Nat.add_assoc,List.length_append]
  refine zed (α:=Unit) (els L).length (fun _ _=>True) (fun i _=>⟨[(0,.ptr r 0),(5,.ptr (hp.length+1) 0),(7,.pv none (.sl (some 4) (Tm.pvs (els L)))),(9,.pv none (.func (.func 36))),(35,.pv none (.sl (some 4) (Tm.pvs (els L)))),(36,.pv none (.int .i64 (els L).length)),(37,.pv none (.int .i64 i))],hp++[.box (some 4) (.pv (some 4) L.pv),.box (some 4) (.pv (some 4) y.pv),.arr (some 4) [] false,.box none (.pv none (.str [108,105,115,116])),.box (some 4) (.pv (some 4) L.pv),.box (some 4) (.pv (some 4) (tl L).pv),.arr (some 4) [] false]⟩) () ⟨trivial,by rw[hlen];rfl⟩ ?_ ?_
  ·rintro i - h -
   have hc:(i:Int)<((els L).length:Int):=by omega
   have w2:IntKind.i64.wrap ((i:Int)+1)=((i+1:Nat):Int):=by rw[zaq (by omega) (by omega)];omega
   obtain⟨e,he⟩:∃e,(els L)[i]? =some e:=⟨_,List.getElem?_eq_getElem h⟩
   obtain⟨k3,k4,k5⟩:=hel2 e (List.mem_of_getElem? he)
   have h8:=fun hp=>zm7 e hp
   have h9:=fun hp=>zeg e hp
   rw[k3] at h8 h9
   have d0:decide ((3:Int)=0)=false:=rfl
   have d3:decide ((3:Int)=3)=true:=rfl
   rw[d0] at h8
   rw[d3] at h9
   simp only[Tm.av] at h8 h9
   simp -dsimp -implicitDefEqProofs only[go_sem,seval,↓reduceIte,Tm.av,h1,h2,h3,h4,h6,h7,zcx,hgn0,m1,m2,hby0,hli,h5,hwi,zap,zac,hr,hr',zlP,zg4,zdE,zkg rfl,zdh hb,List.take_succ_cons,zcw,zdi,zku,zej,zg5,zaV,zaY (sh:=some 4) (by decide),zae (Nat.zero_le _),List.append_assoc,zah,zaf,zaj,zag,Nat.add_assoc,List.length_append,hc,w2,zal (Tm.pvs_get he),h8,h9,k4,k5,Tm.pvs_len]
   refine⟨(),?_⟩
   rw[zbO 7 rfl rfl (by simp[AObj.refs,AV.refsIn]) (by simp[AV.refsIn];omega)]
   rfl
  ·rintro - -
   have hc:¬((els L).length:Int)<((els L).length:Int):=by omega
   simp -dsimp -implicitDefEqProofs only[go_sem,seval,↓reduceIte,Tm.av,h1,h2,h3,h4,h6,h7,zcx,hgn0,m1,m2,hby0,hli,h5,hwi,zap,zac,hr,hr',zlP,zg4,zdE,zkg rfl,zdh hb,List.take_succ_cons,zcw,zdi,zku,zej,zg5,zaV,zaY (sh:=some 4) (by decide),zae (Nat.zero_le _),List.append_assoc,zah,zaf,zaj,zag,Nat.add_assoc,List.length_append,hc]
   rw[if_neg (by simp[AV.refsIn,AV.refsIn.gol];omega)]
def sgg(u:Tm)(q:Nat):AV:=.agg [(none,.pv none (.int .i64 u.kind)),(none,.pv none (.int .i64 u.n)),(none,.pv none (.str u.name)),(none,.sl (some 4) q u.args.length 0 u.args.length)]
theorem zoo{u:Tm}{q:Nat}{H:Heap}{z:Bool}(h:H[q]? =some (.arr (some 4) (Tm.pvs u.args) z)):AV.freeze deep (sgg u q) H=some (u.pv,H.set q (.arr (some 4) (Tm.pvs u.args) true)):=by
 have e:∀l hp,AV.freeze (7+1) (.agg l) hp=match AV.freeze.go 7 l hp with|some (ps,hp')=>some (.agg ps,hp')|none=>none:=fun _ _=>rfl
 show AV.freeze (7+1) (.agg _) _=_
 simp[e,AV.freeze.go,AV.freeze,h,Tm.pvs_len]
 cases u
 rfl
def CopR(v:AV)(u:Tm)(n:Nat)(H:Heap):Prop:=v=.pv (some 4) u.pv\/∃q z,n<=q/\v=sgg u q/\H[q]? =some (.arr (some 4) (Tm.pvs u.args) z)
theorem CopR.shp{v:AV}{u:Tm}{n:Nat}{H:Heap}(h:CopR v u n H):v.shp=some 4:=by
 rcases h with rfl|⟨q,z,_,rfl,_⟩ <;> rfl
theorem CopR.frz{v:AV}{u:Tm}{n:Nat}{B e:Heap}(h:CopR v u n (B++e))(hn:B.length=n):∃e2,e2.length=e.length/\AV.freeze deep v (B++e)=some (u.pv,B++e2):=by
 rcases h with rfl|⟨q,z,hq,rfl,hH⟩
 ·exact⟨e,rfl,rfl⟩
 ·obtain⟨j,rfl⟩:∃j,q=n+j:=⟨q - n,by omega⟩
  refine⟨e.set j (.arr (some 4) (Tm.pvs u.args) true),by simp,?_⟩
  rw[zoo hH,setN hn]
theorem zvr(g:Tm)(H:Heap)(h:∀j,j<6->H[j]? =(hE g)[j]?)(hl:7<=H.length):∃x6,H=(hE g).take 6++x6::H.drop 7:=by
 refine⟨H[6],?_⟩
 have e1:H.take 6=(hE g).take 6:=by
  refine List.ext_getElem? fun j=> ?_
  rw[List.getElem?_take,List.getElem?_take]
  by_cases hj:j<6
  ·rw[if_pos hj,if_pos hj,h j hj]
  ·rw[if_neg hj,if_neg hj]
 rw[<-e1,<-List.drop_eq_getElem_cons (by omega),List.take_append_drop]
theorem zsT(nm:List UInt8)(hnm:nm=nSrt 0\/nm=nSrt 1\/nm=nSrt 2)(g a0 a1:Tm)(hn:g.name=nm)(hga:g.args=[a0,a1])(k:Nat)(hp:Heap)(r:Nat)(hr:hp[r]? =some (.box (some 5) (.pv (some 5) (runV g k))))(hb:Bq hp)(v:AV)(H:Heap)(hv:v.refsIn.all (fun q=>decide (q<hp.length))=false)
  (hex:S 106 [.ptr r 0,a0.av,a1.av] (hp++eJ g)=some (.ret v,H)):
  S 50 [.ptr r 0] hp=some (.ret (.tuple [v,.pv none (.int .i64 0)]),H):=by
 refine zaD rfl rfl rfl rfl ?_
 have hlt:=zbG hr
 have hr':∀X,(hp++X)[r]? =some (.box (some 5) (.pv (some 5) (runV g k))):=fun X=>by rw[zb8 hlt,hr]
 have hl:g.args.length=2:=by rw[hga];rfl
 have h1:=fun hp=>zhi (Tm.pvs g.args) (by rw[Tm.pvs_len];omega) (by rw[Tm.pvs_len];omega) hp
 have hz0:za1 [(none,.pv none (.int .i64 0)),(none,.pv none (.int .i64 0)),(none,.pv none (.str [])),(none,.tsl (some 4) [])] [] []=some zagC:=rfl
 have h2:=zmN
 have h3:=zd2
 have ha:∀y0 y1,_:=fun y0 y1=> @ztt hp y0 y1 g.args 2 hl (by decide)
 have l0:∀Z y0 y1 z,_:=fun Z y0 y1 z=> @zsH hp Z y0 y1 (g.args++[zt,zt]) z 4 0 a0 (by rw[List.length_append,hl];rfl) (by rw[hga];rfl)
 have i0:za7 (some 4) [.sl (some 4) (hp.length+2) 4 0 4,.pv none (.int .i64 0)]=some (.eptr (some 4) (hp.length+2) 4 0 0):=rfl
 have l1:∀Z y0 y1 z,_:=fun Z y0 y1 z=> @zsH hp Z y0 y1 (g.args++[zt,zt]) z 4 1 a1 (by rw[List.length_append,hl];rfl) (by rw[hga];rfl)
 have i1:za7 (some 4) [.sl (some 4) (hp.length+2) 4 0 4,.pv none (.int .i64 1)]=some (.eptr (some 4) (hp.length+2) 4 1 0):=rfl
 have k1:∀Z y0 y1 y2,_:=fun Z y0 y1 y2=> @ztu hp Z y0 y1 y2 nm rows1 (by rcases hnm with rfl|rfl|rfl <;> rfl)
 have k2:∀Z y0 y1 y2 y3,_:=fun Z y0 y1 y2 y3=> @ztv hp Z y0 y1 y2 y3 nm rows2 (by rcases hnm with rfl|rfl|rfl <;> rfl)
 have q0:(nm=[99,111,109,112,97,114,101])=False:=eq_false (by rcases hnm with rfl|rfl|rfl <;> decide)
 have q1:(nm=[92,61])=False:=eq_false (by rcases hnm with rfl|rfl|rfl <;> decide)
 have q2:(nm=[102,117,110,99,116,111,114])=False:=eq_false (by rcases hnm with rfl|rfl|rfl <;> decide)
 have q3:(nm=[97,114,103])=False:=eq_false (by rcases hnm with rfl|rfl|rfl <;> decide)
 have q4:(nm=[61,46,46])=False:=eq_false (by rcases hnm with rfl|rfl|rfl <;> decide)
 have q5:(nm=[99,111,112,121,95,116,101,114,109])=False:=eq_false (by rcases hnm with rfl|rfl|rfl <;> decide)
 have q6:(nm=[116,101,114,109,95,118,97,114,105,97,98,108,101,115])=False:=eq_false (by rcases hnm with rfl|rfl|rfl <;> decide)
 have q7:(nm=[108,101,110,103,116,104])=False:=eq_false (by rcases hnm with rfl|rfl|rfl <;> decide)
 have q8:(nm=[98,101,116,119,101,101,110])=False:=eq_false (by rcases hnm with rfl|rfl|rfl <;> decide)
 simp only[eJ,Tm.av] at hex
 simp -dsimp -implicitDefEqProofs only[go_sem,seval,↓reduceIte,Tm.av,hr,hr',h1,h2,h3,ha,hn,hl,hz0,l0,i0,l1,i1,k1,k2,q0,q1,q2,q3,q4,q5,q6,q7,q8,hex,Tm.pvs_len,zkI,zcx,zts,zlP,zg4,zkg rfl,zdh hb,List.take_succ_cons,zcw,zdi,zku,zej,zlO,zi0,zi1,zg5,zaV,zaY (sh:=some 4) (by decide),List.append_assoc,zah,zaf,zaj,zag,Nat.add_assoc,List.length_append]
 have hrf:(AV.tuple [v,.pv none (.int .i64 0)]).refsIn=v.refsIn:=by simp[AV.refsIn,AV.refsIn.gol]
 rw[hrf,if_neg (by rw[hv];simp)]
def zcR(b:Tm):PV:=.iface 74 (some 4) (.agg [(some 4,b.pv)])
theorem zot(hp:Heap):S 122 [.pv none (.bool true),.pv none (.func (.func 69))] hp=some (.panic (zcR instT),hp):=by
 obtain⟨v,hp',h,rfl,rfl⟩:∃v hp',S 122 [.pv none (.bool true),.pv none (.func (.func 69))] hp=some (v,hp')/\v=.panic (zcR instT)/\hp'=hp:=by
  refine zcL (fun v hp'=>v=.panic (zcR instT)/\hp'=hp) rfl rfl rfl rfl ?_
  have h1:=fun hp=>zsG hp
  have hsb:za1 [(some 4,.agg [(none,.pv none (.int .i64 0)),(none,.pv none (.int .i64 0)),(none,.pv none (.str [])),(none,.tsl (some 4) [])])] [0] [.pv (some 4) instT.pv]=some (.pv (some 4) (.agg [(some 4,instT.pv)])):=rfl
  have hmi:∀(s:Sh) (p:PV),zc2 74 [.pv s p]=some (.pv none (.iface 74 s p)):=fun _ _=>rfl
  have hpan:∀A:Prop,panK true A=A:=fun _=>rfl
  simp only[Tm.av] at h1
  simp -dsimp -implicitDefEqProofs only[go_sem,seval,↓reduceIte,h1,hsb,hmi,hpan,zdU,zdV,zbQ,List.append_assoc,zah,zaf,zaj,zag,Nat.add_assoc,List.length_append]
  exact⟨rfl,List.take_length⟩
 exact h
theorem zkA(L y:Tm)(vL:L.valid=true)(hk:(tl L).kind=0)(hp:Heap)(r:Nat)(hr:r<hp.length):S 106 [.ptr r 0,L.av,y.av] hp=some (.panic (zcR instT),hp):=by
 obtain⟨v,hp',h,rfl,rfl⟩:∃v hp',S 106 [.ptr r 0,L.av,y.av] hp=some (v,hp')/\v=.panic (zcR instT)/\hp'=hp:=by
  refine zcL (fun v hp'=>v=.panic (zcR instT)/\hp'=hp) rfl rfl rfl rfl ?_
  have h1:=fun hp=>zdG L vL hp
  have e1:decide ((tl L).kind=0)=true:=decide_eq_true hk
  rw[e1] at h1
  have h2:=zot
  simp only[Tm.av] at h1
  simp -dsimp -implicitDefEqProofs only[go_sem,seval,↓reduceIte,Tm.av,h1,h2,zaY (sh:=some 4) (by decide),zdU,zdV,zbQ,List.append_assoc,zah,zaf,zaj,zag,Nat.add_assoc,List.length_append]
  exact⟨rfl,List.take_left⟩
 exact h
theorem zqW(nm:List UInt8)(hnm:nm=nSrt 0\/nm=nSrt 1\/nm=nSrt 2)(g a0 a1:Tm)(hn:g.name=nm)(hga:g.args=[a0,a1])(k:Nat)(hp:Heap)(r:Nat)(hr:hp[r]? =some (.box (some 5) (.pv (some 5) (runV g k))))(hb:Bq hp)(w:PV)
  (hex:S 106 [.ptr r 0,a0.av,a1.av] (hp++eJ g)=some (.panic w,hp++eJ g)):
  S 50 [.ptr r 0] hp=some (.panic w,hp):=by
 obtain⟨v,hp',h,rfl,rfl⟩:∃v hp',S 50 [.ptr r 0] hp=some (v,hp')/\v=.panic w/\hp'=hp:=by
  refine zcL (fun v hp'=>v=.panic w/\hp'=hp) rfl rfl rfl rfl ?_
  have hlt:=zbG hr
  have hr':∀X,(hp++X)[r]? =some (.box (some 5) (.pv (some 5) (runV g k))):=fun X=>by rw[zb8 hlt,hr]
  have hl:g.args.length=2:=by rw[hga];rfl
  have h1:=fun hp=>zhi (Tm.pvs g.args) (by rw[Tm.pvs_len];omega) (by rw[Tm.pvs_len];omega) hp
  have hz0:za1 [(none,.pv none (.int .i64 0)),(none,.pv none (.int .i64 0)),(none,.pv none (.str [])),(none,.tsl (some 4) [])] [] []=some zagC:=rfl
  have h2:=zmN
  have h3:=zd2
  have ha:∀y0 y1,_:=fun y0 y1=> @ztt hp y0 y1 g.args 2 hl (by decide)
  have l0:∀Z y0 y1 z,_:=fun Z y0 y1 z=> @zsH hp Z y0 y1 (g.args++[zt,zt]) z 4 0 a0 (by rw[List.length_append,hl];rfl) (by rw[hga];rfl)
  have i0:za7 (some 4) [.sl (some 4) (hp.length+2) 4 0 4,.pv none (.int .i64 0)]=some (.eptr (some 4) (hp.length+2) 4 0 0):=rfl
  have l1:∀Z y0 y1 z,_:=fun Z y0 y1 z=> @zsH hp Z y0 y1 (g.args++[zt,zt]) z 4 1 a1 (by rw[List.length_append,hl];rfl) (by rw[hga];rfl)
  have i1:za7 (some 4) [.sl (some 4) (hp.length+2) 4 0 4,.pv none (.int .i64 1)]=some (.eptr (some 4) (hp.length+2) 4 1 0):=rfl
  have k1:∀Z y0 y1 y2,_:=fun Z y0 y1 y2=> @ztu hp Z y0 y1 y2 nm rows1 (by rcases hnm with rfl|rfl|rfl <;> rfl)
  have k2:∀Z y0 y1 y2 y3,_:=fun Z y0 y1 y2 y3=> @ztv hp Z y0 y1 y2 y3 nm rows2 (by rcases hnm with rfl|rfl|rfl <;> rfl)
  have q0:(nm=[99,111,109,112,97,114,101])=False:=eq_false (by rcases hnm with rfl|rfl|rfl <;> decide)
  have q1:(nm=[92,61])=False:=eq_false (by rcases hnm with rfl|rfl|rfl <;> decide)
  have q2:(nm=[102,117,110,99,116,111,114])=False:=eq_false (by rcases hnm with rfl|rfl|rfl <;> decide)
  have q3:(nm=[97,114,103])=False:=eq_false (by rcases hnm with rfl|rfl|rfl <;> decide)
  have q4:(nm=[61,46,46])=False:=eq_false (by rcases hnm with rfl|rfl|rfl <;> decide)
  have q5:(nm=[99,111,112,121,95,116,101,114,109])=False:=eq_false (by rcases hnm with rfl|rfl|rfl <;> decide)
  have q6:(nm=[116,101,114,109,95,118,97,114,105,97,98,108,101,115])=False:=eq_false (by rcases hnm with rfl|rfl|rfl <;> decide)
  have q7:(nm=[108,101,110,103,116,104])=False:=eq_false (by rcases hnm with rfl|rfl|rfl <;> decide)
  have q8:(nm=[98,101,116,119,101,101,110])=False:=eq_false (by rcases hnm with rfl|rfl|rfl <;> decide)
  simp only[eJ,Tm.av] at hex
  simp -dsimp -implicitDefEqProofs only[go_sem,seval,↓reduceIte,(fun A=>rfl:∀A:Prop,panK true A=A),Tm.av,hr,hr',h1,h2,h3,ha,hn,hl,hz0,l0,i0,l1,i1,k1,k2,q0,q1,q2,q3,q4,q5,q6,q7,q8,hex,Tm.pvs_len,zkI,zcx,zts,zlP,zg4,zkg rfl,zdh hb,List.take_succ_cons,zcw,zdi,zku,zej,zlO,zi0,zi1,zg5,zaV,zaY (sh:=some 4) (by decide),zdU,zdV,zbQ,List.append_assoc,zah,zaf,zaj,zag,Nat.add_assoc,List.length_append]
  exact⟨rfl,List.take_left⟩
 exact h
theorem zqX(b:Tm)(x0 x2 x4 x6:AObj)(q1 q2:Nat):sem (find tab) prim .dfr 48 [.pv none (zcR b),.ptr 1 0,.ptr 3 0,.ptr 5 0] [x0,.box none (.sl (some 4) q1 0 0 0),x2,.box (some 4) (cagg 0 q2),x4,.box none (.pv none (.int .i64 0)),x6]=some (.ret (.tuple []),[x0,.box none (.tsl (some 4) []),x2,.box (some 4) (.pv (some 4) b.pv),x4,.box none (.pv none (.int .i64 8)),x6]):=by
 refine zmL (t:=6) rfl rfl rfl rfl ?_
 have hin:zfD true [.pv none (zcR b)]=some (.pv none (.bool true)):=rfl
 have has:zd4 74 (some 4) (.agg [(some 4,.agg [(none,.pv none (.int .i64 0)),(none,.pv none (.int .i64 0)),(none,.pv none (.str [])),(none,.tsl (some 4) [])])]) true [.pv none (zcR b)]=some (.tuple [.pv (some 4) b.pv,.pv none (.bool true)]):=rfl
 have hsn:∀X:AObj,zb4 none 7 [x0,.box none (.sl (some 4) q1 0 0 0),x2,.box (some 4) (cagg 0 q2),x4,.box none (.pv none (.int .i64 0)),x6,X] [.ptr 1 0,.tsl (some 4) [],.ptr 7 0]=some (.undef,[x0,.box none (.tsl (some 4) []),x2,.box (some 4) (cagg 0 q2),x4,.box none (.pv none (.int .i64 0)),x6,X]):=fun X=>by
  simp[zb4,astore,zgi,AV.plain,AV.shp,AV.refsIn]
 have hs2:∀X:AObj,zaF (some 4) 7 [x0,.box none (.tsl (some 4) []),x2,.box (some 4) (cagg 0 q2),x4,.box none (.pv none (.int .i64 0)),x6,X] [.ptr 3 0,.pv (some 4) b.pv]=some (.undef,[x0,.box none (.tsl (some 4) []),x2,.box (some 4) (.pv (some 4) b.pv),x4,.box none (.pv none (.int .i64 0)),x6,X]):=fun X=>by
  simp[zaF,astore,AV.plain,AV.shp,AV.refsIn,cagg]
 simp -dsimp -implicitDefEqProofs only[go_sem,seval,↓reduceIte,hin,has,hsn,hs2,zfY,zae (Nat.zero_le _),List.append_assoc,zah,zaf,zaj,zag,Nat.add_assoc,List.length_append]
 rfl
theorem zqY(g:Tm)(hp:Heap)(hv:g.valid=true)(hc:canT g=g)(hk:g.kind=3)(hn:g.name∈zb9 g.args.length)(b:Tm)
  (he:S 50 [.ptr 6 0] (hE g)=some (.panic (zcR b),hE g)):
  S 20 [g.av] hp=some (.ret (.tuple [.pv none (.sl (some 4) []),b.av,.pv none (.int .i64 8)]),hp):=by
 refine zfX rfl rfl rfl (zab [(some 4,g.pv)]) rfl rfl ?_
 have hsz:=valid_size hv
 have h1:=fun hp=>zbT g hp (by omega)
 have h2:=fun hp=>zmD g hp (by omega)
 have h3:=fun hp=>zmZ g g hp (by omega) (by omega)
 have h4:=fun hp=>zeg g hp
 have h5:=fun hp=>ztx g.name g.args.length hp
 have h6:=fun hp=>zm5 g hv hp
 have hcr:canR g=g:=by unfold canR;rw[if_pos hv,hc]
 have hsm:same g g=true:=by simp[same,hv,Tm.cmp_zero]
 rw[hcr] at h2
 rw[hsm] at h3
 rw[hv] at h1
 have hn':decide (g.name∈zb9 g.args.length)=true:=decide_eq_true hn
 rw[hn'] at h5
 have hk':decide (g.kind=3)=true:=decide_eq_true hk
 rw[hk'] at h4
 have hal:∀a0:AObj,zcn none (.tsl (some 4) []) [a0] []=some (.ptr 1 0,[a0,.box none (.sl (some 4) 2 0 0 0),.arr (some 4) [] false]):=fun _=>rfl
 have hnx:(ints (vads [] g.occ)).length=(vads [] g.occ).length:=zbj _
 simp only[Tm.av] at h1 h2 h3 h4 h5 h6
 have hbu:∀k:Nat,za1 [(some 4,.agg [(none,.pv none (.int .i64 0)),(none,.pv none (.int .i64 0)),(none,.pv none (.str [])),(none,.tsl (some 4) [])]),(none,.pv none (.int .i64 0))] [0,1] [.pv (some 4) g.pv,.pv none (.int .i64 (k:Int))]=some (.pv (some 5) (runV g k)):=fun _=>rfl
 simp only[hE,cagg] at he
 have hpan:∀A:Prop,panK true A=A:=fun _=>rfl
 simp -dsimp -implicitDefEqProofs only[go_sem,seval,↓reduceIte,Tm.av,hal,hbu,h1,h2,h3,h4,h5,h6,hnx,he,hpan,zap,zac,Tm.pvs_len,zae (Nat.zero_le _),zaE,zch,zbo,zcK,zbC,List.append_assoc,zah,zaf,zaj,zag,Nat.add_assoc,List.length_append]
 refine⟨rfl,48,[],[.ptr 1 0,.ptr 3 0,.ptr 5 0],rfl,_,_,_,zqX b _ _ _ _ 2 4,rfl,?_⟩
 exact⟨_,rfl⟩
theorem zkB(nm:List UInt8)(hnm:nm=nSrt 0\/nm=nSrt 1\/nm=nSrt 2):nm∈zb9 2:=by
 rcases hnm with rfl|rfl|rfl <;> decide
theorem zqZ(nm:List UInt8)(hnm:nm=nSrt 0\/nm=nSrt 1\/nm=nSrt 2)(L y:Tm)(hk:(tl L).kind=0)(hv:(tstr nm [L,y]).valid=true)(hc:canT (tstr nm [L,y])=tstr nm [L,y]):zlQ (tstr nm [L,y]) [] instT 8:=by
 obtain⟨g,hg⟩:∃g,g=tstr nm [L,y]:=⟨_,rfl⟩
 have hga:g.args=[L,y]:=by rw[hg];rfl
 rw[<-hg] at hv hc ⊢
 have vL:L.valid=true:=zbe hv (by rw[hga];simp)
 have h1:=zkA L y vL hk (hE g++eJ g) 6 (by rw[List.length_append];show 6<7+_;omega)
 have h2:=zqW nm hnm g L y (by rw[hg];rfl) hga (vads [] g.occ).length (hE g) 6 rfl (zuw g) _ h1
 intro hp
 exact zqY g hp hv hc (by rw[hg];rfl) (by rw[hga,hg];exact zkB nm hnm) instT h2
theorem zsU(i:Nat)(hi:i<3)(L y:Tm)(hnl:zcY (tl L))(hy:y.kind=0)(hval:zaI (els L)=true)(hpr:i=2->(els L).all zaZ=true)(hsz:Tm.sizes (els L)<100000000)(hv:(tstr (nSrt i) [L,y]).valid=true)(hc:canT (tstr (nSrt i) [L,y])=tstr (nSrt i) [L,y])(hans:(tstr (nSrt i) [L,lstT (byR i (els L)) (tatm [91,93])]).valid=true):zlQ (tstr (nSrt i) [L,y]) [tstr (nSrt i) [L,lstT (byR i (els L)) (tatm [91,93])]] zt 0:=by
 obtain⟨nm,hnm'⟩:∃nm,nm=nSrt i:=⟨_,rfl⟩
 have hnm:nm=nSrt 0\/nm=nSrt 1\/nm=nSrt 2:=by
  rw[hnm']
  match i,hi with
  |0,_=>exact .inl rfl
  |1,_=>exact .inr (.inl rfl)
  |2,_=>exact .inr (.inr rfl)
 obtain⟨g,hg⟩:∃g,g=tstr (nSrt i) [L,y]:=⟨_,rfl⟩
 have hga:g.args=[L,y]:=by rw[hg];rfl
 rw[<-hg] at hv hc ⊢
 have vL:L.valid=true:=zbe hv (by rw[hga];simp)
 have vy:y.valid=true:=zbe hv (by rw[hga];simp)
 have hk0:(hE g++eJ g)[6]? =some (.box (some 5) (.pv (some 5) (runV g (vads [] g.occ).length))):=rfl
 obtain⟨B,hBl,hBj,h1⟩:=zoz i hi g (vads [] g.occ).length L y (by rw[hg];rfl) vL hnl hval hpr hsz vy hy (by rw[hga];rfl) (hE g++eJ g) 6 hk0 (zwg g)
 have hB12:12<=B.length:=hBl
 have h2:=zsT nm hnm g L y (by rw[hg,hnm'];rfl) hga (vads [] g.occ).length (hE g) 6 rfl (zuw g) _ _ (by simp[AV.refsIn];show 7<=_;omega) h1
 obtain⟨ls,hls⟩:∃ls,ls=lstT (byR i (els L)) (tatm [91,93]):=⟨_,rfl⟩
 rw[<-hls] at h2 hans ⊢
 obtain⟨x6,hx6⟩:=zvr g (B++wJ B.length g 1 ls) (fun j hj=>by
  rw[List.getElem?_append_left (by omega),hBj j (by show j<12;omega),List.getElem?_append_left (by show j<7;omega)]) (by rw[List.length_append];omega)
 have hset:setA g 1 ls=tstr (nSrt i) [L,ls]:=by rw[hg];rfl
 have hXq:((B++wJ B.length g 1 ls).drop 7)[B.length+6 - 7]? =some (.arr (some 4) (Tm.pvs [tstr (nSrt i) [L,ls]]) false):=by
  rw[List.getElem?_drop,<-hset]
  have e:7+(B.length+6 - 7)=B.length+6:=by omega
  rw[e,getN rfl]
  rfl
 rw[hx6] at h2
 exact zus g [tstr (nSrt i) [L,ls]] hv hc (by rw[hg];rfl) (by rw[hga,hg,<-hnm'];exact zkB nm hnm) (by simp only[List.all_cons,List.all_nil,hans,Bool.and_self]) (by simp) _ x6 _ false h2 (by omega) hXq
theorem zg0{s:List UInt8}(hs:s.length<=100){a b:Tm}(ha:a.fits=true)(hb:b.fits=true):(tstr s [a,b]).fits=true:=by
 have hs':(s.length:Int)<=100:=by omega
 rw[Tm.zwy]
 simp[tstr,Tm.node,Tm.kind,Tm.n,Tm.name,Tm.args,Tm.fitsAll,ha,hb,hs']
theorem zlL{s:List UInt8}(hs:s.length<=100){a b:Tm}(ha:a.fits=true)(hb:b.fits=true)(hz:a.size+b.size<2000):(tstr s [a,b]).valid=true:=by
 unfold Tm.valid
 rw[zg0 hs ha hb,Tm.size_eq]
 show(decide (1+(a.size+(b.size+0))<=2000) && true)=true
 rw[Bool.and_true,decide_eq_true_eq]
 omega
theorem zfy(a b:Sh)(p q:PV)(hp:Heap):(AV.tuple [.pv a p,.pv b q]).alone hp=some (.tuple [.pv a p,.pv b q]):=rfl
theorem zvE(g a:Tm)(ha:a.valid=true)(hc:zlQ g [a] zt 0)(hp:Heap):S 18 [g.av,a.av] hp=some (.ret (.pv none (.bool true)),hp):=by
 refine zai rfl rfl rfl (zab [(some 4,g.pv),(some 4,a.pv)]) rfl ?_
 have hsz:=valid_size ha
 have h1:=fun hp=>zuC zt hp (by decide)
 have h2:=fun hp=>zmV a a hp (by omega) (by omega)
 have hz0:za1 [(none,.pv none (.int .i64 0)),(none,.pv none (.int .i64 0)),(none,.pv none (.str [])),(none,.tsl (some 4) [])] [] []=some zV:=rfl
 unfold zlQ at hc
 rw[zuD] at h1
 rw[zh0 ha] at h2
 have hge:(Tm.pvs [a])[0]? =some a.pv:=rfl
 have hpl:(Tm.pvs [a]).length=1:=rfl
 simp only[Tm.av] at h1 h2 hc
 simp -dsimp -implicitDefEqProofs only[go_sem,seval,↓reduceIte,Tm.av,h1,h2,hc,hz0,hpl,zdb hge,zae (Nat.zero_le _)]
theorem zgb(l:List Tm)(hl:l.length<1000000000)(t:Tm)(hp:Heap):S 27 [t.av,.pv none (.sl (some 4) (Tm.pvs l))] hp=some (.ret (lstT l t).av,hp):=by
 refine zai rfl rfl rfl (zab [(some 4,t.pv),(none,.sl (some 4) (Tm.pvs l))]) rfl ?_
 have hw0:IntKind.i64.wrap ((l.length:Int) - 1)=(l.length:Int) - 1:=zaq (by omega) (by omega)
 simp -dsimp -implicitDefEqProofs only[go_sem,seval,↓reduceIte,Tm.av,hw0,Tm.pvs_len]
 refine za9 (fun n st=>n<=l.length/\st=⟨[(1,.pv none (.sl (some 4) (Tm.pvs l))),(2,.ptr 0 0),(4,.ptr 1 0),(5,.pv none (.int .i64 ((n:Int) - 1)))],[.box (some 4) (.pv (some 4) (lstT (l.drop n) t).pv),.box (some 4) (zg 2),.arr (some 4) [] false]⟩) (n:=l.length) ⟨Nat.le_refl _,by rw[List.drop_length];rfl⟩ ?_
 rintro n st ⟨hn,rfl⟩
 cases n with
 |zero=>
  have hc:¬(0:Int)<=((0:Nat):Int) - 1:=by decide
  simp -dsimp -implicitDefEqProofs only[go_sem,seval,↓reduceIte,hc,zg]
  try rfl
 |succ i=>
  obtain⟨x,hx⟩:∃x,l[i]? =some x:=⟨_,List.getElem?_eq_getElem (by omega)⟩
  have e1:((i+1:Nat):Int) - 1=i:=by omega
  have hc:(0:Int)<=(i:Int):=by omega
  have hw:IntKind.i64.wrap ((i:Int) - 1)=(i:Int) - 1:=zaq (by omega) (by omega)
  have hf:∀hp,S 19 [.pv none (.str [46]),.tsl (some 4) [x.pv,(lstT (l.drop (i+1)) t).pv]] hp=some (.ret (.pv (some 4) (lstT (l.drop i) t).pv),hp):=fun hp=>by
   rw[zkx t hx]
   exact zwj [46] [x,lstT (l.drop (i+1)) t] hp
  rw[e1]
  simp -dsimp -implicitDefEqProofs only[go_sem,seval,↓reduceIte,hc,hw,hf,zg,zal (Tm.pvs_get hx)]
  exact⟨i,by omega,by omega,rfl⟩
theorem zov(x t:Tm):(ziV x t).size=1+x.size+t.size:=by
 rw[Tm.size_eq]
 show 1+(x.size+(t.size+0))=_
 omega
theorem zlW(l:List Tm)(u:Tm):(lstT l u).size=l.length+Tm.sizes l+u.size:=by
 induction l with
 |nil=>simp[lstT,Tm.sizes]
 |cons x r ih=>
  have e:lstT (x::r) u=ziV x (lstT r u):=rfl
  rw[e,zov,ih,List.length_cons]
  simp only[Tm.sizes]
  omega
theorem zlX(l:List Tm)(u:Tm)(hu:u.fits=true)(h:∀t∈l,t.fits=true):(lstT l u).fits=true:=by
 induction l with
 |nil=>exact hu
 |cons x r ih=>
  have e:lstT (x::r) u=ziV x (lstT r u):=rfl
  rw[e]
  exact zg0 (by decide) (h x (by simp)) (ih fun t ht=>h t (by simp[ht]))
theorem zm3(x t:Tm):cs (ziV x t):=⟨rfl,rfl,rfl⟩
theorem zs1(l:List Tm)(u:Tm)(hu:¬cs u):els (lstT l u)=l:=by
 induction l with
 |nil=>exact zkt hu
 |cons x r ih=>
  have e:lstT (x::r) u=ziV x (lstT r u):=rfl
  rw[e,zks (zm3 _ _)]
  show x::els (lstT r u)=_
  rw[ih]
theorem zrc(l:List Tm)(u:Tm)(hu:¬cs u):tl (lstT l u)=u:=by
 induction l with
 |nil=>exact tl_n hu
 |cons x r ih=>
  have e:lstT (x::r) u=ziV x (lstT r u):=rfl
  rw[e,tl_c (zm3 _ _)]
  show tl (lstT r u)=_
  rw[ih]
theorem zuN{t:Tm}(h:cs t):t.size=1+(arg0 t).size+(arg1 t).size:=by
 rw[Tm.size_eq,args_two h.2.2]
 show 1+((arg0 t).size+((arg1 t).size+0))=_
 omega
theorem zvS:∀(n:Nat) (t:Tm),t.size=n->(els t).length+Tm.sizes (els t)+(tl t).size=t.size:=by
 intro n
 induction n using Nat.strongRecOn with
 |_ n ih=>
  intro t hn
  by_cases h:cs t
  ·have hlt:=Tm.zwr (zbs h.2.2)
   have:=ih _ (by omega) (arg1 t) rfl
   rw[zks h,tl_c h,zuN h,List.length_cons]
   simp only[Tm.sizes]
   omega
  ·rw[zkt h,tl_n h]
   simp[Tm.sizes]
theorem zrd:∀(n:Nat) (t:Tm),t.size=n->t.valid=true->∀u∈els t,u.valid=true:=by
 intro n
 induction n using Nat.strongRecOn with
 |_ n ih=>
  intro t hn hv u hu
  by_cases h:cs t
  ·have hlt:=Tm.zwr (zbs h.2.2)
   rw[zks h] at hu
   rcases List.mem_cons.1 hu with rfl|hu
   ·exact zbe hv (ziU h.2.2)
   ·exact ih _ (by omega) (arg1 t) rfl (zbe hv (zbs h.2.2)) u hu
  ·rw[zkt h] at hu
   cases hu
theorem zow(L:List Int){t:Tm}(h:zaZ t=true):zaZ (Tm.sub (cPos L) t)=true:=by
 simp only[zaZ,Bool.and_eq_true,decide_eq_true_eq] at h ⊢
 have hk:¬t.kind=0:=by rw[h.1.1];decide
 rw[zbP hk]
 exact⟨⟨h.1.1,h.1.2⟩,by show(t.args.map _).length=2;rw[List.length_map];exact h.2⟩
theorem zi9(i:Nat):(nSrt i).length<=100:=by
 unfold nSrt
 split <;> decide
theorem zhe(i:Nat)(hi:i<3)(own:List Tm)(hf:∀t∈own,t.fits=true)(hz:own.length+Tm.sizes own<=950)(hp2:i=2->∀t∈own,zaZ t=true):
  ∃g L Y:Tm,(∀hp,S 14 [.pv none (.str (nSrt i)),.tsl (some 4) [(lstT own (tatm [91,93])).pv,(tvar 1099511627776).pv]] hp=some (.ret (.tuple [g.av,.pv none (.bool true)]),hp))/\PV.part deep g.pv 3 none=some (.sl (some 4) [L.pv,Y.pv])/\L.valid=true/\(els L).length=own.length/\zaI (els L)=true/\(i=2->(els L).all zaZ=true)/\Tm.sizes (els L)<100000000/\
   ∀hp,S 18 [g.av,(tstr (nSrt i) [L,lstT (byR i (els L)) (tatm [91,93])]).av] hp=some (.ret (.pv none (.bool true)),hp):=by
 obtain⟨M,hM⟩:∃M,M=lstT own (tatm [91,93]):=⟨_,rfl⟩
 have nc:¬cs (tatm [91,93]):=fun h=>by cases h.1
 have hMz:M.size=own.length+Tm.sizes own+1:=by rw[hM,zlW];rfl
 have hMf:M.fits=true:=by rw[hM];exact zlX _ _ (by decide) hf
 have hyf:(tvar 1099511627776).fits=true:=zeV (by decide)
 have hG:=fun hp=>zmO (nSrt i) [M,tvar 1099511627776] (by rw[Tm.size_eq];show 1+(M.size+(1+0))<_;omega) hp
 have hgv:(tstr (nSrt i) [M,tvar 1099511627776]).valid=true:=zlL (zi9 i) hMf hyf (by show M.size+1<2000;omega)
 obtain⟨L0,hL0⟩:∃L0,L0=vads [] (Tm.occs [M,tvar 1099511627776]):=⟨_,rfl⟩
 have hcan:canT (tstr (nSrt i) [M,tvar 1099511627776])=tstr (nSrt i) [Tm.sub (cPos L0) M,Tm.sub (cPos L0) (tvar 1099511627776)]:=by rw[hL0];exact zmP _ _
 have hcr:canR (tstr (nSrt i) [M,tvar 1099511627776])=tstr (nSrt i) [Tm.sub (cPos L0) M,Tm.sub (cPos L0) (tvar 1099511627776)]:=by
  unfold canR
  rw[if_pos hgv,hcan]
 rw[hcr,hgv] at hG
 have hgv2:(tstr (nSrt i) [Tm.sub (cPos L0) M,Tm.sub (cPos L0) (tvar 1099511627776)]).valid=true:=by
  rw[<-hcan]
  exact zhY hgv
 have hgc2:canT (tstr (nSrt i) [Tm.sub (cPos L0) M,Tm.sub (cPos L0) (tvar 1099511627776)])=tstr (nSrt i) [Tm.sub (cPos L0) M,Tm.sub (cPos L0) (tvar 1099511627776)]:=by
  rw[<-hcan]
  exact zmG _
 have hyk:(Tm.sub (cPos L0) (tvar 1099511627776)).kind=0:=by rw[zi2];rfl
 have hel:els (Tm.sub (cPos L0) M)=own.map (Tm.sub (cPos L0)):=by rw[zuz L0 _ M rfl,hM,zs1 _ _ nc]
 have htl:tl (Tm.sub (cPos L0) M)=tatm [91,93]:=by rw[ztw L0 _ M rfl,hM,zrc _ _ nc];rfl
 have hLz:(Tm.sub (cPos L0) M).size=M.size:=zkH M hMf
 obtain⟨L,hL⟩:∃L,L=Tm.sub (cPos L0) M:=⟨_,rfl⟩
 obtain⟨Y,hY⟩:∃Y,Y=Tm.sub (cPos L0) (tvar 1099511627776):=⟨_,rfl⟩
 rw[<-hL,<-hY] at hG hgv2 hgc2
 rw[<-hL] at hel htl hLz
 rw[<-hY] at hyk
 have vL:L.valid=true:=zbe hgv2 (by show L∈[L,Y];simp)
 have hval:zaI (els L)=true:=List.all_eq_true.2 (zrd _ L rfl vL)
 have hes:=zvS _ L rfl
 have hpr:i=2->(els L).all zaZ=true:=fun h2=>by
  rw[hel,List.all_map,List.all_eq_true]
  exact fun t ht=>zow L0 (hp2 h2 t ht)
 have hans:(tstr (nSrt i) [L,lstT (byR i (els L)) (tatm [91,93])]).valid=true:=by
  have h1:=zrg i (els L)
  have h2:=zfA i (els L)
  refine zlL (zi9 i) (valid_fits vL) (zlX _ _ (by decide) fun t ht=>valid_fits (zrd _ L rfl vL t (zuO ht))) ?_
  rw[zlW]
  rw[htl] at hes
  have e1:(tatm [91,93]).size=1:=rfl
  omega
 have hcall:=zsU i hi L Y (by rw[htl];exact⟨rfl,rfl⟩) hyk hval hpr (by omega) hgv2 hgc2 hans
 refine⟨tstr (nSrt i) [L,Y],L,Y,fun hp=>by rw[<-hM];exact hG hp,rfl,vL,by rw[hel,List.length_map],hval,hpr,by omega,fun hp=>zvE _ _ hans hcall hp⟩
theorem zre(g t b:Tm)(hb:b=tstr errN [t,tatm [91,93]])(hv:b.valid=true)(hc:zlQ g [] b 8)(hp:Heap):S 37 [g.av,t.av] hp=some (.ret (.pv none (.bool true)),hp):=by
 refine zai rfl rfl rfl (zab [(some 4,g.pv),(some 4,t.pv)]) rfl ?_
 have hsz:=valid_size hv
 have h1:=fun hp=>a_ok [91,93] hp
 have h2:∀hp,S 19 [.pv none (.str [101,114,114,111,114]),.pv none (.sl (some 4) [t.pv,(tatm [91,93]).pv])] hp=some (.ret b.av,hp):=fun hp=>by
  rw[hb]
  exact f_ok errN [t,tatm [91,93]] hp
 have h3:=fun hp=>zmV b b hp (by omega) (by omega)
 rw[zh0 hv] at h3
 unfold zlQ at hc
 have hpl:(Tm.pvs []).length=0:=rfl
 simp only[Tm.av] at h1 h2 h3 hc
 simp -dsimp -implicitDefEqProofs only[go_sem,seval,↓reduceIte,Tm.av,h1,h2,h3,hc,hpl,zae (Nat.zero_le _)]
theorem zhf(i:Nat)(hi:i<3)(own:List Tm)(hf:∀t∈own,t.fits=true)(hz:own.length+Tm.sizes own<=950):
  ∃g:Tm,(∀hp,S 14 [.pv none (.str (nSrt i)),.tsl (some 4) [(lstT own (tvar 1099511627776)).pv,(tvar 1099511627775).pv]] hp=some (.ret (.tuple [g.av,.pv none (.bool true)]),hp))/\∀hp,S 37 [g.av,(tatm zei).av] hp=some (.ret (.pv none (.bool true)),hp):=by
 obtain⟨M,hM⟩:∃M,M=lstT own (tvar 1099511627776):=⟨_,rfl⟩
 have nc:¬cs (tvar 1099511627776):=fun h=>by cases h.1
 have hMz:M.size=own.length+Tm.sizes own+1:=by rw[hM,zlW];rfl
 have hMf:M.fits=true:=by rw[hM];exact zlX _ _ (zeV (by decide)) hf
 have hyf:(tvar 1099511627775).fits=true:=zeV (by decide)
 have hG:=fun hp=>zmO (nSrt i) [M,tvar 1099511627775] (by rw[Tm.size_eq];show 1+(M.size+(1+0))<_;omega) hp
 have hgv:(tstr (nSrt i) [M,tvar 1099511627775]).valid=true:=zlL (zi9 i) hMf hyf (by show M.size+1<2000;omega)
 obtain⟨L0,hL0⟩:∃L0,L0=vads [] (Tm.occs [M,tvar 1099511627775]):=⟨_,rfl⟩
 have hcan:canT (tstr (nSrt i) [M,tvar 1099511627775])=tstr (nSrt i) [Tm.sub (cPos L0) M,Tm.sub (cPos L0) (tvar 1099511627775)]:=by rw[hL0];exact zmP _ _
 have hcr:canR (tstr (nSrt i) [M,tvar 1099511627775])=tstr (nSrt i) [Tm.sub (cPos L0) M,Tm.sub (cPos L0) (tvar 1099511627775)]:=by
  unfold canR
  rw[if_pos hgv,hcan]
 rw[hcr,hgv] at hG
 have hgv2:(tstr (nSrt i) [Tm.sub (cPos L0) M,Tm.sub (cPos L0) (tvar 1099511627775)]).valid=true:=by
  rw[<-hcan]
  exact zhY hgv
 have hgc2:canT (tstr (nSrt i) [Tm.sub (cPos L0) M,Tm.sub (cPos L0) (tvar 1099511627775)])=tstr (nSrt i) [Tm.sub (cPos L0) M,Tm.sub (cPos L0) (tvar 1099511627775)]:=by
  rw[<-hcan]
  exact zmG _
 have htl:(tl (Tm.sub (cPos L0) M)).kind=0:=by rw[ztw L0 _ M rfl,hM,zrc _ _ nc,zi2];rfl
 have hnm:nSrt i=nSrt 0\/nSrt i=nSrt 1\/nSrt i=nSrt 2:=by
  match i,hi with
  |0,_=>exact .inl rfl
  |1,_=>exact .inr (.inl rfl)
  |2,_=>exact .inr (.inr rfl)
 have hcall:=zqZ (nSrt i) hnm _ _ htl hgv2 hgc2
 exact⟨_,fun hp=>by rw[<-hM];exact hG hp,fun hp=>zre _ (tatm zei) instT rfl zg3 hcall hp⟩
def kkS(t:Tm):Bool:=t.valid && decide (t.size<=20)
def fewS(l:List Tm):List Tm:=l.filter kkS
def prT(x:Tm × Nat):Tm:=tstr [45] [x.1,tint (x.2:Int)]
def prsS(l:List Tm):List Tm:=((l.zipIdx).filter (fun x=>kkS x.1)).map prT
theorem zq7{l:List Tm}{i:Nat}{u:Tm}(h:l[i]? =some u):fewS (l.take (i+1))=fewS (l.take i)++(if kkS u=true then[u] else[]):=by
 unfold fewS
 rw[List.take_add_one,h,List.filter_append]
 cases hk:kkS u <;> simp[hk]
theorem zq8{l:List Tm}{i:Nat}{u:Tm}(h:l[i]? =some u):prsS (l.take (i+1))=prsS (l.take i)++(if kkS u=true then[prT (u,i)] else[]):=by
 have hi:=(List.getElem?_eq_some_iff.1 h).1
 have hl:(l.take i).length=i:=by rw[List.length_take];omega
 unfold prsS
 rw[List.take_add_one,h,List.zipIdx_append,List.filter_append,List.map_append,hl]
 cases hk:kkS u <;> simp[hk]
theorem zm0(l:List Tm):(fewS l).length<=l.length:=List.length_filter_le _ _
theorem zm1(l:List Tm):(prsS l).length<=l.length:=by
 unfold prsS
 rw[List.length_map]
 have h:=List.length_filter_le (fun x:Tm × Nat=>kkS x.1) l.zipIdx
 rw[List.length_zipIdx] at h
 exact h
theorem zm2{l:List Tm}{k:Nat}(h:∀t∈l,t.size<=k):Tm.sizes l<=l.length*k:=by
 induction l with
 |nil=>simp[Tm.sizes]
 |cons x r ih=>
  have h1:=h x (by simp)
  have h2:=ih fun t ht=>h t (by simp[ht])
  simp only[Tm.sizes,List.length_cons,Nat.succ_mul]
  omega
theorem zuJ{l:List Tm}(hl:l.length<=40):(∀t∈fewS l,t.fits=true)/\(fewS l).length+Tm.sizes (fewS l)<=950:=by
 have hk:∀t∈fewS l,t.valid=true/\t.size<=20:=fun t ht=>by
  have:=(List.mem_filter.1 ht).2
  simpa[kkS] using this
 have h1:=zm0 l
 have h2:=zm2 fun t ht=>(hk t ht).2
 refine⟨fun t ht=>valid_fits (hk t ht).1,?_⟩
 have h3:(fewS l).length*20<=40*20:=Nat.mul_le_mul_right _ (by omega)
 omega
theorem zsX(x:Tm × Nat):(prT x).size=x.1.size+2:=by
 unfold prT
 rw[Tm.size_eq]
 show 1+(x.1.size+(1+0))=_
 omega
theorem zuK{l:List Tm}(hl:l.length<=40):(∀t∈prsS l,t.fits=true)/\(prsS l).length+Tm.sizes (prsS l)<=950/\∀t∈prsS l,zaZ t=true:=by
 have hk:∀t∈prsS l,∃x:Tm × Nat,t=prT x/\x.1.valid=true/\x.1.size<=20/\x.2<40:=fun t ht=>by
  unfold prsS at ht
  obtain⟨x,hx,rfl⟩:=List.mem_map.1 ht
  obtain⟨h1,h2⟩:=List.mem_filter.1 hx
  have h3:=(List.mem_zipIdx h1).2.1
  simp only[kkS,Bool.and_eq_true,decide_eq_true_eq] at h2
  exact⟨x,rfl,h2.1,h2.2,by omega⟩
 have h1:=zm1 l
 have h2:Tm.sizes (prsS l)<=(prsS l).length*22:=zm2 fun t ht=>by
  obtain⟨x,rfl,_,h4,_⟩:=hk t ht
  rw[zsX]
  omega
 refine⟨fun t ht=> ?_,?_,fun t ht=> ?_⟩
 ·obtain⟨x,rfl,h3,_,_⟩:=hk t ht
  exact zg0 (by decide) (valid_fits h3) (by simp[tint,Tm.fits,Tm.fitsAll,Tm.node,Tm.kind,Tm.n,Tm.name,Tm.args])
 ·have h3:(prsS l).length*22<=40*22:=Nat.mul_le_mul_right _ (by omega)
  omega
 ·obtain⟨x,rfl,_⟩:=hk t ht
  rfl
theorem zcM(own:List Tm)(hl:own.length<1000000000)(t:Tm)(H:Heap)(r:Nat)(z:Bool)(h:H[r]? =some (.arr (some 4) (Tm.pvs own) z)):S 27 [t.av,.sl (some 4) r own.length 0 own.length] H=some (.ret (lstT own t).av,H.set r (.arr (some 4) (Tm.pvs own) true)):=by
 refine zuv (ps:=[(some 4,t.pv),(none,.sl (some 4) (Tm.pvs own))]) rfl rfl rfl ?_ rfl (zgb own hl t [])
 simp[zan,Tm.av,AV.freeze,deep,h,Tm.pvs_len,AV.shp]
theorem zfz{base E:Heap}{q N:Nat}{R:List Tm}(hq:base.length<=q)(h:SlO (base++E) q N R):∃E',AV.freeze deep (.sl (some 4) q N 0 R.length) (base++E)=some (.sl (some 4) (Tm.pvs R),base++E'):=by
 obtain⟨es,h1,h2,h3,h4⟩:=h
 obtain⟨k,rfl⟩:∃k,q=base.length+k:=⟨q - base.length,by omega⟩
 refine⟨E.set k (.arr (some 4) es true),?_⟩
 have hs:(base++E).set (base.length+k) (.arr (some 4) es true)=base++E.set k (.arr (some 4) es true):=setN rfl k _
 have h5:R.length<=es.length:=by omega
 simp[AV.freeze,deep,h1,h2,h5,hs]
 rw[<-h3]
 split
 ·rw[List.take_of_length_le (by omega)]
 ·rfl
theorem zdW{fr:Fr}{a b:AObj}{X:Heap}(h1:([a,b]:Heap).all (fun o=>o.refs.all (fun q=>decide (q<2)))=true)(h2:fr.all (fun x=>x.2.refsIn.all (fun q=>decide (q<2)))=true):collect 2 0 fr (a::b::X)=[a,b]:=
 zbO (n:=2) (b:=0) 2 (base:=[]) (xs:=a::b::X) rfl rfl h1 h2
def soSt(F Pp:List Tm)(i:Nat)(z:Bool × Bool):St:=⟨[(3,.sl (some 4) 0 F.length 0 F.length),(4,.sl (some 4) 1 Pp.length 0 Pp.length),(56,.tsl none [.str [109,115,111,114,116],.str [115,111,114,116],.str [107,101,121,115,111,114,116]]),(57,.pv none (.int .i64 3)),(58,.pv none (.int .i64 i))],[.arr (some 4) (Tm.pvs F) z.1,.arr (some 4) (Tm.pvs Pp) z.2]⟩
set_option maxRecDepth 100000 in
theorem zsY(F Pp:List Tm)(hF:(∀t∈F,t.fits=true)/\F.length+Tm.sizes F<=950)(hP:(∀t∈Pp,t.fits=true)/\Pp.length+Tm.sizes Pp<=950/\∀t∈Pp,zaZ t=true)(i:Nat)(hi:i=0)(z:Bool × Bool)(Q:AExit->St->Prop):
  W (sem (find tab) prim) (sloop (find tab) prim) 0 c7b41 (soSt F Pp i z) (seqK (fun st'=>∃z',True/\(⟨st'.fr.keep [3,4,56,57,58],collect (soSt F Pp i z).hp.length 0 (st'.fr.keep [3,4,56,57,58]) st'.hp⟩:St)=soSt F Pp (i+1) z') Q):=by
 have hlF:F.length<1000000000:=by omega
 have hlP:Pp.length<1000000000:=by omega
 have hllF:=fun(z:Bool) (X:Heap) (t:Tm)=>zcM F hlF t (.arr (some 4) (Tm.pvs F) z::X) 0 z rfl
 have hllP:=fun(z:Bool) (A:AObj) (X:Heap) (t:Tm)=>zcM Pp hlP t (A::.arr (some 4) (Tm.pvs Pp) z::X) 1 z rfl
 have h_a:=fun s hp=>a_ok s hp
 have h_x:=fun v hp=>x_ok v hp
 simp only[Tm.av] at h_a h_x
 simp only[Tm.av,List.set_cons_zero,List.set_cons_succ] at hllF hllP
 obtain⟨z0,z1⟩:=z
 obtain⟨g,L,Y,hG,hpg,vL,hel,hval,hpr,hsz,hone⟩:=zhe 0 (by decide) F hF.1 hF.2 (by intro h;cases h)
 have hel2:(els L).length=F.length:=hel
 have g0:za7 (some 4) [.pv none (.sl (some 4) [L.pv,Y.pv]),.pv none (.int .i64 0)]=some (.iptr (some 4) L.pv 0):=rfl
 have hE:=zg1 L vL [.arr (some 4) (Tm.pvs F) true,.arr (some 4) (Tm.pvs Pp) z1,.box (some 4) (.pv (some 4) g.pv),.arr (some 4) [] false]
 obtain⟨base,hbase⟩:∃base:Heap,base=[.arr (some 4) (Tm.pvs F) true,.arr (some 4) (Tm.pvs Pp) z1,.box (some 4) (.pv (some 4) g.pv),.arr (some 4) [] false,.box (some 4) (.pv (some 4) (tl L).pv),.arr (some 4) [] false,.box (some 4) (.pv (some 4) (tl L).pv),.arr (some 4) [] false,.arr (some 4) (Tm.pvs (els L)) false,.box (some 4) (.pv (some 4) (tl L).pv),.arr (some 4) [] false]:=⟨_,rfl⟩
 have hbl:base.length=11:=by rw[hbase];rfl
 have hiL:IsL (.sl (some 4) 8 (els L).length 0 (els L).length) base (els L):=zra (fz:=false) (es:=Tm.pvs (els L)) (by rw[hbase];rfl) (Tm.pvs_len _) (by rw[List.take_of_length_le (by rw[Tm.pvs_len];exact Nat.le_refl _)]) rfl (Nat.le_refl _)
 obtain⟨q0,N0,E0,hS0,hq0,hO0⟩:=zoy 0 (by decide) (els L) hval (by intro h;cases h) hsz base _ hiL

 obtain⟨E3,hz13⟩:=zfz (base:=base) (E:=E0) (q:=q0) (N:=N0) (R:=byR 0 (els L)) (by omega) (by exact hO0)
 obtain⟨R,hR⟩:∃R,R=byR 0 (els L):=⟨_,rfl⟩
 have hRl:=zfA 0 (els L)
 have hLs:=valid_size vL
 have hLe:=zfu _ L rfl
 rw[<-hR] at hz13 hone hRl hS0
 have hset:∀fr:Fr,zcO 13 [] ⟨fr,base++E0⟩ (some (.sl (some 4) q0 N0 0 R.length))=some ⟨(13,.pv none (.sl (some 4) (Tm.pvs R)))::fr,base++E3⟩:=fun fr=>by
  simp only[zcO,hz13]
  rfl
 have hS0':S 34 _ _=_:=hS0
 have hll:=fun hp=>zgb R (by omega) (tatm [91,93]) hp
 have hfv:∀hp,S 19 [.pv none (.str [109,115,111,114,116]),.pv none (.sl (some 4) [L.pv,(lstT R (tatm [91,93])).pv])] hp=some (.ret (.pv (some 4) (tstr (nSrt 0) [L,lstT R (tatm [91,93])]).pv),hp):=fun hp=>f_ok [109,115,111,114,116] [L,lstT R (tatm [91,93])] hp
 have e0:((0:Nat):Int)=0:=rfl
 have c3:(0:Int)<3:=by decide
 have w2:IntKind.i64.wrap ((0:Int)+1)=((0+1:Nat):Int):=by decide
 have ix:za7 none [.tsl none [.str [109,115,111,114,116],.str [115,111,114,116],.str [107,101,121,115,111,114,116]],.pv none (.int .i64 0)]=some (.iptr none (.str [109,115,111,114,116]) 0):=rfl
 have hG':∀hp,S 14 [.pv none (.str [109,115,111,114,116]),.tsl (some 4) [(lstT F (tatm [91,93])).pv,(tvar 1099511627776).pv]] hp=some (.ret (.tuple [g.av,.pv none (.bool true)]),hp):=hG
 obtain⟨g2,hG2,hrz⟩:=zhf 0 (by decide) F hF.1 hF.2
 have hG2':∀hp,S 14 [.pv none (.str [109,115,111,114,116]),.tsl (some 4) [(lstT F (tvar 1099511627776)).pv,(tvar 1099511627775).pv]] hp=some (.ret (.tuple [g2.av,.pv none (.bool true)]),hp):=hG2
 have hrz':∀hp,S 37 [g2.av,(tatm [105,110,115,116,97,110,116,105,97,116,105,111,110,95,101,114,114,111,114]).av] hp=some (.ret (.pv none (.bool true)),hp):=hrz
 simp only[Tm.av] at hG2' hrz'
 subst hbase hi
 unfold soSt
 simp only[eE,List.cons_append,List.nil_append,List.append_assoc] at hE hS0' hset
 simp only[Tm.av] at hE hG' hone hll hfv
 simp -dsimp -implicitDefEqProofs only[go_sem,seval,↓reduceIte,Tm.av,e0,c3,ix,h_a,h_x,hllF,hG',hpg,g0,hE,hS0',hset,hll,hfv,hone,zfy,zae (Nat.zero_le _),List.append_assoc,zah,zaf,zaj,zag,Nat.add_assoc,List.length_append]
 by_cases hpos:(0:Int)<(F.length:Int)
 ·simp -dsimp -implicitDefEqProofs only[go_sem,seval,↓reduceIte,Tm.av,hpos,w2,h_a,h_x,hllF,hG2',hrz',zae (Nat.zero_le _),List.append_assoc,zah,zaf,zaj,zag,Nat.add_assoc,List.length_append]
  refine⟨(true,z1),?_⟩
  rw[zdW rfl rfl]
  rfl
 ·simp -dsimp -implicitDefEqProofs only[go_sem,seval,↓reduceIte,Tm.av,hpos,w2,List.append_assoc,zah,zaf,zaj,zag,Nat.add_assoc,List.length_append]
  refine⟨(true,z1),?_⟩
  rw[zdW rfl rfl]
  rfl
set_option maxRecDepth 100000 in
theorem zsZ(F Pp:List Tm)(hF:(∀t∈F,t.fits=true)/\F.length+Tm.sizes F<=950)(hP:(∀t∈Pp,t.fits=true)/\Pp.length+Tm.sizes Pp<=950/\∀t∈Pp,zaZ t=true)(i:Nat)(hi:i=1)(z:Bool × Bool)(Q:AExit->St->Prop):
  W (sem (find tab) prim) (sloop (find tab) prim) 0 c7b41 (soSt F Pp i z) (seqK (fun st'=>∃z',True/\(⟨st'.fr.keep [3,4,56,57,58],collect (soSt F Pp i z).hp.length 0 (st'.fr.keep [3,4,56,57,58]) st'.hp⟩:St)=soSt F Pp (i+1) z') Q):=by
 have hlF:F.length<1000000000:=by omega
 have hlP:Pp.length<1000000000:=by omega
 have hllF:=fun(z:Bool) (X:Heap) (t:Tm)=>zcM F hlF t (.arr (some 4) (Tm.pvs F) z::X) 0 z rfl
 have hllP:=fun(z:Bool) (A:AObj) (X:Heap) (t:Tm)=>zcM Pp hlP t (A::.arr (some 4) (Tm.pvs Pp) z::X) 1 z rfl
 have h_a:=fun s hp=>a_ok s hp
 have h_x:=fun v hp=>x_ok v hp
 simp only[Tm.av] at h_a h_x
 simp only[Tm.av,List.set_cons_zero,List.set_cons_succ] at hllF hllP
 obtain⟨z0,z1⟩:=z
 obtain⟨g,L,Y,hG,hpg,vL,hel,hval,hpr,hsz,hone⟩:=zhe 1 (by decide) F hF.1 hF.2 (by intro h;cases h)
 have hel2:(els L).length=F.length:=hel
 have g0:za7 (some 4) [.pv none (.sl (some 4) [L.pv,Y.pv]),.pv none (.int .i64 0)]=some (.iptr (some 4) L.pv 0):=rfl
 have hE:=zg1 L vL [.arr (some 4) (Tm.pvs F) true,.arr (some 4) (Tm.pvs Pp) z1,.box (some 4) (.pv (some 4) g.pv),.arr (some 4) [] false]
 obtain⟨base,hbase⟩:∃base:Heap,base=[.arr (some 4) (Tm.pvs F) true,.arr (some 4) (Tm.pvs Pp) z1,.box (some 4) (.pv (some 4) g.pv),.arr (some 4) [] false,.box (some 4) (.pv (some 4) (tl L).pv),.arr (some 4) [] false,.box (some 4) (.pv (some 4) (tl L).pv),.arr (some 4) [] false,.arr (some 4) (Tm.pvs (els L)) false,.box (some 4) (.pv (some 4) (tl L).pv),.arr (some 4) [] false]:=⟨_,rfl⟩
 have hbl:base.length=11:=by rw[hbase];rfl
 have hiL:IsL (.sl (some 4) 8 (els L).length 0 (els L).length) base (els L):=zra (fz:=false) (es:=Tm.pvs (els L)) (by rw[hbase];rfl) (Tm.pvs_len _) (by rw[List.take_of_length_le (by rw[Tm.pvs_len];exact Nat.le_refl _)]) rfl (Nat.le_refl _)
 obtain⟨q0,N0,E0,hS0,hq0,hO0⟩:=zoy 0 (by decide) (els L) hval (by intro h;cases h) hsz base _ hiL
 obtain⟨q1,N1,E1,hS1,hq1,hO1⟩:=zoy 1 (by decide) (els L) hval (by intro h;cases h) hsz (base++E0) _ (hiL.more E0)
 obtain⟨E3,hz13⟩:=zfz (base:=base) (E:=(E0++E1)) (q:=q1) (N:=N1) (R:=byR 1 (els L)) (by simp only[List.length_append] at hq1;omega) (by rw[<-List.append_assoc];exact hO1)
 obtain⟨R,hR⟩:∃R,R=byR 1 (els L):=⟨_,rfl⟩
 have hRl:=zfA 1 (els L)
 have hLs:=valid_size vL
 have hLe:=zfu _ L rfl
 rw[<-hR] at hz13 hone hRl hS1
 have hset:∀fr:Fr,zcO 13 [] ⟨fr,base++(E0++E1)⟩ (some (.sl (some 4) q1 N1 0 R.length))=some ⟨(13,.pv none (.sl (some 4) (Tm.pvs R)))::fr,base++E3⟩:=fun fr=>by
  simp only[zcO,hz13]
  rfl
 have hS0':S 34 _ _=_:=hS0
 have hS1':S 35 _ _=_:=hS1
 have hll:=fun hp=>zgb R (by omega) (tatm [91,93]) hp
 have hfv:∀hp,S 19 [.pv none (.str [115,111,114,116]),.pv none (.sl (some 4) [L.pv,(lstT R (tatm [91,93])).pv])] hp=some (.ret (.pv (some 4) (tstr (nSrt 1) [L,lstT R (tatm [91,93])]).pv),hp):=fun hp=>f_ok [115,111,114,116] [L,lstT R (tatm [91,93])] hp
 have e0:((1:Nat):Int)=1:=rfl
 have c3:(1:Int)<3:=by decide
 have w2:IntKind.i64.wrap ((1:Int)+1)=((1+1:Nat):Int):=by decide
 have ix:za7 none [.tsl none [.str [109,115,111,114,116],.str [115,111,114,116],.str [107,101,121,115,111,114,116]],.pv none (.int .i64 1)]=some (.iptr none (.str [115,111,114,116]) 0):=rfl
 have hG':∀hp,S 14 [.pv none (.str [115,111,114,116]),.tsl (some 4) [(lstT F (tatm [91,93])).pv,(tvar 1099511627776).pv]] hp=some (.ret (.tuple [g.av,.pv none (.bool true)]),hp):=hG
 obtain⟨g2,hG2,hrz⟩:=zhf 1 (by decide) F hF.1 hF.2
 have hG2':∀hp,S 14 [.pv none (.str [115,111,114,116]),.tsl (some 4) [(lstT F (tvar 1099511627776)).pv,(tvar 1099511627775).pv]] hp=some (.ret (.tuple [g2.av,.pv none (.bool true)]),hp):=hG2
 have hrz':∀hp,S 37 [g2.av,(tatm [105,110,115,116,97,110,116,105,97,116,105,111,110,95,101,114,114,111,114]).av] hp=some (.ret (.pv none (.bool true)),hp):=hrz
 simp only[Tm.av] at hG2' hrz'
 subst hbase hi
 unfold soSt
 simp only[eE,List.cons_append,List.nil_append,List.append_assoc] at hE hS0' hset hS1'
 simp only[Tm.av] at hE hG' hone hll hfv
 simp -dsimp -implicitDefEqProofs only[go_sem,seval,↓reduceIte,Tm.av,e0,c3,ix,h_a,h_x,hllF,hG',hpg,g0,hE,hS0',hS1',hset,hll,hfv,hone,zfy,zae (Nat.zero_le _),List.append_assoc,zah,zaf,zaj,zag,Nat.add_assoc,List.length_append]
 by_cases hpos:(0:Int)<(F.length:Int)
 ·simp -dsimp -implicitDefEqProofs only[go_sem,seval,↓reduceIte,Tm.av,hpos,w2,h_a,h_x,hllF,hG2',hrz',zae (Nat.zero_le _),List.append_assoc,zah,zaf,zaj,zag,Nat.add_assoc,List.length_append]
  refine⟨(true,z1),?_⟩
  rw[zdW rfl rfl]
  rfl
 ·simp -dsimp -implicitDefEqProofs only[go_sem,seval,↓reduceIte,Tm.av,hpos,w2,List.append_assoc,zah,zaf,zaj,zag,Nat.add_assoc,List.length_append]
  refine⟨(true,z1),?_⟩
  rw[zdW rfl rfl]
  rfl
set_option maxRecDepth 100000 in
theorem zs0(F Pp:List Tm)(hF:(∀t∈F,t.fits=true)/\F.length+Tm.sizes F<=950)(hP:(∀t∈Pp,t.fits=true)/\Pp.length+Tm.sizes Pp<=950/\∀t∈Pp,zaZ t=true)(i:Nat)(hi:i=2)(z:Bool × Bool)(Q:AExit->St->Prop):
  W (sem (find tab) prim) (sloop (find tab) prim) 0 c7b41 (soSt F Pp i z) (seqK (fun st'=>∃z',True/\(⟨st'.fr.keep [3,4,56,57,58],collect (soSt F Pp i z).hp.length 0 (st'.fr.keep [3,4,56,57,58]) st'.hp⟩:St)=soSt F Pp (i+1) z') Q):=by
 have hlF:F.length<1000000000:=by omega
 have hlP:Pp.length<1000000000:=by omega
 have hllF:=fun(z:Bool) (X:Heap) (t:Tm)=>zcM F hlF t (.arr (some 4) (Tm.pvs F) z::X) 0 z rfl
 have hllP:=fun(z:Bool) (A:AObj) (X:Heap) (t:Tm)=>zcM Pp hlP t (A::.arr (some 4) (Tm.pvs Pp) z::X) 1 z rfl
 have h_a:=fun s hp=>a_ok s hp
 have h_x:=fun v hp=>x_ok v hp
 simp only[Tm.av] at h_a h_x
 simp only[Tm.av,List.set_cons_zero,List.set_cons_succ] at hllF hllP
 obtain⟨z0,z1⟩:=z
 obtain⟨g,L,Y,hG,hpg,vL,hel,hval,hpr,hsz,hone⟩:=zhe 2 (by decide) Pp hP.1 hP.2.1 (fun _=>hP.2.2)
 have hel2:(els L).length=Pp.length:=hel
 have g0:za7 (some 4) [.pv none (.sl (some 4) [L.pv,Y.pv]),.pv none (.int .i64 0)]=some (.iptr (some 4) L.pv 0):=rfl
 have hE:=zg1 L vL [.arr (some 4) (Tm.pvs F) z0,.arr (some 4) (Tm.pvs Pp) true,.box (some 4) (.pv (some 4) g.pv),.arr (some 4) [] false]
 obtain⟨base,hbase⟩:∃base:Heap,base=[.arr (some 4) (Tm.pvs F) z0,.arr (some 4) (Tm.pvs Pp) true,.box (some 4) (.pv (some 4) g.pv),.arr (some 4) [] false,.box (some 4) (.pv (some 4) (tl L).pv),.arr (some 4) [] false,.box (some 4) (.pv (some 4) (tl L).pv),.arr (some 4) [] false,.arr (some 4) (Tm.pvs (els L)) false,.box (some 4) (.pv (some 4) (tl L).pv),.arr (some 4) [] false]:=⟨_,rfl⟩
 have hbl:base.length=11:=by rw[hbase];rfl
 have hiL:IsL (.sl (some 4) 8 (els L).length 0 (els L).length) base (els L):=zra (fz:=false) (es:=Tm.pvs (els L)) (by rw[hbase];rfl) (Tm.pvs_len _) (by rw[List.take_of_length_le (by rw[Tm.pvs_len];exact Nat.le_refl _)]) rfl (Nat.le_refl _)
 obtain⟨q0,N0,E0,hS0,hq0,hO0⟩:=zoy 0 (by decide) (els L) hval (by intro h;cases h) hsz base _ hiL
 obtain⟨q1,N1,E1,hS1,hq1,hO1⟩:=zoy 2 (by decide) (els L) hval hpr hsz (base++E0) _ (hiL.more E0)
 obtain⟨E3,hz13⟩:=zfz (base:=base) (E:=(E0++E1)) (q:=q1) (N:=N1) (R:=byR 2 (els L)) (by simp only[List.length_append] at hq1;omega) (by rw[<-List.append_assoc];exact hO1)
 obtain⟨R,hR⟩:∃R,R=byR 2 (els L):=⟨_,rfl⟩
 have hRl:=zfA 2 (els L)
 have hLs:=valid_size vL
 have hLe:=zfu _ L rfl
 rw[<-hR] at hz13 hone hRl hS1
 have hset:∀fr:Fr,zcO 13 [] ⟨fr,base++(E0++E1)⟩ (some (.sl (some 4) q1 N1 0 R.length))=some ⟨(13,.pv none (.sl (some 4) (Tm.pvs R)))::fr,base++E3⟩:=fun fr=>by
  simp only[zcO,hz13]
  rfl
 have hS0':S 34 _ _=_:=hS0
 have hS1':S 36 _ _=_:=hS1
 have hll:=fun hp=>zgb R (by omega) (tatm [91,93]) hp
 have hfv:∀hp,S 19 [.pv none (.str [107,101,121,115,111,114,116]),.pv none (.sl (some 4) [L.pv,(lstT R (tatm [91,93])).pv])] hp=some (.ret (.pv (some 4) (tstr (nSrt 2) [L,lstT R (tatm [91,93])]).pv),hp):=fun hp=>f_ok [107,101,121,115,111,114,116] [L,lstT R (tatm [91,93])] hp
 have e0:((2:Nat):Int)=2:=rfl
 have c3:(2:Int)<3:=by decide
 have w2:IntKind.i64.wrap ((2:Int)+1)=((2+1:Nat):Int):=by decide
 have ix:za7 none [.tsl none [.str [109,115,111,114,116],.str [115,111,114,116],.str [107,101,121,115,111,114,116]],.pv none (.int .i64 2)]=some (.iptr none (.str [107,101,121,115,111,114,116]) 0):=rfl
 have hG':∀hp,S 14 [.pv none (.str [107,101,121,115,111,114,116]),.tsl (some 4) [(lstT Pp (tatm [91,93])).pv,(tvar 1099511627776).pv]] hp=some (.ret (.tuple [g.av,.pv none (.bool true)]),hp):=hG
 obtain⟨g2,hG2,hrz⟩:=zhf 2 (by decide) Pp hP.1 hP.2.1
 have hG2':∀hp,S 14 [.pv none (.str [107,101,121,115,111,114,116]),.tsl (some 4) [(lstT Pp (tvar 1099511627776)).pv,(tvar 1099511627775).pv]] hp=some (.ret (.tuple [g2.av,.pv none (.bool true)]),hp):=hG2
 have hrz':∀hp,S 37 [g2.av,(tatm [105,110,115,116,97,110,116,105,97,116,105,111,110,95,101,114,114,111,114]).av] hp=some (.ret (.pv none (.bool true)),hp):=hrz
 simp only[Tm.av] at hG2' hrz'
 subst hbase hi
 unfold soSt
 simp only[eE,List.cons_append,List.nil_append,List.append_assoc] at hE hS0' hset hS1'
 simp only[Tm.av] at hE hG' hone hll hfv
 simp -dsimp -implicitDefEqProofs only[go_sem,seval,↓reduceIte,Tm.av,e0,c3,ix,h_a,h_x,hllP,hG',hpg,g0,hE,hS0',hS1',hset,hll,hfv,hone,zfy,zae (Nat.zero_le _),List.append_assoc,zah,zaf,zaj,zag,Nat.add_assoc,List.length_append]
 by_cases hpos:(0:Int)<(Pp.length:Int)
 ·simp -dsimp -implicitDefEqProofs only[go_sem,seval,↓reduceIte,Tm.av,hpos,w2,h_a,h_x,hllP,hG2',hrz',zae (Nat.zero_le _),List.append_assoc,zah,zaf,zaj,zag,Nat.add_assoc,List.length_append]
  refine⟨(z0,true),?_⟩
  rw[zdW rfl rfl]
  rfl
 ·simp -dsimp -implicitDefEqProofs only[go_sem,seval,↓reduceIte,Tm.av,hpos,w2,List.append_assoc,zah,zaf,zaj,zag,Nat.add_assoc,List.length_append]
  refine⟨(z0,true),?_⟩
  rw[zdW rfl rfl]
  rfl
set_option maxRecDepth 100000 in
theorem zq9(l:List Tm)(hb:∀t∈l,t.size<100000000)(hl:l.length<100000000):S 7 [.pv none (.sl (some 4) (Tm.pvs l))] []=some (.ret (.pv none (.bool true)),[]):=by
 refine zai rfl rfl rfl (zab [(none,.sl (some 4) (Tm.pvs l))]) rfl ?_
 have haw:=zsR
 have hn0:∀H:Heap,zcb (some 4) H=some (.sl (some 4) H.length 0 0 0,H++[.arr (some 4) [] false]):=fun H=>zaY (sh:=some 4) (by decide)
 have h_n:=fun v hp=>n_ok v hp
 have h_a:=fun s hp=>a_ok s hp
 have h_x:=fun v hp=>x_ok v hp
 simp only[Tm.av] at h_n h_a h_x
 simp -dsimp -implicitDefEqProofs only[go_sem,seval,↓reduceIte,hn0,Tm.pvs_len]
 obtain⟨N,hN⟩:∃N,N=min l.length 40:=⟨_,rfl⟩
 refine zed (α:=Unit) N (fun _ _=>True) (fun i _=>⟨[(0,.pv none (.sl (some 4) (Tm.pvs l))),(3,.sl (some 4) 0 (fewS (l.take i)).length 0 (fewS (l.take i)).length),(4,.sl (some 4) 1 (prsS (l.take i)).length 0 (prsS (l.take i)).length),(5,.pv none (.int .i64 i))],[.arr (some 4) (Tm.pvs (fewS (l.take i))) false,.arr (some 4) (Tm.pvs (prsS (l.take i))) false]⟩) () ⟨trivial,rfl⟩ ?_ ?_
 ·rintro i - h -
  have hc:(i:Int)<(l.length:Int):=by omega
  have hc4:(i:Int)<40:=by omega
  have w2:IntKind.i64.wrap ((i:Int)+1)=((i+1:Nat):Int):=by rw[zaq (by omega) (by omega)];omega
  obtain⟨u,hu⟩:∃u,l[i]? =some u:=⟨_,List.getElem?_eq_getElem (by omega)⟩
  have hum:=List.mem_of_getElem? hu
  have husz:=hb u hum
  have hv:=fun hp=>zcX u hp (by omega)
  have hs:=fun hp=>zm4 u hp (by omega)
  have hf:=zq7 hu
  have hp:=zq8 hu
  have hfl:=zm0 (l.take i)
  have hpl:=zm1 (l.take i)
  have htl:(l.take i).length=i:=by rw[List.length_take];omega
  have hlim1:(fewS (l.take i)).length+1<=lim:=by unfold lim;omega
  have hlim2:(prsS (l.take i)).length+1<=lim:=by unfold lim;omega
  have h_f:∀hp,S 19 [.pv none (.str [45]),.pv none (.sl (some 4) [u.pv,(tint i).pv])] hp=some (.ret (.pv (some 4) (prT (u,i)).pv),hp):=fun hp=>f_ok [45] [u,tint i] hp
  simp only[Tm.av] at hv hs
  cases vu:u.valid with
  |false=>
   have hk:kkS u=false:=by simp[kkS,vu]
   rw[hk] at hf hp
   rw[vu] at hv
   simp only[Bool.false_eq_true,if_false,List.append_nil] at hf hp
   simp -dsimp -implicitDefEqProofs only[go_sem,seval,↓reduceIte,Tm.pvs_len,hc,hc4,w2,zal (Tm.pvs_get hu),hv,hf,hp]
   exact⟨(),trivial⟩
  |true=>
   rw[vu] at hv
   have zu:=valid_size vu
   have m1:min u.size 2001=u.size:=by omega
   rw[m1] at hs
   by_cases hz:u.size<=20
   ·have hk:kkS u=true:=by simp[kkS,vu,hz]
    have hz':(u.size:Int)<=20:=by omega
    rw[hk] at hf hp
    simp only[if_true] at hf hp
    have hap1:∀(X:AObj) (p:PV),zaM (some 4) [.arr (some 4) (Tm.pvs (fewS (l.take i))) false,X] [.sl (some 4) 0 (fewS (l.take i)).length 0 (fewS (l.take i)).length,.tsl (some 4) [p]]=some (.sl (some 4) 0 ((fewS (l.take i)).length+1) 0 ((fewS (l.take i)).length+1),[.arr (some 4) (Tm.pvs (fewS (l.take i))++[p]) false,X]):=fun X p=>by
     simp[zaM,aappend,elems,Tm.pvs_len,hlim1]
    have hap2:∀(X:AObj) (p:PV),zaM (some 4) [X,.arr (some 4) (Tm.pvs (prsS (l.take i))) false] [.sl (some 4) 1 (prsS (l.take i)).length 0 (prsS (l.take i)).length,.tsl (some 4) [p]]=some (.sl (some 4) 1 ((prsS (l.take i)).length+1) 0 ((prsS (l.take i)).length+1),[X,.arr (some 4) (Tm.pvs (prsS (l.take i))++[p]) false]):=fun X p=>by
     simp[zaM,aappend,elems,Tm.pvs_len,hlim2]
    simp -dsimp -implicitDefEqProofs only[go_sem,seval,↓reduceIte,Tm.pvs_len,hc,hc4,w2,zal (Tm.pvs_get hu),hv,hs,hz',h_n,h_f,hap1,hap2]
    try refine⟨(),?_⟩
    try rw[zec rfl]
    rw[hf,hp,Tm.zww,Tm.zww,List.length_append,List.length_append]
    rfl
   ·have hk:kkS u=false:=by simp[kkS,hz]
    have hz':¬(u.size:Int)<=20:=by omega
    rw[hk] at hf hp
    simp only[Bool.false_eq_true,if_false,List.append_nil] at hf hp
    simp -dsimp -implicitDefEqProofs only[go_sem,seval,↓reduceIte,Tm.pvs_len,hc,hc4,w2,zal (Tm.pvs_get hu),hv,hs,hz',hf,hp]
    exact⟨(),trivial⟩
 rintro - -
 have hNl:(l.take N).length<=40:=by rw[List.length_take];omega
 have hF:=zuJ hNl
 have hP:=zuK hNl
 obtain⟨F,hFe⟩:∃F,F=fewS (l.take N):=⟨_,rfl⟩
 obtain⟨Pp,hPe⟩:∃Pp,Pp=prsS (l.take N):=⟨_,rfl⟩
 rw[<-hFe] at hF
 rw[<-hPe] at hP
 have hlF:F.length<1000000000:=by omega
 have hlP:Pp.length<1000000000:=by omega
 have hllF:=fun(z:Bool) (X:Heap) (t:Tm)=>zcM F hlF t (.arr (some 4) (Tm.pvs F) z::X) 0 z rfl
 have hllP:=fun(z:Bool) (A:AObj) (X:Heap) (t:Tm)=>zcM Pp hlP t (A::.arr (some 4) (Tm.pvs Pp) z::X) 1 z rfl
 have hcE:¬(N:Int)<(l.length:Int)\/¬(N:Int)<40:=by omega
 rw[<-hFe,<-hPe]
 simp only[Tm.av,List.set_cons_zero,List.set_cons_succ] at hllF hllP
 refine zmr (Q:=fun e st=>e=.exit 0/\st=⟨[(0,.pv none (.sl (some 4) (Tm.pvs l))),(3,.sl (some 4) 0 F.length 0 F.length),(4,.sl (some 4) 1 Pp.length 0 Pp.length),(5,.pv none (.int .i64 N)),(22,.pv none (.bool false))],[.arr (some 4) (Tm.pvs F) false,.arr (some 4) (Tm.pvs Pp) false]⟩) ?_ ?_
 ·by_cases h1:(N:Int)<(l.length:Int)
  ·have h2:¬(N:Int)<40:=by omega
   simp -dsimp -implicitDefEqProofs only[go_sem,seval,↓reduceIte,Tm.pvs_len,h1,h2]
  ·simp -dsimp -implicitDefEqProofs only[go_sem,seval,↓reduceIte,Tm.pvs_len,h1]
 rintro e st ⟨rfl,rfl⟩
 simp -dsimp -implicitDefEqProofs only[go_sem,seval,↓reduceIte,Tm.pvs_len]
 refine zed (α:=Bool × Bool) 3 (fun _ _=>True) (fun i z=>soSt F Pp i z) (false,false) ⟨trivial,rfl⟩ ?_ ?_
 ·rintro i z h -
  match i,h,z with
  |0,_,z=>exact zsY F Pp hF hP _ rfl z _
  |1,_,z=>exact zsZ F Pp hF hP _ rfl z _
  |2,_,z=>exact zs0 F Pp hF hP _ rfl z _
 ·rintro z -
  have hc:¬((3:Nat):Int)<3:=by decide
  simp -dsimp -implicitDefEqProofs only[go_sem,seval,↓reduceIte,soSt,hc,haw]
end Go.Proofs.YtiifblpdlphchaaGreatRR
namespace Go.Proofs.YtiifblpdlphchaaGreatRR
open Go.Am Go.ChangeShapes Go.WideShapes Go.ChangeAt Go.RowKit
theorem zqM(H:Type):BulkLaws (H:=H) Rows.uptoBulk Rows.uptoBulkAll where
 nil:=by simp[Rows.uptoBulkAll]
 cons d r:=by simp[Rows.uptoBulkAll]
 slice e s:=by simp[Rows.uptoBulk]
 agg l:=by simp[Rows.uptoBulk]
 string l:=by simp[Rows.uptoBulk]
theorem zop{H:Type}{l:List (DataW H)}(hk:Rows.uptoSmall H l=true):Rows.uptoBulkAll l<=1048576:=of_decide_eq_true hk
def zmK(P:Program)(tA tT:TypeId):Bool:=
 (match P.underlying tA with|some (.slice t)=>t == tT|_=>false) &&
 (match P.underlying tT with
  |some (.struct fs)=>match fs.toList.map (·.type) with
   |[a,b,c,d]=>d == tA && (match P.underlying a with|some (.int .i64)=>true|_=>false) && (match P.underlying b with|some (.int .i64)=>true|_=>false) && (match P.underlying c with|some .string=>true|_=>false) && decide (shOf P a=none) && decide (shOf P b=none) && decide (shOf P c=none)
   |_=>false
  |_=>false) && decide (shOf P tT=some 4) && decide (shOf P tA=none)
theorem zlM{P:Program}{tA tT:TypeId}(h:zmK P tA tT=true):TermTy P tA tT:=by
 unfold zmK at h
 simp only[Bool.and_eq_true,decide_eq_true_eq] at h
 obtain⟨⟨⟨h1,h2⟩,h3⟩,h4⟩:=h
 refine⟨?_,?_⟩
 ·split at h1
  ·rename_i t ht;rw[ht];simp at h1;rw[h1]
  ·cases h1
 ·split at h2
  ·rename_i fs hfs
   split at h2
   ·rename_i a b c d hl
    simp only[Bool.and_eq_true,decide_eq_true_eq,beq_iff_eq] at h2
    obtain⟨⟨⟨⟨⟨⟨k1,k2⟩,k3⟩,k4⟩,k5⟩,k6⟩,k7⟩:=h2
    subst k1
    refine⟨fs,a,b,c,hfs,hl,?_,?_,?_,h3,h4,k5,k6,k7⟩
    ·split at k2
     ·assumption
     ·cases k2
    ·split at k3
     ·assumption
     ·cases k3
    ·split at k4
     ·assumption
     ·cases k4
   ·cases h2
  ·cases h2
theorem zvy:TermTy Tryz.prog 24 26:=zlM (by kernel_rfl)
def zqN:List TypeId:=[2,3,4,5,9,24,26]
theorem closed:zmB Tryz.prog zqN=true:=by kernel_rfl
set_option maxRecDepth 100000 in
theorem zoq{H:Type}{enc:TypeId × Value->H}{W:World}{base:Nat}{v:Value}{d:DataW H}{ps:List MemPlace}(h:DataW.Trod enc Tryz.prog W 0 (fun _=>true) true 24 v d ps)(hv:Value.okWide Tryz.prog W .any base 24 v):
  ∃l:List Tm,AR W (noX (P:=Tryz.prog)) noμ [] (.pv none (.sl (some 4) (Tm.pvs l))) v/\Tm.sizes l<=Rows.uptoBulk d/\Tm.rngs l:=by
 obtain⟨fuel,h0⟩:=h
 obtain⟨p,hp⟩:=zqF closed fuel _ _ _ _ (by simp[zqN]) h0
 obtain⟨t,rfl,h1,h2⟩:=(zkl zvy (zqM H) fuel).2 d p hp
 have:=zvo ⟨fuel,h0⟩ (by kernel_rfl) hp (zok hv)
 rw[show shOf Tryz.prog 24=none from by kernel_rfl] at this
 exact⟨t,this,h1,h2⟩
end Go.Proofs.YtiifblpdlphchaaGreatRR
namespace Go.Proofs.YtiifblpdlphchaaGreatRR
open Go.Am Go.ChangeShapes Go.WideShapes Go.ChangeAt Go.RowKit
end Go.Proofs.YtiifblpdlphchaaGreatRR
namespace Go.Proofs.YtiifblpdlphchaaGreatRR
open Go.Am Go.ChangeShapes Go.WideShapes Go.ChangeAt Go.RowKit
end Go.Proofs.YtiifblpdlphchaaGreatRR
