/- What is proved: the program's bind. -/
import Derived.Test.YtffecaafklpmhaaRUn
import Derived.Test.YtffecaafklpmhaaSml
import Derived.Test.YtffecaafklpmhaaAm4
set_option linter.unusedSimpArgs false
set_option linter.unusedVariables false
namespace Go.Proofs.Ytffecaafklpmhaa
open Go.Am
def endA(rs:List RSlot)(n:Nat)(P:ARes->Heap->Prop):AExit->St->Prop
 | .panic v,st=>P (.panic v) (st.hp.take n)
 |e,st=>endK rs (fun v' h'=>P (.ret v') (if v'.refsIn.all (fun q=>decide (q<n))=true then h'.take n else h')) e st
theorem zaz(rs:List RSlot)(n:Nat)(P:ARes->Heap->Prop)(v:PV)(st:St):endA rs n P (.panic v) st=P (.panic v) (st.hp.take n):=rfl
theorem zaK(rs:List RSlot)(n:Nat)(P:ARes->Heap->Prop)(st:St):endA rs n P .ret st=endK rs (fun v' h'=>P (.ret v') (if v'.refsIn.all (fun q=>decide (q<n))=true then h'.take n else h')) .ret st:=rfl
theorem zau(rs:List RSlot)(n:Nat)(P:ARes->Heap->Prop)(st:St):endA rs n P .normal st=endK rs (fun v' h'=>P (.ret v') (if v'.refsIn.all (fun q=>decide (q<n))=true then h'.take n else h')) .normal st:=rfl
theorem zdL{F:FuncId->Option AFn}{prim:FuncId->Option zbi}{f:FuncId}{fn:AFn}{args:List AV}{hp:Heap}(P:ARes->Heap->Prop)(hp0:prim f=none)(hf:F f=some fn)(hm:fn.heapMode=true)(hn:args.length=fn.nparams)
  (h:W (sem F prim) (sloop F prim) hp.length fn.code ⟨params 0 args,hp⟩ (endA fn.results hp.length P))(hr:fn.rcv=none:=by rfl)(hmo:fn.more=[]:=by rfl):∃v hp',sem F prim .fn f args hp=some (v,hp')/\P v hp':=by
 rw[zfU]
 unfold zbj
 rw[hp0,hf]
 simp only[hr,hmo,Option.isSome_none,Bool.false_eq_true,if_false,hm,if_true,abody,hn,ne_eq,not_true_eq_false,if_false]
 unfold W at h
 split at h
 ·rename_i e st' he
  rw[he]
  cases e with
  |normal=>
   rw[zau,zbI] at h
   cases hr:zaD st' fn.results with
   |none=>rw[hr] at h;exact h.elim
   |some u=>rw[hr] at h;exact⟨_,_,by simp only[hr],h⟩
  |ret=>
   rw[zaK,zcQ] at h
   cases hr:zaD st' fn.results with
   |none=>rw[hr] at h;exact h.elim
   |some u=>rw[hr] at h;exact⟨_,_,by simp only[hr],h⟩
  |exit i=>exact h.elim
  |panic v=>exact⟨_,_,rfl,h⟩
 ·exact h.elim
def US(hp:Heap)(q r:Nat)(l:List B):Heap:=(hp.set q (.box (some 1) (.agg [(none,.sl (some 5) r l.length 0 l.length)]))).set r (.arr (some 5) (bds l) false)
def UA(hp:Heap)(q r:Nat)(l l':List B):Heap:=(US hp q r l).set r (.arr (some 5) (bds l') false)
theorem ze1(hp:Heap)(q r:Nat)(l:List B):(US hp q r l).length=hp.length:=by simp[US]
theorem zs4(hp:Heap)(q r:Nat)(l l':List B):(UA hp q r l l').length=hp.length:=by simp[UA,ze1]
theorem zb2{hp:Heap}{q r:Nat}(hq:q<hp.length)(hr:r<hp.length)(l:List B)(e:Heap):US (hp++e) q r l=US hp q r l++e:=by
 unfold US
 rw[List.set_append_left _ _ hq,List.set_append_left _ _ (by simpa using hr)]
theorem US_q{hp:Heap}{q r:Nat}(hq:q<hp.length)(hn:q≠r)(l:List B)(e:Heap):(US hp q r l++e)[q]? =some (.box (some 1) (.agg [(none,.sl (some 5) r l.length 0 l.length)])):=by
 rw[List.getElem?_append_left (by rw[ze1];exact hq)]
 unfold US
 rw[List.getElem?_set_ne (Ne.symm hn),List.getElem?_set_self hq]
theorem US_r{hp:Heap}{q r:Nat}(hr:r<hp.length)(l:List B)(e:Heap):(US hp q r l++e)[r]? =some (.arr (some 5) (bds l) false):=by
 rw[List.getElem?_append_left (by rw[ze1];exact hr)]
 unfold US
 rw[List.getElem?_set_self (by simpa using hr)]
theorem US_B{hp:Heap}{q r:Nat}(hr:r<hp.length)(l:List B)(e:Heap):IsB (.sl (some 5) r l.length 0 l.length) (US hp q r l++e) l:=.inr ⟨r,rfl,US_r hr l e⟩
theorem zt2{hp:Heap}{q r:Nat}(hq:q<hp.length)(hn:q≠r)(l:List B)(e:Heap):aload none (US hp q r l++e) (.ptr q 0)=some (.sl (some 5) r l.length 0 l.length):=by
 simp[aload,US_q hq hn]
 rfl
theorem zuV{hp:Heap}{q r:Nat}(hq:q<hp.length)(hn:q≠r)(l l':List B)(b:Nat)(hb:q<b)(e:Heap):za3 none b (UA hp q r l l'++e) [.ptr q 0,.sl (some 5) r l'.length 0 l'.length]=some (.undef,US hp q r l'++e):=by
 have h1:(UA hp q r l l'++e)[q]? =some (.box (some 1) (.agg [(none,.sl (some 5) r l.length 0 l.length)])):=by
  rw[List.getElem?_append_left (by rw[zs4];exact hq)]
  unfold UA
  rw[List.getElem?_set_ne (Ne.symm hn)]
  have:=US_q (r:=r) hq hn l []
  rw[List.append_nil] at this
  exact this
 have h2:AV.upd deep (.agg [(none,.sl (some 5) r l.length 0 l.length)]) 0 none (.sl (some 5) r l'.length 0 l'.length)=some (.agg [(none,.sl (some 5) r l'.length 0 l'.length)]):=rfl
 have h3:¬b<=q:=by omega
 have h4:(UA hp q r l l'++e).set q (.box (some 1) (.agg [(none,.sl (some 5) r l'.length 0 l'.length)]))=US hp q r l'++e:=by
  rw[List.set_append_left _ _ (by rw[zs4];exact hq)]
  congr 1
  unfold UA US
  rw[List.set_set,List.set_comm _ _ hn,List.set_set]
  exact List.set_comm _ _ (Ne.symm hn)
 simp[za3,astore,h1,h2,h3,h4,AV.plain,AV.shp,AV.refsIn,AV.refsIn.go]
theorem zqJ{hp:Heap}{q r:Nat}(hq:q<hp.length)(hn:q≠r)(l:List B)(e e':Heap):zbB (US hp q r l++e) (US hp q r l++e') (.ptr q 0)=true:=by
 simp[zbB,US_q hq hn,AObj.beq,AV.beq,AV.beqc]
def zn3(e:Int):PV:=.iface 89 (some 1) (.agg [(none,.int .i64 e)])
theorem zmx(l:List B)(hO:OKB l)(hl:l.length<90000000)(v:Int)(t:Tm)(hv:t.valid=true)(hp:Heap)(q r:Nat)(hq:q<hp.length)(hr:r<hp.length)(hn:q≠r):
  ∃res hp',S 96 [.ptr q 0,.pv none (.int .i64 v),t.av] (US hp q r l)=some (res,hp')/\(inR l v t->res=.panic (zn3 9)/\hp'=US hp q r l)/\(¬inR l v t->res=.ret (.tuple [])/\hp'=US hp q r (insB l v t)):=by
 have htz:=valid_size hv
 have hlen:=fun l=>ze1 hp q r l
 have hg0:∀(l:List B) (e:Heap),(US hp q r l++e)[hp.length]? =e[0]? :=fun l e=>zcD (hlen l)
 have hg1:∀(l:List B) (e:Heap) (j:Nat),(US hp q r l++e)[hp.length+j]? =e[j]? :=fun l e j=>getN (hlen l) j
 have hld:=fun l e=>zt2 (r:=r) hq hn l e
 have hsm:=fun l e e'=>zqJ (r:=r) hq hn l e e'
 refine zdL (fun res hp'=>(inR l v t->res=.panic (zn3 9)/\hp'=US hp q r l)/\(¬inR l v t->res=.ret (.tuple [])/\hp'=US hp q r (insB l v t))) rfl rfl rfl rfl ?_
 have hu:=zkn (fun _=>0) l fun b hb=>by have:=valid_size (hO.good.2 b hb).1;omega
 obtain⟨m',bb,f',hcall,hR⟩:=zt1 l hO (by omega) v (.sl (some 5) r l.length 0 l.length) _ t (US hp q r l++[.box (some 4) (.pv (some 4) t.pv),.map none []]) (hp.length+1) [] (fun _=>0) rfl hv (by rw[hg1];rfl) (.inr (US_B hr l _)) (fun _=>rfl) (fun _=>Int.le_refl _) (fun w hw=>absurd rfl hw) (fun w=>by omega)
 have hs2:∀(X:AObj),(US hp q r l++([.box (some 4) (.pv (some 4) t.pv),.map none []]:Heap)).set (hp.length+1) X=US hp q r l++[.box (some 4) (.pv (some 4) t.pv),X]:=fun X=>by rw[setN (hlen l)];rfl
 rw[hs2] at hcall
 have hmk:∀a:AObj,(US hp q r l++[a]).length=hp.length+1:=fun a=>by simp[hlen]
 simp only[Tm.av] at hcall
 have hsb:∀x:Int,za7 [(none,.pv none (.int .i64 0))] [0] [.pv none (.int .i64 x)]=some (.pv (some 1) (.agg [(none,.int .i64 x)])):=fun _=>rfl
 have hmi:∀(s:Sh) (p:PV),zcl 89 [.pv s p]=some (.pv none (.iface 89 s p)):=fun _ _=>rfl
 have hpan:∀A:Prop,panK true A=A:=fun _=>rfl
 cases bb with
 |true=>
  have hin:inR l v t:=hR.post.yes rfl
  simp -dsimp -implicitDefEqProofs only[go_sem,seval,↓reduceIte,Tm.av,hcall,hsb,hmi,hpan,hlen,hg0,hg1,hld,zaz,zaK,zau,zaB,List.append_assoc,zai,zae,zak,zaf,Nat.add_assoc,List.length_append]
  exact⟨fun _=>⟨rfl,List.take_left' (hlen _)⟩,fun h=>h hin⟩
 |false=>
  have hin:¬inR l v t:=(hR.post.no rfl).1
  have hpl:=fun e=>zgU (US_B (q:=q) hr l e) v hO.good.1 (by omega)
  have hcl:=fun hp=>zcT t hp hv (by omega)
  simp only[Tm.av] at hcl
  have hbd:za7 [(none,.pv none (.int .i64 0)),(some 4,.agg [(none,.pv none (.int .i64 0)),(none,.pv none (.int .i64 0)),(none,.pv none (.str [])),(none,.tsl (some 4) [])])] [0,1] [.pv none (.int .i64 v),.pv (some 4) t.pv]=some (.pv (some 5) (bdp (v,t))):=rfl
  have hins:∀e:Heap,S 100 [.sl (some 5) r l.length 0 l.length,.pv none (.int .i64 (lbB l v:Int)),.tsl (some 5) [bdp (v,t)]] (US hp q r l++e)=some (.ret (.sl (some 5) r (insB l v t).length 0 (insB l v t).length),UA hp q r l (insB l v t)++e):=fun e=>by
   obtain⟨s',H',h1,_,_,h2|h2⟩:=zs2 (US_B (q:=q) hr l e) v t (by omega)
   ·obtain⟨r',n',h3,h4,h5⟩:=h2
    cases h3
    rw[h1,h4,h5,zge,List.set_append_left _ _ (by rw[ze1];exact hr)]
    rfl
   ·cases h2.1
  have hst:=fun l' e=>zuV (r:=r) hq hn l l' hp.length hq e
  simp -dsimp -implicitDefEqProofs only[go_sem,seval,↓reduceIte,Tm.av,hcall,hpl,hcl,hbd,hsm,hins,hst,hlen,hg0,hg1,hld,zc1,List.take_succ_cons,List.drop_succ_cons,List.all_cons,List.all_nil,zaz,zaK,zau,zaB,List.append_assoc,zai,zae,zak,zaf,Nat.add_assoc,List.length_append]
  exact⟨fun h=>hin h,fun _=>List.take_left' (hlen _)⟩
def zw(w:Int)(q:Nat):AV:=.agg [(none,.pv none (.int .i64 0)),(none,.pv none (.int .i64 w)),(none,.pv none (.str [])),(none,.sl (some 4) q 0 0 0)]
theorem zqK{s:AV}{hp:Heap}{l:List B}(h:IsS s hp l)(hs:Srt' l)(hl:l.length<1000000000)(w:Int)(q:Nat)(hq:q<hp.length)(hf:fndB l w=false):
  S 93 [s,zw w q] hp=some (.ret (.tuple [zagg (hp.length+3),.pv none (.bool false)]),hp++[.box (some 4) (zw w q),.box (some 4) (zagg (hp.length+3)),.arr (some 4) [] false,.arr (some 4) [] false]):=by
 refine zaI rfl rfl rfl rfl ?_
 have hpl:=fun e=>h.place w hs hl e
 rw[hf] at hpl
 simp -dsimp -implicitDefEqProofs only[go_sem,seval,↓reduceIte,zw,hpl,hb0,zaF,zcF,zaj (Nat.le_add_right _ _),List.append_assoc,zai,zae,zak,zaf,Nat.add_assoc,List.length_append]
 rw[zfD rfl ((zai hp _ 1).trans rfl)]
 refine⟨rfl,?_⟩
 rw[if_neg (by simp[AV.refsIn,AV.refsIn.gol,AV.refsIn.go,zagg])]
 rfl
theorem zt3{s:AV}{hp:Heap}{l:List B}(h:IsS s hp l)(hs:Srt' l)(hl:l.length<1000000000)(v w:Int)(q r:Nat)(hq:q<hp.length)(hf:fndB l w=false)(hvw:w≠v):
  S 99 [s,.pv none (.int .i64 v),zw w q,.map r] hp=some (.ret (.pv none (.bool false)),hp):=by
 refine zaI rfl rfl rfl rfl ?_
 have hb:=fun e=>zqK (h.more e) hs hl w q (by simp;omega) hf
 simp only[zw,zagg] at hb
 simp -dsimp -implicitDefEqProofs only[go_sem,seval,↓reduceIte,zw,hb,hvw,zaF,zcF,zaj (Nat.le_add_right _ _),List.append_assoc,zai,zae,zak,zaf,Nat.add_assoc,List.length_append]
 rw[if_pos (by simp[AV.refsIn])]
 exact List.take_left
theorem zqL(w:Int)(hw:0<=w/\w<=1099511627776)(q:Nat)(hp:Heap)(hq:hp[q]? =some (.arr (some 4) [] false)):
  S 29 [zw w q] hp=some (.ret (tvar w).av,hp.set q (.arr (some 4) [] true)):=by
 have hv:(tvar w).valid=true:=zd1 (zkm hw) (by have:(tvar w).size=1:=rfl;omega)
 have h1:=zcT (tvar w) [] hv (by have:(tvar w).size=1:=rfl;omega)
 have:=zcC (F:=find tab) (prim:=prim) (f:=29) (args:=[zw w q]) (ps:=[(some 4,(tvar w).pv)]) (hp:=hp) (hp1:=hp.set q (.arr (some 4) [] true)) rfl rfl rfl (by
  simp[zal,zw,AV.freeze,AV.freeze.go,deep,hq,AV.shp]
  exact⟨rfl,rfl⟩) h1
 exact this
theorem zko(l:List B)(hO:OKB l)(hl:l.length<90000000)(v w:Int)(hw:0<=w/\w<=1099511627776)(hf:fndB l w=false)(hvw:w≠v)(hp:Heap)(q r:Nat)(hq:q<hp.length)(hr:r<hp.length)(hn:q≠r):
  S 96 [.ptr q 0,.pv none (.int .i64 v),vagg w] (US hp q r l)=some (.ret (.tuple []),US hp q r (insB l v (tvar w))):=by
 have hlen:=fun l=>ze1 hp q r l
 have hg0:∀(l:List B) (e:Heap),(US hp q r l++e)[hp.length]? =e[0]? :=fun l e=>zcD (hlen l)
 have hg1:∀(l:List B) (e:Heap) (j:Nat),(US hp q r l++e)[hp.length+j]? =e[j]? :=fun l e j=>getN (hlen l) j
 have hs0:∀(l:List B) (Y:AObj) (e:Heap),(US hp q r l++e).set hp.length Y=US hp q r l++e.set 0 Y:=fun l Y e=>zd4 (hlen l) Y
 have hld:=fun l e=>zt2 (r:=r) hq hn l e
 have hsm:=fun l e e'=>zqJ (r:=r) hq hn l e e'
 refine zaI rfl rfl rfl rfl ?_
 have hoc:∀e:Heap,1<e.length->S 99 [.sl (some 5) r l.length 0 l.length,.pv none (.int .i64 v),zw w (hp.length+1),.map (hp.length+2)] (US hp q r l++e)=some (.ret (.pv none (.bool false)),US hp q r l++e):=fun e he=>
  zt3 (.inr (US_B hr l e)) hO.good.1 (by omega) v w (hp.length+1) (hp.length+2) (by rw[List.length_append,hlen];omega) hf hvw
 have hoc1:=hoc [.box (some 4) (zw w (hp.length+1)),.arr (some 4) [] false,.map none []] (by simp)
 have hpl:=fun e=>zgU (US_B (q:=q) hr l e) v hO.good.1 (by omega)
 have hcl:=zqL w hw (hp.length+1) (US hp q r l++[.box (some 4) (zw w (hp.length+1)),.arr (some 4) [] false,.map none []]) (by rw[hg1];rfl)
 rw[setN (hlen l)] at hcl
 simp only[List.set_cons_succ,List.set_cons_zero,Tm.av] at hcl
 have hbd:za7 [(none,.pv none (.int .i64 0)),(some 4,.agg [(none,.pv none (.int .i64 0)),(none,.pv none (.int .i64 0)),(none,.pv none (.str [])),(none,.tsl (some 4) [])])] [0,1] [.pv none (.int .i64 v),.pv (some 4) (tvar w).pv]=some (.pv (some 5) (bdp (v,tvar w))):=rfl
 have hins:∀e:Heap,S 100 [.sl (some 5) r l.length 0 l.length,.pv none (.int .i64 (lbB l v:Int)),.tsl (some 5) [bdp (v,tvar w)]] (US hp q r l++e)=some (.ret (.sl (some 5) r (insB l v (tvar w)).length 0 (insB l v (tvar w)).length),UA hp q r l (insB l v (tvar w))++e):=fun e=>by
  obtain⟨s',H',h1,_,_,h2|h2⟩:=zs2 (US_B (q:=q) hr l e) v (tvar w) (by omega)
  ·obtain⟨r',n',h3,h4,h5⟩:=h2
   cases h3
   rw[h1,h4,h5,zge,List.set_append_left _ _ (by rw[ze1];exact hr)]
   rfl
  ·cases h2.1
 have hst:=fun l' e=>zuV (r:=r) hq hn l l' hp.length hq e
 simp only[zw] at hoc1 hcl
 generalize hT:(tvar w).pv=T at hcl hbd
 simp -dsimp -implicitDefEqProofs only[go_sem,seval,↓reduceIte,vagg,hoc1,hpl,hcl,hbd,hsm,hins,hst,hlen,hg0,hg1,hs0,hld,zcF,zc1,List.take_succ_cons,List.drop_succ_cons,List.all_cons,List.all_nil,zaB,List.append_assoc,zai,zae,zak,zaf,Nat.add_assoc,List.length_append]
 exact List.take_left' (hlen _)
def zem(hp:Heap)(q r:Nat)(l:List B)(x y:Tm)(res:ARes)(hp':Heap):Prop:=
 match ustep l x y with
 | .err e=>res=.panic (zn3 e)/\hp'=US hp q r l
 | .bind v t=>res=.ret (.pv none (.bool false))/\hp'=US hp q r (insB l v t)
 | .args xs=>hp'=US hp q r l/\((res=.ret (.pv none (.bool false))/\xs=[])\/(res=.ret (.pv none (.bool true))/\xs=x.args.zip y.args/\x.args.length=y.args.length))
theorem zsC(l:List B)(hO:OKB l)(hl:l.length<90000000)(x y:Tm)(hx:Flwd l x)(hy:Flwd l y)(hp:Heap)(q r:Nat)(hq:q<hp.length)(hr:r<hp.length)(hn:q≠r):
  ∃res hp',S 92 [.ptr q 0,x.av,y.av] (US hp q r l)=some (res,hp')/\zem hp q r l x y res hp':=by
 have hlen:=fun l=>ze1 hp q r l
 have hg0:∀(l:List B) (e:Heap),(US hp q r l++e)[hp.length]? =e[0]? :=fun l e=>zcD (hlen l)
 have hg1:∀(l:List B) (e:Heap) (j:Nat),(US hp q r l++e)[hp.length+j]? =e[j]? :=fun l e j=>getN (hlen l) j
 have hsb:∀x:Int,za7 [(none,.pv none (.int .i64 0))] [0] [.pv none (.int .i64 x)]=some (.pv (some 1) (.agg [(none,.int .i64 x)])):=fun _=>rfl
 have hmi:∀(s:Sh) (p:PV),zcl 89 [.pv s p]=some (.pv none (.iface 89 s p)):=fun _ _=>rfl
 have hpan:∀A:Prop,panK true A=A:=fun _=>rfl
 have htk:∀(l:List B) (e:Heap),List.take hp.length (US hp q r l++e)=US hp q r l:=fun l e=>List.take_left' (hlen l)
 have hif:∀(b:Bool) (A B:Heap),(if((AV.pv none (PV.bool b)).refsIn.all fun q=>decide (q<hp.length))=true then A else B)=A:=fun b A B=>if_pos (by simp[AV.refsIn])
 refine zdL (zem hp q r l x y) rfl rfl rfl rfl ?_
 have hbu:∀v:Int,za7 [(none,.pv none (.int .i64 0)),(none,.pv none (.int .i64 0)),(none,.pv none (.str [])),(none,.tsl (some 4) [])] [1] [.pv none (.int .i64 v)]=some (.agg [(none,.pv none (.int .i64 0)),(none,.pv none (.int .i64 v)),(none,.pv none (.str [])),(none,.tsl (some 4) [])]):=fun _=>rfl
 by_cases hxk:x.kind=0
 ·have hx2:=hx.2 hxk
  have hxk':=eq_true hxk
  by_cases hyk:y.kind=0
  ·have hy2:=hy.2 hyk
   have hyk':=eq_true hyk
   by_cases hlt:y.n<x.n
   ·have hu:ustep l x y=.bind x.n y:=by unfold ustep;rw[if_pos ⟨hxk,hyk⟩,if_pos hlt]
    have hcall:=zko l hO hl x.n y.n hy2.2.2 hy2.1 (by omega) (hp++[.box (some 4) (.pv (some 4) x.pv),.box (some 4) (.pv (some 4) y.pv)]) q r (by simp;omega) (by simp;omega) hn
    rw[zb2 hq hr,zb2 hq hr,<-hy2.2.1] at hcall
    simp only[vagg] at hcall
    have hne:¬x.n=y.n:=by omega
    have h1:=eq_true hlt
    have h2:=eq_false (show ¬x.n<y.n by omega)
    simp -dsimp -implicitDefEqProofs only[go_sem,seval,↓reduceIte,Tm.av,hxk',hyk',hne,h1,h2,hbu,hcall,hsb,hmi,hpan,zam,zaN,hlen,hg0,hg1,zaz,zaK,zau,List.append_assoc,zai,zae,zak,zaf,Nat.add_assoc,List.length_append]
    unfold zem
    rw[hu]
    exact⟨rfl,by rw[hif];exact htk _ _⟩
   ·by_cases hgt:x.n<y.n
    ·have hu:ustep l x y=.bind y.n x:=by unfold ustep;rw[if_pos ⟨hxk,hyk⟩,if_neg hlt,if_pos hgt]
     have hcall:=zko l hO hl y.n x.n hx2.2.2 hx2.1 (by omega) (hp++[.box (some 4) (.pv (some 4) x.pv),.box (some 4) (.pv (some 4) y.pv)]) q r (by simp;omega) (by simp;omega) hn
     rw[zb2 hq hr,zb2 hq hr,<-hx2.2.1] at hcall
     simp only[vagg] at hcall
     have hne:¬x.n=y.n:=by omega
     have h1:=eq_true hgt
     have h2:=eq_false (show ¬y.n<x.n by omega)
     simp -dsimp -implicitDefEqProofs only[go_sem,seval,↓reduceIte,Tm.av,hxk',hyk',hne,h1,h2,hbu,hcall,hsb,hmi,hpan,zam,zaN,hlen,hg0,hg1,zaz,zaK,zau,List.append_assoc,zai,zae,zak,zaf,Nat.add_assoc,List.length_append]
     unfold zem
     rw[hu]
     exact⟨rfl,by rw[hif];exact htk _ _⟩
    ·have hu:ustep l x y=.args []:=by unfold ustep;rw[if_pos ⟨hxk,hyk⟩,if_neg hlt,if_neg hgt]
     have hne:=eq_true (show x.n=y.n by omega)
     simp -dsimp -implicitDefEqProofs only[go_sem,seval,↓reduceIte,Tm.av,hxk',hyk',hne,hsb,hmi,hpan,zam,zaN,hlen,hg0,hg1,zaz,zaK,zau,List.append_assoc,zai,zae,zak,zaf,Nat.add_assoc,List.length_append]
     unfold zem
     rw[hu]
     exact⟨by rw[hif];exact htk _ _,.inl ⟨rfl,rfl⟩⟩
  ·have hyk':=eq_false hyk
   obtain⟨res,hp',hcall,hin,hout⟩:=zmx l hO hl x.n y hy.1 (hp++[.box (some 4) (.pv (some 4) x.pv),.box (some 4) (.pv (some 4) y.pv)]) q r (by simp;omega) (by simp;omega) hn
   rw[zb2 hq hr] at hcall hin
   rw[zb2 hq hr] at hout
   simp only[Tm.av] at hcall
   by_cases hi:inR l x.n y
   ·have hu:ustep l x y=.err 9:=by unfold ustep;rw[if_neg (fun h=>hyk h.2),if_pos hxk,if_pos hi]
    obtain⟨rfl,rfl⟩:=hin hi
    simp -dsimp -implicitDefEqProofs only[go_sem,seval,↓reduceIte,Tm.av,hxk',hyk',hcall,hsb,hmi,hpan,zam,zaN,hlen,hg0,hg1,zaz,zaK,zau,List.append_assoc,zai,zae,zak,zaf,Nat.add_assoc,List.length_append]
    unfold zem
    rw[hu]
    exact⟨rfl,htk _ _⟩
   ·have hu:ustep l x y=.bind x.n y:=by unfold ustep;rw[if_neg (fun h=>hyk h.2),if_pos hxk,if_neg hi]
    obtain⟨rfl,rfl⟩:=hout hi
    simp -dsimp -implicitDefEqProofs only[go_sem,seval,↓reduceIte,Tm.av,hxk',hyk',hcall,hsb,hmi,hpan,zam,zaN,hlen,hg0,hg1,zaz,zaK,zau,List.append_assoc,zai,zae,zak,zaf,Nat.add_assoc,List.length_append]
    unfold zem
    rw[hu]
    exact⟨rfl,by rw[hif];exact htk _ _⟩
 ·have hxk':=eq_false hxk
  by_cases hyk:y.kind=0
  ·have hy2:=hy.2 hyk
   have hyk':=eq_true hyk
   obtain⟨res,hp',hcall,hin,hout⟩:=zmx l hO hl y.n x hx.1 (hp++[.box (some 4) (.pv (some 4) x.pv),.box (some 4) (.pv (some 4) y.pv)]) q r (by simp;omega) (by simp;omega) hn
   rw[zb2 hq hr] at hcall hin
   rw[zb2 hq hr] at hout
   simp only[Tm.av] at hcall
   by_cases hi:inR l y.n x
   ·have hu:ustep l x y=.err 9:=by unfold ustep;rw[if_neg (fun h=>hxk h.1),if_neg hxk,if_pos hyk,if_pos hi]
    obtain⟨rfl,rfl⟩:=hin hi
    simp -dsimp -implicitDefEqProofs only[go_sem,seval,↓reduceIte,Tm.av,hxk',hyk',hcall,hsb,hmi,hpan,zam,zaN,hlen,hg0,hg1,zaz,zaK,zau,List.append_assoc,zai,zae,zak,zaf,Nat.add_assoc,List.length_append]
    unfold zem
    rw[hu]
    exact⟨rfl,htk _ _⟩
   ·have hu:ustep l x y=.bind y.n x:=by unfold ustep;rw[if_neg (fun h=>hxk h.1),if_neg hxk,if_pos hyk,if_neg hi]
    obtain⟨rfl,rfl⟩:=hout hi
    simp -dsimp -implicitDefEqProofs only[go_sem,seval,↓reduceIte,Tm.av,hxk',hyk',hcall,hsb,hmi,hpan,zam,zaN,hlen,hg0,hg1,zaz,zaK,zau,List.append_assoc,zai,zae,zak,zaf,Nat.add_assoc,List.length_append]
    unfold zem
    rw[hu]
    exact⟨rfl,by rw[hif];exact htk _ _⟩
  ·have hyk':=eq_false hyk
   by_cases hm:x.kind=y.kind/\x.n=y.n/\x.name=y.name/\x.args.length=y.args.length
   ·have hu:ustep l x y=.args (x.args.zip y.args):=by unfold ustep;rw[if_neg (fun h=>hxk h.1),if_neg hxk,if_neg hyk,if_pos hm]
    obtain⟨m1,m2,m3,m4⟩:=hm
    have m1':=eq_true m1
    have m2':=eq_true m2
    have m3':=eq_true m3
    have m4':=eq_true (show(x.args.length:Int)=(y.args.length:Int) by omega)
    simp -dsimp -implicitDefEqProofs only[go_sem,seval,↓reduceIte,Tm.av,hxk',hyk',m1',m2',m3',m4',zax,zag,Tm.pvs_len,hsb,hmi,hpan,zam,zaN,hlen,hg0,hg1,zaz,zaK,zau,List.append_assoc,zai,zae,zak,zaf,Nat.add_assoc,List.length_append]
    unfold zem
    rw[hu]
    exact⟨by rw[hif];exact htk _ _,.inr ⟨rfl,rfl,m4⟩⟩
   ·have hu:ustep l x y=.err 4:=by unfold ustep;rw[if_neg (fun h=>hxk h.1),if_neg hxk,if_neg hyk,if_neg hm]
    by_cases m1:x.kind=y.kind
    ·by_cases m2:x.n=y.n
     ·by_cases m3:x.name=y.name
      ·have m4:¬x.args.length=y.args.length:=fun e=>hm ⟨m1,m2,m3,e⟩
       have m4:¬(x.args.length:Int)=(y.args.length:Int):=by omega
       have m1':=eq_true m1
       have m2':=eq_true m2
       have m3':=eq_true m3
       simp -dsimp -implicitDefEqProofs only[go_sem,seval,↓reduceIte,Tm.av,hxk',hyk',m1',m2',m3',m4,zax,zag,Tm.pvs_len,hsb,hmi,hpan,zam,zaN,hlen,hg0,hg1,zaz,zaK,zau,List.append_assoc,zai,zae,zak,zaf,Nat.add_assoc,List.length_append]
       unfold zem
       rw[hu]
       exact⟨rfl,htk _ _⟩
      ·have m1':=eq_true m1
       have m2':=eq_true m2
       simp -dsimp -implicitDefEqProofs only[go_sem,seval,↓reduceIte,Tm.av,hxk',hyk',m1',m2',m3,zax,zag,Tm.pvs_len,hsb,hmi,hpan,zam,zaN,hlen,hg0,hg1,zaz,zaK,zau,List.append_assoc,zai,zae,zak,zaf,Nat.add_assoc,List.length_append]
       unfold zem
       rw[hu]
       exact⟨rfl,htk _ _⟩
     ·have m1':=eq_true m1
      simp -dsimp -implicitDefEqProofs only[go_sem,seval,↓reduceIte,Tm.av,hxk',hyk',m1',m2,zax,zag,Tm.pvs_len,hsb,hmi,hpan,zam,zaN,hlen,hg0,hg1,zaz,zaK,zau,List.append_assoc,zai,zae,zak,zaf,Nat.add_assoc,List.length_append]
      unfold zem
      rw[hu]
      exact⟨rfl,htk _ _⟩
    ·simp -dsimp -implicitDefEqProofs only[go_sem,seval,↓reduceIte,Tm.av,hxk',hyk',m1,zax,zag,Tm.pvs_len,hsb,hmi,hpan,zam,zaN,hlen,hg0,hg1,zaz,zaK,zau,List.append_assoc,zai,zae,zak,zaf,Nat.add_assoc,List.length_append]
     unfold zem
     rw[hu]
     exact⟨rfl,htk _ _⟩
inductive Vis(l:List B)(w:Int):Tm->Prop
 |to:fndB l w=true->Vis l w (toB l w)
 |arg {x u:Tm}:Vis l w x->¬x.kind=0->u∈x.args->Vis l w u
 |jump {x:Tm}:Vis l w x->x.kind=0->fndB l x.n=true->Vis l w (toB l x.n)
theorem Vis.lt{l:List B}(hA:Acyc l){w:Int}{x:Tm}(h:Vis l w x):mu l x<mu l (tvar w):=by
 induction h with
 |to hf=>exact ze3 (t:=tvar w) hA rfl hf
 |arg _ hk hu ih=>have:=zhc l hk hu;omega
 |jump _ hk hf ih=>have:=ze3 hA hk hf;omega
theorem Vis.ins{l:List B}(hG:Good l){v:Int}{t:Tm}(hf:fndB l v=false){w:Int}{x:Tm}(h:Vis l w x):Vis (insB l v t) w x:=by
 induction h with
 |to h1=>
  have:=Vis.to (l:=insB l v t) (w:=w) ((zi2 hG hf w).2 (.inr h1))
  rw[zhg hG hf h1] at this
  exact this
 |arg _ hk hu ih=>exact ih.arg hk hu
 |jump _ hk h1 ih=>
  have:=ih.jump hk ((zi2 hG hf _).2 (.inr h1))
  rw[zhg hG hf h1] at this
  exact this
theorem Vis.flw{l:List B}(hO:OKB l){w:Int}:∀(k:Nat) (u:Tm),mu l u=k->u.valid=true->Vis l w u->Vis l w (flw l u):=by
 intro k
 induction k using Nat.strongRecOn with
 |_ k ih=>
  intro u hk hv h
  by_cases hk0:u.kind=0
  ·by_cases hf:fndB l u.n=true
   ·rw[zh5 hO.Acyc hk0 hf]
    have:=ze3 hO.Acyc hk0 hf
    exact ih _ (by omega) _ rfl (hO.to hf).1 (h.jump hk0 hf)
   ·rw[zd2 hO.Acyc (valid_fits hv) hk0 hf];exact h
  ·rw[zdM l hk0];exact h
def PosI(l:List B)(u:Tm)(i:Nat):Prop:=∃D:List Int,D.Nodup/\(∀w∈D,fndB l w=true/\Vis l w u)/\i+u.size<=2000*(D.length+1)
def StkI(l:List B):List (Tm × Tm)->Prop
 |[]=>True
 |p::r=>PosI l p.1 r.length/\StkI l r
theorem PosI.ins{l:List B}(hG:Good l){v:Int}{t:Tm}(hf:fndB l v=false){u:Tm}{i:Nat}(h:PosI l u i):PosI (insB l v t) u i:=by
 obtain⟨D,h1,h2,h3⟩:=h
 exact⟨D,h1,fun w hw=>⟨(zi2 hG hf w).2 (.inr (h2 w hw).1),(h2 w hw).2.ins hG hf⟩,h3⟩
theorem StkI.ins{l:List B}(hG:Good l){v:Int}{t:Tm}(hf:fndB l v=false):∀{r:List (Tm × Tm)},StkI l r->StkI (insB l v t) r
 |[],_=>trivial
 |_::_,h=>⟨h.1.ins hG hf,StkI.ins hG hf h.2⟩
theorem StkI.len{l:List B}{r:List (Tm × Tm)}(h:StkI l r):r.length<=2000*(l.length+1):=by
 cases r with
 |nil=>exact Nat.zero_le _
 |cons p r=>
  obtain⟨D,h1,h2,h3⟩:=h.1
  have:=zua h1 fun w hw=>(h2 w hw).1
  have h4:=p.1.size_eq
  simp only[List.length_cons]
  omega
theorem ziZ{l:List B}{D:List Int}(h1:D.Nodup):∀(us vs:List Tm) (r:List (Tm × Tm)),us.length=vs.length->(∀u∈us,∀w∈D,fndB l w=true/\Vis l w u)->r.length+Tm.sizes us<=2000*(D.length+1)->StkI l r->StkI l (us.zip vs++r)
 |[],_,r,_,_,_,hr=>hr
 |u::us,[],r,hl,_,_,_=>by cases hl
 |u::us,v::vs,r,hl,hD,hs,hr=>by
  have hl':us.length=vs.length:=by simpa using hl
  have hs':r.length+(u.size+Tm.sizes us)<=2000*(D.length+1):=hs
  have hz:=Tm.zvK us
  refine⟨⟨D,h1,hD u List.mem_cons_self,?_⟩,ziZ h1 us vs r hl' (fun x hx=>hD x (List.mem_cons_of_mem _ hx)) (by omega) hr⟩
  show(us.zip vs++r).length+u.size<=_
  rw[List.length_append,List.length_zip]
  omega
theorem StkI.push{l:List B}(hO:OKB l){p:Tm × Tm}{r:List (Tm × Tm)}(hp:p.1.valid=true)(h:StkI l (p::r))(vs:List Tm)(hk:¬(Go.Proofs.Ytffecaafklpmhaa.flw l p.1).kind=0)(hl:(Go.Proofs.Ytffecaafklpmhaa.flw l p.1).args.length=vs.length):StkI l ((Go.Proofs.Ytffecaafklpmhaa.flw l p.1).args.zip vs++r):=by
 obtain⟨⟨D,h1,h2,h3⟩,hr⟩:=h
 have hx:=zbA hO hp
 have hxs:=valid_size hx.1
 have hxe:=(Go.Proofs.Ytffecaafklpmhaa.flw l p.1).size_eq
 by_cases hk0:p.1.kind=0
 ·have hps:p.1.size=1:=by rw[zbg (valid_fits hp) hk0];rfl
  have hf:fndB l p.1.n=true:=by
   cases e:fndB l p.1.n with
   |true=>rfl
   |false=>exact absurd (by rw[zd2 hO.Acyc (valid_fits hp) hk0 (by simp[e])];exact hk0) hk
  have hv:Vis l p.1.n (Go.Proofs.Ytffecaafklpmhaa.flw l p.1):=by
   rw[zh5 hO.Acyc hk0 hf]
   exact Vis.flw hO _ _ rfl (hO.to hf).1 (.to hf)
  have hnm:p.1.n ∉ D:=fun hm=>by
   have:=(h2 _ hm).2.lt hO.Acyc
   rw[zsA (valid_fits hp) hk0] at this
   omega
  refine ziZ (D:=p.1.n::D) (List.nodup_cons.2 ⟨hnm,h1⟩) _ vs r hl (fun u hu w hw=> ?_) (by simp only[List.length_cons];omega) hr
  rcases List.mem_cons.1 hw with rfl|hw
  ·exact⟨hf,hv.arg hk hu⟩
  ·exact⟨(h2 w hw).1,(Vis.flw hO _ _ rfl hp (h2 w hw).2).arg hk hu⟩
 ·rw[zdM l hk0] at hxe hk hl ⊢
  exact ziZ h1 _ vs r hl (fun u hu w hw=>⟨(h2 w hw).1,(h2 w hw).2.arg hk0 hu⟩) (by omega) hr
theorem zuc{hp:Heap}{r len:Nat}{es:List PV}{x:PV}(h:hp[r]? =some (.arr (some 8) es false))(hlen:len<=es.length)(hlim:len+1<=lim):
  ∃es',zbp (some 8) hp [.sl (some 8) r es.length 0 len,.tsl (some 8) [x]]=some (.sl (some 8) r es'.length 0 (len+1),hp.set r (.arr (some 8) es' false))/\es'.take (len+1)=es.take len++[x]/\len+1<=es'.length/\∀y∈es',y∈es\/y=x:=by
 by_cases h1:len=es.length
 ·subst h1
  refine⟨es++[x],by simp[zbp,aappend,elems,h,hlim],by rw[List.take_of_length_le (by simp)];simp,by simp,fun y hy=>by simpa using hy⟩
 ·have h2:len+1<=es.length:=by omega
  refine⟨es.take len++[x]++es.drop (len+1),?_,?_,?_,fun y hy=> ?_⟩
  ·have e:(es.take len++[x]++es.drop (len+1)).length=es.length:=by simp;omega
   rw[e]
   simp[zbp,aappend,elems,h,hlim,h1,h2]
  ·rw[List.take_append_of_le_length (by simp;omega),List.take_of_length_le (by simp;omega)]
  ·simp;omega
  ·rcases List.mem_append.1 hy with hy|hy
   ·rcases List.mem_append.1 hy with hy|hy
    ·exact .inl (List.mem_of_mem_take hy)
    ·exact .inr (List.mem_singleton.1 hy)
   ·exact .inl (List.mem_of_mem_drop hy)
def Bq(hp:Heap):Prop:=∀x∈hp,AObj.beq x x=true
theorem Bq.same:∀{hp:Heap},Bq hp->zbE hp hp=true
 |[],_=>rfl
 |x::r,h=>by
  show(AObj.beq x x && zbE r r)=true
  rw[h x List.mem_cons_self,Bq.same (hp:=r) fun y hy=>h y (List.mem_cons_of_mem _ hy)]
  rfl
theorem Bq.app{a b:Heap}(h1:Bq a)(h2:Bq b):Bq (a++b):=fun x hx=>(List.mem_append.1 hx).elim (h1 x) (h2 x)
theorem Bq.cons{x:AObj}{b:Heap}(h1:AObj.beq x x=true)(h2:Bq b):Bq (x::b):=fun y hy=>(List.mem_cons.1 hy).elim (fun e=>e▸h1) (h2 y)
theorem Bq.nil:Bq []:=fun _ h=>by cases h
theorem Bq.set{hp:Heap}(h:Bq hp)(i:Nat){x:AObj}(hx:AObj.beq x x=true):Bq (hp.set i x):=fun y hy=>by
 rcases List.mem_or_eq_of_mem_set hy with h1|rfl
 ·exact h y h1
 ·exact hx
theorem zsB(t:Tm):AObj.beq (.box (some 4) (.pv (some 4) t.pv)) (.box (some 4) (.pv (some 4) t.pv))=true:=by simp[AObj.beq,AV.beq,zgf]
theorem zmy{es:List PV}(h:∀x∈es,PV.beq x x=true):PV.beqs es es=true:=by
 induction es with
 |nil=>rfl
 |cons x r ih=>
  show(PV.beq x x && PV.beqs r r)=true
  rw[h x List.mem_cons_self,ih fun y hy=>h y (List.mem_cons_of_mem _ hy)]
  rfl
theorem zqM(b:B):PV.beq (bdp b) (bdp b)=true:=by simp[bdp,PV.beq,PV.beqc,zgf]
theorem zqN(l:List B)(z:Bool):AObj.beq (.arr (some 5) (bds l) z) (.arr (some 5) (bds l) z)=true:=by
 have:PV.beqs (bds l) (bds l)=true:=zmy fun x hx=>by
  obtain⟨b,_,rfl⟩:=List.mem_map.1 hx
  exact zqM b
 simp[AObj.beq,this]
theorem zqO{v:AV}{hp:Heap}{K:AV->Heap->Prop}(h:zbE hp hp=true):zrX (some (.ret v,hp)) hp K=K v hp:=by
 simp[zrX,h]
theorem zkp{Γ:Oracle}{b:Nat}{s:Sh}{f:FuncId}{vs:List AV}{v:AV}{hp:Heap}{K:AV->Heap->Prop}{Kp:PV->Heap->Prop}(hc:Γ .fn f vs hp=some (.ret v,hp))(h:zbE hp hp=true):opK (aOp Γ b .callg (.pv s (.func (.func f))::vs) hp) K Kp=K v hp:=by
 have h2:zbE (hp.take hp.length) hp=true:=by rw[List.take_length];exact h
 simp[aOp,zgm,zcV,za5,hc,h]
 rfl
theorem zqP(l:List B)(hG:Good l)(hl:l.length<90000000)(hp:Heap)(hb:Bq hp):
  S 82 [.pv none (.sl (some 5) (bds l))] hp=some (.ret (.sl (some 5) (hp.length+1) l.length 0 l.length),hp++[.arr (some 5) [] false,.arr (some 5) (bds l) false]):=by
 refine zaI rfl rfl rfl rfl ?_
 have hn0:∀H:Heap,zbW (some 5) H=some (.sl (some 5) H.length 0 0 0,H++[.arr (some 5) [] false]):=fun H=>zdg (sh:=some 5) (by decide)
 simp -dsimp -implicitDefEqProofs only[go_sem,seval,↓reduceIte,hn0,zaT,List.append_assoc,zai,zae,zak,zaf,Nat.add_assoc,List.length_append]
 refine zc0 (α:=Unit) l.length (fun i _=>True) (fun i _=>⟨[(3,.sl (some 5) (hp.length+1) i 0 i),(6,.pv none (.sl (some 5) (bds l))),(7,.pv none (.int .i64 l.length)),(8,.pv none (.int .i64 i))],hp++[.arr (some 5) [] false,.arr (some 5) (bds (l.take i)) false]⟩) () ⟨trivial,rfl⟩ ?_ ?_
 ·rintro i - h -
  have hc:(i:Int)<(l.length:Int):=by omega
  obtain⟨b,hbb⟩:∃b,l[i]? =some b:=⟨_,List.getElem?_eq_getElem h⟩
  have hbv:=hG.2 b (List.mem_of_getElem? hbb)
  have w2:IntKind.i64.wrap ((i:Int)+1)=((i+1:Nat):Int):=by rw[zao (by omega) (by omega)];omega
  have hlim:i+1<=lim:=by unfold lim;omega
  have htl:(bds (l.take i)).length=i:=by rw[zaT,List.length_take];omega
  have hcl:=fun hp=>zcT b.2 hp hbv.1 hbv.2
  simp only[Tm.av] at hcl
  have hbd:za7 [(none,.pv none (.int .i64 0)),(some 4,.agg [(none,.pv none (.int .i64 0)),(none,.pv none (.int .i64 0)),(none,.pv none (.str [])),(none,.tsl (some 4) [])])] [0,1] [.pv none (.int .i64 b.1),.pv (some 4) b.2.pv]=some (.pv (some 5) (bdp (b.1,b.2))):=rfl
  have hsh:zbE (hp++[.arr (some 5) [] false,.arr (some 5) (bds (l.take i)) false,.box (some 5) (.pv (some 5) (bdp b))]) (hp++[.arr (some 5) [] false,.arr (some 5) (bds (l.take i)) false,.box (some 5) (.pv (some 5) (bdp b))])=true:=
   (hb.app (Bq.cons (zqN [] false) (Bq.cons (zqN _ _) (Bq.cons (by simp[AObj.beq,AV.beq,zqM]) Bq.nil)))).same
  have happ:zbp (some 5) (hp++[.arr (some 5) [] false,.arr (some 5) (bds (l.take i)) false,.box (some 5) (.pv (some 5) (bdp b))]) [.sl (some 5) (hp.length+1) i 0 i,.tsl (some 5) [bdp (b.1,b.2)]]=some (.sl (some 5) (hp.length+1) (i+1) 0 (i+1),hp++[.arr (some 5) [] false,.arr (some 5) (bds (l.take (i+1))) false,.box (some 5) (.pv (some 5) (bdp b))]):=by
   have e:bds (l.take (i+1))=bds (l.take i)++[bdp (b.1,b.2)]:=by rw[zqV hbb];simp[bds]
   rw[zfV (by rw[getN rfl];exact⟨rfl,htl⟩) (by simpa using hlim),e]
   simp
   rfl
  simp -dsimp -implicitDefEqProofs only[go_sem,seval,↓reduceIte,hc,zac (zbm hbb),zbV,zdI,w2,hbd,hcl,zqO hsh,happ,List.append_assoc,zai,zae,zak,zaf,Nat.add_assoc,List.length_append]
  refine⟨(),?_⟩
  rw[zaZ 2 rfl rfl (by simp[AObj.refs]) (by simp[AV.refsIn])]
  rfl
 ·rintro - -
  have hc:¬(l.length:Int)<(l.length:Int):=by omega
  simp -dsimp -implicitDefEqProofs only[go_sem,seval,↓reduceIte,hc,List.append_assoc,zai,zae,zak,zaf,Nat.add_assoc,List.length_append]
  rw[if_neg (by simp[AV.refsIn]),List.take_length]
def prP(p:Tm × Tm):PV:=.agg [(some 4,p.1.pv),(some 4,p.2.pv)]
def prs(r:List (Tm × Tm)):List PV:=r.map prP
theorem zlF(p:Tm × Tm):PV.beq (prP p) (prP p)=true:=by simp[prP,PV.beq,PV.beqc,zgf]
theorem ziV(p:Tm × Tm):PV.part deep (prP p) 0 (some 4)=some p.1.pv:=rfl
theorem ziW(p:Tm × Tm):PV.part deep (prP p) 4 (some 4)=some p.2.pv:=rfl
theorem zt4{es:List PV}(h:∀x∈es,PV.beq x x=true):AObj.beq (.arr (some 8) es false) (.arr (some 8) es false)=true:=by
 simp[AObj.beq,zmy h]
theorem zvG{hp:Heap}(hb:Bq hp)(q r:Nat)(l:List B):Bq (US hp q r l):=by
 unfold US
 exact(hb.set q (by simp[AObj.beq,AV.beq,AV.beqc])).set r (zqN l false)
def InV(V:List Int)(t:Tm):Prop:=∀w∈t.occ,w∈V
def InVB(V:List Int)(l:List B):Prop:=∀b∈l,b.1∈V/\InV V b.2
theorem InV.arg{V:List Int}{t u:Tm}(h:InV V t)(hk:¬t.kind=0)(hu:u∈t.args):InV V u:=fun w hw=>h w (Tm.zv2 hk hu hw)
theorem InV.var{V:List Int}{t:Tm}(h:InV V t)(hk:t.kind=0):t.n∈V:=h _ (by rw[Tm.zvR,if_pos hk];simp)
theorem InV.flw{V:List Int}{l:List B}(hO:OKB l)(hb:InVB V l):∀(k:Nat) (u:Tm),mu l u=k->u.valid=true->InV V u->InV V (flw l u):=by
 intro k
 induction k using Nat.strongRecOn with
 |_ k ih=>
  intro u hk hv h
  by_cases hk0:u.kind=0
  ·by_cases hf:fndB l u.n=true
   ·rw[zh5 hO.Acyc hk0 hf]
    have:=ze3 hO.Acyc hk0 hf
    exact ih _ (by omega) _ rfl (hO.to hf).1 (hb _ (find_mem hf)).2
   ·rw[zd2 hO.Acyc (valid_fits hv) hk0 hf];exact h
  ·rw[zdM l hk0];exact h
theorem InVB.len{V:List Int}{l:List B}(hG:Good l)(hb:InVB V l):l.length<=V.length:=by
 have h1:(l.map (·.1)).Nodup:=by
  refine List.pairwise_map.2 (hG.1.imp fun{a b} h=> ?_)
  omega
 have h2:=zhb (l.map (·.1)) V h1 fun x hx=>by
  obtain⟨b,hb1,rfl⟩:=List.mem_map.1 hx
  exact(hb b hb1).1
 rwa [List.length_map] at h2
theorem zg6{V:List Int}{l:List B}{x y:Tm}(hx:InV V x)(hy:InV V y){v:Int}{t:Tm}(h:ustep l x y=.bind v t):v∈V/\InV V t:=by
 unfold ustep at h
 split at h
 ·rename_i hk
  split at h
  ·cases h;exact⟨hx.var hk.1,hy⟩
  ·split at h
   ·cases h;exact⟨hy.var hk.2,hx⟩
   ·cases h
 ·split at h
  ·rename_i hk
   split at h
   ·cases h
   ·cases h;exact⟨hx.var hk,hy⟩
  ·split at h
   ·rename_i hk
    split at h
    ·cases h
    ·cases h;exact⟨hy.var hk,hx⟩
   ·split at h <;> cases h
theorem zg7{V:List Int}{l:List B}{x y:Tm}(hx:InV V x)(hy:InV V y){xs:List (Tm × Tm)}(h:ustep l x y=.args xs):∀p∈xs,InV V p.1/\InV V p.2:=by
 unfold ustep at h
 split at h
 ·split at h
  ·cases h
  ·split at h
   ·cases h
   ·cases h;exact fun p hp=>by cases hp
 ·split at h
  ·split at h <;> cases h
  ·split at h
   ·split at h <;> cases h
   ·split at h
    ·rename_i hk1 hk2 _
     cases h
     exact fun p hp=>⟨hx.arg hk1 (List.of_mem_zip hp).1,hy.arg hk2 (List.of_mem_zip hp).2⟩
    ·cases h
structure RunI(V:List Int)(l0:List B)(p0:Tm × Tm)(n:Nat)(l:List B)(r:List (Tm × Tm)):Prop where
 okb:OKB l
 val:∀p∈r,p.1.valid=true/\p.2.valid=true
 eq:uni 1048576 l0 [p0]=uni n l r
 le:n<=1048576
 stk:StkI l r
 vb:InVB V l
 vp:∀p∈r,InV V p.1/\InV V p.2
theorem RunI.lim{V:List Int}{l0:List B}{p0:Tm × Tm}{n:Nat}{l:List B}{r:List (Tm × Tm)}(h:RunI V l0 p0 n l r)(h0:V.length<=500000):r.length+1<=Am.lim:=by
 have h1:=h.stk.len
 have h2:=InVB.len h.okb.good h.vb
 unfold Am.lim
 omega
theorem RunI.short{V:List Int}{l0:List B}{p0:Tm × Tm}{n:Nat}{l:List B}{r:List (Tm × Tm)}(h:RunI V l0 p0 n l r)(h0:V.length<=500000):l.length<80000000:=by
 have h2:=InVB.len h.okb.good h.vb
 omega
theorem RunI.flw{V:List Int}{l0:List B}{p0:Tm × Tm}{n:Nat}{l:List B}{p:Tm × Tm}{r:List (Tm × Tm)}(h:RunI V l0 p0 n l (p::r)):InV V (flw l p.1)/\InV V (flw l p.2):=
 have hv:=h.val p List.mem_cons_self
 have hi:=h.vp p List.mem_cons_self
 ⟨InV.flw h.okb h.vb _ _ rfl hv.1 hi.1,InV.flw h.okb h.vb _ _ rfl hv.2 hi.2⟩
theorem RunI.bind{V:List Int}{l0:List B}{p0:Tm × Tm}{n:Nat}{l:List B}{p:Tm × Tm}{r:List (Tm × Tm)}(h:RunI V l0 p0 (n+1) l (p::r)){v:Int}{t:Tm}(hu:ustep l (Go.Proofs.Ytffecaafklpmhaa.flw l p.1) (Go.Proofs.Ytffecaafklpmhaa.flw l p.2)=.bind v t):RunI V l0 p0 n (insB l v t) r:=by
 have hbv:=zg6 h.flw.1 h.flw.2 hu
 obtain⟨hO,hv,he,hle,hs,hvb,hvp⟩:=h
 have hp:=hv p List.mem_cons_self
 have hb:=zd3 hO (zbA hO hp.1) (zbA hO hp.2) hu
 refine⟨zi3 hO hb.unb hb.rng hb.val hb.out,fun q hq=>hv q (List.mem_cons_of_mem _ hq),by rw[he,ze4 r hu],by omega,StkI.ins hO.good hb.unb hs.2,fun b hb=> ?_,fun q hq=>hvp q (List.mem_cons_of_mem _ hq)⟩
 rcases zdj hb with rfl|h
 ·exact hbv
 ·exact hvb b h
theorem RunI.none{V:List Int}{l0:List B}{p0:Tm × Tm}{n:Nat}{l:List B}{p:Tm × Tm}{r:List (Tm × Tm)}(h:RunI V l0 p0 (n+1) l (p::r))(hu:ustep l (Go.Proofs.Ytffecaafklpmhaa.flw l p.1) (Go.Proofs.Ytffecaafklpmhaa.flw l p.2)=.args []):RunI V l0 p0 n l r:=by
 obtain⟨hO,hv,he,hle,hs,hvb,hvp⟩:=h
 exact⟨hO,fun q hq=>hv q (List.mem_cons_of_mem _ hq),by rw[he,zcq r hu];rfl,by omega,hs.2,hvb,fun q hq=>hvp q (List.mem_cons_of_mem _ hq)⟩
theorem RunI.args{V:List Int}{l0:List B}{p0:Tm × Tm}{n:Nat}{l:List B}{p:Tm × Tm}{r:List (Tm × Tm)}(h:RunI V l0 p0 (n+1) l (p::r))(hk:¬(Go.Proofs.Ytffecaafklpmhaa.flw l p.1).kind=0)(hl:(Go.Proofs.Ytffecaafklpmhaa.flw l p.1).args.length=(Go.Proofs.Ytffecaafklpmhaa.flw l p.2).args.length)(hu:ustep l (Go.Proofs.Ytffecaafklpmhaa.flw l p.1) (Go.Proofs.Ytffecaafklpmhaa.flw l p.2)=.args ((Go.Proofs.Ytffecaafklpmhaa.flw l p.1).args.zip (Go.Proofs.Ytffecaafklpmhaa.flw l p.2).args)):RunI V l0 p0 n l ((Go.Proofs.Ytffecaafklpmhaa.flw l p.1).args.zip (Go.Proofs.Ytffecaafklpmhaa.flw l p.2).args++r):=by
 have hav:=zg7 h.flw.1 h.flw.2 hu
 obtain⟨hO,hv,he,hle,hs,hvb,hvp⟩:=h
 have hp:=hv p List.mem_cons_self
 have ha:=zfA (zbA hO hp.1) (zbA hO hp.2) hu
 exact⟨hO,fun q hq=>(List.mem_append.1 hq).elim (ha.1 q) fun hq=>hv q (List.mem_cons_of_mem _ hq),by rw[he,zcq r hu],by omega,hs.push hO hp.1 _ hk hl,hvb,fun q hq=>(List.mem_append.1 hq).elim (hav q) fun hq=>hvp q (List.mem_cons_of_mem _ hq)⟩
def RunP(hp:Heap)(q r:Nat)(R:List B × Int)(res:ARes)(hp':Heap):Prop:=
 (∃l',R=(l',0)/\res=.ret (.tuple [])/\hp'=US hp q r l')\/∃e l',R=([],e)/\res=.panic (zn3 e)/\hp'=US hp q r l'
theorem zt5(V:List Int)(l0:List B)(a b:Tm)(hO:OKB l0)(hl:V.length<=500000)(hVb:InVB V l0)(hVa:InV V a)(hVc:InV V b)(ha:a.valid=true)(hb:b.valid=true)(hp:Heap)(hbq:Bq hp)(q r:Nat)(hq:q<hp.length)(hr:r<hp.length)(hn:q≠r):
  ∃res hp',S 83 [.ptr q 0,a.av,b.av] (US hp q r l0)=some (res,hp')/\RunP hp q r (uni 1048576 l0 [(a,b)]) res hp':=by
 have hlen:=fun l=>ze1 hp q r l
 have hg0:∀(l:List B) (e:Heap),(US hp q r l++e)[hp.length]? =e[0]? :=fun l e=>zcD (hlen l)
 have hg1:∀(l:List B) (e:Heap) (j:Nat),(US hp q r l++e)[hp.length+j]? =e[j]? :=fun l e j=>getN (hlen l) j
 have hs1:∀(l:List B) (Y:AObj) (e:Heap) (j:Nat),(US hp q r l++e).set (hp.length+j) Y=US hp q r l++e.set j Y:=fun l Y e j=>setN (hlen l) j Y
 have hld:=fun l e=>zt2 (r:=r) hq hn l e
 have hsb:∀x:Int,za7 [(none,.pv none (.int .i64 0))] [0] [.pv none (.int .i64 x)]=some (.pv (some 1) (.agg [(none,.int .i64 x)])):=fun _=>rfl
 have hmi:∀(s:Sh) (p:PV),zcl 89 [.pv s p]=some (.pv none (.iface 89 s p)):=fun _ _=>rfl
 have hpan:∀A:Prop,panK true A=A:=fun _=>rfl
 have htk:∀(l:List B) (e:Heap),List.take hp.length (US hp q r l++e)=US hp q r l:=fun l e=>List.take_left' (hlen l)
 refine zdL (RunP hp q r (uni 1048576 l0 [(a,b)])) rfl rfl rfl rfl ?_
 have hbp:∀u w:Tm,za7 [(some 4,.agg [(none,.pv none (.int .i64 0)),(none,.pv none (.int .i64 0)),(none,.pv none (.str [])),(none,.tsl (some 4) [])]),(some 4,.agg [(none,.pv none (.int .i64 0)),(none,.pv none (.int .i64 0)),(none,.pv none (.str [])),(none,.tsl (some 4) [])])] [0,1] [.pv (some 4) u.pv,.pv (some 4) w.pv]=some (.pv (some 8) (prP (u,w))):=fun _ _=>rfl
 have hbs:∀(e:Heap),zi7 (some 8) (US hp q r l0++e) [.pv (some 8) (prP (a,b))]=some (.sl (some 8) (US hp q r l0++e).length 1 0 1,US hp q r l0++e++[.arr (some 8) [prP (a,b)] false]):=fun e=>by
  simp[zi7,zal,AV.freeze,deep,AV.shp,za8,Sh.size]
 simp -dsimp -implicitDefEqProofs only[go_sem,seval,↓reduceIte,Tm.av,hbp,hbs,hsb,hmi,hpan,hlen,hg0,hg1,hs1,hld,zaB,zaz,zaK,zau,List.append_assoc,zai,zae,zak,zaf,Nat.add_assoc,List.length_append]
 refine zbk (fun n st=>∃(l:List B) (rs:List (Tm × Tm)) (es:List PV),RunI V l0 (a,b) n l rs/\es.take rs.length=prs rs.reverse/\rs.length<=es.length/\(∀x∈es,PV.beq x x=true)/\
  st=⟨[(0,.ptr q 0),(6,.sl (some 8) (hp.length+2) es.length 0 rs.length),(7,.pv none (.int .i64 (1048576 - (n:Int))))],US hp q r l++[.box (some 4) (.pv (some 4) a.pv),.box (some 4) (.pv (some 4) b.pv),.arr (some 8) es false]⟩) (n:=1048576) ?_ ?_
 ·refine⟨l0,[(a,b)],[prP (a,b)],⟨hO,fun p hp=> ?_,rfl,Nat.le_refl _,⟨⟨[],List.nodup_nil,(fun w hw=>by cases hw),?_⟩,trivial⟩,?_,fun p hp=> ?_⟩,rfl,Nat.le_refl _,fun x hx=> ?_,?_⟩
  ·rw[List.mem_singleton] at hp
   rw[hp];exact⟨ha,hb⟩
  ·have:=valid_size ha
   show 0+a.size<=2000*(0+1)
   omega
  ·exact hVb
  ·rw[List.mem_singleton] at hp
   rw[hp];exact⟨hVa,hVc⟩
  ·rw[List.mem_singleton] at hx
   rw[hx];exact zlF _
  ·rfl
 ·rintro n st ⟨l,rs,es,hI,ht,hle,hbe,rfl⟩
  cases rs with
  |nil=>
   have hc:¬(0:Int)<((0:Nat):Int):=by omega
   simp -dsimp -implicitDefEqProofs only[go_sem,seval,↓reduceIte,hc,hsb,hmi,hpan,hlen,hg0,hg1,hs1,hld,zaB,zaz,zaK,zau,List.append_assoc,zai,zae,zak,zaf,Nat.add_assoc,List.length_append]
   have he:=hI.eq
   rw[zfz] at he
   refine .inl ⟨l,he,rfl,?_⟩
   exact htk _ _
  |cons p rs=>
  have hc:(0:Int)<((rs.length+1:Nat):Int):=by omega
  have hpv:=hI.val p List.mem_cons_self
  have hn1:=hI.le
  cases n with
  |zero=>
   have hc2:=eq_true (show(1048576:Int) - ((0:Nat):Int)=1048576 by omega)
   simp -dsimp -implicitDefEqProofs only[go_sem,seval,↓reduceIte,hc,hc2,hsb,hmi,hpan,hlen,hg0,hg1,hs1,hld,zaB,zaz,zaK,zau,List.append_assoc,zai,zae,zak,zaf,Nat.add_assoc,List.length_append]
   have he:=hI.eq
   rw[zi1] at he
   exact .inr ⟨2,l,he,rfl,htk _ _⟩
  |succ n=>
  have hc2:¬(1048576:Int) - ((n+1:Nat):Int)=1048576:=by omega
  have hlim:=hI.lim hl
  simp only[List.length_cons] at hlim
  have hlim2:rs.length+2<=1073741824:=by unfold Am.lim at hlim;omega
  have w1:IntKind.i64.wrap (((rs.length+1:Nat):Int) - 1)=(rs.length:Int):=by rw[zao (by omega) (by omega)];omega
  have w2:IntKind.i64.wrap (1048576 - ((n+1:Nat):Int)+1)=1048576 - (n:Int):=by rw[zao (by omega) (by omega)];omega
  have htop:es[rs.length]? =some (prP p):=by
   have h1:(es.take (rs.length+1))[rs.length]? =es[rs.length]? :=by rw[List.getElem?_take,if_pos (by omega)]
   rw[<-h1]
   rw[List.length_cons] at ht
   rw[ht]
   simp[prs]
  have ht2:es.take rs.length=prs rs.reverse:=by
   have h1:es.take rs.length=(es.take (rs.length+1)).take rs.length:=by rw[List.take_take,Nat.min_eq_left (Nat.le_succ _)]
   rw[h1]
   rw[List.length_cons] at ht
   rw[ht]
   simp[prs]
  have hle2:rs.length+1<=es.length:=hle
  have hias:zbJ (some 8) [.sl (some 8) (hp.length+2) es.length 0 (rs.length+1),.pv none (.int .i64 (rs.length:Int))]=some (.eptr (some 8) (hp.length+2) es.length rs.length 0):=by
   have:=zaq (sh:=some 8) (r:=hp.length+2) (v:=es.length) (o:=0) (n:=rs.length+1) (i:=rs.length) (s':=none) (k:=.i64) (by omega)
   rw[Nat.zero_add] at this
   exact this
  have hsl:zcW (some 8) false true [.sl (some 8) (hp.length+2) es.length 0 (rs.length+1),.pv none (.int .i64 (rs.length:Int))]=some (.sl (some 8) (hp.length+2) es.length 0 rs.length):=by
   have h1:(rs.length:Int)<=(rs.length:Int)+1:=by omega
   simp[zcW,aslice,h1]
  have hae:∀e:Heap,aload (some 8) (US hp q r l++.box (some 4) (.pv (some 4) a.pv)::.box (some 4) (.pv (some 4) b.pv)::.arr (some 8) es false::e) (.eptr (some 8) (hp.length+2) es.length rs.length 0)=some (.pv (some 8) (prP p)):=fun e=>by
   simp[aload,hg1,htop,toAV]
  have hO1:=hI.okb
  have hx:=zbA hO1 hpv.1
  have hy:=zbA hO1 hpv.2
  have hl1:l.length<80000000:=hI.short hl
  have hf1:=fun e=>zke (.inr (US_B (q:=q) hr l e)) hO1 (by omega) p.1 hpv.1
  have hf2:=fun e=>zke (.inr (US_B (q:=q) hr l e)) hO1 (by omega) p.2 hpv.2
  have hia0:∀ρ:Nat,zbP (some 4) 2 [.ptr ρ 0,.pv none (.int .i64 0)]=some (.ptr ρ 0):=fun _=>rfl
  have hia1:∀ρ:Nat,zbP (some 4) 2 [.ptr ρ 0,.pv none (.int .i64 1)]=some (.ptr ρ 4):=fun _=>rfl
  have hsame:zbE (US hp q r l++[.box (some 4) (.pv (some 4) a.pv),.box (some 4) (.pv (some 4) b.pv),.arr (some 8) es false,.box (some 8) (.pv (some 8) (prP p))]) (US hp q r l++[.box (some 4) (.pv (some 4) a.pv),.box (some 4) (.pv (some 4) b.pv),.arr (some 8) es false,.box (some 8) (.pv (some 8) (prP p))])=true:=
   ((zvG hbq q r l).app (Bq.cons (zsB a) (Bq.cons (zsB b) (Bq.cons (zt4 hbe) (Bq.cons (by simp[AObj.beq,AV.beq,zlF]) Bq.nil))))).same
  obtain⟨res,hp',hcall,hP⟩:=zsC l hO1 (by omega) (flw l p.1) (flw l p.2) hx hy (hp++[.box (some 4) (.pv (some 4) a.pv),.box (some 4) (.pv (some 4) b.pv),.arr (some 8) es false,.box (some 8) (.pv (some 8) (prP p)),.box (some 4) (.pv (some 4) (flw l p.1).pv),.arr (some 4) [] false,.box (some 4) (.pv (some 4) (flw l p.2).pv),.arr (some 4) [] false]) q r (by simp;omega) (by simp;omega) hn
  rw[zb2 hq hr] at hcall
  unfold zem at hP
  simp only[Tm.av] at hf1 hf2 hcall
  have hcg:=fun K Kp=>zkp (b:=hp.length) (s:=none) (K:=K) (Kp:=Kp) (hf1 [.box (some 4) (.pv (some 4) a.pv),.box (some 4) (.pv (some 4) b.pv),.arr (some 8) es false,.box (some 8) (.pv (some 8) (prP p))]) hsame
  cases hu:ustep l (flw l p.1) (flw l p.2) with
  |err e=>
   rw[hu] at hP
   obtain⟨rfl,rfl⟩:=hP
   rw[zb2 hq hr] at hcall
   simp -dsimp -implicitDefEqProofs only[go_sem,seval,↓reduceIte,hc,hc2,w1,hias,hae,hsl,hia0,hia1,ziV,ziW,hcg,hf2,hcall,hsb,hmi,hpan,hlen,hg0,hg1,hs1,hld,zaB,zaz,zaK,zau,List.append_assoc,zai,zae,zak,zaf,Nat.add_assoc,List.length_append]
   have he:=hI.eq
   rw[zlJ rs hu] at he
   exact .inr ⟨e,l,he,rfl,htk _ _⟩
  |bind v t=>
   rw[hu] at hP
   obtain⟨rfl,rfl⟩:=hP
   rw[zb2 hq hr] at hcall
   simp -dsimp -implicitDefEqProofs only[go_sem,seval,↓reduceIte,hc,hc2,w1,w2,hias,hae,hsl,hia0,hia1,ziV,ziW,hcg,hf2,hcall,hsb,hmi,hpan,hlen,hg0,hg1,hs1,hld,zaB,zaz,zaK,zau,List.append_assoc,zai,zae,zak,zaf,Nat.add_assoc,List.length_append]
   refine⟨n,Nat.lt_succ_self _,insB l v t,rs,es,hI.bind hu,ht2,Nat.le_of_succ_le hle2,hbe,?_⟩
   rw[zaZ 3 (hlen _) rfl (by simp[AObj.refs,AV.refsIn]) (by simp[AV.refsIn];omega)]
   rfl
  |args xs=>
   rw[hu] at hP
   obtain⟨rfl,⟨rfl,rfl⟩|⟨rfl,rfl,hll⟩⟩:=hP
   ·rw[zb2 hq hr] at hcall
    simp -dsimp -implicitDefEqProofs only[go_sem,seval,↓reduceIte,hc,hc2,w1,w2,hias,hae,hsl,hia0,hia1,ziV,ziW,hcg,hf2,hcall,hsb,hmi,hpan,hlen,hg0,hg1,hs1,hld,zaB,zaz,zaK,zau,List.append_assoc,zai,zae,zak,zaf,Nat.add_assoc,List.length_append]
    refine⟨n,Nat.lt_succ_self _,l,rs,es,hI.none hu,ht2,Nat.le_of_succ_le hle2,hbe,?_⟩
    rw[zaZ 3 (hlen _) rfl (by simp[AObj.refs,AV.refsIn]) (by simp[AV.refsIn];omega)]
    rfl
   ·rw[zb2 hq hr] at hcall
    have hRI:RunI V l0 (a,b) n l ((flw l p.1).args.zip (flw l p.2).args++rs):=by
     by_cases hk:(flw l p.1).kind=0
     ·have e:(flw l p.1).args=[]:=(congrArg Tm.args (hx.2 hk).2.1).trans rfl
      have e2:(flw l p.1).args.zip (flw l p.2).args=[]:=by rw[e];rfl
      rw[e2] at hu ⊢
      exact hI.none hu
     ·exact hI.args hk hll hu
    have hxz:=valid_size hx.1
    have hxz2:=(flw l p.1).size_eq
    have hxz3:=Tm.zvK (flw l p.1).args
    have w0:IntKind.i64.wrap (((flw l p.1).args.length:Int) - 1)=((flw l p.1).args.length:Int) - 1:=zao (by omega) (by omega)
    simp -dsimp -implicitDefEqProofs only[go_sem,seval,↓reduceIte,hc,hc2,w1,w2,hias,hae,hsl,hia0,hia1,ziV,ziW,hcg,hf2,hcall,zag,Tm.pvs_len,w0,hsb,hmi,hpan,hlen,hg0,hg1,hs1,hld,zaB,zaz,zaK,zau,List.append_assoc,zai,zae,zak,zaf,Nat.add_assoc,List.length_append]
    generalize hX:flw l p.1=x at*
    generalize hY:flw l p.2=y at*
    have hzl:(x.args.zip y.args).length=x.args.length:=by rw[List.length_zip];omega
    have hlm:=hRI.lim hl
    rw[List.length_append,hzl] at hlm
    refine zc0 (α:=List PV) x.args.length (fun i es1=>es1.take (rs.length+i)=prs (rs.reverse++((x.args.zip y.args).drop (x.args.length - i)).reverse)/\rs.length+i<=es1.length/\∀z∈es1,PV.beq z z=true)
     (fun i es1=>⟨[(0,.ptr q 0),(6,.sl (some 8) (hp.length+2) es1.length 0 (rs.length+i)),(7,.pv none (.int .i64 (1048576 - ((n+1:Nat):Int)))),(9,.ptr (hp.length+4) 0),(10,.ptr (hp.length+6) 0),(11,.pv none (.int .i64 ((x.args.length:Int) - 1 - (i:Int))))],US hp q r l++[.box (some 4) (.pv (some 4) a.pv),.box (some 4) (.pv (some 4) b.pv),.arr (some 8) es1 false,.box (some 8) (.pv (some 8) (prP p)),.box (some 4) (.pv (some 4) x.pv),.arr (some 4) [] false,.box (some 4) (.pv (some 4) y.pv),.arr (some 4) [] false]⟩) es ⟨⟨?_,Nat.le_of_succ_le hle2,hbe⟩,?_⟩ ?_ ?_
    ·rw[Nat.sub_zero,List.drop_of_length_le (by omega)]
     simpa using ht2
    ·rw[show(x.args.length:Int) - 1 - ((0:Nat):Int)=(x.args.length:Int) - 1 by omega]
     rfl
    ·rintro i es1 h ⟨k1,k2,k3⟩
     obtain⟨j,hj⟩:∃j,j=x.args.length - 1 - i:=⟨_,rfl⟩
     have ej:(x.args.length:Int) - 1 - (i:Int)=(j:Int):=by omega
     have hc5:(0:Int)<=(j:Int):=by omega
     obtain⟨u,hu1⟩:∃u,x.args[j]? =some u:=⟨_,List.getElem?_eq_getElem (by omega)⟩
     obtain⟨w,hw1⟩:∃w,y.args[j]? =some w:=⟨_,List.getElem?_eq_getElem (by omega)⟩
     have hdr:(x.args.zip y.args).drop (x.args.length - (i+1))=(u,w)::(x.args.zip y.args).drop (x.args.length - i):=by
      obtain⟨q1,e1⟩:=List.getElem?_eq_some_iff.1 hu1
      obtain⟨q2,e2⟩:=List.getElem?_eq_some_iff.1 hw1
      have ea:x.args.length - (i+1)=j:=by omega
      have eb:x.args.length - i=j+1:=by omega
      rw[ea,eb,List.drop_eq_getElem_cons (by omega),List.getElem_zip,e1,e2]
     have w5:IntKind.i64.wrap ((j:Int) - 1)=(x.args.length:Int) - 1 - ((i+1:Nat):Int):=by rw[zao (by omega) (by unfold Am.lim at hlm;omega)];omega
     obtain⟨es2,hpu,g1,g2,g3⟩:=zuc (hp:=US hp q r l++[.box (some 4) (.pv (some 4) a.pv),.box (some 4) (.pv (some 4) b.pv),.arr (some 8) es1 false,.box (some 8) (.pv (some 8) (prP p)),.box (some 4) (.pv (some 4) x.pv),.arr (some 4) [] false,.box (some 4) (.pv (some 4) y.pv),.arr (some 4) [] false]) (r:=hp.length+2) (es:=es1) (len:=rs.length+i) (x:=prP (u,w)) (by rw[hg1];rfl) k2 (by omega)
     rw[hs1] at hpu
     simp only[List.set_cons_succ,List.set_cons_zero] at hpu
     simp -dsimp -implicitDefEqProofs only[go_sem,seval,↓reduceIte,ej,hc5,w5,zac (Tm.pvs_get hu1),zac (Tm.pvs_get hw1),zag,Tm.pvs_len,hbp,hpu,hsb,hmi,hpan,hlen,hg0,hg1,hs1,hld,zaB,zaz,zaK,zau,List.append_assoc,zai,zae,zak,zaf,Nat.add_assoc,List.length_append]
     refine⟨es2,⟨?_,g2,fun z hz=> ?_⟩,?_⟩
     ·rw[hdr,List.reverse_cons,<-List.append_assoc]
      show es2.take (rs.length+i+1)=_
      rw[g1,k1]
      simp[prs]
     ·rcases g3 z hz with h|rfl
      ·exact k3 z h
      ·exact zlF _
     ·rw[zaZ 8 (hlen _) rfl (by simp[AObj.refs,AV.refsIn]) (by simp[AV.refsIn];omega)]
      rfl
    ·rintro es1 ⟨k1,k2,k3⟩
     have hc5:¬(0:Int)<=(x.args.length:Int) - 1 - (x.args.length:Int):=by omega
     simp -dsimp -implicitDefEqProofs only[go_sem,seval,↓reduceIte,hc5,w2,hsb,hmi,hpan,hlen,hg0,hg1,hs1,hld,zaB,zaz,zaK,zau,List.append_assoc,zai,zae,zak,zaf,Nat.add_assoc,List.length_append]
     rw[Nat.sub_self,List.drop_zero,<-List.reverse_append] at k1
     have hal:(x.args.zip y.args++rs).length=rs.length+x.args.length:=by rw[List.length_append,hzl];omega
     refine⟨n,Nat.lt_succ_self _,l,x.args.zip y.args++rs,es1,hRI,by rw[hal];exact k1,by rw[hal];exact k2,k3,?_⟩
     rw[zaZ 3 (hlen _) rfl (by simp[AObj.refs,AV.refsIn]) (by simp[AV.refsIn];omega),hal]
     rfl
def outD(F:FuncId->Option AFn)(prim:FuncId->Option zbi)(rs:List RSlot)(s:Nat)(v:AV)(st:St)(p:PV)(st2:St):Prop:=
 ∃g fs cs,st.fr.look s=some (.func (.func g) fs cs)/\∃r hp' v',sem F prim .dfr g (.pv none p::(fs++cs)) st2.hp=some (.ret r,hp')/\zaD ⟨st2.fr,hp'⟩ rs=some v'/\Am.frozen v v' hp'
def outK(F:FuncId->Option AFn)(prim:FuncId->Option zbi)(rs:List RSlot)(s:Nat)(v:AV)(st:St):AExit->St->Prop
 | .normal,st2=>outD F prim rs s v st .niliface st2
 | .ret,st2=>outD F prim rs s v st .niliface st2
 | .panic w,st2=>outD F prim rs s v st w st2
 | .exit _,_=>False
def dfrK(F:FuncId->Option AFn)(prim:FuncId->Option zbi)(rs:List RSlot)(s:Nat)(c2:ACode)(v:AV):AExit->St->Prop
 | .normal,st=>(st.fr.look s).isSome=true/\W (sem F prim) (sloop F prim) 0 c2 st (outK F prim rs s v st)
 | .ret,st=>endK rs (Am.frozen v) .ret st
 |_,_=>False
theorem zg8{F:FuncId->Option AFn}{prim:FuncId->Option zbi}{rs:List RSlot}{s:Nat}{c2:ACode}{v:AV}{st:St}:dfrK F prim rs s c2 v .normal st=((st.fr.look s).isSome=true/\W (sem F prim) (sloop F prim) 0 c2 st (outK F prim rs s v st)):=rfl
theorem zd0{F:FuncId->Option AFn}{prim:FuncId->Option zbi}{rs:List RSlot}{s:Nat}{c2:ACode}{v:AV}{st:St}:dfrK F prim rs s c2 v .ret st=endK rs (Am.frozen v) .ret st:=rfl
theorem zmz{F:FuncId->Option AFn}{prim:FuncId->Option zbi}{rs:List RSlot}{s:Nat}{v:AV}{st st2:St}:outK F prim rs s v st .ret st2=outD F prim rs s v st .niliface st2:=rfl
theorem zh1{F:FuncId->Option AFn}{prim:FuncId->Option zbi}{rs:List RSlot}{s:Nat}{v:AV}{st st2:St}{w:PV}:outK F prim rs s v st (.panic w) st2=outD F prim rs s v st w st2:=rfl
theorem zkq{F:FuncId->Option AFn}{prim:FuncId->Option zbi}{f:FuncId}{fn:AFn}{args:List AV}{ps:List (Sh × PV)}{hp:Heap}{v:AV}{s:Nat}{c2:ACode}(hp0:prim f=none)(hf:F f=some fn)(hm:fn.heapMode=false)(hz:zal args hp=some (ps,hp))(hn:(pvs ps).length=fn.nparams)(hmo:fn.more=[(.dfr s,c2)])
  (h:W (sem F prim) (sloop F prim) 0 fn.code ⟨params 0 (pvs ps),[]⟩ (dfrK F prim fn.results s c2 v))(hr:fn.rcv=none:=by rfl):sem F prim .fn f args hp=some (.ret v,hp):=by
 rw[zfU]
 unfold zbj
 rw[hp0,hf]
 have hl:([]:Heap).length=0:=rfl
 suffices hB:∃v' hp2,abody (sem F prim) (sloop F prim) fn (pvs ps) []=some (.ret v',hp2)/\Am.frozen v v' hp2 by
  obtain⟨v',hp2,h1,hp3,h2⟩:=hB
  simp only[hr,Option.isSome_none,hm,Bool.false_eq_true,if_false,hz,h1,h2]
  cases v.scalar <;> rfl
 unfold abody
 rw[if_neg (by simpa using hn),hmo]
 simp only[hl]
 unfold W at h
 split at h
 ·rename_i e st1 he
  cases e with
  |normal=>
   obtain⟨-,hW⟩:=h
   unfold W at hW
   split at hW
   ·rename_i e2 st2 he2
    have fin:∀p:Option PV,outD F prim fn.results s v st1 (p.getD .niliface) st2->∀e:AExit,(e=.normal\/e=.ret->p=none)->(∀w,e=.panic w->p=some w)->(∀i,e≠.exit i)->e=e2->∃v' hp2,aleave (sem F prim) fn (apieces (sem F prim) (sloop F prim) 0 [(.dfr s,c2)] fn.code ⟨params 0 (pvs ps),[]⟩ [])=some (.ret v',hp2)/\Am.frozen v v' hp2:=by
     rintro p ⟨g,fs,cs,k1,r,hp',v',k2,k3,k4⟩ e n1 n2 n3 rfl
     refine⟨v',hp',?_,k4⟩
     have k5:atop (sem F prim) (.dfr s) st1 []=some (.normal,st1,[.func (.func g) fs cs]):=by simp[atop,k1]
     have ka:apieces (sem F prim) (sloop F prim) 0 [(.dfr s,c2)] fn.code ⟨params 0 (pvs ps),[]⟩ []=some (e,st2,[.func (.func g) fs cs]):=by
      simp only[apieces,he,k5,he2]
     have ku:∀p':Option PV,p'=p->aunwind (sem F prim) [.func (.func g) fs cs] p' st2.hp=some (none,hp'):=by
      rintro p' rfl
      simp only[aunwind,za5,k2]
     rw[ka]
     cases e with
     |normal=>simp only[aleave,ku none (n1 (.inl rfl)).symm,aresult,k3]
     |ret=>simp only[aleave,ku none (n1 (.inr rfl)).symm,aresult,k3]
     |panic w=>simp only[aleave,ku (some w) (n2 w rfl).symm,aresult,k3]
     |exit i=>exact absurd rfl (n3 i)
    cases e2 with
    |normal=>exact fin none hW .normal (fun _=>rfl) (fun w e=>by cases e) (fun i e=>by cases e) rfl
    |ret=>exact fin none hW .ret (fun _=>rfl) (fun w e=>by cases e) (fun i e=>by cases e) rfl
    |panic w=>exact fin (some w) hW (.panic w) (fun e=>by rcases e with e|e <;> cases e) (fun w e=>by cases e;rfl) (fun i e=>by cases e) rfl
    |exit i=>exact hW.elim
   ·exact hW.elim
  |ret=>
   rw[zd0,zcQ] at h
   cases hr:zaD st1 fn.results with
   |none=>rw[hr] at h;exact h.elim
   |some u=>
    rw[hr] at h
    exact⟨u,st1.hp,by simp only[aleave,apieces,he,aunwind,aresult,hr],h⟩
  |exit i=>exact h.elim
  |panic v=>exact h.elim
 ·exact h.elim
def zuW(n:Nat)(H:Heap):AExit->St->Prop
 | .normal,st=>st.hp.take n=H
 | .ret,st=>st.hp.take n=H
 |_,_=>False
theorem zfX{n:Nat}{H:Heap}{st:St}:zuW n H .normal st=(st.hp.take n=H):=rfl
theorem zmA{F:FuncId->Option AFn}{prim:FuncId->Option zbi}{g:FuncId}{fn:AFn}{ws:List AV}{hp H:Heap}{s:Sh}{p:PV}{t:Nat}(hf:F g=some fn)(hr:fn.rcv=some t)(hmo:fn.more=[])(hn:ws.length=fn.nparams)
  (h:W (sem F prim) (sloop F prim) hp.length fn.code ⟨(t,.pv s p)::params 0 ws,hp⟩ (zuW hp.length H)):sem F prim .dfr g (.pv s p::ws) hp=some (.ret (.tuple []),H):=by
 rw[zts]
 unfold adefer
 simp only[hf,hr,hmo,hn,ne_eq,not_true_eq_false,if_false]
 unfold W at h
 split at h
 ·rename_i e st he
  rw[he]
  cases e with
  |normal=>rw[<-h]
  |ret=>rw[<-h]
  |exit i=>exact h.elim
  |panic v=>exact h.elim
 ·exact h.elim
theorem zt6(x0 x1 x3:AObj)(s:AV)(k:AV)(e:Heap):sem (find tab) prim .dfr 81 [.pv none .niliface,.ptr 2 0,.ptr 4 0] (x0::x1::.box none s::x3::.box none k::e)=some (.ret (.tuple []),x0::x1::.box none s::x3::.box none k::e):=by
 refine zmA (t:=5) rfl rfl rfl rfl ?_
 have has:zdn 89 (some 1) (.pv (some 1) (.agg [(none,.int .i64 0)])) true [.pv none .niliface]=some (.tuple [.pv (some 1) (.agg [(none,.int .i64 0)]),.pv none (.bool false)]):=rfl
 have hin:zgj true [.pv none .niliface]=some (.pv none (.bool false)):=rfl
 simp -dsimp -implicitDefEqProofs only[go_sem,seval,↓reduceIte,has,hin,zfX,List.append_assoc,zai,zae,zak,zaf,Nat.add_assoc,List.length_append]
 simp
theorem zsD(x0 x1 x3:AObj)(s:AV)(k y:Int)(e:Heap):sem (find tab) prim .dfr 81 [.pv none (zn3 y),.ptr 2 0,.ptr 4 0] (x0::x1::.box none s::x3::.box none (.pv none (.int .i64 k))::e)=some (.ret (.tuple []),x0::x1::.box none (.tsl (some 5) [])::x3::.box none (.pv none (.int .i64 y))::e):=by
 refine zmA (t:=5) rfl rfl rfl rfl ?_
 have has:zdn 89 (some 1) (.pv (some 1) (.agg [(none,.int .i64 0)])) true [.pv none (zn3 y)]=some (.tuple [.pv (some 1) (.agg [(none,.int .i64 y)]),.pv none (.bool true)]):=rfl
 have hst:∀E:Heap,zdo none (e.length+5) (x0::x1::.box none s::x3::.box none (.pv none (.int .i64 k))::E) [.ptr 2 0,.tsl (some 5) [],.ptr (e.length+5) 0]=some (.undef,x0::x1::.box none (.tsl (some 5) [])::x3::.box none (.pv none (.int .i64 k))::E):=fun E=>by
  have h1:¬e.length+5<=2:=by omega
  simp[zdo,astore,zi6,AV.plain,AV.shp,AV.refsIn,h1]
 simp -dsimp -implicitDefEqProofs only[go_sem,seval,↓reduceIte,has,hst,zfX,List.append_assoc,zai,zae,zak,zaf,Nat.add_assoc,List.length_append]
 simp
theorem zqQ(V:List Int)(l:List B)(a b:Tm)(hV:V.length<=500000)(hVb:InVB V l)(hVa:InV V a)(hVc:InV V b)(hl:l.length<=500000)(hsz:∀b∈l,b.2.size<1000000000)(ha:a.size<1000000000)(hb:b.size<1000000000)(hp:Heap):
  S 69 [.pv none (.sl (some 5) (bds l)),a.av,b.av] hp=some (.ret (.tuple [.pv none (.sl (some 5) (bds (unR l a b).1)),.pv none (.int .i64 (unR l a b).2)]),hp):=by
 refine zkq rfl rfl rfl (zad [(none,.sl (some 5) (bds l)),(some 4,a.pv),(some 4,b.pv)]) rfl rfl ?_
 have h1:=zhX l (by omega) hsz
 have h2:=fun hp=>za6 a hp ha
 have h3:=fun hp=>za6 b hp hb
 simp only[Tm.av] at h2 h3
 have hal:∀a0 a1:AObj,zcH none (.tsl (some 5) []) [a0,a1] []=some (.ptr 2 0,[a0,a1,.box none (.sl (some 5) 3 0 0 0),.arr (some 5) [] false]):=fun _ _=>rfl
 by_cases hg:okb l=true/\a.valid=true/\b.valid=true
 rotate_left
 ·have e:unR l a b=([],1):=by unfold unR;rw[if_neg hg]
  rw[e]
  have hst:∀(x0 x1 x3 x4:AObj),za3 none 0 [x0,x1,.box none (.sl (some 5) 3 0 0 0),x3,x4] [.ptr 2 0,.tsl (some 5) []]=some (.undef,[x0,x1,.box none (.sl (some 5) 5 0 0 0),x3,x4,.arr (some 5) [] false]):=fun _ _ _ _=>rfl
  cases hok:okb l with
  |false=>
   rw[hok] at h1
   simp -dsimp -implicitDefEqProofs only[go_sem,seval,↓reduceIte,Tm.av,hal,hst,h1,h2,h3,zd0,List.append_assoc,zai,zae,zak,zaf,Nat.add_assoc,List.length_append]
   exact⟨_,rfl⟩
  |true=>
   rw[hok] at h1
   by_cases va:a.valid=true
   ·have vb:b.valid=false:=by
     cases e:b.valid with
     |false=>rfl
     |true=>exact absurd ⟨hok,va,e⟩ hg
    simp -dsimp -implicitDefEqProofs only[go_sem,seval,↓reduceIte,Tm.av,hal,hst,h1,h2,h3,va,vb,zd0,List.append_assoc,zai,zae,zak,zaf,Nat.add_assoc,List.length_append]
    exact⟨_,rfl⟩
   ·have va':a.valid=false:=by simpa using va
    simp -dsimp -implicitDefEqProofs only[go_sem,seval,↓reduceIte,Tm.av,hal,hst,h1,h2,h3,va',zd0,List.append_assoc,zai,zae,zak,zaf,Nat.add_assoc,List.length_append]
    exact⟨_,rfl⟩
 ·have e:unR l a b=uni 1048576 l [(a,b)]:=by unfold unR;rw[if_pos hg]
  rw[e]
  obtain⟨hok,va,vb⟩:=hg
  have hO:=okb_iff.1 hok
  rw[hok] at h1
  obtain⟨H5,hH5⟩:∃H5:Heap,H5=[.box (some 4) (.pv (some 4) a.pv),.box (some 4) (.pv (some 4) b.pv),.box none (.sl (some 5) 3 0 0 0),.arr (some 5) [] false,.box none (.pv none (.int .i64 0))]:=⟨_,rfl⟩
  have hb5:Bq H5:=by
   rw[hH5]
   exact Bq.cons (zsB a) (Bq.cons (zsB b) (Bq.cons rfl (Bq.cons rfl (Bq.cons rfl Bq.nil))))
  have hcn:=zqP l hO.good (by omega) H5 hb5
  obtain⟨res,hp',hrun,hP⟩:=zt5 V l a b hO hV hVb hVa hVc va vb (H5++[.arr (some 5) [] false,.arr (some 5) [] false,.box (some 1) .undef]) (hb5.app (Bq.cons rfl (Bq.cons rfl (Bq.cons rfl Bq.nil)))) 7 6 (by rw[hH5];simp) (by rw[hH5];simp) (by decide)
  have hU:∀l,US (H5++[.arr (some 5) [] false,.arr (some 5) [] false,.box (some 1) .undef]) 7 6 l=[.box (some 4) (.pv (some 4) a.pv),.box (some 4) (.pv (some 4) b.pv),.box none (.sl (some 5) 3 0 0 0),.arr (some 5) [] false,.box none (.pv none (.int .i64 0)),.arr (some 5) [] false,.arr (some 5) (bds l) false,.box (some 1) (.agg [(none,.sl (some 5) 6 l.length 0 l.length)])]:=fun l=>by rw[hH5];rfl
  rw[hH5] at hcn
  rw[hU] at hrun
  simp only[Tm.av,List.cons_append,List.nil_append,List.length_cons,List.length_nil] at hrun hcn
  have hbu:za7 [(none,.tsl (some 5) [])] [0] [.sl (some 5) 6 l.length 0 l.length]=some (.agg [(none,.sl (some 5) 6 l.length 0 l.length)]):=rfl
  have hpan:∀A:Prop,panK true A=A:=fun _=>rfl
  rcases hP with⟨l',he,rfl,rfl⟩|⟨e,l',he,rfl,rfl⟩
  ·rw[hU] at hrun
   rw[he]
   simp -dsimp -implicitDefEqProofs only[go_sem,seval,↓reduceIte,Tm.av,hal,h1,h2,h3,va,vb,hcn,hbu,hrun,zaF,zcF,zbo (Nat.zero_le _),zaB,zd0,zg8,zmz,zh1,hpan,List.append_assoc,zai,zae,zak,zaf,Nat.add_assoc,List.length_append]
   refine⟨rfl,81,[],[.ptr 2 0,.ptr 4 0],rfl,_,_,_,zt6 _ _ _ _ _ _,rfl,?_⟩
   refine⟨[.box (some 4) (.pv (some 4) a.pv),.box (some 4) (.pv (some 4) b.pv),.box none (.sl (some 5) 6 l'.length 0 l'.length),.arr (some 5) [] false,.box none (.pv none (.int .i64 0)),.arr (some 5) [] false,.arr (some 5) (bds l') true,.box (some 1) (.agg [(none,.sl (some 5) 6 l'.length 0 l'.length)])],?_⟩
   simp[AV.freezeRes,zal,AV.freeze,deep,zaT,pvs,AV.shp]
  ·rw[hU] at hrun
   rw[he]
   simp -dsimp -implicitDefEqProofs only[go_sem,seval,↓reduceIte,Tm.av,hal,h1,h2,h3,va,vb,hcn,hbu,hrun,zaF,zcF,zbo (Nat.zero_le _),zaB,zd0,zg8,zmz,zh1,hpan,List.append_assoc,zai,zae,zak,zaf,Nat.add_assoc,List.length_append]
   refine⟨rfl,81,[],[.ptr 2 0,.ptr 4 0],rfl,_,_,_,zsD _ _ _ _ _ _ _,rfl,?_⟩
   exact⟨_,rfl⟩
def posF:Nat->List Int->List (Int × PV)
 |_,[]=>[]
 |k,x::r=>(x,.int .i64 (k:Int))::posF (k+1) r
theorem zmo:∀(l:List Int) (k:Nat),(posF k l).length=l.length
 |[],_=>rfl
 |x::r,k=>by rw[posF,List.length_cons,zmo r];rfl
theorem zgX(v:Int):∀(l:List Int) (k:Nat),zc2 v (posF k l)=if v∈l then some (.int .i64 ((k+l.idxOf v:Nat):Int)) else none
 |[],_=>rfl
 |x::r,k=>by
  rw[posF,zc2,zgX v r]
  by_cases h:x=v
  ·subst h
   simp
  ·have h':¬v=x:=fun e=>h e.symm
   simp only[if_neg h,List.mem_cons,h',false_or]
   rw[List.idxOf_cons]
   have hb:(x == v)=false:=by simpa using h
   rw[hb]
   simp only[cond_false]
   split
   ·congr 2
    omega
   ·rfl
theorem zmp(v:Int):∀(l:List Int) (k:Nat),v ∉ l->mPut v (.int .i64 ((k+l.length:Nat):Int)) (posF k l)=posF k (l++[v])
 |[],k,_=>rfl
 |x::r,k,h=>by
  have h':¬x=v:=fun e=>h (by rw[e];exact List.mem_cons_self)
  have ih:=zmp v r (k+1) fun hm=>h (List.mem_cons_of_mem _ hm)
  rw[posF,mPut,if_neg h',List.cons_append,posF,<-ih,List.length_cons]
  congr 4
  omega
theorem zqq{v:Int}:∀{l L:List Int},v∈l->l <+: L->L.idxOf v=l.idxOf v
 |[],_,h,_=>by cases h
 |x::r,L,h,hp=>by
  obtain⟨m,rfl⟩:=hp
  rw[List.cons_append,List.idxOf_cons,List.idxOf_cons]
  cases hb:x == v with
  |true=>rfl
  |false=>
   simp only[cond_false]
   have hx:¬x=v:=by simpa using hb
   have hm:v∈r:=(List.mem_cons.1 h).resolve_left fun e=>hx e.symm
   rw[zqq hm ⟨m,rfl⟩]
theorem zmq{v:Int}:∀{l:List Int},v ∉ l->(l++[v]).idxOf v=l.length
 |[],_=>by simp[List.idxOf_cons]
 |x::r,h=>by
  have h':¬x=v:=fun e=>h (by rw[e];exact List.mem_cons_self)
  rw[List.cons_append,List.idxOf_cons,beq_eq_false_iff_ne.2 h',List.length_cons]
  simp only[cond_false]
  rw[zmq fun hm=>h (List.mem_cons_of_mem _ hm)]
theorem zsm(l:List Int)(v:Int):l <+: vadd l v:=by
 unfold vadd
 split
 ·exact List.prefix_refl _
 ·exact List.prefix_append _ _
theorem zmr:∀(ws l:List Int),l <+: vads l ws
 |[],l=>List.prefix_refl _
 |w::r,l=>(zsm l w).trans (zmr r (vadd l w))
def cPos(L:List Int)(v:Int):Tm:=tvar (L.idxOf v:Int)
def canT(t:Tm):Tm:=Tm.sub (cPos (vads [] t.occ)) t
theorem zsn(l:List Int)(v:Int):v∈vadd l v:=by
 unfold vadd
 split
 ·assumption
 ·simp
theorem zly{L:List Int}{t:Tm}(hk:¬t.kind=0):Tm.sub (cPos L) t=.mk t.kind t.n t.name (t.args.map (Tm.sub (cPos L))):=by
 rw[Tm.zvS,if_neg hk]
def cagg(k:Int)(q:Nat):AV:=.agg [(none,.pv none (.int .i64 0)),(none,.pv none (.int .i64 k)),(none,.pv none (.str [])),(none,.sl (some 4) q 0 0 0)]
def gC(t:Tm)(l:List Int):Heap:=[.box (some 4) (.pv (some 4) t.pv),.box (some 4) (cagg 0 2),.arr (some 4) [] false,.map none (zaV (posF 0 l)),.box none (.map 3)]
theorem zuJ{m:List (Int × PV)}{hp:Heap}{r:Nat}{s:Sh}{v:Int}(h:hp[r]? =some (.map none (zaV m))):za9 false none (.pv none (.int .i64 0)) true hp [.map r,.pv s (.int .i64 v)]=some (match zc2 v m with|some x=>.tuple [.pv none x,.pv none (.bool true)]|none=>.tuple [.pv none (.int .i64 0),.pv none (.bool false)]):=by
 have hf:=zfy v m
 cases hm:zc2 v m with
 |none=>rw[hm] at hf;exact zeR h hf
 |some x=>rw[hm] at hf;exact zeQ h hf
theorem zgW{k:Int}{q:Nat}{H:Heap}(h:H[q]? =some (.arr (some 4) [] false)):AV.freeze deep (cagg k q) H=some ((tvar k).pv,H.set q (.arr (some 4) [] true)):=by
 have e:∀l hp,AV.freeze (7+1) (.agg l) hp=match AV.freeze.go 7 l hp with|some (ps,hp')=>some (.agg ps,hp')|none=>none:=fun _ _=>rfl
 show AV.freeze (7+1) (.agg _) _=_
 simp[e,AV.freeze.go,AV.freeze,h]
 rfl
theorem zsY(t:Tm)(l:List Int)(ext:Heap):(gC t l++ext).length=ext.length+5:=by simp[gC]
theorem gC_4(t:Tm)(l:List Int)(ext X:Heap):(gC t l++ext++X)[4]? =some (.box none (.map 3)):=rfl
theorem gC_3(t:Tm)(l:List Int)(ext X:Heap):(gC t l++ext++X)[3]? =some (.map none (zaV (posF 0 l))):=rfl
theorem zuK(t:Tm)(l l':List Int)(ext X:Heap):(gC t l++ext++X).set 3 (.map none (zaV (posF 0 l')))=gC t l'++ext++X:=rfl
theorem zqp(t0 u:Tm)(l:List Int)(ext:Heap)(hl:l.length<100000000)(n:Nat)(hn:n=ext.length+5):
  S 31 [u.av,.ptr 4 0] (gC t0 l++ext)=some (.ret (cagg ((vadd l u.n).idxOf u.n:Nat) (n+3)),gC t0 (vadd l u.n)++(ext++[.box (some 4) (.pv (some 4) u.pv),.box (some 4) (cagg ((vadd l u.n).idxOf u.n:Nat) (n+3)),.arr (some 4) [] false,.arr (some 4) [] false])):=by
 obtain⟨K,hK⟩:∃K:List Int->Heap,K=fun l=>gC t0 l++ext:=⟨_,rfl⟩
 have hKs:∀l,gC t0 l++ext=K l:=fun l=>by rw[hK]
 have hKl:∀l,(K l).length=n:=fun l=>by rw[<-hKs,zsY,hn]
 have hKa:∀l X,gC t0 l++(ext++X)=K l++X:=fun l X=>by rw[<-hKs,List.append_assoc]
 have hK4:∀l X,(K l++X)[4]? =some (.box none (.map 3)):=fun l X=>by rw[<-hKs];exact gC_4 t0 l ext X
 have hK3:∀l X,(K l++X)[3]? =some (.map none (zaV (posF 0 l))):=fun l X=>by rw[<-hKs];exact gC_3 t0 l ext X
 have hKS:∀l l' X,(K l++X).set 3 (.map none (zaV (posF 0 l')))=K l'++X:=fun l l' X=>by rw[<-hKs,<-hKs];exact zuK t0 l l' ext X
 have hle:∀k,n<=n+k:=fun k=>Nat.le_add_right _ _
 rw[hKa,hKs]
 unfold cagg
 refine zaI rfl rfl rfl rfl ?_
 rw[hKl]
 have hb:∀k:Int,za7 [(none,.pv none (.int .i64 0)),(none,.pv none (.int .i64 0)),(none,.pv none (.str [])),(none,.tsl (some 4) [])] [1] [.pv none (.int .i64 k)]=some (.agg [(none,.pv none (.int .i64 0)),(none,.pv none (.int .i64 k)),(none,.pv none (.str [])),(none,.tsl (some 4) [])]):=fun _=>rfl
 by_cases hm:u.n∈l
 ·have e:vadd l u.n=l:=by simp[vadd,hm]
  rw[e]
  have hlk:∀X:Heap,za9 false none (.pv none (.int .i64 0)) true (K l++X) [.map 3,.pv none (.int .i64 u.n)]=some (.tuple [.pv none (.int .i64 ((l.idxOf u.n:Nat):Int)),.pv none (.bool true)]):=fun X=>by
   rw[zuJ (m:=posF 0 l) (hK3 _ _),zgX,if_pos hm,Nat.zero_add]
  simp -dsimp -implicitDefEqProofs only[go_sem,seval,↓reduceIte,cagg,List.append_assoc,zai,zae,zak,zaf,Nat.add_assoc,List.length_append,Tm.av,zaN,hlk,hb,zaF,zaj (Nat.le_add_right _ _),hK4,hKl,getN (hKl _),zcD (hKl _),setN (hKl _),zd4 (hKl _)]
  rw[if_neg (by simp[AV.refsIn,AV.refsIn.go])]
 ·have e:vadd l u.n=l++[u.n]:=by simp[vadd,hm]
  rw[e,zmq hm]
  have hlk:∀X:Heap,za9 false none (.pv none (.int .i64 0)) true (K l++X) [.map 3,.pv none (.int .i64 u.n)]=some (.tuple [.pv none (.int .i64 0),.pv none (.bool false)]):=fun X=>by
   rw[zuJ (m:=posF 0 l) (hK3 _ _),zgX,if_neg hm]
  have hml:∀X:Heap,zh6 (K l++X) [.map 3]=some (.pv none (.int .i64 (l.length:Int))):=fun X=>by
   simp[zh6,hK3,zaV,zmo]
  have hms:∀X:Heap,zbX false none (K l++X) [.map 3,.pv none (.int .i64 u.n),.pv none (.int .i64 (l.length:Int))]=some (.undef,K (l++[u.n])++X):=fun X=>by
   have:=zmp u.n l 0 hm
   rw[Nat.zero_add] at this
   rw[zcE (es:=zaV (posF 0 l)) (hK3 _ _) (zc3 _ _ _),this,hKS]
  simp -dsimp -implicitDefEqProofs only[go_sem,seval,↓reduceIte,cagg,List.append_assoc,zai,zae,zak,zaf,Nat.add_assoc,List.length_append,Tm.av,zaN,hlk,hml,hms,hb,zaF,zaj (Nat.le_add_right _ _),hK4,hKl,getN (hKl _),zcD (hKl _),setN (hKl _),zd4 (hKl _)]
  rw[if_neg (by simp[AV.refsIn,AV.refsIn.go])]
def appC(n:Nat)(t:Tm)(ts:List Tm)(i:Nat):Heap:=[.box (some 4) (.pv (some 4) t.pv),.box (some 4) (.agg [(none,.pv none (.int .i64 0)),(none,.pv none (.int .i64 0)),(none,.pv none (.str [])),(none,.sl (some 4) (n+2) 0 0 0)]),.arr (some 4) [] false,.box (some 4) (.agg [(none,.pv none (.int .i64 t.kind)),(none,.pv none (.int .i64 t.n)),(none,.pv none (.str t.name)),(none,.sl (some 4) (n+5) i 0 i)]),.arr (some 4) [] false,.arr (some 4) (Tm.pvs (ts.take i)) false]
theorem zsl(a b:List Tm):Tm.occs (a++b)=Tm.occs a++Tm.occs b:=by
 induction a with
 |nil=>rfl
 |cons x r ih=>rw[List.cons_append,Tm.occs,Tm.occs,ih,List.append_assoc]
theorem zlx(t0:Tm):∀(t:Tm) (l L:List Int) (ext:Heap),t.fits=true->t.size<10000000->l.length+t.size<100000000->vads l t.occ <+: L->
  ∃v e,S 30 [t.av,.func (.func 31) [] [.ptr 4 0]] (gC t0 l++ext)=some (.ret v,gC t0 (vads l t.occ)++(ext++e))/\v.shp=some 4/\v.plain=true/\(∀H,v.own H=(v,H))/\
   (∃e2,AV.freeze deep v (gC t0 (vads l t.occ)++(ext++e))=some ((Tm.sub (cPos L) t).pv,gC t0 (vads l t.occ)++(ext++e2)))/\
   ∀H:Heap,(∀j,ext.length+5<=j->H[j]? =(gC t0 (vads l t.occ)++(ext++e))[j]?)->∃H2,AV.freeze deep v H=some ((Tm.sub (cPos L) t).pv,H2):=by
 intro t
 induction t using Tm.zvL with
 |h t ih=>
  intro l L ext hf ht hl hp
  have hts:=t.size_eq
  have hlen:=Tm.zvK t.args
  obtain⟨n,hn⟩:∃n,n=ext.length+5:=⟨_,rfl⟩
  have h1:=fun X=>zqp t0 t l (ext++X) (by omega)
  obtain⟨K,hK⟩:∃K:List Int->Heap,K=fun l=>gC t0 l++ext:=⟨_,rfl⟩
  have hKs:∀l,gC t0 l++ext=K l:=fun l=>by rw[hK]
  have hKl:∀l,(K l).length=n:=fun l=>by rw[<-hKs,zsY,hn]
  have hKa:∀l X,gC t0 l++(ext++X)=K l++X:=fun l X=>by rw[<-hKs,List.append_assoc]
  simp only[<-hn]
  simp only[List.append_assoc] at h1
  simp only[hKa] at h1
  simp only[hKa,hKs]
  rw[Tm.zvR] at hp ⊢
  by_cases hk:t.kind=0
  ·rw[if_pos hk] at hp ⊢
   have e1:vads l [t.n]=vadd l t.n:=rfl
   rw[e1] at hp ⊢
   have e2:Tm.sub (cPos L) t=tvar ((vadd l t.n).idxOf t.n:Nat):=by
    rw[Tm.zvS,if_pos hk]
    unfold cPos
    rw[zqq (zsn l t.n) hp]
   rw[e2]
   generalize (((vadd l t.n).idxOf t.n:Nat):Int)=k at*
   generalize vadd l t.n=l2 at*
   refine⟨cagg k (n+6),[.box (some 4) (.pv (some 4) t.pv),.box (some 4) (cagg k (n+6)),.arr (some 4) [] false,.box (some 4) (.pv (some 4) t.pv),.box (some 4) (cagg k (n+6)),.arr (some 4) [] false,.arr (some 4) [] false],?_,rfl,rfl,fun _=>rfl,?_,fun H hH=> ?_⟩
   ·unfold cagg
    refine zaI rfl rfl rfl rfl ?_
    have hk':=eq_true hk
    have h2:=h1 [.box (some 4) (.pv (some 4) t.pv),.box (some 4) (cagg 0 (n+2)),.arr (some 4) [] false] (n+3) (by rw[hn];simp)
    simp only[Tm.av,cagg,List.cons_append,List.nil_append] at h2
    rw[hKl]
    simp -dsimp -implicitDefEqProofs only[go_sem,seval,↓reduceIte,Tm.av,cagg,zam,hk',h2,zaF,List.append_assoc,zai,zae,zak,zaf,Nat.add_assoc,List.length_append,hKl,getN (hKl _),zcD (hKl _),setN (hKl _),zd4 (hKl _),zaj (Nat.le_add_right _ _)]
    rw[if_neg (by simp[AV.refsIn,AV.refsIn.go])]
   ·refine⟨[.box (some 4) (.pv (some 4) t.pv),.box (some 4) (cagg k (n+6)),.arr (some 4) [] false,.box (some 4) (.pv (some 4) t.pv),.box (some 4) (cagg k (n+6)),.arr (some 4) [] false,.arr (some 4) [] true],?_⟩
    rw[zgW (by rw[getN (hKl _)];rfl),setN (hKl _)]
    rfl
   ·exact⟨_,zgW (by rw[hH _ (by omega),getN (hKl _)];rfl)⟩
  ·rw[if_neg hk] at hp ⊢
   rw[zly hk]
   obtain⟨ts',hts'⟩:∃ts',ts'=t.args.map (Tm.sub (cPos L)):=⟨_,rfl⟩
   have htl:ts'.length=t.args.length:=by rw[hts',List.length_map]
   rw[<-hts']
   refine⟨.agg [(none,.pv none (.int .i64 t.kind)),(none,.pv none (.int .i64 t.n)),(none,.pv none (.str t.name)),(none,.sl (some 4) (n+5) t.args.length 0 t.args.length)],
    [.box (some 4) (.pv (some 4) t.pv),.box (some 4) (.agg [(none,.pv none (.int .i64 t.kind)),(none,.pv none (.int .i64 t.n)),(none,.pv none (.str t.name)),(none,.sl (some 4) (n+5) t.args.length 0 t.args.length)]),.arr (some 4) [] false,.box (some 4) (.agg [(none,.pv none (.int .i64 t.kind)),(none,.pv none (.int .i64 t.n)),(none,.pv none (.str t.name)),(none,.sl (some 4) (n+5) t.args.length 0 t.args.length)]),.arr (some 4) [] false,.arr (some 4) (Tm.pvs ts') false],?_,rfl,rfl,fun _=>rfl,?_,?_⟩
   ·refine zaI rfl rfl rfl rfl ?_
    have hk':=eq_false hk
    have hb:za7 [(none,.pv none (.int .i64 0)),(none,.pv none (.int .i64 0)),(none,.pv none (.str [])),(none,.tsl (some 4) [])] [0,1,2] [.pv none (.int .i64 t.kind),.pv none (.int .i64 t.n),.pv none (.str t.name)]=some (.agg [(none,.pv none (.int .i64 t.kind)),(none,.pv none (.int .i64 t.n)),(none,.pv none (.str t.name)),(none,.tsl (some 4) [])]):=rfl
    have hle:∀k,n<=n+k:=fun k=>Nat.le_add_right _ _
    rw[hKl]
    simp -dsimp -implicitDefEqProofs only[go_sem,seval,↓reduceIte,Tm.av,zam,zaN,zax,zag,hk',Tm.pvs_len,hb,zaj (Nat.le_add_right _ _),List.append_assoc,zai,zae,zak,zaf,Nat.add_assoc,List.length_append,hKl,getN (hKl _),zcD (hKl _),setN (hKl _),zd4 (hKl _)]
    refine zc0 (α:=Unit) t.args.length (fun _ _=>True) (fun i _=>⟨[(1,.func (.func 31) [] [.ptr 4 0]),(4,.ptr (n+1) 0),(5,.ptr (n+3) 0),(22,.pv none (.sl (some 4) (Tm.pvs t.args))),(23,.pv none (.int .i64 t.args.length)),(24,.pv none (.int .i64 i))],K (vads l (Tm.occs (t.args.take i)))++appC n t ts' i⟩) () ⟨trivial,?_⟩ ?_ ?_
    ·rw[List.take_zero]
     rfl
    ·rintro i - h -
     have hc:(i:Int)<(t.args.length:Int):=by omega
     obtain⟨u,hu⟩:∃u,t.args[i]? =some u:=⟨_,List.getElem?_eq_getElem h⟩
     have hum:=List.mem_of_getElem? hu
     have husz:=Tm.zvN hum
     have hst:=Tm.zvU hu
     have hle2:=Tm.zvP t.args (i+1)
     have hvl:=zi5 (Tm.occs (t.args.take i)) l
     have hol:=Tm.zv8 (t.args.take i)
     have hpre:vads (vads l (Tm.occs (t.args.take i))) u.occ <+: L:=by
      rw[<-zgh,<-Tm.zv4 hu]
      refine List.IsPrefix.trans ?_ hp
      have e:=List.take_append_drop (i+1) t.args
      rw[<-e,zsl,zgh,e]
      exact zmr _ _
     obtain⟨v,e,hcall,hvs,hvp,_,⟨e2,hfz⟩,_⟩:=ih u hum (vads l (Tm.occs (t.args.take i))) L (ext++(appC n t ts' i++[.box (some 4) (.pv (some 4) u.pv),.arr (some 4) [] false])) (Tm.zvM hf hum) (by omega) (by omega) hpre
     rw[<-zgh,<-Tm.zv4 hu] at hcall hfz
     simp only[List.append_assoc,hKa] at hcall hfz
     generalize vads l (Tm.occs (t.args.take (i+1)))=l2 at hcall hfz ⊢
     generalize vads l (Tm.occs (t.args.take i))=l1 at hcall hfz hvl ⊢
     have w2:IntKind.i64.wrap ((i:Int)+1)=((i+1:Nat):Int):=by rw[zao (by omega) (by omega)];omega
     have hl:(Tm.pvs (ts'.take i)).length=i:=by rw[Tm.pvs_len,List.length_take];omega
     have hlim:i+1<=lim:=by unfold lim;omega
     have hus:ts'[i]? =some (Tm.sub (cPos L) u):=by rw[hts'];simp[hu]
     have hbs:zbl (some 4) (K l2++(appC n t ts' i++([.box (some 4) (.pv (some 4) u.pv),.arr (some 4) [] false]++e))) [v]=some (.tsl (some 4) [(Tm.sub (cPos L) u).pv],K l2++(appC n t ts' i++([.box (some 4) (.pv (some 4) u.pv),.arr (some 4) [] false]++e2))):=by
      simp only[zbl,zal,hfz,hvs,za8,if_true]
     have hs1:∀(k k':List Int) (e e':Heap),zbB (K k++(appC n t ts' i++e)) (K k'++(appC n t ts' i++e')) (.ptr (n+3) 3)=true:=fun k k' e e'=>zgV (t:=t) (q:=n+5) (i:=i) (by rw[getN (hKl _)];rfl) (by rw[getN (hKl _)];rfl)
     simp only[Tm.av] at hcall
     simp only[appC,List.append_assoc,List.cons_append,List.nil_append] at hcall hbs hs1
     simp -dsimp -implicitDefEqProofs only[go_sem,seval,↓reduceIte,appC,hc,zac (Tm.pvs_get hu),zc1,List.take_succ_cons,List.drop_succ_cons,List.all_cons,List.all_nil,hcall,hbs,hs1,w2,hl,hlim,Tm.zvQ hus,zaj (Nat.le_add_right _ _),zbo (Nat.le_add_right _ _),List.append_assoc,zai,zae,zak,zaf,Nat.add_assoc,List.length_append,hKl,getN (hKl _),zcD (hKl _),setN (hKl _),zd4 (hKl _)]
     refine⟨(),?_⟩
     rw[zaZ 6 (hKl _) rfl (by simp[AObj.refs,AV.ofComps,pures,AV.refsIn,AV.refsIn.go]) (by simp[AV.refsIn,AV.refsIn.gol])]
     rfl
    ·rintro - -
     have hc:¬(t.args.length:Int)<(t.args.length:Int):=by omega
     have htk:ts'.take t.args.length=ts':=List.take_of_length_le (by omega)
     simp -dsimp -implicitDefEqProofs only[go_sem,seval,↓reduceIte,appC,hc,List.take_length,htk,zaF,zaj (Nat.le_add_right _ _),zbo (Nat.le_add_right _ _),List.append_assoc,zai,zae,zak,zaf,Nat.add_assoc,List.length_append,hKl,getN (hKl _),zcD (hKl _),setN (hKl _),zd4 (hKl _)]
     rw[if_neg (by simp[AV.refsIn,AV.refsIn.go])]
   ·have e:∀l hp,AV.freeze (7+1) (.agg l) hp=match AV.freeze.go 7 l hp with|some (ps,hp')=>some (.agg ps,hp')|none=>none:=fun _ _=>rfl
    refine⟨[.box (some 4) (.pv (some 4) t.pv),.box (some 4) (.agg [(none,.pv none (.int .i64 t.kind)),(none,.pv none (.int .i64 t.n)),(none,.pv none (.str t.name)),(none,.sl (some 4) (n+5) t.args.length 0 t.args.length)]),.arr (some 4) [] false,.box (some 4) (.agg [(none,.pv none (.int .i64 t.kind)),(none,.pv none (.int .i64 t.n)),(none,.pv none (.str t.name)),(none,.sl (some 4) (n+5) t.args.length 0 t.args.length)]),.arr (some 4) [] false,.arr (some 4) (Tm.pvs ts') true],?_⟩
    show AV.freeze (7+1) (.agg _) _=_
    simp[e,AV.freeze.go,AV.freeze,getN (hKl _),setN (hKl _),htl,Tm.pvs_len,Tm.pv]
   ·intro H hH
    have h5:=hH (n+5) (by omega)
    rw[getN (hKl _)] at h5
    have e:∀l hp,AV.freeze (7+1) (.agg l) hp=match AV.freeze.go 7 l hp with|some (ps,hp')=>some (.agg ps,hp')|none=>none:=fun _ _=>rfl
    refine⟨H.set (n+5) (.arr (some 4) (Tm.pvs ts') true),?_⟩
    show AV.freeze (7+1) (.agg _) _=_
    simp only[List.getElem?_cons_succ,List.getElem?_cons_zero] at h5
    simp[e,AV.freeze.go,AV.freeze,h5,htl,Tm.pvs_len,Tm.pv]
def canR(t:Tm):Tm:=if t.valid=true then canT t else zt
theorem zmn(t:Tm)(hp:Heap)(ht:t.size<1000000000):S 7 [t.av] hp=some (.ret (canR t).av,hp):=by
 refine zar rfl rfl rfl (zad [(some 4,t.pv)]) rfl ?_
 have h1:=fun hp=>za6 t hp ht
 unfold canR
 by_cases hv:t.valid=true
 ·rw[if_pos hv]
  have hsz:=valid_size hv
  obtain⟨v,e,h2,h3,h4,h5,_,h6⟩:=zlx t t [] (vads [] t.occ) [] (valid_fits hv) (by omega) (by simp;omega) (List.prefix_refl _)
  rw[hv] at h1
  simp only[Tm.av,gC,cagg,List.cons_append,List.nil_append] at h1 h2
  have hmk:∀(a0 a1 a2:AObj),za3 none 0 [a0,a1,a2,.map none [],.box none (.pv none .nilmap)] [.ptr 4 0,.map 3]=some (.undef,[a0,a1,a2,.map none [],.box none (.map 3)]):=fun _ _ _=>rfl
  have e0:zaV (posF 0 [])=[]:=rfl
  rw[e0] at h2
  have hst:∀(a0 a2 a3 a4:AObj),za3 (some 4) 0 (a0::.box (some 4) (.agg [(none,.pv none (.int .i64 0)),(none,.pv none (.int .i64 0)),(none,.pv none (.str [])),(none,.sl (some 4) 2 0 0 0)])::a2::a3::a4::e) [.ptr 1 0,v]=some (.undef,a0::.box (some 4) v::a2::a3::a4::e):=fun _ _ _ _=>by
   simp[za3,astore,h3,h4,h5]
  have hfr:∀(a0 a1 a2 a3 a4:AObj),Am.frozen (canT t).av v (a0::a1::a2::a3::a4::e):=fun a0 a1 a2 a3 a4=>by
   obtain⟨H2,k⟩:=h6 (a0::a1::a2::a3::a4::e) fun j hj=>by
    match j,hj with
    |j+5,_=>rfl
   exact zkf h3 h4 k
  simp -dsimp -implicitDefEqProofs only[go_sem,seval,↓reduceIte,Tm.av,h1,h2,hst,hmk,zaj (Nat.zero_le _)]
  exact hfr _ _ _ _ _
 ·rw[if_neg hv]
  have hv':t.valid=false:=by simpa using hv
  rw[hv'] at h1
  simp only[Tm.av] at h1
  simp -dsimp -implicitDefEqProofs only[go_sem,seval,↓reduceIte,Tm.av,h1,zaj (Nat.zero_le _),zt]
  exact⟨_,rfl⟩
def qd(t:Tm):Prop:=t.kind=3/\t.name=[94]/\t.args.length=2
instance (t:Tm):Decidable (qd t):=inferInstanceAs (Decidable (_/\_))
def arg0(t:Tm):Tm:=match t.args with
 |x::_=>x
 |_=>.mk 0 0 [] []
def arg1(t:Tm):Tm:=match t.args with
 |_::y::_=>y
 |_=>.mk 0 0 [] []
theorem args_two{t:Tm}(h:t.args.length=2):t.args=[arg0 t,arg1 t]:=by
 unfold arg0 arg1
 match e:t.args,h with
 |[x,y],_=>rfl
theorem zml{t:Tm}(h:t.args.length=2):t.args[0]? =some (arg0 t):=by rw[args_two h];rfl
theorem zmm{t:Tm}(h:t.args.length=2):t.args[1]? =some (arg1 t):=by rw[args_two h];rfl
theorem zsh{t:Tm}(h:t.args.length=2):arg0 t∈t.args:=List.mem_of_getElem? (zml h)
theorem zdZ{t:Tm}(h:t.args.length=2):arg1 t∈t.args:=List.mem_of_getElem? (zmm h)
def quants(t:Tm):List Tm:=if h:qd t then arg0 t::quants (arg1 t) else[]
termination_by t.size
decreasing_by exact Tm.zvN (zdZ h.2.2)
def hid(p g:Tm):List Int:=p.occ++Tm.occs (quants g)
def free(p g:Tm):List Int:=(vads [] g.occ).filter fun v=>decide (v ∉ hid p g)
def nilT:Tm:=.mk 2 0 [91,93] []
def zlw(x y:Tm):Tm:=.mk 3 0 [46] [x,y]
def lst:List Tm->Tm
 |[]=>nilT
 |x::r=>zlw x (lst r)
theorem ia0{es:List PV}{p:PV}(h:es[0]? =some p):zbJ (some 4) [.pv none (.sl (some 4) es),.pv none (.int .i64 0)]=some (.iptr (some 4) p 0):=zaM h
theorem ia1{es:List PV}{p:PV}(h:es[1]? =some p):zbJ (some 4) [.pv none (.sl (some 4) es),.pv none (.int .i64 1)]=some (.iptr (some 4) p 0):=by
 simp[zbJ,aindex,h]
def zg(q:Nat):AV:=.agg [(none,.pv none (.int .i64 0)),(none,.pv none (.int .i64 0)),(none,.pv none (.str [])),(none,.sl (some 4) q 0 0 0)]
def lh(l:List Tm):Nat->Heap
 |0=>[.box (some 4) (zg 1),.arr (some 4) [] false,.box (some 4) (.agg [(none,.pv none (.int .i64 2)),(none,.pv none (.int .i64 0)),(none,.pv none (.str [91,93])),(none,.sl (some 4) 4 0 0 0)]),.arr (some 4) [] false,.arr (some 4) [] false]
 |i+1=>[.box (some 4) (zg 1),.arr (some 4) [] false,.box (some 4) (.pv (some 4) (lst (l.drop (l.length - (i+1)))).pv),.arr (some 4) [] false,.arr (some 4) [] true]
theorem znZ(x y:Tm)(hp:Heap):S 27 [.pv none (.str [46]),.tsl (some 4) [x.pv,y.pv]] hp=some (.ret (zlw x y).av,hp):=by
 refine zar (ps:=[(none,.str [46]),(none,.sl (some 4) [x.pv,y.pv])]) rfl rfl rfl rfl rfl ?_
 have hb:za7 [(none,.pv none (.int .i64 0)),(none,.pv none (.int .i64 0)),(none,.pv none (.str [])),(none,.tsl (some 4) [])] [0,2,3] [.pv none (.int .i64 3),.pv none (.str [46]),.pv none (.sl (some 4) [x.pv,y.pv])]=some (.pv (some 4) (zlw x y).pv):=rfl
 simp -dsimp -implicitDefEqProofs only[go_sem,seval,↓reduceIte,hb]
 try rfl
theorem zsy(l:List Tm)(hl:l.length<1000000000)(hp:Heap):S 28 [.pv none (.sl (some 4) (Tm.pvs l))] hp=some (.ret (lst l).av,hp):=by
 refine zar rfl rfl rfl (zad [(none,.sl (some 4) (Tm.pvs l))]) rfl ?_
 have hb:za7 [(none,.pv none (.int .i64 0)),(none,.pv none (.int .i64 0)),(none,.pv none (.str [])),(none,.tsl (some 4) [])] [0,2] [.pv none (.int .i64 2),.pv none (.str [91,93])]=some (.agg [(none,.pv none (.int .i64 2)),(none,.pv none (.int .i64 0)),(none,.pv none (.str [91,93])),(none,.tsl (some 4) [])]):=rfl
 have hw:IntKind.i64.wrap ((l.length:Int) - 1)=(l.length:Int) - 1:=zao (by omega) (by omega)
 simp -dsimp -implicitDefEqProofs only[go_sem,seval,↓reduceIte,hb,hw,Tm.pvs_len,zaj (Nat.zero_le _)]
 refine zc0 (α:=Unit) l.length (fun _ _=>True) (fun i _=>⟨[(0,.pv none (.sl (some 4) (Tm.pvs l))),(2,.ptr 0 0),(3,.ptr 2 0),(4,.pv none (.int .i64 ((l.length:Int) - 1 - (i:Int))))],lh l i⟩) () ⟨trivial,?_⟩ ?_ ?_
 ·rw[show(l.length:Int) - 1 - ((0:Nat):Int)=(l.length:Int) - 1 by omega]
  rfl
 ·rintro i - h -
  obtain⟨j,hj⟩:∃j,j=l.length - 1 - i:=⟨_,rfl⟩
  have ej:(l.length:Int) - 1 - (i:Int)=(j:Int):=by omega
  have hc:(0:Int)<=(j:Int):=by omega
  obtain⟨u,hu⟩:∃u,l[j]? =some u:=⟨_,List.getElem?_eq_getElem (by omega)⟩
  have hdr:l.drop (l.length - (i+1))=u::l.drop (l.length - i):=by
   obtain⟨q1,e1⟩:=List.getElem?_eq_some_iff.1 hu
   have ea:l.length - (i+1)=j:=by omega
   have eb:l.length - i=j+1:=by omega
   rw[ea,eb,List.drop_eq_getElem_cons (by omega),e1]
  have w5:IntKind.i64.wrap ((j:Int) - 1)=(l.length:Int) - 1 - ((i+1:Nat):Int):=by rw[zao (by omega) (by omega)];omega
  have hst:=fun hp=>znZ u (lst (l.drop (l.length - i))) hp
  simp only[Tm.av] at hst
  cases i with
  |zero=>
   have ej0:(l.length:Int) - 1 - 0=(j:Int):=by omega
   have hd0:l.drop (l.length - 0)=[]:=by rw[Nat.sub_zero,List.drop_length]
   rw[hd0] at hst hdr
   have hbs:∀a0 a1 a3:AObj,zbl (some 4) [a0,a1,.box (some 4) (.agg [(none,.pv none (.int .i64 2)),(none,.pv none (.int .i64 0)),(none,.pv none (.str [91,93])),(none,.sl (some 4) 4 0 0 0)]),a3,.arr (some 4) [] false] [.pv (some 4) u.pv,.agg [(none,.pv none (.int .i64 2)),(none,.pv none (.int .i64 0)),(none,.pv none (.str [91,93])),(none,.sl (some 4) 4 0 0 0)]]=some (.tsl (some 4) [u.pv,(lst []).pv],[a0,a1,.box (some 4) (.agg [(none,.pv none (.int .i64 2)),(none,.pv none (.int .i64 0)),(none,.pv none (.str [91,93])),(none,.sl (some 4) 4 0 0 0)]),a3,.arr (some 4) [] true]):=fun _ _ _=>rfl
   simp -dsimp -implicitDefEqProofs only[ej0,lh,go_sem,seval,↓reduceIte,hc,w5,zac (Tm.pvs_get hu),hst,hbs,zaj (Nat.zero_le _)]
   rw[hdr]
   exact⟨(),rfl⟩
  |succ i=>
   simp -dsimp -implicitDefEqProofs only[ej,lh,go_sem,seval,↓reduceIte,hc,w5,zac (Tm.pvs_get hu),hst,zaj (Nat.zero_le _)]
   rw[hdr]
   exact⟨(),rfl⟩
 ·rintro - -
  have hc:¬(0:Int)<=(l.length:Int) - 1 - (l.length:Int):=by omega
  cases hn:l.length with
  |zero=>
   rw[hn] at hc
   have:l=[]:=List.eq_nil_of_length_eq_zero hn
   subst this
   simp -dsimp -implicitDefEqProofs only[go_sem,seval,↓reduceIte,lh,hc,zaF,zaj (Nat.zero_le _)]
   exact⟨_,rfl⟩
  |succ n=>
   rw[hn] at hc
   have e:l.drop (l.length - (n+1))=l:=by rw[hn,Nat.sub_self,List.drop_zero]
   simp -dsimp -implicitDefEqProofs only[go_sem,seval,↓reduceIte,lh,hc,e,zaj (Nat.zero_le _)]
   try rfl
end Go.Proofs.Ytffecaafklpmhaa
