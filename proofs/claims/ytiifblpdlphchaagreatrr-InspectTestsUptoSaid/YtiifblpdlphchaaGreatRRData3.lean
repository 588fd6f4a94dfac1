/- What is proved: the program's between. -/
import Derived.Test.YtiifblpdlphchaaGreatRRGk
import Derived.Test.YtiifblpdlphchaaGreatRRMap
import Derived.Test.YtiifblpdlphchaaGreatRRAm4
import Derived.Test.YtiifblpdlphchaaGreatRRAm5
set_option linter.unusedSimpArgs false
set_option linter.unusedVariables false
namespace Go.Proofs.YtiifblpdlphchaaGreatRR
open Go.Am
def sucL(b:Bool)(g:Tm):List Tm:=if b=true then[g] else[]
theorem zlL(g:Tm)(k:Nat)(b:Bool)(hp:Heap)(r:Nat)(hr:hp[r]? =some (.box (some 5) (.pv (some 5) (runV g k)))):
  S 96 [.ptr r 0,.pv none (.bool b)] hp=some (.ret (.sl (some 4) (hp.length+1) (sucL b g).length 0 (sucL b g).length),hp++[.arr (some 4) [] false,.arr (some 4) (Tm.pvs (sucL b g)) false]):=by
 refine zbc rfl rfl rfl rfl ?_
 have hlt:=zcg hr
 have hr':∀X,(hp++X)[r]? =some (.box (some 5) (.pv (some 5) (runV g k))):=fun X=>by rw[zfG hlt,hr]
 have hbs:∀H:Heap,zhu (some 4) H [.pv (some 4) g.pv]=some (.sl (some 4) H.length 1 0 1,H++[.arr (some 4) [g.pv] false]):=fun H=>by
  simp[zhu,zai,AV.freeze,deep,zaM,AV.shp,zb3]
 cases b
 ·simp -dsimp -implicitDefEqProofs only[go_sem,seval,↓reduceIte,hr,hr',hbs,ziJ,zcl,zck (sh:=some 4) (by decide),List.append_assoc,zas,zao,zaw,zap,Nat.add_assoc,List.length_append]
  exact⟨rfl,by rw[if_neg (by simp[AV.refsIn])];rfl⟩
 ·simp -dsimp -implicitDefEqProofs only[go_sem,seval,↓reduceIte,hr,hr',hbs,ziJ,zcl,zck (sh:=some 4) (by decide),List.append_assoc,zas,zao,zaw,zap,Nat.add_assoc,List.length_append]
  exact⟨rfl,by rw[if_neg (by simp[AV.refsIn])];rfl⟩

def rows1:List (PV × PV):=[(.str (names1.getD 0 []),.func (.func 71)),(.str (names1.getD 1 []),.func (.func 72)),(.str (names1.getD 2 []),.func (.func 73)),(.str (names1.getD 3 []),.func (.func 74)),(.str (names1.getD 4 []),.func (.func 75)),(.str (names1.getD 5 []),.func (.func 47)),(.str (names1.getD 6 []),.func (.func 76)),(.str (names1.getD 7 []),.func (.func 77)),(.str (names1.getD 8 []),.func (.func 78))]
def zrQ:List (PV × PV):=[(.str (names2a.getD 0 []),.func (.func 79)),(.str (names2a.getD 1 []),.func (.func 80)),(.str (names2a.getD 2 []),.func (.func 81)),(.str (names2a.getD 3 []),.func (.func 82)),(.str (names2a.getD 4 []),.func (.func 83)),(.str (names2a.getD 5 []),.func (.func 84))]
theorem zpE(hp:Heap):S 39 [] hp=some (.ret (.map hp.length),hp++[.map none rows1]):=by
 refine zbc rfl rfl rfl rfl ?_
 have hms:∀(es es':List (PV × PV)) (k v:PV),aput true k v es=some es'->zbV true none (hp++[.map none es]) [.map hp.length,.pv none k,.pv none v]=some (.undef,hp++[.map none es']):=fun es es' k v h=>by
  rw[zds (es:=es) (by rw[zeo rfl];rfl) h,zep rfl]
  rfl
 have m0:=hms ([]) (rows1.take 1) (.str [118,97,114]) (.func (.func 71)) rfl
 have m1:=hms (rows1.take 1) (rows1.take 2) (.str [110,111,110,118,97,114]) (.func (.func 72)) rfl
 have m2:=hms (rows1.take 2) (rows1.take 3) (.str [97,116,111,109]) (.func (.func 73)) rfl
 have m3:=hms (rows1.take 3) (rows1.take 4) (.str [105,110,116,101,103,101,114]) (.func (.func 74)) rfl
 have m4:=hms (rows1.take 4) (rows1.take 5) (.str [97,116,111,109,105,99]) (.func (.func 75)) rfl
 have m5:=hms (rows1.take 5) (rows1.take 6) (.str [99,111,109,112,111,117,110,100]) (.func (.func 47)) rfl
 have m6:=hms (rows1.take 6) (rows1.take 7) (.str [99,97,108,108,97,98,108,101]) (.func (.func 76)) rfl
 have m7:=hms (rows1.take 7) (rows1.take 8) (.str [105,115,95,108,105,115,116]) (.func (.func 77)) rfl
 have m8:=hms (rows1.take 8) (rows1.take 9) (.str [103,114,111,117,110,100]) (.func (.func 78)) rfl
 simp -dsimp -implicitDefEqProofs only[go_sem,seval,↓reduceIte,m0,m1,m2,m3,m4,m5,m6,m7,m8,List.append_assoc,zas,zao,zaw,zap,Nat.add_assoc,List.length_append]
 rw[if_neg (by simp[AV.refsIn])]
 rfl
theorem zqa(s:Sh)(l:List (PV × PV))(h:PV.beqm l l=true):AObj.beq (.map s l) (.map s l)=true:=by simp[AObj.beq,h]
theorem zpC(s:Sh):AObj.beq (.map s rows1) (.map s rows1)=true:=zqa s _ (by decide+kernel)
theorem zpD(s:Sh):AObj.beq (.map s zrQ) (.map s zrQ)=true:=zqa s _ (by decide+kernel)
theorem zqY(s:Sh)(l:List Tm):AObj.beq (.arr s (Tm.pvs l) false) (.arr s (Tm.pvs l) false)=true:=zq2 s l false
theorem zrN(H:Heap):zai [zagC,zagC] H=some ([(some 4,zt.pv),(some 4,zt.pv)],H):=rfl
theorem zrO{hp:Heap}{y0 y1:AObj}{l:List Tm}{n:Nat}(hn:l.length=n)(hl:n<=100):zaK (some 4) (hp++[y0,y1,.arr (some 4) (Tm.pvs l) false]) [.sl (some 4) (hp.length+2) n 0 n,.tsl (some 4) [zt.pv,zt.pv]]=some (.sl (some 4) (hp.length+2) (n+2) 0 (n+2),hp++[y0,y1,.arr (some 4) (Tm.pvs (l++[zt,zt])) false]):=by
 have hlim:n+2<=lim:=by unfold lim;omega
 have e:Tm.pvs (l++[zt,zt])=Tm.pvs l++[zt.pv,zt.pv]:=by rw[Tm.zsH];rfl
 rw[e]
 simp[zaK,aappend,elems,getN rfl,setN rfl,Tm.pvs_len,hn,hlim]
theorem zsr{hp Z:Heap}{y0 y1:AObj}{l:List Tm}{z:Bool}{n i:Nat}{t:Tm}(hn:l.length=n)(ht:l[i]? =some t):aload (some 4) (hp++y0::y1::.arr (some 4) (Tm.pvs l) z::Z) (.eptr (some 4) (hp.length+2) n i 0)=some (.pv (some 4) t.pv):=by
 simp[aload,getN rfl,Tm.pvs_len,hn,Tm.pvs_get ht]
theorem zrP{H:Heap}{q n:Nat}{ts:List Tm}{z:Bool}(hn:ts.length=n)(h:H[q]? =some (.arr (some 4) (Tm.pvs ts) z)):IsT (.sl (some 4) q n 0 n) H ts where
 len:=by rw[zkh,hn]
 idx:=fun i u hu=>by
  have hi:=(List.getElem?_eq_some_iff.1 hu).1
  refine⟨.eptr (some 4) q n (0+i) 0,fun s k=>zgt (by omega),?_⟩
  simp[aload,h,Tm.pvs_len,hn,Tm.pvs_get hu]
theorem zss(g:Tm):Bq (hE g):=by
 have h1:=zrS g
 refine Bq.cons h1 (Bq.cons rfl (Bq.cons rfl (Bq.cons rfl (Bq.cons rfl (Bq.cons rfl (Bq.cons ?_ Bq.nil))))))
 simp[AObj.beq,AV.beq,PV.beq,PV.beqc,runV,zhs]
theorem zqZ(g:Tm)(hp:Heap)(hv:g.valid=true)(hc:canT g=g)(hk:g.kind=3)(hn:g.name∈zb5 g.args.length)(ts:List Tm)(e:Int)(q:Nat)(X:Heap)(z:Bool)
  (he:S 50 [.ptr 6 0] (hE g)=some (.ret (.tuple [.sl (some 4) q ts.length 0 ts.length,.pv none (.int .i64 e)]),hE g++X))(hq:7<=q)(hX:X[q - 7]? =some (.arr (some 4) (Tm.pvs ts) z))(hlt:ts.length<100000000)(hts:∀t∈ts,t.size<1000000):
  S 20 [g.av] hp=some (.ret (.tuple [.pv none (.sl (some 4) (Tm.pvs (zeW ts e).1)),zt.av,.pv none (.int .i64 (zeW ts e).2)]),hp):=by
 refine zpp g hp hv hc hk hn ts e _ (.box (some 5) (.pv (some 5) (runV g (vads [] g.occ).length))) X he (fun H hH=>zrP (z:=z) rfl (hH q _ (by omega) ?_)) hlt hts
 obtain⟨j,rfl⟩:∃j,q=j+7:=⟨q - 7,by omega⟩
 exact hX
def qd(t:Tm):Prop:=t.kind=3/\t.name=[94]/\t.args.length=2
instance (t:Tm):Decidable (qd t):=inferInstanceAs (Decidable (_/\_))
def arg0(t:Tm):Tm:=match t.args with
 |x::_=>x
 |_=>.mk 0 0 [] []
def arg1(t:Tm):Tm:=match t.args with
 |_::y::_=>y
 |_=>.mk 0 0 [] []
theorem args_two{t:Tm}(h:t.args.length=2):t.args=[arg0 t,arg1 t]:=by
 unfold arg0 arg1
 match e:t.args,h with
 |[x,y],_=>rfl
theorem zhm{t:Tm}(h:t.args.length=2):t.args[0]? =some (arg0 t):=by rw[args_two h];rfl
theorem zhn{t:Tm}(h:t.args.length=2):t.args[1]? =some (arg1 t):=by rw[args_two h];rfl
theorem zkp{t:Tm}(h:t.args.length=2):arg0 t∈t.args:=List.mem_of_getElem? (zhm h)
theorem zbQ{t:Tm}(h:t.args.length=2):arg1 t∈t.args:=List.mem_of_getElem? (zhn h)
def quants(t:Tm):List Tm:=if h:qd t then arg0 t::quants (arg1 t) else[]
termination_by t.size
decreasing_by exact Tm.zsz (zbQ h.2.2)
def hid(p g:Tm):List Int:=p.occ++Tm.occs (quants g)
def free(p g:Tm):List Int:=(vads [] g.occ).filter fun v=>decide (v ∉ hid p g)
def nilT:Tm:=.mk 2 0 [91,93] []
theorem ia0{es:List PV}{p:PV}(h:es[0]? =some p):zbn (some 4) [.pv none (.sl (some 4) es),.pv none (.int .i64 0)]=some (.iptr (some 4) p 0):=zfH h
theorem ia1{es:List PV}{p:PV}(h:es[1]? =some p):zbn (some 4) [.pv none (.sl (some 4) es),.pv none (.int .i64 1)]=some (.iptr (some 4) p 0):=by
 simp[zbn,aindex,h]
def zg(q:Nat):AV:=.agg [(none,.pv none (.int .i64 0)),(none,.pv none (.int .i64 0)),(none,.pv none (.str [])),(none,.sl (some 4) q 0 0 0)]
def cs(t:Tm):Prop:=t.kind=3/\t.name=[46]/\t.args.length=2
instance (t:Tm):Decidable (cs t):=inferInstanceAs (Decidable (_/\_))
def tl(t:Tm):Tm:=if h:cs t then tl (arg1 t) else t
termination_by t.size
decreasing_by exact Tm.zsz (zbQ h.2.2)
def els(t:Tm):List Tm:=if h:cs t then arg0 t::els (arg1 t) else[]
termination_by t.size
decreasing_by exact Tm.zsz (zbQ h.2.2)
theorem tl_c{t:Tm}(h:cs t):tl t=tl (arg1 t):=by rw[tl,dif_pos h]
theorem tl_n{t:Tm}(h:¬cs t):tl t=t:=by rw[tl,dif_neg h]
theorem zqW{t:Tm}(h:cs t):els t=arg0 t::els (arg1 t):=by rw[els,dif_pos h]
theorem zqX{t:Tm}(h:¬cs t):els t=[]:=by rw[els,dif_neg h]
theorem znT:∀(n:Nat) (t:Tm),t.size=n->(els t).length<=t.size:=by
 intro n
 induction n using Nat.strongRecOn with
 |_ n ih=>
  intro t hn
  by_cases h:cs t
  ·have h3:=Tm.zsz (zbQ h.2.2)
   have:=ih _ (by omega) (arg1 t) rfl
   rw[zqW h,List.length_cons];omega
  ·rw[zqX h];exact Nat.zero_le _
theorem zet{l:List Tm}{t:Tm}{a0 a1 a2 a3:AObj}:Am.frozen (.tuple [.pv none (.sl (some 4) (Tm.pvs l)),.pv (some 4) t.pv]) (.tuple [.sl (some 4) 4 l.length 0 l.length,.pv (some 4) t.pv]) [a0,a1,a2,a3,.arr (some 4) (Tm.pvs l) false]:=by
 refine⟨[a0,a1,a2,a3,.arr (some 4) (Tm.pvs l) true],?_⟩
 have e2:∀p hp,AV.freeze deep (.pv (some 4) p) hp=some (p,hp):=fun _ _=>rfl
 simp[AV.freezeRes,zai,e2,AV.freeze,deep,Tm.pvs_len,pvs,AV.shp]
theorem znU(t:Tm)(hv:t.valid=true)(hp:Heap):S 116 [t.av] hp=some (.ret (.tuple [.pv none (.sl (some 4) (Tm.pvs (els t))),(tl t).av]),hp):=by
 refine zah rfl rfl rfl (zab [(some 4,t.pv)]) rfl ?_
 have hz:=valid_size hv
 have hlen:=znT _ t rfl
 have h1:=fun hp=>zbA t hp (by omega)
 have hn0:∀H:Heap,zbK (some 4) H=some (.sl (some 4) H.length 0 0 0,H++[.arr (some 4) [] false]):=fun H=>zck (sh:=some 4) (by decide)
 simp only[Tm.av] at h1
 simp -dsimp -implicitDefEqProofs only[go_sem,seval,↓reduceIte,Tm.av,h1,hv,hn0]
 refine zeR (fun n st=>∃(t1:Tm) (d:List Tm),n=t1.size/\t1.valid=true/\d++els t1=els t/\tl t1=tl t/\st=⟨[(1,.ptr 0 0),(3,.ptr 2 0),(4,.sl (some 4) 4 d.length 0 d.length)],[.box (some 4) (.pv (some 4) t1.pv),.arr (some 4) [] false,.box (some 4) (zg 3),.arr (some 4) [] false,.arr (some 4) (Tm.pvs d) false]⟩) (n:=t.size) ⟨t,[],rfl,hv,rfl,rfl,rfl⟩ ?_
 rintro n st ⟨t1,d,rfl,hv1,he,ht,rfl⟩
 have hdl:=congrArg List.length he
 rw[List.length_append] at hdl
 by_cases h:cs t1
 ·have hlt:=Tm.zsz (zbQ h.2.2)
  have v0:=zct hv1 (zkp h.2.2)
  have v1:=zct hv1 (zbQ h.2.2)
  have hcp:=fun hp=>zdd (arg0 t1) hp v0 (fit9 v0)
  have hlim:d.length+1<=lim:=by unfold lim;omega
  have hpl:=Tm.pvs_len d
  have k1:=eq_true h.1
  have k2:=eq_true h.2.1
  have k3:=eq_true (show(t1.args.length:Int)=2 by have:=h.2.2;omega)
  rw[zqW h] at he
  simp only[Tm.av] at hcp
  simp -dsimp -implicitDefEqProofs only[go_sem,seval,↓reduceIte,zg,zaj,zal,zad,Tm.pvs_len,k1,k2,k3,hcp,ia0 (Tm.pvs_get (zhm h.2.2)),ia1 (Tm.pvs_get (zhn h.2.2)),hpl,hlim]
  refine⟨_,hlt,arg1 t1,d++[arg0 t1],rfl,v1,by rw[<-he,List.append_assoc];rfl,by rw[<-ht,tl_c h],?_⟩
  rw[Tm.zsH,List.length_append]
  rfl
 ·have hcp:=fun hp=>zdd t1 hp hv1 (fit9 hv1)
  rw[zqX h,List.append_nil] at he
  rw[tl_n h] at ht
  simp only[Tm.av] at hcp
  rw[<-he,<-ht]
  by_cases k1:t1.kind=3
  ·have k1':=eq_true k1
   by_cases k2:t1.name=[46]
   ·have k2':=eq_true k2
    have k3':=eq_false (show ¬(t1.args.length:Int)=2 by
     intro e
     exact h ⟨k1,k2,by omega⟩)
    simp -dsimp -implicitDefEqProofs only[go_sem,seval,↓reduceIte,zg,zaj,zal,zad,Tm.pvs_len,k1',k2',k3',hcp]
    exact zet
   ·have k2':=eq_false k2
    simp -dsimp -implicitDefEqProofs only[go_sem,seval,↓reduceIte,zg,zaj,zal,zad,Tm.pvs_len,k1',k2',hcp]
    exact zet
  ·have k1':=eq_false k1
   simp -dsimp -implicitDefEqProofs only[go_sem,seval,↓reduceIte,zg,zaj,zal,zad,Tm.pvs_len,k1',hcp]
   exact zet
def ll(t:Tm):Prop:=(tl t).kind=0\/((tl t).kind=2/\(tl t).name=[91,93])
instance (t:Tm):Decidable (ll t):=inferInstanceAs (Decidable (_\/_))
def mx(x y:Int):Int:=if x<y then y else x
def zaP(nm:List UInt8):Tm:=.mk 2 0 nm []
def strT(nm:List UInt8)(l:List Tm):Tm:=.mk 3 0 nm l
theorem zdv{nm:List UInt8}(h:nm.length<=100):(zaP nm).valid=true:=by
 have:(nm.length:Int)<=100:=by omega
 refine zht ?_ (by have:(zaP nm).size=1:=rfl;omega)
 simp[zaP,Tm.fits,Tm.fitsAll,Tm.node,Tm.kind,Tm.n,Tm.name,Tm.args,this]
theorem ziE{nm:List UInt8}{l:List Tm}(h:nm.length<=100)(h1:0<l.length)(h2:l.length<=8)(hl:Tm.fitsAll l=true):(strT nm l).fits=true:=by
 have a:(nm.length:Int)<=100:=by omega
 have b:0<(l.length:Int):=by omega
 have c:(l.length:Int)<=8:=by omega
 simp[strT,Tm.fits,Tm.node,Tm.kind,Tm.n,Tm.name,Tm.args,a,b,c,h1,hl]
theorem zd2(nm:List UInt8)(h:nm.length<=100)(hp:Heap):S 137 [.pv none (.str nm)] hp=some (.ret (zaP nm).av,hp):=by
 refine zah rfl rfl rfl (zab [(none,.str nm)]) rfl ?_
 have hv:=zdv h
 have hb:zbd [(none,.pv none (.int .i64 0)),(none,.pv none (.int .i64 0)),(none,.pv none (.str [])),(none,.tsl (some 4) [])] [0,2] [.pv none (.int .i64 2),.pv none (.str nm)]=some (.agg [(none,.pv none (.int .i64 2)),(none,.pv none (.int .i64 0)),(none,.pv none (.str nm)),(none,.tsl (some 4) [])]):=rfl
 have hcl:∀H:Heap,S 51 [.agg [(none,.pv none (.int .i64 2)),(none,.pv none (.int .i64 0)),(none,.pv none (.str nm)),(none,.tsl (some 4) [])]] H=some (.ret (zaP nm).av,H):=fun H=>
  zhj (F:=find tab) (prim:=prim) (f:=51) (args:=[.agg [(none,.pv none (.int .i64 2)),(none,.pv none (.int .i64 0)),(none,.pv none (.str nm)),(none,.tsl (some 4) [])]]) (ps:=[(some 4,(zaP nm).pv)]) (hp:=H) (hp1:=H) rfl rfl rfl rfl (zdd (zaP nm) [] hv (fit9 hv))
 simp only[Tm.av] at hcl
 simp -dsimp -implicitDefEqProofs only[go_sem,seval,↓reduceIte,Tm.av,hb,hcl]
 try rfl
theorem zeu(nm:List UInt8)(l:List Tm)(h1:0<l.length)(hv:(strT nm l).valid=true)(hp:Heap):S 136 [.pv none (.str nm),.pv none (.sl (some 4) (Tm.pvs l))] hp=some (.ret (strT nm l).av,hp):=by
 refine zah rfl rfl rfl (zab [(none,.str nm),(none,.sl (some 4) (Tm.pvs l))]) rfl ?_
 have hb:zbd [(none,.pv none (.int .i64 0)),(none,.pv none (.int .i64 0)),(none,.pv none (.str [])),(none,.tsl (some 4) [])] [0,2,3] [.pv none (.int .i64 3),.pv none (.str nm),.pv none (.sl (some 4) (Tm.pvs l))]=some (.pv (some 4) (strT nm l).pv):=rfl
 have hcl:=fun hp=>zdd (strT nm l) hp hv (fit9 hv)
 have hne:=eq_false (show ¬(l.length:Int)=0 by omega)
 simp only[Tm.av] at hcl
 simp -dsimp -implicitDefEqProofs only[go_sem,seval,↓reduceIte,Tm.av,hb,hcl,Tm.pvs_len,hne]
 try rfl
theorem znV{f:FuncId}{fn:AFn}{ps:List (Sh × PV)}{args:List AV}{t:Tm}{hp hp1:Heap}(hp0:prim f=none)(hf:find tab f=some fn)(hm:fn.heapMode=false)(hz:zai args hp=some (ps,hp1))(hr:fn.rcv=none)(h:S f (pvs ps) []=some (.ret t.av,[])):S f args hp=some (.ret t.av,hp1):=by
 have h:=zhj (F:=find tab) (prim:=prim) (f:=f) (args:=args) (ps:=ps) (hp:=hp) (hp1:=hp1) hp0 hf hm hz h hr
 have hs:∀t:Tm,t.av.scalar=false:=fun t=>by cases t;rfl
 rw[hs] at h
 exact h
def errN:List UInt8:=[101,114,114,111,114]
def errT(f:Tm):Tm:=strT errN [f,nilT]
theorem zpy(fn:List UInt8)(l:List Tm)(h1:0<l.length)(hv1:(strT fn l).valid=true)(hv2:(errT (strT fn l)).valid=true)(hp:Heap):S 114 [.pv none (.str fn),.pv none (.sl (some 4) (Tm.pvs l))] hp=some (.ret (errT (strT fn l)).av,hp):=by
 refine zah rfl rfl rfl (zab [(none,.str fn),(none,.sl (some 4) (Tm.pvs l))]) rfl ?_
 have ha:=zeu fn l h1 hv1
 have hb:=zd2 [91,93] (by decide)
 have hc:∀H:Heap,S 136 [.pv none (.str errN),.tsl (some 4) [(strT fn l).pv,nilT.pv]] H=some (.ret (errT (strT fn l)).av,H):=fun H=>
  znV (ps:=[(none,.str errN),(none,.sl (some 4) (Tm.pvs [strT fn l,nilT]))]) rfl rfl rfl rfl rfl (zeu errN [strT fn l,nilT] (by simp) hv2 [])
 have e:zaP [91,93]=nilT:=rfl
 rw[e] at hb
 simp only[Tm.av] at ha hb hc
 generalize strT fn l=F at*
 simp only[errN] at hc
 simp -dsimp -implicitDefEqProofs only[go_sem,seval,↓reduceIte,Tm.av,ha,hb,hc]
 try rfl
def tyN:List UInt8:=[116,121,112,101,95,101,114,114,111,114]
def cul(t:Tm):Tm:=if 2000<t.size+4 then zaP [46,46,46] else t
def typT(nm:List UInt8)(t:Tm):Tm:=errT (strT tyN [zaP nm,cul t])
theorem znW{t:Tm}(hv:t.valid=true):(cul t).valid=true/\(cul t).size+4<=2000:=by
 unfold cul
 split
 ·exact⟨zdv (by decide),by have:(zaP [46,46,46]).size=1:=rfl;omega⟩
 ·exact⟨hv,by omega⟩
theorem znX{nm:List UInt8}(hn:nm.length<=100){t:Tm}(hv:t.valid=true):(strT tyN [zaP nm,cul t]).valid=true/\(typT nm t).valid=true:=by
 obtain⟨h1,h2⟩:=znW hv
 have h3:=zdv hn
 have f1:(strT tyN [zaP nm,cul t]).fits=true:=ziE (by decide) (by simp) (by simp) (by simp[Tm.fitsAll,valid_fits h1,valid_fits h3])
 have s1:(strT tyN [zaP nm,cul t]).size=1+(1+((cul t).size+0)):=by rw[Tm.size_eq];rfl
 have f2:(typT nm t).fits=true:=ziE (by decide) (by simp) (by simp) (by simp[Tm.fitsAll,f1];decide)
 have s2:(typT nm t).size=1+((strT tyN [zaP nm,cul t]).size+(1+0)):=by
  show(errT _).size=_
  rw[Tm.size_eq]
  rfl
 exact⟨zht f1 (by omega),zht f2 (by omega)⟩
theorem zpz(nm:List UInt8)(hn:nm.length<=100)(t:Tm)(hv:t.valid=true)(hp:Heap):S 115 [t.av,.pv none (.str tyN),.pv none (.sl none [.str nm])] hp=some (.ret (typT nm t).av,hp):=by
 refine zah rfl rfl rfl (zab [(some 4,t.pv),(none,.str tyN),(none,.sl none [.str nm])]) rfl ?_
 have hz:=valid_size hv
 have h1:=fun hp=>zbA t hp (by omega)
 have h2:=fun hp=>zn9 t hp (by omega)
 have h3:=zd2 nm hn
 have h4:=zd2 [46,46,46] (by decide)
 obtain⟨v1,v2⟩:=znX hn hv
 have hn0:∀H:Heap,zbK (some 4) H=some (.sl (some 4) H.length 0 0 0,H++[.arr (some 4) [] false]):=fun H=>zck (sh:=some 4) (by decide)
 have hmin:min t.size 2001=t.size:=by omega
 rw[hmin] at h2
 have hsl:=eq_false (show ¬(100:Int)<(nm.length:Int) by omega)
 have hia:zbn none [.pv none (.sl none [.str nm]),.pv none (.int .i64 0)]=some (.iptr none (.str nm) 0):=rfl
 have w1:IntKind.i64.wrap 4=4:=by decide
 have w2:IntKind.i64.wrap ((4:Int)+(t.size:Int))=4+(t.size:Int):=za8 (by omega) (by omega)
 have w3:IntKind.i64.wrap 1=1:=by decide
 have hp0:Tm.pvs []=[]:=rfl
 have hra:∀(a0 a1 a2:AObj),S 114 [.pv none (.str tyN),.sl (some 4) 3 2 0 2] [a0,a1,a2,.arr (some 4) [(zaP nm).pv,(cul t).pv] false]=some (.ret (typT nm t).av,[a0,a1,a2,.arr (some 4) [(zaP nm).pv,(cul t).pv] true]):=fun a0 a1 a2=>
  znV (ps:=[(none,.str tyN),(none,.sl (some 4) (Tm.pvs [zaP nm,cul t]))]) rfl rfl rfl rfl rfl (zpy tyN [zaP nm,cul t] (by simp) v1 v2 [])
 have hl1:(1:Nat)+1<=lim:=by unfold lim;omega
 have hl0:(0:Nat)+1<=lim:=by unfold lim;omega
 simp only[Tm.av] at h1 h2 h3 h4 hra
 simp -dsimp -implicitDefEqProofs only[go_sem,seval,↓reduceIte,Tm.av,h1,hv,hn0]
 refine zdr (α:=Unit) 1 (fun _ _=>True) (fun i _=>⟨[(1,.pv none (.str tyN)),(2,.pv none (.sl none [.str nm])),(3,.ptr 0 0),(6,.ptr 1 0),(7,.sl (some 4) 3 i 0 i),(14,.pv none (.sl none [.str nm])),(15,.pv none (.int .i64 1)),(16,.pv none (.int .i64 i))],[.box (some 4) (.pv (some 4) t.pv),.box (some 4) (zg 2),.arr (some 4) [] false,.arr (some 4) (Tm.pvs ([zaP nm].take i)) false]⟩) () ⟨trivial,rfl⟩ ?_ ?_
 ·rintro i - hi -
  have:i=0:=by omega
  subst this
  have hc:(0:Int)<(1:Int):=by omega
  have hap:∀a0 a1 a2:AObj,zaK (some 4) [a0,a1,a2,.arr (some 4) [] false] [.sl (some 4) 3 0 0 0,.tsl (some 4) [(zaP nm).pv]]=some (.sl (some 4) 3 1 0 1,[a0,a1,a2,.arr (some 4) [(zaP nm).pv] false]):=fun _ _ _=>rfl
  have htk:Tm.pvs ([zaP nm].take 0)=[]:=rfl
  have htk1:Tm.pvs ([zaP nm].take 1)=[(zaP nm).pv]:=rfl
  generalize (zaP nm).pv=X at*
  simp -dsimp -implicitDefEqProofs only[go_sem,seval,↓reduceIte,zg,htk,hp0,hc,hia,hsl,h3,hap,w3]
  exact⟨(),by rw[htk1];rfl⟩
 ·rintro - -
  have hc:¬(1:Int)<(1:Int):=by omega
  have htk:Tm.pvs ([zaP nm].take 1)=[(zaP nm).pv]:=rfl
  by_cases hbig:(2000:Int)<4+(t.size:Int)
  ·have hcu:cul t=zaP [46,46,46]:=by unfold cul;rw[if_pos (by omega)]
   have hap:∀(a0 a1 a2:AObj),zaK (some 4) [a0,a1,a2,.arr (some 4) [(zaP nm).pv] false] [.sl (some 4) 3 1 0 1,.tsl (some 4) [(zaP [46,46,46]).pv]]=some (.sl (some 4) 3 2 0 2,[a0,a1,a2,.arr (some 4) [(zaP nm).pv,(zaP [46,46,46]).pv] false]):=fun _ _ _=>rfl
   rw[hcu] at hra
   generalize (zaP [46,46,46]).pv=Y at*
   generalize (zaP nm).pv=X at*
   simp -dsimp -implicitDefEqProofs only[go_sem,seval,↓reduceIte,zg,htk,hc,h2,w1,w2,hbig,h4,hap,hra]
   rfl
  ·have hcu:cul t=t:=by unfold cul;rw[if_neg (by omega)]
   have hap:∀(a0 a1 a2:AObj),zaK (some 4) [a0,a1,a2,.arr (some 4) [(zaP nm).pv] false] [.sl (some 4) 3 1 0 1,.tsl (some 4) [t.pv]]=some (.sl (some 4) 3 2 0 2,[a0,a1,a2,.arr (some 4) [(zaP nm).pv,t.pv] false]):=fun _ _ _=>rfl
   rw[hcu] at hra
   generalize (zaP nm).pv=X at*
   simp -dsimp -implicitDefEqProofs only[go_sem,seval,↓reduceIte,zg,htk,hc,h2,w1,w2,hbig,hap,hra]
   rfl
theorem zpA(nm:List UInt8)(hn:nm.length<=100)(t:Tm)(hv:t.valid=true)(hp:Heap):S 70 [.pv none (.str nm),t.av] hp=some (.ret (typT nm t).av,hp):=by
 refine zah rfl rfl rfl (zab [(none,.str nm),(some 4,t.pv)]) rfl ?_
 have h1:∀H:Heap,S 115 [t.av,.pv none (.str tyN),.tsl none [.str nm]] H=some (.ret (typT nm t).av,H):=fun H=>znV (ps:=[(some 4,t.pv),(none,.str tyN),(none,.sl none [.str nm])]) rfl rfl rfl rfl rfl (zpz nm hn t hv [])
 simp only[Tm.av,tyN] at h1
 simp -dsimp -implicitDefEqProofs only[go_sem,seval,↓reduceIte,Tm.av,h1]
 try rfl
def zev:List UInt8:=[105,110,115,116,97,110,116,105,97,116,105,111,110,95,101,114,114,111,114]
def instT:Tm:=errT (zaP zev)
theorem zjJ:instT.valid=true:=by decide
theorem zpB(hp:Heap):S 69 [] hp=some (.ret instT.av,hp):=by
 refine zah (ps:=[]) rfl rfl rfl rfl rfl ?_
 have h0:∀H:Heap,S 136 [.pv none (.str zev),.pv none (.sl (some 4) [])] H=some (.ret (zaP zev).av,H):=fun H=>by
  refine zah rfl rfl rfl (zab [(none,.str zev),(none,.sl (some 4) [])]) rfl ?_
  have ha:=zd2 zev (by decide)
  simp only[Tm.av] at ha
  simp -dsimp -implicitDefEqProofs only[go_sem,seval,↓reduceIte,Tm.av,ha]
  try rfl
 have h1:∀H:Heap,S 114 [.pv none (.str zev),.tsl (some 4) []] H=some (.ret instT.av,H):=fun H=>znV (ps:=[(none,.str zev),(none,.sl (some 4) [])]) rfl rfl rfl rfl rfl (by
  refine zah rfl rfl rfl (zab [(none,.str zev),(none,.sl (some 4) [])]) rfl ?_
  have hb:=zd2 [91,93] (by decide)
  have hc:∀H:Heap,S 136 [.pv none (.str errN),.tsl (some 4) [(zaP zev).pv,nilT.pv]] H=some (.ret instT.av,H):=fun H=>
   znV (ps:=[(none,.str errN),(none,.sl (some 4) (Tm.pvs [zaP zev,nilT]))]) rfl rfl rfl rfl rfl (zeu errN [zaP zev,nilT] (by decide) zjJ [])
  have e:zaP [91,93]=nilT:=rfl
  rw[e] at hb
  simp only[Tm.av,errN] at h0 hb hc
  generalize (zaP zev).pv=X at*
  simp -dsimp -implicitDefEqProofs only[go_sem,seval,↓reduceIte,Tm.av,h0,hb,hc]
  try rfl)
 simp only[Tm.av,zev] at h1
 simp -dsimp -implicitDefEqProofs only[go_sem,seval,↓reduceIte,Tm.av,h1]
 try rfl
def zpl:List UInt8:=[108,105,115,116]
def zhl(t:Tm):List Tm × Tm × Bool:=
 if t.valid=true then(if(tl t).kind=0 then([],instT,false) else if(tl t).kind=2/\(tl t).name=[91,93] then(els t,zt,true) else([],typT zpl t,false)) else([],zt,false)
theorem zcY{l:List Tm}{b:Tm}{B:Bool}{H:Heap}{q:Nat}{fz:Bool}(h:H[q]? =some (.arr (some 4) (Tm.pvs l) fz)):Am.frozen (.tuple [.pv none (.sl (some 4) (Tm.pvs l)),.pv (some 4) b.pv,.pv none (.bool B)]) (.tuple [.sl (some 4) q l.length 0 l.length,.pv (some 4) b.pv,.pv none (.bool B)]) H:=by
 refine⟨H.set q (.arr (some 4) (Tm.pvs l) true),?_⟩
 have e2:∀p hp,AV.freeze deep (.pv (some 4) p) hp=some (p,hp):=fun _ _=>rfl
 simp[AV.freezeRes,zai,e2,AV.freeze,deep,Tm.pvs_len,pvs,AV.shp,h]
theorem zgy{l:List Tm}{B:Bool}{H:Heap}{q r:Nat}{fz:Bool}(h:H[q]? =some (.arr (some 4) (Tm.pvs l) fz))(h2:H[r]? =some (.arr (some 4) [] false))(hn:q≠r):Am.frozen (.tuple [.pv none (.sl (some 4) (Tm.pvs l)),.pv (some 4) zt.pv,.pv none (.bool B)]) (.tuple [.sl (some 4) q l.length 0 l.length,zg r,.pv none (.bool B)]) H:=by
 refine⟨(H.set q (.arr (some 4) (Tm.pvs l) true)).set r (.arr (some 4) [] true),?_⟩
 have e:∀l hp,AV.freeze (7+1) (.agg l) hp=match AV.freeze.go 7 l hp with|some (ps,hp')=>some (.agg ps,hp')|none=>none:=fun _ _=>rfl
 have h3:(H.set q (.arr (some 4) (Tm.pvs l) true))[r]? =some (.arr (some 4) [] false):=by rw[List.getElem?_set_ne hn];exact h2
 simp[AV.freezeRes,zai,AV.freeze,deep,Tm.pvs_len,pvs,AV.shp,h,zg,e,AV.freeze.go,h3]
 exact⟨rfl,rfl⟩
theorem zpm(t:Tm)(ht:t.size<100000000)(hp:Heap):S 38 [t.av] hp=some (.ret (.tuple [.pv none (.sl (some 4) (Tm.pvs (zhl t).1)),(zhl t).2.1.av,.pv none (.bool (zhl t).2.2)]),hp):=by
 refine zah rfl rfl rfl (zab [(some 4,t.pv)]) rfl ?_
 have h1:=fun hp=>zbA t hp (by omega)
 have hn0:∀H:Heap,zbK (some 4) H=some (.sl (some 4) H.length 0 0 0,H++[.arr (some 4) [] false]):=fun H=>zck (sh:=some 4) (by decide)
 have hb0:zbd [(none,.pv none (.int .i64 0)),(none,.pv none (.int .i64 0)),(none,.pv none (.str [])),(none,.tsl (some 4) [])] [] []=some (.agg [(none,.pv none (.int .i64 0)),(none,.pv none (.int .i64 0)),(none,.pv none (.str [])),(none,.tsl (some 4) [])]):=rfl
 simp only[Tm.av] at h1
 cases hv:t.valid with
 |false=>
  have e:zhl t=([],zt,false):=by unfold zhl;rw[hv,if_neg (by simp)]
  rw[e]
  rw[hv] at h1
  simp -dsimp -implicitDefEqProofs only[go_sem,seval,↓reduceIte,Tm.av,h1,hn0,hb0,zae (Nat.zero_le _)]
  exact zgy (l:=[]) (q:=4) (r:=5) (fz:=false) rfl rfl (by decide)
 |true=>
  rw[hv] at h1
  have hz:=valid_size hv
  have hlen:=znT _ t rfl
  have hinst:=fun hp=>zpB hp
  have htyp:=fun hp=>zpA zpl (by decide) t hv hp
  have hen:zpl=[108,105,115,116]:=rfl
  simp only[Tm.av] at hinst htyp
  rw[hen] at htyp
  simp -dsimp -implicitDefEqProofs only[go_sem,seval,↓reduceIte,Tm.av,h1,hn0]
  refine zeR (fun n st=>∃(t1:Tm) (d:List Tm),n=t1.size/\t1.valid=true/\d++els t1=els t/\tl t1=tl t/\st=⟨[(1,.ptr 0 0),(2,.sl (some 4) 1 d.length 0 d.length),(3,.ptr 2 0),(5,.ptr 4 0)],[.box (some 4) (.pv (some 4) t.pv),.arr (some 4) (Tm.pvs d) false,.box (some 4) (zg 3),.arr (some 4) [] false,.box (some 4) (.pv (some 4) t1.pv),.arr (some 4) [] false]⟩) (n:=t.size) ⟨t,[],rfl,hv,rfl,rfl,rfl⟩ ?_
  rintro n st ⟨t1,d,rfl,hv1,he,htl,rfl⟩
  have hdl:=congrArg List.length he
  rw[List.length_append] at hdl
  by_cases h:cs t1
  ·have hlt:=Tm.zsz (zbQ h.2.2)
   have v0:=zct hv1 (zkp h.2.2)
   have v1:=zct hv1 (zbQ h.2.2)
   have hcp:=fun hp=>zdd (arg0 t1) hp v0 (fit9 v0)
   have hlim:d.length+1<=lim:=by unfold lim;omega
   have hpl:=Tm.pvs_len d
   have k1:=eq_true h.1
   have k2:=eq_true h.2.1
   have k3:=eq_true (show(t1.args.length:Int)=2 by have:=h.2.2;omega)
   rw[zqW h] at he
   simp only[Tm.av] at hcp
   simp -dsimp -implicitDefEqProofs only[go_sem,seval,↓reduceIte,zg,zaj,zal,zad,Tm.pvs_len,k1,k2,k3,hcp,ia0 (Tm.pvs_get (zhm h.2.2)),ia1 (Tm.pvs_get (zhn h.2.2)),hpl,hlim]
   refine⟨_,hlt,arg1 t1,d++[arg0 t1],rfl,v1,by rw[<-he,List.append_assoc];rfl,by rw[<-htl,tl_c h],?_⟩
   rw[Tm.zsH,List.length_append]
   rfl
  ·rw[zqX h,List.append_nil] at he
   rw[tl_n h] at htl
   have hex:∃A:Prop,A:=⟨True,trivial⟩
   have hdef:zhl t=if t1.kind=0 then([],instT,false) else if t1.kind=2/\t1.name=[91,93] then(d,zt,true) else([],typT zpl t,false):=by
    unfold zhl
    rw[hv,if_pos rfl,<-htl,<-he]
   rw[hdef]
   have key:(t1.kind=3/\t1.name=[46]/\¬(t1.args.length:Int)=2)\/(t1.kind=3/\¬t1.name=[46])\/¬t1.kind=3:=by
    by_cases k1:t1.kind=3
    ·by_cases k2:t1.name=[46]
     ·exact .inl ⟨k1,k2,fun e=>h ⟨k1,k2,by omega⟩⟩
     ·exact .inr (.inl ⟨k1,k2⟩)
    ·exact .inr (.inr k1)
   rcases key with⟨k1,k2,k3⟩|⟨k1,k2⟩|k1
   ·have m0:¬t1.kind=0:=by omega
    have m2:¬t1.kind=2:=by omega
    rw[if_neg m0,if_neg (fun e=>m2 e.1)]
    simp -dsimp -implicitDefEqProofs only[go_sem,seval,↓reduceIte,zg,hn0,zaj,zal,zad,Tm.pvs_len,eq_true k1,eq_true k2,eq_false k3,m0,m2,htyp]
    exact zcY (l:=[]) (q:=6) (fz:=false) rfl
   ·have m0:¬t1.kind=0:=by omega
    have m2:¬t1.kind=2:=by omega
    rw[if_neg m0,if_neg (fun e=>m2 e.1)]
    simp -dsimp -implicitDefEqProofs only[go_sem,seval,↓reduceIte,zg,hn0,zaj,zal,zad,Tm.pvs_len,eq_true k1,eq_false k2,m0,m2,htyp]
    exact zcY (l:=[]) (q:=6) (fz:=false) rfl
   ·by_cases m0:t1.kind=0
    ·rw[if_pos m0]
     simp -dsimp -implicitDefEqProofs only[go_sem,seval,↓reduceIte,zg,hn0,zaj,zal,zad,Tm.pvs_len,eq_false k1,eq_true m0,hinst]
     exact zcY (l:=[]) (q:=6) (fz:=false) rfl
    ·rw[if_neg m0]
     by_cases m2:t1.kind=2
     ·by_cases m3:t1.name=[91,93]
      ·rw[if_pos ⟨m2,m3⟩]
       simp -dsimp -implicitDefEqProofs only[go_sem,seval,↓reduceIte,zg,hn0,hb0,zaj,zal,zad,Tm.pvs_len,eq_false k1,eq_false m0,eq_true m2,eq_true m3,zae (Nat.zero_le _)]
       exact zgy (l:=d) (q:=1) (r:=6) (fz:=false) rfl rfl (by decide)
      ·rw[if_neg (fun e=>m3 e.2)]
       simp -dsimp -implicitDefEqProofs only[go_sem,seval,↓reduceIte,zg,hn0,zaj,zal,zad,Tm.pvs_len,eq_false k1,eq_false m0,eq_true m2,eq_false m3,htyp]
       exact zcY (l:=[]) (q:=6) (fz:=false) rfl
     ·rw[if_neg (fun e=>m2 e.1)]
      simp -dsimp -implicitDefEqProofs only[go_sem,seval,↓reduceIte,zg,hn0,zaj,zal,zad,Tm.pvs_len,eq_false k1,eq_false m0,eq_false m2,htyp]
      exact zcY (l:=[]) (q:=6) (fz:=false) rfl
def zb6(t:Tm):Prop:=t.kind=2/\t.name=[91,93]
instance (t:Tm):Decidable (zb6 t):=inferInstanceAs (Decidable (_/\_))
theorem zpW(t:Tm)(hp:Heap):S 117 [t.av] hp=some (.ret (.pv none (.bool (decide (zb6 t)))),hp):=by
 refine zah rfl rfl rfl (zab [(some 4,t.pv)]) rfl ?_
 have h1:=fun hp=>zd5 t hp
 simp only[Tm.av] at h1
 by_cases hk:t.kind=2
 ·have e:decide (zb6 t)=decide (t.name=[91,93]):=by simp[zb6,hk]
  rw[hk] at h1
  rw[e]
  simp -dsimp -implicitDefEqProofs only[go_sem,seval,↓reduceIte,Tm.av,h1,zal]
 ·have e:decide (zb6 t)=false:=by simp[zb6,hk]
  have e2:decide (t.kind=2)=false:=by simp[hk]
  rw[e2] at h1
  rw[e]
  simp -dsimp -implicitDefEqProofs only[go_sem,seval,↓reduceIte,Tm.av,h1,zal]
theorem zoc(t:Tm)(hv:t.valid=true)(hp:Heap):S 77 [t.av] hp=some (.ret (.pv none (.bool (decide (zb6 (tl t))))),hp):=by
 refine zah rfl rfl rfl (zab [(some 4,t.pv)]) rfl ?_
 have h1:=fun hp=>znU t hv hp
 have h2:=fun hp=>zpW (tl t) hp
 simp only[Tm.av] at h1 h2
 simp -dsimp -implicitDefEqProofs only[go_sem,seval,↓reduceIte,Tm.av,h1,h2,zae (Nat.zero_le _)]
theorem zod(t:Tm)(hv:t.valid=true)(hp:Heap):S 78 [t.av] hp=some (.ret (.pv none (.bool (decide ((vads [] t.occ).length=0)))),hp):=by
 refine zah rfl rfl rfl (zab [(some 4,t.pv)]) rfl ?_
 have h1:=fun hp=>zkA t hv hp
 have e:decide ((vads [] t.occ).length=0)=decide (((vads [] t.occ).length:Int)=0):=by
  rw[decide_eq_decide]
  omega
 rw[e]
 simp only[Tm.av] at h1
 simp -dsimp -implicitDefEqProofs only[go_sem,seval,↓reduceIte,Tm.av,h1,zaW]
theorem zoe(t:Tm)(hp:Heap):S 72 [t.av] hp=some (.ret (.pv none (.bool (!decide (t.kind=0)))),hp):=by
 refine zah rfl rfl rfl (zab [(some 4,t.pv)]) rfl ?_
 have h1:=fun hp=>zkD t hp
 simp only[Tm.av] at h1
 simp -dsimp -implicitDefEqProofs only[go_sem,seval,↓reduceIte,Tm.av,h1]
theorem zof(t:Tm)(hp:Heap):S 75 [t.av] hp=some (.ret (.pv none (.bool (decide (t.kind=2) || decide (t.kind=1)))),hp):=by
 refine zah rfl rfl rfl (zab [(some 4,t.pv)]) rfl ?_
 have h1:=fun hp=>zd5 t hp
 have h2:=fun hp=>zkE t hp
 simp only[Tm.av] at h1 h2
 cases hk:decide (t.kind=2)
 ·rw[hk] at h1
  simp -dsimp -implicitDefEqProofs only[go_sem,seval,↓reduceIte,Tm.av,h1,h2,Bool.false_or]
 ·rw[hk] at h1
  simp -dsimp -implicitDefEqProofs only[go_sem,seval,↓reduceIte,Tm.av,h1,h2,Bool.true_or]
theorem zjM(t:Tm)(hp:Heap):S 76 [t.av] hp=some (.ret (.pv none (.bool (decide (t.kind=2) || decide (t.kind=3)))),hp):=by
 refine zah rfl rfl rfl (zab [(some 4,t.pv)]) rfl ?_
 have h1:=fun hp=>zd5 t hp
 have h2:=fun hp=>zdt t hp
 simp only[Tm.av] at h1 h2
 cases hk:decide (t.kind=2)
 ·rw[hk] at h1
  simp -dsimp -implicitDefEqProofs only[go_sem,seval,↓reduceIte,Tm.av,h1,h2,Bool.false_or]
 ·rw[hk] at h1
  simp -dsimp -implicitDefEqProofs only[go_sem,seval,↓reduceIte,Tm.av,h1,h2,Bool.true_or]
def eJ1(g:Tm):Heap:=[.arr (some 4) [] false,.arr (some 4) [] false,.arr (some 4) (Tm.pvs (g.args++[zt,zt])) false,.map none rows1]
theorem zog(g u:Tm)(hga:g.args=[u])(k:Nat)(hp:Heap)(r:Nat)(hr:hp[r]? =some (.box (some 5) (.pv (some 5) (runV g k))))(hb:Bq hp)(fid:FuncId)(b:Bool)(hf:afind true (.str g.name) rows1=some (some (.func (.func fid))))(ht:∀hp,S fid [u.av] hp=some (.ret (.pv none (.bool b)),hp)):
  S 50 [.ptr r 0] hp=some (.ret (.tuple [.sl (some 4) (hp.length+5) (sucL b g).length 0 (sucL b g).length,.pv none (.int .i64 0)]),hp++(eJ1 g++[.arr (some 4) [] false,.arr (some 4) (Tm.pvs (sucL b g)) false])):=by
 refine zbc rfl rfl rfl rfl ?_
 have hlt:=zcg hr
 have hr':∀X,(hp++X)[r]? =some (.box (some 5) (.pv (some 5) (runV g k))):=fun X=>by rw[zfG hlt,hr]
 have hl:g.args.length=1:=by rw[hga];rfl
 have h1:=fun hp=>zon (Tm.pvs g.args) (by rw[Tm.pvs_len];omega) (by rw[Tm.pvs_len];omega) hp
 have hz0:zbd [(none,.pv none (.int .i64 0)),(none,.pv none (.int .i64 0)),(none,.pv none (.str [])),(none,.tsl (some 4) [])] [] []=some zagC:=rfl
 have h2:=zpE
 have h5:=fun X=>zlL g k b (hp++X) r (hr' X)
 have ha:∀y0 y1,_:=fun y0 y1=> @zrO hp y0 y1 g.args 1 hl (by decide)
 have l0:∀Z y0 y1 z,_:=fun Z y0 y1 z=> @zsr hp Z y0 y1 (g.args++[zt,zt]) z 3 0 u (by rw[List.length_append,hl];rfl) (by rw[hga];rfl)
 have k1:∀Z y0 y1 y2,zaS true none (.pv none .nilfunc) true (hp++y0::y1::y2::.map none rows1::Z) [.map (hp.length+3),.pv none (.str g.name)]=some (.tuple [.pv none (.func (.func fid)),.pv none (.bool true)]):=fun Z y0 y1 y2=>
  zbP (es:=rows1) (by rw[getN rfl];rfl) hf
 have i0:zbn (some 4) [.sl (some 4) (hp.length+2) 3 0 3,.pv none (.int .i64 0)]=some (.eptr (some 4) (hp.length+2) 3 0 0):=rfl
 generalize sucL b g=ts at h5 ⊢
 simp only[Tm.av] at ht
 simp -dsimp -implicitDefEqProofs only[go_sem,seval,↓reduceIte,Tm.av,hr,hr',h1,h2,h5,ht,ha,hl,hz0,l0,k1,i0,Tm.pvs_len,zol,zom,zrN,zst,zrT,zrC rfl,zpG hb,List.take_succ_cons,znY,zpH,zrS,zq0,zqY,zpC,zpD,zrU,zcl,zck (sh:=some 4) (by decide),List.append_assoc,zas,zao,zaw,zap,Nat.add_assoc,List.length_append]
 rw[if_neg (by simp[AV.refsIn,AV.refsIn.gol])]
 rfl
def tst(i:Nat)(t:Tm):Bool:=match i with
 |0=>decide (t.kind=0)
 |1=> !decide (t.kind=0)
 |2=>decide (t.kind=2)
 |3=>decide (t.kind=1)
 |4=>decide (t.kind=2) || decide (t.kind=1)
 |5=>decide (t.kind=3)
 |6=>decide (t.kind=2) || decide (t.kind=3)
 |7=>decide (zb6 (tl t))
 |_=>decide ((vads [] t.occ).length=0)
theorem zr4(i:Nat)(hi:i<9)(t:Tm)(hv:t.valid=true):∃fid,afind true (.str (names1.getD i [])) rows1=some (some (.func (.func fid)))/\∀hp,S fid [t.av] hp=some (.ret (.pv none (.bool (tst i t))),hp):=by
 match i,hi with
 |0,_=>exact⟨_,rfl,zkD t⟩
 |1,_=>exact⟨_,rfl,zoe t⟩
 |2,_=>exact⟨_,rfl,zd5 t⟩
 |3,_=>exact⟨_,rfl,zkE t⟩
 |4,_=>exact⟨_,rfl,zof t⟩
 |5,_=>exact⟨_,rfl,zdt t⟩
 |6,_=>exact⟨_,rfl,zjM t⟩
 |7,_=>exact⟨_,rfl,zoc t hv⟩
 |8,_=>exact⟨_,rfl,zod t hv⟩
theorem zoh(i:Nat)(hi:i<9)(u:Tm)(g:Tm)(hg:g=tstr (names1.getD i []) [u])(hv:g.valid=true)(hc:canT g=g):zq6 g (sucL (tst i u) g) zt 0:=by
 intro hp
 have hga:g.args=[u]:=by rw[hg];rfl
 have huv:u.valid=true:=zct hv (by rw[hga];simp)
 obtain⟨fid,hf,ht⟩:=zr4 i hi u huv
 have hnm:g.name=names1.getD i []:=by rw[hg];rfl
 obtain⟨ts,hts⟩:∃ts,ts=sucL (tst i u) g:=⟨_,rfl⟩
 have hall:ts.all Tm.valid=true:=by
  rw[hts]
  unfold sucL
  split
  ·simp[hv]
  ·rfl
 have hlen:ts.length<=1:=by
  rw[hts]
  unfold sucL
  split <;> simp
 have hr:zeW ts 0=(ts,0):=by
  have:¬1000<ts.length:=by omega
  simp only[zeW,ne_eq,not_true_eq_false,if_false,this,hall,if_true]
 have h2:=zog g u hga (vads [] g.occ).length (hE g) 6 rfl (zss g) fid _ (by rw[hnm];exact hf) ht
 rw[<-hts] at h2 ⊢
 have hmem:g.name∈zb5 g.args.length:=by
  rw[hnm,hga]
  show names1.getD i []∈zb5 1
  clear hnm hf ht h2 hts hr hg
  match i,hi with
  |0,_=>decide
  |1,_=>decide
  |2,_=>decide
  |3,_=>decide
  |4,_=>decide
  |5,_=>decide
  |6,_=>decide
  |7,_=>decide
  |8,_=>decide
 have h3:=zqZ g hp hv hc (by rw[hg];rfl) hmem ts 0 _ _ false h2 (by show 7<=7+5;omega) rfl (by omega) fun t ht=>by
  have:=valid_size (List.all_eq_true.1 hall t ht)
  omega
 rw[hr] at h3
 exact h3
theorem zq3(s:List UInt8)(l:List Tm)(hs:(tstr s l).size<1000000000)(hp:Heap):S 14 [.pv none (.str s),.pv none (.sl (some 4) (Tm.pvs l))] hp=some (.ret (.tuple [(canR (tstr s l)).av,.pv none (.bool (tstr s l).valid)]),hp):=by
 refine zah rfl rfl rfl (zab [(none,.str s),(none,.sl (some 4) (Tm.pvs l))]) rfl ?_
 have h1:=fun hp=>f_ok s l hp
 have h2:=fun hp=>zn4 (tstr s l) hp hs
 have h3:=fun hp=>zcZ (tstr s l) hp hs
 generalize tstr s l=g at h1 h2 h3 ⊢
 simp only[Tm.av] at h1 h2 h3
 simp -dsimp -implicitDefEqProofs only[go_sem,seval,↓reduceIte,Tm.av,h1,h2,h3,zae (Nat.zero_le _)]
 exact⟨_,rfl⟩
theorem znZ(t:Tm):(canT t).kind=t.kind:=by
 unfold canT
 rw[Tm.zsD]
 split
 ·rename_i h
  rw[h]
  rfl
 ·rfl
theorem zkw(L:List Int)(t:Tm):(Tm.sub (cPos L) t).kind=t.kind:=by
 rw[Tm.zsD]
 split
 ·rename_i h
  rw[h]
  rfl
 ·rfl
theorem zpI(s:List UInt8)(l:List Tm):canT (tstr s l)=tstr s (l.map (Tm.sub (cPos (vads [] (Tm.occs l))))):=by
 have ho:(tstr s l).occ=Tm.occs l:=by rw[Tm.occ_eq];rfl
 unfold canT
 rw[Tm.zsD,ho]
 rfl
theorem zqb(L:List Int)(t:Tm):cs (Tm.sub (cPos L) t)↔cs t:=by
 by_cases hk:t.kind=0
 ·constructor
  ·intro h
   have:=h.1
   rw[zkw,hk] at this
   cases this
  ·intro h
   have:=h.1
   rw[hk] at this
   cases this
 ·rw[zb4 hk]
  unfold cs
  show t.kind=3/\t.name=[46]/\(t.args.map _).length=2↔_
  rw[List.length_map]
theorem zpJ(L:List Int){t:Tm}(h:cs t):arg1 (Tm.sub (cPos L) t)=Tm.sub (cPos L) (arg1 t):=by
 have hk:¬t.kind=0:=by rw[h.1];decide
 rw[zb4 hk]
 have e:(Tm.mk t.kind t.n t.name (t.args.map (Tm.sub (cPos L)))).args=[Tm.sub (cPos L) (arg0 t),Tm.sub (cPos L) (arg1 t)]:=by
  show t.args.map _=_
  rw[args_two h.2.2]
  rfl
 generalize Tm.mk t.kind t.n t.name (t.args.map (Tm.sub (cPos L)))=u at e
 conv=>lhs;unfold arg1
 rw[e]
theorem zrV(L:List Int):∀(n:Nat) (t:Tm),t.size=n->tl (Tm.sub (cPos L) t)=Tm.sub (cPos L) (tl t):=by
 intro n
 induction n using Nat.strongRecOn with
 |_ n ih=>
  intro t hn
  by_cases h:cs t
  ·have hlt:=Tm.zsz (zbQ h.2.2)
   rw[tl_c h,tl_c ((zqb L t).2 h),zpJ L h,ih _ (by omega) _ rfl]
  ·rw[tl_n h,tl_n fun h'=>h ((zqb L t).1 h')]
def ordT(i:Nat):Nat:=match i with
 |0=>0|1=>2|2=>3|3=>5|4=>1|5=>4|6=>6|7=>7|_=>8
theorem zq9(i:Nat):ordT i<9:=by unfold ordT;split <;> decide
def nmsP:PV:=.agg [(none,.str [118,97,114]),(none,.str [97,116,111,109]),(none,.str [105,110,116,101,103,101,114]),(none,.str [99,111,109,112,111,117,110,100]),(none,.str [110,111,110,118,97,114]),(none,.str [97,116,111,109,105,99]),(none,.str [99,97,108,108,97,98,108,101]),(none,.str [105,115,95,108,105,115,116]),(none,.str [103,114,111,117,110,100])]
def okP(b:Nat->Bool)(i:Nat):PV:=.agg [(none,.bool (decide (0<i) && b 0)),(none,.bool (decide (1<i) && b 1)),(none,.bool (decide (2<i) && b 2)),(none,.bool (decide (3<i) && b 3)),(none,.bool (decide (4<i) && b 4)),(none,.bool (decide (5<i) && b 5)),(none,.bool (decide (6<i) && b 6)),(none,.bool (decide (7<i) && b 7)),(none,.bool (decide (8<i) && b 8))]
theorem zkz(i:Nat)(h:i<9):PV.part deep nmsP i none=some (.str (names1.getD (ordT i) [])):=by
 match i,h with
 |0,_=>rfl|1,_=>rfl|2,_=>rfl|3,_=>rfl|4,_=>rfl|5,_=>rfl|6,_=>rfl|7,_=>rfl|8,_=>rfl
theorem zra(b:Nat->Bool)(i:Nat)(h:i<9):AV.upd deep (.pv (some 9) (okP b i)) i none (.pv none (.bool (b i)))=some (.pv (some 9) (okP b (i+1))):=by
 match i,h with
 |0,_=>rfl|1,_=>rfl|2,_=>rfl|3,_=>rfl|4,_=>rfl|5,_=>rfl|6,_=>rfl|7,_=>rfl|8,_=>rfl
theorem zbz(b:Nat->Bool)(i:Nat)(h:i<9):PV.part deep (okP b 9) i none=some (.bool (b i)):=by
 match i,h with
 |0,_=>rfl|1,_=>rfl|2,_=>rfl|3,_=>rfl|4,_=>rfl|5,_=>rfl|6,_=>rfl|7,_=>rfl|8,_=>rfl
theorem zgB(a b:Sh)(p q:PV)(hp:Heap):(AV.tuple [.pv a p,.pv b q]).alone hp=some (.tuple [.pv a p,.pv b q]):=rfl
def cntB(b:Nat->Bool):Nat->Nat
 |0=>0
 |i+1=>cntB b i+if b i=true then 1 else 0
set_option maxRecDepth 100000 in
theorem zn8(t:Tm)(ht:t.size<100000000):S 10 [t.av] []=some (.ret (.pv none (.bool true)),[]):=by
 refine zah rfl rfl rfl (zab [(some 4,t.pv)]) rfl ?_
 have haw:=zpP
 have hz0:zbd [(none,.pv none (.str [])),(none,.pv none (.str [])),(none,.pv none (.str [])),(none,.pv none (.str [])),(none,.pv none (.str [])),(none,.pv none (.str [])),(none,.pv none (.str [])),(none,.pv none (.str [])),(none,.pv none (.str []))] [0,1,2,3,4,5,6,7,8] [.pv none (.str [118,97,114]),.pv none (.str [97,116,111,109]),.pv none (.str [105,110,116,101,103,101,114]),.pv none (.str [99,111,109,112,111,117,110,100]),.pv none (.str [110,111,110,118,97,114]),.pv none (.str [97,116,111,109,105,99]),.pv none (.str [99,97,108,108,97,98,108,101]),.pv none (.str [105,115,95,108,105,115,116]),.pv none (.str [103,114,111,117,110,100])]=some (.pv (some 9) nmsP):=rfl
 obtain⟨b,hb⟩:∃b:Nat->Bool,b=fun i=>tst (ordT i) t:=⟨_,rfl⟩
 have hgs:∀i,(tstr (names1.getD (ordT i) []) [t]).size=t.size+1:=fun i=>by rw[Tm.size_eq];show 1+(t.size+0)=_;omega
 have hgo:=fun i hp=>zq3 (names1.getD (ordT i) []) [t] (by rw[hgs];omega) hp
 simp -dsimp -implicitDefEqProofs only[go_sem,seval,↓reduceIte,Tm.av,hz0,zae (Nat.zero_le _)]
 have hnv:∀i,(tstr (names1.getD (ordT i) []) [t]).valid=(tstr (names1.getD 0 []) [t]).valid:=fun i=>by
  unfold ordT
  unfold Tm.valid
  rw[Tm.size_eq,Tm.size_eq]
  have e:∀s:List UInt8,s.length<=100->(tstr s [t]).fits=t.fits:=fun s hs=>by
   have hs':(s.length:Int)<=100:=by omega
   rw[Tm.zsF]
   simp[tstr,Tm.node,Tm.kind,Tm.n,Tm.name,Tm.args,Tm.fitsAll,hs']
  rw[e (names1.getD 0 []) (by decide)]
  split <;> (rw[e _ (by decide)];try rfl)
 have hN:∀r,zaN none 9 [.ptr 1 0,.pv none (.int .i64 r)]=zaN none 9 [.ptr 1 0,.pv none (.int .i64 r)]:=fun _=>rfl
 by_cases hv:(tstr (names1.getD 0 []) [t]).valid=true
 rotate_left
 ·have hv':(tstr (names1.getD 0 []) [t]).valid=false:=by simpa using hv
  refine zdr (α:=Unit) 9 (fun i _=>i=0) (fun i _=>⟨[(1,.ptr 0 0),(3,.ptr 1 0),(4,.ptr 2 0),(5,.pv none (.int .i64 i))],[.box (some 4) (.pv (some 4) t.pv),.box (some 9) (.pv (some 9) nmsP),.box (some 9) (.pv (some 9) (okP b 0))]⟩) () ⟨rfl,rfl⟩ ?_ ?_
  ·rintro i - h rfl
   have h0:=hgo 0
   rw[hnv,hv'] at h0
   have hcr:canR (tstr (names1.getD (ordT 0) []) [t])=zt:=by
    unfold canR
    rw[if_neg (by rw[hnv,hv'];simp)]
   rw[hcr] at h0
   have hn0:=zkz 0 (by decide)
   have hi0:zaN none 9 [.ptr 1 0,.pv none (.int .i64 0)]=some (.ptr 1 0):=rfl
   have hlt:((0:Nat):Int)<9:=by decide
   have e0:((0:Nat):Int)=0:=rfl
   have hts:Tm.pvs [t]=[t.pv]:=rfl
   rw[hts] at h0
   simp only[Tm.av] at h0
   simp -dsimp -implicitDefEqProofs only[go_sem,seval,↓reduceIte,Tm.av,zgB,h0,e0,hi0,hn0,hlt,haw,zae (Nat.zero_le _)]
  ·rintro - h
   omega
 have hcc:∀i,canT (tstr (names1.getD (ordT i) []) [t])=tstr (names1.getD (ordT i) []) [canT t]:=fun i=>by
  rw[zpI]
  show tstr _ [Tm.sub (cPos (vads [] (t.occ++[]))) t]=_
  rw[List.append_nil]
  rfl
 have hsu:∀i hp,S 16 [.pv (some 4) (canT (tstr (names1.getD (ordT i) []) [t])).pv] hp=some (.ret (.tuple [.pv none (.bool (b i)),.pv none (.bool true)]),hp):=fun i hp=>by
  have hvi:(tstr (names1.getD (ordT i) []) [t]).valid=true:=by rw[hnv];exact hv
  have hcv:=zlM hvi
  have hcl:=zoh (ordT i) (zq9 i) (canT t) _ (hcc i) hcv (zpv _)
  have h:=zjK _ _ hcv hcl (by unfold sucL;split <;> simp) hp
  have hb':decide ((sucL (tst (ordT i) (canT t)) (canT (tstr (names1.getD (ordT i) []) [t]))).length=1)=b i:=by
   have e2:∀j,tst j (canT t)=tst j t:=fun j=>by
    have hk:=znZ t
    have htl:zb6 (tl (canT t))↔zb6 (tl t):=by
     have e:tl (canT t)=Tm.sub (cPos (vads [] t.occ)) (tl t):=zrV _ _ t rfl
     rw[e]
     unfold zb6
     rw[zkw]
     by_cases hk0:(tl t).kind=0
     ·rw[hk0]
      simp
     ·rw[zb4 hk0]
      rfl
    have hvl:(vads [] (canT t).occ).length=(vads [] t.occ).length:=by rw[ziB];simp[cntI]
    unfold tst
    split <;> simp only[hk,hvl,decide_eq_decide.2 htl]
   rw[e2,hb]
   show decide ((sucL (tst (ordT i) t) _).length=1)=tst (ordT i) t
   cases tst (ordT i) t <;> rfl
  rw[hb'] at h
  exact h
 refine zdr (α:=Unit) 9 (fun _ _=>True) (fun i _=>⟨[(1,.ptr 0 0),(3,.ptr 1 0),(4,.ptr 2 0),(5,.pv none (.int .i64 i))],[.box (some 4) (.pv (some 4) t.pv),.box (some 9) (.pv (some 9) nmsP),.box (some 9) (.pv (some 9) (okP b i))]⟩) () ⟨trivial,rfl⟩ ?_ ?_
 ·rintro i - h -
  have h0:=hgo i
  have hvi:(tstr (names1.getD (ordT i) []) [t]).valid=true:=by rw[hnv];exact hv
  have hcr:canR (tstr (names1.getD (ordT i) []) [t])=canT (tstr (names1.getD (ordT i) []) [t]):=by
   unfold canR
   rw[if_pos hvi]
  rw[hcr,hvi] at h0
  have hsi:=hsu i
  have hn0:=zkz i h
  have hup:=zra b i h
  have hi0:∀r,zaN none 9 [.ptr r 0,.pv none (.int .i64 i)]=some (.ptr r i):=fun r=>by
   have:=zeQ (sh:=none) (s':=none) (k:=.i64) (r:=r) (o:=0) (n:=9) (i:=i) h
   rw[this]
   show some (AV.ptr r (0+i*1))=_
   rw[Nat.zero_add,Nat.mul_one]
  have hlt:(i:Int)<9:=by omega
  have w2:IntKind.i64.wrap ((i:Int)+1)=((i+1:Nat):Int):=by rw[za8 (by omega) (by omega)];omega
  have hts:Tm.pvs [t]=[t.pv]:=rfl
  rw[hts] at h0
  generalize canT (tstr (names1.getD (ordT i) []) [t])=g at h0 hsi
  generalize names1.getD (ordT i) []=s at h0 hn0
  simp only[Tm.av] at h0
  simp -dsimp -implicitDefEqProofs only[go_sem,seval,↓reduceIte,Tm.av,zgB,h0,hsi,hi0,hn0,hlt,w2,hup,zae (Nat.zero_le _)]
  exact⟨(),rfl⟩
 ·rintro - -
  have hlt:¬((9:Nat):Int)<9:=by decide
  simp -dsimp -implicitDefEqProofs only[go_sem,seval,↓reduceIte,Tm.av,hlt,zae (Nat.zero_le _)]
  refine zdr (α:=Unit) 4 (fun _ _=>True) (fun i _=>⟨[(1,.ptr 0 0),(4,.ptr 2 0),(10,.pv none (.int .i64 (cntB b i))),(11,.pv none (.int .i64 i))],[.box (some 4) (.pv (some 4) t.pv),.box (some 9) (.pv (some 9) nmsP),.box (some 9) (.pv (some 9) (okP b 9))]⟩) () ⟨trivial,rfl⟩ ?_ ?_
  ·rintro i - h -
   have hpt:=zbz b i (by omega)
   have hi0:∀r,zaN none 9 [.ptr r 0,.pv none (.int .i64 i)]=some (.ptr r i):=fun r=>by
    have:=zeQ (sh:=none) (s':=none) (k:=.i64) (r:=r) (o:=0) (n:=9) (i:=i) (by omega)
    rw[this]
    show some (AV.ptr r (0+i*1))=_
    rw[Nat.zero_add,Nat.mul_one]
   have hlt:(i:Int)<4:=by omega
   have w2:IntKind.i64.wrap ((i:Int)+1)=((i+1:Nat):Int):=by rw[za8 (by omega) (by omega)];omega
   have hcl:∀j,cntB b j<=j:=fun j=>by
    induction j with
    |zero=>exact Nat.le_refl _
    |succ j ih=>unfold cntB;split <;> omega
   have hci:=hcl i
   cases hbi:b i with
   |true=>
    rw[hbi] at hpt
    have e:cntB b (i+1)=cntB b i+1:=by rw[cntB,if_pos hbi]
    have w3:IntKind.i64.wrap ((cntB b i:Int)+1)=((cntB b (i+1):Nat):Int):=by rw[za8 (by omega) (by omega),e];omega
    simp -dsimp -implicitDefEqProofs only[go_sem,seval,↓reduceIte,Tm.av,hlt,hi0,hpt,w2,w3]
    exact⟨(),trivial⟩
   |false=>
    rw[hbi] at hpt
    have e:cntB b (i+1)=cntB b i:=by rw[cntB,if_neg (by rw[hbi];simp)];rfl
    simp -dsimp -implicitDefEqProofs only[go_sem,seval,↓reduceIte,Tm.av,hlt,hi0,hpt,w2,e]
    exact⟨(),trivial⟩
  ·rintro - -
   have hlt:¬((4:Nat):Int)<4:=by decide
   have htv:t.valid=true:=zct hv (by show t∈[t];simp)
   have hsz:=valid_size htv
   have hbl:=fun hp=>zpm t (by omega) hp
   obtain⟨s',H',hvc,hI,_,_⟩:=zrd t htv []
   have hal:=ziH hI
   have hvl:(ints (vads [] t.occ)).length=(vads [] t.occ).length:=zaW _
   simp only[Tm.av] at hbl hvc
   have hk4:t.kind=0\/t.kind=1\/t.kind=2\/t.kind=3:=by
    have h1:=valid_fits htv
    rw[Tm.zsF,Bool.and_eq_true] at h1
    have h2:=h1.1
    unfold Tm.node at h2
    by_cases q0:t.kind=0
    ·exact .inl q0
    by_cases q1:t.kind=1
    ·exact .inr (.inl q1)
    by_cases q2:t.kind=2
    ·exact .inr (.inr (.inl q2))
    by_cases q3:t.kind=3
    ·exact .inr (.inr (.inr q3))
    simp[q0,q1,q2,q3] at h2
   have hbb:∀x:Bool,(x == x)=true:=fun x=>by cases x <;> rfl
   have hft:(false == true)=false:=rfl
   have htf:(true == false)=false:=rfl
   obtain⟨li,hli⟩:∃li,li=decide (zb6 (tl t)):=⟨_,rfl⟩
   have hlr:(zhl t).2.2=li:=by
    rw[hli]
    unfold zhl
    rw[if_pos htv]
    by_cases q0:(tl t).kind=0
    ·rw[if_pos q0]
     simp[zb6,q0]
    ·rw[if_neg q0]
     by_cases q1:(tl t).kind=2/\(tl t).name=[91,93]
     ·rw[if_pos q1]
      simp[zb6,q1]
     ·rw[if_neg q1]
      simp[zb6,q1]
   have c7:b 7=li:=by rw[hb,hli];rfl
   have c8:b 8=decide (((vads [] t.occ).length:Int)=0):=by
    rw[hb]
    show decide ((vads [] t.occ).length=0)=_
    rw[decide_eq_decide]
    omega
   rw[hlr] at hbl
   have g0:=zbz b 0 (by decide)
   have a0:zaN none 9 [.ptr 2 0,.pv none (.int .i64 0)]=some (.ptr 2 0):=rfl
   have g1:=zbz b 1 (by decide)
   have a1:zaN none 9 [.ptr 2 0,.pv none (.int .i64 1)]=some (.ptr 2 1):=rfl
   have g2:=zbz b 2 (by decide)
   have a2:zaN none 9 [.ptr 2 0,.pv none (.int .i64 2)]=some (.ptr 2 2):=rfl
   have g3:=zbz b 3 (by decide)
   have a3:zaN none 9 [.ptr 2 0,.pv none (.int .i64 3)]=some (.ptr 2 3):=rfl
   have g4:=zbz b 4 (by decide)
   have a4:zaN none 9 [.ptr 2 0,.pv none (.int .i64 4)]=some (.ptr 2 4):=rfl
   have g5:=zbz b 5 (by decide)
   have a5:zaN none 9 [.ptr 2 0,.pv none (.int .i64 5)]=some (.ptr 2 5):=rfl
   have g6:=zbz b 6 (by decide)
   have a6:zaN none 9 [.ptr 2 0,.pv none (.int .i64 6)]=some (.ptr 2 6):=rfl
   have g7:=zbz b 7 (by decide)
   have a7:zaN none 9 [.ptr 2 0,.pv none (.int .i64 7)]=some (.ptr 2 7):=rfl
   have g8:=zbz b 8 (by decide)
   have a8:zaN none 9 [.ptr 2 0,.pv none (.int .i64 8)]=some (.ptr 2 8):=rfl
   rw[c7] at g7
   rw[c8] at g8
   rcases hk4 with hk|hk|hk|hk
   ·have c0:b 0=true:=by
     rw[hb]
     show decide (t.kind=0)=_
     rw[hk]
     rfl
    have c1:b 1=false:=by
     rw[hb]
     show decide (t.kind=2)=_
     rw[hk]
     rfl
    have c2:b 2=false:=by
     rw[hb]
     show decide (t.kind=1)=_
     rw[hk]
     rfl
    have c3:b 3=false:=by
     rw[hb]
     show decide (t.kind=3)=_
     rw[hk]
     rfl
    have c4:b 4=false:=by
     rw[hb]
     show(!decide (t.kind=0))=_
     rw[hk]
     rfl
    have c5:b 5=false:=by
     rw[hb]
     show(decide (t.kind=2) || decide (t.kind=1))=_
     rw[hk]
     rfl
    have c6:b 6=false:=by
     rw[hb]
     show(decide (t.kind=2) || decide (t.kind=3))=_
     rw[hk]
     rfl
    have hct:((cntB b 4:Nat):Int)=1:=by simp[cntB,c0,c1,c2,c3]
    rw[c0] at g0
    rw[c1] at g1
    rw[c2] at g2
    rw[c3] at g3
    rw[c4] at g4
    rw[c5] at g5
    rw[c6] at g6
    simp -dsimp -implicitDefEqProofs only[go_sem,seval,↓reduceIte,Tm.av,hlt,hbl,hvc,hal,hvl,hct,hbb,hft,htf,g0,g1,g2,g3,g4,g5,g6,g7,g8,a0,a1,a2,a3,a4,a5,a6,a7,a8,haw,zae (Nat.zero_le _)]
   ·have c0:b 0=false:=by
     rw[hb]
     show decide (t.kind=0)=_
     rw[hk]
     rfl
    have c1:b 1=false:=by
     rw[hb]
     show decide (t.kind=2)=_
     rw[hk]
     rfl
    have c2:b 2=true:=by
     rw[hb]
     show decide (t.kind=1)=_
     rw[hk]
     rfl
    have c3:b 3=false:=by
     rw[hb]
     show decide (t.kind=3)=_
     rw[hk]
     rfl
    have c4:b 4=true:=by
     rw[hb]
     show(!decide (t.kind=0))=_
     rw[hk]
     rfl
    have c5:b 5=true:=by
     rw[hb]
     show(decide (t.kind=2) || decide (t.kind=1))=_
     rw[hk]
     rfl
    have c6:b 6=false:=by
     rw[hb]
     show(decide (t.kind=2) || decide (t.kind=3))=_
     rw[hk]
     rfl
    have hct:((cntB b 4:Nat):Int)=1:=by simp[cntB,c0,c1,c2,c3]
    rw[c0] at g0
    rw[c1] at g1
    rw[c2] at g2
    rw[c3] at g3
    rw[c4] at g4
    rw[c5] at g5
    rw[c6] at g6
    simp -dsimp -implicitDefEqProofs only[go_sem,seval,↓reduceIte,Tm.av,hlt,hbl,hvc,hal,hvl,hct,hbb,hft,htf,g0,g1,g2,g3,g4,g5,g6,g7,g8,a0,a1,a2,a3,a4,a5,a6,a7,a8,haw,zae (Nat.zero_le _)]
   ·have c0:b 0=false:=by
     rw[hb]
     show decide (t.kind=0)=_
     rw[hk]
     rfl
    have c1:b 1=true:=by
     rw[hb]
     show decide (t.kind=2)=_
     rw[hk]
     rfl
    have c2:b 2=false:=by
     rw[hb]
     show decide (t.kind=1)=_
     rw[hk]
     rfl
    have c3:b 3=false:=by
     rw[hb]
     show decide (t.kind=3)=_
     rw[hk]
     rfl
    have c4:b 4=true:=by
     rw[hb]
     show(!decide (t.kind=0))=_
     rw[hk]
     rfl
    have c5:b 5=true:=by
     rw[hb]
     show(decide (t.kind=2) || decide (t.kind=1))=_
     rw[hk]
     rfl
    have c6:b 6=true:=by
     rw[hb]
     show(decide (t.kind=2) || decide (t.kind=3))=_
     rw[hk]
     rfl
    have hct:((cntB b 4:Nat):Int)=1:=by simp[cntB,c0,c1,c2,c3]
    rw[c0] at g0
    rw[c1] at g1
    rw[c2] at g2
    rw[c3] at g3
    rw[c4] at g4
    rw[c5] at g5
    rw[c6] at g6
    simp -dsimp -implicitDefEqProofs only[go_sem,seval,↓reduceIte,Tm.av,hlt,hbl,hvc,hal,hvl,hct,hbb,hft,htf,g0,g1,g2,g3,g4,g5,g6,g7,g8,a0,a1,a2,a3,a4,a5,a6,a7,a8,haw,zae (Nat.zero_le _)]
   ·have c0:b 0=false:=by
     rw[hb]
     show decide (t.kind=0)=_
     rw[hk]
     rfl
    have c1:b 1=false:=by
     rw[hb]
     show decide (t.kind=2)=_
     rw[hk]
     rfl
    have c2:b 2=false:=by
     rw[hb]
     show decide (t.kind=1)=_
     rw[hk]
     rfl
    have c3:b 3=true:=by
     rw[hb]
     show decide (t.kind=3)=_
     rw[hk]
     rfl
    have c4:b 4=true:=by
     rw[hb]
     show(!decide (t.kind=0))=_
     rw[hk]
     rfl
    have c5:b 5=false:=by
     rw[hb]
     show(decide (t.kind=2) || decide (t.kind=1))=_
     rw[hk]
     rfl
    have c6:b 6=true:=by
     rw[hb]
     show(decide (t.kind=2) || decide (t.kind=3))=_
     rw[hk]
     rfl
    have hct:((cntB b 4:Nat):Int)=1:=by simp[cntB,c0,c1,c2,c3]
    rw[c0] at g0
    rw[c1] at g1
    rw[c2] at g2
    rw[c3] at g3
    rw[c4] at g4
    rw[c5] at g5
    rw[c6] at g6
    simp -dsimp -implicitDefEqProofs only[go_sem,seval,↓reduceIte,Tm.av,hlt,hbl,hvc,hal,hvl,hct,hbb,hft,htf,g0,g1,g2,g3,g4,g5,g6,g7,g8,a0,a1,a2,a3,a4,a5,a6,a7,a8,haw,zae (Nat.zero_le _)]
end Go.Proofs.YtiifblpdlphchaaGreatRR
namespace Go.Proofs.YtiifblpdlphchaaGreatRR
open Go.Am Go.ChangeShapes Go.WideShapes Go.ChangeAt Go.RowKit
theorem znQ(H:Type):BulkLaws (H:=H) Rows.uptoBulk Rows.uptoBulkAll where
 nil:=by simp[Rows.uptoBulkAll]
 cons d r:=by simp[Rows.uptoBulkAll]
 slice e s:=by simp[Rows.uptoBulk]
 agg l:=by simp[Rows.uptoBulk]
 string l:=by simp[Rows.uptoBulk]
theorem zlN{H:Type}{l:List (DataW H)}(hk:Rows.uptoSmall H l=true):Rows.uptoBulkAll l<=1048576:=of_decide_eq_true hk
def zkv(P:Program)(tA tT:TypeId):Bool:=
 (match P.underlying tA with|some (.slice t)=>t == tT|_=>false) &&
 (match P.underlying tT with
  |some (.struct fs)=>match fs.toList.map (·.type) with
   |[a,b,c,d]=>d == tA && (match P.underlying a with|some (.int .i64)=>true|_=>false) && (match P.underlying b with|some (.int .i64)=>true|_=>false) && (match P.underlying c with|some .string=>true|_=>false) && decide (shOf P a=none) && decide (shOf P b=none) && decide (shOf P c=none)
   |_=>false
  |_=>false) && decide (shOf P tT=some 4) && decide (shOf P tA=none)
theorem zjI{P:Program}{tA tT:TypeId}(h:zkv P tA tT=true):TermTy P tA tT:=by
 unfold zkv at h
 simp only[Bool.and_eq_true,decide_eq_true_eq] at h
 obtain⟨⟨⟨h1,h2⟩,h3⟩,h4⟩:=h
 refine⟨?_,?_⟩
 ·split at h1
  ·rename_i t ht;rw[ht];simp at h1;rw[h1]
  ·cases h1
 ·split at h2
  ·rename_i fs hfs
   split at h2
   ·rename_i a b c d hl
    simp only[Bool.and_eq_true,decide_eq_true_eq,beq_iff_eq] at h2
    obtain⟨⟨⟨⟨⟨⟨k1,k2⟩,k3⟩,k4⟩,k5⟩,k6⟩,k7⟩:=h2
    subst k1
    refine⟨fs,a,b,c,hfs,hl,?_,?_,?_,h3,h4,k5,k6,k7⟩
    ·split at k2
     ·assumption
     ·cases k2
    ·split at k3
     ·assumption
     ·cases k3
    ·split at k4
     ·assumption
     ·cases k4
   ·cases h2
  ·cases h2
theorem zrL:TermTy Tryz.prog 24 26:=zjI (by kernel_rfl)
def znR:List TypeId:=[2,3,4,5,9,24,26]
theorem closed:zko Tryz.prog znR=true:=by kernel_rfl
set_option maxRecDepth 100000 in
theorem znS{H:Type}{enc:TypeId × Value->H}{W:World}{base:Nat}{v:Value}{d:DataW H}{ps:List MemPlace}(h:DataW.Trod enc Tryz.prog W 0 (fun _=>true) true 26 v d ps)(hv:Value.okWide Tryz.prog W .any base 26 v):
  ∃t:Tm,AR W (noX (P:=Tryz.prog)) noμ [] t.av v/\t.size<=Rows.uptoBulk d/\t.rng:=by
 obtain⟨fuel,h0⟩:=h
 obtain⟨p,hp⟩:=znM closed fuel _ _ _ _ (by simp[znR]) h0
 obtain⟨t,rfl,h1,h2⟩:=(ziy zrL (znQ H) fuel).1 d p hp
 have:=zrD ⟨fuel,h0⟩ (by kernel_rfl) hp (zlK hv)
 rw[show shOf Tryz.prog 26=some 4 from by kernel_rfl] at this
 exact⟨t,this,h1,h2⟩
end Go.Proofs.YtiifblpdlphchaaGreatRR
namespace Go.Proofs.YtiifblpdlphchaaGreatRR
open Go.Am Go.ChangeShapes Go.WideShapes Go.ChangeAt Go.RowKit
end Go.Proofs.YtiifblpdlphchaaGreatRR
namespace Go.Proofs.YtiifblpdlphchaaGreatRR
open Go.Am Go.ChangeShapes Go.WideShapes Go.ChangeAt Go.RowKit
end Go.Proofs.YtiifblpdlphchaaGreatRR
