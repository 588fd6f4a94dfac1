/- What is proved: the abstract machine says true of the model (part 5). No conditions beside those that each theorem names. -/
import Derived.Test.YtiifblpdlphchaaGreatRRAm4
set_option linter.unusedSimpArgs false
set_option linter.unusedVariables false
/- Terms: sizes, valid ones; how their parts are read. -/
namespace Go.Am
mutual
def Tm.size:Tm->Nat
 | .mk _ _ _ as=>1+Tm.sizes as
def Tm.sizes:List Tm->Nat
 |[]=>0
 |t::r=>t.size+Tm.sizes r
end
theorem Tm.size_eq(t:Tm):t.size=1+Tm.sizes t.args:=by cases t;simp[Tm.size,Tm.args]
theorem Tm.size_pos(t:Tm):0<t.size:=by rw[Tm.size_eq];omega
theorem Tm.zvK:∀{l:List Tm} {t:Tm},t∈l->t.size<=Tm.sizes l
 |x::r,t,h=>by
  simp only[Tm.sizes]
  rcases List.mem_cons.1 h with rfl|h
  ·omega
  ·have:=Tm.zvK h;omega
theorem Tm.zvC(l r:List Tm):Tm.sizes (l++r)=Tm.sizes l+Tm.sizes r:=by
 induction l with
 |nil=>simp[Tm.sizes]
 |cons x l ih=>simp only[List.cons_append,Tm.sizes,ih];omega
theorem Tm.zvt(l:List Tm):l.length<=Tm.sizes l:=by
 induction l with
 |nil=>simp
 |cons x l ih=>have:=x.size_pos;simp only[List.length_cons,Tm.sizes];omega
theorem Tm.zvD{l:List Tm}{i:Nat}{t:Tm}(h:l[i]? =some t):Tm.sizes (l.take (i+1))=Tm.sizes (l.take i)+t.size:=by
 rw[List.take_add_one,h,Tm.zvC]
 simp[Tm.sizes]
theorem Tm.zvz(l:List Tm)(i:Nat):Tm.sizes (l.take i)<=Tm.sizes l:=by
 have h:=Tm.zvC (l.take i) (l.drop i)
 rw[List.take_append_drop] at h
 omega
theorem Tm.zvv{t u:Tm}(h:u∈t.args):u.size<t.size:=by
 have:=Tm.zvK h
 rw[t.size_eq]
 omega
theorem Tm.zvu{P:Tm->Prop}(h:∀t:Tm,(∀u∈t.args,P u)->P t)(t:Tm):P t:=by
 have:∀n (t:Tm),t.size<=n->P t:=by
  intro n
  induction n with
  |zero=>intro t ht;have:=t.size_pos;omega
  |succ n ih=>exact fun t ht=>h t fun u hu=>ih u (by have:=Tm.zvv hu;omega)
 exact this _ t (Nat.le_refl _)
theorem Tm.zvH(l:List Tm):Tm.pvs l=l.map Tm.pv:=by
 induction l with
 |nil=>rfl
 |cons x l ih=>simp[Tm.pvs,ih]
theorem Tm.pvs_get{l:List Tm}{i:Nat}{t:Tm}(h:l[i]? =some t):(Tm.pvs l)[i]? =some t.pv:=by simp[Tm.zvH,h]
theorem Tm.pvs_len(l:List Tm):(Tm.pvs l).length=l.length:=by simp[Tm.zvH]
theorem Tm.zvA(l r:List Tm):Tm.pvs (l++r)=Tm.pvs l++Tm.pvs r:=by simp[Tm.zvH]
theorem Tm.zvx{l:List Tm}{i:Nat}{t:Tm}(h:l[i]? =some t):Tm.pvs (l.take i)++[t.pv]=Tm.pvs (l.take (i+1)):=by
 rw[List.take_add_one,h,Tm.zvA]
 rfl
theorem zaq(t:Tm):PV.part deep t.pv 0 none=some (.int .i64 t.kind):=by cases t;rfl
theorem za3(t:Tm):PV.part deep t.pv 1 none=some (.int .i64 t.n):=by cases t;rfl
theorem zar(t:Tm):PV.part deep t.pv 2 none=some (.str t.name):=by cases t;rfl
theorem zag(t:Tm):PV.part deep t.pv 3 none=some (.sl (some 4) (Tm.pvs t.args)):=by cases t;rfl
theorem zaR{x:Int}(h: -9223372036854775808<=x)(h':x<9223372036854775808):IntKind.i64.wrap x=x:=by
 rw[IntKind.wrap_i64]
 omega
end Go.Am
namespace Go.Am
def Tm.node(t:Tm):Bool:=
 if t.kind=0 then decide (0<=t.n) && decide (t.n<=1099511627776) && decide (t.name=[]) && decide ((t.args.length:Int)=0)
 else if t.kind=1 then decide (t.name=[]) && decide ((t.args.length:Int)=0)
 else if t.kind=2 then decide (t.n=0) && decide ((t.name.length:Int)<=100) && decide ((t.args.length:Int)=0)
 else if t.kind=3 then decide (t.n=0) && decide ((t.name.length:Int)<=100) && decide (0<(t.args.length:Int)) && decide ((t.args.length:Int)<=8)
 else false
mutual
def Tm.fits:Tm->Bool
 | .mk k n s as=>Tm.node (.mk k n s as) && Tm.fitsAll as
def Tm.fitsAll:List Tm->Bool
 |[]=>true
 |t::r=>t.fits && Tm.fitsAll r
end
theorem Tm.zvB(t:Tm):t.fits=(t.node && Tm.fitsAll t.args):=by cases t;simp[Tm.fits,Tm.args]
theorem Tm.fitsAll_iff{l:List Tm}:Tm.fitsAll l=true↔∀t∈l,t.fits=true:=by
 induction l with
 |nil=>simp[Tm.fitsAll]
 |cons x l ih=>simp[Tm.fitsAll,ih]
theorem Tm.zvE(l r:List Tm):Tm.fitsAll (l++r)=(Tm.fitsAll l && Tm.fitsAll r):=by
 induction l with
 |nil=>simp[Tm.fitsAll]
 |cons x l ih=>simp[Tm.fitsAll,ih,Bool.and_assoc]
theorem Tm.zvI{l:List Tm}{i:Nat}{t:Tm}(h:l[i]? =some t):Tm.fitsAll (l.take (i+1))=(Tm.fitsAll (l.take i) && t.fits):=by
 rw[List.take_add_one,h,Tm.zvE]
 simp[Tm.fitsAll]
theorem Tm.zvw{t u:Tm}(h:t.fits=true)(hu:u∈t.args):u.fits=true:=by
 rw[Tm.zvB,Bool.and_eq_true] at h
 exact Tm.fitsAll_iff.1 h.2 u hu
def Tm.valid(t:Tm):Bool:=decide (t.size<=2000) && t.fits
end Go.Am

/- Functions that run on their caller's heap; loops' heaps. -/
namespace Go.Am
variable{F:FuncId->Option AFn} {prim:FuncId->Option za9}
theorem zaE{f:FuncId}{fn:AFn}{args:List AV}{hp hp':Heap}{v:AV}(hp0:prim f=none)(hf:F f=some fn)(hm:fn.heapMode=true)(hn:args.length=fn.nparams)
  (h:W (sem F prim) (sloop F prim) hp.length fn.code ⟨params 0 args,hp⟩ (endK fn.results (fun v' h'=>v'=v/\(if v.refsIn.all (fun q=>decide (q<hp.length))=true then h'.take hp.length else h')=hp')))(hr:fn.rcv=none:=by rfl)(hmo:fn.more=[]:=by rfl):sem F prim .fn f args hp=some (.ret v,hp'):=by
 rw[zeA]
 unfold za5
 rw[hp0,hf]
 simp only[hr,hmo,Option.isSome_none,Bool.false_eq_true,if_false,hm,if_true,abody,hn,ne_eq,not_true_eq_false,if_false]
 unfold W at h
 split at h
 ·rename_i e st' he
  rw[he]
  cases e with
  |normal=>
   rw[zbl] at h
   cases hr:zas st' fn.results with
   |none=>rw[hr] at h;exact h.elim
   |some u=>
    rw[hr] at h
    obtain⟨h1,h2⟩:=h
    simp only[hr,h1,h2]
  |ret=>
   rw[zcf] at h
   cases hr:zas st' fn.results with
   |none=>rw[hr] at h;exact h.elim
   |some u=>
    rw[hr] at h
    obtain⟨h1,h2⟩:=h
    simp only[hr,h1,h2]
  |exit i=>exact h.elim
  |panic v=>exact h.elim
 ·exact h.elim
theorem zcj{n b:Nat}{fr:Fr}{hp:Heap}(h:hp.length=n):collect n b fr hp=hp:=by
 unfold collect
 split
 ·rw[<-h,List.take_length]
 ·rfl
theorem zbR{α:Type}{l r:List α}{i:Nat}(h:i<l.length):(l++r)[i]? =l[i]? :=List.getElem?_append_left h
theorem zr1{α:Type}(l:List α)(x:α):(l++[x])[l.length]? =some x:=by simp
theorem zp0{α:Type}{l r:List α}{i:Nat}(h:i<l.length)(x:α):(l++r).set i x=l.set i x++r:=by rw[List.set_append_left _ _ h]
theorem zbr{α:Type}{l:List α}{i:Nat}{x:α}(h:l[i]? =some x):i<l.length:=(List.getElem?_eq_some_iff.1 h).1
end Go.Am
namespace Go.Am
variable{Γ:Oracle} {Λ:zak} {b:Nat}
end Go.Am

namespace Go.Am
theorem zjP{b:Nat}{fr:Fr}(x:AObj):collect 1 b fr [x]=[x]:=zcj rfl
theorem zjQ{b:Nat}{fr:Fr}(x y:AObj):collect 2 b fr [x,y]=[x,y]:=zcj rfl
theorem zjR{b:Nat}{fr:Fr}(x y z:AObj):collect 3 b fr [x,y,z]=[x,y,z]:=zcj rfl
theorem zjS{b:Nat}{fr:Fr}:collect 0 b fr []=[]:=zcj rfl
def cmpI(x y:Int):Int:=if x<y then -1 else if y<x then 1 else 0
def zeC(x y:Int):Int:=if x=0 then y else x
mutual
def Tm.cmp:Tm->Tm->Int
 | .mk k n s as,.mk k' n' s' as'=>zeC (cmpI k k') (zeC (cmpI n n') (zeC (cmpI as.length as'.length) (zeC (Lib.compareBytes s s') (Tm.cmps as as'))))
def Tm.cmps:List Tm->List Tm->Int
 |x::r,y::r'=>zeC (x.cmp y) (Tm.cmps r r')
 |_,_=>0
end
theorem Tm.zvU(a b:Tm):a.cmp b=zeC (cmpI a.kind b.kind) (zeC (cmpI a.n b.n) (zeC (cmpI a.args.length b.args.length) (zeC (Lib.compareBytes a.name b.name) (Tm.cmps a.args b.args)))):=by
 cases a;cases b;rfl
theorem zcR(x:Int):cmpI x x=0:=by simp[cmpI]
theorem zhn(y:Int):zeC 0 y=y:=rfl
theorem zl4{x:Int}(h:x≠0)(y:Int):zeC x y=x:=if_neg h
theorem zp1{x y:Int}:cmpI x y=0↔x=y:=by
 unfold cmpI
 split
 ·constructor <;> intro h <;> omega
 ·split <;> constructor <;> intro h <;> omega
theorem Tm.zvO{l r:List Tm}{i:Nat}{x y:Tm}(h:l[i]? =some x)(h':r[i]? =some y):Tm.cmps (l.drop i) (r.drop i)=zeC (x.cmp y) (Tm.cmps (l.drop (i+1)) (r.drop (i+1))):=by
 obtain⟨h1,rfl⟩:=List.getElem?_eq_some_iff.1 h
 obtain⟨h2,rfl⟩:=List.getElem?_eq_some_iff.1 h'
 rw[List.drop_eq_getElem_cons h1,List.drop_eq_getElem_cons h2,Tm.cmps]
end Go.Am

namespace Go.Am
theorem Tm.zvG(l:List Tm):Tm.cmps [] l=0:=by simp[Tm.cmps]
end Go.Am

namespace Go.Am
def Kept(p:Prop):Prop:=p
theorem Kept.out{p:Prop}(h:Kept p):p:=h
theorem Kept.mk{p:Prop}(h:p):Kept p:=h
end Go.Am
namespace Go.Am
theorem zgn{F:FuncId->Option AFn}{prim:FuncId->Option za9}{f:FuncId}{fn:AFn}{args:List AV}{ps:List (Sh × PV)}{hp hp1 hp2:Heap}{v:AV}(hp0:prim f=none)(hf:F f=some fn)(hm:fn.heapMode=false)(hz:zam args hp=some (ps,hp1))
  (h:sem F prim .fn f (pvs ps) []=some (.ret v,hp2))(hr:fn.rcv=none:=by rfl):sem F prim .fn f args hp=some (.ret v,bif v.scalar then hp else hp1):=by
 rw[zeA] at h ⊢
 unfold za5 at h ⊢
 rw[hp0,hf] at h ⊢
 simp only[hr,Option.isSome_none,hm,Bool.false_eq_true,if_false,hz,zab] at h ⊢
 split at h
 ·split at h
  ·cases h;simp_all
  ·cases h
 ·cases h
 ·cases h
end Go.Am

namespace Go.Am
end Go.Am

namespace Go.Am
theorem zgo{sh s s':Sh}{k:IntKind}{es:List PV}{p:PV}(h:es[0]? =some p):za2 sh [.pv s (.sl sh es),.pv s' (.int k 0)]=some (.iptr sh p 0):=by
 simp[za2,aindex,h]
end Go.Am

namespace Go.Am
end Go.Am

namespace Go.Am
attribute [go_sem] zjS zjP zjQ zjR
end Go.Am

/- The standard order of terms is an order. -/
namespace Go.Am
open Lib (compareBytes)
theorem zl5{x y:Int}:zeC x y=0↔x=0/\y=0:=by
 unfold zeC;split <;> omega
theorem cb_zero:∀{a b:List UInt8},compareBytes a b=0↔a=b
 |[],[]=>by simp[compareBytes]
 |[],_::_=>by simp[compareBytes]
 |_::_,[]=>by simp[compareBytes]
 |x::a,y::b=>by
  simp only[compareBytes,List.cons.injEq]
  split
  ·rename_i h
   constructor
   ·intro h;omega
   ·rintro⟨rfl,_⟩;exact absurd h (by simp[UInt8.lt_iff_toNat_lt])
  ·split
   ·rename_i h
    constructor
    ·intro h;omega
    ·rintro⟨rfl,_⟩;exact absurd h (by simp[UInt8.lt_iff_toNat_lt])
   ·rename_i h1 h2
    have:x=y:=by
     rw[UInt8.lt_iff_toNat_lt] at h1 h2
     exact UInt8.toNat_inj.1 (by omega)
    simp[this,cb_zero]
theorem Tm.ext{a b:Tm}(h1:a.kind=b.kind)(h2:a.n=b.n)(h3:a.name=b.name)(h4:a.args=b.args):a=b:=by
 cases a;cases b;simp_all[Tm.kind,Tm.n,Tm.name,Tm.args]
theorem Tm.cmp_zero:∀{a b:Tm},a.cmp b=0↔a=b:=by
 intro a
 induction a using Tm.zvu with
 |h a ih=>
  intro b
  have lists:∀(l r:List Tm),(∀t∈l,∀{b:Tm},t.cmp b=0↔t=b)->l.length=r.length->(Tm.cmps l r=0↔l=r):=by
   intro l
   induction l with
   |nil=>intro r _ hl;have:r=[]:=List.length_eq_zero_iff.1 hl.symm;subst this;simp[Tm.cmps]
   |cons x l ihl=>
    intro r hx hl
    cases r with
    |nil=>simp at hl
    |cons y r=>
     simp only[Tm.cmps,zl5,List.cons.injEq]
     rw[hx x (by simp),ihl r (fun t ht=>hx t (by simp[ht])) (by simpa using hl)]
  rw[Tm.zvU]
  simp only[zl5,zp1,cb_zero]
  constructor
  ·rintro⟨h1,h2,h3,h4,h5⟩
   exact Tm.ext h1 h2 h4 ((lists _ _ ih (by omega)).1 h5)
  ·rintro rfl
   exact⟨rfl,rfl,rfl,rfl,(lists _ _ ih rfl).2 rfl⟩
end Go.Am

/- Flat clauses as plain data. -/
namespace Go.Am
structure Pr where
 name:List UInt8
 arity:Int
 aux:Int
structure Gl where
 kind:Int
 pred:Pr
 args:List Tm
 var:Int
structure Fl where
 pred:Pr
 args:List Tm
 goals:List Gl
def Pr.pv(p:Pr):PV:=.agg [(none,.str p.name),(none,.int .i64 p.arity),(none,.int .i64 p.aux)]
def Gl.pv(g:Gl):PV:=.agg [(none,.int .i64 g.kind),(some 3,g.pred.pv),(none,.sl (some 4) (Tm.pvs g.args)),(none,.int .i64 g.var)]
def Gl.pvs(l:List Gl):List PV:=l.map Gl.pv
def Fl.pv(f:Fl):PV:=.agg [(some 3,f.pred.pv),(none,.sl (some 4) (Tm.pvs f.args)),(none,.sl (some 6) (Gl.pvs f.goals))]
def Fl.av(f:Fl):AV:=.pv (some 5) f.pv
def Pr.ok(p:Pr):Bool:=
 if p.aux=0 then decide ((p.name.length:Int)<=100) && decide (0<=p.arity) && decide (p.arity<=8)
 else decide (p.name=[]) && decide (1<=p.aux) && decide (p.aux<=1099511627776) && decide (0<=p.arity) && decide (p.arity<=4096)
def Pr.zero(p:Pr):Bool:=decide (p.name=[]) && decide (p.arity=0) && decide (p.aux=0)
def ztH(left:Int):List Tm->Bool × Int
 |[]=>(true,left)
 |t::r=>if t.valid=true then if left - t.size<0 then(false,left - t.size) else ztH (left - t.size) r else(false,left)
def Gl.bare(g:Gl):Bool:=g.pred.zero && decide ((g.args.length:Int)=0)
def Gl.step(called:Bool)(left:Int)(g:Gl):Option (Bool × Int):=
 if g.kind=1 then
  if(g.pred.ok && decide ((g.args.length:Int)=g.pred.arity) && decide (g.var=0))=true then match ztH left g.args with
   |(true,l)=>some (true,l)
   |_=>none
  else none
 else if g.kind=2 then if(g.bare && decide (0<=g.var) && decide (g.var<=1099511627776) && !called)=true then some (called,left) else none
 else if g.kind=3\/g.kind=4 then if(g.bare && decide (0<=g.var) && decide (g.var<=1099511627776))=true then some (called,left) else none
 else if g.kind=5 then if(g.bare && decide (g.var=0))=true then some (called,left) else none
 else none
def Gl.steps:Bool->Int->List Gl->Bool
 |_,_,[]=>true
 |called,left,g::r=>match g.step called left with
  |some (c,l)=>Gl.steps c l r
  |none=>false
def Fl.valid(f:Fl):Bool:=
 f.pred.ok && decide ((f.args.length:Int)=f.pred.arity) && match ztH 131072 f.args with
  |(true,l)=>Gl.steps false l f.goals
  |_=>false

theorem valid_size{t:Tm}(h:t.valid=true):t.size<=2000:=by
 unfold Tm.valid at h
 simp only[Bool.and_eq_true,decide_eq_true_eq] at h
 exact h.1
end Go.Am
namespace Go.Am
theorem zaL(r o:Nat):zck [.ptr r o]=some (.ptr r o):=rfl
end Go.Am
namespace Go.Am
end Go.Am
namespace Go.Am
theorem Gl.pvs_len(l:List Gl):(Gl.pvs l).length=l.length:=by simp[Gl.pvs]
theorem Gl.pvs_get{l:List Gl}{i:Nat}{g:Gl}(h:l[i]? =some g):(Gl.pvs l)[i]? =some g.pv:=by simp[Gl.pvs,h]
end Go.Am
namespace Go.Am
end Go.Am
namespace Go.Am
end Go.Am
namespace Go.Am
mutual
def Tm.occ:Tm->List Int
 | .mk k n _ as=>if k=0 then[n] else Tm.occs as
def Tm.occs:List Tm->List Int
 |[]=>[]
 |t::r=>t.occ++Tm.occs r
end
theorem Tm.occ_eq(t:Tm):t.occ=if t.kind=0 then[t.n] else Tm.occs t.args:=by cases t;rfl
theorem Tm.zvQ(x y:List Tm):Tm.occs (x++y)=Tm.occs x++Tm.occs y:=by
 induction x with
 |nil=>simp[Tm.occs]
 |cons t r ih=>simp[Tm.occs,ih,List.append_assoc]
theorem Tm.zvF{l:List Tm}{i:Nat}{t:Tm}(h:l[i]? =some t):Tm.occs (l.take (i+1))=Tm.occs (l.take i)++t.occ:=by
 obtain⟨h1,rfl⟩:=List.getElem?_eq_some_iff.1 h
 rw[List.take_succ_eq_append_getElem h1,Tm.zvQ]
 simp[Tm.occs]
theorem Tm.occ_len:∀t:Tm,t.occ.length<=t.size:=by
 intro t
 induction t using Tm.zvu with
 |h t ih=>
  rw[Tm.occ_eq,Tm.size_eq]
  split
  ·simp
  ·have key:∀l:List Tm,(∀u∈l,u.occ.length<=u.size)->(Tm.occs l).length<=Tm.sizes l:=by
    intro l
    induction l with
    |nil=>intro _;simp[Tm.occs]
    |cons u r ih2=>
     intro hu
     have h1:=hu u (by simp)
     have h2:=ih2 fun v hv=>hu v (by simp[hv])
     simp only[Tm.occs,Tm.sizes,List.length_append]
     omega
   have:=key t.args ih
   omega
end Go.Am
namespace Go.Am
def Gl.op(g:Gl):Bool:=decide (g.kind=2) || decide (g.kind=3) || decide (g.kind=4)
def Gl.next(calls:Int)(g:Gl):Int:=if g.kind=1 then calls+1 else calls
theorem Tm.zvN(l:List Tm):(Tm.occs l).length<=Tm.sizes l:=by
 induction l with
 |nil=>simp[Tm.occs]
 |cons x y ih=>have:=x.occ_len;simp only[Tm.occs,Tm.sizes,List.length_append];omega
end Go.Am

/- Heaps of which a part is known. -/
namespace Go.Am
theorem getN{l xs:Heap}{n:Nat}(h:l.length=n)(k:Nat):(l++xs)[n+k]? =xs[k]? :=by
 rw[<-h,List.getElem?_append_right (by omega)]
 congr 1
 omega
theorem zdm{l xs:Heap}{n:Nat}(h:l.length=n):(l++xs)[n]? =xs[0]? :=getN h 0
theorem setN{l xs:Heap}{n:Nat}(h:l.length=n)(k:Nat)(x:AObj):(l++xs).set (n+k) x=l++xs.set k x:=by
 rw[<-h,List.set_append_right _ _ (by omega)]
 congr 2
 omega
theorem zdV{l xs:Heap}{n:Nat}(h:l.length=n)(x:AObj):(l++xs).set n x=l++xs.set 0 x:=setN h 0 x
theorem zjT{l xs:Heap}{n:Nat}(h:l.length=n)(k:Nat):(l++xs).take (n+k)=l++xs.take k:=by
 rw[<-h,List.take_append,List.take_of_length_le (by omega)]
 congr 2
 omega
theorem zcr{n b:Nat}(k:Nat){fr:Fr}{base xs:Heap}(hb:base.length=b)(hn:n=b+k)(ho:(xs.take k).all (fun o=>o.refs.all (fun q=>decide (q<n)))=true)(hf:fr.all (fun x=>x.2.refsIn.all (fun q=>decide (q<n)))=true):collect n b fr (base++xs)=base++xs.take k:=by
 have h1:(base++xs).take n=base++xs.take k:=by rw[hn];exact zjT hb k
 have h2:((base++xs).take n).drop b=xs.take k:=by rw[h1,<-hb];exact List.drop_left
 unfold collect
 rw[if_pos (by rw[hf,h2,ho];rfl),h1]
theorem zcs{n b:Nat}{fr:Fr}{hp:Heap}(h:hp.length=n):collect n b fr hp=hp:=zcj h
variable{F:FuncId->Option AFn} {prim:FuncId->Option za9}
theorem zdn{α:Type}(N:Nat)(inv:Nat->α->Prop)(sti:Nat->α->St){b:Nat}{keep:List Nat}{c:ACode}{st:St}{Q:AExit->St->Prop}(a0:α)(h0:inv 0 a0/\(⟨st.fr.keep keep,st.hp⟩:St)=sti 0 a0)
  (h1:∀i a,i<N->inv i a->W (sem F prim) (sloop F prim) b c (sti i a) (seqK (fun st'=>∃a',inv (i+1) a'/\(⟨st'.fr.keep keep,collect st.hp.length b (st'.fr.keep keep) st'.hp⟩:St)=sti (i+1) a') Q))
  (h2:∀a,inv N a->W (sem F prim) (sloop F prim) b c (sti N a) (seqK (fun _=>False) Q)):W (sem F prim) (sloop F prim) b (.loop keep c) st Q:=by
 refine zdY (fun n s=>∃i a,n=N - i/\i<=N/\inv i a/\s=sti i a) (n:=N) ⟨0,a0,rfl,Nat.zero_le _,h0.1,h0.2⟩ ?_
 rintro n s ⟨i,a,hn,hi,hinv,rfl⟩
 by_cases h:i<N
 ·refine zl3 (h1 i a h hinv) fun e st' he=> ?_
  cases e with
  |normal=>
   obtain⟨a',k1,k2⟩:=he
   exact⟨N - (i+1),by omega,i+1,a',rfl,by omega,k1,k2⟩
  |exit j=>exact he
  |ret=>exact he
  |panic v=>exact he
 ·obtain rfl:i=N:=by omega
  refine zl3 (h2 a hinv) fun e st' he=> ?_
  cases e with
  |normal=>exact he.elim
  |exit j=>exact he
  |ret=>exact he
  |panic v=>exact he
theorem zdd{str ok:Bool}{sh:Sh}{zero:AV}{hp:Heap}{r:Nat}{s:Sh}{k v:PV}{es:List (PV × PV)}(ho:hp[r]? =some (.map sh es))(hf:afind str k es=some (some v)):za4 str sh zero ok hp [.map r,.pv s k]=some (bif ok then .tuple [.pv sh v,.pv none (.bool true)] else .pv sh v):=by
 simp[za4,ho,hf]
theorem zbJ{str ok:Bool}{sh:Sh}{zero:AV}{hp:Heap}{r:Nat}{s:Sh}{k:PV}{es:List (PV × PV)}(ho:hp[r]? =some (.map sh es))(hf:afind str k es=some none):za4 str sh zero ok hp [.map r,.pv s k]=some (bif ok then .tuple [zero,.pv none (.bool false)] else zero):=by
 simp[za4,ho,hf]
theorem zde{str:Bool}{sh:Sh}{hp:Heap}{r:Nat}{s:Sh}{k p:PV}{es es':List (PV × PV)}(ho:hp[r]? =some (.map sh es))(hf:aput str k p es=some es'):zb6 str sh hp [.map r,.pv s k,.pv sh p]=some (.undef,hp.set r (.map sh es')):=by
 have h:AV.freeze deep (.pv sh p) hp=some (p,hp):=rfl
 simp[zb6,AV.shp,h,ho,hf]
theorem zgU{b r:Nat}{s s':Sh}{hp:Heap}{q v o n v' o' n':Nat}(h:r<b)(ho:hp[r]? =some (.box none (.sl s q v o n))):zaD none b hp [.ptr r 0,.sl s' q v' o' n']=some (.undef,hp.set r (.box none (.sl s' q v' o' n'))):=by
 simp[zaD,astore,ho,AV.plain,AV.shp,Nat.not_le.2 h,AV.refsIn]
end Go.Am

/- Sorting: insertion, merging, and that both come to the same. -/
namespace Go.Am
section
variable{α:Type} (c:α->α->Int)
structure Cmp:Prop where
 neg:∀x y,c y x= - c x y
 trans:∀{x y z},c x y<=0->c y z<=0->c x z<=0

def mrg:List α->List α->List α
 |[],B=>B
 |a::A,B=>go a A (mrg A) B
where
 go (a:α) (A:List α) (rest:List α->List α):List α->List α
 |[]=>a::A
 |b::B=>if c b a<0 then b::go a A rest B else a::rest (b::B)
theorem zeD:∀A:List α,mrg c A []=A
 |[]=>rfl
 |_::_=>rfl
theorem zl6(a:α)(A:List α)(b:α)(B:List α):mrg c (a::A) (b::B)=if c b a<0 then b::mrg c (a::A) B else a::mrg c A (b::B):=rfl
def Srt(l:List α):Prop:=l.Pairwise fun x y=>c x y<=0

variable{c}
theorem Srt.tail{a:α}{l:List α}(h:Srt c (a::l)):Srt c l:=(List.pairwise_cons.1 h).2
theorem Srt.head{a:α}{l:List α}(h:Srt c (a::l)):∀x∈l,c a x<=0:=(List.pairwise_cons.1 h).1
theorem zl7:∀(A B:List α),(mrg c A B).Perm (A++B)
 |[],B=>by simp[mrg]
 |a::A,B=>by
  induction B with
  |nil=>simp[zeD]
  |cons b B ih=>
   rw[zl6]
   split
   ·exact(List.Perm.cons b ih).trans (List.perm_middle (l₁:=a::A) (l₂:=B) (a:=b)).symm
   ·exact List.Perm.cons a (zl7 A (b::B))
def insC(c:α->α->Int)(t:α):List α->List α
 |[]=>[t]
 |x::l=>if c t x<0 then t::x::l else x::insC c t l
def isort(c:α->α->Int)(l:List α):List α:=l.foldl (fun s t=>insC c t s) []
theorem zl8(t:α):∀l:List α,insC c t l=mrg c l [t]
 |[]=>rfl
 |x::l=>by
  rw[zl6,insC]
  split
  ·rw[zeD]
  ·rw[zl8 t l]
theorem znT(l:List α):(isort c l).Perm l:=by
 have:∀(l A:List α),(l.foldl (fun s t=>insC c t s) A).Perm (A++l):=by
  intro l
  induction l with
  |nil=>intro A;simp
  |cons t l ih=>
   intro A
   refine(ih _).trans ?_
   show(insC c t A++l).Perm _
   rw[zl8]
   refine((zl7 A [t]).append_right l).trans ?_
   simp
 simpa[isort] using this l []
theorem zdA(l:List α):(isort c l).length=l.length:=(znT l).length_eq
end
end Go.Am
namespace Go.Am
end Go.Am
namespace Go.Am
section
variable{α:Type} {c:α->α->Int}
inductive Blk(c:α->α->Int)(n:Nat):List α->List α->Prop
 |last (x:List α) (h:x.length<=n):Blk c n x (isort c x)
 |cons (x r d:List α) (h:x.length=n) (k:Blk c n r d):Blk c n (x++r) (isort c x++d)
inductive Full(c:α->α->Int)(n:Nat):List α->List α->Prop
 |nil:Full c n [] []
 |snoc (x r d:List α) (h:x.length=n) (k:Full c n r d):Full c n (r++x) (d++isort c x)
theorem Full.blk{n:Nat}{r d r' d':List α}(h:Full c n r d)(k:Blk c n r' d'):Blk c n (r++r') (d++d'):=by
 induction h generalizing r' d' with
 |nil=>exact k
 |snoc x r d hx _ ih=>
  have:=ih (.cons x r' d' hx k)
  simpa using this
theorem Full.length{n:Nat}{r d:List α}(h:Full c n r d):d.length=r.length:=by
 induction h with
 |nil=>rfl
 |snoc x r d hx _ ih=>simp[ih,zdA]
theorem Blk.length{n:Nat}{r d:List α}(h:Blk c n r d):d.length=r.length:=by
 induction h with
 |last x h=>exact zdA x
 |cons x r d hx _ ih=>simp[ih,zdA]
theorem Blk.two{n:Nat}{r d:List α}(h:Blk c n r d)(hn:0<n)(hr:n<r.length):∃x y r2 d2,r=x++y++r2/\d=isort c x++isort c y++d2/\x.length=n/\y.length<=n/\0<y.length/\Blk c n r2 d2/\(y.length<n->r2=[]):=by
 cases h with
 |last x h=>omega
 |cons x r1 d1 hx k=>
  cases k with
  |last _ hy=>exact⟨x,r1,[],[],by simp,by simp,hx,hy,by simp at hr;omega,.last [] (by simp),fun _=>rfl⟩
  |cons y r2 d2 hy k=>exact⟨x,y,r2,d2,by simp,by simp,hx,by omega,by omega,k,fun h=>by omega⟩
end
end Go.Am

/- Terms out of values, and comparing by what they stand for. -/
namespace Go.Am
end Go.Am

/- Neighbours that are the same, dropped; what sorting and dropping leaves. -/
namespace Go.Am
def zuz(s:List Tm)(x:Tm):List Tm:=match s.getLast? with
 |some y=>if x.cmp y=0 then s else s++[x]
 |none=>[x]
def dd(l:List Tm):List Tm:=l.foldl zuz []
end Go.Am

/- Runs with facts: what is known of calls of values alone is looked up. -/
namespace Go.Am
mutual
def PV.eqB:Nat->PV->PV->Bool
 |0,_,_=>false
 |_+1,.bool a,.bool b=>a == b
 |_+1,.int k n,.int k' n'=>decide (k=k') && decide (n=n')
 |_+1,.str s,.str s'=>decide (s.map UInt8.toNat=s'.map UInt8.toNat)
 |d+1,.agg l,.agg l'=>PV.eqA d l l'
 |d+1,.sl sh es,.sl sh' es'=>decide (sh=sh') && PV.eqL d es es'
 |_+1,_,_=>false
termination_by structural d _ _=>d
def PV.eqA:Nat->List (Sh × PV)->List (Sh × PV)->Bool
 |0,_,_=>false
 |_+1,[],[]=>true
 |d+1,(s,a)::r,(s',b)::r'=>decide (s=s') && (PV.eqB d a b && PV.eqA d r r')
 |_+1,_,_=>false
termination_by structural d _ _=>d
def PV.eqL:Nat->List PV->List PV->Bool
 |0,_,_=>false
 |_+1,[],[]=>true
 |d+1,a::r,b::r'=>PV.eqB d a b && PV.eqL d r r'
 |_+1,_,_=>false
termination_by structural d _ _=>d
end
theorem zeE:∀{a b:List UInt8},a.map UInt8.toNat=b.map UInt8.toNat->a=b
 |[],[],_=>rfl
 |[],_::_,h=>by simp at h
 |_::_,[],h=>by simp at h
 |x::r,y::t,h=>by
  simp only[List.map_cons,List.cons.injEq] at h
  rw[UInt8.toNat.inj h.1,zeE h.2]
theorem zsL:∀d,(∀a b,PV.eqB d a b=true->a=b)/\(∀a b,PV.eqA d a b=true->a=b)/\(∀a b,PV.eqL d a b=true->a=b)
 |0=>⟨fun _ _ h=>Bool.noConfusion (show false=true from h),fun _ _ h=>Bool.noConfusion (show false=true from h),fun _ _ h=>Bool.noConfusion (show false=true from h)⟩
 |d+1=>by
  obtain⟨h1,h2,h3⟩:=zsL d
  refine⟨fun a b h=> ?_,fun a b h=> ?_,fun a b h=> ?_⟩
  ·cases a <;> cases b <;> try (exact Bool.noConfusion (show false=true from h))
   ·rw[eq_of_beq h]
   ·rename_i k n k' n'
    have h:(decide (k=k') && decide (n=n'))=true:=h
    simp only[Bool.and_eq_true,decide_eq_true_eq] at h
    rw[h.1,h.2]
   ·rw[zeE (of_decide_eq_true h)]
   ·rw[h2 _ _ h]
   ·rename_i sh es sh' es'
    have h:(decide (sh=sh') && PV.eqL d es es')=true:=h
    simp only[Bool.and_eq_true,decide_eq_true_eq] at h
    rw[h.1,h3 _ _ h.2]
  ·cases a with
   |nil=>cases b with
    |nil=>rfl
    |cons=>exact Bool.noConfusion (show false=true from h)
   |cons x r=>cases b with
    |nil=>exact Bool.noConfusion (show false=true from h)
    |cons y t=>
     obtain⟨s,a⟩:=x
     obtain⟨s',b⟩:=y
     have h:(decide (s=s') && (PV.eqB d a b && PV.eqA d r t))=true:=h
     simp only[Bool.and_eq_true,decide_eq_true_eq] at h
     rw[h.1,h1 _ _ h.2.1,h2 _ _ h.2.2]
  ·cases a with
   |nil=>cases b with
    |nil=>rfl
    |cons=>exact Bool.noConfusion (show false=true from h)
   |cons x r=>cases b with
    |nil=>exact Bool.noConfusion (show false=true from h)
    |cons y t=>
     have h:(PV.eqB d x y && PV.eqL d r t)=true:=h
     simp only[Bool.and_eq_true] at h
     rw[h1 _ _ h.1,h3 _ _ h.2]
abbrev Facts:=List (FuncId × List (Sh × PV) × AV)
def zp2:Facts->FuncId->List (Sh × PV)->Option AV
 |[],_,_=>none
 |(g,qs,v)::r,f,ps=>bif Nat.beq g f then(bif PV.eqA 60 qs ps then some v else zp2 r f ps) else zp2 r f ps
def hasF:Facts->FuncId->Bool
 |[],_=>false
 |(g,_,_)::r,f=>bif Nat.beq g f then true else hasF r f
def ztI(K:Facts)(f:FuncId)(args:List AV)(hp:Heap):Option (ARes × Heap):=
 match zam args hp with
 |none=>none
 |some (ps,hp1)=>match zp2 K f ps with
  |some v=>some (.ret v,bif v.scalar then hp else hp1)
  |none=>none
def ze8(K:Facts)(F:FuncId->Option AFn)(prim:FuncId->Option za9):Nat->Oracle
 |0=>fun _ _ _ _=>none
 |n+1=>fun k f args hp=>match k with
  | .fn=>bif hasF K f then(match ztI K f args hp with
    |some r=>some r
    |none=>acall F prim (ze8 K F prim n) (aloop (ze8 K F prim n) n) .fn f args hp)
   else acall F prim (ze8 K F prim n) (aloop (ze8 K F prim n) n) .fn f args hp
  |k=>acall F prim (ze8 K F prim n) (aloop (ze8 K F prim n) n) k f args hp
variable{F:FuncId->Option AFn} {prim:FuncId->Option za9}
theorem freezeAll_pvs':∀(ps:List (Sh × PV)) {hp:Heap},zam (pvs ps) hp=some (ps,hp)
 |[],_=>rfl
 |(sh,p)::r,hp=>by
  have h:AV.freeze deep (.pv sh p) hp=some (p,hp):=rfl
  show zam (.pv sh p::pvs r) hp=_
  simp only[zam,h,freezeAll_pvs' r,AV.shp]
def ztJ(F:FuncId->Option AFn)(prim:FuncId->Option za9)(f:FuncId):Bool:=
 match prim f,F f with
 |none,some fn=> !fn.heapMode
 |_,_=>false
def resV:Option (ARes × Heap)->Option AV
 |some (.ret v,_)=>some v
 |_=>none
inductive FactsOk(F:FuncId->Option AFn)(prim:FuncId->Option za9):Facts->Prop
 |nil:FactsOk F prim []
 |cons {f:FuncId} {qs:List (Sh × PV)} {v:AV} {K:Facts} (hp:ztJ F prim f=true) (h:resV (sem F prim .fn f (pvs qs) [])=some v) (k:FactsOk F prim K):FactsOk F prim ((f,qs,v)::K)
theorem zis{f:FuncId}{ps:List (Sh × PV)}{v:AV}:∀{K:Facts},FactsOk F prim K->zp2 K f ps=some v->ztJ F prim f=true/\resV (sem F prim .fn f (pvs ps) [])=some v
 |_,.nil,h=>by cases h
 |_,.cons (f:=g) (qs:=qs) hp h1 k,h=>by
  unfold zp2 at h
  cases hg:Nat.beq g f with
  |false=>rw[hg] at h;exact zis k h
  |true=>
   rw[hg] at h
   have hgf:g=f:=Nat.eq_of_beq_eq_true hg
   cases he:PV.eqA 60 qs ps with
   |false=>rw[he] at h;exact zis k h
   |true=>
    rw[he] at h
    cases h
    rw[<-(zsL 60).2.1 _ _ he,<-hgf]
    exact⟨hp,h1⟩
theorem zr2{K:Facts}(hK:FactsOk F prim K){f:FuncId}{args:List AV}{hp:Heap}{r:ARes × Heap}(h:ztI K f args hp=some r):sem F prim .fn f args hp=some r:=by
 unfold ztI at h
 split at h
 ·cases h
 ·rename_i ps hp1 hz
  split at h
  ·rename_i v hv
   cases h
   obtain⟨h1,h2⟩:=zis hK hv
   unfold ztJ at h1
   split at h1
   ·rename_i fn hpr hF
    rw[zeA] at h2 ⊢
    unfold za5 at h2 ⊢
    rw[hpr,hF] at h2 ⊢
    have hm:fn.heapMode=false:=by simpa using h1
    simp only[hm,Bool.false_eq_true,if_false,hz,freezeAll_pvs'] at h2 ⊢
    split at h2
    ·cases h2
    ·rename_i hrc
     rw[if_neg hrc]
     cases hb:abody (sem F prim) (sloop F prim) fn (pvs ps) [] with
     |none=>rw[hb] at h2;cases h2
     |some q=>
      obtain⟨q,hp2⟩:=q
      rw[hb] at h2
      cases q with
      |panic v'=>cases h2
      |ret v'=>
       simp only at h2 ⊢
       cases hf:v'.freezeRes hp2 with
       |none=>rw[hf] at h2;cases h2
       |some x=>
        rw[hf] at h2
        cases h2
        rfl
   ·cases h1
  ·cases h
theorem zdf:∀n,LLe (aloop (sem F prim) n) (sloop F prim)
 |0=>fun _ _ _ _ _ _ h=>by cases h
 |n+1=>fun b m keep c st r h=>by
  simp only[aloop] at h
  rw[zl0]
  split at h
  ·rename_i ho
   rw[zat (OLe.refl _) (zdf n) ho]
   exact zdf n _ _ _ _ _ _ h
  ·rename_i hn
   rw[zat (OLe.refl _) (zdf n) h]
   split
   ·rename_i e;cases e;exact(hn _ h).elim
   ·rfl
theorem zfE{K:Facts}(hK:FactsOk F prim K):∀n,OLe (ze8 K F prim n) (sem F prim)
 |0=>fun _ _ _ _ _ h=>by cases h
 |n+1=>fun k f args hp r h=>by
  have key:acall F prim (ze8 K F prim n) (aloop (ze8 K F prim n) n) k f args hp=some r->sem F prim k f args hp=some r:=fun h=>by
   rw[zgk]
   exact ze6 (zfE hK n) ((zaV (zfE hK n) (Nat.le_refl n)).trans (zdf n)) _ _ _ _ _ h
  unfold ze8 at h
  split at h
  ·cases hh:hasF K f with
   |false=>rw[hh] at h;exact key h
   |true=>
    rw[hh] at h
    simp only[cond_true] at h
    split at h
    ·rename_i r' hr
     cases h
     exact zr2 hK hr
    ·exact key h
  ·exact key h
theorem zbt{K:Facts}(hK:FactsOk F prim K){n:Nat}{f:FuncId}{qs:List (Sh × PV)}{v:AV}(h:resV (ze8 K F prim n .fn f (pvs qs) [])=some v):resV (sem F prim .fn f (pvs qs) [])=some v:=by
 cases hr:ze8 K F prim n .fn f (pvs qs) [] with
 |none=>rw[hr] at h;cases h
 |some r=>
  rw[zfE hK n _ _ _ _ _ hr]
  rw[hr] at h
  exact h
end Go.Am

/- Loops over functions: what a body of two pieces comes to, and a round. -/
namespace Go.Am
variable{F:FuncId->Option AFn} {prim:FuncId->Option za9}
theorem znU{Γ:Oracle}{self:FuncId}{fa:AArg}{ps env:List Nat}{st:St}{ds:List AV}{g:FuncId}{fs cs:List AV}{u:AV}{hp':Heap}{k:FuncId}{v:AV}(ha:st.fr.arg fa=some v)(hcal:zaT v=some (g,fs,cs))
  (h:Γ .seq g (fs++[.yield st.hp.length]++cs) (st.hp++[.loop self ps (st.fr.keep env) false])=some (.ret u,hp'))(hl:zec hp'[st.hp.length]? =some k):atop Γ (.range self fa ps env) st ds=some (.normal,⟨st.fr,hp'.take st.hp.length⟩,ds):=by
 simp only[atop,ha,hcal,h,hl]
theorem zgV{f:FuncId}{fn:AFn}{args:List AV}{ps:List (Sh × PV)}{hp:Heap}{v:AV}{op:ATop}{c2:ACode}(hp0:prim f=none)(hf:F f=some fn)(hm:fn.heapMode=false)(hz:zam args hp=some (ps,hp))(hn:(pvs ps).length=fn.nparams)(hmo:fn.more=[(op,c2)])
  (h:W (sem F prim) (sloop F prim) 0 fn.code ⟨params 0 (pvs ps),[]⟩ (seqK (fun st1=>∃st2,atop (sem F prim) op st1 []=some (.normal,st2,[])/\W (sem F prim) (sloop F prim) 0 c2 st2 (endK fn.results (frozen v))) (endK fn.results (frozen v))))(hr:fn.rcv=none:=by rfl):sem F prim .fn f args hp=some (.ret v,hp):=by
 have fin:∀(e:AExit) (st:St),endK fn.results (frozen v) e st->∃u hp3,aleave (sem F prim) fn (some (e,st,[]))=some (.ret u,st.hp)/\u.freezeRes st.hp=some (v,hp3):=by
  intro e st he
  cases e with
  |normal=>
   rw[zbl] at he
   cases hr:zas st fn.results with
   |none=>rw[hr] at he;exact he.elim
   |some u=>
    rw[hr] at he
    obtain⟨hp3,he⟩:=he
    exact⟨u,hp3,by simp[aleave,aunwind,aresult,hr],he⟩
  |ret=>
   rw[zcf] at he
   cases hr:zas st fn.results with
   |none=>rw[hr] at he;exact he.elim
   |some u=>
    rw[hr] at he
    obtain⟨hp3,he⟩:=he
    exact⟨u,hp3,by simp[aleave,aunwind,aresult,hr],he⟩
  |exit i=>exact he.elim
  |panic v=>exact he.elim
 have key:∃e st u hp3,apieces (sem F prim) (sloop F prim) 0 fn.more fn.code ⟨params 0 (pvs ps),[]⟩ []=some (e,st,[])/\aleave (sem F prim) fn (some (e,st,[]))=some (.ret u,st.hp)/\u.freezeRes st.hp=some (v,hp3):=by
  rw[hmo]
  simp only[apieces]
  unfold W at h
  split at h
  ·rename_i e st1 he
   rw[he]
   cases e with
   |normal=>
    obtain⟨st2,h2,h3⟩:=h
    simp only[h2]
    split at h3
    ·rename_i e2 st3 he2
     rw[he2]
     obtain⟨u,hp3,k1,k2⟩:=fin _ _ h3
     exact⟨_,_,u,hp3,rfl,k1,k2⟩
    ·exact h3.elim
   |ret=>
    obtain⟨u,hp3,k1,k2⟩:=fin .ret st1 h
    exact⟨_,_,u,hp3,rfl,k1,k2⟩
   |exit i=>exact h.elim
   |panic v=>exact h.elim
  ·exact h.elim
 obtain⟨e,st,u,hp3,k1,k2,k3⟩:=key
 rw[zeA]
 unfold za5
 rw[hp0,hf]
 rw[hmo] at k1
 have hl:([]:Heap).length=0:=rfl
 simp only[hr,hmo,Option.isSome_none,hm,Bool.false_eq_true,if_false,hz,abody,hn,ne_eq,not_true_eq_false,hl,k1,k2,k3]
 cases v.scalar <;> rfl
theorem zp3{f:FuncId}{fn:AFn}{r:Nat}{ps:List Nat}{env:List (Nat × AV)}{rd:ARound}{as:List AV}{hp hp':Heap}(hr:hp[r]? =some (.loop f ps env false))(has:as.length=ps.length)(hf:F f=some fn)(hrd:zdp ps fn.rounds=some rd)
  (h:W (sem F prim) (sloop F prim) hp.length rd.assign ⟨zee ps as++env,hp⟩ (seqK (fun st1=>(∃k,zec st1.hp[r]? =some k)/\W (sem F prim) (sloop F prim) hp.length rd.body ⟨st1.fr,st1.hp.set r (.loop f ps env true)⟩ (seqK (fun st2=>(st2.hp.set r (.loop f ps env false)).take hp.length=hp') (fun _ _=>False))) (fun _ _=>False))):
  sem F prim .rnd f (.yield r::as) hp=some (.ret (.pv none (.bool true)),hp'):=by
 rw[ztl]
 simp only[around,hr,has,and_self,if_true,hf,hrd]
 unfold W at h
 split at h
 ·rename_i e st1 he
  rw[he]
  cases e with
  |normal=>
   obtain⟨⟨k,hk⟩,h2⟩:=h
   split at h2
   ·rename_i e2 st2 he2
    cases e2 with
    |normal=>
     have h3:(st2.hp.set r (.loop f ps env false)).take hp.length=hp':=h2
     simp only[hk,he2,h3]
    |exit i=>exact h2.elim
    |ret=>exact h2.elim
    |panic v=>exact h2.elim
   ·exact h2.elim
  |exit i=>exact h.elim
  |ret=>exact h.elim
  |panic v=>exact h.elim
 ·exact h.elim
end Go.Am

/- What a law is given, as values without references. -/
namespace Go.Am
variable{P:Program} {H:Type} {enc:TypeId × Value->H} {w:World} {I:Nat->Prop}

theorem zeF{α β:Type}{g:α->Option β}:∀{l:List α} {xs:List β},l.mapM g=some xs->l.length=xs.length/\∀(i:Nat) (a:α) (x:β),l[i]? =some a->xs[i]? =some x->g a=some x
 |[],xs,h=>by
  simp at h
  subst h
  exact⟨rfl,fun i a x h=>by simp at h⟩
 |a::r,xs,h=>by
  rw[List.mapM_cons] at h
  cases ha:g a with
  |none=>rw[ha] at h;cases h
  |some y=>
   rw[ha] at h
   cases hr:r.mapM g with
   |none=>rw[hr] at h;cases h
   |some ys=>
    rw[hr] at h
    cases h
    obtain⟨h1,h2⟩:=zeF hr
    refine⟨by simp[h1],fun i b x hb hx=> ?_⟩
    cases i with
    |zero=>simp at hb hx;subst hb;subst hx;exact ha
    |succ i=>exact h2 i b x (by simpa using hb) (by simpa using hx)

def zdW(sh:Sh)(cs:List Value):Value:=
 match sh with
 |none=>cs.headD .nilIface
 |some _=>.agg cs.toArray

def zdQ(P:Program)(n:Nat):Nat->List Field->Bool
 |o,[]=>decide (o=n)
 |o,f::r=>decide (f.offset=o) && okT P f.type && zdQ P n (o+(shOf P f.type).size) r
def zbq(P:Program)(g:TypeId->DataW H->Option PV):List Field->List (DataW H)->Option (List (Sh × PV))
 |[],[]=>some []
 |f::fs,d::ds=>match g f.type d with
  |none=>none
  |some p=>match zbq P g fs ds with
   |some l=>some ((shOf P f.type,p)::l)
   |none=>none
 |_,_=>none
def zct(g:DataW H->Option PV):List (DataW H)->Option (List PV)
 |[]=>some []
 |d::ds=>match g d with
  |none=>none
  |some p=>match zct g ds with
   |some l=>some (p::l)
   |none=>none
def zbK(P:Program):Nat->TypeId->DataW H->Option PV
 |0,_,_=>none
 |n+1,t,d=>match P.underlying t,d with
  |some .bool,.lit (.bool b)=>some (.bool b)
  |some (.int k),.lit (.int k' n)=>if k'=k/\(Lit.int k n).wf=true then some (.int k n) else none
  |some .string,.lit (.string l)=>some (.str l)
  |some (.slice e),.nil=>some (.sl (shOf P e) [])
  |some (.slice e),.slice es _=>if okT P e=true then match zct (zbK P n e) es with
    |some l=>some (.sl (shOf P e) l)
    |none=>none
   else none
  |some (.struct fs),.agg parts=>if zdQ P (P.cellsOf t) 0 fs.toList=true then match zbq P (zbK P n) fs.toList parts with
    |some l=>some (.agg l)
    |none=>none
   else none
  |_,_=>none

theorem zjU{t:TypeId}(h:okT P t=true):P.cellsOf t=(shOf P t).size/\0<P.cellsOf t:=by
 unfold okT at h
 split at h
 ·rename_i i _ hi _
  simp only[Bool.and_eq_true,beq_iff_eq,decide_eq_true_eq] at h
  have:P.cellsOf t=i.size:=by simp[Program.cellsOf,hi]
  omega
 ·cases h

theorem zho{base:Nat}{a:Addr}{n:Nat}{l:List Value}(h:w.cells? base a n=some l)(hn:0<n):a.spot=none/\∃cs t fr,w.heap[a.block]? =some (.cells cs t fr)/\l=(cs.toList.drop a.off).take n/\l.length=n:=by
 unfold World.cells? at h
 split at h
 ·obtain⟨h1,h2⟩:=zeF h
  rw[List.length_range] at h1
  have rd:∀i,i<n->∃v,l[i]? =some v/\w.cell? (a.add i)=some v:=by
   intro i hi
   have hl:l[i]? =some l[i]:=List.getElem?_eq_getElem (by omega)
   exact⟨l[i],hl,h2 i i l[i] (by simp[hi]) hl⟩
  obtain⟨v0,hv0,hc0⟩:=rd 0 hn
  unfold World.cell? at hc0
  split at hc0
  ·rename_i cs t fr hb
   split at hc0
   ·cases hc0
   ·rename_i hsp
    have hb':w.heap[a.block]? =some (.cells cs t fr):=hb
    have hsp':a.spot=none:=by simpa[Addr.add] using hsp
    refine⟨hsp',cs,t,fr,hb',?_,h1.symm⟩
    apply List.ext_getElem?
    intro i
    by_cases hi:i<n
    ·obtain⟨v,e1,e2⟩:=rd i hi
     rw[e1]
     have ea:a.add i=⟨a.block,a.off+i,none⟩:=by
      unfold Addr.add
      split
      ·rename_i h0;subst h0;cases a;simp_all
      ·rfl
     rw[ea] at e2
     simp only[World.cell?,hb',Option.isSome_none,Bool.false_eq_true,if_false] at e2
     rw[List.getElem?_take_of_lt hi,List.getElem?_drop]
     simpa using e2.symm
    ·rw[List.getElem?_eq_none (by omega),List.getElem?_eq_none (by simp;omega)]
  ·cases hc0
 ·cases h

theorem zjV{g:TypeId->List Value->Option (DataW H × List MemPlace)}{f:TypeId->DataW H->Option PV}
  (hg:∀t cs d ps p,g t cs=some (d,ps)->okT P t=true->f t d=some p->PR w I p (zdW (shOf P t) cs)/\vshp (zdW (shOf P t) cs)=shOf P t/\(zdW (shOf P t) cs).cells.toList=cs)(cs:List Value):
  ∀(fs:List Field) (o:Nat) (xs:List (DataW H × List MemPlace)) (l:List (Sh × PV)),zdQ P cs.length o fs=true->fs.mapM (fun fd=>g fd.type ((cs.drop fd.offset).take (P.cellsOf fd.type)))=some xs->zbq P f fs (xs.map (·.1))=some l->
  ∃vs:List Value,l.length=vs.length/\(∀(i:Nat) (x:Sh × PV) (v:Value),l[i]? =some x->vs[i]? =some v->vshp v=x.1)/\(∀(i:Nat) (x:Sh × PV) (v:Value),l[i]? =some x->vs[i]? =some v->PR w I x.2 v)/\cellsOf vs=cs.drop o
 |[],o,xs,l,hok,hm,hp=>by
  simp[zdQ] at hok
  simp at hm
  subst hm
  simp[zbq] at hp
  subst hp
  exact⟨[],rfl,fun i x v h=>by simp at h,fun i x v h=>by simp at h,by simp[cellsOf,hok]⟩
 |fd::r,o,xs,l,hok,hm,hp=>by
  simp only[zdQ,Bool.and_eq_true,decide_eq_true_eq] at hok
  obtain⟨⟨h1,h2⟩,h3⟩:=hok
  rw[List.mapM_cons] at hm
  cases ha:g fd.type ((cs.drop fd.offset).take (P.cellsOf fd.type)) with
  |none=>rw[ha] at hm;cases hm
  |some y=>
   rw[ha] at hm
   cases hr:r.mapM (fun fd=>g fd.type ((cs.drop fd.offset).take (P.cellsOf fd.type))) with
   |none=>rw[hr] at hm;cases hm
   |some ys=>
    rw[hr] at hm
    cases hm
    simp only[List.map_cons,zbq] at hp
    split at hp
    ·cases hp
    ·rename_i p hfp
     split at hp
     ·rename_i l' hl'
      cases hp
      obtain⟨k1,k2,k3⟩:=hg _ _ y.1 y.2 p ha h2 hfp
      obtain⟨vs,e1,e2,e3,e4⟩:=zjV hg cs r _ ys l' h3 hr hl'
      refine⟨zdW (shOf P fd.type) ((cs.drop fd.offset).take (P.cellsOf fd.type))::vs,by simp[e1],?_,?_,?_⟩
      ·intro i x v hx hv
       cases i with
       |zero=>simp at hx hv;subst hx;subst hv;exact k2
       |succ i=>exact e2 i x v (by simpa using hx) (by simpa using hv)
      ·intro i x v hx hv
       cases i with
       |zero=>simp at hx hv;subst hx;subst hv;exact k1
       |succ i=>exact e3 i x v (by simpa using hx) (by simpa using hv)
      ·simp only[cellsOf,List.flatMap_cons,k3]
       have e4':List.flatMap (fun v=>v.cells.toList) vs=cs.drop (o+(shOf P fd.type).size):=e4
       rw[e4',h1,(zjU h2).1,<-List.drop_drop,List.take_append_drop]
     ·cases hp

theorem zl9{f:DataW H->Option PV}{g:Nat->Option (DataW H × List MemPlace)}{R:Nat->PV->Prop}
  (hg:∀i d ps p,g i=some (d,ps)->f d=some p->R i p):
  ∀(is:List Nat) (xs:List (DataW H × List MemPlace)) (l:List PV),is.mapM g=some xs->zct f (xs.map (·.1))=some l->
  l.length=is.length/\∀(k i:Nat) (p:PV),is[k]? =some i->l[k]? =some p->R i p
 |[],xs,l,hm,hp=>by
  simp at hm
  subst hm
  simp[zct] at hp
  subst hp
  exact⟨rfl,fun k i p h=>by simp at h⟩
 |i::r,xs,l,hm,hp=>by
  rw[List.mapM_cons] at hm
  cases ha:g i with
  |none=>rw[ha] at hm;cases hm
  |some y=>
   rw[ha] at hm
   cases hr:r.mapM g with
   |none=>rw[hr] at hm;cases hm
   |some ys=>
    rw[hr] at hm
    cases hm
    simp only[List.map_cons,zct] at hp
    split at hp
    ·cases hp
    ·rename_i p hfp
     split at hp
     ·rename_i l' hl'
      cases hp
      obtain⟨e1,e2⟩:=zl9 hg r ys l' hr hl'
      refine⟨by simp[e1],fun k j q hk hq=> ?_⟩
      cases k with
      |zero=>simp at hk hq;subst hk;subst hq;exact hg i y.1 y.2 p ha hfp
      |succ k=>exact e2 k j q (by simpa using hk) (by simpa using hq)
     ·cases hp

theorem zhp(f:Nat->Value)(l:List Value)(o n:Nat):∀m:Nat,(∀i,i<m->(f i).cells.toList=(l.drop (o+i*n)).take n)->cellsOf ((List.range m).map f)=(l.drop o).take (m*n)
 |0,_=>by simp[cellsOf]
 |m+1,h=>by
  have ih:=zhp f l o n m fun i hi=>h i (by omega)
  unfold cellsOf at ih ⊢
  rw[List.range_succ,List.map_append,List.flatMap_append,ih]
  simp only[List.map_cons,List.map_nil,List.flatMap_cons,List.flatMap_nil,List.append_nil]
  rw[h m (by omega),Nat.add_mul,Nat.one_mul,List.take_add,List.drop_drop]

theorem ztK(hI:∀b,I b){base:Nat}{spare:Nat->Bool}{held:Bool}:∀(fuel:Nat) (n:Nat) (t:TypeId) (cs:List Value) (d:DataW H) (ps:List MemPlace) (p:PV),DataW.trod enc P w base spare held fuel t cs=some (d,ps)->okT P t=true->zbK P n t d=some p->
  PR w I p (zdW (shOf P t) cs)/\vshp (zdW (shOf P t) cs)=shOf P t/\(zdW (shOf P t) cs).cells.toList=cs:=by
 intro fuel
 induction fuel with
 |zero=>intro n t cs d ps p h;cases h
 |succ fuel ih=>
  intro n t cs d ps p h hok hp
  cases n with
  |zero=>cases hp
  |succ n=>
  simp only[zbK] at hp
  cases hu:P.underlying t with
  |none=>rw[hu] at hp;cases hp
  |some u=>
   rw[hu] at hp
   unfold DataW.trod at h
   rw[hu] at h
   cases u with
   |bool=>
    have hs:shOf P t=none:=by unfold shOf;rw[hu]
    rw[hs]
    simp only at h hp
    split at h <;> first|contradiction|(exfalso;clear ih;simp_all;done)|skip
    ·cases h
     cases hp
     exact⟨.bool _,rfl,rfl⟩
   |int k=>
    have hs:shOf P t=none:=by unfold shOf;rw[hu]
    rw[hs]
    simp only at h hp
    split at h <;> first|contradiction|(exfalso;clear ih;simp_all;done)|skip
    ·rename_i e
     split at h
     ·rename_i e2
      obtain⟨e2,e3⟩:=e2
      subst e2
      cases h
      cases e
      simp only[e3,and_self,if_true] at hp
      cases hp
      exact⟨.int _ _,rfl,rfl⟩
     ·cases h
   |string=>
    have hs:shOf P t=none:=by unfold shOf;rw[hu]
    rw[hs]
    simp only at h hp
    split at h <;> first|contradiction|(exfalso;clear ih;simp_all;done)|skip
    ·split at h
     ·cases h
      cases hp
      exact⟨.str _,rfl,rfl⟩
     ·cases h
   |slice e=>
    have hs:shOf P t=none:=by unfold shOf;rw[hu]
    rw[hs]
    simp only at h hp
    split at h <;> first|contradiction|(exfalso;clear ih;simp_all;done)|skip
    ·cases h
     cases hp
     exact⟨.nilsl _ _ _,rfl,rfl⟩
    ·rename_i e' a len cap hx
     cases hx
     split at h
     ·rename_i hb
      obtain⟨hb1,hb2,hb3⟩:=hb
      rw[Option.bind_eq_some_iff] at h
      obtain⟨elems,hm,h⟩:=h
      rw[Option.map_eq_some_iff] at h
      obtain⟨rest,hr,h⟩:=h
      cases h
      simp only at hp
      split at hp
      ·rename_i hoe
       split at hp
       ·rename_i l hl
        cases hp
        obtain⟨hc1,hc2⟩:=zjU hoe
        obtain⟨k1,k2⟩:=zl9 (R:=fun i p=>PR w I p (zdW (shOf P e) (((w.cells? base (a.add (i*P.cellsOf e)) (P.cellsOf e))).getD []))/\vshp (zdW (shOf P e) (((w.cells? base (a.add (i*P.cellsOf e)) (P.cellsOf e))).getD []))=shOf P e/\(zdW (shOf P e) (((w.cells? base (a.add (i*P.cellsOf e)) (P.cellsOf e))).getD [])).cells.toList=((w.cells? base (a.add (i*P.cellsOf e)) (P.cellsOf e))).getD []) (fun i d ps p hg hf=>by
         rw[Option.bind_eq_some_iff] at hg
         obtain⟨c,hc,hg⟩:=hg
         rw[hc]
         exact ih n e c d ps p hg hoe hf) _ _ _ hm hl
        rw[List.length_range] at k1
        refine⟨?_,rfl,rfl⟩
        have hel:elems.length=len:=by have:=(zeF hm).1;simpa using this.symm
        cases len with
        |zero=>
         have:l=[]:=List.length_eq_zero_iff.1 (by omega)
         subst this
         exact .nilsl _ _ _
        |succ m=>
         have rd:∀i,i<m+1->∃c,w.cells? base (a.add (i*P.cellsOf e)) (P.cellsOf e)=some c:=fun i hi=>by
          have hx:elems[i]? =some elems[i]:=List.getElem?_eq_getElem (by omega)
          have:=(zeF hm).2 i i elems[i] (by simp[hi]) hx
          rw[Option.bind_eq_some_iff] at this
          obtain⟨c,hc,_⟩:=this
          exact⟨c,hc⟩
         obtain⟨c0,hc0⟩:=rd 0 (by omega)
         obtain⟨s0,cs',t',fr',hblk,_,_⟩:=zho hc0 hc2
         have ea0:a.add (0*P.cellsOf e)=a:=by simp[Addr.add]
         rw[ea0] at s0 hblk
         have seg:∀i,i<m+1->(w.cells? base (a.add (i*P.cellsOf e)) (P.cellsOf e)).getD []=(cs'.toList.drop (a.off+i*P.cellsOf e)).take (P.cellsOf e)/\((w.cells? base (a.add (i*P.cellsOf e)) (P.cellsOf e)).getD []).length=P.cellsOf e:=fun i hi=>by
          obtain⟨c,hc⟩:=rd i hi
          obtain⟨_,cs2,t2,fr2,hb2,e2,e3⟩:=zho hc hc2
          have eo:(a.add (i*P.cellsOf e)).off=a.off+i*P.cellsOf e:=by unfold Addr.add;split <;> simp_all
          have eb:(a.add (i*P.cellsOf e)).block=a.block:=by unfold Addr.add;split <;> rfl
          rw[eb,hblk] at hb2
          cases hb2
          rw[hc,Option.getD_some]
          rw[eo] at e2
          exact⟨e2,e3⟩
         have ha:a=⟨a.block,a.off,none⟩:=by cases a;simp_all
         have hll:l.length=m+1:=k1
         rw[ha]
         have hgoal:PR w I (.sl (shOf P e) l) (.slice (some ⟨a.block,a.off,none⟩) l.length cap):=by
          refine .sl _ _ a.block a.off cap cs' t' fr' ((List.range (m+1)).map fun i=>zdW (shOf P e) ((w.cells? base (a.add (i*P.cellsOf e)) (P.cellsOf e)).getD [])) (by simp[hll]) (hI _) hblk ?_ ?_ ?_ (by omega)
          ·intro i p v hp hv
           have hi:i<m+1:=by rw[<-hll];exact(List.getElem?_eq_some_iff.1 hp).1
           simp[hi] at hv
           subst hv
           exact(k2 i i p (by simp[hi]) hp).2.1
          ·intro i p v hp hv
           have hi:i<m+1:=by rw[<-hll];exact(List.getElem?_eq_some_iff.1 hp).1
           simp[hi] at hv
           subst hv
           exact(k2 i i p (by simp[hi]) hp).1
          ·have cl:∀i,i<m+1->(zdW (shOf P e) ((w.cells? base (a.add (i*P.cellsOf e)) (P.cellsOf e)).getD [])).cells.toList=(cs'.toList.drop (a.off+i*P.cellsOf e)).take (P.cellsOf e):=fun i hi=>by
            rw[<-(seg i hi).1]
            exact(k2 i i l[i] (by simp[hi]) (List.getElem?_eq_getElem (by omega))).2.2
           rw[hll,<-hc1]
           exact zhp (fun i=>zdW (shOf P e) ((w.cells? base (a.add (i*P.cellsOf e)) (P.cellsOf e)).getD [])) cs'.toList a.off (P.cellsOf e) (m+1) cl
         rw[hll] at hgoal
         exact hgoal
       ·cases hp
      ·cases hp
     ·cases h
   |struct fs=>
    have hs:shOf P t=some (P.cellsOf t):=by unfold shOf;rw[hu]
    rw[hs]
    simp only at h hp
    split at h <;> first|contradiction|(exfalso;clear ih;simp_all;done)|skip
    ·rename_i hlen
     rw[Option.map_eq_some_iff] at h
     obtain⟨xs,hm,h⟩:=h
     cases h
     simp only at hp
     split at hp
     ·rename_i hfo
      split at hp
      ·rename_i l hl
       cases hp
       rw[<-hlen] at hfo
       obtain⟨vs,e1,e2,e3,e4⟩:=zjV (w:=w) (I:=I) (fun t cs d ps p hg ho hf=>ih n t cs d ps p hg ho hf) cs fs.toList 0 xs l hfo hm hl
       rw[List.drop_zero] at e4
       refine⟨?_,?_,?_⟩
       ·show PR w I (.agg l) (.agg cs.toArray)
        rw[<-e4]
        exact .agg l vs e1 e2 e3
       ·show some cs.toArray.size=_
        simp[hlen]
       ·simp[zdW,Value.cells]
      ·cases hp
     ·cases hp
   |_=>cases hp

theorem zsM{base:Nat}{spare:Nat->Bool}{held:Bool}{n:Nat}{t:TypeId}{v:Value}{d:DataW H}{ps:List MemPlace}{p:PV}(h:DataW.Trod enc P w base spare held t v d ps)(hok:okT P t=true)(hp:zbK P n t d=some p)(hv:vshp v=shOf P t):
  AR w (noX (P:=P)) noμ [] (.pv (shOf P t) p) v:=by
 obtain⟨fuel,h⟩:=h
 have hI:∀b,Im (noX (P:=P)) noμ [] b:=fun b=>⟨fun h=>h,fun i hi=>by simp[live] at hi⟩
 obtain⟨h1,h2,h3⟩:=ztK hI fuel n t _ d ps p h hok hp
 have:zdW (shOf P t) v.cells.toList=v:=by
  rw[<-hv]
  cases v <;> simp[vshp,zdW,Value.cells]
 rw[this] at h1
 exact .pv _ _ _ hv h1
theorem zhq{W:World}{base:Nat}{t:TypeId}{v:Value}(h:Value.okWide P W .any base t v):vshp v=shOf P t:=by
 unfold Value.okWide at h
 unfold shOf
 cases hu:P.underlying t with
 |none=>
  rw[hu] at h
  cases v with
  |agg cs=>simp[Cell.okWide,Cell.ok,hu] at h
  |_=>rfl
 |some u=>
  rw[hu] at h
  cases u with
  |struct fs=>obtain⟨cs,rfl,hc,_⟩:=h;simp[vshp,hc]
  |array n e=>obtain⟨cs,rfl,hc,_⟩:=h;simp[vshp,hc]
  |_=>
   cases v with
   |agg cs=>simp[Cell.okWide,Cell.ok,hu] at h
   |_=>rfl
end Go.Am

/- Every datum of plain types is a value; terms. -/
namespace Go.Am
variable{P:Program} {H:Type} {enc:TypeId × Value->H} {w:World}

def zsN(P:Program)(ts:List TypeId)(t:TypeId):Bool:=
 okT P t && match P.underlying t with
 |some .bool=>true
 |some (.int _)=>true
 |some .string=>true
 |some (.slice e)=>ts.contains e && okT P e
 |some (.struct fs)=>fs.toList.all (fun f=>ts.contains f.type) && zdQ P (P.cellsOf t) 0 fs.toList
 |_=>false
def zma(P:Program)(ts:List TypeId):Bool:=ts.all (zsN P ts)

theorem zhr{f:DataW H->Option PV}{g:Nat->Option (DataW H × List MemPlace)}(hg:∀i d ps,g i=some (d,ps)->∃p,f d=some p):∀(is:List Nat) (xs:List (DataW H × List MemPlace)),is.mapM g=some xs->∃l,zct f (xs.map (·.1))=some l
 |[],xs,h=>by simp at h;subst h;exact⟨[],rfl⟩
 |i::r,xs,h=>by
  rw[List.mapM_cons] at h
  cases ha:g i with
  |none=>rw[ha] at h;cases h
  |some y=>
   rw[ha] at h
   cases hr:r.mapM g with
   |none=>rw[hr] at h;cases h
   |some ys=>
    rw[hr] at h
    cases h
    obtain⟨l,hl⟩:=zhr hg r ys hr
    obtain⟨p,hp⟩:=hg i y.1 y.2 ha
    exact⟨p::l,by simp[zct,hp,hl]⟩
theorem zgp{f:TypeId->DataW H->Option PV}{g:Field->Option (DataW H × List MemPlace)}:∀(fs:List Field) (xs:List (DataW H × List MemPlace)),(∀fd∈fs,∀d ps,g fd=some (d,ps)->∃p,f fd.type d=some p)->fs.mapM g=some xs->∃l,zbq P f fs (xs.map (·.1))=some l
 |[],xs,_,h=>by simp at h;subst h;exact⟨[],rfl⟩
 |fd::r,xs,hg,h=>by
  rw[List.mapM_cons] at h
  cases ha:g fd with
  |none=>rw[ha] at h;cases h
  |some y=>
   rw[ha] at h
   cases hr:r.mapM g with
   |none=>rw[hr] at h;cases h
   |some ys=>
    rw[hr] at h
    cases h
    obtain⟨l,hl⟩:=zgp r ys (fun fd h=>hg fd (by simp[h])) hr
    obtain⟨p,hp⟩:=hg fd (by simp) y.1 y.2 ha
    exact⟨(shOf P fd.type,p)::l,by simp[zbq,hp,hl]⟩

theorem zjW{ts:List TypeId}(hc:zma P ts=true){base:Nat}{spare:Nat->Bool}{held:Bool}:∀(fuel:Nat) (t:TypeId) (cs:List Value) (d:DataW H) (ps:List MemPlace),t∈ts->DataW.trod enc P w base spare held fuel t cs=some (d,ps)->∃p,zbK P fuel t d=some p:=by
 intro fuel
 induction fuel with
 |zero=>intro t cs d ps _ h;cases h
 |succ fuel ih=>
  intro t cs d ps ht h
  have hp:=List.all_eq_true.1 hc t ht
  unfold zsN at hp
  rw[Bool.and_eq_true] at hp
  have hp:=hp.2
  unfold DataW.trod at h
  unfold zbK
  cases hu:P.underlying t with
  |none=>rw[hu] at hp;cases hp
  |some u=>
   rw[hu] at hp h
   cases u with
   |bool=>
    simp only at h
    split at h <;> first|contradiction|(exfalso;clear ih;simp_all;done)|skip
    ·cases h;exact⟨_,rfl⟩
   |int k=>
    simp only at h
    split at h <;> first|contradiction|(exfalso;clear ih;simp_all;done)|skip
    ·rename_i e
     split at h
     ·rename_i e2
      obtain⟨e2,e3⟩:=e2
      subst e2
      cases h
      cases e
      exact⟨_,by simp[e3];rfl⟩
     ·cases h
   |string=>
    simp only at h
    split at h <;> first|contradiction|(exfalso;clear ih;simp_all;done)|skip
    ·split at h
     ·cases h;exact⟨_,rfl⟩
     ·cases h
   |slice e=>
    simp only[Bool.and_eq_true,List.contains_iff_mem] at hp
    simp only at h
    split at h <;> first|contradiction|(exfalso;clear ih;simp_all;done)|skip
    ·cases h;exact⟨_,rfl⟩
    ·rename_i e' a len cap hx
     cases hx
     split at h
     ·rw[Option.bind_eq_some_iff] at h
      obtain⟨elems,hm,h⟩:=h
      rw[Option.map_eq_some_iff] at h
      obtain⟨rest,hr,h⟩:=h
      cases h
      obtain⟨l,hl⟩:=zhr (f:=zbK P fuel e) (fun i d ps hg=>by
       rw[Option.bind_eq_some_iff] at hg
       obtain⟨c,_,hg⟩:=hg
       exact ih e c d ps hp.1 hg) _ _ hm
      exact⟨_,by simp[hp.2,hl];rfl⟩
     ·cases h
   |struct fs=>
    simp only[Bool.and_eq_true] at hp
    simp only at h
    split at h <;> first|contradiction|(exfalso;clear ih;simp_all;done)|skip
    ·rw[Option.map_eq_some_iff] at h
     obtain⟨xs,hm,h⟩:=h
     cases h
     obtain⟨l,hl⟩:=zgp (P:=P) (f:=zbK P fuel) fs.toList xs (fun fd hfd d ps hg=>by
      have:=List.all_eq_true.1 hp.1 fd hfd
      rw[List.contains_iff_mem] at this
      exact ih fd.type _ d ps this hg) hm
     exact⟨_,by simp[hp.2,hl];rfl⟩
   |_=>cases hp

structure BulkLaws(bulk:DataW H->Nat)(all:List (DataW H)->Nat):Prop where
 nil:all []=0
 cons:∀d r,all (d::r)=bulk d+all r
 slice:∀e s,bulk (.slice e s)=all e+all s+1
 agg:∀l,bulk (.agg l)=all l+1
 string:∀l,bulk (.lit (.string l))=l.length+1

structure TermTy(P:Program)(tA tT:TypeId):Prop where
 a:P.underlying tA=some (.slice tT)
 t:∃fs tI tL tS,P.underlying tT=some (.struct fs)/\fs.toList.map (·.type)=[tI,tL,tS,tA]/\P.underlying tI=some (.int .i64)/\P.underlying tL=some (.int .i64)/\P.underlying tS=some .string/\shOf P tT=some 4/\shOf P tA=none/\shOf P tI=none/\shOf P tL=none/\shOf P tS=none

def zjX(n:Int):Prop:= -9223372036854775808<=n/\n<=9223372036854775807
mutual
def Tm.rng:Tm->Prop
 | .mk k n _ as=>zjX k/\zjX n/\Tm.rngs as
def Tm.rngs:List Tm->Prop
 |[]=>True
 |t::r=>t.rng/\Tm.rngs r
end
theorem zsO{n:Int}(h:(Lit.int .i64 n).wf=true):zjX n:=by
 simpa[Lit.wf,IntKind.min,IntKind.max,IntKind.signed,IntKind.bits,zjX] using h

theorem zjY{tA tT:TypeId}(hT:TermTy P tA tT){bulk:DataW H->Nat}{all:List (DataW H)->Nat}(hb:BulkLaws bulk all):∀(n:Nat),
  (∀(d:DataW H) (p:PV),zbK P n tT d=some p->∃t:Tm,p=t.pv/\t.size<=bulk d/\t.rng)/\
  (∀(d:DataW H) (p:PV),zbK P n tA d=some p->∃l:List Tm,p=.sl (some 4) (Tm.pvs l)/\Tm.sizes l<=bulk d/\Tm.rngs l)
 |0=>⟨fun d p h=>(by cases h),fun d p h=>(by cases h)⟩
 |n+1=>by
  obtain⟨ih1,ih2⟩:=zjY hT hb n
  have elems:∀(ds:List (DataW H)) (l:List PV),zct (zbK P n tT) ds=some l->∃ts:List Tm,l=Tm.pvs ts/\Tm.sizes ts<=all ds/\Tm.rngs ts:=by
   intro ds
   induction ds with
   |nil=>intro l h;cases h;exact⟨[],rfl,Nat.zero_le _,trivial⟩
   |cons d ds ih=>
    intro l h
    simp only[zct] at h
    split at h
    ·cases h
    ·rename_i p hp
     split at h
     ·rename_i l' hl
      cases h
      obtain⟨t,rfl,h1,h2⟩:=ih1 d p hp
      obtain⟨ts,rfl,h3,h4⟩:=ih l' hl
      exact⟨t::ts,rfl,by rw[hb.cons];simp only[Tm.sizes];omega,h2,h4⟩
     ·cases h
  obtain⟨hA,fs,tI,tL,tS,hS,hf,hI,hL,hSt,s1,s2,s3,s4,s5⟩:=hT
  constructor
  ·intro d p h
   unfold zbK at h
   rw[hS] at h
   cases d with
   |agg parts=>
    simp only at h
    split at h
    ·split at h
     ·rename_i l hl
      cases h
      obtain⟨f1,f2,f3,f4,hfs⟩:∃f1 f2 f3 f4:Field,fs.toList=[f1,f2,f3,f4]:=by
       match hx:fs.toList,hf with
       |[a,b,c,d],_=>exact⟨a,b,c,d,rfl⟩
      rw[hfs] at hf hl
      simp only[List.map_cons,List.map_nil,List.cons.injEq,and_true] at hf
      obtain⟨e1,e2,e3,e4⟩:=hf
      match parts,hl with
      |[],hl=>cases hl
      |d1::r1,hl=>
       simp only[zbq,e1] at hl
       split at hl
       ·cases hl
       ·rename_i p1 hp1
        split at hl
        ·rename_i l1 hl1
         cases hl
         match r1,hl1 with
         |[],hl1=>cases hl1
         |d2::r2,hl1=>
          simp only[zbq,e2] at hl1
          split at hl1
          ·cases hl1
          ·rename_i p2 hp2
           split at hl1
           ·rename_i l2 hl2
            cases hl1
            match r2,hl2 with
            |[],hl2=>cases hl2
            |d3::r3,hl2=>
             simp only[zbq,e3] at hl2
             split at hl2
             ·cases hl2
             ·rename_i p3 hp3
              split at hl2
              ·rename_i l3 hl3
               cases hl2
               match r3,hl3 with
               |[],hl3=>cases hl3
               |d4::r4,hl3=>
                simp only[zbq,e4] at hl3
                split at hl3
                ·cases hl3
                ·rename_i p4 hp4
                 split at hl3
                 ·rename_i l4 hl4
                  cases hl3
                  match r4,hl4 with
                  |_::_,hl4=>cases hl4
                  |[],hl4=>
                   cases hl4
                   obtain⟨ts,rfl,k1,k2⟩:=ih2 d4 p4 hp4
                   have i64:∀(ty:TypeId) (d:DataW H) (p:PV),P.underlying ty=some (.int .i64)->zbK P n ty d=some p->∃x,p=.int .i64 x/\zjX x:=by
                    intro ty d p hty hp
                    cases n with
                    |zero=>cases hp
                    |succ n=>
                     unfold zbK at hp
                     rw[hty] at hp
                     cases d with
                     |lit l=>
                      cases l with
                      |int k x=>
                       simp only at hp
                       split at hp
                       ·rename_i hw
                        cases hp
                        exact⟨x,rfl,zsO hw.2⟩
                       ·cases hp
                      |_=>cases hp
                     |_=>cases hp
                   obtain⟨x1,rfl,g1⟩:=i64 tI d1 p1 hI hp1
                   obtain⟨x2,rfl,g2⟩:=i64 tL d2 p2 hL hp2
                   obtain⟨s,rfl,hs⟩:∃s,p3=.str s/\s.length<=bulk d3:=by
                    cases n with
                    |zero=>cases hp3
                    |succ n=>
                     unfold zbK at hp3
                     rw[hSt] at hp3
                     cases d3 with
                     |lit l=>
                      cases l with
                      |string s=>cases hp3;exact⟨s,rfl,by rw[hb.string];omega⟩
                      |_=>cases hp3
                     |_=>cases hp3
                   refine⟨.mk x1 x2 s ts,?_,?_,g1,g2,k2⟩
                   ·simp only[Tm.pv,e1,e2,e3,e4,s2,s3,s4,s5]
                   ·rw[hb.agg,hb.cons,hb.cons,hb.cons,hb.cons,hb.nil]
                    simp only[Tm.size]
                    omega
                 ·cases hl3
              ·cases hl2
           ·cases hl1
        ·cases hl
     ·cases h
    ·cases h
   |lit l=>cases l <;> cases h
   |_=>cases h
  ·intro d p h
   unfold zbK at h
   rw[hA] at h
   cases d with
   |nil=>cases h;exact⟨[],by rw[s1];rfl,Nat.zero_le _,trivial⟩
   |slice es sp=>
    simp only at h
    split at h
    ·split at h
     ·rename_i l hl
      cases h
      obtain⟨ts,rfl,k1,k2⟩:=elems es l hl
      exact⟨ts,by rw[s1],by rw[hb.slice];omega,k2⟩
     ·cases h
    ·cases h
   |lit l=>cases l <;> cases h
   |_=>cases h
end Go.Am

/- Data by their types: what a value of a plain type looks like, and how much it holds. -/
namespace Go.Am
variable{P:Program} {H:Type} {enc:TypeId × Value->H} {w:World}

mutual
def PV.sz:PV->Nat
 | .str s=>s.length+1
 | .agg l=>PV.szc l+1
 | .sl _ es=>PV.szs es+1
 |_=>1
def PV.szc:List (Sh × PV)->Nat
 |[]=>0
 |x::r=>PV.sz x.2+PV.szc r
def PV.szs:List PV->Nat
 |[]=>0
 |x::r=>PV.sz x+PV.szs r
end
def zit(P:Program)(f:TypeId->PV->Prop):List Field->List (Sh × PV)->Prop
 |[],[]=>True
 |fd::r,x::l=>x.1=shOf P fd.type/\f fd.type x.2/\zit P f r l
 |_,_=>False
def wt(P:Program):Nat->TypeId->PV->Prop
 |0,_,_=>False
 |n+1,t,p=>match P.underlying t with
  |some .bool=>∃b,p=.bool b
  |some (.int k)=>∃x,p=.int k x/\(Lit.int k x).wf=true
  |some .string=>∃s,p=.str s
  |some (.slice e)=>∃es,p=.sl (shOf P e) es/\∀x∈es,wt P n e x
  |some (.struct fs)=>∃l,p=.agg l/\zit P (wt P n) fs.toList l
  |_=>False

structure BulkLaws2(bulk:DataW H->Nat)(all:List (DataW H)->Nat):Prop extends BulkLaws bulk all where
 one:∀d,1<=bulk d

theorem zmb{bulk:DataW H->Nat}{all:List (DataW H)->Nat}(hb:BulkLaws2 bulk all){f:DataW H->Option PV}{R:PV->Prop}(hf:∀d p,f d=some p->R p/\p.sz<=bulk d):∀(ds:List (DataW H)) (l:List PV),zct f ds=some l->(∀x∈l,R x)/\PV.szs l<=all ds
 |[],l,h=>by cases h;exact⟨fun x hx=>(by cases hx),Nat.zero_le _⟩
 |d::ds,l,h=>by
  simp only[zct] at h
  split at h
  ·cases h
  ·rename_i p hp
   split at h
   ·rename_i l' hl
    cases h
    obtain⟨h1,h2⟩:=hf d p hp
    obtain⟨h3,h4⟩:=zmb hb hf ds l' hl
    refine⟨fun x hx=> ?_,by rw[hb.cons];simp only[PV.szs];omega⟩
    rcases List.mem_cons.1 hx with rfl|hx
    ·exact h1
    ·exact h3 x hx
   ·cases h
theorem zjZ{bulk:DataW H->Nat}{all:List (DataW H)->Nat}(hb:BulkLaws2 bulk all){f:TypeId->DataW H->Option PV}{R:TypeId->PV->Prop}(hf:∀t d p,f t d=some p->R t p/\p.sz<=bulk d):∀(fs:List Field) (ds:List (DataW H)) (l:List (Sh × PV)),zbq P f fs ds=some l->zit P R fs l/\PV.szc l<=all ds
 |[],ds,l,h=>by
  cases ds with
  |nil=>cases h;exact⟨trivial,Nat.zero_le _⟩
  |cons d r=>cases h
 |fd::fs,ds,l,h=>by
  cases ds with
  |nil=>cases h
  |cons d r=>
   simp only[zbq] at h
   split at h
   ·cases h
   ·rename_i p hp
    split at h
    ·rename_i l' hl
     cases h
     obtain⟨h1,h2⟩:=hf fd.type d p hp
     obtain⟨h3,h4⟩:=zjZ hb hf fs r l' hl
     exact⟨⟨rfl,h1,h3⟩,by rw[hb.cons];simp only[PV.szc];omega⟩
    ·cases h
theorem zp4{bulk:DataW H->Nat}{all:List (DataW H)->Nat}(hb:BulkLaws2 bulk all):∀(n:Nat) (t:TypeId) (d:DataW H) (p:PV),zbK P n t d=some p->wt P n t p/\p.sz<=bulk d
 |0,t,d,p,h=>by cases h
 |n+1,t,d,p,h=>by
  have ih:=fun t d p=>zp4 hb n t d p
  have one:=hb.one d
  unfold zbK at h
  unfold wt
  cases hu:P.underlying t with
  |none=>rw[hu] at h;cases h
  |some u=>
   rw[hu] at h
   cases u with
   |bool=>
    cases d with
    |lit l=>cases l <;> first|(cases h;done)|(cases h;exact⟨⟨_,rfl⟩,one⟩)
    |_=>cases h
   |int k=>
    cases d with
    |lit l=>
     cases l with
     |int k' x=>
      simp only at h
      split at h
      ·rename_i hw
       cases h
       obtain⟨e,hw⟩:=hw
       subst e
       exact⟨⟨x,rfl,hw⟩,one⟩
      ·cases h
     |_=>cases h
    |_=>cases h
   |string=>
    cases d with
    |lit l=>
     cases l with
     |string s=>cases h;exact⟨⟨_,rfl⟩,by rw[hb.string];exact Nat.le_refl _⟩
     |_=>cases h
    |_=>cases h
   |slice e=>
    cases d with
    |nil=>cases h;exact⟨⟨[],rfl,fun x hx=>(by cases hx)⟩,one⟩
    |slice es sp=>
     simp only at h
     split at h
     ·split at h
      ·rename_i l hl
       cases h
       obtain⟨h1,h2⟩:=zmb hb (ih e) es l hl
       exact⟨⟨l,rfl,h1⟩,by rw[hb.slice];simp only[PV.sz];omega⟩
      ·cases h
     ·cases h
    |lit l=>cases l <;> cases h
    |_=>cases h
   |struct fs=>
    cases d with
    |agg parts=>
     simp only at h
     split at h
     ·split at h
      ·rename_i l hl
       cases h
       obtain⟨h1,h2⟩:=zjZ hb ih fs.toList parts l hl
       exact⟨⟨l,rfl,h1⟩,by rw[hb.agg];simp only[PV.sz];omega⟩
      ·cases h
     ·cases h
    |lit l=>cases l <;> cases h
    |_=>cases h
   |_=>cases d <;> first|(cases h;done)|(rename_i l;cases l <;> cases h)

end Go.Am

/- Structs and lists out of data. -/
namespace Go.Am
variable{P:Program}
def zu3(P:Program)(t:TypeId):Option (List TypeId):=
 match P.underlying t with
 |some (.struct fs)=>some (fs.toList.map (·.type))
 |_=>none
def zuA(P:Program)(t:TypeId):Bool:=match P.underlying t with|some (.int .i64)=>true|_=>false
theorem zuB{n:Nat}{t:TypeId}{p:PV}(h:zuA P t=true)(hw:wt P n t p):∃x,p=.int .i64 x/\zjX x:=by
 cases n with
 |zero=>exact hw.elim
 |succ n=>
  unfold wt at hw
  unfold zuA at h
  split at h
  ·rename_i hu;rw[hu] at hw;obtain⟨x,rfl,hx⟩:=hw;exact⟨x,rfl,zsO hx⟩
  ·cases h
end Go.Am
