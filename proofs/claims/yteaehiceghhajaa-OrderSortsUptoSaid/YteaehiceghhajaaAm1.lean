/- What is proved: the abstract machine says true of the model (part 1). No conditions beside those that each theorem names. -/
import GoSem.Dispatch
import Derived.Laws.Sem
import Derived.WalkKit
set_option linter.unusedSimpArgs false
set_option linter.unusedVariables false
/- The abstract machine: values without addresses, a small heap for what the run itself makes, and an evaluator for translated code. Definitions alone. -/
namespace Go.Am

abbrev Sh:=Option Nat
def Sh.size:Sh->Nat
 |none=>1
 |some n=>n

inductive PV where
 |bool (b:Bool)
 |int (k:IntKind) (n:Int)
 |str (s:List UInt8)
 |agg (l:List (Sh × PV))
 |sl (sh:Sh) (es:List PV)
 |func (fn:Fn)
 |nilfunc
 |nilptr
 |nilmap
 |iface (t:TypeId) (sh:Sh) (v:PV)
 |niliface
 deriving Inhabited

inductive AV where
 |undef
 |pv (sh:Sh) (p:PV)
 |agg (l:List (Sh × AV))
 |tsl (sh:Sh) (es:List PV)
 |sl (sh:Sh) (r ver off len:Nat)
 |ptr (r off:Nat)
 |eptr (sh:Sh) (r ver i off:Nat)
 |iptr (sh:Sh) (p:PV) (off:Nat)
 |map (r:Nat)
 |func (fn:Fn) (first captured:List AV)
 |iface (t:TypeId) (v:AV)
 |tuple (l:List AV)
 |yield (r:Nat)
 |slv (sh:Sh) (r ver off len:Nat)
 |epv (sh:Sh) (r ver i off:Nat)
 |nilv (sh:Sh)
 deriving Inhabited

inductive AObj where
 |box (sh:Sh) (v:AV)
 |arr (sh:Sh) (es:List PV) (fz:Bool)
 |arv (sh:Sh) (es:List AV)
 |map (sh:Sh) (es:List (PV × PV))
 |loop (f:Nat) (ps:List Nat) (env:List (Nat × AV)) (busy:Bool)
 deriving Inhabited

abbrev Heap:=List AObj
abbrev Fr:=List (Nat × AV)

def Fr.look:Fr->Nat->Option AV
 |[],_=>none
 |(k,v)::r,j=>if k=j then some v else Fr.look r j
def Fr.keep(fr:Fr):List Nat->Fr
 |[]=>[]
 |k::ks=>match fr.look k with
  |some v=>(k,v)::Fr.keep fr ks
  |none=>Fr.keep fr ks

def lim:Nat:=1073741824

def AV.plain:AV->Bool
 | .undef=>false
 | .tuple _=>false
 |_=>true

def pures:List (Sh × AV)->Option (List (Sh × PV))
 |[]=>some []
 |(sh,.pv _ p)::r=>match pures r with
  |some l=>some ((sh,p)::l)
  |none=>none
 |_::_=>none
def total{α:Type}:List (Sh × α)->Nat
 |[]=>0
 |x::r=>x.1.size+total r
def AV.ofComps(l:List (Sh × AV)):AV:=
 match pures l with
 |some ps=>.pv (some (total l)) (.agg ps)
 |none=>.agg l
def AV.comps:AV->Option (List (Sh × AV))
 | .agg l=>some l
 | .pv _ (.agg l)=>some (l.map fun x=>(x.1,.pv x.1 x.2))
 |_=>none
def AV.shp:AV->Sh
 | .pv sh _=>sh
 | .agg l=>some (total l)
 |_=>none

def PV.part:Nat->PV->Nat->Sh->Option PV
 |0,_,_,_=>none
 |d+1,.agg l,off,sh=>go d off sh l
 |_,_,_,_=>none
where
 go (d:Nat) (off:Nat) (sh:Sh):List (Sh × PV)->Option PV
 |[]=>none
 |(s,p)::r=>
  if off=0/\s=sh then some p
  else if off<s.size then PV.part d p off sh
  else go d (off - s.size) sh r
def AV.part:Nat->AV->Nat->Sh->Option AV
 |0,_,_,_=>none
 |d+1,.agg l,off,sh=>go d off sh l
 |d+1,.pv _ p,off,sh=>match PV.part (d+1) p off sh with
  |some q=>some (.pv sh q)
  |none=>none
 |_,_,_,_=>none
where
 go (d:Nat) (off:Nat) (sh:Sh):List (Sh × AV)->Option AV
 |[]=>none
 |(s,p)::r=>
  if off=0/\s=sh then some p
  else if off<s.size then AV.part d p off sh
  else go d (off - s.size) sh r

def PV.upd:Nat->PV->Nat->Sh->PV->Option PV
 |0,_,_,_,_=>none
 |d+1,.agg l,off,sh,v=>match go d off sh v l with
  |some l'=>some (.agg l')
  |none=>none
 |_,_,_,_,_=>none
where
 go (d:Nat) (off:Nat) (sh:Sh) (v:PV):List (Sh × PV)->Option (List (Sh × PV))
 |[]=>none
 |(s,p)::r=>
  if off=0/\s=sh then some ((s,v)::r)
  else if off<s.size then match PV.upd d p off sh v with
   |some p'=>some ((s,p')::r)
   |none=>none
  else match go d (off - s.size) sh v r with
   |some r'=>some ((s,p)::r')
   |none=>none
def AV.updGo(f:AV->Nat->Option AV)(sh:Sh)(v:AV):Nat->List (Sh × AV)->Option (List (Sh × AV))
 |_,[]=>none
 |off,(s,p)::r=>
  if off=0/\s=sh then some ((s,v)::r)
  else if off<s.size then match f p off with
   |some p'=>some ((s,p')::r)
   |none=>none
  else match AV.updGo f sh v (off - s.size) r with
   |some r'=>some ((s,p)::r')
   |none=>none
def AV.upd:Nat->AV->Nat->Sh->AV->Option AV
 |0,_,_,_,_=>none
 |d+1,v,off,sh,x=>match v.comps with
  |none=>none
  |some l=>match AV.updGo (fun p o=>AV.upd d p o sh x) sh x off l with
   |some l'=>some (AV.ofComps l')
   |none=>none
abbrev AV.upd.go(d off:Nat)(sh:Sh)(x:AV)(l:List (Sh × AV)):Option (List (Sh × AV)):=AV.updGo (fun p o=>AV.upd d p o sh x) sh x off l

def deep:Nat:=8

def AV.freeze0:Nat->AV->Heap->Option (PV × Heap)
 |0,_,_=>none
 |_+1,.pv _ p,hp=>some (p,hp)
 |_+1,.tsl sh es,hp=>some (.sl sh es,hp)
 |_+1,.sl _ r ver off len,hp=>match hp[r]? with
  |some (.arr sh es _)=>
   if ver=es.length/\off=0/\len=es.length then some (.sl sh es,hp.set r (.arr sh es true))
   else if ver=es.length/\off+len<=es.length then some (.sl sh ((es.drop off).take len),hp.set r (.arr sh es true))
   else none
  |_=>none
 |d+1,.agg l,hp=>match go d l hp with
  |some (ps,hp')=>some (.agg ps,hp')
  |none=>none
 |_+1,.nilv sh,hp=>some (.sl sh [],hp)
 |_,_,_=>none
where
 go (d:Nat):List (Sh × AV)->Heap->Option (List (Sh × PV) × Heap)
 |[],hp=>some ([],hp)
 |(s,v)::r,hp=>match AV.freeze0 d v hp with
  |none=>none
  |some (p,hp1)=>match go d r hp1 with
   |some (ps,hp2)=>some ((s,p)::ps,hp2)
   |none=>none
def AV.freeze:Nat->AV->Heap->Option (PV × Heap)
 |0,_,_=>none
 |_+1,.pv _ p,hp=>some (p,hp)
 |_+1,.tsl sh es,hp=>some (.sl sh es,hp)
 |_+1,.sl _ r ver off len,hp=>match hp[r]? with
  |some (.arr sh es _)=>
   if ver=es.length/\off=0/\len=es.length then some (.sl sh es,hp.set r (.arr sh es true))
   else if ver=es.length/\off+len<=es.length then some (.sl sh ((es.drop off).take len),hp.set r (.arr sh es true))
   else none
  |_=>none
 |d+1,.agg l,hp=>match go d l hp with
  |some (ps,hp')=>some (.agg ps,hp')
  |none=>none
 |d+1,.slv _ r ver off len,hp=>match hp[r]? with
  |some (.arv sh es)=>if ver=es.length/\off+len<=es.length then match AV.freeze0.go d (es.map fun e=>(sh,e)) hp with
    |some (ps,hp1)=>match hp1[r]? with
     |some (.arv _ es1)=>if es1.length=es.length then some (.sl sh (((ps.map (·.2)).drop off).take len),hp1.set r (.arr sh (ps.map (·.2)) true)) else none
     |_=>none
    |none=>none
   else none
  |some (.arr sh es true)=>if ver=es.length/\off+len<=es.length then some (.sl sh ((es.drop off).take len),hp) else none
  |_=>none
 |_+1,.nilv sh,hp=>some (.sl sh [],hp)
 |_,_,_=>none
where
 go (d:Nat):List (Sh × AV)->Heap->Option (List (Sh × PV) × Heap)
 |[],hp=>some ([],hp)
 |(s,v)::r,hp=>match AV.freeze d v hp with
  |none=>none
  |some (p,hp1)=>match go d r hp1 with
   |some (ps,hp2)=>some ((s,p)::ps,hp2)
   |none=>none
def zal:List AV->Heap->Option (List (Sh × PV) × Heap)
 |[],hp=>some ([],hp)
 |v::r,hp=>match AV.freeze deep v hp with
  |none=>none
  |some (p,hp1)=>match zal r hp1 with
   |some (ps,hp2)=>some ((v.shp,p)::ps,hp2)
   |none=>none
def pvs(l:List (Sh × PV)):List AV:=l.map fun x=>.pv x.1 x.2

def AV.weaken:Nat->AV->Option PV
 |0,_=>none
 |_+1,.pv _ p=>some p
 |_+1,.tsl sh es=>some (.sl sh es)
 |_+1,.nilv sh=>some (.sl sh [])
 |d+1,.agg l=>match go d l with
  |some ps=>some (.agg ps)
  |none=>none
 |_,_=>none
where
 go (d:Nat):List (Sh × AV)->Option (List (Sh × PV))
 |[]=>some []
 |(s,v)::r=>match AV.weaken d v with
  |none=>none
  |some p=>match go d r with
   |some ps=>some ((s,p)::ps)
   |none=>none
def zaI:List AV->Option (List (Sh × PV))
 |[]=>some []
 |v::r=>match AV.weaken deep v with
  |none=>none
  |some p=>match zaI r with
   |some ps=>some ((v.shp,p)::ps)
   |none=>none
def za0(sh:Sh):List (Sh × PV)->Option (List PV)
 |[]=>some []
 |(s,p)::r=>if s=sh then match za0 sh r with
   |some l=>some (p::l)
   |none=>none
  else none

def zam:List (Sh × AV)->Heap->List (Sh × AV) × Heap
 |[],hp=>([],hp)
 |(s,.tsl sh [])::r,hp=>if 0<sh.size then
   match zam r (hp++[.arr sh [] false]) with
   |(l,hp')=>((s,.sl sh hp.length 0 0 0)::l,hp')
  else match zam r hp with
   |(l,hp')=>((s,.tsl sh [])::l,hp')
 |x::r,hp=>match zam r hp with
  |(l,hp')=>(x::l,hp')
def AV.own:AV->Heap->AV × Heap
 | .tsl sh [],hp=>if 0<sh.size then(.sl sh hp.length 0 0 0,hp++[.arr sh [] false]) else(.tsl sh [],hp)
 | .agg l,hp=>match zam l hp with
  |(l',hp')=>(.agg l',hp')
 |v,hp=>(v,hp)

inductive AOp where
 |mv
 |nilsl (sh:Sh)
 |pick
 |not
 |neg
 |bin (op:BinOp)
 |binb (op:BinOp)
 |alloc (sh:Sh) (zero:AV)
 |box (sh:Sh)
 |build (zero:List (Sh × AV)) (idx:List Nat)
 |bslice (sh:Sh)
 |bslicep (sh:Sh)
 |appendp (sh:Sh)
 |load (sh:Sh)
 |store (sh:Sh)
 |faddr (off:Nat)
 |iaddr (sh:Sh)
 |iaddrA (sh:Sh) (n:Nat)
 |sindex
 |aindex (sh:Sh)
 |field (off:Nat) (sh:Sh)
 |slice (sh:Sh) (lo hi:Bool)
 |sslice (lo hi:Bool)
 |mkslice (sh:Sh) (zero:PV)
 |mkfunc (fn:Fn) (first:Nat)
 |conv (k:IntKind)
 |extract (i:Nat)
 |mkmap (sh:Sh)
 |lookup (s:Bool) (sh:Sh) (zero:AV) (ok:Bool)
 |mapset (s:Bool) (sh:Sh)
 |eqs (neg:Bool) (ds:List Nat)
 |clear (sh:Sh) (zero:PV)
 |len
 |slen
 |mlen
 |append (sh:Sh)
 |min
 |max
 |mkiface (t:TypeId)
 |assert (t:TypeId) (sh:Sh) (zero:AV) (ok:Bool)
 |call
 |callp
 |callh
 |callg
 |calln (n:Nat)
 |bslicen (sh:Sh) (n:Nat)
 |appendn (sh:Sh) (n:Nat)
 |bslovn (sh:Sh) (n:Nat)
 |bslo (sh:Sh)
 |panic
 |nilcheck
 |isnil (neg:Bool)
 |storen (sh:Sh)
 |slice3 (sh:Sh) (lo:Bool)
 |copy (sh:Sh)
 |slnil (neg:Bool)
 |storex (sh:Sh)
 |bslov (sh:Sh)
 |mkslicev (sh:Sh) (zero:AV)
 |appendv (sh:Sh)
 deriving Inhabited

inductive AArg where
 |t (s:Nat)
 |c (v:AV)
 deriving Inhabited

structure AOper where
 dst:Option Nat
 op:AOp
 args:List AArg
 guard:Option (Nat × Bool):=none
 deriving Inhabited

def Fr.arg(fr:Fr):AArg->Option AV
 | .t s=>fr.look s
 | .c v=>some v
def Fr.argsOf(fr:Fr):List AArg->Option (List AV)
 |[]=>some []
 |a::r=>match fr.arg a with
  |none=>none
  |some v=>match Fr.argsOf fr r with
   |some l=>some (v::l)
   |none=>none

def PV.same:Bool->PV->PV->Option Bool
 |false,.int k a,.int k' b=>if k=k' then some (decide (a=b)) else none
 |true,.str a,.str b=>some (decide (a=b))
 |_,_,_=>none
def zbh:List Nat->List (Sh × PV)->List (Sh × PV)->Option Bool
 |[],[],[]=>some true
 |0::ds,(none,.int k a)::x,(none,.int k' b)::y=>if k=k' then(if a=b then zbh ds x y else some false) else none
 |1::ds,(none,.str a)::x,(none,.str b)::y=>if a=b then zbh ds x y else some false
 |2::ds,(none,.bool a)::x,(none,.bool b)::y=>if a=b then zbh ds x y else some false
 |_,_,_=>none

def zb1(op:BinOp)(k:IntKind)(a b:Int):Option PV:=
 match op with
 | .add=>some (.int k (k.wrap (a+b)))
 | .sub=>some (.int k (k.wrap (a - b)))
 | .mul=>some (.int k (k.wrap (a*b)))
 | .quo=>if b=0 then none else some (.int k (k.wrap (a.tdiv b)))
 | .rem=>if b=0 then none else some (.int k (a.tmod b))
 | .eql=>some (.bool (decide (a=b)))
 | .neq=>some (.bool (!decide (a=b)))
 | .lss=>some (.bool (decide (a<b)))
 | .leq=>some (.bool (decide (a<=b)))
 | .gtr=>some (.bool (decide (b<a)))
 | .geq=>some (.bool (decide (b<=a)))
 | .shr=>if b<0 then none else some (.int k (a.fdiv (2 ^ (Nat.min b.toNat k.bits))))
 |_=>none
def zfJ(op:BinOp)(a b:List UInt8):Option PV:=
 match op with
 | .add=>if a.length+b.length<=lim then some (.str (a++b)) else none
 | .eql=>some (.bool (decide (a=b)))
 | .neq=>some (.bool (!decide (a=b)))
 | .lss=>some (.bool (Op.bytesLess a b))
 | .leq=>some (.bool (Op.bytesLess a b || decide (a=b)))
 | .gtr=>some (.bool (!(Op.bytesLess a b || decide (a=b))))
 | .geq=>some (.bool (!(Op.bytesLess a b)))
 |_=>none
def zjF(op:BinOp)(a b:Bool):Option PV:=
 match op with
 | .eql=>some (.bool (a == b))
 | .neq=>some (.bool (!(a == b)))
 |_=>none
def zmS(op:BinOp):PV->PV->Option PV
 | .int k a,.int k' b=>if k=k' then zb1 op k a b else none
 | .str a,.str b=>zfJ op a b
 |_,_=>none

def zqW:List AV->Option (List (Sh × PV))
 |[]=>some []
 | .pv s p::r=>match zqW r with
  |some l=>some ((s,p)::l)
  |none=>none
 |_::_=>none

def zcK:List (Sh × AV)->List Nat->List AV->Option (List (Sh × AV))
 |l,[],[]=>some l
 |l,i::is,v::vs=>match l[i]? with
  |some (sh,_)=>if v.shp=sh/\v.plain=true then zcK (l.set i (sh,v)) is vs else none
  |none=>none
 |_,_,_=>none

def aload(sh:Sh)(hp:Heap):AV->Option AV
 | .ptr r off=>match hp[r]? with
  |some (.box s v)=>if off=0/\s=sh then some v else AV.part deep v off sh
  |_=>none
 | .iptr s p off=>if off=0/\s=sh then some (.pv sh p) else match PV.part deep p off sh with
  |some q=>some (.pv sh q)
  |none=>none
 | .eptr _ r ver i off=>match hp[r]? with
  |some (.arr s es _)=>if ver=es.length then match es[i]? with
   |some p=>if off=0/\s=sh then some (.pv sh p) else match PV.part deep p off sh with
    |some q=>some (.pv sh q)
    |none=>none
   |none=>none
   else none
  |_=>none
 | .epv _ r ver i off=>match hp[r]? with
  |some (.arv s es)=>if ver=es.length then match es[i]? with
   |some v=>if off=0/\s=sh then some v else AV.part deep v off sh
   |none=>none
   else none
  |some (.arr s es true)=>if ver=es.length then match es[i]? with
   |some p=>if off=0/\s=sh then some (.pv sh p) else match PV.part deep p off sh with
    |some q=>some (.pv sh q)
    |none=>none
   |none=>none
   else none
  |_=>none
 |_=>none

def AV.refsIn:AV->List Nat
 | .undef=>[]
 | .pv _ _=>[]
 | .tsl _ _=>[]
 | .sl _ r _ _ _=>[r]
 | .ptr r _=>[r]
 | .eptr _ r _ _ _=>[r]
 | .iptr _ _ _=>[]
 | .map r=>[r]
 | .agg l=>go l
 | .func _ f c=>gol f++gol c
 | .iface _ v=>v.refsIn
 | .tuple l=>gol l
 | .yield r=>[r]
 | .slv _ r _ _ _=>[r]
 | .epv _ r _ _ _=>[r]
 | .nilv _=>[]
where
 go:List (Sh × AV)->List Nat
 |[]=>[]
 |(_,v)::r=>v.refsIn++go r
 gol:List AV->List Nat
 |[]=>[]
 |v::r=>v.refsIn++gol r

def zgx:List (Nat × AV)->List Nat
 |[]=>[]
 |(_,v)::r=>v.refsIn++zgx r
def AObj.refs:AObj->List Nat
 | .box _ v=>v.refsIn
 | .loop _ _ env _=>zgx env
 | .arv _ es=>AV.refsIn.gol es
 |_=>[]

def astore(sh:Sh)(b:Nat)(hp:Heap):AV->AV->Option Heap
 | .ptr r off,v=>match hp[r]? with
  |some (.box s old)=>
   if v.plain=false\/v.shp≠sh then none
   else if b<=r then match v.own hp with
    |(v',hp1)=>if off=0/\s=sh then some (hp1.set r (.box s v')) else match AV.upd deep old off sh v' with
     |some new=>some (hp1.set r (.box s new))
     |none=>none
   else if v.refsIn.all (fun q=>old.refsIn.contains q)=true then
    if off=0/\s=sh then some (hp.set r (.box s v)) else match AV.upd deep old off sh v with
     |some new=>some (hp.set r (.box s new))
     |none=>none
   else none
  |_=>none
 | .eptr _ r ver i off,v=>if v.shp≠sh then none else match AV.freeze deep v hp with
  |none=>none
  |some (p,hp1)=>match hp1[r]? with
   |some (.arr s es false)=>if ver=es.length then match es[i]? with
    |some old=>if off=0/\s=sh then some (hp1.set r (.arr s (es.set i p) false)) else match PV.upd deep old off sh p with
     |some new=>some (hp1.set r (.arr s (es.set i new) false))
     |none=>none
    |none=>none
    else none
   |_=>none
 | .epv _ r ver i off,v=>if v.plain=false\/v.shp≠sh then none else match hp[r]? with
  |some (.arv s es)=>if ver=es.length then match es[i]? with
   |some old=>match(if off=0/\s=sh then some v else AV.upd deep old off sh v) with
    |some new=>if b<=r\/(new.refsIn.all fun q=>old.refsIn.contains q)=true then some (hp.set r (.arv s (es.set i new))) else none
    |none=>none
   |none=>none
   else none
  |_=>none
 |_,_=>none

def elems(hp:Heap):AV->Option (Sh × List PV)
 | .pv _ (.sl sh es)=>some (sh,es)
 | .tsl sh es=>some (sh,es)
 | .sl _ r ver off len=>match hp[r]? with
  |some (.arr sh es _)=>if ver=es.length then
    if off=0/\len=es.length then some (sh,es)
    else if off+len<=es.length then some (sh,(es.drop off).take len) else none
   else none
  |_=>none
 | .slv _ r ver off len=>match hp[r]? with
  |some (.arr sh es true)=>if ver=es.length then
    if off=0/\len=es.length then some (sh,es)
    else if off+len<=es.length then some (sh,(es.drop off).take len) else none
   else none
  |_=>none
 | .nilv sh=>some (sh,[])
 |_=>none
def elemsv(hp:Heap):AV->Option (Sh × List AV)
 | .slv s r ver off len=>match hp[r]? with
  |some (.arv sh es)=>if ver=es.length then
    if off=0/\len=es.length then some (sh,es)
    else if off+len<=es.length then some (sh,(es.drop off).take len) else none
   else none
  |_=>match elems hp (.slv s r ver off len) with
   |some (sh,es)=>some (sh,es.map (.pv sh))
   |none=>none
 |v=>match elems hp v with
  |some (sh,es)=>some (sh,es.map (.pv sh))
  |none=>none
def zkX(b r:Nat)(old new:List AV):Bool:=decide (b<=r) || (AV.refsIn.gol new).all fun q=>(AV.refsIn.gol old).contains q
def aappendv(sh:Sh)(b:Nat)(hp:Heap)(s x:AV):Option (AV × Heap):=
 match elemsv hp x with
 |none=>none
 |some (shx,new)=>
  if(shx=sh\/new=[])/\0<sh.size then
  match s with
  | .nilv s0=>
   if new=[] then some (.nilv s0,hp)
   else if new.length<=lim then some (.slv sh hp.length new.length 0 new.length,hp++[.arv sh new]) else none
  | .tsl s0 es=>
   if s0=sh/\new=[] then some (.tsl s0 es,hp)
   else if s0=sh/\new≠[]/\es.length+new.length<=lim then some (.slv sh hp.length (es.length+new.length) 0 (es.length+new.length),hp++[.arv sh (es.map (.pv sh)++new)])
   else none
  | .slv _ r ver off len=>match hp[r]? with
   |some (.arv s0 es)=>
    if s0=sh/\ver=es.length/\off=0/\zkX b r es new=true then
     if len+new.length<=lim then
      if len=es.length then some (.slv sh r (es.length+new.length) 0 (es.length+new.length),hp.set r (.arv sh (es++new)))
      else if len+new.length<=es.length then some (.slv sh r ver 0 (len+new.length),hp.set r (.arv sh (es.take len++new++es.drop (len+new.length))))
      else if len<es.length then some (.slv sh r (len+new.length) 0 (len+new.length),hp.set r (.arv sh (es.take len++new)))
      else none
     else none
    else none
   |_=>none
  |_=>none
  else none

def aappend(sh:Sh)(hp:Heap)(s x:AV):Option (AV × Heap):=
 match elems hp x with
 |none=>none
 |some (shx,new)=>
  if shx=sh\/new=[] then
  match s with
  | .tsl s0 es=>
   if s0=sh\/es=[] then
   if new=[] then some (s,hp)
   else if es.length+new.length<=lim then some (.sl sh hp.length (es.length+new.length) 0 (es.length+new.length),hp++[.arr sh (es++new) false])
   else none else none
  | .sl _ r ver off len=>match hp[r]? with
   |some (.arr s0 es false)=>
    if s0=sh/\ver=es.length/\off=0 then
     if len+new.length<=lim then
      if len=es.length then some (.sl sh r (es.length+new.length) 0 (es.length+new.length),hp.set r (.arr sh (es++new) false))
      else if len+new.length<=es.length then some (.sl sh r ver 0 (len+new.length),hp.set r (.arr sh (es.take len++new++es.drop (len+new.length)) false))
      else if len<es.length then some (.sl sh r (len+new.length) 0 (len+new.length),hp.set r (.arr sh (es.take len++new) false))
      else none
     else none
    else none
   |_=>none
  |_=>none
  else none

def aindex(sh:Sh)(i:Int):AV->Option AV
 | .pv _ (.sl s es)=>if 0<=i/\s=sh then match es[i.toNat]? with
   |some p=>some (.iptr sh p 0)
   |none=>none
  else none
 | .tsl s es=>if 0<=i/\s=sh then match es[i.toNat]? with
   |some p=>some (.iptr sh p 0)
   |none=>none
  else none
 | .sl s r ver off len=>if 0<=i/\i<len/\s=sh then some (.eptr sh r ver (off+i.toNat) 0) else none
 | .slv s r ver off len=>if 0<=i/\i<len/\s=sh then some (.epv sh r ver (off+i.toNat) 0) else none
 |_=>none

def aslice(sh:Sh)(lo:Int)(hi:Option Int):AV->Option AV
 | .pv _ (.sl s es)=>
  match hi with
  |none=>if(s=sh\/es=[])/\0<=lo/\lo<=es.length then some (.pv none (.sl s (es.drop lo.toNat))) else none
  |some h=>if(s=sh\/es=[])/\0<=lo/\lo<=h/\h<=es.length then some (.pv none (.sl s ((es.drop lo.toNat).take (h.toNat - lo.toNat)))) else none
 | .tsl s es=>
  match hi with
  |none=>if(s=sh\/es=[])/\0<=lo/\lo<=es.length then some (.tsl s (es.drop lo.toNat)) else none
  |some h=>if(s=sh\/es=[])/\0<=lo/\lo<=h/\h<=es.length then some (.pv none (.sl s ((es.drop lo.toNat).take (h.toNat - lo.toNat)))) else none
 | .sl s r ver off len=>
  match hi with
  |none=>if s=sh/\0<=lo/\lo<=len then some (.sl sh r ver (off+lo.toNat) (len - lo.toNat)) else none
  |some h=>if s=sh/\0<=lo/\lo<=h/\(h<=len\/off+h<=ver) then some (.sl sh r ver (off+lo.toNat) (h.toNat - lo.toNat)) else none
 | .slv s r ver off len=>
  match hi with
  |none=>if s=sh/\0<=lo/\lo<=len then some (.slv sh r ver (off+lo.toNat) (len - lo.toNat)) else none
  |some h=>if s=sh/\0<=lo/\lo<=h/\(h<=len\/off+h<=ver) then some (.slv sh r ver (off+lo.toNat) (h.toNat - lo.toNat)) else none
 |_=>none

def afind(s:Bool)(k:PV):List (PV × PV)->Option (Option PV)
 |[]=>some none
 |(k',v)::r=>match PV.same s k k' with
  |none=>none
  |some true=>some (some v)
  |some false=>afind s k r
def aput(s:Bool)(k v:PV):List (PV × PV)->Option (List (PV × PV))
 |[]=>some [(k,v)]
 |(k',v')::r=>match PV.same s k k' with
  |none=>none
  |some true=>some ((k,v)::r)
  |some false=>match aput s k v r with
   |some r'=>some ((k',v')::r')
   |none=>none


def zbd(hp:Heap):Option AV->Option (AV × Heap)
 |some v=>some (v,hp)
 |none=>none

def zjG:List AV->Option AV
 |[.pv _ (.bool c),x,y]=>some (bif c then x else y)
 |_=>none
def sNot:List AV->Option AV
 |[.pv _ (.bool x)]=>some (.pv none (.bool !x))
 |_=>none
def sNeg:List AV->Option AV
 |[.pv _ (.int k x)]=>some (.pv none (.int k (k.wrap (0 - x))))
 |_=>none
def sBin(o:BinOp):List AV->Option AV
 |[.pv _ x,.pv _ y]=>match zmS o x y with
  |some p=>some (.pv none p)
  |none=>none
 |_=>none
def zrH(o:BinOp):List AV->Option AV
 |[.pv _ (.bool x),.pv _ (.bool y)]=>match zjF o x y with
  |some p=>some (.pv none p)
  |none=>none
 |_=>none
def sEqs(neg:Bool)(ds:List Nat):List AV->Option AV
 |[.pv _ (.agg x),.pv _ (.agg y)]=>match zbh ds x y with
  |some b=>some (.pv none (.bool (bif neg then !b else b)))
  |none=>none
 |_=>none
def zdW(zero:List (Sh × AV))(idx:List Nat)(vs:List AV):Option AV:=
 if vs.all AV.plain=true then match zcK zero idx vs with
  |some l=>some (AV.ofComps l)
  |none=>none
 else none
def zcl(sh:Sh)(vs:List AV):Option AV:=
 match zaI vs with
 |some ps=>match za0 sh ps with
  |some es=>some (.tsl sh es)
  |none=>none
 |none=>none
def ze4(off:Nat):List AV->Option AV
 |[.ptr r o]=>some (.ptr r (o+off))
 |[.iptr s p o]=>some (.iptr s p (o+off))
 |[.eptr s r ver i o]=>some (.eptr s r ver i (o+off))
 |[.epv s r ver i o]=>some (.epv s r ver i (o+off))
 |_=>none
def zcm(sh:Sh):List AV->Option AV
 |[s,.pv _ (.int _ i)]=>aindex sh i s
 |_=>none
def zbV(sh:Sh)(n:Nat):List AV->Option AV
 |[.ptr r o,.pv _ (.int _ i)]=>if 0<=i/\i<n then some (.ptr r (o+i.toNat*sh.size)) else none
 |[.iptr s p o,.pv _ (.int _ i)]=>if 0<=i/\i<n then some (.iptr s p (o+i.toNat*sh.size)) else none
 |_=>none
def ze5:List AV->Option AV
 |[.pv _ (.str s),.pv _ (.int _ i)]=>if 0<=i then match s[i.toNat]? with
   |some c=>some (.pv none (.int .u8 c.toNat))
   |none=>none
  else none
 |_=>none
def zmT(off:Nat)(sh:Sh):List AV->Option AV
 |[v]=>AV.part deep v off sh
 |_=>none
def zbr(sh:Sh):Bool->Bool->List AV->Option AV
 |false,false,[s]=>aslice sh 0 none s
 |true,false,[s,.pv _ (.int _ l)]=>aslice sh l none s
 |false,true,[s,.pv _ (.int _ h)]=>aslice sh 0 (some h) s
 |true,true,[s,.pv _ (.int _ l),.pv _ (.int _ h)]=>aslice sh l (some h) s
 |_,_,_=>none
def zcL:Bool->Bool->List AV->Option AV
 |true,false,[.pv _ (.str s),.pv _ (.int _ l)]=>if 0<=l/\l<=s.length then some (.pv none (.str (s.drop l.toNat))) else none
 |false,true,[.pv _ (.str s),.pv _ (.int _ h)]=>if 0<=h/\h<=s.length then some (.pv none (.str (s.take h.toNat))) else none
 |true,true,[.pv _ (.str s),.pv _ (.int _ l),.pv _ (.int _ h)]=>if 0<=l/\l<=h/\h<=s.length then some (.pv none (.str ((s.drop l.toNat).take (h.toNat - l.toNat)))) else none
 |_,_,_=>none
def zd0(fn:Fn)(k:Nat)(vs:List AV):Option AV:=
 match vs with
 |[]=>some (.pv none (.func fn))
 |_=>some (.func fn (vs.take k) (vs.drop k))
def zjH(k:IntKind):List AV->Option AV
 |[.pv _ (.int _ n)]=>some (.pv none (.int k (k.wrap n)))
 |_=>none
def zcM(i:Nat):List AV->Option AV
 |[.tuple l]=>l[i]?
 |_=>none
def sMin:List AV->Option AV
 |[.pv _ (.int k x),.pv _ (.int k' y)]=>if k=k' then some (.pv none (.int k (if y<x then y else x))) else none
 |_=>none
def sMax:List AV->Option AV
 |[.pv _ (.int k x),.pv _ (.int k' y)]=>if k=k' then some (.pv none (.int k (if x<y then y else x))) else none
 |_=>none
def zhc(t:TypeId):List AV->Option AV
 |[.pv s p]=>some (.pv none (.iface t s p))
 |_=>none
def PV.bare:PV->PV
 | .agg [(some _,q)]=>q
 |p=>p
def zjI(t:TypeId)(sh:Sh)(zero:AV)(ok:Bool):List AV->Option AV
 |[.pv _ (.iface u s p)]=>
  if u=t/\s=sh then some (bif ok then .tuple [.pv s p.bare,.pv none (.bool true)] else .pv s p.bare)
  else if u=t then none
  else bif ok then some (.tuple [zero,.pv none (.bool false)]) else none
 |[.pv _ .niliface]=>bif ok then some (.tuple [zero,.pv none (.bool false)]) else none
 |_=>none
def sLen:List AV->Option AV
 |[.pv _ (.sl _ es)]=>some (.pv none (.int .i64 es.length))
 |[.tsl _ es]=>some (.pv none (.int .i64 es.length))
 |[.sl _ _ _ _ len]=>some (.pv none (.int .i64 len))
 |[.slv _ _ _ _ len]=>some (.pv none (.int .i64 len))
 |[.nilv _]=>some (.pv none (.int .i64 0))
 |_=>none
def zjJ:List AV->Option AV
 |[.pv _ (.str s)]=>some (.pv none (.int .i64 s.length))
 |_=>none
def sMv:List AV->Option AV
 |[v]=>some v
 |_=>none
def zfK:List AV->Option AV
 |[.ptr r o]=>some (.ptr r o)
 |[.iptr s p o]=>some (.iptr s p o)
 |[.eptr s r ver i o]=>some (.eptr s r ver i o)
 |[.epv s r ver i o]=>some (.epv s r ver i o)
 |_=>none
def zmU(neg:Bool):List AV->Option AV
 |[.pv _ (.iface _ _ _)]=>some (.pv none (.bool neg))
 |[.pv _ .niliface]=>some (.pv none (.bool !neg))
 |_=>none
def zmV(neg:Bool):List AV->Option AV
 |[.pv _ (.sl _ (_::_))]=>some (.pv none (.bool neg))
 |[.tsl _ (_::_)]=>some (.pv none (.bool neg))
 |[.sl _ _ _ _ (_+1)]=>some (.pv none (.bool neg))
 |_=>none
def zeD(sh:Sh):Bool->List AV->Option AV
 |false,[.pv _ (.sl s es),.pv _ (.int _ h),.pv _ (.int _ m)]=>if(s=sh\/es=[])/\0<=h/\h=m/\h<=es.length then some (.tsl s (es.take h.toNat)) else none
 |true,[.sl _ _ _ _ len,.pv _ (.int _ l),.pv _ (.int _ h),.pv _ (.int _ m)]=>if 0<=l/\l<=h/\h<=m/\m<=len then some .undef else none
 |true,[.slv _ _ _ _ len,.pv _ (.int _ l),.pv _ (.int _ h),.pv _ (.int _ m)]=>if 0<=l/\l<=h/\h<=m/\m<=len then some .undef else none
 |true,[.pv _ (.sl s es),.pv _ (.int _ l),.pv _ (.int _ h),.pv _ (.int _ m)]=>if(s=sh\/es=[])/\0<=l/\l<=h/\h=m/\h<=es.length then some (.tsl s ((es.drop l.toNat).take (h.toNat - l.toNat))) else none
 |_,_=>none

def zhd(sh:Sh):List AV->Option AV
 |[.tsl s0 es,.pv _ (.sl shx new)]=>if(shx=sh\/new=[])/\(s0=sh\/es=[])/\es.length+new.length<=lim then(if new=[] then some (.pv none (.sl s0 es)) else some (.pv none (.sl sh (es++new)))) else none
 |_=>none

def spure(op:AOp)(vs:List AV):Option AV:=
 match op with
 | .mv=>sMv vs
 | .len=>sLen vs
 | .slen=>zjJ vs
 | .pick=>zjG vs
 | .not=>sNot vs
 | .neg=>sNeg vs
 | .bin o=>sBin o vs
 | .binb o=>zrH o vs
 | .eqs neg ds=>sEqs neg ds vs
 | .build zero idx=>zdW zero idx vs
 | .bslicep sh=>zcl sh vs
 | .appendp sh=>zhd sh vs
 | .faddr off=>ze4 off vs
 | .iaddr sh=>zcm sh vs
 | .iaddrA sh n=>zbV sh n vs
 | .sindex=>ze5 vs
 | .field off sh=>zmT off sh vs
 | .slice sh lo hi=>zbr sh lo hi vs
 | .sslice lo hi=>zcL lo hi vs
 | .mkfunc fn k=>zd0 fn k vs
 | .conv k=>zjH k vs
 | .extract i=>zcM i vs
 | .min=>sMin vs
 | .max=>sMax vs
 | .mkiface t=>zhc t vs
 | .assert t sh zero ok=>zjI t sh zero ok vs
 | .nilcheck=>zfK vs
 | .isnil neg=>zmU neg vs
 | .slice3 sh lo=>zeD sh lo vs
 | .slnil neg=>zmV neg vs
 |_=>none
def AOp.isPure:AOp->Bool
 | .mv| .len| .slen| .pick| .not| .neg| .bin _| .binb _| .eqs .. | .build .. | .bslicep _| .appendp _| .faddr _| .iaddr _| .iaddrA .. | .sindex| .field .. | .slice .. | .sslice .. | .mkfunc .. | .conv _| .extract _
 | .min| .max| .mkiface _| .assert .. | .nilcheck| .isnil _| .slice3 .. | .slnil _=>true
 |_=>false

def zgq(sh:Sh)(hp:Heap):List AV->Option AV
 |[p]=>aload sh hp p
 |_=>none
def zhe(str:Bool)(sh:Sh)(zero:AV)(ok:Bool)(hp:Heap):List AV->Option AV
 |[.map r,.pv _ k]=>match hp[r]? with
  |some (.map s es)=>if s=sh then match afind str k es with
    |some (some v)=>some (bif ok then .tuple [.pv sh v,.pv none (.bool true)] else .pv sh v)
    |some none=>some (bif ok then .tuple [zero,.pv none (.bool false)] else zero)
    |none=>none
   else none
  |_=>none
 |_=>none
def zpc(hp:Heap):List AV->Option AV
 |[.map r]=>match hp[r]? with
  |some (.map _ es)=>some (.pv none (.int .i64 es.length))
  |_=>none
 |[.pv _ .nilmap]=>some (.pv none (.int .i64 0))
 |_=>none
def sread(op:AOp)(vs:List AV)(hp:Heap):Option AV:=
 match op with
 | .load sh=>zgq sh hp vs
 | .lookup s sh zero ok=>zhe s sh zero ok hp vs
 | .mlen=>zpc hp vs
 |_=>none
def AOp.isRead:AOp->Bool
 | .load _| .lookup .. | .mlen=>true
 |_=>false
def zkY(r:Nat):AV->Bool
 | .ptr q _=> !(Nat.beq q r)
 | .iptr .. =>true
 |_=>false
def zjK(sh:Sh)(b:Nat)(hp:Heap):List AV->Option (AV × Heap)
 | .ptr r o::v::qs=>if qs.all (zkY r)=true then match astore sh b hp (.ptr r o) v with
   |some hp'=>some (.undef,hp')
   |none=>none
  else none
 |_=>none
def zfL(sh:Sh)(b:Nat)(hp:Heap):List AV->Option (AV × Heap)
 |[.ptr r o,v,.eptr _ _ _ _ _,.pv _ _]=>match v with
  | .sl _ _ _ _ _| .pv _ _=>match astore sh b hp (.ptr r o) v with
   |some hp'=>some (.undef,hp')
   |none=>none
  |_=>none
 |_=>none
def zqX(sh:Sh)(hp:Heap):List AV->Option (AV × Heap)
 |[.sl s r ver off len,x]=>match elems hp x with
  |some (shx,new)=>if s=sh/\(shx=sh\/new=[]) then match hp[r]? with
    |some (.arr s' es false)=>if s'=sh/\ver=es.length/\off+len<=es.length then
      some (.pv none (.int .i64 (Nat.min len new.length)),hp.set r (.arr sh (es.take off++new.take (Nat.min len new.length)++es.drop (off+Nat.min len new.length)) false))
     else none
    |_=>none
   else none
  |none=>none
 |_=>none

def zbD(sh:Sh)(zero:AV)(hp:Heap):List AV->Option (AV × Heap)
 |[]=>if zero.plain=true/\zero.shp=sh then match zero.own (hp++[.box sh zero]) with
   |(v,hp1)=>some (.ptr hp.length 0,hp1.set hp.length (.box sh v))
  else none
 |_=>none
def wBox(sh:Sh)(hp:Heap):List AV->Option (AV × Heap)
 |[v]=>if v.plain=true/\v.shp=sh then match v.own (hp++[.box sh v]) with
   |(v',hp1)=>some (.ptr hp.length 0,hp1.set hp.length (.box sh v'))
  else none
 |_=>none
def zbi(sh:Sh)(hp:Heap)(vs:List AV):Option (AV × Heap):=
 match zal vs hp with
 |some (ps,hp')=>match za0 sh ps with
  |some es=>some (.tsl sh es,hp')
  |none=>none
 |none=>none
def zqY(sh:Sh)(hp:Heap)(vs:List AV):Option (AV × Heap):=
 match zal vs hp with
 |some (ps,hp')=>match za0 sh ps with
  |some es=>if 0<sh.size then some (.sl sh hp'.length es.length 0 es.length,hp'++[.arr sh es false]) else none
  |none=>none
 |none=>none
def zaB(sh:Sh)(b:Nat)(hp:Heap):List AV->Option (AV × Heap)
 |[p,v]=>match astore sh b hp p v with
  |some hp'=>some (.undef,hp')
  |none=>none
 |_=>none
def zhf(sh:Sh)(zero:PV)(hp:Heap):List AV->Option (AV × Heap)
 |[.pv _ (.int _ n),.pv _ (.int _ c)]=>if 0<=n/\n<=c/\c<=lim/\0<sh.size then some (.sl sh hp.length n.toNat 0 n.toNat,hp++[.arr sh (List.replicate n.toNat zero) false]) else none
 |_=>none
def zjL(str:Bool)(sh:Sh)(hp:Heap):List AV->Option (AV × Heap)
 |[.map r,.pv _ k,v]=>if v.shp=sh then match AV.freeze deep v hp with
   |none=>none
   |some (p,hp1)=>match hp1[r]? with
    |some (.map s es)=>if s=sh then match aput str k p es with
      |some es'=>some (.undef,hp1.set r (.map s es'))
      |none=>none
     else none
    |_=>none
  else none
 |_=>none
def ze6(sh:Sh)(zero:PV)(hp:Heap):List AV->Option (AV × Heap)
 |[.sl _ r ver off len]=>match hp[r]? with
  |some (.arr s es false)=>if s=sh/\ver=es.length/\off+len<=es.length then some (.undef,hp.set r (.arr s (es.take off++List.replicate len zero++es.drop (off+len)) false)) else none
  |_=>none
 |[.slv _ r ver off len]=>match hp[r]? with
  |some (.arv s es)=>if s=sh/\ver=es.length/\off+len<=es.length then some (.undef,hp.set r (.arv s (es.take off++List.replicate len (.pv sh zero)++es.drop (off+len)))) else none
  |_=>none
 |_=>none
def za8(sh:Sh)(hp:Heap):List AV->Option (AV × Heap)
 |[s,x]=>aappend sh hp s x
 |_=>none
def zdX(sh:Sh)(hp:Heap)(vs:List AV):Option (AV × Heap):=
 if 0<sh.size/\vs.all (fun v=>v.plain && decide (v.shp=sh))=true then some (.slv sh hp.length vs.length 0 vs.length,hp++[.arv sh vs]) else none
def zbQ(sh:Sh)(zero:AV)(hp:Heap):List AV->Option (AV × Heap)
 |[.pv _ (.int _ n),.pv _ (.int _ c)]=>if 0<=n/\n<=c/\c<=lim/\0<sh.size then some (.slv sh hp.length n.toNat 0 n.toNat,hp++[.arv sh (List.replicate n.toNat zero)]) else none
 |_=>none
def zcn(sh:Sh)(b:Nat)(hp:Heap):List AV->Option (AV × Heap)
 |[s,x]=>aappendv sh b hp s x
 |_=>none
def zb2(sh:Sh)(hp:Heap):Option (AV × Heap):=
 if 0<sh.size then some (.sl sh hp.length 0 0 0,hp++[.arr sh [] false]) else none
def swrite(b:Nat)(op:AOp)(vs:List AV)(hp:Heap):Option (AV × Heap):=
 match op with
 | .nilsl sh=>zb2 sh hp
 | .alloc sh zero=>zbD sh zero hp vs
 | .box sh=>wBox sh hp vs
 | .bslice sh=>zbi sh hp vs
 | .bslo sh=>zqY sh hp vs
 | .store sh=>zaB sh b hp vs
 | .mkslice sh zero=>zhf sh zero hp vs
 | .mkmap sh=>some (.map hp.length,hp++[.map sh []])
 | .mapset s sh=>zjL s sh hp vs
 | .clear sh zero=>ze6 sh zero hp vs
 | .append sh=>za8 sh hp vs
 | .storen sh=>zjK sh b hp vs
 | .copy sh=>zqX sh hp vs
 | .storex sh=>zfL sh b hp vs
 | .bslov sh=>zdX sh hp vs
 | .mkslicev sh zero=>zbQ sh zero hp vs
 | .appendv sh=>zcn sh b hp vs
 |_=>none

def astep(b:Nat)(op:AOp)(vs:List AV)(hp:Heap):Option (AV × Heap):=
 bif op.isPure then zbd hp (spure op vs)
 else bif op.isRead then zbd hp (sread op vs hp)
 else swrite b op vs hp

inductive ACode where
 |skip
 |settle (slots:List Nat)
 |doom (ops:List (AOper × Option (List AOper))) (keep:List Nat)
 |region (pan:Bool) (ops:List AOper) (keep:List Nat)
 |seq (a b:ACode)
 |cond (c:AArg) (x y:ACode)
 |block (id:Nat) (c:ACode)
 |loop (keep:List Nat) (c:ACode)
 |exit (id:Nat)
 |ret
 deriving Inhabited

inductive AExit where
 |normal
 |exit (id:Nat)
 |ret
 |panic (v:PV)
 deriving Inhabited

structure St where
 fr:Fr
 hp:Heap

inductive ARes where
 |ret (v:AV)
 |panic (v:PV)
 deriving Inhabited

inductive Kind where
 |fn
 |rnd
 |dfr
 |seq
abbrev Oracle:=Kind->FuncId->List AV->Heap->Option (ARes × Heap)
abbrev zbW:=FuncId->List AV->Heap->Option (ARes × Heap)

mutual
def PV.beq:PV->PV->Bool
 | .bool a,.bool b=>a == b
 | .int k a,.int k' b=>decide (k=k') && decide (a=b)
 | .str a,.str b=>decide (a=b)
 | .agg a,.agg b=>PV.beqc a b
 | .sl s a,.sl s' b=>decide (s=s') && PV.beqs a b
 | .nilfunc,.nilfunc=>true
 | .nilptr,.nilptr=>true
 | .nilmap,.nilmap=>true
 | .niliface,.niliface=>true
 | .func (.func f),.func (.func g)=>Nat.beq f g
 | .iface t s a,.iface t' s' b=>decide (t=t') && decide (s=s') && PV.beq a b
 |_,_=>false
def PV.beqc:List (Sh × PV)->List (Sh × PV)->Bool
 |[],[]=>true
 |x::a,y::b=>decide (x.1=y.1) && PV.beq x.2 y.2 && PV.beqc a b
 |_,_=>false
def PV.beqs:List PV->List PV->Bool
 |[],[]=>true
 |x::a,y::b=>PV.beq x y && PV.beqs a b
 |_,_=>false
end
mutual
def AV.beq:AV->AV->Bool
 | .pv s p,.pv s' q=>decide (s=s') && PV.beq p q
 | .agg a,.agg b=>AV.beqc a b
 | .tsl s a,.tsl s' b=>decide (s=s') && PV.beqs a b
 | .sl s r v o n,.sl s' r' v' o' n'=>decide (s=s') && Nat.beq r r' && Nat.beq v v' && Nat.beq o o' && Nat.beq n n'
 | .ptr r o,.ptr r' o'=>Nat.beq r r' && Nat.beq o o'
 | .eptr s r v i o,.eptr s' r' v' i' o'=>decide (s=s') && Nat.beq r r' && Nat.beq v v' && Nat.beq i i' && Nat.beq o o'
 | .iptr s p o,.iptr s' p' o'=>decide (s=s') && PV.beq p p' && Nat.beq o o'
 | .map r,.map r'=>Nat.beq r r'
 | .yield r,.yield r'=>Nat.beq r r'
 | .func (.func f) a b,.func (.func g) c d=>Nat.beq f g && AV.beqs a c && AV.beqs b d
 | .iface t a,.iface t' b=>decide (t=t') && AV.beq a b
 | .tuple a,.tuple b=>AV.beqs a b
 | .undef,.undef=>true
 | .slv s r v o n,.slv s' r' v' o' n'=>decide (s=s') && Nat.beq r r' && Nat.beq v v' && Nat.beq o o' && Nat.beq n n'
 | .epv s r v i o,.epv s' r' v' i' o'=>decide (s=s') && Nat.beq r r' && Nat.beq v v' && Nat.beq i i' && Nat.beq o o'
 | .nilv s,.nilv s'=>decide (s=s')
 |_,_=>false
def AV.beqc:List (Sh × AV)->List (Sh × AV)->Bool
 |[],[]=>true
 |x::a,y::b=>decide (x.1=y.1) && AV.beq x.2 y.2 && AV.beqc a b
 |_,_=>false
def AV.beqs:List AV->List AV->Bool
 |[],[]=>true
 |x::a,y::b=>AV.beq x y && AV.beqs a b
 |_,_=>false
end
def Fr.beq:Fr->Fr->Bool
 |[],[]=>true
 |x::a,y::b=>Nat.beq x.1 y.1 && AV.beq x.2 y.2 && Fr.beq a b
 |_,_=>false
def PV.beqm:List (PV × PV)->List (PV × PV)->Bool
 |[],[]=>true
 |x::a,y::b=>PV.beq x.1 y.1 && PV.beq x.2 y.2 && PV.beqm a b
 |_,_=>false
def AObj.beq:AObj->AObj->Bool
 | .box s v,.box s' v'=>decide (s=s') && AV.beq v v'
 | .arr s a z,.arr s' b z'=>decide (s=s') && PV.beqs a b && z == z'
 | .arv s a,.arv s' b=>decide (s=s') && AV.beqs a b
 | .map s a,.map s' b=>decide (s=s') && PV.beqm a b
 | .loop f p e z,.loop f' p' e' z'=>Nat.beq f f' && decide (p=p') && Fr.beq e e' && z == z'
 |_,_=>false
def Heap.beq:Heap->Heap->Bool
 |[],[]=>true
 |x::a,y::b=>AObj.beq x y && Heap.beq a b
 |_,_=>false
def zhg(a b:Heap):Bool:=Heap.beq a b

def za4:AV->Option (FuncId × List AV × List AV)
 | .pv _ (.func (.func f))=>some (f,[],[])
 | .func (.func f) first captured=>some (f,first,captured)
 |_=>none

def Fr.dst(fr:Fr)(d:Option Nat)(v:AV):Fr:=
 match d with
 |some d=>(d,v)::fr
 |none=>fr

def AV.bare:AV->Option AV
 | .pv s p=>some (.pv s p)
 | .tuple l=>match zqW l with
  |some ps=>some (.tuple (pvs ps))
  |none=>none
 |_=>none

def zbs:List AV->List AV->List AV
 | .tsl s []::r,_::q=>.tsl s []::zbs r q
 |_::r,x::q=>x::zbs r q
 |_,q=>q
def AV.alone(v:AV)(hp:Heap):Option AV:=
 match v.bare with
 |some v'=>some v'
 |none=>match AV.freeze deep v hp with
  |some (p,_)=>some (.pv v.shp p)
  |none=>none
inductive OpRes where
 |val (v:AV) (hp:Heap)
 |panic (v:PV) (hp:Heap)

def zqD:Option AObj->Option FuncId
 |some (.loop f _ _ false)=>some f
 |_=>none
def zcz(Γ:Oracle)(hp:Heap):List AV->Option OpRes
 | .yield r::as=>match zqD hp[r]? with
  |some f=>match Γ .rnd f (.yield r::as) hp with
   |some (.ret v,hp')=>some (.val v hp')
   |_=>none
  |none=>none
 |f::as=>match za4 f with
  |some (g,first,captured)=>match Γ .fn g (first++as++captured) hp with
   |some (.ret v,hp')=>some (.val v hp')
   |some (.panic v,hp')=>some (.panic v hp')
   |none=>none
  |none=>none
 |[]=>none
def zgy(Γ:Oracle)(hp:Heap):List AV->Option OpRes
 |f::as=>match za4 f with
  |some (g,first,captured)=>match Γ .fn g (first++as++captured) hp with
   |some (.ret v,hp')=>if zhg hp' hp=true then some (.val v hp) else none
   |_=>none
  |none=>none
 |[]=>none
def zb9(hp hp':Heap):AV->Bool
 | .ptr r _=>match hp[r]?,hp'[r]? with
  |some a,some b=>AObj.beq a b
  |_,_=>false
 | .iptr .. =>true
 |_=>false
def zea(sh:Sh)(hp:Heap)(n:Nat)(vs:List AV):Option OpRes:=
 match zbi sh hp (vs.drop n) with
 |some (v,hp')=>if(vs.take n).all (zb9 hp hp')=true then some (.val v hp') else none
 |none=>none
def zfz(sh:Sh)(hp:Heap)(n:Nat)(vs:List AV):Option OpRes:=
 match za8 sh hp (vs.drop n) with
 |some (v,hp')=>if(vs.take n).all (zb9 hp hp')=true then some (.val v hp') else none
 |none=>none
def zhh(sh:Sh)(hp:Heap)(n:Nat)(vs:List AV):Option OpRes:=
 match zdX sh hp (vs.drop n) with
 |some (v,hp')=>if(vs.take n).all (zb9 hp hp')=true then some (.val v hp') else none
 |none=>none
def zgz(Γ:Oracle)(hp:Heap)(n:Nat)(vs:List AV):Option OpRes:=
 match zcz Γ hp (vs.drop n) with
 |some (.val v hp')=>if(vs.take n).all (zb9 hp hp')=true then some (.val v hp') else none
 |r=>r
def zgA(Γ:Oracle)(hp:Heap)(vs:List AV):Option OpRes:=
 match zcz Γ hp vs with
 |some (.val v hp')=>if zhg (hp'.take hp.length) hp=true then some (.val v hp') else none
 |_=>none
def zeb(Γ:Oracle)(hp:Heap):List AV->Option OpRes
 | .pv _ (.func (.func g))::as=>match zaI as with
  |some ps=>match Γ .fn g (zbs as (pvs ps)) [] with
   |some (.ret v,hp')=>match v.alone hp' with
    |some v'=>some (.val v' hp)
    |none=>none
   |_=>none
  |none=>none
 |_=>none
def zca(Γ:Oracle)(hp:Heap):List AV->Option OpRes
 | .pv _ (.func (.func g))::as=>match zaI as with
  |some ps=>match Γ .fn g (zbs as (pvs ps)) [] with
   |some (.ret v,hp')=>match v.alone hp' with
    |some v'=>some (.val v' hp)
    |none=>none
   |some (.panic p,_)=>some (.panic p hp)
   |none=>none
  |none=>none
 |_=>none
def zqE(hp:Heap):List AV->Option OpRes
 |[.pv _ (.iface t s p)]=>some (.panic (.iface t s p) hp)
 |_=>none

def aOp(Γ:Oracle)(b:Nat)(op:AOp)(vs:List AV)(hp:Heap):Option OpRes:=
 match op with
 | .call=>zcz Γ hp vs
 | .callp=>zeb Γ hp vs
 | .callh=>zgy Γ hp vs
 | .callg=>zgA Γ hp vs
 | .calln n=>zgz Γ hp n vs
 | .bslicen sh n=>zea sh hp n vs
 | .appendn sh n=>zfz sh hp n vs
 | .bslovn sh n=>zhh sh hp n vs
 | .panic=>zqE hp vs
 |op=>match astep b op vs hp with
  |some (v,hp')=>some (.val v hp')
  |none=>none

def wants(fr:Fr):Option (Nat × Bool)->Option Bool
 |none=>some true
 |some (s,want)=>match fr.look s with
  |some (.pv _ (.bool b))=>some (b == want)
  |some .undef=>some false
  |_=>none

def aops(Γ:Oracle)(b:Nat):List AOper->Fr->Heap->Option (AExit × Fr × Heap)
 |[],fr,hp=>some (.normal,fr,hp)
 |o::rest,fr,hp=>match wants fr o.guard with
  |none=>none
  |some false=>aops Γ b rest (fr.dst o.dst .undef) hp
  |some true=>match fr.argsOf o.args with
   |none=>none
   |some vs=>match aOp Γ b o.op vs hp with
    |some (.val v hp')=>aops Γ b rest (fr.dst o.dst v) hp'
    |some (.panic v hp')=>some (.panic v,fr,hp')
    |none=>none

def zcN(Γ:Oracle)(b:Nat):List (AOper × Option (List AOper))->Fr->Heap->Option (AExit × Fr × Heap)
 |[],fr,hp=>some (.normal,fr,hp)
 |(o,none)::rest,fr,hp=>match wants fr o.guard with
  |none=>none
  |some false=>zcN Γ b rest (fr.dst o.dst .undef) hp
  |some true=>match fr.argsOf o.args with
   |none=>none
   |some vs=>match aOp Γ b o.op vs hp with
    |some (.val v hp')=>zcN Γ b rest (fr.dst o.dst v) hp'
    |_=>none
 |(o,some later)::rest,fr,hp=>match fr.argsOf o.args with
  |none=>none
  |some vs=>match zca Γ hp vs with
   |some (.val v _)=>zcN Γ b rest (fr.dst o.dst v) hp
   |some (.panic p _)=>match aops Γ b later fr hp with
    |some (.normal,_,_)=>some (.panic p,[],hp)
    |_=>none
   |none=>none

def settle:List Nat->St->Option St
 |[],st=>some st
 |s::r,st=>match st.fr.look s with
  |some (.ptr q _)=>match st.hp[q]? with
   |some (.box sh v)=>match AV.freeze deep v st.hp with
    |some (p,hp')=>settle r ⟨st.fr,hp'.set q (.box sh (.pv sh p))⟩
    |none=>none
   |_=>settle r st
  |some (.sl s' q ver off len)=>match AV.freeze deep (.sl s' q ver off len) st.hp with
   |some (p,hp')=>settle r ⟨(s,.pv none p)::st.fr,hp'⟩
   |none=>none
  |some (.tsl sh es)=>settle r ⟨(s,.pv none (.sl sh es))::st.fr,st.hp⟩
  |some (.slv s' q ver off len)=>match AV.freeze deep (.slv s' q ver off len) st.hp with
   |some (p,hp')=>settle r ⟨(s,.pv none p)::st.fr,hp'⟩
   |none=>none
  |some (.nilv sh)=>settle r ⟨(s,.pv none (.sl sh []))::st.fr,st.hp⟩
  |some (.agg l)=>if(AV.refsIn.go l).isEmpty=true then settle r st else match AV.freeze deep (.agg l) st.hp with
   |some (p,hp')=>settle r ⟨(s,.pv (some (total l)) p)::st.fr,hp'⟩
   |none=>settle r st
  |_=>settle r st

def collect(n b:Nat)(fr:Fr)(hp:Heap):Heap:=
 if fr.all (fun x=>x.2.refsIn.all (·<n)) && ((hp.take n).drop b).all (fun o=>o.refs.all (·<n)) then hp.take n else hp

abbrev zah:=(b n:Nat)->List Nat->ACode->St->Option (AExit × St)

def aexec(Γ:Oracle)(Λ:zah)(b:Nat):ACode->St->Option (AExit × St)
 | .skip,st=>some (.normal,st)
 | .settle l,st=>match settle l st with
  |some st'=>some (.normal,st')
  |none=>none
 | .doom l keep,st=>match zcN Γ b l st.fr st.hp with
  |some (.normal,fr,hp)=>some (.normal,⟨fr.keep keep,hp⟩)
  |some (.panic v,_,_)=>some (.panic v,⟨[],st.hp⟩)
  |_=>none
 | .region pan ops keep,st=>match aops Γ b ops st.fr st.hp with
  |some (.normal,fr,hp)=>some (.normal,⟨fr.keep keep,hp⟩)
  |some (.panic v,fr,hp)=>if pan=true then some (.panic v,⟨fr.keep keep,hp⟩) else none
  |_=>none
 | .seq x y,st=>match aexec Γ Λ b x st with
  |some (.normal,st')=>aexec Γ Λ b y st'
  |r=>r
 | .cond c x y,st=>match st.fr.arg c with
  |some (.pv _ (.bool true))=>aexec Γ Λ b x st
  |some (.pv _ (.bool false))=>aexec Γ Λ b y st
  |_=>none
 | .block id c,st=>match aexec Γ Λ b c st with
  |some (.exit i,st')=>if i=id then some (.normal,st') else some (.exit i,st')
  |r=>r
 | .loop keep c,st=>Λ b st.hp.length keep c ⟨st.fr.keep keep,st.hp⟩
 | .exit id,st=>some (.exit id,st)
 | .ret,st=>some (.ret,st)

def aloop(Γ:Oracle):Nat->zah
 |0=>fun _ _ _ _ _=>none
 |n+1=>fun b m keep c st=>match aexec Γ (aloop Γ n) b c st with
  |some (.normal,st')=>let fr:=st'.fr.keep keep;aloop Γ n b m keep c ⟨fr,collect m b fr st'.hp⟩
  |r=>r

abbrev RSlot:=Nat × Option Sh

inductive ATop where
 |range (self:FuncId) (f:AArg) (ps env:List Nat)
 |dfr (s:Nat)
structure ARound where
 ps:List Nat
 assign:ACode
 body:ACode

structure AFn where
 nparams:Nat
 results:List RSlot
 code:ACode
 heapMode:Bool:=false
 more:List (ATop × ACode):=[]
 rounds:List ARound:=[]
 rcv:Option Nat:=none

def params:Nat->List AV->Fr
 |_,[]=>[]
 |i,v::r=>(i,v)::params (i+1) r

def zec(st:St):RSlot->Option AV
 |(s,none)=>st.fr.look s
 |(s,some sh)=>match st.fr.look s with
  |some p=>aload sh st.hp p
  |none=>none
def zaQ(st:St):List RSlot->Option (List AV)
 |[]=>some []
 |s::r=>match zec st s with
  |none=>none
  |some v=>match zaQ st r with
   |some l=>some (v::l)
   |none=>none
def zay(st:St):List RSlot->Option AV
 |[s]=>zec st s
 |l=>match zaQ st l with
  |some vs=>some (.tuple vs)
  |none=>none

def AV.freezeRes:AV->Heap->Option (AV × Heap)
 | .tuple l,hp=>match zal l hp with
  |some (ps,hp')=>some (.tuple (pvs ps),hp')
  |none=>none
 |v,hp=>match AV.freeze deep v hp with
  |some (p,hp')=>some (.pv v.shp p,hp')
  |none=>none

def atop(Γ:Oracle)(op:ATop)(st:St)(ds:List AV):Option (AExit × St × List AV):=
 match op with
 | .dfr s=>match st.fr.look s with
  |some (.func (.func g) first captured)=>some (.normal,st,.func (.func g) first captured::ds)
  |_=>none
 | .range _ _ _ _=>none
def apieces(Γ:Oracle)(Λ:zah)(b:Nat):List (ATop × ACode)->ACode->St->List AV->Option (AExit × St × List AV)
 |[],c,st,ds=>match aexec Γ Λ b c st with
  |some (e,st')=>some (e,st',ds)
  |none=>none
 |(op,c2)::r,c,st,ds=>match aexec Γ Λ b c st with
  |some (.normal,st1)=>match atop Γ op st1 ds with
   |some (.normal,st2,ds2)=>apieces Γ Λ b r c2 st2 ds2
   |_=>none
  |some (e,st1)=>some (e,st1,ds)
  |none=>none
def aunwind(Γ:Oracle):List AV->Option PV->Heap->Option (Option PV × Heap)
 |[],p,hp=>some (p,hp)
 |c::ds,p,hp=>match za4 c with
  |some (g,first,captured)=>match Γ .dfr g (.pv none (p.getD .niliface)::(first++captured)) hp with
   |some (.ret _,hp')=>aunwind Γ ds none hp'
   |_=>none
  |none=>none
def aresult(fn:AFn)(st:St):Option (ARes × Heap):=
 match zay st fn.results with
 |some v=>some (.ret v,st.hp)
 |none=>none
def aleave(Γ:Oracle)(fn:AFn):Option (AExit × St × List AV)->Option (ARes × Heap)
 |some (.normal,st,ds)|some (.ret,st,ds)=>match aunwind Γ ds none st.hp with
  |some (none,hp')=>aresult fn ⟨st.fr,hp'⟩
  |_=>none
 |some (.panic v,st,ds)=>match aunwind Γ ds (some v) st.hp with
  |some (none,hp')=>aresult fn ⟨st.fr,hp'⟩
  |some (some v',hp')=>some (.panic v',hp')
  |none=>none
 |_=>none
def abody(Γ:Oracle)(Λ:zah)(fn:AFn)(args:List AV)(hp:Heap):Option (ARes × Heap):=
 if args.length≠fn.nparams then none else match fn.more with
 |[]=>match aexec Γ Λ 0 fn.code ⟨params 0 args,hp⟩ with
  |some (.normal,st)|some (.ret,st)=>match zay st fn.results with
   |some v=>some (.ret v,st.hp)
   |none=>none
  |some (.panic v,st)=>some (.panic v,st.hp)
  |_=>none
 |more=>aleave Γ fn (apieces Γ Λ 0 more fn.code ⟨params 0 args,hp⟩ [])

def PV.scalar:PV->Bool
 | .bool _| .int _ _| .str _=>true
 |_=>false
def AV.scalar1:AV->Bool
 | .pv _ p=>p.scalar
 |_=>false
def AV.scalar:AV->Bool
 | .pv _ p=>p.scalar
 | .tuple l=>l.all AV.scalar1
 |_=>false

def around(_:FuncId->Option AFn)(_:Oracle)(_:zah)(_:FuncId)(_:List AV)(_:Heap):Option (ARes × Heap):=none
def adefer(_:FuncId->Option AFn)(_:Oracle)(_:zah)(_:FuncId)(_:List AV)(_:Heap):Option (ARes × Heap):=none

def zcA(n:Nat):Heap->Heap->Bool
 |o::r,o'::r'=>(o'.refs.all fun q=>decide (q<n) || o.refs.contains q) && zcA n r r'
 |_,_=>true

def zbe(F:FuncId->Option AFn)(prim:FuncId->Option zbW)(Γ:Oracle)(Λ:zah)(f:FuncId)(args:List AV)(hp:Heap):Option (ARes × Heap):=
 match prim f with
 |some p=>p f args hp
 |none=>match F f with
  |none=>none
  |some fn=>
   if fn.rcv.isSome=true then none else
   if fn.heapMode=true then match abody Γ Λ fn args hp with
    |some (.ret v,hp')=>some (.ret v,if v.refsIn.all (·<hp.length) && zcA hp.length hp hp' then hp'.take hp.length else hp')
    |some (.panic v,hp')=>some (.panic v,hp')
    |none=>none
   else match zal args hp with
    |none=>none
    |some (ps,hp1)=>match abody Γ Λ fn (pvs ps) [] with
     |some (.ret v,hp2)=>match v.freezeRes hp2 with
      |some (v',_)=>some (.ret v',bif v'.scalar then hp else hp1)
      |none=>none
     |some (.panic v,_)=>some (.panic v,hp1)
     |none=>none
def acall(F:FuncId->Option AFn)(prim:FuncId->Option zbW)(Γ:Oracle)(Λ:zah):Oracle:=fun k f args hp=>
 match k with
 | .rnd=>around F Γ Λ f args hp
 | .dfr=>adefer F Γ Λ f args hp
 | .fn=>zbe F prim Γ Λ f args hp
 | .seq=>if(F f).isSome=true then zbe F prim Γ Λ f args hp else none

def asem(F:FuncId->Option AFn)(prim:FuncId->Option zbW):Nat->Oracle
 |0=>fun _ _ _ _=>none
 |n+1=>acall F prim (asem F prim n) (aloop (asem F prim n) n)

end Go.Am

/- The translation of code into the abstract machine's, with the slots that live on. -/
namespace Go.Am

def shOf(P:Program)(t:TypeId):Sh:=
 match P.underlying t with
 |some (.struct _)|some (.array _ _)=>some (P.cellsOf t)
 |_=>none

def okT(P:Program)(t:TypeId):Bool:=
 match P.info? t,P.underlying t with
 |some i,some _=>i.size == (shOf P t).size && decide (0<i.size)
 |_,_=>false

def zmW(P:Program)(t:TypeId)(pos:String):Bool:=
 match P.info? t with
 |some i=>match i.desc with
  | .named n _=>n == "hornbeam/api.Proc" || (n == "hornbeam/api.Term" && (pos == "order.go:49" || pos == "order.go:51"))
  |_=>false
 |none=>false

def okS(P:Program)(t:TypeId):Bool:=
 match P.info? t,P.underlying t with
 |some i,some _=>i.size == (shOf P t).size
 |_,_=>false

def zpd(f:TypeId->Value->Option AV)(cs:Array Value)(sh:Sh)(t:TypeId)(off:Nat):Option AV:=
 match sh with
 |some n=>if off+n<=cs.size then f t (.agg (cs.extract off (off+n))) else none
 |none=>match cs[off]? with
  |some v=>if v.oneCell'=true then f t v else none
  |none=>none
def zcO(P:Program)(f:TypeId->Value->Option AV)(cs:Array Value)(o:Nat):List Field->Option (List (Sh × AV))
 |[]=>if o=cs.size then some [] else none
 |fd::r=>if fd.offset=o then match zpd f cs (shOf P fd.type) fd.type o with
  |none=>none
  |some v=>match zcO P f cs (o+(shOf P fd.type).size) r with
   |some l=>some ((shOf P fd.type,v)::l)
   |none=>none
  else none
def zd1(f:TypeId->Value->Option AV)(cs:Array Value)(sh:Sh)(t:TypeId)(o:Nat):Nat->Option (List (Sh × AV))
 |0=>if o=cs.size then some [] else none
 |n+1=>match zpd f cs sh t o with
  |none=>none
  |some v=>match zd1 f cs sh t (o+sh.size) n with
   |some l=>some ((sh,v)::l)
   |none=>none
def ofValue(P:Program):Nat->TypeId->Value->Option AV
 |0,_,_=>none
 |d+1,t,v=>match v with
  | .bool b=>some (.pv none (.bool b))
  | .int k n=>some (.pv none (.int k n))
  | .string s=>some (.pv none (.str s.data.toList))
  | .slice none 0 0=>match P.underlying t with
   |some (.slice e)=>if zmW P e "" =true then some (.nilv (shOf P e)) else some (.tsl (shOf P e) [])
   |_=>none
  | .pointer none=>some (.pv none .nilptr)
  | .nilFunc=>some (.pv none .nilfunc)
  | .map none=>some (.pv none .nilmap)
  | .nilIface=>some (.pv none .niliface)
  | .agg cs=>match P.underlying t with
   |some (.struct fs)=>match zcO P (ofValue P d) cs 0 fs.toList with
    |some l=>some (AV.ofComps l)
    |none=>none
   |some (.array n e)=>match zd1 (ofValue P d) cs (shOf P e) e 0 n with
    |some l=>some (AV.ofComps l)
    |none=>none
   |_=>none
  |_=>none
abbrev ofValue.one(P:Program)(d:Nat)(cs:Array Value)(sh:Sh)(t:TypeId)(off:Nat):Option AV:=zpd (ofValue P d) cs sh t off
abbrev ofValue.fields(P:Program)(d:Nat)(cs:Array Value)(o:Nat)(l:List Field):Option (List (Sh × AV)):=zcO P (ofValue P d) cs o l
abbrev ofValue.items(P:Program)(d:Nat)(cs:Array Value)(sh:Sh)(t:TypeId)(o n:Nat):Option (List (Sh × AV)):=zd1 (ofValue P d) cs sh t o n

def zbt(P:Program)(t:TypeId):Operand->Option AArg
 | .tmp s=>some (.t s)
 | .const v=>(ofValue P 8 t v).map .c
 | .func f=>some (.c (.pv none (.func (.func f))))
 | .global _=>none

def zaU(P:Program)(t:TypeId):Option AV:=
 match P.info? t with
 |some i=>match i.zero with
  |some z=>ofValue P 8 t z
  |none=>none
 |none=>none

def zaZ(P:Program)(t:TypeId):Bool:=
 match zaU P t with
 |some z=>decide (z.shp=shOf P t)
 |none=>false

def zdY(P:Program):List Operand->List TypeId->Option (List AArg)
 |[],_=>some []
 |x::r,ts=>match zbt P (ts.headD 0) x with
  |none=>none
  |some a=>match zdY P r ts.tail with
   |some l=>some (a::l)
   |none=>none

def pvOf(v:AV):Option PV:=v.weaken deep

def zbu(P:Program)(t:TypeId):Bool:=
 match P.info? t with
 |some i=>i.bytes<=1024
 |none=>false

def zsf(op:BinOp)(k:Option TypeDesc):Bool:=
 match k,op with
 |some (.int _),_=> !(op matches .and| .or| .xor| .andNot| .shl)
 |some .string,.add|some .string,.eql|some .string,.neq|some .string,.lss|some .string,.leq|some .string,.gtr|some .string,.geq=>true
 |_,_=>false

def zhi(P:Program):Nat->List Field->Option (List Nat)
 |_,[]=>some []
 |o,f::r=>if f.offset=o/\f.name≠ "_" then match P.underlying f.type,zhi P (o+1) r with
   |some (.int _),some l=>some (0::l)
   |some .string,some l=>some (1::l)
   |some .bool,some l=>some (2::l)
   |_,_=>none
  else none
def zqZ(P:Program)(t:TypeId):Option (List Nat):=
 match P.underlying t with
 |some (.struct fs)=>if P.stoodInHeld t=false/\P.eqGuardType P.depth t=false then zhi P 0 fs.toList else none
 |_=>none
def zd2(P:Program)(t:TypeId):Option Bool:=
 match P.underlying t with
 |some .string=>some true
 |some (.int _)=>some false
 |_=>none

def zhj(P:Program)(t:TypeId):Bool:=
 match P.underlying t with
 |some .bool=>true
 |_=>false
def zfM:BinOp->Bool
 | .eql| .neq=>true
 |_=>false
def zc6:BinOp->Bool
 | .neq=>true
 |_=>false
def zed(P:Program)(t:TypeId):Bool:=
 match P.underlying t with
 |some (.interface _)=>true
 |_=>false
def zgB:Operand->Bool
 | .const .nilIface=>true
 |_=>false
def zkZ(P:Program)(t:TypeId):Bool:=
 match P.underlying t with
 |some (.slice _)=>true
 |_=>false
def zgC:Operand->Bool
 | .const (.slice none 0 0)=>true
 |_=>false
theorem zgD{P:Program}{t:TypeId}(h:zhj P t=true):P.underlying t=some .bool:=by
 unfold zhj at h
 split at h
 ·assumption
 ·cases h

def trOp(P:Program)(o:Oper):Option (AOp × List AArg):=
 let arg:=zbt P
 let with1 (op:AOp) (t:TypeId) (x:Operand):Option (AOp × List AArg):=match arg t x with
  |some a=>some (op,[a])
  |none=>none
 match o.op with
 | .move x=>with1 .mv o.type x
 | .assign x=>match x,P.underlying o.type with
  | .const (.slice none 0 0),some (.slice e)=>if zmW P e o.pos=true then some (.mv,[.c (.nilv (shOf P e))]) else if 0<(shOf P e).size then some (.nilsl (shOf P e),[]) else none
  |_,_=>with1 .mv o.type x
 | .pick c a b=>match arg o.type c,arg o.type a,arg o.type b with
  |some c,some a,some b=>some (.pick,[c,a,b])
  |_,_,_=>none
 | .unOp .not _ x=>with1 .not o.type x
 | .unOp .neg t x=>match P.underlying t with
  |some (.int _)=>with1 .neg t x
  |_=>none
 | .binOp op t x y ty=>if zsf op (P.underlying t) then match arg t x,arg ty y with
   |some x,some y=>some (.bin op,[x,y])
   |_,_=>none
  else if zhj P t=true then match arg t x,arg ty y with
   |some x,some y=>some (.binb op,[x,y])
   |_,_=>none
  else if zed P t=true then if zfM op=true/\zgB y=true then with1 (.isnil (zc6 op)) t x else none
  else if zkZ P t=true then if zfM op=true/\zgC y=true then with1 (.slnil (zc6 op)) t x else none
  else if zfM op=true then match zqZ P t,arg t x,arg t y with
   |some ds,some x,some y=>some (.eqs (zc6 op) ds,[x,y])
   |_,_,_=>none
  else none
 | .alloc t=>match zaU P t with
  |some z=>some (.alloc (shOf P t) z,[])
  |none=>none
 | .box t x=>with1 (.box (shOf P t)) t x
 | .build t parts=>match zaU P t,P.underlying t with
  |some z,some (.struct fs)=>if fs.toList.all (fun f=>okT P f.type)=true then match z.comps,zdY P (parts.toList.map (·.2)) (parts.toList.map fun x=>((fs[x.1]?).map (·.type)).getD 0) with
   |some l,some as=>some (.build l (parts.toList.map (·.1)),as)
   |_,_=>none
   else none
  |some z,some (.array _ e)=>if okT P e=true then match z.comps,zdY P (parts.toList.map (·.2)) (parts.toList.map fun _=>e) with
   |some l,some as=>some (.build l (parts.toList.map (·.1)),as)
   |_,_=>none
   else none
  |_,_=>none
 | .buildSlice t len parts=>match P.underlying t with
  |some (.slice e)=>if parts.toList.map (·.1)=List.range len/\len*P.cellsOf e<=65536/\okT P e=true/\zaZ P e=true then match zdY P (parts.toList.map (·.2)) (parts.toList.map fun _=>e) with
   |some as=>if zmW P e o.pos=true then some (.bslov (shOf P e),as) else some (.bslice (shOf P e),as)
   |none=>none
   else none
  |_=>none
 | .load t a=>if okT P t=true then with1 (.load (shOf P t)) t a else none
 | .store t a x=>if o.dst.isSome=true\/okS P t=false then none else match arg t a,arg t x with
  |some a,some x=>some (.store (shOf P t),[a,x])
  |_,_=>none
 | .convert src dst x=>match P.underlying src,P.underlying dst with
  |some (.int _),some (.int k)=>with1 (.conv k) src x
  |_,_=>none
 | .makeInterface t x=>match P.underlying t with
  |some (.interface _)|none=>none
  |_=>with1 (.mkiface t) t x
 | .makeFunc fn first captured=>match zdY P (first.toList++captured.toList) [] with
  |some as=>some (.mkfunc fn first.size,as)
  |none=>none
 | .makeMap t none=>match P.underlying t with
  |some (.map _ te)=>some (.mkmap (shOf P te),[])
  |_=>none
 | .makeSlice t l c=>match P.underlying t with
  |some (.slice e)=>if zbu P e=true/\okT P e=true/\zaZ P e=true then
    if zmW P e o.pos=true then match zaU P e,arg 0 l,arg 0 c with
     |some z,some l,some c=>some (.mkslicev (shOf P e) z,[l,c])
     |_,_,_=>none
    else match(zaU P e).bind pvOf,arg 0 l,arg 0 c with
     |some z,some l,some c=>some (.mkslice (shOf P e) z,[l,c])
     |_,_,_=>none
   else none
  |_=>none
 | .slice t x lo hi none=>match P.underlying t with
  |some (.slice e)=>if okT P e=false then none else match arg t x,lo.elim (some []) (fun l=>(arg 0 l).map fun a=>[a]),hi.elim (some []) (fun l=>(arg 0 l).map fun a=>[a]) with
   |some x,some l,some h=>some (.slice (shOf P e) lo.isSome hi.isSome,x::(l++h))
   |_,_,_=>none
  |some .string=>match arg t x,lo.elim (some []) (fun l=>(arg 0 l).map fun a=>[a]),hi.elim (some []) (fun l=>(arg 0 l).map fun a=>[a]) with
   |some x,some l,some h=>some (.sslice lo.isSome hi.isSome,x::(l++h))
   |_,_,_=>none
  |_=>none
 | .slice t x lo (some hi) (some mx)=>match P.underlying t with
  |some (.slice e)=>if okT P e=false then none else match arg t x,lo.elim (some []) (fun l=>(arg 0 l).map fun a=>[a]),arg 0 hi,arg 0 mx with
   |some x,some l,some h,some m=>some (.slice3 (shOf P e) lo.isSome,x::(l++[h,m]))
   |_,_,_,_=>none
  |_=>none
 | .nilCheck x=>with1 .nilcheck 0 x
 | .fieldAddr t x i=>match P.underlying t with
  |some (.struct fs)=>match fs[i]? with
   |some f=>if okT P f.type=false then none else with1 (.faddr f.offset) t x
   |none=>none
  |_=>none
 | .field t x i=>match P.underlying t with
  |some (.struct fs)=>match fs[i]? with
   |some f=>if okT P f.type=false then none else with1 (.field f.offset (shOf P f.type)) t x
   |none=>none
  |_=>none
 | .indexAddr t x i=>match P.underlying t with
  |some (.slice e)=>if okT P e=false then none else match arg t x,arg 0 i with
   |some x,some i=>some (.iaddr (shOf P e),[x,i])
   |_,_=>none
  |some (.array n e)=>if okT P e=false then none else match arg t x,arg 0 i with
   |some x,some i=>some (.iaddrA (shOf P e) n,[x,i])
   |_,_=>none
  |_=>none
 | .index t x i=>match P.underlying t with
  |some .string=>match arg t x,arg 0 i with
   |some x,some i=>some (.sindex,[x,i])
   |_,_=>none
  |_=>none
 | .lookup t m k ok=>match P.underlying t with
  |some (.map tk te)=>match zd2 P tk,arg t m,arg tk k,zaU P te with
   |some s,some m,some k,some z=>some (.lookup s (shOf P te) z ok,[m,k])
   |_,_,_,_=>none
  |_=>none
 | .mapUpdate t m k v=>if o.dst.isSome=true then none else match P.underlying t with
  |some (.map tk te)=>match zd2 P tk,arg t m,arg tk k,arg te v with
   |some s,some m,some k,some v=>some (.mapset s (shOf P te),[m,k,v])
   |_,_,_,_=>none
  |_=>none
 | .insert t m k v=>if o.dst.isSome=true then none else match P.underlying t with
  |some (.map tk te)=>match zd2 P tk,arg t m,arg tk k,arg te v with
   |some s,some m,some k,some v=>some (.mapset s (shOf P te),[m,k,v])
   |_,_,_,_=>none
  |_=>none
 | .typeAssert x _ t ok=>match P.underlying t with
  |some (.interface _)=>none
  |none=>none
  |_=>match zaU P t with
   |some z=>with1 (.assert t (shOf P t) z ok) 0 x
   |none=>none
 | .extract x i=>with1 (.extract i) 0 x
 | .call c=>match c.callee with
  | .value f=>match arg 0 f,zdY P c.args.toList c.argTypes.toList with
   |some f,some as=>some (.call,f::as)
   |_,_=>none
  | .builtin .len=>match c.args.toList,c.argTypes.toList with
   |[x],[t]=>match P.underlying t with
    |some (.slice _)=>with1 .len t x
    |some .string=>with1 .slen t x
    |some (.map _ _)=>with1 .mlen t x
    |_=>none
   |_,_=>none
  | .builtin .append=>match c.args.toList,c.argTypes.toList with
   |[x,y],[t,u]=>match P.underlying t,P.underlying u with
    |some (.slice e),some (.slice _)=>if t=u/\zbu P e=true/\okT P e=true/\zaZ P e=true then match arg t x,arg u y with
     |some x,some y=>if zmW P e o.pos=true then some (.appendv (shOf P e),[x,y]) else some (.append (shOf P e),[x,y])
     |_,_=>none
     else none
    |_,_=>none
   |_,_=>none
  | .builtin .copy=>match c.args.toList,c.argTypes.toList with
   |[x,y],[t,u]=>match P.underlying t with
    |some (.slice e)=>if t=u/\okT P e=true then match arg t x,arg u y with
     |some x,some y=>some (.copy (shOf P e),[x,y])
     |_,_=>none
     else none
    |_=>none
   |_,_=>none
  | .builtin .clear=>match c.args.toList,c.argTypes.toList with
   |[x],[t]=>match P.underlying t with
    |some (.slice e)=>if okT P e=true/\zaZ P e=true then match(zaU P e).bind pvOf,arg t x with
     |some z,some x=>some (.clear (shOf P e) z,[x])
     |_,_=>none
     else none
    |_=>none
   |_,_=>none
  | .builtin .min=>match c.args.toList,c.argTypes.toList with
   |[x,y],[t,u]=>match arg t x,arg u y with
    |some x,some y=>some (.min,[x,y])
    |_,_=>none
   |_,_=>none
  | .builtin .max=>match c.args.toList,c.argTypes.toList with
   |[x,y],[t,u]=>match arg t x,arg u y with
    |some x,some y=>some (.max,[x,y])
    |_,_=>none
   |_,_=>none
  |_=>none
 | .panic x=>with1 .panic 0 x
 |_=>none

def ins(x:Nat):List Nat->List Nat
 |[]=>[x]
 |y::r=>if x<y then x::y::r else if x=y then y::r else y::ins x r
def union(a b:List Nat):List Nat:=a.foldl (fun l x=>ins x l) b
def zbE:List AArg->List Nat
 |[]=>[]
 | .t s::r=>s::zbE r
 |_::r=>zbE r

def zq0(nt:Nat):Option Nat->Bool
 |some d=>decide (d<nt)
 |none=>true
theorem zpe{nt d:Nat}{x:Option Nat}(h:zq0 nt x=true)(e:x=some d):d<nt:=by
 subst e
 simpa[zq0] using h
def zee(P:Program)(nt:Nat)(ops:Array Oper)(o:Oper):Option AOper:=
 if zq0 nt o.dst=true then
  match trOp P o with
  |none=>none
  |some (op,as)=>match o.guard with
   |none=>some { dst:=o.dst,op,args:=as }
   |some (j,want)=>match(ops[j]?).bind (·.dst) with
    |some s=>some { dst:=o.dst,op,args:=as,guard:=some (s,want) }
    |none=>none
 else none
def zdT(P:Program)(nt:Nat)(ops:Array Oper):List Oper->Option (List AOper)
 |[]=>some []
 |o::r=>match zee P nt ops o with
  |none=>none
  |some a=>match zdT P nt ops r with
   |some l=>some (a::l)
   |none=>none

def zmX(l:List AOper)(d:Option Nat):Bool:=
 match d with
 |some d=>l.any fun x=>match x.op with
  | .call=>(zbE x.args).contains d
  |_=>false
 |none=>false
def keepNames:List String:=["slices.Insert[[]hornbeam/api.Proc,hornbeam/api.Proc]", "slices.Insert[[]hornbeam/api.Stored,hornbeam/api.Stored]", "slices.Delete[[]hornbeam/api.Proc,hornbeam/api.Proc]", "slices.Delete[[]hornbeam/api.Stored,hornbeam/api.Stored]"]
def zhk(P:Program)(o:AOper):Bool:=
 match o.args with
 | .c (.pv _ (.func (.func f)))::_=>match P.funcs[f]? with
  |some fn=>keepNames.contains fn.name
  |none=>false
 |_=>false
def AOper.toP(P:Program)(l:List AOper)(o:AOper):AOper:=
 match o.op with
 | .call=>if zhk P o=true then o else{ o with op:=.callp }
 | .bslice sh=>{ o with op:=.bslicep sh }
 | .append sh=>if zmX l o.dst=true then{ o with op:=.appendp sh } else o
 |_=>o
def AOper.base(o:AOper):AOper:=
 match o.op,o.args with
 | .storen sh,p::v::_=>{ o with op:=.store sh,args:=[p,v] }
 | .storex sh,p::v::_=>{ o with op:=.store sh,args:=[p,v] }
 | .calln n,as=>{ o with op:=.call,args:=as.drop n }
 | .callg,as=>{ o with op:=.call,args:=as }
 | .bslicen sh n,as=>{ o with op:=.bslice sh,args:=as.drop n }
 | .appendn sh n,as=>{ o with op:=.append sh,args:=as.drop n }
 | .bslovn sh n,as=>{ o with op:=.bslov sh,args:=as.drop n }
 |_,_=>o
def AOper.sures(o:AOper):List AArg:=
 match o.op,o.args with
 | .storen _,_::_::qs=>qs
 | .calln n,as=>as.take n
 | .bslicen _ n,as=>as.take n
 | .appendn _ n,as=>as.take n
 | .bslovn _ n,as=>as.take n
 |_,_=>[]
def AOper.uses(o:AOper):List Nat:=
 match o.base.guard with
 |some (s,_)=>s::zbE o.base.args
 |none=>zbE o.base.args
def AOper.cls(o:AOper):Nat:=
 match o.op,o.args,o.guard,o.dst with
 | .callp,_,_,_=>0
 | .callh,_,_,_=>1
 | .alloc _ _,[],none,some _=>3
 | .nilsl _,[],none,some _=>3
 | .mkmap _,[],none,some _=>3
 |op,_,_,_=>bif op.isPure then 0 else bif op.isRead then 1 else 2
def AOper.isCallg(o:AOper):Bool:=
 match o.op with
 | .callg=>true
 |_=>false
def AOper.isLd(o:AOper):Bool:=
 match o.op,o.args with
 | .load _,[.t _]=>true
 |_,_=>false
def AOper.spared(a b:AOper):Bool:=
 match a.op,a.args with
 | .load _,[.t q]=>b.sures.any (fun x=>match x with| .t q'=>Nat.beq q' q|_=>false) || b.isCallg
 |_,_=>false
def AOper.late(o:AOper):Bool:= !o.sures.isEmpty || o.isCallg
def AOper.isCallh(o:AOper):Bool:=
 match o.op with
 | .callh=>true
 |_=>false
def AOper.apart(a b:AOper):Bool:=
 (match a.dst with|some d=> !b.uses.contains d|none=>true) && (match b.dst with|some d=> !a.uses.contains d|none=>true)
def AOper.indep(a b:AOper)(m:Bool):Bool:=
 a.apart b && (a.cls == 0 || b.cls == 0 || (a.cls == 1 && b.cls == 1 && !(m && a.isCallh)) || b.cls == 3 || a.spared b || (a.isCallg && b.isLd))
def zcP(acc:List (List Nat))(o:Oper):List Nat:=
 o.after.toList.foldr (fun e l=>if Region.binds .any e=true then ins e.on (union (acc.getD e.on []) l) else l) []
def clos(acc:List (List Nat)):List Oper->List (List Nat)
 |[]=>acc
 |o::r=>clos (acc++[zcP acc o]) r
def bit(m j:Nat):Bool:=Nat.beq ((m >>> j) % 2) 1
def zfN(acc:List Nat)(o:Oper):Nat:=
 o.after.toList.foldr (fun e m=>if Region.binds .any e=true then(acc.getD e.on 0 ||| (1 <<< e.on)) ||| m else m) 0
def zbj(acc:List Nat):List Oper->List Nat
 |[]=>acc
 |o::r=>zbj (acc++[zfN acc o]) r
def zef(seen:Nat):List AOper->Bool
 |[]=>true
 |o::r=>match o.dst with
  |some d=> !bit seen d && zef (seen ||| (1 <<< d)) r
  |none=>zef seen r
def zpf(p:Nat->AOper->Bool)(ci i:Nat):Nat->List AOper->Bool
 |_,[]=>true
 |j,a::r=>if Nat.beq j i=true then true else(bit ci j || p j a) && zpf p ci i (j+1) r
def zc7(p:Nat->AOper->Nat->AOper->Bool)(l:List AOper):Nat->List Nat->List AOper->Bool
 |_,_,[]=>true
 |_,[],_::_=>false
 |i,ci::cs,b::r=>zpf (fun j a=>p j a i b) ci i 0 l && zc7 p l (i+1) cs r
def zbX:Nat->List Oper->Bool
 |_,[]=>true
 |i,o::r=>o.after.toList.all (fun e=> !Region.binds .any e || decide (e.on<i)) && zbX (i+1) r
def AOper.risky(o:AOper):Bool:=
 match o.op with
 | .call=>true
 | .calln _=>true
 | .panic=>true
 |_=>false
def zfO(l:List AOper)(j i:Nat):Bool:=(List.range i).any fun k=>decide (j<k) && (match l[k]? with|some o=>o.cls == 3|none=>false)
def zmY(l:List AOper):Bool:=
 !(l.any AOper.isCallg) || l.all fun a=> !a.isLd || l.all fun b=>b.cls != 3 || (match b.dst with|some d=> !a.uses.contains d|none=>true)
def zhl(l:List AOper):Bool:=zmY l &&
 l.all fun a=>a.cls != 0 || l.all fun b=>b.cls != 3 || (match b.dst with|some d=> !a.uses.contains d|none=>true)
def ze7(l:List AOper):Bool:=
 !(l.any AOper.late) || (List.range l.length).all fun i=>match l[i]? with
  |some a=>(l.drop i).all fun y=>match y.dst with|some d=> !a.uses.contains d|none=>true
  |none=>true
def zcQ(ops:Array Oper)(l:List AOper):Bool:=
 zc7 (fun _ a _ b=> !a.risky && !b.risky) l 0 (zbj [] ops.toList) l
def za5(ops:Array Oper)(l:List AOper):Bool:=
 zc7 (fun j a i b=>a.indep b (zfO l j i)) l 0 (zbj [] ops.toList) l && zbX 0 ops.toList && zef 0 l && (zhl l && ze7 l)
def zeE(ops:Array Oper)(l:List AOper):Bool:=
 let c:=clos [] ops.toList
 let n:=l.length
 zbX 0 ops.toList && zef 0 l && (zhl l && ze7 l) && decide (3<=n) && zc7 (fun j a i b=>a.indep b (zfO l j i) || (i == n - 1 && j == n - 2)) l 0 (zbj [] ops.toList) l &&
 (List.range (n - 3)).all (fun j=>(c.getD (n - 1) []).contains j) && (List.range (n - 2)).all (fun j=>(c.getD (n - 2) []).contains j) &&
 (match l[n - 3]?,l[n - 2]?,l[n - 1]? with
  |some p,some s,some v=>p.cls == 0 && (match p.dst,p.guard,s.op,s.args,s.dst,s.guard,v.op,v.args,v.dst,v.guard with
   |some q,none,.store _,[.t q',x],none,none,.storex _,[_,_,.t q2,x2],none,none=>Nat.beq q q' && Nat.beq q q2 && (match x,x2 with| .t x,.t x2=>Nat.beq x x2 && !(Nat.beq x q)|_,_=>false)
   |_,_,_,_,_,_,_,_,_,_=>false)
  |_,_,_=>false)
def zgE(l:List AOper):List AOper:=
 match l[l.length - 2]?,l[l.length - 1]? with
 |some s,some v=>match s.args,v.op,v.args with
  |[q,x],.store sh,[p,y]=>l.set (l.length - 1) { v with op:=.storex sh,args:=[p,y,q,x] }
  |_,_,_=>l
 |_,_=>l
def mOne(sure beside:Bool)(qs:List AArg)(o:AOper):AOper:=
 match o.op,o.args with
 | .call,as=>if sure=true then(if qs.isEmpty=true then o else{ o with op:=.calln qs.length,args:=qs++as }) else if beside=true then{ o with op:=.callh } else o
 | .bslice sh,as=>if sure=true/\qs.isEmpty=false then{ o with op:=.bslicen sh qs.length,args:=qs++as } else if beside=true then{ o with op:=.bslicep sh } else o
 | .store sh,[p,v]=>if qs.isEmpty=true then o else{ o with op:=.storen sh,args:=p::v::qs }
 |_,_=>o
def mTwo(sure beside:Bool)(qs:List AArg)(o:AOper):AOper:=
 match o.op,o.args with
 | .append sh,as=>if qs.isEmpty=true then o else{ o with op:=.appendn sh qs.length,args:=qs++as }
 | .bslov sh,as=>if qs.isEmpty=true then(if beside=true then{ o with op:=.bslicep sh } else o) else{ o with op:=.bslovn sh qs.length,args:=qs++as }
 |_,_=>mOne sure beside qs o
def unord(c:List Nat)(i j:Nat):Bool:= !(Nat.beq i j) && !bit (c.getD i 0) j && !bit (c.getD j 0) i
def besides(c:List Nat)(l:List AOper)(i:Nat):Bool:=
 (List.range l.length).any fun j=>unord c i j && (match l[j]? with|some x=>x.cls == 1 || x.cls == 2|none=>false)
def zmZ(c:List Nat)(l:List AOper)(i:Nat):List AArg:=
 (List.range i).filterMap fun j=>if unord c i j=true then(match l[j]? with
    |some x=>(match x.op,x.args with| .load _,[q]=>some q|_,_=>none)
    |none=>none) else none
def zlz(sure:Bool)(c:List Nat)(l:List AOper):Nat->List AOper->List AOper
 |_,[]=>[]
 |i,o::r=>mOne sure (besides c l i) (zmZ c l i) o::zlz sure c l (i+1) r
def zlA(sure:Bool)(c:List Nat)(l:List AOper):Nat->List AOper->List AOper
 |_,[]=>[]
 |i,o::r=>mTwo sure (besides c l i) (zmZ c l i) o::zlA sure c l (i+1) r
def toN(sure:Bool)(ops:Array Oper)(l:List AOper):List AOper:=zlA sure (zbj [] ops.toList) l 0 l
def toM(sure:Bool)(ops:Array Oper)(l:List AOper):List AOper:=zlz sure (zbj [] ops.toList) l 0 l
def gOne(b:Bool)(o:AOper):AOper:=
 match o.op with
 | .call=>if b=true then{ o with op:=.callg } else o
 |_=>o
def zm0(c:List Nat)(l:List AOper)(i:Nat):Bool:=
 (List.range l.length).any fun j=>unord c i j && (match l[j]? with|some x=>x.isLd|none=>false)
def zlB(c:List Nat)(l:List AOper)(i:Nat):Bool:=(List.range l.length).any fun j=>unord c i j
def zlC(c:List Nat)(l:List AOper):Nat->List AOper->List AOper
 |_,[]=>[]
 |i,o::r=>gOne (zm0 c l i || (zmX l o.dst && zlB c l i)) o::zlC c l (i+1) r
def toG(ops:Array Oper)(l:List AOper):List AOper:=zlC (zbj [] ops.toList) l 0 l
def zia(l:List AOper)(args:List AArg)(acc:List Nat):List Nat:=
 (zbE args).foldl (fun acc t=>match l.find? (fun x=>x.dst == some t) with
   |some x=>match x.op,x.args with
    | .load _,[.t s]=>if l.any (fun y=>y.dst == some s) then acc else ins s acc
    | .mv,[.t s]=>if l.any (fun y=>y.dst == some s) then acc else ins s acc
    |_,_=>acc
   |none=>acc) acc
def settles(l:List AOper):List Nat:=
 l.foldl (fun acc o=>match o.op with
  | .callp=>zia l o.args acc
  | .bslicep _=>zia l o.args acc
  |_=>acc) []

def zjM:List AOper->List Nat->List Nat
 |[],out=>out
 |o::r,out=>
  let l:=zjM r out
  let l:=match o.dst with|some d=>l.filter (· != d)|none=>l
  let l:=union (zbE o.args) l
  match o.guard with|some (s,_)=>ins s l|none=>l

def zco:ACode->List Nat->List (Nat × List Nat)->List Nat->List Nat
 | .skip,out,_,_=>out
 | .settle l,out,_,_=>union l out
 | .region _ ops _,out,_,_=>zjM ops out
 | .doom l _,out,_,_=>zjM (l.map Prod.fst) out
 | .seq a b,out,env,ret=>zco a (zco b out env ret) env ret
 | .cond c x y,out,env,ret=>union (zbE [c]) (union (zco x out env ret) (zco y out env ret))
 | .block id c,out,env,ret=>zco c out ((id,out)::env) ret
 | .loop _ c,_,env,ret=>let l1:=zco c [] env ret;let l2:=zco c l1 env ret;zco c l2 env ret
 | .exit id,_,env,_=>(env.lookup id).getD []
 | .ret,_,_,ret=>ret

def annot:ACode->List Nat->List (Nat × List Nat)->List Nat->ACode
 | .skip,_,_,_=>.skip
 | .settle l,_,_,_=>.settle l
 | .region pan ops _,out,_,_=>.region pan ops out
 | .doom l _,out,_,_=>.doom l out
 | .seq a b,out,env,ret=>.seq (annot a (zco b out env ret) env ret) (annot b out env ret)
 | .cond c x y,out,env,ret=>.cond c (annot x out env ret) (annot y out env ret)
 | .block id c,out,env,ret=>.block id (annot c out ((id,out)::env) ret)
 | .loop _ c,out,env,ret=>let l:=zco (.loop [] c) out env ret;.loop l (annot c l env ret)
 | .exit id,_,_,_=>.exit id
 | .ret,_,_,_=>.ret

def nopO:AOper:=⟨none,.mv,[.c (.pv none (.bool true))],none⟩
def zfv(c:List Nat)(i:Nat):Nat->List AOper->List AOper
 |_,[]=>[]
 |j,o::r=>(if bit (c.getD j 0) i=true then nopO else o)::zfv c i (j+1) r
def AOper.isCallp(o:AOper):Bool:=
 match o.op,o.guard with
 | .callp,none=>true
 |_,_=>false
def ze8(c:List Nat):Nat->List AOper->List (AOper × Option (List AOper))
 |_,[]=>[]
 |i,o::r=>(o,if o.isCallp=true then some (zfv c i (i+1) r) else none)::ze8 c (i+1) r
def zcb(c:List Nat)(l:List AOper)(i:Nat):List AOper:=l.take i++nopO::zfv c i (i+1) (l.drop (i+1))
def AOper.quiet(o:AOper):Bool:=(o.cls == 0 || o.cls == 1) && !o.isCallh
def zib(ops:Array Oper)(l:List AOper):Bool:=
 za5 ops l && l.all (fun o=> !o.risky) && (List.range l.length).all fun i=>match l[i]? with
  |some o=>if o.isCallp=true then za5 ops (zcb (zbj [] ops.toList) l i) && (zcb (zbj [] ops.toList) l i).all AOper.quiet else true
  |none=>true

def ownB(l:List AOper)(o:AOper):AOper:=
 match o.op,o.dst with
 | .bslice sh,some d=>if l.any (fun x=>match x.op,x.args with| .mv,[.t s]=>Nat.beq s d|_,_=>false)=true then{ o with op:=.bslo sh } else o
 |_,_=>o
def zpg(l:List AOper):Bool:=
 match l.getLast? with
 |some o=>o.risky
 |none=>false
def zqF(P:Program)(ops:Array Oper)(l:List AOper):Option ACode:=
 if za5 ops (l.map (AOper.toP P l))=true then some (.seq (.settle (settles (l.map (AOper.toP P l)))) (.region (zcQ ops (l.map (AOper.toP P l))) (l.map (AOper.toP P l)) []))
 else if za5 ops (toM true ops l)=true then some (.region (zcQ ops (toM true ops l)) (toM true ops l) [])
 else none
def doomNames:List String:=["hornbeam/body.build"]
def zrI(P:Program)(ops:Array Oper):Bool:=
 ops.any fun o=>match o.op with
  | .call c=>match c.callee with
   | .value (.func f)=>match P.funcs[f]? with
    |some fn=>doomNames.contains fn.name
    |none=>false
   |_=>false
  |_=>false
def zfP(P:Program)(hm:Bool)(nt:Nat)(ops:Array Oper)(draw:Bool):Option ACode:=
 match zdT P nt ops ops.toList with
 |none=>none
 |some l=>
  if draw=false then some (.region true (if hm=true then l.map (ownB l) else l) [])
  else if l.any (zhk P)=true then zqF P ops l
  else if hm=true/\zpg l=true/\(za5 ops l && zcQ ops l)=false/\za5 ops (toG ops l)=true/\zcQ ops (toG ops l)=true then some (.region (zcQ ops (toG ops l)) (toG ops l) [])
  else if za5 ops l=true then some (.region (zcQ ops l) l [])
  else if hm=true/\za5 ops (toM true ops l)=true then some (.region (zcQ ops (toM true ops l)) (toM true ops l) [])
  else if hm=true/\za5 ops (toG ops l)=true then some (.region (zcQ ops (toG ops l)) (toG ops l) [])
  else if hm=true/\za5 ops (toM false ops l)=true then some (.region (zcQ ops (toM false ops l)) (toM false ops l) [])
  else if hm=false/\zrI P ops=true/\zib ops (l.map (AOper.toP P l))=true then some (.seq (.settle (settles (l.map (AOper.toP P l)))) (.doom (ze8 (zbj [] ops.toList) 0 (l.map (AOper.toP P l))) []))
  else if za5 ops (l.map (AOper.toP P l))=true then some (.seq (.settle (settles (l.map (AOper.toP P l)))) (.region (zcQ ops (l.map (AOper.toP P l))) (l.map (AOper.toP P l)) []))
  else if za5 ops (toM false ops l)=true then some (.region (zcQ ops (toM false ops l)) (toM false ops l) [])
  else if hm=true/\zeE ops (zgE (toM true ops l))=true then some (.region false (zgE (toM true ops l)) [])
  else if zeE ops (zgE (l.map (AOper.toP P l)))=true then some (.seq (.settle (settles (l.map (AOper.toP P l)))) (.region false (zgE (l.map (AOper.toP P l))) []))
  else none
def zsg(P:Program)(ops:Array Oper):Bool:=
 ops.any fun o=>match o.op with
  | .slice t _ _ (some _) (some _)=>match P.underlying t with
   |some (.slice e)=>match P.info? e with
    |some i=>(match i.desc with
     | .named n _=>n == "hornbeam/api.Proc" || n == "hornbeam/api.Stored"
     |_=>false)
    |none=>false
   |_=>false
  |_=>false
def zq1(l:List AOper):List Nat:=
 l.foldl (fun acc o=>match o.op,o.args with
  | .slice3 _ false,.t x::_=>(match l.find? (fun y=>y.dst == some x) with
   |some y=>(match y.op,y.args with
    | .mv,[.t s]=>ins s acc
    | .load _,[.t q]=>(match l.find? (fun z=>z.dst == some q) with
     |some z=>(match z.op,z.args with
      | .faddr _,[.t s]=>ins s acc
      |_,_=>acc)
     |none=>acc)
    |_,_=>acc)
   |none=>acc)
  |_,_=>acc) []
def zfQ(P:Program)(hm:Bool)(nt:Nat)(ops:Array Oper)(draw:Bool):Option ACode:=
 match zfP P hm nt ops draw with
 |some ac=>some ac
 |none=>if draw=false then none else match zdT P nt ops ops.toList with
  |none=>none
  |some l=>if za5 ops (toN true ops l)=true then some (.region (zcQ ops (toN true ops l)) (toN true ops l) [])
   else if za5 ops (toN false ops l)=true then some (.region (zcQ ops (toN false ops l)) (toN false ops l) [])
   else none
def zhm(P:Program)(hm:Bool)(nt:Nat)(ops:Array Oper)(draw:Bool):Option ACode:=
 match zfQ P hm nt ops draw with
 |some ac=>if hm=false/\zsg P ops=true then(match zdT P nt ops ops.toList with
   |some l=>some (.seq (.settle (zq1 l)) ac)
   |none=>some ac)
  else some ac
 |none=>none
def zb3(P:Program)(hm:Bool)(nt:Nat):Code->Option ACode
 | .skip=>some .skip
 | .label _=>some .skip
 | .scope c=>zb3 P hm nt c
 | .region _ ops draw=>zhm P hm nt ops draw
 | .seq a b=>match zb3 P hm nt a,zb3 P hm nt b with
  |some a,some b=>some (.seq a b)
  |_,_=>none
 | .cond c x y=>match zbt P 0 c,zb3 P hm nt x,zb3 P hm nt y with
  |some c,some a,some b=>some (.cond c a b)
  |_,_,_=>none
 | .block id c=>match zb3 P hm nt c with
  |some a=>some (.block id a)
  |none=>none
 | .loop c=>match zb3 P hm nt c with
  |some a=>some (.loop [] a)
  |none=>none
 | .exit id=>some (.exit id)
 | .ret=>some .ret
 |_=>none

def zaw(P:Program):List ResultVar->List RSlot
 |[]=>[]
 | .tmp s::r=>(s,none)::zaw P r
 | .cell s t::r=>(s,some (shOf P t))::zaw P r

def zjN(P:Program):List ResultVar->Bool
 |[]=>true
 | .tmp _::r=>zjN P r
 | .cell _ t::r=>okT P t && zjN P r
def zm1(rs:List RSlot):List Nat:=rs.foldl (fun l x=>ins x.1 l) []
def zfw:Code->List Code
 | .seq a b=>zfw a++zfw b
 |c=>[c]
def zeF:Code->Option (Array Oper × Nat)
 | .region _ ops false=>match ops.toList.getLast? with
  |some o=>match o.op,o.guard,o.dst with
   | .defer c,none,none=>match c.callee,c.args.toList with
    | .value (.tmp s),[]=>some (ops,s)
    |_,_=>none
   |_,_,_=>none
  |none=>none
 |_=>none
inductive Piece where
 |code (c:Code)
 |range (f:Operand) (ps:Array Tmp) (assign body:Code)
 |dfr (ops:Array Oper) (s:Nat)
def zhn(c:Code):Piece:=
 match c with
 | .rangeFunc f ps a b=>.range f ps a b
 | .block id (.rangeFunc f ps a b)=>.range f ps a b
 |c=>match zeF c with
  |some (ops,s)=>.dfr ops s
  |none=>.code c
def zeg(P:Program)(hm:Bool)(nt:Nat)(self:FuncId):List Code->Option (ACode × List (ATop × ACode))
 |[]=>some (.skip,[])
 |c::r=>match zeg P hm nt self r with
  |none=>none
  |some (x,more)=>match zhn c with
   | .code c=>match zb3 P hm nt c with
    |some a=>some (.seq a x,more)
    |none=>none
   | .range f ps _ _=>match zbt P 0 f with
    |some fa=>some (.skip,(.range self fa ps.toList [],x)::more)
    |none=>none
   | .dfr ops s=>match zdT P nt ops ops.toList.dropLast with
    |some l=>some (.region true l [],(.dfr s,x)::more)
    |none=>none
def zaT:Code->List (Array Tmp × Code × Code)
 | .seq a b=>zaT a++zaT b
 | .cond _ a b=>zaT a++zaT b
 | .block _ c=>zaT c
 | .loop c=>zaT c
 | .scope c=>zaT c
 | .rangeFunc _ ps a c=>(ps,a,c)::(zaT a++zaT c)
 |_=>[]
def zqG:List Nat->Bool
 |[]=>true
 |x::r=> !r.contains x && zqG r
def zho(P:Program)(hm:Bool)(nt:Nat):List (Array Tmp × Code × Code)->Option (List ARound)
 |[]=>some []
 |(ps,a,c)::r=>match zb3 P hm nt a,zb3 P hm nt c,zho P hm nt r with
  |some x,some y,some l=>
   let y':=annot y [] [] []
   let o:=zco y [] [] []
   let x':=annot x o [] []
   if ps.toList.all (fun p=>decide (p<nt))=true/\zqG ps.toList=true/\r.all (fun x=>decide (x.1.toList≠ps.toList))=true then some ({ ps:=ps.toList,assign:=x',body:=y' }::l) else none
  |_,_,_=>none
def zk0(ps:List Nat):List ARound->List Nat
 |[]=>[]
 |r::l=>if r.ps=ps then(zco (.seq r.assign r.body) [] [] []).filter (fun x=> !ps.contains x) else zk0 ps l
def zc8(ret:List Nat)(rounds:List ARound):ACode->List (ATop × ACode)->ACode × List (ATop × ACode) × List Nat
 |c,[]=>(annot c ret [] ret,[],zco c ret [] ret)
 |c,(op,c2)::r=>match zc8 ret rounds c2 r with
  |(c2',r',live)=>
   let (op',l):=match op with
    | .range self f ps _=>let e:=zk0 ps rounds;(ATop.range self f ps e,union e (union (zbE [f]) live))
    | .dfr s=>(ATop.dfr s,ins s live)
   (annot c l [] ret,(op',c2')::r',zco c l [] ret)
def ze9:List Code->Option (Nat × Array Oper × List Code)
 | .region _ ops false::r=>match ops.toList with
  |o::_=>match o.op,o.dst,o.guard with
   | .call c,some t,none=>match c.callee with
    | .builtin .recover=>some (t,ops,r)
    |_=>none
   |_,_,_=>none
  |[]=>none
 |_=>none
def trFn(P:Program)(hm:Bool)(self:FuncId)(fn:Func):Option AFn:=
 match fn.body with
 |some c=>
  if zjN P fn.results.toList=true/\fn.params.size+fn.nfree<=fn.ntmps/\fn.name≠ "runtime.NumGoroutine" then
   let ret:=zm1 (zaw P fn.results.toList)
   match ze9 (zfw c) with
   |some (t,ops,r)=>if t<fn.ntmps/\fn.results.toList.isEmpty=true then match zdT P fn.ntmps ops ops.toList.tail,zeg P hm fn.ntmps self r with
     |some l,some (a,[])=>some { nparams:=fn.params.size+fn.nfree,results:=[],code:=annot (.seq (.region true l []) a) [] [] [],heapMode:=true,rcv:=some t }
     |_,_=>none
    else none
   |none=>match zb3 P hm fn.ntmps c with
    |some a=>some { nparams:=fn.params.size+fn.nfree,results:=zaw P fn.results.toList,code:=annot a ret [] ret,heapMode:=hm }
    |none=>match zeg P hm fn.ntmps self (zfw c),zho P hm fn.ntmps (zaT c) with
     |some (a,more),some rounds=>match zc8 ret rounds a more with
      |(a',more',_)=>some { nparams:=fn.params.size+fn.nfree,results:=zaw P fn.results.toList,code:=a',heapMode:=hm,more:=more',rounds:=rounds }
     |_,_=>none
  else none
 |none=>none

end Go.Am

/- How values and heaps of the abstract machine stand for the model's: the relations, and what carries them from world to world. -/
namespace Go.Am

structure Xc(P:Program) where
 h:Nat->Prop
instance xcFun{P:Program}:CoeFun (Xc P) (fun _=>Nat->Prop):=⟨Xc.h⟩
def zm2(P:Program)(f:Nat)(ps:Array Tmp)(a c:Code)(nt:Nat):Prop:=∃fnc b,P.funcs[f]? =some fnc/\fnc.body=some b/\fnc.ntmps=nt/\(ps,a,c)∈zaT b
variable{P:Program}

def vshp:Value->Sh
 | .agg cs=>some cs.size
 |_=>none
def Flat(v:Value):Prop:=∀c∈v.cells,c.oneCell'=true
def cellsOf(vs:List Value):List Value:=vs.flatMap fun v=>v.cells.toList

theorem zai(v:Value):v.cells.size=(vshp v).size:=by cases v <;> rfl

inductive PR(w:World)(I:Nat->Prop):PV->Value->Prop
 |bool (b:Bool):PR w I (.bool b) (.bool b)
 |int (k:IntKind) (n:Int):PR w I (.int k n) (.int k n)
 |str (s:List UInt8):PR w I (.str s) (.string ⟨s.toArray⟩)
 |agg (l:List (Sh × PV)) (vs:List Value) (hl:l.length=vs.length)
   (h:∀(i:Nat) (x:Sh × PV) (v:Value),l[i]? =some x->vs[i]? =some v->vshp v=x.1)
   (h':∀(i:Nat) (x:Sh × PV) (v:Value),l[i]? =some x->vs[i]? =some v->PR w I x.2 v):PR w I (.agg l) (.agg (cellsOf vs).toArray)
 |nilsl (sh:Sh) (a:Option Addr) (n:Nat):PR w I (.sl sh []) (.slice a 0 n)
 |sl (sh:Sh) (es:List PV) (b o n:Nat) (cs:Array Value) (t:TypeId) (fr:Nat × Nat) (vals:List Value) (hl:es.length=vals.length) (hI:I b)
   (hb:w.heap[b]? =some (.cells cs t fr)) (h:∀(i:Nat) (p:PV) (v:Value),es[i]? =some p->vals[i]? =some v->vshp v=sh)
   (h':∀(i:Nat) (p:PV) (v:Value),es[i]? =some p->vals[i]? =some v->PR w I p v)
   (hc:cellsOf vals=(cs.toList.drop o).take (es.length*sh.size)) (hn:es.length<=n):PR w I (.sl sh es) (.slice (some ⟨b,o,none⟩) es.length n)
 |func (fn:Fn):PR w I (.func fn) (.func fn #[] #[])
 |nilfunc:PR w I .nilfunc .nilFunc
 |nilptr:PR w I .nilptr (.pointer none)
 |nilmap:PR w I .nilmap (.map none)
 |iface (t:TypeId) (sh:Sh) (p:PV) (v:Value) (hs:vshp v=sh) (h:PR w I p v):PR w I (.iface t sh p) (.iface t v)
 |niliface:PR w I .niliface .nilIface

theorem PR.mono{w w':World}{I I':Nat->Prop}(hw:∀b cs t fr,I b->w.heap[b]? =some (.cells cs t fr)->I' b/\w'.heap[b]? =some (.cells cs t fr)){p:PV}{v:Value}(h:PR w I p v):PR w' I' p v:=by
 induction h with
 |bool b=>exact .bool b
 |int k n=>exact .int k n
 |str s=>exact .str s
 |agg l vs hl h _ ih=>exact .agg l vs hl h ih
 |nilsl sh a n=>exact .nilsl sh a n
 |sl sh es b o n cs t fr vals hl hI hb h _ hc hn ih=>
  obtain⟨hI',hb'⟩:=hw b cs t fr hI hb
  exact .sl sh es b o n cs t fr vals hl hI' hb' h ih hc hn
 |func fn=>exact .func fn
 |nilfunc=>exact .nilfunc
 |nilptr=>exact .nilptr
 |nilmap=>exact .nilmap
 |iface t sh p v hs _ ih=>exact .iface t sh p v hs ih
 |niliface=>exact .niliface

theorem zbk{vs:List Value}{c:Value}(h:c∈cellsOf vs):∃(i:Nat) (v:Value),vs[i]? =some v/\c∈v.cells:=by
 simp only[cellsOf,List.mem_flatMap] at h
 obtain⟨v,hv,hc⟩:=h
 obtain⟨i,hi⟩:=List.mem_iff_getElem?.1 hv
 exact⟨i,v,hi,by simpa using hc⟩

theorem zhp{v:Value}(h:v.oneCell'=true):Flat v:=by
 intro c hc
 cases v <;> simp_all[Value.cells,Value.oneCell']

theorem PR.flat{w:World}{I:Nat->Prop}{p:PV}{v:Value}(h:PR w I p v):Flat v:=by
 induction h with
 |agg l vs hl h h' ih=>
  intro c hc
  have hc':c∈cellsOf vs:=by simpa[Value.cells] using hc
  obtain⟨i,v,hi,hcv⟩:=zbk hc'
  have hlt:i<l.length:=by rw[hl];exact(List.getElem?_eq_some_iff.1 hi).1
  exact ih i l[i] v (List.getElem?_eq_getElem hlt) hi c hcv
 |_=>exact zhp rfl

def live(hp:Heap)(i:Nat):Bool:=
 match hp[i]? with
 |some (.box _ _)=>true
 |some (.map _ _)=>true
 |some (.arr _ _ false)=>true
 |some (.loop _ _ _ _)=>true
 |some (.arv _ _)=>true
 |_=>false
def zck:Option AObj->Option (Sh × Nat)
 |some (.arv sh es)=>some (sh,es.length)
 |some (.arr sh es true)=>some (sh,es.length)
 |_=>none

def Im(X:Xc P)(μ:Nat->Option Nat)(hp:Heap)(b:Nat):Prop:=¬X b/\∀i,live hp i=true->μ i≠some b

inductive AR(w:World)(X:Xc P)(μ:Nat->Option Nat)(hp:Heap):AV->Value->Prop
 |undef (v:Value) (h:∀b,v≠.bool b):AR w X μ hp .undef v
 |pv (sh:Sh) (p:PV) (v:Value) (hs:vshp v=sh) (h:PR w (Im X μ hp) p v):AR w X μ hp (.pv sh p) v
 |agg (l:List (Sh × AV)) (vs:List Value) (hl:l.length=vs.length)
   (h:∀(i:Nat) (x:Sh × AV) (v:Value),l[i]? =some x->vs[i]? =some v->vshp v=x.1/\Flat v)
   (h':∀(i:Nat) (x:Sh × AV) (v:Value),l[i]? =some x->vs[i]? =some v->AR w X μ hp x.2 v):AR w X μ hp (.agg l) (.agg (cellsOf vs).toArray)
 |tsl (sh:Sh) (es:List PV) (a:Option Addr) (h:PR w (Im X μ hp) (.sl sh es) (.slice a es.length es.length)):AR w X μ hp (.tsl sh es) (.slice a es.length es.length)
 |sl (sh:Sh) (r ver off len:Nat) (a:Option Addr) (cap:Nat) (es:List PV) (fz:Bool) (ho:hp[r]? =some (.arr sh es fz)) (hv:ver<=es.length) (hlc:len<=cap/\ver<=off+cap) (ha:cap≠0->a.isSome=true)
   (h:ver=es.length->off+len<=es.length/\((μ r=none/\cap=0)\/∃b cs t,μ r=some b/\w.heap[b]? =some (.cells cs t (0,0))/\(off+cap)*sh.size=cs.size/\(cap≠0->a=some ⟨b,off*sh.size,none⟩))):
   AR w X μ hp (.sl sh r ver off len) (.slice a len cap)
 |ptr (r off b:Nat) (sh:Sh) (v:AV) (ho:hp[r]? =some (.box sh v)) (hb:μ r=some b):AR w X μ hp (.ptr r off) (.pointer (some ⟨b,off,none⟩))
 |eptr (sh:Sh) (r ver i off:Nat) (a:Addr) (es:List PV) (fz:Bool) (ho:hp[r]? =some (.arr sh es fz)) (hv:ver<=es.length)
   (h:ver=es.length->i<es.length/\∃b,μ r=some b/\a=⟨b,i*sh.size+off,none⟩):AR w X μ hp (.eptr sh r ver i off) (.pointer (some a))
 |iptr (sh:Sh) (p:PV) (off b o:Nat) (cs:Array Value) (t:TypeId) (fr:Nat × Nat) (v:Value) (hI:Im X μ hp b) (hb:w.heap[b]? =some (.cells cs t fr))
   (hp':PR w (Im X μ hp) p v) (hs:vshp v=sh) (hc:v.cells.toList=(cs.toList.drop o).take sh.size):AR w X μ hp (.iptr sh p off) (.pointer (some ⟨b,o+off,none⟩))
 |map (r b:Nat) (sh:Sh) (es:List (PV × PV)) (ho:hp[r]? =some (.map sh es)) (hb:μ r=some b):AR w X μ hp (.map r) (.map (some b))
 |func (fn:Fn) (first captured:List AV) (fs cs:List Value) (hf:first.length=fs.length) (hc:captured.length=cs.length)
   (h:∀(i:Nat) (a:AV) (v:Value),first[i]? =some a->fs[i]? =some v->AR w X μ hp a v)
   (h':∀(i:Nat) (a:AV) (v:Value),captured[i]? =some a->cs[i]? =some v->AR w X μ hp a v):AR w X μ hp (.func fn first captured) (.func fn fs.toArray cs.toArray)
 |iface (t:TypeId) (a:AV) (v:Value) (h:AR w X μ hp a v):AR w X μ hp (.iface t a) (.iface t v)
 |tuple (l:List AV) (vs:List Value) (hl:l.length=vs.length) (h:∀(i:Nat) (a:AV) (v:Value),l[i]? =some a->vs[i]? =some v->AR w X μ hp a v):AR w X μ hp (.tuple l) (.tuple vs.toArray)
 |yield (r l:Nat) (f:Nat) (ps:List Nat) (env:List (Nat × AV)) (bz:Bool) (ho:hp[r]? =some (.loop f ps env bz)) (hb:μ r=some l):AR w X μ hp (.yield r) (.func (.yield l) #[] #[])
 |slv (sh:Sh) (r ver off len:Nat) (a:Option Addr) (cap n:Nat) (ho:zck hp[r]? =some (sh,n)) (hv:ver<=n) (hlc:len<=cap/\ver<=off+cap) (ha:cap≠0->a.isSome=true)
   (h:ver=n->off+len<=n/\∃b cs t,μ r=some b/\w.heap[b]? =some (.cells cs t (0,0))/\(off+cap)*sh.size=cs.size/\(cap≠0->a=some ⟨b,off*sh.size,none⟩)):
   AR w X μ hp (.slv sh r ver off len) (.slice a len cap)
 |epv (sh:Sh) (r ver i off:Nat) (a:Addr) (n:Nat) (ho:zck hp[r]? =some (sh,n)) (hv:ver<=n)
   (h:ver=n->i<n/\∃b,μ r=some b/\a=⟨b,i*sh.size+off,none⟩):AR w X μ hp (.epv sh r ver i off) (.pointer (some a))
 |nilv (sh:Sh):AR w X μ hp (.nilv sh) (.slice none 0 0)

theorem AR.flat{w:World}{X:Xc P}{μ:Nat->Option Nat}{hp:Heap}{a:AV}{v:Value}(h:AR w X μ hp a v)(hp:a.plain=true):Flat v:=by
 cases h with
 |undef=>simp[AV.plain] at hp
 |pv sh p v hs h=>exact h.flat
 |agg l vs hl h h'=>
  intro c hc
  have hc':c∈cellsOf vs:=by simpa[Value.cells] using hc
  obtain⟨i,v,hi,hcv⟩:=zbk hc'
  have hlt:i<l.length:=by rw[hl];exact(List.getElem?_eq_some_iff.1 hi).1
  exact(h i l[i] v (List.getElem?_eq_getElem hlt) hi).2 c hcv
 |tuple=>simp[AV.plain] at hp
 |_=>exact zhp rfl

structure HR(w:World)(X:Xc P)(μ:Nat->Option Nat)(hp:Heap):Prop where
 inj:∀i j b,i<hp.length->j<hp.length->μ i=some b->μ j=some b->i=j
 out:∀i b,i<hp.length->μ i=some b->¬X b/\b<w.heap.size
 xlt:∀b,X b->b<w.heap.size
 box:∀i sh v,hp[i]? =some (.box sh v)->∃b val t,μ i=some b/\w.heap[b]? =some (.cells val.cells t (0,0))/\vshp val=sh/\Flat val/\AR w X μ hp v val
 arr:∀i sh es fz,hp[i]? =some (.arr sh es fz)->0<sh.size/\((μ i=none/\es=[])\/∃b cs t vals,μ i=some b/\w.heap[b]? =some (.cells cs t (0,0))/\es.length=vals.length/\
  (∀(k:Nat) (p:PV) (v:Value),es[k]? =some p->vals[k]? =some v->vshp v=sh/\PR w (Im X μ hp) p v)/\cellsOf vals=cs.toList.take (es.length*sh.size))
 map:∀i sh es,hp[i]? =some (.map sh es)->∃b ents clock,μ i=some b/\w.heap[b]? =some (.map ents clock)/\es.length=ents.size/\
  ∀(k:Nat) (x:PV × PV) (e:MapEntry),es[k]? =some x->ents[k]? =some e->PR w (Im X μ hp) x.1 e.key/\PR w (Im X μ hp) x.2 e.val/\vshp e.val=sh
 loop:∀i f ps env bz,hp[i]? =some (.loop f ps env bz)->∃l rec,μ i=some l/\w.heap[l]? =some (.loop rec)/\(rec.state=if bz=true then .busy else .ready)/\rec.pending=none/\rec.params=ps.toArray/\zm2 P f rec.params rec.assign rec.body rec.tmps.size/\
  ∀x∈env,x.1<rec.tmps.size/\AR w X μ hp x.2 (rec.tmps.getD x.1 undef)
 arv:∀i sh es,hp[i]? =some (.arv sh es)->0<sh.size/\∃b cs t vals,μ i=some b/\w.heap[b]? =some (.cells cs t (0,0))/\es.length=vals.length/\
  (∀(k:Nat) (a:AV) (v:Value),es[k]? =some a->vals[k]? =some v->(vshp v=sh/\Flat v)/\AR w X μ hp a v)/\cellsOf vals=cs.toList.take (es.length*sh.size)

structure Ext(b0:Nat)(X:Xc P)(μ:Nat->Option Nat)(hp:Heap)(w:World)(μ':Nat->Option Nat)(hp':Heap)(w':World):Prop where
 os:w'.os=w.os
 tape:w'.tape=w.tape
 output:w'.output=w.output
 size:w.heap.size<=w'.heap.size
 blk:∀b,b<w.heap.size->(∀i,live hp i=true->μ i≠some b)->w'.heap[b]? =w.heap[b]?
 shape:∀(b:Nat) (cs:Array Value) (t:TypeId) (fr:Nat × Nat),w.heap[b]? =some (Obj.cells cs t fr)->∃(cs':Array Value),w'.heap[b]? =some (Obj.cells cs' t fr)/\cs'.size=cs.size
 len:hp.length<=hp'.length
 box:∀i sh v,hp[i]? =some (.box sh v)->∃v',hp'[i]? =some (.box sh v')/\μ' i=μ i/\(i<b0/\b0=0->∀q∈v'.refsIn,q∈v.refsIn)
 arr:∀i sh es fz,hp[i]? =some (.arr sh es fz)->∃es' fz',hp'[i]? =some (.arr sh es' fz')/\es.length<=es'.length/\(fz=true->fz'=true/\es'=es)/\(es'.length=es.length->μ' i=μ i)
 map:∀i sh es,hp[i]? =some (.map sh es)->∃es',hp'[i]? =some (.map sh es')/\μ' i=μ i
 loop:∀i f ps env bz,hp[i]? =some (.loop f ps env bz)->∃bz',hp'[i]? =some (.loop f ps env bz')/\μ' i=μ i
 arv:∀i sh es,hp[i]? =some (.arv sh es)->∃n,zck hp'[i]? =some (sh,n)/\es.length<=n/\(n=es.length->μ' i=μ i)/\(∀es',hp'[i]? =some (.arv sh es')->i<b0/\b0=0->∀q∈AV.refsIn.gol es',q∈AV.refsIn.gol es)
 new:∀i,hp.length<=i->i<hp'.length->∀b,μ' i=some b->w.heap.size<=b
 mov:∀i,i<hp.length->∀b,μ' i=some b->μ i=some b\/w.heap.size<=b

theorem zbv{hp:Heap}{i:Nat}(h:live hp i=true):i<hp.length:=by
 unfold live at h
 rcases Nat.lt_or_ge i hp.length with h'|h'
 ·exact h'
 ·simp[List.getElem?_eq_none h'] at h

theorem Ext.live{b0:Nat}{X:Xc P}{μ μ':Nat->Option Nat}{hp hp':Heap}{w w':World}(h:Ext b0 X μ hp w μ' hp' w'){i:Nat}(hi:i<hp.length)(hl:live hp' i=true):live hp i=true:=by
 unfold Am.live at*
 rw[List.getElem?_eq_getElem hi]
 cases ho:hp[i] with
 |box sh v=>rfl
 |map sh es=>rfl
 |loop f ps env bz=>rfl
 |arv sh es=>rfl
 |arr sh es fz=>
  obtain⟨es',fz',h1,_,h2,_⟩:=h.arr i sh es fz (by rw[List.getElem?_eq_getElem hi,ho])
  cases fz with
  |false=>rfl
  |true=>rw[h1,(h2 rfl).1] at hl;simp at hl

theorem Ext.im{b0:Nat}{X:Xc P}{μ μ':Nat->Option Nat}{hp hp':Heap}{w w':World}(h:Ext b0 X μ hp w μ' hp' w'){b:Nat}(hb:b<w.heap.size)(hI:Im X μ hp b):Im X μ' hp' b:=by
 refine⟨hI.1,fun i hl e=> ?_⟩
 have hlt:=zbv hl
 rcases Nat.lt_or_ge i hp.length with hi|hi
 ·rcases h.mov i hi b e with h1|h1
  ·exact hI.2 i (h.live hi hl) h1
  ·omega
 ·have:=h.new i hi hlt b e
  omega

theorem zaP{w:World}{b:Nat}{o:Obj}(h:w.heap[b]? =some o):b<w.heap.size:=(Array.getElem?_eq_some_iff.1 h).1

theorem Ext.pr{b0:Nat}{X:Xc P}{μ μ':Nat->Option Nat}{hp hp':Heap}{w w':World}(h:Ext b0 X μ hp w μ' hp' w'){p:PV}{v:Value}(hq:PR w (Im X μ hp) p v):PR w' (Im X μ' hp') p v:=
 hq.mono fun b cs t fr hI hb=>⟨h.im (zaP hb) hI,by rw[h.blk b (zaP hb) hI.2];exact hb⟩

theorem zbw{o:Option AObj}{sh:Sh}{n:Nat}(h:zck o=some (sh,n)):(∃es,o=some (.arv sh es)/\es.length=n)\/∃es,o=some (.arr sh es true)/\es.length=n:=by
 unfold zck at h
 split at h
 ·cases h;exact .inl ⟨_,rfl,rfl⟩
 ·cases h;exact .inr ⟨_,rfl,rfl⟩
 ·cases h
theorem Ext.avl{b0:Nat}{X:Xc P}{μ μ':Nat->Option Nat}{hp hp':Heap}{w w':World}(h:Ext b0 X μ hp w μ' hp' w'){r n:Nat}{sh:Sh}(ho:zck hp[r]? =some (sh,n)):∃n',zck hp'[r]? =some (sh,n')/\n<=n'/\(n'=n->μ' r=μ r):=by
 rcases zbw ho with⟨es,e,rfl⟩|⟨es,e,rfl⟩
 ·obtain⟨n',h1,h2,h3,_⟩:=h.arv r sh es e
  exact⟨n',h1,h2,h3⟩
 ·obtain⟨es',fz',h1,h2,h3,h4⟩:=h.arr r sh es true e
  obtain⟨rfl,rfl⟩:=h3 rfl
  exact⟨_,by rw[h1];rfl,Nat.le_refl _,fun _=>h4 rfl⟩

theorem Ext.ar{b0:Nat}{X:Xc P}{μ μ':Nat->Option Nat}{hp hp':Heap}{w w':World}(h:Ext b0 X μ hp w μ' hp' w'){a:AV}{v:Value}(ha:AR w X μ hp a v):AR w' X μ' hp' a v:=by
 induction ha with
 |undef v h=>exact .undef v h
 |pv sh p v hs hp=>exact .pv sh p v hs (h.pr hp)
 |agg l vs hl hs _ ih=>exact .agg l vs hl hs ih
 |tsl sh es a hp=>exact .tsl sh es a (h.pr hp)
 |sl sh r ver off len a cap es fz ho hv hlc ha hc=>
  obtain⟨es',fz',h1,h2,h3,h4⟩:=h.arr r sh es fz ho
  refine .sl sh r ver off len a cap es' fz' h1 (by omega) hlc ha fun e=> ?_
  have e1:es'.length=es.length:=by omega
  obtain⟨c1,c2⟩:=hc (by omega)
  refine⟨by omega,?_⟩
  rcases c2 with⟨c2,c3⟩|⟨b,cs,t,c2,c3,c4,c5⟩
  ·exact .inl ⟨by rw[h4 e1];exact c2,c3⟩
  ·have hm:μ' r=some b:=by rw[h4 e1];exact c2
   obtain⟨cs2,hc2,hsz⟩:=h.shape b cs t _ c3
   exact .inr ⟨b,cs2,t,hm,hc2,by rw[hsz];exact c4,c5⟩
 |ptr r off b sh v ho hb=>
  obtain⟨v',h1,h2,_⟩:=h.box r sh v ho
  exact .ptr r off b sh v' h1 (by rw[h2];exact hb)
 |eptr sh r ver i off a es fz ho hv hc=>
  obtain⟨es',fz',h1,h2,h3,h4⟩:=h.arr r sh es fz ho
  refine .eptr sh r ver i off a es' fz' h1 (by omega) fun e=> ?_
  have e1:es'.length=es.length:=by omega
  obtain⟨c1,b,c2,c3⟩:=hc (by omega)
  exact⟨by omega,b,by rw[h4 e1];exact c2,c3⟩
 |iptr sh p off b o cs t fr v hI hb hp hs hc=>exact .iptr sh p off b o cs t fr v (h.im (zaP hb) hI) (by rw[h.blk b (zaP hb) hI.2];exact hb) (h.pr hp) hs hc
 |map r b sh es ho hb=>
  obtain⟨es',h1,h2⟩:=h.map r sh es ho
  exact .map r b sh es' h1 (by rw[h2];exact hb)
 |func fn first captured fs cs hf hc _ _ ih ih'=>exact .func fn first captured fs cs hf hc ih ih'
 |iface t a v _ ih=>exact .iface t a v ih
 |tuple l vs hl _ ih=>exact .tuple l vs hl ih
 |yield r l f ps env bz ho hb=>
  obtain⟨bz',h1,h2⟩:=h.loop r f ps env bz ho
  exact .yield r l f ps env bz' h1 (by rw[h2];exact hb)
 |slv sh r ver off len a cap n ho hv hlc ha hc=>
  obtain⟨n',h1,h2,h4⟩:=h.avl ho
  refine .slv sh r ver off len a cap n' h1 (by omega) hlc ha fun e=> ?_
  have e1:n'=n:=by omega
  obtain⟨c1,b,cs,t,c2,c3,c4,c5⟩:=hc (by omega)
  obtain⟨cs2,hc2,hsz⟩:=h.shape b cs t _ c3
  exact⟨by omega,b,cs2,t,by rw[h4 e1];exact c2,hc2,by rw[hsz];exact c4,c5⟩
 |epv sh r ver i off a n ho hv hc=>
  obtain⟨n',h1,h2,h4⟩:=h.avl ho
  refine .epv sh r ver i off a n' h1 (by omega) fun e=> ?_
  have e1:n'=n:=by omega
  obtain⟨c1,b,c2,c3⟩:=hc (by omega)
  exact⟨by omega,b,by rw[h4 e1];exact c2,c3⟩
 |nilv sh=>exact .nilv sh

theorem Ext.refl(b0:Nat)(X:Xc P)(μ:Nat->Option Nat)(hp:Heap)(w:World):Ext b0 X μ hp w μ hp w where
 os:=rfl
 tape:=rfl
 output:=rfl
 size:=Nat.le_refl _
 blk _ _ _:=rfl
 shape b cs t fr h:=⟨cs,h,rfl⟩
 len:=Nat.le_refl _
 box i sh v h:=⟨v,h,rfl,fun _ _ h=>h⟩
 arr i sh es fz h:=⟨es,fz,h,Nat.le_refl _,fun e=>⟨e,rfl⟩,fun _=>rfl⟩
 map i sh es h:=⟨es,h,rfl⟩
 loop i f ps env bz h:=⟨bz,h,rfl⟩
 arv i sh es h:=⟨es.length,by rw[h];rfl,Nat.le_refl _,fun _=>rfl,fun es' h' _=>by rw[h] at h';cases h';exact fun _ h=>h⟩
 new i h1 h2:=by omega
 mov i _ b h:=.inl h

theorem Ext.trans{b0:Nat}{X:Xc P}{μ μ' μ'':Nat->Option Nat}{hp hp' hp'':Heap}{w w' w'':World}(h:Ext b0 X μ hp w μ' hp' w')(k:Ext b0 X μ' hp' w' μ'' hp'' w''):Ext b0 X μ hp w μ'' hp'' w'' where
 os:=k.os.trans h.os
 tape:=k.tape.trans h.tape
 output:=k.output.trans h.output
 size:=Nat.le_trans h.size k.size
 blk b hb hm:=by
  rw[k.blk b (Nat.lt_of_lt_of_le hb h.size),h.blk b hb hm]
  intro i hl e
  have hlt:=zbv hl
  rcases Nat.lt_or_ge i hp.length with hi|hi
  ·rcases h.mov i hi b e with h1|h1
   ·exact hm i (h.live hi hl) h1
   ·omega
  ·have:=h.new i hi hlt b e
   omega
 shape b cs t fr hb:=by
  obtain⟨cs1,h1,h2⟩:=h.shape b cs t fr hb
  obtain⟨cs2,h3,h4⟩:=k.shape b cs1 t fr h1
  exact⟨cs2,h3,by omega⟩
 len:=Nat.le_trans h.len k.len
 box i sh v ho:=by
  obtain⟨v1,h1,h2,h3⟩:=h.box i sh v ho
  obtain⟨v2,k1,k2,k3⟩:=k.box i sh v1 h1
  exact⟨v2,k1,k2.trans h2,fun hi q hq=>h3 hi q (k3 hi q hq)⟩
 arr i sh es fz ho:=by
  obtain⟨es1,fz1,h1,h2,h3,h4⟩:=h.arr i sh es fz ho
  obtain⟨es2,fz2,k1,k2,k3,k4⟩:=k.arr i sh es1 fz1 h1
  refine⟨es2,fz2,k1,by omega,fun e=> ?_,fun e=> ?_⟩
  ·obtain⟨e1,e2⟩:=h3 e
   obtain⟨e3,e4⟩:=k3 e1
   exact⟨e3,e4.trans e2⟩
  ·rw[k4 (by omega),h4 (by omega)]
 map i sh es ho:=by
  obtain⟨es1,h1,h2⟩:=h.map i sh es ho
  obtain⟨es2,k1,k2⟩:=k.map i sh es1 h1
  exact⟨es2,k1,k2.trans h2⟩
 loop i f ps env bz ho:=by
  obtain⟨b1,h1,h2⟩:=h.loop i f ps env bz ho
  obtain⟨b2,k1,k2⟩:=k.loop i f ps env b1 h1
  exact⟨b2,k1,k2.trans h2⟩
 arv i sh es ho:=by
  obtain⟨n1,h1,h2,h3,h4⟩:=h.arv i sh es ho
  obtain⟨n2,k1,k2,k3⟩:=k.avl h1
  refine⟨n2,k1,by omega,fun e=>by rw[k3 (by omega),h3 (by omega)],fun es2 he hi q hq=> ?_⟩
  rcases zbw h1 with⟨es1,e1,_⟩|⟨es1,e1,_⟩
  ·obtain⟨_,_,_,_,k4⟩:=k.arv i sh es1 e1
   exact h4 es1 e1 hi q (k4 es2 he hi q hq)
  ·obtain⟨es',fz',g1,_,g3,_⟩:=k.arr i sh es1 true e1
   rw[he] at g1
   cases g1
 new i h1 h2 b hb:=by
  rcases Nat.lt_or_ge i hp'.length with hi|hi
  ·rcases k.mov i hi b hb with e|e
   ·exact h.new i h1 hi b e
   ·have:=h.size;omega
  ·have:=k.new i hi h2 b hb
   have:=h.size
   omega
 mov i hi b hb:=by
  rcases k.mov i (Nat.lt_of_lt_of_le hi h.len) b hb with e|e
  ·exact h.mov i hi b e
  ·exact .inr (Nat.le_trans h.size e)

theorem Ext.base{b0 b1:Nat}{X:Xc P}{μ μ':Nat->Option Nat}{hp hp':Heap}{w w':World}(h:Ext b0 X μ hp w μ' hp' w')(hb:b1<=b0):Ext b1 X μ hp w μ' hp' w':=
 { h with
  box:=fun i sh v ho=>let ⟨v',h1,h2,h3⟩:=h.box i sh v ho;⟨v',h1,h2,fun hi=>h3 (by omega)⟩
  arv:=fun i sh es ho=>let ⟨n,h1,h2,h3,h4⟩:=h.arv i sh es ho;⟨n,h1,h2,h3,fun es' he hi=>h4 es' he (by omega)⟩ }
end Go.Am

/- The operations that look at no heap, run in the model. -/
namespace Go.Am
variable{P:Program} {w:World} {X:Xc P} {μ:Nat->Option Nat} {hp:Heap}

theorem zaa(v:Value)(vs:List Value):cellsOf (v::vs)=v.cells.toList++cellsOf vs:=rfl
theorem zax(vs us:List Value):cellsOf (vs++us)=cellsOf vs++cellsOf us:=by simp[cellsOf]

def CR(w:World)(X:Xc P)(μ:Nat->Option Nat)(hp:Heap)(l:List (Sh × AV))(vs:List Value):Prop:=
 l.length=vs.length/\(∀(i:Nat) (x:Sh × AV) (v:Value),l[i]? =some x->vs[i]? =some v->vshp v=x.1/\Flat v)/\
  ∀(i:Nat) (x:Sh × AV) (v:Value),l[i]? =some x->vs[i]? =some v->AR w X μ hp x.2 v

theorem CR.nil:CR w X μ hp [] []:=⟨rfl,by simp,by simp⟩
theorem CR.cons{s:Sh}{a:AV}{v:Value}{l:List (Sh × AV)}{vs:List Value}(h1:vshp v=s)(h2:Flat v)(h3:AR w X μ hp a v)(h:CR w X μ hp l vs):CR w X μ hp ((s,a)::l) (v::vs):=by
 refine⟨by simp[h.1],fun i x u hx hu=> ?_,fun i x u hx hu=> ?_⟩
 ·cases i with
  |zero=>simp at hx hu;subst hx;subst hu;exact⟨h1,h2⟩
  |succ i=>exact h.2.1 i x u (by simpa using hx) (by simpa using hu)
 ·cases i with
  |zero=>simp at hx hu;subst hx;subst hu;exact h3
  |succ i=>exact h.2.2 i x u (by simpa using hx) (by simpa using hu)
theorem CR.inv{s:Sh}{a:AV}{l:List (Sh × AV)}{vs:List Value}(h:CR w X μ hp ((s,a)::l) vs):∃v us,vs=v::us/\vshp v=s/\Flat v/\AR w X μ hp a v/\CR w X μ hp l us:=by
 obtain⟨h1,h2,h3⟩:=h
 cases vs with
 |nil=>simp at h1
 |cons v us=>
  refine⟨v,us,rfl,(h2 0 _ v rfl rfl).1,(h2 0 _ v rfl rfl).2,h3 0 _ v rfl rfl,by simpa using h1,fun i x u hx hu=>h2 (i+1) x u (by simpa using hx) (by simpa using hu),fun i x u hx hu=>h3 (i+1) x u (by simpa using hx) (by simpa using hu)⟩
theorem CR.nil_inv{vs:List Value}(h:CR w X μ hp [] vs):vs=[]:=List.eq_nil_of_length_eq_zero (by have:=h.1;simp at this;exact this.symm)
theorem CR.agg{l:List (Sh × AV)}{vs:List Value}(h:CR w X μ hp l vs):AR w X μ hp (.agg l) (.agg (cellsOf vs).toArray):=.agg l vs h.1 h.2.1 h.2.2

def CP(w:World)(I:Nat->Prop)(l:List (Sh × PV))(vs:List Value):Prop:=
 l.length=vs.length/\(∀(i:Nat) (x:Sh × PV) (v:Value),l[i]? =some x->vs[i]? =some v->vshp v=x.1)/\
  ∀(i:Nat) (x:Sh × PV) (v:Value),l[i]? =some x->vs[i]? =some v->PR w I x.2 v
theorem CP.nil{I:Nat->Prop}:CP w I [] []:=⟨rfl,by simp,by simp⟩
theorem CP.cons{I:Nat->Prop}{s:Sh}{a:PV}{v:Value}{l:List (Sh × PV)}{vs:List Value}(h1:vshp v=s)(h3:PR w I a v)(h:CP w I l vs):CP w I ((s,a)::l) (v::vs):=by
 refine⟨by simp[h.1],fun i x u hx hu=> ?_,fun i x u hx hu=> ?_⟩
 ·cases i with
  |zero=>simp at hx hu;subst hx;subst hu;exact h1
  |succ i=>exact h.2.1 i x u (by simpa using hx) (by simpa using hu)
 ·cases i with
  |zero=>simp at hx hu;subst hx;subst hu;exact h3
  |succ i=>exact h.2.2 i x u (by simpa using hx) (by simpa using hu)
theorem CP.inv{I:Nat->Prop}{s:Sh}{a:PV}{l:List (Sh × PV)}{vs:List Value}(h:CP w I ((s,a)::l) vs):∃v us,vs=v::us/\vshp v=s/\PR w I a v/\CP w I l us:=by
 obtain⟨h1,h2,h3⟩:=h
 cases vs with
 |nil=>simp at h1
 |cons v us=>
  refine⟨v,us,rfl,h2 0 _ v rfl rfl,h3 0 _ v rfl rfl,by simpa using h1,fun i x u hx hu=>h2 (i+1) x u (by simpa using hx) (by simpa using hu),fun i x u hx hu=>h3 (i+1) x u (by simpa using hx) (by simpa using hu)⟩
theorem CP.nil_inv{I:Nat->Prop}{vs:List Value}(h:CP w I [] vs):vs=[]:=List.eq_nil_of_length_eq_zero (by have:=h.1;simp at this;exact this.symm)
theorem CP.agg{I:Nat->Prop}{l:List (Sh × PV)}{vs:List Value}(h:CP w I l vs):PR w I (.agg l) (.agg (cellsOf vs).toArray):=.agg l vs h.1 h.2.1 h.2.2
theorem CP.total{I:Nat->Prop}:∀{l:List (Sh × PV)} {vs:List Value},CP w I l vs->(cellsOf vs).length=Am.total l
 |[],vs,h=>by rw[h.nil_inv];rfl
 |(s,p)::l,vs,h=>by
  obtain⟨v,us,rfl,h1,_,h3⟩:=h.inv
  have:=h3.total
  simp only[zaa,List.length_append,Array.length_toList,zai,h1,Am.total,this]
theorem CR.total:∀{l:List (Sh × AV)} {vs:List Value},CR w X μ hp l vs->(cellsOf vs).length=Am.total l
 |[],vs,h=>by rw[h.nil_inv];rfl
 |(s,p)::l,vs,h=>by
  obtain⟨v,us,rfl,h1,_,_,h3⟩:=h.inv
  have:=h3.total
  simp only[zaa,List.length_append,Array.length_toList,zai,h1,Am.total,this]

theorem zgF:∀{l:List (Sh × AV)} {ps:List (Sh × PV)} {vs:List Value},pures l=some ps->CR w X μ hp l vs->CP w (Im X μ hp) ps vs/\Am.total l=Am.total ps
 |[],ps,vs,h,hc=>by simp[pures] at h;subst h;rw[hc.nil_inv];exact⟨CP.nil,rfl⟩
 |(s,a)::r,ps,vs,h,hc=>by
  cases a with
  |pv s' p=>
   simp only[pures] at h
   cases hr:pures r with
   |none=>rw[hr] at h;cases h
   |some l=>
    rw[hr] at h;simp at h;subst h
    obtain⟨v,us,rfl,h1,_,h2,h3⟩:=hc.inv
    obtain⟨k1,k2⟩:=zgF hr h3
    cases h2 with
    |pv _ _ _ _ hq=>exact⟨CP.cons h1 hq k1,by simp[Am.total,k2]⟩
  |_=>simp[pures] at h

theorem CR.ofComps{l:List (Sh × AV)}{vs:List Value}(h:CR w X μ hp l vs):AR w X μ hp (AV.ofComps l) (.agg (cellsOf vs).toArray):=by
 unfold AV.ofComps
 cases hq:pures l with
 |none=>exact h.agg
 |some ps=>
  obtain⟨h1,h2⟩:=zgF hq h
  refine .pv _ _ _ ?_ h1.agg
  simp[vshp,h.total]

theorem CP.ar{l:List (Sh × PV)}{vs:List Value}(h:CP w (Im X μ hp) l vs):CR w X μ hp (l.map fun x=>(x.1,.pv x.1 x.2)) vs:=by
 obtain⟨h1,h2,h3⟩:=h
 refine⟨by simpa using h1,fun i x v hx hv=> ?_,fun i x v hx hv=> ?_⟩
 ·simp only[List.getElem?_map,Option.map_eq_some_iff] at hx
  obtain⟨y,hy,rfl⟩:=hx
  exact⟨h2 i y v hy hv,(h3 i y v hy hv).flat⟩
 ·simp only[List.getElem?_map,Option.map_eq_some_iff] at hx
  obtain⟨y,hy,rfl⟩:=hx
  exact .pv _ _ _ (h2 i y v hy hv) (h3 i y v hy hv)

theorem AR.vshp{a:AV}{v:Value}(h:AR w X μ hp a v)(hp:a.plain=true):Am.vshp v=a.shp:=by
 cases h with
 |undef=>simp[AV.plain] at hp
 |tuple=>simp[AV.plain] at hp
 |pv sh p v hs _=>exact hs
 |agg l vs h1 h2 h3=>
  have:=CR.total (w:=w) (X:=X) (μ:=μ) ⟨h1,h2,h3⟩
  simp[Am.vshp,AV.shp,this]
 |_=>rfl

theorem zgG{a:AV}{l:List (Sh × AV)}{v:Value}(hl:a.comps=some l)(h:AR w X μ hp a v):∃vs,v=.agg (cellsOf vs).toArray/\CR w X μ hp l vs:=by
 cases h with
 |agg l' vs h1 h2 h3=>
  simp[AV.comps] at hl
  subst hl
  exact⟨vs,rfl,h1,h2,h3⟩
 |pv sh p v hs h=>
  cases h with
  |agg l' vs h1 h2 h3=>
   simp[AV.comps] at hl
   subst hl
   exact⟨vs,rfl,CP.ar ⟨h1,h2,h3⟩⟩
  |_=>simp[AV.comps] at hl
 |_=>simp[AV.comps] at hl

theorem zk1{v:Value}(h:v.oneCell'=true):vshp v=none:=by cases v <;> simp_all[vshp,Value.oneCell']

theorem zfR{v:Value}(h:vshp v=none):v.cells.toList=[v]:=by cases v <;> simp_all[vshp,Value.cells]

theorem zb4(P:Program)(w:World)(X:Xc P)(μ:Nat->Option Nat)(hp:Heap):∀(d:Nat) (t:TypeId) (v:Value) (a:AV),ofValue P d t v=some a->AR w X μ hp a v/\a.plain=true:=by
 intro d
 induction d with
 |zero=>intro t v a h;simp[ofValue] at h
 |succ d ih=>
  have one:∀(cs:Array Value) (sh:Sh) (t:TypeId) (off:Nat) (a:AV),ofValue.one P d cs sh t off=some a->off+sh.size<=cs.size/\∃v,vshp v=sh/\Flat v/\AR w X μ hp a v/\v.cells.toList=(cs.toList.drop off).take sh.size:=by
   intro cs sh t off a h
   unfold ofValue.one zpd at h
   cases sh with
   |some n=>
    simp only at h
    split at h
    ·rename_i hle
     obtain⟨h1,h2⟩:=ih _ _ _ h
     refine⟨hle,_,?_,h1.flat h2,h1,?_⟩
     ·simp[vshp];omega
     ·simp[Value.cells,Sh.size,List.extract_eq_take_drop]
    ·cases h
   |none=>
    simp only at h
    split at h
    ·rename_i v hv
     split at h
     ·rename_i h1
      have hlt:=(Array.getElem?_eq_some_iff.1 hv).1
      refine⟨by simp[Sh.size];omega,v,zk1 h1,zhp h1,(ih _ _ _ h).1,?_⟩
      rw[zfR (zk1 h1)]
      simp only[Sh.size]
      rw[List.take_one]
      simp[hv]
     ·cases h
    ·cases h
  have fields:∀(fs:List Field) (cs:Array Value) (o:Nat) (l:List (Sh × AV)),ofValue.fields P d cs o fs=some l->∃vs,CR w X μ hp l vs/\cellsOf vs=cs.toList.drop o:=by
   intro fs
   induction fs with
   |nil=>
    intro cs o l h
    simp only[ofValue.fields,zcO] at h
    split at h
    ·cases h
     exact⟨[],CR.nil,by rename_i e;subst e;simp[cellsOf]⟩
    ·cases h
   |cons f r ihf=>
    intro cs o l h
    simp only[ofValue.fields,zcO] at h
    split at h
    ·split at h
     ·cases h
     ·rename_i v hv
      split at h
      ·rename_i l' hl'
       cases h
       obtain⟨hle,u,h1,h2,h3,h4⟩:=one _ _ _ _ _ hv
       obtain⟨vs,h5,h6⟩:=ihf _ _ _ hl'
       refine⟨u::vs,CR.cons h1 h2 h3 h5,?_⟩
       rw[zaa,h4,h6,<-List.drop_drop,List.take_append_drop]
      ·cases h
    ·cases h
  have items:∀(n:Nat) (cs:Array Value) (sh:Sh) (t:TypeId) (o:Nat) (l:List (Sh × AV)),ofValue.items P d cs sh t o n=some l->∃vs,CR w X μ hp l vs/\cellsOf vs=cs.toList.drop o:=by
   intro n
   induction n with
   |zero=>
    intro cs sh t o l h
    simp only[ofValue.items,zd1] at h
    split at h
    ·cases h
     exact⟨[],CR.nil,by rename_i e;subst e;simp[cellsOf]⟩
    ·cases h
   |succ n ihn=>
    intro cs sh t o l h
    simp only[ofValue.items,zd1] at h
    split at h
    ·cases h
    ·rename_i v hv
     split at h
     ·rename_i l' hl'
      cases h
      obtain⟨hle,u,h1,h2,h3,h4⟩:=one _ _ _ _ _ hv
      obtain⟨vs,h5,h6⟩:=ihn _ _ _ _ _ hl'
      refine⟨u::vs,CR.cons h1 h2 h3 h5,?_⟩
      rw[zaa,h4,h6,<-List.drop_drop,List.take_append_drop]
     ·cases h
  have plainOf:∀l,(AV.ofComps l).plain=true:=by intro l;unfold AV.ofComps;split <;> rfl
  intro t v a h
  unfold ofValue at h
  split at h
  ·cases h;exact⟨.pv _ _ _ rfl (.bool _),rfl⟩
  ·cases h;exact⟨.pv _ _ _ rfl (.int _ _),rfl⟩
  ·cases h;exact⟨.pv _ _ _ rfl (.str _),rfl⟩
  ·split at h
   ·split at h
    ·cases h;exact⟨.nilv _,rfl⟩
    ·cases h;exact⟨.tsl _ [] none (.nilsl _ _ _),rfl⟩
   ·cases h
  ·cases h;exact⟨.pv _ _ _ rfl .nilptr,rfl⟩
  ·cases h;exact⟨.pv _ _ _ rfl .nilfunc,rfl⟩
  ·cases h;exact⟨.pv _ _ _ rfl .nilmap,rfl⟩
  ·cases h;exact⟨.pv _ _ _ rfl .niliface,rfl⟩
  ·rename_i cs
   split at h
   ·split at h
    ·rename_i l hl
     cases h
     obtain⟨vs,h1,h2⟩:=fields _ _ _ _ hl
     refine⟨?_,plainOf _⟩
     have:=h1.ofComps
     rw[h2] at this
     simpa using this
    ·cases h
   ·split at h
    ·rename_i l hl
     cases h
     obtain⟨vs,h1,h2⟩:=items _ _ _ _ _ _ hl
     refine⟨?_,plainOf _⟩
     have:=h1.ofComps
     rw[h2] at this
     simpa using this
    ·cases h
   ·cases h
  ·cases h
end Go.Am

/- New objects, stores: how the relation between heaps goes on. -/
namespace Go.Am
variable{P:Program} {w:World} {X:Xc P} {μ:Nat->Option Nat} {hp:Heap}

theorem zaJ(w:World)(o:Obj){b:Nat}(h:b<w.heap.size):(w.alloc o).heap[b]? =w.heap[b]? :=RowKit.Below.heap_alloc w o b h
theorem zaC(w:World)(o:Obj):(w.alloc o).heap[w.heap.size]? =some o:=by
 show(w.heap.push o)[w.heap.size]? =_
 simp
theorem zgH(w:World)(o:Obj){b:Nat}{x:Obj}(h:w.heap[b]? =some x):(w.alloc o).heap[b]? =some x:=by rw[zaJ w o (zaP h)];exact h

theorem Ext.alloc(b0:Nat)(o:Obj):Ext b0 X μ hp w μ hp (w.alloc o):=
 { Ext.refl b0 X μ hp w with
  size:=by simp
  blk:=fun b hb _=>zaJ w o hb
  shape:=fun b cs t fr h=>⟨cs,zgH w o h,rfl⟩
  new:=fun i h1 h2=>by omega
  mov:=fun i _ b h=>.inl h }

theorem Ext.drew(b0:Nat):Ext b0 X μ hp w μ hp w.drew:=
 { Ext.refl b0 X μ hp w with
  size:=Nat.le_refl _
  blk:=fun _ _ _=>rfl
  shape:=fun b cs t fr h=>⟨cs,h,rfl⟩
  new:=fun i h1 h2=>by omega
  mov:=fun i _ b h=>.inl h }

theorem HR.same{w':World}(h:HR w X μ hp)(e:Ext 0 X μ hp w μ hp w')(hb:∀i b,i<hp.length->μ i=some b->w'.heap[b]? =w.heap[b]?):HR w' X μ hp where
 inj:=h.inj
 out i b hi hm:=⟨(h.out i b hi hm).1,Nat.lt_of_lt_of_le (h.out i b hi hm).2 e.size⟩
 xlt b hx:=Nat.lt_of_lt_of_le (h.xlt b hx) e.size
 box i sh v ho:=by
  obtain⟨b,val,t,h1,h2,h3,h4,h5⟩:=h.box i sh v ho
  exact⟨b,val,t,h1,by rw[hb i b (List.getElem?_eq_some_iff.1 ho).1 h1];exact h2,h3,h4,e.ar h5⟩
 arr i sh es fz ho:=by
  obtain⟨h0,h1⟩:=h.arr i sh es fz ho
  refine⟨h0,?_⟩
  rcases h1 with h1|⟨b,cs,t,vals,h1,h2,h3,h4,h5⟩
  ·exact .inl h1
  ·exact .inr ⟨b,cs,t,vals,h1,by rw[hb i b (List.getElem?_eq_some_iff.1 ho).1 h1];exact h2,h3,fun k p v hk hv=>⟨(h4 k p v hk hv).1,e.pr (h4 k p v hk hv).2⟩,h5⟩
 map i sh es ho:=by
  obtain⟨b,ents,clock,h1,h2,h3,h4⟩:=h.map i sh es ho
  exact⟨b,ents,clock,h1,by rw[hb i b (List.getElem?_eq_some_iff.1 ho).1 h1];exact h2,h3,fun k x y hk hy=>⟨e.pr (h4 k x y hk hy).1,e.pr (h4 k x y hk hy).2.1,(h4 k x y hk hy).2.2⟩⟩
 loop i f ps env bz ho:=by
  obtain⟨l,rc,h1,h2,h3,h4,h5,h6,h7⟩:=h.loop i f ps env bz ho
  exact⟨l,rc,h1,by rw[hb i l (List.getElem?_eq_some_iff.1 ho).1 h1];exact h2,h3,h4,h5,h6,fun x hx=>⟨(h7 x hx).1,e.ar (h7 x hx).2⟩⟩
 arv i sh es ho:=by
  obtain⟨h0,b,cs,t,vals,h1,h2,h3,h4,h5⟩:=h.arv i sh es ho
  exact⟨h0,b,cs,t,vals,h1,by rw[hb i b (List.getElem?_eq_some_iff.1 ho).1 h1];exact h2,h3,fun k p v hk hv=>⟨(h4 k p v hk hv).1,e.ar (h4 k p v hk hv).2⟩,h5⟩

theorem HR.alloc(h:HR w X μ hp)(o:Obj):HR (w.alloc o) X μ hp:=
 h.same (Ext.alloc 0 o) fun i b hi hm=>zaJ w o (h.out i b hi hm).2
theorem HR.drew(h:HR w X μ hp):HR w.drew X μ hp:=h.same (Ext.drew 0) fun _ _ _ _=>rfl

def upd(μ:Nat->Option Nat)(n:Nat)(b:Option Nat):Nat->Option Nat:=fun i=>if i=n then b else μ i
theorem zaf(μ:Nat->Option Nat)(n:Nat)(b:Option Nat):upd μ n b n=b:=by simp[upd]
theorem zaD{μ:Nat->Option Nat}{n i:Nat}{b:Option Nat}(h:i<n):upd μ n b i=μ i:=by simp[upd];omega
theorem zav{μ:Nat->Option Nat}{n i:Nat}{b:Option Nat}(h:i≠n):upd μ n b i=μ i:=by simp[upd,h]

theorem zdw{hp:Heap}{o:AObj}{i:Nat}(h:i<hp.length):(hp++[o])[i]? =hp[i]? :=List.getElem?_append_left h
theorem zbx{hp:Heap}{o:AObj}:(hp++[o])[hp.length]? =some o:=by simp
theorem zaF{hp:Heap}{o x:AObj}{i:Nat}(h:hp[i]? =some x):(hp++[o])[i]? =some x:=by rw[zdw (List.getElem?_eq_some_iff.1 h).1];exact h
theorem zbM{hp:Heap}{o x:AObj}{i:Nat}(h:(hp++[o])[i]? =some x):hp[i]? =some x\/(i=hp.length/\x=o):=by
 rcases Nat.lt_trichotomy i hp.length with hi|hi|hi
 ·exact .inl (by rw[zdw hi] at h;exact h)
 ·subst hi;rw[zbx] at h;cases h;exact .inr ⟨rfl,rfl⟩
 ·simp[List.getElem?_eq_none (by simp;omega:(hp++[o]).length<=i)] at h

theorem Ext.push{w':World}{b0:Nat}(o:AObj)(nb:Option Nat)(e:Ext b0 X μ hp w μ hp w')(hn:∀b,nb=some b->w.heap.size<=b):Ext b0 X μ hp w (upd μ hp.length nb) (hp++[o]) w' where
 os:=e.os
 tape:=e.tape
 output:=e.output
 size:=e.size
 blk:=e.blk
 shape:=e.shape
 len:=by simp
 box i sh v ho:=by
  have hi:=(List.getElem?_eq_some_iff.1 ho).1
  exact⟨v,zaF ho,zaD hi,fun _ _ h=>h⟩
 arr i sh es fz ho:=by
  have hi:=(List.getElem?_eq_some_iff.1 ho).1
  exact⟨es,fz,zaF ho,Nat.le_refl _,fun e=>⟨e,rfl⟩,fun _=>zaD hi⟩
 map i sh es ho:=by
  have hi:=(List.getElem?_eq_some_iff.1 ho).1
  exact⟨es,zaF ho,zaD hi⟩
 loop i f ps env bz ho:=by
  have hi:=(List.getElem?_eq_some_iff.1 ho).1
  exact⟨bz,zaF ho,zaD hi⟩
 arv i sh es ho:=by
  have hi:=(List.getElem?_eq_some_iff.1 ho).1
  exact⟨es.length,by rw[zaF ho];rfl,Nat.le_refl _,fun _=>zaD hi,fun es' h' _=>by rw[zaF ho] at h';cases h';exact fun _ h=>h⟩
 new i h1 h2 b hb:=by
  have:i=hp.length:=by simp at h2;omega
  subst this
  rw[zaf] at hb
  exact hn b hb
 mov i hi b hb:=by rw[zaD hi] at hb;exact .inl hb

theorem HR.push{w':World}(h:HR w X μ hp)(o:AObj)(nb:Option Nat)(e:Ext 0 X μ hp w μ hp w')(hb:∀i b,i<hp.length->μ i=some b->w'.heap[b]? =w.heap[b]?)(hn:∀b,nb=some b->w.heap.size<=b/\b<w'.heap.size)
  (hbox:∀sh v,o=.box sh v->∃b val t,nb=some b/\w'.heap[b]? =some (.cells val.cells t (0,0))/\vshp val=sh/\Flat val/\AR w' X (upd μ hp.length nb) (hp++[o]) v val)
  (harr:∀sh es fz,o=.arr sh es fz->0<sh.size/\((nb=none/\es=[])\/∃b cs t vals,nb=some b/\w'.heap[b]? =some (.cells cs t (0,0))/\es.length=vals.length/\
   (∀(k:Nat) (p:PV) (v:Value),es[k]? =some p->vals[k]? =some v->vshp v=sh/\PR w' (Im X (upd μ hp.length nb) (hp++[o])) p v)/\cellsOf vals=cs.toList.take (es.length*sh.size)))
  (hmap:∀sh es,o=.map sh es->∃b clock,nb=some b/\w'.heap[b]? =some (.map #[] clock)/\es=[])
  (hloop:∀f ps env bz,o=.loop f ps env bz->∃l rec,nb=some l/\w'.heap[l]? =some (.loop rec)/\(rec.state=if bz=true then .busy else .ready)/\rec.pending=none/\rec.params=ps.toArray/\zm2 P f rec.params rec.assign rec.body rec.tmps.size/\
   (∀x∈env,x.1<rec.tmps.size/\AR w' X (upd μ hp.length nb) (hp++[o]) x.2 (rec.tmps.getD x.1 undef)):=by intro _ _ _ _ h;cases h)
  (harv:∀sh es,o=.arv sh es->0<sh.size/\∃b cs t vals,nb=some b/\w'.heap[b]? =some (.cells cs t (0,0))/\es.length=vals.length/\
   (∀(k:Nat) (a:AV) (v:Value),es[k]? =some a->vals[k]? =some v->(vshp v=sh/\Flat v)/\AR w' X (upd μ hp.length nb) (hp++[o]) a v)/\cellsOf vals=cs.toList.take (es.length*sh.size):=by intro _ _ h;cases h):HR w' X (upd μ hp.length nb) (hp++[o]):=by
 have E:=Ext.push (b0:=0) o nb e fun b hb=>(hn b hb).1
 have at_:∀i,i<(hp++[o]).length->i<hp.length\/i=hp.length:=by intro i hi;simp at hi;omega
 refine⟨?_,?_,?_,?_,?_,?_,?_,?_⟩
 ·intro i j b hi hj h1 h2
  rcases at_ i hi with hi|rfl <;> rcases at_ j hj with hj|rfl
  ·rw[zaD hi] at h1;rw[zaD hj] at h2;exact h.inj i j b hi hj h1 h2
  ·rw[zaD hi] at h1;rw[zaf] at h2
   have:=(hn b h2).1;have:=(h.out i b hi h1).2;omega
  ·rw[zaf] at h1;rw[zaD hj] at h2
   have:=(hn b h1).1;have:=(h.out j b hj h2).2;omega
  ·rfl
 ·intro i b hi h1
  rcases at_ i hi with hi|rfl
  ·rw[zaD hi] at h1
   exact⟨(h.out i b hi h1).1,Nat.lt_of_lt_of_le (h.out i b hi h1).2 e.size⟩
  ·rw[zaf] at h1
   refine⟨fun hx=> ?_,(hn b h1).2⟩
   have:=h.xlt b hx;have:=(hn b h1).1;omega
 ·exact fun b hx=>Nat.lt_of_lt_of_le (h.xlt b hx) e.size
 ·intro i sh v ho
  rcases zbM ho with ho|⟨rfl,ho2⟩
  ·have hi:=(List.getElem?_eq_some_iff.1 ho).1
   obtain⟨b,val,t,h1,h2,h3,h4,h5⟩:=h.box i sh v ho
   exact⟨b,val,t,by rw[zaD hi];exact h1,by rw[hb i b hi h1];exact h2,h3,h4,E.ar h5⟩
  ·obtain⟨b,val,t,h1,h2⟩:=hbox sh v ho2.symm
   exact⟨b,val,t,by rw[zaf];exact h1,h2⟩
 ·intro i sh es fz ho
  rcases zbM ho with ho|⟨rfl,ho2⟩
  ·have hi:=(List.getElem?_eq_some_iff.1 ho).1
   obtain⟨h0,h1⟩:=h.arr i sh es fz ho
   refine⟨h0,?_⟩
   rcases h1 with h1|⟨b,cs,t,vals,h1,h2,h3,h4,h5⟩
   ·exact .inl ⟨by rw[zaD hi];exact h1.1,h1.2⟩
   ·exact .inr ⟨b,cs,t,vals,by rw[zaD hi];exact h1,by rw[hb i b hi h1];exact h2,h3,fun k p v hk hv=>⟨(h4 k p v hk hv).1,E.pr (h4 k p v hk hv).2⟩,h5⟩
  ·obtain⟨h0,h1⟩:=harr sh es fz ho2.symm
   exact⟨h0,by rw[zaf];exact h1⟩
 ·intro i sh es ho
  rcases zbM ho with ho|⟨rfl,ho2⟩
  ·have hi:=(List.getElem?_eq_some_iff.1 ho).1
   obtain⟨b,ents,clock,h1,h2,h3,h4⟩:=h.map i sh es ho
   exact⟨b,ents,clock,by rw[zaD hi];exact h1,by rw[hb i b hi h1];exact h2,h3,fun k x y hk hy=>⟨E.pr (h4 k x y hk hy).1,E.pr (h4 k x y hk hy).2.1,(h4 k x y hk hy).2.2⟩⟩
  ·obtain⟨b,clock,h1,h2,rfl⟩:=hmap sh es ho2.symm
   exact⟨b,#[],clock,by rw[zaf];exact h1,h2,rfl,by simp⟩
 ·intro i f ps env bz ho
  rcases zbM ho with ho|⟨rfl,ho2⟩
  ·have hi:=(List.getElem?_eq_some_iff.1 ho).1
   obtain⟨l,rc,h1,h2,h3,h4,h5,h6,h7⟩:=h.loop i f ps env bz ho
   exact⟨l,rc,by rw[zaD hi];exact h1,by rw[hb i l hi h1];exact h2,h3,h4,h5,h6,fun x hx=>⟨(h7 x hx).1,E.ar (h7 x hx).2⟩⟩
  ·obtain⟨l,rc,h1,h2⟩:=hloop f ps env bz ho2.symm
   exact⟨l,rc,by rw[zaf];exact h1,h2⟩
 ·intro i sh es ho
  rcases zbM ho with ho|⟨rfl,ho2⟩
  ·have hi:=(List.getElem?_eq_some_iff.1 ho).1
   obtain⟨h0,b,cs,t,vals,h1,h2,h3,h4,h5⟩:=h.arv i sh es ho
   exact⟨h0,b,cs,t,vals,by rw[zaD hi];exact h1,by rw[hb i b hi h1];exact h2,h3,fun k p v hk hv=>⟨(h4 k p v hk hv).1,E.ar (h4 k p v hk hv).2⟩,h5⟩
  ·obtain⟨h0,b,cs,t,vals,h1,h2⟩:=harv sh es ho2.symm
   exact⟨h0,b,cs,t,vals,by rw[zaf];exact h1,h2⟩

theorem Ext.setBox{b0 r:Nat}{sh:Sh}{old v:AV}(hr:hp[r]? =some (.box sh old))(hq:r<b0->∀q∈v.refsIn,q∈old.refsIn){w':World}{b:Nat}(hb:μ r=some b)(hos:w'.os=w.os)(ht:w'.tape=w.tape)(ho:w'.output=w.output)
  (hsz:w'.heap.size=w.heap.size)(hoth:∀k,k≠b->w'.heap[k]? =w.heap[k]?)(hsh:∀cs t fr,w.heap[b]? =some (.cells cs t fr)->∃cs',w'.heap[b]? =some (.cells cs' t fr)/\cs'.size=cs.size):Ext b0 X μ hp w μ (hp.set r (.box sh v)) w' where
 os:=hos
 tape:=ht
 output:=ho
 size:=by omega
 blk k hk hm:=hoth k fun e=>by
  subst e
  exact hm r (by simp[Am.live,hr]) hb
 shape k cs t fr hk:=by
  by_cases e:k=b
  ·subst e;exact hsh cs t fr hk
  ·exact⟨cs,by rw[hoth k e];exact hk,rfl⟩
 len:=by simp
 box i s u hi:=by
  by_cases e:i=r
  ·subst e
   rw[hr] at hi
   cases hi
   exact⟨v,by rw[List.getElem?_set_self (List.getElem?_eq_some_iff.1 hr).1],rfl,fun hi=>hq hi.1⟩
  ·exact⟨u,by rw[List.getElem?_set_ne (Ne.symm e)];exact hi,rfl,fun _ _ h=>h⟩
 arr i s es fz hi:=by
  have e:i≠r:=by rintro rfl;rw[hr] at hi;cases hi
  exact⟨es,fz,by rw[List.getElem?_set_ne (Ne.symm e)];exact hi,Nat.le_refl _,fun e=>⟨e,rfl⟩,fun _=>rfl⟩
 map i s es hi:=by
  have e:i≠r:=by rintro rfl;rw[hr] at hi;cases hi
  exact⟨es,by rw[List.getElem?_set_ne (Ne.symm e)];exact hi,rfl⟩
 loop i f ps env bz hi:=by
  have e:i≠r:=by rintro rfl;rw[hr] at hi;cases hi
  exact⟨bz,by rw[List.getElem?_set_ne (Ne.symm e)];exact hi,rfl⟩
 arv i s es hi:=by
  have e:i≠r:=by rintro rfl;rw[hr] at hi;cases hi
  have e2:(hp.set r (.box sh v))[i]? =some (.arv s es):=by rw[List.getElem?_set_ne (Ne.symm e)];exact hi
  exact⟨es.length,by rw[e2];rfl,Nat.le_refl _,fun _=>rfl,fun es' h' _=>by rw[e2] at h';cases h';exact fun _ h=>h⟩
 new i h1 h2:=by simp at h2;omega
 mov i _ k hk:=.inl hk

theorem zaV{hp:Heap}{r i:Nat}{o x:AObj}(h:(hp.set r o)[i]? =some x):(i=r/\x=o)\/(i≠r/\hp[i]? =some x):=by
 by_cases e:i=r
 ·subst e
  have hi:i<hp.length:=by have:=(List.getElem?_eq_some_iff.1 h).1;simpa using this
  rw[List.getElem?_set_self hi] at h
  cases h
  exact .inl ⟨rfl,rfl⟩
 ·rw[List.getElem?_set_ne (Ne.symm e)] at h
  exact .inr ⟨e,h⟩

theorem HR.setBox{b0 r:Nat}{sh:Sh}{old v:AV}(h:HR w X μ hp)(hr:hp[r]? =some (.box sh old)){w':World}{b:Nat}(hb:μ r=some b)(E:Ext b0 X μ hp w μ (hp.set r (.box sh v)) w')(hoth:∀k,k≠b->w'.heap[k]? =w.heap[k]?)
  {val:Value}{t:TypeId}(h1:w'.heap[b]? =some (.cells val.cells t (0,0)))(h2:vshp val=sh)(h3:Flat val)(h4:AR w X μ hp v val):HR w' X μ (hp.set r (.box sh v)):=by
 have hlen:(hp.set r (.box sh v)).length=hp.length:=by simp
 have other:∀i k,i<hp.length->i≠r->μ i=some k->w'.heap[k]? =w.heap[k]? :=fun i k hi hne hk=>hoth k fun e=>by
  subst e
  exact hne (h.inj i r k hi (List.getElem?_eq_some_iff.1 hr).1 hk hb)
 refine⟨?_,?_,?_,?_,?_,?_,?_,?_⟩
 ·intro i j k hi hj;rw[hlen] at hi hj;exact h.inj i j k hi hj
 ·intro i k hi hk;rw[hlen] at hi
  exact⟨(h.out i k hi hk).1,Nat.lt_of_lt_of_le (h.out i k hi hk).2 E.size⟩
 ·exact fun k hx=>Nat.lt_of_lt_of_le (h.xlt k hx) E.size
 ·intro i s u hi
  rcases zaV hi with⟨rfl,e⟩|⟨hne,hi⟩
  ·cases e
   exact⟨b,val,t,hb,h1,h2,h3,E.ar h4⟩
  ·obtain⟨k,val,t,k1,k2,k3,k4,k5⟩:=h.box i s u hi
   exact⟨k,val,t,k1,by rw[other i k (List.getElem?_eq_some_iff.1 hi).1 hne k1];exact k2,k3,k4,E.ar k5⟩
 ·intro i s es fz hi
  rcases zaV hi with⟨rfl,e⟩|⟨hne,hi⟩
  ·cases e
  ·obtain⟨k0,k1⟩:=h.arr i s es fz hi
   refine⟨k0,?_⟩
   rcases k1 with k1|⟨k,cs,t,vals,k1,k2,k3,k4,k5⟩
   ·exact .inl k1
   ·exact .inr ⟨k,cs,t,vals,k1,by rw[other i k (List.getElem?_eq_some_iff.1 hi).1 hne k1];exact k2,k3,fun j p v hj hv=>⟨(k4 j p v hj hv).1,E.pr (k4 j p v hj hv).2⟩,k5⟩
 ·intro i s es hi
  rcases zaV hi with⟨rfl,e⟩|⟨hne,hi⟩
  ·cases e
  ·obtain⟨k,ents,clock,k1,k2,k3,k4⟩:=h.map i s es hi
   exact⟨k,ents,clock,k1,by rw[other i k (List.getElem?_eq_some_iff.1 hi).1 hne k1];exact k2,k3,fun j x y hj hy=>⟨E.pr (k4 j x y hj hy).1,E.pr (k4 j x y hj hy).2.1,(k4 j x y hj hy).2.2⟩⟩
 ·intro i f ps env bz hi
  rcases zaV hi with⟨rfl,e⟩|⟨hne,hi⟩
  ·cases e
  ·obtain⟨l,rc,k1,k2,k3,k4,k5,k6,k7⟩:=h.loop i f ps env bz hi
   exact⟨l,rc,k1,by rw[other i l (List.getElem?_eq_some_iff.1 hi).1 hne k1];exact k2,k3,k4,k5,k6,fun x hx=>⟨(k7 x hx).1,E.ar (k7 x hx).2⟩⟩
 ·intro i s es hi
  rcases zaV hi with⟨rfl,e⟩|⟨hne,hi⟩
  ·cases e
  ·obtain⟨h0,k,cs,t,vals,k1,k2,k3,k4,k5⟩:=h.arv i s es hi
   exact⟨h0,k,cs,t,vals,k1,by rw[other i k (List.getElem?_eq_some_iff.1 hi).1 hne k1];exact k2,k3,fun j p v hj hv=>⟨(k4 j p v hj hv).1,E.ar (k4 j p v hj hv).2⟩,k5⟩
end Go.Am

/- The operations that look at no heap, run in the model: one by one. -/
namespace Go.Am
variable{P:Program} {w:World} {X:Xc P} {μ:Nat->Option Nat} {hp:Heap}

theorem zdx{t:TypeId}(h:okT P t=true):∃i d,P.info? t=some i/\P.underlying t=some d/\i.size=(shOf P t).size/\0<i.size:=by
 unfold okT at h
 split at h
 ·rename_i i d hi hd
  simp only[Bool.and_eq_true,beq_iff_eq,decide_eq_true_eq] at h
  exact⟨i,d,hi,hd,h.1,h.2⟩
 ·cases h
theorem za6{t:TypeId}(h:okT P t=true)(w:World):(sizeOf t).run P w=.ok (shOf P t).size w:=by
 obtain⟨i,d,hi,hd,hs,_⟩:=zdx h
 simp[sizeOf,typeInfo,hi,hs]
theorem zph{t:TypeId}(h:okS P t=true)(w:World):(sizeOf t).run P w=.ok (shOf P t).size w:=by
 unfold okS at h
 split at h
 ·rename_i i d hi hd
  have hs:i.size=(shOf P t).size:=by simpa using h
  simp[sizeOf,typeInfo,hi,hs]
 ·cases h
theorem zm3{t:TypeId}(h:okT P t=true):0<(shOf P t).size:=by
 obtain⟨i,d,hi,hd,hs,h0⟩:=zdx h
 omega
theorem zfS{t:TypeId}{d:TypeDesc}(h:P.underlying t=some d)(w:World):(isAgg t).run P w=.ok (shOf P t).isSome w:=by
 simp only[isAgg,Sem.run_bind,run_underlying h,Result.andThen_ok,shOf,h]
 cases d <;> rfl

def FR(w:World)(X:Xc P)(μ:Nat->Option Nat)(hp:Heap)(fr:Fr)(tmps:Array Value):Prop:=
 ∀s a,fr.look s=some a->s<tmps.size/\AR w X μ hp a (tmps.getD s undef)

inductive LR(w:World)(X:Xc P)(μ:Nat->Option Nat)(hp:Heap):List AV->List Value->Prop
 |nil:LR w X μ hp [] []
 |cons {a v l vs} (h:AR w X μ hp a v) (r:LR w X μ hp l vs):LR w X μ hp (a::l) (v::vs)

theorem zby{fr:Fr}{act:Act}(hF:FR w X μ hp fr act.tmps){t:TypeId}{x:Operand}{ar:AArg}{a:AV}(h:zbt P t x=some ar)(ha:fr.arg ar=some a):AR w X μ hp a (act.eval x):=by
 cases x with
 |tmp s=>
  simp only[zbt,Option.some.injEq] at h
  subst h
  exact(hF s a ha).2
 |const v=>
  simp only[zbt,Option.map_eq_some_iff] at h
  obtain⟨b,hb,rfl⟩:=h
  simp only[Fr.arg,Option.some.injEq] at ha
  subst ha
  exact(zb4 P w X μ hp 8 t v b hb).1
 |global g=>simp[zbt] at h
 |func f=>
  simp only[zbt,Option.some.injEq] at h
  subst h
  simp only[Fr.arg,Option.some.injEq] at ha
  subst ha
  exact .pv _ _ _ rfl (.func _)

theorem zaM{fr:Fr}{act:Act}(hF:FR w X μ hp fr act.tmps):∀{xs:List Operand} {ts:List TypeId} {as:List AArg} {vs:List AV},zdY P xs ts=some as->fr.argsOf as=some vs->LR w X μ hp vs (xs.map act.eval)
 |[],ts,as,vs,h,hv=>by
  simp only[zdY,Option.some.injEq] at h
  subst h
  simp only[Fr.argsOf,Option.some.injEq] at hv
  subst hv
  exact .nil
 |x::r,ts,as,vs,h,hv=>by
  simp only[zdY] at h
  split at h
  ·cases h
  ·rename_i a ha
   split at h
   ·rename_i l hl
    cases h
    simp only[Fr.argsOf] at hv
    split at hv
    ·cases hv
    ·rename_i v1 h1
     split at hv
     ·rename_i l1 h2
      cases hv
      exact .cons (zby hF ha h1) (zaM hF hl h2)
     ·cases hv
   ·cases h

theorem AR.int_inv{sh:Sh}{k:IntKind}{n:Int}{v:Value}(h:AR w X μ hp (.pv sh (.int k n)) v):v=.int k n:=by
 cases h with|pv _ _ _ _ h=>cases h;rfl
theorem AR.bool_inv{sh:Sh}{b:Bool}{v:Value}(h:AR w X μ hp (.pv sh (.bool b)) v):v=.bool b:=by
 cases h with|pv _ _ _ _ h=>cases h;rfl
theorem AR.str_inv{sh:Sh}{s:List UInt8}{v:Value}(h:AR w X μ hp (.pv sh (.str s)) v):v=.string ⟨s.toArray⟩:=by
 cases h with|pv _ _ _ _ h=>cases h;rfl
theorem AR.mkBool(b:Bool):AR w X μ hp (.pv none (.bool b)) (.bool b):=.pv _ _ _ rfl (.bool b)
theorem AR.mkInt(k:IntKind)(n:Int):AR w X μ hp (.pv none (.int k n)) (.int k n):=.pv _ _ _ rfl (.int k n)
theorem AR.mkStr(s:List UInt8):AR w X μ hp (.pv none (.str s)) (.string ⟨s.toArray⟩):=.pv _ _ _ rfl (.str s)

theorem zq2(o:BinOp)(t:TypeId)(x y:Operand)(k:IntKind)(a b:Int){p:PV}(h:zb1 o k a b=some p):
  ∃v,((do eqGuard o t x y (.int k a) (.int k b);binOp o t (.int k a) (.int k b)):Sem Value).run P w=.ok v w/\AR w X μ hp (.pv none p) v:=by
 simp only[eqGuard_at_int,pure_bind]
 cases o <;> simp only[zb1] at h
 case quo=>
  split at h
  ·cases h
  ·cases h;rename_i h0;exact⟨_,by simp[binOp,Op.intDiv,h0];try rfl,.mkInt _ _⟩
 case rem=>
  split at h
  ·cases h
  ·cases h;rename_i h0;exact⟨_,by simp[binOp,Op.intDiv,h0];try rfl,.mkInt _ _⟩
 case shr=>
  split at h
  ·cases h
  ·cases h;rename_i h0;exact⟨_,by simp[binOp,Op.shift,h0];try rfl,.mkInt _ _⟩
 all_goals first|(cases h;done)|(cases h;exact⟨_,by simp[binOp,Op.intArith,Op.intCmp];try rfl,by first|exact .mkInt _ _|exact .mkBool _⟩)

theorem zk2(a b:List UInt8):(a == b)=decide (a=b):=by rw[Bool.eq_iff_iff];simp

theorem zq3(o:BinOp)(t:TypeId)(x y:Operand)(a b:List UInt8){p:PV}(h:zfJ o a b=some p):
  ∃v,((do eqGuard o t x y (.string ⟨a.toArray⟩) (.string ⟨b.toArray⟩);binOp o t (.string ⟨a.toArray⟩) (.string ⟨b.toArray⟩)):Sem Value).run P w=.ok v w/\AR w X μ hp (.pv none p) v:=by
 simp only[eqGuard_at_string,pure_bind]
 cases o <;> simp only[zfJ] at h
 case add=>
  split at h
  ·cases h
   rename_i hle
   refine⟨.string ⟨(a++b).toArray⟩,?_,.mkStr _⟩
   have h1:¬(((ByteArray.mk a.toArray).size+(ByteArray.mk b.toArray).size:Nat):Int) > 9223372036854775807:=by
    simp only[ByteArray.size,List.size_toArray]
    unfold lim at hle
    omega
   have h2:(ByteArray.mk a.toArray)++(ByteArray.mk b.toArray)=ByteArray.mk (a++b).toArray:=by
    apply ByteArray.ext
    simp
   simp only[binOp,Op.stringOp,IntKind.max_i64,h1,if_false,Sem.run_pure,h2]
  ·cases h
 all_goals first|(cases h;done)|(cases h;exact⟨_,by simp only[binOp,Op.stringOp,ByteArray.toList_mk,Sem.run_pure,zk2],.mkBool _⟩)

theorem zic(t:TypeId)(a b:Bool)(ht:P.underlying t=some .bool)(d:Nat):(Op.equalIn (d+1) t (.bool a) (.bool b)).run P w=.ok (a == b) w:=by simp[Op.equalIn,run_underlying ht]
theorem zlD(t:TypeId)(a b:Bool)(ht:P.underlying t=some .bool):(Op.equal t (.bool a) (.bool b)).run P w=.ok (a == b) w:=zic t a b ht 9999

theorem zpi(o:BinOp)(t:TypeId)(x y:Operand)(a b:Bool){p:PV}(ht:P.underlying t=some .bool)(h:zjF o a b=some p):
  ∃v,((do eqGuard o t x y (.bool a) (.bool b);binOp o t (.bool a) (.bool b)):Sem Value).run P w=.ok v w/\AR w X μ hp (.pv none p) v:=by
 simp only[eqGuard_at_bool,pure_bind]
 cases o <;> simp only[zjF] at h
 all_goals first|(cases h;done)|(cases h;exact⟨_,by simp only[binOp,Sem.run_bind,zlD t a b ht,Result.andThen_ok,Sem.run_pure],.mkBool _⟩)

theorem zm4(o:BinOp)(t:TypeId)(x y:Operand){vx vy:Value}{sx sy:Sh}{px py p:PV}(h1:AR w X μ hp (.pv sx px) vx)(h2:AR w X μ hp (.pv sy py) vy)(h:zmS o px py=some p):
  ∃v,((do eqGuard o t x y vx vy;binOp o t vx vy):Sem Value).run P w=.ok v w/\AR w X μ hp (.pv none p) v:=by
 unfold zmS at h
 split at h
 ·split at h
  ·rename_i k a k' b e
   subst e
   cases h1.int_inv
   cases h2.int_inv
   exact zq2 o t x y k a b h
  ·cases h
 ·cases h1.str_inv
  cases h2.str_inv
  exact zq3 o t x y _ _ h
 ·cases h

theorem LR.one{a:AV}{vs:List Value}(h:LR w X μ hp [a] vs):∃v,vs=[v]/\AR w X μ hp a v:=by
 cases h with|cons h r=>cases r;exact⟨_,rfl,h⟩
theorem LR.two{a b:AV}{vs:List Value}(h:LR w X μ hp [a,b] vs):∃v u,vs=[v,u]/\AR w X μ hp a v/\AR w X μ hp b u:=by
 cases h with|cons h r=>obtain⟨u,rfl,h2⟩:=r.one;exact⟨_,_,rfl,h,h2⟩
theorem LR.three{a b c:AV}{vs:List Value}(h:LR w X μ hp [a,b,c] vs):∃v u x,vs=[v,u,x]/\AR w X μ hp a v/\AR w X μ hp b u/\AR w X μ hp c x:=by
 cases h with|cons h r=>obtain⟨u,x,rfl,h2,h3⟩:=r.two;exact⟨_,_,_,rfl,h,h2,h3⟩

theorem zeh{vals:List Value}{k:Nat}(hk:∀v∈vals,v.cells.size=k)(i:Nat)(v:Value)(hv:vals[i]? =some v):(cellsOf vals).drop (i*k)=v.cells.toList++cellsOf (vals.drop (i+1)):=by
 induction vals generalizing i with
 |nil=>simp at hv
 |cons u r ih=>
  cases i with
  |zero=>
   simp at hv
   subst hv
   simp[zaa]
  |succ i=>
   have hu:=hk u (by simp)
   rw[zaa,show(i+1)*k=u.cells.toList.length+i*k by rw[Array.length_toList,hu,Nat.add_mul];omega,<-List.drop_drop,List.drop_left]
   simpa using ih (fun v hv=>hk v (by simp[hv])) i (by simpa using hv)

theorem zhq{I:Nat->Prop}(d:Nat)(ihd:∀p off sh q v,PV.part d p off sh=some q->PR w I p v->∃u,vshp u=sh/\PR w I q u/\u.cells.toList=(v.cells.toList.drop off).take sh.size):
  ∀(l:List (Sh × PV)) (vs:List Value) (off:Nat) (sh:Sh) (q:PV),PV.part.go d off sh l=some q->CP w I l vs->∃u,vshp u=sh/\PR w I q u/\u.cells.toList=((cellsOf vs).drop off).take sh.size:=by
 intro l
 induction l with
 |nil=>intro vs off sh q h;simp[PV.part.go] at h
 |cons x r ih=>
  intro vs off sh q h hc
  obtain⟨s,p⟩:=x
  obtain⟨v,us,rfl,h1,h2,h3⟩:=hc.inv
  have hlen:v.cells.toList.length=s.size:=by rw[Array.length_toList,zai,h1]
  simp only[PV.part.go] at h
  split at h
  ·rename_i hh
   cases h
   obtain⟨rfl,rfl⟩:=hh
   refine⟨v,h1,h2,?_⟩
   rw[zaa,List.drop_zero,<-hlen,List.take_left]
  ·split at h
   ·rename_i hlt
    obtain⟨u,k1,k2,k3⟩:=ihd _ _ _ _ _ h h2
    have:(v.cells.toList.drop off).take sh.size=((cellsOf (v::us)).drop off).take sh.size\/True:=.inr trivial
    refine⟨u,k1,k2,?_⟩
    have hul:u.cells.toList.length=sh.size:=by rw[Array.length_toList,zai,k1]
    rw[zaa,List.drop_append_of_le_length (by omega),k3]
    have hle:sh.size<=(v.cells.toList.drop off).length:=by
     have:=congrArg List.length k3
     rw[hul,List.length_take] at this
     omega
    rw[List.take_append_of_le_length hle]
   ·rename_i hge
    obtain⟨u,k1,k2,k3⟩:=ih us _ _ _ h h3
    refine⟨u,k1,k2,?_⟩
    rw[k3,zaa,show off=v.cells.toList.length+(off - s.size) by omega,<-List.drop_drop,List.drop_left]
    congr 2
    omega
theorem zdy{I:Nat->Prop}:∀(d:Nat) (p:PV) (off:Nat) (sh:Sh) (q:PV) (v:Value),PV.part d p off sh=some q->PR w I p v->∃u,vshp u=sh/\PR w I q u/\u.cells.toList=(v.cells.toList.drop off).take sh.size:=by
 intro d
 induction d with
 |zero=>intro p off sh q v h;simp[PV.part] at h
 |succ d ih=>
  intro p off sh q v h hp
  cases hp with
  |agg l vs hl h1 h2=>
   simp only[PV.part] at h
   have:=zhq d ih l vs off sh q h ⟨hl,h1,h2⟩
   simpa[Value.cells] using this
  |_=>simp[PV.part] at h
theorem zgr(d:Nat)(ihd:∀p off sh q v,AV.part d p off sh=some q->AR w X μ hp p v->∃u,vshp u=sh/\Flat u/\AR w X μ hp q u/\u.cells.toList=(v.cells.toList.drop off).take sh.size):
  ∀(l:List (Sh × AV)) (vs:List Value) (off:Nat) (sh:Sh) (q:AV),AV.part.go d off sh l=some q->CR w X μ hp l vs->∃u,vshp u=sh/\Flat u/\AR w X μ hp q u/\u.cells.toList=((cellsOf vs).drop off).take sh.size:=by
 intro l
 induction l with
 |nil=>intro vs off sh q h;simp[AV.part.go] at h
 |cons x r ih=>
  intro vs off sh q h hc
  obtain⟨s,p⟩:=x
  obtain⟨v,us,rfl,h1,hf,h2,h3⟩:=hc.inv
  have hlen:v.cells.toList.length=s.size:=by rw[Array.length_toList,zai,h1]
  simp only[AV.part.go] at h
  split at h
  ·rename_i hh
   cases h
   obtain⟨rfl,rfl⟩:=hh
   refine⟨v,h1,hf,h2,?_⟩
   rw[zaa,List.drop_zero,<-hlen,List.take_left]
  ·split at h
   ·rename_i hlt
    obtain⟨u,k1,kf,k2,k3⟩:=ihd _ _ _ _ _ h h2
    refine⟨u,k1,kf,k2,?_⟩
    have hul:u.cells.toList.length=sh.size:=by rw[Array.length_toList,zai,k1]
    rw[zaa,List.drop_append_of_le_length (by omega),k3]
    have hle:sh.size<=(v.cells.toList.drop off).length:=by
     have:=congrArg List.length k3
     rw[hul,List.length_take] at this
     omega
    rw[List.take_append_of_le_length hle]
   ·rename_i hge
    obtain⟨u,k1,kf,k2,k3⟩:=ih us _ _ _ h h3
    refine⟨u,k1,kf,k2,?_⟩
    rw[k3,zaa,show off=v.cells.toList.length+(off - s.size) by omega,<-List.drop_drop,List.drop_left]
    congr 2
    omega
theorem zd3:∀(d:Nat) (p:AV) (off:Nat) (sh:Sh) (q:AV) (v:Value),AV.part d p off sh=some q->AR w X μ hp p v->∃u,vshp u=sh/\Flat u/\AR w X μ hp q u/\u.cells.toList=(v.cells.toList.drop off).take sh.size:=by
 intro d
 induction d with
 |zero=>intro p off sh q v h;simp[AV.part] at h
 |succ d ih=>
  intro p off sh q v h hp
  cases hp with
  |agg l vs hl h1 h2=>
   simp only[AV.part] at h
   have:=zgr d ih l vs off sh q h ⟨hl,h1,h2⟩
   simpa[Value.cells] using this
  |pv s p v hs hq=>
   simp only[AV.part] at h
   split at h
   ·rename_i q' hq'
    cases h
    obtain⟨u,k1,k2,k3⟩:=zdy _ _ _ _ _ _ hq' hq
    exact⟨u,k1,k2.flat,.pv _ _ _ k1 k2,k3⟩
   ·cases h
  |_=>simp[AV.part] at h
end Go.Am

/- The operations that look at no heap, run in the model: all together. -/
namespace Go.Am
variable{P:Program} {w:World} {X:Xc P} {μ:Nat->Option Nat} {hp:Heap}

theorem zdz{fr:Fr}{a:AArg}{vs:List AV}(h:fr.argsOf [a]=some vs):∃v,vs=[v]/\fr.arg a=some v:=by
 simp only[Fr.argsOf] at h
 split at h
 ·cases h
 ·rename_i v hv
  cases h
  exact⟨v,rfl,hv⟩
theorem zat{fr:Fr}{a:AArg}{r:List AArg}{vs:List AV}(h:fr.argsOf (a::r)=some vs):∃v us,vs=v::us/\fr.arg a=some v/\fr.argsOf r=some us:=by
 simp only[Fr.argsOf] at h
 split at h
 ·cases h
 ·rename_i v hv
  split at h
  ·rename_i us hu
   cases h
   exact⟨v,us,rfl,hv,hu⟩
  ·cases h
theorem zlE{fr:Fr}{vs:List AV}(h:fr.argsOf []=some vs):vs=[]:=by
 simp only[Fr.argsOf,Option.some.injEq] at h
 exact h.symm

def Yld(P:Program)(w:World)(X:Xc P)(μ:Nat->Option Nat)(hp:Heap)(s:Sem Next)(v:AV):Prop:=∃v',s.run P w=.ok (.value v') w/\AR w X μ hp v v'

theorem zbF{s:Sem Value}{v:AV}{v':Value}(h:s.run P w=.ok v' w)(ha:AR w X μ hp v v'):Yld P w X μ hp (do pure (.value (<-s))) v:=
 ⟨v',by simp[h],ha⟩

theorem zlF{c a b:Value}{vs:List AV}{v:AV}(hl:LR w X μ hp vs [c,a,b])(h:zjG vs=some v):Yld P w X μ hp (do pure (.value (if <-asBool c then a else b))) v:=by
 unfold zjG at h
 split at h
 ·rename_i s0 c0 x y
  cases h
  cases hl with|cons h1 r=>
  cases r with|cons h2 r=>
  cases r with|cons h3 r=>
  cases r
  rw[h1.bool_inv]
  cases c0
  ·exact⟨b,by simp[asBool],h3⟩
  ·exact⟨a,by simp[asBool],h2⟩
 ·cases h

theorem zm5{x:Value}{vs:List AV}{v:AV}(hl:LR w X μ hp vs [x])(h:sNot vs=some v):Yld P w X μ hp (do pure (.value (<-Op.unary .not x))) v:=by
 unfold sNot at h
 split at h
 ·cases h
  obtain⟨_,e,h1⟩:=hl.one
  cases e
  cases h1.bool_inv
  exact⟨_,by simp[Op.unary],.mkBool _⟩
 ·cases h
theorem zm6{x:Value}{vs:List AV}{v:AV}(hl:LR w X μ hp vs [x])(h:sNeg vs=some v):Yld P w X μ hp (do pure (.value (<-Op.unary .neg x))) v:=by
 unfold sNeg at h
 split at h
 ·cases h
  obtain⟨_,e,h1⟩:=hl.one
  cases e
  cases h1.int_inv
  exact⟨_,by simp[Op.unary,Op.intArith],.mkInt _ _⟩
 ·cases h

theorem zjO{t:TypeId}{fs:Array Field}{i:Nat}{f:Field}{x:Value}{vs:List AV}{v:AV}(ht:P.underlying t=some (.struct fs))(hf:fs[i]? =some f)(hok:okT P f.type=true)(hl:LR w X μ hp vs [x])
  (h:ze4 f.offset vs=some v):Yld P w X μ hp (do pure (.value (<-Instr.fieldAt t x i))) v:=by
 have hs:=za6 hok w
 have hp0:=zm3 hok
 have run:∀a:Addr,(Instr.fieldAt t (.pointer (some a)) i).run P w=.ok (.pointer (some (a.add f.offset))) w:=by
  intro a
  have hne:¬(shOf P f.type).size=0:=by omega
  simp[Instr.fieldAt,run_underlying ht,hf,Instr.sureAddr,fieldPlace,hs,hne]
 unfold ze4 at h
 split at h
 ·rename_i r o
  cases h
  obtain⟨_,e,h1⟩:=hl.one
  cases e
  cases h1 with
  |ptr _ _ b sh v ho hb=>exact⟨.pointer (some ((⟨b,o,none⟩:Addr).add f.offset)),by simp only[Sem.run_bind,run,Result.andThen_ok,Sem.run_pure],by rw[Addr.add_lit];exact .ptr _ _ b sh v ho hb⟩
 ·rename_i s p o1
  cases h
  obtain⟨_,e,h1⟩:=hl.one
  cases e
  cases h1 with
  |iptr sh p off b o cs t fr v hI hb hp' hs hc=>exact⟨.pointer (some ((⟨b,o+o1,none⟩:Addr).add f.offset)),by simp only[Sem.run_bind,run,Result.andThen_ok,Sem.run_pure],by rw[Addr.add_lit,Nat.add_assoc];exact .iptr _ _ _ b o cs t fr v hI hb hp' hs hc⟩
 ·cases h
  obtain⟨_,e,h1⟩:=hl.one
  cases e
  cases h1 with
  |eptr sh r ver i off a es fz ho hv hc=>
   refine⟨.pointer (some (a.add f.offset)),by simp only[Sem.run_bind,run,Result.andThen_ok,Sem.run_pure],.eptr _ _ _ _ _ _ es fz ho hv fun e=> ?_⟩
   obtain⟨c1,b,c2,rfl⟩:=hc e
   exact⟨c1,b,c2,by rw[Addr.add_lit,Nat.add_assoc]⟩
 ·cases h
  obtain⟨_,e,h1⟩:=hl.one
  cases e
  cases h1 with
  |epv sh r ver i off a n ho hv hc=>
   refine⟨.pointer (some (a.add f.offset)),by simp only[Sem.run_bind,run,Result.andThen_ok,Sem.run_pure],.epv _ _ _ _ _ _ n ho hv fun e=> ?_⟩
   obtain⟨c1,b,c2,rfl⟩:=hc e
   exact⟨c1,b,c2,by rw[Addr.add_lit,Nat.add_assoc]⟩
 ·cases h

theorem zcR{t e:TypeId}(ht:P.underlying t=some (.slice e))(hok:okT P e=true)(a:Addr)(len cap:Nat)(k:IntKind)(i:Int)(h0:0<=i)(h1:i<len)(w:World):
  (Instr.indexAt t (.slice (some a) len cap) (.int k i)).run P w=.ok (.pointer (some (a.add (i.toNat*(shOf P e).size)))) w:=by
 simp[Instr.indexAt,asIntOf,run_underlying ht,za6 hok,h0,h1]

theorem zjP{w:World}{I:Nat->Prop}{es:List PV}{vals:List Value}{sh:Sh}{cs:List Value}{o:Nat}(hl:es.length=vals.length)(h:∀(i:Nat) (p:PV) (v:Value),es[i]? =some p->vals[i]? =some v->vshp v=sh)
  (h':∀(i:Nat) (p:PV) (v:Value),es[i]? =some p->vals[i]? =some v->PR w I p v)(hc:cellsOf vals=(cs.drop o).take (es.length*sh.size))(i:Nat)(p:PV)(hi:es[i]? =some p):
  ∃v,vals[i]? =some v/\vshp v=sh/\PR w I p v/\v.cells.toList=(cs.drop (o+i*sh.size)).take sh.size:=by
 have hlt:i<es.length:=(List.getElem?_eq_some_iff.1 hi).1
 have hv:vals[i]? =some vals[i]:=List.getElem?_eq_getElem (by omega)
 refine⟨vals[i],hv,h i p _ hi hv,h' i p _ hi hv,?_⟩
 have hk:∀v∈vals,v.cells.size=sh.size:=by
  intro v hvm
  obtain⟨j,hj⟩:=List.mem_iff_getElem?.1 hvm
  have hjl:=(List.getElem?_eq_some_iff.1 hj).1
  rw[zai,h j es[j] v (List.getElem?_eq_getElem (by omega)) hj]
 have hg:=zeh hk i _ hv
 have hsz:vals[i].cells.toList.length=sh.size:=by rw[Array.length_toList];exact hk _ (List.getElem_mem _)
 rw[hc,List.drop_take,List.drop_drop] at hg
 have hg2:=congrArg (List.take sh.size) hg
 rw[List.take_take,List.take_left' hsz] at hg2
 rw[<-hg2]
 congr 1
 have:i*sh.size+sh.size<=es.length*sh.size:=by rw[<-Nat.succ_mul];exact Nat.mul_le_mul_right _ hlt
 omega

theorem zjQ{t e:TypeId}{x ix:Value}{vs:List AV}{v:AV}(ht:P.underlying t=some (.slice e))(hok:okT P e=true)(hl:LR w X μ hp vs [x,ix])
  (h:zcm (shOf P e) vs=some v):Yld P w X μ hp (do pure (.value (<-Instr.indexAt t x ix))) v:=by
 have ps:∀(s:Sh) (es:List PV) (k:IntKind) (i:Int),PR w (Im X μ hp) (.sl s es) x->ix=.int k i->(if 0<=i/\s=shOf P e then match es[i.toNat]? with
   |some p=>some (AV.iptr (shOf P e) p 0)
   |none=>none
  else none)=some v->Yld P w X μ hp (do pure (.value (<-Instr.indexAt t x ix))) v:=by
  intro s es k i hp hix h
  subst hix
  split at h
  ·rename_i hh
   obtain⟨h0,rfl⟩:=hh
   split at h
   ·rename_i p hi
    cases h
    have hlt:=(List.getElem?_eq_some_iff.1 hi).1
    cases hp with
    |nilsl=>simp at hi
    |sl sh es b o n cs t' fr vals hl' hI hb hs hs' hc hn=>
     obtain⟨u,k1,k2,k3,k4⟩:=zjP hl' hs hs' hc _ _ hi
     refine⟨.pointer (some ((⟨b,o,none⟩:Addr).add (i.toNat*(shOf P e).size))),by simp only[Sem.run_bind,zcR ht hok _ _ _ _ _ h0 (by omega:i<(es.length:Int)),Result.andThen_ok,Sem.run_pure],?_⟩
     rw[Addr.add_lit]
     exact .iptr _ p 0 b _ cs t' fr u hI hb k3 k2 k4
   ·cases h
  ·cases h
 unfold zcm at h
 split at h
 ·rename_i s sh k i
  obtain⟨x',ix',e0,h1,h2⟩:=hl.two
  cases e0
  have hix:=h2.int_inv
  unfold aindex at h
  split at h
  ·rename_i _ s' es
   cases h1 with
   |pv _ _ _ _ hq=>exact ps s' es k i hq hix h
  ·rename_i s' es
   cases h1 with
   |tsl _ _ a hq=>exact ps s' es k i hq hix h
  ·rename_i s r ver off len
   subst hix
   split at h
   ·rename_i hh
    cases h
    obtain⟨h0,h1',rfl⟩:=hh
    cases h1 with
    |sl sh r ver off len a cap es fz ho hv hlc ha hc=>
     have hcap:cap≠0:=by omega
     obtain⟨a,rfl⟩:=Option.isSome_iff_exists.1 (ha hcap)
     refine⟨.pointer (some (a.add (i.toNat*(shOf P e).size))),by simp only[Sem.run_bind,zcR ht hok _ _ _ _ _ h0 h1',Result.andThen_ok,Sem.run_pure],.eptr _ r ver _ 0 _ es fz ho hv fun e=> ?_⟩
     obtain⟨c1,c2⟩:=hc e
     refine⟨by omega,?_⟩
     rcases c2 with⟨_,c3⟩|⟨b,cs,t,c3,c4,c5,c6⟩
     ·exact absurd c3 hcap
     ·refine⟨b,c3,?_⟩
      have:=c6 hcap
      cases this
      rw[Addr.add_lit,Nat.add_mul]
      rfl
   ·cases h
  ·rename_i s r ver off len
   subst hix
   split at h
   ·rename_i hh
    cases h
    obtain⟨h0,h1',rfl⟩:=hh
    cases h1 with
    |slv sh r ver off len a cap n ho hv hlc ha hc=>
     have hcap:cap≠0:=by omega
     obtain⟨a,rfl⟩:=Option.isSome_iff_exists.1 (ha hcap)
     refine⟨.pointer (some (a.add (i.toNat*(shOf P e).size))),by simp only[Sem.run_bind,zcR ht hok _ _ _ _ _ h0 h1',Result.andThen_ok,Sem.run_pure],.epv _ r ver _ 0 _ n ho hv fun e=> ?_⟩
     obtain⟨c1,b,cs,t,c3,c4,c5,c6⟩:=hc e
     refine⟨by omega,b,c3,?_⟩
     have:=c6 hcap
     cases this
     rw[Addr.add_lit,Nat.add_mul]
     rfl
   ·cases h
  ·cases h
 ·cases h
end Go.Am

/- Arrays and maps of the run's own: how the relation goes on; values made free of references. -/
namespace Go.Am
variable{P:Program} {w:World} {X:Xc P} {μ:Nat->Option Nat} {hp:Heap}

theorem Ext.setArr{b0 r:Nat}{sh:Sh}{es es':List PV}{fz fz':Bool}{nb:Option Nat}{w':World}(hr:hp[r]? =some (.arr sh es fz))(hlen:es.length<=es'.length)(hfz:fz=true->fz'=true/\es'=es)(heq:es'.length=es.length->nb=μ r)
  (hnb:∀b,nb=some b->μ r=some b\/w.heap.size<=b)(hos:w'.os=w.os)(ht:w'.tape=w.tape)(ho:w'.output=w.output)(hsz:w.heap.size<=w'.heap.size)
  (hblk:∀k,k<w.heap.size->(fz=false->μ r≠some k)->w'.heap[k]? =w.heap[k]?)(hsh:∀(k:Nat) (cs:Array Value) (t:TypeId) (fr:Nat × Nat),w.heap[k]? =some (Obj.cells cs t fr)->∃cs':Array Value,w'.heap[k]? =some (Obj.cells cs' t fr)/\cs'.size=cs.size):
  Ext b0 X μ hp w (upd μ r nb) (hp.set r (.arr sh es' fz')) w' where
 os:=hos
 tape:=ht
 output:=ho
 size:=hsz
 blk k hk hm:=hblk k hk fun e=>hm r (by subst e;simp[Am.live,hr])
 shape:=hsh
 len:=by simp
 box i s u hi:=by
  have e:i≠r:=by rintro rfl;rw[hr] at hi;cases hi
  exact⟨u,by rw[List.getElem?_set_ne (Ne.symm e)];exact hi,zav e,fun _ _ h=>h⟩
 arr i s es1 fz1 hi:=by
  by_cases e:i=r
  ·subst e
   rw[hr] at hi
   cases hi
   exact⟨es',fz',by rw[List.getElem?_set_self (List.getElem?_eq_some_iff.1 hr).1],hlen,hfz,fun e=>by rw[zaf];exact heq e⟩
  ·exact⟨es1,fz1,by rw[List.getElem?_set_ne (Ne.symm e)];exact hi,Nat.le_refl _,fun e=>⟨e,rfl⟩,fun _=>zav e⟩
 map i s es hi:=by
  have e:i≠r:=by rintro rfl;rw[hr] at hi;cases hi
  exact⟨es,by rw[List.getElem?_set_ne (Ne.symm e)];exact hi,zav e⟩
 loop i f ps env bz hi:=by
  have e:i≠r:=by rintro rfl;rw[hr] at hi;cases hi
  exact⟨bz,by rw[List.getElem?_set_ne (Ne.symm e)];exact hi,zav e⟩
 arv i s es1 hi:=by
  have e:i≠r:=by rintro rfl;rw[hr] at hi;cases hi
  have e2:(hp.set r (.arr sh es' fz'))[i]? =some (.arv s es1):=by rw[List.getElem?_set_ne (Ne.symm e)];exact hi
  exact⟨es1.length,by rw[e2];rfl,Nat.le_refl _,fun _=>zav e,fun es' h' _=>by rw[e2] at h';cases h';exact fun _ h=>h⟩
 new i h1 h2:=by simp at h2;omega
 mov i hi b hb:=by
  by_cases e:i=r
  ·subst e;rw[zaf] at hb;exact hnb b hb
  ·rw[zav e] at hb;exact .inl hb

theorem HR.setArr{r:Nat}{sh:Sh}{es es':List PV}{fz fz':Bool}{nb:Option Nat}{w':World}(h:HR w X μ hp)(hr:hp[r]? =some (.arr sh es fz))(E:Ext 0 X μ hp w (upd μ r nb) (hp.set r (.arr sh es' fz')) w')
  (hoth:∀k,k<w.heap.size->μ r≠some k->w'.heap[k]? =w.heap[k]?)
  (hnb:∀b,nb=some b->(μ r=some b\/w.heap.size<=b)/\b<w'.heap.size)
  (hc:(nb=none/\es'=[])\/∃b cs t vals,nb=some b/\w'.heap[b]? =some (.cells cs t (0,0))/\es'.length=vals.length/\
   (∀(k:Nat) (p:PV) (v:Value),es'[k]? =some p->vals[k]? =some v->vshp v=sh/\PR w' (Im X (upd μ r nb) (hp.set r (.arr sh es' fz'))) p v)/\cellsOf vals=cs.toList.take (es'.length*sh.size)):
  HR w' X (upd μ r nb) (hp.set r (.arr sh es' fz')):=by
 have hlen:(hp.set r (.arr sh es' fz')).length=hp.length:=by simp
 have hrl:=(List.getElem?_eq_some_iff.1 hr).1
 have other:∀i k,i<hp.length->i≠r->μ i=some k->w'.heap[k]? =w.heap[k]? :=fun i k hi hne hk=>hoth k (h.out i k hi hk).2 fun e=>hne (h.inj i r k hi hrl hk e)
 refine⟨?_,?_,?_,?_,?_,?_,?_,?_⟩
 ·intro i j k hi hj h1 h2
  rw[hlen] at hi hj
  by_cases ei:i=r <;> by_cases ej:j=r
  ·rw[ei,ej]
  ·subst ei
   rw[zaf] at h1;rw[zav ej] at h2
   rcases(hnb k h1).1 with e|e
   ·exact h.inj i j k hi hj e h2
   ·have:=(h.out j k hj h2).2;omega
  ·subst ej
   rw[zav ei] at h1;rw[zaf] at h2
   rcases(hnb k h2).1 with e|e
   ·exact h.inj i j k hi hj h1 e
   ·have:=(h.out i k hi h1).2;omega
  ·rw[zav ei] at h1;rw[zav ej] at h2
   exact h.inj i j k hi hj h1 h2
 ·intro i k hi hk
  rw[hlen] at hi
  by_cases ei:i=r
  ·subst ei
   rw[zaf] at hk
   refine⟨fun hx=> ?_,(hnb k hk).2⟩
   rcases(hnb k hk).1 with e|e
   ·exact(h.out i k hi e).1 hx
   ·have:=h.xlt k hx;omega
  ·rw[zav ei] at hk
   exact⟨(h.out i k hi hk).1,Nat.lt_of_lt_of_le (h.out i k hi hk).2 E.size⟩
 ·exact fun k hx=>Nat.lt_of_lt_of_le (h.xlt k hx) E.size
 ·intro i s u hi
  rcases zaV hi with⟨rfl,e⟩|⟨hne,hi⟩
  ·cases e
  ·obtain⟨k,val,t,k1,k2,k3,k4,k5⟩:=h.box i s u hi
   exact⟨k,val,t,by rw[zav hne];exact k1,by rw[other i k (List.getElem?_eq_some_iff.1 hi).1 hne k1];exact k2,k3,k4,E.ar k5⟩
 ·intro i s es1 fz1 hi
  rcases zaV hi with⟨rfl,e⟩|⟨hne,hi⟩
  ·cases e
   exact⟨(h.arr i sh es fz hr).1,by rw[zaf];exact hc⟩
  ·obtain⟨k0,k1⟩:=h.arr i s es1 fz1 hi
   refine⟨k0,?_⟩
   rcases k1 with k1|⟨k,cs,t,vals,k1,k2,k3,k4,k5⟩
   ·exact .inl ⟨by rw[zav hne];exact k1.1,k1.2⟩
   ·exact .inr ⟨k,cs,t,vals,by rw[zav hne];exact k1,by rw[other i k (List.getElem?_eq_some_iff.1 hi).1 hne k1];exact k2,k3,fun j p v hj hv=>⟨(k4 j p v hj hv).1,E.pr (k4 j p v hj hv).2⟩,k5⟩
 ·intro i s es1 hi
  rcases zaV hi with⟨rfl,e⟩|⟨hne,hi⟩
  ·cases e
  ·obtain⟨k,ents,clock,k1,k2,k3,k4⟩:=h.map i s es1 hi
   exact⟨k,ents,clock,by rw[zav hne];exact k1,by rw[other i k (List.getElem?_eq_some_iff.1 hi).1 hne k1];exact k2,k3,fun j x y hj hy=>⟨E.pr (k4 j x y hj hy).1,E.pr (k4 j x y hj hy).2.1,(k4 j x y hj hy).2.2⟩⟩
 ·intro i f ps env bz hi
  rcases zaV hi with⟨rfl,e⟩|⟨hne,hi⟩
  ·cases e
  ·obtain⟨l,rc,k1,k2,k3,k4,k5,k6,k7⟩:=h.loop i f ps env bz hi
   exact⟨l,rc,by rw[zav hne];exact k1,by rw[other i l (List.getElem?_eq_some_iff.1 hi).1 hne k1];exact k2,k3,k4,k5,k6,fun x hx=>⟨(k7 x hx).1,E.ar (k7 x hx).2⟩⟩
 ·intro i s es1 hi
  rcases zaV hi with⟨rfl,e⟩|⟨hne,hi⟩
  ·cases e
  ·obtain⟨h0,k,cs,t,vals,k1,k2,k3,k4,k5⟩:=h.arv i s es1 hi
   exact⟨h0,k,cs,t,vals,by rw[zav hne];exact k1,by rw[other i k (List.getElem?_eq_some_iff.1 hi).1 hne k1];exact k2,k3,fun j p v hj hv=>⟨(k4 j p v hj hv).1,E.ar (k4 j p v hj hv).2⟩,k5⟩

theorem Ext.setArv{b0 r:Nat}{sh:Sh}{es:List AV}{o:AObj}{n:Nat}{nb:Option Nat}{w':World}(hr:hp[r]? =some (.arv sh es))(ho':zck (some o)=some (sh,n))(hlen:es.length<=n)(heq:n=es.length->nb=μ r)
  (hq:∀es',o=.arv sh es'->r<b0->∀q∈AV.refsIn.gol es',q∈AV.refsIn.gol es)
  (hnb:∀b,nb=some b->μ r=some b\/w.heap.size<=b)(hos:w'.os=w.os)(ht:w'.tape=w.tape)(ho:w'.output=w.output)(hsz:w.heap.size<=w'.heap.size)
  (hblk:∀k,k<w.heap.size->μ r≠some k->w'.heap[k]? =w.heap[k]?)(hsh:∀(k:Nat) (cs:Array Value) (t:TypeId) (fr:Nat × Nat),w.heap[k]? =some (Obj.cells cs t fr)->∃cs':Array Value,w'.heap[k]? =some (Obj.cells cs' t fr)/\cs'.size=cs.size):
  Ext b0 X μ hp w (upd μ r nb) (hp.set r o) w' where
 os:=hos
 tape:=ht
 output:=ho
 size:=hsz
 blk k hk hm:=hblk k hk (hm r (by simp[Am.live,hr]))
 shape:=hsh
 len:=by simp
 box i s u hi:=by
  have e:i≠r:=by rintro rfl;rw[hr] at hi;cases hi
  exact⟨u,by rw[List.getElem?_set_ne (Ne.symm e)];exact hi,zav e,fun _ _ h=>h⟩
 arr i s es1 fz1 hi:=by
  have e:i≠r:=by rintro rfl;rw[hr] at hi;cases hi
  exact⟨es1,fz1,by rw[List.getElem?_set_ne (Ne.symm e)];exact hi,Nat.le_refl _,fun e=>⟨e,rfl⟩,fun _=>zav e⟩
 map i s es hi:=by
  have e:i≠r:=by rintro rfl;rw[hr] at hi;cases hi
  exact⟨es,by rw[List.getElem?_set_ne (Ne.symm e)];exact hi,zav e⟩
 loop i f ps env bz hi:=by
  have e:i≠r:=by rintro rfl;rw[hr] at hi;cases hi
  exact⟨bz,by rw[List.getElem?_set_ne (Ne.symm e)];exact hi,zav e⟩
 arv i s es1 hi:=by
  by_cases e:i=r
  ·subst e
   rw[hr] at hi
   cases hi
   have e2:(hp.set i o)[i]? =some o:=List.getElem?_set_self (List.getElem?_eq_some_iff.1 hr).1
   exact⟨n,by rw[e2];exact ho',hlen,fun e=>by rw[zaf];exact heq e,fun es' h'=>by rw[e2] at h';cases h';exact fun hi=>hq es' rfl hi.1⟩
  ·have e2:(hp.set r o)[i]? =some (.arv s es1):=by rw[List.getElem?_set_ne (Ne.symm e)];exact hi
   exact⟨es1.length,by rw[e2];rfl,Nat.le_refl _,fun _=>zav e,fun es' h' _=>by rw[e2] at h';cases h';exact fun _ h=>h⟩
 new i h1 h2:=by simp at h2;omega
 mov i hi b hb:=by
  by_cases e:i=r
  ·subst e;rw[zaf] at hb;exact hnb b hb
  ·rw[zav e] at hb;exact .inl hb

theorem HR.setArv{r:Nat}{sh:Sh}{es:List AV}{o:AObj}{nb:Option Nat}{w':World}(h:HR w X μ hp)(hr:hp[r]? =some (.arv sh es))(E:Ext 0 X μ hp w (upd μ r nb) (hp.set r o) w')
  (hoth:∀k,k<w.heap.size->μ r≠some k->w'.heap[k]? =w.heap[k]?)
  (hnb:∀b,nb=some b->(μ r=some b\/w.heap.size<=b)/\b<w'.heap.size)
  (hc:(∃es' b cs t vals,o=.arv sh es'/\nb=some b/\w'.heap[b]? =some (.cells cs t (0,0))/\es'.length=vals.length/\
   (∀(k:Nat) (a:AV) (v:Value),es'[k]? =some a->vals[k]? =some v->(vshp v=sh/\Flat v)/\AR w' X (upd μ r nb) (hp.set r o) a v)/\cellsOf vals=cs.toList.take (es'.length*sh.size))\/
   ∃es' fz b cs t vals,o=.arr sh es' fz/\nb=some b/\w'.heap[b]? =some (.cells cs t (0,0))/\es'.length=vals.length/\
   (∀(k:Nat) (p:PV) (v:Value),es'[k]? =some p->vals[k]? =some v->vshp v=sh/\PR w' (Im X (upd μ r nb) (hp.set r o)) p v)/\cellsOf vals=cs.toList.take (es'.length*sh.size)):
  HR w' X (upd μ r nb) (hp.set r o):=by
 have hlen:(hp.set r o).length=hp.length:=by simp
 have hrl:=(List.getElem?_eq_some_iff.1 hr).1
 have hpos:=(h.arv r sh es hr).1
 have other:∀i k,i<hp.length->i≠r->μ i=some k->w'.heap[k]? =w.heap[k]? :=fun i k hi hne hk=>hoth k (h.out i k hi hk).2 fun e=>hne (h.inj i r k hi hrl hk e)
 refine⟨?_,?_,?_,?_,?_,?_,?_,?_⟩
 ·intro i j k hi hj h1 h2
  rw[hlen] at hi hj
  by_cases ei:i=r <;> by_cases ej:j=r
  ·rw[ei,ej]
  ·subst ei
   rw[zaf] at h1;rw[zav ej] at h2
   rcases(hnb k h1).1 with e|e
   ·exact h.inj i j k hi hj e h2
   ·have:=(h.out j k hj h2).2;omega
  ·subst ej
   rw[zav ei] at h1;rw[zaf] at h2
   rcases(hnb k h2).1 with e|e
   ·exact h.inj i j k hi hj h1 e
   ·have:=(h.out i k hi h1).2;omega
  ·rw[zav ei] at h1;rw[zav ej] at h2
   exact h.inj i j k hi hj h1 h2
 ·intro i k hi hk
  rw[hlen] at hi
  by_cases ei:i=r
  ·subst ei
   rw[zaf] at hk
   refine⟨fun hx=> ?_,(hnb k hk).2⟩
   rcases(hnb k hk).1 with e|e
   ·exact(h.out i k hi e).1 hx
   ·have:=h.xlt k hx;omega
  ·rw[zav ei] at hk
   exact⟨(h.out i k hi hk).1,Nat.lt_of_lt_of_le (h.out i k hi hk).2 E.size⟩
 ·exact fun k hx=>Nat.lt_of_lt_of_le (h.xlt k hx) E.size
 ·intro i s u hi
  rcases zaV hi with⟨rfl,e⟩|⟨hne,hi⟩
  ·rcases hc with⟨_,_,_,_,_,e2,_⟩|⟨_,_,_,_,_,_,e2,_⟩ <;> rw[e2] at e <;> cases e
  ·obtain⟨k,val,t,k1,k2,k3,k4,k5⟩:=h.box i s u hi
   exact⟨k,val,t,by rw[zav hne];exact k1,by rw[other i k (List.getElem?_eq_some_iff.1 hi).1 hne k1];exact k2,k3,k4,E.ar k5⟩
 ·intro i s es1 fz1 hi
  rcases zaV hi with⟨rfl,e⟩|⟨hne,hi⟩
  ·rcases hc with⟨_,_,_,_,_,e2,_⟩|⟨es',fz,b,cs,t,vals,e2,g1,g2⟩
   ·rw[e2] at e;cases e
   ·rw[e2] at e;cases e
    exact⟨hpos,.inr ⟨b,cs,t,vals,by rw[zaf];exact g1,g2⟩⟩
  ·obtain⟨k0,k1⟩:=h.arr i s es1 fz1 hi
   refine⟨k0,?_⟩
   rcases k1 with k1|⟨k,cs,t,vals,k1,k2,k3,k4,k5⟩
   ·exact .inl ⟨by rw[zav hne];exact k1.1,k1.2⟩
   ·exact .inr ⟨k,cs,t,vals,by rw[zav hne];exact k1,by rw[other i k (List.getElem?_eq_some_iff.1 hi).1 hne k1];exact k2,k3,fun j p v hj hv=>⟨(k4 j p v hj hv).1,E.pr (k4 j p v hj hv).2⟩,k5⟩
 ·intro i s es1 hi
  rcases zaV hi with⟨rfl,e⟩|⟨hne,hi⟩
  ·rcases hc with⟨_,_,_,_,_,e2,_⟩|⟨_,_,_,_,_,_,e2,_⟩ <;> rw[e2] at e <;> cases e
  ·obtain⟨k,ents,clock,k1,k2,k3,k4⟩:=h.map i s es1 hi
   exact⟨k,ents,clock,by rw[zav hne];exact k1,by rw[other i k (List.getElem?_eq_some_iff.1 hi).1 hne k1];exact k2,k3,fun j x y hj hy=>⟨E.pr (k4 j x y hj hy).1,E.pr (k4 j x y hj hy).2.1,(k4 j x y hj hy).2.2⟩⟩
 ·intro i f ps env bz hi
  rcases zaV hi with⟨rfl,e⟩|⟨hne,hi⟩
  ·rcases hc with⟨_,_,_,_,_,e2,_⟩|⟨_,_,_,_,_,_,e2,_⟩ <;> rw[e2] at e <;> cases e
  ·obtain⟨l,rc,k1,k2,k3,k4,k5,k6,k7⟩:=h.loop i f ps env bz hi
   exact⟨l,rc,by rw[zav hne];exact k1,by rw[other i l (List.getElem?_eq_some_iff.1 hi).1 hne k1];exact k2,k3,k4,k5,k6,fun x hx=>⟨(k7 x hx).1,E.ar (k7 x hx).2⟩⟩
 ·intro i s es1 hi
  rcases zaV hi with⟨rfl,e⟩|⟨hne,hi⟩
  ·rcases hc with⟨es',b,cs,t,vals,e2,g1,g2⟩|⟨_,_,_,_,_,_,e2,_⟩
   ·rw[e2] at e;cases e
    exact⟨hpos,b,cs,t,vals,by rw[zaf];exact g1,g2⟩
   ·rw[e2] at e;cases e
  ·obtain⟨h0,k,cs,t,vals,k1,k2,k3,k4,k5⟩:=h.arv i s es1 hi
   exact⟨h0,k,cs,t,vals,by rw[zav hne];exact k1,by rw[other i k (List.getElem?_eq_some_iff.1 hi).1 hne k1];exact k2,k3,fun j p v hj hv=>⟨(k4 j p v hj hv).1,E.ar (k4 j p v hj hv).2⟩,k5⟩

theorem zbf(μ:Nat->Option Nat)(r:Nat):upd μ r (μ r)=μ:=by
 funext i
 unfold upd
 split
 ·rename_i e;rw[e]
 ·rfl

theorem zgI(b0:Nat){r:Nat}{sh:Sh}{es:List PV}{fz:Bool}(h:HR w X μ hp)(hr:hp[r]? =some (.arr sh es fz)):Ext b0 X μ hp w μ (hp.set r (.arr sh es true)) w/\HR w X μ (hp.set r (.arr sh es true)):=by
 have hE:∀b0,Ext b0 X μ hp w (upd μ r (μ r)) (hp.set r (.arr sh es true)) w:=fun b0=>
  Ext.setArr hr (Nat.le_refl _) (fun _=>⟨rfl,rfl⟩) (fun _=>rfl) (fun b hb=>.inl hb) rfl rfl rfl (Nat.le_refl _) (fun _ _ _=>rfl) (fun k cs t fr hk=>⟨cs,hk,rfl⟩)
 have hrl:=(List.getElem?_eq_some_iff.1 hr).1
 have hH:HR w X (upd μ r (μ r)) (hp.set r (.arr sh es true)):=by
  refine h.setArr hr (hE 0) (fun _ _ _=>rfl) (fun b hb=>⟨.inl hb,(h.out r b hrl hb).2⟩) ?_
  rcases(h.arr r sh es fz hr).2 with h1|⟨b,cs,t,vals,h1,h2,h3,h4,h5⟩
  ·exact .inl h1
  ·exact .inr ⟨b,cs,t,vals,h1,h2,h3,fun k p v hk hv=>⟨(h4 k p v hk hv).1,(hE 0).pr (h4 k p v hk hv).2⟩,h5⟩
 rw[zbf] at hH
 have hE':=hE b0
 rw[zbf] at hE'
 exact⟨hE',hH⟩

theorem zbG{es:List PV}{vals:List Value}{sh:Sh}(hl:es.length=vals.length)(h:∀(i:Nat) (p:PV) (v:Value),es[i]? =some p->vals[i]? =some v->vshp v=sh)(a b:Nat)(hab:a+b<=es.length):
  cellsOf ((vals.drop a).take b)=((cellsOf vals).drop (a*sh.size)).take (b*sh.size):=by
 have key:∀(l:List Value),(∀v∈l,v.cells.size=sh.size)->∀n,n<=l.length->cellsOf (l.take n)=(cellsOf l).take (n*sh.size)/\cellsOf (l.drop n)=(cellsOf l).drop (n*sh.size):=by
  intro l
  induction l with
  |nil=>intro _ n hn;simp at hn;subst hn;simp[cellsOf]
  |cons v r ih=>
   intro hk n hn
   cases n with
   |zero=>simp[cellsOf]
   |succ n=>
    obtain⟨h1,h2⟩:=ih (fun v hv=>hk v (by simp[hv])) n (by simpa using hn)
    have hv:v.cells.toList.length=sh.size:=by rw[Array.length_toList];exact hk v (by simp)
    have e:(n+1)*sh.size=v.cells.toList.length+n*sh.size:=by rw[hv,Nat.add_mul];omega
    constructor
    ·rw[List.take_succ_cons,zaa,zaa,e,List.take_length_add_append,h1]
    ·rw[List.drop_succ_cons,zaa,e,<-List.drop_drop,List.drop_left,h2]
 have hk:∀v∈vals,v.cells.size=sh.size:=by
  intro v hvm
  obtain⟨j,hj⟩:=List.mem_iff_getElem?.1 hvm
  have hjl:=(List.getElem?_eq_some_iff.1 hj).1
  rw[zai,h j es[j] v (List.getElem?_eq_getElem (by omega)) hj]
 have h1:=(key vals hk a (by omega)).2
 have h2:=(key (vals.drop a) (fun v hv=>hk v (List.mem_of_mem_drop hv)) b (by simp;omega)).1
 rw[h2,h1]

theorem zhr{w:World}{I:Nat->Prop}{sh:Sh}{es:List PV}{b:Nat}{cs:Array Value}{t:TypeId}{vals:List Value}(hI:I b)(hb:w.heap[b]? =some (.cells cs t (0,0)))(hl:es.length=vals.length)
  (h:∀(k:Nat) (p:PV) (v:Value),es[k]? =some p->vals[k]? =some v->vshp v=sh/\PR w I p v)(hc:cellsOf vals=cs.toList.take (es.length*sh.size))(off len cap:Nat)(a:Option Addr)(hle:off+len<=es.length)(hlc:len<=cap)(ha:cap≠0->a=some ⟨b,off*sh.size,none⟩):
  PR w I (.sl sh ((es.drop off).take len)) (.slice a len cap):=by
 have hlen:((es.drop off).take len).length=len:=by simp;omega
 by_cases h0:len=0
 ·subst h0
  simp only[List.take_zero]
  exact .nilsl _ _ _
 ·have:=ha (by omega)
  subst this
  have hp:∀(i:Nat) (p:PV) (v:Value),((es.drop off).take len)[i]? =some p->((vals.drop off).take len)[i]? =some v->vshp v=sh/\PR w I p v:=by
   intro i p v hi hv
   have hil:i<len:=by have:=(List.getElem?_eq_some_iff.1 hi).1;omega
   rw[List.getElem?_take_of_lt hil,List.getElem?_drop] at hi hv
   exact h (off+i) p v hi hv
  have key:=PR.sl (w:=w) (I:=I) sh ((es.drop off).take len) b (off*sh.size) cap cs t (0,0) ((vals.drop off).take len) (by simp;omega) hI hb (fun i p v hi hv=>(hp i p v hi hv).1) (fun i p v hi hv=>(hp i p v hi hv).2) ?_ (by omega)
  ·rw[hlen] at key
   exact key
  ·rw[zbG hl (fun i p v hi hv=>(h i p v hi hv).1) off len hle,hc,hlen,List.drop_take,List.take_take]
   congr 1
   have:off*sh.size+len*sh.size<=es.length*sh.size:=by rw[<-Nat.add_mul];exact Nat.mul_le_mul_right _ hle
   omega

theorem zhs(b0:Nat)(w:World)(X:Xc P)(μ:Nat->Option Nat):∀(d:Nat) (a:AV) (hp:Heap) (p:PV) (hp':Heap) (v:Value),AV.freeze0 d a hp=some (p,hp')->HR w X μ hp->AR w X μ hp a v->
  Ext b0 X μ hp w μ hp' w/\HR w X μ hp'/\PR w (Im X μ hp') p v:=by
 intro d
 induction d with
 |zero=>intro a hp p hp' v h;simp[AV.freeze0] at h
 |succ d ih=>
  have go:∀(l:List (Sh × AV)) (hp:Heap) (ps:List (Sh × PV)) (hp':Heap) (vs:List Value),AV.freeze0.go d l hp=some (ps,hp')->HR w X μ hp->CR w X μ hp l vs->
    Ext b0 X μ hp w μ hp' w/\HR w X μ hp'/\CP w (Im X μ hp') ps vs:=by
   intro l
   induction l with
   |nil=>
    intro hp ps hp' vs h hH hc
    simp only[AV.freeze0.go,Option.some.injEq,Prod.mk.injEq] at h
    obtain⟨rfl,rfl⟩:=h
    rw[hc.nil_inv]
    exact⟨Ext.refl _ _ _ _ _,hH,CP.nil⟩
   |cons x r ihl=>
    intro hp ps hp' vs h hH hc
    obtain⟨s,a⟩:=x
    obtain⟨v,us,rfl,h1,_,h2,h3⟩:=hc.inv
    simp only[AV.freeze0.go] at h
    split at h
    ·cases h
    ·rename_i p hp1 hf
     split at h
     ·rename_i ps' hp2 hg
      cases h
      obtain⟨e1,k1,k2⟩:=ih _ _ _ _ _ hf hH h2
      have h3':CR w X μ hp1 r us:=⟨h3.1,h3.2.1,fun i x v hx hv=>e1.ar (h3.2.2 i x v hx hv)⟩
      obtain⟨e2,k3,k4⟩:=ihl _ _ _ _ hg k1 h3'
      exact⟨e1.trans e2,k3,CP.cons h1 (e2.pr k2) k4⟩
     ·cases h
  intro a hp p hp' v h hH ha
  cases ha with
  |undef=>simp[AV.freeze0] at h
  |pv sh q v hs hq=>
   simp only[AV.freeze0,Option.some.injEq,Prod.mk.injEq] at h
   obtain⟨rfl,rfl⟩:=h
   exact⟨Ext.refl _ _ _ _ _,hH,hq⟩
  |tsl sh es a hq=>
   simp only[AV.freeze0,Option.some.injEq,Prod.mk.injEq] at h
   obtain⟨rfl,rfl⟩:=h
   exact⟨Ext.refl _ _ _ _ _,hH,hq⟩
  |agg l vs hl hs hs'=>
   simp only[AV.freeze0] at h
   split at h
   ·rename_i ps hp1 hg
    cases h
    obtain⟨e,k1,k2⟩:=go _ _ _ _ vs hg hH ⟨hl,hs,hs'⟩
    exact⟨e,k1,k2.agg⟩
   ·cases h
  |sl sh r ver off len a cap es fz ho hv hlc hac hc=>
   simp only[AV.freeze0,ho] at h
   obtain⟨e,hH'⟩:=zgI b0 hH ho
   have hrl:=(List.getElem?_eq_some_iff.1 ho).1
   have ho':(hp.set r (.arr sh es true))[r]? =some (.arr sh es true):=by rw[List.getElem?_set_self hrl]
   have main:ver=es.length->off+len<=es.length->PR w (Im X μ (hp.set r (.arr sh es true))) (.sl sh ((es.drop off).take len)) (.slice a len cap):=by
    intro e1 e2
    obtain⟨_,hc2⟩:=hc e1
    rcases(hH'.arr r sh es true ho').2 with⟨h1,rfl⟩|⟨b,cs,t,vals,h1,h2,h3,h4,h5⟩
    ·have:len=0:=by simp at e2;omega
     subst this
     simp only[List.drop_nil,List.take_nil]
     exact .nilsl _ _ _
    ·rcases hc2 with⟨c1,_⟩|⟨b',cs',t',c1,c2,c3,c4⟩
     ·rw[h1] at c1;cases c1
     ·rw[h1] at c1
      cases c1
      refine zhr ?_ h2 h3 h4 h5 off len cap a e2 hlc.1 c4
      refine⟨(hH'.out r b (by simpa using hrl) h1).1,fun i hl e=> ?_⟩
      have hil:=zbv hl
      have:=hH'.inj i r b hil (by simpa using hrl) e h1
      subst this
      simp[live,ho'] at hl
   split at h
   ·rename_i hh
    cases h
    obtain⟨e1,rfl,rfl⟩:=hh
    have:=main e1 (by omega)
    simp at this
    exact⟨e,hH',this⟩
   ·split at h
    ·rename_i hh
     cases h
     exact⟨e,hH',main hh.1 hh.2⟩
    ·cases h
  |nilv sh=>
   simp only[AV.freeze0,Option.some.injEq,Prod.mk.injEq] at h
   obtain⟨rfl,rfl⟩:=h
   exact⟨Ext.refl _ _ _ _ _,hH,.nilsl _ _ _⟩
  |_=>simp[AV.freeze0] at h
theorem zfx(b0:Nat)(w:World)(X:Xc P)(μ:Nat->Option Nat)(d:Nat):∀(l:List (Sh × AV)) (hp:Heap) (ps:List (Sh × PV)) (hp':Heap) (vs:List Value),AV.freeze0.go d l hp=some (ps,hp')->HR w X μ hp->CR w X μ hp l vs->
  Ext b0 X μ hp w μ hp' w/\HR w X μ hp'/\CP w (Im X μ hp') ps vs:=by
 intro l
 induction l with
 |nil=>
  intro hp ps hp' vs h hH hc
  simp only[AV.freeze0.go,Option.some.injEq,Prod.mk.injEq] at h
  obtain⟨rfl,rfl⟩:=h
  rw[hc.nil_inv]
  exact⟨Ext.refl _ _ _ _ _,hH,CP.nil⟩
 |cons x r ihl=>
  intro hp ps hp' vs h hH hc
  obtain⟨s,a⟩:=x
  obtain⟨v,us,rfl,h1,_,h2,h3⟩:=hc.inv
  simp only[AV.freeze0.go] at h
  split at h
  ·cases h
  ·rename_i p hp1 hf
   split at h
   ·rename_i ps' hp2 hg
    cases h
    obtain⟨e1,k1,k2⟩:=zhs b0 w X μ d _ _ _ _ _ hf hH h2
    have h3':CR w X μ hp1 r us:=⟨h3.1,h3.2.1,fun i x v hx hv=>e1.ar (h3.2.2 i x v hx hv)⟩
    obtain⟨e2,k3,k4⟩:=ihl _ _ _ _ hg k1 h3'
    exact⟨e1.trans e2,k3,CP.cons h1 (e2.pr k2) k4⟩
   ·cases h

theorem zaR(b0:Nat)(w:World)(X:Xc P)(μ:Nat->Option Nat):∀(d:Nat) (a:AV) (hp:Heap) (p:PV) (hp':Heap) (v:Value),AV.freeze d a hp=some (p,hp')->HR w X μ hp->AR w X μ hp a v->
  Ext b0 X μ hp w μ hp' w/\HR w X μ hp'/\PR w (Im X μ hp') p v:=by
 intro d
 induction d with
 |zero=>intro a hp p hp' v h;simp[AV.freeze] at h
 |succ d ih=>
  have go:∀(l:List (Sh × AV)) (hp:Heap) (ps:List (Sh × PV)) (hp':Heap) (vs:List Value),AV.freeze.go d l hp=some (ps,hp')->HR w X μ hp->CR w X μ hp l vs->
    Ext b0 X μ hp w μ hp' w/\HR w X μ hp'/\CP w (Im X μ hp') ps vs:=by
   intro l
   induction l with
   |nil=>
    intro hp ps hp' vs h hH hc
    simp only[AV.freeze.go,Option.some.injEq,Prod.mk.injEq] at h
    obtain⟨rfl,rfl⟩:=h
    rw[hc.nil_inv]
    exact⟨Ext.refl _ _ _ _ _,hH,CP.nil⟩
   |cons x r ihl=>
    intro hp ps hp' vs h hH hc
    obtain⟨s,a⟩:=x
    obtain⟨v,us,rfl,h1,_,h2,h3⟩:=hc.inv
    simp only[AV.freeze.go] at h
    split at h
    ·cases h
    ·rename_i p hp1 hf
     split at h
     ·rename_i ps' hp2 hg
      cases h
      obtain⟨e1,k1,k2⟩:=ih _ _ _ _ _ hf hH h2
      have h3':CR w X μ hp1 r us:=⟨h3.1,h3.2.1,fun i x v hx hv=>e1.ar (h3.2.2 i x v hx hv)⟩
      obtain⟨e2,k3,k4⟩:=ihl _ _ _ _ hg k1 h3'
      exact⟨e1.trans e2,k3,CP.cons h1 (e2.pr k2) k4⟩
     ·cases h
  intro a hp p hp' v h hH ha
  cases ha with
  |undef=>simp[AV.freeze] at h
  |pv sh q v hs hq=>
   simp only[AV.freeze,Option.some.injEq,Prod.mk.injEq] at h
   obtain⟨rfl,rfl⟩:=h
   exact⟨Ext.refl _ _ _ _ _,hH,hq⟩
  |tsl sh es a hq=>
   simp only[AV.freeze,Option.some.injEq,Prod.mk.injEq] at h
   obtain⟨rfl,rfl⟩:=h
   exact⟨Ext.refl _ _ _ _ _,hH,hq⟩
  |agg l vs hl hs hs'=>
   simp only[AV.freeze] at h
   split at h
   ·rename_i ps hp1 hg
    cases h
    obtain⟨e,k1,k2⟩:=go _ _ _ _ vs hg hH ⟨hl,hs,hs'⟩
    exact⟨e,k1,k2.agg⟩
   ·cases h
  |sl sh r ver off len a cap es fz ho hv hlc hac hc=>
   simp only[AV.freeze,ho] at h
   obtain⟨e,hH'⟩:=zgI b0 hH ho
   have hrl:=(List.getElem?_eq_some_iff.1 ho).1
   have ho':(hp.set r (.arr sh es true))[r]? =some (.arr sh es true):=by rw[List.getElem?_set_self hrl]
   have main:ver=es.length->off+len<=es.length->PR w (Im X μ (hp.set r (.arr sh es true))) (.sl sh ((es.drop off).take len)) (.slice a len cap):=by
    intro e1 e2
    obtain⟨_,hc2⟩:=hc e1
    rcases(hH'.arr r sh es true ho').2 with⟨h1,rfl⟩|⟨b,cs,t,vals,h1,h2,h3,h4,h5⟩
    ·have:len=0:=by simp at e2;omega
     subst this
     simp only[List.drop_nil,List.take_nil]
     exact .nilsl _ _ _
    ·rcases hc2 with⟨c1,_⟩|⟨b',cs',t',c1,c2,c3,c4⟩
     ·rw[h1] at c1;cases c1
     ·rw[h1] at c1
      cases c1
      refine zhr ?_ h2 h3 h4 h5 off len cap a e2 hlc.1 c4
      refine⟨(hH'.out r b (by simpa using hrl) h1).1,fun i hl e=> ?_⟩
      have hil:=zbv hl
      have:=hH'.inj i r b hil (by simpa using hrl) e h1
      subst this
      simp[live,ho'] at hl
   split at h
   ·rename_i hh
    cases h
    obtain⟨e1,rfl,rfl⟩:=hh
    have:=main e1 (by omega)
    simp at this
    exact⟨e,hH',this⟩
   ·split at h
    ·rename_i hh
     cases h
     exact⟨e,hH',main hh.1 hh.2⟩
    ·cases h
  |nilv sh=>
   simp only[AV.freeze,Option.some.injEq,Prod.mk.injEq] at h
   obtain⟨rfl,rfl⟩:=h
   exact⟨Ext.refl _ _ _ _ _,hH,.nilsl _ _ _⟩
  |slv sh r ver off len a cap n ho hv hlc hac hc=>
   rcases zbw ho with⟨es,e,rfl⟩|⟨es,e,rfl⟩
   ·simp only[AV.freeze,e] at h
    split at h
    ·rename_i hcd
     obtain⟨_,hc2⟩:=hc hcd.1
     obtain⟨b,cs,t,c2,c3,c4,c5⟩:=hc2
     split at h
     ·rename_i ps hp1 hg
      split at h
      ·rename_i s1 es1 hr1
       split at h
       ·rename_i hlen1
        cases h
        obtain⟨hpos,b',cs',t',vals,g1,g2,g3,g4,g5⟩:=hH.arv r sh es e
        rw[c2] at g1;cases g1
        rw[c3] at g2;cases g2
        have hcr:CR w X μ hp (es.map fun e=>(sh,e)) vals:=by
         refine⟨by simp[g3],fun i x v hx hv=> ?_,fun i x v hx hv=> ?_⟩
         ·simp only[List.getElem?_map,Option.map_eq_some_iff] at hx
          obtain⟨a,ha,rfl⟩:=hx
          exact(g4 i a v ha hv).1
         ·simp only[List.getElem?_map,Option.map_eq_some_iff] at hx
          obtain⟨a,ha,rfl⟩:=hx
          exact(g4 i a v ha hv).2
        have go':=zfx b0 w X μ d _ _ _ _ vals hg hH hcr
        obtain⟨E1,H1,hcp⟩:=go'
        have hpl:(ps.map (·.2)).length=es.length:=by
         have:=hcp.1
         simp only[List.length_map]
         omega
        obtain⟨n1,av1,av2,av3,_⟩:=E1.arv r sh es e
        rw[hr1] at av1
        simp only[zck,Option.some.injEq,Prod.mk.injEq] at av1
        obtain⟨rfl,rfl⟩:=av1
        have hb0:∀b0,Ext b0 X μ hp1 w (upd μ r (μ r)) (hp1.set r (.arr s1 (ps.map (·.2)) true)) w:=fun b0=>
         Ext.setArv hr1 (n:=es.length) (by simp only[zck,hpl]) (by omega) (fun _=>rfl) (fun _ e=>by cases e) (fun b hb=>.inl hb) rfl rfl rfl (Nat.le_refl _) (fun _ _ _=>rfl) (fun k cs t fr hk=>⟨cs,hk,rfl⟩)
        have hrl:=(List.getElem?_eq_some_iff.1 hr1).1
        have key:∀(k:Nat) (p:PV) (v:Value),(ps.map (·.2))[k]? =some p->vals[k]? =some v->vshp v=s1/\PR w (Im X μ hp1) p v:=by
         intro k p v hk hv
         simp only[List.getElem?_map,Option.map_eq_some_iff] at hk
         obtain⟨x,hx,rfl⟩:=hk
         have hkl:=(List.getElem?_eq_some_iff.1 hv).1
         exact⟨(g4 k es[k] v (List.getElem?_eq_getElem (by omega)) hv).1.1,hcp.2.2 k x v hx hv⟩
        have E2:=hb0 b0
        have hH2:HR w X (upd μ r (μ r)) (hp1.set r (.arr s1 (ps.map (·.2)) true)):=by
         refine H1.setArv hr1 (hb0 0) (fun _ _ _=>rfl) (fun b hb=>⟨.inl hb,(H1.out r b hrl hb).2⟩) (.inr ⟨_,_,b,cs,t,vals,rfl,c2,c3,by omega,fun k p v hk hv=>⟨(key k p v hk hv).1,(hb0 0).pr (key k p v hk hv).2⟩,by rw[hpl];exact g5⟩)
        rw[zbf] at hH2 E2
        refine⟨E1.trans E2,hH2,?_⟩
        have hrs:(hp1.set r (.arr s1 (ps.map (·.2)) true))[r]? =some (.arr s1 (ps.map (·.2)) true):=List.getElem?_set_self hrl
        refine zhr (b:=b) ?_ c3 (by omega:(ps.map (·.2)).length=vals.length) (fun k p v hk hv=>⟨(key k p v hk hv).1,E2.pr (key k p v hk hv).2⟩) (by rw[hpl];exact g5) off len cap a (by rw[hpl];exact hcd.2) hlc.1 c5
        refine⟨(hH2.out r b (by simpa using hrl) c2).1,fun i hl e=> ?_⟩
        have hil:=zbv hl
        have:=hH2.inj i r b hil (by simpa using hrl) e c2
        subst this
        simp[live,hrs] at hl
       ·cases h
      ·cases h
     ·cases h
    ·cases h
   ·simp only[AV.freeze,e] at h
    split at h
    ·rename_i hh
     cases h
     obtain⟨_,b,cs,t,c1,c2,c3,c4⟩:=hc hh.1
     refine⟨Ext.refl _ _ _ _ _,hH,?_⟩
     rcases(hH.arr r sh es true e).2 with⟨h1,_⟩|⟨b',cs',t',vals,h1,h2,h3,h4,h5⟩
     ·rw[h1] at c1;cases c1
     ·rw[c1] at h1;cases h1
      rw[c2] at h2;cases h2
      refine zhr ?_ c2 h3 h4 h5 off len cap a hh.2 hlc.1 c4
      have hrl:=(List.getElem?_eq_some_iff.1 e).1
      refine⟨(hH.out r b hrl c1).1,fun i hl e'=> ?_⟩
      have hil:=zbv hl
      have:=hH.inj i r b hil hrl e' c1
      subst this
      simp[live,e] at hl
    ·cases h
  |_=>simp[AV.freeze] at h
end Go.Am

/- Further operations, run in the model. -/
namespace Go.Am
variable{P:Program} {w:World} {X:Xc P} {μ:Nat->Option Nat} {hp:Heap}

theorem zid{t e:TypeId}{n:Nat}{x ix:Value}{vs:List AV}{v:AV}(ht:P.underlying t=some (.array n e))(hok:okT P e=true)(hl:LR w X μ hp vs [x,ix])
  (h:zbV (shOf P e) n vs=some v):Yld P w X μ hp (do pure (.value (<-Instr.indexAt t x ix))) v:=by
 have run:∀(a:Addr) (k:IntKind) (i:Int),0<=i->i<n->(Instr.indexAt t (.pointer (some a)) (.int k i)).run P w=.ok (.pointer (some (a.add (i.toNat*(shOf P e).size)))) w:=by
  intro a k i h0 h1
  simp[Instr.indexAt,asIntOf,run_underlying ht,Instr.sureAddr,za6 hok,h0,h1]
 unfold zbV at h
 split at h
 ·rename_i r o sh k i
  split at h
  ·rename_i hh
   cases h
   obtain⟨_,_,e0,h1,h2⟩:=hl.two
   cases e0
   cases h2.int_inv
   cases h1 with
   |ptr _ _ b sh v ho hb=>
    exact⟨.pointer (some ((⟨b,o,none⟩:Addr).add (i.toNat*(shOf P e).size))),by simp only[Sem.run_bind,run _ _ _ hh.1 hh.2,Result.andThen_ok,Sem.run_pure],by rw[Addr.add_lit];exact .ptr _ _ b sh v ho hb⟩
  ·cases h
 ·rename_i s p o1 sh k i
  split at h
  ·rename_i hh
   cases h
   obtain⟨_,_,e0,h1,h2⟩:=hl.two
   cases e0
   cases h2.int_inv
   cases h1 with
   |iptr sh p off b o cs t' fr v hI hb hp' hs hc=>
    exact⟨.pointer (some ((⟨b,o+o1,none⟩:Addr).add (i.toNat*(shOf P e).size))),by simp only[Sem.run_bind,run _ _ _ hh.1 hh.2,Result.andThen_ok,Sem.run_pure],by rw[Addr.add_lit,Nat.add_assoc];exact .iptr _ _ _ b o cs t' fr v hI hb hp' hs hc⟩
  ·cases h
 ·cases h

theorem zie{t:TypeId}{x ix:Value}{vs:List AV}{v:AV}(ht:P.underlying t=some .string)(hl:LR w X μ hp vs [x,ix])(h:ze5 vs=some v):Yld P w X μ hp (do pure (.value (<-Instr.index t x ix))) v:=by
 unfold ze5 at h
 split at h
 ·rename_i s1 s s2 k i
  split at h
  ·rename_i h0
   split at h
   ·rename_i c hc
    cases h
    obtain⟨_,_,e0,h1,h2⟩:=hl.two
    cases e0
    cases h1.str_inv
    cases h2.int_inv
    refine⟨.int .u8 c.toNat,?_,.mkInt _ _⟩
    have hlt:=(List.getElem?_eq_some_iff.1 hc)
    obtain⟨hlt,he⟩:=hlt
    have:(ByteArray.mk s.toArray)[i.toNat]? =some c:=by
     rw[getElem?_pos _ _ (by simpa[ByteArray.size] using hlt)]
     simp only[Option.some.injEq]
     rw[<-he]
     rfl
    simp[Instr.index,asIntOf,run_underlying ht,h0,this]
   ·cases h
  ·cases h
 ·cases h

theorem zjR{t:TypeId}{fs:Array Field}{i:Nat}{f:Field}{x:Value}{vs:List AV}{v:AV}(ht:P.underlying t=some (.struct fs))(hf:fs[i]? =some f)(hok:okT P f.type=true)(hl:LR w X μ hp vs [x])
  (h:zmT f.offset (shOf P f.type) vs=some v):Yld P w X μ hp (do pure (.value (<-Instr.field t x i))) v:=by
 obtain⟨ti,d,_,hd,_,_⟩:=zdx hok
 unfold zmT at h
 split at h
 ·obtain⟨_,e0,h1⟩:=hl.one
  cases e0
  obtain⟨u,k1,_,k2,k3⟩:=zd3 _ _ _ _ _ _ h h1
  refine⟨u,?_,k2⟩
  have hx:∃cs,x=.agg cs:=by
   cases h1 with
   |agg l vs _ _ _=>exact⟨_,rfl⟩
   |pv s p v hs hq=>cases hq with
    |agg l vs _ _ _=>exact⟨_,rfl⟩
    |_=>simp[AV.part,PV.part,deep] at h
   |_=>simp[AV.part,deep] at h
  obtain⟨cs,rfl⟩:=hx
  have hul:u.cells.toList.length=(shOf P f.type).size:=by rw[Array.length_toList,zai,k1]
  have k3:u.cells.toList=(cs.toList.drop f.offset).take (shOf P f.type).size:=k3
  simp only[Instr.field,Sem.run_bind,run_underlying ht,Result.andThen_ok,hf,asAgg,Sem.run_pure,part,zfS hd]
  cases hsh:shOf P f.type with
  |none=>
   rw[hsh] at k1 k3 hul
   have hc:=zfR k1
   rw[hc] at k3
   simp only[Sh.size] at k3
   have:cs[f.offset]? =some u:=by
    have:=congrArg (fun l=>l[0]?) k3
    simp at this
    exact this.symm
   simp[this]
  |some n=>
   rw[hsh] at k1 k3 hul
   cases u with
   |agg us=>
    simp only[Value.cells,Sh.size] at k3
    have:cs.extract f.offset (f.offset+n)=us:=by
     apply Array.ext'
     rw[k3]
     simp[List.extract_eq_take_drop]
    have hz:=za6 hok w
    rw[hsh] at hz
    simp only[Sh.size] at hz
    simp[hz,this]
   |_=>simp[vshp] at k1
 ·cases h

theorem zlG{src dst:TypeId}{k k0:IntKind}{x:Value}{vs:List AV}{v:AV}(hs:P.underlying src=some (.int k0))(ht:P.underlying dst=some (.int k))(hl:LR w X μ hp vs [x])(h:zjH k vs=some v):
  Yld P w X μ hp (do pure (.value (<-convert src dst x))) v:=by
 unfold zjH at h
 split at h
 ·cases h
  obtain⟨_,e0,h1⟩:=hl.one
  cases e0
  cases h1.int_inv
  exact⟨_,by simp[convert,run_underlying hs,run_underlying ht,Conv.intToInt],.mkInt _ _⟩
 ·cases h

theorem zht{i:Nat}{x:Value}{vs:List AV}{v:AV}(hl:LR w X μ hp vs [x])(h:zcM i vs=some v):Yld P w X μ hp (do pure (.value (<-Instr.extract x i))) v:=by
 unfold zcM at h
 split at h
 ·obtain⟨_,e0,h1⟩:=hl.one
  cases e0
  cases h1 with
  |tuple l us hlen hr=>
   have hlt:=(List.getElem?_eq_some_iff.1 h).1
   refine⟨us[i],?_,hr i v _ h (List.getElem?_eq_getElem (by omega))⟩
   have hu:us.toArray[i]? =some us[i]:=by simp
   simp[Instr.extract,hu]
 ·cases h

theorem zm7{ts:Array TypeId}{ty:TypeId}{x y:Value}{vs:List AV}{v:AV}(hl:LR w X μ hp vs [x,y])(h:sMin vs=some v):Yld P w X μ hp (do pure (.value (<-Builtin.min_ ts ty #[x,y]))) v:=by
 unfold sMin at h
 split at h
 ·split at h
  ·cases h
   obtain⟨_,_,e0,h1,h2⟩:=hl.two
   cases e0
   cases h1.int_inv
   cases h2.int_inv
   exact⟨_,by simp[Builtin.min_,Builtin.min2],.mkInt _ _⟩
  ·cases h
 ·cases h
theorem zm8{ts:Array TypeId}{ty:TypeId}{x y:Value}{vs:List AV}{v:AV}(hl:LR w X μ hp vs [x,y])(h:sMax vs=some v):Yld P w X μ hp (do pure (.value (<-Builtin.max_ ts ty #[x,y]))) v:=by
 unfold sMax at h
 split at h
 ·split at h
  ·cases h
   obtain⟨_,_,e0,h1,h2⟩:=hl.two
   cases e0
   cases h1.int_inv
   cases h2.int_inv
   exact⟨_,by simp[Builtin.max_,Builtin.max2],.mkInt _ _⟩
  ·cases h
 ·cases h

theorem zhu{t:TypeId}{x:Value}{vs:List AV}{v:AV}(ht:P.concrete t=true)(hl:LR w X μ hp vs [x])(h:zhc t vs=some v):Yld P w X μ hp (do pure (.value (<-Instr.makeInterface t x))) v:=by
 unfold zhc at h
 split at h
 ·cases h
  obtain⟨_,e0,h1⟩:=hl.one
  cases e0
  cases h1 with
  |pv _ _ v hs hq=>exact⟨.iface t x,by simp[run_makeInterface w t x ht],.pv _ _ _ rfl (.iface t _ _ x hs hq)⟩
 ·cases h

theorem zpj{x:Value}{vs:List AV}{v:AV}(hl:LR w X μ hp vs [x])(h:sMv vs=some v):AR w X μ hp v x:=by
 unfold sMv at h
 split at h
 ·cases h
  obtain⟨_,e0,h1⟩:=hl.one
  cases e0
  exact h1
 ·cases h

theorem LR.length{as:List AV}{vs:List Value}(h:LR w X μ hp as vs):as.length=vs.length:=by
 induction h with
 |nil=>rfl
 |cons _ _ ih=>simp[ih]
theorem LR.get{as:List AV}{vs:List Value}(h:LR w X μ hp as vs):∀(i:Nat) (a:AV) (v:Value),as[i]? =some a->vs[i]? =some v->AR w X μ hp a v:=by
 induction h with
 |nil=>intro i a v h;simp at h
 |cons h _ ih=>
  intro i a v h1 h2
  cases i with
  |zero=>simp at h1 h2;subst h1;subst h2;exact h
  |succ i=>exact ih i a v (by simpa using h1) (by simpa using h2)
theorem LR.of{as:List AV}{vs:List Value}(hl:as.length=vs.length)(h:∀(i:Nat) (a:AV) (v:Value),as[i]? =some a->vs[i]? =some v->AR w X μ hp a v):LR w X μ hp as vs:=by
 induction as generalizing vs with
 |nil=>cases vs with
  |nil=>exact .nil
  |cons=>simp at hl
 |cons a r ih=>cases vs with
  |nil=>simp at hl
  |cons v us=>exact .cons (h 0 a v rfl rfl) (ih (by simpa using hl) fun i a v h1 h2=>h (i+1) a v (by simpa using h1) (by simpa using h2))

theorem zif{fn:Fn}{first captured:List Value}{vs:List AV}{v:AV}(hl:LR w X μ hp vs (first++captured))(h:zd0 fn first.length vs=some v):AR w X μ hp v (.func fn first.toArray captured.toArray):=by
 have hlen:=hl.length
 unfold zd0 at h
 split at h
 ·simp only[Option.some.injEq] at h
  subst h
  have h1:first=[]:=List.eq_nil_of_length_eq_zero (by simp at hlen;omega)
  have h2:captured=[]:=List.eq_nil_of_length_eq_zero (by simp at hlen;omega)
  subst h1
  subst h2
  exact .pv _ _ _ rfl (.func fn)
 ·simp only[Option.some.injEq] at h
  subst h
  refine .func fn _ _ first captured ?_ ?_ ?_ ?_
  ·simp only[List.length_take,hlen,List.length_append];omega
  ·simp only[List.length_drop,hlen,List.length_append];omega
  ·intro i a v h1 h2
   have hi:=(List.getElem?_eq_some_iff.1 h2).1
   rw[List.getElem?_take_of_lt hi] at h1
   exact hl.get i a v h1 (by rw[List.getElem?_append_left hi];exact h2)
  ·intro i a v h1 h2
   rw[List.getElem?_drop] at h1
   exact hl.get _ a v h1 (by rw[List.getElem?_append_right (by omega)];simpa using h2)
end Go.Am

/- Loads, lookups, lengths, slices, run in the model. -/
namespace Go.Am
variable{P:Program} {w:World} {X:Xc P} {μ:Nat->Option Nat} {hp:Heap}

theorem zjS{t:TypeId}(hok:okT P t=true){b o:Nat}{cs:Array Value}{t':TypeId}{fr:Nat × Nat}{u:Value}(hb:w.heap[b]? =some (.cells cs t' fr))(hs:vshp u=shOf P t)(hc:u.cells.toList=(cs.toList.drop o).take (shOf P t).size):
  (loadVar t ⟨b,o,none⟩).run P w=.ok u w:=by
 obtain⟨ti,d,_,hd,_,_⟩:=zdx hok
 have hsz:=za6 hok w
 have hul:u.cells.toList.length=(shOf P t).size:=by rw[Array.length_toList,zai,hs]
 have cell:∀j v,u.cells.toList[j]? =some v->w.cell? ((⟨b,o,none⟩:Addr).add j)=some v:=by
  intro j v hj
  have hjl:j<(shOf P t).size:=by have:=(List.getElem?_eq_some_iff.1 hj).1;omega
  rw[hc,List.getElem?_take_of_lt hjl,List.getElem?_drop] at hj
  rw[Addr.add_lit]
  simp only[World.cell?,hb]
  simpa using hj
 simp only[loadVar,Sem.run_bind,zfS hd,Result.andThen_ok]
 cases hsh:shOf P t with
 |none=>
  rw[hsh] at hs hul hc
  have h1:=zfR hs
  have:=cell 0 u (by rw[h1];rfl)
  rw[Addr.add_lit,Nat.add_zero] at this
  simp[this]
 |some n=>
  rw[hsh] at hsz hul hs
  simp only[Sh.size] at hsz hul
  have hl:=run_loadCells_list (P:=P) w ⟨b,o,none⟩ u.cells.toList cell
  rw[hul] at hl
  cases u with
  |agg us=>
   simp only[Value.cells] at hl
   simp[hsz,hl]
  |_=>simp[vshp] at hs

theorem zpk{I:Nat->Value->Prop}{n:Nat}{vals:List Value}{sh:Sh}{cs:List Value}(hl:n=vals.length)(h:∀v∈vals,vshp v=sh)(hc:cellsOf vals=cs.take (n*sh.size))(i:Nat)(hi:i<n):
  ∃v,vals[i]? =some v/\vshp v=sh/\v.cells.toList=(cs.drop (i*sh.size)).take sh.size:=by
 have hv:vals[i]? =some vals[i]:=List.getElem?_eq_getElem (by omega)
 have hk:∀v∈vals,v.cells.size=sh.size:=fun v hvm=>by rw[zai,h v hvm]
 refine⟨vals[i],hv,h _ (List.getElem_mem _),?_⟩
 have hg:=zeh hk i _ hv
 have hsz:vals[i].cells.toList.length=sh.size:=by rw[Array.length_toList];exact hk _ (List.getElem_mem _)
 rw[hc,List.drop_take] at hg
 have hg2:=congrArg (List.take sh.size) hg
 rw[List.take_take,List.take_left' hsz] at hg2
 rw[<-hg2]
 congr 1
 have:i*sh.size+sh.size<=n*sh.size:=by rw[<-Nat.succ_mul];exact Nat.mul_le_mul_right _ hi
 omega

theorem zgJ{t:TypeId}{x:Value}{vs:List AV}{v:AV}(hH:HR w X μ hp)(hok:okT P t=true)(hl:LR w X μ hp vs [x])(h:zgq (shOf P t) hp vs=some v):Yld P w X μ hp (do pure (.value (<-Instr.loadAt t x))) v:=by
 have fin:∀(b o:Nat) (cs:Array Value) (t':TypeId) (fr:Nat × Nat) (u:Value),x=.pointer (some ⟨b,o,none⟩)->w.heap[b]? =some (.cells cs t' fr)->vshp u=shOf P t->u.cells.toList=(cs.toList.drop o).take (shOf P t).size->AR w X μ hp v u->Yld P w X μ hp (do pure (.value (<-Instr.loadAt t x))) v:=by
  intro b o cs t' fr u hx hb hs hc ha
  subst hx
  exact⟨u,by simp[Instr.loadAt,Instr.sureAddr,zjS hok hb hs hc],ha⟩
 unfold zgq at h
 split at h
 ·obtain⟨_,e0,h1⟩:=hl.one
  cases e0
  unfold aload at h
  split at h
  ·rename_i r off
   cases h1 with
   |ptr _ _ b sh0 v0 ho hb=>
    simp only[ho] at h
    obtain⟨b',val,t',hb',hc,hs,hf,ha⟩:=hH.box r sh0 v0 ho
    rw[hb] at hb'
    cases hb'
    split at h
    ·rename_i hh
     cases h
     obtain⟨rfl,rfl⟩:=hh
     refine fin b 0 _ _ _ val rfl hc hs ?_ ha
     rw[List.drop_zero,List.take_of_length_le (by rw[Array.length_toList,zai,hs];exact Nat.le_refl _)]
    ·obtain⟨u,k1,_,k2,k3⟩:=zd3 _ _ _ _ _ _ h ha
     exact fin b off _ _ _ u rfl hc k1 k3 k2
  ·rename_i s p off
   cases h1 with
   |iptr _ _ _ b o cs t' fr val hI hb hq hs hc=>
    split at h
    ·rename_i hh
     cases h
     obtain⟨rfl,rfl⟩:=hh
     exact fin b (o+0) _ _ _ val rfl hb hs hc (.pv _ _ _ hs hq)
    ·split at h
     ·rename_i q hq'
      cases h
      obtain⟨u,k1,k2,k3⟩:=zdy _ _ _ _ _ _ hq' hq
      refine fin b (o+off) _ _ _ u rfl hb k1 ?_ (.pv _ _ _ k1 k2)
      rw[k3,hc,List.drop_take,List.drop_drop,List.take_take]
      congr 1
      have hul:u.cells.toList.length=(shOf P t).size:=by rw[Array.length_toList,zai,k1]
      have:=congrArg List.length k3
      rw[hul,hc] at this
      simp only[List.length_take,List.length_drop] at this
      omega
     ·cases h
  ·rename_i s0 r ver i off
   cases h1 with
   |eptr _ _ _ _ _ a es fz ho hv hc=>
    simp only[ho] at h
    split at h
    ·rename_i hver
     obtain⟨hi,b,hb,rfl⟩:=hc hver
     split at h
     ·rename_i p hp0
      rcases(hH.arr r s0 es fz ho).2 with⟨hn,_⟩|⟨b',cs,t',vals,h1,h2,h3,h4,h5⟩
      ·rw[hb] at hn;cases hn
      ·rw[hb] at h1
       cases h1
       have h5':cellsOf vals=(cs.toList.drop 0).take (es.length*s0.size):=by simpa using h5
       obtain⟨u,_,k1,k2,k3⟩:=zjP h3 (fun i p v hi hv=>(h4 i p v hi hv).1) (fun i p v hi hv=>(h4 i p v hi hv).2) h5' i p hp0
       rw[Nat.zero_add] at k3
       split at h
       ·rename_i hh
        cases h
        obtain⟨rfl,rfl⟩:=hh
        exact fin b (i*(shOf P t).size+0) _ _ _ u rfl h2 k1 k3 (.pv _ _ _ k1 k2)
       ·split at h
        ·rename_i q hq'
         cases h
         obtain⟨x,j1,j2,j3⟩:=zdy _ _ _ _ _ _ hq' k2
         refine fin b (i*s0.size+off) _ _ _ x rfl h2 j1 ?_ (.pv _ _ _ j1 j2)
         rw[j3,k3,List.drop_take,List.drop_drop,List.take_take]
         congr 1
         have hul:x.cells.toList.length=(shOf P t).size:=by rw[Array.length_toList,zai,j1]
         have:=congrArg List.length j3
         rw[hul,k3] at this
         simp only[List.length_take,List.length_drop] at this
         omega
        ·cases h
     ·cases h
    ·cases h
  ·rename_i s0 r ver i off
   cases h1 with
   |epv _ _ _ _ _ a n ho hv hc=>
    rcases zbw ho with⟨es,e,rfl⟩|⟨es,e,rfl⟩
    ·simp only[e] at h
     split at h
     ·rename_i hver
      obtain⟨hi,b,hb,rfl⟩:=hc hver
      split at h
      ·rename_i a0 ha0
       obtain⟨_,b',cs,t',vals,h1,h2,h3,h4,h5⟩:=hH.arv r s0 es e
       rw[hb] at h1
       cases h1
       have hsh:∀v∈vals,vshp v=s0:=fun v hvm=>by
        obtain⟨j,hj⟩:=List.mem_iff_getElem?.1 hvm
        have hjl:=(List.getElem?_eq_some_iff.1 hj).1
        exact(h4 j es[j] v (List.getElem?_eq_getElem (by omega)) hj).1.1
       obtain⟨u,k0,k1,k3⟩:=zpk (I:=fun _ _=>True) h3 hsh h5 i hi
       have k2:=(h4 i a0 u ha0 k0).2
       split at h
       ·rename_i hh
        cases h
        obtain⟨rfl,rfl⟩:=hh
        exact fin b (i*(shOf P t).size+0) _ _ _ u rfl h2 k1 k3 k2
       ·obtain⟨x,j1,_,j3,j2⟩:=zd3 _ _ _ _ _ _ h k2
        refine fin b (i*s0.size+off) _ _ _ x rfl h2 j1 ?_ j3
        rw[j2,k3,List.drop_take,List.drop_drop,List.take_take]
        congr 1
        have hul:x.cells.toList.length=(shOf P t).size:=by rw[Array.length_toList,zai,j1]
        have:=congrArg List.length j2
        rw[hul,k3] at this
        simp only[List.length_take,List.length_drop] at this
        omega
      ·cases h
     ·cases h
    ·simp only[e] at h
     split at h
     ·rename_i hver
      obtain⟨hi,b,hb,rfl⟩:=hc hver
      split at h
      ·rename_i p hp0
       rcases(hH.arr r s0 es true e).2 with⟨hn,_⟩|⟨b',cs,t',vals,h1,h2,h3,h4,h5⟩
       ·rw[hb] at hn;cases hn
       ·rw[hb] at h1
        cases h1
        have h5':cellsOf vals=(cs.toList.drop 0).take (es.length*s0.size):=by simpa using h5
        obtain⟨u,_,k1,k2,k3⟩:=zjP h3 (fun i p v hi hv=>(h4 i p v hi hv).1) (fun i p v hi hv=>(h4 i p v hi hv).2) h5' i p hp0
        rw[Nat.zero_add] at k3
        split at h
        ·rename_i hh
         cases h
         obtain⟨rfl,rfl⟩:=hh
         exact fin b (i*(shOf P t).size+0) _ _ _ u rfl h2 k1 k3 (.pv _ _ _ k1 k2)
        ·split at h
         ·rename_i q hq'
          cases h
          obtain⟨x,j1,j2,j3⟩:=zdy _ _ _ _ _ _ hq' k2
          refine fin b (i*s0.size+off) _ _ _ x rfl h2 j1 ?_ (.pv _ _ _ j1 j2)
          rw[j3,k3,List.drop_take,List.drop_drop,List.take_take]
          congr 1
          have hul:x.cells.toList.length=(shOf P t).size:=by rw[Array.length_toList,zai,j1]
          have:=congrArg List.length j3
          rw[hul,k3] at this
          simp only[List.length_take,List.length_drop] at this
          omega
         ·cases h
      ·cases h
     ·cases h
  ·cases h
 ·cases h

theorem zm9{t e ty:TypeId}{x:Value}{vs:List AV}{v:AV}(ht:P.underlying t=some (.slice e))(hl:LR w X μ hp vs [x])(h:sLen vs=some v):Yld P w X μ hp (do pure (.value (<-Builtin.len_ #[t] ty #[x]))) v:=by
 have fin:∀a n c,x=.slice a n c->v=.pv none (.int .i64 n)->Yld P w X μ hp (do pure (.value (<-Builtin.len_ #[t] ty #[x]))) v:=by
  intro a n c hx hv
  subst hx
  subst hv
  exact⟨.int .i64 n,by simp[Builtin.len_,run_underlying ht,goInt],.mkInt _ _⟩
 unfold sLen at h
 split at h
 ·cases h
  obtain⟨_,e0,h1⟩:=hl.one
  cases e0
  cases h1 with
  |pv _ _ _ _ hq=>cases hq with
   |nilsl sh a n=>exact fin _ _ _ rfl rfl
   |sl=>exact fin _ _ _ rfl rfl
 ·cases h
  obtain⟨_,e0,h1⟩:=hl.one
  cases e0
  cases h1 with
  |tsl=>exact fin _ _ _ rfl rfl
 ·cases h
  obtain⟨_,e0,h1⟩:=hl.one
  cases e0
  cases h1 with
  |sl=>exact fin _ _ _ rfl rfl
 ·cases h
  obtain⟨_,e0,h1⟩:=hl.one
  cases e0
  cases h1 with
  |slv=>exact fin _ _ _ rfl rfl
 ·cases h
  obtain⟨_,e0,h1⟩:=hl.one
  cases e0
  cases h1 with
  |nilv=>exact fin _ _ _ rfl rfl
 ·cases h
theorem zlH{t ty:TypeId}{x:Value}{vs:List AV}{v:AV}(ht:P.underlying t=some .string)(hl:LR w X μ hp vs [x])(h:zjJ vs=some v):Yld P w X μ hp (do pure (.value (<-Builtin.len_ #[t] ty #[x]))) v:=by
 unfold zjJ at h
 split at h
 ·cases h
  obtain⟨_,e0,h1⟩:=hl.one
  cases e0
  cases h1.str_inv
  rename_i s
  have hz:(ByteArray.mk s.toArray).size=s.length:=by simp[ByteArray.size]
  exact⟨.int .i64 s.length,by simp only[Builtin.len_,List.getElem?_toArray,List.getElem?_cons_zero,Sem.run_bind,run_underlying ht,Result.andThen_ok,goInt,Sem.run_pure,hz],.mkInt _ _⟩
 ·cases h
theorem zlI{t k e ty:TypeId}{x:Value}{vs:List AV}{v:AV}(hH:HR w X μ hp)(ht:P.underlying t=some (.map k e))(hl:LR w X μ hp vs [x])(h:zpc hp vs=some v):Yld P w X μ hp (do pure (.value (<-Builtin.len_ #[t] ty #[x]))) v:=by
 unfold zpc at h
 split at h
 ·rename_i r
  split at h
  ·rename_i sh es ho
   cases h
   obtain⟨_,e0,h1⟩:=hl.one
   cases e0
   cases h1 with
   |map _ b sh' es' ho' hb=>
    obtain⟨b',ents,clock,k1,k2,k3,_⟩:=hH.map r _ _ ho
    rw[hb] at k1
    cases k1
    exact⟨.int .i64 ents.size,by simp[Builtin.len_,run_underlying ht,goInt,getObj,Sem.run,k2],by rw[k3];exact .mkInt _ _⟩
  ·cases h
 ·cases h
  obtain⟨_,e0,h1⟩:=hl.one
  cases e0
  cases h1 with
  |pv _ _ _ _ hq=>cases hq;exact⟨_,by simp[Builtin.len_,run_underlying ht,goInt],.mkInt _ _⟩
 ·cases h

theorem zna{t e:TypeId}(ht:P.underlying t=some (.slice e))(hok:okT P e=true)(a:Option Addr)(len cap:Nat)(lo hi:Option Value)(l h:Nat)(hlo:lo=none/\l=0\/∃k,lo=some (.int k l))(hhi:hi=none/\h=len\/∃k,hi=some (.int k h))(h1:l<=h)(h2:h<=cap):
  (Instr.sliceAt t (.slice a len cap) lo hi none).run P w=.ok (.slice (if cap=l then a else a.map (·.add (l*(shOf P e).size))) (h - l) (cap - l)) w:=by
 have hs:=za6 hok w
 rcases hlo with⟨rfl,rfl⟩|⟨k,rfl⟩ <;> rcases hhi with⟨rfl,rfl⟩|⟨k',rfl⟩ <;>
  simp[Instr.sliceAt,Instr.slice,run_underlying ht,Instr.sliceBounds,Instr.sliceBound,asIntOf, *]

theorem zig{e:TypeId}{a:Option Addr}{cap len:Nat}{v:AV}{s:AV}{lo:Int}{hi:Option Int}(h:aslice (shOf P e) lo hi s=some v)(hs:AR w X μ hp s (.slice a len cap)):
  0<=lo/\(∀x,hi=some x->0<=x)/\lo.toNat<=(hi.map Int.toNat).getD len/\(hi.map Int.toNat).getD len<=cap/\
   AR w X μ hp v (.slice (if cap=lo.toNat then a else a.map (·.add (lo.toNat*(shOf P e).size))) ((hi.map Int.toNat).getD len - lo.toNat) (cap - lo.toNat)):=by
 have psl:∀(es:List PV) (h0:Nat),es.length=len->lo.toNat<=h0->h0<=es.length->∀sh,(sh=shOf P e\/es=[])->PR w (Im X μ hp) (.sl sh es) (.slice a len cap)->
   PR w (Im X μ hp) (.sl sh ((es.drop lo.toNat).take (h0 - lo.toNat))) (.slice (if cap=lo.toNat then a else a.map (·.add (lo.toNat*(shOf P e).size))) (h0 - lo.toNat) (cap - lo.toNat))/\h0<=cap:=by
  intro es h0 hlen h1 h2 sh hsh hpr
  cases hpr with
  |nilsl=>
   have:h0=0:=by simpa using h2
   subst this
   have:lo.toNat=0:=by omega
   rw[this]
   simp only[List.drop_nil,List.take_nil]
   exact⟨.nilsl _ _ _,Nat.zero_le _⟩
  |sl _ _ b o _ cs t fr vals hl hI hb hs hs' hc hn=>
   refine⟨?_,by omega⟩
   by_cases hz:h0=lo.toNat
   ·have:h0 - lo.toNat=0:=by omega
    rw[this]
    simp only[List.take_zero]
    exact .nilsl _ _ _
   ·rcases hsh with rfl|rfl
    ·have hcl:¬cap=lo.toNat:=by omega
     rw[if_neg hcl]
     have hlen2:((es.drop lo.toNat).take (h0 - lo.toNat)).length=h0 - lo.toNat:=by simp;omega
     have hpe:∀(i:Nat) (p:PV) (v:Value),((es.drop lo.toNat).take (h0 - lo.toNat))[i]? =some p->((vals.drop lo.toNat).take (h0 - lo.toNat))[i]? =some v->vshp v=shOf P e/\PR w (Im X μ hp) p v:=by
      intro i p v hi hv
      have hil:i<h0 - lo.toNat:=by have:=(List.getElem?_eq_some_iff.1 hi).1;omega
      rw[List.getElem?_take_of_lt hil,List.getElem?_drop] at hi hv
      exact⟨hs _ p v hi hv,hs' _ p v hi hv⟩
     have key:=PR.sl (w:=w) (I:=Im X μ hp) (shOf P e) ((es.drop lo.toNat).take (h0 - lo.toNat)) b (o+lo.toNat*(shOf P e).size) (cap - lo.toNat) cs t fr ((vals.drop lo.toNat).take (h0 - lo.toNat)) (by simp;omega) hI hb (fun i p v hi hv=>(hpe i p v hi hv).1) (fun i p v hi hv=>(hpe i p v hi hv).2) ?_ (by omega)
     ·rw[hlen2] at key
      simpa[Addr.add_lit] using key
     ·rw[zbG hl hs lo.toNat (h0 - lo.toNat) (by omega),hc,hlen2,List.drop_take,List.take_take,List.drop_drop]
      congr 1
      have:lo.toNat*(shOf P e).size+(h0 - lo.toNat)*(shOf P e).size<=es.length*(shOf P e).size:=by rw[<-Nat.add_mul];exact Nat.mul_le_mul_right _ (by omega)
      omega
    ·exact absurd h2 (by simp at hlen h2;omega)
 unfold aslice at h
 split at h
 ·rename_i s0 sh es
  cases hs with
  |pv _ _ _ _ hq=>
   have hlen:es.length=len:=by cases hq <;> rfl
   split at h
   ·split at h
    ·rename_i hh
     cases h
     obtain⟨h1,h2,h3⟩:=hh
     have:=psl es len hlen (by omega) (by omega) sh h1 hq
     refine⟨h2,by simp,by simp;omega,by simpa using this.2,.pv _ _ _ rfl ?_⟩
     have e1:(es.drop lo.toNat).take (len - lo.toNat)=es.drop lo.toNat:=List.take_of_length_le (by simp;omega)
     rw[e1] at this
     simpa using this.1
    ·cases h
   ·rename_i x
    split at h
    ·rename_i hh
     cases h
     obtain⟨h1,h2,h3,h4⟩:=hh
     have:=psl es x.toNat hlen (by omega) (by omega) sh h1 hq
     exact⟨h2,by simp;omega,by simp;omega,by simpa using this.2,.pv _ _ _ rfl (by simpa using this.1)⟩
    ·cases h
 ·rename_i sh es
  cases hs with
  |tsl _ _ _ hq=>
   split at h
   ·split at h
    ·rename_i hh
     cases h
     obtain⟨h1,h2,h3⟩:=hh
     have:=psl es es.length rfl (by omega) (by omega) sh h1 hq
     refine⟨h2,by simp,by simp;omega,by simp,?_⟩
     have e1:(es.drop lo.toNat).take (es.length - lo.toNat)=es.drop lo.toNat:=List.take_of_length_le (by simp)
     rw[e1] at this
     have k:=AR.tsl (μ:=μ) sh (es.drop lo.toNat) (if es.length=lo.toNat then a else a.map (·.add (lo.toNat*(shOf P e).size))) (by simpa using this.1)
     simpa using k
    ·cases h
   ·rename_i x
    split at h
    ·rename_i hh
     cases h
     obtain⟨h1,h2,h3,h4⟩:=hh
     have:=psl es x.toNat rfl (by omega) (by omega) sh h1 hq
     exact⟨h2,by simp;omega,by simp;omega,by simpa using this.2,.pv _ _ _ rfl (by simpa using this.1)⟩
    ·cases h
 ·rename_i s0 r ver off n
  cases hs with
  |sl _ _ _ _ _ _ _ es fz ho hv hlc ha hc=>
   have slc:∀h0:Nat,lo.toNat<=h0->(h0<=len\/off+h0<=ver)->s0=shOf P e->AR w X μ hp (.sl (shOf P e) r ver (off+lo.toNat) (h0 - lo.toNat)) (.slice (if cap=lo.toNat then a else a.map (·.add (lo.toNat*(shOf P e).size))) (h0 - lo.toNat) (cap - lo.toNat)):=by
    intro h0 h1 h2 hsh
    subst hsh
    have hb:h0 - lo.toNat<=cap - lo.toNat/\ver<=off+lo.toNat+(cap - lo.toNat):=by clear hc;omega
    refine .sl _ r ver _ _ _ _ es fz ho hv hb (fun hne=> ?_) fun ev=> ?_
    ·clear hc
     rw[if_neg (by omega)]
     simpa using ha (by omega)
    ·obtain⟨c1,c2⟩:=hc ev
     clear hc
     refine⟨by clear c2;omega,?_⟩
     rcases c2 with⟨c2,c3⟩|⟨b,cs,t,c2,c3,c4,c5⟩
     ·exact .inl ⟨c2,by omega⟩
     ·refine .inr ⟨b,cs,t,c2,c3,?_,fun hne=> ?_⟩
      ·rw[<-c4];congr 1;omega
      ·have n1:¬cap=lo.toNat:=fun e=>hne (by rw[e];exact Nat.sub_self _)
       have n2:cap≠0:=fun e=>hne (by rw[e];exact Nat.zero_sub _)
       rw[if_neg n1,c5 n2]
       simp[Addr.add_lit,Nat.add_mul]
   split at h
   ·split at h
    ·rename_i hh
     cases h
     obtain⟨h1,h2,h3⟩:=hh
     exact⟨h2,by simp,by simp;omega,by simpa using hlc.1,by simpa using slc len (by omega) (.inl (Nat.le_refl _)) h1⟩
    ·cases h
   ·rename_i x
    split at h
    ·rename_i hh
     cases h
     obtain⟨h1,h2,h3,h4⟩:=hh
     exact⟨h2,by simp;omega,by simp;omega,by simp;omega,by simpa using slc x.toNat (by omega) (by omega) h1⟩
    ·cases h
 ·rename_i s0 r ver off n
  cases hs with
  |slv _ _ _ _ _ _ _ n0 ho hv hlc ha hc=>
   have slc:∀h0:Nat,lo.toNat<=h0->(h0<=len\/off+h0<=ver)->s0=shOf P e->AR w X μ hp (.slv (shOf P e) r ver (off+lo.toNat) (h0 - lo.toNat)) (.slice (if cap=lo.toNat then a else a.map (·.add (lo.toNat*(shOf P e).size))) (h0 - lo.toNat) (cap - lo.toNat)):=by
    intro h0 h1 h2 hsh
    subst hsh
    have hb:h0 - lo.toNat<=cap - lo.toNat/\ver<=off+lo.toNat+(cap - lo.toNat):=by clear hc;omega
    refine .slv _ r ver _ _ _ _ n0 ho hv hb (fun hne=> ?_) fun ev=> ?_
    ·clear hc
     rw[if_neg (by omega)]
     simpa using ha (by omega)
    ·obtain⟨c1,b,cs,t,c2,c3,c4,c5⟩:=hc ev
     clear hc
     refine⟨by clear c5 c4;omega,b,cs,t,c2,c3,?_,fun hne=> ?_⟩
     ·rw[<-c4];congr 1;omega
     ·have n1:¬cap=lo.toNat:=fun e=>hne (by rw[e];exact Nat.sub_self _)
      have n2:cap≠0:=fun e=>hne (by rw[e];exact Nat.zero_sub _)
      rw[if_neg n1,c5 n2]
      simp[Addr.add_lit,Nat.add_mul]
   split at h
   ·split at h
    ·rename_i hh
     cases h
     obtain⟨h1,h2,h3⟩:=hh
     exact⟨h2,by simp,by simp;omega,by simpa using hlc.1,by simpa using slc len (by omega) (.inl (Nat.le_refl _)) h1⟩
    ·cases h
   ·rename_i x
    split at h
    ·rename_i hh
     cases h
     obtain⟨h1,h2,h3,h4⟩:=hh
     exact⟨h2,by simp;omega,by simp;omega,by simp;omega,by simpa using slc x.toNat (by omega) (by omega) h1⟩
    ·cases h
 ·cases h
end Go.Am
