/- What is proved: the abstract machine says true of the model (part 1). No conditions beside those that each theorem names. -/
import GoSem.Dispatch
import Derived.Laws.Sem
import Derived.WalkKit
import Derived.Lib.Space
set_option linter.unusedSimpArgs false
set_option linter.unusedVariables false
/- The abstract machine: values without addresses, a small heap for what the run itself makes, and an evaluator for translated code. Definitions alone. -/
namespace Go.Am
theorem Za:type_of% @Nat.zero_le:=@Nat.zero_le
theorem Zb:type_of% @if_neg:=@if_neg
theorem Zc:type_of% @Nat.le_refl:=@Nat.le_refl
theorem Zd:type_of% @Nat.le_add_right:=@Nat.le_add_right
theorem Ze:type_of% @List.getElem?_eq_getElem:=@List.getElem?_eq_getElem
theorem Zf:type_of% @List.getElem?_eq_some_iff:=@List.getElem?_eq_some_iff
theorem Zg:type_of% @eq_false:=@eq_false
theorem Zh:type_of% @List.mem_of_getElem?:=@List.mem_of_getElem?
theorem Zi:type_of% @eq_true:=@eq_true
theorem Zj:type_of% @if_pos:=@if_pos
theorem Zk:type_of% @Bool.and_eq_true:=@Bool.and_eq_true
theorem Zl:type_of% @List.take_of_length_le:=@List.take_of_length_le
theorem Zm:type_of% @Array.length_toList:=@Array.length_toList
theorem Zn:type_of% @Nat.lt_or_ge:=@Nat.lt_or_ge
theorem Zo:type_of% @List.append_assoc:=@List.append_assoc
theorem Zp:type_of% @Nat.lt_of_lt_of_le:=@Nat.lt_of_lt_of_le
theorem Zq:type_of% @List.cons_append:=@List.cons_append
theorem Zr:type_of% @List.all_eq_true:=@List.all_eq_true
theorem Zs:type_of% @List.drop_take:=@List.drop_take
theorem Zt:type_of% @List.take_take:=@List.take_take
theorem Zu:type_of% @List.nil_append:=@List.nil_append
theorem Zv:type_of% @Nat.add_mul:=@Nat.add_mul
theorem Zw:type_of% @List.mem_cons_of_mem:=@List.mem_cons_of_mem
theorem Zx:type_of% @List.length_take:=@List.length_take
theorem Zy:type_of% @List.mem_cons:=@List.mem_cons
theorem Zz:type_of% @Nat.le_trans:=@Nat.le_trans
theorem ZA:type_of% @Option.map_eq_some_iff:=@Option.map_eq_some_iff
theorem ZB:type_of% @List.drop_drop:=@List.drop_drop
theorem ZC:type_of% @List.getElem?_set_self:=@List.getElem?_set_self
theorem ZD:type_of% @List.getElem?_append_right:=@List.getElem?_append_right
theorem ZE:type_of% @List.take_succ_cons:=@List.take_succ_cons
theorem ZF:type_of% @List.take_left':=@List.take_left'
theorem ZG:type_of% @List.mem_cons_self:=@List.mem_cons_self
theorem ZH:type_of% @Array.mem_of_getElem?:=@Array.mem_of_getElem?
theorem ZI:type_of% @Nat.mul_le_mul:=@Nat.mul_le_mul
theorem ZJ:type_of% @Bool.false_eq_true:=@Bool.false_eq_true
theorem ZK:type_of% @Nat.zero_add:=@Nat.zero_add
theorem ZL:type_of% @List.append_nil:=@List.append_nil
theorem ZM:type_of% @Nat.eq_of_beq_eq_true:=@Nat.eq_of_beq_eq_true
theorem ZN:type_of% @decide_eq_true_eq:=@decide_eq_true_eq
theorem ZO:type_of% @List.mem_iff_getElem?:=@List.mem_iff_getElem?
theorem ZP:type_of% @Nat.mul_le_mul_right:=@Nat.mul_le_mul_right
theorem ZQ:type_of% @List.getElem?_drop:=@List.getElem?_drop
theorem ZR:type_of% @List.all_cons:=@List.all_cons
theorem ZS:type_of% @List.all_nil:=@List.all_nil
theorem ZT:type_of% @List.getElem?_take:=@List.getElem?_take
theorem ZU:type_of% @List.getElem?_map:=@List.getElem?_map
theorem ZV:type_of% @List.map_cons:=@List.map_cons
theorem ZW:type_of% @List.take_length:=@List.take_length
theorem ZX:type_of% @List.drop_succ_cons:=@List.drop_succ_cons
theorem ZY:type_of% @List.take_append_drop:=@List.take_append_drop
theorem ZZ:type_of% @List.getElem?_append_left:=@List.getElem?_append_left
theorem Z0:type_of% @Nat.min_eq_left:=@Nat.min_eq_left
theorem Z1:type_of% @decide_eq_true:=@decide_eq_true
theorem Z2:type_of% @List.eq_nil_of_length_eq_zero:=@List.eq_nil_of_length_eq_zero
theorem Z3:type_of% @List.drop_of_length_le:=@List.drop_of_length_le
theorem Z4:type_of% @List.ext_getElem?:=@List.ext_getElem?
theorem Z5:type_of% @List.length_cons:=@List.length_cons
theorem Z6:type_of% @List.mem_append:=@List.mem_append
theorem Z7:type_of% @Array.getD_eq_getD_getElem?:=@Array.getD_eq_getD_getElem?
theorem Z8:type_of% @List.take_add_one:=@List.take_add_one
theorem Z9:type_of% @Nat.le_max_left:=@Nat.le_max_left
theorem zd:type_of% @List.mem_map:=@List.mem_map
theorem ze:type_of% @Nat.min_def:=@Nat.min_def
theorem zf:type_of% @List.take_append:=@List.take_append
theorem zi:type_of% @List.length_append:=@List.length_append
theorem zj:type_of% @of_decide_eq_true:=@of_decide_eq_true
theorem zk:type_of% @Nat.le_max_right:=@Nat.le_max_right
theorem zl:type_of% @Array.getElem?_modify:=@Array.getElem?_modify
theorem zm:type_of% @List.getElem?_set_ne:=@List.getElem?_set_ne
theorem zn:type_of% @Nat.lt_succ_self:=@Nat.lt_succ_self
theorem zo:type_of% @Array.getElem?_eq_getElem:=@Array.getElem?_eq_getElem
theorem zp:type_of% @List.pairwise_cons:=@List.pairwise_cons
theorem zq:type_of% @List.take_left:=@List.take_left
theorem zu:type_of% @List.take_zero:=@List.take_zero
theorem zx:type_of% @List.mem_range:=@List.mem_range
theorem zy:type_of% @Option.isSome_none:=@Option.isSome_none
theorem zz:type_of% @Bool.not_eq_true':=@Bool.not_eq_true'
theorem zA:type_of% @List.getElem?_cons_succ:=@List.getElem?_cons_succ
theorem zB:type_of% @Int.eq_ofNat_of_zero_le:=@Int.eq_ofNat_of_zero_le
theorem zC:type_of% @List.drop_eq_getElem_cons:=@List.drop_eq_getElem_cons

abbrev Sh:=Option Nat
def Sh.size:Sh->Nat
 |none=>1
 |some n=>n

inductive PV where
 |bool (b:Bool)
 |int (k:IntKind) (n:Int)
 |str (s:List UInt8)
 |agg (l:List (Sh × PV))
 |sl (sh:Sh) (es:List PV)
 |func (fn:Fn)
 |nilfunc
 |nilptr
 |nilmap
 |iface (t:TypeId) (sh:Sh) (v:PV)
 |niliface
 deriving Inhabited

inductive AV where
 |undef
 |pv (sh:Sh) (p:PV)
 |agg (l:List (Sh × AV))
 |tsl (sh:Sh) (es:List PV)
 |sl (sh:Sh) (r ver off len:Nat)
 |ptr (r off:Nat)
 |eptr (sh:Sh) (r ver i off:Nat)
 |iptr (sh:Sh) (p:PV) (off:Nat)
 |map (r:Nat)
 |func (fn:Fn) (first captured:List AV)
 |iface (t:TypeId) (v:AV)
 |tuple (l:List AV)
 |yield (r:Nat)
 |slv (sh:Sh) (r ver off len:Nat)
 |epv (sh:Sh) (r ver i off:Nat)
 |nilv (sh:Sh)
 deriving Inhabited

inductive AObj where
 |box (sh:Sh) (v:AV)
 |arr (sh:Sh) (es:List PV) (fz:Bool)
 |arv (sh:Sh) (es:List AV)
 |map (sh:Sh) (es:List (PV × PV))
 |loop (f:Nat) (ps:List Nat) (env:List (Nat × AV)) (busy:Bool)
 deriving Inhabited

abbrev Heap:=List AObj
abbrev Fr:=List (Nat × AV)

def Fr.look:Fr->Nat->Option AV
 |[],_=>none
 |(k,v)::r,j=>if k=j then some v else Fr.look r j
def Fr.keep(fr:Fr):List Nat->Fr
 |[]=>[]
 |k::ks=>match fr.look k with
  |some v=>(k,v)::Fr.keep fr ks
  |none=>Fr.keep fr ks

def lim:Nat:=1073741824

def AV.plain:AV->Bool
 | .undef=>false
 | .tuple _=>false
 |_=>true

def pures:List (Sh × AV)->Option (List (Sh × PV))
 |[]=>some []
 |(sh,.pv _ p)::r=>match pures r with
  |some l=>some ((sh,p)::l)
  |none=>none
 |_::_=>none
def total{α:Type}:List (Sh × α)->Nat
 |[]=>0
 |x::r=>x.1.size+total r
def AV.ofComps(l:List (Sh × AV)):AV:=
 match pures l with
 |some ps=>.pv (some (total l)) (.agg ps)
 |none=>.agg l
def AV.comps:AV->Option (List (Sh × AV))
 | .agg l=>some l
 | .pv _ (.agg l)=>some (l.map fun x=>(x.1,.pv x.1 x.2))
 |_=>none
def AV.shp:AV->Sh
 | .pv sh _=>sh
 | .agg l=>some (total l)
 |_=>none

def PV.part:Nat->PV->Nat->Sh->Option PV
 |0,_,_,_=>none
 |d+1,.agg l,off,sh=>go d off sh l
 |_,_,_,_=>none
where
 go (d:Nat) (off:Nat) (sh:Sh):List (Sh × PV)->Option PV
 |[]=>none
 |(s,p)::r=>
  if off=0/\s=sh then some p
  else if off<s.size then PV.part d p off sh
  else go d (off - s.size) sh r
def AV.part:Nat->AV->Nat->Sh->Option AV
 |0,_,_,_=>none
 |d+1,.agg l,off,sh=>go d off sh l
 |d+1,.pv _ p,off,sh=>match PV.part (d+1) p off sh with
  |some q=>some (.pv sh q)
  |none=>none
 |_,_,_,_=>none
where
 go (d:Nat) (off:Nat) (sh:Sh):List (Sh × AV)->Option AV
 |[]=>none
 |(s,p)::r=>
  if off=0/\s=sh then some p
  else if off<s.size then AV.part d p off sh
  else go d (off - s.size) sh r

def PV.upd:Nat->PV->Nat->Sh->PV->Option PV
 |0,_,_,_,_=>none
 |d+1,.agg l,off,sh,v=>match go d off sh v l with
  |some l'=>some (.agg l')
  |none=>none
 |_,_,_,_,_=>none
where
 go (d:Nat) (off:Nat) (sh:Sh) (v:PV):List (Sh × PV)->Option (List (Sh × PV))
 |[]=>none
 |(s,p)::r=>
  if off=0/\s=sh then some ((s,v)::r)
  else if off<s.size then match PV.upd d p off sh v with
   |some p'=>some ((s,p')::r)
   |none=>none
  else match go d (off - s.size) sh v r with
   |some r'=>some ((s,p)::r')
   |none=>none
def AV.updGo(f:AV->Nat->Option AV)(sh:Sh)(v:AV):Nat->List (Sh × AV)->Option (List (Sh × AV))
 |_,[]=>none
 |off,(s,p)::r=>
  if off=0/\s=sh then some ((s,v)::r)
  else if off<s.size then match f p off with
   |some p'=>some ((s,p')::r)
   |none=>none
  else match AV.updGo f sh v (off - s.size) r with
   |some r'=>some ((s,p)::r')
   |none=>none
def AV.upd:Nat->AV->Nat->Sh->AV->Option AV
 |0,_,_,_,_=>none
 |d+1,v,off,sh,x=>match v.comps with
  |none=>none
  |some l=>match AV.updGo (fun p o=>AV.upd d p o sh x) sh x off l with
   |some l'=>some (AV.ofComps l')
   |none=>none
abbrev AV.upd.go(d off:Nat)(sh:Sh)(x:AV)(l:List (Sh × AV)):Option (List (Sh × AV)):=AV.updGo (fun p o=>AV.upd d p o sh x) sh x off l

def deep:Nat:=8

def AV.freeze0:Nat->AV->Heap->Option (PV × Heap)
 |0,_,_=>none
 |_+1,.pv _ p,hp=>some (p,hp)
 |_+1,.tsl sh es,hp=>some (.sl sh es,hp)
 |_+1,.sl _ r ver off len,hp=>match hp[r]? with
  |some (.arr sh es _)=>
   if ver=es.length/\off=0/\len=es.length then some (.sl sh es,hp.set r (.arr sh es true))
   else if ver=es.length/\off+len<=es.length then some (.sl sh ((es.drop off).take len),hp.set r (.arr sh es true))
   else none
  |_=>none
 |d+1,.agg l,hp=>match go d l hp with
  |some (ps,hp')=>some (.agg ps,hp')
  |none=>none
 |_+1,.nilv sh,hp=>some (.sl sh [],hp)
 |_,_,_=>none
where
 go (d:Nat):List (Sh × AV)->Heap->Option (List (Sh × PV) × Heap)
 |[],hp=>some ([],hp)
 |(s,v)::r,hp=>match AV.freeze0 d v hp with
  |none=>none
  |some (p,hp1)=>match go d r hp1 with
   |some (ps,hp2)=>some ((s,p)::ps,hp2)
   |none=>none
def AV.freeze:Nat->AV->Heap->Option (PV × Heap)
 |0,_,_=>none
 |_+1,.pv _ p,hp=>some (p,hp)
 |_+1,.tsl sh es,hp=>some (.sl sh es,hp)
 |_+1,.sl _ r ver off len,hp=>match hp[r]? with
  |some (.arr sh es _)=>
   if ver=es.length/\off=0/\len=es.length then some (.sl sh es,hp.set r (.arr sh es true))
   else if ver=es.length/\off+len<=es.length then some (.sl sh ((es.drop off).take len),hp.set r (.arr sh es true))
   else none
  |_=>none
 |d+1,.agg l,hp=>match go d l hp with
  |some (ps,hp')=>some (.agg ps,hp')
  |none=>none
 |d+1,.slv _ r ver off len,hp=>match hp[r]? with
  |some (.arv sh es)=>if ver=es.length/\off+len<=es.length then match AV.freeze0.go d (es.map fun e=>(sh,e)) hp with
    |some (ps,hp1)=>match hp1[r]? with
     |some (.arv _ es1)=>if es1.length=es.length then some (.sl sh (((ps.map (·.2)).drop off).take len),hp1.set r (.arr sh (ps.map (·.2)) true)) else none
     |_=>none
    |none=>none
   else none
  |some (.arr sh es true)=>if ver=es.length/\off+len<=es.length then some (.sl sh ((es.drop off).take len),hp) else none
  |_=>none
 |_+1,.nilv sh,hp=>some (.sl sh [],hp)
 |_,_,_=>none
where
 go (d:Nat):List (Sh × AV)->Heap->Option (List (Sh × PV) × Heap)
 |[],hp=>some ([],hp)
 |(s,v)::r,hp=>match AV.freeze d v hp with
  |none=>none
  |some (p,hp1)=>match go d r hp1 with
   |some (ps,hp2)=>some ((s,p)::ps,hp2)
   |none=>none
def zZ:List AV->Heap->Option (List (Sh × PV) × Heap)
 |[],hp=>some ([],hp)
 |v::r,hp=>match AV.freeze deep v hp with
  |none=>none
  |some (p,hp1)=>match zZ r hp1 with
   |some (ps,hp2)=>some ((v.shp,p)::ps,hp2)
   |none=>none
def pvs(l:List (Sh × PV)):List AV:=l.map fun x=>.pv x.1 x.2

def AV.weaken:Nat->AV->Option PV
 |0,_=>none
 |_+1,.pv _ p=>some p
 |_+1,.tsl sh es=>some (.sl sh es)
 |_+1,.nilv sh=>some (.sl sh [])
 |d+1,.agg l=>match go d l with
  |some ps=>some (.agg ps)
  |none=>none
 |_,_=>none
where
 go (d:Nat):List (Sh × AV)->Option (List (Sh × PV))
 |[]=>some []
 |(s,v)::r=>match AV.weaken d v with
  |none=>none
  |some p=>match go d r with
   |some ps=>some ((s,p)::ps)
   |none=>none
def YU:List AV->Option (List (Sh × PV))
 |[]=>some []
 |v::r=>match AV.weaken deep v with
  |none=>none
  |some p=>match YU r with
   |some ps=>some ((v.shp,p)::ps)
   |none=>none
def YG(sh:Sh):List (Sh × PV)->Option (List PV)
 |[]=>some []
 |(s,p)::r=>if s=sh then match YG sh r with
   |some l=>some (p::l)
   |none=>none
  else none

def zR:List (Sh × AV)->Heap->List (Sh × AV) × Heap
 |[],hp=>([],hp)
 |(s,.tsl sh [])::r,hp=>if 0<sh.size then
   match zR r (hp++[.arr sh [] false]) with
   |(l,hp')=>((s,.sl sh hp.length 0 0 0)::l,hp')
  else match zR r hp with
   |(l,hp')=>((s,.tsl sh [])::l,hp')
 |x::r,hp=>match zR r hp with
  |(l,hp')=>(x::l,hp')
def AV.own:AV->Heap->AV × Heap
 | .tsl sh [],hp=>if 0<sh.size then(.sl sh hp.length 0 0 0,hp++[.arr sh [] false]) else(.tsl sh [],hp)
 | .agg l,hp=>match zR l hp with
  |(l',hp')=>(.agg l',hp')
 |v,hp=>(v,hp)

inductive AOp where
 |mv
 |nilsl (sh:Sh)
 |pick
 |not
 |neg
 |bin (op:BinOp)
 |binb (op:BinOp)
 |alloc (sh:Sh) (zero:AV)
 |box (sh:Sh)
 |build (zero:List (Sh × AV)) (idx:List Nat)
 |bslice (sh:Sh)
 |bslicep (sh:Sh)
 |appendp (sh:Sh)
 |load (sh:Sh)
 |store (sh:Sh)
 |faddr (off:Nat)
 |iaddr (sh:Sh)
 |iaddrA (sh:Sh) (n:Nat)
 |sindex
 |aindex (n:Nat)
 |field (off:Nat) (sh:Sh)
 |slice (sh:Sh) (lo hi:Bool)
 |sslice (lo hi:Bool)
 |mkslice (sh:Sh) (zero:PV)
 |mkfunc (fn:Fn) (first:Nat)
 |conv (k:IntKind)
 |extract (i:Nat)
 |mkmap (sh:Sh)
 |lookup (s:Bool) (sh:Sh) (zero:AV) (ok:Bool)
 |lookupr (ds:List Nat) (sh:Sh) (zero:AV) (ok:Bool)
 |mapset (s:Bool) (sh:Sh)
 |eqs (neg:Bool) (ds:List Nat)
 |clear (sh:Sh) (zero:PV)
 |len
 |slen
 |mlen
 |append (sh:Sh)
 |min
 |max
 |mkiface (t:TypeId)
 |assert (t:TypeId) (sh:Sh) (zero:AV) (ok:Bool)
 |call
 |callp
 |callh
 |callg
 |calln (n:Nat)
 |bslicen (sh:Sh) (n:Nat)
 |appendn (sh:Sh) (n:Nat)
 |bslovn (sh:Sh) (n:Nat)
 |bslo (sh:Sh)
 |panic
 |nilcheck
 |isnil (neg:Bool)
 |storen (sh:Sh)
 |slice3 (sh:Sh) (lo:Bool)
 |copy (sh:Sh)
 |slnil (neg:Bool)
 |storex (sh:Sh)
 |bslov (sh:Sh)
 |mkslicev (sh:Sh) (zero:AV)
 |appendv (sh:Sh)
 deriving Inhabited

inductive AArg where
 |t (s:Nat)
 |c (v:AV)
 deriving Inhabited

structure AOper where
 dst:Option Nat
 op:AOp
 args:List AArg
 guard:Option (Nat × Bool):=none
 deriving Inhabited

def Fr.arg(fr:Fr):AArg->Option AV
 | .t s=>fr.look s
 | .c v=>some v
def Fr.argsOf(fr:Fr):List AArg->Option (List AV)
 |[]=>some []
 |a::r=>match fr.arg a with
  |none=>none
  |some v=>match Fr.argsOf fr r with
   |some l=>some (v::l)
   |none=>none

def PV.same:Bool->PV->PV->Option Bool
 |false,.int k a,.int k' b=>if k=k' then some (decide (a=b)) else none
 |true,.str a,.str b=>some (decide (a=b))
 |_,_,_=>none
def Yd:List Nat->List (Sh × PV)->List (Sh × PV)->Option Bool
 |[],[],[]=>some true
 |0::ds,(none,.int k a)::x,(none,.int k' b)::y=>if k=k' then(if a=b then Yd ds x y else some false) else none
 |1::ds,(none,.str a)::x,(none,.str b)::y=>if a=b then Yd ds x y else some false
 |2::ds,(none,.bool a)::x,(none,.bool b)::y=>if a=b then Yd ds x y else some false
 |_,_,_=>none

def yH(op:BinOp)(k:IntKind)(a b:Int):Option PV:=
 match op with
 | .add=>some (.int k (k.wrap (a+b)))
 | .sub=>some (.int k (k.wrap (a - b)))
 | .mul=>some (.int k (k.wrap (a*b)))
 | .quo=>if b=0 then none else some (.int k (k.wrap (a.tdiv b)))
 | .rem=>if b=0 then none else some (.int k (a.tmod b))
 | .eql=>some (.bool (decide (a=b)))
 | .neq=>some (.bool (!decide (a=b)))
 | .lss=>some (.bool (decide (a<b)))
 | .leq=>some (.bool (decide (a<=b)))
 | .gtr=>some (.bool (decide (b<a)))
 | .geq=>some (.bool (decide (b<=a)))
 | .shr=>if b<0 then none else some (.int k (a.fdiv (2 ^ (Nat.min b.toNat k.bits))))
 |_=>none
def Xy(op:BinOp)(a b:List UInt8):Option PV:=
 match op with
 | .add=>if a.length+b.length<=lim then some (.str (a++b)) else none
 | .eql=>some (.bool (decide (a=b)))
 | .neq=>some (.bool (!decide (a=b)))
 | .lss=>some (.bool (Op.bytesLess a b))
 | .leq=>some (.bool (Op.bytesLess a b || decide (a=b)))
 | .gtr=>some (.bool (!(Op.bytesLess a b || decide (a=b))))
 | .geq=>some (.bool (!(Op.bytesLess a b)))
 |_=>none
def QY(op:BinOp)(a b:Bool):Option PV:=
 match op with
 | .eql=>some (.bool (a == b))
 | .neq=>some (.bool (!(a == b)))
 |_=>none
def qv(op:BinOp):PV->PV->Option PV
 | .int k a,.int k' b=>if k=k' then yH op k a b else none
 | .str a,.str b=>Xy op a b
 |_,_=>none

def Kr:List AV->Option (List (Sh × PV))
 |[]=>some []
 | .pv s p::r=>match Kr r with
  |some l=>some ((s,p)::l)
  |none=>none
 |_::_=>none

def Qj:List (Sh × AV)->List Nat->List AV->Option (List (Sh × AV))
 |l,[],[]=>some l
 |l,i::is,v::vs=>match l[i]? with
  |some (sh,_)=>if v.shp=sh/\v.plain=true then Qj (l.set i (sh,v)) is vs else none
  |none=>none
 |_,_,_=>none

def aload(sh:Sh)(hp:Heap):AV->Option AV
 | .ptr r off=>match hp[r]? with
  |some (.box s v)=>if off=0/\s=sh then some v else AV.part deep v off sh
  |_=>none
 | .iptr s p off=>if off=0/\s=sh then some (.pv sh p) else match PV.part deep p off sh with
  |some q=>some (.pv sh q)
  |none=>none
 | .eptr _ r ver i off=>match hp[r]? with
  |some (.arr s es _)=>if ver=es.length then match es[i]? with
   |some p=>if off=0/\s=sh then some (.pv sh p) else match PV.part deep p off sh with
    |some q=>some (.pv sh q)
    |none=>none
   |none=>none
   else none
  |_=>none
 | .epv _ r ver i off=>match hp[r]? with
  |some (.arv s es)=>if ver=es.length then match es[i]? with
   |some v=>if off=0/\s=sh then some v else AV.part deep v off sh
   |none=>none
   else none
  |some (.arr s es true)=>if ver=es.length then match es[i]? with
   |some p=>if off=0/\s=sh then some (.pv sh p) else match PV.part deep p off sh with
    |some q=>some (.pv sh q)
    |none=>none
   |none=>none
   else none
  |_=>none
 |_=>none

def AV.refsIn:AV->List Nat
 | .undef=>[]
 | .pv _ _=>[]
 | .tsl _ _=>[]
 | .sl _ r _ _ _=>[r]
 | .ptr r _=>[r]
 | .eptr _ r _ _ _=>[r]
 | .iptr _ _ _=>[]
 | .map r=>[r]
 | .agg l=>go l
 | .func _ f c=>gol f++gol c
 | .iface _ v=>v.refsIn
 | .tuple l=>gol l
 | .yield r=>[r]
 | .slv _ r _ _ _=>[r]
 | .epv _ r _ _ _=>[r]
 | .nilv _=>[]
where
 go:List (Sh × AV)->List Nat
 |[]=>[]
 |(_,v)::r=>v.refsIn++go r
 gol:List AV->List Nat
 |[]=>[]
 |v::r=>v.refsIn++gol r

def QZ:List (Nat × AV)->List Nat
 |[]=>[]
 |(_,v)::r=>v.refsIn++QZ r
def AObj.refs:AObj->List Nat
 | .box _ v=>v.refsIn
 | .loop _ _ env _=>QZ env
 | .arv _ es=>AV.refsIn.gol es
 |_=>[]

def astore(sh:Sh)(b:Nat)(hp:Heap):AV->AV->Option Heap
 | .ptr r off,v=>match hp[r]? with
  |some (.box s old)=>
   if v.plain=false\/v.shp≠sh then none
   else if b<=r then match v.own hp with
    |(v',hp1)=>if off=0/\s=sh then some (hp1.set r (.box s v')) else match AV.upd deep old off sh v' with
     |some new=>some (hp1.set r (.box s new))
     |none=>none
   else if v.refsIn.all (fun q=>old.refsIn.contains q)=true then
    if off=0/\s=sh then some (hp.set r (.box s v)) else match AV.upd deep old off sh v with
     |some new=>some (hp.set r (.box s new))
     |none=>none
   else none
  |_=>none
 | .eptr _ r ver i off,v=>if v.shp≠sh then none else match AV.freeze deep v hp with
  |none=>none
  |some (p,hp1)=>match hp1[r]? with
   |some (.arr s es false)=>if ver=es.length then match es[i]? with
    |some old=>if off=0/\s=sh then some (hp1.set r (.arr s (es.set i p) false)) else match PV.upd deep old off sh p with
     |some new=>some (hp1.set r (.arr s (es.set i new) false))
     |none=>none
    |none=>none
    else none
   |_=>none
 | .epv _ r ver i off,v=>if v.plain=false\/v.shp≠sh then none else match hp[r]? with
  |some (.arv s es)=>if ver=es.length then match es[i]? with
   |some old=>match(if off=0/\s=sh then some v else AV.upd deep old off sh v) with
    |some new=>if b<=r\/(new.refsIn.all fun q=>old.refsIn.contains q)=true then some (hp.set r (.arv s (es.set i new))) else none
    |none=>none
   |none=>none
   else none
  |_=>none
 |_,_=>none

def elems(hp:Heap):AV->Option (Sh × List PV)
 | .pv _ (.sl sh es)=>some (sh,es)
 | .tsl sh es=>some (sh,es)
 | .sl _ r ver off len=>match hp[r]? with
  |some (.arr sh es _)=>if ver=es.length then
    if off=0/\len=es.length then some (sh,es)
    else if off+len<=es.length then some (sh,(es.drop off).take len) else none
   else none
  |_=>none
 | .slv _ r ver off len=>match hp[r]? with
  |some (.arr sh es true)=>if ver=es.length then
    if off=0/\len=es.length then some (sh,es)
    else if off+len<=es.length then some (sh,(es.drop off).take len) else none
   else none
  |_=>none
 | .nilv sh=>some (sh,[])
 |_=>none
def elemsv(hp:Heap):AV->Option (Sh × List AV)
 | .slv s r ver off len=>match hp[r]? with
  |some (.arv sh es)=>if ver=es.length then
    if off=0/\len=es.length then some (sh,es)
    else if off+len<=es.length then some (sh,(es.drop off).take len) else none
   else none
  |_=>match elems hp (.slv s r ver off len) with
   |some (sh,es)=>some (sh,es.map (.pv sh))
   |none=>none
 |v=>match elems hp v with
  |some (sh,es)=>some (sh,es.map (.pv sh))
  |none=>none
def Xz(b r:Nat)(old new:List AV):Bool:=decide (b<=r) || (AV.refsIn.gol new).all fun q=>(AV.refsIn.gol old).contains q
def aappendv(sh:Sh)(b:Nat)(hp:Heap)(s x:AV):Option (AV × Heap):=
 match elemsv hp x with
 |none=>none
 |some (shx,new)=>
  if(shx=sh\/new=[])/\0<sh.size then
  match s with
  | .nilv s0=>
   if new=[] then some (.nilv s0,hp)
   else if new.length<=lim then some (.slv sh hp.length new.length 0 new.length,hp++[.arv sh new]) else none
  | .tsl s0 es=>
   if s0=sh/\new=[] then some (.tsl s0 es,hp)
   else if s0=sh/\new≠[]/\es.length+new.length<=lim then some (.slv sh hp.length (es.length+new.length) 0 (es.length+new.length),hp++[.arv sh (es.map (.pv sh)++new)])
   else none
  | .slv _ r ver off len=>match hp[r]? with
   |some (.arv s0 es)=>
    if s0=sh/\ver=es.length/\off=0/\Xz b r es new=true then
     if len+new.length<=lim then
      if len=es.length then some (.slv sh r (es.length+new.length) 0 (es.length+new.length),hp.set r (.arv sh (es++new)))
      else if len+new.length<=es.length then some (.slv sh r ver 0 (len+new.length),hp.set r (.arv sh (es.take len++new++es.drop (len+new.length))))
      else if len<es.length then some (.slv sh r (len+new.length) 0 (len+new.length),hp.set r (.arv sh (es.take len++new)))
      else none
     else none
    else none
   |_=>none
  |_=>none
  else none

def aappend(sh:Sh)(hp:Heap)(s x:AV):Option (AV × Heap):=
 match elems hp x with
 |none=>none
 |some (shx,new)=>
  if shx=sh\/new=[] then
  match s with
  | .tsl s0 es=>
   if s0=sh\/es=[] then
   if new=[] then some (s,hp)
   else if es.length+new.length<=lim then some (.sl sh hp.length (es.length+new.length) 0 (es.length+new.length),hp++[.arr sh (es++new) false])
   else none else none
  | .sl _ r ver off len=>match hp[r]? with
   |some (.arr s0 es false)=>
    if s0=sh/\ver=es.length/\off=0 then
     if len+new.length<=lim then
      if len=es.length then some (.sl sh r (es.length+new.length) 0 (es.length+new.length),hp.set r (.arr sh (es++new) false))
      else if len+new.length<=es.length then some (.sl sh r ver 0 (len+new.length),hp.set r (.arr sh (es.take len++new++es.drop (len+new.length)) false))
      else if len<es.length then some (.sl sh r (len+new.length) 0 (len+new.length),hp.set r (.arr sh (es.take len++new) false))
      else none
     else none
    else none
   |_=>none
  |_=>none
  else none

def aindex(sh:Sh)(i:Int):AV->Option AV
 | .pv _ (.sl s es)=>if 0<=i/\s=sh then match es[i.toNat]? with
   |some p=>some (.iptr sh p 0)
   |none=>none
  else none
 | .tsl s es=>if 0<=i/\s=sh then match es[i.toNat]? with
   |some p=>some (.iptr sh p 0)
   |none=>none
  else none
 | .sl s r ver off len=>if 0<=i/\i<len/\s=sh then some (.eptr sh r ver (off+i.toNat) 0) else none
 | .slv s r ver off len=>if 0<=i/\i<len/\s=sh then some (.epv sh r ver (off+i.toNat) 0) else none
 |_=>none

def aslice(sh:Sh)(lo:Int)(hi:Option Int):AV->Option AV
 | .pv _ (.sl s es)=>
  match hi with
  |none=>if(s=sh\/es=[])/\0<=lo/\lo<=es.length then some (.pv none (.sl s (es.drop lo.toNat))) else none
  |some h=>if(s=sh\/es=[])/\0<=lo/\lo<=h/\h<=es.length then some (.pv none (.sl s ((es.drop lo.toNat).take (h.toNat - lo.toNat)))) else none
 | .tsl s es=>
  match hi with
  |none=>if(s=sh\/es=[])/\0<=lo/\lo<=es.length then some (.tsl s (es.drop lo.toNat)) else none
  |some h=>if(s=sh\/es=[])/\0<=lo/\lo<=h/\h<=es.length then some (.pv none (.sl s ((es.drop lo.toNat).take (h.toNat - lo.toNat)))) else none
 | .sl s r ver off len=>
  match hi with
  |none=>if s=sh/\0<=lo/\lo<=len then some (.sl sh r ver (off+lo.toNat) (len - lo.toNat)) else none
  |some h=>if s=sh/\0<=lo/\lo<=h/\(h<=len\/off+h<=ver) then some (.sl sh r ver (off+lo.toNat) (h.toNat - lo.toNat)) else none
 | .slv s r ver off len=>
  match hi with
  |none=>if s=sh/\0<=lo/\lo<=len then some (.slv sh r ver (off+lo.toNat) (len - lo.toNat)) else none
  |some h=>if s=sh/\0<=lo/\lo<=h/\(h<=len\/off+h<=ver) then some (.slv sh r ver (off+lo.toNat) (h.toNat - lo.toNat)) else none
 |_=>none

def afind(s:Bool)(k:PV):List (PV × PV)->Option (Option PV)
 |[]=>some none
 |(k',v)::r=>match PV.same s k k' with
  |none=>none
  |some true=>some (some v)
  |some false=>afind s k r
def aput(s:Bool)(k v:PV):List (PV × PV)->Option (List (PV × PV))
 |[]=>some [(k,v)]
 |(k',v')::r=>match PV.same s k k' with
  |none=>none
  |some true=>some ((k,v)::r)
  |some false=>match aput s k v r with
   |some r'=>some ((k',v')::r')
   |none=>none


def Yq(hp:Heap):Option AV->Option (AV × Heap)
 |some v=>some (v,hp)
 |none=>none

def Qk:List AV->Option AV
 |[.pv _ (.bool c),x,y]=>some (bif c then x else y)
 |_=>none
def sNot:List AV->Option AV
 |[.pv _ (.bool x)]=>some (.pv none (.bool !x))
 |_=>none
def sNeg:List AV->Option AV
 |[.pv _ (.int k x)]=>some (.pv none (.int k (k.wrap (0 - x))))
 |_=>none
def sBin(o:BinOp):List AV->Option AV
 |[.pv _ x,.pv _ y]=>match qv o x y with
  |some p=>some (.pv none p)
  |none=>none
 |_=>none
def Ql(o:BinOp):List AV->Option AV
 |[.pv _ (.bool x),.pv _ (.bool y)]=>match QY o x y with
  |some p=>some (.pv none p)
  |none=>none
 |_=>none
def sEqs(_:Bool)(_:List Nat)(_:List AV):Option AV:=none
def zQ(zero:List (Sh × AV))(idx:List Nat)(vs:List AV):Option AV:=
 if vs.all AV.plain=true then match Qj zero idx vs with
  |some l=>some (AV.ofComps l)
  |none=>none
 else none
def xF(sh:Sh)(vs:List AV):Option AV:=
 match YU vs with
 |some ps=>match YG sh ps with
  |some es=>some (.tsl sh es)
  |none=>none
 |none=>none
def yO(off:Nat):List AV->Option AV
 |[.ptr r o]=>some (.ptr r (o+off))
 |[.iptr s p o]=>some (.iptr s p (o+off))
 |[.eptr s r ver i o]=>some (.eptr s r ver i (o+off))
 |[.epv s r ver i o]=>some (.epv s r ver i (o+off))
 |_=>none
def zX(sh:Sh):List AV->Option AV
 |[s,.pv _ (.int _ i)]=>aindex sh i s
 |_=>none
def xG(sh:Sh)(n:Nat):List AV->Option AV
 |[.ptr r o,.pv _ (.int _ i)]=>if 0<=i/\i<n then some (.ptr r (o+i.toNat*sh.size)) else none
 |[.iptr s p o,.pv _ (.int _ i)]=>if 0<=i/\i<n then some (.iptr s p (o+i.toNat*sh.size)) else none
 |_=>none
def vI(_:List AV):Option AV:=none
def Qm(n:Nat):List AV->Option AV
 |[.pv _ (.agg l),.pv _ (.int _ i)]=>if 0<=i/\i<n/\l.all (fun x=>x.1.isNone)=true then match l[i.toNat]? with
   |some (_,p)=>some (.pv none p)
   |none=>none
  else none
 |_=>none
def vJ(_:Nat)(_:Sh)(_:List AV):Option AV:=none
def YE(sh:Sh):Bool->Bool->List AV->Option AV
 |false,false,[s]=>aslice sh 0 none s
 |true,false,[s,.pv _ (.int _ l)]=>aslice sh l none s
 |false,true,[s,.pv _ (.int _ h)]=>aslice sh 0 (some h) s
 |true,true,[s,.pv _ (.int _ l),.pv _ (.int _ h)]=>aslice sh l (some h) s
 |_,_,_=>none
def vK(_ _:Bool)(_:List AV):Option AV:=none
def Qn(fn:Fn)(k:Nat)(vs:List AV):Option AV:=
 match vs with
 |[]=>some (.pv none (.func fn))
 |_=>some (.func fn (vs.take k) (vs.drop k))
def Qo(k:IntKind):List AV->Option AV
 |[.pv _ (.int _ n)]=>some (.pv none (.int k (k.wrap n)))
 |_=>none
def Qp(i:Nat):List AV->Option AV
 |[.tuple l]=>l[i]?
 |_=>none
def sMin:List AV->Option AV
 |[.pv _ (.int k x),.pv _ (.int k' y)]=>if k=k' then some (.pv none (.int k (if y<x then y else x))) else none
 |_=>none
def sMax:List AV->Option AV
 |[.pv _ (.int k x),.pv _ (.int k' y)]=>if k=k' then some (.pv none (.int k (if x<y then y else x))) else none
 |_=>none
def Xl(t:TypeId):List AV->Option AV
 |[.pv s p]=>some (.pv none (.iface t s p))
 |_=>none
def PV.bare:PV->PV
 | .agg [(some _,q)]=>q
 |p=>p
def yP(t:TypeId)(sh:Sh)(zero:AV)(ok:Bool):List AV->Option AV
 |[.pv _ (.iface u s p)]=>
  if u=t/\s=sh then some (bif ok then .tuple [.pv s p.bare,.pv none (.bool true)] else .pv s p.bare)
  else if u=t then none
  else bif ok then some (.tuple [zero,.pv none (.bool false)]) else none
 |[.pv _ .niliface]=>bif ok then some (.tuple [zero,.pv none (.bool false)]) else none
 |_=>none
def sLen:List AV->Option AV
 |[.pv _ (.sl _ es)]=>some (.pv none (.int .i64 es.length))
 |[.tsl _ es]=>some (.pv none (.int .i64 es.length))
 |[.sl _ _ _ _ len]=>some (.pv none (.int .i64 len))
 |[.slv _ _ _ _ len]=>some (.pv none (.int .i64 len))
 |[.nilv _]=>some (.pv none (.int .i64 0))
 |_=>none
def Qq:List AV->Option AV
 |[.pv _ (.str s)]=>some (.pv none (.int .i64 s.length))
 |_=>none
def sMv:List AV->Option AV
 |[v]=>some v
 |_=>none
def xi:List AV->Option AV
 |[.ptr r o]=>some (.ptr r o)
 |[.iptr s p o]=>some (.iptr s p o)
 |[.eptr s r ver i o]=>some (.eptr s r ver i o)
 |[.epv s r ver i o]=>some (.epv s r ver i o)
 |_=>none
def xj(neg:Bool):List AV->Option AV
 |[.pv _ (.iface _ _ _)]=>some (.pv none (.bool neg))
 |[.pv _ .niliface]=>some (.pv none (.bool !neg))
 |_=>none
def Qr(neg:Bool):List AV->Option AV
 |[.pv _ (.sl _ (_::_))]=>some (.pv none (.bool neg))
 |[.tsl _ (_::_)]=>some (.pv none (.bool neg))
 |[.sl _ _ _ _ (_+1)]=>some (.pv none (.bool neg))
 |_=>none
def y7(sh:Sh):Bool->List AV->Option AV
 |false,[.pv _ (.sl s es),.pv _ (.int _ h),.pv _ (.int _ m)]=>if(s=sh\/es=[])/\0<=h/\h=m/\h<=es.length then some (.tsl s (es.take h.toNat)) else none
 |true,[.sl _ _ _ _ len,.pv _ (.int _ l),.pv _ (.int _ h),.pv _ (.int _ m)]=>if 0<=l/\l<=h/\h<=m/\m<=len then some .undef else none
 |true,[.slv _ _ _ _ len,.pv _ (.int _ l),.pv _ (.int _ h),.pv _ (.int _ m)]=>if 0<=l/\l<=h/\h<=m/\m<=len then some .undef else none
 |true,[.pv _ (.sl s es),.pv _ (.int _ l),.pv _ (.int _ h),.pv _ (.int _ m)]=>if(s=sh\/es=[])/\0<=l/\l<=h/\h=m/\h<=es.length then some (.tsl s ((es.drop l.toNat).take (h.toNat - l.toNat))) else none
 |_,_=>none

def vL(_:Sh)(_:List AV):Option AV:=none

def spure(op:AOp)(vs:List AV):Option AV:=
 match op with
 | .mv=>sMv vs
 | .len=>sLen vs
 | .slen=>Qq vs
 | .pick=>Qk vs
 | .not=>sNot vs
 | .neg=>sNeg vs
 | .bin o=>sBin o vs
 | .binb o=>Ql o vs
 | .eqs neg ds=>sEqs neg ds vs
 | .build zero idx=>zQ zero idx vs
 | .bslicep sh=>xF sh vs
 | .appendp sh=>vL sh vs
 | .faddr off=>yO off vs
 | .iaddr sh=>zX sh vs
 | .iaddrA sh n=>xG sh n vs
 | .sindex=>vI vs
 | .aindex n=>Qm n vs
 | .field off sh=>vJ off sh vs
 | .slice sh lo hi=>YE sh lo hi vs
 | .sslice lo hi=>vK lo hi vs
 | .mkfunc fn k=>Qn fn k vs
 | .conv k=>Qo k vs
 | .extract i=>Qp i vs
 | .min=>sMin vs
 | .max=>sMax vs
 | .mkiface t=>Xl t vs
 | .assert t sh zero ok=>yP t sh zero ok vs
 | .nilcheck=>xi vs
 | .isnil neg=>xj neg vs
 | .slice3 sh lo=>y7 sh lo vs
 | .slnil neg=>Qr neg vs
 |_=>none
def AOp.isPure:AOp->Bool
 | .mv| .len| .slen| .pick| .not| .neg| .bin _| .binb _| .eqs .. | .build .. | .bslicep _| .appendp _| .faddr _| .iaddr _| .iaddrA .. | .sindex| .aindex _| .field .. | .slice .. | .sslice .. | .mkfunc .. | .conv _| .extract _
 | .min| .max| .mkiface _| .assert .. | .nilcheck| .isnil _| .slice3 .. | .slnil _=>true
 |_=>false

def XN(sh:Sh)(hp:Heap):List AV->Option AV
 |[p]=>aload sh hp p
 |_=>none
def YF(str:Bool)(sh:Sh)(zero:AV)(ok:Bool)(hp:Heap):List AV->Option AV
 |[.map r,.pv _ k]=>match hp[r]? with
  |some (.map s es)=>if s=sh then match afind str k es with
    |some (some v)=>some (bif ok then .tuple [.pv sh v,.pv none (.bool true)] else .pv sh v)
    |some none=>some (bif ok then .tuple [zero,.pv none (.bool false)] else zero)
    |none=>none
   else none
  |_=>none
 |_=>none
def afindr(ds:List Nat)(k:List (Sh × PV)):List (PV × PV)->Option (Option PV)
 |[]=>some none
 |(.agg k',v)::r=>match Yd ds k k' with
  |some true=>match afindr ds k r with
   |some none=>some (some v)
   |_=>none
  |some false=>afindr ds k r
  |none=>none
 |_=>none
def XA(ds:List Nat)(sh:Sh)(zero:AV)(ok:Bool)(hp:Heap):List AV->Option AV
 |[.map r,.pv _ (.agg k)]=>match hp[r]? with
  |some (.map s es)=>if s=sh/\Yd ds k k=some true then match afindr ds k es with
    |some (some v)=>some (bif ok then .tuple [.pv sh v,.pv none (.bool true)] else .pv sh v)
    |some none=>some (bif ok then .tuple [zero,.pv none (.bool false)] else zero)
    |none=>none
   else none
  |_=>none
 |_=>none
def y8(hp:Heap):List AV->Option AV
 |[.map r]=>match hp[r]? with
  |some (.map _ es)=>some (.pv none (.int .i64 es.length))
  |_=>none
 |[.pv _ .nilmap]=>some (.pv none (.int .i64 0))
 |_=>none
def sread(op:AOp)(vs:List AV)(hp:Heap):Option AV:=
 match op with
 | .load sh=>XN sh hp vs
 | .lookup s sh zero ok=>YF s sh zero ok hp vs
 | .lookupr ds sh zero ok=>XA ds sh zero ok hp vs
 | .mlen=>y8 hp vs
 |_=>none
def AOp.isRead:AOp->Bool
 | .load _| .lookup .. | .lookupr .. | .mlen=>true
 |_=>false
def XB(r:Nat):AV->Bool
 | .ptr q _=> !(Nat.beq q r)
 | .iptr .. =>true
 |_=>false
def YV(sh:Sh)(b:Nat)(hp:Heap):List AV->Option (AV × Heap)
 | .ptr r o::v::qs=>if qs.all (XB r)=true then match astore sh b hp (.ptr r o) v with
   |some hp'=>some (.undef,hp')
   |none=>none
  else none
 |_=>none
def xk(sh:Sh)(b:Nat)(hp:Heap):List AV->Option (AV × Heap)
 |[.ptr r o,v,.eptr _ _ _ _ _,.pv _ _]=>match v with
  | .sl _ _ _ _ _| .pv _ _=>match astore sh b hp (.ptr r o) v with
   |some hp'=>some (.undef,hp')
   |none=>none
  |_=>none
 |_=>none
def XO(sh:Sh)(hp:Heap):List AV->Option (AV × Heap)
 |[.sl s r ver off len,x]=>match elems hp x with
  |some (shx,new)=>if s=sh/\(shx=sh\/new=[]) then match hp[r]? with
    |some (.arr s' es false)=>if s'=sh/\ver=es.length/\off+len<=es.length then
      some (.pv none (.int .i64 (Nat.min len new.length)),hp.set r (.arr sh (es.take off++new.take (Nat.min len new.length)++es.drop (off+Nat.min len new.length)) false))
     else none
    |_=>none
   else none
  |none=>none
 |_=>none

def yQ(sh:Sh)(zero:AV)(hp:Heap):List AV->Option (AV × Heap)
 |[]=>if zero.plain=true/\zero.shp=sh then match zero.own (hp++[.box sh zero]) with
   |(v,hp1)=>some (.ptr hp.length 0,hp1.set hp.length (.box sh v))
  else none
 |_=>none
def wBox(sh:Sh)(hp:Heap):List AV->Option (AV × Heap)
 |[v]=>if v.plain=true/\v.shp=sh then match v.own (hp++[.box sh v]) with
   |(v',hp1)=>some (.ptr hp.length 0,hp1.set hp.length (.box sh v'))
  else none
 |_=>none
def YW(sh:Sh)(hp:Heap)(vs:List AV):Option (AV × Heap):=
 match zZ vs hp with
 |some (ps,hp')=>match YG sh ps with
  |some es=>some (.tsl sh es,hp')
  |none=>none
 |none=>none
def XP(sh:Sh)(hp:Heap)(vs:List AV):Option (AV × Heap):=
 match zZ vs hp with
 |some (ps,hp')=>match YG sh ps with
  |some es=>if 0<sh.size then some (.sl sh hp'.length es.length 0 es.length,hp'++[.arr sh es false]) else none
  |none=>none
 |none=>none
def zH(sh:Sh)(b:Nat)(hp:Heap):List AV->Option (AV × Heap)
 |[p,v]=>match astore sh b hp p v with
  |some hp'=>some (.undef,hp')
  |none=>none
 |_=>none
def xH(sh:Sh)(zero:PV)(hp:Heap):List AV->Option (AV × Heap)
 |[.pv _ (.int _ n),.pv _ (.int _ c)]=>if 0<=n/\n<=c/\c<=lim/\0<sh.size then some (.sl sh hp.length n.toNat 0 n.toNat,hp++[.arr sh (List.replicate n.toNat zero) false]) else none
 |_=>none
def yR(str:Bool)(sh:Sh)(hp:Heap):List AV->Option (AV × Heap)
 |[.map r,.pv _ k,v]=>if v.shp=sh then match AV.freeze deep v hp with
   |none=>none
   |some (p,hp1)=>match hp1[r]? with
    |some (.map s es)=>if s=sh then match aput str k p es with
      |some es'=>some (.undef,hp1.set r (.map s es'))
      |none=>none
     else none
    |_=>none
  else none
 |_=>none
def XQ(sh:Sh)(zero:PV)(hp:Heap):List AV->Option (AV × Heap)
 |[.sl _ r ver off len]=>match hp[r]? with
  |some (.arr s es false)=>if s=sh/\ver=es.length/\off+len<=es.length then some (.undef,hp.set r (.arr s (es.take off++List.replicate len zero++es.drop (off+len)) false)) else none
  |_=>none
 |[.slv _ r ver off len]=>match hp[r]? with
  |some (.arv s es)=>if s=sh/\ver=es.length/\off+len<=es.length then some (.undef,hp.set r (.arv s (es.take off++List.replicate len (.pv sh zero)++es.drop (off+len)))) else none
  |_=>none
 |_=>none
def z8(sh:Sh)(hp:Heap):List AV->Option (AV × Heap)
 |[s,x]=>aappend sh hp s x
 |_=>none
def Y9(sh:Sh)(hp:Heap)(vs:List AV):Option (AV × Heap):=
 if 0<sh.size/\vs.all (fun v=>v.plain && decide (v.shp=sh))=true then some (.slv sh hp.length vs.length 0 vs.length,hp++[.arv sh vs]) else none
def xI(sh:Sh)(zero:AV)(hp:Heap):List AV->Option (AV × Heap)
 |[.pv _ (.int _ n),.pv _ (.int _ c)]=>if 0<=n/\n<=c/\c<=lim/\0<sh.size then some (.slv sh hp.length n.toNat 0 n.toNat,hp++[.arv sh (List.replicate n.toNat zero)]) else none
 |_=>none
def yx(sh:Sh)(b:Nat)(hp:Heap):List AV->Option (AV × Heap)
 |[s,x]=>aappendv sh b hp s x
 |_=>none
def YM(sh:Sh)(hp:Heap):Option (AV × Heap):=
 if 0<sh.size then some (.sl sh hp.length 0 0 0,hp++[.arr sh [] false]) else none
def swrite(b:Nat)(op:AOp)(vs:List AV)(hp:Heap):Option (AV × Heap):=
 match op with
 | .nilsl sh=>YM sh hp
 | .alloc sh zero=>yQ sh zero hp vs
 | .box sh=>wBox sh hp vs
 | .bslice sh=>YW sh hp vs
 | .bslo sh=>XP sh hp vs
 | .store sh=>zH sh b hp vs
 | .mkslice sh zero=>xH sh zero hp vs
 | .mkmap sh=>some (.map hp.length,hp++[.map sh []])
 | .mapset s sh=>yR s sh hp vs
 | .clear sh zero=>XQ sh zero hp vs
 | .append sh=>z8 sh hp vs
 | .storen sh=>YV sh b hp vs
 | .copy sh=>XO sh hp vs
 | .storex sh=>xk sh b hp vs
 | .bslov sh=>Y9 sh hp vs
 | .mkslicev sh zero=>xI sh zero hp vs
 | .appendv sh=>yx sh b hp vs
 |_=>none

def astep(b:Nat)(op:AOp)(vs:List AV)(hp:Heap):Option (AV × Heap):=
 bif op.isPure then Yq hp (spure op vs)
 else bif op.isRead then Yq hp (sread op vs hp)
 else swrite b op vs hp

inductive ACode where
 |skip
 |settle (slots:List Nat)
 |doom (ops:List (AOper × Option (List AOper))) (keep:List Nat)
 |region (pan:Bool) (ops:List AOper) (keep:List Nat)
 |seq (a b:ACode)
 |cond (c:AArg) (x y:ACode)
 |block (id:Nat) (c:ACode)
 |loop (keep:List Nat) (c:ACode)
 |exit (id:Nat)
 |ret
 deriving Inhabited

inductive AExit where
 |normal
 |exit (id:Nat)
 |ret
 |panic (v:PV)
 deriving Inhabited

structure St where
 fr:Fr
 hp:Heap

inductive ARes where
 |ret (v:AV)
 |panic (v:PV)
 deriving Inhabited

inductive Kind where
 |fn
 |rnd
 |dfr
 |seq
abbrev Oracle:=Kind->FuncId->List AV->Heap->Option (ARes × Heap)
abbrev Ya:=FuncId->List AV->Heap->Option (ARes × Heap)

mutual
def PV.beq:PV->PV->Bool
 | .bool a,.bool b=>a == b
 | .int k a,.int k' b=>decide (k=k') && decide (a=b)
 | .str a,.str b=>decide (a=b)
 | .agg a,.agg b=>PV.beqc a b
 | .sl s a,.sl s' b=>decide (s=s') && PV.beqs a b
 | .nilfunc,.nilfunc=>true
 | .nilptr,.nilptr=>true
 | .nilmap,.nilmap=>true
 | .niliface,.niliface=>true
 | .func (.func f),.func (.func g)=>Nat.beq f g
 | .iface t s a,.iface t' s' b=>decide (t=t') && decide (s=s') && PV.beq a b
 |_,_=>false
def PV.beqc:List (Sh × PV)->List (Sh × PV)->Bool
 |[],[]=>true
 |x::a,y::b=>decide (x.1=y.1) && PV.beq x.2 y.2 && PV.beqc a b
 |_,_=>false
def PV.beqs:List PV->List PV->Bool
 |[],[]=>true
 |x::a,y::b=>PV.beq x y && PV.beqs a b
 |_,_=>false
end
mutual
def AV.beq:AV->AV->Bool
 | .pv s p,.pv s' q=>decide (s=s') && PV.beq p q
 | .agg a,.agg b=>AV.beqc a b
 | .tsl s a,.tsl s' b=>decide (s=s') && PV.beqs a b
 | .sl s r v o n,.sl s' r' v' o' n'=>decide (s=s') && Nat.beq r r' && Nat.beq v v' && Nat.beq o o' && Nat.beq n n'
 | .ptr r o,.ptr r' o'=>Nat.beq r r' && Nat.beq o o'
 | .eptr s r v i o,.eptr s' r' v' i' o'=>decide (s=s') && Nat.beq r r' && Nat.beq v v' && Nat.beq i i' && Nat.beq o o'
 | .iptr s p o,.iptr s' p' o'=>decide (s=s') && PV.beq p p' && Nat.beq o o'
 | .map r,.map r'=>Nat.beq r r'
 | .yield r,.yield r'=>Nat.beq r r'
 | .func (.func f) a b,.func (.func g) c d=>Nat.beq f g && AV.beqs a c && AV.beqs b d
 | .iface t a,.iface t' b=>decide (t=t') && AV.beq a b
 | .tuple a,.tuple b=>AV.beqs a b
 | .undef,.undef=>true
 | .slv s r v o n,.slv s' r' v' o' n'=>decide (s=s') && Nat.beq r r' && Nat.beq v v' && Nat.beq o o' && Nat.beq n n'
 | .epv s r v i o,.epv s' r' v' i' o'=>decide (s=s') && Nat.beq r r' && Nat.beq v v' && Nat.beq i i' && Nat.beq o o'
 | .nilv s,.nilv s'=>decide (s=s')
 |_,_=>false
def AV.beqc:List (Sh × AV)->List (Sh × AV)->Bool
 |[],[]=>true
 |x::a,y::b=>decide (x.1=y.1) && AV.beq x.2 y.2 && AV.beqc a b
 |_,_=>false
def AV.beqs:List AV->List AV->Bool
 |[],[]=>true
 |x::a,y::b=>AV.beq x y && AV.beqs a b
 |_,_=>false
end
def Fr.beq:Fr->Fr->Bool
 |[],[]=>true
 |x::a,y::b=>Nat.beq x.1 y.1 && AV.beq x.2 y.2 && Fr.beq a b
 |_,_=>false
def PV.beqm:List (PV × PV)->List (PV × PV)->Bool
 |[],[]=>true
 |x::a,y::b=>PV.beq x.1 y.1 && PV.beq x.2 y.2 && PV.beqm a b
 |_,_=>false
def AObj.beq:AObj->AObj->Bool
 | .box s v,.box s' v'=>decide (s=s') && AV.beq v v'
 | .arr s a z,.arr s' b z'=>decide (s=s') && PV.beqs a b && z == z'
 | .arv s a,.arv s' b=>decide (s=s') && AV.beqs a b
 | .map s a,.map s' b=>decide (s=s') && PV.beqm a b
 | .loop f p e z,.loop f' p' e' z'=>Nat.beq f f' && decide (p=p') && Fr.beq e e' && z == z'
 |_,_=>false
def Heap.beq:Heap->Heap->Bool
 |[],[]=>true
 |x::a,y::b=>AObj.beq x y && Heap.beq a b
 |_,_=>false
def Y4(a b:Heap):Bool:=Heap.beq a b

def yn:AV->Option (FuncId × List AV × List AV)
 | .pv _ (.func (.func f))=>some (f,[],[])
 | .func (.func f) first captured=>some (f,first,captured)
 |_=>none

def Fr.dst(fr:Fr)(d:Option Nat)(v:AV):Fr:=
 match d with
 |some d=>(d,v)::fr
 |none=>fr

def AV.bare:AV->Option AV
 | .pv s p=>some (.pv s p)
 | .tuple l=>match Kr l with
  |some ps=>some (.tuple (pvs ps))
  |none=>none
 |_=>none

def yo:List AV->List AV->List AV
 | .tsl s []::r,_::q=>.tsl s []::yo r q
 |_::r,x::q=>x::yo r q
 |_,q=>q
def AV.freezeRes:AV->Heap->Option (AV × Heap)
 | .tuple l,hp=>match zZ l hp with
  |some (ps,hp')=>some (.tuple (pvs ps),hp')
  |none=>none
 |v,hp=>match AV.freeze deep v hp with
  |some (p,hp')=>some (.pv v.shp p,hp')
  |none=>none

def AV.alone(v:AV)(hp:Heap):Option AV:=
 match v.bare with
 |some v'=>some v'
 |none=>match v.freezeRes hp with
  |some (v',_)=>some v'
  |none=>none
inductive OpRes where
 |val (v:AV) (hp:Heap)
 |panic (v:PV) (hp:Heap)

def Ks:Option AObj->Option FuncId
 |some (.loop f _ _ false)=>some f
 |_=>none
def yI(Γ:Oracle)(hp:Heap):List AV->Option OpRes
 | .yield r::azs=>match Ks hp[r]? with
  |some f=>match Γ .rnd f (.yield r::azs) hp with
   |some (.ret v,hp')=>some (.val v hp')
   |_=>none
  |none=>none
 |f::azs=>match yn f with
  |some (g,first,captured)=>match Γ .fn g (first++azs++captured) hp with
   |some (.ret v,hp')=>some (.val v hp')
   |some (.panic v,hp')=>some (.panic v hp')
   |none=>none
  |none=>none
 |[]=>none
def Q0(Γ:Oracle)(hp:Heap):List AV->Option OpRes
 |f::azs=>match yn f with
  |some (g,first,captured)=>match Γ .fn g (first++azs++captured) hp with
   |some (.ret v,hp')=>if Y4 hp' hp=true then some (.val v hp) else none
   |_=>none
  |none=>none
 |[]=>none
def Yy(hp hp':Heap):AV->Bool
 | .ptr r _=>match hp[r]?,hp'[r]? with
  |some a,some b=>AObj.beq a b
  |_,_=>false
 | .iptr .. =>true
 |_=>false
def qw(sh:Sh)(hp:Heap)(n:Nat)(vs:List AV):Option OpRes:=
 match YW sh hp (vs.drop n) with
 |some (v,hp')=>if(vs.take n).all (Yy hp hp')=true then some (.val v hp') else none
 |none=>none
def JP(sh:Sh)(hp:Heap)(n:Nat)(vs:List AV):Option OpRes:=
 match z8 sh hp (vs.drop n) with
 |some (v,hp')=>if(vs.take n).all (Yy hp hp')=true then some (.val v hp') else none
 |none=>none
def JQ(sh:Sh)(hp:Heap)(n:Nat)(vs:List AV):Option OpRes:=
 match Y9 sh hp (vs.drop n) with
 |some (v,hp')=>if(vs.take n).all (Yy hp hp')=true then some (.val v hp') else none
 |none=>none
def Q1(Γ:Oracle)(hp:Heap)(n:Nat)(vs:List AV):Option OpRes:=
 match yI Γ hp (vs.drop n) with
 |some (.val v hp')=>if(vs.take n).all (Yy hp hp')=true then some (.val v hp') else none
 |r=>r
def xJ(Γ:Oracle)(hp:Heap)(vs:List AV):Option OpRes:=
 match yI Γ hp vs with
 |some (.val v hp')=>if Y4 (hp'.take hp.length) hp=true then some (.val v hp') else none
 |_=>none
def xl(Γ:Oracle)(hp:Heap):List AV->Option OpRes
 | .pv _ (.func (.func g))::azs=>match YU azs with
  |some ps=>match Γ .fn g (yo azs (pvs ps)) [] with
   |some (.ret v,hp')=>match v.alone hp' with
    |some v'=>some (.val v' hp)
    |none=>none
   |_=>none
  |none=>none
 |_=>none
def ya(Γ:Oracle)(hp:Heap):List AV->Option OpRes
 | .pv _ (.func (.func g))::azs=>match YU azs with
  |some ps=>match Γ .fn g (yo azs (pvs ps)) [] with
   |some (.ret v,hp')=>match v.alone hp' with
    |some v'=>some (.val v' hp)
    |none=>none
   |some (.panic p,_)=>some (.panic p hp)
   |none=>none
  |none=>none
 |_=>none
def vN(hp:Heap):List AV->Option OpRes
 |[.pv _ (.iface t s p)]=>some (.panic (.iface t s p) hp)
 |_=>none

def aOp(Γ:Oracle)(b:Nat)(op:AOp)(vs:List AV)(hp:Heap):Option OpRes:=
 match op with
 | .call=>yI Γ hp vs
 | .callp=>xl Γ hp vs
 | .callh=>Q0 Γ hp vs
 | .callg=>xJ Γ hp vs
 | .calln n=>Q1 Γ hp n vs
 | .bslicen sh n=>qw sh hp n vs
 | .appendn sh n=>JP sh hp n vs
 | .bslovn sh n=>JQ sh hp n vs
 | .panic=>vN hp vs
 |op=>match astep b op vs hp with
  |some (v,hp')=>some (.val v hp')
  |none=>none

def wants(fr:Fr):Option (Nat × Bool)->Option Bool
 |none=>some true
 |some (s,want)=>match fr.look s with
  |some (.pv _ (.bool b))=>some (b == want)
  |some .undef=>some false
  |_=>none

def aops(Γ:Oracle)(b:Nat):List AOper->Fr->Heap->Option (AExit × Fr × Heap)
 |[],fr,hp=>some (.normal,fr,hp)
 |o::rest,fr,hp=>match wants fr o.guard with
  |none=>none
  |some false=>aops Γ b rest (fr.dst o.dst .undef) hp
  |some true=>match fr.argsOf o.args with
   |none=>none
   |some vs=>match aOp Γ b o.op vs hp with
    |some (.val v hp')=>aops Γ b rest (fr.dst o.dst v) hp'
    |some (.panic v hp')=>some (.panic v,fr,hp')
    |none=>none

def YX(Γ:Oracle)(b:Nat):List (AOper × Option (List AOper))->Fr->Heap->Option (AExit × Fr × Heap)
 |[],fr,hp=>some (.normal,fr,hp)
 |(o,none)::rest,fr,hp=>match wants fr o.guard with
  |none=>none
  |some false=>YX Γ b rest (fr.dst o.dst .undef) hp
  |some true=>match fr.argsOf o.args with
   |none=>none
   |some vs=>match aOp Γ b o.op vs hp with
    |some (.val v hp')=>YX Γ b rest (fr.dst o.dst v) hp'
    |_=>none
 |(o,some later)::rest,fr,hp=>match fr.argsOf o.args with
  |none=>none
  |some vs=>match ya Γ hp vs with
   |some (.val v _)=>YX Γ b rest (fr.dst o.dst v) hp
   |some (.panic p _)=>match aops Γ b later fr hp with
    |some (.normal,_,_)=>some (.panic p,[],hp)
    |_=>none
   |none=>none

def settle:List Nat->St->Option St
 |[],st=>some st
 |s::r,st=>match st.fr.look s with
  |some (.ptr q _)=>match st.hp[q]? with
   |some (.box sh v)=>match AV.freeze deep v st.hp with
    |some (p,hp')=>settle r ⟨st.fr,hp'.set q (.box sh (.pv sh p))⟩
    |none=>none
   |_=>settle r st
  |some (.sl s' q ver off len)=>match AV.freeze deep (.sl s' q ver off len) st.hp with
   |some (p,hp')=>settle r ⟨(s,.pv none p)::st.fr,hp'⟩
   |none=>none
  |some (.tsl sh es)=>settle r ⟨(s,.pv none (.sl sh es))::st.fr,st.hp⟩
  |some (.slv s' q ver off len)=>match AV.freeze deep (.slv s' q ver off len) st.hp with
   |some (p,hp')=>settle r ⟨(s,.pv none p)::st.fr,hp'⟩
   |none=>none
  |some (.nilv sh)=>settle r ⟨(s,.pv none (.sl sh []))::st.fr,st.hp⟩
  |some (.agg l)=>if(AV.refsIn.go l).isEmpty=true then settle r st else match AV.freeze deep (.agg l) st.hp with
   |some (p,hp')=>settle r ⟨(s,.pv (some (total l)) p)::st.fr,hp'⟩
   |none=>settle r st
  |_=>settle r st

def collect(n b:Nat)(fr:Fr)(hp:Heap):Heap:=
 if fr.all (fun x=>x.2.refsIn.all (·<n)) && ((hp.take n).drop b).all (fun o=>o.refs.all (·<n)) then hp.take n else hp

abbrev Yk:=(b n:Nat)->List Nat->ACode->St->Option (AExit × St)

def aexec(Γ:Oracle)(Λ:Yk)(b:Nat):ACode->St->Option (AExit × St)
 | .skip,st=>some (.normal,st)
 | .settle l,st=>match settle l st with
  |some st'=>some (.normal,st')
  |none=>none
 | .doom l keep,st=>match YX Γ b l st.fr st.hp with
  |some (.normal,fr,hp)=>some (.normal,⟨fr.keep keep,hp⟩)
  |some (.panic v,_,_)=>some (.panic v,⟨[],st.hp⟩)
  |_=>none
 | .region pan ops keep,st=>match aops Γ b ops st.fr st.hp with
  |some (.normal,fr,hp)=>some (.normal,⟨fr.keep keep,hp⟩)
  |some (.panic v,fr,hp)=>if pan=true then some (.panic v,⟨fr.keep keep,hp⟩) else none
  |_=>none
 | .seq x y,st=>match aexec Γ Λ b x st with
  |some (.normal,st')=>aexec Γ Λ b y st'
  |r=>r
 | .cond c x y,st=>match st.fr.arg c with
  |some (.pv _ (.bool true))=>aexec Γ Λ b x st
  |some (.pv _ (.bool false))=>aexec Γ Λ b y st
  |_=>none
 | .block id c,st=>match aexec Γ Λ b c st with
  |some (.exit i,st')=>if i=id then some (.normal,st') else some (.exit i,st')
  |r=>r
 | .loop keep c,st=>Λ b st.hp.length keep c ⟨st.fr.keep keep,st.hp⟩
 | .exit id,st=>some (.exit id,st)
 | .ret,st=>some (.ret,st)

def aloop(Γ:Oracle):Nat->Yk
 |0=>fun _ _ _ _ _=>none
 |n+1=>fun b m keep c st=>match aexec Γ (aloop Γ n) b c st with
  |some (.normal,st')=>let fr:=st'.fr.keep keep;aloop Γ n b m keep c ⟨fr,collect m b fr st'.hp⟩
  |r=>r

abbrev RSlot:=Nat × Option Sh

inductive ATop where
 |range (self:FuncId) (f:AArg) (ps env:List Nat)
 |dfr (s:Nat)
structure ARound where
 ps:List Nat
 assign:ACode
 body:ACode

structure AFn where
 nparams:Nat
 results:List RSlot
 code:ACode
 heapMode:Bool:=false
 more:List (ATop × ACode):=[]
 rounds:List ARound:=[]
 rcv:Option Nat:=none

def params:Nat->List AV->Fr
 |_,[]=>[]
 |i,v::r=>(i,v)::params (i+1) r

def Yn(st:St):RSlot->Option AV
 |(s,none)=>st.fr.look s
 |(s,some sh)=>match st.fr.look s with
  |some p=>aload sh st.hp p
  |none=>none
def yz(st:St):List RSlot->Option (List AV)
 |[]=>some []
 |s::r=>match Yn st s with
  |none=>none
  |some v=>match yz st r with
   |some l=>some (v::l)
   |none=>none
def Yr(st:St):List RSlot->Option AV
 |[s]=>Yn st s
 |l=>match yz st l with
  |some vs=>some (.tuple vs)
  |none=>none

def atop(Γ:Oracle)(op:ATop)(st:St)(ds:List AV):Option (AExit × St × List AV):=
 match op with
 | .dfr s=>match st.fr.look s with
  |some (.func (.func g) first captured)=>some (.normal,st,.func (.func g) first captured::ds)
  |_=>none
 | .range self f ps env=>match st.fr.arg f with
  |none=>none
  |some v=>match yn v with
   |some (g,first,captured)=>match Γ .seq g (first++[.yield st.hp.length]++captured) (st.hp++[.loop self ps (st.fr.keep env) false]) with
    |some (.ret _,hp')=>match Ks hp'[st.hp.length]? with
     |some _=>some (.normal,⟨st.fr,hp'.take st.hp.length⟩,ds)
     |none=>none
    |_=>none
   |none=>none
def apieces(Γ:Oracle)(Λ:Yk)(b:Nat):List (ATop × ACode)->ACode->St->List AV->Option (AExit × St × List AV)
 |[],c,st,ds=>match aexec Γ Λ b c st with
  |some (e,st')=>some (e,st',ds)
  |none=>none
 |(op,c2)::r,c,st,ds=>match aexec Γ Λ b c st with
  |some (.normal,st1)=>match atop Γ op st1 ds with
   |some (.normal,st2,ds2)=>apieces Γ Λ b r c2 st2 ds2
   |_=>none
  |some (e,st1)=>some (e,st1,ds)
  |none=>none
def aunwind(Γ:Oracle):List AV->Option PV->Heap->Option (Option PV × Heap)
 |[],p,hp=>some (p,hp)
 |c::ds,p,hp=>match yn c with
  |some (g,first,captured)=>match Γ .dfr g (.pv none (p.getD .niliface)::(first++captured)) hp with
   |some (.ret _,hp')=>aunwind Γ ds none hp'
   |_=>none
  |none=>none
def aresult(fn:AFn)(st:St):Option (ARes × Heap):=
 match Yr st fn.results with
 |some v=>some (.ret v,st.hp)
 |none=>none
def aleave(Γ:Oracle)(fn:AFn):Option (AExit × St × List AV)->Option (ARes × Heap)
 |some (.normal,st,ds)|some (.ret,st,ds)=>match aunwind Γ ds none st.hp with
  |some (none,hp')=>aresult fn ⟨st.fr,hp'⟩
  |_=>none
 |some (.panic v,st,ds)=>match aunwind Γ ds (some v) st.hp with
  |some (none,hp')=>aresult fn ⟨st.fr,hp'⟩
  |some (some v',hp')=>some (.panic v',hp')
  |none=>none
 |_=>none
def abody(Γ:Oracle)(Λ:Yk)(fn:AFn)(args:List AV)(hp:Heap):Option (ARes × Heap):=
 if args.length≠fn.nparams then none else match fn.more with
 |[]=>match aexec Γ Λ hp.length fn.code ⟨params 0 args,hp⟩ with
  |some (.normal,st)|some (.ret,st)=>match Yr st fn.results with
   |some v=>some (.ret v,st.hp)
   |none=>none
  |some (.panic v,st)=>some (.panic v,st.hp)
  |_=>none
 |more=>aleave Γ fn (apieces Γ Λ hp.length more fn.code ⟨params 0 args,hp⟩ [])

def PV.scalar:PV->Bool
 | .bool _| .int _ _| .str _=>true
 |_=>false
def AV.scalar1:AV->Bool
 | .pv _ p=>p.scalar
 |_=>false
def AV.scalar:AV->Bool
 | .pv _ p=>p.scalar
 | .tuple l=>l.all AV.scalar1
 |_=>false

def around(_:FuncId->Option AFn)(_:Oracle)(_:Yk)(_:FuncId)(_:List AV)(_:Heap):Option (ARes × Heap):=none
def adefer(F:FuncId->Option AFn)(Γ:Oracle)(Λ:Yk)(f:FuncId)(args:List AV)(hp:Heap):Option (ARes × Heap):=
 match args with
 | .pv s p::azs=>match F f with
  |some fn=>match fn.rcv,fn.more with
   |some t,[]=>if azs.length≠fn.nparams then none else match aexec Γ Λ hp.length fn.code ⟨(t,.pv s p)::params 0 azs,hp⟩ with
    |some (.normal,st)|some (.ret,st)=>some (.ret (.tuple []),st.hp.take hp.length)
    |_=>none
   |_,_=>none
  |none=>none
 |_=>none

def YY(F:FuncId->Option AFn)(prim:FuncId->Option Ya)(Γ:Oracle)(Λ:Yk)(f:FuncId)(args:List AV)(hp:Heap):Option (ARes × Heap):=
 match prim f with
 |some p=>p f args hp
 |none=>match F f with
  |none=>none
  |some fn=>
   if fn.rcv.isSome=true then none else
   if fn.heapMode=true then match abody Γ Λ fn args hp with
    |some (.ret v,hp')=>some (.ret v,if v.refsIn.all (·<hp.length) then hp'.take hp.length else hp')
    |some (.panic v,hp')=>some (.panic v,hp'.take hp.length)
    |none=>none
   else match zZ args hp with
    |none=>none
    |some (ps,hp1)=>match abody Γ Λ fn (pvs ps) [] with
     |some (.ret v,hp2)=>match v.freezeRes hp2 with
      |some (v',_)=>some (.ret v',bif v'.scalar then hp else hp1)
      |none=>none
     |some (.panic v,_)=>some (.panic v,hp1)
     |none=>none
def acall(F:FuncId->Option AFn)(prim:FuncId->Option Ya)(Γ:Oracle)(Λ:Yk):Oracle:=fun k f args hp=>
 match k with
 | .rnd=>around F Γ Λ f args hp
 | .dfr=>adefer F Γ Λ f args hp
 | .fn=>YY F prim Γ Λ f args hp
 | .seq=>if(F f).isSome=true then YY F prim Γ Λ f args hp else none

def asem(F:FuncId->Option AFn)(prim:FuncId->Option Ya):Nat->Oracle
 |0=>fun _ _ _ _=>none
 |n+1=>acall F prim (asem F prim n) (aloop (asem F prim n) n)

end Go.Am

/- The translation of code into the abstract machine's, with the slots that live on. -/
namespace Go.Am

def shOf(P:Program)(t:TypeId):Sh:=
 match P.underlying t with
 |some (.struct _)|some (.array _ _)=>some (P.cellsOf t)
 |_=>none

def okT(P:Program)(t:TypeId):Bool:=
 match P.info? t,P.underlying t with
 |some i,some _=>i.size == (shOf P t).size && decide (0<i.size)
 |_,_=>false

def qx(P:Program)(t:TypeId):Bool:=
 match P.info? t with
 |some i=>match i.desc with
  | .named n _=>n == "hornbeam/api.Proc"
  |_=>false
 |none=>false

def okS(P:Program)(t:TypeId):Bool:=
 match P.info? t,P.underlying t with
 |some i,some _=>i.size == (shOf P t).size
 |_,_=>false

def JR(f:TypeId->Value->Option AV)(cs:Array Value)(sh:Sh)(t:TypeId)(off:Nat):Option AV:=
 match sh with
 |some n=>if off+n<=cs.size then f t (.agg (cs.extract off (off+n))) else none
 |none=>match cs[off]? with
  |some v=>if v.oneCell'=true then f t v else none
  |none=>none
def Qs(P:Program)(f:TypeId->Value->Option AV)(cs:Array Value)(o:Nat):List Field->Option (List (Sh × AV))
 |[]=>if o=cs.size then some [] else none
 |fd::r=>if fd.offset=o then match JR f cs (shOf P fd.type) fd.type o with
  |none=>none
  |some v=>match Qs P f cs (o+(shOf P fd.type).size) r with
   |some l=>some ((shOf P fd.type,v)::l)
   |none=>none
  else none
def Qt(f:TypeId->Value->Option AV)(cs:Array Value)(sh:Sh)(t:TypeId)(o:Nat):Nat->Option (List (Sh × AV))
 |0=>if o=cs.size then some [] else none
 |n+1=>match JR f cs sh t o with
  |none=>none
  |some v=>match Qt f cs sh t (o+sh.size) n with
   |some l=>some ((sh,v)::l)
   |none=>none
def ofValue(P:Program):Nat->TypeId->Value->Option AV
 |0,_,_=>none
 |d+1,t,v=>match v with
  | .bool b=>some (.pv none (.bool b))
  | .int k n=>some (.pv none (.int k n))
  | .string s=>some (.pv none (.str s.data.toList))
  | .slice none 0 0=>match P.underlying t with
   |some (.slice e)=>if qx P e=true then some (.nilv (shOf P e)) else some (.tsl (shOf P e) [])
   |_=>none
  | .pointer none=>some (.pv none .nilptr)
  | .nilFunc=>some (.pv none .nilfunc)
  | .map none=>some (.pv none .nilmap)
  | .nilIface=>some (.pv none .niliface)
  | .agg cs=>match P.underlying t with
   |some (.struct fs)=>match Qs P (ofValue P d) cs 0 fs.toList with
    |some l=>some (AV.ofComps l)
    |none=>none
   |some (.array n e)=>match Qt (ofValue P d) cs (shOf P e) e 0 n with
    |some l=>some (AV.ofComps l)
    |none=>none
   |_=>none
  |_=>none
abbrev ofValue.one(P:Program)(d:Nat)(cs:Array Value)(sh:Sh)(t:TypeId)(off:Nat):Option AV:=JR (ofValue P d) cs sh t off
abbrev ofValue.fields(P:Program)(d:Nat)(cs:Array Value)(o:Nat)(l:List Field):Option (List (Sh × AV)):=Qs P (ofValue P d) cs o l
abbrev ofValue.items(P:Program)(d:Nat)(cs:Array Value)(sh:Sh)(t:TypeId)(o n:Nat):Option (List (Sh × AV)):=Qt (ofValue P d) cs sh t o n

def Yz(P:Program)(t:TypeId):Operand->Option AArg
 | .tmp s=>some (.t s)
 | .const v=>(ofValue P 8 t v).map .c
 | .func f=>some (.c (.pv none (.func (.func f))))
 | .global _=>none

def Yw(P:Program)(t:TypeId):Option AV:=
 match P.info? t with
 |some i=>match i.zero with
  |some z=>ofValue P 8 t z
  |none=>none
 |none=>none

def Yt(P:Program)(t:TypeId):Bool:=
 match Yw P t with
 |some z=>decide (z.shp=shOf P t)
 |none=>false

def XR(P:Program):List Operand->List TypeId->Option (List AArg)
 |[],_=>some []
 |x::r,ts=>match Yz P (ts.headD 0) x with
  |none=>none
  |some a=>match XR P r ts.tail with
   |some l=>some (a::l)
   |none=>none

def pvOf(v:AV):Option PV:=v.weaken deep

def YN(P:Program)(t:TypeId):Bool:=
 match P.info? t with
 |some i=>i.bytes<=1024
 |none=>false

def bp(op:BinOp)(k:Option TypeDesc):Bool:=
 match k,op with
 |some (.int _),_=> !(op matches .and| .or| .xor| .andNot| .shl)
 |some .string,.add|some .string,.eql|some .string,.neq|some .string,.lss|some .string,.leq|some .string,.gtr|some .string,.geq=>true
 |_,_=>false

def Qu(P:Program):Nat->List Field->Option (List Nat)
 |_,[]=>some []
 |o,f::r=>if f.offset=o/\f.name≠ "_" then match P.underlying f.type,Qu P (o+1) r with
   |some (.int _),some l=>some (0::l)
   |some .string,some l=>some (1::l)
   |some .bool,some l=>some (2::l)
   |_,_=>none
  else none
def yi(P:Program)(t:TypeId):Option (List Nat):=
 match P.underlying t with
 |some (.struct fs)=>if P.stoodInHeld t=false/\P.eqGuardType P.depth t=false then Qu P 0 fs.toList else none
 |_=>none
def Qv(P:Program)(t:TypeId):Option Bool:=
 match P.underlying t with
 |some .string=>some true
 |some (.int _)=>some false
 |_=>none

def JS(P:Program)(t:TypeId):Bool:=
 match P.underlying t with
 |some .bool=>true
 |_=>false
def Qw:BinOp->Bool
 | .eql| .neq=>true
 |_=>false
def yp:BinOp->Bool
 | .neq=>true
 |_=>false
def qy(P:Program)(t:TypeId):Bool:=
 match P.underlying t with
 |some (.interface _)=>true
 |_=>false
def vO:Operand->Bool
 | .const .nilIface=>true
 |_=>false
def vP(P:Program)(t:TypeId):Bool:=
 match P.underlying t with
 |some (.slice _)=>true
 |_=>false
def vQ:Operand->Bool
 | .const (.slice none 0 0)=>true
 |_=>false
theorem vR{P:Program}{t:TypeId}(h:JS P t=true):P.underlying t=some .bool:=by
 grind [JS]

def trOp(P:Program)(o:Oper):Option (AOp × List AArg):=
 let arg:=Yz P
 let with1 (op:AOp) (t:TypeId) (x:Operand):Option (AOp × List AArg):=match arg t x with
  |some a=>some (op,[a])
  |none=>none
 match o.op with
 | .move x=>with1 .mv o.type x
 | .assign x=>match x,P.underlying o.type with
  | .const (.slice none 0 0),some (.slice e)=>if qx P e=true then some (.mv,[.c (.nilv (shOf P e))]) else if 0<(shOf P e).size then some (.nilsl (shOf P e),[]) else none
  |_,_=>with1 .mv o.type x
 | .pick c a b=>match arg o.type c,arg o.type a,arg o.type b with
  |some c,some a,some b=>some (.pick,[c,a,b])
  |_,_,_=>none
 | .unOp .not _ x=>with1 .not o.type x
 | .unOp .neg t x=>match P.underlying t with
  |some (.int _)=>with1 .neg t x
  |_=>none
 | .binOp op t x y ty=>if bp op (P.underlying t) then match arg t x,arg ty y with
   |some x,some y=>some (.bin op,[x,y])
   |_,_=>none
  else if JS P t=true then match arg t x,arg ty y with
   |some x,some y=>some (.binb op,[x,y])
   |_,_=>none
  else if qy P t=true then if Qw op=true/\vO y=true then with1 (.isnil (yp op)) t x else none
  else if vP P t=true then if Qw op=true/\vQ y=true then with1 (.slnil (yp op)) t x else none
  else if Qw op=true then match yi P t,arg t x,arg t y with
   |some ds,some x,some y=>some (.eqs (yp op) ds,[x,y])
   |_,_,_=>none
  else none
 | .alloc t=>match Yw P t with
  |some z=>some (.alloc (shOf P t) z,[])
  |none=>none
 | .box t x=>with1 (.box (shOf P t)) t x
 | .build t parts=>match Yw P t,P.underlying t with
  |some z,some (.struct fs)=>if fs.toList.all (fun f=>okT P f.type)=true then match z.comps,XR P (parts.toList.map (·.2)) (parts.toList.map fun x=>((fs[x.1]?).map (·.type)).getD 0) with
   |some l,some azs=>some (.build l (parts.toList.map (·.1)),azs)
   |_,_=>none
   else none
  |some z,some (.array _ e)=>if okT P e=true then match z.comps,XR P (parts.toList.map (·.2)) (parts.toList.map fun _=>e) with
   |some l,some azs=>some (.build l (parts.toList.map (·.1)),azs)
   |_,_=>none
   else none
  |_,_=>none
 | .buildSlice t len parts=>match P.underlying t with
  |some (.slice e)=>if parts.toList.map (·.1)=List.range len/\len*P.cellsOf e<=65536/\okT P e=true/\Yt P e=true then match XR P (parts.toList.map (·.2)) (parts.toList.map fun _=>e) with
   |some azs=>if qx P e=true then some (.bslov (shOf P e),azs) else some (.bslice (shOf P e),azs)
   |none=>none
   else none
  |_=>none
 | .load t a=>if okT P t=true then with1 (.load (shOf P t)) t a else none
 | .store t a x=>if o.dst.isSome=true\/okS P t=false then none else match arg t a,arg t x with
  |some a,some x=>some (.store (shOf P t),[a,x])
  |_,_=>none
 | .convert src dst x=>match P.underlying src,P.underlying dst with
  |some (.int _),some (.int k)=>with1 (.conv k) src x
  |_,_=>none
 | .makeInterface t x=>match P.underlying t with
  |some (.interface _)|none=>none
  |_=>with1 (.mkiface t) t x
 | .makeFunc fn first captured=>match XR P (first.toList++captured.toList) [] with
  |some azs=>some (.mkfunc fn first.size,azs)
  |none=>none
 | .makeMap t none=>match P.underlying t with
  |some (.map _ te)=>some (.mkmap (shOf P te),[])
  |_=>none
 | .makeSlice t l c=>match P.underlying t with
  |some (.slice e)=>if YN P e=true/\okT P e=true/\Yt P e=true then
    if qx P e=true then match Yw P e,arg 0 l,arg 0 c with
     |some z,some l,some c=>some (.mkslicev (shOf P e) z,[l,c])
     |_,_,_=>none
    else match(Yw P e).bind pvOf,arg 0 l,arg 0 c with
     |some z,some l,some c=>some (.mkslice (shOf P e) z,[l,c])
     |_,_,_=>none
   else none
  |_=>none
 | .slice t x lo hi none=>match P.underlying t with
  |some (.slice e)=>if okT P e=false then none else match arg t x,lo.elim (some []) (fun l=>(arg 0 l).map fun a=>[a]),hi.elim (some []) (fun l=>(arg 0 l).map fun a=>[a]) with
   |some x,some l,some h=>some (.slice (shOf P e) lo.isSome hi.isSome,x::(l++h))
   |_,_,_=>none
  |some .string=>match arg t x,lo.elim (some []) (fun l=>(arg 0 l).map fun a=>[a]),hi.elim (some []) (fun l=>(arg 0 l).map fun a=>[a]) with
   |some x,some l,some h=>some (.sslice lo.isSome hi.isSome,x::(l++h))
   |_,_,_=>none
  |_=>none
 | .slice t x lo (some hi) (some mx)=>match P.underlying t with
  |some (.slice e)=>if okT P e=false then none else match arg t x,lo.elim (some []) (fun l=>(arg 0 l).map fun a=>[a]),arg 0 hi,arg 0 mx with
   |some x,some l,some h,some m=>some (.slice3 (shOf P e) lo.isSome,x::(l++[h,m]))
   |_,_,_,_=>none
  |_=>none
 | .nilCheck x=>with1 .nilcheck 0 x
 | .fieldAddr t x i=>match P.underlying t with
  |some (.struct fs)=>match fs[i]? with
   |some f=>if okT P f.type=false then none else with1 (.faddr f.offset) t x
   |none=>none
  |_=>none
 | .field t x i=>match P.underlying t with
  |some (.struct fs)=>match fs[i]? with
   |some f=>if okT P f.type=false then none else with1 (.field f.offset (shOf P f.type)) t x
   |none=>none
  |_=>none
 | .indexAddr t x i=>match P.underlying t with
  |some (.slice e)=>if okT P e=false then none else match arg t x,arg 0 i with
   |some x,some i=>some (.iaddr (shOf P e),[x,i])
   |_,_=>none
  |some (.array n e)=>if okT P e=false then none else match arg t x,arg 0 i with
   |some x,some i=>some (.iaddrA (shOf P e) n,[x,i])
   |_,_=>none
  |_=>none
 | .index t x i=>match P.underlying t with
  |some .string=>match arg t x,arg 0 i with
   |some x,some i=>some (.sindex,[x,i])
   |_,_=>none
  |some (.array n e)=>if okT P e=true/\shOf P e=none then match arg t x,arg 0 i with
   |some x,some i=>some (.aindex n,[x,i])
   |_,_=>none
   else none
  |_=>none
 | .lookup t m k ok=>match P.underlying t with
  |some (.map tk te)=>match Qv P tk with
   |some s=>match arg t m,arg tk k,Yw P te with
    |some m,some k,some z=>some (.lookup s (shOf P te) z ok,[m,k])
    |_,_,_=>none
   |none=>match yi P tk,arg t m,arg tk k,Yw P te with
    |some ds,some m,some k,some z=>some (.lookupr ds (shOf P te) z ok,[m,k])
    |_,_,_,_=>none
  |_=>none
 | .mapUpdate t m k v=>if o.dst.isSome=true then none else match P.underlying t with
  |some (.map tk te)=>match Qv P tk,arg t m,arg tk k,arg te v with
   |some s,some m,some k,some v=>some (.mapset s (shOf P te),[m,k,v])
   |_,_,_,_=>none
  |_=>none
 | .insert t m k v=>if o.dst.isSome=true then none else match P.underlying t with
  |some (.map tk te)=>match Qv P tk,arg t m,arg tk k,arg te v with
   |some s,some m,some k,some v=>some (.mapset s (shOf P te),[m,k,v])
   |_,_,_,_=>none
  |_=>none
 | .typeAssert x _ t ok=>match P.underlying t with
  |some (.interface _)=>none
  |none=>none
  |_=>match Yw P t with
   |some z=>with1 (.assert t (shOf P t) z ok) 0 x
   |none=>none
 | .extract x i=>with1 (.extract i) 0 x
 | .call c=>match c.callee with
  | .value f=>match arg 0 f,XR P c.args.toList c.argTypes.toList with
   |some f,some azs=>some (.call,f::azs)
   |_,_=>none
  | .builtin .len=>match c.args.toList,c.argTypes.toList with
   |[x],[t]=>match P.underlying t with
    |some (.slice _)=>with1 .len t x
    |some .string=>with1 .slen t x
    |some (.map _ _)=>with1 .mlen t x
    |_=>none
   |_,_=>none
  | .builtin .append=>match c.args.toList,c.argTypes.toList with
   |[x,y],[t,u]=>match P.underlying t,P.underlying u with
    |some (.slice e),some (.slice _)=>if t=u/\YN P e=true/\okT P e=true/\Yt P e=true then match arg t x,arg u y with
     |some x,some y=>if qx P e=true then some (.appendv (shOf P e),[x,y]) else some (.append (shOf P e),[x,y])
     |_,_=>none
     else none
    |_,_=>none
   |_,_=>none
  | .builtin .copy=>match c.args.toList,c.argTypes.toList with
   |[x,y],[t,u]=>match P.underlying t with
    |some (.slice e)=>if t=u/\okT P e=true then match arg t x,arg u y with
     |some x,some y=>some (.copy (shOf P e),[x,y])
     |_,_=>none
     else none
    |_=>none
   |_,_=>none
  | .builtin .clear=>match c.args.toList,c.argTypes.toList with
   |[x],[t]=>match P.underlying t with
    |some (.slice e)=>if okT P e=true/\Yt P e=true then match(Yw P e).bind pvOf,arg t x with
     |some z,some x=>some (.clear (shOf P e) z,[x])
     |_,_=>none
     else none
    |_=>none
   |_,_=>none
  | .builtin .min=>match c.args.toList,c.argTypes.toList with
   |[x,y],[t,u]=>match arg t x,arg u y with
    |some x,some y=>some (.min,[x,y])
    |_,_=>none
   |_,_=>none
  | .builtin .max=>match c.args.toList,c.argTypes.toList with
   |[x,y],[t,u]=>match arg t x,arg u y with
    |some x,some y=>some (.max,[x,y])
    |_,_=>none
   |_,_=>none
  |_=>none
 | .panic x=>with1 .panic 0 x
 |_=>none

def ins(x:Nat):List Nat->List Nat
 |[]=>[x]
 |y::r=>if x<y then x::y::r else if x=y then y::r else y::ins x r
def union(a b:List Nat):List Nat:=a.foldl (fun l x=>ins x l) b
def yj:List AArg->List Nat
 |[]=>[]
 | .t s::r=>s::yj r
 |_::r=>yj r

def Kt(nt:Nat):Option Nat->Bool
 |some d=>decide (d<nt)
 |none=>true
theorem bq{nt d:Nat}{x:Option Nat}(h:Kt nt x=true)(e:x=some d):d<nt:=by
 grind [Kt]
def xm(P:Program)(nt:Nat)(ops:Array Oper)(o:Oper):Option AOper:=
 if Kt nt o.dst=true then
  match trOp P o with
  |none=>none
  |some (op,azs)=>match o.guard with
   |none=>some { dst:=o.dst,op,args:=azs }
   |some (j,want)=>match(ops[j]?).bind (·.dst) with
    |some s=>some { dst:=o.dst,op,args:=azs,guard:=some (s,want) }
    |none=>none
 else none
def yb(P:Program)(nt:Nat)(ops:Array Oper):List Oper->Option (List AOper)
 |[]=>some []
 |o::r=>match xm P nt ops o with
  |none=>none
  |some a=>match yb P nt ops r with
   |some l=>some (a::l)
   |none=>none

def vT(l:List AOper)(d:Option Nat):Bool:=
 match d with
 |some d=>l.any fun x=>match x.op with
  | .call=>(yj x.args).contains d
  |_=>false
 |none=>false
def keepNames:List String:=["slices.Insert[[]hornbeam/api.Proc,hornbeam/api.Proc]", "slices.Insert[[]hornbeam/api.Stored,hornbeam/api.Stored]", "slices.Delete[[]hornbeam/api.Proc,hornbeam/api.Proc]", "slices.Delete[[]hornbeam/api.Stored,hornbeam/api.Stored]"]
def Ku(P:Program)(o:AOper):Bool:=
 match o.args with
 | .c (.pv _ (.func (.func f)))::_=>match P.funcs[f]? with
  |some fn=>keepNames.contains fn.name
  |none=>false
 |_=>false
def AOper.toP(P:Program)(l:List AOper)(o:AOper):AOper:=
 match o.op with
 | .call=>if Ku P o=true then o else{ o with op:=.callp }
 | .bslice sh=>{ o with op:=.bslicep sh }
 | .append sh=>if vT l o.dst=true then{ o with op:=.appendp sh } else o
 |_=>o
def AOper.base(o:AOper):AOper:=
 match o.op,o.args with
 | .storen sh,p::v::_=>{ o with op:=.store sh,args:=[p,v] }
 | .storex sh,p::v::_=>{ o with op:=.store sh,args:=[p,v] }
 | .calln n,azs=>{ o with op:=.call,args:=azs.drop n }
 | .callg,azs=>{ o with op:=.call,args:=azs }
 | .bslicen sh n,azs=>{ o with op:=.bslice sh,args:=azs.drop n }
 | .appendn sh n,azs=>{ o with op:=.append sh,args:=azs.drop n }
 | .bslovn sh n,azs=>{ o with op:=.bslov sh,args:=azs.drop n }
 |_,_=>o
def AOper.sures(o:AOper):List AArg:=
 match o.op,o.args with
 | .storen _,_::_::qs=>qs
 | .calln n,azs=>azs.take n
 | .bslicen _ n,azs=>azs.take n
 | .appendn _ n,azs=>azs.take n
 | .bslovn _ n,azs=>azs.take n
 |_,_=>[]
def AOper.uses(o:AOper):List Nat:=
 match o.base.guard with
 |some (s,_)=>s::yj o.base.args
 |none=>yj o.base.args
def AOper.cls(o:AOper):Nat:=
 match o.op,o.args,o.guard,o.dst with
 | .callp,_,_,_=>0
 | .callh,_,_,_=>1
 | .alloc _ _,[],none,some _=>3
 | .nilsl _,[],none,some _=>3
 | .mkmap _,[],none,some _=>3
 |op,_,_,_=>bif op.isPure then 0 else bif op.isRead then 1 else 2
def AOper.isCallg(o:AOper):Bool:=
 match o.op with
 | .callg=>true
 |_=>false
def AOper.isLd(o:AOper):Bool:=
 match o.op,o.args with
 | .load _,[.t _]=>true
 |_,_=>false
def AOper.spared(a b:AOper):Bool:=
 match a.op,a.args with
 | .load _,[.t q]=>b.sures.any (fun x=>match x with| .t q'=>Nat.beq q' q|_=>false) || b.isCallg
 |_,_=>false
def AOper.late(o:AOper):Bool:= !o.sures.isEmpty || o.isCallg
def AOper.isCallh(o:AOper):Bool:=
 match o.op with
 | .callh=>true
 |_=>false
def AOper.apart(a b:AOper):Bool:=
 (match a.dst with|some d=> !b.uses.contains d|none=>true) && (match b.dst with|some d=> !a.uses.contains d|none=>true)
def AOper.indep(a b:AOper)(m:Bool):Bool:=
 a.apart b && (a.cls == 0 || b.cls == 0 || (a.cls == 1 && b.cls == 1 && !(m && a.isCallh)) || b.cls == 3 || a.spared b || (a.isCallg && b.isLd))
def Qx(acc:List (List Nat))(o:Oper):List Nat:=
 o.after.toList.foldr (fun e l=>if Region.binds .any e=true then ins e.on (union (acc.getD e.on []) l) else l) []
def clos(acc:List (List Nat)):List Oper->List (List Nat)
 |[]=>acc
 |o::r=>clos (acc++[Qx acc o]) r
def bit(m j:Nat):Bool:=Nat.beq ((m >>> j) % 2) 1
def Kv(acc:List Nat)(o:Oper):Nat:=
 o.after.toList.foldr (fun e m=>if Region.binds .any e=true then(acc.getD e.on 0 ||| (1 <<< e.on)) ||| m else m) 0
def Yv(acc:List Nat):List Oper->List Nat
 |[]=>acc
 |o::r=>Yv (acc++[Kv acc o]) r
def yS(seen:Nat):List AOper->Bool
 |[]=>true
 |o::r=>match o.dst with
  |some d=> !bit seen d && yS (seen ||| (1 <<< d)) r
  |none=>yS seen r
def JT(p:Nat->AOper->Bool)(ci i:Nat):Nat->List AOper->Bool
 |_,[]=>true
 |j,a::r=>if Nat.beq j i=true then true else(bit ci j || p j a) && JT p ci i (j+1) r
def xK(p:Nat->AOper->Nat->AOper->Bool)(l:List AOper):Nat->List Nat->List AOper->Bool
 |_,_,[]=>true
 |_,[],_::_=>false
 |i,ci::cs,b::r=>JT (fun j a=>p j a i b) ci i 0 l && xK p l (i+1) cs r
def yT:Nat->List Oper->Bool
 |_,[]=>true
 |i,o::r=>o.after.toList.all (fun e=> !Region.binds .any e || decide (e.on<i)) && yT (i+1) r
def AOper.risky(o:AOper):Bool:=
 match o.op with
 | .call=>true
 | .calln _=>true
 | .panic=>true
 |_=>false
def XC(l:List AOper)(j i:Nat):Bool:=(List.range i).any fun k=>decide (j<k) && (match l[k]? with|some o=>o.cls == 3|none=>false)
def vU(l:List AOper):Bool:=
 !(l.any AOper.isCallg) || l.all fun a=> !a.isLd || l.all fun b=>b.cls != 3 || (match b.dst with|some d=> !a.uses.contains d|none=>true)
def xn(l:List AOper):Bool:=vU l &&
 l.all fun a=>a.cls != 0 || l.all fun b=>b.cls != 3 || (match b.dst with|some d=> !a.uses.contains d|none=>true)
def xL(l:List AOper):Bool:=
 !(l.any AOper.late) || (List.range l.length).all fun i=>match l[i]? with
  |some a=>a.cls != 1 || (l.drop i).all fun y=>match y.dst with|some d=> !a.uses.contains d|none=>true
  |none=>true
def yc(ops:Array Oper)(l:List AOper):Bool:=
 xK (fun _ a _ b=> !a.risky && !b.risky) l 0 (Yv [] ops.toList) l
def YL(ops:Array Oper)(l:List AOper):Bool:=
 xK (fun j a i b=>a.indep b (XC l j i)) l 0 (Yv [] ops.toList) l && yT 0 ops.toList && yS 0 l && (xn l && xL l)
def XS(ops:Array Oper)(l:List AOper):Bool:=
 let c:=clos [] ops.toList
 let n:=l.length
 yT 0 ops.toList && yS 0 l && (xn l && xL l) && decide (3<=n) && xK (fun j a i b=>a.indep b (XC l j i) || (i == n - 1 && j == n - 2)) l 0 (Yv [] ops.toList) l &&
 (List.range (n - 3)).all (fun j=>(c.getD (n - 1) []).contains j) && (c.getD (n - 2) []).contains (n - 3) &&
 (match l[n - 3]?,l[n - 2]?,l[n - 1]? with
  |some p,some s,some v=>p.cls == 0 && (match p.dst,p.guard,s.op,s.args,s.dst,s.guard,v.op,v.args,v.dst,v.guard with
   |some q,none,.store _,[.t q',x],none,none,.storex _,[_,_,.t q2,x2],none,none=>Nat.beq q q' && Nat.beq q q2 && (match x,x2 with| .t x,.t x2=>Nat.beq x x2 && !(Nat.beq x q)|_,_=>false)
   |_,_,_,_,_,_,_,_,_,_=>false)
  |_,_,_=>false)
def xM(l:List AOper):List AOper:=
 match l[l.length - 2]?,l[l.length - 1]? with
 |some s,some v=>match s.args,v.op,v.args with
  |[q,x],.store sh,[p,y]=>l.set (l.length - 1) { v with op:=.storex sh,args:=[p,y,q,x] }
  |_,_,_=>l
 |_,_=>l
def mOne(sure beside:Bool)(qs:List AArg)(o:AOper):AOper:=
 match o.op,o.args with
 | .call,azs=>if sure=true then(if qs.isEmpty=true then o else{ o with op:=.calln qs.length,args:=qs++azs }) else if beside=true then{ o with op:=.callh } else o
 | .bslice sh,azs=>if sure=true/\qs.isEmpty=false then{ o with op:=.bslicen sh qs.length,args:=qs++azs } else if beside=true then{ o with op:=.bslicep sh } else o
 | .store sh,[p,v]=>if qs.isEmpty=true then o else{ o with op:=.storen sh,args:=p::v::qs }
 |_,_=>o
def mTwo(sure beside:Bool)(qs:List AArg)(o:AOper):AOper:=
 match o.op,o.args with
 | .append sh,azs=>if qs.isEmpty=true then o else{ o with op:=.appendn sh qs.length,args:=qs++azs }
 | .bslov sh,azs=>if qs.isEmpty=true then(if beside=true then{ o with op:=.bslicep sh } else o) else{ o with op:=.bslovn sh qs.length,args:=qs++azs }
 |_,_=>mOne sure beside qs o
def unord(c:List Nat)(i j:Nat):Bool:= !(Nat.beq i j) && !bit (c.getD i 0) j && !bit (c.getD j 0) i
def besides(c:List Nat)(l:List AOper)(i:Nat):Bool:=
 (List.range l.length).any fun j=>unord c i j && (match l[j]? with|some x=>x.cls == 1 || x.cls == 2|none=>false)
def vV(c:List Nat)(l:List AOper)(i:Nat):List AArg:=
 (List.range i).filterMap fun j=>if unord c i j=true then(match l[j]? with
    |some x=>(match x.op,x.args with| .load _,[q]=>some q|_,_=>none)
    |none=>none) else none
def qz(sure:Bool)(c:List Nat)(l:List AOper):Nat->List AOper->List AOper
 |_,[]=>[]
 |i,o::r=>mOne sure (besides c l i) (vV c l i) o::qz sure c l (i+1) r
def qA(sure:Bool)(c:List Nat)(l:List AOper):Nat->List AOper->List AOper
 |_,[]=>[]
 |i,o::r=>mTwo sure (besides c l i) (vV c l i) o::qA sure c l (i+1) r
def toN(sure:Bool)(ops:Array Oper)(l:List AOper):List AOper:=qA sure (Yv [] ops.toList) l 0 l
def toM(sure:Bool)(ops:Array Oper)(l:List AOper):List AOper:=qz sure (Yv [] ops.toList) l 0 l
def gOne(b:Bool)(o:AOper):AOper:=
 match o.op with
 | .call=>if b=true then{ o with op:=.callg } else o
 |_=>o
def br(c:List Nat)(l:List AOper)(i:Nat):Bool:=
 (List.range l.length).any fun j=>unord c i j && (match l[j]? with|some x=>x.isLd|none=>false)
def bu(c:List Nat)(l:List AOper)(i:Nat):Bool:=(List.range l.length).any fun j=>unord c i j
def qB(c:List Nat)(l:List AOper):Nat->List AOper->List AOper
 |_,[]=>[]
 |i,o::r=>gOne (br c l i || (vT l o.dst && bu c l i)) o::qB c l (i+1) r
def toG(ops:Array Oper)(l:List AOper):List AOper:=qB (Yv [] ops.toList) l 0 l
def Kw(l:List AOper)(args:List AArg)(acc:List Nat):List Nat:=
 (yj args).foldl (fun acc t=>match l.find? (fun x=>x.dst == some t) with
   |some x=>match x.op,x.args with
    | .load _,[.t s]=>if l.any (fun y=>y.dst == some s) then acc else ins s acc
    | .mv,[.t s]=>if l.any (fun y=>y.dst == some s) then acc else ins s acc
    |_,_=>acc
   |none=>acc) acc
def settles(l:List AOper):List Nat:=
 l.foldl (fun acc o=>match o.op with
  | .callp=>Kw l o.args acc
  | .bslicep _=>Kw l o.args acc
  |_=>acc) []

def Kx:List AOper->List Nat->List Nat
 |[],out=>out
 |o::r,out=>
  let l:=Kx r out
  let l:=match o.dst with|some d=>l.filter (· != d)|none=>l
  let l:=union (yj o.args) l
  match o.guard with|some (s,_)=>ins s l|none=>l

def yU:ACode->List Nat->List (Nat × List Nat)->List Nat->List Nat
 | .skip,out,_,_=>out
 | .settle l,out,_,_=>union l out
 | .region _ ops _,out,_,_=>Kx ops out
 | .doom l _,out,_,_=>Kx (l.map Prod.fst) out
 | .seq a b,out,env,ret=>yU a (yU b out env ret) env ret
 | .cond c x y,out,env,ret=>union (yj [c]) (union (yU x out env ret) (yU y out env ret))
 | .block id c,out,env,ret=>yU c out ((id,out)::env) ret
 | .loop _ c,_,env,ret=>let l1:=yU c [] env ret;let l2:=yU c l1 env ret;yU c l2 env ret
 | .exit id,_,env,_=>(env.lookup id).getD []
 | .ret,_,_,ret=>ret

def annot:ACode->List Nat->List (Nat × List Nat)->List Nat->ACode
 | .skip,_,_,_=>.skip
 | .settle l,_,_,_=>.settle l
 | .region pan ops _,out,_,_=>.region pan ops out
 | .doom l _,out,_,_=>.doom l out
 | .seq a b,out,env,ret=>.seq (annot a (yU b out env ret) env ret) (annot b out env ret)
 | .cond c x y,out,env,ret=>.cond c (annot x out env ret) (annot y out env ret)
 | .block id c,out,env,ret=>.block id (annot c out ((id,out)::env) ret)
 | .loop _ c,out,env,ret=>let l:=yU (.loop [] c) out env ret;.loop l (annot c l env ret)
 | .exit id,_,_,_=>.exit id
 | .ret,_,_,_=>.ret

def nopO:AOper:=⟨none,.mv,[.c (.pv none (.bool true))],none⟩
def Xm(c:List Nat)(i:Nat):Nat->List AOper->List AOper
 |_,[]=>[]
 |j,o::r=>(if bit (c.getD j 0) i=true then nopO else o)::Xm c i (j+1) r
def AOper.isCallp(o:AOper):Bool:=
 match o.op,o.guard with
 | .callp,none=>true
 |_,_=>false
def xN(c:List Nat):Nat->List AOper->List (AOper × Option (List AOper))
 |_,[]=>[]
 |i,o::r=>(o,if o.isCallp=true then some (Xm c i (i+1) r) else none)::xN c (i+1) r
def YO(c:List Nat)(l:List AOper)(i:Nat):List AOper:=l.take i++nopO::Xm c i (i+1) (l.drop (i+1))
def AOper.quiet(o:AOper):Bool:=(o.cls == 0 || o.cls == 1) && !o.isCallh
def qC(ops:Array Oper)(l:List AOper):Bool:=
 YL ops l && l.all (fun o=> !o.risky) && (List.range l.length).all fun i=>match l[i]? with
  |some o=>if o.isCallp=true then YL ops (YO (Yv [] ops.toList) l i) && (YO (Yv [] ops.toList) l i).all AOper.quiet else true
  |none=>true

def ownB(l:List AOper)(o:AOper):AOper:=
 match o.op,o.dst with
 | .bslice sh,some d=>if l.any (fun x=>match x.op,x.args with| .mv,[.t s]=>Nat.beq s d|_,_=>false)=true then{ o with op:=.bslo sh } else o
 |_,_=>o
def bw(l:List AOper):Bool:=
 match l.getLast? with
 |some o=>o.risky
 |none=>false
def vW(P:Program)(ops:Array Oper)(l:List AOper):Option ACode:=
 if YL ops (l.map (AOper.toP P l))=true then some (.seq (.settle (settles (l.map (AOper.toP P l)))) (.region (yc ops (l.map (AOper.toP P l))) (l.map (AOper.toP P l)) []))
 else if YL ops (toM true ops l)=true then some (.region (yc ops (toM true ops l)) (toM true ops l) [])
 else none
def doomNames:List String:=["hornbeam/body.build"]
def bx(P:Program)(ops:Array Oper):Bool:=
 ops.any fun o=>match o.op with
  | .call c=>match c.callee with
   | .value (.func f)=>match P.funcs[f]? with
    |some fn=>doomNames.contains fn.name
    |none=>false
   |_=>false
  |_=>false
def Ky(P:Program)(hm:Bool)(nt:Nat)(ops:Array Oper)(draw:Bool):Option ACode:=
 match yb P nt ops ops.toList with
 |none=>none
 |some l=>
  if draw=false then some (.region true (if hm=true then l.map (ownB l) else l) [])
  else if l.any (Ku P)=true then vW P ops l
  else if hm=true/\bw l=true/\(YL ops l && yc ops l)=false/\YL ops (toG ops l)=true/\yc ops (toG ops l)=true then some (.region (yc ops (toG ops l)) (toG ops l) [])
  else if YL ops l=true then some (.region (yc ops l) l [])
  else if hm=true/\YL ops (toM true ops l)=true then some (.region (yc ops (toM true ops l)) (toM true ops l) [])
  else if hm=true/\YL ops (toG ops l)=true then some (.region (yc ops (toG ops l)) (toG ops l) [])
  else if hm=true/\YL ops (toM false ops l)=true then some (.region (yc ops (toM false ops l)) (toM false ops l) [])
  else if hm=false/\bx P ops=true/\qC ops (l.map (AOper.toP P l))=true then some (.seq (.settle (settles (l.map (AOper.toP P l)))) (.doom (xN (Yv [] ops.toList) 0 (l.map (AOper.toP P l))) []))
  else if YL ops (l.map (AOper.toP P l))=true then some (.seq (.settle (settles (l.map (AOper.toP P l)))) (.region (yc ops (l.map (AOper.toP P l))) (l.map (AOper.toP P l)) []))
  else if YL ops (toM false ops l)=true then some (.region (yc ops (toM false ops l)) (toM false ops l) [])
  else if hm=true/\XS ops (xM (toM true ops l))=true then some (.region false (xM (toM true ops l)) [])
  else if XS ops (xM (l.map (AOper.toP P l)))=true then some (.seq (.settle (settles (l.map (AOper.toP P l)))) (.region false (xM (l.map (AOper.toP P l))) []))
  else none
def qD(inv:List Nat)(o:Oper):Oper:={ o with after:=o.after.map fun e=>{ e with on:=inv.getD e.on 0 } }
def yq(ops:Array Oper)(pi inv:List Nat):Array Oper:=(pi.map fun i=>qD inv (ops.getD i default)).toArray
def xO(ops:Array Oper)(pi inv:List Nat):Bool:=
 pi.length == ops.size && inv.length == ops.size && (List.range ops.size).all (fun i=>decide (inv.getD i 0<ops.size) && pi.getD (inv.getD i 0) 0 == i && decide (pi.getD i 0<ops.size) && inv.getD (pi.getD i 0) 0 == i) &&
 ops.toList.all fun o=>o.guard.isNone && o.after.toList.all fun e=>decide (e.on<ops.size)
def bA(l:List AOper):List Nat:=
 let n:=l.length
 match((List.range (n - 1)).filter fun i=>match l[i]? with|some o=>(match o.op with| .store _=>true|_=>false)|none=>false).getLast? with
 |some s=>(List.range n).filter (fun i=> !(i == s || i+1 == s || i+1 == n))++[s - 1,s,n - 1]
 |none=>[]
def bB(pi:List Nat):List Nat:=(List.range pi.length).map fun i=>pi.idxOf i
def vX(P:Program)(nt:Nat)(ops:Array Oper)(l0:List AOper):Option ACode:=
 let pi:=bA l0
 let inv:=bB pi
 if xO ops pi inv=true then match yb P nt (yq ops pi inv) (yq ops pi inv).toList with
  |some l=>if XS (yq ops pi inv) (xM (toM true (yq ops pi inv) l))=true then
    some (.seq (.settle (match l[l.length - 2]? with|some s=>Kw l (s.args.drop 1) []|none=>[])) (.region false (xM (toM true (yq ops pi inv) l)) []))
   else none
  |none=>none
 else none

def bC(P:Program)(ops:Array Oper):Bool:=
 ops.any fun o=>match o.op with
  | .slice t _ _ (some _) (some _)=>match P.underlying t with
   |some (.slice e)=>match P.info? e with
    |some i=>(match i.desc with
     | .named n _=>n == "hornbeam/api.Proc" || n == "hornbeam/api.Stored"
     |_=>false)
    |none=>false
   |_=>false
  |_=>false
def bD(l:List AOper):List Nat:=
 l.foldl (fun acc o=>match o.op,o.args with
  | .slice3 _ false,.t x::_=>(match l.find? (fun y=>y.dst == some x) with
   |some y=>(match y.op,y.args with
    | .mv,[.t s]=>ins s acc
    | .load _,[.t q]=>(match l.find? (fun z=>z.dst == some q) with
     |some z=>(match z.op,z.args with
      | .faddr _,[.t s]=>ins s acc
      |_,_=>acc)
     |none=>acc)
    |_,_=>acc)
   |none=>acc)
  |_,_=>acc) []
def Kz(P:Program)(hm:Bool)(nt:Nat)(ops:Array Oper)(draw:Bool):Option ACode:=
 match Ky P hm nt ops draw with
 |some ac=>some ac
 |none=>if draw=false then none else match yb P nt ops ops.toList with
  |none=>none
  |some l=>if YL ops (toN true ops l)=true then some (.region (yc ops (toN true ops l)) (toN true ops l) [])
   else if YL ops (toN false ops l)=true then some (.region (yc ops (toN false ops l)) (toN false ops l) [])
   else if hm=true then vX P nt ops l
   else none
def KA(P:Program)(hm:Bool)(nt:Nat)(ops:Array Oper)(draw:Bool):Option ACode:=
 match Kz P hm nt ops draw with
 |some ac=>if hm=false/\bC P ops=true then(match yb P nt ops ops.toList with
   |some l=>some (.seq (.settle (bD l)) ac)
   |none=>some ac)
  else some ac
 |none=>none
def yA(P:Program)(hm:Bool)(nt:Nat):Code->Option ACode
 | .skip=>some .skip
 | .label _=>some .skip
 | .scope c=>yA P hm nt c
 | .region _ ops draw=>KA P hm nt ops draw
 | .seq a b=>match yA P hm nt a,yA P hm nt b with
  |some a,some b=>some (.seq a b)
  |_,_=>none
 | .cond c x y=>match Yz P 0 c,yA P hm nt x,yA P hm nt y with
  |some c,some a,some b=>some (.cond c a b)
  |_,_,_=>none
 | .block id c=>match yA P hm nt c with
  |some a=>some (.block id a)
  |none=>none
 | .loop c=>match yA P hm nt c with
  |some a=>some (.loop [] a)
  |none=>none
 | .exit id=>some (.exit id)
 | .ret=>some .ret
 |_=>none

def yr(P:Program):List ResultVar->List RSlot
 |[]=>[]
 | .tmp s::r=>(s,none)::yr P r
 | .cell s t::r=>(s,some (shOf P t))::yr P r

def Qy(P:Program):List ResultVar->Bool
 |[]=>true
 | .tmp _::r=>Qy P r
 | .cell _ t::r=>okT P t && Qy P r
def bE(rs:List RSlot):List Nat:=rs.foldl (fun l x=>ins x.1 l) []
def yk:Code->List Code
 | .seq a b=>yk a++yk b
 |c=>[c]
def KB:Code->Option (Array Oper × Nat)
 | .region _ ops false=>match ops.toList.getLast? with
  |some o=>match o.op,o.guard,o.dst with
   | .defer c,none,none=>match c.callee,c.args.toList with
    | .value (.tmp s),[]=>some (ops,s)
    |_,_=>none
   |_,_,_=>none
  |none=>none
 |_=>none
inductive Piece where
 |code (c:Code)
 |range (f:Operand) (ps:Array Tmp) (assign body:Code)
 |dfr (ops:Array Oper) (s:Nat)
def JU(c:Code):Piece:=
 match c with
 | .rangeFunc f ps a b=>.range f ps a b
 | .block id (.rangeFunc f ps a b)=>.range f ps a b
 |c=>match KB c with
  |some (ops,s)=>.dfr ops s
  |none=>.code c
def qE(P:Program)(hm:Bool)(nt:Nat)(self:FuncId):List Code->Option (ACode × List (ATop × ACode))
 |[]=>some (.skip,[])
 |c::r=>match qE P hm nt self r with
  |none=>none
  |some (x,more)=>match JU c with
   | .code c=>match yA P hm nt c with
    |some a=>some (.seq a x,more)
    |none=>none
   | .range f ps _ _=>match Yz P 0 f with
    |some fa=>some (.skip,(.range self fa ps.toList [],x)::more)
    |none=>none
   | .dfr ops s=>match yb P nt ops ops.toList.dropLast with
    |some l=>some (.region true l [],(.dfr s,x)::more)
    |none=>none
def Y0:Code->List (Array Tmp × Code × Code)
 | .seq a b=>Y0 a++Y0 b
 | .cond _ a b=>Y0 a++Y0 b
 | .block _ c=>Y0 c
 | .loop c=>Y0 c
 | .scope c=>Y0 c
 | .rangeFunc _ ps a c=>(ps,a,c)::(Y0 a++Y0 c)
 |_=>[]
def vY:List Nat->Bool
 |[]=>true
 |x::r=> !r.contains x && vY r
def KC(P:Program)(hm:Bool)(nt:Nat):List (Array Tmp × Code × Code)->Option (List ARound)
 |[]=>some []
 |(ps,a,c)::r=>match yA P hm nt a,yA P hm nt c,KC P hm nt r with
  |some x,some y,some l=>
   let y':=annot y [] [] []
   let o:=yU y [] [] []
   let x':=annot x o [] []
   if ps.toList.all (fun p=>decide (p<nt))=true/\vY ps.toList=true/\r.all (fun x=>decide (x.1.toList≠ps.toList))=true then some ({ ps:=ps.toList,assign:=x',body:=y' }::l) else none
  |_,_,_=>none
def vZ(ps:List Nat):List ARound->List Nat
 |[]=>[]
 |r::l=>if r.ps=ps then(yU (.seq r.assign r.body) [] [] []).filter (fun x=> !ps.contains x) else vZ ps l
def XD(ret:List Nat)(rounds:List ARound):ACode->List (ATop × ACode)->ACode × List (ATop × ACode) × List Nat
 |c,[]=>(annot c ret [] ret,[],yU c ret [] ret)
 |c,(op,c2)::r=>match XD ret rounds c2 r with
  |(c2',r',live)=>
   let (op',l):=match op with
    | .range self f ps _=>let e:=vZ ps rounds;(ATop.range self f ps e,union e (union (yj [f]) live))
    | .dfr s=>(ATop.dfr s,ins s live)
   (annot c l [] ret,(op',c2')::r',yU c l [] ret)
def Ua:List Code->Option (Nat × Array Oper × List Code)
 | .region _ ops false::r=>match ops.toList with
  |o::_=>match o.op,o.dst,o.guard with
   | .call c,some t,none=>match c.callee with
    | .builtin .recover=>some (t,ops,r)
    |_=>none
   |_,_,_=>none
  |[]=>none
 |_=>none
def trFn(P:Program)(hm:Bool)(self:FuncId)(fn:Func):Option AFn:=
 match fn.body with
 |some c=>
  if Qy P fn.results.toList=true/\fn.params.size+fn.nfree<=fn.ntmps/\fn.name≠ "runtime.NumGoroutine" then
   let ret:=bE (yr P fn.results.toList)
   match Ua (yk c) with
   |some (t,ops,r)=>if t<fn.ntmps/\fn.results.toList.isEmpty=true then match yb P fn.ntmps ops ops.toList.tail,qE P hm fn.ntmps self r with
     |some l,some (a,[])=>some { nparams:=fn.params.size+fn.nfree,results:=[],code:=annot (.seq (.region true l []) a) [] [] [],heapMode:=true,rcv:=some t }
     |_,_=>none
    else none
   |none=>match yA P hm fn.ntmps c with
    |some a=>some { nparams:=fn.params.size+fn.nfree,results:=yr P fn.results.toList,code:=annot a ret [] ret,heapMode:=hm }
    |none=>match qE P hm fn.ntmps self (yk c),KC P hm fn.ntmps (Y0 c) with
     |some (a,more),some rounds=>match XD ret rounds a more with
      |(a',more',_)=>some { nparams:=fn.params.size+fn.nfree,results:=yr P fn.results.toList,code:=a',heapMode:=hm,more:=more',rounds:=rounds }
     |_,_=>none
  else none
 |none=>none

end Go.Am

/- How values and heaps of the abstract machine stand for the model's: the relations, and what carries them from world to world. -/
namespace Go.Am

structure Xc(P:Program) where
 h:Nat->Prop
instance xcFun{P:Program}:CoeFun (Xc P) (fun _=>Nat->Prop):=⟨Xc.h⟩
def Ub(P:Program)(f:Nat)(ps:Array Tmp)(a c:Code)(nt:Nat):Prop:=∃fnc b,P.funcs[f]? =some fnc/\fnc.body=some b/\fnc.ntmps=nt/\(ps,a,c)∈Y0 b
variable{P:Program}

def vshp:Value->Sh
 | .agg cs=>some cs.size
 |_=>none
def Flat(v:Value):Prop:=∀c∈v.cells,c.oneCell'=true
def cellsOf(vs:List Value):List Value:=vs.flatMap fun v=>v.cells.toList

theorem Yu(v:Value):v.cells.size=(vshp v).size:=by cases v <;> rfl

inductive PR(w:World)(I:Nat->Prop):PV->Value->Prop
 |bool (b:Bool):PR w I (.bool b) (.bool b)
 |int (k:IntKind) (n:Int):PR w I (.int k n) (.int k n)
 |str (s:List UInt8):PR w I (.str s) (.string ⟨s.toArray⟩)
 |agg (l:List (Sh × PV)) (vs:List Value) (hl:l.length=vs.length)
   (h:∀(i:Nat) (x:Sh × PV) (v:Value),l[i]? =some x->vs[i]? =some v->vshp v=x.1)
   (h':∀(i:Nat) (x:Sh × PV) (v:Value),l[i]? =some x->vs[i]? =some v->PR w I x.2 v):PR w I (.agg l) (.agg (cellsOf vs).toArray)
 |nilsl (sh:Sh) (a:Option Addr) (n:Nat):PR w I (.sl sh []) (.slice a 0 n)
 |sl (sh:Sh) (es:List PV) (b o n:Nat) (cs:Array Value) (t:TypeId) (fr:Nat × Nat) (vals:List Value) (hl:es.length=vals.length) (hI:I b)
   (hb:w.heap[b]? =some (.cells cs t fr)) (h:∀(i:Nat) (p:PV) (v:Value),es[i]? =some p->vals[i]? =some v->vshp v=sh)
   (h':∀(i:Nat) (p:PV) (v:Value),es[i]? =some p->vals[i]? =some v->PR w I p v)
   (hc:cellsOf vals=(cs.toList.drop o).take (es.length*sh.size)) (hn:es.length<=n):PR w I (.sl sh es) (.slice (some ⟨b,o,none⟩) es.length n)
 |func (fn:Fn):PR w I (.func fn) (.func fn #[] #[])
 |nilfunc:PR w I .nilfunc .nilFunc
 |nilptr:PR w I .nilptr (.pointer none)
 |nilmap:PR w I .nilmap (.map none)
 |iface (t:TypeId) (sh:Sh) (p:PV) (v:Value) (hs:vshp v=sh) (h:PR w I p v):PR w I (.iface t sh p) (.iface t v)
 |niliface:PR w I .niliface .nilIface

theorem PR.mono{w w':World}{I I':Nat->Prop}(hw:∀b cs t fr,I b->w.heap[b]? =some (.cells cs t fr)->I' b/\w'.heap[b]? =some (.cells cs t fr)){p:PV}{v:Value}(h:PR w I p v):PR w' I' p v:=by
 induction h with
 |bool b=>exact .bool b
 |int k n=>exact .int k n
 |str s=>exact .str s
 |agg l vs hl h _ ih=>exact .agg l vs hl h ih
 |nilsl sh a n=>exact .nilsl sh a n
 |sl sh es b o n cs t fr vals hl hI hb h _ hc hn ih=>
  obtain⟨hI',hb'⟩:=hw b cs t fr hI hb;exact .sl sh es b o n cs t fr vals hl hI' hb' h ih hc hn
 |func fn=>exact .func fn
 |nilfunc=>exact .nilfunc
 |nilptr=>exact .nilptr
 |nilmap=>exact .nilmap
 |iface t sh p v hs _ ih=>exact .iface t sh p v hs ih
 |niliface=>exact .niliface

theorem Qz{vs:List Value}{c:Value}(h:c∈cellsOf vs):∃(i:Nat) (v:Value),vs[i]? =some v/\c∈v.cells:=by
 grind [cellsOf,ZO]

theorem KD{v:Value}(h:v.oneCell'=true):Flat v:=by
 intro c hc;cases v <;> simp_all[Value.cells,Value.oneCell']

theorem PR.flat{w:World}{I:Nat->Prop}{p:PV}{v:Value}(h:PR w I p v):Flat v:=by
 induction h with
 |agg l vs hl h h' ih=>
  intro c hc;have hc':c∈cellsOf vs:=by grind [Value.cells]
  obtain⟨i,v,hi,hcv⟩:=Qz hc';have hlt:i<l.length:=by grind
  exact ih i l[i] v (Ze hlt) hi c hcv
 |_=>exact KD rfl

def live(hp:Heap)(i:Nat):Bool:=
 match hp[i]? with
 |some (.box _ _)=>true
 |some (.map _ _)=>true
 |some (.arr _ _ false)=>true
 |some (.loop _ _ _ _)=>true
 |some (.arv _ _)=>true
 |_=>false
def YP:Option AObj->Option (Sh × Nat)
 |some (.arv sh es)=>some (sh,es.length)
 |some (.arr sh es true)=>some (sh,es.length)
 |_=>none

def Im(X:Xc P)(μ:Nat->Option Nat)(hp:Heap)(b:Nat):Prop:=¬X b/\∀i,live hp i=true->μ i≠some b

inductive AR(w:World)(X:Xc P)(μ:Nat->Option Nat)(hp:Heap):AV->Value->Prop
 |undef (v:Value) (h:∀b,v≠.bool b):AR w X μ hp .undef v
 |pv (sh:Sh) (p:PV) (v:Value) (hs:vshp v=sh) (h:PR w (Im X μ hp) p v):AR w X μ hp (.pv sh p) v
 |agg (l:List (Sh × AV)) (vs:List Value) (hl:l.length=vs.length)
   (h:∀(i:Nat) (x:Sh × AV) (v:Value),l[i]? =some x->vs[i]? =some v->vshp v=x.1/\Flat v)
   (h':∀(i:Nat) (x:Sh × AV) (v:Value),l[i]? =some x->vs[i]? =some v->AR w X μ hp x.2 v):AR w X μ hp (.agg l) (.agg (cellsOf vs).toArray)
 |tsl (sh:Sh) (es:List PV) (a:Option Addr) (h:PR w (Im X μ hp) (.sl sh es) (.slice a es.length es.length)):AR w X μ hp (.tsl sh es) (.slice a es.length es.length)
 |sl (sh:Sh) (r ver off len:Nat) (a:Option Addr) (cap:Nat) (es:List PV) (fz:Bool) (ho:hp[r]? =some (.arr sh es fz)) (hv:ver<=es.length) (hlc:len<=cap/\ver<=off+cap) (ha:cap≠0->a.isSome=true)
   (h:ver=es.length->off+len<=es.length/\((μ r=none/\cap=0)\/∃b cs t,μ r=some b/\w.heap[b]? =some (.cells cs t (0,0))/\(off+cap)*sh.size=cs.size/\(cap≠0->a=some ⟨b,off*sh.size,none⟩))):
   AR w X μ hp (.sl sh r ver off len) (.slice a len cap)
 |ptr (r off b:Nat) (sh:Sh) (v:AV) (ho:hp[r]? =some (.box sh v)) (hb:μ r=some b):AR w X μ hp (.ptr r off) (.pointer (some ⟨b,off,none⟩))
 |eptr (sh:Sh) (r ver i off:Nat) (a:Addr) (es:List PV) (fz:Bool) (ho:hp[r]? =some (.arr sh es fz)) (hv:ver<=es.length)
   (h:ver=es.length->i<es.length/\∃b,μ r=some b/\a=⟨b,i*sh.size+off,none⟩):AR w X μ hp (.eptr sh r ver i off) (.pointer (some a))
 |iptr (sh:Sh) (p:PV) (off b o:Nat) (cs:Array Value) (t:TypeId) (fr:Nat × Nat) (v:Value) (hI:Im X μ hp b) (hb:w.heap[b]? =some (.cells cs t fr))
   (hp':PR w (Im X μ hp) p v) (hs:vshp v=sh) (hc:v.cells.toList=(cs.toList.drop o).take sh.size):AR w X μ hp (.iptr sh p off) (.pointer (some ⟨b,o+off,none⟩))
 |map (r b:Nat) (sh:Sh) (es:List (PV × PV)) (ho:hp[r]? =some (.map sh es)) (hb:μ r=some b):AR w X μ hp (.map r) (.map (some b))
 |func (fn:Fn) (first captured:List AV) (fs cs:List Value) (hf:first.length=fs.length) (hc:captured.length=cs.length)
   (h:∀(i:Nat) (a:AV) (v:Value),first[i]? =some a->fs[i]? =some v->AR w X μ hp a v)
   (h':∀(i:Nat) (a:AV) (v:Value),captured[i]? =some a->cs[i]? =some v->AR w X μ hp a v):AR w X μ hp (.func fn first captured) (.func fn fs.toArray cs.toArray)
 |iface (t:TypeId) (a:AV) (v:Value) (h:AR w X μ hp a v):AR w X μ hp (.iface t a) (.iface t v)
 |tuple (l:List AV) (vs:List Value) (hl:l.length=vs.length) (h:∀(i:Nat) (a:AV) (v:Value),l[i]? =some a->vs[i]? =some v->AR w X μ hp a v):AR w X μ hp (.tuple l) (.tuple vs.toArray)
 |yield (r l:Nat) (f:Nat) (ps:List Nat) (env:List (Nat × AV)) (bz:Bool) (ho:hp[r]? =some (.loop f ps env bz)) (hb:μ r=some l):AR w X μ hp (.yield r) (.func (.yield l) #[] #[])
 |slv (sh:Sh) (r ver off len:Nat) (a:Option Addr) (cap n:Nat) (ho:YP hp[r]? =some (sh,n)) (hv:ver<=n) (hlc:len<=cap/\ver<=off+cap) (ha:cap≠0->a.isSome=true)
   (h:ver=n->off+len<=n/\∃b cs t,μ r=some b/\w.heap[b]? =some (.cells cs t (0,0))/\(off+cap)*sh.size=cs.size/\(cap≠0->a=some ⟨b,off*sh.size,none⟩)):
   AR w X μ hp (.slv sh r ver off len) (.slice a len cap)
 |epv (sh:Sh) (r ver i off:Nat) (a:Addr) (n:Nat) (ho:YP hp[r]? =some (sh,n)) (hv:ver<=n)
   (h:ver=n->i<n/\∃b,μ r=some b/\a=⟨b,i*sh.size+off,none⟩):AR w X μ hp (.epv sh r ver i off) (.pointer (some a))
 |nilv (sh:Sh):AR w X μ hp (.nilv sh) (.slice none 0 0)

theorem AR.flat{w:World}{X:Xc P}{μ:Nat->Option Nat}{hp:Heap}{a:AV}{v:Value}(h:AR w X μ hp a v)(hp:a.plain=true):Flat v:=by
 cases h with
 |undef=>grind [AV.plain]
 |pv sh p v hs h=>exact h.flat
 |agg l vs hl h h'=>
  intro c hc;have hc':c∈cellsOf vs:=by grind [Value.cells]
  obtain⟨i,v,hi,hcv⟩:=Qz hc';have hlt:i<l.length:=by grind
  exact(h i l[i] v (Ze hlt) hi).2 c hcv
 |tuple=>grind [AV.plain]
 |_=>exact KD rfl

def MR(w:World)(I:Nat->Prop)(sh:Sh)(es:List (PV × PV))(ents:List MapEntry):Prop:=
 es.length=ents.length/\∀(k:Nat) (x:PV × PV) (e:MapEntry),es[k]? =some x->ents[k]? =some e->PR w I x.1 e.key/\PR w I x.2 e.val/\vshp e.val=sh
def Wide(es:List (PV × PV)):Prop:=∀x∈es,∃l,x.1=.agg l
def MapR(w:World)(I:Nat->Prop)(sh:Sh)(es:List (PV × PV))(ents:Array MapEntry):Prop:=∃l:List MapEntry,l.Perm ents.toList/\MR w I sh es l/\(l=ents.toList\/Wide es)
theorem MR.mono{w w':World}{I I':Nat->Prop}{sh:Sh}{es:List (PV × PV)}{l:List MapEntry}(h:MR w I sh es l)(k:∀{p:PV} {v:Value},PR w I p v->PR w' I' p v):MR w' I' sh es l:=
 ⟨h.1,fun j x e hx he=>⟨k (h.2 j x e hx he).1,k (h.2 j x e hx he).2.1,(h.2 j x e hx he).2.2⟩⟩
theorem MapR.mono{w w':World}{I I':Nat->Prop}{sh:Sh}{es:List (PV × PV)}{ents:Array MapEntry}(h:MapR w I sh es ents)(k:∀{p:PV} {v:Value},PR w I p v->PR w' I' p v):MapR w' I' sh es ents:=by
 obtain⟨l,h1,h2,h3⟩:=h;exact⟨l,h1,h2.mono k,h3⟩
theorem MR.map{w:World}{I:Nat->Prop}{sh:Sh}{es:List (PV × PV)}{ents:Array MapEntry}(h:MR w I sh es ents.toList):MapR w I sh es ents:=⟨_,List.Perm.refl _,h,.inl rfl⟩
theorem MapR.len{w:World}{I:Nat->Prop}{sh:Sh}{es:List (PV × PV)}{ents:Array MapEntry}(h:MapR w I sh es ents):es.length=ents.size:=by
 obtain⟨l,h1,h2,_⟩:=h;have:=h1.length_eq;rw[h2.1,this];simp
theorem MapR.nil{w:World}{I:Nat->Prop}{sh:Sh}:MapR w I sh [] #[]:=MR.map ⟨rfl,fun k x e hx=>by grind⟩

def Uc:PV:=.sl none (Lib.asciiSpaceTab.map fun z=>.int .u8 z)
def TabR(P:Program)(w:World)(I:Nat->Prop):Prop:=∀g,P.globalNamed "strings.asciiSpace" =some g->PR w I Uc (.slice (some ⟨g,0,none⟩) 256 256)
theorem TabR.mono{w w':World}{I I':Nat->Prop}(h:TabR P w I)(k:∀{p:PV} {v:Value},PR w I p v->PR w' I' p v):TabR P w' I':=fun g hg=>k (h g hg)

structure HR(w:World)(X:Xc P)(μ:Nat->Option Nat)(hp:Heap):Prop where
 inj:∀i j b,i<hp.length->j<hp.length->μ i=some b->μ j=some b->i=j
 out:∀i b,i<hp.length->μ i=some b->¬X b/\b<w.heap.size
 xlt:∀b,X b->b<w.heap.size
 box:∀i sh v,hp[i]? =some (.box sh v)->∃b val t,μ i=some b/\w.heap[b]? =some (.cells val.cells t (0,0))/\vshp val=sh/\Flat val/\AR w X μ hp v val
 arr:∀i sh es fz,hp[i]? =some (.arr sh es fz)->0<sh.size/\((μ i=none/\es=[])\/∃b cs t vals,μ i=some b/\w.heap[b]? =some (.cells cs t (0,0))/\es.length=vals.length/\
  (∀(k:Nat) (p:PV) (v:Value),es[k]? =some p->vals[k]? =some v->vshp v=sh/\PR w (Im X μ hp) p v)/\cellsOf vals=cs.toList.take (es.length*sh.size))
 map:∀i sh es,hp[i]? =some (.map sh es)->∃b ents clock,μ i=some b/\w.heap[b]? =some (.map ents clock)/\MapR w (Im X μ hp) sh es ents
 loop:∀i f ps env bz,hp[i]? =some (.loop f ps env bz)->∃l rec,μ i=some l/\w.heap[l]? =some (.loop rec)/\(rec.state=if bz=true then .busy else .ready)/\rec.pending=none/\rec.params=ps.toArray/\Ub P f rec.params rec.assign rec.body rec.tmps.size/\
  ∀x∈env,x.1<rec.tmps.size/\AR w X μ hp x.2 (rec.tmps.getD x.1 undef)
 arv:∀i sh es,hp[i]? =some (.arv sh es)->0<sh.size/\∃b cs t vals,μ i=some b/\w.heap[b]? =some (.cells cs t (0,0))/\es.length=vals.length/\
  (∀(k:Nat) (a:AV) (v:Value),es[k]? =some a->vals[k]? =some v->(vshp v=sh/\Flat v)/\AR w X μ hp a v)/\cellsOf vals=cs.toList.take (es.length*sh.size)
 tab:TabR P w (Im X μ hp)

structure Ext(b0:Nat)(X:Xc P)(μ:Nat->Option Nat)(hp:Heap)(w:World)(μ':Nat->Option Nat)(hp':Heap)(w':World):Prop where
 os:w'.os=w.os
 tape:w'.tape=w.tape
 output:w'.output=w.output
 size:w.heap.size<=w'.heap.size
 blk:∀b,b<w.heap.size->(∀i,live hp i=true->μ i≠some b)->w'.heap[b]? =w.heap[b]?
 shape:∀(b:Nat) (cs:Array Value) (t:TypeId) (fr:Nat × Nat),w.heap[b]? =some (Obj.cells cs t fr)->∃(cs':Array Value),w'.heap[b]? =some (Obj.cells cs' t fr)/\cs'.size=cs.size
 len:hp.length<=hp'.length
 box:∀i sh v,hp[i]? =some (.box sh v)->∃v',hp'[i]? =some (.box sh v')/\μ' i=μ i/\(i<b0->∀q∈v'.refsIn,q∈v.refsIn)
 arr:∀i sh es fz,hp[i]? =some (.arr sh es fz)->∃es' fz',hp'[i]? =some (.arr sh es' fz')/\es.length<=es'.length/\(fz=true->fz'=true/\es'=es)/\(es'.length=es.length->μ' i=μ i)
 map:∀i sh es,hp[i]? =some (.map sh es)->∃es',hp'[i]? =some (.map sh es')/\μ' i=μ i
 loop:∀i f ps env bz,hp[i]? =some (.loop f ps env bz)->∃bz',hp'[i]? =some (.loop f ps env bz')/\μ' i=μ i
 arv:∀i sh es,hp[i]? =some (.arv sh es)->∃n,YP hp'[i]? =some (sh,n)/\es.length<=n/\(n=es.length->μ' i=μ i)/\(∀es',hp'[i]? =some (.arv sh es')->i<b0->∀q∈AV.refsIn.gol es',q∈AV.refsIn.gol es)
 new:∀i,hp.length<=i->i<hp'.length->∀b,μ' i=some b->w.heap.size<=b
 mov:∀i,i<hp.length->∀b,μ' i=some b->μ i=some b\/w.heap.size<=b

theorem yV{hp:Heap}{i:Nat}(h:live hp i=true):i<hp.length:=by
 grind [live]

theorem Ext.live{b0:Nat}{X:Xc P}{μ μ':Nat->Option Nat}{hp hp':Heap}{w w':World}(h:Ext b0 X μ hp w μ' hp' w'){i:Nat}(hi:i<hp.length)(hl:live hp' i=true):live hp i=true:=by
 unfold Am.live at*;rw[Ze hi];cases ho:hp[i] with
 |box sh v=>rfl
 |map sh es=>rfl
 |loop f ps env bz=>rfl
 |arv sh es=>rfl
 |arr sh es fz=>
  obtain⟨es',fz',h1,_,h2,_⟩:=h.arr i sh es fz (by grind)
  grind

theorem Ext.im{b0:Nat}{X:Xc P}{μ μ':Nat->Option Nat}{hp hp':Heap}{w w':World}(h:Ext b0 X μ hp w μ' hp' w'){b:Nat}(hb:b<w.heap.size)(hI:Im X μ hp b):Im X μ' hp' b:=by
 refine⟨hI.1,fun i hl e=> ?_⟩;have hlt:=yV hl;rcases Zn i hp.length with hi|hi
 ·rcases h.mov i hi b e with h1|h1
  ·exact hI.2 i (h.live hi hl) h1
  ·omega
 ·have:=h.new i hi hlt b e;omega

theorem yt{w:World}{b:Nat}{o:Obj}(h:w.heap[b]? =some o):b<w.heap.size:=(Array.getElem?_eq_some_iff.1 h).1

theorem Ext.pr{b0:Nat}{X:Xc P}{μ μ':Nat->Option Nat}{hp hp':Heap}{w w':World}(h:Ext b0 X μ hp w μ' hp' w'){p:PV}{v:Value}(hq:PR w (Im X μ hp) p v):PR w' (Im X μ' hp') p v:=
 hq.mono fun b cs t fr hI hb=>⟨h.im (yt hb) hI,by rw[h.blk b (yt hb) hI.2];exact hb⟩

theorem XT{o:Option AObj}{sh:Sh}{n:Nat}(h:YP o=some (sh,n)):(∃es,o=some (.arv sh es)/\es.length=n)\/∃es,o=some (.arr sh es true)/\es.length=n:=by
 unfold YP at h
 grind
theorem Ext.avl{b0:Nat}{X:Xc P}{μ μ':Nat->Option Nat}{hp hp':Heap}{w w':World}(h:Ext b0 X μ hp w μ' hp' w'){r n:Nat}{sh:Sh}(ho:YP hp[r]? =some (sh,n)):∃n',YP hp'[r]? =some (sh,n')/\n<=n'/\(n'=n->μ' r=μ r):=by
 rcases XT ho with⟨es,e,rfl⟩|⟨es,e,rfl⟩
 ·obtain⟨n',h1,h2,h3,_⟩:=h.arv r sh es e
  grind
 ·obtain⟨es',fz',h1,h2,h3,h4⟩:=h.arr r sh es true e
  grind

theorem Ext.ar{b0:Nat}{X:Xc P}{μ μ':Nat->Option Nat}{hp hp':Heap}{w w':World}(h:Ext b0 X μ hp w μ' hp' w'){a:AV}{v:Value}(ha:AR w X μ hp a v):AR w' X μ' hp' a v:=by
 induction ha with
 |undef v h=>exact .undef v h
 |pv sh p v hs hp=>exact .pv sh p v hs (h.pr hp)
 |agg l vs hl hs _ ih=>exact .agg l vs hl hs ih
 |tsl sh es a hp=>exact .tsl sh es a (h.pr hp)
 |sl sh r ver off len a cap es fz ho hv hlc ha hc=>
  obtain⟨es',fz',h1,h2,h3,h4⟩:=h.arr r sh es fz ho;refine .sl sh r ver off len a cap es' fz' h1 (by omega) hlc ha fun e=> ?_;have e1:es'.length=es.length:=by omega
  obtain⟨c1,c2⟩:=hc (by omega);refine⟨by omega,?_⟩;rcases c2 with⟨c2,c3⟩|⟨b,cs,t,c2,c3,c4,c5⟩
  ·grind
  ·have hm:μ' r=some b:=by grind
   obtain⟨cs2,hc2,hsz⟩:=h.shape b cs t _ c3
   grind
 |ptr r off b sh v ho hb=>
  obtain⟨v',h1,h2,_⟩:=h.box r sh v ho;exact .ptr r off b sh v' h1 (by grind)
 |eptr sh r ver i off a es fz ho hv hc=>
  obtain⟨es',fz',h1,h2,h3,h4⟩:=h.arr r sh es fz ho;refine .eptr sh r ver i off a es' fz' h1 (by omega) fun e=> ?_
  grind
 |iptr sh p off b o cs t fr v hI hb hp hs hc=>exact .iptr sh p off b o cs t fr v (h.im (yt hb) hI) (by rw[h.blk b (yt hb) hI.2];exact hb) (h.pr hp) hs hc
 |map r b sh es ho hb=>
  obtain⟨es',h1,h2⟩:=h.map r sh es ho;exact .map r b sh es' h1 (by grind)
 |func fn first captured fs cs hf hc _ _ ih ih'=>exact .func fn first captured fs cs hf hc ih ih'
 |iface t a v _ ih=>exact .iface t a v ih
 |tuple l vs hl _ ih=>exact .tuple l vs hl ih
 |yield r l f ps env bz ho hb=>
  obtain⟨bz',h1,h2⟩:=h.loop r f ps env bz ho;exact .yield r l f ps env bz' h1 (by grind)
 |slv sh r ver off len a cap n ho hv hlc ha hc=>
  obtain⟨n',h1,h2,h4⟩:=h.avl ho;refine .slv sh r ver off len a cap n' h1 (by omega) hlc ha fun e=> ?_;have e1:n'=n:=by omega
  obtain⟨c1,b,cs,t,c2,c3,c4,c5⟩:=hc (by omega);obtain⟨cs2,hc2,hsz⟩:=h.shape b cs t _ c3
  grind
 |epv sh r ver i off a n ho hv hc=>
  obtain⟨n',h1,h2,h4⟩:=h.avl ho;refine .epv sh r ver i off a n' h1 (by omega) fun e=> ?_
  grind
 |nilv sh=>exact .nilv sh

theorem Ext.refl(b0:Nat)(X:Xc P)(μ:Nat->Option Nat)(hp:Heap)(w:World):Ext b0 X μ hp w μ hp w where
 os:=rfl
 tape:=rfl
 output:=rfl
 size:=Zc _
 blk _ _ _:=rfl
 shape b cs t fr h:=⟨cs,h,rfl⟩
 len:=Zc _
 box i sh v h:=⟨v,h,rfl,fun _ _ h=>h⟩
 arr i sh es fz h:=⟨es,fz,h,Zc _,fun e=>⟨e,rfl⟩,fun _=>rfl⟩
 map i sh es h:=⟨es,h,rfl⟩
 loop i f ps env bz h:=⟨bz,h,rfl⟩
 arv i sh es h:=⟨es.length,by rw[h];rfl,Zc _,fun _=>rfl,fun es' h' _=>by grind⟩
 new i h1 h2:=by omega
 mov i _ b h:=.inl h

theorem Ext.trans{b0:Nat}{X:Xc P}{μ μ' μ'':Nat->Option Nat}{hp hp' hp'':Heap}{w w' w'':World}(h:Ext b0 X μ hp w μ' hp' w')(k:Ext b0 X μ' hp' w' μ'' hp'' w''):Ext b0 X μ hp w μ'' hp'' w'' where
 os:=k.os.trans h.os
 tape:=k.tape.trans h.tape
 output:=k.output.trans h.output
 size:=Zz h.size k.size
 blk b hb hm:=by
  rw[k.blk b (Zp hb h.size),h.blk b hb hm];intro i hl e;have hlt:=yV hl;rcases Zn i hp.length with hi|hi
  ·rcases h.mov i hi b e with h1|h1
   ·exact hm i (h.live hi hl) h1
   ·omega
  ·have:=h.new i hi hlt b e;omega
 shape b cs t fr hb:=by
  obtain⟨cs1,h1,h2⟩:=h.shape b cs t fr hb;obtain⟨cs2,h3,h4⟩:=k.shape b cs1 t fr h1
  grind
 len:=Zz h.len k.len
 box i sh v ho:=by
  obtain⟨v1,h1,h2,h3⟩:=h.box i sh v ho;obtain⟨v2,k1,k2,k3⟩:=k.box i sh v1 h1
  grind
 arr i sh es fz ho:=by
  obtain⟨es1,fz1,h1,h2,h3,h4⟩:=h.arr i sh es fz ho;obtain⟨es2,fz2,k1,k2,k3,k4⟩:=k.arr i sh es1 fz1 h1
  grind
 map i sh es ho:=by
  obtain⟨es1,h1,h2⟩:=h.map i sh es ho;obtain⟨es2,k1,k2⟩:=k.map i sh es1 h1
  grind
 loop i f ps env bz ho:=by
  obtain⟨b1,h1,h2⟩:=h.loop i f ps env bz ho;obtain⟨b2,k1,k2⟩:=k.loop i f ps env b1 h1
  grind
 arv i sh es ho:=by
  obtain⟨n1,h1,h2,h3,h4⟩:=h.arv i sh es ho;obtain⟨n2,k1,k2,k3⟩:=k.avl h1;refine⟨n2,k1,by omega,fun e=>by grind,fun es2 he hi q hq=> ?_⟩;rcases XT h1 with⟨es1,e1,_⟩|⟨es1,e1,_⟩
  ·obtain⟨_,_,_,_,k4⟩:=k.arv i sh es1 e1
   grind
  ·obtain⟨es',fz',g1,_,g3,_⟩:=k.arr i sh es1 true e1
   grind
 new i h1 h2 b hb:=by
  rcases Zn i hp'.length with hi|hi
  ·rcases k.mov i hi b hb with e|e
   ·exact h.new i h1 hi b e
   ·have:=h.size;omega
  ·have:=k.new i hi h2 b hb;have:=h.size;omega
 mov i hi b hb:=by
  rcases k.mov i (Zp hi h.len) b hb with e|e
  ·exact h.mov i hi b e
  ·exact .inr (Zz h.size e)

theorem Ext.base{b0 b1:Nat}{X:Xc P}{μ μ':Nat->Option Nat}{hp hp':Heap}{w w':World}(h:Ext b0 X μ hp w μ' hp' w')(hb:b1<=b0):Ext b1 X μ hp w μ' hp' w':=
 { h with
  box:=fun i sh v ho=>let ⟨v',h1,h2,h3⟩:=h.box i sh v ho;⟨v',h1,h2,fun hi=>h3 (by omega)⟩
  arv:=fun i sh es ho=>let ⟨n,h1,h2,h3,h4⟩:=h.arv i sh es ho;⟨n,h1,h2,h3,fun es' he hi=>h4 es' he (by omega)⟩ }
end Go.Am

/- The operations that look at no heap, run in the model. -/
namespace Go.Am
variable{P:Program} {w:World} {X:Xc P} {μ:Nat->Option Nat} {hp:Heap}

theorem Yc(v:Value)(vs:List Value):cellsOf (v::vs)=v.cells.toList++cellsOf vs:=rfl
theorem yJ(vs us:List Value):cellsOf (vs++us)=cellsOf vs++cellsOf us:=by simp[cellsOf]

def CR(w:World)(X:Xc P)(μ:Nat->Option Nat)(hp:Heap)(l:List (Sh × AV))(vs:List Value):Prop:=
 l.length=vs.length/\(∀(i:Nat) (x:Sh × AV) (v:Value),l[i]? =some x->vs[i]? =some v->vshp v=x.1/\Flat v)/\
  ∀(i:Nat) (x:Sh × AV) (v:Value),l[i]? =some x->vs[i]? =some v->AR w X μ hp x.2 v

theorem CR.nil:CR w X μ hp [] []:=⟨rfl,by simp,by simp⟩
theorem CR.cons{s:Sh}{a:AV}{v:Value}{l:List (Sh × AV)}{vs:List Value}(h1:vshp v=s)(h2:Flat v)(h3:AR w X μ hp a v)(h:CR w X μ hp l vs):CR w X μ hp ((s,a)::l) (v::vs):=by
 refine⟨by simp[h.1],fun i x u hx hu=> ?_,fun i x u hx hu=> ?_⟩
 ·cases i with
  |zero=>grind
  |succ i=>exact h.2.1 i x u (by grind) (by grind)
 ·cases i with
  |zero=>grind
  |succ i=>exact h.2.2 i x u (by grind) (by grind)
theorem CR.inv{s:Sh}{a:AV}{l:List (Sh × AV)}{vs:List Value}(h:CR w X μ hp ((s,a)::l) vs):∃v us,vs=v::us/\vshp v=s/\Flat v/\AR w X μ hp a v/\CR w X μ hp l us:=by
 obtain⟨h1,h2,h3⟩:=h;cases vs with
 |nil=>grind
 |cons v us=>
  refine⟨v,us,rfl,(h2 0 _ v rfl rfl).1,(h2 0 _ v rfl rfl).2,h3 0 _ v rfl rfl,by grind,fun i x u hx hu=>h2 (i+1) x u (by grind) (by grind),fun i x u hx hu=>h3 (i+1) x u (by grind) (by grind)⟩
theorem CR.nil_inv{vs:List Value}(h:CR w X μ hp [] vs):vs=[]:=Z2 (by have:=h.1;grind)
theorem CR.agg{l:List (Sh × AV)}{vs:List Value}(h:CR w X μ hp l vs):AR w X μ hp (.agg l) (.agg (cellsOf vs).toArray):=.agg l vs h.1 h.2.1 h.2.2

def CP(w:World)(I:Nat->Prop)(l:List (Sh × PV))(vs:List Value):Prop:=
 l.length=vs.length/\(∀(i:Nat) (x:Sh × PV) (v:Value),l[i]? =some x->vs[i]? =some v->vshp v=x.1)/\
  ∀(i:Nat) (x:Sh × PV) (v:Value),l[i]? =some x->vs[i]? =some v->PR w I x.2 v
theorem CP.nil{I:Nat->Prop}:CP w I [] []:=⟨rfl,by simp,by simp⟩
theorem CP.cons{I:Nat->Prop}{s:Sh}{a:PV}{v:Value}{l:List (Sh × PV)}{vs:List Value}(h1:vshp v=s)(h3:PR w I a v)(h:CP w I l vs):CP w I ((s,a)::l) (v::vs):=by
 refine⟨by simp[h.1],fun i x u hx hu=> ?_,fun i x u hx hu=> ?_⟩
 ·cases i with
  |zero=>grind
  |succ i=>exact h.2.1 i x u (by grind) (by grind)
 ·cases i with
  |zero=>grind
  |succ i=>exact h.2.2 i x u (by grind) (by grind)
theorem CP.inv{I:Nat->Prop}{s:Sh}{a:PV}{l:List (Sh × PV)}{vs:List Value}(h:CP w I ((s,a)::l) vs):∃v us,vs=v::us/\vshp v=s/\PR w I a v/\CP w I l us:=by
 obtain⟨h1,h2,h3⟩:=h;cases vs with
 |nil=>grind
 |cons v us=>
  refine⟨v,us,rfl,h2 0 _ v rfl rfl,h3 0 _ v rfl rfl,by grind,fun i x u hx hu=>h2 (i+1) x u (by grind) (by grind),fun i x u hx hu=>h3 (i+1) x u (by grind) (by grind)⟩
theorem CP.nil_inv{I:Nat->Prop}{vs:List Value}(h:CP w I [] vs):vs=[]:=Z2 (by have:=h.1;grind)
theorem CP.agg{I:Nat->Prop}{l:List (Sh × PV)}{vs:List Value}(h:CP w I l vs):PR w I (.agg l) (.agg (cellsOf vs).toArray):=.agg l vs h.1 h.2.1 h.2.2
theorem CP.total{I:Nat->Prop}:∀{l:List (Sh × PV)} {vs:List Value},CP w I l vs->(cellsOf vs).length=Am.total l
 |[],vs,h=>by rw[h.nil_inv];rfl
 |(s,p)::l,vs,h=>by
  obtain⟨v,us,rfl,h1,_,h3⟩:=h.inv;have:=h3.total
  grind [Yc,Yu,Am.total]
theorem CR.total:∀{l:List (Sh × AV)} {vs:List Value},CR w X μ hp l vs->(cellsOf vs).length=Am.total l
 |[],vs,h=>by rw[h.nil_inv];rfl
 |(s,p)::l,vs,h=>by
  obtain⟨v,us,rfl,h1,_,_,h3⟩:=h.inv;have:=h3.total
  grind [Yc,Yu,Am.total]

theorem Ud:∀{l:List (Sh × AV)} {ps:List (Sh × PV)} {vs:List Value},pures l=some ps->CR w X μ hp l vs->CP w (Im X μ hp) ps vs/\Am.total l=Am.total ps
 |[],ps,vs,h,hc=>by simp[pures] at h;subst h;rw[hc.nil_inv];exact⟨CP.nil,rfl⟩
 |(s,a)::r,ps,vs,h,hc=>by
  cases a with
  |pv s' p=>
   simp only[pures] at h;cases hr:pures r with
   |none=>grind
   |some l=>
    rw[hr] at h;simp at h;subst h;obtain⟨v,us,rfl,h1,_,h2,h3⟩:=hc.inv;obtain⟨k1,k2⟩:=Ud hr h3;cases h2 with
    |pv _ _ _ _ hq=>grind [CP.cons,Am.total]
  |_=>simp[pures] at h

theorem CR.ofComps{l:List (Sh × AV)}{vs:List Value}(h:CR w X μ hp l vs):AR w X μ hp (AV.ofComps l) (.agg (cellsOf vs).toArray):=by
 unfold AV.ofComps;cases hq:pures l with
 |none=>exact h.agg
 |some ps=>
  obtain⟨h1,h2⟩:=Ud hq h;refine .pv _ _ _ ?_ h1.agg;simp[vshp,h.total]

theorem CP.ar{l:List (Sh × PV)}{vs:List Value}(h:CP w (Im X μ hp) l vs):CR w X μ hp (l.map fun x=>(x.1,.pv x.1 x.2)) vs:=by
 obtain⟨h1,h2,h3⟩:=h;refine⟨by grind,fun i x v hx hv=> ?_,fun i x v hx hv=> ?_⟩
 ·simp only[ZU,ZA] at hx;obtain⟨y,hy,rfl⟩:=hx;exact⟨h2 i y v hy hv,(h3 i y v hy hv).flat⟩
 ·simp only[ZU,ZA] at hx;obtain⟨y,hy,rfl⟩:=hx;exact .pv _ _ _ (h2 i y v hy hv) (h3 i y v hy hv)

theorem AR.vshp{a:AV}{v:Value}(h:AR w X μ hp a v)(hp:a.plain=true):Am.vshp v=a.shp:=by
 cases h with
 |undef=>grind [AV.plain]
 |tuple=>grind [AV.plain]
 |pv sh p v hs _=>exact hs
 |agg l vs h1 h2 h3=>
  have:=CR.total (w:=w) (X:=X) (μ:=μ) ⟨h1,h2,h3⟩
  grind [Am.vshp,AV.shp]
 |_=>rfl

theorem Ue{a:AV}{l:List (Sh × AV)}{v:Value}(hl:a.comps=some l)(h:AR w X μ hp a v):∃vs,v=.agg (cellsOf vs).toArray/\CR w X μ hp l vs:=by
 cases h with
 |agg l' vs h1 h2 h3=>
  simp[AV.comps] at hl;subst hl;exact⟨vs,rfl,h1,h2,h3⟩
 |pv sh p v hs h=>
  cases h with
  |agg l' vs h1 h2 h3=>
   simp[AV.comps] at hl;subst hl;exact⟨vs,rfl,CP.ar ⟨h1,h2,h3⟩⟩
  |_=>simp[AV.comps] at hl
 |_=>simp[AV.comps] at hl

theorem Uf{v:Value}(h:v.oneCell'=true):vshp v=none:=by cases v <;> simp_all[vshp,Value.oneCell']

theorem Ug{v:Value}(h:vshp v=none):v.cells.toList=[v]:=by cases v <;> simp_all[vshp,Value.cells]

theorem JV(P:Program)(w:World)(X:Xc P)(μ:Nat->Option Nat)(hp:Heap):∀(d:Nat) (t:TypeId) (v:Value) (a:AV),ofValue P d t v=some a->AR w X μ hp a v/\a.plain=true:=by
 intro d
 induction d with
 |zero=>intro t v a h;simp[ofValue] at h
 |succ d ih=>
  have one:∀(cs:Array Value) (sh:Sh) (t:TypeId) (off:Nat) (a:AV),ofValue.one P d cs sh t off=some a->off+sh.size<=cs.size/\∃v,vshp v=sh/\Flat v/\AR w X μ hp a v/\v.cells.toList=(cs.toList.drop off).take sh.size:=by
   intro cs sh t off a h;unfold ofValue.one JR at h;cases sh with
   |some n=>
    simp only at h;split at h
    ·rename_i hle;obtain⟨h1,h2⟩:=ih _ _ _ h;refine⟨hle,_,?_,h1.flat h2,h1,?_⟩
     ·simp[vshp];omega
     ·simp[Value.cells,Sh.size,List.extract_eq_take_drop]
    ·cases h
   |none=>
    simp only at h;split at h
    ·rename_i v hv;split at h
     ·rename_i h1;have hlt:=(Array.getElem?_eq_some_iff.1 hv).1;refine⟨by simp[Sh.size];omega,v,Uf h1,KD h1,(ih _ _ _ h).1,?_⟩;rw[Ug (Uf h1)];simp only[Sh.size];rw[List.take_one];simp[hv]
     ·cases h
    ·cases h
  have fields:∀(fs:List Field) (cs:Array Value) (o:Nat) (l:List (Sh × AV)),ofValue.fields P d cs o fs=some l->∃vs,CR w X μ hp l vs/\cellsOf vs=cs.toList.drop o:=by
   intro fs
   induction fs with
   |nil=>
    intro cs o l h;simp only[ofValue.fields,Qs] at h;split at h
    ·cases h;exact⟨[],CR.nil,by rename_i e;subst e;simp[cellsOf]⟩
    ·cases h
   |cons f r ihf=>
    intro cs o l h;simp only[ofValue.fields,Qs] at h;split at h
    ·split at h
     ·cases h
     ·rename_i v hv;split at h
      ·rename_i l' hl';cases h;obtain⟨hle,u,h1,h2,h3,h4⟩:=one _ _ _ _ _ hv;obtain⟨vs,h5,h6⟩:=ihf _ _ _ hl';refine⟨u::vs,CR.cons h1 h2 h3 h5,?_⟩;rw[Yc,h4,h6,<-ZB,ZY]
      ·cases h
    ·cases h
  have items:∀(n:Nat) (cs:Array Value) (sh:Sh) (t:TypeId) (o:Nat) (l:List (Sh × AV)),ofValue.items P d cs sh t o n=some l->∃vs,CR w X μ hp l vs/\cellsOf vs=cs.toList.drop o:=by
   intro n
   induction n with
   |zero=>
    intro cs sh t o l h;simp only[ofValue.items,Qt] at h;split at h
    ·cases h;exact⟨[],CR.nil,by rename_i e;subst e;simp[cellsOf]⟩
    ·cases h
   |succ n ihn=>
    intro cs sh t o l h;simp only[ofValue.items,Qt] at h;split at h
    ·cases h
    ·rename_i v hv;split at h
     ·rename_i l' hl';cases h;obtain⟨hle,u,h1,h2,h3,h4⟩:=one _ _ _ _ _ hv;obtain⟨vs,h5,h6⟩:=ihn _ _ _ _ _ hl';refine⟨u::vs,CR.cons h1 h2 h3 h5,?_⟩;rw[Yc,h4,h6,<-ZB,ZY]
     ·cases h
  have plainOf:∀l,(AV.ofComps l).plain=true:=by intro l;unfold AV.ofComps;split <;> rfl
  intro t v a h;unfold ofValue at h;split at h
  ·cases h;exact⟨.pv _ _ _ rfl (.bool _),rfl⟩
  ·cases h;exact⟨.pv _ _ _ rfl (.int _ _),rfl⟩
  ·cases h;exact⟨.pv _ _ _ rfl (.str _),rfl⟩
  ·split at h
   ·split at h
    ·cases h;exact⟨.nilv _,rfl⟩
    ·cases h;exact⟨.tsl _ [] none (.nilsl _ _ _),rfl⟩
   ·cases h
  ·cases h;exact⟨.pv _ _ _ rfl .nilptr,rfl⟩
  ·cases h;exact⟨.pv _ _ _ rfl .nilfunc,rfl⟩
  ·cases h;exact⟨.pv _ _ _ rfl .nilmap,rfl⟩
  ·cases h;exact⟨.pv _ _ _ rfl .niliface,rfl⟩
  ·rename_i cs;split at h
   ·split at h
    ·rename_i l hl;cases h;obtain⟨vs,h1,h2⟩:=fields _ _ _ _ hl;refine⟨?_,plainOf _⟩;have:=h1.ofComps;rw[h2] at this;simpa using this
    ·cases h
   ·split at h
    ·rename_i l hl;cases h;obtain⟨vs,h1,h2⟩:=items _ _ _ _ _ _ hl;refine⟨?_,plainOf _⟩;have:=h1.ofComps;rw[h2] at this;simpa using this
    ·cases h
   ·cases h
  ·cases h
end Go.Am

/- New objects, stores: how the relation between heaps goes on. -/
namespace Go.Am
variable{P:Program} {w:World} {X:Xc P} {μ:Nat->Option Nat} {hp:Heap}

theorem YQ(w:World)(o:Obj){b:Nat}(h:b<w.heap.size):(w.alloc o).heap[b]? =w.heap[b]? :=RowKit.Below.heap_alloc w o b h
theorem YH(w:World)(o:Obj):(w.alloc o).heap[w.heap.size]? =some o:=by
 show(w.heap.push o)[w.heap.size]? =_;simp
theorem Uh(w:World)(o:Obj){b:Nat}{x:Obj}(h:w.heap[b]? =some x):(w.alloc o).heap[b]? =some x:=by grind [YQ]

theorem Ext.alloc(b0:Nat)(o:Obj):Ext b0 X μ hp w μ hp (w.alloc o):=
 { Ext.refl b0 X μ hp w with
  size:=by simp
  blk:=fun b hb _=>YQ w o hb
  shape:=fun b cs t fr h=>⟨cs,Uh w o h,rfl⟩
  new:=fun i h1 h2=>by omega
  mov:=fun i _ b h=>.inl h }

theorem Ext.drew(b0:Nat):Ext b0 X μ hp w μ hp w.drew:=
 { Ext.refl b0 X μ hp w with
  size:=Zc _
  blk:=fun _ _ _=>rfl
  shape:=fun b cs t fr h=>⟨cs,h,rfl⟩
  new:=fun i h1 h2=>by omega
  mov:=fun i _ b h=>.inl h }

theorem HR.same{w':World}(h:HR w X μ hp)(e:Ext 0 X μ hp w μ hp w')(hb:∀i b,i<hp.length->μ i=some b->w'.heap[b]? =w.heap[b]?):HR w' X μ hp where
 inj:=h.inj
 out i b hi hm:=⟨(h.out i b hi hm).1,Zp (h.out i b hi hm).2 e.size⟩
 xlt b hx:=Zp (h.xlt b hx) e.size
 box i sh v ho:=by
  obtain⟨b,val,t,h1,h2,h3,h4,h5⟩:=h.box i sh v ho;exact⟨b,val,t,h1,by grind,h3,h4,e.ar h5⟩
 arr i sh es fz ho:=by
  obtain⟨h0,h1⟩:=h.arr i sh es fz ho;refine⟨h0,?_⟩;rcases h1 with h1|⟨b,cs,t,vals,h1,h2,h3,h4,h5⟩
  ·grind
  ·exact .inr ⟨b,cs,t,vals,h1,by grind,h3,fun k p v hk hv=>⟨(h4 k p v hk hv).1,e.pr (h4 k p v hk hv).2⟩,h5⟩
 map i sh es ho:=by
  obtain⟨b,ents,clock,h1,h2,h3⟩:=h.map i sh es ho;exact⟨b,ents,clock,h1,by grind,h3.mono e.pr⟩
 loop i f ps env bz ho:=by
  obtain⟨l,rc,h1,h2,h3,h4,h5,h6,h7⟩:=h.loop i f ps env bz ho;exact⟨l,rc,h1,by grind,h3,h4,h5,h6,fun x hx=>⟨(h7 x hx).1,e.ar (h7 x hx).2⟩⟩
 arv i sh es ho:=by
  obtain⟨h0,b,cs,t,vals,h1,h2,h3,h4,h5⟩:=h.arv i sh es ho;exact⟨h0,b,cs,t,vals,h1,by grind,h3,fun k p v hk hv=>⟨(h4 k p v hk hv).1,e.ar (h4 k p v hk hv).2⟩,h5⟩
 tab:=h.tab.mono e.pr

theorem HR.alloc(h:HR w X μ hp)(o:Obj):HR (w.alloc o) X μ hp:=
 h.same (Ext.alloc 0 o) fun i b hi hm=>YQ w o (h.out i b hi hm).2
theorem HR.drew(h:HR w X μ hp):HR w.drew X μ hp:=h.same (Ext.drew 0) fun _ _ _ _=>rfl

def upd(μ:Nat->Option Nat)(n:Nat)(b:Option Nat):Nat->Option Nat:=fun i=>if i=n then b else μ i
theorem zW(μ:Nat->Option Nat)(n:Nat)(b:Option Nat):upd μ n b n=b:=by simp[upd]
theorem Yi{μ:Nat->Option Nat}{n i:Nat}{b:Option Nat}(h:i<n):upd μ n b i=μ i:=by grind [upd]
theorem zY{μ:Nat->Option Nat}{n i:Nat}{b:Option Nat}(h:i≠n):upd μ n b i=μ i:=by simp[upd,h]

theorem bF{hp:Heap}{o:AObj}{i:Nat}(h:i<hp.length):(hp++[o])[i]? =hp[i]? :=ZZ h
theorem Xa{hp:Heap}{o:AObj}:(hp++[o])[hp.length]? =some o:=by simp
theorem QA{hp:Heap}{o x:AObj}{i:Nat}(h:hp[i]? =some x):(hp++[o])[i]? =some x:=by grind
theorem XU{hp:Heap}{o x:AObj}{i:Nat}(h:(hp++[o])[i]? =some x):hp[i]? =some x\/(i=hp.length/\x=o):=by
 grind

theorem Ext.push{w':World}{b0:Nat}(o:AObj)(nb:Option Nat)(e:Ext b0 X μ hp w μ hp w')(hn:∀b,nb=some b->w.heap.size<=b):Ext b0 X μ hp w (upd μ hp.length nb) (hp++[o]) w' where
 os:=e.os
 tape:=e.tape
 output:=e.output
 size:=e.size
 blk:=e.blk
 shape:=e.shape
 len:=by simp
 box i sh v ho:=by
  grind [Yi]
 arr i sh es fz ho:=by
  grind [Yi]
 map i sh es ho:=by
  grind [Yi]
 loop i f ps env bz ho:=by
  grind [Yi]
 arv i sh es ho:=by
  have hi:=(Zf.1 ho).1;exact⟨es.length,by rw[QA ho];rfl,Zc _,fun _=>Yi hi,fun es' h' _=>by grind⟩
 new i h1 h2 b hb:=by
  have:i=hp.length:=by grind
  grind [zW]
 mov i hi b hb:=by grind [Yi]

theorem HR.push{w':World}(h:HR w X μ hp)(o:AObj)(nb:Option Nat)(e:Ext 0 X μ hp w μ hp w')(hb:∀i b,i<hp.length->μ i=some b->w'.heap[b]? =w.heap[b]?)(hn:∀b,nb=some b->w.heap.size<=b/\b<w'.heap.size)
  (hbox:∀sh v,o=.box sh v->∃b val t,nb=some b/\w'.heap[b]? =some (.cells val.cells t (0,0))/\vshp val=sh/\Flat val/\AR w' X (upd μ hp.length nb) (hp++[o]) v val)
  (harr:∀sh es fz,o=.arr sh es fz->0<sh.size/\((nb=none/\es=[])\/∃b cs t vals,nb=some b/\w'.heap[b]? =some (.cells cs t (0,0))/\es.length=vals.length/\
   (∀(k:Nat) (p:PV) (v:Value),es[k]? =some p->vals[k]? =some v->vshp v=sh/\PR w' (Im X (upd μ hp.length nb) (hp++[o])) p v)/\cellsOf vals=cs.toList.take (es.length*sh.size)))
  (hmap:∀sh es,o=.map sh es->∃b ents clock,nb=some b/\w'.heap[b]? =some (.map ents clock)/\MapR w' (Im X (upd μ hp.length nb) (hp++[o])) sh es ents)
  (hloop:∀f ps env bz,o=.loop f ps env bz->∃l rec,nb=some l/\w'.heap[l]? =some (.loop rec)/\(rec.state=if bz=true then .busy else .ready)/\rec.pending=none/\rec.params=ps.toArray/\Ub P f rec.params rec.assign rec.body rec.tmps.size/\
   (∀x∈env,x.1<rec.tmps.size/\AR w' X (upd μ hp.length nb) (hp++[o]) x.2 (rec.tmps.getD x.1 undef)):=by intro _ _ _ _ h;cases h)
  (harv:∀sh es,o=.arv sh es->0<sh.size/\∃b cs t vals,nb=some b/\w'.heap[b]? =some (.cells cs t (0,0))/\es.length=vals.length/\
   (∀(k:Nat) (a:AV) (v:Value),es[k]? =some a->vals[k]? =some v->(vshp v=sh/\Flat v)/\AR w' X (upd μ hp.length nb) (hp++[o]) a v)/\cellsOf vals=cs.toList.take (es.length*sh.size):=by intro _ _ h;cases h):HR w' X (upd μ hp.length nb) (hp++[o]):=by
 have E:=Ext.push (b0:=0) o nb e fun b hb=>(hn b hb).1;have at_:∀i,i<(hp++[o]).length->i<hp.length\/i=hp.length:=by grind
 refine⟨?_,?_,?_,?_,?_,?_,?_,?_,h.tab.mono E.pr⟩
 ·intro i j b hi hj h1 h2;rcases at_ i hi with hi|rfl <;> rcases at_ j hj with hj|rfl
  ·rw[Yi hi] at h1;rw[Yi hj] at h2;exact h.inj i j b hi hj h1 h2
  ·grind [Yi,zW]
  ·grind [zW,Yi]
  ·rfl
 ·intro i b hi h1;rcases at_ i hi with hi|rfl
  ·rw[Yi hi] at h1;exact⟨(h.out i b hi h1).1,Zp (h.out i b hi h1).2 e.size⟩
  ·rw[zW] at h1;refine⟨fun hx=> ?_,(hn b h1).2⟩;have:=h.xlt b hx;grind
 ·exact fun b hx=>Zp (h.xlt b hx) e.size
 ·intro i sh v ho;rcases XU ho with ho|⟨rfl,ho2⟩
  ·have hi:=(Zf.1 ho).1;obtain⟨b,val,t,h1,h2,h3,h4,h5⟩:=h.box i sh v ho;exact⟨b,val,t,by grind [Yi],by grind,h3,h4,E.ar h5⟩
  grind [zW]
 ·intro i sh es fz ho;rcases XU ho with ho|⟨rfl,ho2⟩
  ·have hi:=(Zf.1 ho).1;obtain⟨h0,h1⟩:=h.arr i sh es fz ho;refine⟨h0,?_⟩;rcases h1 with h1|⟨b,cs,t,vals,h1,h2,h3,h4,h5⟩
   ·grind [Yi]
   ·exact .inr ⟨b,cs,t,vals,by grind [Yi],by grind,h3,fun k p v hk hv=>⟨(h4 k p v hk hv).1,E.pr (h4 k p v hk hv).2⟩,h5⟩
  grind [zW]
 ·intro i sh es ho;rcases XU ho with ho|⟨rfl,ho2⟩
  ·have hi:=(Zf.1 ho).1;obtain⟨b,ents,clock,h1,h2,h3⟩:=h.map i sh es ho;exact⟨b,ents,clock,by grind [Yi],by grind,h3.mono E.pr⟩
  grind [zW]
 ·intro i f ps env bz ho;rcases XU ho with ho|⟨rfl,ho2⟩
  ·have hi:=(Zf.1 ho).1;obtain⟨l,rc,h1,h2,h3,h4,h5,h6,h7⟩:=h.loop i f ps env bz ho;exact⟨l,rc,by grind [Yi],by grind,h3,h4,h5,h6,fun x hx=>⟨(h7 x hx).1,E.ar (h7 x hx).2⟩⟩
  grind [zW]
 ·intro i sh es ho;rcases XU ho with ho|⟨rfl,ho2⟩
  ·have hi:=(Zf.1 ho).1;obtain⟨h0,b,cs,t,vals,h1,h2,h3,h4,h5⟩:=h.arv i sh es ho;exact⟨h0,b,cs,t,vals,by grind [Yi],by grind,h3,fun k p v hk hv=>⟨(h4 k p v hk hv).1,E.ar (h4 k p v hk hv).2⟩,h5⟩
  grind [zW]

theorem Ext.setBox{b0 r:Nat}{sh:Sh}{old v:AV}(hr:hp[r]? =some (.box sh old))(hq:r<b0->∀q∈v.refsIn,q∈old.refsIn){w':World}{b:Nat}(hb:μ r=some b)(hos:w'.os=w.os)(ht:w'.tape=w.tape)(ho:w'.output=w.output)
  (hsz:w'.heap.size=w.heap.size)(hoth:∀k,k≠b->w'.heap[k]? =w.heap[k]?)(hsh:∀cs t fr,w.heap[b]? =some (.cells cs t fr)->∃cs',w'.heap[b]? =some (.cells cs' t fr)/\cs'.size=cs.size):Ext b0 X μ hp w μ (hp.set r (.box sh v)) w' where
 os:=hos
 tape:=ht
 output:=ho
 size:=by omega
 blk k hk hm:=hoth k fun e=>by
  grind [Am.live]
 shape k cs t fr hk:=by
  grind
 len:=by simp
 box i s u hi:=by
  grind
 arr i s es fz hi:=by
  grind
 map i s es hi:=by
  grind
 loop i f ps env bz hi:=by
  grind
 arv i s es hi:=by
  have e:i≠r:=by grind
  have e2:(hp.set r (.box sh v))[i]? =some (.arv s es):=by grind
  exact⟨es.length,by rw[e2];rfl,Zc _,fun _=>rfl,fun es' h' _=>by grind⟩
 new i h1 h2:=by grind
 mov i _ k hk:=.inl hk

theorem Y5{hp:Heap}{r i:Nat}{o x:AObj}(h:(hp.set r o)[i]? =some x):(i=r/\x=o)\/(i≠r/\hp[i]? =some x):=by
 grind

theorem HR.setBox{b0 r:Nat}{sh:Sh}{old v:AV}(h:HR w X μ hp)(hr:hp[r]? =some (.box sh old)){w':World}{b:Nat}(hb:μ r=some b)(E:Ext b0 X μ hp w μ (hp.set r (.box sh v)) w')(hoth:∀k,k≠b->w'.heap[k]? =w.heap[k]?)
  {val:Value}{t:TypeId}(h1:w'.heap[b]? =some (.cells val.cells t (0,0)))(h2:vshp val=sh)(h3:Flat val)(h4:AR w X μ hp v val):HR w' X μ (hp.set r (.box sh v)):=by
 have hlen:(hp.set r (.box sh v)).length=hp.length:=by simp
 have other:∀i k,i<hp.length->i≠r->μ i=some k->w'.heap[k]? =w.heap[k]? :=fun i k hi hne hk=>hoth k fun e=>by
  subst e;exact hne (h.inj i r k hi (Zf.1 hr).1 hk hb)
 refine⟨?_,?_,?_,?_,?_,?_,?_,?_,h.tab.mono E.pr⟩
 ·intro i j k hi hj;rw[hlen] at hi hj;exact h.inj i j k hi hj
 ·intro i k hi hk;rw[hlen] at hi;exact⟨(h.out i k hi hk).1,Zp (h.out i k hi hk).2 E.size⟩
 ·exact fun k hx=>Zp (h.xlt k hx) E.size
 ·intro i s u hi;rcases Y5 hi with⟨rfl,e⟩|⟨hne,hi⟩
  ·cases e;exact⟨b,val,t,hb,h1,h2,h3,E.ar h4⟩
  ·obtain⟨k,val,t,k1,k2,k3,k4,k5⟩:=h.box i s u hi;exact⟨k,val,t,k1,by grind,k3,k4,E.ar k5⟩
 ·intro i s es fz hi;rcases Y5 hi with⟨rfl,e⟩|⟨hne,hi⟩
  ·cases e
  ·obtain⟨k0,k1⟩:=h.arr i s es fz hi;refine⟨k0,?_⟩;rcases k1 with k1|⟨k,cs,t,vals,k1,k2,k3,k4,k5⟩
   ·grind
   ·exact .inr ⟨k,cs,t,vals,k1,by grind,k3,fun j p v hj hv=>⟨(k4 j p v hj hv).1,E.pr (k4 j p v hj hv).2⟩,k5⟩
 ·intro i s es hi;rcases Y5 hi with⟨rfl,e⟩|⟨hne,hi⟩
  ·cases e
  ·obtain⟨k,ents,clock,k1,k2,k3⟩:=h.map i s es hi;exact⟨k,ents,clock,k1,by grind,k3.mono E.pr⟩
 ·intro i f ps env bz hi;rcases Y5 hi with⟨rfl,e⟩|⟨hne,hi⟩
  ·cases e
  ·obtain⟨l,rc,k1,k2,k3,k4,k5,k6,k7⟩:=h.loop i f ps env bz hi;exact⟨l,rc,k1,by grind,k3,k4,k5,k6,fun x hx=>⟨(k7 x hx).1,E.ar (k7 x hx).2⟩⟩
 ·intro i s es hi;rcases Y5 hi with⟨rfl,e⟩|⟨hne,hi⟩
  ·cases e
  ·obtain⟨h0,k,cs,t,vals,k1,k2,k3,k4,k5⟩:=h.arv i s es hi;exact⟨h0,k,cs,t,vals,k1,by grind,k3,fun j p v hj hv=>⟨(k4 j p v hj hv).1,E.ar (k4 j p v hj hv).2⟩,k5⟩
end Go.Am

/- The operations that look at no heap, run in the model: one by one. -/
namespace Go.Am
variable{P:Program} {w:World} {X:Xc P} {μ:Nat->Option Nat} {hp:Heap}

theorem qF{t:TypeId}(h:okT P t=true):∃i d,P.info? t=some i/\P.underlying t=some d/\i.size=(shOf P t).size/\0<i.size:=by
 grind [okT]
theorem yW{t:TypeId}(h:okT P t=true)(w:World):(sizeOf t).run P w=.ok (shOf P t).size w:=by
 obtain⟨i,d,hi,hd,hs,_⟩:=qF h;simp_all[sizeOf,typeInfo]
theorem bG{t:TypeId}(h:okS P t=true)(w:World):(sizeOf t).run P w=.ok (shOf P t).size w:=by
 unfold okS at h;split at h
 ·simp_all[sizeOf,typeInfo]
 grind
theorem Ui{t:TypeId}(h:okT P t=true):0<(shOf P t).size:=by
 grind [qF]
theorem Uj{t:TypeId}{d:TypeDesc}(h:P.underlying t=some d)(w:World):(isAgg t).run P w=.ok (shOf P t).isSome w:=by
 simp only[isAgg,Sem.run_bind,run_underlying h,Result.andThen_ok,shOf,h];cases d <;> rfl

def FR(w:World)(X:Xc P)(μ:Nat->Option Nat)(hp:Heap)(fr:Fr)(tmps:Array Value):Prop:=
 ∀s a,fr.look s=some a->s<tmps.size/\AR w X μ hp a (tmps.getD s undef)

inductive LR(w:World)(X:Xc P)(μ:Nat->Option Nat)(hp:Heap):List AV->List Value->Prop
 |nil:LR w X μ hp [] []
 |cons {a v l vs} (h:AR w X μ hp a v) (r:LR w X μ hp l vs):LR w X μ hp (a::l) (v::vs)

theorem XV{fr:Fr}{act:Act}(hF:FR w X μ hp fr act.tmps){t:TypeId}{x:Operand}{ar:AArg}{a:AV}(h:Yz P t x=some ar)(ha:fr.arg ar=some a):AR w X μ hp a (act.eval x):=by
 cases x with
 |tmp s=>
  simp only[Yz,Option.some.injEq] at h;subst h;exact(hF s a ha).2
 |const v=>
  simp only[Yz,ZA] at h;obtain⟨b,hb,rfl⟩:=h;simp only[Fr.arg,Option.some.injEq] at ha;subst ha;exact(JV P w X μ hp 8 t v b hb).1
 |global g=>grind [Yz]
 |func f=>
  simp only[Yz,Option.some.injEq] at h;subst h;simp only[Fr.arg,Option.some.injEq] at ha;subst ha;exact .pv _ _ _ rfl (.func _)

theorem Xb{fr:Fr}{act:Act}(hF:FR w X μ hp fr act.tmps):∀{xs:List Operand} {ts:List TypeId} {azs:List AArg} {vs:List AV},XR P xs ts=some azs->fr.argsOf azs=some vs->LR w X μ hp vs (xs.map act.eval)
 |[],ts,azs,vs,h,hv=>by
  simp only[XR,Option.some.injEq] at h;subst h;simp only[Fr.argsOf,Option.some.injEq] at hv;subst hv;exact .nil
 |x::r,ts,azs,vs,h,hv=>by
  simp only[XR] at h;split at h
  ·cases h
  ·rename_i a ha;split at h
   ·rename_i l hl;cases h;simp only[Fr.argsOf] at hv;split at hv
    ·cases hv
    ·rename_i v1 h1;split at hv
     ·rename_i l1 h2;cases hv;exact .cons (XV hF ha h1) (Xb hF hl h2)
     grind
   grind

theorem AR.int_inv{sh:Sh}{k:IntKind}{n:Int}{v:Value}(h:AR w X μ hp (.pv sh (.int k n)) v):v=.int k n:=by
 cases h with|pv _ _ _ _ h=>cases h;rfl
theorem AR.bool_inv{sh:Sh}{b:Bool}{v:Value}(h:AR w X μ hp (.pv sh (.bool b)) v):v=.bool b:=by
 cases h with|pv _ _ _ _ h=>cases h;rfl
theorem AR.str_inv{sh:Sh}{s:List UInt8}{v:Value}(h:AR w X μ hp (.pv sh (.str s)) v):v=.string ⟨s.toArray⟩:=by
 cases h with|pv _ _ _ _ h=>cases h;rfl
theorem AR.mkBool(b:Bool):AR w X μ hp (.pv none (.bool b)) (.bool b):=.pv _ _ _ rfl (.bool b)
theorem AR.mkInt(k:IntKind)(n:Int):AR w X μ hp (.pv none (.int k n)) (.int k n):=.pv _ _ _ rfl (.int k n)
theorem AR.mkStr(s:List UInt8):AR w X μ hp (.pv none (.str s)) (.string ⟨s.toArray⟩):=.pv _ _ _ rfl (.str s)

theorem bH(o:BinOp)(t:TypeId)(x y:Operand)(k:IntKind)(a b:Int){p:PV}(h:yH o k a b=some p):
  ∃v,((do eqGuard o t x y (.int k a) (.int k b);binOp o t (.int k a) (.int k b)):Sem Value).run P w=.ok v w/\AR w X μ hp (.pv none p) v:=by
 simp only[eqGuard_at_int,pure_bind];cases o <;> simp only[yH] at h
 case quo=>
  split at h
  ·cases h
  ·cases h;rename_i h0;exact⟨_,by simp_all[binOp,Op.intDiv],.mkInt _ _⟩
 case rem=>
  split at h
  ·cases h
  ·cases h;rename_i h0;exact⟨_,by simp_all[binOp,Op.intDiv],.mkInt _ _⟩
 case shr=>
  split at h
  ·cases h
  ·cases h;rename_i h0;exact⟨_,by simp[binOp,Op.shift,h0];try rfl,.mkInt _ _⟩
 all_goals first|(cases h;done)|(cases h;exact⟨_,by simp[binOp,Op.intArith,Op.intCmp];try rfl,by first|exact .mkInt _ _|exact .mkBool _⟩)

theorem bI(o:BinOp)(t:TypeId)(x y:Operand)(a b:List UInt8){p:PV}(h:Xy o a b=some p):
  ∃v,((do eqGuard o t x y (.string ⟨a.toArray⟩) (.string ⟨b.toArray⟩);binOp o t (.string ⟨a.toArray⟩) (.string ⟨b.toArray⟩)):Sem Value).run P w=.ok v w/\AR w X μ hp (.pv none p) v:=by
 simp only[eqGuard_at_string,pure_bind];cases o <;> simp only[Xy] at h
 case add=>
  split at h
  ·cases h;rename_i hle;refine⟨.string ⟨(a++b).toArray⟩,?_,.mkStr _⟩;have h1:¬(((ByteArray.mk a.toArray).size+(ByteArray.mk b.toArray).size:Nat):Int) > 9223372036854775807:=by
    grind [ByteArray.size,lim]
   have h2:(ByteArray.mk a.toArray)++(ByteArray.mk b.toArray)=ByteArray.mk (a++b).toArray:=by
    apply ByteArray.ext;simp
   grind [binOp,Op.stringOp,IntKind.max_i64,Sem.run_pure]
  grind
 all_goals first|(cases h;done)|(cases h;exact⟨_,by grind [binOp,Op.stringOp,ByteArray.toList_mk,Sem.run_pure],.mkBool _⟩)

theorem bJ(t:TypeId)(a b:Bool)(ht:P.underlying t=some .bool)(d:Nat):(Op.equalIn (d+1) t (.bool a) (.bool b)).run P w=.ok (a == b) w:=by simp[Op.equalIn,run_underlying ht]
theorem bK(t:TypeId)(a b:Bool)(ht:P.underlying t=some .bool):(Op.equal t (.bool a) (.bool b)).run P w=.ok (a == b) w:=bJ t a b ht 9999

theorem bL(o:BinOp)(t:TypeId)(x y:Operand)(a b:Bool){p:PV}(ht:P.underlying t=some .bool)(h:QY o a b=some p):
  ∃v,((do eqGuard o t x y (.bool a) (.bool b);binOp o t (.bool a) (.bool b)):Sem Value).run P w=.ok v w/\AR w X μ hp (.pv none p) v:=by
 simp only[eqGuard_at_bool,pure_bind];cases o <;> simp only[QY] at h
 all_goals first|(cases h;done)|(cases h;exact⟨_,by grind [binOp,Sem.run_bind,bK,Result.andThen_ok,Sem.run_pure],.mkBool _⟩)

theorem bM(o:BinOp)(t:TypeId)(x y:Operand){vx vy:Value}{sx sy:Sh}{px py p:PV}(h1:AR w X μ hp (.pv sx px) vx)(h2:AR w X μ hp (.pv sy py) vy)(h:qv o px py=some p):
  ∃v,((do eqGuard o t x y vx vy;binOp o t vx vy):Sem Value).run P w=.ok v w/\AR w X μ hp (.pv none p) v:=by
 unfold qv at h;split at h
 ·split at h
  ·rename_i k a k' b e;subst e;cases h1.int_inv;cases h2.int_inv;exact bH o t x y k a b h
  grind
 ·cases h1.str_inv;cases h2.str_inv;exact bI o t x y _ _ h
 grind

theorem LR.one{a:AV}{vs:List Value}(h:LR w X μ hp [a] vs):∃v,vs=[v]/\AR w X μ hp a v:=by
 cases h with|cons h r=>cases r;grind
theorem LR.two{a b:AV}{vs:List Value}(h:LR w X μ hp [a,b] vs):∃v u,vs=[v,u]/\AR w X μ hp a v/\AR w X μ hp b u:=by
 cases h with|cons h r=>obtain⟨u,rfl,h2⟩:=r.one;grind
theorem LR.three{a b c:AV}{vs:List Value}(h:LR w X μ hp [a,b,c] vs):∃v u x,vs=[v,u,x]/\AR w X μ hp a v/\AR w X μ hp b u/\AR w X μ hp c x:=by
 cases h with|cons h r=>obtain⟨u,x,rfl,h2,h3⟩:=r.two;grind

theorem JW{vals:List Value}{k:Nat}(hk:∀v∈vals,v.cells.size=k)(i:Nat)(v:Value)(hv:vals[i]? =some v):(cellsOf vals).drop (i*k)=v.cells.toList++cellsOf (vals.drop (i+1)):=by
 induction vals generalizing i with
 |nil=>grind
 |cons u r ih=>
  cases i with
  |zero=>
   grind [Yc]
  |succ i=>
   grind [Yc,ZB,List.drop_left]

theorem bN{I:Nat->Prop}(d:Nat)(ihd:∀p off sh q v,PV.part d p off sh=some q->PR w I p v->∃u,vshp u=sh/\PR w I q u/\u.cells.toList=(v.cells.toList.drop off).take sh.size):
  ∀(l:List (Sh × PV)) (vs:List Value) (off:Nat) (sh:Sh) (q:PV),PV.part.go d off sh l=some q->CP w I l vs->∃u,vshp u=sh/\PR w I q u/\u.cells.toList=((cellsOf vs).drop off).take sh.size:=by
 intro l
 induction l with
 |nil=>grind [PV.part.go]
 |cons x r ih=>
  intro vs off sh q h hc;obtain⟨s,p⟩:=x;obtain⟨v,us,rfl,h1,h2,h3⟩:=hc.inv;have hlen:v.cells.toList.length=s.size:=by rw[Zm,Yu,h1]
  simp only[PV.part.go] at h;split at h
  ·grind [Yc]
  ·split at h
   ·rename_i hlt;obtain⟨u,k1,k2,k3⟩:=ihd _ _ _ _ _ h h2;have:(v.cells.toList.drop off).take sh.size=((cellsOf (v::us)).drop off).take sh.size\/True:=.inr trivial
    grind [Yu,Yc,Zx]
   ·rename_i hge;obtain⟨u,k1,k2,k3⟩:=ih us _ _ _ h h3;refine⟨u,k1,k2,?_⟩;rw[k3,Yc,show off=v.cells.toList.length+(off - s.size) by omega,<-ZB,List.drop_left]
    grind
theorem JX{I:Nat->Prop}:∀(d:Nat) (p:PV) (off:Nat) (sh:Sh) (q:PV) (v:Value),PV.part d p off sh=some q->PR w I p v->∃u,vshp u=sh/\PR w I q u/\u.cells.toList=(v.cells.toList.drop off).take sh.size:=by
 intro d
 induction d with
 |zero=>grind [PV.part]
 |succ d ih=>
  intro p off sh q v h hp;cases hp with
  |agg l vs hl h1 h2=>
   simp only[PV.part] at h;have:=bN d ih l vs off sh q h ⟨hl,h1,h2⟩
   grind [Value.cells]
  |_=>simp[PV.part] at h
theorem bO(d:Nat)(ihd:∀p off sh q v,AV.part d p off sh=some q->AR w X μ hp p v->∃u,vshp u=sh/\Flat u/\AR w X μ hp q u/\u.cells.toList=(v.cells.toList.drop off).take sh.size):
  ∀(l:List (Sh × AV)) (vs:List Value) (off:Nat) (sh:Sh) (q:AV),AV.part.go d off sh l=some q->CR w X μ hp l vs->∃u,vshp u=sh/\Flat u/\AR w X μ hp q u/\u.cells.toList=((cellsOf vs).drop off).take sh.size:=by
 intro l
 induction l with
 |nil=>grind [AV.part.go]
 |cons x r ih=>
  intro vs off sh q h hc;obtain⟨s,p⟩:=x;obtain⟨v,us,rfl,h1,hf,h2,h3⟩:=hc.inv;have hlen:v.cells.toList.length=s.size:=by rw[Zm,Yu,h1]
  simp only[AV.part.go] at h;split at h
  ·grind [Yc]
  ·split at h
   ·grind [Yu,Yc,Zx]
   ·rename_i hge;obtain⟨u,k1,kf,k2,k3⟩:=ih us _ _ _ h h3;refine⟨u,k1,kf,k2,?_⟩;rw[k3,Yc,show off=v.cells.toList.length+(off - s.size) by omega,<-ZB,List.drop_left]
    grind
theorem Uk:∀(d:Nat) (p:AV) (off:Nat) (sh:Sh) (q:AV) (v:Value),AV.part d p off sh=some q->AR w X μ hp p v->∃u,vshp u=sh/\Flat u/\AR w X μ hp q u/\u.cells.toList=(v.cells.toList.drop off).take sh.size:=by
 intro d
 induction d with
 |zero=>grind [AV.part]
 |succ d ih=>
  intro p off sh q v h hp;cases hp with
  |agg l vs hl h1 h2=>
   simp only[AV.part] at h;have:=bO d ih l vs off sh q h ⟨hl,h1,h2⟩
   grind [Value.cells]
  |pv s p v hs hq=>
   simp only[AV.part] at h;split at h
   ·rename_i q' hq';cases h;obtain⟨u,k1,k2,k3⟩:=JX _ _ _ _ _ _ hq' hq;exact⟨u,k1,k2.flat,.pv _ _ _ k1 k2,k3⟩
   grind
  |_=>simp[AV.part] at h
end Go.Am

/- The operations that look at no heap, run in the model: all together. -/
namespace Go.Am
variable{P:Program} {w:World} {X:Xc P} {μ:Nat->Option Nat} {hp:Heap}

theorem JY{fr:Fr}{a:AArg}{vs:List AV}(h:fr.argsOf [a]=some vs):∃v,vs=[v]/\fr.arg a=some v:=by
 grind [Fr.argsOf]
theorem yd{fr:Fr}{a:AArg}{r:List AArg}{vs:List AV}(h:fr.argsOf (a::r)=some vs):∃v us,vs=v::us/\fr.arg a=some v/\fr.argsOf r=some us:=by
 grind [Fr.argsOf]
theorem bP{fr:Fr}{vs:List AV}(h:fr.argsOf []=some vs):vs=[]:=by
 grind [Fr.argsOf]

def Yh(P:Program)(w:World)(X:Xc P)(μ:Nat->Option Nat)(hp:Heap)(s:Sem Next)(v:AV):Prop:=∃v',s.run P w=.ok (.value v') w/\AR w X μ hp v v'

theorem ye{s:Sem Value}{v:AV}{v':Value}(h:s.run P w=.ok v' w)(ha:AR w X μ hp v v'):Yh P w X μ hp (do pure (.value (<-s))) v:=
 ⟨v',by simp[h],ha⟩

theorem bQ{c a b:Value}{vs:List AV}{v:AV}(hl:LR w X μ hp vs [c,a,b])(h:Qk vs=some v):Yh P w X μ hp (do pure (.value (if <-asBool c then a else b))) v:=by
 unfold Qk at h;split at h
 ·rename_i s0 c0 x y;cases h;cases hl with|cons h1 r=>
  cases r with|cons h2 r=>
  cases r with|cons h3 r=>
  cases r;rw[h1.bool_inv];cases c0
  ·exact⟨b,by simp[asBool],h3⟩
  ·exact⟨a,by simp[asBool],h2⟩
 grind

theorem bR{x:Value}{vs:List AV}{v:AV}(hl:LR w X μ hp vs [x])(h:sNot vs=some v):Yh P w X μ hp (do pure (.value (<-Op.unary .not x))) v:=by
 unfold sNot at h;split at h
 ·cases h;obtain⟨_,e,h1⟩:=hl.one;cases e;cases h1.bool_inv;exact⟨_,by simp[Op.unary],.mkBool _⟩
 grind
theorem bS{x:Value}{vs:List AV}{v:AV}(hl:LR w X μ hp vs [x])(h:sNeg vs=some v):Yh P w X μ hp (do pure (.value (<-Op.unary .neg x))) v:=by
 unfold sNeg at h;split at h
 ·cases h;obtain⟨_,e,h1⟩:=hl.one;cases e;cases h1.int_inv;exact⟨_,by simp[Op.unary,Op.intArith],.mkInt _ _⟩
 grind

theorem bU{t:TypeId}{fs:Array Field}{i:Nat}{f:Field}{x:Value}{vs:List AV}{v:AV}(ht:P.underlying t=some (.struct fs))(hf:fs[i]? =some f)(hok:okT P f.type=true)(hl:LR w X μ hp vs [x])
  (h:yO f.offset vs=some v):Yh P w X μ hp (do pure (.value (<-Instr.fieldAt t x i))) v:=by
 have hs:=yW hok w;have hp0:=Ui hok;have run:∀a:Addr,(Instr.fieldAt t (.pointer (some a)) i).run P w=.ok (.pointer (some (a.add f.offset))) w:=by
  intro a;have hne:¬(shOf P f.type).size=0:=by omega
  simp_all[Instr.fieldAt,run_underlying,Instr.sureAddr,fieldPlace]
 unfold yO at h;split at h
 ·rename_i r o;cases h;obtain⟨_,e,h1⟩:=hl.one;cases e;cases h1 with
  |ptr _ _ b sh v ho hb=>exact⟨.pointer (some ((⟨b,o,none⟩:Addr).add f.offset)),by simp_all,by rw[Addr.add_lit];exact .ptr _ _ b sh v ho hb⟩
 ·rename_i s p o1;cases h;obtain⟨_,e,h1⟩:=hl.one;cases e;cases h1 with
  |iptr sh p off b o cs t fr v hI hb hp' hs hc=>exact⟨.pointer (some ((⟨b,o+o1,none⟩:Addr).add f.offset)),by simp_all,by rw[Addr.add_lit,Nat.add_assoc];exact .iptr _ _ _ b o cs t fr v hI hb hp' hs hc⟩
 ·cases h;obtain⟨_,e,h1⟩:=hl.one;cases e;cases h1 with
  |eptr sh r ver i off a es fz ho hv hc=>
   refine⟨.pointer (some (a.add f.offset)),by simp_all,.eptr _ _ _ _ _ _ es fz ho hv fun e=> ?_⟩
   grind [Addr.add_lit]
 ·cases h;obtain⟨_,e,h1⟩:=hl.one;cases e;cases h1 with
  |epv sh r ver i off a n ho hv hc=>
   refine⟨.pointer (some (a.add f.offset)),by simp_all,.epv _ _ _ _ _ _ n ho hv fun e=> ?_⟩
   grind [Addr.add_lit]
 grind

theorem KE{t e:TypeId}(ht:P.underlying t=some (.slice e))(hok:okT P e=true)(a:Addr)(len cap:Nat)(k:IntKind)(i:Int)(h0:0<=i)(h1:i<len)(w:World):
  (Instr.indexAt t (.slice (some a) len cap) (.int k i)).run P w=.ok (.pointer (some (a.add (i.toNat*(shOf P e).size)))) w:=by
 simp[Instr.indexAt,asIntOf,run_underlying ht,yW hok,h0,h1]

theorem KF{w:World}{I:Nat->Prop}{es:List PV}{vals:List Value}{sh:Sh}{cs:List Value}{o:Nat}(hl:es.length=vals.length)(h:∀(i:Nat) (p:PV) (v:Value),es[i]? =some p->vals[i]? =some v->vshp v=sh)
  (h':∀(i:Nat) (p:PV) (v:Value),es[i]? =some p->vals[i]? =some v->PR w I p v)(hc:cellsOf vals=(cs.drop o).take (es.length*sh.size))(i:Nat)(p:PV)(hi:es[i]? =some p):
  ∃v,vals[i]? =some v/\vshp v=sh/\PR w I p v/\v.cells.toList=(cs.drop (o+i*sh.size)).take sh.size:=by
 have hlt:i<es.length:=(Zf.1 hi).1;have hv:vals[i]? =some vals[i]:=Ze (by omega);refine⟨vals[i],hv,h i p _ hi hv,h' i p _ hi hv,?_⟩;have hk:∀v∈vals,v.cells.size=sh.size:=by
  grind [ZO,Yu]
 have hg:=JW hk i _ hv;have hsz:vals[i].cells.toList.length=sh.size:=by grind
 rw[hc,Zs,ZB] at hg;have hg2:=congrArg (List.take sh.size) hg
 grind

theorem bV{t e:TypeId}{x ix:Value}{vs:List AV}{v:AV}(ht:P.underlying t=some (.slice e))(hok:okT P e=true)(hl:LR w X μ hp vs [x,ix])
  (h:zX (shOf P e) vs=some v):Yh P w X μ hp (do pure (.value (<-Instr.indexAt t x ix))) v:=by
 have ps:∀(s:Sh) (es:List PV) (k:IntKind) (i:Int),PR w (Im X μ hp) (.sl s es) x->ix=.int k i->(if 0<=i/\s=shOf P e then match es[i.toNat]? with
   |some p=>some (AV.iptr (shOf P e) p 0)
   |none=>none
  else none)=some v->Yh P w X μ hp (do pure (.value (<-Instr.indexAt t x ix))) v:=by
  intro s es k i hp hix h;subst hix;split at h
  ·rename_i hh;obtain⟨h0,rfl⟩:=hh;split at h
   ·rename_i p hi;cases h;have hlt:=(Zf.1 hi).1;cases hp with
    |nilsl=>grind
    |sl sh es b o n cs t' fr vals hl' hI hb hs hs' hc hn=>
     obtain⟨u,k1,k2,k3,k4⟩:=KF hl' hs hs' hc _ _ hi;refine⟨.pointer (some ((⟨b,o,none⟩:Addr).add (i.toNat*(shOf P e).size))),by grind [Sem.run_bind,KE,Result.andThen_ok,Sem.run_pure],?_⟩;rw[Addr.add_lit];exact .iptr _ p 0 b _ cs t' fr u hI hb k3 k2 k4
   grind
  grind
 unfold zX at h;split at h
 ·rename_i s sh k i;obtain⟨x',ix',e0,h1,h2⟩:=hl.two;cases e0;have hix:=h2.int_inv;unfold aindex at h;split at h
  ·rename_i _ s' es;cases h1 with
   |pv _ _ _ _ hq=>grind
  ·rename_i s' es;cases h1 with
   |tsl _ _ a hq=>grind
  ·rename_i s r ver off len;subst hix;split at h
   ·rename_i hh;cases h;obtain⟨h0,h1',rfl⟩:=hh;cases h1 with
    |sl sh r ver off len a cap es fz ho hv hlc ha hc=>
     have hcap:cap≠0:=by omega
     obtain⟨a,rfl⟩:=Option.isSome_iff_exists.1 (ha hcap);refine⟨.pointer (some (a.add (i.toNat*(shOf P e).size))),by grind [Sem.run_bind,KE,Result.andThen_ok,Sem.run_pure],.eptr _ r ver _ 0 _ es fz ho hv fun e=> ?_⟩
     grind [Addr.add_lit]
   grind
  ·rename_i s r ver off len;subst hix;split at h
   ·rename_i hh;cases h;obtain⟨h0,h1',rfl⟩:=hh;cases h1 with
    |slv sh r ver off len a cap n ho hv hlc ha hc=>
     have hcap:cap≠0:=by omega
     obtain⟨a,rfl⟩:=Option.isSome_iff_exists.1 (ha hcap);refine⟨.pointer (some (a.add (i.toNat*(shOf P e).size))),by grind [Sem.run_bind,KE,Result.andThen_ok,Sem.run_pure],.epv _ r ver _ 0 _ n ho hv fun e=> ?_⟩
     grind [Addr.add_lit]
   grind
  grind
 grind
end Go.Am

/- Arrays and maps of the run's own: how the relation goes on; values made free of references. -/
namespace Go.Am
variable{P:Program} {w:World} {X:Xc P} {μ:Nat->Option Nat} {hp:Heap}

theorem Ext.setArr{b0 r:Nat}{sh:Sh}{es es':List PV}{fz fz':Bool}{nb:Option Nat}{w':World}(hr:hp[r]? =some (.arr sh es fz))(hlen:es.length<=es'.length)(hfz:fz=true->fz'=true/\es'=es)(heq:es'.length=es.length->nb=μ r)
  (hnb:∀b,nb=some b->μ r=some b\/w.heap.size<=b)(hos:w'.os=w.os)(ht:w'.tape=w.tape)(ho:w'.output=w.output)(hsz:w.heap.size<=w'.heap.size)
  (hblk:∀k,k<w.heap.size->(fz=false->μ r≠some k)->w'.heap[k]? =w.heap[k]?)(hsh:∀(k:Nat) (cs:Array Value) (t:TypeId) (fr:Nat × Nat),w.heap[k]? =some (Obj.cells cs t fr)->∃cs':Array Value,w'.heap[k]? =some (Obj.cells cs' t fr)/\cs'.size=cs.size):
  Ext b0 X μ hp w (upd μ r nb) (hp.set r (.arr sh es' fz')) w' where
 os:=hos
 tape:=ht
 output:=ho
 size:=hsz
 blk k hk hm:=hblk k hk fun e=>hm r (by grind [Am.live])
 shape:=hsh
 len:=by simp
 box i s u hi:=by
  grind [zY]
 arr i s es1 fz1 hi:=by
  grind [zW,zY]
 map i s es hi:=by
  grind [zY]
 loop i f ps env bz hi:=by
  grind [zY]
 arv i s es1 hi:=by
  have e:i≠r:=by grind
  have e2:(hp.set r (.arr sh es' fz'))[i]? =some (.arv s es1):=by grind
  exact⟨es1.length,by rw[e2];rfl,Zc _,fun _=>zY e,fun es' h' _=>by grind⟩
 new i h1 h2:=by grind
 mov i hi b hb:=by
  grind [zW,zY]

theorem HR.setArr{r:Nat}{sh:Sh}{es es':List PV}{fz fz':Bool}{nb:Option Nat}{w':World}(h:HR w X μ hp)(hr:hp[r]? =some (.arr sh es fz))(E:Ext 0 X μ hp w (upd μ r nb) (hp.set r (.arr sh es' fz')) w')
  (hoth:∀k,k<w.heap.size->μ r≠some k->w'.heap[k]? =w.heap[k]?)
  (hnb:∀b,nb=some b->(μ r=some b\/w.heap.size<=b)/\b<w'.heap.size)
  (hc:(nb=none/\es'=[])\/∃b cs t vals,nb=some b/\w'.heap[b]? =some (.cells cs t (0,0))/\es'.length=vals.length/\
   (∀(k:Nat) (p:PV) (v:Value),es'[k]? =some p->vals[k]? =some v->vshp v=sh/\PR w' (Im X (upd μ r nb) (hp.set r (.arr sh es' fz'))) p v)/\cellsOf vals=cs.toList.take (es'.length*sh.size)):
  HR w' X (upd μ r nb) (hp.set r (.arr sh es' fz')):=by
 have hlen:(hp.set r (.arr sh es' fz')).length=hp.length:=by simp
 have hrl:=(Zf.1 hr).1;have other:∀i k,i<hp.length->i≠r->μ i=some k->w'.heap[k]? =w.heap[k]? :=fun i k hi hne hk=>hoth k (h.out i k hi hk).2 fun e=>hne (h.inj i r k hi hrl hk e);refine⟨?_,?_,?_,?_,?_,?_,?_,?_,h.tab.mono E.pr⟩
 ·intro i j k hi hj h1 h2;rw[hlen] at hi hj;by_cases ei:i=r <;> by_cases ej:j=r
  ·grind
  ·subst ei;rw[zW] at h1;rw[zY ej] at h2;rcases(hnb k h1).1 with e|e
   ·exact h.inj i j k hi hj e h2
   grind
  ·subst ej;rw[zY ei] at h1;rw[zW] at h2;rcases(hnb k h2).1 with e|e
   ·exact h.inj i j k hi hj h1 e
   grind
  ·rw[zY ei] at h1;rw[zY ej] at h2;exact h.inj i j k hi hj h1 h2
 ·intro i k hi hk;rw[hlen] at hi;by_cases ei:i=r
  ·subst ei;rw[zW] at hk;refine⟨fun hx=> ?_,(hnb k hk).2⟩;rcases(hnb k hk).1 with e|e
   ·exact(h.out i k hi e).1 hx
   ·have:=h.xlt k hx;omega
  ·rw[zY ei] at hk;exact⟨(h.out i k hi hk).1,Zp (h.out i k hi hk).2 E.size⟩
 ·exact fun k hx=>Zp (h.xlt k hx) E.size
 ·intro i s u hi;rcases Y5 hi with⟨rfl,e⟩|⟨hne,hi⟩
  ·cases e
  ·obtain⟨k,val,t,k1,k2,k3,k4,k5⟩:=h.box i s u hi;exact⟨k,val,t,by grind [zY],by grind,k3,k4,E.ar k5⟩
 ·intro i s es1 fz1 hi;rcases Y5 hi with⟨rfl,e⟩|⟨hne,hi⟩
  ·cases e;exact⟨(h.arr i sh es fz hr).1,by grind [zW]⟩
  ·obtain⟨k0,k1⟩:=h.arr i s es1 fz1 hi;refine⟨k0,?_⟩;rcases k1 with k1|⟨k,cs,t,vals,k1,k2,k3,k4,k5⟩
   ·grind [zY]
   ·exact .inr ⟨k,cs,t,vals,by grind [zY],by grind,k3,fun j p v hj hv=>⟨(k4 j p v hj hv).1,E.pr (k4 j p v hj hv).2⟩,k5⟩
 ·intro i s es1 hi;rcases Y5 hi with⟨rfl,e⟩|⟨hne,hi⟩
  ·cases e
  ·obtain⟨k,ents,clock,k1,k2,k3⟩:=h.map i s es1 hi;exact⟨k,ents,clock,by grind [zY],by grind,k3.mono E.pr⟩
 ·intro i f ps env bz hi;rcases Y5 hi with⟨rfl,e⟩|⟨hne,hi⟩
  ·cases e
  ·obtain⟨l,rc,k1,k2,k3,k4,k5,k6,k7⟩:=h.loop i f ps env bz hi;exact⟨l,rc,by grind [zY],by grind,k3,k4,k5,k6,fun x hx=>⟨(k7 x hx).1,E.ar (k7 x hx).2⟩⟩
 ·intro i s es1 hi;rcases Y5 hi with⟨rfl,e⟩|⟨hne,hi⟩
  ·cases e
  ·obtain⟨h0,k,cs,t,vals,k1,k2,k3,k4,k5⟩:=h.arv i s es1 hi;exact⟨h0,k,cs,t,vals,by grind [zY],by grind,k3,fun j p v hj hv=>⟨(k4 j p v hj hv).1,E.ar (k4 j p v hj hv).2⟩,k5⟩

theorem Ext.setArv{b0 r:Nat}{sh:Sh}{es:List AV}{o:AObj}{n:Nat}{nb:Option Nat}{w':World}(hr:hp[r]? =some (.arv sh es))(ho':YP (some o)=some (sh,n))(hlen:es.length<=n)(heq:n=es.length->nb=μ r)
  (hq:∀es',o=.arv sh es'->r<b0->∀q∈AV.refsIn.gol es',q∈AV.refsIn.gol es)
  (hnb:∀b,nb=some b->μ r=some b\/w.heap.size<=b)(hos:w'.os=w.os)(ht:w'.tape=w.tape)(ho:w'.output=w.output)(hsz:w.heap.size<=w'.heap.size)
  (hblk:∀k,k<w.heap.size->μ r≠some k->w'.heap[k]? =w.heap[k]?)(hsh:∀(k:Nat) (cs:Array Value) (t:TypeId) (fr:Nat × Nat),w.heap[k]? =some (Obj.cells cs t fr)->∃cs':Array Value,w'.heap[k]? =some (Obj.cells cs' t fr)/\cs'.size=cs.size):
  Ext b0 X μ hp w (upd μ r nb) (hp.set r o) w' where
 os:=hos
 tape:=ht
 output:=ho
 size:=hsz
 blk k hk hm:=hblk k hk (hm r (by grind [Am.live]))
 shape:=hsh
 len:=by simp
 box i s u hi:=by
  grind [zY]
 arr i s es1 fz1 hi:=by
  grind [zY]
 map i s es hi:=by
  grind [zY]
 loop i f ps env bz hi:=by
  grind [zY]
 arv i s es1 hi:=by
  by_cases e:i=r
  ·grind [zW]
  ·have e2:(hp.set r o)[i]? =some (.arv s es1):=by grind
   exact⟨es1.length,by rw[e2];rfl,Zc _,fun _=>zY e,fun es' h' _=>by grind⟩
 new i h1 h2:=by grind
 mov i hi b hb:=by
  grind [zW,zY]

theorem HR.setArv{r:Nat}{sh:Sh}{es:List AV}{o:AObj}{nb:Option Nat}{w':World}(h:HR w X μ hp)(hr:hp[r]? =some (.arv sh es))(E:Ext 0 X μ hp w (upd μ r nb) (hp.set r o) w')
  (hoth:∀k,k<w.heap.size->μ r≠some k->w'.heap[k]? =w.heap[k]?)
  (hnb:∀b,nb=some b->(μ r=some b\/w.heap.size<=b)/\b<w'.heap.size)
  (hc:(∃es' b cs t vals,o=.arv sh es'/\nb=some b/\w'.heap[b]? =some (.cells cs t (0,0))/\es'.length=vals.length/\
   (∀(k:Nat) (a:AV) (v:Value),es'[k]? =some a->vals[k]? =some v->(vshp v=sh/\Flat v)/\AR w' X (upd μ r nb) (hp.set r o) a v)/\cellsOf vals=cs.toList.take (es'.length*sh.size))\/
   ∃es' fz b cs t vals,o=.arr sh es' fz/\nb=some b/\w'.heap[b]? =some (.cells cs t (0,0))/\es'.length=vals.length/\
   (∀(k:Nat) (p:PV) (v:Value),es'[k]? =some p->vals[k]? =some v->vshp v=sh/\PR w' (Im X (upd μ r nb) (hp.set r o)) p v)/\cellsOf vals=cs.toList.take (es'.length*sh.size)):
  HR w' X (upd μ r nb) (hp.set r o):=by
 have hlen:(hp.set r o).length=hp.length:=by simp
 have hrl:=(Zf.1 hr).1;have hpos:=(h.arv r sh es hr).1;have other:∀i k,i<hp.length->i≠r->μ i=some k->w'.heap[k]? =w.heap[k]? :=fun i k hi hne hk=>hoth k (h.out i k hi hk).2 fun e=>hne (h.inj i r k hi hrl hk e);refine⟨?_,?_,?_,?_,?_,?_,?_,?_,h.tab.mono E.pr⟩
 ·intro i j k hi hj h1 h2;rw[hlen] at hi hj;by_cases ei:i=r <;> by_cases ej:j=r
  ·grind
  ·subst ei;rw[zW] at h1;rw[zY ej] at h2;rcases(hnb k h1).1 with e|e
   ·exact h.inj i j k hi hj e h2
   grind
  ·subst ej;rw[zY ei] at h1;rw[zW] at h2;rcases(hnb k h2).1 with e|e
   ·exact h.inj i j k hi hj h1 e
   grind
  ·rw[zY ei] at h1;rw[zY ej] at h2;exact h.inj i j k hi hj h1 h2
 ·intro i k hi hk;rw[hlen] at hi;by_cases ei:i=r
  ·subst ei;rw[zW] at hk;refine⟨fun hx=> ?_,(hnb k hk).2⟩;rcases(hnb k hk).1 with e|e
   ·exact(h.out i k hi e).1 hx
   ·have:=h.xlt k hx;omega
  ·rw[zY ei] at hk;exact⟨(h.out i k hi hk).1,Zp (h.out i k hi hk).2 E.size⟩
 ·exact fun k hx=>Zp (h.xlt k hx) E.size
 ·intro i s u hi;rcases Y5 hi with⟨rfl,e⟩|⟨hne,hi⟩
  ·grind
  ·obtain⟨k,val,t,k1,k2,k3,k4,k5⟩:=h.box i s u hi;exact⟨k,val,t,by grind [zY],by grind,k3,k4,E.ar k5⟩
 ·intro i s es1 fz1 hi;rcases Y5 hi with⟨rfl,e⟩|⟨hne,hi⟩
  ·grind [zW]
  ·obtain⟨k0,k1⟩:=h.arr i s es1 fz1 hi;refine⟨k0,?_⟩;rcases k1 with k1|⟨k,cs,t,vals,k1,k2,k3,k4,k5⟩
   ·grind [zY]
   ·exact .inr ⟨k,cs,t,vals,by grind [zY],by grind,k3,fun j p v hj hv=>⟨(k4 j p v hj hv).1,E.pr (k4 j p v hj hv).2⟩,k5⟩
 ·intro i s es1 hi;rcases Y5 hi with⟨rfl,e⟩|⟨hne,hi⟩
  ·grind
  ·obtain⟨k,ents,clock,k1,k2,k3⟩:=h.map i s es1 hi;exact⟨k,ents,clock,by grind [zY],by grind,k3.mono E.pr⟩
 ·intro i f ps env bz hi;rcases Y5 hi with⟨rfl,e⟩|⟨hne,hi⟩
  ·grind
  ·obtain⟨l,rc,k1,k2,k3,k4,k5,k6,k7⟩:=h.loop i f ps env bz hi;exact⟨l,rc,by grind [zY],by grind,k3,k4,k5,k6,fun x hx=>⟨(k7 x hx).1,E.ar (k7 x hx).2⟩⟩
 ·intro i s es1 hi;rcases Y5 hi with⟨rfl,e⟩|⟨hne,hi⟩
  ·grind [zW]
  ·obtain⟨h0,k,cs,t,vals,k1,k2,k3,k4,k5⟩:=h.arv i s es1 hi;exact⟨h0,k,cs,t,vals,by grind [zY],by grind,k3,fun j p v hj hv=>⟨(k4 j p v hj hv).1,E.ar (k4 j p v hj hv).2⟩,k5⟩

theorem xP(μ:Nat->Option Nat)(r:Nat):upd μ r (μ r)=μ:=by
 grind [upd]

theorem Ul(b0:Nat){r:Nat}{sh:Sh}{es:List PV}{fz:Bool}(h:HR w X μ hp)(hr:hp[r]? =some (.arr sh es fz)):Ext b0 X μ hp w μ (hp.set r (.arr sh es true)) w/\HR w X μ (hp.set r (.arr sh es true)):=by
 have hE:∀b0,Ext b0 X μ hp w (upd μ r (μ r)) (hp.set r (.arr sh es true)) w:=fun b0=>
  Ext.setArr hr (Zc _) (fun _=>⟨rfl,rfl⟩) (fun _=>rfl) (fun b hb=>.inl hb) rfl rfl rfl (Zc _) (fun _ _ _=>rfl) (fun k cs t fr hk=>⟨cs,hk,rfl⟩)
 have hrl:=(Zf.1 hr).1;have hH:HR w X (upd μ r (μ r)) (hp.set r (.arr sh es true)):=by
  refine h.setArr hr (hE 0) (fun _ _ _=>rfl) (fun b hb=>⟨.inl hb,(h.out r b hrl hb).2⟩) ?_;rcases(h.arr r sh es fz hr).2 with h1|⟨b,cs,t,vals,h1,h2,h3,h4,h5⟩
  ·grind
  ·exact .inr ⟨b,cs,t,vals,h1,h2,h3,fun k p v hk hv=>⟨(h4 k p v hk hv).1,(hE 0).pr (h4 k p v hk hv).2⟩,h5⟩
 grind [xP]

theorem QB{es:List PV}{vals:List Value}{sh:Sh}(hl:es.length=vals.length)(h:∀(i:Nat) (p:PV) (v:Value),es[i]? =some p->vals[i]? =some v->vshp v=sh)(a b:Nat)(hab:a+b<=es.length):
  cellsOf ((vals.drop a).take b)=((cellsOf vals).drop (a*sh.size)).take (b*sh.size):=by
 have key:∀(l:List Value),(∀v∈l,v.cells.size=sh.size)->∀n,n<=l.length->cellsOf (l.take n)=(cellsOf l).take (n*sh.size)/\cellsOf (l.drop n)=(cellsOf l).drop (n*sh.size):=by
  intro l
  induction l with
  |nil=>grind [cellsOf]
  |cons v r ih=>
   intro hk n hn;cases n with
   |zero=>simp[cellsOf]
   |succ n=>
    grind [Zv,Yc,ZB]
 have hk:∀v∈vals,v.cells.size=sh.size:=by
  intro v hvm;obtain⟨j,hj⟩:=ZO.1 hvm;have hjl:=(Zf.1 hj).1;rw[Yu,h j es[j] v (Ze (by omega)) hj]
 have h1:=(key vals hk a (by omega)).2;have h2:=(key (vals.drop a) (fun v hv=>hk v (List.mem_of_mem_drop hv)) b (by grind)).1
 grind

theorem JZ{w:World}{I:Nat->Prop}{sh:Sh}{es:List PV}{b:Nat}{cs:Array Value}{t:TypeId}{vals:List Value}(hI:I b)(hb:w.heap[b]? =some (.cells cs t (0,0)))(hl:es.length=vals.length)
  (h:∀(k:Nat) (p:PV) (v:Value),es[k]? =some p->vals[k]? =some v->vshp v=sh/\PR w I p v)(hc:cellsOf vals=cs.toList.take (es.length*sh.size))(off len cap:Nat)(a:Option Addr)(hle:off+len<=es.length)(hlc:len<=cap)(ha:cap≠0->a=some ⟨b,off*sh.size,none⟩):
  PR w I (.sl sh ((es.drop off).take len)) (.slice a len cap):=by
 have hlen:((es.drop off).take len).length=len:=by grind
 by_cases h0:len=0
 ·subst h0;simp only[zu];exact .nilsl _ _ _
 ·have:=ha (by omega);subst this;have hp:∀(i:Nat) (p:PV) (v:Value),((es.drop off).take len)[i]? =some p->((vals.drop off).take len)[i]? =some v->vshp v=sh/\PR w I p v:=by
   grind
  have key:=PR.sl (w:=w) (I:=I) sh ((es.drop off).take len) b (off*sh.size) cap cs t (0,0) ((vals.drop off).take len) (by grind) hI hb (fun i p v hi hv=>(hp i p v hi hv).1) (fun i p v hi hv=>(hp i p v hi hv).2) ?_ (by omega)
  ·grind
  ·rw[QB hl (fun i p v hi hv=>(h i p v hi hv).1) off len hle,hc,hlen,Zs,Zt]
   congr 1
   have:off*sh.size+len*sh.size<=es.length*sh.size:=by rw[<-Zv];exact ZP _ hle
   omega

theorem bW(b0:Nat)(w:World)(X:Xc P)(μ:Nat->Option Nat):∀(d:Nat) (a:AV) (hp:Heap) (p:PV) (hp':Heap) (v:Value),AV.freeze0 d a hp=some (p,hp')->HR w X μ hp->AR w X μ hp a v->
  Ext b0 X μ hp w μ hp' w/\HR w X μ hp'/\PR w (Im X μ hp') p v:=by
 intro d
 induction d with
 |zero=>grind [AV.freeze0]
 |succ d ih=>
  have go:∀(l:List (Sh × AV)) (hp:Heap) (ps:List (Sh × PV)) (hp':Heap) (vs:List Value),AV.freeze0.go d l hp=some (ps,hp')->HR w X μ hp->CR w X μ hp l vs->
    Ext b0 X μ hp w μ hp' w/\HR w X μ hp'/\CP w (Im X μ hp') ps vs:=by
   intro l
   induction l with
   |nil=>
    intro hp ps hp' vs h hH hc;simp only[AV.freeze0.go,Option.some.injEq,Prod.mk.injEq] at h;obtain⟨rfl,rfl⟩:=h;rw[hc.nil_inv]
    grind [Ext.refl,CP.nil]
   |cons x r ihl=>
    intro hp ps hp' vs h hH hc;obtain⟨s,a⟩:=x;obtain⟨v,us,rfl,h1,_,h2,h3⟩:=hc.inv;simp only[AV.freeze0.go] at h;split at h
    ·cases h
    ·rename_i p hp1 hf;split at h
     ·rename_i ps' hp2 hg;cases h;obtain⟨e1,k1,k2⟩:=ih _ _ _ _ _ hf hH h2;have h3':CR w X μ hp1 r us:=⟨h3.1,h3.2.1,fun i x v hx hv=>e1.ar (h3.2.2 i x v hx hv)⟩;obtain⟨e2,k3,k4⟩:=ihl _ _ _ _ hg k1 h3';exact⟨e1.trans e2,k3,CP.cons h1 (e2.pr k2) k4⟩
     grind
  intro a hp p hp' v h hH ha;cases ha with
  |undef=>grind [AV.freeze0]
  |pv sh q v hs hq=>
   grind [AV.freeze0,Ext.refl]
  |tsl sh es a hq=>
   grind [AV.freeze0,Ext.refl]
  |agg l vs hl hs hs'=>
   simp only[AV.freeze0] at h;split at h
   ·rename_i ps hp1 hg;cases h;obtain⟨e,k1,k2⟩:=go _ _ _ _ vs hg hH ⟨hl,hs,hs'⟩;exact⟨e,k1,k2.agg⟩
   grind
  |sl sh r ver off len a cap es fz ho hv hlc hac hc=>
   simp only[AV.freeze0,ho] at h;obtain⟨e,hH'⟩:=Ul b0 hH ho;have hrl:=(Zf.1 ho).1;have ho':(hp.set r (.arr sh es true))[r]? =some (.arr sh es true):=by grind
   have main:ver=es.length->off+len<=es.length->PR w (Im X μ (hp.set r (.arr sh es true))) (.sl sh ((es.drop off).take len)) (.slice a len cap):=by
    intro e1 e2;obtain⟨_,hc2⟩:=hc e1;rcases(hH'.arr r sh es true ho').2 with⟨h1,rfl⟩|⟨b,cs,t,vals,h1,h2,h3,h4,h5⟩
    ·have:len=0:=by grind
     subst this;simp only[List.drop_nil,List.take_nil];exact .nilsl _ _ _
    ·rcases hc2 with⟨c1,_⟩|⟨b',cs',t',c1,c2,c3,c4⟩
     ·grind
     ·rw[h1] at c1;cases c1;refine JZ ?_ h2 h3 h4 h5 off len cap a e2 hlc.1 c4;refine⟨(hH'.out r b (by grind) h1).1,fun i hl e=> ?_⟩;have hil:=yV hl;have:=hH'.inj i r b hil (by grind) e h1
      grind [live]
   grind
  |nilv sh=>
   simp only[AV.freeze0,Option.some.injEq,Prod.mk.injEq] at h;obtain⟨rfl,rfl⟩:=h;exact⟨Ext.refl _ _ _ _ _,hH,.nilsl _ _ _⟩
  |_=>simp[AV.freeze0] at h
theorem bX(b0:Nat)(w:World)(X:Xc P)(μ:Nat->Option Nat)(d:Nat):∀(l:List (Sh × AV)) (hp:Heap) (ps:List (Sh × PV)) (hp':Heap) (vs:List Value),AV.freeze0.go d l hp=some (ps,hp')->HR w X μ hp->CR w X μ hp l vs->
  Ext b0 X μ hp w μ hp' w/\HR w X μ hp'/\CP w (Im X μ hp') ps vs:=by
 intro l
 induction l with
 |nil=>
  intro hp ps hp' vs h hH hc;simp only[AV.freeze0.go,Option.some.injEq,Prod.mk.injEq] at h;obtain⟨rfl,rfl⟩:=h;rw[hc.nil_inv]
  grind [Ext.refl,CP.nil]
 |cons x r ihl=>
  intro hp ps hp' vs h hH hc;obtain⟨s,a⟩:=x;obtain⟨v,us,rfl,h1,_,h2,h3⟩:=hc.inv;simp only[AV.freeze0.go] at h;split at h
  ·cases h
  ·rename_i p hp1 hf;split at h
   ·rename_i ps' hp2 hg;cases h;obtain⟨e1,k1,k2⟩:=bW b0 w X μ d _ _ _ _ _ hf hH h2;have h3':CR w X μ hp1 r us:=⟨h3.1,h3.2.1,fun i x v hx hv=>e1.ar (h3.2.2 i x v hx hv)⟩;obtain⟨e2,k3,k4⟩:=ihl _ _ _ _ hg k1 h3';exact⟨e1.trans e2,k3,CP.cons h1 (e2.pr k2) k4⟩
   grind

theorem xQ(b0:Nat)(w:World)(X:Xc P)(μ:Nat->Option Nat):∀(d:Nat) (a:AV) (hp:Heap) (p:PV) (hp':Heap) (v:Value),AV.freeze d a hp=some (p,hp')->HR w X μ hp->AR w X μ hp a v->
  Ext b0 X μ hp w μ hp' w/\HR w X μ hp'/\PR w (Im X μ hp') p v:=by
 intro d
 induction d with
 |zero=>grind [AV.freeze]
 |succ d ih=>
  have go:∀(l:List (Sh × AV)) (hp:Heap) (ps:List (Sh × PV)) (hp':Heap) (vs:List Value),AV.freeze.go d l hp=some (ps,hp')->HR w X μ hp->CR w X μ hp l vs->
    Ext b0 X μ hp w μ hp' w/\HR w X μ hp'/\CP w (Im X μ hp') ps vs:=by
   intro l
   induction l with
   |nil=>
    intro hp ps hp' vs h hH hc;simp only[AV.freeze.go,Option.some.injEq,Prod.mk.injEq] at h;obtain⟨rfl,rfl⟩:=h;rw[hc.nil_inv]
    grind [Ext.refl,CP.nil]
   |cons x r ihl=>
    intro hp ps hp' vs h hH hc;obtain⟨s,a⟩:=x;obtain⟨v,us,rfl,h1,_,h2,h3⟩:=hc.inv;simp only[AV.freeze.go] at h;split at h
    ·cases h
    ·rename_i p hp1 hf;split at h
     ·rename_i ps' hp2 hg;cases h;obtain⟨e1,k1,k2⟩:=ih _ _ _ _ _ hf hH h2;have h3':CR w X μ hp1 r us:=⟨h3.1,h3.2.1,fun i x v hx hv=>e1.ar (h3.2.2 i x v hx hv)⟩;obtain⟨e2,k3,k4⟩:=ihl _ _ _ _ hg k1 h3';exact⟨e1.trans e2,k3,CP.cons h1 (e2.pr k2) k4⟩
     grind
  intro a hp p hp' v h hH ha;cases ha with
  |undef=>grind [AV.freeze]
  |pv sh q v hs hq=>
   grind [AV.freeze,Ext.refl]
  |tsl sh es a hq=>
   grind [AV.freeze,Ext.refl]
  |agg l vs hl hs hs'=>
   simp only[AV.freeze] at h;split at h
   ·rename_i ps hp1 hg;cases h;obtain⟨e,k1,k2⟩:=go _ _ _ _ vs hg hH ⟨hl,hs,hs'⟩;exact⟨e,k1,k2.agg⟩
   grind
  |sl sh r ver off len a cap es fz ho hv hlc hac hc=>
   simp only[AV.freeze,ho] at h;obtain⟨e,hH'⟩:=Ul b0 hH ho;have hrl:=(Zf.1 ho).1;have ho':(hp.set r (.arr sh es true))[r]? =some (.arr sh es true):=by grind
   have main:ver=es.length->off+len<=es.length->PR w (Im X μ (hp.set r (.arr sh es true))) (.sl sh ((es.drop off).take len)) (.slice a len cap):=by
    intro e1 e2;obtain⟨_,hc2⟩:=hc e1;rcases(hH'.arr r sh es true ho').2 with⟨h1,rfl⟩|⟨b,cs,t,vals,h1,h2,h3,h4,h5⟩
    ·have:len=0:=by grind
     subst this;simp only[List.drop_nil,List.take_nil];exact .nilsl _ _ _
    ·rcases hc2 with⟨c1,_⟩|⟨b',cs',t',c1,c2,c3,c4⟩
     ·grind
     ·rw[h1] at c1;cases c1;refine JZ ?_ h2 h3 h4 h5 off len cap a e2 hlc.1 c4;refine⟨(hH'.out r b (by grind) h1).1,fun i hl e=> ?_⟩;have hil:=yV hl;have:=hH'.inj i r b hil (by grind) e h1
      grind [live]
   grind
  |nilv sh=>
   simp only[AV.freeze,Option.some.injEq,Prod.mk.injEq] at h;obtain⟨rfl,rfl⟩:=h;exact⟨Ext.refl _ _ _ _ _,hH,.nilsl _ _ _⟩
  |slv sh r ver off len a cap n ho hv hlc hac hc=>
   rcases XT ho with⟨es,e,rfl⟩|⟨es,e,rfl⟩
   ·simp only[AV.freeze,e] at h;split at h
    ·rename_i hcd;obtain⟨_,hc2⟩:=hc hcd.1;obtain⟨b,cs,t,c2,c3,c4,c5⟩:=hc2;split at h
     ·rename_i ps hp1 hg;split at h
      ·rename_i s1 es1 hr1;split at h
       ·rename_i hlen1;cases h;obtain⟨hpos,b',cs',t',vals,g1,g2,g3,g4,g5⟩:=hH.arv r sh es e;rw[c2] at g1;cases g1;rw[c3] at g2;cases g2;have hcr:CR w X μ hp (es.map fun e=>(sh,e)) vals:=by
         refine⟨by grind,fun i x v hx hv=> ?_,fun i x v hx hv=> ?_⟩
         ·grind
         grind
        have go':=bX b0 w X μ d _ _ _ _ vals hg hH hcr;obtain⟨E1,H1,hcp⟩:=go';have hpl:(ps.map (·.2)).length=es.length:=by
         have:=hcp.1
         grind
        obtain⟨n1,av1,av2,av3,_⟩:=E1.arv r sh es e;rw[hr1] at av1;simp only[YP,Option.some.injEq,Prod.mk.injEq] at av1;obtain⟨rfl,rfl⟩:=av1;have hb0:∀b0,Ext b0 X μ hp1 w (upd μ r (μ r)) (hp1.set r (.arr s1 (ps.map (·.2)) true)) w:=fun b0=>
         Ext.setArv hr1 (n:=es.length) (by grind [YP]) (by omega) (fun _=>rfl) (fun _ e=>by cases e) (fun b hb=>.inl hb) rfl rfl rfl (Zc _) (fun _ _ _=>rfl) (fun k cs t fr hk=>⟨cs,hk,rfl⟩)
        have hrl:=(Zf.1 hr1).1;have key:∀(k:Nat) (p:PV) (v:Value),(ps.map (·.2))[k]? =some p->vals[k]? =some v->vshp v=s1/\PR w (Im X μ hp1) p v:=by
         intro k p v hk hv;simp only[ZU,ZA] at hk;obtain⟨x,hx,rfl⟩:=hk;have hkl:=(Zf.1 hv).1;exact⟨(g4 k es[k] v (Ze (by omega)) hv).1.1,hcp.2.2 k x v hx hv⟩
        have E2:=hb0 b0;have hH2:HR w X (upd μ r (μ r)) (hp1.set r (.arr s1 (ps.map (·.2)) true)):=by
         refine H1.setArv hr1 (hb0 0) (fun _ _ _=>rfl) (fun b hb=>⟨.inl hb,(H1.out r b hrl hb).2⟩) (.inr ⟨_,_,b,cs,t,vals,rfl,c2,c3,by omega,fun k p v hk hv=>⟨(key k p v hk hv).1,(hb0 0).pr (key k p v hk hv).2⟩,by grind⟩)
        rw[xP] at hH2 E2;refine⟨E1.trans E2,hH2,?_⟩;have hrs:(hp1.set r (.arr s1 (ps.map (·.2)) true))[r]? =some (.arr s1 (ps.map (·.2)) true):=ZC hrl;refine JZ (b:=b) ?_ c3 (by omega:(ps.map (·.2)).length=vals.length) (fun k p v hk hv=>⟨(key k p v hk hv).1,E2.pr (key k p v hk hv).2⟩) (by grind) off len cap a (by grind) hlc.1 c5;refine⟨(hH2.out r b (by grind) c2).1,fun i hl e=> ?_⟩;have hil:=yV hl;have:=hH2.inj i r b hil (by grind) e c2
        grind [live]
       grind
      grind
     grind
    grind
   ·simp only[AV.freeze,e] at h;split at h
    ·rename_i hh;cases h;obtain⟨_,b,cs,t,c1,c2,c3,c4⟩:=hc hh.1;refine⟨Ext.refl _ _ _ _ _,hH,?_⟩;rcases(hH.arr r sh es true e).2 with⟨h1,_⟩|⟨b',cs',t',vals,h1,h2,h3,h4,h5⟩
     ·grind
     ·rw[c1] at h1;cases h1;rw[c2] at h2;cases h2;refine JZ ?_ c2 h3 h4 h5 off len cap a hh.2 hlc.1 c4;have hrl:=(Zf.1 e).1;refine⟨(hH.out r b hrl c1).1,fun i hl e'=> ?_⟩;have hil:=yV hl;have:=hH.inj i r b hil hrl e' c1
      grind [live]
    grind
  |_=>simp[AV.freeze] at h
end Go.Am

/- Further operations, run in the model. -/
namespace Go.Am
variable{P:Program} {w:World} {X:Xc P} {μ:Nat->Option Nat} {hp:Heap}

theorem bY{t e:TypeId}{n:Nat}{x ix:Value}{vs:List AV}{v:AV}(ht:P.underlying t=some (.array n e))(hok:okT P e=true)(hl:LR w X μ hp vs [x,ix])
  (h:xG (shOf P e) n vs=some v):Yh P w X μ hp (do pure (.value (<-Instr.indexAt t x ix))) v:=by
 have run:∀(a:Addr) (k:IntKind) (i:Int),0<=i->i<n->(Instr.indexAt t (.pointer (some a)) (.int k i)).run P w=.ok (.pointer (some (a.add (i.toNat*(shOf P e).size)))) w:=by
  intro a k i h0 h1;simp[Instr.indexAt,asIntOf,run_underlying ht,Instr.sureAddr,yW hok,h0,h1]
 unfold xG at h;split at h
 ·rename_i r o sh k i;split at h
  ·rename_i hh;cases h;obtain⟨_,_,e0,h1,h2⟩:=hl.two;cases e0;cases h2.int_inv;cases h1 with
   |ptr _ _ b sh v ho hb=>
    exact⟨.pointer (some ((⟨b,o,none⟩:Addr).add (i.toNat*(shOf P e).size))),by simp_all,by rw[Addr.add_lit];exact .ptr _ _ b sh v ho hb⟩
  grind
 ·rename_i s p o1 sh k i;split at h
  ·rename_i hh;cases h;obtain⟨_,_,e0,h1,h2⟩:=hl.two;cases e0;cases h2.int_inv;cases h1 with
   |iptr sh p off b o cs t' fr v hI hb hp' hs hc=>
    exact⟨.pointer (some ((⟨b,o+o1,none⟩:Addr).add (i.toNat*(shOf P e).size))),by simp_all,by rw[Addr.add_lit,Nat.add_assoc];exact .iptr _ _ _ b o cs t' fr v hI hb hp' hs hc⟩
  grind
 grind

theorem b8{t:TypeId}{x ix:Value}{vs:List AV}{v:AV}(ht:P.underlying t=some .string)(hl:LR w X μ hp vs [x,ix])(h:vI vs=some v):Yh P w X μ hp (do pure (.value (<-Instr.index t x ix))) v:=by
 exact absurd (show(none:Option AV)=some _ from h) (by simp)
theorem b9{t:TypeId}{fs:Array Field}{i:Nat}{f:Field}{x:Value}{vs:List AV}{v:AV}(ht:P.underlying t=some (.struct fs))(hf:fs[i]? =some f)(hok:okT P f.type=true)(hl:LR w X μ hp vs [x])
  (h:vJ f.offset (shOf P f.type) vs=some v):Yh P w X μ hp (do pure (.value (<-Instr.field t x i))) v:=by
 exact absurd (show(none:Option AV)=some _ from h) (by simp)
theorem Da{src dst:TypeId}{k k0:IntKind}{x:Value}{vs:List AV}{v:AV}(hs:P.underlying src=some (.int k0))(ht:P.underlying dst=some (.int k))(hl:LR w X μ hp vs [x])(h:Qo k vs=some v):
  Yh P w X μ hp (do pure (.value (<-convert src dst x))) v:=by
 unfold Qo at h;split at h
 ·cases h;obtain⟨_,e0,h1⟩:=hl.one;cases e0;cases h1.int_inv;exact⟨_,by simp_all[convert,run_underlying,Conv.intToInt],.mkInt _ _⟩
 grind

theorem Db{i:Nat}{x:Value}{vs:List AV}{v:AV}(hl:LR w X μ hp vs [x])(h:Qp i vs=some v):Yh P w X μ hp (do pure (.value (<-Instr.extract x i))) v:=by
 unfold Qp at h;split at h
 ·obtain⟨_,e0,h1⟩:=hl.one;cases e0;cases h1 with
  |tuple l us hlen hr=>
   have hlt:=(Zf.1 h).1;refine⟨us[i],?_,hr i v _ h (Ze (by omega))⟩;have hu:us.toArray[i]? =some us[i]:=by simp
   simp[Instr.extract,hu]
 grind

theorem Dc{ts:Array TypeId}{ty:TypeId}{x y:Value}{vs:List AV}{v:AV}(hl:LR w X μ hp vs [x,y])(h:sMin vs=some v):Yh P w X μ hp (do pure (.value (<-Builtin.min_ ts ty #[x,y]))) v:=by
 unfold sMin at h;split at h
 ·split at h
  ·cases h;obtain⟨_,_,e0,h1,h2⟩:=hl.two;cases e0;cases h1.int_inv;cases h2.int_inv;exact⟨_,by simp[Builtin.min_,Builtin.min2],.mkInt _ _⟩
  grind
 grind
theorem Dd{ts:Array TypeId}{ty:TypeId}{x y:Value}{vs:List AV}{v:AV}(hl:LR w X μ hp vs [x,y])(h:sMax vs=some v):Yh P w X μ hp (do pure (.value (<-Builtin.max_ ts ty #[x,y]))) v:=by
 unfold sMax at h;split at h
 ·split at h
  ·cases h;obtain⟨_,_,e0,h1,h2⟩:=hl.two;cases e0;cases h1.int_inv;cases h2.int_inv;exact⟨_,by simp[Builtin.max_,Builtin.max2],.mkInt _ _⟩
  grind
 grind

theorem De{t:TypeId}{x:Value}{vs:List AV}{v:AV}(ht:P.concrete t=true)(hl:LR w X μ hp vs [x])(h:Xl t vs=some v):Yh P w X μ hp (do pure (.value (<-Instr.makeInterface t x))) v:=by
 unfold Xl at h;split at h
 ·cases h;obtain⟨_,e0,h1⟩:=hl.one;cases e0;cases h1 with
  |pv _ _ v hs hq=>exact⟨.iface t x,by simp_all[run_makeInterface],.pv _ _ _ rfl (.iface t _ _ x hs hq)⟩
 grind

theorem Df{x:Value}{vs:List AV}{v:AV}(hl:LR w X μ hp vs [x])(h:sMv vs=some v):AR w X μ hp v x:=by
 unfold sMv at h;split at h
 ·cases h;obtain⟨_,e0,h1⟩:=hl.one
  grind
 grind

theorem LR.length{azs:List AV}{vs:List Value}(h:LR w X μ hp azs vs):azs.length=vs.length:=by
 induction h with
 |nil=>rfl
 |cons _ _ ih=>grind
theorem LR.get{azs:List AV}{vs:List Value}(h:LR w X μ hp azs vs):∀(i:Nat) (a:AV) (v:Value),azs[i]? =some a->vs[i]? =some v->AR w X μ hp a v:=by
 induction h with
 |nil=>grind
 |cons h _ ih=>
  grind
theorem LR.of{azs:List AV}{vs:List Value}(hl:azs.length=vs.length)(h:∀(i:Nat) (a:AV) (v:Value),azs[i]? =some a->vs[i]? =some v->AR w X μ hp a v):LR w X μ hp azs vs:=by
 induction azs generalizing vs with
 |nil=>cases vs with
  |nil=>exact .nil
  |cons=>grind
 |cons a r ih=>cases vs with
  |nil=>grind
  |cons v us=>exact .cons (h 0 a v rfl rfl) (ih (by grind) fun i a v h1 h2=>h (i+1) a v (by grind) (by grind))

theorem Dg{fn:Fn}{first captured:List Value}{vs:List AV}{v:AV}(hl:LR w X μ hp vs (first++captured))(h:Qn fn first.length vs=some v):AR w X μ hp v (.func fn first.toArray captured.toArray):=by
 have hlen:=hl.length;unfold Qn at h;split at h
 ·simp only[Option.some.injEq] at h;subst h;have h1:first=[]:=Z2 (by grind)
  have h2:captured=[]:=Z2 (by grind);subst h1;subst h2;exact .pv _ _ _ rfl (.func fn)
 ·simp only[Option.some.injEq] at h;subst h;refine .func fn _ _ first captured ?_ ?_ ?_ ?_
  ·grind
  ·grind
  ·intro i a v h1 h2;have hi:=(Zf.1 h2).1;rw[List.getElem?_take_of_lt hi] at h1;exact hl.get i a v h1 (by grind)
  ·intro i a v h1 h2;rw[ZQ] at h1;exact hl.get _ a v h1 (by grind)
end Go.Am

/- Loads, lookups, lengths, slices, run in the model. -/
namespace Go.Am
variable{P:Program} {w:World} {X:Xc P} {μ:Nat->Option Nat} {hp:Heap}

theorem Dh{t:TypeId}(hok:okT P t=true){b o:Nat}{cs:Array Value}{t':TypeId}{fr:Nat × Nat}{u:Value}(hb:w.heap[b]? =some (.cells cs t' fr))(hs:vshp u=shOf P t)(hc:u.cells.toList=(cs.toList.drop o).take (shOf P t).size):
  (loadVar t ⟨b,o,none⟩).run P w=.ok u w:=by
 obtain⟨ti,d,_,hd,_,_⟩:=qF hok;have hsz:=yW hok w;have hul:u.cells.toList.length=(shOf P t).size:=by rw[Zm,Yu,hs]
 have cell:∀j v,u.cells.toList[j]? =some v->w.cell? ((⟨b,o,none⟩:Addr).add j)=some v:=by
  grind [Addr.add_lit,World.cell?]
 simp only[loadVar,Sem.run_bind,Uj hd,Result.andThen_ok];cases hsh:shOf P t with
 |none=>
  rw[hsh] at hs hul hc;have h1:=Ug hs;have:=cell 0 u (by grind);simp_all[Addr.add_lit]
 |some n=>
  rw[hsh] at hsz hul hs;simp only[Sh.size] at hsz hul;have hl:=run_loadCells_list (P:=P) w ⟨b,o,none⟩ u.cells.toList cell;rw[hul] at hl;cases u with
  |agg us=>
   simp only[Value.cells] at hl;simp_all
  |_=>simp[vshp] at hs

theorem Di{I:Nat->Value->Prop}{n:Nat}{vals:List Value}{sh:Sh}{cs:List Value}(hl:n=vals.length)(h:∀v∈vals,vshp v=sh)(hc:cellsOf vals=cs.take (n*sh.size))(i:Nat)(hi:i<n):
  ∃v,vals[i]? =some v/\vshp v=sh/\v.cells.toList=(cs.drop (i*sh.size)).take sh.size:=by
 have hv:vals[i]? =some vals[i]:=Ze (by omega);have hk:∀v∈vals,v.cells.size=sh.size:=fun v hvm=>by grind [Yu]
 refine⟨vals[i],hv,h _ (List.getElem_mem _),?_⟩;have hg:=JW hk i _ hv;have hsz:vals[i].cells.toList.length=sh.size:=by grind
 rw[hc,Zs] at hg;have hg2:=congrArg (List.take sh.size) hg
 grind

theorem Um{t:TypeId}{x:Value}{vs:List AV}{v:AV}(hH:HR w X μ hp)(hok:okT P t=true)(hl:LR w X μ hp vs [x])(h:XN (shOf P t) hp vs=some v):Yh P w X μ hp (do pure (.value (<-Instr.loadAt t x))) v:=by
 have fin:∀(b o:Nat) (cs:Array Value) (t':TypeId) (fr:Nat × Nat) (u:Value),x=.pointer (some ⟨b,o,none⟩)->w.heap[b]? =some (.cells cs t' fr)->vshp u=shOf P t->u.cells.toList=(cs.toList.drop o).take (shOf P t).size->AR w X μ hp v u->Yh P w X μ hp (do pure (.value (<-Instr.loadAt t x))) v:=by
  intro b o cs t' fr u hx hb hs hc ha;subst hx;exact⟨u,by simp[Instr.loadAt,Instr.sureAddr,Dh hok hb hs hc],ha⟩
 unfold XN at h;split at h
 ·obtain⟨_,e0,h1⟩:=hl.one;cases e0;unfold aload at h;split at h
  ·rename_i r off;cases h1 with
   |ptr _ _ b sh0 v0 ho hb=>
    simp only[ho] at h;obtain⟨b',val,t',hb',hc,hs,hf,ha⟩:=hH.box r sh0 v0 ho
    grind [Zm,Yu,Uk]
  ·rename_i s p off;cases h1 with
   |iptr _ _ _ b o cs t' fr val hI hb hq hs hc=>
    split at h
    ·rename_i hh;cases h;obtain⟨rfl,rfl⟩:=hh;exact fin b (o+0) _ _ _ val rfl hb hs hc (.pv _ _ _ hs hq)
    ·split at h
     ·rename_i q hq';cases h;obtain⟨u,k1,k2,k3⟩:=JX _ _ _ _ _ _ hq' hq;refine fin b (o+off) _ _ _ u rfl hb k1 ?_ (.pv _ _ _ k1 k2);rw[k3,hc,Zs,ZB,Zt]
      grind [Yu,Zx]
     grind
  ·rename_i s0 r ver i off;cases h1 with
   |eptr _ _ _ _ _ a es fz ho hv hc=>
    simp only[ho] at h;split at h
    ·rename_i hver;obtain⟨hi,b,hb,rfl⟩:=hc hver;split at h
     ·rename_i p hp0;rcases(hH.arr r s0 es fz ho).2 with⟨hn,_⟩|⟨b',cs,t',vals,h1,h2,h3,h4,h5⟩
      ·grind
      ·rw[hb] at h1;cases h1;have h5':cellsOf vals=(cs.toList.drop 0).take (es.length*s0.size):=by grind
       obtain⟨u,_,k1,k2,k3⟩:=KF h3 (fun i p v hi hv=>(h4 i p v hi hv).1) (fun i p v hi hv=>(h4 i p v hi hv).2) h5' i p hp0;rw[ZK] at k3;split at h
       ·rename_i hh;cases h;obtain⟨rfl,rfl⟩:=hh;exact fin b (i*(shOf P t).size+0) _ _ _ u rfl h2 k1 k3 (.pv _ _ _ k1 k2)
       ·split at h
        ·rename_i q hq';cases h;obtain⟨x,j1,j2,j3⟩:=JX _ _ _ _ _ _ hq' k2;refine fin b (i*s0.size+off) _ _ _ x rfl h2 j1 ?_ (.pv _ _ _ j1 j2);rw[j3,k3,Zs,ZB,Zt]
         grind [Yu,Zx]
        grind
     grind
    grind
  ·rename_i s0 r ver i off;cases h1 with
   |epv _ _ _ _ _ a n ho hv hc=>
    rcases XT ho with⟨es,e,rfl⟩|⟨es,e,rfl⟩
    ·simp only[e] at h;split at h
     ·rename_i hver;obtain⟨hi,b,hb,rfl⟩:=hc hver;split at h
      ·rename_i a0 ha0;obtain⟨_,b',cs,t',vals,h1,h2,h3,h4,h5⟩:=hH.arv r s0 es e;rw[hb] at h1;cases h1;have hsh:∀v∈vals,vshp v=s0:=fun v hvm=>by
        grind [ZO]
       obtain⟨u,k0,k1,k3⟩:=Di (I:=fun _ _=>True) h3 hsh h5 i hi;have k2:=(h4 i a0 u ha0 k0).2;split at h
       ·grind
       ·obtain⟨x,j1,_,j3,j2⟩:=Uk _ _ _ _ _ _ h k2;refine fin b (i*s0.size+off) _ _ _ x rfl h2 j1 ?_ j3;rw[j2,k3,Zs,ZB,Zt]
        grind [Yu,Zx]
      grind
     grind
    ·simp only[e] at h;split at h
     ·rename_i hver;obtain⟨hi,b,hb,rfl⟩:=hc hver;split at h
      ·rename_i p hp0;rcases(hH.arr r s0 es true e).2 with⟨hn,_⟩|⟨b',cs,t',vals,h1,h2,h3,h4,h5⟩
       ·grind
       ·rw[hb] at h1;cases h1;have h5':cellsOf vals=(cs.toList.drop 0).take (es.length*s0.size):=by grind
        obtain⟨u,_,k1,k2,k3⟩:=KF h3 (fun i p v hi hv=>(h4 i p v hi hv).1) (fun i p v hi hv=>(h4 i p v hi hv).2) h5' i p hp0;rw[ZK] at k3;split at h
        ·rename_i hh;cases h;obtain⟨rfl,rfl⟩:=hh;exact fin b (i*(shOf P t).size+0) _ _ _ u rfl h2 k1 k3 (.pv _ _ _ k1 k2)
        ·split at h
         ·rename_i q hq';cases h;obtain⟨x,j1,j2,j3⟩:=JX _ _ _ _ _ _ hq' k2;refine fin b (i*s0.size+off) _ _ _ x rfl h2 j1 ?_ (.pv _ _ _ j1 j2);rw[j3,k3,Zs,ZB,Zt]
          grind [Yu,Zx]
         grind
      grind
     grind
  grind
 grind

theorem Dj{t e ty:TypeId}{x:Value}{vs:List AV}{v:AV}(ht:P.underlying t=some (.slice e))(hl:LR w X μ hp vs [x])(h:sLen vs=some v):Yh P w X μ hp (do pure (.value (<-Builtin.len_ #[t] ty #[x]))) v:=by
 have fin:∀a n c,x=.slice a n c->v=.pv none (.int .i64 n)->Yh P w X μ hp (do pure (.value (<-Builtin.len_ #[t] ty #[x]))) v:=by
  intro a n c hx hv;subst hx;subst hv;exact⟨.int .i64 n,by simp[Builtin.len_,run_underlying ht,goInt],.mkInt _ _⟩
 unfold sLen at h;split at h
 ·cases h;obtain⟨_,e0,h1⟩:=hl.one;cases e0;cases h1 with
  |pv _ _ _ _ hq=>cases hq with
   |nilsl sh a n=>grind
   |sl=>grind
 ·cases h;obtain⟨_,e0,h1⟩:=hl.one;cases e0;cases h1 with
  |tsl=>grind
 ·cases h;obtain⟨_,e0,h1⟩:=hl.one;cases e0;cases h1 with
  |sl=>grind
 ·cases h;obtain⟨_,e0,h1⟩:=hl.one;cases e0;cases h1 with
  |slv=>grind
 ·cases h;obtain⟨_,e0,h1⟩:=hl.one;cases e0;cases h1 with
  |nilv=>grind
 grind
theorem Dk{t ty:TypeId}{x:Value}{vs:List AV}{v:AV}(ht:P.underlying t=some .string)(hl:LR w X μ hp vs [x])(h:Qq vs=some v):Yh P w X μ hp (do pure (.value (<-Builtin.len_ #[t] ty #[x]))) v:=by
 unfold Qq at h;split at h
 ·cases h;obtain⟨_,e0,h1⟩:=hl.one;cases e0;cases h1.str_inv;rename_i s;have hz:(ByteArray.mk s.toArray).size=s.length:=by simp[ByteArray.size]
  exact⟨.int .i64 s.length,by simp_all[Builtin.len_,run_underlying,goInt],.mkInt _ _⟩
 grind
theorem Dl{t k e ty:TypeId}{x:Value}{vs:List AV}{v:AV}(hH:HR w X μ hp)(ht:P.underlying t=some (.map k e))(hl:LR w X μ hp vs [x])(h:y8 hp vs=some v):Yh P w X μ hp (do pure (.value (<-Builtin.len_ #[t] ty #[x]))) v:=by
 unfold y8 at h;split at h
 ·rename_i r;split at h
  ·rename_i sh es ho;cases h;obtain⟨_,e0,h1⟩:=hl.one;cases e0;cases h1 with
   |map _ b sh' es' ho' hb=>
    obtain⟨b',ents,clock,k1,k2,k3⟩:=hH.map r _ _ ho;rw[hb] at k1;cases k1;exact⟨.int .i64 ents.size,by simp_all[Builtin.len_,run_underlying,goInt,getObj,Sem.run],by rw[k3.len];exact .mkInt _ _⟩
  grind
 ·cases h;obtain⟨_,e0,h1⟩:=hl.one;cases e0;cases h1 with
  |pv _ _ _ _ hq=>cases hq;exact⟨_,by simp[Builtin.len_,run_underlying ht,goInt],.mkInt _ _⟩
 grind

theorem Dm{t e:TypeId}(ht:P.underlying t=some (.slice e))(hok:okT P e=true)(a:Option Addr)(len cap:Nat)(lo hi:Option Value)(l h:Nat)(hlo:lo=none/\l=0\/∃k,lo=some (.int k l))(hhi:hi=none/\h=len\/∃k,hi=some (.int k h))(h1:l<=h)(h2:h<=cap):
  (Instr.sliceAt t (.slice a len cap) lo hi none).run P w=.ok (.slice (if cap=l then a else a.map (·.add (l*(shOf P e).size))) (h - l) (cap - l)) w:=by
 have hs:=yW hok w;rcases hlo with⟨rfl,rfl⟩|⟨k,rfl⟩ <;> rcases hhi with⟨rfl,rfl⟩|⟨k',rfl⟩ <;>
  simp[Instr.sliceAt,Instr.slice,run_underlying ht,Instr.sliceBounds,Instr.sliceBound,asIntOf, *]

theorem Dn{e:TypeId}{a:Option Addr}{cap len:Nat}{v:AV}{s:AV}{lo:Int}{hi:Option Int}(h:aslice (shOf P e) lo hi s=some v)(hs:AR w X μ hp s (.slice a len cap)):
  0<=lo/\(∀x,hi=some x->0<=x)/\lo.toNat<=(hi.map Int.toNat).getD len/\(hi.map Int.toNat).getD len<=cap/\
   AR w X μ hp v (.slice (if cap=lo.toNat then a else a.map (·.add (lo.toNat*(shOf P e).size))) ((hi.map Int.toNat).getD len - lo.toNat) (cap - lo.toNat)):=by
 have psl:∀(es:List PV) (h0:Nat),es.length=len->lo.toNat<=h0->h0<=es.length->∀sh,(sh=shOf P e\/es=[])->PR w (Im X μ hp) (.sl sh es) (.slice a len cap)->
   PR w (Im X μ hp) (.sl sh ((es.drop lo.toNat).take (h0 - lo.toNat))) (.slice (if cap=lo.toNat then a else a.map (·.add (lo.toNat*(shOf P e).size))) (h0 - lo.toNat) (cap - lo.toNat))/\h0<=cap:=by
  intro es h0 hlen h1 h2 sh hsh hpr;cases hpr with
  |nilsl=>
   have:h0=0:=by grind
   subst this;have:lo.toNat=0:=by omega
   rw[this];simp only[List.drop_nil,List.take_nil];exact⟨.nilsl _ _ _,Za _⟩
  |sl _ _ b o _ cs t fr vals hl hI hb hs hs' hc hn=>
   refine⟨?_,by omega⟩;by_cases hz:h0=lo.toNat
   ·have:h0 - lo.toNat=0:=by omega
    rw[this];simp only[zu];exact .nilsl _ _ _
   ·rcases hsh with rfl|rfl
    ·have hcl:¬cap=lo.toNat:=by omega
     rw[Zb hcl];have hlen2:((es.drop lo.toNat).take (h0 - lo.toNat)).length=h0 - lo.toNat:=by grind
     have hpe:∀(i:Nat) (p:PV) (v:Value),((es.drop lo.toNat).take (h0 - lo.toNat))[i]? =some p->((vals.drop lo.toNat).take (h0 - lo.toNat))[i]? =some v->vshp v=shOf P e/\PR w (Im X μ hp) p v:=by
      grind
     have key:=PR.sl (w:=w) (I:=Im X μ hp) (shOf P e) ((es.drop lo.toNat).take (h0 - lo.toNat)) b (o+lo.toNat*(shOf P e).size) (cap - lo.toNat) cs t fr ((vals.drop lo.toNat).take (h0 - lo.toNat)) (by grind) hI hb (fun i p v hi hv=>(hpe i p v hi hv).1) (fun i p v hi hv=>(hpe i p v hi hv).2) ?_ (by omega)
     ·grind [Addr.add_lit]
     ·rw[QB hl hs lo.toNat (h0 - lo.toNat) (by omega),hc,hlen2,Zs,Zt,ZB]
      congr 1
      have:lo.toNat*(shOf P e).size+(h0 - lo.toNat)*(shOf P e).size<=es.length*(shOf P e).size:=by rw[<-Zv];simp_all[ZP]
      omega
    grind
 unfold aslice at h;split at h
 ·rename_i s0 sh es;cases hs with
  |pv _ _ _ _ hq=>
   have hlen:es.length=len:=by cases hq <;> rfl
   split at h
   ·split at h
    ·rename_i hh;cases h;obtain⟨h1,h2,h3⟩:=hh;have:=psl es len hlen (by omega) (by omega) sh h1 hq;refine⟨h2,by simp,by grind,by grind,.pv _ _ _ rfl ?_⟩
     grind
    grind
   ·rename_i x;split at h
    ·rename_i hh;cases h;obtain⟨h1,h2,h3,h4⟩:=hh;have:=psl es x.toNat hlen (by omega) (by omega) sh h1 hq;exact⟨h2,by grind,by grind,by grind,.pv _ _ _ rfl (by grind)⟩
    grind
 ·rename_i sh es;cases hs with
  |tsl _ _ _ hq=>
   split at h
   ·split at h
    ·rename_i hh;cases h;obtain⟨h1,h2,h3⟩:=hh;have:=psl es es.length rfl (by omega) (by omega) sh h1 hq;refine⟨h2,by simp,by grind,by simp,?_⟩;have e1:(es.drop lo.toNat).take (es.length - lo.toNat)=es.drop lo.toNat:=Zl (by simp);rw[e1] at this;have k:=AR.tsl (μ:=μ) sh (es.drop lo.toNat) (if es.length=lo.toNat then a else a.map (·.add (lo.toNat*(shOf P e).size))) (by simpa using this.1)
     grind
    grind
   ·rename_i x;split at h
    ·rename_i hh;cases h;obtain⟨h1,h2,h3,h4⟩:=hh;have:=psl es x.toNat rfl (by omega) (by omega) sh h1 hq;exact⟨h2,by grind,by grind,by grind,.pv _ _ _ rfl (by grind)⟩
    grind
 ·rename_i s0 r ver off n;cases hs with
  |sl _ _ _ _ _ _ _ es fz ho hv hlc ha hc=>
   have slc:∀h0:Nat,lo.toNat<=h0->(h0<=len\/off+h0<=ver)->s0=shOf P e->AR w X μ hp (.sl (shOf P e) r ver (off+lo.toNat) (h0 - lo.toNat)) (.slice (if cap=lo.toNat then a else a.map (·.add (lo.toNat*(shOf P e).size))) (h0 - lo.toNat) (cap - lo.toNat)):=by
    intro h0 h1 h2 hsh;subst hsh;have hb:h0 - lo.toNat<=cap - lo.toNat/\ver<=off+lo.toNat+(cap - lo.toNat):=by grind
    refine .sl _ r ver _ _ _ _ es fz ho hv hb (fun hne=> ?_) fun ev=> ?_
    ·grind
    grind [Addr.add_lit,Zv]
   split at h
   ·grind
   grind
 ·rename_i s0 r ver off n;cases hs with
  |slv _ _ _ _ _ _ _ n0 ho hv hlc ha hc=>
   have slc:∀h0:Nat,lo.toNat<=h0->(h0<=len\/off+h0<=ver)->s0=shOf P e->AR w X μ hp (.slv (shOf P e) r ver (off+lo.toNat) (h0 - lo.toNat)) (.slice (if cap=lo.toNat then a else a.map (·.add (lo.toNat*(shOf P e).size))) (h0 - lo.toNat) (cap - lo.toNat)):=by
    intro h0 h1 h2 hsh;subst hsh;have hb:h0 - lo.toNat<=cap - lo.toNat/\ver<=off+lo.toNat+(cap - lo.toNat):=by grind
    refine .slv _ r ver _ _ _ _ n0 ho hv hb (fun hne=> ?_) fun ev=> ?_
    ·grind
    grind [Addr.add_lit]
   split at h
   ·grind
   grind
 grind
end Go.Am

/- New variables, stores into variables, run in the model. -/
namespace Go.Am
variable{P:Program} {w:World} {X:Xc P} {μ:Nat->Option Nat} {hp:Heap}

def Out(P:Program)(b:Nat)(w:World)(X:Xc P)(μ:Nat->Option Nat)(hp:Heap)(s:Sem Next)(v:AV)(hp':Heap):Prop:=
 ∃n v' w' μ',s.run P w=.ok n w'/\(n=.value v'\/(n=.skip/\v'=undef))/\AR w' X μ' hp' v v'/\HR w' X μ' hp'/\Ext b X μ hp w μ' hp' w'

theorem Yh.out{b:Nat}{s:Sem Next}{v:AV}(h:Yh P w X μ hp s v)(hH:HR w X μ hp):Out P b w X μ hp s v hp:=by
 obtain⟨v',h1,h2⟩:=h;exact⟨_,v',w,μ,h1,.inl rfl,h2,hH,Ext.refl _ _ _ _ _⟩

theorem KG(b:Nat)(hH:HR w X μ hp){sh:Sh}(hs:0<sh.size):HR w X (upd μ hp.length none) (hp++[.arr sh [] false])/\Ext b X μ hp w (upd μ hp.length none) (hp++[.arr sh [] false]) w/\
  AR w X (upd μ hp.length none) (hp++[.arr sh [] false]) (.sl sh hp.length 0 0 0) (.slice none 0 0):=by
 refine⟨hH.push _ none (Ext.refl _ _ _ _ _) (fun _ _ _ _=>rfl) (fun b h=>by cases h) (fun sh v h=>by cases h) (fun sh es fz h=> ?_) (fun sh es h=>by cases h),Ext.push _ none (Ext.refl _ _ _ _ _) (fun b h=>by cases h),?_⟩
 ·grind
 ·exact .sl _ _ _ _ _ _ _ [] false Xa (Zc _) ⟨Zc _,Zc _⟩ (fun h=>absurd rfl h) fun _=>⟨Zc _,.inl ⟨zW _ _ _,rfl⟩⟩

theorem Un(b:Nat)(hH:HR w X μ hp){sh:Sh}(hs:0<sh.size){v:Value}(hv:AR w X μ hp (.tsl sh []) v):HR w X (upd μ hp.length none) (hp++[.arr sh [] false])/\Ext b X μ hp w (upd μ hp.length none) (hp++[.arr sh [] false]) w/\
  AR w X (upd μ hp.length none) (hp++[.arr sh [] false]) (.sl sh hp.length 0 0 0) v:=by
 obtain⟨h1,h2,_⟩:=KG b hH hs;refine⟨h1,h2,?_⟩;cases hv with
 |tsl _ _ a _=>exact .sl _ _ _ _ _ a _ [] false Xa (Zc _) ⟨Zc _,Za _⟩ (fun h=>absurd rfl h) fun _=>⟨Zc _,.inl ⟨zW _ _ _,rfl⟩⟩

theorem Do(b:Nat):∀(l:List (Sh × AV)) (μ:Nat->Option Nat) (hp:Heap) (vs:List Value),HR w X μ hp->CR w X μ hp l vs->
  ∃μ',HR w X μ' (zR l hp).2/\Ext b X μ hp w μ' (zR l hp).2 w/\CR w X μ' (zR l hp).2 (zR l hp).1 vs/\total (zR l hp).1=total l:=by
 intro l
 induction l with
 |nil=>intro μ hp vs hH hc;exact⟨μ,hH,Ext.refl _ _ _ _ _,hc,rfl⟩
 |cons x r ih=>
  intro μ hp vs hH hc;obtain⟨s,a⟩:=x;obtain⟨v,us,rfl,h1,hf,h2,h3⟩:=hc.inv;have plain:∀s a,AR w X μ hp a v->vshp v=s->zR ((s,a)::r) hp=((s,a)::(zR r hp).1,(zR r hp).2)->
    ∃μ',HR w X μ' (zR ((s,a)::r) hp).2/\Ext b X μ hp w μ' (zR ((s,a)::r) hp).2 w/\CR w X μ' (zR ((s,a)::r) hp).2 (zR ((s,a)::r) hp).1 (v::us)/\total (zR ((s,a)::r) hp).1=total ((s,a)::r):=by
   intro s a h2 h1 e;obtain⟨μ',k1,k2,k3,k4⟩:=ih μ hp us hH h3;rw[e];exact⟨μ',k1,k2,CR.cons h1 hf (k2.ar h2) k3,by grind [total]⟩
  cases a with
  |tsl sh es=>
   cases es with
   |nil=>
    by_cases hs:0<sh.size
    ·obtain⟨p1,p2,p3⟩:=Un b hH hs h2;have h3':CR w X (upd μ hp.length none) (hp++[.arr sh [] false]) r us:=⟨h3.1,h3.2.1,fun i x v hx hv=>p2.ar (h3.2.2 i x v hx hv)⟩;obtain⟨μ',k1,k2,k3,k4⟩:=ih _ _ us p1 h3';have e:zR ((s,.tsl sh [])::r) hp=((s,.sl sh hp.length 0 0 0)::(zR r (hp++[.arr sh [] false])).1,(zR r (hp++[.arr sh [] false])).2):=by
      grind [zR]
     rw[e];exact⟨μ',k1,p2.trans k2,CR.cons h1 hf (k2.ar p3) k3,by grind [total]⟩
    grind [zR]
   |cons e es=>exact plain s _ h2 h1 rfl
  |_=>exact plain s _ h2 h1 rfl

theorem KH(b:Nat){a:AV}{v:Value}(hH:HR w X μ hp)(ha:AR w X μ hp a v):∃μ',HR w X μ' (a.own hp).2/\Ext b X μ hp w μ' (a.own hp).2 w/\AR w X μ' (a.own hp).2 (a.own hp).1 v:=by
 have same:a.own hp=(a,hp)->∃μ',HR w X μ' (a.own hp).2/\Ext b X μ hp w μ' (a.own hp).2 w/\AR w X μ' (a.own hp).2 (a.own hp).1 v:=by
  grind [Ext.refl]
 cases a with
 |tsl sh es=>
  cases es with
  |nil=>
   by_cases hs:0<sh.size
   ·obtain⟨p1,p2,p3⟩:=Un b hH hs ha
    grind [AV.own]
   grind [AV.own]
  |cons e es=>exact same rfl
 |agg l=>
  cases ha with
  |agg _ vs h1 h2 h3=>
   obtain⟨μ',k1,k2,k3,_⟩:=Do b l μ hp vs hH ⟨h1,h2,h3⟩;exact⟨μ',k1,k2,k3.agg⟩
 |_=>exact same rfl

theorem KI(t:TypeId)(v:Value):(newVar t v).run P w=.ok ⟨w.heap.size,0,none⟩ (w.alloc (.cells v.cells t)):=by
 simp[newVar,newRow]

theorem Uo{b:Nat}{t:TypeId}{sh:Sh}{a:AV}{x:Value}(hb:b<=hp.length)(hH:HR w X μ hp)(ha:AR w X μ hp a x)(hpl:a.plain=true)(hsh:a.shp=sh):
  ∃μ',AR (w.alloc (.cells x.cells t)) X μ' (((a.own (hp++[.box sh a])).2).set hp.length (.box sh (a.own (hp++[.box sh a])).1)) (.ptr hp.length 0) (.pointer (some ⟨w.heap.size,0,none⟩))/\
   HR (w.alloc (.cells x.cells t)) X μ' (((a.own (hp++[.box sh a])).2).set hp.length (.box sh (a.own (hp++[.box sh a])).1))/\
   Ext b X μ hp w μ' (((a.own (hp++[.box sh a])).2).set hp.length (.box sh (a.own (hp++[.box sh a])).1)) (w.alloc (.cells x.cells t)):=by
 have hs:vshp x=sh:=by rw[ha.vshp hpl,hsh]
 have hE:=Ext.push (b0:=b) (.box sh a) (some w.heap.size) (Ext.alloc (X:=X) (μ:=μ) (hp:=hp) (w:=w) b (.cells x.cells t)) (fun k hk=>by grind);have hH1:HR (w.alloc (.cells x.cells t)) X (upd μ hp.length (some w.heap.size)) (hp++[.box sh a]):=by
  refine hH.push _ _ (Ext.alloc 0 _) (fun i k hi hk=>YQ w _ (hH.out i k hi hk).2) (fun k hk=>by simp_all) (fun s v h=> ?_) (fun _ _ _ h=>by cases h) (fun _ _ h=>by cases h);cases h;exact⟨_,x,t,rfl,YH w _,hs,ha.flat hpl,hE.ar ha⟩
 obtain⟨μ',k1,k2,k3⟩:=KH b hH1 (hE.ar ha);obtain⟨v0,k4,k5,_⟩:=k2.box hp.length sh a Xa;have k6:μ' hp.length=some w.heap.size:=by rw[k5,zW]
 have E2:∀b0,b0<=hp.length->Ext b0 X μ' (a.own (hp++[.box sh a])).2 (w.alloc (.cells x.cells t)) μ' (((a.own (hp++[.box sh a])).2).set hp.length (.box sh (a.own (hp++[.box sh a])).1)) (w.alloc (.cells x.cells t)):=fun b0 hb0=>
  Ext.setBox k4 (fun h=>by omega) k6 rfl rfl rfl rfl (fun _ _=>rfl) (fun cs t fr h=>⟨cs,h,rfl⟩)
 have H2:=k1.setBox k4 k6 (E2 0 (Za _)) (fun _ _=>rfl) (YH w _) hs (ha.flat hpl) k3;refine⟨μ',?_,H2,(hE.trans k2).trans (E2 b hb)⟩;have hl:hp.length<(a.own (hp++[.box sh a])).2.length:=(Zf.1 k4).1;exact .ptr _ 0 _ sh _ (by rw[ZC hl]) k6

theorem Dp{b:Nat}{t:TypeId}{x:Value}{vs:List AV}{v:AV}{hp':Heap}(hb:b<=hp.length)(hH:HR w X μ hp)(hl:LR w X μ hp vs [x])(h:wBox (shOf P t) hp vs=some (v,hp')):
  Out P b w X μ hp (do pure (.value (<-Instr.box t x))) v hp':=by
 unfold wBox at h;split at h
 ·rename_i a;obtain⟨_,e0,h1⟩:=hl.one;cases e0;split at h
  ·rename_i hh;cases h;obtain⟨μ',k1,k2,k3⟩:=Uo (t:=t) hb hH h1 hh.1 hh.2;exact⟨_,_,_,μ',by simp only[Instr.box,Sem.run_bind,KI,Result.andThen_ok,Sem.run_pure],.inl rfl,k1,k2,k3⟩
  grind
 grind

theorem xo{t:TypeId}{z:AV}(h:Yw P t=some z):∃v,(zeroValue t).run P w=.ok v w/\AR w X μ hp z v/\z.plain=true:=by
 unfold Yw at h;split at h
 ·rename_i i hi;split at h
  ·rename_i v hv;obtain⟨h1,h2⟩:=JV P w X μ hp 8 t v z h;simp_all[zeroValue,typeInfo]
  grind
 grind

theorem Dq{b:Nat}{t:TypeId}{z:AV}{vs:List AV}{v:AV}{hp':Heap}(hb:b<=hp.length)(hH:HR w X μ hp)(hz:Yw P t=some z)(h:yQ (shOf P t) z hp vs=some (v,hp')):
  Out P b w X μ hp (do pure (.value (<-Instr.alloc t true (.tuple #[])))) v hp':=by
 unfold yQ at h;split at h
 ·split at h
  ·rename_i hh;cases h;obtain⟨x,h1,h2,h3⟩:=xo (w:=w) (X:=X) (μ:=μ) (hp:=hp) hz;obtain⟨μ',k1,k2,k3⟩:=Uo (t:=t) hb hH h2 h3 hh.2;exact⟨_,_,_,μ',by simp_all[Instr.alloc,KI],.inl rfl,k1,k2,k3⟩
  grind
 grind

theorem Dr(d:Nat)(ihd:∀p off sh x q v u,AV.upd d p off sh x=some q->AR w X μ hp p v->AR w X μ hp x u->vshp u=sh->Flat u->∃n,AR w X μ hp q n/\vshp n=vshp v/\Flat n/\off+sh.size<=v.cells.size/\n.cells.toList=v.cells.toList.take off++u.cells.toList++v.cells.toList.drop (off+sh.size)):
  ∀(l:List (Sh × AV)) (vs:List Value) (off:Nat) (sh:Sh) (x:AV) (u:Value) (l':List (Sh × AV)),AV.upd.go d off sh x l=some l'->CR w X μ hp l vs->AR w X μ hp x u->vshp u=sh->Flat u->
   ∃ns,CR w X μ hp l' ns/\total l'=total l/\off+sh.size<=(cellsOf vs).length/\cellsOf ns=(cellsOf vs).take off++u.cells.toList++(cellsOf vs).drop (off+sh.size):=by
 intro l
 induction l with
 |nil=>grind [AV.updGo]
 |cons y r ih=>
  intro vs off sh x u l' h hc hx hs hfu;obtain⟨s,p⟩:=y;obtain⟨v,us,rfl,h1,hf,h2,h3⟩:=hc.inv;have hlen:v.cells.toList.length=s.size:=by rw[Zm,Yu,h1]
  have hul:u.cells.toList.length=sh.size:=by rw[Zm,Yu,hs]
  simp only[AV.upd.go,AV.updGo] at h;split at h
  ·rename_i hh;cases h;obtain⟨rfl,rfl⟩:=hh;refine⟨u::us,CR.cons hs hfu hx h3,by simp[total],by grind [Yc],?_⟩
   grind [Yc]
  ·split at h
   ·rename_i hlt;split at h
    ·rename_i p' hp';cases h;obtain⟨n,n1,n2,n3,n4,n5⟩:=ihd _ _ _ _ _ _ _ hp' h2 hx hs hfu;have n4':off+sh.size<=v.cells.toList.length:=by grind
     refine⟨n::us,CR.cons (by grind) n3 n1 h3,by simp[total],by grind [Yc],?_⟩
     grind [Yc]
    grind
   ·rename_i hge;split at h
    ·rename_i r' hr';cases h;obtain⟨ns,n1,n2,n3,n4⟩:=ih us _ _ _ _ _ hr' h3 hx hs hfu;refine⟨v::ns,CR.cons h1 hf h2 n1,by grind [total],by grind [Yc],?_⟩;rw[Yc,Yc,n4,zf,List.drop_append,Zl (by omega:v.cells.toList.length<=off),Z3 (by omega:v.cells.toList.length<=off+sh.size),hlen,
      show off+sh.size - s.size=off - s.size+sh.size by omega]
     simp
    grind
theorem Up:∀(d:Nat) (p:AV) (off:Nat) (sh:Sh) (x q:AV) (v u:Value),AV.upd d p off sh x=some q->AR w X μ hp p v->AR w X μ hp x u->vshp u=sh->Flat u->∃n,AR w X μ hp q n/\vshp n=vshp v/\Flat n/\off+sh.size<=v.cells.size/\n.cells.toList=v.cells.toList.take off++u.cells.toList++v.cells.toList.drop (off+sh.size):=by
 intro d
 induction d with
 |zero=>grind [AV.upd]
 |succ d ih=>
  intro p off sh x q v u h hp hx hs hfu;simp only[AV.upd] at h;split at h
  ·cases h
  ·rename_i l hl;split at h
   ·rename_i l' hl';cases h;obtain⟨vs,rfl,hc⟩:=Ue hl hp;obtain⟨ns,n1,n2,n3,n4⟩:=Dr d (fun p off sh x q v u h1 h2 h3 h4 h5=>ih p off sh x q v u h1 h2 h3 h4 h5) l vs off sh x u l' hl' hc hx hs hfu;refine⟨_,n1.ofComps,?_,?_,by grind [Value.cells],by grind [Value.cells]⟩
    ·have a1:=n1.total;have a2:=hc.total
     grind [vshp]
    ·intro c hcm;have hc':c∈cellsOf ns:=by grind [Value.cells]
     obtain⟨i,v,hi,hcv⟩:=Qz hc';have hlt:i<l'.length:=by rw[n1.1];grind
     exact(n1.2.1 i l'[i] v (Ze hlt) hi).2 c hcv
   grind
end Go.Am
