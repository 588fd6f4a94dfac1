/- What is proved: the abstract machine says true of the model (part 5). No conditions beside those that each theorem names. -/
import Derived.Test.YtgedfopkiebjkaaGreatDoorAm4
set_option linter.unusedSimpArgs false
set_option linter.unusedVariables false
/- Functions that run on their caller's heap; loops' heaps. -/
namespace Go.Am
variable{F:FuncId->Option AFn} {prim:FuncId->Option Ya}
theorem Yj{f:FuncId}{fn:AFn}{args:List AV}{hp hp':Heap}{v:AV}(hp0:prim f=none)(hf:F f=some fn)(hm:fn.heapMode=true)(hn:args.length=fn.nparams)
  (h:W (sem F prim) (sloop F prim) hp.length fn.code ⟨params 0 args,hp⟩ (endK fn.results (fun v' h'=>v'=v/\(if v.refsIn.all (fun q=>decide (q<hp.length))=true then h'.take hp.length else h')=hp')))(hr:fn.rcv=none:=by rfl)(hmo:fn.more=[]:=by rfl):sem F prim .fn f args hp=some (.ret v,hp'):=by
 rw[X3];unfold YY;rw[hp0,hf];simp only[hr,hmo,zy,ZJ,if_false,hm,if_true,abody,hn,ne_eq,not_true_eq_false,if_false];unfold W at h;split at h
 ·rename_i e st' he;rw[he];cases e with
  |normal=>
   rw[Je] at h;cases hr:Yr st' fn.results with
   |none=>rw[hr] at h;exact h.elim
   |some u=>
    rw[hr] at h;obtain⟨h1,h2⟩:=h
    grind
  |ret=>
   rw[qc] at h;cases hr:Yr st' fn.results with
   |none=>rw[hr] at h;exact h.elim
   |some u=>
    rw[hr] at h;obtain⟨h1,h2⟩:=h
    grind
  |exit i=>exact h.elim
  |panic v=>exact h.elim
 grind
theorem QL{n b:Nat}{fr:Fr}{hp:Heap}(h:hp.length=n):collect n b fr hp=hp:=by
 grind [collect]
theorem mj{α:Type}{l r:List α}{i:Nat}(h:i<l.length):(l++r)[i]? =l[i]? :=ZZ h
theorem mm{α:Type}(l:List α)(x:α):(l++[x])[l.length]? =some x:=by simp
theorem mn{α:Type}{l r:List α}{i:Nat}(h:i<l.length)(x:α):(l++r).set i x=l.set i x++r:=by grind
theorem YZ{α:Type}{l:List α}{i:Nat}{x:α}(h:l[i]? =some x):i<l.length:=(Zf.1 h).1
end Go.Am
namespace Go.Am
variable{Γ:Oracle} {Λ:Yk} {b:Nat}
end Go.Am

namespace Go.Am
theorem mo{b:Nat}{fr:Fr}(x:AObj):collect 1 b fr [x]=[x]:=QL rfl
theorem mp{b:Nat}{fr:Fr}(x y:AObj):collect 2 b fr [x,y]=[x,y]:=QL rfl
theorem mq{b:Nat}{fr:Fr}:collect 0 b fr []=[]:=QL rfl
theorem x9{F:FuncId->Option AFn}{prim:FuncId->Option Ya}{f:FuncId}{p:Ya}(h:prim f=some p)(azs:List AV)(hp:Heap):sem F prim .fn f azs hp=p f azs hp:=by
 grind [X3,YY]
def cmpI(x y:Int):Int:=if x<y then -1 else if y<x then 1 else 0
def yZ(x y:Int):Int:=if x=0 then y else x
mutual
def Tm.cmp:Tm->Tm->Int
 | .mk k n s azs,.mk k' n' s' azs'=>yZ (cmpI k k') (yZ (cmpI n n') (yZ (cmpI azs.length azs'.length) (yZ (Lib.compareBytes s s') (Tm.cmps azs azs'))))
def Tm.cmps:List Tm->List Tm->Int
 |x::r,y::r'=>yZ (x.cmp y) (Tm.cmps r r')
 |_,_=>0
end
theorem Tm.zBa(a b:Tm):a.cmp b=yZ (cmpI a.kind b.kind) (yZ (cmpI a.n b.n) (yZ (cmpI a.args.length b.args.length) (yZ (Lib.compareBytes a.name b.name) (Tm.cmps a.args b.args)))):=by
 cases a;cases b;rfl
theorem qd(x:Int):cmpI x x=0:=by simp[cmpI]
theorem Gy(y:Int):yZ 0 y=y:=rfl
theorem Gz{x:Int}(h:x≠0)(y:Int):yZ x y=x:=Zb h
theorem GA{x y:Int}:cmpI x y=0↔x=y:=by
 grind [cmpI]
theorem Tm.zA2{l r:List Tm}{i:Nat}{x y:Tm}(h:l[i]? =some x)(h':r[i]? =some y):Tm.cmps (l.drop i) (r.drop i)=yZ (x.cmp y) (Tm.cmps (l.drop (i+1)) (r.drop (i+1))):=by
 grind [zC,Tm.cmps]
end Go.Am

namespace Go.Am
theorem Tm.zAW(l:List Tm):Tm.cmps [] l=0:=by simp[Tm.cmps]
end Go.Am

namespace Go.Am
def Kept(p:Prop):Prop:=p
theorem Kept.out{p:Prop}(h:Kept p):p:=h
theorem Kept.mk{p:Prop}(h:p):Kept p:=h
end Go.Am
namespace Go.Am
theorem X7{F:FuncId->Option AFn}{prim:FuncId->Option Ya}{f:FuncId}{fn:AFn}{args:List AV}{ps:List (Sh × PV)}{hp hp1 hp2:Heap}{v:AV}(hp0:prim f=none)(hf:F f=some fn)(hm:fn.heapMode=false)(hz:zZ args hp=some (ps,hp1))
  (h:sem F prim .fn f (pvs ps) []=some (.ret v,hp2))(hr:fn.rcv=none:=by rfl):sem F prim .fn f args hp=some (.ret v,bif v.scalar then hp else hp1):=by
 rw[X3] at h ⊢;unfold YY at h ⊢;rw[hp0,hf] at h ⊢
 grind [zK]
end Go.Am

namespace Go.Am
theorem jD{k:IntKind}(hk:0<k.bits)(x:Int):yH .shr k x 1=some (.int k (x / 2)):=by
 grind [yH]
end Go.Am

namespace Go.Am
theorem mr{sh s s':Sh}{k:IntKind}{es:List PV}{p:PV}(h:es[0]? =some p):zX sh [.pv s (.sl sh es),.pv s' (.int k 0)]=some (.iptr sh p 0):=by
 simp[zX,aindex,h]
end Go.Am

namespace Go.Am
end Go.Am

namespace Go.Am
attribute [go_sem] mq mo mp
end Go.Am

/- Every datum of plain types is a value; terms. -/
namespace Go.Am
variable{P:Program} {H:Type} {enc:TypeId × Value->H} {w:World}

def GB(P:Program)(ts:List TypeId)(t:TypeId):Bool:=
 okT P t && match P.underlying t with
 |some .bool=>true
 |some (.int _)=>true
 |some .string=>true
 |some (.slice e)=>ts.contains e && okT P e
 |some (.struct fs)=>fs.toList.all (fun f=>ts.contains f.type) && Q9 P (P.cellsOf t) 0 fs.toList
 |_=>false
def GC(P:Program)(ts:List TypeId):Bool:=ts.all (GB P ts)

theorem GD{f:DataW H->Option PV}{g:Nat->Option (DataW H × List MemPlace)}(hg:∀i d ps,g i=some (d,ps)->∃p,f d=some p):∀(is:List Nat) (xs:List (DataW H × List MemPlace)),is.mapM g=some xs->∃l,XF f (xs.map (·.1))=some l
 |[],xs,h=>by simp at h;subst h;exact⟨[],rfl⟩
 |i::r,xs,h=>by
  rw[List.mapM_cons] at h;cases ha:g i with
  |none=>grind
  |some y=>
   rw[ha] at h;cases hr:r.mapM g with
   |none=>grind
   |some ys=>
    rw[hr] at h;cases h;obtain⟨l,hl⟩:=GD hg r ys hr
    grind [XF]
theorem GE{f:TypeId->DataW H->Option PV}{g:Field->Option (DataW H × List MemPlace)}:∀(fs:List Field) (xs:List (DataW H × List MemPlace)),(∀fd∈fs,∀d ps,g fd=some (d,ps)->∃p,f fd.type d=some p)->fs.mapM g=some xs->∃l,Xe P f fs (xs.map (·.1))=some l
 |[],xs,_,h=>by simp at h;subst h;exact⟨[],rfl⟩
 |fd::r,xs,hg,h=>by
  rw[List.mapM_cons] at h;cases ha:g fd with
  |none=>grind
  |some y=>
   rw[ha] at h;cases hr:r.mapM g with
   |none=>grind
   |some ys=>
    rw[hr] at h;cases h;obtain⟨l,hl⟩:=GE r ys (fun fd h=>hg fd (by simp[h])) hr
    grind [Xe]

theorem GF{ts:List TypeId}(hc:GC P ts=true){base:Nat}{spare:Nat->Bool}{held:Bool}:∀(fuel:Nat) (t:TypeId) (cs:List Value) (d:DataW H) (ps:List MemPlace),t∈ts->DataW.trod enc P w base spare held fuel t cs=some (d,ps)->∃p,yf P fuel t d=some p:=by
 intro fuel
 induction fuel with
 |zero=>intro t cs d ps _ h;cases h
 |succ fuel ih=>
  intro t cs d ps ht h;have hp:=Zr.1 hc t ht;unfold GB at hp;rw[Zk] at hp;have hp:=hp.2;unfold DataW.trod at h;unfold yf;cases hu:P.underlying t with
  |none=>grind
  |some u=>
   rw[hu] at hp h;cases u with
   |bool=>
    simp only at h;split at h <;> first|contradiction|(exfalso;clear ih;simp_all;done)|skip
    ·cases h;grind
   |int k=>
    simp only at h;split at h <;> first|contradiction|(exfalso;clear ih;simp_all;done)|skip
    ·rename_i e;split at h
     ·rename_i e2;obtain⟨e2,e3⟩:=e2;subst e2;cases h;simp_all
     grind
   |string=>
    simp only at h;split at h <;> first|contradiction|(exfalso;clear ih;simp_all;done)|skip
    ·split at h
     ·cases h;grind
     grind
   |slice e=>
    simp only[Zk,List.contains_iff_mem] at hp;simp only at h;split at h <;> first|contradiction|(exfalso;clear ih;simp_all;done)|skip
    ·cases h;grind
    ·rename_i e' a len cap hx;cases hx;split at h
     ·rw[Option.bind_eq_some_iff] at h;obtain⟨elems,hm,h⟩:=h;rw[ZA] at h;obtain⟨rest,hr,h⟩:=h;cases h;obtain⟨l,hl⟩:=GD (f:=yf P fuel e) (fun i d ps hg=>by
       grind [Option.bind_eq_some_iff]) _ _ hm
      simp_all
     grind
   |struct fs=>
    simp only[Zk] at hp;simp only at h;split at h <;> first|contradiction|(exfalso;clear ih;simp_all;done)|skip
    ·rw[ZA] at h;obtain⟨xs,hm,h⟩:=h;cases h;obtain⟨l,hl⟩:=GE (P:=P) (f:=yf P fuel) fs.toList xs (fun fd hfd d ps hg=>by
      grind) hm
     simp_all
   |_=>cases hp

structure BulkLaws(bulk:DataW H->Nat)(all:List (DataW H)->Nat):Prop where
 nil:all []=0
 cons:∀d r,all (d::r)=bulk d+all r
 slice:∀e s,bulk (.slice e s)=all e+all s+1
 agg:∀l,bulk (.agg l)=all l+1
 string:∀l,bulk (.lit (.string l))=l.length+1

structure TermTy(P:Program)(tA tT:TypeId):Prop where
 a:P.underlying tA=some (.slice tT)
 t:∃fs tI tL tS,P.underlying tT=some (.struct fs)/\fs.toList.map (·.type)=[tI,tL,tS,tA]/\P.underlying tI=some (.int .i64)/\P.underlying tL=some (.int .i64)/\P.underlying tS=some .string/\shOf P tT=some 4/\shOf P tA=none/\shOf P tI=none/\shOf P tL=none/\shOf P tS=none

def QM(n:Int):Prop:= -9223372036854775808<=n/\n<=9223372036854775807
mutual
def Tm.rng:Tm->Prop
 | .mk k n _ azs=>QM k/\QM n/\Tm.rngs azs
def Tm.rngs:List Tm->Prop
 |[]=>True
 |t::r=>t.rng/\Tm.rngs r
end
theorem Vm{n:Int}(h:(Lit.int .i64 n).wf=true):QM n:=by
 grind [Lit.wf,IntKind.min,IntKind.max,IntKind.signed,IntKind.bits,QM]

theorem GG{tA tT:TypeId}(hT:TermTy P tA tT){bulk:DataW H->Nat}{all:List (DataW H)->Nat}(hb:BulkLaws bulk all):∀(n:Nat),
  (∀(d:DataW H) (p:PV),yf P n tT d=some p->∃t:Tm,p=t.pv/\t.size<=bulk d/\t.rng)/\
  (∀(d:DataW H) (p:PV),yf P n tA d=some p->∃l:List Tm,p=.sl (some 4) (Tm.pvs l)/\Tm.sizes l<=bulk d/\Tm.rngs l)
 |0=>⟨fun d p h=>(by cases h),fun d p h=>(by cases h)⟩
 |n+1=>by
  obtain⟨ih1,ih2⟩:=GG hT hb n;have elems:∀(ds:List (DataW H)) (l:List PV),XF (yf P n tT) ds=some l->∃ts:List Tm,l=Tm.pvs ts/\Tm.sizes ts<=all ds/\Tm.rngs ts:=by
   intro ds
   induction ds with
   |nil=>intro l h;cases h;exact⟨[],rfl,Za _,trivial⟩
   |cons d ds ih=>
    intro l h;simp only[XF] at h;split at h
    ·cases h
    ·rename_i p hp;split at h
     ·rename_i l' hl;cases h;obtain⟨t,rfl,h1,h2⟩:=ih1 d p hp;obtain⟨ts,rfl,h3,h4⟩:=ih l' hl;exact⟨t::ts,rfl,by rw[hb.cons];grind [Tm.sizes],h2,h4⟩
     grind
  obtain⟨hA,fs,tI,tL,tS,hS,hf,hI,hL,hSt,s1,s2,s3,s4,s5⟩:=hT;constructor
  ·intro d p h;unfold yf at h;rw[hS] at h;cases d with
   |agg parts=>
    simp only at h;split at h
    ·split at h
     ·rename_i l hl;cases h;obtain⟨f1,f2,f3,f4,hfs⟩:∃f1 f2 f3 f4:Field,fs.toList=[f1,f2,f3,f4]:=by
       match hx:fs.toList,hf with
       |[a,b,c,d],_=>grind
      rw[hfs] at hf hl;simp only[ZV,List.map_nil,List.cons.injEq,and_true] at hf;obtain⟨e1,e2,e3,e4⟩:=hf
      match parts,hl with
      |[],hl=>cases hl
      |d1::r1,hl=>
       simp only[Xe,e1] at hl;split at hl
       ·cases hl
       ·rename_i p1 hp1;split at hl
        ·rename_i l1 hl1;cases hl
         match r1,hl1 with
         |[],hl1=>cases hl1
         |d2::r2,hl1=>
          simp only[Xe,e2] at hl1;split at hl1
          ·grind
          ·rename_i p2 hp2;split at hl1
           ·rename_i l2 hl2;cases hl1
            match r2,hl2 with
            |[],hl2=>cases hl2
            |d3::r3,hl2=>
             simp only[Xe,e3] at hl2;split at hl2
             ·grind
             ·rename_i p3 hp3;split at hl2
              ·rename_i l3 hl3;cases hl2
               match r3,hl3 with
               |[],hl3=>cases hl3
               |d4::r4,hl3=>
                simp only[Xe,e4] at hl3;split at hl3
                ·grind
                ·rename_i p4 hp4;split at hl3
                 ·rename_i l4 hl4;cases hl3
                  match r4,hl4 with
                  |_::_,hl4=>cases hl4
                  |[],hl4=>
                   cases hl4;obtain⟨ts,rfl,k1,k2⟩:=ih2 d4 p4 hp4;have i64:∀(ty:TypeId) (d:DataW H) (p:PV),P.underlying ty=some (.int .i64)->yf P n ty d=some p->∃x,p=.int .i64 x/\QM x:=by
                    intro ty d p hty hp;cases n with
                    |zero=>cases hp
                    |succ n=>
                     unfold yf at hp
                     grind [Vm]
                   obtain⟨x1,rfl,g1⟩:=i64 tI d1 p1 hI hp1;obtain⟨x2,rfl,g2⟩:=i64 tL d2 p2 hL hp2;obtain⟨s,rfl,hs⟩:∃s,p3=.str s/\s.length<=bulk d3:=by
                    cases n with
                    |zero=>cases hp3
                    |succ n=>
                     unfold yf at hp3;rw[hSt] at hp3;cases d3 with
                     |lit l=>
                      cases l with
                      |string s=>cases hp3;exact⟨s,rfl,by rw[hb.string];omega⟩
                      |_=>grind
                     |_=>cases hp3
                   refine⟨.mk x1 x2 s ts,?_,?_,g1,g2,k2⟩
                   ·grind [Tm.pv]
                   ·rw[hb.agg,hb.cons,hb.cons,hb.cons,hb.cons,hb.nil]
                    grind [Tm.size]
                 grind
              grind
           grind
        grind
     grind
    grind
   |lit l=>grind
   |_=>cases h
  ·intro d p h;unfold yf at h;rw[hA] at h;cases d with
   |nil=>cases h;exact⟨[],by rw[s1];rfl,Za _,trivial⟩
   |slice es sp=>
    simp only at h;split at h
    ·split at h
     ·rename_i l hl;cases h;obtain⟨ts,rfl,k1,k2⟩:=elems es l hl;exact⟨ts,by rw[s1],by rw[hb.slice];omega,k2⟩
     grind
    grind
   |lit l=>grind
   |_=>cases h
end Go.Am

/- Data by their types: what a value of a plain type looks like, and how much it holds. -/
namespace Go.Am
variable{P:Program} {H:Type} {enc:TypeId × Value->H} {w:World}

mutual
def PV.sz:PV->Nat
 | .str s=>s.length+1
 | .agg l=>PV.szc l+1
 | .sl _ es=>PV.szs es+1
 |_=>1
def PV.szc:List (Sh × PV)->Nat
 |[]=>0
 |x::r=>PV.sz x.2+PV.szc r
def PV.szs:List PV->Nat
 |[]=>0
 |x::r=>PV.sz x+PV.szs r
end
def Jf(P:Program)(f:TypeId->PV->Prop):List Field->List (Sh × PV)->Prop
 |[],[]=>True
 |fd::r,x::l=>x.1=shOf P fd.type/\f fd.type x.2/\Jf P f r l
 |_,_=>False
def wt(P:Program):Nat->TypeId->PV->Prop
 |0,_,_=>False
 |n+1,t,p=>match P.underlying t with
  |some .bool=>∃b,p=.bool b
  |some (.int k)=>∃x,p=.int k x/\(Lit.int k x).wf=true
  |some .string=>∃s,p=.str s
  |some (.slice e)=>∃es,p=.sl (shOf P e) es/\∀x∈es,wt P n e x
  |some (.struct fs)=>∃l,p=.agg l/\Jf P (wt P n) fs.toList l
  |_=>False

structure BulkLaws2(bulk:DataW H->Nat)(all:List (DataW H)->Nat):Prop extends BulkLaws bulk all where
 one:∀d,1<=bulk d

theorem GH{bulk:DataW H->Nat}{all:List (DataW H)->Nat}(hb:BulkLaws2 bulk all){f:DataW H->Option PV}{R:PV->Prop}(hf:∀d p,f d=some p->R p/\p.sz<=bulk d):∀(ds:List (DataW H)) (l:List PV),XF f ds=some l->(∀x∈l,R x)/\PV.szs l<=all ds
 |[],l,h=>by cases h;exact⟨fun x hx=>(by cases hx),Za _⟩
 |d::ds,l,h=>by
  simp only[XF] at h;split at h
  ·cases h
  ·rename_i p hp;split at h
   ·rename_i l' hl;cases h;obtain⟨h1,h2⟩:=hf d p hp;obtain⟨h3,h4⟩:=GH hb hf ds l' hl;refine⟨fun x hx=> ?_,by rw[hb.cons];grind [PV.szs]⟩
    grind
   grind
theorem GI{bulk:DataW H->Nat}{all:List (DataW H)->Nat}(hb:BulkLaws2 bulk all){f:TypeId->DataW H->Option PV}{R:TypeId->PV->Prop}(hf:∀t d p,f t d=some p->R t p/\p.sz<=bulk d):∀(fs:List Field) (ds:List (DataW H)) (l:List (Sh × PV)),Xe P f fs ds=some l->Jf P R fs l/\PV.szc l<=all ds
 |[],ds,l,h=>by
  cases ds with
  |nil=>cases h;exact⟨trivial,Za _⟩
  |cons d r=>cases h
 |fd::fs,ds,l,h=>by
  cases ds with
  |nil=>cases h
  |cons d r=>
   simp only[Xe] at h;split at h
   ·cases h
   ·rename_i p hp;split at h
    ·rename_i l' hl;cases h;obtain⟨h1,h2⟩:=hf fd.type d p hp;obtain⟨h3,h4⟩:=GI hb hf fs r l' hl;exact⟨⟨rfl,h1,h3⟩,by rw[hb.cons];grind [PV.szc]⟩
    grind
theorem GJ{bulk:DataW H->Nat}{all:List (DataW H)->Nat}(hb:BulkLaws2 bulk all):∀(n:Nat) (t:TypeId) (d:DataW H) (p:PV),yf P n t d=some p->wt P n t p/\p.sz<=bulk d
 |0,t,d,p,h=>by cases h
 |n+1,t,d,p,h=>by
  have ih:=fun t d p=>GJ hb n t d p;have one:=hb.one d;unfold yf at h;unfold wt;cases hu:P.underlying t with
  |none=>grind
  |some u=>
   rw[hu] at h;cases u with
   |bool=>
    cases d with
    |lit l=>cases l <;> first|(cases h;done)|(cases h;exact⟨⟨_,rfl⟩,one⟩)
    |_=>cases h
   |int k=>
    cases d with
    |lit l=>
     cases l with
     |int k' x=>
      simp only at h;split at h
      ·rename_i hw;cases h;obtain⟨e,hw⟩:=hw;subst e;exact⟨⟨x,rfl,hw⟩,one⟩
      grind
     |_=>cases h
    |_=>cases h
   |string=>
    cases d with
    |lit l=>
     cases l with
     |string s=>cases h;exact⟨⟨_,rfl⟩,by rw[hb.string];exact Zc _⟩
     |_=>cases h
    |_=>cases h
   |slice e=>
    cases d with
    |nil=>cases h;exact⟨⟨[],rfl,fun x hx=>(by cases hx)⟩,one⟩
    |slice es sp=>
     simp only at h;split at h
     ·split at h
      ·rename_i l hl;cases h;obtain⟨h1,h2⟩:=GH hb (ih e) es l hl;exact⟨⟨l,rfl,h1⟩,by rw[hb.slice];grind [PV.sz]⟩
      grind
     grind
    |lit l=>grind
    |_=>cases h
   |struct fs=>
    cases d with
    |agg parts=>
     simp only at h;split at h
     ·split at h
      ·rename_i l hl;cases h;obtain⟨h1,h2⟩:=GI hb ih fs.toList parts l hl;exact⟨⟨l,rfl,h1⟩,by rw[hb.agg];grind [PV.sz]⟩
      grind
     grind
    |lit l=>grind
    |_=>cases h
   |_=>cases d <;> first|(cases h;done)|(rename_i l;cases l <;> cases h)

theorem GL{n:Nat}{tT:TypeId}(hT:∀p,wt P n tT p->∃t:Tm,p=t.pv/\t.rng):∀(es:List PV),(∀x∈es,wt P n tT x)->∃l:List Tm,es=Tm.pvs l/\Tm.rngs l
 |[],_=>⟨[],rfl,trivial⟩
 |x::r,h=>by
  obtain⟨t,rfl,h1⟩:=hT x (h x (by simp));obtain⟨l,rfl,h2⟩:=GL hT r fun y hy=>h y (by grind);exact⟨t::l,rfl,h1,h2⟩
theorem Vn{tA tT:TypeId}(hT:TermTy P tA tT):∀(n:Nat),(∀p,wt P n tT p->∃t:Tm,p=t.pv/\t.rng)/\(∀p,wt P n tA p->∃l:List Tm,p=.sl (some 4) (Tm.pvs l)/\Tm.rngs l)
 |0=>⟨fun p h=>h.elim,fun p h=>h.elim⟩
 |n+1=>by
  obtain⟨ih1,ih2⟩:=Vn hT n;obtain⟨hA,fs,tI,tL,tS,hS,hf,hI,hL,hSt,s1,s2,s3,s4,s5⟩:=hT;constructor
  ·intro p h;unfold wt at h;rw[hS] at h;obtain⟨l,rfl,h⟩:=h;obtain⟨f1,f2,f3,f4,hfs⟩:∃f1 f2 f3 f4:Field,fs.toList=[f1,f2,f3,f4]:=by
    match hx:fs.toList,hf with
    |[a,b,c,d],_=>grind
   rw[hfs] at hf h;simp only[ZV,List.map_nil,List.cons.injEq,and_true] at hf;obtain⟨e1,e2,e3,e4⟩:=hf
   match l,h with
   |[x1,x2,x3,x4],h=>
    simp only[Jf,e1,e2,e3,e4,s2,s3,s4,s5,and_true] at h;obtain⟨a1,b1,a2,b2,a3,b3,a4,b4⟩:=h;have i64:∀(ty:TypeId) (p:PV),P.underlying ty=some (.int .i64)->wt P n ty p->∃x,p=.int .i64 x/\QM x:=by
     intro ty p hty hp;cases n with
     |zero=>exact hp.elim
     |succ n=>
      grind [wt,Vm]
    obtain⟨y1,e1',g1⟩:=i64 tI x1.2 hI b1;obtain⟨y2,e2',g2⟩:=i64 tL x2.2 hL b2;obtain⟨s,e3'⟩:∃s,x3.2=.str s:=by
     cases n with
     |zero=>exact b3.elim
     |succ n=>
      grind [wt]
    obtain⟨ts,e4',k⟩:=ih2 x4.2 b4;refine⟨.mk y1 y2 s ts,?_,g1,g2,k⟩;obtain⟨_,_⟩:=x1;obtain⟨_,_⟩:=x2;obtain⟨_,_⟩:=x3;obtain⟨_,_⟩:=x4;simp only at a1 a2 a3 a4 e1' e2' e3' e4';subst a1 a2 a3 a4 e1' e2' e3' e4';rfl
  ·intro p h;unfold wt at h;rw[hA] at h;obtain⟨es,rfl,h⟩:=h;obtain⟨l,rfl,h1⟩:=GL ih1 es h
   grind
mutual
theorem Tm.zA5:∀t:Tm,t.size<=t.pv.sz
 | .mk k n s azs=>by
  have:=Tm.zA3 azs;simp only[Tm.size,Tm.pv,PV.sz,PV.szc];omega
theorem Tm.zA3:∀l:List Tm,Tm.sizes l<=PV.szs (Tm.pvs l)
 |[]=>Za _
 |t::r=>by
  have h1:=Tm.zA5 t;have h2:=Tm.zA3 r;simp only[Tm.sizes,Tm.pvs,PV.szs];omega
end
end Go.Am

/- Flat clauses azs plain data. -/
namespace Go.Am
structure Pr where
 name:List UInt8
 arity:Int
 aux:Int
structure Gl where
 kind:Int
 pred:Pr
 args:List Tm
 var:Int
structure Fl where
 pred:Pr
 args:List Tm
 goals:List Gl
def Pr.pv(p:Pr):PV:=.agg [(none,.str p.name),(none,.int .i64 p.arity),(none,.int .i64 p.aux)]
def Gl.pv(g:Gl):PV:=.agg [(none,.int .i64 g.kind),(some 3,g.pred.pv),(none,.sl (some 4) (Tm.pvs g.args)),(none,.int .i64 g.var)]
def Gl.pvs(l:List Gl):List PV:=l.map Gl.pv
def Fl.pv(f:Fl):PV:=.agg [(some 3,f.pred.pv),(none,.sl (some 4) (Tm.pvs f.args)),(none,.sl (some 6) (Gl.pvs f.goals))]
def Fl.av(f:Fl):AV:=.pv (some 5) f.pv
def Pr.ok(p:Pr):Bool:=
 if p.aux=0 then decide ((p.name.length:Int)<=100) && decide (0<=p.arity) && decide (p.arity<=8)
 else decide (p.name=[]) && decide (1<=p.aux) && decide (p.aux<=1099511627776) && decide (0<=p.arity) && decide (p.arity<=4096)
def Pr.zero(p:Pr):Bool:=decide (p.name=[]) && decide (p.arity=0) && decide (p.aux=0)
def Vo(left:Int):List Tm->Bool × Int
 |[]=>(true,left)
 |t::r=>if t.valid=true then if left - t.size<0 then(false,left - t.size) else Vo (left - t.size) r else(false,left)
def Gl.bare(g:Gl):Bool:=g.pred.zero && decide ((g.args.length:Int)=0)
def Gl.step(called:Bool)(left:Int)(g:Gl):Option (Bool × Int):=
 if g.kind=1 then
  if(g.pred.ok && decide ((g.args.length:Int)=g.pred.arity) && decide (g.var=0))=true then match Vo left g.args with
   |(true,l)=>some (true,l)
   |_=>none
  else none
 else if g.kind=2 then if(g.bare && decide (0<=g.var) && decide (g.var<=1099511627776) && !called)=true then some (called,left) else none
 else if g.kind=3\/g.kind=4 then if(g.bare && decide (0<=g.var) && decide (g.var<=1099511627776))=true then some (called,left) else none
 else if g.kind=5 then if(g.bare && decide (g.var=0))=true then some (called,left) else none
 else none
def Gl.steps:Bool->Int->List Gl->Bool
 |_,_,[]=>true
 |called,left,g::r=>match g.step called left with
  |some (c,l)=>Gl.steps c l r
  |none=>false
def Fl.valid(f:Fl):Bool:=
 f.pred.ok && decide ((f.args.length:Int)=f.pred.arity) && match Vo 131072 f.args with
  |(true,l)=>Gl.steps false l f.goals
  |_=>false

theorem valid_size{t:Tm}(h:t.valid=true):t.size<=2000:=by
 grind [Tm.valid]
end Go.Am
namespace Go.Am
theorem z6(r o:Nat):xi [.ptr r o]=some (.ptr r o):=rfl
end Go.Am
namespace Go.Am
end Go.Am
namespace Go.Am
theorem Gl.pvs_len(l:List Gl):(Gl.pvs l).length=l.length:=by simp[Gl.pvs]
theorem Gl.pvs_get{l:List Gl}{i:Nat}{g:Gl}(h:l[i]? =some g):(Gl.pvs l)[i]? =some g.pv:=by simp[Gl.pvs,h]
end Go.Am
namespace Go.Am
end Go.Am
namespace Go.Am
end Go.Am
namespace Go.Am
mutual
def Tm.occ:Tm->List Int
 | .mk k n _ azs=>if k=0 then[n] else Tm.occs azs
def Tm.occs:List Tm->List Int
 |[]=>[]
 |t::r=>t.occ++Tm.occs r
end
theorem Tm.zAJ(t:Tm):t.occ=if t.kind=0 then[t.n] else Tm.occs t.args:=by cases t;rfl
theorem Tm.zA0(x y:List Tm):Tm.occs (x++y)=Tm.occs x++Tm.occs y:=by
 induction x with
 |nil=>simp[Tm.occs]
 |cons t r ih=>grind [Tm.occs]
theorem Tm.zAS{l:List Tm}{i:Nat}{t:Tm}(h:l[i]? =some t):Tm.occs (l.take (i+1))=Tm.occs (l.take i)++t.occ:=by
 grind [List.take_succ_eq_append_getElem,Tm.zA0,Tm.occs]
theorem Tm.occ_len:∀t:Tm,t.occ.length<=t.size:=by
 intro t
 induction t using Tm.zAH with
 |h t ih=>
  rw[Tm.zAJ,Tm.size_eq];split
  ·simp
  ·have key:∀l:List Tm,(∀u∈l,u.occ.length<=u.size)->(Tm.occs l).length<=Tm.sizes l:=by
    intro l
    induction l with
    |nil=>grind [Tm.occs]
    |cons u r ih2=>
     grind [Tm.occs,Tm.sizes]
   grind
end Go.Am
namespace Go.Am
def Gl.op(g:Gl):Bool:=decide (g.kind=2) || decide (g.kind=3) || decide (g.kind=4)
def Gl.next(calls:Int)(g:Gl):Int:=if g.kind=1 then calls+1 else calls
theorem Tm.zAZ(l:List Tm):(Tm.occs l).length<=Tm.sizes l:=by
 induction l with
 |nil=>simp[Tm.occs]
 |cons x y ih=>have:=x.occ_len;grind [Tm.occs,Tm.sizes]
end Go.Am

/- Structs and lists out of data. -/
namespace Go.Am
variable{P:Program}
def GM(P:Program)(t:TypeId):Option (List TypeId):=
 match P.underlying t with
 |some (.struct fs)=>some (fs.toList.map (·.type))
 |_=>none
def GN(P:Program)(t:TypeId):Bool:=match P.underlying t with|some (.int .i64)=>true|_=>false
def GO(P:Program)(t:TypeId):Bool:=match P.underlying t with|some .string=>true|_=>false
def GP(P:Program)(t:TypeId):Bool:=match P.underlying t with|some .bool=>true|_=>false
def isSl(P:Program)(t e:TypeId):Bool:=match P.underlying t with|some (.slice x)=>x == e|_=>false
def qe(P:Program)(m:Nat):List TypeId->List (Sh × PV)->Prop
 |[],[]=>True
 |t::ts,x::l=>x.1=shOf P t/\wt P m t x.2/\qe P m ts l
 |_,_=>False
theorem GQ{m:Nat}:∀(fs:List Field) (l:List (Sh × PV)),Jf P (wt P m) fs l->qe P m (fs.map (·.type)) l
 |[],[],_=>trivial
 |[],_::_,h=>h.elim
 |_::_,[],h=>h.elim
 |fd::r,x::l,h=>⟨h.1,h.2.1,GQ r l h.2.2⟩
theorem jE{n:Nat}{t:TypeId}{p:PV}{ts:List TypeId}(h:GM P t=some ts)(hw:wt P n t p):∃m l,p=.agg l/\qe P m ts l:=by
 cases n with
 |zero=>exact hw.elim
 |succ n=>
  unfold wt at hw;unfold GM at h;split at h
  ·rename_i fs hfs;rw[hfs] at hw;obtain⟨l,rfl,hl⟩:=hw;cases h;exact⟨n,l,rfl,GQ _ _ hl⟩
  grind
theorem jF{m:Nat}{l:List (Sh × PV)}(h:qe P m [] l):l=[]:=by
 cases l with
 |nil=>rfl
 |cons x l=>exact h.elim
theorem X8{m:Nat}{t:TypeId}{ts:List TypeId}{l:List (Sh × PV)}(h:qe P m (t::ts) l):∃q r,l=(shOf P t,q)::r/\wt P m t q/\qe P m ts r:=by
 cases l with
 |nil=>exact h.elim
 |cons x l=>obtain⟨h1,h2,h3⟩:=h;grind
theorem Vp{n:Nat}{t:TypeId}{p:PV}(h:GN P t=true)(hw:wt P n t p):∃x,p=.int .i64 x/\QM x:=by
 cases n with
 |zero=>exact hw.elim
 |succ n=>
  grind [wt,GN,Vm]
theorem mt{n:Nat}{t:TypeId}{p:PV}(h:GO P t=true)(hw:wt P n t p):∃x,p=.str x:=by
 cases n with
 |zero=>exact hw.elim
 |succ n=>
  grind [wt,GO]
theorem mw{n:Nat}{t:TypeId}{p:PV}(h:GP P t=true)(hw:wt P n t p):∃x,p=.bool x:=by
 cases n with
 |zero=>exact hw.elim
 |succ n=>
  grind [wt,GP]
theorem GR{n:Nat}{t e:TypeId}{p:PV}(h:isSl P t e=true)(hw:wt P n t p):∃m es,p=.sl (shOf P e) es/\∀x∈es,wt P m e x:=by
 cases n with
 |zero=>exact hw.elim
 |succ n=>
  unfold wt at hw;unfold isSl at h;split at h
  ·rename_i hu;rw[hu] at hw;rw[beq_iff_eq] at h;subst h;obtain⟨es,h1,h2⟩:=hw;exact⟨n,es,h1,h2⟩
  grind
theorem Vq{α:Type}{f:α->PV}{Q:α->Prop}:∀(es:List PV),(∀x∈es,∃a,x=f a/\Q a)->∃l:List α,es=l.map f/\∀a∈l,Q a
 |[],_=>⟨[],rfl,fun x hx=>(by cases hx)⟩
 |x::r,h=>by
  obtain⟨y,rfl,hy⟩:=h x (by simp);obtain⟨l,rfl,hl⟩:=Vq r fun z hz=>h z (by grind);refine⟨y::l,rfl,fun z hz=> ?_⟩
  grind
end Go.Am

/- The standard order of terms is an order. -/
namespace Go.Am
open Lib (compareBytes)
theorem cmpI_lt{x y:Int}:cmpI x y<0↔x<y:=by
 grind [cmpI]
theorem GS{x y:Int}:yZ x y=0↔x=0/\y=0:=by
 grind [yZ]
theorem cb_zero:∀{a b:List UInt8},compareBytes a b=0↔a=b
 |[],[]=>by simp[compareBytes]
 |[],_::_=>by simp[compareBytes]
 |_::_,[]=>by simp[compareBytes]
 |x::a,y::b=>by
  simp only[compareBytes,List.cons.injEq];split
  ·grind
  ·split
   ·grind
   ·rename_i h1 h2;have:x=y:=by
     grind
    simp[this,cb_zero]
theorem Tm.ext{a b:Tm}(h1:a.kind=b.kind)(h2:a.n=b.n)(h3:a.name=b.name)(h4:a.args=b.args):a=b:=by
 cases a;cases b;grind [Tm.kind,Tm.n,Tm.name,Tm.args]
theorem Tm.zAQ:∀{a b:Tm},a.cmp b=0↔a=b:=by
 intro a
 induction a using Tm.zAH with
 |h a ih=>
  intro b;have lists:∀(l r:List Tm),(∀t∈l,∀{b:Tm},t.cmp b=0↔t=b)->l.length=r.length->(Tm.cmps l r=0↔l=r):=by
   intro l
   induction l with
   |nil=>grind [Tm.cmps]
   |cons x l ihl=>
    intro r hx hl;cases r with
    |nil=>grind
    |cons y r=>
     grind [Tm.cmps,GS]
  grind [Tm.zBa,GS,GA,cb_zero,Tm.ext]
end Go.Am

/- Heaps of which a part is known. -/
namespace Go.Am
theorem getN{l xs:Heap}{n:Nat}(h:l.length=n)(k:Nat):(l++xs)[n+k]? =xs[k]? :=by
 grind
theorem Ye{l xs:Heap}{n:Nat}(h:l.length=n):(l++xs)[n]? =xs[0]? :=getN h 0
theorem setN{l xs:Heap}{n:Nat}(h:l.length=n)(k:Nat)(x:AObj):(l++xs).set (n+k) x=l++xs.set k x:=by
 grind
theorem Yl{l xs:Heap}{n:Nat}(h:l.length=n)(x:AObj):(l++xs).set n x=l++xs.set 0 x:=setN h 0 x
theorem Jg{l xs:Heap}{n:Nat}(h:l.length=n)(k:Nat):(l++xs).take (n+k)=l++xs.take k:=by
 grind
theorem ym{n b:Nat}(k:Nat){fr:Fr}{base xs:Heap}(hb:base.length=b)(hn:n=b+k)(ho:(xs.take k).all (fun o=>o.refs.all (fun q=>decide (q<n)))=true)(hf:fr.all (fun x=>x.2.refsIn.all (fun q=>decide (q<n)))=true):collect n b fr (base++xs)=base++xs.take k:=by
 grind [collect]
theorem GT{n b:Nat}{fr:Fr}{hp:Heap}(h:hp.length=n):collect n b fr hp=hp:=QL h
theorem my{sh:Sh}{hp:Heap}{r:Nat}{v:AV}(h:hp[r]? =some (.box sh v)):aload sh hp (.ptr r 0)=some v:=by
 simp[aload,h]
variable{F:FuncId->Option AFn} {prim:FuncId->Option Ya}
theorem Yp{α:Type}(N:Nat)(inv:Nat->α->Prop)(sti:Nat->α->St){b:Nat}{keep:List Nat}{c:ACode}{st:St}{Q:AExit->St->Prop}(a0:α)(h0:inv 0 a0/\(⟨st.fr.keep keep,st.hp⟩:St)=sti 0 a0)
  (h1:∀i a,i<N->inv i a->W (sem F prim) (sloop F prim) b c (sti i a) (seqK (fun st'=>∃a',inv (i+1) a'/\(⟨st'.fr.keep keep,collect st.hp.length b (st'.fr.keep keep) st'.hp⟩:St)=sti (i+1) a') Q))
  (h2:∀a,inv N a->W (sem F prim) (sloop F prim) b c (sti N a) (seqK (fun _=>False) Q)):W (sem F prim) (sloop F prim) b (.loop keep c) st Q:=by
 refine XH (fun n s=>∃i a,n=N - i/\i<=N/\inv i a/\s=sti i a) (n:=N) ⟨0,a0,rfl,Za _,h0.1,h0.2⟩ ?_;rintro n s ⟨i,a,hn,hi,hinv,rfl⟩;by_cases h:i<N
 ·refine Gs (h1 i a h hinv) fun e st' he=> ?_;cases e with
  |normal=>
   obtain⟨a',k1,k2⟩:=he
   grind
  |exit j=>exact he
  |ret=>exact he
  |panic v=>exact he
 ·obtain rfl:i=N:=by omega
  refine Gs (h2 a hinv) fun e st' he=> ?_;cases e with
  |normal=>exact he.elim
  |exit j=>exact he
  |ret=>exact he
  |panic v=>exact he
theorem Vr{str ok:Bool}{sh:Sh}{zero:AV}{hp:Heap}{r:Nat}{s:Sh}{k v:PV}{es:List (PV × PV)}(ho:hp[r]? =some (.map sh es))(hf:afind str k es=some (some v)):YF str sh zero ok hp [.map r,.pv s k]=some (bif ok then .tuple [.pv sh v,.pv none (.bool true)] else .pv sh v):=by
 grind [YF]
theorem Vs{str ok:Bool}{sh:Sh}{zero:AV}{hp:Heap}{r:Nat}{s:Sh}{k:PV}{es:List (PV × PV)}(ho:hp[r]? =some (.map sh es))(hf:afind str k es=some none):YF str sh zero ok hp [.map r,.pv s k]=some (bif ok then .tuple [zero,.pv none (.bool false)] else zero):=by
 grind [YF]
theorem qf{str:Bool}{sh:Sh}{hp:Heap}{r:Nat}{s:Sh}{k p:PV}{es es':List (PV × PV)}(ho:hp[r]? =some (.map sh es))(hf:aput str k p es=some es'):yR str sh hp [.map r,.pv s k,.pv sh p]=some (.undef,hp.set r (.map sh es')):=by
 grind [AV.freeze,deep,yR,AV.shp]
theorem mz{b r:Nat}{s s':Sh}{hp:Heap}{q v o n v' o' n':Nat}(h:r<b)(ho:hp[r]? =some (.box none (.sl s q v o n))):zH none b hp [.ptr r 0,.sl s' q v' o' n']=some (.undef,hp.set r (.box none (.sl s' q v' o' n'))):=by
 grind [zH,astore,AV.plain,AV.shp,AV.refsIn]
end Go.Am

/- Sorting: insertion, merging, and that both come to the same. -/
namespace Go.Am
section
variable{α:Type} (c:α->α->Int)
def mrg:List α->List α->List α
 |[],B=>B
 |a::A,B=>go a A (mrg A) B
where
 go (a:α) (A:List α) (rest:List α->List α):List α->List α
 |[]=>a::A
 |b::B=>if c b a<0 then b::go a A rest B else a::rest (b::B)
theorem GU:∀A:List α,mrg c A []=A
 |[]=>rfl
 |_::_=>rfl
theorem GV(a:α)(A:List α)(b:α)(B:List α):mrg c (a::A) (b::B)=if c b a<0 then b::mrg c (a::A) B else a::mrg c A (b::B):=rfl
def Srt(l:List α):Prop:=l.Pairwise fun x y=>c x y<=0

variable{c}
theorem Srt.tail{a:α}{l:List α}(h:Srt c (a::l)):Srt c l:=(zp.1 h).2
theorem Srt.head{a:α}{l:List α}(h:Srt c (a::l)):∀x∈l,c a x<=0:=(zp.1 h).1
theorem GW:∀(A B:List α),(mrg c A B).Perm (A++B)
 |[],B=>by simp[mrg]
 |a::A,B=>by
  induction B with
  |nil=>simp[GU]
  |cons b B ih=>
   rw[GV];split
   ·exact(List.Perm.cons b ih).trans (List.perm_middle (l₁:=a::A) (l₂:=B) (a:=b)).symm
   ·exact List.Perm.cons a (GW A (b::B))
def insC(c:α->α->Int)(t:α):List α->List α
 |[]=>[t]
 |x::l=>if c t x<0 then t::x::l else x::insC c t l
def isort(c:α->α->Int)(l:List α):List α:=l.foldl (fun s t=>insC c t s) []
theorem GX(t:α):∀l:List α,insC c t l=mrg c l [t]
 |[]=>rfl
 |x::l=>by
  rw[GV,insC];split
  ·rw[GU]
  ·rw[GX t l]
theorem mA(l:List α):(isort c l).Perm l:=by
 have:∀(l A:List α),(l.foldl (fun s t=>insC c t s) A).Perm (A++l):=by
  intro l
  induction l with
  |nil=>simp_all
  |cons t l ih=>
   intro A;refine(ih _).trans ?_;show(insC c t A++l).Perm _;rw[GX];refine((GW A [t]).append_right l).trans ?_;simp
 grind [isort]
theorem Vt(l:List α):(isort c l).length=l.length:=(mA l).length_eq
end
end Go.Am
namespace Go.Am
end Go.Am
namespace Go.Am
section
variable{α:Type} {c:α->α->Int}
inductive Blk(c:α->α->Int)(n:Nat):List α->List α->Prop
 |last (x:List α) (h:x.length<=n):Blk c n x (isort c x)
 |cons (x r d:List α) (h:x.length=n) (k:Blk c n r d):Blk c n (x++r) (isort c x++d)
inductive Full(c:α->α->Int)(n:Nat):List α->List α->Prop
 |nil:Full c n [] []
 |snoc (x r d:List α) (h:x.length=n) (k:Full c n r d):Full c n (r++x) (d++isort c x)
theorem Full.blk{n:Nat}{r d r' d':List α}(h:Full c n r d)(k:Blk c n r' d'):Blk c n (r++r') (d++d'):=by
 induction h generalizing r' d' with
 |nil=>exact k
 |snoc x r d hx _ ih=>
  have:=ih (.cons x r' d' hx k)
  grind
theorem Full.length{n:Nat}{r d:List α}(h:Full c n r d):d.length=r.length:=by
 induction h with
 |nil=>rfl
 |snoc x r d hx _ ih=>grind [Vt]
theorem Blk.length{n:Nat}{r d:List α}(h:Blk c n r d):d.length=r.length:=by
 induction h with
 |last x h=>exact Vt x
 |cons x r d hx _ ih=>grind [Vt]
theorem Blk.whole{n:Nat}{r d:List α}(h:Blk c n r d)(hr:r.length<=n):d=isort c r:=by
 cases h with
 |last x h=>rfl
 |cons x r d hx k=>
  have:r=[]:=List.length_eq_zero_iff.1 (by grind);subst this;have hd:d=[]:=List.length_eq_zero_iff.1 (by rw[k.length];rfl)
  grind
theorem Blk.two{n:Nat}{r d:List α}(h:Blk c n r d)(hn:0<n)(hr:n<r.length):∃x y r2 d2,r=x++y++r2/\d=isort c x++isort c y++d2/\x.length=n/\y.length<=n/\0<y.length/\Blk c n r2 d2/\(y.length<n->r2=[]):=by
 cases h with
 |last x h=>omega
 |cons x r1 d1 hx k=>
  cases k with
  |last _ hy=>exact⟨x,r1,[],[],by simp,by simp,hx,hy,by grind,.last [] (by simp),fun _=>rfl⟩
  |cons y r2 d2 hy k=>grind
end
end Go.Am

/- Terms out of values, and comparing by what they stand for. -/
namespace Go.Am
theorem Tm.zBi:∀{a b:Tm},a.pv=b.pv->a=b:=by
 intro a
 induction a using Tm.zAH with
 |h a ih=>
  intro b hab;have lists:∀(l r:List Tm),(∀t∈l,∀{b:Tm},t.pv=b.pv->t=b)->Tm.pvs l=Tm.pvs r->l=r:=by
   intro l
   induction l with
   |nil=>intro r _ h;cases r with
    |nil=>rfl
    |cons y r=>grind [Tm.pvs]
   |cons x l ihl=>
    intro r hx h;cases r with
    |nil=>grind [Tm.pvs]
    |cons y r=>
     grind [Tm.pvs]
  rw[Tm.zBh,Tm.zBh] at hab;simp only[PV.agg.injEq,List.cons.injEq,Prod.mk.injEq,PV.int.injEq,PV.str.injEq,PV.sl.injEq,true_and,and_true] at hab
  grind [Tm.ext]
open Classical in
noncomputable def tmOf(p:PV):Tm:=if h:∃t:Tm,p=t.pv then h.choose else .mk 0 0 [] []
theorem mB(t:Tm):tmOf t.pv=t:=by
 have h:∃u:Tm,t.pv=u.pv:=⟨t,rfl⟩
 grind [tmOf,Tm.zBi]
noncomputable def onPV(c:Tm->Tm->Int)(p q:PV):Int:=c (tmOf p) (tmOf q)
theorem insC_pvs(c:Tm->Tm->Int)(t:Tm):∀l:List Tm,insC (onPV c) t.pv (Tm.pvs l)=Tm.pvs (insC c t l)
 |[]=>rfl
 |x::l=>by
  simp only[Tm.pvs,insC,onPV,mB];split
  ·rfl
  ·simp only[Tm.pvs];rw[insC_pvs c t l]
end Go.Am

/- Runs with facts: what is known of calls of values alone is looked up. -/
namespace Go.Am
mutual
def PV.eqB:Nat->PV->PV->Bool
 |0,_,_=>false
 |_+1,.bool a,.bool b=>a == b
 |_+1,.int k n,.int k' n'=>decide (k=k') && decide (n=n')
 |_+1,.str s,.str s'=>decide (s.map UInt8.toNat=s'.map UInt8.toNat)
 |d+1,.agg l,.agg l'=>PV.eqA d l l'
 |d+1,.sl sh es,.sl sh' es'=>decide (sh=sh') && PV.eqL d es es'
 |_+1,_,_=>false
termination_by structural d _ _=>d
def PV.eqA:Nat->List (Sh × PV)->List (Sh × PV)->Bool
 |0,_,_=>false
 |_+1,[],[]=>true
 |d+1,(s,a)::r,(s',b)::r'=>decide (s=s') && (PV.eqB d a b && PV.eqA d r r')
 |_+1,_,_=>false
termination_by structural d _ _=>d
def PV.eqL:Nat->List PV->List PV->Bool
 |0,_,_=>false
 |_+1,[],[]=>true
 |d+1,a::r,b::r'=>PV.eqB d a b && PV.eqL d r r'
 |_+1,_,_=>false
termination_by structural d _ _=>d
end
theorem GY:∀{a b:List UInt8},a.map UInt8.toNat=b.map UInt8.toNat->a=b
 |[],[],_=>rfl
 |[],_::_,h=>by grind
 |_::_,[],h=>by grind
 |x::r,y::t,h=>by
  simp only[ZV,List.cons.injEq] at h;rw[UInt8.toNat.inj h.1,GY h.2]
theorem GZ:∀d,(∀a b,PV.eqB d a b=true->a=b)/\(∀a b,PV.eqA d a b=true->a=b)/\(∀a b,PV.eqL d a b=true->a=b)
 |0=>⟨fun _ _ h=>Bool.noConfusion (show false=true from h),fun _ _ h=>Bool.noConfusion (show false=true from h),fun _ _ h=>Bool.noConfusion (show false=true from h)⟩
 |d+1=>by
  obtain⟨h1,h2,h3⟩:=GZ d;refine⟨fun a b h=> ?_,fun a b h=> ?_,fun a b h=> ?_⟩
  ·cases a <;> cases b <;> try (exact Bool.noConfusion (show false=true from h))
   ·rw[eq_of_beq h]
   ·rename_i k n k' n';have h:(decide (k=k') && decide (n=n'))=true:=h
    grind
   ·rw[GY (zj h)]
   ·rw[h2 _ _ h]
   ·rename_i sh es sh' es';have h:(decide (sh=sh') && PV.eqL d es es')=true:=h
    grind
  ·cases a with
   |nil=>cases b with
    |nil=>rfl
    |cons=>exact Bool.noConfusion (show false=true from h)
   |cons x r=>cases b with
    |nil=>exact Bool.noConfusion (show false=true from h)
    |cons y t=>
     grind [PV.eqA]
  ·cases a with
   |nil=>cases b with
    |nil=>rfl
    |cons=>exact Bool.noConfusion (show false=true from h)
   |cons x r=>cases b with
    |nil=>exact Bool.noConfusion (show false=true from h)
    |cons y t=>
     grind [PV.eqL]
abbrev Facts:=List (FuncId × List (Sh × PV) × AV)
def Jh:Facts->FuncId->List (Sh × PV)->Option AV
 |[],_,_=>none
 |(g,qs,v)::r,f,ps=>bif Nat.beq g f then(bif PV.eqA 60 qs ps then some v else Jh r f ps) else Jh r f ps
def hasF:Facts->FuncId->Bool
 |[],_=>false
 |(g,_,_)::r,f=>bif Nat.beq g f then true else hasF r f
def Vu(K:Facts)(f:FuncId)(args:List AV)(hp:Heap):Option (ARes × Heap):=
 match zZ args hp with
 |none=>none
 |some (ps,hp1)=>match Jh K f ps with
  |some v=>some (.ret v,bif v.scalar then hp else hp1)
  |none=>none
def y3(K:Facts)(F:FuncId->Option AFn)(prim:FuncId->Option Ya):Nat->Oracle
 |0=>fun _ _ _ _=>none
 |n+1=>fun k f args hp=>match k with
  | .fn=>bif hasF K f then(match Vu K f args hp with
    |some r=>some r
    |none=>acall F prim (y3 K F prim n) (aloop (y3 K F prim n) n) .fn f args hp)
   else acall F prim (y3 K F prim n) (aloop (y3 K F prim n) n) .fn f args hp
  |k=>acall F prim (y3 K F prim n) (aloop (y3 K F prim n) n) k f args hp
variable{F:FuncId->Option AFn} {prim:FuncId->Option Ya}
theorem freezeAll_pvs':∀(ps:List (Sh × PV)) {hp:Heap},zZ (pvs ps) hp=some (ps,hp)
 |[],_=>rfl
 |(sh,p)::r,hp=>by
  have h:AV.freeze deep (.pv sh p) hp=some (p,hp):=rfl;show zZ (.pv sh p::pvs r) hp=_;simp only[zZ,h,freezeAll_pvs' r,AV.shp]
def Vv(F:FuncId->Option AFn)(prim:FuncId->Option Ya)(f:FuncId):Bool:=
 match prim f,F f with
 |none,some fn=> !fn.heapMode
 |_,_=>false
def resV:Option (ARes × Heap)->Option AV
 |some (.ret v,_)=>some v
 |_=>none
inductive FactsOk(F:FuncId->Option AFn)(prim:FuncId->Option Ya):Facts->Prop
 |nil:FactsOk F prim []
 |cons {f:FuncId} {qs:List (Sh × PV)} {v:AV} {K:Facts} (hp:Vv F prim f=true) (h:resV (sem F prim .fn f (pvs qs) [])=some v) (k:FactsOk F prim K):FactsOk F prim ((f,qs,v)::K)
theorem Vw{f:FuncId}{ps:List (Sh × PV)}{v:AV}:∀{K:Facts},FactsOk F prim K->Jh K f ps=some v->Vv F prim f=true/\resV (sem F prim .fn f (pvs ps) [])=some v
 |_,.nil,h=>by cases h
 |_,.cons (f:=g) (qs:=qs) hp h1 k,h=>by
  unfold Jh at h;cases hg:Nat.beq g f with
  |false=>rw[hg] at h;exact Vw k h
  |true=>
   rw[hg] at h;have hgf:g=f:=ZM hg;cases he:PV.eqA 60 qs ps with
   |false=>rw[he] at h;exact Vw k h
   |true=>
    rw[he] at h;cases h;rw[<-(GZ 60).2.1 _ _ he,<-hgf]
    grind
theorem mC{K:Facts}(hK:FactsOk F prim K){f:FuncId}{args:List AV}{hp:Heap}{r:ARes × Heap}(h:Vu K f args hp=some r):sem F prim .fn f args hp=some r:=by
 unfold Vu at h;split at h
 ·cases h
 ·rename_i ps hp1 hz;split at h
  ·rename_i v hv;cases h;obtain⟨h1,h2⟩:=Vw hK hv;unfold Vv at h1;split at h1
   ·rename_i fn hpr hF;rw[X3] at h2 ⊢;unfold YY at h2 ⊢;rw[hpr,hF] at h2 ⊢;have hm:fn.heapMode=false:=by grind
    simp only[hm,ZJ,if_false,hz,freezeAll_pvs'] at h2 ⊢;split at h2
    ·cases h2
    ·rename_i hrc;rw[Zb hrc];cases hb:abody (sem F prim) (sloop F prim) fn (pvs ps) [] with
     |none=>rw[hb] at h2;cases h2
     |some q=>
      obtain⟨q,hp2⟩:=q;rw[hb] at h2;cases q with
      |panic v'=>cases h2
      |ret v'=>
       simp only at h2 ⊢;cases hf:v'.freezeRes hp2 with
       |none=>rw[hf] at h2;cases h2
       |some x=>
        rw[hf] at h2;cases h2;rfl
   grind
  grind
theorem jG:∀n,LLe (aloop (sem F prim) n) (sloop F prim)
 |0=>fun _ _ _ _ _ _ h=>by cases h
 |n+1=>fun b m keep c st r h=>by
  simp only[aloop] at h;rw[u9];split at h
  ·rename_i ho;rw[yC (OLe.refl _) (jG n) ho];exact jG n _ _ _ _ _ _ h
  ·rename_i hn;rw[yC (OLe.refl _) (jG n) h]
   grind
theorem Ji{K:Facts}(hK:FactsOk F prim K):∀n,OLe (y3 K F prim n) (sem F prim)
 |0=>fun _ _ _ _ _ h=>by cases h
 |n+1=>fun k f args hp r h=>by
  have key:acall F prim (y3 K F prim n) (aloop (y3 K F prim n) n) k f args hp=some r->sem F prim k f args hp=some r:=fun h=>by
   rw[Vc];exact k8 (Ji hK n) ((Xn (Ji hK n) (Zc n)).trans (jG n)) _ _ _ _ _ h
  grind [y3,mC]
theorem X9{K:Facts}(hK:FactsOk F prim K){n:Nat}{f:FuncId}{qs:List (Sh × PV)}{v:AV}(h:resV (y3 K F prim n .fn f (pvs qs) [])=some v):resV (sem F prim .fn f (pvs qs) [])=some v:=by
 cases hr:y3 K F prim n .fn f (pvs qs) [] with
 |none=>rw[hr] at h;cases h
 |some r=>
  rw[Ji hK n _ _ _ _ _ hr]
  grind
end Go.Am
