/- What is proved: the abstract machine says true of the model (part 5). No conditions beside those that each theorem names. -/
import Derived.Test.YteaehiceghhajaaAm4
import Derived.WalkKit
set_option linter.unusedSimpArgs false
set_option linter.unusedVariables false
/- What code comes to: values; calls of functions. -/
namespace Go.Am
variable{Γ:Oracle} {Λ:zah} {b:Nat} {hp:Heap} {K:AV->Prop} {s s':Sh} {sh:Sh} {k:IntKind} {x y:Int}

theorem s_mv(v:AV):sMv [v]=some v:=rfl
theorem zp4(es:List PV):sLen [.pv s (.sl sh es)]=some (.pv none (.int .i64 es.length)):=rfl
theorem zp5(r v o n:Nat):sLen [.sl sh r v o n]=some (.pv none (.int .i64 n)):=rfl
theorem zrW(l:List UInt8):zjJ [.pv s (.str l)]=some (.pv none (.int .i64 l.length)):=rfl
theorem zrX(c:Bool)(u v:AV):zjG [.pv s (.bool c),u,v]=some (bif c then u else v):=rfl
theorem zsm(c:Bool):sNot [.pv s (.bool c)]=some (.pv none (.bool !c)):=rfl
theorem zoe(o:BinOp):valK (sBin o [.pv s (.int k x),.pv s' (.int k y)]) K=pvK (zb1 o k x y) (fun p=>K (.pv none p)):=by
 simp only[sBin,zmS,if_true]
 cases zb1 o k x y <;> rfl
theorem zof(o:BinOp)(u v:List UInt8):valK (sBin o [.pv s (.str u),.pv s' (.str v)]) K=pvK (zfJ o u v) (fun p=>K (.pv none p)):=by
 simp only[sBin,zmS]
 cases zfJ o u v <;> rfl
theorem zsn:zb1 .add k x y=some (.int k (k.wrap (x+y))):=rfl
theorem zso:zb1 .sub k x y=some (.int k (k.wrap (x - y))):=rfl
theorem zsp:zb1 .mul k x y=some (.int k (k.wrap (x*y))):=rfl
theorem zsq:zb1 .eql k x y=some (.bool (decide (x=y))):=rfl
theorem zsr:zb1 .neq k x y=some (.bool (!decide (x=y))):=rfl
theorem zss:zb1 .lss k x y=some (.bool (decide (x<y))):=rfl
theorem zst:zb1 .leq k x y=some (.bool (decide (x<=y))):=rfl
theorem zsu:zb1 .gtr k x y=some (.bool (decide (y<x))):=rfl
theorem zsv:zb1 .geq k x y=some (.bool (decide (y<=x))):=rfl
theorem zrY{u v:List UInt8}:zfJ .eql u v=some (.bool (decide (u=v))):=rfl
theorem zrZ{u v:List UInt8}:zfJ .neq u v=some (.bool (!decide (u=v))):=rfl
theorem zkw(o r o':Nat):ze4 o [.ptr r o']=some (.ptr r (o'+o)):=rfl
theorem zad{es:List PV}{i:Nat}{p:PV}(h:es[i]? =some p):zcm sh [.pv s (.sl sh es),.pv s' (.int k i)]=some (.iptr sh p 0):=by
 simp[zcm,aindex,h]
theorem zmn{r v o n i:Nat}(h:i<n):zcm sh [.sl sh r v o n,.pv s' (.int k i)]=some (.eptr sh r v (o+i) 0):=by
 simp[zcm,aindex,h]
theorem zdK{l:List UInt8}{i:Nat}{c:UInt8}(h:l[i]? =some c):ze5 [.pv s (.str l),.pv s' (.int k i)]=some (.pv none (.int .u8 c.toNat)):=by
 simp[ze5,h]
theorem zr0(k':IntKind):zjH k' [.pv s (.int k x)]=some (.pv none (.int k' (k'.wrap x))):=rfl
theorem zog(i:Nat)(l:List AV):zcM i [.tuple l]=l[i]? :=rfl
theorem zoh(fn:Fn)(n:Nat)(v:AV)(l:List AV):zd0 fn n (v::l)=some (.func fn ((v::l).take n) ((v::l).drop n)):=rfl
theorem zr1(p:AV):zgq sh hp [p]=aload sh hp p:=rfl
def zkx(sh:Sh)(off:Nat):Option AObj->Option AV
 |some (.box s v)=>if off=0/\s=sh then some v else AV.part deep v off sh
 |_=>none
theorem zoi(r off:Nat):aload sh hp (.ptr r off)=zkx sh off hp[r]? :=by
 unfold zkx
 simp only[aload]
 split <;> simp_all
theorem zky(off:Nat)(v:AV):zkx sh off (some (.box s v))=if off=0/\s=sh then some v else AV.part deep v off sh:=rfl
def toAV(sh:Sh):Option PV->Option AV
 |some p=>some (.pv sh p)
 |none=>none
theorem zoj(p:PV):toAV sh (some p)=some (.pv sh p):=rfl
theorem zmo(p:PV)(off:Nat):aload sh hp (.iptr s p off)=if off=0/\s=sh then some (.pv sh p) else toAV sh (PV.part deep p off sh):=by
 simp only[aload,toAV]
 split
 ·rfl
 ·cases PV.part deep p off sh <;> rfl
theorem zrk(p:PV)(off:Nat):AV.part deep (.pv s p) off sh=toAV sh (PV.part deep p off sh):=by
 show AV.part (7+1) (.pv s p) off sh=toAV sh (PV.part (7+1) p off sh)
 simp only[AV.part,toAV]
 cases PV.part (7+1) p off sh <;> rfl
theorem zp6(l:List (Sh × PV))(off:Nat):PV.part deep (.agg l) off sh=PV.part.go 7 off sh l:=rfl
theorem zok(l:List (Sh × AV))(off:Nat):AV.part deep (.agg l) off sh=AV.part.go 7 off sh l:=rfl
theorem zjf(d off:Nat)(p:PV)(r:List (Sh × PV)):PV.part.go d off sh ((s,p)::r)=if off=0/\s=sh then some p else if off<s.size then PV.part d p off sh else PV.part.go d (off - s.size) sh r:=rfl
theorem zhW(d off:Nat)(p:AV)(r:List (Sh × AV)):AV.part.go d off sh ((s,p)::r)=if off=0/\s=sh then some p else if off<s.size then AV.part d p off sh else AV.part.go d (off - s.size) sh r:=rfl
theorem zol:Sh.size none=1:=rfl
theorem zom(n:Nat):Sh.size (some n)=n:=rfl
def endK(rs:List RSlot)(Q:AV->Heap->Prop)[Tag Q]:AExit->St->Prop
 | .normal,st=>match zay st rs with
  |some v=>Q v st.hp
  |none=>False
 | .ret,st=>match zay st rs with
  |some v=>Q v st.hp
  |none=>False
 |_,_=>False
theorem zdL(rs:List RSlot)(Q:AV->Heap->Prop)(st:St):endK rs Q .ret st=valK (zay st rs) (fun v=>Q v st.hp):=by
 show(match zay st rs with|some v=>Q v st.hp|none=>False)=_
 cases zay st rs <;> rfl
theorem zbJ(rs:List RSlot)(Q:AV->Heap->Prop)(st:St):endK rs Q .normal st=valK (zay st rs) (fun v=>Q v st.hp):=by
 show(match zay st rs with|some v=>Q v st.hp|none=>False)=_
 cases zay st rs <;> rfl
theorem zmp(st:St)(r:Nat):zay st [(r,none)]=st.fr.look r:=rfl
theorem zkz(st:St)(r:Nat)(sh:Sh):zay st [(r,some sh)]=(match st.fr.look r with|some p=>aload sh st.hp p|none=>none):=rfl
def tupO:Option (List AV)->Option AV
 |some l=>some (.tuple l)
 |none=>none
theorem zon(l:List AV):tupO (some l)=some (.tuple l):=rfl
theorem zmq(st:St)(r q:RSlot)(l:List RSlot):zay st (r::q::l)=tupO (zaQ st (r::q::l)):=by
 unfold zay tupO
 simp only[]
 cases zaQ st (r::q::l) <;> rfl
theorem zjg(st:St):zay st []=some (.tuple []):=rfl
theorem zhX(st:St):zaQ st []=some []:=rfl
theorem zgw(st:St)(r:RSlot)(l:List RSlot):zaQ st (r::l)=zrd (zec st r) (zaQ st l):=rfl
theorem zmr(st:St)(r:Nat):zec st (r,none)=st.fr.look r:=rfl
theorem zms(i:Nat):params i []=[]:=rfl
theorem zkA(i:Nat)(v:AV)(r:List AV):params i (v::r)=(i,v)::params (i+1) r:=rfl

def frozen(v:AV):AV->Heap->Prop:=fun v' hp=>∃hp',v'.freezeRes hp=some (v,hp')
theorem zoo(p:PV)(v:AV):frozen v (.pv s p) hp=(.pv s p=v):=by
 have h:AV.freeze deep (.pv s p) hp=some (p,hp):=rfl
 simp only[frozen,AV.freezeRes,h,AV.shp]
 exact propext ⟨fun⟨_,h⟩=>by cases h;rfl,fun h=>⟨hp,by rw[h]⟩⟩
theorem zab:∀(ps:List (Sh × PV)),zal (pvs ps) hp=some (ps,hp)
 |[]=>rfl
 |(sh,p)::r=>by
  have h:AV.freeze deep (.pv sh p) hp=some (p,hp):=rfl
  show zal (.pv sh p::pvs r) hp=_
  simp only[zal,h,zab r,AV.shp]

variable{F:FuncId->Option AFn} {prim:FuncId->Option zbW}
theorem zap{f:FuncId}{fn:AFn}{args:List AV}{ps:List (Sh × PV)}{hp:Heap}{v:AV}(hp0:prim f=none)(hf:F f=some fn)(hm:fn.heapMode=false)(hz:zal args hp=some (ps,hp))(hn:(pvs ps).length=fn.nparams)
  (h:W (sem F prim) (sloop F prim) 0 fn.code ⟨params 0 (pvs ps),[]⟩ (endK fn.results (frozen v)))(hr:fn.rcv=none:=by rfl)(hmo:fn.more=[]:=by rfl):sem F prim .fn f args hp=some (.ret v,hp):=by
 rw[zlk]
 unfold zbe
 rw[hp0,hf]
 simp only[hr,hmo,Option.isSome_none,hm,Bool.false_eq_true,if_false,hz,abody,hn,ne_eq,not_true_eq_false]
 unfold W at h
 split at h
 ·rename_i e st' he
  rw[he]
  cases e with
  |normal=>
   rw[zbJ] at h
   cases hr:zay st' fn.results with
   |none=>rw[hr] at h;exact h.elim
   |some u=>
    rw[hr] at h
    obtain⟨hp',h⟩:=h
    simp only[hr,h]
    cases v.scalar <;> rfl
  |ret=>
   rw[zdL] at h
   cases hr:zay st' fn.results with
   |none=>rw[hr] at h;exact h.elim
   |some u=>
    rw[hr] at h
    obtain⟨hp',h⟩:=h
    simp only[hr,h]
    cases v.scalar <;> rfl
  |exit i=>exact h.elim
  |panic v=>exact h.elim
 ·exact h.elim
theorem zgf{c:ACode}{st:St}{Q Q':AExit->St->Prop}(h:W Γ Λ b c st Q)(hq:∀e st',Q e st'->Q' e st'):W Γ Λ b c st Q':=by
 unfold W at h ⊢
 split at h
 ·exact hq _ _ h
 ·exact h.elim
theorem zaE(I:Nat->St->Prop){b:Nat}{keep:List Nat}{c:ACode}{st:St}{Q:AExit->St->Prop}{n:Nat}(h0:I n ⟨st.fr.keep keep,st.hp⟩)
  (h:∀n st1,I n st1->W (sem F prim) (sloop F prim) b c st1 (fun e st'=>match e with
   | .normal=>∃m,m<n/\I m ⟨st'.fr.keep keep,collect st.hp.length b (st'.fr.keep keep) st'.hp⟩
   |e=>Q e st')):W (sem F prim) (sloop F prim) b (.loop keep c) st Q:=by
 unfold W
 simp only[aexec]
 have key:∀n st1,I n st1->match sloop F prim b st.hp.length keep c st1 with|some (e,st')=>Q e st'|none=>False:=by
  intro n
  induction n using Nat.strongRecOn with
  |_ n ih=>
   intro st1 hI
   have hw:=h n st1 hI
   unfold W at hw
   rw[zpF]
   split at hw
   ·rename_i e st' he
    rw[he]
    cases e with
    |normal=>
     obtain⟨m,hm,hI'⟩:=hw
     exact ih m hm _ hI'
    |exit i=>exact hw
    |ret=>exact hw
    |panic v=>exact hw
   ·exact hw.elim
 exact key n _ h0
end Go.Am
namespace Go.Am
variable{Γ:Oracle} {Λ:zah} {b:Nat} {hp:Heap} {K:AV->Heap->Prop} {s s':Sh} {sh:Sh} {k:IntKind} {x y:Int}
theorem zrl:Am.pvs []=[]:=rfl
theorem zp7(s:Sh)(p:PV)(r:List (Sh × PV)):Am.pvs ((s,p)::r)=.pv s p::Am.pvs r:=rfl
theorem zdl{α:Type}(l:List α)(x y:α):(l++[x]).set l.length y=l++[y]:=by
 rw[List.set_append_right _ _ (Nat.le_refl _)]
 simp
theorem zmt(p:PV):zbD sh (.pv sh p) hp []=some (.ptr hp.length 0,hp++[.box sh (.pv sh p)]):=by
 simp only[zbD,AV.plain,AV.shp,and_self,if_true,AV.own,zdl]
theorem zp8(p:PV):wBox sh hp [.pv sh p]=some (.ptr hp.length 0,hp++[.box sh (.pv sh p)]):=by
 simp only[wBox,AV.plain,AV.shp,and_self,if_true,AV.own,zdl]
def zqM(sh:Sh)(n:Nat):List (Sh × AV) × Heap->Option (AV × Heap)
 |(l,hp)=>some (.ptr n 0,hp.set n (.box sh (.agg l)))
theorem zop(n:Nat)(l:List (Sh × AV)):zqM sh n (l,hp)=some (.ptr n 0,hp.set n (.box sh (.agg l))):=rfl
theorem zkB(l:List (Sh × AV)):zbD sh (.agg l) hp []=if some (total l)=sh then zqM sh hp.length (zam l (hp++[.box sh (.agg l)])) else none:=by
 simp only[zbD,AV.plain,AV.shp,true_and,AV.own]
 rfl
theorem zrm:zam [] hp=([],hp):=rfl
def zgg(x:Sh × AV):List (Sh × AV) × Heap->List (Sh × AV) × Heap
 |(l,hp)=>(x::l,hp)
theorem zmu(u:Sh × AV)(l:List (Sh × AV)):zgg u (l,hp)=(u::l,hp):=rfl
theorem zjh(r:List (Sh × AV)):zam ((s,.tsl sh [])::r) hp=if 0<sh.size then zgg (s,.sl sh hp.length 0 0 0) (zam r (hp++[.arr sh [] false])) else zgg (s,.tsl sh []) (zam r hp):=rfl
theorem zkC(p:PV)(r:List (Sh × AV)):zam ((s,.pv s' p)::r) hp=zgg (s,.pv s' p) (zam r hp):=rfl
theorem zoq:total ([]:List (Sh × AV))=0:=rfl
theorem zmv(v:AV)(r:List (Sh × AV)):total ((s,v)::r)=s.size+total r:=rfl
def boxK(o:Option AObj)(K:Sh->AV->Prop)[Tag K]:Prop:=
 match o with
 |some (.box s v)=>K s v
 |_=>False
theorem zp9(v:AV)(K:Sh->AV->Prop):boxK (some (.box s v)) K=K s v:=rfl
theorem zmw(r off:Nat)(p:PV):zbZ (zaB sh b hp [.ptr r off,.pv sh p]) K=boxK hp[r]? fun s old=>if off=0/\s=sh then K .undef (hp.set r (.box s (.pv sh p))) else
  valK (AV.upd deep old off sh (.pv sh p)) fun new=>K .undef (hp.set r (.box s new)):=by
 simp only[zaB,astore,AV.plain,AV.shp,AV.own,AV.refsIn,List.all_nil]
 cases hp[r]? with
 |none=>rfl
 |some o=>
  cases o with
  |box s old=>
   simp only[boxK]
   by_cases h1:off=0/\s=sh
   ·obtain⟨h1,h2⟩:=h1
    subst h1;subst h2
    by_cases hb:b<=r <;> simp[hb,zbZ]
   ·cases hu:AV.upd deep old off sh (.pv sh p) with
    |none=>by_cases hb:b<=r <;> simp[hb,h1,zbZ,valK]
    |some new=>by_cases hb:b<=r <;> simp[hb,h1,zbZ,valK]
  |arr s es fz=>rfl
  |map s es=>rfl
  |loop f ps env bz=>rfl
  |arv s es=>rfl
theorem zji{r:Nat}(h:b<=r)(fn:Fn)(fs cs:List AV):zbZ (zaB none b hp [.ptr r 0,.func fn fs cs]) K=boxK hp[r]? fun s old=>if s=none then K .undef (hp.set r (.box s (.func fn fs cs))) else valK (AV.upd deep old 0 none (.func fn fs cs)) fun new=>K .undef (hp.set r (.box s new)):=by
 simp only[zaB,astore,AV.plain,AV.shp,AV.own]
 cases hp[r]? with
 |none=>rfl
 |some o=>
  cases o with
  |box s old=>
   simp only[boxK,if_pos h]
   by_cases h1:s=none
   ·subst h1
    simp[zbZ]
   ·cases hu:AV.upd deep old 0 none (.func fn fs cs) with
    |none=>simp[h1,zbZ,valK]
    |some new=>simp[h1,zbZ,valK]
  |arr s es fz=>rfl
  |map s es=>rfl
  |loop f ps env bz=>rfl
  |arv s es=>rfl
theorem zba(h:0<sh.size):zb2 sh hp=some (.sl sh hp.length 0 0 0,hp++[.arr sh [] false]):=by
 simp[zb2,h]
def zkD(r:List Nat)(st:St)(q:Nat):Option AObj->Option St
 |some (.box sh v)=>match AV.freeze deep v st.hp with
  |some (p,hp')=>settle r ⟨st.fr,hp'.set q (.box sh (.pv sh p))⟩
  |none=>none
 |_=>settle r st
def zhY(s:Nat)(r:List Nat)(st:St):Option AV->Option St
 |some (.ptr q _)=>zkD r st q st.hp[q]?
 |some (.sl s' q ver off len)=>match AV.freeze deep (.sl s' q ver off len) st.hp with
   |some (p,hp')=>settle r ⟨(s,.pv none p)::st.fr,hp'⟩
   |none=>none
 |some (.tsl sh es)=>settle r ⟨(s,.pv none (.sl sh es))::st.fr,st.hp⟩
 |some (.slv s' q ver off len)=>match AV.freeze deep (.slv s' q ver off len) st.hp with
   |some (p,hp')=>settle r ⟨(s,.pv none p)::st.fr,hp'⟩
   |none=>none
 |some (.nilv sh)=>settle r ⟨(s,.pv none (.sl sh []))::st.fr,st.hp⟩
 |some (.agg l)=>if(AV.refsIn.go l).isEmpty=true then settle r st else match AV.freeze deep (.agg l) st.hp with
   |some (p,hp')=>settle r ⟨(s,.pv (some (total l)) p)::st.fr,hp'⟩
   |none=>settle r st
 |_=>settle r st
theorem zmx(st:St):settle [] st=some st:=rfl
theorem zkE(s:Nat)(r:List Nat)(st:St):settle (s::r) st=zhY s r st (st.fr.look s):=by
 simp only[settle]
 cases st.fr.look s with
 |none=>rfl
 |some v=>
  cases v with
  |ptr q o=>
   simp only[zhY]
   cases st.hp[q]? with
   |none=>rfl
   |some o=>cases o <;> rfl
  |_=>rfl
theorem zkF(s:Nat)(r:List Nat)(st:St)(q o:Nat):zhY s r st (some (.ptr q o))=zkD r st q st.hp[q]? :=rfl
theorem zmy(s:Nat)(r:List Nat)(st:St)(sh:Sh)(p:PV):zhY s r st (some (.pv sh p))=settle r st:=rfl
theorem zmz(r:List Nat)(st:St)(q:Nat)(sh s:Sh)(p:PV):zkD r st q (some (.box sh (.pv s p)))=settle r ⟨st.fr,st.hp.set q (.box sh (.pv sh p))⟩:=rfl
def setK(v:Option St)(K:St->Prop)[Tag K]:Prop:=
 match v with
 |some st=>K st
 |none=>False
theorem zor(st:St)(K:St->Prop):setK (some st) K=K st:=rfl
theorem W_settle'{Γ:Oracle}{Λ:zah}{b:Nat}{st:St}{Q:AExit->St->Prop}(l:List Nat):W Γ Λ b (.settle l) st Q=setK (settle l st) (fun st'=>Q .normal st'):=by
 rw[zpK]
 cases settle l st <;> rfl
def zr2(x:Sh × PV):Option (List (Sh × PV))->Option (List (Sh × PV))
 |some l=>some (x::l)
 |none=>none
theorem zmA(x:Sh × PV)(l:List (Sh × PV)):zr2 x (some l)=some (x::l):=rfl
theorem zqa:zaI []=some []:=rfl
theorem zrn(s:Sh)(p:PV)(r:List AV):zaI (.pv s p::r)=zr2 (s,p) (zaI r):=by
 have h:AV.weaken deep (.pv s p)=some p:=rfl
 simp only[zaI,h,AV.shp]
 cases zaI r <;> rfl
theorem zmB(l:List (Sh × PV))(K:List (Sh × PV)->Prop):zrj (some l) K=K l:=rfl
theorem zqb(s:Sh)(p:PV)(H:Heap):AV.alone (.pv s p) H=some (.pv s p):=rfl
theorem zr3(q:List AV):zbs [] q=q:=by cases q <;> rfl
theorem zsw(s:Sh)(p:PV)(r q:List AV)(x:AV):zbs (.pv s p::r) (x::q)=x::zbs r q:=rfl
def zro(x:Sh × PV):Option (List (Sh × PV) × Heap)->Option (List (Sh × PV) × Heap)
 |some (l,hp)=>some (x::l,hp)
 |none=>none
theorem zmC(x:Sh × PV)(l:List (Sh × PV))(hp:Heap):zro x (some (l,hp))=some (x::l,hp):=rfl
theorem zhZ(hp:Heap):zal [] hp=some ([],hp):=rfl
theorem zjj(s:Sh)(p:PV)(r:List AV)(hp:Heap):zal (.pv s p::r) hp=zro (s,p) (zal r hp):=by
 have h:AV.freeze deep (.pv s p) hp=some (p,hp):=rfl
 simp only[zal,h,AV.shp]
 cases zal r hp with
 |none=>rfl
 |some x=>rfl
def bslO(sh:Sh):Option (List PV)->Heap->Option (AV × Heap)
 |some es,hp=>some (.tsl sh es,hp)
 |none,_=>none
def bslZ(sh:Sh):Option (List (Sh × PV) × Heap)->Option (AV × Heap)
 |some (ps,hp)=>bslO sh (za0 sh ps) hp
 |none=>none
theorem zqc(sh:Sh)(hp:Heap)(vs:List AV):zbi sh hp vs=bslZ sh (zal vs hp):=by
 unfold zbi bslZ
 cases zal vs hp with
 |none=>rfl
 |some x=>
  obtain⟨ps,hp'⟩:=x
  simp only[]
  cases za0 sh ps <;> rfl
theorem zos(sh:Sh)(ps:List (Sh × PV))(hp:Heap):bslZ sh (some (ps,hp))=bslO sh (za0 sh ps) hp:=rfl
theorem zot(sh:Sh)(es:List PV)(hp:Heap):bslO sh (some es) hp=some (.tsl sh es,hp):=rfl
def zr4(p:PV):Option (List PV)->Option (List PV)
 |some l=>some (p::l)
 |none=>none
theorem zmD(p:PV)(l:List PV):zr4 p (some l)=some (p::l):=rfl
theorem zkG(sh:Sh):za0 sh []=some []:=rfl
theorem zjk(sh s:Sh)(p:PV)(r:List (Sh × PV)):za0 sh ((s,p)::r)=if s=sh then zr4 p (za0 sh r) else none:=by
 simp only[za0]
 split
 ·cases za0 sh r <;> rfl
 ·rfl
def bslQ(sh:Sh):Option (List PV)->Option AV
 |some es=>some (.tsl sh es)
 |none=>none
theorem zou(sh:Sh)(es:List PV):bslQ sh (some es)=some (.tsl sh es):=rfl
def bslP(sh:Sh):Option (List (Sh × PV))->Option AV
 |some ps=>bslQ sh (za0 sh ps)
 |none=>none
theorem zov(sh:Sh)(ps:List (Sh × PV)):bslP sh (some ps)=bslQ sh (za0 sh ps):=rfl
theorem zow(sh:Sh)(vs:List AV):zcl sh vs=bslP sh (zaI vs):=by
 unfold zcl bslP
 cases zaI vs with
 |none=>rfl
 |some ps=>simp only[];cases za0 sh ps <;> rfl
def zox(sh:Sh)(n:Nat):Option AObj->Prop
 |some (.arr s es false)=>s=sh/\es.length=n
 |_=>False
def zgY(n:Nat):Option AObj->Prop
 |some (.arr _ es _)=>es.length=n
 |_=>False
def zfy:Option AObj->List PV
 |some (.arr _ es _)=>es
 |_=>[]
def zjl:Option AObj->Sh
 |some (.arr s _ _)=>s
 |_=>none
theorem zoy{sh s:Sh}{n:Nat}(es:List PV):zox sh n (some (.arr s es false))=(s=sh/\es.length=n):=rfl
theorem zmE{s:Sh}{n:Nat}{fz:Bool}(es:List PV):zgY n (some (.arr s es fz))=(es.length=n):=rfl
theorem zoz{s:Sh}{fz:Bool}(es:List PV):zfy (some (.arr s es fz))=es:=rfl
theorem zoA{s:Sh}{fz:Bool}(es:List PV):zjl (some (.arr s es fz))=s:=rfl
theorem zlm{sh:Sh}{n:Nat}{o:Option AObj}(h:zox sh n o):∃es,o=some (.arr sh es false)/\es.length=n:=by
 unfold zox at h
 split at h
 ·obtain⟨rfl,h⟩:=h;exact⟨_,rfl,h⟩
 ·exact h.elim
theorem zoB{n:Nat}{o:Option AObj}(h:zgY n o):∃sh es fz,o=some (.arr sh es fz)/\es.length=n:=by
 unfold zgY at h
 split at h
 ·exact⟨_,_,_,rfl,h⟩
 ·exact h.elim
theorem zjm{sh s:Sh}{hp:Heap}{r n:Nat}{new:List PV}(h:zox sh n hp[r]?)(h2:n+new.length<=lim):za8 sh hp [.sl s r n 0 n,.tsl sh new]=some (.sl sh r (n+new.length) 0 (n+new.length),hp.set r (.arr sh (zfy hp[r]? ++new) false)):=by
 obtain⟨es,ho,rfl⟩:=zlm h
 simp[za8,aappend,elems,ho,h2,zfy]
theorem zkH{sh s s':Sh}{hp:Heap}{r n:Nat}{new:List PV}(h:zox sh n hp[r]?)(h2:n+new.length<=lim):za8 sh hp [.sl s r n 0 n,.pv s' (.sl sh new)]=some (.sl sh r (n+new.length) 0 (n+new.length),hp.set r (.arr sh (zfy hp[r]? ++new) false)):=by
 obtain⟨es,ho,rfl⟩:=zlm h
 simp[za8,aappend,elems,ho,h2,zfy]
theorem freeze_sl'{sh:Sh}{hp:Heap}{r n:Nat}(h:zgY n hp[r]?):AV.freeze deep (.sl sh r n 0 n) hp=some (.sl (zjl hp[r]?) (zfy hp[r]?),hp.set r (.arr (zjl hp[r]?) (zfy hp[r]?) true)):=by
 obtain⟨sh',es,fz,ho,rfl⟩:=zoB h
 show AV.freeze (7+1) _ _=_
 simp[AV.freeze,ho,zfy,zjl]
theorem zoC{sh:Sh}{hp:Heap}{r n:Nat}{v:AV}(h:zgY n hp[r]?):frozen v (.sl sh r n 0 n) hp=(.pv none (.sl (zjl hp[r]?) (zfy hp[r]?))=v):=by
 simp only[frozen,AV.freezeRes,freeze_sl' h,AV.shp]
 exact propext ⟨fun⟨_,h⟩=>by cases h;rfl,fun h=>⟨_,by rw[h]⟩⟩
theorem zjn{sh:Sh}{hp:Heap}{r n:Nat}(h:zgY n hp[r]?)(rest:List AV):zal (.sl sh r n 0 n::rest) hp=zro (none,.sl (zjl hp[r]?) (zfy hp[r]?)) (zal rest (hp.set r (.arr (zjl hp[r]?) (zfy hp[r]?) true))):=by
 simp only[zal,freeze_sl' h,AV.shp]
 cases zal rest (hp.set r (.arr (zjl hp[r]?) (zfy hp[r]?) true)) with
 |none=>rfl
 |some x=>rfl
def frzT(v:AV):Option (List (Sh × PV) × Heap)->Prop
 |some (ps,_)=>.tuple (pvs ps)=v
 |none=>False
theorem zoD(v:AV)(ps:List (Sh × PV))(hp:Heap):frzT v (some (ps,hp))=(.tuple (pvs ps)=v):=rfl
theorem zjo{hp:Heap}{l:List AV}{v:AV}:frozen v (.tuple l) hp=frzT v (zal l hp):=by
 simp only[frozen,AV.freezeRes]
 cases zal l hp with
 |none=>simp[frzT]
 |some x=>
  obtain⟨ps,hp'⟩:=x
  simp only[frzT]
  exact propext ⟨fun⟨_,h⟩=>by cases h;rfl,fun h=>⟨_,by rw[h]⟩⟩
theorem zgZ{sh s s':Sh}{k:IntKind}{es:List PV}{h:Nat}(hh:h<=es.length):zbr sh false true [.pv s (.sl sh es),.pv s' (.int k h)]=some (.pv none (.sl sh (es.take h))):=by
 simp[zbr,aslice,hh]
theorem zg0{sh s s':Sh}{k:IntKind}{es:List PV}{h:Nat}(hh:h<=es.length):zbr sh true false [.pv s (.sl sh es),.pv s' (.int k h)]=some (.pv none (.sl sh (es.drop h))):=by
 simp[zbr,aslice,hh]
theorem zfG{x:Int}(h:0<=x)(h':x<18446744073709551616):IntKind.u64.wrap x=x:=by
 simp[IntKind.wrap,IntKind.signed,IntKind.bits]
 omega
def zrp(sh:Sh):Option AObj->Prop
 |some (.box s _)=>s=sh
 |_=>False
theorem zoE(sh s:Sh)(v:AV):zrp sh (some (.box s v))=(s=sh):=rfl
def zh0(r:Nat)(sh:Sh):List (Sh × AV) × Heap->Option (AV × Heap)
 |(l,hp1)=>some (.undef,hp1.set r (.box sh (.agg l)))
theorem zkI(r:Nat)(sh:Sh)(l:List (Sh × AV))(hp1:Heap):zh0 r sh (l,hp1)=some (.undef,hp1.set r (.box sh (.agg l))):=rfl
theorem zbm{b r:Nat}{sh:Sh}{hp:Heap}(h:b<=r)(l:List (Sh × AV))(hs:some (total l)=sh)(ho:zrp sh hp[r]?):zaB sh b hp [.ptr r 0,.agg l]=zh0 r sh (zam l hp):=by
 cases ho':hp[r]? with
 |none=>rw[ho'] at ho;exact ho.elim
 |some o=>
  rw[ho'] at ho
  cases o with
  |box s old=>
   simp only[zrp] at ho
   subst ho
   simp only[zaB,astore,ho',AV.plain,AV.shp,AV.own,hs,if_pos h]
   cases zam l hp with
   |mk l' hp'=>simp[zh0]
  |arr s es fz=>exact ho.elim
  |map s es=>exact ho.elim
  |loop f ps env bz=>exact ho.elim
  |arv s es=>exact ho.elim
theorem zg1{b r:Nat}{s':Sh}{hp:Heap}{K:AV->Heap->Prop}{q v o n off:Nat}(h:b<=r):zbZ (zaB none b hp [.ptr r off,.sl s' q v o n]) K=boxK hp[r]? fun s old=>if off=0/\s=none then K .undef (hp.set r (.box s (.sl s' q v o n))) else
  valK (AV.upd deep old off none (.sl s' q v o n)) fun new=>K .undef (hp.set r (.box s new)):=by
 simp only[zaB,astore,AV.plain,AV.shp,AV.own]
 cases hp[r]? with
 |none=>rfl
 |some ob=>
  cases ob with
  |box s old=>
   simp only[boxK,if_pos h]
   by_cases h1:off=0/\s=none
   ·obtain⟨h1,h2⟩:=h1
    subst h1;subst h2
    simp[zbZ]
   ·cases hu:AV.upd deep old off none (.sl s' q v o n) with
    |none=>simp[h1,zbZ,valK]
    |some new=>simp[h1,zbZ,valK]
  |arr s es fz=>rfl
  |map s es=>rfl
  |loop f ps env bz=>rfl
  |arv s es=>rfl
def updO:Option (List (Sh × AV))->Option AV
 |some l=>some (AV.ofComps l)
 |none=>none
theorem zoF(l:List (Sh × AV)):updO (some l)=some (AV.ofComps l):=rfl
theorem zrq(l:List (Sh × AV))(off:Nat)(sh:Sh)(x:AV):AV.upd deep (.agg l) off sh x=updO (AV.updGo (fun p o=>AV.upd 7 p o sh x) sh x off l):=by
 show AV.upd (7+1) (.agg l) off sh x=_
 simp only[AV.upd,AV.comps]
 cases AV.updGo (fun p o=>AV.upd 7 p o sh x) sh x off l <;> rfl
def zr5(s:Sh)(p:AV):Option (List (Sh × AV))->Option (List (Sh × AV))
 |some l=>some ((s,p)::l)
 |none=>none
theorem zmF(s:Sh)(p:AV)(l:List (Sh × AV)):zr5 s p (some l)=some ((s,p)::l):=rfl
theorem zmG(f:AV->Nat->Option AV)(sh:Sh)(v:AV)(off:Nat)(s:Sh)(p:AV)(r:List (Sh × AV)):AV.updGo f sh v off ((s,p)::r)=if off=0/\s=sh then some ((s,v)::r) else if off<s.size then(match f p off with|some p'=>some ((s,p')::r)|none=>none) else zr5 s p (AV.updGo f sh v (off - s.size) r):=by
 simp only[AV.updGo]
 split
 ·rfl
 ·split
  ·rfl
  ·cases AV.updGo f sh v (off - s.size) r <;> rfl
end Go.Am

/- (empty) -/

/- The steps, as one set. -/
namespace Go.Am
attribute [go_sem] zrM zrN zsh zrO zrP zrb zpL zsi zrQ zrc zsj zsk zn1 zpM zpN zpO zn2 zmf zn3 zmg zkt zn4 zmh zpP zmi zn5 zpQ zn6 zmj zku zn7 zpR zhV zkv zmk zn8 zpS zsl zrS zre zrf zrT zrU zpT zml zpU zpV zn9 zoa zpW zob zrg zmm zrh zpX zpY zrV zoc zpZ zp0 zod zri zp1 zp3 s_mv zp4 zp5 zrW zrX zsm zoe zof zsn zso zsp zsq zsr zss zst zsu zsv zrY zrZ zkw zr0 zog zoh zr1 zoi zky zoj zmo zrk zp6 zok zjf zhW zol zom zdL zbJ zmp zmq zhX zgw zmr zms zkA zon zjg zoo zmt zp8 zrm zmu zjh zkC zkB zop zoq zmv zp9 zmw W_settle' zor zmx zkE zkF zmy zmz zmA zqa zrn zmB zqb zr3 zsw zmC zhZ zjj zqc zos zot zmD zkG zjk zow zou zov zoy zmE zoz zoA zjm zkH zoC zjn zjo zoD zkI zoE zoF zrq zmF zmG zkz if_true if_false true_and and_true false_and and_false and_self Nat.zero_add Nat.add_zero eq_self Bool.true_eq_false Bool.false_eq_true cond_true cond_false decide_eq_true_eq Bool.not_eq_true' Bool.not_eq_false' decide_eq_false_iff_not not_true_eq_false not_false_eq_true Bool.true_and Bool.false_and Bool.and_true Bool.and_false Bool.not_true Bool.not_false Option.some.injEq decide_true decide_false List.getElem?_cons_zero List.getElem?_cons_succ List.length_cons List.length_nil List.nil_append List.cons_append List.set_cons_zero List.set_cons_succ List.take_zero List.drop_zero zp7 zrl zp2
end Go.Am

/- Terms: sizes, valid ones; how their parts are read. -/
namespace Go.Am
mutual
def Tm.size:Tm->Nat
 | .mk _ _ _ as=>1+Tm.sizes as
def Tm.sizes:List Tm->Nat
 |[]=>0
 |t::r=>t.size+Tm.sizes r
end
theorem Tm.size_eq(t:Tm):t.size=1+Tm.sizes t.args:=by cases t;simp[Tm.size,Tm.args]
theorem Tm.size_pos(t:Tm):0<t.size:=by rw[Tm.size_eq];omega
theorem Tm.zsA:∀{l:List Tm} {t:Tm},t∈l->t.size<=Tm.sizes l
 |x::r,t,h=>by
  simp only[Tm.sizes]
  rcases List.mem_cons.1 h with rfl|h
  ·omega
  ·have:=Tm.zsA h;omega
theorem Tm.zsG(l r:List Tm):Tm.sizes (l++r)=Tm.sizes l+Tm.sizes r:=by
 induction l with
 |nil=>simp[Tm.sizes]
 |cons x l ih=>simp only[List.cons_append,Tm.sizes,ih];omega
theorem Tm.zsz(l:List Tm):l.length<=Tm.sizes l:=by
 induction l with
 |nil=>simp
 |cons x l ih=>have:=x.size_pos;simp only[List.length_cons,Tm.sizes];omega
theorem Tm.zsQ{l:List Tm}{i:Nat}{t:Tm}(h:l[i]? =some t):Tm.sizes (l.take (i+1))=Tm.sizes (l.take i)+t.size:=by
 rw[List.take_add_one,h,Tm.zsG]
 simp[Tm.sizes]
theorem Tm.zsB(l:List Tm)(i:Nat):Tm.sizes (l.take i)<=Tm.sizes l:=by
 have h:=Tm.zsG (l.take i) (l.drop i)
 rw[List.take_append_drop] at h
 omega
theorem Tm.zsE{t u:Tm}(h:u∈t.args):u.size<t.size:=by
 have:=Tm.zsA h
 rw[t.size_eq]
 omega
theorem Tm.zsF{P:Tm->Prop}(h:∀t:Tm,(∀u∈t.args,P u)->P t)(t:Tm):P t:=by
 have:∀n (t:Tm),t.size<=n->P t:=by
  intro n
  induction n with
  |zero=>intro t ht;have:=t.size_pos;omega
  |succ n ih=>exact fun t ht=>h t fun u hu=>ih u (by have:=Tm.zsE hu;omega)
 exact this _ t (Nat.le_refl _)
theorem Tm.zsK(l:List Tm):Tm.pvs l=l.map Tm.pv:=by
 induction l with
 |nil=>rfl
 |cons x l ih=>simp[Tm.pvs,ih]
theorem Tm.pvs_get{l:List Tm}{i:Nat}{t:Tm}(h:l[i]? =some t):(Tm.pvs l)[i]? =some t.pv:=by simp[Tm.zsK,h]
theorem Tm.pvs_len(l:List Tm):(Tm.pvs l).length=l.length:=by simp[Tm.zsK]
theorem Tm.zsL(l r:List Tm):Tm.pvs (l++r)=Tm.pvs l++Tm.pvs r:=by simp[Tm.zsK]
theorem Tm.zsD{l:List Tm}{i:Nat}{t:Tm}(h:l[i]? =some t):Tm.pvs (l.take i)++[t.pv]=Tm.pvs (l.take (i+1)):=by
 rw[List.take_add_one,h,Tm.zsL]
 rfl
theorem Tm.zsT(l:List Tm)(i:Nat):(Tm.pvs l).take i=Tm.pvs (l.take i):=by simp[Tm.zsK]
theorem Tm.zsU(l:List Tm)(i:Nat):(Tm.pvs l).drop i=Tm.pvs (l.drop i):=by simp[Tm.zsK]
theorem zaK(t:Tm):PV.part deep t.pv 0 none=some (.int .i64 t.kind):=by cases t;rfl
theorem zdm(t:Tm):PV.part deep t.pv 1 none=some (.int .i64 t.n):=by cases t;rfl
theorem zaN(t:Tm):PV.part deep t.pv 2 none=some (.str t.name):=by cases t;rfl
theorem zag(t:Tm):PV.part deep t.pv 3 none=some (.sl (some 4) (Tm.pvs t.args)):=by cases t;rfl
theorem zaj{x:Int}(h: -9223372036854775808<=x)(h':x<9223372036854775808):IntKind.i64.wrap x=x:=by
 rw[IntKind.wrap_i64]
 omega
end Go.Am
namespace Go.Am
def Tm.node(t:Tm):Bool:=
 if t.kind=0 then decide (0<=t.n) && decide (t.n<=1099511627776) && decide (t.name=[]) && decide ((t.args.length:Int)=0)
 else if t.kind=1 then decide (t.name=[]) && decide ((t.args.length:Int)=0)
 else if t.kind=2 then decide (t.n=0) && decide ((t.name.length:Int)<=100) && decide ((t.args.length:Int)=0)
 else if t.kind=3 then decide (t.n=0) && decide ((t.name.length:Int)<=100) && decide (0<(t.args.length:Int)) && decide ((t.args.length:Int)<=8)
 else false
mutual
def Tm.fits:Tm->Bool
 | .mk k n s as=>Tm.node (.mk k n s as) && Tm.fitsAll as
def Tm.fitsAll:List Tm->Bool
 |[]=>true
 |t::r=>t.fits && Tm.fitsAll r
end
theorem Tm.fits_eq(t:Tm):t.fits=(t.node && Tm.fitsAll t.args):=by cases t;simp[Tm.fits,Tm.args]
theorem Tm.zsV{t:Tm}(h:t.node=true/\Tm.fitsAll t.args=true):t.name.length<1000000000:=by
 have h:=h.1
 unfold Tm.node at h
 split at h
 ·simp only[Bool.and_eq_true,decide_eq_true_eq] at h;simp[h.1.2]
 ·split at h
  ·simp only[Bool.and_eq_true,decide_eq_true_eq] at h;simp[h.1]
  ·split at h
   ·simp only[Bool.and_eq_true,decide_eq_true_eq] at h;omega
   ·split at h
    ·simp only[Bool.and_eq_true,decide_eq_true_eq] at h;omega
    ·cases h
theorem Tm.fitsAll_iff{l:List Tm}:Tm.fitsAll l=true↔∀t∈l,t.fits=true:=by
 induction l with
 |nil=>simp[Tm.fitsAll]
 |cons x l ih=>simp[Tm.fitsAll,ih]
theorem Tm.zsJ(l r:List Tm):Tm.fitsAll (l++r)=(Tm.fitsAll l && Tm.fitsAll r):=by
 induction l with
 |nil=>simp[Tm.fitsAll]
 |cons x l ih=>simp[Tm.fitsAll,ih,Bool.and_assoc]
theorem Tm.zsN{l:List Tm}{i:Nat}{t:Tm}(h:l[i]? =some t):Tm.fitsAll (l.take (i+1))=(Tm.fitsAll (l.take i) && t.fits):=by
 rw[List.take_add_one,h,Tm.zsJ]
 simp[Tm.fitsAll]
theorem Tm.zsC{t u:Tm}(h:t.fits=true)(hu:u∈t.args):u.fits=true:=by
 rw[Tm.fits_eq,Bool.and_eq_true] at h
 exact Tm.fitsAll_iff.1 h.2 u hu
def Tm.valid(t:Tm):Bool:=decide (t.size<=2000) && t.fits
end Go.Am

/- Functions that run on their caller's heap; loops' heaps. -/
namespace Go.Am
variable{F:FuncId->Option AFn} {prim:FuncId->Option zbW}
theorem zey{f:FuncId}{fn:AFn}{args:List AV}{hp hp':Heap}{v:AV}(hp0:prim f=none)(hf:F f=some fn)(hm:fn.heapMode=true)(hn:args.length=fn.nparams)
  (h:W (sem F prim) (sloop F prim) 0 fn.code ⟨params 0 args,hp⟩ (endK fn.results (fun v' h'=>v'=v/\(if(v.refsIn.all (fun q=>decide (q<hp.length)) && zcA hp.length hp h')=true then h'.take hp.length else h')=hp')))(hr:fn.rcv=none:=by rfl)(hmo:fn.more=[]:=by rfl):sem F prim .fn f args hp=some (.ret v,hp'):=by
 rw[zlk]
 unfold zbe
 rw[hp0,hf]
 simp only[hr,hmo,Option.isSome_none,Bool.false_eq_true,if_false,hm,if_true,abody,hn,ne_eq,not_true_eq_false,if_false]
 unfold W at h
 split at h
 ·rename_i e st' he
  rw[he]
  cases e with
  |normal=>
   rw[zbJ] at h
   cases hr:zay st' fn.results with
   |none=>rw[hr] at h;exact h.elim
   |some u=>
    rw[hr] at h
    obtain⟨h1,h2⟩:=h
    simp only[hr,h1,h2]
  |ret=>
   rw[zdL] at h
   cases hr:zay st' fn.results with
   |none=>rw[hr] at h;exact h.elim
   |some u=>
    rw[hr] at h
    obtain⟨h1,h2⟩:=h
    simp only[hr,h1,h2]
  |exit i=>exact h.elim
  |panic v=>exact h.elim
 ·exact h.elim
theorem zez{rs:List RSlot}{P Q:AV->Heap->Prop}(hPQ:∀v h,P v h->Q v h){e:AExit}{st:St}(h:endK rs P e st):endK rs Q e st:=by
 cases e with
 |normal=>
  rw[zbJ] at h ⊢
  cases hr:zay st rs with
  |none=>rw[hr] at h;exact h.elim
  |some u=>rw[hr] at h;exact hPQ _ _ h
 |ret=>
  rw[zdL] at h ⊢
  cases hr:zay st rs with
  |none=>rw[hr] at h;exact h.elim
  |some u=>rw[hr] at h;exact hPQ _ _ h
 |exit i=>exact h.elim
 |panic v=>exact h.elim
theorem zdM{f:FuncId}{fn:AFn}{args:List AV}{hp hp':Heap}{v:AV}(hl:hp'.length=hp.length)(hp0:prim f=none)(hf:F f=some fn)(hm:fn.heapMode=true)(hn:args.length=fn.nparams)
  (h:W (sem F prim) (sloop F prim) 0 fn.code ⟨params 0 args,hp⟩ (endK fn.results (fun v' h'=>v'=v/\h'=hp')))(hr:fn.rcv=none:=by rfl)(hmo:fn.more=[]:=by rfl):sem F prim .fn f args hp=some (.ret v,hp'):=
 zey hp0 hf hm hn (zgf h fun e st he=>zez (fun v' h' ⟨h1,h2⟩=>⟨h1,by
  rw[h2,<-hl,List.take_length]
  split <;> rfl⟩) he) hr hmo
theorem zgh{f:FuncId}{fn:AFn}{args:List AV}{hp hp':Heap}{v:AV}(hv:v.refsIn.all (fun q=>decide (q<hp.length))=true)(hp0:prim f=none)(hf:F f=some fn)(hm:fn.heapMode=true)(hn:args.length=fn.nparams)
  (h:W (sem F prim) (sloop F prim) 0 fn.code ⟨params 0 args,hp⟩ (endK fn.results (fun v' h'=>v'=v/\zcA hp.length hp h'=true/\h'.take hp.length=hp')))(hr:fn.rcv=none:=by rfl)(hmo:fn.more=[]:=by rfl):sem F prim .fn f args hp=some (.ret v,hp'):=
 zey hp0 hf hm hn (zgf h fun e st he=>zez (fun v' h' ⟨h1,h2,h3⟩=>⟨h1,by rw[if_pos (by rw[hv,h2];rfl),h3]⟩) he) hr hmo
theorem zoG{f:FuncId}{fn:AFn}{args:List AV}{hp hp':Heap}{v:AV}(hv:v.refsIn.all (fun q=>decide (q<hp.length))=false)(hp0:prim f=none)(hf:F f=some fn)(hm:fn.heapMode=true)(hn:args.length=fn.nparams)
  (h:W (sem F prim) (sloop F prim) 0 fn.code ⟨params 0 args,hp⟩ (endK fn.results (fun v' h'=>v'=v/\h'=hp')))(hr:fn.rcv=none:=by rfl)(hmo:fn.more=[]:=by rfl):sem F prim .fn f args hp=some (.ret v,hp'):=
 zey hp0 hf hm hn (zgf h fun e st he=>zez (fun v' h' ⟨h1,h2⟩=>⟨h1,by rw[hv,Bool.false_and,if_neg (by decide),h2]⟩) he) hr hmo
theorem zd6(n:Nat):∀(hp e:Heap),zcA n hp (hp++e)=true
 |[],e=>by cases e <;> rfl
 |o::r,e=>by
  simp only[List.cons_append,zcA,zd6 n r e,Bool.and_true,List.all_eq_true,Bool.or_eq_true]
  exact fun q hq=>.inr (by simpa using hq)
theorem zeW(n:Nat){x:AObj}(hx:x.refs=[]):∀(hp e:Heap) (r:Nat),zcA n hp (hp.set r x++e)=true
 |[],e,r=>by cases e <;> rfl
 |o::l,e,0=>by
  simp only[List.set_cons_zero,List.cons_append,zcA,zd6 n l e,hx,List.all_nil,Bool.and_self]
 |o::l,e,r+1=>by
  simp only[List.set_cons_succ,List.cons_append,zcA,zeW n hx l e r,Bool.and_true,List.all_eq_true,Bool.or_eq_true]
  exact fun q hq=>.inr (by simpa using hq)
theorem zao{n b:Nat}{fr:Fr}{hp:Heap}(h:hp.length=n):collect n b fr hp=hp:=by
 unfold collect
 split
 ·rw[<-h,List.take_length]
 ·rfl
theorem zch{α:Type}{l r:List α}{i:Nat}(h:i<l.length):(l++r)[i]? =l[i]? :=List.getElem?_append_left h
theorem zqd{α:Type}(l:List α)(x:α):(l++[x])[l.length]? =some x:=by simp
theorem zh1{α:Type}{l r:List α}{i:Nat}(h:i<l.length)(x:α):(l++r).set i x=l.set i x++r:=by rw[List.set_append_left _ _ h]
theorem zcH{α:Type}{l:List α}{i:Nat}{x:α}(h:l[i]? =some x):i<l.length:=(List.getElem?_eq_some_iff.1 h).1
end Go.Am
namespace Go.Am
variable{Γ:Oracle} {Λ:zah} {b:Nat}
theorem zrr{x y:ACode}{st:St}{Q:AExit->St->Prop}(R:St->Prop)(h1:W Γ Λ b x st (seqK R Q))(h2:∀st',R st'->W Γ Λ b y st' Q):W Γ Λ b (.seq x y) st Q:=by
 rw[zrO]
 refine zgf h1 fun e st' h=> ?_
 cases e with
 |normal=>exact h2 st' h
 |_=>exact h
end Go.Am

namespace Go.Am
theorem zjp{b:Nat}{fr:Fr}(x:AObj):collect 1 b fr [x]=[x]:=zao rfl
theorem zjq{b:Nat}{fr:Fr}(x y:AObj):collect 2 b fr [x,y]=[x,y]:=zao rfl
theorem zjr{b:Nat}{fr:Fr}:collect 0 b fr []=[]:=zao rfl
theorem zqe{F:FuncId->Option AFn}{prim:FuncId->Option zbW}{f:FuncId}{p:zbW}(h:prim f=some p)(as:List AV)(hp:Heap):sem F prim .fn f as hp=p f as hp:=by
 rw[zlk]
 unfold zbe
 rw[h]
theorem zdn{r o n:Nat}{x:Int}{k:IntKind}{s:Sh}(sh:Sh)(h:0<=x/\x<n):zbV sh n [.ptr r o,.pv s (.int k x)]=some (.ptr r (o+x.toNat*sh.size)):=by
 simp[zbV,h]
def cmpI(x y:Int):Int:=if x<y then -1 else if y<x then 1 else 0
def zbK(x y:Int):Int:=if x=0 then y else x
mutual
def Tm.cmp:Tm->Tm->Int
 | .mk k n s as,.mk k' n' s' as'=>zbK (cmpI k k') (zbK (cmpI n n') (zbK (cmpI as.length as'.length) (zbK (Lib.compareBytes s s') (Tm.cmps as as'))))
def Tm.cmps:List Tm->List Tm->Int
 |x::r,y::r'=>zbK (x.cmp y) (Tm.cmps r r')
 |_,_=>0
end
theorem Tm.zsM(a b:Tm):a.cmp b=zbK (cmpI a.kind b.kind) (zbK (cmpI a.n b.n) (zbK (cmpI a.args.length b.args.length) (zbK (Lib.compareBytes a.name b.name) (Tm.cmps a.args b.args)))):=by
 cases a;cases b;rfl
theorem zdo(x:Int):cmpI x x=0:=by simp[cmpI]
theorem zdN(y:Int):zbK 0 y=y:=rfl
theorem zfH{x:Int}(h:x≠0)(y:Int):zbK x y=x:=if_neg h
theorem cmpI_zero{x y:Int}:cmpI x y=0↔x=y:=by
 unfold cmpI
 split
 ·constructor <;> intro h <;> omega
 ·split <;> constructor <;> intro h <;> omega
theorem Tm.zsO{l r:List Tm}{i:Nat}{x y:Tm}(h:l[i]? =some x)(h':r[i]? =some y):Tm.cmps (l.drop i) (r.drop i)=zbK (x.cmp y) (Tm.cmps (l.drop (i+1)) (r.drop (i+1))):=by
 obtain⟨h1,rfl⟩:=List.getElem?_eq_some_iff.1 h
 obtain⟨h2,rfl⟩:=List.getElem?_eq_some_iff.1 h'
 rw[List.drop_eq_getElem_cons h1,List.drop_eq_getElem_cons h2,Tm.cmps]
end Go.Am

namespace Go.Am
theorem zkJ(x:Int):zbK x 0=x:=by unfold zbK;split <;> simp_all
theorem Tm.zsH(l:List Tm):Tm.cmps [] l=0:=by simp[Tm.cmps]
theorem zoH:cmpI 0 0=0/\cmpI 0 1= -1/\cmpI 0 2= -1/\cmpI 0 3= -1/\cmpI 1 0=1/\cmpI 1 1=0/\cmpI 1 2= -1/\cmpI 1 3= -1/\cmpI 2 0=1/\cmpI 2 1=1/\cmpI 2 2=0/\cmpI 2 3= -1/\cmpI 3 0=1/\cmpI 3 1=1/\cmpI 3 2=1/\cmpI 3 3=0:=by decide
theorem Tm.zsR{t:Tm}(h:t.fits=true):(t.kind=0/\t.name=[]/\t.args=[])\/(t.kind=1/\t.name=[]/\t.args=[])\/(t.kind=2/\t.n=0/\t.args=[])\/(t.kind=3/\t.n=0):=by
 rw[Tm.fits_eq,Bool.and_eq_true] at h
 have h:=h.1
 unfold Tm.node at h
 have em:∀l:List Tm,(l.length:Int)=0->l=[]:=fun l h=>List.length_eq_zero_iff.1 (by omega)
 split at h
 ·simp only[Bool.and_eq_true,decide_eq_true_eq] at h;exact .inl ⟨‹_›,h.1.2,em _ h.2⟩
 ·split at h
  ·simp only[Bool.and_eq_true,decide_eq_true_eq] at h;exact .inr (.inl ⟨‹_›,h.1,em _ h.2⟩)
  ·split at h
   ·simp only[Bool.and_eq_true,decide_eq_true_eq] at h;exact .inr (.inr (.inl ⟨‹_›,h.1.1,em _ h.2⟩))
   ·split at h
    ·simp only[Bool.and_eq_true,decide_eq_true_eq] at h;exact .inr (.inr (.inr ⟨‹_›,h.1.1.1⟩))
    ·cases h
end Go.Am

namespace Go.Am
def Kept(p:Prop):Prop:=p
theorem Kept.out{p:Prop}(h:Kept p):p:=h
theorem Kept.mk{p:Prop}(h:p):Kept p:=h
end Go.Am
namespace Go.Am
theorem zdp{F:FuncId->Option AFn}{prim:FuncId->Option zbW}{f:FuncId}{fn:AFn}{args:List AV}{ps:List (Sh × PV)}{hp hp1 hp2:Heap}{v:AV}(hp0:prim f=none)(hf:F f=some fn)(hm:fn.heapMode=false)(hz:zal args hp=some (ps,hp1))
  (h:sem F prim .fn f (pvs ps) []=some (.ret v,hp2))(hr:fn.rcv=none:=by rfl):sem F prim .fn f args hp=some (.ret v,bif v.scalar then hp else hp1):=by
 rw[zlk] at h ⊢
 unfold zbe at h ⊢
 rw[hp0,hf] at h ⊢
 simp only[hr,Option.isSome_none,hm,Bool.false_eq_true,if_false,hz,zab] at h ⊢
 split at h
 ·split at h
  ·cases h;simp_all
  ·cases h
 ·cases h
 ·cases h
end Go.Am

namespace Go.Am
theorem zfk{k:IntKind}(hk:0<k.bits)(x:Int):zb1 .shr k x 1=some (.int k (x / 2)):=by
 have h1:Nat.min (1:Int).toNat k.bits=1:=Nat.min_eq_left hk
 simp only[zb1,h1]
 rw[if_neg (by decide),Int.fdiv_eq_ediv_of_nonneg _ (by decide)]
 rfl
end Go.Am

namespace Go.Am
theorem zci{sh s s':Sh}{k:IntKind}{es:List PV}{p:PV}(h:es[0]? =some p):zcm sh [.pv s (.sl sh es),.pv s' (.int k 0)]=some (.iptr sh p 0):=by
 simp[zcm,aindex,h]
end Go.Am

namespace Go.Am
end Go.Am

namespace Go.Am
attribute [go_sem] zjr zjp zjq
end Go.Am

/- The standard order of terms is an order. -/
namespace Go.Am
open Lib (compareBytes)
theorem zh2(x y:Int):cmpI y x= - cmpI x y:=by
 unfold cmpI;split <;> split <;> (try split) <;> omega
theorem zrs{x y:Int}:cmpI x y<0↔x<y:=by
 unfold cmpI;split <;> (try split) <;> omega
theorem zjs(x y:Int):zbK (-x) (-y)= - zbK x y:=by
 unfold zbK
 by_cases h:x=0
 ·simp[h]
 ·rw[if_neg (by omega),if_neg h]
theorem zln{x y:Int}:zbK x y<0↔x<0\/(x=0/\y<0):=by
 unfold zbK;split <;> omega
theorem zlo{x y:Int}:zbK x y=0↔x=0/\y=0:=by
 unfold zbK;split <;> omega
theorem cb_zero:∀{a b:List UInt8},compareBytes a b=0↔a=b
 |[],[]=>by simp[compareBytes]
 |[],_::_=>by simp[compareBytes]
 |_::_,[]=>by simp[compareBytes]
 |x::a,y::b=>by
  simp only[compareBytes,List.cons.injEq]
  split
  ·rename_i h
   constructor
   ·intro h;omega
   ·rintro⟨rfl,_⟩;exact absurd h (by simp[UInt8.lt_iff_toNat_lt])
  ·split
   ·rename_i h
    constructor
    ·intro h;omega
    ·rintro⟨rfl,_⟩;exact absurd h (by simp[UInt8.lt_iff_toNat_lt])
   ·rename_i h1 h2
    have:x=y:=by
     rw[UInt8.lt_iff_toNat_lt] at h1 h2
     exact UInt8.toNat_inj.1 (by omega)
    simp[this,cb_zero]
theorem zqN:∀(a b:List UInt8),compareBytes b a= - compareBytes a b
 |[],[]=>by simp[compareBytes]
 |[],_::_=>by simp[compareBytes]
 |_::_,[]=>by simp[compareBytes]
 |x::a,y::b=>by
  simp only[compareBytes]
  by_cases h1:x<y
  ·have h2:¬y<x:=by rw[UInt8.lt_iff_toNat_lt] at *; omega
   simp[h1,h2]
  ·by_cases h2:y<x
   ·simp[h1,h2]
   ·simp[h1,h2,zqN a b]
theorem zlp:∀{a b c:List UInt8},compareBytes a b<0->compareBytes b c<0->compareBytes a c<0
 |[],b,[],h,h'=>by cases b <;> simp[compareBytes] at*
 |[],b,_::_,h,h'=>by simp[compareBytes]
 |_::_,[],_,h,h'=>by simp[compareBytes] at h
 |_::_,_::_,[],h,h'=>by simp[compareBytes] at h'
 |x::a,y::b,z::c,h,h'=>by
  simp only[compareBytes] at*
  simp only[UInt8.lt_iff_toNat_lt] at*
  by_cases h1:x.toNat<z.toNat
  ·simp[h1]
  ·by_cases h2:z.toNat<x.toNat
   ·split at h <;> split at h' <;> (try split at h) <;> (try split at h') <;> omega
   ·rw[if_neg h1,if_neg h2]
    split at h
    ·split at h' <;> (try split at h') <;> omega
    ·split at h
     ·omega
     ·split at h'
      ·omega
      ·split at h'
       ·omega
       ·exact zlp h h'
theorem Tm.ext{a b:Tm}(h1:a.kind=b.kind)(h2:a.n=b.n)(h3:a.name=b.name)(h4:a.args=b.args):a=b:=by
 cases a;cases b;simp_all[Tm.kind,Tm.n,Tm.name,Tm.args]
theorem Tm.cmp_zero:∀{a b:Tm},a.cmp b=0↔a=b:=by
 intro a
 induction a using Tm.zsF with
 |h a ih=>
  intro b
  have lists:∀(l r:List Tm),(∀t∈l,∀{b:Tm},t.cmp b=0↔t=b)->l.length=r.length->(Tm.cmps l r=0↔l=r):=by
   intro l
   induction l with
   |nil=>intro r _ hl;have:r=[]:=List.length_eq_zero_iff.1 hl.symm;subst this;simp[Tm.cmps]
   |cons x l ihl=>
    intro r hx hl
    cases r with
    |nil=>simp at hl
    |cons y r=>
     simp only[Tm.cmps,zlo,List.cons.injEq]
     rw[hx x (by simp),ihl r (fun t ht=>hx t (by simp[ht])) (by simpa using hl)]
  rw[Tm.zsM]
  simp only[zlo,cmpI_zero,cb_zero]
  constructor
  ·rintro⟨h1,h2,h3,h4,h5⟩
   exact Tm.ext h1 h2 h4 ((lists _ _ ih (by omega)).1 h5)
  ·rintro rfl
   exact⟨rfl,rfl,rfl,rfl,(lists _ _ ih rfl).2 rfl⟩
theorem Tm.zsP:∀(a b:Tm),b.cmp a= - a.cmp b:=by
 intro a
 induction a using Tm.zsF with
 |h a ih=>
  intro b
  have lists:∀(l r:List Tm),(∀t∈l,∀(b:Tm),b.cmp t= - t.cmp b)->Tm.cmps r l= - Tm.cmps l r:=by
   intro l
   induction l with
   |nil=>intro r _;cases r <;> simp[Tm.cmps]
   |cons x l ihl=>
    intro r hx
    cases r with
    |nil=>simp[Tm.cmps]
    |cons y r=>simp only[Tm.cmps];rw[hx x (by simp),ihl r (fun t ht=>hx t (by simp[ht])),zjs]
  rw[Tm.zsM,Tm.zsM a b,lists _ _ ih,zqN,zh2 a.kind,zh2 a.n,zh2 a.args.length]
  simp only[zjs]
theorem Tm.zsS:∀{a b c:Tm},a.cmp b<0->b.cmp c<0->a.cmp c<0:=by
 intro a
 induction a using Tm.zsF with
 |h a ih=>
  intro b c h1 h2
  have lists:∀(l r s:List Tm),(∀t∈l,∀{b c:Tm},t.cmp b<0->b.cmp c<0->t.cmp c<0)->l.length=r.length->r.length=s.length->Tm.cmps l r<0->Tm.cmps r s<0->Tm.cmps l s<0:=by
   intro l
   induction l with
   |nil=>intro r s _ hl _ h;have:r=[]:=List.length_eq_zero_iff.1 hl.symm;subst this;simp[Tm.cmps] at h
   |cons x l ihl=>
    intro r s hx hl hl' h h'
    match r,s,hl,hl' with
    |y::r,z::s,hl,hl'=>
     simp only[Tm.cmps,zln] at*
     rcases h with h|⟨h,k⟩
     ·rcases h' with h'|⟨h',k'⟩
      ·exact .inl (hx x (by simp) h h')
      ·rw[Tm.cmp_zero] at h';subst h';exact .inl h
     ·rw[Tm.cmp_zero] at h
      subst h
      rcases h' with h'|⟨h',k'⟩
      ·exact .inl h'
      ·exact .inr ⟨h',ihl r s (fun t ht=>hx t (by simp[ht])) (by simpa using hl) (by simpa using hl') k k'⟩
  rw[Tm.zsM] at*
  simp only[zln,zrs,cmpI_zero,cb_zero] at*
  rcases h1 with h1|⟨h1,k1⟩
  ·rcases h2 with h2|⟨h2,k2⟩ <;> exact .inl (by omega)
  ·rcases h2 with h2|⟨h2,k2⟩
   ·exact .inl (by omega)
   ·refine .inr ⟨by omega,?_⟩
    rcases k1 with h3|⟨h3,k1⟩
    ·rcases k2 with h4|⟨h4,k2⟩ <;> exact .inl (by omega)
    ·rcases k2 with h4|⟨h4,k2⟩
     ·exact .inl (by omega)
     ·refine .inr ⟨by omega,?_⟩
      rcases k1 with h5|⟨h5,k1⟩
      ·rcases k2 with h6|⟨h6,k2⟩ <;> exact .inl (by omega)
      ·rcases k2 with h6|⟨h6,k2⟩
       ·exact .inl (by omega)
       ·refine .inr ⟨by omega,?_⟩
        rcases k1 with h7|⟨h7,k1⟩
        ·rcases k2 with h8|⟨h8,k2⟩
         ·exact .inl (zlp h7 h8)
         ·rw[<-h8];exact .inl h7
        ·rcases k2 with h8|⟨h8,k2⟩
         ·rw[h7];exact .inl h8
         ·exact .inr ⟨h7.trans h8,lists _ _ _ ih (by omega) (by omega) k1 k2⟩
theorem Tm.zsI{a b c:Tm}(h1:a.cmp b<=0)(h2:b.cmp c<=0):a.cmp c<=0:=by
 by_cases e1:a.cmp b=0
 ·rw[Tm.cmp_zero] at e1;subst e1;exact h2
 ·by_cases e2:b.cmp c=0
  ·rw[Tm.cmp_zero] at e2;subst e2;exact h1
  ·have:=Tm.zsS (show a.cmp b<0 by omega) (show b.cmp c<0 by omega);omega
end Go.Am

/- Sorting: insertion, merging, and that both come to the same. -/
namespace Go.Am
section
variable{α:Type} (c:α->α->Int)
structure Cmp:Prop where
 neg:∀x y,c y x= - c x y
 trans:∀{x y z},c x y<=0->c y z<=0->c x z<=0

def mrg:List α->List α->List α
 |[],B=>B
 |a::A,B=>go a A (mrg A) B
where
 go (a:α) (A:List α) (rest:List α->List α):List α->List α
 |[]=>a::A
 |b::B=>if c b a<0 then b::go a A rest B else a::rest (b::B)
theorem zd7(B:List α):mrg c [] B=B:=rfl
theorem zau:∀A:List α,mrg c A []=A
 |[]=>rfl
 |_::_=>rfl
theorem zaA(a:α)(A:List α)(b:α)(B:List α):mrg c (a::A) (b::B)=if c b a<0 then b::mrg c (a::A) B else a::mrg c A (b::B):=rfl
def Srt(l:List α):Prop:=l.Pairwise fun x y=>c x y<=0

variable{c}
theorem Cmp.self(h:Cmp c)(x:α):c x x=0:=by have:=h.neg x x;omega
theorem Cmp.lt_of_lt_le(h:Cmp c){x y z:α}(h1:c x y<0)(h2:c y z<=0):c x z<0:=by
 have h3:=h.neg x z
 by_cases h4:c x z<0
 ·exact h4
 ·have h5:c z x<=0:=by omega
  have h6:=h.trans h2 h5
  have:=h.neg x y
  omega
theorem Cmp.lt_of_le_lt(h:Cmp c){x y z:α}(h1:c x y<=0)(h2:c y z<0):c x z<0:=by
 have h3:=h.neg x z
 by_cases h4:c x z<0
 ·exact h4
 ·have h5:c z x<=0:=by omega
  have h6:=h.trans h5 h1
  have:=h.neg y z
  omega
theorem Srt.tail{a:α}{l:List α}(h:Srt c (a::l)):Srt c l:=(List.pairwise_cons.1 h).2
theorem Srt.head{a:α}{l:List α}(h:Srt c (a::l)):∀x∈l,c a x<=0:=(List.pairwise_cons.1 h).1
theorem zg2:∀(A B:List α),(mrg c A B).length=A.length+B.length
 |[],B=>by simp[mrg]
 |a::A,B=>by
  induction B with
  |nil=>simp[zau]
  |cons b B ih=>
   rw[zaA]
   split
   ·simp[ih];omega
   ·simp[zg2 A (b::B)];omega
theorem mem_mrg{x:α}:∀{A B:List α},x∈mrg c A B↔x∈A\/x∈B
 |[],B=>by simp[mrg]
 |a::A,B=>by
  induction B with
  |nil=>simp[zau]
  |cons b B ih=>
   rw[zaA]
   split
   ·rw[List.mem_cons,ih];simp[List.mem_cons];exact⟨fun h=>by rcases h with h|(h|h)|h <;> simp[h],fun h=>by rcases h with(h|h)|h|h <;> simp[h]⟩
   ·rw[List.mem_cons,mem_mrg];simp[List.mem_cons];exact⟨fun h=>by rcases h with h|h|h|h <;> simp[h],fun h=>by rcases h with(h|h)|h|h <;> simp[h]⟩
theorem zlq:∀(A B:List α),(mrg c A B).Perm (A++B)
 |[],B=>by simp[mrg]
 |a::A,B=>by
  induction B with
  |nil=>simp[zau]
  |cons b B ih=>
   rw[zaA]
   split
   ·exact(List.Perm.cons b ih).trans (List.perm_middle (l₁:=a::A) (l₂:=B) (a:=b)).symm
   ·exact List.Perm.cons a (zlq A (b::B))
theorem zoI(h:Cmp c):∀{A B:List α},Srt c A->Srt c B->Srt c (mrg c A B)
 |[],B,_,hB=>hB
 |a::A,B,hA,hB=>by
  induction B with
  |nil=>rw[zau];exact hA
  |cons b B ih=>
   rw[zaA]
   split
   ·rename_i hlt
    refine List.pairwise_cons.2 ⟨fun x hx=> ?_,ih hB.tail⟩
    rcases mem_mrg.1 hx with hx|hx
    ·rcases List.mem_cons.1 hx with rfl|hx
     ·omega
     ·exact h.trans (by omega) (hA.head x hx)
    ·exact hB.head x hx
   ·rename_i hlt
    refine List.pairwise_cons.2 ⟨fun x hx=> ?_,zoI h hA.tail hB⟩
    have hab:c a b<=0:=by have:=h.neg a b;omega
    rcases mem_mrg.1 hx with hx|hx
    ·exact hA.head x hx
    ·rcases List.mem_cons.1 hx with rfl|hx
     ·exact hab
     ·exact h.trans hab (hB.head x hx)
theorem zeX(h:Cmp c):∀{A B:List α},(∀a∈A,∀b∈B,c a b<=0)->mrg c A B=A++B
 |[],B,_=>rfl
 |a::A,[],_=>by rw[zau];simp
 |a::A,b::B,hh=>by
  rw[zaA,if_neg (by have:=hh a (by simp) b (by simp);have:=h.neg a b;omega)]
  rw[zeX h fun x hx y hy=>hh x (by simp[hx]) y hy]
  rfl
theorem zdq(h:Cmp c):∀{A U V B:List α},(∀a∈A,∀b∈B,c a b<=0)->(∀u∈U,∀v∈V,c v u<0)->mrg c (A++U) (V++B)=mrg c A V++mrg c U B
 |[],U,V,B,_,h2=>by
  rw[List.nil_append,zd7]
  induction V with
  |nil=>simp
  |cons v V ih=>
   cases U with
   |nil=>simp[zd7]
   |cons u U=>
    rw[List.cons_append,zaA,if_pos (h2 u (by simp) v (by simp)),ih fun x hx y hy=>h2 x hx y (by simp[hy])]
    rfl
 |a::A,U,V,B,h1,h2=>by
  induction V with
  |nil=>
   rw[List.nil_append,zau]
   cases B with
   |nil=>simp[zau]
   |cons b B=>
    rw[List.cons_append,zaA,if_neg (by have:=h1 a (by simp) b (by simp);have:=h.neg a b;omega)]
    have:=zdq h (A:=A) (U:=U) (V:=[]) (B:=b::B) (fun x hx y hy=>h1 x (by simp[hx]) y hy) (fun _ _ _ hv=>by simp at hv)
    rw[List.nil_append,zau] at this
    rw[this]
    rfl
  |cons v V ih=>
   rw[List.cons_append,List.cons_append,zaA,zaA]
   split
   ·have:=ih fun x hx y hy=>h2 x hx y (by simp[hy])
    rw[List.cons_append] at this
    rw[this]
    rfl
   ·have:=zdq h (A:=A) (U:=U) (V:=v::V) (B:=B) (fun x hx y hy=>h1 x (by simp[hx]) y hy) h2
    rw[List.cons_append] at this
    rw[this]
    rfl

def insC(c:α->α->Int)(t:α):List α->List α
 |[]=>[t]
 |x::l=>if c t x<0 then t::x::l else x::insC c t l
def isort(c:α->α->Int)(l:List α):List α:=l.foldl (fun s t=>insC c t s) []
theorem zfI(t:α):∀l:List α,insC c t l=mrg c l [t]
 |[]=>rfl
 |x::l=>by
  rw[zaA,insC]
  split
  ·rw[zau]
  ·rw[zfI t l]
theorem zlr(h:Cmp c){l:List α}(hs:Srt c l)(t:α):Srt c (insC c t l):=by
 rw[zfI]
 exact zoI h hs (List.pairwise_singleton _ _)
theorem zeA(h:Cmp c):∀(A B C:List α),Srt c A->Srt c B->Srt c C->mrg c (mrg c A B) C=mrg c A (mrg c B C)
 |[],B,C,_,_,_=>by simp[zd7]
 |a::A,[],C,_,_,_=>by simp[zau,zd7]
 |a::A,b::B,[],_,_,_=>by simp[zau]
 |a::A,b::B,k::C,hA,hB,hC=>by
  have e1:=zeA h A (b::B) (k::C) hA.tail hB hC
  have e2:=zeA h (a::A) B (k::C) hA hB.tail hC
  have e3:=zeA h (a::A) (b::B) C hA hB hC.tail
  have n1:=h.neg a b
  have n2:=h.neg b k
  have n3:=h.neg a k
  rw[zaA c a A b B,zaA c b B k C]
  by_cases hba:c b a<0
  ·rw[if_pos hba]
   by_cases hkb:c k b<0
   ·have hka:c k a<0:=h.lt_of_lt_le hkb (by omega)
    rw[if_pos hkb,zaA,if_pos hkb,zaA,if_pos hka,<-e3,zaA c a A b B,if_pos hba]
   ·rw[if_neg hkb,zaA,if_neg hkb,zaA,if_pos hba,e2]
  ·rw[if_neg hba]
   by_cases hkb:c k b<0
   ·rw[if_pos hkb,zaA,zaA]
    by_cases hka:c k a<0
    ·rw[if_pos hka,if_pos hka,<-e3,zaA c a A b B,if_neg hba]
    ·rw[if_neg hka,if_neg hka,e1,zaA c b B k C,if_pos hkb]
   ·have hka:¬c k a<0:=fun hka=>by
     have:=h.lt_of_lt_le hka (show c a b<=0 by omega)
     omega
    rw[if_neg hkb,zaA,if_neg hka,zaA,if_neg hba,e1,zaA c b B k C,if_neg hkb]
termination_by A B C=>A.length+B.length+C.length
theorem zeY(l:List α)(t:α):isort c (l++[t])=insC c t (isort c l):=by simp[isort]
theorem zdr(h:Cmp c):∀(l A:List α),Srt c A->l.foldl (fun s t=>insC c t s) A=mrg c A (isort c l)/\Srt c (l.foldl (fun s t=>insC c t s) A)
 |[],A,hA=>⟨by simp[isort,zau],hA⟩
 |t::l,A,hA=>by
  have h1:=zdr h l (insC c t A) (zlr h hA t)
  have h2:=zdr h l [t] (List.pairwise_singleton _ _)
  refine⟨?_,h1.2⟩
  have e:isort c (t::l)=l.foldl (fun s t=>insC c t s) [t]:=rfl
  have hs:Srt c (isort c l):=(zdr h l [] List.Pairwise.nil).2
  rw[List.foldl_cons,h1.1,e,h2.1,zfI,zeA h A [t] _ hA (List.pairwise_singleton _ _) hs]
theorem zcI(h:Cmp c)(l:List α):Srt c (isort c l):=(zdr h l [] List.Pairwise.nil).2
theorem zfl(h:Cmp c)(l r:List α):isort c (l++r)=mrg c (isort c l) (isort c r):=by
 have:=(zdr h r (isort c l) (zcI h l)).1
 rw[<-this]
 simp[isort]
theorem za2(l:List α):(isort c l).Perm l:=by
 have:∀(l A:List α),(l.foldl (fun s t=>insC c t s) A).Perm (A++l):=by
  intro l
  induction l with
  |nil=>intro A;simp
  |cons t l ih=>
   intro A
   refine(ih _).trans ?_
   show(insC c t A++l).Perm _
   rw[zfI]
   refine((zlq A [t]).append_right l).trans ?_
   simp
 simpa[isort] using this l []
theorem zdO{t:α}:∀{A B:List α},(∀x∈A,¬c t x<0)->(∀x∈B,c t x<0)->insC c t (A++B)=A++t::B
 |[],[],_,_=>rfl
 |[],b::B,_,h=>by rw[List.nil_append,insC,if_pos (h b (by simp))];rfl
 |a::A,B,h,h'=>by
  rw[List.cons_append,insC,if_neg (h a (by simp)),zdO (fun x hx=>h x (by simp[hx])) h']
  rfl
theorem zan(l:List α):(isort c l).length=l.length:=(za2 l).length_eq
end
theorem zbL{α:Type}(l:List α):l=[]\/∃(r:List α) (x:α),l=r++[x]:=by
 rcases List.eq_nil_or_concat l with h|⟨r,x,h⟩
 ·exact .inl h
 ·exact .inr ⟨r,x,by simpa using h⟩
theorem zds{α:Type}{L R:List α}{x:α}{i:Nat}(h:i=L.length):(L++x::R)[i]? =some x:=by
 subst h;simp
theorem zdt{α:Type}{L R:List α}{x y:α}{i:Nat}(h:i=L.length):(L++x::R).set i y=L++y::R:=by
 subst h;simp
end Go.Am
namespace Go.Am

section
variable{α:Type} [Inhabited α]
def at'(xs:List α)(i:Nat):α:=(xs[i]?).getD default
theorem zd8{xs:List α}{i:Nat}(h:i<xs.length):xs[i]? =some (at' xs i):=by
 unfold at'
 rw[List.getElem?_eq_getElem h]
 rfl
theorem zqO{P A R:List α}{a i:Nat}(hP:P.length=a)(hi:i<A.length):at' (P++A++R) (a+i)=at' A i:=by
 unfold at'
 rw[List.append_assoc,List.getElem?_append_right (by omega),List.getElem?_append_left (by omega)]
 congr 2
 omega
theorem zcw{c:α->α->Int}(hC:Cmp c){A:List α}(hs:Srt c A){i j:Nat}(hij:i<=j)(hj:j<A.length):c (at' A i) (at' A j)<=0:=by
 rcases Nat.eq_or_lt_of_le hij with rfl|h
 ·have:=hC.self (at' A i);omega
 ·have h1:at' A i=A[i]:=by unfold at';rw[List.getElem?_eq_getElem (by omega)];rfl
  have h2:at' A j=A[j]:=by unfold at';rw[List.getElem?_eq_getElem hj];rfl
  rw[h1,h2]
  exact List.pairwise_iff_getElem.1 hs i j (by omega) hj h
theorem zc4{A:List α}{x:α}(h:x∈A):∃i,i<A.length/\x=at' A i:=by
 obtain⟨i,hi⟩:=List.mem_iff_getElem?.1 h
 refine⟨i,(List.getElem?_eq_some_iff.1 hi).1,?_⟩
 unfold at'
 rw[hi]
 rfl
theorem zr6{A:List α}{i:Nat}(h:i<A.length):at' A i∈A:=List.mem_of_getElem? (zd8 h)
theorem zeZ{A:List α}{k i:Nat}(h:i<k):at' (A.take k) i=at' A i:=by
 unfold at';rw[List.getElem?_take_of_lt h]
theorem ze0{A:List α}{k i:Nat}:at' (A.drop k) i=at' A (k+i):=by
 unfold at';rw[List.getElem?_drop]
end
end Go.Am
namespace Go.Am
section
variable{α:Type} {c:α->α->Int}
inductive Blk(c:α->α->Int)(n:Nat):List α->List α->Prop
 |last (x:List α) (h:x.length<=n):Blk c n x (isort c x)
 |cons (x r d:List α) (h:x.length=n) (k:Blk c n r d):Blk c n (x++r) (isort c x++d)
inductive Full(c:α->α->Int)(n:Nat):List α->List α->Prop
 |nil:Full c n [] []
 |snoc (x r d:List α) (h:x.length=n) (k:Full c n r d):Full c n (r++x) (d++isort c x)
theorem Full.blk{n:Nat}{r d r' d':List α}(h:Full c n r d)(k:Blk c n r' d'):Blk c n (r++r') (d++d'):=by
 induction h generalizing r' d' with
 |nil=>exact k
 |snoc x r d hx _ ih=>
  have:=ih (.cons x r' d' hx k)
  simpa using this
theorem Full.length{n:Nat}{r d:List α}(h:Full c n r d):d.length=r.length:=by
 induction h with
 |nil=>rfl
 |snoc x r d hx _ ih=>simp[ih,zan]
theorem Full.mem{n:Nat}{r d:List α}(h:Full c n r d){x:α}:x∈d↔x∈r:=by
 induction h with
 |nil=>simp
 |snoc y r d hx _ ih=>simp[ih,(za2 y).mem_iff]
theorem Blk.length{n:Nat}{r d:List α}(h:Blk c n r d):d.length=r.length:=by
 induction h with
 |last x h=>exact zan x
 |cons x r d hx _ ih=>simp[ih,zan]
theorem Blk.mem{n:Nat}{r d:List α}(h:Blk c n r d){x:α}:x∈d↔x∈r:=by
 induction h with
 |last y h=>exact(za2 y).mem_iff
 |cons y r d hx _ ih=>simp[ih,(za2 y).mem_iff]
theorem Blk.whole{n:Nat}{r d:List α}(h:Blk c n r d)(hr:r.length<=n):d=isort c r:=by
 cases h with
 |last x h=>rfl
 |cons x r d hx k=>
  have:r=[]:=List.length_eq_zero_iff.1 (by simp at hr;omega)
  subst this
  have hd:d=[]:=List.length_eq_zero_iff.1 (by rw[k.length];rfl)
  subst hd
  simp
theorem Blk.two{n:Nat}{r d:List α}(h:Blk c n r d)(hn:0<n)(hr:n<r.length):∃x y r2 d2,r=x++y++r2/\d=isort c x++isort c y++d2/\x.length=n/\y.length<=n/\0<y.length/\Blk c n r2 d2/\(y.length<n->r2=[]):=by
 cases h with
 |last x h=>omega
 |cons x r1 d1 hx k=>
  cases k with
  |last _ hy=>exact⟨x,r1,[],[],by simp,by simp,hx,hy,by simp at hr;omega,.last [] (by simp),fun _=>rfl⟩
  |cons y r2 d2 hy k=>exact⟨x,y,r2,d2,by simp,by simp,hx,by omega,by omega,k,fun h=>by omega⟩
end
end Go.Am

/- Terms out of values, and comparing by what they stand for. -/
namespace Go.Am
def zfm(t:Tm):Tm:=(t.args[0]?).getD (.mk 0 0 [] [])
def zgi(a b:Tm):Int:=(zfm a).cmp (zfm b)
end Go.Am

/- Flat clauses as plain data. -/
namespace Go.Am
structure Pr where
 name:List UInt8
 arity:Int
 aux:Int
structure Gl where
 kind:Int
 pred:Pr
 args:List Tm
 var:Int
structure Fl where
 pred:Pr
 args:List Tm
 goals:List Gl
def Pr.pv(p:Pr):PV:=.agg [(none,.str p.name),(none,.int .i64 p.arity),(none,.int .i64 p.aux)]
def Gl.pv(g:Gl):PV:=.agg [(none,.int .i64 g.kind),(some 3,g.pred.pv),(none,.sl (some 4) (Tm.pvs g.args)),(none,.int .i64 g.var)]
def Gl.pvs(l:List Gl):List PV:=l.map Gl.pv
def Fl.pv(f:Fl):PV:=.agg [(some 3,f.pred.pv),(none,.sl (some 4) (Tm.pvs f.args)),(none,.sl (some 6) (Gl.pvs f.goals))]
def Fl.av(f:Fl):AV:=.pv (some 5) f.pv
def Pr.ok(p:Pr):Bool:=
 if p.aux=0 then decide ((p.name.length:Int)<=100) && decide (0<=p.arity) && decide (p.arity<=8)
 else decide (p.name=[]) && decide (1<=p.aux) && decide (p.aux<=1099511627776) && decide (0<=p.arity) && decide (p.arity<=4096)
def Pr.zero(p:Pr):Bool:=decide (p.name=[]) && decide (p.arity=0) && decide (p.aux=0)
def zrt(left:Int):List Tm->Bool × Int
 |[]=>(true,left)
 |t::r=>if t.valid=true then if left - t.size<0 then(false,left - t.size) else zrt (left - t.size) r else(false,left)
def Gl.bare(g:Gl):Bool:=g.pred.zero && decide ((g.args.length:Int)=0)
def Gl.step(called:Bool)(left:Int)(g:Gl):Option (Bool × Int):=
 if g.kind=1 then
  if(g.pred.ok && decide ((g.args.length:Int)=g.pred.arity) && decide (g.var=0))=true then match zrt left g.args with
   |(true,l)=>some (true,l)
   |_=>none
  else none
 else if g.kind=2 then if(g.bare && decide (0<=g.var) && decide (g.var<=1099511627776) && !called)=true then some (called,left) else none
 else if g.kind=3\/g.kind=4 then if(g.bare && decide (0<=g.var) && decide (g.var<=1099511627776))=true then some (called,left) else none
 else if g.kind=5 then if(g.bare && decide (g.var=0))=true then some (called,left) else none
 else none
def Gl.steps:Bool->Int->List Gl->Bool
 |_,_,[]=>true
 |called,left,g::r=>match g.step called left with
  |some (c,l)=>Gl.steps c l r
  |none=>false
def Fl.valid(f:Fl):Bool:=
 f.pred.ok && decide ((f.args.length:Int)=f.pred.arity) && match zrt 131072 f.args with
  |(true,l)=>Gl.steps false l f.goals
  |_=>false

theorem zg3{t:Tm}(h:t.valid=true):t.size<=2000:=by
 unfold Tm.valid at h
 simp only[Bool.and_eq_true,decide_eq_true_eq] at h
 exact h.1
end Go.Am
namespace Go.Am
end Go.Am
namespace Go.Am
end Go.Am
namespace Go.Am
theorem Gl.pvs_len(l:List Gl):(Gl.pvs l).length=l.length:=by simp[Gl.pvs]
theorem Gl.pvs_get{l:List Gl}{i:Nat}{g:Gl}(h:l[i]? =some g):(Gl.pvs l)[i]? =some g.pv:=by simp[Gl.pvs,h]
end Go.Am
namespace Go.Am
end Go.Am
namespace Go.Am
end Go.Am
namespace Go.Am
end Go.Am
namespace Go.Am
def Gl.op(g:Gl):Bool:=decide (g.kind=2) || decide (g.kind=3) || decide (g.kind=4)
def Gl.next(calls:Int)(g:Gl):Int:=if g.kind=1 then calls+1 else calls
end Go.Am

/- Heaps of which a part is known. -/
namespace Go.Am
theorem zoJ{sh:Sh}{hp:Heap}{r:Nat}{v:AV}(h:hp[r]? =some (.box sh v)):aload sh hp (.ptr r 0)=some v:=by
 simp[aload,h]
theorem zbT{Γ:Oracle}{b:Nat}{hp:Heap}{K:AV->Heap->Prop}{Kp:PV->Heap->Prop}{y:AV}{g:FuncId}{first captured as':List AV}(h:za4 y=some (g,first,captured)):opK (aOp Γ b .call (y::as') hp) K Kp=zme (Γ .fn g (first++as'++captured) hp) K Kp:=by
 have gen:zcz Γ hp (y::as')=(match Γ .fn g (first++as'++captured) hp with
   |some (.ret v,hp')=>some (OpRes.val v hp')
   |some (.panic v,hp')=>some (.panic v hp')
   |none=>none):=by
  cases y <;> first|(cases h;done)|(simp only[zcz,h];rfl)|(simp only[zcz,h])
 simp only[aOp,gen]
 cases Γ .fn g (first++as'++captured) hp with
 |none=>rfl
 |some r=>obtain⟨r,hp'⟩:=r;cases r <;> rfl
variable{F:FuncId->Option AFn} {prim:FuncId->Option zbW}
theorem zqf{α:Type}(N:Nat)(inv:Nat->α->Prop)(sti:Nat->α->St){b:Nat}{keep:List Nat}{c:ACode}{st:St}{Q:AExit->St->Prop}(a0:α)(h0:inv 0 a0/\(⟨st.fr.keep keep,st.hp⟩:St)=sti 0 a0)
  (h1:∀i a,i<N->inv i a->W (sem F prim) (sloop F prim) b c (sti i a) (seqK (fun st'=>∃a',inv (i+1) a'/\(⟨st'.fr.keep keep,collect st.hp.length b (st'.fr.keep keep) st'.hp⟩:St)=sti (i+1) a') Q))
  (h2:∀a,inv N a->W (sem F prim) (sloop F prim) b c (sti N a) (seqK (fun _=>False) Q)):W (sem F prim) (sloop F prim) b (.loop keep c) st Q:=by
 refine zaE (fun n s=>∃i a,n=N - i/\i<=N/\inv i a/\s=sti i a) (n:=N) ⟨0,a0,rfl,Nat.zero_le _,h0.1,h0.2⟩ ?_
 rintro n s ⟨i,a,hn,hi,hinv,rfl⟩
 by_cases h:i<N
 ·refine zgf (h1 i a h hinv) fun e st' he=> ?_
  cases e with
  |normal=>
   obtain⟨a',k1,k2⟩:=he
   exact⟨N - (i+1),by omega,i+1,a',rfl,by omega,k1,k2⟩
  |exit j=>exact he
  |ret=>exact he
  |panic v=>exact he
 ·obtain rfl:i=N:=by omega
  refine zgf (h2 a hinv) fun e st' he=> ?_
  cases e with
  |normal=>exact he.elim
  |exit j=>exact he
  |ret=>exact he
  |panic v=>exact he
end Go.Am

/- Neighbours that are the same, dropped; what sorting and dropping leaves. -/
namespace Go.Am
def zfn(s:List Tm)(x:Tm):List Tm:=match s.getLast? with
 |some y=>if x.cmp y=0 then s else s++[x]
 |none=>[x]
def dd(l:List Tm):List Tm:=l.foldl zfn []
theorem zgj(l:List Tm)(x:Tm):dd (l++[x])=zfn (dd l) x:=by simp[dd]
theorem zkK(s:List Tm)(x:Tm):(zfn s x).getLast? =some x:=by
 unfold zfn
 split
 ·rename_i y hy
  split
  ·rename_i h
   rw[hy,Tm.cmp_zero.1 h]
  ·simp
 ·rfl
theorem zkL:∀l:List Tm,(dd l).getLast? =l.getLast? :=by
 intro l
 rcases zbL l with rfl|⟨r,x,rfl⟩
 ·rfl
 ·rw[zgj,zkK];simp
theorem zqg{l:List Tm}{x y:Tm}(h:l.getLast? =some y)(hc:¬x.cmp y=0):dd (l++[x])=dd l++[x]:=by
 rw[zgj]
 unfold zfn
 rw[zkL,h]
 simp[hc]
theorem zqh{l:List Tm}{x y:Tm}(h:l.getLast? =some y)(hc:x.cmp y=0):dd (l++[x])=dd l:=by
 rw[zgj]
 unfold zfn
 rw[zkL,h]
 simp[hc]
theorem zeB(l:List Tm):(dd l).length<=l.length:=by
 have:∀n (l:List Tm),l.length=n->(dd l).length<=n:=by
  intro n
  induction n with
  |zero=>intro l h;rw[List.length_eq_zero_iff.1 h];simp[dd]
  |succ n ih=>
   intro l h
   rcases zbL l with rfl|⟨r,x,rfl⟩
   ·simp at h
   ·have:=ih r (by simpa using h)
    rw[zgj]
    unfold zfn
    split
    ·split
     ·omega
     ·simp;omega
    ·simp
 exact this _ l rfl
theorem mem_dd{t:Tm}:∀{l:List Tm},t∈dd l↔t∈l:=by
 have:∀n (l:List Tm),l.length=n->(t∈dd l↔t∈l):=by
  intro n
  induction n with
  |zero=>intro l h;rw[List.length_eq_zero_iff.1 h];simp[dd]
  |succ n ih=>
   intro l h
   rcases zbL l with rfl|⟨r,x,rfl⟩
   ·simp at h
   ·have i:=ih r (by simpa using h)
    rw[zgj]
    unfold zfn
    split
    ·rename_i y hy
     split
     ·rename_i hc
      have:=Tm.cmp_zero.1 hc
      subst this
      have hm:x∈dd r:=List.mem_of_getLast? hy
      rw[i,List.mem_append]
      refine⟨.inl,fun h=> ?_⟩
      rcases h with h|h
      ·exact h
      ·obtain rfl:t=x:=by simpa using h
       exact i.1 hm
     ·rw[List.mem_append,List.mem_append,i]
    ·rename_i hn
     have hr:r=[]:=by
      rw[zkL] at hn
      exact List.getLast?_eq_none_iff.1 hn
     simp[hr]
 intro l
 exact this _ l rfl
end Go.Am

/- What a law is given, as values without references. -/
namespace Go.Am
variable{P:Program} {H:Type} {enc:TypeId × Value->H} {w:World} {I:Nat->Prop}

theorem zeC{α β:Type}{g:α->Option β}:∀{l:List α} {xs:List β},l.mapM g=some xs->l.length=xs.length/\∀(i:Nat) (a:α) (x:β),l[i]? =some a->xs[i]? =some x->g a=some x
 |[],xs,h=>by
  simp at h
  subst h
  exact⟨rfl,fun i a x h=>by simp at h⟩
 |a::r,xs,h=>by
  rw[List.mapM_cons] at h
  cases ha:g a with
  |none=>rw[ha] at h;cases h
  |some y=>
   rw[ha] at h
   cases hr:r.mapM g with
   |none=>rw[hr] at h;cases h
   |some ys=>
    rw[hr] at h
    cases h
    obtain⟨h1,h2⟩:=zeC hr
    refine⟨by simp[h1],fun i b x hb hx=> ?_⟩
    cases i with
    |zero=>simp at hb hx;subst hb;subst hx;exact ha
    |succ i=>exact h2 i b x (by simpa using hb) (by simpa using hx)

def zdU(sh:Sh)(cs:List Value):Value:=
 match sh with
 |none=>cs.headD .nilIface
 |some _=>.agg cs.toArray

def zdP(P:Program)(n:Nat):Nat->List Field->Bool
 |o,[]=>decide (o=n)
 |o,f::r=>decide (f.offset=o) && okT P f.type && zdP P n (o+(shOf P f.type).size) r
def zbB(P:Program)(g:TypeId->DataW H->Option PV):List Field->List (DataW H)->Option (List (Sh × PV))
 |[],[]=>some []
 |f::fs,d::ds=>match g f.type d with
  |none=>none
  |some p=>match zbB P g fs ds with
   |some l=>some ((shOf P f.type,p)::l)
   |none=>none
 |_,_=>none
def zcX(g:DataW H->Option PV):List (DataW H)->Option (List PV)
 |[]=>some []
 |d::ds=>match g d with
  |none=>none
  |some p=>match zcX g ds with
   |some l=>some (p::l)
   |none=>none
def zbU(P:Program):Nat->TypeId->DataW H->Option PV
 |0,_,_=>none
 |n+1,t,d=>match P.underlying t,d with
  |some .bool,.lit (.bool b)=>some (.bool b)
  |some (.int k),.lit (.int k' n)=>if k'=k/\(Lit.int k n).wf=true then some (.int k n) else none
  |some .string,.lit (.string l)=>some (.str l)
  |some (.slice e),.nil=>some (.sl (shOf P e) [])
  |some (.slice e),.slice es _=>if okT P e=true then match zcX (zbU P n e) es with
    |some l=>some (.sl (shOf P e) l)
    |none=>none
   else none
  |some (.struct fs),.agg parts=>if zdP P (P.cellsOf t) 0 fs.toList=true then match zbB P (zbU P n) fs.toList parts with
    |some l=>some (.agg l)
    |none=>none
   else none
  |_,_=>none

theorem zjt{t:TypeId}(h:okT P t=true):P.cellsOf t=(shOf P t).size/\0<P.cellsOf t:=by
 unfold okT at h
 split at h
 ·rename_i i _ hi _
  simp only[Bool.and_eq_true,beq_iff_eq,decide_eq_true_eq] at h
  have:P.cellsOf t=i.size:=by simp[Program.cellsOf,hi]
  omega
 ·cases h

theorem zg4{base:Nat}{a:Addr}{n:Nat}{l:List Value}(h:w.cells? base a n=some l)(hn:0<n):a.spot=none/\∃cs t fr,w.heap[a.block]? =some (.cells cs t fr)/\l=(cs.toList.drop a.off).take n/\l.length=n:=by
 unfold World.cells? at h
 split at h
 ·obtain⟨h1,h2⟩:=zeC h
  rw[List.length_range] at h1
  have rd:∀i,i<n->∃v,l[i]? =some v/\w.cell? (a.add i)=some v:=by
   intro i hi
   have hl:l[i]? =some l[i]:=List.getElem?_eq_getElem (by omega)
   exact⟨l[i],hl,h2 i i l[i] (by simp[hi]) hl⟩
  obtain⟨v0,hv0,hc0⟩:=rd 0 hn
  unfold World.cell? at hc0
  split at hc0
  ·rename_i cs t fr hb
   split at hc0
   ·cases hc0
   ·rename_i hsp
    have hb':w.heap[a.block]? =some (.cells cs t fr):=hb
    have hsp':a.spot=none:=by simpa[Addr.add] using hsp
    refine⟨hsp',cs,t,fr,hb',?_,h1.symm⟩
    apply List.ext_getElem?
    intro i
    by_cases hi:i<n
    ·obtain⟨v,e1,e2⟩:=rd i hi
     rw[e1]
     have ea:a.add i=⟨a.block,a.off+i,none⟩:=by
      unfold Addr.add
      split
      ·rename_i h0;subst h0;cases a;simp_all
      ·rfl
     rw[ea] at e2
     simp only[World.cell?,hb',Option.isSome_none,Bool.false_eq_true,if_false] at e2
     rw[List.getElem?_take_of_lt hi,List.getElem?_drop]
     simpa using e2.symm
    ·rw[List.getElem?_eq_none (by omega),List.getElem?_eq_none (by simp;omega)]
  ·cases hc0
 ·cases h

theorem zju{g:TypeId->List Value->Option (DataW H × List MemPlace)}{f:TypeId->DataW H->Option PV}
  (hg:∀t cs d ps p,g t cs=some (d,ps)->okT P t=true->f t d=some p->PR w I p (zdU (shOf P t) cs)/\vshp (zdU (shOf P t) cs)=shOf P t/\(zdU (shOf P t) cs).cells.toList=cs)(cs:List Value):
  ∀(fs:List Field) (o:Nat) (xs:List (DataW H × List MemPlace)) (l:List (Sh × PV)),zdP P cs.length o fs=true->fs.mapM (fun fd=>g fd.type ((cs.drop fd.offset).take (P.cellsOf fd.type)))=some xs->zbB P f fs (xs.map (·.1))=some l->
  ∃vs:List Value,l.length=vs.length/\(∀(i:Nat) (x:Sh × PV) (v:Value),l[i]? =some x->vs[i]? =some v->vshp v=x.1)/\(∀(i:Nat) (x:Sh × PV) (v:Value),l[i]? =some x->vs[i]? =some v->PR w I x.2 v)/\cellsOf vs=cs.drop o
 |[],o,xs,l,hok,hm,hp=>by
  simp[zdP] at hok
  simp at hm
  subst hm
  simp[zbB] at hp
  subst hp
  exact⟨[],rfl,fun i x v h=>by simp at h,fun i x v h=>by simp at h,by simp[cellsOf,hok]⟩
 |fd::r,o,xs,l,hok,hm,hp=>by
  simp only[zdP,Bool.and_eq_true,decide_eq_true_eq] at hok
  obtain⟨⟨h1,h2⟩,h3⟩:=hok
  rw[List.mapM_cons] at hm
  cases ha:g fd.type ((cs.drop fd.offset).take (P.cellsOf fd.type)) with
  |none=>rw[ha] at hm;cases hm
  |some y=>
   rw[ha] at hm
   cases hr:r.mapM (fun fd=>g fd.type ((cs.drop fd.offset).take (P.cellsOf fd.type))) with
   |none=>rw[hr] at hm;cases hm
   |some ys=>
    rw[hr] at hm
    cases hm
    simp only[List.map_cons,zbB] at hp
    split at hp
    ·cases hp
    ·rename_i p hfp
     split at hp
     ·rename_i l' hl'
      cases hp
      obtain⟨k1,k2,k3⟩:=hg _ _ y.1 y.2 p ha h2 hfp
      obtain⟨vs,e1,e2,e3,e4⟩:=zju hg cs r _ ys l' h3 hr hl'
      refine⟨zdU (shOf P fd.type) ((cs.drop fd.offset).take (P.cellsOf fd.type))::vs,by simp[e1],?_,?_,?_⟩
      ·intro i x v hx hv
       cases i with
       |zero=>simp at hx hv;subst hx;subst hv;exact k2
       |succ i=>exact e2 i x v (by simpa using hx) (by simpa using hv)
      ·intro i x v hx hv
       cases i with
       |zero=>simp at hx hv;subst hx;subst hv;exact k1
       |succ i=>exact e3 i x v (by simpa using hx) (by simpa using hv)
      ·simp only[cellsOf,List.flatMap_cons,k3]
       have e4':List.flatMap (fun v=>v.cells.toList) vs=cs.drop (o+(shOf P fd.type).size):=e4
       rw[e4',h1,(zjt h2).1,<-List.drop_drop,List.take_append_drop]
     ·cases hp

theorem zls{f:DataW H->Option PV}{g:Nat->Option (DataW H × List MemPlace)}{R:Nat->PV->Prop}
  (hg:∀i d ps p,g i=some (d,ps)->f d=some p->R i p):
  ∀(is:List Nat) (xs:List (DataW H × List MemPlace)) (l:List PV),is.mapM g=some xs->zcX f (xs.map (·.1))=some l->
  l.length=is.length/\∀(k i:Nat) (p:PV),is[k]? =some i->l[k]? =some p->R i p
 |[],xs,l,hm,hp=>by
  simp at hm
  subst hm
  simp[zcX] at hp
  subst hp
  exact⟨rfl,fun k i p h=>by simp at h⟩
 |i::r,xs,l,hm,hp=>by
  rw[List.mapM_cons] at hm
  cases ha:g i with
  |none=>rw[ha] at hm;cases hm
  |some y=>
   rw[ha] at hm
   cases hr:r.mapM g with
   |none=>rw[hr] at hm;cases hm
   |some ys=>
    rw[hr] at hm
    cases hm
    simp only[List.map_cons,zcX] at hp
    split at hp
    ·cases hp
    ·rename_i p hfp
     split at hp
     ·rename_i l' hl'
      cases hp
      obtain⟨e1,e2⟩:=zls hg r ys l' hr hl'
      refine⟨by simp[e1],fun k j q hk hq=> ?_⟩
      cases k with
      |zero=>simp at hk hq;subst hk;subst hq;exact hg i y.1 y.2 p ha hfp
      |succ k=>exact e2 k j q (by simpa using hk) (by simpa using hq)
     ·cases hp

theorem zg5(f:Nat->Value)(l:List Value)(o n:Nat):∀m:Nat,(∀i,i<m->(f i).cells.toList=(l.drop (o+i*n)).take n)->cellsOf ((List.range m).map f)=(l.drop o).take (m*n)
 |0,_=>by simp[cellsOf]
 |m+1,h=>by
  have ih:=zg5 f l o n m fun i hi=>h i (by omega)
  unfold cellsOf at ih ⊢
  rw[List.range_succ,List.map_append,List.flatMap_append,ih]
  simp only[List.map_cons,List.map_nil,List.flatMap_cons,List.flatMap_nil,List.append_nil]
  rw[h m (by omega),Nat.add_mul,Nat.one_mul,List.take_add,List.drop_drop]

theorem zru(hI:∀b,I b){base:Nat}{spare:Nat->Bool}{held:Bool}:∀(fuel:Nat) (n:Nat) (t:TypeId) (cs:List Value) (d:DataW H) (ps:List MemPlace) (p:PV),DataW.trod enc P w base spare held fuel t cs=some (d,ps)->okT P t=true->zbU P n t d=some p->
  PR w I p (zdU (shOf P t) cs)/\vshp (zdU (shOf P t) cs)=shOf P t/\(zdU (shOf P t) cs).cells.toList=cs:=by
 intro fuel
 induction fuel with
 |zero=>intro n t cs d ps p h;cases h
 |succ fuel ih=>
  intro n t cs d ps p h hok hp
  cases n with
  |zero=>cases hp
  |succ n=>
  simp only[zbU] at hp
  cases hu:P.underlying t with
  |none=>rw[hu] at hp;cases hp
  |some u=>
   rw[hu] at hp
   unfold DataW.trod at h
   rw[hu] at h
   cases u with
   |bool=>
    have hs:shOf P t=none:=by unfold shOf;rw[hu]
    rw[hs]
    simp only at h hp
    split at h <;> first|contradiction|(exfalso;clear ih;simp_all;done)|skip
    ·cases h
     cases hp
     exact⟨.bool _,rfl,rfl⟩
   |int k=>
    have hs:shOf P t=none:=by unfold shOf;rw[hu]
    rw[hs]
    simp only at h hp
    split at h <;> first|contradiction|(exfalso;clear ih;simp_all;done)|skip
    ·rename_i e
     split at h
     ·rename_i e2
      obtain⟨e2,e3⟩:=e2
      subst e2
      cases h
      cases e
      simp only[e3,and_self,if_true] at hp
      cases hp
      exact⟨.int _ _,rfl,rfl⟩
     ·cases h
   |string=>
    have hs:shOf P t=none:=by unfold shOf;rw[hu]
    rw[hs]
    simp only at h hp
    split at h <;> first|contradiction|(exfalso;clear ih;simp_all;done)|skip
    ·split at h
     ·cases h
      cases hp
      exact⟨.str _,rfl,rfl⟩
     ·cases h
   |slice e=>
    have hs:shOf P t=none:=by unfold shOf;rw[hu]
    rw[hs]
    simp only at h hp
    split at h <;> first|contradiction|(exfalso;clear ih;simp_all;done)|skip
    ·cases h
     cases hp
     exact⟨.nilsl _ _ _,rfl,rfl⟩
    ·rename_i e' a len cap hx
     cases hx
     split at h
     ·rename_i hb
      obtain⟨hb1,hb2,hb3⟩:=hb
      rw[Option.bind_eq_some_iff] at h
      obtain⟨elems,hm,h⟩:=h
      rw[Option.map_eq_some_iff] at h
      obtain⟨rest,hr,h⟩:=h
      cases h
      simp only at hp
      split at hp
      ·rename_i hoe
       split at hp
       ·rename_i l hl
        cases hp
        obtain⟨hc1,hc2⟩:=zjt hoe
        obtain⟨k1,k2⟩:=zls (R:=fun i p=>PR w I p (zdU (shOf P e) (((w.cells? base (a.add (i*P.cellsOf e)) (P.cellsOf e))).getD []))/\vshp (zdU (shOf P e) (((w.cells? base (a.add (i*P.cellsOf e)) (P.cellsOf e))).getD []))=shOf P e/\(zdU (shOf P e) (((w.cells? base (a.add (i*P.cellsOf e)) (P.cellsOf e))).getD [])).cells.toList=((w.cells? base (a.add (i*P.cellsOf e)) (P.cellsOf e))).getD []) (fun i d ps p hg hf=>by
         rw[Option.bind_eq_some_iff] at hg
         obtain⟨c,hc,hg⟩:=hg
         rw[hc]
         exact ih n e c d ps p hg hoe hf) _ _ _ hm hl
        rw[List.length_range] at k1
        refine⟨?_,rfl,rfl⟩
        have hel:elems.length=len:=by have:=(zeC hm).1;simpa using this.symm
        cases len with
        |zero=>
         have:l=[]:=List.length_eq_zero_iff.1 (by omega)
         subst this
         exact .nilsl _ _ _
        |succ m=>
         have rd:∀i,i<m+1->∃c,w.cells? base (a.add (i*P.cellsOf e)) (P.cellsOf e)=some c:=fun i hi=>by
          have hx:elems[i]? =some elems[i]:=List.getElem?_eq_getElem (by omega)
          have:=(zeC hm).2 i i elems[i] (by simp[hi]) hx
          rw[Option.bind_eq_some_iff] at this
          obtain⟨c,hc,_⟩:=this
          exact⟨c,hc⟩
         obtain⟨c0,hc0⟩:=rd 0 (by omega)
         obtain⟨s0,cs',t',fr',hblk,_,_⟩:=zg4 hc0 hc2
         have ea0:a.add (0*P.cellsOf e)=a:=by simp[Addr.add]
         rw[ea0] at s0 hblk
         have seg:∀i,i<m+1->(w.cells? base (a.add (i*P.cellsOf e)) (P.cellsOf e)).getD []=(cs'.toList.drop (a.off+i*P.cellsOf e)).take (P.cellsOf e)/\((w.cells? base (a.add (i*P.cellsOf e)) (P.cellsOf e)).getD []).length=P.cellsOf e:=fun i hi=>by
          obtain⟨c,hc⟩:=rd i hi
          obtain⟨_,cs2,t2,fr2,hb2,e2,e3⟩:=zg4 hc hc2
          have eo:(a.add (i*P.cellsOf e)).off=a.off+i*P.cellsOf e:=by unfold Addr.add;split <;> simp_all
          have eb:(a.add (i*P.cellsOf e)).block=a.block:=by unfold Addr.add;split <;> rfl
          rw[eb,hblk] at hb2
          cases hb2
          rw[hc,Option.getD_some]
          rw[eo] at e2
          exact⟨e2,e3⟩
         have ha:a=⟨a.block,a.off,none⟩:=by cases a;simp_all
         have hll:l.length=m+1:=k1
         rw[ha]
         have hgoal:PR w I (.sl (shOf P e) l) (.slice (some ⟨a.block,a.off,none⟩) l.length cap):=by
          refine .sl _ _ a.block a.off cap cs' t' fr' ((List.range (m+1)).map fun i=>zdU (shOf P e) ((w.cells? base (a.add (i*P.cellsOf e)) (P.cellsOf e)).getD [])) (by simp[hll]) (hI _) hblk ?_ ?_ ?_ (by omega)
          ·intro i p v hp hv
           have hi:i<m+1:=by rw[<-hll];exact(List.getElem?_eq_some_iff.1 hp).1
           simp[hi] at hv
           subst hv
           exact(k2 i i p (by simp[hi]) hp).2.1
          ·intro i p v hp hv
           have hi:i<m+1:=by rw[<-hll];exact(List.getElem?_eq_some_iff.1 hp).1
           simp[hi] at hv
           subst hv
           exact(k2 i i p (by simp[hi]) hp).1
          ·have cl:∀i,i<m+1->(zdU (shOf P e) ((w.cells? base (a.add (i*P.cellsOf e)) (P.cellsOf e)).getD [])).cells.toList=(cs'.toList.drop (a.off+i*P.cellsOf e)).take (P.cellsOf e):=fun i hi=>by
            rw[<-(seg i hi).1]
            exact(k2 i i l[i] (by simp[hi]) (List.getElem?_eq_getElem (by omega))).2.2
           rw[hll,<-hc1]
           exact zg5 (fun i=>zdU (shOf P e) ((w.cells? base (a.add (i*P.cellsOf e)) (P.cellsOf e)).getD [])) cs'.toList a.off (P.cellsOf e) (m+1) cl
         rw[hll] at hgoal
         exact hgoal
       ·cases hp
      ·cases hp
     ·cases h
   |struct fs=>
    have hs:shOf P t=some (P.cellsOf t):=by unfold shOf;rw[hu]
    rw[hs]
    simp only at h hp
    split at h <;> first|contradiction|(exfalso;clear ih;simp_all;done)|skip
    ·rename_i hlen
     rw[Option.map_eq_some_iff] at h
     obtain⟨xs,hm,h⟩:=h
     cases h
     simp only at hp
     split at hp
     ·rename_i hfo
      split at hp
      ·rename_i l hl
       cases hp
       rw[<-hlen] at hfo
       obtain⟨vs,e1,e2,e3,e4⟩:=zju (w:=w) (I:=I) (fun t cs d ps p hg ho hf=>ih n t cs d ps p hg ho hf) cs fs.toList 0 xs l hfo hm hl
       rw[List.drop_zero] at e4
       refine⟨?_,?_,?_⟩
       ·show PR w I (.agg l) (.agg cs.toArray)
        rw[<-e4]
        exact .agg l vs e1 e2 e3
       ·show some cs.toArray.size=_
        simp[hlen]
       ·simp[zdU,Value.cells]
      ·cases hp
     ·cases hp
   |_=>cases hp

theorem zr7{base:Nat}{spare:Nat->Bool}{held:Bool}{n:Nat}{t:TypeId}{v:Value}{d:DataW H}{ps:List MemPlace}{p:PV}(h:DataW.Trod enc P w base spare held t v d ps)(hok:okT P t=true)(hp:zbU P n t d=some p)(hv:vshp v=shOf P t):
  AR w (noX (P:=P)) noμ [] (.pv (shOf P t) p) v:=by
 obtain⟨fuel,h⟩:=h
 have hI:∀b,Im (noX (P:=P)) noμ [] b:=fun b=>⟨fun h=>h,fun i hi=>by simp[live] at hi⟩
 obtain⟨h1,h2,h3⟩:=zru hI fuel n t _ d ps p h hok hp
 have:zdU (shOf P t) v.cells.toList=v:=by
  rw[<-hv]
  cases v <;> simp[vshp,zdU,Value.cells]
 rw[this] at h1
 exact .pv _ _ _ hv h1
theorem zmH{W:World}{base:Nat}{t:TypeId}{v:Value}(h:Value.okWide P W .any base t v):vshp v=shOf P t:=by
 unfold Value.okWide at h
 unfold shOf
 cases hu:P.underlying t with
 |none=>
  rw[hu] at h
  cases v with
  |agg cs=>simp[Cell.okWide,Cell.ok,hu] at h
  |_=>rfl
 |some u=>
  rw[hu] at h
  cases u with
  |struct fs=>obtain⟨cs,rfl,hc,_⟩:=h;simp[vshp,hc]
  |array n e=>obtain⟨cs,rfl,hc,_⟩:=h;simp[vshp,hc]
  |_=>
   cases v with
   |agg cs=>simp[Cell.okWide,Cell.ok,hu] at h
   |_=>rfl
end Go.Am

/- Every datum of plain types is a value; terms. -/
namespace Go.Am
variable{P:Program} {H:Type} {enc:TypeId × Value->H} {w:World}

def zqP(P:Program)(ts:List TypeId)(t:TypeId):Bool:=
 okT P t && match P.underlying t with
 |some .bool=>true
 |some (.int _)=>true
 |some .string=>true
 |some (.slice e)=>ts.contains e && okT P e
 |some (.struct fs)=>fs.toList.all (fun f=>ts.contains f.type) && zdP P (P.cellsOf t) 0 fs.toList
 |_=>false
def zlt(P:Program)(ts:List TypeId):Bool:=ts.all (zqP P ts)

theorem zg6{f:DataW H->Option PV}{g:Nat->Option (DataW H × List MemPlace)}(hg:∀i d ps,g i=some (d,ps)->∃p,f d=some p):∀(is:List Nat) (xs:List (DataW H × List MemPlace)),is.mapM g=some xs->∃l,zcX f (xs.map (·.1))=some l
 |[],xs,h=>by simp at h;subst h;exact⟨[],rfl⟩
 |i::r,xs,h=>by
  rw[List.mapM_cons] at h
  cases ha:g i with
  |none=>rw[ha] at h;cases h
  |some y=>
   rw[ha] at h
   cases hr:r.mapM g with
   |none=>rw[hr] at h;cases h
   |some ys=>
    rw[hr] at h
    cases h
    obtain⟨l,hl⟩:=zg6 hg r ys hr
    obtain⟨p,hp⟩:=hg i y.1 y.2 ha
    exact⟨p::l,by simp[zcX,hp,hl]⟩
theorem zgk{f:TypeId->DataW H->Option PV}{g:Field->Option (DataW H × List MemPlace)}:∀(fs:List Field) (xs:List (DataW H × List MemPlace)),(∀fd∈fs,∀d ps,g fd=some (d,ps)->∃p,f fd.type d=some p)->fs.mapM g=some xs->∃l,zbB P f fs (xs.map (·.1))=some l
 |[],xs,_,h=>by simp at h;subst h;exact⟨[],rfl⟩
 |fd::r,xs,hg,h=>by
  rw[List.mapM_cons] at h
  cases ha:g fd with
  |none=>rw[ha] at h;cases h
  |some y=>
   rw[ha] at h
   cases hr:r.mapM g with
   |none=>rw[hr] at h;cases h
   |some ys=>
    rw[hr] at h
    cases h
    obtain⟨l,hl⟩:=zgk r ys (fun fd h=>hg fd (by simp[h])) hr
    obtain⟨p,hp⟩:=hg fd (by simp) y.1 y.2 ha
    exact⟨(shOf P fd.type,p)::l,by simp[zbB,hp,hl]⟩

theorem zoK{ts:List TypeId}(hc:zlt P ts=true){base:Nat}{spare:Nat->Bool}{held:Bool}:∀(fuel:Nat) (t:TypeId) (cs:List Value) (d:DataW H) (ps:List MemPlace),t∈ts->DataW.trod enc P w base spare held fuel t cs=some (d,ps)->∃p,zbU P fuel t d=some p:=by
 intro fuel
 induction fuel with
 |zero=>intro t cs d ps _ h;cases h
 |succ fuel ih=>
  intro t cs d ps ht h
  have hp:=List.all_eq_true.1 hc t ht
  unfold zqP at hp
  rw[Bool.and_eq_true] at hp
  have hp:=hp.2
  unfold DataW.trod at h
  unfold zbU
  cases hu:P.underlying t with
  |none=>rw[hu] at hp;cases hp
  |some u=>
   rw[hu] at hp h
   cases u with
   |bool=>
    simp only at h
    split at h <;> first|contradiction|(exfalso;clear ih;simp_all;done)|skip
    ·cases h;exact⟨_,rfl⟩
   |int k=>
    simp only at h
    split at h <;> first|contradiction|(exfalso;clear ih;simp_all;done)|skip
    ·rename_i e
     split at h
     ·rename_i e2
      obtain⟨e2,e3⟩:=e2
      subst e2
      cases h
      cases e
      exact⟨_,by simp[e3];rfl⟩
     ·cases h
   |string=>
    simp only at h
    split at h <;> first|contradiction|(exfalso;clear ih;simp_all;done)|skip
    ·split at h
     ·cases h;exact⟨_,rfl⟩
     ·cases h
   |slice e=>
    simp only[Bool.and_eq_true,List.contains_iff_mem] at hp
    simp only at h
    split at h <;> first|contradiction|(exfalso;clear ih;simp_all;done)|skip
    ·cases h;exact⟨_,rfl⟩
    ·rename_i e' a len cap hx
     cases hx
     split at h
     ·rw[Option.bind_eq_some_iff] at h
      obtain⟨elems,hm,h⟩:=h
      rw[Option.map_eq_some_iff] at h
      obtain⟨rest,hr,h⟩:=h
      cases h
      obtain⟨l,hl⟩:=zg6 (f:=zbU P fuel e) (fun i d ps hg=>by
       rw[Option.bind_eq_some_iff] at hg
       obtain⟨c,_,hg⟩:=hg
       exact ih e c d ps hp.1 hg) _ _ hm
      exact⟨_,by simp[hp.2,hl];rfl⟩
     ·cases h
   |struct fs=>
    simp only[Bool.and_eq_true] at hp
    simp only at h
    split at h <;> first|contradiction|(exfalso;clear ih;simp_all;done)|skip
    ·rw[Option.map_eq_some_iff] at h
     obtain⟨xs,hm,h⟩:=h
     cases h
     obtain⟨l,hl⟩:=zgk (P:=P) (f:=zbU P fuel) fs.toList xs (fun fd hfd d ps hg=>by
      have:=List.all_eq_true.1 hp.1 fd hfd
      rw[List.contains_iff_mem] at this
      exact ih fd.type _ d ps this hg) hm
     exact⟨_,by simp[hp.2,hl];rfl⟩
   |_=>cases hp

structure BulkLaws(bulk:DataW H->Nat)(all:List (DataW H)->Nat):Prop where
 nil:all []=0
 cons:∀d r,all (d::r)=bulk d+all r
 slice:∀e s,bulk (.slice e s)=all e+all s+1
 agg:∀l,bulk (.agg l)=all l+1
 string:∀l,bulk (.lit (.string l))=l.length+1

structure TermTy(P:Program)(tA tT:TypeId):Prop where
 a:P.underlying tA=some (.slice tT)
 t:∃fs tI tL tS,P.underlying tT=some (.struct fs)/\fs.toList.map (·.type)=[tI,tL,tS,tA]/\P.underlying tI=some (.int .i64)/\P.underlying tL=some (.int .i64)/\P.underlying tS=some .string/\shOf P tT=some 4/\shOf P tA=none/\shOf P tI=none/\shOf P tL=none/\shOf P tS=none

def zoL(n:Int):Prop:= -9223372036854775808<=n/\n<=9223372036854775807
mutual
def Tm.rng:Tm->Prop
 | .mk k n _ as=>zoL k/\zoL n/\Tm.rngs as
def Tm.rngs:List Tm->Prop
 |[]=>True
 |t::r=>t.rng/\Tm.rngs r
end
theorem zr8{n:Int}(h:(Lit.int .i64 n).wf=true):zoL n:=by
 simpa[Lit.wf,IntKind.min,IntKind.max,IntKind.signed,IntKind.bits,zoL] using h

theorem zjv{tA tT:TypeId}(hT:TermTy P tA tT){bulk:DataW H->Nat}{all:List (DataW H)->Nat}(hb:BulkLaws bulk all):∀(n:Nat),
  (∀(d:DataW H) (p:PV),zbU P n tT d=some p->∃t:Tm,p=t.pv/\t.size<=bulk d/\t.rng)/\
  (∀(d:DataW H) (p:PV),zbU P n tA d=some p->∃l:List Tm,p=.sl (some 4) (Tm.pvs l)/\Tm.sizes l<=bulk d/\Tm.rngs l)
 |0=>⟨fun d p h=>(by cases h),fun d p h=>(by cases h)⟩
 |n+1=>by
  obtain⟨ih1,ih2⟩:=zjv hT hb n
  have elems:∀(ds:List (DataW H)) (l:List PV),zcX (zbU P n tT) ds=some l->∃ts:List Tm,l=Tm.pvs ts/\Tm.sizes ts<=all ds/\Tm.rngs ts:=by
   intro ds
   induction ds with
   |nil=>intro l h;cases h;exact⟨[],rfl,Nat.zero_le _,trivial⟩
   |cons d ds ih=>
    intro l h
    simp only[zcX] at h
    split at h
    ·cases h
    ·rename_i p hp
     split at h
     ·rename_i l' hl
      cases h
      obtain⟨t,rfl,h1,h2⟩:=ih1 d p hp
      obtain⟨ts,rfl,h3,h4⟩:=ih l' hl
      exact⟨t::ts,rfl,by rw[hb.cons];simp only[Tm.sizes];omega,h2,h4⟩
     ·cases h
  obtain⟨hA,fs,tI,tL,tS,hS,hf,hI,hL,hSt,s1,s2,s3,s4,s5⟩:=hT
  constructor
  ·intro d p h
   unfold zbU at h
   rw[hS] at h
   cases d with
   |agg parts=>
    simp only at h
    split at h
    ·split at h
     ·rename_i l hl
      cases h
      obtain⟨f1,f2,f3,f4,hfs⟩:∃f1 f2 f3 f4:Field,fs.toList=[f1,f2,f3,f4]:=by
       match hx:fs.toList,hf with
       |[a,b,c,d],_=>exact⟨a,b,c,d,rfl⟩
      rw[hfs] at hf hl
      simp only[List.map_cons,List.map_nil,List.cons.injEq,and_true] at hf
      obtain⟨e1,e2,e3,e4⟩:=hf
      match parts,hl with
      |[],hl=>cases hl
      |d1::r1,hl=>
       simp only[zbB,e1] at hl
       split at hl
       ·cases hl
       ·rename_i p1 hp1
        split at hl
        ·rename_i l1 hl1
         cases hl
         match r1,hl1 with
         |[],hl1=>cases hl1
         |d2::r2,hl1=>
          simp only[zbB,e2] at hl1
          split at hl1
          ·cases hl1
          ·rename_i p2 hp2
           split at hl1
           ·rename_i l2 hl2
            cases hl1
            match r2,hl2 with
            |[],hl2=>cases hl2
            |d3::r3,hl2=>
             simp only[zbB,e3] at hl2
             split at hl2
             ·cases hl2
             ·rename_i p3 hp3
              split at hl2
              ·rename_i l3 hl3
               cases hl2
               match r3,hl3 with
               |[],hl3=>cases hl3
               |d4::r4,hl3=>
                simp only[zbB,e4] at hl3
                split at hl3
                ·cases hl3
                ·rename_i p4 hp4
                 split at hl3
                 ·rename_i l4 hl4
                  cases hl3
                  match r4,hl4 with
                  |_::_,hl4=>cases hl4
                  |[],hl4=>
                   cases hl4
                   obtain⟨ts,rfl,k1,k2⟩:=ih2 d4 p4 hp4
                   have i64:∀(ty:TypeId) (d:DataW H) (p:PV),P.underlying ty=some (.int .i64)->zbU P n ty d=some p->∃x,p=.int .i64 x/\zoL x:=by
                    intro ty d p hty hp
                    cases n with
                    |zero=>cases hp
                    |succ n=>
                     unfold zbU at hp
                     rw[hty] at hp
                     cases d with
                     |lit l=>
                      cases l with
                      |int k x=>
                       simp only at hp
                       split at hp
                       ·rename_i hw
                        cases hp
                        exact⟨x,rfl,zr8 hw.2⟩
                       ·cases hp
                      |_=>cases hp
                     |_=>cases hp
                   obtain⟨x1,rfl,g1⟩:=i64 tI d1 p1 hI hp1
                   obtain⟨x2,rfl,g2⟩:=i64 tL d2 p2 hL hp2
                   obtain⟨s,rfl,hs⟩:∃s,p3=.str s/\s.length<=bulk d3:=by
                    cases n with
                    |zero=>cases hp3
                    |succ n=>
                     unfold zbU at hp3
                     rw[hSt] at hp3
                     cases d3 with
                     |lit l=>
                      cases l with
                      |string s=>cases hp3;exact⟨s,rfl,by rw[hb.string];omega⟩
                      |_=>cases hp3
                     |_=>cases hp3
                   refine⟨.mk x1 x2 s ts,?_,?_,g1,g2,k2⟩
                   ·simp only[Tm.pv,e1,e2,e3,e4,s2,s3,s4,s5]
                   ·rw[hb.agg,hb.cons,hb.cons,hb.cons,hb.cons,hb.nil]
                    simp only[Tm.size]
                    omega
                 ·cases hl3
              ·cases hl2
           ·cases hl1
        ·cases hl
     ·cases h
    ·cases h
   |lit l=>cases l <;> cases h
   |_=>cases h
  ·intro d p h
   unfold zbU at h
   rw[hA] at h
   cases d with
   |nil=>cases h;exact⟨[],by rw[s1];rfl,Nat.zero_le _,trivial⟩
   |slice es sp=>
    simp only at h
    split at h
    ·split at h
     ·rename_i l hl
      cases h
      obtain⟨ts,rfl,k1,k2⟩:=elems es l hl
      exact⟨ts,by rw[s1],by rw[hb.slice];omega,k2⟩
     ·cases h
    ·cases h
   |lit l=>cases l <;> cases h
   |_=>cases h
end Go.Am
