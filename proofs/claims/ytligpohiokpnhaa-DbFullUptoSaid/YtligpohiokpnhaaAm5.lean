/- What is proved: the abstract machine says true of the model (part 5). No conditions beside those that each theorem names. -/
import Derived.Test.YtligpohiokpnhaaAm4
import Derived.WalkKit
set_option linter.unusedSimpArgs false
set_option linter.unusedVariables false
/- What code comes to: the operations. -/
namespace Go.Am
variable{Γ:Oracle} {Λ:zan} {b:Nat} {hp:Heap} {vs:List AV} {K:AV->Heap->Prop} {Kp:PV->Heap->Prop}
def valK(v:Option AV)(K:AV->Prop)[Tag K]:Prop:=
 match v with
 |some v=>K v
 |none=>False
def pvK(v:Option PV)(K:PV->Prop)[Tag K]:Prop:=
 match v with
 |some v=>K v
 |none=>False
theorem zoO(v:AV)(K:AV->Prop):valK (some v) K=K v:=rfl
theorem zqN(v:PV)(K:PV->Prop):pvK (some v) K=K v:=rfl

theorem ztK:opK (aOp Γ b .mv vs hp) K Kp=valK (sMv vs) (fun v=>K v hp):=by
 show opK (match za4 hp (sMv vs) with|some (v,hp')=>some (OpRes.val v hp')|none=>none) K Kp=_
 cases sMv vs <;> rfl
theorem zta:opK (aOp Γ b .len vs hp) K Kp=valK (sLen vs) (fun v=>K v hp):=by
 show opK (match za4 hp (sLen vs) with|some (v,hp')=>some (OpRes.val v hp')|none=>none) K Kp=_
 cases sLen vs <;> rfl
theorem zsr:opK (aOp Γ b .slen vs hp) K Kp=valK (zj1 vs) (fun v=>K v hp):=by
 show opK (match za4 hp (zj1 vs) with|some (v,hp')=>some (OpRes.val v hp')|none=>none) K Kp=_
 cases zj1 vs <;> rfl
theorem zss:opK (aOp Γ b .pick vs hp) K Kp=valK (zjY vs) (fun v=>K v hp):=by
 show opK (match za4 hp (zjY vs) with|some (v,hp')=>some (OpRes.val v hp')|none=>none) K Kp=_
 cases zjY vs <;> rfl
theorem ztb:opK (aOp Γ b .not vs hp) K Kp=valK (sNot vs) (fun v=>K v hp):=by
 show opK (match za4 hp (sNot vs) with|some (v,hp')=>some (OpRes.val v hp')|none=>none) K Kp=_
 cases sNot vs <;> rfl
theorem ztc(o:BinOp):opK (aOp Γ b (.bin o) vs hp) K Kp=valK (sBin o vs) (fun v=>K v hp):=by
 show opK (match za4 hp (sBin o vs) with|some (v,hp')=>some (OpRes.val v hp')|none=>none) K Kp=_
 cases sBin o vs <;> rfl
theorem zqO(z:List (Sh × AV))(i:List Nat):opK (aOp Γ b (.build z i) vs hp) K Kp=valK (zaJ z i vs) (fun v=>K v hp):=by
 show opK (match za4 hp (zaJ z i vs) with|some (v,hp')=>some (OpRes.val v hp')|none=>none) K Kp=_
 cases zaJ z i vs <;> rfl
theorem zmV(sh:Sh):opK (aOp Γ b (.bslicep sh) vs hp) K Kp=valK (zcz sh vs) (fun v=>K v hp):=by
 show opK (match za4 hp (zcz sh vs) with|some (v,hp')=>some (OpRes.val v hp')|none=>none) K Kp=_
 cases zcz sh vs <;> rfl
theorem zqP(o:Nat):opK (aOp Γ b (.faddr o) vs hp) K Kp=valK (zdq o vs) (fun v=>K v hp):=by
 show opK (match za4 hp (zdq o vs) with|some (v,hp')=>some (OpRes.val v hp')|none=>none) K Kp=_
 cases zdq o vs <;> rfl
theorem zqQ(sh:Sh):opK (aOp Γ b (.iaddr sh) vs hp) K Kp=valK (zaR sh vs) (fun v=>K v hp):=by
 show opK (match za4 hp (zaR sh vs) with|some (v,hp')=>some (OpRes.val v hp')|none=>none) K Kp=_
 cases zaR sh vs <;> rfl
theorem zqR(sh:Sh)(l h:Bool):opK (aOp Γ b (.slice sh l h) vs hp) K Kp=valK (zb3 sh l h vs) (fun v=>K v hp):=by
 show opK (match za4 hp (zb3 sh l h vs) with|some (v,hp')=>some (OpRes.val v hp')|none=>none) K Kp=_
 cases zb3 sh l h vs <;> rfl
theorem zoP(f:Fn)(k:Nat):opK (aOp Γ b (.mkfunc f k) vs hp) K Kp=valK (zd6 f k vs) (fun v=>K v hp):=by
 show opK (match za4 hp (zd6 f k vs) with|some (v,hp')=>some (OpRes.val v hp')|none=>none) K Kp=_
 cases zd6 f k vs <;> rfl
theorem zst(k:IntKind):opK (aOp Γ b (.conv k) vs hp) K Kp=valK (zj0 k vs) (fun v=>K v hp):=by
 show opK (match za4 hp (zj0 k vs) with|some (v,hp')=>some (OpRes.val v hp')|none=>none) K Kp=_
 cases zj0 k vs <;> rfl
theorem zmW(i:Nat):opK (aOp Γ b (.extract i) vs hp) K Kp=valK (zc0 i vs) (fun v=>K v hp):=by
 show opK (match za4 hp (zc0 i vs) with|some (v,hp')=>some (OpRes.val v hp')|none=>none) K Kp=_
 cases zc0 i vs <;> rfl
theorem zmX(t:TypeId):opK (aOp Γ b (.mkiface t) vs hp) K Kp=valK (zc1 t vs) (fun v=>K v hp):=by
 show opK (match za4 hp (zc1 t vs) with|some (v,hp')=>some (OpRes.val v hp')|none=>none) K Kp=_
 cases zc1 t vs <;> rfl
theorem zoQ(t:TypeId)(sh:Sh)(z:AV)(k:Bool):opK (aOp Γ b (.assert t sh z k) vs hp) K Kp=valK (zd7 t sh z k vs) (fun v=>K v hp):=by
 show opK (match za4 hp (zd7 t sh z k vs) with|some (v,hp')=>some (OpRes.val v hp')|none=>none) K Kp=_
 cases zd7 t sh z k vs <;> rfl
theorem zsu(sh:Sh):opK (aOp Γ b (.load sh) vs hp) K Kp=valK (zgB sh hp vs) (fun v=>K v hp):=by
 show opK (match za4 hp (zgB sh hp vs) with|some (v,hp')=>some (OpRes.val v hp')|none=>none) K Kp=_
 cases zgB sh hp vs <;> rfl
theorem zoR(s:Bool)(sh:Sh)(z:AV)(k:Bool):opK (aOp Γ b (.lookup s sh z k) vs hp) K Kp=valK (za8 s sh z k hp vs) (fun v=>K v hp):=by
 show opK (match za4 hp (za8 s sh z k hp vs) with|some (v,hp')=>some (OpRes.val v hp')|none=>none) K Kp=_
 cases za8 s sh z k hp vs <;> rfl
theorem zsv:opK (aOp Γ b .mlen vs hp) K Kp=valK (zfQ hp vs) (fun v=>K v hp):=by
 show opK (match za4 hp (zfQ hp vs) with|some (v,hp')=>some (OpRes.val v hp')|none=>none) K Kp=_
 cases zfQ hp vs <;> rfl
theorem zqS(sh:Sh):opK (aOp Γ b (.nilsl sh) vs hp) K Kp=zbP (zcr sh hp) K:=by
 show opK (match(zcr sh hp) with|some (v,hp')=>some (OpRes.val v hp')|none=>none) K Kp=_
 cases (zcr sh hp) with
 |none=>rfl
 |some r=>cases r;rfl
theorem zqT(sh:Sh)(z:AV):opK (aOp Γ b (.alloc sh z) vs hp) K Kp=zbP (zdm sh z hp vs) K:=by
 show opK (match(zdm sh z hp vs) with|some (v,hp')=>some (OpRes.val v hp')|none=>none) K Kp=_
 cases (zdm sh z hp vs) with
 |none=>rfl
 |some r=>cases r;rfl
theorem ztd(sh:Sh):opK (aOp Γ b (.box sh) vs hp) K Kp=zbP (wBox sh hp vs) K:=by
 show opK (match(wBox sh hp vs) with|some (v,hp')=>some (OpRes.val v hp')|none=>none) K Kp=_
 cases (wBox sh hp vs) with
 |none=>rfl
 |some r=>cases r;rfl
theorem zoS(sh:Sh):opK (aOp Γ b (.bslice sh) vs hp) K Kp=zbP (zbu sh hp vs) K:=by
 show opK (match(zbu sh hp vs) with|some (v,hp')=>some (OpRes.val v hp')|none=>none) K Kp=_
 cases (zbu sh hp vs) with
 |none=>rfl
 |some r=>cases r;rfl
theorem zqU(sh:Sh):opK (aOp Γ b (.store sh) vs hp) K Kp=zbP (zar sh b hp vs) K:=by
 show opK (match(zar sh b hp vs) with|some (v,hp')=>some (OpRes.val v hp')|none=>none) K Kp=_
 cases (zar sh b hp vs) with
 |none=>rfl
 |some r=>cases r;rfl
theorem zmY(sh:Sh)(z:PV):opK (aOp Γ b (.mkslice sh z) vs hp) K Kp=zbP (zcA sh z hp vs) K:=by
 show opK (match(zcA sh z hp vs) with|some (v,hp')=>some (OpRes.val v hp')|none=>none) K Kp=_
 cases (zcA sh z hp vs) with
 |none=>rfl
 |some r=>cases r;rfl
theorem zoT(s:Bool)(sh:Sh):opK (aOp Γ b (.mapset s sh) vs hp) K Kp=zbP (zcq s sh hp vs) K:=by
 show opK (match(zcq s sh hp vs) with|some (v,hp')=>some (OpRes.val v hp')|none=>none) K Kp=_
 cases (zcq s sh hp vs) with
 |none=>rfl
 |some r=>cases r;rfl
theorem zqV(sh:Sh)(z:PV):opK (aOp Γ b (.clear sh z) vs hp) K Kp=zbP (zfm sh z hp vs) K:=by
 show opK (match(zfm sh z hp vs) with|some (v,hp')=>some (OpRes.val v hp')|none=>none) K Kp=_
 cases (zfm sh z hp vs) with
 |none=>rfl
 |some r=>cases r;rfl
theorem zoU(sh:Sh):opK (aOp Γ b (.append sh) vs hp) K Kp=zbP (zbe sh hp vs) K:=by
 show opK (match(zbe sh hp vs) with|some (v,hp')=>some (OpRes.val v hp')|none=>none) K Kp=_
 cases (zbe sh hp vs) with
 |none=>rfl
 |some r=>cases r;rfl
theorem zqW(sh:Sh):opK (aOp Γ b (.mkmap sh) vs hp) K Kp=K (.map hp.length) (hp++[.map sh []]):=rfl
theorem zsw(s:Sh)(f:FuncId)(as:List AV):opK (aOp Γ b .call (.pv s (.func (.func f))::as) hp) K Kp=zjv (Γ .fn f as hp) K Kp:=by
 simp only[aOp,zdr,zbi,List.nil_append,List.append_nil]
 cases Γ .fn f as hp with
 |none=>rfl
 |some r=>obtain⟨r,hp'⟩:=r;cases r <;> rfl
theorem zqX(f:FuncId)(fs cs as:List AV):opK (aOp Γ b .call (.func (.func f) fs cs::as) hp) K Kp=zjv (Γ .fn f (fs++as++cs) hp) K Kp:=by
 simp only[aOp,zdr,zbi]
 cases Γ .fn f (fs++as++cs) hp with
 |none=>rfl
 |some r=>obtain⟨r,hp'⟩:=r;cases r <;> rfl
theorem zqY(n:Nat):opK (aOp Γ b (.calln n) vs hp) K Kp=opK (aOp Γ b .call (vs.drop n) hp) (fun v hp'=>(vs.take n).all (zca hp hp')=true/\K v hp') Kp:=by
 simp only[aOp,zgL]
 cases zdr Γ hp (vs.drop n) with
 |none=>rfl
 |some r=>
  cases r with
  |val v hp'=>
   simp only[opK]
   split
   ·rename_i h;split at h
    ·cases h;simp[*]
    ·cases h
   ·rename_i h;split at h <;> cases h
   ·rename_i h;split at h
    ·cases h
    ·simp[*]
  |panic v hp'=>rfl
def zoV(v:Option (List (Sh × PV)))(K:List (Sh × PV)->Prop)[Tag K]:Prop:=
 match v with
 |some l=>K l
 |none=>False
theorem zqZ(s:Sh)(f:FuncId)(as:List AV):opK (aOp Γ b .callp (.pv s (.func (.func f))::as) hp) K Kp=zoV (zaC as) (fun ps=>zjv (Γ .fn f (zbg as (pvs ps)) []) (fun v H=>valK (v.alone H) fun v'=>K v' hp) (fun _ _=>False)):=by
 simp only[aOp,zek]
 cases zaC as with
 |none=>rfl
 |some ps=>
  simp only[zoV]
  cases Γ .fn f (zbg as (pvs ps)) [] with
  |none=>rfl
  |some r=>
   obtain⟨r,hp'⟩:=r
   cases r with
   |ret v=>simp only[zjv];cases v.alone hp' <;> rfl
   |panic v=>rfl
theorem zq0(s:Sh)(f:FuncId)(as:List AV):opK (zbJ Γ hp (.pv s (.func (.func f))::as)) K Kp=zoV (zaC as) (fun ps=>zjv (Γ .fn f (zbg as (pvs ps)) []) (fun v H=>valK (v.alone H) fun v'=>K v' hp) (fun p _=>Kp p hp)):=by
 simp only[zbJ]
 cases zaC as with
 |none=>rfl
 |some ps=>
  simp only[zoV]
  cases Γ .fn f (zbg as (pvs ps)) [] with
  |none=>rfl
  |some r=>
   obtain⟨r,hp'⟩:=r
   cases r with
   |ret v=>simp only[zjv];cases v.alone hp' <;> rfl
   |panic v=>rfl
theorem zq1(s s':Sh)(t:TypeId)(p:PV):opK (aOp Γ b .panic [.pv s (.iface t s' p)] hp) K Kp=Kp (.iface t s' p) hp:=rfl
end Go.Am
namespace Go.Am
variable{Γ:Oracle} {Λ:zan} {b:Nat} {hp:Heap} {vs:List AV} {K:AV->Heap->Prop} {Kp:PV->Heap->Prop}
theorem zkM:opK (aOp Γ b .nilcheck vs hp) K Kp=valK (zb4 vs) (fun v=>K v hp):=by
 show opK (match za4 hp (zb4 vs) with|some (v,hp')=>some (OpRes.val v hp')|none=>none) K Kp=_
 cases zb4 vs <;> rfl
theorem zq2(g:Bool):opK (aOp Γ b (.isnil g) vs hp) K Kp=valK (zfl g vs) (fun v=>K v hp):=by
 show opK (match za4 hp (zfl g vs) with|some (v,hp')=>some (OpRes.val v hp')|none=>none) K Kp=_
 cases zfl g vs <;> rfl
theorem zoW(sh:Sh)(l:Bool):opK (aOp Γ b (.slice3 sh l) vs hp) K Kp=valK (zcp sh l vs) (fun v=>K v hp):=by
 show opK (match za4 hp (zcp sh l vs) with|some (v,hp')=>some (OpRes.val v hp')|none=>none) K Kp=_
 cases zcp sh l vs <;> rfl
end Go.Am

/- What code comes to: values; calls of functions. -/
namespace Go.Am
variable{Γ:Oracle} {Λ:zan} {b:Nat} {hp:Heap} {K:AV->Prop} {s s':Sh} {sh:Sh} {k:IntKind} {x y:Int}

theorem s_mv(v:AV):sMv [v]=some v:=rfl
theorem zq3(es:List PV):sLen [.pv s (.sl sh es)]=some (.pv none (.int .i64 es.length)):=rfl
theorem zoX(es:List PV):sLen [.tsl sh es]=some (.pv none (.int .i64 es.length)):=rfl
theorem zq4(r v o n:Nat):sLen [.sl sh r v o n]=some (.pv none (.int .i64 n)):=rfl
theorem zte(l:List UInt8):zj1 [.pv s (.str l)]=some (.pv none (.int .i64 l.length)):=rfl
theorem ztf(c:Bool)(u v:AV):zjY [.pv s (.bool c),u,v]=some (bif c then u else v):=rfl
theorem ztL(c:Bool):sNot [.pv s (.bool c)]=some (.pv none (.bool !c)):=rfl
theorem zoY(o:BinOp):valK (sBin o [.pv s (.int k x),.pv s' (.int k y)]) K=pvK (zco o k x y) (fun p=>K (.pv none p)):=by
 simp only[sBin,zny,if_true]
 cases zco o k x y <;> rfl
theorem zoZ(o:BinOp)(u v:List UInt8):valK (sBin o [.pv s (.str u),.pv s' (.str v)]) K=pvK (zdp o u v) (fun p=>K (.pv none p)):=by
 simp only[sBin,zny]
 cases zdp o u v <;> rfl
theorem ztM:zco .add k x y=some (.int k (k.wrap (x+y))):=rfl
theorem ztN:zco .sub k x y=some (.int k (k.wrap (x - y))):=rfl
theorem ztO:zco .eql k x y=some (.bool (decide (x=y))):=rfl
theorem ztP:zco .neq k x y=some (.bool (!decide (x=y))):=rfl
theorem ztQ:zco .lss k x y=some (.bool (decide (x<y))):=rfl
theorem ztR:zco .leq k x y=some (.bool (decide (x<=y))):=rfl
theorem ztS:zco .gtr k x y=some (.bool (decide (y<x))):=rfl
theorem ztT:zco .geq k x y=some (.bool (decide (y<=x))):=rfl
theorem ztg{u v:List UInt8}:zdp .eql u v=some (.bool (decide (u=v))):=rfl
theorem zth{u v:List UInt8}:zdp .neq u v=some (.bool (!decide (u=v))):=rfl
theorem zti{u v:List UInt8}:zdp .lss u v=some (.bool (Op.bytesLess u v)):=rfl
theorem zkN(o r o':Nat):zdq o [.ptr r o']=some (.ptr r (o'+o)):=rfl
theorem zjy(o o':Nat)(p:PV):zdq o [.iptr sh p o']=some (.iptr sh p (o'+o)):=rfl
theorem zai{es:List PV}{i:Nat}{p:PV}(h:es[i]? =some p):zaR sh [.pv s (.sl sh es),.pv s' (.int k i)]=some (.iptr sh p 0):=by
 simp[zaR,aindex,h]
theorem zmZ{r v o n i:Nat}(h:i<n):zaR sh [.sl sh r v o n,.pv s' (.int k i)]=some (.eptr sh r v (o+i) 0):=by
 simp[zaR,aindex,h]
theorem ztj(k':IntKind):zj0 k' [.pv s (.int k x)]=some (.pv none (.int k' (k'.wrap x))):=rfl
theorem zo0(i:Nat)(l:List AV):zc0 i [.tuple l]=l[i]? :=rfl
theorem zo1(fn:Fn)(n:Nat)(v:AV)(l:List AV):zd6 fn n (v::l)=some (.func fn ((v::l).take n) ((v::l).drop n)):=rfl
theorem ztk(p:AV):zgB sh hp [p]=aload sh hp p:=rfl
def zkO(sh:Sh)(off:Nat):Option AObj->Option AV
 |some (.box s v)=>if off=0/\s=sh then some v else AV.part deep v off sh
 |_=>none
theorem zo2(r off:Nat):aload sh hp (.ptr r off)=zkO sh off hp[r]? :=by
 unfold zkO
 simp only[aload]
 split <;> simp_all
theorem zkP(off:Nat)(v:AV):zkO sh off (some (.box s v))=if off=0/\s=sh then some v else AV.part deep v off sh:=rfl
def toAV(sh:Sh):Option PV->Option AV
 |some p=>some (.pv sh p)
 |none=>none
theorem zo3(p:PV):toAV sh (some p)=some (.pv sh p):=rfl
theorem zm0(p:PV)(off:Nat):aload sh hp (.iptr s p off)=if off=0/\s=sh then some (.pv sh p) else toAV sh (PV.part deep p off sh):=by
 simp only[aload,toAV]
 split
 ·rfl
 ·cases PV.part deep p off sh <;> rfl
theorem zsx(p:PV)(off:Nat):AV.part deep (.pv s p) off sh=toAV sh (PV.part deep p off sh):=by
 show AV.part (7+1) (.pv s p) off sh=toAV sh (PV.part (7+1) p off sh)
 simp only[AV.part,toAV]
 cases PV.part (7+1) p off sh <;> rfl
theorem zo4(l:List (Sh × AV))(off:Nat):AV.part deep (.agg l) off sh=AV.part.go 7 off sh l:=rfl
theorem zh6(d off:Nat)(p:AV)(r:List (Sh × AV)):AV.part.go d off sh ((s,p)::r)=if off=0/\s=sh then some p else if off<s.size then AV.part d p off sh else AV.part.go d (off - s.size) sh r:=rfl
theorem zo5:Sh.size none=1:=rfl
theorem zcT(n:Nat):Sh.size (some n)=n:=rfl
def endK(rs:List RSlot)(Q:AV->Heap->Prop)[Tag Q]:AExit->St->Prop
 | .normal,st=>match zaA st rs with
  |some v=>Q v st.hp
  |none=>False
 | .ret,st=>match zaA st rs with
  |some v=>Q v st.hp
  |none=>False
 |_,_=>False
theorem zdi(rs:List RSlot)(Q:AV->Heap->Prop)(st:St):endK rs Q .ret st=valK (zaA st rs) (fun v=>Q v st.hp):=by
 show(match zaA st rs with|some v=>Q v st.hp|none=>False)=_
 cases zaA st rs <;> rfl
theorem zbW(rs:List RSlot)(Q:AV->Heap->Prop)(st:St):endK rs Q .normal st=valK (zaA st rs) (fun v=>Q v st.hp):=by
 show(match zaA st rs with|some v=>Q v st.hp|none=>False)=_
 cases zaA st rs <;> rfl
theorem zm1(st:St)(r:Nat):zaA st [(r,none)]=st.fr.look r:=rfl
theorem zkQ(st:St)(r:Nat)(sh:Sh):zaA st [(r,some sh)]=(match st.fr.look r with|some p=>aload sh st.hp p|none=>none):=rfl
def tupO:Option (List AV)->Option AV
 |some l=>some (.tuple l)
 |none=>none
theorem zo6(l:List AV):tupO (some l)=some (.tuple l):=rfl
theorem zm2(st:St)(r q:RSlot)(l:List RSlot):zaA st (r::q::l)=tupO (zaY st (r::q::l)):=by
 unfold zaA tupO
 simp only[]
 cases zaY st (r::q::l) <;> rfl
theorem zjz(st:St):zaA st []=some (.tuple []):=rfl
theorem zo7(p:Nat->Bool):(AV.tuple []).refsIn.all p=true:=rfl
theorem zh7(st:St):zaY st []=some []:=rfl
theorem zgH(st:St)(r:RSlot)(l:List RSlot):zaY st (r::l)=zsq (za9 st r) (zaY st l):=rfl
theorem zm3(st:St)(r:Nat):za9 st (r,none)=st.fr.look r:=rfl
theorem zm4(i:Nat):params i []=[]:=rfl
theorem zkR(i:Nat)(v:AV)(r:List AV):params i (v::r)=(i,v)::params (i+1) r:=rfl

def frozen(v:AV):AV->Heap->Prop:=fun v' hp=>∃hp',v'.freezeRes hp=some (v,hp')
theorem zo8(p:PV)(v:AV):frozen v (.pv s p) hp=(.pv s p=v):=by
 have h:AV.freeze deep (.pv s p) hp=some (p,hp):=rfl
 simp only[frozen,AV.freezeRes,h,AV.shp]
 exact propext ⟨fun⟨_,h⟩=>by cases h;rfl,fun h=>⟨hp,by rw[h]⟩⟩
theorem zaa:∀(ps:List (Sh × PV)),zaq (pvs ps) hp=some (ps,hp)
 |[]=>rfl
 |(sh,p)::r=>by
  have h:AV.freeze deep (.pv sh p) hp=some (p,hp):=rfl
  show zaq (.pv sh p::pvs r) hp=_
  simp only[zaq,h,zaa r,AV.shp]

variable{F:FuncId->Option AFn} {prim:FuncId->Option zbf}
theorem zaj{f:FuncId}{fn:AFn}{args:List AV}{ps:List (Sh × PV)}{hp:Heap}{v:AV}(hp0:prim f=none)(hf:F f=some fn)(hm:fn.heapMode=false)(hz:zaq args hp=some (ps,hp))(hn:(pvs ps).length=fn.nparams)
  (h:W (sem F prim) (sloop F prim) 0 fn.code ⟨params 0 (pvs ps),[]⟩ (endK fn.results (frozen v)))(hr:fn.rcv=none:=by rfl)(hmo:fn.more=[]:=by rfl):sem F prim .fn f args hp=some (.ret v,hp):=by
 rw[zgm]
 unfold zba
 rw[hp0,hf]
 simp only[hr,hmo,Option.isSome_none,hm,Bool.false_eq_true,if_false,hz,abody,hn,ne_eq,not_true_eq_false]
 unfold W at h
 split at h
 ·rename_i e st' he
  have hl:([]:Heap).length=0:=rfl
  rw[hl,he]
  cases e with
  |normal=>
   rw[zbW] at h
   cases hr:zaA st' fn.results with
   |none=>rw[hr] at h;exact h.elim
   |some u=>
    rw[hr] at h
    obtain⟨hp',h⟩:=h
    simp only[hr,h]
    cases v.scalar <;> rfl
  |ret=>
   rw[zdi] at h
   cases hr:zaA st' fn.results with
   |none=>rw[hr] at h;exact h.elim
   |some u=>
    rw[hr] at h
    obtain⟨hp',h⟩:=h
    simp only[hr,h]
    cases v.scalar <;> rfl
  |exit i=>exact h.elim
  |panic v=>exact h.elim
 ·exact h.elim
theorem zrS{c:ACode}{st:St}{Q Q':AExit->St->Prop}(h:W Γ Λ b c st Q)(hq:∀e st',Q e st'->Q' e st'):W Γ Λ b c st Q':=by
 unfold W at h ⊢
 split at h
 ·exact hq _ _ h
 ·exact h.elim
theorem zgo(I:Nat->St->Prop){b:Nat}{keep:List Nat}{c:ACode}{st:St}{Q:AExit->St->Prop}{n:Nat}(h0:I n ⟨st.fr.keep keep,st.hp⟩)
  (h:∀n st1,I n st1->W (sem F prim) (sloop F prim) b c st1 (fun e st'=>match e with
   | .normal=>∃m,m<n/\I m ⟨st'.fr.keep keep,collect st.hp.length b (st'.fr.keep keep) st'.hp⟩
   |e=>Q e st')):W (sem F prim) (sloop F prim) b (.loop keep c) st Q:=by
 unfold W
 simp only[aexec]
 have key:∀n st1,I n st1->match sloop F prim b st.hp.length keep c st1 with|some (e,st')=>Q e st'|none=>False:=by
  intro n
  induction n using Nat.strongRecOn with
  |_ n ih=>
   intro st1 hI
   have hw:=h n st1 hI
   unfold W at hw
   rw[zqA]
   split at hw
   ·rename_i e st' he
    rw[he]
    cases e with
    |normal=>
     obtain⟨m,hm,hI'⟩:=hw
     exact ih m hm _ hI'
    |exit i=>exact hw
    |ret=>exact hw
    |panic v=>exact hw
   ·exact hw.elim
 exact key n _ h0
end Go.Am
namespace Go.Am
variable{Γ:Oracle} {Λ:zan} {b:Nat} {hp:Heap} {K:AV->Heap->Prop} {s s':Sh} {sh:Sh} {k:IntKind} {x y:Int}
theorem zsy:Am.pvs []=[]:=rfl
theorem zq5(s:Sh)(p:PV)(r:List (Sh × PV)):Am.pvs ((s,p)::r)=.pv s p::Am.pvs r:=rfl
theorem zdE{α:Type}(l:List α)(x y:α):(l++[x]).set l.length y=l++[y]:=by
 rw[List.set_append_right _ _ (Nat.le_refl _)]
 simp
theorem zm5(p:PV):zdm sh (.pv sh p) hp []=some (.ptr hp.length 0,hp++[.box sh (.pv sh p)]):=by
 simp only[zdm,AV.plain,AV.shp,and_self,if_true,AV.own,zdE]
theorem zq6(p:PV):wBox sh hp [.pv sh p]=some (.ptr hp.length 0,hp++[.box sh (.pv sh p)]):=by
 simp only[wBox,AV.plain,AV.shp,and_self,if_true,AV.own,zdE]
def zrT(sh:Sh)(n:Nat):List (Sh × AV) × Heap->Option (AV × Heap)
 |(l,hp)=>some (.ptr n 0,hp.set n (.box sh (.agg l)))
theorem zo9(n:Nat)(l:List (Sh × AV)):zrT sh n (l,hp)=some (.ptr n 0,hp.set n (.box sh (.agg l))):=rfl
theorem zkS(l:List (Sh × AV)):zdm sh (.agg l) hp []=if some (total l)=sh then zrT sh hp.length (zal l (hp++[.box sh (.agg l)])) else none:=by
 simp only[zdm,AV.plain,AV.shp,true_and,AV.own]
 rfl
theorem zsz:zal [] hp=([],hp):=rfl
def zbh(x:Sh × AV):List (Sh × AV) × Heap->List (Sh × AV) × Heap
 |(l,hp)=>(x::l,hp)
theorem zm6(u:Sh × AV)(l:List (Sh × AV)):zbh u (l,hp)=(u::l,hp):=rfl
theorem zjA(r:List (Sh × AV)):zal ((s,.tsl sh [])::r) hp=if 0<sh.size then zbh (s,.sl sh hp.length 0 0 0) (zal r (hp++[.arr sh [] false])) else zbh (s,.tsl sh []) (zal r hp):=rfl
theorem zkT(p:PV)(r:List (Sh × AV)):zal ((s,.pv s' p)::r) hp=zbh (s,.pv s' p) (zal r hp):=rfl
theorem zjB(p:List (Sh × AV))(r:List (Sh × AV)):zal ((s,.agg p)::r) hp=zbh (s,.agg p) (zal r hp):=rfl
theorem zpa:total ([]:List (Sh × AV))=0:=rfl
theorem zm7(v:AV)(r:List (Sh × AV)):total ((s,v)::r)=s.size+total r:=rfl
def boxK(o:Option AObj)(K:Sh->AV->Prop)[Tag K]:Prop:=
 match o with
 |some (.box s v)=>K s v
 |_=>False
theorem zq7(v:AV)(K:Sh->AV->Prop):boxK (some (.box s v)) K=K s v:=rfl
theorem zm8(r off:Nat)(p:PV):zbP (zar sh b hp [.ptr r off,.pv sh p]) K=boxK hp[r]? fun s old=>if off=0/\s=sh then K .undef (hp.set r (.box s (.pv sh p))) else
  valK (AV.upd deep old off sh (.pv sh p)) fun new=>K .undef (hp.set r (.box s new)):=by
 simp only[zar,astore,AV.plain,AV.shp,AV.own,AV.refsIn,List.all_nil]
 cases hp[r]? with
 |none=>rfl
 |some o=>
  cases o with
  |box s old=>
   simp only[boxK]
   by_cases h1:off=0/\s=sh
   ·obtain⟨h1,h2⟩:=h1
    subst h1;subst h2
    by_cases hb:b<=r <;> simp[hb,zbP]
   ·cases hu:AV.upd deep old off sh (.pv sh p) with
    |none=>by_cases hb:b<=r <;> simp[hb,h1,zbP,valK]
    |some new=>by_cases hb:b<=r <;> simp[hb,h1,zbP,valK]
  |arr s es fz=>rfl
  |map s es=>rfl
  |loop f ps env bz=>rfl
  |arv s es=>rfl
theorem zjC{r:Nat}(h:b<=r)(fn:Fn)(fs cs:List AV):zbP (zar none b hp [.ptr r 0,.func fn fs cs]) K=boxK hp[r]? fun s old=>if s=none then K .undef (hp.set r (.box s (.func fn fs cs))) else valK (AV.upd deep old 0 none (.func fn fs cs)) fun new=>K .undef (hp.set r (.box s new)):=by
 simp only[zar,astore,AV.plain,AV.shp,AV.own]
 cases hp[r]? with
 |none=>rfl
 |some o=>
  cases o with
  |box s old=>
   simp only[boxK,if_pos h]
   by_cases h1:s=none
   ·subst h1
    simp[zbP]
   ·cases hu:AV.upd deep old 0 none (.func fn fs cs) with
    |none=>simp[h1,zbP,valK]
    |some new=>simp[h1,zbP,valK]
  |arr s es fz=>rfl
  |map s es=>rfl
  |loop f ps env bz=>rfl
  |arv s es=>rfl
theorem zkU(h:0<sh.size):zcr sh hp=some (.sl sh hp.length 0 0 0,hp++[.arr sh [] false]):=by
 simp[zcr,h]
def zkV(r:List Nat)(st:St)(q:Nat):Option AObj->Option St
 |some (.box sh v)=>match AV.freeze deep v st.hp with
  |some (p,hp')=>settle r ⟨st.fr,hp'.set q (.box sh (.pv sh p))⟩
  |none=>none
 |_=>settle r st
def zh8(s:Nat)(r:List Nat)(st:St):Option AV->Option St
 |some (.ptr q _)=>zkV r st q st.hp[q]?
 |some (.sl s' q ver off len)=>match AV.freeze deep (.sl s' q ver off len) st.hp with
   |some (p,hp')=>settle r ⟨(s,.pv none p)::st.fr,hp'⟩
   |none=>none
 |some (.tsl sh es)=>settle r ⟨(s,.pv none (.sl sh es))::st.fr,st.hp⟩
 |some (.slv s' q ver off len)=>match AV.freeze deep (.slv s' q ver off len) st.hp with
   |some (p,hp')=>settle r ⟨(s,.pv none p)::st.fr,hp'⟩
   |none=>none
 |some (.nilv sh)=>settle r ⟨(s,.pv none (.sl sh []))::st.fr,st.hp⟩
 |some (.agg l)=>if(AV.refsIn.go l).isEmpty=true then settle r st else match AV.freeze deep (.agg l) st.hp with
   |some (p,hp')=>settle r ⟨(s,.pv (some (total l)) p)::st.fr,hp'⟩
   |none=>settle r st
 |_=>settle r st
theorem zm9(st:St):settle [] st=some st:=rfl
theorem zkW(s:Nat)(r:List Nat)(st:St):settle (s::r) st=zh8 s r st (st.fr.look s):=by
 simp only[settle]
 cases st.fr.look s with
 |none=>rfl
 |some v=>
  cases v with
  |ptr q o=>
   simp only[zh8]
   cases st.hp[q]? with
   |none=>rfl
   |some o=>cases o <;> rfl
  |_=>rfl
theorem zkX(s:Nat)(r:List Nat)(st:St)(q o:Nat):zh8 s r st (some (.ptr q o))=zkV r st q st.hp[q]? :=rfl
theorem zna(s:Nat)(r:List Nat)(st:St)(sh:Sh)(p:PV):zh8 s r st (some (.pv sh p))=settle r st:=rfl
theorem znb(r:List Nat)(st:St)(q:Nat)(sh s:Sh)(p:PV):zkV r st q (some (.box sh (.pv s p)))=settle r ⟨st.fr,st.hp.set q (.box sh (.pv sh p))⟩:=rfl
def setK(v:Option St)(K:St->Prop)[Tag K]:Prop:=
 match v with
 |some st=>K st
 |none=>False
theorem zpb(st:St)(K:St->Prop):setK (some st) K=K st:=rfl
theorem W_settle'{Γ:Oracle}{Λ:zan}{b:Nat}{st:St}{Q:AExit->St->Prop}(l:List Nat):W Γ Λ b (.settle l) st Q=setK (settle l st) (fun st'=>Q .normal st'):=by
 rw[zqF]
 cases settle l st <;> rfl
def zsA(x:Sh × PV):Option (List (Sh × PV))->Option (List (Sh × PV))
 |some l=>some (x::l)
 |none=>none
theorem znc(x:Sh × PV)(l:List (Sh × PV)):zsA x (some l)=some (x::l):=rfl
theorem zq8:zaC []=some []:=rfl
theorem zsB(s:Sh)(p:PV)(r:List AV):zaC (.pv s p::r)=zsA (s,p) (zaC r):=by
 have h:AV.weaken deep (.pv s p)=some p:=rfl
 simp only[zaC,h,AV.shp]
 cases zaC r <;> rfl
theorem zq9(s:Sh)(es:List PV)(r:List AV):zaC (.tsl s es::r)=zsA (none,.sl s es) (zaC r):=by
 have h:AV.weaken deep (.tsl s es)=some (.sl s es):=rfl
 simp only[zaC,h,AV.shp]
 cases zaC r <;> rfl
theorem znd(l:List (Sh × PV))(K:List (Sh × PV)->Prop):zoV (some l) K=K l:=rfl
theorem zra(s:Sh)(p:PV)(H:Heap):AV.alone (.pv s p) H=some (.pv s p):=rfl
theorem ztl(q:List AV):zbg [] q=q:=by cases q <;> rfl
theorem ztU(s:Sh)(p:PV)(r q:List AV)(x:AV):zbg (.pv s p::r) (x::q)=x::zbg r q:=rfl
theorem ztm(s:Sh)(a:PV)(l:List PV)(r q:List AV)(x:AV):zbg (.tsl s (a::l)::r) (x::q)=x::zbg r q:=rfl
def ztn(x:Sh × PV):Option (List (Sh × PV) × Heap)->Option (List (Sh × PV) × Heap)
 |some (l,hp)=>some (x::l,hp)
 |none=>none
theorem zne(x:Sh × PV)(l:List (Sh × PV))(hp:Heap):ztn x (some (l,hp))=some (x::l,hp):=rfl
theorem zh9(hp:Heap):zaq [] hp=some ([],hp):=rfl
theorem zjD(s:Sh)(p:PV)(r:List AV)(hp:Heap):zaq (.pv s p::r) hp=ztn (s,p) (zaq r hp):=by
 have h:AV.freeze deep (.pv s p) hp=some (p,hp):=rfl
 simp only[zaq,h,AV.shp]
 cases zaq r hp with
 |none=>rfl
 |some x=>rfl
def bslO(sh:Sh):Option (List PV)->Heap->Option (AV × Heap)
 |some es,hp=>some (.tsl sh es,hp)
 |none,_=>none
def bslZ(sh:Sh):Option (List (Sh × PV) × Heap)->Option (AV × Heap)
 |some (ps,hp)=>bslO sh (za3 sh ps) hp
 |none=>none
theorem zrb(sh:Sh)(hp:Heap)(vs:List AV):zbu sh hp vs=bslZ sh (zaq vs hp):=by
 unfold zbu bslZ
 cases zaq vs hp with
 |none=>rfl
 |some x=>
  obtain⟨ps,hp'⟩:=x
  simp only[]
  cases za3 sh ps <;> rfl
theorem zpc(sh:Sh)(ps:List (Sh × PV))(hp:Heap):bslZ sh (some (ps,hp))=bslO sh (za3 sh ps) hp:=rfl
theorem zpd(sh:Sh)(es:List PV)(hp:Heap):bslO sh (some es) hp=some (.tsl sh es,hp):=rfl
def zto(p:PV):Option (List PV)->Option (List PV)
 |some l=>some (p::l)
 |none=>none
theorem znf(p:PV)(l:List PV):zto p (some l)=some (p::l):=rfl
theorem zkY(sh:Sh):za3 sh []=some []:=rfl
theorem zjE(sh s:Sh)(p:PV)(r:List (Sh × PV)):za3 sh ((s,p)::r)=if s=sh then zto p (za3 sh r) else none:=by
 simp only[za3]
 split
 ·cases za3 sh r <;> rfl
 ·rfl
def bslQ(sh:Sh):Option (List PV)->Option AV
 |some es=>some (.tsl sh es)
 |none=>none
theorem zpe(sh:Sh)(es:List PV):bslQ sh (some es)=some (.tsl sh es):=rfl
def bslP(sh:Sh):Option (List (Sh × PV))->Option AV
 |some ps=>bslQ sh (za3 sh ps)
 |none=>none
theorem zpf(sh:Sh)(ps:List (Sh × PV)):bslP sh (some ps)=bslQ sh (za3 sh ps):=rfl
theorem zpg(sh:Sh)(vs:List AV):zcz sh vs=bslP sh (zaC vs):=by
 unfold zcz bslP
 cases zaC vs with
 |none=>rfl
 |some ps=>simp only[];cases za3 sh ps <;> rfl
def zrc(sh:Sh)(n:Nat):Option AObj->Prop
 |some (.arr s es false)=>s=sh/\es.length=n
 |_=>False
def zlI(n:Nat):Option AObj->Prop
 |some (.arr _ es _)=>es.length=n
 |_=>False
def zkZ:Option AObj->List PV
 |some (.arr _ es _)=>es
 |_=>[]
def zrd:Option AObj->Sh
 |some (.arr s _ _)=>s
 |_=>none
theorem zph{sh s:Sh}{n:Nat}(es:List PV):zrc sh n (some (.arr s es false))=(s=sh/\es.length=n):=rfl
theorem zpi{s:Sh}{fz:Bool}(es:List PV):zkZ (some (.arr s es fz))=es:=rfl
theorem zre{sh:Sh}{n:Nat}{o:Option AObj}(h:zrc sh n o):∃es,o=some (.arr sh es false)/\es.length=n:=by
 unfold zrc at h
 split at h
 ·obtain⟨rfl,h⟩:=h;exact⟨_,rfl,h⟩
 ·exact h.elim
theorem zpj{n:Nat}{o:Option AObj}(h:zlI n o):∃sh es fz,o=some (.arr sh es fz)/\es.length=n:=by
 unfold zlI at h
 split at h
 ·exact⟨_,_,_,rfl,h⟩
 ·exact h.elim
theorem zjF{sh s:Sh}{hp:Heap}{r n:Nat}{new:List PV}(h:zrc sh n hp[r]?)(h2:n+new.length<=lim):zbe sh hp [.sl s r n 0 n,.tsl sh new]=some (.sl sh r (n+new.length) 0 (n+new.length),hp.set r (.arr sh (zkZ hp[r]? ++new) false)):=by
 obtain⟨es,ho,rfl⟩:=zre h
 simp[zbe,aappend,elems,ho,h2,zkZ]
theorem freeze_sl'{sh:Sh}{hp:Heap}{r n:Nat}(h:zlI n hp[r]?):AV.freeze deep (.sl sh r n 0 n) hp=some (.sl (zrd hp[r]?) (zkZ hp[r]?),hp.set r (.arr (zrd hp[r]?) (zkZ hp[r]?) true)):=by
 obtain⟨sh',es,fz,ho,rfl⟩:=zpj h
 show AV.freeze (7+1) _ _=_
 simp[AV.freeze,ho,zkZ,zrd]
theorem zjG{sh:Sh}{hp:Heap}{r n:Nat}{v:AV}(h:zlI n hp[r]?):frozen v (.sl sh r n 0 n) hp=(.pv none (.sl (zrd hp[r]?) (zkZ hp[r]?))=v):=by
 simp only[frozen,AV.freezeRes,freeze_sl' h,AV.shp]
 exact propext ⟨fun⟨_,h⟩=>by cases h;rfl,fun h=>⟨_,by rw[h]⟩⟩
def frzT(v:AV):Option (List (Sh × PV) × Heap)->Prop
 |some (ps,_)=>.tuple (pvs ps)=v
 |none=>False
theorem zpk(v:AV)(ps:List (Sh × PV))(hp:Heap):frzT v (some (ps,hp))=(.tuple (pvs ps)=v):=rfl
theorem zbH{hp:Heap}{l:List AV}{v:AV}:frozen v (.tuple l) hp=frzT v (zaq l hp):=by
 simp only[frozen,AV.freezeRes]
 cases zaq l hp with
 |none=>simp[frzT]
 |some x=>
  obtain⟨ps,hp'⟩:=x
  simp only[frzT]
  exact propext ⟨fun⟨_,h⟩=>by cases h;rfl,fun h=>⟨_,by rw[h]⟩⟩
theorem zrf{x:Int}(h:0<=x)(h':x<18446744073709551616):IntKind.u64.wrap x=x:=by
 simp[IntKind.wrap,IntKind.signed,IntKind.bits]
 omega
def zsC(sh:Sh):Option AObj->Prop
 |some (.box s _)=>s=sh
 |_=>False
theorem zpl(sh s:Sh)(v:AV):zsC sh (some (.box s v))=(s=sh):=rfl
def zia(r:Nat)(sh:Sh):List (Sh × AV) × Heap->Option (AV × Heap)
 |(l,hp1)=>some (.undef,hp1.set r (.box sh (.agg l)))
theorem zk0(r:Nat)(sh:Sh)(l:List (Sh × AV))(hp1:Heap):zia r sh (l,hp1)=some (.undef,hp1.set r (.box sh (.agg l))):=rfl
theorem zab{b r:Nat}{sh:Sh}{hp:Heap}(h:b<=r)(l:List (Sh × AV))(hs:some (total l)=sh)(ho:zsC sh hp[r]?):zar sh b hp [.ptr r 0,.agg l]=zia r sh (zal l hp):=by
 cases ho':hp[r]? with
 |none=>rw[ho'] at ho;exact ho.elim
 |some o=>
  rw[ho'] at ho
  cases o with
  |box s old=>
   simp only[zsC] at ho
   subst ho
   simp only[zar,astore,ho',AV.plain,AV.shp,AV.own,hs,if_pos h]
   cases zal l hp with
   |mk l' hp'=>simp[zia]
  |arr s es fz=>exact ho.elim
  |map s es=>exact ho.elim
  |loop f ps env bz=>exact ho.elim
  |arv s es=>exact ho.elim
theorem zaQ{b r:Nat}{s':Sh}{hp:Heap}{K:AV->Heap->Prop}{q v o n off:Nat}(h:b<=r):zbP (zar none b hp [.ptr r off,.sl s' q v o n]) K=boxK hp[r]? fun s old=>if off=0/\s=none then K .undef (hp.set r (.box s (.sl s' q v o n))) else
  valK (AV.upd deep old off none (.sl s' q v o n)) fun new=>K .undef (hp.set r (.box s new)):=by
 simp only[zar,astore,AV.plain,AV.shp,AV.own]
 cases hp[r]? with
 |none=>rfl
 |some ob=>
  cases ob with
  |box s old=>
   simp only[boxK,if_pos h]
   by_cases h1:off=0/\s=none
   ·obtain⟨h1,h2⟩:=h1
    subst h1;subst h2
    simp[zbP]
   ·cases hu:AV.upd deep old off none (.sl s' q v o n) with
    |none=>simp[h1,zbP,valK]
    |some new=>simp[h1,zbP,valK]
  |arr s es fz=>rfl
  |map s es=>rfl
  |loop f ps env bz=>rfl
  |arv s es=>rfl
def updO:Option (List (Sh × AV))->Option AV
 |some l=>some (AV.ofComps l)
 |none=>none
theorem zpm(l:List (Sh × AV)):updO (some l)=some (AV.ofComps l):=rfl
theorem zsD(l:List (Sh × AV))(off:Nat)(sh:Sh)(x:AV):AV.upd deep (.agg l) off sh x=updO (AV.updGo (fun p o=>AV.upd 7 p o sh x) sh x off l):=by
 show AV.upd (7+1) (.agg l) off sh x=_
 simp only[AV.upd,AV.comps]
 cases AV.updGo (fun p o=>AV.upd 7 p o sh x) sh x off l <;> rfl
def ztp(s:Sh)(p:AV):Option (List (Sh × AV))->Option (List (Sh × AV))
 |some l=>some ((s,p)::l)
 |none=>none
theorem zng(s:Sh)(p:AV)(l:List (Sh × AV)):ztp s p (some l)=some ((s,p)::l):=rfl
theorem znh(f:AV->Nat->Option AV)(sh:Sh)(v:AV)(off:Nat)(s:Sh)(p:AV)(r:List (Sh × AV)):AV.updGo f sh v off ((s,p)::r)=if off=0/\s=sh then some ((s,v)::r) else if off<s.size then(match f p off with|some p'=>some ((s,p')::r)|none=>none) else ztp s p (AV.updGo f sh v (off - s.size) r):=by
 simp only[AV.updGo]
 split
 ·rfl
 ·split
  ·rfl
  ·cases AV.updGo f sh v (off - s.size) r <;> rfl
end Go.Am

/- (empty) -/

/- The steps, as one set. -/
namespace Go.Am
attribute [go_sem] zs3 zs4 ztF ztG zs5 zsm zqG zs6 zs8 zsn zso ztH zs7 zsp ztI ztJ zoH zqH zqI zqJ zoI zmO zoJ zmP zkI zjw zoK zmQ zqK zmR zoL zkJ zqL zoM zmS zkK zoN zqM zmT zh5 zkL zmU zjx zoO zqN ztK zta zsr zss ztb ztc zqO zmV zqP zqQ zqR zoP zst zmW zmX zoQ zsu zoR zsv zqS zqT ztd zoS zqU zmY zoT zqV zoU zqW zsw zqX zqZ zq0 zq1 s_mv zq3 zoX zq4 zte ztf ztL zoY zoZ ztM ztN ztO ztP ztQ ztR ztS ztT ztg zth zti zkN zjy ztj zo0 zo1 ztk zo2 zkP zo3 zm0 zsx zo4 zh6 zo5 zcT zdi zbW zm1 zm2 zh7 zgH zm3 zm4 zkR zo6 zjz zo7 zo8 zm5 zq6 zsz zm6 zjA zkT zjB zkS zo9 zpa zm7 zq7 zm8 W_settle' zpb zm9 zkW zkX zna znb znc zq8 zsB zq9 znd zra ztl ztU ztm zne zh9 zjD zrb zpc zpd znf zkY zjE zpg zpe zpf zph zpi zjF zjG zbH zpk zk0 zpl zpm zsD zng znh zkQ if_true if_false true_and and_true false_and and_false and_self Nat.zero_add Nat.add_zero eq_self Bool.true_eq_false Bool.false_eq_true cond_true cond_false decide_eq_true_eq Bool.not_eq_true' Bool.not_eq_false' decide_eq_false_iff_not not_true_eq_false not_false_eq_true Bool.true_and Bool.false_and Bool.and_true Bool.and_false Bool.not_true Bool.not_false Option.some.injEq decide_true decide_false List.getElem?_cons_zero List.getElem?_cons_succ List.length_cons List.length_nil List.nil_append List.cons_append List.set_cons_zero List.set_cons_succ List.take_zero List.drop_zero zq5 zsy zqY zkM zq2 zoW
end Go.Am

/- Terms: sizes, valid ones; how their parts are read. -/
namespace Go.Am
mutual
def Tm.size:Tm->Nat
 | .mk _ _ _ as=>1+Tm.sizes as
def Tm.sizes:List Tm->Nat
 |[]=>0
 |t::r=>t.size+Tm.sizes r
end
theorem Tm.size_eq(t:Tm):t.size=1+Tm.sizes t.args:=by cases t;simp[Tm.size,Tm.args]
theorem Tm.size_pos(t:Tm):0<t.size:=by rw[Tm.size_eq];omega
theorem Tm.zug:∀{l:List Tm} {t:Tm},t∈l->t.size<=Tm.sizes l
 |x::r,t,h=>by
  simp only[Tm.sizes]
  rcases List.mem_cons.1 h with rfl|h
  ·omega
  ·have:=Tm.zug h;omega
theorem Tm.zud(l r:List Tm):Tm.sizes (l++r)=Tm.sizes l+Tm.sizes r:=by
 induction l with
 |nil=>simp[Tm.sizes]
 |cons x l ih=>simp only[List.cons_append,Tm.sizes,ih];omega
theorem Tm.zt2(l:List Tm):l.length<=Tm.sizes l:=by
 induction l with
 |nil=>simp
 |cons x l ih=>have:=x.size_pos;simp only[List.length_cons,Tm.sizes];omega
theorem Tm.zt8{l:List Tm}{i:Nat}{t:Tm}(h:l[i]? =some t):Tm.sizes (l.take (i+1))=Tm.sizes (l.take i)+t.size:=by
 rw[List.take_add_one,h,Tm.zud]
 simp[Tm.sizes]
theorem Tm.zt4(l:List Tm)(i:Nat):Tm.sizes (l.take i)<=Tm.sizes l:=by
 have h:=Tm.zud (l.take i) (l.drop i)
 rw[List.take_append_drop] at h
 omega
theorem Tm.zt3{t u:Tm}(h:u∈t.args):u.size<t.size:=by
 have:=Tm.zug h
 rw[t.size_eq]
 omega
theorem Tm.zt6{P:Tm->Prop}(h:∀t:Tm,(∀u∈t.args,P u)->P t)(t:Tm):P t:=by
 have:∀n (t:Tm),t.size<=n->P t:=by
  intro n
  induction n with
  |zero=>intro t ht;have:=t.size_pos;omega
  |succ n ih=>exact fun t ht=>h t fun u hu=>ih u (by have:=Tm.zt3 hu;omega)
 exact this _ t (Nat.le_refl _)
theorem Tm.zul(l:List Tm):Tm.pvs l=l.map Tm.pv:=by
 induction l with
 |nil=>rfl
 |cons x l ih=>simp[Tm.pvs,ih]
theorem Tm.pvs_get{l:List Tm}{i:Nat}{t:Tm}(h:l[i]? =some t):(Tm.pvs l)[i]? =some t.pv:=by simp[Tm.zul,h]
theorem Tm.pvs_len(l:List Tm):(Tm.pvs l).length=l.length:=by simp[Tm.zul]
theorem Tm.zuq(l r:List Tm):Tm.pvs (l++r)=Tm.pvs l++Tm.pvs r:=by simp[Tm.zul]
theorem Tm.zt5{l:List Tm}{i:Nat}{t:Tm}(h:l[i]? =some t):Tm.pvs (l.take i)++[t.pv]=Tm.pvs (l.take (i+1)):=by
 rw[List.take_add_one,h,Tm.zuq]
 rfl
theorem zao(t:Tm):PV.part deep t.pv 0 none=some (.int .i64 t.kind):=by cases t;rfl
theorem zbS(t:Tm):PV.part deep t.pv 1 none=some (.int .i64 t.n):=by cases t;rfl
theorem zat(t:Tm):PV.part deep t.pv 2 none=some (.str t.name):=by cases t;rfl
theorem zak(t:Tm):PV.part deep t.pv 3 none=some (.sl (some 4) (Tm.pvs t.args)):=by cases t;rfl
theorem zaF{x:Int}(h: -9223372036854775808<=x)(h':x<9223372036854775808):IntKind.i64.wrap x=x:=by
 rw[IntKind.wrap_i64]
 omega
end Go.Am
namespace Go.Am
def Tm.node(t:Tm):Bool:=
 if t.kind=0 then decide (0<=t.n) && decide (t.n<=1099511627776) && decide (t.name=[]) && decide ((t.args.length:Int)=0)
 else if t.kind=1 then decide (t.name=[]) && decide ((t.args.length:Int)=0)
 else if t.kind=2 then decide (t.n=0) && decide ((t.name.length:Int)<=100) && decide ((t.args.length:Int)=0)
 else if t.kind=3 then decide (t.n=0) && decide ((t.name.length:Int)<=100) && decide (0<(t.args.length:Int)) && decide ((t.args.length:Int)<=8)
 else false
mutual
def Tm.fits:Tm->Bool
 | .mk k n s as=>Tm.node (.mk k n s as) && Tm.fitsAll as
def Tm.fitsAll:List Tm->Bool
 |[]=>true
 |t::r=>t.fits && Tm.fitsAll r
end
theorem Tm.zt9(t:Tm):t.fits=(t.node && Tm.fitsAll t.args):=by cases t;simp[Tm.fits,Tm.args]
theorem Tm.fitsAll_iff{l:List Tm}:Tm.fitsAll l=true↔∀t∈l,t.fits=true:=by
 induction l with
 |nil=>simp[Tm.fitsAll]
 |cons x l ih=>simp[Tm.fitsAll,ih]
theorem Tm.zua(l r:List Tm):Tm.fitsAll (l++r)=(Tm.fitsAll l && Tm.fitsAll r):=by
 induction l with
 |nil=>simp[Tm.fitsAll]
 |cons x l ih=>simp[Tm.fitsAll,ih,Bool.and_assoc]
theorem Tm.zue{l:List Tm}{i:Nat}{t:Tm}(h:l[i]? =some t):Tm.fitsAll (l.take (i+1))=(Tm.fitsAll (l.take i) && t.fits):=by
 rw[List.take_add_one,h,Tm.zua]
 simp[Tm.fitsAll]
theorem Tm.zt7{t u:Tm}(h:t.fits=true)(hu:u∈t.args):u.fits=true:=by
 rw[Tm.zt9,Bool.and_eq_true] at h
 exact Tm.fitsAll_iff.1 h.2 u hu
def Tm.valid(t:Tm):Bool:=decide (t.size<=2000) && t.fits
end Go.Am

/- Functions that run on their caller's heap; loops' heaps. -/
namespace Go.Am
variable{F:FuncId->Option AFn} {prim:FuncId->Option zbf}
theorem zbO{f:FuncId}{fn:AFn}{args:List AV}{hp hp':Heap}{v:AV}(hp0:prim f=none)(hf:F f=some fn)(hm:fn.heapMode=true)(hn:args.length=fn.nparams)
  (h:W (sem F prim) (sloop F prim) hp.length fn.code ⟨params 0 args,hp⟩ (endK fn.results (fun v' h'=>v'=v/\(if v.refsIn.all (fun q=>decide (q<hp.length))=true then h'.take hp.length else h')=hp')))(hr:fn.rcv=none:=by rfl)(hmo:fn.more=[]:=by rfl):sem F prim .fn f args hp=some (.ret v,hp'):=by
 rw[zgm]
 unfold zba
 rw[hp0,hf]
 simp only[hr,hmo,Option.isSome_none,Bool.false_eq_true,if_false,hm,if_true,abody,hn,ne_eq,not_true_eq_false,if_false]
 unfold W at h
 split at h
 ·rename_i e st' he
  rw[he]
  cases e with
  |normal=>
   rw[zbW] at h
   cases hr:zaA st' fn.results with
   |none=>rw[hr] at h;exact h.elim
   |some u=>
    rw[hr] at h
    obtain⟨h1,h2⟩:=h
    simp only[hr,h1,h2]
  |ret=>
   rw[zdi] at h
   cases hr:zaA st' fn.results with
   |none=>rw[hr] at h;exact h.elim
   |some u=>
    rw[hr] at h
    obtain⟨h1,h2⟩:=h
    simp only[hr,h1,h2]
  |exit i=>exact h.elim
  |panic v=>exact h.elim
 ·exact h.elim
theorem zcU{n b:Nat}{fr:Fr}{hp:Heap}(h:hp.length=n):collect n b fr hp=hp:=by
 unfold collect
 split
 ·rw[<-h,List.take_length]
 ·rfl
theorem zib{α:Type}{l r:List α}{i:Nat}(h:i<l.length):(l++r)[i]? =l[i]? :=List.getElem?_append_left h
theorem zrg{α:Type}(l:List α)(x:α):(l++[x])[l.length]? =some x:=by simp
theorem zpn{α:Type}{l r:List α}{i:Nat}(h:i<l.length)(x:α):(l++r).set i x=l.set i x++r:=by rw[List.set_append_left _ _ h]
theorem zdF{α:Type}{l:List α}{i:Nat}{x:α}(h:l[i]? =some x):i<l.length:=(List.getElem?_eq_some_iff.1 h).1
end Go.Am
namespace Go.Am
variable{Γ:Oracle} {Λ:zan} {b:Nat}
end Go.Am

namespace Go.Am
theorem zjH{b:Nat}{fr:Fr}(x:AObj):collect 1 b fr [x]=[x]:=zcU rfl
theorem zjI{b:Nat}{fr:Fr}(x y:AObj):collect 2 b fr [x,y]=[x,y]:=zcU rfl
theorem zjJ{b:Nat}{fr:Fr}:collect 0 b fr []=[]:=zcU rfl
theorem zic{F:FuncId->Option AFn}{prim:FuncId->Option zbf}{f:FuncId}{p:zbf}(h:prim f=some p)(as:List AV)(hp:Heap):sem F prim .fn f as hp=p f as hp:=by
 rw[zgm]
 unfold zba
 rw[h]
def cmpI(x y:Int):Int:=if x<y then -1 else if y<x then 1 else 0
def zeH(x y:Int):Int:=if x=0 then y else x
mutual
def Tm.cmp:Tm->Tm->Int
 | .mk k n s as,.mk k' n' s' as'=>zeH (cmpI k k') (zeH (cmpI n n') (zeH (cmpI as.length as'.length) (zeH (Lib.compareBytes s s') (Tm.cmps as as'))))
def Tm.cmps:List Tm->List Tm->Int
 |x::r,y::r'=>zeH (x.cmp y) (Tm.cmps r r')
 |_,_=>0
end
theorem Tm.zur(a b:Tm):a.cmp b=zeH (cmpI a.kind b.kind) (zeH (cmpI a.n b.n) (zeH (cmpI a.args.length b.args.length) (zeH (Lib.compareBytes a.name b.name) (Tm.cmps a.args b.args)))):=by
 cases a;cases b;rfl
theorem zcV(x:Int):cmpI x x=0:=by simp[cmpI]
theorem zhf(y:Int):zeH 0 y=y:=rfl
theorem zlJ{x:Int}(h:x≠0)(y:Int):zeH x y=x:=if_neg h
theorem zpo{x y:Int}:cmpI x y=0↔x=y:=by
 unfold cmpI
 split
 ·constructor <;> intro h <;> omega
 ·split <;> constructor <;> intro h <;> omega
theorem Tm.zuj{l r:List Tm}{i:Nat}{x y:Tm}(h:l[i]? =some x)(h':r[i]? =some y):Tm.cmps (l.drop i) (r.drop i)=zeH (x.cmp y) (Tm.cmps (l.drop (i+1)) (r.drop (i+1))):=by
 obtain⟨h1,rfl⟩:=List.getElem?_eq_some_iff.1 h
 obtain⟨h2,rfl⟩:=List.getElem?_eq_some_iff.1 h'
 rw[List.drop_eq_getElem_cons h1,List.drop_eq_getElem_cons h2,Tm.cmps]
end Go.Am

namespace Go.Am
theorem Tm.zuc(l:List Tm):Tm.cmps [] l=0:=by simp[Tm.cmps]
end Go.Am

namespace Go.Am
def Kept(p:Prop):Prop:=p
theorem Kept.out{p:Prop}(h:Kept p):p:=h
theorem Kept.mk{p:Prop}(h:p):Kept p:=h
end Go.Am
namespace Go.Am
theorem zcL{F:FuncId->Option AFn}{prim:FuncId->Option zbf}{f:FuncId}{fn:AFn}{args:List AV}{ps:List (Sh × PV)}{hp hp1 hp2:Heap}{v:AV}(hp0:prim f=none)(hf:F f=some fn)(hm:fn.heapMode=false)(hz:zaq args hp=some (ps,hp1))
  (h:sem F prim .fn f (pvs ps) []=some (.ret v,hp2))(hr:fn.rcv=none:=by rfl):sem F prim .fn f args hp=some (.ret v,bif v.scalar then hp else hp1):=by
 rw[zgm] at h ⊢
 unfold zba at h ⊢
 rw[hp0,hf] at h ⊢
 simp only[hr,Option.isSome_none,hm,Bool.false_eq_true,if_false,hz,zaa] at h ⊢
 split at h
 ·split at h
  ·cases h;simp_all
  ·cases h
 ·cases h
 ·cases h
end Go.Am

namespace Go.Am
theorem zrU{k:IntKind}(hk:0<k.bits)(x:Int):zco .shr k x 1=some (.int k (x / 2)):=by
 have h1:Nat.min (1:Int).toNat k.bits=1:=Nat.min_eq_left hk
 simp only[zco,h1]
 rw[if_neg (by decide),Int.fdiv_eq_ediv_of_nonneg _ (by decide)]
 rfl
end Go.Am

namespace Go.Am
end Go.Am

namespace Go.Am
end Go.Am

namespace Go.Am
attribute [go_sem] zjJ zjH zjI
end Go.Am

/- The standard order of terms is an order. -/
namespace Go.Am
open Lib (compareBytes)
theorem zlK{x y:Int}:zeH x y=0↔x=0/\y=0:=by
 unfold zeH;split <;> omega
theorem cb_zero:∀{a b:List UInt8},compareBytes a b=0↔a=b
 |[],[]=>by simp[compareBytes]
 |[],_::_=>by simp[compareBytes]
 |_::_,[]=>by simp[compareBytes]
 |x::a,y::b=>by
  simp only[compareBytes,List.cons.injEq]
  split
  ·rename_i h
   constructor
   ·intro h;omega
   ·rintro⟨rfl,_⟩;exact absurd h (by simp[UInt8.lt_iff_toNat_lt])
  ·split
   ·rename_i h
    constructor
    ·intro h;omega
    ·rintro⟨rfl,_⟩;exact absurd h (by simp[UInt8.lt_iff_toNat_lt])
   ·rename_i h1 h2
    have:x=y:=by
     rw[UInt8.lt_iff_toNat_lt] at h1 h2
     exact UInt8.toNat_inj.1 (by omega)
    simp[this,cb_zero]
theorem Tm.ext{a b:Tm}(h1:a.kind=b.kind)(h2:a.n=b.n)(h3:a.name=b.name)(h4:a.args=b.args):a=b:=by
 cases a;cases b;simp_all[Tm.kind,Tm.n,Tm.name,Tm.args]
theorem Tm.cmp_zero:∀{a b:Tm},a.cmp b=0↔a=b:=by
 intro a
 induction a using Tm.zt6 with
 |h a ih=>
  intro b
  have lists:∀(l r:List Tm),(∀t∈l,∀{b:Tm},t.cmp b=0↔t=b)->l.length=r.length->(Tm.cmps l r=0↔l=r):=by
   intro l
   induction l with
   |nil=>intro r _ hl;have:r=[]:=List.length_eq_zero_iff.1 hl.symm;subst this;simp[Tm.cmps]
   |cons x l ihl=>
    intro r hx hl
    cases r with
    |nil=>simp at hl
    |cons y r=>
     simp only[Tm.cmps,zlK,List.cons.injEq]
     rw[hx x (by simp),ihl r (fun t ht=>hx t (by simp[ht])) (by simpa using hl)]
  rw[Tm.zur]
  simp only[zlK,zpo,cb_zero]
  constructor
  ·rintro⟨h1,h2,h3,h4,h5⟩
   exact Tm.ext h1 h2 h4 ((lists _ _ ih (by omega)).1 h5)
  ·rintro rfl
   exact⟨rfl,rfl,rfl,rfl,(lists _ _ ih rfl).2 rfl⟩
end Go.Am

/- Flat clauses as plain data. -/
namespace Go.Am
structure Pr where
 name:List UInt8
 arity:Int
 aux:Int
structure Gl where
 kind:Int
 pred:Pr
 args:List Tm
 var:Int
structure Fl where
 pred:Pr
 args:List Tm
 goals:List Gl
def Pr.pv(p:Pr):PV:=.agg [(none,.str p.name),(none,.int .i64 p.arity),(none,.int .i64 p.aux)]
def Gl.pv(g:Gl):PV:=.agg [(none,.int .i64 g.kind),(some 3,g.pred.pv),(none,.sl (some 4) (Tm.pvs g.args)),(none,.int .i64 g.var)]
def Gl.pvs(l:List Gl):List PV:=l.map Gl.pv
def Fl.pv(f:Fl):PV:=.agg [(some 3,f.pred.pv),(none,.sl (some 4) (Tm.pvs f.args)),(none,.sl (some 6) (Gl.pvs f.goals))]
def Fl.av(f:Fl):AV:=.pv (some 5) f.pv
def Pr.ok(p:Pr):Bool:=
 if p.aux=0 then decide ((p.name.length:Int)<=100) && decide (0<=p.arity) && decide (p.arity<=8)
 else decide (p.name=[]) && decide (1<=p.aux) && decide (p.aux<=1099511627776) && decide (0<=p.arity) && decide (p.arity<=4096)
def Pr.zero(p:Pr):Bool:=decide (p.name=[]) && decide (p.arity=0) && decide (p.aux=0)
def zsE(left:Int):List Tm->Bool × Int
 |[]=>(true,left)
 |t::r=>if t.valid=true then if left - t.size<0 then(false,left - t.size) else zsE (left - t.size) r else(false,left)
def Gl.bare(g:Gl):Bool:=g.pred.zero && decide ((g.args.length:Int)=0)
def Gl.step(called:Bool)(left:Int)(g:Gl):Option (Bool × Int):=
 if g.kind=1 then
  if(g.pred.ok && decide ((g.args.length:Int)=g.pred.arity) && decide (g.var=0))=true then match zsE left g.args with
   |(true,l)=>some (true,l)
   |_=>none
  else none
 else if g.kind=2 then if(g.bare && decide (0<=g.var) && decide (g.var<=1099511627776) && !called)=true then some (called,left) else none
 else if g.kind=3\/g.kind=4 then if(g.bare && decide (0<=g.var) && decide (g.var<=1099511627776))=true then some (called,left) else none
 else if g.kind=5 then if(g.bare && decide (g.var=0))=true then some (called,left) else none
 else none
def Gl.steps:Bool->Int->List Gl->Bool
 |_,_,[]=>true
 |called,left,g::r=>match g.step called left with
  |some (c,l)=>Gl.steps c l r
  |none=>false
def Fl.valid(f:Fl):Bool:=
 f.pred.ok && decide ((f.args.length:Int)=f.pred.arity) && match zsE 131072 f.args with
  |(true,l)=>Gl.steps false l f.goals
  |_=>false

theorem zbd{t:Tm}(h:t.valid=true):t.size<=2000:=by
 unfold Tm.valid at h
 simp only[Bool.and_eq_true,decide_eq_true_eq] at h
 exact h.1
end Go.Am
namespace Go.Am
end Go.Am
namespace Go.Am
end Go.Am
namespace Go.Am
theorem Gl.pvs_len(l:List Gl):(Gl.pvs l).length=l.length:=by simp[Gl.pvs]
theorem Gl.pvs_get{l:List Gl}{i:Nat}{g:Gl}(h:l[i]? =some g):(Gl.pvs l)[i]? =some g.pv:=by simp[Gl.pvs,h]
end Go.Am
namespace Go.Am
end Go.Am
namespace Go.Am
end Go.Am
namespace Go.Am
mutual
def Tm.occ:Tm->List Int
 | .mk k n _ as=>if k=0 then[n] else Tm.occs as
def Tm.occs:List Tm->List Int
 |[]=>[]
 |t::r=>t.occ++Tm.occs r
end
theorem Tm.zuh(t:Tm):t.occ=if t.kind=0 then[t.n] else Tm.occs t.args:=by cases t;rfl
theorem Tm.zun(x y:List Tm):Tm.occs (x++y)=Tm.occs x++Tm.occs y:=by
 induction x with
 |nil=>simp[Tm.occs]
 |cons t r ih=>simp[Tm.occs,ih,List.append_assoc]
theorem Tm.zub{l:List Tm}{i:Nat}{t:Tm}(h:l[i]? =some t):Tm.occs (l.take (i+1))=Tm.occs (l.take i)++t.occ:=by
 obtain⟨h1,rfl⟩:=List.getElem?_eq_some_iff.1 h
 rw[List.take_succ_eq_append_getElem h1,Tm.zun]
 simp[Tm.occs]
theorem Tm.occ_len:∀t:Tm,t.occ.length<=t.size:=by
 intro t
 induction t using Tm.zt6 with
 |h t ih=>
  rw[Tm.zuh,Tm.size_eq]
  split
  ·simp
  ·have key:∀l:List Tm,(∀u∈l,u.occ.length<=u.size)->(Tm.occs l).length<=Tm.sizes l:=by
    intro l
    induction l with
    |nil=>intro _;simp[Tm.occs]
    |cons u r ih2=>
     intro hu
     have h1:=hu u (by simp)
     have h2:=ih2 fun v hv=>hu v (by simp[hv])
     simp only[Tm.occs,Tm.sizes,List.length_append]
     omega
   have:=key t.args ih
   omega
end Go.Am
namespace Go.Am
def Gl.op(g:Gl):Bool:=decide (g.kind=2) || decide (g.kind=3) || decide (g.kind=4)
def Gl.next(calls:Int)(g:Gl):Int:=if g.kind=1 then calls+1 else calls
theorem Tm.zuf(l:List Tm):(Tm.occs l).length<=Tm.sizes l:=by
 induction l with
 |nil=>simp[Tm.occs]
 |cons x y ih=>have:=x.occ_len;simp only[Tm.occs,Tm.sizes,List.length_append];omega
end Go.Am

/- Heaps of which a part is known. -/
namespace Go.Am
theorem getN{l xs:Heap}{n:Nat}(h:l.length=n)(k:Nat):(l++xs)[n+k]? =xs[k]? :=by
 rw[<-h,List.getElem?_append_right (by omega)]
 congr 1
 omega
theorem zeI{l xs:Heap}{n:Nat}(h:l.length=n):(l++xs)[n]? =xs[0]? :=getN h 0
theorem setN{l xs:Heap}{n:Nat}(h:l.length=n)(k:Nat)(x:AObj):(l++xs).set (n+k) x=l++xs.set k x:=by
 rw[<-h,List.set_append_right _ _ (by omega)]
 congr 2
 omega
theorem zeJ{l xs:Heap}{n:Nat}(h:l.length=n)(x:AObj):(l++xs).set n x=l++xs.set 0 x:=setN h 0 x
theorem ztV{l xs:Heap}{n:Nat}(h:l.length=n)(k:Nat):(l++xs).take (n+k)=l++xs.take k:=by
 rw[<-h,List.take_append,List.take_of_length_le (by omega)]
 congr 2
 omega
theorem zeg{n b:Nat}(k:Nat){fr:Fr}{base xs:Heap}(hb:base.length=b)(hn:n=b+k)(ho:(xs.take k).all (fun o=>o.refs.all (fun q=>decide (q<n)))=true)(hf:fr.all (fun x=>x.2.refsIn.all (fun q=>decide (q<n)))=true):collect n b fr (base++xs)=base++xs.take k:=by
 have h1:(base++xs).take n=base++xs.take k:=by rw[hn];exact ztV hb k
 have h2:((base++xs).take n).drop b=xs.take k:=by rw[h1,<-hb];exact List.drop_left
 unfold collect
 rw[if_pos (by rw[hf,h2,ho];rfl),h1]
theorem zk1{n b:Nat}{fr:Fr}{hp:Heap}(h:hp.length=n):collect n b fr hp=hp:=zcU h
variable{F:FuncId->Option AFn} {prim:FuncId->Option zbf}
theorem zcj{α:Type}(N:Nat)(inv:Nat->α->Prop)(sti:Nat->α->St){b:Nat}{keep:List Nat}{c:ACode}{st:St}{Q:AExit->St->Prop}(a0:α)(h0:inv 0 a0/\(⟨st.fr.keep keep,st.hp⟩:St)=sti 0 a0)
  (h1:∀i a,i<N->inv i a->W (sem F prim) (sloop F prim) b c (sti i a) (seqK (fun st'=>∃a',inv (i+1) a'/\(⟨st'.fr.keep keep,collect st.hp.length b (st'.fr.keep keep) st'.hp⟩:St)=sti (i+1) a') Q))
  (h2:∀a,inv N a->W (sem F prim) (sloop F prim) b c (sti N a) (seqK (fun _=>False) Q)):W (sem F prim) (sloop F prim) b (.loop keep c) st Q:=by
 refine zgo (fun n s=>∃i a,n=N - i/\i<=N/\inv i a/\s=sti i a) (n:=N) ⟨0,a0,rfl,Nat.zero_le _,h0.1,h0.2⟩ ?_
 rintro n s ⟨i,a,hn,hi,hinv,rfl⟩
 by_cases h:i<N
 ·refine zrS (h1 i a h hinv) fun e st' he=> ?_
  cases e with
  |normal=>
   obtain⟨a',k1,k2⟩:=he
   exact⟨N - (i+1),by omega,i+1,a',rfl,by omega,k1,k2⟩
  |exit j=>exact he
  |ret=>exact he
  |panic v=>exact he
 ·obtain rfl:i=N:=by omega
  refine zrS (h2 a hinv) fun e st' he=> ?_
  cases e with
  |normal=>exact he.elim
  |exit j=>exact he
  |ret=>exact he
  |panic v=>exact he
theorem zeK{str ok:Bool}{sh:Sh}{zero:AV}{hp:Heap}{r:Nat}{s:Sh}{k v:PV}{es:List (PV × PV)}(ho:hp[r]? =some (.map sh es))(hf:afind str k es=some (some v)):za8 str sh zero ok hp [.map r,.pv s k]=some (bif ok then .tuple [.pv sh v,.pv none (.bool true)] else .pv sh v):=by
 simp[za8,ho,hf]
theorem zeL{str ok:Bool}{sh:Sh}{zero:AV}{hp:Heap}{r:Nat}{s:Sh}{k:PV}{es:List (PV × PV)}(ho:hp[r]? =some (.map sh es))(hf:afind str k es=some none):za8 str sh zero ok hp [.map r,.pv s k]=some (bif ok then .tuple [zero,.pv none (.bool false)] else zero):=by
 simp[za8,ho,hf]
theorem zeh{str:Bool}{sh:Sh}{hp:Heap}{r:Nat}{s:Sh}{k p:PV}{es es':List (PV × PV)}(ho:hp[r]? =some (.map sh es))(hf:aput str k p es=some es'):zcq str sh hp [.map r,.pv s k,.pv sh p]=some (.undef,hp.set r (.map sh es')):=by
 have h:AV.freeze deep (.pv sh p) hp=some (p,hp):=rfl
 simp[zcq,AV.shp,h,ho,hf]
end Go.Am

/- Sorting: insertion, merging, and that both come to the same. -/
namespace Go.Am
section
variable{α:Type} (c:α->α->Int)
def mrg:List α->List α->List α
 |[],B=>B
 |a::A,B=>go a A (mrg A) B
where
 go (a:α) (A:List α) (rest:List α->List α):List α->List α
 |[]=>a::A
 |b::B=>if c b a<0 then b::go a A rest B else a::rest (b::B)
theorem zeM:∀A:List α,mrg c A []=A
 |[]=>rfl
 |_::_=>rfl
theorem zlL(a:α)(A:List α)(b:α)(B:List α):mrg c (a::A) (b::B)=if c b a<0 then b::mrg c (a::A) B else a::mrg c A (b::B):=rfl
def Srt(l:List α):Prop:=l.Pairwise fun x y=>c x y<=0

variable{c}
theorem Srt.tail{a:α}{l:List α}(h:Srt c (a::l)):Srt c l:=(List.pairwise_cons.1 h).2
theorem Srt.head{a:α}{l:List α}(h:Srt c (a::l)):∀x∈l,c a x<=0:=(List.pairwise_cons.1 h).1
theorem zlM:∀(A B:List α),(mrg c A B).Perm (A++B)
 |[],B=>by simp[mrg]
 |a::A,B=>by
  induction B with
  |nil=>simp[zeM]
  |cons b B ih=>
   rw[zlL]
   split
   ·exact(List.Perm.cons b ih).trans (List.perm_middle (l₁:=a::A) (l₂:=B) (a:=b)).symm
   ·exact List.Perm.cons a (zlM A (b::B))
def insC(c:α->α->Int)(t:α):List α->List α
 |[]=>[t]
 |x::l=>if c t x<0 then t::x::l else x::insC c t l
def isort(c:α->α->Int)(l:List α):List α:=l.foldl (fun s t=>insC c t s) []
theorem zlN(t:α):∀l:List α,insC c t l=mrg c l [t]
 |[]=>rfl
 |x::l=>by
  rw[zlL,insC]
  split
  ·rw[zeM]
  ·rw[zlN t l]
theorem zni(l:List α):(isort c l).Perm l:=by
 have:∀(l A:List α),(l.foldl (fun s t=>insC c t s) A).Perm (A++l):=by
  intro l
  induction l with
  |nil=>intro A;simp
  |cons t l ih=>
   intro A
   refine(ih _).trans ?_
   show(insC c t A++l).Perm _
   rw[zlN]
   refine((zlM A [t]).append_right l).trans ?_
   simp
 simpa[isort] using this l []
theorem zdG(l:List α):(isort c l).length=l.length:=(zni l).length_eq
end
end Go.Am
namespace Go.Am
end Go.Am
namespace Go.Am
section
variable{α:Type} {c:α->α->Int}
inductive Blk(c:α->α->Int)(n:Nat):List α->List α->Prop
 |last (x:List α) (h:x.length<=n):Blk c n x (isort c x)
 |cons (x r d:List α) (h:x.length=n) (k:Blk c n r d):Blk c n (x++r) (isort c x++d)
inductive Full(c:α->α->Int)(n:Nat):List α->List α->Prop
 |nil:Full c n [] []
 |snoc (x r d:List α) (h:x.length=n) (k:Full c n r d):Full c n (r++x) (d++isort c x)
theorem Full.blk{n:Nat}{r d r' d':List α}(h:Full c n r d)(k:Blk c n r' d'):Blk c n (r++r') (d++d'):=by
 induction h generalizing r' d' with
 |nil=>exact k
 |snoc x r d hx _ ih=>
  have:=ih (.cons x r' d' hx k)
  simpa using this
theorem Full.length{n:Nat}{r d:List α}(h:Full c n r d):d.length=r.length:=by
 induction h with
 |nil=>rfl
 |snoc x r d hx _ ih=>simp[ih,zdG]
theorem Blk.length{n:Nat}{r d:List α}(h:Blk c n r d):d.length=r.length:=by
 induction h with
 |last x h=>exact zdG x
 |cons x r d hx _ ih=>simp[ih,zdG]
theorem Blk.two{n:Nat}{r d:List α}(h:Blk c n r d)(hn:0<n)(hr:n<r.length):∃x y r2 d2,r=x++y++r2/\d=isort c x++isort c y++d2/\x.length=n/\y.length<=n/\0<y.length/\Blk c n r2 d2/\(y.length<n->r2=[]):=by
 cases h with
 |last x h=>omega
 |cons x r1 d1 hx k=>
  cases k with
  |last _ hy=>exact⟨x,r1,[],[],by simp,by simp,hx,hy,by simp at hr;omega,.last [] (by simp),fun _=>rfl⟩
  |cons y r2 d2 hy k=>exact⟨x,y,r2,d2,by simp,by simp,hx,by omega,by omega,k,fun h=>by omega⟩
end
end Go.Am

/- Terms out of values, and comparing by what they stand for. -/
namespace Go.Am
theorem Tm.zuv:∀{a b:Tm},a.pv=b.pv->a=b:=by
 intro a
 induction a using Tm.zt6 with
 |h a ih=>
  intro b hab
  have lists:∀(l r:List Tm),(∀t∈l,∀{b:Tm},t.pv=b.pv->t=b)->Tm.pvs l=Tm.pvs r->l=r:=by
   intro l
   induction l with
   |nil=>intro r _ h;cases r with
    |nil=>rfl
    |cons y r=>simp[Tm.pvs] at h
   |cons x l ihl=>
    intro r hx h
    cases r with
    |nil=>simp[Tm.pvs] at h
    |cons y r=>
     simp only[Tm.pvs,List.cons.injEq] at h
     rw[hx x (by simp) h.1,ihl r (fun t ht=>hx t (by simp[ht])) h.2]
  rw[Tm.zuu,Tm.zuu] at hab
  simp only[PV.agg.injEq,List.cons.injEq,Prod.mk.injEq,PV.int.injEq,PV.str.injEq,PV.sl.injEq,true_and,and_true] at hab
  exact Tm.ext hab.1 hab.2.1 hab.2.2.1 (lists _ _ ih hab.2.2.2)
open Classical in
noncomputable def tmOf(p:PV):Tm:=if h:∃t:Tm,p=t.pv then h.choose else .mk 0 0 [] []
theorem zsF(t:Tm):tmOf t.pv=t:=by
 have h:∃u:Tm,t.pv=u.pv:=⟨t,rfl⟩
 unfold tmOf
 rw[dif_pos h]
 exact(Tm.zuv h.choose_spec).symm
noncomputable def onPV(c:Tm->Tm->Int)(p q:PV):Int:=c (tmOf p) (tmOf q)
theorem insC_pvs(c:Tm->Tm->Int)(t:Tm):∀l:List Tm,insC (onPV c) t.pv (Tm.pvs l)=Tm.pvs (insC c t l)
 |[]=>rfl
 |x::l=>by
  simp only[Tm.pvs,insC,onPV,zsF]
  split
  ·rfl
  ·simp only[Tm.pvs]
   rw[insC_pvs c t l]
end Go.Am

/- What a law is given, as values without references. -/
namespace Go.Am
variable{P:Program} {H:Type} {enc:TypeId × Value->H} {w:World} {I:Nat->Prop}

theorem zeN{α β:Type}{g:α->Option β}:∀{l:List α} {xs:List β},l.mapM g=some xs->l.length=xs.length/\∀(i:Nat) (a:α) (x:β),l[i]? =some a->xs[i]? =some x->g a=some x
 |[],xs,h=>by
  simp at h
  subst h
  exact⟨rfl,fun i a x h=>by simp at h⟩
 |a::r,xs,h=>by
  rw[List.mapM_cons] at h
  cases ha:g a with
  |none=>rw[ha] at h;cases h
  |some y=>
   rw[ha] at h
   cases hr:r.mapM g with
   |none=>rw[hr] at h;cases h
   |some ys=>
    rw[hr] at h
    cases h
    obtain⟨h1,h2⟩:=zeN hr
    refine⟨by simp[h1],fun i b x hb hx=> ?_⟩
    cases i with
    |zero=>simp at hb hx;subst hb;subst hx;exact ha
    |succ i=>exact h2 i b x (by simpa using hb) (by simpa using hx)

def zd2(sh:Sh)(cs:List Value):Value:=
 match sh with
 |none=>cs.headD .nilIface
 |some _=>.agg cs.toArray

def zdY(P:Program)(n:Nat):Nat->List Field->Bool
 |o,[]=>decide (o=n)
 |o,f::r=>decide (f.offset=o) && okT P f.type && zdY P n (o+(shOf P f.type).size) r
def zck(P:Program)(g:TypeId->DataW H->Option PV):List Field->List (DataW H)->Option (List (Sh × PV))
 |[],[]=>some []
 |f::fs,d::ds=>match g f.type d with
  |none=>none
  |some p=>match zck P g fs ds with
   |some l=>some ((shOf P f.type,p)::l)
   |none=>none
 |_,_=>none
def zdj(g:DataW H->Option PV):List (DataW H)->Option (List PV)
 |[]=>some []
 |d::ds=>match g d with
  |none=>none
  |some p=>match zdj g ds with
   |some l=>some (p::l)
   |none=>none
def zdH(P:Program):Nat->TypeId->DataW H->Option PV
 |0,_,_=>none
 |n+1,t,d=>match P.underlying t,d with
  |some .bool,.lit (.bool b)=>some (.bool b)
  |some (.int k),.lit (.int k' n)=>if k'=k/\(Lit.int k n).wf=true then some (.int k n) else none
  |some .string,.lit (.string l)=>some (.str l)
  |some (.slice e),.nil=>some (.sl (shOf P e) [])
  |some (.slice e),.slice es _=>if okT P e=true then match zdj (zdH P n e) es with
    |some l=>some (.sl (shOf P e) l)
    |none=>none
   else none
  |some (.struct fs),.agg parts=>if zdY P (P.cellsOf t) 0 fs.toList=true then match zck P (zdH P n) fs.toList parts with
    |some l=>some (.agg l)
    |none=>none
   else none
  |_,_=>none

theorem zjK{t:TypeId}(h:okT P t=true):P.cellsOf t=(shOf P t).size/\0<P.cellsOf t:=by
 unfold okT at h
 split at h
 ·rename_i i _ hi _
  simp only[Bool.and_eq_true,beq_iff_eq,decide_eq_true_eq] at h
  have:P.cellsOf t=i.size:=by simp[Program.cellsOf,hi]
  omega
 ·cases h

theorem zhg{base:Nat}{a:Addr}{n:Nat}{l:List Value}(h:w.cells? base a n=some l)(hn:0<n):a.spot=none/\∃cs t fr,w.heap[a.block]? =some (.cells cs t fr)/\l=(cs.toList.drop a.off).take n/\l.length=n:=by
 unfold World.cells? at h
 split at h
 ·obtain⟨h1,h2⟩:=zeN h
  rw[List.length_range] at h1
  have rd:∀i,i<n->∃v,l[i]? =some v/\w.cell? (a.add i)=some v:=by
   intro i hi
   have hl:l[i]? =some l[i]:=List.getElem?_eq_getElem (by omega)
   exact⟨l[i],hl,h2 i i l[i] (by simp[hi]) hl⟩
  obtain⟨v0,hv0,hc0⟩:=rd 0 hn
  unfold World.cell? at hc0
  split at hc0
  ·rename_i cs t fr hb
   split at hc0
   ·cases hc0
   ·rename_i hsp
    have hb':w.heap[a.block]? =some (.cells cs t fr):=hb
    have hsp':a.spot=none:=by simpa[Addr.add] using hsp
    refine⟨hsp',cs,t,fr,hb',?_,h1.symm⟩
    apply List.ext_getElem?
    intro i
    by_cases hi:i<n
    ·obtain⟨v,e1,e2⟩:=rd i hi
     rw[e1]
     have ea:a.add i=⟨a.block,a.off+i,none⟩:=by
      unfold Addr.add
      split
      ·rename_i h0;subst h0;cases a;simp_all
      ·rfl
     rw[ea] at e2
     simp only[World.cell?,hb',Option.isSome_none,Bool.false_eq_true,if_false] at e2
     rw[List.getElem?_take_of_lt hi,List.getElem?_drop]
     simpa using e2.symm
    ·rw[List.getElem?_eq_none (by omega),List.getElem?_eq_none (by simp;omega)]
  ·cases hc0
 ·cases h

theorem zjL{g:TypeId->List Value->Option (DataW H × List MemPlace)}{f:TypeId->DataW H->Option PV}
  (hg:∀t cs d ps p,g t cs=some (d,ps)->okT P t=true->f t d=some p->PR w I p (zd2 (shOf P t) cs)/\vshp (zd2 (shOf P t) cs)=shOf P t/\(zd2 (shOf P t) cs).cells.toList=cs)(cs:List Value):
  ∀(fs:List Field) (o:Nat) (xs:List (DataW H × List MemPlace)) (l:List (Sh × PV)),zdY P cs.length o fs=true->fs.mapM (fun fd=>g fd.type ((cs.drop fd.offset).take (P.cellsOf fd.type)))=some xs->zck P f fs (xs.map (·.1))=some l->
  ∃vs:List Value,l.length=vs.length/\(∀(i:Nat) (x:Sh × PV) (v:Value),l[i]? =some x->vs[i]? =some v->vshp v=x.1)/\(∀(i:Nat) (x:Sh × PV) (v:Value),l[i]? =some x->vs[i]? =some v->PR w I x.2 v)/\cellsOf vs=cs.drop o
 |[],o,xs,l,hok,hm,hp=>by
  simp[zdY] at hok
  simp at hm
  subst hm
  simp[zck] at hp
  subst hp
  exact⟨[],rfl,fun i x v h=>by simp at h,fun i x v h=>by simp at h,by simp[cellsOf,hok]⟩
 |fd::r,o,xs,l,hok,hm,hp=>by
  simp only[zdY,Bool.and_eq_true,decide_eq_true_eq] at hok
  obtain⟨⟨h1,h2⟩,h3⟩:=hok
  rw[List.mapM_cons] at hm
  cases ha:g fd.type ((cs.drop fd.offset).take (P.cellsOf fd.type)) with
  |none=>rw[ha] at hm;cases hm
  |some y=>
   rw[ha] at hm
   cases hr:r.mapM (fun fd=>g fd.type ((cs.drop fd.offset).take (P.cellsOf fd.type))) with
   |none=>rw[hr] at hm;cases hm
   |some ys=>
    rw[hr] at hm
    cases hm
    simp only[List.map_cons,zck] at hp
    split at hp
    ·cases hp
    ·rename_i p hfp
     split at hp
     ·rename_i l' hl'
      cases hp
      obtain⟨k1,k2,k3⟩:=hg _ _ y.1 y.2 p ha h2 hfp
      obtain⟨vs,e1,e2,e3,e4⟩:=zjL hg cs r _ ys l' h3 hr hl'
      refine⟨zd2 (shOf P fd.type) ((cs.drop fd.offset).take (P.cellsOf fd.type))::vs,by simp[e1],?_,?_,?_⟩
      ·intro i x v hx hv
       cases i with
       |zero=>simp at hx hv;subst hx;subst hv;exact k2
       |succ i=>exact e2 i x v (by simpa using hx) (by simpa using hv)
      ·intro i x v hx hv
       cases i with
       |zero=>simp at hx hv;subst hx;subst hv;exact k1
       |succ i=>exact e3 i x v (by simpa using hx) (by simpa using hv)
      ·simp only[cellsOf,List.flatMap_cons,k3]
       have e4':List.flatMap (fun v=>v.cells.toList) vs=cs.drop (o+(shOf P fd.type).size):=e4
       rw[e4',h1,(zjK h2).1,<-List.drop_drop,List.take_append_drop]
     ·cases hp

theorem zlO{f:DataW H->Option PV}{g:Nat->Option (DataW H × List MemPlace)}{R:Nat->PV->Prop}
  (hg:∀i d ps p,g i=some (d,ps)->f d=some p->R i p):
  ∀(is:List Nat) (xs:List (DataW H × List MemPlace)) (l:List PV),is.mapM g=some xs->zdj f (xs.map (·.1))=some l->
  l.length=is.length/\∀(k i:Nat) (p:PV),is[k]? =some i->l[k]? =some p->R i p
 |[],xs,l,hm,hp=>by
  simp at hm
  subst hm
  simp[zdj] at hp
  subst hp
  exact⟨rfl,fun k i p h=>by simp at h⟩
 |i::r,xs,l,hm,hp=>by
  rw[List.mapM_cons] at hm
  cases ha:g i with
  |none=>rw[ha] at hm;cases hm
  |some y=>
   rw[ha] at hm
   cases hr:r.mapM g with
   |none=>rw[hr] at hm;cases hm
   |some ys=>
    rw[hr] at hm
    cases hm
    simp only[List.map_cons,zdj] at hp
    split at hp
    ·cases hp
    ·rename_i p hfp
     split at hp
     ·rename_i l' hl'
      cases hp
      obtain⟨e1,e2⟩:=zlO hg r ys l' hr hl'
      refine⟨by simp[e1],fun k j q hk hq=> ?_⟩
      cases k with
      |zero=>simp at hk hq;subst hk;subst hq;exact hg i y.1 y.2 p ha hfp
      |succ k=>exact e2 k j q (by simpa using hk) (by simpa using hq)
     ·cases hp

theorem zhh(f:Nat->Value)(l:List Value)(o n:Nat):∀m:Nat,(∀i,i<m->(f i).cells.toList=(l.drop (o+i*n)).take n)->cellsOf ((List.range m).map f)=(l.drop o).take (m*n)
 |0,_=>by simp[cellsOf]
 |m+1,h=>by
  have ih:=zhh f l o n m fun i hi=>h i (by omega)
  unfold cellsOf at ih ⊢
  rw[List.range_succ,List.map_append,List.flatMap_append,ih]
  simp only[List.map_cons,List.map_nil,List.flatMap_cons,List.flatMap_nil,List.append_nil]
  rw[h m (by omega),Nat.add_mul,Nat.one_mul,List.take_add,List.drop_drop]

theorem zsG(hI:∀b,I b){base:Nat}{spare:Nat->Bool}{held:Bool}:∀(fuel:Nat) (n:Nat) (t:TypeId) (cs:List Value) (d:DataW H) (ps:List MemPlace) (p:PV),DataW.trod enc P w base spare held fuel t cs=some (d,ps)->okT P t=true->zdH P n t d=some p->
  PR w I p (zd2 (shOf P t) cs)/\vshp (zd2 (shOf P t) cs)=shOf P t/\(zd2 (shOf P t) cs).cells.toList=cs:=by
 intro fuel
 induction fuel with
 |zero=>intro n t cs d ps p h;cases h
 |succ fuel ih=>
  intro n t cs d ps p h hok hp
  cases n with
  |zero=>cases hp
  |succ n=>
  simp only[zdH] at hp
  cases hu:P.underlying t with
  |none=>rw[hu] at hp;cases hp
  |some u=>
   rw[hu] at hp
   unfold DataW.trod at h
   rw[hu] at h
   cases u with
   |bool=>
    have hs:shOf P t=none:=by unfold shOf;rw[hu]
    rw[hs]
    simp only at h hp
    split at h <;> first|contradiction|(exfalso;clear ih;simp_all;done)|skip
    ·cases h
     cases hp
     exact⟨.bool _,rfl,rfl⟩
   |int k=>
    have hs:shOf P t=none:=by unfold shOf;rw[hu]
    rw[hs]
    simp only at h hp
    split at h <;> first|contradiction|(exfalso;clear ih;simp_all;done)|skip
    ·rename_i e
     split at h
     ·rename_i e2
      obtain⟨e2,e3⟩:=e2
      subst e2
      cases h
      cases e
      simp only[e3,and_self,if_true] at hp
      cases hp
      exact⟨.int _ _,rfl,rfl⟩
     ·cases h
   |string=>
    have hs:shOf P t=none:=by unfold shOf;rw[hu]
    rw[hs]
    simp only at h hp
    split at h <;> first|contradiction|(exfalso;clear ih;simp_all;done)|skip
    ·split at h
     ·cases h
      cases hp
      exact⟨.str _,rfl,rfl⟩
     ·cases h
   |slice e=>
    have hs:shOf P t=none:=by unfold shOf;rw[hu]
    rw[hs]
    simp only at h hp
    split at h <;> first|contradiction|(exfalso;clear ih;simp_all;done)|skip
    ·cases h
     cases hp
     exact⟨.nilsl _ _ _,rfl,rfl⟩
    ·rename_i e' a len cap hx
     cases hx
     split at h
     ·rename_i hb
      obtain⟨hb1,hb2,hb3⟩:=hb
      rw[Option.bind_eq_some_iff] at h
      obtain⟨elems,hm,h⟩:=h
      rw[Option.map_eq_some_iff] at h
      obtain⟨rest,hr,h⟩:=h
      cases h
      simp only at hp
      split at hp
      ·rename_i hoe
       split at hp
       ·rename_i l hl
        cases hp
        obtain⟨hc1,hc2⟩:=zjK hoe
        obtain⟨k1,k2⟩:=zlO (R:=fun i p=>PR w I p (zd2 (shOf P e) (((w.cells? base (a.add (i*P.cellsOf e)) (P.cellsOf e))).getD []))/\vshp (zd2 (shOf P e) (((w.cells? base (a.add (i*P.cellsOf e)) (P.cellsOf e))).getD []))=shOf P e/\(zd2 (shOf P e) (((w.cells? base (a.add (i*P.cellsOf e)) (P.cellsOf e))).getD [])).cells.toList=((w.cells? base (a.add (i*P.cellsOf e)) (P.cellsOf e))).getD []) (fun i d ps p hg hf=>by
         rw[Option.bind_eq_some_iff] at hg
         obtain⟨c,hc,hg⟩:=hg
         rw[hc]
         exact ih n e c d ps p hg hoe hf) _ _ _ hm hl
        rw[List.length_range] at k1
        refine⟨?_,rfl,rfl⟩
        have hel:elems.length=len:=by have:=(zeN hm).1;simpa using this.symm
        cases len with
        |zero=>
         have:l=[]:=List.length_eq_zero_iff.1 (by omega)
         subst this
         exact .nilsl _ _ _
        |succ m=>
         have rd:∀i,i<m+1->∃c,w.cells? base (a.add (i*P.cellsOf e)) (P.cellsOf e)=some c:=fun i hi=>by
          have hx:elems[i]? =some elems[i]:=List.getElem?_eq_getElem (by omega)
          have:=(zeN hm).2 i i elems[i] (by simp[hi]) hx
          rw[Option.bind_eq_some_iff] at this
          obtain⟨c,hc,_⟩:=this
          exact⟨c,hc⟩
         obtain⟨c0,hc0⟩:=rd 0 (by omega)
         obtain⟨s0,cs',t',fr',hblk,_,_⟩:=zhg hc0 hc2
         have ea0:a.add (0*P.cellsOf e)=a:=by simp[Addr.add]
         rw[ea0] at s0 hblk
         have seg:∀i,i<m+1->(w.cells? base (a.add (i*P.cellsOf e)) (P.cellsOf e)).getD []=(cs'.toList.drop (a.off+i*P.cellsOf e)).take (P.cellsOf e)/\((w.cells? base (a.add (i*P.cellsOf e)) (P.cellsOf e)).getD []).length=P.cellsOf e:=fun i hi=>by
          obtain⟨c,hc⟩:=rd i hi
          obtain⟨_,cs2,t2,fr2,hb2,e2,e3⟩:=zhg hc hc2
          have eo:(a.add (i*P.cellsOf e)).off=a.off+i*P.cellsOf e:=by unfold Addr.add;split <;> simp_all
          have eb:(a.add (i*P.cellsOf e)).block=a.block:=by unfold Addr.add;split <;> rfl
          rw[eb,hblk] at hb2
          cases hb2
          rw[hc,Option.getD_some]
          rw[eo] at e2
          exact⟨e2,e3⟩
         have ha:a=⟨a.block,a.off,none⟩:=by cases a;simp_all
         have hll:l.length=m+1:=k1
         rw[ha]
         have hgoal:PR w I (.sl (shOf P e) l) (.slice (some ⟨a.block,a.off,none⟩) l.length cap):=by
          refine .sl _ _ a.block a.off cap cs' t' fr' ((List.range (m+1)).map fun i=>zd2 (shOf P e) ((w.cells? base (a.add (i*P.cellsOf e)) (P.cellsOf e)).getD [])) (by simp[hll]) (hI _) hblk ?_ ?_ ?_ (by omega)
          ·intro i p v hp hv
           have hi:i<m+1:=by rw[<-hll];exact(List.getElem?_eq_some_iff.1 hp).1
           simp[hi] at hv
           subst hv
           exact(k2 i i p (by simp[hi]) hp).2.1
          ·intro i p v hp hv
           have hi:i<m+1:=by rw[<-hll];exact(List.getElem?_eq_some_iff.1 hp).1
           simp[hi] at hv
           subst hv
           exact(k2 i i p (by simp[hi]) hp).1
          ·have cl:∀i,i<m+1->(zd2 (shOf P e) ((w.cells? base (a.add (i*P.cellsOf e)) (P.cellsOf e)).getD [])).cells.toList=(cs'.toList.drop (a.off+i*P.cellsOf e)).take (P.cellsOf e):=fun i hi=>by
            rw[<-(seg i hi).1]
            exact(k2 i i l[i] (by simp[hi]) (List.getElem?_eq_getElem (by omega))).2.2
           rw[hll,<-hc1]
           exact zhh (fun i=>zd2 (shOf P e) ((w.cells? base (a.add (i*P.cellsOf e)) (P.cellsOf e)).getD [])) cs'.toList a.off (P.cellsOf e) (m+1) cl
         rw[hll] at hgoal
         exact hgoal
       ·cases hp
      ·cases hp
     ·cases h
   |struct fs=>
    have hs:shOf P t=some (P.cellsOf t):=by unfold shOf;rw[hu]
    rw[hs]
    simp only at h hp
    split at h <;> first|contradiction|(exfalso;clear ih;simp_all;done)|skip
    ·rename_i hlen
     rw[Option.map_eq_some_iff] at h
     obtain⟨xs,hm,h⟩:=h
     cases h
     simp only at hp
     split at hp
     ·rename_i hfo
      split at hp
      ·rename_i l hl
       cases hp
       rw[<-hlen] at hfo
       obtain⟨vs,e1,e2,e3,e4⟩:=zjL (w:=w) (I:=I) (fun t cs d ps p hg ho hf=>ih n t cs d ps p hg ho hf) cs fs.toList 0 xs l hfo hm hl
       rw[List.drop_zero] at e4
       refine⟨?_,?_,?_⟩
       ·show PR w I (.agg l) (.agg cs.toArray)
        rw[<-e4]
        exact .agg l vs e1 e2 e3
       ·show some cs.toArray.size=_
        simp[hlen]
       ·simp[zd2,Value.cells]
      ·cases hp
     ·cases hp
   |_=>cases hp

theorem ztq{base:Nat}{spare:Nat->Bool}{held:Bool}{n:Nat}{t:TypeId}{v:Value}{d:DataW H}{ps:List MemPlace}{p:PV}(h:DataW.Trod enc P w base spare held t v d ps)(hok:okT P t=true)(hp:zdH P n t d=some p)(hv:vshp v=shOf P t):
  AR w (noX (P:=P)) noμ [] (.pv (shOf P t) p) v:=by
 obtain⟨fuel,h⟩:=h
 have hI:∀b,Im (noX (P:=P)) noμ [] b:=fun b=>⟨fun h=>h,fun i hi=>by simp[live] at hi⟩
 obtain⟨h1,h2,h3⟩:=zsG hI fuel n t _ d ps p h hok hp
 have:zd2 (shOf P t) v.cells.toList=v:=by
  rw[<-hv]
  cases v <;> simp[vshp,zd2,Value.cells]
 rw[this] at h1
 exact .pv _ _ _ hv h1
theorem znj{W:World}{base:Nat}{t:TypeId}{v:Value}(h:Value.okWide P W .any base t v):vshp v=shOf P t:=by
 unfold Value.okWide at h
 unfold shOf
 cases hu:P.underlying t with
 |none=>
  rw[hu] at h
  cases v with
  |agg cs=>simp[Cell.okWide,Cell.ok,hu] at h
  |_=>rfl
 |some u=>
  rw[hu] at h
  cases u with
  |struct fs=>obtain⟨cs,rfl,hc,_⟩:=h;simp[vshp,hc]
  |array n e=>obtain⟨cs,rfl,hc,_⟩:=h;simp[vshp,hc]
  |_=>
   cases v with
   |agg cs=>simp[Cell.okWide,Cell.ok,hu] at h
   |_=>rfl
end Go.Am

/- Every datum of plain types is a value; terms. -/
namespace Go.Am
variable{P:Program} {H:Type} {enc:TypeId × Value->H} {w:World}

def zrV(P:Program)(ts:List TypeId)(t:TypeId):Bool:=
 okT P t && match P.underlying t with
 |some .bool=>true
 |some (.int _)=>true
 |some .string=>true
 |some (.slice e)=>ts.contains e && okT P e
 |some (.struct fs)=>fs.toList.all (fun f=>ts.contains f.type) && zdY P (P.cellsOf t) 0 fs.toList
 |_=>false
def zlP(P:Program)(ts:List TypeId):Bool:=ts.all (zrV P ts)

theorem zhi{f:DataW H->Option PV}{g:Nat->Option (DataW H × List MemPlace)}(hg:∀i d ps,g i=some (d,ps)->∃p,f d=some p):∀(is:List Nat) (xs:List (DataW H × List MemPlace)),is.mapM g=some xs->∃l,zdj f (xs.map (·.1))=some l
 |[],xs,h=>by simp at h;subst h;exact⟨[],rfl⟩
 |i::r,xs,h=>by
  rw[List.mapM_cons] at h
  cases ha:g i with
  |none=>rw[ha] at h;cases h
  |some y=>
   rw[ha] at h
   cases hr:r.mapM g with
   |none=>rw[hr] at h;cases h
   |some ys=>
    rw[hr] at h
    cases h
    obtain⟨l,hl⟩:=zhi hg r ys hr
    obtain⟨p,hp⟩:=hg i y.1 y.2 ha
    exact⟨p::l,by simp[zdj,hp,hl]⟩
theorem zgp{f:TypeId->DataW H->Option PV}{g:Field->Option (DataW H × List MemPlace)}:∀(fs:List Field) (xs:List (DataW H × List MemPlace)),(∀fd∈fs,∀d ps,g fd=some (d,ps)->∃p,f fd.type d=some p)->fs.mapM g=some xs->∃l,zck P f fs (xs.map (·.1))=some l
 |[],xs,_,h=>by simp at h;subst h;exact⟨[],rfl⟩
 |fd::r,xs,hg,h=>by
  rw[List.mapM_cons] at h
  cases ha:g fd with
  |none=>rw[ha] at h;cases h
  |some y=>
   rw[ha] at h
   cases hr:r.mapM g with
   |none=>rw[hr] at h;cases h
   |some ys=>
    rw[hr] at h
    cases h
    obtain⟨l,hl⟩:=zgp r ys (fun fd h=>hg fd (by simp[h])) hr
    obtain⟨p,hp⟩:=hg fd (by simp) y.1 y.2 ha
    exact⟨(shOf P fd.type,p)::l,by simp[zck,hp,hl]⟩

theorem zpp{ts:List TypeId}(hc:zlP P ts=true){base:Nat}{spare:Nat->Bool}{held:Bool}:∀(fuel:Nat) (t:TypeId) (cs:List Value) (d:DataW H) (ps:List MemPlace),t∈ts->DataW.trod enc P w base spare held fuel t cs=some (d,ps)->∃p,zdH P fuel t d=some p:=by
 intro fuel
 induction fuel with
 |zero=>intro t cs d ps _ h;cases h
 |succ fuel ih=>
  intro t cs d ps ht h
  have hp:=List.all_eq_true.1 hc t ht
  unfold zrV at hp
  rw[Bool.and_eq_true] at hp
  have hp:=hp.2
  unfold DataW.trod at h
  unfold zdH
  cases hu:P.underlying t with
  |none=>rw[hu] at hp;cases hp
  |some u=>
   rw[hu] at hp h
   cases u with
   |bool=>
    simp only at h
    split at h <;> first|contradiction|(exfalso;clear ih;simp_all;done)|skip
    ·cases h;exact⟨_,rfl⟩
   |int k=>
    simp only at h
    split at h <;> first|contradiction|(exfalso;clear ih;simp_all;done)|skip
    ·rename_i e
     split at h
     ·rename_i e2
      obtain⟨e2,e3⟩:=e2
      subst e2
      cases h
      cases e
      exact⟨_,by simp[e3];rfl⟩
     ·cases h
   |string=>
    simp only at h
    split at h <;> first|contradiction|(exfalso;clear ih;simp_all;done)|skip
    ·split at h
     ·cases h;exact⟨_,rfl⟩
     ·cases h
   |slice e=>
    simp only[Bool.and_eq_true,List.contains_iff_mem] at hp
    simp only at h
    split at h <;> first|contradiction|(exfalso;clear ih;simp_all;done)|skip
    ·cases h;exact⟨_,rfl⟩
    ·rename_i e' a len cap hx
     cases hx
     split at h
     ·rw[Option.bind_eq_some_iff] at h
      obtain⟨elems,hm,h⟩:=h
      rw[Option.map_eq_some_iff] at h
      obtain⟨rest,hr,h⟩:=h
      cases h
      obtain⟨l,hl⟩:=zhi (f:=zdH P fuel e) (fun i d ps hg=>by
       rw[Option.bind_eq_some_iff] at hg
       obtain⟨c,_,hg⟩:=hg
       exact ih e c d ps hp.1 hg) _ _ hm
      exact⟨_,by simp[hp.2,hl];rfl⟩
     ·cases h
   |struct fs=>
    simp only[Bool.and_eq_true] at hp
    simp only at h
    split at h <;> first|contradiction|(exfalso;clear ih;simp_all;done)|skip
    ·rw[Option.map_eq_some_iff] at h
     obtain⟨xs,hm,h⟩:=h
     cases h
     obtain⟨l,hl⟩:=zgp (P:=P) (f:=zdH P fuel) fs.toList xs (fun fd hfd d ps hg=>by
      have:=List.all_eq_true.1 hp.1 fd hfd
      rw[List.contains_iff_mem] at this
      exact ih fd.type _ d ps this hg) hm
     exact⟨_,by simp[hp.2,hl];rfl⟩
   |_=>cases hp

structure BulkLaws(bulk:DataW H->Nat)(all:List (DataW H)->Nat):Prop where
 nil:all []=0
 cons:∀d r,all (d::r)=bulk d+all r
 slice:∀e s,bulk (.slice e s)=all e+all s+1
 agg:∀l,bulk (.agg l)=all l+1
 string:∀l,bulk (.lit (.string l))=l.length+1

structure TermTy(P:Program)(tA tT:TypeId):Prop where
 a:P.underlying tA=some (.slice tT)
 t:∃fs tI tL tS,P.underlying tT=some (.struct fs)/\fs.toList.map (·.type)=[tI,tL,tS,tA]/\P.underlying tI=some (.int .i64)/\P.underlying tL=some (.int .i64)/\P.underlying tS=some .string/\shOf P tT=some 4/\shOf P tA=none/\shOf P tI=none/\shOf P tL=none/\shOf P tS=none

def zk2(n:Int):Prop:= -9223372036854775808<=n/\n<=9223372036854775807
mutual
def Tm.rng:Tm->Prop
 | .mk k n _ as=>zk2 k/\zk2 n/\Tm.rngs as
def Tm.rngs:List Tm->Prop
 |[]=>True
 |t::r=>t.rng/\Tm.rngs r
end
theorem zrW{n:Int}(h:(Lit.int .i64 n).wf=true):zk2 n:=by
 simpa[Lit.wf,IntKind.min,IntKind.max,IntKind.signed,IntKind.bits,zk2] using h

end Go.Am

/- Data by their types: what a value of a plain type looks like, and how much it holds. -/
namespace Go.Am
variable{P:Program} {H:Type} {enc:TypeId × Value->H} {w:World}

mutual
def PV.sz:PV->Nat
 | .str s=>s.length+1
 | .agg l=>PV.szc l+1
 | .sl _ es=>PV.szs es+1
 |_=>1
def PV.szc:List (Sh × PV)->Nat
 |[]=>0
 |x::r=>PV.sz x.2+PV.szc r
def PV.szs:List PV->Nat
 |[]=>0
 |x::r=>PV.sz x+PV.szs r
end
def zeO(P:Program)(f:TypeId->PV->Prop):List Field->List (Sh × PV)->Prop
 |[],[]=>True
 |fd::r,x::l=>x.1=shOf P fd.type/\f fd.type x.2/\zeO P f r l
 |_,_=>False
def wt(P:Program):Nat->TypeId->PV->Prop
 |0,_,_=>False
 |n+1,t,p=>match P.underlying t with
  |some .bool=>∃b,p=.bool b
  |some (.int k)=>∃x,p=.int k x/\(Lit.int k x).wf=true
  |some .string=>∃s,p=.str s
  |some (.slice e)=>∃es,p=.sl (shOf P e) es/\∀x∈es,wt P n e x
  |some (.struct fs)=>∃l,p=.agg l/\zeO P (wt P n) fs.toList l
  |_=>False

structure BulkLaws2(bulk:DataW H->Nat)(all:List (DataW H)->Nat):Prop extends BulkLaws bulk all where
 one:∀d,1<=bulk d

theorem zlQ{bulk:DataW H->Nat}{all:List (DataW H)->Nat}(hb:BulkLaws2 bulk all){f:DataW H->Option PV}{R:PV->Prop}(hf:∀d p,f d=some p->R p/\p.sz<=bulk d):∀(ds:List (DataW H)) (l:List PV),zdj f ds=some l->(∀x∈l,R x)/\PV.szs l<=all ds
 |[],l,h=>by cases h;exact⟨fun x hx=>(by cases hx),Nat.zero_le _⟩
 |d::ds,l,h=>by
  simp only[zdj] at h
  split at h
  ·cases h
  ·rename_i p hp
   split at h
   ·rename_i l' hl
    cases h
    obtain⟨h1,h2⟩:=hf d p hp
    obtain⟨h3,h4⟩:=zlQ hb hf ds l' hl
    refine⟨fun x hx=> ?_,by rw[hb.cons];simp only[PV.szs];omega⟩
    rcases List.mem_cons.1 hx with rfl|hx
    ·exact h1
    ·exact h3 x hx
   ·cases h
theorem zjM{bulk:DataW H->Nat}{all:List (DataW H)->Nat}(hb:BulkLaws2 bulk all){f:TypeId->DataW H->Option PV}{R:TypeId->PV->Prop}(hf:∀t d p,f t d=some p->R t p/\p.sz<=bulk d):∀(fs:List Field) (ds:List (DataW H)) (l:List (Sh × PV)),zck P f fs ds=some l->zeO P R fs l/\PV.szc l<=all ds
 |[],ds,l,h=>by
  cases ds with
  |nil=>cases h;exact⟨trivial,Nat.zero_le _⟩
  |cons d r=>cases h
 |fd::fs,ds,l,h=>by
  cases ds with
  |nil=>cases h
  |cons d r=>
   simp only[zck] at h
   split at h
   ·cases h
   ·rename_i p hp
    split at h
    ·rename_i l' hl
     cases h
     obtain⟨h1,h2⟩:=hf fd.type d p hp
     obtain⟨h3,h4⟩:=zjM hb hf fs r l' hl
     exact⟨⟨rfl,h1,h3⟩,by rw[hb.cons];simp only[PV.szc];omega⟩
    ·cases h
theorem zpq{bulk:DataW H->Nat}{all:List (DataW H)->Nat}(hb:BulkLaws2 bulk all):∀(n:Nat) (t:TypeId) (d:DataW H) (p:PV),zdH P n t d=some p->wt P n t p/\p.sz<=bulk d
 |0,t,d,p,h=>by cases h
 |n+1,t,d,p,h=>by
  have ih:=fun t d p=>zpq hb n t d p
  have one:=hb.one d
  unfold zdH at h
  unfold wt
  cases hu:P.underlying t with
  |none=>rw[hu] at h;cases h
  |some u=>
   rw[hu] at h
   cases u with
   |bool=>
    cases d with
    |lit l=>cases l <;> first|(cases h;done)|(cases h;exact⟨⟨_,rfl⟩,one⟩)
    |_=>cases h
   |int k=>
    cases d with
    |lit l=>
     cases l with
     |int k' x=>
      simp only at h
      split at h
      ·rename_i hw
       cases h
       obtain⟨e,hw⟩:=hw
       subst e
       exact⟨⟨x,rfl,hw⟩,one⟩
      ·cases h
     |_=>cases h
    |_=>cases h
   |string=>
    cases d with
    |lit l=>
     cases l with
     |string s=>cases h;exact⟨⟨_,rfl⟩,by rw[hb.string];exact Nat.le_refl _⟩
     |_=>cases h
    |_=>cases h
   |slice e=>
    cases d with
    |nil=>cases h;exact⟨⟨[],rfl,fun x hx=>(by cases hx)⟩,one⟩
    |slice es sp=>
     simp only at h
     split at h
     ·split at h
      ·rename_i l hl
       cases h
       obtain⟨h1,h2⟩:=zlQ hb (ih e) es l hl
       exact⟨⟨l,rfl,h1⟩,by rw[hb.slice];simp only[PV.sz];omega⟩
      ·cases h
     ·cases h
    |lit l=>cases l <;> cases h
    |_=>cases h
   |struct fs=>
    cases d with
    |agg parts=>
     simp only at h
     split at h
     ·split at h
      ·rename_i l hl
       cases h
       obtain⟨h1,h2⟩:=zjM hb ih fs.toList parts l hl
       exact⟨⟨l,rfl,h1⟩,by rw[hb.agg];simp only[PV.sz];omega⟩
      ·cases h
     ·cases h
    |lit l=>cases l <;> cases h
    |_=>cases h
   |_=>cases d <;> first|(cases h;done)|(rename_i l;cases l <;> cases h)

theorem zpr{n:Nat}{tT:TypeId}(hT:∀p,wt P n tT p->∃t:Tm,p=t.pv/\t.rng):∀(es:List PV),(∀x∈es,wt P n tT x)->∃l:List Tm,es=Tm.pvs l/\Tm.rngs l
 |[],_=>⟨[],rfl,trivial⟩
 |x::r,h=>by
  obtain⟨t,rfl,h1⟩:=hT x (h x (by simp))
  obtain⟨l,rfl,h2⟩:=zpr hT r fun y hy=>h y (by simp[hy])
  exact⟨t::l,rfl,h1,h2⟩
theorem zk3{tA tT:TypeId}(hT:TermTy P tA tT):∀(n:Nat),(∀p,wt P n tT p->∃t:Tm,p=t.pv/\t.rng)/\(∀p,wt P n tA p->∃l:List Tm,p=.sl (some 4) (Tm.pvs l)/\Tm.rngs l)
 |0=>⟨fun p h=>h.elim,fun p h=>h.elim⟩
 |n+1=>by
  obtain⟨ih1,ih2⟩:=zk3 hT n
  obtain⟨hA,fs,tI,tL,tS,hS,hf,hI,hL,hSt,s1,s2,s3,s4,s5⟩:=hT
  constructor
  ·intro p h
   unfold wt at h
   rw[hS] at h
   obtain⟨l,rfl,h⟩:=h
   obtain⟨f1,f2,f3,f4,hfs⟩:∃f1 f2 f3 f4:Field,fs.toList=[f1,f2,f3,f4]:=by
    match hx:fs.toList,hf with
    |[a,b,c,d],_=>exact⟨a,b,c,d,rfl⟩
   rw[hfs] at hf h
   simp only[List.map_cons,List.map_nil,List.cons.injEq,and_true] at hf
   obtain⟨e1,e2,e3,e4⟩:=hf
   match l,h with
   |[x1,x2,x3,x4],h=>
    simp only[zeO,e1,e2,e3,e4,s2,s3,s4,s5,and_true] at h
    obtain⟨a1,b1,a2,b2,a3,b3,a4,b4⟩:=h
    have i64:∀(ty:TypeId) (p:PV),P.underlying ty=some (.int .i64)->wt P n ty p->∃x,p=.int .i64 x/\zk2 x:=by
     intro ty p hty hp
     cases n with
     |zero=>exact hp.elim
     |succ n=>
      unfold wt at hp
      rw[hty] at hp
      obtain⟨x,rfl,hx⟩:=hp
      exact⟨x,rfl,zrW hx⟩
    obtain⟨y1,e1',g1⟩:=i64 tI x1.2 hI b1
    obtain⟨y2,e2',g2⟩:=i64 tL x2.2 hL b2
    obtain⟨s,e3'⟩:∃s,x3.2=.str s:=by
     cases n with
     |zero=>exact b3.elim
     |succ n=>
      unfold wt at b3
      rw[hSt] at b3
      exact b3
    obtain⟨ts,e4',k⟩:=ih2 x4.2 b4
    refine⟨.mk y1 y2 s ts,?_,g1,g2,k⟩
    obtain⟨_,_⟩:=x1;obtain⟨_,_⟩:=x2;obtain⟨_,_⟩:=x3;obtain⟨_,_⟩:=x4
    simp only at a1 a2 a3 a4 e1' e2' e3' e4'
    subst a1 a2 a3 a4 e1' e2' e3' e4'
    rfl
  ·intro p h
   unfold wt at h
   rw[hA] at h
   obtain⟨es,rfl,h⟩:=h
   obtain⟨l,rfl,h1⟩:=zpr ih1 es h
   exact⟨l,by rw[s1],h1⟩
mutual
theorem Tm.zum:∀t:Tm,t.size<=t.pv.sz
 | .mk k n s as=>by
  have:=Tm.zuk as
  simp only[Tm.size,Tm.pv,PV.sz,PV.szc]
  omega
theorem Tm.zuk:∀l:List Tm,Tm.sizes l<=PV.szs (Tm.pvs l)
 |[]=>Nat.zero_le _
 |t::r=>by
  have h1:=Tm.zum t
  have h2:=Tm.zuk r
  simp only[Tm.sizes,Tm.pvs,PV.szs]
  omega
end
end Go.Am

/- Structs and lists out of data. -/
namespace Go.Am
variable{P:Program}
def zlR(P:Program)(t:TypeId):Option (List TypeId):=
 match P.underlying t with
 |some (.struct fs)=>some (fs.toList.map (·.type))
 |_=>none
def ztr(P:Program)(t:TypeId):Bool:=match P.underlying t with|some (.int .i64)=>true|_=>false
def zhj(P:Program)(m:Nat):List TypeId->List (Sh × PV)->Prop
 |[],[]=>True
 |t::ts,x::l=>x.1=shOf P t/\wt P m t x.2/\zhj P m ts l
 |_,_=>False
theorem zeP{m:Nat}:∀(fs:List Field) (l:List (Sh × PV)),zeO P (wt P m) fs l->zhj P m (fs.map (·.type)) l
 |[],[],_=>trivial
 |[],_::_,h=>h.elim
 |_::_,[],h=>h.elim
 |fd::r,x::l,h=>⟨h.1,h.2.1,zeP r l h.2.2⟩
theorem zps{n:Nat}{t:TypeId}{p:PV}{ts:List TypeId}(h:zlR P t=some ts)(hw:wt P n t p):∃m l,p=.agg l/\zhj P m ts l:=by
 cases n with
 |zero=>exact hw.elim
 |succ n=>
  unfold wt at hw
  unfold zlR at h
  split at h
  ·rename_i fs hfs
   rw[hfs] at hw
   obtain⟨l,rfl,hl⟩:=hw
   cases h
   exact⟨n,l,rfl,zeP _ _ hl⟩
  ·cases h
theorem znk{m:Nat}{l:List (Sh × PV)}(h:zhj P m [] l):l=[]:=by
 cases l with
 |nil=>rfl
 |cons x l=>exact h.elim
theorem zgq{m:Nat}{t:TypeId}{ts:List TypeId}{l:List (Sh × PV)}(h:zhj P m (t::ts) l):∃q r,l=(shOf P t,q)::r/\wt P m t q/\zhj P m ts r:=by
 cases l with
 |nil=>exact h.elim
 |cons x l=>obtain⟨h1,h2,h3⟩:=h;exact⟨x.2,l,by rw[<-h1],h2,h3⟩
theorem zts{n:Nat}{t:TypeId}{p:PV}(h:ztr P t=true)(hw:wt P n t p):∃x,p=.int .i64 x/\zk2 x:=by
 cases n with
 |zero=>exact hw.elim
 |succ n=>
  unfold wt at hw
  unfold ztr at h
  split at h
  ·rename_i hu;rw[hu] at hw;obtain⟨x,rfl,hx⟩:=hw;exact⟨x,rfl,zrW hx⟩
  ·cases h
end Go.Am
