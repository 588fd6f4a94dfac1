/- What is proved: the abstract machine says true of the model (part 5). No conditions beside those that each theorem names. -/
import Derived.Test.YtmajapjbogmefaaAm4
import Derived.Lib.Bytealg
import Derived.ProofKit
import Derived.OpenShut
import Derived.JoinedCond
import Derived.WalkKit
set_option linter.unusedSimpArgs false
set_option linter.unusedVariables false
/- A table of functions. -/
namespace Go.Am
def zoY(P:Program)(tab:List (Nat × AFn)):Prop:=∀x∈tab,∃fnc,P.funcs[x.1]? =some fnc/\trFn P x.2.heapMode x.1 fnc=some x.2
theorem zoZ{P:Program}:zoY P []:=fun x h=>by simp at h
theorem zac{P:Program}{f:Nat}{g:AFn}{fnc:Func}{r:List (Nat × AFn)}(h:P.funcs[f]? =some fnc)(t:trFn P g.heapMode f fnc=some g)(k:zoY P r):zoY P ((f,g)::r):=by
 intro x hx
 simp only[List.mem_cons] at hx
 rcases hx with rfl|hx
 ·exact⟨fnc,h,t⟩
 ·exact k x hx
def find:List (Nat × AFn)->FuncId->Option AFn
 |[],_=>none
 |(k,g)::r,f=>bif Nat.beq k f then some g else find r f
theorem zl4:∀{tab:List (Nat × AFn)} {f:FuncId} {g:AFn},find tab f=some g->(f,g)∈tab
 |[],_,_,h=>by cases h
 |(k,x)::r,f,g,h=>by
  simp only[find] at h
  cases hk:Nat.beq k f with
  |true=>
   rw[hk] at h
   cases h
   simp[Nat.eq_of_beq_eq_true hk]
  |false=>
   rw[hk] at h
   exact List.mem_cons_of_mem _ (zl4 h)
theorem zqM{P:Program}{tab:List (Nat × AFn)}(h:zoY P tab):zk5 P (find tab):=fun f fn hf=>h (f,fn) (zl4 hf)
end Go.Am

/- Contracts by hand: what the library has no body for. -/
namespace Go.Am
variable{P:Program}

theorem zm8:zhz P (fun _=>none):=fun f p h=>by cases h
end Go.Am

/- From a run of the abstract machine to what a law's row wants. -/
namespace Go.Am
open Go.ChangeShapes Go.WideShapes Go.ChangeAt Go.RowKit
variable{P:Program} {H:Type} {enc:TypeId × Value->H}

theorem zjW{f:FuncId}{fn:Func}{c:Code}{args:Array Value}{w:World}{R:Ending->World->Prop}(hf:P.funcs[f]? =some fn)(hb:fn.body=some c)(hn:fn.name≠ "runtime.NumGoroutine")
  (h:Called P f args w R):Calls P f args w R:=by
 rcases h with⟨_,h⟩|⟨v,w',h,_⟩
 ·exact h
 ·rw[zcB hf hb hn] at h;cases h

abbrev noX:Xc P:=⟨fun _=>False⟩
abbrev noμ:Nat->Option Nat:=fun _=>none

theorem zqN(w:World):HR w (noX (P:=P)) noμ []:=
 ⟨fun i _ _ hi=>by simp at hi,fun i _ hi=>by simp at hi,fun b hb=>hb.elim,fun i sh v h=>by simp at h,fun i sh es fz h=>by simp at h,fun i sh es h=>by simp at h,fun i f ps env bz h=>by simp at h,fun i sh es h=>by simp at h⟩

theorem zo0{b0:Nat}{X:Xc P}{μ μ':Nat->Option Nat}{hp':Heap}{w w':World}(h:Ext b0 X μ [] w μ' hp' w'):Below w.heap.size w w':=
 ⟨h.os,h.tape,h.output,h.size,fun k hk=>h.blk k hk fun i hi=>by simp[live] at hi⟩

theorem zm9{w w':World}(h:Below w.heap.size w w')(may:MemPlace->Prop):w.keptBut w' may:=by
 refine⟨h.os,h.output,fun i hi=> ?_⟩
 rw[h.block i hi]
 cases w.heap[i]? with
 |none=>trivial
 |some o=>cases o <;> simp

theorem zeQ(hl:laidOutB P=true){W W':World}(hb:Below W.heap.size W W'):∀{ts:List TypeId} {vs:List Value} {ds:List (DataW H)} {p:List MemPlace},
  (∀t∈ts,P.readableRec t=true/\t<P.types.size)->(∀x∈p,x.block<W.heap.size)->DataW.TrodAll enc P W 0 (fun _=>true) true ts vs ds p->DataW.TrodAll enc P W' 0 (fun b=>decide (b<W.heap.size)) true ts vs ds p
 |[],_,_,_,_,_,h=>by
  obtain⟨rfl,rfl,rfl⟩:=trodAll_nil h
  exact trodAll_mk0
 |t::ts,_,_,_,ht,hp,h=>by
  obtain⟨v,vs,d,ds,a,b,rfl,rfl,rfl,h1,h2⟩:=trodAll_cons h
  obtain⟨k1,k2⟩:=ht t (by simp)
  exact⟨a,b,Below.trod hl k1 k2 h1 hb fun x hx=>hp x (by simp[hx]),zeQ hl hb (fun t h=>ht t (by simp[h])) (fun x hx=>hp x (by simp[hx])) h2,rfl⟩

def zqO(P:Program)(fn:Func):Bool:=fn.params.toList.all fun t=>P.readableRec t && decide (t<P.types.size)
def zo1(P:Program)(fn:Func):Bool:=
 match fn.resultTypes.toList with
 |[t]=>zh0 P t
 |_=>false
def zta(P:Program)(fn:Func):Bool:=zqO P fn && zo1 P fn && fn.body.isSome && !(fn.name == "runtime.NumGoroutine")

theorem zjX{Γ:Oracle}(hΓ:SoundO P Γ){f:FuncId}{fn:Func}(hf:P.funcs[f]? =some fn)(hfn:zta P fn=true)(hl:laidOutB P=true){s:ChangeSpec}(hv:s.vars=[])
  {W:World}{args:Array Value}{ds gs:List (DataW H)}{before:List MemPlace}(hs:s.fn H (ds++gs)={ results:=[.lit (.bool true)],args:=ds })
  (hW:DataW.Whole enc P fn.params.toList s.vars false W args.toList ds gs before)
  {avs:List AV}(hL:LR W (noX (P:=P)) noμ [] avs args.toList)(h:Γ .fn f avs []=some (.ret (.pv none (.bool true)),[])):
  Calls P f args W fun e W'=>∃v,e=.returned v/\s.post enc P fn false true false false W args v W':=by
 simp only[zta,Bool.and_eq_true,Bool.not_eq_true',beq_eq_false_iff_ne,Option.isSome_iff_exists] at hfn
 obtain⟨⟨⟨hp,hbr⟩,c,hb⟩,hn⟩:=hfn
 obtain⟨tb,hr,htb⟩:∃tb,fn.resultTypes= #[tb]/\P.underlying tb=some .bool:=by
  unfold zo1 at hbr
  split at hbr
  ·rename_i t ht
   exact⟨t,Array.toList_inj.1 ht,zhf hbr⟩
  ·cases hbr
 have k:=hΓ.fn f avs [] _ _ h W noX noμ args.toList (zqN W) hL
 refine(zjW hf hb hn k).mono fun e W' he=> ?_
 cases e with
 |returned u=>
  obtain⟨μ',v,e1,_,hE,hA⟩:=he
  cases e1
  cases hA with|pv _ _ _ _ hA=>
  cases hA
  have hB:=zo0 hE
  refine⟨_,rfl,ds,gs,before,[],before,[],hW,?_,?_,?_,zm9 hB _,fun h=>by cases h⟩
  ·rw[hs,hr]
   simp only[Value.resultList]
   exact trodAll_mk1 (shut_bool htb true)
  ·rw[hs]
   have hlt:=hW.lt
   obtain⟨p,q,k1,k2,k3,_,_⟩:=hW
   rw[hv] at k2
   obtain⟨_,rfl⟩:=trodVars_none k2
   rw[List.append_nil] at k3
   subst k3
   refine zeQ hl hB (fun t ht=> ?_) hlt k1
   have:=List.all_eq_true.1 hp t ht
   simp only[Bool.and_eq_true,decide_eq_true_eq] at this
   exact this
  ·rw[hs,hv]
   rfl
 |panicked ch=>obtain⟨_,_,_,e1,_⟩:=he;cases e1
 |outgrown=>exact he.elim
end Go.Am

/- Terms as plain data. -/
namespace Go.Am
inductive Tm where
 |mk (kind n:Int) (name:List UInt8) (args:List Tm)
 deriving Inhabited
mutual
def Tm.pv:Tm->PV
 | .mk k n s as=>.agg [(none,.int .i64 k),(none,.int .i64 n),(none,.str s),(none,.sl (some 4) (Tm.pvs as))]
def Tm.pvs:List Tm->List PV
 |[]=>[]
 |t::r=>t.pv::Tm.pvs r
end
def Tm.kind:Tm->Int| .mk k _ _ _=>k
def Tm.n:Tm->Int| .mk _ n _ _=>n
def Tm.name:Tm->List UInt8| .mk _ _ s _=>s
def Tm.args:Tm->List Tm| .mk _ _ _ as=>as
def Tm.av(t:Tm):AV:=.pv (some 4) t.pv
end Go.Am

/- What code comes to: rules that a proof steps by. -/
namespace Go.Am
variable{Γ:Oracle} {Λ:zad} {b:Nat}

class Tag.{u} {α:Sort u} (a:α):Type where
instance tagAny.{u}{α:Sort u}(a:α):Tag a:=⟨⟩

def W(Γ:Oracle)(Λ:zad)(b:Nat)(c:ACode)(st:St)(Q:AExit->St->Prop)[Tag Q]:Prop:=
 match aexec Γ Λ b c st with
 |some (e,st')=>Q e st'
 |none=>False
def O(Γ:Oracle)(b:Nat)(ops:List AOper)(fr:Fr)(hp:Heap)(K:Fr->Heap->Prop)(Kp:PV->Fr->Heap->Prop)[Tag K][Tag Kp]:Prop:=
 match aops Γ b ops fr hp with
 |some (.normal,fr',hp')=>K fr' hp'
 |some (.panic v,fr',hp')=>Kp v fr' hp'
 |_=>False
def seqK(k:St->Prop)(Q:AExit->St->Prop)[Tag k][Tag Q]:AExit->St->Prop
 | .normal,st=>k st
 | .exit i,st=>Q (.exit i) st
 | .ret,st=>Q .ret st
 | .panic v,st=>Q (.panic v) st
def zjY(id:Nat)(Q:AExit->St->Prop)[Tag Q]:AExit->St->Prop
 | .exit i,st=>if i=id then Q .normal st else Q (.exit i) st
 | .normal,st=>Q .normal st
 | .ret,st=>Q .ret st
 | .panic v,st=>Q (.panic v) st
def zqP(v:Option AV)(A B:Prop)[Tag A][Tag B]:Prop:=
 match v with
 |some (.pv _ (.bool b))=>if b=true then A else B
 |_=>False
def panK(pan:Bool)(A:Prop)[Tag A]:Prop:=if pan=true then A else False
def zo2(v:Option Bool)(A B:Prop)[Tag A][Tag B]:Prop:=
 match v with
 |some b=>if b=true then A else B
 |none=>False
def argK(v:Option (List AV))(K:List AV->Prop)[Tag K]:Prop:=
 match v with
 |some l=>K l
 |none=>False
def opK(v:Option OpRes)(K:AV->Heap->Prop)(Kp:PV->Heap->Prop)[Tag K][Tag Kp]:Prop:=
 match v with
 |some (.val v hp)=>K v hp
 |some (.panic v hp)=>Kp v hp
 |none=>False
def zcq(v:Option (AV × Heap))(K:AV->Heap->Prop)[Tag K]:Prop:=
 match v with
 |some (v,hp)=>K v hp
 |none=>False
def zna(v:Option (ARes × Heap))(K:AV->Heap->Prop)(Kp:PV->Heap->Prop)[Tag K][Tag Kp]:Prop:=
 match v with
 |some (.ret v,hp)=>K v hp
 |some (.panic v,hp)=>Kp v hp
 |none=>False

variable{st:St} {Q:AExit->St->Prop} {fr:Fr} {hp:Heap} {K:Fr->Heap->Prop} {Kp:PV->Fr->Heap->Prop}
theorem ztb:W Γ Λ b .skip st Q=Q .normal st:=rfl
theorem ztc(i:Nat):W Γ Λ b (.exit i) st Q=Q (.exit i) st:=rfl
theorem ztL:W Γ Λ b .ret st Q=Q .ret st:=rfl
theorem zqQ(l:List Nat):W Γ Λ b (.settle l) st Q=(match settle l st with|some st'=>Q .normal st'|none=>False):=by
 unfold W
 simp only[aexec]
 cases settle l st <;> rfl
theorem ztd(x y:ACode):W Γ Λ b (.seq x y) st Q=W Γ Λ b x st (seqK (fun st'=>W Γ Λ b y st' Q) Q):=by
 unfold W
 simp only[aexec]
 cases aexec Γ Λ b x st with
 |none=>rfl
 |some r=>
  obtain⟨e,st'⟩:=r
  cases e <;> rfl
theorem zte(c:AArg)(x y:ACode):W Γ Λ b (.cond c x y) st Q=zqP (st.fr.arg c) (W Γ Λ b x st Q) (W Γ Λ b y st Q):=by
 unfold W
 simp only[aexec]
 cases st.fr.arg c with
 |none=>rfl
 |some v=>
  cases v with
  |pv s p=>
   cases p with
   |bool v=>cases v <;> simp[zqP]
   |_=>rfl
  |_=>rfl
theorem zst(id:Nat)(c:ACode):W Γ Λ b (.block id c) st Q=W Γ Λ b c st (zjY id Q):=by
 unfold W
 simp only[aexec]
 cases aexec Γ Λ b c st with
 |none=>rfl
 |some r=>
  obtain⟨e,st'⟩:=r
  cases e with
  |exit i=>
   simp only[zjY]
   by_cases h:i=id
   ·simp[h]
   ·simp[h]
  |_=>rfl
theorem zqR(pan:Bool)(ops:List AOper)(keep:List Nat):W Γ Λ b (.region pan ops keep) st Q=O Γ b ops st.fr st.hp (fun fr hp=>Q .normal ⟨fr.keep keep,hp⟩) (fun v fr hp=>panK pan (Q (.panic v) ⟨fr.keep keep,hp⟩)):=by
 unfold W O
 simp only[aexec]
 cases aops Γ b ops st.fr st.hp with
 |none=>rfl
 |some r=>
  obtain⟨e,fr,hp⟩:=r
  cases e with
  |panic v=>cases pan <;> simp[panK]
  |_=>rfl
theorem ztM:O Γ b [] fr hp K Kp=K fr hp:=rfl
theorem zrY(o:AOper)(r:List AOper):O Γ b (o::r) fr hp K Kp=zo2 (wants fr o.guard) (argK (fr.argsOf o.args) fun vs=>opK (aOp Γ b o.op vs hp) (fun v hp'=>O Γ b r (fr.dst o.dst v) hp' K Kp) (fun v hp'=>Kp v fr hp')) (O Γ b r (fr.dst o.dst .undef) hp K Kp):=by
 unfold O
 simp only[aops]
 cases wants fr o.guard with
 |none=>rfl
 |some w=>
  cases w with
  |false=>simp[zo2]
  |true=>
   simp only[zo2,if_true]
   cases fr.argsOf o.args with
   |none=>rfl
   |some vs=>
    simp only[argK]
    cases aOp Γ b o.op vs hp with
    |none=>rfl
    |some r=>cases r <;> rfl
theorem ztf(d:Option Nat)(op:AOp)(as:List AArg)(r:List AOper):O Γ b (⟨d,op,as,none⟩::r) fr hp K Kp=argK (fr.argsOf as) fun vs=>opK (aOp Γ b op vs hp) (fun v hp'=>O Γ b r (fr.dst d v) hp' K Kp) (fun v hp'=>Kp v fr hp'):=by
 rw[zrY];rfl
def zjZ(v:Option AV)(w:Bool)(A B:Prop)[Tag A][Tag B]:Prop:=
 match v with
 |some (.pv _ (.bool b))=>if b=w then A else B
 |some .undef=>B
 |_=>False
theorem zsu(d:Option Nat)(op:AOp)(as:List AArg)(s:Nat)(w:Bool)(r:List AOper):O Γ b (⟨d,op,as,some (s,w)⟩::r) fr hp K Kp=zjZ (fr.look s) w (argK (fr.argsOf as) fun vs=>opK (aOp Γ b op vs hp) (fun v hp'=>O Γ b r (fr.dst d v) hp' K Kp) (fun v hp'=>Kp v fr hp')) (O Γ b r (fr.dst d .undef) hp K Kp):=by
 rw[zrY]
 simp only[wants]
 cases h:fr.look s with
 |none=>rfl
 |some v=>
  cases v with
  |pv sh p=>
   cases p with
   |bool c=>cases c <;> cases w <;> simp[zo2,zjZ]
   |_=>rfl
  |undef=>simp[zo2,zjZ]
  |_=>rfl
theorem ztN(s:Nat):fr.arg (.t s)=fr.look s:=rfl
theorem ztO(v:AV):fr.arg (.c v)=some v:=rfl
theorem zo3(k s:Nat)(v:AV)(r:Fr):Fr.look ((k,v)::r) s=if k=s then some v else Fr.look r s:=rfl
theorem zqS(d:Nat)(v:AV):fr.dst (some d) v=(d,v)::fr:=rfl
theorem zqT(v:AV):fr.dst none v=fr:=rfl
theorem zqU:fr.argsOf []=some []:=rfl
def zsv(v:Option AV)(l:Option (List AV)):Option (List AV):=
 match v with
 |none=>none
 |some v=>match l with
  |some l=>some (v::l)
  |none=>none
theorem zo4(a:AArg)(r:List AArg):fr.argsOf (a::r)=zsv (fr.arg a) (fr.argsOf r):=rfl
theorem znb(v:AV)(l:List AV):zsv (some v) (some l)=some (v::l):=rfl
theorem zo5(l:List AV)(K:List AV->Prop):argK (some l) K=K l:=rfl
def iteK(v:Prop)(A B:Prop)[Tag A][Tag B]:Prop:=(v->A)/\(¬v->B)
theorem znc(s:Sh)(v:Bool)(A B:Prop):zqP (some (.pv s (.bool v))) A B=iteK (v=true) A B:=by
 cases v <;> simp[zqP,iteK]
theorem zlf(s:Sh)(v w:Bool)(A B:Prop):zjZ (some (.pv s (.bool v))) w A B=iteK (v=w) A B:=by
 cases v <;> cases w <;> simp[zjZ,iteK]
theorem zo6(A B:Prop):iteK True A B=A:=by simp[iteK]
theorem znd(A B:Prop):iteK False A B=B:=by simp[iteK]
theorem zqV(v A B:Prop):iteK (¬v) A B=iteK v B A:=by
 by_cases h:v <;> simp[iteK,h]
theorem zaz{v A B:Prop}(hA:v->A)(hB:¬v->B):iteK v A B:=⟨hA,hB⟩
attribute [irreducible] iteK
theorem zne(v:AV)(hp:Heap)(K:AV->Heap->Prop):zcq (some (v,hp)) K=K v hp:=rfl
theorem zo7(v:AV)(hp:Heap)(K:AV->Heap->Prop)(Kp:PV->Heap->Prop):zna (some (.ret v,hp)) K Kp=K v hp:=rfl
theorem zqW:fr.keep []=[]:=rfl
def ztg(k:Nat)(v:Option AV)(r:Fr):Fr:=
 match v with
 |some v=>(k,v)::r
 |none=>r
theorem zo8(k:Nat)(ks:List Nat):fr.keep (k::ks)=ztg k (fr.look k) (fr.keep ks):=rfl
theorem znf(k:Nat)(v:AV)(r:Fr):ztg k (some v) r=(k,v)::r:=rfl
theorem zlg(k:St->Prop)(Q:AExit->St->Prop)(st:St):seqK k Q .normal st=k st:=rfl
theorem zo9(k:St->Prop)(Q:AExit->St->Prop)(i:Nat)(st:St):seqK k Q (.exit i) st=Q (.exit i) st:=rfl
theorem zqX(k:St->Prop)(Q:AExit->St->Prop)(st:St):seqK k Q .ret st=Q .ret st:=rfl
theorem ziD(id:Nat)(Q:AExit->St->Prop)(st:St):zjY id Q .normal st=Q .normal st:=rfl
theorem zlh(id:Nat)(Q:AExit->St->Prop)(i:Nat)(st:St):zjY id Q (.exit i) st=if i=id then Q .normal st else Q (.exit i) st:=rfl
theorem zng(id:Nat)(Q:AExit->St->Prop)(st:St):zjY id Q .ret st=Q .ret st:=rfl
end Go.Am

/- What code comes to: the operations. -/
namespace Go.Am
variable{Γ:Oracle} {Λ:zad} {b:Nat} {hp:Heap} {vs:List AV} {K:AV->Heap->Prop} {Kp:PV->Heap->Prop}
def valK(v:Option AV)(K:AV->Prop)[Tag K]:Prop:=
 match v with
 |some v=>K v
 |none=>False
def pvK(v:Option PV)(K:PV->Prop)[Tag K]:Prop:=
 match v with
 |some v=>K v
 |none=>False
theorem zpa(v:AV)(K:AV->Prop):valK (some v) K=K v:=rfl
theorem zqY(v:PV)(K:PV->Prop):pvK (some v) K=K v:=rfl

theorem ztP:opK (aOp Γ b .mv vs hp) K Kp=valK (sMv vs) (fun v=>K v hp):=by
 show opK (match zbi hp (sMv vs) with|some (v,hp')=>some (OpRes.val v hp')|none=>none) K Kp=_
 cases sMv vs <;> rfl
theorem zth:opK (aOp Γ b .len vs hp) K Kp=valK (sLen vs) (fun v=>K v hp):=by
 show opK (match zbi hp (sLen vs) with|some (v,hp')=>some (OpRes.val v hp')|none=>none) K Kp=_
 cases sLen vs <;> rfl
theorem zsw:opK (aOp Γ b .slen vs hp) K Kp=valK (zku vs) (fun v=>K v hp):=by
 show opK (match zbi hp (zku vs) with|some (v,hp')=>some (OpRes.val v hp')|none=>none) K Kp=_
 cases zku vs <;> rfl
theorem zsx:opK (aOp Γ b .pick vs hp) K Kp=valK (zkq vs) (fun v=>K v hp):=by
 show opK (match zbi hp (zkq vs) with|some (v,hp')=>some (OpRes.val v hp')|none=>none) K Kp=_
 cases zkq vs <;> rfl
theorem zti:opK (aOp Γ b .not vs hp) K Kp=valK (sNot vs) (fun v=>K v hp):=by
 show opK (match zbi hp (sNot vs) with|some (v,hp')=>some (OpRes.val v hp')|none=>none) K Kp=_
 cases sNot vs <;> rfl
theorem ztj(o:BinOp):opK (aOp Γ b (.bin o) vs hp) K Kp=valK (sBin o vs) (fun v=>K v hp):=by
 show opK (match zbi hp (sBin o vs) with|some (v,hp')=>some (OpRes.val v hp')|none=>none) K Kp=_
 cases sBin o vs <;> rfl
theorem ztk(g:Bool)(ds:List Nat):opK (aOp Γ b (.eqs g ds) vs hp) K Kp=valK (sEqs g ds vs) (fun v=>K v hp):=by
 show opK (match zbi hp (sEqs g ds vs) with|some (v,hp')=>some (OpRes.val v hp')|none=>none) K Kp=_
 cases sEqs g ds vs <;> rfl
theorem zqZ(z:List (Sh × AV))(i:List Nat):opK (aOp Γ b (.build z i) vs hp) K Kp=valK (zb5 z i vs) (fun v=>K v hp):=by
 show opK (match zbi hp (zb5 z i vs) with|some (v,hp')=>some (OpRes.val v hp')|none=>none) K Kp=_
 cases zb5 z i vs <;> rfl
theorem zq0(o:Nat):opK (aOp Γ b (.faddr o) vs hp) K Kp=valK (zf8 o vs) (fun v=>K v hp):=by
 show opK (match zbi hp (zf8 o vs) with|some (v,hp')=>some (OpRes.val v hp')|none=>none) K Kp=_
 cases zf8 o vs <;> rfl
theorem zq1(sh:Sh):opK (aOp Γ b (.iaddr sh) vs hp) K Kp=valK (zcd sh vs) (fun v=>K v hp):=by
 show opK (match zbi hp (zcd sh vs) with|some (v,hp')=>some (OpRes.val v hp')|none=>none) K Kp=_
 cases zcd sh vs <;> rfl
theorem zq2(o:Nat)(sh:Sh):opK (aOp Γ b (.field o sh) vs hp) K Kp=valK (zf9 o sh vs) (fun v=>K v hp):=by
 show opK (match zbi hp (zf9 o sh vs) with|some (v,hp')=>some (OpRes.val v hp')|none=>none) K Kp=_
 cases zf9 o sh vs <;> rfl
theorem zpb(f:Fn)(k:Nat):opK (aOp Γ b (.mkfunc f k) vs hp) K Kp=valK (zeg f k vs) (fun v=>K v hp):=by
 show opK (match zbi hp (zeg f k vs) with|some (v,hp')=>some (OpRes.val v hp')|none=>none) K Kp=_
 cases zeg f k vs <;> rfl
theorem zsy(k:IntKind):opK (aOp Γ b (.conv k) vs hp) K Kp=valK (zks k vs) (fun v=>K v hp):=by
 show opK (match zbi hp (zks k vs) with|some (v,hp')=>some (OpRes.val v hp')|none=>none) K Kp=_
 cases zks k vs <;> rfl
theorem znh(i:Nat):opK (aOp Γ b (.extract i) vs hp) K Kp=valK (zcW i vs) (fun v=>K v hp):=by
 show opK (match zbi hp (zcW i vs) with|some (v,hp')=>some (OpRes.val v hp')|none=>none) K Kp=_
 cases zcW i vs <;> rfl
theorem zsz(sh:Sh):opK (aOp Γ b (.load sh) vs hp) K Kp=valK (zgX sh hp vs) (fun v=>K v hp):=by
 show opK (match zbi hp (zgX sh hp vs) with|some (v,hp')=>some (OpRes.val v hp')|none=>none) K Kp=_
 cases zgX sh hp vs <;> rfl
theorem zpc(s:Bool)(sh:Sh)(z:AV)(k:Bool):opK (aOp Γ b (.lookup s sh z k) vs hp) K Kp=valK (zbs s sh z k hp vs) (fun v=>K v hp):=by
 show opK (match zbi hp (zbs s sh z k hp vs) with|some (v,hp')=>some (OpRes.val v hp')|none=>none) K Kp=_
 cases zbs s sh z k hp vs <;> rfl
theorem zq3(sh:Sh):opK (aOp Γ b (.nilsl sh) vs hp) K Kp=zcq (zdm sh hp) K:=by
 show opK (match(zdm sh hp) with|some (v,hp')=>some (OpRes.val v hp')|none=>none) K Kp=_
 cases (zdm sh hp) with
 |none=>rfl
 |some r=>cases r;rfl
theorem zq4(sh:Sh)(z:AV):opK (aOp Γ b (.alloc sh z) vs hp) K Kp=zcq (zcf sh z hp vs) K:=by
 show opK (match(zcf sh z hp vs) with|some (v,hp')=>some (OpRes.val v hp')|none=>none) K Kp=_
 cases (zcf sh z hp vs) with
 |none=>rfl
 |some r=>cases r;rfl
theorem ztl(sh:Sh):opK (aOp Γ b (.box sh) vs hp) K Kp=zcq (wBox sh hp vs) K:=by
 show opK (match(wBox sh hp vs) with|some (v,hp')=>some (OpRes.val v hp')|none=>none) K Kp=_
 cases (wBox sh hp vs) with
 |none=>rfl
 |some r=>cases r;rfl
theorem zpd(sh:Sh):opK (aOp Γ b (.bslice sh) vs hp) K Kp=zcq (za8 sh hp vs) K:=by
 show opK (match(za8 sh hp vs) with|some (v,hp')=>some (OpRes.val v hp')|none=>none) K Kp=_
 cases (za8 sh hp vs) with
 |none=>rfl
 |some r=>cases r;rfl
theorem zq5(sh:Sh):opK (aOp Γ b (.store sh) vs hp) K Kp=zcq (zaH sh b hp vs) K:=by
 show opK (match(zaH sh b hp vs) with|some (v,hp')=>some (OpRes.val v hp')|none=>none) K Kp=_
 cases (zaH sh b hp vs) with
 |none=>rfl
 |some r=>cases r;rfl
theorem zpe(s:Bool)(sh:Sh):opK (aOp Γ b (.mapset s sh) vs hp) K Kp=zcq (zcG s sh hp vs) K:=by
 show opK (match(zcG s sh hp vs) with|some (v,hp')=>some (OpRes.val v hp')|none=>none) K Kp=_
 cases (zcG s sh hp vs) with
 |none=>rfl
 |some r=>cases r;rfl
theorem zpf(sh:Sh):opK (aOp Γ b (.append sh) vs hp) K Kp=zcq (zbt sh hp vs) K:=by
 show opK (match(zbt sh hp vs) with|some (v,hp')=>some (OpRes.val v hp')|none=>none) K Kp=_
 cases (zbt sh hp vs) with
 |none=>rfl
 |some r=>cases r;rfl
theorem zq6(sh:Sh):opK (aOp Γ b (.mkmap sh) vs hp) K Kp=K (.map hp.length) (hp++[.map sh []]):=rfl
theorem zsA(s:Sh)(f:FuncId)(as:List AV):opK (aOp Γ b .call (.pv s (.func (.func f))::as) hp) K Kp=zna (Γ .fn f as hp) K Kp:=by
 simp only[aOp,zcH,zaT,List.nil_append,List.append_nil]
 cases Γ .fn f as hp with
 |none=>rfl
 |some r=>obtain⟨r,hp'⟩:=r;cases r <;> rfl
theorem zq7(f:FuncId)(fs cs as:List AV):opK (aOp Γ b .call (.func (.func f) fs cs::as) hp) K Kp=zna (Γ .fn f (fs++as++cs) hp) K Kp:=by
 simp only[aOp,zcH,zaT]
 cases Γ .fn f (fs++as++cs) hp with
 |none=>rfl
 |some r=>obtain⟨r,hp'⟩:=r;cases r <;> rfl
def rndK(v:Option (ARes × Heap))(K:AV->Heap->Prop)[Tag K]:Prop:=
 match v with
 |some (.ret v,hp)=>K v hp
 |_=>False
theorem zq8(v:AV)(hp:Heap)(K:AV->Heap->Prop):rndK (some (.ret v,hp)) K=K v hp:=rfl
def zsB(v:Option FuncId)(K:FuncId->Prop)[Tag K]:Prop:=
 match v with
 |some f=>K f
 |none=>False
theorem zni(f:FuncId)(K:FuncId->Prop):zsB (some f) K=K f:=rfl
theorem zli(f:Nat)(ps:List Nat)(env:List (Nat × AV)):zdn (some (.loop f ps env false))=some f:=rfl
theorem zq9(q:Nat)(as:List AV):opK (aOp Γ b .call (.yield q::as) hp) K Kp=zsB (zdn hp[q]?) fun f=>rndK (Γ .rnd f (.yield q::as) hp) K:=by
 simp only[aOp,zcH]
 cases zdn hp[q]? with
 |none=>rfl
 |some f=>
  simp only[zsB]
  cases Γ .rnd f (.yield q::as) hp with
  |none=>rfl
  |some r=>obtain⟨r,hp'⟩:=r;cases r <;> rfl
theorem zra(n:Nat):opK (aOp Γ b (.calln n) vs hp) K Kp=opK (aOp Γ b .call (vs.drop n) hp) (fun v hp'=>(vs.take n).all (zbD hp hp')=true/\K v hp') Kp:=by
 simp only[aOp,zhb]
 cases zcH Γ hp (vs.drop n) with
 |none=>rfl
 |some r=>
  cases r with
  |val v hp'=>
   simp only[opK]
   split
   ·rename_i h;split at h
    ·cases h;simp[*]
    ·cases h
   ·rename_i h;split at h <;> cases h
   ·rename_i h;split at h
    ·cases h
    ·simp[*]
  |panic v hp'=>rfl
def zsC(v:Option (List (Sh × PV)))(K:List (Sh × PV)->Prop)[Tag K]:Prop:=
 match v with
 |some l=>K l
 |none=>False
theorem zrb(s:Sh)(f:FuncId)(as:List AV):opK (aOp Γ b .callp (.pv s (.func (.func f))::as) hp) K Kp=zsC (zaS as) (fun ps=>zna (Γ .fn f (zbC as (pvs ps)) []) (fun v H=>valK (v.alone H) fun v'=>K v' hp) (fun _ _=>False)):=by
 simp only[aOp,zet]
 cases zaS as with
 |none=>rfl
 |some ps=>
  simp only[zsC]
  cases Γ .fn f (zbC as (pvs ps)) [] with
  |none=>rfl
  |some r=>
   obtain⟨r,hp'⟩:=r
   cases r with
   |ret v=>simp only[zna];cases v.alone hp' <;> rfl
   |panic v=>rfl
end Go.Am
namespace Go.Am
variable{Γ:Oracle} {Λ:zad} {b:Nat} {hp:Heap} {vs:List AV} {K:AV->Heap->Prop} {Kp:PV->Heap->Prop}
theorem zlj:opK (aOp Γ b .nilcheck vs hp) K Kp=valK (zce vs) (fun v=>K v hp):=by
 show opK (match zbi hp (zce vs) with|some (v,hp')=>some (OpRes.val v hp')|none=>none) K Kp=_
 cases zce vs <;> rfl
end Go.Am

/- What code comes to: values; calls of functions. -/
namespace Go.Am
variable{Γ:Oracle} {Λ:zad} {b:Nat} {hp:Heap} {K:AV->Prop} {s s':Sh} {sh:Sh} {k:IntKind} {x y:Int}

theorem s_mv(v:AV):sMv [v]=some v:=rfl
theorem zl5(es:List PV):sLen [.pv s (.sl sh es)]=some (.pv none (.int .i64 es.length)):=rfl
theorem zl6(r v o n:Nat):sLen [.sl sh r v o n]=some (.pv none (.int .i64 n)):=rfl
theorem ztm(l:List UInt8):zku [.pv s (.str l)]=some (.pv none (.int .i64 l.length)):=rfl
theorem ztn(c:Bool)(u v:AV):zkq [.pv s (.bool c),u,v]=some (bif c then u else v):=rfl
theorem ztQ(c:Bool):sNot [.pv s (.bool c)]=some (.pv none (.bool !c)):=rfl
theorem zpg(o:BinOp):valK (sBin o [.pv s (.int k x),.pv s' (.int k y)]) K=pvK (zb4 o k x y) (fun p=>K (.pv none p)):=by
 simp only[sBin,znS,if_true]
 cases zb4 o k x y <;> rfl
theorem zph(o:BinOp)(u v:List UInt8):valK (sBin o [.pv s (.str u),.pv s' (.str v)]) K=pvK (zg8 o u v) (fun p=>K (.pv none p)):=by
 simp only[sBin,znS]
 cases zg8 o u v <;> rfl
theorem ztR:zb4 .add k x y=some (.int k (k.wrap (x+y))):=rfl
theorem ztS:zb4 .sub k x y=some (.int k (k.wrap (x - y))):=rfl
theorem ztT:zb4 .mul k x y=some (.int k (k.wrap (x*y))):=rfl
theorem ztU:zb4 .eql k x y=some (.bool (decide (x=y))):=rfl
theorem ztV:zb4 .neq k x y=some (.bool (!decide (x=y))):=rfl
theorem ztW:zb4 .lss k x y=some (.bool (decide (x<y))):=rfl
theorem ztX:zb4 .leq k x y=some (.bool (decide (x<=y))):=rfl
theorem ztY:zb4 .gtr k x y=some (.bool (decide (y<x))):=rfl
theorem ztZ:zb4 .geq k x y=some (.bool (decide (y<=x))):=rfl
theorem zto{u v:List UInt8}:zg8 .eql u v=some (.bool (decide (u=v))):=rfl
theorem zlk(o r o':Nat):zf8 o [.ptr r o']=some (.ptr r (o'+o)):=rfl
theorem zak{es:List PV}{i:Nat}{p:PV}(h:es[i]? =some p):zcd sh [.pv s (.sl sh es),.pv s' (.int k i)]=some (.iptr sh p 0):=by
 simp[zcd,aindex,h]
theorem zal{r v o n i:Nat}(h:i<n):zcd sh [.sl sh r v o n,.pv s' (.int k i)]=some (.eptr sh r v (o+i) 0):=by
 simp[zcd,aindex,h]
theorem zsD(o:Nat)(v:AV):zf9 o sh [v]=AV.part deep v o sh:=rfl
theorem ztp(k':IntKind):zks k' [.pv s (.int k x)]=some (.pv none (.int k' (k'.wrap x))):=rfl
theorem zpi(i:Nat)(l:List AV):zcW i [.tuple l]=l[i]? :=rfl
theorem zpj(fn:Fn)(n:Nat)(v:AV)(l:List AV):zeg fn n (v::l)=some (.func fn ((v::l).take n) ((v::l).drop n)):=rfl
theorem ztq(p:AV):zgX sh hp [p]=aload sh hp p:=rfl
def zll(sh:Sh)(off:Nat):Option AObj->Option AV
 |some (.box s v)=>if off=0/\s=sh then some v else AV.part deep v off sh
 |_=>none
theorem zpk(r off:Nat):aload sh hp (.ptr r off)=zll sh off hp[r]? :=by
 unfold zll
 simp only[aload]
 split <;> simp_all
theorem zlm(off:Nat)(v:AV):zll sh off (some (.box s v))=if off=0/\s=sh then some v else AV.part deep v off sh:=rfl
def toAV(sh:Sh):Option PV->Option AV
 |some p=>some (.pv sh p)
 |none=>none
theorem zpl(p:PV):toAV sh (some p)=some (.pv sh p):=rfl
theorem znj(p:PV)(off:Nat):aload sh hp (.iptr s p off)=if off=0/\s=sh then some (.pv sh p) else toAV sh (PV.part deep p off sh):=by
 simp only[aload,toAV]
 split
 ·rfl
 ·cases PV.part deep p off sh <;> rfl
theorem zsE(p:PV)(off:Nat):AV.part deep (.pv s p) off sh=toAV sh (PV.part deep p off sh):=by
 show AV.part (7+1) (.pv s p) off sh=toAV sh (PV.part (7+1) p off sh)
 simp only[AV.part,toAV]
 cases PV.part (7+1) p off sh <;> rfl
theorem zrc(l:List (Sh × PV))(off:Nat):PV.part deep (.agg l) off sh=PV.part.go 7 off sh l:=rfl
theorem zpm(l:List (Sh × AV))(off:Nat):AV.part deep (.agg l) off sh=AV.part.go 7 off sh l:=rfl
theorem zj0(d off:Nat)(p:PV)(r:List (Sh × PV)):PV.part.go d off sh ((s,p)::r)=if off=0/\s=sh then some p else if off<s.size then PV.part d p off sh else PV.part.go d (off - s.size) sh r:=rfl
theorem ziE(d off:Nat)(p:AV)(r:List (Sh × AV)):AV.part.go d off sh ((s,p)::r)=if off=0/\s=sh then some p else if off<s.size then AV.part d p off sh else AV.part.go d (off - s.size) sh r:=rfl
theorem zj1:Sh.size none=1:=rfl
theorem zpn(n:Nat):Sh.size (some n)=n:=rfl
def endK(rs:List RSlot)(Q:AV->Heap->Prop)[Tag Q]:AExit->St->Prop
 | .normal,st=>match zay st rs with
  |some v=>Q v st.hp
  |none=>False
 | .ret,st=>match zay st rs with
  |some v=>Q v st.hp
  |none=>False
 |_,_=>False
theorem zf2(rs:List RSlot)(Q:AV->Heap->Prop)(st:St):endK rs Q .ret st=valK (zay st rs) (fun v=>Q v st.hp):=by
 show(match zay st rs with|some v=>Q v st.hp|none=>False)=_
 cases zay st rs <;> rfl
theorem zdc(rs:List RSlot)(Q:AV->Heap->Prop)(st:St):endK rs Q .normal st=valK (zay st rs) (fun v=>Q v st.hp):=by
 show(match zay st rs with|some v=>Q v st.hp|none=>False)=_
 cases zay st rs <;> rfl
theorem znk(st:St)(r:Nat):zay st [(r,none)]=st.fr.look r:=rfl
theorem zln(st:St)(r:Nat)(sh:Sh):zay st [(r,some sh)]=(match st.fr.look r with|some p=>aload sh st.hp p|none=>none):=rfl
def tupO:Option (List AV)->Option AV
 |some l=>some (.tuple l)
 |none=>none
theorem zpo(l:List AV):tupO (some l)=some (.tuple l):=rfl
theorem znl(st:St)(r q:RSlot)(l:List RSlot):zay st (r::q::l)=tupO (zaU st (r::q::l)):=by
 unfold zay tupO
 simp only[]
 cases zaU st (r::q::l) <;> rfl
theorem zj2(st:St):zay st []=some (.tuple []):=rfl
theorem zpp(p:Nat->Bool):(AV.tuple []).refsIn.all p=true:=rfl
theorem ziF(st:St):zaU st []=some []:=rfl
theorem zg3(st:St)(r:RSlot)(l:List RSlot):zaU st (r::l)=zsv (zcs st r) (zaU st l):=rfl
theorem znm(st:St)(r:Nat):zcs st (r,none)=st.fr.look r:=rfl
theorem zfm(st:St)(r:Nat)(sh:Sh):zcs st (r,some sh)=(match st.fr.look r with|some p=>aload sh st.hp p|none=>none):=rfl
theorem znn(i:Nat):params i []=[]:=rfl
theorem zlo(i:Nat)(v:AV)(r:List AV):params i (v::r)=(i,v)::params (i+1) r:=rfl

def frozen(v:AV):AV->Heap->Prop:=fun v' hp=>∃hp',v'.freezeRes hp=some (v,hp')
theorem zpq(p:PV)(v:AV):frozen v (.pv s p) hp=(.pv s p=v):=by
 have h:AV.freeze deep (.pv s p) hp=some (p,hp):=rfl
 simp only[frozen,AV.freezeRes,h,AV.shp]
 exact propext ⟨fun⟨_,h⟩=>by cases h;rfl,fun h=>⟨hp,by rw[h]⟩⟩
theorem zaf:∀(ps:List (Sh × PV)),zan (pvs ps) hp=some (ps,hp)
 |[]=>rfl
 |(sh,p)::r=>by
  have h:AV.freeze deep (.pv sh p) hp=some (p,hp):=rfl
  show zan (.pv sh p::pvs r) hp=_
  simp only[zan,h,zaf r,AV.shp]

variable{F:FuncId->Option AFn} {prim:FuncId->Option zcL}
theorem zaL{f:FuncId}{fn:AFn}{args:List AV}{ps:List (Sh × PV)}{hp:Heap}{v:AV}(hp0:prim f=none)(hf:F f=some fn)(hm:fn.heapMode=false)(hz:zan args hp=some (ps,hp))(hn:(pvs ps).length=fn.nparams)
  (h:W (sem F prim) (sloop F prim) 0 fn.code ⟨params 0 (pvs ps),[]⟩ (endK fn.results (frozen v)))(hr:fn.rcv=none:=by rfl)(hmo:fn.more=[]:=by rfl):sem F prim .fn f args hp=some (.ret v,hp):=by
 rw[zjV]
 unfold zbk
 rw[hp0,hf]
 simp only[hr,hmo,Option.isSome_none,hm,Bool.false_eq_true,if_false,hz,abody,hn,ne_eq,not_true_eq_false]
 unfold W at h
 split at h
 ·rename_i e st' he
  have hl:([]:Heap).length=0:=rfl
  rw[hl,he]
  cases e with
  |normal=>
   rw[zdc] at h
   cases hr:zay st' fn.results with
   |none=>rw[hr] at h;exact h.elim
   |some u=>
    rw[hr] at h
    obtain⟨hp',h⟩:=h
    simp only[hr,h]
    cases v.scalar <;> rfl
  |ret=>
   rw[zf2] at h
   cases hr:zay st' fn.results with
   |none=>rw[hr] at h;exact h.elim
   |some u=>
    rw[hr] at h
    obtain⟨hp',h⟩:=h
    simp only[hr,h]
    cases v.scalar <;> rfl
  |exit i=>exact h.elim
  |panic v=>exact h.elim
 ·exact h.elim
theorem zpr{c:ACode}{st:St}{Q Q':AExit->St->Prop}(h:W Γ Λ b c st Q)(hq:∀e st',Q e st'->Q' e st'):W Γ Λ b c st Q':=by
 unfold W at h ⊢
 split at h
 ·exact hq _ _ h
 ·exact h.elim
theorem zbB(I:Nat->St->Prop){b:Nat}{keep:List Nat}{c:ACode}{st:St}{Q:AExit->St->Prop}{n:Nat}(h0:I n ⟨st.fr.keep keep,st.hp⟩)
  (h:∀n st1,I n st1->W (sem F prim) (sloop F prim) b c st1 (fun e st'=>match e with
   | .normal=>∃m,m<n/\I m ⟨st'.fr.keep keep,collect st.hp.length b (st'.fr.keep keep) st'.hp⟩
   |e=>Q e st')):W (sem F prim) (sloop F prim) b (.loop keep c) st Q:=by
 unfold W
 simp only[aexec]
 have key:∀n st1,I n st1->match sloop F prim b st.hp.length keep c st1 with|some (e,st')=>Q e st'|none=>False:=by
  intro n
  induction n using Nat.strongRecOn with
  |_ n ih=>
   intro st1 hI
   have hw:=h n st1 hI
   unfold W at hw
   rw[zqL]
   split at hw
   ·rename_i e st' he
    rw[he]
    cases e with
    |normal=>
     obtain⟨m,hm,hI'⟩:=hw
     exact ih m hm _ hI'
    |exit i=>exact hw
    |ret=>exact hw
    |panic v=>exact hw
   ·exact hw.elim
 exact key n _ h0
end Go.Am
namespace Go.Am
variable{Γ:Oracle} {Λ:zad} {b:Nat} {hp:Heap} {K:AV->Heap->Prop} {s s':Sh} {sh:Sh} {k:IntKind} {x y:Int}
theorem zsF:Am.pvs []=[]:=rfl
theorem zrd(s:Sh)(p:PV)(r:List (Sh × PV)):Am.pvs ((s,p)::r)=.pv s p::Am.pvs r:=rfl
theorem zaP{α:Type}(l:List α)(x y:α):(l++[x]).set l.length y=l++[y]:=by
 rw[List.set_append_right _ _ (Nat.le_refl _)]
 simp
theorem zno(p:PV):zcf sh (.pv sh p) hp []=some (.ptr hp.length 0,hp++[.box sh (.pv sh p)]):=by
 simp only[zcf,AV.plain,AV.shp,and_self,if_true,AV.own,zaP]
theorem zre(p:PV):wBox sh hp [.pv sh p]=some (.ptr hp.length 0,hp++[.box sh (.pv sh p)]):=by
 simp only[wBox,AV.plain,AV.shp,and_self,if_true,AV.own,zaP]
def zrZ(sh:Sh)(n:Nat):List (Sh × AV) × Heap->Option (AV × Heap)
 |(l,hp)=>some (.ptr n 0,hp.set n (.box sh (.agg l)))
theorem zps(n:Nat)(l:List (Sh × AV)):zrZ sh n (l,hp)=some (.ptr n 0,hp.set n (.box sh (.agg l))):=rfl
theorem zlp(l:List (Sh × AV)):zcf sh (.agg l) hp []=if some (total l)=sh then zrZ sh hp.length (zai l (hp++[.box sh (.agg l)])) else none:=by
 simp only[zcf,AV.plain,AV.shp,true_and,AV.own]
 rfl
theorem zsG:zai [] hp=([],hp):=rfl
def zgH(x:Sh × AV):List (Sh × AV) × Heap->List (Sh × AV) × Heap
 |(l,hp)=>(x::l,hp)
theorem znp(u:Sh × AV)(l:List (Sh × AV)):zgH u (l,hp)=(u::l,hp):=rfl
theorem zj3(r:List (Sh × AV)):zai ((s,.tsl sh [])::r) hp=if 0<sh.size then zgH (s,.sl sh hp.length 0 0 0) (zai r (hp++[.arr sh [] false])) else zgH (s,.tsl sh []) (zai r hp):=rfl
theorem zlq(p:PV)(r:List (Sh × AV)):zai ((s,.pv s' p)::r) hp=zgH (s,.pv s' p) (zai r hp):=rfl
theorem zpt:total ([]:List (Sh × AV))=0:=rfl
theorem znq(v:AV)(r:List (Sh × AV)):total ((s,v)::r)=s.size+total r:=rfl
def boxK(o:Option AObj)(K:Sh->AV->Prop)[Tag K]:Prop:=
 match o with
 |some (.box s v)=>K s v
 |_=>False
theorem zrf(v:AV)(K:Sh->AV->Prop):boxK (some (.box s v)) K=K s v:=rfl
theorem znr(r off:Nat)(p:PV):zcq (zaH sh b hp [.ptr r off,.pv sh p]) K=boxK hp[r]? fun s old=>if off=0/\s=sh then K .undef (hp.set r (.box s (.pv sh p))) else
  valK (AV.upd deep old off sh (.pv sh p)) fun new=>K .undef (hp.set r (.box s new)):=by
 simp only[zaH,astore,AV.plain,AV.shp,AV.own,AV.refsIn,List.all_nil]
 cases hp[r]? with
 |none=>rfl
 |some o=>
  cases o with
  |box s old=>
   simp only[boxK]
   by_cases h1:off=0/\s=sh
   ·obtain⟨h1,h2⟩:=h1
    subst h1;subst h2
    by_cases hb:b<=r <;> simp[hb,zcq]
   ·cases hu:AV.upd deep old off sh (.pv sh p) with
    |none=>by_cases hb:b<=r <;> simp[hb,h1,zcq,valK]
    |some new=>by_cases hb:b<=r <;> simp[hb,h1,zcq,valK]
  |arr s es fz=>rfl
  |map s es=>rfl
  |loop f ps env bz=>rfl
  |arv s es=>rfl
theorem zj4{r:Nat}(h:b<=r)(fn:Fn)(fs cs:List AV):zcq (zaH none b hp [.ptr r 0,.func fn fs cs]) K=boxK hp[r]? fun s old=>if s=none then K .undef (hp.set r (.box s (.func fn fs cs))) else valK (AV.upd deep old 0 none (.func fn fs cs)) fun new=>K .undef (hp.set r (.box s new)):=by
 simp only[zaH,astore,AV.plain,AV.shp,AV.own]
 cases hp[r]? with
 |none=>rfl
 |some o=>
  cases o with
  |box s old=>
   simp only[boxK,if_pos h]
   by_cases h1:s=none
   ·subst h1
    simp[zcq]
   ·cases hu:AV.upd deep old 0 none (.func fn fs cs) with
    |none=>simp[h1,zcq,valK]
    |some new=>simp[h1,zcq,valK]
  |arr s es fz=>rfl
  |map s es=>rfl
  |loop f ps env bz=>rfl
  |arv s es=>rfl
theorem zpu(h:0<sh.size):zdm sh hp=some (.sl sh hp.length 0 0 0,hp++[.arr sh [] false]):=by
 simp[zdm,h]
def zsH(r:List Nat)(st:St)(q:Nat):Option AObj->Option St
 |some (.box sh v)=>match AV.freeze deep v st.hp with
  |some (p,hp')=>settle r ⟨st.fr,hp'.set q (.box sh (.pv sh p))⟩
  |none=>none
 |_=>settle r st
def zlr(s:Nat)(r:List Nat)(st:St):Option AV->Option St
 |some (.ptr q _)=>zsH r st q st.hp[q]?
 |some (.sl s' q ver off len)=>match AV.freeze deep (.sl s' q ver off len) st.hp with
   |some (p,hp')=>settle r ⟨(s,.pv none p)::st.fr,hp'⟩
   |none=>none
 |some (.tsl sh es)=>settle r ⟨(s,.pv none (.sl sh es))::st.fr,st.hp⟩
 |some (.slv s' q ver off len)=>match AV.freeze deep (.slv s' q ver off len) st.hp with
   |some (p,hp')=>settle r ⟨(s,.pv none p)::st.fr,hp'⟩
   |none=>none
 |some (.nilv sh)=>settle r ⟨(s,.pv none (.sl sh []))::st.fr,st.hp⟩
 |some (.agg l)=>if(AV.refsIn.go l).isEmpty=true then settle r st else match AV.freeze deep (.agg l) st.hp with
   |some (p,hp')=>settle r ⟨(s,.pv (some (total l)) p)::st.fr,hp'⟩
   |none=>settle r st
 |_=>settle r st
theorem zns(st:St):settle [] st=some st:=rfl
theorem zls(s:Nat)(r:List Nat)(st:St):settle (s::r) st=zlr s r st (st.fr.look s):=by
 simp only[settle]
 cases st.fr.look s with
 |none=>rfl
 |some v=>
  cases v with
  |ptr q o=>
   simp only[zlr]
   cases st.hp[q]? with
   |none=>rfl
   |some o=>cases o <;> rfl
  |_=>rfl
theorem znt(s:Nat)(r:List Nat)(st:St)(sh:Sh)(p:PV):zlr s r st (some (.pv sh p))=settle r st:=rfl
def setK(v:Option St)(K:St->Prop)[Tag K]:Prop:=
 match v with
 |some st=>K st
 |none=>False
theorem zpv(st:St)(K:St->Prop):setK (some st) K=K st:=rfl
theorem W_settle'{Γ:Oracle}{Λ:zad}{b:Nat}{st:St}{Q:AExit->St->Prop}(l:List Nat):W Γ Λ b (.settle l) st Q=setK (settle l st) (fun st'=>Q .normal st'):=by
 rw[zqQ]
 cases settle l st <;> rfl
def ztr(x:Sh × PV):Option (List (Sh × PV))->Option (List (Sh × PV))
 |some l=>some (x::l)
 |none=>none
theorem znu(x:Sh × PV)(l:List (Sh × PV)):ztr x (some l)=some (x::l):=rfl
theorem zrg:zaS []=some []:=rfl
theorem zsI(s:Sh)(p:PV)(r:List AV):zaS (.pv s p::r)=ztr (s,p) (zaS r):=by
 have h:AV.weaken deep (.pv s p)=some p:=rfl
 simp only[zaS,h,AV.shp]
 cases zaS r <;> rfl
theorem znv(l:List (Sh × PV))(K:List (Sh × PV)->Prop):zsC (some l) K=K l:=rfl
theorem zrh(s:Sh)(p:PV)(H:Heap):AV.alone (.pv s p) H=some (.pv s p):=rfl
theorem zts(q:List AV):zbC [] q=q:=by cases q <;> rfl
theorem zt0(s:Sh)(p:PV)(r q:List AV)(x:AV):zbC (.pv s p::r) (x::q)=x::zbC r q:=rfl
def ztt(x:Sh × PV):Option (List (Sh × PV) × Heap)->Option (List (Sh × PV) × Heap)
 |some (l,hp)=>some (x::l,hp)
 |none=>none
theorem znw(x:Sh × PV)(l:List (Sh × PV))(hp:Heap):ztt x (some (l,hp))=some (x::l,hp):=rfl
theorem ziG(hp:Heap):zan [] hp=some ([],hp):=rfl
theorem zj5(s:Sh)(p:PV)(r:List AV)(hp:Heap):zan (.pv s p::r) hp=ztt (s,p) (zan r hp):=by
 have h:AV.freeze deep (.pv s p) hp=some (p,hp):=rfl
 simp only[zan,h,AV.shp]
 cases zan r hp with
 |none=>rfl
 |some x=>rfl
def bslO(sh:Sh):Option (List PV)->Heap->Option (AV × Heap)
 |some es,hp=>some (.tsl sh es,hp)
 |none,_=>none
def bslZ(sh:Sh):Option (List (Sh × PV) × Heap)->Option (AV × Heap)
 |some (ps,hp)=>bslO sh (zbc sh ps) hp
 |none=>none
theorem zri(sh:Sh)(hp:Heap)(vs:List AV):za8 sh hp vs=bslZ sh (zan vs hp):=by
 unfold za8 bslZ
 cases zan vs hp with
 |none=>rfl
 |some x=>
  obtain⟨ps,hp'⟩:=x
  simp only[]
  cases zbc sh ps <;> rfl
theorem zpw(sh:Sh)(ps:List (Sh × PV))(hp:Heap):bslZ sh (some (ps,hp))=bslO sh (zbc sh ps) hp:=rfl
theorem zpx(sh:Sh)(es:List PV)(hp:Heap):bslO sh (some es) hp=some (.tsl sh es,hp):=rfl
def ztu(p:PV):Option (List PV)->Option (List PV)
 |some l=>some (p::l)
 |none=>none
theorem znx(p:PV)(l:List PV):ztu p (some l)=some (p::l):=rfl
theorem zlt(sh:Sh):zbc sh []=some []:=rfl
theorem zj6(sh s:Sh)(p:PV)(r:List (Sh × PV)):zbc sh ((s,p)::r)=if s=sh then ztu p (zbc sh r) else none:=by
 simp only[zbc]
 split
 ·cases zbc sh r <;> rfl
 ·rfl
def zg4(sh:Sh)(n:Nat):Option AObj->Prop
 |some (.arr s es false)=>s=sh/\es.length=n
 |_=>False
def zl7(n:Nat):Option AObj->Prop
 |some (.arr _ es _)=>es.length=n
 |_=>False
def zlu:Option AObj->List PV
 |some (.arr _ es _)=>es
 |_=>[]
def zsJ:Option AObj->Sh
 |some (.arr s _ _)=>s
 |_=>none
theorem zpy{sh s:Sh}{n:Nat}(es:List PV):zg4 sh n (some (.arr s es false))=(s=sh/\es.length=n):=rfl
theorem zny{s:Sh}{n:Nat}{fz:Bool}(es:List PV):zl7 n (some (.arr s es fz))=(es.length=n):=rfl
theorem zpz{s:Sh}{fz:Bool}(es:List PV):zlu (some (.arr s es fz))=es:=rfl
theorem zpA{s:Sh}{fz:Bool}(es:List PV):zsJ (some (.arr s es fz))=s:=rfl
theorem zl8{sh:Sh}{n:Nat}{o:Option AObj}(h:zg4 sh n o):∃es,o=some (.arr sh es false)/\es.length=n:=by
 unfold zg4 at h
 split at h
 ·obtain⟨rfl,h⟩:=h;exact⟨_,rfl,h⟩
 ·exact h.elim
theorem zpB{n:Nat}{o:Option AObj}(h:zl7 n o):∃sh es fz,o=some (.arr sh es fz)/\es.length=n:=by
 unfold zl7 at h
 split at h
 ·exact⟨_,_,_,rfl,h⟩
 ·exact h.elim
theorem zbY{sh s:Sh}{hp:Heap}{r n:Nat}{new:List PV}(h:zg4 sh n hp[r]?)(h2:n+new.length<=lim):zbt sh hp [.sl s r n 0 n,.tsl sh new]=some (.sl sh r (n+new.length) 0 (n+new.length),hp.set r (.arr sh (zlu hp[r]? ++new) false)):=by
 obtain⟨es,ho,rfl⟩:=zl8 h
 simp[zbt,aappend,elems,ho,h2,zlu]
def frzT(v:AV):Option (List (Sh × PV) × Heap)->Prop
 |some (ps,_)=>.tuple (pvs ps)=v
 |none=>False
theorem zj7{hp:Heap}{l:List AV}{v:AV}:frozen v (.tuple l) hp=frzT v (zan l hp):=by
 simp only[frozen,AV.freezeRes]
 cases zan l hp with
 |none=>simp[frzT]
 |some x=>
  obtain⟨ps,hp'⟩:=x
  simp only[frzT]
  exact propext ⟨fun⟨_,h⟩=>by cases h;rfl,fun h=>⟨_,by rw[h]⟩⟩
theorem zf3{x:Int}(h:0<=x)(h':x<18446744073709551616):IntKind.u64.wrap x=x:=by
 simp[IntKind.wrap,IntKind.signed,IntKind.bits]
 omega
def zsK(sh:Sh):Option AObj->Prop
 |some (.box s _)=>s=sh
 |_=>False
theorem zpC(sh s:Sh)(v:AV):zsK sh (some (.box s v))=(s=sh):=rfl
def zf4(r:Nat)(sh:Sh):List (Sh × AV) × Heap->Option (AV × Heap)
 |(l,hp1)=>some (.undef,hp1.set r (.box sh (.agg l)))
theorem zlv(r:Nat)(sh:Sh)(l:List (Sh × AV))(hp1:Heap):zf4 r sh (l,hp1)=some (.undef,hp1.set r (.box sh (.agg l))):=rfl
theorem zaA{b r:Nat}{sh:Sh}{hp:Heap}(h:b<=r)(l:List (Sh × AV))(hs:some (total l)=sh)(ho:zsK sh hp[r]?):zaH sh b hp [.ptr r 0,.agg l]=zf4 r sh (zai l hp):=by
 cases ho':hp[r]? with
 |none=>rw[ho'] at ho;exact ho.elim
 |some o=>
  rw[ho'] at ho
  cases o with
  |box s old=>
   simp only[zsK] at ho
   subst ho
   simp only[zaH,astore,ho',AV.plain,AV.shp,AV.own,hs,if_pos h]
   cases zai l hp with
   |mk l' hp'=>simp[zf4]
  |arr s es fz=>exact ho.elim
  |map s es=>exact ho.elim
  |loop f ps env bz=>exact ho.elim
  |arv s es=>exact ho.elim
theorem zcb{b r:Nat}{s':Sh}{hp:Heap}{K:AV->Heap->Prop}{q v o n off:Nat}(h:b<=r):zcq (zaH none b hp [.ptr r off,.sl s' q v o n]) K=boxK hp[r]? fun s old=>if off=0/\s=none then K .undef (hp.set r (.box s (.sl s' q v o n))) else
  valK (AV.upd deep old off none (.sl s' q v o n)) fun new=>K .undef (hp.set r (.box s new)):=by
 simp only[zaH,astore,AV.plain,AV.shp,AV.own]
 cases hp[r]? with
 |none=>rfl
 |some ob=>
  cases ob with
  |box s old=>
   simp only[boxK,if_pos h]
   by_cases h1:off=0/\s=none
   ·obtain⟨h1,h2⟩:=h1
    subst h1;subst h2
    simp[zcq]
   ·cases hu:AV.upd deep old off none (.sl s' q v o n) with
    |none=>simp[h1,zcq,valK]
    |some new=>simp[h1,zcq,valK]
  |arr s es fz=>rfl
  |map s es=>rfl
  |loop f ps env bz=>rfl
  |arv s es=>rfl
def updO:Option (List (Sh × AV))->Option AV
 |some l=>some (AV.ofComps l)
 |none=>none
theorem zpD(l:List (Sh × AV)):updO (some l)=some (AV.ofComps l):=rfl
theorem zsL(l:List (Sh × AV))(off:Nat)(sh:Sh)(x:AV):AV.upd deep (.agg l) off sh x=updO (AV.updGo (fun p o=>AV.upd 7 p o sh x) sh x off l):=by
 show AV.upd (7+1) (.agg l) off sh x=_
 simp only[AV.upd,AV.comps]
 cases AV.updGo (fun p o=>AV.upd 7 p o sh x) sh x off l <;> rfl
def ztv(s:Sh)(p:AV):Option (List (Sh × AV))->Option (List (Sh × AV))
 |some l=>some ((s,p)::l)
 |none=>none
theorem znz(s:Sh)(p:AV)(l:List (Sh × AV)):ztv s p (some l)=some ((s,p)::l):=rfl
theorem znA(f:AV->Nat->Option AV)(sh:Sh)(v:AV)(off:Nat)(s:Sh)(p:AV)(r:List (Sh × AV)):AV.updGo f sh v off ((s,p)::r)=if off=0/\s=sh then some ((s,v)::r) else if off<s.size then(match f p off with|some p'=>some ((s,p')::r)|none=>none) else ztv s p (AV.updGo f sh v (off - s.size) r):=by
 simp only[AV.updGo]
 split
 ·rfl
 ·split
  ·rfl
  ·cases AV.updGo f sh v (off - s.size) r <;> rfl
end Go.Am

/- (empty) -/

/- The steps, as one set. -/
namespace Go.Am
attribute [go_sem] ztb ztc ztL ztd zte zst zqR ztM ztf zsu ztN ztO zo3 zqS zqT zqU zo4 znb zo5 znc zlf zo6 znd zqV zne zo7 zqW zo8 znf zlg zo9 zqX ziD zlh zng zpa zqY ztP zth zsw zsx zti ztj ztk zqZ zq0 zq1 zq2 zpb zsy znh zsz zpc zq3 zq4 ztl zpd zq5 zpe zpf zq6 zsA zq7 zrb s_mv zl5 zl6 ztm ztn ztQ zpg zph ztR ztS ztT ztU ztV ztW ztX ztY ztZ zto zlk zsD ztp zpi zpj ztq zpk zlm zpl znj zsE zrc zpm zj0 ziE zj1 zpn zf2 zdc znk znl ziF zg3 znm znn zlo zpo zj2 zpp zpq zno zre zsG znp zj3 zlq zlp zps zpt znq zrf znr W_settle' zpv zns zls znt znu zrg zsI znv zrh zts zt0 znw ziG zj5 zri zpw zpx znx zlt zj6 zpy zny zpz zpA zbY zj7 zlv zpC zpD zsL znz znA zln if_true if_false true_and and_true false_and and_false and_self Nat.zero_add Nat.add_zero eq_self Bool.true_eq_false Bool.false_eq_true cond_true cond_false decide_eq_true_eq Bool.not_eq_true' Bool.not_eq_false' decide_eq_false_iff_not not_true_eq_false not_false_eq_true Bool.true_and Bool.false_and Bool.and_true Bool.and_false Bool.not_true Bool.not_false Option.some.injEq decide_true decide_false List.getElem?_cons_zero List.getElem?_cons_succ List.length_cons List.length_nil List.nil_append List.cons_append List.set_cons_zero List.set_cons_succ List.take_zero List.drop_zero zrd zsF zq9 zra zlj zq8 zni zli
end Go.Am

/- Terms: sizes, valid ones; how their parts are read. -/
namespace Go.Am
mutual
def Tm.size:Tm->Nat
 | .mk _ _ _ as=>1+Tm.sizes as
def Tm.sizes:List Tm->Nat
 |[]=>0
 |t::r=>t.size+Tm.sizes r
end
theorem Tm.size_eq(t:Tm):t.size=1+Tm.sizes t.args:=by cases t;simp[Tm.size,Tm.args]
theorem Tm.size_pos(t:Tm):0<t.size:=by rw[Tm.size_eq];omega
theorem Tm.zua:∀{l:List Tm} {t:Tm},t∈l->t.size<=Tm.sizes l
 |x::r,t,h=>by
  simp only[Tm.sizes]
  rcases List.mem_cons.1 h with rfl|h
  ·omega
  ·have:=Tm.zua h;omega
theorem Tm.zug(l r:List Tm):Tm.sizes (l++r)=Tm.sizes l+Tm.sizes r:=by
 induction l with
 |nil=>simp[Tm.sizes]
 |cons x l ih=>simp only[List.cons_append,Tm.sizes,ih];omega
theorem Tm.zt8(l:List Tm):l.length<=Tm.sizes l:=by
 induction l with
 |nil=>simp
 |cons x l ih=>have:=x.size_pos;simp only[List.length_cons,Tm.sizes];omega
theorem Tm.zuk{l:List Tm}{i:Nat}{t:Tm}(h:l[i]? =some t):Tm.sizes (l.take (i+1))=Tm.sizes (l.take i)+t.size:=by
 rw[List.take_add_one,h,Tm.zug]
 simp[Tm.sizes]
theorem Tm.zuf(l:List Tm)(i:Nat):Tm.sizes (l.take i)<=Tm.sizes l:=by
 have h:=Tm.zug (l.take i) (l.drop i)
 rw[List.take_append_drop] at h
 omega
theorem Tm.zul{t u:Tm}(h:u∈t.args):u.size<t.size:=by
 have:=Tm.zua h
 rw[t.size_eq]
 omega
theorem Tm.zuc{P:Tm->Prop}(h:∀t:Tm,(∀u∈t.args,P u)->P t)(t:Tm):P t:=by
 have:∀n (t:Tm),t.size<=n->P t:=by
  intro n
  induction n with
  |zero=>intro t ht;have:=t.size_pos;omega
  |succ n ih=>exact fun t ht=>h t fun u hu=>ih u (by have:=Tm.zul hu;omega)
 exact this _ t (Nat.le_refl _)
theorem Tm.zun(l:List Tm):Tm.pvs l=l.map Tm.pv:=by
 induction l with
 |nil=>rfl
 |cons x l ih=>simp[Tm.pvs,ih]
theorem Tm.pvs_get{l:List Tm}{i:Nat}{t:Tm}(h:l[i]? =some t):(Tm.pvs l)[i]? =some t.pv:=by simp[Tm.zun,h]
theorem Tm.pvs_len(l:List Tm):(Tm.pvs l).length=l.length:=by simp[Tm.zun]
theorem Tm.zup(l r:List Tm):Tm.pvs (l++r)=Tm.pvs l++Tm.pvs r:=by simp[Tm.zun]
theorem Tm.zt9{l:List Tm}{i:Nat}{t:Tm}(h:l[i]? =some t):Tm.pvs (l.take i)++[t.pv]=Tm.pvs (l.take (i+1)):=by
 rw[List.take_add_one,h,Tm.zup]
 rfl
theorem zbI(t:Tm):PV.part deep t.pv 0 none=some (.int .i64 t.kind):=by cases t;rfl
theorem zeR(t:Tm):PV.part deep t.pv 1 none=some (.int .i64 t.n):=by cases t;rfl
theorem zdE(t:Tm):PV.part deep t.pv 2 none=some (.str t.name):=by cases t;rfl
theorem za7(t:Tm):PV.part deep t.pv 3 none=some (.sl (some 4) (Tm.pvs t.args)):=by cases t;rfl
theorem zah{x:Int}(h: -9223372036854775808<=x)(h':x<9223372036854775808):IntKind.i64.wrap x=x:=by
 rw[IntKind.wrap_i64]
 omega
end Go.Am
namespace Go.Am
def Tm.node(t:Tm):Bool:=
 if t.kind=0 then decide (0<=t.n) && decide (t.n<=1099511627776) && decide (t.name=[]) && decide ((t.args.length:Int)=0)
 else if t.kind=1 then decide (t.name=[]) && decide ((t.args.length:Int)=0)
 else if t.kind=2 then decide (t.n=0) && decide ((t.name.length:Int)<=100) && decide ((t.args.length:Int)=0)
 else if t.kind=3 then decide (t.n=0) && decide ((t.name.length:Int)<=100) && decide (0<(t.args.length:Int)) && decide ((t.args.length:Int)<=8)
 else false
mutual
def Tm.fits:Tm->Bool
 | .mk k n s as=>Tm.node (.mk k n s as) && Tm.fitsAll as
def Tm.fitsAll:List Tm->Bool
 |[]=>true
 |t::r=>t.fits && Tm.fitsAll r
end
theorem Tm.zuj(t:Tm):t.fits=(t.node && Tm.fitsAll t.args):=by cases t;simp[Tm.fits,Tm.args]
theorem Tm.fitsAll_iff{l:List Tm}:Tm.fitsAll l=true↔∀t∈l,t.fits=true:=by
 induction l with
 |nil=>simp[Tm.fitsAll]
 |cons x l ih=>simp[Tm.fitsAll,ih]
theorem Tm.zud(l r:List Tm):Tm.fitsAll (l++r)=(Tm.fitsAll l && Tm.fitsAll r):=by
 induction l with
 |nil=>simp[Tm.fitsAll]
 |cons x l ih=>simp[Tm.fitsAll,ih,Bool.and_assoc]
theorem Tm.zuo{l:List Tm}{i:Nat}{t:Tm}(h:l[i]? =some t):Tm.fitsAll (l.take (i+1))=(Tm.fitsAll (l.take i) && t.fits):=by
 rw[List.take_add_one,h,Tm.zud]
 simp[Tm.fitsAll]
theorem Tm.zum{t u:Tm}(h:t.fits=true)(hu:u∈t.args):u.fits=true:=by
 rw[Tm.zuj,Bool.and_eq_true] at h
 exact Tm.fitsAll_iff.1 h.2 u hu
def Tm.valid(t:Tm):Bool:=decide (t.size<=2000) && t.fits
end Go.Am

/- Functions that run on their caller's heap; loops' heaps. -/
namespace Go.Am
variable{F:FuncId->Option AFn} {prim:FuncId->Option zcL}
theorem zaI{f:FuncId}{fn:AFn}{args:List AV}{hp hp':Heap}{v:AV}(hp0:prim f=none)(hf:F f=some fn)(hm:fn.heapMode=true)(hn:args.length=fn.nparams)
  (h:W (sem F prim) (sloop F prim) hp.length fn.code ⟨params 0 args,hp⟩ (endK fn.results (fun v' h'=>v'=v/\(if v.refsIn.all (fun q=>decide (q<hp.length))=true then h'.take hp.length else h')=hp')))(hr:fn.rcv=none:=by rfl)(hmo:fn.more=[]:=by rfl):sem F prim .fn f args hp=some (.ret v,hp'):=by
 rw[zjV]
 unfold zbk
 rw[hp0,hf]
 simp only[hr,hmo,Option.isSome_none,Bool.false_eq_true,if_false,hm,if_true,abody,hn,ne_eq,not_true_eq_false,if_false]
 unfold W at h
 split at h
 ·rename_i e st' he
  rw[he]
  cases e with
  |normal=>
   rw[zdc] at h
   cases hr:zay st' fn.results with
   |none=>rw[hr] at h;exact h.elim
   |some u=>
    rw[hr] at h
    obtain⟨h1,h2⟩:=h
    simp only[hr,h1,h2]
  |ret=>
   rw[zf2] at h
   cases hr:zay st' fn.results with
   |none=>rw[hr] at h;exact h.elim
   |some u=>
    rw[hr] at h
    obtain⟨h1,h2⟩:=h
    simp only[hr,h1,h2]
  |exit i=>exact h.elim
  |panic v=>exact h.elim
 ·exact h.elim
theorem zam{n b:Nat}{fr:Fr}{hp:Heap}(h:hp.length=n):collect n b fr hp=hp:=by
 unfold collect
 split
 ·rw[<-h,List.take_length]
 ·rfl
theorem zdF{α:Type}{l r:List α}{i:Nat}(h:i<l.length):(l++r)[i]? =l[i]? :=List.getElem?_append_left h
theorem zdd{α:Type}(l:List α)(x:α):(l++[x])[l.length]? =some x:=by simp
theorem zpE{α:Type}{l r:List α}{i:Nat}(h:i<l.length)(x:α):(l++r).set i x=l.set i x++r:=by rw[List.set_append_left _ _ h]
theorem zl9{α:Type}{l:List α}{i:Nat}{x:α}(h:l[i]? =some x):i<l.length:=(List.getElem?_eq_some_iff.1 h).1
end Go.Am
namespace Go.Am
variable{Γ:Oracle} {Λ:zad} {b:Nat}
theorem zsM{x y:ACode}{st:St}{Q:AExit->St->Prop}(R:St->Prop)(h1:W Γ Λ b x st (seqK R Q))(h2:∀st',R st'->W Γ Λ b y st' Q):W Γ Λ b (.seq x y) st Q:=by
 rw[ztd]
 refine zpr h1 fun e st' h=> ?_
 cases e with
 |normal=>exact h2 st' h
 |_=>exact h
end Go.Am

namespace Go.Am
theorem zj8{b:Nat}{fr:Fr}(x:AObj):collect 1 b fr [x]=[x]:=zam rfl
theorem zj9{b:Nat}{fr:Fr}:collect 0 b fr []=[]:=zam rfl
def cmpI(x y:Int):Int:=if x<y then -1 else if y<x then 1 else 0
end Go.Am

namespace Go.Am
end Go.Am

namespace Go.Am
def Kept(p:Prop):Prop:=p
theorem Kept.out{p:Prop}(h:Kept p):p:=h
theorem Kept.mk{p:Prop}(h:p):Kept p:=h
end Go.Am
namespace Go.Am
theorem ziH{F:FuncId->Option AFn}{prim:FuncId->Option zcL}{f:FuncId}{fn:AFn}{args:List AV}{ps:List (Sh × PV)}{hp hp1 hp2:Heap}{v:AV}(hp0:prim f=none)(hf:F f=some fn)(hm:fn.heapMode=false)(hz:zan args hp=some (ps,hp1))
  (h:sem F prim .fn f (pvs ps) []=some (.ret v,hp2))(hr:fn.rcv=none:=by rfl):sem F prim .fn f args hp=some (.ret v,bif v.scalar then hp else hp1):=by
 rw[zjV] at h ⊢
 unfold zbk at h ⊢
 rw[hp0,hf] at h ⊢
 simp only[hr,Option.isSome_none,hm,Bool.false_eq_true,if_false,hz,zaf] at h ⊢
 split at h
 ·split at h
  ·cases h;simp_all
  ·cases h
 ·cases h
 ·cases h
end Go.Am

namespace Go.Am
theorem zfK{k:IntKind}(hk:0<k.bits)(x:Int):zb4 .shr k x 1=some (.int k (x / 2)):=by
 have h1:Nat.min (1:Int).toNat k.bits=1:=Nat.min_eq_left hk
 simp only[zb4,h1]
 rw[if_neg (by decide),Int.fdiv_eq_ediv_of_nonneg _ (by decide)]
 rfl
end Go.Am

namespace Go.Am
end Go.Am

namespace Go.Am
theorem za5{sh s:Sh}{hp:Heap}{r n i:Nat}(h:zl7 n hp[r]?)(hs:zsJ hp[r]? =sh):aload sh hp (.eptr s r n i 0)=toAV sh ((zlu hp[r]?)[i]?):=by
 obtain⟨s',es,fz,ho,rfl⟩:=zpB h
 simp only[ho,zsJ] at hs
 subst hs
 simp only[aload,ho,zlu,if_true,and_self]
 cases es[i]? <;> rfl
theorem zbZ{sh s:Sh}{b:Nat}{hp:Heap}{r n i:Nat}{p:PV}(h:zg4 sh n hp[r]?)(hi:i<n):zaH sh b hp [.eptr s r n i 0,.pv sh p]=some (.undef,hp.set r (.arr sh ((zlu hp[r]?).set i p) false)):=by
 obtain⟨es,ho,rfl⟩:=zl8 h
 have hf:AV.freeze deep (.pv sh p) hp=some (p,hp):=rfl
 simp[zaH,astore,AV.shp,hf,ho,zlu,hi]
end Go.Am

namespace Go.Am
attribute [go_sem] zj9 zj8
end Go.Am

/- Flat clauses as plain data. -/
namespace Go.Am
structure Pr where
 name:List UInt8
 arity:Int
 aux:Int
structure Gl where
 kind:Int
 pred:Pr
 args:List Tm
 var:Int
structure Fl where
 pred:Pr
 args:List Tm
 goals:List Gl
def Pr.pv(p:Pr):PV:=.agg [(none,.str p.name),(none,.int .i64 p.arity),(none,.int .i64 p.aux)]
def Gl.pv(g:Gl):PV:=.agg [(none,.int .i64 g.kind),(some 3,g.pred.pv),(none,.sl (some 4) (Tm.pvs g.args)),(none,.int .i64 g.var)]
def Gl.pvs(l:List Gl):List PV:=l.map Gl.pv
def Fl.pv(f:Fl):PV:=.agg [(some 3,f.pred.pv),(none,.sl (some 4) (Tm.pvs f.args)),(none,.sl (some 6) (Gl.pvs f.goals))]
def Fl.av(f:Fl):AV:=.pv (some 5) f.pv
def Pr.ok(p:Pr):Bool:=
 if p.aux=0 then decide ((p.name.length:Int)<=100) && decide (0<=p.arity) && decide (p.arity<=8)
 else decide (p.name=[]) && decide (1<=p.aux) && decide (p.aux<=1099511627776) && decide (0<=p.arity) && decide (p.arity<=4096)
def Pr.zero(p:Pr):Bool:=decide (p.name=[]) && decide (p.arity=0) && decide (p.aux=0)
def zde(left:Int):List Tm->Bool × Int
 |[]=>(true,left)
 |t::r=>if t.valid=true then if left - t.size<0 then(false,left - t.size) else zde (left - t.size) r else(false,left)
def Gl.bare(g:Gl):Bool:=g.pred.zero && decide ((g.args.length:Int)=0)
def Gl.step(called:Bool)(left:Int)(g:Gl):Option (Bool × Int):=
 if g.kind=1 then
  if(g.pred.ok && decide ((g.args.length:Int)=g.pred.arity) && decide (g.var=0))=true then match zde left g.args with
   |(true,l)=>some (true,l)
   |_=>none
  else none
 else if g.kind=2 then if(g.bare && decide (0<=g.var) && decide (g.var<=1099511627776) && !called)=true then some (called,left) else none
 else if g.kind=3\/g.kind=4 then if(g.bare && decide (0<=g.var) && decide (g.var<=1099511627776))=true then some (called,left) else none
 else if g.kind=5 then if(g.bare && decide (g.var=0))=true then some (called,left) else none
 else none
def Gl.steps:Bool->Int->List Gl->Bool
 |_,_,[]=>true
 |called,left,g::r=>match g.step called left with
  |some (c,l)=>Gl.steps c l r
  |none=>false
def Fl.valid(f:Fl):Bool:=
 f.pred.ok && decide ((f.args.length:Int)=f.pred.arity) && match zde 131072 f.args with
  |(true,l)=>Gl.steps false l f.goals
  |_=>false

theorem znB{left:Int}{l:List Tm}{i:Nat}{t:Tm}(h:l[i]? =some t):zde left (l.drop i)=if t.valid=true then if left - t.size<0 then(false,left - t.size) else zde (left - t.size) (l.drop (i+1)) else(false,left):=by
 obtain⟨h1,rfl⟩:=List.getElem?_eq_some_iff.1 h
 rw[List.drop_eq_getElem_cons h1,zde]
theorem ziI:∀(l:List Tm) (left:Int),(zde left l).2<=left
 |[],left=>Int.le_refl _
 |t::r,left=>by
  unfold zde
  split
  ·split
   ·show left - t.size<=left
    omega
   ·have:=ziI r (left - t.size)
    omega
  ·exact Int.le_refl _
theorem zgI:∀(l:List Tm) (left l':Int),0<=left->zde left l=(true,l')->0<=l'
 |[],left,l',h,e=>by cases e;exact h
 |t::r,left,l',h,e=>by
  unfold zde at e
  split at e
  ·split at e
   ·cases e
   ·exact zgI r _ l' (by omega) e
  ·cases e
theorem zfn{t:Tm}(h:t.valid=true):t.size<=2000:=by
 unfold Tm.valid at h
 simp only[Bool.and_eq_true,decide_eq_true_eq] at h
 exact h.1
end Go.Am
namespace Go.Am
theorem zgJ{hp hp':Heap}{r o:Nat}{s:Sh}{k:IntKind}{x:Int}(h:hp[r]? =some (.box s (.pv s (.int k x))))(h':hp'[r]? =some (.box s (.pv s (.int k x)))):zbD hp hp' (.ptr r o)=true:=by
 simp[zbD,h,h',AObj.beq,AV.beq,PV.beq]
theorem zrj{hp:Heap}{r:Nat}{x:AObj}(h:hp[r]? =some x):hp.set r x=hp:=by
 have hrl:=(List.getElem?_eq_some_iff.1 h).1
 apply List.ext_getElem?
 intro k
 by_cases e:k=r
 ·subst e;rw[List.getElem?_set_self hrl,h]
 ·rw[List.getElem?_set_ne (Ne.symm e)]
theorem zed(r o:Nat):zce [.ptr r o]=some (.ptr r o):=rfl
end Go.Am
namespace Go.Am
theorem ziJ{α:Type}{H:List α}(a c x:α):(H++[a]++[c]).set H.length x=H++[x]++[c]:=by simp
theorem ziK{α:Type}{H:List α}(x c:α):(H++[x]++[c])[H.length]? =some x:=by simp
theorem zdG{α:Type}{H:List α}{r:Nat}(h:r<H.length)(x c:α):(H++[x]++[c])[r]? =H[r]? :=by
 rw[List.append_assoc,List.getElem?_append_left h]
theorem zlw{α:Type}{H:List α}{r:Nat}(h:r<H.length)(x c z:α):(H++[x]++[c]).set r z=H.set r z++[x]++[c]:=by
 rw[List.append_assoc,List.set_append_left _ _ h,List.append_assoc]
theorem zka{n:Nat}{fr:Fr}{hp ext:Heap}(h:hp.length=n)(hf:fr.all (fun x=>x.2.refsIn.all (·<n))=true):collect n n fr (hp++ext)=hp:=by
 have h1:(hp++ext).take n=hp:=by rw[<-h];exact List.take_left
 have h2:((hp++ext).take n).drop n=[]:=by rw[h1,<-h];exact List.drop_length
 have h3:(((hp++ext).take n).drop n).all (fun o=>o.refs.all (fun q=>decide (q<n)))=true:=by rw[h2];rfl
 unfold collect
 rw[if_pos (by rw[hf,h3];rfl),h1]
end Go.Am
namespace Go.Am
theorem zbl(g:Gl):PV.part deep g.pv 0 none=some (.int .i64 g.kind):=rfl
theorem zfo(g:Gl):PV.part deep g.pv 1 (some 3)=some g.pred.pv:=rfl
theorem zd4(g:Gl):PV.part deep g.pv 2 none=some (.int .i64 g.pred.arity):=rfl
theorem zcK(g:Gl):PV.part deep g.pv 4 none=some (.sl (some 4) (Tm.pvs g.args)):=rfl
theorem zee(g:Gl):PV.part deep g.pv 5 none=some (.int .i64 g.var):=rfl
theorem zsN(f:Fl):PV.part deep f.pv 0 (some 3)=some f.pred.pv:=rfl
theorem zrk(f:Fl):PV.part deep f.pv 1 none=some (.int .i64 f.pred.arity):=rfl
theorem zgK(f:Fl):PV.part deep f.pv 3 none=some (.sl (some 4) (Tm.pvs f.args)):=rfl
theorem zdf(f:Fl):PV.part deep f.pv 4 none=some (.sl (some 6) (Gl.pvs f.goals)):=rfl
theorem zcS:zb5 [(none,.pv none (.str [])),(none,.pv none (.int .i64 0)),(none,.pv none (.int .i64 0))] [] []=some (.pv (some 3) (.agg [(none,.str []),(none,.int .i64 0),(none,.int .i64 0)])):=rfl
theorem zd5(s s':Sh)(p:Pr):sEqs false [1,0,0] [.pv s p.pv,.pv s' (.agg [(none,.str []),(none,.int .i64 0),(none,.int .i64 0)])]=some (.pv none (.bool p.zero)):=by
 unfold Pr.zero Pr.pv sEqs
 by_cases h1:p.name=[] <;> by_cases h2:p.arity=0 <;> by_cases h3:p.aux=0 <;> simp[zbj,h1,h2,h3]
theorem Gl.pvs_len(l:List Gl):(Gl.pvs l).length=l.length:=by simp[Gl.pvs]
theorem Gl.pvs_get{l:List Gl}{i:Nat}{g:Gl}(h:l[i]? =some g):(Gl.pvs l)[i]? =some g.pv:=by simp[Gl.pvs,h]
theorem zbp{fr:Fr}(a b c d:AObj)(hf:fr.all (fun x=>x.2.refsIn.all (·<2))=true)(ha:a.refs=[])(hb:b.refs=[]):collect 2 0 fr [a,b,c,d]=[a,b]:=by
 unfold collect
 rw[if_pos]
 ·rfl
 ·rw[hf]
  simp[ha,hb]
end Go.Am
namespace Go.Am
end Go.Am
namespace Go.Am
end Go.Am
namespace Go.Am
mutual
def Tm.occ:Tm->List Int
 | .mk k n _ as=>if k=0 then[n] else Tm.occs as
def Tm.occs:List Tm->List Int
 |[]=>[]
 |t::r=>t.occ++Tm.occs r
end
theorem Tm.occ_eq(t:Tm):t.occ=if t.kind=0 then[t.n] else Tm.occs t.args:=by cases t;rfl
theorem Tm.zue(x y:List Tm):Tm.occs (x++y)=Tm.occs x++Tm.occs y:=by
 induction x with
 |nil=>simp[Tm.occs]
 |cons t r ih=>simp[Tm.occs,ih,List.append_assoc]
theorem Tm.zui{l:List Tm}{i:Nat}{t:Tm}(h:l[i]? =some t):Tm.occs (l.take (i+1))=Tm.occs (l.take i)++t.occ:=by
 obtain⟨h1,rfl⟩:=List.getElem?_eq_some_iff.1 h
 rw[List.take_succ_eq_append_getElem h1,Tm.zue]
 simp[Tm.occs]
theorem Tm.occ_len:∀t:Tm,t.occ.length<=t.size:=by
 intro t
 induction t using Tm.zuc with
 |h t ih=>
  rw[Tm.occ_eq,Tm.size_eq]
  split
  ·simp
  ·have key:∀l:List Tm,(∀u∈l,u.occ.length<=u.size)->(Tm.occs l).length<=Tm.sizes l:=by
    intro l
    induction l with
    |nil=>intro _;simp[Tm.occs]
    |cons u r ih2=>
     intro hu
     have h1:=hu u (by simp)
     have h2:=ih2 fun v hv=>hu v (by simp[hv])
     simp only[Tm.occs,Tm.sizes,List.length_append]
     omega
   have:=key t.args ih
   omega
def zfL(c:Int)(v:Int):PV:=.agg [(none,.int .i64 v),(none,.int .i64 c)]
end Go.Am
namespace Go.Am
def Gl.op(g:Gl):Bool:=decide (g.kind=2) || decide (g.kind=3) || decide (g.kind=4)
def Gl.here(calls:Int)(g:Gl):List PV:=(Tm.occs g.args).map (zfL calls)++(if g.op=true then[zfL calls g.var] else[])
def Gl.next(calls:Int)(g:Gl):Int:=if g.kind=1 then calls+1 else calls
def Gl.plcs:Int->List Gl->List PV
 |_,[]=>[]
 |calls,g::r=>g.here calls++Gl.plcs (g.next calls) r
def Fl.plcs(f:Fl):List PV:=(Tm.occs f.args).map (zfL 0)++Gl.plcs 0 f.goals
theorem Tm.zuh(l:List Tm):(Tm.occs l).length<=Tm.sizes l:=by
 induction l with
 |nil=>simp[Tm.occs]
 |cons x y ih=>have:=x.occ_len;simp only[Tm.occs,Tm.sizes,List.length_append];omega
end Go.Am

/- Heaps of which a part is known. -/
namespace Go.Am
theorem getN{l xs:Heap}{n:Nat}(h:l.length=n)(k:Nat):(l++xs)[n+k]? =xs[k]? :=by
 rw[<-h,List.getElem?_append_right (by omega)]
 congr 1
 omega
theorem zeo{l xs:Heap}{n:Nat}(h:l.length=n):(l++xs)[n]? =xs[0]? :=getN h 0
theorem setN{l xs:Heap}{n:Nat}(h:l.length=n)(k:Nat)(x:AObj):(l++xs).set (n+k) x=l++xs.set k x:=by
 rw[<-h,List.set_append_right _ _ (by omega)]
 congr 2
 omega
theorem zeS{l xs:Heap}{n:Nat}(h:l.length=n)(x:AObj):(l++xs).set n x=l++xs.set 0 x:=setN h 0 x
theorem zt1{l xs:Heap}{n:Nat}(h:l.length=n)(k:Nat):(l++xs).take (n+k)=l++xs.take k:=by
 rw[<-h,List.take_append,List.take_of_length_le (by omega)]
 congr 2
 omega
theorem zr0{l xs:Heap}{n:Nat}(h:l.length=n):(l++xs).take n=l:=by rw[<-h];exact List.take_left
theorem zby{n b:Nat}(k:Nat){fr:Fr}{base xs:Heap}(hb:base.length=b)(hn:n=b+k)(ho:(xs.take k).all (fun o=>o.refs.all (fun q=>decide (q<n)))=true)(hf:fr.all (fun x=>x.2.refsIn.all (fun q=>decide (q<n)))=true):collect n b fr (base++xs)=base++xs.take k:=by
 have h1:(base++xs).take n=base++xs.take k:=by rw[hn];exact zt1 hb k
 have h2:((base++xs).take n).drop b=xs.take k:=by rw[h1,<-hb];exact List.drop_left
 unfold collect
 rw[if_pos (by rw[hf,h2,ho];rfl),h1]
theorem zkb{b:Nat}{fr:Fr}{base xs:Heap}(hb:base.length=b)(hf:fr.all (fun x=>x.2.refsIn.all (fun q=>decide (q<b)))=true):collect b b fr (base++xs)=base:=by
 have:=zby (n:=b) (b:=b) 0 (fr:=fr) (base:=base) (xs:=xs) hb rfl rfl hf
 rw[this,List.take_zero,List.append_nil]
theorem zgL(hp:Heap)(r:Nat):wBox none hp [.yield r]=some (.ptr hp.length 0,hp++[.box none (.yield r)]):=by
 simp only[wBox,AV.plain,AV.shp,and_self,if_true,AV.own,zaP]
theorem zbJ{Γ:Oracle}{b:Nat}{hp:Heap}{K:AV->Heap->Prop}{Kp:PV->Heap->Prop}{y:AV}{g:FuncId}{first captured as':List AV}(h:zaT y=some (g,first,captured)):opK (aOp Γ b .call (y::as') hp) K Kp=zna (Γ .fn g (first++as'++captured) hp) K Kp:=by
 have gen:zcH Γ hp (y::as')=(match Γ .fn g (first++as'++captured) hp with
   |some (.ret v,hp')=>some (OpRes.val v hp')
   |some (.panic v,hp')=>some (.panic v hp')
   |none=>none):=by
  cases y <;> first|(cases h;done)|(simp only[zcH,h];rfl)|(simp only[zcH,h])
 simp only[aOp,gen]
 cases Γ .fn g (first++as'++captured) hp with
 |none=>rfl
 |some r=>obtain⟨r,hp'⟩:=r;cases r <;> rfl
variable{F:FuncId->Option AFn} {prim:FuncId->Option zcL}
theorem zfS{α:Type}(N:Nat)(inv:Nat->α->Prop)(sti:Nat->α->St){b:Nat}{keep:List Nat}{c:ACode}{st:St}{Q:AExit->St->Prop}(a0:α)(h0:inv 0 a0/\(⟨st.fr.keep keep,st.hp⟩:St)=sti 0 a0)
  (h1:∀i a,i<N->inv i a->W (sem F prim) (sloop F prim) b c (sti i a) (seqK (fun st'=>∃a',inv (i+1) a'/\(⟨st'.fr.keep keep,collect st.hp.length b (st'.fr.keep keep) st'.hp⟩:St)=sti (i+1) a') Q))
  (h2:∀a,inv N a->W (sem F prim) (sloop F prim) b c (sti N a) (seqK (fun _=>False) Q)):W (sem F prim) (sloop F prim) b (.loop keep c) st Q:=by
 refine zbB (fun n s=>∃i a,n=N - i/\i<=N/\inv i a/\s=sti i a) (n:=N) ⟨0,a0,rfl,Nat.zero_le _,h0.1,h0.2⟩ ?_
 rintro n s ⟨i,a,hn,hi,hinv,rfl⟩
 by_cases h:i<N
 ·refine zpr (h1 i a h hinv) fun e st' he=> ?_
  cases e with
  |normal=>
   obtain⟨a',k1,k2⟩:=he
   exact⟨N - (i+1),by omega,i+1,a',rfl,by omega,k1,k2⟩
  |exit j=>exact he
  |ret=>exact he
  |panic v=>exact he
 ·obtain rfl:i=N:=by omega
  refine zpr (h2 a hinv) fun e st' he=> ?_
  cases e with
  |normal=>exact he.elim
  |exit j=>exact he
  |ret=>exact he
  |panic v=>exact he
theorem zdg{str ok:Bool}{sh:Sh}{zero:AV}{hp:Heap}{r:Nat}{s:Sh}{k v:PV}{es:List (PV × PV)}(ho:hp[r]? =some (.map sh es))(hf:afind str k es=some (some v)):zbs str sh zero ok hp [.map r,.pv s k]=some (bif ok then .tuple [.pv sh v,.pv none (.bool true)] else .pv sh v):=by
 simp[zbs,ho,hf]
theorem zdh{str ok:Bool}{sh:Sh}{zero:AV}{hp:Heap}{r:Nat}{s:Sh}{k:PV}{es:List (PV × PV)}(ho:hp[r]? =some (.map sh es))(hf:afind str k es=some none):zbs str sh zero ok hp [.map r,.pv s k]=some (bif ok then .tuple [zero,.pv none (.bool false)] else zero):=by
 simp[zbs,ho,hf]
theorem zgM{str:Bool}{sh:Sh}{hp:Heap}{r:Nat}{s:Sh}{k p:PV}{es es':List (PV × PV)}(ho:hp[r]? =some (.map sh es))(hf:aput str k p es=some es'):zcG str sh hp [.map r,.pv s k,.pv sh p]=some (.undef,hp.set r (.map sh es')):=by
 have h:AV.freeze deep (.pv sh p) hp=some (p,hp):=rfl
 simp[zcG,AV.shp,h,ho,hf]
theorem zlx{b r q:Nat}{hp:Heap}{old:AV}(h:b<=r)(ho:hp[r]? =some (.box none old)):zaH none b hp [.ptr r 0,.map q]=some (.undef,hp.set r (.box none (.map q))):=by
 simp[zaH,astore,ho,AV.plain,AV.shp,h,AV.own]
theorem zef{b r:Nat}{s s':Sh}{hp:Heap}{q v o n v' o' n':Nat}(h:r<b)(ho:hp[r]? =some (.box none (.sl s q v o n))):zaH none b hp [.ptr r 0,.sl s' q v' o' n']=some (.undef,hp.set r (.box none (.sl s' q v' o' n'))):=by
 simp[zaH,astore,ho,AV.plain,AV.shp,Nat.not_le.2 h,AV.refsIn]
end Go.Am

/- Loops over functions: what a body of two pieces comes to, and a round. -/
namespace Go.Am
variable{F:FuncId->Option AFn} {prim:FuncId->Option zcL}
theorem znC{Γ:Oracle}{self:FuncId}{fa:AArg}{ps env:List Nat}{st:St}{ds:List AV}{g:FuncId}{fs cs:List AV}{u:AV}{hp':Heap}{k:FuncId}{v:AV}(ha:st.fr.arg fa=some v)(hcal:zaT v=some (g,fs,cs))
  (h:Γ .seq g (fs++[.yield st.hp.length]++cs) (st.hp++[.loop self ps (st.fr.keep env) false])=some (.ret u,hp'))(hl:zdn hp'[st.hp.length]? =some k):atop Γ (.range self fa ps env) st ds=some (.normal,⟨st.fr,hp'.take st.hp.length⟩,ds):=by
 simp only[atop,ha,hcal,h,hl]
theorem zpF{f:FuncId}{fn:AFn}{r:Nat}{ps:List Nat}{env:List (Nat × AV)}{rd:ARound}{as:List AV}{hp hp':Heap}(hr:hp[r]? =some (.loop f ps env false))(has:as.length=ps.length)(hf:F f=some fn)(hrd:zdq ps fn.rounds=some rd)
  (h:W (sem F prim) (sloop F prim) hp.length rd.assign ⟨zeh ps as++env,hp⟩ (seqK (fun st1=>(∃k,zdn st1.hp[r]? =some k)/\W (sem F prim) (sloop F prim) hp.length rd.body ⟨st1.fr,st1.hp.set r (.loop f ps env true)⟩ (seqK (fun st2=>(st2.hp.set r (.loop f ps env false)).take hp.length=hp') (fun _ _=>False))) (fun _ _=>False))):
  sem F prim .rnd f (.yield r::as) hp=some (.ret (.pv none (.bool true)),hp'):=by
 rw[zss]
 simp only[around,hr,has,and_self,if_true,hf,hrd]
 unfold W at h
 split at h
 ·rename_i e st1 he
  rw[he]
  cases e with
  |normal=>
   obtain⟨⟨k,hk⟩,h2⟩:=h
   split at h2
   ·rename_i e2 st2 he2
    cases e2 with
    |normal=>
     have h3:(st2.hp.set r (.loop f ps env false)).take hp.length=hp':=h2
     simp only[hk,he2,h3]
    |exit i=>exact h2.elim
    |ret=>exact h2.elim
    |panic v=>exact h2.elim
   ·exact h2.elim
  |exit i=>exact h.elim
  |ret=>exact h.elim
  |panic v=>exact h.elim
 ·exact h.elim
end Go.Am

/- The standard order of terms is an order. -/
namespace Go.Am
open Lib (compareBytes)
theorem Tm.ext{a b:Tm}(h1:a.kind=b.kind)(h2:a.n=b.n)(h3:a.name=b.name)(h4:a.args=b.args):a=b:=by
 cases a;cases b;simp_all[Tm.kind,Tm.n,Tm.name,Tm.args]
end Go.Am

/- Sorting: insertion, merging, and that both come to the same. -/
namespace Go.Am
section
variable{α:Type} (c:α->α->Int)
structure Cmp:Prop where
 neg:∀x y,c y x= - c x y
 trans:∀{x y z},c x y<=0->c y z<=0->c x z<=0

def mrg:List α->List α->List α
 |[],B=>B
 |a::A,B=>go a A (mrg A) B
where
 go (a:α) (A:List α) (rest:List α->List α):List α->List α
 |[]=>a::A
 |b::B=>if c b a<0 then b::go a A rest B else a::rest (b::B)
theorem zep(B:List α):mrg c [] B=B:=rfl
theorem zas:∀A:List α,mrg c A []=A
 |[]=>rfl
 |_::_=>rfl
theorem zaE(a:α)(A:List α)(b:α)(B:List α):mrg c (a::A) (b::B)=if c b a<0 then b::mrg c (a::A) B else a::mrg c A (b::B):=rfl
def Srt(l:List α):Prop:=l.Pairwise fun x y=>c x y<=0

variable{c}
theorem Cmp.self(h:Cmp c)(x:α):c x x=0:=by have:=h.neg x x;omega
theorem Cmp.lt_of_lt_le(h:Cmp c){x y z:α}(h1:c x y<0)(h2:c y z<=0):c x z<0:=by
 have h3:=h.neg x z
 by_cases h4:c x z<0
 ·exact h4
 ·have h5:c z x<=0:=by omega
  have h6:=h.trans h2 h5
  have:=h.neg x y
  omega
theorem Cmp.lt_of_le_lt(h:Cmp c){x y z:α}(h1:c x y<=0)(h2:c y z<0):c x z<0:=by
 have h3:=h.neg x z
 by_cases h4:c x z<0
 ·exact h4
 ·have h5:c z x<=0:=by omega
  have h6:=h.trans h5 h1
  have:=h.neg y z
  omega
theorem Srt.tail{a:α}{l:List α}(h:Srt c (a::l)):Srt c l:=(List.pairwise_cons.1 h).2
theorem Srt.head{a:α}{l:List α}(h:Srt c (a::l)):∀x∈l,c a x<=0:=(List.pairwise_cons.1 h).1
theorem zhC:∀(A B:List α),(mrg c A B).length=A.length+B.length
 |[],B=>by simp[mrg]
 |a::A,B=>by
  induction B with
  |nil=>simp[zas]
  |cons b B ih=>
   rw[zaE]
   split
   ·simp[ih];omega
   ·simp[zhC A (b::B)];omega
theorem mem_mrg{x:α}:∀{A B:List α},x∈mrg c A B↔x∈A\/x∈B
 |[],B=>by simp[mrg]
 |a::A,B=>by
  induction B with
  |nil=>simp[zas]
  |cons b B ih=>
   rw[zaE]
   split
   ·rw[List.mem_cons,ih];simp[List.mem_cons];exact⟨fun h=>by rcases h with h|(h|h)|h <;> simp[h],fun h=>by rcases h with(h|h)|h|h <;> simp[h]⟩
   ·rw[List.mem_cons,mem_mrg];simp[List.mem_cons];exact⟨fun h=>by rcases h with h|h|h|h <;> simp[h],fun h=>by rcases h with(h|h)|h|h <;> simp[h]⟩
theorem zma:∀(A B:List α),(mrg c A B).Perm (A++B)
 |[],B=>by simp[mrg]
 |a::A,B=>by
  induction B with
  |nil=>simp[zas]
  |cons b B ih=>
   rw[zaE]
   split
   ·exact(List.Perm.cons b ih).trans (List.perm_middle (l₁:=a::A) (l₂:=B) (a:=b)).symm
   ·exact List.Perm.cons a (zma A (b::B))
theorem zpG(h:Cmp c):∀{A B:List α},Srt c A->Srt c B->Srt c (mrg c A B)
 |[],B,_,hB=>hB
 |a::A,B,hA,hB=>by
  induction B with
  |nil=>rw[zas];exact hA
  |cons b B ih=>
   rw[zaE]
   split
   ·rename_i hlt
    refine List.pairwise_cons.2 ⟨fun x hx=> ?_,ih hB.tail⟩
    rcases mem_mrg.1 hx with hx|hx
    ·rcases List.mem_cons.1 hx with rfl|hx
     ·omega
     ·exact h.trans (by omega) (hA.head x hx)
    ·exact hB.head x hx
   ·rename_i hlt
    refine List.pairwise_cons.2 ⟨fun x hx=> ?_,zpG h hA.tail hB⟩
    have hab:c a b<=0:=by have:=h.neg a b;omega
    rcases mem_mrg.1 hx with hx|hx
    ·exact hA.head x hx
    ·rcases List.mem_cons.1 hx with rfl|hx
     ·exact hab
     ·exact h.trans hab (hB.head x hx)
theorem zfp(h:Cmp c):∀{A B:List α},(∀a∈A,∀b∈B,c a b<=0)->mrg c A B=A++B
 |[],B,_=>rfl
 |a::A,[],_=>by rw[zas];simp
 |a::A,b::B,hh=>by
  rw[zaE,if_neg (by have:=hh a (by simp) b (by simp);have:=h.neg a b;omega)]
  rw[zfp h fun x hx y hy=>hh x (by simp[hx]) y hy]
  rfl
theorem zdH(h:Cmp c):∀{A U V B:List α},(∀a∈A,∀b∈B,c a b<=0)->(∀u∈U,∀v∈V,c v u<0)->mrg c (A++U) (V++B)=mrg c A V++mrg c U B
 |[],U,V,B,_,h2=>by
  rw[List.nil_append,zep]
  induction V with
  |nil=>simp
  |cons v V ih=>
   cases U with
   |nil=>simp[zep]
   |cons u U=>
    rw[List.cons_append,zaE,if_pos (h2 u (by simp) v (by simp)),ih fun x hx y hy=>h2 x hx y (by simp[hy])]
    rfl
 |a::A,U,V,B,h1,h2=>by
  induction V with
  |nil=>
   rw[List.nil_append,zas]
   cases B with
   |nil=>simp[zas]
   |cons b B=>
    rw[List.cons_append,zaE,if_neg (by have:=h1 a (by simp) b (by simp);have:=h.neg a b;omega)]
    have:=zdH h (A:=A) (U:=U) (V:=[]) (B:=b::B) (fun x hx y hy=>h1 x (by simp[hx]) y hy) (fun _ _ _ hv=>by simp at hv)
    rw[List.nil_append,zas] at this
    rw[this]
    rfl
  |cons v V ih=>
   rw[List.cons_append,List.cons_append,zaE,zaE]
   split
   ·have:=ih fun x hx y hy=>h2 x hx y (by simp[hy])
    rw[List.cons_append] at this
    rw[this]
    rfl
   ·have:=zdH h (A:=A) (U:=U) (V:=v::V) (B:=B) (fun x hx y hy=>h1 x (by simp[hx]) y hy) h2
    rw[List.cons_append] at this
    rw[this]
    rfl

def insC(c:α->α->Int)(t:α):List α->List α
 |[]=>[t]
 |x::l=>if c t x<0 then t::x::l else x::insC c t l
def isort(c:α->α->Int)(l:List α):List α:=l.foldl (fun s t=>insC c t s) []
theorem zf5(t:α):∀l:List α,insC c t l=mrg c l [t]
 |[]=>rfl
 |x::l=>by
  rw[zaE,insC]
  split
  ·rw[zas]
  ·rw[zf5 t l]
theorem zrl(h:Cmp c){l:List α}(hs:Srt c l)(t:α):Srt c (insC c t l):=by
 rw[zf5]
 exact zpG h hs (List.pairwise_singleton _ _)
theorem zeT(h:Cmp c):∀(A B C:List α),Srt c A->Srt c B->Srt c C->mrg c (mrg c A B) C=mrg c A (mrg c B C)
 |[],B,C,_,_,_=>by simp[zep]
 |a::A,[],C,_,_,_=>by simp[zas,zep]
 |a::A,b::B,[],_,_,_=>by simp[zas]
 |a::A,b::B,k::C,hA,hB,hC=>by
  have e1:=zeT h A (b::B) (k::C) hA.tail hB hC
  have e2:=zeT h (a::A) B (k::C) hA hB.tail hC
  have e3:=zeT h (a::A) (b::B) C hA hB hC.tail
  have n1:=h.neg a b
  have n2:=h.neg b k
  have n3:=h.neg a k
  rw[zaE c a A b B,zaE c b B k C]
  by_cases hba:c b a<0
  ·rw[if_pos hba]
   by_cases hkb:c k b<0
   ·have hka:c k a<0:=h.lt_of_lt_le hkb (by omega)
    rw[if_pos hkb,zaE,if_pos hkb,zaE,if_pos hka,<-e3,zaE c a A b B,if_pos hba]
   ·rw[if_neg hkb,zaE,if_neg hkb,zaE,if_pos hba,e2]
  ·rw[if_neg hba]
   by_cases hkb:c k b<0
   ·rw[if_pos hkb,zaE,zaE]
    by_cases hka:c k a<0
    ·rw[if_pos hka,if_pos hka,<-e3,zaE c a A b B,if_neg hba]
    ·rw[if_neg hka,if_neg hka,e1,zaE c b B k C,if_pos hkb]
   ·have hka:¬c k a<0:=fun hka=>by
     have:=h.lt_of_lt_le hka (show c a b<=0 by omega)
     omega
    rw[if_neg hkb,zaE,if_neg hka,zaE,if_neg hba,e1,zaE c b B k C,if_neg hkb]
termination_by A B C=>A.length+B.length+C.length
theorem znD(l:List α)(t:α):isort c (l++[t])=insC c t (isort c l):=by simp[isort]
theorem zdI(h:Cmp c):∀(l A:List α),Srt c A->l.foldl (fun s t=>insC c t s) A=mrg c A (isort c l)/\Srt c (l.foldl (fun s t=>insC c t s) A)
 |[],A,hA=>⟨by simp[isort,zas],hA⟩
 |t::l,A,hA=>by
  have h1:=zdI h l (insC c t A) (zrl h hA t)
  have h2:=zdI h l [t] (List.pairwise_singleton _ _)
  refine⟨?_,h1.2⟩
  have e:isort c (t::l)=l.foldl (fun s t=>insC c t s) [t]:=rfl
  have hs:Srt c (isort c l):=(zdI h l [] List.Pairwise.nil).2
  rw[List.foldl_cons,h1.1,e,h2.1,zf5,zeT h A [t] _ hA (List.pairwise_singleton _ _) hs]
theorem zcT(h:Cmp c)(l:List α):Srt c (isort c l):=(zdI h l [] List.Pairwise.nil).2
theorem zfM(h:Cmp c)(l r:List α):isort c (l++r)=mrg c (isort c l) (isort c r):=by
 have:=(zdI h r (isort c l) (zcT h l)).1
 rw[<-this]
 simp[isort]
theorem zcc(l:List α):(isort c l).Perm l:=by
 have:∀(l A:List α),(l.foldl (fun s t=>insC c t s) A).Perm (A++l):=by
  intro l
  induction l with
  |nil=>intro A;simp
  |cons t l ih=>
   intro A
   refine(ih _).trans ?_
   show(insC c t A++l).Perm _
   rw[zf5]
   refine((zma A [t]).append_right l).trans ?_
   simp
 simpa[isort] using this l []
theorem zhD{t:α}:∀{A B:List α},(∀x∈A,¬c t x<0)->(∀x∈B,c t x<0)->insC c t (A++B)=A++t::B
 |[],[],_,_=>rfl
 |[],b::B,_,h=>by rw[List.nil_append,insC,if_pos (h b (by simp))];rfl
 |a::A,B,h,h'=>by
  rw[List.cons_append,insC,if_neg (h a (by simp)),zhD (fun x hx=>h x (by simp[hx])) h']
  rfl
theorem zaq(l:List α):(isort c l).length=l.length:=(zcc l).length_eq
end
theorem zeq{α:Type}(l:List α):l=[]\/∃(r:List α) (x:α),l=r++[x]:=by
 rcases List.eq_nil_or_concat l with h|⟨r,x,h⟩
 ·exact .inl h
 ·exact .inr ⟨r,x,by simpa using h⟩
theorem zdJ{α:Type}{L R:List α}{x:α}{i:Nat}(h:i=L.length):(L++x::R)[i]? =some x:=by
 subst h;simp
theorem zdK{α:Type}{L R:List α}{x y:α}{i:Nat}(h:i=L.length):(L++x::R).set i y=L++y::R:=by
 subst h;simp
end Go.Am
namespace Go.Am
def at'(xs:List PV)(i:Nat):PV:=(xs[i]?).getD .nilptr
theorem zer{xs:List PV}{i:Nat}(h:i<xs.length):xs[i]? =some (at' xs i):=by
 unfold at'
 rw[List.getElem?_eq_getElem h]
 rfl
theorem zr1{P A R:List PV}{a i:Nat}(hP:P.length=a)(hi:i<A.length):at' (P++A++R) (a+i)=at' A i:=by
 unfold at'
 rw[List.append_assoc,List.getElem?_append_right (by omega),List.getElem?_append_left (by omega)]
 congr 2
 omega
theorem zcD{c:PV->PV->Int}(hC:Cmp c){A:List PV}(hs:Srt c A){i j:Nat}(hij:i<=j)(hj:j<A.length):c (at' A i) (at' A j)<=0:=by
 rcases Nat.eq_or_lt_of_le hij with rfl|h
 ·have:=hC.self (at' A i);omega
 ·have h1:at' A i=A[i]:=by unfold at';rw[List.getElem?_eq_getElem (by omega)];rfl
  have h2:at' A j=A[j]:=by unfold at';rw[List.getElem?_eq_getElem hj];rfl
  rw[h1,h2]
  exact List.pairwise_iff_getElem.1 hs i j (by omega) hj h
theorem zdp{A:List PV}{x:PV}(h:x∈A):∃i,i<A.length/\x=at' A i:=by
 obtain⟨i,hi⟩:=List.mem_iff_getElem?.1 h
 refine⟨i,(List.getElem?_eq_some_iff.1 hi).1,?_⟩
 unfold at'
 rw[hi]
 rfl
theorem ztw{A:List PV}{i:Nat}(h:i<A.length):at' A i∈A:=List.mem_of_getElem? (zer h)
theorem zfq{A:List PV}{k i:Nat}(h:i<k):at' (A.take k) i=at' A i:=by
 unfold at';rw[List.getElem?_take_of_lt h]
theorem zfr{A:List PV}{k i:Nat}:at' (A.drop k) i=at' A (k+i):=by
 unfold at';rw[List.getElem?_drop]
end Go.Am
namespace Go.Am
section
variable{α:Type} {c:α->α->Int}
inductive Blk(c:α->α->Int)(n:Nat):List α->List α->Prop
 |last (x:List α) (h:x.length<=n):Blk c n x (isort c x)
 |cons (x r d:List α) (h:x.length=n) (k:Blk c n r d):Blk c n (x++r) (isort c x++d)
inductive Full(c:α->α->Int)(n:Nat):List α->List α->Prop
 |nil:Full c n [] []
 |snoc (x r d:List α) (h:x.length=n) (k:Full c n r d):Full c n (r++x) (d++isort c x)
theorem Full.blk{n:Nat}{r d r' d':List α}(h:Full c n r d)(k:Blk c n r' d'):Blk c n (r++r') (d++d'):=by
 induction h generalizing r' d' with
 |nil=>exact k
 |snoc x r d hx _ ih=>
  have:=ih (.cons x r' d' hx k)
  simpa using this
theorem Full.length{n:Nat}{r d:List α}(h:Full c n r d):d.length=r.length:=by
 induction h with
 |nil=>rfl
 |snoc x r d hx _ ih=>simp[ih,zaq]
theorem Full.mem{n:Nat}{r d:List α}(h:Full c n r d){x:α}:x∈d↔x∈r:=by
 induction h with
 |nil=>simp
 |snoc y r d hx _ ih=>simp[ih,(zcc y).mem_iff]
theorem Blk.length{n:Nat}{r d:List α}(h:Blk c n r d):d.length=r.length:=by
 induction h with
 |last x h=>exact zaq x
 |cons x r d hx _ ih=>simp[ih,zaq]
theorem Blk.mem{n:Nat}{r d:List α}(h:Blk c n r d){x:α}:x∈d↔x∈r:=by
 induction h with
 |last y h=>exact(zcc y).mem_iff
 |cons y r d hx _ ih=>simp[ih,(zcc y).mem_iff]
theorem Blk.whole{n:Nat}{r d:List α}(h:Blk c n r d)(hr:r.length<=n):d=isort c r:=by
 cases h with
 |last x h=>rfl
 |cons x r d hx k=>
  have:r=[]:=List.length_eq_zero_iff.1 (by simp at hr;omega)
  subst this
  have hd:d=[]:=List.length_eq_zero_iff.1 (by rw[k.length];rfl)
  subst hd
  simp
theorem Blk.two{n:Nat}{r d:List α}(h:Blk c n r d)(hn:0<n)(hr:n<r.length):∃x y r2 d2,r=x++y++r2/\d=isort c x++isort c y++d2/\x.length=n/\y.length<=n/\0<y.length/\Blk c n r2 d2/\(y.length<n->r2=[]):=by
 cases h with
 |last x h=>omega
 |cons x r1 d1 hx k=>
  cases k with
  |last _ hy=>exact⟨x,r1,[],[],by simp,by simp,hx,hy,by simp at hr;omega,.last [] (by simp),fun _=>rfl⟩
  |cons y r2 d2 hy k=>exact⟨x,y,r2,d2,by simp,by simp,hx,by omega,by omega,k,fun h=>by omega⟩
end
end Go.Am

/- Terms out of values, and comparing by what they stand for. -/
namespace Go.Am
end Go.Am

/- What a law is given, as values without references. -/
namespace Go.Am
variable{P:Program} {H:Type} {enc:TypeId × Value->H} {w:World} {I:Nat->Prop}

theorem zeU{α β:Type}{g:α->Option β}:∀{l:List α} {xs:List β},l.mapM g=some xs->l.length=xs.length/\∀(i:Nat) (a:α) (x:β),l[i]? =some a->xs[i]? =some x->g a=some x
 |[],xs,h=>by
  simp at h
  subst h
  exact⟨rfl,fun i a x h=>by simp at h⟩
 |a::r,xs,h=>by
  rw[List.mapM_cons] at h
  cases ha:g a with
  |none=>rw[ha] at h;cases h
  |some y=>
   rw[ha] at h
   cases hr:r.mapM g with
   |none=>rw[hr] at h;cases h
   |some ys=>
    rw[hr] at h
    cases h
    obtain⟨h1,h2⟩:=zeU hr
    refine⟨by simp[h1],fun i b x hb hx=> ?_⟩
    cases i with
    |zero=>simp at hb hx;subst hb;subst hx;exact ha
    |succ i=>exact h2 i b x (by simpa using hb) (by simpa using hx)

def zd9(sh:Sh)(cs:List Value):Value:=
 match sh with
 |none=>cs.headD .nilIface
 |some _=>.agg cs.toArray

def zd6(P:Program)(n:Nat):Nat->List Field->Bool
 |o,[]=>decide (o=n)
 |o,f::r=>decide (f.offset=o) && okT P f.type && zd6 P n (o+(shOf P f.type).size) r
def zb9(P:Program)(g:TypeId->DataW H->Option PV):List Field->List (DataW H)->Option (List (Sh × PV))
 |[],[]=>some []
 |f::fs,d::ds=>match g f.type d with
  |none=>none
  |some p=>match zb9 P g fs ds with
   |some l=>some ((shOf P f.type,p)::l)
   |none=>none
 |_,_=>none
def zdi(g:DataW H->Option PV):List (DataW H)->Option (List PV)
 |[]=>some []
 |d::ds=>match g d with
  |none=>none
  |some p=>match zdi g ds with
   |some l=>some (p::l)
   |none=>none
def zdL(P:Program):Nat->TypeId->DataW H->Option PV
 |0,_,_=>none
 |n+1,t,d=>match P.underlying t,d with
  |some .bool,.lit (.bool b)=>some (.bool b)
  |some (.int k),.lit (.int k' n)=>if k'=k/\(Lit.int k n).wf=true then some (.int k n) else none
  |some .string,.lit (.string l)=>some (.str l)
  |some (.slice e),.nil=>some (.sl (shOf P e) [])
  |some (.slice e),.slice es _=>if okT P e=true then match zdi (zdL P n e) es with
    |some l=>some (.sl (shOf P e) l)
    |none=>none
   else none
  |some (.struct fs),.agg parts=>if zd6 P (P.cellsOf t) 0 fs.toList=true then match zb9 P (zdL P n) fs.toList parts with
    |some l=>some (.agg l)
    |none=>none
   else none
  |_,_=>none

theorem zkc{t:TypeId}(h:okT P t=true):P.cellsOf t=(shOf P t).size/\0<P.cellsOf t:=by
 unfold okT at h
 split at h
 ·rename_i i _ hi _
  simp only[Bool.and_eq_true,beq_iff_eq,decide_eq_true_eq] at h
  have:P.cellsOf t=i.size:=by simp[Program.cellsOf,hi]
  omega
 ·cases h

theorem zhE{base:Nat}{a:Addr}{n:Nat}{l:List Value}(h:w.cells? base a n=some l)(hn:0<n):a.spot=none/\∃cs t fr,w.heap[a.block]? =some (.cells cs t fr)/\l=(cs.toList.drop a.off).take n/\l.length=n:=by
 unfold World.cells? at h
 split at h
 ·obtain⟨h1,h2⟩:=zeU h
  rw[List.length_range] at h1
  have rd:∀i,i<n->∃v,l[i]? =some v/\w.cell? (a.add i)=some v:=by
   intro i hi
   have hl:l[i]? =some l[i]:=List.getElem?_eq_getElem (by omega)
   exact⟨l[i],hl,h2 i i l[i] (by simp[hi]) hl⟩
  obtain⟨v0,hv0,hc0⟩:=rd 0 hn
  unfold World.cell? at hc0
  split at hc0
  ·rename_i cs t fr hb
   split at hc0
   ·cases hc0
   ·rename_i hsp
    have hb':w.heap[a.block]? =some (.cells cs t fr):=hb
    have hsp':a.spot=none:=by simpa[Addr.add] using hsp
    refine⟨hsp',cs,t,fr,hb',?_,h1.symm⟩
    apply List.ext_getElem?
    intro i
    by_cases hi:i<n
    ·obtain⟨v,e1,e2⟩:=rd i hi
     rw[e1]
     have ea:a.add i=⟨a.block,a.off+i,none⟩:=by
      unfold Addr.add
      split
      ·rename_i h0;subst h0;cases a;simp_all
      ·rfl
     rw[ea] at e2
     simp only[World.cell?,hb',Option.isSome_none,Bool.false_eq_true,if_false] at e2
     rw[List.getElem?_take_of_lt hi,List.getElem?_drop]
     simpa using e2.symm
    ·rw[List.getElem?_eq_none (by omega),List.getElem?_eq_none (by simp;omega)]
  ·cases hc0
 ·cases h

theorem zkd{g:TypeId->List Value->Option (DataW H × List MemPlace)}{f:TypeId->DataW H->Option PV}
  (hg:∀t cs d ps p,g t cs=some (d,ps)->okT P t=true->f t d=some p->PR w I p (zd9 (shOf P t) cs)/\vshp (zd9 (shOf P t) cs)=shOf P t/\(zd9 (shOf P t) cs).cells.toList=cs)(cs:List Value):
  ∀(fs:List Field) (o:Nat) (xs:List (DataW H × List MemPlace)) (l:List (Sh × PV)),zd6 P cs.length o fs=true->fs.mapM (fun fd=>g fd.type ((cs.drop fd.offset).take (P.cellsOf fd.type)))=some xs->zb9 P f fs (xs.map (·.1))=some l->
  ∃vs:List Value,l.length=vs.length/\(∀(i:Nat) (x:Sh × PV) (v:Value),l[i]? =some x->vs[i]? =some v->vshp v=x.1)/\(∀(i:Nat) (x:Sh × PV) (v:Value),l[i]? =some x->vs[i]? =some v->PR w I x.2 v)/\cellsOf vs=cs.drop o
 |[],o,xs,l,hok,hm,hp=>by
  simp[zd6] at hok
  simp at hm
  subst hm
  simp[zb9] at hp
  subst hp
  exact⟨[],rfl,fun i x v h=>by simp at h,fun i x v h=>by simp at h,by simp[cellsOf,hok]⟩
 |fd::r,o,xs,l,hok,hm,hp=>by
  simp only[zd6,Bool.and_eq_true,decide_eq_true_eq] at hok
  obtain⟨⟨h1,h2⟩,h3⟩:=hok
  rw[List.mapM_cons] at hm
  cases ha:g fd.type ((cs.drop fd.offset).take (P.cellsOf fd.type)) with
  |none=>rw[ha] at hm;cases hm
  |some y=>
   rw[ha] at hm
   cases hr:r.mapM (fun fd=>g fd.type ((cs.drop fd.offset).take (P.cellsOf fd.type))) with
   |none=>rw[hr] at hm;cases hm
   |some ys=>
    rw[hr] at hm
    cases hm
    simp only[List.map_cons,zb9] at hp
    split at hp
    ·cases hp
    ·rename_i p hfp
     split at hp
     ·rename_i l' hl'
      cases hp
      obtain⟨k1,k2,k3⟩:=hg _ _ y.1 y.2 p ha h2 hfp
      obtain⟨vs,e1,e2,e3,e4⟩:=zkd hg cs r _ ys l' h3 hr hl'
      refine⟨zd9 (shOf P fd.type) ((cs.drop fd.offset).take (P.cellsOf fd.type))::vs,by simp[e1],?_,?_,?_⟩
      ·intro i x v hx hv
       cases i with
       |zero=>simp at hx hv;subst hx;subst hv;exact k2
       |succ i=>exact e2 i x v (by simpa using hx) (by simpa using hv)
      ·intro i x v hx hv
       cases i with
       |zero=>simp at hx hv;subst hx;subst hv;exact k1
       |succ i=>exact e3 i x v (by simpa using hx) (by simpa using hv)
      ·simp only[cellsOf,List.flatMap_cons,k3]
       have e4':List.flatMap (fun v=>v.cells.toList) vs=cs.drop (o+(shOf P fd.type).size):=e4
       rw[e4',h1,(zkc h2).1,<-List.drop_drop,List.take_append_drop]
     ·cases hp

theorem zmb{f:DataW H->Option PV}{g:Nat->Option (DataW H × List MemPlace)}{R:Nat->PV->Prop}
  (hg:∀i d ps p,g i=some (d,ps)->f d=some p->R i p):
  ∀(is:List Nat) (xs:List (DataW H × List MemPlace)) (l:List PV),is.mapM g=some xs->zdi f (xs.map (·.1))=some l->
  l.length=is.length/\∀(k i:Nat) (p:PV),is[k]? =some i->l[k]? =some p->R i p
 |[],xs,l,hm,hp=>by
  simp at hm
  subst hm
  simp[zdi] at hp
  subst hp
  exact⟨rfl,fun k i p h=>by simp at h⟩
 |i::r,xs,l,hm,hp=>by
  rw[List.mapM_cons] at hm
  cases ha:g i with
  |none=>rw[ha] at hm;cases hm
  |some y=>
   rw[ha] at hm
   cases hr:r.mapM g with
   |none=>rw[hr] at hm;cases hm
   |some ys=>
    rw[hr] at hm
    cases hm
    simp only[List.map_cons,zdi] at hp
    split at hp
    ·cases hp
    ·rename_i p hfp
     split at hp
     ·rename_i l' hl'
      cases hp
      obtain⟨e1,e2⟩:=zmb hg r ys l' hr hl'
      refine⟨by simp[e1],fun k j q hk hq=> ?_⟩
      cases k with
      |zero=>simp at hk hq;subst hk;subst hq;exact hg i y.1 y.2 p ha hfp
      |succ k=>exact e2 k j q (by simpa using hk) (by simpa using hq)
     ·cases hp

theorem zhF(f:Nat->Value)(l:List Value)(o n:Nat):∀m:Nat,(∀i,i<m->(f i).cells.toList=(l.drop (o+i*n)).take n)->cellsOf ((List.range m).map f)=(l.drop o).take (m*n)
 |0,_=>by simp[cellsOf]
 |m+1,h=>by
  have ih:=zhF f l o n m fun i hi=>h i (by omega)
  unfold cellsOf at ih ⊢
  rw[List.range_succ,List.map_append,List.flatMap_append,ih]
  simp only[List.map_cons,List.map_nil,List.flatMap_cons,List.flatMap_nil,List.append_nil]
  rw[h m (by omega),Nat.add_mul,Nat.one_mul,List.take_add,List.drop_drop]

theorem zsO(hI:∀b,I b){base:Nat}{spare:Nat->Bool}{held:Bool}:∀(fuel:Nat) (n:Nat) (t:TypeId) (cs:List Value) (d:DataW H) (ps:List MemPlace) (p:PV),DataW.trod enc P w base spare held fuel t cs=some (d,ps)->okT P t=true->zdL P n t d=some p->
  PR w I p (zd9 (shOf P t) cs)/\vshp (zd9 (shOf P t) cs)=shOf P t/\(zd9 (shOf P t) cs).cells.toList=cs:=by
 intro fuel
 induction fuel with
 |zero=>intro n t cs d ps p h;cases h
 |succ fuel ih=>
  intro n t cs d ps p h hok hp
  cases n with
  |zero=>cases hp
  |succ n=>
  simp only[zdL] at hp
  cases hu:P.underlying t with
  |none=>rw[hu] at hp;cases hp
  |some u=>
   rw[hu] at hp
   unfold DataW.trod at h
   rw[hu] at h
   cases u with
   |bool=>
    have hs:shOf P t=none:=by unfold shOf;rw[hu]
    rw[hs]
    simp only at h hp
    split at h <;> first|contradiction|(exfalso;clear ih;simp_all;done)|skip
    ·cases h
     cases hp
     exact⟨.bool _,rfl,rfl⟩
   |int k=>
    have hs:shOf P t=none:=by unfold shOf;rw[hu]
    rw[hs]
    simp only at h hp
    split at h <;> first|contradiction|(exfalso;clear ih;simp_all;done)|skip
    ·rename_i e
     split at h
     ·rename_i e2
      obtain⟨e2,e3⟩:=e2
      subst e2
      cases h
      cases e
      simp only[e3,and_self,if_true] at hp
      cases hp
      exact⟨.int _ _,rfl,rfl⟩
     ·cases h
   |string=>
    have hs:shOf P t=none:=by unfold shOf;rw[hu]
    rw[hs]
    simp only at h hp
    split at h <;> first|contradiction|(exfalso;clear ih;simp_all;done)|skip
    ·split at h
     ·cases h
      cases hp
      exact⟨.str _,rfl,rfl⟩
     ·cases h
   |slice e=>
    have hs:shOf P t=none:=by unfold shOf;rw[hu]
    rw[hs]
    simp only at h hp
    split at h <;> first|contradiction|(exfalso;clear ih;simp_all;done)|skip
    ·cases h
     cases hp
     exact⟨.nilsl _ _ _,rfl,rfl⟩
    ·rename_i e' a len cap hx
     cases hx
     split at h
     ·rename_i hb
      obtain⟨hb1,hb2,hb3⟩:=hb
      rw[Option.bind_eq_some_iff] at h
      obtain⟨elems,hm,h⟩:=h
      rw[Option.map_eq_some_iff] at h
      obtain⟨rest,hr,h⟩:=h
      cases h
      simp only at hp
      split at hp
      ·rename_i hoe
       split at hp
       ·rename_i l hl
        cases hp
        obtain⟨hc1,hc2⟩:=zkc hoe
        obtain⟨k1,k2⟩:=zmb (R:=fun i p=>PR w I p (zd9 (shOf P e) (((w.cells? base (a.add (i*P.cellsOf e)) (P.cellsOf e))).getD []))/\vshp (zd9 (shOf P e) (((w.cells? base (a.add (i*P.cellsOf e)) (P.cellsOf e))).getD []))=shOf P e/\(zd9 (shOf P e) (((w.cells? base (a.add (i*P.cellsOf e)) (P.cellsOf e))).getD [])).cells.toList=((w.cells? base (a.add (i*P.cellsOf e)) (P.cellsOf e))).getD []) (fun i d ps p hg hf=>by
         rw[Option.bind_eq_some_iff] at hg
         obtain⟨c,hc,hg⟩:=hg
         rw[hc]
         exact ih n e c d ps p hg hoe hf) _ _ _ hm hl
        rw[List.length_range] at k1
        refine⟨?_,rfl,rfl⟩
        have hel:elems.length=len:=by have:=(zeU hm).1;simpa using this.symm
        cases len with
        |zero=>
         have:l=[]:=List.length_eq_zero_iff.1 (by omega)
         subst this
         exact .nilsl _ _ _
        |succ m=>
         have rd:∀i,i<m+1->∃c,w.cells? base (a.add (i*P.cellsOf e)) (P.cellsOf e)=some c:=fun i hi=>by
          have hx:elems[i]? =some elems[i]:=List.getElem?_eq_getElem (by omega)
          have:=(zeU hm).2 i i elems[i] (by simp[hi]) hx
          rw[Option.bind_eq_some_iff] at this
          obtain⟨c,hc,_⟩:=this
          exact⟨c,hc⟩
         obtain⟨c0,hc0⟩:=rd 0 (by omega)
         obtain⟨s0,cs',t',fr',hblk,_,_⟩:=zhE hc0 hc2
         have ea0:a.add (0*P.cellsOf e)=a:=by simp[Addr.add]
         rw[ea0] at s0 hblk
         have seg:∀i,i<m+1->(w.cells? base (a.add (i*P.cellsOf e)) (P.cellsOf e)).getD []=(cs'.toList.drop (a.off+i*P.cellsOf e)).take (P.cellsOf e)/\((w.cells? base (a.add (i*P.cellsOf e)) (P.cellsOf e)).getD []).length=P.cellsOf e:=fun i hi=>by
          obtain⟨c,hc⟩:=rd i hi
          obtain⟨_,cs2,t2,fr2,hb2,e2,e3⟩:=zhE hc hc2
          have eo:(a.add (i*P.cellsOf e)).off=a.off+i*P.cellsOf e:=by unfold Addr.add;split <;> simp_all
          have eb:(a.add (i*P.cellsOf e)).block=a.block:=by unfold Addr.add;split <;> rfl
          rw[eb,hblk] at hb2
          cases hb2
          rw[hc,Option.getD_some]
          rw[eo] at e2
          exact⟨e2,e3⟩
         have ha:a=⟨a.block,a.off,none⟩:=by cases a;simp_all
         have hll:l.length=m+1:=k1
         rw[ha]
         have hgoal:PR w I (.sl (shOf P e) l) (.slice (some ⟨a.block,a.off,none⟩) l.length cap):=by
          refine .sl _ _ a.block a.off cap cs' t' fr' ((List.range (m+1)).map fun i=>zd9 (shOf P e) ((w.cells? base (a.add (i*P.cellsOf e)) (P.cellsOf e)).getD [])) (by simp[hll]) (hI _) hblk ?_ ?_ ?_ (by omega)
          ·intro i p v hp hv
           have hi:i<m+1:=by rw[<-hll];exact(List.getElem?_eq_some_iff.1 hp).1
           simp[hi] at hv
           subst hv
           exact(k2 i i p (by simp[hi]) hp).2.1
          ·intro i p v hp hv
           have hi:i<m+1:=by rw[<-hll];exact(List.getElem?_eq_some_iff.1 hp).1
           simp[hi] at hv
           subst hv
           exact(k2 i i p (by simp[hi]) hp).1
          ·have cl:∀i,i<m+1->(zd9 (shOf P e) ((w.cells? base (a.add (i*P.cellsOf e)) (P.cellsOf e)).getD [])).cells.toList=(cs'.toList.drop (a.off+i*P.cellsOf e)).take (P.cellsOf e):=fun i hi=>by
            rw[<-(seg i hi).1]
            exact(k2 i i l[i] (by simp[hi]) (List.getElem?_eq_getElem (by omega))).2.2
           rw[hll,<-hc1]
           exact zhF (fun i=>zd9 (shOf P e) ((w.cells? base (a.add (i*P.cellsOf e)) (P.cellsOf e)).getD [])) cs'.toList a.off (P.cellsOf e) (m+1) cl
         rw[hll] at hgoal
         exact hgoal
       ·cases hp
      ·cases hp
     ·cases h
   |struct fs=>
    have hs:shOf P t=some (P.cellsOf t):=by unfold shOf;rw[hu]
    rw[hs]
    simp only at h hp
    split at h <;> first|contradiction|(exfalso;clear ih;simp_all;done)|skip
    ·rename_i hlen
     rw[Option.map_eq_some_iff] at h
     obtain⟨xs,hm,h⟩:=h
     cases h
     simp only at hp
     split at hp
     ·rename_i hfo
      split at hp
      ·rename_i l hl
       cases hp
       rw[<-hlen] at hfo
       obtain⟨vs,e1,e2,e3,e4⟩:=zkd (w:=w) (I:=I) (fun t cs d ps p hg ho hf=>ih n t cs d ps p hg ho hf) cs fs.toList 0 xs l hfo hm hl
       rw[List.drop_zero] at e4
       refine⟨?_,?_,?_⟩
       ·show PR w I (.agg l) (.agg cs.toArray)
        rw[<-e4]
        exact .agg l vs e1 e2 e3
       ·show some cs.toArray.size=_
        simp[hlen]
       ·simp[zd9,Value.cells]
      ·cases hp
     ·cases hp
   |_=>cases hp

theorem ztx{base:Nat}{spare:Nat->Bool}{held:Bool}{n:Nat}{t:TypeId}{v:Value}{d:DataW H}{ps:List MemPlace}{p:PV}(h:DataW.Trod enc P w base spare held t v d ps)(hok:okT P t=true)(hp:zdL P n t d=some p)(hv:vshp v=shOf P t):
  AR w (noX (P:=P)) noμ [] (.pv (shOf P t) p) v:=by
 obtain⟨fuel,h⟩:=h
 have hI:∀b,Im (noX (P:=P)) noμ [] b:=fun b=>⟨fun h=>h,fun i hi=>by simp[live] at hi⟩
 obtain⟨h1,h2,h3⟩:=zsO hI fuel n t _ d ps p h hok hp
 have:zd9 (shOf P t) v.cells.toList=v:=by
  rw[<-hv]
  cases v <;> simp[vshp,zd9,Value.cells]
 rw[this] at h1
 exact .pv _ _ _ hv h1
theorem znE{W:World}{base:Nat}{t:TypeId}{v:Value}(h:Value.okWide P W .any base t v):vshp v=shOf P t:=by
 unfold Value.okWide at h
 unfold shOf
 cases hu:P.underlying t with
 |none=>
  rw[hu] at h
  cases v with
  |agg cs=>simp[Cell.okWide,Cell.ok,hu] at h
  |_=>rfl
 |some u=>
  rw[hu] at h
  cases u with
  |struct fs=>obtain⟨cs,rfl,hc,_⟩:=h;simp[vshp,hc]
  |array n e=>obtain⟨cs,rfl,hc,_⟩:=h;simp[vshp,hc]
  |_=>
   cases v with
   |agg cs=>simp[Cell.okWide,Cell.ok,hu] at h
   |_=>rfl
end Go.Am

/- Every datum of plain types is a value; terms. -/
namespace Go.Am
variable{P:Program} {H:Type} {enc:TypeId × Value->H} {w:World}

def zr2(P:Program)(ts:List TypeId)(t:TypeId):Bool:=
 okT P t && match P.underlying t with
 |some .bool=>true
 |some (.int _)=>true
 |some .string=>true
 |some (.slice e)=>ts.contains e && okT P e
 |some (.struct fs)=>fs.toList.all (fun f=>ts.contains f.type) && zd6 P (P.cellsOf t) 0 fs.toList
 |_=>false
def zmc(P:Program)(ts:List TypeId):Bool:=ts.all (zr2 P ts)

theorem zhG{f:DataW H->Option PV}{g:Nat->Option (DataW H × List MemPlace)}(hg:∀i d ps,g i=some (d,ps)->∃p,f d=some p):∀(is:List Nat) (xs:List (DataW H × List MemPlace)),is.mapM g=some xs->∃l,zdi f (xs.map (·.1))=some l
 |[],xs,h=>by simp at h;subst h;exact⟨[],rfl⟩
 |i::r,xs,h=>by
  rw[List.mapM_cons] at h
  cases ha:g i with
  |none=>rw[ha] at h;cases h
  |some y=>
   rw[ha] at h
   cases hr:r.mapM g with
   |none=>rw[hr] at h;cases h
   |some ys=>
    rw[hr] at h
    cases h
    obtain⟨l,hl⟩:=zhG hg r ys hr
    obtain⟨p,hp⟩:=hg i y.1 y.2 ha
    exact⟨p::l,by simp[zdi,hp,hl]⟩
theorem zgN{f:TypeId->DataW H->Option PV}{g:Field->Option (DataW H × List MemPlace)}:∀(fs:List Field) (xs:List (DataW H × List MemPlace)),(∀fd∈fs,∀d ps,g fd=some (d,ps)->∃p,f fd.type d=some p)->fs.mapM g=some xs->∃l,zb9 P f fs (xs.map (·.1))=some l
 |[],xs,_,h=>by simp at h;subst h;exact⟨[],rfl⟩
 |fd::r,xs,hg,h=>by
  rw[List.mapM_cons] at h
  cases ha:g fd with
  |none=>rw[ha] at h;cases h
  |some y=>
   rw[ha] at h
   cases hr:r.mapM g with
   |none=>rw[hr] at h;cases h
   |some ys=>
    rw[hr] at h
    cases h
    obtain⟨l,hl⟩:=zgN r ys (fun fd h=>hg fd (by simp[h])) hr
    obtain⟨p,hp⟩:=hg fd (by simp) y.1 y.2 ha
    exact⟨(shOf P fd.type,p)::l,by simp[zb9,hp,hl]⟩

theorem zpH{ts:List TypeId}(hc:zmc P ts=true){base:Nat}{spare:Nat->Bool}{held:Bool}:∀(fuel:Nat) (t:TypeId) (cs:List Value) (d:DataW H) (ps:List MemPlace),t∈ts->DataW.trod enc P w base spare held fuel t cs=some (d,ps)->∃p,zdL P fuel t d=some p:=by
 intro fuel
 induction fuel with
 |zero=>intro t cs d ps _ h;cases h
 |succ fuel ih=>
  intro t cs d ps ht h
  have hp:=List.all_eq_true.1 hc t ht
  unfold zr2 at hp
  rw[Bool.and_eq_true] at hp
  have hp:=hp.2
  unfold DataW.trod at h
  unfold zdL
  cases hu:P.underlying t with
  |none=>rw[hu] at hp;cases hp
  |some u=>
   rw[hu] at hp h
   cases u with
   |bool=>
    simp only at h
    split at h <;> first|contradiction|(exfalso;clear ih;simp_all;done)|skip
    ·cases h;exact⟨_,rfl⟩
   |int k=>
    simp only at h
    split at h <;> first|contradiction|(exfalso;clear ih;simp_all;done)|skip
    ·rename_i e
     split at h
     ·rename_i e2
      obtain⟨e2,e3⟩:=e2
      subst e2
      cases h
      cases e
      exact⟨_,by simp[e3];rfl⟩
     ·cases h
   |string=>
    simp only at h
    split at h <;> first|contradiction|(exfalso;clear ih;simp_all;done)|skip
    ·split at h
     ·cases h;exact⟨_,rfl⟩
     ·cases h
   |slice e=>
    simp only[Bool.and_eq_true,List.contains_iff_mem] at hp
    simp only at h
    split at h <;> first|contradiction|(exfalso;clear ih;simp_all;done)|skip
    ·cases h;exact⟨_,rfl⟩
    ·rename_i e' a len cap hx
     cases hx
     split at h
     ·rw[Option.bind_eq_some_iff] at h
      obtain⟨elems,hm,h⟩:=h
      rw[Option.map_eq_some_iff] at h
      obtain⟨rest,hr,h⟩:=h
      cases h
      obtain⟨l,hl⟩:=zhG (f:=zdL P fuel e) (fun i d ps hg=>by
       rw[Option.bind_eq_some_iff] at hg
       obtain⟨c,_,hg⟩:=hg
       exact ih e c d ps hp.1 hg) _ _ hm
      exact⟨_,by simp[hp.2,hl];rfl⟩
     ·cases h
   |struct fs=>
    simp only[Bool.and_eq_true] at hp
    simp only at h
    split at h <;> first|contradiction|(exfalso;clear ih;simp_all;done)|skip
    ·rw[Option.map_eq_some_iff] at h
     obtain⟨xs,hm,h⟩:=h
     cases h
     obtain⟨l,hl⟩:=zgN (P:=P) (f:=zdL P fuel) fs.toList xs (fun fd hfd d ps hg=>by
      have:=List.all_eq_true.1 hp.1 fd hfd
      rw[List.contains_iff_mem] at this
      exact ih fd.type _ d ps this hg) hm
     exact⟨_,by simp[hp.2,hl];rfl⟩
   |_=>cases hp

structure BulkLaws(bulk:DataW H->Nat)(all:List (DataW H)->Nat):Prop where
 nil:all []=0
 cons:∀d r,all (d::r)=bulk d+all r
 slice:∀e s,bulk (.slice e s)=all e+all s+1
 agg:∀l,bulk (.agg l)=all l+1
 string:∀l,bulk (.lit (.string l))=l.length+1

structure TermTy(P:Program)(tA tT:TypeId):Prop where
 a:P.underlying tA=some (.slice tT)
 t:∃fs tI tL tS,P.underlying tT=some (.struct fs)/\fs.toList.map (·.type)=[tI,tL,tS,tA]/\P.underlying tI=some (.int .i64)/\P.underlying tL=some (.int .i64)/\P.underlying tS=some .string/\shOf P tT=some 4/\shOf P tA=none/\shOf P tI=none/\shOf P tL=none/\shOf P tS=none

def zly(n:Int):Prop:= -9223372036854775808<=n/\n<=9223372036854775807
mutual
def Tm.rng:Tm->Prop
 | .mk k n _ as=>zly k/\zly n/\Tm.rngs as
def Tm.rngs:List Tm->Prop
 |[]=>True
 |t::r=>t.rng/\Tm.rngs r
end
theorem zr3{n:Int}(h:(Lit.int .i64 n).wf=true):zly n:=by
 simpa[Lit.wf,IntKind.min,IntKind.max,IntKind.signed,IntKind.bits,zly] using h

end Go.Am

/- Data by their types: what a value of a plain type looks like, and how much it holds. -/
namespace Go.Am
variable{P:Program} {H:Type} {enc:TypeId × Value->H} {w:World}

mutual
def PV.sz:PV->Nat
 | .str s=>s.length+1
 | .agg l=>PV.szc l+1
 | .sl _ es=>PV.szs es+1
 |_=>1
def PV.szc:List (Sh × PV)->Nat
 |[]=>0
 |x::r=>PV.sz x.2+PV.szc r
def PV.szs:List PV->Nat
 |[]=>0
 |x::r=>PV.sz x+PV.szs r
end
theorem PV.zuq(l:List PV):l.length<=PV.szs l:=by
 induction l with
 |nil=>exact Nat.zero_le _
 |cons x r ih=>
  have:1<=x.sz:=by cases x <;> simp[PV.sz]
  simp only[List.length_cons,PV.szs]
  omega
theorem PV.zur{l:List PV}{x:PV}(h:x∈l):x.sz<=PV.szs l:=by
 induction l with
 |nil=>cases h
 |cons y r ih=>
  simp only[PV.szs]
  rcases List.mem_cons.1 h with rfl|h
  ·omega
  ·have:=ih h;omega

def zeV(P:Program)(f:TypeId->PV->Prop):List Field->List (Sh × PV)->Prop
 |[],[]=>True
 |fd::r,x::l=>x.1=shOf P fd.type/\f fd.type x.2/\zeV P f r l
 |_,_=>False
def wt(P:Program):Nat->TypeId->PV->Prop
 |0,_,_=>False
 |n+1,t,p=>match P.underlying t with
  |some .bool=>∃b,p=.bool b
  |some (.int k)=>∃x,p=.int k x/\(Lit.int k x).wf=true
  |some .string=>∃s,p=.str s
  |some (.slice e)=>∃es,p=.sl (shOf P e) es/\∀x∈es,wt P n e x
  |some (.struct fs)=>∃l,p=.agg l/\zeV P (wt P n) fs.toList l
  |_=>False

structure BulkLaws2(bulk:DataW H->Nat)(all:List (DataW H)->Nat):Prop extends BulkLaws bulk all where
 one:∀d,1<=bulk d

theorem zmd{bulk:DataW H->Nat}{all:List (DataW H)->Nat}(hb:BulkLaws2 bulk all){f:DataW H->Option PV}{R:PV->Prop}(hf:∀d p,f d=some p->R p/\p.sz<=bulk d):∀(ds:List (DataW H)) (l:List PV),zdi f ds=some l->(∀x∈l,R x)/\PV.szs l<=all ds
 |[],l,h=>by cases h;exact⟨fun x hx=>(by cases hx),Nat.zero_le _⟩
 |d::ds,l,h=>by
  simp only[zdi] at h
  split at h
  ·cases h
  ·rename_i p hp
   split at h
   ·rename_i l' hl
    cases h
    obtain⟨h1,h2⟩:=hf d p hp
    obtain⟨h3,h4⟩:=zmd hb hf ds l' hl
    refine⟨fun x hx=> ?_,by rw[hb.cons];simp only[PV.szs];omega⟩
    rcases List.mem_cons.1 hx with rfl|hx
    ·exact h1
    ·exact h3 x hx
   ·cases h
theorem zke{bulk:DataW H->Nat}{all:List (DataW H)->Nat}(hb:BulkLaws2 bulk all){f:TypeId->DataW H->Option PV}{R:TypeId->PV->Prop}(hf:∀t d p,f t d=some p->R t p/\p.sz<=bulk d):∀(fs:List Field) (ds:List (DataW H)) (l:List (Sh × PV)),zb9 P f fs ds=some l->zeV P R fs l/\PV.szc l<=all ds
 |[],ds,l,h=>by
  cases ds with
  |nil=>cases h;exact⟨trivial,Nat.zero_le _⟩
  |cons d r=>cases h
 |fd::fs,ds,l,h=>by
  cases ds with
  |nil=>cases h
  |cons d r=>
   simp only[zb9] at h
   split at h
   ·cases h
   ·rename_i p hp
    split at h
    ·rename_i l' hl
     cases h
     obtain⟨h1,h2⟩:=hf fd.type d p hp
     obtain⟨h3,h4⟩:=zke hb hf fs r l' hl
     exact⟨⟨rfl,h1,h3⟩,by rw[hb.cons];simp only[PV.szc];omega⟩
    ·cases h
theorem zpI{bulk:DataW H->Nat}{all:List (DataW H)->Nat}(hb:BulkLaws2 bulk all):∀(n:Nat) (t:TypeId) (d:DataW H) (p:PV),zdL P n t d=some p->wt P n t p/\p.sz<=bulk d
 |0,t,d,p,h=>by cases h
 |n+1,t,d,p,h=>by
  have ih:=fun t d p=>zpI hb n t d p
  have one:=hb.one d
  unfold zdL at h
  unfold wt
  cases hu:P.underlying t with
  |none=>rw[hu] at h;cases h
  |some u=>
   rw[hu] at h
   cases u with
   |bool=>
    cases d with
    |lit l=>cases l <;> first|(cases h;done)|(cases h;exact⟨⟨_,rfl⟩,one⟩)
    |_=>cases h
   |int k=>
    cases d with
    |lit l=>
     cases l with
     |int k' x=>
      simp only at h
      split at h
      ·rename_i hw
       cases h
       obtain⟨e,hw⟩:=hw
       subst e
       exact⟨⟨x,rfl,hw⟩,one⟩
      ·cases h
     |_=>cases h
    |_=>cases h
   |string=>
    cases d with
    |lit l=>
     cases l with
     |string s=>cases h;exact⟨⟨_,rfl⟩,by rw[hb.string];exact Nat.le_refl _⟩
     |_=>cases h
    |_=>cases h
   |slice e=>
    cases d with
    |nil=>cases h;exact⟨⟨[],rfl,fun x hx=>(by cases hx)⟩,one⟩
    |slice es sp=>
     simp only at h
     split at h
     ·split at h
      ·rename_i l hl
       cases h
       obtain⟨h1,h2⟩:=zmd hb (ih e) es l hl
       exact⟨⟨l,rfl,h1⟩,by rw[hb.slice];simp only[PV.sz];omega⟩
      ·cases h
     ·cases h
    |lit l=>cases l <;> cases h
    |_=>cases h
   |struct fs=>
    cases d with
    |agg parts=>
     simp only at h
     split at h
     ·split at h
      ·rename_i l hl
       cases h
       obtain⟨h1,h2⟩:=zke hb ih fs.toList parts l hl
       exact⟨⟨l,rfl,h1⟩,by rw[hb.agg];simp only[PV.sz];omega⟩
      ·cases h
     ·cases h
    |lit l=>cases l <;> cases h
    |_=>cases h
   |_=>cases d <;> first|(cases h;done)|(rename_i l;cases l <;> cases h)

theorem zpJ{n:Nat}{tT:TypeId}(hT:∀p,wt P n tT p->∃t:Tm,p=t.pv/\t.rng):∀(es:List PV),(∀x∈es,wt P n tT x)->∃l:List Tm,es=Tm.pvs l/\Tm.rngs l
 |[],_=>⟨[],rfl,trivial⟩
 |x::r,h=>by
  obtain⟨t,rfl,h1⟩:=hT x (h x (by simp))
  obtain⟨l,rfl,h2⟩:=zpJ hT r fun y hy=>h y (by simp[hy])
  exact⟨t::l,rfl,h1,h2⟩
theorem zpK{tA tT:TypeId}(hT:TermTy P tA tT):∀(n:Nat),(∀p,wt P n tT p->∃t:Tm,p=t.pv/\t.rng)/\(∀p,wt P n tA p->∃l:List Tm,p=.sl (some 4) (Tm.pvs l)/\Tm.rngs l)
 |0=>⟨fun p h=>h.elim,fun p h=>h.elim⟩
 |n+1=>by
  obtain⟨ih1,ih2⟩:=zpK hT n
  obtain⟨hA,fs,tI,tL,tS,hS,hf,hI,hL,hSt,s1,s2,s3,s4,s5⟩:=hT
  constructor
  ·intro p h
   unfold wt at h
   rw[hS] at h
   obtain⟨l,rfl,h⟩:=h
   obtain⟨f1,f2,f3,f4,hfs⟩:∃f1 f2 f3 f4:Field,fs.toList=[f1,f2,f3,f4]:=by
    match hx:fs.toList,hf with
    |[a,b,c,d],_=>exact⟨a,b,c,d,rfl⟩
   rw[hfs] at hf h
   simp only[List.map_cons,List.map_nil,List.cons.injEq,and_true] at hf
   obtain⟨e1,e2,e3,e4⟩:=hf
   match l,h with
   |[x1,x2,x3,x4],h=>
    simp only[zeV,e1,e2,e3,e4,s2,s3,s4,s5,and_true] at h
    obtain⟨a1,b1,a2,b2,a3,b3,a4,b4⟩:=h
    have i64:∀(ty:TypeId) (p:PV),P.underlying ty=some (.int .i64)->wt P n ty p->∃x,p=.int .i64 x/\zly x:=by
     intro ty p hty hp
     cases n with
     |zero=>exact hp.elim
     |succ n=>
      unfold wt at hp
      rw[hty] at hp
      obtain⟨x,rfl,hx⟩:=hp
      exact⟨x,rfl,zr3 hx⟩
    obtain⟨y1,e1',g1⟩:=i64 tI x1.2 hI b1
    obtain⟨y2,e2',g2⟩:=i64 tL x2.2 hL b2
    obtain⟨s,e3'⟩:∃s,x3.2=.str s:=by
     cases n with
     |zero=>exact b3.elim
     |succ n=>
      unfold wt at b3
      rw[hSt] at b3
      exact b3
    obtain⟨ts,e4',k⟩:=ih2 x4.2 b4
    refine⟨.mk y1 y2 s ts,?_,g1,g2,k⟩
    obtain⟨_,_⟩:=x1;obtain⟨_,_⟩:=x2;obtain⟨_,_⟩:=x3;obtain⟨_,_⟩:=x4
    simp only at a1 a2 a3 a4 e1' e2' e3' e4'
    subst a1 a2 a3 a4 e1' e2' e3' e4'
    rfl
  ·intro p h
   unfold wt at h
   rw[hA] at h
   obtain⟨es,rfl,h⟩:=h
   obtain⟨l,rfl,h1⟩:=zpJ ih1 es h
   exact⟨l,by rw[s1],h1⟩
mutual
theorem Tm.zus:∀t:Tm,t.size<=t.pv.sz
 | .mk k n s as=>by
  have:=Tm.zub as
  simp only[Tm.size,Tm.pv,PV.sz,PV.szc]
  omega
theorem Tm.zub:∀l:List Tm,Tm.sizes l<=PV.szs (Tm.pvs l)
 |[]=>Nat.zero_le _
 |t::r=>by
  have h1:=Tm.zus t
  have h2:=Tm.zub r
  simp only[Tm.sizes,Tm.pvs,PV.szs]
  omega
end
end Go.Am

/- Structs and lists out of data. -/
namespace Go.Am
variable{P:Program}
def zme(P:Program)(t:TypeId):Option (List TypeId):=
 match P.underlying t with
 |some (.struct fs)=>some (fs.toList.map (·.type))
 |_=>none
def zty(P:Program)(t:TypeId):Bool:=match P.underlying t with|some (.int .i64)=>true|_=>false
def ztz(P:Program)(t:TypeId):Bool:=match P.underlying t with|some .string=>true|_=>false
def isSl(P:Program)(t e:TypeId):Bool:=match P.underlying t with|some (.slice x)=>x == e|_=>false
def zhH(P:Program)(m:Nat):List TypeId->List (Sh × PV)->Prop
 |[],[]=>True
 |t::ts,x::l=>x.1=shOf P t/\wt P m t x.2/\zhH P m ts l
 |_,_=>False
theorem zeW{m:Nat}:∀(fs:List Field) (l:List (Sh × PV)),zeV P (wt P m) fs l->zhH P m (fs.map (·.type)) l
 |[],[],_=>trivial
 |[],_::_,h=>h.elim
 |_::_,[],h=>h.elim
 |fd::r,x::l,h=>⟨h.1,h.2.1,zeW r l h.2.2⟩
theorem zgO{n:Nat}{t:TypeId}{p:PV}{ts:List TypeId}(h:zme P t=some ts)(hw:wt P n t p):∃m l,p=.agg l/\zhH P m ts l:=by
 cases n with
 |zero=>exact hw.elim
 |succ n=>
  unfold wt at hw
  unfold zme at h
  split at h
  ·rename_i fs hfs
   rw[hfs] at hw
   obtain⟨l,rfl,hl⟩:=hw
   cases h
   exact⟨n,l,rfl,zeW _ _ hl⟩
  ·cases h
theorem zfs{m:Nat}{l:List (Sh × PV)}(h:zhH P m [] l):l=[]:=by
 cases l with
 |nil=>rfl
 |cons x l=>exact h.elim
theorem za0{m:Nat}{t:TypeId}{ts:List TypeId}{l:List (Sh × PV)}(h:zhH P m (t::ts) l):∃q r,l=(shOf P t,q)::r/\wt P m t q/\zhH P m ts r:=by
 cases l with
 |nil=>exact h.elim
 |cons x l=>obtain⟨h1,h2,h3⟩:=h;exact⟨x.2,l,by rw[<-h1],h2,h3⟩
theorem zkf{n:Nat}{t:TypeId}{p:PV}(h:zty P t=true)(hw:wt P n t p):∃x,p=.int .i64 x/\zly x:=by
 cases n with
 |zero=>exact hw.elim
 |succ n=>
  unfold wt at hw
  unfold zty at h
  split at h
  ·rename_i hu;rw[hu] at hw;obtain⟨x,rfl,hx⟩:=hw;exact⟨x,rfl,zr3 hx⟩
  ·cases h
theorem ztA{n:Nat}{t:TypeId}{p:PV}(h:ztz P t=true)(hw:wt P n t p):∃x,p=.str x:=by
 cases n with
 |zero=>exact hw.elim
 |succ n=>
  unfold wt at hw
  unfold ztz at h
  split at h
  ·rename_i hu;rw[hu] at hw;exact hw
  ·cases h
theorem zrm{n:Nat}{t e:TypeId}{p:PV}(h:isSl P t e=true)(hw:wt P n t p):∃m es,p=.sl (shOf P e) es/\∀x∈es,wt P m e x:=by
 cases n with
 |zero=>exact hw.elim
 |succ n=>
  unfold wt at hw
  unfold isSl at h
  split at h
  ·rename_i hu;rw[hu] at hw;rw[beq_iff_eq] at h;subst h;obtain⟨es,h1,h2⟩:=hw;exact⟨n,es,h1,h2⟩
  ·cases h
theorem zpL{α:Type}{f:α->PV}{Q:α->Prop}:∀(es:List PV),(∀x∈es,∃a,x=f a/\Q a)->∃l:List α,es=l.map f/\∀a∈l,Q a
 |[],_=>⟨[],rfl,fun x hx=>(by cases hx)⟩
 |x::r,h=>by
  obtain⟨y,rfl,hy⟩:=h x (by simp)
  obtain⟨l,rfl,hl⟩:=zpL r fun z hz=>h z (by simp[hz])
  refine⟨y::l,rfl,fun z hz=> ?_⟩
  rcases List.mem_cons.1 hz with rfl|hz
  ·exact hy
  ·exact hl z hz
theorem znF(f:Fl):Tm.sizes f.args<=f.pv.sz:=by
 have:=Tm.zub f.args
 simp only[Fl.pv,PV.sz,PV.szc]
 omega
theorem zhI(g:Gl):Tm.sizes g.args+1<=g.pv.sz:=by
 have:=Tm.zub g.args
 simp only[Gl.pv,PV.sz,PV.szc]
 omega
theorem zgP(f:Fl):PV.szs (Gl.pvs f.goals)<=f.pv.sz:=by
 simp only[Fl.pv,PV.sz,PV.szc]
 omega
theorem znG(f:Fl):Tm.sizes f.args+PV.szs (Gl.pvs f.goals)<=f.pv.sz:=by
 have:=Tm.zub f.args
 simp only[Fl.pv,PV.sz,PV.szc]
 omega
theorem znH(f:Fl){g:Gl}(h:g∈f.goals):Tm.sizes g.args+1<=f.pv.sz:=by
 have h1:=zhI g
 have h2:=PV.zur (l:=Gl.pvs f.goals) (x:=g.pv) (List.mem_map_of_mem h)
 have h3:=zgP f
 omega
theorem zpM(f:Fl):f.goals.length<=f.pv.sz:=by
 have h1:=PV.zuq (Gl.pvs f.goals)
 rw[Gl.pvs_len] at h1
 have h3:=zgP f
 omega
theorem zlz(c:Int)(g:Gl):(g.here c).length<=g.pv.sz:=by
 have h1:=zhI g
 have h2:=Tm.zuh g.args
 unfold Gl.here
 split <;> simp <;> omega
theorem zgQ:∀(l:List Gl) (c:Int),(Gl.plcs c l).length<=PV.szs (Gl.pvs l)
 |[],c=>Nat.zero_le _
 |g::r,c=>by
  have h1:=zlz c g
  have h2:=zgQ r (g.next c)
  simp only[Gl.plcs,List.length_append,Gl.pvs,List.map_cons,PV.szs] at h2 ⊢
  omega
theorem znI(f:Fl):f.plcs.length<=f.pv.sz:=by
 have h1:=zgQ f.goals 0
 have h2:=Tm.zuh f.args
 have h3:=znG f
 unfold Fl.plcs
 simp only[List.length_append,List.length_map]
 omega
end Go.Am
