/- What is proved: the abstract machine says true of the model (part 5). No conditions beside those that each theorem names. -/
import Derived.Test.YteaehiceghhajaaAm4
import Derived.Lib.Bytealg
import Derived.ProofKit
import Derived.OpenShut
import Derived.JoinedCond
import Derived.WalkKit
set_option linter.unusedSimpArgs false
set_option linter.unusedVariables false
/- A table of functions. -/
namespace Go.Am
def zl9(P:Program)(tab:List (Nat × AFn)):Prop:=∀x∈tab,∃fnc,P.funcs[x.1]? =some fnc/\trFn P x.2.heapMode x.1 fnc=some x.2
theorem zma{P:Program}:zl9 P []:=fun x h=>by simp at h
theorem zab{P:Program}{f:Nat}{g:AFn}{fnc:Func}{r:List (Nat × AFn)}(h:P.funcs[f]? =some fnc)(t:trFn P g.heapMode f fnc=some g)(k:zl9 P r):zl9 P ((f,g)::r):=by
 intro x hx
 simp only[List.mem_cons] at hx
 rcases hx with rfl|hx
 ·exact⟨fnc,h,t⟩
 ·exact k x hx
def find:List (Nat × AFn)->FuncId->Option AFn
 |[],_=>none
 |(k,g)::r,f=>bif Nat.beq k f then some g else find r f
theorem zjS:∀{tab:List (Nat × AFn)} {f:FuncId} {g:AFn},find tab f=some g->(f,g)∈tab
 |[],_,_,h=>by cases h
 |(k,x)::r,f,g,h=>by
  simp only[find] at h
  cases hk:Nat.beq k f with
  |true=>
   rw[hk] at h
   cases h
   simp[Nat.eq_of_beq_eq_true hk]
  |false=>
   rw[hk] at h
   exact List.mem_cons_of_mem _ (zjS h)
theorem znq{P:Program}{tab:List (Nat × AFn)}(h:zl9 P tab):zi2 P (find tab):=fun f fn hf=>h (f,fn) (zjS hf)
end Go.Am

/- Contracts by hand: what the library has no body for. -/
namespace Go.Am
variable{P:Program}

def zgJ:zbE:=fun _ args hp=>match args with
 |[.pv _ (.str a),.pv _ (.str b)]=>some (.ret (.pv none (.int .i64 (Lib.compareBytes a b))),hp)
 |_=>none

def zoc(P:Program)(f:FuncId)(p:zbE):Prop:=
 ∀args hp r hp',p f args hp=some (r,hp')->∀(w:World) (X:Xc P) (μ:Nat->Option Nat) (vs:List Value),HR w X μ hp->LR w X μ hp args vs->Called P f vs.toArray w (zaV hp.length w X μ hp r hp')

theorem zkD{f:FuncId}{fn:Func}(hf:P.funcs[f]? =some fn)(hname:(fn.name == "runtime.NumGoroutine")=false)(hb:fn.body.isNone=true)(hn:Extern.findNext fn=none)
  (he:Extern.find fn=some Extern.BytealgCompare.compare):zoc P f zgJ:=by
 intro args hp r hp' h w X μ vs hH hl
 unfold zgJ at h
 split at h
 ·rename_i s1 a s2 b
  cases h
  cases hl with|cons h1 hl=>
  cases hl with|cons h2 hl=>
  cases hl
  cases h1 with|pv _ _ _ _ h1=>
  cases h2 with|pv _ _ _ _ h2=>
  cases h1
  cases h2
  refine .inr ⟨.int .i64 (Lib.compareBytes a b),w,?_,μ,.pv none (.int .i64 (Lib.compareBytes a b)),rfl,hH,Ext.refl _ _ _ _ _,.pv _ _ _ rfl (.int _ _)⟩
  rw[run_callFunc_extern hf hname hb hn he,Lib.run_compareString]
  rfl
 ·cases h

theorem zkE:zei P (fun _=>none):=fun f p h=>by cases h
theorem zjb{prim:FuncId->Option zbE}{f:FuncId}{p:zbE}(h:zoc P f p)(k:zei P prim):zei P (fun g=>bif Nat.beq f g then some p else prim g):=by
 intro g q hq
 cases hk:Nat.beq f g with
 |true=>
  simp only[hk,cond_true] at hq
  cases hq
  have:=Nat.eq_of_beq_eq_true hk
  subst this
  exact h
 |false=>
  simp only[hk,cond_false] at hq
  exact k g q hq
end Go.Am

/- From a run of the abstract machine to what a law's row wants. -/
namespace Go.Am
open Go.ChangeShapes Go.WideShapes Go.ChangeAt Go.RowKit
variable{P:Program} {H:Type} {enc:TypeId × Value->H}

theorem zhW{f:FuncId}{fn:Func}{c:Code}{args:Array Value}{w:World}{R:Ending->World->Prop}(hf:P.funcs[f]? =some fn)(hb:fn.body=some c)(hn:fn.name≠ "runtime.NumGoroutine")
  (h:Called P f args w R):Calls P f args w R:=by
 rcases h with⟨_,h⟩|⟨v,w',h,_⟩
 ·exact h
 ·rw[zb5 hf hb hn] at h;cases h

abbrev noX:Xc P:=⟨fun _=>False⟩
abbrev noμ:Nat->Option Nat:=fun _=>none

theorem znr(w:World):HR w (noX (P:=P)) noμ []:=
 ⟨fun i _ _ hi=>by simp at hi,fun i _ hi=>by simp at hi,fun b hb=>hb.elim,fun i sh v h=>by simp at h,fun i sh es fz h=>by simp at h,fun i sh es h=>by simp at h,fun i f ps env bz h=>by simp at h,fun i sh es h=>by simp at h⟩

theorem zmb{b0:Nat}{X:Xc P}{μ μ':Nat->Option Nat}{hp':Heap}{w w':World}(h:Ext b0 X μ [] w μ' hp' w'):Below w.heap.size w w':=
 ⟨h.os,h.tape,h.output,h.size,fun k hk=>h.blk k hk fun i hi=>by simp[live] at hi⟩

theorem zkF{w w':World}(h:Below w.heap.size w w')(may:MemPlace->Prop):w.keptBut w' may:=by
 refine⟨h.os,h.output,fun i hi=> ?_⟩
 rw[h.block i hi]
 cases w.heap[i]? with
 |none=>trivial
 |some o=>cases o <;> simp

theorem zdJ(hl:laidOutB P=true){W W':World}(hb:Below W.heap.size W W'):∀{ts:List TypeId} {vs:List Value} {ds:List (DataW H)} {p:List MemPlace},
  (∀t∈ts,P.readableRec t=true/\t<P.types.size)->(∀x∈p,x.block<W.heap.size)->DataW.TrodAll enc P W 0 (fun _=>true) true ts vs ds p->DataW.TrodAll enc P W' 0 (fun b=>decide (b<W.heap.size)) true ts vs ds p
 |[],_,_,_,_,_,h=>by
  obtain⟨rfl,rfl,rfl⟩:=trodAll_nil h
  exact trodAll_mk0
 |t::ts,_,_,_,ht,hp,h=>by
  obtain⟨v,vs,d,ds,a,b,rfl,rfl,rfl,h1,h2⟩:=trodAll_cons h
  obtain⟨k1,k2⟩:=ht t (by simp)
  exact⟨a,b,Below.trod hl k1 k2 h1 hb fun x hx=>hp x (by simp[hx]),zdJ hl hb (fun t h=>ht t (by simp[h])) (fun x hx=>hp x (by simp[hx])) h2,rfl⟩

def zns(P:Program)(fn:Func):Bool:=fn.params.toList.all fun t=>P.readableRec t && decide (t<P.types.size)
def zmc(P:Program)(fn:Func):Bool:=
 match fn.resultTypes.toList with
 |[t]=>zf7 P t
 |_=>false
def zoX(P:Program)(fn:Func):Bool:=zns P fn && zmc P fn && fn.body.isSome && !(fn.name == "runtime.NumGoroutine")

theorem zhX{Γ:Oracle}(hΓ:SoundO P Γ){f:FuncId}{fn:Func}(hf:P.funcs[f]? =some fn)(hfn:zoX P fn=true)(hl:laidOutB P=true){s:ChangeSpec}(hv:s.vars=[])
  {W:World}{args:Array Value}{ds gs:List (DataW H)}{before:List MemPlace}(hs:s.fn H (ds++gs)={ results:=[.lit (.bool true)],args:=ds })
  (hW:DataW.Whole enc P fn.params.toList s.vars false W args.toList ds gs before)
  {avs:List AV}(hL:LR W (noX (P:=P)) noμ [] avs args.toList)(h:Γ .fn f avs []=some (.ret (.pv none (.bool true)),[])):
  Calls P f args W fun e W'=>∃v,e=.returned v/\s.post enc P fn false true false false W args v W':=by
 simp only[zoX,Bool.and_eq_true,Bool.not_eq_true',beq_eq_false_iff_ne,Option.isSome_iff_exists] at hfn
 obtain⟨⟨⟨hp,hbr⟩,c,hb⟩,hn⟩:=hfn
 obtain⟨tb,hr,htb⟩:∃tb,fn.resultTypes= #[tb]/\P.underlying tb=some .bool:=by
  unfold zmc at hbr
  split at hbr
  ·rename_i t ht
   exact⟨t,Array.toList_inj.1 ht,zfx hbr⟩
  ·cases hbr
 have k:=hΓ.fn f avs [] _ _ h W noX noμ args.toList (znr W) hL
 refine(zhW hf hb hn k).mono fun e W' he=> ?_
 cases e with
 |returned u=>
  obtain⟨μ',v,e1,_,hE,hA⟩:=he
  cases e1
  cases hA with|pv _ _ _ _ hA=>
  cases hA
  have hB:=zmb hE
  refine⟨_,rfl,ds,gs,before,[],before,[],hW,?_,?_,?_,zkF hB _,fun h=>by cases h⟩
  ·rw[hs,hr]
   simp only[Value.resultList]
   exact trodAll_mk1 (shut_bool htb true)
  ·rw[hs]
   have hlt:=hW.lt
   obtain⟨p,q,k1,k2,k3,_,_⟩:=hW
   rw[hv] at k2
   obtain⟨_,rfl⟩:=trodVars_none k2
   rw[List.append_nil] at k3
   subst k3
   refine zdJ hl hB (fun t ht=> ?_) hlt k1
   have:=List.all_eq_true.1 hp t ht
   simp only[Bool.and_eq_true,decide_eq_true_eq] at this
   exact this
  ·rw[hs,hv]
   rfl
 |panicked ch=>obtain⟨_,_,_,e1,_⟩:=he;cases e1
 |outgrown=>exact he.elim
end Go.Am

/- Terms as plain data. -/
namespace Go.Am
inductive Tm where
 |mk (kind n:Int) (name:List UInt8) (args:List Tm)
 deriving Inhabited
mutual
def Tm.pv:Tm->PV
 | .mk k n s as=>.agg [(none,.int .i64 k),(none,.int .i64 n),(none,.str s),(none,.sl (some 4) (Tm.pvs as))]
def Tm.pvs:List Tm->List PV
 |[]=>[]
 |t::r=>t.pv::Tm.pvs r
end
def Tm.kind:Tm->Int| .mk k _ _ _=>k
def Tm.n:Tm->Int| .mk _ n _ _=>n
def Tm.name:Tm->List UInt8| .mk _ _ s _=>s
def Tm.args:Tm->List Tm| .mk _ _ _ as=>as
def Tm.av(t:Tm):AV:=.pv (some 4) t.pv
end Go.Am

/- What code comes to: rules that a proof steps by. -/
namespace Go.Am
variable{Γ:Oracle} {Λ:zad} {b:Nat}

class Tag.{u} {α:Sort u} (a:α):Type where
instance tagAny.{u}{α:Sort u}(a:α):Tag a:=⟨⟩

def W(Γ:Oracle)(Λ:zad)(b:Nat)(c:ACode)(st:St)(Q:AExit->St->Prop)[Tag Q]:Prop:=
 match aexec Γ Λ b c st with
 |some (e,st')=>Q e st'
 |none=>False
def O(Γ:Oracle)(b:Nat)(ops:List AOper)(fr:Fr)(hp:Heap)(K:Fr->Heap->Prop)(Kp:PV->Fr->Heap->Prop)[Tag K][Tag Kp]:Prop:=
 match aops Γ b ops fr hp with
 |some (.normal,fr',hp')=>K fr' hp'
 |some (.panic v,fr',hp')=>Kp v fr' hp'
 |_=>False
def seqK(k:St->Prop)(Q:AExit->St->Prop)[Tag k][Tag Q]:AExit->St->Prop
 | .normal,st=>k st
 | .exit i,st=>Q (.exit i) st
 | .ret,st=>Q .ret st
 | .panic v,st=>Q (.panic v) st
def zhY(id:Nat)(Q:AExit->St->Prop)[Tag Q]:AExit->St->Prop
 | .exit i,st=>if i=id then Q .normal st else Q (.exit i) st
 | .normal,st=>Q .normal st
 | .ret,st=>Q .ret st
 | .panic v,st=>Q (.panic v) st
def znt(v:Option AV)(A B:Prop)[Tag A][Tag B]:Prop:=
 match v with
 |some (.pv _ (.bool b))=>if b=true then A else B
 |_=>False
def panK(pan:Bool)(A:Prop)[Tag A]:Prop:=if pan=true then A else False
def zmd(v:Option Bool)(A B:Prop)[Tag A][Tag B]:Prop:=
 match v with
 |some b=>if b=true then A else B
 |none=>False
def argK(v:Option (List AV))(K:List AV->Prop)[Tag K]:Prop:=
 match v with
 |some l=>K l
 |none=>False
def opK(v:Option OpRes)(K:AV->Heap->Prop)(Kp:PV->Heap->Prop)[Tag K][Tag Kp]:Prop:=
 match v with
 |some (.val v hp)=>K v hp
 |some (.panic v hp)=>Kp v hp
 |none=>False
def zcg(v:Option (AV × Heap))(K:AV->Heap->Prop)[Tag K]:Prop:=
 match v with
 |some (v,hp)=>K v hp
 |none=>False
def zoy(v:Option (ARes × Heap))(K:AV->Heap->Prop)(Kp:PV->Heap->Prop)[Tag K][Tag Kp]:Prop:=
 match v with
 |some (.ret v,hp)=>K v hp
 |some (.panic v,hp)=>Kp v hp
 |none=>False

variable{st:St} {Q:AExit->St->Prop} {fr:Fr} {hp:Heap} {K:Fr->Heap->Prop} {Kp:PV->Fr->Heap->Prop}
theorem zoY:W Γ Λ b .skip st Q=Q .normal st:=rfl
theorem zoZ(i:Nat):W Γ Λ b (.exit i) st Q=Q (.exit i) st:=rfl
theorem zpp:W Γ Λ b .ret st Q=Q .ret st:=rfl
theorem zpq(x y:ACode):W Γ Λ b (.seq x y) st Q=W Γ Λ b x st (seqK (fun st'=>W Γ Λ b y st' Q) Q):=by
 unfold W
 simp only[aexec]
 cases aexec Γ Λ b x st with
 |none=>rfl
 |some r=>
  obtain⟨e,st'⟩:=r
  cases e <;> rfl
theorem zo0(c:AArg)(x y:ACode):W Γ Λ b (.cond c x y) st Q=znt (st.fr.arg c) (W Γ Λ b x st Q) (W Γ Λ b y st Q):=by
 unfold W
 simp only[aexec]
 cases st.fr.arg c with
 |none=>rfl
 |some v=>
  cases v with
  |pv s p=>
   cases p with
   |bool v=>cases v <;> simp[znt]
   |_=>rfl
  |_=>rfl
theorem zoz(id:Nat)(c:ACode):W Γ Λ b (.block id c) st Q=W Γ Λ b c st (zhY id Q):=by
 unfold W
 simp only[aexec]
 cases aexec Γ Λ b c st with
 |none=>rfl
 |some r=>
  obtain⟨e,st'⟩:=r
  cases e with
  |exit i=>
   simp only[zhY]
   by_cases h:i=id
   ·simp[h]
   ·simp[h]
  |_=>rfl
theorem znu(pan:Bool)(ops:List AOper)(keep:List Nat):W Γ Λ b (.region pan ops keep) st Q=O Γ b ops st.fr st.hp (fun fr hp=>Q .normal ⟨fr.keep keep,hp⟩) (fun v fr hp=>panK pan (Q (.panic v) ⟨fr.keep keep,hp⟩)):=by
 unfold W O
 simp only[aexec]
 cases aops Γ b ops st.fr st.hp with
 |none=>rfl
 |some r=>
  obtain⟨e,fr,hp⟩:=r
  cases e with
  |panic v=>cases pan <;> simp[panK]
  |_=>rfl
theorem zpr:O Γ b [] fr hp K Kp=K fr hp:=rfl
theorem zod(o:AOper)(r:List AOper):O Γ b (o::r) fr hp K Kp=zmd (wants fr o.guard) (argK (fr.argsOf o.args) fun vs=>opK (aOp Γ b o.op vs hp) (fun v hp'=>O Γ b r (fr.dst o.dst v) hp' K Kp) (fun v hp'=>Kp v fr hp')) (O Γ b r (fr.dst o.dst .undef) hp K Kp):=by
 unfold O
 simp only[aops]
 cases wants fr o.guard with
 |none=>rfl
 |some w=>
  cases w with
  |false=>simp[zmd]
  |true=>
   simp only[zmd,if_true]
   cases fr.argsOf o.args with
   |none=>rfl
   |some vs=>
    simp only[argK]
    cases aOp Γ b o.op vs hp with
    |none=>rfl
    |some r=>cases r <;> rfl
theorem zo1(d:Option Nat)(op:AOp)(as:List AArg)(r:List AOper):O Γ b (⟨d,op,as,none⟩::r) fr hp K Kp=argK (fr.argsOf as) fun vs=>opK (aOp Γ b op vs hp) (fun v hp'=>O Γ b r (fr.dst d v) hp' K Kp) (fun v hp'=>Kp v fr hp'):=by
 rw[zod];rfl
def zhZ(v:Option AV)(w:Bool)(A B:Prop)[Tag A][Tag B]:Prop:=
 match v with
 |some (.pv _ (.bool b))=>if b=w then A else B
 |some .undef=>B
 |_=>False
theorem zoA(d:Option Nat)(op:AOp)(as:List AArg)(s:Nat)(w:Bool)(r:List AOper):O Γ b (⟨d,op,as,some (s,w)⟩::r) fr hp K Kp=zhZ (fr.look s) w (argK (fr.argsOf as) fun vs=>opK (aOp Γ b op vs hp) (fun v hp'=>O Γ b r (fr.dst d v) hp' K Kp) (fun v hp'=>Kp v fr hp')) (O Γ b r (fr.dst d .undef) hp K Kp):=by
 rw[zod]
 simp only[wants]
 cases h:fr.look s with
 |none=>rfl
 |some v=>
  cases v with
  |pv sh p=>
   cases p with
   |bool c=>cases c <;> cases w <;> simp[zmd,zhZ]
   |_=>rfl
  |undef=>simp[zmd,zhZ]
  |_=>rfl
theorem zps(s:Nat):fr.arg (.t s)=fr.look s:=rfl
theorem zpt(v:AV):fr.arg (.c v)=some v:=rfl
theorem zme(k s:Nat)(v:AV)(r:Fr):Fr.look ((k,v)::r) s=if k=s then some v else Fr.look r s:=rfl
theorem znv(d:Nat)(v:AV):fr.dst (some d) v=(d,v)::fr:=rfl
theorem znw(v:AV):fr.dst none v=fr:=rfl
theorem znx:fr.argsOf []=some []:=rfl
def zo2(v:Option AV)(l:Option (List AV)):Option (List AV):=
 match v with
 |none=>none
 |some v=>match l with
  |some l=>some (v::l)
  |none=>none
theorem zmf(a:AArg)(r:List AArg):fr.argsOf (a::r)=zo2 (fr.arg a) (fr.argsOf r):=rfl
theorem zkG(v:AV)(l:List AV):zo2 (some v) (some l)=some (v::l):=rfl
theorem zmg(l:List AV)(K:List AV->Prop):argK (some l) K=K l:=rfl
def iteK(v:Prop)(A B:Prop)[Tag A][Tag B]:Prop:=(v->A)/\(¬v->B)
theorem zkH(s:Sh)(v:Bool)(A B:Prop):znt (some (.pv s (.bool v))) A B=iteK (v=true) A B:=by
 cases v <;> simp[znt,iteK]
theorem zjc(s:Sh)(v w:Bool)(A B:Prop):zhZ (some (.pv s (.bool v))) w A B=iteK (v=w) A B:=by
 cases v <;> cases w <;> simp[zhZ,iteK]
theorem zmh(A B:Prop):iteK True A B=A:=by simp[iteK]
theorem zkI(A B:Prop):iteK False A B=B:=by simp[iteK]
theorem zny(v A B:Prop):iteK (¬v) A B=iteK v B A:=by
 by_cases h:v <;> simp[iteK,h]
theorem zas{v A B:Prop}(hA:v->A)(hB:¬v->B):iteK v A B:=⟨hA,hB⟩
attribute [irreducible] iteK
theorem zkJ(v:AV)(hp:Heap)(K:AV->Heap->Prop):zcg (some (v,hp)) K=K v hp:=rfl
theorem zmi(v:AV)(hp:Heap)(K:AV->Heap->Prop)(Kp:PV->Heap->Prop):zoy (some (.ret v,hp)) K Kp=K v hp:=rfl
theorem znz:fr.keep []=[]:=rfl
def zo3(k:Nat)(v:Option AV)(r:Fr):Fr:=
 match v with
 |some v=>(k,v)::r
 |none=>r
theorem zmj(k:Nat)(ks:List Nat):fr.keep (k::ks)=zo3 k (fr.look k) (fr.keep ks):=rfl
theorem zkK(k:Nat)(v:AV)(r:Fr):zo3 k (some v) r=(k,v)::r:=rfl
theorem zjd(k:St->Prop)(Q:AExit->St->Prop)(st:St):seqK k Q .normal st=k st:=rfl
theorem zmk(k:St->Prop)(Q:AExit->St->Prop)(i:Nat)(st:St):seqK k Q (.exit i) st=Q (.exit i) st:=rfl
theorem znA(k:St->Prop)(Q:AExit->St->Prop)(st:St):seqK k Q .ret st=Q .ret st:=rfl
theorem zgK(id:Nat)(Q:AExit->St->Prop)(st:St):zhY id Q .normal st=Q .normal st:=rfl
theorem zje(id:Nat)(Q:AExit->St->Prop)(i:Nat)(st:St):zhY id Q (.exit i) st=if i=id then Q .normal st else Q (.exit i) st:=rfl
theorem zkL(id:Nat)(Q:AExit->St->Prop)(st:St):zhY id Q .ret st=Q .ret st:=rfl
end Go.Am

/- What code comes to: the operations. -/
namespace Go.Am
variable{Γ:Oracle} {Λ:zad} {b:Nat} {hp:Heap} {vs:List AV} {K:AV->Heap->Prop} {Kp:PV->Heap->Prop}
def valK(v:Option AV)(K:AV->Prop)[Tag K]:Prop:=
 match v with
 |some v=>K v
 |none=>False
def pvK(v:Option PV)(K:PV->Prop)[Tag K]:Prop:=
 match v with
 |some v=>K v
 |none=>False
theorem zml(v:AV)(K:AV->Prop):valK (some v) K=K v:=rfl
theorem znB(v:PV)(K:PV->Prop):pvK (some v) K=K v:=rfl

theorem zpu:opK (aOp Γ b .mv vs hp) K Kp=valK (sMv vs) (fun v=>K v hp):=by
 show opK (match zbd hp (sMv vs) with|some (v,hp')=>some (OpRes.val v hp')|none=>none) K Kp=_
 cases sMv vs <;> rfl
theorem zo4:opK (aOp Γ b .len vs hp) K Kp=valK (sLen vs) (fun v=>K v hp):=by
 show opK (match zbd hp (sLen vs) with|some (v,hp')=>some (OpRes.val v hp')|none=>none) K Kp=_
 cases sLen vs <;> rfl
theorem zoB:opK (aOp Γ b .slen vs hp) K Kp=valK (ziq vs) (fun v=>K v hp):=by
 show opK (match zbd hp (ziq vs) with|some (v,hp')=>some (OpRes.val v hp')|none=>none) K Kp=_
 cases ziq vs <;> rfl
theorem zoC:opK (aOp Γ b .pick vs hp) K Kp=valK (zim vs) (fun v=>K v hp):=by
 show opK (match zbd hp (zim vs) with|some (v,hp')=>some (OpRes.val v hp')|none=>none) K Kp=_
 cases zim vs <;> rfl
theorem zo5:opK (aOp Γ b .not vs hp) K Kp=valK (sNot vs) (fun v=>K v hp):=by
 show opK (match zbd hp (sNot vs) with|some (v,hp')=>some (OpRes.val v hp')|none=>none) K Kp=_
 cases sNot vs <;> rfl
theorem zo6(o:BinOp):opK (aOp Γ b (.bin o) vs hp) K Kp=valK (sBin o vs) (fun v=>K v hp):=by
 show opK (match zbd hp (sBin o vs) with|some (v,hp')=>some (OpRes.val v hp')|none=>none) K Kp=_
 cases sBin o vs <;> rfl
theorem znC(z:List (Sh × AV))(i:List Nat):opK (aOp Γ b (.build z i) vs hp) K Kp=valK (zcC z i vs) (fun v=>K v hp):=by
 show opK (match zbd hp (zcC z i vs) with|some (v,hp')=>some (OpRes.val v hp')|none=>none) K Kp=_
 cases zcC z i vs <;> rfl
theorem znD(o:Nat):opK (aOp Γ b (.faddr o) vs hp) K Kp=valK (zeD o vs) (fun v=>K v hp):=by
 show opK (match zbd hp (zeD o vs) with|some (v,hp')=>some (OpRes.val v hp')|none=>none) K Kp=_
 cases zeD o vs <;> rfl
theorem znE(sh:Sh):opK (aOp Γ b (.iaddr sh) vs hp) K Kp=valK (zd7 sh vs) (fun v=>K v hp):=by
 show opK (match zbd hp (zd7 sh vs) with|some (v,hp')=>some (OpRes.val v hp')|none=>none) K Kp=_
 cases zd7 sh vs <;> rfl
theorem zmm(sh:Sh)(n:Nat):opK (aOp Γ b (.iaddrA sh n) vs hp) K Kp=valK (zbz sh n vs) (fun v=>K v hp):=by
 show opK (match zbd hp (zbz sh n vs) with|some (v,hp')=>some (OpRes.val v hp')|none=>none) K Kp=_
 cases zbz sh n vs <;> rfl
theorem znF(sh:Sh)(l h:Bool):opK (aOp Γ b (.slice sh l h) vs hp) K Kp=valK (zbK sh l h vs) (fun v=>K v hp):=by
 show opK (match zbd hp (zbK sh l h vs) with|some (v,hp')=>some (OpRes.val v hp')|none=>none) K Kp=_
 cases zbK sh l h vs <;> rfl
theorem zmn(f:Fn)(k:Nat):opK (aOp Γ b (.mkfunc f k) vs hp) K Kp=valK (zcD f k vs) (fun v=>K v hp):=by
 show opK (match zbd hp (zcD f k vs) with|some (v,hp')=>some (OpRes.val v hp')|none=>none) K Kp=_
 cases zcD f k vs <;> rfl
theorem zoD(k:IntKind):opK (aOp Γ b (.conv k) vs hp) K Kp=valK (zin k vs) (fun v=>K v hp):=by
 show opK (match zbd hp (zin k vs) with|some (v,hp')=>some (OpRes.val v hp')|none=>none) K Kp=_
 cases zin k vs <;> rfl
theorem zoE(sh:Sh):opK (aOp Γ b (.load sh) vs hp) K Kp=valK (zfm sh hp vs) (fun v=>K v hp):=by
 show opK (match zbd hp (zfm sh hp vs) with|some (v,hp')=>some (OpRes.val v hp')|none=>none) K Kp=_
 cases zfm sh hp vs <;> rfl
theorem znG(sh:Sh):opK (aOp Γ b (.nilsl sh) vs hp) K Kp=zcg (zdc sh hp) K:=by
 show opK (match(zdc sh hp) with|some (v,hp')=>some (OpRes.val v hp')|none=>none) K Kp=_
 cases (zdc sh hp) with
 |none=>rfl
 |some r=>cases r;rfl
theorem znH(sh:Sh)(z:AV):opK (aOp Γ b (.alloc sh z) vs hp) K Kp=zcg (zbW sh z hp vs) K:=by
 show opK (match(zbW sh z hp vs) with|some (v,hp')=>some (OpRes.val v hp')|none=>none) K Kp=_
 cases (zbW sh z hp vs) with
 |none=>rfl
 |some r=>cases r;rfl
theorem zo7(sh:Sh):opK (aOp Γ b (.box sh) vs hp) K Kp=zcg (wBox sh hp vs) K:=by
 show opK (match(wBox sh hp vs) with|some (v,hp')=>some (OpRes.val v hp')|none=>none) K Kp=_
 cases (wBox sh hp vs) with
 |none=>rfl
 |some r=>cases r;rfl
theorem zmo(sh:Sh):opK (aOp Γ b (.bslice sh) vs hp) K Kp=zcg (zb7 sh hp vs) K:=by
 show opK (match(zb7 sh hp vs) with|some (v,hp')=>some (OpRes.val v hp')|none=>none) K Kp=_
 cases (zb7 sh hp vs) with
 |none=>rfl
 |some r=>cases r;rfl
theorem znI(sh:Sh):opK (aOp Γ b (.store sh) vs hp) K Kp=zcg (zba sh b hp vs) K:=by
 show opK (match(zba sh b hp vs) with|some (v,hp')=>some (OpRes.val v hp')|none=>none) K Kp=_
 cases (zba sh b hp vs) with
 |none=>rfl
 |some r=>cases r;rfl
theorem zmp(sh:Sh):opK (aOp Γ b (.append sh) vs hp) K Kp=zcg (zaB sh hp vs) K:=by
 show opK (match(zaB sh hp vs) with|some (v,hp')=>some (OpRes.val v hp')|none=>none) K Kp=_
 cases (zaB sh hp vs) with
 |none=>rfl
 |some r=>cases r;rfl
theorem zoF(s:Sh)(f:FuncId)(as:List AV):opK (aOp Γ b .call (.pv s (.func (.func f))::as) hp) K Kp=zoy (Γ .fn f as hp) K Kp:=by
 simp only[aOp,zcB,zaO,List.nil_append,List.append_nil]
 cases Γ .fn f as hp with
 |none=>rfl
 |some r=>obtain⟨r,hp'⟩:=r;cases r <;> rfl
theorem znJ(f:FuncId)(fs cs as:List AV):opK (aOp Γ b .call (.func (.func f) fs cs::as) hp) K Kp=zoy (Γ .fn f (fs++as++cs) hp) K Kp:=by
 simp only[aOp,zcB,zaO]
 cases Γ .fn f (fs++as++cs) hp with
 |none=>rfl
 |some r=>obtain⟨r,hp'⟩:=r;cases r <;> rfl
end Go.Am
namespace Go.Am
variable{Γ:Oracle} {Λ:zad} {b:Nat} {hp:Heap} {vs:List AV} {K:AV->Heap->Prop} {Kp:PV->Heap->Prop}
end Go.Am

/- What code comes to: values; calls of functions. -/
namespace Go.Am
variable{Γ:Oracle} {Λ:zad} {b:Nat} {hp:Heap} {K:AV->Prop} {s s':Sh} {sh:Sh} {k:IntKind} {x y:Int}

theorem s_mv(v:AV):sMv [v]=some v:=rfl
theorem znK(es:List PV):sLen [.pv s (.sl sh es)]=some (.pv none (.int .i64 es.length)):=rfl
theorem znL(r v o n:Nat):sLen [.sl sh r v o n]=some (.pv none (.int .i64 n)):=rfl
theorem zo8(l:List UInt8):ziq [.pv s (.str l)]=some (.pv none (.int .i64 l.length)):=rfl
theorem zo9(c:Bool)(u v:AV):zim [.pv s (.bool c),u,v]=some (bif c then u else v):=rfl
theorem zpv(c:Bool):sNot [.pv s (.bool c)]=some (.pv none (.bool !c)):=rfl
theorem zmq(o:BinOp):valK (sBin o [.pv s (.int k x),.pv s' (.int k y)]) K=pvK (zbJ o k x y) (fun p=>K (.pv none p)):=by
 simp only[sBin,zk2,if_true]
 cases zbJ o k x y <;> rfl
theorem zmr(o:BinOp)(u v:List UInt8):valK (sBin o [.pv s (.str u),.pv s' (.str v)]) K=pvK (zdl o u v) (fun p=>K (.pv none p)):=by
 simp only[sBin,zk2]
 cases zdl o u v <;> rfl
theorem zpw:zbJ .add k x y=some (.int k (k.wrap (x+y))):=rfl
theorem zpx:zbJ .sub k x y=some (.int k (k.wrap (x - y))):=rfl
theorem zms(h:y≠0):zbJ .rem k x y=some (.int k (x.tmod y)):=by simp[zbJ,h]
theorem zpy:zbJ .eql k x y=some (.bool (decide (x=y))):=rfl
theorem zpz:zbJ .neq k x y=some (.bool (!decide (x=y))):=rfl
theorem zpA:zbJ .lss k x y=some (.bool (decide (x<y))):=rfl
theorem zpB:zbJ .leq k x y=some (.bool (decide (x<=y))):=rfl
theorem zpC:zbJ .gtr k x y=some (.bool (decide (y<x))):=rfl
theorem zpD:zbJ .geq k x y=some (.bool (decide (y<=x))):=rfl
theorem zpa{u v:List UInt8}(h:u.length+v.length<=lim):zdl .add u v=some (.str (u++v)):=by simp[zdl,h]
theorem zpb{u v:List UInt8}:zdl .eql u v=some (.bool (decide (u=v))):=rfl
theorem zjf(o r o':Nat):zeD o [.ptr r o']=some (.ptr r (o'+o)):=rfl
theorem zaE{es:List PV}{i:Nat}{p:PV}(h:es[i]? =some p):zd7 sh [.pv s (.sl sh es),.pv s' (.int k i)]=some (.iptr sh p 0):=by
 simp[zd7,aindex,h]
theorem zpc(k':IntKind):zin k' [.pv s (.int k x)]=some (.pv none (.int k' (k'.wrap x))):=rfl
theorem zmt(fn:Fn)(n:Nat)(v:AV)(l:List AV):zcD fn n (v::l)=some (.func fn ((v::l).take n) ((v::l).drop n)):=rfl
theorem zpd(p:AV):zfm sh hp [p]=aload sh hp p:=rfl
def zjg(sh:Sh)(off:Nat):Option AObj->Option AV
 |some (.box s v)=>if off=0/\s=sh then some v else AV.part deep v off sh
 |_=>none
theorem zmu(r off:Nat):aload sh hp (.ptr r off)=zjg sh off hp[r]? :=by
 unfold zjg
 simp only[aload]
 split <;> simp_all
theorem zjh(off:Nat)(v:AV):zjg sh off (some (.box s v))=if off=0/\s=sh then some v else AV.part deep v off sh:=rfl
def toAV(sh:Sh):Option PV->Option AV
 |some p=>some (.pv sh p)
 |none=>none
theorem zmv(p:PV):toAV sh (some p)=some (.pv sh p):=rfl
theorem zkM(p:PV)(off:Nat):aload sh hp (.iptr s p off)=if off=0/\s=sh then some (.pv sh p) else toAV sh (PV.part deep p off sh):=by
 simp only[aload,toAV]
 split
 ·rfl
 ·cases PV.part deep p off sh <;> rfl
theorem zoG(p:PV)(off:Nat):AV.part deep (.pv s p) off sh=toAV sh (PV.part deep p off sh):=by
 show AV.part (7+1) (.pv s p) off sh=toAV sh (PV.part (7+1) p off sh)
 simp only[AV.part,toAV]
 cases PV.part (7+1) p off sh <;> rfl
theorem znM(l:List (Sh × PV))(off:Nat):PV.part deep (.agg l) off sh=PV.part.go 7 off sh l:=rfl
theorem zmw(l:List (Sh × AV))(off:Nat):AV.part deep (.agg l) off sh=AV.part.go 7 off sh l:=rfl
theorem zh0(d off:Nat)(p:PV)(r:List (Sh × PV)):PV.part.go d off sh ((s,p)::r)=if off=0/\s=sh then some p else if off<s.size then PV.part d p off sh else PV.part.go d (off - s.size) sh r:=rfl
theorem zgL(d off:Nat)(p:AV)(r:List (Sh × AV)):AV.part.go d off sh ((s,p)::r)=if off=0/\s=sh then some p else if off<s.size then AV.part d p off sh else AV.part.go d (off - s.size) sh r:=rfl
theorem zmx:Sh.size none=1:=rfl
theorem zmy(n:Nat):Sh.size (some n)=n:=rfl
def endK(rs:List RSlot)(Q:AV->Heap->Prop)[Tag Q]:AExit->St->Prop
 | .normal,st=>match zaw st rs with
  |some v=>Q v st.hp
  |none=>False
 | .ret,st=>match zaw st rs with
  |some v=>Q v st.hp
  |none=>False
 |_,_=>False
theorem zgM(rs:List RSlot)(Q:AV->Heap->Prop)(st:St):endK rs Q .ret st=valK (zaw st rs) (fun v=>Q v st.hp):=by
 show(match zaw st rs with|some v=>Q v st.hp|none=>False)=_
 cases zaw st rs <;> rfl
theorem zdk(rs:List RSlot)(Q:AV->Heap->Prop)(st:St):endK rs Q .normal st=valK (zaw st rs) (fun v=>Q v st.hp):=by
 show(match zaw st rs with|some v=>Q v st.hp|none=>False)=_
 cases zaw st rs <;> rfl
theorem zkN(st:St)(r:Nat):zaw st [(r,none)]=st.fr.look r:=rfl
theorem zji(st:St)(r:Nat)(sh:Sh):zaw st [(r,some sh)]=(match st.fr.look r with|some p=>aload sh st.hp p|none=>none):=rfl
theorem zh1(st:St):zaw st []=some (.tuple []):=rfl
theorem zmz(p:Nat->Bool):(AV.tuple []).refsIn.all p=true:=rfl
theorem zkO(i:Nat):params i []=[]:=rfl
theorem zjj(i:Nat)(v:AV)(r:List AV):params i (v::r)=(i,v)::params (i+1) r:=rfl

def frozen(v:AV):AV->Heap->Prop:=fun v' hp=>∃hp',v'.freezeRes hp=some (v,hp')
theorem zmA(p:PV)(v:AV):frozen v (.pv s p) hp=(.pv s p=v):=by
 have h:AV.freeze deep (.pv s p) hp=some (p,hp):=rfl
 simp only[frozen,AV.freezeRes,h,AV.shp]
 exact propext ⟨fun⟨_,h⟩=>by cases h;rfl,fun h=>⟨hp,by rw[h]⟩⟩
theorem zaf:∀(ps:List (Sh × PV)),zam (pvs ps) hp=some (ps,hp)
 |[]=>rfl
 |(sh,p)::r=>by
  have h:AV.freeze deep (.pv sh p) hp=some (p,hp):=rfl
  show zam (.pv sh p::pvs r) hp=_
  simp only[zam,h,zaf r,AV.shp]

variable{F:FuncId->Option AFn} {prim:FuncId->Option zbE}
theorem zaA{f:FuncId}{fn:AFn}{args:List AV}{ps:List (Sh × PV)}{hp:Heap}{v:AV}(hp0:prim f=none)(hf:F f=some fn)(hm:fn.heapMode=false)(hz:zam args hp=some (ps,hp))(hn:(pvs ps).length=fn.nparams)
  (h:W (sem F prim) (sloop F prim) 0 fn.code ⟨params 0 (pvs ps),[]⟩ (endK fn.results (frozen v)))(hr:fn.rcv=none:=by rfl)(hmo:fn.more=[]:=by rfl):sem F prim .fn f args hp=some (.ret v,hp):=by
 rw[zjR]
 unfold zaZ
 rw[hp0,hf]
 simp only[hr,hmo,Option.isSome_none,hm,Bool.false_eq_true,if_false,hz,abody,hn,ne_eq,not_true_eq_false]
 unfold W at h
 split at h
 ·rename_i e st' he
  have hl:([]:Heap).length=0:=rfl
  rw[hl,he]
  cases e with
  |normal=>
   rw[zdk] at h
   cases hr:zaw st' fn.results with
   |none=>rw[hr] at h;exact h.elim
   |some u=>
    rw[hr] at h
    obtain⟨hp',h⟩:=h
    simp only[hr,h]
    cases v.scalar <;> rfl
  |ret=>
   rw[zgM] at h
   cases hr:zaw st' fn.results with
   |none=>rw[hr] at h;exact h.elim
   |some u=>
    rw[hr] at h
    obtain⟨hp',h⟩:=h
    simp only[hr,h]
    cases v.scalar <;> rfl
  |exit i=>exact h.elim
  |panic v=>exact h.elim
 ·exact h.elim
theorem zfc(I:Nat->St->Prop){b:Nat}{keep:List Nat}{c:ACode}{st:St}{Q:AExit->St->Prop}{n:Nat}(h0:I n ⟨st.fr.keep keep,st.hp⟩)
  (h:∀n st1,I n st1->W (sem F prim) (sloop F prim) b c st1 (fun e st'=>match e with
   | .normal=>∃m,m<n/\I m ⟨st'.fr.keep keep,collect st.hp.length b (st'.fr.keep keep) st'.hp⟩
   |e=>Q e st')):W (sem F prim) (sloop F prim) b (.loop keep c) st Q:=by
 unfold W
 simp only[aexec]
 have key:∀n st1,I n st1->match sloop F prim b st.hp.length keep c st1 with|some (e,st')=>Q e st'|none=>False:=by
  intro n
  induction n using Nat.strongRecOn with
  |_ n ih=>
   intro st1 hI
   have hw:=h n st1 hI
   unfold W at hw
   rw[znp]
   split at hw
   ·rename_i e st' he
    rw[he]
    cases e with
    |normal=>
     obtain⟨m,hm,hI'⟩:=hw
     exact ih m hm _ hI'
    |exit i=>exact hw
    |ret=>exact hw
    |panic v=>exact hw
   ·exact hw.elim
 exact key n _ h0
end Go.Am
namespace Go.Am
variable{Γ:Oracle} {Λ:zad} {b:Nat} {hp:Heap} {K:AV->Heap->Prop} {s s':Sh} {sh:Sh} {k:IntKind} {x y:Int}
theorem zoH:Am.pvs []=[]:=rfl
theorem znN(s:Sh)(p:PV)(r:List (Sh × PV)):Am.pvs ((s,p)::r)=.pv s p::Am.pvs r:=rfl
theorem zcR{α:Type}(l:List α)(x y:α):(l++[x]).set l.length y=l++[y]:=by
 rw[List.set_append_right _ _ (Nat.le_refl _)]
 simp
theorem zkP(p:PV):zbW sh (.pv sh p) hp []=some (.ptr hp.length 0,hp++[.box sh (.pv sh p)]):=by
 simp only[zbW,AV.plain,AV.shp,and_self,if_true,AV.own,zcR]
theorem znO(p:PV):wBox sh hp [.pv sh p]=some (.ptr hp.length 0,hp++[.box sh (.pv sh p)]):=by
 simp only[wBox,AV.plain,AV.shp,and_self,if_true,AV.own,zcR]
def zoe(sh:Sh)(n:Nat):List (Sh × AV) × Heap->Option (AV × Heap)
 |(l,hp)=>some (.ptr n 0,hp.set n (.box sh (.agg l)))
theorem zmB(n:Nat)(l:List (Sh × AV)):zoe sh n (l,hp)=some (.ptr n 0,hp.set n (.box sh (.agg l))):=rfl
theorem zjk(l:List (Sh × AV)):zbW sh (.agg l) hp []=if some (total l)=sh then zoe sh hp.length (zag l (hp++[.box sh (.agg l)])) else none:=by
 simp only[zbW,AV.plain,AV.shp,true_and,AV.own]
 rfl
theorem zoI:zag [] hp=([],hp):=rfl
def zfd(x:Sh × AV):List (Sh × AV) × Heap->List (Sh × AV) × Heap
 |(l,hp)=>(x::l,hp)
theorem zkQ(u:Sh × AV)(l:List (Sh × AV)):zfd u (l,hp)=(u::l,hp):=rfl
theorem zh2(r:List (Sh × AV)):zag ((s,.tsl sh [])::r) hp=if 0<sh.size then zfd (s,.sl sh hp.length 0 0 0) (zag r (hp++[.arr sh [] false])) else zfd (s,.tsl sh []) (zag r hp):=rfl
theorem zjl(p:PV)(r:List (Sh × AV)):zag ((s,.pv s' p)::r) hp=zfd (s,.pv s' p) (zag r hp):=rfl
theorem zmC:total ([]:List (Sh × AV))=0:=rfl
theorem zkR(v:AV)(r:List (Sh × AV)):total ((s,v)::r)=s.size+total r:=rfl
def boxK(o:Option AObj)(K:Sh->AV->Prop)[Tag K]:Prop:=
 match o with
 |some (.box s v)=>K s v
 |_=>False
theorem znP(v:AV)(K:Sh->AV->Prop):boxK (some (.box s v)) K=K s v:=rfl
theorem zkS(r off:Nat)(p:PV):zcg (zba sh b hp [.ptr r off,.pv sh p]) K=boxK hp[r]? fun s old=>if off=0/\s=sh then K .undef (hp.set r (.box s (.pv sh p))) else
  valK (AV.upd deep old off sh (.pv sh p)) fun new=>K .undef (hp.set r (.box s new)):=by
 simp only[zba,astore,AV.plain,AV.shp,AV.own,AV.refsIn,List.all_nil]
 cases hp[r]? with
 |none=>rfl
 |some o=>
  cases o with
  |box s old=>
   simp only[boxK]
   by_cases h1:off=0/\s=sh
   ·obtain⟨h1,h2⟩:=h1
    subst h1;subst h2
    by_cases hb:b<=r <;> simp[hb,zcg]
   ·cases hu:AV.upd deep old off sh (.pv sh p) with
    |none=>by_cases hb:b<=r <;> simp[hb,h1,zcg,valK]
    |some new=>by_cases hb:b<=r <;> simp[hb,h1,zcg,valK]
  |arr s es fz=>rfl
  |map s es=>rfl
  |loop f ps env bz=>rfl
  |arv s es=>rfl
theorem zh3{r:Nat}(h:b<=r)(fn:Fn)(fs cs:List AV):zcg (zba none b hp [.ptr r 0,.func fn fs cs]) K=boxK hp[r]? fun s old=>if s=none then K .undef (hp.set r (.box s (.func fn fs cs))) else valK (AV.upd deep old 0 none (.func fn fs cs)) fun new=>K .undef (hp.set r (.box s new)):=by
 simp only[zba,astore,AV.plain,AV.shp,AV.own]
 cases hp[r]? with
 |none=>rfl
 |some o=>
  cases o with
  |box s old=>
   simp only[boxK,if_pos h]
   by_cases h1:s=none
   ·subst h1
    simp[zcg]
   ·cases hu:AV.upd deep old 0 none (.func fn fs cs) with
    |none=>simp[h1,zcg,valK]
    |some new=>simp[h1,zcg,valK]
  |arr s es fz=>rfl
  |map s es=>rfl
  |loop f ps env bz=>rfl
  |arv s es=>rfl
theorem zmD(h:0<sh.size):zdc sh hp=some (.sl sh hp.length 0 0 0,hp++[.arr sh [] false]):=by
 simp[zdc,h]
def zpe(x:Sh × PV):Option (List (Sh × PV) × Heap)->Option (List (Sh × PV) × Heap)
 |some (l,hp)=>some (x::l,hp)
 |none=>none
theorem zkT(x:Sh × PV)(l:List (Sh × PV))(hp:Heap):zpe x (some (l,hp))=some (x::l,hp):=rfl
theorem zgN(hp:Heap):zam [] hp=some ([],hp):=rfl
theorem zh4(s:Sh)(p:PV)(r:List AV)(hp:Heap):zam (.pv s p::r) hp=zpe (s,p) (zam r hp):=by
 have h:AV.freeze deep (.pv s p) hp=some (p,hp):=rfl
 simp only[zam,h,AV.shp]
 cases zam r hp with
 |none=>rfl
 |some x=>rfl
def bslO(sh:Sh):Option (List PV)->Heap->Option (AV × Heap)
 |some es,hp=>some (.tsl sh es,hp)
 |none,_=>none
def bslZ(sh:Sh):Option (List (Sh × PV) × Heap)->Option (AV × Heap)
 |some (ps,hp)=>bslO sh (za4 sh ps) hp
 |none=>none
theorem znQ(sh:Sh)(hp:Heap)(vs:List AV):zb7 sh hp vs=bslZ sh (zam vs hp):=by
 unfold zb7 bslZ
 cases zam vs hp with
 |none=>rfl
 |some x=>
  obtain⟨ps,hp'⟩:=x
  simp only[]
  cases za4 sh ps <;> rfl
theorem zmE(sh:Sh)(ps:List (Sh × PV))(hp:Heap):bslZ sh (some (ps,hp))=bslO sh (za4 sh ps) hp:=rfl
theorem zmF(sh:Sh)(es:List PV)(hp:Heap):bslO sh (some es) hp=some (.tsl sh es,hp):=rfl
def zpf(p:PV):Option (List PV)->Option (List PV)
 |some l=>some (p::l)
 |none=>none
theorem zkU(p:PV)(l:List PV):zpf p (some l)=some (p::l):=rfl
theorem zjm(sh:Sh):za4 sh []=some []:=rfl
theorem zh5(sh s:Sh)(p:PV)(r:List (Sh × PV)):za4 sh ((s,p)::r)=if s=sh then zpf p (za4 sh r) else none:=by
 simp only[za4]
 split
 ·cases za4 sh r <;> rfl
 ·rfl
def znR(sh:Sh)(n:Nat):Option AObj->Prop
 |some (.arr s es false)=>s=sh/\es.length=n
 |_=>False
def okArrF(n:Nat):Option AObj->Prop
 |some (.arr _ es _)=>es.length=n
 |_=>False
def zoJ:Option AObj->List PV
 |some (.arr _ es _)=>es
 |_=>[]
theorem zmG{sh s:Sh}{n:Nat}(es:List PV):znR sh n (some (.arr s es false))=(s=sh/\es.length=n):=rfl
theorem zmH{s:Sh}{fz:Bool}(es:List PV):zoJ (some (.arr s es fz))=es:=rfl
theorem znS{sh:Sh}{n:Nat}{o:Option AObj}(h:znR sh n o):∃es,o=some (.arr sh es false)/\es.length=n:=by
 unfold znR at h
 split at h
 ·obtain⟨rfl,h⟩:=h;exact⟨_,rfl,h⟩
 ·exact h.elim
theorem zh6{sh s:Sh}{hp:Heap}{r n:Nat}{new:List PV}(h:znR sh n hp[r]?)(h2:n+new.length<=lim):zaB sh hp [.sl s r n 0 n,.tsl sh new]=some (.sl sh r (n+new.length) 0 (n+new.length),hp.set r (.arr sh (zoJ hp[r]? ++new) false)):=by
 obtain⟨es,ho,rfl⟩:=znS h
 simp[zaB,aappend,elems,ho,h2,zoJ]
def zoK(sh:Sh):Option AObj->Prop
 |some (.box s _)=>s=sh
 |_=>False
theorem zmI(sh s:Sh)(v:AV):zoK sh (some (.box s v))=(s=sh):=rfl
def zgO(r:Nat)(sh:Sh):List (Sh × AV) × Heap->Option (AV × Heap)
 |(l,hp1)=>some (.undef,hp1.set r (.box sh (.agg l)))
theorem zjn(r:Nat)(sh:Sh)(l:List (Sh × AV))(hp1:Heap):zgO r sh (l,hp1)=some (.undef,hp1.set r (.box sh (.agg l))):=rfl
theorem zbr{b r:Nat}{sh:Sh}{hp:Heap}(h:b<=r)(l:List (Sh × AV))(hs:some (total l)=sh)(ho:zoK sh hp[r]?):zba sh b hp [.ptr r 0,.agg l]=zgO r sh (zag l hp):=by
 cases ho':hp[r]? with
 |none=>rw[ho'] at ho;exact ho.elim
 |some o=>
  rw[ho'] at ho
  cases o with
  |box s old=>
   simp only[zoK] at ho
   subst ho
   simp only[zba,astore,ho',AV.plain,AV.shp,AV.own,hs,if_pos h]
   cases zag l hp with
   |mk l' hp'=>simp[zgO]
  |arr s es fz=>exact ho.elim
  |map s es=>exact ho.elim
  |loop f ps env bz=>exact ho.elim
  |arv s es=>exact ho.elim
theorem zfT{b r:Nat}{s':Sh}{hp:Heap}{K:AV->Heap->Prop}{q v o n off:Nat}(h:b<=r):zcg (zba none b hp [.ptr r off,.sl s' q v o n]) K=boxK hp[r]? fun s old=>if off=0/\s=none then K .undef (hp.set r (.box s (.sl s' q v o n))) else
  valK (AV.upd deep old off none (.sl s' q v o n)) fun new=>K .undef (hp.set r (.box s new)):=by
 simp only[zba,astore,AV.plain,AV.shp,AV.own]
 cases hp[r]? with
 |none=>rfl
 |some ob=>
  cases ob with
  |box s old=>
   simp only[boxK,if_pos h]
   by_cases h1:off=0/\s=none
   ·obtain⟨h1,h2⟩:=h1
    subst h1;subst h2
    simp[zcg]
   ·cases hu:AV.upd deep old off none (.sl s' q v o n) with
    |none=>simp[h1,zcg,valK]
    |some new=>simp[h1,zcg,valK]
  |arr s es fz=>rfl
  |map s es=>rfl
  |loop f ps env bz=>rfl
  |arv s es=>rfl
end Go.Am

/- (empty) -/

/- The steps, as one set. -/
namespace Go.Am
attribute [go_sem] zoY zoZ zpp zpq zo0 zoz znu zpr zo1 zoA zps zpt zme znv znw znx zmf zkG zmg zkH zjc zmh zkI zny zkJ zmi znz zmj zkK zjd zmk znA zgK zje zkL zml znB zpu zo4 zoB zoC zo5 zo6 znC znD znE zmm znF zmn zoD zoE znG znH zo7 zmo znI zmp zoF znJ s_mv znK znL zo8 zo9 zpv zmq zmr zpw zpx zpy zpz zpA zpB zpC zpD zpb zjf zpc zmt zpd zmu zjh zmv zkM zoG znM zmw zh0 zgL zmx zmy zgM zdk zkN zkO zjj zh1 zmz zmA zkP znO zoI zkQ zh2 zjl zjk zmB zmC zkR znP zkS zkT zgN zh4 znQ zmE zmF zkU zjm zh5 zmG zmH zh6 zjn zmI zji if_true if_false true_and and_true false_and and_false and_self Nat.zero_add Nat.add_zero eq_self Bool.true_eq_false Bool.false_eq_true cond_true cond_false decide_eq_true_eq Bool.not_eq_true' Bool.not_eq_false' decide_eq_false_iff_not not_true_eq_false not_false_eq_true Bool.true_and Bool.false_and Bool.and_true Bool.and_false Bool.not_true Bool.not_false Option.some.injEq decide_true decide_false List.getElem?_cons_zero List.getElem?_cons_succ List.length_cons List.length_nil List.nil_append List.cons_append List.set_cons_zero List.set_cons_succ List.take_zero List.drop_zero znN zoH
end Go.Am

/- Terms: sizes, valid ones; how their parts are read. -/
namespace Go.Am
mutual
def Tm.size:Tm->Nat
 | .mk _ _ _ as=>1+Tm.sizes as
def Tm.sizes:List Tm->Nat
 |[]=>0
 |t::r=>t.size+Tm.sizes r
end
theorem Tm.size_eq(t:Tm):t.size=1+Tm.sizes t.args:=by cases t;simp[Tm.size,Tm.args]
theorem Tm.size_pos(t:Tm):0<t.size:=by rw[Tm.size_eq];omega
theorem Tm.zpP:∀{l:List Tm} {t:Tm},t∈l->t.size<=Tm.sizes l
 |x::r,t,h=>by
  simp only[Tm.sizes]
  rcases List.mem_cons.1 h with rfl|h
  ·omega
  ·have:=Tm.zpP h;omega
theorem Tm.zpE(l r:List Tm):Tm.sizes (l++r)=Tm.sizes l+Tm.sizes r:=by
 induction l with
 |nil=>simp[Tm.sizes]
 |cons x l ih=>simp only[List.cons_append,Tm.sizes,ih];omega
theorem Tm.zpF(l:List Tm):l.length<=Tm.sizes l:=by
 induction l with
 |nil=>simp
 |cons x l ih=>have:=x.size_pos;simp only[List.length_cons,Tm.sizes];omega
theorem Tm.zpQ{l:List Tm}{i:Nat}{t:Tm}(h:l[i]? =some t):Tm.sizes (l.take (i+1))=Tm.sizes (l.take i)+t.size:=by
 rw[List.take_add_one,h,Tm.zpE]
 simp[Tm.sizes]
theorem Tm.zpG(l:List Tm)(i:Nat):Tm.sizes (l.take i)<=Tm.sizes l:=by
 have h:=Tm.zpE (l.take i) (l.drop i)
 rw[List.take_append_drop] at h
 omega
theorem Tm.zpK{t u:Tm}(h:u∈t.args):u.size<t.size:=by
 have:=Tm.zpP h
 rw[t.size_eq]
 omega
theorem Tm.zpL{P:Tm->Prop}(h:∀t:Tm,(∀u∈t.args,P u)->P t)(t:Tm):P t:=by
 have:∀n (t:Tm),t.size<=n->P t:=by
  intro n
  induction n with
  |zero=>intro t ht;have:=t.size_pos;omega
  |succ n ih=>exact fun t ht=>h t fun u hu=>ih u (by have:=Tm.zpK hu;omega)
 exact this _ t (Nat.le_refl _)
theorem Tm.zpJ(l:List Tm):Tm.pvs l=l.map Tm.pv:=by
 induction l with
 |nil=>rfl
 |cons x l ih=>simp[Tm.pvs,ih]
theorem Tm.pvs_get{l:List Tm}{i:Nat}{t:Tm}(h:l[i]? =some t):(Tm.pvs l)[i]? =some t.pv:=by simp[Tm.zpJ,h]
theorem Tm.pvs_len(l:List Tm):(Tm.pvs l).length=l.length:=by simp[Tm.zpJ]
theorem Tm.zpM(l r:List Tm):Tm.pvs (l++r)=Tm.pvs l++Tm.pvs r:=by simp[Tm.zpJ]
theorem Tm.zpT{l:List Tm}{i:Nat}{t:Tm}(h:l[i]? =some t):Tm.pvs (l.take i)++[t.pv]=Tm.pvs (l.take (i+1)):=by
 rw[List.take_add_one,h,Tm.zpM]
 rfl
theorem Tm.zpV(l:List Tm)(i:Nat):(Tm.pvs l).take i=Tm.pvs (l.take i):=by simp[Tm.zpJ]
theorem Tm.zpZ(l:List Tm)(i:Nat):(Tm.pvs l).drop i=Tm.pvs (l.drop i):=by simp[Tm.zpJ]
theorem zcS(t:Tm):PV.part deep t.pv 0 none=some (.int .i64 t.kind):=by cases t;rfl
theorem zh7(t:Tm):PV.part deep t.pv 1 none=some (.int .i64 t.n):=by cases t;rfl
theorem zcT(t:Tm):PV.part deep t.pv 2 none=some (.str t.name):=by cases t;rfl
theorem zao(t:Tm):PV.part deep t.pv 3 none=some (.sl (some 4) (Tm.pvs t.args)):=by cases t;rfl
theorem zch{x:Int}(h: -9223372036854775808<=x)(h':x<9223372036854775808):IntKind.i64.wrap x=x:=by
 rw[IntKind.wrap_i64]
 omega
end Go.Am
namespace Go.Am
def Tm.node(t:Tm):Bool:=
 if t.kind=0 then decide (0<=t.n) && decide (t.n<=1099511627776) && decide (t.name=[]) && decide ((t.args.length:Int)=0)
 else if t.kind=1 then decide (t.name=[]) && decide ((t.args.length:Int)=0)
 else if t.kind=2 then decide (t.n=0) && decide ((t.name.length:Int)<=100) && decide ((t.args.length:Int)=0)
 else if t.kind=3 then decide (t.n=0) && decide ((t.name.length:Int)<=100) && decide (0<(t.args.length:Int)) && decide ((t.args.length:Int)<=8)
 else false
mutual
def Tm.fits:Tm->Bool
 | .mk k n s as=>Tm.node (.mk k n s as) && Tm.fitsAll as
def Tm.fitsAll:List Tm->Bool
 |[]=>true
 |t::r=>t.fits && Tm.fitsAll r
end
theorem Tm.zpH(t:Tm):t.fits=(t.node && Tm.fitsAll t.args):=by cases t;simp[Tm.fits,Tm.args]
theorem Tm.zpX{t:Tm}(h:t.node=true/\Tm.fitsAll t.args=true):t.name.length<1000000000:=by
 have h:=h.1
 unfold Tm.node at h
 split at h
 ·simp only[Bool.and_eq_true,decide_eq_true_eq] at h;simp[h.1.2]
 ·split at h
  ·simp only[Bool.and_eq_true,decide_eq_true_eq] at h;simp[h.1]
  ·split at h
   ·simp only[Bool.and_eq_true,decide_eq_true_eq] at h;omega
   ·split at h
    ·simp only[Bool.and_eq_true,decide_eq_true_eq] at h;omega
    ·cases h
theorem Tm.fitsAll_iff{l:List Tm}:Tm.fitsAll l=true↔∀t∈l,t.fits=true:=by
 induction l with
 |nil=>simp[Tm.fitsAll]
 |cons x l ih=>simp[Tm.fitsAll,ih]
theorem Tm.zpI(l r:List Tm):Tm.fitsAll (l++r)=(Tm.fitsAll l && Tm.fitsAll r):=by
 induction l with
 |nil=>simp[Tm.fitsAll]
 |cons x l ih=>simp[Tm.fitsAll,ih,Bool.and_assoc]
theorem Tm.zpN{l:List Tm}{i:Nat}{t:Tm}(h:l[i]? =some t):Tm.fitsAll (l.take (i+1))=(Tm.fitsAll (l.take i) && t.fits):=by
 rw[List.take_add_one,h,Tm.zpI]
 simp[Tm.fitsAll]
theorem Tm.zpO{t u:Tm}(h:t.fits=true)(hu:u∈t.args):u.fits=true:=by
 rw[Tm.zpH,Bool.and_eq_true] at h
 exact Tm.fitsAll_iff.1 h.2 u hu
def Tm.valid(t:Tm):Bool:=decide (t.size<=2000) && t.fits
end Go.Am

/- Functions that run on their caller's heap; loops' heaps. -/
namespace Go.Am
variable{F:FuncId->Option AFn} {prim:FuncId->Option zbE}
theorem zeA{f:FuncId}{fn:AFn}{args:List AV}{hp hp':Heap}{v:AV}(hp0:prim f=none)(hf:F f=some fn)(hm:fn.heapMode=true)(hn:args.length=fn.nparams)
  (h:W (sem F prim) (sloop F prim) hp.length fn.code ⟨params 0 args,hp⟩ (endK fn.results (fun v' h'=>v'=v/\(if v.refsIn.all (fun q=>decide (q<hp.length))=true then h'.take hp.length else h')=hp')))(hr:fn.rcv=none:=by rfl)(hmo:fn.more=[]:=by rfl):sem F prim .fn f args hp=some (.ret v,hp'):=by
 rw[zjR]
 unfold zaZ
 rw[hp0,hf]
 simp only[hr,hmo,Option.isSome_none,Bool.false_eq_true,if_false,hm,if_true,abody,hn,ne_eq,not_true_eq_false,if_false]
 unfold W at h
 split at h
 ·rename_i e st' he
  rw[he]
  cases e with
  |normal=>
   rw[zdk] at h
   cases hr:zaw st' fn.results with
   |none=>rw[hr] at h;exact h.elim
   |some u=>
    rw[hr] at h
    obtain⟨h1,h2⟩:=h
    simp only[hr,h1,h2]
  |ret=>
   rw[zgM] at h
   cases hr:zaw st' fn.results with
   |none=>rw[hr] at h;exact h.elim
   |some u=>
    rw[hr] at h
    obtain⟨h1,h2⟩:=h
    simp only[hr,h1,h2]
  |exit i=>exact h.elim
  |panic v=>exact h.elim
 ·exact h.elim
theorem zc9{n b:Nat}{fr:Fr}{hp:Heap}(h:hp.length=n):collect n b fr hp=hp:=by
 unfold collect
 split
 ·rw[<-h,List.take_length]
 ·rfl
theorem get_app{α:Type}{l r:List α}{i:Nat}(h:i<l.length):(l++r)[i]? =l[i]? :=List.getElem?_append_left h
theorem znT{α:Type}(l:List α)(x:α):(l++[x])[l.length]? =some x:=by simp
theorem set_app{α:Type}{l r:List α}{i:Nat}(h:i<l.length)(x:α):(l++r).set i x=l.set i x++r:=by rw[List.set_append_left _ _ h]
theorem zof{α:Type}{l:List α}{i:Nat}{x:α}(h:l[i]? =some x):i<l.length:=(List.getElem?_eq_some_iff.1 h).1
end Go.Am
namespace Go.Am
variable{Γ:Oracle} {Λ:zad} {b:Nat}
end Go.Am

namespace Go.Am
theorem zh8{b:Nat}{fr:Fr}(x:AObj):collect 1 b fr [x]=[x]:=zc9 rfl
theorem zh9{b:Nat}{fr:Fr}:collect 0 b fr []=[]:=zc9 rfl
theorem znU{F:FuncId->Option AFn}{prim:FuncId->Option zbE}{f:FuncId}{p:zbE}(h:prim f=some p)(as:List AV)(hp:Heap):sem F prim .fn f as hp=p f as hp:=by
 rw[zjR]
 unfold zaZ
 rw[h]
theorem zcU{r o n:Nat}{x:Int}{k:IntKind}{s:Sh}(sh:Sh)(h:0<=x/\x<n):zbz sh n [.ptr r o,.pv s (.int k x)]=some (.ptr r (o+x.toNat*sh.size)):=by
 simp[zbz,h]
def cmpI(x y:Int):Int:=if x<y then -1 else if y<x then 1 else 0
def zbC(x y:Int):Int:=if x=0 then y else x
mutual
def Tm.cmp:Tm->Tm->Int
 | .mk k n s as,.mk k' n' s' as'=>zbC (cmpI k k') (zbC (cmpI n n') (zbC (cmpI as.length as'.length) (zbC (Lib.compareBytes s s') (Tm.cmps as as'))))
def Tm.cmps:List Tm->List Tm->Int
 |x::r,y::r'=>zbC (x.cmp y) (Tm.cmps r r')
 |_,_=>0
end
theorem Tm.zpR(a b:Tm):a.cmp b=zbC (cmpI a.kind b.kind) (zbC (cmpI a.n b.n) (zbC (cmpI a.args.length b.args.length) (zbC (Lib.compareBytes a.name b.name) (Tm.cmps a.args b.args)))):=by
 cases a;cases b;rfl
theorem zbS(x:Int):cmpI x x=0:=by simp[cmpI]
theorem zkV(y:Int):zbC 0 y=y:=rfl
theorem znV{x:Int}(h:x≠0)(y:Int):zbC x y=x:=if_neg h
theorem cmpI_zero{x y:Int}:cmpI x y=0↔x=y:=by
 unfold cmpI
 split
 ·constructor <;> intro h <;> omega
 ·split <;> constructor <;> intro h <;> omega
theorem Tm.zpY{l r:List Tm}{i:Nat}{x y:Tm}(h:l[i]? =some x)(h':r[i]? =some y):Tm.cmps (l.drop i) (r.drop i)=zbC (x.cmp y) (Tm.cmps (l.drop (i+1)) (r.drop (i+1))):=by
 obtain⟨h1,rfl⟩:=List.getElem?_eq_some_iff.1 h
 obtain⟨h2,rfl⟩:=List.getElem?_eq_some_iff.1 h'
 rw[List.drop_eq_getElem_cons h1,List.drop_eq_getElem_cons h2,Tm.cmps]
end Go.Am

namespace Go.Am
theorem zjo(x:Int):zbC x 0=x:=by unfold zbC;split <;> simp_all
theorem Tm.zpU(l:List Tm):Tm.cmps [] l=0:=by simp[Tm.cmps]
theorem zmJ:cmpI 0 0=0/\cmpI 0 1= -1/\cmpI 0 2= -1/\cmpI 0 3= -1/\cmpI 1 0=1/\cmpI 1 1=0/\cmpI 1 2= -1/\cmpI 1 3= -1/\cmpI 2 0=1/\cmpI 2 1=1/\cmpI 2 2=0/\cmpI 2 3= -1/\cmpI 3 0=1/\cmpI 3 1=1/\cmpI 3 2=1/\cmpI 3 3=0:=by decide
theorem Tm.zpS{t:Tm}(h:t.fits=true):(t.kind=0/\t.name=[]/\t.args=[])\/(t.kind=1/\t.name=[]/\t.args=[])\/(t.kind=2/\t.n=0/\t.args=[])\/(t.kind=3/\t.n=0):=by
 rw[Tm.zpH,Bool.and_eq_true] at h
 have h:=h.1
 unfold Tm.node at h
 have em:∀l:List Tm,(l.length:Int)=0->l=[]:=fun l h=>List.length_eq_zero_iff.1 (by omega)
 split at h
 ·simp only[Bool.and_eq_true,decide_eq_true_eq] at h;exact .inl ⟨‹_›,h.1.2,em _ h.2⟩
 ·split at h
  ·simp only[Bool.and_eq_true,decide_eq_true_eq] at h;exact .inr (.inl ⟨‹_›,h.1,em _ h.2⟩)
  ·split at h
   ·simp only[Bool.and_eq_true,decide_eq_true_eq] at h;exact .inr (.inr (.inl ⟨‹_›,h.1.1,em _ h.2⟩))
   ·split at h
    ·simp only[Bool.and_eq_true,decide_eq_true_eq] at h;exact .inr (.inr (.inr ⟨‹_›,h.1.1.1⟩))
    ·cases h
end Go.Am

namespace Go.Am
def Kept(p:Prop):Prop:=p
theorem Kept.out{p:Prop}(h:Kept p):p:=h
theorem Kept.mk{p:Prop}(h:p):Kept p:=h
end Go.Am
namespace Go.Am
theorem zgP{F:FuncId->Option AFn}{prim:FuncId->Option zbE}{f:FuncId}{fn:AFn}{args:List AV}{ps:List (Sh × PV)}{hp hp1 hp2:Heap}{v:AV}(hp0:prim f=none)(hf:F f=some fn)(hm:fn.heapMode=false)(hz:zam args hp=some (ps,hp1))
  (h:sem F prim .fn f (pvs ps) []=some (.ret v,hp2))(hr:fn.rcv=none:=by rfl):sem F prim .fn f args hp=some (.ret v,bif v.scalar then hp else hp1):=by
 rw[zjR] at h ⊢
 unfold zaZ at h ⊢
 rw[hp0,hf] at h ⊢
 simp only[hr,Option.isSome_none,hm,Bool.false_eq_true,if_false,hz,zaf] at h ⊢
 split at h
 ·split at h
  ·cases h;simp_all
  ·cases h
 ·cases h
 ·cases h
end Go.Am

namespace Go.Am
end Go.Am

namespace Go.Am
end Go.Am

namespace Go.Am
end Go.Am

namespace Go.Am
attribute [go_sem] zh9 zh8
end Go.Am

/- Flat clauses as plain data. -/
namespace Go.Am
structure Pr where
 name:List UInt8
 arity:Int
 aux:Int
structure Gl where
 kind:Int
 pred:Pr
 args:List Tm
 var:Int
structure Fl where
 pred:Pr
 args:List Tm
 goals:List Gl
def Pr.pv(p:Pr):PV:=.agg [(none,.str p.name),(none,.int .i64 p.arity),(none,.int .i64 p.aux)]
def Gl.pv(g:Gl):PV:=.agg [(none,.int .i64 g.kind),(some 3,g.pred.pv),(none,.sl (some 4) (Tm.pvs g.args)),(none,.int .i64 g.var)]
def Gl.pvs(l:List Gl):List PV:=l.map Gl.pv
def Fl.pv(f:Fl):PV:=.agg [(some 3,f.pred.pv),(none,.sl (some 4) (Tm.pvs f.args)),(none,.sl (some 6) (Gl.pvs f.goals))]
def Fl.av(f:Fl):AV:=.pv (some 5) f.pv
def Pr.ok(p:Pr):Bool:=
 if p.aux=0 then decide ((p.name.length:Int)<=100) && decide (0<=p.arity) && decide (p.arity<=8)
 else decide (p.name=[]) && decide (1<=p.aux) && decide (p.aux<=1099511627776) && decide (0<=p.arity) && decide (p.arity<=4096)
def Pr.zero(p:Pr):Bool:=decide (p.name=[]) && decide (p.arity=0) && decide (p.aux=0)
def zoL(left:Int):List Tm->Bool × Int
 |[]=>(true,left)
 |t::r=>if t.valid=true then if left - t.size<0 then(false,left - t.size) else zoL (left - t.size) r else(false,left)
def Gl.bare(g:Gl):Bool:=g.pred.zero && decide ((g.args.length:Int)=0)
def Gl.step(called:Bool)(left:Int)(g:Gl):Option (Bool × Int):=
 if g.kind=1 then
  if(g.pred.ok && decide ((g.args.length:Int)=g.pred.arity) && decide (g.var=0))=true then match zoL left g.args with
   |(true,l)=>some (true,l)
   |_=>none
  else none
 else if g.kind=2 then if(g.bare && decide (0<=g.var) && decide (g.var<=1099511627776) && !called)=true then some (called,left) else none
 else if g.kind=3\/g.kind=4 then if(g.bare && decide (0<=g.var) && decide (g.var<=1099511627776))=true then some (called,left) else none
 else if g.kind=5 then if(g.bare && decide (g.var=0))=true then some (called,left) else none
 else none
def Gl.steps:Bool->Int->List Gl->Bool
 |_,_,[]=>true
 |called,left,g::r=>match g.step called left with
  |some (c,l)=>Gl.steps c l r
  |none=>false
def Fl.valid(f:Fl):Bool:=
 f.pred.ok && decide ((f.args.length:Int)=f.pred.arity) && match zoL 131072 f.args with
  |(true,l)=>Gl.steps false l f.goals
  |_=>false

end Go.Am
namespace Go.Am
end Go.Am
namespace Go.Am
end Go.Am
namespace Go.Am
theorem Gl.pvs_len(l:List Gl):(Gl.pvs l).length=l.length:=by simp[Gl.pvs]
theorem Gl.pvs_get{l:List Gl}{i:Nat}{g:Gl}(h:l[i]? =some g):(Gl.pvs l)[i]? =some g.pv:=by simp[Gl.pvs,h]
end Go.Am
namespace Go.Am
end Go.Am
namespace Go.Am
end Go.Am
namespace Go.Am
end Go.Am
namespace Go.Am
def Gl.op(g:Gl):Bool:=decide (g.kind=2) || decide (g.kind=3) || decide (g.kind=4)
def Gl.next(calls:Int)(g:Gl):Int:=if g.kind=1 then calls+1 else calls
end Go.Am

/- Heaps of which a part is known. -/
namespace Go.Am
variable{F:FuncId->Option AFn} {prim:FuncId->Option zbE}
end Go.Am

/- The standard order of terms is an order. -/
namespace Go.Am
open Lib (compareBytes)
theorem zjT{x y:Int}:zbC x y=0↔x=0/\y=0:=by
 unfold zbC;split <;> omega
theorem zjp:∀{a b:List UInt8},compareBytes a b=0↔a=b
 |[],[]=>by simp[compareBytes]
 |[],_::_=>by simp[compareBytes]
 |_::_,[]=>by simp[compareBytes]
 |x::a,y::b=>by
  simp only[compareBytes,List.cons.injEq]
  split
  ·rename_i h
   constructor
   ·intro h;omega
   ·rintro⟨rfl,_⟩;exact absurd h (by simp[UInt8.lt_iff_toNat_lt])
  ·split
   ·rename_i h
    constructor
    ·intro h;omega
    ·rintro⟨rfl,_⟩;exact absurd h (by simp[UInt8.lt_iff_toNat_lt])
   ·rename_i h1 h2
    have:x=y:=by
     rw[UInt8.lt_iff_toNat_lt] at h1 h2
     exact UInt8.toNat_inj.1 (by omega)
    simp[this,zjp]
theorem Tm.ext{a b:Tm}(h1:a.kind=b.kind)(h2:a.n=b.n)(h3:a.name=b.name)(h4:a.args=b.args):a=b:=by
 cases a;cases b;simp_all[Tm.kind,Tm.n,Tm.name,Tm.args]
theorem Tm.cmp_zero:∀{a b:Tm},a.cmp b=0↔a=b:=by
 intro a
 induction a using Tm.zpL with
 |h a ih=>
  intro b
  have lists:∀(l r:List Tm),(∀t∈l,∀{b:Tm},t.cmp b=0↔t=b)->l.length=r.length->(Tm.cmps l r=0↔l=r):=by
   intro l
   induction l with
   |nil=>intro r _ hl;have:r=[]:=List.length_eq_zero_iff.1 hl.symm;subst this;simp[Tm.cmps]
   |cons x l ihl=>
    intro r hx hl
    cases r with
    |nil=>simp at hl
    |cons y r=>
     simp only[Tm.cmps,zjT,List.cons.injEq]
     rw[hx x (by simp),ihl r (fun t ht=>hx t (by simp[ht])) (by simpa using hl)]
  rw[Tm.zpR]
  simp only[zjT,cmpI_zero,zjp]
  constructor
  ·rintro⟨h1,h2,h3,h4,h5⟩
   exact Tm.ext h1 h2 h4 ((lists _ _ ih (by omega)).1 h5)
  ·rintro rfl
   exact⟨rfl,rfl,rfl,rfl,(lists _ _ ih rfl).2 rfl⟩
theorem Tm.zpW(a:Tm):a.cmp a=0:=Tm.cmp_zero.2 rfl
end Go.Am

/- What a law is given, as values without references. -/
namespace Go.Am
variable{P:Program} {H:Type} {enc:TypeId × Value->H} {w:World} {I:Nat->Prop}

theorem zdK{α β:Type}{g:α->Option β}:∀{l:List α} {xs:List β},l.mapM g=some xs->l.length=xs.length/\∀(i:Nat) (a:α) (x:β),l[i]? =some a->xs[i]? =some x->g a=some x
 |[],xs,h=>by
  simp at h
  subst h
  exact⟨rfl,fun i a x h=>by simp at h⟩
 |a::r,xs,h=>by
  rw[List.mapM_cons] at h
  cases ha:g a with
  |none=>rw[ha] at h;cases h
  |some y=>
   rw[ha] at h
   cases hr:r.mapM g with
   |none=>rw[hr] at h;cases h
   |some ys=>
    rw[hr] at h
    cases h
    obtain⟨h1,h2⟩:=zdK hr
    refine⟨by simp[h1],fun i b x hb hx=> ?_⟩
    cases i with
    |zero=>simp at hb hx;subst hb;subst hx;exact ha
    |succ i=>exact h2 i b x (by simpa using hb) (by simpa using hx)

def zdb(sh:Sh)(cs:List Value):Value:=
 match sh with
 |none=>cs.headD .nilIface
 |some _=>.agg cs.toArray

def zda(P:Program)(n:Nat):Nat->List Field->Bool
 |o,[]=>decide (o=n)
 |o,f::r=>decide (f.offset=o) && okT P f.type && zda P n (o+(shOf P f.type).size) r
def zaY(P:Program)(g:TypeId->DataW H->Option PV):List Field->List (DataW H)->Option (List (Sh × PV))
 |[],[]=>some []
 |f::fs,d::ds=>match g f.type d with
  |none=>none
  |some p=>match zaY P g fs ds with
   |some l=>some ((shOf P f.type,p)::l)
   |none=>none
 |_,_=>none
def zbT(g:DataW H->Option PV):List (DataW H)->Option (List PV)
 |[]=>some []
 |d::ds=>match g d with
  |none=>none
  |some p=>match zbT g ds with
   |some l=>some (p::l)
   |none=>none
def zbj(P:Program):Nat->TypeId->DataW H->Option PV
 |0,_,_=>none
 |n+1,t,d=>match P.underlying t,d with
  |some .bool,.lit (.bool b)=>some (.bool b)
  |some (.int k),.lit (.int k' n)=>if k'=k/\(Lit.int k n).wf=true then some (.int k n) else none
  |some .string,.lit (.string l)=>some (.str l)
  |some (.slice e),.nil=>some (.sl (shOf P e) [])
  |some (.slice e),.slice es _=>if okT P e=true then match zbT (zbj P n e) es with
    |some l=>some (.sl (shOf P e) l)
    |none=>none
   else none
  |some (.struct fs),.agg parts=>if zda P (P.cellsOf t) 0 fs.toList=true then match zaY P (zbj P n) fs.toList parts with
    |some l=>some (.agg l)
    |none=>none
   else none
  |_,_=>none

theorem zia{t:TypeId}(h:okT P t=true):P.cellsOf t=(shOf P t).size/\0<P.cellsOf t:=by
 unfold okT at h
 split at h
 ·rename_i i _ hi _
  simp only[Bool.and_eq_true,beq_iff_eq,decide_eq_true_eq] at h
  have:P.cellsOf t=i.size:=by simp[Program.cellsOf,hi]
  omega
 ·cases h

theorem zfU{base:Nat}{a:Addr}{n:Nat}{l:List Value}(h:w.cells? base a n=some l)(hn:0<n):a.spot=none/\∃cs t fr,w.heap[a.block]? =some (.cells cs t fr)/\l=(cs.toList.drop a.off).take n/\l.length=n:=by
 unfold World.cells? at h
 split at h
 ·obtain⟨h1,h2⟩:=zdK h
  rw[List.length_range] at h1
  have rd:∀i,i<n->∃v,l[i]? =some v/\w.cell? (a.add i)=some v:=by
   intro i hi
   have hl:l[i]? =some l[i]:=List.getElem?_eq_getElem (by omega)
   exact⟨l[i],hl,h2 i i l[i] (by simp[hi]) hl⟩
  obtain⟨v0,hv0,hc0⟩:=rd 0 hn
  unfold World.cell? at hc0
  split at hc0
  ·rename_i cs t fr hb
   split at hc0
   ·cases hc0
   ·rename_i hsp
    have hb':w.heap[a.block]? =some (.cells cs t fr):=hb
    have hsp':a.spot=none:=by simpa[Addr.add] using hsp
    refine⟨hsp',cs,t,fr,hb',?_,h1.symm⟩
    apply List.ext_getElem?
    intro i
    by_cases hi:i<n
    ·obtain⟨v,e1,e2⟩:=rd i hi
     rw[e1]
     have ea:a.add i=⟨a.block,a.off+i,none⟩:=by
      unfold Addr.add
      split
      ·rename_i h0;subst h0;cases a;simp_all
      ·rfl
     rw[ea] at e2
     simp only[World.cell?,hb',Option.isSome_none,Bool.false_eq_true,if_false] at e2
     rw[List.getElem?_take_of_lt hi,List.getElem?_drop]
     simpa using e2.symm
    ·rw[List.getElem?_eq_none (by omega),List.getElem?_eq_none (by simp;omega)]
  ·cases hc0
 ·cases h

theorem zib{g:TypeId->List Value->Option (DataW H × List MemPlace)}{f:TypeId->DataW H->Option PV}
  (hg:∀t cs d ps p,g t cs=some (d,ps)->okT P t=true->f t d=some p->PR w I p (zdb (shOf P t) cs)/\vshp (zdb (shOf P t) cs)=shOf P t/\(zdb (shOf P t) cs).cells.toList=cs)(cs:List Value):
  ∀(fs:List Field) (o:Nat) (xs:List (DataW H × List MemPlace)) (l:List (Sh × PV)),zda P cs.length o fs=true->fs.mapM (fun fd=>g fd.type ((cs.drop fd.offset).take (P.cellsOf fd.type)))=some xs->zaY P f fs (xs.map (·.1))=some l->
  ∃vs:List Value,l.length=vs.length/\(∀(i:Nat) (x:Sh × PV) (v:Value),l[i]? =some x->vs[i]? =some v->vshp v=x.1)/\(∀(i:Nat) (x:Sh × PV) (v:Value),l[i]? =some x->vs[i]? =some v->PR w I x.2 v)/\cellsOf vs=cs.drop o
 |[],o,xs,l,hok,hm,hp=>by
  simp[zda] at hok
  simp at hm
  subst hm
  simp[zaY] at hp
  subst hp
  exact⟨[],rfl,fun i x v h=>by simp at h,fun i x v h=>by simp at h,by simp[cellsOf,hok]⟩
 |fd::r,o,xs,l,hok,hm,hp=>by
  simp only[zda,Bool.and_eq_true,decide_eq_true_eq] at hok
  obtain⟨⟨h1,h2⟩,h3⟩:=hok
  rw[List.mapM_cons] at hm
  cases ha:g fd.type ((cs.drop fd.offset).take (P.cellsOf fd.type)) with
  |none=>rw[ha] at hm;cases hm
  |some y=>
   rw[ha] at hm
   cases hr:r.mapM (fun fd=>g fd.type ((cs.drop fd.offset).take (P.cellsOf fd.type))) with
   |none=>rw[hr] at hm;cases hm
   |some ys=>
    rw[hr] at hm
    cases hm
    simp only[List.map_cons,zaY] at hp
    split at hp
    ·cases hp
    ·rename_i p hfp
     split at hp
     ·rename_i l' hl'
      cases hp
      obtain⟨k1,k2,k3⟩:=hg _ _ y.1 y.2 p ha h2 hfp
      obtain⟨vs,e1,e2,e3,e4⟩:=zib hg cs r _ ys l' h3 hr hl'
      refine⟨zdb (shOf P fd.type) ((cs.drop fd.offset).take (P.cellsOf fd.type))::vs,by simp[e1],?_,?_,?_⟩
      ·intro i x v hx hv
       cases i with
       |zero=>simp at hx hv;subst hx;subst hv;exact k2
       |succ i=>exact e2 i x v (by simpa using hx) (by simpa using hv)
      ·intro i x v hx hv
       cases i with
       |zero=>simp at hx hv;subst hx;subst hv;exact k1
       |succ i=>exact e3 i x v (by simpa using hx) (by simpa using hv)
      ·simp only[cellsOf,List.flatMap_cons,k3]
       have e4':List.flatMap (fun v=>v.cells.toList) vs=cs.drop (o+(shOf P fd.type).size):=e4
       rw[e4',h1,(zia h2).1,<-List.drop_drop,List.take_append_drop]
     ·cases hp

theorem zjU{f:DataW H->Option PV}{g:Nat->Option (DataW H × List MemPlace)}{R:Nat->PV->Prop}
  (hg:∀i d ps p,g i=some (d,ps)->f d=some p->R i p):
  ∀(is:List Nat) (xs:List (DataW H × List MemPlace)) (l:List PV),is.mapM g=some xs->zbT f (xs.map (·.1))=some l->
  l.length=is.length/\∀(k i:Nat) (p:PV),is[k]? =some i->l[k]? =some p->R i p
 |[],xs,l,hm,hp=>by
  simp at hm
  subst hm
  simp[zbT] at hp
  subst hp
  exact⟨rfl,fun k i p h=>by simp at h⟩
 |i::r,xs,l,hm,hp=>by
  rw[List.mapM_cons] at hm
  cases ha:g i with
  |none=>rw[ha] at hm;cases hm
  |some y=>
   rw[ha] at hm
   cases hr:r.mapM g with
   |none=>rw[hr] at hm;cases hm
   |some ys=>
    rw[hr] at hm
    cases hm
    simp only[List.map_cons,zbT] at hp
    split at hp
    ·cases hp
    ·rename_i p hfp
     split at hp
     ·rename_i l' hl'
      cases hp
      obtain⟨e1,e2⟩:=zjU hg r ys l' hr hl'
      refine⟨by simp[e1],fun k j q hk hq=> ?_⟩
      cases k with
      |zero=>simp at hk hq;subst hk;subst hq;exact hg i y.1 y.2 p ha hfp
      |succ k=>exact e2 k j q (by simpa using hk) (by simpa using hq)
     ·cases hp

theorem zfV(f:Nat->Value)(l:List Value)(o n:Nat):∀m:Nat,(∀i,i<m->(f i).cells.toList=(l.drop (o+i*n)).take n)->cellsOf ((List.range m).map f)=(l.drop o).take (m*n)
 |0,_=>by simp[cellsOf]
 |m+1,h=>by
  have ih:=zfV f l o n m fun i hi=>h i (by omega)
  unfold cellsOf at ih ⊢
  rw[List.range_succ,List.map_append,List.flatMap_append,ih]
  simp only[List.map_cons,List.map_nil,List.flatMap_cons,List.flatMap_nil,List.append_nil]
  rw[h m (by omega),Nat.add_mul,Nat.one_mul,List.take_add,List.drop_drop]

theorem zoM(hI:∀b,I b){base:Nat}{spare:Nat->Bool}{held:Bool}:∀(fuel:Nat) (n:Nat) (t:TypeId) (cs:List Value) (d:DataW H) (ps:List MemPlace) (p:PV),DataW.trod enc P w base spare held fuel t cs=some (d,ps)->okT P t=true->zbj P n t d=some p->
  PR w I p (zdb (shOf P t) cs)/\vshp (zdb (shOf P t) cs)=shOf P t/\(zdb (shOf P t) cs).cells.toList=cs:=by
 intro fuel
 induction fuel with
 |zero=>intro n t cs d ps p h;cases h
 |succ fuel ih=>
  intro n t cs d ps p h hok hp
  cases n with
  |zero=>cases hp
  |succ n=>
  simp only[zbj] at hp
  cases hu:P.underlying t with
  |none=>rw[hu] at hp;cases hp
  |some u=>
   rw[hu] at hp
   unfold DataW.trod at h
   rw[hu] at h
   cases u with
   |bool=>
    have hs:shOf P t=none:=by unfold shOf;rw[hu]
    rw[hs]
    simp only at h hp
    split at h <;> first|contradiction|(exfalso;clear ih;simp_all;done)|skip
    ·cases h
     cases hp
     exact⟨.bool _,rfl,rfl⟩
   |int k=>
    have hs:shOf P t=none:=by unfold shOf;rw[hu]
    rw[hs]
    simp only at h hp
    split at h <;> first|contradiction|(exfalso;clear ih;simp_all;done)|skip
    ·rename_i e
     split at h
     ·rename_i e2
      obtain⟨e2,e3⟩:=e2
      subst e2
      cases h
      cases e
      simp only[e3,and_self,if_true] at hp
      cases hp
      exact⟨.int _ _,rfl,rfl⟩
     ·cases h
   |string=>
    have hs:shOf P t=none:=by unfold shOf;rw[hu]
    rw[hs]
    simp only at h hp
    split at h <;> first|contradiction|(exfalso;clear ih;simp_all;done)|skip
    ·split at h
     ·cases h
      cases hp
      exact⟨.str _,rfl,rfl⟩
     ·cases h
   |slice e=>
    have hs:shOf P t=none:=by unfold shOf;rw[hu]
    rw[hs]
    simp only at h hp
    split at h <;> first|contradiction|(exfalso;clear ih;simp_all;done)|skip
    ·cases h
     cases hp
     exact⟨.nilsl _ _ _,rfl,rfl⟩
    ·rename_i e' a len cap hx
     cases hx
     split at h
     ·rename_i hb
      obtain⟨hb1,hb2,hb3⟩:=hb
      rw[Option.bind_eq_some_iff] at h
      obtain⟨elems,hm,h⟩:=h
      rw[Option.map_eq_some_iff] at h
      obtain⟨rest,hr,h⟩:=h
      cases h
      simp only at hp
      split at hp
      ·rename_i hoe
       split at hp
       ·rename_i l hl
        cases hp
        obtain⟨hc1,hc2⟩:=zia hoe
        obtain⟨k1,k2⟩:=zjU (R:=fun i p=>PR w I p (zdb (shOf P e) (((w.cells? base (a.add (i*P.cellsOf e)) (P.cellsOf e))).getD []))/\vshp (zdb (shOf P e) (((w.cells? base (a.add (i*P.cellsOf e)) (P.cellsOf e))).getD []))=shOf P e/\(zdb (shOf P e) (((w.cells? base (a.add (i*P.cellsOf e)) (P.cellsOf e))).getD [])).cells.toList=((w.cells? base (a.add (i*P.cellsOf e)) (P.cellsOf e))).getD []) (fun i d ps p hg hf=>by
         rw[Option.bind_eq_some_iff] at hg
         obtain⟨c,hc,hg⟩:=hg
         rw[hc]
         exact ih n e c d ps p hg hoe hf) _ _ _ hm hl
        rw[List.length_range] at k1
        refine⟨?_,rfl,rfl⟩
        have hel:elems.length=len:=by have:=(zdK hm).1;simpa using this.symm
        cases len with
        |zero=>
         have:l=[]:=List.length_eq_zero_iff.1 (by omega)
         subst this
         exact .nilsl _ _ _
        |succ m=>
         have rd:∀i,i<m+1->∃c,w.cells? base (a.add (i*P.cellsOf e)) (P.cellsOf e)=some c:=fun i hi=>by
          have hx:elems[i]? =some elems[i]:=List.getElem?_eq_getElem (by omega)
          have:=(zdK hm).2 i i elems[i] (by simp[hi]) hx
          rw[Option.bind_eq_some_iff] at this
          obtain⟨c,hc,_⟩:=this
          exact⟨c,hc⟩
         obtain⟨c0,hc0⟩:=rd 0 (by omega)
         obtain⟨s0,cs',t',fr',hblk,_,_⟩:=zfU hc0 hc2
         have ea0:a.add (0*P.cellsOf e)=a:=by simp[Addr.add]
         rw[ea0] at s0 hblk
         have seg:∀i,i<m+1->(w.cells? base (a.add (i*P.cellsOf e)) (P.cellsOf e)).getD []=(cs'.toList.drop (a.off+i*P.cellsOf e)).take (P.cellsOf e)/\((w.cells? base (a.add (i*P.cellsOf e)) (P.cellsOf e)).getD []).length=P.cellsOf e:=fun i hi=>by
          obtain⟨c,hc⟩:=rd i hi
          obtain⟨_,cs2,t2,fr2,hb2,e2,e3⟩:=zfU hc hc2
          have eo:(a.add (i*P.cellsOf e)).off=a.off+i*P.cellsOf e:=by unfold Addr.add;split <;> simp_all
          have eb:(a.add (i*P.cellsOf e)).block=a.block:=by unfold Addr.add;split <;> rfl
          rw[eb,hblk] at hb2
          cases hb2
          rw[hc,Option.getD_some]
          rw[eo] at e2
          exact⟨e2,e3⟩
         have ha:a=⟨a.block,a.off,none⟩:=by cases a;simp_all
         have hll:l.length=m+1:=k1
         rw[ha]
         have hgoal:PR w I (.sl (shOf P e) l) (.slice (some ⟨a.block,a.off,none⟩) l.length cap):=by
          refine .sl _ _ a.block a.off cap cs' t' fr' ((List.range (m+1)).map fun i=>zdb (shOf P e) ((w.cells? base (a.add (i*P.cellsOf e)) (P.cellsOf e)).getD [])) (by simp[hll]) (hI _) hblk ?_ ?_ ?_ (by omega)
          ·intro i p v hp hv
           have hi:i<m+1:=by rw[<-hll];exact(List.getElem?_eq_some_iff.1 hp).1
           simp[hi] at hv
           subst hv
           exact(k2 i i p (by simp[hi]) hp).2.1
          ·intro i p v hp hv
           have hi:i<m+1:=by rw[<-hll];exact(List.getElem?_eq_some_iff.1 hp).1
           simp[hi] at hv
           subst hv
           exact(k2 i i p (by simp[hi]) hp).1
          ·have cl:∀i,i<m+1->(zdb (shOf P e) ((w.cells? base (a.add (i*P.cellsOf e)) (P.cellsOf e)).getD [])).cells.toList=(cs'.toList.drop (a.off+i*P.cellsOf e)).take (P.cellsOf e):=fun i hi=>by
            rw[<-(seg i hi).1]
            exact(k2 i i l[i] (by simp[hi]) (List.getElem?_eq_getElem (by omega))).2.2
           rw[hll,<-hc1]
           exact zfV (fun i=>zdb (shOf P e) ((w.cells? base (a.add (i*P.cellsOf e)) (P.cellsOf e)).getD [])) cs'.toList a.off (P.cellsOf e) (m+1) cl
         rw[hll] at hgoal
         exact hgoal
       ·cases hp
      ·cases hp
     ·cases h
   |struct fs=>
    have hs:shOf P t=some (P.cellsOf t):=by unfold shOf;rw[hu]
    rw[hs]
    simp only at h hp
    split at h <;> first|contradiction|(exfalso;clear ih;simp_all;done)|skip
    ·rename_i hlen
     rw[Option.map_eq_some_iff] at h
     obtain⟨xs,hm,h⟩:=h
     cases h
     simp only at hp
     split at hp
     ·rename_i hfo
      split at hp
      ·rename_i l hl
       cases hp
       rw[<-hlen] at hfo
       obtain⟨vs,e1,e2,e3,e4⟩:=zib (w:=w) (I:=I) (fun t cs d ps p hg ho hf=>ih n t cs d ps p hg ho hf) cs fs.toList 0 xs l hfo hm hl
       rw[List.drop_zero] at e4
       refine⟨?_,?_,?_⟩
       ·show PR w I (.agg l) (.agg cs.toArray)
        rw[<-e4]
        exact .agg l vs e1 e2 e3
       ·show some cs.toArray.size=_
        simp[hlen]
       ·simp[zdb,Value.cells]
      ·cases hp
     ·cases hp
   |_=>cases hp

theorem zmK{base:Nat}{spare:Nat->Bool}{held:Bool}{n:Nat}{t:TypeId}{v:Value}{d:DataW H}{ps:List MemPlace}{p:PV}(h:DataW.Trod enc P w base spare held t v d ps)(hok:okT P t=true)(hp:zbj P n t d=some p)(hv:vshp v=shOf P t):
  AR w (noX (P:=P)) noμ [] (.pv (shOf P t) p) v:=by
 obtain⟨fuel,h⟩:=h
 have hI:∀b,Im (noX (P:=P)) noμ [] b:=fun b=>⟨fun h=>h,fun i hi=>by simp[live] at hi⟩
 obtain⟨h1,h2,h3⟩:=zoM hI fuel n t _ d ps p h hok hp
 have:zdb (shOf P t) v.cells.toList=v:=by
  rw[<-hv]
  cases v <;> simp[vshp,zdb,Value.cells]
 rw[this] at h1
 exact .pv _ _ _ hv h1
theorem zd4{W:World}{base:Nat}{t:TypeId}{v:Value}(h:Value.okWide P W .any base t v):vshp v=shOf P t:=by
 unfold Value.okWide at h
 unfold shOf
 cases hu:P.underlying t with
 |none=>
  rw[hu] at h
  cases v with
  |agg cs=>simp[Cell.okWide,Cell.ok,hu] at h
  |_=>rfl
 |some u=>
  rw[hu] at h
  cases u with
  |struct fs=>obtain⟨cs,rfl,hc,_⟩:=h;simp[vshp,hc]
  |array n e=>obtain⟨cs,rfl,hc,_⟩:=h;simp[vshp,hc]
  |_=>
   cases v with
   |agg cs=>simp[Cell.okWide,Cell.ok,hu] at h
   |_=>rfl
end Go.Am

/- Every datum of plain types is a value; terms. -/
namespace Go.Am
variable{P:Program} {H:Type} {enc:TypeId × Value->H} {w:World}

def zog(P:Program)(ts:List TypeId)(t:TypeId):Bool:=
 okT P t && match P.underlying t with
 |some .bool=>true
 |some (.int _)=>true
 |some .string=>true
 |some (.slice e)=>ts.contains e && okT P e
 |some (.struct fs)=>fs.toList.all (fun f=>ts.contains f.type) && zda P (P.cellsOf t) 0 fs.toList
 |_=>false
def zjV(P:Program)(ts:List TypeId):Bool:=ts.all (zog P ts)

theorem zfW{f:DataW H->Option PV}{g:Nat->Option (DataW H × List MemPlace)}(hg:∀i d ps,g i=some (d,ps)->∃p,f d=some p):∀(is:List Nat) (xs:List (DataW H × List MemPlace)),is.mapM g=some xs->∃l,zbT f (xs.map (·.1))=some l
 |[],xs,h=>by simp at h;subst h;exact⟨[],rfl⟩
 |i::r,xs,h=>by
  rw[List.mapM_cons] at h
  cases ha:g i with
  |none=>rw[ha] at h;cases h
  |some y=>
   rw[ha] at h
   cases hr:r.mapM g with
   |none=>rw[hr] at h;cases h
   |some ys=>
    rw[hr] at h
    cases h
    obtain⟨l,hl⟩:=zfW hg r ys hr
    obtain⟨p,hp⟩:=hg i y.1 y.2 ha
    exact⟨p::l,by simp[zbT,hp,hl]⟩
theorem zfe{f:TypeId->DataW H->Option PV}{g:Field->Option (DataW H × List MemPlace)}:∀(fs:List Field) (xs:List (DataW H × List MemPlace)),(∀fd∈fs,∀d ps,g fd=some (d,ps)->∃p,f fd.type d=some p)->fs.mapM g=some xs->∃l,zaY P f fs (xs.map (·.1))=some l
 |[],xs,_,h=>by simp at h;subst h;exact⟨[],rfl⟩
 |fd::r,xs,hg,h=>by
  rw[List.mapM_cons] at h
  cases ha:g fd with
  |none=>rw[ha] at h;cases h
  |some y=>
   rw[ha] at h
   cases hr:r.mapM g with
   |none=>rw[hr] at h;cases h
   |some ys=>
    rw[hr] at h
    cases h
    obtain⟨l,hl⟩:=zfe r ys (fun fd h=>hg fd (by simp[h])) hr
    obtain⟨p,hp⟩:=hg fd (by simp) y.1 y.2 ha
    exact⟨(shOf P fd.type,p)::l,by simp[zaY,hp,hl]⟩

theorem zff{ts:List TypeId}(hc:zjV P ts=true){base:Nat}{spare:Nat->Bool}{held:Bool}:∀(fuel:Nat) (t:TypeId) (cs:List Value) (d:DataW H) (ps:List MemPlace),t∈ts->DataW.trod enc P w base spare held fuel t cs=some (d,ps)->∃p,zbj P fuel t d=some p:=by
 intro fuel
 induction fuel with
 |zero=>intro t cs d ps _ h;cases h
 |succ fuel ih=>
  intro t cs d ps ht h
  have hp:=List.all_eq_true.1 hc t ht
  unfold zog at hp
  rw[Bool.and_eq_true] at hp
  have hp:=hp.2
  unfold DataW.trod at h
  unfold zbj
  cases hu:P.underlying t with
  |none=>rw[hu] at hp;cases hp
  |some u=>
   rw[hu] at hp h
   cases u with
   |bool=>
    simp only at h
    split at h <;> first|contradiction|(exfalso;clear ih;simp_all;done)|skip
    ·cases h;exact⟨_,rfl⟩
   |int k=>
    simp only at h
    split at h <;> first|contradiction|(exfalso;clear ih;simp_all;done)|skip
    ·rename_i e
     split at h
     ·rename_i e2
      obtain⟨e2,e3⟩:=e2
      subst e2
      cases h
      cases e
      exact⟨_,by simp[e3];rfl⟩
     ·cases h
   |string=>
    simp only at h
    split at h <;> first|contradiction|(exfalso;clear ih;simp_all;done)|skip
    ·split at h
     ·cases h;exact⟨_,rfl⟩
     ·cases h
   |slice e=>
    simp only[Bool.and_eq_true,List.contains_iff_mem] at hp
    simp only at h
    split at h <;> first|contradiction|(exfalso;clear ih;simp_all;done)|skip
    ·cases h;exact⟨_,rfl⟩
    ·rename_i e' a len cap hx
     cases hx
     split at h
     ·rw[Option.bind_eq_some_iff] at h
      obtain⟨elems,hm,h⟩:=h
      rw[Option.map_eq_some_iff] at h
      obtain⟨rest,hr,h⟩:=h
      cases h
      obtain⟨l,hl⟩:=zfW (f:=zbj P fuel e) (fun i d ps hg=>by
       rw[Option.bind_eq_some_iff] at hg
       obtain⟨c,_,hg⟩:=hg
       exact ih e c d ps hp.1 hg) _ _ hm
      exact⟨_,by simp[hp.2,hl];rfl⟩
     ·cases h
   |struct fs=>
    simp only[Bool.and_eq_true] at hp
    simp only at h
    split at h <;> first|contradiction|(exfalso;clear ih;simp_all;done)|skip
    ·rw[Option.map_eq_some_iff] at h
     obtain⟨xs,hm,h⟩:=h
     cases h
     obtain⟨l,hl⟩:=zfe (P:=P) (f:=zbj P fuel) fs.toList xs (fun fd hfd d ps hg=>by
      have:=List.all_eq_true.1 hp.1 fd hfd
      rw[List.contains_iff_mem] at this
      exact ih fd.type _ d ps this hg) hm
     exact⟨_,by simp[hp.2,hl];rfl⟩
   |_=>cases hp

structure BulkLaws(bulk:DataW H->Nat)(all:List (DataW H)->Nat):Prop where
 nil:all []=0
 cons:∀d r,all (d::r)=bulk d+all r
 slice:∀e s,bulk (.slice e s)=all e+all s+1
 agg:∀l,bulk (.agg l)=all l+1
 string:∀l,bulk (.lit (.string l))=l.length+1

structure TermTy(P:Program)(tA tT:TypeId):Prop where
 a:P.underlying tA=some (.slice tT)
 t:∃fs tI tL tS,P.underlying tT=some (.struct fs)/\fs.toList.map (·.type)=[tI,tL,tS,tA]/\P.underlying tI=some (.int .i64)/\P.underlying tL=some (.int .i64)/\P.underlying tS=some .string/\shOf P tT=some 4/\shOf P tA=none/\shOf P tI=none/\shOf P tL=none/\shOf P tS=none

def zmL(n:Int):Prop:= -9223372036854775808<=n/\n<=9223372036854775807
mutual
def Tm.rng:Tm->Prop
 | .mk k n _ as=>zmL k/\zmL n/\Tm.rngs as
def Tm.rngs:List Tm->Prop
 |[]=>True
 |t::r=>t.rng/\Tm.rngs r
end
theorem zpg{n:Int}(h:(Lit.int .i64 n).wf=true):zmL n:=by
 simpa[Lit.wf,IntKind.min,IntKind.max,IntKind.signed,IntKind.bits,zmL] using h

theorem zfg{tA tT:TypeId}(hT:TermTy P tA tT){bulk:DataW H->Nat}{all:List (DataW H)->Nat}(hb:BulkLaws bulk all):∀(n:Nat),
  (∀(d:DataW H) (p:PV),zbj P n tT d=some p->∃t:Tm,p=t.pv/\t.size<=bulk d/\t.rng)/\
  (∀(d:DataW H) (p:PV),zbj P n tA d=some p->∃l:List Tm,p=.sl (some 4) (Tm.pvs l)/\Tm.sizes l<=bulk d/\Tm.rngs l)
 |0=>⟨fun d p h=>(by cases h),fun d p h=>(by cases h)⟩
 |n+1=>by
  obtain⟨ih1,ih2⟩:=zfg hT hb n
  have elems:∀(ds:List (DataW H)) (l:List PV),zbT (zbj P n tT) ds=some l->∃ts:List Tm,l=Tm.pvs ts/\Tm.sizes ts<=all ds/\Tm.rngs ts:=by
   intro ds
   induction ds with
   |nil=>intro l h;cases h;exact⟨[],rfl,Nat.zero_le _,trivial⟩
   |cons d ds ih=>
    intro l h
    simp only[zbT] at h
    split at h
    ·cases h
    ·rename_i p hp
     split at h
     ·rename_i l' hl
      cases h
      obtain⟨t,rfl,h1,h2⟩:=ih1 d p hp
      obtain⟨ts,rfl,h3,h4⟩:=ih l' hl
      exact⟨t::ts,rfl,by rw[hb.cons];simp only[Tm.sizes];omega,h2,h4⟩
     ·cases h
  obtain⟨hA,fs,tI,tL,tS,hS,hf,hI,hL,hSt,s1,s2,s3,s4,s5⟩:=hT
  constructor
  ·intro d p h
   unfold zbj at h
   rw[hS] at h
   cases d with
   |agg parts=>
    simp only at h
    split at h
    ·split at h
     ·rename_i l hl
      cases h
      obtain⟨f1,f2,f3,f4,hfs⟩:∃f1 f2 f3 f4:Field,fs.toList=[f1,f2,f3,f4]:=by
       match hx:fs.toList,hf with
       |[a,b,c,d],_=>exact⟨a,b,c,d,rfl⟩
      rw[hfs] at hf hl
      simp only[List.map_cons,List.map_nil,List.cons.injEq,and_true] at hf
      obtain⟨e1,e2,e3,e4⟩:=hf
      match parts,hl with
      |[],hl=>cases hl
      |d1::r1,hl=>
       simp only[zaY,e1] at hl
       split at hl
       ·cases hl
       ·rename_i p1 hp1
        split at hl
        ·rename_i l1 hl1
         cases hl
         match r1,hl1 with
         |[],hl1=>cases hl1
         |d2::r2,hl1=>
          simp only[zaY,e2] at hl1
          split at hl1
          ·cases hl1
          ·rename_i p2 hp2
           split at hl1
           ·rename_i l2 hl2
            cases hl1
            match r2,hl2 with
            |[],hl2=>cases hl2
            |d3::r3,hl2=>
             simp only[zaY,e3] at hl2
             split at hl2
             ·cases hl2
             ·rename_i p3 hp3
              split at hl2
              ·rename_i l3 hl3
               cases hl2
               match r3,hl3 with
               |[],hl3=>cases hl3
               |d4::r4,hl3=>
                simp only[zaY,e4] at hl3
                split at hl3
                ·cases hl3
                ·rename_i p4 hp4
                 split at hl3
                 ·rename_i l4 hl4
                  cases hl3
                  match r4,hl4 with
                  |_::_,hl4=>cases hl4
                  |[],hl4=>
                   cases hl4
                   obtain⟨ts,rfl,k1,k2⟩:=ih2 d4 p4 hp4
                   have i64:∀(ty:TypeId) (d:DataW H) (p:PV),P.underlying ty=some (.int .i64)->zbj P n ty d=some p->∃x,p=.int .i64 x/\zmL x:=by
                    intro ty d p hty hp
                    cases n with
                    |zero=>cases hp
                    |succ n=>
                     unfold zbj at hp
                     rw[hty] at hp
                     cases d with
                     |lit l=>
                      cases l with
                      |int k x=>
                       simp only at hp
                       split at hp
                       ·rename_i hw
                        cases hp
                        exact⟨x,rfl,zpg hw.2⟩
                       ·cases hp
                      |_=>cases hp
                     |_=>cases hp
                   obtain⟨x1,rfl,g1⟩:=i64 tI d1 p1 hI hp1
                   obtain⟨x2,rfl,g2⟩:=i64 tL d2 p2 hL hp2
                   obtain⟨s,rfl,hs⟩:∃s,p3=.str s/\s.length<=bulk d3:=by
                    cases n with
                    |zero=>cases hp3
                    |succ n=>
                     unfold zbj at hp3
                     rw[hSt] at hp3
                     cases d3 with
                     |lit l=>
                      cases l with
                      |string s=>cases hp3;exact⟨s,rfl,by rw[hb.string];omega⟩
                      |_=>cases hp3
                     |_=>cases hp3
                   refine⟨.mk x1 x2 s ts,?_,?_,g1,g2,k2⟩
                   ·simp only[Tm.pv,e1,e2,e3,e4,s2,s3,s4,s5]
                   ·rw[hb.agg,hb.cons,hb.cons,hb.cons,hb.cons,hb.nil]
                    simp only[Tm.size]
                    omega
                 ·cases hl3
              ·cases hl2
           ·cases hl1
        ·cases hl
     ·cases h
    ·cases h
   |lit l=>cases l <;> cases h
   |_=>cases h
  ·intro d p h
   unfold zbj at h
   rw[hA] at h
   cases d with
   |nil=>cases h;exact⟨[],by rw[s1];rfl,Nat.zero_le _,trivial⟩
   |slice es sp=>
    simp only at h
    split at h
    ·split at h
     ·rename_i l hl
      cases h
      obtain⟨ts,rfl,k1,k2⟩:=elems es l hl
      exact⟨ts,by rw[s1],by rw[hb.slice];omega,k2⟩
     ·cases h
    ·cases h
   |lit l=>cases l <;> cases h
   |_=>cases h
end Go.Am

/- Data by their types: what a value of a plain type looks like, and how much it holds. -/
namespace Go.Am
variable{P:Program} {H:Type} {enc:TypeId × Value->H} {w:World}

mutual
def PV.sz:PV->Nat
 | .str s=>s.length+1
 | .agg l=>PV.szc l+1
 | .sl _ es=>PV.szs es+1
 |_=>1
def PV.szc:List (Sh × PV)->Nat
 |[]=>0
 |x::r=>PV.sz x.2+PV.szc r
def PV.szs:List PV->Nat
 |[]=>0
 |x::r=>PV.sz x+PV.szs r
end
def zgQ(P:Program)(f:TypeId->PV->Prop):List Field->List (Sh × PV)->Prop
 |[],[]=>True
 |fd::r,x::l=>x.1=shOf P fd.type/\f fd.type x.2/\zgQ P f r l
 |_,_=>False
def wt(P:Program):Nat->TypeId->PV->Prop
 |0,_,_=>False
 |n+1,t,p=>match P.underlying t with
  |some .bool=>∃b,p=.bool b
  |some (.int k)=>∃x,p=.int k x/\(Lit.int k x).wf=true
  |some .string=>∃s,p=.str s
  |some (.slice e)=>∃es,p=.sl (shOf P e) es/\∀x∈es,wt P n e x
  |some (.struct fs)=>∃l,p=.agg l/\zgQ P (wt P n) fs.toList l
  |_=>False

structure BulkLaws2(bulk:DataW H->Nat)(all:List (DataW H)->Nat):Prop extends BulkLaws bulk all where
 one:∀d,1<=bulk d

theorem zjW{bulk:DataW H->Nat}{all:List (DataW H)->Nat}(hb:BulkLaws2 bulk all){f:DataW H->Option PV}{R:PV->Prop}(hf:∀d p,f d=some p->R p/\p.sz<=bulk d):∀(ds:List (DataW H)) (l:List PV),zbT f ds=some l->(∀x∈l,R x)/\PV.szs l<=all ds
 |[],l,h=>by cases h;exact⟨fun x hx=>(by cases hx),Nat.zero_le _⟩
 |d::ds,l,h=>by
  simp only[zbT] at h
  split at h
  ·cases h
  ·rename_i p hp
   split at h
   ·rename_i l' hl
    cases h
    obtain⟨h1,h2⟩:=hf d p hp
    obtain⟨h3,h4⟩:=zjW hb hf ds l' hl
    refine⟨fun x hx=> ?_,by rw[hb.cons];simp only[PV.szs];omega⟩
    rcases List.mem_cons.1 hx with rfl|hx
    ·exact h1
    ·exact h3 x hx
   ·cases h
theorem zic{bulk:DataW H->Nat}{all:List (DataW H)->Nat}(hb:BulkLaws2 bulk all){f:TypeId->DataW H->Option PV}{R:TypeId->PV->Prop}(hf:∀t d p,f t d=some p->R t p/\p.sz<=bulk d):∀(fs:List Field) (ds:List (DataW H)) (l:List (Sh × PV)),zaY P f fs ds=some l->zgQ P R fs l/\PV.szc l<=all ds
 |[],ds,l,h=>by
  cases ds with
  |nil=>cases h;exact⟨trivial,Nat.zero_le _⟩
  |cons d r=>cases h
 |fd::fs,ds,l,h=>by
  cases ds with
  |nil=>cases h
  |cons d r=>
   simp only[zaY] at h
   split at h
   ·cases h
   ·rename_i p hp
    split at h
    ·rename_i l' hl
     cases h
     obtain⟨h1,h2⟩:=hf fd.type d p hp
     obtain⟨h3,h4⟩:=zic hb hf fs r l' hl
     exact⟨⟨rfl,h1,h3⟩,by rw[hb.cons];simp only[PV.szc];omega⟩
    ·cases h
theorem zmM{bulk:DataW H->Nat}{all:List (DataW H)->Nat}(hb:BulkLaws2 bulk all):∀(n:Nat) (t:TypeId) (d:DataW H) (p:PV),zbj P n t d=some p->wt P n t p/\p.sz<=bulk d
 |0,t,d,p,h=>by cases h
 |n+1,t,d,p,h=>by
  have ih:=fun t d p=>zmM hb n t d p
  have one:=hb.one d
  unfold zbj at h
  unfold wt
  cases hu:P.underlying t with
  |none=>rw[hu] at h;cases h
  |some u=>
   rw[hu] at h
   cases u with
   |bool=>
    cases d with
    |lit l=>cases l <;> first|(cases h;done)|(cases h;exact⟨⟨_,rfl⟩,one⟩)
    |_=>cases h
   |int k=>
    cases d with
    |lit l=>
     cases l with
     |int k' x=>
      simp only at h
      split at h
      ·rename_i hw
       cases h
       obtain⟨e,hw⟩:=hw
       subst e
       exact⟨⟨x,rfl,hw⟩,one⟩
      ·cases h
     |_=>cases h
    |_=>cases h
   |string=>
    cases d with
    |lit l=>
     cases l with
     |string s=>cases h;exact⟨⟨_,rfl⟩,by rw[hb.string];exact Nat.le_refl _⟩
     |_=>cases h
    |_=>cases h
   |slice e=>
    cases d with
    |nil=>cases h;exact⟨⟨[],rfl,fun x hx=>(by cases hx)⟩,one⟩
    |slice es sp=>
     simp only at h
     split at h
     ·split at h
      ·rename_i l hl
       cases h
       obtain⟨h1,h2⟩:=zjW hb (ih e) es l hl
       exact⟨⟨l,rfl,h1⟩,by rw[hb.slice];simp only[PV.sz];omega⟩
      ·cases h
     ·cases h
    |lit l=>cases l <;> cases h
    |_=>cases h
   |struct fs=>
    cases d with
    |agg parts=>
     simp only at h
     split at h
     ·split at h
      ·rename_i l hl
       cases h
       obtain⟨h1,h2⟩:=zic hb ih fs.toList parts l hl
       exact⟨⟨l,rfl,h1⟩,by rw[hb.agg];simp only[PV.sz];omega⟩
      ·cases h
     ·cases h
    |lit l=>cases l <;> cases h
    |_=>cases h
   |_=>cases d <;> first|(cases h;done)|(rename_i l;cases l <;> cases h)

end Go.Am
