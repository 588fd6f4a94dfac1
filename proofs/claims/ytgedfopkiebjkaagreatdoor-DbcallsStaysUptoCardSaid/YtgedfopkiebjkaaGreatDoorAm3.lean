/- What is proved: the abstract machine says true of the model (part 3). No conditions beside those that each theorem names. -/
import Derived.Test.YtgedfopkiebjkaaGreatDoorAm2
import Derived.OrdersIn
import Derived.RangeFuncIn
import Derived.RangeFuncRecord
import Derived.RangeFuncLeaves
import Derived.RecoverIn
import Derived.Scope
set_option linter.unusedSimpArgs false
set_option linter.unusedVariables false
/- Calls of an oracle; one operation of a region, whatever it is. -/
namespace Go.Am
variable{P:Program} {w:World} {X:Xc P} {μ:Nat->Option Nat} {hp:Heap}

def yX(b:Nat)(w:World)(X:Xc P)(μ:Nat->Option Nat)(hp:Heap)(r:ARes)(hp':Heap):Ending->World->Prop
 | .returned v',w'=>∃μ' v,r=.ret v/\HR w' X μ' hp'/\Ext b X μ hp w μ' hp' w'/\AR w' X μ' hp' v v'
 | .panicked chain,w'=>∃μ' p v',r=.panic p/\chain=[{ v:=v',recovered:=false }]/\HR w' X μ' hp'/\Ext b X μ hp w μ' hp' w'/\AR w' X μ' hp' (.pv none p) v'
 | .outgrown,_=>False

def Called(P:Program)(f:FuncId)(args:Array Value)(w:World)(R:Ending->World->Prop):Prop:=
 ((callFunc f args).run P w=.ok (.enter f args) w/\Calls P f args w R)\/∃v w',(callFunc f args).run P w=.ok (.value v) w'/\R (.returned v) w'

theorem Called.mono{f:FuncId}{args:Array Value}{R R':Ending->World->Prop}(h:Called P f args w R)(hr:∀e w',R e w'->R' e w'):Called P f args w R':=by
 rcases h with⟨h1,h2⟩|⟨v,w',h1,h2⟩
 ·exact .inl ⟨h1,h2.mono hr⟩
 ·exact .inr ⟨v,w',h1,hr _ _ h2⟩

abbrev Fe(ro:Option Nat):Fence:={ Fence.wide with round:=ro }
theorem ja{ro:Option Nat}{n:Nat}:(Fe ro).depth.isSome=true->1<=n:=fun h=>by cases h
def qJ(rec:Loop)(vs:List Value):Array Value:=(rec.params.zip vs.toArray).foldl (fun tmps (t,a)=>tmps.setIfInBounds t a) rec.tmps
def Leaving(w:World)(X:Xc P)(μ:Nat->Option Nat)(hp:Heap)(p:PV)(u:FrameMode):Prop:=
 (u=.returning/\p=.niliface)\/∃v,u=.panicking [{ v:=v,recovered:=false }]/\AR w X μ hp (.pv none p) v
structure SoundO(P:Program)(Γ:Oracle):Prop where
 seq:∀f args hp r hp',Γ .seq f args hp=some (r,hp')->∀(w:World) (X:Xc P) (μ:Nat->Option Nat) (vs:List Value),HR w X μ hp->LR w X μ hp args vs->(callFunc f vs.toArray).run P w=.ok (.enter f vs.toArray) w/\Calls P f vs.toArray w (yX hp.length w X μ hp r hp')
 fn:∀f args hp r hp',Γ .fn f args hp=some (r,hp')->∀(w:World) (X:Xc P) (μ:Nat->Option Nat) (vs:List Value),HR w X μ hp->LR w X μ hp args vs->Called P f vs.toArray w (yX hp.length w X μ hp r hp')
 rnd:∀f q azs hp v hp' ps env,Γ .rnd f (.yield q::azs) hp=some (.ret v,hp')->hp[q]? =some (.loop f ps env false)->∀(w:World) (X:Xc P) (μ:Nat->Option Nat) (vs:List Value) (l:Nat) (rec:Loop),HR w X μ hp->LR w X μ hp azs vs->μ q=some l->w.heap[l]? =some (.loop rec)->
  vs.length=rec.params.size/\RoundIn Fence.wide 0 P l rec.fn (qJ rec vs) rec.assign rec.body w (yX hp.length w X μ hp (.ret v) hp')
 dfr:∀g p azs hp r hp',Γ .dfr g (.pv none p::azs) hp=some (r,hp')->∀(w:World) (X:Xc P) (μ:Nat->Option Nat) (vs:List Value) (u:FrameMode),HR w X μ hp->LR w X μ hp azs vs->Leaving w X μ hp p u->
  (callFunc g vs.toArray).run P w=.ok (.enter g vs.toArray) w/\CallsDIn Fence.wide 0 P g vs.toArray u w fun e u' w'=>(∃v,e=.returned v)/\Go.settle u'=.returning/\∃μ',HR w' X μ' hp'/\Ext hp.length X μ hp w μ' hp' w'

theorem Ext.mono{b b0:Nat}{μ':Nat->Option Nat}{hp':Heap}{w':World}(h:Ext b0 X μ hp w μ' hp' w')(hb:b<=b0):Ext b X μ hp w μ' hp' w':=
 { h with
  box:=fun i sh v ho=>let ⟨v',h1,h2,h3⟩:=h.box i sh v ho;⟨v',h1,h2,fun hi=>h3 (Zp hi hb)⟩
  arv:=fun i sh es ho=>let ⟨n,h1,h2,h3,h4⟩:=h.arv i sh es ho;⟨n,h1,h2,h3,fun es' he hi=>h4 es' he (Zp hi hb)⟩ }

theorem CP.lr{ps:List (Sh × PV)}{vs:List Value}(h:CP w (Im X μ hp) ps vs):LR w X μ hp (pvs ps) vs:=
 LR.of (by simp[pvs,h.1]) fun i a v ha hv=>by
  simp only[pvs,ZU,ZA] at ha;obtain⟨x,hx,rfl⟩:=ha;exact .pv _ _ _ (h.2.1 i x v hx hv) (h.2.2 i x v hx hv)

def held(X:Xc P)(μ:Nat->Option Nat)(hp:Heap):Xc P:=⟨fun b=>X b\/∃i,live hp i=true/\μ i=some b⟩

theorem K8{b:Nat}(h:Im X μ hp b):Im (held X μ hp) μ [] b:=
 ⟨fun hb=>by
  rcases hb with hb|⟨i,hi,e⟩
  ·exact h.1 hb
  ·exact h.2 i hi e,fun i hi=>by grind [live]⟩

theorem HR.empty(h:HR w X μ hp):HR w (held X μ hp) μ []:=
 ⟨fun i _ _ hi=>by grind,fun i _ hi=>by grind,fun b hb=>by
  rcases hb with hb|⟨i,hi,e⟩
  ·exact h.xlt b hb
  ·exact(h.out i b (yV hi) e).2,fun i _ _ h=>by grind,fun i _ _ _ h=>by grind,fun i _ _ h=>by grind,fun i _ _ _ _ h=>by grind,fun i _ _ h=>by grind,h.tab.mono fun h=>h.mono fun _ _ _ _ hI hb=>⟨K8 hI,hb⟩⟩

theorem K9{b:Nat}{μ':Nat->Option Nat}{hp':Heap}(h:Im (held X μ hp) μ' hp' b):Im X μ hp b:=
 ⟨fun hb=>h.1 (.inl hb),fun i hi e=>h.1 (.inr ⟨i,hi,e⟩)⟩

theorem CP.empty{ps:List (Sh × PV)}{vs:List Value}(h:CP w (Im X μ hp) ps vs):CP w (Im (held X μ hp) μ []) ps vs:=
 ⟨h.1,h.2.1,fun i x v hx hv=>(h.2.2 i x v hx hv).mono fun _ _ _ _ hI hb=>⟨K8 hI,hb⟩⟩

theorem back{b0 b:Nat}{X':Xc P}{μ':Nat->Option Nat}{hp':Heap}{w':World}(h:HR w X μ hp)(E:Ext b0 X' μ [] w μ' hp' w'):HR w' X μ hp/\Ext b X μ hp w μ hp w':=by
 have hb:∀k,k<w.heap.size->w'.heap[k]? =w.heap[k]? :=fun k hk=>E.blk k hk fun i hi=>by grind [live]
 have e:∀b,Ext b X μ hp w μ hp w':=fun b=>{ Ext.refl b X μ hp w with
  os:=E.os,tape:=E.tape,output:=E.output,size:=E.size,blk:=fun k hk _=>hb k hk,shape:=E.shape
  new:=fun i h1 h2=>by omega
  mov:=fun i _ k hk=>.inl hk }
 exact⟨h.same (e 0) fun i k hi hk=>hb k (h.out i k hi hk).2,e b⟩

theorem UZ{μ':Nat->Option Nat}{hp':Heap}{v v':AV}{u:Value}(h:v.bare=some v')(ha:AR w (held X μ hp) μ' hp' v u):AR w X μ hp v' u:=by
 have pr:∀{p:PV} {u:Value},PR w (Im (held X μ hp) μ' hp') p u->PR w (Im X μ hp) p u:=fun h=>h.mono fun _ _ _ _ hI hb=>⟨K9 hI,hb⟩;unfold AV.bare at h;split at h
 ·cases h;cases ha with|pv _ _ _ hs hq=>exact .pv _ _ _ hs (pr hq)
 ·rename_i l;split at h
  ·rename_i ps hps;cases h;cases ha with|tuple _ vs hl hx=>
   have hpv:l=pvs ps:=by
    clear hl hx
    induction l generalizing ps with
    |nil=>cases hps;rfl
    |cons a r ih=>
     cases a <;> simp only[Kr] at hps <;> (try (cases hps;done))
     grind [pvs]
   subst hpv;refine .tuple _ vs hl fun i a v hi hv=> ?_;have:=hx i a v hi hv;simp only[pvs,ZU,ZA] at hi;obtain⟨x,hx',rfl⟩:=hi;cases this with|pv _ _ _ hs hq=>exact .pv _ _ _ hs (pr hq)
  grind
 grind

theorem kb{v v':AV}{hp2 hp3:Heap}{μ':Nat->Option Nat}{w':World}{u:Value}(h:v.freezeRes hp2=some (v',hp3))(hH:HR w' (held X μ hp) μ' hp2)(ha:AR w' (held X μ hp) μ' hp2 v u):AR w' X μ hp v' u:=by
 have pr:∀{p:PV} {u:Value} {hp3:Heap},PR w' (Im (held X μ hp) μ' hp3) p u->PR w' (Im X μ hp) p u:=fun h=>h.mono fun _ _ _ _ hI hb=>⟨K9 hI,hb⟩;have one:(match AV.freeze deep v hp2 with|some (p,hp')=>some (AV.pv v.shp p,hp')|none=>none)=some (v',hp3)->AR w' X μ hp v' u:=by
  intro h;split at h
  ·rename_i p hp4 hf;cases h;obtain⟨_,_,k3⟩:=xQ 0 w' _ μ' _ _ _ _ _ _ hf hH ha;exact .pv _ _ _ (ha.vshp (KQ hf)) (pr k3)
  grind
 unfold AV.freezeRes at h;split at h
 ·rename_i l;split at h
  ·rename_i ps hp4 hf;cases h;cases ha with|tuple _ vs hl hx=>
   obtain⟨_,_,k3⟩:=qH 0 _ _ _ _ _ hf hH (LR.of hl hx);refine .tuple _ vs (by simp[pvs,k3.1]) fun i a u hi hu=> ?_;simp only[pvs,ZU,ZA] at hi;obtain⟨x,hx',rfl⟩:=hi;exact .pv _ _ _ (k3.2.1 i x u hx' hu) (pr (k3.2.2 i x u hx' hu))
  grind
 grind

theorem dF{μ':Nat->Option Nat}{hp':Heap}{v v':AV}{u:Value}(h:v.alone hp'=some v')(hH:HR w (held X μ hp) μ' hp')(ha:AR w (held X μ hp) μ' hp' v u):AR w X μ hp v' u:=by
 unfold AV.alone at h;split at h
 ·grind [UZ]
 ·split at h
  ·rename_i p hp2 hf;cases h;exact kb hf hH ha
  grind
theorem kd:∀(l q:List AV) (vs:List Value),LR w X μ hp l vs->LR w (held X μ hp) μ [] q vs->LR w (held X μ hp) μ [] (yo l q) vs
 |[],q,vs,_,hq=>by
  grind [yo]
 |x::r,[],vs,_,hq=>by
  grind [yo]
 |x::r,y::q,vs,hl,hq=>by
  cases hl with|cons h1 hl=>
  cases hq with|cons k1 hq=>
  have ih:=kd r q _ hl hq;unfold yo;split
  ·rename_i s r' y' q' e1 e2;cases e1;cases e2;cases h1 with|tsl _ _ a h=>
   exact .cons (.tsl _ _ a (h.mono fun _ _ _ _ hI hb=>⟨K8 hI,hb⟩)) ih
  ·rename_i e1 e2;cases e1;cases e2;exact .cons k1 ih
  grind
theorem LR.append{l k:List AV}{vs us:List Value}(h:LR w X μ hp l vs)(h':LR w X μ hp k us):LR w X μ hp (l++k) (vs++us):=by
 induction h with
 |nil=>exact h'
 |cons h _ ih=>exact .cons h ih

theorem jb{v:AV}{u:Value}{g:FuncId}{first captured:List AV}(h:yn v=some (g,first,captured))(ha:AR w X μ hp v u):∃fs cs:List Value,u=.func (.func g) fs.toArray cs.toArray/\LR w X μ hp first fs/\LR w X μ hp captured cs:=by
 unfold yn at h;split at h
 ·cases h;cases ha with|pv _ _ _ _ hq=>
  cases hq;exact⟨[],[],rfl,.nil,.nil⟩
 ·cases h;cases ha with|func _ _ _ fs cs hf hc h1 h2=>grind [LR.of]
 grind

def After(b:Nat)(w:World)(X:Xc P)(μ:Nat->Option Nat)(hp:Heap)(r:OpRes)(a:Act)(dst:Option Tmp)(K:Act->World->Prop)(Q:Exit->Act->World->Prop):Prop:=
 match r with
 | .val v hp'=>∀v' w' μ',AR w' X μ' hp' v v'->HR w' X μ' hp'->Ext b X μ hp w μ' hp' w'->K (a.put dst v') w'
 | .panic p hp'=>∀v' w' μ',AR w' X μ' hp' (.pv none p) v'->HR w' X μ' hp'->Ext b X μ hp w μ' hp' w'->Q (.panic [{ v:=v',recovered:=false }]) a w'

theorem dG{b:Nat}{o:Oper}{a:Act}{v:AV}{hp':Heap}{K:Act->World->Prop}{Q:Exit->Act->World->Prop}{ro:Option Nat}(hnd:∀c,o.op≠.defer c)(h:Out P b w X μ hp (execOp a.eval o) v hp')(hA:After b w X μ hp (.val v hp') a o.dst K Q):o.wpIn (Fe ro) 0 P a w K Q:=by
 obtain⟨n,v',w',μ',h1,h2,h3,h4,h5⟩:=h;refine⟨fun _ _=>trivial,?_⟩;rw[Oper.semAt_eq _ _ _ hnd,h1];rcases h2 with rfl|⟨rfl,rfl⟩
 ·exact hA v' w' μ' h3 h4 h5
 ·exact hA _ w' μ' h3 h4 h5

theorem qK{o:Oper}{a:Act}{f:FuncId}{args:Array Value}{K:Act->World->Prop}{Q:Exit->Act->World->Prop}{R:Ending->World->Prop}{ro:Option Nat}(hnd:∀c,o.op≠.defer c)(he:(execOp a.eval o).run P w=(callFunc f args).run P w)(h:Called P f args w R)
  (hr:∀v w',R (.returned v) w'->K (a.put o.dst v) w')(hp:∀c w',R (.panicked c) w'->Q (.panic c) a w')(ho:∀w',¬R .outgrown w'):o.wpIn (Fe ro) 0 P a w K Q:=by
 refine⟨fun _ _=>trivial,?_⟩;rw[Oper.semAt_eq _ _ _ hnd,he];rcases h with⟨h1,h2⟩|⟨v,w',h1,h2⟩
 ·rw[h1,Oper.uponIn_enter];refine⟨ja,?_⟩;have h3:CallsIn (Fe ro) (0 - 1) P f args w R:=callsIn_wide.2 h2;refine h3.mono fun e w' hR=> ?_
  grind
 ·rw[h1];exact hr v w' h2

theorem jc{o:Oper}{a:Act}{c:Call}{f:Operand}{g:FuncId}{fs cs:List Value}(hop:o.op=.call c)(hc:c.callee=.value f)(hf:a.eval f=.func (.func g) fs.toArray cs.toArray):
  (execOp a.eval o).run P w=(callFunc g (fs++c.args.toList.map a.eval++cs).toArray).run P w:=by
 have e:fs.toArray++c.args.map a.eval++cs.toArray=(fs++c.args.toList.map a.eval++cs).toArray:=by
  grind
 grind [execOp,resolve,Deferred.ofValue,invoke]

theorem je{o:Oper}{azs:List AArg}(h:trOp P o=some (.call,azs)):∃c f a1 azs',o.op=.call c/\c.callee=.value f/\Yz P 0 f=some a1/\XR P c.args.toList c.argTypes.toList=some azs'/\azs=a1::azs':=by
 cases hop:o.op <;> simp only[trOp,hop] at h <;> (try (cases h;done))
 case call c=>
  grind
 all_goals ((repeat' split at h) <;> first|(cases h;done)|grind)
theorem U0{o:Oper}{azs:List AArg}:¬trOp P o=some (.callp,azs):=by
 intro h;cases hop:o.op <;> simp only[trOp,hop] at h <;> (try (cases h;done))
 case call c=>
  grind
 all_goals ((repeat' split at h) <;> first|(cases h;done)|(exfalso;simp_all;done))
theorem dH{o:Oper}{azs:List AArg}:¬trOp P o=some (.callh,azs):=by
 intro h;cases hop:o.op <;> simp only[trOp,hop] at h <;> (try (cases h;done))
 case call c=>
  grind
 all_goals ((repeat' split at h) <;> first|(cases h;done)|(exfalso;simp_all;done))
theorem U1{o:Oper}{azs:List AArg}:¬trOp P o=some (.callg,azs):=by
 intro h;cases hop:o.op <;> simp only[trOp,hop] at h <;> (try (cases h;done))
 case call c=>
  grind
 all_goals ((repeat' split at h) <;> first|(cases h;done)|(exfalso;simp_all;done))
theorem dI{o:Oper}{azs:List AArg}{n:Nat}:¬trOp P o=some (.calln n,azs):=by
 intro h;cases hop:o.op <;> simp only[trOp,hop] at h <;> (try (cases h;done))
 case call c=>
  grind
 all_goals ((repeat' split at h) <;> first|(cases h;done)|(exfalso;simp_all;done))
theorem dJ{o:Oper}{azs:List AArg}{sh:Sh}{n:Nat}:¬trOp P o=some (.bslicen sh n,azs):=by
 intro h;cases hop:o.op <;> simp only[trOp,hop] at h <;> (try (cases h;done))
 case call c=>
  grind
 all_goals ((repeat' split at h) <;> first|(cases h;done)|(exfalso;simp_all;done))
theorem dK{o:Oper}{azs:List AArg}{sh:Sh}{n:Nat}:¬trOp P o=some (.appendn sh n,azs):=by
 intro h;cases hop:o.op <;> simp only[trOp,hop] at h <;> (try (cases h;done))
 case call c=>
  grind
 all_goals ((repeat' split at h) <;> first|(cases h;done)|(exfalso;simp_all;done))
theorem dM{o:Oper}{azs:List AArg}{sh:Sh}{n:Nat}:¬trOp P o=some (.bslovn sh n,azs):=by
 intro h;cases hop:o.op <;> simp only[trOp,hop] at h <;> (try (cases h;done))
 case call c=>
  grind
 all_goals ((repeat' split at h) <;> first|(cases h;done)|(exfalso;simp_all;done))
theorem dO{o:Oper}{azs:List AArg}(h:trOp P o=some (.panic,azs)):∃x a1,o.op=.panic x/\Yz P 0 x=some a1/\azs=[a1]:=by
 cases hop:o.op <;> simp only[trOp,hop] at h <;> (try (cases h;done))
 case panic x=>
  grind
 case call c=>
  grind
 all_goals ((repeat' split at h) <;> first|(cases h;done)|grind)

theorem qL{Γ:Oracle}(hΓ:SoundO P Γ){b:Nat}{o:Oper}{op op':AOp}{azs:List AArg}{fr:Fr}{a:Act}{vs:List AV}{r:OpRes}{K:Act->World->Prop}{Q:Exit->Act->World->Prop}{ro:Option Nat}(hb:b<=hp.length)(ht:trOp P o=some (op,azs))(hk:op'.alike op)
  (hF:FR w X μ hp fr a.tmps)(ha:fr.argsOf azs=some vs)(hH:HR w X μ hp)(hs:aOp Γ b op' vs hp=some r)(hA:After b w X μ hp r a o.dst K Q):o.wpIn (Fe ro) 0 P a w K Q:=by
 have plain:(∀op,op'≠.call->op'≠.callp->op'≠.callh->op'≠.callg->(∀n,op'≠.calln n)->(∀sh n,op'≠.bslicen sh n)->(∀sh n,op'≠.appendn sh n)->(∀sh n,op'≠.bslovn sh n)->op'≠.panic->op=op'->aOp Γ b op vs hp=(match astep b op vs hp with|some (v,hp')=>some (.val v hp')|none=>none)):=by
  intro op h1 h2 h2' h2g h2n h2b h2a h2v h3 e;subst e;unfold aOp
  grind
 have hnd:∀c,o.op≠.defer c:=by
  grind [trOp]
 by_cases c1:op'=.call
 ·subst c1;have hop:op=.call:=by
   rcases hk with h|⟨sh,_,h|h⟩|⟨h,_⟩|⟨_,_,h⟩|⟨_,_,h⟩
   ·grind
   ·cases h
   ·cases h
   ·exact h
   ·cases h
   grind
  subst hop;obtain⟨c,f,a1,azs',hc1,hc2,hc3,hc4,rfl⟩:=je ht;obtain⟨v1,us,rfl,hv1,hus⟩:=yd ha;have g1:=XV hF hc3 hv1;have g2:=Xb hF hc4 hus;simp only[aOp] at hs;unfold yI at hs;split at hs
  ·rename_i q as2 heq;simp only[List.cons.injEq] at heq;obtain⟨rfl,rfl⟩:=heq;split at hs
   ·rename_i f2 hlf;obtain⟨ps,env,hq⟩:∃ps env,hp[q]? =some (.loop f2 ps env false):=by
     unfold Ks at hlf
     grind
    obtain⟨l,rc,l1,l2,l3,l4,l5,l6,l7⟩:=hH.loop q f2 ps env false hq;have e1:a.eval f=.func (.yield l) #[] #[]:=by
     generalize a.eval f=u at g1;cases g1 with|yield _ l' _ _ _ _ _ hb'=>
     grind
    split at hs
    ·rename_i v hp' hg;cases hs;obtain⟨k1,k2⟩:=hΓ.rnd _ _ _ _ _ _ _ _ hg hq w X μ _ l rc hH g2 l1 l2;have hrun:(execOp a.eval o).run P w=.ok (.round l rc.fn (qJ rc (c.args.toList.map a.eval)) rc.assign rc.body) w:=by
      simp_all[UV,run_yield,execOp,resolve,Deferred.ofValue,invoke,qJ]
     refine⟨fun _ _=>trivial,?_⟩;rw[Oper.semAt_eq _ _ _ hnd,hrun,Oper.uponIn_round];refine⟨ja,?_⟩;have h3:RoundIn (Fe ro) (0 - 1) P l rc.fn (qJ rc (c.args.toList.map a.eval)) rc.assign rc.body w _:=k2;refine h3.mono fun e w' hR=> ?_;cases e with
     |returned v'=>
      obtain⟨μ',v2,h1,h2,h3,h4⟩:=hR;cases h1;exact hA v' w' μ' h4 h2 (h3.mono hb)
     |panicked ch=>
      obtain⟨μ',p,v',h1,_⟩:=hR;cases h1
     |outgrown=>exact hR.elim
    grind
   grind
  ·rename_i f1 as1 _ heq;simp only[List.cons.injEq] at heq;obtain⟨rfl,rfl⟩:=heq;split at hs
   ·rename_i g first captured hcal
    obtain⟨fs,cs,e1,e2,e3⟩:=jb hcal g1;have hrun:=jc (P:=P) (w:=w) hc1 hc2 e1;have hL:=(e2.append g2).append e3;split at hs
    ·rename_i v hp' hg;cases hs;refine qK hnd hrun (hΓ.fn _ _ _ _ _ hg w X μ _ hH hL) (fun v' w' hR=> ?_) (fun c w' hR=> ?_) (fun w' hR=>hR)
     ·obtain⟨μ',v2,h1,h2,h3,h4⟩:=hR;cases h1;exact hA v' w' μ' h4 h2 (h3.mono hb)
     ·obtain⟨μ',p,v',h1,_⟩:=hR;cases h1
    ·rename_i v hp' hg;cases hs;refine qK hnd hrun (hΓ.fn _ _ _ _ _ hg w X μ _ hH hL) (fun v' w' hR=> ?_) (fun c w' hR=> ?_) (fun w' hR=>hR)
     ·obtain⟨μ',v2,h1,h2,h3,h4⟩:=hR;cases h1
     ·obtain⟨μ',p,v',h1,rfl,h2,h3,h4⟩:=hR;cases h1;exact hA v' w' μ' h4 h2 (h3.mono hb)
    grind
   grind
  grind
 ·by_cases c2:op'=.callp
  ·subst c2;have hop:op=.call:=by
    rcases hk with h|⟨sh,_,h|h⟩|⟨h,_⟩|⟨_,_,h⟩|⟨_,_,h⟩
    ·grind [U0]
    ·cases h
    ·cases h
    ·exact h
    ·cases h
    grind
   subst hop;obtain⟨c,f,a1,azs',hc1,hc2,hc3,hc4,rfl⟩:=je ht;obtain⟨v1,us,rfl,hv1,hus⟩:=yd ha;have g1:=XV hF hc3 hv1;have g2:=Xb hF hc4 hus;simp only[aOp,xl] at hs;split at hs
   ·rename_i s0 g as0 heq;simp only[List.cons.injEq] at heq;obtain⟨rfl,rfl⟩:=heq;split at hs
    ·rename_i ps hps;have hCP:=J2 _ _ _ hps g2;have hE:=(HR.empty hH);have hL:=kd _ _ _ g2 hCP.empty.lr;cases g1 with|pv _ _ _ _ hq=>
     have e1:a.eval f=.func (.func g) ([]:List Value).toArray ([]:List Value).toArray:=by
      generalize a.eval f=u at hq;cases hq;rfl
     have hrun:=jc (P:=P) (w:=w) hc1 hc2 e1;simp only[Zu,ZL] at hrun;split at hs
     ·rename_i v hp2 hg;split at hs
      ·rename_i v' hbare;cases hs;refine qK hnd hrun (hΓ.fn _ _ _ _ _ hg w _ μ _ hE hL) (fun v' w' hR=> ?_) (fun c w' hR=> ?_) (fun w' hR=>hR)
       ·obtain⟨μ',v2,h1,h2,h3,h4⟩:=hR;cases h1;obtain⟨k1,k2⟩:=back (b:=b) hH h3;exact hA v' w' μ (dF hbare h2 h4) k1 k2
       ·obtain⟨μ',p,v',h1,_⟩:=hR;cases h1
      grind
     grind
    grind
   grind
  ·by_cases c4:op'=.callh
   ·subst c4;have hop:op=.call:=by
     rcases hk with h|⟨sh,_,h|h⟩|⟨h,_⟩|⟨_,_,h⟩|⟨_,_,h⟩
     ·grind [dH]
     ·cases h
     ·cases h
     ·exact h
     ·cases h
     grind
    subst hop;obtain⟨c,f,a1,azs',hc1,hc2,hc3,hc4,rfl⟩:=je ht;obtain⟨v1,us,rfl,hv1,hus⟩:=yd ha;have g1:=XV hF hc3 hv1;have g2:=Xb hF hc4 hus;simp only[aOp,Q0] at hs;split at hs
    ·rename_i g first captured hcal
     obtain⟨fs,cs,e1,e2,e3⟩:=jb hcal g1;have hrun:=jc (P:=P) (w:=w) hc1 hc2 e1;have hL:=(e2.append g2).append e3;split at hs
     ·rename_i v hp' hg;split at hs
      ·rename_i hsame;cases hs;cases dm hsame;refine qK hnd hrun (hΓ.fn _ _ _ _ _ hg w X μ _ hH hL) (fun v' w' hR=> ?_) (fun c w' hR=> ?_) (fun w' hR=>hR)
       ·obtain⟨μ',v2,h1,h2,h3,h4⟩:=hR;cases h1;exact hA v' w' μ' h4 h2 (h3.mono hb)
       ·obtain⟨μ',p,v',h1,_⟩:=hR;cases h1
      grind
     grind
    grind
   ·by_cases c3:op'=.panic
    ·subst c3;have hop:op=.panic:=by
      rcases hk with h|⟨sh,_,h|h⟩|⟨_,h|h⟩|⟨_,_,h⟩|⟨_,_,h⟩
      ·grind
      ·cases h
      ·cases h
      ·cases h
      ·cases h
      ·cases h
      grind
     subst hop;obtain⟨x,a1,hc1,hc2,rfl⟩:=dO ht;have g:=arg1 hF hc2 ha;simp only[aOp,vN] at hs;split at hs
     ·rename_i s0 t s p;cases hs;obtain⟨y,e1,e2⟩:=g.one;simp only[List.cons.injEq,and_true] at e1;refine⟨fun _ _=>trivial,?_⟩;cases e2 with|pv _ _ _ hs0 hq=>
      cases hq with|iface _ _ _ vv hs1 h2=>
      have hrun:(execOp a.eval o).run P w=.halt (.panic (.iface t vv)) w:=by
       simp_all[execOp,Instr.panic]
      rw[Oper.semAt_eq _ _ _ hnd,hrun,Oper.uponIn_panic];exact hA _ w μ (.pv _ _ _ rfl (.iface _ _ _ _ hs1 h2)) hH (Ext.refl _ _ _ _ _)
     grind
    ·have c5:∀n,op'≠.calln n:=by
      rintro n rfl;rcases hk with h|⟨sh,_,h|h⟩|⟨_,h|h⟩|⟨_,_,h⟩|⟨_,_,h⟩
      ·grind [dI]
      ·cases h
      ·cases h
      ·cases h
      ·cases h
      ·cases h
      grind
     have c6:∀sh n,op'≠.bslicen sh n:=by
      rintro sh n rfl;rcases hk with h|⟨sh,_,h|h⟩|⟨_,h|h⟩|⟨_,_,h⟩|⟨_,_,h⟩
      ·grind [dJ]
      ·cases h
      ·cases h
      ·cases h
      ·cases h
      ·cases h
      grind
     have c8:∀sh n,op'≠.appendn sh n:=by
      rintro sh n rfl;rcases hk with h|⟨sh,_,h|h⟩|⟨_,h|h⟩|⟨_,_,h⟩|⟨_,_,h⟩
      ·grind [dK]
      ·cases h
      ·cases h
      ·cases h
      ·cases h
      ·cases h
      grind
     have c9:∀sh n,op'≠.bslovn sh n:=by
      rintro sh n rfl;rcases hk with h|⟨sh,_,h|h⟩|⟨_,h|h⟩|⟨_,_,h⟩|⟨_,_,h⟩
      ·grind [dM]
      ·cases h
      ·cases h
      ·cases h
      ·cases h
      ·cases h
      grind
     have c7:op'≠.callg:=by
      rintro rfl;rcases hk with h|⟨sh,_,h|h⟩|⟨_,h|h⟩|⟨_,_,h⟩|⟨_,_,h⟩
      ·grind [U1]
      ·cases h
      ·cases h
      ·cases h
      ·cases h
      ·cases h
      grind
     rw[plain op' c1 c2 c4 c7 c5 c6 c8 c9 c3 rfl] at hs;split at hs
     ·rename_i v hp' hst;cases hs;exact dG hnd (dD hb ht hk hF ha hH hst) hA
     grind
end Go.Am

/- Regions in the text's order. -/
namespace Go.Am
variable{P:Program} {w:World} {X:Xc P} {μ:Nat->Option Nat} {hp:Heap}

def Yo(w:World)(X:Xc P)(μ:Nat->Option Nat)(hp:Heap):AExit->Exit->Prop
 | .normal,.normal=>True
 | .exit i,.exit j=>i=j
 | .ret,.ret=>True
 | .panic p,.panic chain=>∃v,chain=[{ v,recovered:=false }]/\AR w X μ hp (.pv none p) v
 |_,_=>False

def Lands(nt:Nat)(b:Nat)(w:World)(X:Xc P)(μ:Nat->Option Nat)(hp:Heap)(ds:List Deferred)(e:AExit)(fr:Fr)(hp':Heap)(e':Exit)(a:Act)(w':World):Prop:=
 a.defers=ds/\a.tmps.size=nt/\∃μ',HR w' X μ' hp'/\FR w' X μ' hp' fr a.tmps/\Ext b X μ hp w μ' hp' w'/\Yo w' X μ' hp' e e'

theorem FR.put{w':World}{μ':Nat->Option Nat}{hp':Heap}{b:Nat}{fr:Fr}{a:Act}{v:AV}{v':Value}{dst:Option Nat}(h:FR w X μ hp fr a.tmps)(E:Ext b X μ hp w μ' hp' w')(hd:∀d,dst=some d->d<a.tmps.size)(hv:AR w' X μ' hp' v v'):FR w' X μ' hp' (fr.dst dst v) (a.put dst v').tmps:=by
 cases dst with
 |none=>exact fun s u hs=>⟨(h s u hs).1,E.ar (h s u hs).2⟩
 |some d=>
  intro s u hs;have hlt:=hd d rfl;simp only[Fr.dst,Fr.look] at hs;simp only[Act.put,Array.size_setIfInBounds];split at hs
  ·simp_all
  ·rename_i e;obtain⟨h1,h2⟩:=h s u hs;refine⟨h1,?_⟩;have:(a.tmps.setIfInBounds d v').getD s undef=a.tmps.getD s undef:=by
    simp_all
   rw[this];exact E.ar h2

theorem yl(a:Act)(d:Option Tmp)(v:Value):(a.put d v).tmps.size=a.tmps.size:=by cases d <;> simp[Act.put]
theorem QE(a:Act)(d:Option Tmp)(v:Value):(a.put d v).defers=a.defers:=by cases d <;> rfl

theorem FR.keep{fr:Fr}{t:Array Value}(h:FR w X μ hp fr t)(ks:List Nat):FR w X μ hp (fr.keep ks) t:=by
 have key:∀(ks:List Nat) s u,(fr.keep ks).look s=some u->fr.look s=some u:=by
  intro ks
  induction ks with
  |nil=>grind [Fr.keep,Fr.look]
  |cons k r ih=>
   grind [Fr.keep,Fr.look]
 exact fun s u hs=>h s u (key ks s u hs)

theorem QF{nt:Nat}{ops:Array Oper}{o:Oper}{ao:AOper}{fr:Fr}{t:Array Value}{x:Bool}(hF:FR w X μ hp fr t)(h:xm P nt ops o=some ao)(hw:wants fr ao.guard=some x):Region.wanted o (yielded ops t)=x:=by
 unfold xm at h;split at h
 ·split at h
  ·cases h
  ·rename_i op azs hop;split at h
   ·grind [wants,Region.wanted]
   ·rename_i j want hg;split at h
    ·rename_i s hs;cases h;simp only[wants] at hw;split at hw
     ·rename_i sh b hl;cases hw;obtain⟨h1,h2⟩:=hF s _ hl;have h3:=h2.bool_inv;simp_all[Region.wanted,yielded]
     ·rename_i hl;cases hw;obtain⟨h1,h2⟩:=hF s _ hl;cases h2 with|undef _ h2=>
      simp_all[Region.wanted,yielded]
     grind
    grind
 grind

theorem Q2{nt:Nat}{ops:Array Oper}{o:Oper}{ao:AOper}(h:xm P nt ops o=some ao):ao.dst=o.dst/\(∀d,o.dst=some d->d<nt)/\trOp P o=some (ao.op,ao.args):=by
 grind [xm,bq]

inductive Likes:List AOper->List AOper->Prop
 |nil:Likes [] []
 |cons (a b:AOper) (l k:List AOper) (h1:a.dst=b.dst) (h2:a.guard=b.guard) (h3:a.args=b.args) (h4:a.op.alike b.op) (h:Likes l k):Likes (a::l) (b::k)
theorem Likes.refl:∀l:List AOper,Likes l l
 |[]=>.nil
 |a::l=>.cons a a l l rfl rfl rfl (.inl rfl) (Likes.refl l)
theorem Likes.map{f:AOper->AOper}(hf:∀a,(f a).dst=a.dst/\(f a).guard=a.guard/\(f a).args=a.args/\(f a).op.alike a.op):∀l:List AOper,Likes (l.map f) l
 |[]=>.nil
 |a::l=>.cons _ _ _ _ (hf a).1 (hf a).2.1 (hf a).2.2.1 (hf a).2.2.2 (Likes.map hf l)
theorem dQ(k:List AOper)(a:AOper):(ownB k a).dst=a.dst/\(ownB k a).guard=a.guard/\(ownB k a).args=a.args/\(ownB k a).op.alike a.op:=by
 unfold ownB;split
 ·rename_i sh d hop _;split
  ·refine⟨rfl,rfl,rfl,?_⟩;rw[hop];exact .inr (.inl ⟨sh,rfl,.inr rfl⟩)
  ·exact⟨rfl,rfl,rfl,.inl rfl⟩
 ·exact⟨rfl,rfl,rfl,.inl rfl⟩

theorem jf{Γ:Oracle}(hΓ:SoundO P Γ){nt b:Nat}{ops:Array Oper}{e:AExit}{fr':Fr}{hp':Heap}{Q:Exit->Act->World->Prop}{ro:Option Nat}:∀(l0 l:List AOper) (n i:Nat) (w:World) (μ:Nat->Option Nat) (hp:Heap) (fr:Fr) (a:Act),
  i+n<=ops.size->yb P nt ops ((ops.toList.drop i).take n)=some l0->Likes l l0->aops Γ b l fr hp=some (e,fr',hp')->b<=hp.length->HR w X μ hp->FR w X μ hp fr a.tmps->a.tmps.size=nt->(∀e' a' w',Lands nt b w X μ hp a.defers e fr' hp' e' a' w'->Q e' a' w')->
  wpOpsIn (Fe ro) 0 P ops Q (List.range' i n) a w
 |[],l,n,i,w,μ,hp,fr,a,hn,ht,hlk,hs,hb,hH,hF,hsz,hQ=>by
  cases hlk;have h0:n=0:=by
   rcases Nat.eq_zero_or_pos n with h|h
   ·exact h
   ·exfalso;have hlt:i<ops.toList.length:=by grind
    obtain⟨m,rfl⟩:∃m,n=m+1:=⟨n - 1,by omega⟩
    grind [zC,yb]
  subst h0;simp only[aops,Option.some.injEq,Prod.mk.injEq] at hs;obtain⟨rfl,rfl,rfl⟩:=hs;exact hQ _ _ _ ⟨rfl,hsz,μ,hH,hF,Ext.refl _ _ _ _ _,trivial⟩
 |ao0::l0,lx,n,i,w,μ,hp,fr,a,hn,ht,hlk,hs,hb,hH,hF,hsz,hQ=>by
  cases hlk with|cons ao _ l _ k1 k2 k3 k4 hlk=>
  have h0:0<n:=by
   rcases Nat.eq_zero_or_pos n with h|h
   ·subst h;rw[zu] at ht;cases ht
   grind
  obtain⟨m,rfl⟩:∃m,n=m+1:=⟨n - 1,by omega⟩;have hlt:i<ops.size:=by omega
  have hlt':i<ops.toList.length:=by grind
  rw[zC hlt',ZE] at ht;simp only[yb] at ht;split at ht
  ·cases ht
  ·rename_i ao' hao;split at ht
   ·rename_i l' hl';cases ht;obtain⟨d1,d2,d3⟩:=Q2 hao;have d1:=k1.trans d1;have ho:ops[i]? =some ops.toList[i]:=by grind
    simp only[List.range'_succ,wpOpsIn,ho];simp only[aops] at hs;have rest:∀(v:AV) (hp2:Heap) (v':Value) (w2:World) (μ2:Nat->Option Nat),aops Γ b l (fr.dst ao.dst v) hp2=some (e,fr',hp')->AR w2 X μ2 hp2 v v'->HR w2 X μ2 hp2->Ext b X μ hp w μ2 hp2 w2->wpOpsIn (Fe ro) 0 P ops Q (List.range' (i+1) m) (a.put ops.toList[i].dst v') w2:=by
     intro v hp2 v' w2 μ2 hr hv hH2 E;refine jf hΓ l0 l m (i+1) w2 μ2 hp2 _ _ (by omega) hl' hlk hr (Zz hb E.len) hH2 ?_ (by grind [yl]) ?_
     ·rw[d1];exact hF.put E (fun d hd=>by grind) hv
     ·intro e' a' w' hL;rw[QE] at hL;obtain⟨k1,k2,μ',k3,k4,k5,k6⟩:=hL;exact hQ e' a' w' ⟨k1,k2,μ',k3,k4,E.trans k5,k6⟩
    split at hs
    ·cases hs
    ·rename_i hw;rw[QF hF hao (by rw[<-k2];exact hw)];simp only[ZJ,if_false];refine⟨fun _ _=>trivial,?_⟩;exact rest .undef hp undef w μ hs (.undef _ fun b h=>by cases h) hH (Ext.refl _ _ _ _ _)
    ·rename_i hw;rw[QF hF hao (by rw[<-k2];exact hw)];simp only[if_true];split at hs
     ·cases hs
     ·rename_i vs hvs;split at hs
      ·rename_i v hp2 hop;exact(qL hΓ hb d3 k4 hF (by grind) hH hop (fun v' w2 μ2 hv hH2 E=>rest v hp2 v' w2 μ2 hs hv hH2 E))
      ·rename_i v hp2 hop;cases hs;refine(qL hΓ hb d3 k4 hF (by grind) hH hop (fun v' w2 μ2 hv hH2 E=> ?_));exact hQ _ _ _ ⟨rfl,hsz,μ2,hH2,fun s u hs=>⟨(hF s u hs).1,E.ar (hF s u hs).2⟩,E,v',rfl,hv⟩
      grind
   grind

theorem U2{Γ:Oracle}(hΓ:SoundO P Γ){nt b id:Nat}{ops:Array Oper}{e:AExit}{fr fr':Fr}{hp':Heap}{Q:Exit->Act->World->Prop}{l l0:List AOper}{a:Act}{ro:Option Nat}(ht:yb P nt ops ops.toList=some l0)(hlk:Likes l l0)(hs:aops Γ b l fr hp=some (e,fr',hp'))(hb:b<=hp.length)
  (hH:HR w X μ hp)(hF:FR w X μ hp fr a.tmps)(hsz:a.tmps.size=nt)(hQ:∀e' a' w',Lands nt b w X μ hp a.defers e fr' hp' e' a' w'->Q e' a' w'):(Code.region id ops false).wpIn (Fe ro) 0 P Q a w:=by
 apply wpIn_region;rw[List.range_eq_range'];exact jf hΓ l0 l ops.size 0 w μ hp fr a (by omega) (by grind [Zl]) hlk hs hb hH hF hsz hQ
end Go.Am

/- Settling; dropping objects that nothing shows. -/
namespace Go.Am
variable{P:Program} {w:World} {X:Xc P} {μ:Nat->Option Nat} {hp:Heap}

theorem dR{l:List (Sh × AV)}{q:Nat}(h:q∈AV.refsIn.go l):∃(i:Nat) (x:Sh × AV),l[i]? =some x/\q∈x.2.refsIn:=by
 induction l with
 |nil=>grind [AV.refsIn.go]
 |cons x r ih=>
  obtain⟨s,v⟩:=x;simp only[AV.refsIn.go,Z6] at h;rcases h with h|h
  ·exact⟨0,_,rfl,h⟩
  ·obtain⟨i,x,hx,hq⟩:=ih h;exact⟨i+1,x,by grind,hq⟩
theorem ke{l:List AV}{q:Nat}(h:q∈AV.refsIn.gol l):∃(i:Nat) (x:AV),l[i]? =some x/\q∈x.refsIn:=by
 induction l with
 |nil=>grind [AV.refsIn.gol]
 |cons x r ih=>
  simp only[AV.refsIn.gol,Z6] at h;rcases h with h|h
  ·exact⟨0,_,rfl,h⟩
  ·obtain⟨i,x,hx,hq⟩:=ih h;exact⟨i+1,x,by grind,hq⟩
theorem dS{l:List (Sh × AV)}{q i:Nat}{x:Sh × AV}(hx:l[i]? =some x)(h:q∈x.2.refsIn):q∈AV.refsIn.go l:=by
 induction l generalizing i with
 |nil=>grind
 |cons y r ih=>
  grind [AV.refsIn.go]
theorem kg{l:List AV}{q i:Nat}{x:AV}(hx:l[i]? =some x)(h:q∈x.refsIn):q∈AV.refsIn.gol l:=by
 induction l generalizing i with
 |nil=>grind
 |cons y r ih=>
  grind [AV.refsIn.gol]

theorem dV{n i:Nat}(h:live (hp.take n) i=true):live hp i=true:=by
 grind [live]
theorem U3{n b:Nat}(h:Im X μ hp b):Im X μ (hp.take n) b:=⟨h.1,fun i hi=>h.2 i (dV hi)⟩
theorem PR.take{n:Nat}{p:PV}{v:Value}(h:PR w (Im X μ hp) p v):PR w (Im X μ (hp.take n)) p v:=h.mono fun _ _ _ _ hI hb=>⟨U3 hI,hb⟩
theorem xr{n i:Nat}{o:AObj}(h:hp[i]? =some o)(hi:i<n):(hp.take n)[i]? =some o:=by grind
theorem QG{n i:Nat}{o:AObj}(h:(hp.take n)[i]? =some o):i<n/\hp[i]? =some o:=by
 grind

theorem kh{r n m:Nat}{sh:Sh}(h:YP hp[r]? =some (sh,m))(hr:r<n):YP (hp.take n)[r]? =some (sh,m):=by
 grind
theorem AR.take{n:Nat}{a:AV}{v:Value}(h:AR w X μ hp a v)(hn:∀q∈a.refsIn,q<n):AR w X μ (hp.take n) a v:=by
 induction h with
 |undef v h=>exact .undef v h
 |pv sh p v hs h=>exact .pv sh p v hs h.take
 |agg l vs hl h _ ih=>exact .agg l vs hl h fun i x v hx hv=>ih i x v hx hv fun q hq=>hn q (dS hx hq)
 |tsl sh es a h=>exact .tsl sh es a h.take
 |sl sh r ver off len a cap es fz ho hv hlc ha hc=>exact .sl sh r ver off len a cap es fz (xr ho (hn r (by simp[AV.refsIn]))) hv hlc ha hc
 |ptr r off b sh v ho hb=>exact .ptr r off b sh v (xr ho (hn r (by simp[AV.refsIn]))) hb
 |eptr sh r ver i off a es fz ho hv hc=>exact .eptr sh r ver i off a es fz (xr ho (hn r (by simp[AV.refsIn]))) hv hc
 |iptr sh p off b o cs t fr v hI hb hp hs hc=>exact .iptr sh p off b o cs t fr v (U3 hI) hb hp.take hs hc
 |map r b sh es ho hb=>exact .map r b sh es (xr ho (hn r (by simp[AV.refsIn]))) hb
 |func fn first captured fs cs hf hc _ _ ih ih'=>
  exact .func fn first captured fs cs hf hc (fun i a v hx hv=>ih i a v hx hv fun q hq=>hn q (by grind [AV.refsIn,kg])) (fun i a v hx hv=>ih' i a v hx hv fun q hq=>hn q (by grind [AV.refsIn,kg]))
 |iface t a v _ ih=>exact .iface t a v (ih fun q hq=>hn q (by grind [AV.refsIn]))
 |tuple l vs hl _ ih=>exact .tuple l vs hl fun i x v hx hv=>ih i x v hx hv fun q hq=>hn q (by grind [AV.refsIn,kg])
 |yield r l f ps env bz ho hb=>exact .yield r l f ps env bz (xr ho (hn r (by simp[AV.refsIn]))) hb
 |slv sh r ver off len a cap m ho hv hlc ha hc=>exact .slv sh r ver off len a cap m (kh ho (hn r (by simp[AV.refsIn]))) hv hlc ha hc
 |epv sh r ver i off a m ho hv hc=>exact .epv sh r ver i off a m (kh ho (hn r (by simp[AV.refsIn]))) hv hc
 |nilv sh=>exact .nilv sh

theorem AR.refs_lt{a:AV}{v:Value}(h:AR w X μ hp a v):∀q∈a.refsIn,q<hp.length:=by
 have lt:∀{i:Nat} {o:AObj},hp[i]? =some o->i<hp.length:=fun h=>(Zf.1 h).1
 induction h with
 |undef v=>grind [AV.refsIn]
 |pv sh p v hs h=>grind [AV.refsIn]
 |agg l vs hl h _ ih=>
  intro q hq;obtain⟨i,x,hx,hq⟩:=dR (by simpa[AV.refsIn] using hq);have hi:i<vs.length:=by grind
  exact ih i x vs[i] hx (Ze hi) q hq
 |tsl sh es a h=>grind [AV.refsIn]
 |sl sh r ver off len a cap es fz ho hv hlc ha hc=>grind [AV.refsIn]
 |ptr r off b sh v ho hb=>grind [AV.refsIn]
 |eptr sh r ver i off a es fz ho hv hc=>grind [AV.refsIn]
 |iptr=>grind [AV.refsIn]
 |map r b sh es ho hb=>grind [AV.refsIn]
 |func fn first captured fs cs hf hc _ _ ih ih'=>
  intro q hq;simp only[AV.refsIn,Z6] at hq;rcases hq with hq|hq
  ·obtain⟨i,x,hx,hq⟩:=ke hq;have hi:i<fs.length:=by grind
   exact ih i x fs[i] hx (Ze hi) q hq
  ·obtain⟨i,x,hx,hq⟩:=ke hq;have hi:i<cs.length:=by grind
   exact ih' i x cs[i] hx (Ze hi) q hq
 |iface t a v _ ih=>grind [AV.refsIn]
 |tuple l vs hl _ ih=>
  intro q hq;obtain⟨i,x,hx,hq⟩:=ke (by simpa[AV.refsIn] using hq);have hi:i<vs.length:=by grind
  exact ih i x vs[i] hx (Ze hi) q hq
 |yield r l f ps env bz ho hb=>grind [AV.refsIn]
 |slv sh r ver off len a cap m ho hv hlc ha hc=>
  grind [AV.refsIn,XT]
 |epv sh r ver i off a m ho hv hc=>
  grind [AV.refsIn,XT]
 |nilv sh=>grind [AV.refsIn]

theorem dW{fr:Fr}{x:Nat × AV}{q:Nat}(h:x∈fr)(hq:q∈x.2.refsIn):q∈QZ fr:=by
 induction fr with
 |nil=>cases h
 |cons y r ih=>
  grind [QZ]
theorem dX{fr:Fr}{q:Nat}(h:q∈QZ fr):∃x∈fr,q∈x.2.refsIn:=by
 induction fr with
 |nil=>cases h
 |cons x r ih=>
  grind [QZ]

theorem HR.take{n:Nat}(h:HR w X μ hp)(hr:∀i o,i<n->hp[i]? =some o->∀q∈o.refs,q<n):HR w X μ (hp.take n):=by
 have hle:∀{i:Nat},i<(hp.take n).length->i<hp.length:=fun h=>by grind
 refine⟨fun i j b hi hj=>h.inj i j b (hle hi) (hle hj),fun i b hi=>h.out i b (hle hi),h.xlt,?_,?_,?_,?_,?_,h.tab.mono PR.take⟩
 ·intro i sh v hi;obtain⟨hi,ho⟩:=QG hi;obtain⟨b,val,t,h1,h2,h3,h4,h5⟩:=h.box i sh v ho;exact⟨b,val,t,h1,h2,h3,h4,h5.take (hr i _ hi ho)⟩
 ·intro i sh es fz hi;obtain⟨hi,ho⟩:=QG hi;obtain⟨h0,h1⟩:=h.arr i sh es fz ho;refine⟨h0,?_⟩;rcases h1 with h1|⟨b,cs,t,vals,h1,h2,h3,h4,h5⟩
  ·grind
  ·exact .inr ⟨b,cs,t,vals,h1,h2,h3,fun k p v hp hv=>⟨(h4 k p v hp hv).1,(h4 k p v hp hv).2.take⟩,h5⟩
 ·intro i sh es hi;obtain⟨hi,ho⟩:=QG hi;obtain⟨b,ents,clock,h1,h2,h3⟩:=h.map i sh es ho;exact⟨b,ents,clock,h1,h2,h3.mono PR.take⟩
 ·intro i f ps env bz hi;obtain⟨hi,ho⟩:=QG hi;obtain⟨l,rc,h1,h2,h3,h4,h5,h6,h7⟩:=h.loop i f ps env bz ho;exact⟨l,rc,h1,h2,h3,h4,h5,h6,fun x hx=>⟨(h7 x hx).1,(h7 x hx).2.take fun q hq=>hr i _ hi ho q (dW hx hq)⟩⟩
 ·intro i sh es hi;obtain⟨hi,ho⟩:=QG hi;obtain⟨h0,b,cs,t,vals,h1,h2,h3,h4,h5⟩:=h.arv i sh es ho;exact⟨h0,b,cs,t,vals,h1,h2,h3,fun k a v ha hv=>⟨(h4 k a v ha hv).1,(h4 k a v ha hv).2.take fun q hq=>hr i _ hi ho q ((xR _ _).2 ⟨a,Zh ha,hq⟩)⟩,h5⟩

theorem Ext.take{b n:Nat}{μ':Nat->Option Nat}{hp':Heap}{w':World}(E:Ext b X μ hp w μ' hp' w')(hn:hp.length<=n):Ext b X μ hp w μ' (hp'.take n) w':=by
 have lt:∀{i:Nat} {o:AObj},hp[i]? =some o->i<n:=fun h=>Zp (Zf.1 h).1 hn;exact{ E with
  len:=by have:=E.len;grind
  box:=fun i sh v ho=>let ⟨v',h1,h2⟩:=E.box i sh v ho;⟨v',xr h1 (lt ho),h2⟩
  arr:=fun i sh es fz ho=>let ⟨es',fz',h1,h2⟩:=E.arr i sh es fz ho;⟨es',fz',xr h1 (lt ho),h2⟩
  map:=fun i sh es ho=>let ⟨es',h1,h2⟩:=E.map i sh es ho;⟨es',xr h1 (lt ho),h2⟩
  loop:=fun i f ps env bz ho=>let ⟨bz',h1,h2⟩:=E.loop i f ps env bz ho;⟨bz',xr h1 (lt ho),h2⟩
  arv:=fun i sh es ho=>let ⟨m,h1,h2,h3,h4⟩:=E.arv i sh es ho
   ⟨m,kh h1 (lt ho),h2,h3,fun es' he=>h4 es' (QG he).2⟩
  new:=fun i h1 h2=>E.new i h1 (by grind) }

theorem U4(b:Nat){t:Array Value}:∀(l:List Nat) (st st':St),settle l st=some st'->HR w X μ st.hp->FR w X μ st.hp st.fr t->HR w X μ st'.hp/\FR w X μ st'.hp st'.fr t/\Ext b X μ st.hp w μ st'.hp w
 |[],st,st',h,hH,hF=>by
  grind [settle,Ext.refl]
 |s::r,st,st',h,hH,hF=>by
  have again:∀(fr:Fr) (hp1:Heap),settle r ⟨fr,hp1⟩=some st'->HR w X μ hp1->FR w X μ hp1 fr t->Ext b X μ st.hp w μ hp1 w->HR w X μ st'.hp/\FR w X μ st'.hp st'.fr t/\Ext b X μ st.hp w μ st'.hp w:=by
   intro fr hp1 h h1 h2 h3;obtain⟨k1,k2,k3⟩:=U4 b r _ _ h h1 h2;exact⟨k1,k2,h3.trans k3⟩
  have mv:∀{hp1:Heap},Ext b X μ st.hp w μ hp1 w->FR w X μ hp1 st.fr t:=fun E s u hs=>⟨(hF s u hs).1,E.ar (hF s u hs).2⟩;have stay:settle r st=some st'->HR w X μ st'.hp/\FR w X μ st'.hp st'.fr t/\Ext b X μ st.hp w μ st'.hp w:=fun h=>again st.fr st.hp h hH hF (Ext.refl _ _ _ _ _);simp only[settle] at h;split at h
  ·rename_i q off hl;split at h
   ·rename_i sh v hq;split at h
    ·rename_i p hp1 hf;obtain⟨b0,val,t0,g1,g2,g3,g4,g5⟩:=hH.box q sh v hq;obtain⟨e1,e2,e3⟩:=xQ b w X μ _ _ _ _ _ _ hf hH g5;obtain⟨v1,f1,f2,f3⟩:=e1.box q sh v hq;have E:∀b,Ext b X μ hp1 w μ (hp1.set q (.box sh (.pv sh p))) w:=fun b=>Ext.setBox f1 (fun _ x hx=>by grind [AV.refsIn]) g1 rfl rfl rfl rfl (fun _ _=>rfl) fun cs t fr h=>⟨cs,h,rfl⟩;have H:=e2.setBox f1 g1 (E 0) (fun _ _=>rfl) g2 g3 g4 (.pv sh p val g3 e3);exact again _ _ h H (mv (e1.trans (E b))) (e1.trans (E b))
    grind
   grind
  ·rename_i s' q ver off len hl;split at h
   ·rename_i p hp1 hf;obtain⟨g1,g2⟩:=hF s _ hl;obtain⟨e1,e2,e3⟩:=xQ b w X μ _ _ _ _ _ _ hf hH g2;refine again _ _ h e2 (fun k u hk=> ?_) e1;simp only[Fr.look] at hk;split at hk
    ·rename_i e;subst e;cases hk;exact⟨g1,.pv _ _ _ (g2.vshp rfl) e3⟩
    ·exact mv e1 k u hk
   grind
  ·rename_i sh es hl;obtain⟨g1,g2⟩:=hF s _ hl;refine again _ _ h hH (fun k u hk=> ?_) (Ext.refl _ _ _ _ _);simp only[Fr.look] at hk;split at hk
   ·rename_i e;subst e;cases hk;refine⟨g1,.pv _ _ _ (g2.vshp rfl) ?_⟩;generalize t.getD s undef=u at g2 ⊢;cases g2 with|tsl _ _ a hq=>exact hq
   ·exact hF k u hk
  ·rename_i s' q ver off len hl;split at h
   ·rename_i p hp1 hf;obtain⟨g1,g2⟩:=hF s _ hl;obtain⟨e1,e2,e3⟩:=xQ b w X μ _ _ _ _ _ _ hf hH g2;refine again _ _ h e2 (fun k u hk=> ?_) e1;simp only[Fr.look] at hk;split at hk
    ·rename_i e;subst e;cases hk;exact⟨g1,.pv _ _ _ (g2.vshp rfl) e3⟩
    ·exact mv e1 k u hk
   grind
  ·rename_i sh hl;obtain⟨g1,g2⟩:=hF s _ hl;refine again _ _ h hH (fun k u hk=> ?_) (Ext.refl _ _ _ _ _);simp only[Fr.look] at hk;split at hk
   ·rename_i e;subst e;cases hk;refine⟨g1,.pv _ _ _ (g2.vshp rfl) ?_⟩;generalize t.getD s undef=u at g2 ⊢;cases g2;exact .nilsl _ _ _
   ·exact hF k u hk
  ·rename_i l hl;split at h
   ·grind
   ·split at h
    ·rename_i p hp1 hf;obtain⟨g1,g2⟩:=hF s _ hl;obtain⟨e1,e2,e3⟩:=xQ b w X μ _ _ _ _ _ _ hf hH g2;refine again _ _ h e2 (fun k u hk=> ?_) e1;simp only[Fr.look] at hk;split at hk
     ·rename_i e;subst e;cases hk;exact⟨g1,.pv _ _ _ (g2.vshp rfl) e3⟩
     ·exact mv e1 k u hk
    grind
  grind
end Go.Am

/- Blocks that are made before the abstract machine knows of them. -/
namespace Go.Am
variable{P:Program} {w:World} {X:Xc P} {μ:Nat->Option Nat} {hp:Heap}

structure Tran(w:World)(X:Xc P)(μ:Nat->Option Nat)(hp:Heap)(w':World)(X':Xc P)(μ':Nat->Option Nat)(hp':Heap):Prop where
 im:∀b,b<w.heap.size->Im X μ hp b->Im X' μ' hp' b/\w'.heap[b]? =w.heap[b]?
 shape:∀(b:Nat) (cs:Array Value) (t:TypeId) (fr:Nat × Nat),w.heap[b]? =some (Obj.cells cs t fr)->∃(cs':Array Value),w'.heap[b]? =some (Obj.cells cs' t fr)/\cs'.size=cs.size
 box:∀i sh v,hp[i]? =some (.box sh v)->∃v',hp'[i]? =some (.box sh v')/\μ' i=μ i
 arr:∀i sh es fz,hp[i]? =some (.arr sh es fz)->∃es' fz',hp'[i]? =some (.arr sh es' fz')/\es.length<=es'.length/\(es'.length=es.length->μ' i=μ i)
 map:∀i sh es,hp[i]? =some (.map sh es)->∃es',hp'[i]? =some (.map sh es')/\μ' i=μ i
 loop:∀i f ps env bz,hp[i]? =some (.loop f ps env bz)->∃bz',hp'[i]? =some (.loop f ps env bz')/\μ' i=μ i
 avl:∀i sh n,YP hp[i]? =some (sh,n)->∃n',YP hp'[i]? =some (sh,n')/\n<=n'/\(n'=n->μ' i=μ i)

theorem Ext.tran{b0:Nat}{Y:Xc P}{μ':Nat->Option Nat}{hp':Heap}{w':World}(h:Ext b0 Y μ hp w μ' hp' w'):Tran w X μ hp w' X μ' hp' where
 im b hb hI:=⟨⟨hI.1,fun i hl e=>by
  have hlt:=yV hl;rcases Zn i hp.length with hi|hi
  ·rcases h.mov i hi b e with h1|h1
   ·exact hI.2 i (h.live hi hl) h1
   ·omega
  ·have:=h.new i hi hlt b e;omega⟩,h.blk b hb hI.2⟩
 shape:=h.shape
 box i sh v ho:=let ⟨v',h1,h2,_⟩:=h.box i sh v ho;⟨v',h1,h2⟩
 arr i sh es fz ho:=let ⟨es',fz',h1,h2,_,h4⟩:=h.arr i sh es fz ho;⟨es',fz',h1,h2,h4⟩
 map:=h.map
 loop:=h.loop
 avl i sh n ho:=h.avl ho
theorem Tran.trans{w' w'':World}{X' X'':Xc P}{μ' μ'':Nat->Option Nat}{hp' hp'':Heap}(h:Tran w X μ hp w' X' μ' hp')(k:Tran w' X' μ' hp' w'' X'' μ'' hp'')(hs:w.heap.size<=w'.heap.size):Tran w X μ hp w'' X'' μ'' hp'' where
 im b hb hI:=by
  obtain⟨h1,h2⟩:=h.im b hb hI;obtain⟨k1,k2⟩:=k.im b (by omega) h1
  grind
 shape b cs t fr hb:=by
  obtain⟨cs1,h1,h2⟩:=h.shape b cs t fr hb;obtain⟨cs2,h3,h4⟩:=k.shape b cs1 t fr h1
  grind
 box i sh v ho:=by
  obtain⟨v1,h1,h2⟩:=h.box i sh v ho;obtain⟨v2,k1,k2⟩:=k.box i sh v1 h1
  grind
 arr i sh es fz ho:=by
  obtain⟨es1,fz1,h1,h2,h4⟩:=h.arr i sh es fz ho;obtain⟨es2,fz2,k1,k2,k4⟩:=k.arr i sh es1 fz1 h1
  grind
 map i sh es ho:=by
  obtain⟨es1,h1,h2⟩:=h.map i sh es ho;obtain⟨es2,k1,k2⟩:=k.map i sh es1 h1
  grind
 loop i f ps env bz ho:=by
  obtain⟨b1,h1,h2⟩:=h.loop i f ps env bz ho;obtain⟨b2,k1,k2⟩:=k.loop i f ps env b1 h1
  grind
 avl i sh n ho:=by
  obtain⟨n1,h1,h2,h3⟩:=h.avl i sh n ho;obtain⟨n2,k1,k2,k3⟩:=k.avl i sh n1 h1
  grind

section
variable{w':World} {X':Xc P} {μ':Nat->Option Nat} {hp':Heap} (h:Tran w X μ hp w' X' μ' hp')
include h
theorem Tran.pr{p:PV}{v:Value}(hq:PR w (Im X μ hp) p v):PR w' (Im X' μ' hp') p v:=
 hq.mono fun b cs t fr hI hb=>let ⟨h1,h2⟩:=h.im b (yt hb) hI;⟨h1,by grind⟩
theorem Tran.ar{a:AV}{v:Value}(ha:AR w X μ hp a v):AR w' X' μ' hp' a v:=by
 induction ha with
 |undef v h=>exact .undef v h
 |pv sh p v hs hp=>exact .pv sh p v hs (h.pr hp)
 |agg l vs hl hs _ ih=>exact .agg l vs hl hs ih
 |tsl sh es a hp=>exact .tsl sh es a (h.pr hp)
 |sl sh r ver off len a cap es fz ho hv hlc ha hc=>
  obtain⟨es',fz',h1,h2,h4⟩:=h.arr r sh es fz ho;refine .sl sh r ver off len a cap es' fz' h1 (by omega) hlc ha fun e=> ?_;have e1:es'.length=es.length:=by omega
  obtain⟨c1,c2⟩:=hc (by omega);refine⟨by omega,?_⟩;rcases c2 with⟨c2,c3⟩|⟨b,cs,t,c2,c3,c4,c5⟩
  ·grind
  ·have hm:μ' r=some b:=by grind
   obtain⟨cs2,hc2,hsz⟩:=h.shape b cs t _ c3
   grind
 |ptr r off b sh v ho hb=>
  obtain⟨v',h1,h2⟩:=h.box r sh v ho;exact .ptr r off b sh v' h1 (by grind)
 |eptr sh r ver i off a es fz ho hv hc=>
  obtain⟨es',fz',h1,h2,h4⟩:=h.arr r sh es fz ho;refine .eptr sh r ver i off a es' fz' h1 (by omega) fun e=> ?_
  grind
 |iptr sh p off b o cs t fr v hI hb hp hs hc=>
  obtain⟨h1,h2⟩:=h.im b (yt hb) hI;exact .iptr sh p off b o cs t fr v h1 (by grind) (h.pr hp) hs hc
 |map r b sh es ho hb=>
  obtain⟨es',h1,h2⟩:=h.map r sh es ho;exact .map r b sh es' h1 (by grind)
 |func fn first captured fs cs hf hc _ _ ih ih'=>exact .func fn first captured fs cs hf hc ih ih'
 |iface t a v _ ih=>exact .iface t a v ih
 |tuple l vs hl _ ih=>exact .tuple l vs hl ih
 |yield r l f ps env bz ho hb=>
  obtain⟨bz',h1,h2⟩:=h.loop r f ps env bz ho;exact .yield r l f ps env bz' h1 (by grind)
 |slv sh r ver off len a cap n ho hv hlc ha hc=>
  obtain⟨n',h1,h2,h4⟩:=h.avl r sh n ho;refine .slv sh r ver off len a cap n' h1 (by omega) hlc ha fun e=> ?_;have e1:n'=n:=by omega
  obtain⟨c1,b,cs,t,c2,c3,c4,c5⟩:=hc (by omega);obtain⟨cs2,hc2,hsz⟩:=h.shape b cs t _ c3
  grind
 |epv sh r ver i off a n ho hv hc=>
  obtain⟨n',h1,h2,h4⟩:=h.avl r sh n ho;refine .epv sh r ver i off a n' h1 (by omega) fun e=> ?_
  grind
 |nilv sh=>exact .nilv sh
end

theorem HR.tran{w':World}{X':Xc P}(h:HR w X μ hp)(e:Tran w X μ hp w' X' μ hp)(hb:∀i b,i<hp.length->μ i=some b->w'.heap[b]? =w.heap[b]?)(ho:∀i b,i<hp.length->μ i=some b->¬X' b/\b<w'.heap.size)(hx:∀b,X' b->b<w'.heap.size):HR w' X' μ hp where
 inj:=h.inj
 out:=ho
 xlt:=hx
 box i sh v ho:=by
  obtain⟨b,val,t,h1,h2,h3,h4,h5⟩:=h.box i sh v ho;exact⟨b,val,t,h1,by grind,h3,h4,e.ar h5⟩
 arr i sh es fz ho:=by
  obtain⟨h0,h1⟩:=h.arr i sh es fz ho;refine⟨h0,?_⟩;rcases h1 with h1|⟨b,cs,t,vals,h1,h2,h3,h4,h5⟩
  ·grind
  ·exact .inr ⟨b,cs,t,vals,h1,by grind,h3,fun k p v hk hv=>⟨(h4 k p v hk hv).1,e.pr (h4 k p v hk hv).2⟩,h5⟩
 map i sh es ho:=by
  obtain⟨b,ents,clock,h1,h2,h3⟩:=h.map i sh es ho;exact⟨b,ents,clock,h1,by grind,h3.mono e.pr⟩
 loop i f ps env bz ho:=by
  obtain⟨l,rc,h1,h2,h3,h4,h5,h6,h7⟩:=h.loop i f ps env bz ho;exact⟨l,rc,h1,by grind,h3,h4,h5,h6,fun x hx=>⟨(h7 x hx).1,e.ar (h7 x hx).2⟩⟩
 arv i sh es ho:=by
  obtain⟨h0,b,cs,t,vals,h1,h2,h3,h4,h5⟩:=h.arv i sh es ho;exact⟨h0,b,cs,t,vals,h1,by grind,h3,fun k p v hk hv=>⟨(h4 k p v hk hv).1,e.ar (h4 k p v hk hv).2⟩,h5⟩
 tab:=h.tab.mono e.pr

def Xp(X:Xc P)(pb:Nat->Option Nat):Xc P:=⟨fun b=>X b\/∃k,pb k=some b⟩
theorem XX{pb:Nat->Option Nat}(h:∀k,pb k=none):Xp X pb=X:=by
 simp_all[Xp]
theorem ki{pb:Nat->Option Nat}{k:Nat}(o:Obj)(hk:pb k=none):Tran w (Xp X pb) μ hp (w.alloc o) (Xp X (upd pb k (some w.heap.size))) μ hp where
 im b hb hI:=⟨⟨fun hx=>by
  rcases hx with hx|⟨j,hj⟩
  ·exact hI.1 (.inl hx)
  ·by_cases e:j=k
   ·grind [zW]
   ·rw[zY e] at hj;exact hI.1 (.inr ⟨j,hj⟩),hI.2⟩,YQ w o hb⟩
 shape b cs t fr h:=⟨cs,Uh w o h,rfl⟩
 box i sh v h:=⟨v,h,rfl⟩
 arr i sh es fz h:=⟨es,fz,h,Zc _,fun _=>rfl⟩
 map i sh es h:=⟨es,h,rfl⟩
 loop i f ps env bz h:=⟨bz,h,rfl⟩
 avl i sh n h:=⟨n,h,Zc _,fun _=>rfl⟩
theorem HR.hold{pb:Nat->Option Nat}{k:Nat}(o:Obj)(hk:pb k=none)(h:HR w (Xp X pb) μ hp):HR (w.alloc o) (Xp X (upd pb k (some w.heap.size))) μ hp:=by
 refine h.tran (ki o hk) (fun i b hi hm=>YQ w o (h.out i b hi hm).2) (fun i b hi hm=>⟨fun hx=> ?_,by simp;have:=(h.out i b hi hm).2;omega⟩) (fun b hx=> ?_)
 ·rcases hx with hx|⟨j,hj⟩
  ·exact(h.out i b hi hm).1 (.inl hx)
  ·by_cases e:j=k
   ·subst e;rw[zW] at hj;cases hj;have:=(h.out i _ hi hm).2;omega
   ·rw[zY e] at hj;exact(h.out i b hi hm).1 (.inr ⟨j,hj⟩)
 ·rcases hx with hx|⟨j,hj⟩
  ·have:=h.xlt b (.inl hx);simp;omega
  ·by_cases e:j=k
   ·simp_all[zW]
   ·rw[zY e] at hj;have:=h.xlt b (.inr ⟨j,hj⟩);simp;omega

theorem kl{pb:Nat->Option Nat}{k bk:Nat}(hk:pb k=some bk)(hi:∀k' b,pb k=some b->pb k'=some b->k=k')(hX:¬X bk)(o:AObj):Tran w (Xp X pb) μ hp w (Xp X (upd pb k none)) (upd μ hp.length (some bk)) (hp++[o]) where
 im b _ hI:=by
  refine⟨⟨fun hx=> ?_,fun i hl e=> ?_⟩,rfl⟩
  ·rcases hx with hx|⟨j,hj⟩
   ·exact hI.1 (.inl hx)
   ·by_cases e:j=k
    ·grind [zW]
    ·rw[zY e] at hj;exact hI.1 (.inr ⟨j,hj⟩)
  ·have hlt:=yV hl;simp at hlt;rcases Zn i hp.length with hi|hi
   ·rw[Yi hi] at e;refine hI.2 i ?_ e
    grind [live]
   ·have:i=hp.length:=by omega
    subst this;rw[zW] at e;cases e;exact hI.1 (.inr ⟨k,hk⟩)
 shape b cs t fr h:=⟨cs,h,rfl⟩
 box i sh v h:=⟨v,QA h,Yi (Zf.1 h).1⟩
 arr i sh es fz h:=⟨es,fz,QA h,Zc _,fun _=>Yi (Zf.1 h).1⟩
 map i sh es h:=⟨es,QA h,Yi (Zf.1 h).1⟩
 loop i f ps env bz h:=⟨bz,QA h,Yi (Zf.1 h).1⟩
 avl i sh n h:=by
  grind [XT,Yi]
theorem HR.takeIn{pb:Nat->Option Nat}{k bk:Nat}(h:HR w (Xp X pb) μ hp)(hk:pb k=some bk)(hi:∀k' b,pb k=some b->pb k'=some b->k=k')(hX:¬X bk)(o:AObj)
  (hbox:∀sh v,o=.box sh v->∃val t,w.heap[bk]? =some (.cells val.cells t (0,0))/\vshp val=sh/\Flat val/\∀(X':Xc P) (μ':Nat->Option Nat) (hp':Heap),AR w X' μ' hp' v val)
  (harr:∀sh es fz,o≠.arr sh es fz)(hmap:∀sh es,o=.map sh es->∃clock,w.heap[bk]? =some (.map #[] clock)/\es=[])(hloop:∀f ps env bz,o≠.loop f ps env bz)(harv:∀sh es,o≠.arv sh es):HR w (Xp X (upd pb k none)) (upd μ hp.length (some bk)) (hp++[o]):=by
 have T:=kl (w:=w) (μ:=μ) (hp:=hp) hk hi hX o;have hbk:Xp X pb bk:=.inr ⟨k,hk⟩;have at_:∀i,i<(hp++[o]).length->i<hp.length\/i=hp.length:=by grind
 have less:∀b,Xp X (upd pb k none) b->Xp X pb b:=by
  rintro b (hx|⟨j,hj⟩)
  ·exact .inl hx
  ·by_cases e:j=k
   ·grind [zW]
   ·rw[zY e] at hj;exact .inr ⟨j,hj⟩
 have nbk:¬Xp X (upd pb k none) bk:=by
  rintro(hx|⟨j,hj⟩)
  ·grind
  grind [zW,zY]
 refine⟨?_,?_,?_,?_,?_,?_,?_,?_,h.tab.mono T.pr⟩
 ·intro i j b hi' hj h1 h2;rcases at_ i hi' with hi'|rfl <;> rcases at_ j hj with hj|rfl
  ·rw[Yi hi'] at h1;rw[Yi hj] at h2;exact h.inj i j b hi' hj h1 h2
  ·rw[Yi hi'] at h1;rw[zW] at h2;cases h2;exact absurd hbk (h.out i _ hi' h1).1
  ·rw[zW] at h1;rw[Yi hj] at h2;cases h1;exact absurd hbk (h.out j _ hj h2).1
  ·rfl
 ·intro i b hi' h1;rcases at_ i hi' with hi'|rfl
  ·rw[Yi hi'] at h1;exact⟨fun hx=>(h.out i b hi' h1).1 (less b hx),(h.out i b hi' h1).2⟩
  ·rw[zW] at h1;cases h1;exact⟨nbk,h.xlt _ hbk⟩
 ·exact fun b hx=>h.xlt b (less b hx)
 ·intro i sh v ho;rcases XU ho with ho|⟨rfl,ho2⟩
  ·have hi':=(Zf.1 ho).1;obtain⟨b,val,t,h1,h2,h3,h4,h5⟩:=h.box i sh v ho;exact⟨b,val,t,by grind [Yi],h2,h3,h4,T.ar h5⟩
  grind [zW]
 ·intro i sh es fz ho;rcases XU ho with ho|⟨rfl,ho2⟩
  ·have hi':=(Zf.1 ho).1;obtain⟨h0,h1⟩:=h.arr i sh es fz ho;refine⟨h0,?_⟩;rcases h1 with h1|⟨b,cs,t,vals,h1,h2,h3,h4,h5⟩
   ·grind [Yi]
   ·exact .inr ⟨b,cs,t,vals,by grind [Yi],h2,h3,fun k p v hk hv=>⟨(h4 k p v hk hv).1,T.pr (h4 k p v hk hv).2⟩,h5⟩
  grind
 ·intro i sh es ho;rcases XU ho with ho|⟨rfl,ho2⟩
  ·have hi':=(Zf.1 ho).1;obtain⟨b,ents,clock,h1,h2,h3⟩:=h.map i sh es ho;exact⟨b,ents,clock,by grind [Yi],h2,h3.mono T.pr⟩
  grind [zW,MapR.nil]
 ·intro i f ps env bz ho;rcases XU ho with ho|⟨rfl,ho2⟩
  ·have hi':=(Zf.1 ho).1;obtain⟨l,rc,h1,h2,h3,h4,h5,h6,h7⟩:=h.loop i f ps env bz ho;exact⟨l,rc,by grind [Yi],h2,h3,h4,h5,h6,fun x hx=>⟨(h7 x hx).1,T.ar (h7 x hx).2⟩⟩
  grind
 ·intro i sh es ho;rcases XU ho with ho|⟨rfl,ho2⟩
  ·have hi':=(Zf.1 ho).1;obtain⟨h0,b,cs,t,vals,h1,h2,h3,h4,h5⟩:=h.arv i sh es ho;exact⟨h0,b,cs,t,vals,by grind [Yi],h2,h3,fun k p v hk hv=>⟨(h4 k p v hk hv).1,T.ar (h4 k p v hk hv).2⟩,h5⟩
  grind
theorem Ext.takeIn{b0 bk:Nat}{Y:Xc P}{μ0:Nat->Option Nat}{hp0:Heap}{w0:World}(E:Ext b0 Y μ0 hp0 w0 μ hp w)(hb:w0.heap.size<=bk)(o:AObj):Ext b0 Y μ0 hp0 w0 (upd μ hp.length (some bk)) (hp++[o]) w where
 os:=E.os
 tape:=E.tape
 output:=E.output
 size:=E.size
 blk:=E.blk
 shape:=E.shape
 len:=by have:=E.len;grind
 box i sh v ho:=by
  obtain⟨v',h1,h2,h3⟩:=E.box i sh v ho
  grind [Yi]
 arr i sh es fz ho:=by
  obtain⟨es',fz',h1,h2,h3,h4⟩:=E.arr i sh es fz ho
  grind [Yi]
 map i sh es ho:=by
  obtain⟨es',h1,h2⟩:=E.map i sh es ho
  grind [Yi]
 loop i f ps env bz ho:=by
  obtain⟨bz',h1,h2⟩:=E.loop i f ps env bz ho
  grind [Yi]
 arv i sh es ho:=by
  obtain⟨n,h1,h2,h3,h4⟩:=E.arv i sh es ho
  grind [XT,Yi]
 new i h1 h2 b hb':=by
  simp at h2;by_cases e:i=hp.length
  ·grind [zW]
  ·rw[zY e] at hb';exact E.new i h1 (by omega) b hb'
 mov i hi b hb':=by
  by_cases e:i=hp.length
  ·grind [zW]
  ·rw[zY e] at hb';exact E.mov i hi b hb'
theorem Ext.cast{b0:Nat}{Y Z:Xc P}{μ':Nat->Option Nat}{hp':Heap}{w':World}(E:Ext b0 Y μ hp w μ' hp' w'):Ext b0 Z μ hp w μ' hp' w':=⟨E.os,E.tape,E.output,E.size,E.blk,E.shape,E.len,E.box,E.arr,E.map,E.loop,E.arv,E.new,E.mov⟩

theorem dY{sh:Sh}{a:AV}{x:Value}{t:TypeId}{bk:Nat}(hH:HR w X μ (hp++[.box sh a]))(hm:μ hp.length=some bk)(hc:w.heap[bk]? =some (.cells x.cells t (0,0)))(hs:vshp x=sh)(hf:Flat x)(ha:AR w X μ (hp++[.box sh a]) a x):
  ∃μ',AR w X μ' (((a.own (hp++[.box sh a])).2).set hp.length (.box sh (a.own (hp++[.box sh a])).1)) (.ptr hp.length 0) (.pointer (some ⟨bk,0,none⟩))/\
   HR w X μ' (((a.own (hp++[.box sh a])).2).set hp.length (.box sh (a.own (hp++[.box sh a])).1))/\
   ∀b,b<=hp.length->Ext b X μ (hp++[.box sh a]) w μ' (((a.own (hp++[.box sh a])).2).set hp.length (.box sh (a.own (hp++[.box sh a])).1)) w:=by
 obtain⟨μ',k1,k2,k3⟩:=KH hp.length hH ha;obtain⟨v0,k4,k5,_⟩:=k2.box hp.length sh a Xa;have k6:μ' hp.length=some bk:=by grind
 have E2:∀b0,b0<=hp.length->Ext b0 X μ' (a.own (hp++[.box sh a])).2 w μ' (((a.own (hp++[.box sh a])).2).set hp.length (.box sh (a.own (hp++[.box sh a])).1)) w:=fun b0 hb0=>
  Ext.setBox k4 (fun h=>by omega) k6 rfl rfl rfl rfl (fun _ _=>rfl) (fun cs t fr h=>⟨cs,h,rfl⟩)
 have H2:=k1.setBox k4 k6 (E2 0 (Za _)) (fun _ _=>rfl) hc hs hf k3;refine⟨μ',?_,H2,fun b hb=>(k2.mono hb).trans (E2 b hb)⟩;have hl:hp.length<(a.own (hp++[.box sh a])).2.length:=(Zf.1 k4).1;exact .ptr _ 0 _ sh _ (by rw[ZC hl]) k6
end Go.Am

/- Regions whose order is drawn. -/
namespace Go.Am
variable{P:Program} {w:World} {X:Xc P} {μ:Nat->Option Nat} {hp:Heap}

def aone(Γ:Oracle)(b:Nat)(o:AOper)(fr:Fr)(hp:Heap):Option OpRes:=
 match wants fr o.guard with
 |none=>none
 |some false=>some (.val .undef hp)
 |some true=>match fr.argsOf o.args with
  |none=>none
  |some vs=>aOp Γ b o.op vs hp

theorem qM(Γ:Oracle)(b:Nat)(o:AOper)(rest:List AOper)(fr:Fr)(hp:Heap):
  aops Γ b (o::rest) fr hp=match aone Γ b o fr hp with
   |some (.val v hp')=>aops Γ b rest (fr.dst o.dst v) hp'
   |some (.panic v hp')=>some (.panic v,fr,hp')
   |none=>none:=by
 grind [aops,aone]

structure Run(Γ:Oracle)(b:Nat)(l:List AOper)(fr:Fr)(hp:Heap)(e:AExit)(fr':Fr)(hp':Heap)(m:Nat)(frs:Nat->Fr)(hps:Nat->Heap)(vals:Nat->AV):Prop where
 f0:frs 0=fr
 h0:hps 0=hp
 le:m<=l.length
 step:∀k o,k<m->l[k]? =some o->aone Γ b o (frs k) (hps k)=some (.val (vals k) (hps (k+1)))/\frs (k+1)=(frs k).dst o.dst (vals k)
 fin:(m=l.length/\e=.normal/\fr'=frs m/\hp'=hps m)\/∃o p,l[m]? =some o/\aone Γ b o (frs m) (hps m)=some (.panic p hp')/\e=.panic p/\fr'=frs m

theorem jg{Γ:Oracle}{b:Nat}{e:AExit}{fr':Fr}{hp':Heap}:∀(l:List AOper) (fr:Fr) (hp:Heap),aops Γ b l fr hp=some (e,fr',hp')->∃m frs hps vals,Run Γ b l fr hp e fr' hp' m frs hps vals
 |[],fr,hp,h=>by
  simp only[aops,Option.some.injEq,Prod.mk.injEq] at h;obtain⟨rfl,rfl,rfl⟩:=h;exact⟨0,fun _=>fr,fun _=>hp,fun _=>.undef,⟨rfl,rfl,Zc _,fun k o hk=>by omega,.inl ⟨rfl,rfl,rfl,rfl⟩⟩⟩
 |o::rest,fr,hp,h=>by
  rw[qM] at h;split at h
  ·rename_i v hp2 ho;obtain⟨m,frs,hps,vals,R⟩:=jg rest _ _ h;refine⟨m+1,fun k=>if k=0 then fr else frs (k - 1),fun k=>if k=0 then hp else hps (k - 1),fun k=>if k=0 then v else vals (k - 1),⟨rfl,rfl,by simpa using R.le,?_,?_⟩⟩
   ·intro k o' hk ho';cases k with
    |zero=>
     simp at ho';subst ho';simp only[if_true,ZK,Nat.one_ne_zero,if_false,Nat.sub_self,R.f0,R.h0]
     grind
    |succ k=>
     have:=R.step k o' (by omega) (by grind)
     grind
   ·rcases R.fin with⟨h1,h2,h3,h4⟩|⟨o',p,h1,h2,h3,h4⟩
    ·grind
    grind
  ·rename_i v hp2 ho;cases h;exact⟨0,fun _=>fr',fun _=>hp,fun _=>.undef,⟨rfl,rfl,Za _,fun k o hk=>by omega,.inr ⟨o,v,rfl,ho,rfl,rfl⟩⟩⟩
  grind

theorem dZ{o:AOper}(h:o.cls=0):o.op=.callp\/o.op.isPure=true:=by
 grind [AOper.cls]
theorem U5{o:AOper}(h:o.cls=1):o.op=.callh\/(o.op.isPure=false/\o.op.isRead=true):=by
 grind [AOper.cls]
theorem xu{o:AOper}(h:o.cls=3):o.args=[]/\o.guard=none/\(∃d,o.dst=some d)/\((∃sh z,o.op=.alloc sh z)\/(∃sh,o.op=.nilsl sh)\/∃sh,o.op=.mkmap sh):=by
 grind [AOper.cls]
theorem qN(o:AOper):o.cls=0\/o.cls=1\/o.cls=2\/o.cls=3:=by
 grind [AOper.cls]
theorem d7{o:AOper}(h:o.risky=true):o.cls=2:=by
 grind [AOper.risky,AOper.cls,AOp.isPure,AOp.isRead]

theorem d8{Γ:Oracle}{b:Nat}{op:AOp}{vs:List AV}{v:AV}{hp1 hp2:Heap}(ho:op=.callp\/op.isPure=true)(h:aOp Γ b op vs hp1=some (.val v hp2)):hp2=hp1/\∀hp3,aOp Γ b op vs hp3=some (.val v hp3):=by
 rcases ho with rfl|hop
 ·simp only[aOp,xl] at h ⊢;split at h
  ·split at h
   ·rename_i ps hps;split at h
    ·rename_i v0 q hg;split at h
     ·grind
     grind
    grind
   grind
  grind
 ·have e:∀hp,aOp Γ b op vs hp=match Yq hp (spure op vs) with|some (v,hp')=>some (.val v hp')|none=>none:=by
   intro hp;cases op <;> first|(cases hop;done)|rfl
  rw[e] at h;cases hs:spure op vs with
  |none=>rw[hs] at h;cases h
  |some u=>
   rw[hs] at h;cases h;exact⟨rfl,fun hp3=>by rw[e,hs];rfl⟩
theorem km{Γ:Oracle}{b:Nat}{op:AOp}{vs:List AV}{hp1:Heap}(hop:op.isPure=false)(hr:op.isRead=true):aOp Γ b op vs hp1=match sread op vs hp1 with|some v=>some (.val v hp1)|none=>none:=by
 have e:aOp Γ b op vs hp1=match Yq hp1 (sread op vs hp1) with|some (v,hp')=>some (.val v hp')|none=>none:=by
  cases op <;> first|(cases hr;done)|rfl
 rw[e];cases sread op vs hp1 <;> rfl
theorem d9{Γ:Oracle}{b:Nat}{op:AOp}{vs:List AV}{v:AV}{hp1 hp2:Heap}(ho:op=.callh\/(op.isPure=false/\op.isRead=true))(h:aOp Γ b op vs hp1=some (.val v hp2)):hp2=hp1:=by
 rcases ho with rfl|⟨hop,hr⟩
 ·simp only[aOp,Q0] at h
  grind
 grind [km]

theorem XY{Γ:Oracle}{b:Nat}{o:AOper}{fr:Fr}{v:AV}{hp1 hp2:Heap}(h:aone Γ b o fr hp1=some (.val v hp2)):(o.cls=0->hp2=hp1/\∀hp3,aone Γ b o fr hp3=some (.val v hp3))/\(o.cls=1->hp2=hp1):=by
 grind [aone,d8,dZ,d9,U5]

theorem qO{fr:Fr}:∀{n:Nat} {azs:List AArg} {vs:List AV},fr.argsOf azs=some vs->fr.argsOf (azs.drop n)=some (vs.drop n)
 |0,azs,vs,h=>by grind
 |n+1,[],vs,h=>by grind [Fr.argsOf]
 |n+1,a::r,vs,h=>by
  obtain⟨v,us,rfl,_,h2⟩:=yd h;simpa using qO h2
theorem U6{sh:Sh}{b:Nat}{vs:List AV}{v:AV}{hp':Heap}(h:xk sh b hp vs=some (v,hp')):∃r o s1 r1 v1 i1 o1 s2 p2,∃y,vs=[.ptr r o,y,.eptr s1 r1 v1 i1 o1,.pv s2 p2]/\((∃sh r v o n,y=.sl sh r v o n)\/∃sh p,y=.pv sh p)/\astore sh b hp (.ptr r o) y=some hp'/\v=.undef:=by
 unfold xk at h
 grind
theorem Eb{Γ:Oracle}{b:Nat}{o:AOper}{fr:Fr}{hp:Heap}{r:OpRes}(h:aone Γ b o fr hp=some r):aone Γ b o.base fr hp=some r:=by
 unfold AOper.base;split
 ·rename_i sh p v qs ho ha;unfold aone at h ⊢;simp only[] at h ⊢;split at h
  ·cases h
  ·exact h
  ·rw[ha] at h;split at h
   ·cases h
   ·rename_i vs hvs;obtain⟨a1,us,rfl,h1,h2⟩:=yd hvs;obtain⟨a2,us2,rfl,h3,h4⟩:=yd h2;have e:fr.argsOf [p,v]=some [a1,a2]:=by grind [Fr.argsOf]
    rw[e];simp only[ho] at h;show aOp Γ b (.store sh) [a1,a2] hp=some r;simp only[aOp,astep,AOp.isPure,AOp.isRead,cond_false,swrite,YV,zH] at h ⊢
    grind
 ·rename_i sh p v qs ho ha;unfold aone at h ⊢;simp only[] at h ⊢;split at h
  ·cases h
  ·exact h
  ·rw[ha] at h;split at h
   ·cases h
   ·rename_i vs hvs;obtain⟨a1,us,rfl,h1,h2⟩:=yd hvs;obtain⟨a2,us2,rfl,h3,h4⟩:=yd h2;have e:fr.argsOf [p,v]=some [a1,a2]:=by grind [Fr.argsOf]
    rw[e];simp only[ho] at h;show aOp Γ b (.store sh) [a1,a2] hp=some r;simp only[aOp,astep,AOp.isPure,AOp.isRead,cond_false,swrite,zH] at h ⊢
    grind [U6]
 ·grind [aone,qO,aOp,Q1]
 ·rename_i ho;unfold aone at h ⊢;simp only[] at h ⊢;split at h
  ·cases h
  ·exact h
  grind [aOp,xJ]
 ·rename_i sh n ho;unfold aone at h ⊢;simp only[] at h ⊢;split at h
  ·cases h
  ·exact h
  ·split at h
   ·cases h
   ·rename_i vs hvs;rw[qO hvs]
    grind [aOp,astep,AOp.isPure,AOp.isRead,swrite,qw]
 ·rename_i sh n ho;unfold aone at h ⊢;simp only[] at h ⊢;split at h
  ·cases h
  ·exact h
  ·split at h
   ·cases h
   ·rename_i vs hvs;rw[qO hvs]
    grind [aOp,astep,AOp.isPure,AOp.isRead,swrite,JP]
 ·rename_i sh n ho;unfold aone at h ⊢;simp only[] at h ⊢;split at h
  ·cases h
  ·exact h
  ·split at h
   ·cases h
   ·rename_i vs hvs;rw[qO hvs]
    grind [aOp,astep,AOp.isPure,AOp.isRead,swrite,JQ]
 grind

theorem kn{Γ:Oracle}{b:Nat}{o:AOper}{fr:Fr}{p:PV}{hp1 hp2:Heap}(h:aone Γ b o fr hp1=some (.panic p hp2)):o.risky=true:=by
 unfold aone at h;split at h
 ·cases h
 ·cases h
 ·split at h
  ·cases h
  ·rename_i vs hvs;unfold AOper.risky;split
   ·rfl
   ·rfl
   ·rfl
   ·rename_i n1 n3 n2;exfalso;unfold aOp at h;split at h
    ·grind
    ·simp only[xl] at h
     grind
    ·simp only[Q0] at h
     grind
    ·grind [xJ]
    ·grind
    ·grind [qw]
    ·grind [JP]
    ·grind [JQ]
    ·grind
    grind

theorem Run.heap{Γ:Oracle}{b:Nat}{l:List AOper}{fr fr':Fr}{hp hp':Heap}{e:AExit}{m:Nat}{frs:Nat->Fr}{hps:Nat->Heap}{vals:Nat->AV}(R:Run Γ b l fr hp e fr' hp' m frs hps vals){i:Nat}:∀(n:Nat),i+n<=m->(∀k o,i<=k->k<i+n->l[k]? =some o->o.cls≠2/\o.cls≠3)->hps (i+n)=hps i
 |0,_,_=>rfl
 |n+1,hm,hc=>by
  rw[<-R.heap n (by omega) (fun k o h1 h2 h3=>hc k o h1 (by omega) h3)];have hlt:i+n<l.length:=Zp (by omega) R.le;have ho:l[i+n]? =some l[i+n]:=Ze hlt;obtain⟨h1,_⟩:=R.step (i+n) _ (by omega) ho;have hcls:=hc (i+n) _ (by omega) (by omega) ho
  grind [qN,XY]

theorem Run.look{Γ:Oracle}{b:Nat}{l:List AOper}{fr fr':Fr}{hp hp':Heap}{e:AExit}{m:Nat}{frs:Nat->Fr}{hps:Nat->Heap}{vals:Nat->AV}(R:Run Γ b l fr hp e fr' hp' m frs hps vals){s:Nat}{a:AV}:∀(k:Nat),k<=m->(frs k).look s=some a->
  (∃j o,j<k/\l[j]? =some o/\o.dst=some s/\a=vals j)\/((∀j o,j<k->l[j]? =some o->o.dst≠some s)/\fr.look s=some a)
 |0,_,h=>.inr ⟨fun j _ hj=>by omega,by rw[R.f0] at h;exact h⟩
 |k+1,hk,h=>by
  have hlt:k<l.length:=Zp (by omega) R.le;have ho:l[k]? =some l[k]:=Ze hlt;obtain⟨_,h2⟩:=R.step k _ (by omega) ho;rw[h2] at h;have old:l[k].dst≠some s->(frs k).look s=some a->(∃j o,j<k+1/\l[j]? =some o/\o.dst=some s/\a=vals j)\/((∀j o,j<k+1->l[j]? =some o->o.dst≠some s)/\fr.look s=some a):=by
   intro hn h;rcases R.look k (by omega) h with⟨j,o,h1,h2,h3,h4⟩|⟨h1,h2⟩
   ·grind
   grind
  cases hd:l[k].dst with
  |none=>
   rw[hd] at h;exact old (by grind) h
  |some d=>
   rw[hd] at h;simp only[Fr.dst,Fr.look] at h;split at h
   ·grind
   simp_all
end Go.Am

/- Regions whose order is drawn: what the static check says. -/
namespace Go.Am
variable{P:Program} {w:World} {X:Xc P} {μ:Nat->Option Nat} {hp:Heap}

theorem ko{x y:Nat}{l:List Nat}:y∈ins x l↔y=x\/y∈l:=by
 induction l with
 |nil=>simp[ins]
 |cons z r ih=>
  grind [ins]
theorem U7{a b:List Nat}{y:Nat}:y∈union a b↔y∈a\/y∈b:=by
 unfold union
 induction a generalizing b with
 |nil=>simp
 |cons x r ih=>
  grind [ko]

theorem Ec{acc:List (List Nat)}{o:Oper}{j:Nat}(h:j∈Qx acc o):∃e∈o.after.toList,Region.binds .any e=true/\(j=e.on\/j∈acc.getD e.on []):=by
 unfold Qx at h;generalize o.after.toList=l at h ⊢
 induction l with
 |nil=>grind
 |cons e r ih=>
  grind [ko,U7]

theorem U8(acc:List (List Nat)):∀(l:List Oper),(clos acc l).length=acc.length+l.length/\(∀i,i<acc.length->(clos acc l)[i]? =acc[i]?)/\
  ∀i o,l[i]? =some o->(clos acc l)[acc.length+i]? =some (Qx ((clos acc l).take (acc.length+i)) o)
 |[]=>⟨by simp[clos],fun i _=>rfl,fun i o h=>by grind⟩
 |o::r=>by
  obtain⟨h1,h2,h3⟩:=U8 (acc++[Qx acc o]) r;simp only[clos];refine⟨by grind,fun i hi=>by grind,fun i o' ho=> ?_⟩;cases i with
  |zero=>
   simp at ho;subst ho;rw[Nat.add_zero,h2 acc.length (by simp)];simp only[List.getElem?_concat_length,Option.some.injEq]
   congr 1
   symm
   apply Z4
   grind
  |succ i=>
   grind

theorem kq:∀(l:List Oper) (n:Nat),yT n l=true->∀i o,l[i]? =some o->∀e∈o.after.toList,Region.binds .any e=true->e.on<n+i
 |[],n,_,i,o,h=>by grind
 |x::r,n,h,i,o,ho=>by
  simp only[yT,Zk,Zr] at h;cases i with
  |zero=>
   grind
  |succ i=>
   intro e he hb;have:=kq r (n+1) h.2 i o (by grind) e he hb;omega

def Shut(ops:Array Oper)(L:Array Bool):Prop:=∀i,L.getD i false=true->∀j∈(clos [] ops.toList).getD i [],L.getD j false=true

theorem qP{ops:Array Oper}{L:Array Bool}{i:Nat}(hE:yT 0 ops.toList=true)(hS:Shut ops L)(hi:i∈Region.ready .any ops L):i<ops.size/\L.getD i true=false/\∀j∈(clos [] ops.toList).getD i [],L.getD j false=true:=by
 unfold Region.ready at hi;simp only[List.mem_filter,zx,Zk,zz] at hi;obtain⟨h1,h2,h3⟩:=hi;refine⟨h1,h2,fun j hj=> ?_⟩;have ho:ops[i]? =some ops[i]:=zo h1;rw[ho] at h3;simp only[Option.map_some,Option.getD_some] at h3;rw[<-Array.all_toList,Zr] at h3;obtain⟨c1,c2,c3⟩:=U8 [] ops.toList;have hc:=c3 i ops[i] (by grind);simp only[List.length_nil,ZK] at hc;rw[List.getD_eq_getElem?_getD,hc,Option.getD_some] at hj;obtain⟨e,he,hb,hje⟩:=Ec hj;have hlt:=kq _ 0 hE i ops[i] (by grind) e he hb;have hon:L.getD e.on false=true:=by
  grind
 rcases hje with rfl|hje
 ·grind
 ·refine hS e.on hon j ?_
  grind

theorem qQ{ops:Array Oper}{L:Array Bool}(hE:yT 0 ops.toList=true)(hL:L.size=ops.size)(h:Region.ready .any ops L=[]):∀i,i<ops.size->L.getD i false=true:=by
 intro i
 induction i using Nat.strongRecOn with
 |_ i ih=>
  intro hi;cases hx:L.getD i false with
  |true=>rfl
  |false=>
   exfalso;have:i∈Region.ready .any ops L:=by
    unfold Region.ready;simp only[List.mem_filter,zx,Zk,zz];refine⟨hi,by grind,?_⟩;have ho:ops[i]? =some ops[i]:=zo hi;rw[ho];simp only[Option.map_some,Option.getD_some];rw[<-Array.all_toList,Zr];intro e he;cases hb:Region.binds .any e with
    |false=>rfl
    |true=>
     have hlt:=kq _ 0 hE i ops[i] (by grind) e he hb
     grind
   grind

theorem qR{ops:Array Oper}{L:Array Bool}{i:Nat}(hL:L.size=ops.size)(hS:Shut ops L)(hi:∀j∈(clos [] ops.toList).getD i [],L.getD j false=true)(hlt:i<ops.size):Shut ops (L.setIfInBounds i true):=by
 have up:∀j,L.getD j false=true->(L.setIfInBounds i true).getD j false=true:=by
  intro j hj;rw[Z7] at hj ⊢
  grind
 intro k hk j hj;by_cases e:i=k
 ·grind
 ·refine up j (hS k ?_ j hj);simp_all

theorem kr(m j:Nat):bit m j=m.testBit j:=by
 grind [bit,Nat.shiftRight_eq_div_pow,ZM,Nat.ne_of_beq_eq_false]
theorem kt(a b j:Nat):bit (a ||| b) j=(bit a j || bit b j):=by simp[kr]
theorem U9(k j:Nat):bit (1 <<< k) j=decide (j=k):=by
 grind [kr,Nat.one_shiftLeft]
theorem kw(j:Nat):bit 0 j=false:=by simp[kr]
theorem Ed{acc:List (List Nat)}{accN:List Nat}{o:Oper}(h:∀i j,bit (accN.getD i 0) j=true->j∈acc.getD i []){j:Nat}(hb:bit (Kv accN o) j=true):j∈Qx acc o:=by
 unfold Kv at hb;unfold Qx;generalize o.after.toList=l at hb ⊢
 induction l with
 |nil=>grind [kw]
 |cons e r ih=>
  simp only[List.foldr_cons] at hb ⊢
  grind [ko,U7,kt,U9]
theorem Ee{α:Type}(l:List α)(x d:α)(i:Nat):(l++[x]).getD i d=if i=l.length then x else l.getD i d:=by
 grind
theorem kx:∀(l:List Oper) (acc:List (List Nat)) (accN:List Nat),acc.length=accN.length->(∀i j,bit (accN.getD i 0) j=true->j∈acc.getD i [])->∀i j,bit ((Yv accN l).getD i 0) j=true->j∈(clos acc l).getD i []
 |[],_,_,_,h=>h
 |o::r,acc,accN,hl,h=>by
  simp only[Yv,clos];refine kx r _ _ (by grind) fun i j hb=> ?_
  grind [Ee,Ed]
theorem ua{p:Nat->AOper->Bool}{ci i:Nat}:∀(r:List AOper) (k:Nat),JT p ci i k r=true->∀j a,k+j<i->r[j]? =some a->bit ci (k+j)=true\/p (k+j) a=true
 |[],_,_,j,a,_,h=>by grind
 |x::r,k,h,j,a,hj,ha=>by
  simp only[JT] at h;split at h
  ·grind [ZM]
  ·simp only[Zk,Bool.or_eq_true] at h;cases j with
   |zero=>grind
   |succ j=>
    have:=ua r (k+1) h.2 j a (by omega) (by grind)
    grind
theorem ub{p:Nat->AOper->Nat->AOper->Bool}{l:List AOper}:∀(r:List AOper) (cs:List Nat) (k:Nat),xK p l k cs r=true->∀i b,r[i]? =some b->∀j a,j<k+i->l[j]? =some a->bit (cs.getD i 0) j=true\/p j a (k+i) b=true
 |[],_,_,_,i,b,h=>by grind
 |x::r,[],k,h,_,_,_=>by grind [xK]
 |x::r,c::cs,k,h,i,b,hi=>by
  simp only[xK,Zk] at h;intro j a hj ha;cases i with
  |zero=>
   simp at hi;subst hi;have:=ua l 0 h.1 j a (by omega) ha
   grind
  |succ i=>
   have:=ub r cs (k+1) h.2 i b (by grind) j a (by omega) ha
   grind
theorem ky{p:Nat->AOper->Nat->AOper->Bool}{l:List AOper}{ops:Array Oper}(h:xK p l 0 (Yv [] ops.toList) l=true){i j:Nat}{a b:AOper}(hji:j<i)(ha:l[j]? =some a)(hb:l[i]? =some b):j∈(clos [] ops.toList).getD i []\/p j a i b=true:=by
 have:=ub l _ 0 h i b hb j a (by omega) ha;rw[ZK] at this;rcases this with h|h
 ·exact .inl (kx ops.toList [] [] rfl (fun i j hb=>by grind [kw]) i j h)
 grind
theorem kz:∀(l:List AOper) (seen:Nat),yS seen l=true->∀(i:Nat) (x:AOper) (d:Nat),l[i]? =some x->x.dst=some d->bit seen d=false
 |[],_,_,i,x,d,h,_=>by grind
 |o::r,seen,hn,i,x,d,hx,dx=>by
  simp only[yS] at hn;split at hn
  ·rename_i d0 e;simp only[Zk,zz] at hn;cases i with
   |zero=>grind
   |succ i=>
    have:=kz r _ hn.2 i x d (by grind) dx
    grind [kt]
  ·rename_i e;cases i with
   |zero=>grind
   |succ i=>exact kz r _ hn i x d (by grind) dx
theorem qS:∀(l:List AOper) (seen:Nat),yS seen l=true->∀(i j:Nat) (x y:AOper) (d:Nat),l[i]? =some x->l[j]? =some y->x.dst=some d->y.dst=some d->i=j
 |[],_,_,i,j,x,y,d,h,_,_,_=>by grind
 |o::r,seen,hn,i,j,x,y,d,hx,hy,dx,dy=>by
  simp only[yS] at hn;have tl:yS (match o.dst with|some d=>seen ||| (1 <<< d)|none=>seen) r=true:=by
   grind
  have head:∀(k:Nat) (z:AOper),r[k]? =some z->o.dst=some d->z.dst≠some d:=by
   intro k z hz ho hzd;rw[ho] at tl;have:=kz r _ tl k z d hz hzd
   grind [kt,U9]
  cases i with
  |zero=>grind
  |succ i=>cases j with
   |zero=>
    grind
   |succ j=>rw[qS r _ tl i j x y d (by grind) (by grind) dx dy]

theorem Q3{ops:Array Oper}{l:List AOper}(h:YL ops l=true):yT 0 ops.toList=true/\yS 0 l=true/\xn l=true/\xL l=true/\∀i j a b,j<i->l[j]? =some a->l[i]? =some b->j∈(clos [] ops.toList).getD i []\/a.indep b (XC l j i)=true:=by
 grind [YL,ky]

theorem Eg{l:List AOper}{j i:Nat}(h:XC l j i=false):∀k o,j<k->k<i->l[k]? =some o->o.cls≠3:=by
 grind [XC]

theorem Eh{l:List AOper}(h:xn l=true){a b:AOper}{i j d:Nat}(ha:l[i]? =some a)(hb:l[j]? =some b)(hc:a.cls=0)(hc':b.cls=3)(hd:b.dst=some d):d ∉ a.uses:=by
 grind [xn]

theorem Ei{l:List AOper}(h:xn l=true){g a b:AOper}{k i j d:Nat}(hg:l[k]? =some g)(hgc:g.isCallg=true)(ha:l[i]? =some a)(hl:a.isLd=true)(hb:l[j]? =some b)(hc':b.cls=3)(hd:b.dst=some d):d ∉ a.uses:=by
 unfold xn at h;rw[Zk] at h;have h:=h.1;unfold vU at h
 grind

theorem Ej{l:List AOper}(h:xL l=true){s a b:AOper}{k i j d:Nat}(hs:l[k]? =some s)(ho:s.late=true)(ha:l[i]? =some a)(hb:l[j]? =some b)(hij:i<=j)(hd:b.dst=some d)(hc:a.cls=1):d ∉ a.uses:=by
 unfold xL at h;rw[Bool.or_eq_true] at h;rcases h with h|h
 ·grind
 ·rw[Zr] at h;have h1:=h i (zx.2 (Zf.1 ha).1);rw[ha] at h1;simp only[hc,bne_self_eq_false,Bool.false_or,Zr] at h1;have hm:b∈l.drop i:=Zh (i:=j - i) (by simp_all)
  grind

theorem uc{ops:Array Oper}{l:List AOper}(h:yc ops l=true):∀i j a b,j<i->l[j]? =some a->l[i]? =some b->j∈(clos [] ops.toList).getD i []\/(a.risky=false/\b.risky=false):=by
 intro i j a b hji ha hb;rcases ky h hji ha hb with h|h
 ·grind
 grind
end Go.Am

/- Regions whose order is drawn: any order comes to what the text's order comes to. -/
namespace Go.Am
variable{P:Program} {w:World} {X:Xc P} {μ:Nat->Option Nat} {hp:Heap}

theorem qT{fr:Fr}{s:Nat}:∀{ks:List Nat},s∈ks->(fr.keep ks).look s=fr.look s
 |[],h=>by cases h
 |k::r,h=>by
  simp only[Fr.keep];by_cases e:k=s
  ·subst e;cases hv:fr.look k with
   |some v=>simp[Fr.look]
   |none=>
    simp only[];by_cases hm:k∈r
    ·rw[qT hm,hv]
    ·have:∀(r:List Nat),k ∉ r->(fr.keep r).look k=none:=by
      intro r
      induction r with
      |nil=>intro _;rfl
      |cons x r ih=>
       grind [Fr.keep,Fr.look]
     grind
  ·have hm:s∈r:=by grind
   split
   ·simp only[Fr.look,e,if_false];exact qT hm
   ·exact qT hm
theorem qU{fr:Fr}{s:Nat}{u:AV}:∀{ks:List Nat},(fr.keep ks).look s=some u->s∈ks/\fr.look s=some u
 |[],h=>by grind [Fr.keep,Fr.look]
 |k::r,h=>by
  simp only[Fr.keep] at h;split at h
  ·rename_i v hv;simp only[Fr.look] at h;split at h
   ·grind
   ·obtain⟨h1,h2⟩:=qU h;grind
  ·obtain⟨h1,h2⟩:=qU h;grind

theorem kC{f g:Fr}:∀{azs:List AArg},(∀s∈yj azs,f.look s=g.look s)->f.argsOf azs=g.argsOf azs
 |[],_=>rfl
 |a::r,h=>by
  have hr:f.argsOf r=g.argsOf r:=kC fun s hs=>h s (by cases a <;> simp[yj,hs]);have ha:f.arg a=g.arg a:=by
   cases a with
   |t s=>exact h s (by simp[yj])
   |c v=>rfl
  grind [Fr.argsOf]
theorem ud(o:AOper):o.base.dst=o.dst/\o.base.guard=o.guard:=by
 grind [AOper.base]
theorem Ek{Γ:Oracle}{b:Nat}{o:AOper}{f g:Fr}(h:∀s∈o.uses,f.look s=g.look s):aone Γ b o.base f hp=aone Γ b o.base g hp:=by
 grind [wants,AOper.uses,kC,aone]

theorem qV{p q:Nat->Bool}{i:Nat}:∀{l:List Nat},i∈l->(∀x,q x=true->p x=true)->p i=true->q i=false->l.countP q<l.countP p
 |[],h,_,_,_=>by cases h
 |x::r,h,hpq,hp,hq=>by
  have le:∀r:List Nat,r.countP q<=r.countP p:=by
   intro r
   induction r with
   |nil=>simp
   |cons x r ih=>
    grind
  simp only[List.countP_cons];by_cases e:x=i
  ·grind
  ·have hm:i∈r:=by grind
   have:=qV hm hpq hp hq
   grind

def AOp.exact:AOp->Bool
 | .storen _=>false
 | .storex _=>false
 | .calln _=>false
 | .callg=>false
 | .bslicen _ _=>false
 | .appendn _ _=>false
 | .bslovn _ _=>false
 |_=>true
theorem ue{o:AOper}(h:o.op.exact=false):o.cls=2:=by
 unfold AOp.exact at h
 grind [AOper.cls,AOp.isPure,AOp.isRead]
theorem El{o:AOper}{x:AArg}(h:x∈o.sures):o.op.exact=false:=by
 unfold AOper.sures at h;split at h
 ·rename_i e _;rw[e];rfl
 ·rename_i e;rw[e];rfl
 ·rename_i e;rw[e];rfl
 ·rename_i e;rw[e];rfl
 ·rename_i e;rw[e];rfl
 grind
theorem Em{o:AOper}{sh:Sh}(h:o.op=.load sh):o.cls=1:=by
 grind [AOper.cls,AOp.isPure,AOp.isRead]
theorem uf{o:AOper}(h:o.isCallg=true):o.op=.callg/\o.cls=2:=by
 grind [AOper.isCallg,AOper.cls,AOp.isPure,AOp.isRead]
theorem ug{o:AOper}(h:o.isLd=true):∃sh q,o.op=.load sh/\o.args=[.t q]:=by
 grind [AOper.isLd]
theorem XZ{o:AOper}(h:o.op.exact=true):o.base=o:=by
 unfold AOper.base;split
 ·rename_i e _;rw[e] at h;cases h
 ·rename_i e _;rw[e] at h;cases h
 ·rename_i e;rw[e] at h;cases h
 ·rename_i e;rw[e] at h;cases h
 ·rename_i e;rw[e] at h;cases h
 ·rename_i e;rw[e] at h;cases h
 ·rename_i e;rw[e] at h;cases h
 ·rfl
theorem jh{o:AOper}(h:o.cls≠2):o.base=o:=XZ (by
 grind [ue])
theorem kD{a b:AOper}(h:a.spared b=true):∃sh q,a.op=.load sh/\a.args=[.t q]/\(.t q∈b.sures\/b.isCallg=true):=by
 grind [AOper.spared,ZM]
theorem QH{a b:AOper}{m:Bool}(h:a.indep b m=true):a.cls=0\/b.cls=0\/(a.cls=1/\b.cls=1/\(a.isCallh=true->m=false))\/b.cls=3\/(a.cls=1/\a.isCallh=false/\b.cls=2/\a.spared b=true)\/(a.cls=2/\b.cls=1/\a.isCallg=true/\b.isLd=true):=by
 simp only[AOper.indep,Zk,Bool.or_eq_true,beq_iff_eq] at h
 grind [kD,Em,AOper.isCallh,ue,El,uf,ug]
theorem kE{a b:AOper}{d:Nat}{m:Bool}(h:a.indep b m=true)(hd:a.dst=some d):d ∉ b.uses:=by
 grind [AOper.indep,AOper.apart]
theorem uh{a b:AOper}{d:Nat}{m:Bool}(h:a.indep b m=true)(hd:b.dst=some d):d ∉ a.uses:=by
 grind [AOper.indep,AOper.apart]
theorem ui{o:AOper}(h:o.isCallh=true):o.op=.callh:=by
 grind [AOper.isCallh]

/-! ### What is made only grows the heap -/
def Grow(hp hp':Heap):Prop:=∀(j:Nat) (x:AObj),hp[j]? =some x->hp'[j]? =some x
theorem Grow.refl(hp:Heap):Grow hp hp:=fun _ _ h=>h
theorem Grow.trans{h1 h2 h3:Heap}(a:Grow h1 h2)(b:Grow h2 h3):Grow h1 h3:=fun j x h=>b j x (a j x h)
theorem Grow.push(hp:Heap)(o:AObj):Grow hp (hp++[o]):=fun _ _ h=>QA h
theorem En:∀(l:List (Sh × AV)) (hp:Heap),Grow hp (zR l hp).2:=by
 intro l
 induction l with
 |nil=>intro hp;exact Grow.refl hp
 |cons x r ih=>
  intro hp;unfold zR;split
  ·grind
  ·rename_i h;cases h;split
   ·exact(Grow.push _ _).trans (ih _)
   grind
  grind
theorem uj(a:AV)(hp:Heap):Grow hp (a.own hp).2:=by
 unfold AV.own
 grind [Grow.push,Grow.refl,En]
theorem uk{Γ:Oracle}{b:Nat}{o:AOper}{fr:Fr}(hc:o.cls=3):aone Γ b o fr hp=aOp Γ b o.op [] hp:=by
 simp_all[xu,aone,wants,Fr.argsOf]
theorem ul{Γ:Oracle}{b:Nat}{op:AOp}(h:(∃sh z,op=.alloc sh z)\/(∃sh,op=.nilsl sh)\/∃sh,op=.mkmap sh):aOp Γ b op [] hp=match swrite b op [] hp with|some (v,hp')=>some (.val v hp')|none=>none:=by
 rcases h with⟨sh,z,rfl⟩|⟨sh,rfl⟩|⟨sh,rfl⟩ <;> rfl
theorem um{Γ:Oracle}{b:Nat}{o:AOper}{fr:Fr}{v:AV}{hp':Heap}(hc:o.cls=3)(h:aone Γ b o fr hp=some (.val v hp')):Grow hp hp':=by
 rw[uk hc,ul (xu hc).2.2.2] at h;rcases(xu hc).2.2.2 with⟨sh,z,e⟩|⟨sh,e⟩|⟨sh,e⟩ <;> rw[e] at h <;> simp only[swrite] at h
 ·unfold yQ at h;simp only[] at h;split at h
  ·rename_i hq;split at hq
   ·cases hq;cases h;intro j x hx;have hlt:j<hp.length:=(Zf.1 hx).1;rw[zm (by omega)];exact uj _ _ j x (QA hx)
   grind
  grind
 ·grind [YM,Grow.push]
 grind [Grow.push]

def Calm(u:AV)(hp hp':Heap):Prop:=
 match u with
 | .ptr r _=>∀x,hp[r]? =some x->hp'[r]? =some x
 | .iptr _ _ _=>True
 |_=>Grow hp hp'
theorem Calm.of{u:AV}{hp hp':Heap}(h:Grow hp hp'):Calm u hp hp':=by
 unfold Calm;split
 ·exact fun x hx=>h _ x hx
 ·trivial
 grind
theorem Calm.trans{u:AV}{h1 h2 h3:Heap}(a:Calm u h1 h2)(b:Calm u h2 h3):Calm u h1 h3:=by
 unfold Calm at*;split
 ·grind
 ·trivial
 ·rename_i n1 n2;split at a
  ·grind
  ·grind
  ·split at b
   ·grind
   ·grind
   ·exact a.trans b
theorem un{sh:Sh}{u v:AV}{hp hp':Heap}(h:Calm u hp hp')(hl:aload sh hp u=some v):aload sh hp' u=some v:=by
 unfold aload at hl ⊢;split at hl
 ·rename_i r off;split at hl
  ·rename_i s x hx;have:hp'[r]? =some (.box s x):=h _ hx
   grind
  grind
 ·exact hl
 ·rename_i s r ver i off;split at hl
  ·rename_i s' es fz hx;have:hp'[r]? =some (.arr s' es fz):=h _ _ hx
   grind
  grind
 ·rename_i s r ver i off;split at hl
  ·rename_i s' es hx;have:hp'[r]? =some (.arv s' es):=h _ _ hx
   grind
  ·rename_i s' es hx;have:hp'[r]? =some (.arr s' es true):=h _ _ hx
   grind
  grind
 grind
theorem Eo{op:AOp}{vs:List AV}{v:AV}{hp hp':Heap}(h:Grow hp hp')(hl:sread op vs hp=some v):sread op vs hp'=some v:=by
 unfold sread at hl ⊢;split at hl
 ·unfold XN at hl ⊢;split at hl
  ·exact un (Calm.of h) hl
  grind
 ·unfold YF at hl ⊢;split at hl
  ·rename_i r s0 k;split at hl
   ·rename_i s es hx;simp only[h _ _ hx];exact hl
   grind
  grind
 ·unfold XA at hl ⊢;split at hl
  ·rename_i r s0 k;split at hl
   ·rename_i s es hx;simp only[h _ _ hx];exact hl
   grind
  grind
 ·unfold y8 at hl ⊢;split at hl
  ·rename_i r;split at hl
   ·rename_i s es hx;simp only[h _ _ hx];exact hl
   grind
  ·exact hl
  grind
 grind
theorem uq{fr:Fr}{q:Nat}:∀{azs:List AArg} {vs:List AV},fr.argsOf azs=some vs->.t q∈azs->∃u∈vs,fr.look q=some u
 |[],_,_,h=>by cases h
 |a::r,vs,h,hm=>by
  obtain⟨v,us,rfl,h1,h2⟩:=yd h;rcases Zy.1 hm with rfl|hm
  ·exact⟨v,by simp,h1⟩
  ·obtain⟨u,hu,hl⟩:=uq h2 hm
   grind
theorem Ep{Γ:Oracle}{b:Nat}{o:AOper}{fr:Fr}{v:AV}{hp':Heap}{sh:Sh}{p x:AArg}{qs:List AArg}{q:Nat}{u:AV}(ho:o.op=.storen sh)(ha:o.args=p::x::qs)(hq: .t q∈qs)(hu:fr.look q=some u)(h:aone Γ b o fr hp=some (.val v hp')):Calm u hp hp':=by
 unfold aone at h;split at h
 ·cases h
 ·grind [Calm.of,Grow.refl]
 ·rw[ha] at h;split at h
  ·cases h
  ·rename_i vs hvs;obtain⟨a1,us,rfl,h1,h2⟩:=yd hvs;obtain⟨a2,us2,rfl,h3,h4⟩:=yd h2;obtain⟨u',hu',hl⟩:=uq h4 hq;rw[hu] at hl;cases hl;rw[ho] at h;simp only[aOp,astep,AOp.isPure,AOp.isRead,cond_false,swrite,YV] at h;cases a1 <;> simp only[] at h <;> (try (cases h;done))
   rename_i r0 o0;by_cases hall:us2.all (XB r0)=true
   ·rw[Zj hall] at h;have hoff:=Zr.1 hall u hu';cases u <;> simp only[XB] at hoff <;> (try (cases hoff;done))
    ·rename_i r1 o1;have hne:r1≠r0:=by
      intro e;simp_all
     intro y hy;cases hs:astore sh b hp (.ptr r0 o0) a2 with
     |none=>grind
     |some hq=>
      rw[hs] at h;cases h;simp only[astore] at hs;cases hb:hp[r0]? with
      |none=>grind
      |some ob=>
       rw[hb] at hs;cases ob <;> simp only[] at hs <;> (try (cases hs;done))
       rename_i s old;have g:=uj a2 hp;have key:∀z:AObj,(((a2.own hp).2).set r0 z)[r1]? =some y/\(hp.set r0 z)[r1]? =some y:=fun z=>⟨by rw[zm (by omega)];exact g _ _ hy,by grind⟩
       grind
    ·exact trivial
   grind

theorem qW{fr:Fr}{q:Nat}:∀{n:Nat} {azs:List AArg} {vs:List AV},fr.argsOf azs=some vs->.t q∈azs.take n->∃u∈vs.take n,fr.look q=some u
 |0,azs,vs,_,hm=>by grind
 |n+1,[],vs,_,hm=>by grind
 |n+1,a::r,vs,h,hm=>by
  obtain⟨v,us,rfl,h1,h2⟩:=yd h;simp only[ZE,Zy] at hm ⊢;rcases hm with rfl|hm
  ·exact⟨v,.inl rfl,h1⟩
  ·obtain⟨u,hu,hl⟩:=qW h2 hm
   grind
theorem ji{hp hp':Heap}{u:AV}(hs:Yy hp hp' u=true):Calm u hp hp':=by
 cases u <;> simp only[Yy] at hs <;> (try (cases hs;done))
 ·rename_i r o;intro x hx;rw[hx] at hs;split at hs
  ·rename_i b e1 e2;cases e1;have hb:Heap.beq [x] [b]=true:=by grind [Heap.beq]
   grind [J9]
  grind
 ·exact trivial
theorem Er{Γ:Oracle}{b:Nat}{o:AOper}{fr:Fr}{v:AV}{hp':Heap}{q:Nat}{u:AV}(hq: .t q∈o.sures)(hu:fr.look q=some u)(h:aone Γ b o fr hp=some (.val v hp')):Calm u hp hp':=by
 unfold AOper.sures at hq;split at hq
 ·grind [Ep]
 ·rename_i n ho;unfold aone at h
  grind [Calm.of,Grow.refl,qW,aOp,Q1,ji]
 ·rename_i sh n ho;unfold aone at h
  grind [Calm.of,Grow.refl,qW,aOp,qw,ji]
 ·rename_i sh n ho;unfold aone at h
  grind [Calm.of,Grow.refl,qW,aOp,JP,ji]
 ·rename_i sh n ho;unfold aone at h
  grind [Calm.of,Grow.refl,qW,aOp,JQ,ji]
 grind

theorem ur{Γ:Oracle}{b:Nat}{o:AOper}{fr:Fr}{v:AV}{hp':Heap}(hg:o.isCallg=true)(h:aone Γ b o fr hp=some (.val v hp')):Grow hp hp':=by
 unfold aone at h;split at h
 ·cases h
 ·grind [Grow.refl]
 ·split at h
  ·cases h
  ·rename_i vs hvs;rw[(uf hg).1] at h;simp only[aOp] at h;unfold xJ at h;split at h
   ·split at h
    ·rename_i hs;cases h;have:=J9 hs;intro j x hx
     grind
    grind
   grind
theorem Run.grow{Γ:Oracle}{b:Nat}{l:List AOper}{fr fr':Fr}{hp hp':Heap}{e:AExit}{m:Nat}{frs:Nat->Fr}{hps:Nat->Heap}{vals:Nat->AV}(R:Run Γ b l fr hp e fr' hp' m frs hps vals){i:Nat}:∀(n:Nat),i+n<=m->(∀k x,i<=k->k<i+n->l[k]? =some x->x.cls=2->x.isCallg=true)->Grow (hps i) (hps (i+n))
 |0,_,_=>Grow.refl _
 |n+1,hm,hx=>by
  refine(R.grow n (by omega) fun k x h1 h2=>hx k x h1 (by omega)).trans ?_;have hlt:i+n<l.length:=Zp (by omega) R.le;have ho:l[i+n]? =some l[i+n]:=Ze hlt;obtain⟨t1,_⟩:=R.step (i+n) _ (by omega) ho;show Grow (hps (i+n)) (hps (i+n+1));rcases qN l[i+n] with c|c|c|c
  ·grind [XY,Grow.refl]
  ·grind [XY,Grow.refl]
  ·exact ur (hx _ _ (by omega) (by omega) ho c) t1
  grind [um]
theorem Es{sh:Sh}{h0 h1:Heap}{u v:AV}{x:Value}(hg:Grow h0 h1)(hu:AR w X μ h0 u x)(h:aload sh h1 u=some v):aload sh h0 u=some v:=by
 unfold aload at h ⊢;cases hu with
 |ptr r off b s y ho hb=>
  simp only[hg _ _ ho] at h
  grind
 |eptr s r ver i off a es fz ho hv hh=>
  simp only[hg _ _ ho] at h
  grind
 |iptr=>exact h
 |epv s r ver i off a n ho hv hh=>
  rcases XT ho with⟨es,e,_⟩|⟨es,e,_⟩
  ·simp only[hg _ _ e] at h
   grind
  ·simp only[hg _ _ e] at h
   grind
 |_=>cases h
theorem Et{Γ:Oracle}{b:Nat}{o:AOper}{f:Fr}{h0 h1:Heap}{v:AV}(hld:o.isLd=true)(hg:Grow h0 h1)(hs:∀q u,q∈o.uses->f.look q=some u->∃x,AR w X μ h0 u x)(h:aone Γ b o f h1=some (.val v h1)):aone Γ b o f h0=some (.val v h0):=by
 obtain⟨sh,q,e1,e2⟩:=ug hld;have hu:q∈o.uses:=by
  unfold AOper.uses;rw[XZ (by rw[e1];rfl),e2]
  grind [yj]
 unfold aone at h ⊢;split at h
 ·cases h
 ·grind
 rw[e2] at h ⊢;cases ha:f.argsOf [.t q] with
 |none=>grind
 |some vs=>
  rw[ha] at h;simp only[] at h ⊢;obtain⟨u,rfl,k1⟩:=JY ha;obtain⟨x,hx⟩:=hs q u hu k1;rw[e1,km rfl rfl] at h ⊢
  grind [sread,XN,Es]
theorem Run.stay{Γ:Oracle}{b:Nat}{l:List AOper}{fr fr':Fr}{hp hp':Heap}{e:AExit}{m:Nat}{frs:Nat->Fr}{hps:Nat->Heap}{vals:Nat->AV}(R:Run Γ b l fr hp e fr' hp' m frs hps vals){i q:Nat}:∀(n:Nat),i+n<=m->(∀k o,i<=k->k<i+n->l[k]? =some o->o.dst≠some q)->(frs (i+n)).look q=(frs i).look q
 |0,_,_=>rfl
 |n+1,hm,hc=>by
  rw[<-R.stay n (by omega) (fun k o h1 h2 h3=>hc k o h1 (by omega) h3)];have hlt:i+n<l.length:=Zp (by omega) R.le;have ho:l[i+n]? =some l[i+n]:=Ze hlt;obtain⟨_,h2⟩:=R.step (i+n) _ (by omega) ho;have hd:=hc (i+n) _ (by omega) (by omega) ho;rw[show i+(n+1)=i+n+1 by omega,h2];cases hdd:l[i+n].dst with
  |none=>rfl
  |some d=>
   grind [Fr.dst,Fr.look]

theorem Eu{Γ:Oracle}{b:Nat}{l:List AOper}{fr fr':Fr}{hp hp':Heap}{e:AExit}{m:Nat}{frs:Nat->Fr}{hps:Nat->Heap}{vals:Nat->AV}(R:Run Γ b l fr hp e fr' hp' m frs hps vals)(hla:xL l=true){i h:Nat}{ao:AOper}(hi:l[i]? =some ao)(hc:ao.cls=1)(hcl:ao.isCallh=false)(hih:i<h)(hm:h<=m)
  (hsp:∀k x,i<k->k<h->l[k]? =some x->x.cls=2->ao.spared x=true):aone Γ b ao (frs i) (hps h)=some (.val (vals i) (hps h)):=by
 obtain⟨s1,_⟩:=R.step i ao (by omega) hi;have hsame:=(XY s1).2 hc;have hread:ao.op.isPure=false/\ao.op.isRead=true:=by
  grind [U5,AOper.isCallh]

 have stp:∀k,k<m->(∀x,l[k]? =some x->x.cls≠2)->Grow (hps k) (hps (k+1)):=by
  intro k hk hx;have hlt:k<l.length:=Zp hk R.le;have ho:l[k]? =some l[k]:=Ze hlt;obtain⟨t1,_⟩:=R.step k _ hk ho
  grind [qN,XY,Grow.refl,um]
 have res:(∀vs,(frs i).argsOf ao.args=some vs->∀v,sread ao.op vs (hps i)=some v->sread ao.op vs (hps h)=some v)->aone Γ b ao (frs i) (hps h)=some (.val (vals i) (hps h)):=by
  intro hr;unfold aone at s1 ⊢;split at s1
  ·cases s1
  ·grind
  ·split at s1
   ·cases s1
   grind [km]
 by_cases hex:∃k x,i<k/\k<h/\l[k]? =some x/\x.cls=2
 ·obtain⟨k0,x0,k1,k2,k3,k4⟩:=hex;obtain⟨sh,q,e1,e2,e4⟩:=kD (hsp k0 x0 k1 k2 k3 k4);refine res fun vs hvs v hv=> ?_;rw[e2] at hvs;obtain⟨u,us,rfl,hu,h2⟩:=yd hvs;cases h2;have hq:∀k,i<=k->k<=m->(frs k).look q=some u:=by
   intro k hik hkm;have:=R.stay (i:=i) (q:=q) (k - i) (by omega) (fun j o j1 j2 j3 jd=>Ej hla k3 (by
    grind [AOper.late]) hi j3 j1 jd hc (by unfold AOper.uses;grind [jh,yj]))
   rw[show i+(k - i)=k by omega] at this;rw[this];exact hu
  have calm:∀n,i+1+n<=h->Calm u (hps i) (hps (i+1+n)):=by
   intro n
   induction n with
   |zero=>
    grind [Calm.of]
   |succ n ih=>
    intro hn;refine(ih (by omega)).trans ?_;have hlt:i+1+n<l.length:=Zp (by omega) R.le;have ho:l[i+1+n]? =some l[i+1+n]:=Ze hlt;by_cases hc2:l[i+1+n].cls=2
    ·obtain⟨sh,q',f1,f2,f4⟩:=kD (hsp _ _ (by omega) (by omega) ho hc2);rw[e2] at f2;cases f2;rcases f4 with f4|f4
     ·exact Er f4 (hq _ (by omega) (by omega)) (R.step _ _ (by omega) ho).1
     ·exact Calm.of (ur f4 (R.step _ _ (by omega) ho).1)
    grind [Calm.of]
  have hcalm:=calm (h - (i+1)) (by omega);rw[show i+1+(h - (i+1))=h by omega] at hcalm;rw[e1] at hv ⊢;exact un hcalm hv
 ·have grow:∀n,i+1+n<=h->Grow (hps i) (hps (i+1+n)):=by
   intro n
   induction n with
   |zero=>
    grind
   |succ n ih=>
    intro hn;exact(ih (by omega)).trans (stp _ (by omega) fun x hx hc2=>hex ⟨i+1+n,x,by omega,by omega,hx,hc2⟩)
  have hg:=grow (h - (i+1)) (by omega);rw[show i+1+(h - (i+1))=h by omega] at hg
  grind [Eo]
end Go.Am

/- Regions whose order is drawn: what is made before its turn. -/
namespace Go.Am
variable{P:Program} {w:World} {X:Xc P} {μ:Nat->Option Nat} {hp:Heap}

def PendOk(P:Program)(w:World)(op:AOp)(pb:Option Nat)(v:Value):Prop:=
 match op with
 | .alloc sh z=>∃bk x t,pb=some bk/\v=.pointer (some ⟨bk,0,none⟩)/\w.heap[bk]? =some (.cells x.cells t (0,0))/\∀(w:World) (X:Xc P) (μ:Nat->Option Nat) (hp:Heap),AR w X μ hp z x
 | .nilsl _=>pb=none/\v=.slice none 0 0
 | .mkmap _=>∃bk clock,pb=some bk/\v=.map (some bk)/\w.heap[bk]? =some (.map #[] clock)
 |_=>False
theorem PendOk.mono{w':World}{op:AOp}{pb:Option Nat}{v:Value}(h:PendOk P w op pb v)(hw:∀bk,pb=some bk->w'.heap[bk]? =w.heap[bk]?):PendOk P w' op pb v:=by
 unfold PendOk at h ⊢
 grind

theorem ut{pb:Nat->Option Nat}{k:Nat}(h:pb k=none):upd pb k none=pb:=by
 grind [zW,zY]

theorem Ev{o:Oper}{azs:List AArg}{sh:Sh}{z:AV}(h:trOp P o=some (.alloc sh z,azs)):∃t,o.op=.alloc t/\Yw P t=some z/\sh=shOf P t:=by
 cases hop:o.op <;> simp only[trOp,hop] at h <;> (try (cases h;done))
 case alloc t=>
  grind
 case call c=>
  grind
 all_goals ((repeat' split at h) <;> first|(cases h;done)|grind)
theorem Ex{o:Oper}{azs:List AArg}{sh:Sh}(h:trOp P o=some (.nilsl sh,azs)):o.op=.assign (.const (.slice none 0 0)):=by
 cases hop:o.op <;> simp only[trOp,hop] at h <;> (try (cases h;done))
 case assign x=>
  grind
 case call c=>
  grind
 all_goals ((repeat' split at h) <;> first|(cases h;done)|grind)
theorem Ey{o:Oper}{azs:List AArg}{sh:Sh}(h:trOp P o=some (.mkmap sh,azs)):∃t,o.op=.makeMap t none:=by
 cases hop:o.op <;> simp only[trOp,hop] at h <;> (try (cases h;done))
 case makeMap t r=>
  grind
 case call c=>
  grind
 all_goals ((repeat' split at h) <;> first|(cases h;done)|grind)
theorem Ez{o:Oper}{azs:List AArg}{sh:Sh}:¬trOp P o=some (.storen sh,azs):=by
 intro h;cases hop:o.op <;> simp only[trOp,hop] at h <;> (try (cases h;done))
 case call c=>
  grind
 all_goals ((repeat' split at h) <;> first|(cases h;done)|(exfalso;simp_all;done))

theorem EA{o:Oper}{azs:List AArg}{sh:Sh}:¬trOp P o=some (.storex sh,azs):=by
 intro h;cases hop:o.op <;> simp only[trOp,hop] at h <;> (try (cases h;done))
 case call c=>
  grind
 all_goals ((repeat' split at h) <;> first|(cases h;done)|(exfalso;simp_all;done))

theorem EB{o:Oper}{azs:List AArg}{n:Nat}:¬trOp P o=some (.calln n,azs):=by
 intro h;cases hop:o.op <;> simp only[trOp,hop] at h <;> (try (cases h;done))
 case call c=>
  grind
 all_goals ((repeat' split at h) <;> first|(cases h;done)|(exfalso;simp_all;done))

theorem EC{o:Oper}{azs:List AArg}{sh:Sh}{n:Nat}:¬trOp P o=some (.bslicen sh n,azs):=by
 intro h;cases hop:o.op <;> simp only[trOp,hop] at h <;> (try (cases h;done))
 case call c=>
  grind
 all_goals ((repeat' split at h) <;> first|(cases h;done)|(exfalso;simp_all;done))

theorem ED{o:Oper}{azs:List AArg}{sh:Sh}{n:Nat}:¬trOp P o=some (.appendn sh n,azs):=by
 intro h;cases hop:o.op <;> simp only[trOp,hop] at h <;> (try (cases h;done))
 case call c=>
  grind
 all_goals ((repeat' split at h) <;> first|(cases h;done)|(exfalso;simp_all;done))

theorem EE{o:Oper}{azs:List AArg}{sh:Sh}{n:Nat}:¬trOp P o=some (.bslovn sh n,azs):=by
 intro h;cases hop:o.op <;> simp only[trOp,hop] at h <;> (try (cases h;done))
 case call c=>
  grind
 all_goals ((repeat' split at h) <;> first|(cases h;done)|(exfalso;simp_all;done))

theorem EF{t:TypeId}{z:AV}(h:Yw P t=some z):∃v,(∀w,(zeroValue t).run P w=.ok v w)/\∀(w:World) (X:Xc P) (μ:Nat->Option Nat) (hp:Heap),AR w X μ hp z v:=by
 unfold Yw at h;split at h
 ·rename_i i hi;split at h
  ·rename_i v hv;exact⟨v,fun w=>by simp_all[zeroValue,typeInfo],fun w X μ hp=>(JV P w X μ hp 8 t v z h).1⟩
  grind
 grind

theorem EG{o:Oper}{ao:AOper}{a:Act}(ht:trOp P o=some (ao.op,ao.args))(hc:ao.cls=3)(w:World):∃v w' pb,(execOp a.eval o).run P w=.ok (.value v) w'/\PendOk P w' ao.op pb v/\((pb=none/\w'=w)\/∃ob,w'=w.alloc ob/\pb=some w.heap.size):=by
 rcases(xu hc).2.2.2 with⟨sh,z,e⟩|⟨sh,e⟩|⟨sh,e⟩ <;> rw[e] at ht ⊢
 ·obtain⟨t,h1,h2,h3⟩:=Ev ht;obtain⟨x,h4,h5⟩:=EF h2;refine⟨.pointer (some ⟨w.heap.size,0,none⟩),w.alloc (.cells x.cells t),some w.heap.size,?_,⟨_,x,t,rfl,rfl,YH w _,h5⟩,.inr ⟨_,rfl,rfl⟩⟩;simp_all[execOp,Instr.alloc,KI]
 ·have h1:=Ex ht;refine⟨.slice none 0 0,w,none,?_,⟨rfl,rfl⟩,.inl ⟨rfl,rfl⟩⟩;simp only[execOp,h1,Sem.run_pure];rfl
 ·obtain⟨t,h1⟩:=Ey ht;refine⟨.map (some w.heap.size),w.alloc (.map #[] 0),some w.heap.size,?_,⟨_,0,rfl,rfl,YH w _⟩,.inr ⟨_,rfl,rfl⟩⟩;simp[execOp,h1,Instr.makeMap]

theorem EH{Γ:Oracle}{b:Nat}{ao:AOper}{fr:Fr}{pb:Nat->Option Nat}{k:Nat}{u:AV}{v:Value}{hp':Heap}{hp0:Heap}{μ0:Nat->Option Nat}{w0:World}(hc:ao.cls=3)(ha:aone Γ b ao fr hp=some (.val u hp'))(hH:HR w (Xp X pb) μ hp)(hb:b<=hp.length)(hP:PendOk P w ao.op (pb k) v)
  (hi:∀k' bk,pb k=some bk->pb k'=some bk->k=k')(hX:∀bk,pb k=some bk->¬X bk/\w0.heap.size<=bk)(E:Ext b X μ0 hp0 w0 μ hp w):
  ∃μ',AR w (Xp X (upd pb k none)) μ' hp' u v/\HR w (Xp X (upd pb k none)) μ' hp'/\Tran w (Xp X pb) μ hp w (Xp X (upd pb k none)) μ' hp'/\Ext b X μ0 hp0 w0 μ' hp' w/\b<=hp'.length:=by
 rw[uk hc,ul (xu hc).2.2.2] at ha;rcases(xu hc).2.2.2 with⟨sh,z,e⟩|⟨sh,e⟩|⟨sh,e⟩ <;> rw[e] at ha hP <;> simp only[swrite] at ha
 ·obtain⟨bk,x,t,h1,rfl,h3,h4⟩:=hP;unfold yQ at ha;simp only[] at ha;split at ha
  ·rename_i hq;split at hq
   ·rename_i hh;cases hq;cases ha;have hs:vshp x=sh:=by rw[(h4 w X μ hp).vshp hh.1,hh.2]
    have hf:Flat x:=(h4 w X μ hp).flat hh.1;have hx:=hX bk h1;have hH1:HR w (Xp X (upd pb k none)) (upd μ hp.length (some bk)) (hp++[.box sh z]):=by
     refine HR.takeIn hH h1 hi hx.1 _ ?_ (fun _ _ _ h=>by cases h) (fun _ _ h=>by cases h) (fun _ _ _ _ h=>by cases h) (fun _ _ h=>by cases h)
     grind
    obtain⟨μ',k1,k2,k3⟩:=dY hH1 (zW _ _ _) h3 hs hf (h4 _ _ _ _);have T1:=kl (w:=w) (μ:=μ) (hp:=hp) h1 hi hx.1 (.box sh z);refine⟨μ',k1,k2,T1.trans (k3 b hb).tran (Zc _),(E.takeIn hx.2 _).trans (k3 b hb).cast,?_⟩;have:=(k3 b hb).len
    grind
   grind
  grind
 ·obtain⟨h1,rfl⟩:=hP;unfold YM at ha;split at ha
  ·rename_i hq;split at hq
   ·rename_i hs;cases hq;cases ha;obtain⟨k1,k2,k3⟩:=KG b hH hs;rw[ut h1];exact⟨_,k3,k1,k2.tran,E.trans k2.cast,by grind⟩
   grind
  grind
 ·obtain⟨bk,clock,h1,rfl,h3⟩:=hP;cases ha;have hx:=hX bk h1;have hH1:HR w (Xp X (upd pb k none)) (upd μ hp.length (some bk)) (hp++[.map sh []]):=by
   refine HR.takeIn hH h1 hi hx.1 _ (fun _ _ h=>by cases h) (fun _ _ _ h=>by cases h) ?_ (fun _ _ _ _ h=>by cases h) (fun _ _ h=>by cases h)
   grind
  exact⟨_,.map _ _ sh [] Xa (zW _ _ _),hH1,kl h1 hi hx.1 _,E.takeIn hx.2 _,by grind⟩

def LS(l:List AOper)(vals:Nat->AV)(fr:Fr)(L:Array Bool)(h s:Nat)(a:AV):Prop:=
 (∃j o,L.getD j false=true/\l[j]? =some o/\o.dst=some s/\a=vals j/\(o.cls=3->j<h))\/((∀j o,l[j]? =some o->o.dst=some s->L.getD j false=false)/\fr.look s=some a)

structure DSt(b:Nat)(w0:World)(X:Xc P)(μ0:Nat->Option Nat)(hp:Heap)(l:List AOper)(fr:Fr)(m:Nat)(hps:Nat->Heap)(vals:Nat->AV)(L:Array Bool)(μ pb:Nat->Option Nat)(h:Nat)(t:Array Value)(w:World):Prop where
 hm:h<=m
 c2:∀k o,l[k]? =some o->o.cls=2->(L.getD k false=true↔k<h)
 c3:∀k o,l[k]? =some o->o.cls=3->k<h->L.getD k false=true
 hr:HR w (Xp X pb) μ (hps h)
 le:b<=(hps h).length
 ext:Ext b X μ0 hp w0 μ (hps h) w
 slot:∀s v,LS l vals fr L h s v->s<t.size/\AR w (Xp X pb) μ (hps h) v (t.getD s undef)
 pend:∀k o,l[k]? =some o->o.cls=3->h<=k->L.getD k false=true->∃d,o.dst=some d/\d<t.size/\PendOk P w o.op (pb k) (t.getD d undef)
 own:∀k bk,pb k=some bk->L.getD k false=true/\h<=k/\(∃o,l[k]? =some o/\o.cls=3)/\w0.heap.size<=bk/\¬X bk
 inj:∀k k' bk,pb k=some bk->pb k'=some bk->k=k'

section
variable{Γ:Oracle} {nt b:Nat} {w0:World} {μ0:Nat->Option Nat} {l:List AOper} {fr fr':Fr} {hp':Heap} {e:AExit} {m:Nat} {frs:Nat->Fr} {hps:Nat->Heap} {vals:Nat->AV} {L:Array Bool} {pb:Nat->Option Nat} {h:Nat} {t:Array Value}

theorem DSt.step(R:Run Γ b l fr hp e fr' hp' m frs hps vals)(D:DSt b w0 X μ0 hp l fr m hps vals L μ pb h t w)(hm:h<m)(hc:∀o,l[h]? =some o->o.cls≠2/\(o.cls=3->L.getD h false=true)):∃μ' pb',DSt b w0 X μ0 hp l fr m hps vals L μ' pb' (h+1) t w:=by
 have hlt:h<l.length:=Zp hm R.le;have ho:l[h]? =some l[h]:=Ze hlt;obtain⟨n2,n3⟩:=hc _ ho;obtain⟨s1,_⟩:=R.step h _ hm ho;have c2':∀k o,l[k]? =some o->o.cls=2->(L.getD k false=true↔k<h+1):=fun k o hk hk2=>by
  have hne:k≠h:=by grind
  rw[D.c2 k o hk hk2];omega
 by_cases h3:l[h].cls=3
 ·obtain⟨d,p1,p2,p3⟩:=D.pend h _ ho h3 (Zc _) (n3 h3);obtain⟨μ',k1,k2,k3,k4,k5⟩:=EH (w0:=w0) h3 s1 D.hr D.le p3 (fun k' bk=>D.inj h k' bk) (fun bk e=>⟨(D.own h bk e).2.2.2.2,(D.own h bk e).2.2.2.1⟩) D.ext;refine⟨μ',upd pb h none,by omega,c2',?_,k2,k5,k4,?_,?_,?_,?_⟩
  ·intro k o hk hk3 hkh;by_cases e:k=h
   ·grind
   ·exact D.c3 k o hk hk3 (by omega)
  ·intro s v hs;rcases hs with⟨j,oj,j1,j2,j3,j4,j5⟩|hs
   ·by_cases e:j=h
    ·grind
    ·obtain⟨q1,q2⟩:=D.slot s v (.inl ⟨j,oj,j1,j2,j3,j4,fun c=>by grind⟩);exact⟨q1,k3.ar q2⟩
   ·obtain⟨q1,q2⟩:=D.slot s v (.inr hs);exact⟨q1,k3.ar q2⟩
  ·intro k o hk hk3 hkh hL;rw[zY (by omega)];exact D.pend k o hk hk3 (by omega) hL
  ·intro k bk hk;by_cases e:k=h
   ·grind [zW]
   ·rw[zY e] at hk;obtain⟨q1,q2,q3⟩:=D.own k bk hk
    grind
  ·intro k k' bk h1 h2;by_cases e:k=h
   ·grind [zW]
   ·by_cases e':k'=h
    ·grind [zW]
    ·rw[zY e] at h1;rw[zY e'] at h2;exact D.inj k k' bk h1 h2
 ·have hh:hps (h+1)=hps h:=by
   grind [qN,XY]
  refine⟨μ,pb,by omega,c2',?_,by rw[hh];exact D.hr,by rw[hh];exact D.le,by rw[hh];exact D.ext,?_,?_,?_,D.inj⟩
  ·intro k o hk hk3 hkh;have hne:k≠h:=by grind
   exact D.c3 k o hk hk3 (by omega)
  ·intro s v hs;rw[hh];rcases hs with⟨j,oj,j1,j2,j3,j4,j5⟩|hs
   ·refine D.slot s v (.inl ⟨j,oj,j1,j2,j3,j4,fun c=> ?_⟩)
    grind
   ·exact D.slot s v (.inr hs)
  ·intro k o hk hk3 hkh hL;exact D.pend k o hk hk3 (by omega) hL
  ·intro k bk hk;obtain⟨q1,q2,⟨o,q3,q4⟩,q5⟩:=D.own k bk hk
   grind

theorem DSt.advance(R:Run Γ b l fr hp e fr' hp' m frs hps vals):∀(n:Nat) {h:Nat} {μ pb:Nat->Option Nat},DSt b w0 X μ0 hp l fr m hps vals L μ pb h t w->h+n<=m->(∀k o,h<=k->k<h+n->l[k]? =some o->o.cls≠2/\(o.cls=3->L.getD k false=true))->
  ∃μ' pb',DSt b w0 X μ0 hp l fr m hps vals L μ' pb' (h+n) t w
 |0,_,_,_,D,_,_=>⟨_,_,D⟩
 |n+1,h,_,_,D,hm,hc=>by
  obtain⟨μ1,pb1,D1⟩:=D.step R (by omega) (fun o ho=>hc h o (Zc _) (by omega) ho);obtain⟨μ2,pb2,D2⟩:=DSt.advance R n D1 (by omega) (fun k o h1 h2 h3=>hc k o (by omega) (by omega) h3)
  grind

theorem Yx{L:Array Bool}{i j:Nat}(hi:i<L.size):(L.setIfInBounds i true).getD j false=if j=i then true else L.getD j false:=by
 rw[Z7,Z7]
 grind
theorem jj{a:Act}{dst:Option Nat}{v:Value}{s:Nat}(h:dst≠some s):(a.put dst v).tmps.getD s undef=a.tmps.getD s undef:=by
 cases hd:dst with
 |none=>rfl
 |some d=>
  simp_all[Act.put]
theorem uu{a:Act}{s:Nat}{v:Value}(h:s<a.tmps.size):(a.put (some s) v).tmps.getD s undef=v:=by
 simp[Act.put,Array.getD,h]

theorem DSt.next(hD:yS 0 l=true){a:Act}(D:DSt b w0 X μ0 hp l fr m hps vals L μ pb h a.tmps w){i:Nat}{ao:AOper}(hi:i<L.size)(hLi:L.getD i false=false)(hao:l[i]? =some ao)(hnt:∀d,ao.dst=some d->d<a.tmps.size)(hc3:ao.cls≠3)
  {h':Nat}{μ':Nat->Option Nat}{w':World}{v':Value}(hh:(h'=h/\ao.cls≠2)\/(h'=h+1/\i=h/\ao.cls=2))(hh':h'<=m)(hv:AR w' (Xp X pb) μ' (hps h') (vals i) v')(hH:HR w' (Xp X pb) μ' (hps h'))(E:Ext b (Xp X pb) μ (hps h) w μ' (hps h') w'):
  DSt b w0 X μ0 hp l fr m hps vals (L.setIfInBounds i true) μ' pb h' (a.put ao.dst v').tmps w' where
 hm:=hh'
 c2:=fun k o hk hk2=>by
  rw[Yx hi];by_cases e:k=i
  ·grind
  ·rw[Zb e,D.c2 k o hk hk2]
   grind
 c3:=fun k o hk hk3 hkh=>by
  rw[Yx hi];by_cases e:k=i
  ·grind
  ·rw[Zb e];exact D.c3 k o hk hk3 (by grind)
 hr:=hH
 le:=Zz D.le E.len
 ext:=D.ext.trans E.cast
 slot:=fun s u hs=>by
  have old:ao.dst≠some s->LS l vals fr L h s u->s<(a.put ao.dst v').tmps.size/\AR w' (Xp X pb) μ' (hps h') u ((a.put ao.dst v').tmps.getD s undef):=by
   intro hne hls;obtain⟨h1,h2⟩:=D.slot s u hls;exact⟨by grind [yl],by rw[jj hne];exact E.ar h2⟩
  rcases hs with⟨j,oj,hj,hoj,hdj,rfl,j5⟩|⟨hall,hlook⟩
  ·rw[Yx hi] at hj;split at hj
   ·grind [yl,uu]
   ·rename_i hne;refine old (fun hd=> ?_) (.inl ⟨j,oj,hj,hoj,hdj,rfl,fun c=> ?_⟩)
    ·grind [qS]
    grind
  ·refine old (fun hd=> ?_) (.inr ⟨fun j oj hoj hdj=> ?_,hlook⟩)
   ·grind [Yx]
   grind [Yx]
 pend:=fun k o hk hk3 hkh hL=>by
  have hne:k≠i:=by grind
  rw[Yx hi,Zb hne] at hL;have hhk:h<=k:=by grind
  obtain⟨d,p1,p2,p3⟩:=D.pend k o hk hk3 hhk hL;refine⟨d,p1,by grind [yl],?_⟩;rw[jj fun hd=>hne (qS l 0 hD k i o ao d hk hao p1 hd)];exact p3.mono fun bk e=>E.blk bk (D.hr.xlt bk (.inr ⟨k,e⟩)) fun j hj e'=>(D.hr.out j bk (yV hj) e').1 (.inr ⟨k,e⟩)
 own:=fun k bk hk=>by
  obtain⟨q1,q2,⟨o,q3,q4⟩,q5⟩:=D.own k bk hk
  grind [Yx]
 inj:=D.inj

theorem DSt.make(hD:yS 0 l=true){a:Act}(D:DSt b w0 X μ0 hp l fr m hps vals L μ pb h a.tmps w){i:Nat}{ao:AOper}(hi:i<L.size)(hLi:L.getD i false=false)(hao:l[i]? =some ao)(hnt:∀d,ao.dst=some d->d<a.tmps.size)(hc3:ao.cls=3)
  {w':World}{v':Value}{pv:Option Nat}(hP:PendOk P w' ao.op pv v')(hw:(pv=none/\w'=w)\/∃ob,w'=w.alloc ob/\pv=some w.heap.size):
  DSt b w0 X μ0 hp l fr m hps vals (L.setIfInBounds i true) μ (upd pb i pv) h (a.put ao.dst v').tmps w':=by
 have hhi:h<=i:=by
  rcases Zn i h with hlt|hge
  ·have:=D.c3 i ao hao hc3 hlt
   grind
  grind
 have hpi:pb i=none:=by
  cases hx:pb i with
  |none=>rfl
  |some bk=>
   have:=(D.own i bk hx).1
   grind
 obtain⟨d0,hd0⟩:=(xu hc3).2.2.1;have T:HR w' (Xp X (upd pb i pv)) μ (hps h)/\Tran w (Xp X pb) μ (hps h) w' (Xp X (upd pb i pv)) μ (hps h)/\Ext b X μ0 hp w0 μ (hps h) w'/\(∀bk,bk<w.heap.size->w'.heap[bk]? =w.heap[bk]?):=by
  rcases hw with⟨rfl,rfl⟩|⟨ob,rfl,rfl⟩
  ·rw[ut hpi];exact⟨D.hr,(Ext.refl 0 X _ _ _).tran,D.ext,fun _ _=>rfl⟩
  ·exact⟨D.hr.hold ob hpi,ki ob hpi,D.ext.trans (Ext.alloc b ob),fun bk hbk=>YQ w ob hbk⟩
 obtain⟨T1,T2,T3,T4⟩:=T;refine⟨D.hm,?_,?_,T1,D.le,T3,?_,?_,?_,?_⟩
 ·intro k o hk hk2;have hne:k≠i:=by grind
  rw[Yx hi,Zb hne];exact D.c2 k o hk hk2
 ·intro k o hk hk3 hkh;rw[Yx hi,Zb (by omega)];exact D.c3 k o hk hk3 hkh
 ·intro s u hs;have old:ao.dst≠some s->LS l vals fr L h s u->s<(a.put ao.dst v').tmps.size/\AR w' (Xp X (upd pb i pv)) μ (hps h) u ((a.put ao.dst v').tmps.getD s undef):=by
   intro hne hls;obtain⟨h1,h2⟩:=D.slot s u hls;exact⟨by grind [yl],by rw[jj hne];exact T2.ar h2⟩
  rcases hs with⟨j,oj,hj,hoj,hdj,rfl,j5⟩|⟨hall,hlook⟩
  ·rw[Yx hi] at hj;split at hj
   ·grind
   ·rename_i hne;exact old (fun hd=>hne (qS l 0 hD j i oj ao s hoj hao hdj hd)) (.inl ⟨j,oj,hj,hoj,hdj,rfl,j5⟩)
  ·refine old (fun hd=> ?_) (.inr ⟨fun j oj hoj hdj=> ?_,hlook⟩)
   ·grind [Yx]
   grind [Yx]
 ·intro k o hk hk3 hkh hL;by_cases e:k=i
  ·grind [yl,uu,zW]
  ·rw[Yx hi,Zb e] at hL;obtain⟨d,p1,p2,p3⟩:=D.pend k o hk hk3 hkh hL;refine⟨d,p1,by grind [yl],?_⟩;rw[jj fun hd=>e (qS l 0 hD k i o ao d hk hao p1 hd),zY e];exact p3.mono fun bk e=>T4 bk (D.hr.xlt bk (.inr ⟨k,e⟩))
 ·intro k bk hk;by_cases e:k=i
  ·subst e;rw[zW] at hk;rcases hw with⟨rfl,rfl⟩|⟨ob,rfl,rfl⟩
   ·cases hk
   ·cases hk;refine⟨by simp_all,hhi,⟨ao,hao,hc3⟩,D.ext.size,fun hx=> ?_⟩;have:=D.hr.xlt _ (.inl hx);omega
  ·rw[zY e] at hk;obtain⟨q1,q2,q3,q4⟩:=D.own k bk hk
   grind [Yx]
 ·have lt:∀k bk,pb k=some bk->bk<w.heap.size:=fun k bk hk=>D.hr.xlt bk (.inr ⟨k,hk⟩);have pvw:∀bk,pv=some bk->bk=w.heap.size:=by
   grind
  intro k k' bk h1 h2;by_cases e:k=i
  ·grind [zW,zY]
  ·rw[zY e] at h1;by_cases e':k'=i
   ·grind [zW]
   ·rw[zY e'] at h2;exact D.inj k k' bk h1 h2
end
end Go.Am

/- Regions whose order is drawn: any order comes to what the text's order comes to. -/
namespace Go.Am
variable{P:Program} {w:World} {X:Xc P} {μ:Nat->Option Nat} {hp:Heap}

def Tie(P:Program)(nt:Nat)(ops:Array Oper)(l:List AOper):Prop:=
 l.length=ops.size/\∀(i:Nat) (o:Oper),ops[i]? =some o->∃ao0 ao:AOper,xm P nt ops o=some ao0/\l[i]? =some ao/\ao.dst=ao0.dst/\ao.guard=ao0.guard/\ao.base.args=ao0.args/\ao.base.op.alike ao0.op

structure DInv(nt b:Nat)(w0:World)(X:Xc P)(μ0:Nat->Option Nat)(hp:Heap)(ds:List Deferred)(ops:Array Oper)(l:List AOper)(fr:Fr)(m:Nat)(hps:Nat->Heap)(vals:Nat->AV)(L:Array Bool)(a:Act)(w:World):Prop where
 size:L.size=ops.size
 shut:Shut ops L
 lt:∀i,L.getD i false=true->i<m
 ds:a.defers=ds
 tsz:a.tmps.size=nt
 st:∃μ pb h,DSt b w0 X μ0 hp l fr m hps vals L μ pb h a.tmps w/\∀i ao,l[i]? =some ao->ao.isCallh=true->L.getD i false=false->∀k x,i<k->k<h->l[k]? =some x->x.cls≠2/\x.cls≠3

section
variable{Γ:Oracle} {nt b:Nat} {w0:World} {μ0:Nat->Option Nat} {ds:List Deferred} {ops:Array Oper} {l:List AOper} {fr fr':Fr} {hp':Heap} {e:AExit} {m:Nat} {frs:Nat->Fr} {hps:Nat->Heap} {vals:Nat->AV} {L:Array Bool} {a:Act}
variable{Q:Exit->Act->World->Prop} {ro:Option Nat}

theorem EI{a b:AOper}(hc:a.cls=3)(h:a.op.alike b.op):b.op=a.op:=by
 rcases(xu hc).2.2.2 with⟨sh,z,e⟩|⟨sh,e⟩|⟨sh,e⟩ <;> rw[e] at h ⊢ <;>
  (rcases h with h|⟨_,_,h|h⟩|⟨_,h|h⟩|⟨_,_,h⟩|⟨_,_,h⟩ <;> first|exact h.symm|cases h)

set_option maxHeartbeats 1000000 in
theorem kF(hΓ:SoundO P Γ){i:Nat}(hT:∀o,ops[i]? =some o->∃ao0 ao:AOper,xm P nt ops o=some ao0/\l[i]? =some ao/\ao.dst=ao0.dst/\ao.guard=ao0.guard/\ao.base.args=ao0.args/\ao.base.op.alike ao0.op)(dE:yT 0 ops.toList=true)(dN:yS 0 l=true)(dU:xn l=true)(dL:xL l=true)(hpan:(∃p,e=.panic p)->yc ops l=true)(R:Run Γ b l fr hp e fr' hp' m frs hps vals)(D:DInv nt b w0 X μ0 hp ds ops l fr m hps vals L a w)
  (hQ:(∃p,e=.panic p)->∀e' a' w',Lands nt b w0 X μ0 hp ds e fr' hp' e' a' w'->Q e' a' w')(hi:i∈Region.ready .any ops L)
  (dA:∀j x y,j<i->l[j]? =some x->l[i]? =some y->L.getD j false=false->j∈(clos [] ops.toList).getD i []\/x.indep y (XC l j i)=true)
  (dB:∀j x y,i<j->l[j]? =some x->l[i]? =some y->L.getD j false=true->i∈(clos [] ops.toList).getD j []\/y.indep x (XC l i j)=true):
  wpOpIn (Fe ro) 0 P ops Q i (fun a' w'=>DInv nt b w0 X μ0 hp ds ops l fr m hps vals (L.setIfInBounds i true) a' w') a w:=by
 obtain⟨r1,r2,r3⟩:=qP dE D.shut hi;have hsz:i<L.size:=by grind
 have hLi:L.getD i false=false:=by
  grind
 obtain⟨o,ho⟩:∃o,ops[i]? =some o:=⟨_,zo r1⟩;obtain⟨ao0,ao,t1,t2,q1,q2,q3,q4⟩:=hT o ho;obtain⟨d1,d2,d3⟩:=Q2 t1;have hA:∀j x,j<i->l[j]? =some x->L.getD j false=false->x.indep ao (XC l j i)=true:=by
  grind
 have hB:∀j x,i<j->l[j]? =some x->L.getD j false=true->ao.indep x (XC l i j)=true:=by
  intro j x hj hx hLj;rcases dB j x ao hj hx t2 hLj with h|h
  ·have:=D.shut j hLj i h
   grind
  grind
 obtain⟨μ1,pb,h,D1,hcb⟩:=D.st;have him:i<=m:=by
  rcases Zn m i with hlt|hge
  ·exfalso;rcases R.fin with⟨f1,_⟩|⟨om,p,f1,f2,f3,f4⟩
   ·grind
   ·rcases uc (hpan ⟨p,f3⟩) i m om ao hlt f1 t2 with h|h
    ·have:=D.lt m (r3 m h);omega
    grind [kn]
  grind
 have hdt:∀d,ao.dst=some d->d<a.tmps.size:=fun d hd=>by rw[D.tsz];grind
 have hod:o.dst=ao.dst:=by grind
 have hbase:=ud ao

 have hLS:∀h,(ao.cls=0\/i<=h)->∀s u,s∈ao.uses->(frs i).look s=some u->LS l vals fr L h s u:=by
  intro h hwh s u hs hlook;rcases R.look i him hlook with⟨j,oj,hj,hoj,hdj,rfl⟩|⟨hnone,hfr⟩
  ·refine .inl ⟨j,oj,?_,hoj,hdj,rfl,fun c=> ?_⟩
   ·grind [kE]
   grind [Eh]
  ·refine .inr ⟨fun j oj hoj hdj=> ?_,hfr⟩;cases hLj:L.getD j false with
   |false=>rfl
   |true=>
    exfalso;rcases Nat.lt_trichotomy j i with h|h|h
    ·grind
    ·grind
    grind [uh]
 have hone:∀{hp r},aone Γ b ao (frs i) hp=some r->aone Γ b ao.base ((frs i).keep ao.uses) hp=some r:=fun{hp r} h=>by
  rw[Ek (f:=(frs i).keep ao.uses) (g:=frs i) fun s hs=>qT hs];exact Eb h

 have go:∀(μ1 pb:Nat->Option Nat) (h h':Nat),DSt b w0 X μ0 hp l fr m hps vals L μ1 pb h a.tmps w->(∀s u,s∈ao.uses->(frs i).look s=some u->LS l vals fr L h s u)->i<m->ao.cls≠3->((h'=h/\ao.cls≠2)\/(h'=h+1/\i=h/\ao.cls=2))->h'<=m->
   aone Γ b ao (frs i) (hps h)=some (.val (vals i) (hps h'))->(∀j x,l[j]? =some x->x.isCallh=true->L.getD j false=false->j≠i->∀k x,j<k->k<h'->l[k]? =some x->x.cls≠2/\x.cls≠3)->
   wpOpIn (Fe ro) 0 P ops Q i (fun a' w'=>DInv nt b w0 X μ0 hp ds ops l fr m hps vals (L.setIfInBounds i true) a' w') a w:=by
  intro μ1 pb h h' D1 hwh hlt hc3 hh hh' hao hcb';have hF:FR w (Xp X pb) μ1 (hps h) ((frs i).keep ao.uses) a.tmps:=fun s u hs=>by
   obtain⟨k1,k2⟩:=qU hs;exact D1.slot s u (hwh s u k1 k2)
  have fin:∀(v':Value) (w':World) (μ':Nat->Option Nat),AR w' (Xp X pb) μ' (hps h') (vals i) v'->HR w' (Xp X pb) μ' (hps h')->Ext b (Xp X pb) μ1 (hps h) w μ' (hps h') w'->DInv nt b w0 X μ0 hp ds ops l fr m hps vals (L.setIfInBounds i true) (a.put o.dst v') w':=by
   intro v' w' μ' hv hH' E;rw[hod];refine⟨by simp[D.size],qR D.size D.shut r3 r1,fun j hj=> ?_,by rw[QE];exact D.ds,by rw[yl];exact D.tsz,μ',pb,h',D1.next dN hsz hLi t2 hdt hc3 hh hh' hv hH' E,?_⟩
   ·rw[Yx hsz] at hj;split at hj
    ·omega
    ·exact D.lt j hj
   grind [Yx]
  have hao2:=hone hao;have hwant:∀x,wants ((frs i).keep ao.uses) ao.base.guard=some x->Region.wanted o (yielded ops a.tmps)=x:=fun x hx=>QF hF t1 (by grind);simp only[wpOpIn,ho];unfold aone at hao2;split at hao2
  ·grind
  ·rename_i hw;rw[hwant _ hw];simp only[ZJ,if_false];simp only[Option.some.injEq,OpRes.val.injEq] at hao2;obtain⟨hv,hhp⟩:=hao2;exact⟨fun _ _=>trivial,fin undef w μ1 (by rw[<-hv];exact .undef _ fun b h=>by cases h) (by rw[<-hhp];exact D1.hr) (by grind [Ext.refl])⟩
  ·rename_i hw;rw[hwant _ hw];simp only[if_true];split at hao2
   ·grind
   ·rename_i vs hvs;exact qL hΓ D1.le d3 q4 hF (by grind) D1.hr hao2 fin

 have adv:ao.cls=2->h<=i->∃μ' pb',DSt b w0 X μ0 hp l fr m hps vals L μ' pb' i a.tmps w:=by
  intro hc hle;have:=D1.advance R (i - h) (by omega) (fun k x k1 k2 hx=>by
   have hki:k<i:=by omega
   constructor
   ·intro hx2;have hLk:L.getD k false=false:=by
     cases hLk:L.getD k false with
     |false=>rfl
     |true=>have:=(D1.c2 k x hx hx2).1 hLk;omega
    grind [QH]
   grind [QH])
  rw[show h+(i - h)=i by omega] at this
  grind

 have far:ao.cls=1->∀(n h:Nat) (μ1 pb:Nat->Option Nat),DSt b w0 X μ0 hp l fr m hps vals L μ1 pb h a.tmps w->h+n=i->∃k0 μ' pb',h<=k0/\k0<=i/\DSt b w0 X μ0 hp l fr m hps vals L μ' pb' k0 a.tmps w/\(k0=i\/∃o,l[k0]? =some o/\o.cls=2):=by
  intro hc n
  induction n with
  |zero=>grind
  |succ n ih=>
   intro h μ1 pb D1 e;have hlt:h<l.length:=Zp (by omega:h<i+1) (Nat.succ_le_of_lt (Zf.1 t2).1);have hx:l[h]? =some l[h]:=Ze hlt;by_cases h2:l[h].cls=2
   ·exact⟨h,μ1,pb,Zc _,by omega,D1,.inr ⟨_,hx,h2⟩⟩
   ·obtain⟨μ2,pb2,D2⟩:=D1.step R (by omega) (fun o ho=>by
     rw[hx] at ho;cases ho;refine⟨h2,fun h3=> ?_⟩;cases hLk:L.getD h false with
     |true=>rfl
     |false=>rcases QH (hA h _ (by omega) hx hLk) with h'|h'|⟨h',_⟩|h'|⟨h',_⟩|⟨h',_⟩ <;> omega)
    obtain⟨k0,μ',pb',z1,z2,z3⟩:=ih (h+1) μ2 pb2 D2 (by omega);exact⟨k0,μ',pb',by omega,z2,z3⟩
 have cb2:ao.cls=2->∀j x,l[j]? =some x->x.isCallh=true->L.getD j false=false->j≠i->∀k y,j<k->k<i+1->l[k]? =some y->y.cls≠2/\y.cls≠3:=by
  intro hc j x hx hxc hLj hne k y hjk hki hy;exfalso;have hxj:x.cls=1:=by unfold AOper.cls;rw[ui hxc]
  rcases QH (hA j x (by omega) hx hLj) with h|h|⟨_,h,_⟩|h|⟨_,h,_⟩|⟨h,_⟩
  ·omega
  ·omega
  ·omega
  ·omega
  ·grind
  ·omega
 have hold:∀j x,l[j]? =some x->x.isCallh=true->L.getD j false=false->j≠i->∀k x,j<k->k<h->l[k]? =some x->x.cls≠2/\x.cls≠3:=fun j x hx hxc hLj _=>hcb j x hx hxc hLj;rcases Zn i m with hlt|hge
 ·obtain⟨s1,_⟩:=R.step i ao hlt t2;rcases qN ao with c|c|c|c
  ·exact go μ1 pb h h D1 (hLS h (.inl c)) hlt (by omega) (.inl ⟨rfl,by omega⟩) D1.hm (((XY s1).1 c).2 _) hold
  ·rcases Zn i h with hih|hih
   ·have hB2:∀k x,i<k->k<h->l[k]? =some x->x.cls=2->ao.isCallh=false/\ao.spared x=true:=by
     intro k x hk hkh hx hx2;rcases QH (hB k x hk hx ((D1.c2 k x hx hx2).2 hkh)) with h|h|⟨_,h,_⟩|h|⟨_,h1,_,h2⟩|⟨h,_⟩
     ·omega
     ·omega
     ·omega
     ·omega
     ·grind
     ·omega
    have hres:aone Γ b ao (frs i) (hps h)=some (.val (vals i) (hps h)):=by
     cases hcl:ao.isCallh with
     |false=>exact Eu R dL t2 c hcl hih D1.hm fun k x k1 k2 k3 k4=>(hB2 k x k1 k2 k3 k4).2
     |true=>
      have:=R.heap (i:=i) (h - i) (by have:=D1.hm;omega) (fun k x k1 k2 hx=>by
       grind [Nat.eq_or_lt_of_le])
      rw[show i+(h - i)=h by omega] at this
      grind [XY]
    exact go μ1 pb h h D1 (hLS h (.inr (Nat.le_of_lt hih))) hlt (by omega) (.inl ⟨rfl,by omega⟩) D1.hm hres hold
   ·obtain⟨k0,μ2,pb2,z1,z2,D2,z3⟩:=far c (i - h) h μ1 pb D1 (by omega);have hcg:∀k x,k0<=k->k<i->l[k]? =some x->x.cls=2->x.isCallg=true/\ao.isLd=true:=by
     intro k x k1 k2 hx hx2;have hLk:L.getD k false=false:=by
      cases hLk:L.getD k false with
      |false=>rfl
      |true=>have:=(D2.c2 k x hx hx2).1 hLk;omega
     grind [QH]
    have hg0:k0<i->∃g,l[k0]? =some g/\g.isCallg=true/\ao.isLd=true:=by
     intro hk;rcases z3 with e|⟨g,g1,g2⟩
     ·omega
     grind
    have hLS2:∀s u,s∈ao.uses->(frs i).look s=some u->LS l vals fr L k0 s u:=by
     intro s u hs hl;rcases hLS i (.inr (Zc _)) s u hs hl with⟨j,oj,a1,a2,a3,a4,a5⟩|h'
     ·refine .inl ⟨j,oj,a1,a2,a3,a4,fun c3=> ?_⟩;rcases Nat.eq_or_lt_of_le z2 with e|hk
      ·grind
      ·obtain⟨g,g1,g2,g3⟩:=hg0 hk
       grind [Ei]
     ·exact .inr h'
    have hres:aone Γ b ao (frs i) (hps k0)=some (.val (vals i) (hps k0)):=by
     have hs1:aone Γ b ao (frs i) (hps i)=some (.val (vals i) (hps i)):=by grind [XY]
     rcases Nat.eq_or_lt_of_le z2 with e|hk
     ·grind
     ·obtain⟨g,g1,g2,g3⟩:=hg0 hk;have hgrow:=R.grow (i:=k0) (i - k0) (by omega) (fun k x a1 a2 a3 a4=>(hcg k x a1 (by omega) a3 a4).1);rw[show k0+(i - k0)=i by omega] at hgrow;exact Et g3 hgrow (fun q u hq hl=>⟨_,(D2.slot q u (hLS2 q u hq hl)).2⟩) hs1
    have cbk:∀j x,l[j]? =some x->x.isCallh=true->L.getD j false=false->j≠i->∀k y,j<k->k<k0->l[k]? =some y->y.cls≠2/\y.cls≠3:=by
     intro j x hx hxc hLj hne k y hjk hk0 hy;have hxj:x.cls=1:=by unfold AOper.cls;rw[ui hxc]
     have hm0:XC l j i=false:=by
      rcases QH (hA j x (by omega) hx hLj) with h'|h'|⟨_,_,h'⟩|h'|⟨_,h',_⟩|⟨h',_⟩
      ·omega
      ·omega
      ·grind
      ·omega
      ·grind
      ·omega
     refine⟨fun hy2=> ?_,Eg hm0 k y hjk (by omega) hy⟩;have hLk:=(D2.c2 k y hy hy2).2 hk0;exact(hcb j x hx hxc hLj k y hjk ((D1.c2 k y hy hy2).1 hLk) hy).1 hy2
    exact go μ2 pb2 k0 k0 D2 hLS2 hlt (by omega) (.inl ⟨rfl,by omega⟩) D2.hm hres cbk
  ·have hih:h<=i:=by
    rcases Zn i h with h'|h'
    ·rw[(D1.c2 i ao t2 c).2 h'] at hLi;grind
    grind
   obtain⟨μ2,pb2,D2⟩:=adv c hih;exact go μ2 pb2 i (i+1) D2 (hLS i (.inr (Zc _))) hlt (by omega) (.inr ⟨rfl,rfl,c⟩) (by omega) s1 (cb2 c)
  ·have hb0:ao.base=ao:=jh (by omega);have hg:ao0.guard=none:=by grind [xu]
   have hop:ao0.op=ao.op:=EI c (by grind);have hargs:ao0.args=ao.args:=by grind
   have hwant:Region.wanted o (yielded ops a.tmps)=true:=QF (w:=w) (X:=X) (μ:=μ1) (hp:=hp) (fr:=[]) (fun s u hs=>by grind [Fr.look]) t1 (by rw[hg];rfl);simp only[wpOpIn,ho,hwant,if_true];have ht':trOp P o=some (ao.op,ao.args):=by grind
   obtain⟨v,w',pv,k1,k2,k3⟩:=EG (a:=a) ht' c w;have hnd:∀cc,o.op≠.defer cc:=by
    grind [trOp]
   refine⟨fun _ _=>trivial,?_⟩;rw[Oper.semAt_eq _ _ _ hnd,k1];show DInv nt b w0 X μ0 hp ds ops l fr m hps vals (L.setIfInBounds i true) (a.put o.dst v) w';rw[hod];refine⟨by simp[D.size],qR D.size D.shut r3 r1,fun j hj=> ?_,by rw[QE];exact D.ds,by rw[yl];exact D.tsz,μ1,_,h,D1.make dN hsz hLi t2 hdt c k2 k3,?_⟩
   ·rw[Yx hsz] at hj;split at hj
    ·omega
    ·exact D.lt j hj
   grind [Yx]
 ·have hie:i=m:=by omega
  subst hie;rcases R.fin with⟨f1,_⟩|⟨om,p,f1,f2,f3,f4⟩
  ·grind
  ·rw[t2] at f1;cases f1;have c:=d7 (kn f2);have hih:h<=i:=D1.hm;obtain⟨μ2,pb2,D2⟩:=adv c hih;have hX:Xp X pb2=X:=XX fun k=>by
    cases hk:pb2 k with
    |none=>rfl
    |some bk=>
     obtain⟨z1,z2,_⟩:=D2.own k bk hk;have:=D.lt k z1;omega
   have hH:=D2.hr;have hslot:=D2.slot;rw[hX] at hH hslot;have hF:FR w X μ2 (hps i) ((frs i).keep ao.uses) a.tmps:=fun s u hs=>by
    obtain⟨k1,k2⟩:=qU hs;exact hslot s u (hLS i (.inr (Zc _)) s u k1 k2)
   have hao2:=hone f2;have hwant:∀x,wants ((frs i).keep ao.uses) ao.base.guard=some x->Region.wanted o (yielded ops a.tmps)=x:=fun x hx=>QF hF t1 (by grind);simp only[wpOpIn,ho];unfold aone at hao2;split at hao2
   ·grind
   ·grind
   ·rename_i hw;rw[hwant _ hw];simp only[if_true];split at hao2
    ·grind
    ·rename_i vs hvs;refine qL hΓ D2.le d3 q4 hF (by grind) hH hao2 ?_;intro v' w' μ' hv hH' E;refine hQ ⟨p,f3⟩ _ _ _ ⟨D.ds,D.tsz,μ',hH',fun s u hs=> ?_,D2.ext.trans E,?_⟩
     ·have hls:LS l vals fr L i s u:=by
       rw[f4] at hs;rcases R.look i (Zc _) hs with⟨j,oj,hj,hoj,hdj,rfl⟩|⟨hnone,hfr0⟩
       ·refine .inl ⟨j,oj,?_,hoj,hdj,rfl,fun _=>hj⟩;rcases uc (hpan ⟨p,f3⟩) i j oj ao hj hoj t2 with h|h
        ·grind
        grind [kn]
       ·refine .inr ⟨fun j oj hoj hdj=> ?_,hfr0⟩;cases hLj:L.getD j false with
        |false=>rfl
        |true=>exact absurd hdj (hnone j oj (D.lt j hLj) hoj)
      obtain⟨k1,k2⟩:=hslot s u hls;exact⟨k1,E.ar k2⟩
     ·rw[f3];exact⟨v',rfl,hv⟩

theorem EJ(hΓ:SoundO P Γ)(hT:Tie P nt ops l)(hdraw:YL ops l=true)(hpan:(∃p,e=.panic p)->yc ops l=true)(R:Run Γ b l fr hp e fr' hp' m frs hps vals)(D:DInv nt b w0 X μ0 hp ds ops l fr m hps vals L a w)
  (hQ:∀e' a' w',Lands nt b w0 X μ0 hp ds e fr' hp' e' a' w'->Q e' a' w'){i:Nat}(hi:i∈Region.ready .any ops L):
  wpOpIn (Fe ro) 0 P ops Q i (fun a' w'=>DInv nt b w0 X μ0 hp ds ops l fr m hps vals (L.setIfInBounds i true) a' w') a w:=by
 obtain⟨dE,dN,dU,dL,dP⟩:=Q3 hdraw;exact kF hΓ (hT.2 i) dE dN dU dL hpan R D (fun _=>hQ) hi (fun j x y h1 h2 h3 _=>dP i j x y h1 h2 h3) fun j x y h1 h2 h3 _=>dP j i y x h1 h3 h2

theorem EK(hΓ:SoundO P Γ)(hT:Tie P nt ops l)(hdraw:YL ops l=true)(hpan:(∃p,e=.panic p)->yc ops l=true)(R:Run Γ b l fr hp e fr' hp' m frs hps vals)
  (hQ:∀e' a' w',Lands nt b w0 X μ0 hp ds e fr' hp' e' a' w'->Q e' a' w'):∀(n:Nat) (L:Array Bool) (a:Act) (w:World),DInv nt b w0 X μ0 hp ds ops l fr m hps vals L a w->(List.range ops.size).countP (fun i=> !L.getD i false)<=n->wpAnyIn (Fe ro) 0 P .any ops Q n L a w:=by
 have hend:∀(L:Array Bool) (a:Act) (w:World),DInv nt b w0 X μ0 hp ds ops l fr m hps vals L a w->Region.ready .any ops L=[]->Q .normal a w:=by
  intro L a w D hr;obtain⟨dE,dN,dU,dL,dP⟩:=Q3 hdraw;have hall:=qQ dE D.size hr;have hml:m=l.length:=by
   rcases Zn m l.length with h|h
   ·have:=D.lt m (hall m (by rw[<-hT.1];exact h));omega
   ·exact Nat.le_antisymm R.le h
  obtain⟨μ1,pb,h,D1,_⟩:=D.st;have hm:=D1.hm;have hlen:∀{k x},l[k]? =some x->k<ops.size:=fun hx=>by rw[<-hT.1];grind
  obtain⟨μ2,pb2,D2⟩:=D1.advance R (m - h) (by omega) (fun k x k1 k2 hx=>⟨fun hx2=>by
   have:=(D1.c2 k x hx hx2).1 (hall k (hlen hx));omega,fun _=>hall k (hlen hx)⟩)
  rw[show h+(m - h)=m by omega] at D2;have hX:Xp X pb2=X:=XX fun k=>by
   cases hk:pb2 k with
   |none=>rfl
   |some bk=>
    obtain⟨z1,z2,_⟩:=D2.own k bk hk
    grind
  have hH:=D2.hr;have hslot:=D2.slot;rw[hX] at hH hslot;rcases R.fin with⟨f1,f2,f3,f4⟩|⟨om,p,f1,_⟩
  ·refine hQ _ _ _ ⟨D.ds,D.tsz,μ2,?_,fun s u hs=> ?_,?_,?_⟩
   ·grind
   ·rw[f3] at hs;rw[f4];refine hslot s u ?_;rcases R.look m (Zc _) hs with⟨j,oj,hj,hoj,hdj,rfl⟩|⟨hnone,hfr0⟩
    ·exact .inl ⟨j,oj,hall j (hlen hoj),hoj,hdj,rfl,fun _=>hj⟩
    ·exact .inr ⟨fun j oj hoj hdj=>absurd hdj (hnone j oj (by grind) hoj),hfr0⟩
   ·rw[f4];exact D2.ext
   ·rw[f2];exact trivial
  grind
 intro n
 induction n with
 |zero=>
  intro L a w D hn;have hr:Region.ready .any ops L=[]:=by
   cases hx:Region.ready .any ops L with
   |nil=>rfl
   |cons i r=>
    exfalso;have hi:i∈Region.ready .any ops L:=by grind
    obtain⟨r1,r2,r3⟩:=qP (Q3 hdraw).1 D.shut hi
    grind [List.countP_pos_iff]
  exact⟨hr,hend L a w D hr⟩
 |succ n ih=>
  intro L a w D hn;refine⟨hend L a w D,fun i hi=> ?_⟩;obtain⟨r1,r2,r3⟩:=qP (Q3 hdraw).1 D.shut hi;refine wpOpIn_mono (fun a' w' D'=>ih _ a' w' D' ?_) (EJ hΓ hT hdraw hpan R D hQ hi);have hsz:i<L.size:=by grind
  have:=qV (l:=List.range ops.size) (p:=fun i=> !L.getD i false) (q:=fun j=> !(L.setIfInBounds i true).getD j false) (zx.2 r1) (fun x hx=>by
   grind [Yx]) (by
   grind) (by simp_all)
  omega

theorem kG(hmix:P.follows .mixedOrders=true)(hΓ:SoundO P Γ)(hT:Tie P nt ops l)(hdraw:YL ops l=true){id:Nat}(hs:aops Γ b l fr hp=some (e,fr',hp'))(hpan:(∃p,e=.panic p)->yc ops l=true)(hb:b<=hp.length)(hH:HR w X μ hp)(hF:FR w X μ hp fr a.tmps)(hsz:a.tmps.size=nt)
  (hQ:∀e' a' w',Lands nt b w X μ hp a.defers e fr' hp' e' a' w'->Q e' a' w'):(Code.region id ops true).wpIn (Fe ro) 0 P Q a w:=by
 obtain⟨m,frs,hps,vals,R⟩:=jg l fr hp hs;refine wpIn_region_any hmix (EK (w0:=w) (X:=X) (μ0:=μ) (ds:=a.defers) hΓ hT hdraw hpan R hQ ops.size _ a _ ?_ (Zz (List.countP_le_length) (by simp)));have h0:∀i,(Array.replicate ops.size false).getD i false=false:=by
  intro i;rw[Z7,Array.getElem?_replicate]
  grind
 have hX:Xp X (fun _=>none)=X:=XX fun _=>rfl;refine⟨by simp,fun i hi=> ?_,fun i hi=> ?_,rfl,hsz,μ,fun _=>none,0,⟨Za _,fun k o hk hc=> ?_,fun k o hk hc h=>by omega,?_,?_,?_,fun s v hs=> ?_,fun k o hk hc h hL=> ?_,fun k bk h=>(by cases h),fun k k' bk h=>(by cases h)⟩,fun i ao hi hc hL k x h1 h2=>by omega⟩
 ·grind
 ·grind
 ·grind
 ·rw[R.h0,hX];exact hH.drew
 ·rw[R.h0];exact hb
 ·rw[R.h0];exact Ext.drew b
 ·rcases hs with⟨j,o,hj,_⟩|⟨_,h⟩
  ·grind
  ·rw[R.h0,hX];obtain⟨k1,k2⟩:=hF s v h;exact⟨k1,(Ext.drew (X:=X) (μ:=μ) (hp:=hp) (w:=w) 0).ar k2⟩
 grind
end
end Go.Am

/- Regions whose last two stores, to an element and to a variable, stand in no order. -/
namespace Go.Am
variable{P:Program} {w:World} {X:Xc P} {μ:Nat->Option Nat} {hp:Heap}

theorem EL{s1 s2 sx:Sh}{b:Nat}{h0 h1 h2:Heap}{r1 ver i off r o:Nat}{px:PV}{yv:AV}{t:Sh}(hy:(∃sh r v o n,yv=.sl sh r v o n)\/∃sh p,yv=.pv sh p)
  (e1:astore s1 b h0 (.eptr t r1 ver i off) (.pv sx px)=some h1)(e2:astore s2 b h1 (.ptr r o) yv=some h2):
  ∃h1',astore s2 b h0 (.ptr r o) yv=some h1'/\astore s1 b h1' (.eptr t r1 ver i off) (.pv sx px)=some h2:=by
 have hown:∀hp,yv.own hp=(yv,hp):=by
  rcases hy with⟨_,_,_,_,_,rfl⟩|⟨_,_,rfl⟩ <;> intro hp <;> rfl
 simp only[astore] at e1;split at e1
 ·cases e1
 rename_i hsx;simp only[AV.freeze,deep] at e1;cases ha:h0[r1]? with
 |none=>grind
 |some oa=>
 rw[ha] at e1;have e3:=e2

 obtain⟨sa,es,es',rfl,hh1,hpart⟩:∃sa es es',oa=.arr sa es false/\h1=h0.set r1 (.arr sa es' false)/\∀hq:Heap,hq[r1]? =some (.arr sa es false)->astore s1 b hq (.eptr t r1 ver i off) (.pv sx px)=some (hq.set r1 (.arr sa es' false)):=by
  cases oa with
  |box _ _=>cases e1
  |map _ _=>cases e1
  |loop _ _ _ _=>cases e1
  |arv _ _=>cases e1
  |arr sa es fz=>
   cases fz with
   |true=>cases e1
   |false=>
    simp only[] at e1;split at e1
    ·rename_i hv;cases ho:es[i]? with
     |none=>grind
     |some old=>
      rw[ho] at e1;simp only[] at e1;split at e1
      ·grind [astore,AV.freeze,deep]
      ·rename_i hc;cases hu:PV.upd 8 old off s1 px with
       |none=>grind
       |some new=>
        grind [astore,AV.freeze,deep]
    grind
 have hlt:r1<h0.length:=(Zf.1 ha).1;subst hh1;have hne:r≠r1:=by
  grind [astore]
 have hb:(h0.set r1 (.arr sa es' false))[r]? =h0[r]? :=zm (Ne.symm hne);obtain⟨ob,h2',hst⟩:∃ob,h2=(h0.set r1 (.arr sa es' false)).set r ob/\astore s2 b h0 (.ptr r o) yv=some (h0.set r ob):=by
  simp only[astore,hb,hown] at e2 ⊢;cases hr:h0[r]? with
  |none=>grind
  |some obj=>
   rw[hr] at e2;cases obj with
   |arr _ _ _=>cases e2
   |map _ _=>cases e2
   |loop _ _ _ _=>cases e2
   |arv _ _=>cases e2
   |box s old=>
    simp only[] at e2 ⊢;split at e2
    ·cases e2
    ·rename_i h3;rw[Zb h3]
     grind
 grind [List.set_comm]

structure Two(ops:Array Oper)(l:List AOper)(q x:Nat)(p s v:AOper)(sh1 sh2:Sh)(p2 y:AArg):Prop where
 dE:yT 0 ops.toList=true
 dN:yS 0 l=true
 dU:xn l=true
 dL:xL l=true
 n3:3<=l.length
 dP:∀i j a b,j<i->l[j]? =some a->l[i]? =some b->j∈(clos [] ops.toList).getD i []\/a.indep b (XC l j i)=true\/(i=l.length - 1/\j=l.length - 2)
 c1:∀j,j<l.length - 3->j∈(clos [] ops.toList).getD (l.length - 1) []
 c2:(l.length - 3)∈(clos [] ops.toList).getD (l.length - 2) []
 lp:l[l.length - 3]? =some p
 ls:l[l.length - 2]? =some s
 lv:l[l.length - 1]? =some v
 pc:p.cls=0
 pd:p.dst=some q
 sop:s.op=.store sh1
 sar:s.args=[.t q,.t x]
 sd:s.dst=none
 sg:s.guard=none
 vop:v.op=.storex sh2
 var:v.args=[p2,y,.t q,.t x]
 vd:v.dst=none
 vg:v.guard=none
 xq:x≠q

theorem EM{ops:Array Oper}{l:List AOper}(h:XS ops l=true):∃q x p s v sh1 sh2 p2 y,Two ops l q x p s v sh1 sh2 p2 y:=by
 simp only[XS,Zk,Zr,ZN] at h;obtain⟨⟨⟨⟨⟨⟨⟨h1,h2⟩,h4,h5⟩,h6⟩,h3⟩,h7⟩,h8⟩,h9⟩:=h;split at h9
 ·rename_i p s v e1 e2 e3;rw[Zk] at h9;obtain⟨h9,h10⟩:=h9;split at h10
  ·rename_i q sh1 q' x sh2 p2 y q2 x2 f1 f2 f3 f4 f5 f6 f7 f8 f9 f10;simp only[Zk] at h10;obtain⟨⟨g1,g2⟩,g3⟩:=h10;have g1:=ZM g1;have g2:=ZM g2;subst g1;subst g2;split at g3
   ·rename_i x x2;simp only[Zk,zz] at g3;obtain⟨g3,g4⟩:=g3;have g3:=ZM g3;subst g3;refine⟨_,_,p,s,v,_,_,_,_,h1,h2,h4,h5,h6,fun i j a b hji ha hb=> ?_,fun j hj=> ?_,by grind,e1,e2,e3,by grind,f1,f3,f4,f5,f6,f7,f8,f9,f10,fun e=>by grind⟩
    ·grind [ky]
    simp_all
   grind
  grind
 grind

/-! A region's operations in another order. -/
theorem qX{ops:Array Oper}{pi inv:List Nat}(h:xO ops pi inv=true):(yq ops pi inv).size=ops.size/\(∀k,k<ops.size->pi.getD k 0<ops.size/\inv.getD (pi.getD k 0) 0=k)/\
  ∀i o,ops[i]? =some o->inv.getD i 0<ops.size/\pi.getD (inv.getD i 0) 0=i/\(yq ops pi inv)[inv.getD i 0]? =some (qD inv o)/\o.guard=none/\∀e∈o.after,e.on<ops.size:=by
 simp only[xO,Zk,beq_iff_eq,Zr,ZN,zx] at h;obtain⟨⟨⟨h1,h2⟩,h3⟩,h4⟩:=h;refine⟨by grind [yq],fun k hk=>⟨(h3 k hk).1.2,(h3 k hk).2⟩,fun i o ho=> ?_⟩;have hi:i<ops.size:=(Array.getElem?_eq_some_iff.1 ho).1;obtain⟨⟨⟨g1,g2⟩,g3⟩,g4⟩:=h3 i hi;have hk:inv.getD i 0<pi.length:=by omega
 have hmem:o∈ops.toList:=by
  grind
 obtain⟨k1,k2⟩:=h4 o hmem;simp_all[yq]

theorem mem_ready{ops:Array Oper}{L:Array Bool}{i:Nat}:i∈Region.ready .any ops L↔∃o,ops[i]? =some o/\L.getD i true=false/\∀e∈o.after,(!Region.binds .any e || L.getD e.on false)=true:=by
 unfold Region.ready;simp only[List.mem_filter,zx,Zk,zz]
 grind [Array.all_eq_true_iff_forall_mem]

theorem kH{ops:Array Oper}{pi inv:List Nat}(h:xO ops pi inv=true){L L':Array Bool}(hs:L.size=ops.size)(hs':L'.size=ops.size)(hL:∀i,i<ops.size->L'.getD (inv.getD i 0) true=L.getD i true){i:Nat}(hi:i<ops.size):
  inv.getD i 0∈Region.ready .any (yq ops pi inv) L'↔i∈Region.ready .any ops L:=by
 obtain⟨h1,h2,h3⟩:=qX h;have ho:ops[i]? =some ops[i]:=zo hi;obtain⟨g1,g2,g3,g4,g5⟩:=h3 i _ ho;have he:∀e∈ops[i].after,(!Region.binds .any { e with on:=inv.getD e.on 0 } || L'.getD (inv.getD e.on 0) false)=(!Region.binds .any e || L.getD e.on false):=by
  intro e he;have hon:=g5 e he
  grind [Region.binds]
 rw[mem_ready,mem_ready];constructor
 ·rintro⟨o,h4,h5,h6⟩;rw[g3] at h4;cases h4;refine⟨_,ho,by grind,fun e hm=> ?_⟩
  grind [qD]
 ·rintro⟨o,h4,h5,h6⟩;rw[ho] at h4;cases h4;refine⟨_,g3,by grind,fun e hm=> ?_⟩;simp only[qD] at hm;obtain⟨e0,hm0,rfl⟩:=Array.mem_map.1 hm
  grind

theorem EN{F:Fence}{n:Nat}{o:Oper}{A:Array Edge}{a:Act}{K:Act->World->Prop}{Q:Exit->Act->World->Prop}(h:({ o with after:=A }:Oper).wpIn F n P a w K Q):o.wpIn F n P a w K Q:=h

theorem EO{F:Fence}{ops:Array Oper}{pi inv:List Nat}(h:xO ops pi inv=true){i:Nat}(hi:i<ops.size){K:Act->World->Prop}{Q:Exit->Act->World->Prop}{a:Act}(hk:wpOpIn F 0 P (yq ops pi inv) Q (inv.getD i 0) K a w):wpOpIn F 0 P ops Q i K a w:=by
 grind [qX,wpOpIn,Region.wanted,qD,EN]

theorem EP{F:Fence}{ops:Array Oper}{pi inv:List Nat}(h:xO ops pi inv=true){Q:Exit->Act->World->Prop}:∀(n:Nat) (L L':Array Bool) (a:Act) (w:World),L.size=ops.size->L'.size=ops.size->(∀i,i<ops.size->L'.getD (inv.getD i 0) true=L.getD i true)->
  wpAnyIn F 0 P .any (yq ops pi inv) Q n L' a w->wpAnyIn F 0 P .any ops Q n L a w:=by
 obtain⟨h1,h2,h3⟩:=qX h;have none_:∀(L L':Array Bool),L.size=ops.size->L'.size=ops.size->(∀i,i<ops.size->L'.getD (inv.getD i 0) true=L.getD i true)->Region.ready .any ops L=[]->Region.ready .any (yq ops pi inv) L'=[]:=by
  intro L L' hs hs' hL hr;rw[List.eq_nil_iff_forall_not_mem];intro k hk;have hkl:k<ops.size:=by
   grind [mem_ready]
  obtain⟨p1,p2⟩:=h2 k hkl
  grind [kH]
 intro n
 induction n with
 |zero=>
  intro L L' a w hs hs' hL hk;refine⟨?_,hk.2⟩;rw[List.eq_nil_iff_forall_not_mem];intro i hi;have hil:i<ops.size:=by
   grind [mem_ready]
  have:=(kH h hs hs' hL hil).2 hi;rw[hk.1] at this
  grind
 |succ n ih=>
  intro L L' a w hs hs' hL hk;refine⟨fun hr=>hk.1 (none_ L L' hs hs' hL hr),fun i hi=> ?_⟩;have hil:i<ops.size:=by
   grind [mem_ready]
  obtain⟨q1,q2,_⟩:=h3 i _ (zo hil);refine EO h hil (wpOpIn_mono (fun a' w' hk'=>ih _ _ a' w' (by grind) (by grind) ?_ hk') (hk.2 _ ((kH h hs hs' hL hil).2 hi)));intro j hj;obtain⟨r1,r2,_⟩:=h3 j _ (zo hj);have e1:∀(M:Array Bool) (k x:Nat),M.size=ops.size->k<ops.size->(M.setIfInBounds k true).getD x true=if x=k then true else M.getD x true:=by
   intro M k x hM hk;rw[Z7,Z7,Array.getElem?_setIfInBounds];by_cases hx:k=x
   ·grind
   grind
  rw[e1 L' _ _ hs' q1,e1 L _ _ hs hil]
  grind

section
variable{Γ:Oracle} {nt b:Nat} {w0:World} {μ0:Nat->Option Nat} {ds:List Deferred} {ops:Array Oper} {l:List AOper} {fr fr':Fr} {hp':Heap} {frs:Nat->Fr} {hps:Nat->Heap} {vals:Nat->AV} {L:Array Bool} {a:Act} {m:Nat}
variable{Q:Exit->Act->World->Prop} {ro:Option Nat}

structure DX(nt b:Nat)(w0:World)(X:Xc P)(μ0:Nat->Option Nat)(hp:Heap)(ds:List Deferred)(ops:Array Oper)(l:List AOper)(h1:Heap)(f3 f2:Fr)(L:Array Bool)(a:Act)(w:World):Prop where
 size:L.size=ops.size
 shut:Shut ops L
 ds:a.defers=ds
 tsz:a.tmps.size=nt
 pre:∀j,j<l.length - 3->L.getD j false=true
 lv:L.getD (l.length - 1) false=true
 ls:L.getD (l.length - 2) false=false
 st:∃μ1,HR w X μ1 h1/\FR w X μ1 h1 (if L.getD (l.length - 3) false=true then f2 else f3) a.tmps/\Ext b X μ0 hp w0 μ1 h1 w/\b<=h1.length
structure DF(nt b:Nat)(w0:World)(X:Xc P)(μ0:Nat->Option Nat)(hp:Heap)(ds:List Deferred)(ops:Array Oper)(fr':Fr)(hp':Heap)(L:Array Bool)(a:Act)(w:World):Prop where
 size:L.size=ops.size
 shut:Shut ops L
 all:∀j,j<ops.size->L.getD j false=true
 lands:Lands nt b w0 X μ0 hp ds .normal fr' hp' .normal a w

theorem EQ{sh:Sh}{b:Nat}{o:AOper}{x y:AArg}{fr:Fr}{h0 h1:Heap}{u:AV}(ho:o.op=.store sh)(ha:o.args=[x,y])(hg:o.guard=none)(h:aone Γ b o fr h0=some (.val u h1)):∃p v,fr.arg x=some p/\fr.arg y=some v/\astore sh b h0 p v=some h1/\u=.undef:=by
 unfold aone at h;rw[hg] at h;simp only[wants] at h;rw[ha] at h;split at h
 ·cases h
 ·rename_i vs hvs;obtain⟨p,us,rfl,k1,k2⟩:=yd hvs;obtain⟨v,rfl,k3⟩:=JY k2;rw[ho] at h;simp only[aOp,astep,AOp.isPure,AOp.isRead,cond_false,swrite,zH] at h
  grind
theorem uv{sh:Sh}{b:Nat}{o:AOper}{x y:AArg}{fr:Fr}{h0 h1:Heap}{p v:AV}(ho:o.op=.store sh)(ha:o.args=[x,y])(hg:o.guard=none)(h1':fr.arg x=some p)(h2:fr.arg y=some v)(hs:astore sh b h0 p v=some h1):aone Γ b o fr h0=some (.val .undef h1):=by
 unfold aone;rw[hg];simp only[wants];simp_all[Fr.argsOf,aOp,astep,AOp.isPure,AOp.isRead,swrite,zH]
theorem qY{ops:Array Oper}{L:Array Bool}{i:Nat}(hE:yT 0 ops.toList=true)(hz:L.size=ops.size)(hS:Shut ops L)(hi:i∈Region.ready .any ops L):i<ops.size/\L.getD i false=false/\∀j∈(clos [] ops.toList).getD i [],L.getD j false=true:=by
 grind [qP]
theorem ES{e:AExit}(hT:Tie P nt ops l)(dE:yT 0 ops.toList=true)(R:Run Γ b l fr hp e fr' hp' m frs hps vals)(hQ:∀e' a' w',Lands nt b w0 X μ0 hp ds e fr' hp' e' a' w'->Q e' a' w')
  (D:DInv nt b w0 X μ0 hp ds ops l fr m hps vals L a w)(hr:Region.ready .any ops L=[]):Q .normal a w:=by
 have hall:=qQ dE D.size hr;have hml:m=l.length:=by
  rcases Zn m l.length with h|h
  ·have:=D.lt m (hall m (by rw[<-hT.1];exact h));omega
  ·exact Nat.le_antisymm R.le h
 obtain⟨μ1,pb,h,D1,_⟩:=D.st;have hm:=D1.hm;have hlen:∀{k x},l[k]? =some x->k<ops.size:=fun hx=>by rw[<-hT.1];grind
 obtain⟨μ2,pb2,D2⟩:=D1.advance R (m - h) (by omega) (fun k x k1 k2 hx=>⟨fun hx2=>by
  have:=(D1.c2 k x hx hx2).1 (hall k (hlen hx));omega,fun _=>hall k (hlen hx)⟩)
 rw[show h+(m - h)=m by omega] at D2;have hX:Xp X pb2=X:=XX fun k=>by
  cases hk:pb2 k with
  |none=>rfl
  |some bk=>
   obtain⟨z1,z2,_⟩:=D2.own k bk hk
   grind
 have hH:=D2.hr;have hslot:=D2.slot;rw[hX] at hH hslot;rcases R.fin with⟨f1,f2,f3,f4⟩|⟨om,p,f1,_⟩
 ·refine hQ _ _ _ ⟨D.ds,D.tsz,μ2,?_,fun s u hs=> ?_,?_,?_⟩
  ·grind
  ·rw[f3] at hs;rw[f4];refine hslot s u ?_;rcases R.look m (Zc _) hs with⟨j,oj,hj,hoj,hdj,rfl⟩|⟨hnone,hfr0⟩
   ·exact .inl ⟨j,oj,hall j (hlen hoj),hoj,hdj,rfl,fun _=>hj⟩
   ·exact .inr ⟨fun j oj hoj hdj=>absurd hdj (hnone j oj (by grind) hoj),hfr0⟩
  ·rw[f4];exact D2.ext
  ·rw[f2];exact trivial
 grind

theorem kI(hΓ:SoundO P Γ)(hT:Tie P nt ops l){i:Nat}{ao:AOper}{K:Act->World->Prop}{F:Fr}{h0 h1:Heap}{u:AV}(hb:b<=h0.length)(hH:HR w X μ h0)(hF:FR w X μ h0 F a.tmps)(hi:i<ops.size)(ht2:l[i]? =some ao)
  (hao:aone Γ b ao.base F h0=some (.val u h1))(fin:∀v' w' μ',AR w' X μ' h1 u v'->HR w' X μ' h1->Ext b X μ h0 w μ' h1 w'->K (a.put ao.dst v') w'):wpOpIn (Fe ro) 0 P ops Q i K a w:=by
 obtain⟨o,ho⟩:∃o,ops[i]? =some o:=⟨_,zo hi⟩;obtain⟨ao0,ao',t1,t2,q1,q2,q3,q4⟩:=hT.2 i o ho;rw[ht2] at t2;cases t2;obtain⟨d1,d2,d3⟩:=Q2 t1;have hod:o.dst=ao.dst:=by grind
 have hbase:=ud ao;have hwant:∀x,wants F ao.base.guard=some x->Region.wanted o (yielded ops a.tmps)=x:=fun x hx=>QF hF t1 (by grind);simp only[wpOpIn,ho];unfold aone at hao;split at hao
 ·grind
 ·rename_i hw;rw[hwant _ hw];simp only[ZJ,if_false];simp only[Option.some.injEq,OpRes.val.injEq] at hao;obtain⟨hv,hhp⟩:=hao;rw[hod];exact⟨fun _ _=>trivial,fin undef w μ (by rw[<-hv];exact .undef _ fun b h=>by cases h) (by grind) (by grind [Ext.refl])⟩
 ·rename_i hw;rw[hwant _ hw];simp only[if_true];split at hao
  ·grind
  ·rename_i vs hvs;refine qL hΓ hb d3 q4 hF (by grind) hH hao ?_;intro v' w' μ' h1 h2 h3
   grind

theorem ET{F:Fr}{q:Nat}{u:AV}{x:AArg}(h:x≠.t q):(F.dst (some q) u).arg x=F.arg x:=by
 cases x with
 |c v=>rfl
 |t s=>
  grind [Fr.arg,Fr.dst,Fr.look]

theorem EU{q x:Nat}{p s v:AOper}{sh1 sh2:Sh}{p2 y:AArg}(hΓ:SoundO P Γ)(hT:Tie P nt ops l)(T:Two ops l q x p s v sh1 sh2 p2 y)(R:Run Γ b l fr hp .normal fr' hp' m frs hps vals)
  (hQ:∀e' a' w',Lands nt b w0 X μ0 hp ds .normal fr' hp' e' a' w'->Q e' a' w'):∃h1,∀(n:Nat) (L:Array Bool) (a:Act) (w:World),(DInv nt b w0 X μ0 hp ds ops l fr m hps vals L a w\/DX nt b w0 X μ0 hp ds ops l h1 (frs (l.length - 3)) (frs (l.length - 2)) L a w\/DF nt b w0 X μ0 hp ds ops fr' hp' L a w)->
   (List.range ops.size).countP (fun i=> !L.getD i false)<=n->wpAnyIn (Fe ro) 0 P .any ops Q n L a w:=by
 have n3:=T.n3;obtain⟨rfl,hfr',hhp'⟩:m=l.length/\fr'=frs m/\hp'=hps m:=by
  rcases R.fin with⟨f1,_,f3,f4⟩|⟨_,_,_,_,f,_⟩
  ·grind
  grind
 have hN:l.length=ops.size:=hT.1;have e32:l.length - 3+1=l.length - 2:=by omega
 have e21:l.length - 2+1=l.length - 1:=by omega
 have e10:l.length - 1+1=l.length:=by omega
 obtain⟨sp,fp⟩:=R.step (l.length - 3) p (by omega) T.lp;obtain⟨ss,fs⟩:=R.step (l.length - 2) s (by omega) T.ls;obtain⟨sv,fv⟩:=R.step (l.length - 1) v (by omega) T.lv;rw[e32] at sp fp;rw[e21] at ss fs;rw[e10] at sv fv;rw[T.sd] at fs;rw[T.vd] at fv;rw[T.pd] at fp;obtain⟨hpp,hpall⟩:=(XY sp).1 T.pc;obtain⟨pe,xv,a1,a2,st1,_⟩:=EQ T.sop T.sar T.sg ss

 obtain⟨vp,yv,b1,b2,h1,hsv,hsx⟩:∃vp yv,(frs (l.length - 2)).arg p2=some vp/\(frs (l.length - 2)).arg y=some yv/\∃h1,astore sh2 b (hps (l.length - 2)) vp yv=some h1/\astore sh1 b h1 pe xv=some (hps l.length):=by
  rw[fs] at sv;unfold aone at sv;rw[T.vg] at sv;simp only[wants] at sv;rw[T.var] at sv;split at sv
  ·cases sv
  ·rename_i vs hvs;rw[T.vop] at sv;simp only[aOp,astep,AOp.isPure,AOp.isRead,cond_false,swrite] at sv;cases hw:xk sh2 b (hps (l.length - 1)) vs with
   |none=>grind
   |some z=>
    obtain⟨z1,z2⟩:=z;rw[hw] at sv;cases sv;obtain⟨r0,o0,s1,r1,v1,i1,o1,s2,pp,yy,hvs',hy,hst,_⟩:=U6 hw;obtain⟨c1,us,rfl,k1,k2⟩:=yd hvs;obtain⟨c2,us2,rfl,k3,k4⟩:=yd k2;obtain⟨c3,us3,rfl,k5,k6⟩:=yd k4;obtain⟨c4,rfl,k7⟩:=JY k6;simp only[List.cons.injEq,and_true] at hvs';obtain⟨rfl,rfl,rfl,rfl⟩:=hvs';have a1':some pe=some (AV.eptr s1 r1 v1 i1 o1):=a1.symm.trans k5;have a2':some xv=some (AV.pv s2 pp):=a2.symm.trans k7;cases a1';cases a2';obtain⟨h1,g1,g2⟩:=EL hy st1 hst;exact⟨_,_,k1,k3,h1,g1,g2⟩
 refine⟨h1,?_⟩;have hend:∀(L:Array Bool) (a:Act) (w:World),(DInv nt b w0 X μ0 hp ds ops l fr l.length hps vals L a w\/DX nt b w0 X μ0 hp ds ops l h1 (frs (l.length - 3)) (frs (l.length - 2)) L a w\/DF nt b w0 X μ0 hp ds ops fr' hp' L a w)->Region.ready .any ops L=[]->Q .normal a w:=by
  rintro L a w (D|D|D) hr
  ·exact ES hT T.dE R hQ D hr
  ·have:=qQ T.dE D.size hr (l.length - 2) (by omega);rw[D.ls] at this;grind
  ·exact hQ _ _ _ D.lands
 have hsz:∀{L:Array Bool} {i:Nat},L.size=ops.size->i<ops.size->i<L.size:=fun h1 h2=>by omega
 have hstep:∀(L:Array Bool) (a:Act) (w:World) (i:Nat),(DInv nt b w0 X μ0 hp ds ops l fr l.length hps vals L a w\/DX nt b w0 X μ0 hp ds ops l h1 (frs (l.length - 3)) (frs (l.length - 2)) L a w\/DF nt b w0 X μ0 hp ds ops fr' hp' L a w)->i∈Region.ready .any ops L->
   wpOpIn (Fe ro) 0 P ops Q i (fun a' w'=>DInv nt b w0 X μ0 hp ds ops l fr l.length hps vals (L.setIfInBounds i true) a' w'\/DX nt b w0 X μ0 hp ds ops l h1 (frs (l.length - 3)) (frs (l.length - 2)) (L.setIfInBounds i true) a' w'\/DF nt b w0 X μ0 hp ds ops fr' hp' (L.setIfInBounds i true) a' w') a w:=by
  rintro L a w i (D|D|D) hi
  ·obtain⟨r1,r2,r3⟩:=qY T.dE D.size D.shut hi;by_cases hx:i=l.length - 1/\L.getD (l.length - 2) false=false
   ·obtain⟨rfl,hls⟩:=hx;have pre:∀j,j<l.length - 3->L.getD j false=true:=fun j hj=>r3 j (T.c1 j hj);obtain⟨μ1,pb,h,D1,_⟩:=D.st;have scls:s.cls=2:=by unfold AOper.cls;simp[T.sop,AOp.isPure,AOp.isRead]
    have hh:h<=l.length - 2:=by
     rcases Zn (l.length - 2) h with h'|h'
     ·rw[(D1.c2 _ s T.ls scls).2 h'] at hls;grind
     grind
    have k3:∀k o,k<l.length - 2->l[k]? =some o->k<l.length - 3\/o.cls=0:=by
     intro k o hk ho;rcases Zn k (l.length - 3) with h'|h'
     ·grind
     ·have:k=l.length - 3:=by omega
      subst this;rw[T.lp] at ho;cases ho;exact .inr T.pc
    obtain⟨μ2,pb2,D2⟩:=D1.advance R (l.length - 2 - h) (by omega) (fun k o k1 k2 ho=>by
     rcases k3 k o (by omega) ho with h'|h'
     ·exact⟨fun h2=>by have:=(D1.c2 k o ho h2).1 (pre k h');omega,fun _=>pre k h'⟩
     grind)
    rw[show h+(l.length - 2 - h)=l.length - 2 by omega] at D2;have hX:Xp X pb2=X:=XX fun k=>by
     cases hk:pb2 k with
     |none=>rfl
     |some bk=>
      obtain⟨z1,z2,⟨o,z3,z4⟩,_⟩:=D2.own k bk hk
      grind
    have hH:=D2.hr;have hslot:=D2.slot;rw[hX] at hH hslot;have hls':∀k,l.length - 3<=k->k<=l.length - 2->(k=l.length - 2->L.getD (l.length - 3) false=true)->(k=l.length - 3->L.getD (l.length - 3) false=false)->FR w X μ2 (hps (l.length - 2)) (frs k) a.tmps:=by
     intro k h1 h2 h3 h4 s' u hs;refine hslot s' u ?_;rcases R.look k (by omega) hs with⟨j,oj,hj,hoj,hdj,rfl⟩|⟨hnone,hfr⟩
     ·refine .inl ⟨j,oj,?_,hoj,hdj,rfl,fun _=>by omega⟩
      grind
     ·refine .inr ⟨fun j oj hoj hdj=> ?_,hfr⟩;rcases Zn j k with h'|h'
      ·grind
      ·have hjl:=(Zf.1 hoj).1;rcases Zn j (l.length - 2) with h''|h''
       ·grind
       ·exfalso;rcases Zn j (l.length - 1) with h5|h5
        ·have:j=l.length - 2:=by omega
         subst this;rw[T.ls] at hoj;cases hoj;rw[T.sd] at hdj;grind
        ·have:j=l.length - 1:=by omega
         subst this;rw[T.lv] at hoj;cases hoj;rw[T.vd] at hdj;grind
    have hF:FR w X μ2 (hps (l.length - 2)) (if L.getD (l.length - 3) false=true then frs (l.length - 2) else frs (l.length - 3)) a.tmps:=by
     grind
    have hbase:v.base={ v with op:=.store sh2,args:=[p2,y] }:=by
     unfold AOper.base;rw[T.vop,T.var]
    have huses:v.uses=yj [p2,y]:=by
     unfold AOper.uses;rw[hbase];simp only[T.vg]
    have harg:∀z,z=p2\/z=y->(if L.getD (l.length - 3) false=true then frs (l.length - 2) else frs (l.length - 3)).arg z=(frs (l.length - 2)).arg z:=by
     intro z hz;split
     ·rfl
     ·rename_i h3;rw[fp];refine(ET ?_).symm;rintro rfl;rcases T.dP (l.length - 1) (l.length - 3) p v (by omega) T.lp T.lv with h'|h'|h'
      ·grind
      ·refine kE h' T.pd ?_;rw[huses];rcases hz with rfl|rfl
       ·simp[yj]
       ·cases p2 <;> simp[yj]
      ·omega
    have hao:aone Γ b v.base (if L.getD (l.length - 3) false=true then frs (l.length - 2) else frs (l.length - 3)) (hps (l.length - 2))=some (.val .undef h1):=by
     refine uv (sh:=sh2) (x:=p2) (y:=y) (p:=vp) (v:=yv) (by grind) (by grind) (by rw[hbase];exact T.vg) ?_ ?_ hsv
     ·grind
     grind
    refine kI hΓ hT D2.le hH hF r1 T.lv hao ?_;intro v' w' μ' hv hH' E;refine .inr (.inl ⟨by simp[D.size],qR D.size D.shut r3 r1,by rw[QE];exact D.ds,by rw[yl];exact D.tsz,fun j hj=> ?_,?_,?_,μ',hH',?_,D2.ext.trans E,Zz D2.le E.len⟩)
    ·rw[Yx (hsz D.size r1),Zb (by omega)];grind
    ·rw[Yx (hsz D.size r1)];simp
    ·rw[Yx (hsz D.size r1),Zb (by omega)];grind
    ·have e3:(L.setIfInBounds (l.length - 1) true).getD (l.length - 3) false=L.getD (l.length - 3) false:=by rw[Yx (hsz D.size r1),Zb (by omega)]
     rw[e3,T.vd];exact FR.put (dst:=none) hF E (by grind) hv
   ·refine wpOpIn_mono (fun a' w' D'=>.inl D') (kF hΓ (hT.2 i) T.dE T.dN T.dU T.dL (by grind) R D (fun _=>hQ) hi ?_ ?_)
    ·intro j x' y' hj h1 h2 hL;rcases T.dP i j x' y' hj h1 h2 with h|h|⟨h,h'⟩
     ·grind
     ·grind
     grind
    ·intro j x' y' hj h1 h2 hL;rcases T.dP j i y' x' hj h2 h1 with h|h|⟨h,h'⟩
     ·grind
     ·grind
     ·exfalso;subst h;subst h';obtain⟨μ1,pb,hh,D1,_⟩:=D.st;have scls:s.cls=2:=by unfold AOper.cls;simp[T.sop,AOp.isPure,AOp.isRead]
      have vcls:v.cls=2:=by unfold AOper.cls;simp[T.vop,AOp.isPure,AOp.isRead]
      have k1:=(D1.c2 _ v T.lv vcls).1 hL;have k2:=(D1.c2 _ s T.ls scls).2 (by omega)
      grind
  ·obtain⟨r1,r2,r3⟩:=qY T.dE D.size D.shut hi;obtain⟨μ1,hH,hF,hE,hb⟩:=D.st;have hcase:i=l.length - 3\/i=l.length - 2:=by
    rcases Zn i (l.length - 3) with h|h
    ·rw[D.pre i h] at r2;cases r2
    ·rcases Zn i (l.length - 1) with h'|h'
     ·omega
     ·have:i=l.length - 1:=by omega
      subst this;rw[D.lv] at r2;cases r2
   rcases hcase with rfl|rfl
   ·rw[r2] at hF;simp only[ZJ,if_false] at hF;have hpb:p.base=p:=jh (by rw[T.pc];omega);refine kI hΓ hT hb hH hF r1 T.lp (by rw[hpb];exact hpall h1) ?_;intro v' w' μ' hv hH' E;refine .inr (.inl ⟨by simp[D.size],qR D.size D.shut r3 r1,by rw[QE];exact D.ds,by rw[yl];exact D.tsz,fun j hj=> ?_,?_,?_,μ',hH',?_,hE.trans E,Zz hb E.len⟩)
    ·rw[Yx (hsz D.size r1),Zb (by omega)];exact D.pre j hj
    ·rw[Yx (hsz D.size r1),Zb (by omega)];exact D.lv
    ·rw[Yx (hsz D.size r1),Zb (by omega)];exact D.ls
    ·rw[Yx (hsz D.size r1)];simp only[if_true];rw[fp,<-T.pd];obtain⟨o,ho⟩:∃o,ops[l.length - 3]? =some o:=⟨_,zo r1⟩;obtain⟨ao0,ao',t1,t2,q1,_⟩:=hT.2 _ o ho;rw[T.lp] at t2;cases t2;obtain⟨d1,d2,d3⟩:=Q2 t1;exact FR.put hF E (fun d hd=>by rw[D.tsz];grind) hv
   ·have hp3:L.getD (l.length - 3) false=true:=r3 _ T.c2;rw[hp3] at hF;simp only[if_true] at hF;have hsb:s.base=s:=XZ (by rw[T.sop];rfl);refine kI hΓ hT hb hH hF r1 T.ls (by rw[hsb];exact uv T.sop T.sar T.sg a1 a2 hsx) ?_;intro v' w' μ' hv hH' E;refine .inr (.inr ⟨by simp[D.size],qR D.size D.shut r3 r1,fun j hj=> ?_,by rw[QE];exact D.ds,by rw[yl];exact D.tsz,μ',?_,?_,?_,trivial⟩)
    ·rw[Yx (hsz D.size r1)];split
     ·rfl
     ·rcases Zn j (l.length - 3) with h|h
      ·exact D.pre j h
      ·rcases Zn j (l.length - 2) with h'|h'
       ·grind
       ·have:j=l.length - 1:=by omega
        subst this;exact D.lv
    ·grind
    ·rw[hfr',hhp',fv,T.sd];show FR w' X μ' (hps l.length) (frs (l.length - 1)) _
     grind [FR.put]
    ·rw[hhp'];exact hE.trans E
  ·obtain⟨r1,r2,r3⟩:=qY T.dE D.size D.shut hi;rw[D.all i r1] at r2;cases r2
 have inv_size:∀{L:Array Bool} {a:Act} {w:World},(DInv nt b w0 X μ0 hp ds ops l fr l.length hps vals L a w\/DX nt b w0 X μ0 hp ds ops l h1 (frs (l.length - 3)) (frs (l.length - 2)) L a w\/DF nt b w0 X μ0 hp ds ops fr' hp' L a w)->L.size=ops.size/\Shut ops L:=by
  rintro L a w (D|D|D)
  ·exact⟨D.size,D.shut⟩
  ·exact⟨D.size,D.shut⟩
  ·exact⟨D.size,D.shut⟩
 intro n
 induction n with
 |zero=>
  intro L a w D hn;obtain⟨z1,z2⟩:=inv_size D;have hr:Region.ready .any ops L=[]:=by
   cases hx:Region.ready .any ops L with
   |nil=>rfl
   |cons i r=>
    exfalso;have hi:i∈Region.ready .any ops L:=by grind
    obtain⟨r1,r2,r3⟩:=qY T.dE z1 z2 hi;simp_all
  exact⟨hr,hend L a w D hr⟩
 |succ n ih=>
  intro L a w D hn;refine⟨hend L a w D,fun i hi=> ?_⟩;obtain⟨z1,z2⟩:=inv_size D;obtain⟨r1,r2,r3⟩:=qY T.dE z1 z2 hi;refine wpOpIn_mono (fun a' w' D'=>ih _ a' w' D' ?_) (hstep L a w i D hi);have:=qV (l:=List.range ops.size) (p:=fun i=> !L.getD i false) (q:=fun j=> !(L.setIfInBounds i true).getD j false) (zx.2 r1) (fun x hx=>by
   grind [Yx]) (by grind) (by simp_all)
  omega

theorem EW{e:AExit}(R:Run Γ b l fr hp e fr' hp' m frs hps vals)(hb:b<=hp.length)(hH:HR w X μ hp)(hF:FR w X μ hp fr a.tmps)(hsz:a.tmps.size=nt):DInv nt b w X μ hp a.defers ops l fr m hps vals (Array.replicate ops.size false) a w.drew:=by
 have h0:∀i,(Array.replicate ops.size false).getD i false=false:=by
  intro i;rw[Z7,Array.getElem?_replicate]
  grind
 have hX:Xp X (fun _=>none)=X:=XX fun _=>rfl;refine⟨by simp,fun i hi=> ?_,fun i hi=> ?_,rfl,hsz,μ,fun _=>none,0,⟨Za _,fun k o hk hc=> ?_,fun k o hk hc h=>by omega,?_,?_,?_,fun s v hs=> ?_,fun k o hk hc h hL=> ?_,fun k bk h=>(by cases h),fun k k' bk h=>(by cases h)⟩,fun i ao hi hc hL k x h1 h2=>by omega⟩
 ·grind
 ·grind
 ·grind
 ·rw[R.h0,hX];exact hH.drew
 ·rw[R.h0];exact hb
 ·rw[R.h0];exact Ext.drew b
 ·rcases hs with⟨j,o,hj,_⟩|⟨_,h⟩
  ·grind
  ·rw[R.h0,hX];obtain⟨k1,k2⟩:=hF s v h;exact⟨k1,(Ext.drew (X:=X) (μ:=μ) (hp:=hp) (w:=w) 0).ar k2⟩
 grind
theorem uw(hΓ:SoundO P Γ)(hT:Tie P nt ops l)(hdraw:XS ops l=true)(hs:aops Γ b l fr hp=some (.normal,fr',hp'))(hb:b<=hp.length)(hH:HR w X μ hp)(hF:FR w X μ hp fr a.tmps)(hsz:a.tmps.size=nt)
  (hQ:∀e' a' w',Lands nt b w X μ hp a.defers .normal fr' hp' e' a' w'->Q e' a' w'):wpAnyIn (Fe ro) 0 P .any ops Q ops.size (Array.replicate ops.size false) a w.drew:=by
 obtain⟨m,frs,hps,vals,R⟩:=jg l fr hp hs;obtain⟨q,x,p,s,v,sh1,sh2,p2,y,T⟩:=EM hdraw;obtain⟨h1,k⟩:=EU (w0:=w) (X:=X) (μ0:=μ) (ds:=a.defers) hΓ hT T R hQ;refine k ops.size _ a _ (.inl ?_) (Zz (List.countP_le_length) (by simp))
 grind [EW]
theorem EX(hmix:P.follows .mixedOrders=true)(hΓ:SoundO P Γ)(hT:Tie P nt ops l)(hdraw:XS ops l=true){id:Nat}(hs:aops Γ b l fr hp=some (.normal,fr',hp'))(hb:b<=hp.length)(hH:HR w X μ hp)(hF:FR w X μ hp fr a.tmps)(hsz:a.tmps.size=nt)
  (hQ:∀e' a' w',Lands nt b w X μ hp a.defers .normal fr' hp' e' a' w'->Q e' a' w'):(Code.region id ops true).wpIn (Fe ro) 0 P Q a w:=
 wpIn_region_any hmix (uw hΓ hT hdraw hs hb hH hF hsz hQ)
theorem EY(hmix:P.follows .mixedOrders=true)(hΓ:SoundO P Γ){pi inv:List Nat}(hp0:xO ops pi inv=true)(hT:Tie P nt (yq ops pi inv) l)(hdraw:XS (yq ops pi inv) l=true){id:Nat}(hs:aops Γ b l fr hp=some (.normal,fr',hp'))(hb:b<=hp.length)(hH:HR w X μ hp)(hF:FR w X μ hp fr a.tmps)(hsz:a.tmps.size=nt)
  (hQ:∀e' a' w',Lands nt b w X μ hp a.defers .normal fr' hp' e' a' w'->Q e' a' w'):(Code.region id ops true).wpIn (Fe ro) 0 P Q a w:=
 wpIn_region_any hmix (EP hp0 ops.size (Array.replicate ops.size false) (Array.replicate ops.size false) a w.drew (by simp) (by simp) (fun i hi=>by
  obtain⟨q1,_⟩:=(qX hp0).2.2 i _ (zo hi);simp_all) (by
  grind [uw,qX]))
end
end Go.Am

/- Regions where a call may panic beside what stands in no order with it. -/
namespace Go.Am
variable{P:Program} {w:World} {X:Xc P} {μ:Nat->Option Nat} {hp:Heap}

theorem EZ{Γ:Oracle}(hΓ:SoundO P Γ){b:Nat}{o:Oper}{azs:List AArg}{fr:Fr}{a:Act}{vs:List AV}{p:PV}{hp':Heap}{K:Act->World->Prop}{Q:Exit->Act->World->Prop}{ro:Option Nat}(ht:trOp P o=some (.call,azs))
  (hF:FR w X μ hp fr a.tmps)(ha:fr.argsOf azs=some vs)(hH:HR w X μ hp)(hs:ya Γ hp vs=some (.panic p hp'))(hA:After b w X μ hp (.panic p hp) a o.dst K Q):o.wpIn (Fe ro) 0 P a w K Q:=by
 obtain⟨c,f,a1,azs',hc1,hc2,hc3,hc4,rfl⟩:=je ht;have hnd:∀cc,o.op≠.defer cc:=by
  grind
 obtain⟨v1,us,rfl,hv1,hus⟩:=yd ha;have g1:=XV hF hc3 hv1;have g2:=Xb hF hc4 hus;simp only[ya] at hs;split at hs
 ·rename_i s0 g as0 heq;simp only[List.cons.injEq] at heq;obtain⟨rfl,rfl⟩:=heq;split at hs
  ·rename_i ps hps;have hCP:=J2 _ _ _ hps g2;have hE:=(HR.empty hH);have hL:=kd _ _ _ g2 hCP.empty.lr;cases g1 with|pv _ _ _ _ hq=>
   have e1:a.eval f=.func (.func g) ([]:List Value).toArray ([]:List Value).toArray:=by
    generalize a.eval f=u at hq;cases hq;rfl
   have hrun:=jc (P:=P) (w:=w) hc1 hc2 e1;simp only[Zu,ZL] at hrun;split at hs
   ·grind
   ·rename_i q hp2 hg;cases hs;refine qK hnd hrun (hΓ.fn _ _ _ _ _ hg w _ μ _ hE hL) (fun v' w' hR=> ?_) (fun c w' hR=> ?_) (fun w' hR=>hR)
    ·obtain⟨μ',v2,h1,_⟩:=hR;cases h1
    ·obtain⟨μ',p,v',h1,rfl,h2,h3,h4⟩:=hR;cases h1;obtain⟨k1,k2⟩:=back (b:=b) hH h3;refine hA v' w' μ ?_ k1 k2;exact UZ (v:=.pv none p) rfl h4
   grind
  grind
 grind
/-! ### The run without the call -/
theorem uz(c:List Nat)(i:Nat):∀(l:List AOper) (j:Nat),(Xm c i j l).length=l.length
 |[],_=>rfl
 |o::r,j=>by simp[Xm,uz c i r (j+1)]
theorem uA(c:List Nat)(i:Nat):∀(l:List AOper) (j k:Nat),(Xm c i j l)[k]? =(l[k]?).map fun o=>if bit (c.getD (j+k) 0) i=true then nopO else o
 |[],_,k=>by simp[Xm]
 |o::r,j,k=>by
  cases k with
  |zero=>simp[Xm]
  |succ k=>
   have:=uA c i r (j+1) k
   grind [Xm]
theorem uB{c:List Nat}{l:List AOper}{i:Nat}(h:i<l.length):(YO c l i).length=l.length:=by
 grind [YO,uz]
theorem uC{c:List Nat}{l:List AOper}{i j:Nat}(h:i<l.length)(hj:j<i):(YO c l i)[j]? =l[j]? :=by
 grind [YO]
theorem E4{c:List Nat}{l:List AOper}{i:Nat}(h:i<l.length):(YO c l i)[i]? =some nopO:=by
 grind [YO]
theorem uD{c:List Nat}{l:List AOper}{i j:Nat}(h:i<l.length)(hj:i<j):(YO c l i)[j]? =(l[j]?).map fun o=>if bit (c.getD j 0) i=true then nopO else o:=by
 grind [YO,uA]
theorem uE{c:List Nat}{l:List AOper}{i j d:Nat}{o:AOper}(h:i<l.length)(hj:(YO c l i)[j]? =some o)(hd:o.dst=some d):j≠i/\l[j]? =some o:=by
 rcases Nat.lt_trichotomy j i with k|k|k
 ·grind [uC]
 ·subst k;rw[E4 h] at hj;cases hj;cases hd
 ·rw[uD h k] at hj;cases hl:l[j]? with
  |none=>grind
  |some o'=>
   rw[hl] at hj;simp only[Option.map_some,Option.some.injEq] at hj;split at hj
   ·subst hj;cases hd
   grind

theorem kJ{Γ:Oracle}{b:Nat}:∀(x y:List AOper) (fr:Fr) (hp:Heap),aops Γ b (x++y) fr hp=match aops Γ b x fr hp with
  |some (.normal,fr',hp')=>aops Γ b y fr' hp'
  |r=>r
 |[],y,fr,hp=>rfl
 |o::r,y,fr,hp=>by
  simp only[Zq,qM];cases aone Γ b o fr hp with
  |none=>rfl
  |some q=>
   cases q with
   |val v hp'=>exact kJ r y _ _
   |panic p hp'=>rfl
theorem uF{Γ:Oracle}{vs:List AV}{v:AV}{hp hp':Heap}(h:ya Γ hp vs=some (.val v hp')):xl Γ hp vs=some (.val v hp):=by
 unfold ya at h
 grind [xl]
theorem kK{o:AOper}(h:o.isCallp=true):o.op=.callp/\o.guard=none:=by
 grind [AOper.isCallp]
theorem jk{Γ:Oracle}{b:Nat}{c:List Nat}{fr':Fr}{hp':Heap}:∀(l:List AOper) (i:Nat) (fr:Fr) (hp:Heap),YX Γ b (xN c i l) fr hp=some (.normal,fr',hp')->aops Γ b l fr hp=some (.normal,fr',hp')
 |[],_,fr,hp,h=>h
 |o::r,i,fr,hp,h=>by
  simp only[xN] at h;by_cases hc:o.isCallp=true
  ·rw[Zj hc] at h;obtain⟨h1,h2⟩:=kK hc;simp only[YX] at h;simp only[aops,h2,wants];split at h
   ·cases h
   ·rename_i vs hvs;simp only[hvs,h1,aOp];split at h
    ·rename_i v hp2 hq;rw[uF hq];exact jk r (i+1) _ _ h
    ·grind
    grind
  ·rw[Zb hc] at h;simp only[YX] at h;rw[qM];unfold aone;cases hw:wants fr o.guard with
   |none=>grind
   |some x=>
    rw[hw] at h;cases x with
    |false=>exact jk r (i+1) _ _ h
    |true=>
     simp only[] at h ⊢;cases hvs:fr.argsOf o.args with
     |none=>grind
     |some vs=>
      rw[hvs] at h;simp only[] at h ⊢;cases ho:aOp Γ b o.op vs hp with
      |none=>grind
      |some q=>
       rw[ho] at h;cases q with
       |val v hpn=>exact jk r (i+1) _ _ h
       |panic p hpn=>cases h
theorem jl{Γ:Oracle}{b:Nat}{c:List Nat}{fr':Fr}{hp':Heap}{p:PV}:∀(l:List AOper) (i:Nat) (fr:Fr) (hp:Heap),YX Γ b (xN c i l) fr hp=some (.panic p,fr',hp')->∃k o fr1 hp1 vs hp2,l[k]? =some o/\o.isCallp=true/\aops Γ b (l.take k) fr hp=some (.normal,fr1,hp1)/\fr1.argsOf o.args=some vs/\ya Γ hp1 vs=some (.panic p hp2)/\∃fr3 hp3,aops Γ b (Xm c (i+k) (i+k+1) (l.drop (k+1))) fr1 hp1=some (.normal,fr3,hp3)
 |[],_,fr,hp,h=>by cases h
 |o::r,i,fr,hp,h=>by
  have up:∀(v:AV) (hpn:Heap),aone Γ b o fr hp=some (.val v hpn)->(∃k o' fr1 hp1 vs hp2,r[k]? =some o'/\o'.isCallp=true/\aops Γ b (r.take k) (fr.dst o.dst v) hpn=some (.normal,fr1,hp1)/\fr1.argsOf o'.args=some vs/\ya Γ hp1 vs=some (.panic p hp2)/\∃fr3 hp3,aops Γ b (Xm c (i+1+k) (i+1+k+1) (r.drop (k+1))) fr1 hp1=some (.normal,fr3,hp3))->∃k o' fr1 hp1 vs hp2,(o::r)[k]? =some o'/\o'.isCallp=true/\aops Γ b ((o::r).take k) fr hp=some (.normal,fr1,hp1)/\fr1.argsOf o'.args=some vs/\ya Γ hp1 vs=some (.panic p hp2)/\∃fr3 hp3,aops Γ b (Xm c (i+k) (i+k+1) ((o::r).drop (k+1))) fr1 hp1=some (.normal,fr3,hp3):=by
   rintro v hpn ho ⟨k,o',fr1,hp1,vs,hp2,h1,h2,h3,h4,h5,h6⟩;refine⟨k+1,o',fr1,hp1,vs,hp2,by grind,h2,?_,h4,h5,?_⟩
   ·grind [qM]
   grind
  simp only[xN] at h;by_cases hc:o.isCallp=true
  ·rw[Zj hc] at h;obtain⟨h1,h2⟩:=kK hc;simp only[YX] at h;split at h
   ·cases h
   ·rename_i vs hvs;split at h
    ·rename_i v hp2 hq;exact up v hp (by grind [aone,wants,aOp,uF]) (jl r (i+1) _ _ h)
    ·rename_i p' hp2 hq;split at h
     ·rename_i fr3 hp3 hl;cases h;exact⟨0,o,fr,_,vs,hp2,rfl,hc,rfl,hvs,hq,fr3,hp3,hl⟩
     grind
    grind
  ·rw[Zb hc] at h;simp only[YX] at h;split at h
   ·cases h
   ·rename_i hw;exact up _ hp (by grind [aone]) (jl r (i+1) _ _ h)
   ·rename_i hw;split at h
    ·cases h
    ·rename_i vs hvs;split at h
     ·rename_i v hpn ho;exact up v hpn (by grind [aone]) (jl r (i+1) _ _ h)
     grind
theorem Run.take{Γ:Oracle}{b:Nat}{l:List AOper}{fr fr':Fr}{hp hp':Heap}{e:AExit}{m:Nat}{frs:Nat->Fr}{hps:Nat->Heap}{vals:Nat->AV}(R:Run Γ b l fr hp e fr' hp' m frs hps vals):∀k,k<=m->aops Γ b (l.take k) fr hp=some (.normal,frs k,hps k)
 |0,_=>by rw[zu,R.f0,R.h0];rfl
 |k+1,hk=>by
  have hlt:k<l.length:=Zp hk R.le;have ho:l[k]? =some l[k]:=Ze hlt;obtain⟨s1,s2⟩:=R.step k _ hk ho;rw[Z8,ho,kJ,R.take k (by omega)];simp only[Option.toList_some,qM,s1,s2];rfl
theorem uG{o:AOper}(h:o.quiet=true):o.cls≠2/\o.cls≠3/\o.isCallh=false:=by
 grind [AOper.quiet]
section
variable{Γ:Oracle} {nt b:Nat} {w0:World} {μ0:Nat->Option Nat} {ds:List Deferred} {ops:Array Oper} {l:List AOper} {fr fr':Fr} {hp':Heap} {m:Nat} {frs:Nat->Fr} {hps:Nat->Heap} {vals:Nat->AV}
variable{Q:Exit->Act->World->Prop} {ro:Option Nat}
theorem E5{i j:Nat}(h:bit ((Yv [] ops.toList).getD i 0) j=true):j∈(clos [] ops.toList).getD i []:=
 kx ops.toList [] [] rfl (fun i j hb=>by grind [kw]) i j h

theorem E6(hΓ:SoundO P Γ)(hT:Tie P nt ops l)(hd:YL ops l=true){i0:Nat}{o0:AOper}(h0:l[i0]? =some o0)(hcp:o0.isCallp=true)(hd2:YL ops (YO (Yv [] ops.toList) l i0)=true)(hq:(YO (Yv [] ops.toList) l i0).all AOper.quiet=true)
  (R:Run Γ b (YO (Yv [] ops.toList) l i0) fr hp .normal fr' hp' m frs hps vals){vs:List AV}(hvs:(frs i0).argsOf o0.args=some vs){p:PV}{hpx:Heap}(hcall:ya Γ hp vs=some (.panic p hpx))
  (hQ:∀e' a' w',Lands nt b w0 X μ0 hp ds (.panic p) [] hp e' a' w'->Q e' a' w'):∀(n:Nat) (L:Array Bool) (a:Act) (w:World),DInv nt b w0 X μ0 hp ds ops (YO (Yv [] ops.toList) l i0) fr m hps vals L a w->L.getD i0 false=false->(List.range ops.size).countP (fun i=> !L.getD i false)<=n->wpAnyIn (Fe ro) 0 P .any ops Q n L a w:=by
 have hi0:i0<l.length:=(Zf.1 h0).1;have hi0s:i0<ops.size:=by rw[<-hT.1];grind
 obtain⟨dE,dN,dU,dL,dP⟩:=Q3 hd;obtain⟨_,dN2,dU2,dL2,dP2⟩:=Q3 hd2;generalize hl2:YO (Yv [] ops.toList) l i0=l2 at hd2 hq R dN2 dU2 dL2 dP2;have hlen:l2.length=l.length:=by grind [uB]
 have hqk:∀(k:Nat) (o:AOper),l2[k]? =some o->o.cls≠2/\o.cls≠3/\o.isCallh=false:=fun k o hk=>uG (Zr.1 hq o (Zh hk));have hm:m=l2.length:=by
  rcases R.fin with⟨f1,_⟩|⟨_,_,_,_,f3,_⟩
  ·exact f1
  grind
 have hhp:∀k,k<=m->hps k=hp:=fun k hk=>by
  have:=R.heap (i:=0) k (by omega) (fun j o _ _ hj=>by
   grind)
  rw[ZK] at this;rw[this,R.h0]
 have hend:∀(L:Array Bool) (a:Act) (w:World),DInv nt b w0 X μ0 hp ds ops l2 fr m hps vals L a w->L.getD i0 false=false->Region.ready .any ops L≠[]:=by
  intro L a w D hL hr;have:=qQ dE D.size hr i0 hi0s
  grind
 intro n
 induction n with
 |zero=>
  grind [List.countP_pos_iff]
 |succ n ih=>
  intro L a w D hL hn;refine⟨fun hr=>absurd hr (hend L a w D hL),fun i hi=> ?_⟩;obtain⟨r1,r2,r3⟩:=qP dE D.shut hi;have hsz:i<L.size:=by grind
  by_cases he:i=i0
  ·subst he;obtain⟨o,ho⟩:∃o,ops[i]? =some o:=⟨_,zo r1⟩;obtain⟨ao0,ao,t1,t2,q1,q2,q3,q4⟩:=hT.2 i o ho;rw[h0] at t2;cases t2;obtain⟨d1,d2,d3⟩:=Q2 t1;obtain⟨c1,c2⟩:=kK hcp;have hb0:o0.base=o0:=jh (by grind [AOper.cls]);have hop:ao0.op=.call:=by
    rw[hb0,c1] at q4;rcases q4 with h|⟨sh,_,h|h⟩|⟨h,_⟩|⟨_,_,h⟩|⟨_,_,h⟩
    ·grind [U0]
    ·cases h
    ·cases h
    ·exact h
    ·cases h
    grind
   have hargs:ao0.args=o0.args:=by grind
   obtain⟨μ1,pb,h,D1,_⟩:=D.st;have hX:Xp X pb=X:=XX fun k=>by
    cases hk:pb k with
    |none=>rfl
    |some bk=>
     obtain⟨_,_,⟨o',z1,z2⟩,_⟩:=D1.own k bk hk
     grind
   have hH:=D1.hr;have hslot:=D1.slot;have hext:=D1.ext;rw[hX] at hH hslot;rw[hhp h D1.hm] at hH hslot hext;have hLS:∀s u,s∈o0.uses->(frs i).look s=some u->LS l2 vals fr L h s u:=by
    intro s u hs hlook;rcases R.look i (by omega) hlook with⟨j,oj,hj,hoj,hdj,rfl⟩|⟨hnone,hfr0⟩
    ·refine .inl ⟨j,oj,?_,hoj,hdj,rfl,fun c=>absurd c (hqk j oj hoj).2.1⟩
     grind [uE,kE]
    ·refine .inr ⟨fun j oj hoj hdj=> ?_,hfr0⟩;cases hLj:L.getD j false with
     |false=>rfl
     |true=>
      exfalso;rcases Nat.lt_trichotomy j i with hji|hji|hji
      ·grind
      ·grind
      ·rw[<-hl2] at hoj;obtain⟨_,hoj'⟩:=uE hi0 hoj hdj;rcases dP j i o0 oj hji h0 hoj' with hh|hh
       ·have:=D.shut j hLj i hh
        grind
       grind [uh]
   have hF:FR w X μ1 hp ((frs i).keep o0.uses) a.tmps:=fun s u hs=>by
    obtain⟨k1,k2⟩:=qU hs
    grind
   have huse:∀s∈yj o0.args,s∈o0.uses:=fun s hs=>by
    grind [AOper.uses]
   have hvs2:((frs i).keep o0.uses).argsOf ao0.args=some vs:=by
    rw[hargs,kC (g:=frs i) fun s hs=>qT (huse s hs)]
    grind
   have hwant:Region.wanted o (yielded ops a.tmps)=true:=QF (w:=w) (X:=X) (μ:=μ1) (hp:=hp) (fr:=[]) (fun s u hs=>by grind [Fr.look]) t1 (by rw[<-q2,c2];rfl);simp only[wpOpIn,ho,hwant,if_true];rw[hop] at d3;refine EZ hΓ (b:=b) d3 hF hvs2 hH hcall fun v' w' μ' hv hH' E=>hQ _ _ _ ⟨D.ds,D.tsz,μ',hH',fun s u hs=>by grind [Fr.look],hext.trans E,⟨v',rfl,hv⟩⟩
  ·have hg:l2[i]? =l[i]? :=by
    rw[<-hl2];rcases Zn i i0 with k|k
    ·grind [uC]
    ·rw[uD hi0 (by omega)];have hb:bit ((Yv [] ops.toList).getD i 0) i0=false:=by
      grind [E5]
     grind
   refine wpOpIn_mono (fun a' w' D'=>ih _ a' w' D' ?_ ?_) (kF hΓ (fun o ho=>by
    obtain⟨ao0,ao,t1,t2,q⟩:=hT.2 i o ho
    grind) dE dN2 dU2 dL2 (by grind) R D (by grind) hi (fun j x y h1 h2 h3 _=>dP2 i j x y h1 h2 h3) fun j x y h1 h2 h3 _=>dP2 j i y x h1 h3 h2)
   ·simp_all
   ·have:=qV (l:=List.range ops.size) (p:=fun i=> !L.getD i false) (q:=fun j=> !(L.setIfInBounds i true).getD j false) (zx.2 r1) (fun x hx=>by
     grind [Yx]) (by
     grind) (by simp_all)
    omega
theorem uH{ops:Array Oper}{l:List AOper}(h:qC ops l=true):YL ops l=true/\∀i o,l[i]? =some o->o.isCallp=true->YL ops (YO (Yv [] ops.toList) l i)=true/\(YO (Yv [] ops.toList) l i).all AOper.quiet=true:=by
 grind [qC]
theorem E7(hmix:P.follows .mixedOrders=true)(hΓ:SoundO P Γ)(hT:Tie P nt ops l)(hd:qC ops l=true){id:Nat}{a:Act}{p:PV}(hs:YX Γ b (xN (Yv [] ops.toList) 0 l) fr hp=some (.panic p,fr',hp'))(hb:b<=hp.length)(hH:HR w X μ hp)(hF:FR w X μ hp fr a.tmps)(hsz:a.tmps.size=nt)
  (hQ:∀e' a' w',Lands nt b w X μ hp a.defers (.panic p) [] hp e' a' w'->Q e' a' w'):(Code.region id ops true).wpIn (Fe ro) 0 P Q a w:=by
 obtain⟨hd1,hd2⟩:=uH hd;obtain⟨k,o,fr1,hp1,vs,hp2,g1,g2,g3,g4,g5,fr3,hp3,g6⟩:=jl l 0 fr hp hs;obtain⟨k1,k2⟩:=hd2 k o g1 g2;have hk:k<l.length:=(Zf.1 g1).1;rw[ZK] at g6;have hrun:aops Γ b (YO (Yv [] ops.toList) l k) fr hp=some (.normal,fr3,hp3):=by
  unfold YO;rw[kJ,g3];exact g6
 obtain⟨m,frs,hps,vals,R⟩:=jg _ fr hp hrun;have hm:m=(YO (Yv [] ops.toList) l k).length:=by
  rcases R.fin with⟨f1,_⟩|⟨_,_,_,_,f3,_⟩
  ·exact f1
  grind
 rw[uB hk] at hm;have ht:=R.take k (by omega);have htk:(YO (Yv [] ops.toList) l k).take k=l.take k:=by
  grind [YO]
 rw[htk,g3] at ht;simp only[Option.some.injEq,Prod.mk.injEq,true_and] at ht;obtain⟨e1,e2⟩:=ht;have hhp:hps k=hp:=by
  have:=R.heap (i:=0) k (by omega) (fun j o _ _ hj=>by
   grind [uG])
  rw[ZK] at this;rw[this,R.h0]
 rw[e1] at g4;rw[e2,hhp] at g5;refine wpIn_region_any hmix (E6 (w0:=w) (X:=X) (μ0:=μ) (ds:=a.defers) hΓ hT hd1 g1 g2 k1 k2 R g4 g5 hQ ops.size _ a _ ?_ ?_ (Zz (List.countP_le_length) (by simp)))
 ·have h0:∀i,(Array.replicate ops.size false).getD i false=false:=by
   intro i;rw[Z7,Array.getElem?_replicate]
   grind
  have hX:Xp X (fun _=>none)=X:=XX fun _=>rfl;refine⟨by simp,fun i hi=> ?_,fun i hi=> ?_,rfl,hsz,μ,fun _=>none,0,⟨Za _,fun k o hk hc=> ?_,fun k o hk hc h=>by omega,?_,?_,?_,fun s v hs=> ?_,fun k o hk hc h hL=> ?_,fun k bk h=>(by cases h),fun k k' bk h=>(by cases h)⟩,fun i ao hi hc hL k x h1 h2=>by omega⟩
  ·grind
  ·grind
  ·grind
  ·rw[R.h0,hX];exact hH.drew
  ·rw[R.h0];exact hb
  ·rw[R.h0];exact Ext.drew b
  ·rcases hs with⟨j,o,hj,_⟩|⟨_,h⟩
   ·grind
   ·rw[R.h0,hX];obtain⟨k1,k2⟩:=hF s v h;exact⟨k1,(Ext.drew (X:=X) (μ:=μ) (hp:=hp) (w:=w) 0).ar k2⟩
  grind
 ·rw[Z7,Array.getElem?_replicate]
  grind
end
end Go.Am

/- Code. -/
namespace Go.Am
variable{P:Program} {w:World} {X:Xc P} {μ:Nat->Option Nat} {hp:Heap}

inductive Tr(P:Program)(nt:Nat):Code->ACode->Prop
 |skip:Tr P nt .skip .skip
 |region (id:Nat) (ops:Array Oper) (l l0:List AOper) (pan:Bool) (keep:List Nat) (h:yb P nt ops ops.toList=some l0) (hlk:Likes l l0):Tr P nt (.region id ops false) (.region pan l keep)
 |draw (id:Nat) (ops:Array Oper) (l:List AOper) (pan:Bool) (keep:List Nat) (hT:Tie P nt ops l) (hd:YL ops l=true) (hp:pan=true->yc ops l=true):Tr P nt (.region id ops true) (.region pan l keep)
 |draw2 (id:Nat) (ops:Array Oper) (l:List AOper) (keep:List Nat) (hT:Tie P nt ops l) (hd:XS ops l=true):Tr P nt (.region id ops true) (.region false l keep)
 |draw2p (id:Nat) (ops:Array Oper) (pi inv:List Nat) (l:List AOper) (keep:List Nat) (hp:xO ops pi inv=true) (hT:Tie P nt (yq ops pi inv) l) (hd:XS (yq ops pi inv) l=true):Tr P nt (.region id ops true) (.region false l keep)
 |doom (id:Nat) (ops:Array Oper) (l:List AOper) (keep:List Nat) (hT:Tie P nt ops l) (hd:qC ops l=true):Tr P nt (.region id ops true) (.doom (xN (Yv [] ops.toList) 0 l) keep)
 |settle (c:Code) (ac:ACode) (ss:List Nat) (h:Tr P nt c ac):Tr P nt c (.seq (.settle ss) ac)
 |seq (x y:Code) (a b:ACode) (hx:Tr P nt x a) (hy:Tr P nt y b):Tr P nt (.seq x y) (.seq a b)
 |cond (c:Operand) (ca:AArg) (x y:Code) (a b:ACode) (hc:Yz P 0 c=some ca) (hx:Tr P nt x a) (hy:Tr P nt y b):Tr P nt (.cond c x y) (.cond ca a b)
 |block (id:Nat) (c:Code) (a:ACode) (h:Tr P nt c a):Tr P nt (.block id c) (.block id a)
 |loop (keep:List Nat) (c:Code) (a:ACode) (h:Tr P nt c a):Tr P nt (.loop c) (.loop keep a)
 |label (id:Nat):Tr P nt (.label id) .skip
 |scope (c:Code) (a:ACode) (h:Tr P nt c a):Tr P nt (.scope c) a
 |exit (id:Nat):Tr P nt (.exit id) (.exit id)
 |ret:Tr P nt .ret .ret

theorem qZ{b:Frame}{a:Act}{k:List Item}{cs:List Frame}{c:Code}:step P (lone (b.atR a (.code (.scope c)::k)) cs w)=.next (lone (b.atR a (.code c::.inScope c::k)) cs w):=
 step_lone_go (by simp[stepG,stepG.exec,Frame.atR])
theorem E8{b:Frame}{a:Act}{k:List Item}{cs:List Frame}{c:Code}:step P (lone (b.atR a (.inScope c::k)) cs w)=.next (lone (b.atR a k) cs w):=
 step_lone_go (by simp[stepG,stepG.exec,Frame.atR])
theorem E9{F:Fence}{n:Nat}{Q:Exit->Act->World->Prop}{a:Act}{c:Code}(h:c.wpIn F n P (Exit.noGoto Q) a w):(Code.scope c).wpIn F n P Q a w:=by
 intro b k cs hro hb hr;have h0:(lone (b.atR a (.code (.scope c)::k)) cs w).fenced P F:=fenced_calm hb hr rfl;obtain⟨e,a₁,w₁,hq,harr⟩:=h b (.inScope c::k) cs hro hb hr;have hx:∀id,exitTo id (.inScope c::k)=exitTo id k:=fun id=>by simp[exitTo]
 cases e with
 |normal=>exact⟨.normal,a₁,w₁,hq,.head h0 qZ (StepsIn.trans harr (.one (fenced_calm hb hr rfl) E8))⟩
 |exit id=>
  exact⟨_,a₁,w₁,hq,.of_steps (.one h0 qZ) ⟨fun k' hk=>harr.1 k' (by grind),fun hr' hk=>harr.2 hr' (by grind)⟩⟩
 |goto l=>exact hq.elim
 |ret=>exact⟨_,a₁,w₁,hq,.of_steps (.one h0 qZ) harr⟩
 |panic ch=>exact⟨_,a₁,w₁,hq,.of_steps (.one h0 qZ) harr⟩
 |outgrown=>exact⟨_,a₁,w₁,hq,.of_steps (.one h0 qZ) harr⟩

def Own(b:Nat)(hp:Heap):Prop:=∀(i:Nat) (o:AObj),i<b->hp[i]? =some o->∀q∈o.refs,q<b

theorem Own.ext{b:Nat}{μ':Nat->Option Nat}{hp':Heap}{w':World}(h:Own b hp)(hb:b<=hp.length)(E:Ext b X μ hp w μ' hp' w'):Own b hp':=by
 intro i o hi ho q hq;have hlt:i<hp.length:=by omega
 cases hx:hp[i] with
 |box s u=>
  obtain⟨v',h1,h2,h3⟩:=E.box i s u (by grind);rw[h1] at ho;cases ho;exact h i (.box s u) hi (by grind) q (h3 hi q hq)
 |arr s es fz=>
  obtain⟨es',fz',h1,_⟩:=E.arr i s es fz (by grind);rw[h1] at ho;cases ho;cases hq
 |map s es=>
  obtain⟨es',h1,_⟩:=E.map i s es (by grind);rw[h1] at ho;cases ho;cases hq
 |loop f ps env bz=>
  obtain⟨bz',h1,_⟩:=E.loop i f ps env bz (by grind);rw[h1] at ho;cases ho;exact h i (.loop f ps env bz) hi (by grind) q hq
 |arv s es=>
  obtain⟨n,h1,_,_,h4⟩:=E.arv i s es (by grind);rcases XT h1 with⟨es',e,_⟩|⟨es',e,_⟩
  ·rw[e] at ho;cases ho;exact h i (.arv s es) hi (by grind) q (h4 es' e hi q hq)
  ·rw[e] at ho;cases ho;cases hq

theorem HR.own(h:HR w X μ hp):Own hp.length hp:=by
 intro i o hi ho q hq;cases o with
 |box sh v=>
  obtain⟨b,val,t,_,_,_,_,h5⟩:=h.box i sh v ho;exact h5.refs_lt q hq
 |arr s es fz=>cases hq
 |map s es=>cases hq
 |loop f ps env bz=>
  obtain⟨l,rc,_,_,_,_,_,_,h7⟩:=h.loop i f ps env bz ho;obtain⟨x,hx,hqx⟩:=dX hq;exact(h7 x hx).2.refs_lt q hqx
 |arv s es=>
  obtain⟨_,b,cs,t,vals,_,_,h3,h4,_⟩:=h.arv i s es ho;obtain⟨a,ha,hqa⟩:=(xR _ _).1 hq;obtain⟨k,hk⟩:=ZO.1 ha;have hkl:k<vals.length:=by grind
  exact(h4 k a vals[k] hk (Ze hkl)).2.refs_lt q hqa

def kL(P:Program)(nt:Nat)(Γ:Oracle)(Λ:Yk)(c:Code)(ac:ACode):Prop:=
 ∀(b:Nat) (st:St) (e:AExit) (st':St),aexec Γ Λ b ac st=some (e,st')->∀(w:World) (X:Xc P) (μ:Nat->Option Nat) (a:Act) (Q:Exit->Act->World->Prop) (ro:Option Nat),b<=st.hp.length->Own b st.hp->HR w X μ st.hp->FR w X μ st.hp st.fr a.tmps->a.tmps.size=nt->
  (∀e' a' w',Lands nt b w X μ st.hp a.defers e st'.fr st'.hp e' a' w'->Q e' a' w')->c.wpIn (Fe ro) 0 P Q a w

def xw(P:Program)(nt:Nat)(Λ:Yk)(c:Code)(ac:ACode):Prop:=
 ∀(b:Nat) (keep:List Nat) (st:St) (e:AExit) (st':St),Λ b st.hp.length keep ac st=some (e,st')->∀(w:World) (X:Xc P) (μ:Nat->Option Nat) (a:Act) (Q:Exit->Act->World->Prop) (ro:Option Nat),b<=st.hp.length->Own b st.hp->HR w X μ st.hp->FR w X μ st.hp st.fr a.tmps->a.tmps.size=nt->
  (∀e' a' w',Lands nt b w X μ st.hp a.defers e st'.fr st'.hp e' a' w'->Q e' a' w')->(Code.loop c).wpIn (Fe ro) 0 P Q a w

theorem Lands.keep{nt b:Nat}{ds:List Deferred}{e:AExit}{fr:Fr}{hp':Heap}{e':Exit}{a:Act}{w':World}(h:Lands nt b w X μ hp ds e fr hp' e' a w')(ks:List Nat):Lands nt b w X μ hp ds e (fr.keep ks) hp' e' a w':=by
 obtain⟨h1,h2,μ',h3,h4,h5,h6⟩:=h;exact⟨h1,h2,μ',h3,h4.keep ks,h5,h6⟩

theorem jm{nt:Nat}{Γ:Oracle}{Λ:Yk}(hmix:P.follows .mixedOrders=true)(hΓ:SoundO P Γ)(hΛ:∀c ac,Tr P nt c ac->xw P nt Λ c ac){c:Code}{ac:ACode}(h:Tr P nt c ac):kL P nt Γ Λ c ac:=by
 induction h with
 |skip=>
  intro b st e st' hs w X μ a Q ro hb hO hH hF hsz hQ;cases hs;exact wpIn_skip (hQ _ _ _ ⟨rfl,hsz,μ,hH,hF,Ext.refl _ _ _ _ _,trivial⟩)
 |label id=>
  intro b st e st' hs w X μ a Q ro hb hO hH hF hsz hQ;cases hs;exact wpIn_label (hQ _ _ _ ⟨rfl,hsz,μ,hH,hF,Ext.refl _ _ _ _ _,trivial⟩)
 |scope c ac _ ih=>
  intro b st e st' hs w X μ a Q ro hb hO hH hF hsz hQ;apply E9;refine ih b st e st' hs w X μ a _ ro hb hO hH hF hsz fun e' a' w' hL=> ?_;have hq:=hQ e' a' w' hL;obtain⟨_,_,μ',_,_,_,h6⟩:=hL;cases e' with
  |goto l=>cases e <;> exact h6.elim
  |_=>exact hq
 |exit id=>
  intro b st e st' hs w X μ a Q ro hb hO hH hF hsz hQ;cases hs;exact wpIn_exit (hQ _ _ _ ⟨rfl,hsz,μ,hH,hF,Ext.refl _ _ _ _ _,rfl⟩)
 |ret=>
  intro b st e st' hs w X μ a Q ro hb hO hH hF hsz hQ;cases hs;exact wpIn_ret (hQ _ _ _ ⟨rfl,hsz,μ,hH,hF,Ext.refl _ _ _ _ _,trivial⟩)
 |region id ops l l0 pan keep ht hlk=>
  intro b st e st' hs w X μ a Q ro hb hO hH hF hsz hQ;simp only[aexec] at hs;split at hs
  ·rename_i fr hp2 hr;cases hs;exact U2 hΓ ht hlk hr hb hH hF hsz fun e' a' w' hL=>hQ e' a' w' (hL.keep keep)
  ·rename_i v fr hp2 hr;split at hs
   ·cases hs;exact U2 hΓ ht hlk hr hb hH hF hsz fun e' a' w' hL=>hQ e' a' w' (hL.keep keep)
   grind
  grind
 |draw id ops l pan keep hT hd hpan=>
  intro b st e st' hs w X μ a Q ro hb hO hH hF hsz hQ;simp only[aexec] at hs;split at hs
  ·rename_i fr hp2 hr;cases hs;exact kG hmix hΓ hT hd hr (fun⟨p,hp⟩=>by cases hp) hb hH hF hsz fun e' a' w' hL=>hQ e' a' w' (hL.keep keep)
  ·rename_i v fr hp2 hr;split at hs
   ·rename_i hp;cases hs;exact kG hmix hΓ hT hd hr (fun _=>hpan hp) hb hH hF hsz fun e' a' w' hL=>hQ e' a' w' (hL.keep keep)
   grind
  grind
 |draw2 id ops l keep hT hd=>
  intro b st e st' hs w X μ a Q ro hb hO hH hF hsz hQ;simp only[aexec] at hs;split at hs
  ·rename_i fr hp2 hr;cases hs;exact EX hmix hΓ hT hd hr hb hH hF hsz fun e' a' w' hL=>hQ e' a' w' (hL.keep keep)
  ·grind
  grind
 |draw2p id ops pi inv l keep hp hT hd=>
  intro b st e st' hs w X μ a Q ro hb hO hH hF hsz hQ;simp only[aexec] at hs;split at hs
  ·rename_i fr hp2 hr;cases hs;exact EY hmix hΓ hp hT hd hr hb hH hF hsz fun e' a' w' hL=>hQ e' a' w' (hL.keep keep)
  ·grind
  grind
 |doom id ops l keep hT hd=>
  intro b st e st' hs w X μ a Q ro hb hO hH hF hsz hQ;simp only[aexec] at hs;split at hs
  ·rename_i fr hp2 hr;cases hs;exact kG hmix hΓ hT (uH hd).1 (jk _ _ _ _ hr) (fun⟨p,hp⟩=>by cases hp) hb hH hF hsz fun e' a' w' hL=>hQ e' a' w' (hL.keep keep)
  ·grind [E7]
  grind
 |settle c ac ss _ ih=>
  intro b st e st' hs w X μ a Q ro hb hO hH hF hsz hQ;simp only[aexec] at hs;cases hset:settle ss st with
  |none=>grind
  |some st1=>
   rw[hset] at hs;simp only[] at hs;obtain⟨k1,k2,k3⟩:=U4 b ss st st1 hset hH hF;refine ih b st1 e st' hs w X μ a Q ro (Zz hb k3.len) (hO.ext hb k3) k1 k2 hsz fun e' a' w' hL=>hQ e' a' w' ?_;obtain⟨h1,h2,μ',h3,h4,h5,h6⟩:=hL;exact⟨h1,h2,μ',h3,h4,k3.trans h5,h6⟩
 |seq x y ax ay _ _ ihx ihy=>
  intro b st e st' hs w X μ a Q ro hb hO hH hF hsz hQ;simp only[aexec] at hs;apply wpIn_seq;cases h1:aexec Γ Λ b ax st with
  |none=>grind
  |some r=>
   obtain⟨e1,st1⟩:=r;rw[h1] at hs;refine ihx b st e1 st1 h1 w X μ a _ ro hb hO hH hF hsz fun e' a' w' hL=> ?_;obtain⟨g1,g2,μ',g3,g4,g5,g6⟩:=hL;cases e1 with
   |normal=>
    simp only[] at hs;cases e' <;> simp only[Yo] at g6
    refine ihy b st1 e st' hs w' X μ' a' Q ro (Zz hb g5.len) (hO.ext hb g5) g3 g4 g2 fun e2 a2 w2 hL2=>hQ e2 a2 w2 ?_;obtain⟨k1,k2,μ2,k3,k4,k5,k6⟩:=hL2;exact⟨k1.trans g1,k2,μ2,k3,k4,g5.trans k5,k6⟩
   |exit i=>
    cases hs;cases e' <;> simp only[Yo] at g6
    subst g6;exact hQ _ _ _ ⟨g1,g2,μ',g3,g4,g5,rfl⟩
   |ret=>
    cases hs;cases e' <;> simp only[Yo] at g6
    exact hQ _ _ _ ⟨g1,g2,μ',g3,g4,g5,trivial⟩
   |panic p=>
    cases hs;cases e' <;> simp only[Yo] at g6
    exact hQ _ _ _ ⟨g1,g2,μ',g3,g4,g5,g6⟩
 |cond c ca x y ax ay hc _ _ ihx ihy=>
  intro b st e st' hs w X μ a Q ro hb hO hH hF hsz hQ;simp only[aexec] at hs;split at hs
  ·rename_i s0 ha;exact wpIn_cond_true (XV hF hc ha).bool_inv (ihx b st e st' hs w X μ a Q ro hb hO hH hF hsz hQ)
  ·rename_i s0 ha;exact wpIn_cond_false (XV hF hc ha).bool_inv (ihy b st e st' hs w X μ a Q ro hb hO hH hF hsz hQ)
  grind
 |block id c ac _ ih=>
  intro b st e st' hs w X μ a Q ro hb hO hH hF hsz hQ;simp only[aexec] at hs;apply wpIn_block;cases h1:aexec Γ Λ b ac st with
  |none=>grind
  |some r=>
   obtain⟨e1,st1⟩:=r;rw[h1] at hs;refine ih b st e1 st1 h1 w X μ a _ ro hb hO hH hF hsz fun e' a' w' hL=> ?_;obtain⟨g1,g2,μ',g3,g4,g5,g6⟩:=hL;cases e1 with
   |normal=>
    cases hs;cases e' <;> simp only[Yo] at g6
    exact hQ _ _ _ ⟨g1,g2,μ',g3,g4,g5,trivial⟩
   |exit i=>
    cases e' <;> simp only[Yo] at g6
    subst g6;simp only[] at hs;split at hs
    ·rename_i hid;cases hs;simp only[Exit.inBlock,hid,if_true];exact hQ _ _ _ ⟨g1,g2,μ',g3,g4,g5,trivial⟩
    ·rename_i hid;cases hs;simp only[Exit.inBlock,hid,if_false];exact hQ _ _ _ ⟨g1,g2,μ',g3,g4,g5,rfl⟩
   |ret=>
    cases hs;cases e' <;> simp only[Yo] at g6
    exact hQ _ _ _ ⟨g1,g2,μ',g3,g4,g5,trivial⟩
   |panic p=>
    cases hs;cases e' <;> simp only[Yo] at g6
    exact hQ _ _ _ ⟨g1,g2,μ',g3,g4,g5,g6⟩
 |loop keep c ac hc _=>
  intro b st e st' hs w X μ a Q ro hb hO hH hF hsz hQ;exact hΛ c ac hc b keep ⟨st.fr.keep keep,st.hp⟩ e st' hs w X μ a Q ro hb hO hH (hF.keep keep) hsz hQ
end Go.Am

/- Loops. -/
namespace Go.Am
variable{P:Program} {w:World} {X:Xc P} {μ:Nat->Option Nat} {hp:Heap}

theorem ed{fr:Fr}{s:Nat}{u:AV}(h:fr.look s=some u):(s,u)∈fr:=by
 induction fr with
 |nil=>grind [Fr.look]
 |cons x r ih=>
  grind [Fr.look]

theorem eg{b n:Nat}{w0:World}{μ0:Nat->Option Nat}{hp0:Heap}{fr:Fr}{t:Array Value}(h0:hp0.length=n)(hb:b<=n)(hO:Own b hp)(hH:HR w X μ hp)(hF:FR w X μ hp fr t)(E:Ext b X μ0 hp0 w0 μ hp w):
  HR w X μ (collect n b fr hp)/\FR w X μ (collect n b fr hp) fr t/\Ext b X μ0 hp0 w0 μ (collect n b fr hp) w/\Own b (collect n b fr hp):=by
 unfold collect;split
 ·rename_i hc;simp only[Zk,Zr] at hc;obtain⟨c1,c2⟩:=hc;refine⟨hH.take fun i o hi ho q hq=> ?_,fun s u hs=> ?_,E.take (by omega),fun i o hi ho q hq=>hO i o hi (QG ho).2 q hq⟩
  ·rcases Zn i b with hib|hib
   ·have:=hO i o hib ho q hq;omega
   ·have hm:o∈(hp.take n).drop b:=by
     have:((hp.take n).drop b)[i - b]? =some o:=by
      grind
     grind
    grind
  ·obtain⟨k1,k2⟩:=hF s u hs;refine⟨k1,k2.take fun q hq=> ?_⟩;have:=c1 _ (ed hs)
   grind
 grind

def Going(nt:Nat)(Γ:Oracle)(b n:Nat)(keep:List Nat)(ac:ACode)(X:Xc P)(w0:World)(μ0:Nat->Option Nat)(hp0:Heap)(ds:List Deferred)(e:AExit)(st':St)(k:Nat)(a:Act)(w:World):Prop:=
 ∃st μ,aloop Γ k b n keep ac st=some (e,st')/\Own b st.hp/\HR w X μ st.hp/\FR w X μ st.hp st.fr a.tmps/\a.tmps.size=nt/\a.defers=ds/\Ext b X μ0 hp0 w0 μ st.hp w

theorem eh(p:Nat->Prop)(h:∃j,p j):∃j,p j/\∀i,p i->j<=i:=by
 obtain⟨n,hn⟩:=h
 induction n using Nat.strongRecOn with
 |_ n ih=>
  grind

open Classical in
theorem eo{nt:Nat}{Γ:Oracle}(hmix:P.follows .mixedOrders=true)(hΓ:SoundO P Γ):∀(k:Nat) (c:Code) (ac:ACode),Tr P nt c ac->xw P nt (aloop Γ k) c ac:=by
 intro k
 induction k using Nat.strongRecOn with
 |_ k ih=>
  intro c ac hT b keep st e st' hs w0 X μ0 a0 Q ro hb hO hH hF hsz hQ
  let G:=Going nt Γ b st.hp.length keep ac X w0 μ0 st.hp a0.defers e st'
  let least:Act->World->Nat:=fun a w=>if h:∃j,G j a w then(eh (fun j=>G j a w) h).choose else 0
  have hleast:∀a w j,G j a w->G (least a w) a w/\least a w<=j:=by
   intro a w j hj;have hx:∃j,G j a w:=⟨j,hj⟩
   grind
  refine wpIn_loop (fun a w=>∃j,j<=k/\G j a w) least ⟨k,Zc _,st,μ0,hs,hO,hH,hF,hsz,rfl,Ext.refl _ _ _ _ _⟩ ?_;intro a w ⟨j0,hj0,hG0⟩;obtain⟨hG,hle⟩:=hleast a w j0 hG0;generalize least a w=j at hG hle;obtain⟨st1,μ1,hl,g1,g2,g3,g4,g5,g6⟩:=hG;cases j with
  |zero=>grind [aloop]
  |succ j=>
   have hbl:b<=st1.hp.length:=Zz hb g6.len;have hcode:kL P nt Γ (aloop Γ j) c ac:=jm hmix hΓ (fun c ac h=>ih j (by omega) c ac h) hT;simp only[aloop] at hl;cases h1:aexec Γ (aloop Γ j) b ac st1 with
   |none=>grind
   |some r=>
    obtain⟨e1,st2⟩:=r;rw[h1] at hl;refine hcode b st1 e1 st2 h1 w X μ1 a _ ro hbl g1 g2 g3 g4 fun e' a' w' hL=> ?_;obtain⟨k1,k2,μ2,k3,k4,k5,k6⟩:=hL;have done:∀{e'},Yo w' X μ2 st2.hp e1 e'->e1≠.normal->e=e1/\st'=st2->Q e' a' w':=by
     rintro e' hx _ ⟨rfl,rfl⟩;exact hQ _ _ _ ⟨k1.trans g5,k2,μ2,k3,k4,g6.trans k5,hx⟩
    cases e1 with
    |normal=>
     cases e' <;> simp only[Yo] at k6
     simp only[] at hl;obtain⟨c1,c2,c3,c4⟩:=eg (n:=st.hp.length) rfl hb (g1.ext hbl k5) k3 (k4.keep keep) (g6.trans k5);have hG':G j a' w':=⟨⟨st2.fr.keep keep,collect st.hp.length b (st2.fr.keep keep) st2.hp⟩,μ2,hl,c4,c1,c2,k2,k1.trans g5,c3⟩;exact⟨⟨j,by omega,hG'⟩,Nat.lt_of_le_of_lt (hleast a' w' j hG').2 (zn j)⟩
    |exit i=>
     cases hl;cases e' <;> simp only[Yo] at k6
     exact done (e':=.exit _) k6 (by simp) ⟨rfl,rfl⟩
    |ret=>
     cases hl;cases e' <;> simp only[Yo] at k6
     exact done (e':=.ret) trivial (by simp) ⟨rfl,rfl⟩
    |panic p=>
     cases hl;cases e' <;> simp only[Yo] at k6
     exact done (e':=.panic _) k6 (by simp) ⟨rfl,rfl⟩
end Go.Am

/- Functions and what their calls come to. -/
namespace Go.Am
variable{P:Program} {w:World} {X:Xc P} {μ:Nat->Option Nat} {hp:Heap}

theorem jo{nt:Nat}{ops:Array Oper}:∀{r:List Oper} {l:List AOper},yb P nt ops r=some l->l.length=r.length/\∀(i:Nat) (o:Oper),r[i]? =some o->∃ao,xm P nt ops o=some ao/\l[i]? =some ao
 |[],l,h=>by cases h;grind
 |o::r,l,h=>by
  simp only[yb] at h;split at h
  ·cases h
  ·rename_i a ha;split at h
   ·rename_i l' hl;cases h;obtain⟨h1,h2⟩:=jo hl
    grind
   grind

theorem X1{nt:Nat}{ops:Array Oper}{o:Oper}{ao:AOper}(h:xm P nt ops o=some ao):ao.op.exact=true:=by
 obtain⟨_,_,d3⟩:=Q2 h;cases he:ao.op.exact with
 |true=>rfl
 |false=>
  unfold AOp.exact at he
  grind [Ez,EA,EB,U1,EC,ED,EE]
theorem kM{sure:Bool}{c:List Nat}{l0:List AOper}:∀(r:List AOper) (n:Nat),(qz sure c l0 n r).length=r.length/\∀(i:Nat) (o:AOper),r[i]? =some o->∃b qs,(qz sure c l0 n r)[i]? =some (mOne sure b qs o)
 |[],n=>⟨rfl,fun i o h=>by grind⟩
 |x::r,n=>by
  obtain⟨h1,h2⟩:=kM (sure:=sure) (c:=c) (l0:=l0) r (n+1)
  grind [qz]
theorem kN{sure b:Bool}{qs:List AArg}{o:AOper}(h:o.op.exact=true):(mOne sure b qs o).dst=o.dst/\(mOne sure b qs o).guard=o.guard/\(mOne sure b qs o).base.args=o.args/\(mOne sure b qs o).base.op.alike o.op:=by
 have same:(o.dst=o.dst/\o.guard=o.guard/\o.base.args=o.args/\o.base.op.alike o.op):=by
  rw[XZ h];exact⟨rfl,rfl,rfl,.inl rfl⟩
 unfold mOne;split
 ·rename_i hop;split
  ·split
   ·grind
   ·refine⟨rfl,rfl,?_,?_⟩
    ·show(qs++o.args).drop qs.length=o.args
     grind
    ·rw[hop];exact .inl rfl
  ·split
   ·refine⟨rfl,rfl,rfl,?_⟩;rw[hop];exact .inr (.inr (.inl ⟨rfl,.inr rfl⟩))
   grind
 ·rename_i sh hop;split
  ·refine⟨rfl,rfl,?_,?_⟩
   ·show(qs++o.args).drop qs.length=o.args
    grind
   ·rw[hop];exact .inl rfl
  ·split
   ·refine⟨rfl,rfl,rfl,?_⟩;rw[hop];exact .inr (.inl ⟨sh,rfl,.inl rfl⟩)
   grind
 ·rename_i sh p v hop ha;split
  ·grind
  ·refine⟨rfl,rfl,?_,?_⟩
   ·rw[ha];rfl
   ·rw[hop];exact .inl rfl
 grind
theorem ep{sure b:Bool}{qs:List AArg}{o:AOper}(h:o.op.exact=true):(mTwo sure b qs o).dst=o.dst/\(mTwo sure b qs o).guard=o.guard/\(mTwo sure b qs o).base.args=o.args/\(mTwo sure b qs o).base.op.alike o.op:=by
 have same:(o.dst=o.dst/\o.guard=o.guard/\o.base.args=o.args/\o.base.op.alike o.op):=by
  rw[XZ h];exact⟨rfl,rfl,rfl,.inl rfl⟩
 unfold mTwo;split
 ·rename_i sh hop;split
  ·grind
  ·refine⟨rfl,rfl,?_,?_⟩
   ·show(qs++o.args).drop qs.length=o.args
    grind
   ·rw[hop];exact .inl rfl
 ·rename_i sh hop;split
  ·split
   ·refine⟨rfl,rfl,rfl,?_⟩;rw[hop];exact .inr (.inr (.inr (.inr ⟨sh,rfl,rfl⟩)))
   grind
  ·refine⟨rfl,rfl,?_,?_⟩
   ·show(qs++o.args).drop qs.length=o.args
    grind
   ·rw[hop];exact .inl rfl
 grind [kN]
theorem uI{sure:Bool}{c:List Nat}{l0:List AOper}:∀(r:List AOper) (n:Nat),(qA sure c l0 n r).length=r.length/\∀(i:Nat) (o:AOper),r[i]? =some o->∃b qs,(qA sure c l0 n r)[i]? =some (mTwo sure b qs o)
 |[],n=>⟨rfl,fun i o h=>by grind⟩
 |x::r,n=>by
  obtain⟨h1,h2⟩:=uI (sure:=sure) (c:=c) (l0:=l0) r (n+1)
  grind [qA]
theorem jp{l:List AOper}{o:AOper}(h:o.op.exact=true):(o.toP P l).dst=o.dst/\(o.toP P l).guard=o.guard/\(o.toP P l).base.args=o.args/\(o.toP P l).base.op.alike o.op:=by
 have same:(o.dst=o.dst/\o.guard=o.guard/\o.base.args=o.args/\o.base.op.alike o.op):=by
  rw[XZ h];exact⟨rfl,rfl,rfl,.inl rfl⟩
 unfold AOper.toP;split
 ·rename_i hop;split
  ·grind
  ·refine⟨rfl,rfl,rfl,?_⟩;rw[hop];exact .inr (.inr (.inl ⟨rfl,.inl rfl⟩))
 ·rename_i sh hop;refine⟨rfl,rfl,rfl,?_⟩;rw[hop];exact .inr (.inl ⟨sh,rfl,.inl rfl⟩)
 ·rename_i sh hop;split
  ·refine⟨rfl,rfl,rfl,?_⟩;rw[hop];exact .inr (.inr (.inr (.inl ⟨sh,rfl,rfl⟩)))
  grind
 grind

theorem kO{nt:Nat}{ops:Array Oper}{l:List AOper}(h:Tie P nt ops l):Tie P nt ops (xM l):=by
 unfold xM;split
 ·rename_i s v e1 e2;split
  ·rename_i q x sh p y f1 f2 f3;refine⟨by simp[h.1],fun i o ho=> ?_⟩;obtain⟨ao0,ao,t1,t2,q1,q2,q3,q4⟩:=h.2 i o ho;by_cases hi:l.length - 1=i
   ·subst hi;rw[e2] at t2;cases t2;have hb:v.base=v:=XZ (by rw[f2];rfl);refine⟨ao0,_,t1,ZC (Zf.1 e2).1,q1,q2,?_,?_⟩
    ·rw[hb,f3] at q3;exact q3
    ·rw[hb,f2] at q4;exact q4
   grind
  grind
 grind
theorem uJ{c:List Nat}{l0:List AOper}:∀(r:List AOper) (n:Nat),(qB c l0 n r).length=r.length/\∀(i:Nat) (o:AOper),r[i]? =some o->∃b,(qB c l0 n r)[i]? =some (gOne b o)
 |[],n=>⟨rfl,fun i o h=>by grind⟩
 |x::r,n=>by
  obtain⟨h1,h2⟩:=uJ (c:=c) (l0:=l0) r (n+1)
  grind [qB]
theorem er{b:Bool}{o:AOper}(h:o.op.exact=true):(gOne b o).dst=o.dst/\(gOne b o).guard=o.guard/\(gOne b o).base.args=o.args/\(gOne b o).base.op.alike o.op:=by
 have same:(o.dst=o.dst/\o.guard=o.guard/\o.base.args=o.args/\o.base.op.alike o.op):=by
  rw[XZ h];exact⟨rfl,rfl,rfl,.inl rfl⟩
 unfold gOne;split
 ·rename_i hop;split
  ·refine⟨rfl,rfl,rfl,?_⟩;rw[hop];exact .inl rfl
  grind
 grind
theorem eu{nt:Nat}{ops:Array Oper}{l:List AOper}(hl:yb P nt ops ops.toList=some l)(sure:Bool):Tie P nt ops (toM sure ops l):=by
 obtain⟨h1,h2⟩:=jo hl;obtain⟨g1,g2⟩:=kM (sure:=sure) (c:=Yv [] ops.toList) (l0:=l) l 0;refine⟨by grind [toM],fun i o ho=> ?_⟩;obtain⟨ao,a1,a2⟩:=h2 i o (by grind);obtain⟨b,qs,g3⟩:=g2 i ao a2;obtain⟨k1,k2,k3,k4⟩:=kN (sure:=sure) (b:=b) (qs:=qs) (X1 a1);exact⟨ao,_,a1,g3,k1,k2,k3,k4⟩
theorem ew{hm:Bool}{nt id:Nat}{ops:Array Oper}{draw:Bool}{ac:ACode}(h:Ky P hm nt ops draw=some ac):Tr P nt (.region id ops draw) ac:=by
 unfold Ky at h;split at h
 ·cases h
 ·rename_i l hl;obtain⟨h1,h2⟩:=jo hl;have tieM:∀sure,Tie P nt ops (toM sure ops l):=by
   intro sure;obtain⟨g1,g2⟩:=kM (sure:=sure) (c:=Yv [] ops.toList) (l0:=l) l 0;refine⟨by grind [toM],fun i o ho=> ?_⟩;obtain⟨ao,a1,a2⟩:=h2 i o (by grind);obtain⟨b,qs,g3⟩:=g2 i ao a2;obtain⟨k1,k2,k3,k4⟩:=kN (sure:=sure) (b:=b) (qs:=qs) (X1 a1);exact⟨ao,_,a1,g3,k1,k2,k3,k4⟩
  have tieG:Tie P nt ops (toG ops l):=by
   obtain⟨g1,g2⟩:=uJ (c:=Yv [] ops.toList) (l0:=l) l 0;refine⟨by grind [toG],fun i o ho=> ?_⟩;obtain⟨ao,a1,a2⟩:=h2 i o (by grind);obtain⟨b,g3⟩:=g2 i ao a2;obtain⟨k1,k2,k3,k4⟩:=er (b:=b) (X1 a1);exact⟨ao,_,a1,g3,k1,k2,k3,k4⟩
  by_cases hd:draw=false
  ·rw[Zj hd] at h;cases h;subst hd;refine .region id ops _ l true [] hl ?_
   grind [Likes.map,dQ,Likes.refl]
  ·rw[Zb hd] at h;have hd':draw=true:=by
    grind
   subst hd';by_cases hkp:l.any (Ku P)=true
   ·rw[Zj hkp] at h;unfold vW at h;have tieP:Tie P nt ops (l.map (AOper.toP P l)):=by
     refine⟨by grind,fun i o ho=> ?_⟩;obtain⟨ao,a1,a2⟩:=h2 i o (by grind)
     grind [jp,X1]
    split at h
    ·rename_i hok;cases h;exact .settle _ _ _ (.draw id ops _ _ [] tieP hok (fun h=>h))
    ·split at h
     ·rename_i hok;cases h;exact .draw id ops _ _ [] (tieM true) hok (fun h=>h)
     grind
   rw[Zb hkp] at h;split at h
   ·rename_i hok;cases h;exact .draw id ops _ _ [] tieG hok.2.2.2.1 (fun h=>h)
   split at h
   ·rename_i hok;cases h;refine .draw id ops l _ [] ⟨by grind,fun i o ho=> ?_⟩ hok (fun h=>h);obtain⟨ao,a1,a2⟩:=h2 i o (by grind);refine⟨ao,ao,a1,a2,rfl,rfl,?_,?_⟩
    ·rw[XZ (X1 a1)]
    ·rw[XZ (X1 a1)];exact .inl rfl
   ·split at h
    ·rename_i hok;cases h;exact .draw id ops _ _ [] (tieM true) hok.2 (fun h=>h)
    ·split at h
     ·rename_i hok;cases h;exact .draw id ops _ _ [] tieG hok.2 (fun h=>h)
     split at h
     ·rename_i hok;cases h;exact .draw id ops _ _ [] (tieM false) hok.2 (fun h=>h)
     split at h
     ·rename_i hok;cases h;refine .settle _ _ _ (.doom id ops _ [] ⟨by grind,fun i o ho=> ?_⟩ hok.2.2);obtain⟨ao,a1,a2⟩:=h2 i o (by grind)
      grind [jp,X1]
     split at h
     ·rename_i hok;cases h;refine .settle _ _ _ (.draw id ops _ _ [] ⟨by grind,fun i o ho=> ?_⟩ hok (fun h=>h));obtain⟨ao,a1,a2⟩:=h2 i o (by grind)
      grind [jp,X1]
     ·split at h
      ·rename_i hok;cases h;exact .draw id ops _ _ [] (tieM false) hok (fun h=>h)
      ·split at h
       ·rename_i hok;cases h;exact .draw2 id ops _ [] (kO (tieM true)) hok.2
       ·split at h
        ·rename_i hok;cases h;refine .settle _ _ _ (.draw2 id ops _ [] (kO ⟨by grind,fun i o ho=> ?_⟩) hok);obtain⟨ao,a1,a2⟩:=h2 i o (by grind)
         grind [jp,X1]
        grind

theorem ex{hm:Bool}{nt id:Nat}{ops:Array Oper}{draw:Bool}{ac:ACode}(h:Kz P hm nt ops draw=some ac):Tr P nt (.region id ops draw) ac:=by
 unfold Kz at h;split at h
 ·grind [ew]
 ·by_cases hd:draw=false
  ·grind
  rw[Zb hd] at h;have hd':draw=true:=by
   grind
  subst hd';split at h
  ·cases h
  ·rename_i l hl;obtain⟨h1,h2⟩:=jo hl;have tieN:∀sure,Tie P nt ops (toN sure ops l):=by
    intro sure;obtain⟨g1,g2⟩:=uI (sure:=sure) (c:=Yv [] ops.toList) (l0:=l) l 0;refine⟨by grind [toN],fun i o ho=> ?_⟩;obtain⟨ao,a1,a2⟩:=h2 i o (by grind);obtain⟨b,qs,g3⟩:=g2 i ao a2;obtain⟨k1,k2,k3,k4⟩:=ep (sure:=sure) (b:=b) (qs:=qs) (X1 a1);exact⟨ao,_,a1,g3,k1,k2,k3,k4⟩
   split at h
   ·rename_i hok;cases h;exact .draw id ops _ _ [] (tieN true) hok (fun h=>h)
   ·split at h
    ·rename_i hok;cases h;exact .draw id ops _ _ [] (tieN false) hok (fun h=>h)
    ·split at h
     ·unfold vX at h;simp only[] at h;split at h
      ·rename_i hpm;split at h
       ·rename_i l' hl';split at h
        ·rename_i hok;cases h;exact .settle _ _ _ (.draw2p id ops _ _ _ [] hpm (kO (eu hl' true)) hok)
        grind
       grind
      grind
     grind
theorem ey{hm:Bool}{nt id:Nat}{ops:Array Oper}{draw:Bool}{ac:ACode}(h:KA P hm nt ops draw=some ac):Tr P nt (.region id ops draw) ac:=by
 unfold KA at h;split at h
 ·rename_i ac0 h0;have k:=ex (id:=id) h0;split at h
  ·split at h
   ·cases h;exact .settle _ _ _ k
   grind
  grind
 grind
theorem uK{hm:Bool}{nt:Nat}:∀(c:Code) (ac:ACode),yA P hm nt c=some ac->Tr P nt c ac:=by
 intro c
 induction c with
 |region id ops draw=>intro ac h;exact ey h
 |skip=>intro ac h;cases h;exact .skip
 |label id=>intro ac h;cases h;exact .label id
 |scope c ih=>intro ac h;exact .scope _ _ (ih _ h)
 |exit id=>intro ac h;cases h;exact .exit id
 |ret=>intro ac h;cases h;exact .ret
 |seq x y ihx ihy=>
  intro ac h;simp only[yA] at h;split at h
  ·cases h;exact .seq _ _ _ _ (ihx _ ‹_›) (ihy _ ‹_›)
  grind
 |cond c x y ihx ihy=>
  intro ac h;simp only[yA] at h;split at h
  ·cases h;exact .cond _ _ _ _ _ _ ‹_› (ihx _ ‹_›) (ihy _ ‹_›)
  grind
 |block id c ih=>
  intro ac h;simp only[yA] at h;split at h
  ·cases h;exact .block _ _ _ (ih _ ‹_›)
  grind
 |loop c ih=>
  intro ac h;simp only[yA] at h;split at h
  ·cases h;exact .loop _ _ _ (ih _ ‹_›)
  grind
 |_=>intro ac h;cases h

theorem kQ{nt:Nat}{c:Code}{ac:ACode}(h:Tr P nt c ac):∀out env ret,Tr P nt c (annot ac out env ret):=by
 induction h with
 |skip=>intros;exact .skip
 |region id ops l l0 pan keep h hlk=>intros;exact .region id ops l l0 pan _ h hlk
 |draw id ops l pan keep hT hd hp=>intros;exact .draw id ops l pan _ hT hd hp
 |draw2 id ops l keep hT hd=>intros;exact .draw2 id ops l _ hT hd
 |draw2p id ops pi inv l keep hp hT hd=>intros;exact .draw2p id ops pi inv l _ hp hT hd
 |doom id ops l keep hT hd=>intros;exact .doom id ops l _ hT hd
 |settle c ac ss _ ih=>intros;exact .settle _ _ _ (ih _ _ _)
 |seq x y a b _ _ ihx ihy=>intros;exact .seq _ _ _ _ (ihx _ _ _) (ihy _ _ _)
 |cond c ca x y a b hc _ _ ihx ihy=>intros;exact .cond _ _ _ _ _ _ hc (ihx _ _ _) (ihy _ _ _)
 |block id c a _ ih=>intros;exact .block _ _ _ (ih _ _ _)
 |loop keep c a _ ih=>intros;exact .loop _ _ _ (ih _ _ _)
 |label id=>intros;exact .label id
 |scope c a _ ih=>intros;exact .scope _ _ (ih _ _ _)
 |exit id=>intros;exact .exit id
 |ret=>intros;exact .ret

theorem ez{sh:Sh}{a v:AV}{x:Value}(h:aload sh hp a=some v)(ha:AR w X μ hp a x):∃ad,x=.pointer (some ad):=by
 unfold aload at h;split at h
 ·cases ha;grind
 ·cases ha;grind
 ·cases ha;grind
 ·cases ha;grind
 grind

def jq(t:Array Value):ResultVar->Sem Value
 | .tmp s=>pure (t.getD s undef)
 | .cell a ty=>do loadVar ty (<-asAddr (t.getD a undef))
theorem eA(fn:Func)(t:Array Value):results fn t=(do let vs <-fn.results.mapM (jq t);pure (if h:vs.size=1 then vs[0] else .tuple vs)):=by
 unfold results
 congr 1
theorem uL{st:St}:∀{r:List RSlot} {l:List AV},yz st r=some l->l.length=r.length
 |[],l,h=>by cases h;rfl
 |s::r,l,h=>by
  simp only[yz] at h;split at h
  ·cases h
  ·split at h
   ·cases h;simp[uL ‹_›]
   grind

theorem kR{st:St}{t:Array Value}(hH:HR w X μ st.hp)(hF:FR w X μ st.hp st.fr t):∀(rs:List ResultVar) (l:List AV),Qy P rs=true->yz st (yr P rs)=some l->
  ∃vs,(rs.mapM (jq t)).run P w=.ok vs w/\LR w X μ st.hp l vs
 |[],l,_,h=>by cases h;exact⟨[],rfl,.nil⟩
 | .tmp s::r,l,hok,h=>by
  simp only[yr,yz] at h;split at h
  ·cases h
  ·rename_i v hv;split at h
   ·rename_i l' hl;cases h;obtain⟨vs,k1,k2⟩:=kR hH hF r l' hok hl;refine⟨t.getD s undef::vs,?_,.cons (hF s v hv).2 k2⟩
    grind [jq,Sem.run_bind,Sem.run_pure,Result.andThen_ok]
   grind
 | .cell s ty::r,l,hok,h=>by
  simp only[Qy,Zk] at hok;simp only[yr,yz] at h;split at h
  ·cases h
  ·rename_i v hv;split at h
   ·rename_i l' hl;cases h;obtain⟨vs,k1,k2⟩:=kR hH hF r l' hok.2 hl;simp only[Yn] at hv;split at hv
    ·rename_i p hp;have ha:=(hF s p hp).2;obtain⟨ad,had⟩:=ez hv ha;obtain⟨u,u1,u2⟩:=Um (P:=P) hH hok.1 (.cons ha .nil) (show XN (shOf P ty) st.hp [p]=some v from hv);rw[had] at u1;have u3:(loadVar ty ad).run P w=.ok u w:=by
      simp only[Instr.loadAt,Instr.sureAddr,Sem.run_bind,Sem.run_pure,Result.andThen_ok] at u1;cases hr:(loadVar ty ad).run P w with
      |ok q w'=>simp_all
      |halt q w'=>simp_all
     refine⟨u::vs,?_,.cons u2 k2⟩
     grind [jq,Sem.run_bind,asAddr,Sem.run_pure,Result.andThen_ok]
    grind
   grind

theorem kS{fn:Func}{st:St}{t:Array Value}{v:AV}(hH:HR w X μ st.hp)(hF:FR w X μ st.hp st.fr t)(hok:Qy P fn.results.toList=true)(h:Yr st (yr P fn.results.toList)=some v):
  ∃u,(results fn t).run P w=.ok u w/\AR w X μ st.hp v u:=by
 have gen:∀l,yz st (yr P fn.results.toList)=some l->∃vs:List Value,(results fn t).run P w=.ok (if h:vs.toArray.size=1 then vs.toArray[0] else .tuple vs.toArray) w/\LR w X μ st.hp l vs:=by
  grind [kR,eA,Array.mapM_eq_mapM_toList,Sem.run_bind,Sem.run_map,Result.andThen_ok,Sem.run_pure]
 unfold Yr at h;split at h
 ·rename_i s hs;obtain⟨vs,k1,k2⟩:=gen [v] (by grind [yz]);cases k2 with|cons k2 k3=>
  cases k3
  grind
 ·rename_i hne;split at h
  ·rename_i l hl;cases h;obtain⟨vs,k1,k2⟩:=gen l hl;have hsz:¬vs.toArray.size=1:=by
    intro h1;have h2:=uL hl;have h3:=k2.length;have h4:(yr P fn.results.toList).length=1:=by grind
    match hx:yr P fn.results.toList,h4 with
    |[s],_=>grind
   rw[dif_neg hsz] at k1;exact⟨_,k1,.tuple _ vs k2.length fun i a u ha hu=>k2.get i a u ha hu⟩
  grind
end Go.Am
