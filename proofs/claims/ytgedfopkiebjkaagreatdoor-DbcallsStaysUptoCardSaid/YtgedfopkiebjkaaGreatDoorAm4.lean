/- What is proved: the abstract machine says true of the model (part 4). No conditions beside those that each theorem names. -/
import Derived.Test.YtgedfopkiebjkaaGreatDoorAm3
import Derived.Lib.Bytealg
import Derived.ProofKit
import Derived.OpenShut
import Derived.JoinedCond
import Derived.Test.YtgedfopkiebjkaaGreatDoorAm2
import Derived.WalkKit
set_option linter.unusedSimpArgs false
set_option linter.unusedVariables false
/- Blocks that are no part of the heap's relation; the record of a loop over a function. -/
namespace Go.Am
variable{P:Program} {w:World} {X:Xc P} {μ:Nat->Option Nat} {hp:Heap}

structure Touch(l:Nat)(w w':World):Prop where
 not:∀cs t fr,w.heap[l]?≠some (.cells cs t fr)
 old:∀b,b≠l->w'.heap[b]? =w.heap[b]?
 size:w'.heap.size=w.heap.size
 os:w'.os=w.os
 tape:w'.tape=w.tape
 output:w'.output=w.output
theorem Touch.put{l:Nat}{o:Obj}(h:∀cs t fr,w.heap[l]?≠some (.cells cs t fr)):Touch l w (w.putObj l o):=
 ⟨h,fun b hb=>World.putObj_heap_other hb,World.putObj_size,rfl,rfl,rfl⟩
section
variable{l:Nat} {w':World} (T:Touch l w w')
include T
theorem Touch.cells{b:Nat}{cs:Array Value}{t:TypeId}{fr:Nat × Nat}(h:w.heap[b]? =some (.cells cs t fr)):w'.heap[b]? =some (.cells cs t fr):=by
 rw[T.old b (by rintro rfl;exact T.not _ _ _ h)];exact h
theorem Touch.pr{I:Nat->Prop}{p:PV}{v:Value}(h:PR w I p v):PR w' I p v:=h.mono fun b cs t fr hI hb=>⟨hI,T.cells hb⟩
theorem Touch.ar{a:AV}{v:Value}(h:AR w X μ hp a v):AR w' X μ hp a v:=by
 induction h with
 |undef v h=>exact .undef v h
 |pv sh p v hs h=>exact .pv sh p v hs (T.pr h)
 |agg l vs hl hs _ ih=>exact .agg l vs hl hs ih
 |tsl sh es a h=>exact .tsl sh es a (T.pr h)
 |sl sh r ver off len a cap es fz ho hv hlc ha hc=>
  refine .sl sh r ver off len a cap es fz ho hv hlc ha fun e=> ?_;obtain⟨c1,c2⟩:=hc e;refine⟨c1,?_⟩;rcases c2 with c2|⟨b,cs,t,c2,c3,c4,c5⟩
  ·grind
  ·exact .inr ⟨b,cs,t,c2,T.cells c3,c4,c5⟩
 |ptr r off b sh v ho hb=>exact .ptr r off b sh v ho hb
 |eptr sh r ver i off a es fz ho hv hc=>exact .eptr sh r ver i off a es fz ho hv hc
 |iptr sh p off b o cs t fr v hI hb hp hs hc=>exact .iptr sh p off b o cs t fr v hI (T.cells hb) (T.pr hp) hs hc
 |map r b sh es ho hb=>exact .map r b sh es ho hb
 |func fn first captured fs cs hf hc _ _ ih ih'=>exact .func fn first captured fs cs hf hc ih ih'
 |iface t a v _ ih=>exact .iface t a v ih
 |tuple l vs hl _ ih=>exact .tuple l vs hl ih
 |yield r l f ps env bz ho hb=>exact .yield r l f ps env bz ho hb
 |slv sh r ver off len a cap n ho hv hlc ha hc=>
  refine .slv sh r ver off len a cap n ho hv hlc ha fun e=> ?_;obtain⟨c1,b,cs,t,c2,c3,c4,c5⟩:=hc e;exact⟨c1,b,cs,t,c2,T.cells c3,c4,c5⟩
 |epv sh r ver i off a n ho hv hc=>exact .epv sh r ver i off a n ho hv hc
 |nilv sh=>exact .nilv sh
theorem Touch.hr(hm:∀i,i<hp.length->μ i≠some l)(h:HR w X μ hp):HR w' X μ hp where
 inj:=h.inj
 out i b hi hb:=by rw[T.size];exact h.out i b hi hb
 xlt b hb:=by rw[T.size];exact h.xlt b hb
 box i sh v ho:=by
  obtain⟨b,val,t,h1,h2,h3,h4,h5⟩:=h.box i sh v ho;exact⟨b,val,t,h1,T.cells h2,h3,h4,T.ar h5⟩
 arr i sh es fz ho:=by
  obtain⟨h0,h1⟩:=h.arr i sh es fz ho;refine⟨h0,?_⟩;rcases h1 with h1|⟨b,cs,t,vals,h1,h2,h3,h4,h5⟩
  ·grind
  ·exact .inr ⟨b,cs,t,vals,h1,T.cells h2,h3,fun k p v hk hv=>⟨(h4 k p v hk hv).1,T.pr (h4 k p v hk hv).2⟩,h5⟩
 map i sh es ho:=by
  have hi:=(Zf.1 ho).1;obtain⟨b,ents,clock,h1,h2,h3⟩:=h.map i sh es ho;exact⟨b,ents,clock,h1,by rw[T.old b (by grind)];exact h2,h3.mono T.pr⟩
 loop i f ps env bz ho:=by
  have hi:=(Zf.1 ho).1;obtain⟨b,rc,h1,h2,h3,h4,h5,h6,h7⟩:=h.loop i f ps env bz ho;exact⟨b,rc,h1,by rw[T.old b (by grind)];exact h2,h3,h4,h5,h6,fun x hx=>⟨(h7 x hx).1,T.ar (h7 x hx).2⟩⟩
 arv i sh es ho:=by
  obtain⟨h0,b,cs,t,vals,h1,h2,h3,h4,h5⟩:=h.arv i sh es ho;exact⟨h0,b,cs,t,vals,h1,T.cells h2,h3,fun k p v hk hv=>⟨(h4 k p v hk hv).1,T.ar (h4 k p v hk hv).2⟩,h5⟩
 tab:=h.tab.mono T.pr
theorem Touch.ext{b0:Nat}{Y:Xc P}{μ0:Nat->Option Nat}{hp0:Heap}{w0:World}(hl:w0.heap.size<=l)(E:Ext b0 Y μ0 hp0 w0 μ hp w):Ext b0 Y μ0 hp0 w0 μ hp w':={ E with
 os:=T.os.trans E.os
 tape:=T.tape.trans E.tape
 output:=T.output.trans E.output
 size:=by rw[T.size];exact E.size
 blk:=fun b hb hi=>by rw[T.old b (by omega)];exact E.blk b hb hi
 shape:=fun b cs t fr h=>by
  have:=yt h;rw[T.old b (by omega)];exact E.shape b cs t fr h }
end

theorem uM{Y:Xc P}{b:Nat}(hx:∀b,Y b->X b)(h:Im X μ hp b):Im Y μ hp b:=⟨fun hy=>h.1 (hx b hy),h.2⟩
theorem PR.less{Y:Xc P}(hx:∀b,Y b->X b){p:PV}{v:Value}(h:PR w (Im X μ hp) p v):PR w (Im Y μ hp) p v:=h.mono fun _ _ _ _ hI hb=>⟨uM hx hI,hb⟩
theorem AR.less{Y:Xc P}(hx:∀b,Y b->X b){a:AV}{v:Value}(h:AR w X μ hp a v):AR w Y μ hp a v:=by
 induction h with
 |undef v h=>exact .undef v h
 |pv sh p v hs h=>exact .pv sh p v hs (h.less hx)
 |agg l vs hl hs _ ih=>exact .agg l vs hl hs ih
 |tsl sh es a h=>exact .tsl sh es a (h.less hx)
 |sl sh r ver off len a cap es fz ho hv hlc ha hc=>exact .sl sh r ver off len a cap es fz ho hv hlc ha hc
 |ptr r off b sh v ho hb=>exact .ptr r off b sh v ho hb
 |eptr sh r ver i off a es fz ho hv hc=>exact .eptr sh r ver i off a es fz ho hv hc
 |iptr sh p off b o cs t fr v hI hb hp hs hc=>exact .iptr sh p off b o cs t fr v (uM hx hI) hb (hp.less hx) hs hc
 |map r b sh es ho hb=>exact .map r b sh es ho hb
 |func fn first captured fs cs hf hc _ _ ih ih'=>exact .func fn first captured fs cs hf hc ih ih'
 |iface t a v _ ih=>exact .iface t a v ih
 |tuple l vs hl _ ih=>exact .tuple l vs hl ih
 |yield r l f ps env bz ho hb=>exact .yield r l f ps env bz ho hb
 |slv sh r ver off len a cap n ho hv hlc ha hc=>exact .slv sh r ver off len a cap n ho hv hlc ha hc
 |epv sh r ver i off a n ho hv hc=>exact .epv sh r ver i off a n ho hv hc
 |nilv sh=>exact .nilv sh
theorem HR.less{Y:Xc P}(hx:∀b,Y b->X b)(h:HR w X μ hp):HR w Y μ hp where
 inj:=h.inj
 out i b hi hb:=⟨fun hy=>(h.out i b hi hb).1 (hx b hy),(h.out i b hi hb).2⟩
 xlt b hb:=h.xlt b (hx b hb)
 box i sh v ho:=by
  obtain⟨b,val,t,h1,h2,h3,h4,h5⟩:=h.box i sh v ho;exact⟨b,val,t,h1,h2,h3,h4,h5.less hx⟩
 arr i sh es fz ho:=by
  obtain⟨h0,h1⟩:=h.arr i sh es fz ho;refine⟨h0,?_⟩;rcases h1 with h1|⟨b,cs,t,vals,h1,h2,h3,h4,h5⟩
  ·grind
  ·exact .inr ⟨b,cs,t,vals,h1,h2,h3,fun k p v hk hv=>⟨(h4 k p v hk hv).1,(h4 k p v hk hv).2.less hx⟩,h5⟩
 map i sh es ho:=by
  obtain⟨b,ents,clock,h1,h2,h3⟩:=h.map i sh es ho;exact⟨b,ents,clock,h1,h2,h3.mono fun h=>h.less hx⟩
 loop i f ps env bz ho:=by
  obtain⟨b,rc,h1,h2,h3,h4,h5,h6,h7⟩:=h.loop i f ps env bz ho;exact⟨b,rc,h1,h2,h3,h4,h5,h6,fun x hx'=>⟨(h7 x hx').1,(h7 x hx').2.less hx⟩⟩
 arv i sh es ho:=by
  obtain⟨h0,b,cs,t,vals,h1,h2,h3,h4,h5⟩:=h.arv i sh es ho;exact⟨h0,b,cs,t,vals,h1,h2,h3,fun k p v hk hv=>⟨(h4 k p v hk hv).1,(h4 k p v hk hv).2.less hx⟩,h5⟩
 tab:=h.tab.mono fun h=>h.less hx

end Go.Am

/- Bodies in pieces: loops over functions and deferred calls between pieces of code. -/
namespace Go.Am
variable{P:Program} {w:World} {X:Xc P} {μ:Nat->Option Nat} {hp:Heap}

/-! ### One code after the other -/
section
variable{F:Fence} {n:Nat}
def XE(F:Fence)(n:Nat)(P:Program):List Code->(Exit->Act->World->Prop)->Act->World->Prop
 |[],Q=>Q .normal
 |c::r,Q=>c.wpIn F n P (Exit.then (XE F n P r Q) Q)
theorem uN{K K':Act->World->Prop}{Q Q':Exit->Act->World->Prop}(hk:∀a w,K a w->K' a w)(hq:∀e a w,Q e a w->Q' e a w):∀e a w,Exit.then K Q e a w->Exit.then K' Q' e a w:=by
 intro e a w h;cases e <;> first|exact hk _ _ h|exact hq _ _ _ h
theorem uO{Q Q':Exit->Act->World->Prop}(hq:∀e a w,Q e a w->Q' e a w):∀(l:List Code) (a:Act) (w:World),XE F n P l Q a w->XE F n P l Q' a w
 |[],a,w,h=>hq _ _ _ h
 |c::r,a,w,h=>wpIn_mono h (uN (fun a w=>uO hq r a w) hq)
theorem kT{Q:Exit->Act->World->Prop}{y:List Code}:∀(x:List Code) (a:Act) (w:World),XE F n P (x++y) Q a w->XE F n P x (Exit.then (XE F n P y Q) Q) a w
 |[],a,w,h=>h
 |c::r,a,w,h=>wpIn_mono h fun e a w he=>by
  cases e <;> first|exact kT r a w he|exact he
theorem uP:∀(c:Code) {Q:Exit->Act->World->Prop} {a:Act} {w:World},XE F n P (yk c) Q a w->c.wpIn F n P Q a w:=by
 intro c
 induction c with
 |seq x y ihx ihy=>
  intro Q a w h;apply wpIn_seq;exact wpIn_mono (ihx (kT _ _ _ h)) (uN (fun a w h=>ihy h) fun _ _ _ h=>h)
 |_=>
  intro Q a w h;exact wpIn_mono h fun e a w he=>by cases e <;> exact he
theorem eB(c:Code):yk c≠[]:=by
 induction c with
 |seq x y ihx ihy=>simp[yk,ihx]
 |_=>simp[yk]
theorem uQ:∀(b c:Code),c∈yk b->∀x∈Y0 c,x∈Y0 b:=by
 intro b
 induction b with
 |seq x y ihx ihy=>
  grind [yk,Y0]
 |_=>
  intro c hc z hz;simp only[yk,List.mem_singleton] at hc;subst hc;exact hz

theorem eC{o:Oper}{a:Act}{w:World}{K K':Act->World->Prop}{Q:Exit->Act->World->Prop}(h:o.wpIn F n P a w K (Exit.then K' Q)):o.wpIn F n P a w K Q:=by
 unfold Oper.wpIn at*;refine⟨h.1,?_⟩;have h:=h.2;generalize (o.semAt F.round a.eval).run P w=r at*;cases r with
 |ok x w'=>
  cases x <;> simp only[Oper.uponIn] at h ⊢ <;>
   first
    |exact h
    |exact⟨h.1,CallsIn.mono h.2 (fun e w'' he=>by cases e <;> exact he)⟩
    |exact⟨h.1,RoundIn.mono h.2 (fun e w'' he=>by cases e <;> exact he)⟩
 |halt x w'=>cases x <;> simp only[Oper.uponIn] at h ⊢ <;> exact h
theorem jr{ops:Array Oper}{Q:Exit->Act->World->Prop}{l2:List Nat}:∀(l1:List Nat) (a:Act) (w:World),wpOpsIn F n P ops (Exit.then (wpOpsIn F n P ops Q l2) Q) l1 a w->wpOpsIn F n P ops Q (l1++l2) a w
 |[],a,w,h=>h
 |i::r,a,w,h=>by
  simp only[wpOpsIn,Zq] at h ⊢;split
  ·rename_i ho;rw[ho] at h;exact jr r a w h
  ·rename_i o ho;rw[ho] at h;simp only[] at h;split
   ·rename_i hw;rw[Zj hw] at h;exact eC (Oper.wpIn_mono (fun a w=>jr r a w) h)
   ·rename_i hw;rw[Zb hw] at h;exact⟨h.1,jr r _ _ h.2⟩
end

/-! ### Deferred calls -/
inductive DOk(w0 w:World)(X:Xc P)(μ:Nat->Option Nat)(hp:Heap):List AV->List Deferred->Prop
 |nil:DOk w0 w X μ hp [] []
 |mark (D:Nat) (ds:List AV) (dd:List Deferred) (hX:X D) (h0:w0.heap.size<=D) (hD:w.heap[D]? =some (.deferred (some []))) (hn:∀d∈dd,d.target≠.collected D) (h:DOk w0 w X μ hp ds dd):DOk w0 w X μ hp ds ({ target:=.collected D,args:= #[] }::dd)
 |fn (g:FuncId) (first captured:List AV) (fs cs:List Value) (ds:List AV) (dd:List Deferred) (hf:LR w X μ hp first fs) (hc:LR w X μ hp captured cs) (h:DOk w0 w X μ hp ds dd):
   DOk w0 w X μ hp (.func (.func g) first captured::ds) ({ target:=.fn (.func g) cs.toArray,args:=fs.toArray }::dd)
theorem LR.map{w':World}{X':Xc P}{μ':Nat->Option Nat}{hp':Heap}{l:List AV}{vs:List Value}(hv:∀a∈l,∀v,AR w X μ hp a v->AR w' X' μ' hp' a v)(h:LR w X μ hp l vs):LR w' X' μ' hp' l vs:=by
 induction h with
 |nil=>exact .nil
 |cons h _ ih=>exact .cons (hv _ ZG _ h) (ih fun a ha=>hv a (Zw _ ha))
theorem DOk.map{w0 w':World}{X':Xc P}{μ':Nat->Option Nat}{hp':Heap}{ds:List AV}{dd:List Deferred}(hv:∀a∈ds,∀v,AR w X μ hp a v->AR w' X' μ' hp' a v)
  (hm:∀D,{ target:=.collected D,args:= #[] }∈dd->X D->w.heap[D]? =some (.deferred (some []))->X' D/\w'.heap[D]? =some (.deferred (some [])))(h:DOk w0 w X μ hp ds dd):DOk w0 w' X' μ' hp' ds dd:=by
 induction h with
 |nil=>exact .nil
 |mark D ds dd hX h0 hD hn _ ih=>
  obtain⟨k1,k2⟩:=hm D ZG hX hD;exact .mark D ds dd k1 h0 k2 hn (ih hv fun D hD=>hm D (Zw _ hD))
 |fn g first captured fs cs ds dd hf hc _ ih=>
  have one:∀{l:List AV} {vs:List Value},LR w X μ hp l vs->(∀a∈l,∀v,AR w X μ hp a v->AR w' X' μ' hp' a v)->LR w' X' μ' hp' l vs:=fun h hv=>h.map hv;have parts:AR w' X' μ' hp' (.func (.func g) first captured) (.func (.func g) fs.toArray cs.toArray):=hv _ ZG _ (.func _ _ _ fs cs hf.length hc.length (fun i a v=>hf.get i a v) (fun i a v=>hc.get i a v));have sp:LR w' X' μ' hp' first fs/\LR w' X' μ' hp' captured cs:=by
   generalize hu:Value.func (.func g) fs.toArray cs.toArray=u at parts;cases parts with|func _ _ _ fs' cs' hf' hc' h1 h2=>
   grind [LR.of]
  exact .fn g first captured fs cs ds dd sp.1 sp.2 (ih (fun a ha=>hv a (Zw _ ha)) fun D hD=>hm D (Zw _ hD))
theorem DOk.ext{w0 w':World}{b:Nat}{Y:Xc P}{μ':Nat->Option Nat}{hp':Heap}{ds:List AV}{dd:List Deferred}(hH:HR w X μ hp)(E:Ext b Y μ hp w μ' hp' w')(h:DOk w0 w X μ hp ds dd):DOk w0 w' X μ' hp' ds dd:=
 h.map (fun a _ v ha=>(E.cast (Z:=X)).ar ha) fun D _ hX hD=>⟨hX,by rw[E.blk D (yt hD) fun i hl e=>(hH.out i D (yV hl) e).1 hX];exact hD⟩

inductive TrP(P:Program)(body:Code)(nt self:Nat):List Code->ACode->List (ATop × ACode)->Prop
 |nil:TrP P body nt self [] .skip []
 |code (c:Code) (r:List Code) (a x:ACode) (more:List (ATop × ACode)) (hc:Tr P nt c a) (h:TrP P body nt self r x more):TrP P body nt self (c::r) (.seq a x) more
 |range (c:Code) (r:List Code) (f:Operand) (ps:Array Tmp) (azs bd:Code) (fa:AArg) (env:List Nat) (x:ACode) (more:List (ATop × ACode)) (hc:c=.rangeFunc f ps azs bd\/∃id,c=.block id (.rangeFunc f ps azs bd)) (hf:Yz P 0 f=some fa) (hl:(ps,azs,bd)∈Y0 body)
   (h:TrP P body nt self r x more):TrP P body nt self (c::r) .skip ((.range self fa ps.toList env,x)::more)
 |dfr (id:Nat) (ops:Array Oper) (r:List Code) (o:Oper) (ca:Call) (s:Nat) (l:List AOper) (pan:Bool) (keep:List Nat) (x:ACode) (more:List (ATop × ACode)) (ho:ops.toList.getLast? =some o) (h1:o.op=.defer ca) (h2:o.guard=none) (h3:o.dst=none) (h4:ca.callee=.value (.tmp s)) (h5:ca.args.toList=[])
   (hl:yb P nt ops ops.toList.dropLast=some l) (h:TrP P body nt self r x more):TrP P body nt self (.region id ops false::r) (.region pan l keep) ((.dfr s,x)::more)

theorem eD{c:Code}{ops:Array Oper}{s:Nat}(h:KB c=some (ops,s)):∃id o ca,c=.region id ops false/\ops.toList.getLast? =some o/\o.op=.defer ca/\o.guard=none/\o.dst=none/\ca.callee=.value (.tmp s)/\ca.args.toList=[]:=by
 unfold KB at h;split at h
 ·rename_i id ops0;split at h
  ·rename_i o ho;split at h
   ·rename_i ca h1 h2 h3;split at h
    ·simp_all
    grind
   grind
  grind
 grind

theorem kU{body:Code}{hm:Bool}{nt self:Nat}:∀(cs:List Code) (x:ACode) (more:List (ATop × ACode)),(∀c∈cs,∀z∈Y0 c,z∈Y0 body)->qE P hm nt self cs=some (x,more)->TrP P body nt self cs x more
 |[],x,more,_,h=>by cases h;exact .nil
 |c::r,x,more,hl,h=>by
  simp only[qE] at h;split at h
  ·cases h
  ·rename_i x1 more1 hr;have ih:=kU r x1 more1 (fun c hc=>hl c (Zw _ hc)) hr;have hlc:=hl c ZG;split at h
   ·rename_i c1 hc;split at h
    ·rename_i a ha;cases h;have hcc:c1=c:=by
      unfold JU at hc
      grind
     subst hcc;exact .code _ _ _ _ _ (uK _ _ ha) ih
    grind
   ·rename_i f ps azs bd hc;split at h
    ·rename_i fa hfa;cases h;unfold JU at hc;split at hc
     ·cases hc;exact .range _ _ _ _ _ _ _ _ _ _ (.inl rfl) hfa (hlc _ (by simp[Y0])) ih
     ·cases hc;exact .range _ _ _ _ _ _ _ _ _ _ (.inr ⟨_,rfl⟩) hfa (hlc _ (by simp[Y0])) ih
     grind
    grind
   ·rename_i ops s hc;split at h
    ·rename_i l hlo;cases h;unfold JU at hc;split at hc
     ·cases hc
     ·cases hc
     ·split at hc
      ·rename_i ops' s' hsd;cases hc;obtain⟨id,o,ca,rfl,g1,g2,g3,g4,g5,g6⟩:=eD hsd;exact .dfr _ _ _ _ _ _ _ _ _ _ _ g1 g2 g3 g4 g5 g6 hlo ih
      grind
    grind

theorem eF(ret:List Nat)(rounds:List ARound)(a x:ACode)(more:List (ATop × ACode)):∃l,(XD ret rounds (.seq a x) more).1=.seq (annot a l [] ret) (XD ret rounds x more).1/\(XD ret rounds (.seq a x) more).2.1=(XD ret rounds x more).2.1:=by
 cases more with
 |nil=>exact⟨_,rfl,rfl⟩
 |cons y r=>
  obtain⟨op,c2⟩:=y;simp only[XD,annot]
  grind
theorem eG{body:Code}{nt self:Nat}{cs:List Code}{x:ACode}{more:List (ATop × ACode)}(ret:List Nat)(rounds:List ARound)(h:TrP P body nt self cs x more):TrP P body nt self cs (XD ret rounds x more).1 (XD ret rounds x more).2.1:=by
 induction h with
 |nil=>exact .nil
 |code c r a x more hc _ ih=>
  obtain⟨l,h1,h2⟩:=eF ret rounds a x more;rw[h1,h2];exact .code _ _ _ _ _ (kQ hc _ _ _) ih
 |range c r f ps azs bd fa env x more hc hf hl _ ih=>
  simp only[XD,annot];exact .range _ _ _ _ _ _ _ _ _ _ hc hf hl ih
 |dfr id ops r o ca s l pan keep x more h0 h1 h2 h3 h4 h5 hl _ ih=>
  simp only[XD,annot];exact .dfr _ _ _ _ _ _ _ _ _ _ _ h0 h1 h2 h3 h4 h5 hl ih
theorem eH{body:Code}{nt self:Nat}{cs:List Code}{x:ACode}{more:List (ATop × ACode)}(h:TrP P body nt self cs x more)(hm:more=[])(out:List Nat)(env:List (Nat × List Nat))(ret:List Nat):TrP P body nt self cs (annot x out env ret) []:=by
 induction h with
 |nil=>exact .nil
 |code c r a x more hc _ ih=>subst hm;exact .code _ _ _ _ _ (kQ hc _ _ _) (ih rfl)
 |range=>cases hm
 |dfr=>cases hm

def eI(nt:Nat)(w0:World)(X0:Xc P)(μ0:Nat->Option Nat)(hp0:Heap)(e:AExit)(st:St)(ds:List AV)(e':Exit)(a:Act)(w':World):Prop:=
 a.tmps.size=nt/\∃(X:Xc P) (μ':Nat->Option Nat),(∀b,X0 b->X b)/\HR w' X μ' st.hp/\FR w' X μ' st.hp st.fr a.tmps/\Ext hp0.length X0 μ0 hp0 w0 μ' st.hp w'/\Yo w' X μ' st.hp e e'/\DOk w0 w' X μ' st.hp ds a.defers
structure Mid(nt:Nat)(w0:World)(X0:Xc P)(μ0:Nat->Option Nat)(hp0:Heap)(X:Xc P)(μ:Nat->Option Nat)(st:St)(ds:List AV)(a:Act)(w:World):Prop where
 less:∀b,X0 b->X b
 hr:HR w X μ st.hp
 fr:FR w X μ st.hp st.fr a.tmps
 sz:a.tmps.size=nt
 ext:Ext hp0.length X0 μ0 hp0 w0 μ st.hp w
 dok:DOk w0 w X μ st.hp ds a.defers

theorem eJ(Γ:Oracle)(Λ:Yk)(b:Nat)(more:List (ATop × ACode))(a x:ACode)(st:St)(ds:List AV):apieces Γ Λ b more (.seq a x) st ds=match aexec Γ Λ b a st with
  |some (.normal,st1)=>apieces Γ Λ b more x st1 ds
  |some (e,st1)=>some (e,st1,ds)
  |none=>none:=by
 cases more with
 |nil=>
  grind [apieces,aexec]
 |cons y r=>
  grind [apieces,aexec]

theorem kW{fr:Fr}:∀{ks:List Nat} {x:Nat × AV},x∈fr.keep ks->fr.look x.1=some x.2
 |[],x,h=>by cases h
 |k::r,x,h=>by
  simp only[Fr.keep] at h;split at h
  ·rename_i v hv;rcases Zy.1 h with rfl|h
   ·exact hv
   ·exact kW h
  ·exact kW h

section
variable{Γ:Oracle} {Λ:Yk} {body:Code} {fnc:Func} {self:Nat}

theorem eK(hΓ:SoundO P Γ){w0:World}{X0:Xc P}{μ0:Nat->Option Nat}{hp0:Heap}{st st2:St}{ds ds2:List AV}{a:Act}{Q:Exit->Act->World->Prop}{f:Operand}{ps:Array Tmp}{azs bd:Code}{fa:AArg}{env:List Nat}
  (hfn:P.funcs[self]? =some fnc)(hbd:fnc.body=some body)(hf:Yz P 0 f=some fa)(hl:(ps,azs,bd)∈Y0 body)(M:Mid fnc.ntmps w0 X0 μ0 hp0 X μ st ds a w)(hs:atop Γ (.range self fa ps.toList env) st ds=some (.normal,st2,ds2))
  (hQ:∀X2 μ2 a2 w2,Mid fnc.ntmps w0 X0 μ0 hp0 X2 μ2 st2 ds2 a2 w2->Q .normal a2 w2):(Code.rangeFunc f ps azs bd).wpIn (Fe none) 0 P Q a w:=by
 simp only[atop] at hs;split at hs
 ·cases hs
 ·rename_i v hv;split at hs
  ·rename_i g first captured hcal
   split at hs
   ·rename_i rv hp' hg;split at hs
    ·rename_i f2 hlf;cases hs;refine wpIn_rangeFunc fun fn _=> ?_;have hav:=XV M.fr hf hv;obtain⟨fs,cs,e1,e2,e3⟩:=jb hcal hav

     have hno:∀k:Nat,(fun _=>none:Nat->Option Nat) k=none:=fun _=>rfl
     let w1:=w.alloc (.deferred (some []))
     let rc:Loop:={ state:=.ready,pending:=none,fn,tmps:=a.tmps,params:=ps,assign:=azs,body:=bd,defers:=w.heap.size }
     let w2:=w1.alloc (.loop rc)
     let X2:Xc P:=Xp X (upd (fun _=>none) 0 (some w.heap.size))
     have hX2:∀b,X b->X2 b:=fun b hb=>.inl hb;have hXD:X2 w.heap.size:=.inr ⟨0,zW _ _ _⟩;have H0:HR w (Xp X (fun _=>none)) μ st.hp:=by rw[XX hno];exact M.hr
     have H1:HR w1 X2 μ st.hp:=H0.hold (.deferred (some [])) (hno 0);have T1:Tran w (Xp X (fun _=>none)) μ st.hp w1 X2 μ st.hp:=ki (.deferred (some [])) (hno 0);rw[XX hno] at T1
     let hp1:=st.hp++[AObj.loop self ps.toList (st.fr.keep env) false]
     let μ1:=upd μ st.hp.length (some w1.heap.size)
     have Ea:∀b,Ext b X2 μ st.hp w1 μ1 hp1 w2:=fun b=>Ext.push _ _ (Ext.alloc b _) (fun k hk=>by grind);have henv:∀x∈st.fr.keep env,x.1<rc.tmps.size/\AR w2 X2 μ1 hp1 x.2 (rc.tmps.getD x.1 undef):=fun x hx=>by
      obtain⟨k1,k2⟩:=M.fr x.1 x.2 (kW hx);exact⟨k1,(Ea 0).ar (T1.ar k2)⟩
     have H2:HR w2 X2 μ1 hp1:=by
      refine H1.push _ _ (Ext.alloc 0 _) (fun i k hi hk=>YQ w1 _ (H1.out i k hi hk).2) (fun k hk=>by cases hk;exact⟨Zc _,by simp[w2]⟩) (fun _ _ h=>by cases h) (fun _ _ _ h=>by cases h) (fun _ _ h=>by cases h) ?_;intro f' ps' env' bz h;cases h;exact⟨w1.heap.size,rc,rfl,YH w1 _,rfl,rfl,by grind,⟨fnc,body,hfn,hbd,M.sz.symm,hl⟩,henv⟩
     have hyield:AR w2 X2 μ1 hp1 (.yield st.hp.length) (.func (.yield w1.heap.size) #[] #[]):=.yield _ _ self ps.toList (st.fr.keep env) false Xa (zW _ _ _);have mv:∀{a:AV} {v:Value},AR w X μ st.hp a v->AR w2 X2 μ1 hp1 a v:=fun h=>(Ea 0).ar (T1.ar h);have hL:LR w2 X2 μ1 hp1 (first++[.yield st.hp.length]++captured) (fs++[Value.func (.yield w1.heap.size) #[] #[]]++cs):=((e2.map fun _ _ _=>mv).append (.cons hyield .nil)).append (e3.map fun _ _ _=>mv);obtain⟨hent,hcalls⟩:=hΓ.seq _ _ _ _ _ hg w2 X2 μ1 _ H2 hL;have hD1:w1.heap[w.heap.size]? =some (.deferred (some [])):=YH w _;have hD2:w2.heap[w.heap.size]? =some (.deferred (some [])):=by grind [YQ]
     have hsize1:w1.heap.size=w.heap.size+1:=by simp[w1]
     refine⟨w.heap.size+1,[{ target:=.collected w.heap.size,args:= #[] }],w2,{ target:=.fn (.func g) cs.toArray,args:=fs.toArray++ #[Value.func (.yield (w.heap.size+1)) #[] #[]] },w2,g,(fs++[Value.func (.yield w1.heap.size) #[] #[]]++cs).toArray,w2,run_enterLoop_outer fn a.tmps ps azs bd,?_,fun _ _=>trivial,?_,ja,?_⟩
     ·simp_all[resolve,Deferred.ofValue,Act.eval]
     ·grind [invoke]
     ·have h3:CallsIn (Fe none) (0 - 1) P g (fs++[Value.func (.yield w1.heap.size) #[] #[]]++cs).toArray w2 _:=callsIn_wide.2 hcalls;refine h3.mono fun e w3 hR=> ?_;cases e with
      |panicked ch=>
       obtain⟨μ',p,v',h1,_⟩:=hR;cases h1
      |outgrown=>exact hR.elim
      |returned u=>
       obtain⟨μ3,v2,k1,H3,E3,_⟩:=hR;obtain⟨bz3,m1,m2⟩:=E3.loop st.hp.length self ps.toList (st.fr.keep env) false Xa;have hf2:bz3=false:=by
        rw[m1] at hlf;cases bz3
        ·rfl
        ·cases hlf
       subst hf2;obtain⟨l3,rc3,n1,n2,n3,n4,n5,n6,n7⟩:=H3.loop _ _ _ _ _ m1;have hl3:l3=w.heap.size+1:=by
        grind [zW]
       subst hl3;refine⟨none,w3.putObj (w.heap.size+1) (.loop { rc3 with state:=.exhausted }),by grind [run_endLoop],?_⟩

       have T3:Touch (w.heap.size+1) w3 (w3.putObj (w.heap.size+1) (.loop { rc3 with state:=.exhausted })):=Touch.put fun cs t fr e=>by grind
       have hlen:st.hp.length<=hp'.length:=by grind
       have hO:Own st.hp.length hp':=by
        refine Own.ext (hp:=st.hp++[AObj.loop self ps.toList (st.fr.keep env) false]) (fun i o hi ho=> ?_) (by simp) (E3.mono (b:=st.hp.length) (by simp));rw[bF hi] at ho;exact M.hr.own i o hi ho
       have Eall:∀b,b<=st.hp.length->Ext b X2 μ st.hp w1 μ3 hp' w3:=fun b hb=>(Ea b).trans ((E3.mono (b:=b) (by grind)).cast);have mv3:∀{a:AV} {v:Value},AR w X μ st.hp a v->AR (w3.putObj (w.heap.size+1) (.loop { rc3 with state:=.exhausted })) X2 μ3 (hp'.take st.hp.length) a v:=fun h=>T3.ar (((Eall 0 (Za _)).ar (T1.ar h)).take h.refs_lt);have Ew:Ext hp0.length X0 μ0 hp0 w0 μ st.hp w1:=M.ext.trans (Ext.alloc _ _);have Ef:Ext hp0.length X0 μ0 hp0 w0 μ3 (hp'.take st.hp.length) (w3.putObj (w.heap.size+1) (.loop { rc3 with state:=.exhausted })):=T3.ext (by have:=M.ext.size;omega) (Ew.trans (((Eall _ M.ext.len).cast).take (Zc _)));refine hQ X2 μ3 _ _ ⟨fun b hb=>hX2 b (M.less b hb),T3.hr (fun i hi e=> ?_) (H3.take hO),fun s u hs=>⟨(M.fr s u hs).1,mv3 (M.fr s u hs).2⟩,M.sz,Ef,?_⟩
       ·have hi':i<st.hp.length:=by grind
        have:=H3.inj i st.hp.length _ (by omega) (by grind) e n1;omega
       ·have blk3:∀D,X2 D->w2.heap[D]? =some (.deferred (some []))->(w3.putObj (w.heap.size+1) (.loop { rc3 with state:=.exhausted })).heap[D]? =some (.deferred (some [])):=by
         intro D hXD hD;have hD3:w3.heap[D]? =some (.deferred (some [])):=by
          rw[E3.blk D (yt hD) fun i hl e=>(H2.out i D (yV hl) e).1 hXD];exact hD
         rw[T3.old D (by grind)]
         grind
        refine .mark _ _ _ hXD M.ext.size (blk3 _ hXD hD2) ?_ ?_
        ·intro d hd e;have:∀{ds:List AV} {dd:List Deferred},DOk w0 w X μ st.hp ds dd->∀d∈dd,d.target≠.collected w.heap.size:=by
          intro ds dd h
          induction h with
          |nil=>grind
          |mark D ds dd hX h0 hD hn _ ih=>
           grind
          |fn g first captured fs cs ds dd hf hc _ ih=>
           grind
         exact this M.dok d hd e
        ·refine M.dok.map (fun a _ v h=>mv3 h) fun D _ hX hD=>⟨hX2 D hX,blk3 D (hX2 D hX) ?_⟩
         grind [YQ]
    grind
   grind
  grind

theorem eL{ops:Array Oper}{o:Oper}{ca:Call}{s:Nat}{a:Act}{Q:Exit->Act->World->Prop}(ho:ops.toList.getLast? =some o)(h1:o.op=.defer ca)(h2:o.guard=none)(h3:o.dst=none)(h4:ca.callee=.value (.tmp s))(h5:ca.args.toList=[])
  {g:FuncId}{fs cs:List Value}(hv:a.tmps.getD s undef=.func (.func g) fs.toArray cs.toArray)(hQ:Q .normal { a with defers:={ target:=.fn (.func g) cs.toArray,args:=fs.toArray }::a.defers } w):wpOpsIn (Fe none) 0 P ops Q [ops.size - 1] a w:=by
 have hi:ops[ops.size - 1]? =some o:=by
  grind
 have hargs:ca.args= #[]:=by
  grind
 have hw:Region.wanted o (yielded ops a.tmps)=true:=by grind [Region.wanted]
 simp only[wpOpsIn,hi,hw,if_true];refine⟨fun _ _=>trivial,?_⟩;have hrun:(o.semAt (Fe none).round a.eval).run P w=.ok (.defer { target:=.fn (.func g) cs.toArray,args:=fs.toArray }) w:=by
  have hev:a.eval (.tmp s)=.func (.func g) fs.toArray cs.toArray:=hv;simp_all[Oper.semAt_none,execOp,resolve,Deferred.ofValue]
 rw[hrun,Oper.uponIn_defer,h3];exact hQ

theorem eM(hmix:P.follows .mixedOrders=true)(hΓ:SoundO P Γ)(hΛ:∀nt c ac,Tr P nt c ac->xw P nt Λ c ac)(hfn:P.funcs[self]? =some fnc)(hbd:fnc.body=some body){w0:World}{X0:Xc P}{μ0:Nat->Option Nat}{hp0:Heap}(h0:HR w0 X0 μ0 hp0)
  {cs:List Code}{x:ACode}{more:List (ATop × ACode)}(hT:TrP P body fnc.ntmps self cs x more):∀(st:St) (ds:List AV) (e:AExit) (st':St) (ds':List AV),apieces Γ Λ hp0.length more x st ds=some (e,st',ds')->∀(w:World) (X:Xc P) (μ:Nat->Option Nat) (a:Act) (Q:Exit->Act->World->Prop),
  Mid fnc.ntmps w0 X0 μ0 hp0 X μ st ds a w->(∀e' a' w',eI fnc.ntmps w0 X0 μ0 hp0 e st' ds' e' a' w'->Q e' a' w')->XE (Fe none) 0 P cs Q a w:=by
 have code:∀{c:Code} {ac:ACode},Tr P fnc.ntmps c ac->kL P fnc.ntmps Γ Λ c ac:=fun h=>jm hmix hΓ (hΛ fnc.ntmps) h
 induction hT with
 |nil=>
  intro st ds e st' ds' hs w X μ a Q M hQ;simp only[apieces,aexec,Option.some.injEq,Prod.mk.injEq] at hs;obtain⟨rfl,rfl,rfl⟩:=hs;exact hQ _ _ _ ⟨M.sz,X,μ,M.less,M.hr,M.fr,M.ext,trivial,M.dok⟩
 |code c r a0 x more hc _ ih=>
  intro st ds e st' ds' hs w X μ a Q M hQ;rw[eJ] at hs;cases hx:aexec Γ Λ hp0.length a0 st with
  |none=>grind
  |some q=>
   obtain⟨e1,st1⟩:=q;rw[hx] at hs;refine code hc hp0.length st e1 st1 hx w X μ a _ none M.ext.len (h0.own.ext (Zc _) M.ext) M.hr M.fr M.sz fun e' a' w' hL=> ?_;obtain⟨g1,g2,μ',g3,g4,g5,g6⟩:=hL;have M1:Mid fnc.ntmps w0 X0 μ0 hp0 X μ' st1 ds a' w':=⟨M.less,g3,g4,g2,M.ext.trans g5.cast,by rw[g1];exact M.dok.ext M.hr g5⟩;have done:e1≠.normal->e=e1/\st'=st1/\ds'=ds->Q e' a' w':=by
    rintro _ ⟨rfl,rfl,rfl⟩;exact hQ _ _ _ ⟨g2,X,μ',M1.less,g3,g4,M1.ext,g6,M1.dok⟩
   cases e1 with
   |normal=>
    cases e' <;> simp only[Yo] at g6
    exact ih st1 ds e st' ds' hs w' X μ' a' Q M1 hQ
   |exit i=>
    cases hs;cases e' <;> simp only[Yo] at g6
    exact done (by simp) ⟨rfl,rfl,rfl⟩
   |ret=>
    cases hs;cases e' <;> simp only[Yo] at g6
    exact done (by simp) ⟨rfl,rfl,rfl⟩
   |panic p=>
    cases hs;cases e' <;> simp only[Yo] at g6
    exact done (by simp) ⟨rfl,rfl,rfl⟩
 |range c r f ps azs bd fa env x more hc hf hl _ ih=>
  intro st ds e st' ds' hs w X μ a Q M hQ;simp only[apieces,aexec] at hs;split at hs
  ·rename_i st2 ds2 ha;have go:∀Q':Exit->Act->World->Prop,(∀a w,XE (Fe none) 0 P r Q a w->Q' .normal a w)->(Code.rangeFunc f ps azs bd).wpIn (Fe none) 0 P Q' a w:=fun Q' hq=>eK hΓ hfn hbd hf hl M ha fun X2 μ2 a2 w2 M2=>hq _ _ (ih st2 ds2 e st' ds' hs w2 X2 μ2 a2 Q M2 hQ);rcases hc with rfl|⟨id,rfl⟩
   ·exact go _ fun _ _ h=>h
   ·show(Code.block id (.rangeFunc f ps azs bd)).wpIn (Fe none) 0 P _ a w;apply wpIn_block;exact go _ fun _ _ h=>h
  grind
 |dfr id ops r o ca s l pan keep x more ho h1 h2 h3 h4 h5 hl _ ih=>
  intro st ds e st' ds' hs w X μ a Q M hQ;have hpos:0<ops.size:=by
   grind
  have hrange:List.range ops.size=List.range' 0 (ops.size - 1)++[ops.size - 1]:=by
   conv=>lhs;rw[show ops.size=(ops.size - 1)+1 by omega]
   rw[List.range_succ,List.range_eq_range']
  have hseg:yb P fnc.ntmps ops ((ops.toList.drop 0).take (ops.size - 1))=some l:=by
   grind [List.dropLast_eq_take]
  apply wpIn_region;rw[hrange];apply jr;simp only[apieces,aexec] at hs;cases hx:aops Γ hp0.length l st.fr st.hp with
  |none=>grind
  |some q=>
   obtain⟨e1,fr1,hp1⟩:=q;rw[hx] at hs;refine jf hΓ l l (ops.size - 1) 0 w μ st.hp st.fr a (by omega) hseg (Likes.refl l) hx M.ext.len M.hr M.fr M.sz fun e' a' w' hL=> ?_;have hL2:=hL.keep keep;obtain⟨g1,g2,μ',g3,g4,g5,g6⟩:=hL2;have M1:Mid fnc.ntmps w0 X0 μ0 hp0 X μ' ⟨fr1.keep keep,hp1⟩ ds a' w':=⟨M.less,g3,g4,g2,M.ext.trans g5.cast,by rw[g1];exact M.dok.ext M.hr g5⟩;cases e1 with
   |normal=>
    cases e' <;> simp only[Yo] at g6
    simp only[atop] at hs;cases hlk:(fr1.keep keep).look s with
    |none=>grind
    |some v=>
     rw[hlk] at hs;obtain⟨q1,q2⟩:=g4 s v hlk;split at hs
     ·rename_i st2 ds2 hat;split at hat
      ·rename_i g first captured heq
       cases heq;cases hat;obtain⟨fs,cs',e1',e2',e3'⟩:=jb (v:=.func (.func g) first captured) rfl q2;refine eL ho h1 h2 h3 h4 h5 e1' ?_;exact ih _ _ e st' ds' hs w' X μ' { a' with defers:=_ } Q ⟨M1.less,M1.hr,M1.fr,M1.sz,M1.ext,.fn g first captured fs cs' _ _ e2' e3' M1.dok⟩ hQ
      grind
     grind
   |panic p=>
    cases e' <;> simp only[Yo] at g6
    simp only[] at hs;split at hs
    ·grind
    ·rename_i e2 st2 hne hq;split at hq
     ·cases hq;cases hs;exact hQ _ _ _ ⟨g2,X,μ',M1.less,g3,g4,M1.ext,g6,M1.dok⟩
     grind
    grind
   |exit i=>cases hs
   |ret=>cases hs
end
end Go.Am

/- Functions and what their calls come to: bodies, calls, the whole. -/
namespace Go.Am
variable{P:Program} {w:World} {X:Xc P} {μ:Nat->Option Nat} {hp:Heap}

theorem uR:∀{l:List AV} {i s:Nat} {v:AV},(params i l).look s=some v->∃k,s=i+k/\l[k]? =some v
 |[],i,s,v,h=>by grind [params,Fr.look]
 |a::r,i,s,v,h=>by
  simp only[params,Fr.look] at h;split at h
  ·simp_all
  ·obtain⟨k,h1,h2⟩:=uR h;exact⟨k+1,by omega,by grind⟩

theorem xU{f:FuncId}{fnc:Func}{c:Code}{args:Array Value}(hf:P.funcs[f]? =some fnc)(hb:fnc.body=some c)(hn:fnc.name≠ "runtime.NumGoroutine"):(callFunc f args).run P w=.ok (.enter f args) w:=by
 simp_all[callFunc]

theorem uT{args:List AV}{vs:List Value}{nt:Nat}(hl:LR w X μ hp args vs)(hn:vs.length<=nt):FR w X μ hp (params 0 args) (vs.toArray++Array.replicate (nt - vs.toArray.size) undef)/\(vs.toArray++Array.replicate (nt - vs.toArray.size) undef).size=nt:=by
 refine⟨fun s v hs=> ?_,by grind⟩;obtain⟨k,rfl,hk⟩:=uR hs;have hkl:k<args.length:=(Zf.1 hk).1;have hkv:k<vs.length:=by rw[<-hl.length];grind
 refine⟨by grind,?_⟩;have:(vs.toArray++Array.replicate (nt - vs.toArray.size) undef).getD (0+k) undef=vs[k]:=by
  simp_all[Array.getElem?_append_left]
 rw[this];exact hl.get k v vs[k] hk (Ze hkv)

def Mode(w:World)(X:Xc P)(μ:Nat->Option Nat)(hp:Heap)(p:Option PV)(u:FrameMode):Prop:=
 match p with
 |none=>u=.returning
 |some v=>∃x,u=.panicking [{ v:=x,recovered:=false }]/\AR w X μ hp (.pv none v) x

theorem kX{Γ:Oracle}(hΓ:SoundO P Γ){fnc:Func}{w0:World}{X0:Xc P}{μ0:Nat->Option Nat}{hp0:Heap}{R:Ending->World->Prop}{tmps:Array Value}{p':Option PV}{hp':Heap}:∀(dd:List Deferred) (ds:List AV) (p:Option PV) (hp:Heap) (w:World) (X:Xc P) (μ:Nat->Option Nat) (u:FrameMode),
  aunwind Γ ds p hp=some (p',hp')->DOk w0 w X μ hp ds dd->HR w X μ hp->Ext hp0.length X0 μ0 hp0 w0 μ hp w->Mode w X μ hp p u->
  (∀w' μ' u',HR w' X μ' hp'->Ext hp0.length X0 μ0 hp0 w0 μ' hp' w'->(∀a v,AR w X μ hp a v->AR w' X μ' hp' a v)->Mode w' X μ' hp' p' u'->LeavesInM (Fe none) 0 P fnc tmps R [] u' w')->LeavesInM (Fe none) 0 P fnc tmps R dd u w
 |[],ds,p,hp,w,X,μ,u,hs,hD,hH,E,hu,hQ=>by
  cases hD
  grind [aunwind]
 |d::dd,ds,p,hp,w,X,μ,u,hs,hD,hH,E,hu,hQ=>by
  have hrun:u≠.run:=by
   unfold Mode at hu
   grind
  refine⟨hrun,?_⟩;cases hD with
  |mark D _ _ hX h0 hb hn h=>
   refine .inl ⟨D,_,rfl,run_takeDeferred hb,?_⟩;have T:Touch D w (w.putObj D (.deferred none)):=Touch.put fun cs t fr e=>by grind
   refine kX hΓ dd ds p hp _ X μ u hs (h.map (fun a _ v ha=>T.ar ha) fun D' hD' hX' hb'=>⟨hX',?_⟩) (T.hr (fun i hi e=>(hH.out i D hi e).1 hX) hH) (T.ext h0 E) ?_ fun w' μ' u' h1 h2 h3 h4=>hQ w' μ' u' h1 h2 (fun a v ha=>h3 a v (T.ar ha)) h4
   ·rw[T.old D' (by grind)];grind
   ·unfold Mode at hu ⊢;split
    ·exact hu
    ·obtain⟨x,h1,h2⟩:=hu;exact⟨x,h1,T.ar h2⟩
  |fn g first captured fs cs ds' _ hf hc h=>
   simp only[aunwind,yn] at hs;split at hs
   ·rename_i rv hp1 hg;have hmode:Leaving w X μ hp (p.getD .niliface) u:=by
     unfold Mode at hu;split at hu
     ·exact .inl ⟨hu,rfl⟩
     ·exact .inr hu
    obtain⟨k1,k2⟩:=hΓ.dfr _ _ _ _ _ _ hg w X μ _ u hH (hf.append hc) hmode;refine .inr ⟨ja,.func g,cs.toArray,g,(fs++cs).toArray,rfl,?_,fun _ _=>trivial,?_⟩
    ·show(callFunc g (fs.toArray++cs.toArray)).run P w=_
     grind
    ·have k3:CallsDIn (Fe none) (0 - 1) P g (fs++cs).toArray u w _:=k2;refine k3.mono fun e u' w' hR=> ?_;obtain⟨⟨v,rfl⟩,hset,μ',h1,h2⟩:=hR;show LeavesInM (Fe none) 0 P fnc tmps R dd (Go.settle u') w';rw[hset];exact kX hΓ dd ds' none hp1 w' X μ' .returning hs (h.ext hH h2) h1 (E.trans (h2.mono E.len).cast) rfl fun w2 μ2 u2 q1 q2 q3 q4=>hQ w2 μ2 u2 q1 q2 (fun a v ha=>q3 a v (h2.ar ha)) q4
   grind

theorem kY{hm:Bool}{self:FuncId}{fnc:Func}{fn:AFn}(ht:trFn P hm self fnc=some fn):∃c,fnc.body=some c/\Qy P fnc.results.toList=true/\fnc.params.size+fnc.nfree<=fnc.ntmps/\fnc.name≠ "runtime.NumGoroutine" /\fn.nparams=fnc.params.size+fnc.nfree/\
  ((fn.rcv=none/\fn.more=[]/\fn.rounds=[]/\fn.results=yr P fnc.results.toList/\Tr P fnc.ntmps c fn.code)\/
   (fn.rcv=none/\fn.results=yr P fnc.results.toList/\TrP P c fnc.ntmps self (yk c) fn.code fn.more/\KC P hm fnc.ntmps (Y0 c)=some fn.rounds)\/
   ∃t id ops o ca r l keep x,fn.rcv=some t/\fn.more=[]/\fn.rounds=[]/\fnc.results.toList=[]/\t<fnc.ntmps/\yk c=.region id ops false::r/\ops.toList.head? =some o/\o.op=.call ca/\o.dst=some t/\o.guard=none/\ca.callee=.builtin .recover/\yb P fnc.ntmps ops ops.toList.tail=some l/\
    fn.code=.seq (.region true l keep) x/\TrP P c fnc.ntmps self r x []):=by
 unfold trFn at ht;split at ht
 ·rename_i c hc;split at ht
  ·rename_i hok;obtain⟨k1,k2,k3⟩:=hok;refine⟨c,hc,k1,k2,k3,?_⟩;simp only[] at ht;split at ht
   ·rename_i t ops r hsp;split at ht
    ·rename_i hte;split at ht
     ·rename_i l a hl ha;cases ht;unfold Ua at hsp;split at hsp
      ·rename_i id ops0 r0 hfl;split at hsp
       ·rename_i o rest hops;split at hsp
        ·rename_i ca t0 g1 g2 g3;split at hsp
         ·rename_i g4;cases hsp;refine⟨rfl,.inr (.inr ⟨t,id,ops,o,ca,r,l,_,_,rfl,rfl,rfl,by grind,hte.1,hfl,by grind,g1,g2,g3,g4,hl,rfl,?_⟩)⟩;have hT:=kU (body:=c) (self:=self) r a [] (fun c' hc' z hz=>uQ c c' (by grind) z hz) ha
          grind [eH]
         grind
        grind
       grind
      grind
     grind
    grind
   ·split at ht
    ·grind [kQ,uK]
    grind [eG,kU,uQ]
  grind
 grind

theorem uU{fnc:Func}{f:FuncId}{c:Code}{args:Array Value}{R:Ending->World->Prop}(hf:P.funcs[f]? =some fnc)(hb:fnc.body=some c)(h:c.wpIn (Fe none) 0 P (bodyPost P fnc R) { tmps:=args++Array.replicate (fnc.ntmps - args.size) undef,defers:=[] } w):Calls P f args w R:=
 (callsIn_wide (n:=0)).1 (callsIn_of_wp (F:=Fe none) hf hb trivial h)

theorem eN{hm:Bool}{Γ:Oracle}{Λ:Yk}(hmix:P.follows .mixedOrders=true)(hΓ:SoundO P Γ)(hΛ:∀nt c ac,Tr P nt c ac->xw P nt Λ c ac){f:FuncId}{fnc:Func}{fn:AFn}{args:List AV}{vs:List Value}{r:ARes}{hp':Heap}(hf:P.funcs[f]? =some fnc)(ht:trFn P hm f fnc=some fn)(hrcv:fn.rcv=none)
  (h:abody Γ Λ fn args hp=some (r,hp'))(hH:HR w X μ hp)(hl:LR w X μ hp args vs):(callFunc f vs.toArray).run P w=.ok (.enter f vs.toArray) w/\Calls P f vs.toArray w (yX hp.length w X μ hp r hp'):=by
 obtain⟨c,hc,k1,k2,k3,k4,hcase⟩:=kY ht;refine⟨xU hf hc k3,?_⟩;unfold abody at h;split at h
 ·cases h
 ·rename_i hlen;have hlen':vs.length=fnc.params.size+fnc.nfree:=by rw[<-hl.length,<-k4];grind
  obtain⟨hF,hsz⟩:=uT hl (nt:=fnc.ntmps) (by omega);have plain:∀{e st},aexec Γ Λ hp.length fn.code ⟨params 0 args,hp⟩=some (e,st)->fn.results=yr P fnc.results.toList->Tr P fnc.ntmps c fn.code->(match(e,st) with
    |(.normal,st)|(.ret,st)=>(match Yr st fn.results with|some v=>some (ARes.ret v,st.hp)|none=>none)
    |(.panic v,st)=>some (.panic v,st.hp)
    |_=>none)=some (r,hp')->Calls P f vs.toArray w (yX hp.length w X μ hp r hp'):=by
   intro e st hx hres hT h;apply uU hf hc;refine jm hmix hΓ (hΛ fnc.ntmps) hT hp.length ⟨params 0 args,hp⟩ e st hx w X μ _ _ none (Zc _) hH.own hH hF hsz fun e' a' w' hL=> ?_;obtain⟨g1,g2,μ',g3,g4,g5,g6⟩:=hL;have ret:∀v,Yr st (yr P fnc.results.toList)=some v->r=.ret v->hp'=st.hp->a'.defers=[]/\∃u,(results fnc a'.tmps).run P w'=.ok u w'/\yX hp.length w X μ hp r hp' (.returned u) w':=by
    rintro v hv rfl rfl;obtain⟨u,u1,u2⟩:=kS g3 g4 k1 hv;exact⟨g1,u,u1,μ',v,rfl,g3,g5,u2⟩
   rw[hres] at h;cases e with
   |normal=>
    cases e' <;> simp only[Yo] at g6
    simp only[] at h;split at h
    ·cases h;exact ret _ ‹_› rfl rfl
    grind
   |ret=>
    cases e' <;> simp only[Yo] at g6
    simp only[] at h;split at h
    ·cases h;exact ret _ ‹_› rfl rfl
    grind
   |exit i=>cases h
   |panic p=>
    cases h;cases e' <;> simp only[Yo] at g6
    obtain⟨v',rfl,hv⟩:=g6;exact⟨g1,μ',p,v',rfl,rfl,g3,g5,hv⟩

  have many:∀{q},apieces Γ Λ hp.length fn.more fn.code ⟨params 0 args,hp⟩ []=some q->fn.results=yr P fnc.results.toList->TrP P c fnc.ntmps f (yk c) fn.code fn.more->aleave Γ fn (some q)=some (r,hp')->Calls P f vs.toArray w (yX hp.length w X μ hp r hp'):=by
   rintro⟨e,st,ds⟩ hx hres hT h;refine(callsIn_wide (n:=0)).1 (callsIn_of_wp_marks (F:=Fe none) hf hc trivial ?_);apply uP;refine eM hmix hΓ hΛ hf hc hH hT _ _ e st ds hx w X μ _ _ ⟨fun _ h=>h,hH,hF,hsz,Ext.refl _ _ _ _ _,.nil⟩ fun e' a' w' hL=> ?_;obtain⟨g2,X2,μ',g0,g3,g4,g5,g6,g7⟩:=hL

   have fin:∀(p p':Option PV) (hpe:Heap) (u:FrameMode),aunwind Γ ds p st.hp=some (p',hpe)->Mode w' X2 μ' st.hp p u->(match p' with|none=>aresult fn ⟨st.fr,hpe⟩|some v'=>some (.panic v',hpe))=some (r,hp')->LeavesInM (Fe none) 0 P fnc a'.tmps (yX hp.length w X μ hp r hp') a'.defers u w':=by
    intro p p' hpe u hun hu hr;refine kX hΓ a'.defers ds p st.hp w' X2 μ' u hun g7 g3 g5 hu fun w2 μ2 u2 q1 q2 q3 q4=> ?_;cases p' with
    |none=>
     have hu2:u2=.returning:=q4;subst hu2;simp only[aresult,hres] at hr;split at hr
     ·rename_i v hv;cases hr;obtain⟨x,x1,x2⟩:=kS (st:=⟨st.fr,hp'⟩) q1 (t:=a'.tmps) (fun s u hs=>⟨(g4 s u hs).1,q3 _ _ (g4 s u hs).2⟩) k1 hv;exact⟨x,x1,μ2,v,rfl,q1.less g0,q2,x2.less g0⟩
     grind
    |some v'=>
     cases hr;obtain⟨x,rfl,x2⟩:=q4;exact⟨μ2,v',x,rfl,rfl,q1.less g0,q2,x2.less g0⟩
   unfold aleave at h;cases e with
   |normal=>
    cases e' <;> simp only[Yo] at g6
    simp only[] at h;split at h
    ·rename_i hpe hun;exact fin none none hpe .returning hun rfl h
    grind
   |ret=>
    cases e' <;> simp only[Yo] at g6
    simp only[] at h;split at h
    ·rename_i hpe hun;exact fin none none hpe .returning hun rfl h
    grind
   |exit i=>cases h
   |panic p=>
    cases e' <;> simp only[Yo] at g6
    obtain⟨v',rfl,hv⟩:=g6;simp only[] at h;have hm:Mode w' X2 μ' st.hp (some p) (.panicking [{ v:=v',recovered:=false }]):=⟨v',rfl,hv⟩;split at h
    ·rename_i hpe hun;exact fin (some p) none hpe _ hun hm h
    ·rename_i v2 hpe hun;exact fin (some p) (some v2) hpe _ hun hm h
    grind
  rcases hcase with⟨_,hm,_,hres,hT⟩|⟨_,hres,hT,_⟩|⟨t,_,_,_,_,_,_,_,_,h1,_⟩
  ·grind
  ·split at h
   ·rename_i hm;cases hx:aexec Γ Λ hp.length fn.code ⟨params 0 args,hp⟩ with
    |none=>grind
    |some q=>
     obtain⟨e,st⟩:=q;rw[hx] at h;rw[hm] at many;refine many (q:=(e,st,[])) (by grind [apieces]) hres (by grind) ?_;cases e <;> exact h
   ·rename_i more hne;cases hx:apieces Γ Λ hp.length fn.more fn.code ⟨params 0 args,hp⟩ [] with
    |none=>rw[hx] at h;cases h
    |some q=>
     grind
  grind

def xV(P:Program)(prim:FuncId->Option Ya):Prop:=
 ∀f p,prim f=some p->∀args hp r hp',p f args hp=some (r,hp')->∀(w:World) (X:Xc P) (μ:Nat->Option Nat) (vs:List Value),HR w X μ hp->LR w X μ hp args vs->Called P f vs.toArray w (yX hp.length w X μ hp r hp')
def QI(P:Program)(F:FuncId->Option AFn):Prop:=∀f fn,F f=some fn->∃fnc,P.funcs[f]? =some fnc/\trFn P fn.heapMode f fnc=some fn

theorem PR.scalar{w:World}{I J:Nat->Prop}{p:PV}{v:Value}(h:PR w I p v)(hs:p.scalar=true):PR w J p v:=by
 cases h with
 |bool=>exact .bool _
 |int=>exact .int _ _
 |str=>exact .str _
 |_=>cases hs
theorem AR.scalar1{w:World}{μ:Nat->Option Nat}{hp hp':Heap}{v:AV}{u:Value}(h:AR w X μ hp v u)(hs:v.scalar1=true):AR w X μ hp' v u:=by
 cases h with
 |pv s p u hv hp=>exact .pv _ _ _ hv (hp.scalar hs)
 |_=>cases hs
theorem AR.scalar{w:World}{μ:Nat->Option Nat}{hp hp':Heap}{v:AV}{u:Value}(h:AR w X μ hp v u)(hs:v.scalar=true):AR w X μ hp' v u:=by
 cases h with
 |pv s p u hv hp=>exact .pv _ _ _ hv (hp.scalar hs)
 |tuple l vs hl hx=>exact .tuple _ vs hl fun i a u hi hu=>(hx i a u hi hu).scalar1 (Zr.1 hs a (Zh hi))
 |_=>cases hs

end Go.Am

/- Rounds of loops over functions; deferred functions that recover; calls; the whole. -/
namespace Go.Am
variable{P:Program} {w:World} {X:Xc P} {μ:Nat->Option Nat} {hp:Heap}

/-! ### Rounds -/
theorem eO{F:FuncId->Option AFn}{Γ:Oracle}{Λ:Yk}(hmix:P.follows .mixedOrders=true)(hF:QI P F)(hΓ:SoundO P Γ)(hΛ:∀nt c ac,Tr P nt c ac->xw P nt Λ c ac){f:FuncId}{q:Nat}{azs:List AV}{v:AV}{hp':Heap}{ps:List Nat}{env:List (Nat × AV)}{vs:List Value}{l:Nat}{rc:Loop}
  (h:around F Γ Λ f (.yield q::azs) hp=some (.ret v,hp'))(hq:hp[q]? =some (.loop f ps env false))(hH:HR w X μ hp)(hl:LR w X μ hp azs vs)(hm:μ q=some l)(hrc:w.heap[l]? =some (.loop rc)):
  vs.length=rc.params.size/\RoundIn Fence.wide 0 P l rc.fn (qJ rc vs) rc.assign rc.body w (yX hp.length w X μ hp (.ret v) hp'):=by
 exact absurd (show(none:Option (ARes × Heap))=some _ from h) (by simp)
/-! ### Deferred functions that recover -/
theorem eP{Γ:Oracle}{Λ:Yk}(hmix:P.follows .mixedOrders=true)(hΓ:SoundO P Γ)(hΛ:∀nt c ac,Tr P nt c ac->xw P nt Λ c ac){body:Code}{nt self:Nat}{cs:List Code}{x:ACode}{more:List (ATop × ACode)}(hT:TrP P body nt self cs x more)(hmore:more=[]):
  ∀(b:Nat) (st:St) (e:AExit) (st':St),aexec Γ Λ b x st=some (e,st')->∀(w:World) (X:Xc P) (μ:Nat->Option Nat) (a:Act) (Q:Exit->Act->World->Prop),b<=st.hp.length->Own b st.hp->HR w X μ st.hp->FR w X μ st.hp st.fr a.tmps->a.tmps.size=nt->
  (∀e' a' w',Lands nt b w X μ st.hp a.defers e st'.fr st'.hp e' a' w'->Q e' a' w')->XE (Fe none) 0 P cs Q a w:=by
 induction hT with
 |nil=>
  intro b st e st' hs w X μ a Q hb hO hH hF hsz hQ;cases hs;exact hQ _ _ _ ⟨rfl,hsz,μ,hH,hF,Ext.refl _ _ _ _ _,trivial⟩
 |range=>grind
 |dfr=>grind
 |code c r a0 x more hc _ ih=>
  intro b st e st' hs w X μ a Q hb hO hH hF hsz hQ;simp only[aexec] at hs;cases h1:aexec Γ Λ b a0 st with
  |none=>grind
  |some q=>
   obtain⟨e1,st1⟩:=q;rw[h1] at hs;refine jm hmix hΓ (hΛ nt) hc b st e1 st1 h1 w X μ a _ none hb hO hH hF hsz fun e' a' w' hL=> ?_;obtain⟨g1,g2,μ',g3,g4,g5,g6⟩:=hL;cases e1 with
   |normal=>
    simp only[] at hs;cases e' <;> simp only[Yo] at g6
    refine ih hmore b st1 e st' hs w' X μ' a' Q (Zz hb g5.len) (hO.ext hb g5) g3 g4 g2 fun e2 a2 w2 hL2=>hQ e2 a2 w2 ?_;obtain⟨k1,k2,μ2,k3,k4,k5,k6⟩:=hL2;exact⟨k1.trans g1,k2,μ2,k3,k4,g5.trans k5,k6⟩
   |exit i=>
    cases hs;cases e' <;> simp only[Yo] at g6
    subst g6;exact hQ _ _ _ ⟨g1,g2,μ',g3,g4,g5,rfl⟩
   |ret=>
    cases hs;cases e' <;> simp only[Yo] at g6
    exact hQ _ _ _ ⟨g1,g2,μ',g3,g4,g5,trivial⟩
   |panic p=>
    cases hs;cases e' <;> simp only[Yo] at g6
    exact hQ _ _ _ ⟨g1,g2,μ',g3,g4,g5,g6⟩
section
variable{F:Fence} {n:Nat} {Q:Exit->Act->List Frame->World->Prop} {a:Act} {cs:List Frame}
theorem uV{c:Code}{Q':Exit->Act->List Frame->World->Prop}(hq:∀e a cs w,Q e a cs w->Q' e a cs w)(h:c.wpSIn F n P Q a cs w):c.wpSIn F n P Q' a cs w:=
 fun b k hb hr hF hroom=>let ⟨e,a',cs',w',l,q,r⟩:=h b k hb hr hF hroom;⟨e,a',cs',w',l,hq _ _ _ _ q,r⟩
theorem eQ(hro:F.round=none):∀(c:Code) {c1:Code} {r:List Code} {Q:Exit->Act->List Frame->World->Prop} {a:Act} {cs:List Frame} {w:World},yk c=c1::r->
  c1.wpSIn F n P (Exit.thenS (fun a cs w=>XE F n P r (fun e a w=>Q e a cs w) a w) Q) a cs w->c.wpSIn F n P Q a cs w:=by
 intro c
 induction c with
 |seq x y ihx ihy=>
  intro c1 r Q a cs w hf h;simp only[yk] at hf;cases hx:yk x with
  |nil=>grind [eB]
  |cons c0 rx=>
   rw[hx] at hf;simp only[Zq,List.cons.injEq] at hf;obtain⟨rfl,rfl⟩:=hf;apply wpSIn_seq;refine ihx hx (uV (fun e a cs w he=> ?_) h);cases e with
   |normal=>
    refine uO (fun e a w he=> ?_) _ _ _ (kT _ _ _ he);cases e with
    |normal=>exact wpSIn_of_wpIn hro (uP y he)
    |_=>exact he
   |_=>exact he
 |_=>
  intro c1 r Q a cs w hf h;simp only[yk,List.cons.injEq] at hf;obtain⟨rfl,rfl⟩:=hf;exact uV (fun e a cs w he=>by cases e <;> exact he) h

theorem eR{id:Nat}{ops:Array Oper}{o:Oper}(hro:F.round=none)(hpos:0<ops.size)(hi:ops[0]? =some o)(hg:o.guard=none)(hrun:(execOp a.eval o).run P w=.ok .recover w)(habout:∀f,o.about P w a.eval=some f->F.fn f)
  (h:∀v cs',(recoverD cs=some (v,cs')\/(recoverD cs=none/\v=.nilIface/\cs'=cs))->wpOpsIn F n P ops (fun e a w=>Q e a cs' w) (List.range' 1 (ops.size - 1)) (a.put o.dst v) w):(Code.region id ops false).wpSIn F n P Q a cs w:=by
 intro b k hb hr hF hroom;have hrange:List.range ops.size=0::List.range' 1 (ops.size - 1):=by
  rw[List.range_eq_range']
  conv=>lhs;rw[show ops.size=(ops.size - 1)+1 by omega]
  rw[List.range'_succ]
 have hw:Region.wanted o (yielded ops a.tmps)=true:=by grind [Region.wanted]
 have h0:(lone (b.atR a (.inRegion ops (0::List.range' 1 (ops.size - 1))::k)) cs w).fenced P F:=fenced_oper hF hroom hi habout;have hreg:StepsIn (Machine.fenced P F) P (lone (b.atR a (.code (.region id ops false)::k)) cs w) (lone (b.atR a (.inRegion ops (0::List.range' 1 (ops.size - 1))::k)) cs w):=by
  have:=stepR_region (P:=P) (b:=b) (a:=a) (k:=k) (cs:=cs) (w:=w) (id:=id) (ops:=ops);rw[hrange] at this;exact .one (fenced_calm hF hroom rfl) this
 have hgo:=stepGR_op (P:=P) (b:=b) (k:=k) (cs:=cs) (w:=w) (rest:=List.range' 1 (ops.size - 1)) hi hw;rw[hr,Oper.semAt_none] at hgo;have hfin:∀v,(b.atR a (.inRegion ops (0::List.range' 1 (ops.size - 1))::k)).finish v=b.atR (a.put o.dst v) (.inRegion ops (List.range' 1 (ops.size - 1))::k):=by
  grind [Frame.finish_atR]
 have hk:(b.atR a (.inRegion ops (0::List.range' 1 (ops.size - 1))::k)).kind=.deferred:=hb;have htr:=tryRecover_deferred hk cs;have rest:∀v cs',cs'.length=cs.length->(recoverD cs=some (v,cs')\/(recoverD cs=none/\v=.nilIface/\cs'=cs))->step P (lone (b.atR a (.inRegion ops (0::List.range' 1 (ops.size - 1))::k)) cs w)=.next (lone (b.atR (a.put o.dst v) (.inRegion ops (List.range' 1 (ops.size - 1))::k)) cs' w)->
   ∃e a' cs'' w',cs''.length=cs.length/\Q e a' cs'' w'/\ArrivesIn (Machine.fenced P F) P (lone (b.atR a (.code (.region id ops false)::k)) cs w) b k cs'' e a' w':=by
  intro v cs' hlen hrec hstep;obtain⟨e,a',w',hq,harr⟩:=wp_opsIn _ _ _ (h v cs' hrec) b k cs' (hr.trans hro.symm) hF (by grind);exact⟨e,a',cs',w',hlen,hq,.of_steps hreg (.of_steps (.one h0 hstep) harr)⟩
 cases hrec:recoverD cs with
 |some z=>
  obtain⟨v,cs'⟩:=z;refine rest v cs' (recoverD_length hrec) (.inl hrec) (step_lone_go ?_);simp_all[Frame.atR,stepG.apply]
 |none=>
  refine rest .nilIface cs rfl (.inr ⟨hrec,rfl,rfl⟩) (step_lone_go ?_);simp_all[Frame.atR,stepG.apply]
end

theorem eS{F:FuncId->Option AFn}{Γ:Oracle}{Λ:Yk}(hmix:P.follows .mixedOrders=true)(hF:QI P F)(hΓ:SoundO P Γ)(hΛ:∀nt c ac,Tr P nt c ac->xw P nt Λ c ac){g:FuncId}{p:PV}{azs:List AV}{r:ARes}{hp':Heap}{vs:List Value}{u:FrameMode}
  (h:adefer F Γ Λ g (.pv none p::azs) hp=some (r,hp'))(hH:HR w X μ hp)(hl:LR w X μ hp azs vs)(hu:Leaving w X μ hp p u):
  (callFunc g vs.toArray).run P w=.ok (.enter g vs.toArray) w/\CallsDIn Fence.wide 0 P g vs.toArray u w fun e u' w'=>(∃v,e=.returned v)/\Go.settle u'=.returning/\∃μ',HR w' X μ' hp'/\Ext hp.length X μ hp w μ' hp' w':=by
 simp only[adefer] at h;split at h
 ·rename_i fn hfn;split at h
  ·rename_i t hrcv hmore;split at h
   ·cases h
   ·rename_i hlen;obtain⟨fnc,c1,c2⟩:=hF g fn hfn;obtain⟨c,d1,d2,d3,d4,d5,hcase⟩:=kY c2;rcases hcase with⟨e,_⟩|⟨e,_⟩|⟨t',id,ops,o,ca,r0,l,keep,x,e1,e2,e3,e4,e5,e6,e7,e8,e9,e10,e11,e12,e13,e14⟩
    ·grind
    ·grind
    ·rw[hrcv] at e1;cases e1;have hlen':vs.length=fnc.params.size+fnc.nfree:=by rw[<-hl.length,<-d5];grind
     obtain⟨hFR,hsz⟩:=uT hl (nt:=fnc.ntmps) (by omega);refine⟨xU c1 d1 d4,?_⟩;refine callsDIn_of_wpSIn (F:=Fe none) c1 d1 trivial fun c₀ cs hmode=> ?_;refine eQ rfl c e6 ?_;have hpos:0<ops.size:=by
      grind
     have hi:ops[0]? =some o:=by
      grind [List.head?_eq_getElem?]
     have hrun:∀a:Act,(execOp a.eval o).run P w=.ok .recover w:=fun a=>by
      grind [execOp,resolve,invoke,builtin,Sem.run_pure]
     refine eR rfl hpos hi e10 (hrun _) (fun _ _=>trivial) fun v cs' hrec=> ?_

     have hv:AR w X μ hp (.pv none p) v/\∃u',cs'={ c₀ with mode:=u' }::cs/\Go.settle u'=.returning:=by
      rcases hu with⟨rfl,rfl⟩|⟨y,rfl,hy⟩
      ·have hn:recoverD (c₀::cs)=none:=by grind [recoverD]
       rw[hn] at hrec;rcases hrec with h|⟨_,rfl,rfl⟩
       ·cases h
       ·exact⟨.pv _ _ _ rfl .niliface,.returning,by rw[<-hmode],rfl⟩
      ·have hn:recoverD (c₀::cs)=some (y,{ c₀ with mode:=.panicking [{ v:=y,recovered:=true }] }::cs):=by grind [recoverD]
       rw[hn] at hrec;rcases hrec with h|⟨h,_⟩
       ·cases h;exact⟨hy,_,rfl,rfl⟩
       grind
     obtain⟨hv,u',rfl,hset⟩:=hv

     have hseg:yb P fnc.ntmps ops ((ops.toList.drop 1).take (ops.size - 1))=some l:=by
      grind [List.drop_one,Zl]
     have hFR2:FR w X μ hp ((t,.pv none p)::params 0 azs) ({ tmps:=vs.toArray++Array.replicate (fnc.ntmps - vs.toArray.size) undef,defers:=[]:Act }.put o.dst v).tmps:=by
      rw[e9];exact FR.put (dst:=some t) (fr:=params 0 azs) (a:={ tmps:=vs.toArray++Array.replicate (fnc.ntmps - vs.toArray.size) undef,defers:=[] }) hFR (Ext.refl 0 X μ hp w) (fun d hd=>by grind) hv
     rw[e13] at h;simp only[aexec] at h;cases hx:aops Γ hp.length l ((t,.pv none p)::params 0 azs) hp with
     |none=>grind
     |some q=>
      obtain⟨e1,fr1,hp1⟩:=q;rw[hx] at h;refine jf hΓ l l (ops.size - 1) 1 w μ hp _ _ (by omega) hseg (Likes.refl l) hx (Zc _) hH hFR2 (by grind [yl]) fun e' a' w1 hL=> ?_;have hL2:=hL.keep keep;obtain⟨g1,g2,μ1,H1,F1,E1,g6⟩:=hL2;cases e1 with
      |panic p=>grind
      |exit i=>cases h
      |ret=>cases h
      |normal=>
       cases e' <;> simp only[Yo] at g6
       simp only[] at h;cases hx2:aexec Γ Λ hp.length x ⟨fr1.keep keep,hp1⟩ with
       |none=>grind
       |some q2=>
        obtain⟨e2,st2⟩:=q2;rw[hx2] at h;have hdef:a'.defers=[]:=by rw[g1,QE]
        refine eP hmix hΓ hΛ e14 rfl hp.length ⟨fr1.keep keep,hp1⟩ e2 st2 hx2 w1 X μ1 a' _ E1.len (hH.own.ext (Zc _) E1) H1 F1 g2 fun e' a2 w2 hL=> ?_;obtain⟨k1,k2,μ2,H2,F2,E2',k6⟩:=hL;have E2:=E1.trans E2';have hdef2:a2.defers=[]:=k1.trans hdef;have fin:r=.ret (.tuple [])->hp'=st2.hp.take hp.length->a2.defers=[]/\∃u'',({ c₀ with mode:=u' }::cs)={ c₀ with mode:=u'' }::cs/\∃v,(results fnc a2.tmps).run P w2=.ok v w2/\((∃v',Ending.returned v=.returned v')/\Go.settle u''=.returning/\∃μ',HR w2 X μ' hp'/\Ext hp.length X μ hp w μ' hp' w2):=by
         rintro rfl rfl;obtain⟨y,y1,_⟩:=kS (v:=.tuple []) H2 F2 d2 (by rw[e4];rfl);exact⟨hdef2,u',rfl,y,y1,⟨y,rfl⟩,hset,μ2,H2.take (fun i o hi ho z hz=>(hH.own.ext (Zc _) E2) i o hi ho z hz),E2.take (Zc _)⟩
        cases e2 with
        |normal=>
         cases e' <;> simp only[Yo] at k6
         cases h;exact fin rfl rfl
        |ret=>
         cases e' <;> simp only[Yo] at k6
         cases h;exact fin rfl rfl
        |exit i=>cases h
        |panic p=>cases h
  grind
 grind
end Go.Am

/- Calls; the whole. -/
namespace Go.Am
variable{P:Program} {w:World} {X:Xc P} {μ:Nat->Option Nat} {hp:Heap}

theorem uW{F:FuncId->Option AFn}{prim:FuncId->Option Ya}{Γ:Oracle}{Λ:Yk}(hmix:P.follows .mixedOrders=true)(hF:QI P F)(hP:xV P prim)(hΓ:SoundO P Γ)(hΛ:∀nt c ac,Tr P nt c ac->xw P nt Λ c ac){f:FuncId}{args:List AV}{r:ARes}{hp':Heap}{vs:List Value}
  (h:YY F prim Γ Λ f args hp=some (r,hp'))(hH:HR w X μ hp)(hl:LR w X μ hp args vs):Called P f vs.toArray w (yX hp.length w X μ hp r hp'):=by
 unfold YY at h;split at h
 ·exact hP _ _ ‹_› _ _ _ _ h w X μ vs hH hl
 ·split at h
  ·cases h
  ·rename_i fn hfn;obtain⟨fnc,hf,ht⟩:=hF f fn hfn;split at h
   ·cases h
   rename_i hrc;have hrcv:fn.rcv=none:=by
    simp_all
   have bs:∀{args:List AV} {hp:Heap} {w:World} {X:Xc P} {μ:Nat->Option Nat} {r:ARes} {hp':Heap} {vs:List Value},abody Γ Λ fn args hp=some (r,hp')->HR w X μ hp->LR w X μ hp args vs->Called P f vs.toArray w (yX hp.length w X μ hp r hp'):=fun h hH hl=>.inl (eN hmix hΓ hΛ hf ht hrcv h hH hl);split at h
   ·-- on the caller's heap
    split at h
    ·rename_i v hp2 hb;cases h;refine(bs hb hH hl).mono fun e w' hR=> ?_;cases e with
     |returned u=>
      obtain⟨μ',v2,e1,g1,g2,g3⟩:=hR;cases e1;split
      ·rename_i hc;simp only[Zr,ZN] at hc;exact⟨μ',v,rfl,g1.take fun i o hi ho q hq=>(hH.own.ext (Zc _) g2) i o hi ho q hq,g2.take (Zc _),g3.take hc⟩
      ·exact⟨μ',v,rfl,g1,g2,g3⟩
     |panicked c=>obtain⟨μ',p,v',e1,_⟩:=hR;cases e1
     |outgrown=>exact hR
    ·rename_i v hp2 hb;cases h;refine(bs hb hH hl).mono fun e w' hR=> ?_;cases e with
     |returned u=>obtain⟨μ',v2,e1,_⟩:=hR;cases e1
     |panicked c=>
      obtain⟨μ',p,v',e1,e2,g1,g2,g3⟩:=hR;cases e1;exact⟨μ',v,v',rfl,e2,g1.take fun i o hi ho q hq=>(hH.own.ext (Zc _) g2) i o hi ho q hq,g2.take (Zc _),g3.take (fun q hq=>by grind [AV.refsIn])⟩
     |outgrown=>exact hR
    grind
   ·-- on a heap of its own
    split at h
    ·cases h
    ·rename_i ps hp1 hfz;obtain⟨e1,h1,hCP⟩:=qH hp.length _ _ _ _ _ hfz hH hl;split at h
     ·rename_i v hp2 hb;split at h
      ·rename_i v' hp3 hfr;cases h;refine(bs hb h1.empty hCP.empty.lr).mono fun e w' hR=> ?_;cases e with
       |returned u=>
        obtain⟨μ',v2,e2,g1,g2,g3⟩:=hR;cases e2;cases hsc:v'.scalar with
        |true=>
         obtain⟨k1,k2⟩:=back (b:=hp.length) hH g2;exact⟨μ,v',rfl,k1,k2,(kb hfr g1 g3).scalar hsc⟩
        |false=>
         obtain⟨k1,k2⟩:=back (b:=hp.length) h1 g2;exact⟨μ,v',rfl,k1,e1.trans k2,kb hfr g1 g3⟩
       |panicked c=>obtain⟨μ',p,v',e1,_⟩:=hR;cases e1
       |outgrown=>exact hR
      grind
     ·rename_i v hp2 hb;cases h;refine(bs hb h1.empty hCP.empty.lr).mono fun e w' hR=> ?_;cases e with
      |returned u=>obtain⟨μ',v2,e1,_⟩:=hR;cases e1
      |panicked c=>
       obtain⟨μ',p,v',e2,e3,g1,g2,g3⟩:=hR;cases e2;obtain⟨k1,k2⟩:=back (b:=hp.length) h1 g2;refine⟨μ,v,v',rfl,e3,k1,e1.trans k2,?_⟩;cases g3 with|pv _ _ _ hs hq=>exact .pv _ _ _ hs (hq.mono fun _ _ _ _ hI hb=>⟨K9 hI,hb⟩)
      |outgrown=>exact hR
     grind

theorem eT{F:FuncId->Option AFn}{prim:FuncId->Option Ya}{Γ:Oracle}{Λ:Yk}(hmix:P.follows .mixedOrders=true)(hF:QI P F)(hP:xV P prim)(hΓ:SoundO P Γ)(hΛ:∀nt c ac,Tr P nt c ac->xw P nt Λ c ac):SoundO P (acall F prim Γ Λ) where
 fn f args hp r hp' h w X μ vs hH hl:=uW hmix hF hP hΓ hΛ h hH hl
 seq f args hp r hp' h w X μ vs hH hl:=by
  have h:(if(F f).isSome=true then YY F prim Γ Λ f args hp else none)=some (r,hp'):=h;split at h
  ·rename_i hs;have hC:=uW hmix hF hP hΓ hΛ h hH hl;cases hfn:F f with
   |none=>grind
   |some fn=>
    obtain⟨fnc,c1,c2⟩:=hF f fn hfn;obtain⟨c,d1,_,_,d4,_⟩:=kY c2;have hent:=xU (w:=w) (args:=vs.toArray) c1 d1 d4;rcases hC with⟨h1,h2⟩|⟨v,w',h1,_⟩
    ·grind
    grind
  grind
 rnd f q azs hp v hp' ps env h hq w X μ vs l rc hH hl hm hrc:=eO hmix hF hΓ hΛ h hq hH hl hm hrc
 dfr g p azs hp r hp' h w X μ vs u hH hl hu:=eS hmix hF hΓ hΛ h hH hl hu

theorem Q4{F:FuncId->Option AFn}{prim:FuncId->Option Ya}(hmix:P.follows .mixedOrders=true)(hF:QI P F)(hP:xV P prim):∀n,SoundO P (asem F prim n)
 |0=>⟨fun _ _ _ _ _ h=>(by cases h),fun _ _ _ _ _ h=>(by cases h),fun _ _ _ _ _ _ _ _ h=>(by cases h),fun _ _ _ _ _ _ h=>(by cases h)⟩
 |n+1=>eT hmix hF hP (Q4 hmix hF hP n) fun nt c ac h=>eo hmix (Q4 hmix hF hP n) n c ac h
end Go.Am

/- The limit of the runs of bounded depth: equations without fuel. -/
namespace Go.Am

def OLe(Γ Δ:Oracle):Prop:=∀k f azs hp r,Γ k f azs hp=some r->Δ k f azs hp=some r
def LLe(Λ Λ':Yk):Prop:=∀b m keep c st r,Λ b m keep c st=some r->Λ' b m keep c st=some r
theorem OLe.refl(Γ:Oracle):OLe Γ Γ:=fun _ _ _ _ _ h=>h
theorem OLe.trans{Γ Δ Θ:Oracle}(h:OLe Γ Δ)(k:OLe Δ Θ):OLe Γ Θ:=fun i f azs hp r e=>k i f azs hp r (h i f azs hp r e)
theorem LLe.refl(Γ:Yk):LLe Γ Γ:=fun _ _ _ _ _ _ h=>h
theorem LLe.trans{Γ Δ Θ:Yk}(h:LLe Γ Δ)(k:LLe Δ Θ):LLe Γ Θ:=fun f azs hp r x y e=>k f azs hp r x y (h f azs hp r x y e)

theorem kZ{Γ Δ:Oracle}{vs:List AV}{hp:Heap}{r:OpRes}(hO:OLe Γ Δ)(h:yI Γ hp vs=some r):yI Δ hp vs=some r:=by
 cases vs with
 |nil=>cases h
 |cons a azs=>
  have gen:(match yn a with
    |some (g,first,captured)=>match Γ .fn g (first++azs++captured) hp with
     |some (.ret v,hp')=>some (OpRes.val v hp')
     |some (.panic v,hp')=>some (.panic v hp')
     |none=>none
    |none=>none)=some r->(match yn a with
    |some (g,first,captured)=>match Δ .fn g (first++azs++captured) hp with
     |some (.ret v,hp')=>some (OpRes.val v hp')
     |some (.panic v,hp')=>some (.panic v hp')
     |none=>none
    |none=>none)=some r:=by
   intro h;split at h
   ·split at h
    ·rename_i hg;simp only[hO _ _ _ _ _ hg];exact h
    ·rename_i hg;simp only[hO _ _ _ _ _ hg];exact h
    grind
   grind
  cases a with
  |yield q=>
   simp only[yI] at h ⊢;split at h
   ·split at h
    ·rename_i hg;rw[hO _ _ _ _ _ hg];exact h
    grind
   grind
  |_=>exact gen h
theorem q7{Γ Δ:Oracle}{b:Nat}{op:AOp}{vs:List AV}{hp:Heap}{r:OpRes}(hO:OLe Γ Δ)(h:aOp Γ b op vs hp=some r):aOp Δ b op vs hp=some r:=by
 cases op
 case call=>exact kZ hO h
 case calln n=>
  grind [aOp,Q1,kZ]
 case callg=>
  grind [aOp,xJ,kZ]
 case callp=>
  simp only[aOp,xl] at h ⊢;split at h
  ·split at h
   ·rename_i ps he;split at h
    ·rename_i v hp' hg;rw[hO _ _ _ _ _ hg];exact h
    grind
   grind
  grind
 case callh=>
  simp only[aOp,Q0] at h ⊢;split at h
  ·split at h
   ·split at h
    ·rename_i v hp' hg;rw[hO _ _ _ _ _ hg];exact h
    grind
   grind
  grind
 all_goals exact h

theorem Q5{Γ Δ:Oracle}{b:Nat}(hO:OLe Γ Δ):∀{ops:List AOper} {fr:Fr} {hp:Heap} {r:AExit × Fr × Heap},aops Γ b ops fr hp=some r->aops Δ b ops fr hp=some r
 |[],_,_,_,h=>h
 |o::rest,fr,hp,r,h=>by
  simp only[aops] at h ⊢;split at h
  ·cases h
  ·exact Q5 hO h
  ·split at h
   ·cases h
   ·split at h
    ·rename_i ho;rw[q7 hO ho];exact Q5 hO h
    ·grind [q7]
    grind

theorem js{Γ Δ:Oracle}(hO:OLe Γ Δ){hp:Heap}{vs:List AV}{r:OpRes}(h:ya Γ hp vs=some r):ya Δ hp vs=some r:=by
 unfold ya at h ⊢;split at h
 ·split at h
  ·split at h
   ·rename_i hg;simp only[hO _ _ _ _ _ hg];exact h
   ·rename_i hg;simp only[hO _ _ _ _ _ hg];exact h
   grind
  grind
 grind
theorem Q6{Γ Δ:Oracle}{b:Nat}(hO:OLe Γ Δ):∀{l:List (AOper × Option (List AOper))} {fr:Fr} {hp:Heap} {r:AExit × Fr × Heap},YX Γ b l fr hp=some r->YX Δ b l fr hp=some r
 |[],_,_,_,h=>h
 |(o,none)::rest,fr,hp,r,h=>by
  simp only[YX] at h ⊢;split at h
  ·cases h
  ·exact Q6 hO h
  ·split at h
   ·cases h
   ·split at h
    ·rename_i ho;rw[q7 hO ho];exact Q6 hO h
    grind
 |(o,some later)::rest,fr,hp,r,h=>by
  simp only[YX] at h ⊢;split at h
  ·cases h
  ·split at h
   ·rename_i ho;simp only[js hO ho];exact Q6 hO h
   ·grind [js,Q5]
   grind
theorem yC{Γ Δ:Oracle}{Λ Λ':Yk}{b:Nat}(hO:OLe Γ Δ)(hL:LLe Λ Λ'):∀{c:ACode} {st:St} {r:AExit × St},aexec Γ Λ b c st=some r->aexec Δ Λ' b c st=some r:=by
 intro c
 induction c with
 |skip=>intro st r h;exact h
 |settle l=>intro st r h;exact h
 |doom l keep=>
  grind [aexec,Q6]
 |region pan ops keep=>
  grind [aexec,Q5]
 |seq x y ihx ihy=>
  grind [aexec]
 |cond c x y ihx ihy=>
  grind [aexec]
 |block id c ih=>
  grind [aexec]
 |loop keep c ih=>intro st r h;exact hL _ _ _ _ _ _ h
 |exit id=>intro st r h;exact h
 |ret=>intro st r h;exact h

theorem Xn{Γ Δ:Oracle}(hO:OLe Γ Δ):∀{n m:Nat},n<=m->LLe (aloop Γ n) (aloop Δ m)
 |0,m,_=>fun _ _ _ _ _ _ h=>by cases h
 |n+1,0,h=>by omega
 |n+1,m+1,hnm=>fun b k keep c st r h=>by
  simp only[aloop] at h ⊢;split at h
  ·rename_i ho;rw[yC hO (Xn hO (by omega:n<=m)) ho];exact Xn hO (by omega:n<=m) _ _ _ _ _ _ h
  ·rename_i hn;rw[yC hO (Xn hO (by omega:n<=m)) h]
   grind

theorem uX{Γ Δ:Oracle}(hO:OLe Γ Δ){op:ATop}{st:St}{ds:List AV}{r:AExit × St × List AV}(h:atop Γ op st ds=some r):atop Δ op st ds=some r:=by
 cases op with
 |dfr s=>exact h
 |range self f ps env=>
  simp only[atop] at h ⊢;split at h
  ·cases h
  ·split at h
   ·split at h
    ·rename_i hg;rw[hO _ _ _ _ _ hg];exact h
    grind
   grind
theorem jt{Γ Δ:Oracle}{Λ Λ':Yk}{b:Nat}(hO:OLe Γ Δ)(hL:LLe Λ Λ'):∀{l:List (ATop × ACode)} {c:ACode} {st:St} {ds:List AV} {r:AExit × St × List AV},apieces Γ Λ b l c st ds=some r->apieces Δ Λ' b l c st ds=some r
 |[],c,st,ds,r,h=>by
  grind [apieces,yC]
 |(op,c2)::l,c,st,ds,r,h=>by
  simp only[apieces] at h ⊢;split at h
  ·rename_i ho;rw[yC hO hL ho];split at h
   ·rename_i ha;simp only[uX hO ha];exact jt hO hL h
   grind
  ·grind [yC]
  grind
theorem q8{Γ Δ:Oracle}(hO:OLe Γ Δ):∀{ds:List AV} {p:Option PV} {hp:Heap} {r:Option PV × Heap},aunwind Γ ds p hp=some r->aunwind Δ ds p hp=some r
 |[],p,hp,r,h=>h
 |c::ds,p,hp,r,h=>by
  simp only[aunwind] at h ⊢;split at h
  ·split at h
   ·rename_i hg;simp only[hO _ _ _ _ _ hg];exact q8 hO h
   grind
  grind
theorem uY{Γ Δ:Oracle}(hO:OLe Γ Δ){fn:AFn}{q:AExit × St × List AV}{r:ARes × Heap}(h:aleave Γ fn (some q)=some r):aleave Δ fn (some q)=some r:=by
 obtain⟨e,st,ds⟩:=q;cases e with
 |exit i=>cases h
 |normal=>
  grind [aleave,q8]
 |ret=>
  grind [aleave,q8]
 |panic v=>
  grind [aleave,q8]
theorem eU{Γ Δ:Oracle}{Λ Λ':Yk}(hO:OLe Γ Δ)(hL:LLe Λ Λ'){fn:AFn}{args:List AV}{hp:Heap}{r:ARes × Heap}(h:abody Γ Λ fn args hp=some r):abody Δ Λ' fn args hp=some r:=by
 unfold abody at h ⊢;split at h
 ·cases h
 ·rename_i hn;rw[Zb hn];cases hmore:fn.more with
  |nil=>
   grind [yC]
  |cons x l=>
   simp only[hmore] at h ⊢;cases hq:apieces Γ Λ hp.length (x::l) fn.code ⟨params 0 args,hp⟩ [] with
   |none=>rw[hq] at h;cases h
   |some q=>
    grind [jt,uY]

theorem uZ{F:FuncId->Option AFn}{prim:FuncId->Option Ya}{Γ Δ:Oracle}{Λ Λ':Yk}(hO:OLe Γ Δ)(hL:LLe Λ Λ'){f:FuncId}{azs:List AV}{hp:Heap}{r:ARes × Heap}(h:YY F prim Γ Λ f azs hp=some r):YY F prim Δ Λ' f azs hp=some r:=by
 unfold YY at h ⊢;split at h
 ·exact h
 ·split at h
  ·cases h
  grind [eU]
theorem eV{F:FuncId->Option AFn}{Γ Δ:Oracle}{Λ Λ':Yk}(hO:OLe Γ Δ)(hL:LLe Λ Λ'){f:FuncId}{azs:List AV}{hp:Heap}{r:ARes × Heap}(h:adefer F Γ Λ f azs hp=some r):adefer F Δ Λ' f azs hp=some r:=by
 unfold adefer at h ⊢;split at h
 ·split at h
  ·grind [yC]
  grind
 grind
theorem k8{F:FuncId->Option AFn}{prim:FuncId->Option Ya}{Γ Δ:Oracle}{Λ Λ':Yk}(hO:OLe Γ Δ)(hL:LLe Λ Λ'):OLe (acall F prim Γ Λ) (acall F prim Δ Λ'):=by
 intro k f azs hp r h;cases k with
 |fn=>exact uZ hO hL h
 |rnd=>exact absurd (show(none:Option (ARes × Heap))=some _ from h) (by simp)
 |dfr=>exact eV hO hL h
 |seq=>
  grind [acall,uZ]

theorem xW{F:FuncId->Option AFn}{prim:FuncId->Option Ya}:∀{n m:Nat},n<=m->OLe (asem F prim n) (asem F prim m)
 |0,_,_=>fun _ _ _ _ _ h=>by cases h
 |n+1,0,h=>by omega
 |n+1,m+1,h=>k8 (xW (by omega)) (Xn (xW (by omega)) (by omega))

noncomputable def sem(F:FuncId->Option AFn)(prim:FuncId->Option Ya):Oracle:=fun k f azs hp=>
 open Classical in if h:∃n r,asem F prim n k f azs hp=some r then some h.choose_spec.choose else none
noncomputable def sloop(F:FuncId->Option AFn)(prim:FuncId->Option Ya):Yk:=fun b m keep c st=>
 open Classical in if h:∃n r,aloop (asem F prim n) n b m keep c st=some r then some h.choose_spec.choose else none

variable{F:FuncId->Option AFn} {prim:FuncId->Option Ya}
theorem sem_iff{k:Kind}{f:FuncId}{azs:List AV}{hp:Heap}{r:ARes × Heap}:sem F prim k f azs hp=some r↔∃n,asem F prim n k f azs hp=some r:=by
 unfold sem;constructor
 ·intro h;split at h
  ·grind
  grind
 ·rintro⟨n,hn⟩;have he:∃n r,asem F prim n k f azs hp=some r:=⟨n,r,hn⟩;rw[dif_pos he];have h1:=xW (Z9 n he.choose) _ _ _ _ _ hn;have h2:=xW (zk n he.choose) _ _ _ _ _ he.choose_spec.choose_spec
  grind
theorem sloop_iff{b m:Nat}{keep:List Nat}{c:ACode}{st:St}{r:AExit × St}:sloop F prim b m keep c st=some r↔∃n,aloop (asem F prim n) n b m keep c st=some r:=by
 unfold sloop;constructor
 ·intro h;split at h
  ·grind
  grind
 ·rintro⟨n,hn⟩;have he:∃n r,aloop (asem F prim n) n b m keep c st=some r:=⟨n,r,hn⟩;rw[dif_pos he];have h1:=Xn (xW (F:=F) (prim:=prim) (Z9 n he.choose)) (Z9 n he.choose) _ _ _ _ _ _ hn;have h2:=Xn (xW (F:=F) (prim:=prim) (zk n he.choose)) (zk n he.choose) _ _ _ _ _ _ he.choose_spec.choose_spec
  grind
theorem k9{n:Nat}:OLe (asem F prim n) (sem F prim):=fun _ _ _ _ _ h=>sem_iff.2 ⟨n,h⟩
theorem u0{n:Nat}:LLe (aloop (asem F prim n) n) (sloop F prim):=fun _ _ _ _ _ _ h=>sloop_iff.2 ⟨n,h⟩
abbrev up{n m:Nat}(h:n<=m):OLe (asem F prim n) (asem F prim m):=xW h
theorem upl{n m:Nat}(h:n<=m):LLe (aloop (asem F prim n) n) (aloop (asem F prim m) m):=Xn (xW h) h

theorem Va{vs:List AV}{hp:Heap}{r:OpRes}(h:yI (sem F prim) hp vs=some r):∃n,yI (asem F prim n) hp vs=some r:=by
 cases vs with
 |nil=>cases h
 |cons a azs=>
  have gen:(match yn a with
    |some (g,first,captured)=>match sem F prim .fn g (first++azs++captured) hp with
     |some (.ret v,hp')=>some (OpRes.val v hp')
     |some (.panic v,hp')=>some (.panic v hp')
     |none=>none
    |none=>none)=some r->∃n,(match yn a with
    |some (g,first,captured)=>match asem F prim n .fn g (first++azs++captured) hp with
     |some (.ret v,hp')=>some (OpRes.val v hp')
     |some (.panic v,hp')=>some (.panic v hp')
     |none=>none
    |none=>none)=some r:=by
   intro h;split at h
   ·grind [sem_iff]
   grind
  cases a with
  |yield q=>
   grind [yI,sem_iff]
  |_=>exact gen h
theorem Vb{b:Nat}{op:AOp}{vs:List AV}{hp:Heap}{r:OpRes}(h:aOp (sem F prim) b op vs hp=some r):∃n,aOp (asem F prim n) b op vs hp=some r:=by
 cases op
 case call=>exact Va h
 case calln n=>
  grind [aOp,Q1,Va]
 case callg=>
  grind [aOp,xJ,Va]
 case callp=>
  simp only[aOp,xl] at h ⊢;split at h
  ·split at h
   ·grind [sem_iff]
   grind
  grind
 case callh=>
  simp only[aOp,Q0] at h ⊢;split at h
  ·split at h
   ·grind [sem_iff]
   grind
  grind
 all_goals exact⟨0,h⟩

theorem ju{b:Nat}:∀{ops:List AOper} {fr:Fr} {hp:Heap} {r:AExit × Fr × Heap},aops (sem F prim) b ops fr hp=some r->∃n,aops (asem F prim n) b ops fr hp=some r
 |[],_,_,_,h=>⟨0,h⟩
 |o::rest,fr,hp,r,h=>by
  simp only[aops] at h ⊢;split at h
  ·cases h
  ·exact ju h
  ·split at h
   ·cases h
   ·split at h
    ·rename_i ho;obtain⟨n,hn⟩:=Vb ho;obtain⟨m,hm⟩:=ju h;refine⟨max n m,?_⟩;rw[q7 (up (Z9 n m)) hn];exact Q5 (up (zk n m)) hm
    ·grind [Vb]
    grind

theorem u5{hp:Heap}{vs:List AV}{r:OpRes}(h:ya (sem F prim) hp vs=some r):∃n,ya (asem F prim n) hp vs=some r:=by
 unfold ya at h ⊢;split at h
 ·split at h
  ·grind [sem_iff]
  grind
 grind
theorem jv{b:Nat}:∀{l:List (AOper × Option (List AOper))} {fr:Fr} {hp:Heap} {r:AExit × Fr × Heap},YX (sem F prim) b l fr hp=some r->∃n,YX (asem F prim n) b l fr hp=some r
 |[],_,_,_,h=>⟨0,h⟩
 |(o,none)::rest,fr,hp,r,h=>by
  simp only[YX] at h ⊢;split at h
  ·cases h
  ·exact jv h
  ·split at h
   ·cases h
   ·split at h
    ·rename_i ho;obtain⟨n,hn⟩:=Vb ho;obtain⟨m,hm⟩:=jv h;refine⟨max n m,?_⟩;rw[q7 (up (Z9 n m)) hn];exact Q6 (up (zk n m)) hm
    grind
 |(o,some later)::rest,fr,hp,r,h=>by
  simp only[YX] at h ⊢;split at h
  ·cases h
  ·split at h
   ·rename_i ho;obtain⟨n,hn⟩:=u5 ho;obtain⟨m,hm⟩:=jv h;refine⟨max n m,?_⟩;simp only[js (up (Z9 n m)) hn];exact Q6 (up (zk n m)) hm
   ·rename_i ho;obtain⟨n,hn⟩:=u5 ho;split at h
    ·rename_i hl;obtain⟨m,hm⟩:=ju hl;refine⟨max n m,?_⟩;simp only[js (up (Z9 n m)) hn,Q5 (up (zk n m)) hm];exact h
    grind
   grind

theorem QJ{b:Nat}:∀{c:ACode} {st:St} {r:AExit × St},aexec (sem F prim) (sloop F prim) b c st=some r->∃n,aexec (asem F prim n) (aloop (asem F prim n) n) b c st=some r:=by
 intro c
 induction c with
 |skip=>intro st r h;exact⟨0,h⟩
 |settle l=>intro st r h;exact⟨0,h⟩
 |doom l keep=>
  grind [aexec,jv]
 |region pan ops keep=>
  grind [aexec,ju]
 |seq x y ihx ihy=>
  intro st r h;simp only[aexec] at h ⊢;split at h
  ·rename_i ho;obtain⟨n,hn⟩:=ihx ho;obtain⟨m,hm⟩:=ihy h;refine⟨max n m,?_⟩;rw[yC (up (Z9 n m)) (upl (Z9 n m)) hn];exact yC (up (zk n m)) (upl (zk n m)) hm
  grind
 |cond c x y ihx ihy=>
  grind [aexec]
 |block id c ih=>
  grind [aexec]
 |loop keep c ih=>intro st r h;exact sloop_iff.1 h
 |exit id=>intro st r h;exact⟨0,h⟩
 |ret=>intro st r h;exact⟨0,h⟩

theorem eW{op:ATop}{st:St}{ds:List AV}{r:AExit × St × List AV}(h:atop (sem F prim) op st ds=some r):∃n,atop (asem F prim n) op st ds=some r:=by
 cases op with
 |dfr s=>exact⟨0,h⟩
 |range self f ps env=>
  simp only[atop] at h ⊢;split at h
  ·cases h
  ·split at h
   ·grind [sem_iff]
   grind
theorem u6{b:Nat}:∀{l:List (ATop × ACode)} {c:ACode} {st:St} {ds:List AV} {r:AExit × St × List AV},apieces (sem F prim) (sloop F prim) b l c st ds=some r->∃n,apieces (asem F prim n) (aloop (asem F prim n) n) b l c st ds=some r
 |[],c,st,ds,r,h=>by
  grind [apieces,QJ]
 |(op,c2)::l,c,st,ds,r,h=>by
  simp only[apieces] at h ⊢;split at h
  ·rename_i ho;obtain⟨n,hn⟩:=QJ ho;split at h
   ·rename_i ha;obtain⟨m,hm⟩:=eW ha;obtain⟨k,hk⟩:=u6 h;refine⟨max n (max m k),?_⟩;rw[yC (up (by omega:n<=max n (max m k))) (upl (by omega)) hn];simp only[uX (up (by omega:m<=max n (max m k))) hm];exact jt (up (by omega:k<=max n (max m k))) (upl (by omega)) hk
   grind
  ·grind [QJ]
  grind
theorem jw:∀{ds:List AV} {p:Option PV} {hp:Heap} {r:Option PV × Heap},aunwind (sem F prim) ds p hp=some r->∃n,aunwind (asem F prim n) ds p hp=some r
 |[],p,hp,r,h=>⟨0,h⟩
 |c::ds,p,hp,r,h=>by
  simp only[aunwind] at h ⊢;split at h
  ·split at h
   ·rename_i hg;obtain⟨n,hn⟩:=sem_iff.1 hg;obtain⟨m,hm⟩:=jw h;refine⟨max n m,?_⟩;simp only[up (F:=F) (prim:=prim) (Z9 n m) _ _ _ _ _ hn];exact q8 (up (zk n m)) hm
   grind
  grind
theorem eX{fn:AFn}{q:AExit × St × List AV}{r:ARes × Heap}(h:aleave (sem F prim) fn (some q)=some r):∃n,aleave (asem F prim n) fn (some q)=some r:=by
 obtain⟨e,st,ds⟩:=q;cases e with
 |exit i=>cases h
 |normal=>
  grind [aleave,jw]
 |ret=>
  grind [aleave,jw]
 |panic v=>
  grind [aleave,jw]
theorem eY{fn:AFn}{args:List AV}{hp:Heap}{r:ARes × Heap}(h:abody (sem F prim) (sloop F prim) fn args hp=some r):∃n,abody (asem F prim n) (aloop (asem F prim n) n) fn args hp=some r:=by
 unfold abody at h ⊢;split at h
 ·cases h
 ·rename_i hn;simp only[Zb hn];cases hmore:fn.more with
  |nil=>
   grind [QJ]
  |cons x l=>
   simp only[hmore] at h ⊢;cases hq:apieces (sem F prim) (sloop F prim) hp.length (x::l) fn.code ⟨params 0 args,hp⟩ [] with
   |none=>rw[hq] at h;cases h
   |some q=>
    rw[hq] at h;obtain⟨n,hn⟩:=u6 hq;obtain⟨m,hm⟩:=eX h;refine⟨max n m,?_⟩;rw[jt (up (Z9 n m)) (upl (Z9 n m)) hn];exact uY (up (zk n m)) hm

theorem u7{f:FuncId}{azs:List AV}{hp:Heap}{r:ARes × Heap}(h:YY F prim (sem F prim) (sloop F prim) f azs hp=some r):∃n,YY F prim (asem F prim n) (aloop (asem F prim n) n) f azs hp=some r:=by
 unfold YY at h ⊢;split at h
 ·simp_all
 ·split at h
  ·cases h
  grind [eY]
theorem eZ{f:FuncId}{azs:List AV}{hp:Heap}{r:ARes × Heap}(h:adefer F (sem F prim) (sloop F prim) f azs hp=some r):∃n,adefer F (asem F prim n) (aloop (asem F prim n) n) f azs hp=some r:=by
 unfold adefer at h ⊢;split at h
 ·split at h
  ·split at h
   ·grind [QJ]
   grind
  grind
 grind
theorem Ha{k:Kind}{f:FuncId}{azs:List AV}{hp:Heap}{r:ARes × Heap}(h:acall F prim (sem F prim) (sloop F prim) k f azs hp=some r):∃n,acall F prim (asem F prim n) (aloop (asem F prim n) n) k f azs hp=some r:=by
 cases k with
 |fn=>exact u7 h
 |rnd=>exact absurd (show(none:Option (ARes × Heap))=some _ from h) (by simp)
 |dfr=>exact eZ h
 |seq=>
  grind [acall,u7]

theorem Vc(k:Kind)(f:FuncId)(azs:List AV)(hp:Heap):sem F prim k f azs hp=acall F prim (sem F prim) (sloop F prim) k f azs hp:=by
 have to:∀r,sem F prim k f azs hp=some r↔acall F prim (sem F prim) (sloop F prim) k f azs hp=some r:=fun r=>by
  constructor
  ·intro h;obtain⟨n,hn⟩:=sem_iff.1 h;cases n with
   |zero=>cases hn
   |succ n=>exact k8 k9 u0 _ _ _ _ _ hn
  ·intro h;obtain⟨n,hn⟩:=Ha h;exact sem_iff.2 ⟨n+1,hn⟩
 exact Option.ext fun r=>to r

theorem X3(f:FuncId)(azs:List AV)(hp:Heap):sem F prim .fn f azs hp=YY F prim (sem F prim) (sloop F prim) f azs hp:=Vc .fn f azs hp
theorem Hb(f:FuncId)(azs:List AV)(hp:Heap):sem F prim .dfr f azs hp=adefer F (sem F prim) (sloop F prim) f azs hp:=Vc .dfr f azs hp

theorem u9(b m:Nat)(keep:List Nat)(c:ACode)(st:St):sloop F prim b m keep c st=match aexec (sem F prim) (sloop F prim) b c st with
  |some (.normal,st')=>sloop F prim b m keep c ⟨st'.fr.keep keep,collect m b (st'.fr.keep keep) st'.hp⟩
  |r=>r:=by
 have to:∀r,sloop F prim b m keep c st=some r↔(match aexec (sem F prim) (sloop F prim) b c st with
  |some (.normal,st')=>sloop F prim b m keep c ⟨st'.fr.keep keep,collect m b (st'.fr.keep keep) st'.hp⟩
  |r=>r)=some r:=fun r=>by
  constructor
  ·intro h;obtain⟨n,hn⟩:=sloop_iff.1 h;cases n with
   |zero=>cases hn
   |succ n=>
    simp only[aloop] at hn;have hle:LLe (aloop (asem F prim (n+1)) n) (sloop F prim):=(Xn (OLe.refl _) (by omega:n<=n+1)).trans u0;split at hn
    ·rename_i ho;rw[yC k9 hle ho];exact hle _ _ _ _ _ _ hn
    grind [yC,k9]
  ·intro h;split at h
   ·rename_i ho;obtain⟨n,hn⟩:=QJ ho;obtain⟨k,hk⟩:=sloop_iff.1 h;refine sloop_iff.2 ⟨max n k+1,?_⟩;simp only[aloop];rw[yC (up (by omega:n<=max n k+1)) (Xn (up (by omega)) (by omega)) hn];exact Xn (up (by omega:k<=max n k+1)) (by omega) _ _ _ _ _ _ hk
   ·rename_i hne;obtain⟨n,hn⟩:=QJ h;refine sloop_iff.2 ⟨n+1,?_⟩;simp only[aloop];rw[yC (up (by omega:n<=n+1)) (Xn (up (by omega)) (by omega)) hn]
    grind
 exact Option.ext fun r=>to r

theorem Hc{P:Program}(hmix:P.follows .mixedOrders=true)(hF:QI P F)(hP:xV P prim):SoundO P (sem F prim) where
 fn f azs hp r hp' h:=by
  obtain⟨n,hn⟩:=sem_iff.1 h;exact(Q4 hmix hF hP n).fn f azs hp r hp' hn
 seq f azs hp r hp' h:=by
  obtain⟨n,hn⟩:=sem_iff.1 h;exact(Q4 hmix hF hP n).seq f azs hp r hp' hn
 rnd f q azs hp v hp' ps env h:=by
  obtain⟨n,hn⟩:=sem_iff.1 h;exact(Q4 hmix hF hP n).rnd f q azs hp v hp' ps env hn
 dfr g p azs hp r hp' h:=by
  obtain⟨n,hn⟩:=sem_iff.1 h;exact(Q4 hmix hF hP n).dfr g p azs hp r hp' hn
end Go.Am

/- A table of functions. -/
namespace Go.Am
def q9(P:Program)(tab:List (Nat × AFn)):Prop:=∀x∈tab,∃fnc,P.funcs[x.1]? =some fnc/\trFn P x.2.heapMode x.1 fnc=some x.2
theorem Hd{P:Program}:q9 P []:=fun x h=>by simp at h
theorem zI{P:Program}{f:Nat}{g:AFn}{fnc:Func}{r:List (Nat × AFn)}(h:P.funcs[f]? =some fnc)(t:trFn P g.heapMode f fnc=some g)(k:q9 P r):q9 P ((f,g)::r):=by
 intro x hx;simp only[Zy] at hx;rcases hx with rfl|hx
 ·exact⟨fnc,h,t⟩
 ·exact k x hx
def find:List (Nat × AFn)->FuncId->Option AFn
 |[],_=>none
 |(k,g)::r,f=>bif Nat.beq k f then some g else find r f
theorem find_mem:∀{tab:List (Nat × AFn)} {f:FuncId} {g:AFn},find tab f=some g->(f,g)∈tab
 |[],_,_,h=>by cases h
 |(k,x)::r,f,g,h=>by
  simp only[find] at h;cases hk:Nat.beq k f with
  |true=>
   rw[hk] at h;cases h;simp[ZM hk]
  |false=>
   rw[hk] at h;exact Zw _ (find_mem h)
theorem He{P:Program}{tab:List (Nat × AFn)}(h:q9 P tab):QI P (find tab):=fun f fn hf=>h (f,fn) (find_mem hf)
end Go.Am

/- Contracts by hand: what the library has no body for. -/
namespace Go.Am
variable{P:Program}

def X4(P:Program)(f:FuncId)(p:Ya):Prop:=
 ∀args hp r hp',p f args hp=some (r,hp')->∀(w:World) (X:Xc P) (μ:Nat->Option Nat) (vs:List Value),HR w X μ hp->LR w X μ hp args vs->Called P f vs.toArray w (yX hp.length w X μ hp r hp')

theorem Hf:xV P (fun _=>none):=fun f p h=>by cases h
theorem Ja{prim:FuncId->Option Ya}{f:FuncId}{p:Ya}(h:X4 P f p)(k:xV P prim):xV P (fun g=>bif Nat.beq f g then some p else prim g):=by
 intro g q hq;cases hk:Nat.beq f g with
 |true=>
  simp only[hk,cond_true] at hq;cases hq;have:=ZM hk;subst this;exact h
 |false=>
  simp only[hk,cond_false] at hq;exact k g q hq
end Go.Am

/- From a run of the abstract machine to what a law's row wants. -/
namespace Go.Am
open Go.ChangeShapes Go.WideShapes Go.ChangeAt Go.RowKit
variable{P:Program} {H:Type} {enc:TypeId × Value->H}

theorem Hg{f:FuncId}{fn:Func}{c:Code}{args:Array Value}{w:World}{R:Ending->World->Prop}(hf:P.funcs[f]? =some fn)(hb:fn.body=some c)(hn:fn.name≠ "runtime.NumGoroutine")
  (h:Called P f args w R):Calls P f args w R:=by
 rcases h with⟨_,h⟩|⟨v,w',h,_⟩
 ·exact h
 grind [xU]

abbrev noX:Xc P:=⟨fun _=>False⟩
abbrev noμ:Nat->Option Nat:=fun _=>none

theorem Hh(w:World)(ht:TabR P w fun _=>True):HR w (noX (P:=P)) noμ []:=
 ⟨fun i _ _ hi=>by grind,fun i _ hi=>by grind,fun b hb=>hb.elim,fun i sh v h=>by grind,fun i sh es fz h=>by grind,fun i sh es h=>by grind,fun i f ps env bz h=>by grind,fun i sh es h=>by grind,ht.mono fun h=>h.mono fun _ _ _ _ _ hb=>⟨⟨fun h=>h.elim,fun i hi=>by grind⟩,hb⟩⟩

theorem Hi{b0:Nat}{X:Xc P}{μ μ':Nat->Option Nat}{hp':Heap}{w w':World}(h:Ext b0 X μ [] w μ' hp' w'):Below w.heap.size w w':=
 ⟨h.os,h.tape,h.output,h.size,fun k hk=>h.blk k hk fun i hi=>by grind [live]⟩

theorem Hj{w w':World}(h:Below w.heap.size w w')(may:MemPlace->Prop):w.keptBut w' may:=by
 refine⟨h.os,h.output,fun i hi=> ?_⟩;rw[h.block i hi]
 grind

theorem Ga(hl:laidOutB P=true){W W':World}(hb:Below W.heap.size W W'):∀{ts:List TypeId} {vs:List Value} {ds:List (DataW H)} {p:List MemPlace},
  (∀t∈ts,P.readableRec t=true/\t<P.types.size)->(∀x∈p,x.block<W.heap.size)->DataW.TrodAll enc P W 0 (fun _=>true) true ts vs ds p->DataW.TrodAll enc P W' 0 (fun b=>decide (b<W.heap.size)) true ts vs ds p
 |[],_,_,_,_,_,h=>by
  obtain⟨rfl,rfl,rfl⟩:=trodAll_nil h;exact trodAll_mk0
 |t::ts,_,_,_,ht,hp,h=>by
  obtain⟨v,vs,d,ds,a,b,rfl,rfl,rfl,h1,h2⟩:=trodAll_cons h;obtain⟨k1,k2⟩:=ht t (by simp);exact⟨a,b,Below.trod hl k1 k2 h1 hb fun x hx=>hp x (by grind),Ga hl hb (fun t h=>ht t (by simp[h])) (fun x hx=>hp x (by grind)) h2,rfl⟩

def Hk(P:Program)(fn:Func):Bool:=fn.params.toList.all fun t=>P.readableRec t && decide (t<P.types.size)
def Gb(P:Program)(fn:Func):Bool:=
 match fn.resultTypes.toList with
 |[t]=>JS P t
 |_=>false
def Gc(P:Program)(fn:Func):Bool:=Hk P fn && Gb P fn && fn.body.isSome && !(fn.name == "runtime.NumGoroutine")

theorem Hl{Γ:Oracle}(hΓ:SoundO P Γ){f:FuncId}{fn:Func}(hf:P.funcs[f]? =some fn)(hfn:Gc P fn=true)(hl:laidOutB P=true){s:ChangeSpec}(hv:s.vars=[])
  {W:World}{args:Array Value}{ds gs:List (DataW H)}{before:List MemPlace}(hs:s.fn H (ds++gs)={ results:=[.lit (.bool true)],args:=ds })
  (hW:DataW.Whole enc P fn.params.toList s.vars false W args.toList ds gs before)
  {avs:List AV}(hL:LR W (noX (P:=P)) noμ [] avs args.toList)(h:Γ .fn f avs []=some (.ret (.pv none (.bool true)),[]))(ht:TabR P W fun _=>True):
  Calls P f args W fun e W'=>∃v,e=.returned v/\s.post enc P fn false true false false W args v W':=by
 simp only[Gc,Zk,zz,beq_eq_false_iff_ne,Option.isSome_iff_exists] at hfn;obtain⟨⟨⟨hp,hbr⟩,c,hb⟩,hn⟩:=hfn;obtain⟨tb,hr,htb⟩:∃tb,fn.resultTypes= #[tb]/\P.underlying tb=some .bool:=by
  grind [Gb,vR]
 have k:=hΓ.fn f avs [] _ _ h W noX noμ args.toList (Hh W ht) hL;refine(Hg hf hb hn k).mono fun e W' he=> ?_;cases e with
 |returned u=>
  obtain⟨μ',v,e1,_,hE,hA⟩:=he;cases e1;cases hA with|pv _ _ _ _ hA=>
  cases hA;have hB:=Hi hE;refine⟨_,rfl,ds,gs,before,[],before,[],hW,?_,?_,?_,Hj hB _,fun h=>by cases h⟩
  ·grind [Value.resultList,trodAll_mk1,shut_bool]
  ·rw[hs];have hlt:=hW.lt;obtain⟨p,q,k1,k2,k3,_,_⟩:=hW;rw[hv] at k2;obtain⟨_,rfl⟩:=trodVars_none k2;rw[ZL] at k3;subst k3;refine Ga hl hB (fun t ht=> ?_) hlt k1;have:=Zr.1 hp t ht
   grind
  ·rw[hs,hv];rfl
 |panicked ch=>obtain⟨_,_,_,e1,_⟩:=he;cases e1
 |outgrown=>exact he.elim
end Go.Am

/- The contract of slices.Insert, out of its three roads. -/
namespace Go.Am
variable{P:Program}
def yK(sh:Sh):Ya:=fun _ args hp=>match args with
 |[s,.pv _ (.int .i64 i),.tsl shx new]=>
  if shx=sh/\new≠[] then match s with
   | .sl s1 r ver off len=>
    if i=(len:Int) then(if len<=lim then match z8 sh hp [.sl s1 r ver off len,.tsl shx new] with
     |some (v,hp')=>some (.ret v,hp')
     |none=>none else none)
    else match hp[r]? with
     |some (.arr s' es false)=>if s1=sh/\s'=sh/\ver=es.length/\off=0/\len=es.length/\0<=i/\i<len/\len+new.length<=lim then
       some (.ret (.sl sh r (len+new.length) 0 (len+new.length)),hp.set r (.arr sh (es.take i.toNat++new++es.drop i.toNat) false)) else none
     |_=>none
   | .tsl s1 es=>if i=(es.length:Int)/\es.length<=lim then match z8 sh hp [.tsl s1 es,.tsl shx new] with
     |some (v,hp')=>some (.ret v,hp')
     |none=>none
    else none
   |_=>none
  else none
 |_=>none

structure InsRoads(P:Program)(f:FuncId)(t e:TypeId)(k:Nat):Prop where
 endr:∀(base:Option Addr) (n c vb voff m vc:Nat) (w w':World) (v':Value),0<m->n<=c->n<=lim->(Builtin.append_ #[t,t] t #[.slice base n c,.slice (some ⟨vb,voff,none⟩) m vc]).run P w=.ok v' w'->
  Calls P f #[.slice base n c,.int .i64 n,.slice (some ⟨vb,voff,none⟩) m vc] w fun E W=>E=.returned v'/\W=w'
 shift:∀(b n c i vb voff m vc:Nat) (cur:Array Value) (t0:TypeId) (vs:List Value) (w:World),i<n->0<m->n+m<=c->n+m<=lim->vb≠b->w.heap[b]? =some (.cells cur t0 (0,0))->cur.size=c*k->vs.length=m*k->
  (∀v∈(cur.toList.drop (i*k)).take ((n - i)*k),v.oneCell'=true)->(∀j v,vs[j]? =some v->w.cell? ⟨vb,voff+j,none⟩=some v)->(∀v∈vs,v.oneCell'=true)->∀(tA:TypeId) (kA:Nat),w.shape? vb=some (tA,kA)->kA≠0->
  ∃cur2:Array Value,cur2.toList=cur.toList.take (i*k)++vs++(cur.toList.drop (i*k)).take ((n - i)*k)++cur.toList.drop ((n+m)*k)/\
  Calls P f #[.slice (some ⟨b,0,none⟩) n c,.int .i64 i,.slice (some ⟨vb,voff,none⟩) m vc] w fun E w'=>E=.returned (.slice (some ⟨b,0,none⟩) (n+m) c)/\∃cur1,w'=(w.drew.setRow b cur1).setRow b cur2
 grow:∀(b n c i vb voff m vc:Nat) (cur:Array Value) (t0:TypeId) (vs:List Value) (w:World),i<n->0<m->n<=c->c<n+m->n+m<=lim->vb<w.heap.size->w.heap[b]? =some (.cells cur t0 (0,0))->cur.size=c*k->vs.length=m*k->
  (∀v∈(cur.toList.drop (i*k)).take ((n - i)*k),v.oneCell'=true)->(∀j v,vs[j]? =some v->w.cell? ⟨vb,voff+j,none⟩=some v)->(∀v∈vs,v.oneCell'=true)->
  ∃(row:Array Value) (G:Nat),n+m<=G/\row.size=G*k/\row.toList.take ((n+m)*k)=cur.toList.take (i*k)++vs++(cur.toList.drop (i*k)).take ((n - i)*k)/\
  Calls P f #[.slice (some ⟨b,0,none⟩) n c,.int .i64 i,.slice (some ⟨vb,voff,none⟩) m vc] w fun E w'=>
   E=.returned (.slice (some ⟨w.heap.size,0,none⟩) (n+m) G)/\w'.heap[w.heap.size]? =some (.cells row e (0,0))/\w'.heap.size=w.heap.size+1/\(∀x,x<w.heap.size->w'.heap[x]? =w.heap[x]?)/\w'.os=w.os/\w'.tape=w.tape/\w'.output=w.output

theorem Gd{b:Nat}{t e:TypeId}{x y:Value}{s q v:AV}{hp hp':Heap}{w:World}{X:Xc P}{μ:Nat->Option Nat}(ht:P.underlying t=some (.slice e))(hok:okT P e=true)(hz:Yt P e=true)(hby:YN P e=true)(hH:HR w X μ hp)
  (h1:AR w X μ hp s x)(h2:AR w X μ hp q y)(h:z8 (shOf P e) hp [s,q]=some (v,hp')):
  ∃v' w' μ',(Builtin.append_ #[t,t] t #[x,y]).run P w=.ok v' w'/\AR w' X μ' hp' v v'/\HR w' X μ' hp'/\Ext b X μ hp w μ' hp' w':=by
 obtain⟨n,v',w',μ',hr,hn,k1,k2,k3⟩:=Uu (b:=b) (ty:=t) ht hok hz hby hH (.cons h1 (.cons h2 .nil)) h;simp only[Sem.run_bind] at hr;cases hq:(Builtin.append_ #[t,t] t #[x,y]).run P w with
 |ok u w2=>
  grind [Result.andThen_ok,Sem.run_pure]
 |_=>simp_all
theorem Ge{w w':World}{X:Xc P}{μ:Nat->Option Nat}{hp:Heap}{sh:Sh}{rr b nb i G:Nat}{es new:List PV}{vals nvals:List Value}{cs row:Array Value}{t0 t1:TypeId}
  (hH:HR w X μ hp)(ho:hp[rr]? =some (.arr sh es false))(hpos:0<sh.size)(hE:ER w (Im X μ hp) sh es vals)(hN:ER w (Im X μ hp) sh new nvals)(hmu:μ rr=some b)(hb:w.heap[b]? =some (.cells cs t0 (0,0)))
  (hcells:cellsOf vals=cs.toList.take (es.length*sh.size))(hi:i<=es.length)(hm:0<new.length)(hnb:nb=b\/nb=w.heap.size)(hrow:w'.heap[nb]? =some (.cells row t1 (0,0)))
  (hoth:∀x,x<w.heap.size->x≠nb->w'.heap[x]? =w.heap[x]?)(hsz:w.heap.size<=w'.heap.size)(hos:w'.os=w.os)(htp:w'.tape=w.tape)(hout:w'.output=w.output)
  (hsame:nb=b->row.size=cs.size/\t1=t0)(hrs:row.size=G*sh.size)(hG:es.length+new.length<=G)
  (htk:row.toList.take ((es.length+new.length)*sh.size)=cs.toList.take (i*sh.size)++cellsOf nvals++(cs.toList.drop (i*sh.size)).take ((es.length - i)*sh.size)):
  yX hp.length w X μ hp (.ret (.sl sh rr (es.length+new.length) 0 (es.length+new.length))) (hp.set rr (.arr sh (es.take i++new++es.drop i) false)) (.returned (.slice (some ⟨nb,0,none⟩) (es.length+new.length) G)) w':=by
 have hrl:=(Zf.1 ho).1;have hbN:=yt hb;have hel:(es.take i++new++es.drop i).length=es.length+new.length:=by grind
 have hnbl:=yt hrow;have E:∀b0,Ext b0 X μ hp w (upd μ rr (some nb)) (hp.set rr (.arr sh (es.take i++new++es.drop i) false)) w':=fun b0=>
  Ext.setArr ho (by grind) (fun h=>by cases h) (fun h=>by grind) (fun k hk=>by
   grind) hos htp hout hsz (fun k hk hne=>hoth k hk (fun e=>by
    grind)) (fun k cs' t fr hk=>by
    grind)
 have hER:=((hE.take i).append hN).append (hE.drop i);have H:=hH.setArr ho (E 0) (fun k hk hne=>hoth k hk (fun e=>by
   grind)) (fun k hk=>by
   grind) (.inr ⟨nb,row,t1,vals.take i++nvals++vals.drop i,rfl,hrow,hER.1,(ER.ext (E 0) hER).2,?_⟩)
 ·refine⟨_,_,rfl,H,E _,?_⟩;refine .sl _ _ _ _ _ _ _ (es.take i++new++es.drop i) false (ZC hrl) (by omega) ⟨hG,by omega⟩ (fun _=>rfl) fun _=>⟨by omega,.inr ⟨nb,row,t1,zW _ _ _,hrow,by grind,fun _=>by simp⟩⟩
 ·rw[hel,htk,yJ,yJ,hE.cells_take i hi,hE.cells_drop i hi,hcells]
  grind [ZI,Zs]
theorem Gf{f:FuncId}{fn:Func}{c:Code}{t e:TypeId}(R:InsRoads P f t e (shOf P e).size)(hf:P.funcs[f]? =some fn)(hb:fn.body=some c)(hn:fn.name≠ "runtime.NumGoroutine")(ht:P.underlying t=some (.slice e))(hok:okT P e=true)(hz:Yt P e=true)(hby:YN P e=true):
  X4 P f (yK (shOf P e)):=by
 intro args hp r hp' h w X μ vs hH hl;have hlift:∀{K:Ending->World->Prop},Calls P f vs.toArray w K->Called P f vs.toArray w K:=fun h=>.inl ⟨xU hf hb hn,h⟩;unfold yK at h;split at h
 ·rename_i s sh0 i shx new;split at h
  ·rename_i hc;obtain⟨rfl,hnew⟩:=hc;have hm:0<new.length:=List.length_pos_iff.2 hnew;cases hl with|cons h1 hl=>
   cases hl with|cons h2 hl=>
   cases hl with|cons h3 hl=>
   cases hl;rename_i vs1 vs2 vs3;cases h2 with|pv _ _ _ _ h2=>
   cases h2;have h3':=h3;cases h3 with|tsl _ _ a hq=>
   have hq':=hq;cases hq with
   |nilsl=>grind
   |sl _ _ vb vo vn vcs vt vfr vvals hvl hvI hvb hv1 hv2 hvc hvn=>
   split at h
   ·rename_i s1 rr ver off len;split at h
    ·rename_i hi;split at h
     ·rename_i hlen;split at h
      ·rename_i v hp1 hap;cases h;obtain⟨v',w',μ',g1,g2,g3,g4⟩:=Gd (b:=hp.length) ht hok hz hby hH h1 h3' hap;cases h1 with|sl _ _ _ _ _ ba cap es fz ho hv hlc ha hcc=>
       subst hi;refine hlift ((R.endr ba len cap vb vo new.length new.length w w' v' hm hlc.1 hlen g1).mono fun E W hE=> ?_);obtain⟨rfl,rfl⟩:=hE;exact⟨μ',_,rfl,g3,g4,g2⟩
      grind
     grind
    ·rename_i hi;split at h
     ·rename_i s' es ho;split at h
      ·rename_i hcc;obtain⟨rfl,rfl,rfl,rfl,rfl,hi0,hil,hlim⟩:=hcc;cases h;obtain⟨j,rfl⟩:∃j:Nat,i=(j:Int):=⟨i.toNat,by omega⟩;have hjl:j<es.length:=by omega
       obtain⟨hpos,harr⟩:=hH.arr rr _ es false ho;have hN:ER w (Im X μ hp) (shOf P e) new vvals:=⟨hvl,fun k p v hp hv=>⟨hv1 k p v hp hv,hv2 k p v hp hv⟩⟩;have hNl:=hN.length;have hNc:=XW hvb hvc;cases h1 with|sl _ _ _ _ _ ba cap es1 fz1 ho1 hv1' hlc ha hcc=>
       rw[ho] at ho1;cases ho1;obtain⟨_,c2⟩:=hcc rfl;rcases harr with⟨h1,h2⟩|⟨b,cs,t0,vals,h1,h2,h3,h4,h5⟩
       ·grind
       have hE:ER w (Im X μ hp) (shOf P e) es vals:=⟨h3,h4⟩;have hEl:=hE.length;rcases c2 with⟨c3,_⟩|⟨b',cs',t',c3,c4,c5,c6⟩
       ·grind
       rw[h1] at c3;cases c3;rw[h2] at c4;cases c4;rw[ZK] at c5;have hba:=c6 (by omega);rw[Nat.zero_mul] at hba;subst hba;have hlive:live hp rr=true:=by grind [live]
       have hne:vb≠b:=fun e=>hvI.2 rr hlive (by grind);have hvcell:∀(k:Nat) v,(cellsOf vvals)[k]? =some v->w.cell? ⟨vb,vo+k,none⟩=some v:=fun k v hk=>by
        grind [Addr.add]
       have hoc:∀v∈(cs.toList.drop (j*(shOf P e).size)).take ((es.length - j)*(shOf P e).size),v.oneCell'=true:=fun v hv=>by
        have e2:(cs.toList.take (es.length*(shOf P e).size)).drop (j*(shOf P e).size)=(cs.toList.drop (j*(shOf P e).size)).take ((es.length - j)*(shOf P e).size):=by rw[Zs,Nat.sub_mul]
        rw[<-e2,<-h5] at hv;exact hE.flat v (List.mem_of_mem_drop hv)
       simp only[Int.toNat_natCast];by_cases hroom:es.length+new.length<=cap
       ·have hkA:vcs.size≠0:=by
         intro h0;have:=congrArg List.length hvc;have h00:vcs.toList=[]:=List.length_eq_zero_iff.1 (by grind);rw[hNl,h00] at this;simp at this;have:=Nat.mul_pos hm hpos;omega
        obtain⟨cur2,hc2,hcall⟩:=R.shift b es.length cap j vb vo new.length new.length cs t0 (cellsOf vvals) w hjl hm hroom hlim hne h2 c5.symm hNl hoc hvcell hN.flat vt vcs.size (by grind [World.shape?]) hkA;refine hlift (hcall.mono fun E W hE'=> ?_);obtain⟨rfl,cur1,rfl⟩:=hE';have hrow1:(w.drew.setRow b cur1).heap[b]? =some (.cells cur1 t0 (0,0)):=setRow_heap w.drew b cs cur1 t0 _ h2;have hrow2:=setRow_heap (w.drew.setRow b cur1) b cur1 cur2 t0 _ hrow1;have hc2l:cur2.size=cs.size:=by
         have:=congrArg List.length hc2;have hb1:j*(shOf P e).size<=es.length*(shOf P e).size:=ZI (by omega) (Zc _);have hb2:(es.length+new.length)*(shOf P e).size<=cap*(shOf P e).size:=ZI hroom (Zc _)
         grind [Nat.sub_mul]
        refine Ge hH ho hpos hE hN h1 h2 h5 (by omega) hm (.inl rfl) hrow2 (fun x _ hx=> ?_) (by simp_all) rfl rfl rfl (fun _=>⟨hc2l,rfl⟩) (by grind) hroom ?_
        ·simp[World.setRow,zl,Ne.symm hx];rfl
        ·rw[hc2];exact ZF (by
          have hb1:j*(shOf P e).size<=es.length*(shOf P e).size:=ZI (by omega) (Zc _);have hb2:(es.length+new.length)*(shOf P e).size<=cap*(shOf P e).size:=ZI hroom (Zc _)
          grind [Nat.sub_mul])
       ·obtain⟨row,G,g1,g2,g3,hcall⟩:=R.grow b es.length cap j vb vo new.length new.length cs t0 (cellsOf vvals) w hjl hm hlc.1 (by omega) hlim (yt hvb) h2 c5.symm hNl hoc hvcell hN.flat;refine hlift (hcall.mono fun E W hE'=> ?_);obtain⟨rfl,k1,k2,k3,k4,k5,k6⟩:=hE';exact Ge hH ho hpos hE hN h1 h2 h5 (by omega) hm (.inr rfl) k1 (fun x hx _=>k3 x hx) (by omega) k4 k5 k6 (fun e=>by grind) g2 g1 g3
      grind
     grind
   ·rename_i s1 es;split at h
    ·rename_i hi;obtain⟨hi,hlen⟩:=hi;split at h
     ·rename_i v hp1 hap;cases h;obtain⟨v',w',μ',g1,g2,g3,g4⟩:=Gd (b:=hp.length) ht hok hz hby hH h1 h3' hap;cases h1 with|tsl _ _ a1 hq1=>
      subst hi;refine hlift ((R.endr a1 es.length es.length vb vo new.length new.length w w' v' hm (Zc _) hlen g1).mono fun E W hE=> ?_);obtain⟨rfl,rfl⟩:=hE;exact⟨μ',_,rfl,g3,g4,g2⟩
     grind
    grind
   grind
  grind
 grind
end Go.Am

/- The contract of slices.Insert at the end of a slice. -/
namespace Go.Am
variable{P:Program}
end Go.Am

/- slices.Insert at arrays of the run's own that hold what shows references. -/
namespace Go.Am
variable{P:Program}
def xX(sh:Sh):Ya:=fun _ args hp=>match args with
 |[.slv s1 r ver off len,.pv _ (.int .i64 i),.slv sx rx verx offx lenx]=>match hp[r]?,hp[rx]? with
  |some (.arv s' es),some (.arv shx new)=>if(s1=sh/\s'=sh/\shx=sh)/\(ver=es.length/\off=0/\len=es.length)/\(verx=new.length/\offx=0/\lenx=new.length)/\r≠rx/\new≠[]/\(0<=i/\i<=len)/\len+new.length<=lim/\Xz hp.length r es new=true then
    some (.ret (.slv sh r (len+new.length) 0 (len+new.length)),hp.set r (.arv sh (es.take i.toNat++new++es.drop i.toNat))) else none
  |_,_=>none
 |_=>none
theorem Hm{f:FuncId}{fn:Func}{c:Code}{t e:TypeId}(R:InsRoads P f t e (shOf P e).size)(hf:P.funcs[f]? =some fn)(hb:fn.body=some c)(hn:fn.name≠ "runtime.NumGoroutine")(ht:P.underlying t=some (.slice e))(hok:okT P e=true)(hz:Yt P e=true)(hby:YN P e=true):
  X4 P f (xX (shOf P e)):=by
 intro args hp r hp' h w X μ vs hH hl;have hlift:∀{K:Ending->World->Prop},Calls P f vs.toArray w K->Called P f vs.toArray w K:=fun h=>.inl ⟨xU hf hb hn,h⟩;unfold xX at h;split at h
 ·rename_i s1 rr ver off len sh0 i sx rx verx offx lenx;split at h
  ·rename_i s' es shx new ho hox;split at h
   ·rename_i hcond;obtain⟨⟨rfl,rfl,rfl⟩,⟨rfl,rfl,rfl⟩,⟨rfl,rfl,rfl⟩,hne,hnew,⟨hi0,hil⟩,hlim,hrefs⟩:=hcond;cases h;have hm:0<new.length:=List.length_pos_iff.2 hnew;cases hl with|cons h1 hl=>
    cases hl with|cons h2 hl=>
    cases hl with|cons h3 hl=>
    cases hl;rename_i vs1 vs2 vs3;cases h2 with|pv _ _ _ _ h2=>
    cases h2;have h1':=h1;have h3':=h3;have hrl:=(Zf.1 ho).1;have hrx:=(Zf.1 hox).1;obtain⟨hpos,b,cs,t0,vals,g1,g2,g3,g4,g5⟩:=hH.arv rr _ es ho;obtain⟨_,vb,vcs,vt,nvals,q1,q2,q3,q4,q5⟩:=hH.arv rx _ new hox;have hE:EV w X μ hp (shOf P e) es vals:=⟨g3,g4⟩;have hN:EV w X μ hp (shOf P e) new nvals:=⟨q3,q4⟩;have hEl:=hE.length;have hNl:=hN.length;have hvb:vb≠b:=fun e=>hne (hH.inj rr rx b hrl hrx g1 (by grind));cases h1 with|slv _ _ _ _ _ base cap n ho1 hv1 hlc ha hcc=>
    rw[ho] at ho1;simp only[YP,Option.some.injEq,Prod.mk.injEq,true_and] at ho1;subst ho1;obtain⟨_,b',cs',t',c3,c4,c5,c6⟩:=hcc rfl;rw[g1] at c3;cases c3;rw[g2] at c4;cases c4;rw[ZK] at c5;cases h3 with|slv _ _ _ _ _ vbase vcap vn ho3 hv3 hlc3 ha3 hcc3=>
    rw[hox] at ho3;simp only[YP,Option.some.injEq,Prod.mk.injEq] at ho3;obtain⟨rfl,rfl⟩:=ho3;obtain⟨_,vb',vcs',vt',d3,d4,d5,d6⟩:=hcc3 rfl;rw[q1] at d3;cases d3;rw[q2] at d4;cases d4;have hvb0:=d6 (by grind);rw[Nat.zero_mul] at hvb0;subst hvb0;obtain⟨j,rfl⟩:∃j:Nat,i=(j:Int):=⟨i.toNat,by omega⟩;simp only[Int.toNat_natCast];have hqn:rr<hp.length->∀q∈AV.refsIn.gol new,q∈AV.refsIn.gol es:=UQ hrefs;have hqq:rr<hp.length->∀q∈AV.refsIn.gol (es.take j++new++es.drop j),q∈AV.refsIn.gol es:=by
     grind [UR,UT]
    by_cases hjl:j=es.length
    ·subst hjl;have hcells:new≠[]->∃ad,some (⟨vb,0,none⟩:Addr)=some ad/\∀(k:Nat) (u:Value),(cellsOf nvals)[k]? =some u->w.cell? (ad.add k)=some u:=fun _=>⟨_,rfl,XW (n:=new.length*(shOf P e).size) q2 (by grind)⟩;obtain⟨v',w',μ',a1,a2,a3,a4⟩:=UU (b:=hp.length) (ty:=t) (c:=vcap) ht hok hz hby hH ho h1' hN hcells hlim hqn;have e1:es.take es.length++new++es.drop (es.length+new.length)=es.take es.length++new++es.drop es.length:=by simp_all
     have e2:(es.take es.length++new++es.drop es.length).length=es.length+new.length:=by simp
     rw[e1] at a2 a3 a4;rw[e2] at a4;refine hlift ((R.endr base es.length cap vb 0 new.length vcap w w' v' hm hlc.1 (by omega) a1).mono fun E W hE'=> ?_);obtain⟨rfl,rfl⟩:=hE';exact⟨μ',_,rfl,a2,a3,a4⟩
    ·have hjlt:j<es.length:=by omega
     have hba:=c6 (by grind);rw[Nat.zero_mul] at hba;subst hba;have hEV:=((hE.take j).append hN).append (hE.drop j);have hel:(es.take j++new++es.drop j).length=es.length+new.length:=by grind
     have hcl:cs.toList.length=cs.size:=Zm;have hvcell:∀(k:Nat) v,(cellsOf nvals)[k]? =some v->w.cell? ⟨vb,0+k,none⟩=some v:=fun k v hk=>by
      have:=XW (o:=0) (n:=new.length*(shOf P e).size) q2 (vals:=nvals) (by grind) k v hk
      grind [Addr.add]
     have hdt:(cs.toList.take (es.length*(shOf P e).size)).drop (j*(shOf P e).size)=(cs.toList.drop (j*(shOf P e).size)).take ((es.length - j)*(shOf P e).size):=by rw[Zs,Nat.sub_mul]
     have hoc:∀v∈(cs.toList.drop (j*(shOf P e).size)).take ((es.length - j)*(shOf P e).size),v.oneCell'=true:=fun v hv=>by
      rw[<-hdt,<-g5] at hv;exact hE.flat v (List.mem_of_mem_drop hv)
     have hcc':cellsOf (vals.take j++nvals++vals.drop j)=cs.toList.take (j*(shOf P e).size)++cellsOf nvals++(cs.toList.drop (j*(shOf P e).size)).take ((es.length - j)*(shOf P e).size):=by
      rw[yJ,yJ,hE.cells_take j (by omega),hE.cells_drop j (by omega),g5,hdt,Zt,Z0 (ZI (by omega) (Zc _))]
     by_cases hroom:es.length+new.length<=cap
     ·have hkA:vcs.size≠0:=by
       intro h0;have:=congrArg List.length q5;have h00:vcs.toList=[]:=List.length_eq_zero_iff.1 (by grind);rw[hNl,h00] at this;simp at this;have:=Nat.mul_pos hm hpos;omega
      obtain⟨cur2,hc2,hcall⟩:=R.shift b es.length cap j vb 0 new.length vcap cs t0 (cellsOf nvals) w hjlt hm hroom hlim hvb g2 c5.symm hNl hoc hvcell hN.flat vt vcs.size (by grind [World.shape?]) hkA;refine hlift (hcall.mono fun E W hE'=> ?_);obtain⟨rfl,cur1,rfl⟩:=hE';have hrow1:(w.drew.setRow b cur1).heap[b]? =some (.cells cur1 t0 (0,0)):=setRow_heap w.drew b cs cur1 t0 _ g2;have hrow2:=setRow_heap (w.drew.setRow b cur1) b cur1 cur2 t0 _ hrow1;have hb1:j*(shOf P e).size<=es.length*(shOf P e).size:=ZI (by omega) (Zc _);have hb2:(es.length+new.length)*(shOf P e).size<=cap*(shOf P e).size:=ZI hroom (Zc _);have hc2l:cur2.size=cs.size:=by
       grind [Zm]
      have hoth:∀x,x≠b->((w.drew.setRow b cur1).setRow b cur2).heap[x]? =w.heap[x]? :=fun x hx=>by
       simp[World.setRow,zl,Ne.symm hx];rfl
      obtain⟨k1,k2,k3⟩:=qI hp.length (w':=(w.drew.setRow b cur1).setRow b cur2) (row:=cur2) (nb:=b) (cap:=cap) (t:=t0) hH ho (by grind) hqq hEV (.inl g1) hrow2 (fun k _ hk=>hoth k fun e=>hk (by grind)) (.inl (by grind)) (fun cs0 t1 fr hk=>by
        grind) (by simp_all) rfl rfl rfl (by
        rw[hcc',hel,hc2]
        grind [ZF,Zx]) (by grind) (es.length+new.length) (by grind) hroom (by grind) (some ⟨b,0,none⟩) rfl
      rw[hel] at k3;exact⟨_,_,rfl,k1,k2,k3⟩
     ·obtain⟨row,G,a1,a2,a3,hcall⟩:=R.grow b es.length cap j vb 0 new.length vcap cs t0 (cellsOf nvals) w hjlt hm hlc.1 (by omega) hlim (yt q2) g2 c5.symm hNl hoc hvcell hN.flat;refine hlift (hcall.mono fun E W hE'=> ?_);obtain⟨rfl,r1,r2,r3,r4,r5,r6⟩:=hE';obtain⟨k1,k2,k3⟩:=qI hp.length (w':=W) (row:=row) (nb:=w.heap.size) (cap:=G) (t:=e) hH ho (by grind) hqq hEV (.inr ⟨rfl,by grind⟩) r1 (fun k hk _=>r3 k hk) (.inr r3) (fun cs0 t1 fr hk=>by grind) (by omega) r4 r5 r6 (by grind) a2.symm (es.length+new.length) (by grind) a1 (by grind) (some ⟨w.heap.size,0,none⟩) rfl;rw[hel] at k3;exact⟨_,_,rfl,k1,k2,k3⟩
   grind
  grind
 grind
end Go.Am

/- A function that writes out a map with keys of several parts: its entries come in any order. -/
namespace Go.Am
variable{P:Program} {w:World} {X:Xc P} {μ:Nat->Option Nat} {hp:Heap}

def Jb(sh:Sh)(es:List (PV × PV)):Ya:=fun _ args hp=>match args with
 |[]=>some (.ret (.map hp.length),hp++[.map sh es])
 |_=>none

theorem Gg{α β:Type}{f:α->β}:∀(ys:List β) (xs:List α),(xs.map f).Perm ys->∃l:List α,l.Perm xs/\l.map f=ys
 |[],xs,h=>⟨[],by simp_all,rfl⟩
 |y::ys,xs,h=>by
  obtain⟨x,hx,hy⟩:=zd.1 (h.mem_iff.2 (ZG (a:=y) (l:=ys)));obtain⟨s,t,rfl⟩:=List.append_of_mem hx;have h2:((s++t).map f).Perm ys:=by
   have e:((s++x::t).map f).Perm (y::(s++t).map f):=by
    simp_all
   exact(e.symm.trans h).cons_inv
  obtain⟨l,l1,l2⟩:=Gg ys (s++t) h2;exact⟨x::l,(l1.cons x).trans List.perm_middle.symm,by grind⟩

theorem Hn{tm tk te:TypeId}{ds:List Nat}(ht:P.underlying tm=some (.map tk te))(hk:yi P tk=some ds){b:Nat}{ents:Array MapEntry}{clock:Nat}(hb:w.heap[b]? =some (.map ents clock)){k:List (Sh × PV)}{kv fv:Value}(h1:PR w (fun _=>True) (.agg k) kv)
  (hkk:Yd ds k k=some true)(hne:∀e∈ents.toList,∃k',PR w (fun _=>True) (.agg k') e.key/\Yd ds k k'=some false):
  (Instr.mapUpdate tm (.map (some b)) kv fv).run P w=.ok () { w with heap:=w.heap.setIfInBounds b (.map (ents.push { key:=kv,val:=fv,born:=clock }) (clock+1)) }:=by
 obtain⟨q,q1,q2⟩:=K4 (P:=P) (w:=w) (I:=fun _=>True) (t:=tk) (sh:=none) (kv:=kv) (r:=none) ents.toList 0 fun e he=>by
  obtain⟨k',g1,g2⟩:=hne e he;exact⟨false,KY hk h1 g1 g2,fun h=>by cases h⟩
 have hq:q=none:=by
  grind
 subst hq;have hts:∃fs,P.underlying tk=some (.struct fs):=by
  grind [yi]
 obtain⟨fs,hts⟩:=hts;have hrun:(Instr.findKey tk kv ents.toList).run P w=.ok none w:=by
  unfold Instr.findKey;simp only[Sem.run_bind,run_underlying hts,Result.andThen_ok];cases he:ents.toList with
  |nil=>simp[Instr.findNow]
  |cons x rest=>
   grind [Instr.findNow,Instr.sameNow]
 simp[Instr.mapUpdate,run_underlying ht,QD hb,KZ _ hk h1 hkk,hrun,KX _ hb]

structure Lit(P:Program)(ops:Array Oper)(N nt t0 t1 t2:Nat)(tm tk:TypeId)(d:Nat->Nat)(s:Nat->List UInt8)(n:Nat->Int)(f:Nat->FuncId):Prop where
 sz:ops.size=2*N+3
 o0:∃o,ops[0]? =some o/\o.guard=none/\o.dst=some t1/\o.op=.makeMap tm none
 ob:∀e,e<N->∃o,ops[2*e+1]? =some o/\o.guard=none/\o.dst=some (d e)/\o.op=.build tk #[(0,.const (.string ⟨(s e).toArray⟩)),(1,.const (.int .i64 (n e)))]
 oi:∀e,e<N->∃o,ops[2*e+2]? =some o/\o.guard=none/\o.dst=none/\o.op=.insert tm (.tmp t1) (.tmp (d e)) (.func (f e))/\(∃x∈o.after,Region.binds .any x=true/\x.on=0)/\∃x∈o.after,Region.binds .any x=true/\x.on=2*e+1
 om:∃o,ops[2*N+1]? =some o/\o.guard=none/\o.dst=some t2/\o.op=.move (.tmp t1)/\∃x∈o.after,Region.binds .any x=true/\x.on=0
 oa:∃o,ops[2*N+2]? =some o/\o.guard=none/\o.dst=some t0/\o.op=.assign (.tmp t2)/\∃x∈o.after,Region.binds .any x=true/\x.on=2*N+1
 lt:t0<nt/\t1<nt/\t2<nt/\∀e,e<N->d e<nt
 ne:t0≠t1/\t0≠t2/\t1≠t2/\∀e,e<N->d e≠t0/\d e≠t1/\d e≠t2/\∀e',e'<N->e≠e'->d e≠d e'

abbrev kP(s:Nat->List UInt8)(n:Nat->Int)(e:Nat):List (Sh × PV):=[(none,.str (s e)),(none,.int .i64 (n e))]
abbrev kV(s:Nat->List UInt8)(n:Nat->Int)(e:Nat):Value:=.agg #[.string ⟨(s e).toArray⟩,.int .i64 (n e)]
abbrev fV(f:Nat->FuncId)(e:Nat):Value:=.func (.func (f e)) #[] #[]
theorem Vd(w:World)(I:Nat->Prop)(s:Nat->List UInt8)(n:Nat->Int)(e:Nat):PR w I (.agg (kP s n e)) (kV s n e):=
 .agg _ [.string ⟨(s e).toArray⟩,.int .i64 (n e)] rfl (fun i x v hx hv=>by
  match i,hx,hv with
  |0,hx,hv=>simp at hx hv;subst hx;subst hv;rfl
  |1,hx,hv=>simp at hx hv;subst hx;subst hv;rfl) (fun i x v hx hv=>by
  match i,hx,hv with
  |0,hx,hv=>simp at hx hv;subst hx;subst hv;exact .str _
  |1,hx,hv=>simp at hx hv;subst hx;subst hv;exact .int _ _)

structure LI(w0:World)(N nt t0 t1 t2:Nat)(d:Nat->Nat)(s:Nat->List UInt8)(n:Nat->Int)(f:Nat->FuncId)(L:Array Bool)(a:Act)(w:World):Prop where
 sz:L.size=2*N+3
 ds:a.defers=[]
 tz:a.tmps.size=nt
 m1:L.getD 0 false=true->a.tmps[t1]? =some (.map (some w0.heap.size))
 mb:∀e,e<N->L.getD (2*e+1) false=true->a.tmps[d e]? =some (kV s n e)
 m2:L.getD (2*N+1) false=true->a.tmps[t2]? =some (.map (some w0.heap.size))
 m0:L.getD (2*N+2) false=true->a.tmps[t0]? =some (.map (some w0.heap.size))
 pre:L.getD 0 false=false->w=w0/\∀e,e<N->L.getD (2*e+2) false=false
 post:L.getD 0 false=true->∃(ents:Array MapEntry) (clock:Nat),w={ w0 with heap:=w0.heap.push (.map ents clock) }/\(ents.toList.map fun e=>(e.key,e.val)).Nodup/\
  ∀x,x∈ents.toList.map (fun e=>(e.key,e.val))↔∃e,e<N/\L.getD (2*e+2) false=true/\x=(kV s n e,fV f e)

theorem Q7{o:Oper}{a:Act}{w':World}{nx:Next}{v:Value}{K:Act->World->Prop}{Q:Exit->Act->World->Prop}{ro:Option Nat}(hnd:∀c,o.op≠.defer c)(h:(execOp a.eval o).run P w=.ok nx w')(hv:nx=.value v\/(nx=.skip/\v=undef))(hK:K (a.put o.dst v) w'):o.wpIn (Fe ro) 0 P a w K Q:=by
 refine⟨fun _ _=>trivial,?_⟩;rw[Oper.semAt_eq _ _ _ hnd,h];rcases hv with rfl|⟨rfl,rfl⟩
 ·exact hK
 ·exact hK

theorem Q8{ops:Array Oper}{i:Nat}{o:Oper}{a:Act}{K:Act->World->Prop}{Q:Exit->Act->World->Prop}{ro:Option Nat}(ho:ops[i]? =some o)(hg:o.guard=none)(h:o.wpIn (Fe ro) 0 P a w K Q):wpOpIn (Fe ro) 0 P ops Q i K a w:=by
 grind [wpOpIn,Region.wanted]
theorem yD(a:Act)(t:Nat)(v:Value)(j:Nat)(ht:t<a.tmps.size):(a.put (some t) v).tmps[j]? =if j=t then some v else a.tmps[j]? :=by
 show(a.tmps.setIfInBounds t v)[j]? =_
 grind
theorem jx{a:Act}{t:Nat}{v:Value}(h:a.tmps[t]? =some v):a.eval (.tmp t)=v:=by
 show a.tmps.getD t undef=v;simp_all
theorem Gh{L:Array Bool}{i j:Nat}(h:i<L.size):(L.setIfInBounds i true).getD j false=if j=i then true else L.getD j false:=by
 rw[Z7,Z7,Array.getElem?_setIfInBounds]
 grind

section
variable{ops:Array Oper} {N nt t0 t1 t2:Nat} {tm tk te:TypeId} {d:Nat->Nat} {s:Nat->List UInt8} {n:Nat->Int} {f:Nat->FuncId} {w0:World} {ro:Option Nat} {g:FuncId}

theorem Ho{ds:List Nat}(T:Lit P ops N nt t0 t1 t2 tm tk d s n f)(ht:P.underlying tm=some (.map tk te))(hk:yi P tk=some ds)(hkk:∀e,e<N->Yd ds (kP s n e) (kP s n e)=some true)(hkn:∀e e',e<N->e'<N->e≠e'->Yd ds (kP s n e) (kP s n e')=some false)
  (hbuild:∀(w:World) e,e<N->(Instr.build tk #[(0,.string ⟨(s e).toArray⟩),(1,.int .i64 (n e))]).run P w=.ok (kV s n e) w){Q:Exit->Act->World->Prop}{L:Array Bool}{a:Act}{i:Nat}(D:LI w0 N nt t0 t1 t2 d s n f L a w)(hi:i∈Region.ready .any ops L):
  wpOpIn (Fe ro) 0 P ops Q i (fun a' w'=>LI w0 N nt t0 t1 t2 d s n f (L.setIfInBounds i true) a' w') a w:=by
 obtain⟨o',ho',hL,haft⟩:=mem_ready.1 hi;have hil:i<2*N+3:=by rw[<-T.sz];grind
 have hiL:i<L.size:=by grind
 have hLf:L.getD i false=false:=by grind
 have before:∀{o:Oper} {j:Nat},ops[i]? =some o->(∃x∈o.after,Region.binds .any x=true/\x.on=j)->L.getD j false=true:=by
  grind
 have sz':(L.setIfInBounds i true).size=2*N+3:=by simp[D.sz]
 have gp:∀j,(L.setIfInBounds i true).getD j false=if j=i then true else L.getD j false:=fun j=>Gh hiL
 obtain⟨l0,l1,l2,ld⟩:=T.lt;obtain⟨n01,n02,n12,nd⟩:=T.ne;have cases_:i=0\/(∃e,e<N/\i=2*e+1)\/(∃e,e<N/\i=2*e+2)\/i=2*N+1\/i=2*N+2:=by
  rcases Nat.eq_zero_or_pos i with h|h
  ·grind
  ·rcases Zn i (2*N+1) with h1|h1
   ·rcases Nat.mod_two_eq_zero_or_one i with h2|h2
    ·exact .inr (.inr (.inl ⟨i / 2 - 1,by omega,by omega⟩))
    ·exact .inr (.inl ⟨i / 2,by omega,by omega⟩)
   ·omega
 rcases cases_ with rfl|⟨e,he,rfl⟩|⟨e,he,rfl⟩|rfl|rfl
 ·obtain⟨o,ho,hg,hd,hop⟩:=T.o0;obtain⟨p1,p2⟩:=D.pre hLf;subst p1;refine Q8 ho hg (Q7 (v:=.map (some w.heap.size)) (nx:=.value (.map (some w.heap.size))) (w':=w.alloc (.map #[] 0)) (by grind) (by simp[execOp,hop,Instr.makeMap]) (.inl rfl) ?_);rw[hd];refine⟨sz',D.ds,by rw[yl];exact D.tz,fun _=>by rw[yD _ _ _ _ (by rw[D.tz];exact l1)];simp,fun e he h=> ?_,fun h=> ?_,fun h=> ?_,fun h=> ?_,fun _=> ?_⟩
  ·rw[gp,Zb (by omega)] at h;rw[yD _ _ _ _ (by rw[D.tz];exact l1),Zb (nd e he).2.1];exact D.mb e he h
  ·rw[gp,Zb (by omega)] at h;rw[yD _ _ _ _ (by rw[D.tz];exact l1),Zb (Ne.symm n12)];exact D.m2 h
  ·rw[gp,Zb (by omega)] at h;rw[yD _ _ _ _ (by rw[D.tz];exact l1),Zb n01];exact D.m0 h
  ·grind
  ·refine⟨#[],0,rfl,by simp,fun x=> ?_⟩
   grind
 ·obtain⟨o,ho,hg,hd,hop⟩:=T.ob e he;refine Q8 ho hg (Q7 (v:=kV s n e) (nx:=.value (kV s n e)) (w':=w) (by grind) ?_ (.inl rfl) ?_)
  ·simp_all[execOp,Act.eval]
  rw[hd];have hlt:d e<a.tmps.size:=by rw[D.tz];grind
  obtain⟨q0,q1,q2,q3⟩:=nd e he;refine⟨sz',D.ds,by rw[yl];exact D.tz,fun h=> ?_,fun e' he' h=> ?_,fun h=> ?_,fun h=> ?_,fun h=> ?_,fun h=> ?_⟩
  ·rw[gp,Zb (by omega)] at h;rw[yD _ _ _ _ hlt,Zb (Ne.symm q1)];exact D.m1 h
  ·rw[yD _ _ _ _ hlt];by_cases hee:e'=e
   ·grind
   ·rw[Zb (Ne.symm (q3 e' he' (Ne.symm hee)))];rw[gp,Zb (by omega)] at h;exact D.mb e' he' h
  ·rw[gp,Zb (by omega)] at h;rw[yD _ _ _ _ hlt,Zb (Ne.symm q2)];exact D.m2 h
  ·rw[gp,Zb (by omega)] at h;rw[yD _ _ _ _ hlt,Zb (Ne.symm q0)];exact D.m0 h
  ·rw[gp,Zb (by omega)] at h;obtain⟨p1,p2⟩:=D.pre h
   grind
  ·rw[gp,Zb (by omega)] at h;obtain⟨ents,clock,p1,p2,p3⟩:=D.post h
   grind
 ·obtain⟨o,ho,hg,hd,hop,hb0,hb1⟩:=T.oi e he;have z0:=before ho hb0;have z1:=before ho hb1;obtain⟨ents,clock,rfl,p2,p3⟩:=D.post z0;have hmap:({ w0 with heap:=w0.heap.push (.map ents clock) }:World).heap[w0.heap.size]? =some (.map ents clock):=by simp
  have hrun:=Hn (P:=P) (fv:=fV f e) ht hk hmap (Vd _ _ s n e) (hkk e he) (fun x hx=>by
   obtain⟨e',he',h',hx'⟩:=(p3 (x.key,x.val)).1 (zd.2 ⟨x,hx,rfl⟩);injection hx' with hx1 hx2
   refine⟨kP s n e',?_,hkn e e' he he' ?_⟩
   ·simp_all[Vd]
   grind)
  refine Q8 ho hg (Q7 (v:=undef) (nx:=.skip) (w':={ w0 with heap:=w0.heap.push (.map (ents.push { key:=kV s n e,val:=fV f e,born:=clock }) (clock+1)) }) (by grind) ?_ (.inr ⟨rfl,rfl⟩) ?_)
  ·have e1:a.eval (.tmp t1)=.map (some w0.heap.size):=jx (D.m1 z0);have e2:a.eval (.tmp (d e))=kV s n e:=jx (D.mb e he z1);have e3:a.eval (.func (f e))=fV f e:=rfl;simp only[execOp,hop,e1,e2,e3];simp only[Sem.run_bind,hrun,Result.andThen_ok,Sem.run_pure]
   congr 2
   grind
  rw[hd];have hput:a.put none undef=a:=rfl;rw[hput];refine⟨sz',D.ds,D.tz,fun h=>D.m1 z0,fun e' he' h=> ?_,fun h=> ?_,fun h=> ?_,fun h=> ?_,fun h=> ?_⟩
  ·rw[gp,Zb (by omega)] at h;exact D.mb e' he' h
  ·rw[gp,Zb (by omega)] at h;exact D.m2 h
  ·rw[gp,Zb (by omega)] at h;exact D.m0 h
  ·grind
  ·refine⟨_,_,rfl,?_,fun x=> ?_⟩
   ·grind
   grind
 ·obtain⟨o,ho,hg,hd,hop,hb0⟩:=T.om;have z0:=before ho hb0;have e1:a.eval (.tmp t1)=.map (some w0.heap.size):=jx (D.m1 z0);refine Q8 ho hg (Q7 (v:=.map (some w0.heap.size)) (nx:=.value (.map (some w0.heap.size))) (w':=w) (by grind) (by simp_all[execOp]) (.inl rfl) ?_);rw[hd];have hlt:t2<a.tmps.size:=by rw[D.tz];exact l2
  refine⟨sz',D.ds,by rw[yl];exact D.tz,fun h=> ?_,fun e' he' h=> ?_,fun h=> ?_,fun h=> ?_,fun h=> ?_,fun h=> ?_⟩
  ·rw[yD _ _ _ _ hlt,Zb n12];exact D.m1 z0
  ·rw[gp,Zb (by omega)] at h;rw[yD _ _ _ _ hlt,Zb (nd e' he').2.2.1];exact D.mb e' he' h
  ·grind [yD]
  ·rw[gp,Zb (by omega)] at h;rw[yD _ _ _ _ hlt,Zb n02];exact D.m0 h
  ·grind
  ·obtain⟨ents,clock,p1,p2,p3⟩:=D.post z0
   grind
 ·obtain⟨o,ho,hg,hd,hop,hb0⟩:=T.oa;have z0:=before ho hb0;have e1:a.eval (.tmp t2)=.map (some w0.heap.size):=jx (D.m2 z0);refine Q8 ho hg (Q7 (v:=.map (some w0.heap.size)) (nx:=.value (.map (some w0.heap.size))) (w':=w) (by grind) (by simp_all[execOp]) (.inl rfl) ?_);rw[hd];have hlt:t0<a.tmps.size:=by rw[D.tz];exact l0
  refine⟨sz',D.ds,by rw[yl];exact D.tz,fun h=> ?_,fun e' he' h=> ?_,fun h=> ?_,fun h=> ?_,fun h=> ?_,fun h=> ?_⟩
  ·rw[gp,Zb (by omega)] at h;rw[yD _ _ _ _ hlt,Zb (Ne.symm n01)];exact D.m1 h
  ·rw[gp,Zb (by omega)] at h;rw[yD _ _ _ _ hlt,Zb (nd e' he').1];exact D.mb e' he' h
  ·rw[gp,Zb (by omega)] at h;rw[yD _ _ _ _ hlt,Zb (Ne.symm n02)];exact D.m2 h
  ·grind [yD]
  ·rw[gp,Zb (by omega)] at h;obtain⟨p1,p2⟩:=D.pre h
   grind
  ·rw[gp,Zb (by omega)] at h;obtain⟨ents,clock,p1,p2,p3⟩:=D.post h
   grind

theorem Hp(m i:Nat):(Array.replicate m false).getD i false=false:=by
 rw[Z7,Array.getElem?_replicate]
 grind
theorem Hq{ds:List Nat}(T:Lit P ops N nt t0 t1 t2 tm tk d s n f)(ht:P.underlying tm=some (.map tk te))(hk:yi P tk=some ds)(hkk:∀e,e<N->Yd ds (kP s n e) (kP s n e)=some true)(hkn:∀e e',e<N->e'<N->e≠e'->Yd ds (kP s n e) (kP s n e')=some false)
  (hbuild:∀(w:World) e,e<N->(Instr.build tk #[(0,.string ⟨(s e).toArray⟩),(1,.int .i64 (n e))]).run P w=.ok (kV s n e) w)(hE:yT 0 ops.toList=true){Q:Exit->Act->World->Prop}
  (hQ:∀(L:Array Bool) a w,LI w0 N nt t0 t1 t2 d s n f L a w->(∀i,i<2*N+3->L.getD i false=true)->Q .normal a w):
  ∀(m:Nat) (L:Array Bool) (a:Act) (w:World),LI w0 N nt t0 t1 t2 d s n f L a w->(List.range ops.size).countP (fun i=> !L.getD i false)<=m->wpAnyIn (Fe ro) 0 P .any ops Q m L a w:=by
 have hend:∀(L:Array Bool) (a:Act) (w:World),LI w0 N nt t0 t1 t2 d s n f L a w->Region.ready .any ops L=[]->Q .normal a w:=fun L a w D hr=>
  hQ L a w D fun i hi=>qQ hE (by rw[D.sz,T.sz]) hr i (by rw[T.sz];exact hi)
 intro m
 induction m with
 |zero=>
  intro L a w D hn;have hr:Region.ready .any ops L=[]:=by
   rw[List.eq_nil_iff_forall_not_mem]
   grind [mem_ready,List.countP_pos_iff]
  exact⟨hr,hend L a w D hr⟩
 |succ m ih=>
  intro L a w D hn;refine⟨hend L a w D,fun i hi=> ?_⟩;obtain⟨o,ho,hL,_⟩:=mem_ready.1 hi;have hil:=(Array.getElem?_eq_some_iff.1 ho).1;have hiL:i<L.size:=by grind
  refine wpOpIn_mono (fun a' w' D'=>ih _ a' w' D' ?_) (Ho T ht hk hkk hkn hbuild D hi);have:=qV (l:=List.range ops.size) (p:=fun i=> !L.getD i false) (q:=fun j=> !(L.setIfInBounds i true).getD j false) (zx.2 hil) (fun x hx=>by
   grind [Gh]) (by grind) (by simp_all)
  omega

def YA(N:Nat)(s:Nat->List UInt8)(n:Nat->Int)(f:Nat->FuncId):List (PV × PV):=(List.range N).map fun e=>(.agg (kP s n e),.func (.func (f e)))

theorem Hr{ds:List Nat}(hk:yi P tk=some ds)(hkk:∀e,e<N->Yd ds (kP s n e) (kP s n e)=some true)(hkn:∀e e',e<N->e'<N->e≠e'->Yd ds (kP s n e) (kP s n e')=some false)
  {L:Array Bool}{a:Act}{b:Nat}{W:World}(hH:HR W X μ hp)(D:LI W.drew N nt t0 t1 t2 d s n f L a w)(hall:∀i,i<2*N+3->L.getD i false=true):
  a.tmps[t0]? =some (.map (some W.heap.size))/\∃μ',HR w X μ' (hp++[.map none (YA N s n f)])/\Ext b X μ hp W μ' (hp++[.map none (YA N s n f)]) w/\AR w X μ' (hp++[.map none (YA N s n f)]) (.map hp.length) (.map (some W.heap.size)):=by
 refine⟨D.m0 (hall _ (by omega)),?_⟩;obtain⟨ents,clock,rfl,p2,p3⟩:=D.post (hall _ (by omega));have hw:({ W.drew with heap:=W.drew.heap.push (.map ents clock) }:World)=W.drew.alloc (.map ents clock):=rfl;rw[hw];have hcan:(ents.toList.map fun e=>(e.key,e.val)).Perm ((List.range N).map fun e=>(kV s n e,fV f e)):=by
  rw[List.perm_ext_iff_of_nodup p2]
  ·grind
  grind [List.Pairwise.imp_of_mem,List.pairwise_lt_range]
 obtain⟨l,l1,l2⟩:=Gg _ _ hcan;have hlen:l.length=N:=by
  have:=congrArg List.length l2
  grind
 have hM:∀(w:World) (I:Nat->Prop),MapR w I none (YA N s n f) ents:=fun w I=>by
  refine⟨l,l1,⟨by grind [YA],fun k x e hx he=> ?_⟩,.inr fun x hx=> ?_⟩
  ·have hkl:k<N:=by grind
   have h1:=congrArg (fun q=>q[k]?) l2;simp only[ZU,he,Option.map_some,List.getElem?_range hkl,Option.some.injEq,Prod.mk.injEq] at h1;simp only[YA,ZU,List.getElem?_range hkl,Option.map_some,Option.some.injEq] at hx;subst hx;rw[h1.1,h1.2];exact⟨Vd _ _ s n k,.func _,rfl⟩
  grind [YA]
 have E:∀b,Ext b X μ hp W (upd μ hp.length (some W.heap.size)) (hp++[.map none (YA N s n f)]) (W.drew.alloc (.map ents clock)):=fun b=>
  (Ext.drew (X:=X) (μ:=μ) (hp:=hp) (w:=W) b).trans (Ext.push _ _ (Ext.alloc b _) (fun k hk=>by simp_all))
 refine⟨upd μ hp.length (some W.heap.size),?_,E b,.map _ _ none _ Xa (zW _ _ _)⟩;exact hH.drew.push _ _ (Ext.alloc 0 _) (fun i k hi hk=>YQ _ _ (hH.drew.out i k hi hk).2) (fun k hk=>by simp_all) (fun _ _ h=>by cases h) (fun _ _ _ h=>by cases h)
  (fun s es h=>by cases h;exact⟨_,ents,clock,rfl,YH _ _,hM _ _⟩)

theorem Hs{ds:List Nat}{fn:Func}{id id2:Nat}{oz:Oper}{cz:Value}(hmix:P.follows .mixedOrders=true)(hf:P.funcs[g]? =some fn)(hb:fn.body=some (.seq (.region id #[oz] false) (.seq (.region id2 ops true) .ret)))(hn:fn.name≠ "runtime.NumGoroutine")(hnt:fn.ntmps=nt)(hres:fn.results= #[.tmp t0])
  (hoz:oz.guard=none/\oz.dst=some t0/\oz.op=.assign (.const cz))(T:Lit P ops N nt t0 t1 t2 tm tk d s n f)(ht:P.underlying tm=some (.map tk te))(hk:yi P tk=some ds)(hkk:∀e,e<N->Yd ds (kP s n e) (kP s n e)=some true)
  (hkn:∀e e',e<N->e'<N->e≠e'->Yd ds (kP s n e) (kP s n e')=some false)
  (hbuild:∀(w:World) e,e<N->(Instr.build tk #[(0,.string ⟨(s e).toArray⟩),(1,.int .i64 (n e))]).run P w=.ok (kV s n e) w)(hE:yT 0 ops.toList=true):X4 P g (Jb none (YA N s n f)):=by
 intro args hp r hp' h w X μ vs hH hl;unfold Jb at h;split at h
 ·cases h;cases hl;refine .inl ⟨xU hf hb hn,?_⟩;apply uU hf hb;apply wpIn_seq;apply wpIn_region;obtain⟨l0,l1,l2,ld⟩:=T.lt;show wpOpsIn _ _ _ _ _ (List.range 1) _ _;rw[show List.range 1=[0] from rfl,wpOpsIn_cons];refine Q8 (o:=oz) rfl hoz.1 (Q7 (v:=cz) (nx:=.value cz) (w':=w) (by grind) (by simp_all[execOp,Act.eval]) (.inl rfl) ?_);rw[hoz.2.1];show Exit.then _ _ .normal _ _
  simp only[Exit.then];apply wpIn_seq;refine wpIn_region_any hmix (Hq (w0:=w.drew) T ht hk hkk hkn hbuild hE (fun L a w' D hall=> ?_) ops.size _ _ _ ⟨by simp[T.sz],rfl,by grind [yl],fun h=> ?_,fun e he h=> ?_,fun h=> ?_,fun h=> ?_,fun _=>⟨rfl,fun e he=> ?_⟩,fun h=> ?_⟩ (Zz (List.countP_le_length) (by simp)))
  ·simp only[Exit.then];apply wpIn_ret;obtain⟨q1,μ',q2,q3,q4⟩:=Hr (b:=hp.length) hk hkk hkn hH D hall;refine⟨D.ds,.map (some w.heap.size),?_,μ',_,rfl,q2,q3,q4⟩;simp_all[results]
  all_goals grind [Hp]
 grind
end

theorem Ht{tk:TypeId}{z a b:AV}(hz:Yw P tk=some z)(hc:z.comps=some [(none,a),(none,b)])(ht:∃fs,P.underlying tk=some (.struct fs)/\fs.toList.all (fun f=>okT P f.type)=true)(s:List UInt8)(n:Int)(w:World):
  (Instr.build tk #[(0,.string ⟨s.toArray⟩),(1,.int .i64 n)]).run P w=.ok (.agg #[.string ⟨s.toArray⟩,.int .i64 n]) w:=by
 have h:=KV (P:=P) (w:=w) (X:=⟨fun _=>False⟩) (μ:=fun _=>none) (hp:=[]) (t:=tk) (parts:= #[(0,.const (.string ⟨s.toArray⟩)),(1,.const (.int .i64 n))]) (ρ:=fun o=>match o with| .const v=>v|_=>undef) (vs:=[.pv none (.str s),.pv none (.int .i64 n)]) (v:=.pv (some 2) (.agg [(none,.str s),(none,.int .i64 n)]))
  hz hc (.inl ht) (.cons (.mkStr _) (.cons (.mkInt _ _) .nil)) (by simp[zQ,Qj,AV.plain,AV.shp,AV.ofComps,pures,total,Sh.size])
 obtain⟨v',h1,h2⟩:=h;have e:v'=.agg #[.string ⟨s.toArray⟩,.int .i64 n]:=by
  cases h2 with|pv _ _ _ _ h2=>
  cases h2 with|agg _ us hl _ k=>
  match us,hl with
  |[x,y],_=>
   have e1:=(k 0 _ x rfl rfl).str_inv;have e2:=(k 1 _ y rfl rfl).int_inv;subst e1;subst e2;rfl
 subst e;simp only[Sem.run_bind] at h1;have hp:(#[(0,Operand.const (.string ⟨s.toArray⟩)),(1,.const (.int .i64 n))].map fun(x:Nat × Operand)=>(x.1,(fun o=>match o with|Operand.const v=>v|_=>undef) x.2))= #[(0,.string ⟨s.toArray⟩),(1,.int .i64 n)]:=by simp
 rw[hp] at h1;cases hr:(Instr.build tk #[(0,.string ⟨s.toArray⟩),(1,.int .i64 n)]).run P w with
 |ok v w'=>
  simp_all
 |halt x w'=>
  simp_all
end Go.Am

/- What a law is given, azs values without references. -/
namespace Go.Am
variable{P:Program} {H:Type} {enc:TypeId × Value->H} {w:World} {I:Nat->Prop}

theorem jy{α β:Type}{g:α->Option β}:∀{l:List α} {xs:List β},l.mapM g=some xs->l.length=xs.length/\∀(i:Nat) (a:α) (x:β),l[i]? =some a->xs[i]? =some x->g a=some x
 |[],xs,h=>by
  grind
 |a::r,xs,h=>by
  rw[List.mapM_cons] at h;cases ha:g a with
  |none=>grind
  |some y=>
   rw[ha] at h;cases hr:r.mapM g with
   |none=>grind
   |some ys=>
    rw[hr] at h;cases h;obtain⟨h1,h2⟩:=jy hr
    grind

def yL(sh:Sh)(cs:List Value):Value:=
 match sh with
 |none=>cs.headD .nilIface
 |some _=>.agg cs.toArray

def Q9(P:Program)(n:Nat):Nat->List Field->Bool
 |o,[]=>decide (o=n)
 |o,f::r=>decide (f.offset=o) && okT P f.type && Q9 P n (o+(shOf P f.type).size) r
def Xe(P:Program)(g:TypeId->DataW H->Option PV):List Field->List (DataW H)->Option (List (Sh × PV))
 |[],[]=>some []
 |f::fs,d::ds=>match g f.type d with
  |none=>none
  |some p=>match Xe P g fs ds with
   |some l=>some ((shOf P f.type,p)::l)
   |none=>none
 |_,_=>none
def XF(g:DataW H->Option PV):List (DataW H)->Option (List PV)
 |[]=>some []
 |d::ds=>match g d with
  |none=>none
  |some p=>match XF g ds with
   |some l=>some (p::l)
   |none=>none
def yf(P:Program):Nat->TypeId->DataW H->Option PV
 |0,_,_=>none
 |n+1,t,d=>match P.underlying t,d with
  |some .bool,.lit (.bool b)=>some (.bool b)
  |some (.int k),.lit (.int k' n)=>if k'=k/\(Lit.int k n).wf=true then some (.int k n) else none
  |some .string,.lit (.string l)=>some (.str l)
  |some (.slice e),.nil=>some (.sl (shOf P e) [])
  |some (.slice e),.slice es _=>if okT P e=true then match XF (yf P n e) es with
    |some l=>some (.sl (shOf P e) l)
    |none=>none
   else none
  |some (.struct fs),.agg parts=>if Q9 P (P.cellsOf t) 0 fs.toList=true then match Xe P (yf P n) fs.toList parts with
    |some l=>some (.agg l)
    |none=>none
   else none
  |_,_=>none

theorem Gi{t:TypeId}(h:okT P t=true):P.cellsOf t=(shOf P t).size/\0<P.cellsOf t:=by
 grind [okT,Program.cellsOf]

theorem Gj{base:Nat}{a:Addr}{n:Nat}{l:List Value}(h:w.cells? base a n=some l)(hn:0<n):a.spot=none/\∃cs t fr,w.heap[a.block]? =some (.cells cs t fr)/\l=(cs.toList.drop a.off).take n/\l.length=n:=by
 unfold World.cells? at h;split at h
 ·obtain⟨h1,h2⟩:=jy h;rw[List.length_range] at h1;have rd:∀i,i<n->∃v,l[i]? =some v/\w.cell? (a.add i)=some v:=by
   intro i hi;have hl:l[i]? =some l[i]:=Ze (by omega)
   grind
  obtain⟨v0,hv0,hc0⟩:=rd 0 hn;unfold World.cell? at hc0;split at hc0
  ·rename_i cs t fr hb;split at hc0
   ·grind
   ·rename_i hsp;have hb':w.heap[a.block]? =some (.cells cs t fr):=hb;have hsp':a.spot=none:=by simp_all[Addr.add]
    refine⟨hsp',cs,t,fr,hb',?_,h1.symm⟩;apply Z4
    grind [Addr.add,World.cell?]
  grind
 grind

theorem Gk{g:TypeId->List Value->Option (DataW H × List MemPlace)}{f:TypeId->DataW H->Option PV}
  (hg:∀t cs d ps p,g t cs=some (d,ps)->okT P t=true->f t d=some p->PR w I p (yL (shOf P t) cs)/\vshp (yL (shOf P t) cs)=shOf P t/\(yL (shOf P t) cs).cells.toList=cs)(cs:List Value):
  ∀(fs:List Field) (o:Nat) (xs:List (DataW H × List MemPlace)) (l:List (Sh × PV)),Q9 P cs.length o fs=true->fs.mapM (fun fd=>g fd.type ((cs.drop fd.offset).take (P.cellsOf fd.type)))=some xs->Xe P f fs (xs.map (·.1))=some l->
  ∃vs:List Value,l.length=vs.length/\(∀(i:Nat) (x:Sh × PV) (v:Value),l[i]? =some x->vs[i]? =some v->vshp v=x.1)/\(∀(i:Nat) (x:Sh × PV) (v:Value),l[i]? =some x->vs[i]? =some v->PR w I x.2 v)/\cellsOf vs=cs.drop o
 |[],o,xs,l,hok,hm,hp=>by
  simp[Q9] at hok;simp at hm;subst hm;simp[Xe] at hp;subst hp;exact⟨[],rfl,fun i x v h=>by grind,fun i x v h=>by grind,by grind [cellsOf]⟩
 |fd::r,o,xs,l,hok,hm,hp=>by
  simp only[Q9,Zk,ZN] at hok;obtain⟨⟨h1,h2⟩,h3⟩:=hok;rw[List.mapM_cons] at hm;cases ha:g fd.type ((cs.drop fd.offset).take (P.cellsOf fd.type)) with
  |none=>grind
  |some y=>
   rw[ha] at hm;cases hr:r.mapM (fun fd=>g fd.type ((cs.drop fd.offset).take (P.cellsOf fd.type))) with
   |none=>grind
   |some ys=>
    rw[hr] at hm;cases hm;simp only[ZV,Xe] at hp;split at hp
    ·cases hp
    ·rename_i p hfp;split at hp
     ·rename_i l' hl';cases hp;obtain⟨k1,k2,k3⟩:=hg _ _ y.1 y.2 p ha h2 hfp;obtain⟨vs,e1,e2,e3,e4⟩:=Gk hg cs r _ ys l' h3 hr hl';refine⟨yL (shOf P fd.type) ((cs.drop fd.offset).take (P.cellsOf fd.type))::vs,by grind,?_,?_,?_⟩
      ·grind
      ·grind
      grind [cellsOf,Gi,ZB,ZY]
     grind

theorem Gm{f:DataW H->Option PV}{g:Nat->Option (DataW H × List MemPlace)}{R:Nat->PV->Prop}
  (hg:∀i d ps p,g i=some (d,ps)->f d=some p->R i p):
  ∀(is:List Nat) (xs:List (DataW H × List MemPlace)) (l:List PV),is.mapM g=some xs->XF f (xs.map (·.1))=some l->
  l.length=is.length/\∀(k i:Nat) (p:PV),is[k]? =some i->l[k]? =some p->R i p
 |[],xs,l,hm,hp=>by
  simp_all[XF]
 |i::r,xs,l,hm,hp=>by
  rw[List.mapM_cons] at hm;cases ha:g i with
  |none=>grind
  |some y=>
   rw[ha] at hm;cases hr:r.mapM g with
   |none=>grind
   |some ys=>
    rw[hr] at hm;cases hm;simp only[ZV,XF] at hp;split at hp
    ·cases hp
    ·rename_i p hfp;split at hp
     ·rename_i l' hl';cases hp;obtain⟨e1,e2⟩:=Gm hg r ys l' hr hl'
      grind
     grind

theorem Gn(f:Nat->Value)(l:List Value)(o n:Nat):∀m:Nat,(∀i,i<m->(f i).cells.toList=(l.drop (o+i*n)).take n)->cellsOf ((List.range m).map f)=(l.drop o).take (m*n)
 |0,_=>by simp[cellsOf]
 |m+1,h=>by
  have ih:=Gn f l o n m fun i hi=>h i (by omega);unfold cellsOf at ih ⊢;rw[List.range_succ,List.map_append,List.flatMap_append,ih];simp only[ZV,List.map_nil,List.flatMap_cons,List.flatMap_nil,ZL];simp_all[Zv,List.take_add]

theorem Hu(hI:∀b,I b){base:Nat}{spare:Nat->Bool}{held:Bool}:∀(fuel:Nat) (n:Nat) (t:TypeId) (cs:List Value) (d:DataW H) (ps:List MemPlace) (p:PV),DataW.trod enc P w base spare held fuel t cs=some (d,ps)->okT P t=true->yf P n t d=some p->
  PR w I p (yL (shOf P t) cs)/\vshp (yL (shOf P t) cs)=shOf P t/\(yL (shOf P t) cs).cells.toList=cs:=by
 intro fuel
 induction fuel with
 |zero=>intro n t cs d ps p h;cases h
 |succ fuel ih=>
  intro n t cs d ps p h hok hp;cases n with
  |zero=>cases hp
  |succ n=>
  simp only[yf] at hp;cases hu:P.underlying t with
  |none=>grind
  |some u=>
   rw[hu] at hp;unfold DataW.trod at h;rw[hu] at h;cases u with
   |bool=>
    have hs:shOf P t=none:=by grind [shOf]
    rw[hs];simp only at h hp;split at h <;> first|contradiction|(exfalso;clear ih;simp_all;done)|skip
    ·cases h;cases hp;exact⟨.bool _,rfl,rfl⟩
   |int k=>
    have hs:shOf P t=none:=by grind [shOf]
    rw[hs];simp only at h hp;split at h <;> first|contradiction|(exfalso;clear ih;simp_all;done)|skip
    ·rename_i e;split at h
     ·rename_i e2;obtain⟨e2,e3⟩:=e2;subst e2;cases h;cases e;simp only[e3,and_self,if_true] at hp;cases hp;exact⟨.int _ _,rfl,rfl⟩
     grind
   |string=>
    have hs:shOf P t=none:=by grind [shOf]
    rw[hs];simp only at h hp;split at h <;> first|contradiction|(exfalso;clear ih;simp_all;done)|skip
    ·split at h
     ·cases h;cases hp;exact⟨.str _,rfl,rfl⟩
     grind
   |slice e=>
    have hs:shOf P t=none:=by grind [shOf]
    rw[hs];simp only at h hp;split at h <;> first|contradiction|(exfalso;clear ih;simp_all;done)|skip
    ·cases h;cases hp;exact⟨.nilsl _ _ _,rfl,rfl⟩
    ·rename_i e' a len cap hx;cases hx;split at h
     ·rename_i hb;obtain⟨hb1,hb2,hb3⟩:=hb;rw[Option.bind_eq_some_iff] at h;obtain⟨elems,hm,h⟩:=h;rw[ZA] at h;obtain⟨rest,hr,h⟩:=h;cases h;simp only at hp;split at hp
      ·rename_i hoe;split at hp
       ·rename_i l hl;cases hp;obtain⟨hc1,hc2⟩:=Gi hoe;obtain⟨k1,k2⟩:=Gm (R:=fun i p=>PR w I p (yL (shOf P e) (((w.cells? base (a.add (i*P.cellsOf e)) (P.cellsOf e))).getD []))/\vshp (yL (shOf P e) (((w.cells? base (a.add (i*P.cellsOf e)) (P.cellsOf e))).getD []))=shOf P e/\(yL (shOf P e) (((w.cells? base (a.add (i*P.cellsOf e)) (P.cellsOf e))).getD [])).cells.toList=((w.cells? base (a.add (i*P.cellsOf e)) (P.cellsOf e))).getD []) (fun i d ps p hg hf=>by
         grind [Option.bind_eq_some_iff]) _ _ _ hm hl
        rw[List.length_range] at k1;refine⟨?_,rfl,rfl⟩;have hel:elems.length=len:=by have:=(jy hm).1;grind
        cases len with
        |zero=>
         have:l=[]:=List.length_eq_zero_iff.1 (by omega);subst this;exact .nilsl _ _ _
        |succ m=>
         have rd:∀i,i<m+1->∃c,w.cells? base (a.add (i*P.cellsOf e)) (P.cellsOf e)=some c:=fun i hi=>by
          have hx:elems[i]? =some elems[i]:=Ze (by omega);have:=(jy hm).2 i i elems[i] (by grind) hx
          grind [Option.bind_eq_some_iff]
         obtain⟨c0,hc0⟩:=rd 0 (by omega);obtain⟨s0,cs',t',fr',hblk,_,_⟩:=Gj hc0 hc2;have ea0:a.add (0*P.cellsOf e)=a:=by simp[Addr.add]
         rw[ea0] at s0 hblk;have seg:∀i,i<m+1->(w.cells? base (a.add (i*P.cellsOf e)) (P.cellsOf e)).getD []=(cs'.toList.drop (a.off+i*P.cellsOf e)).take (P.cellsOf e)/\((w.cells? base (a.add (i*P.cellsOf e)) (P.cellsOf e)).getD []).length=P.cellsOf e:=fun i hi=>by
          obtain⟨c,hc⟩:=rd i hi;obtain⟨_,cs2,t2,fr2,hb2,e2,e3⟩:=Gj hc hc2
          grind [Addr.add]
         have ha:a=⟨a.block,a.off,none⟩:=by cases a;simp_all
         have hll:l.length=m+1:=k1;rw[ha];have hgoal:PR w I (.sl (shOf P e) l) (.slice (some ⟨a.block,a.off,none⟩) l.length cap):=by
          refine .sl _ _ a.block a.off cap cs' t' fr' ((List.range (m+1)).map fun i=>yL (shOf P e) ((w.cells? base (a.add (i*P.cellsOf e)) (P.cellsOf e)).getD [])) (by grind) (hI _) hblk ?_ ?_ ?_ (by omega)
          ·grind
          ·grind
          ·have cl:∀i,i<m+1->(yL (shOf P e) ((w.cells? base (a.add (i*P.cellsOf e)) (P.cellsOf e)).getD [])).cells.toList=(cs'.toList.drop (a.off+i*P.cellsOf e)).take (P.cellsOf e):=fun i hi=>by
            rw[<-(seg i hi).1];exact(k2 i i l[i] (by grind) (Ze (by omega))).2.2
           grind [Gn]
         rw[hll] at hgoal;exact hgoal
       grind
      grind
     grind
   |struct fs=>
    have hs:shOf P t=some (P.cellsOf t):=by grind [shOf]
    rw[hs];simp only at h hp;split at h <;> first|contradiction|(exfalso;clear ih;simp_all;done)|skip
    ·rename_i hlen;rw[ZA] at h;obtain⟨xs,hm,h⟩:=h;cases h;simp only at hp;split at hp
     ·rename_i hfo;split at hp
      ·rename_i l hl;cases hp;rw[<-hlen] at hfo;obtain⟨vs,e1,e2,e3,e4⟩:=Gk (w:=w) (I:=I) (fun t cs d ps p hg ho hf=>ih n t cs d ps p hg ho hf) cs fs.toList 0 xs l hfo hm hl;rw[List.drop_zero] at e4;refine⟨?_,?_,?_⟩
       ·show PR w I (.agg l) (.agg cs.toArray);rw[<-e4];exact .agg l vs e1 e2 e3
       ·show some cs.toArray.size=_
        grind
       ·simp[yL,Value.cells]
      grind
     grind
   |_=>cases hp

theorem Gp{base:Nat}{spare:Nat->Bool}{held:Bool}{n:Nat}{t:TypeId}{v:Value}{d:DataW H}{ps:List MemPlace}{p:PV}(h:DataW.Trod enc P w base spare held t v d ps)(hok:okT P t=true)(hp:yf P n t d=some p)(hv:vshp v=shOf P t):
  AR w (noX (P:=P)) noμ [] (.pv (shOf P t) p) v:=by
 obtain⟨fuel,h⟩:=h;have hI:∀b,Im (noX (P:=P)) noμ [] b:=fun b=>⟨fun h=>h,fun i hi=>by grind⟩;obtain⟨h1,h2,h3⟩:=Hu hI fuel n t _ d ps p h hok hp;have:yL (shOf P t) v.cells.toList=v:=by
  rw[<-hv];cases v <;> simp[vshp,yL,Value.cells]
 rw[this] at h1;exact .pv _ _ _ hv h1
theorem Gq{W:World}{base:Nat}{t:TypeId}{v:Value}(h:Value.okWide P W .any base t v):vshp v=shOf P t:=by
 unfold Value.okWide at h;unfold shOf;cases hu:P.underlying t with
 |none=>
  simp_all[Cell.okWide,Cell.ok]
 |some u=>
  rw[hu] at h;cases u with
  |struct fs=>grind [vshp]
  |array n e=>grind [vshp]
  |_=>
   cases v with
   |agg cs=>simp[Cell.okWide,Cell.ok,hu] at h
   |_=>rfl
end Go.Am

/- Terms azs plain data. -/
namespace Go.Am
inductive Tm where
 |mk (kind n:Int) (name:List UInt8) (args:List Tm)
 deriving Inhabited
mutual
def Tm.pv:Tm->PV
 | .mk k n s azs=>.agg [(none,.int .i64 k),(none,.int .i64 n),(none,.str s),(none,.sl (some 4) (Tm.pvs azs))]
def Tm.pvs:List Tm->List PV
 |[]=>[]
 |t::r=>t.pv::Tm.pvs r
end
def Tm.kind:Tm->Int| .mk k _ _ _=>k
def Tm.n:Tm->Int| .mk _ n _ _=>n
def Tm.name:Tm->List UInt8| .mk _ _ s _=>s
def Tm.args:Tm->List Tm| .mk _ _ _ azs=>azs
def Tm.av(t:Tm):AV:=.pv (some 4) t.pv
theorem Tm.zBh(t:Tm):t.pv=.agg [(none,.int .i64 t.kind),(none,.int .i64 t.n),(none,.str t.name),(none,.sl (some 4) (Tm.pvs t.args))]:=by cases t;rfl
end Go.Am

/- What code comes to: rules that a proof steps by. -/
namespace Go.Am
variable{Γ:Oracle} {Λ:Yk} {b:Nat}

class Tag.{u} {α:Sort u} (a:α):Type where
instance tagAny.{u}{α:Sort u}(a:α):Tag a:=⟨⟩

def W(Γ:Oracle)(Λ:Yk)(b:Nat)(c:ACode)(st:St)(Q:AExit->St->Prop)[Tag Q]:Prop:=
 match aexec Γ Λ b c st with
 |some (e,st')=>Q e st'
 |none=>False
def O(Γ:Oracle)(b:Nat)(ops:List AOper)(fr:Fr)(hp:Heap)(K:Fr->Heap->Prop)(Kp:PV->Fr->Heap->Prop)[Tag K][Tag Kp]:Prop:=
 match aops Γ b ops fr hp with
 |some (.normal,fr',hp')=>K fr' hp'
 |some (.panic v,fr',hp')=>Kp v fr' hp'
 |_=>False
def seqK(k:St->Prop)(Q:AExit->St->Prop)[Tag k][Tag Q]:AExit->St->Prop
 | .normal,st=>k st
 | .exit i,st=>Q (.exit i) st
 | .ret,st=>Q .ret st
 | .panic v,st=>Q (.panic v) st
def qa(id:Nat)(Q:AExit->St->Prop)[Tag Q]:AExit->St->Prop
 | .exit i,st=>if i=id then Q .normal st else Q (.exit i) st
 | .normal,st=>Q .normal st
 | .ret,st=>Q .ret st
 | .panic v,st=>Q (.panic v) st
def jz(v:Option AV)(A B:Prop)[Tag A][Tag B]:Prop:=
 match v with
 |some (.pv _ (.bool b))=>if b=true then A else B
 |_=>False
def panK(pan:Bool)(A:Prop)[Tag A]:Prop:=if pan=true then A else False
def Jc(v:Option Bool)(A B:Prop)[Tag A][Tag B]:Prop:=
 match v with
 |some b=>if b=true then A else B
 |none=>False
def argK(v:Option (List AV))(K:List AV->Prop)[Tag K]:Prop:=
 match v with
 |some l=>K l
 |none=>False
def opK(v:Option OpRes)(K:AV->Heap->Prop)(Kp:PV->Heap->Prop)[Tag K][Tag Kp]:Prop:=
 match v with
 |some (.val v hp)=>K v hp
 |some (.panic v hp)=>Kp v hp
 |none=>False
def YD(v:Option (AV × Heap))(K:AV->Heap->Prop)[Tag K]:Prop:=
 match v with
 |some (v,hp)=>K v hp
 |none=>False
def xY(v:Option (ARes × Heap))(K:AV->Heap->Prop)(Kp:PV->Heap->Prop)[Tag K][Tag Kp]:Prop:=
 match v with
 |some (.ret v,hp)=>K v hp
 |some (.panic v,hp)=>Kp v hp
 |none=>False

variable{st:St} {Q:AExit->St->Prop} {fr:Fr} {hp:Heap} {K:Fr->Heap->Prop} {Kp:PV->Fr->Heap->Prop}
theorem Hv:W Γ Λ b .skip st Q=Q .normal st:=rfl
theorem Hw(i:Nat):W Γ Λ b (.exit i) st Q=Q (.exit i) st:=rfl
theorem Hx:W Γ Λ b .ret st Q=Q .ret st:=rfl
theorem Hy(l:List Nat):W Γ Λ b (.settle l) st Q=(match settle l st with|some st'=>Q .normal st'|none=>False):=by
 grind [W,aexec]
theorem Hz(x y:ACode):W Γ Λ b (.seq x y) st Q=W Γ Λ b x st (seqK (fun st'=>W Γ Λ b y st' Q) Q):=by
 unfold W;simp only[aexec];cases aexec Γ Λ b x st with
 |none=>rfl
 |some r=>
  obtain⟨e,st'⟩:=r;cases e <;> rfl
theorem HA(c:AArg)(x y:ACode):W Γ Λ b (.cond c x y) st Q=jz (st.fr.arg c) (W Γ Λ b x st Q) (W Γ Λ b y st Q):=by
 unfold W;simp only[aexec];cases st.fr.arg c with
 |none=>rfl
 |some v=>
  cases v with
  |pv s p=>
   cases p with
   |bool v=>grind [jz]
   |_=>rfl
  |_=>rfl
theorem HB(id:Nat)(c:ACode):W Γ Λ b (.block id c) st Q=W Γ Λ b c st (qa id Q):=by
 unfold W;simp only[aexec];cases aexec Γ Λ b c st with
 |none=>rfl
 |some r=>
  obtain⟨e,st'⟩:=r;cases e with
  |exit i=>
   grind [qa]
  |_=>rfl
theorem HC(pan:Bool)(ops:List AOper)(keep:List Nat):W Γ Λ b (.region pan ops keep) st Q=O Γ b ops st.fr st.hp (fun fr hp=>Q .normal ⟨fr.keep keep,hp⟩) (fun v fr hp=>panK pan (Q (.panic v) ⟨fr.keep keep,hp⟩)):=by
 grind [W,O,aexec,panK]
def OD(Γ:Oracle)(b:Nat)(l:List (AOper × Option (List AOper)))(fr:Fr)(hp:Heap)(K:Fr->Heap->Prop)(Kp:PV->Prop)[Tag K][Tag Kp]:Prop:=
 match YX Γ b l fr hp with
 |some (.normal,fr',hp')=>K fr' hp'
 |some (.panic v,_,_)=>Kp v
 |_=>False
theorem HD(l:List (AOper × Option (List AOper)))(keep:List Nat):W Γ Λ b (.doom l keep) st Q=OD Γ b l st.fr st.hp (fun fr hp=>Q .normal ⟨fr.keep keep,hp⟩) (fun v=>Q (.panic v) ⟨[],st.hp⟩):=by
 grind [W,OD,aexec]
theorem HE:O Γ b [] fr hp K Kp=K fr hp:=rfl
theorem Gr(o:AOper)(r:List AOper):O Γ b (o::r) fr hp K Kp=Jc (wants fr o.guard) (argK (fr.argsOf o.args) fun vs=>opK (aOp Γ b o.op vs hp) (fun v hp'=>O Γ b r (fr.dst o.dst v) hp' K Kp) (fun v hp'=>Kp v fr hp')) (O Γ b r (fr.dst o.dst .undef) hp K Kp):=by
 unfold O;simp only[aops];cases wants fr o.guard with
 |none=>rfl
 |some w=>
  cases w with
  |false=>simp[Jc]
  |true=>
   simp only[Jc,if_true];cases fr.argsOf o.args with
   |none=>rfl
   |some vs=>
    simp only[argK];cases aOp Γ b o.op vs hp with
    |none=>rfl
    |some r=>cases r <;> rfl
theorem HF(d:Option Nat)(op:AOp)(azs:List AArg)(r:List AOper):O Γ b (⟨d,op,azs,none⟩::r) fr hp K Kp=argK (fr.argsOf azs) fun vs=>opK (aOp Γ b op vs hp) (fun v hp'=>O Γ b r (fr.dst d v) hp' K Kp) (fun v hp'=>Kp v fr hp'):=by
 rw[Gr];rfl
theorem HG{Kp:PV->Prop}:OD Γ b [] fr hp K Kp=K fr hp:=rfl
theorem HI{Kp:PV->Prop}(d:Option Nat)(op:AOp)(azs:List AArg)(r:List (AOper × Option (List AOper))):OD Γ b ((⟨d,op,azs,none⟩,none)::r) fr hp K Kp=argK (fr.argsOf azs) fun vs=>opK (aOp Γ b op vs hp) (fun v hp'=>OD Γ b r (fr.dst d v) hp' K Kp) (fun _ _=>False):=by
 unfold OD;simp only[YX,wants];cases fr.argsOf azs with
 |none=>rfl
 |some vs=>
  simp only[argK];cases aOp Γ b op vs hp with
  |none=>rfl
  |some r=>cases r <;> rfl
theorem HJ{Kp:PV->Prop}(d:Option Nat)(op:AOp)(azs:List AArg)(l:List AOper)(r:List (AOper × Option (List AOper))):OD Γ b ((⟨d,op,azs,none⟩,some l)::r) fr hp K Kp=argK (fr.argsOf azs) fun vs=>opK (ya Γ hp vs) (fun v _=>OD Γ b r (fr.dst d v) hp K Kp) (fun p _=>O Γ b l fr hp (fun _ _=>Kp p) (fun _ _ _=>False)):=by
 unfold OD O;simp only[YX];cases fr.argsOf azs with
 |none=>rfl
 |some vs=>
  simp only[argK];cases ya Γ hp vs with
  |none=>rfl
  |some r=>
   cases r with
   |val v hp'=>rfl
   |panic p hp'=>
    simp only[opK];cases aops Γ b l fr hp with
    |none=>rfl
    |some r=>
     obtain⟨e,fr',hp'⟩:=r;cases e <;> rfl
def qb(v:Option AV)(w:Bool)(A B:Prop)[Tag A][Tag B]:Prop:=
 match v with
 |some (.pv _ (.bool b))=>if b=w then A else B
 |some .undef=>B
 |_=>False
theorem HK(d:Option Nat)(op:AOp)(azs:List AArg)(s:Nat)(w:Bool)(r:List AOper):O Γ b (⟨d,op,azs,some (s,w)⟩::r) fr hp K Kp=qb (fr.look s) w (argK (fr.argsOf azs) fun vs=>opK (aOp Γ b op vs hp) (fun v hp'=>O Γ b r (fr.dst d v) hp' K Kp) (fun v hp'=>Kp v fr hp')) (O Γ b r (fr.dst d .undef) hp K Kp):=by
 rw[Gr];simp only[wants];cases h:fr.look s with
 |none=>rfl
 |some v=>
  cases v with
  |pv sh p=>
   cases p with
   |bool c=>cases c <;> cases w <;> simp[Jc,qb]
   |_=>rfl
  |undef=>simp[Jc,qb]
  |_=>rfl
theorem HL(s:Nat):fr.arg (.t s)=fr.look s:=rfl
theorem HM(v:AV):fr.arg (.c v)=some v:=rfl
theorem HN(s:Nat):Fr.look [] s=none:=rfl
theorem HO(k s:Nat)(v:AV)(r:Fr):Fr.look ((k,v)::r) s=if k=s then some v else Fr.look r s:=rfl
theorem HP(d:Nat)(v:AV):fr.dst (some d) v=(d,v)::fr:=rfl
theorem HQ(v:AV):fr.dst none v=fr:=rfl
theorem HS:fr.argsOf []=some []:=rfl
def XG(v:Option AV)(l:Option (List AV)):Option (List AV):=
 match v with
 |none=>none
 |some v=>match l with
  |some l=>some (v::l)
  |none=>none
theorem HT(a:AArg)(r:List AArg):fr.argsOf (a::r)=XG (fr.arg a) (fr.argsOf r):=rfl
theorem HU(v:AV)(l:List AV):XG (some v) (some l)=some (v::l):=rfl
theorem HV(l:List AV)(K:List AV->Prop):argK (some l) K=K l:=rfl
def iteK(v:Prop)(A B:Prop)[Tag A][Tag B]:Prop:=(v->A)/\(¬v->B)
theorem HW(s:Sh)(v:Bool)(A B:Prop):jz (some (.pv s (.bool v))) A B=iteK (v=true) A B:=by
 cases v <;> simp[jz,iteK]
theorem HX(s:Sh)(v w:Bool)(A B:Prop):qb (some (.pv s (.bool v))) w A B=iteK (v=w) A B:=by
 cases v <;> cases w <;> simp[qb,iteK]
theorem HY(w:Bool)(A B:Prop):qb (some .undef) w A B=B:=rfl
theorem HZ(A B:Prop):iteK True A B=A:=by simp[iteK]
theorem H4(A B:Prop):iteK False A B=B:=by simp[iteK]
theorem H6(v A B:Prop):iteK (¬v) A B=iteK v B A:=by
 by_cases h:v <;> simp[iteK,h]
theorem Y6{v A B:Prop}(hA:v->A)(hB:¬v->B):iteK v A B:=⟨hA,hB⟩
attribute [irreducible] iteK
theorem H7(v:AV)(hp:Heap)(K:AV->Heap->Prop):YD (some (v,hp)) K=K v hp:=rfl
theorem H8(v:AV)(hp:Heap)(K:AV->Heap->Prop)(Kp:PV->Heap->Prop):xY (some (.ret v,hp)) K Kp=K v hp:=rfl
theorem H9(v:PV)(hp:Heap)(K:AV->Heap->Prop)(Kp:PV->Heap->Prop):xY (some (.panic v,hp)) K Kp=Kp v hp:=rfl
theorem hJ:fr.keep []=[]:=rfl
def Ve(k:Nat)(v:Option AV)(r:Fr):Fr:=
 match v with
 |some v=>(k,v)::r
 |none=>r
theorem La(k:Nat)(ks:List Nat):fr.keep (k::ks)=Ve k (fr.look k) (fr.keep ks):=rfl
theorem Lb(k:Nat)(v:AV)(r:Fr):Ve k (some v) r=(k,v)::r:=rfl
theorem Lc(k:Nat)(r:Fr):Ve k none r=r:=rfl
theorem Ld(k:St->Prop)(Q:AExit->St->Prop)(st:St):seqK k Q .normal st=k st:=rfl
theorem Le(k:St->Prop)(Q:AExit->St->Prop)(i:Nat)(st:St):seqK k Q (.exit i) st=Q (.exit i) st:=rfl
theorem Lf(k:St->Prop)(Q:AExit->St->Prop)(st:St):seqK k Q .ret st=Q .ret st:=rfl
theorem Lg(k:St->Prop)(Q:AExit->St->Prop)(v:PV)(st:St):seqK k Q (.panic v) st=Q (.panic v) st:=rfl
theorem Lh(id:Nat)(Q:AExit->St->Prop)(st:St):qa id Q .normal st=Q .normal st:=rfl
theorem Li(id:Nat)(Q:AExit->St->Prop)(i:Nat)(st:St):qa id Q (.exit i) st=if i=id then Q .normal st else Q (.exit i) st:=rfl
theorem Lj(id:Nat)(Q:AExit->St->Prop)(st:St):qa id Q .ret st=Q .ret st:=rfl
theorem Lk(id:Nat)(Q:AExit->St->Prop)(v:PV)(st:St):qa id Q (.panic v) st=Q (.panic v) st:=rfl
end Go.Am

/- What code comes to: the operations. -/
namespace Go.Am
variable{Γ:Oracle} {Λ:Yk} {b:Nat} {hp:Heap} {vs:List AV} {K:AV->Heap->Prop} {Kp:PV->Heap->Prop}
def valK(v:Option AV)(K:AV->Prop)[Tag K]:Prop:=
 match v with
 |some v=>K v
 |none=>False
def pvK(v:Option PV)(K:PV->Prop)[Tag K]:Prop:=
 match v with
 |some v=>K v
 |none=>False
theorem Ll(v:AV)(K:AV->Prop):valK (some v) K=K v:=rfl
theorem Lm(v:PV)(K:PV->Prop):pvK (some v) K=K v:=rfl

theorem Ln:opK (aOp Γ b .mv vs hp) K Kp=valK (sMv vs) (fun v=>K v hp):=by
 show opK (match Yq hp (sMv vs) with|some (v,hp')=>some (OpRes.val v hp')|none=>none) K Kp=_;cases sMv vs <;> rfl
theorem Lo:opK (aOp Γ b .len vs hp) K Kp=valK (sLen vs) (fun v=>K v hp):=by
 show opK (match Yq hp (sLen vs) with|some (v,hp')=>some (OpRes.val v hp')|none=>none) K Kp=_;cases sLen vs <;> rfl
theorem Lp:opK (aOp Γ b .slen vs hp) K Kp=valK (Qq vs) (fun v=>K v hp):=by
 show opK (match Yq hp (Qq vs) with|some (v,hp')=>some (OpRes.val v hp')|none=>none) K Kp=_;cases Qq vs <;> rfl
theorem Lq:opK (aOp Γ b .pick vs hp) K Kp=valK (Qk vs) (fun v=>K v hp):=by
 show opK (match Yq hp (Qk vs) with|some (v,hp')=>some (OpRes.val v hp')|none=>none) K Kp=_;cases Qk vs <;> rfl
theorem Lr:opK (aOp Γ b .not vs hp) K Kp=valK (sNot vs) (fun v=>K v hp):=by
 show opK (match Yq hp (sNot vs) with|some (v,hp')=>some (OpRes.val v hp')|none=>none) K Kp=_;cases sNot vs <;> rfl
theorem Ls(o:BinOp):opK (aOp Γ b (.bin o) vs hp) K Kp=valK (sBin o vs) (fun v=>K v hp):=by
 show opK (match Yq hp (sBin o vs) with|some (v,hp')=>some (OpRes.val v hp')|none=>none) K Kp=_;cases sBin o vs <;> rfl
theorem Lt(o:BinOp):opK (aOp Γ b (.binb o) vs hp) K Kp=valK (Ql o vs) (fun v=>K v hp):=by
 show opK (match Yq hp (Ql o vs) with|some (v,hp')=>some (OpRes.val v hp')|none=>none) K Kp=_;cases Ql o vs <;> rfl
theorem Lu(z:List (Sh × AV))(i:List Nat):opK (aOp Γ b (.build z i) vs hp) K Kp=valK (zQ z i vs) (fun v=>K v hp):=by
 show opK (match Yq hp (zQ z i vs) with|some (v,hp')=>some (OpRes.val v hp')|none=>none) K Kp=_;cases zQ z i vs <;> rfl
theorem Lv(sh:Sh):opK (aOp Γ b (.bslicep sh) vs hp) K Kp=valK (xF sh vs) (fun v=>K v hp):=by
 show opK (match Yq hp (xF sh vs) with|some (v,hp')=>some (OpRes.val v hp')|none=>none) K Kp=_;cases xF sh vs <;> rfl
theorem Lw(o:Nat):opK (aOp Γ b (.faddr o) vs hp) K Kp=valK (yO o vs) (fun v=>K v hp):=by
 show opK (match Yq hp (yO o vs) with|some (v,hp')=>some (OpRes.val v hp')|none=>none) K Kp=_;cases yO o vs <;> rfl
theorem Lx(sh:Sh):opK (aOp Γ b (.iaddr sh) vs hp) K Kp=valK (zX sh vs) (fun v=>K v hp):=by
 show opK (match Yq hp (zX sh vs) with|some (v,hp')=>some (OpRes.val v hp')|none=>none) K Kp=_;cases zX sh vs <;> rfl
theorem Ly(sh:Sh)(n:Nat):opK (aOp Γ b (.iaddrA sh n) vs hp) K Kp=valK (xG sh n vs) (fun v=>K v hp):=by
 show opK (match Yq hp (xG sh n vs) with|some (v,hp')=>some (OpRes.val v hp')|none=>none) K Kp=_;cases xG sh n vs <;> rfl
theorem Lz(sh:Sh)(l h:Bool):opK (aOp Γ b (.slice sh l h) vs hp) K Kp=valK (YE sh l h vs) (fun v=>K v hp):=by
 show opK (match Yq hp (YE sh l h vs) with|some (v,hp')=>some (OpRes.val v hp')|none=>none) K Kp=_;cases YE sh l h vs <;> rfl
theorem LA(f:Fn)(k:Nat):opK (aOp Γ b (.mkfunc f k) vs hp) K Kp=valK (Qn f k vs) (fun v=>K v hp):=by
 show opK (match Yq hp (Qn f k vs) with|some (v,hp')=>some (OpRes.val v hp')|none=>none) K Kp=_;cases Qn f k vs <;> rfl
theorem LB(k:IntKind):opK (aOp Γ b (.conv k) vs hp) K Kp=valK (Qo k vs) (fun v=>K v hp):=by
 show opK (match Yq hp (Qo k vs) with|some (v,hp')=>some (OpRes.val v hp')|none=>none) K Kp=_;cases Qo k vs <;> rfl
theorem LC(i:Nat):opK (aOp Γ b (.extract i) vs hp) K Kp=valK (Qp i vs) (fun v=>K v hp):=by
 show opK (match Yq hp (Qp i vs) with|some (v,hp')=>some (OpRes.val v hp')|none=>none) K Kp=_;cases Qp i vs <;> rfl
theorem LD:opK (aOp Γ b .min vs hp) K Kp=valK (sMin vs) (fun v=>K v hp):=by
 show opK (match Yq hp (sMin vs) with|some (v,hp')=>some (OpRes.val v hp')|none=>none) K Kp=_;cases sMin vs <;> rfl
theorem LE:opK (aOp Γ b .max vs hp) K Kp=valK (sMax vs) (fun v=>K v hp):=by
 show opK (match Yq hp (sMax vs) with|some (v,hp')=>some (OpRes.val v hp')|none=>none) K Kp=_;cases sMax vs <;> rfl
theorem LF(t:TypeId):opK (aOp Γ b (.mkiface t) vs hp) K Kp=valK (Xl t vs) (fun v=>K v hp):=by
 show opK (match Yq hp (Xl t vs) with|some (v,hp')=>some (OpRes.val v hp')|none=>none) K Kp=_;cases Xl t vs <;> rfl
theorem LG(t:TypeId)(sh:Sh)(z:AV)(k:Bool):opK (aOp Γ b (.assert t sh z k) vs hp) K Kp=valK (yP t sh z k vs) (fun v=>K v hp):=by
 show opK (match Yq hp (yP t sh z k vs) with|some (v,hp')=>some (OpRes.val v hp')|none=>none) K Kp=_;cases yP t sh z k vs <;> rfl
theorem LH(sh:Sh):opK (aOp Γ b (.load sh) vs hp) K Kp=valK (XN sh hp vs) (fun v=>K v hp):=by
 show opK (match Yq hp (XN sh hp vs) with|some (v,hp')=>some (OpRes.val v hp')|none=>none) K Kp=_;cases XN sh hp vs <;> rfl
theorem LJ(s:Bool)(sh:Sh)(z:AV)(k:Bool):opK (aOp Γ b (.lookup s sh z k) vs hp) K Kp=valK (YF s sh z k hp vs) (fun v=>K v hp):=by
 show opK (match Yq hp (YF s sh z k hp vs) with|some (v,hp')=>some (OpRes.val v hp')|none=>none) K Kp=_;cases YF s sh z k hp vs <;> rfl
theorem LK(n:Nat):opK (aOp Γ b (.aindex n) vs hp) K Kp=valK (Qm n vs) (fun v=>K v hp):=by
 show opK (match Yq hp (Qm n vs) with|some (v,hp')=>some (OpRes.val v hp')|none=>none) K Kp=_;cases Qm n vs <;> rfl
theorem LL(ds:List Nat)(sh:Sh)(z:AV)(k:Bool):opK (aOp Γ b (.lookupr ds sh z k) vs hp) K Kp=valK (XA ds sh z k hp vs) (fun v=>K v hp):=by
 show opK (match Yq hp (XA ds sh z k hp vs) with|some (v,hp')=>some (OpRes.val v hp')|none=>none) K Kp=_;cases XA ds sh z k hp vs <;> rfl
theorem LM:opK (aOp Γ b .mlen vs hp) K Kp=valK (y8 hp vs) (fun v=>K v hp):=by
 show opK (match Yq hp (y8 hp vs) with|some (v,hp')=>some (OpRes.val v hp')|none=>none) K Kp=_;cases y8 hp vs <;> rfl
theorem LN(sh:Sh):opK (aOp Γ b (.nilsl sh) vs hp) K Kp=YD (YM sh hp) K:=by
 show opK (match(YM sh hp) with|some (v,hp')=>some (OpRes.val v hp')|none=>none) K Kp=_;cases (YM sh hp) with
 |none=>rfl
 |some r=>cases r;rfl
theorem LP(sh:Sh)(z:AV):opK (aOp Γ b (.alloc sh z) vs hp) K Kp=YD (yQ sh z hp vs) K:=by
 show opK (match(yQ sh z hp vs) with|some (v,hp')=>some (OpRes.val v hp')|none=>none) K Kp=_;cases (yQ sh z hp vs) with
 |none=>rfl
 |some r=>cases r;rfl
theorem LQ(sh:Sh):opK (aOp Γ b (.box sh) vs hp) K Kp=YD (wBox sh hp vs) K:=by
 show opK (match(wBox sh hp vs) with|some (v,hp')=>some (OpRes.val v hp')|none=>none) K Kp=_;cases (wBox sh hp vs) with
 |none=>rfl
 |some r=>cases r;rfl
theorem LT(sh:Sh):opK (aOp Γ b (.bslice sh) vs hp) K Kp=YD (YW sh hp vs) K:=by
 show opK (match(YW sh hp vs) with|some (v,hp')=>some (OpRes.val v hp')|none=>none) K Kp=_;cases (YW sh hp vs) with
 |none=>rfl
 |some r=>cases r;rfl
theorem LU(sh:Sh):opK (aOp Γ b (.store sh) vs hp) K Kp=YD (zH sh b hp vs) K:=by
 show opK (match(zH sh b hp vs) with|some (v,hp')=>some (OpRes.val v hp')|none=>none) K Kp=_;cases (zH sh b hp vs) with
 |none=>rfl
 |some r=>cases r;rfl
theorem LV(sh:Sh)(z:PV):opK (aOp Γ b (.mkslice sh z) vs hp) K Kp=YD (xH sh z hp vs) K:=by
 show opK (match(xH sh z hp vs) with|some (v,hp')=>some (OpRes.val v hp')|none=>none) K Kp=_;cases (xH sh z hp vs) with
 |none=>rfl
 |some r=>cases r;rfl
theorem LW(s:Bool)(sh:Sh):opK (aOp Γ b (.mapset s sh) vs hp) K Kp=YD (yR s sh hp vs) K:=by
 show opK (match(yR s sh hp vs) with|some (v,hp')=>some (OpRes.val v hp')|none=>none) K Kp=_;cases (yR s sh hp vs) with
 |none=>rfl
 |some r=>cases r;rfl
theorem LX(sh:Sh)(z:PV):opK (aOp Γ b (.clear sh z) vs hp) K Kp=YD (XQ sh z hp vs) K:=by
 show opK (match(XQ sh z hp vs) with|some (v,hp')=>some (OpRes.val v hp')|none=>none) K Kp=_;cases (XQ sh z hp vs) with
 |none=>rfl
 |some r=>cases r;rfl
theorem LY(sh:Sh):opK (aOp Γ b (.append sh) vs hp) K Kp=YD (z8 sh hp vs) K:=by
 show opK (match(z8 sh hp vs) with|some (v,hp')=>some (OpRes.val v hp')|none=>none) K Kp=_;cases (z8 sh hp vs) with
 |none=>rfl
 |some r=>cases r;rfl
theorem LZ(sh:Sh):opK (aOp Γ b (.bslo sh) vs hp) K Kp=YD (XP sh hp vs) K:=by
 show opK (match XP sh hp vs with|some (v,hp')=>some (OpRes.val v hp')|none=>none) K Kp=_;cases XP sh hp vs with
 |none=>rfl
 |some r=>cases r;rfl
theorem L0(sh:Sh):opK (aOp Γ b (.storen sh) vs hp) K Kp=YD (YV sh b hp vs) K:=by
 show opK (match YV sh b hp vs with|some (v,hp')=>some (OpRes.val v hp')|none=>none) K Kp=_;cases YV sh b hp vs with
 |none=>rfl
 |some r=>cases r;rfl
theorem L1(sh:Sh):opK (aOp Γ b (.mkmap sh) vs hp) K Kp=K (.map hp.length) (hp++[.map sh []]):=rfl
theorem L2(s:Sh)(f:FuncId)(azs:List AV):opK (aOp Γ b .call (.pv s (.func (.func f))::azs) hp) K Kp=xY (Γ .fn f azs hp) K Kp:=by
 simp only[aOp,yI,yn,Zu,ZL];cases Γ .fn f azs hp with
 |none=>rfl
 |some r=>obtain⟨r,hp'⟩:=r;cases r <;> rfl
theorem L3(f:FuncId)(fs cs azs:List AV):opK (aOp Γ b .call (.func (.func f) fs cs::azs) hp) K Kp=xY (Γ .fn f (fs++azs++cs) hp) K Kp:=by
 simp only[aOp,yI,yn];cases Γ .fn f (fs++azs++cs) hp with
 |none=>rfl
 |some r=>obtain⟨r,hp'⟩:=r;cases r <;> rfl
theorem L4(n:Nat):opK (aOp Γ b (.calln n) vs hp) K Kp=opK (aOp Γ b .call (vs.drop n) hp) (fun v hp'=>(vs.take n).all (Yy hp hp')=true/\K v hp') Kp:=by
 simp only[aOp,Q1];cases yI Γ hp (vs.drop n) with
 |none=>rfl
 |some r=>
  cases r with
  |val v hp'=>
   grind [opK]
  |panic v hp'=>rfl
def Jd(v:Option (List (Sh × PV)))(K:List (Sh × PV)->Prop)[Tag K]:Prop:=
 match v with
 |some l=>K l
 |none=>False
theorem L5(s:Sh)(f:FuncId)(azs:List AV):opK (aOp Γ b .callp (.pv s (.func (.func f))::azs) hp) K Kp=Jd (YU azs) (fun ps=>xY (Γ .fn f (yo azs (pvs ps)) []) (fun v H=>valK (v.alone H) fun v'=>K v' hp) (fun _ _=>False)):=by
 simp only[aOp,xl];cases YU azs with
 |none=>rfl
 |some ps=>
  simp only[Jd];cases Γ .fn f (yo azs (pvs ps)) [] with
  |none=>rfl
  |some r=>
   obtain⟨r,hp'⟩:=r;cases r with
   |ret v=>simp only[xY];cases v.alone hp' <;> rfl
   |panic v=>rfl
theorem L6(s:Sh)(f:FuncId)(azs:List AV):opK (ya Γ hp (.pv s (.func (.func f))::azs)) K Kp=Jd (YU azs) (fun ps=>xY (Γ .fn f (yo azs (pvs ps)) []) (fun v H=>valK (v.alone H) fun v'=>K v' hp) (fun p _=>Kp p hp)):=by
 simp only[ya];cases YU azs with
 |none=>rfl
 |some ps=>
  simp only[Jd];cases Γ .fn f (yo azs (pvs ps)) [] with
  |none=>rfl
  |some r=>
   obtain⟨r,hp'⟩:=r;cases r with
   |ret v=>simp only[xY];cases v.alone hp' <;> rfl
   |panic v=>rfl
theorem L7(s s':Sh)(t:TypeId)(p:PV):opK (aOp Γ b .panic [.pv s (.iface t s' p)] hp) K Kp=Kp (.iface t s' p) hp:=rfl
end Go.Am
namespace Go.Am
variable{Γ:Oracle} {Λ:Yk} {b:Nat} {hp:Heap} {vs:List AV} {K:AV->Heap->Prop} {Kp:PV->Heap->Prop}
theorem L8:opK (aOp Γ b .nilcheck vs hp) K Kp=valK (xi vs) (fun v=>K v hp):=by
 show opK (match Yq hp (xi vs) with|some (v,hp')=>some (OpRes.val v hp')|none=>none) K Kp=_;cases xi vs <;> rfl
theorem L9(g:Bool):opK (aOp Γ b (.isnil g) vs hp) K Kp=valK (xj g vs) (fun v=>K v hp):=by
 show opK (match Yq hp (xj g vs) with|some (v,hp')=>some (OpRes.val v hp')|none=>none) K Kp=_;cases xj g vs <;> rfl
theorem lc(sh:Sh)(l:Bool):opK (aOp Γ b (.slice3 sh l) vs hp) K Kp=valK (y7 sh l vs) (fun v=>K v hp):=by
 show opK (match Yq hp (y7 sh l vs) with|some (v,hp')=>some (OpRes.val v hp')|none=>none) K Kp=_;cases y7 sh l vs <;> rfl
end Go.Am

/- What code comes to: values; calls of functions. -/
namespace Go.Am
variable{Γ:Oracle} {Λ:Yk} {b:Nat} {hp:Heap} {K:AV->Prop} {s s':Sh} {sh:Sh} {k:IntKind} {x y:Int}

theorem s_mv(v:AV):sMv [v]=some v:=rfl
theorem lf(es:List PV):sLen [.pv s (.sl sh es)]=some (.pv none (.int .i64 es.length)):=rfl
theorem lg(es:List PV):sLen [.tsl sh es]=some (.pv none (.int .i64 es.length)):=rfl
theorem lh(r v o n:Nat):sLen [.sl sh r v o n]=some (.pv none (.int .i64 n)):=rfl
theorem li(l:List UInt8):Qq [.pv s (.str l)]=some (.pv none (.int .i64 l.length)):=rfl
theorem lj(c:Bool)(u v:AV):Qk [.pv s (.bool c),u,v]=some (bif c then u else v):=rfl
theorem lk(c:Bool):sNot [.pv s (.bool c)]=some (.pv none (.bool !c)):=rfl
theorem ll(o:BinOp):valK (sBin o [.pv s (.int k x),.pv s' (.int k y)]) K=pvK (yH o k x y) (fun p=>K (.pv none p)):=by
 simp only[sBin,qv,if_true];cases yH o k x y <;> rfl
theorem lm(o:BinOp)(u v:List UInt8):valK (sBin o [.pv s (.str u),.pv s' (.str v)]) K=pvK (Xy o u v) (fun p=>K (.pv none p)):=by
 simp only[sBin,qv];cases Xy o u v <;> rfl
theorem ln(o:BinOp)(u v:Bool):valK (Ql o [.pv s (.bool u),.pv s' (.bool v)]) K=pvK (QY o u v) (fun p=>K (.pv none p)):=by
 simp only[Ql];cases QY o u v <;> rfl
theorem lq:yH .add k x y=some (.int k (k.wrap (x+y))):=rfl
theorem lu:yH .sub k x y=some (.int k (k.wrap (x - y))):=rfl
theorem lw:yH .eql k x y=some (.bool (decide (x=y))):=rfl
theorem lz:yH .neq k x y=some (.bool (!decide (x=y))):=rfl
theorem lA:yH .lss k x y=some (.bool (decide (x<y))):=rfl
theorem lB:yH .leq k x y=some (.bool (decide (x<=y))):=rfl
theorem lC:yH .gtr k x y=some (.bool (decide (y<x))):=rfl
theorem lD:yH .geq k x y=some (.bool (decide (y<=x))):=rfl
theorem lE{u v:List UInt8}:Xy .eql u v=some (.bool (decide (u=v))):=rfl
theorem lF{u v:List UInt8}:Xy .neq u v=some (.bool (!decide (u=v))):=rfl
theorem lG{u v:List UInt8}:Xy .lss u v=some (.bool (Op.bytesLess u v)):=rfl
theorem lH{u v:Bool}:QY .neq u v=some (.bool (!(u == v))):=rfl
theorem lI(o r o':Nat):yO o [.ptr r o']=some (.ptr r (o'+o)):=rfl
theorem lJ(o r v i o':Nat):yO o [.eptr sh r v i o']=some (.eptr sh r v i (o'+o)):=rfl
theorem zT{es:List PV}{i:Nat}{p:PV}(h:es[i]? =some p):zX sh [.pv s (.sl sh es),.pv s' (.int k i)]=some (.iptr sh p 0):=by
 simp[zX,aindex,h]
theorem xZ{r v o n i:Nat}(h:i<n):zX sh [.sl sh r v o n,.pv s' (.int k i)]=some (.eptr sh r v (o+i) 0):=by
 simp[zX,aindex,h]
theorem lK(k':IntKind):Qo k' [.pv s (.int k x)]=some (.pv none (.int k' (k'.wrap x))):=rfl
theorem lL(i:Nat)(l:List AV):Qp i [.tuple l]=l[i]? :=rfl
theorem lM(fn:Fn)(n:Nat)(v:AV)(l:List AV):Qn fn n (v::l)=some (.func fn ((v::l).take n) ((v::l).drop n)):=rfl
theorem lN:sMin [.pv s (.int k x),.pv s' (.int k y)]=some (.pv none (.int k (if y<x then y else x))):=by simp[sMin]
theorem lO:sMax [.pv s (.int k x),.pv s' (.int k y)]=some (.pv none (.int k (if x<y then y else x))):=by simp[sMax]
theorem lP(p:AV):XN sh hp [p]=aload sh hp p:=rfl
def Xf(sh:Sh)(off:Nat):Option AObj->Option AV
 |some (.box s v)=>if off=0/\s=sh then some v else AV.part deep v off sh
 |_=>none
theorem lQ(r off:Nat):aload sh hp (.ptr r off)=Xf sh off hp[r]? :=by
 grind [Xf,aload]
theorem lR(off:Nat)(v:AV):Xf sh off (some (.box s v))=if off=0/\s=sh then some v else AV.part deep v off sh:=rfl
def toAV(sh:Sh):Option PV->Option AV
 |some p=>some (.pv sh p)
 |none=>none
theorem lS(p:PV):toAV sh (some p)=some (.pv sh p):=rfl
theorem lT(p:PV)(off:Nat):aload sh hp (.iptr s p off)=if off=0/\s=sh then some (.pv sh p) else toAV sh (PV.part deep p off sh):=by
 grind [aload,toAV]
theorem lU(p:PV)(off:Nat):AV.part deep (.pv s p) off sh=toAV sh (PV.part deep p off sh):=by
 show AV.part (7+1) (.pv s p) off sh=toAV sh (PV.part (7+1) p off sh)
 grind [AV.part,toAV]
theorem lV(l:List (Sh × PV))(off:Nat):PV.part deep (.agg l) off sh=PV.part.go 7 off sh l:=rfl
theorem lW(l:List (Sh × AV))(off:Nat):AV.part deep (.agg l) off sh=AV.part.go 7 off sh l:=rfl
theorem lX(d off:Nat)(p:PV)(r:List (Sh × PV)):PV.part.go d off sh ((s,p)::r)=if off=0/\s=sh then some p else if off<s.size then PV.part d p off sh else PV.part.go d (off - s.size) sh r:=rfl
theorem lY(d off:Nat)(p:AV)(r:List (Sh × AV)):AV.part.go d off sh ((s,p)::r)=if off=0/\s=sh then some p else if off<s.size then AV.part d p off sh else AV.part.go d (off - s.size) sh r:=rfl
theorem lZ:Sh.size none=1:=rfl
theorem X5(n:Nat):Sh.size (some n)=n:=rfl
def endK(rs:List RSlot)(Q:AV->Heap->Prop)[Tag Q]:AExit->St->Prop
 | .normal,st=>match Yr st rs with
  |some v=>Q v st.hp
  |none=>False
 | .ret,st=>match Yr st rs with
  |some v=>Q v st.hp
  |none=>False
 |_,_=>False
theorem qc(rs:List RSlot)(Q:AV->Heap->Prop)(st:St):endK rs Q .ret st=valK (Yr st rs) (fun v=>Q v st.hp):=by
 show(match Yr st rs with|some v=>Q v st.hp|none=>False)=_;cases Yr st rs <;> rfl
theorem Je(rs:List RSlot)(Q:AV->Heap->Prop)(st:St):endK rs Q .normal st=valK (Yr st rs) (fun v=>Q v st.hp):=by
 show(match Yr st rs with|some v=>Q v st.hp|none=>False)=_;cases Yr st rs <;> rfl
theorem l8(st:St)(r:Nat):Yr st [(r,none)]=st.fr.look r:=rfl
theorem l9(st:St)(r:Nat)(sh:Sh):Yr st [(r,some sh)]=(match st.fr.look r with|some p=>aload sh st.hp p|none=>none):=rfl
def tupO:Option (List AV)->Option AV
 |some l=>some (.tuple l)
 |none=>none
theorem Ma(l:List AV):tupO (some l)=some (.tuple l):=rfl
theorem Mb(st:St)(r q:RSlot)(l:List RSlot):Yr st (r::q::l)=tupO (yz st (r::q::l)):=by
 grind [Yr,tupO]
theorem Mc(st:St):Yr st []=some (.tuple []):=rfl
theorem Md(p:Nat->Bool):(AV.tuple []).refsIn.all p=true:=rfl
theorem Me(st:St):yz st []=some []:=rfl
theorem Mf(st:St)(r:RSlot)(l:List RSlot):yz st (r::l)=XG (Yn st r) (yz st l):=rfl
theorem Mg(st:St)(r:Nat):Yn st (r,none)=st.fr.look r:=rfl
theorem jA(st:St)(r:Nat)(sh:Sh):Yn st (r,some sh)=(match st.fr.look r with|some p=>aload sh st.hp p|none=>none):=rfl
theorem Mh(i:Nat):params i []=[]:=rfl
theorem Mi(i:Nat)(v:AV)(r:List AV):params i (v::r)=(i,v)::params (i+1) r:=rfl

def frozen(v:AV):AV->Heap->Prop:=fun v' hp=>∃hp',v'.freezeRes hp=some (v,hp')
theorem Mj(p:PV)(v:AV):frozen v (.pv s p) hp=(.pv s p=v):=by
 simp_all[AV.freeze,deep,frozen,AV.freezeRes,AV.shp]
theorem zK:∀(ps:List (Sh × PV)),zZ (pvs ps) hp=some (ps,hp)
 |[]=>rfl
 |(sh,p)::r=>by
  have h:AV.freeze deep (.pv sh p) hp=some (p,hp):=rfl;show zZ (.pv sh p::pvs r) hp=_;simp only[zZ,h,zK r,AV.shp]

variable{F:FuncId->Option AFn} {prim:FuncId->Option Ya}
theorem zM{f:FuncId}{fn:AFn}{args:List AV}{ps:List (Sh × PV)}{hp:Heap}{v:AV}(hp0:prim f=none)(hf:F f=some fn)(hm:fn.heapMode=false)(hz:zZ args hp=some (ps,hp))(hn:(pvs ps).length=fn.nparams)
  (h:W (sem F prim) (sloop F prim) 0 fn.code ⟨params 0 (pvs ps),[]⟩ (endK fn.results (frozen v)))(hr:fn.rcv=none:=by rfl)(hmo:fn.more=[]:=by rfl):sem F prim .fn f args hp=some (.ret v,hp):=by
 rw[X3];unfold YY;rw[hp0,hf];simp only[hr,hmo,zy,hm,ZJ,if_false,hz,abody,hn,ne_eq,not_true_eq_false];unfold W at h;split at h
 ·rename_i e st' he;have hl:([]:Heap).length=0:=rfl;rw[hl,he];cases e with
  |normal=>
   rw[Je] at h;cases hr:Yr st' fn.results with
   |none=>rw[hr] at h;exact h.elim
   |some u=>
    rw[hr] at h;obtain⟨hp',h⟩:=h
    grind
  |ret=>
   rw[qc] at h;cases hr:Yr st' fn.results with
   |none=>rw[hr] at h;exact h.elim
   |some u=>
    rw[hr] at h;obtain⟨hp',h⟩:=h
    grind
  |exit i=>exact h.elim
  |panic v=>exact h.elim
 grind
theorem Gs{c:ACode}{st:St}{Q Q':AExit->St->Prop}(h:W Γ Λ b c st Q)(hq:∀e st',Q e st'->Q' e st'):W Γ Λ b c st Q':=by
 grind [W]
theorem XH(I:Nat->St->Prop){b:Nat}{keep:List Nat}{c:ACode}{st:St}{Q:AExit->St->Prop}{n:Nat}(h0:I n ⟨st.fr.keep keep,st.hp⟩)
  (h:∀n st1,I n st1->W (sem F prim) (sloop F prim) b c st1 (fun e st'=>match e with
   | .normal=>∃m,m<n/\I m ⟨st'.fr.keep keep,collect st.hp.length b (st'.fr.keep keep) st'.hp⟩
   |e=>Q e st')):W (sem F prim) (sloop F prim) b (.loop keep c) st Q:=by
 unfold W;simp only[aexec];have key:∀n st1,I n st1->match sloop F prim b st.hp.length keep c st1 with|some (e,st')=>Q e st'|none=>False:=by
  intro n
  induction n using Nat.strongRecOn with
  |_ n ih=>
   grind [W,u9]
 grind
end Go.Am
namespace Go.Am
variable{Γ:Oracle} {Λ:Yk} {b:Nat} {hp:Heap} {K:AV->Heap->Prop} {s s':Sh} {sh:Sh} {k:IntKind} {x y:Int}
theorem Mk:Am.pvs []=[]:=rfl
theorem Ml(s:Sh)(p:PV)(r:List (Sh × PV)):Am.pvs ((s,p)::r)=.pv s p::Am.pvs r:=rfl
theorem Mm(p:PV):yQ sh (.pv sh p) hp []=some (.ptr hp.length 0,hp++[.box sh (.pv sh p)]):=by
 grind [yQ,AV.plain,AV.shp,AV.own]
theorem Mn(p:PV):wBox sh hp [.pv sh p]=some (.ptr hp.length 0,hp++[.box sh (.pv sh p)]):=by
 grind [wBox,AV.plain,AV.shp,AV.own]
def Vf(sh:Sh)(n:Nat):List (Sh × AV) × Heap->Option (AV × Heap)
 |(l,hp)=>some (.ptr n 0,hp.set n (.box sh (.agg l)))
theorem Mo(n:Nat)(l:List (Sh × AV)):Vf sh n (l,hp)=some (.ptr n 0,hp.set n (.box sh (.agg l))):=rfl
theorem Mp(l:List (Sh × AV)):yQ sh (.agg l) hp []=if some (total l)=sh then Vf sh hp.length (zR l (hp++[.box sh (.agg l)])) else none:=by
 simp only[yQ,AV.plain,AV.shp,true_and,AV.own];rfl
theorem Mq:zR [] hp=([],hp):=rfl
def YI(x:Sh × AV):List (Sh × AV) × Heap->List (Sh × AV) × Heap
 |(l,hp)=>(x::l,hp)
theorem Mr(u:Sh × AV)(l:List (Sh × AV)):YI u (l,hp)=(u::l,hp):=rfl
theorem Ms(r:List (Sh × AV)):zR ((s,.tsl sh [])::r) hp=if 0<sh.size then YI (s,.sl sh hp.length 0 0 0) (zR r (hp++[.arr sh [] false])) else YI (s,.tsl sh []) (zR r hp):=rfl
theorem Mt(p:PV)(r:List (Sh × AV)):zR ((s,.pv s' p)::r) hp=YI (s,.pv s' p) (zR r hp):=rfl
theorem Mu(p:List (Sh × AV))(r:List (Sh × AV)):zR ((s,.agg p)::r) hp=YI (s,.agg p) (zR r hp):=rfl
theorem Mv:total ([]:List (Sh × AV))=0:=rfl
theorem Mw(v:AV)(r:List (Sh × AV)):total ((s,v)::r)=s.size+total r:=rfl
def boxK(o:Option AObj)(K:Sh->AV->Prop)[Tag K]:Prop:=
 match o with
 |some (.box s v)=>K s v
 |_=>False
theorem Mx(v:AV)(K:Sh->AV->Prop):boxK (some (.box s v)) K=K s v:=rfl
theorem My(r off:Nat)(p:PV):YD (zH sh b hp [.ptr r off,.pv sh p]) K=boxK hp[r]? fun s old=>if off=0/\s=sh then K .undef (hp.set r (.box s (.pv sh p))) else
  valK (AV.upd deep old off sh (.pv sh p)) fun new=>K .undef (hp.set r (.box s new)):=by
 simp only[zH,astore,AV.plain,AV.shp,AV.own,AV.refsIn,ZS]
 grind [boxK,YD,valK]
theorem Mz{r:Nat}(h:b<=r)(fn:Fn)(fs cs:List AV):YD (zH none b hp [.ptr r 0,.func fn fs cs]) K=boxK hp[r]? fun s old=>if s=none then K .undef (hp.set r (.box s (.func fn fs cs))) else valK (AV.upd deep old 0 none (.func fn fs cs)) fun new=>K .undef (hp.set r (.box s new)):=by
 simp only[zH,astore,AV.plain,AV.shp,AV.own]
 grind [boxK,YD,valK]
theorem Xo(h:0<sh.size):YM sh hp=some (.sl sh hp.length 0 0 0,hp++[.arr sh [] false]):=by
 simp[YM,h]
def jB(r:List Nat)(st:St)(q:Nat):Option AObj->Option St
 |some (.box sh v)=>match AV.freeze deep v st.hp with
  |some (p,hp')=>settle r ⟨st.fr,hp'.set q (.box sh (.pv sh p))⟩
  |none=>none
 |_=>settle r st
def Vg(s:Nat)(r:List Nat)(st:St):Option AV->Option St
 |some (.ptr q _)=>jB r st q st.hp[q]?
 |some (.sl s' q ver off len)=>match AV.freeze deep (.sl s' q ver off len) st.hp with
   |some (p,hp')=>settle r ⟨(s,.pv none p)::st.fr,hp'⟩
   |none=>none
 |some (.tsl sh es)=>settle r ⟨(s,.pv none (.sl sh es))::st.fr,st.hp⟩
 |some (.slv s' q ver off len)=>match AV.freeze deep (.slv s' q ver off len) st.hp with
   |some (p,hp')=>settle r ⟨(s,.pv none p)::st.fr,hp'⟩
   |none=>none
 |some (.nilv sh)=>settle r ⟨(s,.pv none (.sl sh []))::st.fr,st.hp⟩
 |some (.agg l)=>if(AV.refsIn.go l).isEmpty=true then settle r st else match AV.freeze deep (.agg l) st.hp with
   |some (p,hp')=>settle r ⟨(s,.pv (some (total l)) p)::st.fr,hp'⟩
   |none=>settle r st
 |_=>settle r st
theorem MA(st:St):settle [] st=some st:=rfl
theorem MB(s:Nat)(r:List Nat)(st:St):settle (s::r) st=Vg s r st (st.fr.look s):=by
 simp only[settle];cases st.fr.look s with
 |none=>rfl
 |some v=>
  cases v with
  |ptr q o=>
   simp only[Vg];cases st.hp[q]? with
   |none=>rfl
   |some o=>cases o <;> rfl
  |_=>rfl
theorem MC(s:Nat)(r:List Nat)(st:St)(q o:Nat):Vg s r st (some (.ptr q o))=jB r st q st.hp[q]? :=rfl
def setK(v:Option St)(K:St->Prop)[Tag K]:Prop:=
 match v with
 |some st=>K st
 |none=>False
theorem MD(st:St)(K:St->Prop):setK (some st) K=K st:=rfl
theorem W_settle'{Γ:Oracle}{Λ:Yk}{b:Nat}{st:St}{Q:AExit->St->Prop}(l:List Nat):W Γ Λ b (.settle l) st Q=setK (settle l st) (fun st'=>Q .normal st'):=by
 rw[Hy];cases settle l st <;> rfl
def Vh(x:Sh × PV):Option (List (Sh × PV))->Option (List (Sh × PV))
 |some l=>some (x::l)
 |none=>none
theorem ME(x:Sh × PV)(l:List (Sh × PV)):Vh x (some l)=some (x::l):=rfl
theorem MF:YU []=some []:=rfl
theorem MG(s:Sh)(p:PV)(r:List AV):YU (.pv s p::r)=Vh (s,p) (YU r):=by
 have h:AV.weaken deep (.pv s p)=some p:=rfl;simp only[YU,h,AV.shp];cases YU r <;> rfl
theorem MH(s:Sh)(es:List PV)(r:List AV):YU (.tsl s es::r)=Vh (none,.sl s es) (YU r):=by
 have h:AV.weaken deep (.tsl s es)=some (.sl s es):=rfl;simp only[YU,h,AV.shp];cases YU r <;> rfl
theorem MI(l:List (Sh × PV))(K:List (Sh × PV)->Prop):Jd (some l) K=K l:=rfl
theorem MJ(s:Sh)(p:PV)(H:Heap):AV.alone (.pv s p) H=some (.pv s p):=rfl
theorem MK(q:List AV):yo [] q=q:=by cases q <;> rfl
theorem ML(s:Sh)(p:PV)(r q:List AV)(x:AV):yo (.pv s p::r) (x::q)=x::yo r q:=rfl
theorem MM(s:Sh)(a:PV)(l:List PV)(r q:List AV)(x:AV):yo (.tsl s (a::l)::r) (x::q)=x::yo r q:=rfl
def Gt(x:Sh × PV):Option (List (Sh × PV) × Heap)->Option (List (Sh × PV) × Heap)
 |some (l,hp)=>some (x::l,hp)
 |none=>none
theorem MN(x:Sh × PV)(l:List (Sh × PV))(hp:Heap):Gt x (some (l,hp))=some (x::l,hp):=rfl
theorem MO(hp:Heap):zZ [] hp=some ([],hp):=rfl
theorem MP(s:Sh)(p:PV)(r:List AV)(hp:Heap):zZ (.pv s p::r) hp=Gt (s,p) (zZ r hp):=by
 have h:AV.freeze deep (.pv s p) hp=some (p,hp):=rfl;simp only[zZ,h,AV.shp];cases zZ r hp with
 |none=>rfl
 |some x=>rfl
def bslO(sh:Sh):Option (List PV)->Heap->Option (AV × Heap)
 |some es,hp=>some (.tsl sh es,hp)
 |none,_=>none
def bslZ(sh:Sh):Option (List (Sh × PV) × Heap)->Option (AV × Heap)
 |some (ps,hp)=>bslO sh (YG sh ps) hp
 |none=>none
theorem MQ(sh:Sh)(hp:Heap)(vs:List AV):YW sh hp vs=bslZ sh (zZ vs hp):=by
 unfold YW bslZ;cases zZ vs hp with
 |none=>rfl
 |some x=>
  obtain⟨ps,hp'⟩:=x;simp only[];cases YG sh ps <;> rfl
theorem MS(sh:Sh)(ps:List (Sh × PV))(hp:Heap):bslZ sh (some (ps,hp))=bslO sh (YG sh ps) hp:=rfl
theorem MT(sh:Sh)(es:List PV)(hp:Heap):bslO sh (some es) hp=some (.tsl sh es,hp):=rfl
def Gu(p:PV):Option (List PV)->Option (List PV)
 |some l=>some (p::l)
 |none=>none
theorem MU(p:PV)(l:List PV):Gu p (some l)=some (p::l):=rfl
theorem MV(sh:Sh):YG sh []=some []:=rfl
theorem MW(sh s:Sh)(p:PV)(r:List (Sh × PV)):YG sh ((s,p)::r)=if s=sh then Gu p (YG sh r) else none:=by
 simp only[YG];split
 ·cases YG sh r <;> rfl
 ·rfl
def bslQ(sh:Sh):Option (List PV)->Option AV
 |some es=>some (.tsl sh es)
 |none=>none
theorem MX(sh:Sh)(es:List PV):bslQ sh (some es)=some (.tsl sh es):=rfl
def bslP(sh:Sh):Option (List (Sh × PV))->Option AV
 |some ps=>bslQ sh (YG sh ps)
 |none=>none
theorem MY(sh:Sh)(ps:List (Sh × PV)):bslP sh (some ps)=bslQ sh (YG sh ps):=rfl
theorem MZ(sh:Sh)(vs:List AV):xF sh vs=bslP sh (YU vs):=by
 unfold xF bslP;cases YU vs with
 |none=>rfl
 |some ps=>simp only[];cases YG sh ps <;> rfl
def jC(sh:Sh)(n:Nat):Option AObj->Prop
 |some (.arr s es false)=>s=sh/\es.length=n
 |_=>False
def okArrF(n:Nat):Option AObj->Prop
 |some (.arr _ es _)=>es.length=n
 |_=>False
def Vi:Option AObj->List PV
 |some (.arr _ es _)=>es
 |_=>[]
theorem M0{sh s:Sh}{n:Nat}(es:List PV):jC sh n (some (.arr s es false))=(s=sh/\es.length=n):=rfl
theorem M3{s:Sh}{fz:Bool}(es:List PV):Vi (some (.arr s es fz))=es:=rfl
theorem M4{sh:Sh}{n:Nat}{o:Option AObj}(h:jC sh n o):∃es,o=some (.arr sh es false)/\es.length=n:=by
 unfold jC at h
 grind
theorem Gv{sh s:Sh}{hp:Heap}{r n:Nat}{new:List PV}(h:jC sh n hp[r]?)(h2:n+new.length<=lim):z8 sh hp [.sl s r n 0 n,.tsl sh new]=some (.sl sh r (n+new.length) 0 (n+new.length),hp.set r (.arr sh (Vi hp[r]? ++new) false)):=by
 grind [M4,z8,aappend,elems,Vi]
def frzT(v:AV):Option (List (Sh × PV) × Heap)->Prop
 |some (ps,_)=>.tuple (pvs ps)=v
 |none=>False
theorem M5(v:AV)(ps:List (Sh × PV))(hp:Heap):frzT v (some (ps,hp))=(.tuple (pvs ps)=v):=rfl
theorem X6{hp:Heap}{l:List AV}{v:AV}:frozen v (.tuple l) hp=frzT v (zZ l hp):=by
 simp only[frozen,AV.freezeRes];cases zZ l hp with
 |none=>simp[frzT]
 |some x=>
  simp_all[frzT]
theorem Gw{x:Int}(h:0<=x)(h':x<18446744073709551616):IntKind.u64.wrap x=x:=by
 grind [IntKind.wrap,IntKind.signed,IntKind.bits]
def Vj(sh:Sh):Option AObj->Prop
 |some (.box s _)=>s=sh
 |_=>False
theorem M6(sh s:Sh)(v:AV):Vj sh (some (.box s v))=(s=sh):=rfl
def Vk(r:Nat)(sh:Sh):List (Sh × AV) × Heap->Option (AV × Heap)
 |(l,hp1)=>some (.undef,hp1.set r (.box sh (.agg l)))
theorem M7(r:Nat)(sh:Sh)(l:List (Sh × AV))(hp1:Heap):Vk r sh (l,hp1)=some (.undef,hp1.set r (.box sh (.agg l))):=rfl
theorem zD{b r:Nat}{sh:Sh}{hp:Heap}(h:b<=r)(l:List (Sh × AV))(hs:some (total l)=sh)(ho:Vj sh hp[r]?):zH sh b hp [.ptr r 0,.agg l]=Vk r sh (zR l hp):=by
 cases ho':hp[r]? with
 |none=>rw[ho'] at ho;exact ho.elim
 |some o=>
  rw[ho'] at ho;cases o with
  |box s old=>
   simp only[Vj] at ho
   grind [zH,astore,AV.plain,AV.shp,AV.own,Vk]
  |arr s es fz=>exact ho.elim
  |map s es=>exact ho.elim
  |loop f ps env bz=>exact ho.elim
  |arv s es=>exact ho.elim
theorem yY{b r:Nat}{s':Sh}{hp:Heap}{K:AV->Heap->Prop}{q v o n off:Nat}(h:b<=r):YD (zH none b hp [.ptr r off,.sl s' q v o n]) K=boxK hp[r]? fun s old=>if off=0/\s=none then K .undef (hp.set r (.box s (.sl s' q v o n))) else
  valK (AV.upd deep old off none (.sl s' q v o n)) fun new=>K .undef (hp.set r (.box s new)):=by
 simp only[zH,astore,AV.plain,AV.shp,AV.own]
 grind [boxK,YD,valK]
def updO:Option (List (Sh × AV))->Option AV
 |some l=>some (AV.ofComps l)
 |none=>none
theorem M8(l:List (Sh × AV)):updO (some l)=some (AV.ofComps l):=rfl
theorem M9(l:List (Sh × AV))(off:Nat)(sh:Sh)(x:AV):AV.upd deep (.agg l) off sh x=updO (AV.updGo (fun p o=>AV.upd 7 p o sh x) sh x off l):=by
 show AV.upd (7+1) (.agg l) off sh x=_;simp only[AV.upd,AV.comps];cases AV.updGo (fun p o=>AV.upd 7 p o sh x) sh x off l <;> rfl
def Gx(s:Sh)(p:AV):Option (List (Sh × AV))->Option (List (Sh × AV))
 |some l=>some ((s,p)::l)
 |none=>none
theorem mc(s:Sh)(p:AV)(l:List (Sh × AV)):Gx s p (some l)=some ((s,p)::l):=rfl
theorem md(f:AV->Nat->Option AV)(sh:Sh)(v:AV)(off:Nat)(s:Sh)(p:AV)(r:List (Sh × AV)):AV.updGo f sh v off ((s,p)::r)=if off=0/\s=sh then some ((s,v)::r) else if off<s.size then(match f p off with|some p'=>some ((s,p')::r)|none=>none) else Gx s p (AV.updGo f sh v (off - s.size) r):=by
 simp only[AV.updGo];split
 ·rfl
 ·split
  ·rfl
  ·cases AV.updGo f sh v (off - s.size) r <;> rfl
end Go.Am

/- (empty) -/

/- The steps, azs one set. -/
namespace Go.Am
attribute [go_sem] Hv Hw Hx Hz HA HB HC HD HG HI HJ HE HF HK HL HM HN HO HP HQ HS HT HU HV HW HX HY HZ H4 H6 H7 H8 H9 hJ La Lb Lc Ld Le Lf Lg Lh Li Lj Lk Ll Lm Ln Lo Lp Lq Lr Ls Lt Lu Lv Lw Lx Ly Lz LA LB LC LD LE LF LG LH LJ LM LK LL LN LP LQ LT LU LV LW LX LY L1 L2 L3 L5 L6 L7 s_mv lf lg lh li lj lk ll lm ln lq lu lw lz lA lB lC lD lE lF lG lH lI lJ lK lL lM lN lO lP lQ lR lS lT lU lV lW lX lY lZ X5 qc Je l8 Mb Me Mf Mg Mh Mi Ma Mc Md Mj Mm Mn Mq Mr Ms Mt Mu Mp Mo Mv Mw Mx My W_settle' MD MA MB MC ME MF MG MH MI MJ MK ML MM MN MO MP MQ MS MT MU MV MW MZ MX MY M0 M3 Gv X6 M5 M7 M6 M8 M9 mc md l9 if_true if_false true_and and_true false_and and_false and_self ZK Nat.add_zero eq_self Bool.true_eq_false ZJ cond_true cond_false ZN zz Bool.not_eq_false' decide_eq_false_iff_not not_true_eq_false not_false_eq_true Bool.true_and Bool.false_and Bool.and_true Bool.and_false Bool.not_true Bool.not_false Option.some.injEq decide_true decide_false List.getElem?_cons_zero zA Z5 List.length_nil Zu Zq List.set_cons_zero List.set_cons_succ zu List.drop_zero Ml Mk L4 L0 LZ L8 L9 lc
end Go.Am

/- Terms: sizes, valid ones; how their parts are read. -/
namespace Go.Am
mutual
def Tm.size:Tm->Nat
 | .mk _ _ _ azs=>1+Tm.sizes azs
def Tm.sizes:List Tm->Nat
 |[]=>0
 |t::r=>t.size+Tm.sizes r
end
theorem Tm.size_eq(t:Tm):t.size=1+Tm.sizes t.args:=by cases t;simp[Tm.size,Tm.args]
theorem Tm.size_pos(t:Tm):0<t.size:=by grind [Tm.size_eq]
theorem Tm.zA1:∀{l:List Tm} {t:Tm},t∈l->t.size<=Tm.sizes l
 |x::r,t,h=>by
  simp only[Tm.sizes];rcases Zy.1 h with rfl|h
  ·omega
  ·have:=Tm.zA1 h;omega
theorem Tm.zAX(l r:List Tm):Tm.sizes (l++r)=Tm.sizes l+Tm.sizes r:=by
 induction l with
 |nil=>simp[Tm.sizes]
 |cons x l ih=>grind [Tm.sizes]
theorem Tm.zAG(l:List Tm):l.length<=Tm.sizes l:=by
 induction l with
 |nil=>simp
 |cons x l ih=>have:=x.size_pos;grind [Tm.sizes]
theorem Tm.zAP{l:List Tm}{i:Nat}{t:Tm}(h:l[i]? =some t):Tm.sizes (l.take (i+1))=Tm.sizes (l.take i)+t.size:=by
 grind [Z8,Tm.zAX,Tm.sizes]
theorem Tm.zAL(l:List Tm)(i:Nat):Tm.sizes (l.take i)<=Tm.sizes l:=by
 grind [Tm.zAX,ZY]
theorem Tm.zAI{t u:Tm}(h:u∈t.args):u.size<t.size:=by
 have:=Tm.zA1 h;rw[t.size_eq];omega
theorem Tm.zAH{P:Tm->Prop}(h:∀t:Tm,(∀u∈t.args,P u)->P t)(t:Tm):P t:=by
 have:∀n (t:Tm),t.size<=n->P t:=by
  intro n
  induction n with
  |zero=>intro t ht;have:=t.size_pos;omega
  |succ n ih=>exact fun t ht=>h t fun u hu=>ih u (by have:=Tm.zAI hu;omega)
 exact this _ t (Zc _)
theorem Tm.zAT(l:List Tm):Tm.pvs l=l.map Tm.pv:=by
 induction l with
 |nil=>rfl
 |cons x l ih=>grind [Tm.pvs]
theorem Tm.pvs_get{l:List Tm}{i:Nat}{t:Tm}(h:l[i]? =some t):(Tm.pvs l)[i]? =some t.pv:=by simp[Tm.zAT,h]
theorem Tm.pvs_len(l:List Tm):(Tm.pvs l).length=l.length:=by simp[Tm.zAT]
theorem Tm.zAN(l r:List Tm):Tm.pvs (l++r)=Tm.pvs l++Tm.pvs r:=by simp[Tm.zAT]
theorem Tm.zAM{l:List Tm}{i:Nat}{t:Tm}(h:l[i]? =some t):Tm.pvs (l.take i)++[t.pv]=Tm.pvs (l.take (i+1)):=by
 rw[Z8,h,Tm.zAN];rfl
theorem zJ(t:Tm):PV.part deep t.pv 0 none=some (.int .i64 t.kind):=by cases t;rfl
theorem Yf(t:Tm):PV.part deep t.pv 1 none=some (.int .i64 t.n):=by cases t;rfl
theorem zN(t:Tm):PV.part deep t.pv 2 none=some (.str t.name):=by cases t;rfl
theorem zL(t:Tm):PV.part deep t.pv 3 none=some (.sl (some 4) (Tm.pvs t.args)):=by cases t;rfl
theorem zU{x:Int}(h: -9223372036854775808<=x)(h':x<9223372036854775808):IntKind.i64.wrap x=x:=by
 grind [IntKind.wrap_i64]
end Go.Am
namespace Go.Am
def Tm.node(t:Tm):Bool:=
 if t.kind=0 then decide (0<=t.n) && decide (t.n<=1099511627776) && decide (t.name=[]) && decide ((t.args.length:Int)=0)
 else if t.kind=1 then decide (t.name=[]) && decide ((t.args.length:Int)=0)
 else if t.kind=2 then decide (t.n=0) && decide ((t.name.length:Int)<=100) && decide ((t.args.length:Int)=0)
 else if t.kind=3 then decide (t.n=0) && decide ((t.name.length:Int)<=100) && decide (0<(t.args.length:Int)) && decide ((t.args.length:Int)<=8)
 else false
mutual
def Tm.fits:Tm->Bool
 | .mk k n s azs=>Tm.node (.mk k n s azs) && Tm.fitsAll azs
def Tm.fitsAll:List Tm->Bool
 |[]=>true
 |t::r=>t.fits && Tm.fitsAll r
end
theorem Tm.zAO(t:Tm):t.fits=(t.node && Tm.fitsAll t.args):=by cases t;simp[Tm.fits,Tm.args]
theorem Tm.zA7{l:List Tm}:Tm.fitsAll l=true↔∀t∈l,t.fits=true:=by
 induction l with
 |nil=>simp[Tm.fitsAll]
 |cons x l ih=>grind [Tm.fitsAll]
theorem Tm.zAU(l r:List Tm):Tm.fitsAll (l++r)=(Tm.fitsAll l && Tm.fitsAll r):=by
 induction l with
 |nil=>simp[Tm.fitsAll]
 |cons x l ih=>grind [Tm.fitsAll]
theorem Tm.zAY{l:List Tm}{i:Nat}{t:Tm}(h:l[i]? =some t):Tm.fitsAll (l.take (i+1))=(Tm.fitsAll (l.take i) && t.fits):=by
 grind [Z8,Tm.zAU,Tm.fitsAll]
theorem Tm.zAK{t u:Tm}(h:t.fits=true)(hu:u∈t.args):u.fits=true:=by
 grind [Tm.zAO,Tm.zA7]
def Tm.valid(t:Tm):Bool:=decide (t.size<=2000) && t.fits
end Go.Am
