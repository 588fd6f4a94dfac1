/- What is proved: the abstract machine says true of the model (part 5). No conditions beside those that each theorem names. -/
import Derived.Test.YtligpohiokpnhaaGreatAm4
import Derived.Lib.Bytealg
import Derived.ProofKit
import Derived.OpenShut
import Derived.JoinedCond
import Derived.Test.YtligpohiokpnhaaGreatAm2
import Derived.WalkKit
set_option linter.unusedSimpArgs false
set_option linter.unusedVariables false
/- A table of functions. -/
namespace Go.Am
def qH(P:Program)(tab:List (Nat × AFn)):Prop:=∀x∈tab,∃fnc,P.funcs[x.1]? =some fnc/\trFn P x.2.heapMode x.1 fnc=some x.2
theorem df{P:Program}:qH P []:=fun x h=>by simp at h
theorem Yc{P:Program}{f:Nat}{g:AFn}{fnc:Func}{r:List (Nat × AFn)}(h:P.funcs[f]? =some fnc)(t:trFn P g.heapMode f fnc=some g)(k:qH P r):qH P ((f,g)::r):=by
 intro x hx;simp only[Zu] at hx;rcases hx with rfl|hx
 ·exact⟨fnc,h,t⟩
 ·exact k x hx
def find:List (Nat × AFn)->FuncId->Option AFn
 |[],_=>none
 |(k,g)::r,f=>bif Nat.beq k f then some g else find r f
theorem UH:∀{tab:List (Nat × AFn)} {f:FuncId} {g:AFn},find tab f=some g->(f,g)∈tab
 |[],_,_,h=>by cases h
 |(k,x)::r,f,g,h=>by
  simp only[find] at h;cases hk:Nat.beq k f with
  |true=>
   rw[hk] at h;cases h;simp[zA hk]
  |false=>
   rw[hk] at h;exact ZQ _ (UH h)
theorem dg{P:Program}{tab:List (Nat × AFn)}(h:qH P tab):Qi P (find tab):=fun f fn hf=>h (f,fn) (UH hf)
end Go.Am

/- Contracts by hand: what the library has no body for. -/
namespace Go.Am
variable{P:Program}

def qI(P:Program)(f:FuncId)(p:Yw):Prop:=
 ∀args hp r hp',p f args hp=some (r,hp')->∀(w:World) (X:Xc P) (μ:Nat->Option Nat) (vs:List Value),HR w X μ hp->LR w X μ hp args vs->Called P f vs.toArray w (y8 hp.length w X μ hp r hp')

theorem dh:xE P (fun _=>none):=fun f p h=>by cases h
theorem UI{prim:FuncId->Option Yw}{f:FuncId}{p:Yw}(h:qI P f p)(k:xE P prim):xE P (fun g=>bif Nat.beq f g then some p else prim g):=by
 intro g q hq;cases hk:Nat.beq f g with
 |true=>
  simp only[hk,cond_true] at hq;cases hq;have:=zA hk;subst this;exact h
 |false=>
  simp only[hk,cond_false] at hq;exact k g q hq
end Go.Am

/- From a run of the abstract machine to what a law's row wants. -/
namespace Go.Am
open Go.ChangeShapes Go.WideShapes Go.ChangeAt Go.RowKit
variable{P:Program} {H:Type} {enc:TypeId × Value->H}

theorem di{f:FuncId}{fn:Func}{c:Code}{args:Array Value}{w:World}{R:Ending->World->Prop}(hf:P.funcs[f]? =some fn)(hb:fn.body=some c)(hn:fn.name≠ "runtime.NumGoroutine")
  (h:Called P f args w R):Calls P f args w R:=by
 rcases h with⟨_,h⟩|⟨v,w',h,_⟩
 ·exact h
 ·rw[QP hf hb hn] at h;cases h

abbrev noX:Xc P:=⟨fun _=>False⟩
abbrev noμ:Nat->Option Nat:=fun _=>none

theorem dj(w:World):HR w (noX (P:=P)) noμ []:=
 ⟨fun i _ _ hi=>by simp at hi,fun i _ hi=>by simp at hi,fun b hb=>hb.elim,fun i sh v h=>by simp at h,fun i sh es fz h=>by simp at h,fun i sh es h=>by simp at h,fun i f ps env bz h=>by simp at h,fun i sh es h=>by simp at h⟩

theorem dk{b0:Nat}{X:Xc P}{μ μ':Nat->Option Nat}{hp':Heap}{w w':World}(h:Ext b0 X μ [] w μ' hp' w'):Below w.heap.size w w':=
 ⟨h.os,h.tape,h.output,h.size,fun k hk=>h.blk k hk fun i hi=>by simp[live] at hi⟩

theorem dl{w w':World}(h:Below w.heap.size w w')(may:MemPlace->Prop):w.keptBut w' may:=by
 refine⟨h.os,h.output,fun i hi=> ?_⟩;rw[h.block i hi];cases w.heap[i]? with
 |none=>trivial
 |some o=>cases o <;> simp

theorem UJ(hl:laidOutB P=true){W W':World}(hb:Below W.heap.size W W'):∀{ts:List TypeId} {vs:List Value} {ds:List (DataW H)} {p:List MemPlace},
  (∀t∈ts,P.readableRec t=true/\t<P.types.size)->(∀x∈p,x.block<W.heap.size)->DataW.TrodAll enc P W 0 (fun _=>true) true ts vs ds p->DataW.TrodAll enc P W' 0 (fun b=>decide (b<W.heap.size)) true ts vs ds p
 |[],_,_,_,_,_,h=>by
  obtain⟨rfl,rfl,rfl⟩:=trodAll_nil h;exact trodAll_mk0
 |t::ts,_,_,_,ht,hp,h=>by
  obtain⟨v,vs,d,ds,a,b,rfl,rfl,rfl,h1,h2⟩:=trodAll_cons h;obtain⟨k1,k2⟩:=ht t (by simp);exact⟨a,b,Below.trod hl k1 k2 h1 hb fun x hx=>hp x (by simp[hx]),UJ hl hb (fun t h=>ht t (by simp[h])) (fun x hx=>hp x (by simp[hx])) h2,rfl⟩

def dm(P:Program)(fn:Func):Bool:=fn.params.toList.all fun t=>P.readableRec t && decide (t<P.types.size)
def UK(P:Program)(fn:Func):Bool:=
 match fn.resultTypes.toList with
 |[t]=>Jq P t
 |_=>false
def UL(P:Program)(fn:Func):Bool:=dm P fn && UK P fn && fn.body.isSome && !(fn.name == "runtime.NumGoroutine")

theorem dn{Γ:Oracle}(hΓ:SoundO P Γ){f:FuncId}{fn:Func}(hf:P.funcs[f]? =some fn)(hfn:UL P fn=true)(hl:laidOutB P=true){s:ChangeSpec}(hv:s.vars=[])
  {W:World}{args:Array Value}{ds gs:List (DataW H)}{before:List MemPlace}(hs:s.fn H (ds++gs)={ results:=[.lit (.bool true)],args:=ds })
  (hW:DataW.Whole enc P fn.params.toList s.vars false W args.toList ds gs before)
  {avs:List AV}(hL:LR W (noX (P:=P)) noμ [] avs args.toList)(h:Γ .fn f avs []=some (.ret (.pv none (.bool true)),[])):
  Calls P f args W fun e W'=>∃v,e=.returned v/\s.post enc P fn false true false false W args v W':=by
 simp only[UL,Zg,zI,beq_eq_false_iff_ne,Option.isSome_iff_exists] at hfn;obtain⟨⟨⟨hp,hbr⟩,c,hb⟩,hn⟩:=hfn;obtain⟨tb,hr,htb⟩:∃tb,fn.resultTypes= #[tb]/\P.underlying tb=some .bool:=by
  unfold UK at hbr;split at hbr
  ·rename_i t ht;exact⟨t,Array.toList_inj.1 ht,Vp hbr⟩
  ·cases hbr
 have k:=hΓ.fn f avs [] _ _ h W noX noμ args.toList (dj W) hL;refine(di hf hb hn k).mono fun e W' he=> ?_;cases e with
 |returned u=>
  obtain⟨μ',v,e1,_,hE,hA⟩:=he;cases e1;cases hA with|pv _ _ _ _ hA=>
  cases hA;have hB:=dk hE;refine⟨_,rfl,ds,gs,before,[],before,[],hW,?_,?_,?_,dl hB _,fun h=>by cases h⟩
  ·rw[hs,hr];simp only[Value.resultList];exact trodAll_mk1 (shut_bool htb true)
  ·rw[hs];have hlt:=hW.lt;obtain⟨p,q,k1,k2,k3,_,_⟩:=hW;rw[hv] at k2;obtain⟨_,rfl⟩:=trodVars_none k2;rw[ZC] at k3;subst k3;refine UJ hl hB (fun t ht=> ?_) hlt k1;have:=Zx.1 hp t ht;simp only[Zg,Zw] at this;exact this
  ·rw[hs,hv];rfl
 |panicked ch=>obtain⟨_,_,_,e1,_⟩:=he;cases e1
 |outgrown=>exact he.elim
end Go.Am

/- The contract of slices.Insert, out of its three roads. -/
namespace Go.Am
variable{P:Program}
def xi(sh:Sh):Yw:=fun _ args hp=>match args with
 |[s,.pv _ (.int .i64 i),.tsl shx new]=>
  if shx=sh/\new≠[] then match s with
   | .sl s1 r ver off len=>
    if i=(len:Int) then(if len<=lim then match YC sh hp [.sl s1 r ver off len,.tsl shx new] with
     |some (v,hp')=>some (.ret v,hp')
     |none=>none else none)
    else match hp[r]? with
     |some (.arr s' es false)=>if s1=sh/\s'=sh/\ver=es.length/\off=0/\len=es.length/\0<=i/\i<len/\len+new.length<=lim then
       some (.ret (.sl sh r (len+new.length) 0 (len+new.length)),hp.set r (.arr sh (es.take i.toNat++new++es.drop i.toNat) false)) else none
     |_=>none
   | .tsl s1 es=>if i=(es.length:Int)/\es.length<=lim then match YC sh hp [.tsl s1 es,.tsl shx new] with
     |some (v,hp')=>some (.ret v,hp')
     |none=>none
    else none
   |_=>none
  else none
 |_=>none

structure InsRoads(P:Program)(f:FuncId)(t e:TypeId)(k:Nat):Prop where
 endr:∀(base:Option Addr) (n c vb voff m vc:Nat) (w w':World) (v':Value),0<m->n<=c->n<=lim->(Builtin.append_ #[t,t] t #[.slice base n c,.slice (some ⟨vb,voff,none⟩) m vc]).run P w=.ok v' w'->
  Calls P f #[.slice base n c,.int .i64 n,.slice (some ⟨vb,voff,none⟩) m vc] w fun E W=>E=.returned v'/\W=w'
 shift:∀(b n c i vb voff m vc:Nat) (cur:Array Value) (t0:TypeId) (vs:List Value) (w:World),i<n->0<m->n+m<=c->n+m<=lim->vb≠b->w.heap[b]? =some (.cells cur t0 (0,0))->cur.size=c*k->vs.length=m*k->
  (∀v∈(cur.toList.drop (i*k)).take ((n - i)*k),v.oneCell'=true)->(∀j v,vs[j]? =some v->w.cell? ⟨vb,voff+j,none⟩=some v)->(∀v∈vs,v.oneCell'=true)->∀(tA:TypeId) (kA:Nat),w.shape? vb=some (tA,kA)->kA≠0->
  ∃cur2:Array Value,cur2.toList=cur.toList.take (i*k)++vs++(cur.toList.drop (i*k)).take ((n - i)*k)++cur.toList.drop ((n+m)*k)/\
  Calls P f #[.slice (some ⟨b,0,none⟩) n c,.int .i64 i,.slice (some ⟨vb,voff,none⟩) m vc] w fun E w'=>E=.returned (.slice (some ⟨b,0,none⟩) (n+m) c)/\∃cur1,w'=(w.drew.setRow b cur1).setRow b cur2
 grow:∀(b n c i vb voff m vc:Nat) (cur:Array Value) (t0:TypeId) (vs:List Value) (w:World),i<n->0<m->n<=c->c<n+m->n+m<=lim->vb<w.heap.size->w.heap[b]? =some (.cells cur t0 (0,0))->cur.size=c*k->vs.length=m*k->
  (∀v∈(cur.toList.drop (i*k)).take ((n - i)*k),v.oneCell'=true)->(∀j v,vs[j]? =some v->w.cell? ⟨vb,voff+j,none⟩=some v)->(∀v∈vs,v.oneCell'=true)->
  ∃(row:Array Value) (G:Nat),n+m<=G/\row.size=G*k/\row.toList.take ((n+m)*k)=cur.toList.take (i*k)++vs++(cur.toList.drop (i*k)).take ((n - i)*k)/\
  Calls P f #[.slice (some ⟨b,0,none⟩) n c,.int .i64 i,.slice (some ⟨vb,voff,none⟩) m vc] w fun E w'=>
   E=.returned (.slice (some ⟨w.heap.size,0,none⟩) (n+m) G)/\w'.heap[w.heap.size]? =some (.cells row e (0,0))/\w'.heap.size=w.heap.size+1/\(∀x,x<w.heap.size->w'.heap[x]? =w.heap[x]?)/\w'.os=w.os/\w'.tape=w.tape/\w'.output=w.output

theorem UM{b:Nat}{t e:TypeId}{x y:Value}{s q v:AV}{hp hp':Heap}{w:World}{X:Xc P}{μ:Nat->Option Nat}(ht:P.underlying t=some (.slice e))(hok:okT P e=true)(hz:YH P e=true)(hby:Y7 P e=true)(hH:HR w X μ hp)
  (h1:AR w X μ hp s x)(h2:AR w X μ hp q y)(h:YC (shOf P e) hp [s,q]=some (v,hp')):
  ∃v' w' μ',(Builtin.append_ #[t,t] t #[x,y]).run P w=.ok v' w'/\AR w' X μ' hp' v v'/\HR w' X μ' hp'/\Ext b X μ hp w μ' hp' w':=by
 obtain⟨n,v',w',μ',hr,hn,k1,k2,k3⟩:=VN (b:=b) (ty:=t) ht hok hz hby hH (.cons h1 (.cons h2 .nil)) h;simp only[Sem.run_bind] at hr;cases hq:(Builtin.append_ #[t,t] t #[x,y]).run P w with
 |ok u w2=>
  rw[hq] at hr;simp only[Result.andThen_ok,Sem.run_pure] at hr;cases hr;rcases hn with hn|⟨hn,_⟩
  ·cases hn;exact⟨_,_,_,rfl,k1,k2,k3⟩
  ·cases hn
 |_=>rw[hq] at hr;simp at hr
theorem jb(W:World)(x:Nat)(r:Array Value):(W.setRow x r).heap.size=W.heap.size:=by simp[World.setRow]
theorem UN{w w':World}{X:Xc P}{μ:Nat->Option Nat}{hp:Heap}{sh:Sh}{rr b nb i G:Nat}{es new:List PV}{vals nvals:List Value}{cs row:Array Value}{t0 t1:TypeId}
  (hH:HR w X μ hp)(ho:hp[rr]? =some (.arr sh es false))(hpos:0<sh.size)(hE:ER w (Im X μ hp) sh es vals)(hN:ER w (Im X μ hp) sh new nvals)(hmu:μ rr=some b)(hb:w.heap[b]? =some (.cells cs t0 (0,0)))
  (hcells:cellsOf vals=cs.toList.take (es.length*sh.size))(hi:i<=es.length)(hm:0<new.length)(hnb:nb=b\/nb=w.heap.size)(hrow:w'.heap[nb]? =some (.cells row t1 (0,0)))
  (hoth:∀x,x<w.heap.size->x≠nb->w'.heap[x]? =w.heap[x]?)(hsz:w.heap.size<=w'.heap.size)(hos:w'.os=w.os)(htp:w'.tape=w.tape)(hout:w'.output=w.output)
  (hsame:nb=b->row.size=cs.size/\t1=t0)(hrs:row.size=G*sh.size)(hG:es.length+new.length<=G)
  (htk:row.toList.take ((es.length+new.length)*sh.size)=cs.toList.take (i*sh.size)++cellsOf nvals++(cs.toList.drop (i*sh.size)).take ((es.length - i)*sh.size)):
  y8 hp.length w X μ hp (.ret (.sl sh rr (es.length+new.length) 0 (es.length+new.length))) (hp.set rr (.arr sh (es.take i++new++es.drop i) false)) (.returned (.slice (some ⟨nb,0,none⟩) (es.length+new.length) G)) w':=by
 have hrl:=(Zb.1 ho).1;have hbN:=Yx hb;have hel:(es.take i++new++es.drop i).length=es.length+new.length:=by simp;omega
 have hnbl:=Yx hrow;have E:∀b0,Ext b0 X μ hp w (upd μ rr (some nb)) (hp.set rr (.arr sh (es.take i++new++es.drop i) false)) w':=fun b0=>
  Ext.setArr ho (by rw[hel];omega) (fun h=>by cases h) (fun h=>by rw[hel] at h;omega) (fun k hk=>by
   cases hk;rcases hnb with h|h
   ·exact .inl (by rw[h];exact hmu)
   ·exact .inr (by omega)) hos htp hout hsz (fun k hk hne=>hoth k hk (fun e=>by
    rcases hnb with h|h
    ·exact hne rfl (by rw[e,h];exact hmu)
    ·omega)) (fun k cs' t fr hk=>by
    by_cases e:k=nb
    ·rcases hnb with h|h
     ·obtain⟨h1,h2⟩:=hsame h;have:k=b:=e.trans h;subst this;rw[hb] at hk;cases hk;exact⟨row,by rw[e,hrow,h2],h1⟩
     ·have:=Yx hk;omega
    ·exact⟨cs',by rw[hoth k (Yx hk) e];exact hk,rfl⟩)
 have hER:=((hE.take i).append hN).append (hE.drop i);have H:=hH.setArr ho (E 0) (fun k hk hne=>hoth k hk (fun e=>by
   rcases hnb with h|h
   ·exact hne (by rw[e,h];exact hmu)
   ·omega)) (fun k hk=>by
   cases hk;refine⟨?_,hnbl⟩;rcases hnb with h|h
   ·exact .inl (by rw[h];exact hmu)
   ·exact .inr (by omega)) (.inr ⟨nb,row,t1,vals.take i++nvals++vals.drop i,rfl,hrow,hER.1,(ER.ext (E 0) hER).2,?_⟩)
 ·refine⟨_,_,rfl,H,E _,?_⟩;refine .sl _ _ _ _ _ _ _ (es.take i++new++es.drop i) false (Zr hrl) (by omega) ⟨hG,by omega⟩ (fun _=>rfl) fun _=>⟨by omega,.inr ⟨nb,row,t1,Yg _ _ _,hrow,by rw[Zy];exact hrs.symm,fun _=>by simp⟩⟩
 ·rw[hel,htk,yL,yL,hE.cells_take i hi,hE.cells_drop i hi,hcells];have e1:(cs.toList.take (es.length*sh.size)).take (i*sh.size)=cs.toList.take (i*sh.size):=by
   rw[Zz]
   congr 1
   exact Z0 (Z8 hi (Ze _))
  have e2:(cs.toList.take (es.length*sh.size)).drop (i*sh.size)=(cs.toList.drop (i*sh.size)).take ((es.length - i)*sh.size):=by
   rw[ZH,zy]
  rw[e1,e2]
theorem dp{f:FuncId}{fn:Func}{c:Code}{t e:TypeId}(R:InsRoads P f t e (shOf P e).size)(hf:P.funcs[f]? =some fn)(hb:fn.body=some c)(hn:fn.name≠ "runtime.NumGoroutine")(ht:P.underlying t=some (.slice e))(hok:okT P e=true)(hz:YH P e=true)(hby:Y7 P e=true):
  qI P f (xi (shOf P e)):=by
 intro args hp r hp' h w X μ vs hH hl;have hlift:∀{K:Ending->World->Prop},Calls P f vs.toArray w K->Called P f vs.toArray w K:=fun h=>.inl ⟨QP hf hb hn,h⟩;unfold xi at h;split at h
 ·rename_i s sh0 i shx new;split at h
  ·rename_i hc;obtain⟨rfl,hnew⟩:=hc;have hm:0<new.length:=zF.2 hnew;cases hl with|cons h1 hl=>
   cases hl with|cons h2 hl=>
   cases hl with|cons h3 hl=>
   cases hl;rename_i vs1 vs2 vs3;cases h2 with|pv _ _ _ _ h2=>
   cases h2;have h3':=h3;cases h3 with|tsl _ _ a hq=>
   have hq':=hq;cases hq with
   |nilsl=>exact(hnew rfl).elim
   |sl _ _ vb vo vn vcs vt vfr vvals hvl hvI hvb hv1 hv2 hvc hvn=>
   split at h
   ·rename_i s1 rr ver off len;split at h
    ·rename_i hi;split at h
     ·rename_i hlen;split at h
      ·rename_i v hp1 hap;cases h;obtain⟨v',w',μ',g1,g2,g3,g4⟩:=UM (b:=hp.length) ht hok hz hby hH h1 h3' hap;cases h1 with|sl _ _ _ _ _ ba cap es fz ho hv hlc ha hcc=>
       subst hi;refine hlift ((R.endr ba len cap vb vo new.length new.length w w' v' hm hlc.1 hlen g1).mono fun E W hE=> ?_);obtain⟨rfl,rfl⟩:=hE;exact⟨μ',_,rfl,g3,g4,g2⟩
      ·cases h
     ·cases h
    ·rename_i hi;split at h
     ·rename_i s' es ho;split at h
      ·rename_i hcc;obtain⟨rfl,rfl,rfl,rfl,rfl,hi0,hil,hlim⟩:=hcc;cases h;obtain⟨j,rfl⟩:∃j:Nat,i=(j:Int):=⟨i.toNat,by omega⟩;have hjl:j<es.length:=by omega
       obtain⟨hpos,harr⟩:=hH.arr rr _ es false ho;have hN:ER w (Im X μ hp) (shOf P e) new vvals:=⟨hvl,fun k p v hp hv=>⟨hv1 k p v hp hv,hv2 k p v hp hv⟩⟩;have hNl:=hN.length;have hNc:=XH hvb hvc;cases h1 with|sl _ _ _ _ _ ba cap es1 fz1 ho1 hv1' hlc ha hcc=>
       rw[ho] at ho1;cases ho1;obtain⟨_,c2⟩:=hcc rfl;rcases harr with⟨h1,h2⟩|⟨b,cs,t0,vals,h1,h2,h3,h4,h5⟩
       ·rw[h2] at hjl;simp at hjl
       have hE:ER w (Im X μ hp) (shOf P e) es vals:=⟨h3,h4⟩;have hEl:=hE.length;rcases c2 with⟨c3,_⟩|⟨b',cs',t',c3,c4,c5,c6⟩
       ·rw[h1] at c3;cases c3
       rw[h1] at c3;cases c3;rw[h2] at c4;cases c4;rw[Zy] at c5;have hba:=c6 (by omega);rw[Nat.zero_mul] at hba;subst hba;have hlive:live hp rr=true:=by simp[live,ho]
       have hne:vb≠b:=fun e=>hvI.2 rr hlive (by rw[e];exact h1);have hvcell:∀(k:Nat) v,(cellsOf vvals)[k]? =some v->w.cell? ⟨vb,vo+k,none⟩=some v:=fun k v hk=>by
        have:=hNc k v hk;have ha:(⟨vb,vo,none⟩:Addr).add k=⟨vb,vo+k,none⟩:=by unfold Addr.add;split <;> simp_all
        rwa [ha] at this
       have hoc:∀v∈(cs.toList.drop (j*(shOf P e).size)).take ((es.length - j)*(shOf P e).size),v.oneCell'=true:=fun v hv=>by
        have e2:(cs.toList.take (es.length*(shOf P e).size)).drop (j*(shOf P e).size)=(cs.toList.drop (j*(shOf P e).size)).take ((es.length - j)*(shOf P e).size):=by rw[ZH,zy]
        rw[<-e2,<-h5] at hv;exact hE.flat v (zO hv)
       simp only[Int.toNat_natCast];by_cases hroom:es.length+new.length<=cap
       ·have hkA:vcs.size≠0:=by
         intro h0;have:=congrArg List.length hvc;have h00:vcs.toList=[]:=List.length_eq_zero_iff.1 (by simpa using h0);rw[hNl,h00] at this;simp at this;have:=Nat.mul_pos hm hpos;omega
        obtain⟨cur2,hc2,hcall⟩:=R.shift b es.length cap j vb vo new.length new.length cs t0 (cellsOf vvals) w hjl hm hroom hlim hne h2 c5.symm hNl hoc hvcell hN.flat vt vcs.size (by simp[World.shape?,hvb]) hkA;refine hlift (hcall.mono fun E W hE'=> ?_);obtain⟨rfl,cur1,rfl⟩:=hE';have hrow1:(w.drew.setRow b cur1).heap[b]? =some (.cells cur1 t0 (0,0)):=setRow_heap w.drew b cs cur1 t0 _ h2;have hrow2:=setRow_heap (w.drew.setRow b cur1) b cur1 cur2 t0 _ hrow1;have hc2l:cur2.size=cs.size:=by
         have:=congrArg List.length hc2;have hb1:j*(shOf P e).size<=es.length*(shOf P e).size:=Z8 (by omega) (Ze _);have hb2:(es.length+new.length)*(shOf P e).size<=cap*(shOf P e).size:=Z8 hroom (Ze _);simp only[Zj,Zh,ZA,Zm,hNl,zy,Zt] at this hb2;omega
        refine UN hH ho hpos hE hN h1 h2 h5 (by omega) hm (.inl rfl) hrow2 (fun x _ hx=> ?_) (by rw[jb,jb];exact Nat.le_of_eq rfl) rfl rfl rfl (fun _=>⟨hc2l,rfl⟩) (by rw[hc2l];exact c5.symm) hroom ?_
        ·simp[World.setRow,zQ,Ne.symm hx];rfl
        ·rw[hc2];exact ZZ (by
          have hb1:j*(shOf P e).size<=es.length*(shOf P e).size:=Z8 (by omega) (Ze _);have hb2:(es.length+new.length)*(shOf P e).size<=cap*(shOf P e).size:=Z8 hroom (Ze _);simp only[Zj,Zh,ZA,Zm,hNl,zy,Zt] at hb2 ⊢;omega)
       ·obtain⟨row,G,g1,g2,g3,hcall⟩:=R.grow b es.length cap j vb vo new.length new.length cs t0 (cellsOf vvals) w hjl hm hlc.1 (by omega) hlim (Yx hvb) h2 c5.symm hNl hoc hvcell hN.flat;refine hlift (hcall.mono fun E W hE'=> ?_);obtain⟨rfl,k1,k2,k3,k4,k5,k6⟩:=hE';exact UN hH ho hpos hE hN h1 h2 h5 (by omega) hm (.inr rfl) k1 (fun x hx _=>k3 x hx) (by omega) k4 k5 k6 (fun e=>by have:=Yx h2;omega) g2 g1 g3
      ·cases h
     ·cases h
   ·rename_i s1 es;split at h
    ·rename_i hi;obtain⟨hi,hlen⟩:=hi;split at h
     ·rename_i v hp1 hap;cases h;obtain⟨v',w',μ',g1,g2,g3,g4⟩:=UM (b:=hp.length) ht hok hz hby hH h1 h3' hap;cases h1 with|tsl _ _ a1 hq1=>
      subst hi;refine hlift ((R.endr a1 es.length es.length vb vo new.length new.length w w' v' hm (Ze _) hlen g1).mono fun E W hE=> ?_);obtain⟨rfl,rfl⟩:=hE;exact⟨μ',_,rfl,g3,g4,g2⟩
     ·cases h
    ·cases h
   ·cases h
  ·cases h
 ·cases h
end Go.Am

/- slices.Insert at arrays of the run's own that hold what shows references. -/
namespace Go.Am
variable{P:Program}
def xG(sh:Sh):Yw:=fun _ args hp=>match args with
 |[.slv s1 r ver off len,.pv _ (.int .i64 i),.slv sx rx verx offx lenx]=>match hp[r]?,hp[rx]? with
  |some (.arv s' es),some (.arv shx new)=>if(s1=sh/\s'=sh/\shx=sh)/\(ver=es.length/\off=0/\len=es.length)/\(verx=new.length/\offx=0/\lenx=new.length)/\r≠rx/\new≠[]/\(0<=i/\i<=len)/\len+new.length<=lim/\yZ hp.length r es new=true then
    some (.ret (.slv sh r (len+new.length) 0 (len+new.length)),hp.set r (.arv sh (es.take i.toNat++new++es.drop i.toNat))) else none
  |_,_=>none
 |_=>none
theorem dq{f:FuncId}{fn:Func}{c:Code}{t e:TypeId}(R:InsRoads P f t e (shOf P e).size)(hf:P.funcs[f]? =some fn)(hb:fn.body=some c)(hn:fn.name≠ "runtime.NumGoroutine")(ht:P.underlying t=some (.slice e))(hok:okT P e=true)(hz:YH P e=true)(hby:Y7 P e=true):
  qI P f (xG (shOf P e)):=by
 intro args hp r hp' h w X μ vs hH hl;have hlift:∀{K:Ending->World->Prop},Calls P f vs.toArray w K->Called P f vs.toArray w K:=fun h=>.inl ⟨QP hf hb hn,h⟩;unfold xG at h;split at h
 ·rename_i s1 rr ver off len sh0 i sx rx verx offx lenx;split at h
  ·rename_i s' es shx new ho hox;split at h
   ·rename_i hcond;obtain⟨⟨rfl,rfl,rfl⟩,⟨rfl,rfl,rfl⟩,⟨rfl,rfl,rfl⟩,hne,hnew,⟨hi0,hil⟩,hlim,hrefs⟩:=hcond;cases h;have hm:0<new.length:=zF.2 hnew;cases hl with|cons h1 hl=>
    cases hl with|cons h2 hl=>
    cases hl with|cons h3 hl=>
    cases hl;rename_i vs1 vs2 vs3;cases h2 with|pv _ _ _ _ h2=>
    cases h2;have h1':=h1;have h3':=h3;have hrl:=(Zb.1 ho).1;have hrx:=(Zb.1 hox).1;obtain⟨hpos,b,cs,t0,vals,g1,g2,g3,g4,g5⟩:=hH.arv rr _ es ho;obtain⟨_,vb,vcs,vt,nvals,q1,q2,q3,q4,q5⟩:=hH.arv rx _ new hox;have hE:EV w X μ hp (shOf P e) es vals:=⟨g3,g4⟩;have hN:EV w X μ hp (shOf P e) new nvals:=⟨q3,q4⟩;have hEl:=hE.length;have hNl:=hN.length;have hvb:vb≠b:=fun e=>hne (hH.inj rr rx b hrl hrx g1 (by rw[q1,e]));cases h1 with|slv _ _ _ _ _ base cap n ho1 hv1 hlc ha hcc=>
    rw[ho] at ho1;simp only[Y0,Option.some.injEq,Prod.mk.injEq,true_and] at ho1;subst ho1;obtain⟨_,b',cs',t',c3,c4,c5,c6⟩:=hcc rfl;rw[g1] at c3;cases c3;rw[g2] at c4;cases c4;rw[Zy] at c5;cases h3 with|slv _ _ _ _ _ vbase vcap vn ho3 hv3 hlc3 ha3 hcc3=>
    rw[hox] at ho3;simp only[Y0,Option.some.injEq,Prod.mk.injEq] at ho3;obtain⟨rfl,rfl⟩:=ho3;obtain⟨_,vb',vcs',vt',d3,d4,d5,d6⟩:=hcc3 rfl;rw[q1] at d3;cases d3;rw[q2] at d4;cases d4;have hvb0:=d6 (by have:=hlc3.1;omega);rw[Nat.zero_mul] at hvb0;subst hvb0;obtain⟨j,rfl⟩:∃j:Nat,i=(j:Int):=⟨i.toNat,by omega⟩;simp only[Int.toNat_natCast];have hqn:rr<hp.length->∀q∈AV.refsIn.gol new,q∈AV.refsIn.gol es:=V7 hrefs;have hqq:rr<hp.length->∀q∈AV.refsIn.gol (es.take j++new++es.drop j),q∈AV.refsIn.gol es:=by
     intro hlt q hq';rcases(QK _ _ _).1 hq' with h|h
     ·rcases(QK _ _ _).1 h with h|h
      ·exact QL (fun x hx=>List.mem_of_mem_take hx) h
      ·exact hqn hlt q h
     ·exact QL (fun x hx=>zO hx) h
    by_cases hjl:j=es.length
    ·subst hjl;have hcells:new≠[]->∃ad,some (⟨vb,0,none⟩:Addr)=some ad/\∀(k:Nat) (u:Value),(cellsOf nvals)[k]? =some u->w.cell? (ad.add k)=some u:=fun _=>⟨_,rfl,XH (n:=new.length*(shOf P e).size) q2 (by rw[q5,Z2])⟩;obtain⟨v',w',μ',a1,a2,a3,a4⟩:=V8 (b:=hp.length) (ty:=t) (c:=vcap) ht hok hz hby hH ho h1' hN hcells hlim hqn;have e1:es.take es.length++new++es.drop (es.length+new.length)=es.take es.length++new++es.drop es.length:=by rw[Z7 (by omega),List.drop_length]
     have e2:(es.take es.length++new++es.drop es.length).length=es.length+new.length:=by simp
     rw[e1] at a2 a3 a4;rw[e2] at a4;refine hlift ((R.endr base es.length cap vb 0 new.length vcap w w' v' hm hlc.1 (by omega) a1).mono fun E W hE'=> ?_);obtain⟨rfl,rfl⟩:=hE';exact⟨μ',_,rfl,a2,a3,a4⟩
    ·have hjlt:j<es.length:=by omega
     have hba:=c6 (by have:=hlc.1;omega);rw[Nat.zero_mul] at hba;subst hba;have hEV:=((hE.take j).append hN).append (hE.drop j);have hel:(es.take j++new++es.drop j).length=es.length+new.length:=by simp;omega
     have hcl:cs.toList.length=cs.size:=Zm;have hvcell:∀(k:Nat) v,(cellsOf nvals)[k]? =some v->w.cell? ⟨vb,0+k,none⟩=some v:=fun k v hk=>by
      have:=XH (o:=0) (n:=new.length*(shOf P e).size) q2 (vals:=nvals) (by rw[q5,Z2]) k v hk;have ha:(⟨vb,0,none⟩:Addr).add k=⟨vb,0+k,none⟩:=by unfold Addr.add;split <;> simp_all
      rwa [ha] at this
     have hdt:(cs.toList.take (es.length*(shOf P e).size)).drop (j*(shOf P e).size)=(cs.toList.drop (j*(shOf P e).size)).take ((es.length - j)*(shOf P e).size):=by rw[ZH,zy]
     have hoc:∀v∈(cs.toList.drop (j*(shOf P e).size)).take ((es.length - j)*(shOf P e).size),v.oneCell'=true:=fun v hv=>by
      rw[<-hdt,<-g5] at hv;exact hE.flat v (zO hv)
     have hcc':cellsOf (vals.take j++nvals++vals.drop j)=cs.toList.take (j*(shOf P e).size)++cellsOf nvals++(cs.toList.drop (j*(shOf P e).size)).take ((es.length - j)*(shOf P e).size):=by
      rw[yL,yL,hE.cells_take j (by omega),hE.cells_drop j (by omega),g5,hdt,Zz,Z0 (Z8 (by omega) (Ze _))]
     by_cases hroom:es.length+new.length<=cap
     ·have hkA:vcs.size≠0:=by
       intro h0;have:=congrArg List.length q5;have h00:vcs.toList=[]:=List.length_eq_zero_iff.1 (by simpa using h0);rw[hNl,h00] at this;simp at this;have:=Nat.mul_pos hm hpos;omega
      obtain⟨cur2,hc2,hcall⟩:=R.shift b es.length cap j vb 0 new.length vcap cs t0 (cellsOf nvals) w hjlt hm hroom hlim hvb g2 c5.symm hNl hoc hvcell hN.flat vt vcs.size (by simp[World.shape?,q2]) hkA;refine hlift (hcall.mono fun E W hE'=> ?_);obtain⟨rfl,cur1,rfl⟩:=hE';have hrow1:(w.drew.setRow b cur1).heap[b]? =some (.cells cur1 t0 (0,0)):=setRow_heap w.drew b cs cur1 t0 _ g2;have hrow2:=setRow_heap (w.drew.setRow b cur1) b cur1 cur2 t0 _ hrow1;have hb1:j*(shOf P e).size<=es.length*(shOf P e).size:=Z8 (by omega) (Ze _);have hb2:(es.length+new.length)*(shOf P e).size<=cap*(shOf P e).size:=Z8 hroom (Ze _);have hc2l:cur2.size=cs.size:=by
       have:=congrArg List.length hc2;simp only[Zj,Zh,ZA,Zm,hNl,zy,Zt] at this hb2;omega
      have hoth:∀x,x≠b->((w.drew.setRow b cur1).setRow b cur2).heap[x]? =w.heap[x]? :=fun x hx=>by
       simp[World.setRow,zQ,Ne.symm hx];rfl
      obtain⟨k1,k2,k3⟩:=qn hp.length (w':=(w.drew.setRow b cur1).setRow b cur2) (row:=cur2) (nb:=b) (cap:=cap) (t:=t0) hH ho (by rw[hel];omega) hqq hEV (.inl g1) hrow2 (fun k _ hk=>hoth k fun e=>hk (by rw[e];exact g1)) (.inl (by have:=Yx g2;omega)) (fun cs0 t1 fr hk=>by
        rw[g2] at hk;cases hk;exact⟨rfl,rfl,hc2l⟩) (by rw[jb,jb];exact Nat.le_of_eq rfl) rfl rfl rfl (by
        rw[hcc',hel,hc2];refine(ZZ ?_).symm;simp only[Zj,Zh,ZA,Zm,hNl,zy,Zt] at hb2 ⊢;omega) (by rw[hc2l];exact c5) (es.length+new.length) (by rw[hel];exact Ze _) hroom (by rw[hel];exact hroom) (some ⟨b,0,none⟩) rfl
      rw[hel] at k3;exact⟨_,_,rfl,k1,k2,k3⟩
     ·obtain⟨row,G,a1,a2,a3,hcall⟩:=R.grow b es.length cap j vb 0 new.length vcap cs t0 (cellsOf nvals) w hjlt hm hlc.1 (by omega) hlim (Yx q2) g2 c5.symm hNl hoc hvcell hN.flat;refine hlift (hcall.mono fun E W hE'=> ?_);obtain⟨rfl,r1,r2,r3,r4,r5,r6⟩:=hE';obtain⟨k1,k2,k3⟩:=qn hp.length (w':=W) (row:=row) (nb:=w.heap.size) (cap:=G) (t:=e) hH ho (by rw[hel];omega) hqq hEV (.inr ⟨rfl,by rw[hel];omega⟩) r1 (fun k hk _=>r3 k hk) (.inr r3) (fun cs0 t1 fr hk=>by have:=Yx hk;omega) (by omega) r4 r5 r6 (by rw[hcc',hel];exact a3.symm) a2.symm (es.length+new.length) (by rw[hel];exact Ze _) a1 (by rw[hel];exact a1) (some ⟨w.heap.size,0,none⟩) rfl;rw[hel] at k3;exact⟨_,_,rfl,k1,k2,k3⟩
   ·cases h
  ·cases h
 ·cases h
end Go.Am

/- Terms as plain data. -/
namespace Go.Am
inductive Tm where
 |mk (kind n:Int) (name:List UInt8) (args:List Tm)
 deriving Inhabited
mutual
def Tm.pv:Tm->PV
 | .mk k n s as=>.agg [(none,.int .i64 k),(none,.int .i64 n),(none,.str s),(none,.sl (some 4) (Tm.pvs as))]
def Tm.pvs:List Tm->List PV
 |[]=>[]
 |t::r=>t.pv::Tm.pvs r
end
def Tm.kind:Tm->Int| .mk k _ _ _=>k
def Tm.n:Tm->Int| .mk _ n _ _=>n
def Tm.name:Tm->List UInt8| .mk _ _ s _=>s
def Tm.args:Tm->List Tm| .mk _ _ _ as=>as
def Tm.av(t:Tm):AV:=.pv (some 4) t.pv
theorem Tm.zxB(t:Tm):t.pv=.agg [(none,.int .i64 t.kind),(none,.int .i64 t.n),(none,.str t.name),(none,.sl (some 4) (Tm.pvs t.args))]:=by cases t;rfl
end Go.Am

/- What code comes to: rules that a proof steps by. -/
namespace Go.Am
variable{Γ:Oracle} {Λ:Yu} {b:Nat}

class Tag.{u} {α:Sort u} (a:α):Type where
instance tagAny.{u}{α:Sort u}(a:α):Tag a:=⟨⟩

def W(Γ:Oracle)(Λ:Yu)(b:Nat)(c:ACode)(st:St)(Q:AExit->St->Prop)[Tag Q]:Prop:=
 match aexec Γ Λ b c st with
 |some (e,st')=>Q e st'
 |none=>False
def O(Γ:Oracle)(b:Nat)(ops:List AOper)(fr:Fr)(hp:Heap)(K:Fr->Heap->Prop)(Kp:PV->Fr->Heap->Prop)[Tag K][Tag Kp]:Prop:=
 match aops Γ b ops fr hp with
 |some (.normal,fr',hp')=>K fr' hp'
 |some (.panic v,fr',hp')=>Kp v fr' hp'
 |_=>False
def seqK(k:St->Prop)(Q:AExit->St->Prop)[Tag k][Tag Q]:AExit->St->Prop
 | .normal,st=>k st
 | .exit i,st=>Q (.exit i) st
 | .ret,st=>Q .ret st
 | .panic v,st=>Q (.panic v) st
def QS(id:Nat)(Q:AExit->St->Prop)[Tag Q]:AExit->St->Prop
 | .exit i,st=>if i=id then Q .normal st else Q (.exit i) st
 | .normal,st=>Q .normal st
 | .ret,st=>Q .ret st
 | .panic v,st=>Q (.panic v) st
def jc(v:Option AV)(A B:Prop)[Tag A][Tag B]:Prop:=
 match v with
 |some (.pv _ (.bool b))=>if b=true then A else B
 |_=>False
def panK(pan:Bool)(A:Prop)[Tag A]:Prop:=if pan=true then A else False
def qJ(v:Option Bool)(A B:Prop)[Tag A][Tag B]:Prop:=
 match v with
 |some b=>if b=true then A else B
 |none=>False
def argK(v:Option (List AV))(K:List AV->Prop)[Tag K]:Prop:=
 match v with
 |some l=>K l
 |none=>False
def opK(v:Option OpRes)(K:AV->Heap->Prop)(Kp:PV->Heap->Prop)[Tag K][Tag Kp]:Prop:=
 match v with
 |some (.val v hp)=>K v hp
 |some (.panic v hp)=>Kp v hp
 |none=>False
def YD(v:Option (AV × Heap))(K:AV->Heap->Prop)[Tag K]:Prop:=
 match v with
 |some (v,hp)=>K v hp
 |none=>False
def xH(v:Option (ARes × Heap))(K:AV->Heap->Prop)(Kp:PV->Heap->Prop)[Tag K][Tag Kp]:Prop:=
 match v with
 |some (.ret v,hp)=>K v hp
 |some (.panic v,hp)=>Kp v hp
 |none=>False

variable{st:St} {Q:AExit->St->Prop} {fr:Fr} {hp:Heap} {K:Fr->Heap->Prop} {Kp:PV->Fr->Heap->Prop}
theorem dr:W Γ Λ b .skip st Q=Q .normal st:=rfl
theorem dt(i:Nat):W Γ Λ b (.exit i) st Q=Q (.exit i) st:=rfl
theorem du:W Γ Λ b .ret st Q=Q .ret st:=rfl
theorem dv(l:List Nat):W Γ Λ b (.settle l) st Q=(match settle l st with|some st'=>Q .normal st'|none=>False):=by
 unfold W;simp only[aexec];cases settle l st <;> rfl
theorem dw(x y:ACode):W Γ Λ b (.seq x y) st Q=W Γ Λ b x st (seqK (fun st'=>W Γ Λ b y st' Q) Q):=by
 unfold W;simp only[aexec];cases aexec Γ Λ b x st with
 |none=>rfl
 |some r=>
  obtain⟨e,st'⟩:=r;cases e <;> rfl
theorem dz(c:AArg)(x y:ACode):W Γ Λ b (.cond c x y) st Q=jc (st.fr.arg c) (W Γ Λ b x st Q) (W Γ Λ b y st Q):=by
 unfold W;simp only[aexec];cases st.fr.arg c with
 |none=>rfl
 |some v=>
  cases v with
  |pv s p=>
   cases p with
   |bool v=>cases v <;> simp[jc]
   |_=>rfl
  |_=>rfl
theorem dC(id:Nat)(c:ACode):W Γ Λ b (.block id c) st Q=W Γ Λ b c st (QS id Q):=by
 unfold W;simp only[aexec];cases aexec Γ Λ b c st with
 |none=>rfl
 |some r=>
  obtain⟨e,st'⟩:=r;cases e with
  |exit i=>
   simp only[QS];by_cases h:i=id
   ·simp[h]
   ·simp[h]
  |_=>rfl
theorem dD(pan:Bool)(ops:List AOper)(keep:List Nat):W Γ Λ b (.region pan ops keep) st Q=O Γ b ops st.fr st.hp (fun fr hp=>Q .normal ⟨fr.keep keep,hp⟩) (fun v fr hp=>panK pan (Q (.panic v) ⟨fr.keep keep,hp⟩)):=by
 unfold W O;simp only[aexec];cases aops Γ b ops st.fr st.hp with
 |none=>rfl
 |some r=>
  obtain⟨e,fr,hp⟩:=r;cases e with
  |panic v=>cases pan <;> simp[panK]
  |_=>rfl
def OD(Γ:Oracle)(b:Nat)(l:List (AOper × Option (List AOper)))(fr:Fr)(hp:Heap)(K:Fr->Heap->Prop)(Kp:PV->Prop)[Tag K][Tag Kp]:Prop:=
 match Y1 Γ b l fr hp with
 |some (.normal,fr',hp')=>K fr' hp'
 |some (.panic v,_,_)=>Kp v
 |_=>False
theorem dF(l:List (AOper × Option (List AOper)))(keep:List Nat):W Γ Λ b (.doom l keep) st Q=OD Γ b l st.fr st.hp (fun fr hp=>Q .normal ⟨fr.keep keep,hp⟩) (fun v=>Q (.panic v) ⟨[],st.hp⟩):=by
 unfold W OD;simp only[aexec];cases Y1 Γ b l st.fr st.hp with
 |none=>rfl
 |some r=>
  obtain⟨e,fr,hp⟩:=r;cases e <;> rfl
theorem dG:O Γ b [] fr hp K Kp=K fr hp:=rfl
theorem UO(o:AOper)(r:List AOper):O Γ b (o::r) fr hp K Kp=qJ (wants fr o.guard) (argK (fr.argsOf o.args) fun vs=>opK (aOp Γ b o.op vs hp) (fun v hp'=>O Γ b r (fr.dst o.dst v) hp' K Kp) (fun v hp'=>Kp v fr hp')) (O Γ b r (fr.dst o.dst .undef) hp K Kp):=by
 unfold O;simp only[aops];cases wants fr o.guard with
 |none=>rfl
 |some w=>
  cases w with
  |false=>simp[qJ]
  |true=>
   simp only[qJ,if_true];cases fr.argsOf o.args with
   |none=>rfl
   |some vs=>
    simp only[argK];cases aOp Γ b o.op vs hp with
    |none=>rfl
    |some r=>cases r <;> rfl
theorem dH(d:Option Nat)(op:AOp)(as:List AArg)(r:List AOper):O Γ b (⟨d,op,as,none⟩::r) fr hp K Kp=argK (fr.argsOf as) fun vs=>opK (aOp Γ b op vs hp) (fun v hp'=>O Γ b r (fr.dst d v) hp' K Kp) (fun v hp'=>Kp v fr hp'):=by
 rw[UO];rfl
theorem dI{Kp:PV->Prop}:OD Γ b [] fr hp K Kp=K fr hp:=rfl
theorem dJ{Kp:PV->Prop}(d:Option Nat)(op:AOp)(as:List AArg)(r:List (AOper × Option (List AOper))):OD Γ b ((⟨d,op,as,none⟩,none)::r) fr hp K Kp=argK (fr.argsOf as) fun vs=>opK (aOp Γ b op vs hp) (fun v hp'=>OD Γ b r (fr.dst d v) hp' K Kp) (fun _ _=>False):=by
 unfold OD;simp only[Y1,wants];cases fr.argsOf as with
 |none=>rfl
 |some vs=>
  simp only[argK];cases aOp Γ b op vs hp with
  |none=>rfl
  |some r=>cases r <;> rfl
theorem dK{Kp:PV->Prop}(d:Option Nat)(op:AOp)(as:List AArg)(l:List AOper)(r:List (AOper × Option (List AOper))):OD Γ b ((⟨d,op,as,none⟩,some l)::r) fr hp K Kp=argK (fr.argsOf as) fun vs=>opK (yg Γ hp vs) (fun v _=>OD Γ b r (fr.dst d v) hp K Kp) (fun p _=>O Γ b l fr hp (fun _ _=>Kp p) (fun _ _ _=>False)):=by
 unfold OD O;simp only[Y1];cases fr.argsOf as with
 |none=>rfl
 |some vs=>
  simp only[argK];cases yg Γ hp vs with
  |none=>rfl
  |some r=>
   cases r with
   |val v hp'=>rfl
   |panic p hp'=>
    simp only[opK];cases aops Γ b l fr hp with
    |none=>rfl
    |some r=>
     obtain⟨e,fr',hp'⟩:=r;cases e <;> rfl
def QT(v:Option AV)(w:Bool)(A B:Prop)[Tag A][Tag B]:Prop:=
 match v with
 |some (.pv _ (.bool b))=>if b=w then A else B
 |some .undef=>B
 |_=>False
theorem dM(d:Option Nat)(op:AOp)(as:List AArg)(s:Nat)(w:Bool)(r:List AOper):O Γ b (⟨d,op,as,some (s,w)⟩::r) fr hp K Kp=QT (fr.look s) w (argK (fr.argsOf as) fun vs=>opK (aOp Γ b op vs hp) (fun v hp'=>O Γ b r (fr.dst d v) hp' K Kp) (fun v hp'=>Kp v fr hp')) (O Γ b r (fr.dst d .undef) hp K Kp):=by
 rw[UO];simp only[wants];cases h:fr.look s with
 |none=>rfl
 |some v=>
  cases v with
  |pv sh p=>
   cases p with
   |bool c=>cases c <;> cases w <;> simp[qJ,QT]
   |_=>rfl
  |undef=>simp[qJ,QT]
  |_=>rfl
theorem dO(s:Nat):fr.arg (.t s)=fr.look s:=rfl
theorem dQ(v:AV):fr.arg (.c v)=some v:=rfl
theorem dR(k s:Nat)(v:AV)(r:Fr):Fr.look ((k,v)::r) s=if k=s then some v else Fr.look r s:=rfl
theorem dS(d:Nat)(v:AV):fr.dst (some d) v=(d,v)::fr:=rfl
theorem dV(v:AV):fr.dst none v=fr:=rfl
theorem dW:fr.argsOf []=some []:=rfl
def K3(v:Option AV)(l:Option (List AV)):Option (List AV):=
 match v with
 |none=>none
 |some v=>match l with
  |some l=>some (v::l)
  |none=>none
theorem dX(a:AArg)(r:List AArg):fr.argsOf (a::r)=K3 (fr.arg a) (fr.argsOf r):=rfl
theorem dY(v:AV)(l:List AV):K3 (some v) (some l)=some (v::l):=rfl
theorem dZ(l:List AV)(K:List AV->Prop):argK (some l) K=K l:=rfl
def iteK(v:Prop)(A B:Prop)[Tag A][Tag B]:Prop:=(v->A)/\(¬v->B)
theorem d7(s:Sh)(v:Bool)(A B:Prop):jc (some (.pv s (.bool v))) A B=iteK (v=true) A B:=by
 cases v <;> simp[jc,iteK]
theorem d8(s:Sh)(v w:Bool)(A B:Prop):QT (some (.pv s (.bool v))) w A B=iteK (v=w) A B:=by
 cases v <;> cases w <;> simp[QT,iteK]
theorem d9(w:Bool)(A B:Prop):QT (some .undef) w A B=B:=rfl
theorem Eb(A B:Prop):iteK True A B=A:=by simp[iteK]
theorem Ec(A B:Prop):iteK False A B=B:=by simp[iteK]
theorem Ed(v A B:Prop):iteK (¬v) A B=iteK v B A:=by
 by_cases h:v <;> simp[iteK,h]
theorem yM{v A B:Prop}(hA:v->A)(hB:¬v->B):iteK v A B:=⟨hA,hB⟩
attribute [irreducible] iteK
theorem Ee(v:AV)(hp:Heap)(K:AV->Heap->Prop):YD (some (v,hp)) K=K v hp:=rfl
theorem Eg(v:AV)(hp:Heap)(K:AV->Heap->Prop)(Kp:PV->Heap->Prop):xH (some (.ret v,hp)) K Kp=K v hp:=rfl
theorem Eh(v:PV)(hp:Heap)(K:AV->Heap->Prop)(Kp:PV->Heap->Prop):xH (some (.panic v,hp)) K Kp=Kp v hp:=rfl
theorem Ei:fr.keep []=[]:=rfl
def UP(k:Nat)(v:Option AV)(r:Fr):Fr:=
 match v with
 |some v=>(k,v)::r
 |none=>r
theorem Ej(k:Nat)(ks:List Nat):fr.keep (k::ks)=UP k (fr.look k) (fr.keep ks):=rfl
theorem Ek(k:Nat)(v:AV)(r:Fr):UP k (some v) r=(k,v)::r:=rfl
theorem El(k:St->Prop)(Q:AExit->St->Prop)(st:St):seqK k Q .normal st=k st:=rfl
theorem Em(k:St->Prop)(Q:AExit->St->Prop)(i:Nat)(st:St):seqK k Q (.exit i) st=Q (.exit i) st:=rfl
theorem En(k:St->Prop)(Q:AExit->St->Prop)(st:St):seqK k Q .ret st=Q .ret st:=rfl
theorem Eo(k:St->Prop)(Q:AExit->St->Prop)(v:PV)(st:St):seqK k Q (.panic v) st=Q (.panic v) st:=rfl
theorem Ep(id:Nat)(Q:AExit->St->Prop)(st:St):QS id Q .normal st=Q .normal st:=rfl
theorem Er(id:Nat)(Q:AExit->St->Prop)(i:Nat)(st:St):QS id Q (.exit i) st=if i=id then Q .normal st else Q (.exit i) st:=rfl
theorem Es(id:Nat)(Q:AExit->St->Prop)(st:St):QS id Q .ret st=Q .ret st:=rfl
theorem Et(id:Nat)(Q:AExit->St->Prop)(v:PV)(st:St):QS id Q (.panic v) st=Q (.panic v) st:=rfl
end Go.Am

/- What code comes to: the operations. -/
namespace Go.Am
variable{Γ:Oracle} {Λ:Yu} {b:Nat} {hp:Heap} {vs:List AV} {K:AV->Heap->Prop} {Kp:PV->Heap->Prop}
def valK(v:Option AV)(K:AV->Prop)[Tag K]:Prop:=
 match v with
 |some v=>K v
 |none=>False
def pvK(v:Option PV)(K:PV->Prop)[Tag K]:Prop:=
 match v with
 |some v=>K v
 |none=>False
theorem Eu(v:AV)(K:AV->Prop):valK (some v) K=K v:=rfl
theorem Ev(v:PV)(K:PV->Prop):pvK (some v) K=K v:=rfl

theorem Ex:opK (aOp Γ b .mv vs hp) K Kp=valK (sMv vs) (fun v=>K v hp):=by
 show opK (match YP hp (sMv vs) with|some (v,hp')=>some (OpRes.val v hp')|none=>none) K Kp=_;cases sMv vs <;> rfl
theorem Ey:opK (aOp Γ b .len vs hp) K Kp=valK (sLen vs) (fun v=>K v hp):=by
 show opK (match YP hp (sLen vs) with|some (v,hp')=>some (OpRes.val v hp')|none=>none) K Kp=_;cases sLen vs <;> rfl
theorem Ez:opK (aOp Γ b .slen vs hp) K Kp=valK (xY vs) (fun v=>K v hp):=by
 show opK (match YP hp (xY vs) with|some (v,hp')=>some (OpRes.val v hp')|none=>none) K Kp=_;cases xY vs <;> rfl
theorem EA:opK (aOp Γ b .pick vs hp) K Kp=valK (xR vs) (fun v=>K v hp):=by
 show opK (match YP hp (xR vs) with|some (v,hp')=>some (OpRes.val v hp')|none=>none) K Kp=_;cases xR vs <;> rfl
theorem EB:opK (aOp Γ b .not vs hp) K Kp=valK (sNot vs) (fun v=>K v hp):=by
 show opK (match YP hp (sNot vs) with|some (v,hp')=>some (OpRes.val v hp')|none=>none) K Kp=_;cases sNot vs <;> rfl
theorem EC(o:BinOp):opK (aOp Γ b (.bin o) vs hp) K Kp=valK (sBin o vs) (fun v=>K v hp):=by
 show opK (match YP hp (sBin o vs) with|some (v,hp')=>some (OpRes.val v hp')|none=>none) K Kp=_;cases sBin o vs <;> rfl
theorem ED(o:BinOp):opK (aOp Γ b (.binb o) vs hp) K Kp=valK (xS o vs) (fun v=>K v hp):=by
 show opK (match YP hp (xS o vs) with|some (v,hp')=>some (OpRes.val v hp')|none=>none) K Kp=_;cases xS o vs <;> rfl
theorem EE(z:List (Sh × AV))(i:List Nat):opK (aOp Γ b (.build z i) vs hp) K Kp=valK (Yi z i vs) (fun v=>K v hp):=by
 show opK (match YP hp (Yi z i vs) with|some (v,hp')=>some (OpRes.val v hp')|none=>none) K Kp=_;cases Yi z i vs <;> rfl
theorem EF(sh:Sh):opK (aOp Γ b (.bslicep sh) vs hp) K Kp=valK (xp sh vs) (fun v=>K v hp):=by
 show opK (match YP hp (xp sh vs) with|some (v,hp')=>some (OpRes.val v hp')|none=>none) K Kp=_;cases xp sh vs <;> rfl
theorem EG(o:Nat):opK (aOp Γ b (.faddr o) vs hp) K Kp=valK (yz o vs) (fun v=>K v hp):=by
 show opK (match YP hp (yz o vs) with|some (v,hp')=>some (OpRes.val v hp')|none=>none) K Kp=_;cases yz o vs <;> rfl
theorem EH(sh:Sh):opK (aOp Γ b (.iaddr sh) vs hp) K Kp=valK (Yl sh vs) (fun v=>K v hp):=by
 show opK (match YP hp (Yl sh vs) with|some (v,hp')=>some (OpRes.val v hp')|none=>none) K Kp=_;cases Yl sh vs <;> rfl
theorem EI(sh:Sh)(l h:Bool):opK (aOp Γ b (.slice sh l h) vs hp) K Kp=valK (YR sh l h vs) (fun v=>K v hp):=by
 show opK (match YP hp (YR sh l h vs) with|some (v,hp')=>some (OpRes.val v hp')|none=>none) K Kp=_;cases YR sh l h vs <;> rfl
theorem EJ(f:Fn)(k:Nat):opK (aOp Γ b (.mkfunc f k) vs hp) K Kp=valK (xT f k vs) (fun v=>K v hp):=by
 show opK (match YP hp (xT f k vs) with|some (v,hp')=>some (OpRes.val v hp')|none=>none) K Kp=_;cases xT f k vs <;> rfl
theorem EK(k:IntKind):opK (aOp Γ b (.conv k) vs hp) K Kp=valK (xU k vs) (fun v=>K v hp):=by
 show opK (match YP hp (xU k vs) with|some (v,hp')=>some (OpRes.val v hp')|none=>none) K Kp=_;cases xU k vs <;> rfl
theorem EL(i:Nat):opK (aOp Γ b (.extract i) vs hp) K Kp=valK (xV i vs) (fun v=>K v hp):=by
 show opK (match YP hp (xV i vs) with|some (v,hp')=>some (OpRes.val v hp')|none=>none) K Kp=_;cases xV i vs <;> rfl
theorem EM(t:TypeId):opK (aOp Γ b (.mkiface t) vs hp) K Kp=valK (xW t vs) (fun v=>K v hp):=by
 show opK (match YP hp (xW t vs) with|some (v,hp')=>some (OpRes.val v hp')|none=>none) K Kp=_;cases xW t vs <;> rfl
theorem EN(t:TypeId)(sh:Sh)(z:AV)(k:Bool):opK (aOp Γ b (.assert t sh z k) vs hp) K Kp=valK (xX t sh z k vs) (fun v=>K v hp):=by
 show opK (match YP hp (xX t sh z k vs) with|some (v,hp')=>some (OpRes.val v hp')|none=>none) K Kp=_;cases xX t sh z k vs <;> rfl
theorem EO(sh:Sh):opK (aOp Γ b (.load sh) vs hp) K Kp=valK (XP sh hp vs) (fun v=>K v hp):=by
 show opK (match YP hp (XP sh hp vs) with|some (v,hp')=>some (OpRes.val v hp')|none=>none) K Kp=_;cases XP sh hp vs <;> rfl
theorem EP(s:Bool)(sh:Sh)(z:AV)(k:Bool):opK (aOp Γ b (.lookup s sh z k) vs hp) K Kp=valK (yf s sh z k hp vs) (fun v=>K v hp):=by
 show opK (match YP hp (yf s sh z k hp vs) with|some (v,hp')=>some (OpRes.val v hp')|none=>none) K Kp=_;cases yf s sh z k hp vs <;> rfl
theorem EQ:opK (aOp Γ b .mlen vs hp) K Kp=valK (XD hp vs) (fun v=>K v hp):=by
 show opK (match YP hp (XD hp vs) with|some (v,hp')=>some (OpRes.val v hp')|none=>none) K Kp=_;cases XD hp vs <;> rfl
theorem ES(sh:Sh):opK (aOp Γ b (.nilsl sh) vs hp) K Kp=YD (yJ sh hp) K:=by
 show opK (match(yJ sh hp) with|some (v,hp')=>some (OpRes.val v hp')|none=>none) K Kp=_;cases (yJ sh hp) with
 |none=>rfl
 |some r=>cases r;rfl
theorem ET(sh:Sh)(z:AV):opK (aOp Γ b (.alloc sh z) vs hp) K Kp=YD (Xu sh z hp vs) K:=by
 show opK (match(Xu sh z hp vs) with|some (v,hp')=>some (OpRes.val v hp')|none=>none) K Kp=_;cases (Xu sh z hp vs) with
 |none=>rfl
 |some r=>cases r;rfl
theorem EU(sh:Sh):opK (aOp Γ b (.box sh) vs hp) K Kp=YD (wBox sh hp vs) K:=by
 show opK (match(wBox sh hp vs) with|some (v,hp')=>some (OpRes.val v hp')|none=>none) K Kp=_;cases (wBox sh hp vs) with
 |none=>rfl
 |some r=>cases r;rfl
theorem EW(sh:Sh):opK (aOp Γ b (.bslice sh) vs hp) K Kp=YD (yI sh hp vs) K:=by
 show opK (match(yI sh hp vs) with|some (v,hp')=>some (OpRes.val v hp')|none=>none) K Kp=_;cases (yI sh hp vs) with
 |none=>rfl
 |some r=>cases r;rfl
theorem EX(sh:Sh):opK (aOp Γ b (.store sh) vs hp) K Kp=YD (z8 sh b hp vs) K:=by
 show opK (match(z8 sh b hp vs) with|some (v,hp')=>some (OpRes.val v hp')|none=>none) K Kp=_;cases (z8 sh b hp vs) with
 |none=>rfl
 |some r=>cases r;rfl
theorem EY(sh:Sh)(z:PV):opK (aOp Γ b (.mkslice sh z) vs hp) K Kp=YD (xx sh z hp vs) K:=by
 show opK (match(xx sh z hp vs) with|some (v,hp')=>some (OpRes.val v hp')|none=>none) K Kp=_;cases (xx sh z hp vs) with
 |none=>rfl
 |some r=>cases r;rfl
theorem EZ(s:Bool)(sh:Sh):opK (aOp Γ b (.mapset s sh) vs hp) K Kp=YD (XE s sh hp vs) K:=by
 show opK (match(XE s sh hp vs) with|some (v,hp')=>some (OpRes.val v hp')|none=>none) K Kp=_;cases (XE s sh hp vs) with
 |none=>rfl
 |some r=>cases r;rfl
theorem E5(sh:Sh)(z:PV):opK (aOp Γ b (.clear sh z) vs hp) K Kp=YD (XQ sh z hp vs) K:=by
 show opK (match(XQ sh z hp vs) with|some (v,hp')=>some (OpRes.val v hp')|none=>none) K Kp=_;cases (XQ sh z hp vs) with
 |none=>rfl
 |some r=>cases r;rfl
theorem E6(sh:Sh):opK (aOp Γ b (.append sh) vs hp) K Kp=YD (YC sh hp vs) K:=by
 show opK (match(YC sh hp vs) with|some (v,hp')=>some (OpRes.val v hp')|none=>none) K Kp=_;cases (YC sh hp vs) with
 |none=>rfl
 |some r=>cases r;rfl
theorem E7(sh:Sh):opK (aOp Γ b (.mkmap sh) vs hp) K Kp=K (.map hp.length) (hp++[.map sh []]):=rfl
theorem E8(s:Sh)(f:FuncId)(as:List AV):opK (aOp Γ b .call (.pv s (.func (.func f))::as) hp) K Kp=xH (Γ .fn f as hp) K Kp:=by
 simp only[aOp,yB,y3,ZJ,ZC];cases Γ .fn f as hp with
 |none=>rfl
 |some r=>obtain⟨r,hp'⟩:=r;cases r <;> rfl
theorem E9(f:FuncId)(fs cs as:List AV):opK (aOp Γ b .call (.func (.func f) fs cs::as) hp) K Kp=xH (Γ .fn f (fs++as++cs) hp) K Kp:=by
 simp only[aOp,yB,y3];cases Γ .fn f (fs++as++cs) hp with
 |none=>rfl
 |some r=>obtain⟨r,hp'⟩:=r;cases r <;> rfl
theorem ed(n:Nat):opK (aOp Γ b (.calln n) vs hp) K Kp=opK (aOp Γ b .call (vs.drop n) hp) (fun v hp'=>(vs.take n).all (Yr hp hp')=true/\K v hp') Kp:=by
 simp only[aOp,Qy];cases yB Γ hp (vs.drop n) with
 |none=>rfl
 |some r=>
  cases r with
  |val v hp'=>
   simp only[opK];split
   ·rename_i h;split at h
    ·cases h;simp[*]
    ·cases h
   ·rename_i h;split at h <;> cases h
   ·rename_i h;split at h
    ·cases h
    ·simp[*]
  |panic v hp'=>rfl
def qK(v:Option (List (Sh × PV)))(K:List (Sh × PV)->Prop)[Tag K]:Prop:=
 match v with
 |some l=>K l
 |none=>False
theorem ee(s:Sh)(f:FuncId)(as:List AV):opK (aOp Γ b .callp (.pv s (.func (.func f))::as) hp) K Kp=qK (Y4 as) (fun ps=>xH (Γ .fn f (ym as (pvs ps)) []) (fun v H=>valK (v.alone H) fun v'=>K v' hp) (fun _ _=>False)):=by
 simp only[aOp,X9];cases Y4 as with
 |none=>rfl
 |some ps=>
  simp only[qK];cases Γ .fn f (ym as (pvs ps)) [] with
  |none=>rfl
  |some r=>
   obtain⟨r,hp'⟩:=r;cases r with
   |ret v=>simp only[xH];cases v.alone hp' <;> rfl
   |panic v=>rfl
theorem ef(s:Sh)(f:FuncId)(as:List AV):opK (yg Γ hp (.pv s (.func (.func f))::as)) K Kp=qK (Y4 as) (fun ps=>xH (Γ .fn f (ym as (pvs ps)) []) (fun v H=>valK (v.alone H) fun v'=>K v' hp) (fun p _=>Kp p hp)):=by
 simp only[yg];cases Y4 as with
 |none=>rfl
 |some ps=>
  simp only[qK];cases Γ .fn f (ym as (pvs ps)) [] with
  |none=>rfl
  |some r=>
   obtain⟨r,hp'⟩:=r;cases r with
   |ret v=>simp only[xH];cases v.alone hp' <;> rfl
   |panic v=>rfl
theorem eg(s s':Sh)(t:TypeId)(p:PV):opK (aOp Γ b .panic [.pv s (.iface t s' p)] hp) K Kp=Kp (.iface t s' p) hp:=rfl
end Go.Am
namespace Go.Am
variable{Γ:Oracle} {Λ:Yu} {b:Nat} {hp:Heap} {vs:List AV} {K:AV->Heap->Prop} {Kp:PV->Heap->Prop}
theorem eh:opK (aOp Γ b .nilcheck vs hp) K Kp=valK (xr vs) (fun v=>K v hp):=by
 show opK (match YP hp (xr vs) with|some (v,hp')=>some (OpRes.val v hp')|none=>none) K Kp=_;cases xr vs <;> rfl
theorem ep(g:Bool):opK (aOp Γ b (.isnil g) vs hp) K Kp=valK (xu g vs) (fun v=>K v hp):=by
 show opK (match YP hp (xu g vs) with|some (v,hp')=>some (OpRes.val v hp')|none=>none) K Kp=_;cases xu g vs <;> rfl
theorem er(sh:Sh)(l:Bool):opK (aOp Γ b (.slice3 sh l) vs hp) K Kp=valK (yA sh l vs) (fun v=>K v hp):=by
 show opK (match YP hp (yA sh l vs) with|some (v,hp')=>some (OpRes.val v hp')|none=>none) K Kp=_;cases yA sh l vs <;> rfl
end Go.Am

/- What code comes to: values; calls of functions. -/
namespace Go.Am
variable{Γ:Oracle} {Λ:Yu} {b:Nat} {hp:Heap} {K:AV->Prop} {s s':Sh} {sh:Sh} {k:IntKind} {x y:Int}

theorem s_mv(v:AV):sMv [v]=some v:=rfl
theorem eu(es:List PV):sLen [.pv s (.sl sh es)]=some (.pv none (.int .i64 es.length)):=rfl
theorem ew(es:List PV):sLen [.tsl sh es]=some (.pv none (.int .i64 es.length)):=rfl
theorem ex(r v o n:Nat):sLen [.sl sh r v o n]=some (.pv none (.int .i64 n)):=rfl
theorem ey(l:List UInt8):xY [.pv s (.str l)]=some (.pv none (.int .i64 l.length)):=rfl
theorem ez(c:Bool)(u v:AV):xR [.pv s (.bool c),u,v]=some (bif c then u else v):=rfl
theorem eA(c:Bool):sNot [.pv s (.bool c)]=some (.pv none (.bool !c)):=rfl
theorem eB(o:BinOp):valK (sBin o [.pv s (.int k x),.pv s' (.int k y)]) K=pvK (yT o k x y) (fun p=>K (.pv none p)):=by
 simp only[sBin,qd,if_true];cases yT o k x y <;> rfl
theorem eC(o:BinOp)(u v:List UInt8):valK (sBin o [.pv s (.str u),.pv s' (.str v)]) K=pvK (XC o u v) (fun p=>K (.pv none p)):=by
 simp only[sBin,qd];cases XC o u v <;> rfl
theorem eD(o:BinOp)(u v:Bool):valK (xS o [.pv s (.bool u),.pv s' (.bool v)]) K=pvK (Qv o u v) (fun p=>K (.pv none p)):=by
 simp only[xS];cases Qv o u v <;> rfl
theorem eE:yT .add k x y=some (.int k (k.wrap (x+y))):=rfl
theorem eF:yT .sub k x y=some (.int k (k.wrap (x - y))):=rfl
theorem eG:yT .eql k x y=some (.bool (decide (x=y))):=rfl
theorem eI:yT .neq k x y=some (.bool (!decide (x=y))):=rfl
theorem eJ:yT .lss k x y=some (.bool (decide (x<y))):=rfl
theorem eK:yT .leq k x y=some (.bool (decide (x<=y))):=rfl
theorem eL:yT .gtr k x y=some (.bool (decide (y<x))):=rfl
theorem eM:yT .geq k x y=some (.bool (decide (y<=x))):=rfl
theorem eN{u v:List UInt8}:XC .eql u v=some (.bool (decide (u=v))):=rfl
theorem eO{u v:List UInt8}:XC .neq u v=some (.bool (!decide (u=v))):=rfl
theorem eQ{u v:List UInt8}:XC .lss u v=some (.bool (Op.bytesLess u v)):=rfl
theorem eR{u v:Bool}:Qv .neq u v=some (.bool (!(u == v))):=rfl
theorem eS(o r o':Nat):yz o [.ptr r o']=some (.ptr r (o'+o)):=rfl
theorem eT(o o':Nat)(p:PV):yz o [.iptr sh p o']=some (.iptr sh p (o'+o)):=rfl
theorem eV(o r v i o':Nat):yz o [.eptr sh r v i o']=some (.eptr sh r v i (o'+o)):=rfl
theorem Yd{es:List PV}{i:Nat}{p:PV}(h:es[i]? =some p):Yl sh [.pv s (.sl sh es),.pv s' (.int k i)]=some (.iptr sh p 0):=by
 simp[Yl,aindex,h]
theorem UQ{r v o n i:Nat}(h:i<n):Yl sh [.sl sh r v o n,.pv s' (.int k i)]=some (.eptr sh r v (o+i) 0):=by
 simp[Yl,aindex,h]
theorem eW(k':IntKind):xU k' [.pv s (.int k x)]=some (.pv none (.int k' (k'.wrap x))):=rfl
theorem eX(i:Nat)(l:List AV):xV i [.tuple l]=l[i]? :=rfl
theorem eY(fn:Fn)(n:Nat)(v:AV)(l:List AV):xT fn n (v::l)=some (.func fn ((v::l).take n) ((v::l).drop n)):=rfl
theorem eZ(p:AV):XP sh hp [p]=aload sh hp p:=rfl
def K4(sh:Sh)(off:Nat):Option AObj->Option AV
 |some (.box s v)=>if off=0/\s=sh then some v else AV.part deep v off sh
 |_=>none
theorem Ha(r off:Nat):aload sh hp (.ptr r off)=K4 sh off hp[r]? :=by
 unfold K4;simp only[aload];split <;> simp_all
theorem Hb(off:Nat)(v:AV):K4 sh off (some (.box s v))=if off=0/\s=sh then some v else AV.part deep v off sh:=rfl
def toAV(sh:Sh):Option PV->Option AV
 |some p=>some (.pv sh p)
 |none=>none
theorem Hc(p:PV):toAV sh (some p)=some (.pv sh p):=rfl
theorem Hd(p:PV)(off:Nat):aload sh hp (.iptr s p off)=if off=0/\s=sh then some (.pv sh p) else toAV sh (PV.part deep p off sh):=by
 simp only[aload,toAV];split
 ·rfl
 ·cases PV.part deep p off sh <;> rfl
theorem He(p:PV)(off:Nat):AV.part deep (.pv s p) off sh=toAV sh (PV.part deep p off sh):=by
 show AV.part (7+1) (.pv s p) off sh=toAV sh (PV.part (7+1) p off sh);simp only[AV.part,toAV];cases PV.part (7+1) p off sh <;> rfl
theorem Hf(l:List (Sh × AV))(off:Nat):AV.part deep (.agg l) off sh=AV.part.go 7 off sh l:=rfl
theorem Hg(d off:Nat)(p:AV)(r:List (Sh × AV)):AV.part.go d off sh ((s,p)::r)=if off=0/\s=sh then some p else if off<s.size then AV.part d p off sh else AV.part.go d (off - s.size) sh r:=rfl
theorem Hh:Sh.size none=1:=rfl
theorem XA(n:Nat):Sh.size (some n)=n:=rfl
def endK(rs:List RSlot)(Q:AV->Heap->Prop)[Tag Q]:AExit->St->Prop
 | .normal,st=>match YM st rs with
  |some v=>Q v st.hp
  |none=>False
 | .ret,st=>match YM st rs with
  |some v=>Q v st.hp
  |none=>False
 |_,_=>False
theorem Qm(rs:List RSlot)(Q:AV->Heap->Prop)(st:St):endK rs Q .ret st=valK (YM st rs) (fun v=>Q v st.hp):=by
 show(match YM st rs with|some v=>Q v st.hp|none=>False)=_;cases YM st rs <;> rfl
theorem QU(rs:List RSlot)(Q:AV->Heap->Prop)(st:St):endK rs Q .normal st=valK (YM st rs) (fun v=>Q v st.hp):=by
 show(match YM st rs with|some v=>Q v st.hp|none=>False)=_;cases YM st rs <;> rfl
theorem Hi(st:St)(r:Nat):YM st [(r,none)]=st.fr.look r:=rfl
theorem Hj(st:St)(r:Nat)(sh:Sh):YM st [(r,some sh)]=(match st.fr.look r with|some p=>aload sh st.hp p|none=>none):=rfl
def tupO:Option (List AV)->Option AV
 |some l=>some (.tuple l)
 |none=>none
theorem Hk(l:List AV):tupO (some l)=some (.tuple l):=rfl
theorem Hl(st:St)(r q:RSlot)(l:List RSlot):YM st (r::q::l)=tupO (y4 st (r::q::l)):=by
 unfold YM tupO;simp only[];cases y4 st (r::q::l) <;> rfl
theorem Hm(st:St):YM st []=some (.tuple []):=rfl
theorem Hn(p:Nat->Bool):(AV.tuple []).refsIn.all p=true:=rfl
theorem Ho(st:St):y4 st []=some []:=rfl
theorem Hp(st:St)(r:RSlot)(l:List RSlot):y4 st (r::l)=K3 (YL st r) (y4 st l):=rfl
theorem Hq(st:St)(r:Nat):YL st (r,none)=st.fr.look r:=rfl
theorem Hr(i:Nat):params i []=[]:=rfl
theorem Hs(i:Nat)(v:AV)(r:List AV):params i (v::r)=(i,v)::params (i+1) r:=rfl

def frozen(v:AV):AV->Heap->Prop:=fun v' hp=>∃hp',v'.freezeRes hp=some (v,hp')
theorem Ht(p:PV)(v:AV):frozen v (.pv s p) hp=(.pv s p=v):=by
 have h:AV.freeze deep (.pv s p) hp=some (p,hp):=rfl;simp only[frozen,AV.freezeRes,h,AV.shp];exact propext ⟨fun⟨_,h⟩=>by cases h;rfl,fun h=>⟨hp,by rw[h]⟩⟩
theorem z9:∀(ps:List (Sh × PV)),Yn (pvs ps) hp=some (ps,hp)
 |[]=>rfl
 |(sh,p)::r=>by
  have h:AV.freeze deep (.pv sh p) hp=some (p,hp):=rfl;show Yn (.pv sh p::pvs r) hp=_;simp only[Yn,h,z9 r,AV.shp]

variable{F:FuncId->Option AFn} {prim:FuncId->Option Yw}
theorem Ya{f:FuncId}{fn:AFn}{args:List AV}{ps:List (Sh × PV)}{hp:Heap}{v:AV}(hp0:prim f=none)(hf:F f=some fn)(hm:fn.heapMode=false)(hz:Yn args hp=some (ps,hp))(hn:(pvs ps).length=fn.nparams)
  (h:W (sem F prim) (sloop F prim) 0 fn.code ⟨params 0 (pvs ps),[]⟩ (endK fn.results (frozen v)))(hr:fn.rcv=none:=by rfl)(hmo:fn.more=[]:=by rfl):sem F prim .fn f args hp=some (.ret v,hp):=by
 rw[Ql];unfold yh;rw[hp0,hf];simp only[hr,hmo,zH,hm,Z4,if_false,hz,abody,hn,ne_eq,not_true_eq_false];unfold W at h;split at h
 ·rename_i e st' he;have hl:([]:Heap).length=0:=rfl;rw[hl,he];cases e with
  |normal=>
   rw[QU] at h;cases hr:YM st' fn.results with
   |none=>rw[hr] at h;exact h.elim
   |some u=>
    rw[hr] at h;obtain⟨hp',h⟩:=h;simp only[hr,h];cases v.scalar <;> rfl
  |ret=>
   rw[Qm] at h;cases hr:YM st' fn.results with
   |none=>rw[hr] at h;exact h.elim
   |some u=>
    rw[hr] at h;obtain⟨hp',h⟩:=h;simp only[hr,h];cases v.scalar <;> rfl
  |exit i=>exact h.elim
  |panic v=>exact h.elim
 ·exact h.elim
theorem UR{c:ACode}{st:St}{Q Q':AExit->St->Prop}(h:W Γ Λ b c st Q)(hq:∀e st',Q e st'->Q' e st'):W Γ Λ b c st Q':=by
 unfold W at h ⊢;split at h
 ·exact hq _ _ h
 ·exact h.elim
theorem Qn(I:Nat->St->Prop){b:Nat}{keep:List Nat}{c:ACode}{st:St}{Q:AExit->St->Prop}{n:Nat}(h0:I n ⟨st.fr.keep keep,st.hp⟩)
  (h:∀n st1,I n st1->W (sem F prim) (sloop F prim) b c st1 (fun e st'=>match e with
   | .normal=>∃m,m<n/\I m ⟨st'.fr.keep keep,collect st.hp.length b (st'.fr.keep keep) st'.hp⟩
   |e=>Q e st')):W (sem F prim) (sloop F prim) b (.loop keep c) st Q:=by
 unfold W;simp only[aexec];have key:∀n st1,I n st1->match sloop F prim b st.hp.length keep c st1 with|some (e,st')=>Q e st'|none=>False:=by
  intro n
  induction n using Nat.strongRecOn with
  |_ n ih=>
   intro st1 hI;have hw:=h n st1 hI;unfold W at hw;rw[da];split at hw
   ·rename_i e st' he;rw[he];cases e with
    |normal=>
     obtain⟨m,hm,hI'⟩:=hw;exact ih m hm _ hI'
    |exit i=>exact hw
    |ret=>exact hw
    |panic v=>exact hw
   ·exact hw.elim
 exact key n _ h0
end Go.Am
namespace Go.Am
variable{Γ:Oracle} {Λ:Yu} {b:Nat} {hp:Heap} {K:AV->Heap->Prop} {s s':Sh} {sh:Sh} {k:IntKind} {x y:Int}
theorem Hu:Am.pvs []=[]:=rfl
theorem Hv(s:Sh)(p:PV)(r:List (Sh × PV)):Am.pvs ((s,p)::r)=.pv s p::Am.pvs r:=rfl
theorem US{α:Type}(l:List α)(x y:α):(l++[x]).set l.length y=l++[y]:=by
 rw[zu _ _ (Ze _)];simp
theorem Hw(p:PV):Xu sh (.pv sh p) hp []=some (.ptr hp.length 0,hp++[.box sh (.pv sh p)]):=by
 simp only[Xu,AV.plain,AV.shp,and_self,if_true,AV.own,US]
theorem Hy(p:PV):wBox sh hp [.pv sh p]=some (.ptr hp.length 0,hp++[.box sh (.pv sh p)]):=by
 simp only[wBox,AV.plain,AV.shp,and_self,if_true,AV.own,US]
def UT(sh:Sh)(n:Nat):List (Sh × AV) × Heap->Option (AV × Heap)
 |(l,hp)=>some (.ptr n 0,hp.set n (.box sh (.agg l)))
theorem Hz(n:Nat)(l:List (Sh × AV)):UT sh n (l,hp)=some (.ptr n 0,hp.set n (.box sh (.agg l))):=rfl
theorem HA(l:List (Sh × AV)):Xu sh (.agg l) hp []=if some (total l)=sh then UT sh hp.length (Yb l (hp++[.box sh (.agg l)])) else none:=by
 simp only[Xu,AV.plain,AV.shp,true_and,AV.own];rfl
theorem HB:Yb [] hp=([],hp):=rfl
def YQ(x:Sh × AV):List (Sh × AV) × Heap->List (Sh × AV) × Heap
 |(l,hp)=>(x::l,hp)
theorem HD(u:Sh × AV)(l:List (Sh × AV)):YQ u (l,hp)=(u::l,hp):=rfl
theorem HE(r:List (Sh × AV)):Yb ((s,.tsl sh [])::r) hp=if 0<sh.size then YQ (s,.sl sh hp.length 0 0 0) (Yb r (hp++[.arr sh [] false])) else YQ (s,.tsl sh []) (Yb r hp):=rfl
theorem HF(p:PV)(r:List (Sh × AV)):Yb ((s,.pv s' p)::r) hp=YQ (s,.pv s' p) (Yb r hp):=rfl
theorem HG(p:List (Sh × AV))(r:List (Sh × AV)):Yb ((s,.agg p)::r) hp=YQ (s,.agg p) (Yb r hp):=rfl
theorem HI:total ([]:List (Sh × AV))=0:=rfl
theorem HJ(v:AV)(r:List (Sh × AV)):total ((s,v)::r)=s.size+total r:=rfl
def boxK(o:Option AObj)(K:Sh->AV->Prop)[Tag K]:Prop:=
 match o with
 |some (.box s v)=>K s v
 |_=>False
theorem HK(v:AV)(K:Sh->AV->Prop):boxK (some (.box s v)) K=K s v:=rfl
theorem HL(r off:Nat)(p:PV):YD (z8 sh b hp [.ptr r off,.pv sh p]) K=boxK hp[r]? fun s old=>if off=0/\s=sh then K .undef (hp.set r (.box s (.pv sh p))) else
  valK (AV.upd deep old off sh (.pv sh p)) fun new=>K .undef (hp.set r (.box s new)):=by
 simp only[z8,astore,AV.plain,AV.shp,AV.own,AV.refsIn,Z9];cases hp[r]? with
 |none=>rfl
 |some o=>
  cases o with
  |box s old=>
   simp only[boxK];by_cases h1:off=0/\s=sh
   ·obtain⟨h1,h2⟩:=h1;subst h1;subst h2;by_cases hb:b<=r <;> simp[hb,YD]
   ·cases hu:AV.upd deep old off sh (.pv sh p) with
    |none=>by_cases hb:b<=r <;> simp[hb,h1,YD,valK]
    |some new=>by_cases hb:b<=r <;> simp[hb,h1,YD,valK]
  |arr s es fz=>rfl
  |map s es=>rfl
  |loop f ps env bz=>rfl
  |arv s es=>rfl
theorem HM{r:Nat}(h:b<=r)(fn:Fn)(fs cs:List AV):YD (z8 none b hp [.ptr r 0,.func fn fs cs]) K=boxK hp[r]? fun s old=>if s=none then K .undef (hp.set r (.box s (.func fn fs cs))) else valK (AV.upd deep old 0 none (.func fn fs cs)) fun new=>K .undef (hp.set r (.box s new)):=by
 simp only[z8,astore,AV.plain,AV.shp,AV.own];cases hp[r]? with
 |none=>rfl
 |some o=>
  cases o with
  |box s old=>
   simp only[boxK,Zc h];by_cases h1:s=none
   ·subst h1;simp[YD]
   ·cases hu:AV.upd deep old 0 none (.func fn fs cs) with
    |none=>simp[h1,YD,valK]
    |some new=>simp[h1,YD,valK]
  |arr s es fz=>rfl
  |map s es=>rfl
  |loop f ps env bz=>rfl
  |arv s es=>rfl
theorem je(h:0<sh.size):yJ sh hp=some (.sl sh hp.length 0 0 0,hp++[.arr sh [] false]):=by
 simp[yJ,h]
def qL(r:List Nat)(st:St)(q:Nat):Option AObj->Option St
 |some (.box sh v)=>match AV.freeze deep v st.hp with
  |some (p,hp')=>settle r ⟨st.fr,hp'.set q (.box sh (.pv sh p))⟩
  |none=>none
 |_=>settle r st
def QV(s:Nat)(r:List Nat)(st:St):Option AV->Option St
 |some (.ptr q _)=>qL r st q st.hp[q]?
 |some (.sl s' q ver off len)=>match AV.freeze deep (.sl s' q ver off len) st.hp with
   |some (p,hp')=>settle r ⟨(s,.pv none p)::st.fr,hp'⟩
   |none=>none
 |some (.tsl sh es)=>settle r ⟨(s,.pv none (.sl sh es))::st.fr,st.hp⟩
 |some (.slv s' q ver off len)=>match AV.freeze deep (.slv s' q ver off len) st.hp with
   |some (p,hp')=>settle r ⟨(s,.pv none p)::st.fr,hp'⟩
   |none=>none
 |some (.nilv sh)=>settle r ⟨(s,.pv none (.sl sh []))::st.fr,st.hp⟩
 |some (.agg l)=>if(AV.refsIn.go l).isEmpty=true then settle r st else match AV.freeze deep (.agg l) st.hp with
   |some (p,hp')=>settle r ⟨(s,.pv (some (total l)) p)::st.fr,hp'⟩
   |none=>settle r st
 |_=>settle r st
theorem K5(st:St):settle [] st=some st:=rfl
theorem HN(s:Nat)(r:List Nat)(st:St):settle (s::r) st=QV s r st (st.fr.look s):=by
 simp only[settle];cases st.fr.look s with
 |none=>rfl
 |some v=>
  cases v with
  |ptr q o=>
   simp only[QV];cases st.hp[q]? with
   |none=>rfl
   |some o=>cases o <;> rfl
  |_=>rfl
theorem HO(s:Nat)(r:List Nat)(st:St)(q o:Nat):QV s r st (some (.ptr q o))=qL r st q st.hp[q]? :=rfl
theorem HP(s:Nat)(r:List Nat)(st:St)(sh:Sh)(p:PV):QV s r st (some (.pv sh p))=settle r st:=rfl
theorem HQ(r:List Nat)(st:St)(q:Nat)(sh s:Sh)(p:PV):qL r st q (some (.box sh (.pv s p)))=settle r ⟨st.fr,st.hp.set q (.box sh (.pv sh p))⟩:=rfl
def setK(v:Option St)(K:St->Prop)[Tag K]:Prop:=
 match v with
 |some st=>K st
 |none=>False
theorem HS(st:St)(K:St->Prop):setK (some st) K=K st:=rfl
theorem W_settle'{Γ:Oracle}{Λ:Yu}{b:Nat}{st:St}{Q:AExit->St->Prop}(l:List Nat):W Γ Λ b (.settle l) st Q=setK (settle l st) (fun st'=>Q .normal st'):=by
 rw[dv];cases settle l st <;> rfl
def K6(x:Sh × PV):Option (List (Sh × PV))->Option (List (Sh × PV))
 |some l=>some (x::l)
 |none=>none
theorem HT(x:Sh × PV)(l:List (Sh × PV)):K6 x (some l)=some (x::l):=rfl
theorem HU:Y4 []=some []:=rfl
theorem HV(s:Sh)(p:PV)(r:List AV):Y4 (.pv s p::r)=K6 (s,p) (Y4 r):=by
 have h:AV.weaken deep (.pv s p)=some p:=rfl;simp only[Y4,h,AV.shp];cases Y4 r <;> rfl
theorem HW(s:Sh)(es:List PV)(r:List AV):Y4 (.tsl s es::r)=K6 (none,.sl s es) (Y4 r):=by
 have h:AV.weaken deep (.tsl s es)=some (.sl s es):=rfl;simp only[Y4,h,AV.shp];cases Y4 r <;> rfl
theorem HX(l:List (Sh × PV))(K:List (Sh × PV)->Prop):qK (some l) K=K l:=rfl
theorem HY(s:Sh)(p:PV)(H:Heap):AV.alone (.pv s p) H=some (.pv s p):=rfl
theorem HZ(q:List AV):ym [] q=q:=by cases q <;> rfl
theorem H5(s:Sh)(p:PV)(r q:List AV)(x:AV):ym (.pv s p::r) (x::q)=x::ym r q:=rfl
theorem H6(s:Sh)(a:PV)(l:List PV)(r q:List AV)(x:AV):ym (.tsl s (a::l)::r) (x::q)=x::ym r q:=rfl
def UU(x:Sh × PV):Option (List (Sh × PV) × Heap)->Option (List (Sh × PV) × Heap)
 |some (l,hp)=>some (x::l,hp)
 |none=>none
theorem H7(x:Sh × PV)(l:List (Sh × PV))(hp:Heap):UU x (some (l,hp))=some (x::l,hp):=rfl
theorem H8(hp:Heap):Yn [] hp=some ([],hp):=rfl
theorem H9(s:Sh)(p:PV)(r:List AV)(hp:Heap):Yn (.pv s p::r) hp=UU (s,p) (Yn r hp):=by
 have h:AV.freeze deep (.pv s p) hp=some (p,hp):=rfl;simp only[Yn,h,AV.shp];cases Yn r hp with
 |none=>rfl
 |some x=>rfl
def bslO(sh:Sh):Option (List PV)->Heap->Option (AV × Heap)
 |some es,hp=>some (.tsl sh es,hp)
 |none,_=>none
def bslZ(sh:Sh):Option (List (Sh × PV) × Heap)->Option (AV × Heap)
 |some (ps,hp)=>bslO sh (yb sh ps) hp
 |none=>none
theorem hJ(sh:Sh)(hp:Heap)(vs:List AV):yI sh hp vs=bslZ sh (Yn vs hp):=by
 unfold yI bslZ;cases Yn vs hp with
 |none=>rfl
 |some x=>
  obtain⟨ps,hp'⟩:=x;simp only[];cases yb sh ps <;> rfl
theorem hK(sh:Sh)(ps:List (Sh × PV))(hp:Heap):bslZ sh (some (ps,hp))=bslO sh (yb sh ps) hp:=rfl
theorem hU(sh:Sh)(es:List PV)(hp:Heap):bslO sh (some es) hp=some (.tsl sh es,hp):=rfl
def UV(p:PV):Option (List PV)->Option (List PV)
 |some l=>some (p::l)
 |none=>none
theorem hY(p:PV)(l:List PV):UV p (some l)=some (p::l):=rfl
theorem hZ(sh:Sh):yb sh []=some []:=rfl
theorem La(sh s:Sh)(p:PV)(r:List (Sh × PV)):yb sh ((s,p)::r)=if s=sh then UV p (yb sh r) else none:=by
 simp only[yb];split
 ·cases yb sh r <;> rfl
 ·rfl
def bslQ(sh:Sh):Option (List PV)->Option AV
 |some es=>some (.tsl sh es)
 |none=>none
theorem Lb(sh:Sh)(es:List PV):bslQ sh (some es)=some (.tsl sh es):=rfl
def bslP(sh:Sh):Option (List (Sh × PV))->Option AV
 |some ps=>bslQ sh (yb sh ps)
 |none=>none
theorem Lc(sh:Sh)(ps:List (Sh × PV)):bslP sh (some ps)=bslQ sh (yb sh ps):=rfl
theorem Ld(sh:Sh)(vs:List AV):xp sh vs=bslP sh (Y4 vs):=by
 unfold xp bslP;cases Y4 vs with
 |none=>rfl
 |some ps=>simp only[];cases yb sh ps <;> rfl
def jf(sh:Sh)(n:Nat):Option AObj->Prop
 |some (.arr s es false)=>s=sh/\es.length=n
 |_=>False
def jg(n:Nat):Option AObj->Prop
 |some (.arr _ es _)=>es.length=n
 |_=>False
def Qo:Option AObj->List PV
 |some (.arr _ es _)=>es
 |_=>[]
def jh:Option AObj->Sh
 |some (.arr s _ _)=>s
 |_=>none
theorem Le{sh s:Sh}{n:Nat}(es:List PV):jf sh n (some (.arr s es false))=(s=sh/\es.length=n):=rfl
theorem Lf{s:Sh}{fz:Bool}(es:List PV):Qo (some (.arr s es fz))=es:=rfl
theorem Lg{sh:Sh}{n:Nat}{o:Option AObj}(h:jf sh n o):∃es,o=some (.arr sh es false)/\es.length=n:=by
 unfold jf at h;split at h
 ·obtain⟨rfl,h⟩:=h;exact⟨_,rfl,h⟩
 ·exact h.elim
theorem Lh{n:Nat}{o:Option AObj}(h:jg n o):∃sh es fz,o=some (.arr sh es fz)/\es.length=n:=by
 unfold jg at h;split at h
 ·exact⟨_,_,_,rfl,h⟩
 ·exact h.elim
theorem Li{sh s:Sh}{hp:Heap}{r n:Nat}{new:List PV}(h:jf sh n hp[r]?)(h2:n+new.length<=lim):YC sh hp [.sl s r n 0 n,.tsl sh new]=some (.sl sh r (n+new.length) 0 (n+new.length),hp.set r (.arr sh (Qo hp[r]? ++new) false)):=by
 obtain⟨es,ho,rfl⟩:=Lg h;simp[YC,aappend,elems,ho,h2,Qo]
theorem freeze_sl'{sh:Sh}{hp:Heap}{r n:Nat}(h:jg n hp[r]?):AV.freeze deep (.sl sh r n 0 n) hp=some (.sl (jh hp[r]?) (Qo hp[r]?),hp.set r (.arr (jh hp[r]?) (Qo hp[r]?) true)):=by
 obtain⟨sh',es,fz,ho,rfl⟩:=Lh h;show AV.freeze (7+1) _ _=_;simp[AV.freeze,ho,Qo,jh]
theorem UW{sh:Sh}{hp:Heap}{r n:Nat}{v:AV}(h:jg n hp[r]?):frozen v (.sl sh r n 0 n) hp=(.pv none (.sl (jh hp[r]?) (Qo hp[r]?))=v):=by
 simp only[frozen,AV.freezeRes,freeze_sl' h,AV.shp];exact propext ⟨fun⟨_,h⟩=>by cases h;rfl,fun h=>⟨_,by rw[h]⟩⟩
def frzT(v:AV):Option (List (Sh × PV) × Heap)->Prop
 |some (ps,_)=>.tuple (pvs ps)=v
 |none=>False
theorem Lj(v:AV)(ps:List (Sh × PV))(hp:Heap):frzT v (some (ps,hp))=(.tuple (pvs ps)=v):=rfl
theorem yr{hp:Heap}{l:List AV}{v:AV}:frozen v (.tuple l) hp=frzT v (Yn l hp):=by
 simp only[frozen,AV.freezeRes];cases Yn l hp with
 |none=>simp[frzT]
 |some x=>
  obtain⟨ps,hp'⟩:=x;simp only[frzT];exact propext ⟨fun⟨_,h⟩=>by cases h;rfl,fun h=>⟨_,by rw[h]⟩⟩
theorem Lk{x:Int}(h:0<=x)(h':x<18446744073709551616):IntKind.u64.wrap x=x:=by
 simp[IntKind.wrap,IntKind.signed,IntKind.bits];omega
def K7(sh:Sh):Option AObj->Prop
 |some (.box s _)=>s=sh
 |_=>False
theorem Ll(sh s:Sh)(v:AV):K7 sh (some (.box s v))=(s=sh):=rfl
def K8(r:Nat)(sh:Sh):List (Sh × AV) × Heap->Option (AV × Heap)
 |(l,hp1)=>some (.undef,hp1.set r (.box sh (.agg l)))
theorem Lm(r:Nat)(sh:Sh)(l:List (Sh × AV))(hp1:Heap):K8 r sh (l,hp1)=some (.undef,hp1.set r (.box sh (.agg l))):=rfl
theorem z7{b r:Nat}{sh:Sh}{hp:Heap}(h:b<=r)(l:List (Sh × AV))(hs:some (total l)=sh)(ho:K7 sh hp[r]?):z8 sh b hp [.ptr r 0,.agg l]=K8 r sh (Yb l hp):=by
 cases ho':hp[r]? with
 |none=>rw[ho'] at ho;exact ho.elim
 |some o=>
  rw[ho'] at ho;cases o with
  |box s old=>
   simp only[K7] at ho;subst ho;simp only[z8,astore,ho',AV.plain,AV.shp,AV.own,hs,Zc h];cases Yb l hp with
   |mk l' hp'=>simp[K8]
  |arr s es fz=>exact ho.elim
  |map s es=>exact ho.elim
  |loop f ps env bz=>exact ho.elim
  |arv s es=>exact ho.elim
theorem Xm{b r:Nat}{s':Sh}{hp:Heap}{K:AV->Heap->Prop}{q v o n off:Nat}(h:b<=r):YD (z8 none b hp [.ptr r off,.sl s' q v o n]) K=boxK hp[r]? fun s old=>if off=0/\s=none then K .undef (hp.set r (.box s (.sl s' q v o n))) else
  valK (AV.upd deep old off none (.sl s' q v o n)) fun new=>K .undef (hp.set r (.box s new)):=by
 simp only[z8,astore,AV.plain,AV.shp,AV.own];cases hp[r]? with
 |none=>rfl
 |some ob=>
  cases ob with
  |box s old=>
   simp only[boxK,Zc h];by_cases h1:off=0/\s=none
   ·obtain⟨h1,h2⟩:=h1;subst h1;subst h2;simp[YD]
   ·cases hu:AV.upd deep old off none (.sl s' q v o n) with
    |none=>simp[h1,YD,valK]
    |some new=>simp[h1,YD,valK]
  |arr s es fz=>rfl
  |map s es=>rfl
  |loop f ps env bz=>rfl
  |arv s es=>rfl
def updO:Option (List (Sh × AV))->Option AV
 |some l=>some (AV.ofComps l)
 |none=>none
theorem Ln(l:List (Sh × AV)):updO (some l)=some (AV.ofComps l):=rfl
theorem Lo(l:List (Sh × AV))(off:Nat)(sh:Sh)(x:AV):AV.upd deep (.agg l) off sh x=updO (AV.updGo (fun p o=>AV.upd 7 p o sh x) sh x off l):=by
 show AV.upd (7+1) (.agg l) off sh x=_;simp only[AV.upd,AV.comps];cases AV.updGo (fun p o=>AV.upd 7 p o sh x) sh x off l <;> rfl
def UX(s:Sh)(p:AV):Option (List (Sh × AV))->Option (List (Sh × AV))
 |some l=>some ((s,p)::l)
 |none=>none
theorem Lp(s:Sh)(p:AV)(l:List (Sh × AV)):UX s p (some l)=some ((s,p)::l):=rfl
theorem Lq(f:AV->Nat->Option AV)(sh:Sh)(v:AV)(off:Nat)(s:Sh)(p:AV)(r:List (Sh × AV)):AV.updGo f sh v off ((s,p)::r)=if off=0/\s=sh then some ((s,v)::r) else if off<s.size then(match f p off with|some p'=>some ((s,p')::r)|none=>none) else UX s p (AV.updGo f sh v (off - s.size) r):=by
 simp only[AV.updGo];split
 ·rfl
 ·split
  ·rfl
  ·cases AV.updGo f sh v (off - s.size) r <;> rfl
end Go.Am

/- (empty) -/

/- The steps, as one set. -/
namespace Go.Am
attribute [go_sem] dr dt du dw dz dC dD dF dI dJ dK dG dH dM dO dQ dR dS dV dW dX dY dZ d7 d8 d9 Eb Ec Ed Ee Eg Eh Ei Ej Ek El Em En Eo Ep Er Es Et Eu Ev Ex Ey Ez EA EB EC ED EE EF EG EH EI EJ EK EL EM EN EO EP EQ ES ET EU EW EX EY EZ E5 E6 E7 E8 E9 ee ef eg s_mv eu ew ex ey ez eA eB eC eD eE eF eG eI eJ eK eL eM eN eO eQ eR eS eT eV eW eX eY eZ Ha Hb Hc Hd He Hf Hg Hh XA Qm QU Hi Hl Ho Hp Hq Hr Hs Hk Hm Hn Ht Hw Hy HB HD HE HF HG HA Hz HI HJ HK HL W_settle' HS K5 HN HO HP HQ HT HU HV HW HX HY HZ H5 H6 H7 H8 H9 hJ hK hU hY hZ La Ld Lb Lc Le Lf Li UW yr Lj Lm Ll Ln Lo Lp Lq Hj if_true if_false true_and and_true false_and and_false and_self Zy zr eq_self Bool.true_eq_false Z4 cond_true cond_false Zw zI Bool.not_eq_false' decide_eq_false_iff_not not_true_eq_false not_false_eq_true Bool.true_and Bool.false_and Bool.and_true Bool.and_false Bool.not_true Bool.not_false Option.some.injEq decide_true decide_false zW ZR ZO List.length_nil ZJ ZK List.set_cons_zero List.set_cons_succ zo Z2 Hv Hu ed eh ep er
end Go.Am

/- Terms: sizes, valid ones; how their parts are read. -/
namespace Go.Am
mutual
def Tm.size:Tm->Nat
 | .mk _ _ _ as=>1+Tm.sizes as
def Tm.sizes:List Tm->Nat
 |[]=>0
 |t::r=>t.size+Tm.sizes r
end
theorem Tm.size_eq(t:Tm):t.size=1+Tm.sizes t.args:=by cases t;simp[Tm.size,Tm.args]
theorem Tm.size_pos(t:Tm):0<t.size:=by rw[Tm.size_eq];omega
theorem Tm.zxn:∀{l:List Tm} {t:Tm},t∈l->t.size<=Tm.sizes l
 |x::r,t,h=>by
  simp only[Tm.sizes];rcases Zu.1 h with rfl|h
  ·omega
  ·have:=Tm.zxn h;omega
theorem Tm.zxk(l r:List Tm):Tm.sizes (l++r)=Tm.sizes l+Tm.sizes r:=by
 induction l with
 |nil=>simp[Tm.sizes]
 |cons x l ih=>simp only[ZK,Tm.sizes,ih];omega
theorem Tm.zw9(l:List Tm):l.length<=Tm.sizes l:=by
 induction l with
 |nil=>simp
 |cons x l ih=>have:=x.size_pos;simp only[ZO,Tm.sizes];omega
theorem Tm.zxg{l:List Tm}{i:Nat}{t:Tm}(h:l[i]? =some t):Tm.sizes (l.take (i+1))=Tm.sizes (l.take i)+t.size:=by
 rw[zV,h,Tm.zxk];simp[Tm.sizes]
theorem Tm.zxb(l:List Tm)(i:Nat):Tm.sizes (l.take i)<=Tm.sizes l:=by
 have h:=Tm.zxk (l.take i) (l.drop i);rw[Z6] at h;omega
theorem Tm.zxa{t u:Tm}(h:u∈t.args):u.size<t.size:=by
 have:=Tm.zxn h;rw[t.size_eq];omega
theorem Tm.zxd{P:Tm->Prop}(h:∀t:Tm,(∀u∈t.args,P u)->P t)(t:Tm):P t:=by
 have:∀n (t:Tm),t.size<=n->P t:=by
  intro n
  induction n with
  |zero=>intro t ht;have:=t.size_pos;omega
  |succ n ih=>exact fun t ht=>h t fun u hu=>ih u (by have:=Tm.zxa hu;omega)
 exact this _ t (Ze _)
theorem Tm.zxs(l:List Tm):Tm.pvs l=l.map Tm.pv:=by
 induction l with
 |nil=>rfl
 |cons x l ih=>simp[Tm.pvs,ih]
theorem Tm.pvs_get{l:List Tm}{i:Nat}{t:Tm}(h:l[i]? =some t):(Tm.pvs l)[i]? =some t.pv:=by simp[Tm.zxs,h]
theorem Tm.pvs_len(l:List Tm):(Tm.pvs l).length=l.length:=by simp[Tm.zxs]
theorem Tm.zxx(l r:List Tm):Tm.pvs (l++r)=Tm.pvs l++Tm.pvs r:=by simp[Tm.zxs]
theorem Tm.zxc{l:List Tm}{i:Nat}{t:Tm}(h:l[i]? =some t):Tm.pvs (l.take i)++[t.pv]=Tm.pvs (l.take (i+1)):=by
 rw[zV,h,Tm.zxx];rfl
theorem Yo(t:Tm):PV.part deep t.pv 0 none=some (.int .i64 t.kind):=by cases t;rfl
theorem yt(t:Tm):PV.part deep t.pv 1 none=some (.int .i64 t.n):=by cases t;rfl
theorem YJ(t:Tm):PV.part deep t.pv 2 none=some (.str t.name):=by cases t;rfl
theorem Yh(t:Tm):PV.part deep t.pv 3 none=some (.sl (some 4) (Tm.pvs t.args)):=by cases t;rfl
theorem Yf{x:Int}(h: -9223372036854775808<=x)(h':x<9223372036854775808):IntKind.i64.wrap x=x:=by
 rw[IntKind.wrap_i64];omega
end Go.Am
namespace Go.Am
def Tm.node(t:Tm):Bool:=
 if t.kind=0 then decide (0<=t.n) && decide (t.n<=1099511627776) && decide (t.name=[]) && decide ((t.args.length:Int)=0)
 else if t.kind=1 then decide (t.name=[]) && decide ((t.args.length:Int)=0)
 else if t.kind=2 then decide (t.n=0) && decide ((t.name.length:Int)<=100) && decide ((t.args.length:Int)=0)
 else if t.kind=3 then decide (t.n=0) && decide ((t.name.length:Int)<=100) && decide (0<(t.args.length:Int)) && decide ((t.args.length:Int)<=8)
 else false
mutual
def Tm.fits:Tm->Bool
 | .mk k n s as=>Tm.node (.mk k n s as) && Tm.fitsAll as
def Tm.fitsAll:List Tm->Bool
 |[]=>true
 |t::r=>t.fits && Tm.fitsAll r
end
theorem Tm.zxf(t:Tm):t.fits=(t.node && Tm.fitsAll t.args):=by cases t;simp[Tm.fits,Tm.args]
theorem Tm.fitsAll_iff{l:List Tm}:Tm.fitsAll l=true↔∀t∈l,t.fits=true:=by
 induction l with
 |nil=>simp[Tm.fitsAll]
 |cons x l ih=>simp[Tm.fitsAll,ih]
theorem Tm.zxh(l r:List Tm):Tm.fitsAll (l++r)=(Tm.fitsAll l && Tm.fitsAll r):=by
 induction l with
 |nil=>simp[Tm.fitsAll]
 |cons x l ih=>simp[Tm.fitsAll,ih,Bool.and_assoc]
theorem Tm.zxl{l:List Tm}{i:Nat}{t:Tm}(h:l[i]? =some t):Tm.fitsAll (l.take (i+1))=(Tm.fitsAll (l.take i) && t.fits):=by
 rw[zV,h,Tm.zxh];simp[Tm.fitsAll]
theorem Tm.zxe{t u:Tm}(h:t.fits=true)(hu:u∈t.args):u.fits=true:=by
 rw[Tm.zxf,Zg] at h;exact Tm.fitsAll_iff.1 h.2 u hu
def Tm.valid(t:Tm):Bool:=decide (t.size<=2000) && t.fits
end Go.Am

/- Functions that run on their caller's heap; loops' heaps. -/
namespace Go.Am
variable{F:FuncId->Option AFn} {prim:FuncId->Option Yw}
theorem Xn{f:FuncId}{fn:AFn}{args:List AV}{hp hp':Heap}{v:AV}(hp0:prim f=none)(hf:F f=some fn)(hm:fn.heapMode=true)(hn:args.length=fn.nparams)
  (h:W (sem F prim) (sloop F prim) hp.length fn.code ⟨params 0 args,hp⟩ (endK fn.results (fun v' h'=>v'=v/\(if v.refsIn.all (fun q=>decide (q<hp.length))=true then h'.take hp.length else h')=hp')))(hr:fn.rcv=none:=by rfl)(hmo:fn.more=[]:=by rfl):sem F prim .fn f args hp=some (.ret v,hp'):=by
 rw[Ql];unfold yh;rw[hp0,hf];simp only[hr,hmo,zH,Z4,if_false,hm,if_true,abody,hn,ne_eq,not_true_eq_false,if_false];unfold W at h;split at h
 ·rename_i e st' he;rw[he];cases e with
  |normal=>
   rw[QU] at h;cases hr:YM st' fn.results with
   |none=>rw[hr] at h;exact h.elim
   |some u=>
    rw[hr] at h;obtain⟨h1,h2⟩:=h;simp only[hr,h1,h2]
  |ret=>
   rw[Qm] at h;cases hr:YM st' fn.results with
   |none=>rw[hr] at h;exact h.elim
   |some u=>
    rw[hr] at h;obtain⟨h1,h2⟩:=h;simp only[hr,h1,h2]
  |exit i=>exact h.elim
  |panic v=>exact h.elim
 ·exact h.elim
theorem qM{n b:Nat}{fr:Fr}{hp:Heap}(h:hp.length=n):collect n b fr hp=hp:=by
 unfold collect;split
 ·rw[<-h,ZP]
 ·rfl
theorem ji{α:Type}{l r:List α}{i:Nat}(h:i<l.length):(l++r)[i]? =l[i]? :=Zn h
theorem Lr{α:Type}(l:List α)(x:α):(l++[x])[l.length]? =some x:=by simp
theorem UY{α:Type}{l r:List α}{i:Nat}(h:i<l.length)(x:α):(l++r).set i x=l.set i x++r:=by rw[zm _ _ h]
theorem YT{α:Type}{l:List α}{i:Nat}{x:α}(h:l[i]? =some x):i<l.length:=(Zb.1 h).1
end Go.Am
namespace Go.Am
variable{Γ:Oracle} {Λ:Yu} {b:Nat}
end Go.Am

namespace Go.Am
theorem Ls{b:Nat}{fr:Fr}(x:AObj):collect 1 b fr [x]=[x]:=qM rfl
theorem Lt{b:Nat}{fr:Fr}(x y:AObj):collect 2 b fr [x,y]=[x,y]:=qM rfl
theorem Lu{b:Nat}{fr:Fr}:collect 0 b fr []=[]:=qM rfl
theorem jj{F:FuncId->Option AFn}{prim:FuncId->Option Yw}{f:FuncId}{p:Yw}(h:prim f=some p)(as:List AV)(hp:Heap):sem F prim .fn f as hp=p f as hp:=by
 rw[Ql];unfold yh;rw[h]
def cmpI(x y:Int):Int:=if x<y then -1 else if y<x then 1 else 0
def y9(x y:Int):Int:=if x=0 then y else x
mutual
def Tm.cmp:Tm->Tm->Int
 | .mk k n s as,.mk k' n' s' as'=>y9 (cmpI k k') (y9 (cmpI n n') (y9 (cmpI as.length as'.length) (y9 (Lib.compareBytes s s') (Tm.cmps as as'))))
def Tm.cmps:List Tm->List Tm->Int
 |x::r,y::r'=>y9 (x.cmp y) (Tm.cmps r r')
 |_,_=>0
end
theorem Tm.zxy(a b:Tm):a.cmp b=y9 (cmpI a.kind b.kind) (y9 (cmpI a.n b.n) (y9 (cmpI a.args.length b.args.length) (y9 (Lib.compareBytes a.name b.name) (Tm.cmps a.args b.args)))):=by
 cases a;cases b;rfl
theorem QW(x:Int):cmpI x x=0:=by simp[cmpI]
theorem UZ(y:Int):y9 0 y=y:=rfl
theorem U0{x:Int}(h:x≠0)(y:Int):y9 x y=x:=Za h
theorem Lv{x y:Int}:cmpI x y=0↔x=y:=by
 unfold cmpI;split
 ·constructor <;> intro h <;> omega
 ·split <;> constructor <;> intro h <;> omega
theorem Tm.zxq{l r:List Tm}{i:Nat}{x y:Tm}(h:l[i]? =some x)(h':r[i]? =some y):Tm.cmps (l.drop i) (r.drop i)=y9 (x.cmp y) (Tm.cmps (l.drop (i+1)) (r.drop (i+1))):=by
 obtain⟨h1,rfl⟩:=Zb.1 h;obtain⟨h2,rfl⟩:=Zb.1 h';rw[List.drop_eq_getElem_cons h1,List.drop_eq_getElem_cons h2,Tm.cmps]
end Go.Am

namespace Go.Am
theorem Tm.zxj(l:List Tm):Tm.cmps [] l=0:=by simp[Tm.cmps]
end Go.Am

namespace Go.Am
def Kept(p:Prop):Prop:=p
theorem Kept.out{p:Prop}(h:Kept p):p:=h
theorem Kept.mk{p:Prop}(h:p):Kept p:=h
end Go.Am
namespace Go.Am
theorem Xa{F:FuncId->Option AFn}{prim:FuncId->Option Yw}{f:FuncId}{fn:AFn}{args:List AV}{ps:List (Sh × PV)}{hp hp1 hp2:Heap}{v:AV}(hp0:prim f=none)(hf:F f=some fn)(hm:fn.heapMode=false)(hz:Yn args hp=some (ps,hp1))
  (h:sem F prim .fn f (pvs ps) []=some (.ret v,hp2))(hr:fn.rcv=none:=by rfl):sem F prim .fn f args hp=some (.ret v,bif v.scalar then hp else hp1):=by
 rw[Ql] at h ⊢;unfold yh at h ⊢;rw[hp0,hf] at h ⊢;simp only[hr,zH,hm,Z4,if_false,hz,z9] at h ⊢;split at h
 ·split at h
  ·cases h;simp_all
  ·cases h
 ·cases h
 ·cases h
end Go.Am

namespace Go.Am
theorem U1{k:IntKind}(hk:0<k.bits)(x:Int):yT .shr k x 1=some (.int k (x / 2)):=by
 have h1:Nat.min (1:Int).toNat k.bits=1:=Z0 hk;simp only[yT,h1];rw[Za (by decide),Int.fdiv_eq_ediv_of_nonneg _ (by decide)];rfl
end Go.Am

namespace Go.Am
end Go.Am

namespace Go.Am
end Go.Am

namespace Go.Am
attribute [go_sem] Lu Ls Lt
end Go.Am

/- The standard order of terms is an order. -/
namespace Go.Am
open Lib (compareBytes)
theorem U2{x y:Int}:y9 x y=0↔x=0/\y=0:=by
 unfold y9;split <;> omega
theorem cb_zero:∀{a b:List UInt8},compareBytes a b=0↔a=b
 |[],[]=>by simp[compareBytes]
 |[],_::_=>by simp[compareBytes]
 |_::_,[]=>by simp[compareBytes]
 |x::a,y::b=>by
  simp only[compareBytes,List.cons.injEq];split
  ·rename_i h;constructor
   ·intro h;omega
   ·rintro⟨rfl,_⟩;exact absurd h (by simp[UInt8.lt_iff_toNat_lt])
  ·split
   ·rename_i h;constructor
    ·intro h;omega
    ·rintro⟨rfl,_⟩;exact absurd h (by simp[UInt8.lt_iff_toNat_lt])
   ·rename_i h1 h2;have:x=y:=by
     rw[UInt8.lt_iff_toNat_lt] at h1 h2;exact UInt8.toNat_inj.1 (by omega)
    simp[this,cb_zero]
theorem Tm.ext{a b:Tm}(h1:a.kind=b.kind)(h2:a.n=b.n)(h3:a.name=b.name)(h4:a.args=b.args):a=b:=by
 cases a;cases b;simp_all[Tm.kind,Tm.n,Tm.name,Tm.args]
theorem Tm.cmp_zero:∀{a b:Tm},a.cmp b=0↔a=b:=by
 intro a
 induction a using Tm.zxd with
 |h a ih=>
  intro b;have lists:∀(l r:List Tm),(∀t∈l,∀{b:Tm},t.cmp b=0↔t=b)->l.length=r.length->(Tm.cmps l r=0↔l=r):=by
   intro l
   induction l with
   |nil=>intro r _ hl;have:r=[]:=List.length_eq_zero_iff.1 hl.symm;subst this;simp[Tm.cmps]
   |cons x l ihl=>
    intro r hx hl;cases r with
    |nil=>simp at hl
    |cons y r=>
     simp only[Tm.cmps,U2,List.cons.injEq];rw[hx x (by simp),ihl r (fun t ht=>hx t (by simp[ht])) (by simpa using hl)]
  rw[Tm.zxy];simp only[U2,Lv,cb_zero];constructor
  ·rintro⟨h1,h2,h3,h4,h5⟩;exact Tm.ext h1 h2 h4 ((lists _ _ ih (by omega)).1 h5)
  ·rintro rfl;exact⟨rfl,rfl,rfl,rfl,(lists _ _ ih rfl).2 rfl⟩
end Go.Am

/- Flat clauses as plain data. -/
namespace Go.Am
structure Pr where
 name:List UInt8
 arity:Int
 aux:Int
structure Gl where
 kind:Int
 pred:Pr
 args:List Tm
 var:Int
structure Fl where
 pred:Pr
 args:List Tm
 goals:List Gl
def Pr.pv(p:Pr):PV:=.agg [(none,.str p.name),(none,.int .i64 p.arity),(none,.int .i64 p.aux)]
def Gl.pv(g:Gl):PV:=.agg [(none,.int .i64 g.kind),(some 3,g.pred.pv),(none,.sl (some 4) (Tm.pvs g.args)),(none,.int .i64 g.var)]
def Gl.pvs(l:List Gl):List PV:=l.map Gl.pv
def Fl.pv(f:Fl):PV:=.agg [(some 3,f.pred.pv),(none,.sl (some 4) (Tm.pvs f.args)),(none,.sl (some 6) (Gl.pvs f.goals))]
def Fl.av(f:Fl):AV:=.pv (some 5) f.pv
def Pr.ok(p:Pr):Bool:=
 if p.aux=0 then decide ((p.name.length:Int)<=100) && decide (0<=p.arity) && decide (p.arity<=8)
 else decide (p.name=[]) && decide (1<=p.aux) && decide (p.aux<=1099511627776) && decide (0<=p.arity) && decide (p.arity<=4096)
def Pr.zero(p:Pr):Bool:=decide (p.name=[]) && decide (p.arity=0) && decide (p.aux=0)
def K9(left:Int):List Tm->Bool × Int
 |[]=>(true,left)
 |t::r=>if t.valid=true then if left - t.size<0 then(false,left - t.size) else K9 (left - t.size) r else(false,left)
def Gl.bare(g:Gl):Bool:=g.pred.zero && decide ((g.args.length:Int)=0)
def Gl.step(called:Bool)(left:Int)(g:Gl):Option (Bool × Int):=
 if g.kind=1 then
  if(g.pred.ok && decide ((g.args.length:Int)=g.pred.arity) && decide (g.var=0))=true then match K9 left g.args with
   |(true,l)=>some (true,l)
   |_=>none
  else none
 else if g.kind=2 then if(g.bare && decide (0<=g.var) && decide (g.var<=1099511627776) && !called)=true then some (called,left) else none
 else if g.kind=3\/g.kind=4 then if(g.bare && decide (0<=g.var) && decide (g.var<=1099511627776))=true then some (called,left) else none
 else if g.kind=5 then if(g.bare && decide (g.var=0))=true then some (called,left) else none
 else none
def Gl.steps:Bool->Int->List Gl->Bool
 |_,_,[]=>true
 |called,left,g::r=>match g.step called left with
  |some (c,l)=>Gl.steps c l r
  |none=>false
def Fl.valid(f:Fl):Bool:=
 f.pred.ok && decide ((f.args.length:Int)=f.pred.arity) && match K9 131072 f.args with
  |(true,l)=>Gl.steps false l f.goals
  |_=>false

theorem Xb{t:Tm}(h:t.valid=true):t.size<=2000:=by
 unfold Tm.valid at h;simp only[Zg,Zw] at h;exact h.1
end Go.Am
namespace Go.Am
end Go.Am
namespace Go.Am
end Go.Am
namespace Go.Am
theorem Gl.pvs_len(l:List Gl):(Gl.pvs l).length=l.length:=by simp[Gl.pvs]
theorem Gl.pvs_get{l:List Gl}{i:Nat}{g:Gl}(h:l[i]? =some g):(Gl.pvs l)[i]? =some g.pv:=by simp[Gl.pvs,h]
end Go.Am
namespace Go.Am
end Go.Am
namespace Go.Am
end Go.Am
namespace Go.Am
mutual
def Tm.occ:Tm->List Int
 | .mk k n _ as=>if k=0 then[n] else Tm.occs as
def Tm.occs:List Tm->List Int
 |[]=>[]
 |t::r=>t.occ++Tm.occs r
end
theorem Tm.zxo(t:Tm):t.occ=if t.kind=0 then[t.n] else Tm.occs t.args:=by cases t;rfl
theorem Tm.zxu(x y:List Tm):Tm.occs (x++y)=Tm.occs x++Tm.occs y:=by
 induction x with
 |nil=>simp[Tm.occs]
 |cons t r ih=>simp[Tm.occs,ih,ZD]
theorem Tm.zxi{l:List Tm}{i:Nat}{t:Tm}(h:l[i]? =some t):Tm.occs (l.take (i+1))=Tm.occs (l.take i)++t.occ:=by
 obtain⟨h1,rfl⟩:=Zb.1 h;rw[List.take_succ_eq_append_getElem h1,Tm.zxu];simp[Tm.occs]
theorem Tm.occ_len:∀t:Tm,t.occ.length<=t.size:=by
 intro t
 induction t using Tm.zxd with
 |h t ih=>
  rw[Tm.zxo,Tm.size_eq];split
  ·simp
  ·have key:∀l:List Tm,(∀u∈l,u.occ.length<=u.size)->(Tm.occs l).length<=Tm.sizes l:=by
    intro l
    induction l with
    |nil=>intro _;simp[Tm.occs]
    |cons u r ih2=>
     intro hu;have h1:=hu u (by simp);have h2:=ih2 fun v hv=>hu v (by simp[hv]);simp only[Tm.occs,Tm.sizes,Zj];omega
   have:=key t.args ih;omega
end Go.Am
namespace Go.Am
def Gl.op(g:Gl):Bool:=decide (g.kind=2) || decide (g.kind=3) || decide (g.kind=4)
def Gl.next(calls:Int)(g:Gl):Int:=if g.kind=1 then calls+1 else calls
theorem Tm.zxm(l:List Tm):(Tm.occs l).length<=Tm.sizes l:=by
 induction l with
 |nil=>simp[Tm.occs]
 |cons x y ih=>have:=x.occ_len;simp only[Tm.occs,Tm.sizes,Zj];omega
end Go.Am

/- Heaps of which a part is known. -/
namespace Go.Am
theorem getN{l xs:Heap}{n:Nat}(h:l.length=n)(k:Nat):(l++xs)[n+k]? =xs[k]? :=by
 rw[<-h,Zp (by omega)]
 congr 1
 omega
theorem Xd{l xs:Heap}{n:Nat}(h:l.length=n):(l++xs)[n]? =xs[0]? :=getN h 0
theorem setN{l xs:Heap}{n:Nat}(h:l.length=n)(k:Nat)(x:AObj):(l++xs).set (n+k) x=l++xs.set k x:=by
 rw[<-h,zu _ _ (by omega)]
 congr 2
 omega
theorem Xe{l xs:Heap}{n:Nat}(h:l.length=n)(x:AObj):(l++xs).set n x=l++xs.set 0 x:=setN h 0 x
theorem Lw{l xs:Heap}{n:Nat}(h:l.length=n)(k:Nat):(l++xs).take (n+k)=l++xs.take k:=by
 rw[<-h,zs,Zq (by omega)]
 congr 2
 omega
theorem jk{n b:Nat}(k:Nat){fr:Fr}{base xs:Heap}(hb:base.length=b)(hn:n=b+k)(ho:(xs.take k).all (fun o=>o.refs.all (fun q=>decide (q<n)))=true)(hf:fr.all (fun x=>x.2.refsIn.all (fun q=>decide (q<n)))=true):collect n b fr (base++xs)=base++xs.take k:=by
 have h1:(base++xs).take n=base++xs.take k:=by rw[hn];exact Lw hb k
 have h2:((base++xs).take n).drop b=xs.take k:=by rw[h1,<-hb];exact zn
 unfold collect;rw[Zc (by rw[hf,h2,ho];rfl),h1]
theorem kb{n b:Nat}{fr:Fr}{hp:Heap}(h:hp.length=n):collect n b fr hp=hp:=qM h
variable{F:FuncId->Option AFn} {prim:FuncId->Option Yw}
theorem Yv{α:Type}(N:Nat)(inv:Nat->α->Prop)(sti:Nat->α->St){b:Nat}{keep:List Nat}{c:ACode}{st:St}{Q:AExit->St->Prop}(a0:α)(h0:inv 0 a0/\(⟨st.fr.keep keep,st.hp⟩:St)=sti 0 a0)
  (h1:∀i a,i<N->inv i a->W (sem F prim) (sloop F prim) b c (sti i a) (seqK (fun st'=>∃a',inv (i+1) a'/\(⟨st'.fr.keep keep,collect st.hp.length b (st'.fr.keep keep) st'.hp⟩:St)=sti (i+1) a') Q))
  (h2:∀a,inv N a->W (sem F prim) (sloop F prim) b c (sti N a) (seqK (fun _=>False) Q)):W (sem F prim) (sloop F prim) b (.loop keep c) st Q:=by
 refine Qn (fun n s=>∃i a,n=N - i/\i<=N/\inv i a/\s=sti i a) (n:=N) ⟨0,a0,rfl,Zd _,h0.1,h0.2⟩ ?_;rintro n s ⟨i,a,hn,hi,hinv,rfl⟩;by_cases h:i<N
 ·refine UR (h1 i a h hinv) fun e st' he=> ?_;cases e with
  |normal=>
   obtain⟨a',k1,k2⟩:=he;exact⟨N - (i+1),by omega,i+1,a',rfl,by omega,k1,k2⟩
  |exit j=>exact he
  |ret=>exact he
  |panic v=>exact he
 ·obtain rfl:i=N:=by omega
  refine UR (h2 a hinv) fun e st' he=> ?_;cases e with
  |normal=>exact he.elim
  |exit j=>exact he
  |ret=>exact he
  |panic v=>exact he
theorem U3{str ok:Bool}{sh:Sh}{zero:AV}{hp:Heap}{r:Nat}{s:Sh}{k v:PV}{es:List (PV × PV)}(ho:hp[r]? =some (.map sh es))(hf:afind str k es=some (some v)):yf str sh zero ok hp [.map r,.pv s k]=some (bif ok then .tuple [.pv sh v,.pv none (.bool true)] else .pv sh v):=by
 simp[yf,ho,hf]
theorem U4{str ok:Bool}{sh:Sh}{zero:AV}{hp:Heap}{r:Nat}{s:Sh}{k:PV}{es:List (PV × PV)}(ho:hp[r]? =some (.map sh es))(hf:afind str k es=some none):yf str sh zero ok hp [.map r,.pv s k]=some (bif ok then .tuple [zero,.pv none (.bool false)] else zero):=by
 simp[yf,ho,hf]
theorem kd{str:Bool}{sh:Sh}{hp:Heap}{r:Nat}{s:Sh}{k p:PV}{es es':List (PV × PV)}(ho:hp[r]? =some (.map sh es))(hf:aput str k p es=some es'):XE str sh hp [.map r,.pv s k,.pv sh p]=some (.undef,hp.set r (.map sh es')):=by
 have h:AV.freeze deep (.pv sh p) hp=some (p,hp):=rfl;simp[XE,AV.shp,h,ho,hf]
end Go.Am

/- Sorting: insertion, merging, and that both come to the same. -/
namespace Go.Am
section
variable{α:Type} (c:α->α->Int)
def mrg:List α->List α->List α
 |[],B=>B
 |a::A,B=>go a A (mrg A) B
where
 go (a:α) (A:List α) (rest:List α->List α):List α->List α
 |[]=>a::A
 |b::B=>if c b a<0 then b::go a A rest B else a::rest (b::B)
theorem U5:∀A:List α,mrg c A []=A
 |[]=>rfl
 |_::_=>rfl
theorem U6(a:α)(A:List α)(b:α)(B:List α):mrg c (a::A) (b::B)=if c b a<0 then b::mrg c (a::A) B else a::mrg c A (b::B):=rfl
def Srt(l:List α):Prop:=l.Pairwise fun x y=>c x y<=0

variable{c}
theorem Srt.tail{a:α}{l:List α}(h:Srt c (a::l)):Srt c l:=(List.pairwise_cons.1 h).2
theorem Srt.head{a:α}{l:List α}(h:Srt c (a::l)):∀x∈l,c a x<=0:=(List.pairwise_cons.1 h).1
theorem U7:∀(A B:List α),(mrg c A B).Perm (A++B)
 |[],B=>by simp[mrg]
 |a::A,B=>by
  induction B with
  |nil=>simp[U5]
  |cons b B ih=>
   rw[U6];split
   ·exact(List.Perm.cons b ih).trans (List.perm_middle (l₁:=a::A) (l₂:=B) (a:=b)).symm
   ·exact List.Perm.cons a (U7 A (b::B))
def insC(c:α->α->Int)(t:α):List α->List α
 |[]=>[t]
 |x::l=>if c t x<0 then t::x::l else x::insC c t l
def isort(c:α->α->Int)(l:List α):List α:=l.foldl (fun s t=>insC c t s) []
theorem U8(t:α):∀l:List α,insC c t l=mrg c l [t]
 |[]=>rfl
 |x::l=>by
  rw[U6,insC];split
  ·rw[U5]
  ·rw[U8 t l]
theorem Lx(l:List α):(isort c l).Perm l:=by
 have:∀(l A:List α),(l.foldl (fun s t=>insC c t s) A).Perm (A++l):=by
  intro l
  induction l with
  |nil=>intro A;simp
  |cons t l ih=>
   intro A;refine(ih _).trans ?_;show(insC c t A++l).Perm _;rw[U8];refine((U7 A [t]).append_right l).trans ?_;simp
 simpa[isort] using this l []
theorem ke(l:List α):(isort c l).length=l.length:=(Lx l).length_eq
end
end Go.Am
namespace Go.Am
end Go.Am
namespace Go.Am
section
variable{α:Type} {c:α->α->Int}
inductive Blk(c:α->α->Int)(n:Nat):List α->List α->Prop
 |last (x:List α) (h:x.length<=n):Blk c n x (isort c x)
 |cons (x r d:List α) (h:x.length=n) (k:Blk c n r d):Blk c n (x++r) (isort c x++d)
inductive Full(c:α->α->Int)(n:Nat):List α->List α->Prop
 |nil:Full c n [] []
 |snoc (x r d:List α) (h:x.length=n) (k:Full c n r d):Full c n (r++x) (d++isort c x)
theorem Full.blk{n:Nat}{r d r' d':List α}(h:Full c n r d)(k:Blk c n r' d'):Blk c n (r++r') (d++d'):=by
 induction h generalizing r' d' with
 |nil=>exact k
 |snoc x r d hx _ ih=>
  have:=ih (.cons x r' d' hx k);simpa using this
theorem Full.length{n:Nat}{r d:List α}(h:Full c n r d):d.length=r.length:=by
 induction h with
 |nil=>rfl
 |snoc x r d hx _ ih=>simp[ih,ke]
theorem Blk.length{n:Nat}{r d:List α}(h:Blk c n r d):d.length=r.length:=by
 induction h with
 |last x h=>exact ke x
 |cons x r d hx _ ih=>simp[ih,ke]
theorem Blk.two{n:Nat}{r d:List α}(h:Blk c n r d)(hn:0<n)(hr:n<r.length):∃x y r2 d2,r=x++y++r2/\d=isort c x++isort c y++d2/\x.length=n/\y.length<=n/\0<y.length/\Blk c n r2 d2/\(y.length<n->r2=[]):=by
 cases h with
 |last x h=>omega
 |cons x r1 d1 hx k=>
  cases k with
  |last _ hy=>exact⟨x,r1,[],[],by simp,by simp,hx,hy,by simp at hr;omega,.last [] (by simp),fun _=>rfl⟩
  |cons y r2 d2 hy k=>exact⟨x,y,r2,d2,by simp,by simp,hx,by omega,by omega,k,fun h=>by omega⟩
end
end Go.Am

/- Terms out of values, and comparing by what they stand for. -/
namespace Go.Am
theorem Tm.zxC:∀{a b:Tm},a.pv=b.pv->a=b:=by
 intro a
 induction a using Tm.zxd with
 |h a ih=>
  intro b hab;have lists:∀(l r:List Tm),(∀t∈l,∀{b:Tm},t.pv=b.pv->t=b)->Tm.pvs l=Tm.pvs r->l=r:=by
   intro l
   induction l with
   |nil=>intro r _ h;cases r with
    |nil=>rfl
    |cons y r=>simp[Tm.pvs] at h
   |cons x l ihl=>
    intro r hx h;cases r with
    |nil=>simp[Tm.pvs] at h
    |cons y r=>
     simp only[Tm.pvs,List.cons.injEq] at h;rw[hx x (by simp) h.1,ihl r (fun t ht=>hx t (by simp[ht])) h.2]
  rw[Tm.zxB,Tm.zxB] at hab;simp only[PV.agg.injEq,List.cons.injEq,Prod.mk.injEq,PV.int.injEq,PV.str.injEq,PV.sl.injEq,true_and,and_true] at hab;exact Tm.ext hab.1 hab.2.1 hab.2.2.1 (lists _ _ ih hab.2.2.2)
open Classical in
noncomputable def tmOf(p:PV):Tm:=if h:∃t:Tm,p=t.pv then h.choose else .mk 0 0 [] []
theorem Ly(t:Tm):tmOf t.pv=t:=by
 have h:∃u:Tm,t.pv=u.pv:=⟨t,rfl⟩;unfold tmOf;rw[dif_pos h];exact(Tm.zxC h.choose_spec).symm
noncomputable def onPV(c:Tm->Tm->Int)(p q:PV):Int:=c (tmOf p) (tmOf q)
theorem insC_pvs(c:Tm->Tm->Int)(t:Tm):∀l:List Tm,insC (onPV c) t.pv (Tm.pvs l)=Tm.pvs (insC c t l)
 |[]=>rfl
 |x::l=>by
  simp only[Tm.pvs,insC,onPV,Ly];split
  ·rfl
  ·simp only[Tm.pvs];rw[insC_pvs c t l]
end Go.Am

/- What a law is given, as values without references. -/
namespace Go.Am
variable{P:Program} {H:Type} {enc:TypeId × Value->H} {w:World} {I:Nat->Prop}

theorem jl{α β:Type}{g:α->Option β}:∀{l:List α} {xs:List β},l.mapM g=some xs->l.length=xs.length/\∀(i:Nat) (a:α) (x:β),l[i]? =some a->xs[i]? =some x->g a=some x
 |[],xs,h=>by
  simp at h;subst h;exact⟨rfl,fun i a x h=>by simp at h⟩
 |a::r,xs,h=>by
  rw[List.mapM_cons] at h;cases ha:g a with
  |none=>rw[ha] at h;cases h
  |some y=>
   rw[ha] at h;cases hr:r.mapM g with
   |none=>rw[hr] at h;cases h
   |some ys=>
    rw[hr] at h;cases h;obtain⟨h1,h2⟩:=jl hr;refine⟨by simp[h1],fun i b x hb hx=> ?_⟩;cases i with
    |zero=>simp at hb hx;subst hb;subst hx;exact ha
    |succ i=>exact h2 i b x (by simpa using hb) (by simpa using hx)

def yN(sh:Sh)(cs:List Value):Value:=
 match sh with
 |none=>cs.headD .nilIface
 |some _=>.agg cs.toArray

def QX(P:Program)(n:Nat):Nat->List Field->Bool
 |o,[]=>decide (o=n)
 |o,f::r=>decide (f.offset=o) && okT P f.type && QX P n (o+(shOf P f.type).size) r
def xj(P:Program)(g:TypeId->DataW H->Option PV):List Field->List (DataW H)->Option (List (Sh × PV))
 |[],[]=>some []
 |f::fs,d::ds=>match g f.type d with
  |none=>none
  |some p=>match xj P g fs ds with
   |some l=>some ((shOf P f.type,p)::l)
   |none=>none
 |_,_=>none
def xk(g:DataW H->Option PV):List (DataW H)->Option (List PV)
 |[]=>some []
 |d::ds=>match g d with
  |none=>none
  |some p=>match xk g ds with
   |some l=>some (p::l)
   |none=>none
def XK(P:Program):Nat->TypeId->DataW H->Option PV
 |0,_,_=>none
 |n+1,t,d=>match P.underlying t,d with
  |some .bool,.lit (.bool b)=>some (.bool b)
  |some (.int k),.lit (.int k' n)=>if k'=k/\(Lit.int k n).wf=true then some (.int k n) else none
  |some .string,.lit (.string l)=>some (.str l)
  |some (.slice e),.nil=>some (.sl (shOf P e) [])
  |some (.slice e),.slice es _=>if okT P e=true then match xk (XK P n e) es with
    |some l=>some (.sl (shOf P e) l)
    |none=>none
   else none
  |some (.struct fs),.agg parts=>if QX P (P.cellsOf t) 0 fs.toList=true then match xj P (XK P n) fs.toList parts with
    |some l=>some (.agg l)
    |none=>none
   else none
  |_,_=>none

theorem U9{t:TypeId}(h:okT P t=true):P.cellsOf t=(shOf P t).size/\0<P.cellsOf t:=by
 unfold okT at h;split at h
 ·rename_i i _ hi _;simp only[Zg,beq_iff_eq,Zw] at h;have:P.cellsOf t=i.size:=by simp[Program.cellsOf,hi]
  omega
 ·cases h

theorem ua{base:Nat}{a:Addr}{n:Nat}{l:List Value}(h:w.cells? base a n=some l)(hn:0<n):a.spot=none/\∃cs t fr,w.heap[a.block]? =some (.cells cs t fr)/\l=(cs.toList.drop a.off).take n/\l.length=n:=by
 unfold World.cells? at h;split at h
 ·obtain⟨h1,h2⟩:=jl h;rw[List.length_range] at h1;have rd:∀i,i<n->∃v,l[i]? =some v/\w.cell? (a.add i)=some v:=by
   intro i hi;have hl:l[i]? =some l[i]:=Zf (by omega);exact⟨l[i],hl,h2 i i l[i] (by simp[hi]) hl⟩
  obtain⟨v0,hv0,hc0⟩:=rd 0 hn;unfold World.cell? at hc0;split at hc0
  ·rename_i cs t fr hb;split at hc0
   ·cases hc0
   ·rename_i hsp;have hb':w.heap[a.block]? =some (.cells cs t fr):=hb;have hsp':a.spot=none:=by simpa[Addr.add] using hsp
    refine⟨hsp',cs,t,fr,hb',?_,h1.symm⟩;apply zz;intro i;by_cases hi:i<n
    ·obtain⟨v,e1,e2⟩:=rd i hi;rw[e1];have ea:a.add i=⟨a.block,a.off+i,none⟩:=by
      unfold Addr.add;split
      ·rename_i h0;subst h0;cases a;simp_all
      ·rfl
     rw[ea] at e2;simp only[World.cell?,hb',zH,Z4,if_false] at e2;rw[zD hi,ZI];simpa using e2.symm
    ·rw[zN (by omega),zN (by simp;omega)]
  ·cases hc0
 ·cases h

theorem ub{g:TypeId->List Value->Option (DataW H × List MemPlace)}{f:TypeId->DataW H->Option PV}
  (hg:∀t cs d ps p,g t cs=some (d,ps)->okT P t=true->f t d=some p->PR w I p (yN (shOf P t) cs)/\vshp (yN (shOf P t) cs)=shOf P t/\(yN (shOf P t) cs).cells.toList=cs)(cs:List Value):
  ∀(fs:List Field) (o:Nat) (xs:List (DataW H × List MemPlace)) (l:List (Sh × PV)),QX P cs.length o fs=true->fs.mapM (fun fd=>g fd.type ((cs.drop fd.offset).take (P.cellsOf fd.type)))=some xs->xj P f fs (xs.map (·.1))=some l->
  ∃vs:List Value,l.length=vs.length/\(∀(i:Nat) (x:Sh × PV) (v:Value),l[i]? =some x->vs[i]? =some v->vshp v=x.1)/\(∀(i:Nat) (x:Sh × PV) (v:Value),l[i]? =some x->vs[i]? =some v->PR w I x.2 v)/\cellsOf vs=cs.drop o
 |[],o,xs,l,hok,hm,hp=>by
  simp[QX] at hok;simp at hm;subst hm;simp[xj] at hp;subst hp;exact⟨[],rfl,fun i x v h=>by simp at h,fun i x v h=>by simp at h,by simp[cellsOf,hok]⟩
 |fd::r,o,xs,l,hok,hm,hp=>by
  simp only[QX,Zg,Zw] at hok;obtain⟨⟨h1,h2⟩,h3⟩:=hok;rw[List.mapM_cons] at hm;cases ha:g fd.type ((cs.drop fd.offset).take (P.cellsOf fd.type)) with
  |none=>rw[ha] at hm;cases hm
  |some y=>
   rw[ha] at hm;cases hr:r.mapM (fun fd=>g fd.type ((cs.drop fd.offset).take (P.cellsOf fd.type))) with
   |none=>rw[hr] at hm;cases hm
   |some ys=>
    rw[hr] at hm;cases hm;simp only[Z3,xj] at hp;split at hp
    ·cases hp
    ·rename_i p hfp;split at hp
     ·rename_i l' hl';cases hp;obtain⟨k1,k2,k3⟩:=hg _ _ y.1 y.2 p ha h2 hfp;obtain⟨vs,e1,e2,e3,e4⟩:=ub hg cs r _ ys l' h3 hr hl';refine⟨yN (shOf P fd.type) ((cs.drop fd.offset).take (P.cellsOf fd.type))::vs,by simp[e1],?_,?_,?_⟩
      ·intro i x v hx hv;cases i with
       |zero=>simp at hx hv;subst hx;subst hv;exact k2
       |succ i=>exact e2 i x v (by simpa using hx) (by simpa using hv)
      ·intro i x v hx hv;cases i with
       |zero=>simp at hx hv;subst hx;subst hv;exact k1
       |succ i=>exact e3 i x v (by simpa using hx) (by simpa using hv)
      ·simp only[cellsOf,List.flatMap_cons,k3];have e4':List.flatMap (fun v=>v.cells.toList) vs=cs.drop (o+(shOf P fd.type).size):=e4;rw[e4',h1,(U9 h2).1,<-ZT,Z6]
     ·cases hp

theorem uc{f:DataW H->Option PV}{g:Nat->Option (DataW H × List MemPlace)}{R:Nat->PV->Prop}
  (hg:∀i d ps p,g i=some (d,ps)->f d=some p->R i p):
  ∀(is:List Nat) (xs:List (DataW H × List MemPlace)) (l:List PV),is.mapM g=some xs->xk f (xs.map (·.1))=some l->
  l.length=is.length/\∀(k i:Nat) (p:PV),is[k]? =some i->l[k]? =some p->R i p
 |[],xs,l,hm,hp=>by
  simp at hm;subst hm;simp[xk] at hp;subst hp;exact⟨rfl,fun k i p h=>by simp at h⟩
 |i::r,xs,l,hm,hp=>by
  rw[List.mapM_cons] at hm;cases ha:g i with
  |none=>rw[ha] at hm;cases hm
  |some y=>
   rw[ha] at hm;cases hr:r.mapM g with
   |none=>rw[hr] at hm;cases hm
   |some ys=>
    rw[hr] at hm;cases hm;simp only[Z3,xk] at hp;split at hp
    ·cases hp
    ·rename_i p hfp;split at hp
     ·rename_i l' hl';cases hp;obtain⟨e1,e2⟩:=uc hg r ys l' hr hl';refine⟨by simp[e1],fun k j q hk hq=> ?_⟩;cases k with
      |zero=>simp at hk hq;subst hk;subst hq;exact hg i y.1 y.2 p ha hfp
      |succ k=>exact e2 k j q (by simpa using hk) (by simpa using hq)
     ·cases hp

theorem ud(f:Nat->Value)(l:List Value)(o n:Nat):∀m:Nat,(∀i,i<m->(f i).cells.toList=(l.drop (o+i*n)).take n)->cellsOf ((List.range m).map f)=(l.drop o).take (m*n)
 |0,_=>by simp[cellsOf]
 |m+1,h=>by
  have ih:=ud f l o n m fun i hi=>h i (by omega);unfold cellsOf at ih ⊢;rw[List.range_succ,zL,List.flatMap_append,ih];simp only[Z3,List.map_nil,List.flatMap_cons,List.flatMap_nil,ZC];rw[h m (by omega),Zt,Nat.one_mul,List.take_add,ZT]

theorem Lz(hI:∀b,I b){base:Nat}{spare:Nat->Bool}{held:Bool}:∀(fuel:Nat) (n:Nat) (t:TypeId) (cs:List Value) (d:DataW H) (ps:List MemPlace) (p:PV),DataW.trod enc P w base spare held fuel t cs=some (d,ps)->okT P t=true->XK P n t d=some p->
  PR w I p (yN (shOf P t) cs)/\vshp (yN (shOf P t) cs)=shOf P t/\(yN (shOf P t) cs).cells.toList=cs:=by
 intro fuel
 induction fuel with
 |zero=>intro n t cs d ps p h;cases h
 |succ fuel ih=>
  intro n t cs d ps p h hok hp;cases n with
  |zero=>cases hp
  |succ n=>
  simp only[XK] at hp;cases hu:P.underlying t with
  |none=>rw[hu] at hp;cases hp
  |some u=>
   rw[hu] at hp;unfold DataW.trod at h;rw[hu] at h;cases u with
   |bool=>
    have hs:shOf P t=none:=by unfold shOf;rw[hu]
    rw[hs];simp only at h hp;split at h <;> first|contradiction|(exfalso;clear ih;simp_all;done)|skip
    ·cases h;cases hp;exact⟨.bool _,rfl,rfl⟩
   |int k=>
    have hs:shOf P t=none:=by unfold shOf;rw[hu]
    rw[hs];simp only at h hp;split at h <;> first|contradiction|(exfalso;clear ih;simp_all;done)|skip
    ·rename_i e;split at h
     ·rename_i e2;obtain⟨e2,e3⟩:=e2;subst e2;cases h;cases e;simp only[e3,and_self,if_true] at hp;cases hp;exact⟨.int _ _,rfl,rfl⟩
     ·cases h
   |string=>
    have hs:shOf P t=none:=by unfold shOf;rw[hu]
    rw[hs];simp only at h hp;split at h <;> first|contradiction|(exfalso;clear ih;simp_all;done)|skip
    ·split at h
     ·cases h;cases hp;exact⟨.str _,rfl,rfl⟩
     ·cases h
   |slice e=>
    have hs:shOf P t=none:=by unfold shOf;rw[hu]
    rw[hs];simp only at h hp;split at h <;> first|contradiction|(exfalso;clear ih;simp_all;done)|skip
    ·cases h;cases hp;exact⟨.nilsl _ _ _,rfl,rfl⟩
    ·rename_i e' a len cap hx;cases hx;split at h
     ·rename_i hb;obtain⟨hb1,hb2,hb3⟩:=hb;rw[zZ] at h;obtain⟨elems,hm,h⟩:=h;rw[Z1] at h;obtain⟨rest,hr,h⟩:=h;cases h;simp only at hp;split at hp
      ·rename_i hoe;split at hp
       ·rename_i l hl;cases hp;obtain⟨hc1,hc2⟩:=U9 hoe;obtain⟨k1,k2⟩:=uc (R:=fun i p=>PR w I p (yN (shOf P e) (((w.cells? base (a.add (i*P.cellsOf e)) (P.cellsOf e))).getD []))/\vshp (yN (shOf P e) (((w.cells? base (a.add (i*P.cellsOf e)) (P.cellsOf e))).getD []))=shOf P e/\(yN (shOf P e) (((w.cells? base (a.add (i*P.cellsOf e)) (P.cellsOf e))).getD [])).cells.toList=((w.cells? base (a.add (i*P.cellsOf e)) (P.cellsOf e))).getD []) (fun i d ps p hg hf=>by
         rw[zZ] at hg;obtain⟨c,hc,hg⟩:=hg;rw[hc];exact ih n e c d ps p hg hoe hf) _ _ _ hm hl
        rw[List.length_range] at k1;refine⟨?_,rfl,rfl⟩;have hel:elems.length=len:=by have:=(jl hm).1;simpa using this.symm
        cases len with
        |zero=>
         have:l=[]:=List.length_eq_zero_iff.1 (by omega);subst this;exact .nilsl _ _ _
        |succ m=>
         have rd:∀i,i<m+1->∃c,w.cells? base (a.add (i*P.cellsOf e)) (P.cellsOf e)=some c:=fun i hi=>by
          have hx:elems[i]? =some elems[i]:=Zf (by omega);have:=(jl hm).2 i i elems[i] (by simp[hi]) hx;rw[zZ] at this;obtain⟨c,hc,_⟩:=this;exact⟨c,hc⟩
         obtain⟨c0,hc0⟩:=rd 0 (by omega);obtain⟨s0,cs',t',fr',hblk,_,_⟩:=ua hc0 hc2;have ea0:a.add (0*P.cellsOf e)=a:=by simp[Addr.add]
         rw[ea0] at s0 hblk;have seg:∀i,i<m+1->(w.cells? base (a.add (i*P.cellsOf e)) (P.cellsOf e)).getD []=(cs'.toList.drop (a.off+i*P.cellsOf e)).take (P.cellsOf e)/\((w.cells? base (a.add (i*P.cellsOf e)) (P.cellsOf e)).getD []).length=P.cellsOf e:=fun i hi=>by
          obtain⟨c,hc⟩:=rd i hi;obtain⟨_,cs2,t2,fr2,hb2,e2,e3⟩:=ua hc hc2;have eo:(a.add (i*P.cellsOf e)).off=a.off+i*P.cellsOf e:=by unfold Addr.add;split <;> simp_all
          have eb:(a.add (i*P.cellsOf e)).block=a.block:=by unfold Addr.add;split <;> rfl
          rw[eb,hblk] at hb2;cases hb2;rw[hc,Option.getD_some];rw[eo] at e2;exact⟨e2,e3⟩
         have ha:a=⟨a.block,a.off,none⟩:=by cases a;simp_all
         have hll:l.length=m+1:=k1;rw[ha];have hgoal:PR w I (.sl (shOf P e) l) (.slice (some ⟨a.block,a.off,none⟩) l.length cap):=by
          refine .sl _ _ a.block a.off cap cs' t' fr' ((List.range (m+1)).map fun i=>yN (shOf P e) ((w.cells? base (a.add (i*P.cellsOf e)) (P.cellsOf e)).getD [])) (by simp[hll]) (hI _) hblk ?_ ?_ ?_ (by omega)
          ·intro i p v hp hv;have hi:i<m+1:=by rw[<-hll];exact(Zb.1 hp).1
           simp[hi] at hv;subst hv;exact(k2 i i p (by simp[hi]) hp).2.1
          ·intro i p v hp hv;have hi:i<m+1:=by rw[<-hll];exact(Zb.1 hp).1
           simp[hi] at hv;subst hv;exact(k2 i i p (by simp[hi]) hp).1
          ·have cl:∀i,i<m+1->(yN (shOf P e) ((w.cells? base (a.add (i*P.cellsOf e)) (P.cellsOf e)).getD [])).cells.toList=(cs'.toList.drop (a.off+i*P.cellsOf e)).take (P.cellsOf e):=fun i hi=>by
            rw[<-(seg i hi).1];exact(k2 i i l[i] (by simp[hi]) (Zf (by omega))).2.2
           rw[hll,<-hc1];exact ud (fun i=>yN (shOf P e) ((w.cells? base (a.add (i*P.cellsOf e)) (P.cellsOf e)).getD [])) cs'.toList a.off (P.cellsOf e) (m+1) cl
         rw[hll] at hgoal;exact hgoal
       ·cases hp
      ·cases hp
     ·cases h
   |struct fs=>
    have hs:shOf P t=some (P.cellsOf t):=by unfold shOf;rw[hu]
    rw[hs];simp only at h hp;split at h <;> first|contradiction|(exfalso;clear ih;simp_all;done)|skip
    ·rename_i hlen;rw[Z1] at h;obtain⟨xs,hm,h⟩:=h;cases h;simp only at hp;split at hp
     ·rename_i hfo;split at hp
      ·rename_i l hl;cases hp;rw[<-hlen] at hfo;obtain⟨vs,e1,e2,e3,e4⟩:=ub (w:=w) (I:=I) (fun t cs d ps p hg ho hf=>ih n t cs d ps p hg ho hf) cs fs.toList 0 xs l hfo hm hl;rw[Z2] at e4;refine⟨?_,?_,?_⟩
       ·show PR w I (.agg l) (.agg cs.toArray);rw[<-e4];exact .agg l vs e1 e2 e3
       ·show some cs.toArray.size=_;simp[hlen]
       ·simp[yN,Value.cells]
      ·cases hp
     ·cases hp
   |_=>cases hp

theorem LA{base:Nat}{spare:Nat->Bool}{held:Bool}{n:Nat}{t:TypeId}{v:Value}{d:DataW H}{ps:List MemPlace}{p:PV}(h:DataW.Trod enc P w base spare held t v d ps)(hok:okT P t=true)(hp:XK P n t d=some p)(hv:vshp v=shOf P t):
  AR w (noX (P:=P)) noμ [] (.pv (shOf P t) p) v:=by
 obtain⟨fuel,h⟩:=h;have hI:∀b,Im (noX (P:=P)) noμ [] b:=fun b=>⟨fun h=>h,fun i hi=>by simp[live] at hi⟩;obtain⟨h1,h2,h3⟩:=Lz hI fuel n t _ d ps p h hok hp;have:yN (shOf P t) v.cells.toList=v:=by
  rw[<-hv];cases v <;> simp[vshp,yN,Value.cells]
 rw[this] at h1;exact .pv _ _ _ hv h1
theorem LB{W:World}{base:Nat}{t:TypeId}{v:Value}(h:Value.okWide P W .any base t v):vshp v=shOf P t:=by
 unfold Value.okWide at h;unfold shOf;cases hu:P.underlying t with
 |none=>
  rw[hu] at h;cases v with
  |agg cs=>simp[Cell.okWide,Cell.ok,hu] at h
  |_=>rfl
 |some u=>
  rw[hu] at h;cases u with
  |struct fs=>obtain⟨cs,rfl,hc,_⟩:=h;simp[vshp,hc]
  |array n e=>obtain⟨cs,rfl,hc,_⟩:=h;simp[vshp,hc]
  |_=>
   cases v with
   |agg cs=>simp[Cell.okWide,Cell.ok,hu] at h
   |_=>rfl
end Go.Am

/- Every datum of plain types is a value; terms. -/
namespace Go.Am
variable{P:Program} {H:Type} {enc:TypeId × Value->H} {w:World}

def ue(P:Program)(ts:List TypeId)(t:TypeId):Bool:=
 okT P t && match P.underlying t with
 |some .bool=>true
 |some (.int _)=>true
 |some .string=>true
 |some (.slice e)=>ts.contains e && okT P e
 |some (.struct fs)=>fs.toList.all (fun f=>ts.contains f.type) && QX P (P.cellsOf t) 0 fs.toList
 |_=>false
def uf(P:Program)(ts:List TypeId):Bool:=ts.all (ue P ts)

theorem ug{f:DataW H->Option PV}{g:Nat->Option (DataW H × List MemPlace)}(hg:∀i d ps,g i=some (d,ps)->∃p,f d=some p):∀(is:List Nat) (xs:List (DataW H × List MemPlace)),is.mapM g=some xs->∃l,xk f (xs.map (·.1))=some l
 |[],xs,h=>by simp at h;subst h;exact⟨[],rfl⟩
 |i::r,xs,h=>by
  rw[List.mapM_cons] at h;cases ha:g i with
  |none=>rw[ha] at h;cases h
  |some y=>
   rw[ha] at h;cases hr:r.mapM g with
   |none=>rw[hr] at h;cases h
   |some ys=>
    rw[hr] at h;cases h;obtain⟨l,hl⟩:=ug hg r ys hr;obtain⟨p,hp⟩:=hg i y.1 y.2 ha;exact⟨p::l,by simp[xk,hp,hl]⟩
theorem uh{f:TypeId->DataW H->Option PV}{g:Field->Option (DataW H × List MemPlace)}:∀(fs:List Field) (xs:List (DataW H × List MemPlace)),(∀fd∈fs,∀d ps,g fd=some (d,ps)->∃p,f fd.type d=some p)->fs.mapM g=some xs->∃l,xj P f fs (xs.map (·.1))=some l
 |[],xs,_,h=>by simp at h;subst h;exact⟨[],rfl⟩
 |fd::r,xs,hg,h=>by
  rw[List.mapM_cons] at h;cases ha:g fd with
  |none=>rw[ha] at h;cases h
  |some y=>
   rw[ha] at h;cases hr:r.mapM g with
   |none=>rw[hr] at h;cases h
   |some ys=>
    rw[hr] at h;cases h;obtain⟨l,hl⟩:=uh r ys (fun fd h=>hg fd (by simp[h])) hr;obtain⟨p,hp⟩:=hg fd (by simp) y.1 y.2 ha;exact⟨(shOf P fd.type,p)::l,by simp[xj,hp,hl]⟩

theorem LC{ts:List TypeId}(hc:uf P ts=true){base:Nat}{spare:Nat->Bool}{held:Bool}:∀(fuel:Nat) (t:TypeId) (cs:List Value) (d:DataW H) (ps:List MemPlace),t∈ts->DataW.trod enc P w base spare held fuel t cs=some (d,ps)->∃p,XK P fuel t d=some p:=by
 intro fuel
 induction fuel with
 |zero=>intro t cs d ps _ h;cases h
 |succ fuel ih=>
  intro t cs d ps ht h;have hp:=Zx.1 hc t ht;unfold ue at hp;rw[Zg] at hp;have hp:=hp.2;unfold DataW.trod at h;unfold XK;cases hu:P.underlying t with
  |none=>rw[hu] at hp;cases hp
  |some u=>
   rw[hu] at hp h;cases u with
   |bool=>
    simp only at h;split at h <;> first|contradiction|(exfalso;clear ih;simp_all;done)|skip
    ·cases h;exact⟨_,rfl⟩
   |int k=>
    simp only at h;split at h <;> first|contradiction|(exfalso;clear ih;simp_all;done)|skip
    ·rename_i e;split at h
     ·rename_i e2;obtain⟨e2,e3⟩:=e2;subst e2;cases h;cases e;exact⟨_,by simp[e3];rfl⟩
     ·cases h
   |string=>
    simp only at h;split at h <;> first|contradiction|(exfalso;clear ih;simp_all;done)|skip
    ·split at h
     ·cases h;exact⟨_,rfl⟩
     ·cases h
   |slice e=>
    simp only[Zg,List.contains_iff_mem] at hp;simp only at h;split at h <;> first|contradiction|(exfalso;clear ih;simp_all;done)|skip
    ·cases h;exact⟨_,rfl⟩
    ·rename_i e' a len cap hx;cases hx;split at h
     ·rw[zZ] at h;obtain⟨elems,hm,h⟩:=h;rw[Z1] at h;obtain⟨rest,hr,h⟩:=h;cases h;obtain⟨l,hl⟩:=ug (f:=XK P fuel e) (fun i d ps hg=>by
       rw[zZ] at hg;obtain⟨c,_,hg⟩:=hg;exact ih e c d ps hp.1 hg) _ _ hm
      exact⟨_,by simp[hp.2,hl];rfl⟩
     ·cases h
   |struct fs=>
    simp only[Zg] at hp;simp only at h;split at h <;> first|contradiction|(exfalso;clear ih;simp_all;done)|skip
    ·rw[Z1] at h;obtain⟨xs,hm,h⟩:=h;cases h;obtain⟨l,hl⟩:=uh (P:=P) (f:=XK P fuel) fs.toList xs (fun fd hfd d ps hg=>by
      have:=Zx.1 hp.1 fd hfd;rw[List.contains_iff_mem] at this;exact ih fd.type _ d ps this hg) hm
     exact⟨_,by simp[hp.2,hl];rfl⟩
   |_=>cases hp

structure BulkLaws(bulk:DataW H->Nat)(all:List (DataW H)->Nat):Prop where
 nil:all []=0
 cons:∀d r,all (d::r)=bulk d+all r
 slice:∀e s,bulk (.slice e s)=all e+all s+1
 agg:∀l,bulk (.agg l)=all l+1
 string:∀l,bulk (.lit (.string l))=l.length+1

structure TermTy(P:Program)(tA tT:TypeId):Prop where
 a:P.underlying tA=some (.slice tT)
 t:∃fs tI tL tS,P.underlying tT=some (.struct fs)/\fs.toList.map (·.type)=[tI,tL,tS,tA]/\P.underlying tI=some (.int .i64)/\P.underlying tL=some (.int .i64)/\P.underlying tS=some .string/\shOf P tT=some 4/\shOf P tA=none/\shOf P tI=none/\shOf P tL=none/\shOf P tS=none

def QY(n:Int):Prop:= -9223372036854775808<=n/\n<=9223372036854775807
mutual
def Tm.rng:Tm->Prop
 | .mk k n _ as=>QY k/\QY n/\Tm.rngs as
def Tm.rngs:List Tm->Prop
 |[]=>True
 |t::r=>t.rng/\Tm.rngs r
end
theorem ui{n:Int}(h:(Lit.int .i64 n).wf=true):QY n:=by
 simpa[Lit.wf,IntKind.min,IntKind.max,IntKind.signed,IntKind.bits,QY] using h

end Go.Am

/- Data by their types: what a value of a plain type looks like, and how much it holds. -/
namespace Go.Am
variable{P:Program} {H:Type} {enc:TypeId × Value->H} {w:World}

mutual
def PV.sz:PV->Nat
 | .str s=>s.length+1
 | .agg l=>PV.szc l+1
 | .sl _ es=>PV.szs es+1
 |_=>1
def PV.szc:List (Sh × PV)->Nat
 |[]=>0
 |x::r=>PV.sz x.2+PV.szc r
def PV.szs:List PV->Nat
 |[]=>0
 |x::r=>PV.sz x+PV.szs r
end
def qN(P:Program)(f:TypeId->PV->Prop):List Field->List (Sh × PV)->Prop
 |[],[]=>True
 |fd::r,x::l=>x.1=shOf P fd.type/\f fd.type x.2/\qN P f r l
 |_,_=>False
def wt(P:Program):Nat->TypeId->PV->Prop
 |0,_,_=>False
 |n+1,t,p=>match P.underlying t with
  |some .bool=>∃b,p=.bool b
  |some (.int k)=>∃x,p=.int k x/\(Lit.int k x).wf=true
  |some .string=>∃s,p=.str s
  |some (.slice e)=>∃es,p=.sl (shOf P e) es/\∀x∈es,wt P n e x
  |some (.struct fs)=>∃l,p=.agg l/\qN P (wt P n) fs.toList l
  |_=>False

structure BulkLaws2(bulk:DataW H->Nat)(all:List (DataW H)->Nat):Prop extends BulkLaws bulk all where
 one:∀d,1<=bulk d

theorem uj{bulk:DataW H->Nat}{all:List (DataW H)->Nat}(hb:BulkLaws2 bulk all){f:DataW H->Option PV}{R:PV->Prop}(hf:∀d p,f d=some p->R p/\p.sz<=bulk d):∀(ds:List (DataW H)) (l:List PV),xk f ds=some l->(∀x∈l,R x)/\PV.szs l<=all ds
 |[],l,h=>by cases h;exact⟨fun x hx=>(by cases hx),Zd _⟩
 |d::ds,l,h=>by
  simp only[xk] at h;split at h
  ·cases h
  ·rename_i p hp;split at h
   ·rename_i l' hl;cases h;obtain⟨h1,h2⟩:=hf d p hp;obtain⟨h3,h4⟩:=uj hb hf ds l' hl;refine⟨fun x hx=> ?_,by rw[hb.cons];simp only[PV.szs];omega⟩;rcases Zu.1 hx with rfl|hx
    ·exact h1
    ·exact h3 x hx
   ·cases h
theorem uk{bulk:DataW H->Nat}{all:List (DataW H)->Nat}(hb:BulkLaws2 bulk all){f:TypeId->DataW H->Option PV}{R:TypeId->PV->Prop}(hf:∀t d p,f t d=some p->R t p/\p.sz<=bulk d):∀(fs:List Field) (ds:List (DataW H)) (l:List (Sh × PV)),xj P f fs ds=some l->qN P R fs l/\PV.szc l<=all ds
 |[],ds,l,h=>by
  cases ds with
  |nil=>cases h;exact⟨trivial,Zd _⟩
  |cons d r=>cases h
 |fd::fs,ds,l,h=>by
  cases ds with
  |nil=>cases h
  |cons d r=>
   simp only[xj] at h;split at h
   ·cases h
   ·rename_i p hp;split at h
    ·rename_i l' hl;cases h;obtain⟨h1,h2⟩:=hf fd.type d p hp;obtain⟨h3,h4⟩:=uk hb hf fs r l' hl;exact⟨⟨rfl,h1,h3⟩,by rw[hb.cons];simp only[PV.szc];omega⟩
    ·cases h
theorem ul{bulk:DataW H->Nat}{all:List (DataW H)->Nat}(hb:BulkLaws2 bulk all):∀(n:Nat) (t:TypeId) (d:DataW H) (p:PV),XK P n t d=some p->wt P n t p/\p.sz<=bulk d
 |0,t,d,p,h=>by cases h
 |n+1,t,d,p,h=>by
  have ih:=fun t d p=>ul hb n t d p;have one:=hb.one d;unfold XK at h;unfold wt;cases hu:P.underlying t with
  |none=>rw[hu] at h;cases h
  |some u=>
   rw[hu] at h;cases u with
   |bool=>
    cases d with
    |lit l=>cases l <;> first|(cases h;done)|(cases h;exact⟨⟨_,rfl⟩,one⟩)
    |_=>cases h
   |int k=>
    cases d with
    |lit l=>
     cases l with
     |int k' x=>
      simp only at h;split at h
      ·rename_i hw;cases h;obtain⟨e,hw⟩:=hw;subst e;exact⟨⟨x,rfl,hw⟩,one⟩
      ·cases h
     |_=>cases h
    |_=>cases h
   |string=>
    cases d with
    |lit l=>
     cases l with
     |string s=>cases h;exact⟨⟨_,rfl⟩,by rw[hb.string];exact Ze _⟩
     |_=>cases h
    |_=>cases h
   |slice e=>
    cases d with
    |nil=>cases h;exact⟨⟨[],rfl,fun x hx=>(by cases hx)⟩,one⟩
    |slice es sp=>
     simp only at h;split at h
     ·split at h
      ·rename_i l hl;cases h;obtain⟨h1,h2⟩:=uj hb (ih e) es l hl;exact⟨⟨l,rfl,h1⟩,by rw[hb.slice];simp only[PV.sz];omega⟩
      ·cases h
     ·cases h
    |lit l=>cases l <;> cases h
    |_=>cases h
   |struct fs=>
    cases d with
    |agg parts=>
     simp only at h;split at h
     ·split at h
      ·rename_i l hl;cases h;obtain⟨h1,h2⟩:=uk hb ih fs.toList parts l hl;exact⟨⟨l,rfl,h1⟩,by rw[hb.agg];simp only[PV.sz];omega⟩
      ·cases h
     ·cases h
    |lit l=>cases l <;> cases h
    |_=>cases h
   |_=>cases d <;> first|(cases h;done)|(rename_i l;cases l <;> cases h)

theorem um{n:Nat}{tT:TypeId}(hT:∀p,wt P n tT p->∃t:Tm,p=t.pv/\t.rng):∀(es:List PV),(∀x∈es,wt P n tT x)->∃l:List Tm,es=Tm.pvs l/\Tm.rngs l
 |[],_=>⟨[],rfl,trivial⟩
 |x::r,h=>by
  obtain⟨t,rfl,h1⟩:=hT x (h x (by simp));obtain⟨l,rfl,h2⟩:=um hT r fun y hy=>h y (by simp[hy]);exact⟨t::l,rfl,h1,h2⟩
theorem kh{tA tT:TypeId}(hT:TermTy P tA tT):∀(n:Nat),(∀p,wt P n tT p->∃t:Tm,p=t.pv/\t.rng)/\(∀p,wt P n tA p->∃l:List Tm,p=.sl (some 4) (Tm.pvs l)/\Tm.rngs l)
 |0=>⟨fun p h=>h.elim,fun p h=>h.elim⟩
 |n+1=>by
  obtain⟨ih1,ih2⟩:=kh hT n;obtain⟨hA,fs,tI,tL,tS,hS,hf,hI,hL,hSt,s1,s2,s3,s4,s5⟩:=hT;constructor
  ·intro p h;unfold wt at h;rw[hS] at h;obtain⟨l,rfl,h⟩:=h;obtain⟨f1,f2,f3,f4,hfs⟩:∃f1 f2 f3 f4:Field,fs.toList=[f1,f2,f3,f4]:=by
    match hx:fs.toList,hf with
    |[a,b,c,d],_=>exact⟨a,b,c,d,rfl⟩
   rw[hfs] at hf h;simp only[Z3,List.map_nil,List.cons.injEq,and_true] at hf;obtain⟨e1,e2,e3,e4⟩:=hf
   match l,h with
   |[x1,x2,x3,x4],h=>
    simp only[qN,e1,e2,e3,e4,s2,s3,s4,s5,and_true] at h;obtain⟨a1,b1,a2,b2,a3,b3,a4,b4⟩:=h;have i64:∀(ty:TypeId) (p:PV),P.underlying ty=some (.int .i64)->wt P n ty p->∃x,p=.int .i64 x/\QY x:=by
     intro ty p hty hp;cases n with
     |zero=>exact hp.elim
     |succ n=>
      unfold wt at hp;rw[hty] at hp;obtain⟨x,rfl,hx⟩:=hp;exact⟨x,rfl,ui hx⟩
    obtain⟨y1,e1',g1⟩:=i64 tI x1.2 hI b1;obtain⟨y2,e2',g2⟩:=i64 tL x2.2 hL b2;obtain⟨s,e3'⟩:∃s,x3.2=.str s:=by
     cases n with
     |zero=>exact b3.elim
     |succ n=>
      unfold wt at b3;rw[hSt] at b3;exact b3
    obtain⟨ts,e4',k⟩:=ih2 x4.2 b4;refine⟨.mk y1 y2 s ts,?_,g1,g2,k⟩;obtain⟨_,_⟩:=x1;obtain⟨_,_⟩:=x2;obtain⟨_,_⟩:=x3;obtain⟨_,_⟩:=x4;simp only at a1 a2 a3 a4 e1' e2' e3' e4';subst a1 a2 a3 a4 e1' e2' e3' e4';rfl
  ·intro p h;unfold wt at h;rw[hA] at h;obtain⟨es,rfl,h⟩:=h;obtain⟨l,rfl,h1⟩:=um ih1 es h;exact⟨l,by rw[s1],h1⟩
mutual
theorem Tm.zxt:∀t:Tm,t.size<=t.pv.sz
 | .mk k n s as=>by
  have:=Tm.zxr as;simp only[Tm.size,Tm.pv,PV.sz,PV.szc];omega
theorem Tm.zxr:∀l:List Tm,Tm.sizes l<=PV.szs (Tm.pvs l)
 |[]=>Zd _
 |t::r=>by
  have h1:=Tm.zxt t;have h2:=Tm.zxr r;simp only[Tm.sizes,Tm.pvs,PV.szs];omega
end
end Go.Am

/- Structs and lists out of data. -/
namespace Go.Am
variable{P:Program}
def un(P:Program)(t:TypeId):Option (List TypeId):=
 match P.underlying t with
 |some (.struct fs)=>some (fs.toList.map (·.type))
 |_=>none
def uq(P:Program)(t:TypeId):Bool:=match P.underlying t with|some (.int .i64)=>true|_=>false
def ur(P:Program)(t:TypeId):Bool:=match P.underlying t with|some .string=>true|_=>false
def ut(P:Program)(t:TypeId):Bool:=match P.underlying t with|some .bool=>true|_=>false
def isSl(P:Program)(t e:TypeId):Bool:=match P.underlying t with|some (.slice x)=>x == e|_=>false
def QZ(P:Program)(m:Nat):List TypeId->List (Sh × PV)->Prop
 |[],[]=>True
 |t::ts,x::l=>x.1=shOf P t/\wt P m t x.2/\QZ P m ts l
 |_,_=>False
theorem uu{m:Nat}:∀(fs:List Field) (l:List (Sh × PV)),qN P (wt P m) fs l->QZ P m (fs.map (·.type)) l
 |[],[],_=>trivial
 |[],_::_,h=>h.elim
 |_::_,[],h=>h.elim
 |fd::r,x::l,h=>⟨h.1,h.2.1,uu r l h.2.2⟩
theorem qO{n:Nat}{t:TypeId}{p:PV}{ts:List TypeId}(h:un P t=some ts)(hw:wt P n t p):∃m l,p=.agg l/\QZ P m ts l:=by
 cases n with
 |zero=>exact hw.elim
 |succ n=>
  unfold wt at hw;unfold un at h;split at h
  ·rename_i fs hfs;rw[hfs] at hw;obtain⟨l,rfl,hl⟩:=hw;cases h;exact⟨n,l,rfl,uu _ _ hl⟩
  ·cases h
theorem qP{m:Nat}{l:List (Sh × PV)}(h:QZ P m [] l):l=[]:=by
 cases l with
 |nil=>rfl
 |cons x l=>exact h.elim
theorem yF{m:Nat}{t:TypeId}{ts:List TypeId}{l:List (Sh × PV)}(h:QZ P m (t::ts) l):∃q r,l=(shOf P t,q)::r/\wt P m t q/\QZ P m ts r:=by
 cases l with
 |nil=>exact h.elim
 |cons x l=>obtain⟨h1,h2,h3⟩:=h;exact⟨x.2,l,by rw[<-h1],h2,h3⟩
theorem Q0{n:Nat}{t:TypeId}{p:PV}(h:uq P t=true)(hw:wt P n t p):∃x,p=.int .i64 x/\QY x:=by
 cases n with
 |zero=>exact hw.elim
 |succ n=>
  unfold wt at hw;unfold uq at h;split at h
  ·rename_i hu;rw[hu] at hw;obtain⟨x,rfl,hx⟩:=hw;exact⟨x,rfl,ui hx⟩
  ·cases h
theorem uv{n:Nat}{t:TypeId}{p:PV}(h:ur P t=true)(hw:wt P n t p):∃x,p=.str x:=by
 cases n with
 |zero=>exact hw.elim
 |succ n=>
  unfold wt at hw;unfold ur at h;split at h
  ·rename_i hu;rw[hu] at hw;exact hw
  ·cases h
theorem ki{n:Nat}{t:TypeId}{p:PV}(h:ut P t=true)(hw:wt P n t p):∃x,p=.bool x:=by
 cases n with
 |zero=>exact hw.elim
 |succ n=>
  unfold wt at hw;unfold ut at h;split at h
  ·rename_i hu;rw[hu] at hw;exact hw
  ·cases h
theorem uw{n:Nat}{t e:TypeId}{p:PV}(h:isSl P t e=true)(hw:wt P n t p):∃m es,p=.sl (shOf P e) es/\∀x∈es,wt P m e x:=by
 cases n with
 |zero=>exact hw.elim
 |succ n=>
  unfold wt at hw;unfold isSl at h;split at h
  ·rename_i hu;rw[hu] at hw;rw[beq_iff_eq] at h;subst h;obtain⟨es,h1,h2⟩:=hw;exact⟨n,es,h1,h2⟩
  ·cases h
theorem kk{α:Type}{f:α->PV}{Q:α->Prop}:∀(es:List PV),(∀x∈es,∃a,x=f a/\Q a)->∃l:List α,es=l.map f/\∀a∈l,Q a
 |[],_=>⟨[],rfl,fun x hx=>(by cases hx)⟩
 |x::r,h=>by
  obtain⟨y,rfl,hy⟩:=h x (by simp);obtain⟨l,rfl,hl⟩:=kk r fun z hz=>h z (by simp[hz]);refine⟨y::l,rfl,fun z hz=> ?_⟩;rcases Zu.1 hz with rfl|hz
  ·exact hy
  ·exact hl z hz
end Go.Am
