/- What is proved: the abstract machine says true of the model (part 2). No conditions beside those that each theorem names. -/
import Derived.Test.YtgedfopkiebjkaaGreatDoorAm1
import Derived.Laws.MakeOwn
import Derived.Laws.CopyRow
import Derived.Lib.Overlaps
import Derived.WalkKit
set_option linter.unusedSimpArgs false
set_option linter.unusedVariables false
/- Stores, run in the model. -/
namespace Go.Am
variable{P:Program} {w:World} {X:Xc P} {μ:Nat->Option Nat} {hp:Heap}

theorem KJ{t:TypeId}(hok:okS P t=true){b o:Nat}{cur:Array Value}{t':TypeId}{u:Value}(hb:w.heap[b]? =some (.cells cur t' (0,0)))(hs:vshp u=shOf P t)(hf:Flat u)(hle:o+(shOf P t).size<=cur.size):
  (Instr.storeAt t (.pointer (some ⟨b,o,none⟩)) u).run P w=.ok () (w.setRow b (cur.toList.take o++u.cells.toList++cur.toList.drop (o+(shOf P t).size)).toArray):=by
 have hul:u.cells.size=(shOf P t).size:=by rw[Yu,hs]
 have hst:=run_storeCells_at P b o t' u.cells.toList 0 cur w hb (by grind) (fun v hv=>hf v (by grind));simp only[Nat.add_zero,Zm,hul] at hst;simp only[Instr.storeAt,Instr.sureAddr,Sem.run_bind,Sem.run_pure,Result.andThen_ok,storeVar,bG hok,hul,ne_eq,not_true_eq_false,if_false,hst]

theorem Ds{b0 r b:Nat}{sh:Sh}{old v:AV}{cur new:Array Value}{t:TypeId}(hr:hp[r]? =some (.box sh old))(hq:r<b0->∀q∈v.refsIn,q∈old.refsIn)(hb:μ r=some b)(hc:w.heap[b]? =some (.cells cur t (0,0)))(hsz:new.size=cur.size):
  Ext b0 X μ hp w μ (hp.set r (.box sh v)) (w.setRow b new):=
 Ext.setBox hr hq hb rfl rfl rfl (by simp_all) (fun k hk=>setRow_other w b k new hk) (fun cs t' fr h=>by
  grind [setRow_heap])

theorem KL{α:Type}{l m:List α}{n:Nat}(h:l.length=n):l.take 0++m++l.drop (0+n)=m:=by
 grind

theorem J0{b0 r off b:Nat}{t:TypeId}{sh:Sh}{old v' new:AV}{x:Value}(hok:okS P t=true)(hH:HR w X μ hp)(hr:hp[r]? =some (.box sh old))(hb:μ r=some b)(hv:AR w X μ hp v' x)(hs:vshp x=shOf P t)(hf:Flat x)
  (hnew:(off=0/\sh=shOf P t/\new=v')\/AV.upd deep old off (shOf P t) v'=some new)(hq:r<b0->∀q∈new.refsIn,q∈old.refsIn):
  ∃w',(Instr.storeAt t (.pointer (some ⟨b,off,none⟩)) x).run P w=.ok () w'/\HR w' X μ (hp.set r (.box sh new))/\Ext b0 X μ hp w μ (hp.set r (.box sh new)) w':=by
 obtain⟨b',val,t',h1,h2,h3,h4,h5⟩:=hH.box r sh old hr;rw[hb] at h1;cases h1;obtain⟨n,n1,n2,n3,n4,n5⟩:∃n,AR w X μ hp new n/\vshp n=sh/\Flat n/\off+(shOf P t).size<=val.cells.size/\n.cells.toList=val.cells.toList.take off++x.cells.toList++val.cells.toList.drop (off+(shOf P t).size):=by
  grind [Yu,KL,Up]
 have hrun:=KJ (P:=P) hok h2 hs hf n4;rw[<-n5,Array.toArray_toList] at hrun;have hsz:n.cells.size=val.cells.size:=by grind [Yu]
 have E:=fun b0 (hq:r<b0->∀q∈new.refsIn,q∈old.refsIn)=>Ds (w:=w) (X:=X) (v:=new) (new:=n.cells) hr hq hb h2 hsz;exact⟨_,hrun,hH.setBox hr hb (E 0 (fun h=>absurd h (Nat.not_lt_zero _))) (fun k hk=>setRow_other w b k _ hk) (setRow_heap w b _ _ t' _ h2) n2 n3 n1,E b0 hq⟩

theorem Dt{l:List (Sh × AV)}{q:Nat}:q∈AV.refsIn.go l↔∃x,x∈l/\q∈x.2.refsIn:=by
 induction l with
 |nil=>simp[AV.refsIn.go]
 |cons x r ih=>grind [AV.refsIn.go]
theorem Du{a:AV}{l:List (Sh × AV)}(h:a.comps=some l){q:Nat}:q∈AV.refsIn.go l↔q∈a.refsIn:=by
 cases a with
 |agg l'=>grind [AV.comps,AV.refsIn]
 |pv s p=>
  cases p with
  |agg l'=>
   grind [AV.comps,Dt,AV.refsIn]
  |_=>simp[AV.comps] at h
 |_=>simp[AV.comps] at h
theorem Dv{l:List (Sh × AV)}{q:Nat}(h:q∈(AV.ofComps l).refsIn):q∈AV.refsIn.go l:=by
 grind [AV.ofComps,AV.refsIn]
theorem Dw:∀(d:Nat) (p:AV) (off:Nat) (sh:Sh) (x n:AV) (q:Nat),AV.upd d p off sh x=some n->q∈n.refsIn->q∈p.refsIn\/q∈x.refsIn:=by
 intro d
 induction d with
 |zero=>grind [AV.upd]
 |succ d ih=>
  have go:∀(l:List (Sh × AV)) (off:Nat) (sh:Sh) (x:AV) (l':List (Sh × AV)) (q:Nat),AV.upd.go d off sh x l=some l'->q∈AV.refsIn.go l'->q∈AV.refsIn.go l\/q∈x.refsIn:=by
   intro l
   induction l with
   |nil=>grind [AV.updGo]
   |cons y r ihl=>
    intro off sh x l' q h hq;obtain⟨s,p⟩:=y
    grind [AV.updGo,AV.refsIn.go]
  intro p off sh x n q h hq;simp only[AV.upd] at h;split at h
  ·cases h
  ·rename_i l hl;split at h
   ·rename_i l' hl';cases h;rcases go _ _ _ _ _ _ hl' (Dv hq) with h1|h1
    ·grind [Du]
    grind
   grind

theorem Dx{I:Nat->Prop}(d:Nat)(ihd:∀p off sh x q v u,PV.upd d p off sh x=some q->PR w I p v->PR w I x u->vshp u=sh->∃n,PR w I q n/\vshp n=vshp v/\off+sh.size<=v.cells.size/\n.cells.toList=v.cells.toList.take off++u.cells.toList++v.cells.toList.drop (off+sh.size)):
  ∀(l:List (Sh × PV)) (vs:List Value) (off:Nat) (sh:Sh) (x:PV) (u:Value) (l':List (Sh × PV)),PV.upd.go d off sh x l=some l'->CP w I l vs->PR w I x u->vshp u=sh->
   ∃ns,CP w I l' ns/\total l'=total l/\off+sh.size<=(cellsOf vs).length/\cellsOf ns=(cellsOf vs).take off++u.cells.toList++(cellsOf vs).drop (off+sh.size):=by
 intro l
 induction l with
 |nil=>grind [PV.upd.go]
 |cons y r ih=>
  intro vs off sh x u l' h hc hx hs;obtain⟨s,p⟩:=y;obtain⟨v,us,rfl,h1,h2,h3⟩:=hc.inv;have hlen:v.cells.toList.length=s.size:=by rw[Zm,Yu,h1]
  have hul:u.cells.toList.length=sh.size:=by rw[Zm,Yu,hs]
  simp only[PV.upd.go] at h;split at h
  ·rename_i hh;cases h;obtain⟨rfl,rfl⟩:=hh;refine⟨u::us,CP.cons hs hx h3,by simp[total],by grind [Yc],?_⟩
   grind [Yc]
  ·split at h
   ·rename_i hlt;split at h
    ·rename_i p' hp';cases h;obtain⟨n,n1,n2,n4,n5⟩:=ihd _ _ _ _ _ _ _ hp' h2 hx hs;have n4':off+sh.size<=v.cells.toList.length:=by grind
     refine⟨n::us,CP.cons (by grind) n1 h3,by simp[total],by grind [Yc],?_⟩
     grind [Yc]
    grind
   ·rename_i hge;split at h
    ·rename_i r' hr';cases h;obtain⟨ns,n1,n2,n3,n4⟩:=ih us _ _ _ _ _ hr' h3 hx hs;refine⟨v::ns,CP.cons h1 h2 n1,by grind [total],by grind [Yc],?_⟩;rw[Yc,Yc,n4,zf,List.drop_append,Zl (by omega:v.cells.toList.length<=off),Z3 (by omega:v.cells.toList.length<=off+sh.size),hlen,
      show off+sh.size - s.size=off - s.size+sh.size by omega]
     simp
    grind
theorem Dy{I:Nat->Prop}:∀(d:Nat) (p:PV) (off:Nat) (sh:Sh) (x q:PV) (v u:Value),PV.upd d p off sh x=some q->PR w I p v->PR w I x u->vshp u=sh->∃n,PR w I q n/\vshp n=vshp v/\off+sh.size<=v.cells.size/\n.cells.toList=v.cells.toList.take off++u.cells.toList++v.cells.toList.drop (off+sh.size):=by
 intro d
 induction d with
 |zero=>grind [PV.upd]
 |succ d ih=>
  intro p off sh x q v u h hp hx hs;cases hp with
  |agg l vs hl h1 h2=>
   simp only[PV.upd] at h;split at h
   ·rename_i l' hl';cases h;obtain⟨ns,n1,n2,n3,n4⟩:=Dx d ih l vs off sh x u l' hl' ⟨hl,h1,h2⟩ hx hs;refine⟨_,n1.agg,?_,by grind [Value.cells],by grind [Value.cells]⟩;have a1:=n1.total;have a2:=CP.total (w:=w) (I:=I) (l:=l) (vs:=vs) ⟨hl,h1,h2⟩
    grind [vshp]
   grind
  |_=>simp[PV.upd] at h

theorem Uq{vals:List Value}{k:Nat}(hk:∀v∈vals,v.cells.size=k)(i:Nat)(u:Value)(hi:i<vals.length)(hu:u.cells.size=k):cellsOf (vals.set i u)=(cellsOf vals).take (i*k)++u.cells.toList++(cellsOf vals).drop (i*k+k):=by
 induction vals generalizing i with
 |nil=>grind
 |cons v r ih=>
  have hv:=hk v (by simp);cases i with
  |zero=>
   grind [Yc]
  |succ i=>
   simp_all[Yc,zf,List.drop_append,Zl,Zv]

theorem Ur{b0 r i off:Nat}{t:TypeId}{sh:Sh}{es:List PV}{x:Value}{p old new:PV}{a:Addr}(hok:okS P t=true)(hH:HR w X μ hp)(hr:hp[r]? =some (.arr sh es false))(hi:es[i]? =some old)
  (ha:∃b,μ r=some b/\a=⟨b,i*sh.size+off,none⟩)(hv:PR w (Im X μ hp) p x)(hs:vshp x=shOf P t)(hnew:(off=0/\sh=shOf P t/\new=p)\/PV.upd deep old off (shOf P t) p=some new):
  ∃w',(Instr.storeAt t (.pointer (some a)) x).run P w=.ok () w'/\HR w' X μ (hp.set r (.arr sh (es.set i new) false))/\Ext b0 X μ hp w μ (hp.set r (.arr sh (es.set i new) false)) w':=by
 obtain⟨b,hb,rfl⟩:=ha;have hil:=(Zf.1 hi).1;have hrl:=(Zf.1 hr).1;rcases(hH.arr r sh es false hr).2 with⟨hn,_⟩|⟨b',cs,t',vals,h1,h2,h3,h4,h5⟩
 ·grind
 rw[hb] at h1;cases h1;have hk:∀v∈vals,v.cells.size=sh.size:=by
  grind [ZO,Yu]
 have hov:vals[i]? =some vals[i]:=Ze (by omega);obtain⟨o1,o2⟩:=h4 i old _ hi hov;obtain⟨n,n1,n2,n4,n5⟩:∃n,PR w (Im X μ hp) new n/\vshp n=sh/\off+(shOf P t).size<=vals[i].cells.size/\n.cells.toList=vals[i].cells.toList.take off++x.cells.toList++vals[i].cells.toList.drop (off+(shOf P t).size):=by
  grind [KL,Dy]
 have hvs:vals[i].cells.size=sh.size:=hk _ (List.getElem_mem _);have hlen:(cellsOf vals).length=es.length*sh.size:=by
  have:∀l:List Value,(∀v∈l,v.cells.size=sh.size)->(cellsOf l).length=l.length*sh.size:=by
   intro l
   induction l with
   |nil=>grind [cellsOf]
   |cons v r ih=>grind [Yc]
  grind
 have hc2:cs.toList.length=cs.size:=Zm;have hcs:es.length*sh.size<=cs.size:=by
  grind
 have hin:i*sh.size+sh.size<=es.length*sh.size:=by rw[<-Nat.succ_mul];exact ZP _ hil
 have hrun:=KJ (P:=P) (o:=i*sh.size+off) hok h2 hs hv.flat (by omega);have hnl:n.cells.toList.length=sh.size:=by rw[Zm,Yu,n2]

 have hseg:vals[i].cells.toList=(cs.toList.drop (i*sh.size)).take sh.size:=by
  have g:=JW hk i _ hov;have g2:=congrArg (List.take sh.size) g
  grind [Zs]
 have hrow:cs.toList.take (i*sh.size+off)++x.cells.toList++cs.toList.drop (i*sh.size+off+(shOf P t).size)=cs.toList.take (i*sh.size)++n.cells.toList++cs.toList.drop (i*sh.size+sh.size):=by
  rw[n5,hseg,Zt,Z0 (by omega),Zs,ZB];rw[List.take_add];have:cs.toList.drop (i*sh.size+(off+(shOf P t).size))=(cs.toList.drop (i*sh.size+(off+(shOf P t).size))).take (sh.size - (off+(shOf P t).size))++cs.toList.drop (i*sh.size+sh.size):=by
   conv=>lhs;rw[<-ZY (sh.size - (off+(shOf P t).size)) (cs.toList.drop (i*sh.size+(off+(shOf P t).size)))]
   rw[ZB]
   congr 2
   omega
  grind
 rw[hrow] at hrun;have hnsz:(cs.toList.take (i*sh.size)++n.cells.toList++cs.toList.drop (i*sh.size+sh.size)).length=cs.size:=by
  grind
 have E:∀b0,Ext b0 X μ hp w (upd μ r (μ r)) (hp.set r (.arr sh (es.set i new) false)) (w.setRow b (cs.toList.take (i*sh.size)++n.cells.toList++cs.toList.drop (i*sh.size+sh.size)).toArray):=fun b0=>
  Ext.setArr hr (by simp) (fun h=>by cases h) (fun _=>rfl) (fun k hk=>.inl hk) rfl rfl rfl (by simp_all) (fun k hk hm=>setRow_other w b k _ (fun e=>hm rfl (by grind))) (fun k cs' t'' fr hk=>by
   by_cases e:k=b
   ·subst e;rw[h2] at hk;cases hk;exact⟨_,setRow_heap w k _ _ t' _ h2,by grind⟩
   grind [setRow_other])
 have H:HR (w.setRow b (cs.toList.take (i*sh.size)++n.cells.toList++cs.toList.drop (i*sh.size+sh.size)).toArray) X (upd μ r (μ r)) (hp.set r (.arr sh (es.set i new) false)):=by
  refine hH.setArr hr (E 0) (fun k hk hne=>setRow_other w b k _ (fun e=>hne (by grind))) (fun k hk=>⟨.inl hk,by grind [World.setRow]⟩) (.inr ⟨b,_,t',vals.set i n,hb,setRow_heap w b _ _ t' _ h2,by grind,fun k q v hq hv=> ?_,?_⟩)
  ·by_cases e:k=i
   ·subst e;rw[ZC hil] at hq;rw[ZC (by omega)] at hv;cases hq;cases hv;exact⟨n2,(E 0).pr n1⟩
   ·rw[zm (Ne.symm e)] at hq hv;exact⟨(h4 k q v hq hv).1,(E 0).pr (h4 k q v hq hv).2⟩
  ·rw[Uq hk i n (by omega) (by grind),h5,List.length_set];simp only[Zt,Zs];rw[Z0 (by omega),zf,zf,Zt,Zx,hc2,zi,Zx,hc2,hnl,Nat.min_eq_right (by omega),Z0 (by omega:i*sh.size<=cs.size),
    Zl (by grind:n.cells.toList.length<=es.length*sh.size - i*sh.size)]
 grind [xP]
theorem xR(l:List AV)(q:Nat):q∈AV.refsIn.gol l↔∃a,a∈l/\q∈a.refsIn:=by
 induction l with
 |nil=>simp[AV.refsIn.gol]
 |cons v r ih=>grind [AV.refsIn.gol]

theorem Dz{b0 r i off:Nat}{t:TypeId}{sh:Sh}{es:List AV}{x:Value}{p old new:AV}{a:Addr}(hok:okS P t=true)(hH:HR w X μ hp)(hr:hp[r]? =some (.arv sh es))(hi:es[i]? =some old)
  (ha:∃b,μ r=some b/\a=⟨b,i*sh.size+off,none⟩)(hv:AR w X μ hp p x)(hs:vshp x=shOf P t)(hf:Flat x)(hnew:(off=0/\sh=shOf P t/\new=p)\/AV.upd deep old off (shOf P t) p=some new)(hq:r<b0->∀q∈new.refsIn,q∈old.refsIn):
  ∃w',(Instr.storeAt t (.pointer (some a)) x).run P w=.ok () w'/\HR w' X μ (hp.set r (.arv sh (es.set i new)))/\Ext b0 X μ hp w μ (hp.set r (.arv sh (es.set i new))) w':=by
 obtain⟨b,hb,rfl⟩:=ha;have hil:=(Zf.1 hi).1;have hrl:=(Zf.1 hr).1;obtain⟨hpos,b',cs,t',vals,h1,h2,h3,h4,h5⟩:=hH.arv r sh es hr;rw[hb] at h1;cases h1;have hk:∀v∈vals,v.cells.size=sh.size:=by
  grind [ZO,Yu]
 have hov:vals[i]? =some vals[i]:=Ze (by omega);obtain⟨⟨o1,o3⟩,o2⟩:=h4 i old _ hi hov;obtain⟨n,n1,n2,n3,n4,n5⟩:∃n,AR w X μ hp new n/\vshp n=sh/\Flat n/\off+(shOf P t).size<=vals[i].cells.size/\n.cells.toList=vals[i].cells.toList.take off++x.cells.toList++vals[i].cells.toList.drop (off+(shOf P t).size):=by
  grind [KL,Up]
 have hvs:vals[i].cells.size=sh.size:=hk _ (List.getElem_mem _);have hlen:(cellsOf vals).length=es.length*sh.size:=by
  have:∀l:List Value,(∀v∈l,v.cells.size=sh.size)->(cellsOf l).length=l.length*sh.size:=by
   intro l
   induction l with
   |nil=>grind [cellsOf]
   |cons v r ih=>grind [Yc]
  grind
 have hc2:cs.toList.length=cs.size:=Zm;have hcs:es.length*sh.size<=cs.size:=by
  grind
 have hin:i*sh.size+sh.size<=es.length*sh.size:=by rw[<-Nat.succ_mul];exact ZP _ hil
 have hrun:=KJ (P:=P) (o:=i*sh.size+off) hok h2 hs hf (by omega);have hnl:n.cells.toList.length=sh.size:=by rw[Zm,Yu,n2]

 have hseg:vals[i].cells.toList=(cs.toList.drop (i*sh.size)).take sh.size:=by
  have g:=JW hk i _ hov;have g2:=congrArg (List.take sh.size) g
  grind [Zs]
 have hrow:cs.toList.take (i*sh.size+off)++x.cells.toList++cs.toList.drop (i*sh.size+off+(shOf P t).size)=cs.toList.take (i*sh.size)++n.cells.toList++cs.toList.drop (i*sh.size+sh.size):=by
  rw[n5,hseg,Zt,Z0 (by omega),Zs,ZB];rw[List.take_add];have:cs.toList.drop (i*sh.size+(off+(shOf P t).size))=(cs.toList.drop (i*sh.size+(off+(shOf P t).size))).take (sh.size - (off+(shOf P t).size))++cs.toList.drop (i*sh.size+sh.size):=by
   conv=>lhs;rw[<-ZY (sh.size - (off+(shOf P t).size)) (cs.toList.drop (i*sh.size+(off+(shOf P t).size)))]
   rw[ZB]
   congr 2
   omega
  grind
 rw[hrow] at hrun;have hnsz:(cs.toList.take (i*sh.size)++n.cells.toList++cs.toList.drop (i*sh.size+sh.size)).length=cs.size:=by
  simp only[zi,Zx,List.length_drop,Zm] at hnl ⊢;omega
 have E:∀b0,(r<b0->∀q∈new.refsIn,q∈old.refsIn)->Ext b0 X μ hp w (upd μ r (μ r)) (hp.set r (.arv sh (es.set i new))) (w.setRow b (cs.toList.take (i*sh.size)++n.cells.toList++cs.toList.drop (i*sh.size+sh.size)).toArray):=fun b0 hq0=>
  Ext.setArv hr (n:=es.length) (by grind [YP]) (Zc _) (fun _=>rfl) (fun es' e hlt q hq'=>by
   cases e;obtain⟨a,ha,hqa⟩:=(xR _ _).1 hq'
   grind [xR]) (fun k hk=>.inl hk) rfl rfl rfl (by simp_all) (fun k hk hm=>setRow_other w b k _ (fun e=>hm (by grind))) (fun k cs' t'' fr hk=>by
   by_cases e:k=b
   ·subst e;rw[h2] at hk;cases hk;exact⟨_,setRow_heap w k _ _ t' _ h2,by grind⟩
   grind [setRow_other])
 have H:HR (w.setRow b (cs.toList.take (i*sh.size)++n.cells.toList++cs.toList.drop (i*sh.size+sh.size)).toArray) X (upd μ r (μ r)) (hp.set r (.arv sh (es.set i new))):=by
  refine hH.setArv hr (E 0 (fun h=>absurd h (Nat.not_lt_zero _))) (fun k hk hne=>setRow_other w b k _ (fun e=>hne (by grind))) (fun k hk=>⟨.inl hk,by grind [World.setRow]⟩) (.inl ⟨_,b,_,t',vals.set i n,rfl,hb,setRow_heap w b _ _ t' _ h2,by grind,fun k q v hq hv=> ?_,?_⟩)
  ·by_cases e:k=i
   ·subst e;rw[ZC hil] at hq;rw[ZC (by omega)] at hv;cases hq;cases hv;exact⟨⟨n2,n3⟩,(E 0 (fun h=>absurd h (Nat.not_lt_zero _))).ar n1⟩
   ·rw[zm (Ne.symm e)] at hq hv;exact⟨(h4 k q v hq hv).1,(E 0 (fun h=>absurd h (Nat.not_lt_zero _))).ar (h4 k q v hq hv).2⟩
  ·rw[Uq hk i n (by omega) (by grind),h5,List.length_set];simp only[Zt,Zs];rw[Z0 (by omega),zf,zf,Zt,Zx,hc2,zi,Zx,hc2,hnl,Nat.min_eq_right (by omega),Z0 (by omega:i*sh.size<=cs.size),
    Zl (by grind:n.cells.toList.length<=es.length*sh.size - i*sh.size)]
 grind [xP]
end Go.Am

/- Stores by the abstract machine's own word; new arrays and maps; append. -/
namespace Go.Am
variable{P:Program} {w:World} {X:Xc P} {μ:Nat->Option Nat} {hp:Heap}

theorem xS{b:Nat}{s:Sem Unit}{hp':Heap}{w':World}{μ':Nat->Option Nat}(h:s.run P w=.ok () w')(hH:HR w' X μ' hp')(E:Ext b X μ hp w μ' hp' w'):Out P b w X μ hp (do s;pure .skip) .undef hp':=
 ⟨.skip,undef,w',μ',by simp[h],.inr ⟨rfl,rfl⟩,.undef _ (fun b h=>by cases h),hH,E⟩

theorem DA{b:Nat}{t:TypeId}{x y:Value}{vs:List AV}{v:AV}{hp':Heap}(hok:okS P t=true)(hH:HR w X μ hp)(hl:LR w X μ hp vs [x,y])(h:zH (shOf P t) b hp vs=some (v,hp')):
  Out P b w X μ hp (do Instr.storeAt t x y;pure .skip) v hp':=by
 unfold zH at h;split at h
 ·rename_i p a;obtain⟨x',y',e0,h1,h2⟩:=hl.two;cases e0;split at h
  ·rename_i hp1 hs;cases h;unfold astore at hs;split at hs
   ·rename_i r off;cases h1 with
    |ptr _ _ bl sh0 v0 ho hb=>
     simp only[ho] at hs;split at hs
     ·cases hs
     ·rename_i hpl;have hpl1:a.plain=true:=by grind
      have hpl2:a.shp=shOf P t:=by
       grind
      have hsx:vshp y=shOf P t:=by rw[h2.vshp hpl1,hpl2]
      split at hs
      ·rename_i hbr;obtain⟨μ1,k1,k2,k3⟩:=KH b hH h2;obtain⟨v1,j1,j2,_⟩:=k2.box r sh0 v0 ho;have hb1:μ1 r=some bl:=by grind
       generalize hown:a.own hp=ow at hs k1 k2 k3 j1;obtain⟨a',hpa⟩:=ow;simp only at hs k1 k2 k3 j1

       have hsame:v1=v0:=by
        have:∀(l:List (Sh × AV)) (hp:Heap) (i:Nat) (o:AObj),hp[i]? =some o->(zR l hp).2[i]? =some o:=by
         intro l
         induction l with
         |nil=>intro hp i o h;exact h
         |cons x r ih=>
          intro hp i o h;obtain⟨s,a⟩:=x;cases a with
          |tsl sh es=>
           cases es with
           |nil=>
            grind [zR]
           |cons e es=>exact ih _ _ _ h
          |_=>exact ih _ _ _ h
        have keep:(a.own hp).2[r]? =some (.box sh0 v0):=by
         cases a with
         |tsl sh es=>
          cases es with
          |nil=>
           grind [AV.own]
          |cons e es=>exact ho
         |agg l=>exact this l hp r _ ho
         |_=>exact ho
        grind
       subst hsame;split at hs
       ·rename_i hh;cases hs;obtain⟨w',m1,m2,m3⟩:=J0 (b0:=b) (new:=a') hok k1 j1 hb1 k3 hsx (h2.flat hpl1) (.inl ⟨hh.1,hh.2,rfl⟩) (fun hlt=>by omega);exact xS m1 m2 (k2.trans m3)
       ·split at hs
        ·rename_i new hn;cases hs;obtain⟨w',m1,m2,m3⟩:=J0 (b0:=b) (new:=new) hok k1 j1 hb1 k3 hsx (h2.flat hpl1) (.inr hn) (fun hlt=>by omega);exact xS m1 m2 (k2.trans m3)
        grind
      ·split at hs
       ·rename_i hrefs;have href:∀q∈a.refsIn,q∈v0.refsIn:=by
         grind
        split at hs
        ·rename_i hh;cases hs;obtain⟨w',m1,m2,m3⟩:=J0 (b0:=b) (new:=a) hok hH ho hb h2 hsx (h2.flat hpl1) (.inl ⟨hh.1,hh.2,rfl⟩) (fun _=>href)
         grind [xS]
        ·split at hs
         ·rename_i new hn;cases hs;obtain⟨w',m1,m2,m3⟩:=J0 (b0:=b) (new:=new) hok hH ho hb h2 hsx (h2.flat hpl1) (.inr hn) (fun _ q hq=>(Dw _ _ _ _ _ _ _ hn hq).elim id (href q))
          grind [xS]
         grind
       grind
   ·rename_i s0 r ver i off;split at hs
    ·cases hs
    ·rename_i hsh;split at hs
     ·cases hs
     ·rename_i p hp1 hf;obtain⟨e1,k1,k2⟩:=xQ b w X μ _ _ _ _ _ _ hf hH h2;have h1':=e1.ar h1;have hpl:a.plain=true:=by
       cases a <;> first|rfl|grind [AV.freeze]
      have hsx:vshp y=shOf P t:=by
       rw[h2.vshp hpl]
       grind
      split at hs
      ·rename_i s es ho;split at hs
       ·rename_i hver;split at hs
        ·rename_i old hold;cases h1' with
         |eptr _ _ _ _ _ ad es' fz' ho' hv' hc'=>
          rw[ho] at ho';cases ho';obtain⟨c1,c2⟩:=hc' hver;split at hs
          ·rename_i hh;cases hs;obtain⟨w',m1,m2,m3⟩:=Ur (b0:=b) (new:=p) hok k1 ho hold c2 k2 hsx (.inl ⟨hh.1,hh.2,rfl⟩);exact xS m1 m2 (e1.trans m3)
          ·split at hs
           ·rename_i new hn;cases hs;obtain⟨w',m1,m2,m3⟩:=Ur (b0:=b) (new:=new) hok k1 ho hold c2 k2 hsx (.inr hn);exact xS m1 m2 (e1.trans m3)
           grind
        grind
       grind
      grind
   ·rename_i s0 r ver i off;split at hs
    ·cases hs
    ·rename_i hpl;have hpl1:a.plain=true:=by grind
     have hpl2:a.shp=shOf P t:=by
      grind
     have hsx:vshp y=shOf P t:=by rw[h2.vshp hpl1,hpl2]
     split at hs
     ·rename_i s es ho;split at hs
      ·rename_i hver;split at hs
       ·rename_i old hold;split at hs
        ·rename_i new hnew;split at hs
         ·rename_i hrefs;cases hs;cases h1 with
          |epv _ _ _ _ _ ad n ho' hv' hc'=>
           rw[ho] at ho';simp only[YP,Option.some.injEq,Prod.mk.injEq] at ho';obtain⟨rfl,rfl⟩:=ho';obtain⟨c1,c2⟩:=hc' hver;have hq:r<b->∀q∈new.refsIn,q∈old.refsIn:=by
            grind
           have hn2:(off=0/\s=shOf P t/\new=a)\/AV.upd deep old off (shOf P t) a=some new:=by
            grind
           obtain⟨w',m1,m2,m3⟩:=Dz (b0:=b) (new:=new) hok hH ho hold c2 h2 hsx (h2.flat hpl1) hn2 hq
           grind [xS]
         grind
        grind
       grind
      grind
     grind
   grind
  grind
 grind

theorem DB{b:Nat}{sh:Sh}{v:AV}{hp':Heap}(hH:HR w X μ hp)(h:YM sh hp=some (v,hp')):Out P b w X μ hp (pure (.value (.slice none 0 0))) v hp':=by
 unfold YM at h;split at h
 ·rename_i hs;cases h;obtain⟨k1,k2,k3⟩:=KG b hH hs;exact⟨_,_,w,_,rfl,.inl rfl,k3,k1,k2⟩
 grind

theorem DC{b:Nat}{t:TypeId}{sh:Sh}(hH:HR w X μ hp):Out P b w X μ hp (do pure (.value (<-Instr.makeMap t none))) (.map hp.length) (hp++[.map sh []]):=by
 have hE:∀b,Ext b X μ hp w (upd μ hp.length (some w.heap.size)) (hp++[.map sh []]) (w.alloc (.map #[] 0)):=fun b=>Ext.push _ _ (Ext.alloc b _) (fun k hk=>by grind);refine⟨.value (.map (some w.heap.size)),_,w.alloc (.map #[] 0),upd μ hp.length (some w.heap.size),by simp[Instr.makeMap],.inl rfl,.map _ _ sh [] Xa (zW _ _ _),?_,hE b⟩;exact hH.push _ _ (Ext.alloc 0 _) (fun i k hi hk=>YQ w _ (hH.out i k hi hk).2) (fun k hk=>by simp_all) (fun _ _ h=>by cases h) (fun _ _ _ h=>by cases h) (fun s es h=>by grind [YH,MapR.nil])
end Go.Am

/- append, run in the model. -/
namespace Go.Am
variable{P:Program} {w:World} {X:Xc P} {μ:Nat->Option Nat} {hp:Heap}

theorem qG(t ty e:TypeId)(ht:P.underlying t=some (.slice e))(hok:okT P e=true)(base a:Option Addr)(n cap c:Nat)(hn:n<=cap):
  (Builtin.append_ #[t,t] ty #[.slice base n cap,.slice a 0 c]).run P w=.ok (.slice base n cap) w:=by
 have hs:=yW hok w;cases a <;> cases base <;> simp[Builtin.append_,run_underlying ht,hs,Builtin.lenOf,hn,Builtin.firstCells,loadCells,loadCellsFrom,storeCells]

theorem Us(t ty e t0:TypeId)(i:TypeInfo)(ht:P.underlying t=some (.slice e))(hi:P.info? e=some i)
  (g sLen sCap:Nat)(cur:Array Value)(hg:w.heap[g]? =some (.cells cur t0 (0,0)))
  (a:Addr)(m c:Nat)(news:List Value)(hl:news.length=m*i.size)(hnews:∀j u,news[j]? =some u->w.cell? (a.add j)=some u)(h1:∀u∈news,u.oneCell'=true)
  (hroom:sLen+m<=sCap)(hfit:sLen*i.size+news.length<=cur.size):
  (Builtin.append_ #[t,t] ty #[.slice (some ⟨g,0,none⟩) sLen sCap,.slice (some a) m c]).run P w=
   .ok (.slice (some ⟨g,0,none⟩) (sLen+m) sCap) (w.setRow g (cur.toList.take (sLen*i.size)++news++cur.toList.drop (sLen*i.size+news.length)).toArray):=by
 have hf:=run_firstCells_some (P:=P) w i.size m a m c news hl hnews;have hst:=run_storeCells_at P g (sLen*i.size) t0 news 0 cur w hg (by grind) h1;simp only[Nat.add_zero] at hst;simp[Builtin.append_,run_underlying ht,sizeOf,typeInfo,hi,Builtin.lenOf,hroom,hf,Addr.add_lit,hst]

def ER(w:World)(I:Nat->Prop)(sh:Sh)(es:List PV)(vals:List Value):Prop:=
 es.length=vals.length/\∀(k:Nat) (p:PV) (v:Value),es[k]? =some p->vals[k]? =some v->vshp v=sh/\PR w I p v
theorem ER.sizes{I:Nat->Prop}{sh:Sh}{es:List PV}{vals:List Value}(h:ER w I sh es vals):∀v∈vals,v.cells.size=sh.size:=by
 intro v hv;obtain⟨j,hj⟩:=ZO.1 hv;have hjl:=(Zf.1 hj).1;have hjl':j<es.length:=by rw[h.1];grind
 rw[Yu,(h.2 j es[j] v (Ze hjl') hj).1]
theorem ER.flat{I:Nat->Prop}{sh:Sh}{es:List PV}{vals:List Value}(h:ER w I sh es vals):∀c∈cellsOf vals,c.oneCell'=true:=by
 intro c hc;obtain⟨j,v,hj,hcv⟩:=Qz hc;have hjl:=(Zf.1 hj).1;have hjl':j<es.length:=by rw[h.1];grind
 exact(h.2 j es[j] v (Ze hjl') hj).2.flat c hcv
theorem KM{vals:List Value}{k:Nat}(hk:∀v∈vals,v.cells.size=k):(cellsOf vals).length=vals.length*k:=by
 induction vals with
 |nil=>simp[cellsOf]
 |cons v r ih=>grind [Yc]
theorem ER.length{I:Nat->Prop}{sh:Sh}{es:List PV}{vals:List Value}(h:ER w I sh es vals):(cellsOf vals).length=es.length*sh.size:=by rw[KM h.sizes,h.1]
theorem ER.append{I:Nat->Prop}{sh:Sh}{es fs:List PV}{vals us:List Value}(h:ER w I sh es vals)(k:ER w I sh fs us):ER w I sh (es++fs) (vals++us):=by
 refine⟨by simp[h.1,k.1],fun i p v hp hv=> ?_⟩;rcases Zn i es.length with hi|hi
 ·rw[ZZ hi] at hp;rw[ZZ (by rw[<-h.1];exact hi)] at hv;exact h.2 i p v hp hv
 ·rw[ZD hi] at hp;rw[ZD (by rw[<-h.1];exact hi),<-h.1] at hv;exact k.2 _ p v hp hv
theorem ER.take{I:Nat->Prop}{sh:Sh}{es:List PV}{vals:List Value}(h:ER w I sh es vals)(n:Nat):ER w I sh (es.take n) (vals.take n):=by
 refine⟨by simp[h.1],fun i p v hp hv=> ?_⟩;have hi:i<n:=by grind
 rw[List.getElem?_take_of_lt hi] at hp hv;exact h.2 i p v hp hv
theorem ER.drop{I:Nat->Prop}{sh:Sh}{es:List PV}{vals:List Value}(h:ER w I sh es vals)(n:Nat):ER w I sh (es.drop n) (vals.drop n):=by
 refine⟨by simp[h.1],fun i p v hp hv=> ?_⟩;rw[ZQ] at hp hv;exact h.2 _ p v hp hv
theorem ER.nil{I:Nat->Prop}{sh:Sh}:ER w I sh [] []:=⟨rfl,by simp⟩
theorem ER.ext{b0:Nat}{μ':Nat->Option Nat}{hp':Heap}{w':World}{sh:Sh}{es:List PV}{vals:List Value}(E:Ext b0 X μ hp w μ' hp' w')(h:ER w (Im X μ hp) sh es vals):ER w' (Im X μ' hp') sh es vals:=
 ⟨h.1,fun k p v hp hv=>⟨(h.2 k p v hp hv).1,E.pr (h.2 k p v hp hv).2⟩⟩
theorem ER.cells_take{I:Nat->Prop}{sh:Sh}{es:List PV}{vals:List Value}(h:ER w I sh es vals)(n:Nat)(hn:n<=es.length):cellsOf (vals.take n)=(cellsOf vals).take (n*sh.size):=by
 have:=QB h.1 (fun i p v hp hv=>(h.2 i p v hp hv).1) 0 n (by omega)
 grind
theorem ER.cells_drop{I:Nat->Prop}{sh:Sh}{es:List PV}{vals:List Value}(h:ER w I sh es vals)(n:Nat)(hn:n<=es.length):cellsOf (vals.drop n)=(cellsOf vals).drop (n*sh.size):=by
 have h1:=KM (vals:=vals.drop n) (k:=sh.size) (fun v hv=>h.sizes v (List.mem_of_mem_drop hv));have:=QB h.1 (fun i p v hp hv=>(h.2 i p v hp hv).1) n (es.length - n) (by omega);rw[Zl (by simp[h.1]),Zl] at this
 ·grind
 ·rw[List.length_drop,h.length,<-Nat.sub_mul]
  grind

theorem XW{b o:Nat}{cs:Array Value}{t:TypeId}{fr:Nat × Nat}(hb:w.heap[b]? =some (.cells cs t fr)){vals:List Value}{n:Nat}(hc:cellsOf vals=(cs.toList.drop o).take n):∀(j:Nat) (u:Value),(cellsOf vals)[j]? =some u->w.cell? ((⟨b,o,none⟩:Addr).add j)=some u:=by
 grind [Addr.add_lit,World.cell?]

theorem AR.slv_sl{sh s:Sh}{r ver off len:Nat}{v:Value}{es:List PV}(h:AR w X μ hp (.slv sh r ver off len) v)(e:hp[r]? =some (.arr s es true)):AR w X μ hp (.sl sh r ver off len) v:=by
 cases h with
 |slv _ _ _ _ _ a cap n ho hv hlc ha hc=>
  rw[e] at ho;simp only[YP,Option.some.injEq,Prod.mk.injEq] at ho;obtain⟨rfl,rfl⟩:=ho;exact .sl _ _ _ _ _ _ _ es true e hv hlc ha fun ev=>let ⟨c1,c2⟩:=hc ev;⟨c1,.inr c2⟩
theorem KN{x:AV}{shx:Sh}{new:List PV}{a:Option Addr}{m c:Nat}(hH:HR w X μ hp)(h:elems hp x=some (shx,new))(hx:AR w X μ hp x (.slice a m c)):
  m=new.length/\∃vals,ER w (Im X μ hp) shx new vals/\(new≠[]->∃ad,a=some ad/\∀(j:Nat) (u:Value),(cellsOf vals)[j]? =some u->w.cell? (ad.add j)=some u):=by
 have ps:∀(sh:Sh) (es:List PV),PR w (Im X μ hp) (.sl sh es) (.slice a m c)->m=es.length/\∃vals,ER w (Im X μ hp) sh es vals/\(es≠[]->∃ad,a=some ad/\∀(j:Nat) (u:Value),(cellsOf vals)[j]? =some u->w.cell? (ad.add j)=some u):=by
  intro sh es hp;cases hp with
  |nilsl=>exact⟨rfl,[],ER.nil,fun h=>absurd rfl h⟩
  |sl _ _ b o _ cs t fr vals hl hI hb h1 h2 hc hn=>
   exact⟨rfl,vals,⟨hl,fun k p v hp hv=>⟨h1 k p v hp hv,h2 k p v hp hv⟩⟩,fun _=>⟨_,rfl,XW hb hc⟩⟩
 have slc:∀(s0:Sh) (r ver off len:Nat),(match hp[r]? with
   |some (.arr sh es _)=>if ver=es.length then
     if off=0/\len=es.length then some (sh,es)
     else if off+len<=es.length then some (sh,(es.drop off).take len) else none
    else none
   |_=>none)=some (shx,new)->AR w X μ hp (.sl s0 r ver off len) (.slice a m c)->m=new.length/\∃vals,ER w (Im X μ hp) shx new vals/\(new≠[]->∃ad,a=some ad/\∀(j:Nat) (u:Value),(cellsOf vals)[j]? =some u->w.cell? (ad.add j)=some u):=by
  intro s0 r ver off len h hx;cases hx with
  |sl _ _ _ _ _ _ _ es fz ho hv hlc ha hc=>
   simp only[ho] at h;split at h
   ·rename_i hver;obtain⟨c1,c2⟩:=hc hver;have view:off+m<=es.length->m=((es.drop off).take m).length/\∃vals,ER w (Im X μ hp) s0 ((es.drop off).take m) vals/\((es.drop off).take m≠[]->∃ad,a=some ad/\∀(j:Nat) (u:Value),(cellsOf vals)[j]? =some u->w.cell? (ad.add j)=some u):=by
     intro hle;refine⟨by grind,?_⟩;rcases(hH.arr r s0 es fz ho).2 with⟨h1,rfl⟩|⟨b,cs,t,vals,h1,h2,h3,h4,h5⟩
     ·simp only[List.drop_nil,List.take_nil];exact⟨[],ER.nil,fun h=>absurd rfl h⟩
     ·have hE:ER w (Im X μ hp) s0 es vals:=⟨h3,h4⟩;refine⟨(vals.drop off).take m,(hE.drop off).take m,fun hne=> ?_⟩
      grind [XW,QB,Zs]
    grind
   grind
 unfold elems at h;split at h
 ·cases h;cases hx with
  |pv _ _ _ _ hq=>grind
 ·cases h;cases hx with
  |tsl _ _ _ hq=>grind
 ·grind
 ·rename_i s0 r ver off len;split at h
  ·rename_i sh es e;refine slc s0 r ver off len ?_ (hx.slv_sl e)
   grind
  grind
 ·cases h;cases hx with
  |nilv=>exact⟨rfl,[],ER.nil,fun h=>absurd rfl h⟩
 grind

theorem okE(w:World){e:TypeId}(hok:okT P e=true)(hz:Yt P e=true):∃i z,P.info? e=some i/\i.zero=some z/\i.size=(shOf P e).size/\z.cells.size=(shOf P e).size:=by
 obtain⟨i,d,hi,_,hs,_⟩:=qF hok;unfold Yt at hz;split at hz
 ·rename_i zv hzv;have hzv':=hzv;unfold Yw at hzv;rw[hi] at hzv;simp only at hzv;cases h:i.zero with
  |none=>grind
  |some z=>
   rw[h] at hzv;obtain⟨h1,h2⟩:=JV P w ⟨fun _=>False⟩ (fun _=>none) [] 8 e z zv hzv;refine⟨i,z,hi,h,hs,?_⟩;rw[Yu,h1.vshp h2,zj hz]
 grind

theorem KO{t ty e:TypeId}(ht:P.underlying t=some (.slice e))(hok:okT P e=true)(hz:Yt P e=true)(hby:YN P e=true){α:Type}{es new:List α}{vals nvals:List Value}(hE1:es.length=vals.length)(hl1:(cellsOf vals).length=es.length*(shOf P e).size)(hl2:(cellsOf nvals).length=new.length*(shOf P e).size)
  (base:Option Addr)(cap:Nat)(hbase:(base=none/\es=[]/\cap=0)\/∃bd,base=some bd/\∀(j:Nat) (u:Value),(cellsOf vals)[j]? =some u->w.cell? (bd.add j)=some u)(ad:Addr)(c:Nat)
  (hnews:∀(j:Nat) (u:Value),(cellsOf nvals)[j]? =some u->w.cell? (ad.add j)=some u)(hm:new≠[])(hcap:cap<es.length+new.length)(hlim:es.length+new.length<=lim):
  ∃(c':Nat) (cells:Array Value),(Builtin.append_ #[t,t] ty #[.slice base es.length cap,.slice (some ad) new.length c]).run P w=.ok (.slice (some ⟨w.heap.size,0,none⟩) (es.length+new.length) c') (w.drew.alloc (.cells cells e))/\
   es.length+new.length<=c'/\cells.size=c'*(shOf P e).size/\cells.toList.take ((es.length+new.length)*(shOf P e).size)=cellsOf (vals++nvals):=by
 obtain⟨i,z,hi,hiz,hsz,hzs⟩:=okE w hok hz;have hb:i.bytes<=1024:=by
  grind [YN]
 have hbb:(es.length+new.length)*i.bytes<=140737488355328:=by
  have:(es.length+new.length)*i.bytes<=lim*1024:=ZI hlim hb
  grind [lim]
 have h63:es.length+new.length<=9223372036854775807:=by grind [lim]
 have hge:=grownCap_ge w (es.length+new.length) cap e;have main:(Builtin.append_ #[t,t] ty #[.slice base es.length cap,.slice (some ad) new.length c]).run P w=.ok (.slice (some ⟨w.heap.size,0,none⟩) (es.length+new.length) (grownCap w (es.length+new.length) cap e))
   (w.drew.alloc (.cells ((cellsOf vals).toArray++(cellsOf nvals).toArray++Builtin.zeroCells z.cells (grownCap w (es.length+new.length) cap e - (es.length+new.length))) e)):=by
  rcases hbase with⟨rfl,rfl,rfl⟩|⟨bd,rfl,hold⟩
  ·have hv:vals=[]:=Z2 hE1.symm;subst hv;have hpos:0<new.length:=List.length_pos_iff.2 hm
   grind [run_append_nil]
  grind [run_append_grow,growslice_fits]
 refine⟨_,_,main,hge,?_,?_⟩
 ·simp only[Array.size_append,List.size_toArray,size_zeroCells,hzs,hl1,hl2,<-Zv]
  grind
 grind [yJ,Zv]

theorem Ut{t ty e:TypeId}(ht:P.underlying t=some (.slice e))(hok:okT P e=true)(hz:Yt P e=true)(hby:YN P e=true){I:Nat->Prop}{es new:List PV}{vals nvals:List Value}(hE:ER w I (shOf P e) es vals)(hN:ER w I (shOf P e) new nvals)
  (base:Option Addr)(cap:Nat)(hbase:(base=none/\es=[]/\cap=0)\/∃bd,base=some bd/\∀(j:Nat) (u:Value),(cellsOf vals)[j]? =some u->w.cell? (bd.add j)=some u)(ad:Addr)(c:Nat)
  (hnews:∀(j:Nat) (u:Value),(cellsOf nvals)[j]? =some u->w.cell? (ad.add j)=some u)(hm:new≠[])(hcap:cap<es.length+new.length)(hlim:es.length+new.length<=lim):
  ∃(c':Nat) (cells:Array Value),(Builtin.append_ #[t,t] ty #[.slice base es.length cap,.slice (some ad) new.length c]).run P w=.ok (.slice (some ⟨w.heap.size,0,none⟩) (es.length+new.length) c') (w.drew.alloc (.cells cells e))/\
   es.length+new.length<=c'/\cells.size=c'*(shOf P e).size/\cells.toList.take ((es.length+new.length)*(shOf P e).size)=cellsOf (vals++nvals):=
 KO ht hok hz hby hE.1 hE.length hN.length base cap hbase ad c hnews hm hcap hlim

theorem DD{b r len:Nat}{t ty e:TypeId}{es new:List PV}{nvals:List Value}{base:Option Addr}{cap c:Nat}{ax:Option Addr}(ht:P.underlying t=some (.slice e))(hok:okT P e=true)(hz:Yt P e=true)(hby:YN P e=true)(hH:HR w X μ hp)(ho:hp[r]? =some (.arr (shOf P e) es false))
  (hs:AR w X μ hp (.sl (shOf P e) r es.length 0 len) (.slice base len cap))(hN:ER w (Im X μ hp) (shOf P e) new nvals)(hnews:new≠[]->∃ad,ax=some ad/\∀(j:Nat) (u:Value),(cellsOf nvals)[j]? =some u->w.cell? (ad.add j)=some u)(hlim:len+new.length<=lim):
  ∃v' w' μ',(Builtin.append_ #[t,t] ty #[.slice base len cap,.slice ax new.length c]).run P w=.ok v' w'/\HR w' X μ' (hp.set r (.arr (shOf P e) (es.take len++new++es.drop (len+new.length)) false))/\
   Ext b X μ hp w μ' (hp.set r (.arr (shOf P e) (es.take len++new++es.drop (len+new.length)) false)) w'/\
   AR w' X μ' (hp.set r (.arr (shOf P e) (es.take len++new++es.drop (len+new.length)) false)) (.sl (shOf P e) r (es.take len++new++es.drop (len+new.length)).length 0 (len+new.length)) v':=by
 have hrl:=(Zf.1 ho).1;obtain⟨hpos,harr⟩:=hH.arr r _ es false ho;have hl2:=hN.length;cases hs with
 |sl _ _ _ _ _ _ _ es1 fz1 ho1 hv1 hlc ha hc=>
 rw[ho] at ho1;cases ho1;obtain⟨c1,c2⟩:=hc rfl;by_cases hne:new=[]
 ·subst hne;have e1:es.take len++[]++es.drop (len+([]:List PV).length)=es:=by simp
  rw[e1];have e2:hp.set r (.arr (shOf P e) es false)=hp:=by
   apply Z4
   grind
  rw[e2];exact⟨_,w,μ,qG t ty e ht hok base ax len cap c hlc.1,hH,Ext.refl _ _ _ _ _,.sl _ _ _ _ _ _ _ es false ho hv1 hlc ha hc⟩
 ·obtain⟨ad,rfl,hcells⟩:=hnews hne

  have grown:∀(vals:List Value),ER w (Im X μ hp) (shOf P e) es vals->((base=none/\es.take len=[]/\cap=0)\/∃bd,base=some bd/\∀(j:Nat) (u:Value),(cellsOf (vals.take len))[j]? =some u->w.cell? (bd.add j)=some u)->
    cap<len+new.length->es.length<=len+new.length->∃v' w' μ',(Builtin.append_ #[t,t] ty #[.slice base len cap,.slice (some ad) new.length c]).run P w=.ok v' w'/\HR w' X μ' (hp.set r (.arr (shOf P e) (es.take len++new++es.drop (len+new.length)) false))/\
     Ext b X μ hp w μ' (hp.set r (.arr (shOf P e) (es.take len++new++es.drop (len+new.length)) false)) w'/\
     AR w' X μ' (hp.set r (.arr (shOf P e) (es.take len++new++es.drop (len+new.length)) false)) (.sl (shOf P e) r (es.take len++new++es.drop (len+new.length)).length 0 (len+new.length)) v':=by
   intro vals hE hbase hcap hle;have htl:(es.take len).length=len:=by grind
   have hdn:es.drop (len+new.length)=[]:=Z3 hle;have hel:(es.take len++new++es.drop (len+new.length)).length=len+new.length:=by grind
   obtain⟨c',cells,g1,g2,g3,g4⟩:=Ut (ty:=ty) ht hok hz hby (hE.take len) hN base cap hbase ad c hcells hne (by grind) (by grind);rw[htl] at g1 g2 g4;have hblk:∀k,k<w.heap.size->(w.drew.alloc (.cells cells e)).heap[k]? =w.heap[k]? :=fun k hk=>YQ w.drew _ hk;have E:∀b0,Ext b0 X μ hp w (upd μ r (some w.heap.size)) (hp.set r (.arr (shOf P e) (es.take len++new++es.drop (len+new.length)) false)) (w.drew.alloc (.cells cells e)):=fun b0=>
    Ext.setArr ho (by grind) (fun h=>by cases h) (fun h=>by
     exfalso;rw[hel] at h
     grind) (fun k hk=>by grind) rfl rfl rfl (by simp) (fun k hk _=>hblk k hk) (fun k cs t' fr hk=>⟨cs,by grind,rfl⟩)
   have H:=hH.setArr ho (E 0) (fun k hk _=>hblk k hk) (fun k hk=>by simp_all) (.inr ⟨w.heap.size,cells,e,vals.take len++nvals++vals.drop (len+new.length),rfl,YH w.drew _,?_,?_,?_⟩)
   ·refine⟨_,_,_,g1,H,E b,?_⟩;refine .sl _ _ _ _ _ _ _ _ false (ZC hrl) (Zc _) ⟨g2,by grind⟩ (fun _=>rfl) fun _=>⟨by grind,.inr ⟨w.heap.size,cells,e,zW _ _ _,YH w.drew _,by grind,fun _=>by simp⟩⟩
   ·have:=((hE.take len).append hN).append (hE.drop (len+new.length));exact this.1
   ·have:=ER.ext (E 0) (((hE.take len).append hN).append (hE.drop (len+new.length)));exact this.2
   ·rw[hel,g4];have:vals.drop (len+new.length)=[]:=Z3 (by rw[<-hE.1];grind)
    grind
  rcases harr with⟨h1,h2⟩|⟨bk,cs,t',vals,h1,h2,h3,h4,h5⟩
  ·subst h2;have hl0:len=0:=by grind
   subst hl0;rcases c2 with⟨_,c3⟩|⟨b',_,_,c3,_⟩
   ·subst c3;refine grown [] ER.nil ?_ (by grind) (by simp);cases base with
    |none=>grind
    |some bd=>grind [cellsOf]
   grind
  ·have hE:ER w (Im X μ hp) (shOf P e) es vals:=⟨h3,h4⟩;rcases c2 with⟨c3,_⟩|⟨b',cs',t'',c3,c4,c5,c6⟩
   ·grind
   rw[h1] at c3;cases c3;rw[h2] at c4;cases c4;rw[ZK] at c5;have hcl:cs.toList.length=cs.size:=Zm;have hEl:es.length*(shOf P e).size<=cs.size:=by
    have:=congrArg List.length h5;rw[hE.length,Zx] at this;omega
   by_cases hroom:len+new.length<=cap
   ·have hcap:cap≠0:=by grind
    have hb0:=c6 hcap;simp only[Nat.zero_mul] at hb0;subst hb0;obtain⟨i,z,hi,hiz,hsz,hzs⟩:=okE w hok hz;have hfit:len*(shOf P e).size+new.length*(shOf P e).size<=cs.size:=by rw[<-c5,<-Zv];exact ZP _ hroom
    have hrun:=Us (P:=P) t ty e t' i ht hi bk len cap cs h2 ad new.length c (cellsOf nvals) (by grind) hcells hN.flat hroom (by grind);rw[hsz,hl2] at hrun;generalize hrow:(cs.toList.take (len*(shOf P e).size)++cellsOf nvals++cs.toList.drop (len*(shOf P e).size+new.length*(shOf P e).size))=row at hrun;have hrowl:row.length=cs.size:=by
     grind
    have hel:es.length<=(es.take len++new++es.drop (len+new.length)).length:=by
     grind
    have E:∀b0,Ext b0 X μ hp w (upd μ r (μ r)) (hp.set r (.arr (shOf P e) (es.take len++new++es.drop (len+new.length)) false)) (w.setRow bk row.toArray):=fun b0=>
     Ext.setArr ho hel (fun h=>by cases h) (fun _=>rfl) (fun k hk=>.inl hk) rfl rfl rfl (by simp_all) (fun k hk hm=>setRow_other w bk k _ (fun e=>hm rfl (by grind))) (fun k cs' t'' fr hk=>by
      by_cases ek:k=bk
      ·subst ek;rw[h2] at hk;cases hk;exact⟨_,setRow_heap w k _ _ t' _ h2,by grind⟩
      grind [setRow_other])
    have hER:=((hE.take len).append hN).append (hE.drop (len+new.length));have hcd:cellsOf (vals.drop (len+new.length))=(cs.toList.drop (len*(shOf P e).size+new.length*(shOf P e).size)).take (cellsOf (vals.drop (len+new.length))).length:=by
     rcases Zn es.length (len+new.length) with hlt|hge
     ·grind [Z3,cellsOf]
     ·have h6:=hE.cells_drop (len+new.length) hge
      grind [Zs,Zv]
    have hct:cellsOf (vals.take len)=cs.toList.take (len*(shOf P e).size):=by
     rw[hE.cells_take len (by omega),h5,Zt,Z0];simp_all[ZP]
    have hcc:cellsOf (vals.take len++nvals++vals.drop (len+new.length))=row.take ((es.take len++new++es.drop (len+new.length)).length*(shOf P e).size):=by
     rw[<-hER.length,yJ,yJ,hct]
     grind
    have H:=hH.setArr ho (E 0) (fun k hk hne'=>setRow_other w bk k _ (fun e=>hne' (by grind))) (fun k hk=>⟨.inl hk,by grind [World.setRow]⟩)
     (.inr ⟨bk,row.toArray,t',vals.take len++nvals++vals.drop (len+new.length),h1,setRow_heap w bk _ _ t' _ h2,hER.1,(ER.ext (E 0) hER).2,by grind⟩)
    rw[xP] at H;have E':=E b;rw[xP] at E';refine⟨_,_,μ,hrun,H,E',?_⟩;refine .sl _ _ _ _ _ _ _ _ false (ZC hrl) (Zc _) ⟨hroom,by grind⟩ (fun _=>rfl) fun _=>⟨?_,.inr ⟨bk,row.toArray,t',h1,setRow_heap w bk _ _ t' _ h2,by grind,fun _=>by simp⟩⟩
    grind
   ·have hcE:es.length<=cap:=Nat.le_of_mul_le_mul_right (by grind) hpos;refine grown vals hE ?_ (by omega) (by omega);cases base with
    |none=>
     grind
    |some bd=>
     refine .inr ⟨bd,rfl,?_⟩;by_cases hl0:len=0
     ·grind [cellsOf]
     ·have:=c6 (by omega);simp only[Nat.zero_mul,Option.some.injEq] at this;subst this;refine XW (n:=len*(shOf P e).size) h2 ?_;rw[hE.cells_take len (by omega),h5,Zt,Z0 (ZP _ (by omega))];simp
end Go.Am

/- append and make by the abstract machine's own word; slices written out. -/
namespace Go.Am
variable{P:Program} {w:World} {X:Xc P} {μ:Nat->Option Nat} {hp:Heap}

theorem xp{b:Nat}{ts:Array TypeId}{ty:TypeId}{x y:Value}{v:AV}{hp':Heap}(h:∃v' w' μ',(Builtin.append_ ts ty #[x,y]).run P w=.ok v' w'/\HR w' X μ' hp'/\Ext b X μ hp w μ' hp' w'/\AR w' X μ' hp' v v'):
  Out P b w X μ hp (do pure (.value (<-Builtin.append_ ts ty #[x,y]))) v hp':=by
 obtain⟨v',w',μ',h1,h2,h3,h4⟩:=h;exact⟨.value v',v',w',μ',by simp[h1],.inl rfl,h4,h2,h3⟩

theorem KP{x:AV}{shx:Sh}{new:List PV}{vx:Value}(h:elems hp x=some (shx,new))(hx:AR w X μ hp x vx):∃a m c,vx=.slice a m c:=by
 unfold elems at h;split at h
 ·cases hx with|pv _ _ _ _ hq=>cases hq <;> exact⟨_,_,_,rfl⟩
 ·cases hx;grind
 ·cases hx;grind
 ·cases hx;grind
 ·cases hx;grind
 grind

theorem Uu{b:Nat}{t ty e:TypeId}{x y:Value}{vs:List AV}{v:AV}{hp':Heap}(ht:P.underlying t=some (.slice e))(hok:okT P e=true)(hz:Yt P e=true)(hby:YN P e=true)(hH:HR w X μ hp)
  (hl:LR w X μ hp vs [x,y])(h:z8 (shOf P e) hp vs=some (v,hp')):Out P b w X μ hp (do pure (.value (<-Builtin.append_ #[t,t] ty #[x,y]))) v hp':=by
 have hy:∃a m c,y=.slice a m c:=by
  obtain⟨s,q,rfl,h1,h2⟩:∃s q,vs=[s,q]/\AR w X μ hp s x/\AR w X μ hp q y:=by
   cases hl with|cons h1 r=>cases r with|cons h2 r=>cases r;grind
  grind [z8,aappend,KP]
 obtain⟨ay,m,cy,rfl⟩:=hy;unfold z8 at h;split at h
 ·rename_i s src;obtain⟨_,_,e0,h1,h2⟩:=hl.two;cases e0;unfold aappend at h;split at h
  ·cases h
  ·rename_i shx new hel;obtain⟨rfl,nvals,hN,hcells⟩:=KN hH hel h2;split at h
   ·rename_i hsh;have hN':ER w (Im X μ hp) (shOf P e) new nvals:=by
     rcases hsh with rfl|rfl
     ·exact hN
     ·have:nvals=[]:=Z2 hN.1.symm
      grind [ER.nil]
    split at h
    ·rename_i s0 es;cases h1 with
     |tsl _ _ a hq=>
      split at h
      ·rename_i hse;split at h
       ·rename_i hn;cases h;subst hn;exact xp ⟨_,w,μ,qG t ty e ht hok a ay es.length es.length cy (Zc _),hH,Ext.refl _ _ _ _ _,.tsl _ _ _ hq⟩
       ·rename_i hn;split at h
        ·rename_i hlim;cases h;obtain⟨ad,rfl,hc⟩:=hcells hn;obtain⟨vals,hE,hb⟩:∃vals,ER w (Im X μ hp) (shOf P e) es vals/\((a=none/\es=[]/\es.length=0)\/∃bd,a=some bd/\∀(j:Nat) (u:Value),(cellsOf vals)[j]? =some u->w.cell? (bd.add j)=some u):=by
          cases hq with
          |nilsl=>
           refine⟨[],ER.nil,?_⟩;cases a with
           |none=>grind
           |some bd=>grind [cellsOf]
          |sl _ _ b o _ cs t' fr vals hvl hI hb h1 h2 hc hn=>
           rcases hse with rfl|rfl
           ·exact⟨vals,⟨hvl,fun k p v hp hv=>⟨h1 k p v hp hv,h2 k p v hp hv⟩⟩,.inr ⟨_,rfl,XW hb hc⟩⟩
           ·have:vals=[]:=Z2 hvl.symm;subst this;exact⟨[],ER.nil,.inr ⟨_,rfl,by grind⟩⟩
         have hpn:0<new.length:=List.length_pos_iff.2 hn;obtain⟨c',cells,g1,g2,g3,g4⟩:=Ut (ty:=ty) ht hok hz hby hE hN' a es.length hb ad cy hc hn (by omega) hlim;have hEx:∀b,Ext b X μ hp w μ hp (w.drew.alloc (.cells cells e)):=fun b=>(Ext.drew b).trans (Ext.alloc b _);have hEp:∀b,Ext b X μ hp w (upd μ hp.length (some w.heap.size)) (hp++[.arr (shOf P e) (es++new) false]) (w.drew.alloc (.cells cells e)):=fun b=>Ext.push _ _ (hEx b) (fun k hk=>by grind);have hER:=hE.append hN';refine xp ⟨_,_,upd μ hp.length (some w.heap.size),g1,?_,hEp b,?_⟩
         ·refine hH.push _ _ (hEx 0) (fun i k hi hk=>YQ w.drew _ (hH.out i k hi hk).2) (fun k hk=>by simp_all) (fun _ _ h=>by cases h) (fun s1 es1 fz h=> ?_) (fun _ _ h=>by cases h);cases h;exact⟨Ui hok,.inr ⟨_,cells,e,vals++nvals,rfl,YH w.drew _,hER.1,(ER.ext (hEp 0) hER).2,by grind⟩⟩
         ·exact .sl _ _ _ _ _ _ _ (es++new) false Xa (by simp) ⟨g2,by omega⟩ (fun _=>rfl) fun _=>⟨by simp,.inr ⟨_,cells,e,zW _ _ _,YH w.drew _,by grind,fun _=>by simp⟩⟩
        grind
      grind
    ·rename_i s1 r ver off len;split at h
     ·rename_i s0 es ho;split at h
      ·rename_i hh;obtain⟨rfl,rfl,rfl⟩:=hh;split at h
       ·rename_i hlim;have hs1:s1=shOf P e:=by
         cases h1 with
         |sl _ _ _ _ _ _ _ es' fz' ho'=>grind
        subst hs1;obtain⟨base,cap,rfl⟩:∃base cap,x=.slice base len cap:=by cases h1;grind
        have hclen:len<=es.length:=by
         grind
        have key:=DD (b:=b) (ty:=ty) (c:=cy) ht hok hz hby hH ho h1 hN' hcells hlim;split at h
        ·rename_i hle;cases h;subst hle
         grind [Z3,xp]
        grind [xp,Z3]
       grind
      grind
     grind
    grind
   grind
 grind


theorem DE{b:Nat}{t ty e:TypeId}{x y:Value}{vs:List AV}{v:AV}(ht:P.underlying t=some (.slice e))(hok:okT P e=true)(hz:Yt P e=true)(hby:YN P e=true)(hH:HR w X μ hp)
  (hl:LR w X μ hp vs [x,y])(h:vL (shOf P e) vs=some v):Out P b w X μ hp (do pure (.value (<-Builtin.append_ #[t,t] ty #[x,y]))) v hp:=by
 exact absurd (show(none:Option AV)=some _ from h) (by simp)
theorem J1(w:World)(X:Xc P)(μ:Nat->Option Nat)(hp:Heap):∀(d:Nat) (a:AV) (p:PV) (v:Value),AV.weaken d a=some p->AR w X μ hp a v->PR w (Im X μ hp) p v:=by
 intro d
 induction d with
 |zero=>grind [AV.weaken]
 |succ d ih=>
  have go:∀(l:List (Sh × AV)) (ps:List (Sh × PV)) (vs:List Value),AV.weaken.go d l=some ps->CR w X μ hp l vs->CP w (Im X μ hp) ps vs:=by
   intro l
   induction l with
   |nil=>
    intro ps vs h hc;simp only[AV.weaken.go,Option.some.injEq] at h;subst h;rw[hc.nil_inv];exact CP.nil
   |cons x r ihl=>
    intro ps vs h hc;obtain⟨s,a⟩:=x;obtain⟨v,us,rfl,h1,_,h2,h3⟩:=hc.inv
    grind [AV.weaken.go,CP.cons]
  intro a p v h ha;cases ha with
  |pv sh q v hs hq=>
   grind [AV.weaken]
  |tsl sh es a hq=>
   grind [AV.weaken]
  |agg l vs hl hs hs'=>
   simp only[AV.weaken] at h;split at h
   ·rename_i ps hg;cases h;exact(go _ _ vs hg ⟨hl,hs,hs'⟩).agg
   grind
  |nilv sh=>
   simp only[AV.weaken,Option.some.injEq] at h;subst h;exact .nilsl _ _ _
  |_=>simp[AV.weaken] at h

theorem DG{d:Nat}{a:AV}{p:PV}(h:AV.weaken d a=some p):a.plain=true:=by
 cases d with
 |zero=>grind [AV.weaken]
 |succ d=>cases a <;> first|rfl|grind [AV.weaken]
theorem KQ{d:Nat}{a:AV}{hp hp':Heap}{p:PV}(h:AV.freeze d a hp=some (p,hp')):a.plain=true:=by
 cases d with
 |zero=>grind [AV.freeze]
 |succ d=>cases a <;> first|rfl|grind [AV.freeze]

theorem J2:∀(l:List AV) (ps:List (Sh × PV)) (vs:List Value),YU l=some ps->LR w X μ hp l vs->CP w (Im X μ hp) ps vs
 |[],ps,vs,h,hl=>by
  simp only[YU,Option.some.injEq] at h;subst h;cases hl;exact CP.nil
 |a::r,ps,vs,h,hl=>by
  cases hl with
  |cons ha hr=>
   simp only[YU] at h;split at h
   ·cases h
   ·rename_i p hp1;split at h
    ·rename_i ps' hg;cases h;exact CP.cons (ha.vshp (DG hp1)) (J1 w X μ hp _ _ _ _ hp1 ha) (J2 r ps' _ hg hr)
    grind

theorem qH(b0:Nat):∀(l:List AV) (hp:Heap) (ps:List (Sh × PV)) (hp':Heap) (vs:List Value),zZ l hp=some (ps,hp')->HR w X μ hp->LR w X μ hp l vs->Ext b0 X μ hp w μ hp' w/\HR w X μ hp'/\CP w (Im X μ hp') ps vs
 |[],hp,ps,hp',vs,h,hH,hl=>by
  simp only[zZ,Option.some.injEq,Prod.mk.injEq] at h;obtain⟨rfl,rfl⟩:=h;cases hl
  grind [Ext.refl,CP.nil]
 |a::r,hp,ps,hp',vs,h,hH,hl=>by
  cases hl with
  |cons ha hr=>
   simp only[zZ] at h;split at h
   ·cases h
   ·rename_i p hp1 hf;split at h
    ·rename_i ps' hp2 hg;cases h;obtain⟨e1,k1,k2⟩:=xQ b0 w X μ _ _ _ _ _ _ hf hH ha;have hr':=LR.of hr.length fun i a v h1 h2=>e1.ar (hr.get i a v h1 h2);obtain⟨e2,k3,k4⟩:=qH b0 r hp1 ps' hp' _ hg k1 hr';exact⟨e1.trans e2,k3,CP.cons (ha.vshp (KQ hf)) (e2.pr k2) k4⟩
    grind

theorem J3{I:Nat->Prop}{sh:Sh}:∀{ps:List (Sh × PV)} {es:List PV} {vs:List Value},YG sh ps=some es->CP w I ps vs->ER w I sh es vs
 |[],es,vs,h,hc=>by
  simp only[YG,Option.some.injEq] at h;subst h;rw[hc.nil_inv];exact ER.nil
 |(s,p)::r,es,vs,h,hc=>by
  obtain⟨v,us,rfl,h1,h2,h3⟩:=hc.inv;simp only[YG] at h;split at h
  ·rename_i hs;subst hs;split at h
   ·rename_i l hl;cases h;obtain⟨k1,k2⟩:=J3 hl h3;refine⟨by grind,fun i q u hq hu=> ?_⟩
    grind
   grind
  grind
end Go.Am

/- Structs, arrays and slices written out; make. -/
namespace Go.Am
variable{P:Program} {w:World} {X:Xc P} {μ:Nat->Option Nat} {hp:Heap}

theorem Uv(off:Nat):∀(l:List Value) (k:Nat) (cells:Array Value),off+k+l.length<=cells.size->
  (l.zipIdx k).foldl (fun cs (x:Value × Nat)=>cs.setIfInBounds (off+x.2) x.1) cells=(cells.toList.take (off+k)++l++cells.toList.drop (off+k+l.length)).toArray
 |[],k,cells,h=>by simp
 |c::r,k,cells,h=>by
  have hl:off+k<cells.size:=by grind
  rw[List.zipIdx_cons,List.foldl_cons,Uv off r (k+1) _ (by grind)];have e:=list_seg_step cells.toList (off+k) c r (by grind);simp only[Array.toList_setIfInBounds,Z5]
  congr 1

theorem Uw(place:Nat->Option (Nat × Nat))(cells:Array Value)(i:Nat)(v:Value)(rest:List (Nat × Value))(off:Nat)(hp:place i=some (off,v.cells.size))(hle:off+v.cells.size<=cells.size):
  Instr.fill place cells ((i,v)::rest)=Instr.fill place (cells.toList.take off++v.cells.toList++cells.toList.drop (off+v.cells.size)).toArray rest:=by
 have h1:¬((decide (v.cells.size≠v.cells.size) || decide (off+v.cells.size > cells.size))=true):=by grind
 have h2:=Uv off v.cells.toList 0 cells (by grind)
 grind [Array.toList_zipIdx,Instr.fill]

theorem Ux{sz:Nat}:∀(us done:List Value) (cells:Array Value),(∀v∈us,v.cells.size=sz)->(∀v∈done,v.cells.size=sz)->cells.size=(done.length+us.length)*sz->cells.toList.take (done.length*sz)=cellsOf done->
  Instr.fill (fun i=>some (i*sz,sz)) cells ((List.range' done.length us.length).zip us)=some (cellsOf (done++us)).toArray
 |[],done,cells,_,_,hs,ht=>by
  simp only[List.zip_nil_right,Instr.fill,ZL]
  congr 1
  grind
 |v::r,done,cells,hu,hd,hs,ht=>by
  have hv:=hu v (by simp);have hle:done.length*sz+v.cells.size<=cells.size:=by grind [Zv]
  rw[Z5,List.range'_succ,List.zip_cons_cons,Uw _ _ _ _ _ (done.length*sz) (by rw[hv]) hle];have hcl:cells.toList.length=cells.size:=Zm;have hl:(cells.toList.take (done.length*sz)).length=done.length*sz:=by grind
  have ih:=Ux r (done++[v]) ((cells.toList.take (done.length*sz)++v.cells.toList++cells.toList.drop (done.length*sz+v.cells.size)).toArray) (fun x hx=>hu x (by grind))
   (fun x hx=>by grind) (by
    grind) (by
    have e:(done++[v]).length*sz=(cells.toList.take (done.length*sz)++v.cells.toList).length:=by grind
    grind [cellsOf])
  grind

theorem KR{parts:Array (Nat × Operand)}{ρ:Operand->Value}:(parts.map fun(x:Nat × Operand)=>(x.1,ρ x.2)).toList=(parts.toList.map (·.1)).zip ((parts.toList.map (·.2)).map ρ):=by
 grind [Array.toList_map]

theorem Uy{t e:TypeId}{n:Nat}{parts:Array (Nat × Operand)}{ρ:Operand->Value}(ht:P.underlying t=some (.slice e))(hok:okT P e=true)(hz:Yt P e=true)(hr:parts.toList.map (·.1)=List.range n)(hn:n*P.cellsOf e<=65536)
  (hsizes:∀v∈(parts.toList.map (·.2)).map ρ,v.cells.size=(shOf P e).size):
  (Instr.buildSlice t n (parts.map fun(x:Nat × Operand)=>(x.1,ρ x.2))).run P w=.ok (.slice (some ⟨w.heap.size,0,none⟩) n n) (w.alloc (.cells (cellsOf ((parts.toList.map (·.2)).map ρ)).toArray e))/\((parts.toList.map (·.2)).map ρ).length=n:=by
 obtain⟨i,z,hi,hiz,hsz,hzs⟩:=okE w hok hz;have hce:P.cellsOf e=(shOf P e).size:=by grind [Program.cellsOf]
 rw[hce] at hn;have hlen:((parts.toList.map (·.2)).map ρ).length=n:=by
  grind [List.length_map]
 refine⟨?_,hlen⟩;have hbig:¬n*(shOf P e).size > 2 ^ 24:=by omega
 have hzero:(zeroValue e).run P w=.ok z w:=by simp_all[zeroValue,typeInfo]
 have fillEq:∀cells:Array Value,cells.size=n*(shOf P e).size->Instr.fill (fun i=>some (i*(shOf P e).size,(shOf P e).size)) cells (parts.map fun(x:Nat × Operand)=>(x.1,ρ x.2)).toList=some (cellsOf ((parts.toList.map (·.2)).map ρ)).toArray:=by
  intro cells hc;rw[KR,hr,List.range_eq_range'];have:=Ux (sz:=(shOf P e).size) ((parts.toList.map (·.2)).map ρ) [] cells hsizes (by simp) (by grind) (by simp[cellsOf])
  grind
 by_cases h0:n*(shOf P e).size=0
 ·have hf:=fillEq (Array.map (fun x=>(#[]:Array Value)[x % (#[]:Array Value).size]!) (Array.range (n*(shOf P e).size))) (by simp);simp[Instr.buildSlice,run_underlying ht,yW hok,h0,newRow] at hf ⊢;simp[hf]
 ·have hf:=fillEq (Array.map (fun x=>z.cells[x % z.cells.size]!) (Array.range (n*(shOf P e).size))) (by simp);simp[Instr.buildSlice,run_underlying ht,yW hok,hbig,h0,newRow,hzero] at hf ⊢;simp[hf]

theorem KS{t e:TypeId}{n:Nat}{parts:Array (Nat × Operand)}{ρ:Operand->Value}{I:Nat->Prop}{es:List PV}(ht:P.underlying t=some (.slice e))(hok:okT P e=true)(hz:Yt P e=true)(hr:parts.toList.map (·.1)=List.range n)(hn:n*P.cellsOf e<=65536)
  (hE:ER w I (shOf P e) es ((parts.toList.map (·.2)).map ρ)):
  (Instr.buildSlice t n (parts.map fun(x:Nat × Operand)=>(x.1,ρ x.2))).run P w=.ok (.slice (some ⟨w.heap.size,0,none⟩) n n) (w.alloc (.cells (cellsOf ((parts.toList.map (·.2)).map ρ)).toArray e))/\es.length=n:=by
 obtain⟨h1,h2⟩:=Uy (w:=w) ht hok hz hr hn hE.sizes;exact⟨h1,hE.1.trans h2⟩

theorem Uz{b n:Nat}{sh:Sh}{es:List PV}{vals:List Value}{t:TypeId}(hH:HR w X μ hp)(hE:ER w (Im X μ hp) sh es vals)(hn:es.length=n):
  AR (w.alloc (.cells (cellsOf vals).toArray t)) X μ hp (.tsl sh es) (.slice (some ⟨w.heap.size,0,none⟩) n n)/\HR (w.alloc (.cells (cellsOf vals).toArray t)) X μ hp/\Ext b X μ hp w μ hp (w.alloc (.cells (cellsOf vals).toArray t)):=by
 subst hn;refine⟨.tsl _ _ _ ?_,hH.alloc _,Ext.alloc b _⟩;have hE':=ER.ext (Ext.alloc (X:=X) (μ:=μ) (hp:=hp) (w:=w) 0 (.cells (cellsOf vals).toArray t)) hE;refine .sl sh es w.heap.size 0 es.length _ t (0,0) vals hE.1 ⟨fun hx=>by have:=hH.xlt _ hx;omega,fun i hl e=>by have:=(hH.out i _ (yV hl) e).2;omega⟩ (YH w _) (fun i p v hp hv=>(hE'.2 i p v hp hv).1) (fun i p v hp hv=>(hE'.2 i p v hp hv).2) ?_ (Zc _);simp only[List.drop_zero];rw[Zl (by rw[hE.length];grind)]
end Go.Am

/- Structs and arrays written out; strings cut; type assertions; make. -/
namespace Go.Am
variable{P:Program} {w:World} {X:Xc P} {μ:Nat->Option Nat} {hp:Heap}

theorem DH{l:List (Sh × AV)}{vals:List Value}{i:Nat}{sh:Sh}{a0 a:AV}{v:Value}(hc:CR w X μ hp l vals)(hi:l[i]? =some (sh,a0))(ha:AR w X μ hp a v)(hs:vshp v=sh)(hf:Flat v):
  CR w X μ hp (l.set i (sh,a)) (vals.set i v)/\total (l.take i)+v.cells.size<=(cellsOf vals).length/\cellsOf (vals.set i v)=(cellsOf vals).take (total (l.take i))++v.cells.toList++(cellsOf vals).drop (total (l.take i)+v.cells.size):=by
 induction l generalizing vals i with
 |nil=>grind
 |cons x r ih=>
  obtain⟨s,a1⟩:=x;obtain⟨u,us,rfl,h1,h2,h3,h4⟩:=hc.inv;have hul:u.cells.toList.length=s.size:=by rw[Zm,Yu,h1]
  have hvs:v.cells.size=sh.size:=by rw[Yu,hs]
  cases i with
  |zero=>
   simp only[List.getElem?_cons_zero,Option.some.injEq,Prod.mk.injEq] at hi;obtain⟨rfl,rfl⟩:=hi
   grind [CR.cons,total,Yc]
  |succ i=>
   obtain⟨k1,k2,k3⟩:=ih h4 (by simpa using hi);refine⟨CR.cons h1 h2 h3 k1,by grind [total,Yc],?_⟩;simp only[List.set_cons_succ,ZE,total,Yc];rw[k3,zf,List.drop_append,Zl (by omega:u.cells.toList.length<=s.size+total (r.take i)),Z3 (by omega:u.cells.toList.length<=s.size+total (r.take i)+v.cells.size),hul,
    show s.size+total (r.take i) - s.size=total (r.take i) by omega,show s.size+total (r.take i)+v.cells.size - s.size=total (r.take i)+v.cells.size by omega]
   simp

theorem DI{l:List (Sh × AV)}{i:Nat}{sh:Sh}{a0 a:AV}(hi:l[i]? =some (sh,a0))(k:Nat):total ((l.set i (sh,a)).take k)=total (l.take k)/\(l.set i (sh,a)).map (·.1)=l.map (·.1):=by
 induction l generalizing i k with
 |nil=>grind
 |cons x r ih=>
  cases i with
  |zero=>
   simp only[List.getElem?_cons_zero,Option.some.injEq] at hi;subst hi;cases k with
   |zero=>grind
   |succ k=>simp[total]
  |succ i=>
   have h:=fun k=>ih (i:=i) (by grind) k;cases k with
   |zero=>simp_all
   |succ k=>simp_all[total]

theorem KT{place:Nat->Option (Nat × Nat)}:∀(idx:List Nat) (azs:List AV) (l l':List (Sh × AV)) (us vals:List Value) (cells:Array Value),Qj l idx azs=some l'->CR w X μ hp l vals->cells.toList=cellsOf vals->LR w X μ hp azs us->
  (∀i sh,(l.map (·.1))[i]? =some sh->place i=some (total (l.take i),sh.size))->∃vals',Instr.fill place cells (idx.zip us)=some (cellsOf vals').toArray/\CR w X μ hp l' vals'
 |[],azs,l,l',us,vals,cells,h,hc,hcells,hl,hplace=>by
  grind [Qj,Option.some.injEq,List.zip_nil_left,Instr.fill]
 |i::idx,azs,l,l',us,vals,cells,h,hc,hcells,hl,hplace=>by
  cases azs with
  |nil=>grind [Qj]
  |cons a r=>
   cases hl with
   |cons ha hr=>
    rename_i v us';simp only[Qj] at h;split at h
    ·rename_i sh a0 hi;split at h
     ·rename_i hh;have hs:vshp v=sh:=by rw[ha.vshp hh.2,hh.1]
      have hvs:v.cells.size=sh.size:=by rw[Yu,hs]
      obtain⟨k1,k2,k3⟩:=DH hc hi ha hs (ha.flat hh.2);have hpl:=hplace i sh (by grind);have hcl:cells.toList.length=cells.size:=Zm;rw[List.zip_cons_cons,Uw place cells i v _ (total (l.take i)) (by grind) (by grind)];refine KT idx r _ l' us' (vals.set i v) _ h k1 (by grind) hr fun j s hj=> ?_
      grind [DI]
     grind
    grind

theorem DJ(P:Program)(d:Nat)(cs:Array Value):∀(fs:List Field) (o:Nat) (l:List (Sh × AV)),ofValue.fields P d cs o fs=some l->l.map (·.1)=fs.map (fun f=>shOf P f.type)/\∀i f,fs[i]? =some f->f.offset=o+total (l.take i):=by
 intro fs
 induction fs with
 |nil=>
  grind [Qs]
 |cons f r ih=>
  intro o l h;simp only[ofValue.fields,Qs] at h;split at h
  ·rename_i ho;split at h
   ·cases h
   ·split at h
    ·rename_i l' hl';cases h;obtain⟨h1,h2⟩:=ih _ _ hl';refine⟨by grind,fun i g hg=> ?_⟩;cases i with
     |zero=>grind [total]
     |succ i=>
      grind [total]
    grind
  grind
theorem DK(P:Program)(d:Nat)(cs:Array Value)(sh:Sh)(t:TypeId):∀(n o:Nat) (l:List (Sh × AV)),ofValue.items P d cs sh t o n=some l->∀i s,(l.map (·.1))[i]? =some s->s=sh/\total (l.take i)=i*sh.size:=by
 intro n
 induction n with
 |zero=>
  grind [Qt]
 |succ n ih=>
  intro o l h;simp only[ofValue.items,Qt] at h;split at h
  ·cases h
  ·split at h
   ·rename_i l' hl';cases h;intro i s hs;cases i with
    |zero=>grind [total]
    |succ i=>
     grind [total]
   grind

theorem UB{l l':List (Sh × AV)}(h:(AV.ofComps l).comps=some l'):l'.map (·.1)=l.map (·.1):=by
 have key:∀(l:List (Sh × AV)) (ps:List (Sh × PV)),pures l=some ps->ps.map (·.1)=l.map (·.1):=by
  intro l
  induction l with
  |nil=>grind [pures]
  |cons x r ih=>
   intro ps h;obtain⟨s,a⟩:=x;cases a with
   |pv s' p=>
    grind [pures]
   |_=>simp[pures] at h
 grind [AV.ofComps,AV.comps,Function.comp_def]
theorem KU{α β:Type}:∀{a:List (Sh × α)} {b:List (Sh × β)},a.map (·.1)=b.map (·.1)->∀i,total (a.take i)=total (b.take i)
 |[],[],_,i=>by simp[total]
 |[],_::_,h,i=>by grind
 |_::_,[],h,i=>by grind
 |x::r,y::q,h,i=>by
  simp only[ZV,List.cons.injEq] at h;cases i with
  |zero=>simp[total]
  |succ i=>simp[total,h.1,KU h.2 i]

theorem DL{fs:List Field}(hok:fs.all (fun f=>okT P f.type)=true):(fs.mapM (fun f=>do pure (f.offset,<-sizeOf f.type)):Sem (List (Nat × Nat))).run P w=.ok (fs.map fun f=>(f.offset,(shOf P f.type).size)) w:=by
 induction fs with
 |nil=>rfl
 |cons f r ih=>
  simp_all[yW]

theorem DM{t:TypeId}{z:AV}{l:List (Sh × AV)}(hz:Yw P t=some z)(hl:z.comps=some l)(w:World)(X:Xc P)(μ:Nat->Option Nat)(hp:Heap):
  ∃cs vals,(zeroValue t).run P w=.ok (.agg cs) w/\cs.toList=cellsOf vals/\CR w X μ hp l vals/\
   (∀fs,P.underlying t=some (.struct fs)->l.map (·.1)=fs.toList.map (fun f=>shOf P f.type)/\∀i f,fs[i]? =some f->f.offset=total (l.take i))/\
   (∀n e,P.underlying t=some (.array n e)->∀i s,(l.map (·.1))[i]? =some s->s=shOf P e/\total (l.take i)=i*(shOf P e).size):=by
 obtain⟨v,h1,h2,h3⟩:=xo (w:=w) (X:=X) (μ:=μ) (hp:=hp) hz;obtain⟨vals,rfl,hc⟩:=Ue hl h2;refine⟨_,vals,h1,rfl,hc,?_,?_⟩
 ·intro fs ht;unfold Yw at hz;split at hz
  ·split at hz
   ·rename_i zv hzv;unfold ofValue at hz;split at hz <;> first|(simp only[Option.some.injEq] at hz;subst hz;simp[AV.comps] at hl;done)|skip
    ·grind
    ·simp only[ht] at hz;split at hz
     ·rename_i l0 hl0;cases hz;obtain⟨f1,f2⟩:=DJ P _ _ _ _ _ hl0;have hm:=UB hl;refine⟨by grind,fun i f hf=> ?_⟩;rw[f2 i f (by grind),ZK]
      grind [KU]
     grind
    grind
   grind
  grind
 ·intro n e ht;unfold Yw at hz;split at hz
  ·split at hz
   ·rename_i zv hzv;unfold ofValue at hz;split at hz <;> first|(simp only[Option.some.injEq] at hz;subst hz;simp[AV.comps] at hl;done)|skip
    ·grind
    ·simp only[ht] at hz;split at hz
     ·rename_i l0 hl0;cases hz;have hm:=UB hl;intro i s hs;rw[hm] at hs;obtain⟨a1,a2⟩:=DK P _ _ _ _ _ _ _ hl0 i s hs
      grind [KU]
     grind
    grind
   grind
  grind

theorem KV{t:TypeId}{parts:Array (Nat × Operand)}{ρ:Operand->Value}{z:AV}{l:List (Sh × AV)}{vs:List AV}{v:AV}(hz:Yw P t=some z)(hc:z.comps=some l)
  (ht:(∃fs,P.underlying t=some (.struct fs)/\fs.toList.all (fun f=>okT P f.type)=true)\/∃n e,P.underlying t=some (.array n e)/\okT P e=true)
  (hl:LR w X μ hp vs ((parts.toList.map (·.2)).map ρ))(h:zQ l (parts.toList.map (·.1)) vs=some v):Yh P w X μ hp (do pure (.value (<-Instr.build t (parts.map fun(x:Nat × Operand)=>(x.1,ρ x.2))))) v:=by
 obtain⟨cs,vals,z1,z2,z3,z4,z5⟩:=DM hz hc w X μ hp;unfold zQ at h;split at h
 ·split at h
  ·rename_i l' hl';cases h;rcases ht with⟨fs,ht,hok⟩|⟨n,e,ht,hok⟩
   ·obtain⟨f1,f2⟩:=z4 fs ht;obtain⟨vals',k1,k2⟩:=KT (place:=((fs.map fun f=>(f.offset,(shOf P f.type).size))[·]?)) _ _ _ _ _ _ cs hl' z3 z2 hl (by
     grind)
    refine⟨.agg (cellsOf vals').toArray,?_,k2.ofComps⟩;have hm:(fs.mapM (fun f=>do pure (f.offset,<-sizeOf f.type)):Sem (Array (Nat × Nat))).run P w=.ok (fs.map fun f=>(f.offset,(shOf P f.type).size)) w:=by
     rw[Array.mapM_eq_mapM_toList];simp only[Sem.run_map,DL hok,Result.andThen_ok,<-Array.toList_map,Array.toArray_toList]
    rw[<-KR] at k1;simp_all[Instr.build,run_underlying,Value.cells]
   ·have f2:=z5 n e ht;obtain⟨vals',k1,k2⟩:=KT (place:=fun i=>some (i*(shOf P e).size,(shOf P e).size)) _ _ _ _ _ _ cs hl' z3 z2 hl (by
     grind)
    refine⟨.agg (cellsOf vals').toArray,?_,k2.ofComps⟩;rw[<-KR] at k1;simp only[Instr.build,Sem.run_bind,z1,Result.andThen_ok,run_underlying ht,yW hok,Value.cells,k1,Sem.run_pure]
  grind
 grind
end Go.Am

/- Structs compared; strings cut; type assertions; maps read and written. -/
namespace Go.Am
variable{P:Program} {w:World} {X:Xc P} {μ:Nat->Option Nat} {hp:Heap}

theorem xT{t:TypeId}{d:TypeDesc}(ht:P.underlying t=some d)(hn:shOf P t=none){cs:Array Value}{o:Nat}{v:Value}(h:cs[o]? =some v):(part t cs o).run P w=.ok v w:=by
 grind [part,Sem.run_bind,Uj,Result.andThen_ok,Sem.run_pure]

theorem PR.int_inv{I:Nat->Prop}{k:IntKind}{n:Int}{v:Value}(h:PR w I (.int k n) v):v=.int k n:=by cases h;rfl
theorem PR.str_inv{I:Nat->Prop}{s:List UInt8}{v:Value}(h:PR w I (.str s) v):v=.string ⟨s.toArray⟩:=by cases h;rfl
theorem PR.bool_inv{I:Nat->Prop}{b:Bool}{v:Value}(h:PR w I (.bool b) v):v=.bool b:=by cases h;rfl

theorem QC{α:Type}{l:List α}{o:Nat}{a:α}{r:List α}(h:l.drop o=a::r):l[o]? =some a/\l.drop (o+1)=r:=by
 have h1:(l.drop o)[0]? =some a:=by grind
 refine⟨by grind,?_⟩;have h2:=congrArg (List.drop 1) h
 grind [ZB]

theorem J4{I:Nat->Prop}(d:Nat)(xs ys:Array Value):∀(fs:List Field) (ds:List Nat) (o:Nat) (lx ly:List (Sh × PV)) (vx vy:List Value) (b:Bool),
  Qu P o fs=some ds->Yd ds lx ly=some b->CP w I lx vx->CP w I ly vy->xs.toList.drop o=cellsOf vx->ys.toList.drop o=cellsOf vy->(Op.eqFields (d+1) xs ys fs).run P w=.ok b w
 |[],ds,o,lx,ly,vx,vy,b,hk,he,hx,hy,h1,h2=>by
  cases hk;cases lx <;> cases ly <;> simp[Yd] at he
  subst he;rfl
 |f::r,ds,o,lx,ly,vx,vy,b,hk,he,hx,hy,h1,h2=>by
  simp only[Qu] at hk;split at hk
  ·rename_i hf;obtain⟨rfl,hf⟩:=hf;split at hk
   ·rename_i k l hd hl;cases hk;have hn:shOf P f.type=none:=by grind [shOf]
    match lx,ly,he,hx,hy with
    |(none,.int k1 a)::lx,(none,.int k2 a')::ly,he,hx,hy=>
     simp only[Yd] at he;split at he
     ·rename_i hkk;subst hkk;obtain⟨u,us,rfl,_,g1,g2⟩:=hx.inv;obtain⟨v,vs,rfl,_,g3,g4⟩:=hy.inv;have e1:=g1.int_inv;have e2:=g3.int_inv;subst e1;subst e2;simp only[Yc,Value.cells,Zq,Zu] at h1 h2;obtain⟨a1,a2⟩:=QC h1;obtain⟨b1,b2⟩:=QC h2;have p1:=xT (w:=w) hd hn (by simpa using a1);have p2:=xT (w:=w) hd hn (by simpa using b1);simp only[Op.eqFields,hf,if_true,ne_eq,not_false_eq_true,Sem.run_bind,p1,p2,Result.andThen_ok,run_equalIn_int w d _ _ _ _ _ hd];split at he
      ·rename_i hab;subst hab;simp only[BEq.rfl,Bool.not_true,ZJ,if_false];exact J4 d xs ys r l _ lx ly us vs b hl he g2 g4 a2 b2
      simp_all
     grind
    |[],_,he,_,_=>grind [Yd]
    |_,[],he,_,_=>grind [Yd]
   ·rename_i l hd hl;cases hk;have hn:shOf P f.type=none:=by grind [shOf]
    match lx,ly,he,hx,hy with
    |(none,.str a)::lx,(none,.str a')::ly,he,hx,hy=>
     simp only[Yd] at he;obtain⟨u,us,rfl,_,g1,g2⟩:=hx.inv;obtain⟨v,vs,rfl,_,g3,g4⟩:=hy.inv;have e1:=g1.str_inv;have e2:=g3.str_inv;subst e1;subst e2;simp only[Yc,Value.cells,Zq,Zu] at h1 h2;obtain⟨a1,a2⟩:=QC h1;obtain⟨b1,b2⟩:=QC h2;have p1:=xT (w:=w) hd hn (by simpa using a1);have p2:=xT (w:=w) hd hn (by simpa using b1);simp only[Op.eqFields,hf,if_true,ne_eq,not_false_eq_true,Sem.run_bind,p1,p2,Result.andThen_ok,run_equalIn_string w d _ _ _ hd,ByteArray.toList_mk];split at he
     ·rename_i hab;subst hab;simp only[BEq.rfl,Bool.not_true,ZJ,if_false];exact J4 d xs ys r l _ lx ly us vs b hl he g2 g4 a2 b2
     simp_all
    |[],_,he,_,_=>grind [Yd]
    |_,[],he,_,_=>grind [Yd]
   ·rename_i l hd hl;cases hk;have hn:shOf P f.type=none:=by grind [shOf]
    match lx,ly,he,hx,hy with
    |(none,.bool a)::lx,(none,.bool a')::ly,he,hx,hy=>
     simp only[Yd] at he;obtain⟨u,us,rfl,_,g1,g2⟩:=hx.inv;obtain⟨v,vs,rfl,_,g3,g4⟩:=hy.inv;have e1:=g1.bool_inv;have e2:=g3.bool_inv;subst e1;subst e2;simp only[Yc,Value.cells,Zq,Zu] at h1 h2;obtain⟨a1,a2⟩:=QC h1;obtain⟨b1,b2⟩:=QC h2;have p1:=xT (w:=w) hd hn (by simpa using a1);have p2:=xT (w:=w) hd hn (by simpa using b1);simp only[Op.eqFields,hf,if_true,ne_eq,not_false_eq_true,Sem.run_bind,p1,p2,Result.andThen_ok,run_equalIn_bool' w d _ _ _ hd];split at he
     ·rename_i hab;subst hab;simp only[BEq.rfl,Bool.not_true,ZJ,if_false];exact J4 d xs ys r l _ lx ly us vs b hl he g2 g4 a2 b2
     simp_all
    |[],_,he,_,_=>grind [Yd]
    |_,[],he,_,_=>grind [Yd]
   grind
  grind

theorem DN{o:BinOp}(ho:o=.eql\/o=.neq){t:TypeId}{x y:Operand}{vx vy:Value}{ds:List Nat}{vs:List AV}{v:AV}(hd:yi P t=some ds)(hl:LR w X μ hp vs [vx,vy])(h:sEqs (yp o) ds vs=some v):
  Yh P w X μ hp (do pure (.value (<-(do eqGuard o t x y vx vy;binOp o t vx vy)))) v:=by
 exact absurd (show(none:Option AV)=some _ from h) (by simp)
end Go.Am

/- Maps; strings cut; type assertions; make. -/
namespace Go.Am
variable{P:Program} {w:World} {X:Xc P} {μ:Nat->Option Nat} {hp:Heap}

theorem Ext.setMap{b0 r:Nat}{sh:Sh}{old new:List (PV × PV)}(hr:hp[r]? =some (.map sh old)){w':World}{b:Nat}(hb:μ r=some b)(hos:w'.os=w.os)(ht:w'.tape=w.tape)(ho:w'.output=w.output)
  (hsz:w'.heap.size=w.heap.size)(hoth:∀k,k≠b->w'.heap[k]? =w.heap[k]?)(hsh:∀cs t fr,w.heap[b]?≠some (.cells cs t fr)):Ext b0 X μ hp w μ (hp.set r (.map sh new)) w' where
 os:=hos
 tape:=ht
 output:=ho
 size:=by omega
 blk k hk hm:=hoth k fun e=>by
  grind [Am.live]
 shape k cs t fr hk:=by
  grind
 len:=by simp
 box i s u hi:=by
  grind
 arr i s es fz hi:=by
  grind
 map i s es hi:=by
  grind
 loop i f ps env bz hi:=by
  grind
 arv i s es hi:=by
  have e:i≠r:=by grind
  have e2:(hp.set r (.map sh new))[i]? =some (.arv s es):=by grind
  exact⟨es.length,by rw[e2];rfl,Zc _,fun _=>rfl,fun es' h' _=>by grind⟩
 new i h1 h2:=by grind
 mov i _ k hk:=.inl hk

theorem HR.setMap{b0 r:Nat}{sh:Sh}{old new:List (PV × PV)}(h:HR w X μ hp)(hr:hp[r]? =some (.map sh old)){w':World}{b:Nat}(hb:μ r=some b)(E:Ext b0 X μ hp w μ (hp.set r (.map sh new)) w')(hoth:∀k,k≠b->w'.heap[k]? =w.heap[k]?)
  {ents:Array MapEntry}{clock:Nat}(h1:w'.heap[b]? =some (.map ents clock))(h2:MR w (Im X μ hp) sh new ents.toList):HR w' X μ (hp.set r (.map sh new)):=by
 have hlen:(hp.set r (.map sh new)).length=hp.length:=by simp
 have other:∀i k,i<hp.length->i≠r->μ i=some k->w'.heap[k]? =w.heap[k]? :=fun i k hi hne hk=>hoth k fun e=>by
  subst e;exact hne (h.inj i r k hi (Zf.1 hr).1 hk hb)
 refine⟨?_,?_,?_,?_,?_,?_,?_,?_,h.tab.mono E.pr⟩
 ·intro i j k hi hj;rw[hlen] at hi hj;exact h.inj i j k hi hj
 ·intro i k hi hk;rw[hlen] at hi;exact⟨(h.out i k hi hk).1,Zp (h.out i k hi hk).2 E.size⟩
 ·exact fun k hx=>Zp (h.xlt k hx) E.size
 ·intro i s u hi;rcases Y5 hi with⟨rfl,e⟩|⟨hne,hi⟩
  ·cases e
  ·obtain⟨k,val,t,k1,k2,k3,k4,k5⟩:=h.box i s u hi;exact⟨k,val,t,k1,by grind,k3,k4,E.ar k5⟩
 ·intro i s es fz hi;rcases Y5 hi with⟨rfl,e⟩|⟨hne,hi⟩
  ·cases e
  ·obtain⟨k0,k1⟩:=h.arr i s es fz hi;refine⟨k0,?_⟩;rcases k1 with k1|⟨k,cs,t,vals,k1,k2,k3,k4,k5⟩
   ·grind
   ·exact .inr ⟨k,cs,t,vals,k1,by grind,k3,fun j p v hj hv=>⟨(k4 j p v hj hv).1,E.pr (k4 j p v hj hv).2⟩,k5⟩
 ·intro i s es hi;rcases Y5 hi with⟨rfl,e⟩|⟨hne,hi⟩
  ·cases e;exact⟨b,ents,clock,hb,h1,h2.map.mono E.pr⟩
  ·obtain⟨k,ents,clock,k1,k2,k3⟩:=h.map i s es hi;exact⟨k,ents,clock,k1,by grind,k3.mono E.pr⟩
 ·intro i f ps env bz hi;rcases Y5 hi with⟨rfl,e⟩|⟨hne,hi⟩
  ·cases e
  ·obtain⟨l,rc,k1,k2,k3,k4,k5,k6,k7⟩:=h.loop i f ps env bz hi;exact⟨l,rc,k1,by grind,k3,k4,k5,k6,fun x hx=>⟨(k7 x hx).1,E.ar (k7 x hx).2⟩⟩
 ·intro i s es hi;rcases Y5 hi with⟨rfl,e⟩|⟨hne,hi⟩
  ·cases e
  ·obtain⟨h0,k,cs,t,vals,k1,k2,k3,k4,k5⟩:=h.arv i s es hi;exact⟨h0,k,cs,t,vals,k1,by grind,k3,fun j p v hj hv=>⟨(k4 j p v hj hv).1,E.ar (k4 j p v hj hv).2⟩,k5⟩

theorem MR.nil{I:Nat->Prop}{sh:Sh}{ents:List MapEntry}(h:MR w I sh [] ents):ents=[]:=Z2 (by have:=h.1;grind)
theorem MR.inv{I:Nat->Prop}{sh:Sh}{x:PV × PV}{es:List (PV × PV)}{ents:List MapEntry}(h:MR w I sh (x::es) ents):∃e r,ents=e::r/\PR w I x.1 e.key/\PR w I x.2 e.val/\vshp e.val=sh/\MR w I sh es r:=by
 cases ents with
 |nil=>have:=h.1;grind
 |cons e r=>
  obtain⟨a,b,c⟩:=h.2 0 x e rfl rfl;exact⟨e,r,rfl,a,b,c,by have:=h.1;grind,fun k y f hy hf=>h.2 (k+1) y f (by grind) (by grind)⟩
theorem MR.cons{I:Nat->Prop}{sh:Sh}{x:PV × PV}{e:MapEntry}{es:List (PV × PV)}{ents:List MapEntry}(h1:PR w I x.1 e.key)(h2:PR w I x.2 e.val)(h3:vshp e.val=sh)(h:MR w I sh es ents):MR w I sh (x::es) (e::ents):=by
 refine⟨by simp[h.1],fun k y f hy hf=> ?_⟩;cases k with
 |zero=>grind
 |succ k=>exact h.2 k y f (by grind) (by grind)

def KK(s:Bool)(d:TypeDesc):Prop:=(s=true/\d=.string)\/(s=false/\∃k,d=.int k)
theorem UC{t:TypeId}{s:Bool}(h:Qv P t=some s):∃d,P.underlying t=some d/\KK s d:=by
 unfold Qv at h;split at h
 ·rename_i hd;cases h;exact⟨_,hd,.inl ⟨rfl,rfl⟩⟩
 ·rename_i k hd;cases h;exact⟨_,hd,.inr ⟨rfl,k,rfl⟩⟩
 grind

theorem DO(n:Nat)(k:IntKind)(a:Int):Instr.sameBits n (.int k a) (.int k a)=true:=by grind [Instr.sameBits]
theorem DP(n:Nat)(a:List UInt8):Instr.sameBits n (.string ⟨a.toArray⟩) (.string ⟨a.toArray⟩)=true:=by
 grind [Instr.sameBits,beq_toListBytes]
theorem J5{I:Nat->Prop}{s:Bool}{d:TypeDesc}{k k':PV}{v v':Value}{b:Bool}(hd:KK s d)(h:PV.same s k k'=some b)(h1:PR w I k v)(h2:PR w I k' v'):Instr.sameNow d v v'=some b/\(b=true->v=v')/\Instr.sameBits 10000 v v=true:=by
 unfold PV.same at h;split at h
 ·split at h
  ·rename_i hk;cases h;subst hk;rcases hd with⟨hd,_⟩|⟨_,q,rfl⟩
   ·cases hd
   ·rw[h1.int_inv,h2.int_inv]
    grind [DO,Instr.sameNow]
  grind
 ·cases h;rcases hd with⟨_,rfl⟩|⟨hd,_⟩
  ·rw[h1.str_inv,h2.str_inv]
   grind [DP,Instr.sameNow,beq_toListBytes,ByteArray.toList_mk]
  grind
 grind

def Narrow(es:List (PV × PV)):Prop:=es=[]\/∃x r,es=x::r/\∀l,x.1≠.agg l
theorem MapR.scalar{I:Nat->Prop}{sh:Sh}{es:List (PV × PV)}{ents:Array MapEntry}(h:MapR w I sh es ents)(hn:Narrow es):MR w I sh es ents.toList:=by
 obtain⟨l,h1,h2,h3⟩:=h;rcases h3 with rfl|h3
 ·exact h2
 ·rcases hn with rfl|⟨x,r,rfl,hx⟩
  ·have h4:l=[]:=Z2 (by have:=h2.1;grind);simp_all
  ·obtain⟨q,hq⟩:=h3 x (by simp)
   grind
theorem UD{s:Bool}{k k':PV}{b:Bool}(h:PV.same s k k'=some b):∀l,k'≠.agg l:=by
 grind [PV.same]
theorem DQ{s:Bool}{k:PV}{es:List (PV × PV)}{r:Option PV}(h:afind s k es=some r):Narrow es:=by
 cases es with
 |nil=>exact .inl rfl
 |cons x es=>
  obtain⟨k',v⟩:=x;refine .inr ⟨_,_,rfl,?_⟩
  grind [afind,UD]
theorem DR{s:Bool}{k v:PV}{es es':List (PV × PV)}(h:aput s k v es=some es'):Narrow es:=by
 cases es with
 |nil=>exact .inl rfl
 |cons x es=>
  obtain⟨k',v'⟩:=x;refine .inr ⟨_,_,rfl,?_⟩
  grind [aput,UD]

theorem KW{I:Nat->Prop}{s:Bool}{d:TypeDesc}{sh:Sh}{k:PV}{kv:Value}(hd:KK s d)(hk:PR w I k kv):∀(es:List (PV × PV)) (ents:List MapEntry) (i:Nat) (r:Option PV),afind s k es=some r->MR w I sh es ents->
  ∃q,Instr.findNow d kv ents i=some q/\match r with|none=>q=none|some p=>∃j v,q=some (j,v)/\PR w I p v/\vshp v=sh
 |[],ents,i,r,h,hm=>by
  cases h;rw[hm.nil];exact⟨none,rfl,rfl⟩
 |(k',v')::es,ents,i,r,h,hm=>by
  obtain⟨e,rest,rfl,g1,g2,g3,g4⟩:=hm.inv;simp only[afind] at h;split at h
  ·cases h
  ·rename_i hs;cases h;obtain⟨n1,n2⟩:=J5 hd hs hk g1;exact⟨some (i,e.val),by grind [Instr.findNow],i,e.val,rfl,g2,g3⟩
  ·rename_i hs;obtain⟨n1,n2⟩:=J5 hd hs hk g1;obtain⟨q,q1,q2⟩:=KW hd hk es rest (i+1) r h g4
   grind [Instr.findNow]

theorem UE{I:Nat->Prop}{s:Bool}{d:TypeDesc}{sh:Sh}{k p:PV}{kv pv:Value}(hd:KK s d)(hk:PR w I k kv)(hp:PR w I p pv)(hs:vshp pv=sh):∀(es:List (PV × PV)) (ents:List MapEntry) (i:Nat) (es':List (PV × PV)),aput s k p es=some es'->MR w I sh es ents->
  (Instr.findNow d kv ents i=some none/\∀b,MR w I sh es' (ents++[{ key:=kv,val:=pv,born:=b }]))\/
  (∃j e v,Instr.findNow d kv ents i=some (some (i+j,v))/\ents[j]? =some e/\e.key=kv/\Instr.sameBits 10000 kv kv=true/\MR w I sh es' (ents.modify j fun e=>{ e with key:=kv,val:=pv }))
 |[],ents,i,es',h,hm=>by
  cases h;rw[hm.nil];exact .inl ⟨rfl,fun b=>MR.cons hk hp hs ⟨rfl,by simp⟩⟩
 |(k',v')::es,ents,i,es',h,hm=>by
  obtain⟨e,rest,rfl,g1,g2,g3,g4⟩:=hm.inv;simp only[aput] at h;split at h
  ·cases h
  ·rename_i hsm;cases h;obtain⟨n1,n2⟩:=J5 hd hsm hk g1;refine .inr ⟨0,e,e.val,by grind [Instr.findNow],rfl,(n2.1 rfl).symm,n2.2,?_⟩
   grind [MR.cons]
  ·rename_i hsm;obtain⟨n1,n2⟩:=J5 hd hsm hk g1;split at h
   ·rename_i l hl;cases h;rcases UE hd hk hp hs es rest (i+1) l hl g4 with⟨a1,a2⟩|⟨j,f,v,a1,a2,a3,a5,a4⟩
    ·grind [Instr.findNow,MR.cons]
    ·refine .inr ⟨j+1,f,v,by grind [Instr.findNow],a2,a3,a5,?_⟩
     grind [MR.cons]
   grind

theorem DS{s:Bool}{d:TypeDesc}{t:TypeId}(e:Bool)(ht:P.underlying t=some d)(hd:KK s d)(v:Value)(n:Nat):(Instr.checkKey e (n+1) t v).run P w=.ok () w:=by
 rcases hd with⟨_,rfl⟩|⟨_,k,rfl⟩ <;> simp[Instr.checkKey,run_underlying ht]
theorem J6{s:Bool}{d:TypeDesc}{t:TypeId}(e:Bool)(ht:P.underlying t=some d)(hd:KK s d)(v:Value):(Instr.checkKey e 10000 t v).run P w=.ok () w:=DS e ht hd v 9999
theorem QD{r:Nat}{es:Array MapEntry}{clock:Nat}(hb:w.heap[r]? =some (.map es clock)):(getObj r).run P w=.ok (.map es clock) w:=by grind [getObj,Sem.run]
theorem KX{r:Nat}{es:Array MapEntry}{clock:Nat}(o:Obj)(hb:w.heap[r]? =some (.map es clock)):(setObj r o).run P w=.ok () { w with heap:=w.heap.setIfInBounds r o }:=by grind [setObj,Sem.run]

theorem DT{t tk te:TypeId}{s:Bool}{x k:Value}{z:AV}{ok:Bool}{vs:List AV}{v:AV}(ht:P.underlying t=some (.map tk te))(hk:Qv P tk=some s)(hz:Yw P te=some z)(hH:HR w X μ hp)(hl:LR w X μ hp vs [x,k])
  (h:YF s (shOf P te) z ok hp vs=some v):Yh P w X μ hp (do pure (.value (<-Instr.lookup t x k ok))) v:=by
 obtain⟨d,hd,hKK⟩:=UC hk;obtain⟨zv,z1,z2,z3⟩:=xo (w:=w) (X:=X) (μ:=μ) (hp:=hp) hz;unfold YF at h;split at h
 ·rename_i r s0 kp;obtain⟨a,b,e,h1,h2⟩:=hl.two;cases e;cases h1 with|map _ b0 sh0 es0 ho0 hb0=>
  cases h2 with|pv _ _ _ _ h2=>
  split at h
  ·rename_i sh es hr;split at h
   ·rename_i hsh;subst hsh;obtain⟨b1,ents,clock,m1,m2,m3⟩:=hH.map r _ _ hr;rw[hb0] at m1;cases m1;have hM:∀{r},afind s kp es=some r->MR w (Im X μ hp) (shOf P te) es ents.toList:=fun hf=>m3.scalar (DQ hf);split at h
    ·rename_i p hf;cases h;obtain⟨q,q1,j,v,rfl,q3,q4⟩:=KW hKK h2 es ents.toList 0 _ hf (hM hf);have hrun:(Instr.lookup t (.map (some b0)) k ok).run P w=.ok (if ok=true then .tuple #[v,.bool true] else v) w:=by
      simp[Instr.lookup,run_underlying ht,QD m2,J6 _ hd hKK,Instr.findKey,run_underlying hd,q1]
     cases ok
     ·exact ye hrun (.pv _ _ _ q4 q3)
     ·exact ye hrun (.tuple _ [v,.bool true] rfl (fun i a u ha hu=>by
       match i,ha,hu with
       |0,ha,hu=>simp at ha hu;subst ha;subst hu;exact .pv _ _ _ q4 q3
       |1,ha,hu=>simp at ha hu;subst ha;subst hu;exact .mkBool _))
    ·rename_i hf;cases h;obtain⟨q,q1,rfl⟩:=KW hKK h2 es ents.toList 0 _ hf (hM hf);have hrun:(Instr.lookup t (.map (some b0)) k ok).run P w=.ok (if ok=true then .tuple #[zv,.bool false] else zv) w:=by
      simp[Instr.lookup,run_underlying ht,QD m2,J6 _ hd hKK,Instr.findKey,run_underlying hd,q1,z1]
     cases ok
     ·grind [ye]
     ·exact ye hrun (.tuple _ [zv,.bool false] rfl (fun i a u ha hu=>by
       match i,ha,hu with
       |0,ha,hu=>grind
       |1,ha,hu=>simp at ha hu;subst ha;subst hu;exact .mkBool _))
    grind
   grind
  grind
 grind

theorem UF:∀(l:List (Sh × PV)) (vs:List Value),l.length=vs.length->l.all (fun x=>x.1.isNone)=true->(∀(i:Nat) (x:Sh × PV) (v:Value),l[i]? =some x->vs[i]? =some v->vshp v=x.1)->cellsOf vs=vs
 |_,[],_,_,_=>rfl
 |[],v::vs,h,_,_=>by grind
 |x::l,v::vs,h,h1,h2=>by
  simp only[ZR,Zk,Option.isNone_iff_eq_none] at h1;have e:=h2 0 x v rfl rfl;rw[h1.1] at e;rw[Yc,UF l vs (by grind) h1.2 fun i x v hx hv=>h2 (i+1) x v (by grind) (by grind)];cases v <;> first|rfl|grind [vshp]
theorem DU{t e:TypeId}{n:Nat}{x ix:Value}{vs:List AV}{v:AV}(ht:P.underlying t=some (.array n e))(hok:okT P e=true)(hsh:shOf P e=none)(hl:LR w X μ hp vs [x,ix])(h:Qm n vs=some v):Yh P w X μ hp (do pure (.value (<-Instr.index t x ix))) v:=by
 unfold Qm at h;split at h
 ·rename_i s1 l s2 k i;split at h
  ·rename_i h0;obtain⟨h0,h1,h2⟩:=h0;split at h
   ·rename_i s p hc;cases h;obtain⟨_,_,e0,g1,g2⟩:=hl.two;cases e0;cases g2.int_inv;cases g1 with|pv _ _ _ _ g1=>
    cases g1 with|agg _ us hlen k1 k2=>
    have hi:i.toNat<us.length:=by grind
    have hu:us[i.toNat]? =some us[i.toNat]:=Ze hi;have hs:s=none:=by
     have:=Zr.1 h2 _ (Zh hc);simp_all
    subst hs;obtain⟨d,hd⟩:∃d,P.underlying e=some d:=by
     grind [okT]
    have hz:=yW hok w;rw[hsh] at hz;have hz':(sizeOf e).run P w=.ok 1 w:=hz;have hp:=xT (w:=w) hd hsh (cs:=(cellsOf us).toArray) (o:=i.toNat*1) (v:=us[i.toNat]) (by grind [UF]);refine⟨us[i.toNat],?_,.pv _ _ _ (k1 _ _ _ hc hu) (k2 _ _ _ hc hu)⟩;simp_all[Instr.index,asIntOf,run_underlying]
   grind
  grind
 grind

theorem UG{I:Nat->Prop}(em:Bool)(d:Nat)(xs:Array Value):∀(fs:List Field) (ds:List Nat) (o:Nat) (lx:List (Sh × PV)) (vx:List Value),
  Qu P o fs=some ds->Yd ds lx lx=some true->CP w I lx vx->xs.toList.drop o=cellsOf vx->
  (forIn fs PUnit.unit (fun(f:Field) (_:PUnit)=>(if f.name≠ "_" then(do let v <-part f.type xs f.offset;Instr.checkKey em (d+1) f.type v;pure (ForInStep.yield PUnit.unit)) else pure (ForInStep.yield PUnit.unit):Sem (ForInStep PUnit)))).run P w=.ok PUnit.unit w
 |[],ds,o,lx,vx,hk,he,hx,h1=>by simp
 |f::r,ds,o,lx,vx,hk,he,hx,h1=>by
  simp only[Qu] at hk;split at hk
  ·rename_i hf;obtain⟨rfl,hf⟩:=hf;have fin:∀{dt:TypeDesc} {l:List Nat} {v:Value} {lx':List (Sh × PV)} {vs:List Value},P.underlying f.type=some dt->shOf P f.type=none->(∀n,(Instr.checkKey em (n+1) f.type v).run P w=.ok () w)->Qu P (f.offset+1) r=some l->Yd l lx' lx'=some true->CP w I lx' vs->xs.toList.drop f.offset=v::cellsOf vs->
     (forIn (f::r) PUnit.unit (fun(f:Field) (_:PUnit)=>(if f.name≠ "_" then(do let v <-part f.type xs f.offset;Instr.checkKey em (d+1) f.type v;pure (ForInStep.yield PUnit.unit)) else pure (ForInStep.yield PUnit.unit):Sem (ForInStep PUnit)))).run P w=.ok PUnit.unit w:=by
    intro dt l v lx' vs hd hn hck hl he' hx' hc;obtain⟨a1,a2⟩:=QC hc;have p1:=xT (w:=w) hd hn (by simpa using a1);have ih:=UG em d xs r l _ lx' vs hl he' hx' a2;simp_all
   split at hk
   ·rename_i k l hd hl;cases hk;have hn:shOf P f.type=none:=by grind [shOf]
    match lx,he,hx with
    |(none,.int k1 a)::lx,he,hx=>
     simp only[Yd,if_true] at he;obtain⟨u,us,rfl,_,g1,g2⟩:=hx.inv;have e1:=g1.int_inv;subst e1;exact fin hd hn (fun n=>by simp[Instr.checkKey,run_underlying hd]) hl he g2 (by simpa[Yc,Value.cells] using h1)
    |[],he,_=>grind [Yd]
   ·rename_i l hd hl;cases hk;have hn:shOf P f.type=none:=by grind [shOf]
    match lx,he,hx with
    |(none,.str a)::lx,he,hx=>
     simp only[Yd,if_true] at he;obtain⟨u,us,rfl,_,g1,g2⟩:=hx.inv;have e1:=g1.str_inv;subst e1;exact fin hd hn (fun n=>by simp[Instr.checkKey,run_underlying hd]) hl he g2 (by simpa[Yc,Value.cells] using h1)
    |[],he,_=>grind [Yd]
   ·rename_i l hd hl;cases hk;have hn:shOf P f.type=none:=by grind [shOf]
    match lx,he,hx with
    |(none,.bool a)::lx,he,hx=>
     simp only[Yd,if_true] at he;obtain⟨u,us,rfl,_,g1,g2⟩:=hx.inv;have e1:=g1.bool_inv;subst e1;exact fin hd hn (fun n=>by simp[Instr.checkKey,run_underlying hd]) hl he g2 (by simpa[Yc,Value.cells] using h1)
    |[],he,_=>grind [Yd]
   grind
  grind

theorem KY{I:Nat->Prop}{t:TypeId}{ds:List Nat}{k k':List (Sh × PV)}{kv kv':Value}{b:Bool}(hd:yi P t=some ds)(h1:PR w I (.agg k) kv)(h2:PR w I (.agg k') kv')(h:Yd ds k k'=some b):(Op.equal t kv kv').run P w=.ok b w:=by
 cases h1 with|agg _ ux hl1 k1 k1'=>
 cases h2 with|agg _ uy hl2 k2 k2'=>
 unfold yi at hd;split at hd
 ·rename_i fs ht;split at hd
  ·rename_i hg;have hfo:P.fieldsOf t=fs:=by grind [Program.fieldsOf]
   show(Op.equalIn 10000 t _ _).run P w=_;rw[run_equalIn_agg w 9999 t _ _ (by grind) hg.1,hfo];exact J4 9998 _ _ _ _ 0 _ _ ux uy b hd h ⟨hl1,k1,k1'⟩ ⟨hl2,k2,k2'⟩ (by simp) (by simp)
  grind
 grind
theorem KZ{I:Nat->Prop}{t:TypeId}{ds:List Nat}{k:List (Sh × PV)}{kv:Value}(em:Bool)(hd:yi P t=some ds)(h1:PR w I (.agg k) kv)(h:Yd ds k k=some true):(Instr.checkKey em 10000 t kv).run P w=.ok () w:=by
 cases h1 with|agg _ ux hl1 k1 k1'=>
 unfold yi at hd;split at hd
 ·rename_i fs ht;split at hd
  ·rename_i hg;have:=UG (P:=P) (w:=w) em 9998 (cellsOf ux).toArray fs.toList ds 0 k ux hd h ⟨hl1,k1,k1'⟩ (by simp);rw[show(10000:Nat)=9999+1 from rfl,Instr.checkKey];simp_all[run_underlying]
  grind
 grind
theorem K0{I:Nat->Prop}{t:TypeId}{ds:List Nat}{sh:Sh}{k:List (Sh × PV)}{kv:Value}(hd:yi P t=some ds)(hk:PR w I (.agg k) kv):∀(es:List (PV × PV)) (l:List MapEntry) (r:Option PV),afindr ds k es=some r->MR w I sh es l->
  (∀e∈l,∃b,(Op.equal t kv e.key).run P w=.ok b w/\(b=true->∃p,r=some p/\PR w I p e.val/\vshp e.val=sh))/\(r≠none->∃e∈l,(Op.equal t kv e.key).run P w=.ok true w)
 |[],l,r,h,hm=>by
  cases h;have:l=[]:=Z2 (by have:=hm.1;grind)
  grind
 |(k',v)::es,l,r,h,hm=>by
  obtain⟨e,rest,rfl,g1,g2,g3,g4⟩:=hm.inv;unfold afindr at h;split at h
  ·grind
  ·rename_i k1 v1 r1 heq;cases heq;split at h
   ·rename_i hq;split at h
    ·rename_i hr;cases h;obtain⟨a1,_⟩:=K0 hd hk es rest none hr g4;have ee:=KY hd hk g1 hq
     grind
    grind
   ·rename_i hq;obtain⟨a1,a2⟩:=K0 hd hk es rest r h g4;refine⟨fun x hx=> ?_,fun hr=> ?_⟩
    ·rcases Zy.1 hx with rfl|hx
     ·exact⟨false,KY hd hk g1 hq,fun h=>by cases h⟩
     grind
    grind
   grind
  grind
theorem K4{I:Nat->Prop}{t:TypeId}{sh:Sh}{kv:Value}{r:Option PV}:∀(l:List MapEntry) (i:Nat),(∀e∈l,∃b,(Op.equal t kv e.key).run P w=.ok b w/\(b=true->∃p,r=some p/\PR w I p e.val/\vshp e.val=sh))->
  ∃q,(Instr.findAsking t kv l i).run P w=.ok q w/\((q=none/\∀e∈l,(Op.equal t kv e.key).run P w=.ok false w)\/∃j v p,q=some (j,v)/\r=some p/\PR w I p v/\vshp v=sh)
 |[],i,_=>⟨none,by simp[Instr.findAsking],.inl ⟨rfl,by simp⟩⟩
 |e::l,i,h=>by
  obtain⟨b,b1,b2⟩:=h e (by simp);cases b with
  |true=>
   obtain⟨p,p1,p2,p3⟩:=b2 rfl;exact⟨some (i,e.val),by simp[Instr.findAsking,b1],.inr ⟨i,e.val,p,rfl,p1,p2,p3⟩⟩
  |false=>
   obtain⟨q,q1,q2⟩:=K4 l (i+1) fun x hx=>h x (Zw _ hx);simp_all[Instr.findAsking]
theorem UH{I:Nat->Prop}{t:TypeId}{ds:List Nat}{sh:Sh}{k:List (Sh × PV)}{kv:Value}{es:List (PV × PV)}{ents:Array MapEntry}{r:Option PV}(hd:yi P t=some ds)(hk:PR w I (.agg k) kv)(h:afindr ds k es=some r)(hm:MapR w I sh es ents):
  ∃q,(Instr.findKey t kv ents.toList).run P w=.ok q w/\match r with|none=>q=none|some p=>∃j v,q=some (j,v)/\PR w I p v/\vshp v=sh:=by
 obtain⟨l,h1,h2,_⟩:=hm;obtain⟨a1,a2⟩:=K0 hd hk es l r h h2;obtain⟨q,q1,q2⟩:=K4 (r:=r) (sh:=sh) (I:=I) ents.toList 0 fun e he=>a1 e (h1.mem_iff.2 he);have ht:∃fs,P.underlying t=some (.struct fs):=by
  grind [yi]
 obtain⟨fs,ht⟩:=ht;have hrun:(Instr.findKey t kv ents.toList).run P w=.ok q w:=by
  unfold Instr.findKey;simp only[Sem.run_bind,run_underlying ht,Result.andThen_ok];cases he:ents.toList with
  |nil=>
   grind [Instr.findAsking,Instr.findNow]
  |cons x rest=>
   grind [Instr.findNow,Instr.sameNow]
 grind

theorem DV{t tk te:TypeId}{ds:List Nat}{x k:Value}{z:AV}{ok:Bool}{vs:List AV}{v:AV}(ht:P.underlying t=some (.map tk te))(hk:yi P tk=some ds)(hz:Yw P te=some z)(hH:HR w X μ hp)(hl:LR w X μ hp vs [x,k])
  (h:XA ds (shOf P te) z ok hp vs=some v):Yh P w X μ hp (do pure (.value (<-Instr.lookup t x k ok))) v:=by
 obtain⟨zv,z1,z2,z3⟩:=xo (w:=w) (X:=X) (μ:=μ) (hp:=hp) hz;unfold XA at h;split at h
 ·rename_i r s0 kp;obtain⟨a,b,e,h1,h2⟩:=hl.two;cases e;cases h1 with|map _ b0 sh0 es0 ho0 hb0=>
  cases h2 with|pv _ _ _ _ h2=>
  split at h
  ·rename_i sh es hr;split at h
   ·rename_i hsh;obtain⟨rfl,hkk⟩:=hsh;obtain⟨b1,ents,clock,m1,m2,m3⟩:=hH.map r _ _ hr;rw[hb0] at m1;cases m1;split at h
    ·rename_i p hf;cases h;obtain⟨q,q1,j,v,rfl,q3,q4⟩:=UH hk h2 hf m3;have hrun:(Instr.lookup t (.map (some b0)) k ok).run P w=.ok (if ok=true then .tuple #[v,.bool true] else v) w:=by
      simp[Instr.lookup,run_underlying ht,QD m2,KZ _ hk h2 hkk,q1]
     cases ok
     ·exact ye hrun (.pv _ _ _ q4 q3)
     ·exact ye hrun (.tuple _ [v,.bool true] rfl (fun i a u ha hu=>by
       match i,ha,hu with
       |0,ha,hu=>simp at ha hu;subst ha;subst hu;exact .pv _ _ _ q4 q3
       |1,ha,hu=>simp at ha hu;subst ha;subst hu;exact .mkBool _))
    ·rename_i hf;cases h;obtain⟨q,q1,rfl⟩:=UH hk h2 hf m3;have hrun:(Instr.lookup t (.map (some b0)) k ok).run P w=.ok (if ok=true then .tuple #[zv,.bool false] else zv) w:=by
      simp[Instr.lookup,run_underlying ht,QD m2,KZ _ hk h2 hkk,q1,z1]
     cases ok
     ·grind [ye]
     ·exact ye hrun (.tuple _ [zv,.bool false] rfl (fun i a u ha hu=>by
       match i,ha,hu with
       |0,ha,hu=>grind
       |1,ha,hu=>simp at ha hu;subst ha;subst hu;exact .mkBool _))
    grind
   grind
  grind
 grind

theorem UI{b:Nat}{t tk te:TypeId}{s:Bool}{x k y:Value}{vs:List AV}{v:AV}{hp':Heap}(ht:P.underlying t=some (.map tk te))(hk:Qv P tk=some s)(hH:HR w X μ hp)(hl:LR w X μ hp vs [x,k,y])
  (h:yR s (shOf P te) hp vs=some (v,hp')):Out P b w X μ hp (do Instr.mapUpdate t x k y;pure .skip) v hp':=by
 obtain⟨d,hd,hKK⟩:=UC hk;unfold yR at h;split at h
 ·rename_i r s0 kp a;obtain⟨u1,u2,u3,e,h1,h2,h3⟩:=hl.three;cases e;split at h
  ·rename_i hs;split at h
   ·cases h
   ·rename_i p hp1 hfz;obtain⟨e1,hH1,h3p⟩:=xQ b w X μ _ _ _ _ _ _ hfz hH h3;have hy:vshp y=shOf P te:=by rw[h3.vshp (KQ hfz),hs]
    have h1':=e1.ar h1;cases h1' with|map _ b0 sh0 es0 ho0 hb0=>
    have h2':=e1.ar h2;cases h2' with|pv _ _ _ _ h2'=>
    split at h
    ·rename_i sh es hr;split at h
     ·rename_i hsh;subst hsh;split at h
      ·rename_i es' hput;cases h;obtain⟨b1,ents,clock,m1,m2,m3⟩:=hH1.map r _ _ hr;rw[hb0] at m1;cases m1;have hM:MR w (Im X μ hp1) (shOf P te) es ents.toList:=m3.scalar (DR hput);have fin:∀(ents':Array MapEntry) (clock':Nat),MR w (Im X μ hp1) (shOf P te) es' ents'.toList->(Instr.mapUpdate t (.map (some b0)) k y).run P w=.ok () { w with heap:=w.heap.setIfInBounds b0 (.map ents' clock') }->
         Out P b w X μ hp (do Instr.mapUpdate t (.map (some b0)) k y;pure .skip) .undef (hp1.set r (.map (shOf P te) es')):=by
        intro ents' clock' hM' hrun;have oth:∀k,k≠b0->(w.heap.setIfInBounds b0 (.map ents' clock'))[k]? =w.heap[k]? :=fun k hk=>by grind
        have E:∀b,Ext b X μ hp1 w μ (hp1.set r (.map (shOf P te) es')) { w with heap:=w.heap.setIfInBounds b0 (.map ents' clock') }:=fun b=>
         Ext.setMap hr hb0 rfl rfl rfl (by simp) oth (fun cs t fr e=>by grind)
        exact xS hrun (hH1.setMap hr hb0 (E 0) oth (by rw[Array.getElem?_setIfInBounds_self_of_lt (yt m2)]) hM') (e1.trans (E b))
       rcases UE hKK h2' h3p hy es ents.toList 0 es' hput hM with⟨a1,a2⟩|⟨j,f,v,a1,a2,a3,a5,a4⟩
       ·refine fin (ents.push { key:=k,val:=y,born:=clock }) (clock+1) (by grind) ?_;simp[Instr.mapUpdate,run_underlying ht,QD m2,J6 _ hd hKK,Instr.findKey,run_underlying hd,a1,KX _ m2]
       ·rw[ZK] at a1;refine fin (ents.modify j fun e=>{ e with key:=k,val:=y }) clock (by grind) ?_;have hkeep:∀w:World,(Instr.keyThatStays k k).run P w=.ok k w:=by
         simp_all[Instr.keyThatStays]
        have hj:ents[j]? =some f:=by grind
        simp[Instr.mapUpdate,run_underlying ht,QD m2,J6 _ hd hKK,Instr.findKey,run_underlying hd,a1,KX _ m2,hj,a3,hkeep]
      grind
     grind
    grind
  grind
 grind

theorem LR.inv1{x:Value}{vs:List AV}(h:LR w X μ hp vs [x]):∃a,vs=[a]/\AR w X μ hp a x:=by
 cases h with|cons h r=>cases r;grind
theorem LR.inv2{x y:Value}{vs:List AV}(h:LR w X μ hp vs [x,y]):∃a b,vs=[a,b]/\AR w X μ hp a x/\AR w X μ hp b y:=by
 cases h with|cons h r=>obtain⟨u,rfl,h2⟩:=r.inv1;grind
theorem LR.inv3{x y z:Value}{vs:List AV}(h:LR w X μ hp vs [x,y,z]):∃a b c,vs=[a,b,c]/\AR w X μ hp a x/\AR w X μ hp b y/\AR w X μ hp c z:=by
 cases h with|cons h r=>obtain⟨u,v,rfl,h2,h3⟩:=r.inv2;grind

theorem DW{t:TypeId}{x:Value}{lo hi:Option Value}{rest:List Value}{vs:List AV}{v:AV}(ht:P.underlying t=some .string)(hr:rest=lo.toList++hi.toList)(hl:LR w X μ hp vs (x::rest))(h:vK lo.isSome hi.isSome vs=some v):
  Yh P w X μ hp (do pure (.value (<-Instr.sliceAt t x lo hi none))) v:=by
 exact absurd (show(none:Option AV)=some _ from h) (by simp)
theorem PR.bare{w:World}{I:Nat->Prop}{p:PV}{v:Value}(h:PR w I p v):PR w I p.bare v:=by
 unfold PV.bare;split
 ·rename_i n q;cases h with
  |agg _ vs hl hs hs'=>
   match vs,hl with
   |[u],_=>
    have h1:=hs 0 _ u rfl rfl;have h2:=hs' 0 _ u rfl rfl;have e:(Value.agg (cellsOf [u]).toArray)=u:=by
     cases u <;> simp[vshp] at h1
     simp[cellsOf,Value.cells]
    grind
 grind
theorem DY{t xt:TypeId}{d:TypeDesc}{z:AV}{ok:Bool}{x:Value}{vs:List AV}{v:AV}(ht:P.underlying t=some d)(hd:∀ms,d≠.interface ms)(hz:Yw P t=some z)(hl:LR w X μ hp vs [x])
  (h:yP t (shOf P t) z ok vs=some v):Yh P w X μ hp (do pure (.value (<-Instr.typeAssert x xt t ok))) v:=by
 obtain⟨zv,z1,z2,z3⟩:=xo (w:=w) (X:=X) (μ:=μ) (hp:=hp) hz;have pair:∀{a:AV} {u:Value} (b:Bool),AR w X μ hp a u->AR w X μ hp (.tuple [a,.pv none (.bool b)]) (.tuple #[u,.bool b]):=fun{a u} b ha=>
  .tuple _ [u,.bool b] rfl (fun i c q hc hq=>by
   match i,hc,hq with
   |0,hc,hq=>grind
   |1,hc,hq=>simp at hc hq;subst hc;subst hq;exact .mkBool _)
 unfold yP at h;split at h
 ·rename_i s0 u s p;obtain⟨y,e,h1⟩:=hl.one;cases e;cases h1 with|pv _ _ _ hs h1=>
  cases h1 with|iface _ _ _ vv hs1 h2=>
  split at h
  ·rename_i hu;obtain⟨rfl,rfl⟩:=hu;cases h;have hrun:(Instr.typeAssert (.iface u vv) xt u ok).run P w=.ok (if ok=true then .tuple #[vv,.bool true] else vv) w:=by
    simp_all[Instr.typeAssert,run_underlying]
   cases ok
   ·exact ye hrun (.pv _ _ _ hs1 h2.bare)
   ·exact ye hrun (pair true (.pv _ _ _ hs1 h2.bare))
  ·split at h
   ·cases h
   ·rename_i hne;cases ok
    ·cases h
    ·cases h;have hrun:(Instr.typeAssert (.iface u vv) xt t true).run P w=.ok (.tuple #[zv,.bool false]) w:=by
      simp_all[Instr.typeAssert,run_underlying]
     grind [ye]
 ·obtain⟨y,e,h1⟩:=hl.one;cases e;cases h1 with|pv _ _ _ hs h1=>
  cases h1;cases ok
  ·cases h
  ·cases h;have hrun:(Instr.typeAssert .nilIface xt t true).run P w=.ok (.tuple #[zv,.bool false]) w:=by
    simp_all[Instr.typeAssert,run_underlying]
   grind [ye]
 grind

theorem K5(zc:Array Value):∀n:Nat,(madeCells zc (n*zc.size)).toList=(List.replicate n zc.toList).flatten
 |0=>by simp[madeCells]
 |n+1=>by
  rw[List.replicate_succ',List.flatten_append,<-K5 zc n];apply Z4;intro i;have hs:(madeCells zc (n*zc.size)).toList.length=n*zc.size:=by simp[madeCells]
  have e:(n+1)*zc.size=n*zc.size+zc.size:=Nat.succ_mul _ _;by_cases h:i<n*zc.size
  ·grind [madeCells]
  ·rw[ZD (by omega),hs];by_cases h2:i<(n+1)*zc.size
   ·have hm:i % zc.size=i - n*zc.size:=by
     have:i=(i - n*zc.size)+n*zc.size:=by omega
     conv=>lhs;rw[this]
     rw[Nat.add_mul_mod_self_right,Nat.mod_eq_of_lt (by omega)]
    grind [madeCells]
   grind [madeCells]

theorem UJ(z:Value)(n:Nat):cellsOf (List.replicate n z)=(List.replicate n z.cells.toList).flatten:=by
 induction n with
 |zero=>rfl
 |succ n ih=>grind [Yc]

theorem UK{z:Value}{n c:Nat}(h:n<=c):(madeCells z.cells (c*z.cells.size)).toList.take (n*z.cells.size)=cellsOf (List.replicate n z):=by
 rw[K5,UJ];have e:c=n+(c - n):=by omega
 rw[e,<-List.replicate_append_replicate,List.flatten_append,ZF];simp[List.length_flatten]

theorem DZ{b:Nat}{t e:TypeId}{z:PV}{x y:Value}{vs:List AV}{v:AV}{hp':Heap}(ht:P.underlying t=some (.slice e))(hok:okT P e=true)(hzo:Yt P e=true)(hby:YN P e=true)(hz:(Yw P e).bind pvOf=some z)
  (hH:HR w X μ hp)(hl:LR w X μ hp vs [x,y])(h:xH (shOf P e) z hp vs=some (v,hp')):Out P b w X μ hp (do pure (.value (<-Instr.makeSlice t x y))) v hp':=by
 unfold xH at h;split at h
 ·rename_i s1 k1 n s2 k2 c;obtain⟨u1,u2,eq,h1,h2⟩:=hl.two;cases eq;split at h
  ·rename_i hb;obtain⟨hb0,hb1,hb2,hb3⟩:=hb;cases h;rw[h1.int_inv,h2.int_inv];cases hza:Yw P e with
   |none=>grind
   |some za=>
   rw[hza] at hz;obtain⟨i,zv,hi,hiz,hsz,hzs⟩:=okE w hok hzo;obtain⟨zv',z1,z2,z3⟩:=xo (w:=w) (X:=X) (μ:=μ) (hp:=hp) hza;have hzz:zv'=zv:=by
    simp_all[zeroValue,typeInfo]
   subst hzz;have hzpr:PR w (Im X μ hp) z zv':=J1 w X μ hp _ _ _ _ hz z2;have hzsh:vshp zv'=shOf P e:=by
    have:=z2.vshp z3
    grind [Yt]
   unfold YN at hby
   rw[hi] at hby
   have hby':i.bytes<=1024:=by grind
   have hrun:=run_make (P:=P) w t e i zv' ht hi hiz k1 k2 n c hb0 hb1 (by
    unfold lim at hb2;have:(i.bytes:Int)*c<=1024*1073741824:=Int.mul_le_mul (by omega) (by omega) (by omega) (by omega);omega) (by grind [lim])
   rw[hsz,<-hzs] at hrun;generalize hcells:madeCells zv'.cells (c.toNat*zv'.cells.size)=cells at hrun;have hcsz:cells.size=c.toNat*(shOf P e).size:=by grind [size_madeCells]
   have E:∀b,Ext b X μ hp w (upd μ hp.length (some w.heap.size)) (hp++[.arr (shOf P e) (List.replicate n.toNat z) false]) (w.alloc (.cells cells e)):=fun b=>Ext.push _ _ (Ext.alloc b _) (fun k hk=>by grind);refine⟨.value (.slice (some ⟨w.heap.size,0,none⟩) n.toNat c.toNat),_,_,upd μ hp.length (some w.heap.size),by simp_all,.inl rfl,?_,?_,E b⟩
   ·refine .sl _ _ _ _ _ _ _ (List.replicate n.toNat z) false Xa (by simp) ⟨by omega,by omega⟩ (fun _=>rfl) fun _=>⟨by simp,.inr ⟨w.heap.size,cells,e,zW _ _ _,YH w _,by grind,fun _=>by simp⟩⟩
   ·refine hH.push _ _ (Ext.alloc 0 _) (fun i k hi hk=>YQ w _ (hH.out i k hi hk).2) (fun k hk=>by simp_all) (fun _ _ h=>by cases h) (fun s es fz h=> ?_) (fun _ _ h=>by cases h);cases h;refine⟨hb3,.inr ⟨w.heap.size,cells,e,List.replicate n.toNat zv',rfl,YH w _,by simp,fun k p u hp hu=> ?_,?_⟩⟩
    ·rw[List.getElem?_replicate] at hp hu;split at hp
     ·rename_i hk;rw[Zj hk] at hu;cases hp;cases hu;exact⟨hzsh,(E 0).pr hzpr⟩
     grind
    grind [UK]
  grind
 grind
end Go.Am

/- Slices written out; clear; what a row of stores does. -/
namespace Go.Am
variable{P:Program} {w:World} {X:Xc P} {μ:Nat->Option Nat} {hp:Heap}

theorem UL{r b:Nat}{sh:Sh}{es es':List PV}{cs cs':Array Value}{t:TypeId}{vals':List Value}(hH:HR w X μ hp)(hr:hp[r]? =some (.arr sh es false))(hb:μ r=some b)(hw:w.heap[b]? =some (.cells cs t (0,0)))(hsz:cs'.size=cs.size)
  (hlen:es'.length=es.length)(hE:ER w (Im X μ hp) sh es' vals')(hc:cellsOf vals'=cs'.toList.take (es'.length*sh.size)):
  HR (w.setRow b cs') X μ (hp.set r (.arr sh es' false))/\∀b0,Ext b0 X μ hp w μ (hp.set r (.arr sh es' false)) (w.setRow b cs'):=by
 have E:∀b0,Ext b0 X μ hp w (upd μ r (μ r)) (hp.set r (.arr sh es' false)) (w.setRow b cs'):=fun b0=>
  Ext.setArr hr (by omega) (fun h=>by cases h) (fun _=>rfl) (fun k hk=>.inl hk) rfl rfl rfl (by simp_all) (fun k hk hm=>setRow_other w b k _ (fun e=>hm rfl (by grind))) (fun k cs0 t'' fr hk=>by
   grind [setRow_heap,setRow_other])
 have H:HR (w.setRow b cs') X (upd μ r (μ r)) (hp.set r (.arr sh es' false)):=
  hH.setArr hr (E 0) (fun k hk hne=>setRow_other w b k _ (fun e=>hne (by grind))) (fun k hk=>⟨.inl hk,by grind [World.setRow]⟩) (.inr ⟨b,_,t,vals',hb,setRow_heap w b _ _ t _ hw,hE.1,fun k q v hq hv=>⟨(hE.2 k q v hq hv).1,(E 0).pr (hE.2 k q v hq hv).2⟩,hc⟩)
 grind [xP]

theorem D0{b n:Nat}{t e:TypeId}{parts:Array (Nat × Operand)}{ρ:Operand->Value}{vs:List AV}{v:AV}{hp':Heap}(ht:P.underlying t=some (.slice e))(hok:okT P e=true)(hz:Yt P e=true)(hr:parts.toList.map (·.1)=List.range n)(hn:n*P.cellsOf e<=65536)
  (hH:HR w X μ hp)(hl:LR w X μ hp vs ((parts.toList.map (·.2)).map ρ))(h:YW (shOf P e) hp vs=some (v,hp')):Out P b w X μ hp (do pure (.value (<-Instr.buildSlice t n (parts.map fun(x:Nat × Operand)=>(x.1,ρ x.2))))) v hp':=by
 unfold YW at h;split at h
 ·rename_i ps hp1 hf;split at h
  ·rename_i es hs;cases h;obtain⟨e1,h1,h2⟩:=qH b _ _ _ _ _ hf hH hl;have hE:=J3 hs h2;obtain⟨r1,r2⟩:=KS ht hok hz hr hn hE;obtain⟨o1,o2,o3⟩:=Uz (b:=b) (t:=e) h1 hE r2;exact⟨_,_,_,μ,by simp_all,.inl rfl,o1,o2,e1.trans o3⟩
  grind
 grind

theorem D3{b n:Nat}{t e:TypeId}{parts:Array (Nat × Operand)}{ρ:Operand->Value}{vs:List AV}{v:AV}{hp':Heap}(ht:P.underlying t=some (.slice e))(hok:okT P e=true)(hz:Yt P e=true)(hr:parts.toList.map (·.1)=List.range n)(hn:n*P.cellsOf e<=65536)
  (hH:HR w X μ hp)(hl:LR w X μ hp vs ((parts.toList.map (·.2)).map ρ))(h:XP (shOf P e) hp vs=some (v,hp')):Out P b w X μ hp (do pure (.value (<-Instr.buildSlice t n (parts.map fun(x:Nat × Operand)=>(x.1,ρ x.2))))) v hp':=by
 unfold XP at h;split at h
 ·rename_i ps hp1 hf;split at h
  ·rename_i es hs;split at h
   ·rename_i hpos;cases h;obtain⟨e1,h1,h2⟩:=qH b _ _ _ _ _ hf hH hl;have hE:=J3 hs h2;obtain⟨r1,r2⟩:=KS ht hok hz hr hn hE;generalize hvals:(parts.toList.map (·.2)).map ρ=vals at hE r1;have E:∀b,Ext b X μ hp1 w (upd μ hp1.length (some w.heap.size)) (hp1++[.arr (shOf P e) es false]) (w.alloc (.cells (cellsOf vals).toArray e)):=fun b=>Ext.push _ _ (Ext.alloc b _) (fun k hk=>by grind);have hcl:(cellsOf vals).length=es.length*(shOf P e).size:=hE.length;refine⟨.value (.slice (some ⟨w.heap.size,0,none⟩) n n),_,_,upd μ hp1.length (some w.heap.size),by simp_all,.inl rfl,?_,?_,e1.trans (E b)⟩
    ·rw[<-r2];refine .sl _ _ _ _ _ _ _ es false Xa (Zc _) ⟨Zc _,by omega⟩ (fun _=>rfl) fun _=>⟨by simp,.inr ⟨w.heap.size,(cellsOf vals).toArray,e,zW _ _ _,YH w _,by grind,fun _=>by simp⟩⟩
    ·refine h1.push _ _ (Ext.alloc 0 _) (fun i k hi hk=>YQ w _ (h1.out i k hi hk).2) (fun k hk=>by simp_all) (fun _ _ h=>by cases h) (fun s es' fz h=> ?_) (fun _ _ h=>by cases h);cases h;exact⟨hpos,.inr ⟨w.heap.size,(cellsOf vals).toArray,e,vals,rfl,YH w _,hE.1,fun k p u hp hu=>⟨(hE.2 k p u hp hu).1,(E 0).pr (hE.2 k p u hp hu).2⟩,by grind⟩⟩
   grind
  grind
 grind

theorem UM{b n:Nat}{t e:TypeId}{parts:Array (Nat × Operand)}{ρ:Operand->Value}{vs:List AV}{v:AV}(ht:P.underlying t=some (.slice e))(hok:okT P e=true)(hz:Yt P e=true)(hr:parts.toList.map (·.1)=List.range n)(hn:n*P.cellsOf e<=65536)
  (hH:HR w X μ hp)(hl:LR w X μ hp vs ((parts.toList.map (·.2)).map ρ))(h:xF (shOf P e) vs=some v):Out P b w X μ hp (do pure (.value (<-Instr.buildSlice t n (parts.map fun(x:Nat × Operand)=>(x.1,ρ x.2))))) v hp:=by
 unfold xF at h;split at h
 ·rename_i ps hf;split at h
  ·rename_i es hs;cases h;have hE:=J3 hs (J2 _ _ _ hf hl);obtain⟨r1,r2⟩:=KS ht hok hz hr hn hE;obtain⟨o1,o2,o3⟩:=Uz (b:=b) (t:=e) hH hE r2;exact⟨_,_,_,μ,by simp_all,.inl rfl,o1,o2,o3⟩
  grind
 grind

theorem J7(z:Value)(n:Nat):(Builtin.zeroCells z.cells n).toList=cellsOf (List.replicate n z):=by
 rw[UJ];exact K5 z.cells n

end Go.Am

/- One operation that calls nothing. -/
namespace Go.Am
variable{P:Program} {w:World} {X:Xc P} {μ:Nat->Option Nat} {hp:Heap}

theorem D4{sh:Sh}{s v:AV}{lo:Int}{hi:Option Int}{x:Value}(h:aslice sh lo hi s=some v)(hs:AR w X μ hp s x):∃a len cap,x=.slice a len cap:=by
 unfold aslice at h;split at h
 ·cases hs with|pv _ _ _ _ hq=>cases hq <;> exact⟨_,_,_,rfl⟩
 ·cases hs;grind
 ·cases hs;grind
 ·cases hs;grind
 grind

theorem J8{t e:TypeId}(ht:P.underlying t=some (.slice e))(hok:okT P e=true){s v:AV}{x:Value}{lo hi:Option Value}{l:Int}{h:Option Int}(hx:AR w X μ hp s x)(hlo:lo=none/\l=0\/∃k,lo=some (.int k l))(hhi:hi=none/\h=none\/∃k n,hi=some (.int k n)/\h=some n)
  (hs:aslice (shOf P e) l h s=some v):Yh P w X μ hp (do pure (.value (<-Instr.sliceAt t x lo hi none))) v:=by
 obtain⟨a,len,cap,rfl⟩:=D4 hs hx;obtain⟨h1,h2,h3,h4,h5⟩:=Dn hs hx;have:=Dm (P:=P) (w:=w) ht hok a len cap lo hi l.toNat ((h.map Int.toNat).getD len) (by
  grind) (by
  grind) h3 h4
 grind [ye]

theorem D5{sh:Sh}{a b v:AV}(h:YE sh true false [a,b]=some v):∃s k l,b=.pv s (.int k l)/\aslice sh l none a=some v:=by
 unfold YE at h
 grind
theorem D6{sh:Sh}{a b v:AV}(h:YE sh false true [a,b]=some v):∃s k l,b=.pv s (.int k l)/\aslice sh 0 (some l) a=some v:=by
 unfold YE at h
 grind
theorem D7{sh:Sh}{a b c v:AV}(h:YE sh true true [a,b,c]=some v):∃s k l s' k' m,b=.pv s (.int k l)/\c=.pv s' (.int k' m)/\aslice sh l (some m) a=some v:=by
 unfold YE at h
 grind

theorem D8{t e:TypeId}{x:Value}{lo hi:Option Value}{vs:List AV}{v:AV}(ht:P.underlying t=some (.slice e))(hok:okT P e=true)(hl:LR w X μ hp vs (x::(lo.toList++hi.toList)))(h:YE (shOf P e) lo.isSome hi.isSome vs=some v):
  Yh P w X μ hp (do pure (.value (<-Instr.sliceAt t x lo hi none))) v:=by
 cases lo with
 |none=>cases hi with
  |none=>
   obtain⟨a,rfl,h1⟩:=hl.inv1;exact J8 ht hok h1 (.inl ⟨rfl,rfl⟩) (.inl ⟨rfl,rfl⟩) h
  |some y=>
   obtain⟨a,b,rfl,h1,h2⟩:=hl.inv2;obtain⟨s,k,l,rfl,h⟩:=D6 h;rw[h2.int_inv]
   grind [J8]
 |some z=>cases hi with
  |none=>
   obtain⟨a,b,rfl,h1,h2⟩:=hl.inv2;obtain⟨s,k,l,rfl,h⟩:=D5 h;rw[h2.int_inv]
   grind [J8]
  |some y=>
   obtain⟨a,b,c,rfl,h1,h2,h3⟩:=hl.inv3;obtain⟨s,k,l,s',k',m,rfl,rfl,h⟩:=D7 h;rw[h2.int_inv,h3.int_inv];exact J8 ht hok h1 (.inr ⟨k,rfl⟩) (.inr ⟨k',m,rfl,rfl⟩) h
end Go.Am

/- More operations: checks of pointers and interfaces, slices cut to their length, stores beside reads. -/
namespace Go.Am
variable{P:Program} {w:World} {X:Xc P} {μ:Nat->Option Nat} {hp:Heap}

theorem D9{x:Value}{vs:List AV}{v:AV}(hl:LR w X μ hp vs [x])(h:xi vs=some v):(∃a,x=.pointer (some a))/\AR w X μ hp v x:=by
 unfold xi at h;split at h
 ·cases h;obtain⟨_,e,h1⟩:=hl.one;cases e;refine⟨?_,h1⟩;cases h1;grind
 ·cases h;obtain⟨_,e,h1⟩:=hl.one;cases e;refine⟨?_,h1⟩;cases h1;grind
 ·cases h;obtain⟨_,e,h1⟩:=hl.one;cases e;refine⟨?_,h1⟩;cases h1;grind
 ·cases h;obtain⟨_,e,h1⟩:=hl.one;cases e;refine⟨?_,h1⟩;cases h1;grind
 grind

theorem da{t:TypeId}(h:qy P t=true):∃ms,P.underlying t=some (.interface ms):=by
 grind [qy]
theorem de(t:TypeId){ms:Array (String × TypeId)}(ht:P.underlying t=some (.interface ms))(d:Nat):(Op.equalIn (d+1) t .nilIface .nilIface).run P w=.ok true w:=by simp[Op.equalIn,run_underlying ht]
theorem df(t:TypeId){ms:Array (String × TypeId)}(ht:P.underlying t=some (.interface ms))(u:TypeId)(a:Value)(d:Nat):(Op.equalIn (d+1) t (.iface u a) .nilIface).run P w=.ok false w:=by simp[Op.equalIn,run_underlying ht]
theorem UN{op:BinOp}{t:TypeId}{x:Operand}{vx:Value}{b:Bool}(hop:Qw op=true)(ht:qy P t=true)(hv:(vx=.nilIface/\b=true)\/((∃u a,vx=.iface u a)/\b=false)):
  ((do eqGuard op t x (.const .nilIface) vx .nilIface;binOp op t vx .nilIface):Sem Value).run P w=.ok (.bool (if yp op=true then !b else b)) w:=by
 obtain⟨ms,hms⟩:=da ht;have e1:(Op.equal t .nilIface .nilIface).run P w=.ok true w:=de t hms 9999;have e2:∀u a,(Op.equal t (.iface u a) .nilIface).run P w=.ok false w:=fun u a=>df t hms u a 9999;rcases hv with⟨rfl,rfl⟩|⟨⟨u,a,rfl⟩,rfl⟩
 ·cases op <;> first|(cases hop;done)|skip
  ·simp[eqGuard,binOp,yp,e1]
  simp_all[eqGuard,binOp,yp]
 ·cases op <;> first|(cases hop;done)|skip
  ·simp[eqGuard,binOp,yp,e2]
  simp_all[eqGuard,binOp,yp]
theorem dg{op:BinOp}{t:TypeId}{x:Operand}{vx:Value}{vs:List AV}{v:AV}(hop:Qw op=true)(ht:qy P t=true)(hl:LR w X μ hp vs [vx])(h:xj (yp op) vs=some v):
  Yh P w X μ hp (do pure (.value (<-(do eqGuard op t x (.const .nilIface) vx .nilIface;binOp op t vx .nilIface)))) v:=by
 unfold xj at h;split at h
 ·rename_i s0 tt s1 p0;cases h;obtain⟨_,e,h1⟩:=hl.one;cases e;cases h1 with|pv _ _ _ _ hq=>
  cases hq with|iface _ _ _ u _ _=>
  have:=UN (P:=P) (w:=w) (x:=x) (vx:=.iface tt u) (b:=false) hop ht (.inr ⟨⟨_,_,rfl⟩,rfl⟩);refine⟨_,by rw[Sem.run_bind,this,Result.andThen_ok,Sem.run_pure],?_⟩;cases hn:yp op <;> simp <;> exact .mkBool _
 ·cases h;obtain⟨_,e,h1⟩:=hl.one;cases e;cases h1 with|pv _ _ _ _ hq=>
  cases hq;have:=UN (P:=P) (w:=w) (x:=x) (b:=true) hop ht (.inl ⟨rfl,rfl⟩);refine⟨_,by rw[Sem.run_bind,this,Result.andThen_ok,Sem.run_pure],?_⟩;cases hn:yp op <;> simp <;> exact .mkBool _
 grind

theorem dh(t:TypeId){e:TypeId}(ht:P.underlying t=some (.slice e))(a:Addr)(n k d:Nat):(Op.equalIn (d+1) t (.slice (some a) n k) (.slice none 0 0)).run P w=.ok false w:=by simp[Op.equalIn,run_underlying ht]
theorem dj{op:BinOp}{t e:TypeId}{x:Operand}{a:Addr}{n k:Nat}(hop:Qw op=true)(ht:P.underlying t=some (.slice e)):
  ((do eqGuard op t x (.const (.slice none 0 0)) (.slice (some a) n k) (.slice none 0 0);binOp op t (.slice (some a) n k) (.slice none 0 0)):Sem Value).run P w=.ok (.bool (yp op)) w:=by
 have e1:(Op.equal t (.slice (some a) n k) (.slice none 0 0)).run P w=.ok false w:=dh t ht a n k 9999;cases op <;> first|(cases hop;done)|skip
 ·simp[eqGuard,binOp,yp,e1]
 simp_all[eqGuard,binOp,yp]
theorem dk{op:BinOp}{t e:TypeId}{x:Operand}{vx:Value}{vs:List AV}{v:AV}(hop:Qw op=true)(ht:P.underlying t=some (.slice e))(hl:LR w X μ hp vs [vx])(h:Qr (yp op) vs=some v):
  Yh P w X μ hp (do pure (.value (<-(do eqGuard op t x (.const (.slice none 0 0)) vx (.slice none 0 0);binOp op t vx (.slice none 0 0))))) v:=by
 have key:(∃a n k,vx=.slice (some a) n k)->v=.pv none (.bool (yp op))->Yh P w X μ hp (do pure (.value (<-(do eqGuard op t x (.const (.slice none 0 0)) vx (.slice none 0 0);binOp op t vx (.slice none 0 0))))) v:=by
  rintro⟨a,n,k,rfl⟩ rfl;refine⟨_,by grind [Sem.run_bind,dj,Result.andThen_ok,Sem.run_pure],.mkBool _⟩
 unfold Qr at h;split at h
 ·obtain⟨_,e,h1⟩:=hl.one;cases e;cases h1 with|pv _ _ _ _ hq=>
  cases hq
  grind
 ·obtain⟨_,e,h1⟩:=hl.one;cases e;cases h1 with|tsl _ _ a hq=>
  cases hq
  grind
 ·obtain⟨_,e,h1⟩:=hl.one;cases e;cases h1 with|sl _ _ _ _ _ a cap es fz ho hv hlc ha hc=>
  grind [Option.isSome_iff_exists]
 grind

theorem UO{t e:TypeId}(ht:P.underlying t=some (.slice e))(hok:okT P e=true)(a:Option Addr)(len cap:Nat)(lo:Option Value)(k k':IntKind)(l h:Nat)(hlo:lo=none/\l=0\/∃k,lo=some (.int k l))(h1:l<=h)(h2:h<=cap):
  (Instr.sliceAt t (.slice a len cap) lo (some (.int k h)) (some (.int k' h))).run P w=.ok (.slice (if h=l then a else a.map (·.add (l*(shOf P e).size))) (h - l) (h - l)) w:=by
 have hs:=yW hok w;rcases hlo with⟨rfl,rfl⟩|⟨k,rfl⟩ <;>
  simp[Instr.sliceAt,Instr.slice,run_underlying ht,Instr.sliceBounds,Instr.sliceBound,asIntOf, *]
theorem UP{e:TypeId}{a:Option Addr}{cap len:Nat}{es:List PV}{sh:Sh}{l h:Nat}(hq:PR w (Im X μ hp) (.sl sh es) (.slice a len cap))(hsh:sh=shOf P e\/es=[])(h1:l<=h)(h2:h<=es.length):
  h<=cap/\AR w X μ hp (.tsl sh ((es.drop l).take (h - l))) (.slice (if h=l then a else a.map (·.add (l*(shOf P e).size))) (h - l) (h - l)):=by
 have hle:((es.drop l).take (h - l)).length=h - l:=by grind
 cases hq with
 |nilsl=>
  have e1:h=0:=by grind
  subst e1;have e2:l=0:=by omega
  subst e2;exact⟨by omega,.tsl _ _ _ (by simpa using .nilsl _ _ _)⟩
 |sl sh es b o n cs t fr vals hl hI hb hs hs' hc hn=>
  refine⟨by omega,?_⟩;by_cases e0:h=l
  ·subst e0;simp only[Nat.sub_self,zu,if_true];exact .tsl _ _ _ (.nilsl _ _ _)
  ·have hne:es≠[]:=by grind
   have hsh':sh=shOf P e:=by grind
   rw[Zb e0];simp only[Option.map,Addr.add_lit];rw[<-hsh'];have hpp:∀(i:Nat) (p:PV) (v:Value),((es.drop l).take (h - l))[i]? =some p->((vals.drop l).take (h - l))[i]? =some v->vshp v=sh/\PR w (Im X μ hp) p v:=by
    grind
   have key:=PR.sl (w:=w) (I:=Im X μ hp) sh ((es.drop l).take (h - l)) b (o+l*sh.size) (h - l) cs t fr ((vals.drop l).take (h - l)) (by grind) hI hb (fun i p v hi hv=>(hpp i p v hi hv).1) (fun i p v hi hv=>(hpp i p v hi hv).2) ?_ (by omega)
   ·have:=AR.tsl sh ((es.drop l).take (h - l)) (some ⟨b,o+l*sh.size,none⟩) (X:=X) (μ:=μ) (hp:=hp) (w:=w) (by grind)
    grind
   ·rw[QB hl hs l (h - l) (by omega),hc,hle,Zs,ZB,Zt]
    congr 1
    have:(h - l)*sh.size+l*sh.size<=es.length*sh.size:=by rw[<-Zv];simp_all[ZP]
    omega
theorem dl{t e:TypeId}{x m h0:Value}{lo:Option Value}{vs:List AV}{v:AV}(ht:P.underlying t=some (.slice e))(hok:okT P e=true)(hl:LR w X μ hp vs (x::(lo.toList++[h0,m])))(h:y7 (shOf P e) lo.isSome vs=some v):
  Yh P w X μ hp (do pure (.value (<-Instr.sliceAt t x lo (some h0) (some m)))) v:=by
 cases lo with
 |none=>
  simp only[Option.toList,Zu] at hl;change y7 (shOf P e) false vs=some v at h;unfold y7 at h;split at h
  ·rename_i s0 sh es s1 k1 n1 s2 k2 n2 _;split at h
   ·rename_i hh;cases h;obtain⟨c1,c2,c3,c4⟩:=hh;obtain⟨_,_,_,e0,h1,h2,h3⟩:=hl.three;cases e0;cases h1 with|pv _ _ _ _ hq=>
    cases h2.int_inv;cases h3.int_inv;subst c3;obtain⟨n,rfl⟩:=zB c2;obtain⟨a,len,cap,rfl⟩:∃a len cap,x=.slice a len cap:=by cases hq <;> exact⟨_,_,_,rfl⟩
    obtain⟨g1,g2⟩:=UP (e:=e) (l:=0) (h:=n) hq c1 (Za _) (by omega);have:=UO (w:=w) ht hok a len cap none k1 k2 0 n (.inl ⟨rfl,rfl⟩) (Za _) g1
    grind [ye]
   grind
  all_goals grind
 |some l0=>
  simp only[Option.toList,Zq,Zu] at hl;change y7 (shOf P e) true vs=some v at h;unfold y7 at h;have chk:∀(a:Option Addr) (len cap:Nat) (k1 k2 k3:IntKind) (n1 n2 n3:Int),x=.slice a len cap->len<=cap->l0=.int k1 n1->h0=.int k2 n2->m=.int k3 n3->(0<=n1/\n1<=n2/\n2<=n3/\n3<=len)->some AV.undef=some v->Yh P w X μ hp (do pure (.value (<-Instr.sliceAt t x (some l0) (some h0) (some m)))) v:=by
   rintro a len cap k1 k2 k3 n1 n2 n3 rfl hlc rfl rfl rfl ⟨g1,g2,g3,g4⟩ hv;cases hv;obtain⟨l,rfl⟩:=zB g1;obtain⟨n,rfl⟩:=zB (by omega:0<=n2);obtain⟨q,rfl⟩:=zB (by omega:0<=n3);have hs:=yW hok w;have b1:l<=n:=by omega
   have b2:n<=q:=by omega
   have b3:q<=cap:=by omega
   have hrun:(Instr.sliceAt t (.slice a len cap) (some (.int k1 l)) (some (.int k2 n)) (some (.int k3 q))).run P w=.ok (.slice (if q=l then a else a.map (·.add (l*(shOf P e).size))) (n - l) (q - l)) w:=by
    simp[Instr.sliceAt,Instr.slice,run_underlying ht,Instr.sliceBounds,Instr.sliceBound,asIntOf, *]
   exact ye hrun (.undef _ (fun b h=>by cases h))
  split at h
  ·simp_all
  ·split at h
   ·rename_i hh;cases hl with|cons h1 hl=>
    obtain⟨_,_,_,e0,h2,h3,h4⟩:=hl.three;cases e0;cases h1 with|sl _ _ _ _ _ a cap es fz ho hv hlc ha hc=>
    exact chk _ _ _ _ _ _ _ _ _ rfl hlc.1 h2.int_inv h3.int_inv h4.int_inv hh h
   grind
  ·split at h
   ·rename_i hh;cases hl with|cons h1 hl=>
    obtain⟨_,_,_,e0,h2,h3,h4⟩:=hl.three;cases e0;cases h1 with|slv _ _ _ _ _ a cap n ho hv hlc ha hc=>
    exact chk _ _ _ _ _ _ _ _ _ rfl hlc.1 h2.int_inv h3.int_inv h4.int_inv hh h
   grind
  ·rename_i s0 sh es s1 k1 n1 s2 k2 n2 s3 k3 n3 _;split at h
   ·rename_i hh;cases h;obtain⟨c1,c2,c3,c4,c5⟩:=hh;cases hl with|cons h1 hl=>
    obtain⟨_,_,_,e0,h2,h3,h4⟩:=hl.three;cases e0;cases h1 with|pv _ _ _ _ hq=>
    cases h2.int_inv;cases h3.int_inv;cases h4.int_inv;subst c4;obtain⟨l,rfl⟩:=zB c2;obtain⟨n,rfl⟩:=zB (by omega:0<=n2);obtain⟨a,len,cap,rfl⟩:∃a len cap,x=.slice a len cap:=by cases hq <;> exact⟨_,_,_,rfl⟩
    obtain⟨g1,g2⟩:=UP (e:=e) (l:=l) (h:=n) hq c1 (by omega) (by omega);have:=UO (w:=w) ht hok a len cap (some (.int k1 l)) k2 k3 l n (.inr ⟨_,rfl⟩) (by omega) g1
    grind [ye]
   grind
  grind

theorem beq_pv:(∀a b:PV,PV.beq a b=true->a=b)/\(∀a b:List (Sh × PV),PV.beqc a b=true->a=b)/\(∀a b:List PV,PV.beqs a b=true->a=b):=by
 have key:∀n,(∀a b:PV,SizeOf.sizeOf a<n->PV.beq a b=true->a=b)/\(∀a b:List (Sh × PV),SizeOf.sizeOf a<n->PV.beqc a b=true->a=b)/\(∀a b:List PV,SizeOf.sizeOf a<n->PV.beqs a b=true->a=b):=by
  intro n
  induction n with
  |zero=>grind
  |succ n ih=>
   obtain⟨i1,i2,i3⟩:=ih;refine⟨?_,?_,?_⟩
   ·intro a b hs h;unfold PV.beq at h
    grind [ZM]
   ·intro a b hs h;unfold PV.beqc at h
    grind
   ·intro a b hs h;unfold PV.beqs at h
    grind
 exact⟨fun a b=>(key _).1 a b (zn _),fun a b=>(key _).2.1 a b (zn _),fun a b=>(key _).2.2 a b (zn _)⟩
theorem beq_av:(∀a b:AV,AV.beq a b=true->a=b)/\(∀a b:List (Sh × AV),AV.beqc a b=true->a=b)/\(∀a b:List AV,AV.beqs a b=true->a=b):=by
 have key:∀n,(∀a b:AV,SizeOf.sizeOf a<n->AV.beq a b=true->a=b)/\(∀a b:List (Sh × AV),SizeOf.sizeOf a<n->AV.beqc a b=true->a=b)/\(∀a b:List AV,SizeOf.sizeOf a<n->AV.beqs a b=true->a=b):=by
  intro n
  induction n with
  |zero=>grind
  |succ n ih=>
   obtain⟨i1,i2,i3⟩:=ih;obtain⟨p1,p2,p3⟩:=beq_pv;have ne:∀{a b:Nat},Nat.beq a b=true->a=b:=fun h=>ZM h;refine⟨?_,?_,?_⟩
   ·intro a b hs h;unfold AV.beq at h
    grind
   ·intro a b hs h;unfold AV.beqc at h
    grind
   ·intro a b hs h;unfold AV.beqs at h
    grind
 exact⟨fun a b=>(key _).1 a b (zn _),fun a b=>(key _).2.1 a b (zn _),fun a b=>(key _).2.2 a b (zn _)⟩
theorem J9:∀{a b:Heap},Heap.beq a b=true->a=b
 |[],[],_=>rfl
 |[],_::_,h=>by cases h
 |_::_,[],h=>by cases h
 |x::a,y::b,h=>by
  have ne:∀{a b:Nat},Nat.beq a b=true->a=b:=fun h=>ZM h;have frs:∀a b:Fr,Fr.beq a b=true->a=b:=by
   intro a
   induction a with
   |nil=>intro b h;cases b;rfl;cases h
   |cons x a ih=>
    intro b h;cases b with
    |nil=>cases h
    |cons y b=>
     simp only[Fr.beq,Zk] at h;obtain⟨x1,x2⟩:=x;obtain⟨y1,y2⟩:=y;have e1:x1=y1:=ne h.1.1;have e2:x2=y2:=beq_av.1 _ _ h.1.2
     grind
  have ms:∀a b:List (PV × PV),PV.beqm a b=true->a=b:=by
   intro a
   induction a with
   |nil=>intro b h;cases b;rfl;cases h
   |cons x a ih=>
    intro b h;cases b with
    |nil=>cases h
    |cons y b=>
     simp only[PV.beqm,Zk] at h;obtain⟨x1,x2⟩:=x;obtain⟨y1,y2⟩:=y;have e1:x1=y1:=beq_pv.1 _ _ h.1.1;have e2:x2=y2:=beq_pv.1 _ _ h.1.2
     grind
  simp only[Heap.beq,Zk] at h;rw[J9 h.2]
  congr 1
  have h1:=h.1;unfold AObj.beq at h1;split at h1 <;> (try simp only[Zk,ZN,beq_iff_eq] at h1) <;> (try (cases h1;done))
  ·rw[h1.1,beq_av.1 _ _ h1.2]
  ·rw[h1.1.1,beq_pv.2.2 _ _ h1.1.2,h1.2]
  ·rw[h1.1,beq_av.2.2 _ _ h1.2]
  ·grind
  grind
theorem dm{a b:Heap}(h:Y4 a b=true):a=b:=J9 h
end Go.Am

/- What is proved: copying rows of cells; two slices of different blocks do not overlap. -/
namespace Go.Am
open Go
variable{P:Program}
theorem Xd(w:World)(dT sT ty elem:TypeId)(g o dLen dCap:Nat)(a:Addr)(sLen sCap k:Nat)(cur:Array Value)(t:TypeId)(cs:List Value)
  (hu:P.underlying dT=some (.slice elem))(hs:(P.info? elem).map (·.size)=some k)
  (hg:w.heap[g]? =some (.cells cur t (0,0)))(hn:cs.length=Nat.min sLen dLen*k)
  (hsrc:∀j v,cs[j]? =some v->w.cell? (a.add j)=some v)(hfit:o+cs.length<=cur.size)(h1:∀v∈cs,v.oneCell'=true):
  (Builtin.copy_ #[dT,sT] ty #[.slice (some ⟨g,o,none⟩) dLen dCap,.slice (some a) sLen sCap]).run P w=
   .ok (goInt (Nat.min sLen dLen)) (w.setRow g (cur.toList.take o++cs++cur.toList.drop (o+cs.length)).toArray):=by
 have hl:=run_loadCells_list (P:=P) w a cs hsrc;have hst:=run_storeCells_at P g o t cs 0 cur w hg (by grind) h1;cases hq:P.info? elem with
 |none=>grind
 |some i=>
  simp_all[Builtin.copy_,run_underlying,Builtin.lenOf,Builtin.firstCells,sizeOf,typeInfo]
theorem K6(w:World)(tS tR e:TypeId)(ht:P.underlying tS=some (.slice e))(size:Nat)(hz:∀w,(Go.sizeOf e).run P w=.ok size w)
  (a b:Addr)(la ca lb cb:Nat)(hne:a.block≠b.block)(tA tB:TypeId)(kA kB:Nat)
  (hsa:w.shape? a.block=some (tA,kA))(hsb:w.shape? b.block=some (tB,kB))(hkA:kA≠0)(hkB:kB≠0)
  (hfb:∀o,w.frozen? { block:=b.block,off:=o }=false)(hfb':w.frozen? b=false):
  (Extern.SlicesOverlaps.overlaps #[tS,tS] #[tR] #[.slice (some a) la ca,.slice (some b) lb cb]).run P w=.ok (.bool false) w:=by
 have hnb:(a.block != b.block)=true:=by grind
 have hnb':(a.block == b.block)=false:=by grind
 change Sem.run P (α:=Value) (do
  let some t:=(#[tS,tS]:Array TypeId)[0]? |stuck "slices.overlaps: no parameter types"
  let .slice elem <-underlying t|stuck "slices.overlaps: slice type expected"
  let size <-sizeOf elem
  match(some a:Option Addr),(some b:Option Addr) with
  |some a,some b=>
   if la=0\/lb=0\/size=0 then pure (Value.bool false)
   else if a.block != b.block && (<-frozen a) && (<-frozen b) then unsupported .addressObserved
   else do
    if a.block != b.block then do
     noView a;noView b
     if <-mayBeOne a b then return Value.bool ((<-choose (.extern "sameAddr.stringBytes" 2)) == 1)
    pure (Value.bool (a.block == b.block && a.off<b.off+lb*size && b.off<a.off+la*size))
  |_,_=>pure (Value.bool false)) w=_
 by_cases h0:la=0\/lb=0\/size=0
 ·simp_all[run_underlying]
 ·cases kB with
  |zero=>grind
  |succ kB=>
   cases kA with
   |zero=>grind
   |succ kA=>
    cases hfa:w.frozen? a <;> cases hfe:w.frozen? { block:=a.block,off:=kA+1 } <;>
    simp[run_underlying ht,hz,h0,hnb,hnb',frozen,noView,viewAt,mayBeOne,stringish,shape,Sem.run,hsa,hsb,hfb,hfb',hfa,hfe]
end Go.Am

/- Arrays of the run's own whose elements show references: written out, made, appended to. -/
namespace Go.Am
variable{P:Program} {w:World} {X:Xc P} {μ:Nat->Option Nat} {hp:Heap}

def EV(w:World)(X:Xc P)(μ:Nat->Option Nat)(hp:Heap)(sh:Sh)(es:List AV)(vals:List Value):Prop:=
 es.length=vals.length/\∀(k:Nat) (a:AV) (v:Value),es[k]? =some a->vals[k]? =some v->(vshp v=sh/\Flat v)/\AR w X μ hp a v
theorem EV.val{sh:Sh}{es:List AV}{vals:List Value}(h:EV w X μ hp sh es vals){v:Value}(hv:v∈vals):vshp v=sh/\Flat v:=by
 obtain⟨j,hj⟩:=ZO.1 hv;have hjl:=(Zf.1 hj).1;have hjl':j<es.length:=by rw[h.1];grind
 exact(h.2 j es[j] v (Ze hjl') hj).1
theorem EV.sizes{sh:Sh}{es:List AV}{vals:List Value}(h:EV w X μ hp sh es vals):∀v∈vals,v.cells.size=sh.size:=fun v hv=>by rw[Yu,(h.val hv).1]
theorem EV.flat{sh:Sh}{es:List AV}{vals:List Value}(h:EV w X μ hp sh es vals):∀c∈cellsOf vals,c.oneCell'=true:=by
 intro c hc;obtain⟨j,v,hj,hcv⟩:=Qz hc;exact(h.val (Zh hj)).2 c hcv
theorem EV.length{sh:Sh}{es:List AV}{vals:List Value}(h:EV w X μ hp sh es vals):(cellsOf vals).length=es.length*sh.size:=by rw[KM h.sizes,h.1]
theorem EV.append{sh:Sh}{es fs:List AV}{vals us:List Value}(h:EV w X μ hp sh es vals)(k:EV w X μ hp sh fs us):EV w X μ hp sh (es++fs) (vals++us):=by
 refine⟨by simp[h.1,k.1],fun i p v hp hv=> ?_⟩;rcases Zn i es.length with hi|hi
 ·rw[ZZ hi] at hp;rw[ZZ (by rw[<-h.1];exact hi)] at hv;exact h.2 i p v hp hv
 ·rw[ZD hi] at hp;rw[ZD (by rw[<-h.1];exact hi),<-h.1] at hv;exact k.2 _ p v hp hv
theorem EV.take{sh:Sh}{es:List AV}{vals:List Value}(h:EV w X μ hp sh es vals)(n:Nat):EV w X μ hp sh (es.take n) (vals.take n):=by
 refine⟨by simp[h.1],fun i p v hp hv=> ?_⟩;have hi:i<n:=by grind
 rw[List.getElem?_take_of_lt hi] at hp hv;exact h.2 i p v hp hv
theorem EV.drop{sh:Sh}{es:List AV}{vals:List Value}(h:EV w X μ hp sh es vals)(n:Nat):EV w X μ hp sh (es.drop n) (vals.drop n):=by
 refine⟨by simp[h.1],fun i p v hp hv=> ?_⟩;rw[ZQ] at hp hv;exact h.2 _ p v hp hv
theorem EV.nil{sh:Sh}:EV w X μ hp sh [] []:=⟨rfl,by simp⟩
theorem EV.ext{b0:Nat}{μ':Nat->Option Nat}{hp':Heap}{w':World}{sh:Sh}{es:List AV}{vals:List Value}(E:Ext b0 X μ hp w μ' hp' w')(h:EV w X μ hp sh es vals):EV w' X μ' hp' sh es vals:=
 ⟨h.1,fun k p v hp hv=>⟨(h.2 k p v hp hv).1,E.ar (h.2 k p v hp hv).2⟩⟩
theorem EV.view{sh:Sh}{es:List AV}{vals:List Value}(h:EV w X μ hp sh es vals)(a b:Nat)(hab:a+b<=es.length):cellsOf ((vals.drop a).take b)=((cellsOf vals).drop (a*sh.size)).take (b*sh.size):=by
 have hl:(List.replicate vals.length PV.nilptr).length=vals.length:=List.length_replicate;refine QB hl (fun i p v _ hv=>(h.val (Zh hv)).1) a b (by rw[hl,<-h.1];grind)
theorem EV.cells_take{sh:Sh}{es:List AV}{vals:List Value}(h:EV w X μ hp sh es vals)(n:Nat)(hn:n<=es.length):cellsOf (vals.take n)=(cellsOf vals).take (n*sh.size):=by
 have:=h.view 0 n (by omega)
 grind
theorem EV.cells_drop{sh:Sh}{es:List AV}{vals:List Value}(h:EV w X μ hp sh es vals)(n:Nat)(hn:n<=es.length):cellsOf (vals.drop n)=(cellsOf vals).drop (n*sh.size):=by
 have h1:=(h.drop n).length;have:=h.view n (es.length - n) (by omega);rw[Zl (by simp[h.1]),Zl] at this
 ·grind
 ·rw[List.length_drop,h.length,<-Nat.sub_mul]
  grind
theorem ER.ev{sh:Sh}{es:List PV}{vals:List Value}(h:ER w (Im X μ hp) sh es vals):EV w X μ hp sh (es.map (.pv sh)) vals:=by
 refine⟨by simp[h.1],fun k a v ha hv=> ?_⟩;simp only[ZU,ZA] at ha;obtain⟨p,hp,rfl⟩:=ha;obtain⟨h1,h2⟩:=h.2 k p v hp hv;exact⟨⟨h1,h2.flat⟩,.pv _ _ _ h1 h2⟩
theorem EV.zBk{sh:Sh}:∀{vs:List AV} {vals:List Value},LR w X μ hp vs vals->vs.all (fun v=>v.plain && decide (v.shp=sh))=true->EV w X μ hp sh vs vals:=by
 intro vs vals hl ha;refine⟨hl.length,fun k a v hk hv=> ?_⟩;have h1:=Zr.1 ha a (Zh hk);simp only[Zk,ZN] at h1;have h2:=hl.get k a v hk hv;exact⟨⟨by rw[h2.vshp h1.1,h1.2],h2.flat h1.1⟩,h2⟩

theorem K7(b:Nat){sh:Sh}{es:List AV}{vals:List Value}{cells:Array Value}{t:TypeId}{w1:World}(hpos:0<sh.size)(hH:HR w X μ hp)(hE:EV w X μ hp sh es vals)(hEx:∀b,Ext b X μ hp w μ hp w1)(hold:∀k,k<w.heap.size->w1.heap[k]? =w.heap[k]?)(hn:w1.heap[w.heap.size]? =some (.cells cells t (0,0)))
  (hc:cellsOf vals=cells.toList.take (es.length*sh.size))(cap:Nat)(hcap:es.length<=cap)(hsz:cap*sh.size=cells.size):
  HR w1 X (upd μ hp.length (some w.heap.size)) (hp++[.arv sh es])/\Ext b X μ hp w (upd μ hp.length (some w.heap.size)) (hp++[.arv sh es]) w1/\
   AR w1 X (upd μ hp.length (some w.heap.size)) (hp++[.arv sh es]) (.slv sh hp.length es.length 0 es.length) (.slice (some ⟨w.heap.size,0,none⟩) es.length cap):=by
 have E:∀b,Ext b X μ hp w (upd μ hp.length (some w.heap.size)) (hp++[.arv sh es]) w1:=fun b=>Ext.push _ _ (hEx b) (fun k hk=>by grind);refine⟨?_,E b,?_⟩
 ·refine hH.push _ _ (hEx 0) (fun i k hi hk=>hold k (hH.out i k hi hk).2) (fun k hk=>by grind) (fun _ _ h=>by cases h) (fun _ _ _ h=>by cases h) (fun _ _ h=>by cases h) (fun _ _ _ _ h=>by cases h) (fun s es' h=> ?_);cases h;exact⟨hpos,w.heap.size,cells,t,vals,rfl,hn,hE.1,(hE.ext (E 0)).2,hc⟩
 ·refine .slv _ _ _ _ _ _ _ es.length (by rw[Xa];rfl) (Zc _) ⟨hcap,by omega⟩ (fun _=>rfl) fun _=>⟨by omega,w.heap.size,cells,t,zW _ _ _,hn,by grind,fun _=>by simp⟩

theorem dp{b n:Nat}{t e:TypeId}{parts:Array (Nat × Operand)}{ρ:Operand->Value}{vs:List AV}{v:AV}{hp':Heap}(ht:P.underlying t=some (.slice e))(hok:okT P e=true)(hz:Yt P e=true)(hr:parts.toList.map (·.1)=List.range n)(hn:n*P.cellsOf e<=65536)
  (hH:HR w X μ hp)(hl:LR w X μ hp vs ((parts.toList.map (·.2)).map ρ))(h:Y9 (shOf P e) hp vs=some (v,hp')):Out P b w X μ hp (do pure (.value (<-Instr.buildSlice t n (parts.map fun(x:Nat × Operand)=>(x.1,ρ x.2))))) v hp':=by
 unfold Y9 at h;split at h
 ·rename_i hh;obtain⟨hpos,hall⟩:=hh;cases h;have hE:=EV.zBk hl hall;obtain⟨r1,r2⟩:=Uy (w:=w) ht hok hz hr hn hE.sizes;generalize hvals:(parts.toList.map (·.2)).map ρ=vals at hE r1 r2;have hcl:=hE.length;obtain⟨k1,k2,k3⟩:=K7 b (w1:=w.alloc (.cells (cellsOf vals).toArray e)) (t:=e) hpos hH hE (fun b=>Ext.alloc b _) (fun k hk=>YQ w _ hk) (YH w _) (by grind) vs.length (Zc _) (by grind);have e2:vs.length=n:=hE.1.trans r2;refine⟨.value (.slice (some ⟨w.heap.size,0,none⟩) n n),_,_,_,by simp_all,.inl rfl,?_,k1,k2⟩
  grind
 grind

theorem dq{b:Nat}{t e:TypeId}{z:AV}{x y:Value}{vs:List AV}{v:AV}{hp':Heap}(ht:P.underlying t=some (.slice e))(hok:okT P e=true)(hzo:Yt P e=true)(hby:YN P e=true)(hz:Yw P e=some z)
  (hH:HR w X μ hp)(hl:LR w X μ hp vs [x,y])(h:xI (shOf P e) z hp vs=some (v,hp')):Out P b w X μ hp (do pure (.value (<-Instr.makeSlice t x y))) v hp':=by
 unfold xI at h;split at h
 ·rename_i s1 k1 n s2 k2 c;obtain⟨u1,u2,eq,h1,h2⟩:=hl.two;cases eq;split at h
  ·rename_i hb;obtain⟨hb0,hb1,hb2,hb3⟩:=hb;cases h;rw[h1.int_inv,h2.int_inv];obtain⟨i,zv,hi,hiz,hsz,hzs⟩:=okE w hok hzo;obtain⟨zv',z1,z2,z3⟩:=xo (w:=w) (X:=X) (μ:=μ) (hp:=hp) hz;have hzz:zv'=zv:=by
    simp_all[zeroValue,typeInfo]
   subst hzz;have hzsh:vshp zv'=shOf P e:=by
    have:=z2.vshp z3
    grind [Yt]
   unfold YN at hby
   rw[hi] at hby
   have hby':i.bytes<=1024:=by grind
   have hrun:=run_make (P:=P) w t e i zv' ht hi hiz k1 k2 n c hb0 hb1 (by
    unfold lim at hb2;have:(i.bytes:Int)*c<=1024*1073741824:=Int.mul_le_mul (by omega) (by omega) (by omega) (by omega);omega) (by grind [lim])
   rw[hsz,<-hzs] at hrun;generalize hcells:madeCells zv'.cells (c.toNat*zv'.cells.size)=cells at hrun;have hcsz:cells.size=c.toNat*(shOf P e).size:=by grind [size_madeCells]
   have hE:EV w X μ hp (shOf P e) (List.replicate n.toNat z) (List.replicate n.toNat zv'):=by
    refine⟨by simp,fun k a v ha hv=> ?_⟩;rw[List.getElem?_replicate] at ha hv;split at ha
    ·rename_i hk;rw[Zj hk] at hv;cases ha;cases hv;exact⟨⟨hzsh,z2.flat z3⟩,z2⟩
    grind
   obtain⟨k1,k2,k3⟩:=K7 b (w1:=w.alloc (.cells cells e)) (t:=e) hb3 hH hE (fun b=>Ext.alloc b _) (fun k hk=>YQ w _ hk) (YH w _) (by grind [UK]) c.toNat (by grind) hcsz.symm;refine⟨.value (.slice (some ⟨w.heap.size,0,none⟩) n.toNat c.toNat),_,_,_,by simp_all,.inl rfl,?_,k1,k2⟩
   grind
  grind
 grind

theorem dr{x:AV}{shx:Sh}{new:List AV}{a:Option Addr}{m c:Nat}(hH:HR w X μ hp)(h:elemsv hp x=some (shx,new))(hx:AR w X μ hp x (.slice a m c)):
  m=new.length/\∃vals,EV w X μ hp shx new vals/\(new≠[]->∃ad,a=some ad/\∀(j:Nat) (u:Value),(cellsOf vals)[j]? =some u->w.cell? (ad.add j)=some u):=by
 have pvc:∀(sh:Sh) (es:List PV),elems hp x=some (sh,es)->m=(es.map (AV.pv sh)).length/\∃vals,EV w X μ hp sh (es.map (.pv sh)) vals/\(es.map (AV.pv sh)≠[]->∃ad,a=some ad/\∀(j:Nat) (u:Value),(cellsOf vals)[j]? =some u->w.cell? (ad.add j)=some u):=by
  intro sh es he;obtain⟨h1,vals,h2,h3⟩:=KN hH he hx;exact⟨by grind,vals,h2.ev,fun hne=>h3 (by grind)⟩
 unfold elemsv at h;split at h
 ·rename_i s r ver off len;split at h
  ·rename_i sh es e;split at h
   ·rename_i hver;cases hx with|slv _ _ _ _ _ _ _ n ho hv hlc ha hc=>
    rw[e] at ho;simp only[YP,Option.some.injEq,Prod.mk.injEq] at ho;obtain⟨rfl,rfl⟩:=ho;obtain⟨c1,b,cs,t,c2,c3,c4,c5⟩:=hc hver;obtain⟨_,b',cs',t',vals,h1,h2,h3,h4,h5⟩:=hH.arv r _ es e;rw[c2] at h1;cases h1;rw[c3] at h2;cases h2;have hE:EV w X μ hp sh es vals:=⟨h3,h4⟩;have view:m=((es.drop off).take m).length/\∃vals,EV w X μ hp sh ((es.drop off).take m) vals/\((es.drop off).take m≠[]->∃ad,a=some ad/\∀(j:Nat) (u:Value),(cellsOf vals)[j]? =some u->w.cell? (ad.add j)=some u):=by
     refine⟨by grind,(vals.drop off).take m,(hE.drop off).take m,fun hne=> ?_⟩;have hm:m≠0:=by grind
     have:=c5 (by omega);subst this;refine⟨_,rfl,XW (n:=m*sh.size) c3 ?_⟩;rw[hE.view off m c1,h5,Zs,Zt]
     congr 1
     have:off*sh.size+m*sh.size<=es.length*sh.size:=by rw[<-Zv];exact ZP _ c1
     omega
    grind
   grind
  grind
 grind

theorem UQ{b r:Nat}{es new:List AV}(h:Xz b r es new=true):r<b->∀q∈AV.refsIn.gol new,q∈AV.refsIn.gol es:=by
 grind [Xz]
theorem UR(a b:List AV)(q:Nat):q∈AV.refsIn.gol (a++b)↔q∈AV.refsIn.gol a\/q∈AV.refsIn.gol b:=by
 grind [xR]
theorem UT{a b:List AV}(h:∀x∈a,x∈b){q:Nat}(hq:q∈AV.refsIn.gol a):q∈AV.refsIn.gol b:=by
 grind [xR]

theorem qI(b:Nat){r:Nat}{sh:Sh}{es es':List AV}{vals':List Value}{nb cap:Nat}{t:TypeId}{row:Array Value}{w':World}(hH:HR w X μ hp)(ho:hp[r]? =some (.arv sh es))(hlen:es.length<=es'.length)
  (hq:r<b->∀q∈AV.refsIn.gol es',q∈AV.refsIn.gol es)(hE:EV w X μ hp sh es' vals')(hnb:μ r=some nb\/(nb=w.heap.size/\es.length<es'.length))(hrow:w'.heap[nb]? =some (.cells row t (0,0)))
  (hoth:∀k,k<w.heap.size->μ r≠some k->w'.heap[k]? =w.heap[k]?)(hcur:nb≠w.heap.size\/∀k,k<w.heap.size->w'.heap[k]? =w.heap[k]?)(hsame:∀cs t0 fr,w.heap[nb]? =some (.cells cs t0 fr)->t0=t/\fr=(0,0)/\row.size=cs.size)(hsz:w.heap.size<=w'.heap.size)(hos:w'.os=w.os)(htp:w'.tape=w.tape)(hout:w'.output=w.output)
  (hc:cellsOf vals'=row.toList.take (es'.length*sh.size))(hcs:cap*sh.size=row.size)(len:Nat)(hl:len<=es'.length)(hlc:len<=cap)(hvc:es'.length<=cap)(ad:Option Addr)(had:ad=some ⟨nb,0,none⟩):
  HR w' X (upd μ r (some nb)) (hp.set r (.arv sh es'))/\Ext b X μ hp w (upd μ r (some nb)) (hp.set r (.arv sh es')) w'/\
   AR w' X (upd μ r (some nb)) (hp.set r (.arv sh es')) (.slv sh r es'.length 0 len) (.slice ad len cap):=by
 subst had;have hrl:=(Zf.1 ho).1;have E:∀b,(r<b->∀q∈AV.refsIn.gol es',q∈AV.refsIn.gol es)->Ext b X μ hp w (upd μ r (some nb)) (hp.set r (.arv sh es')) w':=fun b hq=>
  Ext.setArv ho (n:=es'.length) rfl hlen (fun h=>by
   grind) (fun es2 e=>by grind) (fun k hk=>by
   grind) hos htp hout hsz hoth (fun k cs t0 fr hk=>by
    grind)
 have E0:=E 0 (fun h=>absurd h (Nat.not_lt_zero _));refine⟨?_,E b hq,?_⟩
 ·refine hH.setArv ho E0 hoth (fun k hk=> ?_) (.inl ⟨es',nb,row,t,vals',rfl,rfl,hrow,hE.1,(hE.ext E0).2,hc⟩)
  grind
 ·exact .slv _ _ _ _ _ _ _ es'.length (by rw[ZC hrl];rfl) (Zc _) ⟨hlc,by omega⟩ (fun _=>rfl) fun _=>⟨by omega,nb,row,t,zW _ _ _,hrow,by grind,fun _=>by simp⟩

theorem UU{b r len:Nat}{t ty e:TypeId}{es new:List AV}{nvals:List Value}{base:Option Addr}{cap c:Nat}{ax:Option Addr}(ht:P.underlying t=some (.slice e))(hok:okT P e=true)(hz:Yt P e=true)(hby:YN P e=true)(hH:HR w X μ hp)(ho:hp[r]? =some (.arv (shOf P e) es))
  (hs:AR w X μ hp (.slv (shOf P e) r es.length 0 len) (.slice base len cap))(hN:EV w X μ hp (shOf P e) new nvals)(hnews:new≠[]->∃ad,ax=some ad/\∀(j:Nat) (u:Value),(cellsOf nvals)[j]? =some u->w.cell? (ad.add j)=some u)(hlim:len+new.length<=lim)(hq:r<b->∀q∈AV.refsIn.gol new,q∈AV.refsIn.gol es):
  ∃v' w' μ',(Builtin.append_ #[t,t] ty #[.slice base len cap,.slice ax new.length c]).run P w=.ok v' w'/\HR w' X μ' (hp.set r (.arv (shOf P e) (es.take len++new++es.drop (len+new.length))))/\
   Ext b X μ hp w μ' (hp.set r (.arv (shOf P e) (es.take len++new++es.drop (len+new.length)))) w'/\
   AR w' X μ' (hp.set r (.arv (shOf P e) (es.take len++new++es.drop (len+new.length)))) (.slv (shOf P e) r (es.take len++new++es.drop (len+new.length)).length 0 (len+new.length)) v':=by
 have hrl:=(Zf.1 ho).1;obtain⟨hpos,bk,cs,t',vals,h1,h2,h3,h4,h5⟩:=hH.arv r _ es ho;have hE:EV w X μ hp (shOf P e) es vals:=⟨h3,h4⟩;have hl2:=hN.length;have hs':=hs;cases hs with
 |slv _ _ _ _ _ _ _ n ho1 hv1 hlc ha hc=>
 rw[ho] at ho1;simp only[YP,Option.some.injEq,Prod.mk.injEq,true_and] at ho1;subst ho1;obtain⟨c1,b',cs',t'',c3,c4,c5,c6⟩:=hc rfl;rw[h1] at c3;cases c3;rw[h2] at c4;cases c4;rw[ZK] at c5;rw[ZK] at c1;by_cases hne:new=[]
 ·subst hne;have e1:es.take len++[]++es.drop (len+([]:List AV).length)=es:=by simp
  rw[e1];have e2:hp.set r (.arv (shOf P e) es)=hp:=by
   apply Z4
   grind
  rw[e2];exact⟨_,w,μ,qG t ty e ht hok base ax len cap c hlc.1,hH,Ext.refl _ _ _ _ _,hs'⟩
 ·obtain⟨ad,rfl,hcells⟩:=hnews hne;have hnp:0<new.length:=List.length_pos_iff.2 hne;have hcl:cs.toList.length=cs.size:=Zm;have hEl:es.length*(shOf P e).size<=cs.size:=by
   have:=congrArg List.length h5;rw[hE.length,Zx] at this;omega
  have hcE:es.length<=cap:=Nat.le_of_mul_le_mul_right (by grind) hpos;have hEV:=((hE.take len).append hN).append (hE.drop (len+new.length));have hqq:r<b->∀q∈AV.refsIn.gol (es.take len++new++es.drop (len+new.length)),q∈AV.refsIn.gol es:=by
   grind [UR,UT]
  have hel:es.length<=(es.take len++new++es.drop (len+new.length)).length:=by
   grind
  have hll:len+new.length<=(es.take len++new++es.drop (len+new.length)).length:=by
   grind
  by_cases hroom:len+new.length<=cap
  ·have hcap:cap≠0:=by omega
   have hb0:=c6 hcap;simp only[Nat.zero_mul] at hb0;subst hb0;obtain⟨i,z,hi,hiz,hsz,hzs⟩:=okE w hok hz;have hfit:len*(shOf P e).size+new.length*(shOf P e).size<=cs.size:=by rw[<-c5,<-Zv];exact ZP _ hroom
   have hrun:=Us (P:=P) t ty e t' i ht hi bk len cap cs h2 ad new.length c (cellsOf nvals) (by grind) hcells hN.flat hroom (by grind);rw[hsz,hl2] at hrun;generalize hrow:(cs.toList.take (len*(shOf P e).size)++cellsOf nvals++cs.toList.drop (len*(shOf P e).size+new.length*(shOf P e).size))=row at hrun;have hrowl:row.length=cs.size:=by
    grind
   have hcd:cellsOf (vals.drop (len+new.length))=(cs.toList.drop (len*(shOf P e).size+new.length*(shOf P e).size)).take (cellsOf (vals.drop (len+new.length))).length:=by
    rcases Zn es.length (len+new.length) with hlt|hge
    ·grind [Z3,cellsOf]
    ·have h6:=hE.cells_drop (len+new.length) hge
     grind [Zs,Zv]
   have hct:cellsOf (vals.take len)=cs.toList.take (len*(shOf P e).size):=by
    rw[hE.cells_take len (by omega),h5,Zt,Z0];simp_all[ZP]
   have hcc:cellsOf (vals.take len++nvals++vals.drop (len+new.length))=row.take ((es.take len++new++es.drop (len+new.length)).length*(shOf P e).size):=by
    rw[<-hEV.length,yJ,yJ,hct]
    grind
   obtain⟨k1,k2,k3⟩:=qI b (w':=w.setRow bk row.toArray) (row:=row.toArray) (nb:=bk) (cap:=cap) (t:=t') hH ho hel hqq hEV (.inl h1) (setRow_heap w bk _ _ t' _ h2) (fun k hk hne'=>setRow_other w bk k _ (fun e=>hne' (by grind))) (.inl (by grind)) (fun cs' t0 fr hk=>by
     grind) (by simp_all) rfl rfl rfl (by grind) (by grind) (len+new.length) hll hroom (by grind) (some ⟨bk,0,none⟩) rfl
   grind
  ·have htl:(es.take len).length=len:=by grind
   have hdn:es.drop (len+new.length)=[]:=Z3 (by omega);have hdv:vals.drop (len+new.length)=[]:=Z3 (by grind);have hbase:(base=none/\es.take len=[]/\cap=0)\/∃bd,base=some bd/\∀(j:Nat) (u:Value),(cellsOf (vals.take len))[j]? =some u->w.cell? (bd.add j)=some u:=by
    cases base with
    |none=>
     grind
    |some bd=>
     refine .inr ⟨bd,rfl,?_⟩;by_cases hl0:len=0
     ·grind [cellsOf]
     ·have:=c6 (by omega);simp only[Nat.zero_mul,Option.some.injEq] at this;subst this;refine XW (n:=len*(shOf P e).size) h2 ?_;rw[hE.cells_take len (by omega),h5,Zt,Z0 (ZP _ (by omega))];simp
   obtain⟨c',cells,g1,g2,g3,g4⟩:=KO (ty:=ty) ht hok hz hby (hE.take len).1 (hE.take len).length hl2 base cap hbase ad c hcells hne (by grind) (by grind);rw[htl] at g1 g2 g4;have hblk:∀k,k<w.heap.size->(w.drew.alloc (.cells cells e)).heap[k]? =w.heap[k]? :=fun k hk=>YQ w.drew _ hk;have hel2:(es.take len++new++es.drop (len+new.length)).length=len+new.length:=by grind
   obtain⟨k1,k2,k3⟩:=qI b (w':=w.drew.alloc (.cells cells e)) (row:=cells) (nb:=w.heap.size) (cap:=c') (t:=e) hH ho hel hqq hEV (.inr ⟨rfl,by grind⟩) (YH w.drew _) (fun k hk _=>hblk k hk) (.inr hblk) (fun cs' t0 fr hk=>by grind) (by simp) rfl rfl rfl
    (by grind) g3.symm (len+new.length) hll g2 (by grind) (some ⟨w.heap.size,0,none⟩) rfl
   grind

theorem du{x:AV}{shx:Sh}{new:List AV}{vx:Value}(h:elemsv hp x=some (shx,new))(hx:AR w X μ hp x vx):∃a m c,vx=.slice a m c:=by
 unfold elemsv at h;split at h
 ·cases hx;grind
 grind [KP]

theorem dv{b:Nat}{t ty e:TypeId}{x y:Value}{vs:List AV}{v:AV}{hp':Heap}(ht:P.underlying t=some (.slice e))(hok:okT P e=true)(hz:Yt P e=true)(hby:YN P e=true)(hH:HR w X μ hp)
  (hl:LR w X μ hp vs [x,y])(h:yx (shOf P e) b hp vs=some (v,hp')):Out P b w X μ hp (do pure (.value (<-Builtin.append_ #[t,t] ty #[x,y]))) v hp':=by
 unfold yx at h;split at h
 ·rename_i s q;obtain⟨x',y',e0,h1,h2⟩:=hl.two;cases e0;unfold aappendv at h;split at h
  ·cases h
  ·rename_i shx new hel;obtain⟨ay,m,cy,rfl⟩:=du hel h2;obtain⟨rfl,nvals,hN,hcells⟩:=dr hH hel h2;split at h
   ·rename_i hsh;obtain⟨hsh,hpos⟩:=hsh;have hN':EV w X μ hp (shOf P e) new nvals:=by
     rcases hsh with rfl|rfl
     ·exact hN
     ·have:nvals=[]:=Z2 hN.1.symm
      grind [EV.nil]
    have grown:∀(es:List AV) (vals:List Value) (a:Option Addr),EV w X μ hp (shOf P e) es vals->((a=none/\es=[]/\es.length=0)\/∃bd,a=some bd/\∀(j:Nat) (u:Value),(cellsOf vals)[j]? =some u->w.cell? (bd.add j)=some u)->new≠[]->es.length+new.length<=lim->
      Out P b w X μ hp (do pure (.value (<-Builtin.append_ #[t,t] ty #[.slice a es.length es.length,.slice ay new.length cy]))) (.slv (shOf P e) hp.length (es.length+new.length) 0 (es.length+new.length)) (hp++[.arv (shOf P e) (es++new)]):=by
     intro es vals a hE hb hn hlim;obtain⟨ad,rfl,hc⟩:=hcells hn;have hpn:0<new.length:=List.length_pos_iff.2 hn;obtain⟨c',cells,g1,g2,g3,g4⟩:=KO (ty:=ty) ht hok hz hby hE.1 hE.length hN'.length a es.length hb ad cy hc hn (by omega) hlim;have hEx:∀b,Ext b X μ hp w μ hp (w.drew.alloc (.cells cells e)):=fun b=>(Ext.drew b).trans (Ext.alloc b _);obtain⟨k1,k2,k3⟩:=K7 b (w1:=w.drew.alloc (.cells cells e)) (t:=e) hpos hH (hE.append hN') hEx (fun k hk=>YQ w.drew _ hk) (YH w.drew _) (by grind) c' (by grind) g3.symm
     grind [xp]
    split at h
    ·rename_i s0;cases h1 with
     |nilv=>
      split at h
      ·rename_i hn;cases h;subst hn;exact xp ⟨_,w,μ,qG t ty e ht hok none ay 0 0 cy (Zc _),hH,Ext.refl _ _ _ _ _,.nilv _⟩
      ·rename_i hn;split at h
       ·rename_i hlim;cases h;have:=grown [] [] none EV.nil (.inl ⟨rfl,rfl,rfl⟩) hn (by grind)
        grind
       grind
    ·rename_i s0 es;cases h1 with
     |tsl _ _ a hq=>
      split at h
      ·rename_i hse;obtain⟨rfl,hn⟩:=hse;cases h;subst hn;exact xp ⟨_,w,μ,qG t ty e ht hok a ay es.length es.length cy (Zc _),hH,Ext.refl _ _ _ _ _,.tsl _ _ _ hq⟩
      split at h
      ·rename_i hse;obtain⟨rfl,hn,hlim⟩:=hse;cases h;obtain⟨vals,hE,hb⟩:∃vals,ER w (Im X μ hp) (shOf P e) es vals/\((a=none/\es=[]/\es.length=0)\/∃bd,a=some bd/\∀(j:Nat) (u:Value),(cellsOf vals)[j]? =some u->w.cell? (bd.add j)=some u):=by
        cases hq with
        |nilsl=>
         refine⟨[],ER.nil,?_⟩;cases a with
         |none=>grind
         |some bd=>grind [cellsOf]
        |sl _ _ b o _ cs t' fr vals hvl hI hb h1 h2 hc hn=>
         exact⟨vals,⟨hvl,fun k p v hp hv=>⟨h1 k p v hp hv,h2 k p v hp hv⟩⟩,.inr ⟨_,rfl,XW hb hc⟩⟩
       have:=grown (es.map (.pv (shOf P e))) vals a hE.ev (by grind) hn (by grind)
       grind
      grind
    ·rename_i s1 r ver off len;split at h
     ·rename_i s0 es ho;split at h
      ·rename_i hh;obtain⟨rfl,rfl,rfl,hrefs⟩:=hh;split at h
       ·rename_i hlim;have hs1:s1=shOf P e:=by
         cases h1 with
         |slv _ _ _ _ _ _ _ n ho'=>grind [YP]
        subst hs1;obtain⟨base,cap,rfl⟩:∃base cap,x=.slice base len cap:=by cases h1;grind
        have hclen:len<=es.length:=by
         grind
        have key:=UU (b:=b) (ty:=ty) (c:=cy) ht hok hz hby hH ho h1 hN' hcells hlim (UQ hrefs);split at h
        ·grind [Z3,xp]
        grind [xp,Z3]
       grind
      grind
     grind
    grind
   grind
 grind

theorem dw(t ty e:TypeId)(ht:P.underlying t=some (.slice e))(hok:okT P e=true)(base a:Option Addr)(n cap m c:Nat)(h0:Nat.min m n=0):
  (Builtin.copy_ #[t,t] ty #[.slice base n cap,.slice a m c]).run P w=.ok (goInt 0) w:=by
 have hs:=yW hok w;cases a <;> cases base <;> simp[Builtin.copy_,run_underlying ht,hs,Builtin.lenOf,h0,Builtin.firstCells,loadCells,loadCellsFrom,storeCells]
theorem dz{b:Nat}{t ty e:TypeId}{x y:Value}{vs:List AV}{v:AV}{hp':Heap}(ht:P.underlying t=some (.slice e))(hok:okT P e=true)(hH:HR w X μ hp)
  (hl:LR w X μ hp vs [x,y])(h:XO (shOf P e) hp vs=some (v,hp')):Out P b w X μ hp (do pure (.value (<-Builtin.copy_ #[t,t] ty #[x,y]))) v hp':=by
 unfold XO at h;split at h
 ·rename_i s0 r ver off len q;obtain⟨x',y',e0,h1,h2⟩:=hl.two;cases e0;split at h
  ·rename_i shx new hel;obtain⟨ay,m,cy,rfl⟩:=KP hel h2;obtain⟨rfl,nvals,hN,hcells⟩:=KN hH hel h2;split at h
   ·rename_i hsh;obtain⟨rfl,hsh⟩:=hsh;have hN':ER w (Im X μ hp) (shOf P e) new nvals:=by
     rcases hsh with rfl|rfl
     ·exact hN
     ·have:nvals=[]:=Z2 hN.1.symm
      grind [ER.nil]
    split at h
    ·rename_i s' es ho;split at h
     ·rename_i hcond;obtain⟨rfl,hver,hle⟩:=hcond;cases h;cases h1 with|sl _ _ _ _ _ base cap es1 fz1 ho1 hv hlc ha hc=>
      rw[ho] at ho1;cases ho1;obtain⟨c1,c2⟩:=hc hver;obtain⟨k,hk⟩:∃k,k=Nat.min len new.length:=⟨_,rfl⟩;have hmc:Nat.min new.length len=k:=by grind
      rw[<-hk];have hrl:=(Zf.1 ho).1;by_cases h0:k=0
      ·have hes:es.take off++new.take k++es.drop (off+k)=es:=by rw[h0];simp
       have hhp:hp.set r (.arr (shOf P e) es false)=hp:=by
        apply Z4
        grind
       rw[hes,hhp,h0];exact⟨_,_,w,μ,by simp only[Sem.run_bind,dw t ty e ht hok base ay len cap new.length cy (by grind),Result.andThen_ok,Sem.run_pure];rfl,.inl rfl,.mkInt _ _,hH,Ext.refl _ _ _ _ _⟩
      ·have hkl:k<=len:=by grind
       have hkn:k<=new.length:=by grind
       have hne:new≠[]:=by grind
       obtain⟨ad,rfl,hcl2⟩:=hcells hne;rcases c2 with⟨_,c3⟩|⟨b',cs,t',m1,m2,m3,m4⟩
       ·omega
       have:=m4 (by omega);subst this;rcases(hH.arr r _ es false ho).2 with⟨g1,_⟩|⟨b2,cs2,t2,vals,g1,g2,g3,g4,g5⟩
       ·grind
       rw[m1] at g1;cases g1;rw[m2] at g2;cases g2;have hE:ER w (Im X μ hp) (shOf P e) es vals:=⟨g3,g4⟩;have hNt:=hN'.take k;have hNl:=hNt.length;have hkt:(new.take k).length=k:=by grind
       rw[hkt] at hNl;have hcl:cs.toList.length=cs.size:=Zm;have hEl:es.length*(shOf P e).size<=cs.size:=by
        have:=congrArg List.length g5;rw[hE.length,Zx] at this;omega
       have hA:off*(shOf P e).size+k*(shOf P e).size<=es.length*(shOf P e).size:=by rw[<-Zv];exact ZP _ (by omega)
       obtain⟨ti,_,hti,_,hts,_⟩:=qF hok;have hrun:=Xd (P:=P) w t t ty e b' (off*(shOf P e).size) len cap ad new.length cy (shOf P e).size cs t' (cellsOf (nvals.take k)) ht (by grind) m2 (by grind)
        (fun j u hj=>by
         rw[hN'.cells_take k hkn] at hj
         grind) (by grind) hNt.flat
       rw[hNl,hmc] at hrun;have hE':=((hE.take off).append hNt).append (hE.drop (off+k));have hlen:(es.take off++new.take k++es.drop (off+k)).length=es.length:=by grind
       obtain⟨H,E⟩:=UL (cs':=(cs.toList.take (off*(shOf P e).size)++cellsOf (nvals.take k)++cs.toList.drop (off*(shOf P e).size+k*(shOf P e).size)).toArray) hH ho m1 m2 (by grind) hlen hE' (by
        rw[yJ,yJ,hE.cells_take off (by omega),hE.cells_drop (off+k) (by omega),g5,hlen,Zv,Zt,Z0 (by omega),Zs];simp only[];have hpre:(cs.toList.take (off*(shOf P e).size)++cellsOf (nvals.take k)).length=off*(shOf P e).size+k*(shOf P e).size:=by
         grind
        grind [zf,Zl])
       exact⟨_,_,_,μ,by simp only[Sem.run_bind,hrun,Result.andThen_ok,Sem.run_pure];rfl,.inl rfl,.mkInt _ _,H,E b⟩
     grind
    grind
   grind
  grind
 grind
theorem dC{b:Nat}{t ty e:TypeId}{z:PV}{x:Value}{vs:List AV}{v:AV}{hp':Heap}(ht:P.underlying t=some (.slice e))(hok:okT P e=true)(hzo:Yt P e=true)(hz:(Yw P e).bind pvOf=some z)
  (hH:HR w X μ hp)(hl:LR w X μ hp vs [x])(h:XQ (shOf P e) z hp vs=some (v,hp')):Out P b w X μ hp (do pure (.value (<-Builtin.clear_ #[t] ty #[x]))) v hp':=by
 unfold XQ at h;split at h
 ·rename_i s0 r ver off len;obtain⟨y,eq,h1⟩:=hl.one;cases eq;cases h1 with|sl _ _ _ _ _ a cap es1 fz1 ho hv hlc ha hc=>
  split at h
  ·rename_i s es hr;rw[hr] at ho;cases ho;split at h
   ·rename_i hcond;obtain⟨rfl,hver,hle⟩:=hcond;cases h;obtain⟨c1,c2⟩:=hc hver;by_cases h0:len=0
    ·subst h0;have hes:es1.take off++List.replicate 0 z++es1.drop (off+0)=es1:=by simp
     have hhp:hp.set r (.arr (shOf P e) es1 false)=hp:=by
      apply Z4
      grind
     rw[hes];have hrun:(Builtin.clear_ #[t] ty #[.slice a 0 cap]).run P w=.ok (.tuple #[]) w:=by
      cases a <;> simp[Builtin.clear_,run_underlying ht]
     refine⟨.value (.tuple #[]),_,w,μ,by simp_all,.inl rfl,.undef _ (fun b h=>by cases h),?_,?_⟩
     ·grind
     grind [Ext.refl]
    ·rcases c2 with⟨c2,c3⟩|⟨b',cs,t',m1,m2,m3,m4⟩
     ·omega
     have hcap:cap≠0:=by omega
     have:=m4 hcap;subst this;rcases(hH.arr r _ es1 false hr).2 with⟨g1,g2⟩|⟨b2,cs2,t2,vals,g1,g2,g3,g4,g5⟩
     ·grind
     rw[m1] at g1;cases g1;rw[m2] at g2;cases g2;cases hza:Yw P e with
     |none=>grind
     |some za=>
     rw[hza] at hz;obtain⟨zv,z1,z2,z3⟩:=xo (w:=w) (X:=X) (μ:=μ) (hp:=hp) hza;have hzpr:PR w (Im X μ hp) z zv:=J1 w X μ hp _ _ _ _ hz z2;have hzsh:vshp zv=shOf P e:=by
      have:=z2.vshp z3
      grind [Yt]
     obtain⟨i,zv',hi,hiz,hsz,hzs⟩:=okE w hok hzo;have hzz:zv=zv':=by
      simp_all[zeroValue,typeInfo]
     subst hzz;have hzc:(Builtin.zeroCells zv.cells len).toList.length=len*(shOf P e).size:=by
      rw[Zm,size_zeroCells,hzs]
     have hfl:Flat zv:=z2.flat z3;have hfit:off*(shOf P e).size+len*(shOf P e).size<=cs.size:=by
      rw[<-m3,<-Zv];exact ZP _ (by omega)
     have hst:=run_storeCells_at P b' (off*(shOf P e).size) t' (Builtin.zeroCells zv.cells len).toList 0 cs w m2 (by grind) (fun u hu=>by
      rw[J7] at hu;obtain⟨k,q,hq,hqu⟩:=Qz hu;rw[List.getElem?_replicate] at hq;split at hq
      ·cases hq;exact hfl u hqu
      grind)
     simp only[Nat.add_zero,hzc] at hst;have hrun:(Builtin.clear_ #[t] ty #[.slice (some ⟨b',off*(shOf P e).size,none⟩) len cap]).run P w=.ok (.tuple #[]) (w.setRow b' (cs.toList.take (off*(shOf P e).size)++(Builtin.zeroCells zv.cells len).toList++cs.toList.drop (off*(shOf P e).size+len*(shOf P e).size)).toArray):=by
      simp_all[Builtin.clear_,run_underlying]
     have hcl:cs.toList.length=cs.size:=Zm;have hE0:ER w (Im X μ hp) (shOf P e) es1 vals:=⟨g3,g4⟩;have hlv:vals.length=es1.length:=g3.symm;have hE':ER w (Im X μ hp) (shOf P e) (es1.take off++List.replicate len z++es1.drop (off+len)) (vals.take off++List.replicate len zv++vals.drop (off+len)):=by
      refine ER.append (ER.append ?_ ?_) (hE0.drop _)
      ·exact hE0.take _
      ·refine⟨by simp,fun k q u hq hu=> ?_⟩
       grind
     obtain⟨H,E⟩:=UL (cs':=(cs.toList.take (off*(shOf P e).size)++(Builtin.zeroCells zv.cells len).toList++cs.toList.drop (off*(shOf P e).size+len*(shOf P e).size)).toArray) hH hr m1 m2 (by grind) (by grind) hE' (by
      have hA:off*(shOf P e).size+len*(shOf P e).size<=es1.length*(shOf P e).size:=by rw[<-Zv];exact ZP _ hle
      rw[yJ,yJ,hE0.cells_take off (by omega),hE0.cells_drop (off+len) (by omega),<-J7,g5,Zv];have hl':(es1.take off++List.replicate len z++es1.drop (off+len)).length=es1.length:=by grind
      rw[hl',Zt,Z0 (by omega),Zs];simp only[];have hpre:(cs.toList.take (off*(shOf P e).size)++(Builtin.zeroCells zv.cells len).toList).length=off*(shOf P e).size+len*(shOf P e).size:=by
       grind
      grind [zf,Zl])
     exact⟨.value (.tuple #[]),_,_,μ,by grind [Sem.run_bind,Result.andThen_ok,Sem.run_pure],.inl rfl,.undef _ (fun b h=>by cases h),H,E b⟩
   grind
  grind
 ·rename_i s0 r ver off len;obtain⟨y,eq,h1⟩:=hl.one;cases eq;cases h1 with|slv _ _ _ _ _ a cap n ho hv hlc ha hc=>
  split at h
  ·rename_i s es hr;rw[hr] at ho;simp only[YP,Option.some.injEq,Prod.mk.injEq] at ho;obtain⟨rfl,rfl⟩:=ho;split at h
   ·rename_i hcond;obtain⟨rfl,hver,hle⟩:=hcond;cases h;obtain⟨c1,b',cs,t',m1,m2,m3,m4⟩:=hc hver;obtain⟨_,b2,cs2,t2,vals,g1,g2,g3,g4,g5⟩:=hH.arv r _ es hr;rw[m1] at g1;cases g1;rw[m2] at g2;cases g2;by_cases h0:len=0
    ·subst h0;have hes:es.take off++List.replicate 0 (AV.pv (shOf P e) z)++es.drop (off+0)=es:=by simp
     have hhp:hp.set r (.arv (shOf P e) es)=hp:=by
      apply Z4
      grind
     rw[hes];have hrun:(Builtin.clear_ #[t] ty #[.slice a 0 cap]).run P w=.ok (.tuple #[]) w:=by
      cases a <;> simp[Builtin.clear_,run_underlying ht]
     refine⟨.value (.tuple #[]),_,w,μ,by simp_all,.inl rfl,.undef _ (fun b h=>by cases h),?_,?_⟩
     ·grind
     grind [Ext.refl]
    ·have hcap:cap≠0:=by grind
     have:=m4 hcap;subst this;cases hza:Yw P e with
     |none=>grind
     |some za=>
     rw[hza] at hz;obtain⟨zv,z1,z2,z3⟩:=xo (w:=w) (X:=X) (μ:=μ) (hp:=hp) hza;have hzpr:PR w (Im X μ hp) z zv:=J1 w X μ hp _ _ _ _ hz z2;have hzsh:vshp zv=shOf P e:=by
      have:=z2.vshp z3
      grind [Yt]
     obtain⟨i,zv',hi,hiz,hsz,hzs⟩:=okE w hok hzo;have hzz:zv=zv':=by
      simp_all[zeroValue,typeInfo]
     subst hzz;have hzc:(Builtin.zeroCells zv.cells len).toList.length=len*(shOf P e).size:=by
      rw[Zm,size_zeroCells,hzs]
     have hfl:Flat zv:=z2.flat z3;have hEl0:es.length<=off+cap:=by grind
     have hfit:off*(shOf P e).size+len*(shOf P e).size<=cs.size:=by
      rw[<-m3,<-Zv];exact ZP _ (by omega)
     have hst:=run_storeCells_at P b' (off*(shOf P e).size) t' (Builtin.zeroCells zv.cells len).toList 0 cs w m2 (by grind) (fun u hu=>by
      rw[J7] at hu;obtain⟨k,q,hq,hqu⟩:=Qz hu;rw[List.getElem?_replicate] at hq;split at hq
      ·cases hq;exact hfl u hqu
      grind)
     simp only[Nat.add_zero,hzc] at hst;generalize hrow:(cs.toList.take (off*(shOf P e).size)++(Builtin.zeroCells zv.cells len).toList++cs.toList.drop (off*(shOf P e).size+len*(shOf P e).size))=row at hst;have hrun:(Builtin.clear_ #[t] ty #[.slice (some ⟨b',off*(shOf P e).size,none⟩) len cap]).run P w=.ok (.tuple #[]) (w.setRow b' row.toArray):=by
      simp_all[Builtin.clear_,run_underlying]
     have hcl:cs.toList.length=cs.size:=Zm;have hrowl:row.length=cs.size:=by
      grind
     have hE0:EV w X μ hp (shOf P e) es vals:=⟨g3,g4⟩;have hE':EV w X μ hp (shOf P e) (es.take off++List.replicate len (.pv (shOf P e) z)++es.drop (off+len)) (vals.take off++List.replicate len zv++vals.drop (off+len)):=by
      refine EV.append (EV.append (hE0.take _) ?_) (hE0.drop _);refine⟨by simp,fun k q u hq hu=> ?_⟩;rw[List.getElem?_replicate] at hq hu;split at hq
      ·rename_i hk;rw[Zj hk] at hu;cases hq;cases hu;exact⟨⟨hzsh,hfl⟩,.pv _ _ _ hzsh hzpr⟩
      grind
     have hl':(es.take off++List.replicate len (AV.pv (shOf P e) z)++es.drop (off+len)).length=es.length:=by grind
     have hcc:cellsOf (vals.take off++List.replicate len zv++vals.drop (off+len))=row.take ((es.take off++List.replicate len (AV.pv (shOf P e) z)++es.drop (off+len)).length*(shOf P e).size):=by
      have hA:off*(shOf P e).size+len*(shOf P e).size<=es.length*(shOf P e).size:=by grind [Zv]
      rw[yJ,yJ,hE0.cells_take off (by omega),hE0.cells_drop (off+len) (by omega),<-J7,g5,Zv,hl',Zt,Z0 (by omega),Zs,<-hrow];have hpre:(cs.toList.take (off*(shOf P e).size)++(Builtin.zeroCells zv.cells len).toList).length=off*(shOf P e).size+len*(shOf P e).size:=by
       grind
      grind [zf,Zl]
     have hrefs:r<b->∀q∈AV.refsIn.gol (es.take off++List.replicate len (AV.pv (shOf P e) z)++es.drop (off+len)),q∈AV.refsIn.gol es:=fun _ q hq=>by
      grind [xR,AV.refsIn]
     have hnc:(off+cap)*(shOf P e).size=row.toArray.size:=by grind
     obtain⟨k1,k2,_⟩:=qI b (w':=w.setRow b' row.toArray) (row:=row.toArray) (nb:=b') (cap:=off+cap) (t:=t') hH hr (by grind) hrefs hE' (.inl m1) (setRow_heap w b' _ _ t' _ m2) (fun k hk hne'=>setRow_other w b' k _ (fun e=>hne' (by grind))) (.inl (by grind)) (fun cs' t0 fr hk=>by
       grind) (by simp_all) rfl rfl rfl (by grind) hnc 0 (Za _) (Za _) (by grind) (some ⟨b',0,none⟩) rfl
     have em:upd μ r (some b')=μ:=by grind [xP]
     rw[em] at k1 k2;exact⟨.value (.tuple #[]),_,_,μ,by simp_all,.inl rfl,.undef _ (fun b h=>by cases h),k1,k2⟩
   grind
  grind
 grind
end Go.Am

/- One operation that calls nothing: all of them. -/
namespace Go.Am
variable{P:Program} {w:World} {X:Xc P} {μ:Nat->Option Nat} {hp:Heap}

def AOp.alike(op' op:AOp):Prop:=op'=op\/(∃sh,op=.bslice sh/\(op'=.bslicep sh\/op'=.bslo sh))\/(op=.call/\(op'=.callp\/op'=.callh))\/(∃sh,op=.append sh/\op'=.appendp sh)\/(∃sh,op=.bslov sh/\op'=.bslicep sh)

section
variable{fr:Fr} {act:Act} {vs:List AV} (hF:FR w X μ hp fr act.tmps)
include hF
theorem arg1{t:TypeId}{x:Operand}{a:AArg}(h:Yz P t x=some a)(ha:fr.argsOf [a]=some vs):LR w X μ hp vs [act.eval x]:=by
 obtain⟨v,rfl,hv⟩:=JY ha;exact .cons (XV hF h hv) .nil
theorem argc{t:TypeId}{x:Operand}{a:AArg}{azs:List AArg}{l:List Value}(h:Yz P t x=some a)(ha:fr.argsOf (a::azs)=some vs)(hr:∀us,fr.argsOf azs=some us->LR w X μ hp us l):LR w X μ hp vs (act.eval x::l):=by
 obtain⟨v,us,rfl,hv,hu⟩:=yd ha;exact .cons (XV hF h hv) (hr us hu)
theorem arg2{t u:TypeId}{x y:Operand}{a b:AArg}(h:Yz P t x=some a)(k:Yz P u y=some b)(ha:fr.argsOf [a,b]=some vs):LR w X μ hp vs [act.eval x,act.eval y]:=
 argc hF h ha fun _ hu=>arg1 hF k hu
theorem arg3{t u q:TypeId}{x y z:Operand}{a b c:AArg}(h:Yz P t x=some a)(k:Yz P u y=some b)(m:Yz P q z=some c)(ha:fr.argsOf [a,b,c]=some vs):LR w X μ hp vs [act.eval x,act.eval y,act.eval z]:=
 argc hF h ha fun _ hu=>arg2 hF k m hu
end

theorem bounds{fr:Fr}{act:Act}{vs:List AV}(hF:FR w X μ hp fr act.tmps){lo hi:Option Operand}{l h:List AArg}(h1:lo.elim (some []) (fun l=>(Yz P 0 l).map fun a=>[a])=some l)(h2:hi.elim (some []) (fun l=>(Yz P 0 l).map fun a=>[a])=some h)
  (ha:fr.argsOf (l++h)=some vs):LR w X μ hp vs ((lo.map act.eval).toList++(hi.map act.eval).toList):=by
 have key:∀{q:Option Operand} {l:List AArg},q.elim (some []) (fun l=>(Yz P 0 l).map fun a=>[a])=some l->(q=none/\l=[])\/∃x a,q=some x/\Yz P 0 x=some a/\l=[a]:=by
  intro q l h;cases q with
  |none=>grind
  |some x=>
   grind [ZA]
 rcases key h1 with⟨rfl,rfl⟩|⟨x,a,rfl,g1,rfl⟩ <;> rcases key h2 with⟨rfl,rfl⟩|⟨y,c,rfl,g2,rfl⟩
 ·cases bP ha;exact .nil
 ·grind [arg1]
 ·grind [arg1]
 grind [arg2]
theorem UV(a:Array Operand)(f:Operand->Value):(a.toList.map f).toArray=a.map f:=by
 grind

theorem args_two{a:Array Operand}{x y:Operand}(h:a.toList=[x,y])(f:Operand->Value):a= #[x,y]/\a.map f= #[f x,f y]:=by
 have:a= #[x,y]:=Array.ext' h
 grind
theorem UW{a:Array Operand}{x:Operand}(h:a.toList=[x])(f:Operand->Value):a.map f= #[f x]:=by
 have:a= #[x]:=Array.ext' h
 grind
theorem UX{a:Array TypeId}{x y:TypeId}(h:a.toList=[x,y]):a= #[x,y]:=Array.ext' h
theorem UY{a:Array TypeId}{x:TypeId}(h:a.toList=[x]):a= #[x]:=Array.ext' h

theorem yB{t:TypeId}{x:Operand}{op op':AOp}{azs:List AArg}(h:(match Yz P t x with|some a=>some (op,[a])|none=>none)=some (op',azs)):∃a,Yz P t x=some a/\op'=op/\azs=[a]:=by
 grind

theorem dD{b:Nat}{o:Oper}{op op':AOp}{azs:List AArg}{fr:Fr}{act:Act}{vs:List AV}{v:AV}{hp':Heap}(hb:b<=hp.length)(ht:trOp P o=some (op,azs))(hk:op'.alike op)(hF:FR w X μ hp fr act.tmps)(ha:fr.argsOf azs=some vs)(hH:HR w X μ hp)
  (hs:astep b op' vs hp=some (v,hp')):Out P b w X μ hp (execOp act.eval o) v hp':=by
 have pureOut:∀{s:Sem Next},Yq hp (some v)=some (v,hp')->Yh P w X μ hp s v->Out P b w X μ hp s v hp':=by
  intro s h hy;cases h;exact hy.out hH
 have sp:∀{op:AOp},op.isPure=true->astep b op vs hp=some (v,hp')->spure op vs=some v/\hp'=hp:=by
  intro op ho h;simp only[astep,ho,cond_true] at h;cases h':spure op vs with
  |none=>rw[h'] at h;cases h
  |some u=>rw[h'] at h;cases h;grind
 have sr:∀{op:AOp},op.isPure=false->op.isRead=true->astep b op vs hp=some (v,hp')->sread op vs hp=some v/\hp'=hp:=by
  intro op ho ho' h;simp only[astep,ho,ho',cond_true,cond_false] at h;cases h':sread op vs hp with
  |none=>rw[h'] at h;cases h
  |some u=>rw[h'] at h;cases h;grind
 have sw:∀{op:AOp},op.isPure=false->op.isRead=false->astep b op vs hp=some (v,hp')->swrite b op vs hp=some (v,hp'):=by
  grind [astep]
 have same:∀{o:AOp},op=o->(∀sh,o≠.bslice sh)->o≠.call->(h3:∀sh,o≠.append sh:=by simp)->(h4:∀sh,o≠.bslov sh:=by simp)->op'=o:=by
  intro o e h1 h2 h3 h4;rcases hk with h|⟨sh,h,_⟩|⟨h,_⟩|⟨sh,h,_⟩|⟨sh,h,_⟩
  ·grind
  ·grind
  ·grind
  ·grind
  grind
 have mv:∀(x:Operand) (t:TypeId),(match Yz P t x with|some a=>some (AOp.mv,[a])|none=>none)=some (op,azs)->Out P b w X μ hp (pure (.value (act.eval x))) v hp':=by
  intro x t h;obtain⟨a,h1,h2,rfl⟩:=yB h;cases same h2 (by simp) (by simp);obtain⟨h3,rfl⟩:=sp rfl hs;exact(show Yh P w X μ hp' (pure (.value (act.eval x))) v from⟨_,rfl,Df (arg1 hF h1 ha) h3⟩).out hH
 have one:∀(x:Operand) (t:TypeId) (o:AOp) {s:Sem Next},(match Yz P t x with|some a=>some (o,[a])|none=>none)=some (op,azs)->o.isPure=true->(∀sh,o≠.bslice sh)->o≠.call->(LR w X μ hp vs [act.eval x]->spure o vs=some v->Yh P w X μ hp s v)->(hn3:∀sh,o≠.append sh:=by simp)->(hn4:∀sh,o≠.bslov sh:=by simp)->Out P b w X μ hp s v hp':=by
  intro x t o s h hp1 hn hn2 hy hn3 hn4;obtain⟨a,h1,h2,rfl⟩:=yB h;cases same h2 hn hn2 hn3 hn4;obtain⟨h3,rfl⟩:=sp hp1 hs;exact(hy (arg1 hF h1 ha) h3).out hH
 cases hop:o.op <;> simp only[trOp,hop] at ht <;> (try (cases ht;done)) <;> simp only[execOp,hop]
 case move x=>exact mv x _ ht
 case assign x=>
  split at ht
  ·rename_i e hx he;split at ht
   ·cases ht;cases same rfl (by simp) (by simp);obtain⟨h3,rfl⟩:=sp rfl hs;cases ha;cases h3;exact(show Yh P w X μ hp' (pure (.value (.slice none 0 0))) _ from⟨_,rfl,.nilv _⟩).out hH
   ·split at ht
    ·rename_i hpos;cases ht;cases same rfl (by simp) (by simp);exact DB hH (sw rfl rfl hs)
    grind
  ·exact mv _ _ ht
 case pick c x y=>
  split at ht
  ·rename_i a1 a2 a3 h1 h2 h3;cases ht;cases same rfl (by simp) (by simp);obtain⟨h4,rfl⟩:=sp rfl hs;exact(bQ (arg3 hF h1 h2 h3 ha) h4).out hH
  grind
 case alloc t=>
  split at ht
  ·rename_i z hz;cases ht;cases same rfl (by simp) (by simp);exact Dq hb hH hz (sw rfl rfl hs)
  grind
 case box t x=>
  obtain⟨a,h1,h2,rfl⟩:=yB ht;cases same h2 (by simp) (by simp);exact Dp hb hH (arg1 hF h1 ha) (sw rfl rfl hs)
 case load t x=>
  split at ht
  ·rename_i hok;obtain⟨a,h1,h2,rfl⟩:=yB ht;cases same h2 (by simp) (by simp);obtain⟨h3,rfl⟩:=sr rfl rfl hs;exact(Um hH hok (arg1 hF h1 ha) h3).out hH
  grind
 case store t x y=>
  split at ht
  ·cases ht
  ·rename_i hok;split at ht
   ·rename_i a1 a2 h1 h2;cases ht;cases same rfl (by simp) (by simp);exact DA (by grind) hH (arg2 hF h1 h2 ha) (sw rfl rfl hs)
   grind
 case build t parts=>
  split at ht
  ·rename_i z fs hz hu;split at ht
   ·rename_i hok;split at ht
    ·rename_i l azs' hl has;cases ht;cases same rfl (by simp) (by simp);obtain⟨h3,rfl⟩:=sp rfl hs;exact(KV hz hl (.inl ⟨fs,hu,hok⟩) (Xb hF has ha) h3).out hH
    grind
   grind
  ·rename_i z n e hz hu;split at ht
   ·rename_i hok;split at ht
    ·rename_i l azs' hl has;cases ht;cases same rfl (by simp) (by simp);obtain⟨h3,rfl⟩:=sp rfl hs;exact(KV hz hl (.inr ⟨n,e,hu,hok⟩) (Xb hF has ha) h3).out hH
    grind
   grind
  grind
 case buildSlice t n parts=>
  split at ht
  ·rename_i e hu;split at ht
   ·rename_i hc;obtain⟨c1,c2,c3,c4⟩:=hc;split at ht
    ·rename_i azs' has;split at ht
     ·cases ht;rcases hk with rfl|⟨sh,h1,_⟩|⟨h1,_⟩|⟨_,h1,_⟩|⟨sh,h1,rfl⟩
      ·exact dp hu c3 c4 c1 c2 hH (Xb hF has ha) (sw rfl rfl hs)
      ·cases h1
      ·cases h1
      ·cases h1
      ·cases h1;obtain⟨h3,rfl⟩:=sp rfl hs;exact UM hu c3 c4 c1 c2 hH (Xb hF has ha) h3
     cases ht;rcases hk with rfl|⟨sh,h1,rfl|rfl⟩|⟨h1,_⟩|⟨_,h1,_⟩|⟨_,h1,_⟩
     ·exact D0 hu c3 c4 c1 c2 hH (Xb hF has ha) (sw rfl rfl hs)
     ·cases h1;obtain⟨h3,rfl⟩:=sp rfl hs;exact UM hu c3 c4 c1 c2 hH (Xb hF has ha) h3
     ·cases h1;exact D3 hu c3 c4 c1 c2 hH (Xb hF has ha) (sw rfl rfl hs)
     ·cases h1
     ·cases h1
     grind
    grind
   grind
  grind
 case binOp bo t x y ty=>
  split at ht
  ·split at ht
   ·rename_i a1 a2 h1 h2;cases ht;cases same rfl (by simp) (by simp);obtain⟨h4,rfl⟩:=sp rfl hs;have hl:=arg2 hF h1 h2 ha;obtain⟨c1,c2,rfl,k1,k2⟩:=hl.inv2;simp only[spure,sBin] at h4;split at h4
    ·rename_i q1 q2 q3 q4 q5;simp only[List.cons.injEq,and_true] at q5;obtain⟨rfl,rfl⟩:=q5;split at h4
     ·rename_i p hp';cases h4;obtain⟨u,u1,u2⟩:=bM (P:=P) bo t x y k1 k2 hp';exact(ye u1 u2).out hH
     grind
    grind
   grind
  ·split at ht
   ·rename_i hbool;split at ht
    ·rename_i a1 a2 h1 h2;cases ht;cases same rfl (by simp) (by simp);obtain⟨h4,rfl⟩:=sp rfl hs;have hl:=arg2 hF h1 h2 ha;obtain⟨c1,c2,rfl,k1,k2⟩:=hl.inv2;simp only[spure,Ql] at h4;split at h4
     ·rename_i q1 q2 q3 q4 q5;simp only[List.cons.injEq,and_true] at q5;obtain⟨rfl,rfl⟩:=q5;split at h4
      ·rename_i p hbb;cases h4;have hty:=vR hbool;obtain⟨u,u1,u2⟩:=bL (P:=P) (w:=w) (X:=X) (μ:=μ) (hp:=hp') bo t x y _ _ hty hbb;rw[k1.bool_inv,k2.bool_inv];exact(ye u1 u2).out hH
      grind
     grind
    grind
   ·split at ht
    ·rename_i hif;split at ht
     ·rename_i hcc;obtain⟨c1,c2⟩:=hcc;obtain⟨a,h1,h2,rfl⟩:=yB ht;cases same h2 (by simp) (by simp);obtain⟨h3,rfl⟩:=sp rfl hs;have hy:y=.const .nilIface:=by
       grind [vO]
      subst hy;exact(dg (x:=x) c1 hif (arg1 hF h1 ha) h3).out hH
     grind
    ·split at ht
     ·rename_i hsl;split at ht
      ·rename_i hcc;obtain⟨c1,c2⟩:=hcc;obtain⟨a,h1,h2,rfl⟩:=yB ht;cases same h2 (by simp) (by simp);obtain⟨h3,rfl⟩:=sp rfl hs;have hy:y=.const (.slice none 0 0):=by
        grind [vQ]
       subst hy;obtain⟨e,he⟩:∃e,P.underlying t=some (.slice e):=by
        grind [vP]
       exact(dk (x:=x) c1 he (arg1 hF h1 ha) h3).out hH
      grind
     ·split at ht
      ·rename_i hbo;split at ht
       ·rename_i ds a1 a2 hds h1 h2;cases ht;cases same rfl (by simp) (by simp);obtain⟨h4,rfl⟩:=sp rfl hs;have hbo':bo=.eql\/bo=.neq:=by cases bo <;> first|exact .inl rfl|exact .inr rfl|(cases hbo)
        exact(DN hbo' hds (arg2 hF h1 h2 ha) h4).out hH
       grind
      grind
 case unOp uo t x=>
  cases uo <;> simp only at ht <;> (try (cases ht;done))
  ·split at ht
   ·obtain⟨a,h1,h2,rfl⟩:=yB ht;cases same h2 (by simp) (by simp);obtain⟨h3,rfl⟩:=sp rfl hs;exact(bS (arg1 hF h1 ha) h3).out hH
   grind
  ·obtain⟨a,h1,h2,rfl⟩:=yB ht;cases same h2 (by simp) (by simp);obtain⟨h3,rfl⟩:=sp rfl hs;exact(bR (arg1 hF h1 ha) h3).out hH
 case convert src dst x=>
  split at ht
  ·rename_i k0 k h1 h2;obtain⟨a,g1,g2,rfl⟩:=yB ht;cases same g2 (by simp) (by simp);obtain⟨h3,rfl⟩:=sp rfl hs;exact(Da h1 h2 (arg1 hF g1 ha) h3).out hH
  grind
 case makeInterface t x=>
  split at ht
  ·cases ht
  ·cases ht
  ·rename_i n1 n2;obtain⟨a,g1,g2,rfl⟩:=yB ht;cases same g2 (by simp) (by simp);obtain⟨h3,rfl⟩:=sp rfl hs;have hcon:P.concrete t=true:=by
    grind [Program.concrete]
   exact(De hcon (arg1 hF g1 ha) h3).out hH
 case makeFunc fn first captured=>
  split at ht
  ·rename_i azs' has;cases ht;cases same rfl (by simp) (by simp);obtain⟨h3,rfl⟩:=sp rfl hs;have hl:=Xb hF has ha;rw[List.map_append] at hl;have h4:=Dg (fn:=fn) (first:=first.toList.map act.eval) hl (by simpa[spure] using h3);refine(ye (s:=Instr.makeFunc fn (first.map act.eval) (captured.map act.eval)) (v':=.func fn (first.map act.eval) (captured.map act.eval)) rfl (by grind [UV])).out hH
  grind
 case makeMap t r=>
  cases r with
  |some r=>cases ht
  |none=>
   simp only[] at ht;split at ht
   ·rename_i tk te hu;cases ht;cases same rfl (by simp) (by simp);have h3:=sw rfl rfl hs
    grind [swrite,DC]
   grind
 case makeSlice t l c=>
  split at ht
  ·rename_i e hu;split at ht
   ·rename_i hc;split at ht
    ·split at ht
     ·rename_i z a1 a2 hz h1 h2;cases ht;cases same rfl (by simp) (by simp);exact dq hu hc.2.1 hc.2.2 hc.1 hz hH (arg2 hF h1 h2 ha) (sw rfl rfl hs)
     grind
    ·split at ht
     ·rename_i z a1 a2 hz h1 h2;cases ht;cases same rfl (by simp) (by simp);exact DZ hu hc.2.1 hc.2.2 hc.1 hz hH (arg2 hF h1 h2 ha) (sw rfl rfl hs)
     grind
   grind
  grind
 case fieldAddr t x i=>
  split at ht
  ·rename_i fs hu;split at ht
   ·rename_i f hf;split at ht
    ·cases ht
    ·rename_i hok;obtain⟨a,g1,g2,rfl⟩:=yB ht;cases same g2 (by simp) (by simp);obtain⟨h3,rfl⟩:=sp rfl hs;exact(bU hu hf (by grind) (arg1 hF g1 ha) h3).out hH
   grind
  grind
 case field t x i=>
  split at ht
  ·rename_i fs hu;split at ht
   ·rename_i f hf;split at ht
    ·cases ht
    ·rename_i hok;obtain⟨a,g1,g2,rfl⟩:=yB ht;cases same g2 (by simp) (by simp);obtain⟨h3,rfl⟩:=sp rfl hs;exact(b9 hu hf (by grind) (arg1 hF g1 ha) h3).out hH
   grind
  grind
 case indexAddr t x i=>
  split at ht
  ·rename_i e hu;split at ht
   ·cases ht
   ·rename_i hok;split at ht
    ·rename_i a1 a2 h1 h2;cases ht;cases same rfl (by simp) (by simp);obtain⟨h3,rfl⟩:=sp rfl hs;exact(bV hu (by grind) (arg2 hF h1 h2 ha) h3).out hH
    grind
  ·rename_i n e hu;split at ht
   ·cases ht
   ·rename_i hok;split at ht
    ·rename_i a1 a2 h1 h2;cases ht;cases same rfl (by simp) (by simp);obtain⟨h3,rfl⟩:=sp rfl hs;exact(bY hu (by grind) (arg2 hF h1 h2 ha) h3).out hH
    grind
  grind
 case index t x i=>
  split at ht
  ·rename_i hu;split at ht
   ·rename_i a1 a2 h1 h2;cases ht;cases same rfl (by simp) (by simp);obtain⟨h3,rfl⟩:=sp rfl hs;exact(b8 hu (arg2 hF h1 h2 ha) h3).out hH
   grind
  ·rename_i n e hu;split at ht
   ·rename_i hok;split at ht
    ·rename_i a1 a2 h1 h2;cases ht;cases same rfl (by simp) (by simp);obtain⟨h3,rfl⟩:=sp rfl hs;exact(DU hu hok.1 hok.2 (arg2 hF h1 h2 ha) h3).out hH
    grind
   grind
  grind
 case lookup t m k ok=>
  split at ht
  ·rename_i tk te hu;split at ht
   ·rename_i s hk0;split at ht
    ·rename_i a1 a2 z h1 h2 hz;cases ht;cases same rfl (by simp) (by simp);obtain⟨h3,rfl⟩:=sr rfl rfl hs;exact(DT hu hk0 hz hH (arg2 hF h1 h2 ha) h3).out hH
    grind
   ·split at ht
    ·rename_i ds a1 a2 z hk0 h1 h2 hz;cases ht;cases same rfl (by simp) (by simp);obtain⟨h3,rfl⟩:=sr rfl rfl hs;exact(DV hu hk0 hz hH (arg2 hF h1 h2 ha) h3).out hH
    grind
  grind
 case mapUpdate t m k y=>
  split at ht
  ·cases ht
  ·split at ht
   ·rename_i tk te hu;split at ht
    ·rename_i s a1 a2 a3 hk0 h1 h2 h3;cases ht;cases same rfl (by simp) (by simp);exact UI hu hk0 hH (arg3 hF h1 h2 h3 ha) (sw rfl rfl hs)
    grind
   grind
 case insert t m k y=>
  split at ht
  ·cases ht
  ·split at ht
   ·rename_i tk te hu;split at ht
    ·rename_i s a1 a2 a3 hk0 h1 h2 h3;cases ht;cases same rfl (by simp) (by simp);exact UI hu hk0 hH (arg3 hF h1 h2 h3 ha) (sw rfl rfl hs)
    grind
   grind
 case extract x i=>
  exact one _ _ _ ht rfl (by simp) (by simp) fun hl h=>Db hl h
 case typeAssert x xt t ok=>
  split at ht
  ·cases ht
  ·cases ht
  ·rename_i n1 n2;split at ht
   ·rename_i z hz;obtain⟨a,g1,g2,rfl⟩:=yB ht;cases same g2 (by simp) (by simp);obtain⟨h3,rfl⟩:=sp rfl hs;cases hu:P.underlying t with
    |none=>grind
    |some d=>exact(DY hu (fun ms e=>n1 ms (by grind)) hz (arg1 hF g1 ha) h3).out hH
   grind
 case nilCheck x=>
  obtain⟨a,h1,h2,rfl⟩:=yB ht;cases same h2 (by simp) (by simp);obtain⟨h3,rfl⟩:=sp rfl hs;obtain⟨⟨ad,h4⟩,h5⟩:=D9 (arg1 hF h1 ha) h3;rw[h4] at h5 ⊢;exact(show Yh P w X μ hp' (pure (.value (.pointer (some ad)))) v from⟨_,rfl,h5⟩).out hH
 case slice t x lo hi mx=>
  cases mx with
  |some m=>
   cases hi with
   |none=>cases ht
   |some h0=>
    simp only[] at ht;split at ht
    ·rename_i e hu;split at ht
     ·cases ht
     ·rename_i hok;split at ht
      ·rename_i a l b c g1 g2 g3 g4;cases ht;cases same rfl (by simp) (by simp);obtain⟨h3,rfl⟩:=sp rfl hs;have hl2:LR w X μ hp' vs (act.eval x::((lo.map act.eval).toList++[act.eval h0,act.eval m])):=by
        refine argc hF g1 ha fun us hus=> ?_;cases lo with
        |none=>
         grind [arg2]
        |some l0=>
         grind [ZA,arg3]
       have:=dl (lo:=lo.map act.eval) hu (by grind) hl2 (by simpa[spure] using h3);exact this.out hH
      grind
    grind
  |none=>
   simp only[] at ht;split at ht
   ·rename_i e hu;split at ht
    ·cases ht
    ·rename_i hok;split at ht
     ·rename_i a l h g1 g2 g3;cases ht;cases same rfl (by simp) (by simp);obtain⟨h3,rfl⟩:=sp rfl hs;have:=D8 (lo:=lo.map act.eval) (hi:=hi.map act.eval) hu (by grind) (argc hF g1 ha fun us hus=>bounds hF g2 g3 hus) (by simpa[spure] using h3);exact this.out hH
     grind
   ·rename_i hu;split at ht
    ·rename_i a l h g1 g2 g3;cases ht;cases same rfl (by simp) (by simp);obtain⟨h3,rfl⟩:=sp rfl hs;have:=DW (lo:=lo.map act.eval) (hi:=hi.map act.eval) hu rfl (argc hF g1 ha fun us hus=>bounds hF g2 g3 hus) (by simpa[spure] using h3);exact this.out hH
    grind
   grind
 case call c=>
  cases hcal:c.callee with
  |invoke r n=>grind
  |value f=>
   rw[hcal] at ht;simp only[] at ht;split at ht
   ·cases ht;rcases hk with rfl|⟨sh,h1,_⟩|⟨_,rfl|rfl⟩|⟨sh,h1,_⟩|⟨sh,h1,_⟩
    ·cases hs
    ·cases h1
    ·cases hs
    ·cases hs
    ·cases h1
    grind
   grind
  |builtin bi=>
   rw[hcal] at ht;simp only[resolve,hcal];have go:∀(s:Sem Next),builtin bi c.argTypes o.type (c.args.map fun| .const _=>true|_=>false) (c.args.map act.eval)=s->Out P b w X μ hp s v hp'->Out P b w X μ hp (do let d <-(pure { target:=.builtin bi c.argTypes o.type (c.args.map fun| .const _=>true|_=>false),args:=c.args.map act.eval }:Sem Deferred);invoke d.target d.args) v hp':=by
    intro s e h;subst e;exact h
   cases bi <;> simp only[] at ht <;> (try (cases ht;done))
   case append=>
    split at ht
    ·rename_i x y t u e1 e2;obtain⟨ae,ae'⟩:=args_two e1 act.eval;have te:=UX e2;split at ht
     ·rename_i e e' hu hu';split at ht
      ·rename_i hc;obtain⟨rfl,c1,c2,c3⟩:=hc;split at ht
       ·rename_i a1 a2 h1 h2;split at ht
        ·cases ht;cases same rfl (by simp) (by simp);exact go _ rfl (by rw[te,ae'];exact dv hu c2 c3 c1 hH (arg2 hF h1 h2 ha) (sw rfl rfl hs))
        cases ht;rcases hk with rfl|⟨_,h9,_⟩|⟨h9,_⟩|⟨sh9,h9,rfl⟩|⟨_,h9,_⟩
        ·exact go _ rfl (by rw[te,ae'];exact Uu hu c2 c3 c1 hH (arg2 hF h1 h2 ha) (sw rfl rfl hs))
        ·cases h9
        ·cases h9
        ·cases h9;obtain⟨h3,rfl⟩:=sp rfl hs;exact go _ rfl (by rw[te,ae'];exact DE hu c2 c3 c1 hH (arg2 hF h1 h2 ha) h3)
        grind
       grind
      grind
     grind
    grind
   case copy=>
    split at ht
    ·rename_i x y t u e1 e2;obtain⟨ae,ae'⟩:=args_two e1 act.eval;have te:=UX e2;split at ht
     ·rename_i e hu;split at ht
      ·rename_i hc;obtain⟨rfl,hok⟩:=hc;split at ht
       ·rename_i a1 a2 h1 h2;cases ht;cases same rfl (by simp) (by simp);exact go _ rfl (by rw[te,ae'];exact dz hu hok hH (arg2 hF h1 h2 ha) (sw rfl rfl hs))
       grind
      grind
     grind
    grind
   case clear=>
    split at ht
    ·rename_i x t e1 e2;have ae:=UW e1 act.eval;have te:=UY e2;split at ht
     ·rename_i e hu;split at ht
      ·rename_i hc;split at ht
       ·rename_i z a1 hz h1;cases ht;cases same rfl (by simp) (by simp);exact go _ rfl (by rw[te,ae];exact dC hu hc.1 hc.2 hz hH (arg1 hF h1 ha) (sw rfl rfl hs))
       grind
      grind
     grind
    grind
   case len=>
    split at ht
    ·rename_i x t e1 e2;have ae:=UW e1 act.eval;have te:=UY e2;split at ht
     ·rename_i e hu;exact go _ rfl (one _ _ _ ht rfl (by simp) (by simp) fun hl h=>by rw[te,ae];exact Dj hu hl h)
     ·rename_i hu;exact go _ rfl (one _ _ _ ht rfl (by simp) (by simp) fun hl h=>by rw[te,ae];exact Dk hu hl h)
     ·rename_i tk tv hu;obtain⟨a,g1,g2,rfl⟩:=yB ht;cases same g2 (by simp) (by simp);obtain⟨h3,rfl⟩:=sr rfl rfl hs;exact go _ rfl (by rw[te,ae];exact(Dl hH hu (arg1 hF g1 ha) h3).out hH)
     grind
    grind
   case max=>
    split at ht
    ·rename_i x y t u e1 e2;obtain⟨ae,ae'⟩:=args_two e1 act.eval;split at ht
     ·rename_i a1 a2 h1 h2;cases ht;cases same rfl (by simp) (by simp);obtain⟨h3,rfl⟩:=sp rfl hs;exact go _ rfl (by rw[ae'];exact(Dd (arg2 hF h1 h2 ha) h3).out hH)
     grind
    grind
   case min=>
    split at ht
    ·rename_i x y t u e1 e2;obtain⟨ae,ae'⟩:=args_two e1 act.eval;split at ht
     ·rename_i a1 a2 h1 h2;cases ht;cases same rfl (by simp) (by simp);obtain⟨h3,rfl⟩:=sp rfl hs;exact go _ rfl (by rw[ae'];exact(Dc (arg2 hF h1 h2 ha) h3).out hH)
     grind
    grind
 case panic x=>
  obtain⟨a,g1,g2,rfl⟩:=yB ht;cases same g2 (by simp) (by simp);cases hs
end Go.Am
