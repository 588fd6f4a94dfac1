/- What is proved: the abstract machine says true of the model (part 2). No conditions beside those that each theorem names. -/
import Derived.Test.YteaehiceghhajaaAm1
import Derived.Laws.MakeOwn
import Derived.Laws.CopyRow
import Derived.Lib.Overlaps
import Derived.WalkKit
set_option linter.unusedSimpArgs false
set_option linter.unusedVariables false
/- New variables, stores into variables, run in the model. -/
namespace Go.Am
variable{P:Program} {w:World} {X:Xc P} {μ:Nat->Option Nat} {hp:Heap}

def Out(P:Program)(b:Nat)(w:World)(X:Xc P)(μ:Nat->Option Nat)(hp:Heap)(s:Sem Next)(v:AV)(hp':Heap):Prop:=
 ∃n v' w' μ',s.run P w=.ok n w'/\(n=.value v'\/(n=.skip/\v'=undef))/\AR w' X μ' hp' v v'/\HR w' X μ' hp'/\Ext b X μ hp w μ' hp' w'

theorem Yld.out{b:Nat}{s:Sem Next}{v:AV}(h:Yld P w X μ hp s v)(hH:HR w X μ hp):Out P b w X μ hp s v hp:=by
 obtain⟨v',h1,h2⟩:=h
 exact⟨_,v',w,μ,h1,.inl rfl,h2,hH,Ext.refl _ _ _ _ _⟩

theorem zhv(b:Nat)(hH:HR w X μ hp){sh:Sh}(hs:0<sh.size):HR w X (upd μ hp.length none) (hp++[.arr sh [] false])/\Ext b X μ hp w (upd μ hp.length none) (hp++[.arr sh [] false]) w/\
  AR w X (upd μ hp.length none) (hp++[.arr sh [] false]) (.sl sh hp.length 0 0 0) (.slice none 0 0):=by
 refine⟨hH.push _ none (Ext.refl _ _ _ _ _) (fun _ _ _ _=>rfl) (fun b h=>by cases h) (fun sh v h=>by cases h) (fun sh es fz h=> ?_) (fun sh es h=>by cases h),Ext.push _ none (Ext.refl _ _ _ _ _) (fun b h=>by cases h),?_⟩
 ·cases h;exact⟨hs,.inl ⟨rfl,rfl⟩⟩
 ·exact .sl _ _ _ _ _ _ _ [] false zbx (Nat.le_refl _) ⟨Nat.le_refl _,Nat.le_refl _⟩ (fun h=>absurd rfl h) fun _=>⟨Nat.le_refl _,.inl ⟨zaf _ _ _,rfl⟩⟩

theorem zfa(b:Nat)(hH:HR w X μ hp){sh:Sh}(hs:0<sh.size){v:Value}(hv:AR w X μ hp (.tsl sh []) v):HR w X (upd μ hp.length none) (hp++[.arr sh [] false])/\Ext b X μ hp w (upd μ hp.length none) (hp++[.arr sh [] false]) w/\
  AR w X (upd μ hp.length none) (hp++[.arr sh [] false]) (.sl sh hp.length 0 0 0) v:=by
 obtain⟨h1,h2,_⟩:=zhv b hH hs
 refine⟨h1,h2,?_⟩
 cases hv with
 |tsl _ _ a _=>exact .sl _ _ _ _ _ a _ [] false zbx (Nat.le_refl _) ⟨Nat.le_refl _,Nat.zero_le _⟩ (fun h=>absurd rfl h) fun _=>⟨Nat.le_refl _,.inl ⟨zaf _ _ _,rfl⟩⟩

theorem zgs(b:Nat):∀(l:List (Sh × AV)) (μ:Nat->Option Nat) (hp:Heap) (vs:List Value),HR w X μ hp->CR w X μ hp l vs->
  ∃μ',HR w X μ' (zam l hp).2/\Ext b X μ hp w μ' (zam l hp).2 w/\CR w X μ' (zam l hp).2 (zam l hp).1 vs/\total (zam l hp).1=total l:=by
 intro l
 induction l with
 |nil=>intro μ hp vs hH hc;exact⟨μ,hH,Ext.refl _ _ _ _ _,hc,rfl⟩
 |cons x r ih=>
  intro μ hp vs hH hc
  obtain⟨s,a⟩:=x
  obtain⟨v,us,rfl,h1,hf,h2,h3⟩:=hc.inv
  have plain:∀s a,AR w X μ hp a v->vshp v=s->zam ((s,a)::r) hp=((s,a)::(zam r hp).1,(zam r hp).2)->
    ∃μ',HR w X μ' (zam ((s,a)::r) hp).2/\Ext b X μ hp w μ' (zam ((s,a)::r) hp).2 w/\CR w X μ' (zam ((s,a)::r) hp).2 (zam ((s,a)::r) hp).1 (v::us)/\total (zam ((s,a)::r) hp).1=total ((s,a)::r):=by
   intro s a h2 h1 e
   obtain⟨μ',k1,k2,k3,k4⟩:=ih μ hp us hH h3
   rw[e]
   exact⟨μ',k1,k2,CR.cons h1 hf (k2.ar h2) k3,by simp[total,k4]⟩
  cases a with
  |tsl sh es=>
   cases es with
   |nil=>
    by_cases hs:0<sh.size
    ·obtain⟨p1,p2,p3⟩:=zfa b hH hs h2
     have h3':CR w X (upd μ hp.length none) (hp++[.arr sh [] false]) r us:=⟨h3.1,h3.2.1,fun i x v hx hv=>p2.ar (h3.2.2 i x v hx hv)⟩
     obtain⟨μ',k1,k2,k3,k4⟩:=ih _ _ us p1 h3'
     have e:zam ((s,.tsl sh [])::r) hp=((s,.sl sh hp.length 0 0 0)::(zam r (hp++[.arr sh [] false])).1,(zam r (hp++[.arr sh [] false])).2):=by
      simp only[zam,hs,if_true]
     rw[e]
     exact⟨μ',k1,p2.trans k2,CR.cons h1 hf (k2.ar p3) k3,by simp[total,k4]⟩
    ·exact plain s _ h2 h1 (by simp only[zam,hs,if_false])
   |cons e es=>exact plain s _ h2 h1 rfl
  |_=>exact plain s _ h2 h1 rfl

theorem zfT(b:Nat){a:AV}{v:Value}(hH:HR w X μ hp)(ha:AR w X μ hp a v):∃μ',HR w X μ' (a.own hp).2/\Ext b X μ hp w μ' (a.own hp).2 w/\AR w X μ' (a.own hp).2 (a.own hp).1 v:=by
 have same:a.own hp=(a,hp)->∃μ',HR w X μ' (a.own hp).2/\Ext b X μ hp w μ' (a.own hp).2 w/\AR w X μ' (a.own hp).2 (a.own hp).1 v:=by
  intro e
  rw[e]
  exact⟨μ,hH,Ext.refl _ _ _ _ _,ha⟩
 cases a with
 |tsl sh es=>
  cases es with
  |nil=>
   by_cases hs:0<sh.size
   ·obtain⟨p1,p2,p3⟩:=zfa b hH hs ha
    have e:(AV.tsl sh []).own hp=(.sl sh hp.length 0 0 0,hp++[.arr sh [] false]):=by simp only[AV.own,hs,if_true]
    rw[e]
    exact⟨_,p1,p2,p3⟩
   ·exact same (by simp only[AV.own,hs,if_false])
  |cons e es=>exact same rfl
 |agg l=>
  cases ha with
  |agg _ vs h1 h2 h3=>
   obtain⟨μ',k1,k2,k3,_⟩:=zgs b l μ hp vs hH ⟨h1,h2,h3⟩
   exact⟨μ',k1,k2,k3.agg⟩
 |_=>exact same rfl

theorem zeG(t:TypeId)(v:Value):(newVar t v).run P w=.ok ⟨w.heap.size,0,none⟩ (w.alloc (.cells v.cells t)):=by
 simp[newVar,newRow]

theorem znb{b:Nat}{t:TypeId}{sh:Sh}{a:AV}{x:Value}(hb:b<=hp.length)(hH:HR w X μ hp)(ha:AR w X μ hp a x)(hpl:a.plain=true)(hsh:a.shp=sh):
  ∃μ',AR (w.alloc (.cells x.cells t)) X μ' (((a.own (hp++[.box sh a])).2).set hp.length (.box sh (a.own (hp++[.box sh a])).1)) (.ptr hp.length 0) (.pointer (some ⟨w.heap.size,0,none⟩))/\
   HR (w.alloc (.cells x.cells t)) X μ' (((a.own (hp++[.box sh a])).2).set hp.length (.box sh (a.own (hp++[.box sh a])).1))/\
   Ext b X μ hp w μ' (((a.own (hp++[.box sh a])).2).set hp.length (.box sh (a.own (hp++[.box sh a])).1)) (w.alloc (.cells x.cells t)):=by
 have hs:vshp x=sh:=by rw[ha.vshp hpl,hsh]
 have hE:=Ext.push (b0:=b) (.box sh a) (some w.heap.size) (Ext.alloc (X:=X) (μ:=μ) (hp:=hp) (w:=w) b (.cells x.cells t)) (fun k hk=>by cases hk;exact Nat.le_refl _)
 have hH1:HR (w.alloc (.cells x.cells t)) X (upd μ hp.length (some w.heap.size)) (hp++[.box sh a]):=by
  refine hH.push _ _ (Ext.alloc 0 _) (fun i k hi hk=>zaJ w _ (hH.out i k hi hk).2) (fun k hk=>by cases hk;exact⟨Nat.le_refl _,by simp⟩) (fun s v h=> ?_) (fun _ _ _ h=>by cases h) (fun _ _ h=>by cases h)
  cases h
  exact⟨_,x,t,rfl,zaC w _,hs,ha.flat hpl,hE.ar ha⟩
 obtain⟨μ',k1,k2,k3⟩:=zfT b hH1 (hE.ar ha)
 obtain⟨v0,k4,k5,_⟩:=k2.box hp.length sh a zbx
 have k6:μ' hp.length=some w.heap.size:=by rw[k5,zaf]
 have E2:∀b0,b0<=hp.length->Ext b0 X μ' (a.own (hp++[.box sh a])).2 (w.alloc (.cells x.cells t)) μ' (((a.own (hp++[.box sh a])).2).set hp.length (.box sh (a.own (hp++[.box sh a])).1)) (w.alloc (.cells x.cells t)):=fun b0 hb0=>
  Ext.setBox k4 (fun h=>by omega) k6 rfl rfl rfl rfl (fun _ _=>rfl) (fun cs t fr h=>⟨cs,h,rfl⟩)
 have H2:=k1.setBox k4 k6 (E2 0 (Nat.zero_le _)) (fun _ _=>rfl) (zaC w _) hs (ha.flat hpl) k3
 refine⟨μ',?_,H2,(hE.trans k2).trans (E2 b hb)⟩
 have hl:hp.length<(a.own (hp++[.box sh a])).2.length:=(List.getElem?_eq_some_iff.1 k4).1
 exact .ptr _ 0 _ sh _ (by rw[List.getElem?_set_self hl]) k6

theorem zlJ{b:Nat}{t:TypeId}{x:Value}{vs:List AV}{v:AV}{hp':Heap}(hb:b<=hp.length)(hH:HR w X μ hp)(hl:LR w X μ hp vs [x])(h:wBox (shOf P t) hp vs=some (v,hp')):
  Out P b w X μ hp (do pure (.value (<-Instr.box t x))) v hp':=by
 unfold wBox at h
 split at h
 ·rename_i a
  obtain⟨_,e0,h1⟩:=hl.one
  cases e0
  split at h
  ·rename_i hh
   cases h
   obtain⟨μ',k1,k2,k3⟩:=znb (t:=t) hb hH h1 hh.1 hh.2
   exact⟨_,_,_,μ',by simp only[Instr.box,Sem.run_bind,zeG,Result.andThen_ok,Sem.run_pure],.inl rfl,k1,k2,k3⟩
  ·cases h
 ·cases h

theorem zbo{t:TypeId}{z:AV}(h:zaU P t=some z):∃v,(zeroValue t).run P w=.ok v w/\AR w X μ hp z v/\z.plain=true:=by
 unfold zaU at h
 split at h
 ·rename_i i hi
  split at h
  ·rename_i v hv
   obtain⟨h1,h2⟩:=zb4 P w X μ hp 8 t v z h
   exact⟨v,by simp[zeroValue,typeInfo,hi,hv],h1,h2⟩
  ·cases h
 ·cases h

theorem zih{b:Nat}{t:TypeId}{z:AV}{vs:List AV}{v:AV}{hp':Heap}(hb:b<=hp.length)(hH:HR w X μ hp)(hz:zaU P t=some z)(h:zbD (shOf P t) z hp vs=some (v,hp')):
  Out P b w X μ hp (do pure (.value (<-Instr.alloc t true (.tuple #[])))) v hp':=by
 unfold zbD at h
 split at h
 ·split at h
  ·rename_i hh
   cases h
   obtain⟨x,h1,h2,h3⟩:=zbo (w:=w) (X:=X) (μ:=μ) (hp:=hp) hz
   obtain⟨μ',k1,k2,k3⟩:=znb (t:=t) hb hH h2 h3 hh.2
   exact⟨_,_,_,μ',by simp only[Instr.alloc,Sem.run_bind,h1,zeG,Result.andThen_ok,Sem.run_pure],.inl rfl,k1,k2,k3⟩
  ·cases h
 ·cases h

theorem zii(d:Nat)(ihd:∀p off sh x q v u,AV.upd d p off sh x=some q->AR w X μ hp p v->AR w X μ hp x u->vshp u=sh->Flat u->∃n,AR w X μ hp q n/\vshp n=vshp v/\Flat n/\off+sh.size<=v.cells.size/\n.cells.toList=v.cells.toList.take off++u.cells.toList++v.cells.toList.drop (off+sh.size)):
  ∀(l:List (Sh × AV)) (vs:List Value) (off:Nat) (sh:Sh) (x:AV) (u:Value) (l':List (Sh × AV)),AV.upd.go d off sh x l=some l'->CR w X μ hp l vs->AR w X μ hp x u->vshp u=sh->Flat u->
   ∃ns,CR w X μ hp l' ns/\total l'=total l/\off+sh.size<=(cellsOf vs).length/\cellsOf ns=(cellsOf vs).take off++u.cells.toList++(cellsOf vs).drop (off+sh.size):=by
 intro l
 induction l with
 |nil=>intro vs off sh x u l' h;simp[AV.upd.go,AV.updGo] at h
 |cons y r ih=>
  intro vs off sh x u l' h hc hx hs hfu
  obtain⟨s,p⟩:=y
  obtain⟨v,us,rfl,h1,hf,h2,h3⟩:=hc.inv
  have hlen:v.cells.toList.length=s.size:=by rw[Array.length_toList,zai,h1]
  have hul:u.cells.toList.length=sh.size:=by rw[Array.length_toList,zai,hs]
  simp only[AV.upd.go,AV.updGo] at h
  split at h
  ·rename_i hh
   cases h
   obtain⟨rfl,rfl⟩:=hh
   refine⟨u::us,CR.cons hs hfu hx h3,by simp[total],by simp[zaa,hlen],?_⟩
   rw[zaa,zaa,List.take_zero,Nat.zero_add,<-hlen,List.drop_left]
   simp
  ·split at h
   ·rename_i hlt
    split at h
    ·rename_i p' hp'
     cases h
     obtain⟨n,n1,n2,n3,n4,n5⟩:=ihd _ _ _ _ _ _ _ hp' h2 hx hs hfu
     have n4':off+sh.size<=v.cells.toList.length:=by simpa using n4
     refine⟨n::us,CR.cons (by rw[n2,h1]) n3 n1 h3,by simp[total],by simp only[zaa,List.length_append];omega,?_⟩
     rw[zaa,zaa,n5,List.take_append_of_le_length (by omega),List.drop_append_of_le_length (by omega)]
     simp
    ·cases h
   ·rename_i hge
    split at h
    ·rename_i r' hr'
     cases h
     obtain⟨ns,n1,n2,n3,n4⟩:=ih us _ _ _ _ _ hr' h3 hx hs hfu
     refine⟨v::ns,CR.cons h1 hf h2 n1,by simp[total,n2],by simp only[zaa,List.length_append,hlen];omega,?_⟩
     rw[zaa,zaa,n4,List.take_append,List.drop_append,List.take_of_length_le (by omega:v.cells.toList.length<=off),List.drop_of_length_le (by omega:v.cells.toList.length<=off+sh.size),hlen,
      show off+sh.size - s.size=off - s.size+sh.size by omega]
     simp
    ·cases h
theorem zij:∀(d:Nat) (p:AV) (off:Nat) (sh:Sh) (x q:AV) (v u:Value),AV.upd d p off sh x=some q->AR w X μ hp p v->AR w X μ hp x u->vshp u=sh->Flat u->∃n,AR w X μ hp q n/\vshp n=vshp v/\Flat n/\off+sh.size<=v.cells.size/\n.cells.toList=v.cells.toList.take off++u.cells.toList++v.cells.toList.drop (off+sh.size):=by
 intro d
 induction d with
 |zero=>intro p off sh x q v u h;simp[AV.upd] at h
 |succ d ih=>
  intro p off sh x q v u h hp hx hs hfu
  simp only[AV.upd] at h
  split at h
  ·cases h
  ·rename_i l hl
   split at h
   ·rename_i l' hl'
    cases h
    obtain⟨vs,rfl,hc⟩:=zgG hl hp
    obtain⟨ns,n1,n2,n3,n4⟩:=zii d (fun p off sh x q v u h1 h2 h3 h4 h5=>ih p off sh x q v u h1 h2 h3 h4 h5) l vs off sh x u l' hl' hc hx hs hfu
    refine⟨_,n1.ofComps,?_,?_,by simpa[Value.cells] using n3,by simpa[Value.cells] using n4⟩
    ·have a1:=n1.total
     have a2:=hc.total
     simp[vshp,a1,a2,n2]
    ·intro c hcm
     have hc':c∈cellsOf ns:=by simpa[Value.cells] using hcm
     obtain⟨i,v,hi,hcv⟩:=zbk hc'
     have hlt:i<l'.length:=by rw[n1.1];exact(List.getElem?_eq_some_iff.1 hi).1
     exact(n1.2.1 i l'[i] v (List.getElem?_eq_getElem hlt) hi).2 c hcv
   ·cases h
end Go.Am

/- Stores, run in the model. -/
namespace Go.Am
variable{P:Program} {w:World} {X:Xc P} {μ:Nat->Option Nat} {hp:Heap}

theorem zfU{t:TypeId}(hok:okS P t=true){b o:Nat}{cur:Array Value}{t':TypeId}{u:Value}(hb:w.heap[b]? =some (.cells cur t' (0,0)))(hs:vshp u=shOf P t)(hf:Flat u)(hle:o+(shOf P t).size<=cur.size):
  (Instr.storeAt t (.pointer (some ⟨b,o,none⟩)) u).run P w=.ok () (w.setRow b (cur.toList.take o++u.cells.toList++cur.toList.drop (o+(shOf P t).size)).toArray):=by
 have hul:u.cells.size=(shOf P t).size:=by rw[zai,hs]
 have hst:=run_storeCells_at P b o t' u.cells.toList 0 cur w hb (by simpa[hul] using hle) (fun v hv=>hf v (by simpa using hv))
 simp only[Nat.add_zero,Array.length_toList,hul] at hst
 simp only[Instr.storeAt,Instr.sureAddr,Sem.run_bind,Sem.run_pure,Result.andThen_ok,storeVar,zph hok,hul,ne_eq,not_true_eq_false,if_false,hst]

theorem zlK{b0 r b:Nat}{sh:Sh}{old v:AV}{cur new:Array Value}{t:TypeId}(hr:hp[r]? =some (.box sh old))(hq:r<b0->∀q∈v.refsIn,q∈old.refsIn)(hb:μ r=some b)(hc:w.heap[b]? =some (.cells cur t (0,0)))(hsz:new.size=cur.size):
  Ext b0 X μ hp w μ (hp.set r (.box sh v)) (w.setRow b new):=
 Ext.setBox hr hq hb rfl rfl rfl (by simp[World.setRow]) (fun k hk=>setRow_other w b k new hk) (fun cs t' fr h=>by
  rw[hc] at h
  cases h
  exact⟨new,setRow_heap w b cur new t _ hc,hsz⟩)

theorem zcS{α:Type}{l m:List α}{n:Nat}(h:l.length=n):l.take 0++m++l.drop (0+n)=m:=by
 simp[<-h]

theorem zei{b0 r off b:Nat}{t:TypeId}{sh:Sh}{old v' new:AV}{x:Value}(hok:okS P t=true)(hH:HR w X μ hp)(hr:hp[r]? =some (.box sh old))(hb:μ r=some b)(hv:AR w X μ hp v' x)(hs:vshp x=shOf P t)(hf:Flat x)
  (hnew:(off=0/\sh=shOf P t/\new=v')\/AV.upd deep old off (shOf P t) v'=some new)(hq:r<b0->∀q∈new.refsIn,q∈old.refsIn):
  ∃w',(Instr.storeAt t (.pointer (some ⟨b,off,none⟩)) x).run P w=.ok () w'/\HR w' X μ (hp.set r (.box sh new))/\Ext b0 X μ hp w μ (hp.set r (.box sh new)) w':=by
 obtain⟨b',val,t',h1,h2,h3,h4,h5⟩:=hH.box r sh old hr
 rw[hb] at h1
 cases h1
 obtain⟨n,n1,n2,n3,n4,n5⟩:∃n,AR w X μ hp new n/\vshp n=sh/\Flat n/\off+(shOf P t).size<=val.cells.size/\n.cells.toList=val.cells.toList.take off++x.cells.toList++val.cells.toList.drop (off+(shOf P t).size):=by
  rcases hnew with⟨rfl,rfl,rfl⟩|hu
  ·have hvl:val.cells.toList.length=(shOf P t).size:=by rw[Array.length_toList,zai,h3]
   exact⟨x,hv,hs,hf,by rw[zai,h3];omega,(zcS hvl).symm⟩
  ·obtain⟨n,n1,n2,n3,n4,n5⟩:=zij _ _ _ _ _ _ _ _ hu h5 hv hs hf
   exact⟨n,n1,by rw[n2,h3],n3,n4,n5⟩
 have hrun:=zfU (P:=P) hok h2 hs hf n4
 rw[<-n5,Array.toArray_toList] at hrun
 have hsz:n.cells.size=val.cells.size:=by rw[zai,zai,n2,h3]
 have E:=fun b0 (hq:r<b0->∀q∈new.refsIn,q∈old.refsIn)=>zlK (w:=w) (X:=X) (v:=new) (new:=n.cells) hr hq hb h2 hsz
 exact⟨_,hrun,hH.setBox hr hb (E 0 (fun h=>absurd h (Nat.not_lt_zero _))) (fun k hk=>setRow_other w b k _ hk) (setRow_heap w b _ _ t' _ h2) n2 n3 n1,E b0 hq⟩

theorem zjT{l:List (Sh × AV)}{q:Nat}:q∈AV.refsIn.go l↔∃x,x∈l/\q∈x.2.refsIn:=by
 induction l with
 |nil=>simp[AV.refsIn.go]
 |cons x r ih=>obtain⟨s,v⟩:=x;simp[AV.refsIn.go,ih]
theorem zlL{a:AV}{l:List (Sh × AV)}(h:a.comps=some l){q:Nat}:q∈AV.refsIn.go l↔q∈a.refsIn:=by
 cases a with
 |agg l'=>simp[AV.comps] at h;subst h;simp[AV.refsIn]
 |pv s p=>
  cases p with
  |agg l'=>
   simp[AV.comps] at h
   subst h
   rw[zjT]
   constructor
   ·rintro⟨x,hx,hq⟩
    obtain⟨y,_,rfl⟩:=List.mem_map.1 hx
    simp[AV.refsIn] at hq
   ·intro hq
    simp[AV.refsIn] at hq
  |_=>simp[AV.comps] at h
 |_=>simp[AV.comps] at h
theorem zik{l:List (Sh × AV)}{q:Nat}(h:q∈(AV.ofComps l).refsIn):q∈AV.refsIn.go l:=by
 unfold AV.ofComps at h
 split at h
 ·simp[AV.refsIn] at h
 ·simpa[AV.refsIn] using h
theorem zpl:∀(d:Nat) (p:AV) (off:Nat) (sh:Sh) (x n:AV) (q:Nat),AV.upd d p off sh x=some n->q∈n.refsIn->q∈p.refsIn\/q∈x.refsIn:=by
 intro d
 induction d with
 |zero=>intro p off sh x n q h;simp[AV.upd] at h
 |succ d ih=>
  have go:∀(l:List (Sh × AV)) (off:Nat) (sh:Sh) (x:AV) (l':List (Sh × AV)) (q:Nat),AV.upd.go d off sh x l=some l'->q∈AV.refsIn.go l'->q∈AV.refsIn.go l\/q∈x.refsIn:=by
   intro l
   induction l with
   |nil=>intro off sh x l' q h;simp[AV.upd.go,AV.updGo] at h
   |cons y r ihl=>
    intro off sh x l' q h hq
    obtain⟨s,p⟩:=y
    simp only[AV.upd.go,AV.updGo] at h
    split at h
    ·cases h
     simp only[AV.refsIn.go,List.mem_append] at hq ⊢
     rcases hq with hq|hq
     ·exact .inr hq
     ·exact .inl (.inr hq)
    ·split at h
     ·split at h
      ·rename_i p' hp'
       cases h
       simp only[AV.refsIn.go,List.mem_append] at hq ⊢
       rcases hq with hq|hq
       ·rcases ih _ _ _ _ _ _ hp' hq with h1|h1
        ·exact .inl (.inl h1)
        ·exact .inr h1
       ·exact .inl (.inr hq)
      ·cases h
     ·split at h
      ·rename_i r' hr'
       cases h
       simp only[AV.refsIn.go,List.mem_append] at hq ⊢
       rcases hq with hq|hq
       ·exact .inl (.inl hq)
       ·rcases ihl _ _ _ _ _ hr' hq with h1|h1
        ·exact .inl (.inr h1)
        ·exact .inr h1
      ·cases h
  intro p off sh x n q h hq
  simp only[AV.upd] at h
  split at h
  ·cases h
  ·rename_i l hl
   split at h
   ·rename_i l' hl'
    cases h
    rcases go _ _ _ _ _ _ hl' (zik hq) with h1|h1
    ·exact .inl ((zlL hl).1 h1)
    ·exact .inr h1
   ·cases h

theorem zhw{I:Nat->Prop}(d:Nat)(ihd:∀p off sh x q v u,PV.upd d p off sh x=some q->PR w I p v->PR w I x u->vshp u=sh->∃n,PR w I q n/\vshp n=vshp v/\off+sh.size<=v.cells.size/\n.cells.toList=v.cells.toList.take off++u.cells.toList++v.cells.toList.drop (off+sh.size)):
  ∀(l:List (Sh × PV)) (vs:List Value) (off:Nat) (sh:Sh) (x:PV) (u:Value) (l':List (Sh × PV)),PV.upd.go d off sh x l=some l'->CP w I l vs->PR w I x u->vshp u=sh->
   ∃ns,CP w I l' ns/\total l'=total l/\off+sh.size<=(cellsOf vs).length/\cellsOf ns=(cellsOf vs).take off++u.cells.toList++(cellsOf vs).drop (off+sh.size):=by
 intro l
 induction l with
 |nil=>intro vs off sh x u l' h;simp[PV.upd.go] at h
 |cons y r ih=>
  intro vs off sh x u l' h hc hx hs
  obtain⟨s,p⟩:=y
  obtain⟨v,us,rfl,h1,h2,h3⟩:=hc.inv
  have hlen:v.cells.toList.length=s.size:=by rw[Array.length_toList,zai,h1]
  have hul:u.cells.toList.length=sh.size:=by rw[Array.length_toList,zai,hs]
  simp only[PV.upd.go] at h
  split at h
  ·rename_i hh
   cases h
   obtain⟨rfl,rfl⟩:=hh
   refine⟨u::us,CP.cons hs hx h3,by simp[total],by simp[zaa,hlen],?_⟩
   rw[zaa,zaa,List.take_zero,Nat.zero_add,<-hlen,List.drop_left]
   simp
  ·split at h
   ·rename_i hlt
    split at h
    ·rename_i p' hp'
     cases h
     obtain⟨n,n1,n2,n4,n5⟩:=ihd _ _ _ _ _ _ _ hp' h2 hx hs
     have n4':off+sh.size<=v.cells.toList.length:=by simpa using n4
     refine⟨n::us,CP.cons (by rw[n2,h1]) n1 h3,by simp[total],by simp only[zaa,List.length_append];omega,?_⟩
     rw[zaa,zaa,n5,List.take_append_of_le_length (by omega),List.drop_append_of_le_length (by omega)]
     simp
    ·cases h
   ·rename_i hge
    split at h
    ·rename_i r' hr'
     cases h
     obtain⟨ns,n1,n2,n3,n4⟩:=ih us _ _ _ _ _ hr' h3 hx hs
     refine⟨v::ns,CP.cons h1 h2 n1,by simp[total,n2],by simp only[zaa,List.length_append,hlen];omega,?_⟩
     rw[zaa,zaa,n4,List.take_append,List.drop_append,List.take_of_length_le (by omega:v.cells.toList.length<=off),List.drop_of_length_le (by omega:v.cells.toList.length<=off+sh.size),hlen,
      show off+sh.size - s.size=off - s.size+sh.size by omega]
     simp
    ·cases h
theorem zlM{I:Nat->Prop}:∀(d:Nat) (p:PV) (off:Nat) (sh:Sh) (x q:PV) (v u:Value),PV.upd d p off sh x=some q->PR w I p v->PR w I x u->vshp u=sh->∃n,PR w I q n/\vshp n=vshp v/\off+sh.size<=v.cells.size/\n.cells.toList=v.cells.toList.take off++u.cells.toList++v.cells.toList.drop (off+sh.size):=by
 intro d
 induction d with
 |zero=>intro p off sh x q v u h;simp[PV.upd] at h
 |succ d ih=>
  intro p off sh x q v u h hp hx hs
  cases hp with
  |agg l vs hl h1 h2=>
   simp only[PV.upd] at h
   split at h
   ·rename_i l' hl'
    cases h
    obtain⟨ns,n1,n2,n3,n4⟩:=zhw d ih l vs off sh x u l' hl' ⟨hl,h1,h2⟩ hx hs
    refine⟨_,n1.agg,?_,by simpa[Value.cells] using n3,by simpa[Value.cells] using n4⟩
    have a1:=n1.total
    have a2:=CP.total (w:=w) (I:=I) (l:=l) (vs:=vs) ⟨hl,h1,h2⟩
    simp[vshp,a1,a2,n2]
   ·cases h
  |_=>simp[PV.upd] at h

theorem zil{vals:List Value}{k:Nat}(hk:∀v∈vals,v.cells.size=k)(i:Nat)(u:Value)(hi:i<vals.length)(hu:u.cells.size=k):cellsOf (vals.set i u)=(cellsOf vals).take (i*k)++u.cells.toList++(cellsOf vals).drop (i*k+k):=by
 induction vals generalizing i with
 |nil=>simp at hi
 |cons v r ih=>
  have hv:=hk v (by simp)
  cases i with
  |zero=>
   simp only[List.set_cons_zero,zaa,Nat.zero_mul,List.take_zero,List.nil_append,Nat.zero_add]
   rw[show k=v.cells.toList.length by simpa using hv.symm,List.drop_left]
  |succ i=>
   have hvl:v.cells.toList.length=k:=by simpa using hv
   rw[List.set_cons_succ,zaa,zaa,ih (fun v hv=>hk v (by simp[hv])) i (by simpa using hi),List.take_append,List.drop_append,List.take_of_length_le (show v.cells.toList.length<=(i+1)*k by rw[hvl,Nat.add_mul];omega),List.drop_of_length_le (show v.cells.toList.length<=(i+1)*k+k by rw[hvl,Nat.add_mul];omega),hvl,
    show(i+1)*k - k=i*k by rw[Nat.add_mul];omega,show(i+1)*k+k - k=i*k+k by rw[Nat.add_mul];omega]
   simp

theorem zim{b0 r i off:Nat}{t:TypeId}{sh:Sh}{es:List PV}{x:Value}{p old new:PV}{a:Addr}(hok:okS P t=true)(hH:HR w X μ hp)(hr:hp[r]? =some (.arr sh es false))(hi:es[i]? =some old)
  (ha:∃b,μ r=some b/\a=⟨b,i*sh.size+off,none⟩)(hv:PR w (Im X μ hp) p x)(hs:vshp x=shOf P t)(hnew:(off=0/\sh=shOf P t/\new=p)\/PV.upd deep old off (shOf P t) p=some new):
  ∃w',(Instr.storeAt t (.pointer (some a)) x).run P w=.ok () w'/\HR w' X μ (hp.set r (.arr sh (es.set i new) false))/\Ext b0 X μ hp w μ (hp.set r (.arr sh (es.set i new) false)) w':=by
 obtain⟨b,hb,rfl⟩:=ha
 have hil:=(List.getElem?_eq_some_iff.1 hi).1
 have hrl:=(List.getElem?_eq_some_iff.1 hr).1
 rcases(hH.arr r sh es false hr).2 with⟨hn,_⟩|⟨b',cs,t',vals,h1,h2,h3,h4,h5⟩
 ·rw[hb] at hn;cases hn
 rw[hb] at h1
 cases h1
 have hk:∀v∈vals,v.cells.size=sh.size:=by
  intro v hvm
  obtain⟨j,hj⟩:=List.mem_iff_getElem?.1 hvm
  have hjl:=(List.getElem?_eq_some_iff.1 hj).1
  rw[zai,(h4 j es[j] v (List.getElem?_eq_getElem (by omega)) hj).1]
 have hov:vals[i]? =some vals[i]:=List.getElem?_eq_getElem (by omega)
 obtain⟨o1,o2⟩:=h4 i old _ hi hov
 obtain⟨n,n1,n2,n4,n5⟩:∃n,PR w (Im X μ hp) new n/\vshp n=sh/\off+(shOf P t).size<=vals[i].cells.size/\n.cells.toList=vals[i].cells.toList.take off++x.cells.toList++vals[i].cells.toList.drop (off+(shOf P t).size):=by
  rcases hnew with⟨rfl,rfl,rfl⟩|hu
  ·have hvl:vals[i].cells.toList.length=(shOf P t).size:=by rw[Array.length_toList,zai,o1]
   exact⟨x,hv,hs,by rw[zai,o1];omega,(zcS hvl).symm⟩
  ·obtain⟨n,n1,n2,n4,n5⟩:=zlM _ _ _ _ _ _ _ _ hu o2 hv hs
   exact⟨n,n1,by rw[n2,o1],n4,n5⟩
 have hvs:vals[i].cells.size=sh.size:=hk _ (List.getElem_mem _)
 have hlen:(cellsOf vals).length=es.length*sh.size:=by
  have:∀l:List Value,(∀v∈l,v.cells.size=sh.size)->(cellsOf l).length=l.length*sh.size:=by
   intro l
   induction l with
   |nil=>intro _;simp[cellsOf]
   |cons v r ih=>intro hl;rw[zaa,List.length_append,Array.length_toList,hl v (by simp),ih (fun v hv=>hl v (by simp[hv])),List.length_cons,Nat.add_mul];omega
  rw[this vals hk,h3]
 have hc2:cs.toList.length=cs.size:=Array.length_toList
 have hcs:es.length*sh.size<=cs.size:=by
  have:=congrArg List.length h5
  rw[hlen,List.length_take] at this
  have hc2:cs.toList.length=cs.size:=Array.length_toList
  omega
 have hin:i*sh.size+sh.size<=es.length*sh.size:=by rw[<-Nat.succ_mul];exact Nat.mul_le_mul_right _ hil
 have hrun:=zfU (P:=P) (o:=i*sh.size+off) hok h2 hs hv.flat (by omega)
 have hnl:n.cells.toList.length=sh.size:=by rw[Array.length_toList,zai,n2]

 have hseg:vals[i].cells.toList=(cs.toList.drop (i*sh.size)).take sh.size:=by
  have g:=zeh hk i _ hov
  have g2:=congrArg (List.take sh.size) g
  rw[List.take_left' (by simpa using hvs),h5,List.drop_take,List.take_take,Nat.min_eq_left (by omega)] at g2
  exact g2.symm
 have hrow:cs.toList.take (i*sh.size+off)++x.cells.toList++cs.toList.drop (i*sh.size+off+(shOf P t).size)=cs.toList.take (i*sh.size)++n.cells.toList++cs.toList.drop (i*sh.size+sh.size):=by
  rw[n5,hseg,List.take_take,Nat.min_eq_left (by omega),List.drop_take,List.drop_drop]
  rw[List.take_add]
  have:cs.toList.drop (i*sh.size+(off+(shOf P t).size))=(cs.toList.drop (i*sh.size+(off+(shOf P t).size))).take (sh.size - (off+(shOf P t).size))++cs.toList.drop (i*sh.size+sh.size):=by
   conv=>lhs;rw[<-List.take_append_drop (sh.size - (off+(shOf P t).size)) (cs.toList.drop (i*sh.size+(off+(shOf P t).size)))]
   rw[List.drop_drop]
   congr 2
   omega
  conv=>lhs;rw[Nat.add_assoc,this]
  simp
 rw[hrow] at hrun
 have hnsz:(cs.toList.take (i*sh.size)++n.cells.toList++cs.toList.drop (i*sh.size+sh.size)).length=cs.size:=by
  simp only[List.length_append,List.length_take,List.length_drop,Array.length_toList] at hnl ⊢
  omega
 have E:∀b0,Ext b0 X μ hp w (upd μ r (μ r)) (hp.set r (.arr sh (es.set i new) false)) (w.setRow b (cs.toList.take (i*sh.size)++n.cells.toList++cs.toList.drop (i*sh.size+sh.size)).toArray):=fun b0=>
  Ext.setArr hr (by simp) (fun h=>by cases h) (fun _=>rfl) (fun k hk=>.inl hk) rfl rfl rfl (by simp[World.setRow]) (fun k hk hm=>setRow_other w b k _ (fun e=>hm rfl (by rw[e];exact hb))) (fun k cs' t'' fr hk=>by
   by_cases e:k=b
   ·subst e
    rw[h2] at hk
    cases hk
    exact⟨_,setRow_heap w k _ _ t' _ h2,by simpa using hnsz⟩
   ·exact⟨cs',by rw[setRow_other w b k _ e];exact hk,rfl⟩)
 have H:HR (w.setRow b (cs.toList.take (i*sh.size)++n.cells.toList++cs.toList.drop (i*sh.size+sh.size)).toArray) X (upd μ r (μ r)) (hp.set r (.arr sh (es.set i new) false)):=by
  refine hH.setArr hr (E 0) (fun k hk hne=>setRow_other w b k _ (fun e=>hne (by rw[e];exact hb))) (fun k hk=>⟨.inl hk,by rw[hb] at hk;cases hk;simpa[World.setRow] using zaP h2⟩) (.inr ⟨b,_,t',vals.set i n,hb,setRow_heap w b _ _ t' _ h2,by simp[h3],fun k q v hq hv=> ?_,?_⟩)
  ·by_cases e:k=i
   ·subst e
    rw[List.getElem?_set_self hil] at hq
    rw[List.getElem?_set_self (by omega)] at hv
    cases hq;cases hv
    exact⟨n2,(E 0).pr n1⟩
   ·rw[List.getElem?_set_ne (Ne.symm e)] at hq hv
    exact⟨(h4 k q v hq hv).1,(E 0).pr (h4 k q v hq hv).2⟩
  ·rw[zil hk i n (by omega) (by simpa using hnl),h5,List.length_set]
   simp only[List.take_take,List.drop_take]
   rw[Nat.min_eq_left (by omega),List.take_append,List.take_append,List.take_take,List.length_take,hc2,List.length_append,List.length_take,hc2,hnl,Nat.min_eq_right (by omega),Nat.min_eq_left (by omega:i*sh.size<=cs.size),
    List.take_of_length_le (by rw[hnl];omega:n.cells.toList.length<=es.length*sh.size - i*sh.size)]
 rw[zbf] at H
 have E':=E b0
 rw[zbf] at E'
 exact⟨_,hrun,H,E'⟩
theorem zaL(l:List AV)(q:Nat):q∈AV.refsIn.gol l↔∃a,a∈l/\q∈a.refsIn:=by
 induction l with
 |nil=>simp[AV.refsIn.gol]
 |cons v r ih=>simp[AV.refsIn.gol,ih]

theorem znc{b0 r i off:Nat}{t:TypeId}{sh:Sh}{es:List AV}{x:Value}{p old new:AV}{a:Addr}(hok:okS P t=true)(hH:HR w X μ hp)(hr:hp[r]? =some (.arv sh es))(hi:es[i]? =some old)
  (ha:∃b,μ r=some b/\a=⟨b,i*sh.size+off,none⟩)(hv:AR w X μ hp p x)(hs:vshp x=shOf P t)(hf:Flat x)(hnew:(off=0/\sh=shOf P t/\new=p)\/AV.upd deep old off (shOf P t) p=some new)(hq:r<b0->∀q∈new.refsIn,q∈old.refsIn):
  ∃w',(Instr.storeAt t (.pointer (some a)) x).run P w=.ok () w'/\HR w' X μ (hp.set r (.arv sh (es.set i new)))/\Ext b0 X μ hp w μ (hp.set r (.arv sh (es.set i new))) w':=by
 obtain⟨b,hb,rfl⟩:=ha
 have hil:=(List.getElem?_eq_some_iff.1 hi).1
 have hrl:=(List.getElem?_eq_some_iff.1 hr).1
 obtain⟨hpos,b',cs,t',vals,h1,h2,h3,h4,h5⟩:=hH.arv r sh es hr
 rw[hb] at h1
 cases h1
 have hk:∀v∈vals,v.cells.size=sh.size:=by
  intro v hvm
  obtain⟨j,hj⟩:=List.mem_iff_getElem?.1 hvm
  have hjl:=(List.getElem?_eq_some_iff.1 hj).1
  rw[zai,(h4 j es[j] v (List.getElem?_eq_getElem (by omega)) hj).1.1]
 have hov:vals[i]? =some vals[i]:=List.getElem?_eq_getElem (by omega)
 obtain⟨⟨o1,o3⟩,o2⟩:=h4 i old _ hi hov
 obtain⟨n,n1,n2,n3,n4,n5⟩:∃n,AR w X μ hp new n/\vshp n=sh/\Flat n/\off+(shOf P t).size<=vals[i].cells.size/\n.cells.toList=vals[i].cells.toList.take off++x.cells.toList++vals[i].cells.toList.drop (off+(shOf P t).size):=by
  rcases hnew with⟨rfl,rfl,rfl⟩|hu
  ·have hvl:vals[i].cells.toList.length=(shOf P t).size:=by rw[Array.length_toList,zai,o1]
   exact⟨x,hv,hs,hf,by rw[zai,o1];omega,(zcS hvl).symm⟩
  ·obtain⟨n,n1,n2,n3,n4,n5⟩:=zij _ _ _ _ _ _ _ _ hu o2 hv hs hf
   exact⟨n,n1,by rw[n2,o1],n3,n4,n5⟩
 have hvs:vals[i].cells.size=sh.size:=hk _ (List.getElem_mem _)
 have hlen:(cellsOf vals).length=es.length*sh.size:=by
  have:∀l:List Value,(∀v∈l,v.cells.size=sh.size)->(cellsOf l).length=l.length*sh.size:=by
   intro l
   induction l with
   |nil=>intro _;simp[cellsOf]
   |cons v r ih=>intro hl;rw[zaa,List.length_append,Array.length_toList,hl v (by simp),ih (fun v hv=>hl v (by simp[hv])),List.length_cons,Nat.add_mul];omega
  rw[this vals hk,h3]
 have hc2:cs.toList.length=cs.size:=Array.length_toList
 have hcs:es.length*sh.size<=cs.size:=by
  have:=congrArg List.length h5
  rw[hlen,List.length_take] at this
  have hc2:cs.toList.length=cs.size:=Array.length_toList
  omega
 have hin:i*sh.size+sh.size<=es.length*sh.size:=by rw[<-Nat.succ_mul];exact Nat.mul_le_mul_right _ hil
 have hrun:=zfU (P:=P) (o:=i*sh.size+off) hok h2 hs hf (by omega)
 have hnl:n.cells.toList.length=sh.size:=by rw[Array.length_toList,zai,n2]

 have hseg:vals[i].cells.toList=(cs.toList.drop (i*sh.size)).take sh.size:=by
  have g:=zeh hk i _ hov
  have g2:=congrArg (List.take sh.size) g
  rw[List.take_left' (by simpa using hvs),h5,List.drop_take,List.take_take,Nat.min_eq_left (by omega)] at g2
  exact g2.symm
 have hrow:cs.toList.take (i*sh.size+off)++x.cells.toList++cs.toList.drop (i*sh.size+off+(shOf P t).size)=cs.toList.take (i*sh.size)++n.cells.toList++cs.toList.drop (i*sh.size+sh.size):=by
  rw[n5,hseg,List.take_take,Nat.min_eq_left (by omega),List.drop_take,List.drop_drop]
  rw[List.take_add]
  have:cs.toList.drop (i*sh.size+(off+(shOf P t).size))=(cs.toList.drop (i*sh.size+(off+(shOf P t).size))).take (sh.size - (off+(shOf P t).size))++cs.toList.drop (i*sh.size+sh.size):=by
   conv=>lhs;rw[<-List.take_append_drop (sh.size - (off+(shOf P t).size)) (cs.toList.drop (i*sh.size+(off+(shOf P t).size)))]
   rw[List.drop_drop]
   congr 2
   omega
  conv=>lhs;rw[Nat.add_assoc,this]
  simp
 rw[hrow] at hrun
 have hnsz:(cs.toList.take (i*sh.size)++n.cells.toList++cs.toList.drop (i*sh.size+sh.size)).length=cs.size:=by
  simp only[List.length_append,List.length_take,List.length_drop,Array.length_toList] at hnl ⊢
  omega
 have E:∀b0,(r<b0->∀q∈new.refsIn,q∈old.refsIn)->Ext b0 X μ hp w (upd μ r (μ r)) (hp.set r (.arv sh (es.set i new))) (w.setRow b (cs.toList.take (i*sh.size)++n.cells.toList++cs.toList.drop (i*sh.size+sh.size)).toArray):=fun b0 hq0=>
  Ext.setArv hr (n:=es.length) (by simp only[zck,List.length_set]) (Nat.le_refl _) (fun _=>rfl) (fun es' e hlt q hq'=>by
   cases e
   obtain⟨a,ha,hqa⟩:=(zaL _ _).1 hq'
   rcases List.mem_or_eq_of_mem_set ha with ha|rfl
   ·exact(zaL _ _).2 ⟨a,ha,hqa⟩
   ·exact(zaL _ _).2 ⟨old,List.mem_of_getElem? hi,hq0 hlt q hqa⟩) (fun k hk=>.inl hk) rfl rfl rfl (by simp[World.setRow]) (fun k hk hm=>setRow_other w b k _ (fun e=>hm (by rw[e];exact hb))) (fun k cs' t'' fr hk=>by
   by_cases e:k=b
   ·subst e
    rw[h2] at hk
    cases hk
    exact⟨_,setRow_heap w k _ _ t' _ h2,by simpa using hnsz⟩
   ·exact⟨cs',by rw[setRow_other w b k _ e];exact hk,rfl⟩)
 have H:HR (w.setRow b (cs.toList.take (i*sh.size)++n.cells.toList++cs.toList.drop (i*sh.size+sh.size)).toArray) X (upd μ r (μ r)) (hp.set r (.arv sh (es.set i new))):=by
  refine hH.setArv hr (E 0 (fun h=>absurd h (Nat.not_lt_zero _))) (fun k hk hne=>setRow_other w b k _ (fun e=>hne (by rw[e];exact hb))) (fun k hk=>⟨.inl hk,by rw[hb] at hk;cases hk;simpa[World.setRow] using zaP h2⟩) (.inl ⟨_,b,_,t',vals.set i n,rfl,hb,setRow_heap w b _ _ t' _ h2,by simp[h3],fun k q v hq hv=> ?_,?_⟩)
  ·by_cases e:k=i
   ·subst e
    rw[List.getElem?_set_self hil] at hq
    rw[List.getElem?_set_self (by omega)] at hv
    cases hq;cases hv
    exact⟨⟨n2,n3⟩,(E 0 (fun h=>absurd h (Nat.not_lt_zero _))).ar n1⟩
   ·rw[List.getElem?_set_ne (Ne.symm e)] at hq hv
    exact⟨(h4 k q v hq hv).1,(E 0 (fun h=>absurd h (Nat.not_lt_zero _))).ar (h4 k q v hq hv).2⟩
  ·rw[zil hk i n (by omega) (by simpa using hnl),h5,List.length_set]
   simp only[List.take_take,List.drop_take]
   rw[Nat.min_eq_left (by omega),List.take_append,List.take_append,List.take_take,List.length_take,hc2,List.length_append,List.length_take,hc2,hnl,Nat.min_eq_right (by omega),Nat.min_eq_left (by omega:i*sh.size<=cs.size),
    List.take_of_length_le (by rw[hnl];omega:n.cells.toList.length<=es.length*sh.size - i*sh.size)]
 rw[zbf] at H
 have E':=E b0 hq
 rw[zbf] at E'
 exact⟨_,hrun,H,E'⟩
end Go.Am

/- Stores by the abstract machine's own word; new arrays and maps; append. -/
namespace Go.Am
variable{P:Program} {w:World} {X:Xc P} {μ:Nat->Option Nat} {hp:Heap}

theorem zcp{b:Nat}{s:Sem Unit}{hp':Heap}{w':World}{μ':Nat->Option Nat}(h:s.run P w=.ok () w')(hH:HR w' X μ' hp')(E:Ext b X μ hp w μ' hp' w'):Out P b w X μ hp (do s;pure .skip) .undef hp':=
 ⟨.skip,undef,w',μ',by simp[h],.inr ⟨rfl,rfl⟩,.undef _ (fun b h=>by cases h),hH,E⟩

theorem zin{b:Nat}{t:TypeId}{x y:Value}{vs:List AV}{v:AV}{hp':Heap}(hok:okS P t=true)(hH:HR w X μ hp)(hl:LR w X μ hp vs [x,y])(h:zaB (shOf P t) b hp vs=some (v,hp')):
  Out P b w X μ hp (do Instr.storeAt t x y;pure .skip) v hp':=by
 unfold zaB at h
 split at h
 ·rename_i p a
  obtain⟨x',y',e0,h1,h2⟩:=hl.two
  cases e0
  split at h
  ·rename_i hp1 hs
   cases h
   unfold astore at hs
   split at hs
   ·rename_i r off
    cases h1 with
    |ptr _ _ bl sh0 v0 ho hb=>
     simp only[ho] at hs
     split at hs
     ·cases hs
     ·rename_i hpl
      have hpl1:a.plain=true:=by cases ha:a.plain <;> simp_all
      have hpl2:a.shp=shOf P t:=by
       by_cases e:a.shp=shOf P t
       ·exact e
       ·exact absurd (.inr e) hpl
      have hsx:vshp y=shOf P t:=by rw[h2.vshp hpl1,hpl2]
      split at hs
      ·rename_i hbr
       obtain⟨μ1,k1,k2,k3⟩:=zfT b hH h2
       obtain⟨v1,j1,j2,_⟩:=k2.box r sh0 v0 ho
       have hb1:μ1 r=some bl:=by rw[j2];exact hb
       generalize hown:a.own hp=ow at hs k1 k2 k3 j1
       obtain⟨a',hpa⟩:=ow
       simp only at hs k1 k2 k3 j1

       have hsame:v1=v0:=by
        have:∀(l:List (Sh × AV)) (hp:Heap) (i:Nat) (o:AObj),hp[i]? =some o->(zam l hp).2[i]? =some o:=by
         intro l
         induction l with
         |nil=>intro hp i o h;exact h
         |cons x r ih=>
          intro hp i o h
          obtain⟨s,a⟩:=x
          cases a with
          |tsl sh es=>
           cases es with
           |nil=>
            by_cases hs:0<sh.size
            ·simp only[zam,hs,if_true]
             exact ih _ _ _ (zaF h)
            ·simp only[zam,hs,if_false]
             exact ih _ _ _ h
           |cons e es=>exact ih _ _ _ h
          |_=>exact ih _ _ _ h
        have keep:(a.own hp).2[r]? =some (.box sh0 v0):=by
         cases a with
         |tsl sh es=>
          cases es with
          |nil=>
           by_cases hs:0<sh.size
           ·simp only[AV.own,hs,if_true];exact zaF ho
           ·simp only[AV.own,hs,if_false];exact ho
          |cons e es=>exact ho
         |agg l=>exact this l hp r _ ho
         |_=>exact ho
        rw[hown] at keep
        simp only at keep
        rw[keep] at j1
        cases j1
        rfl
       subst hsame
       split at hs
       ·rename_i hh
        cases hs
        obtain⟨w',m1,m2,m3⟩:=zei (b0:=b) (new:=a') hok k1 j1 hb1 k3 hsx (h2.flat hpl1) (.inl ⟨hh.1,hh.2,rfl⟩) (fun hlt=>by omega)
        exact zcp m1 m2 (k2.trans m3)
       ·split at hs
        ·rename_i new hn
         cases hs
         obtain⟨w',m1,m2,m3⟩:=zei (b0:=b) (new:=new) hok k1 j1 hb1 k3 hsx (h2.flat hpl1) (.inr hn) (fun hlt=>by omega)
         exact zcp m1 m2 (k2.trans m3)
        ·cases hs
      ·split at hs
       ·rename_i hrefs
        have href:∀q∈a.refsIn,q∈v0.refsIn:=by
         intro q hq
         have:=List.all_eq_true.1 hrefs q hq
         simpa using this
        split at hs
        ·rename_i hh
         cases hs
         obtain⟨w',m1,m2,m3⟩:=zei (b0:=b) (new:=a) hok hH ho hb h2 hsx (h2.flat hpl1) (.inl ⟨hh.1,hh.2,rfl⟩) (fun _=>href)
         exact zcp m1 m2 m3
        ·split at hs
         ·rename_i new hn
          cases hs
          obtain⟨w',m1,m2,m3⟩:=zei (b0:=b) (new:=new) hok hH ho hb h2 hsx (h2.flat hpl1) (.inr hn) (fun _ q hq=>(zpl _ _ _ _ _ _ _ hn hq).elim id (href q))
          exact zcp m1 m2 m3
         ·cases hs
       ·cases hs
   ·rename_i s0 r ver i off
    split at hs
    ·cases hs
    ·rename_i hsh
     split at hs
     ·cases hs
     ·rename_i p hp1 hf
      obtain⟨e1,k1,k2⟩:=zaR b w X μ _ _ _ _ _ _ hf hH h2
      have h1':=e1.ar h1
      have hpl:a.plain=true:=by
       cases a <;> first|rfl|(simp[AV.freeze,deep] at hf)
      have hsx:vshp y=shOf P t:=by
       rw[h2.vshp hpl]
       by_cases e:a.shp=shOf P t
       ·exact e
       ·exact absurd e hsh
      split at hs
      ·rename_i s es ho
       split at hs
       ·rename_i hver
        split at hs
        ·rename_i old hold
         cases h1' with
         |eptr _ _ _ _ _ ad es' fz' ho' hv' hc'=>
          rw[ho] at ho'
          cases ho'
          obtain⟨c1,c2⟩:=hc' hver
          split at hs
          ·rename_i hh
           cases hs
           obtain⟨w',m1,m2,m3⟩:=zim (b0:=b) (new:=p) hok k1 ho hold c2 k2 hsx (.inl ⟨hh.1,hh.2,rfl⟩)
           exact zcp m1 m2 (e1.trans m3)
          ·split at hs
           ·rename_i new hn
            cases hs
            obtain⟨w',m1,m2,m3⟩:=zim (b0:=b) (new:=new) hok k1 ho hold c2 k2 hsx (.inr hn)
            exact zcp m1 m2 (e1.trans m3)
           ·cases hs
        ·cases hs
       ·cases hs
      ·cases hs
   ·rename_i s0 r ver i off
    split at hs
    ·cases hs
    ·rename_i hpl
     have hpl1:a.plain=true:=by cases ha:a.plain <;> simp_all
     have hpl2:a.shp=shOf P t:=by
      by_cases e:a.shp=shOf P t
      ·exact e
      ·exact absurd (.inr e) hpl
     have hsx:vshp y=shOf P t:=by rw[h2.vshp hpl1,hpl2]
     split at hs
     ·rename_i s es ho
      split at hs
      ·rename_i hver
       split at hs
       ·rename_i old hold
        split at hs
        ·rename_i new hnew
         split at hs
         ·rename_i hrefs
          cases hs
          cases h1 with
          |epv _ _ _ _ _ ad n ho' hv' hc'=>
           rw[ho] at ho'
           simp only[zck,Option.some.injEq,Prod.mk.injEq] at ho'
           obtain⟨rfl,rfl⟩:=ho'
           obtain⟨c1,c2⟩:=hc' hver
           have hq:r<b->∀q∈new.refsIn,q∈old.refsIn:=by
            intro hlt q hq
            rcases hrefs with h|h
            ·omega
            ·have:=List.all_eq_true.1 h q hq
             simpa using this
           have hn2:(off=0/\s=shOf P t/\new=a)\/AV.upd deep old off (shOf P t) a=some new:=by
            split at hnew
            ·rename_i hh
             cases hnew
             exact .inl ⟨hh.1,hh.2,rfl⟩
            ·exact .inr hnew
           obtain⟨w',m1,m2,m3⟩:=znc (b0:=b) (new:=new) hok hH ho hold c2 h2 hsx (h2.flat hpl1) hn2 hq
           exact zcp m1 m2 m3
         ·cases hs
        ·cases hs
       ·cases hs
      ·cases hs
     ·cases hs
   ·cases hs
  ·cases h
 ·cases h

theorem zjU{b:Nat}{sh:Sh}{v:AV}{hp':Heap}(hH:HR w X μ hp)(h:zb2 sh hp=some (v,hp')):Out P b w X μ hp (pure (.value (.slice none 0 0))) v hp':=by
 unfold zb2 at h
 split at h
 ·rename_i hs
  cases h
  obtain⟨k1,k2,k3⟩:=zhv b hH hs
  exact⟨_,_,w,_,rfl,.inl rfl,k3,k1,k2⟩
 ·cases h

theorem zjV{b:Nat}{t:TypeId}{sh:Sh}(hH:HR w X μ hp):Out P b w X μ hp (do pure (.value (<-Instr.makeMap t none))) (.map hp.length) (hp++[.map sh []]):=by
 have hE:∀b,Ext b X μ hp w (upd μ hp.length (some w.heap.size)) (hp++[.map sh []]) (w.alloc (.map #[] 0)):=fun b=>Ext.push _ _ (Ext.alloc b _) (fun k hk=>by cases hk;exact Nat.le_refl _)
 refine⟨.value (.map (some w.heap.size)),_,w.alloc (.map #[] 0),upd μ hp.length (some w.heap.size),by simp[Instr.makeMap],.inl rfl,.map _ _ sh [] zbx (zaf _ _ _),?_,hE b⟩
 exact hH.push _ _ (Ext.alloc 0 _) (fun i k hi hk=>zaJ w _ (hH.out i k hi hk).2) (fun k hk=>by cases hk;exact⟨Nat.le_refl _,by simp⟩) (fun _ _ h=>by cases h) (fun _ _ _ h=>by cases h) (fun s es h=>by cases h;exact⟨_,0,rfl,zaC w _,rfl⟩)
end Go.Am

/- append, run in the model. -/
namespace Go.Am
variable{P:Program} {w:World} {X:Xc P} {μ:Nat->Option Nat} {hp:Heap}

theorem zaW(t ty e:TypeId)(ht:P.underlying t=some (.slice e))(hok:okT P e=true)(base a:Option Addr)(n cap c:Nat)(hn:n<=cap):
  (Builtin.append_ #[t,t] ty #[.slice base n cap,.slice a 0 c]).run P w=.ok (.slice base n cap) w:=by
 have hs:=za6 hok w
 cases a <;> cases base <;> simp[Builtin.append_,run_underlying ht,hs,Builtin.lenOf,hn,Builtin.firstCells,loadCells,loadCellsFrom,storeCells]

theorem zc3(t ty e t0:TypeId)(i:TypeInfo)(ht:P.underlying t=some (.slice e))(hi:P.info? e=some i)
  (g sLen sCap:Nat)(cur:Array Value)(hg:w.heap[g]? =some (.cells cur t0 (0,0)))
  (a:Addr)(m c:Nat)(news:List Value)(hl:news.length=m*i.size)(hnews:∀j u,news[j]? =some u->w.cell? (a.add j)=some u)(h1:∀u∈news,u.oneCell'=true)
  (hroom:sLen+m<=sCap)(hfit:sLen*i.size+news.length<=cur.size):
  (Builtin.append_ #[t,t] ty #[.slice (some ⟨g,0,none⟩) sLen sCap,.slice (some a) m c]).run P w=
   .ok (.slice (some ⟨g,0,none⟩) (sLen+m) sCap) (w.setRow g (cur.toList.take (sLen*i.size)++news++cur.toList.drop (sLen*i.size+news.length)).toArray):=by
 have hf:=run_firstCells_some (P:=P) w i.size m a m c news hl hnews
 have hst:=run_storeCells_at P g (sLen*i.size) t0 news 0 cur w hg (by simpa using hfit) h1
 simp only[Nat.add_zero] at hst
 simp[Builtin.append_,run_underlying ht,sizeOf,typeInfo,hi,Builtin.lenOf,hroom,hf,Addr.add_lit,hst]

def ER(w:World)(I:Nat->Prop)(sh:Sh)(es:List PV)(vals:List Value):Prop:=
 es.length=vals.length/\∀(k:Nat) (p:PV) (v:Value),es[k]? =some p->vals[k]? =some v->vshp v=sh/\PR w I p v
theorem ER.sizes{I:Nat->Prop}{sh:Sh}{es:List PV}{vals:List Value}(h:ER w I sh es vals):∀v∈vals,v.cells.size=sh.size:=by
 intro v hv
 obtain⟨j,hj⟩:=List.mem_iff_getElem?.1 hv
 have hjl:=(List.getElem?_eq_some_iff.1 hj).1
 have hjl':j<es.length:=by rw[h.1];exact hjl
 rw[zai,(h.2 j es[j] v (List.getElem?_eq_getElem hjl') hj).1]
theorem ER.flat{I:Nat->Prop}{sh:Sh}{es:List PV}{vals:List Value}(h:ER w I sh es vals):∀c∈cellsOf vals,c.oneCell'=true:=by
 intro c hc
 obtain⟨j,v,hj,hcv⟩:=zbk hc
 have hjl:=(List.getElem?_eq_some_iff.1 hj).1
 have hjl':j<es.length:=by rw[h.1];exact hjl
 exact(h.2 j es[j] v (List.getElem?_eq_getElem hjl') hj).2.flat c hcv
theorem zcq{vals:List Value}{k:Nat}(hk:∀v∈vals,v.cells.size=k):(cellsOf vals).length=vals.length*k:=by
 induction vals with
 |nil=>simp[cellsOf]
 |cons v r ih=>rw[zaa,List.length_append,Array.length_toList,hk v (by simp),ih (fun v hv=>hk v (by simp[hv])),List.length_cons,Nat.add_mul];omega
theorem ER.length{I:Nat->Prop}{sh:Sh}{es:List PV}{vals:List Value}(h:ER w I sh es vals):(cellsOf vals).length=es.length*sh.size:=by rw[zcq h.sizes,h.1]
theorem ER.append{I:Nat->Prop}{sh:Sh}{es fs:List PV}{vals us:List Value}(h:ER w I sh es vals)(k:ER w I sh fs us):ER w I sh (es++fs) (vals++us):=by
 refine⟨by simp[h.1,k.1],fun i p v hp hv=> ?_⟩
 rcases Nat.lt_or_ge i es.length with hi|hi
 ·rw[List.getElem?_append_left hi] at hp
  rw[List.getElem?_append_left (by rw[<-h.1];exact hi)] at hv
  exact h.2 i p v hp hv
 ·rw[List.getElem?_append_right hi] at hp
  rw[List.getElem?_append_right (by rw[<-h.1];exact hi),<-h.1] at hv
  exact k.2 _ p v hp hv
theorem ER.take{I:Nat->Prop}{sh:Sh}{es:List PV}{vals:List Value}(h:ER w I sh es vals)(n:Nat):ER w I sh (es.take n) (vals.take n):=by
 refine⟨by simp[h.1],fun i p v hp hv=> ?_⟩
 have hi:i<n:=by have:=(List.getElem?_eq_some_iff.1 hp).1;simp at this;omega
 rw[List.getElem?_take_of_lt hi] at hp hv
 exact h.2 i p v hp hv
theorem ER.drop{I:Nat->Prop}{sh:Sh}{es:List PV}{vals:List Value}(h:ER w I sh es vals)(n:Nat):ER w I sh (es.drop n) (vals.drop n):=by
 refine⟨by simp[h.1],fun i p v hp hv=> ?_⟩
 rw[List.getElem?_drop] at hp hv
 exact h.2 _ p v hp hv
theorem ER.nil{I:Nat->Prop}{sh:Sh}:ER w I sh [] []:=⟨rfl,by simp⟩
theorem ER.ext{b0:Nat}{μ':Nat->Option Nat}{hp':Heap}{w':World}{sh:Sh}{es:List PV}{vals:List Value}(E:Ext b0 X μ hp w μ' hp' w')(h:ER w (Im X μ hp) sh es vals):ER w' (Im X μ' hp') sh es vals:=
 ⟨h.1,fun k p v hp hv=>⟨(h.2 k p v hp hv).1,E.pr (h.2 k p v hp hv).2⟩⟩
theorem ER.cells_take{I:Nat->Prop}{sh:Sh}{es:List PV}{vals:List Value}(h:ER w I sh es vals)(n:Nat)(hn:n<=es.length):cellsOf (vals.take n)=(cellsOf vals).take (n*sh.size):=by
 have:=zbG h.1 (fun i p v hp hv=>(h.2 i p v hp hv).1) 0 n (by omega)
 simpa using this
theorem ER.cells_drop{I:Nat->Prop}{sh:Sh}{es:List PV}{vals:List Value}(h:ER w I sh es vals)(n:Nat)(hn:n<=es.length):cellsOf (vals.drop n)=(cellsOf vals).drop (n*sh.size):=by
 have h1:=zcq (vals:=vals.drop n) (k:=sh.size) (fun v hv=>h.sizes v (List.mem_of_mem_drop hv))
 have:=zbG h.1 (fun i p v hp hv=>(h.2 i p v hp hv).1) n (es.length - n) (by omega)
 rw[List.take_of_length_le (by simp[h.1]),List.take_of_length_le] at this
 ·exact this
 ·rw[List.length_drop,h.length,<-Nat.sub_mul]
  exact Nat.le_refl _

theorem zc9{b o:Nat}{cs:Array Value}{t:TypeId}{fr:Nat × Nat}(hb:w.heap[b]? =some (.cells cs t fr)){vals:List Value}{n:Nat}(hc:cellsOf vals=(cs.toList.drop o).take n):∀(j:Nat) (u:Value),(cellsOf vals)[j]? =some u->w.cell? ((⟨b,o,none⟩:Addr).add j)=some u:=by
 intro j u hj
 have hjn:j<n:=by have:=(List.getElem?_eq_some_iff.1 hj).1;rw[hc,List.length_take] at this;omega
 rw[hc,List.getElem?_take_of_lt hjn,List.getElem?_drop] at hj
 rw[Addr.add_lit]
 simp only[World.cell?,hb]
 simpa using hj

theorem AR.slv_sl{sh s:Sh}{r ver off len:Nat}{v:Value}{es:List PV}(h:AR w X μ hp (.slv sh r ver off len) v)(e:hp[r]? =some (.arr s es true)):AR w X μ hp (.sl sh r ver off len) v:=by
 cases h with
 |slv _ _ _ _ _ a cap n ho hv hlc ha hc=>
  rw[e] at ho
  simp only[zck,Option.some.injEq,Prod.mk.injEq] at ho
  obtain⟨rfl,rfl⟩:=ho
  exact .sl _ _ _ _ _ _ _ es true e hv hlc ha fun ev=>let ⟨c1,c2⟩:=hc ev;⟨c1,.inr c2⟩
theorem zcT{x:AV}{shx:Sh}{new:List PV}{a:Option Addr}{m c:Nat}(hH:HR w X μ hp)(h:elems hp x=some (shx,new))(hx:AR w X μ hp x (.slice a m c)):
  m=new.length/\∃vals,ER w (Im X μ hp) shx new vals/\(new≠[]->∃ad,a=some ad/\∀(j:Nat) (u:Value),(cellsOf vals)[j]? =some u->w.cell? (ad.add j)=some u):=by
 have ps:∀(sh:Sh) (es:List PV),PR w (Im X μ hp) (.sl sh es) (.slice a m c)->m=es.length/\∃vals,ER w (Im X μ hp) sh es vals/\(es≠[]->∃ad,a=some ad/\∀(j:Nat) (u:Value),(cellsOf vals)[j]? =some u->w.cell? (ad.add j)=some u):=by
  intro sh es hp
  cases hp with
  |nilsl=>exact⟨rfl,[],ER.nil,fun h=>absurd rfl h⟩
  |sl _ _ b o _ cs t fr vals hl hI hb h1 h2 hc hn=>
   exact⟨rfl,vals,⟨hl,fun k p v hp hv=>⟨h1 k p v hp hv,h2 k p v hp hv⟩⟩,fun _=>⟨_,rfl,zc9 hb hc⟩⟩
 have slc:∀(s0:Sh) (r ver off len:Nat),(match hp[r]? with
   |some (.arr sh es _)=>if ver=es.length then
     if off=0/\len=es.length then some (sh,es)
     else if off+len<=es.length then some (sh,(es.drop off).take len) else none
    else none
   |_=>none)=some (shx,new)->AR w X μ hp (.sl s0 r ver off len) (.slice a m c)->m=new.length/\∃vals,ER w (Im X μ hp) shx new vals/\(new≠[]->∃ad,a=some ad/\∀(j:Nat) (u:Value),(cellsOf vals)[j]? =some u->w.cell? (ad.add j)=some u):=by
  intro s0 r ver off len h hx
  cases hx with
  |sl _ _ _ _ _ _ _ es fz ho hv hlc ha hc=>
   simp only[ho] at h
   split at h
   ·rename_i hver
    obtain⟨c1,c2⟩:=hc hver
    have view:off+m<=es.length->m=((es.drop off).take m).length/\∃vals,ER w (Im X μ hp) s0 ((es.drop off).take m) vals/\((es.drop off).take m≠[]->∃ad,a=some ad/\∀(j:Nat) (u:Value),(cellsOf vals)[j]? =some u->w.cell? (ad.add j)=some u):=by
     intro hle
     refine⟨by simp;omega,?_⟩
     rcases(hH.arr r s0 es fz ho).2 with⟨h1,rfl⟩|⟨b,cs,t,vals,h1,h2,h3,h4,h5⟩
     ·simp only[List.drop_nil,List.take_nil]
      exact⟨[],ER.nil,fun h=>absurd rfl h⟩
     ·have hE:ER w (Im X μ hp) s0 es vals:=⟨h3,h4⟩
      refine⟨(vals.drop off).take m,(hE.drop off).take m,fun hne=> ?_⟩
      have hm:m≠0:=by rintro rfl;simp at hne
      rcases c2 with⟨c2,c3⟩|⟨b',cs',t',c2,c3,c4,c5⟩
      ·omega
      ·rw[h1] at c2
       cases c2
       have:=c5 (by omega)
       subst this
       refine⟨_,rfl,zc9 (n:=m*s0.size) h2 ?_⟩
       rw[zbG h3 (fun i p v hp hv=>(h4 i p v hp hv).1) off m hle,h5,List.drop_take,List.take_take]
       congr 1
       have:off*s0.size+m*s0.size<=es.length*s0.size:=by rw[<-Nat.add_mul];exact Nat.mul_le_mul_right _ hle
       omega
    split at h
    ·rename_i hh
     cases h
     obtain⟨rfl,rfl⟩:=hh
     have:=view (by omega)
     simpa using this
    ·cases h
     exact view c1
   ·cases h
 unfold elems at h
 split at h
 ·cases h
  cases hx with
  |pv _ _ _ _ hq=>exact ps _ _ hq
 ·cases h
  cases hx with
  |tsl _ _ _ hq=>exact ps _ _ hq
 ·exact slc _ _ _ _ _ h hx
 ·rename_i s0 r ver off len
  split at h
  ·rename_i sh es e
   refine slc s0 r ver off len ?_ (hx.slv_sl e)
   rw[e]
   exact h
  ·cases h
 ·cases h
  cases hx with
  |nilv=>exact⟨rfl,[],ER.nil,fun h=>absurd rfl h⟩
 ·cases h

theorem okE(w:World){e:TypeId}(hok:okT P e=true)(hz:zaZ P e=true):∃i z,P.info? e=some i/\i.zero=some z/\i.size=(shOf P e).size/\z.cells.size=(shOf P e).size:=by
 obtain⟨i,d,hi,_,hs,_⟩:=zdx hok
 unfold zaZ at hz
 split at hz
 ·rename_i zv hzv
  have hzv':=hzv
  unfold zaU at hzv
  rw[hi] at hzv
  simp only at hzv
  cases h:i.zero with
  |none=>rw[h] at hzv;cases hzv
  |some z=>
   rw[h] at hzv
   obtain⟨h1,h2⟩:=zb4 P w ⟨fun _=>False⟩ (fun _=>none) [] 8 e z zv hzv
   refine⟨i,z,hi,h,hs,?_⟩
   rw[zai,h1.vshp h2,of_decide_eq_true hz]
 ·cases hz

theorem zfV{t ty e:TypeId}(ht:P.underlying t=some (.slice e))(hok:okT P e=true)(hz:zaZ P e=true)(hby:zbu P e=true){α:Type}{es new:List α}{vals nvals:List Value}(hE1:es.length=vals.length)(hl1:(cellsOf vals).length=es.length*(shOf P e).size)(hl2:(cellsOf nvals).length=new.length*(shOf P e).size)
  (base:Option Addr)(cap:Nat)(hbase:(base=none/\es=[]/\cap=0)\/∃bd,base=some bd/\∀(j:Nat) (u:Value),(cellsOf vals)[j]? =some u->w.cell? (bd.add j)=some u)(ad:Addr)(c:Nat)
  (hnews:∀(j:Nat) (u:Value),(cellsOf nvals)[j]? =some u->w.cell? (ad.add j)=some u)(hm:new≠[])(hcap:cap<es.length+new.length)(hlim:es.length+new.length<=lim):
  ∃(c':Nat) (cells:Array Value),(Builtin.append_ #[t,t] ty #[.slice base es.length cap,.slice (some ad) new.length c]).run P w=.ok (.slice (some ⟨w.heap.size,0,none⟩) (es.length+new.length) c') (w.drew.alloc (.cells cells e))/\
   es.length+new.length<=c'/\cells.size=c'*(shOf P e).size/\cells.toList.take ((es.length+new.length)*(shOf P e).size)=cellsOf (vals++nvals):=by
 obtain⟨i,z,hi,hiz,hsz,hzs⟩:=okE w hok hz
 have hb:i.bytes<=1024:=by
  unfold zbu at hby
  rw[hi] at hby
  simpa using hby
 have hbb:(es.length+new.length)*i.bytes<=140737488355328:=by
  have:(es.length+new.length)*i.bytes<=lim*1024:=Nat.mul_le_mul hlim hb
  unfold lim at this
  omega
 have h63:es.length+new.length<=9223372036854775807:=by unfold lim at hlim;omega
 have hge:=grownCap_ge w (es.length+new.length) cap e
 have main:(Builtin.append_ #[t,t] ty #[.slice base es.length cap,.slice (some ad) new.length c]).run P w=.ok (.slice (some ⟨w.heap.size,0,none⟩) (es.length+new.length) (grownCap w (es.length+new.length) cap e))
   (w.drew.alloc (.cells ((cellsOf vals).toArray++(cellsOf nvals).toArray++Builtin.zeroCells z.cells (grownCap w (es.length+new.length) cap e - (es.length+new.length))) e)):=by
  rcases hbase with⟨rfl,rfl,rfl⟩|⟨bd,rfl,hold⟩
  ·have hv:vals=[]:=List.eq_nil_of_length_eq_zero hE1.symm
   subst hv
   have hpos:0<new.length:=List.length_pos_iff.2 hm
   have:=run_append_nil (P:=P) w t ty e i z ht hi hiz ad new.length c (cellsOf nvals) (by rw[hl2,hsz]) hnews hpos (by simp at h63;omega) (by simp at hbb;omega)
   simpa[cellsOf] using this
  ·exact run_append_grow (P:=P) w t ty e i z ht hi hiz bd es.length cap (cellsOf vals) (by rw[hl1,hsz]) hold ad new.length c (cellsOf nvals) (by rw[hl2,hsz]) hnews hcap (by omega) (growslice_fits hcap hbb)
 refine⟨_,_,main,hge,?_,?_⟩
 ·simp only[Array.size_append,List.size_toArray,size_zeroCells,hzs,hl1,hl2,<-Nat.add_mul]
  congr 1
  omega
 ·rw[zax]
  simp only[Array.toList_append]
  rw[List.take_left' (by simp[hl1,hl2,Nat.add_mul])]

theorem zhx{t ty e:TypeId}(ht:P.underlying t=some (.slice e))(hok:okT P e=true)(hz:zaZ P e=true)(hby:zbu P e=true){I:Nat->Prop}{es new:List PV}{vals nvals:List Value}(hE:ER w I (shOf P e) es vals)(hN:ER w I (shOf P e) new nvals)
  (base:Option Addr)(cap:Nat)(hbase:(base=none/\es=[]/\cap=0)\/∃bd,base=some bd/\∀(j:Nat) (u:Value),(cellsOf vals)[j]? =some u->w.cell? (bd.add j)=some u)(ad:Addr)(c:Nat)
  (hnews:∀(j:Nat) (u:Value),(cellsOf nvals)[j]? =some u->w.cell? (ad.add j)=some u)(hm:new≠[])(hcap:cap<es.length+new.length)(hlim:es.length+new.length<=lim):
  ∃(c':Nat) (cells:Array Value),(Builtin.append_ #[t,t] ty #[.slice base es.length cap,.slice (some ad) new.length c]).run P w=.ok (.slice (some ⟨w.heap.size,0,none⟩) (es.length+new.length) c') (w.drew.alloc (.cells cells e))/\
   es.length+new.length<=c'/\cells.size=c'*(shOf P e).size/\cells.toList.take ((es.length+new.length)*(shOf P e).size)=cellsOf (vals++nvals):=
 zfV ht hok hz hby hE.1 hE.length hN.length base cap hbase ad c hnews hm hcap hlim

theorem zlN{b r len:Nat}{t ty e:TypeId}{es new:List PV}{nvals:List Value}{base:Option Addr}{cap c:Nat}{ax:Option Addr}(ht:P.underlying t=some (.slice e))(hok:okT P e=true)(hz:zaZ P e=true)(hby:zbu P e=true)(hH:HR w X μ hp)(ho:hp[r]? =some (.arr (shOf P e) es false))
  (hs:AR w X μ hp (.sl (shOf P e) r es.length 0 len) (.slice base len cap))(hN:ER w (Im X μ hp) (shOf P e) new nvals)(hnews:new≠[]->∃ad,ax=some ad/\∀(j:Nat) (u:Value),(cellsOf nvals)[j]? =some u->w.cell? (ad.add j)=some u)(hlim:len+new.length<=lim):
  ∃v' w' μ',(Builtin.append_ #[t,t] ty #[.slice base len cap,.slice ax new.length c]).run P w=.ok v' w'/\HR w' X μ' (hp.set r (.arr (shOf P e) (es.take len++new++es.drop (len+new.length)) false))/\
   Ext b X μ hp w μ' (hp.set r (.arr (shOf P e) (es.take len++new++es.drop (len+new.length)) false)) w'/\
   AR w' X μ' (hp.set r (.arr (shOf P e) (es.take len++new++es.drop (len+new.length)) false)) (.sl (shOf P e) r (es.take len++new++es.drop (len+new.length)).length 0 (len+new.length)) v':=by
 have hrl:=(List.getElem?_eq_some_iff.1 ho).1
 obtain⟨hpos,harr⟩:=hH.arr r _ es false ho
 have hl2:=hN.length
 cases hs with
 |sl _ _ _ _ _ _ _ es1 fz1 ho1 hv1 hlc ha hc=>
 rw[ho] at ho1
 cases ho1
 obtain⟨c1,c2⟩:=hc rfl
 by_cases hne:new=[]
 ·subst hne
  have e1:es.take len++[]++es.drop (len+([]:List PV).length)=es:=by simp
  rw[e1]
  have e2:hp.set r (.arr (shOf P e) es false)=hp:=by
   apply List.ext_getElem?
   intro k
   by_cases hk:k=r
   ·subst hk;rw[List.getElem?_set_self hrl,ho]
   ·rw[List.getElem?_set_ne (Ne.symm hk)]
  rw[e2]
  exact⟨_,w,μ,zaW t ty e ht hok base ax len cap c hlc.1,hH,Ext.refl _ _ _ _ _,.sl _ _ _ _ _ _ _ es false ho hv1 hlc ha hc⟩
 ·obtain⟨ad,rfl,hcells⟩:=hnews hne

  have grown:∀(vals:List Value),ER w (Im X μ hp) (shOf P e) es vals->((base=none/\es.take len=[]/\cap=0)\/∃bd,base=some bd/\∀(j:Nat) (u:Value),(cellsOf (vals.take len))[j]? =some u->w.cell? (bd.add j)=some u)->
    cap<len+new.length->es.length<=len+new.length->∃v' w' μ',(Builtin.append_ #[t,t] ty #[.slice base len cap,.slice (some ad) new.length c]).run P w=.ok v' w'/\HR w' X μ' (hp.set r (.arr (shOf P e) (es.take len++new++es.drop (len+new.length)) false))/\
     Ext b X μ hp w μ' (hp.set r (.arr (shOf P e) (es.take len++new++es.drop (len+new.length)) false)) w'/\
     AR w' X μ' (hp.set r (.arr (shOf P e) (es.take len++new++es.drop (len+new.length)) false)) (.sl (shOf P e) r (es.take len++new++es.drop (len+new.length)).length 0 (len+new.length)) v':=by
   intro vals hE hbase hcap hle
   have htl:(es.take len).length=len:=by simp;omega
   have hdn:es.drop (len+new.length)=[]:=List.drop_of_length_le hle
   have hel:(es.take len++new++es.drop (len+new.length)).length=len+new.length:=by rw[hdn];simp;omega
   obtain⟨c',cells,g1,g2,g3,g4⟩:=zhx (ty:=ty) ht hok hz hby (hE.take len) hN base cap hbase ad c hcells hne (by rw[htl];exact hcap) (by rw[htl];exact hlim)
   rw[htl] at g1 g2 g4
   have hblk:∀k,k<w.heap.size->(w.drew.alloc (.cells cells e)).heap[k]? =w.heap[k]? :=fun k hk=>zaJ w.drew _ hk
   have E:∀b0,Ext b0 X μ hp w (upd μ r (some w.heap.size)) (hp.set r (.arr (shOf P e) (es.take len++new++es.drop (len+new.length)) false)) (w.drew.alloc (.cells cells e)):=fun b0=>
    Ext.setArr ho (by rw[hel];exact hle) (fun h=>by cases h) (fun h=>by
     exfalso
     rw[hel] at h
     have hel2:es.length=len+new.length:=h.symm
     rcases c2 with⟨c0,c3⟩|⟨b',cs,t',c3,c4,c5,c6⟩
     ·have hn:0<new.length:=List.length_pos_iff.2 hne
      rcases harr with⟨_,h2⟩|⟨b',cs,t',vs,h1,_⟩
      ·rw[h2] at hel2;simp at hel2;omega
      ·rw[c0] at h1;cases h1
     ·rcases harr with⟨h1,h2⟩|⟨b2,cs2,t2,vs,h1,h2,h3,h4,h5⟩
      ·rw[c3] at h1;cases h1
      ·rw[c3] at h1;cases h1
       rw[c4] at h2;cases h2
       have:=congrArg List.length h5
       rw[zcq (k:=(shOf P e).size) (ER.sizes ⟨h3,h4⟩),<-h3,List.length_take] at this
       have hcl:cs.toList.length=cs.size:=Array.length_toList
       have h6:es.length*(shOf P e).size<=cap*(shOf P e).size:=by rw[Nat.zero_add] at c5;rw[c5];omega
       have h7:=Nat.le_of_mul_le_mul_right h6 hpos
       omega) (fun k hk=>by cases hk;exact .inr (Nat.le_refl _)) rfl rfl rfl (by simp) (fun k hk _=>hblk k hk) (fun k cs t' fr hk=>⟨cs,by rw[hblk k (zaP hk)];exact hk,rfl⟩)
   have H:=hH.setArr ho (E 0) (fun k hk _=>hblk k hk) (fun k hk=>by cases hk;exact⟨.inr (Nat.le_refl _),by simp⟩) (.inr ⟨w.heap.size,cells,e,vals.take len++nvals++vals.drop (len+new.length),rfl,zaC w.drew _,?_,?_,?_⟩)
   ·refine⟨_,_,_,g1,H,E b,?_⟩
    refine .sl _ _ _ _ _ _ _ _ false (List.getElem?_set_self hrl) (Nat.le_refl _) ⟨g2,by rw[hel];omega⟩ (fun _=>rfl) fun _=>⟨by rw[hel];omega,.inr ⟨w.heap.size,cells,e,zaf _ _ _,zaC w.drew _,by rw[Nat.zero_add];exact g3.symm,fun _=>by simp⟩⟩
   ·have:=((hE.take len).append hN).append (hE.drop (len+new.length))
    exact this.1
   ·have:=ER.ext (E 0) (((hE.take len).append hN).append (hE.drop (len+new.length)))
    exact this.2
   ·rw[hel,g4]
    have:vals.drop (len+new.length)=[]:=List.drop_of_length_le (by rw[<-hE.1];exact hle)
    rw[this,List.append_nil]
  rcases harr with⟨h1,h2⟩|⟨bk,cs,t',vals,h1,h2,h3,h4,h5⟩
  ·subst h2
   have hl0:len=0:=by simp at c1;omega
   subst hl0
   rcases c2 with⟨_,c3⟩|⟨b',_,_,c3,_⟩
   ·subst c3
    refine grown [] ER.nil ?_ (by have:=List.length_pos_iff.2 hne;omega) (by simp)
    cases base with
    |none=>exact .inl ⟨rfl,rfl,rfl⟩
    |some bd=>exact .inr ⟨bd,rfl,by simp[cellsOf]⟩
   ·rw[h1] at c3;cases c3
  ·have hE:ER w (Im X μ hp) (shOf P e) es vals:=⟨h3,h4⟩
   rcases c2 with⟨c3,_⟩|⟨b',cs',t'',c3,c4,c5,c6⟩
   ·rw[h1] at c3;cases c3
   rw[h1] at c3
   cases c3
   rw[h2] at c4
   cases c4
   rw[Nat.zero_add] at c5
   have hcl:cs.toList.length=cs.size:=Array.length_toList
   have hEl:es.length*(shOf P e).size<=cs.size:=by
    have:=congrArg List.length h5
    rw[hE.length,List.length_take] at this
    omega
   by_cases hroom:len+new.length<=cap
   ·have hcap:cap≠0:=by have:=List.length_pos_iff.2 hne;omega
    have hb0:=c6 hcap
    simp only[Nat.zero_mul] at hb0
    subst hb0
    obtain⟨i,z,hi,hiz,hsz,hzs⟩:=okE w hok hz
    have hfit:len*(shOf P e).size+new.length*(shOf P e).size<=cs.size:=by rw[<-c5,<-Nat.add_mul];exact Nat.mul_le_mul_right _ hroom
    have hrun:=zc3 (P:=P) t ty e t' i ht hi bk len cap cs h2 ad new.length c (cellsOf nvals) (by rw[hl2,hsz]) hcells hN.flat hroom (by rw[hl2,hsz];exact hfit)
    rw[hsz,hl2] at hrun
    generalize hrow:(cs.toList.take (len*(shOf P e).size)++cellsOf nvals++cs.toList.drop (len*(shOf P e).size+new.length*(shOf P e).size))=row at hrun
    have hrowl:row.length=cs.size:=by
     rw[<-hrow]
     simp only[List.length_append,List.length_take,List.length_drop,hl2,hcl]
     omega
    have hel:es.length<=(es.take len++new++es.drop (len+new.length)).length:=by
     simp only[List.length_append,List.length_take,List.length_drop]
     omega
    have E:∀b0,Ext b0 X μ hp w (upd μ r (μ r)) (hp.set r (.arr (shOf P e) (es.take len++new++es.drop (len+new.length)) false)) (w.setRow bk row.toArray):=fun b0=>
     Ext.setArr ho hel (fun h=>by cases h) (fun _=>rfl) (fun k hk=>.inl hk) rfl rfl rfl (by simp[World.setRow]) (fun k hk hm=>setRow_other w bk k _ (fun e=>hm rfl (by rw[e];exact h1))) (fun k cs' t'' fr hk=>by
      by_cases ek:k=bk
      ·subst ek
       rw[h2] at hk
       cases hk
       exact⟨_,setRow_heap w k _ _ t' _ h2,by simpa using hrowl⟩
      ·exact⟨cs',by rw[setRow_other w bk k _ ek];exact hk,rfl⟩)
    have hER:=((hE.take len).append hN).append (hE.drop (len+new.length))
    have hcd:cellsOf (vals.drop (len+new.length))=(cs.toList.drop (len*(shOf P e).size+new.length*(shOf P e).size)).take (cellsOf (vals.drop (len+new.length))).length:=by
     rcases Nat.lt_or_ge es.length (len+new.length) with hlt|hge
     ·have:vals.drop (len+new.length)=[]:=List.drop_of_length_le (by rw[<-hE.1];omega)
      rw[this]
      simp[cellsOf]
     ·have h6:=hE.cells_drop (len+new.length) hge
      rw[(hE.drop (len+new.length)).length,h6,h5,List.drop_take,Nat.add_mul]
      congr 1
      rw[List.length_drop,Nat.sub_mul,Nat.add_mul]
    have hct:cellsOf (vals.take len)=cs.toList.take (len*(shOf P e).size):=by
     rw[hE.cells_take len (by omega),h5,List.take_take,Nat.min_eq_left]
     exact Nat.mul_le_mul_right _ (by omega)
    have hcc:cellsOf (vals.take len++nvals++vals.drop (len+new.length))=row.take ((es.take len++new++es.drop (len+new.length)).length*(shOf P e).size):=by
     rw[<-hER.length,zax,zax,hct]
     conv=>lhs;rw[hcd]
     rw[<-hrow]
     have hlt:(cs.toList.take (len*(shOf P e).size)).length=len*(shOf P e).size:=by rw[List.length_take];omega
     have e1:(cs.toList.take (len*(shOf P e).size)++cellsOf nvals++cellsOf (vals.drop (len+new.length))).length=(cs.toList.take (len*(shOf P e).size)++cellsOf nvals).length+(cellsOf (vals.drop (len+new.length))).length:=by rw[List.length_append]
     rw[e1,List.take_length_add_append]
    have H:=hH.setArr ho (E 0) (fun k hk hne'=>setRow_other w bk k _ (fun e=>hne' (by rw[e];exact h1))) (fun k hk=>⟨.inl hk,by rw[h1] at hk;cases hk;simpa[World.setRow] using zaP h2⟩)
     (.inr ⟨bk,row.toArray,t',vals.take len++nvals++vals.drop (len+new.length),h1,setRow_heap w bk _ _ t' _ h2,hER.1,(ER.ext (E 0) hER).2,by simpa using hcc⟩)
    rw[zbf] at H
    have E':=E b
    rw[zbf] at E'
    refine⟨_,_,μ,hrun,H,E',?_⟩
    refine .sl _ _ _ _ _ _ _ _ false (List.getElem?_set_self hrl) (Nat.le_refl _) ⟨hroom,by simp only[List.length_append,List.length_take,List.length_drop];omega⟩ (fun _=>rfl) fun _=>⟨?_,.inr ⟨bk,row.toArray,t',h1,setRow_heap w bk _ _ t' _ h2,by rw[Nat.zero_add,c5];simpa using hrowl.symm,fun _=>by simp⟩⟩
    simp only[List.length_append,List.length_take,List.length_drop]
    omega
   ·have hcE:es.length<=cap:=Nat.le_of_mul_le_mul_right (by rw[c5];exact hEl) hpos
    refine grown vals hE ?_ (by omega) (by omega)
    cases base with
    |none=>
     have hcap0:cap=0:=by
      by_cases h0:cap=0
      ·exact h0
      ·have:=ha h0;simp at this
     refine .inl ⟨rfl,?_,hcap0⟩
     have:len=0:=by omega
     rw[this]
     rfl
    |some bd=>
     refine .inr ⟨bd,rfl,?_⟩
     by_cases hl0:len=0
     ·subst hl0;simp[cellsOf]
     ·have:=c6 (by omega)
      simp only[Nat.zero_mul,Option.some.injEq] at this
      subst this
      refine zc9 (n:=len*(shOf P e).size) h2 ?_
      rw[hE.cells_take len (by omega),h5,List.take_take,Nat.min_eq_left (Nat.mul_le_mul_right _ (by omega))]
      simp
end Go.Am

/- append and make by the abstract machine's own word; slices written out. -/
namespace Go.Am
variable{P:Program} {w:World} {X:Xc P} {μ:Nat->Option Nat} {hp:Heap}

theorem zbH{b:Nat}{ts:Array TypeId}{ty:TypeId}{x y:Value}{v:AV}{hp':Heap}(h:∃v' w' μ',(Builtin.append_ ts ty #[x,y]).run P w=.ok v' w'/\HR w' X μ' hp'/\Ext b X μ hp w μ' hp' w'/\AR w' X μ' hp' v v'):
  Out P b w X μ hp (do pure (.value (<-Builtin.append_ ts ty #[x,y]))) v hp':=by
 obtain⟨v',w',μ',h1,h2,h3,h4⟩:=h
 exact⟨.value v',v',w',μ',by simp[h1],.inl rfl,h4,h2,h3⟩

theorem zcU{x:AV}{shx:Sh}{new:List PV}{vx:Value}(h:elems hp x=some (shx,new))(hx:AR w X μ hp x vx):∃a m c,vx=.slice a m c:=by
 unfold elems at h
 split at h
 ·cases hx with|pv _ _ _ _ hq=>cases hq <;> exact⟨_,_,_,rfl⟩
 ·cases hx;exact⟨_,_,_,rfl⟩
 ·cases hx;exact⟨_,_,_,rfl⟩
 ·cases hx;exact⟨_,_,_,rfl⟩
 ·cases hx;exact⟨_,_,_,rfl⟩
 ·cases h

theorem zio{b:Nat}{t ty e:TypeId}{x y:Value}{vs:List AV}{v:AV}{hp':Heap}(ht:P.underlying t=some (.slice e))(hok:okT P e=true)(hz:zaZ P e=true)(hby:zbu P e=true)(hH:HR w X μ hp)
  (hl:LR w X μ hp vs [x,y])(h:za8 (shOf P e) hp vs=some (v,hp')):Out P b w X μ hp (do pure (.value (<-Builtin.append_ #[t,t] ty #[x,y]))) v hp':=by
 have hy:∃a m c,y=.slice a m c:=by
  obtain⟨s,q,rfl,h1,h2⟩:∃s q,vs=[s,q]/\AR w X μ hp s x/\AR w X μ hp q y:=by
   cases hl with|cons h1 r=>cases r with|cons h2 r=>cases r;exact⟨_,_,rfl,h1,h2⟩
  simp only[za8,aappend] at h
  cases he:elems hp q with
  |none=>rw[he] at h;cases h
  |some p=>exact zcU (shx:=p.1) (new:=p.2) he h2
 obtain⟨ay,m,cy,rfl⟩:=hy
 unfold za8 at h
 split at h
 ·rename_i s src
  obtain⟨_,_,e0,h1,h2⟩:=hl.two
  cases e0
  unfold aappend at h
  split at h
  ·cases h
  ·rename_i shx new hel
   obtain⟨rfl,nvals,hN,hcells⟩:=zcT hH hel h2
   split at h
   ·rename_i hsh
    have hN':ER w (Im X μ hp) (shOf P e) new nvals:=by
     rcases hsh with rfl|rfl
     ·exact hN
     ·have:nvals=[]:=List.eq_nil_of_length_eq_zero hN.1.symm
      subst this
      exact ER.nil
    split at h
    ·rename_i s0 es
     cases h1 with
     |tsl _ _ a hq=>
      split at h
      ·rename_i hse
       split at h
       ·rename_i hn
        cases h
        subst hn
        exact zbH ⟨_,w,μ,zaW t ty e ht hok a ay es.length es.length cy (Nat.le_refl _),hH,Ext.refl _ _ _ _ _,.tsl _ _ _ hq⟩
       ·rename_i hn
        split at h
        ·rename_i hlim
         cases h
         obtain⟨ad,rfl,hc⟩:=hcells hn
         obtain⟨vals,hE,hb⟩:∃vals,ER w (Im X μ hp) (shOf P e) es vals/\((a=none/\es=[]/\es.length=0)\/∃bd,a=some bd/\∀(j:Nat) (u:Value),(cellsOf vals)[j]? =some u->w.cell? (bd.add j)=some u):=by
          cases hq with
          |nilsl=>
           refine⟨[],ER.nil,?_⟩
           cases a with
           |none=>exact .inl ⟨rfl,rfl,rfl⟩
           |some bd=>exact .inr ⟨bd,rfl,by simp[cellsOf]⟩
          |sl _ _ b o _ cs t' fr vals hvl hI hb h1 h2 hc hn=>
           rcases hse with rfl|rfl
           ·exact⟨vals,⟨hvl,fun k p v hp hv=>⟨h1 k p v hp hv,h2 k p v hp hv⟩⟩,.inr ⟨_,rfl,zc9 hb hc⟩⟩
           ·have:vals=[]:=List.eq_nil_of_length_eq_zero hvl.symm
            subst this
            exact⟨[],ER.nil,.inr ⟨_,rfl,by simp[cellsOf]⟩⟩
         have hpn:0<new.length:=List.length_pos_iff.2 hn
         obtain⟨c',cells,g1,g2,g3,g4⟩:=zhx (ty:=ty) ht hok hz hby hE hN' a es.length hb ad cy hc hn (by omega) hlim
         have hEx:∀b,Ext b X μ hp w μ hp (w.drew.alloc (.cells cells e)):=fun b=>(Ext.drew b).trans (Ext.alloc b _)
         have hEp:∀b,Ext b X μ hp w (upd μ hp.length (some w.heap.size)) (hp++[.arr (shOf P e) (es++new) false]) (w.drew.alloc (.cells cells e)):=fun b=>Ext.push _ _ (hEx b) (fun k hk=>by cases hk;exact Nat.le_refl _)
         have hER:=hE.append hN'
         refine zbH ⟨_,_,upd μ hp.length (some w.heap.size),g1,?_,hEp b,?_⟩
         ·refine hH.push _ _ (hEx 0) (fun i k hi hk=>zaJ w.drew _ (hH.out i k hi hk).2) (fun k hk=>by cases hk;exact⟨Nat.le_refl _,by simp⟩) (fun _ _ h=>by cases h) (fun s1 es1 fz h=> ?_) (fun _ _ h=>by cases h)
          cases h
          exact⟨zm3 hok,.inr ⟨_,cells,e,vals++nvals,rfl,zaC w.drew _,hER.1,(ER.ext (hEp 0) hER).2,by rw[List.length_append];exact g4.symm⟩⟩
         ·exact .sl _ _ _ _ _ _ _ (es++new) false zbx (by simp) ⟨g2,by omega⟩ (fun _=>rfl) fun _=>⟨by simp,.inr ⟨_,cells,e,zaf _ _ _,zaC w.drew _,by rw[Nat.zero_add];exact g3.symm,fun _=>by simp⟩⟩
        ·cases h
      ·cases h
    ·rename_i s1 r ver off len
     split at h
     ·rename_i s0 es ho
      split at h
      ·rename_i hh
       obtain⟨rfl,rfl,rfl⟩:=hh
       split at h
       ·rename_i hlim
        have hs1:s1=shOf P e:=by
         cases h1 with
         |sl _ _ _ _ _ _ _ es' fz' ho'=>rw[ho] at ho';cases ho';rfl
        subst hs1
        obtain⟨base,cap,rfl⟩:∃base cap,x=.slice base len cap:=by cases h1;exact⟨_,_,rfl⟩
        have hclen:len<=es.length:=by
         cases h1 with
         |sl _ _ _ _ _ _ _ es' fz' ho' hv' hlc' ha' hc'=>rw[ho] at ho';cases ho';have:=(hc' rfl).1;omega
        have key:=zlN (b:=b) (ty:=ty) (c:=cy) ht hok hz hby hH ho h1 hN' hcells hlim
        split at h
        ·rename_i hle
         cases h
         subst hle
         have e1:es.take es.length++new++es.drop (es.length+new.length)=es++new:=by rw[List.take_length,List.drop_of_length_le (by omega),List.append_nil]
         rw[e1,List.length_append] at key
         exact zbH key
        ·split at h
         ·rename_i hle
          cases h
          have e1:(es.take len++new++es.drop (len+new.length)).length=es.length:=by simp only[List.length_append,List.length_take,List.length_drop];omega
          rw[e1] at key
          exact zbH key
         ·split at h
          ·cases h
           have e1:es.take len++new++es.drop (len+new.length)=es.take len++new:=by rw[List.drop_of_length_le (by omega),List.append_nil]
           have e2:(es.take len++new).length=len+new.length:=by simp only[List.length_append,List.length_take];omega
           rw[e1,e2] at key
           exact zbH key
          ·cases h
       ·cases h
      ·cases h
     ·cases h
    ·cases h
   ·cases h
 ·cases h


theorem zhy{b:Nat}{t ty e:TypeId}{x y:Value}{vs:List AV}{v:AV}(ht:P.underlying t=some (.slice e))(hok:okT P e=true)(hz:zaZ P e=true)(hby:zbu P e=true)(hH:HR w X μ hp)
  (hl:LR w X μ hp vs [x,y])(h:zhd (shOf P e) vs=some v):Out P b w X μ hp (do pure (.value (<-Builtin.append_ #[t,t] ty #[x,y]))) v hp:=by
 unfold zhd at h
 split at h
 ·rename_i s0 es s1 shx new
  obtain⟨_,_,e0,h1,h2⟩:=hl.two
  cases e0
  have hel:elems hp (.pv s1 (.sl shx new))=some (shx,new):=rfl
  obtain⟨ay,m,cy,rfl⟩:=zcU hel h2
  obtain⟨rfl,nvals,hN,hcells⟩:=zcT hH hel h2
  split at h
  ·rename_i hcond
   obtain⟨hsh,hse,hlim⟩:=hcond
   have hN':ER w (Im X μ hp) (shOf P e) new nvals:=by
    rcases hsh with rfl|rfl
    ·exact hN
    ·have:nvals=[]:=List.eq_nil_of_length_eq_zero hN.1.symm
     subst this
     exact ER.nil
   cases h1 with
   |tsl _ _ a hq=>
    split at h
    ·rename_i hn
     cases h
     subst hn
     exact zbH ⟨_,w,μ,zaW t ty e ht hok a ay es.length es.length cy (Nat.le_refl _),hH,Ext.refl _ _ _ _ _,.pv _ _ _ rfl hq⟩
    ·rename_i hn
     cases h
     obtain⟨ad,rfl,hc⟩:=hcells hn
     obtain⟨vals,hE,hb⟩:∃vals,ER w (Im X μ hp) (shOf P e) es vals/\((a=none/\es=[]/\es.length=0)\/∃bd,a=some bd/\∀(j:Nat) (u:Value),(cellsOf vals)[j]? =some u->w.cell? (bd.add j)=some u):=by
      cases hq with
      |nilsl=>
       refine⟨[],ER.nil,?_⟩
       cases a with
       |none=>exact .inl ⟨rfl,rfl,rfl⟩
       |some bd=>exact .inr ⟨bd,rfl,by simp[cellsOf]⟩
      |sl _ _ b o _ cs t' fr vals hvl hI hb h1 h2 hc hn=>
       rcases hse with rfl|rfl
       ·exact⟨vals,⟨hvl,fun k p v hp hv=>⟨h1 k p v hp hv,h2 k p v hp hv⟩⟩,.inr ⟨_,rfl,zc9 hb hc⟩⟩
       ·have:vals=[]:=List.eq_nil_of_length_eq_zero hvl.symm
        subst this
        exact⟨[],ER.nil,.inr ⟨_,rfl,by simp[cellsOf]⟩⟩
     have hpn:0<new.length:=List.length_pos_iff.2 hn
     obtain⟨c',cells,g1,g2,g3,g4⟩:=zhx (ty:=ty) ht hok hz hby hE hN' a es.length hb ad cy hc hn (by omega) hlim
     have hEx:∀b,Ext b X μ hp w μ hp (w.drew.alloc (.cells cells e)):=fun b=>(Ext.drew b).trans (Ext.alloc b _)
     have hER:=ER.ext (hEx 0) (hE.append hN')
     refine zbH ⟨_,_,μ,g1,hH.drew.alloc _,hEx b,.pv _ _ _ rfl ?_⟩
     rw[<-List.length_append]
     refine .sl _ (es++new) w.heap.size 0 _ cells e (0,0) (vals++nvals) hER.1 ⟨fun hx=>by have:=hH.xlt _ hx;omega,fun i hl e=>by have:=(hH.out i _ (zbv hl) e).2;omega⟩ (zaC w.drew _) (fun i p v hp hv=>(hER.2 i p v hp hv).1) (fun i p v hp hv=>(hER.2 i p v hp hv).2) ?_ (by rw[List.length_append];exact g2)
     rw[List.drop_zero,List.length_append]
     exact g4.symm
  ·cases h
 ·cases h

theorem zcr(w:World)(X:Xc P)(μ:Nat->Option Nat)(hp:Heap):∀(d:Nat) (a:AV) (p:PV) (v:Value),AV.weaken d a=some p->AR w X μ hp a v->PR w (Im X μ hp) p v:=by
 intro d
 induction d with
 |zero=>intro a p v h;simp[AV.weaken] at h
 |succ d ih=>
  have go:∀(l:List (Sh × AV)) (ps:List (Sh × PV)) (vs:List Value),AV.weaken.go d l=some ps->CR w X μ hp l vs->CP w (Im X μ hp) ps vs:=by
   intro l
   induction l with
   |nil=>
    intro ps vs h hc
    simp only[AV.weaken.go,Option.some.injEq] at h
    subst h
    rw[hc.nil_inv]
    exact CP.nil
   |cons x r ihl=>
    intro ps vs h hc
    obtain⟨s,a⟩:=x
    obtain⟨v,us,rfl,h1,_,h2,h3⟩:=hc.inv
    simp only[AV.weaken.go] at h
    split at h
    ·cases h
    ·rename_i p hp1
     split at h
     ·rename_i ps' hg
      cases h
      exact CP.cons h1 (ih _ _ _ hp1 h2) (ihl _ _ hg h3)
     ·cases h
  intro a p v h ha
  cases ha with
  |pv sh q v hs hq=>
   simp only[AV.weaken,Option.some.injEq] at h
   subst h
   exact hq
  |tsl sh es a hq=>
   simp only[AV.weaken,Option.some.injEq] at h
   subst h
   exact hq
  |agg l vs hl hs hs'=>
   simp only[AV.weaken] at h
   split at h
   ·rename_i ps hg
    cases h
    exact(go _ _ vs hg ⟨hl,hs,hs'⟩).agg
   ·cases h
  |nilv sh=>
   simp only[AV.weaken,Option.some.injEq] at h
   subst h
   exact .nilsl _ _ _
  |_=>simp[AV.weaken] at h

theorem ziq{d:Nat}{a:AV}{p:PV}(h:AV.weaken d a=some p):a.plain=true:=by
 cases d with
 |zero=>simp[AV.weaken] at h
 |succ d=>cases a <;> first|rfl|(simp[AV.weaken] at h)
theorem zcs{d:Nat}{a:AV}{hp hp':Heap}{p:PV}(h:AV.freeze d a hp=some (p,hp')):a.plain=true:=by
 cases d with
 |zero=>simp[AV.freeze] at h
 |succ d=>cases a <;> first|rfl|(simp[AV.freeze] at h)

theorem zbz:∀(l:List AV) (ps:List (Sh × PV)) (vs:List Value),zaI l=some ps->LR w X μ hp l vs->CP w (Im X μ hp) ps vs
 |[],ps,vs,h,hl=>by
  simp only[zaI,Option.some.injEq] at h
  subst h
  cases hl
  exact CP.nil
 |a::r,ps,vs,h,hl=>by
  cases hl with
  |cons ha hr=>
   simp only[zaI] at h
   split at h
   ·cases h
   ·rename_i p hp1
    split at h
    ·rename_i ps' hg
     cases h
     exact CP.cons (ha.vshp (ziq hp1)) (zcr w X μ hp _ _ _ _ hp1 ha) (zbz r ps' _ hg hr)
    ·cases h

theorem za9(b0:Nat):∀(l:List AV) (hp:Heap) (ps:List (Sh × PV)) (hp':Heap) (vs:List Value),zal l hp=some (ps,hp')->HR w X μ hp->LR w X μ hp l vs->Ext b0 X μ hp w μ hp' w/\HR w X μ hp'/\CP w (Im X μ hp') ps vs
 |[],hp,ps,hp',vs,h,hH,hl=>by
  simp only[zal,Option.some.injEq,Prod.mk.injEq] at h
  obtain⟨rfl,rfl⟩:=h
  cases hl
  exact⟨Ext.refl _ _ _ _ _,hH,CP.nil⟩
 |a::r,hp,ps,hp',vs,h,hH,hl=>by
  cases hl with
  |cons ha hr=>
   simp only[zal] at h
   split at h
   ·cases h
   ·rename_i p hp1 hf
    split at h
    ·rename_i ps' hp2 hg
     cases h
     obtain⟨e1,k1,k2⟩:=zaR b0 w X μ _ _ _ _ _ _ hf hH ha
     have hr':=LR.of hr.length fun i a v h1 h2=>e1.ar (hr.get i a v h1 h2)
     obtain⟨e2,k3,k4⟩:=za9 b0 r hp1 ps' hp' _ hg k1 hr'
     exact⟨e1.trans e2,k3,CP.cons (ha.vshp (zcs hf)) (e2.pr k2) k4⟩
    ·cases h

theorem zb5{I:Nat->Prop}{sh:Sh}:∀{ps:List (Sh × PV)} {es:List PV} {vs:List Value},za0 sh ps=some es->CP w I ps vs->ER w I sh es vs
 |[],es,vs,h,hc=>by
  simp only[za0,Option.some.injEq] at h
  subst h
  rw[hc.nil_inv]
  exact ER.nil
 |(s,p)::r,es,vs,h,hc=>by
  obtain⟨v,us,rfl,h1,h2,h3⟩:=hc.inv
  simp only[za0] at h
  split at h
  ·rename_i hs
   subst hs
   split at h
   ·rename_i l hl
    cases h
    obtain⟨k1,k2⟩:=zb5 hl h3
    refine⟨by simp[k1],fun i q u hq hu=> ?_⟩
    cases i with
    |zero=>simp at hq hu;subst hq;subst hu;exact⟨h1,h2⟩
    |succ i=>exact k2 i q u (by simpa using hq) (by simpa using hu)
   ·cases h
  ·cases h
end Go.Am

/- Structs, arrays and slices written out; make. -/
namespace Go.Am
variable{P:Program} {w:World} {X:Xc P} {μ:Nat->Option Nat} {hp:Heap}

theorem zir(off:Nat):∀(l:List Value) (k:Nat) (cells:Array Value),off+k+l.length<=cells.size->
  (l.zipIdx k).foldl (fun cs (x:Value × Nat)=>cs.setIfInBounds (off+x.2) x.1) cells=(cells.toList.take (off+k)++l++cells.toList.drop (off+k+l.length)).toArray
 |[],k,cells,h=>by simp
 |c::r,k,cells,h=>by
  have hl:off+k<cells.size:=by simp at h;omega
  rw[List.zipIdx_cons,List.foldl_cons,zir off r (k+1) _ (by simp at h ⊢;omega)]
  have e:=list_seg_step cells.toList (off+k) c r (by simp at h ⊢;omega)
  simp only[Array.toList_setIfInBounds,List.length_cons]
  congr 1

theorem zis(place:Nat->Option (Nat × Nat))(cells:Array Value)(i:Nat)(v:Value)(rest:List (Nat × Value))(off:Nat)(hp:place i=some (off,v.cells.size))(hle:off+v.cells.size<=cells.size):
  Instr.fill place cells ((i,v)::rest)=Instr.fill place (cells.toList.take off++v.cells.toList++cells.toList.drop (off+v.cells.size)).toArray rest:=by
 have h1:¬((decide (v.cells.size≠v.cells.size) || decide (off+v.cells.size > cells.size))=true):=by simp;omega
 have h2:=zir off v.cells.toList 0 cells (by simpa using hle)
 simp only[Nat.add_zero,Array.length_toList] at h2
 have h3:v.cells.zipIdx.foldl (fun cs (x:Value × Nat)=>cs.setIfInBounds (off+x.2) x.1) cells=(v.cells.toList.zipIdx 0).foldl (fun cs (x:Value × Nat)=>cs.setIfInBounds (off+x.2) x.1) cells:=by
  rw[<-Array.foldl_toList,Array.toList_zipIdx]
 simp only[Instr.fill,hp]
 rw[if_neg h1]
 have h4:v.cells.zipIdx.foldl (fun cs x=>match x with|(c,j)=>cs.setIfInBounds (off+j) c) cells=v.cells.zipIdx.foldl (fun cs (x:Value × Nat)=>cs.setIfInBounds (off+x.2) x.1) cells:=rfl
 rw[h4,h3,h2]

theorem zgK{sz:Nat}:∀(us done:List Value) (cells:Array Value),(∀v∈us,v.cells.size=sz)->(∀v∈done,v.cells.size=sz)->cells.size=(done.length+us.length)*sz->cells.toList.take (done.length*sz)=cellsOf done->
  Instr.fill (fun i=>some (i*sz,sz)) cells ((List.range' done.length us.length).zip us)=some (cellsOf (done++us)).toArray
 |[],done,cells,_,_,hs,ht=>by
  simp only[List.zip_nil_right,Instr.fill,List.append_nil]
  congr 1
  apply Array.ext'
  rw[<-ht,List.take_of_length_le (by simp at hs;simp[hs])]
 |v::r,done,cells,hu,hd,hs,ht=>by
  have hv:=hu v (by simp)
  have hle:done.length*sz+v.cells.size<=cells.size:=by rw[hs,hv];simp only[List.length_cons,Nat.add_mul];omega
  rw[List.length_cons,List.range'_succ,List.zip_cons_cons,zis _ _ _ _ _ (done.length*sz) (by rw[hv]) hle]
  have hcl:cells.toList.length=cells.size:=Array.length_toList
  have hl:(cells.toList.take (done.length*sz)).length=done.length*sz:=by rw[List.length_take];omega
  have ih:=zgK r (done++[v]) ((cells.toList.take (done.length*sz)++v.cells.toList++cells.toList.drop (done.length*sz+v.cells.size)).toArray) (fun x hx=>hu x (by simp[hx]))
   (fun x hx=>by rcases List.mem_append.1 hx with h|h;exact hd x h;simp at h;rw[h];exact hv) (by
    simp only[List.size_toArray,List.length_append,List.length_drop,Array.length_toList,hl,List.length_cons,List.length_nil]
    rw[hs,hv]
    simp only[List.length_cons,Nat.add_mul]
    omega) (by
    have e:(done++[v]).length*sz=(cells.toList.take (done.length*sz)++v.cells.toList).length:=by simp only[List.length_append,hl,Array.length_toList,hv,List.length_cons,List.length_nil,Nat.add_mul];omega
    rw[e]
    show List.take _ (cells.toList.take (done.length*sz)++v.cells.toList++_)=_
    rw[List.take_left' rfl,ht,zax]
    simp[cellsOf])
  have e2:(done++[v]).length=done.length+1:=by simp
  rw[e2] at ih
  rw[ih]
  simp

theorem zfW{parts:Array (Nat × Operand)}{ρ:Operand->Value}:(parts.map fun(x:Nat × Operand)=>(x.1,ρ x.2)).toList=(parts.toList.map (·.1)).zip ((parts.toList.map (·.2)).map ρ):=by
 rw[Array.toList_map]
 induction parts.toList with
 |nil=>rfl
 |cons x r ih=>simp[ih]

theorem zfX{t e:TypeId}{n:Nat}{parts:Array (Nat × Operand)}{ρ:Operand->Value}(ht:P.underlying t=some (.slice e))(hok:okT P e=true)(hz:zaZ P e=true)(hr:parts.toList.map (·.1)=List.range n)(hn:n*P.cellsOf e<=65536)
  (hsizes:∀v∈(parts.toList.map (·.2)).map ρ,v.cells.size=(shOf P e).size):
  (Instr.buildSlice t n (parts.map fun(x:Nat × Operand)=>(x.1,ρ x.2))).run P w=.ok (.slice (some ⟨w.heap.size,0,none⟩) n n) (w.alloc (.cells (cellsOf ((parts.toList.map (·.2)).map ρ)).toArray e))/\((parts.toList.map (·.2)).map ρ).length=n:=by
 obtain⟨i,z,hi,hiz,hsz,hzs⟩:=okE w hok hz
 have hce:P.cellsOf e=(shOf P e).size:=by simp[Program.cellsOf,hi,hsz]
 rw[hce] at hn
 have hlen:((parts.toList.map (·.2)).map ρ).length=n:=by
  rw[List.length_map,List.length_map]
  have:=congrArg List.length hr
  simpa using this
 refine⟨?_,hlen⟩
 have hbig:¬n*(shOf P e).size > 2 ^ 24:=by omega
 have hzero:(zeroValue e).run P w=.ok z w:=by simp[zeroValue,typeInfo,hi,hiz]
 have fillEq:∀cells:Array Value,cells.size=n*(shOf P e).size->Instr.fill (fun i=>some (i*(shOf P e).size,(shOf P e).size)) cells (parts.map fun(x:Nat × Operand)=>(x.1,ρ x.2)).toList=some (cellsOf ((parts.toList.map (·.2)).map ρ)).toArray:=by
  intro cells hc
  rw[zfW,hr,List.range_eq_range']
  have:=zgK (sz:=(shOf P e).size) ((parts.toList.map (·.2)).map ρ) [] cells hsizes (by simp) (by rw[hlen];simpa using hc) (by simp[cellsOf])
  rw[hlen] at this
  simpa using this
 by_cases h0:n*(shOf P e).size=0
 ·have hf:=fillEq (Array.map (fun x=>(#[]:Array Value)[x % (#[]:Array Value).size]!) (Array.range (n*(shOf P e).size))) (by simp)
  simp[Instr.buildSlice,run_underlying ht,za6 hok,h0,newRow] at hf ⊢
  simp[hf]
 ·have hf:=fillEq (Array.map (fun x=>z.cells[x % z.cells.size]!) (Array.range (n*(shOf P e).size))) (by simp)
  simp[Instr.buildSlice,run_underlying ht,za6 hok,hbig,h0,newRow,hzero] at hf ⊢
  simp[hf]

theorem zeH{t e:TypeId}{n:Nat}{parts:Array (Nat × Operand)}{ρ:Operand->Value}{I:Nat->Prop}{es:List PV}(ht:P.underlying t=some (.slice e))(hok:okT P e=true)(hz:zaZ P e=true)(hr:parts.toList.map (·.1)=List.range n)(hn:n*P.cellsOf e<=65536)
  (hE:ER w I (shOf P e) es ((parts.toList.map (·.2)).map ρ)):
  (Instr.buildSlice t n (parts.map fun(x:Nat × Operand)=>(x.1,ρ x.2))).run P w=.ok (.slice (some ⟨w.heap.size,0,none⟩) n n) (w.alloc (.cells (cellsOf ((parts.toList.map (·.2)).map ρ)).toArray e))/\es.length=n:=by
 obtain⟨h1,h2⟩:=zfX (w:=w) ht hok hz hr hn hE.sizes
 exact⟨h1,hE.1.trans h2⟩

theorem zgL{b n:Nat}{sh:Sh}{es:List PV}{vals:List Value}{t:TypeId}(hH:HR w X μ hp)(hE:ER w (Im X μ hp) sh es vals)(hn:es.length=n):
  AR (w.alloc (.cells (cellsOf vals).toArray t)) X μ hp (.tsl sh es) (.slice (some ⟨w.heap.size,0,none⟩) n n)/\HR (w.alloc (.cells (cellsOf vals).toArray t)) X μ hp/\Ext b X μ hp w μ hp (w.alloc (.cells (cellsOf vals).toArray t)):=by
 subst hn
 refine⟨.tsl _ _ _ ?_,hH.alloc _,Ext.alloc b _⟩
 have hE':=ER.ext (Ext.alloc (X:=X) (μ:=μ) (hp:=hp) (w:=w) 0 (.cells (cellsOf vals).toArray t)) hE
 refine .sl sh es w.heap.size 0 es.length _ t (0,0) vals hE.1 ⟨fun hx=>by have:=hH.xlt _ hx;omega,fun i hl e=>by have:=(hH.out i _ (zbv hl) e).2;omega⟩ (zaC w _) (fun i p v hp hv=>(hE'.2 i p v hp hv).1) (fun i p v hp hv=>(hE'.2 i p v hp hv).2) ?_ (Nat.le_refl _)
 simp only[List.drop_zero]
 rw[List.take_of_length_le (by rw[hE.length];exact Nat.le_refl _)]
end Go.Am

/- Structs and arrays written out; strings cut; type assertions; make. -/
namespace Go.Am
variable{P:Program} {w:World} {X:Xc P} {μ:Nat->Option Nat} {hp:Heap}

theorem zpm{l:List (Sh × AV)}{vals:List Value}{i:Nat}{sh:Sh}{a0 a:AV}{v:Value}(hc:CR w X μ hp l vals)(hi:l[i]? =some (sh,a0))(ha:AR w X μ hp a v)(hs:vshp v=sh)(hf:Flat v):
  CR w X μ hp (l.set i (sh,a)) (vals.set i v)/\total (l.take i)+v.cells.size<=(cellsOf vals).length/\cellsOf (vals.set i v)=(cellsOf vals).take (total (l.take i))++v.cells.toList++(cellsOf vals).drop (total (l.take i)+v.cells.size):=by
 induction l generalizing vals i with
 |nil=>simp at hi
 |cons x r ih=>
  obtain⟨s,a1⟩:=x
  obtain⟨u,us,rfl,h1,h2,h3,h4⟩:=hc.inv
  have hul:u.cells.toList.length=s.size:=by rw[Array.length_toList,zai,h1]
  have hvs:v.cells.size=sh.size:=by rw[zai,hs]
  cases i with
  |zero=>
   simp only[List.getElem?_cons_zero,Option.some.injEq,Prod.mk.injEq] at hi
   obtain⟨rfl,rfl⟩:=hi
   refine⟨CR.cons hs hf ha h4,by simp[total,zaa,hvs,hul],?_⟩
   simp only[List.set_cons_zero,List.take_zero,total,Nat.zero_add,zaa,List.nil_append]
   rw[hvs,<-hul,List.drop_left]
  |succ i=>
   obtain⟨k1,k2,k3⟩:=ih h4 (by simpa using hi)
   refine⟨CR.cons h1 h2 h3 k1,by simp only[List.take_succ_cons,total,zaa,List.length_append];omega,?_⟩
   simp only[List.set_cons_succ,List.take_succ_cons,total,zaa]
   rw[k3,List.take_append,List.drop_append,List.take_of_length_le (by omega:u.cells.toList.length<=s.size+total (r.take i)),List.drop_of_length_le (by omega:u.cells.toList.length<=s.size+total (r.take i)+v.cells.size),hul,
    show s.size+total (r.take i) - s.size=total (r.take i) by omega,show s.size+total (r.take i)+v.cells.size - s.size=total (r.take i)+v.cells.size by omega]
   simp

theorem znd{l:List (Sh × AV)}{i:Nat}{sh:Sh}{a0 a:AV}(hi:l[i]? =some (sh,a0))(k:Nat):total ((l.set i (sh,a)).take k)=total (l.take k)/\(l.set i (sh,a)).map (·.1)=l.map (·.1):=by
 induction l generalizing i k with
 |nil=>simp at hi
 |cons x r ih=>
  cases i with
  |zero=>
   simp only[List.getElem?_cons_zero,Option.some.injEq] at hi
   subst hi
   cases k with
   |zero=>simp[total]
   |succ k=>simp[total]
  |succ i=>
   have h:=fun k=>ih (i:=i) (by simpa using hi) k
   cases k with
   |zero=>exact⟨by simp[total],by simp[(h 0).2]⟩
   |succ k=>exact⟨by simp[total,(h k).1],by simp[(h 0).2]⟩

theorem zeI{place:Nat->Option (Nat × Nat)}:∀(idx:List Nat) (as:List AV) (l l':List (Sh × AV)) (us vals:List Value) (cells:Array Value),zcK l idx as=some l'->CR w X μ hp l vals->cells.toList=cellsOf vals->LR w X μ hp as us->
  (∀i sh,(l.map (·.1))[i]? =some sh->place i=some (total (l.take i),sh.size))->∃vals',Instr.fill place cells (idx.zip us)=some (cellsOf vals').toArray/\CR w X μ hp l' vals'
 |[],as,l,l',us,vals,cells,h,hc,hcells,hl,hplace=>by
  cases as with
  |nil=>
   simp only[zcK,Option.some.injEq] at h
   subst h
   refine⟨vals,?_,hc⟩
   simp only[List.zip_nil_left,Instr.fill,<-hcells,Array.toArray_toList]
  |cons a r=>simp[zcK] at h
 |i::idx,as,l,l',us,vals,cells,h,hc,hcells,hl,hplace=>by
  cases as with
  |nil=>simp[zcK] at h
  |cons a r=>
   cases hl with
   |cons ha hr=>
    rename_i v us'
    simp only[zcK] at h
    split at h
    ·rename_i sh a0 hi
     split at h
     ·rename_i hh
      have hs:vshp v=sh:=by rw[ha.vshp hh.2,hh.1]
      have hvs:v.cells.size=sh.size:=by rw[zai,hs]
      obtain⟨k1,k2,k3⟩:=zpm hc hi ha hs (ha.flat hh.2)
      have hpl:=hplace i sh (by simp[hi])
      have hcl:cells.toList.length=cells.size:=Array.length_toList
      rw[List.zip_cons_cons,zis place cells i v _ (total (l.take i)) (by rw[hpl,hvs]) (by rw[<-hcl,hcells];exact k2)]
      refine zeI idx r _ l' us' (vals.set i v) _ h k1 (by simp only[hcells,k3]) hr fun j s hj=> ?_
      have ht:=fun k=>znd (a:=a) hi k
      rw[(ht 0).2] at hj
      rw[(ht j).1]
      exact hplace j s hj
     ·cases h
    ·cases h

theorem zit(P:Program)(d:Nat)(cs:Array Value):∀(fs:List Field) (o:Nat) (l:List (Sh × AV)),ofValue.fields P d cs o fs=some l->l.map (·.1)=fs.map (fun f=>shOf P f.type)/\∀i f,fs[i]? =some f->f.offset=o+total (l.take i):=by
 intro fs
 induction fs with
 |nil=>
  intro o l h
  simp only[ofValue.fields,zcO] at h
  split at h
  ·cases h;exact⟨rfl,by simp⟩
  ·cases h
 |cons f r ih=>
  intro o l h
  simp only[ofValue.fields,zcO] at h
  split at h
  ·rename_i ho
   split at h
   ·cases h
   ·split at h
    ·rename_i l' hl'
     cases h
     obtain⟨h1,h2⟩:=ih _ _ hl'
     refine⟨by simp[h1],fun i g hg=> ?_⟩
     cases i with
     |zero=>simp at hg;subst hg;simp[total,ho]
     |succ i=>
      have:=h2 i g (by simpa using hg)
      rw[this,List.take_succ_cons]
      simp only[total]
      omega
    ·cases h
  ·cases h
theorem zjW(P:Program)(d:Nat)(cs:Array Value)(sh:Sh)(t:TypeId):∀(n o:Nat) (l:List (Sh × AV)),ofValue.items P d cs sh t o n=some l->∀i s,(l.map (·.1))[i]? =some s->s=sh/\total (l.take i)=i*sh.size:=by
 intro n
 induction n with
 |zero=>
  intro o l h
  simp only[ofValue.items,zd1] at h
  split at h
  ·cases h;intro i s hs;simp at hs
  ·cases h
 |succ n ih=>
  intro o l h
  simp only[ofValue.items,zd1] at h
  split at h
  ·cases h
  ·split at h
   ·rename_i l' hl'
    cases h
    intro i s hs
    cases i with
    |zero=>simp at hs;subst hs;simp[total]
    |succ i=>
     obtain⟨h1,h2⟩:=ih _ _ hl' i s (by simpa using hs)
     refine⟨h1,?_⟩
     rw[List.take_succ_cons]
     simp only[total,h2,Nat.add_mul]
     omega
   ·cases h

theorem zej{l l':List (Sh × AV)}(h:(AV.ofComps l).comps=some l'):l'.map (·.1)=l.map (·.1):=by
 have key:∀(l:List (Sh × AV)) (ps:List (Sh × PV)),pures l=some ps->ps.map (·.1)=l.map (·.1):=by
  intro l
  induction l with
  |nil=>intro ps h;simp[pures] at h;subst h;rfl
  |cons x r ih=>
   intro ps h
   obtain⟨s,a⟩:=x
   cases a with
   |pv s' p=>
    simp only[pures] at h
    split at h
    ·rename_i q hq
     cases h
     simp[ih _ hq]
    ·cases h
   |_=>simp[pures] at h
 unfold AV.ofComps at h
 split at h
 ·rename_i ps hps
  simp only[AV.comps,Option.some.injEq] at h
  subst h
  simp[key l ps hps,Function.comp_def]
 ·simp only[AV.comps,Option.some.injEq] at h
  subst h
  rfl
theorem zfY{α β:Type}:∀{a:List (Sh × α)} {b:List (Sh × β)},a.map (·.1)=b.map (·.1)->∀i,total (a.take i)=total (b.take i)
 |[],[],_,i=>by simp[total]
 |[],_::_,h,i=>by simp at h
 |_::_,[],h,i=>by simp at h
 |x::r,y::q,h,i=>by
  simp only[List.map_cons,List.cons.injEq] at h
  cases i with
  |zero=>simp[total]
  |succ i=>simp[total,h.1,zfY h.2 i]

theorem zjX{fs:List Field}(hok:fs.all (fun f=>okT P f.type)=true):(fs.mapM (fun f=>do pure (f.offset,<-sizeOf f.type)):Sem (List (Nat × Nat))).run P w=.ok (fs.map fun f=>(f.offset,(shOf P f.type).size)) w:=by
 induction fs with
 |nil=>rfl
 |cons f r ih=>
  simp only[List.all_cons,Bool.and_eq_true] at hok
  rw[List.mapM_cons]
  simp only[Sem.run_bind,za6 hok.1,Result.andThen_ok,Sem.run_pure,ih hok.2,List.map_cons]

theorem zlO{t:TypeId}{z:AV}{l:List (Sh × AV)}(hz:zaU P t=some z)(hl:z.comps=some l)(w:World)(X:Xc P)(μ:Nat->Option Nat)(hp:Heap):
  ∃cs vals,(zeroValue t).run P w=.ok (.agg cs) w/\cs.toList=cellsOf vals/\CR w X μ hp l vals/\
   (∀fs,P.underlying t=some (.struct fs)->l.map (·.1)=fs.toList.map (fun f=>shOf P f.type)/\∀i f,fs[i]? =some f->f.offset=total (l.take i))/\
   (∀n e,P.underlying t=some (.array n e)->∀i s,(l.map (·.1))[i]? =some s->s=shOf P e/\total (l.take i)=i*(shOf P e).size):=by
 obtain⟨v,h1,h2,h3⟩:=zbo (w:=w) (X:=X) (μ:=μ) (hp:=hp) hz
 obtain⟨vals,rfl,hc⟩:=zgG hl h2
 refine⟨_,vals,h1,rfl,hc,?_,?_⟩
 ·intro fs ht
  unfold zaU at hz
  split at hz
  ·split at hz
   ·rename_i zv hzv
    unfold ofValue at hz
    split at hz <;> first|(simp only[Option.some.injEq] at hz;subst hz;simp[AV.comps] at hl;done)|skip
    ·split at hz
     ·split at hz <;> (simp only[Option.some.injEq] at hz;subst hz;simp[AV.comps] at hl)
     ·cases hz
    ·simp only[ht] at hz
     split at hz
     ·rename_i l0 hl0
      cases hz
      obtain⟨f1,f2⟩:=zit P _ _ _ _ _ hl0
      have hm:=zej hl
      refine⟨by rw[hm,f1],fun i f hf=> ?_⟩
      rw[f2 i f (by simpa using hf),Nat.zero_add]
      exact(zfY hm i).symm
     ·cases hz
    ·cases hz
   ·cases hz
  ·cases hz
 ·intro n e ht
  unfold zaU at hz
  split at hz
  ·split at hz
   ·rename_i zv hzv
    unfold ofValue at hz
    split at hz <;> first|(simp only[Option.some.injEq] at hz;subst hz;simp[AV.comps] at hl;done)|skip
    ·split at hz
     ·split at hz <;> (simp only[Option.some.injEq] at hz;subst hz;simp[AV.comps] at hl)
     ·cases hz
    ·simp only[ht] at hz
     split at hz
     ·rename_i l0 hl0
      cases hz
      have hm:=zej hl
      intro i s hs
      rw[hm] at hs
      obtain⟨a1,a2⟩:=zjW P _ _ _ _ _ _ _ hl0 i s hs
      exact⟨a1,by rw[zfY hm i];exact a2⟩
     ·cases hz
    ·cases hz
   ·cases hz
  ·cases hz

theorem zfZ{t:TypeId}{parts:Array (Nat × Operand)}{ρ:Operand->Value}{z:AV}{l:List (Sh × AV)}{vs:List AV}{v:AV}(hz:zaU P t=some z)(hc:z.comps=some l)
  (ht:(∃fs,P.underlying t=some (.struct fs)/\fs.toList.all (fun f=>okT P f.type)=true)\/∃n e,P.underlying t=some (.array n e)/\okT P e=true)
  (hl:LR w X μ hp vs ((parts.toList.map (·.2)).map ρ))(h:zdW l (parts.toList.map (·.1)) vs=some v):Yld P w X μ hp (do pure (.value (<-Instr.build t (parts.map fun(x:Nat × Operand)=>(x.1,ρ x.2))))) v:=by
 obtain⟨cs,vals,z1,z2,z3,z4,z5⟩:=zlO hz hc w X μ hp
 unfold zdW at h
 split at h
 ·split at h
  ·rename_i l' hl'
   cases h
   rcases ht with⟨fs,ht,hok⟩|⟨n,e,ht,hok⟩
   ·obtain⟨f1,f2⟩:=z4 fs ht
    obtain⟨vals',k1,k2⟩:=zeI (place:=((fs.map fun f=>(f.offset,(shOf P f.type).size))[·]?)) _ _ _ _ _ _ cs hl' z3 z2 hl (by
     intro i sh hi
     rw[f1] at hi
     simp only[List.getElem?_map,Option.map_eq_some_iff] at hi
     obtain⟨f,hf,rfl⟩:=hi
     have hf':fs[i]? =some f:=by simpa using hf
     simp[hf',f2 i f hf'])
    refine⟨.agg (cellsOf vals').toArray,?_,k2.ofComps⟩
    have hm:(fs.mapM (fun f=>do pure (f.offset,<-sizeOf f.type)):Sem (Array (Nat × Nat))).run P w=.ok (fs.map fun f=>(f.offset,(shOf P f.type).size)) w:=by
     rw[Array.mapM_eq_mapM_toList]
     simp only[Sem.run_map,zjX hok,Result.andThen_ok,<-Array.toList_map,Array.toArray_toList]
    rw[<-zfW] at k1
    simp only[Instr.build,Sem.run_bind,z1,Result.andThen_ok,run_underlying ht,hm,Value.cells,k1,Sem.run_pure]
   ·have f2:=z5 n e ht
    obtain⟨vals',k1,k2⟩:=zeI (place:=fun i=>some (i*(shOf P e).size,(shOf P e).size)) _ _ _ _ _ _ cs hl' z3 z2 hl (by
     intro i sh hi
     obtain⟨a1,a2⟩:=f2 i sh hi
     rw[a1,a2])
    refine⟨.agg (cellsOf vals').toArray,?_,k2.ofComps⟩
    rw[<-zfW] at k1
    simp only[Instr.build,Sem.run_bind,z1,Result.andThen_ok,run_underlying ht,za6 hok,Value.cells,k1,Sem.run_pure]
  ·cases h
 ·cases h
end Go.Am

/- Structs compared; strings cut; type assertions; maps read and written. -/
namespace Go.Am
variable{P:Program} {w:World} {X:Xc P} {μ:Nat->Option Nat} {hp:Heap}

theorem zdA{t:TypeId}{d:TypeDesc}(ht:P.underlying t=some d)(hn:shOf P t=none){cs:Array Value}{o:Nat}{v:Value}(h:cs[o]? =some v):(part t cs o).run P w=.ok v w:=by
 simp only[part,Sem.run_bind,zfS ht,hn,Option.isSome_none,Result.andThen_ok,Bool.false_eq_true,if_false,h,Sem.run_pure]

theorem PR.int_inv{I:Nat->Prop}{k:IntKind}{n:Int}{v:Value}(h:PR w I (.int k n) v):v=.int k n:=by cases h;rfl
theorem PR.str_inv{I:Nat->Prop}{s:List UInt8}{v:Value}(h:PR w I (.str s) v):v=.string ⟨s.toArray⟩:=by cases h;rfl
theorem PR.bool_inv{I:Nat->Prop}{b:Bool}{v:Value}(h:PR w I (.bool b) v):v=.bool b:=by cases h;rfl

theorem zcB{α:Type}{l:List α}{o:Nat}{a:α}{r:List α}(h:l.drop o=a::r):l[o]? =some a/\l.drop (o+1)=r:=by
 have h1:(l.drop o)[0]? =some a:=by rw[h];rfl
 refine⟨by simpa using h1,?_⟩
 have h2:=congrArg (List.drop 1) h
 simpa[List.drop_drop] using h2

theorem zbN{I:Nat->Prop}(d:Nat)(xs ys:Array Value):∀(fs:List Field) (ds:List Nat) (o:Nat) (lx ly:List (Sh × PV)) (vx vy:List Value) (b:Bool),
  zhi P o fs=some ds->zbh ds lx ly=some b->CP w I lx vx->CP w I ly vy->xs.toList.drop o=cellsOf vx->ys.toList.drop o=cellsOf vy->(Op.eqFields (d+1) xs ys fs).run P w=.ok b w
 |[],ds,o,lx,ly,vx,vy,b,hk,he,hx,hy,h1,h2=>by
  cases hk
  cases lx <;> cases ly <;> simp[zbh] at he
  subst he
  rfl
 |f::r,ds,o,lx,ly,vx,vy,b,hk,he,hx,hy,h1,h2=>by
  simp only[zhi] at hk
  split at hk
  ·rename_i hf
   obtain⟨rfl,hf⟩:=hf
   split at hk
   ·rename_i k l hd hl
    cases hk
    have hn:shOf P f.type=none:=by simp[shOf,hd]
    match lx,ly,he,hx,hy with
    |(none,.int k1 a)::lx,(none,.int k2 a')::ly,he,hx,hy=>
     simp only[zbh] at he
     split at he
     ·rename_i hkk
      subst hkk
      obtain⟨u,us,rfl,_,g1,g2⟩:=hx.inv
      obtain⟨v,vs,rfl,_,g3,g4⟩:=hy.inv
      have e1:=g1.int_inv
      have e2:=g3.int_inv
      subst e1;subst e2
      simp only[zaa,Value.cells,List.cons_append,List.nil_append] at h1 h2
      obtain⟨a1,a2⟩:=zcB h1
      obtain⟨b1,b2⟩:=zcB h2
      have p1:=zdA (w:=w) hd hn (by simpa using a1)
      have p2:=zdA (w:=w) hd hn (by simpa using b1)
      simp only[Op.eqFields,hf,if_true,ne_eq,not_false_eq_true,Sem.run_bind,p1,p2,Result.andThen_ok,run_equalIn_int w d _ _ _ _ _ hd]
      split at he
      ·rename_i hab
       subst hab
       simp only[BEq.rfl,Bool.not_true,Bool.false_eq_true,if_false]
       exact zbN d xs ys r l _ lx ly us vs b hl he g2 g4 a2 b2
      ·rename_i hab
       cases he
       have:(a == a')=false:=by simpa using hab
       simp only[this,Bool.not_false,if_true,Sem.run_pure]
     ·cases he
    |[],_,he,_,_=>simp[zbh] at he
    |_,[],he,_,_=>simp[zbh] at he
   ·rename_i l hd hl
    cases hk
    have hn:shOf P f.type=none:=by simp[shOf,hd]
    match lx,ly,he,hx,hy with
    |(none,.str a)::lx,(none,.str a')::ly,he,hx,hy=>
     simp only[zbh] at he
     obtain⟨u,us,rfl,_,g1,g2⟩:=hx.inv
     obtain⟨v,vs,rfl,_,g3,g4⟩:=hy.inv
     have e1:=g1.str_inv
     have e2:=g3.str_inv
     subst e1;subst e2
     simp only[zaa,Value.cells,List.cons_append,List.nil_append] at h1 h2
     obtain⟨a1,a2⟩:=zcB h1
     obtain⟨b1,b2⟩:=zcB h2
     have p1:=zdA (w:=w) hd hn (by simpa using a1)
     have p2:=zdA (w:=w) hd hn (by simpa using b1)
     simp only[Op.eqFields,hf,if_true,ne_eq,not_false_eq_true,Sem.run_bind,p1,p2,Result.andThen_ok,run_equalIn_string w d _ _ _ hd,ByteArray.toList_mk]
     split at he
     ·rename_i hab
      subst hab
      simp only[BEq.rfl,Bool.not_true,Bool.false_eq_true,if_false]
      exact zbN d xs ys r l _ lx ly us vs b hl he g2 g4 a2 b2
     ·rename_i hab
      cases he
      have:(a == a')=false:=by simpa using hab
      simp only[this,Bool.not_false,if_true,Sem.run_pure]
    |[],_,he,_,_=>simp[zbh] at he
    |_,[],he,_,_=>simp[zbh] at he
   ·rename_i l hd hl
    cases hk
    have hn:shOf P f.type=none:=by simp[shOf,hd]
    match lx,ly,he,hx,hy with
    |(none,.bool a)::lx,(none,.bool a')::ly,he,hx,hy=>
     simp only[zbh] at he
     obtain⟨u,us,rfl,_,g1,g2⟩:=hx.inv
     obtain⟨v,vs,rfl,_,g3,g4⟩:=hy.inv
     have e1:=g1.bool_inv
     have e2:=g3.bool_inv
     subst e1;subst e2
     simp only[zaa,Value.cells,List.cons_append,List.nil_append] at h1 h2
     obtain⟨a1,a2⟩:=zcB h1
     obtain⟨b1,b2⟩:=zcB h2
     have p1:=zdA (w:=w) hd hn (by simpa using a1)
     have p2:=zdA (w:=w) hd hn (by simpa using b1)
     simp only[Op.eqFields,hf,if_true,ne_eq,not_false_eq_true,Sem.run_bind,p1,p2,Result.andThen_ok,run_equalIn_bool' w d _ _ _ hd]
     split at he
     ·rename_i hab
      subst hab
      simp only[BEq.rfl,Bool.not_true,Bool.false_eq_true,if_false]
      exact zbN d xs ys r l _ lx ly us vs b hl he g2 g4 a2 b2
     ·rename_i hab
      cases he
      have:(a == a')=false:=by simpa using hab
      simp only[this,Bool.not_false,if_true,Sem.run_pure]
    |[],_,he,_,_=>simp[zbh] at he
    |_,[],he,_,_=>simp[zbh] at he
   ·cases hk
  ·cases hk

theorem zne{o:BinOp}(ho:o=.eql\/o=.neq){t:TypeId}{x y:Operand}{vx vy:Value}{ds:List Nat}{vs:List AV}{v:AV}(hd:zqZ P t=some ds)(hl:LR w X μ hp vs [vx,vy])(h:sEqs (zc6 o) ds vs=some v):
  Yld P w X μ hp (do pure (.value (<-(do eqGuard o t x y vx vy;binOp o t vx vy)))) v:=by
 unfold sEqs at h
 split at h
 ·obtain⟨a,b,e,h1,h2⟩:=hl.two
  cases e
  split at h
  ·rename_i r hr
   cases h
   cases h1 with|pv _ _ _ hs1 h1=>
   cases h2 with|pv _ _ _ hs2 h2=>
   cases h1 with|agg _ ux hl1 k1 k1'=>
   cases h2 with|agg _ uy hl2 k2 k2'=>
   unfold zqZ at hd
   split at hd
   ·rename_i fs ht
    split at hd
    ·rename_i hg
     have hfo:P.fieldsOf t=fs:=by simp[Program.fieldsOf,ht]
     have hE:(Op.equalIn 10000 t (.agg (cellsOf ux).toArray) (.agg (cellsOf uy).toArray)).run P w=.ok r w:=by
      rw[run_equalIn_agg w 9999 t _ _ (by rw[hfo];exact ht) hg.1,hfo]
      exact zbN 9998 _ _ _ _ 0 _ _ ux uy r hd hr ⟨hl1,k1,k1'⟩ ⟨hl2,k2,k2'⟩ (by simp) (by simp)
     rcases ho with rfl|rfl
     ·exact⟨.bool r,by simp only[Sem.run_bind,run_eqGuard_agg w .eql t x y _ _ hg.2,Result.andThen_ok,run_eql_struct,hE,Sem.run_pure],.mkBool _⟩
     ·exact⟨.bool (!r),by simp only[Sem.run_bind,run_eqGuard_agg w .neq t x y _ _ hg.2,Result.andThen_ok,run_neq_struct,hE,Sem.run_pure],.mkBool _⟩
    ·cases hd
   ·cases hd
  ·cases h
 ·cases h
end Go.Am

/- Maps; strings cut; type assertions; make. -/
namespace Go.Am
variable{P:Program} {w:World} {X:Xc P} {μ:Nat->Option Nat} {hp:Heap}

theorem Ext.setMap{b0 r:Nat}{sh:Sh}{old new:List (PV × PV)}(hr:hp[r]? =some (.map sh old)){w':World}{b:Nat}(hb:μ r=some b)(hos:w'.os=w.os)(ht:w'.tape=w.tape)(ho:w'.output=w.output)
  (hsz:w'.heap.size=w.heap.size)(hoth:∀k,k≠b->w'.heap[k]? =w.heap[k]?)(hsh:∀cs t fr,w.heap[b]?≠some (.cells cs t fr)):Ext b0 X μ hp w μ (hp.set r (.map sh new)) w' where
 os:=hos
 tape:=ht
 output:=ho
 size:=by omega
 blk k hk hm:=hoth k fun e=>by
  subst e
  exact hm r (by simp[Am.live,hr]) hb
 shape k cs t fr hk:=by
  by_cases e:k=b
  ·subst e;exact absurd hk (hsh cs t fr)
  ·exact⟨cs,by rw[hoth k e];exact hk,rfl⟩
 len:=by simp
 box i s u hi:=by
  have e:i≠r:=by rintro rfl;rw[hr] at hi;cases hi
  exact⟨u,by rw[List.getElem?_set_ne (Ne.symm e)];exact hi,rfl,fun _ _ h=>h⟩
 arr i s es fz hi:=by
  have e:i≠r:=by rintro rfl;rw[hr] at hi;cases hi
  exact⟨es,fz,by rw[List.getElem?_set_ne (Ne.symm e)];exact hi,Nat.le_refl _,fun e=>⟨e,rfl⟩,fun _=>rfl⟩
 map i s es hi:=by
  by_cases e:i=r
  ·subst e
   rw[hr] at hi
   cases hi
   exact⟨new,by rw[List.getElem?_set_self (List.getElem?_eq_some_iff.1 hr).1],rfl⟩
  ·exact⟨es,by rw[List.getElem?_set_ne (Ne.symm e)];exact hi,rfl⟩
 loop i f ps env bz hi:=by
  have e:i≠r:=by rintro rfl;rw[hr] at hi;cases hi
  exact⟨bz,by rw[List.getElem?_set_ne (Ne.symm e)];exact hi,rfl⟩
 arv i s es hi:=by
  have e:i≠r:=by rintro rfl;rw[hr] at hi;cases hi
  have e2:(hp.set r (.map sh new))[i]? =some (.arv s es):=by rw[List.getElem?_set_ne (Ne.symm e)];exact hi
  exact⟨es.length,by rw[e2];rfl,Nat.le_refl _,fun _=>rfl,fun es' h' _=>by rw[e2] at h';cases h';exact fun _ h=>h⟩
 new i h1 h2:=by simp at h2;omega
 mov i _ k hk:=.inl hk

def MR(w:World)(I:Nat->Prop)(sh:Sh)(es:List (PV × PV))(ents:List MapEntry):Prop:=
 es.length=ents.length/\∀(k:Nat) (x:PV × PV) (e:MapEntry),es[k]? =some x->ents[k]? =some e->PR w I x.1 e.key/\PR w I x.2 e.val/\vshp e.val=sh

theorem HR.setMap{b0 r:Nat}{sh:Sh}{old new:List (PV × PV)}(h:HR w X μ hp)(hr:hp[r]? =some (.map sh old)){w':World}{b:Nat}(hb:μ r=some b)(E:Ext b0 X μ hp w μ (hp.set r (.map sh new)) w')(hoth:∀k,k≠b->w'.heap[k]? =w.heap[k]?)
  {ents:Array MapEntry}{clock:Nat}(h1:w'.heap[b]? =some (.map ents clock))(h2:MR w (Im X μ hp) sh new ents.toList):HR w' X μ (hp.set r (.map sh new)):=by
 have hlen:(hp.set r (.map sh new)).length=hp.length:=by simp
 have other:∀i k,i<hp.length->i≠r->μ i=some k->w'.heap[k]? =w.heap[k]? :=fun i k hi hne hk=>hoth k fun e=>by
  subst e
  exact hne (h.inj i r k hi (List.getElem?_eq_some_iff.1 hr).1 hk hb)
 refine⟨?_,?_,?_,?_,?_,?_,?_,?_⟩
 ·intro i j k hi hj;rw[hlen] at hi hj;exact h.inj i j k hi hj
 ·intro i k hi hk;rw[hlen] at hi
  exact⟨(h.out i k hi hk).1,Nat.lt_of_lt_of_le (h.out i k hi hk).2 E.size⟩
 ·exact fun k hx=>Nat.lt_of_lt_of_le (h.xlt k hx) E.size
 ·intro i s u hi
  rcases zaV hi with⟨rfl,e⟩|⟨hne,hi⟩
  ·cases e
  ·obtain⟨k,val,t,k1,k2,k3,k4,k5⟩:=h.box i s u hi
   exact⟨k,val,t,k1,by rw[other i k (List.getElem?_eq_some_iff.1 hi).1 hne k1];exact k2,k3,k4,E.ar k5⟩
 ·intro i s es fz hi
  rcases zaV hi with⟨rfl,e⟩|⟨hne,hi⟩
  ·cases e
  ·obtain⟨k0,k1⟩:=h.arr i s es fz hi
   refine⟨k0,?_⟩
   rcases k1 with k1|⟨k,cs,t,vals,k1,k2,k3,k4,k5⟩
   ·exact .inl k1
   ·exact .inr ⟨k,cs,t,vals,k1,by rw[other i k (List.getElem?_eq_some_iff.1 hi).1 hne k1];exact k2,k3,fun j p v hj hv=>⟨(k4 j p v hj hv).1,E.pr (k4 j p v hj hv).2⟩,k5⟩
 ·intro i s es hi
  rcases zaV hi with⟨rfl,e⟩|⟨hne,hi⟩
  ·cases e
   exact⟨b,ents,clock,hb,h1,by simpa using h2.1,fun j x y hj hy=>by
    obtain⟨a1,a2,a3⟩:=h2.2 j x y hj (by simpa using hy)
    exact⟨E.pr a1,E.pr a2,a3⟩⟩
  ·obtain⟨k,ents,clock,k1,k2,k3,k4⟩:=h.map i s es hi
   exact⟨k,ents,clock,k1,by rw[other i k (List.getElem?_eq_some_iff.1 hi).1 hne k1];exact k2,k3,fun j x y hj hy=>⟨E.pr (k4 j x y hj hy).1,E.pr (k4 j x y hj hy).2.1,(k4 j x y hj hy).2.2⟩⟩
 ·intro i f ps env bz hi
  rcases zaV hi with⟨rfl,e⟩|⟨hne,hi⟩
  ·cases e
  ·obtain⟨l,rc,k1,k2,k3,k4,k5,k6,k7⟩:=h.loop i f ps env bz hi
   exact⟨l,rc,k1,by rw[other i l (List.getElem?_eq_some_iff.1 hi).1 hne k1];exact k2,k3,k4,k5,k6,fun x hx=>⟨(k7 x hx).1,E.ar (k7 x hx).2⟩⟩
 ·intro i s es hi
  rcases zaV hi with⟨rfl,e⟩|⟨hne,hi⟩
  ·cases e
  ·obtain⟨h0,k,cs,t,vals,k1,k2,k3,k4,k5⟩:=h.arv i s es hi
   exact⟨h0,k,cs,t,vals,k1,by rw[other i k (List.getElem?_eq_some_iff.1 hi).1 hne k1];exact k2,k3,fun j p v hj hv=>⟨(k4 j p v hj hv).1,E.ar (k4 j p v hj hv).2⟩,k5⟩

theorem MR.nil{I:Nat->Prop}{sh:Sh}{ents:List MapEntry}(h:MR w I sh [] ents):ents=[]:=List.eq_nil_of_length_eq_zero (by have:=h.1;simp at this;exact this.symm)
theorem MR.inv{I:Nat->Prop}{sh:Sh}{x:PV × PV}{es:List (PV × PV)}{ents:List MapEntry}(h:MR w I sh (x::es) ents):∃e r,ents=e::r/\PR w I x.1 e.key/\PR w I x.2 e.val/\vshp e.val=sh/\MR w I sh es r:=by
 cases ents with
 |nil=>have:=h.1;simp at this
 |cons e r=>
  obtain⟨a,b,c⟩:=h.2 0 x e rfl rfl
  exact⟨e,r,rfl,a,b,c,by have:=h.1;simpa using this,fun k y f hy hf=>h.2 (k+1) y f (by simpa using hy) (by simpa using hf)⟩
theorem MR.cons{I:Nat->Prop}{sh:Sh}{x:PV × PV}{e:MapEntry}{es:List (PV × PV)}{ents:List MapEntry}(h1:PR w I x.1 e.key)(h2:PR w I x.2 e.val)(h3:vshp e.val=sh)(h:MR w I sh es ents):MR w I sh (x::es) (e::ents):=by
 refine⟨by simp[h.1],fun k y f hy hf=> ?_⟩
 cases k with
 |zero=>simp at hy hf;subst hy;subst hf;exact⟨h1,h2,h3⟩
 |succ k=>exact h.2 k y f (by simpa using hy) (by simpa using hf)

def KK(s:Bool)(d:TypeDesc):Prop:=(s=true/\d=.string)\/(s=false/\∃k,d=.int k)
theorem zgM{t:TypeId}{s:Bool}(h:zd2 P t=some s):∃d,P.underlying t=some d/\KK s d:=by
 unfold zd2 at h
 split at h
 ·rename_i hd;cases h;exact⟨_,hd,.inl ⟨rfl,rfl⟩⟩
 ·rename_i k hd;cases h;exact⟨_,hd,.inr ⟨rfl,k,rfl⟩⟩
 ·cases h

theorem zpn(n:Nat)(k:IntKind)(a:Int):Instr.sameBits n (.int k a) (.int k a)=true:=by cases n <;> simp[Instr.sameBits]
theorem zpo(n:Nat)(a:List UInt8):Instr.sameBits n (.string ⟨a.toArray⟩) (.string ⟨a.toArray⟩)=true:=by
 cases n <;> simp[Instr.sameBits,beq_toListBytes]
theorem zdB{I:Nat->Prop}{s:Bool}{d:TypeDesc}{k k':PV}{v v':Value}{b:Bool}(hd:KK s d)(h:PV.same s k k'=some b)(h1:PR w I k v)(h2:PR w I k' v'):Instr.sameNow d v v'=some b/\(b=true->v=v')/\Instr.sameBits 10000 v v=true:=by
 unfold PV.same at h
 split at h
 ·split at h
  ·rename_i hk
   cases h
   subst hk
   rcases hd with⟨hd,_⟩|⟨_,q,rfl⟩
   ·cases hd
   ·rw[h1.int_inv,h2.int_inv]
    refine⟨?_,fun e=>by simp at e;rw[e],zpn _ _ _⟩
    simp only[Instr.sameNow,if_true,Option.some.injEq]
    rfl
  ·cases h
 ·cases h
  rcases hd with⟨_,rfl⟩|⟨hd,_⟩
  ·rw[h1.str_inv,h2.str_inv]
   refine⟨?_,fun e=>by simp at e;rw[e],zpo _ _⟩
   simp only[Instr.sameNow,Option.some.injEq]
   rw[beq_toListBytes,ByteArray.toList_mk,ByteArray.toList_mk,zk2]
  ·cases hd
 ·cases h

theorem zeJ{I:Nat->Prop}{s:Bool}{d:TypeDesc}{sh:Sh}{k:PV}{kv:Value}(hd:KK s d)(hk:PR w I k kv):∀(es:List (PV × PV)) (ents:List MapEntry) (i:Nat) (r:Option PV),afind s k es=some r->MR w I sh es ents->
  ∃q,Instr.findNow d kv ents i=some q/\match r with|none=>q=none|some p=>∃j v,q=some (j,v)/\PR w I p v/\vshp v=sh
 |[],ents,i,r,h,hm=>by
  cases h
  rw[hm.nil]
  exact⟨none,rfl,rfl⟩
 |(k',v')::es,ents,i,r,h,hm=>by
  obtain⟨e,rest,rfl,g1,g2,g3,g4⟩:=hm.inv
  simp only[afind] at h
  split at h
  ·cases h
  ·rename_i hs
   cases h
   obtain⟨n1,n2⟩:=zdB hd hs hk g1
   exact⟨some (i,e.val),by simp[Instr.findNow,n1],i,e.val,rfl,g2,g3⟩
  ·rename_i hs
   obtain⟨n1,n2⟩:=zdB hd hs hk g1
   obtain⟨q,q1,q2⟩:=zeJ hd hk es rest (i+1) r h g4
   exact⟨q,by simp[Instr.findNow,n1,q1],q2⟩

theorem ziu{I:Nat->Prop}{s:Bool}{d:TypeDesc}{sh:Sh}{k p:PV}{kv pv:Value}(hd:KK s d)(hk:PR w I k kv)(hp:PR w I p pv)(hs:vshp pv=sh):∀(es:List (PV × PV)) (ents:List MapEntry) (i:Nat) (es':List (PV × PV)),aput s k p es=some es'->MR w I sh es ents->
  (Instr.findNow d kv ents i=some none/\∀b,MR w I sh es' (ents++[{ key:=kv,val:=pv,born:=b }]))\/
  (∃j e v,Instr.findNow d kv ents i=some (some (i+j,v))/\ents[j]? =some e/\e.key=kv/\Instr.sameBits 10000 kv kv=true/\MR w I sh es' (ents.modify j fun e=>{ e with key:=kv,val:=pv }))
 |[],ents,i,es',h,hm=>by
  cases h
  rw[hm.nil]
  exact .inl ⟨rfl,fun b=>MR.cons hk hp hs ⟨rfl,by simp⟩⟩
 |(k',v')::es,ents,i,es',h,hm=>by
  obtain⟨e,rest,rfl,g1,g2,g3,g4⟩:=hm.inv
  simp only[aput] at h
  split at h
  ·cases h
  ·rename_i hsm
   cases h
   obtain⟨n1,n2⟩:=zdB hd hsm hk g1
   refine .inr ⟨0,e,e.val,by simp[Instr.findNow,n1],rfl,(n2.1 rfl).symm,n2.2,?_⟩
   exact MR.cons hk hp hs g4
  ·rename_i hsm
   obtain⟨n1,n2⟩:=zdB hd hsm hk g1
   split at h
   ·rename_i l hl
    cases h
    rcases ziu hd hk hp hs es rest (i+1) l hl g4 with⟨a1,a2⟩|⟨j,f,v,a1,a2,a3,a5,a4⟩
    ·exact .inl ⟨by simp[Instr.findNow,n1,a1],fun b=>MR.cons g1 g2 g3 (a2 b)⟩
    ·refine .inr ⟨j+1,f,v,by simp[Instr.findNow,n1,a1];omega,a2,a3,a5,?_⟩
     exact MR.cons g1 g2 g3 a4
   ·cases h

theorem zf0{s:Bool}{d:TypeDesc}{t:TypeId}(e:Bool)(ht:P.underlying t=some d)(hd:KK s d)(v:Value)(n:Nat):(Instr.checkKey e (n+1) t v).run P w=.ok () w:=by
 rcases hd with⟨_,rfl⟩|⟨_,k,rfl⟩ <;> simp[Instr.checkKey,run_underlying ht]
theorem za7{s:Bool}{d:TypeDesc}{t:TypeId}(e:Bool)(ht:P.underlying t=some d)(hd:KK s d)(v:Value):(Instr.checkKey e 10000 t v).run P w=.ok () w:=zf0 e ht hd v 9999
theorem zdC{r:Nat}{es:Array MapEntry}{clock:Nat}(hb:w.heap[r]? =some (.map es clock)):(getObj r).run P w=.ok (.map es clock) w:=by simp[getObj,Sem.run,hb]
theorem zgN{r:Nat}{es:Array MapEntry}{clock:Nat}(o:Obj)(hb:w.heap[r]? =some (.map es clock)):(setObj r o).run P w=.ok () { w with heap:=w.heap.setIfInBounds r o }:=by simp[setObj,Sem.run,hb]

theorem ziv{t tk te:TypeId}{s:Bool}{x k:Value}{z:AV}{ok:Bool}{vs:List AV}{v:AV}(ht:P.underlying t=some (.map tk te))(hk:zd2 P tk=some s)(hz:zaU P te=some z)(hH:HR w X μ hp)(hl:LR w X μ hp vs [x,k])
  (h:zhe s (shOf P te) z ok hp vs=some v):Yld P w X μ hp (do pure (.value (<-Instr.lookup t x k ok))) v:=by
 obtain⟨d,hd,hKK⟩:=zgM hk
 obtain⟨zv,z1,z2,z3⟩:=zbo (w:=w) (X:=X) (μ:=μ) (hp:=hp) hz
 unfold zhe at h
 split at h
 ·rename_i r s0 kp
  obtain⟨a,b,e,h1,h2⟩:=hl.two
  cases e
  cases h1 with|map _ b0 sh0 es0 ho0 hb0=>
  cases h2 with|pv _ _ _ _ h2=>
  split at h
  ·rename_i sh es hr
   split at h
   ·rename_i hsh
    subst hsh
    obtain⟨b1,ents,clock,m1,m2,m3,m4⟩:=hH.map r _ _ hr
    rw[hb0] at m1
    cases m1
    have hM:MR w (Im X μ hp) (shOf P te) es ents.toList:=⟨by simpa using m3,fun k x e hx he=>m4 k x e hx (by simpa using he)⟩
    split at h
    ·rename_i p hf
     cases h
     obtain⟨q,q1,j,v,rfl,q3,q4⟩:=zeJ hKK h2 es ents.toList 0 _ hf hM
     have hrun:(Instr.lookup t (.map (some b0)) k ok).run P w=.ok (if ok=true then .tuple #[v,.bool true] else v) w:=by
      simp[Instr.lookup,run_underlying ht,zdC m2,za7 _ hd hKK,Instr.findKey,run_underlying hd,q1]
     cases ok
     ·exact zbF hrun (.pv _ _ _ q4 q3)
     ·exact zbF hrun (.tuple _ [v,.bool true] rfl (fun i a u ha hu=>by
       match i,ha,hu with
       |0,ha,hu=>simp at ha hu;subst ha;subst hu;exact .pv _ _ _ q4 q3
       |1,ha,hu=>simp at ha hu;subst ha;subst hu;exact .mkBool _))
    ·rename_i hf
     cases h
     obtain⟨q,q1,rfl⟩:=zeJ hKK h2 es ents.toList 0 _ hf hM
     have hrun:(Instr.lookup t (.map (some b0)) k ok).run P w=.ok (if ok=true then .tuple #[zv,.bool false] else zv) w:=by
      simp[Instr.lookup,run_underlying ht,zdC m2,za7 _ hd hKK,Instr.findKey,run_underlying hd,q1,z1]
     cases ok
     ·exact zbF hrun z2
     ·exact zbF hrun (.tuple _ [zv,.bool false] rfl (fun i a u ha hu=>by
       match i,ha,hu with
       |0,ha,hu=>simp at ha hu;subst ha;subst hu;exact z2
       |1,ha,hu=>simp at ha hu;subst ha;subst hu;exact .mkBool _))
    ·cases h
   ·cases h
  ·cases h
 ·cases h

theorem zfb{b:Nat}{t tk te:TypeId}{s:Bool}{x k y:Value}{vs:List AV}{v:AV}{hp':Heap}(ht:P.underlying t=some (.map tk te))(hk:zd2 P tk=some s)(hH:HR w X μ hp)(hl:LR w X μ hp vs [x,k,y])
  (h:zjL s (shOf P te) hp vs=some (v,hp')):Out P b w X μ hp (do Instr.mapUpdate t x k y;pure .skip) v hp':=by
 obtain⟨d,hd,hKK⟩:=zgM hk
 unfold zjL at h
 split at h
 ·rename_i r s0 kp a
  obtain⟨u1,u2,u3,e,h1,h2,h3⟩:=hl.three
  cases e
  split at h
  ·rename_i hs
   split at h
   ·cases h
   ·rename_i p hp1 hfz
    obtain⟨e1,hH1,h3p⟩:=zaR b w X μ _ _ _ _ _ _ hfz hH h3
    have hy:vshp y=shOf P te:=by rw[h3.vshp (zcs hfz),hs]
    have h1':=e1.ar h1
    cases h1' with|map _ b0 sh0 es0 ho0 hb0=>
    have h2':=e1.ar h2
    cases h2' with|pv _ _ _ _ h2'=>
    split at h
    ·rename_i sh es hr
     split at h
     ·rename_i hsh
      subst hsh
      split at h
      ·rename_i es' hput
       cases h
       obtain⟨b1,ents,clock,m1,m2,m3,m4⟩:=hH1.map r _ _ hr
       rw[hb0] at m1
       cases m1
       have hM:MR w (Im X μ hp1) (shOf P te) es ents.toList:=⟨by simpa using m3,fun k x e hx he=>m4 k x e hx (by simpa using he)⟩
       have fin:∀(ents':Array MapEntry) (clock':Nat),MR w (Im X μ hp1) (shOf P te) es' ents'.toList->(Instr.mapUpdate t (.map (some b0)) k y).run P w=.ok () { w with heap:=w.heap.setIfInBounds b0 (.map ents' clock') }->
         Out P b w X μ hp (do Instr.mapUpdate t (.map (some b0)) k y;pure .skip) .undef (hp1.set r (.map (shOf P te) es')):=by
        intro ents' clock' hM' hrun
        have oth:∀k,k≠b0->(w.heap.setIfInBounds b0 (.map ents' clock'))[k]? =w.heap[k]? :=fun k hk=>by rw[Array.getElem?_setIfInBounds_ne (Ne.symm hk)]
        have E:∀b,Ext b X μ hp1 w μ (hp1.set r (.map (shOf P te) es')) { w with heap:=w.heap.setIfInBounds b0 (.map ents' clock') }:=fun b=>
         Ext.setMap hr hb0 rfl rfl rfl (by simp) oth (fun cs t fr e=>by rw[m2] at e;cases e)
        exact zcp hrun (hH1.setMap hr hb0 (E 0) oth (by rw[Array.getElem?_setIfInBounds_self_of_lt (zaP m2)]) hM') (e1.trans (E b))
       rcases ziu hKK h2' h3p hy es ents.toList 0 es' hput hM with⟨a1,a2⟩|⟨j,f,v,a1,a2,a3,a5,a4⟩
       ·refine fin (ents.push { key:=k,val:=y,born:=clock }) (clock+1) (by simpa using a2 clock) ?_
        simp[Instr.mapUpdate,run_underlying ht,zdC m2,za7 _ hd hKK,Instr.findKey,run_underlying hd,a1,zgN _ m2]
       ·rw[Nat.zero_add] at a1
        refine fin (ents.modify j fun e=>{ e with key:=k,val:=y }) clock (by simpa using a4) ?_
        have hkeep:∀w:World,(Instr.keyThatStays k k).run P w=.ok k w:=by
         intro w
         simp[Instr.keyThatStays,a5]
        have hj:ents[j]? =some f:=by simpa using a2
        simp[Instr.mapUpdate,run_underlying ht,zdC m2,za7 _ hd hKK,Instr.findKey,run_underlying hd,a1,zgN _ m2,hj,a3,hkeep]
      ·cases h
     ·cases h
    ·cases h
  ·cases h
 ·cases h

theorem LR.inv1{x:Value}{vs:List AV}(h:LR w X μ hp vs [x]):∃a,vs=[a]/\AR w X μ hp a x:=by
 cases h with|cons h r=>cases r;exact⟨_,rfl,h⟩
theorem LR.inv2{x y:Value}{vs:List AV}(h:LR w X μ hp vs [x,y]):∃a b,vs=[a,b]/\AR w X μ hp a x/\AR w X μ hp b y:=by
 cases h with|cons h r=>obtain⟨u,rfl,h2⟩:=r.inv1;exact⟨_,_,rfl,h,h2⟩
theorem LR.inv3{x y z:Value}{vs:List AV}(h:LR w X μ hp vs [x,y,z]):∃a b c,vs=[a,b,c]/\AR w X μ hp a x/\AR w X μ hp b y/\AR w X μ hp c z:=by
 cases h with|cons h r=>obtain⟨u,v,rfl,h2,h3⟩:=r.inv2;exact⟨_,_,_,rfl,h,h2,h3⟩

theorem zeK{t:TypeId}(ht:P.underlying t=some .string)(s:List UInt8)(lo hi:Option Value)(l h:Nat)(hlo:lo=none/\l=0\/∃k,lo=some (.int k l))(hhi:hi=none/\h=s.length\/∃k,hi=some (.int k h))(h1:l<=h)(h2:h<=s.length):
  (Instr.sliceAt t (.string ⟨s.toArray⟩) lo hi none).run P w=.ok (.string ⟨((s.drop l).take (h - l)).toArray⟩) w:=by
 have hsz:(ByteArray.mk s.toArray).size=s.length:=by simp[ByteArray.size]
 have hex:(ByteArray.mk s.toArray).extract l h=ByteArray.mk ((s.drop l).take (h - l)).toArray:=by
  apply ByteArray.ext
  simp[List.extract_eq_take_drop]
 rcases hlo with⟨rfl,rfl⟩|⟨k,rfl⟩ <;> rcases hhi with⟨rfl,rfl⟩|⟨k',rfl⟩ <;>
  simp[Instr.sliceAt,Instr.slice,run_underlying ht,Instr.sliceBounds,Instr.sliceBound,asIntOf, *]

theorem znf{a b v:AV}(h:zcL false true [a,b]=some v):∃s1 s s2 k n,a=.pv s1 (.str s)/\b=.pv s2 (.int k n)/\(0<=n/\n<=s.length)/\v=.pv none (.str (s.take n.toNat)):=by
 unfold zcL at h
 split at h <;> simp_all
 exact⟨_,_,⟨rfl,rfl⟩,_,_,_,⟨rfl,rfl,rfl⟩,h.1,h.2.symm⟩
theorem zng{a b v:AV}(h:zcL true false [a,b]=some v):∃s1 s s2 k n,a=.pv s1 (.str s)/\b=.pv s2 (.int k n)/\(0<=n/\n<=s.length)/\v=.pv none (.str (s.drop n.toNat)):=by
 unfold zcL at h
 split at h <;> simp_all
 exact⟨_,_,⟨rfl,rfl⟩,_,_,_,⟨rfl,rfl,rfl⟩,h.1,h.2.symm⟩
theorem znh{a b c v:AV}(h:zcL true true [a,b,c]=some v):∃s1 s s2 k n s3 k' m,a=.pv s1 (.str s)/\b=.pv s2 (.int k n)/\c=.pv s3 (.int k' m)/\(0<=n/\n<=m/\m<=s.length)/\v=.pv none (.str ((s.drop n.toNat).take (m.toNat - n.toNat))):=by
 unfold zcL at h
 split at h <;> simp_all
 exact⟨_,_,⟨rfl,rfl⟩,_,_,_,⟨rfl,rfl,rfl⟩,_,_,_,⟨rfl,rfl,rfl⟩,h.1,h.2.symm⟩

theorem ziw{t:TypeId}{x:Value}{lo hi:Option Value}{rest:List Value}{vs:List AV}{v:AV}(ht:P.underlying t=some .string)(hr:rest=lo.toList++hi.toList)(hl:LR w X μ hp vs (x::rest))(h:zcL lo.isSome hi.isSome vs=some v):
  Yld P w X μ hp (do pure (.value (<-Instr.sliceAt t x lo hi none))) v:=by
 subst hr
 cases lo with
 |none=>cases hi with
  |none=>simp[zcL] at h
  |some y=>
   obtain⟨a,b,rfl,h1,h2⟩:=hl.inv2
   obtain⟨_,s,_,k,n,rfl,rfl,hb,rfl⟩:=znf h
   rw[h1.str_inv,h2.int_inv]
   have:=zeK (P:=P) (w:=w) ht s none (some (.int k n)) 0 n.toNat (.inl ⟨rfl,rfl⟩) (.inr ⟨k,by rw[Int.toNat_of_nonneg hb.1]⟩) (by omega) (by omega)
   simp only[List.drop_zero,Nat.sub_zero] at this
   exact zbF this (.mkStr _)
 |some z=>cases hi with
  |none=>
   obtain⟨a,b,rfl,h1,h2⟩:=hl.inv2
   obtain⟨_,s,_,k,n,rfl,rfl,hb,rfl⟩:=zng h
   rw[h1.str_inv,h2.int_inv]
   have:=zeK (P:=P) (w:=w) ht s (some (.int k n)) none n.toNat s.length (.inr ⟨k,by rw[Int.toNat_of_nonneg hb.1]⟩) (.inl ⟨rfl,rfl⟩) (by omega) (by omega)
   rw[List.take_of_length_le (by simp)] at this
   exact zbF this (.mkStr _)
  |some y=>
   obtain⟨a,b,c,rfl,h1,h2,h3⟩:=hl.inv3
   obtain⟨_,s,_,k,n,_,k',m,rfl,rfl,rfl,hb,rfl⟩:=znh h
   rw[h1.str_inv,h2.int_inv,h3.int_inv]
   have:=zeK (P:=P) (w:=w) ht s (some (.int k n)) (some (.int k' m)) n.toNat m.toNat (.inr ⟨k,by rw[Int.toNat_of_nonneg hb.1]⟩) (.inr ⟨k',by rw[Int.toNat_of_nonneg (by omega)]⟩) (by omega) (by omega)
   exact zbF this (.mkStr _)

theorem PR.bare{w:World}{I:Nat->Prop}{p:PV}{v:Value}(h:PR w I p v):PR w I p.bare v:=by
 unfold PV.bare
 split
 ·rename_i n q
  cases h with
  |agg _ vs hl hs hs'=>
   match vs,hl with
   |[u],_=>
    have h1:=hs 0 _ u rfl rfl
    have h2:=hs' 0 _ u rfl rfl
    have e:(Value.agg (cellsOf [u]).toArray)=u:=by
     cases u <;> simp[vshp] at h1
     simp[cellsOf,Value.cells]
    rw[e]
    exact h2
 ·exact h
theorem zix{t xt:TypeId}{d:TypeDesc}{z:AV}{ok:Bool}{x:Value}{vs:List AV}{v:AV}(ht:P.underlying t=some d)(hd:∀ms,d≠.interface ms)(hz:zaU P t=some z)(hl:LR w X μ hp vs [x])
  (h:zjI t (shOf P t) z ok vs=some v):Yld P w X μ hp (do pure (.value (<-Instr.typeAssert x xt t ok))) v:=by
 obtain⟨zv,z1,z2,z3⟩:=zbo (w:=w) (X:=X) (μ:=μ) (hp:=hp) hz
 have pair:∀{a:AV} {u:Value} (b:Bool),AR w X μ hp a u->AR w X μ hp (.tuple [a,.pv none (.bool b)]) (.tuple #[u,.bool b]):=fun{a u} b ha=>
  .tuple _ [u,.bool b] rfl (fun i c q hc hq=>by
   match i,hc,hq with
   |0,hc,hq=>simp at hc hq;subst hc;subst hq;exact ha
   |1,hc,hq=>simp at hc hq;subst hc;subst hq;exact .mkBool _)
 unfold zjI at h
 split at h
 ·rename_i s0 u s p
  obtain⟨y,e,h1⟩:=hl.one
  cases e
  cases h1 with|pv _ _ _ hs h1=>
  cases h1 with|iface _ _ _ vv hs1 h2=>
  split at h
  ·rename_i hu
   obtain⟨rfl,rfl⟩:=hu
   cases h
   have hrun:(Instr.typeAssert (.iface u vv) xt u ok).run P w=.ok (if ok=true then .tuple #[vv,.bool true] else vv) w:=by
    cases d <;> first|(exact absurd rfl (hd _))|(simp[Instr.typeAssert,run_underlying ht])
   cases ok
   ·exact zbF hrun (.pv _ _ _ hs1 h2.bare)
   ·exact zbF hrun (pair true (.pv _ _ _ hs1 h2.bare))
  ·split at h
   ·cases h
   ·rename_i hne
    cases ok
    ·cases h
    ·cases h
     have hrun:(Instr.typeAssert (.iface u vv) xt t true).run P w=.ok (.tuple #[zv,.bool false]) w:=by
      cases d <;> first|(exact absurd rfl (hd _))|(simp[Instr.typeAssert,run_underlying ht,hne,z1])
     exact zbF hrun (pair false z2)
 ·obtain⟨y,e,h1⟩:=hl.one
  cases e
  cases h1 with|pv _ _ _ hs h1=>
  cases h1
  cases ok
  ·cases h
  ·cases h
   have hrun:(Instr.typeAssert .nilIface xt t true).run P w=.ok (.tuple #[zv,.bool false]) w:=by
    cases d <;> first|(exact absurd rfl (hd _))|(simp[Instr.typeAssert,run_underlying ht,z1])
   exact zbF hrun (pair false z2)
 ·cases h

theorem zda(zc:Array Value):∀n:Nat,(madeCells zc (n*zc.size)).toList=(List.replicate n zc.toList).flatten
 |0=>by simp[madeCells]
 |n+1=>by
  rw[List.replicate_succ',List.flatten_append,<-zda zc n]
  apply List.ext_getElem?
  intro i
  have hs:(madeCells zc (n*zc.size)).toList.length=n*zc.size:=by simp[madeCells]
  have e:(n+1)*zc.size=n*zc.size+zc.size:=Nat.succ_mul _ _
  by_cases h:i<n*zc.size
  ·rw[List.getElem?_append_left (by omega)]
   simp[madeCells,h,show i<(n+1)*zc.size by omega]
  ·rw[List.getElem?_append_right (by omega),hs]
   by_cases h2:i<(n+1)*zc.size
   ·have hm:i % zc.size=i - n*zc.size:=by
     have:i=(i - n*zc.size)+n*zc.size:=by omega
     conv=>lhs;rw[this]
     rw[Nat.add_mul_mod_self_right,Nat.mod_eq_of_lt (by omega)]
    have hlt:i - n*zc.size<zc.size:=by omega
    simp[madeCells,h2,hm,hlt,getElem!_pos]
   ·have hge:¬i - n*zc.size<zc.size:=by omega
    simp[madeCells,h2]
    omega

theorem zcC(z:Value)(n:Nat):cellsOf (List.replicate n z)=(List.replicate n z.cells.toList).flatten:=by
 induction n with
 |zero=>rfl
 |succ n ih=>rw[List.replicate_succ,zaa,ih,List.replicate_succ,List.flatten_cons]

theorem ziy{z:Value}{n c:Nat}(h:n<=c):(madeCells z.cells (c*z.cells.size)).toList.take (n*z.cells.size)=cellsOf (List.replicate n z):=by
 rw[zda,zcC]
 have e:c=n+(c - n):=by omega
 rw[e,<-List.replicate_append_replicate,List.flatten_append,List.take_left']
 simp[List.length_flatten]

theorem zhz{b:Nat}{t e:TypeId}{z:PV}{x y:Value}{vs:List AV}{v:AV}{hp':Heap}(ht:P.underlying t=some (.slice e))(hok:okT P e=true)(hzo:zaZ P e=true)(hby:zbu P e=true)(hz:(zaU P e).bind pvOf=some z)
  (hH:HR w X μ hp)(hl:LR w X μ hp vs [x,y])(h:zhf (shOf P e) z hp vs=some (v,hp')):Out P b w X μ hp (do pure (.value (<-Instr.makeSlice t x y))) v hp':=by
 unfold zhf at h
 split at h
 ·rename_i s1 k1 n s2 k2 c
  obtain⟨u1,u2,eq,h1,h2⟩:=hl.two
  cases eq
  split at h
  ·rename_i hb
   obtain⟨hb0,hb1,hb2,hb3⟩:=hb
   cases h
   rw[h1.int_inv,h2.int_inv]
   cases hza:zaU P e with
   |none=>rw[hza] at hz;cases hz
   |some za=>
   rw[hza] at hz
   obtain⟨i,zv,hi,hiz,hsz,hzs⟩:=okE w hok hzo
   obtain⟨zv',z1,z2,z3⟩:=zbo (w:=w) (X:=X) (μ:=μ) (hp:=hp) hza
   have hzz:zv'=zv:=by
    simp only[zeroValue,typeInfo] at z1
    simp[hi,hiz] at z1
    exact z1.symm
   subst hzz
   have hzpr:PR w (Im X μ hp) z zv':=zcr w X μ hp _ _ _ _ hz z2
   have hzsh:vshp zv'=shOf P e:=by
    have:=z2.vshp z3
    unfold zaZ at hzo
    rw[hza] at hzo
    rw[this]
    simpa using hzo
   unfold zbu at hby
   rw[hi] at hby
   have hby':i.bytes<=1024:=by simpa using hby
   have hrun:=run_make (P:=P) w t e i zv' ht hi hiz k1 k2 n c hb0 hb1 (by
    unfold lim at hb2
    have:(i.bytes:Int)*c<=1024*1073741824:=Int.mul_le_mul (by omega) (by omega) (by omega) (by omega)
    omega) (by unfold lim at hb2;omega)
   rw[hsz,<-hzs] at hrun
   generalize hcells:madeCells zv'.cells (c.toNat*zv'.cells.size)=cells at hrun
   have hcsz:cells.size=c.toNat*(shOf P e).size:=by rw[<-hcells,size_madeCells,hzs]
   have E:∀b,Ext b X μ hp w (upd μ hp.length (some w.heap.size)) (hp++[.arr (shOf P e) (List.replicate n.toNat z) false]) (w.alloc (.cells cells e)):=fun b=>Ext.push _ _ (Ext.alloc b _) (fun k hk=>by cases hk;exact Nat.le_refl _)
   refine⟨.value (.slice (some ⟨w.heap.size,0,none⟩) n.toNat c.toNat),_,_,upd μ hp.length (some w.heap.size),by simp only[Sem.run_bind,hrun,Result.andThen_ok,Sem.run_pure],.inl rfl,?_,?_,E b⟩
   ·refine .sl _ _ _ _ _ _ _ (List.replicate n.toNat z) false zbx (by simp) ⟨by omega,by omega⟩ (fun _=>rfl) fun _=>⟨by simp,.inr ⟨w.heap.size,cells,e,zaf _ _ _,zaC w _,by rw[hcsz,Nat.zero_add],fun _=>by simp⟩⟩
   ·refine hH.push _ _ (Ext.alloc 0 _) (fun i k hi hk=>zaJ w _ (hH.out i k hi hk).2) (fun k hk=>by cases hk;exact⟨Nat.le_refl _,by simp⟩) (fun _ _ h=>by cases h) (fun s es fz h=> ?_) (fun _ _ h=>by cases h)
    cases h
    refine⟨hb3,.inr ⟨w.heap.size,cells,e,List.replicate n.toNat zv',rfl,zaC w _,by simp,fun k p u hp hu=> ?_,?_⟩⟩
    ·rw[List.getElem?_replicate] at hp hu
     split at hp
     ·rename_i hk
      rw[if_pos hk] at hu
      cases hp;cases hu
      exact⟨hzsh,(E 0).pr hzpr⟩
     ·cases hp
    ·rw[List.length_replicate,<-hcells,<-hzs,ziy (by omega)]
  ·cases h
 ·cases h
end Go.Am

/- Slices written out; clear; what a row of stores does. -/
namespace Go.Am
variable{P:Program} {w:World} {X:Xc P} {μ:Nat->Option Nat} {hp:Heap}

theorem zni{r b:Nat}{sh:Sh}{es es':List PV}{cs cs':Array Value}{t:TypeId}{vals':List Value}(hH:HR w X μ hp)(hr:hp[r]? =some (.arr sh es false))(hb:μ r=some b)(hw:w.heap[b]? =some (.cells cs t (0,0)))(hsz:cs'.size=cs.size)
  (hlen:es'.length=es.length)(hE:ER w (Im X μ hp) sh es' vals')(hc:cellsOf vals'=cs'.toList.take (es'.length*sh.size)):
  HR (w.setRow b cs') X μ (hp.set r (.arr sh es' false))/\∀b0,Ext b0 X μ hp w μ (hp.set r (.arr sh es' false)) (w.setRow b cs'):=by
 have E:∀b0,Ext b0 X μ hp w (upd μ r (μ r)) (hp.set r (.arr sh es' false)) (w.setRow b cs'):=fun b0=>
  Ext.setArr hr (by omega) (fun h=>by cases h) (fun _=>rfl) (fun k hk=>.inl hk) rfl rfl rfl (by simp[World.setRow]) (fun k hk hm=>setRow_other w b k _ (fun e=>hm rfl (by rw[e];exact hb))) (fun k cs0 t'' fr hk=>by
   by_cases e:k=b
   ·subst e
    rw[hw] at hk
    cases hk
    exact⟨_,setRow_heap w k _ _ t _ hw,hsz⟩
   ·exact⟨cs0,by rw[setRow_other w b k _ e];exact hk,rfl⟩)
 have H:HR (w.setRow b cs') X (upd μ r (μ r)) (hp.set r (.arr sh es' false)):=
  hH.setArr hr (E 0) (fun k hk hne=>setRow_other w b k _ (fun e=>hne (by rw[e];exact hb))) (fun k hk=>⟨.inl hk,by rw[hb] at hk;cases hk;simpa[World.setRow] using zaP hw⟩) (.inr ⟨b,_,t,vals',hb,setRow_heap w b _ _ t _ hw,hE.1,fun k q v hq hv=>⟨(hE.2 k q v hq hv).1,(E 0).pr (hE.2 k q v hq hv).2⟩,hc⟩)
 rw[zbf] at H
 refine⟨H,fun b0=> ?_⟩
 have:=E b0
 rw[zbf] at this
 exact this

theorem ziz{b n:Nat}{t e:TypeId}{parts:Array (Nat × Operand)}{ρ:Operand->Value}{vs:List AV}{v:AV}{hp':Heap}(ht:P.underlying t=some (.slice e))(hok:okT P e=true)(hz:zaZ P e=true)(hr:parts.toList.map (·.1)=List.range n)(hn:n*P.cellsOf e<=65536)
  (hH:HR w X μ hp)(hl:LR w X μ hp vs ((parts.toList.map (·.2)).map ρ))(h:zbi (shOf P e) hp vs=some (v,hp')):Out P b w X μ hp (do pure (.value (<-Instr.buildSlice t n (parts.map fun(x:Nat × Operand)=>(x.1,ρ x.2))))) v hp':=by
 unfold zbi at h
 split at h
 ·rename_i ps hp1 hf
  split at h
  ·rename_i es hs
   cases h
   obtain⟨e1,h1,h2⟩:=za9 b _ _ _ _ _ hf hH hl
   have hE:=zb5 hs h2
   obtain⟨r1,r2⟩:=zeH ht hok hz hr hn hE
   obtain⟨o1,o2,o3⟩:=zgL (b:=b) (t:=e) h1 hE r2
   exact⟨_,_,_,μ,by simp only[Sem.run_bind,r1,Result.andThen_ok,Sem.run_pure],.inl rfl,o1,o2,e1.trans o3⟩
  ·cases h
 ·cases h

theorem zlP{b n:Nat}{t e:TypeId}{parts:Array (Nat × Operand)}{ρ:Operand->Value}{vs:List AV}{v:AV}{hp':Heap}(ht:P.underlying t=some (.slice e))(hok:okT P e=true)(hz:zaZ P e=true)(hr:parts.toList.map (·.1)=List.range n)(hn:n*P.cellsOf e<=65536)
  (hH:HR w X μ hp)(hl:LR w X μ hp vs ((parts.toList.map (·.2)).map ρ))(h:zqY (shOf P e) hp vs=some (v,hp')):Out P b w X μ hp (do pure (.value (<-Instr.buildSlice t n (parts.map fun(x:Nat × Operand)=>(x.1,ρ x.2))))) v hp':=by
 unfold zqY at h
 split at h
 ·rename_i ps hp1 hf
  split at h
  ·rename_i es hs
   split at h
   ·rename_i hpos
    cases h
    obtain⟨e1,h1,h2⟩:=za9 b _ _ _ _ _ hf hH hl
    have hE:=zb5 hs h2
    obtain⟨r1,r2⟩:=zeH ht hok hz hr hn hE
    generalize hvals:(parts.toList.map (·.2)).map ρ=vals at hE r1
    have E:∀b,Ext b X μ hp1 w (upd μ hp1.length (some w.heap.size)) (hp1++[.arr (shOf P e) es false]) (w.alloc (.cells (cellsOf vals).toArray e)):=fun b=>Ext.push _ _ (Ext.alloc b _) (fun k hk=>by cases hk;exact Nat.le_refl _)
    have hcl:(cellsOf vals).length=es.length*(shOf P e).size:=hE.length
    refine⟨.value (.slice (some ⟨w.heap.size,0,none⟩) n n),_,_,upd μ hp1.length (some w.heap.size),by simp only[Sem.run_bind,r1,Result.andThen_ok,Sem.run_pure],.inl rfl,?_,?_,e1.trans (E b)⟩
    ·rw[<-r2]
     refine .sl _ _ _ _ _ _ _ es false zbx (Nat.le_refl _) ⟨Nat.le_refl _,by omega⟩ (fun _=>rfl) fun _=>⟨by simp,.inr ⟨w.heap.size,(cellsOf vals).toArray,e,zaf _ _ _,zaC w _,by simp[hcl],fun _=>by simp⟩⟩
    ·refine h1.push _ _ (Ext.alloc 0 _) (fun i k hi hk=>zaJ w _ (h1.out i k hi hk).2) (fun k hk=>by cases hk;exact⟨Nat.le_refl _,by simp⟩) (fun _ _ h=>by cases h) (fun s es' fz h=> ?_) (fun _ _ h=>by cases h)
     cases h
     exact⟨hpos,.inr ⟨w.heap.size,(cellsOf vals).toArray,e,vals,rfl,zaC w _,hE.1,fun k p u hp hu=>⟨(hE.2 k p u hp hu).1,(E 0).pr (hE.2 k p u hp hu).2⟩,by rw[List.take_of_length_le (by simp[hcl])]⟩⟩
   ·cases h
  ·cases h
 ·cases h

theorem zek{b n:Nat}{t e:TypeId}{parts:Array (Nat × Operand)}{ρ:Operand->Value}{vs:List AV}{v:AV}(ht:P.underlying t=some (.slice e))(hok:okT P e=true)(hz:zaZ P e=true)(hr:parts.toList.map (·.1)=List.range n)(hn:n*P.cellsOf e<=65536)
  (hH:HR w X μ hp)(hl:LR w X μ hp vs ((parts.toList.map (·.2)).map ρ))(h:zcl (shOf P e) vs=some v):Out P b w X μ hp (do pure (.value (<-Instr.buildSlice t n (parts.map fun(x:Nat × Operand)=>(x.1,ρ x.2))))) v hp:=by
 unfold zcl at h
 split at h
 ·rename_i ps hf
  split at h
  ·rename_i es hs
   cases h
   have hE:=zb5 hs (zbz _ _ _ hf hl)
   obtain⟨r1,r2⟩:=zeH ht hok hz hr hn hE
   obtain⟨o1,o2,o3⟩:=zgL (b:=b) (t:=e) hH hE r2
   exact⟨_,_,_,μ,by simp only[Sem.run_bind,r1,Result.andThen_ok,Sem.run_pure],.inl rfl,o1,o2,o3⟩
  ·cases h
 ·cases h

theorem zbO(z:Value)(n:Nat):(Builtin.zeroCells z.cells n).toList=cellsOf (List.replicate n z):=by
 rw[zcC]
 exact zda z.cells n

end Go.Am

/- One operation that calls nothing. -/
namespace Go.Am
variable{P:Program} {w:World} {X:Xc P} {μ:Nat->Option Nat} {hp:Heap}

theorem ziA{sh:Sh}{s v:AV}{lo:Int}{hi:Option Int}{x:Value}(h:aslice sh lo hi s=some v)(hs:AR w X μ hp s x):∃a len cap,x=.slice a len cap:=by
 unfold aslice at h
 split at h
 ·cases hs with|pv _ _ _ _ hq=>cases hq <;> exact⟨_,_,_,rfl⟩
 ·cases hs;exact⟨_,_,_,rfl⟩
 ·cases hs;exact⟨_,_,_,rfl⟩
 ·cases hs;exact⟨_,_,_,rfl⟩
 ·cases h

theorem zel{t e:TypeId}(ht:P.underlying t=some (.slice e))(hok:okT P e=true){s v:AV}{x:Value}{lo hi:Option Value}{l:Int}{h:Option Int}(hx:AR w X μ hp s x)(hlo:lo=none/\l=0\/∃k,lo=some (.int k l))(hhi:hi=none/\h=none\/∃k n,hi=some (.int k n)/\h=some n)
  (hs:aslice (shOf P e) l h s=some v):Yld P w X μ hp (do pure (.value (<-Instr.sliceAt t x lo hi none))) v:=by
 obtain⟨a,len,cap,rfl⟩:=ziA hs hx
 obtain⟨h1,h2,h3,h4,h5⟩:=zig hs hx
 have:=zna (P:=P) (w:=w) ht hok a len cap lo hi l.toNat ((h.map Int.toNat).getD len) (by
  rcases hlo with⟨rfl,rfl⟩|⟨k,rfl⟩
  ·exact .inl ⟨rfl,rfl⟩
  ·exact .inr ⟨k,by rw[Int.toNat_of_nonneg h1]⟩) (by
  rcases hhi with⟨rfl,rfl⟩|⟨k,n,rfl,rfl⟩
  ·exact .inl ⟨rfl,rfl⟩
  ·exact .inr ⟨k,by simp[Int.toNat_of_nonneg (h2 n rfl)]⟩) h3 h4
 exact zbF this h5

theorem zhA{sh:Sh}{a b v:AV}(h:zbr sh true false [a,b]=some v):∃s k l,b=.pv s (.int k l)/\aslice sh l none a=some v:=by
 unfold zbr at h
 split at h <;> simp_all
 exact⟨_,_,_,⟨rfl,rfl,rfl⟩,h⟩
theorem zhB{sh:Sh}{a b v:AV}(h:zbr sh false true [a,b]=some v):∃s k l,b=.pv s (.int k l)/\aslice sh 0 (some l) a=some v:=by
 unfold zbr at h
 split at h <;> simp_all
 exact⟨_,_,_,⟨rfl,rfl,rfl⟩,h⟩
theorem zhC{sh:Sh}{a b c v:AV}(h:zbr sh true true [a,b,c]=some v):∃s k l s' k' m,b=.pv s (.int k l)/\c=.pv s' (.int k' m)/\aslice sh l (some m) a=some v:=by
 unfold zbr at h
 split at h <;> simp_all
 exact⟨_,_,_,⟨rfl,rfl,rfl⟩,_,_,_,⟨rfl,rfl,rfl⟩,h⟩

theorem zjY{t e:TypeId}{x:Value}{lo hi:Option Value}{vs:List AV}{v:AV}(ht:P.underlying t=some (.slice e))(hok:okT P e=true)(hl:LR w X μ hp vs (x::(lo.toList++hi.toList)))(h:zbr (shOf P e) lo.isSome hi.isSome vs=some v):
  Yld P w X μ hp (do pure (.value (<-Instr.sliceAt t x lo hi none))) v:=by
 cases lo with
 |none=>cases hi with
  |none=>
   obtain⟨a,rfl,h1⟩:=hl.inv1
   exact zel ht hok h1 (.inl ⟨rfl,rfl⟩) (.inl ⟨rfl,rfl⟩) h
  |some y=>
   obtain⟨a,b,rfl,h1,h2⟩:=hl.inv2
   obtain⟨s,k,l,rfl,h⟩:=zhB h
   rw[h2.int_inv]
   exact zel ht hok h1 (.inl ⟨rfl,rfl⟩) (.inr ⟨k,l,rfl,rfl⟩) h
 |some z=>cases hi with
  |none=>
   obtain⟨a,b,rfl,h1,h2⟩:=hl.inv2
   obtain⟨s,k,l,rfl,h⟩:=zhA h
   rw[h2.int_inv]
   exact zel ht hok h1 (.inr ⟨k,rfl⟩) (.inl ⟨rfl,rfl⟩) h
  |some y=>
   obtain⟨a,b,c,rfl,h1,h2,h3⟩:=hl.inv3
   obtain⟨s,k,l,s',k',m,rfl,rfl,h⟩:=zhC h
   rw[h2.int_inv,h3.int_inv]
   exact zel ht hok h1 (.inr ⟨k,rfl⟩) (.inr ⟨k',m,rfl,rfl⟩) h
end Go.Am

/- More operations: checks of pointers and interfaces, slices cut to their length, stores beside reads. -/
namespace Go.Am
variable{P:Program} {w:World} {X:Xc P} {μ:Nat->Option Nat} {hp:Heap}

theorem zgt{x:Value}{vs:List AV}{v:AV}(hl:LR w X μ hp vs [x])(h:zfK vs=some v):(∃a,x=.pointer (some a))/\AR w X μ hp v x:=by
 unfold zfK at h
 split at h
 ·cases h
  obtain⟨_,e,h1⟩:=hl.one
  cases e
  refine⟨?_,h1⟩
  cases h1;exact⟨_,rfl⟩
 ·cases h
  obtain⟨_,e,h1⟩:=hl.one
  cases e
  refine⟨?_,h1⟩
  cases h1;exact⟨_,rfl⟩
 ·cases h
  obtain⟨_,e,h1⟩:=hl.one
  cases e
  refine⟨?_,h1⟩
  cases h1;exact⟨_,rfl⟩
 ·cases h
  obtain⟨_,e,h1⟩:=hl.one
  cases e
  refine⟨?_,h1⟩
  cases h1;exact⟨_,rfl⟩
 ·cases h

theorem zjZ{t:TypeId}(h:zed P t=true):∃ms,P.underlying t=some (.interface ms):=by
 unfold zed at h
 split at h
 ·exact⟨_,‹_›⟩
 ·cases h
theorem zlQ(t:TypeId){ms:Array (String × TypeId)}(ht:P.underlying t=some (.interface ms))(d:Nat):(Op.equalIn (d+1) t .nilIface .nilIface).run P w=.ok true w:=by simp[Op.equalIn,run_underlying ht]
theorem zlR(t:TypeId){ms:Array (String × TypeId)}(ht:P.underlying t=some (.interface ms))(u:TypeId)(a:Value)(d:Nat):(Op.equalIn (d+1) t (.iface u a) .nilIface).run P w=.ok false w:=by simp[Op.equalIn,run_underlying ht]
theorem ziB{op:BinOp}{t:TypeId}{x:Operand}{vx:Value}{b:Bool}(hop:zfM op=true)(ht:zed P t=true)(hv:(vx=.nilIface/\b=true)\/((∃u a,vx=.iface u a)/\b=false)):
  ((do eqGuard op t x (.const .nilIface) vx .nilIface;binOp op t vx .nilIface):Sem Value).run P w=.ok (.bool (if zc6 op=true then !b else b)) w:=by
 obtain⟨ms,hms⟩:=zjZ ht
 have e1:(Op.equal t .nilIface .nilIface).run P w=.ok true w:=zlQ t hms 9999
 have e2:∀u a,(Op.equal t (.iface u a) .nilIface).run P w=.ok false w:=fun u a=>zlR t hms u a 9999
 rcases hv with⟨rfl,rfl⟩|⟨⟨u,a,rfl⟩,rfl⟩
 ·cases op <;> first|(cases hop;done)|skip
  ·simp[eqGuard,binOp,zc6,e1]
  ·simp[eqGuard,binOp,zc6,e1]
 ·cases op <;> first|(cases hop;done)|skip
  ·simp[eqGuard,binOp,zc6,e2]
  ·simp[eqGuard,binOp,zc6,e2]
theorem zj0{op:BinOp}{t:TypeId}{x:Operand}{vx:Value}{vs:List AV}{v:AV}(hop:zfM op=true)(ht:zed P t=true)(hl:LR w X μ hp vs [vx])(h:zmU (zc6 op) vs=some v):
  Yld P w X μ hp (do pure (.value (<-(do eqGuard op t x (.const .nilIface) vx .nilIface;binOp op t vx .nilIface)))) v:=by
 unfold zmU at h
 split at h
 ·rename_i s0 tt s1 p0
  cases h
  obtain⟨_,e,h1⟩:=hl.one
  cases e
  cases h1 with|pv _ _ _ _ hq=>
  cases hq with|iface _ _ _ u _ _=>
  have:=ziB (P:=P) (w:=w) (x:=x) (vx:=.iface tt u) (b:=false) hop ht (.inr ⟨⟨_,_,rfl⟩,rfl⟩)
  refine⟨_,by rw[Sem.run_bind,this,Result.andThen_ok,Sem.run_pure],?_⟩
  cases hn:zc6 op <;> simp <;> exact .mkBool _
 ·cases h
  obtain⟨_,e,h1⟩:=hl.one
  cases e
  cases h1 with|pv _ _ _ _ hq=>
  cases hq
  have:=ziB (P:=P) (w:=w) (x:=x) (b:=true) hop ht (.inl ⟨rfl,rfl⟩)
  refine⟨_,by rw[Sem.run_bind,this,Result.andThen_ok,Sem.run_pure],?_⟩
  cases hn:zc6 op <;> simp <;> exact .mkBool _
 ·cases h

theorem zlS(t:TypeId){e:TypeId}(ht:P.underlying t=some (.slice e))(a:Addr)(n k d:Nat):(Op.equalIn (d+1) t (.slice (some a) n k) (.slice none 0 0)).run P w=.ok false w:=by simp[Op.equalIn,run_underlying ht]
theorem znj{op:BinOp}{t e:TypeId}{x:Operand}{a:Addr}{n k:Nat}(hop:zfM op=true)(ht:P.underlying t=some (.slice e)):
  ((do eqGuard op t x (.const (.slice none 0 0)) (.slice (some a) n k) (.slice none 0 0);binOp op t (.slice (some a) n k) (.slice none 0 0)):Sem Value).run P w=.ok (.bool (zc6 op)) w:=by
 have e1:(Op.equal t (.slice (some a) n k) (.slice none 0 0)).run P w=.ok false w:=zlS t ht a n k 9999
 cases op <;> first|(cases hop;done)|skip
 ·simp[eqGuard,binOp,zc6,e1]
 ·simp[eqGuard,binOp,zc6,e1]
theorem zj1{op:BinOp}{t e:TypeId}{x:Operand}{vx:Value}{vs:List AV}{v:AV}(hop:zfM op=true)(ht:P.underlying t=some (.slice e))(hl:LR w X μ hp vs [vx])(h:zmV (zc6 op) vs=some v):
  Yld P w X μ hp (do pure (.value (<-(do eqGuard op t x (.const (.slice none 0 0)) vx (.slice none 0 0);binOp op t vx (.slice none 0 0))))) v:=by
 have key:(∃a n k,vx=.slice (some a) n k)->v=.pv none (.bool (zc6 op))->Yld P w X μ hp (do pure (.value (<-(do eqGuard op t x (.const (.slice none 0 0)) vx (.slice none 0 0);binOp op t vx (.slice none 0 0))))) v:=by
  rintro⟨a,n,k,rfl⟩ rfl
  refine⟨_,by rw[Sem.run_bind,znj (x:=x) hop ht,Result.andThen_ok,Sem.run_pure],.mkBool _⟩
 unfold zmV at h
 split at h
 ·obtain⟨_,e,h1⟩:=hl.one
  cases e
  cases h1 with|pv _ _ _ _ hq=>
  cases hq
  cases h
  exact key ⟨_,_,_,rfl⟩ rfl
 ·obtain⟨_,e,h1⟩:=hl.one
  cases e
  cases h1 with|tsl _ _ a hq=>
  cases hq
  cases h
  exact key ⟨_,_,_,rfl⟩ rfl
 ·obtain⟨_,e,h1⟩:=hl.one
  cases e
  cases h1 with|sl _ _ _ _ _ a cap es fz ho hv hlc ha hc=>
  have:a.isSome=true:=ha (by omega)
  obtain⟨a',rfl⟩:=Option.isSome_iff_exists.1 this
  cases h
  exact key ⟨_,_,_,rfl⟩ rfl
 ·cases h

theorem zgO{t e:TypeId}(ht:P.underlying t=some (.slice e))(hok:okT P e=true)(a:Option Addr)(len cap:Nat)(lo:Option Value)(k k':IntKind)(l h:Nat)(hlo:lo=none/\l=0\/∃k,lo=some (.int k l))(h1:l<=h)(h2:h<=cap):
  (Instr.sliceAt t (.slice a len cap) lo (some (.int k h)) (some (.int k' h))).run P w=.ok (.slice (if h=l then a else a.map (·.add (l*(shOf P e).size))) (h - l) (h - l)) w:=by
 have hs:=za6 hok w
 rcases hlo with⟨rfl,rfl⟩|⟨k,rfl⟩ <;>
  simp[Instr.sliceAt,Instr.slice,run_underlying ht,Instr.sliceBounds,Instr.sliceBound,asIntOf, *]
theorem ziC{e:TypeId}{a:Option Addr}{cap len:Nat}{es:List PV}{sh:Sh}{l h:Nat}(hq:PR w (Im X μ hp) (.sl sh es) (.slice a len cap))(hsh:sh=shOf P e\/es=[])(h1:l<=h)(h2:h<=es.length):
  h<=cap/\AR w X μ hp (.tsl sh ((es.drop l).take (h - l))) (.slice (if h=l then a else a.map (·.add (l*(shOf P e).size))) (h - l) (h - l)):=by
 have hle:((es.drop l).take (h - l)).length=h - l:=by simp;omega
 cases hq with
 |nilsl=>
  have e1:h=0:=by simpa using h2
  subst e1
  have e2:l=0:=by omega
  subst e2
  exact⟨by omega,.tsl _ _ _ (by simpa using .nilsl _ _ _)⟩
 |sl sh es b o n cs t fr vals hl hI hb hs hs' hc hn=>
  refine⟨by omega,?_⟩
  by_cases e0:h=l
  ·subst e0
   simp only[Nat.sub_self,List.take_zero,if_true]
   exact .tsl _ _ _ (.nilsl _ _ _)
  ·have hne:es≠[]:=by rintro rfl;simp at h2;omega
   have hsh':sh=shOf P e:=by rcases hsh with h|h;exact h;exact absurd h hne
   rw[if_neg e0]
   simp only[Option.map,Addr.add_lit]
   rw[<-hsh']
   have hpp:∀(i:Nat) (p:PV) (v:Value),((es.drop l).take (h - l))[i]? =some p->((vals.drop l).take (h - l))[i]? =some v->vshp v=sh/\PR w (Im X μ hp) p v:=by
    intro i p v hi hv
    have hil:i<h - l:=by have:=(List.getElem?_eq_some_iff.1 hi).1;omega
    rw[List.getElem?_take_of_lt hil,List.getElem?_drop] at hi hv
    exact⟨hs (l+i) p v hi hv,hs' (l+i) p v hi hv⟩
   have key:=PR.sl (w:=w) (I:=Im X μ hp) sh ((es.drop l).take (h - l)) b (o+l*sh.size) (h - l) cs t fr ((vals.drop l).take (h - l)) (by simp;omega) hI hb (fun i p v hi hv=>(hpp i p v hi hv).1) (fun i p v hi hv=>(hpp i p v hi hv).2) ?_ (by omega)
   ·have:=AR.tsl sh ((es.drop l).take (h - l)) (some ⟨b,o+l*sh.size,none⟩) (X:=X) (μ:=μ) (hp:=hp) (w:=w) (by rw[hle] at key ⊢;exact key)
    rw[hle] at this
    exact this
   ·rw[zbG hl hs l (h - l) (by omega),hc,hle,List.drop_take,List.drop_drop,List.take_take]
    congr 1
    have:(h - l)*sh.size+l*sh.size<=es.length*sh.size:=by rw[<-Nat.add_mul];exact Nat.mul_le_mul_right _ (by omega)
    omega
theorem ziD{t e:TypeId}{x m h0:Value}{lo:Option Value}{vs:List AV}{v:AV}(ht:P.underlying t=some (.slice e))(hok:okT P e=true)(hl:LR w X μ hp vs (x::(lo.toList++[h0,m])))(h:zeD (shOf P e) lo.isSome vs=some v):
  Yld P w X μ hp (do pure (.value (<-Instr.sliceAt t x lo (some h0) (some m)))) v:=by
 cases lo with
 |none=>
  simp only[Option.toList,List.nil_append] at hl
  change zeD (shOf P e) false vs=some v at h
  unfold zeD at h
  split at h
  ·rename_i s0 sh es s1 k1 n1 s2 k2 n2 _
   split at h
   ·rename_i hh
    cases h
    obtain⟨c1,c2,c3,c4⟩:=hh
    obtain⟨_,_,_,e0,h1,h2,h3⟩:=hl.three
    cases e0
    cases h1 with|pv _ _ _ _ hq=>
    cases h2.int_inv
    cases h3.int_inv
    subst c3
    obtain⟨n,rfl⟩:=Int.eq_ofNat_of_zero_le c2
    obtain⟨a,len,cap,rfl⟩:∃a len cap,x=.slice a len cap:=by cases hq <;> exact⟨_,_,_,rfl⟩
    obtain⟨g1,g2⟩:=ziC (e:=e) (l:=0) (h:=n) hq c1 (Nat.zero_le _) (by omega)
    have:=zgO (w:=w) ht hok a len cap none k1 k2 0 n (.inl ⟨rfl,rfl⟩) (Nat.zero_le _) g1
    exact zbF this (by simpa using g2)
   ·cases h
  all_goals (first|(cases h;done)|simp_all)
 |some l0=>
  simp only[Option.toList,List.cons_append,List.nil_append] at hl
  change zeD (shOf P e) true vs=some v at h
  unfold zeD at h
  have chk:∀(a:Option Addr) (len cap:Nat) (k1 k2 k3:IntKind) (n1 n2 n3:Int),x=.slice a len cap->len<=cap->l0=.int k1 n1->h0=.int k2 n2->m=.int k3 n3->(0<=n1/\n1<=n2/\n2<=n3/\n3<=len)->some AV.undef=some v->Yld P w X μ hp (do pure (.value (<-Instr.sliceAt t x (some l0) (some h0) (some m)))) v:=by
   rintro a len cap k1 k2 k3 n1 n2 n3 rfl hlc rfl rfl rfl ⟨g1,g2,g3,g4⟩ hv
   cases hv
   obtain⟨l,rfl⟩:=Int.eq_ofNat_of_zero_le g1
   obtain⟨n,rfl⟩:=Int.eq_ofNat_of_zero_le (by omega:0<=n2)
   obtain⟨q,rfl⟩:=Int.eq_ofNat_of_zero_le (by omega:0<=n3)
   have hs:=za6 hok w
   have b1:l<=n:=by omega
   have b2:n<=q:=by omega
   have b3:q<=cap:=by omega
   have hrun:(Instr.sliceAt t (.slice a len cap) (some (.int k1 l)) (some (.int k2 n)) (some (.int k3 q))).run P w=.ok (.slice (if q=l then a else a.map (·.add (l*(shOf P e).size))) (n - l) (q - l)) w:=by
    simp[Instr.sliceAt,Instr.slice,run_underlying ht,Instr.sliceBounds,Instr.sliceBound,asIntOf, *]
   exact zbF hrun (.undef _ (fun b h=>by cases h))
  split at h
  ·simp_all
  ·split at h
   ·rename_i hh
    cases hl with|cons h1 hl=>
    obtain⟨_,_,_,e0,h2,h3,h4⟩:=hl.three
    cases e0
    cases h1 with|sl _ _ _ _ _ a cap es fz ho hv hlc ha hc=>
    exact chk _ _ _ _ _ _ _ _ _ rfl hlc.1 h2.int_inv h3.int_inv h4.int_inv hh h
   ·cases h
  ·split at h
   ·rename_i hh
    cases hl with|cons h1 hl=>
    obtain⟨_,_,_,e0,h2,h3,h4⟩:=hl.three
    cases e0
    cases h1 with|slv _ _ _ _ _ a cap n ho hv hlc ha hc=>
    exact chk _ _ _ _ _ _ _ _ _ rfl hlc.1 h2.int_inv h3.int_inv h4.int_inv hh h
   ·cases h
  ·rename_i s0 sh es s1 k1 n1 s2 k2 n2 s3 k3 n3 _
   split at h
   ·rename_i hh
    cases h
    obtain⟨c1,c2,c3,c4,c5⟩:=hh
    cases hl with|cons h1 hl=>
    obtain⟨_,_,_,e0,h2,h3,h4⟩:=hl.three
    cases e0
    cases h1 with|pv _ _ _ _ hq=>
    cases h2.int_inv
    cases h3.int_inv
    cases h4.int_inv
    subst c4
    obtain⟨l,rfl⟩:=Int.eq_ofNat_of_zero_le c2
    obtain⟨n,rfl⟩:=Int.eq_ofNat_of_zero_le (by omega:0<=n2)
    obtain⟨a,len,cap,rfl⟩:∃a len cap,x=.slice a len cap:=by cases hq <;> exact⟨_,_,_,rfl⟩
    obtain⟨g1,g2⟩:=ziC (e:=e) (l:=l) (h:=n) hq c1 (by omega) (by omega)
    have:=zgO (w:=w) ht hok a len cap (some (.int k1 l)) k2 k3 l n (.inr ⟨_,rfl⟩) (by omega) g1
    exact zbF this (by simpa using g2)
   ·cases h
  all_goals (first|(cases h;done)|simp_all)

theorem beq_pv:(∀a b:PV,PV.beq a b=true->a=b)/\(∀a b:List (Sh × PV),PV.beqc a b=true->a=b)/\(∀a b:List PV,PV.beqs a b=true->a=b):=by
 have key:∀n,(∀a b:PV,SizeOf.sizeOf a<n->PV.beq a b=true->a=b)/\(∀a b:List (Sh × PV),SizeOf.sizeOf a<n->PV.beqc a b=true->a=b)/\(∀a b:List PV,SizeOf.sizeOf a<n->PV.beqs a b=true->a=b):=by
  intro n
  induction n with
  |zero=>exact⟨fun a b h=>by omega,fun a b h=>by omega,fun a b h=>by omega⟩
  |succ n ih=>
   obtain⟨i1,i2,i3⟩:=ih
   refine⟨?_,?_,?_⟩
   ·intro a b hs h
    unfold PV.beq at h
    split at h <;> (try simp only[Bool.and_eq_true,decide_eq_true_eq,beq_iff_eq] at h) <;> (try (cases h;done)) <;> (try rfl)
    ·rw[h]
    ·rw[h.1,h.2]
    ·rw[h]
    ·rw[i2 _ _ (by simp at hs;omega) h]
    ·rw[h.1,i3 _ _ (by simp at hs;omega) h.2]
    ·rw[Nat.eq_of_beq_eq_true h]
    ·rw[h.1.1,h.1.2,i1 _ _ (by simp at hs;omega) h.2]
   ·intro a b hs h
    unfold PV.beqc at h
    split at h <;> (try simp only[Bool.and_eq_true,decide_eq_true_eq] at h) <;> (try (cases h;done)) <;> (try rfl)
    rename_i x a y b
    obtain⟨x1,x2⟩:=x
    obtain⟨y1,y2⟩:=y
    simp only[List.cons.sizeOf_spec,Prod.mk.sizeOf_spec] at hs
    simp only at h
    rw[h.1.1,i1 _ _ (by omega) h.1.2,i2 _ _ (by omega) h.2]
   ·intro a b hs h
    unfold PV.beqs at h
    split at h <;> (try simp only[Bool.and_eq_true] at h) <;> (try (cases h;done)) <;> (try rfl)
    simp only[List.cons.sizeOf_spec] at hs
    rw[i1 _ _ (by omega) h.1,i3 _ _ (by omega) h.2]
 exact⟨fun a b=>(key _).1 a b (Nat.lt_succ_self _),fun a b=>(key _).2.1 a b (Nat.lt_succ_self _),fun a b=>(key _).2.2 a b (Nat.lt_succ_self _)⟩
theorem beq_av:(∀a b:AV,AV.beq a b=true->a=b)/\(∀a b:List (Sh × AV),AV.beqc a b=true->a=b)/\(∀a b:List AV,AV.beqs a b=true->a=b):=by
 have key:∀n,(∀a b:AV,SizeOf.sizeOf a<n->AV.beq a b=true->a=b)/\(∀a b:List (Sh × AV),SizeOf.sizeOf a<n->AV.beqc a b=true->a=b)/\(∀a b:List AV,SizeOf.sizeOf a<n->AV.beqs a b=true->a=b):=by
  intro n
  induction n with
  |zero=>exact⟨fun a b h=>by omega,fun a b h=>by omega,fun a b h=>by omega⟩
  |succ n ih=>
   obtain⟨i1,i2,i3⟩:=ih
   obtain⟨p1,p2,p3⟩:=beq_pv
   have ne:∀{a b:Nat},Nat.beq a b=true->a=b:=fun h=>Nat.eq_of_beq_eq_true h
   refine⟨?_,?_,?_⟩
   ·intro a b hs h
    unfold AV.beq at h
    split at h <;> (try simp only[Bool.and_eq_true,decide_eq_true_eq] at h) <;> (try (cases h;done)) <;> (try rfl)
    ·rw[h.1,p1 _ _ h.2]
    ·rw[i2 _ _ (by simp at hs;omega) h]
    ·rw[h.1,p3 _ _ h.2]
    ·rw[h.1.1.1.1,ne h.1.1.1.2,ne h.1.1.2,ne h.1.2,ne h.2]
    ·rw[ne h.1,ne h.2]
    ·rw[h.1.1.1.1,ne h.1.1.1.2,ne h.1.1.2,ne h.1.2,ne h.2]
    ·rw[h.1.1,p1 _ _ h.1.2,ne h.2]
    ·rw[ne h]
    ·rw[ne h]
    ·simp at hs
     rw[ne h.1.1,i3 _ _ (by omega) h.1.2,i3 _ _ (by omega) h.2]
    ·rw[h.1,i1 _ _ (by simp at hs;omega) h.2]
    ·rw[i3 _ _ (by simp at hs;omega) h]
    ·rw[h.1.1.1.1,ne h.1.1.1.2,ne h.1.1.2,ne h.1.2,ne h.2]
    ·rw[h.1.1.1.1,ne h.1.1.1.2,ne h.1.1.2,ne h.1.2,ne h.2]
    ·rw[h]
   ·intro a b hs h
    unfold AV.beqc at h
    split at h <;> (try simp only[Bool.and_eq_true,decide_eq_true_eq] at h) <;> (try (cases h;done)) <;> (try rfl)
    rename_i x a y b
    obtain⟨x1,x2⟩:=x
    obtain⟨y1,y2⟩:=y
    simp only[List.cons.sizeOf_spec,Prod.mk.sizeOf_spec] at hs
    simp only at h
    rw[h.1.1,i1 _ _ (by omega) h.1.2,i2 _ _ (by omega) h.2]
   ·intro a b hs h
    unfold AV.beqs at h
    split at h <;> (try simp only[Bool.and_eq_true] at h) <;> (try (cases h;done)) <;> (try rfl)
    simp only[List.cons.sizeOf_spec] at hs
    rw[i1 _ _ (by omega) h.1,i3 _ _ (by omega) h.2]
 exact⟨fun a b=>(key _).1 a b (Nat.lt_succ_self _),fun a b=>(key _).2.1 a b (Nat.lt_succ_self _),fun a b=>(key _).2.2 a b (Nat.lt_succ_self _)⟩
theorem zfA:∀{a b:Heap},Heap.beq a b=true->a=b
 |[],[],_=>rfl
 |[],_::_,h=>by cases h
 |_::_,[],h=>by cases h
 |x::a,y::b,h=>by
  have ne:∀{a b:Nat},Nat.beq a b=true->a=b:=fun h=>Nat.eq_of_beq_eq_true h
  have frs:∀a b:Fr,Fr.beq a b=true->a=b:=by
   intro a
   induction a with
   |nil=>intro b h;cases b;rfl;cases h
   |cons x a ih=>
    intro b h
    cases b with
    |nil=>cases h
    |cons y b=>
     simp only[Fr.beq,Bool.and_eq_true] at h
     obtain⟨x1,x2⟩:=x
     obtain⟨y1,y2⟩:=y
     have e1:x1=y1:=ne h.1.1
     have e2:x2=y2:=beq_av.1 _ _ h.1.2
     rw[e1,e2,ih _ h.2]
  have ms:∀a b:List (PV × PV),PV.beqm a b=true->a=b:=by
   intro a
   induction a with
   |nil=>intro b h;cases b;rfl;cases h
   |cons x a ih=>
    intro b h
    cases b with
    |nil=>cases h
    |cons y b=>
     simp only[PV.beqm,Bool.and_eq_true] at h
     obtain⟨x1,x2⟩:=x
     obtain⟨y1,y2⟩:=y
     have e1:x1=y1:=beq_pv.1 _ _ h.1.1
     have e2:x2=y2:=beq_pv.1 _ _ h.1.2
     rw[e1,e2,ih _ h.2]
  simp only[Heap.beq,Bool.and_eq_true] at h
  rw[zfA h.2]
  congr 1
  have h1:=h.1
  unfold AObj.beq at h1
  split at h1 <;> (try simp only[Bool.and_eq_true,decide_eq_true_eq,beq_iff_eq] at h1) <;> (try (cases h1;done))
  ·rw[h1.1,beq_av.1 _ _ h1.2]
  ·rw[h1.1.1,beq_pv.2.2 _ _ h1.1.2,h1.2]
  ·rw[h1.1,beq_av.2.2 _ _ h1.2]
  ·rw[h1.1,ms _ _ h1.2]
  ·rw[ne h1.1.1.1,h1.1.1.2,frs _ _ h1.1.2,h1.2]
theorem zj2{a b:Heap}(h:zhg a b=true):a=b:=zfA h
end Go.Am

/- What is proved: copying rows of cells; two slices of different blocks do not overlap. -/
namespace Go.Am
open Go
variable{P:Program}
theorem zhD(w:World)(dT sT ty elem:TypeId)(g o dLen dCap:Nat)(a:Addr)(sLen sCap k:Nat)(cur:Array Value)(t:TypeId)(cs:List Value)
  (hu:P.underlying dT=some (.slice elem))(hs:(P.info? elem).map (·.size)=some k)
  (hg:w.heap[g]? =some (.cells cur t (0,0)))(hn:cs.length=Nat.min sLen dLen*k)
  (hsrc:∀j v,cs[j]? =some v->w.cell? (a.add j)=some v)(hfit:o+cs.length<=cur.size)(h1:∀v∈cs,v.oneCell'=true):
  (Builtin.copy_ #[dT,sT] ty #[.slice (some ⟨g,o,none⟩) dLen dCap,.slice (some a) sLen sCap]).run P w=
   .ok (goInt (Nat.min sLen dLen)) (w.setRow g (cur.toList.take o++cs++cur.toList.drop (o+cs.length)).toArray):=by
 have hl:=run_loadCells_list (P:=P) w a cs hsrc
 have hst:=run_storeCells_at P g o t cs 0 cur w hg (by simpa using hfit) h1
 cases hq:P.info? elem with
 |none=>simp[hq] at hs
 |some i=>
  have hi:i.size=k:=by simpa[hq] using hs
  simp[Builtin.copy_,run_underlying hu,Builtin.lenOf,Builtin.firstCells,sizeOf,typeInfo,hq,hi,<-hn,hl,hst]
end Go.Am

/- Arrays of the run's own whose elements show references: written out, made, appended to. -/
namespace Go.Am
variable{P:Program} {w:World} {X:Xc P} {μ:Nat->Option Nat} {hp:Heap}

def EV(w:World)(X:Xc P)(μ:Nat->Option Nat)(hp:Heap)(sh:Sh)(es:List AV)(vals:List Value):Prop:=
 es.length=vals.length/\∀(k:Nat) (a:AV) (v:Value),es[k]? =some a->vals[k]? =some v->(vshp v=sh/\Flat v)/\AR w X μ hp a v
theorem EV.val{sh:Sh}{es:List AV}{vals:List Value}(h:EV w X μ hp sh es vals){v:Value}(hv:v∈vals):vshp v=sh/\Flat v:=by
 obtain⟨j,hj⟩:=List.mem_iff_getElem?.1 hv
 have hjl:=(List.getElem?_eq_some_iff.1 hj).1
 have hjl':j<es.length:=by rw[h.1];exact hjl
 exact(h.2 j es[j] v (List.getElem?_eq_getElem hjl') hj).1
theorem EV.sizes{sh:Sh}{es:List AV}{vals:List Value}(h:EV w X μ hp sh es vals):∀v∈vals,v.cells.size=sh.size:=fun v hv=>by rw[zai,(h.val hv).1]
theorem EV.flat{sh:Sh}{es:List AV}{vals:List Value}(h:EV w X μ hp sh es vals):∀c∈cellsOf vals,c.oneCell'=true:=by
 intro c hc
 obtain⟨j,v,hj,hcv⟩:=zbk hc
 exact(h.val (List.mem_of_getElem? hj)).2 c hcv
theorem EV.length{sh:Sh}{es:List AV}{vals:List Value}(h:EV w X μ hp sh es vals):(cellsOf vals).length=es.length*sh.size:=by rw[zcq h.sizes,h.1]
theorem EV.append{sh:Sh}{es fs:List AV}{vals us:List Value}(h:EV w X μ hp sh es vals)(k:EV w X μ hp sh fs us):EV w X μ hp sh (es++fs) (vals++us):=by
 refine⟨by simp[h.1,k.1],fun i p v hp hv=> ?_⟩
 rcases Nat.lt_or_ge i es.length with hi|hi
 ·rw[List.getElem?_append_left hi] at hp
  rw[List.getElem?_append_left (by rw[<-h.1];exact hi)] at hv
  exact h.2 i p v hp hv
 ·rw[List.getElem?_append_right hi] at hp
  rw[List.getElem?_append_right (by rw[<-h.1];exact hi),<-h.1] at hv
  exact k.2 _ p v hp hv
theorem EV.take{sh:Sh}{es:List AV}{vals:List Value}(h:EV w X μ hp sh es vals)(n:Nat):EV w X μ hp sh (es.take n) (vals.take n):=by
 refine⟨by simp[h.1],fun i p v hp hv=> ?_⟩
 have hi:i<n:=by have:=(List.getElem?_eq_some_iff.1 hp).1;simp at this;omega
 rw[List.getElem?_take_of_lt hi] at hp hv
 exact h.2 i p v hp hv
theorem EV.drop{sh:Sh}{es:List AV}{vals:List Value}(h:EV w X μ hp sh es vals)(n:Nat):EV w X μ hp sh (es.drop n) (vals.drop n):=by
 refine⟨by simp[h.1],fun i p v hp hv=> ?_⟩
 rw[List.getElem?_drop] at hp hv
 exact h.2 _ p v hp hv
theorem EV.nil{sh:Sh}:EV w X μ hp sh [] []:=⟨rfl,by simp⟩
theorem EV.ext{b0:Nat}{μ':Nat->Option Nat}{hp':Heap}{w':World}{sh:Sh}{es:List AV}{vals:List Value}(E:Ext b0 X μ hp w μ' hp' w')(h:EV w X μ hp sh es vals):EV w' X μ' hp' sh es vals:=
 ⟨h.1,fun k p v hp hv=>⟨(h.2 k p v hp hv).1,E.ar (h.2 k p v hp hv).2⟩⟩
theorem EV.view{sh:Sh}{es:List AV}{vals:List Value}(h:EV w X μ hp sh es vals)(a b:Nat)(hab:a+b<=es.length):cellsOf ((vals.drop a).take b)=((cellsOf vals).drop (a*sh.size)).take (b*sh.size):=by
 have hl:(List.replicate vals.length PV.nilptr).length=vals.length:=List.length_replicate
 refine zbG hl (fun i p v _ hv=>(h.val (List.mem_of_getElem? hv)).1) a b (by rw[hl,<-h.1];exact hab)
theorem EV.cells_take{sh:Sh}{es:List AV}{vals:List Value}(h:EV w X μ hp sh es vals)(n:Nat)(hn:n<=es.length):cellsOf (vals.take n)=(cellsOf vals).take (n*sh.size):=by
 have:=h.view 0 n (by omega)
 simpa using this
theorem EV.cells_drop{sh:Sh}{es:List AV}{vals:List Value}(h:EV w X μ hp sh es vals)(n:Nat)(hn:n<=es.length):cellsOf (vals.drop n)=(cellsOf vals).drop (n*sh.size):=by
 have h1:=(h.drop n).length
 have:=h.view n (es.length - n) (by omega)
 rw[List.take_of_length_le (by simp[h.1]),List.take_of_length_le] at this
 ·exact this
 ·rw[List.length_drop,h.length,<-Nat.sub_mul]
  exact Nat.le_refl _
theorem ER.ev{sh:Sh}{es:List PV}{vals:List Value}(h:ER w (Im X μ hp) sh es vals):EV w X μ hp sh (es.map (.pv sh)) vals:=by
 refine⟨by simp[h.1],fun k a v ha hv=> ?_⟩
 simp only[List.getElem?_map,Option.map_eq_some_iff] at ha
 obtain⟨p,hp,rfl⟩:=ha
 obtain⟨h1,h2⟩:=h.2 k p v hp hv
 exact⟨⟨h1,h2.flat⟩,.pv _ _ _ h1 h2⟩
theorem EV.zsX{sh:Sh}:∀{vs:List AV} {vals:List Value},LR w X μ hp vs vals->vs.all (fun v=>v.plain && decide (v.shp=sh))=true->EV w X μ hp sh vs vals:=by
 intro vs vals hl ha
 refine⟨hl.length,fun k a v hk hv=> ?_⟩
 have h1:=List.all_eq_true.1 ha a (List.mem_of_getElem? hk)
 simp only[Bool.and_eq_true,decide_eq_true_eq] at h1
 have h2:=hl.get k a v hk hv
 exact⟨⟨by rw[h2.vshp h1.1,h1.2],h2.flat h1.1⟩,h2⟩

theorem zhE(b:Nat){sh:Sh}{es:List AV}{vals:List Value}{cells:Array Value}{t:TypeId}{w1:World}(hpos:0<sh.size)(hH:HR w X μ hp)(hE:EV w X μ hp sh es vals)(hEx:∀b,Ext b X μ hp w μ hp w1)(hold:∀k,k<w.heap.size->w1.heap[k]? =w.heap[k]?)(hn:w1.heap[w.heap.size]? =some (.cells cells t (0,0)))
  (hc:cellsOf vals=cells.toList.take (es.length*sh.size))(cap:Nat)(hcap:es.length<=cap)(hsz:cap*sh.size=cells.size):
  HR w1 X (upd μ hp.length (some w.heap.size)) (hp++[.arv sh es])/\Ext b X μ hp w (upd μ hp.length (some w.heap.size)) (hp++[.arv sh es]) w1/\
   AR w1 X (upd μ hp.length (some w.heap.size)) (hp++[.arv sh es]) (.slv sh hp.length es.length 0 es.length) (.slice (some ⟨w.heap.size,0,none⟩) es.length cap):=by
 have E:∀b,Ext b X μ hp w (upd μ hp.length (some w.heap.size)) (hp++[.arv sh es]) w1:=fun b=>Ext.push _ _ (hEx b) (fun k hk=>by cases hk;exact Nat.le_refl _)
 refine⟨?_,E b,?_⟩
 ·refine hH.push _ _ (hEx 0) (fun i k hi hk=>hold k (hH.out i k hi hk).2) (fun k hk=>by cases hk;exact⟨Nat.le_refl _,zaP hn⟩) (fun _ _ h=>by cases h) (fun _ _ _ h=>by cases h) (fun _ _ h=>by cases h) (fun _ _ _ _ h=>by cases h) (fun s es' h=> ?_)
  cases h
  exact⟨hpos,w.heap.size,cells,t,vals,rfl,hn,hE.1,(hE.ext (E 0)).2,hc⟩
 ·refine .slv _ _ _ _ _ _ _ es.length (by rw[zbx];rfl) (Nat.le_refl _) ⟨hcap,by omega⟩ (fun _=>rfl) fun _=>⟨by omega,w.heap.size,cells,t,zaf _ _ _,hn,by rw[Nat.zero_add];exact hsz,fun _=>by simp⟩

theorem zj3{b n:Nat}{t e:TypeId}{parts:Array (Nat × Operand)}{ρ:Operand->Value}{vs:List AV}{v:AV}{hp':Heap}(ht:P.underlying t=some (.slice e))(hok:okT P e=true)(hz:zaZ P e=true)(hr:parts.toList.map (·.1)=List.range n)(hn:n*P.cellsOf e<=65536)
  (hH:HR w X μ hp)(hl:LR w X μ hp vs ((parts.toList.map (·.2)).map ρ))(h:zdX (shOf P e) hp vs=some (v,hp')):Out P b w X μ hp (do pure (.value (<-Instr.buildSlice t n (parts.map fun(x:Nat × Operand)=>(x.1,ρ x.2))))) v hp':=by
 unfold zdX at h
 split at h
 ·rename_i hh
  obtain⟨hpos,hall⟩:=hh
  cases h
  have hE:=EV.zsX hl hall
  obtain⟨r1,r2⟩:=zfX (w:=w) ht hok hz hr hn hE.sizes
  generalize hvals:(parts.toList.map (·.2)).map ρ=vals at hE r1 r2
  have hcl:=hE.length
  obtain⟨k1,k2,k3⟩:=zhE b (w1:=w.alloc (.cells (cellsOf vals).toArray e)) (t:=e) hpos hH hE (fun b=>Ext.alloc b _) (fun k hk=>zaJ w _ hk) (zaC w _) (by rw[List.take_of_length_le (by simp[hcl])]) vs.length (Nat.le_refl _) (by simp[hcl])
  have e2:vs.length=n:=hE.1.trans r2
  refine⟨.value (.slice (some ⟨w.heap.size,0,none⟩) n n),_,_,_,by simp only[Sem.run_bind,r1,Result.andThen_ok,Sem.run_pure],.inl rfl,?_,k1,k2⟩
  rw[e2] at k3 ⊢
  exact k3
 ·cases h

theorem zgu{b:Nat}{t e:TypeId}{z:AV}{x y:Value}{vs:List AV}{v:AV}{hp':Heap}(ht:P.underlying t=some (.slice e))(hok:okT P e=true)(hzo:zaZ P e=true)(hby:zbu P e=true)(hz:zaU P e=some z)
  (hH:HR w X μ hp)(hl:LR w X μ hp vs [x,y])(h:zbQ (shOf P e) z hp vs=some (v,hp')):Out P b w X μ hp (do pure (.value (<-Instr.makeSlice t x y))) v hp':=by
 unfold zbQ at h
 split at h
 ·rename_i s1 k1 n s2 k2 c
  obtain⟨u1,u2,eq,h1,h2⟩:=hl.two
  cases eq
  split at h
  ·rename_i hb
   obtain⟨hb0,hb1,hb2,hb3⟩:=hb
   cases h
   rw[h1.int_inv,h2.int_inv]
   obtain⟨i,zv,hi,hiz,hsz,hzs⟩:=okE w hok hzo
   obtain⟨zv',z1,z2,z3⟩:=zbo (w:=w) (X:=X) (μ:=μ) (hp:=hp) hz
   have hzz:zv'=zv:=by
    simp only[zeroValue,typeInfo] at z1
    simp[hi,hiz] at z1
    exact z1.symm
   subst hzz
   have hzsh:vshp zv'=shOf P e:=by
    have:=z2.vshp z3
    unfold zaZ at hzo
    rw[hz] at hzo
    rw[this]
    simpa using hzo
   unfold zbu at hby
   rw[hi] at hby
   have hby':i.bytes<=1024:=by simpa using hby
   have hrun:=run_make (P:=P) w t e i zv' ht hi hiz k1 k2 n c hb0 hb1 (by
    unfold lim at hb2
    have:(i.bytes:Int)*c<=1024*1073741824:=Int.mul_le_mul (by omega) (by omega) (by omega) (by omega)
    omega) (by unfold lim at hb2;omega)
   rw[hsz,<-hzs] at hrun
   generalize hcells:madeCells zv'.cells (c.toNat*zv'.cells.size)=cells at hrun
   have hcsz:cells.size=c.toNat*(shOf P e).size:=by rw[<-hcells,size_madeCells,hzs]
   have hE:EV w X μ hp (shOf P e) (List.replicate n.toNat z) (List.replicate n.toNat zv'):=by
    refine⟨by simp,fun k a v ha hv=> ?_⟩
    rw[List.getElem?_replicate] at ha hv
    split at ha
    ·rename_i hk
     rw[if_pos hk] at hv
     cases ha;cases hv
     exact⟨⟨hzsh,z2.flat z3⟩,z2⟩
    ·cases ha
   obtain⟨k1,k2,k3⟩:=zhE b (w1:=w.alloc (.cells cells e)) (t:=e) hb3 hH hE (fun b=>Ext.alloc b _) (fun k hk=>zaJ w _ hk) (zaC w _) (by rw[List.length_replicate,<-hcells,<-hzs,ziy (by omega)]) c.toNat (by simp;omega) hcsz.symm
   refine⟨.value (.slice (some ⟨w.heap.size,0,none⟩) n.toNat c.toNat),_,_,_,by simp only[Sem.run_bind,hrun,Result.andThen_ok,Sem.run_pure],.inl rfl,?_,k1,k2⟩
   rw[List.length_replicate] at k3
   exact k3
  ·cases h
 ·cases h

theorem ziE{x:AV}{shx:Sh}{new:List AV}{a:Option Addr}{m c:Nat}(hH:HR w X μ hp)(h:elemsv hp x=some (shx,new))(hx:AR w X μ hp x (.slice a m c)):
  m=new.length/\∃vals,EV w X μ hp shx new vals/\(new≠[]->∃ad,a=some ad/\∀(j:Nat) (u:Value),(cellsOf vals)[j]? =some u->w.cell? (ad.add j)=some u):=by
 have pvc:∀(sh:Sh) (es:List PV),elems hp x=some (sh,es)->m=(es.map (AV.pv sh)).length/\∃vals,EV w X μ hp sh (es.map (.pv sh)) vals/\(es.map (AV.pv sh)≠[]->∃ad,a=some ad/\∀(j:Nat) (u:Value),(cellsOf vals)[j]? =some u->w.cell? (ad.add j)=some u):=by
  intro sh es he
  obtain⟨h1,vals,h2,h3⟩:=zcT hH he hx
  exact⟨by simpa using h1,vals,h2.ev,fun hne=>h3 (by simpa using hne)⟩
 unfold elemsv at h
 split at h
 ·rename_i s r ver off len
  split at h
  ·rename_i sh es e
   split at h
   ·rename_i hver
    cases hx with|slv _ _ _ _ _ _ _ n ho hv hlc ha hc=>
    rw[e] at ho
    simp only[zck,Option.some.injEq,Prod.mk.injEq] at ho
    obtain⟨rfl,rfl⟩:=ho
    obtain⟨c1,b,cs,t,c2,c3,c4,c5⟩:=hc hver
    obtain⟨_,b',cs',t',vals,h1,h2,h3,h4,h5⟩:=hH.arv r _ es e
    rw[c2] at h1;cases h1
    rw[c3] at h2;cases h2
    have hE:EV w X μ hp sh es vals:=⟨h3,h4⟩
    have view:m=((es.drop off).take m).length/\∃vals,EV w X μ hp sh ((es.drop off).take m) vals/\((es.drop off).take m≠[]->∃ad,a=some ad/\∀(j:Nat) (u:Value),(cellsOf vals)[j]? =some u->w.cell? (ad.add j)=some u):=by
     refine⟨by simp;omega,(vals.drop off).take m,(hE.drop off).take m,fun hne=> ?_⟩
     have hm:m≠0:=by rintro rfl;simp at hne
     have:=c5 (by omega)
     subst this
     refine⟨_,rfl,zc9 (n:=m*sh.size) c3 ?_⟩
     rw[hE.view off m c1,h5,List.drop_take,List.take_take]
     congr 1
     have:off*sh.size+m*sh.size<=es.length*sh.size:=by rw[<-Nat.add_mul];exact Nat.mul_le_mul_right _ c1
     omega
    split at h
    ·rename_i hh
     cases h
     obtain⟨rfl,rfl⟩:=hh
     simpa using view
    ·cases h
     exact view
   ·cases h
  ·split at h
   ·rename_i sh es he
    cases h
    exact pvc _ _ he
   ·cases h
 ·split at h
  ·rename_i sh es he
   cases h
   exact pvc _ _ he
  ·cases h

theorem zlT{b r:Nat}{es new:List AV}(h:zkX b r es new=true):r<b->∀q∈AV.refsIn.gol new,q∈AV.refsIn.gol es:=by
 intro hlt q hq
 simp only[zkX,Bool.or_eq_true,decide_eq_true_eq] at h
 rcases h with h|h
 ·omega
 ·have:=List.all_eq_true.1 h q hq
  simpa using this
theorem zdD(a b:List AV)(q:Nat):q∈AV.refsIn.gol (a++b)↔q∈AV.refsIn.gol a\/q∈AV.refsIn.gol b:=by
 simp only[zaL,List.mem_append]
 constructor
 ·rintro⟨x,h|h,hq⟩
  ·exact .inl ⟨x,h,hq⟩
  ·exact .inr ⟨x,h,hq⟩
 ·rintro(⟨x,h,hq⟩|⟨x,h,hq⟩)
  ·exact⟨x,.inl h,hq⟩
  ·exact⟨x,.inr h,hq⟩
theorem zhF{a b:List AV}(h:∀x∈a,x∈b){q:Nat}(hq:q∈AV.refsIn.gol a):q∈AV.refsIn.gol b:=by
 obtain⟨x,hx,hqx⟩:=(zaL _ _).1 hq
 exact(zaL _ _).2 ⟨x,h x hx,hqx⟩

theorem zj4(b:Nat){r:Nat}{sh:Sh}{es es':List AV}{vals':List Value}{nb cap:Nat}{t:TypeId}{row:Array Value}{w':World}(hH:HR w X μ hp)(ho:hp[r]? =some (.arv sh es))(hlen:es.length<=es'.length)
  (hq:r<b->∀q∈AV.refsIn.gol es',q∈AV.refsIn.gol es)(hE:EV w X μ hp sh es' vals')(hnb:μ r=some nb\/(nb=w.heap.size/\es.length<es'.length))(hrow:w'.heap[nb]? =some (.cells row t (0,0)))
  (hoth:∀k,k<w.heap.size->μ r≠some k->w'.heap[k]? =w.heap[k]?)(hcur:nb≠w.heap.size\/∀k,k<w.heap.size->w'.heap[k]? =w.heap[k]?)(hsame:∀cs t0 fr,w.heap[nb]? =some (.cells cs t0 fr)->t0=t/\fr=(0,0)/\row.size=cs.size)(hsz:w.heap.size<=w'.heap.size)(hos:w'.os=w.os)(htp:w'.tape=w.tape)(hout:w'.output=w.output)
  (hc:cellsOf vals'=row.toList.take (es'.length*sh.size))(hcs:cap*sh.size=row.size)(len:Nat)(hl:len<=es'.length)(hlc:len<=cap)(hvc:es'.length<=cap)(ad:Option Addr)(had:ad=some ⟨nb,0,none⟩):
  HR w' X (upd μ r (some nb)) (hp.set r (.arv sh es'))/\Ext b X μ hp w (upd μ r (some nb)) (hp.set r (.arv sh es')) w'/\
   AR w' X (upd μ r (some nb)) (hp.set r (.arv sh es')) (.slv sh r es'.length 0 len) (.slice ad len cap):=by
 subst had
 have hrl:=(List.getElem?_eq_some_iff.1 ho).1
 have E:∀b,(r<b->∀q∈AV.refsIn.gol es',q∈AV.refsIn.gol es)->Ext b X μ hp w (upd μ r (some nb)) (hp.set r (.arv sh es')) w':=fun b hq=>
  Ext.setArv ho (n:=es'.length) rfl hlen (fun h=>by
   rcases hnb with h1|⟨_,h1⟩
   ·exact h1.symm
   ·omega) (fun es2 e=>by cases e;exact hq) (fun k hk=>by
   cases hk
   rcases hnb with h1|⟨h1,_⟩
   ·exact .inl h1
   ·exact .inr (by omega)) hos htp hout hsz hoth (fun k cs t0 fr hk=>by
    by_cases e:k=nb
    ·subst e
     obtain⟨h1,h2,h3⟩:=hsame cs t0 fr hk
     subst h1;subst h2
     exact⟨row,hrow,h3⟩
    ·by_cases e2:μ r=some k
     ·rcases hnb with h1|⟨h1,_⟩
      ·rw[h1] at e2;cases e2;exact absurd rfl e
      ·rcases hcur with h2|h2
       ·exact absurd h1 h2
       ·exact⟨cs,by rw[h2 k (zaP hk)];exact hk,rfl⟩
     ·exact⟨cs,by rw[hoth k (zaP hk) e2];exact hk,rfl⟩)
 have E0:=E 0 (fun h=>absurd h (Nat.not_lt_zero _))
 refine⟨?_,E b hq,?_⟩
 ·refine hH.setArv ho E0 hoth (fun k hk=> ?_) (.inl ⟨es',nb,row,t,vals',rfl,rfl,hrow,hE.1,(hE.ext E0).2,hc⟩)
  cases hk
  refine⟨?_,zaP hrow⟩
  rcases hnb with h1|⟨h1,_⟩
  ·exact .inl h1
  ·exact .inr (by omega)
 ·exact .slv _ _ _ _ _ _ _ es'.length (by rw[List.getElem?_set_self hrl];rfl) (Nat.le_refl _) ⟨hlc,by omega⟩ (fun _=>rfl) fun _=>⟨by omega,nb,row,t,zaf _ _ _,hrow,by rw[Nat.zero_add];exact hcs,fun _=>by simp⟩

theorem zj5{b r len:Nat}{t ty e:TypeId}{es new:List AV}{nvals:List Value}{base:Option Addr}{cap c:Nat}{ax:Option Addr}(ht:P.underlying t=some (.slice e))(hok:okT P e=true)(hz:zaZ P e=true)(hby:zbu P e=true)(hH:HR w X μ hp)(ho:hp[r]? =some (.arv (shOf P e) es))
  (hs:AR w X μ hp (.slv (shOf P e) r es.length 0 len) (.slice base len cap))(hN:EV w X μ hp (shOf P e) new nvals)(hnews:new≠[]->∃ad,ax=some ad/\∀(j:Nat) (u:Value),(cellsOf nvals)[j]? =some u->w.cell? (ad.add j)=some u)(hlim:len+new.length<=lim)(hq:r<b->∀q∈AV.refsIn.gol new,q∈AV.refsIn.gol es):
  ∃v' w' μ',(Builtin.append_ #[t,t] ty #[.slice base len cap,.slice ax new.length c]).run P w=.ok v' w'/\HR w' X μ' (hp.set r (.arv (shOf P e) (es.take len++new++es.drop (len+new.length))))/\
   Ext b X μ hp w μ' (hp.set r (.arv (shOf P e) (es.take len++new++es.drop (len+new.length)))) w'/\
   AR w' X μ' (hp.set r (.arv (shOf P e) (es.take len++new++es.drop (len+new.length)))) (.slv (shOf P e) r (es.take len++new++es.drop (len+new.length)).length 0 (len+new.length)) v':=by
 have hrl:=(List.getElem?_eq_some_iff.1 ho).1
 obtain⟨hpos,bk,cs,t',vals,h1,h2,h3,h4,h5⟩:=hH.arv r _ es ho
 have hE:EV w X μ hp (shOf P e) es vals:=⟨h3,h4⟩
 have hl2:=hN.length
 have hs':=hs
 cases hs with
 |slv _ _ _ _ _ _ _ n ho1 hv1 hlc ha hc=>
 rw[ho] at ho1
 simp only[zck,Option.some.injEq,Prod.mk.injEq,true_and] at ho1
 subst ho1
 obtain⟨c1,b',cs',t'',c3,c4,c5,c6⟩:=hc rfl
 rw[h1] at c3
 cases c3
 rw[h2] at c4
 cases c4
 rw[Nat.zero_add] at c5
 rw[Nat.zero_add] at c1
 by_cases hne:new=[]
 ·subst hne
  have e1:es.take len++[]++es.drop (len+([]:List AV).length)=es:=by simp
  rw[e1]
  have e2:hp.set r (.arv (shOf P e) es)=hp:=by
   apply List.ext_getElem?
   intro k
   by_cases hk:k=r
   ·subst hk;rw[List.getElem?_set_self hrl,ho]
   ·rw[List.getElem?_set_ne (Ne.symm hk)]
  rw[e2]
  exact⟨_,w,μ,zaW t ty e ht hok base ax len cap c hlc.1,hH,Ext.refl _ _ _ _ _,hs'⟩
 ·obtain⟨ad,rfl,hcells⟩:=hnews hne
  have hnp:0<new.length:=List.length_pos_iff.2 hne
  have hcl:cs.toList.length=cs.size:=Array.length_toList
  have hEl:es.length*(shOf P e).size<=cs.size:=by
   have:=congrArg List.length h5
   rw[hE.length,List.length_take] at this
   omega
  have hcE:es.length<=cap:=Nat.le_of_mul_le_mul_right (by rw[c5];exact hEl) hpos
  have hEV:=((hE.take len).append hN).append (hE.drop (len+new.length))
  have hqq:r<b->∀q∈AV.refsIn.gol (es.take len++new++es.drop (len+new.length)),q∈AV.refsIn.gol es:=by
   intro hlt q hq'
   rcases(zdD _ _ _).1 hq' with h|h
   ·rcases(zdD _ _ _).1 h with h|h
    ·exact zhF (fun x hx=>List.mem_of_mem_take hx) h
    ·exact hq hlt q h
   ·exact zhF (fun x hx=>List.mem_of_mem_drop hx) h
  have hel:es.length<=(es.take len++new++es.drop (len+new.length)).length:=by
   simp only[List.length_append,List.length_take,List.length_drop]
   omega
  have hll:len+new.length<=(es.take len++new++es.drop (len+new.length)).length:=by
   simp only[List.length_append,List.length_take,List.length_drop]
   omega
  by_cases hroom:len+new.length<=cap
  ·have hcap:cap≠0:=by omega
   have hb0:=c6 hcap
   simp only[Nat.zero_mul] at hb0
   subst hb0
   obtain⟨i,z,hi,hiz,hsz,hzs⟩:=okE w hok hz
   have hfit:len*(shOf P e).size+new.length*(shOf P e).size<=cs.size:=by rw[<-c5,<-Nat.add_mul];exact Nat.mul_le_mul_right _ hroom
   have hrun:=zc3 (P:=P) t ty e t' i ht hi bk len cap cs h2 ad new.length c (cellsOf nvals) (by rw[hl2,hsz]) hcells hN.flat hroom (by rw[hl2,hsz];exact hfit)
   rw[hsz,hl2] at hrun
   generalize hrow:(cs.toList.take (len*(shOf P e).size)++cellsOf nvals++cs.toList.drop (len*(shOf P e).size+new.length*(shOf P e).size))=row at hrun
   have hrowl:row.length=cs.size:=by
    rw[<-hrow]
    simp only[List.length_append,List.length_take,List.length_drop,hl2,hcl]
    omega
   have hcd:cellsOf (vals.drop (len+new.length))=(cs.toList.drop (len*(shOf P e).size+new.length*(shOf P e).size)).take (cellsOf (vals.drop (len+new.length))).length:=by
    rcases Nat.lt_or_ge es.length (len+new.length) with hlt|hge
    ·have:vals.drop (len+new.length)=[]:=List.drop_of_length_le (by rw[<-hE.1];omega)
     rw[this]
     simp[cellsOf]
    ·have h6:=hE.cells_drop (len+new.length) hge
     rw[(hE.drop (len+new.length)).length,h6,h5,List.drop_take,Nat.add_mul]
     congr 1
     rw[List.length_drop,Nat.sub_mul,Nat.add_mul]
   have hct:cellsOf (vals.take len)=cs.toList.take (len*(shOf P e).size):=by
    rw[hE.cells_take len (by omega),h5,List.take_take,Nat.min_eq_left]
    exact Nat.mul_le_mul_right _ (by omega)
   have hcc:cellsOf (vals.take len++nvals++vals.drop (len+new.length))=row.take ((es.take len++new++es.drop (len+new.length)).length*(shOf P e).size):=by
    rw[<-hEV.length,zax,zax,hct]
    conv=>lhs;rw[hcd]
    rw[<-hrow]
    have e1:(cs.toList.take (len*(shOf P e).size)++cellsOf nvals++cellsOf (vals.drop (len+new.length))).length=(cs.toList.take (len*(shOf P e).size)++cellsOf nvals).length+(cellsOf (vals.drop (len+new.length))).length:=by rw[List.length_append]
    rw[e1,List.take_length_add_append]
   obtain⟨k1,k2,k3⟩:=zj4 b (w':=w.setRow bk row.toArray) (row:=row.toArray) (nb:=bk) (cap:=cap) (t:=t') hH ho hel hqq hEV (.inl h1) (setRow_heap w bk _ _ t' _ h2) (fun k hk hne'=>setRow_other w bk k _ (fun e=>hne' (by rw[e];exact h1))) (.inl (by have:=zaP h2;omega)) (fun cs' t0 fr hk=>by
     rw[h2] at hk
     cases hk
     exact⟨rfl,rfl,by simpa using hrowl⟩) (by simp[World.setRow]) rfl rfl rfl (by simpa using hcc) (by rw[c5];simpa using hrowl.symm) (len+new.length) hll hroom (by simp only[List.length_append,List.length_take,List.length_drop];omega) (some ⟨bk,0,none⟩) rfl
   exact⟨_,_,_,hrun,k1,k2,k3⟩
  ·have htl:(es.take len).length=len:=by simp;omega
   have hdn:es.drop (len+new.length)=[]:=List.drop_of_length_le (by omega)
   have hdv:vals.drop (len+new.length)=[]:=List.drop_of_length_le (by rw[<-hE.1];omega)
   have hbase:(base=none/\es.take len=[]/\cap=0)\/∃bd,base=some bd/\∀(j:Nat) (u:Value),(cellsOf (vals.take len))[j]? =some u->w.cell? (bd.add j)=some u:=by
    cases base with
    |none=>
     have hcap0:cap=0:=by
      by_cases h0:cap=0
      ·exact h0
      ·have:=ha h0;simp at this
     refine .inl ⟨rfl,?_,hcap0⟩
     have:len=0:=by omega
     rw[this]
     rfl
    |some bd=>
     refine .inr ⟨bd,rfl,?_⟩
     by_cases hl0:len=0
     ·subst hl0;simp[cellsOf]
     ·have:=c6 (by omega)
      simp only[Nat.zero_mul,Option.some.injEq] at this
      subst this
      refine zc9 (n:=len*(shOf P e).size) h2 ?_
      rw[hE.cells_take len (by omega),h5,List.take_take,Nat.min_eq_left (Nat.mul_le_mul_right _ (by omega))]
      simp
   obtain⟨c',cells,g1,g2,g3,g4⟩:=zfV (ty:=ty) ht hok hz hby (hE.take len).1 (hE.take len).length hl2 base cap hbase ad c hcells hne (by rw[htl];omega) (by rw[htl];exact hlim)
   rw[htl] at g1 g2 g4
   have hblk:∀k,k<w.heap.size->(w.drew.alloc (.cells cells e)).heap[k]? =w.heap[k]? :=fun k hk=>zaJ w.drew _ hk
   have hel2:(es.take len++new++es.drop (len+new.length)).length=len+new.length:=by rw[hdn];simp;omega
   obtain⟨k1,k2,k3⟩:=zj4 b (w':=w.drew.alloc (.cells cells e)) (row:=cells) (nb:=w.heap.size) (cap:=c') (t:=e) hH ho hel hqq hEV (.inr ⟨rfl,by rw[hel2];omega⟩) (zaC w.drew _) (fun k hk _=>hblk k hk) (.inr hblk) (fun cs' t0 fr hk=>by have:=zaP hk;omega) (by simp) rfl rfl rfl
    (by rw[hel2,g4,hdv,List.append_nil]) g3.symm (len+new.length) hll g2 (by rw[hel2];exact g2) (some ⟨w.heap.size,0,none⟩) rfl
   exact⟨_,_,_,g1,k1,k2,k3⟩

theorem ziF{x:AV}{shx:Sh}{new:List AV}{vx:Value}(h:elemsv hp x=some (shx,new))(hx:AR w X μ hp x vx):∃a m c,vx=.slice a m c:=by
 unfold elemsv at h
 split at h
 ·cases hx;exact⟨_,_,_,rfl⟩
 ·split at h
  ·rename_i he
   exact zcU he hx
  ·cases h

theorem zhG{b:Nat}{t ty e:TypeId}{x y:Value}{vs:List AV}{v:AV}{hp':Heap}(ht:P.underlying t=some (.slice e))(hok:okT P e=true)(hz:zaZ P e=true)(hby:zbu P e=true)(hH:HR w X μ hp)
  (hl:LR w X μ hp vs [x,y])(h:zcn (shOf P e) b hp vs=some (v,hp')):Out P b w X μ hp (do pure (.value (<-Builtin.append_ #[t,t] ty #[x,y]))) v hp':=by
 unfold zcn at h
 split at h
 ·rename_i s q
  obtain⟨x',y',e0,h1,h2⟩:=hl.two
  cases e0
  unfold aappendv at h
  split at h
  ·cases h
  ·rename_i shx new hel
   obtain⟨ay,m,cy,rfl⟩:=ziF hel h2
   obtain⟨rfl,nvals,hN,hcells⟩:=ziE hH hel h2
   split at h
   ·rename_i hsh
    obtain⟨hsh,hpos⟩:=hsh
    have hN':EV w X μ hp (shOf P e) new nvals:=by
     rcases hsh with rfl|rfl
     ·exact hN
     ·have:nvals=[]:=List.eq_nil_of_length_eq_zero hN.1.symm
      subst this
      exact EV.nil
    have grown:∀(es:List AV) (vals:List Value) (a:Option Addr),EV w X μ hp (shOf P e) es vals->((a=none/\es=[]/\es.length=0)\/∃bd,a=some bd/\∀(j:Nat) (u:Value),(cellsOf vals)[j]? =some u->w.cell? (bd.add j)=some u)->new≠[]->es.length+new.length<=lim->
      Out P b w X μ hp (do pure (.value (<-Builtin.append_ #[t,t] ty #[.slice a es.length es.length,.slice ay new.length cy]))) (.slv (shOf P e) hp.length (es.length+new.length) 0 (es.length+new.length)) (hp++[.arv (shOf P e) (es++new)]):=by
     intro es vals a hE hb hn hlim
     obtain⟨ad,rfl,hc⟩:=hcells hn
     have hpn:0<new.length:=List.length_pos_iff.2 hn
     obtain⟨c',cells,g1,g2,g3,g4⟩:=zfV (ty:=ty) ht hok hz hby hE.1 hE.length hN'.length a es.length hb ad cy hc hn (by omega) hlim
     have hEx:∀b,Ext b X μ hp w μ hp (w.drew.alloc (.cells cells e)):=fun b=>(Ext.drew b).trans (Ext.alloc b _)
     obtain⟨k1,k2,k3⟩:=zhE b (w1:=w.drew.alloc (.cells cells e)) (t:=e) hpos hH (hE.append hN') hEx (fun k hk=>zaJ w.drew _ hk) (zaC w.drew _) (by rw[List.length_append];exact g4.symm) c' (by rw[List.length_append];exact g2) g3.symm
     rw[List.length_append] at k3
     exact zbH ⟨_,_,_,g1,k1,k2,k3⟩
    split at h
    ·rename_i s0
     cases h1 with
     |nilv=>
      split at h
      ·rename_i hn
       cases h
       subst hn
       exact zbH ⟨_,w,μ,zaW t ty e ht hok none ay 0 0 cy (Nat.le_refl _),hH,Ext.refl _ _ _ _ _,.nilv _⟩
      ·rename_i hn
       split at h
       ·rename_i hlim
        cases h
        have:=grown [] [] none EV.nil (.inl ⟨rfl,rfl,rfl⟩) hn (by simpa using hlim)
        simpa using this
       ·cases h
    ·rename_i s0 es
     cases h1 with
     |tsl _ _ a hq=>
      split at h
      ·rename_i hse
       obtain⟨rfl,hn⟩:=hse
       cases h
       subst hn
       exact zbH ⟨_,w,μ,zaW t ty e ht hok a ay es.length es.length cy (Nat.le_refl _),hH,Ext.refl _ _ _ _ _,.tsl _ _ _ hq⟩
      split at h
      ·rename_i hse
       obtain⟨rfl,hn,hlim⟩:=hse
       cases h
       obtain⟨vals,hE,hb⟩:∃vals,ER w (Im X μ hp) (shOf P e) es vals/\((a=none/\es=[]/\es.length=0)\/∃bd,a=some bd/\∀(j:Nat) (u:Value),(cellsOf vals)[j]? =some u->w.cell? (bd.add j)=some u):=by
        cases hq with
        |nilsl=>
         refine⟨[],ER.nil,?_⟩
         cases a with
         |none=>exact .inl ⟨rfl,rfl,rfl⟩
         |some bd=>exact .inr ⟨bd,rfl,by simp[cellsOf]⟩
        |sl _ _ b o _ cs t' fr vals hvl hI hb h1 h2 hc hn=>
         exact⟨vals,⟨hvl,fun k p v hp hv=>⟨h1 k p v hp hv,h2 k p v hp hv⟩⟩,.inr ⟨_,rfl,zc9 hb hc⟩⟩
       have:=grown (es.map (.pv (shOf P e))) vals a hE.ev (by simpa using hb) hn (by simpa using hlim)
       simpa using this
      ·cases h
    ·rename_i s1 r ver off len
     split at h
     ·rename_i s0 es ho
      split at h
      ·rename_i hh
       obtain⟨rfl,rfl,rfl,hrefs⟩:=hh
       split at h
       ·rename_i hlim
        have hs1:s1=shOf P e:=by
         cases h1 with
         |slv _ _ _ _ _ _ _ n ho'=>rw[ho] at ho';simp only[zck,Option.some.injEq,Prod.mk.injEq] at ho';exact ho'.1.symm
        subst hs1
        obtain⟨base,cap,rfl⟩:∃base cap,x=.slice base len cap:=by cases h1;exact⟨_,_,rfl⟩
        have hclen:len<=es.length:=by
         cases h1 with
         |slv _ _ _ _ _ _ _ n ho' hv' hlc' ha' hc'=>
          rw[ho] at ho'
          simp only[zck,Option.some.injEq,Prod.mk.injEq,true_and] at ho'
          subst ho'
          have:=(hc' rfl).1;omega
        have key:=zj5 (b:=b) (ty:=ty) (c:=cy) ht hok hz hby hH ho h1 hN' hcells hlim (zlT hrefs)
        split at h
        ·rename_i hle
         cases h
         subst hle
         have e1:es.take es.length++new++es.drop (es.length+new.length)=es++new:=by rw[List.take_length,List.drop_of_length_le (by omega),List.append_nil]
         rw[e1,List.length_append] at key
         exact zbH key
        ·split at h
         ·rename_i hle
          cases h
          have e1:(es.take len++new++es.drop (len+new.length)).length=es.length:=by simp only[List.length_append,List.length_take,List.length_drop];omega
          rw[e1] at key
          exact zbH key
         ·split at h
          ·cases h
           have e1:es.take len++new++es.drop (len+new.length)=es.take len++new:=by rw[List.drop_of_length_le (by omega),List.append_nil]
           have e2:(es.take len++new).length=len+new.length:=by simp only[List.length_append,List.length_take];omega
           rw[e1,e2] at key
           exact zbH key
          ·cases h
       ·cases h
      ·cases h
     ·cases h
    ·cases h
   ·cases h
 ·cases h

theorem zhH(t ty e:TypeId)(ht:P.underlying t=some (.slice e))(hok:okT P e=true)(base a:Option Addr)(n cap m c:Nat)(h0:Nat.min m n=0):
  (Builtin.copy_ #[t,t] ty #[.slice base n cap,.slice a m c]).run P w=.ok (goInt 0) w:=by
 have hs:=za6 hok w
 cases a <;> cases base <;> simp[Builtin.copy_,run_underlying ht,hs,Builtin.lenOf,h0,Builtin.firstCells,loadCells,loadCellsFrom,storeCells]
theorem zlU{b:Nat}{t ty e:TypeId}{x y:Value}{vs:List AV}{v:AV}{hp':Heap}(ht:P.underlying t=some (.slice e))(hok:okT P e=true)(hH:HR w X μ hp)
  (hl:LR w X μ hp vs [x,y])(h:zqX (shOf P e) hp vs=some (v,hp')):Out P b w X μ hp (do pure (.value (<-Builtin.copy_ #[t,t] ty #[x,y]))) v hp':=by
 unfold zqX at h
 split at h
 ·rename_i s0 r ver off len q
  obtain⟨x',y',e0,h1,h2⟩:=hl.two
  cases e0
  split at h
  ·rename_i shx new hel
   obtain⟨ay,m,cy,rfl⟩:=zcU hel h2
   obtain⟨rfl,nvals,hN,hcells⟩:=zcT hH hel h2
   split at h
   ·rename_i hsh
    obtain⟨rfl,hsh⟩:=hsh
    have hN':ER w (Im X μ hp) (shOf P e) new nvals:=by
     rcases hsh with rfl|rfl
     ·exact hN
     ·have:nvals=[]:=List.eq_nil_of_length_eq_zero hN.1.symm
      subst this
      exact ER.nil
    split at h
    ·rename_i s' es ho
     split at h
     ·rename_i hcond
      obtain⟨rfl,hver,hle⟩:=hcond
      cases h
      cases h1 with|sl _ _ _ _ _ base cap es1 fz1 ho1 hv hlc ha hc=>
      rw[ho] at ho1
      cases ho1
      obtain⟨c1,c2⟩:=hc hver
      obtain⟨k,hk⟩:∃k,k=Nat.min len new.length:=⟨_,rfl⟩
      have hmc:Nat.min new.length len=k:=by rw[hk];exact Nat.min_comm _ _
      rw[<-hk]
      have hrl:=(List.getElem?_eq_some_iff.1 ho).1
      by_cases h0:k=0
      ·have hes:es.take off++new.take k++es.drop (off+k)=es:=by rw[h0];simp
       have hhp:hp.set r (.arr (shOf P e) es false)=hp:=by
        apply List.ext_getElem?
        intro i
        by_cases e0:i=r
        ·subst e0;rw[List.getElem?_set_self hrl,ho]
        ·rw[List.getElem?_set_ne (Ne.symm e0)]
       rw[hes,hhp,h0]
       exact⟨_,_,w,μ,by simp only[Sem.run_bind,zhH t ty e ht hok base ay len cap new.length cy (by rw[hmc];exact h0),Result.andThen_ok,Sem.run_pure];rfl,.inl rfl,.mkInt _ _,hH,Ext.refl _ _ _ _ _⟩
      ·have hkl:k<=len:=by rw[hk];exact Nat.min_le_left _ _
       have hkn:k<=new.length:=by rw[hk];exact Nat.min_le_right _ _
       have hne:new≠[]:=by rintro rfl;simp at hkn;omega
       obtain⟨ad,rfl,hcl2⟩:=hcells hne
       rcases c2 with⟨_,c3⟩|⟨b',cs,t',m1,m2,m3,m4⟩
       ·omega
       have:=m4 (by omega)
       subst this
       rcases(hH.arr r _ es false ho).2 with⟨g1,_⟩|⟨b2,cs2,t2,vals,g1,g2,g3,g4,g5⟩
       ·rw[m1] at g1;cases g1
       rw[m1] at g1
       cases g1
       rw[m2] at g2
       cases g2
       have hE:ER w (Im X μ hp) (shOf P e) es vals:=⟨g3,g4⟩
       have hNt:=hN'.take k
       have hNl:=hNt.length
       have hkt:(new.take k).length=k:=by simp;omega
       rw[hkt] at hNl
       have hcl:cs.toList.length=cs.size:=Array.length_toList
       have hEl:es.length*(shOf P e).size<=cs.size:=by
        have:=congrArg List.length g5
        rw[hE.length,List.length_take] at this
        omega
       have hA:off*(shOf P e).size+k*(shOf P e).size<=es.length*(shOf P e).size:=by rw[<-Nat.add_mul];exact Nat.mul_le_mul_right _ (by omega)
       obtain⟨ti,_,hti,_,hts,_⟩:=zdx hok
       have hrun:=zhD (P:=P) w t t ty e b' (off*(shOf P e).size) len cap ad new.length cy (shOf P e).size cs t' (cellsOf (nvals.take k)) ht (by rw[hti];simp[hts]) m2 (by rw[hNl,hmc])
        (fun j u hj=>by
         rw[hN'.cells_take k hkn] at hj
         refine hcl2 j u ?_
         rw[List.getElem?_take] at hj
         split at hj
         ·exact hj
         ·cases hj) (by rw[hNl];omega) hNt.flat
       rw[hNl,hmc] at hrun
       have hE':=((hE.take off).append hNt).append (hE.drop (off+k))
       have hlen:(es.take off++new.take k++es.drop (off+k)).length=es.length:=by simp;omega
       obtain⟨H,E⟩:=zni (cs':=(cs.toList.take (off*(shOf P e).size)++cellsOf (nvals.take k)++cs.toList.drop (off*(shOf P e).size+k*(shOf P e).size)).toArray) hH ho m1 m2 (by rw[List.size_toArray,List.length_append,List.length_append,List.length_take,List.length_drop,hNl,hcl];omega) hlen hE' (by
        rw[zax,zax,hE.cells_take off (by omega),hE.cells_drop (off+k) (by omega),g5,hlen,Nat.add_mul,List.take_take,Nat.min_eq_left (by omega),List.drop_take]
        simp only[]
        have hpre:(cs.toList.take (off*(shOf P e).size)++cellsOf (nvals.take k)).length=off*(shOf P e).size+k*(shOf P e).size:=by
         rw[List.length_append,hNl,List.length_take,hcl];omega
        rw[List.take_append,hpre,List.take_of_length_le (i:=es.length*(shOf P e).size) (l:=cs.toList.take (off*(shOf P e).size)++cellsOf (nvals.take k)) (by rw[hpre];exact hA)])
       exact⟨_,_,_,μ,by simp only[Sem.run_bind,hrun,Result.andThen_ok,Sem.run_pure];rfl,.inl rfl,.mkInt _ _,H,E b⟩
     ·cases h
    ·cases h
   ·cases h
  ·cases h
 ·cases h
theorem zj6{b:Nat}{t ty e:TypeId}{z:PV}{x:Value}{vs:List AV}{v:AV}{hp':Heap}(ht:P.underlying t=some (.slice e))(hok:okT P e=true)(hzo:zaZ P e=true)(hz:(zaU P e).bind pvOf=some z)
  (hH:HR w X μ hp)(hl:LR w X μ hp vs [x])(h:ze6 (shOf P e) z hp vs=some (v,hp')):Out P b w X μ hp (do pure (.value (<-Builtin.clear_ #[t] ty #[x]))) v hp':=by
 unfold ze6 at h
 split at h
 ·rename_i s0 r ver off len
  obtain⟨y,eq,h1⟩:=hl.one
  cases eq
  cases h1 with|sl _ _ _ _ _ a cap es1 fz1 ho hv hlc ha hc=>
  split at h
  ·rename_i s es hr
   rw[hr] at ho
   cases ho
   split at h
   ·rename_i hcond
    obtain⟨rfl,hver,hle⟩:=hcond
    cases h
    obtain⟨c1,c2⟩:=hc hver
    by_cases h0:len=0
    ·subst h0
     have hes:es1.take off++List.replicate 0 z++es1.drop (off+0)=es1:=by simp
     have hhp:hp.set r (.arr (shOf P e) es1 false)=hp:=by
      apply List.ext_getElem?
      intro k
      by_cases e0:k=r
      ·subst e0;rw[List.getElem?_set_self (List.getElem?_eq_some_iff.1 hr).1,hr]
      ·rw[List.getElem?_set_ne (Ne.symm e0)]
     rw[hes]
     have hrun:(Builtin.clear_ #[t] ty #[.slice a 0 cap]).run P w=.ok (.tuple #[]) w:=by
      cases a <;> simp[Builtin.clear_,run_underlying ht]
     refine⟨.value (.tuple #[]),_,w,μ,by simp only[Sem.run_bind,hrun,Result.andThen_ok,Sem.run_pure],.inl rfl,.undef _ (fun b h=>by cases h),?_,?_⟩
     ·rw[hhp];exact hH
     ·rw[hhp];exact Ext.refl _ _ _ _ _
    ·rcases c2 with⟨c2,c3⟩|⟨b',cs,t',m1,m2,m3,m4⟩
     ·omega
     have hcap:cap≠0:=by omega
     have:=m4 hcap
     subst this
     rcases(hH.arr r _ es1 false hr).2 with⟨g1,g2⟩|⟨b2,cs2,t2,vals,g1,g2,g3,g4,g5⟩
     ·rw[m1] at g1;cases g1
     rw[m1] at g1
     cases g1
     rw[m2] at g2
     cases g2
     cases hza:zaU P e with
     |none=>rw[hza] at hz;cases hz
     |some za=>
     rw[hza] at hz
     obtain⟨zv,z1,z2,z3⟩:=zbo (w:=w) (X:=X) (μ:=μ) (hp:=hp) hza
     have hzpr:PR w (Im X μ hp) z zv:=zcr w X μ hp _ _ _ _ hz z2
     have hzsh:vshp zv=shOf P e:=by
      have:=z2.vshp z3
      unfold zaZ at hzo
      rw[hza] at hzo
      rw[this]
      simpa using hzo
     obtain⟨i,zv',hi,hiz,hsz,hzs⟩:=okE w hok hzo
     have hzz:zv=zv':=by
      simp only[zeroValue,typeInfo] at z1
      simp[hi,hiz] at z1
      exact z1.symm
     subst hzz
     have hzc:(Builtin.zeroCells zv.cells len).toList.length=len*(shOf P e).size:=by
      rw[Array.length_toList,size_zeroCells,hzs]
     have hfl:Flat zv:=z2.flat z3
     have hfit:off*(shOf P e).size+len*(shOf P e).size<=cs.size:=by
      rw[<-m3,<-Nat.add_mul]
      exact Nat.mul_le_mul_right _ (by omega)
     have hst:=run_storeCells_at P b' (off*(shOf P e).size) t' (Builtin.zeroCells zv.cells len).toList 0 cs w m2 (by rw[hzc];omega) (fun u hu=>by
      rw[zbO] at hu
      obtain⟨k,q,hq,hqu⟩:=zbk hu
      rw[List.getElem?_replicate] at hq
      split at hq
      ·cases hq;exact hfl u hqu
      ·cases hq)
     simp only[Nat.add_zero,hzc] at hst
     have hrun:(Builtin.clear_ #[t] ty #[.slice (some ⟨b',off*(shOf P e).size,none⟩) len cap]).run P w=.ok (.tuple #[]) (w.setRow b' (cs.toList.take (off*(shOf P e).size)++(Builtin.zeroCells zv.cells len).toList++cs.toList.drop (off*(shOf P e).size+len*(shOf P e).size)).toArray):=by
      cases len with
      |zero=>exact absurd rfl h0
      |succ k=>simp[Builtin.clear_,run_underlying ht,z1,hst]
     have hcl:cs.toList.length=cs.size:=Array.length_toList
     have hE0:ER w (Im X μ hp) (shOf P e) es1 vals:=⟨g3,g4⟩
     have hlv:vals.length=es1.length:=g3.symm
     have hE':ER w (Im X μ hp) (shOf P e) (es1.take off++List.replicate len z++es1.drop (off+len)) (vals.take off++List.replicate len zv++vals.drop (off+len)):=by
      refine ER.append (ER.append ?_ ?_) (hE0.drop _)
      ·exact hE0.take _
      ·refine⟨by simp,fun k q u hq hu=> ?_⟩
       rw[List.getElem?_replicate] at hq hu
       split at hq
       ·rename_i hk
        rw[if_pos hk] at hu
        cases hq;cases hu
        exact⟨hzsh,hzpr⟩
       ·cases hq
     obtain⟨H,E⟩:=zni (cs':=(cs.toList.take (off*(shOf P e).size)++(Builtin.zeroCells zv.cells len).toList++cs.toList.drop (off*(shOf P e).size+len*(shOf P e).size)).toArray) hH hr m1 m2 (by simp[hzc];omega) (by simp;omega) hE' (by
      have hA:off*(shOf P e).size+len*(shOf P e).size<=es1.length*(shOf P e).size:=by rw[<-Nat.add_mul];exact Nat.mul_le_mul_right _ hle
      rw[zax,zax,hE0.cells_take off (by omega),hE0.cells_drop (off+len) (by omega),<-zbO,g5,Nat.add_mul]
      have hl':(es1.take off++List.replicate len z++es1.drop (off+len)).length=es1.length:=by simp;omega
      rw[hl',List.take_take,Nat.min_eq_left (by omega),List.drop_take]
      simp only[]
      have hpre:(cs.toList.take (off*(shOf P e).size)++(Builtin.zeroCells zv.cells len).toList).length=off*(shOf P e).size+len*(shOf P e).size:=by
       rw[List.length_append,hzc,List.length_take,hcl];omega
      rw[List.take_append,hpre,List.take_of_length_le (i:=es1.length*(shOf P e).size) (l:=cs.toList.take (off*(shOf P e).size)++(Builtin.zeroCells zv.cells len).toList) (by rw[hpre];exact hA)])
     exact⟨.value (.tuple #[]),_,_,μ,by simp only[Sem.run_bind,hrun,Result.andThen_ok,Sem.run_pure],.inl rfl,.undef _ (fun b h=>by cases h),H,E b⟩
   ·cases h
  ·cases h
 ·rename_i s0 r ver off len
  obtain⟨y,eq,h1⟩:=hl.one
  cases eq
  cases h1 with|slv _ _ _ _ _ a cap n ho hv hlc ha hc=>
  split at h
  ·rename_i s es hr
   rw[hr] at ho
   simp only[zck,Option.some.injEq,Prod.mk.injEq] at ho
   obtain⟨rfl,rfl⟩:=ho
   split at h
   ·rename_i hcond
    obtain⟨rfl,hver,hle⟩:=hcond
    cases h
    obtain⟨c1,b',cs,t',m1,m2,m3,m4⟩:=hc hver
    obtain⟨_,b2,cs2,t2,vals,g1,g2,g3,g4,g5⟩:=hH.arv r _ es hr
    rw[m1] at g1
    cases g1
    rw[m2] at g2
    cases g2
    by_cases h0:len=0
    ·subst h0
     have hes:es.take off++List.replicate 0 (AV.pv (shOf P e) z)++es.drop (off+0)=es:=by simp
     have hhp:hp.set r (.arv (shOf P e) es)=hp:=by
      apply List.ext_getElem?
      intro k
      by_cases e0:k=r
      ·subst e0;rw[List.getElem?_set_self (List.getElem?_eq_some_iff.1 hr).1,hr]
      ·rw[List.getElem?_set_ne (Ne.symm e0)]
     rw[hes]
     have hrun:(Builtin.clear_ #[t] ty #[.slice a 0 cap]).run P w=.ok (.tuple #[]) w:=by
      cases a <;> simp[Builtin.clear_,run_underlying ht]
     refine⟨.value (.tuple #[]),_,w,μ,by simp only[Sem.run_bind,hrun,Result.andThen_ok,Sem.run_pure],.inl rfl,.undef _ (fun b h=>by cases h),?_,?_⟩
     ·rw[hhp];exact hH
     ·rw[hhp];exact Ext.refl _ _ _ _ _
    ·have hcap:cap≠0:=by have:=hlc.1;omega
     have:=m4 hcap
     subst this
     cases hza:zaU P e with
     |none=>rw[hza] at hz;cases hz
     |some za=>
     rw[hza] at hz
     obtain⟨zv,z1,z2,z3⟩:=zbo (w:=w) (X:=X) (μ:=μ) (hp:=hp) hza
     have hzpr:PR w (Im X μ hp) z zv:=zcr w X μ hp _ _ _ _ hz z2
     have hzsh:vshp zv=shOf P e:=by
      have:=z2.vshp z3
      unfold zaZ at hzo
      rw[hza] at hzo
      rw[this]
      simpa using hzo
     obtain⟨i,zv',hi,hiz,hsz,hzs⟩:=okE w hok hzo
     have hzz:zv=zv':=by
      simp only[zeroValue,typeInfo] at z1
      simp[hi,hiz] at z1
      exact z1.symm
     subst hzz
     have hzc:(Builtin.zeroCells zv.cells len).toList.length=len*(shOf P e).size:=by
      rw[Array.length_toList,size_zeroCells,hzs]
     have hfl:Flat zv:=z2.flat z3
     have hEl0:es.length<=off+cap:=by have:=hlc.2;omega
     have hfit:off*(shOf P e).size+len*(shOf P e).size<=cs.size:=by
      rw[<-m3,<-Nat.add_mul]
      exact Nat.mul_le_mul_right _ (by omega)
     have hst:=run_storeCells_at P b' (off*(shOf P e).size) t' (Builtin.zeroCells zv.cells len).toList 0 cs w m2 (by rw[hzc];omega) (fun u hu=>by
      rw[zbO] at hu
      obtain⟨k,q,hq,hqu⟩:=zbk hu
      rw[List.getElem?_replicate] at hq
      split at hq
      ·cases hq;exact hfl u hqu
      ·cases hq)
     simp only[Nat.add_zero,hzc] at hst
     generalize hrow:(cs.toList.take (off*(shOf P e).size)++(Builtin.zeroCells zv.cells len).toList++cs.toList.drop (off*(shOf P e).size+len*(shOf P e).size))=row at hst
     have hrun:(Builtin.clear_ #[t] ty #[.slice (some ⟨b',off*(shOf P e).size,none⟩) len cap]).run P w=.ok (.tuple #[]) (w.setRow b' row.toArray):=by
      cases len with
      |zero=>exact absurd rfl h0
      |succ k=>simp[Builtin.clear_,run_underlying ht,z1,hst]
     have hcl:cs.toList.length=cs.size:=Array.length_toList
     have hrowl:row.length=cs.size:=by
      rw[<-hrow,List.length_append,List.length_append,hzc,List.length_take,List.length_drop,hcl]
      omega
     have hE0:EV w X μ hp (shOf P e) es vals:=⟨g3,g4⟩
     have hE':EV w X μ hp (shOf P e) (es.take off++List.replicate len (.pv (shOf P e) z)++es.drop (off+len)) (vals.take off++List.replicate len zv++vals.drop (off+len)):=by
      refine EV.append (EV.append (hE0.take _) ?_) (hE0.drop _)
      refine⟨by simp,fun k q u hq hu=> ?_⟩
      rw[List.getElem?_replicate] at hq hu
      split at hq
      ·rename_i hk
       rw[if_pos hk] at hu
       cases hq;cases hu
       exact⟨⟨hzsh,hfl⟩,.pv _ _ _ hzsh hzpr⟩
      ·cases hq
     have hl':(es.take off++List.replicate len (AV.pv (shOf P e) z)++es.drop (off+len)).length=es.length:=by simp;omega
     have hcc:cellsOf (vals.take off++List.replicate len zv++vals.drop (off+len))=row.take ((es.take off++List.replicate len (AV.pv (shOf P e) z)++es.drop (off+len)).length*(shOf P e).size):=by
      have hA:off*(shOf P e).size+len*(shOf P e).size<=es.length*(shOf P e).size:=by rw[<-Nat.add_mul];exact Nat.mul_le_mul_right _ hle
      rw[zax,zax,hE0.cells_take off (by omega),hE0.cells_drop (off+len) (by omega),<-zbO,g5,Nat.add_mul,hl',List.take_take,Nat.min_eq_left (by omega),List.drop_take,<-hrow]
      have hpre:(cs.toList.take (off*(shOf P e).size)++(Builtin.zeroCells zv.cells len).toList).length=off*(shOf P e).size+len*(shOf P e).size:=by
       rw[List.length_append,hzc,List.length_take,hcl];omega
      rw[List.take_append,hpre,List.take_of_length_le (i:=es.length*(shOf P e).size) (l:=cs.toList.take (off*(shOf P e).size)++(Builtin.zeroCells zv.cells len).toList) (by rw[hpre];exact hA)]
     have hrefs:r<b->∀q∈AV.refsIn.gol (es.take off++List.replicate len (AV.pv (shOf P e) z)++es.drop (off+len)),q∈AV.refsIn.gol es:=fun _ q hq=>by
      rcases(zdD _ _ _).1 hq with h|h
      ·rcases(zdD _ _ _).1 h with h|h
       ·exact zhF (fun x hx=>List.mem_of_mem_take hx) h
       ·obtain⟨x,hx,hqx⟩:=(zaL _ _).1 h
        rw[List.eq_of_mem_replicate hx] at hqx
        simp[AV.refsIn] at hqx
      ·exact zhF (fun x hx=>List.mem_of_mem_drop hx) h
     have hnc:(off+cap)*(shOf P e).size=row.toArray.size:=by rw[m3];simpa using hrowl.symm
     obtain⟨k1,k2,_⟩:=zj4 b (w':=w.setRow b' row.toArray) (row:=row.toArray) (nb:=b') (cap:=off+cap) (t:=t') hH hr (by rw[hl'];exact Nat.le_refl _) hrefs hE' (.inl m1) (setRow_heap w b' _ _ t' _ m2) (fun k hk hne'=>setRow_other w b' k _ (fun e=>hne' (by rw[e];exact m1))) (.inl (by have:=zaP m2;omega)) (fun cs' t0 fr hk=>by
       rw[m2] at hk
       cases hk
       exact⟨rfl,rfl,by simpa using hrowl⟩) (by simp[World.setRow]) rfl rfl rfl (by simpa using hcc) hnc 0 (Nat.zero_le _) (Nat.zero_le _) (by rw[hl'];omega) (some ⟨b',0,none⟩) rfl
     have em:upd μ r (some b')=μ:=by rw[<-m1];exact zbf μ r
     rw[em] at k1 k2
     exact⟨.value (.tuple #[]),_,_,μ,by simp only[Sem.run_bind,hrun,Result.andThen_ok,Sem.run_pure],.inl rfl,.undef _ (fun b h=>by cases h),k1,k2⟩
   ·cases h
  ·cases h
 ·cases h
end Go.Am
