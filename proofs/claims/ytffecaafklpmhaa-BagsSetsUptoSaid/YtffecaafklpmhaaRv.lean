/- What is proved: the reference's Vars and Rename. -/
import Derived.Test.YtffecaafklpmhaaSml
import Derived.Test.YtffecaafklpmhaaAm4
set_option linter.unusedSimpArgs false
set_option linter.unusedVariables false
namespace Go.Proofs.Ytffecaafklpmhaa
open Go.Am
def ints(l:List Int):List PV:=l.map (.int .i64)
theorem zcx(l:List Int):(ints l).length=l.length:=by simp[ints]
theorem zjr{l:List Int}{i:Nat}{x:Int}(h:l[i]? =some x):(ints l)[i]? =some (.int .i64 x):=by simp[ints,h]
theorem zrG(l:List Int)(x:Int):ints l++[.int .i64 x]=ints (l++[x]):=by simp[ints]
def vadd(s:List Int)(w:Int):List Int:=if w∈s then s else s++[w]
def vads(s:List Int)(ws:List Int):List Int:=ws.foldl vadd s
theorem zgw(s a b:List Int):vads s (a++b)=vads (vads s a) b:=by simp[vads]
theorem zjs(ws:List Int):∀s:List Int,(vads s ws).length<=s.length+ws.length:=by
 induction ws with
 |nil=>intro s;simp[vads]
 |cons w r ih=>
  intro s
  have:=ih (vadd s w)
  have h2:(vadd s w).length<=s.length+1:=by unfold vadd;split <;> simp
  simp only[vads,List.foldl_cons,List.length_cons] at this ⊢
  omega
theorem ztl(ws:List Int):∀(s:List Int) (x:Int),x∈vads s ws↔x∈s\/x∈ws:=by
 induction ws with
 |nil=>intro s x;simp[vads]
 |cons w r ih=>
  intro s x
  have:=ih (vadd s w) x
  simp only[vads,List.foldl_cons] at this ⊢
  rw[this]
  unfold vadd
  split
  ·rename_i h
   simp only[List.mem_cons]
   constructor
   ·rintro(h1|h1) <;> simp[h1]
   ·rintro(h1|rfl|h1)
    ·exact .inl h1
    ·exact .inl h
    ·exact .inr h1
  ·simp only[List.mem_append,List.mem_cons,List.not_mem_nil,or_false]
   constructor
   ·rintro((h1|h1)|h1) <;> simp[h1]
   ·rintro(h1|h1|h1) <;> simp[h1]
def IsV(s:AV)(hp:Heap)(l:List Int):Prop:=(s=.tsl none []/\l=[])\/∃r,s=.sl none r l.length 0 l.length/\hp[r]? =some (.arr none (ints l) false)
def PresV(s:AV)(hp hp':Heap):Prop:=hp.length<=hp'.length/\∀(i:Nat) (x:AObj),hp[i]? =some x->(∀v o n,s≠.sl none i v o n)->hp'[i]? =some x
def OwnV(s:AV)(hp:Heap)(s':AV):Prop:=∀r v o n,s'=.sl none r v o n->(∃v o n,s=.sl none r v o n)\/hp.length<=r
theorem PresV.refl(s:AV)(hp:Heap):PresV s hp hp:=⟨Nat.le_refl _,fun _ _ h _=>h⟩
theorem OwnV.refl(s:AV)(hp:Heap):OwnV s hp s:=fun r v o n h=>.inl ⟨v,o,n,h⟩
theorem IsV.more{s:AV}{hp:Heap}{l:List Int}(h:IsV s hp l)(e:Heap):IsV s (hp++e) l:=by
 rcases h with h|⟨r,h1,h2⟩
 ·exact .inl h
 ·exact .inr ⟨r,h1,by rw[List.getElem?_append_left (zbX h2)];exact h2⟩
theorem OwnV.trans{s s1 s2:AV}{hp hp1:Heap}(h1:OwnV s hp s1)(hl:hp.length<=hp1.length)(h2:OwnV s1 hp1 s2):OwnV s hp s2:=fun r v o n e=>by
 rcases h2 r v o n e with⟨v',o',n',e'⟩|h
 ·exact h1 r v' o' n' e'
 ·exact .inr (by omega)
theorem PresV.trans{s s1:AV}{hp hp1 hp2:Heap}(h1:PresV s hp hp1)(ho:OwnV s hp s1)(h2:PresV s1 hp1 hp2):PresV s hp hp2:=
 ⟨Nat.le_trans h1.1 h2.1,fun i x hx hne=>h2.2 i x (h1.2 i x hx hne) fun v o n e=>by
  rcases ho i v o n e with⟨v',o',n',e'⟩|h
  ·exact hne v' o' n' e'
  ·have:=zbX hx;omega⟩
theorem PresV.take{s:AV}{hp hp1:Heap}{n:Nat}(h:PresV s hp hp1)(hn:hp.length<=n):PresV s hp (hp1.take n):=
 ⟨by rw[List.length_take];have:=h.1;omega,fun i x hx hne=>by
  have:=zbX hx
  rw[List.getElem?_take,if_pos (by omega)]
  exact h.2 i x hx hne⟩
theorem PresV.less{s:AV}{hp e hp1:Heap}(h:PresV s (hp++e) hp1):PresV s hp hp1:=
 ⟨by have:=h.1;simp at this;omega,fun i x hx hne=>h.2 i x (by rw[List.getElem?_append_left (zbX hx)];exact hx) hne⟩
theorem OwnV.less{s s':AV}{hp e:Heap}(h:OwnV s (hp++e) s'):OwnV s hp s':=fun r v o n h1=>by
 rcases h r v o n h1 with h|h
 ·exact .inl h
 ·exact .inr (by simp at h;omega)
theorem IsV.take{s:AV}{hp:Heap}{l:List Int}{n:Nat}(h:IsV s hp l)(hr:∀q∈s.refsIn,q<n):IsV s (hp.take n) l:=by
 rcases h with h|⟨r,rfl,h2⟩
 ·exact .inl h
 ·have:r<n:=hr r (by simp[AV.refsIn])
  exact .inr ⟨r,rfl,by rw[List.getElem?_take,if_pos this];exact h2⟩
theorem IsV.freeze{s:AV}{hp:Heap}{l:List Int}(h:IsV s hp l):∃hp1,AV.freeze deep s hp=some (.sl none (ints l),hp1)/\s.shp=none/\s.plain=true:=by
 rcases h with⟨rfl,rfl⟩|⟨r,rfl,h⟩
 ·exact⟨hp,rfl,rfl,rfl⟩
 ·exact⟨hp.set r (.arr none (ints l) true),by simp[AV.freeze,deep,h,zcx],rfl,rfl⟩
theorem zoT{s:AV}{H:Heap}{l:List Int}(h:IsV s H l):Am.frozen (.pv none (.sl none (ints l))) s H:=by
 rcases h with⟨rfl,rfl⟩|⟨r,rfl,h⟩
 ·exact⟨H,rfl⟩
 ·exact⟨H.set r (.arr none (ints l) true),by simp[AV.freezeRes,AV.freeze,deep,h,zcx,AV.shp]⟩
theorem zfO{st:St}{o r:Nat}{sh:Sh}{v q:AV}{K:AV->Prop}[Tag K](h1:st.fr.look o=some (.ptr r 0))(h2:st.hp[r]? =some (.box sh v)):valK (tupO (zse (zdg st (o,some sh)) (some [q]))) K=K (.tuple [v,q]):=by
 rw[zn7,h1]
 simp only[zqR h2]
 rfl
theorem zvQ{t:Tm}(h:t.fits=true)(hk:t.kind=0):0<=t.n/\t.n<=1099511627776:=by
 rw[Tm.zwq] at h
 have h1:t.node=true:=by simp at h;exact h.1
 cases t with
 |mk k n s ts=>
  simp only[Tm.kind] at hk
  subst hk
  simp[Tm.node,Tm.kind,Tm.n,Tm.name,Tm.args] at h1
  obtain⟨⟨⟨h2,h3⟩,_⟩,_⟩:=h1
  exact⟨of_decide_eq_true h2,of_decide_eq_true h3⟩
theorem zuM:∀{t:Tm},t.fits=true->∀w∈t.occ,0<=w/\w<=1099511627776:=by
 intro t
 induction t using Tm.zwl with
 |h t ih=>
  intro hf w hw
  rw[Tm.zwr] at hw
  by_cases hk:t.kind=0
  ·rw[if_pos hk,List.mem_singleton] at hw
   rw[hw]
   exact zvQ hf hk
  ·rw[if_neg hk] at hw
   obtain⟨u,hu,h⟩:=Tm.zwC hw
   exact ih u hu (Tm.zwm hf hu) w h
def qd(t:Tm):Prop:=t.kind=3/\t.name=[94]/\t.args.length=2
instance (t:Tm):Decidable (qd t):=inferInstanceAs (Decidable (_/\_))
def arg0(t:Tm):Tm:=match t.args with
 |x::_=>x
 |_=>.mk 0 0 [] []
def arg1(t:Tm):Tm:=match t.args with
 |_::y::_=>y
 |_=>.mk 0 0 [] []
theorem args_two{t:Tm}(h:t.args.length=2):t.args=[arg0 t,arg1 t]:=by
 unfold arg0 arg1
 match e:t.args,h with
 |[x,y],_=>rfl
theorem zgp{t:Tm}(h:t.args.length=2):t.args[0]? =some (arg0 t):=by rw[args_two h];rfl
theorem zgq{t:Tm}(h:t.args.length=2):t.args[1]? =some (arg1 t):=by rw[args_two h];rfl
theorem zjc{t:Tm}(h:t.args.length=2):arg0 t∈t.args:=List.mem_of_getElem? (zgp h)
theorem zb0{t:Tm}(h:t.args.length=2):arg1 t∈t.args:=List.mem_of_getElem? (zgq h)
def quants(t:Tm):List Tm:=if h:qd t then arg0 t::quants (arg1 t) else[]
termination_by t.size
decreasing_by exact Tm.zwk (zb0 h.2.2)
def hid(p g:Tm):List Int:=p.occ++Tm.occs (quants g)
def free(p g:Tm):List Int:=(vads [] g.occ).filter fun v=>decide (v ∉ hid p g)
def nilT:Tm:=.mk 2 0 [91,93] []
def zqY(x y:Tm):Tm:=.mk 3 0 [46] [x,y]
def lst:List Tm->Tm
 |[]=>nilT
 |x::r=>zqY x (lst r)
theorem ia0{es:List PV}{p:PV}(h:es[0]? =some p):zbH (some 4) [.pv none (.sl (some 4) es),.pv none (.int .i64 0)]=some (.iptr (some 4) p 0):=zaR h
theorem ia1{es:List PV}{p:PV}(h:es[1]? =some p):zbH (some 4) [.pv none (.sl (some 4) es),.pv none (.int .i64 1)]=some (.iptr (some 4) p 0):=by
 simp[zbH,aindex,h]
def zg(q:Nat):AV:=.agg [(none,.pv none (.int .i64 0)),(none,.pv none (.int .i64 0)),(none,.pv none (.str [])),(none,.sl (some 4) q 0 0 0)]
def lh(l:List Tm):Nat->Heap
 |0=>[.box (some 4) (zg 1),.arr (some 4) [] false,.box (some 4) (.agg [(none,.pv none (.int .i64 2)),(none,.pv none (.int .i64 0)),(none,.pv none (.str [91,93])),(none,.sl (some 4) 4 0 0 0)]),.arr (some 4) [] false,.arr (some 4) [] false]
 |i+1=>[.box (some 4) (zg 1),.arr (some 4) [] false,.box (some 4) (.pv (some 4) (lst (l.drop (l.length - (i+1)))).pv),.arr (some 4) [] false,.arr (some 4) [] true]
theorem zoD(x y:Tm)(hp:Heap):S 27 [.pv none (.str [46]),.tsl (some 4) [x.pv,y.pv]] hp=some (.ret (zqY x y).av,hp):=by
 refine zam (ps:=[(none,.str [46]),(none,.sl (some 4) [x.pv,y.pv])]) rfl rfl rfl rfl rfl ?_
 have hb:zaP [(none,.pv none (.int .i64 0)),(none,.pv none (.int .i64 0)),(none,.pv none (.str [])),(none,.tsl (some 4) [])] [0,2,3] [.pv none (.int .i64 3),.pv none (.str [46]),.pv none (.sl (some 4) [x.pv,y.pv])]=some (.pv (some 4) (zqY x y).pv):=rfl
 simp -dsimp -implicitDefEqProofs only[go_sem,seval,↓reduceIte,hb]
 try rfl
theorem zm4(l:List Tm)(hl:l.length<1000000000)(hp:Heap):S 28 [.pv none (.sl (some 4) (Tm.pvs l))] hp=some (.ret (lst l).av,hp):=by
 refine zam rfl rfl rfl (zab [(none,.sl (some 4) (Tm.pvs l))]) rfl ?_
 have hb:zaP [(none,.pv none (.int .i64 0)),(none,.pv none (.int .i64 0)),(none,.pv none (.str [])),(none,.tsl (some 4) [])] [0,2] [.pv none (.int .i64 2),.pv none (.str [91,93])]=some (.agg [(none,.pv none (.int .i64 2)),(none,.pv none (.int .i64 0)),(none,.pv none (.str [91,93])),(none,.tsl (some 4) [])]):=rfl
 have hw:IntKind.i64.wrap ((l.length:Int) - 1)=(l.length:Int) - 1:=zaq (by omega) (by omega)
 simp -dsimp -implicitDefEqProofs only[go_sem,seval,↓reduceIte,hb,hw,Tm.pvs_len,zae (Nat.zero_le _)]
 refine zcK (α:=Unit) l.length (fun _ _=>True) (fun i _=>⟨[(0,.pv none (.sl (some 4) (Tm.pvs l))),(2,.ptr 0 0),(3,.ptr 2 0),(4,.pv none (.int .i64 ((l.length:Int) - 1 - (i:Int))))],lh l i⟩) () ⟨trivial,?_⟩ ?_ ?_
 ·rw[show(l.length:Int) - 1 - ((0:Nat):Int)=(l.length:Int) - 1 by omega]
  rfl
 ·rintro i - h -
  obtain⟨j,hj⟩:∃j,j=l.length - 1 - i:=⟨_,rfl⟩
  have ej:(l.length:Int) - 1 - (i:Int)=(j:Int):=by omega
  have hc:(0:Int)<=(j:Int):=by omega
  obtain⟨u,hu⟩:∃u,l[j]? =some u:=⟨_,List.getElem?_eq_getElem (by omega)⟩
  have hdr:l.drop (l.length - (i+1))=u::l.drop (l.length - i):=by
   obtain⟨q1,e1⟩:=List.getElem?_eq_some_iff.1 hu
   have ea:l.length - (i+1)=j:=by omega
   have eb:l.length - i=j+1:=by omega
   rw[ea,eb,List.drop_eq_getElem_cons (by omega),e1]
  have w5:IntKind.i64.wrap ((j:Int) - 1)=(l.length:Int) - 1 - ((i+1:Nat):Int):=by rw[zaq (by omega) (by omega)];omega
  have hst:=fun hp=>zoD u (lst (l.drop (l.length - i))) hp
  simp only[Tm.av] at hst
  cases i with
  |zero=>
   have ej0:(l.length:Int) - 1 - 0=(j:Int):=by omega
   have hd0:l.drop (l.length - 0)=[]:=by rw[Nat.sub_zero,List.drop_length]
   rw[hd0] at hst hdr
   have hbs:∀a0 a1 a3:AObj,zbq (some 4) [a0,a1,.box (some 4) (.agg [(none,.pv none (.int .i64 2)),(none,.pv none (.int .i64 0)),(none,.pv none (.str [91,93])),(none,.sl (some 4) 4 0 0 0)]),a3,.arr (some 4) [] false] [.pv (some 4) u.pv,.agg [(none,.pv none (.int .i64 2)),(none,.pv none (.int .i64 0)),(none,.pv none (.str [91,93])),(none,.sl (some 4) 4 0 0 0)]]=some (.tsl (some 4) [u.pv,(lst []).pv],[a0,a1,.box (some 4) (.agg [(none,.pv none (.int .i64 2)),(none,.pv none (.int .i64 0)),(none,.pv none (.str [91,93])),(none,.sl (some 4) 4 0 0 0)]),a3,.arr (some 4) [] true]):=fun _ _ _=>rfl
   simp -dsimp -implicitDefEqProofs only[ej0,lh,go_sem,seval,↓reduceIte,hc,w5,zac (Tm.pvs_get hu),hst,hbs,zae (Nat.zero_le _)]
   rw[hdr]
   exact⟨(),rfl⟩
  |succ i=>
   simp -dsimp -implicitDefEqProofs only[ej,lh,go_sem,seval,↓reduceIte,hc,w5,zac (Tm.pvs_get hu),hst,zae (Nat.zero_le _)]
   rw[hdr]
   exact⟨(),rfl⟩
 ·rintro - -
  have hc:¬(0:Int)<=(l.length:Int) - 1 - (l.length:Int):=by omega
  cases hn:l.length with
  |zero=>
   rw[hn] at hc
   have:l=[]:=List.eq_nil_of_length_eq_zero hn
   subst this
   simp -dsimp -implicitDefEqProofs only[go_sem,seval,↓reduceIte,lh,hc,zaF,zae (Nat.zero_le _)]
   exact⟨_,rfl⟩
  |succ n=>
   rw[hn] at hc
   have e:l.drop (l.length - (n+1))=l:=by rw[hn,Nat.sub_self,List.drop_zero]
   simp -dsimp -implicitDefEqProofs only[go_sem,seval,↓reduceIte,lh,hc,e,zae (Nat.zero_le _)]
   try rfl
theorem IsV.elems{s:AV}{hp:Heap}{l:List Int}(h:IsV s hp l):Am.elems hp s=some (none,ints l):=by
 rcases h with⟨rfl,rfl⟩|⟨r,rfl,h⟩
 ·rfl
 ·simp[Am.elems,h,zcx]
def zwd(g:Tm):List Int:=(quants g).flatMap fun q=>vads [] q.occ
def hl(p g:Tm):List Int:=vads [] p.occ++zwd g
theorem IsV.keep{s:AV}{hp hp':Heap}{l:List Int}(h:IsV s hp l)(hP:PresV (.tsl none []) hp hp'):IsV s hp' l:=by
 rcases h with h|⟨r,h1,h2⟩
 ·exact .inl h
 ·exact .inr ⟨r,h1,hP.2 r _ h2 (fun v o n e=>by cases e)⟩
theorem IsV.len{s:AV}{hp:Heap}{l:List Int}(h:IsV s hp l):sLen [s]=some (.pv none (.int .i64 l.length)):=by
 rcases h with⟨rfl,rfl⟩|⟨r,rfl,_⟩ <;> rfl
theorem IsV.get{s:AV}{hp:Heap}{l:List Int}(h:IsV s hp l){i:Nat}{x:Int}(hx:l[i]? =some x):∃a,zbH none [s,.pv none (.int .i64 i)]=some a/\aload none hp a=some (.pv none (.int .i64 x)):=by
 rcases h with⟨rfl,rfl⟩|⟨r,rfl,h⟩
 ·simp at hx
 ·have hlt:=(List.getElem?_eq_some_iff.1 hx).1
  refine⟨_,zap hlt,?_⟩
  simp[aload,h,zcx,zjr hx,toAV]
theorem IsV.other{s:AV}{hp:Heap}{l:List Int}(h:IsV s hp l){r:Nat}{es es':List PV}{z z':Bool}(hr:hp[r]? =some (.arr (some 4) es z)):IsV s (hp.set r (.arr (some 4) es' z')) l:=by
 rcases h with h|⟨q,h1,h2⟩
 ·exact .inl h
 ·refine .inr ⟨q,h1,?_⟩
  have:r≠q:=fun e=>by rw[e,h2] at hr;cases hr
  rw[List.getElem?_set_ne this]
  exact h2
def zdb(v:Int):List (Int × PV)->Option PV
 |[]=>none
 |x::r=>if x.1=v then some x.2 else zdb v r
def mPut(v:Int)(p:PV):List (Int × PV)->List (Int × PV)
 |[]=>[(v,p)]
 |x::r=>if x.1=v then(v,p)::r else x::mPut v p r
def zaZ(m:List (Int × PV)):List (PV × PV):=m.map fun x=>(.int .i64 x.1,x.2)
theorem zfI(v:Int):∀m,afind false (.int .i64 v) (zaZ m)=some (zdb v m)
 |[]=>rfl
 |x::r=>by
  have ih:=zfI v r
  unfold zaZ at ih ⊢
  simp only[List.map_cons,afind,PV.same,if_true,zdb]
  by_cases h:x.1=v
  ·simp[h]
  ·have h':¬v=x.1:=fun e=>h e.symm
   simp only[decide_eq_false h',if_neg h]
   exact ih
theorem zdc(v:Int)(p:PV):∀m,aput false (.int .i64 v) p (zaZ m)=some (zaZ (mPut v p m))
 |[]=>rfl
 |x::r=>by
  have ih:=zdc v p r
  unfold zaZ at ih ⊢
  simp only[List.map_cons,aput,PV.same,if_true,mPut]
  by_cases h:x.1=v
  ·simp[h]
  ·have h':¬v=x.1:=fun e=>h e.symm
   simp only[decide_eq_false h',if_neg h,List.map_cons]
   rw[ih]
theorem zdP(v w:Int)(p:PV):∀m,zdb v (mPut w p m)=if v=w then some p else zdb v m
 |[]=>by
  by_cases h:v=w
  ·simp[mPut,zdb,h]
  ·have h':¬w=v:=fun e=>h e.symm
   simp[mPut,zdb,h,h']
 |x::r=>by
  have ih:=zdP v w p r
  unfold mPut
  by_cases h:x.1=w
  ·rw[if_pos h]
   by_cases e:v=w
   ·simp[zdb,e]
   ·have e':¬w=v:=fun q=>e q.symm
    have e2:¬x.1=v:=fun q=>e (q.symm.trans h)
    simp[zdb,e,e',e2]
  ·rw[if_neg h]
   simp only[zdb,ih]
   by_cases e:x.1=v
   ·have e2:¬v=w:=fun q=>h (e.trans q)
    simp[e,e2]
   ·simp[e]
theorem zhq{m:List (Int × PV)}{z:PV}{hp:Heap}{r:Nat}{s:Sh}{v:Int}(h:hp[r]? =some (.map none (zaZ m))):zbc false none (.pv none z) false hp [.map r,.pv s (.int .i64 v)]=some (.pv none ((zdb v m).getD z)):=by
 have hf:=zfI v m
 cases hm:zdb v m with
 |none=>rw[hm] at hf;exact zeV h hf
 |some x=>rw[hm] at hf;exact zeU h hf
def zfM(l:List Int):List (Int × PV):=l.map fun v=>(v,.int .i64 1)
theorem zfN(v:Int):∀l:List Int,(zdb v (zfM l)).getD (.int .i64 0)=.int .i64 (if v∈l then 1 else 0)
 |[]=>rfl
 |x::r=>by
  have ih:=zfN v r
  unfold zfM at ih ⊢
  simp only[List.map_cons,zdb]
  by_cases h:x=v
  ·subst h;simp
  ·have h':¬v=x:=fun e=>h e.symm
   rw[if_neg h,ih]
   simp[h']
theorem zk0(v:Int):∀l:List Int,v ∉ l->mPut v (.int .i64 1) (zfM l)=zfM (l++[v])
 |[],_=>rfl
 |x::r,h=>by
  have ih:=zk0 v r fun hm=>h (List.mem_cons_of_mem _ hm)
  unfold zfM at ih ⊢
  simp only[List.map_cons,mPut,List.cons_append]
  have h':¬x=v:=fun e=>h (by rw[e];exact List.mem_cons_self)
  rw[if_neg h',ih]
def gV(t:Tm)(l:List Int):Heap:=[.box (some 4) (.pv (some 4) t.pv),.arr none [] false,.box none (.sl none 3 l.length 0 l.length),.arr none (ints l) false,.map none (zaZ (zfM l)),.box none (.map 4)]
theorem zti(t0 u:Tm)(l:List Int)(ext:Heap)(hl:l.length<100000000):
  S 43 [u.av,.ptr 5 0,.ptr 2 0] (gV t0 l++ext)=some (.ret u.av,gV t0 (vadd l u.n)++ext):=by
 refine zaG rfl rfl rfl rfl ?_
 have hlim:l.length+1<=lim:=by unfold lim;omega
 by_cases hm:u.n∈l
 ·have e:vadd l u.n=l:=by simp[vadd,hm]
  rw[e]
  have hlk:∀(a0 a1 a2 a3 a5:AObj) (e:Heap),zbc false none (.pv none (.int .i64 0)) false (a0::a1::a2::a3::.map none (zaZ (zfM l))::a5::e) [.map 4,.pv none (.int .i64 u.n)]=some (.pv none (.int .i64 1)):=fun a0 a1 a2 a3 a5 e=>by
   rw[zhq (m:=zfM l) rfl,zfN,if_pos hm]
  simp -dsimp -implicitDefEqProofs only[go_sem,seval,↓reduceIte,gV,List.append_assoc,zah,zaf,zaj,zag,Nat.add_assoc,List.length_append,Tm.av,zaQ,hlk]
  rw[if_pos (by simp[AV.refsIn])]
  simp
 ·have e:vadd l u.n=l++[u.n]:=by simp[vadd,hm]
  rw[e]
  have hlk:∀(a0 a1 a2 a3 a5:AObj) (e:Heap),zbc false none (.pv none (.int .i64 0)) false (a0::a1::a2::a3::.map none (zaZ (zfM l))::a5::e) [.map 4,.pv none (.int .i64 u.n)]=some (.pv none (.int .i64 0)):=fun a0 a1 a2 a3 a5 e=>by
   rw[zhq (m:=zfM l) rfl,zfN,if_neg hm]
  have hms:∀(a0 a1 a2 a3 a5:AObj) (e:Heap),zb3 false none (a0::a1::a2::a3::.map none (zaZ (zfM l))::a5::e) [.map 4,.pv none (.int .i64 u.n),.pv none (.int .i64 1)]=some (.undef,a0::a1::a2::a3::.map none (zaZ (zfM (l++[u.n])))::a5::e):=fun a0 a1 a2 a3 a5 e=>by
   rw[zcL (es:=zaZ (zfM l)) rfl (zdc _ _ _),zk0 _ _ hm]
   rfl
  have hst:∀(n o' n':Nat) (a0 a1 a3 a4 a5:AObj) (e:Heap) (b:Nat),za5 none (b+6) (a0::a1::.box none (.sl none 3 n 0 n)::a3::a4::a5::e) [.ptr 2 0,.sl none 3 n' o' n']=some (.undef,a0::a1::.box none (.sl none 3 n' o' n')::a3::a4::a5::e):=fun n o' n' a0 a1 a3 a4 a5 e b=>zhH (by omega) rfl
  simp -dsimp -implicitDefEqProofs only[go_sem,seval,↓reduceIte,gV,List.append_assoc,zah,zaf,zaj,zag,Nat.add_assoc,List.length_append,Tm.av,zaQ,hlk,hms,hst,zcx,hlim,zrG]
  rw[if_pos (by simp[AV.refsIn])]
  simp
theorem zoR(t0:Tm):∀(t:Tm) (l:List Int) (ext:Heap),t.fits=true->t.size<10000000->l.length+t.size<100000000->
  ∃v e,S 30 [t.av,.func (.func 43) [] [.ptr 5 0,.ptr 2 0]] (gV t0 l++ext)=some (.ret v,gV t0 (vads l t.occ)++(ext++e))/\v.shp=some 4/\v.plain=true/\
   ∃e2,AV.freeze deep v (gV t0 (vads l t.occ)++(ext++e))=some (t.pv,gV t0 (vads l t.occ)++(ext++e2)):=by
 intro t
 induction t using Tm.zwl with
 |h t ih=>
  intro l ext hf ht hl
  have hts:=t.size_eq
  have hlen:=Tm.zwj t.args
  obtain⟨K,hK⟩:∃K:List Int->Heap,K=fun l=>gV t0 l++ext:=⟨_,rfl⟩
  have hKs:∀l,gV t0 l++ext=K l:=fun l=>by rw[hK]
  have hKl:∀l,(K l).length=ext.length+6:=fun l=>by rw[<-hKs];simp[gV]
  have hKa:∀l X,gV t0 l++(ext++X)=K l++X:=fun l X=>by rw[<-hKs,List.append_assoc]
  simp only[hKa,hKs]
  obtain⟨n,hn⟩:∃n,n=ext.length+6:=⟨_,rfl⟩
  rw[<-hn] at hKl
  rw[Tm.zwr]
  by_cases hk:t.kind=0
  ·rw[if_pos hk]
   have h1:=fun X=>zti t0 t l (ext++X) (by omega)
   simp only[hKa] at h1
   have e1:vads l [t.n]=vadd l t.n:=rfl
   rw[e1]
   refine⟨t.av,[],?_,rfl,rfl,⟨[],rfl⟩⟩
   rw[List.append_nil]
   refine zaG rfl rfl rfl rfl ?_
   have hk':=eq_true hk
   simp only[Tm.av] at h1
   simp -dsimp -implicitDefEqProofs only[go_sem,seval,↓reduceIte,Tm.av,zak,hk',h1,List.append_assoc,zah,zaf,zaj,zag,Nat.add_assoc,List.length_append,hKl,getN (hKl _),zcJ (hKl _),setN (hKl _),zd7 (hKl _)]
   rw[if_pos (by simp[AV.refsIn]),<-hKl (vadd l t.n)]
   exact List.take_left
  ·rw[if_neg hk]
   refine⟨.agg [(none,.pv none (.int .i64 t.kind)),(none,.pv none (.int .i64 t.n)),(none,.pv none (.str t.name)),(none,.sl (some 4) (n+5) t.args.length 0 t.args.length)],
    [.box (some 4) (.pv (some 4) t.pv),.box (some 4) (.agg [(none,.pv none (.int .i64 t.kind)),(none,.pv none (.int .i64 t.n)),(none,.pv none (.str t.name)),(none,.sl (some 4) (n+5) t.args.length 0 t.args.length)]),.arr (some 4) [] false,.box (some 4) (.agg [(none,.pv none (.int .i64 t.kind)),(none,.pv none (.int .i64 t.n)),(none,.pv none (.str t.name)),(none,.sl (some 4) (n+5) t.args.length 0 t.args.length)]),.arr (some 4) [] false,.arr (some 4) (Tm.pvs t.args) false],?_,rfl,rfl,?_⟩
   ·refine zaG rfl rfl rfl rfl ?_
    have hk':=eq_false hk
    have hb:zaP [(none,.pv none (.int .i64 0)),(none,.pv none (.int .i64 0)),(none,.pv none (.str [])),(none,.tsl (some 4) [])] [0,1,2] [.pv none (.int .i64 t.kind),.pv none (.int .i64 t.n),.pv none (.str t.name)]=some (.agg [(none,.pv none (.int .i64 t.kind)),(none,.pv none (.int .i64 t.n)),(none,.pv none (.str t.name)),(none,.tsl (some 4) [])]):=rfl
    have hle:∀k,n<=n+k:=fun k=>Nat.le_add_right _ _
    rw[hKl]
    simp -dsimp -implicitDefEqProofs only[go_sem,seval,↓reduceIte,Tm.av,zak,zaQ,zan,zad,hk',Tm.pvs_len,hb,zae (Nat.le_add_right _ _),List.append_assoc,zah,zaf,zaj,zag,Nat.add_assoc,List.length_append,hKl,getN (hKl _),zcJ (hKl _),setN (hKl _),zd7 (hKl _)]
    refine zcK (α:=Unit) t.args.length (fun _ _=>True) (fun i _=>⟨[(1,.func (.func 43) [] [.ptr 5 0,.ptr 2 0]),(4,.ptr (n+1) 0),(5,.ptr (n+3) 0),(22,.pv none (.sl (some 4) (Tm.pvs t.args))),(23,.pv none (.int .i64 t.args.length)),(24,.pv none (.int .i64 i))],K (vads l (Tm.occs (t.args.take i)))++appH n t i⟩) () ⟨trivial,?_⟩ ?_ ?_
    ·rw[List.take_zero]
     rfl
    ·rintro i - h -
     have hc:(i:Int)<(t.args.length:Int):=by omega
     obtain⟨u,hu⟩:∃u,t.args[i]? =some u:=⟨_,List.getElem?_eq_getElem h⟩
     have hum:=List.mem_of_getElem? hu
     have husz:=Tm.zwk hum
     have hst:=Tm.zwt hu
     have hle2:=Tm.zwo t.args (i+1)
     have hvl:=zjs (Tm.occs (t.args.take i)) l
     have hol:=Tm.zwH (t.args.take i)
     obtain⟨v,e,hcall,hvs,hvp,e2,hfz⟩:=ih u hum (vads l (Tm.occs (t.args.take i))) (ext++(appH n t i++[.box (some 4) (.pv (some 4) u.pv),.arr (some 4) [] false])) (Tm.zwm hf hum) (by omega) (by omega)
     rw[<-zgw,<-Tm.zwE hu] at hcall hfz
     simp only[List.append_assoc,hKa] at hcall hfz
     generalize vads l (Tm.occs (t.args.take (i+1)))=l2 at hcall hfz ⊢
     generalize vads l (Tm.occs (t.args.take i))=l1 at hcall hfz hvl ⊢
     have w2:IntKind.i64.wrap ((i:Int)+1)=((i+1:Nat):Int):=by rw[zaq (by omega) (by omega)];omega
     have hl:(Tm.pvs (t.args.take i)).length=i:=by rw[Tm.pvs_len,List.length_take];omega
     have hlim:i+1<=lim:=by unfold lim;omega
     have hbs:zbq (some 4) (K l2++(appH n t i++([.box (some 4) (.pv (some 4) u.pv),.arr (some 4) [] false]++e))) [v]=some (.tsl (some 4) [u.pv],K l2++(appH n t i++([.box (some 4) (.pv (some 4) u.pv),.arr (some 4) [] false]++e2))):=by
      simp only[zbq,zal,hfz,hvs,zbb,if_true]
     have hs1:∀(k k':List Int) (e e':Heap),zbF (K k++(appH n t i++e)) (K k'++(appH n t i++e')) (.ptr (n+3) 3)=true:=fun k k' e e'=>zhd (t:=t) (q:=n+5) (i:=i) (by rw[getN (hKl _)];rfl) (by rw[getN (hKl _)];rfl)
     simp only[Tm.av] at hcall
     simp only[appH,List.append_assoc,List.cons_append,List.nil_append] at hcall hbs hs1
     simp -dsimp -implicitDefEqProofs only[go_sem,seval,↓reduceIte,appH,hc,zac (Tm.pvs_get hu),zda,List.take_succ_cons,List.drop_succ_cons,List.all_cons,List.all_nil,hcall,hbs,hs1,w2,hl,hlim,Tm.zwp hu,zae (Nat.le_add_right _ _),zbu (Nat.le_add_right _ _),List.append_assoc,zah,zaf,zaj,zag,Nat.add_assoc,List.length_append,hKl,getN (hKl _),zcJ (hKl _),setN (hKl _),zd7 (hKl _)]
     refine⟨(),?_⟩
     rw[za2 6 (hKl _) rfl (by simp[AObj.refs,AV.ofComps,pures,AV.refsIn,AV.refsIn.go]) (by simp[AV.refsIn,AV.refsIn.gol])]
     rfl
    ·rintro - -
     have hc:¬(t.args.length:Int)<(t.args.length:Int):=by omega
     simp -dsimp -implicitDefEqProofs only[go_sem,seval,↓reduceIte,appH,hc,List.take_length,zaF,zae (Nat.le_add_right _ _),zbu (Nat.le_add_right _ _),List.append_assoc,zah,zaf,zaj,zag,Nat.add_assoc,List.length_append,hKl,getN (hKl _),zcJ (hKl _),setN (hKl _),zd7 (hKl _)]
     rw[if_neg (by simp[AV.refsIn,AV.refsIn.go])]
   ·have e:∀l hp,AV.freeze (7+1) (.agg l) hp=match AV.freeze.go 7 l hp with|some (ps,hp')=>some (.agg ps,hp')|none=>none:=fun _ _=>rfl
    cases t with
    |mk k n' s ts=>
     refine⟨[.box (some 4) (.pv (some 4) (Tm.mk k n' s ts).pv),.box (some 4) (.agg [(none,.pv none (.int .i64 k)),(none,.pv none (.int .i64 n')),(none,.pv none (.str s)),(none,.sl (some 4) (n+5) ts.length 0 ts.length)]),.arr (some 4) [] false,.box (some 4) (.agg [(none,.pv none (.int .i64 k)),(none,.pv none (.int .i64 n')),(none,.pv none (.str s)),(none,.sl (some 4) (n+5) ts.length 0 ts.length)]),.arr (some 4) [] false,.arr (some 4) (Tm.pvs ts) true],?_⟩
     show AV.freeze (7+1) (.agg _) _=_
     simp[e,AV.freeze.go,AV.freeze,getN (hKl _),setN (hKl _),Tm.kind,Tm.n,Tm.name,Tm.args,Tm.pvs_len,Tm.pv]
theorem ztj(t:Tm)(hv:t.valid=true)(hp:Heap):S 17 [t.av] hp=some (.ret (.pv none (.sl none (ints (vads [] t.occ)))),hp):=by
 refine zam rfl rfl rfl (zab [(some 4,t.pv)]) rfl ?_
 have hsz:=valid_size hv
 have h1:=fun hp=>za9 t hp (by omega)
 rw[hv] at h1
 have hn0:∀H:Heap,zbs none H=some (.sl none H.length 0 0 0,H++[.arr none [] false]):=fun H=>zbe (sh:=none) (by decide)
 obtain⟨v,e,h2,_,_,e2,hfz⟩:=zoR t t [] [] (valid_fits hv) (by omega) (by simp;omega)
 generalize vads [] t.occ=l at*
 simp only[Tm.av] at h1 h2
 have hmk:∀(a0 a1 a2 a3:AObj),za5 none 0 [a0,a1,a2,a3,.map none [],.box none (.pv none .nilmap)] [.ptr 5 0,.map 4]=some (.undef,[a0,a1,a2,a3,.map none [],.box none (.map 4)]):=fun _ _ _ _=>rfl
 have e0:gV t []++[]=[.box (some 4) (.pv (some 4) t.pv),.arr none [] false,.box none (.sl none 3 0 0 0),.arr none [] false,.map none [],.box none (.map 4)]:=rfl
 rw[e0] at h2
 simp only[gV,List.nil_append,List.cons_append] at h2
 have hal:∀a0 a1:AObj,zcR none (.tsl none []) [a0,a1] []=some (.ptr 2 0,[a0,a1,.box none (.sl none 3 0 0 0),.arr none [] false]):=fun _ _=>rfl
 have hfr:∀(a0 a1 a2 a4 a5:AObj),Am.frozen (.pv none (.sl none (ints l))) (.sl none 3 l.length 0 l.length) (a0::a1::a2::.arr none (ints l) false::a4::a5::e):=fun a0 a1 a2 a4 a5=>zoT (.inr ⟨3,rfl,rfl⟩)
 simp -dsimp -implicitDefEqProofs only[go_sem,seval,↓reduceIte,Tm.av,h1,hn0,hal,hmk,h2]
 exact hfr _ _ _ _ _
def MapB(m:List (Int × PV))(s:List Int):Prop:=∀v,(zdb v m).getD (.bool false)=.bool (decide (v∈s))
theorem MapB.put{m:List (Int × PV)}{s:List Int}(h:MapB m s)(v:Int):MapB (mPut v (.bool true) m) (s++[v]):=fun w=>by
 rw[zdP]
 by_cases e:w=v
 ·rw[if_pos e];simp[e]
 ·rw[if_neg e,h w];simp[e]
def cs(t:Tm):Prop:=t.kind=3/\t.name=[46]/\t.args.length=2
instance (t:Tm):Decidable (cs t):=inferInstanceAs (Decidable (_/\_))
def tl(t:Tm):Tm:=if h:cs t then tl (arg1 t) else t
termination_by t.size
decreasing_by exact Tm.zwk (zb0 h.2.2)
def els(t:Tm):List Tm:=if h:cs t then arg0 t::els (arg1 t) else[]
termination_by t.size
decreasing_by exact Tm.zwk (zb0 h.2.2)
theorem tl_c{t:Tm}(h:cs t):tl t=tl (arg1 t):=by rw[tl,dif_pos h]
theorem tl_n{t:Tm}(h:¬cs t):tl t=t:=by rw[tl,dif_neg h]
theorem zow{t:Tm}(h:cs t):els t=arg0 t::els (arg1 t):=by rw[els,dif_pos h]
theorem zox{t:Tm}(h:¬cs t):els t=[]:=by rw[els,dif_neg h]
theorem zl6:∀(n:Nat) (t:Tm),t.size=n->(els t).length<=t.size:=by
 intro n
 induction n using Nat.strongRecOn with
 |_ n ih=>
  intro t hn
  by_cases h:cs t
  ·have h3:=Tm.zwk (zb0 h.2.2)
   have:=ih _ (by omega) (arg1 t) rfl
   rw[zow h,List.length_cons];omega
  ·rw[zox h];exact Nat.zero_le _
theorem zfF{l:List Tm}{t:Tm}{a0 a1 a2 a3:AObj}:Am.frozen (.tuple [.pv none (.sl (some 4) (Tm.pvs l)),.pv (some 4) t.pv]) (.tuple [.sl (some 4) 4 l.length 0 l.length,.pv (some 4) t.pv]) [a0,a1,a2,a3,.arr (some 4) (Tm.pvs l) false]:=by
 refine⟨[a0,a1,a2,a3,.arr (some 4) (Tm.pvs l) true],?_⟩
 have e2:∀p hp,AV.freeze deep (.pv (some 4) p) hp=some (p,hp):=fun _ _=>rfl
 simp[AV.freezeRes,zal,e2,AV.freeze,deep,Tm.pvs_len,pvs,AV.shp]
theorem zhj(t:Tm)(hv:t.valid=true)(hp:Heap):S 11 [t.av] hp=some (.ret (.tuple [.pv none (.sl (some 4) (Tm.pvs (els t))),(tl t).av]),hp):=by
 refine zam rfl rfl rfl (zab [(some 4,t.pv)]) rfl ?_
 have hz:=valid_size hv
 have hlen:=zl6 _ t rfl
 have h1:=fun hp=>za9 t hp (by omega)
 have hn0:∀H:Heap,zbs (some 4) H=some (.sl (some 4) H.length 0 0 0,H++[.arr (some 4) [] false]):=fun H=>zbe (sh:=some 4) (by decide)
 simp only[Tm.av] at h1
 simp -dsimp -implicitDefEqProofs only[go_sem,seval,↓reduceIte,Tm.av,h1,hv,hn0]
 refine zba (fun n st=>∃(t1:Tm) (d:List Tm),n=t1.size/\t1.valid=true/\d++els t1=els t/\tl t1=tl t/\st=⟨[(1,.ptr 0 0),(3,.ptr 2 0),(4,.sl (some 4) 4 d.length 0 d.length)],[.box (some 4) (.pv (some 4) t1.pv),.arr (some 4) [] false,.box (some 4) (zg 3),.arr (some 4) [] false,.arr (some 4) (Tm.pvs d) false]⟩) (n:=t.size) ⟨t,[],rfl,hv,rfl,rfl,rfl⟩ ?_
 rintro n st ⟨t1,d,rfl,hv1,he,ht,rfl⟩
 have hdl:=congrArg List.length he
 rw[List.length_append] at hdl
 by_cases h:cs t1
 ·have hlt:=Tm.zwk (zb0 h.2.2)
  have v0:=zaJ hv1 (zjc h.2.2)
  have v1:=zaJ hv1 (zb0 h.2.2)
  have hcp:=fun hp=>zbL (arg0 t1) hp v0 (fit9 v0)
  have hlim:d.length+1<=lim:=by unfold lim;omega
  have hpl:=Tm.pvs_len d
  have k1:=eq_true h.1
  have k2:=eq_true h.2.1
  have k3:=eq_true (show(t1.args.length:Int)=2 by have:=h.2.2;omega)
  rw[zow h] at he
  simp only[Tm.av] at hcp
  simp -dsimp -implicitDefEqProofs only[go_sem,seval,↓reduceIte,zg,zak,zan,zad,Tm.pvs_len,k1,k2,k3,hcp,ia0 (Tm.pvs_get (zgp h.2.2)),ia1 (Tm.pvs_get (zgq h.2.2)),hpl,hlim]
  refine⟨_,hlt,arg1 t1,d++[arg0 t1],rfl,v1,by rw[<-he,List.append_assoc];rfl,by rw[<-ht,tl_c h],?_⟩
  rw[Tm.zwn,List.length_append]
  rfl
 ·have hcp:=fun hp=>zbL t1 hp hv1 (fit9 hv1)
  rw[zox h,List.append_nil] at he
  rw[tl_n h] at ht
  simp only[Tm.av] at hcp
  rw[<-he,<-ht]
  by_cases k1:t1.kind=3
  ·have k1':=eq_true k1
   by_cases k2:t1.name=[46]
   ·have k2':=eq_true k2
    have k3':=eq_false (show ¬(t1.args.length:Int)=2 by
     intro e
     exact h ⟨k1,k2,by omega⟩)
    simp -dsimp -implicitDefEqProofs only[go_sem,seval,↓reduceIte,zg,zak,zan,zad,Tm.pvs_len,k1',k2',k3',hcp]
    exact zfF
   ·have k2':=eq_false k2
    simp -dsimp -implicitDefEqProofs only[go_sem,seval,↓reduceIte,zg,zak,zan,zad,Tm.pvs_len,k1',k2',hcp]
    exact zfF
  ·have k1':=eq_false k1
   simp -dsimp -implicitDefEqProofs only[go_sem,seval,↓reduceIte,zg,zak,zan,zad,Tm.pvs_len,k1',hcp]
   exact zfF
def ll(t:Tm):Prop:=(tl t).kind=0\/((tl t).kind=2/\(tl t).name=[91,93])
instance (t:Tm):Decidable (ll t):=inferInstanceAs (Decidable (_\/_))
def mx(x y:Int):Int:=if x<y then y else x
def zbf(nm:List UInt8):Tm:=.mk 2 0 nm []
def strT(nm:List UInt8)(l:List Tm):Tm:=.mk 3 0 nm l
theorem zem{nm:List UInt8}(h:nm.length<=100):(zbf nm).valid=true:=by
 have:(nm.length:Int)<=100:=by omega
 refine zd6 ?_ (by have:(zbf nm).size=1:=rfl;omega)
 simp[zbf,Tm.fits,Tm.fitsAll,Tm.node,Tm.kind,Tm.n,Tm.name,Tm.args,this]
theorem zkJ{nm:List UInt8}{l:List Tm}(h:nm.length<=100)(h1:0<l.length)(h2:l.length<=8)(hl:Tm.fitsAll l=true):(strT nm l).fits=true:=by
 have a:(nm.length:Int)<=100:=by omega
 have b:0<(l.length:Int):=by omega
 have c:(l.length:Int)<=8:=by omega
 simp[strT,Tm.fits,Tm.node,Tm.kind,Tm.n,Tm.name,Tm.args,a,b,c,h1,hl]
theorem ze3(nm:List UInt8)(h:nm.length<=100)(hp:Heap):S 32 [.pv none (.str nm)] hp=some (.ret (zbf nm).av,hp):=by
 refine zam rfl rfl rfl (zab [(none,.str nm)]) rfl ?_
 have hv:=zem h
 have hb:zaP [(none,.pv none (.int .i64 0)),(none,.pv none (.int .i64 0)),(none,.pv none (.str [])),(none,.tsl (some 4) [])] [0,2] [.pv none (.int .i64 2),.pv none (.str nm)]=some (.agg [(none,.pv none (.int .i64 2)),(none,.pv none (.int .i64 0)),(none,.pv none (.str nm)),(none,.tsl (some 4) [])]):=rfl
 have hcl:∀H:Heap,S 29 [.agg [(none,.pv none (.int .i64 2)),(none,.pv none (.int .i64 0)),(none,.pv none (.str nm)),(none,.tsl (some 4) [])]] H=some (.ret (zbf nm).av,H):=fun H=>
  zb7 (F:=find tab) (prim:=prim) (f:=29) (args:=[.agg [(none,.pv none (.int .i64 2)),(none,.pv none (.int .i64 0)),(none,.pv none (.str nm)),(none,.tsl (some 4) [])]]) (ps:=[(some 4,(zbf nm).pv)]) (hp:=H) (hp1:=H) rfl rfl rfl rfl (zbL (zbf nm) [] hv (fit9 hv))
 simp only[Tm.av] at hcl
 simp -dsimp -implicitDefEqProofs only[go_sem,seval,↓reduceIte,Tm.av,hb,hcl]
 try rfl
theorem zfG(nm:List UInt8)(l:List Tm)(h1:0<l.length)(hv:(strT nm l).valid=true)(hp:Heap):S 8 [.pv none (.str nm),.pv none (.sl (some 4) (Tm.pvs l))] hp=some (.ret (strT nm l).av,hp):=by
 refine zam rfl rfl rfl (zab [(none,.str nm),(none,.sl (some 4) (Tm.pvs l))]) rfl ?_
 have hb:zaP [(none,.pv none (.int .i64 0)),(none,.pv none (.int .i64 0)),(none,.pv none (.str [])),(none,.tsl (some 4) [])] [0,2,3] [.pv none (.int .i64 3),.pv none (.str nm),.pv none (.sl (some 4) (Tm.pvs l))]=some (.pv (some 4) (strT nm l).pv):=rfl
 have hcl:=fun hp=>zbL (strT nm l) hp hv (fit9 hv)
 have hne:=eq_false (show ¬(l.length:Int)=0 by omega)
 simp only[Tm.av] at hcl
 simp -dsimp -implicitDefEqProofs only[go_sem,seval,↓reduceIte,Tm.av,hb,hcl,Tm.pvs_len,hne]
 try rfl
theorem zq7{f:FuncId}{fn:AFn}{ps:List (Sh × PV)}{args:List AV}{t:Tm}{hp hp1:Heap}(hp0:prim f=none)(hf:find tab f=some fn)(hm:fn.heapMode=false)(hz:zal args hp=some (ps,hp1))(hr:fn.rcv=none)(h:S f (pvs ps) []=some (.ret t.av,[])):S f args hp=some (.ret t.av,hp1):=by
 have h:=zb7 (F:=find tab) (prim:=prim) (f:=f) (args:=args) (ps:=ps) (hp:=hp) (hp1:=hp1) hp0 hf hm hz h hr
 have hs:∀t:Tm,t.av.scalar=false:=fun t=>by cases t;rfl
 rw[hs] at h
 exact h
def errN:List UInt8:=[101,114,114,111,114]
def errT(f:Tm):Tm:=strT errN [f,nilT]
theorem zsZ(fn:List UInt8)(l:List Tm)(h1:0<l.length)(hv1:(strT fn l).valid=true)(hv2:(errT (strT fn l)).valid=true)(hp:Heap):S 72 [.pv none (.str fn),.pv none (.sl (some 4) (Tm.pvs l))] hp=some (.ret (errT (strT fn l)).av,hp):=by
 refine zam rfl rfl rfl (zab [(none,.str fn),(none,.sl (some 4) (Tm.pvs l))]) rfl ?_
 have ha:=zfG fn l h1 hv1
 have hb:=ze3 [91,93] (by decide)
 have hc:∀H:Heap,S 8 [.pv none (.str errN),.tsl (some 4) [(strT fn l).pv,nilT.pv]] H=some (.ret (errT (strT fn l)).av,H):=fun H=>
  zq7 (ps:=[(none,.str errN),(none,.sl (some 4) (Tm.pvs [strT fn l,nilT]))]) rfl rfl rfl rfl rfl (zfG errN [strT fn l,nilT] (by simp) hv2 [])
 have e:zbf [91,93]=nilT:=rfl
 rw[e] at hb
 simp only[Tm.av] at ha hb hc
 generalize strT fn l=F at*
 simp only[errN] at hc
 simp -dsimp -implicitDefEqProofs only[go_sem,seval,↓reduceIte,Tm.av,ha,hb,hc]
 try rfl
def tyN:List UInt8:=[116,121,112,101,95,101,114,114,111,114]
def cul(t:Tm):Tm:=if 2000<t.size+4 then zbf [46,46,46] else t
def typT(nm:List UInt8)(t:Tm):Tm:=errT (strT tyN [zbf nm,cul t])
theorem zq8{t:Tm}(hv:t.valid=true):(cul t).valid=true/\(cul t).size+4<=2000:=by
 unfold cul
 split
 ·exact⟨zem (by decide),by have:(zbf [46,46,46]).size=1:=rfl;omega⟩
 ·exact⟨hv,by omega⟩
theorem zhk{nm:List UInt8}(hn:nm.length<=100){t:Tm}(hv:t.valid=true):(strT tyN [zbf nm,cul t]).valid=true/\(typT nm t).valid=true:=by
 obtain⟨h1,h2⟩:=zq8 hv
 have h3:=zem hn
 have f1:(strT tyN [zbf nm,cul t]).fits=true:=zkJ (by decide) (by simp) (by simp) (by simp[Tm.fitsAll,valid_fits h1,valid_fits h3])
 have s1:(strT tyN [zbf nm,cul t]).size=1+(1+((cul t).size+0)):=by rw[Tm.size_eq];rfl
 have f2:(typT nm t).fits=true:=zkJ (by decide) (by simp) (by simp) (by simp[Tm.fitsAll,f1];decide)
 have s2:(typT nm t).size=1+((strT tyN [zbf nm,cul t]).size+(1+0)):=by
  show(errT _).size=_
  rw[Tm.size_eq]
  rfl
 exact⟨zd6 f1 (by omega),zd6 f2 (by omega)⟩
theorem zs0(nm:List UInt8)(hn:nm.length<=100)(t:Tm)(hv:t.valid=true)(hp:Heap):S 73 [t.av,.pv none (.str tyN),.pv none (.sl none [.str nm])] hp=some (.ret (typT nm t).av,hp):=by
 refine zam rfl rfl rfl (zab [(some 4,t.pv),(none,.str tyN),(none,.sl none [.str nm])]) rfl ?_
 have hz:=valid_size hv
 have h1:=fun hp=>za9 t hp (by omega)
 have h2:=fun hp=>zmf t hp (by omega)
 have h3:=ze3 nm hn
 have h4:=ze3 [46,46,46] (by decide)
 obtain⟨v1,v2⟩:=zhk hn hv
 have hn0:∀H:Heap,zbs (some 4) H=some (.sl (some 4) H.length 0 0 0,H++[.arr (some 4) [] false]):=fun H=>zbe (sh:=some 4) (by decide)
 have hmin:min t.size 2001=t.size:=by omega
 rw[hmin] at h2
 have hsl:=eq_false (show ¬(100:Int)<(nm.length:Int) by omega)
 have hia:zbH none [.pv none (.sl none [.str nm]),.pv none (.int .i64 0)]=some (.iptr none (.str nm) 0):=rfl
 have w1:IntKind.i64.wrap 4=4:=by decide
 have w2:IntKind.i64.wrap ((4:Int)+(t.size:Int))=4+(t.size:Int):=zaq (by omega) (by omega)
 have w3:IntKind.i64.wrap 1=1:=by decide
 have hp0:Tm.pvs []=[]:=rfl
 have hra:∀(a0 a1 a2:AObj),S 72 [.pv none (.str tyN),.sl (some 4) 3 2 0 2] [a0,a1,a2,.arr (some 4) [(zbf nm).pv,(cul t).pv] false]=some (.ret (typT nm t).av,[a0,a1,a2,.arr (some 4) [(zbf nm).pv,(cul t).pv] true]):=fun a0 a1 a2=>
  zq7 (ps:=[(none,.str tyN),(none,.sl (some 4) (Tm.pvs [zbf nm,cul t]))]) rfl rfl rfl rfl rfl (zsZ tyN [zbf nm,cul t] (by simp) v1 v2 [])
 have hl1:(1:Nat)+1<=lim:=by unfold lim;omega
 have hl0:(0:Nat)+1<=lim:=by unfold lim;omega
 simp only[Tm.av] at h1 h2 h3 h4 hra
 simp -dsimp -implicitDefEqProofs only[go_sem,seval,↓reduceIte,Tm.av,h1,hv,hn0]
 refine zcK (α:=Unit) 1 (fun _ _=>True) (fun i _=>⟨[(1,.pv none (.str tyN)),(2,.pv none (.sl none [.str nm])),(3,.ptr 0 0),(6,.ptr 1 0),(7,.sl (some 4) 3 i 0 i),(14,.pv none (.sl none [.str nm])),(15,.pv none (.int .i64 1)),(16,.pv none (.int .i64 i))],[.box (some 4) (.pv (some 4) t.pv),.box (some 4) (zg 2),.arr (some 4) [] false,.arr (some 4) (Tm.pvs ([zbf nm].take i)) false]⟩) () ⟨trivial,rfl⟩ ?_ ?_
 ·rintro i - hi -
  have:i=0:=by omega
  subst this
  have hc:(0:Int)<(1:Int):=by omega
  have hap:∀a0 a1 a2:AObj,zbm (some 4) [a0,a1,a2,.arr (some 4) [] false] [.sl (some 4) 3 0 0 0,.tsl (some 4) [(zbf nm).pv]]=some (.sl (some 4) 3 1 0 1,[a0,a1,a2,.arr (some 4) [(zbf nm).pv] false]):=fun _ _ _=>rfl
  have htk:Tm.pvs ([zbf nm].take 0)=[]:=rfl
  have htk1:Tm.pvs ([zbf nm].take 1)=[(zbf nm).pv]:=rfl
  generalize (zbf nm).pv=X at*
  simp -dsimp -implicitDefEqProofs only[go_sem,seval,↓reduceIte,zg,htk,hp0,hc,hia,hsl,h3,hap,w3]
  exact⟨(),by rw[htk1];rfl⟩
 ·rintro - -
  have hc:¬(1:Int)<(1:Int):=by omega
  have htk:Tm.pvs ([zbf nm].take 1)=[(zbf nm).pv]:=rfl
  by_cases hbig:(2000:Int)<4+(t.size:Int)
  ·have hcu:cul t=zbf [46,46,46]:=by unfold cul;rw[if_pos (by omega)]
   have hap:∀(a0 a1 a2:AObj),zbm (some 4) [a0,a1,a2,.arr (some 4) [(zbf nm).pv] false] [.sl (some 4) 3 1 0 1,.tsl (some 4) [(zbf [46,46,46]).pv]]=some (.sl (some 4) 3 2 0 2,[a0,a1,a2,.arr (some 4) [(zbf nm).pv,(zbf [46,46,46]).pv] false]):=fun _ _ _=>rfl
   rw[hcu] at hra
   generalize (zbf [46,46,46]).pv=Y at*
   generalize (zbf nm).pv=X at*
   simp -dsimp -implicitDefEqProofs only[go_sem,seval,↓reduceIte,zg,htk,hc,h2,w1,w2,hbig,h4,hap,hra]
   rfl
  ·have hcu:cul t=t:=by unfold cul;rw[if_neg (by omega)]
   have hap:∀(a0 a1 a2:AObj),zbm (some 4) [a0,a1,a2,.arr (some 4) [(zbf nm).pv] false] [.sl (some 4) 3 1 0 1,.tsl (some 4) [t.pv]]=some (.sl (some 4) 3 2 0 2,[a0,a1,a2,.arr (some 4) [(zbf nm).pv,t.pv] false]):=fun _ _ _=>rfl
   rw[hcu] at hra
   generalize (zbf nm).pv=X at*
   simp -dsimp -implicitDefEqProofs only[go_sem,seval,↓reduceIte,zg,htk,hc,h2,w1,w2,hbig,hap,hra]
   rfl
theorem zm1(nm:List UInt8)(hn:nm.length<=100)(t:Tm)(hv:t.valid=true)(hp:Heap):S 55 [.pv none (.str nm),t.av] hp=some (.ret (typT nm t).av,hp):=by
 refine zam rfl rfl rfl (zab [(none,.str nm),(some 4,t.pv)]) rfl ?_
 have h1:∀H:Heap,S 73 [t.av,.pv none (.str tyN),.tsl none [.str nm]] H=some (.ret (typT nm t).av,H):=fun H=>zq7 (ps:=[(some 4,t.pv),(none,.str tyN),(none,.sl none [.str nm])]) rfl rfl rfl rfl rfl (zs0 nm hn t hv [])
 simp only[Tm.av,tyN] at h1
 simp -dsimp -implicitDefEqProofs only[go_sem,seval,↓reduceIte,Tm.av,h1]
 try rfl
def zfH:List UInt8:=[105,110,115,116,97,110,116,105,97,116,105,111,110,95,101,114,114,111,114]
def instT:Tm:=errT (zbf zfH)
theorem zen:instT.valid=true:=by decide
theorem zm2(hp:Heap):S 53 [] hp=some (.ret instT.av,hp):=by
 refine zam (ps:=[]) rfl rfl rfl rfl rfl ?_
 have h0:∀H:Heap,S 8 [.pv none (.str zfH),.pv none (.sl (some 4) [])] H=some (.ret (zbf zfH).av,H):=fun H=>by
  refine zam rfl rfl rfl (zab [(none,.str zfH),(none,.sl (some 4) [])]) rfl ?_
  have ha:=ze3 zfH (by decide)
  simp only[Tm.av] at ha
  simp -dsimp -implicitDefEqProofs only[go_sem,seval,↓reduceIte,Tm.av,ha]
  try rfl
 have h1:∀H:Heap,S 72 [.pv none (.str zfH),.tsl (some 4) []] H=some (.ret instT.av,H):=fun H=>zq7 (ps:=[(none,.str zfH),(none,.sl (some 4) [])]) rfl rfl rfl rfl rfl (by
  refine zam rfl rfl rfl (zab [(none,.str zfH),(none,.sl (some 4) [])]) rfl ?_
  have hb:=ze3 [91,93] (by decide)
  have hc:∀H:Heap,S 8 [.pv none (.str errN),.tsl (some 4) [(zbf zfH).pv,nilT.pv]] H=some (.ret instT.av,H):=fun H=>
   zq7 (ps:=[(none,.str errN),(none,.sl (some 4) (Tm.pvs [zbf zfH,nilT]))]) rfl rfl rfl rfl rfl (zfG errN [zbf zfH,nilT] (by decide) zen [])
  have e:zbf [91,93]=nilT:=rfl
  rw[e] at hb
  simp only[Tm.av,errN] at h0 hb hc
  generalize (zbf zfH).pv=X at*
  simp -dsimp -implicitDefEqProofs only[go_sem,seval,↓reduceIte,Tm.av,h0,hb,hc]
  try rfl)
 simp only[Tm.av,zfH] at h1
 simp -dsimp -implicitDefEqProofs only[go_sem,seval,↓reduceIte,Tm.av,h1]
 try rfl
theorem find_mem{l:List B}{v:Int}(h:fndB l v=true):(v,toB l v)∈l:=List.mem_of_getElem? (zdr h)
theorem zoE{l:List B}{v:Int}{t:Tm}{x:B}(h:x=(v,t)\/x∈l):x∈insB l v t:=by
 unfold insB
 simp only[List.mem_append,List.mem_singleton]
 rcases h with h|h
 ·exact .inl (.inr h)
 ·rw[<-List.take_append_drop (lbB l v) l] at h
  rcases List.mem_append.1 h with h|h
  ·exact .inl (.inl h)
  ·exact .inr h
theorem zuv{l:List B}(hs:Srt' l){b:B}(hb:b∈l):fndB l b.1=true/\toB l b.1=b.2:=by
 obtain⟨i,hlt,rfl⟩:=List.getElem_of_mem hb
 have hg:=List.getElem?_eq_getElem hlt
 obtain⟨h1,h2⟩:=zru hs hg
 refine⟨h1,?_⟩
 unfold toB
 rw[h2,hg]
theorem zre{l:List B}(hs:Srt' l)(v:Int):fndB l v=true↔v∈l.map (·.1):=by
 constructor
 ·intro h;exact List.mem_map.2 ⟨_,find_mem h,rfl⟩
 ·intro h
  obtain⟨b,hb,rfl⟩:=List.mem_map.1 h
  exact(zuv hs hb).1
theorem zkP{n:Int}(h:0<=n/\n<=1099511627776):(tvar n).fits=true:=by
 simp[tvar,Tm.fits,Tm.fitsAll,Tm.node,Tm.kind,Tm.n,Tm.name,Tm.args,h.1,h.2]
open Classical in
noncomputable def okb(l:List B):Bool:=decide (OKB l)
theorem okb_iff{l:List B}:okb l=true↔OKB l:=by unfold okb;simp
noncomputable def rsR(l:List B)(t:Tm):Tm × Int:=if okb l=true/\t.valid=true then(if(rs l t).size<=2000 then(rs l t,0) else(zt,2)) else(zt,1)
def IsS(s:AV)(hp:Heap)(l:List B):Prop:=s=.pv none (.sl (some 5) (bds l))\/IsB s hp l
theorem IsS.more{s:AV}{hp:Heap}{l:List B}(h:IsS s hp l)(e:Heap):IsS s (hp++e) l:=h.elim .inl fun h=>.inr (h.more e)
theorem IsS.place{s:AV}{hp:Heap}{l:List B}(h:IsS s hp l)(v:Int)(hs:Srt' l)(hl:l.length<1000000000)(e:Heap):
  S 97 [s,.pv none (.int .i64 v)] (hp++e)=some (.ret (.tuple [.pv none (.int .i64 (lbB l v:Int)),.pv none (.bool (fndB l v))]),hp++e):=by
 rcases h.more e with rfl|h
 ·exact zgo l v hs hl _
 ·exact zhb h v hs hl
theorem IsS.elem{s:AV}{hp:Heap}{l:List B}(h:IsS s hp l){i:Nat}{b:B}(hb:l[i]? =some b):
  ∃p q,zbH (some 5) [s,.pv none (.int .i64 i)]=some p/\zd9 1 [p]=some q/\∀e,aload (some 4) (hp++e) q=some (.pv (some 4) b.2.pv):=by
 have hlt:=(List.getElem?_eq_some_iff.1 hb).1
 rcases h with rfl|h
 ·refine⟨_,_,zac (zbr hb),rfl,fun e=> ?_⟩
  simp[aload,zdO]
 ·rcases h with⟨rfl,rfl⟩|⟨r,rfl,hr⟩
  ·simp at hb
  ·refine⟨_,_,zap hlt,rfl,fun e=> ?_⟩
   have h1:(hp++e)[r]? =some (.arr (some 5) (bds l) false):=by rw[List.getElem?_append_left (zbX hr)];exact hr
   simp[aload,h1,zaX,zbr hb,zdO]
def zagg(q:Nat):AV:=.agg [(none,.pv none (.int .i64 0)),(none,.pv none (.int .i64 0)),(none,.pv none (.str [])),(none,.sl (some 4) q 0 0 0)]
theorem IsS.low{s:AV}{hp:Heap}{l:List B}(h:IsS s hp l)(k:Nat):s.refsIn.all (fun q=>decide (q<hp.length+k))=true:=by
 rw[List.all_eq_true]
 intro q hq
 rcases h with rfl|h
 ·cases hq
 ·have:=h.low q hq
  simp;omega
def bndX(n:Nat)(t:Tm):Heap:=[.box (some 4) (.pv (some 4) t.pv),.box (some 4) (zagg (n+3)),.arr (some 4) [] false,.arr (some 4) [] false]
theorem ze1{s:AV}{hp:Heap}{l:List B}(h:IsS s hp l)(hs:Srt' l)(hl:l.length<1000000000)(t:Tm)(hk:t.kind=0)(hf:fndB l t.n=true):
  S 93 [s,t.av] hp=some (.ret (.tuple [(toB l t.n).av,.pv none (.bool true)]),hp):=by
 refine zaG rfl rfl rfl rfl ?_
 have hpl:=fun e=>h.place t.n hs hl e
 obtain⟨p,q,h1,h2,h3⟩:=h.elem (zdr hf)
 rw[hf] at hpl
 simp only at h3
 simp -dsimp -implicitDefEqProofs only[go_sem,seval,↓reduceIte,Tm.av,zak,zaQ,hk,hpl,h1,h2,h3,List.append_assoc,zah,zaf,zaj,zag,Nat.add_assoc,List.length_append]
 rw[zfO rfl ((zah hp _ 1).trans rfl)]
 refine⟨rfl,?_⟩
 rw[if_pos (by simp[AV.refsIn,AV.refsIn.gol,Tm.av])]
 exact List.take_left
theorem zgr{s:AV}{hp:Heap}{l:List B}(h:IsS s hp l)(hs:Srt' l)(hl:l.length<1000000000)(t:Tm)(hf:¬(t.kind=0/\fndB l t.n=true)):
  S 93 [s,t.av] hp=some (.ret (.tuple [zagg (hp.length+3),.pv none (.bool false)]),hp++bndX hp.length t):=by
 refine zaG rfl rfl rfl rfl ?_
 have hpl:=fun e=>h.place t.n hs hl e
 by_cases hk:t.kind=0
 ·have hf':fndB l t.n=false:=by
   cases e:fndB l t.n with
   |true=>exact absurd ⟨hk,e⟩ hf
   |false=>rfl
  rw[hf'] at hpl
  have hk':=eq_true hk
  simp -dsimp -implicitDefEqProofs only[go_sem,seval,↓reduceIte,Tm.av,zak,zaQ,hk',hpl,hb0,zae (Nat.le_add_right _ _),List.append_assoc,zah,zaf,zaj,zag,Nat.add_assoc,List.length_append]
  rw[zfO rfl ((zah hp _ 1).trans rfl)]
  refine⟨rfl,?_⟩
  rw[if_neg (by simp[AV.refsIn,AV.refsIn.gol,AV.refsIn.go,zagg])]
  rfl
 ·have hk':=eq_false hk
  simp -dsimp -implicitDefEqProofs only[go_sem,seval,↓reduceIte,Tm.av,zak,zaQ,hk',hb0,zae (Nat.le_add_right _ _),List.append_assoc,zah,zaf,zaj,zag,Nat.add_assoc,List.length_append]
  rw[zfO rfl ((zah hp _ 1).trans rfl)]
  refine⟨rfl,?_⟩
  rw[if_neg (by simp[AV.refsIn,AV.refsIn.gol,AV.refsIn.go,zagg])]
  rfl
theorem zkC{s:AV}{hp:Heap}{l:List B}(h:IsS s hp l)(hO:OKB l)(hl:l.length<1000000000)(t:Tm)(hv:t.valid=true):
  S 91 [s,t.av] hp=some (.ret (flw l t).av,hp):=by
 refine zaG rfl rfl rfl rfl ?_
 simp -dsimp -implicitDefEqProofs only[go_sem,seval,↓reduceIte,Tm.av,List.append_assoc,zah,zaf,zaj,zag,Nat.add_assoc,List.length_append]
 refine zba (fun n st=>∃t1:Tm,n=mu l t1/\t1.valid=true/\flw l t1=flw l t/\st=⟨[(0,s),(3,.ptr hp.length 0),(4,.ptr (hp.length+1) 0)],hp++[.box (some 4) (.pv (some 4) t1.pv),.box (some 4) (zagg (hp.length+2)),.arr (some 4) [] false]⟩) (n:=mu l t) ⟨t,rfl,hv,rfl,?_⟩ ?_
 ·simp -dsimp -implicitDefEqProofs only[go_sem,seval,↓reduceIte]
  try rfl
 ·rintro n st ⟨t1,rfl,hv1,he,rfl⟩
  by_cases hc:t1.kind=0/\fndB l t1.n=true
  ·obtain⟨hk,hf⟩:=hc
   have hb:=fun e=>ze1 (h.more e) hO.good.1 hl t1 hk hf
   simp only[Tm.av] at hb
   have hlt:=zgg hO.Acyc hk hf
   simp -dsimp -implicitDefEqProofs only[go_sem,seval,↓reduceIte,hb,List.append_assoc,zah,zaf,zaj,zag,Nat.add_assoc,List.length_append]
   refine⟨mu l (toB l t1.n),hlt,toB l t1.n,rfl,(hO.to hf).1,by rw[<-he,zkU hO.Acyc hk hf],?_⟩
   rw[za2 3 rfl rfl (by simp[AObj.refs,AV.ofComps,pures,AV.refsIn,AV.refsIn.go,zagg]) (by simp[AV.refsIn,AV.refsIn.gol,h.low])]
   rfl
  ·have hb:=fun e=>zgr (h.more e) hO.good.1 hl t1 hc
   have he2:flw l t1=t1:=by
    by_cases hk:t1.kind=0
    ·exact zfb hO.Acyc (valid_fits hv1) hk fun e=>hc ⟨hk,e⟩
    ·exact zhx l hk
   rw[he2] at he
   rw[<-he]
   simp only[Tm.av] at hb
   simp -dsimp -implicitDefEqProofs only[go_sem,seval,↓reduceIte,hb,bndX,zagg,zaF,zae (Nat.le_add_right _ _),List.append_assoc,zah,zaf,zaj,zag,Nat.add_assoc,List.length_append]
   refine⟨rfl,?_⟩
   rw[if_pos (by simp[AV.refsIn,Tm.av])]
   exact List.take_left
def Dep(l:List B)(v w:Int):Prop:=fndB l v=true/\w∈(toB l v).occ
theorem zsX{l:List B}{r:Int->Nat}(hr:∀v,fndB l v=true->∀w∈(toB l v).occ,fndB l w=true->r w<r v){a b:Int}(h:Relation.TransGen (Dep l) a b)(hb:fndB l b=true):r b<r a:=by
 induction h with
 |single h=>exact hr _ h.1 _ h.2 hb
 |tail h1 h2 ih=>exact Nat.lt_trans (hr _ h2.1 _ h2.2 hb) (ih h2.1)
theorem zsY{l:List B}{x:Int}(h:Relation.TransGen (Dep l) x x)(hx:fndB l x=true):¬Acyc l:=fun⟨_,hr⟩=>Nat.lt_irrefl _ (zsX hr h hx)
def MapI(m:List (Int × PV))(f:Int->Int):Prop:=∀v,(zdb v m).getD (.int .i64 0)=.int .i64 (f v)
theorem MapI.put{m:List (Int × PV)}{f:Int->Int}(h:MapI m f)(v x:Int):MapI (mPut v (.int .i64 x) m) (fun w=>if w=v then x else f w):=fun w=>by
 rw[zdP]
 by_cases e:w=v
 ·simp[e]
 ·simp only[if_neg e];exact h w
structure CInv(l:List B)(st:Int->Int):Prop where
 val:∀o,st o=0\/st o=1\/st o=2
 bnd:∀o,st o≠0->fndB l o=true
 done:∃(rk:Int->Nat) (c:Nat),∀v,st v=2->rk v<c/\∀w∈(toB l v).occ,fndB l w=true->st w=2/\rk w<rk v
structure CPost(l:List B)(st st':Int->Int)(v:Int):Prop where
 inv:CInv l st'
 opn:∀o,st' o=1↔st o=1
 dn:∀o,st o=2->st' o=2
 me:fndB l v=true->st' v=2
def cnt(l:List B)(st:Int->Int):Nat:=(l.filter fun b=>decide (st b.1=0)).length
theorem zvm{l:List B}{st st':Int->Int}(h:∀o,st o≠0->st' o≠0):cnt l st'<=cnt l st:=by
 unfold cnt
 induction l with
 |nil=>exact Nat.le_refl _
 |cons x r ih=>
  simp only[List.filter_cons]
  by_cases h1:st' x.1=0
  ·have h2:st x.1=0:=by
    rcases Int.lt_trichotomy (st x.1) 0 with h3|h3|h3
    ·exact absurd h1 (h _ (by omega))
    ·exact h3
    ·exact absurd h1 (h _ (by omega))
   simp[h1,h2];exact ih
  ·by_cases h2:st x.1=0
   ·simp[h1,h2];omega
   ·simp[h1,h2];exact ih
theorem ztx{st st':Int->Int}(h:∀o,st o≠0->st' o≠0){v:Int}(h0:st v=0)(h1:st' v≠0){t:Tm}:∀{l:List B},(v,t)∈l->cnt l st'<cnt l st
 |[],hm=>by cases hm
 |x::r,hm=>by
  have hle:=zvm (l:=r) h
  unfold cnt at hle ⊢
  simp only[List.filter_cons]
  by_cases e:x.1=v
  ·rw[e]
   simp[h0,h1];omega
  ·have hr:(v,t)∈r:=by
    rcases List.mem_cons.1 hm with h|h
    ·exact absurd (by rw[<-h]) e
    ·exact h
   have ih:=ztx h h0 h1 hr
   unfold cnt at ih
   by_cases h2:st' x.1=0
   ·have h3:st x.1=0:=by
     rcases Int.lt_trichotomy (st x.1) 0 with h3|h3|h3
     ·exact absurd h2 (h _ (by omega))
     ·exact h3
     ·exact absurd h2 (h _ (by omega))
    simp[h2,h3];omega
   ·by_cases h3:st x.1=0
    ·simp[h2,h3];omega
    ·simp[h2,h3];omega
theorem CPost.mono{l:List B}{st st':Int->Int}{v:Int}(h:CInv l st)(hp:CPost l st st' v)(o:Int)(ho:st o≠0):st' o≠0:=by
 rcases h.val o with e|e|e
 ·exact absurd e ho
 ·rw[(hp.opn o).2 e];decide
 ·rw[hp.dn o e];decide
theorem CInv.open_{l:List B}{st:Int->Int}(h:CInv l st){v:Int}(hf:fndB l v=true)(h0:st v=0):CInv l (fun w=>if w=v then 1 else st w):=by
 obtain⟨h1,h2,rk,c,h3⟩:=h
 refine⟨fun o=> ?_,fun o ho=> ?_,rk,c,fun w hw=> ?_⟩
 ·by_cases e:o=v
  ·simp[e]
  ·simp only[if_neg e];exact h1 o
 ·by_cases e:o=v
  ·rw[e];exact hf
  ·simp only[if_neg e] at ho;exact h2 o ho
 ·have hne:w≠v:=fun e=>by simp[e] at hw
  simp only[if_neg hne] at hw
  obtain⟨k1,k2⟩:=h3 w hw
  refine⟨k1,fun x hx hfx=> ?_⟩
  obtain⟨k3,k4⟩:=k2 x hx hfx
  have hne2:x≠v:=fun e=>by rw[e,h0] at k3;cases k3
  simp only[if_neg hne2]
  exact⟨k3,k4⟩
theorem CInv.close_{l:List B}{st:Int->Int}(h:CInv l st){v:Int}(hf:fndB l v=true)(h1:st v=1)(hall:∀w∈(toB l v).occ,fndB l w=true->st w=2):CInv l (fun w=>if w=v then 2 else st w):=by
 obtain⟨g1,g2,rk,c,g3⟩:=h
 refine⟨fun o=> ?_,fun o ho=> ?_,fun w=>if w=v then c else rk w,c+1,fun w hw=> ?_⟩
 ·by_cases e:o=v
  ·simp[e]
  ·simp only[if_neg e];exact g1 o
 ·by_cases e:o=v
  ·rw[e];exact hf
  ·simp only[if_neg e] at ho;exact g2 o ho
 ·have key:∀x∈(toB l w).occ,fndB l x=true->st x=2->x≠v:=fun x _ _ e e2=>by rw[e2,h1] at e;cases e
  by_cases e:w=v
  ·subst e
   refine⟨by simp,fun x hx hfx=> ?_⟩
   have k:=hall x hx hfx
   have hne:=key x hx hfx k
   simp only[if_neg hne,if_true]
   exact⟨k,(g3 x k).1⟩
  ·simp only[if_neg e] at hw ⊢
   obtain⟨k1,k2⟩:=g3 w hw
   refine⟨by omega,fun x hx hfx=> ?_⟩
   obtain⟨k3,k4⟩:=k2 x hx hfx
   have hne:=key x hx hfx k3
   simp only[if_neg hne]
   exact⟨k3,k4⟩
theorem CInv.acyc{l:List B}{st:Int->Int}(h:CInv l st)(hall:∀v,fndB l v=true->st v=2):Acyc l:=by
 obtain⟨_,_,rk,c,g3⟩:=h
 exact⟨rk,fun v hv w hw hf=>((g3 v (hall v hv)).2 w hw hf).2⟩
theorem zcN{sh:Sh}{hp:Heap}(l:List (Sh × AV)):wBox sh hp [.agg l]=if some (total l)=sh then zqA sh hp.length (zat l (hp++[.box sh (.agg l)])) else none:=by
 simp only[wBox,AV.plain,AV.shp,true_and,AV.own]
 rfl
def vagg(v:Int):AV:=.agg [(none,.pv none (.int .i64 0)),(none,.pv none (.int .i64 v)),(none,.pv none (.str [])),(none,.tsl (some 4) [])]
theorem zou(l:List B)(hs:Srt' l)(hl:l.length<1000000000)(v:Int)(hf:fndB l v=true)(hp:Heap):
  S 93 [.pv none (.sl (some 5) (bds l)),vagg v] hp=some (.ret (.tuple [(toB l v).av,.pv none (.bool true)]),hp):=by
 refine zaG rfl rfl rfl rfl ?_
 have hpl:=zgo l v hs hl
 rw[hf] at hpl
 simp -dsimp -implicitDefEqProofs only[go_sem,seval,↓reduceIte,vagg,Tm.av,hpl,zac (zbr (zdr hf)),zdO,zcN,List.append_assoc,zah,zaf,zaj,zag,Nat.add_assoc,List.length_append]
 rw[zfO rfl ((zah hp _ 2).trans rfl)]
 refine⟨rfl,?_⟩
 rw[if_pos (by simp[AV.refsIn,AV.refsIn.gol,Tm.av])]
 exact List.take_left
theorem zq4(l:List B)(hs:Srt' l)(hl:l.length<1000000000)(v:Int)(hf:fndB l v=false)(hp:Heap):
  ∃v' hp',S 93 [.pv none (.sl (some 5) (bds l)),vagg v] hp=some (.ret v',hp')/\∃e q,v'=.tuple [zagg q,.pv none (.bool false)]/\hp'=hp++e/\q<(hp++e).length/\0<e.length:=by
 refine zb8 _ rfl rfl rfl rfl ?_
 have hpl:=zgo l v hs hl
 rw[hf] at hpl
 simp -dsimp -implicitDefEqProofs only[go_sem,seval,↓reduceIte,vagg,Tm.av,hpl,hb0,zcN,zae (Nat.le_add_right _ _),List.append_assoc,zah,zaf,zaj,zag,Nat.add_assoc,List.length_append]
 rw[zfO rfl ((zah hp _ 2).trans rfl)]
 rw[if_neg (by simp[AV.refsIn,AV.refsIn.gol,AV.refsIn.go])]
 exact⟨_,_,rfl,rfl,by simp,by simp⟩
theorem zvn(l:List B)(hG:Good l)(hl:l.length<1000000000):∀(n:Nat) (st:Int->Int) (m:List (Int × PV)) (v:Int) (hp:Heap) (r:Nat),cnt l st=n->hp[r]? =some (.map none (zaZ m))->MapI m st->CInv l st->(∀o,st o=1->Relation.TransGen (Dep l) o v)->
  ∃(b:Bool) (m':List (Int × PV)),S 90 [.pv none (.sl (some 5) (bds l)),.pv none (.int .i64 v),.map r] hp=some (.ret (.pv none (.bool b)),hp.set r (.map none (zaZ m')))/\(b=true->¬Acyc l)/\(b=false->∃st',MapI m' st'/\CPost l st st' v):=by
 intro n
 induction n using Nat.strongRecOn with
 |_ n ih=>
  intro st m v hp r hn hr hM hI hpre
  have hlt:=zbX hr
  have hself:hp.set r (.map none (zaZ m))=hp:=by
   have:=List.getElem?_eq_some_iff.1 hr
   obtain⟨_,h⟩:=this
   rw[<-h];exact List.set_getElem_self _
  have hlk0:∀e:Heap,zbc false none (.pv none (.int .i64 0)) false (hp++e) [.map r,.pv none (.int .i64 v)]=some (.pv none (.int .i64 (st v))):=fun e=>by
   rw[zhq (m:=m) (by rw[List.getElem?_append_left hlt];exact hr),hM v]
  by_cases h0:st v=0
  rotate_left
  ·have hw:S 90 [.pv none (.sl (some 5) (bds l)),.pv none (.int .i64 v),.map r] hp=some (.ret (.pv none (.bool (decide (st v=1)))),hp):=by
    refine zaG rfl rfl rfl rfl ?_
    have hlk:=hlk0 []
    rw[List.append_nil] at hlk
    simp -dsimp -implicitDefEqProofs only[c90b18,go_sem,seval,↓reduceIte,hlk,h0]
    rw[if_pos (by simp[AV.refsIn]),List.take_length]
   refine⟨decide (st v=1),m,by rw[hself];exact hw,fun hb=> ?_,fun hb=>⟨st,hM,hI,fun _=>Iff.rfl,fun _ h=>h,fun hf=> ?_⟩⟩
   ·have h1:st v=1:=of_decide_eq_true hb
    exact zsY (hpre v h1) (hI.bnd v h0)
   ·have h1:¬st v=1:=of_decide_eq_false hb
    rcases hI.val v with h|h|h
    ·exact absurd h h0
    ·exact absurd h h1
    ·exact h
  ·by_cases hf:fndB l v=true
   ·suffices hP:∃v' hp',S 90 [.pv none (.sl (some 5) (bds l)),.pv none (.int .i64 v),.map r] hp=some (.ret v',hp')/\∃(b:Bool) (m':List (Int × PV)),v'=.pv none (.bool b)/\hp'=hp.set r (.map none (zaZ m'))/\(b=true->¬Acyc l)/\(b=false->∃st',MapI m' st'/\CPost l st st' v) by
     obtain⟨v',hp',h1,b,m',rfl,rfl,h2⟩:=hP
     exact⟨b,m',h1,h2⟩
    obtain⟨htv,hts⟩:=hG.2 _ (List.mem_of_getElem? (zdr hf))
    simp only at htv hts
    have htz:=valid_size htv
    have hb:=zou l hG.1 hl v hf
    have hV:=fun hp=>ztj (toB l v) htv hp
    have hLm:∀x,x∈vads [] (toB l v).occ↔x∈(toB l v).occ:=fun x=>by rw[ztl];simp
    have hvl:=zjs (toB l v).occ []
    have hol:=(toB l v).occ_len
    rw[List.length_nil,Nat.zero_add] at hvl
    generalize hL:vads [] (toB l v).occ=L at hV hLm hvl
    simp only[Tm.av,vagg] at hb hV
    have hbu:zaP [(none,.pv none (.int .i64 0)),(none,.pv none (.int .i64 0)),(none,.pv none (.str [])),(none,.tsl (some 4) [])] [1] [.pv none (.int .i64 v)]=some (.agg [(none,.pv none (.int .i64 0)),(none,.pv none (.int .i64 v)),(none,.pv none (.str [])),(none,.tsl (some 4) [])]):=rfl
    have hms:∀(x:Int) (m:List (Int × PV)) (e:Heap),zb3 false none (hp.set r (.map none (zaZ m))++e) [.map r,.pv none (.int .i64 v),.pv none (.int .i64 x)]=some (.undef,hp.set r (.map none (zaZ (mPut v (.int .i64 x) m)))++e):=fun x m e=>by
     rw[zcL (es:=zaZ m) (by rw[List.getElem?_append_left (by simpa using hlt),List.getElem?_set_self hlt]) (zdc _ _ _),List.set_append_left _ _ (by simpa using hlt),List.set_set]
    have hms1:=fun e=>hms 1 m e
    rw[hself] at hms1
    refine zb8 _ rfl rfl rfl rfl ?_
    have hlk:=hlk0 []
    rw[List.append_nil] at hlk
    have hg0:∀(X:AObj) (e:Heap),(hp.set r X++e)[hp.length]? =e[0]? :=fun X e=>zcJ (by simp)
    simp -dsimp -implicitDefEqProofs only[go_sem,seval,↓reduceIte,hlk,h0,hbu,hb,hms1,hg0,hV,zcx,zaF,zae (Nat.le_add_right _ _),List.append_assoc,zah,zaf,zaj,zag,Nat.add_assoc,List.length_append]
    have hI1:=hI.open_ hf h0
    have hM1:=hM.put v 1
    refine zcK (α:=List (Int × PV)) L.length (fun i m=>∃st':Int->Int,MapI m st'/\CInv l st'/\(∀o,st' o=1↔(o=v\/st o=1))/\(∀o,st o=2->st' o=2)/\∀j,j<i->∀x,L[j]? =some x->fndB l x=true->st' x=2)
     (fun i m=>⟨[(0,.pv none (.sl (some 5) (bds l))),(1,.pv none (.int .i64 v)),(2,.map r),(31,.pv none (.sl none (ints L))),(32,.pv none (.int .i64 L.length)),(33,.pv none (.int .i64 i))],hp.set r (.map none (zaZ m))++[.box (some 4) (.pv (some 4) (toB l v).pv),.arr (some 4) [] false]⟩) _ ⟨⟨_,hM1,hI1,fun o=> ?_,fun o ho=> ?_,fun j hj=>by omega⟩,?_⟩ ?_ ?_
    ·by_cases e:o=v
     ·simp[e]
     ·simp[e]
    ·have:o≠v:=fun e=>by rw[e,h0] at ho;cases ho
     simp only[if_neg this];exact ho
    ·rfl
    ·rintro i m2 h ⟨st2,k1,k2,k3,k4,k5⟩
     have hc:(i:Int)<(L.length:Int):=by omega
     obtain⟨x,hx⟩:∃x,L[i]? =some x:=⟨_,List.getElem?_eq_getElem h⟩
     have hxo:=(hLm x).1 (List.mem_of_getElem? hx)
     have hnz:∀o,st o≠0->st2 o≠0:=fun o ho=>by
      rcases hI.val o with e|e|e
      ·exact absurd e ho
      ·rw[(k3 o).2 (.inr e)];decide
      ·rw[k4 o e];decide
     have hcl:cnt l st2<n:=by
      rw[<-hn]
      exact ztx hnz h0 (by rw[(k3 v).2 (.inl rfl)];decide) (find_mem hf)
     obtain⟨b,m3,hcall,q1,q2⟩:=ih _ hcl st2 m2 x (hp.set r (.map none (zaZ m2))++[.box (some 4) (.pv (some 4) (toB l v).pv),.arr (some 4) [] false]) r rfl (by rw[List.getElem?_append_left (by simpa using hlt),List.getElem?_set_self hlt]) k1 k2 (fun o ho=>by
      rcases(k3 o).1 ho with rfl|ho
      ·exact .single ⟨hf,hxo⟩
      ·exact .tail (hpre o ho) ⟨hf,hxo⟩)
     rw[List.set_append_left _ _ (by simpa using hlt),List.set_set] at hcall
     have w2:IntKind.i64.wrap ((i:Int)+1)=((i+1:Nat):Int):=by rw[zaq (by omega) (by omega)];omega
     cases b with
     |true=>
      simp -dsimp -implicitDefEqProofs only[c90b18,go_sem,seval,↓reduceIte,zcx,hc,zac (zjr hx),hcall]
      refine⟨true,m3,rfl,?_,q1,fun e=>by cases e⟩
      rw[if_pos (by simp[AV.refsIn])]
      exact List.take_left' (by simp)
     |false=>
      obtain⟨st3,r1,r2⟩:=q2 rfl
      simp -dsimp -implicitDefEqProofs only[c90b18,go_sem,seval,↓reduceIte,zcx,hc,zac (zjr hx),hcall,w2]
      refine⟨m3,⟨st3,r1,r2.inv,fun o=>by rw[r2.opn,k3],fun o ho=>r2.dn o (k4 o ho),fun j hj y hy hfy=> ?_⟩,?_⟩
      ·rcases Nat.lt_or_ge j i with h|h
       ·exact r2.dn y (k5 j h y hy hfy)
       ·have:j=i:=by omega
        subst this
        rw[hx] at hy
        cases hy
        exact r2.me hfy
      ·rw[zay (by simp)]
    ·rintro m2 ⟨st2,k1,k2,k3,k4,k5⟩
     have hc:¬(L.length:Int)<(L.length:Int):=by omega
     have hms2:=fun e=>hms 2 m2 e
     simp -dsimp -implicitDefEqProofs only[c90b18,go_sem,seval,↓reduceIte,zcx,hc,hms2]
     refine⟨false,mPut v (.int .i64 2) m2,rfl,?_,(fun e=>by cases e),fun _=>⟨_,k1.put v 2,?_⟩⟩
     ·rw[if_pos (by simp[AV.refsIn])]
      exact List.take_left' (by simp)
     ·have hall:∀w∈(toB l v).occ,fndB l w=true->st2 w=2:=fun w hw hfw=>by
       obtain⟨j,hj,rfl⟩:=List.getElem_of_mem ((hLm w).2 hw)
       exact k5 j hj _ (List.getElem?_eq_getElem hj) hfw
      refine⟨k2.close_ hf ((k3 v).2 (.inl rfl)) hall,fun o=> ?_,fun o ho=> ?_,fun _=>by simp⟩
      ·by_cases e:o=v
       ·simp[e,h0]
       ·simp only[if_neg e]
        rw[k3]
        simp[e]
      ·by_cases e:o=v
       ·simp[e]
       ·simp only[if_neg e];exact k4 o ho
   ·have hf':fndB l v=false:=by simpa using hf
    obtain⟨v',hp',hb,e,q,rfl,rfl,hq,he⟩:=zq4 l hG.1 hl v hf' hp
    have hw:S 90 [.pv none (.sl (some 5) (bds l)),.pv none (.int .i64 v),.map r] hp=some (.ret (.pv none (.bool false)),hp):=by
     refine zaG rfl rfl rfl rfl ?_
     have hlk:=hlk0 []
     rw[List.append_nil] at hlk
     simp only[vagg] at hb
     have hbu:zaP [(none,.pv none (.int .i64 0)),(none,.pv none (.int .i64 0)),(none,.pv none (.str [])),(none,.tsl (some 4) [])] [1] [.pv none (.int .i64 v)]=some (.agg [(none,.pv none (.int .i64 0)),(none,.pv none (.int .i64 v)),(none,.pv none (.str [])),(none,.tsl (some 4) [])]):=rfl
     simp -dsimp -implicitDefEqProofs only[c90b18,go_sem,seval,↓reduceIte,hlk,h0,hbu,hb,zagg,zaF,zae (Nat.le_add_right _ _),List.append_assoc,zah,zaf,zaj,zag,Nat.add_assoc,List.length_append]
     rw[if_pos (by simp[AV.refsIn])]
     exact List.take_left
    exact⟨false,m,by rw[hself];exact hw,(fun h=>by cases h),fun _=>⟨st,hM,hI,fun _=>Iff.rfl,fun _ h=>h,fun h=>absurd h hf⟩⟩
theorem zij(l:List B)(hl:l.length<100000000)(hsz:∀b∈l,b.2.size<1000000000)(hp:Heap):S 80 [.pv none (.sl (some 5) (bds l))] hp=some (.ret (.pv none (.bool (okb l))),hp):=by
 suffices hV:∃v,(∀hp,S 80 [.pv none (.sl (some 5) (bds l))] hp=some (.ret v,hp))/\VP l v by
  obtain⟨v,h1,b,rfl,h2⟩:=hV
  have:b=okb l:=by rw[Bool.eq_iff_iff,h2,okb_iff]
  rw[h1,this]
 refine zhu (ps:=[(none,.sl (some 5) (bds l))]) (VP l) rfl rfl rfl (fun hp=>rfl) rfl ?_
 simp -dsimp -implicitDefEqProofs only[c80k23,go_sem,seval,↓reduceIte,zaX]
 refine zcK (α:=Unit) l.length (fun i _=>∀j,j<i->WfAt l j) (fun i _=>⟨[(0,.pv none (.sl (some 5) (bds l))),(8,.pv none (.sl (some 5) (bds l))),(9,.pv none (.int .i64 l.length)),(10,.pv none (.int .i64 i))],[]⟩) () ⟨fun j hj=>by omega,rfl⟩ ?_ ?_
 ·rintro i - h hinv
  have hc:(i:Int)<(l.length:Int):=by omega
  obtain⟨b,hb⟩:∃b,l[i]? =some b:=⟨_,List.getElem?_eq_getElem h⟩
  have hbs:=hsz b (List.mem_of_getElem? hb)
  have hv:=fun hp=>za9 b.2 hp hbs
  simp only[Tm.av] at hv
  have w2:IntKind.i64.wrap ((i:Int)+1)=((i+1:Nat):Int):=by rw[zaq (by omega) (by omega)];omega
  have next:WfAt l i->∀j,j<i+1->WfAt l j:=fun hw j hj=>by
   rcases Nat.lt_or_ge j i with h|h
   ·exact hinv j h
   ·have:j=i:=by omega
    subst this;exact hw
  by_cases h1:b.1<0
  ·simp -dsimp -implicitDefEqProofs only[c80b10,go_sem,seval,↓reduceIte,zaX,hc,zac (zbr hb),zbZ,h1]
   exact zoL fun h=>by have:=(h.wf i b hb).1;omega
  ·by_cases h2:1099511627776<b.1
   ·simp -dsimp -implicitDefEqProofs only[c80b10,go_sem,seval,↓reduceIte,zaX,hc,zac (zbr hb),zbZ,h1,h2]
    exact zoL fun h=>by have:=(h.wf i b hb).2.1;omega
   ·by_cases h3:0<i
    ·have h3':(0:Int)<(i:Int):=by omega
     obtain⟨c,hcc⟩:∃c,l[i - 1]? =some c:=⟨_,List.getElem?_eq_getElem (by omega)⟩
     have w3:IntKind.i64.wrap ((i:Int) - 1)=((i - 1:Nat):Int):=by rw[zaq (by omega) (by omega)];omega
     by_cases h4:b.1<=c.1
     ·simp -dsimp -implicitDefEqProofs only[c80b10,go_sem,seval,↓reduceIte,zaX,hc,zac (zbr hb),zac (zbr hcc),zbZ,h1,h2,h3',h4,w3]
      exact zoL fun h=>by have:=(h.wf i b hb).2.2.2 h3 c hcc;omega
     ·by_cases h5:b.2.valid=true
      ·simp -dsimp -implicitDefEqProofs only[c80b10,go_sem,seval,↓reduceIte,zaX,hc,zac (zbr hb),zac (zbr hcc),zbZ,zdO,h1,h2,h3',h4,w3,hv,h5,w2]
       exact⟨(),next fun b' hb'=>by rw[hb] at hb';cases hb';exact⟨by omega,by omega,h5,fun _ c' hc'=>by rw[hcc] at hc';cases hc';omega⟩,by rfl⟩
      ·have h5':b.2.valid=false:=by simpa using h5
       simp -dsimp -implicitDefEqProofs only[c80b10,go_sem,seval,↓reduceIte,zaX,hc,zac (zbr hb),zac (zbr hcc),zbZ,zdO,h1,h2,h3',h4,w3,hv,h5']
       exact zoL fun h=>by have:=(h.wf i b hb).2.2.1;rw[h5'] at this;cases this
    ·have h3':¬(0:Int)<(i:Int):=by omega
     by_cases h5:b.2.valid=true
     ·simp -dsimp -implicitDefEqProofs only[c80b10,go_sem,seval,↓reduceIte,zaX,hc,zac (zbr hb),zbZ,zdO,h1,h2,h3',hv,h5,w2]
      exact⟨(),next fun b' hb'=>by rw[hb] at hb';cases hb';exact⟨by omega,by omega,h5,fun h=>absurd h h3⟩,by rfl⟩
     ·have h5':b.2.valid=false:=by simpa using h5
      simp -dsimp -implicitDefEqProofs only[c80b10,go_sem,seval,↓reduceIte,zaX,hc,zac (zbr hb),zbZ,zdO,h1,h2,h3',hv,h5']
      exact zoL fun h=>by have:=(h.wf i b hb).2.2.1;rw[h5'] at this;cases this
 ·rintro - hinv
  have hc:¬(l.length:Int)<(l.length:Int):=by omega
  have hG:Good l:=⟨zvw hinv,fun b hb=>by
   obtain⟨i,hlt,rfl⟩:=List.getElem_of_mem hb
   exact⟨(hinv i hlt _ (List.getElem?_eq_getElem hlt)).2.2.1,hsz _ hb⟩⟩
  have hrg:∀b∈l,0<=b.1/\b.1<=1099511627776:=fun b hb=>by
   obtain⟨i,hlt,rfl⟩:=List.getElem_of_mem hb
   exact⟨(hinv i hlt _ (List.getElem?_eq_getElem hlt)).1,(hinv i hlt _ (List.getElem?_eq_getElem hlt)).2.1⟩
  simp -dsimp -implicitDefEqProofs only[c80b10,c80k23,go_sem,seval,↓reduceIte,zaX,hc]
  refine zcK (α:=List (Int × PV)) l.length (fun i m=>∃st:Int->Int,MapI m st/\CInv l st/\(∀o,st o≠1)/\∀j,j<i->∀b,l[j]? =some b->st b.1=2) (fun i m=>⟨[(0,.pv none (.sl (some 5) (bds l))),(5,.map 0),(46,.pv none (.sl (some 5) (bds l))),(47,.pv none (.int .i64 l.length)),(48,.pv none (.int .i64 i))],[.map none (zaZ m)]⟩) [] ⟨⟨fun _=>0,fun v=>rfl,⟨fun _=>.inl rfl,fun o h=>absurd rfl h,fun _=>0,0,(fun v h=>(by cases h))⟩,(fun o h=>(by cases h)),fun j hj=>by omega⟩,rfl⟩ ?_ ?_
  ·rintro i m h ⟨st,k1,k2,k3,k4⟩
   have hc:(i:Int)<(l.length:Int):=by omega
   obtain⟨b,hb⟩:∃b,l[i]? =some b:=⟨_,List.getElem?_eq_getElem h⟩
   have w2:IntKind.i64.wrap ((i:Int)+1)=((i+1:Nat):Int):=by rw[zaq (by omega) (by omega)];omega
   obtain⟨bb,m3,hcall,q1,q2⟩:=zvn l hG (by omega) _ st m b.1 [.map none (zaZ m),.box (some 5) (.pv (some 5) (bdp b))] 0 rfl rfl k1 k2 (fun o ho=>absurd ho (k3 o))
   simp only[List.set_cons_zero] at hcall
   cases bb with
   |true=>
    simp -dsimp -implicitDefEqProofs only[c80b10,c80b22,c80k23,go_sem,seval,↓reduceIte,zaX,hc,zac (zbr hb),zbZ,hcall]
    exact zoL fun h=>q1 rfl h.Acyc
   |false=>
    obtain⟨st3,r1,r2⟩:=q2 rfl
    simp -dsimp -implicitDefEqProofs only[c80b10,c80b22,c80k23,go_sem,seval,↓reduceIte,zaX,hc,zac (zbr hb),zbZ,hcall,w2]
    refine⟨m3,⟨st3,r1,r2.inv,fun o ho=>k3 o ((r2.opn o).1 ho),fun j hj y hy=> ?_⟩,by rfl⟩
    rcases Nat.lt_or_ge j i with h|h
    ·exact r2.dn _ (k4 j h y hy)
    ·have:j=i:=by omega
     subst this
     rw[hb] at hy
     cases hy
     exact r2.me (zru hG.1 hb).1
  ·rintro m ⟨st,k1,k2,k3,k4⟩
   have hc:¬(l.length:Int)<(l.length:Int):=by omega
   simp -dsimp -implicitDefEqProofs only[c80b10,c80b22,c80k23,go_sem,seval,↓reduceIte,zaX,hc]
   refine zvx (ztC hG hrg (k2.acyc fun v hv=> ?_))
   have:=zdr hv
   exact k4 _ (List.getElem?_eq_some_iff.1 this).1 _ this
theorem zoF{hp hp':Heap}{t:Tm}{r o:Nat}(h:hp[r]? =some (.box (some 4) (.pv (some 4) t.pv)))(h':hp'[r]? =some (.box (some 4) (.pv (some 4) t.pv))):zbF hp hp' (.ptr r o)=true:=by
 simp[zbF,h,h',AObj.beq,AV.beq,zgt]
def SzI(l:List B)(m:List (Int × PV)):Prop:=∃f:Int->Int,MapI m f/\∀v,f v≠0->fndB l v=true/\f v=((min (rs l (toB l v)).size 2001:Nat):Int)
theorem SzI.put{l:List B}{m:List (Int × PV)}(h:SzI l m){v:Int}(hf:fndB l v=true):SzI l (mPut v (.int .i64 ((min (rs l (toB l v)).size 2001:Nat):Int)) m):=by
 obtain⟨f,h1,h2⟩:=h
 refine⟨_,h1.put v _,fun w hw=> ?_⟩
 by_cases e:w=v
 ·subst e;simp[hf]
 ·simp only[if_neg e] at hw ⊢;exact h2 w hw
def XL(n:Nat)(t:Tm):Heap:=[.box (some 4) (.pv (some 4) t.pv),.box (some 4) (.pv (some 4) t.pv),.box (some 4) (zagg (n+4)),.arr (some 4) [] false,.arr (some 4) [] false,.box (some 4) (zagg (n+4)),.arr (some 4) [] false]
theorem zoG(l:List B)(hO:OKB l)(hl:l.length<1000000000):∀(k:Nat) (t:Tm) (hp:Heap) (r:Nat) (m:List (Int × PV)),mu l t=k->t.valid=true->hp[r]? =some (.map none (zaZ m))->SzI l m->
  ∃m',S 84 [.pv none (.sl (some 5) (bds l)),t.av,.map r] hp=some (.ret (.pv none (.int .i64 ((min (rs l t).size 2001:Nat):Int))),hp.set r (.map none (zaZ m')))/\SzI l m':=by
 intro k
 induction k using Nat.strongRecOn with
 |_ k ih=>
  intro t hp r m hk hv hr hS
  have hlt:=zbX hr
  have htz:=valid_size hv
  have hself:hp.set r (.map none (zaZ m))=hp:=by
   obtain⟨_,h⟩:=List.getElem?_eq_some_iff.1 hr
   rw[<-h];exact List.set_getElem_self _
  have hg0:∀(X:AObj) (e:Heap),(hp.set r X++e)[hp.length]? =e[0]? :=fun X e=>zcJ (by simp)
  have hg1:∀(X:AObj) (e:Heap) (k:Nat),(hp.set r X++e)[hp.length+k]? =e[k]? :=fun X e k=>getN (by simp) k
  have hlen:∀(X:AObj),(hp.set r X).length=hp.length:=fun X=>by simp
  have hs1:∀(X Y:AObj) (e:Heap) (k:Nat),(hp.set r X++e).set (hp.length+k) Y=hp.set r X++e.set k Y:=fun X Y e k=>setN (by simp) k Y
  have hrr:∀(X:AObj) (e:Heap),(hp.set r X++e)[r]? =some X:=fun X e=>by rw[List.getElem?_append_left (by simpa using hlt),List.getElem?_set_self hlt]
  have hss:∀(X Y:AObj) (e:Heap),(hp.set r X++e).set r Y=hp.set r Y++e:=fun X Y e=>by rw[List.set_append_left _ _ (by simpa using hlt),List.set_set]
  suffices hP:∃v' hp',S 84 [.pv none (.sl (some 5) (bds l)),t.av,.map r] hp=some (.ret v',hp')/\∃m',v'=.pv none (.int .i64 ((min (rs l t).size 2001:Nat):Int))/\hp'=hp.set r (.map none (zaZ m'))/\SzI l m' by
   obtain⟨v',hp',h1,m',rfl,rfl,h2⟩:=hP
   exact⟨m',h1,h2⟩
  by_cases hc:t.kind=0/\fndB l t.n=true
  ·obtain⟨hk0,hf⟩:=hc
   have hb:=fun hp=>ze1 (s:=.pv none (.sl (some 5) (bds l))) (hp:=hp) (l:=l) (.inl rfl) hO.good.1 hl t hk0 hf
   simp only[Tm.av] at hb
   obtain⟨hto,_⟩:=hO.to hf
   have hlt2:=zgg hO.Acyc hk0 hf
   have hrs:rs l t=rs l (toB l t.n):=by rw[zir hO.Acyc hk0,if_pos hf]
   rw[hrs]
   obtain⟨f,hM,hfv⟩:=id hS
   have hlk:∀e:Heap,zbc false none (.pv none (.int .i64 0)) false (hp++e) [.map r,.pv none (.int .i64 t.n)]=some (.pv none (.int .i64 (f t.n))):=fun e=>by
    rw[zhq (m:=m) (by rw[List.getElem?_append_left hlt];exact hr),hM]
   refine zb8 _ rfl rfl rfl rfl ?_
   have hpos:=Tm.size_pos (rs l (toB l t.n))
   by_cases h0:f t.n=0
   ·obtain⟨m2,hcall,hS2⟩:=ih _ (by omega) (toB l t.n) (hp++[.box (some 4) (.pv (some 4) t.pv),.box (some 4) (.pv (some 4) (toB l t.n).pv),.arr (some 4) [] false]) r m rfl hto (by rw[List.getElem?_append_left hlt];exact hr) hS
    rw[List.set_append_left _ _ hlt] at hcall
    simp only[Tm.av] at hcall
    have hsp:∀(X:AObj) (e e':Heap),zbF (hp++.box (some 4) (.pv (some 4) t.pv)::e) (hp.set r X++.box (some 4) (.pv (some 4) t.pv)::e') (.ptr hp.length 1)=true:=fun X e e'=>zoF (t:=t) (by rw[zaf];rfl) (by rw[hg0];rfl)
    have hms:∀(x:Int) (m:List (Int × PV)) (e:Heap),zb3 false none (hp.set r (.map none (zaZ m))++e) [.map r,.pv none (.int .i64 t.n),.pv none (.int .i64 x)]=some (.undef,hp.set r (.map none (zaZ (mPut t.n (.int .i64 x) m)))++e):=fun x m e=>by
     rw[zcL (es:=zaZ m) (hrr _ _) (zdc _ _ _),hss]
    have hlk2:∀(x:Int) (m:List (Int × PV)) (e:Heap),zbc false none (.pv none (.int .i64 0)) false (hp.set r (.map none (zaZ (mPut t.n (.int .i64 x) m)))++e) [.map r,.pv none (.int .i64 t.n)]=some (.pv none (.int .i64 x)):=fun x m e=>by
     rw[zhq (m:=mPut t.n (.int .i64 x) m) (hrr _ _),zdP,if_pos rfl]
     rfl
    simp -dsimp -implicitDefEqProofs only[go_sem,seval,↓reduceIte,Tm.av,hb,zaQ,hlk,h0,hcall,hsp,hms,hlk2,hg0,List.take_succ_cons,List.drop_succ_cons,List.all_cons,List.all_nil,zae (Nat.le_add_right _ _),List.append_assoc,zah,zaf,zaj,zag,Nat.add_assoc,List.length_append]
    exact⟨_,by rw[if_pos (by simp[AV.refsIn])];exact List.take_left' (by simp),hS2.put hf⟩
   ·have hfe:=(hfv _ h0).2
    simp -dsimp -implicitDefEqProofs only[go_sem,seval,↓reduceIte,Tm.av,hb,zaQ,hlk,h0,zae (Nat.le_add_right _ _),List.append_assoc,zah,zaf,zaj,zag,Nat.add_assoc,List.length_append]
    exact⟨m,by rw[hfe],by rw[if_pos (by simp[AV.refsIn]),hself];exact List.take_left,hS⟩
  ·have hb:=fun hp=>zgr (s:=.pv none (.sl (some 5) (bds l))) (hp:=hp) (l:=l) (.inl rfl) hO.good.1 hl t hc
   simp only[Tm.av] at hb
   have hrs:(rs l t).size=1+Tm.sizes (t.args.map (rs l)):=by
    by_cases hk0:t.kind=0
    ·have hf:¬fndB l t.n=true:=fun e=>hc ⟨hk0,e⟩
     rw[zjj hO.Acyc (valid_fits hv) hk0 hf,zbz (valid_fits hv) hk0]
     rfl
    ·rw[zna l hk0,Tm.size_eq]
     rfl
   have harg:∀u∈t.args,mu l u<k/\u.valid=true:=fun u hu=>by
    have hk0:¬t.kind=0:=fun hk0=>by
     rw[zbz (valid_fits hv) hk0] at hu
     cases hu
    exact⟨by rw[<-hk];exact ziq l hk0 hu,zaJ hv hu⟩
   refine zb8 _ rfl rfl rfl rfl ?_
   simp -dsimp -implicitDefEqProofs only[go_sem,seval,↓reduceIte,Tm.av,hb,bndX,zagg,zad,Tm.pvs_len,zaF,zae (Nat.le_add_right _ _),List.append_assoc,zah,zaf,zaj,zag,Nat.add_assoc,List.length_append]
   refine zcK (α:=List (Int × PV)) t.args.length (fun _ m=>SzI l m) (fun i m=>⟨[(0,.pv none (.sl (some 5) (bds l))),(2,.map r),(9,.pv none (.int .i64 ((min (1+Tm.sizes ((t.args.map (rs l)).take i)) 2001:Nat):Int))),(36,.pv none (.sl (some 4) (Tm.pvs t.args))),(37,.pv none (.int .i64 t.args.length)),(38,.pv none (.int .i64 i))],hp.set r (.map none (zaZ m))++XL hp.length t⟩) m ⟨hS,?_⟩ ?_ ?_
   ·rw[hself]
    rfl
   ·rintro i m2 h hS2
    have hc:(i:Int)<(t.args.length:Int):=by omega
    obtain⟨u,hu⟩:∃u,t.args[i]? =some u:=⟨_,List.getElem?_eq_getElem h⟩
    have hum:=List.mem_of_getElem? hu
    obtain⟨ha1,ha2⟩:=harg u hum
    have hrt:=Tm.zwt (l:=t.args.map (rs l)) (i:=i) (t:=rs l u) (by simp[hu])
    have hlen2:=Tm.zwj t.args
    have hts:=t.size_eq
    obtain⟨m3,hcall,hS3⟩:=ih _ ha1 u (hp.set r (.map none (zaZ m2))++(XL hp.length t++[.box (some 4) (.pv (some 4) u.pv),.arr (some 4) [] false])) r m2 rfl ha2 (hrr _ _) hS2
    rw[hss] at hcall
    simp only[Tm.av,XL,zagg,List.cons_append,List.nil_append] at hcall
    have w2:IntKind.i64.wrap ((i:Int)+1)=((i+1:Nat):Int):=by rw[zaq (by omega) (by omega)];omega
    have w3:IntKind.i64.wrap (((min (1+Tm.sizes ((t.args.map (rs l)).take i)) 2001:Nat):Int)+((min (rs l u).size 2001:Nat):Int))=((min (1+Tm.sizes ((t.args.map (rs l)).take i)) 2001+min (rs l u).size 2001:Nat):Int):=by rw[zaq (by omega) (by omega)];omega
    have w4:(if(2001:Int)<((min (1+Tm.sizes ((t.args.map (rs l)).take i)) 2001+min (rs l u).size 2001:Nat):Int) then 2001 else((min (1+Tm.sizes ((t.args.map (rs l)).take i)) 2001+min (rs l u).size 2001:Nat):Int))=((min (1+Tm.sizes ((t.args.map (rs l)).take (i+1))) 2001:Nat):Int):=by
     rw[hrt]
     split <;> omega
    simp -dsimp -implicitDefEqProofs only[c84b16,go_sem,seval,↓reduceIte,XL,zagg,hc,zac (Tm.pvs_get hu),hcall,w2,w3,w4,hlen,hg0,hg1,hs1,zaF,zae (Nat.le_add_right _ _),List.append_assoc,zah,zaf,zaj,zag,Nat.add_assoc,List.length_append]
    refine⟨m3,hS3,?_⟩
    rw[za2 7 (by simp) rfl (by simp[AObj.refs,AV.ofComps,pures,AV.refsIn,AV.refsIn.go]) (by simp[AV.refsIn,AV.refsIn.gol];omega)]
    rfl
   ·rintro m2 hS2
    have hc:¬(t.args.length:Int)<(t.args.length:Int):=by omega
    simp -dsimp -implicitDefEqProofs only[c84b16,go_sem,seval,↓reduceIte,hc]
    refine⟨m2,?_,?_,hS2⟩
    ·rw[hrs,List.take_of_length_le (by rw[List.length_map];exact Nat.le_refl _)]
    ·rw[if_pos (by simp[AV.refsIn])]
     exact List.take_left' (by simp)
def appP(t:Tm)(es:List PV):Heap:=[.box (some 4) (.pv (some 4) t.pv),.box (some 4) (zagg 2),.arr (some 4) [] false,.box (some 4) (.pv (some 4) t.pv),.box (some 4) (zagg 6),.arr (some 4) [] false,.arr (some 4) [] false,.box (some 4) (zagg 6),.arr (some 4) [] false,.box (some 4) (.agg [(none,.pv none (.int .i64 t.kind)),(none,.pv none (.int .i64 t.n)),(none,.pv none (.str t.name)),(none,.sl (some 4) 11 es.length 0 es.length)]),.arr (some 4) [] false,.arr (some 4) es false]
theorem zoM(l:List B)(hO:OKB l)(hl:l.length<1000000000):∀(k:Nat) (t:Tm),mu l t=k->t.valid=true->∀hp:Heap,S 85 [.pv none (.sl (some 5) (bds l)),t.av] hp=some (.ret (rs l t).av,hp):=by
 intro k
 induction k using Nat.strongRecOn with
 |_ k ih=>
  intro t hk hv hp
  have htz:=valid_size hv
  have hlen2:=Tm.zwj t.args
  have hts:=t.size_eq
  refine zam rfl rfl rfl (zab [(none,.sl (some 5) (bds l)),(some 4,t.pv)]) rfl ?_
  have hb4:zaP [(none,.pv none (.int .i64 0)),(none,.pv none (.int .i64 0)),(none,.pv none (.str [])),(none,.tsl (some 4) [])] [0,1,2] [.pv none (.int .i64 t.kind),.pv none (.int .i64 t.n),.pv none (.str t.name)]=some (.agg [(none,.pv none (.int .i64 t.kind)),(none,.pv none (.int .i64 t.n)),(none,.pv none (.str t.name)),(none,.tsl (some 4) [])]):=rfl
  by_cases hc:t.kind=0/\fndB l t.n=true
  ·obtain⟨hk0,hf⟩:=hc
   have hb:=fun hp=>ze1 (s:=.pv none (.sl (some 5) (bds l))) (hp:=hp) (l:=l) (.inl rfl) hO.good.1 hl t hk0 hf
   obtain⟨hto,_⟩:=hO.to hf
   have hlt2:=zgg hO.Acyc hk0 hf
   have hrs:rs l t=rs l (toB l t.n):=by rw[zir hO.Acyc hk0,if_pos hf]
   have hcall:=ih _ (by omega) (toB l t.n) rfl hto
   rw[hrs]
   simp only[Tm.av] at hb hcall
   simp -dsimp -implicitDefEqProofs only[go_sem,seval,↓reduceIte,Tm.av,hb,hcall,zae (Nat.zero_le _)]
  ·have hb:=fun hp=>zgr (s:=.pv none (.sl (some 5) (bds l))) (hp:=hp) (l:=l) (.inl rfl) hO.good.1 hl t hc
   simp only[Tm.av] at hb
   have hrs:rs l t=.mk t.kind t.n t.name (t.args.map (rs l)):=by
    by_cases hk0:t.kind=0
    ·have hf:¬fndB l t.n=true:=fun e=>hc ⟨hk0,e⟩
     rw[zjj hO.Acyc (valid_fits hv) hk0 hf,zbz (valid_fits hv) hk0]
     rfl
    ·exact zna l hk0
   have harg:∀u∈t.args,mu l u<k/\u.valid=true:=fun u hu=>by
    have hk0:¬t.kind=0:=fun hk0=>by
     rw[zbz (valid_fits hv) hk0] at hu
     cases hu
    exact⟨by rw[<-hk];exact ziq l hk0 hu,zaJ hv hu⟩
   rw[hrs]
   generalize hts':t.args.map (rs l)=ts'
   have htl:ts'.length=t.args.length:=by rw[<-hts',List.length_map]
   simp -dsimp -implicitDefEqProofs only[go_sem,seval,↓reduceIte,Tm.av,hb,bndX,zagg,hb4,zak,zaQ,zan,zad,Tm.pvs_len,zaF,zae (Nat.zero_le _)]
   refine zcK (α:=Unit) t.args.length (fun _ _=>True) (fun i _=>⟨[(0,.pv none (.sl (some 5) (bds l))),(4,.ptr 1 0),(7,.ptr 9 0),(28,.pv none (.sl (some 4) (Tm.pvs t.args))),(29,.pv none (.int .i64 t.args.length)),(30,.pv none (.int .i64 i))],appP t (Tm.pvs (ts'.take i))⟩) () ⟨trivial,rfl⟩ ?_ ?_
   ·rintro i - h -
    have hc:(i:Int)<(t.args.length:Int):=by omega
    obtain⟨u,hu⟩:∃u,t.args[i]? =some u:=⟨_,List.getElem?_eq_getElem h⟩
    have hum:=List.mem_of_getElem? hu
    obtain⟨ha1,ha2⟩:=harg u hum
    have hcall:=ih _ ha1 u rfl ha2
    simp only[Tm.av] at hcall
    have hpt:=Tm.zwp (l:=ts') (i:=i) (t:=rs l u) (by rw[<-hts'];simp[hu])
    have w2:IntKind.i64.wrap ((i:Int)+1)=((i+1:Nat):Int):=by rw[zaq (by omega) (by omega)];omega
    have hl1:(Tm.pvs (ts'.take i)).length=i:=by rw[Tm.pvs_len,List.length_take];omega
    have hl2:(ts'.take (i+1)).length=i+1:=by rw[List.length_take];omega
    have hlim:i+1<=lim:=by unfold lim;omega
    simp -dsimp -implicitDefEqProofs only[c85b13,go_sem,seval,↓reduceIte,appP,zagg,zad,Tm.pvs_len,hc,zac (Tm.pvs_get hu),hcall,w2,hl1,hlim,hpt,zae (Nat.zero_le _),zbu (Nat.zero_le _)]
    exact⟨(),by rw[hl2];rfl⟩
   ·rintro - -
    have hc:¬(t.args.length:Int)<(t.args.length:Int):=by omega
    have htk:ts'.take t.args.length=ts':=List.take_of_length_le (by omega)
    simp -dsimp -implicitDefEqProofs only[c85b13,go_sem,seval,↓reduceIte,appP,zagg,zad,Tm.pvs_len,hc,htk,zaF,zae (Nat.zero_le _),zbu (Nat.zero_le _)]
    exact zoK _ _ _ (Tm.pvs ts') _ (Tm.pvs_len ts').symm rfl
theorem zmc(l:List B)(t:Tm)(hl:l.length<100000000)(hsz:∀b∈l,b.2.size<1000000000)(ht:t.size<1000000000)(hp:Heap):
  S 70 [.pv none (.sl (some 5) (bds l)),t.av] hp=some (.ret (.tuple [(rsR l t).1.av,.pv none (.int .i64 (rsR l t).2)]),hp):=by
 refine zam rfl rfl rfl (zab [(none,.sl (some 5) (bds l)),(some 4,t.pv)]) rfl ?_
 have h1:=zij l hl hsz
 have h2:=fun hp=>za9 t hp ht
 simp only[Tm.av] at h2
 unfold rsR
 cases hb:okb l with
 |false=>
  rw[hb] at h1
  rw[if_neg (by simp)];dsimp only
  simp -dsimp -implicitDefEqProofs only[go_sem,seval,↓reduceIte,Tm.av,h1,h2,zae (Nat.zero_le _),hb0]
  exact zbS _ _ _ rfl
 |true=>
  rw[hb] at h1
  have hO:=okb_iff.1 hb
  by_cases hv:t.valid=true
  ·rw[if_pos ⟨rfl,hv⟩]
   have h3:=zoM l hO (by omega) _ t rfl hv
   obtain⟨m',h4,_⟩:=zoG l hO (by omega) _ t [.box (some 4) (.pv (some 4) t.pv),.box (some 4) (zagg 2),.arr (some 4) [] false,.map none []] 3 [] rfl hv rfl ⟨fun _=>0,fun _=>rfl,fun v h=>absurd rfl h⟩
   simp only[Tm.av,zagg,List.set_cons_zero,List.set_cons_succ] at h3 h4
   by_cases hs:(rs l t).size<=2000
   ·rw[if_pos hs];dsimp only
    have hm:¬(2000:Int)<((min (rs l t).size 2001:Nat):Int):=by omega
    simp -dsimp -implicitDefEqProofs only[go_sem,seval,↓reduceIte,Tm.av,h1,h2,hv,h3,h4,hm,zae (Nat.zero_le _),hb0]
    exact zin _ _ _ _ _
   ·rw[if_neg hs];dsimp only
    have hm:(2000:Int)<((min (rs l t).size 2001:Nat):Int):=by omega
    simp -dsimp -implicitDefEqProofs only[go_sem,seval,↓reduceIte,Tm.av,h1,h2,hv,h3,h4,hm,zae (Nat.zero_le _),hb0]
    exact zbS _ _ _ rfl
  ·rw[if_neg fun h=>hv h.2];dsimp only
   have hv':t.valid=false:=by simpa using hv
   simp -dsimp -implicitDefEqProofs only[go_sem,seval,↓reduceIte,Tm.av,h1,h2,hv',zae (Nat.zero_le _),hb0]
   exact zbS _ _ _ rfl
end Go.Proofs.Ytffecaafklpmhaa
