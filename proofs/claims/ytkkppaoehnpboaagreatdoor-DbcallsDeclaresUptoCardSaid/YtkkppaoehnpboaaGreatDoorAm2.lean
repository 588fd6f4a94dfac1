/- What is proved: the abstract machine says true of the model (part 2). No conditions beside those that each theorem names. -/
import Derived.Test.YtkkppaoehnpboaaGreatDoorAm1
import Derived.Laws.MakeOwn
import Derived.Laws.CopyRow
import Derived.Lib.Overlaps
import Derived.WalkKit
set_option linter.unusedSimpArgs false
set_option linter.unusedVariables false
/- Loads, lookups, lengths, slices, run in the model. -/
namespace Go.Am
variable{P:Program} {w:World} {X:Xc P} {μ:Nat->Option Nat} {hp:Heap}

theorem B8{t:TypeId}(hok:okT P t=true){b o:Nat}{cs:Array Value}{t':TypeId}{fr:Nat × Nat}{u:Value}(hb:w.heap[b]? =some (.cells cs t' fr))(hs:vshp u=shOf P t)(hc:u.cells.toList=(cs.toList.drop o).take (shOf P t).size):
  (loadVar t ⟨b,o,none⟩).run P w=.ok u w:=by
 obtain⟨ti,d,_,hd,_,_⟩:=qg hok;have hsz:=Xa hok w;have hul:u.cells.toList.length=(shOf P t).size:=by rw[Zk,Yx,hs]
 have cell:∀j v,u.cells.toList[j]? =some v->w.cell? ((⟨b,o,none⟩:Addr).add j)=some v:=by
  intro j v hj;have hjl:j<(shOf P t).size:=by have:=(Zb.1 hj).1;omega
  rw[hc,zx hjl,ZR] at hj;rw[Addr.add_lit];simp only[World.cell?,hb];simpa using hj
 simp only[loadVar,Sem.run_bind,vq hd,Result.andThen_ok];cases hsh:shOf P t with
 |none=>
  rw[hsh] at hs hul hc;have h1:=vk hs;have:=cell 0 u (by rw[h1];rfl);rw[Addr.add_lit,Nat.add_zero] at this;simp[this]
 |some n=>
  rw[hsh] at hsz hul hs;simp only[Sh.size] at hsz hul;have hl:=run_loadCells_list (P:=P) w ⟨b,o,none⟩ u.cells.toList cell;rw[hul] at hl;cases u with
  |agg us=>
   simp only[Value.cells] at hl;simp[hsz,hl]
  |_=>simp[vshp] at hs

theorem B9{I:Nat->Value->Prop}{n:Nat}{vals:List Value}{sh:Sh}{cs:List Value}(hl:n=vals.length)(h:∀v∈vals,vshp v=sh)(hc:cellsOf vals=cs.take (n*sh.size))(i:Nat)(hi:i<n):
  ∃v,vals[i]? =some v/\vshp v=sh/\v.cells.toList=(cs.drop (i*sh.size)).take sh.size:=by
 have hv:vals[i]? =some vals[i]:=Zf (by omega);have hk:∀v∈vals,v.cells.size=sh.size:=fun v hvm=>by rw[Yx,h v hvm]
 refine⟨vals[i],hv,h _ (List.getElem_mem _),?_⟩;have hg:=Jn hk i _ hv;have hsz:vals[i].cells.toList.length=sh.size:=by rw[Zk];exact hk _ (List.getElem_mem _)
 rw[hc,ZH] at hg;have hg2:=congrArg (List.take sh.size) hg;rw[Zz,Z2 hsz] at hg2;rw[<-hg2]
 congr 1
 have:i*sh.size+sh.size<=n*sh.size:=by rw[<-Nat.succ_mul];exact ZY _ hi
 omega

theorem vB{t:TypeId}{x:Value}{vs:List AV}{v:AV}(hH:HR w X μ hp)(hok:okT P t=true)(hl:LR w X μ hp vs [x])(h:XK (shOf P t) hp vs=some v):Yr P w X μ hp (do pure (.value (<-Instr.loadAt t x))) v:=by
 have fin:∀(b o:Nat) (cs:Array Value) (t':TypeId) (fr:Nat × Nat) (u:Value),x=.pointer (some ⟨b,o,none⟩)->w.heap[b]? =some (.cells cs t' fr)->vshp u=shOf P t->u.cells.toList=(cs.toList.drop o).take (shOf P t).size->AR w X μ hp v u->Yr P w X μ hp (do pure (.value (<-Instr.loadAt t x))) v:=by
  intro b o cs t' fr u hx hb hs hc ha;subst hx;exact⟨u,by simp[Instr.loadAt,Instr.sureAddr,B8 hok hb hs hc],ha⟩
 unfold XK at h;split at h
 ·obtain⟨_,e0,h1⟩:=hl.one;cases e0;unfold aload at h;split at h
  ·rename_i r off;cases h1 with
   |ptr _ _ b sh0 v0 ho hb=>
    simp only[ho] at h;obtain⟨b',val,t',hb',hc,hs,hf,ha⟩:=hH.box r sh0 v0 ho;rw[hb] at hb';cases hb';split at h
    ·rename_i hh;cases h;obtain⟨rfl,rfl⟩:=hh;refine fin b 0 _ _ _ val rfl hc hs ?_ ha;rw[Z5,Zu (by rw[Zk,Yx,hs];exact Zc _)]
    ·obtain⟨u,k1,_,k2,k3⟩:=vw _ _ _ _ _ _ h ha;exact fin b off _ _ _ u rfl hc k1 k3 k2
  ·rename_i s p off;cases h1 with
   |iptr _ _ _ b o cs t' fr val hI hb hq hs hc=>
    split at h
    ·rename_i hh;cases h;obtain⟨rfl,rfl⟩:=hh;exact fin b (o+0) _ _ _ val rfl hb hs hc (.pv _ _ _ hs hq)
    ·split at h
     ·rename_i q hq';cases h;obtain⟨u,k1,k2,k3⟩:=Jo _ _ _ _ _ _ hq' hq;refine fin b (o+off) _ _ _ u rfl hb k1 ?_ (.pv _ _ _ k1 k2);rw[k3,hc,ZH,ZQ,Zz]
      congr 1
      have hul:u.cells.toList.length=(shOf P t).size:=by rw[Zk,Yx,k1]
      have:=congrArg List.length k3;rw[hul,hc] at this;simp only[Zh,ZA] at this;omega
     ·cases h
  ·rename_i s0 r ver i off;cases h1 with
   |eptr _ _ _ _ _ a es fz ho hv hc=>
    simp only[ho] at h;split at h
    ·rename_i hver;obtain⟨hi,b,hb,rfl⟩:=hc hver;split at h
     ·rename_i p hp0;rcases(hH.arr r s0 es fz ho).2 with⟨hn,_⟩|⟨b',cs,t',vals,h1,h2,h3,h4,h5⟩
      ·rw[hb] at hn;cases hn
      ·rw[hb] at h1;cases h1;have h5':cellsOf vals=(cs.toList.drop 0).take (es.length*s0.size):=by simpa using h5
       obtain⟨u,_,k1,k2,k3⟩:=j8 h3 (fun i p v hi hv=>(h4 i p v hi hv).1) (fun i p v hi hv=>(h4 i p v hi hv).2) h5' i p hp0;rw[Zv] at k3;split at h
       ·rename_i hh;cases h;obtain⟨rfl,rfl⟩:=hh;exact fin b (i*(shOf P t).size+0) _ _ _ u rfl h2 k1 k3 (.pv _ _ _ k1 k2)
       ·split at h
        ·rename_i q hq';cases h;obtain⟨x,j1,j2,j3⟩:=Jo _ _ _ _ _ _ hq' k2;refine fin b (i*s0.size+off) _ _ _ x rfl h2 j1 ?_ (.pv _ _ _ j1 j2);rw[j3,k3,ZH,ZQ,Zz]
         congr 1
         have hul:x.cells.toList.length=(shOf P t).size:=by rw[Zk,Yx,j1]
         have:=congrArg List.length j3;rw[hul,k3] at this;simp only[Zh,ZA] at this;omega
        ·cases h
     ·cases h
    ·cases h
  ·rename_i s0 r ver i off;cases h1 with
   |epv _ _ _ _ _ a n ho hv hc=>
    rcases XN ho with⟨es,e,rfl⟩|⟨es,e,rfl⟩
    ·simp only[e] at h;split at h
     ·rename_i hver;obtain⟨hi,b,hb,rfl⟩:=hc hver;split at h
      ·rename_i a0 ha0;obtain⟨_,b',cs,t',vals,h1,h2,h3,h4,h5⟩:=hH.arv r s0 es e;rw[hb] at h1;cases h1;have hsh:∀v∈vals,vshp v=s0:=fun v hvm=>by
        obtain⟨j,hj⟩:=Z6.1 hvm;have hjl:=(Zb.1 hj).1;exact(h4 j es[j] v (Zf (by omega)) hj).1.1
       obtain⟨u,k0,k1,k3⟩:=B9 (I:=fun _ _=>True) h3 hsh h5 i hi;have k2:=(h4 i a0 u ha0 k0).2;split at h
       ·rename_i hh;cases h;obtain⟨rfl,rfl⟩:=hh;exact fin b (i*(shOf P t).size+0) _ _ _ u rfl h2 k1 k3 k2
       ·obtain⟨x,j1,_,j3,j2⟩:=vw _ _ _ _ _ _ h k2;refine fin b (i*s0.size+off) _ _ _ x rfl h2 j1 ?_ j3;rw[j2,k3,ZH,ZQ,Zz]
        congr 1
        have hul:x.cells.toList.length=(shOf P t).size:=by rw[Zk,Yx,j1]
        have:=congrArg List.length j2;rw[hul,k3] at this;simp only[Zh,ZA] at this;omega
      ·cases h
     ·cases h
    ·simp only[e] at h;split at h
     ·rename_i hver;obtain⟨hi,b,hb,rfl⟩:=hc hver;split at h
      ·rename_i p hp0;rcases(hH.arr r s0 es true e).2 with⟨hn,_⟩|⟨b',cs,t',vals,h1,h2,h3,h4,h5⟩
       ·rw[hb] at hn;cases hn
       ·rw[hb] at h1;cases h1;have h5':cellsOf vals=(cs.toList.drop 0).take (es.length*s0.size):=by simpa using h5
        obtain⟨u,_,k1,k2,k3⟩:=j8 h3 (fun i p v hi hv=>(h4 i p v hi hv).1) (fun i p v hi hv=>(h4 i p v hi hv).2) h5' i p hp0;rw[Zv] at k3;split at h
        ·rename_i hh;cases h;obtain⟨rfl,rfl⟩:=hh;exact fin b (i*(shOf P t).size+0) _ _ _ u rfl h2 k1 k3 (.pv _ _ _ k1 k2)
        ·split at h
         ·rename_i q hq';cases h;obtain⟨x,j1,j2,j3⟩:=Jo _ _ _ _ _ _ hq' k2;refine fin b (i*s0.size+off) _ _ _ x rfl h2 j1 ?_ (.pv _ _ _ j1 j2);rw[j3,k3,ZH,ZQ,Zz]
          congr 1
          have hul:x.cells.toList.length=(shOf P t).size:=by rw[Zk,Yx,j1]
          have:=congrArg List.length j3;rw[hul,k3] at this;simp only[Zh,ZA] at this;omega
         ·cases h
      ·cases h
     ·cases h
  ·cases h
 ·cases h

theorem bb{t e ty:TypeId}{x:Value}{vs:List AV}{v:AV}(ht:P.underlying t=some (.slice e))(hl:LR w X μ hp vs [x])(h:sLen vs=some v):Yr P w X μ hp (do pure (.value (<-Builtin.len_ #[t] ty #[x]))) v:=by
 have fin:∀a n c,x=.slice a n c->v=.pv none (.int .i64 n)->Yr P w X μ hp (do pure (.value (<-Builtin.len_ #[t] ty #[x]))) v:=by
  intro a n c hx hv;subst hx;subst hv;exact⟨.int .i64 n,by simp[Builtin.len_,run_underlying ht,goInt],.mkInt _ _⟩
 unfold sLen at h;split at h
 ·cases h;obtain⟨_,e0,h1⟩:=hl.one;cases e0;cases h1 with
  |pv _ _ _ _ hq=>cases hq with
   |nilsl sh a n=>exact fin _ _ _ rfl rfl
   |sl=>exact fin _ _ _ rfl rfl
 ·cases h;obtain⟨_,e0,h1⟩:=hl.one;cases e0;cases h1 with
  |tsl=>exact fin _ _ _ rfl rfl
 ·cases h;obtain⟨_,e0,h1⟩:=hl.one;cases e0;cases h1 with
  |sl=>exact fin _ _ _ rfl rfl
 ·cases h;obtain⟨_,e0,h1⟩:=hl.one;cases e0;cases h1 with
  |slv=>exact fin _ _ _ rfl rfl
 ·cases h;obtain⟨_,e0,h1⟩:=hl.one;cases e0;cases h1 with
  |nilv=>exact fin _ _ _ rfl rfl
 ·cases h
theorem bc{t ty:TypeId}{x:Value}{vs:List AV}{v:AV}(ht:P.underlying t=some .string)(hl:LR w X μ hp vs [x])(h:xW vs=some v):Yr P w X μ hp (do pure (.value (<-Builtin.len_ #[t] ty #[x]))) v:=by
 unfold xW at h;split at h
 ·cases h;obtain⟨_,e0,h1⟩:=hl.one;cases e0;cases h1.str_inv;rename_i s;have hz:(ByteArray.mk s.toArray).size=s.length:=by simp[ByteArray.size]
  exact⟨.int .i64 s.length,by simp only[Builtin.len_,List.getElem?_toArray,List.getElem?_cons_zero,Sem.run_bind,run_underlying ht,Result.andThen_ok,goInt,Sem.run_pure,hz],.mkInt _ _⟩
 ·cases h
theorem be{t k e ty:TypeId}{x:Value}{vs:List AV}{v:AV}(hH:HR w X μ hp)(ht:P.underlying t=some (.map k e))(hl:LR w X μ hp vs [x])(h:Xs hp vs=some v):Yr P w X μ hp (do pure (.value (<-Builtin.len_ #[t] ty #[x]))) v:=by
 unfold Xs at h;split at h
 ·rename_i r;split at h
  ·rename_i sh es ho;cases h;obtain⟨_,e0,h1⟩:=hl.one;cases e0;cases h1 with
   |map _ b sh' es' ho' hb=>
    obtain⟨b',ents,clock,k1,k2,k3⟩:=hH.map r _ _ ho;rw[hb] at k1;cases k1;exact⟨.int .i64 ents.size,by simp[Builtin.len_,run_underlying ht,goInt,getObj,Sem.run,k2],by rw[k3.len];exact .mkInt _ _⟩
  ·cases h
 ·cases h;obtain⟨_,e0,h1⟩:=hl.one;cases e0;cases h1 with
  |pv _ _ _ _ hq=>cases hq;exact⟨_,by simp[Builtin.len_,run_underlying ht,goInt],.mkInt _ _⟩
 ·cases h

theorem bf{t e:TypeId}(ht:P.underlying t=some (.slice e))(hok:okT P e=true)(a:Option Addr)(len cap:Nat)(lo hi:Option Value)(l h:Nat)(hlo:lo=none/\l=0\/∃k,lo=some (.int k l))(hhi:hi=none/\h=len\/∃k,hi=some (.int k h))(h1:l<=h)(h2:h<=cap):
  (Instr.sliceAt t (.slice a len cap) lo hi none).run P w=.ok (.slice (if cap=l then a else a.map (·.add (l*(shOf P e).size))) (h - l) (cap - l)) w:=by
 have hs:=Xa hok w;rcases hlo with⟨rfl,rfl⟩|⟨k,rfl⟩ <;> rcases hhi with⟨rfl,rfl⟩|⟨k',rfl⟩ <;>
  simp[Instr.sliceAt,Instr.slice,run_underlying ht,Instr.sliceBounds,Instr.sliceBound,asIntOf, *]

theorem bg{e:TypeId}{a:Option Addr}{cap len:Nat}{v:AV}{s:AV}{lo:Int}{hi:Option Int}(h:aslice (shOf P e) lo hi s=some v)(hs:AR w X μ hp s (.slice a len cap)):
  0<=lo/\(∀x,hi=some x->0<=x)/\lo.toNat<=(hi.map Int.toNat).getD len/\(hi.map Int.toNat).getD len<=cap/\
   AR w X μ hp v (.slice (if cap=lo.toNat then a else a.map (·.add (lo.toNat*(shOf P e).size))) ((hi.map Int.toNat).getD len - lo.toNat) (cap - lo.toNat)):=by
 have psl:∀(es:List PV) (h0:Nat),es.length=len->lo.toNat<=h0->h0<=es.length->∀sh,(sh=shOf P e\/es=[])->PR w (Im X μ hp) (.sl sh es) (.slice a len cap)->
   PR w (Im X μ hp) (.sl sh ((es.drop lo.toNat).take (h0 - lo.toNat))) (.slice (if cap=lo.toNat then a else a.map (·.add (lo.toNat*(shOf P e).size))) (h0 - lo.toNat) (cap - lo.toNat))/\h0<=cap:=by
  intro es h0 hlen h1 h2 sh hsh hpr;cases hpr with
  |nilsl=>
   have:h0=0:=by simpa using h2
   subst this;have:lo.toNat=0:=by omega
   rw[this];simp only[List.drop_nil,List.take_nil];exact⟨.nilsl _ _ _,Ze _⟩
  |sl _ _ b o _ cs t fr vals hl hI hb hs hs' hc hn=>
   refine⟨?_,by omega⟩;by_cases hz:h0=lo.toNat
   ·have:h0 - lo.toNat=0:=by omega
    rw[this];simp only[zo];exact .nilsl _ _ _
   ·rcases hsh with rfl|rfl
    ·have hcl:¬cap=lo.toNat:=by omega
     rw[Za hcl];have hlen2:((es.drop lo.toNat).take (h0 - lo.toNat)).length=h0 - lo.toNat:=by simp;omega
     have hpe:∀(i:Nat) (p:PV) (v:Value),((es.drop lo.toNat).take (h0 - lo.toNat))[i]? =some p->((vals.drop lo.toNat).take (h0 - lo.toNat))[i]? =some v->vshp v=shOf P e/\PR w (Im X μ hp) p v:=by
      intro i p v hi hv;have hil:i<h0 - lo.toNat:=by have:=(Zb.1 hi).1;omega
      rw[zx hil,ZR] at hi hv;exact⟨hs _ p v hi hv,hs' _ p v hi hv⟩
     have key:=PR.sl (w:=w) (I:=Im X μ hp) (shOf P e) ((es.drop lo.toNat).take (h0 - lo.toNat)) b (o+lo.toNat*(shOf P e).size) (cap - lo.toNat) cs t fr ((vals.drop lo.toNat).take (h0 - lo.toNat)) (by simp;omega) hI hb (fun i p v hi hv=>(hpe i p v hi hv).1) (fun i p v hi hv=>(hpe i p v hi hv).2) ?_ (by omega)
     ·rw[hlen2] at key;simpa[Addr.add_lit] using key
     ·rw[Qd hl hs lo.toNat (h0 - lo.toNat) (by omega),hc,hlen2,ZH,Zz,ZQ]
      congr 1
      have:lo.toNat*(shOf P e).size+(h0 - lo.toNat)*(shOf P e).size<=es.length*(shOf P e).size:=by rw[<-Zq];exact ZY _ (by omega)
      omega
    ·exact absurd h2 (by simp at hlen h2;omega)
 unfold aslice at h;split at h
 ·rename_i s0 sh es;cases hs with
  |pv _ _ _ _ hq=>
   have hlen:es.length=len:=by cases hq <;> rfl
   split at h
   ·split at h
    ·rename_i hh;cases h;obtain⟨h1,h2,h3⟩:=hh;have:=psl es len hlen (by omega) (by omega) sh h1 hq;refine⟨h2,by simp,by simp;omega,by simpa using this.2,.pv _ _ _ rfl ?_⟩;have e1:(es.drop lo.toNat).take (len - lo.toNat)=es.drop lo.toNat:=Zu (by simp;omega);rw[e1] at this;simpa using this.1
    ·cases h
   ·rename_i x;split at h
    ·rename_i hh;cases h;obtain⟨h1,h2,h3,h4⟩:=hh;have:=psl es x.toNat hlen (by omega) (by omega) sh h1 hq;exact⟨h2,by simp;omega,by simp;omega,by simpa using this.2,.pv _ _ _ rfl (by simpa using this.1)⟩
    ·cases h
 ·rename_i sh es;cases hs with
  |tsl _ _ _ hq=>
   split at h
   ·split at h
    ·rename_i hh;cases h;obtain⟨h1,h2,h3⟩:=hh;have:=psl es es.length rfl (by omega) (by omega) sh h1 hq;refine⟨h2,by simp,by simp;omega,by simp,?_⟩;have e1:(es.drop lo.toNat).take (es.length - lo.toNat)=es.drop lo.toNat:=Zu (by simp);rw[e1] at this;have k:=AR.tsl (μ:=μ) sh (es.drop lo.toNat) (if es.length=lo.toNat then a else a.map (·.add (lo.toNat*(shOf P e).size))) (by simpa using this.1);simpa using k
    ·cases h
   ·rename_i x;split at h
    ·rename_i hh;cases h;obtain⟨h1,h2,h3,h4⟩:=hh;have:=psl es x.toNat rfl (by omega) (by omega) sh h1 hq;exact⟨h2,by simp;omega,by simp;omega,by simpa using this.2,.pv _ _ _ rfl (by simpa using this.1)⟩
    ·cases h
 ·rename_i s0 r ver off n;cases hs with
  |sl _ _ _ _ _ _ _ es fz ho hv hlc ha hc=>
   have slc:∀h0:Nat,lo.toNat<=h0->(h0<=len\/off+h0<=ver)->s0=shOf P e->AR w X μ hp (.sl (shOf P e) r ver (off+lo.toNat) (h0 - lo.toNat)) (.slice (if cap=lo.toNat then a else a.map (·.add (lo.toNat*(shOf P e).size))) (h0 - lo.toNat) (cap - lo.toNat)):=by
    intro h0 h1 h2 hsh;subst hsh;have hb:h0 - lo.toNat<=cap - lo.toNat/\ver<=off+lo.toNat+(cap - lo.toNat):=by clear hc;omega
    refine .sl _ r ver _ _ _ _ es fz ho hv hb (fun hne=> ?_) fun ev=> ?_
    ·clear hc;rw[Za (by omega)];simpa using ha (by omega)
    ·obtain⟨c1,c2⟩:=hc ev;clear hc;refine⟨by clear c2;omega,?_⟩;rcases c2 with⟨c2,c3⟩|⟨b,cs,t,c2,c3,c4,c5⟩
     ·exact .inl ⟨c2,by omega⟩
     ·refine .inr ⟨b,cs,t,c2,c3,?_,fun hne=> ?_⟩
      ·rw[<-c4];congr 1;omega
      ·have n1:¬cap=lo.toNat:=fun e=>hne (by rw[e];exact zy _);have n2:cap≠0:=fun e=>hne (by rw[e];exact Nat.zero_sub _);rw[Za n1,c5 n2];simp[Addr.add_lit,Zq]
   split at h
   ·split at h
    ·rename_i hh;cases h;obtain⟨h1,h2,h3⟩:=hh;exact⟨h2,by simp,by simp;omega,by simpa using hlc.1,by simpa using slc len (by omega) (.inl (Zc _)) h1⟩
    ·cases h
   ·rename_i x;split at h
    ·rename_i hh;cases h;obtain⟨h1,h2,h3,h4⟩:=hh;exact⟨h2,by simp;omega,by simp;omega,by simp;omega,by simpa using slc x.toNat (by omega) (by omega) h1⟩
    ·cases h
 ·rename_i s0 r ver off n;cases hs with
  |slv _ _ _ _ _ _ _ n0 ho hv hlc ha hc=>
   have slc:∀h0:Nat,lo.toNat<=h0->(h0<=len\/off+h0<=ver)->s0=shOf P e->AR w X μ hp (.slv (shOf P e) r ver (off+lo.toNat) (h0 - lo.toNat)) (.slice (if cap=lo.toNat then a else a.map (·.add (lo.toNat*(shOf P e).size))) (h0 - lo.toNat) (cap - lo.toNat)):=by
    intro h0 h1 h2 hsh;subst hsh;have hb:h0 - lo.toNat<=cap - lo.toNat/\ver<=off+lo.toNat+(cap - lo.toNat):=by clear hc;omega
    refine .slv _ r ver _ _ _ _ n0 ho hv hb (fun hne=> ?_) fun ev=> ?_
    ·clear hc;rw[Za (by omega)];simpa using ha (by omega)
    ·obtain⟨c1,b,cs,t,c2,c3,c4,c5⟩:=hc ev;clear hc;refine⟨by clear c5 c4;omega,b,cs,t,c2,c3,?_,fun hne=> ?_⟩
     ·rw[<-c4];congr 1;omega
     ·have n1:¬cap=lo.toNat:=fun e=>hne (by rw[e];exact zy _);have n2:cap≠0:=fun e=>hne (by rw[e];exact Nat.zero_sub _);rw[Za n1,c5 n2];simp[Addr.add_lit,Zq]
   split at h
   ·split at h
    ·rename_i hh;cases h;obtain⟨h1,h2,h3⟩:=hh;exact⟨h2,by simp,by simp;omega,by simpa using hlc.1,by simpa using slc len (by omega) (.inl (Zc _)) h1⟩
    ·cases h
   ·rename_i x;split at h
    ·rename_i hh;cases h;obtain⟨h1,h2,h3,h4⟩:=hh;exact⟨h2,by simp;omega,by simp;omega,by simp;omega,by simpa using slc x.toNat (by omega) (by omega) h1⟩
    ·cases h
 ·cases h
end Go.Am

/- New variables, stores into variables, run in the model. -/
namespace Go.Am
variable{P:Program} {w:World} {X:Xc P} {μ:Nat->Option Nat} {hp:Heap}

def Out(P:Program)(b:Nat)(w:World)(X:Xc P)(μ:Nat->Option Nat)(hp:Heap)(s:Sem Next)(v:AV)(hp':Heap):Prop:=
 ∃n v' w' μ',s.run P w=.ok n w'/\(n=.value v'\/(n=.skip/\v'=undef))/\AR w' X μ' hp' v v'/\HR w' X μ' hp'/\Ext b X μ hp w μ' hp' w'

theorem Yr.out{b:Nat}{s:Sem Next}{v:AV}(h:Yr P w X μ hp s v)(hH:HR w X μ hp):Out P b w X μ hp s v hp:=by
 obtain⟨v',h1,h2⟩:=h;exact⟨_,v',w,μ,h1,.inl rfl,h2,hH,Ext.refl _ _ _ _ _⟩

theorem j9(b:Nat)(hH:HR w X μ hp){sh:Sh}(hs:0<sh.size):HR w X (upd μ hp.length none) (hp++[.arr sh [] false])/\Ext b X μ hp w (upd μ hp.length none) (hp++[.arr sh [] false]) w/\
  AR w X (upd μ hp.length none) (hp++[.arr sh [] false]) (.sl sh hp.length 0 0 0) (.slice none 0 0):=by
 refine⟨hH.push _ none (Ext.refl _ _ _ _ _) (fun _ _ _ _=>rfl) (fun b h=>by cases h) (fun sh v h=>by cases h) (fun sh es fz h=> ?_) (fun sh es h=>by cases h),Ext.push _ none (Ext.refl _ _ _ _ _) (fun b h=>by cases h),?_⟩
 ·cases h;exact⟨hs,.inl ⟨rfl,rfl⟩⟩
 ·exact .sl _ _ _ _ _ _ _ [] false y8 (Zc _) ⟨Zc _,Zc _⟩ (fun h=>absurd rfl h) fun _=>⟨Zc _,.inl ⟨Yg _ _ _,rfl⟩⟩

theorem vC(b:Nat)(hH:HR w X μ hp){sh:Sh}(hs:0<sh.size){v:Value}(hv:AR w X μ hp (.tsl sh []) v):HR w X (upd μ hp.length none) (hp++[.arr sh [] false])/\Ext b X μ hp w (upd μ hp.length none) (hp++[.arr sh [] false]) w/\
  AR w X (upd μ hp.length none) (hp++[.arr sh [] false]) (.sl sh hp.length 0 0 0) v:=by
 obtain⟨h1,h2,_⟩:=j9 b hH hs;refine⟨h1,h2,?_⟩;cases hv with
 |tsl _ _ a _=>exact .sl _ _ _ _ _ a _ [] false y8 (Zc _) ⟨Zc _,Ze _⟩ (fun h=>absurd rfl h) fun _=>⟨Zc _,.inl ⟨Yg _ _ _,rfl⟩⟩

theorem bh(b:Nat):∀(l:List (Sh × AV)) (μ:Nat->Option Nat) (hp:Heap) (vs:List Value),HR w X μ hp->CR w X μ hp l vs->
  ∃μ',HR w X μ' (Yf l hp).2/\Ext b X μ hp w μ' (Yf l hp).2 w/\CR w X μ' (Yf l hp).2 (Yf l hp).1 vs/\total (Yf l hp).1=total l:=by
 intro l
 induction l with
 |nil=>intro μ hp vs hH hc;exact⟨μ,hH,Ext.refl _ _ _ _ _,hc,rfl⟩
 |cons x r ih=>
  intro μ hp vs hH hc;obtain⟨s,a⟩:=x;obtain⟨v,us,rfl,h1,hf,h2,h3⟩:=hc.inv;have plain:∀s a,AR w X μ hp a v->vshp v=s->Yf ((s,a)::r) hp=((s,a)::(Yf r hp).1,(Yf r hp).2)->
    ∃μ',HR w X μ' (Yf ((s,a)::r) hp).2/\Ext b X μ hp w μ' (Yf ((s,a)::r) hp).2 w/\CR w X μ' (Yf ((s,a)::r) hp).2 (Yf ((s,a)::r) hp).1 (v::us)/\total (Yf ((s,a)::r) hp).1=total ((s,a)::r):=by
   intro s a h2 h1 e;obtain⟨μ',k1,k2,k3,k4⟩:=ih μ hp us hH h3;rw[e];exact⟨μ',k1,k2,CR.cons h1 hf (k2.ar h2) k3,by simp[total,k4]⟩
  cases a with
  |tsl sh es=>
   cases es with
   |nil=>
    by_cases hs:0<sh.size
    ·obtain⟨p1,p2,p3⟩:=vC b hH hs h2;have h3':CR w X (upd μ hp.length none) (hp++[.arr sh [] false]) r us:=⟨h3.1,h3.2.1,fun i x v hx hv=>p2.ar (h3.2.2 i x v hx hv)⟩;obtain⟨μ',k1,k2,k3,k4⟩:=ih _ _ us p1 h3';have e:Yf ((s,.tsl sh [])::r) hp=((s,.sl sh hp.length 0 0 0)::(Yf r (hp++[.arr sh [] false])).1,(Yf r (hp++[.arr sh [] false])).2):=by
      simp only[Yf,hs,if_true]
     rw[e];exact⟨μ',k1,p2.trans k2,CR.cons h1 hf (k2.ar p3) k3,by simp[total,k4]⟩
    ·exact plain s _ h2 h1 (by simp only[Yf,hs,if_false])
   |cons e es=>exact plain s _ h2 h1 rfl
  |_=>exact plain s _ h2 h1 rfl

theorem Ka(b:Nat){a:AV}{v:Value}(hH:HR w X μ hp)(ha:AR w X μ hp a v):∃μ',HR w X μ' (a.own hp).2/\Ext b X μ hp w μ' (a.own hp).2 w/\AR w X μ' (a.own hp).2 (a.own hp).1 v:=by
 have same:a.own hp=(a,hp)->∃μ',HR w X μ' (a.own hp).2/\Ext b X μ hp w μ' (a.own hp).2 w/\AR w X μ' (a.own hp).2 (a.own hp).1 v:=by
  intro e;rw[e];exact⟨μ,hH,Ext.refl _ _ _ _ _,ha⟩
 cases a with
 |tsl sh es=>
  cases es with
  |nil=>
   by_cases hs:0<sh.size
   ·obtain⟨p1,p2,p3⟩:=vC b hH hs ha;have e:(AV.tsl sh []).own hp=(.sl sh hp.length 0 0 0,hp++[.arr sh [] false]):=by simp only[AV.own,hs,if_true]
    rw[e];exact⟨_,p1,p2,p3⟩
   ·exact same (by simp only[AV.own,hs,if_false])
  |cons e es=>exact same rfl
 |agg l=>
  cases ha with
  |agg _ vs h1 h2 h3=>
   obtain⟨μ',k1,k2,k3,_⟩:=bh b l μ hp vs hH ⟨h1,h2,h3⟩;exact⟨μ',k1,k2,k3.agg⟩
 |_=>exact same rfl

theorem Kb(t:TypeId)(v:Value):(newVar t v).run P w=.ok ⟨w.heap.size,0,none⟩ (w.alloc (.cells v.cells t)):=by
 simp[newVar,newRow]

theorem vD{b:Nat}{t:TypeId}{sh:Sh}{a:AV}{x:Value}(hb:b<=hp.length)(hH:HR w X μ hp)(ha:AR w X μ hp a x)(hpl:a.plain=true)(hsh:a.shp=sh):
  ∃μ',AR (w.alloc (.cells x.cells t)) X μ' (((a.own (hp++[.box sh a])).2).set hp.length (.box sh (a.own (hp++[.box sh a])).1)) (.ptr hp.length 0) (.pointer (some ⟨w.heap.size,0,none⟩))/\
   HR (w.alloc (.cells x.cells t)) X μ' (((a.own (hp++[.box sh a])).2).set hp.length (.box sh (a.own (hp++[.box sh a])).1))/\
   Ext b X μ hp w μ' (((a.own (hp++[.box sh a])).2).set hp.length (.box sh (a.own (hp++[.box sh a])).1)) (w.alloc (.cells x.cells t)):=by
 have hs:vshp x=sh:=by rw[ha.vshp hpl,hsh]
 have hE:=Ext.push (b0:=b) (.box sh a) (some w.heap.size) (Ext.alloc (X:=X) (μ:=μ) (hp:=hp) (w:=w) b (.cells x.cells t)) (fun k hk=>by cases hk;exact Zc _);have hH1:HR (w.alloc (.cells x.cells t)) X (upd μ hp.length (some w.heap.size)) (hp++[.box sh a]):=by
  refine hH.push _ _ (Ext.alloc 0 _) (fun i k hi hk=>Y2 w _ (hH.out i k hi hk).2) (fun k hk=>by cases hk;exact⟨Zc _,by simp⟩) (fun s v h=> ?_) (fun _ _ _ h=>by cases h) (fun _ _ h=>by cases h);cases h;exact⟨_,x,t,rfl,YW w _,hs,ha.flat hpl,hE.ar ha⟩
 obtain⟨μ',k1,k2,k3⟩:=Ka b hH1 (hE.ar ha);obtain⟨v0,k4,k5,_⟩:=k2.box hp.length sh a y8;have k6:μ' hp.length=some w.heap.size:=by rw[k5,Yg]
 have E2:∀b0,b0<=hp.length->Ext b0 X μ' (a.own (hp++[.box sh a])).2 (w.alloc (.cells x.cells t)) μ' (((a.own (hp++[.box sh a])).2).set hp.length (.box sh (a.own (hp++[.box sh a])).1)) (w.alloc (.cells x.cells t)):=fun b0 hb0=>
  Ext.setBox k4 (fun h=>by omega) k6 rfl rfl rfl rfl (fun _ _=>rfl) (fun cs t fr h=>⟨cs,h,rfl⟩)
 have H2:=k1.setBox k4 k6 (E2 0 (Ze _)) (fun _ _=>rfl) (YW w _) hs (ha.flat hpl) k3;refine⟨μ',?_,H2,(hE.trans k2).trans (E2 b hb)⟩;have hl:hp.length<(a.own (hp++[.box sh a])).2.length:=(Zb.1 k4).1;exact .ptr _ 0 _ sh _ (by rw[Zx hl]) k6

theorem bj{b:Nat}{t:TypeId}{x:Value}{vs:List AV}{v:AV}{hp':Heap}(hb:b<=hp.length)(hH:HR w X μ hp)(hl:LR w X μ hp vs [x])(h:wBox (shOf P t) hp vs=some (v,hp')):
  Out P b w X μ hp (do pure (.value (<-Instr.box t x))) v hp':=by
 unfold wBox at h;split at h
 ·rename_i a;obtain⟨_,e0,h1⟩:=hl.one;cases e0;split at h
  ·rename_i hh;cases h;obtain⟨μ',k1,k2,k3⟩:=vD (t:=t) hb hH h1 hh.1 hh.2;exact⟨_,_,_,μ',by simp only[Instr.box,Sem.run_bind,Kb,Result.andThen_ok,Sem.run_pure],.inl rfl,k1,k2,k3⟩
  ·cases h
 ·cases h

theorem xC{t:TypeId}{z:AV}(h:YO P t=some z):∃v,(zeroValue t).run P w=.ok v w/\AR w X μ hp z v/\z.plain=true:=by
 unfold YO at h;split at h
 ·rename_i i hi;split at h
  ·rename_i v hv;obtain⟨h1,h2⟩:=Jm P w X μ hp 8 t v z h;exact⟨v,by simp[zeroValue,typeInfo,hi,hv],h1,h2⟩
  ·cases h
 ·cases h

theorem bm{b:Nat}{t:TypeId}{z:AV}{vs:List AV}{v:AV}{hp':Heap}(hb:b<=hp.length)(hH:HR w X μ hp)(hz:YO P t=some z)(h:Xn (shOf P t) z hp vs=some (v,hp')):
  Out P b w X μ hp (do pure (.value (<-Instr.alloc t true (.tuple #[])))) v hp':=by
 unfold Xn at h;split at h
 ·split at h
  ·rename_i hh;cases h;obtain⟨x,h1,h2,h3⟩:=xC (w:=w) (X:=X) (μ:=μ) (hp:=hp) hz;obtain⟨μ',k1,k2,k3⟩:=vD (t:=t) hb hH h2 h3 hh.2;exact⟨_,_,_,μ',by simp only[Instr.alloc,Sem.run_bind,h1,Kb,Result.andThen_ok,Sem.run_pure],.inl rfl,k1,k2,k3⟩
  ·cases h
 ·cases h

theorem bn(d:Nat)(ihd:∀p off sh x q v u,AV.upd d p off sh x=some q->AR w X μ hp p v->AR w X μ hp x u->vshp u=sh->Flat u->∃n,AR w X μ hp q n/\vshp n=vshp v/\Flat n/\off+sh.size<=v.cells.size/\n.cells.toList=v.cells.toList.take off++u.cells.toList++v.cells.toList.drop (off+sh.size)):
  ∀(l:List (Sh × AV)) (vs:List Value) (off:Nat) (sh:Sh) (x:AV) (u:Value) (l':List (Sh × AV)),AV.upd.go d off sh x l=some l'->CR w X μ hp l vs->AR w X μ hp x u->vshp u=sh->Flat u->
   ∃ns,CR w X μ hp l' ns/\total l'=total l/\off+sh.size<=(cellsOf vs).length/\cellsOf ns=(cellsOf vs).take off++u.cells.toList++(cellsOf vs).drop (off+sh.size):=by
 intro l
 induction l with
 |nil=>intro vs off sh x u l' h;simp[AV.upd.go,AV.updGo] at h
 |cons y r ih=>
  intro vs off sh x u l' h hc hx hs hfu;obtain⟨s,p⟩:=y;obtain⟨v,us,rfl,h1,hf,h2,h3⟩:=hc.inv;have hlen:v.cells.toList.length=s.size:=by rw[Zk,Yx,h1]
  have hul:u.cells.toList.length=sh.size:=by rw[Zk,Yx,hs]
  simp only[AV.upd.go,AV.updGo] at h;split at h
  ·rename_i hh;cases h;obtain⟨rfl,rfl⟩:=hh;refine⟨u::us,CR.cons hs hfu hx h3,by simp[total],by simp[Yj,hlen],?_⟩;rw[Yj,Yj,zo,Zv,<-hlen,zk];simp
  ·split at h
   ·rename_i hlt;split at h
    ·rename_i p' hp';cases h;obtain⟨n,n1,n2,n3,n4,n5⟩:=ihd _ _ _ _ _ _ _ hp' h2 hx hs hfu;have n4':off+sh.size<=v.cells.toList.length:=by simpa using n4
     refine⟨n::us,CR.cons (by rw[n2,h1]) n3 n1 h3,by simp[total],by simp only[Yj,Zi];omega,?_⟩;rw[Yj,Yj,n5,zT (by omega),List.drop_append_of_le_length (by omega)];simp
    ·cases h
   ·rename_i hge;split at h
    ·rename_i r' hr';cases h;obtain⟨ns,n1,n2,n3,n4⟩:=ih us _ _ _ _ _ hr' h3 hx hs hfu;refine⟨v::ns,CR.cons h1 hf h2 n1,by simp[total,n2],by simp only[Yj,Zi,hlen];omega,?_⟩;rw[Yj,Yj,n4,zp,List.drop_append,Zu (by omega:v.cells.toList.length<=off),Z3 (by omega:v.cells.toList.length<=off+sh.size),hlen,
      show off+sh.size - s.size=off - s.size+sh.size by omega]
     simp
    ·cases h
theorem vE:∀(d:Nat) (p:AV) (off:Nat) (sh:Sh) (x q:AV) (v u:Value),AV.upd d p off sh x=some q->AR w X μ hp p v->AR w X μ hp x u->vshp u=sh->Flat u->∃n,AR w X μ hp q n/\vshp n=vshp v/\Flat n/\off+sh.size<=v.cells.size/\n.cells.toList=v.cells.toList.take off++u.cells.toList++v.cells.toList.drop (off+sh.size):=by
 intro d
 induction d with
 |zero=>intro p off sh x q v u h;simp[AV.upd] at h
 |succ d ih=>
  intro p off sh x q v u h hp hx hs hfu;simp only[AV.upd] at h;split at h
  ·cases h
  ·rename_i l hl;split at h
   ·rename_i l' hl';cases h;obtain⟨vs,rfl,hc⟩:=vi hl hp;obtain⟨ns,n1,n2,n3,n4⟩:=bn d (fun p off sh x q v u h1 h2 h3 h4 h5=>ih p off sh x q v u h1 h2 h3 h4 h5) l vs off sh x u l' hl' hc hx hs hfu;refine⟨_,n1.ofComps,?_,?_,by simpa[Value.cells] using n3,by simpa[Value.cells] using n4⟩
    ·have a1:=n1.total;have a2:=hc.total;simp[vshp,a1,a2,n2]
    ·intro c hcm;have hc':c∈cellsOf ns:=by simpa[Value.cells] using hcm
     obtain⟨i,v,hi,hcv⟩:=QE hc';have hlt:i<l'.length:=by rw[n1.1];exact(Zb.1 hi).1
     exact(n1.2.1 i l'[i] v (Zf hlt) hi).2 c hcv
   ·cases h
end Go.Am

/- Stores, run in the model. -/
namespace Go.Am
variable{P:Program} {w:World} {X:Xc P} {μ:Nat->Option Nat} {hp:Heap}

theorem Kc{t:TypeId}(hok:okS P t=true){b o:Nat}{cur:Array Value}{t':TypeId}{u:Value}(hb:w.heap[b]? =some (.cells cur t' (0,0)))(hs:vshp u=shOf P t)(hf:Flat u)(hle:o+(shOf P t).size<=cur.size):
  (Instr.storeAt t (.pointer (some ⟨b,o,none⟩)) u).run P w=.ok () (w.setRow b (cur.toList.take o++u.cells.toList++cur.toList.drop (o+(shOf P t).size)).toArray):=by
 have hul:u.cells.size=(shOf P t).size:=by rw[Yx,hs]
 have hst:=run_storeCells_at P b o t' u.cells.toList 0 cur w hb (by simpa[hul] using hle) (fun v hv=>hf v (by simpa using hv));simp only[Nat.add_zero,Zk,hul] at hst;simp only[Instr.storeAt,Instr.sureAddr,Sem.run_bind,Sem.run_pure,Result.andThen_ok,storeVar,BH hok,hul,ne_eq,not_true_eq_false,if_false,hst]

theorem bp{b0 r b:Nat}{sh:Sh}{old v:AV}{cur new:Array Value}{t:TypeId}(hr:hp[r]? =some (.box sh old))(hq:r<b0->∀q∈v.refsIn,q∈old.refsIn)(hb:μ r=some b)(hc:w.heap[b]? =some (.cells cur t (0,0)))(hsz:new.size=cur.size):
  Ext b0 X μ hp w μ (hp.set r (.box sh v)) (w.setRow b new):=
 Ext.setBox hr hq hb rfl rfl rfl (by simp[World.setRow]) (fun k hk=>setRow_other w b k new hk) (fun cs t' fr h=>by
  rw[hc] at h;cases h;exact⟨new,setRow_heap w b cur new t _ hc,hsz⟩)

theorem Kd{α:Type}{l m:List α}{n:Nat}(h:l.length=n):l.take 0++m++l.drop (0+n)=m:=by
 simp[<-h]

theorem Jr{b0 r off b:Nat}{t:TypeId}{sh:Sh}{old v' new:AV}{x:Value}(hok:okS P t=true)(hH:HR w X μ hp)(hr:hp[r]? =some (.box sh old))(hb:μ r=some b)(hv:AR w X μ hp v' x)(hs:vshp x=shOf P t)(hf:Flat x)
  (hnew:(off=0/\sh=shOf P t/\new=v')\/AV.upd deep old off (shOf P t) v'=some new)(hq:r<b0->∀q∈new.refsIn,q∈old.refsIn):
  ∃w',(Instr.storeAt t (.pointer (some ⟨b,off,none⟩)) x).run P w=.ok () w'/\HR w' X μ (hp.set r (.box sh new))/\Ext b0 X μ hp w μ (hp.set r (.box sh new)) w':=by
 obtain⟨b',val,t',h1,h2,h3,h4,h5⟩:=hH.box r sh old hr;rw[hb] at h1;cases h1;obtain⟨n,n1,n2,n3,n4,n5⟩:∃n,AR w X μ hp new n/\vshp n=sh/\Flat n/\off+(shOf P t).size<=val.cells.size/\n.cells.toList=val.cells.toList.take off++x.cells.toList++val.cells.toList.drop (off+(shOf P t).size):=by
  rcases hnew with⟨rfl,rfl,rfl⟩|hu
  ·have hvl:val.cells.toList.length=(shOf P t).size:=by rw[Zk,Yx,h3]
   exact⟨x,hv,hs,hf,by rw[Yx,h3];omega,(Kd hvl).symm⟩
  ·obtain⟨n,n1,n2,n3,n4,n5⟩:=vE _ _ _ _ _ _ _ _ hu h5 hv hs hf;exact⟨n,n1,by rw[n2,h3],n3,n4,n5⟩
 have hrun:=Kc (P:=P) hok h2 hs hf n4;rw[<-n5,Array.toArray_toList] at hrun;have hsz:n.cells.size=val.cells.size:=by rw[Yx,Yx,n2,h3]
 have E:=fun b0 (hq:r<b0->∀q∈new.refsIn,q∈old.refsIn)=>bp (w:=w) (X:=X) (v:=new) (new:=n.cells) hr hq hb h2 hsz;exact⟨_,hrun,hH.setBox hr hb (E 0 (fun h=>absurd h (Nat.not_lt_zero _))) (fun k hk=>setRow_other w b k _ hk) (setRow_heap w b _ _ t' _ h2) n2 n3 n1,E b0 hq⟩

theorem bq{l:List (Sh × AV)}{q:Nat}:q∈AV.refsIn.go l↔∃x,x∈l/\q∈x.2.refsIn:=by
 induction l with
 |nil=>simp[AV.refsIn.go]
 |cons x r ih=>obtain⟨s,v⟩:=x;simp[AV.refsIn.go,ih]
theorem br{a:AV}{l:List (Sh × AV)}(h:a.comps=some l){q:Nat}:q∈AV.refsIn.go l↔q∈a.refsIn:=by
 cases a with
 |agg l'=>simp[AV.comps] at h;subst h;simp[AV.refsIn]
 |pv s p=>
  cases p with
  |agg l'=>
   simp[AV.comps] at h;subst h;rw[bq];constructor
   ·rintro⟨x,hx,hq⟩;obtain⟨y,_,rfl⟩:=Z0.1 hx;simp[AV.refsIn] at hq
   ·intro hq;simp[AV.refsIn] at hq
  |_=>simp[AV.comps] at h
 |_=>simp[AV.comps] at h
theorem bt{l:List (Sh × AV)}{q:Nat}(h:q∈(AV.ofComps l).refsIn):q∈AV.refsIn.go l:=by
 unfold AV.ofComps at h;split at h
 ·simp[AV.refsIn] at h
 ·simpa[AV.refsIn] using h
theorem bu:∀(d:Nat) (p:AV) (off:Nat) (sh:Sh) (x n:AV) (q:Nat),AV.upd d p off sh x=some n->q∈n.refsIn->q∈p.refsIn\/q∈x.refsIn:=by
 intro d
 induction d with
 |zero=>intro p off sh x n q h;simp[AV.upd] at h
 |succ d ih=>
  have go:∀(l:List (Sh × AV)) (off:Nat) (sh:Sh) (x:AV) (l':List (Sh × AV)) (q:Nat),AV.upd.go d off sh x l=some l'->q∈AV.refsIn.go l'->q∈AV.refsIn.go l\/q∈x.refsIn:=by
   intro l
   induction l with
   |nil=>intro off sh x l' q h;simp[AV.upd.go,AV.updGo] at h
   |cons y r ihl=>
    intro off sh x l' q h hq;obtain⟨s,p⟩:=y;simp only[AV.upd.go,AV.updGo] at h;split at h
    ·cases h;simp only[AV.refsIn.go,ZE] at hq ⊢;rcases hq with hq|hq
     ·exact .inr hq
     ·exact .inl (.inr hq)
    ·split at h
     ·split at h
      ·rename_i p' hp';cases h;simp only[AV.refsIn.go,ZE] at hq ⊢;rcases hq with hq|hq
       ·rcases ih _ _ _ _ _ _ hp' hq with h1|h1
        ·exact .inl (.inl h1)
        ·exact .inr h1
       ·exact .inl (.inr hq)
      ·cases h
     ·split at h
      ·rename_i r' hr';cases h;simp only[AV.refsIn.go,ZE] at hq ⊢;rcases hq with hq|hq
       ·exact .inl (.inl hq)
       ·rcases ihl _ _ _ _ _ hr' hq with h1|h1
        ·exact .inl (.inr h1)
        ·exact .inr h1
      ·cases h
  intro p off sh x n q h hq;simp only[AV.upd] at h;split at h
  ·cases h
  ·rename_i l hl;split at h
   ·rename_i l' hl';cases h;rcases go _ _ _ _ _ _ hl' (bt hq) with h1|h1
    ·exact .inl ((br hl).1 h1)
    ·exact .inr h1
   ·cases h

theorem bw{I:Nat->Prop}(d:Nat)(ihd:∀p off sh x q v u,PV.upd d p off sh x=some q->PR w I p v->PR w I x u->vshp u=sh->∃n,PR w I q n/\vshp n=vshp v/\off+sh.size<=v.cells.size/\n.cells.toList=v.cells.toList.take off++u.cells.toList++v.cells.toList.drop (off+sh.size)):
  ∀(l:List (Sh × PV)) (vs:List Value) (off:Nat) (sh:Sh) (x:PV) (u:Value) (l':List (Sh × PV)),PV.upd.go d off sh x l=some l'->CP w I l vs->PR w I x u->vshp u=sh->
   ∃ns,CP w I l' ns/\total l'=total l/\off+sh.size<=(cellsOf vs).length/\cellsOf ns=(cellsOf vs).take off++u.cells.toList++(cellsOf vs).drop (off+sh.size):=by
 intro l
 induction l with
 |nil=>intro vs off sh x u l' h;simp[PV.upd.go] at h
 |cons y r ih=>
  intro vs off sh x u l' h hc hx hs;obtain⟨s,p⟩:=y;obtain⟨v,us,rfl,h1,h2,h3⟩:=hc.inv;have hlen:v.cells.toList.length=s.size:=by rw[Zk,Yx,h1]
  have hul:u.cells.toList.length=sh.size:=by rw[Zk,Yx,hs]
  simp only[PV.upd.go] at h;split at h
  ·rename_i hh;cases h;obtain⟨rfl,rfl⟩:=hh;refine⟨u::us,CP.cons hs hx h3,by simp[total],by simp[Yj,hlen],?_⟩;rw[Yj,Yj,zo,Zv,<-hlen,zk];simp
  ·split at h
   ·rename_i hlt;split at h
    ·rename_i p' hp';cases h;obtain⟨n,n1,n2,n4,n5⟩:=ihd _ _ _ _ _ _ _ hp' h2 hx hs;have n4':off+sh.size<=v.cells.toList.length:=by simpa using n4
     refine⟨n::us,CP.cons (by rw[n2,h1]) n1 h3,by simp[total],by simp only[Yj,Zi];omega,?_⟩;rw[Yj,Yj,n5,zT (by omega),List.drop_append_of_le_length (by omega)];simp
    ·cases h
   ·rename_i hge;split at h
    ·rename_i r' hr';cases h;obtain⟨ns,n1,n2,n3,n4⟩:=ih us _ _ _ _ _ hr' h3 hx hs;refine⟨v::ns,CP.cons h1 h2 n1,by simp[total,n2],by simp only[Yj,Zi,hlen];omega,?_⟩;rw[Yj,Yj,n4,zp,List.drop_append,Zu (by omega:v.cells.toList.length<=off),Z3 (by omega:v.cells.toList.length<=off+sh.size),hlen,
      show off+sh.size - s.size=off - s.size+sh.size by omega]
     simp
    ·cases h
theorem bx{I:Nat->Prop}:∀(d:Nat) (p:PV) (off:Nat) (sh:Sh) (x q:PV) (v u:Value),PV.upd d p off sh x=some q->PR w I p v->PR w I x u->vshp u=sh->∃n,PR w I q n/\vshp n=vshp v/\off+sh.size<=v.cells.size/\n.cells.toList=v.cells.toList.take off++u.cells.toList++v.cells.toList.drop (off+sh.size):=by
 intro d
 induction d with
 |zero=>intro p off sh x q v u h;simp[PV.upd] at h
 |succ d ih=>
  intro p off sh x q v u h hp hx hs;cases hp with
  |agg l vs hl h1 h2=>
   simp only[PV.upd] at h;split at h
   ·rename_i l' hl';cases h;obtain⟨ns,n1,n2,n3,n4⟩:=bw d ih l vs off sh x u l' hl' ⟨hl,h1,h2⟩ hx hs;refine⟨_,n1.agg,?_,by simpa[Value.cells] using n3,by simpa[Value.cells] using n4⟩;have a1:=n1.total;have a2:=CP.total (w:=w) (I:=I) (l:=l) (vs:=vs) ⟨hl,h1,h2⟩;simp[vshp,a1,a2,n2]
   ·cases h
  |_=>simp[PV.upd] at h

theorem vF{vals:List Value}{k:Nat}(hk:∀v∈vals,v.cells.size=k)(i:Nat)(u:Value)(hi:i<vals.length)(hu:u.cells.size=k):cellsOf (vals.set i u)=(cellsOf vals).take (i*k)++u.cells.toList++(cellsOf vals).drop (i*k+k):=by
 induction vals generalizing i with
 |nil=>simp at hi
 |cons v r ih=>
  have hv:=hk v (by simp);cases i with
  |zero=>
   simp only[List.set_cons_zero,Yj,Nat.zero_mul,zo,ZP,Zv];rw[show k=v.cells.toList.length by simpa using hv.symm,zk]
  |succ i=>
   have hvl:v.cells.toList.length=k:=by simpa using hv
   rw[List.set_cons_succ,Yj,Yj,ih (fun v hv=>hk v (by simp[hv])) i (by simpa using hi),zp,List.drop_append,Zu (show v.cells.toList.length<=(i+1)*k by rw[hvl,Zq];omega),Z3 (show v.cells.toList.length<=(i+1)*k+k by rw[hvl,Zq];omega),hvl,
    show(i+1)*k - k=i*k by rw[Zq];omega,show(i+1)*k+k - k=i*k+k by rw[Zq];omega]
   simp

theorem vG{b0 r i off:Nat}{t:TypeId}{sh:Sh}{es:List PV}{x:Value}{p old new:PV}{a:Addr}(hok:okS P t=true)(hH:HR w X μ hp)(hr:hp[r]? =some (.arr sh es false))(hi:es[i]? =some old)
  (ha:∃b,μ r=some b/\a=⟨b,i*sh.size+off,none⟩)(hv:PR w (Im X μ hp) p x)(hs:vshp x=shOf P t)(hnew:(off=0/\sh=shOf P t/\new=p)\/PV.upd deep old off (shOf P t) p=some new):
  ∃w',(Instr.storeAt t (.pointer (some a)) x).run P w=.ok () w'/\HR w' X μ (hp.set r (.arr sh (es.set i new) false))/\Ext b0 X μ hp w μ (hp.set r (.arr sh (es.set i new) false)) w':=by
 obtain⟨b,hb,rfl⟩:=ha;have hil:=(Zb.1 hi).1;have hrl:=(Zb.1 hr).1;rcases(hH.arr r sh es false hr).2 with⟨hn,_⟩|⟨b',cs,t',vals,h1,h2,h3,h4,h5⟩
 ·rw[hb] at hn;cases hn
 rw[hb] at h1;cases h1;have hk:∀v∈vals,v.cells.size=sh.size:=by
  intro v hvm;obtain⟨j,hj⟩:=Z6.1 hvm;have hjl:=(Zb.1 hj).1;rw[Yx,(h4 j es[j] v (Zf (by omega)) hj).1]
 have hov:vals[i]? =some vals[i]:=Zf (by omega);obtain⟨o1,o2⟩:=h4 i old _ hi hov;obtain⟨n,n1,n2,n4,n5⟩:∃n,PR w (Im X μ hp) new n/\vshp n=sh/\off+(shOf P t).size<=vals[i].cells.size/\n.cells.toList=vals[i].cells.toList.take off++x.cells.toList++vals[i].cells.toList.drop (off+(shOf P t).size):=by
  rcases hnew with⟨rfl,rfl,rfl⟩|hu
  ·have hvl:vals[i].cells.toList.length=(shOf P t).size:=by rw[Zk,Yx,o1]
   exact⟨x,hv,hs,by rw[Yx,o1];omega,(Kd hvl).symm⟩
  ·obtain⟨n,n1,n2,n4,n5⟩:=bx _ _ _ _ _ _ _ _ hu o2 hv hs;exact⟨n,n1,by rw[n2,o1],n4,n5⟩
 have hvs:vals[i].cells.size=sh.size:=hk _ (List.getElem_mem _);have hlen:(cellsOf vals).length=es.length*sh.size:=by
  have:∀l:List Value,(∀v∈l,v.cells.size=sh.size)->(cellsOf l).length=l.length*sh.size:=by
   intro l
   induction l with
   |nil=>intro _;simp[cellsOf]
   |cons v r ih=>intro hl;rw[Yj,Zi,Zk,hl v (by simp),ih (fun v hv=>hl v (by simp[hv])),ZF,Zq];omega
  rw[this vals hk,h3]
 have hc2:cs.toList.length=cs.size:=Zk;have hcs:es.length*sh.size<=cs.size:=by
  have:=congrArg List.length h5;rw[hlen,Zh] at this;have hc2:cs.toList.length=cs.size:=Zk;omega
 have hin:i*sh.size+sh.size<=es.length*sh.size:=by rw[<-Nat.succ_mul];exact ZY _ hil
 have hrun:=Kc (P:=P) (o:=i*sh.size+off) hok h2 hs hv.flat (by omega);have hnl:n.cells.toList.length=sh.size:=by rw[Zk,Yx,n2]

 have hseg:vals[i].cells.toList=(cs.toList.drop (i*sh.size)).take sh.size:=by
  have g:=Jn hk i _ hov;have g2:=congrArg (List.take sh.size) g;rw[Z2 (by simpa using hvs),h5,ZH,Zz,Z4 (by omega)] at g2;exact g2.symm
 have hrow:cs.toList.take (i*sh.size+off)++x.cells.toList++cs.toList.drop (i*sh.size+off+(shOf P t).size)=cs.toList.take (i*sh.size)++n.cells.toList++cs.toList.drop (i*sh.size+sh.size):=by
  rw[n5,hseg,Zz,Z4 (by omega),ZH,ZQ];rw[List.take_add];have:cs.toList.drop (i*sh.size+(off+(shOf P t).size))=(cs.toList.drop (i*sh.size+(off+(shOf P t).size))).take (sh.size - (off+(shOf P t).size))++cs.toList.drop (i*sh.size+sh.size):=by
   conv=>lhs;rw[<-zi (sh.size - (off+(shOf P t).size)) (cs.toList.drop (i*sh.size+(off+(shOf P t).size)))]
   rw[ZQ]
   congr 2
   omega
  conv=>lhs;rw[Nat.add_assoc,this]
  simp
 rw[hrow] at hrun;have hnsz:(cs.toList.take (i*sh.size)++n.cells.toList++cs.toList.drop (i*sh.size+sh.size)).length=cs.size:=by
  simp only[Zi,Zh,ZA,Zk] at hnl ⊢;omega
 have E:∀b0,Ext b0 X μ hp w (upd μ r (μ r)) (hp.set r (.arr sh (es.set i new) false)) (w.setRow b (cs.toList.take (i*sh.size)++n.cells.toList++cs.toList.drop (i*sh.size+sh.size)).toArray):=fun b0=>
  Ext.setArr hr (by simp) (fun h=>by cases h) (fun _=>rfl) (fun k hk=>.inl hk) rfl rfl rfl (by simp[World.setRow]) (fun k hk hm=>setRow_other w b k _ (fun e=>hm rfl (by rw[e];exact hb))) (fun k cs' t'' fr hk=>by
   by_cases e:k=b
   ·subst e;rw[h2] at hk;cases hk;exact⟨_,setRow_heap w k _ _ t' _ h2,by simpa using hnsz⟩
   ·exact⟨cs',by rw[setRow_other w b k _ e];exact hk,rfl⟩)
 have H:HR (w.setRow b (cs.toList.take (i*sh.size)++n.cells.toList++cs.toList.drop (i*sh.size+sh.size)).toArray) X (upd μ r (μ r)) (hp.set r (.arr sh (es.set i new) false)):=by
  refine hH.setArr hr (E 0) (fun k hk hne=>setRow_other w b k _ (fun e=>hne (by rw[e];exact hb))) (fun k hk=>⟨.inl hk,by rw[hb] at hk;cases hk;simpa[World.setRow] using YD h2⟩) (.inr ⟨b,_,t',vals.set i n,hb,setRow_heap w b _ _ t' _ h2,by simp[h3],fun k q v hq hv=> ?_,?_⟩)
  ·by_cases e:k=i
   ·subst e;rw[Zx hil] at hq;rw[Zx (by omega)] at hv;cases hq;cases hv;exact⟨n2,(E 0).pr n1⟩
   ·rw[Zo (Ne.symm e)] at hq hv;exact⟨(h4 k q v hq hv).1,(E 0).pr (h4 k q v hq hv).2⟩
  ·rw[vF hk i n (by omega) (by simpa using hnl),h5,List.length_set];simp only[Zz,ZH];rw[Z4 (by omega),zp,zp,Zz,Zh,hc2,Zi,Zh,hc2,hnl,Nat.min_eq_right (by omega),Z4 (by omega:i*sh.size<=cs.size),
    Zu (by rw[hnl];omega:n.cells.toList.length<=es.length*sh.size - i*sh.size)]
 rw[Xx] at H;have E':=E b0;rw[Xx] at E';exact⟨_,hrun,H,E'⟩
theorem xa(l:List AV)(q:Nat):q∈AV.refsIn.gol l↔∃a,a∈l/\q∈a.refsIn:=by
 induction l with
 |nil=>simp[AV.refsIn.gol]
 |cons v r ih=>simp[AV.refsIn.gol,ih]

theorem bA{b0 r i off:Nat}{t:TypeId}{sh:Sh}{es:List AV}{x:Value}{p old new:AV}{a:Addr}(hok:okS P t=true)(hH:HR w X μ hp)(hr:hp[r]? =some (.arv sh es))(hi:es[i]? =some old)
  (ha:∃b,μ r=some b/\a=⟨b,i*sh.size+off,none⟩)(hv:AR w X μ hp p x)(hs:vshp x=shOf P t)(hf:Flat x)(hnew:(off=0/\sh=shOf P t/\new=p)\/AV.upd deep old off (shOf P t) p=some new)(hq:r<b0->∀q∈new.refsIn,q∈old.refsIn):
  ∃w',(Instr.storeAt t (.pointer (some a)) x).run P w=.ok () w'/\HR w' X μ (hp.set r (.arv sh (es.set i new)))/\Ext b0 X μ hp w μ (hp.set r (.arv sh (es.set i new))) w':=by
 obtain⟨b,hb,rfl⟩:=ha;have hil:=(Zb.1 hi).1;have hrl:=(Zb.1 hr).1;obtain⟨hpos,b',cs,t',vals,h1,h2,h3,h4,h5⟩:=hH.arv r sh es hr;rw[hb] at h1;cases h1;have hk:∀v∈vals,v.cells.size=sh.size:=by
  intro v hvm;obtain⟨j,hj⟩:=Z6.1 hvm;have hjl:=(Zb.1 hj).1;rw[Yx,(h4 j es[j] v (Zf (by omega)) hj).1.1]
 have hov:vals[i]? =some vals[i]:=Zf (by omega);obtain⟨⟨o1,o3⟩,o2⟩:=h4 i old _ hi hov;obtain⟨n,n1,n2,n3,n4,n5⟩:∃n,AR w X μ hp new n/\vshp n=sh/\Flat n/\off+(shOf P t).size<=vals[i].cells.size/\n.cells.toList=vals[i].cells.toList.take off++x.cells.toList++vals[i].cells.toList.drop (off+(shOf P t).size):=by
  rcases hnew with⟨rfl,rfl,rfl⟩|hu
  ·have hvl:vals[i].cells.toList.length=(shOf P t).size:=by rw[Zk,Yx,o1]
   exact⟨x,hv,hs,hf,by rw[Yx,o1];omega,(Kd hvl).symm⟩
  ·obtain⟨n,n1,n2,n3,n4,n5⟩:=vE _ _ _ _ _ _ _ _ hu o2 hv hs hf;exact⟨n,n1,by rw[n2,o1],n3,n4,n5⟩
 have hvs:vals[i].cells.size=sh.size:=hk _ (List.getElem_mem _);have hlen:(cellsOf vals).length=es.length*sh.size:=by
  have:∀l:List Value,(∀v∈l,v.cells.size=sh.size)->(cellsOf l).length=l.length*sh.size:=by
   intro l
   induction l with
   |nil=>intro _;simp[cellsOf]
   |cons v r ih=>intro hl;rw[Yj,Zi,Zk,hl v (by simp),ih (fun v hv=>hl v (by simp[hv])),ZF,Zq];omega
  rw[this vals hk,h3]
 have hc2:cs.toList.length=cs.size:=Zk;have hcs:es.length*sh.size<=cs.size:=by
  have:=congrArg List.length h5;rw[hlen,Zh] at this;have hc2:cs.toList.length=cs.size:=Zk;omega
 have hin:i*sh.size+sh.size<=es.length*sh.size:=by rw[<-Nat.succ_mul];exact ZY _ hil
 have hrun:=Kc (P:=P) (o:=i*sh.size+off) hok h2 hs hf (by omega);have hnl:n.cells.toList.length=sh.size:=by rw[Zk,Yx,n2]

 have hseg:vals[i].cells.toList=(cs.toList.drop (i*sh.size)).take sh.size:=by
  have g:=Jn hk i _ hov;have g2:=congrArg (List.take sh.size) g;rw[Z2 (by simpa using hvs),h5,ZH,Zz,Z4 (by omega)] at g2;exact g2.symm
 have hrow:cs.toList.take (i*sh.size+off)++x.cells.toList++cs.toList.drop (i*sh.size+off+(shOf P t).size)=cs.toList.take (i*sh.size)++n.cells.toList++cs.toList.drop (i*sh.size+sh.size):=by
  rw[n5,hseg,Zz,Z4 (by omega),ZH,ZQ];rw[List.take_add];have:cs.toList.drop (i*sh.size+(off+(shOf P t).size))=(cs.toList.drop (i*sh.size+(off+(shOf P t).size))).take (sh.size - (off+(shOf P t).size))++cs.toList.drop (i*sh.size+sh.size):=by
   conv=>lhs;rw[<-zi (sh.size - (off+(shOf P t).size)) (cs.toList.drop (i*sh.size+(off+(shOf P t).size)))]
   rw[ZQ]
   congr 2
   omega
  conv=>lhs;rw[Nat.add_assoc,this]
  simp
 rw[hrow] at hrun;have hnsz:(cs.toList.take (i*sh.size)++n.cells.toList++cs.toList.drop (i*sh.size+sh.size)).length=cs.size:=by
  simp only[Zi,Zh,ZA,Zk] at hnl ⊢;omega
 have E:∀b0,(r<b0->∀q∈new.refsIn,q∈old.refsIn)->Ext b0 X μ hp w (upd μ r (μ r)) (hp.set r (.arv sh (es.set i new))) (w.setRow b (cs.toList.take (i*sh.size)++n.cells.toList++cs.toList.drop (i*sh.size+sh.size)).toArray):=fun b0 hq0=>
  Ext.setArv hr (n:=es.length) (by simp only[Y1,List.length_set]) (Zc _) (fun _=>rfl) (fun es' e hlt q hq'=>by
   cases e;obtain⟨a,ha,hqa⟩:=(xa _ _).1 hq';rcases List.mem_or_eq_of_mem_set ha with ha|rfl
   ·exact(xa _ _).2 ⟨a,ha,hqa⟩
   ·exact(xa _ _).2 ⟨old,Zj hi,hq0 hlt q hqa⟩) (fun k hk=>.inl hk) rfl rfl rfl (by simp[World.setRow]) (fun k hk hm=>setRow_other w b k _ (fun e=>hm (by rw[e];exact hb))) (fun k cs' t'' fr hk=>by
   by_cases e:k=b
   ·subst e;rw[h2] at hk;cases hk;exact⟨_,setRow_heap w k _ _ t' _ h2,by simpa using hnsz⟩
   ·exact⟨cs',by rw[setRow_other w b k _ e];exact hk,rfl⟩)
 have H:HR (w.setRow b (cs.toList.take (i*sh.size)++n.cells.toList++cs.toList.drop (i*sh.size+sh.size)).toArray) X (upd μ r (μ r)) (hp.set r (.arv sh (es.set i new))):=by
  refine hH.setArv hr (E 0 (fun h=>absurd h (Nat.not_lt_zero _))) (fun k hk hne=>setRow_other w b k _ (fun e=>hne (by rw[e];exact hb))) (fun k hk=>⟨.inl hk,by rw[hb] at hk;cases hk;simpa[World.setRow] using YD h2⟩) (.inl ⟨_,b,_,t',vals.set i n,rfl,hb,setRow_heap w b _ _ t' _ h2,by simp[h3],fun k q v hq hv=> ?_,?_⟩)
  ·by_cases e:k=i
   ·subst e;rw[Zx hil] at hq;rw[Zx (by omega)] at hv;cases hq;cases hv;exact⟨⟨n2,n3⟩,(E 0 (fun h=>absurd h (Nat.not_lt_zero _))).ar n1⟩
   ·rw[Zo (Ne.symm e)] at hq hv;exact⟨(h4 k q v hq hv).1,(E 0 (fun h=>absurd h (Nat.not_lt_zero _))).ar (h4 k q v hq hv).2⟩
  ·rw[vF hk i n (by omega) (by simpa using hnl),h5,List.length_set];simp only[Zz,ZH];rw[Z4 (by omega),zp,zp,Zz,Zh,hc2,Zi,Zh,hc2,hnl,Nat.min_eq_right (by omega),Z4 (by omega:i*sh.size<=cs.size),
    Zu (by rw[hnl];omega:n.cells.toList.length<=es.length*sh.size - i*sh.size)]
 rw[Xx] at H;have E':=E b0 hq;rw[Xx] at E';exact⟨_,hrun,H,E'⟩
end Go.Am

/- Stores by the abstract machine's own word; new arrays and maps; append. -/
namespace Go.Am
variable{P:Program} {w:World} {X:Xc P} {μ:Nat->Option Nat} {hp:Heap}

theorem xD{b:Nat}{s:Sem Unit}{hp':Heap}{w':World}{μ':Nat->Option Nat}(h:s.run P w=.ok () w')(hH:HR w' X μ' hp')(E:Ext b X μ hp w μ' hp' w'):Out P b w X μ hp (do s;pure .skip) .undef hp':=
 ⟨.skip,undef,w',μ',by simp[h],.inr ⟨rfl,rfl⟩,.undef _ (fun b h=>by cases h),hH,E⟩

theorem bB{b:Nat}{t:TypeId}{x y:Value}{vs:List AV}{v:AV}{hp':Heap}(hok:okS P t=true)(hH:HR w X μ hp)(hl:LR w X μ hp vs [x,y])(h:Yb (shOf P t) b hp vs=some (v,hp')):
  Out P b w X μ hp (do Instr.storeAt t x y;pure .skip) v hp':=by
 unfold Yb at h;split at h
 ·rename_i p a;obtain⟨x',y',e0,h1,h2⟩:=hl.two;cases e0;split at h
  ·rename_i hp1 hs;cases h;unfold astore at hs;split at hs
   ·rename_i r off;cases h1 with
    |ptr _ _ bl sh0 v0 ho hb=>
     simp only[ho] at hs;split at hs
     ·cases hs
     ·rename_i hpl;have hpl1:a.plain=true:=by cases ha:a.plain <;> simp_all
      have hpl2:a.shp=shOf P t:=by
       by_cases e:a.shp=shOf P t
       ·exact e
       ·exact absurd (.inr e) hpl
      have hsx:vshp y=shOf P t:=by rw[h2.vshp hpl1,hpl2]
      split at hs
      ·rename_i hbr;obtain⟨μ1,k1,k2,k3⟩:=Ka b hH h2;obtain⟨v1,j1,j2,_⟩:=k2.box r sh0 v0 ho;have hb1:μ1 r=some bl:=by rw[j2];exact hb
       generalize hown:a.own hp=ow at hs k1 k2 k3 j1;obtain⟨a',hpa⟩:=ow;simp only at hs k1 k2 k3 j1

       have hsame:v1=v0:=by
        have:∀(l:List (Sh × AV)) (hp:Heap) (i:Nat) (o:AObj),hp[i]? =some o->(Yf l hp).2[i]? =some o:=by
         intro l
         induction l with
         |nil=>intro hp i o h;exact h
         |cons x r ih=>
          intro hp i o h;obtain⟨s,a⟩:=x;cases a with
          |tsl sh es=>
           cases es with
           |nil=>
            by_cases hs:0<sh.size
            ·simp only[Yf,hs,if_true];exact ih _ _ _ (yB h)
            ·simp only[Yf,hs,if_false];exact ih _ _ _ h
           |cons e es=>exact ih _ _ _ h
          |_=>exact ih _ _ _ h
        have keep:(a.own hp).2[r]? =some (.box sh0 v0):=by
         cases a with
         |tsl sh es=>
          cases es with
          |nil=>
           by_cases hs:0<sh.size
           ·simp only[AV.own,hs,if_true];exact yB ho
           ·simp only[AV.own,hs,if_false];exact ho
          |cons e es=>exact ho
         |agg l=>exact this l hp r _ ho
         |_=>exact ho
        rw[hown] at keep;simp only at keep;rw[keep] at j1;cases j1;rfl
       subst hsame;split at hs
       ·rename_i hh;cases hs;obtain⟨w',m1,m2,m3⟩:=Jr (b0:=b) (new:=a') hok k1 j1 hb1 k3 hsx (h2.flat hpl1) (.inl ⟨hh.1,hh.2,rfl⟩) (fun hlt=>by omega);exact xD m1 m2 (k2.trans m3)
       ·split at hs
        ·rename_i new hn;cases hs;obtain⟨w',m1,m2,m3⟩:=Jr (b0:=b) (new:=new) hok k1 j1 hb1 k3 hsx (h2.flat hpl1) (.inr hn) (fun hlt=>by omega);exact xD m1 m2 (k2.trans m3)
        ·cases hs
      ·split at hs
       ·rename_i hrefs;have href:∀q∈a.refsIn,q∈v0.refsIn:=by
         intro q hq;have:=Zm.1 hrefs q hq;simpa using this
        split at hs
        ·rename_i hh;cases hs;obtain⟨w',m1,m2,m3⟩:=Jr (b0:=b) (new:=a) hok hH ho hb h2 hsx (h2.flat hpl1) (.inl ⟨hh.1,hh.2,rfl⟩) (fun _=>href);exact xD m1 m2 m3
        ·split at hs
         ·rename_i new hn;cases hs;obtain⟨w',m1,m2,m3⟩:=Jr (b0:=b) (new:=new) hok hH ho hb h2 hsx (h2.flat hpl1) (.inr hn) (fun _ q hq=>(bu _ _ _ _ _ _ _ hn hq).elim id (href q));exact xD m1 m2 m3
         ·cases hs
       ·cases hs
   ·rename_i s0 r ver i off;split at hs
    ·cases hs
    ·rename_i hsh;split at hs
     ·cases hs
     ·rename_i p hp1 hf;obtain⟨e1,k1,k2⟩:=X9 b w X μ _ _ _ _ _ _ hf hH h2;have h1':=e1.ar h1;have hpl:a.plain=true:=by
       cases a <;> first|rfl|(simp[AV.freeze,deep] at hf)
      have hsx:vshp y=shOf P t:=by
       rw[h2.vshp hpl];by_cases e:a.shp=shOf P t
       ·exact e
       ·exact absurd e hsh
      split at hs
      ·rename_i s es ho;split at hs
       ·rename_i hver;split at hs
        ·rename_i old hold;cases h1' with
         |eptr _ _ _ _ _ ad es' fz' ho' hv' hc'=>
          rw[ho] at ho';cases ho';obtain⟨c1,c2⟩:=hc' hver;split at hs
          ·rename_i hh;cases hs;obtain⟨w',m1,m2,m3⟩:=vG (b0:=b) (new:=p) hok k1 ho hold c2 k2 hsx (.inl ⟨hh.1,hh.2,rfl⟩);exact xD m1 m2 (e1.trans m3)
          ·split at hs
           ·rename_i new hn;cases hs;obtain⟨w',m1,m2,m3⟩:=vG (b0:=b) (new:=new) hok k1 ho hold c2 k2 hsx (.inr hn);exact xD m1 m2 (e1.trans m3)
           ·cases hs
        ·cases hs
       ·cases hs
      ·cases hs
   ·rename_i s0 r ver i off;split at hs
    ·cases hs
    ·rename_i hpl;have hpl1:a.plain=true:=by cases ha:a.plain <;> simp_all
     have hpl2:a.shp=shOf P t:=by
      by_cases e:a.shp=shOf P t
      ·exact e
      ·exact absurd (.inr e) hpl
     have hsx:vshp y=shOf P t:=by rw[h2.vshp hpl1,hpl2]
     split at hs
     ·rename_i s es ho;split at hs
      ·rename_i hver;split at hs
       ·rename_i old hold;split at hs
        ·rename_i new hnew;split at hs
         ·rename_i hrefs;cases hs;cases h1 with
          |epv _ _ _ _ _ ad n ho' hv' hc'=>
           rw[ho] at ho';simp only[Y1,Option.some.injEq,Prod.mk.injEq] at ho';obtain⟨rfl,rfl⟩:=ho';obtain⟨c1,c2⟩:=hc' hver;have hq:r<b->∀q∈new.refsIn,q∈old.refsIn:=by
            intro hlt q hq;rcases hrefs with h|h
            ·omega
            ·have:=Zm.1 h q hq;simpa using this
           have hn2:(off=0/\s=shOf P t/\new=a)\/AV.upd deep old off (shOf P t) a=some new:=by
            split at hnew
            ·rename_i hh;cases hnew;exact .inl ⟨hh.1,hh.2,rfl⟩
            ·exact .inr hnew
           obtain⟨w',m1,m2,m3⟩:=bA (b0:=b) (new:=new) hok hH ho hold c2 h2 hsx (h2.flat hpl1) hn2 hq;exact xD m1 m2 m3
         ·cases hs
        ·cases hs
       ·cases hs
      ·cases hs
     ·cases hs
   ·cases hs
  ·cases h
 ·cases h

theorem bC{b:Nat}{sh:Sh}{v:AV}{hp':Heap}(hH:HR w X μ hp)(h:YU sh hp=some (v,hp')):Out P b w X μ hp (pure (.value (.slice none 0 0))) v hp':=by
 unfold YU at h;split at h
 ·rename_i hs;cases h;obtain⟨k1,k2,k3⟩:=j9 b hH hs;exact⟨_,_,w,_,rfl,.inl rfl,k3,k1,k2⟩
 ·cases h

theorem bD{b:Nat}{t:TypeId}{sh:Sh}(hH:HR w X μ hp):Out P b w X μ hp (do pure (.value (<-Instr.makeMap t none))) (.map hp.length) (hp++[.map sh []]):=by
 have hE:∀b,Ext b X μ hp w (upd μ hp.length (some w.heap.size)) (hp++[.map sh []]) (w.alloc (.map #[] 0)):=fun b=>Ext.push _ _ (Ext.alloc b _) (fun k hk=>by cases hk;exact Zc _);refine⟨.value (.map (some w.heap.size)),_,w.alloc (.map #[] 0),upd μ hp.length (some w.heap.size),by simp[Instr.makeMap],.inl rfl,.map _ _ sh [] y8 (Yg _ _ _),?_,hE b⟩;exact hH.push _ _ (Ext.alloc 0 _) (fun i k hi hk=>Y2 w _ (hH.out i k hi hk).2) (fun k hk=>by cases hk;exact⟨Zc _,by simp⟩) (fun _ _ h=>by cases h) (fun _ _ _ h=>by cases h) (fun s es h=>by cases h;exact⟨_,#[],0,rfl,YW w _,MapR.nil⟩)
end Go.Am

/- append, run in the model. -/
namespace Go.Am
variable{P:Program} {w:World} {X:Xc P} {μ:Nat->Option Nat} {hp:Heap}

theorem qh(t ty e:TypeId)(ht:P.underlying t=some (.slice e))(hok:okT P e=true)(base a:Option Addr)(n cap c:Nat)(hn:n<=cap):
  (Builtin.append_ #[t,t] ty #[.slice base n cap,.slice a 0 c]).run P w=.ok (.slice base n cap) w:=by
 have hs:=Xa hok w;cases a <;> cases base <;> simp[Builtin.append_,run_underlying ht,hs,Builtin.lenOf,hn,Builtin.firstCells,loadCells,loadCellsFrom,storeCells]

theorem vI(t ty e t0:TypeId)(i:TypeInfo)(ht:P.underlying t=some (.slice e))(hi:P.info? e=some i)
  (g sLen sCap:Nat)(cur:Array Value)(hg:w.heap[g]? =some (.cells cur t0 (0,0)))
  (a:Addr)(m c:Nat)(news:List Value)(hl:news.length=m*i.size)(hnews:∀j u,news[j]? =some u->w.cell? (a.add j)=some u)(h1:∀u∈news,u.oneCell'=true)
  (hroom:sLen+m<=sCap)(hfit:sLen*i.size+news.length<=cur.size):
  (Builtin.append_ #[t,t] ty #[.slice (some ⟨g,0,none⟩) sLen sCap,.slice (some a) m c]).run P w=
   .ok (.slice (some ⟨g,0,none⟩) (sLen+m) sCap) (w.setRow g (cur.toList.take (sLen*i.size)++news++cur.toList.drop (sLen*i.size+news.length)).toArray):=by
 have hf:=run_firstCells_some (P:=P) w i.size m a m c news hl hnews;have hst:=run_storeCells_at P g (sLen*i.size) t0 news 0 cur w hg (by simpa using hfit) h1;simp only[Nat.add_zero] at hst;simp[Builtin.append_,run_underlying ht,sizeOf,typeInfo,hi,Builtin.lenOf,hroom,hf,Addr.add_lit,hst]

def ER(w:World)(I:Nat->Prop)(sh:Sh)(es:List PV)(vals:List Value):Prop:=
 es.length=vals.length/\∀(k:Nat) (p:PV) (v:Value),es[k]? =some p->vals[k]? =some v->vshp v=sh/\PR w I p v
theorem ER.sizes{I:Nat->Prop}{sh:Sh}{es:List PV}{vals:List Value}(h:ER w I sh es vals):∀v∈vals,v.cells.size=sh.size:=by
 intro v hv;obtain⟨j,hj⟩:=Z6.1 hv;have hjl:=(Zb.1 hj).1;have hjl':j<es.length:=by rw[h.1];exact hjl
 rw[Yx,(h.2 j es[j] v (Zf hjl') hj).1]
theorem ER.flat{I:Nat->Prop}{sh:Sh}{es:List PV}{vals:List Value}(h:ER w I sh es vals):∀c∈cellsOf vals,c.oneCell'=true:=by
 intro c hc;obtain⟨j,v,hj,hcv⟩:=QE hc;have hjl:=(Zb.1 hj).1;have hjl':j<es.length:=by rw[h.1];exact hjl
 exact(h.2 j es[j] v (Zf hjl') hj).2.flat c hcv
theorem Js{vals:List Value}{k:Nat}(hk:∀v∈vals,v.cells.size=k):(cellsOf vals).length=vals.length*k:=by
 induction vals with
 |nil=>simp[cellsOf]
 |cons v r ih=>rw[Yj,Zi,Zk,hk v (by simp),ih (fun v hv=>hk v (by simp[hv])),ZF,Zq];omega
theorem ER.length{I:Nat->Prop}{sh:Sh}{es:List PV}{vals:List Value}(h:ER w I sh es vals):(cellsOf vals).length=es.length*sh.size:=by rw[Js h.sizes,h.1]
theorem ER.append{I:Nat->Prop}{sh:Sh}{es fs:List PV}{vals us:List Value}(h:ER w I sh es vals)(k:ER w I sh fs us):ER w I sh (es++fs) (vals++us):=by
 refine⟨by simp[h.1,k.1],fun i p v hp hv=> ?_⟩;rcases Zt i es.length with hi|hi
 ·rw[ZI hi] at hp;rw[ZI (by rw[<-h.1];exact hi)] at hv;exact h.2 i p v hp hv
 ·rw[ZZ hi] at hp;rw[ZZ (by rw[<-h.1];exact hi),<-h.1] at hv;exact k.2 _ p v hp hv
theorem ER.take{I:Nat->Prop}{sh:Sh}{es:List PV}{vals:List Value}(h:ER w I sh es vals)(n:Nat):ER w I sh (es.take n) (vals.take n):=by
 refine⟨by simp[h.1],fun i p v hp hv=> ?_⟩;have hi:i<n:=by have:=(Zb.1 hp).1;simp at this;omega
 rw[zx hi] at hp hv;exact h.2 i p v hp hv
theorem ER.drop{I:Nat->Prop}{sh:Sh}{es:List PV}{vals:List Value}(h:ER w I sh es vals)(n:Nat):ER w I sh (es.drop n) (vals.drop n):=by
 refine⟨by simp[h.1],fun i p v hp hv=> ?_⟩;rw[ZR] at hp hv;exact h.2 _ p v hp hv
theorem ER.nil{I:Nat->Prop}{sh:Sh}:ER w I sh [] []:=⟨rfl,by simp⟩
theorem ER.ext{b0:Nat}{μ':Nat->Option Nat}{hp':Heap}{w':World}{sh:Sh}{es:List PV}{vals:List Value}(E:Ext b0 X μ hp w μ' hp' w')(h:ER w (Im X μ hp) sh es vals):ER w' (Im X μ' hp') sh es vals:=
 ⟨h.1,fun k p v hp hv=>⟨(h.2 k p v hp hv).1,E.pr (h.2 k p v hp hv).2⟩⟩
theorem ER.cells_take{I:Nat->Prop}{sh:Sh}{es:List PV}{vals:List Value}(h:ER w I sh es vals)(n:Nat)(hn:n<=es.length):cellsOf (vals.take n)=(cellsOf vals).take (n*sh.size):=by
 have:=Qd h.1 (fun i p v hp hv=>(h.2 i p v hp hv).1) 0 n (by omega);simpa using this
theorem ER.cells_drop{I:Nat->Prop}{sh:Sh}{es:List PV}{vals:List Value}(h:ER w I sh es vals)(n:Nat)(hn:n<=es.length):cellsOf (vals.drop n)=(cellsOf vals).drop (n*sh.size):=by
 have h1:=Js (vals:=vals.drop n) (k:=sh.size) (fun v hv=>h.sizes v (zM hv));have:=Qd h.1 (fun i p v hp hv=>(h.2 i p v hp hv).1) n (es.length - n) (by omega);rw[Zu (by simp[h.1]),Zu] at this
 ·exact this
 ·rw[ZA,h.length,<-zq];exact Zc _

theorem XQ{b o:Nat}{cs:Array Value}{t:TypeId}{fr:Nat × Nat}(hb:w.heap[b]? =some (.cells cs t fr)){vals:List Value}{n:Nat}(hc:cellsOf vals=(cs.toList.drop o).take n):∀(j:Nat) (u:Value),(cellsOf vals)[j]? =some u->w.cell? ((⟨b,o,none⟩:Addr).add j)=some u:=by
 intro j u hj;have hjn:j<n:=by have:=(Zb.1 hj).1;rw[hc,Zh] at this;omega
 rw[hc,zx hjn,ZR] at hj;rw[Addr.add_lit];simp only[World.cell?,hb];simpa using hj

theorem AR.slv_sl{sh s:Sh}{r ver off len:Nat}{v:Value}{es:List PV}(h:AR w X μ hp (.slv sh r ver off len) v)(e:hp[r]? =some (.arr s es true)):AR w X μ hp (.sl sh r ver off len) v:=by
 cases h with
 |slv _ _ _ _ _ a cap n ho hv hlc ha hc=>
  rw[e] at ho;simp only[Y1,Option.some.injEq,Prod.mk.injEq] at ho;obtain⟨rfl,rfl⟩:=ho;exact .sl _ _ _ _ _ _ _ es true e hv hlc ha fun ev=>let ⟨c1,c2⟩:=hc ev;⟨c1,.inr c2⟩
theorem Ke{x:AV}{shx:Sh}{new:List PV}{a:Option Addr}{m c:Nat}(hH:HR w X μ hp)(h:elems hp x=some (shx,new))(hx:AR w X μ hp x (.slice a m c)):
  m=new.length/\∃vals,ER w (Im X μ hp) shx new vals/\(new≠[]->∃ad,a=some ad/\∀(j:Nat) (u:Value),(cellsOf vals)[j]? =some u->w.cell? (ad.add j)=some u):=by
 have ps:∀(sh:Sh) (es:List PV),PR w (Im X μ hp) (.sl sh es) (.slice a m c)->m=es.length/\∃vals,ER w (Im X μ hp) sh es vals/\(es≠[]->∃ad,a=some ad/\∀(j:Nat) (u:Value),(cellsOf vals)[j]? =some u->w.cell? (ad.add j)=some u):=by
  intro sh es hp;cases hp with
  |nilsl=>exact⟨rfl,[],ER.nil,fun h=>absurd rfl h⟩
  |sl _ _ b o _ cs t fr vals hl hI hb h1 h2 hc hn=>
   exact⟨rfl,vals,⟨hl,fun k p v hp hv=>⟨h1 k p v hp hv,h2 k p v hp hv⟩⟩,fun _=>⟨_,rfl,XQ hb hc⟩⟩
 have slc:∀(s0:Sh) (r ver off len:Nat),(match hp[r]? with
   |some (.arr sh es _)=>if ver=es.length then
     if off=0/\len=es.length then some (sh,es)
     else if off+len<=es.length then some (sh,(es.drop off).take len) else none
    else none
   |_=>none)=some (shx,new)->AR w X μ hp (.sl s0 r ver off len) (.slice a m c)->m=new.length/\∃vals,ER w (Im X μ hp) shx new vals/\(new≠[]->∃ad,a=some ad/\∀(j:Nat) (u:Value),(cellsOf vals)[j]? =some u->w.cell? (ad.add j)=some u):=by
  intro s0 r ver off len h hx;cases hx with
  |sl _ _ _ _ _ _ _ es fz ho hv hlc ha hc=>
   simp only[ho] at h;split at h
   ·rename_i hver;obtain⟨c1,c2⟩:=hc hver;have view:off+m<=es.length->m=((es.drop off).take m).length/\∃vals,ER w (Im X μ hp) s0 ((es.drop off).take m) vals/\((es.drop off).take m≠[]->∃ad,a=some ad/\∀(j:Nat) (u:Value),(cellsOf vals)[j]? =some u->w.cell? (ad.add j)=some u):=by
     intro hle;refine⟨by simp;omega,?_⟩;rcases(hH.arr r s0 es fz ho).2 with⟨h1,rfl⟩|⟨b,cs,t,vals,h1,h2,h3,h4,h5⟩
     ·simp only[List.drop_nil,List.take_nil];exact⟨[],ER.nil,fun h=>absurd rfl h⟩
     ·have hE:ER w (Im X μ hp) s0 es vals:=⟨h3,h4⟩;refine⟨(vals.drop off).take m,(hE.drop off).take m,fun hne=> ?_⟩;have hm:m≠0:=by rintro rfl;simp at hne
      rcases c2 with⟨c2,c3⟩|⟨b',cs',t',c2,c3,c4,c5⟩
      ·omega
      ·rw[h1] at c2;cases c2;have:=c5 (by omega);subst this;refine⟨_,rfl,XQ (n:=m*s0.size) h2 ?_⟩;rw[Qd h3 (fun i p v hp hv=>(h4 i p v hp hv).1) off m hle,h5,ZH,Zz]
       congr 1
       have:off*s0.size+m*s0.size<=es.length*s0.size:=by rw[<-Zq];exact ZY _ hle
       omega
    split at h
    ·rename_i hh;cases h;obtain⟨rfl,rfl⟩:=hh;have:=view (by omega);simpa using this
    ·cases h;exact view c1
   ·cases h
 unfold elems at h;split at h
 ·cases h;cases hx with
  |pv _ _ _ _ hq=>exact ps _ _ hq
 ·cases h;cases hx with
  |tsl _ _ _ hq=>exact ps _ _ hq
 ·exact slc _ _ _ _ _ h hx
 ·rename_i s0 r ver off len;split at h
  ·rename_i sh es e;refine slc s0 r ver off len ?_ (hx.slv_sl e);rw[e];exact h
  ·cases h
 ·cases h;cases hx with
  |nilv=>exact⟨rfl,[],ER.nil,fun h=>absurd rfl h⟩
 ·cases h

theorem okE(w:World){e:TypeId}(hok:okT P e=true)(hz:YJ P e=true):∃i z,P.info? e=some i/\i.zero=some z/\i.size=(shOf P e).size/\z.cells.size=(shOf P e).size:=by
 obtain⟨i,d,hi,_,hs,_⟩:=qg hok;unfold YJ at hz;split at hz
 ·rename_i zv hzv;have hzv':=hzv;unfold YO at hzv;rw[hi] at hzv;simp only at hzv;cases h:i.zero with
  |none=>rw[h] at hzv;cases hzv
  |some z=>
   rw[h] at hzv;obtain⟨h1,h2⟩:=Jm P w ⟨fun _=>False⟩ (fun _=>none) [] 8 e z zv hzv;refine⟨i,z,hi,h,hs,?_⟩;rw[Yx,h1.vshp h2,zl hz]
 ·cases hz

theorem Kf{t ty e:TypeId}(ht:P.underlying t=some (.slice e))(hok:okT P e=true)(hz:YJ P e=true)(hby:Y7 P e=true){α:Type}{es new:List α}{vals nvals:List Value}(hE1:es.length=vals.length)(hl1:(cellsOf vals).length=es.length*(shOf P e).size)(hl2:(cellsOf nvals).length=new.length*(shOf P e).size)
  (base:Option Addr)(cap:Nat)(hbase:(base=none/\es=[]/\cap=0)\/∃bd,base=some bd/\∀(j:Nat) (u:Value),(cellsOf vals)[j]? =some u->w.cell? (bd.add j)=some u)(ad:Addr)(c:Nat)
  (hnews:∀(j:Nat) (u:Value),(cellsOf nvals)[j]? =some u->w.cell? (ad.add j)=some u)(hm:new≠[])(hcap:cap<es.length+new.length)(hlim:es.length+new.length<=lim):
  ∃(c':Nat) (cells:Array Value),(Builtin.append_ #[t,t] ty #[.slice base es.length cap,.slice (some ad) new.length c]).run P w=.ok (.slice (some ⟨w.heap.size,0,none⟩) (es.length+new.length) c') (w.drew.alloc (.cells cells e))/\
   es.length+new.length<=c'/\cells.size=c'*(shOf P e).size/\cells.toList.take ((es.length+new.length)*(shOf P e).size)=cellsOf (vals++nvals):=by
 obtain⟨i,z,hi,hiz,hsz,hzs⟩:=okE w hok hz;have hb:i.bytes<=1024:=by
  unfold Y7 at hby
  rw[hi] at hby
  simpa using hby
 have hbb:(es.length+new.length)*i.bytes<=140737488355328:=by
  have:(es.length+new.length)*i.bytes<=lim*1024:=Z9 hlim hb;unfold lim at this;omega
 have h63:es.length+new.length<=9223372036854775807:=by unfold lim at hlim;omega
 have hge:=grownCap_ge w (es.length+new.length) cap e;have main:(Builtin.append_ #[t,t] ty #[.slice base es.length cap,.slice (some ad) new.length c]).run P w=.ok (.slice (some ⟨w.heap.size,0,none⟩) (es.length+new.length) (grownCap w (es.length+new.length) cap e))
   (w.drew.alloc (.cells ((cellsOf vals).toArray++(cellsOf nvals).toArray++Builtin.zeroCells z.cells (grownCap w (es.length+new.length) cap e - (es.length+new.length))) e)):=by
  rcases hbase with⟨rfl,rfl,rfl⟩|⟨bd,rfl,hold⟩
  ·have hv:vals=[]:=zf hE1.symm;subst hv;have hpos:0<new.length:=zz.2 hm;have:=run_append_nil (P:=P) w t ty e i z ht hi hiz ad new.length c (cellsOf nvals) (by rw[hl2,hsz]) hnews hpos (by simp at h63;omega) (by simp at hbb;omega);simpa[cellsOf] using this
  ·exact run_append_grow (P:=P) w t ty e i z ht hi hiz bd es.length cap (cellsOf vals) (by rw[hl1,hsz]) hold ad new.length c (cellsOf nvals) (by rw[hl2,hsz]) hnews hcap (by omega) (growslice_fits hcap hbb)
 refine⟨_,_,main,hge,?_,?_⟩
 ·simp only[Array.size_append,List.size_toArray,size_zeroCells,hzs,hl1,hl2,<-Zq]
  congr 1
  omega
 ·rw[y7];simp only[Array.toList_append];rw[Z2 (by simp[hl1,hl2,Zq])]

theorem vJ{t ty e:TypeId}(ht:P.underlying t=some (.slice e))(hok:okT P e=true)(hz:YJ P e=true)(hby:Y7 P e=true){I:Nat->Prop}{es new:List PV}{vals nvals:List Value}(hE:ER w I (shOf P e) es vals)(hN:ER w I (shOf P e) new nvals)
  (base:Option Addr)(cap:Nat)(hbase:(base=none/\es=[]/\cap=0)\/∃bd,base=some bd/\∀(j:Nat) (u:Value),(cellsOf vals)[j]? =some u->w.cell? (bd.add j)=some u)(ad:Addr)(c:Nat)
  (hnews:∀(j:Nat) (u:Value),(cellsOf nvals)[j]? =some u->w.cell? (ad.add j)=some u)(hm:new≠[])(hcap:cap<es.length+new.length)(hlim:es.length+new.length<=lim):
  ∃(c':Nat) (cells:Array Value),(Builtin.append_ #[t,t] ty #[.slice base es.length cap,.slice (some ad) new.length c]).run P w=.ok (.slice (some ⟨w.heap.size,0,none⟩) (es.length+new.length) c') (w.drew.alloc (.cells cells e))/\
   es.length+new.length<=c'/\cells.size=c'*(shOf P e).size/\cells.toList.take ((es.length+new.length)*(shOf P e).size)=cellsOf (vals++nvals):=
 Kf ht hok hz hby hE.1 hE.length hN.length base cap hbase ad c hnews hm hcap hlim

theorem bE{b r len:Nat}{t ty e:TypeId}{es new:List PV}{nvals:List Value}{base:Option Addr}{cap c:Nat}{ax:Option Addr}(ht:P.underlying t=some (.slice e))(hok:okT P e=true)(hz:YJ P e=true)(hby:Y7 P e=true)(hH:HR w X μ hp)(ho:hp[r]? =some (.arr (shOf P e) es false))
  (hs:AR w X μ hp (.sl (shOf P e) r es.length 0 len) (.slice base len cap))(hN:ER w (Im X μ hp) (shOf P e) new nvals)(hnews:new≠[]->∃ad,ax=some ad/\∀(j:Nat) (u:Value),(cellsOf nvals)[j]? =some u->w.cell? (ad.add j)=some u)(hlim:len+new.length<=lim):
  ∃v' w' μ',(Builtin.append_ #[t,t] ty #[.slice base len cap,.slice ax new.length c]).run P w=.ok v' w'/\HR w' X μ' (hp.set r (.arr (shOf P e) (es.take len++new++es.drop (len+new.length)) false))/\
   Ext b X μ hp w μ' (hp.set r (.arr (shOf P e) (es.take len++new++es.drop (len+new.length)) false)) w'/\
   AR w' X μ' (hp.set r (.arr (shOf P e) (es.take len++new++es.drop (len+new.length)) false)) (.sl (shOf P e) r (es.take len++new++es.drop (len+new.length)).length 0 (len+new.length)) v':=by
 have hrl:=(Zb.1 ho).1;obtain⟨hpos,harr⟩:=hH.arr r _ es false ho;have hl2:=hN.length;cases hs with
 |sl _ _ _ _ _ _ _ es1 fz1 ho1 hv1 hlc ha hc=>
 rw[ho] at ho1;cases ho1;obtain⟨c1,c2⟩:=hc rfl;by_cases hne:new=[]
 ·subst hne;have e1:es.take len++[]++es.drop (len+([]:List PV).length)=es:=by simp
  rw[e1];have e2:hp.set r (.arr (shOf P e) es false)=hp:=by
   apply zA;intro k;by_cases hk:k=r
   ·subst hk;rw[Zx hrl,ho]
   ·rw[Zo (Ne.symm hk)]
  rw[e2];exact⟨_,w,μ,qh t ty e ht hok base ax len cap c hlc.1,hH,Ext.refl _ _ _ _ _,.sl _ _ _ _ _ _ _ es false ho hv1 hlc ha hc⟩
 ·obtain⟨ad,rfl,hcells⟩:=hnews hne

  have grown:∀(vals:List Value),ER w (Im X μ hp) (shOf P e) es vals->((base=none/\es.take len=[]/\cap=0)\/∃bd,base=some bd/\∀(j:Nat) (u:Value),(cellsOf (vals.take len))[j]? =some u->w.cell? (bd.add j)=some u)->
    cap<len+new.length->es.length<=len+new.length->∃v' w' μ',(Builtin.append_ #[t,t] ty #[.slice base len cap,.slice (some ad) new.length c]).run P w=.ok v' w'/\HR w' X μ' (hp.set r (.arr (shOf P e) (es.take len++new++es.drop (len+new.length)) false))/\
     Ext b X μ hp w μ' (hp.set r (.arr (shOf P e) (es.take len++new++es.drop (len+new.length)) false)) w'/\
     AR w' X μ' (hp.set r (.arr (shOf P e) (es.take len++new++es.drop (len+new.length)) false)) (.sl (shOf P e) r (es.take len++new++es.drop (len+new.length)).length 0 (len+new.length)) v':=by
   intro vals hE hbase hcap hle;have htl:(es.take len).length=len:=by simp;omega
   have hdn:es.drop (len+new.length)=[]:=Z3 hle;have hel:(es.take len++new++es.drop (len+new.length)).length=len+new.length:=by rw[hdn];simp;omega
   obtain⟨c',cells,g1,g2,g3,g4⟩:=vJ (ty:=ty) ht hok hz hby (hE.take len) hN base cap hbase ad c hcells hne (by rw[htl];exact hcap) (by rw[htl];exact hlim);rw[htl] at g1 g2 g4;have hblk:∀k,k<w.heap.size->(w.drew.alloc (.cells cells e)).heap[k]? =w.heap[k]? :=fun k hk=>Y2 w.drew _ hk;have E:∀b0,Ext b0 X μ hp w (upd μ r (some w.heap.size)) (hp.set r (.arr (shOf P e) (es.take len++new++es.drop (len+new.length)) false)) (w.drew.alloc (.cells cells e)):=fun b0=>
    Ext.setArr ho (by rw[hel];exact hle) (fun h=>by cases h) (fun h=>by
     exfalso;rw[hel] at h;have hel2:es.length=len+new.length:=h.symm;rcases c2 with⟨c0,c3⟩|⟨b',cs,t',c3,c4,c5,c6⟩
     ·have hn:0<new.length:=zz.2 hne;rcases harr with⟨_,h2⟩|⟨b',cs,t',vs,h1,_⟩
      ·rw[h2] at hel2;simp at hel2;omega
      ·rw[c0] at h1;cases h1
     ·rcases harr with⟨h1,h2⟩|⟨b2,cs2,t2,vs,h1,h2,h3,h4,h5⟩
      ·rw[c3] at h1;cases h1
      ·rw[c3] at h1;cases h1;rw[c4] at h2;cases h2;have:=congrArg List.length h5;rw[Js (k:=(shOf P e).size) (ER.sizes ⟨h3,h4⟩),<-h3,Zh] at this;have hcl:cs.toList.length=cs.size:=Zk;have h6:es.length*(shOf P e).size<=cap*(shOf P e).size:=by rw[Zv] at c5;rw[c5];omega
       have h7:=Nat.le_of_mul_le_mul_right h6 hpos;omega) (fun k hk=>by cases hk;exact .inr (Zc _)) rfl rfl rfl (by simp) (fun k hk _=>hblk k hk) (fun k cs t' fr hk=>⟨cs,by rw[hblk k (YD hk)];exact hk,rfl⟩)
   have H:=hH.setArr ho (E 0) (fun k hk _=>hblk k hk) (fun k hk=>by cases hk;exact⟨.inr (Zc _),by simp⟩) (.inr ⟨w.heap.size,cells,e,vals.take len++nvals++vals.drop (len+new.length),rfl,YW w.drew _,?_,?_,?_⟩)
   ·refine⟨_,_,_,g1,H,E b,?_⟩;refine .sl _ _ _ _ _ _ _ _ false (Zx hrl) (Zc _) ⟨g2,by rw[hel];omega⟩ (fun _=>rfl) fun _=>⟨by rw[hel];omega,.inr ⟨w.heap.size,cells,e,Yg _ _ _,YW w.drew _,by rw[Zv];exact g3.symm,fun _=>by simp⟩⟩
   ·have:=((hE.take len).append hN).append (hE.drop (len+new.length));exact this.1
   ·have:=ER.ext (E 0) (((hE.take len).append hN).append (hE.drop (len+new.length)));exact this.2
   ·rw[hel,g4];have:vals.drop (len+new.length)=[]:=Z3 (by rw[<-hE.1];exact hle);rw[this,ZB]
  rcases harr with⟨h1,h2⟩|⟨bk,cs,t',vals,h1,h2,h3,h4,h5⟩
  ·subst h2;have hl0:len=0:=by simp at c1;omega
   subst hl0;rcases c2 with⟨_,c3⟩|⟨b',_,_,c3,_⟩
   ·subst c3;refine grown [] ER.nil ?_ (by have:=zz.2 hne;omega) (by simp);cases base with
    |none=>exact .inl ⟨rfl,rfl,rfl⟩
    |some bd=>exact .inr ⟨bd,rfl,by simp[cellsOf]⟩
   ·rw[h1] at c3;cases c3
  ·have hE:ER w (Im X μ hp) (shOf P e) es vals:=⟨h3,h4⟩;rcases c2 with⟨c3,_⟩|⟨b',cs',t'',c3,c4,c5,c6⟩
   ·rw[h1] at c3;cases c3
   rw[h1] at c3;cases c3;rw[h2] at c4;cases c4;rw[Zv] at c5;have hcl:cs.toList.length=cs.size:=Zk;have hEl:es.length*(shOf P e).size<=cs.size:=by
    have:=congrArg List.length h5;rw[hE.length,Zh] at this;omega
   by_cases hroom:len+new.length<=cap
   ·have hcap:cap≠0:=by have:=zz.2 hne;omega
    have hb0:=c6 hcap;simp only[Nat.zero_mul] at hb0;subst hb0;obtain⟨i,z,hi,hiz,hsz,hzs⟩:=okE w hok hz;have hfit:len*(shOf P e).size+new.length*(shOf P e).size<=cs.size:=by rw[<-c5,<-Zq];exact ZY _ hroom
    have hrun:=vI (P:=P) t ty e t' i ht hi bk len cap cs h2 ad new.length c (cellsOf nvals) (by rw[hl2,hsz]) hcells hN.flat hroom (by rw[hl2,hsz];exact hfit);rw[hsz,hl2] at hrun;generalize hrow:(cs.toList.take (len*(shOf P e).size)++cellsOf nvals++cs.toList.drop (len*(shOf P e).size+new.length*(shOf P e).size))=row at hrun;have hrowl:row.length=cs.size:=by
     rw[<-hrow];simp only[Zi,Zh,ZA,hl2,hcl];omega
    have hel:es.length<=(es.take len++new++es.drop (len+new.length)).length:=by
     simp only[Zi,Zh,ZA];omega
    have E:∀b0,Ext b0 X μ hp w (upd μ r (μ r)) (hp.set r (.arr (shOf P e) (es.take len++new++es.drop (len+new.length)) false)) (w.setRow bk row.toArray):=fun b0=>
     Ext.setArr ho hel (fun h=>by cases h) (fun _=>rfl) (fun k hk=>.inl hk) rfl rfl rfl (by simp[World.setRow]) (fun k hk hm=>setRow_other w bk k _ (fun e=>hm rfl (by rw[e];exact h1))) (fun k cs' t'' fr hk=>by
      by_cases ek:k=bk
      ·subst ek;rw[h2] at hk;cases hk;exact⟨_,setRow_heap w k _ _ t' _ h2,by simpa using hrowl⟩
      ·exact⟨cs',by rw[setRow_other w bk k _ ek];exact hk,rfl⟩)
    have hER:=((hE.take len).append hN).append (hE.drop (len+new.length));have hcd:cellsOf (vals.drop (len+new.length))=(cs.toList.drop (len*(shOf P e).size+new.length*(shOf P e).size)).take (cellsOf (vals.drop (len+new.length))).length:=by
     rcases Zt es.length (len+new.length) with hlt|hge
     ·have:vals.drop (len+new.length)=[]:=Z3 (by rw[<-hE.1];omega);rw[this];simp[cellsOf]
     ·have h6:=hE.cells_drop (len+new.length) hge;rw[(hE.drop (len+new.length)).length,h6,h5,ZH,Zq]
      congr 1
      rw[ZA,zq,Zq]
    have hct:cellsOf (vals.take len)=cs.toList.take (len*(shOf P e).size):=by
     rw[hE.cells_take len (by omega),h5,Zz,Z4];exact ZY _ (by omega)
    have hcc:cellsOf (vals.take len++nvals++vals.drop (len+new.length))=row.take ((es.take len++new++es.drop (len+new.length)).length*(shOf P e).size):=by
     rw[<-hER.length,y7,y7,hct]
     conv=>lhs;rw[hcd]
     rw[<-hrow];have hlt:(cs.toList.take (len*(shOf P e).size)).length=len*(shOf P e).size:=by rw[Zh];omega
     have e1:(cs.toList.take (len*(shOf P e).size)++cellsOf nvals++cellsOf (vals.drop (len+new.length))).length=(cs.toList.take (len*(shOf P e).size)++cellsOf nvals).length+(cellsOf (vals.drop (len+new.length))).length:=by rw[Zi]
     rw[e1,List.take_length_add_append]
    have H:=hH.setArr ho (E 0) (fun k hk hne'=>setRow_other w bk k _ (fun e=>hne' (by rw[e];exact h1))) (fun k hk=>⟨.inl hk,by rw[h1] at hk;cases hk;simpa[World.setRow] using YD h2⟩)
     (.inr ⟨bk,row.toArray,t',vals.take len++nvals++vals.drop (len+new.length),h1,setRow_heap w bk _ _ t' _ h2,hER.1,(ER.ext (E 0) hER).2,by simpa using hcc⟩)
    rw[Xx] at H;have E':=E b;rw[Xx] at E';refine⟨_,_,μ,hrun,H,E',?_⟩;refine .sl _ _ _ _ _ _ _ _ false (Zx hrl) (Zc _) ⟨hroom,by simp only[Zi,Zh,ZA];omega⟩ (fun _=>rfl) fun _=>⟨?_,.inr ⟨bk,row.toArray,t',h1,setRow_heap w bk _ _ t' _ h2,by rw[Zv,c5];simpa using hrowl.symm,fun _=>by simp⟩⟩;simp only[Zi,Zh,ZA];omega
   ·have hcE:es.length<=cap:=Nat.le_of_mul_le_mul_right (by rw[c5];exact hEl) hpos;refine grown vals hE ?_ (by omega) (by omega);cases base with
    |none=>
     have hcap0:cap=0:=by
      by_cases h0:cap=0
      ·exact h0
      ·have:=ha h0;simp at this
     refine .inl ⟨rfl,?_,hcap0⟩;have:len=0:=by omega
     rw[this];rfl
    |some bd=>
     refine .inr ⟨bd,rfl,?_⟩;by_cases hl0:len=0
     ·subst hl0;simp[cellsOf]
     ·have:=c6 (by omega);simp only[Nat.zero_mul,Option.some.injEq] at this;subst this;refine XQ (n:=len*(shOf P e).size) h2 ?_;rw[hE.cells_take len (by omega),h5,Zz,Z4 (ZY _ (by omega))];simp
end Go.Am

/- append and make by the abstract machine's own word; slices written out. -/
namespace Go.Am
variable{P:Program} {w:World} {X:Xc P} {μ:Nat->Option Nat} {hp:Heap}

theorem Xy{b:Nat}{ts:Array TypeId}{ty:TypeId}{x y:Value}{v:AV}{hp':Heap}(h:∃v' w' μ',(Builtin.append_ ts ty #[x,y]).run P w=.ok v' w'/\HR w' X μ' hp'/\Ext b X μ hp w μ' hp' w'/\AR w' X μ' hp' v v'):
  Out P b w X μ hp (do pure (.value (<-Builtin.append_ ts ty #[x,y]))) v hp':=by
 obtain⟨v',w',μ',h1,h2,h3,h4⟩:=h;exact⟨.value v',v',w',μ',by simp[h1],.inl rfl,h4,h2,h3⟩

theorem Kg{x:AV}{shx:Sh}{new:List PV}{vx:Value}(h:elems hp x=some (shx,new))(hx:AR w X μ hp x vx):∃a m c,vx=.slice a m c:=by
 unfold elems at h;split at h
 ·cases hx with|pv _ _ _ _ hq=>cases hq <;> exact⟨_,_,_,rfl⟩
 ·cases hx;exact⟨_,_,_,rfl⟩
 ·cases hx;exact⟨_,_,_,rfl⟩
 ·cases hx;exact⟨_,_,_,rfl⟩
 ·cases hx;exact⟨_,_,_,rfl⟩
 ·cases h

theorem vK{b:Nat}{t ty e:TypeId}{x y:Value}{vs:List AV}{v:AV}{hp':Heap}(ht:P.underlying t=some (.slice e))(hok:okT P e=true)(hz:YJ P e=true)(hby:Y7 P e=true)(hH:HR w X μ hp)
  (hl:LR w X μ hp vs [x,y])(h:YK (shOf P e) hp vs=some (v,hp')):Out P b w X μ hp (do pure (.value (<-Builtin.append_ #[t,t] ty #[x,y]))) v hp':=by
 have hy:∃a m c,y=.slice a m c:=by
  obtain⟨s,q,rfl,h1,h2⟩:∃s q,vs=[s,q]/\AR w X μ hp s x/\AR w X μ hp q y:=by
   cases hl with|cons h1 r=>cases r with|cons h2 r=>cases r;exact⟨_,_,rfl,h1,h2⟩
  simp only[YK,aappend] at h;cases he:elems hp q with
  |none=>rw[he] at h;cases h
  |some p=>exact Kg (shx:=p.1) (new:=p.2) he h2
 obtain⟨ay,m,cy,rfl⟩:=hy;unfold YK at h;split at h
 ·rename_i s src;obtain⟨_,_,e0,h1,h2⟩:=hl.two;cases e0;unfold aappend at h;split at h
  ·cases h
  ·rename_i shx new hel;obtain⟨rfl,nvals,hN,hcells⟩:=Ke hH hel h2;split at h
   ·rename_i hsh;have hN':ER w (Im X μ hp) (shOf P e) new nvals:=by
     rcases hsh with rfl|rfl
     ·exact hN
     ·have:nvals=[]:=zf hN.1.symm;subst this;exact ER.nil
    split at h
    ·rename_i s0 es;cases h1 with
     |tsl _ _ a hq=>
      split at h
      ·rename_i hse;split at h
       ·rename_i hn;cases h;subst hn;exact Xy ⟨_,w,μ,qh t ty e ht hok a ay es.length es.length cy (Zc _),hH,Ext.refl _ _ _ _ _,.tsl _ _ _ hq⟩
       ·rename_i hn;split at h
        ·rename_i hlim;cases h;obtain⟨ad,rfl,hc⟩:=hcells hn;obtain⟨vals,hE,hb⟩:∃vals,ER w (Im X μ hp) (shOf P e) es vals/\((a=none/\es=[]/\es.length=0)\/∃bd,a=some bd/\∀(j:Nat) (u:Value),(cellsOf vals)[j]? =some u->w.cell? (bd.add j)=some u):=by
          cases hq with
          |nilsl=>
           refine⟨[],ER.nil,?_⟩;cases a with
           |none=>exact .inl ⟨rfl,rfl,rfl⟩
           |some bd=>exact .inr ⟨bd,rfl,by simp[cellsOf]⟩
          |sl _ _ b o _ cs t' fr vals hvl hI hb h1 h2 hc hn=>
           rcases hse with rfl|rfl
           ·exact⟨vals,⟨hvl,fun k p v hp hv=>⟨h1 k p v hp hv,h2 k p v hp hv⟩⟩,.inr ⟨_,rfl,XQ hb hc⟩⟩
           ·have:vals=[]:=zf hvl.symm;subst this;exact⟨[],ER.nil,.inr ⟨_,rfl,by simp[cellsOf]⟩⟩
         have hpn:0<new.length:=zz.2 hn;obtain⟨c',cells,g1,g2,g3,g4⟩:=vJ (ty:=ty) ht hok hz hby hE hN' a es.length hb ad cy hc hn (by omega) hlim;have hEx:∀b,Ext b X μ hp w μ hp (w.drew.alloc (.cells cells e)):=fun b=>(Ext.drew b).trans (Ext.alloc b _);have hEp:∀b,Ext b X μ hp w (upd μ hp.length (some w.heap.size)) (hp++[.arr (shOf P e) (es++new) false]) (w.drew.alloc (.cells cells e)):=fun b=>Ext.push _ _ (hEx b) (fun k hk=>by cases hk;exact Zc _);have hER:=hE.append hN';refine Xy ⟨_,_,upd μ hp.length (some w.heap.size),g1,?_,hEp b,?_⟩
         ·refine hH.push _ _ (hEx 0) (fun i k hi hk=>Y2 w.drew _ (hH.out i k hi hk).2) (fun k hk=>by cases hk;exact⟨Zc _,by simp⟩) (fun _ _ h=>by cases h) (fun s1 es1 fz h=> ?_) (fun _ _ h=>by cases h);cases h;exact⟨vm hok,.inr ⟨_,cells,e,vals++nvals,rfl,YW w.drew _,hER.1,(ER.ext (hEp 0) hER).2,by rw[Zi];exact g4.symm⟩⟩
         ·exact .sl _ _ _ _ _ _ _ (es++new) false y8 (by simp) ⟨g2,by omega⟩ (fun _=>rfl) fun _=>⟨by simp,.inr ⟨_,cells,e,Yg _ _ _,YW w.drew _,by rw[Zv];exact g3.symm,fun _=>by simp⟩⟩
        ·cases h
      ·cases h
    ·rename_i s1 r ver off len;split at h
     ·rename_i s0 es ho;split at h
      ·rename_i hh;obtain⟨rfl,rfl,rfl⟩:=hh;split at h
       ·rename_i hlim;have hs1:s1=shOf P e:=by
         cases h1 with
         |sl _ _ _ _ _ _ _ es' fz' ho'=>rw[ho] at ho';cases ho';rfl
        subst hs1;obtain⟨base,cap,rfl⟩:∃base cap,x=.slice base len cap:=by cases h1;exact⟨_,_,rfl⟩
        have hclen:len<=es.length:=by
         cases h1 with
         |sl _ _ _ _ _ _ _ es' fz' ho' hv' hlc' ha' hc'=>rw[ho] at ho';cases ho';have:=(hc' rfl).1;omega
        have key:=bE (b:=b) (ty:=ty) (c:=cy) ht hok hz hby hH ho h1 hN' hcells hlim;split at h
        ·rename_i hle;cases h;subst hle;have e1:es.take es.length++new++es.drop (es.length+new.length)=es++new:=by rw[ZS,Z3 (by omega),ZB]
         rw[e1,Zi] at key;exact Xy key
        ·split at h
         ·rename_i hle;cases h;have e1:(es.take len++new++es.drop (len+new.length)).length=es.length:=by simp only[Zi,Zh,ZA];omega
          rw[e1] at key;exact Xy key
         ·split at h
          ·cases h;have e1:es.take len++new++es.drop (len+new.length)=es.take len++new:=by rw[Z3 (by omega),ZB]
           have e2:(es.take len++new).length=len+new.length:=by simp only[Zi,Zh];omega
           rw[e1,e2] at key;exact Xy key
          ·cases h
       ·cases h
      ·cases h
     ·cases h
    ·cases h
   ·cases h
 ·cases h


theorem bF{b:Nat}{t ty e:TypeId}{x y:Value}{vs:List AV}{v:AV}(ht:P.underlying t=some (.slice e))(hok:okT P e=true)(hz:YJ P e=true)(hby:Y7 P e=true)(hH:HR w X μ hp)
  (hl:LR w X μ hp vs [x,y])(h:VU (shOf P e) vs=some v):Out P b w X μ hp (do pure (.value (<-Builtin.append_ #[t,t] ty #[x,y]))) v hp:=by
 exact absurd (show(none:Option AV)=some _ from h) (by simp)
theorem Kh(w:World)(X:Xc P)(μ:Nat->Option Nat)(hp:Heap):∀(d:Nat) (a:AV) (p:PV) (v:Value),AV.weaken d a=some p->AR w X μ hp a v->PR w (Im X μ hp) p v:=by
 intro d
 induction d with
 |zero=>intro a p v h;simp[AV.weaken] at h
 |succ d ih=>
  have go:∀(l:List (Sh × AV)) (ps:List (Sh × PV)) (vs:List Value),AV.weaken.go d l=some ps->CR w X μ hp l vs->CP w (Im X μ hp) ps vs:=by
   intro l
   induction l with
   |nil=>
    intro ps vs h hc;simp only[AV.weaken.go,Option.some.injEq] at h;subst h;rw[hc.nil_inv];exact CP.nil
   |cons x r ihl=>
    intro ps vs h hc;obtain⟨s,a⟩:=x;obtain⟨v,us,rfl,h1,_,h2,h3⟩:=hc.inv;simp only[AV.weaken.go] at h;split at h
    ·cases h
    ·rename_i p hp1;split at h
     ·rename_i ps' hg;cases h;exact CP.cons h1 (ih _ _ _ hp1 h2) (ihl _ _ hg h3)
     ·cases h
  intro a p v h ha;cases ha with
  |pv sh q v hs hq=>
   simp only[AV.weaken,Option.some.injEq] at h;subst h;exact hq
  |tsl sh es a hq=>
   simp only[AV.weaken,Option.some.injEq] at h;subst h;exact hq
  |agg l vs hl hs hs'=>
   simp only[AV.weaken] at h;split at h
   ·rename_i ps hg;cases h;exact(go _ _ vs hg ⟨hl,hs,hs'⟩).agg
   ·cases h
  |nilv sh=>
   simp only[AV.weaken,Option.some.injEq] at h;subst h;exact .nilsl _ _ _
  |_=>simp[AV.weaken] at h

theorem bG{d:Nat}{a:AV}{p:PV}(h:AV.weaken d a=some p):a.plain=true:=by
 cases d with
 |zero=>simp[AV.weaken] at h
 |succ d=>cases a <;> first|rfl|(simp[AV.weaken] at h)
theorem Jt{d:Nat}{a:AV}{hp hp':Heap}{p:PV}(h:AV.freeze d a hp=some (p,hp')):a.plain=true:=by
 cases d with
 |zero=>simp[AV.freeze] at h
 |succ d=>cases a <;> first|rfl|(simp[AV.freeze] at h)

theorem Ju:∀(l:List AV) (ps:List (Sh × PV)) (vs:List Value),Y5 l=some ps->LR w X μ hp l vs->CP w (Im X μ hp) ps vs
 |[],ps,vs,h,hl=>by
  simp only[Y5,Option.some.injEq] at h;subst h;cases hl;exact CP.nil
 |a::r,ps,vs,h,hl=>by
  cases hl with
  |cons ha hr=>
   simp only[Y5] at h;split at h
   ·cases h
   ·rename_i p hp1;split at h
    ·rename_i ps' hg;cases h;exact CP.cons (ha.vshp (bG hp1)) (Kh w X μ hp _ _ _ _ hp1 ha) (Ju r ps' _ hg hr)
    ·cases h

theorem qi(b0:Nat):∀(l:List AV) (hp:Heap) (ps:List (Sh × PV)) (hp':Heap) (vs:List Value),Yp l hp=some (ps,hp')->HR w X μ hp->LR w X μ hp l vs->Ext b0 X μ hp w μ hp' w/\HR w X μ hp'/\CP w (Im X μ hp') ps vs
 |[],hp,ps,hp',vs,h,hH,hl=>by
  simp only[Yp,Option.some.injEq,Prod.mk.injEq] at h;obtain⟨rfl,rfl⟩:=h;cases hl;exact⟨Ext.refl _ _ _ _ _,hH,CP.nil⟩
 |a::r,hp,ps,hp',vs,h,hH,hl=>by
  cases hl with
  |cons ha hr=>
   simp only[Yp] at h;split at h
   ·cases h
   ·rename_i p hp1 hf;split at h
    ·rename_i ps' hp2 hg;cases h;obtain⟨e1,k1,k2⟩:=X9 b0 w X μ _ _ _ _ _ _ hf hH ha;have hr':=LR.of hr.length fun i a v h1 h2=>e1.ar (hr.get i a v h1 h2);obtain⟨e2,k3,k4⟩:=qi b0 r hp1 ps' hp' _ hg k1 hr';exact⟨e1.trans e2,k3,CP.cons (ha.vshp (Jt hf)) (e2.pr k2) k4⟩
    ·cases h

theorem Jv{I:Nat->Prop}{sh:Sh}:∀{ps:List (Sh × PV)} {es:List PV} {vs:List Value},ye sh ps=some es->CP w I ps vs->ER w I sh es vs
 |[],es,vs,h,hc=>by
  simp only[ye,Option.some.injEq] at h;subst h;rw[hc.nil_inv];exact ER.nil
 |(s,p)::r,es,vs,h,hc=>by
  obtain⟨v,us,rfl,h1,h2,h3⟩:=hc.inv;simp only[ye] at h;split at h
  ·rename_i hs;subst hs;split at h
   ·rename_i l hl;cases h;obtain⟨k1,k2⟩:=Jv hl h3;refine⟨by simp[k1],fun i q u hq hu=> ?_⟩;cases i with
    |zero=>simp at hq hu;subst hq;subst hu;exact⟨h1,h2⟩
    |succ i=>exact k2 i q u (by simpa using hq) (by simpa using hu)
   ·cases h
  ·cases h
end Go.Am

/- Structs, arrays and slices written out; make. -/
namespace Go.Am
variable{P:Program} {w:World} {X:Xc P} {μ:Nat->Option Nat} {hp:Heap}

theorem vL(off:Nat):∀(l:List Value) (k:Nat) (cells:Array Value),off+k+l.length<=cells.size->
  (l.zipIdx k).foldl (fun cs (x:Value × Nat)=>cs.setIfInBounds (off+x.2) x.1) cells=(cells.toList.take (off+k)++l++cells.toList.drop (off+k+l.length)).toArray
 |[],k,cells,h=>by simp
 |c::r,k,cells,h=>by
  have hl:off+k<cells.size:=by simp at h;omega
  rw[List.zipIdx_cons,List.foldl_cons,vL off r (k+1) _ (by simp at h ⊢;omega)];have e:=list_seg_step cells.toList (off+k) c r (by simp at h ⊢;omega);simp only[Array.toList_setIfInBounds,ZF]
  congr 1

theorem vN(place:Nat->Option (Nat × Nat))(cells:Array Value)(i:Nat)(v:Value)(rest:List (Nat × Value))(off:Nat)(hp:place i=some (off,v.cells.size))(hle:off+v.cells.size<=cells.size):
  Instr.fill place cells ((i,v)::rest)=Instr.fill place (cells.toList.take off++v.cells.toList++cells.toList.drop (off+v.cells.size)).toArray rest:=by
 have h1:¬((decide (v.cells.size≠v.cells.size) || decide (off+v.cells.size > cells.size))=true):=by simp;omega
 have h2:=vL off v.cells.toList 0 cells (by simpa using hle);simp only[Nat.add_zero,Zk] at h2;have h3:v.cells.zipIdx.foldl (fun cs (x:Value × Nat)=>cs.setIfInBounds (off+x.2) x.1) cells=(v.cells.toList.zipIdx 0).foldl (fun cs (x:Value × Nat)=>cs.setIfInBounds (off+x.2) x.1) cells:=by
  rw[<-Array.foldl_toList,Array.toList_zipIdx]
 simp only[Instr.fill,hp];rw[Za h1];have h4:v.cells.zipIdx.foldl (fun cs x=>match x with|(c,j)=>cs.setIfInBounds (off+j) c) cells=v.cells.zipIdx.foldl (fun cs (x:Value × Nat)=>cs.setIfInBounds (off+x.2) x.1) cells:=rfl;rw[h4,h3,h2]

theorem vO{sz:Nat}:∀(us done:List Value) (cells:Array Value),(∀v∈us,v.cells.size=sz)->(∀v∈done,v.cells.size=sz)->cells.size=(done.length+us.length)*sz->cells.toList.take (done.length*sz)=cellsOf done->
  Instr.fill (fun i=>some (i*sz,sz)) cells ((List.range' done.length us.length).zip us)=some (cellsOf (done++us)).toArray
 |[],done,cells,_,_,hs,ht=>by
  simp only[List.zip_nil_right,Instr.fill,ZB]
  congr 1
  apply Array.ext';rw[<-ht,Zu (by simp at hs;simp[hs])]
 |v::r,done,cells,hu,hd,hs,ht=>by
  have hv:=hu v (by simp);have hle:done.length*sz+v.cells.size<=cells.size:=by rw[hs,hv];simp only[ZF,Zq];omega
  rw[ZF,List.range'_succ,List.zip_cons_cons,vN _ _ _ _ _ (done.length*sz) (by rw[hv]) hle];have hcl:cells.toList.length=cells.size:=Zk;have hl:(cells.toList.take (done.length*sz)).length=done.length*sz:=by rw[Zh];omega
  have ih:=vO r (done++[v]) ((cells.toList.take (done.length*sz)++v.cells.toList++cells.toList.drop (done.length*sz+v.cells.size)).toArray) (fun x hx=>hu x (by simp[hx]))
   (fun x hx=>by rcases ZE.1 hx with h|h;exact hd x h;simp at h;rw[h];exact hv) (by
    simp only[List.size_toArray,Zi,ZA,Zk,hl,ZF,List.length_nil];rw[hs,hv];simp only[ZF,Zq];omega) (by
    have e:(done++[v]).length*sz=(cells.toList.take (done.length*sz)++v.cells.toList).length:=by simp only[Zi,hl,Zk,hv,ZF,List.length_nil,Zq];omega
    rw[e];show List.take _ (cells.toList.take (done.length*sz)++v.cells.toList++_)=_;rw[Z2 rfl,ht,y7];simp[cellsOf])
  have e2:(done++[v]).length=done.length+1:=by simp
  rw[e2] at ih;rw[ih];simp

theorem Ki{parts:Array (Nat × Operand)}{ρ:Operand->Value}:(parts.map fun(x:Nat × Operand)=>(x.1,ρ x.2)).toList=(parts.toList.map (·.1)).zip ((parts.toList.map (·.2)).map ρ):=by
 rw[Array.toList_map]
 induction parts.toList with
 |nil=>rfl
 |cons x r ih=>simp[ih]

theorem vP{t e:TypeId}{n:Nat}{parts:Array (Nat × Operand)}{ρ:Operand->Value}(ht:P.underlying t=some (.slice e))(hok:okT P e=true)(hz:YJ P e=true)(hr:parts.toList.map (·.1)=List.range n)(hn:n*P.cellsOf e<=65536)
  (hsizes:∀v∈(parts.toList.map (·.2)).map ρ,v.cells.size=(shOf P e).size):
  (Instr.buildSlice t n (parts.map fun(x:Nat × Operand)=>(x.1,ρ x.2))).run P w=.ok (.slice (some ⟨w.heap.size,0,none⟩) n n) (w.alloc (.cells (cellsOf ((parts.toList.map (·.2)).map ρ)).toArray e))/\((parts.toList.map (·.2)).map ρ).length=n:=by
 obtain⟨i,z,hi,hiz,hsz,hzs⟩:=okE w hok hz;have hce:P.cellsOf e=(shOf P e).size:=by simp[Program.cellsOf,hi,hsz]
 rw[hce] at hn;have hlen:((parts.toList.map (·.2)).map ρ).length=n:=by
  rw[Z8,Z8];have:=congrArg List.length hr;simpa using this
 refine⟨?_,hlen⟩;have hbig:¬n*(shOf P e).size > 2 ^ 24:=by omega
 have hzero:(zeroValue e).run P w=.ok z w:=by simp[zeroValue,typeInfo,hi,hiz]
 have fillEq:∀cells:Array Value,cells.size=n*(shOf P e).size->Instr.fill (fun i=>some (i*(shOf P e).size,(shOf P e).size)) cells (parts.map fun(x:Nat × Operand)=>(x.1,ρ x.2)).toList=some (cellsOf ((parts.toList.map (·.2)).map ρ)).toArray:=by
  intro cells hc;rw[Ki,hr,List.range_eq_range'];have:=vO (sz:=(shOf P e).size) ((parts.toList.map (·.2)).map ρ) [] cells hsizes (by simp) (by rw[hlen];simpa using hc) (by simp[cellsOf]);rw[hlen] at this;simpa using this
 by_cases h0:n*(shOf P e).size=0
 ·have hf:=fillEq (Array.map (fun x=>(#[]:Array Value)[x % (#[]:Array Value).size]!) (Array.range (n*(shOf P e).size))) (by simp);simp[Instr.buildSlice,run_underlying ht,Xa hok,h0,newRow] at hf ⊢;simp[hf]
 ·have hf:=fillEq (Array.map (fun x=>z.cells[x % z.cells.size]!) (Array.range (n*(shOf P e).size))) (by simp);simp[Instr.buildSlice,run_underlying ht,Xa hok,hbig,h0,newRow,hzero] at hf ⊢;simp[hf]

theorem Kj{t e:TypeId}{n:Nat}{parts:Array (Nat × Operand)}{ρ:Operand->Value}{I:Nat->Prop}{es:List PV}(ht:P.underlying t=some (.slice e))(hok:okT P e=true)(hz:YJ P e=true)(hr:parts.toList.map (·.1)=List.range n)(hn:n*P.cellsOf e<=65536)
  (hE:ER w I (shOf P e) es ((parts.toList.map (·.2)).map ρ)):
  (Instr.buildSlice t n (parts.map fun(x:Nat × Operand)=>(x.1,ρ x.2))).run P w=.ok (.slice (some ⟨w.heap.size,0,none⟩) n n) (w.alloc (.cells (cellsOf ((parts.toList.map (·.2)).map ρ)).toArray e))/\es.length=n:=by
 obtain⟨h1,h2⟩:=vP (w:=w) ht hok hz hr hn hE.sizes;exact⟨h1,hE.1.trans h2⟩

theorem vQ{b n:Nat}{sh:Sh}{es:List PV}{vals:List Value}{t:TypeId}(hH:HR w X μ hp)(hE:ER w (Im X μ hp) sh es vals)(hn:es.length=n):
  AR (w.alloc (.cells (cellsOf vals).toArray t)) X μ hp (.tsl sh es) (.slice (some ⟨w.heap.size,0,none⟩) n n)/\HR (w.alloc (.cells (cellsOf vals).toArray t)) X μ hp/\Ext b X μ hp w μ hp (w.alloc (.cells (cellsOf vals).toArray t)):=by
 subst hn;refine⟨.tsl _ _ _ ?_,hH.alloc _,Ext.alloc b _⟩;have hE':=ER.ext (Ext.alloc (X:=X) (μ:=μ) (hp:=hp) (w:=w) 0 (.cells (cellsOf vals).toArray t)) hE;refine .sl sh es w.heap.size 0 es.length _ t (0,0) vals hE.1 ⟨fun hx=>by have:=hH.xlt _ hx;omega,fun i hl e=>by have:=(hH.out i _ (yX hl) e).2;omega⟩ (YW w _) (fun i p v hp hv=>(hE'.2 i p v hp hv).1) (fun i p v hp hv=>(hE'.2 i p v hp hv).2) ?_ (Zc _);simp only[Z5];rw[Zu (by rw[hE.length];exact Zc _)]
end Go.Am

/- Structs and arrays written out; strings cut; type assertions; make. -/
namespace Go.Am
variable{P:Program} {w:World} {X:Xc P} {μ:Nat->Option Nat} {hp:Heap}

theorem bH{l:List (Sh × AV)}{vals:List Value}{i:Nat}{sh:Sh}{a0 a:AV}{v:Value}(hc:CR w X μ hp l vals)(hi:l[i]? =some (sh,a0))(ha:AR w X μ hp a v)(hs:vshp v=sh)(hf:Flat v):
  CR w X μ hp (l.set i (sh,a)) (vals.set i v)/\total (l.take i)+v.cells.size<=(cellsOf vals).length/\cellsOf (vals.set i v)=(cellsOf vals).take (total (l.take i))++v.cells.toList++(cellsOf vals).drop (total (l.take i)+v.cells.size):=by
 induction l generalizing vals i with
 |nil=>simp at hi
 |cons x r ih=>
  obtain⟨s,a1⟩:=x;obtain⟨u,us,rfl,h1,h2,h3,h4⟩:=hc.inv;have hul:u.cells.toList.length=s.size:=by rw[Zk,Yx,h1]
  have hvs:v.cells.size=sh.size:=by rw[Yx,hs]
  cases i with
  |zero=>
   simp only[List.getElem?_cons_zero,Option.some.injEq,Prod.mk.injEq] at hi;obtain⟨rfl,rfl⟩:=hi;refine⟨CR.cons hs hf ha h4,by simp[total,Yj,hvs,hul],?_⟩;simp only[List.set_cons_zero,zo,total,Zv,Yj,ZP];rw[hvs,<-hul,zk]
  |succ i=>
   obtain⟨k1,k2,k3⟩:=ih h4 (by simpa using hi);refine⟨CR.cons h1 h2 h3 k1,by simp only[ZW,total,Yj,Zi];omega,?_⟩;simp only[List.set_cons_succ,ZW,total,Yj];rw[k3,zp,List.drop_append,Zu (by omega:u.cells.toList.length<=s.size+total (r.take i)),Z3 (by omega:u.cells.toList.length<=s.size+total (r.take i)+v.cells.size),hul,
    show s.size+total (r.take i) - s.size=total (r.take i) by omega,show s.size+total (r.take i)+v.cells.size - s.size=total (r.take i)+v.cells.size by omega]
   simp

theorem bI{l:List (Sh × AV)}{i:Nat}{sh:Sh}{a0 a:AV}(hi:l[i]? =some (sh,a0))(k:Nat):total ((l.set i (sh,a)).take k)=total (l.take k)/\(l.set i (sh,a)).map (·.1)=l.map (·.1):=by
 induction l generalizing i k with
 |nil=>simp at hi
 |cons x r ih=>
  cases i with
  |zero=>
   simp only[List.getElem?_cons_zero,Option.some.injEq] at hi;subst hi;cases k with
   |zero=>simp[total]
   |succ k=>simp[total]
  |succ i=>
   have h:=fun k=>ih (i:=i) (by simpa using hi) k;cases k with
   |zero=>exact⟨by simp[total],by simp[(h 0).2]⟩
   |succ k=>exact⟨by simp[total,(h k).1],by simp[(h 0).2]⟩

theorem Kk{place:Nat->Option (Nat × Nat)}:∀(idx:List Nat) (azs:List AV) (l l':List (Sh × AV)) (us vals:List Value) (cells:Array Value),xl l idx azs=some l'->CR w X μ hp l vals->cells.toList=cellsOf vals->LR w X μ hp azs us->
  (∀i sh,(l.map (·.1))[i]? =some sh->place i=some (total (l.take i),sh.size))->∃vals',Instr.fill place cells (idx.zip us)=some (cellsOf vals').toArray/\CR w X μ hp l' vals'
 |[],azs,l,l',us,vals,cells,h,hc,hcells,hl,hplace=>by
  cases azs with
  |nil=>
   simp only[xl,Option.some.injEq] at h;subst h;refine⟨vals,?_,hc⟩;simp only[List.zip_nil_left,Instr.fill,<-hcells,Array.toArray_toList]
  |cons a r=>simp[xl] at h
 |i::idx,azs,l,l',us,vals,cells,h,hc,hcells,hl,hplace=>by
  cases azs with
  |nil=>simp[xl] at h
  |cons a r=>
   cases hl with
   |cons ha hr=>
    rename_i v us';simp only[xl] at h;split at h
    ·rename_i sh a0 hi;split at h
     ·rename_i hh;have hs:vshp v=sh:=by rw[ha.vshp hh.2,hh.1]
      have hvs:v.cells.size=sh.size:=by rw[Yx,hs]
      obtain⟨k1,k2,k3⟩:=bH hc hi ha hs (ha.flat hh.2);have hpl:=hplace i sh (by simp[hi]);have hcl:cells.toList.length=cells.size:=Zk;rw[List.zip_cons_cons,vN place cells i v _ (total (l.take i)) (by rw[hpl,hvs]) (by rw[<-hcl,hcells];exact k2)];refine Kk idx r _ l' us' (vals.set i v) _ h k1 (by simp only[hcells,k3]) hr fun j s hj=> ?_;have ht:=fun k=>bI (a:=a) hi k;rw[(ht 0).2] at hj;rw[(ht j).1];exact hplace j s hj
     ·cases h
    ·cases h

theorem bJ(P:Program)(d:Nat)(cs:Array Value):∀(fs:List Field) (o:Nat) (l:List (Sh × AV)),ofValue.fields P d cs o fs=some l->l.map (·.1)=fs.map (fun f=>shOf P f.type)/\∀i f,fs[i]? =some f->f.offset=o+total (l.take i):=by
 intro fs
 induction fs with
 |nil=>
  intro o l h;simp only[ofValue.fields,x5] at h;split at h
  ·cases h;exact⟨rfl,by simp⟩
  ·cases h
 |cons f r ih=>
  intro o l h;simp only[ofValue.fields,x5] at h;split at h
  ·rename_i ho;split at h
   ·cases h
   ·split at h
    ·rename_i l' hl';cases h;obtain⟨h1,h2⟩:=ih _ _ hl';refine⟨by simp[h1],fun i g hg=> ?_⟩;cases i with
     |zero=>simp at hg;subst hg;simp[total,ho]
     |succ i=>
      have:=h2 i g (by simpa using hg);rw[this,ZW];simp only[total];omega
    ·cases h
  ·cases h
theorem bK(P:Program)(d:Nat)(cs:Array Value)(sh:Sh)(t:TypeId):∀(n o:Nat) (l:List (Sh × AV)),ofValue.items P d cs sh t o n=some l->∀i s,(l.map (·.1))[i]? =some s->s=sh/\total (l.take i)=i*sh.size:=by
 intro n
 induction n with
 |zero=>
  intro o l h;simp only[ofValue.items,x6] at h;split at h
  ·cases h;intro i s hs;simp at hs
  ·cases h
 |succ n ih=>
  intro o l h;simp only[ofValue.items,x6] at h;split at h
  ·cases h
  ·split at h
   ·rename_i l' hl';cases h;intro i s hs;cases i with
    |zero=>simp at hs;subst hs;simp[total]
    |succ i=>
     obtain⟨h1,h2⟩:=ih _ _ hl' i s (by simpa using hs);refine⟨h1,?_⟩;rw[ZW];simp only[total,h2,Zq];omega
   ·cases h

theorem vR{l l':List (Sh × AV)}(h:(AV.ofComps l).comps=some l'):l'.map (·.1)=l.map (·.1):=by
 have key:∀(l:List (Sh × AV)) (ps:List (Sh × PV)),pures l=some ps->ps.map (·.1)=l.map (·.1):=by
  intro l
  induction l with
  |nil=>intro ps h;simp[pures] at h;subst h;rfl
  |cons x r ih=>
   intro ps h;obtain⟨s,a⟩:=x;cases a with
   |pv s' p=>
    simp only[pures] at h;split at h
    ·rename_i q hq;cases h;simp[ih _ hq]
    ·cases h
   |_=>simp[pures] at h
 unfold AV.ofComps at h;split at h
 ·rename_i ps hps;simp only[AV.comps,Option.some.injEq] at h;subst h;simp[key l ps hps,Function.comp_def]
 ·simp only[AV.comps,Option.some.injEq] at h;subst h;rfl
theorem Kl{α β:Type}:∀{a:List (Sh × α)} {b:List (Sh × β)},a.map (·.1)=b.map (·.1)->∀i,total (a.take i)=total (b.take i)
 |[],[],_,i=>by simp[total]
 |[],_::_,h,i=>by simp at h
 |_::_,[],h,i=>by simp at h
 |x::r,y::q,h,i=>by
  simp only[ZX,List.cons.injEq] at h;cases i with
  |zero=>simp[total]
  |succ i=>simp[total,h.1,Kl h.2 i]

theorem bL{fs:List Field}(hok:fs.all (fun f=>okT P f.type)=true):(fs.mapM (fun f=>do pure (f.offset,<-sizeOf f.type)):Sem (List (Nat × Nat))).run P w=.ok (fs.map fun f=>(f.offset,(shOf P f.type).size)) w:=by
 induction fs with
 |nil=>rfl
 |cons f r ih=>
  simp only[zB,Zg] at hok;rw[List.mapM_cons];simp only[Sem.run_bind,Xa hok.1,Result.andThen_ok,Sem.run_pure,ih hok.2,ZX]

theorem bM{t:TypeId}{z:AV}{l:List (Sh × AV)}(hz:YO P t=some z)(hl:z.comps=some l)(w:World)(X:Xc P)(μ:Nat->Option Nat)(hp:Heap):
  ∃cs vals,(zeroValue t).run P w=.ok (.agg cs) w/\cs.toList=cellsOf vals/\CR w X μ hp l vals/\
   (∀fs,P.underlying t=some (.struct fs)->l.map (·.1)=fs.toList.map (fun f=>shOf P f.type)/\∀i f,fs[i]? =some f->f.offset=total (l.take i))/\
   (∀n e,P.underlying t=some (.array n e)->∀i s,(l.map (·.1))[i]? =some s->s=shOf P e/\total (l.take i)=i*(shOf P e).size):=by
 obtain⟨v,h1,h2,h3⟩:=xC (w:=w) (X:=X) (μ:=μ) (hp:=hp) hz;obtain⟨vals,rfl,hc⟩:=vi hl h2;refine⟨_,vals,h1,rfl,hc,?_,?_⟩
 ·intro fs ht;unfold YO at hz;split at hz
  ·split at hz
   ·rename_i zv hzv;unfold ofValue at hz;split at hz <;> first|(simp only[Option.some.injEq] at hz;subst hz;simp[AV.comps] at hl;done)|skip
    ·split at hz
     ·split at hz <;> (simp only[Option.some.injEq] at hz;subst hz;simp[AV.comps] at hl)
     ·cases hz
    ·simp only[ht] at hz;split at hz
     ·rename_i l0 hl0;cases hz;obtain⟨f1,f2⟩:=bJ P _ _ _ _ _ hl0;have hm:=vR hl;refine⟨by rw[hm,f1],fun i f hf=> ?_⟩;rw[f2 i f (by simpa using hf),Zv];exact(Kl hm i).symm
     ·cases hz
    ·cases hz
   ·cases hz
  ·cases hz
 ·intro n e ht;unfold YO at hz;split at hz
  ·split at hz
   ·rename_i zv hzv;unfold ofValue at hz;split at hz <;> first|(simp only[Option.some.injEq] at hz;subst hz;simp[AV.comps] at hl;done)|skip
    ·split at hz
     ·split at hz <;> (simp only[Option.some.injEq] at hz;subst hz;simp[AV.comps] at hl)
     ·cases hz
    ·simp only[ht] at hz;split at hz
     ·rename_i l0 hl0;cases hz;have hm:=vR hl;intro i s hs;rw[hm] at hs;obtain⟨a1,a2⟩:=bK P _ _ _ _ _ _ _ hl0 i s hs;exact⟨a1,by rw[Kl hm i];exact a2⟩
     ·cases hz
    ·cases hz
   ·cases hz
  ·cases hz

theorem Km{t:TypeId}{parts:Array (Nat × Operand)}{ρ:Operand->Value}{z:AV}{l:List (Sh × AV)}{vs:List AV}{v:AV}(hz:YO P t=some z)(hc:z.comps=some l)
  (ht:(∃fs,P.underlying t=some (.struct fs)/\fs.toList.all (fun f=>okT P f.type)=true)\/∃n e,P.underlying t=some (.array n e)/\okT P e=true)
  (hl:LR w X μ hp vs ((parts.toList.map (·.2)).map ρ))(h:Yi l (parts.toList.map (·.1)) vs=some v):Yr P w X μ hp (do pure (.value (<-Instr.build t (parts.map fun(x:Nat × Operand)=>(x.1,ρ x.2))))) v:=by
 obtain⟨cs,vals,z1,z2,z3,z4,z5⟩:=bM hz hc w X μ hp;unfold Yi at h;split at h
 ·split at h
  ·rename_i l' hl';cases h;rcases ht with⟨fs,ht,hok⟩|⟨n,e,ht,hok⟩
   ·obtain⟨f1,f2⟩:=z4 fs ht;obtain⟨vals',k1,k2⟩:=Kk (place:=((fs.map fun f=>(f.offset,(shOf P f.type).size))[·]?)) _ _ _ _ _ _ cs hl' z3 z2 hl (by
     intro i sh hi;rw[f1] at hi;simp only[ZK,ZL] at hi;obtain⟨f,hf,rfl⟩:=hi;have hf':fs[i]? =some f:=by simpa using hf
     simp[hf',f2 i f hf'])
    refine⟨.agg (cellsOf vals').toArray,?_,k2.ofComps⟩;have hm:(fs.mapM (fun f=>do pure (f.offset,<-sizeOf f.type)):Sem (Array (Nat × Nat))).run P w=.ok (fs.map fun f=>(f.offset,(shOf P f.type).size)) w:=by
     rw[Array.mapM_eq_mapM_toList];simp only[Sem.run_map,bL hok,Result.andThen_ok,<-Array.toList_map,Array.toArray_toList]
    rw[<-Ki] at k1;simp only[Instr.build,Sem.run_bind,z1,Result.andThen_ok,run_underlying ht,hm,Value.cells,k1,Sem.run_pure]
   ·have f2:=z5 n e ht;obtain⟨vals',k1,k2⟩:=Kk (place:=fun i=>some (i*(shOf P e).size,(shOf P e).size)) _ _ _ _ _ _ cs hl' z3 z2 hl (by
     intro i sh hi;obtain⟨a1,a2⟩:=f2 i sh hi;rw[a1,a2])
    refine⟨.agg (cellsOf vals').toArray,?_,k2.ofComps⟩;rw[<-Ki] at k1;simp only[Instr.build,Sem.run_bind,z1,Result.andThen_ok,run_underlying ht,Xa hok,Value.cells,k1,Sem.run_pure]
  ·cases h
 ·cases h
end Go.Am

/- Structs compared; strings cut; type assertions; maps read and written. -/
namespace Go.Am
variable{P:Program} {w:World} {X:Xc P} {μ:Nat->Option Nat} {hp:Heap}

theorem xE{t:TypeId}{d:TypeDesc}(ht:P.underlying t=some d)(hn:shOf P t=none){cs:Array Value}{o:Nat}{v:Value}(h:cs[o]? =some v):(part t cs o).run P w=.ok v w:=by
 simp only[part,Sem.run_bind,vq ht,hn,zm,Result.andThen_ok,ZM,if_false,h,Sem.run_pure]

theorem PR.int_inv{I:Nat->Prop}{k:IntKind}{n:Int}{v:Value}(h:PR w I (.int k n) v):v=.int k n:=by cases h;rfl
theorem PR.str_inv{I:Nat->Prop}{s:List UInt8}{v:Value}(h:PR w I (.str s) v):v=.string ⟨s.toArray⟩:=by cases h;rfl
theorem PR.bool_inv{I:Nat->Prop}{b:Bool}{v:Value}(h:PR w I (.bool b) v):v=.bool b:=by cases h;rfl

theorem Qe{α:Type}{l:List α}{o:Nat}{a:α}{r:List α}(h:l.drop o=a::r):l[o]? =some a/\l.drop (o+1)=r:=by
 have h1:(l.drop o)[0]? =some a:=by rw[h];rfl
 refine⟨by simpa using h1,?_⟩;have h2:=congrArg (List.drop 1) h;simpa[ZQ] using h2

theorem Jw{I:Nat->Prop}(d:Nat)(xs ys:Array Value):∀(fs:List Field) (ds:List Nat) (o:Nat) (lx ly:List (Sh × PV)) (vx vy:List Value) (b:Bool),
  x7 P o fs=some ds->Yu ds lx ly=some b->CP w I lx vx->CP w I ly vy->xs.toList.drop o=cellsOf vx->ys.toList.drop o=cellsOf vy->(Op.eqFields (d+1) xs ys fs).run P w=.ok b w
 |[],ds,o,lx,ly,vx,vy,b,hk,he,hx,hy,h1,h2=>by
  cases hk;cases lx <;> cases ly <;> simp[Yu] at he
  subst he;rfl
 |f::r,ds,o,lx,ly,vx,vy,b,hk,he,hx,hy,h1,h2=>by
  simp only[x7] at hk;split at hk
  ·rename_i hf;obtain⟨rfl,hf⟩:=hf;split at hk
   ·rename_i k l hd hl;cases hk;have hn:shOf P f.type=none:=by simp[shOf,hd]
    match lx,ly,he,hx,hy with
    |(none,.int k1 a)::lx,(none,.int k2 a')::ly,he,hx,hy=>
     simp only[Yu] at he;split at he
     ·rename_i hkk;subst hkk;obtain⟨u,us,rfl,_,g1,g2⟩:=hx.inv;obtain⟨v,vs,rfl,_,g3,g4⟩:=hy.inv;have e1:=g1.int_inv;have e2:=g3.int_inv;subst e1;subst e2;simp only[Yj,Value.cells,ZJ,ZP] at h1 h2;obtain⟨a1,a2⟩:=Qe h1;obtain⟨b1,b2⟩:=Qe h2;have p1:=xE (w:=w) hd hn (by simpa using a1);have p2:=xE (w:=w) hd hn (by simpa using b1);simp only[Op.eqFields,hf,if_true,ne_eq,not_false_eq_true,Sem.run_bind,p1,p2,Result.andThen_ok,run_equalIn_int w d _ _ _ _ _ hd];split at he
      ·rename_i hab;subst hab;simp only[BEq.rfl,Bool.not_true,ZM,if_false];exact Jw d xs ys r l _ lx ly us vs b hl he g2 g4 a2 b2
      ·rename_i hab;cases he;have:(a == a')=false:=by simpa using hab
       simp only[this,Bool.not_false,if_true,Sem.run_pure]
     ·cases he
    |[],_,he,_,_=>simp[Yu] at he
    |_,[],he,_,_=>simp[Yu] at he
   ·rename_i l hd hl;cases hk;have hn:shOf P f.type=none:=by simp[shOf,hd]
    match lx,ly,he,hx,hy with
    |(none,.str a)::lx,(none,.str a')::ly,he,hx,hy=>
     simp only[Yu] at he;obtain⟨u,us,rfl,_,g1,g2⟩:=hx.inv;obtain⟨v,vs,rfl,_,g3,g4⟩:=hy.inv;have e1:=g1.str_inv;have e2:=g3.str_inv;subst e1;subst e2;simp only[Yj,Value.cells,ZJ,ZP] at h1 h2;obtain⟨a1,a2⟩:=Qe h1;obtain⟨b1,b2⟩:=Qe h2;have p1:=xE (w:=w) hd hn (by simpa using a1);have p2:=xE (w:=w) hd hn (by simpa using b1);simp only[Op.eqFields,hf,if_true,ne_eq,not_false_eq_true,Sem.run_bind,p1,p2,Result.andThen_ok,run_equalIn_string w d _ _ _ hd,ByteArray.toList_mk];split at he
     ·rename_i hab;subst hab;simp only[BEq.rfl,Bool.not_true,ZM,if_false];exact Jw d xs ys r l _ lx ly us vs b hl he g2 g4 a2 b2
     ·rename_i hab;cases he;have:(a == a')=false:=by simpa using hab
      simp only[this,Bool.not_false,if_true,Sem.run_pure]
    |[],_,he,_,_=>simp[Yu] at he
    |_,[],he,_,_=>simp[Yu] at he
   ·rename_i l hd hl;cases hk;have hn:shOf P f.type=none:=by simp[shOf,hd]
    match lx,ly,he,hx,hy with
    |(none,.bool a)::lx,(none,.bool a')::ly,he,hx,hy=>
     simp only[Yu] at he;obtain⟨u,us,rfl,_,g1,g2⟩:=hx.inv;obtain⟨v,vs,rfl,_,g3,g4⟩:=hy.inv;have e1:=g1.bool_inv;have e2:=g3.bool_inv;subst e1;subst e2;simp only[Yj,Value.cells,ZJ,ZP] at h1 h2;obtain⟨a1,a2⟩:=Qe h1;obtain⟨b1,b2⟩:=Qe h2;have p1:=xE (w:=w) hd hn (by simpa using a1);have p2:=xE (w:=w) hd hn (by simpa using b1);simp only[Op.eqFields,hf,if_true,ne_eq,not_false_eq_true,Sem.run_bind,p1,p2,Result.andThen_ok,run_equalIn_bool' w d _ _ _ hd];split at he
     ·rename_i hab;subst hab;simp only[BEq.rfl,Bool.not_true,ZM,if_false];exact Jw d xs ys r l _ lx ly us vs b hl he g2 g4 a2 b2
     ·rename_i hab;cases he;have:(a == a')=false:=by simpa using hab
      simp only[this,Bool.not_false,if_true,Sem.run_pure]
    |[],_,he,_,_=>simp[Yu] at he
    |_,[],he,_,_=>simp[Yu] at he
   ·cases hk
  ·cases hk

theorem bN{o:BinOp}(ho:o=.eql\/o=.neq){t:TypeId}{x y:Operand}{vx vy:Value}{ds:List Nat}{vs:List AV}{v:AV}(hd:yx P t=some ds)(hl:LR w X μ hp vs [vx,vy])(h:sEqs (yF o) ds vs=some v):
  Yr P w X μ hp (do pure (.value (<-(do eqGuard o t x y vx vy;binOp o t vx vy)))) v:=by
 exact absurd (show(none:Option AV)=some _ from h) (by simp)
end Go.Am

/- Maps; strings cut; type assertions; make. -/
namespace Go.Am
variable{P:Program} {w:World} {X:Xc P} {μ:Nat->Option Nat} {hp:Heap}

theorem Ext.setMap{b0 r:Nat}{sh:Sh}{old new:List (PV × PV)}(hr:hp[r]? =some (.map sh old)){w':World}{b:Nat}(hb:μ r=some b)(hos:w'.os=w.os)(ht:w'.tape=w.tape)(ho:w'.output=w.output)
  (hsz:w'.heap.size=w.heap.size)(hoth:∀k,k≠b->w'.heap[k]? =w.heap[k]?)(hsh:∀cs t fr,w.heap[b]?≠some (.cells cs t fr)):Ext b0 X μ hp w μ (hp.set r (.map sh new)) w' where
 os:=hos
 tape:=ht
 output:=ho
 size:=by omega
 blk k hk hm:=hoth k fun e=>by
  subst e;exact hm r (by simp[Am.live,hr]) hb
 shape k cs t fr hk:=by
  by_cases e:k=b
  ·subst e;exact absurd hk (hsh cs t fr)
  ·exact⟨cs,by rw[hoth k e];exact hk,rfl⟩
 len:=by simp
 box i s u hi:=by
  have e:i≠r:=by rintro rfl;rw[hr] at hi;cases hi
  exact⟨u,by rw[Zo (Ne.symm e)];exact hi,rfl,fun _ _ h=>h⟩
 arr i s es fz hi:=by
  have e:i≠r:=by rintro rfl;rw[hr] at hi;cases hi
  exact⟨es,fz,by rw[Zo (Ne.symm e)];exact hi,Zc _,fun e=>⟨e,rfl⟩,fun _=>rfl⟩
 map i s es hi:=by
  by_cases e:i=r
  ·subst e;rw[hr] at hi;cases hi;exact⟨new,by rw[Zx (Zb.1 hr).1],rfl⟩
  ·exact⟨es,by rw[Zo (Ne.symm e)];exact hi,rfl⟩
 loop i f ps env bz hi:=by
  have e:i≠r:=by rintro rfl;rw[hr] at hi;cases hi
  exact⟨bz,by rw[Zo (Ne.symm e)];exact hi,rfl⟩
 arv i s es hi:=by
  have e:i≠r:=by rintro rfl;rw[hr] at hi;cases hi
  have e2:(hp.set r (.map sh new))[i]? =some (.arv s es):=by rw[Zo (Ne.symm e)];exact hi
  exact⟨es.length,by rw[e2];rfl,Zc _,fun _=>rfl,fun es' h' _=>by rw[e2] at h';cases h';exact fun _ h=>h⟩
 new i h1 h2:=by simp at h2;omega
 mov i _ k hk:=.inl hk

theorem HR.setMap{b0 r:Nat}{sh:Sh}{old new:List (PV × PV)}(h:HR w X μ hp)(hr:hp[r]? =some (.map sh old)){w':World}{b:Nat}(hb:μ r=some b)(E:Ext b0 X μ hp w μ (hp.set r (.map sh new)) w')(hoth:∀k,k≠b->w'.heap[k]? =w.heap[k]?)
  {ents:Array MapEntry}{clock:Nat}(h1:w'.heap[b]? =some (.map ents clock))(h2:MR w (Im X μ hp) sh new ents.toList):HR w' X μ (hp.set r (.map sh new)):=by
 have hlen:(hp.set r (.map sh new)).length=hp.length:=by simp
 have other:∀i k,i<hp.length->i≠r->μ i=some k->w'.heap[k]? =w.heap[k]? :=fun i k hi hne hk=>hoth k fun e=>by
  subst e;exact hne (h.inj i r k hi (Zb.1 hr).1 hk hb)
 refine⟨?_,?_,?_,?_,?_,?_,?_,?_,h.tab.mono E.pr⟩
 ·intro i j k hi hj;rw[hlen] at hi hj;exact h.inj i j k hi hj
 ·intro i k hi hk;rw[hlen] at hi;exact⟨(h.out i k hi hk).1,ZD (h.out i k hi hk).2 E.size⟩
 ·exact fun k hx=>ZD (h.xlt k hx) E.size
 ·intro i s u hi;rcases yf hi with⟨rfl,e⟩|⟨hne,hi⟩
  ·cases e
  ·obtain⟨k,val,t,k1,k2,k3,k4,k5⟩:=h.box i s u hi;exact⟨k,val,t,k1,by rw[other i k (Zb.1 hi).1 hne k1];exact k2,k3,k4,E.ar k5⟩
 ·intro i s es fz hi;rcases yf hi with⟨rfl,e⟩|⟨hne,hi⟩
  ·cases e
  ·obtain⟨k0,k1⟩:=h.arr i s es fz hi;refine⟨k0,?_⟩;rcases k1 with k1|⟨k,cs,t,vals,k1,k2,k3,k4,k5⟩
   ·exact .inl k1
   ·exact .inr ⟨k,cs,t,vals,k1,by rw[other i k (Zb.1 hi).1 hne k1];exact k2,k3,fun j p v hj hv=>⟨(k4 j p v hj hv).1,E.pr (k4 j p v hj hv).2⟩,k5⟩
 ·intro i s es hi;rcases yf hi with⟨rfl,e⟩|⟨hne,hi⟩
  ·cases e;exact⟨b,ents,clock,hb,h1,h2.map.mono E.pr⟩
  ·obtain⟨k,ents,clock,k1,k2,k3⟩:=h.map i s es hi;exact⟨k,ents,clock,k1,by rw[other i k (Zb.1 hi).1 hne k1];exact k2,k3.mono E.pr⟩
 ·intro i f ps env bz hi;rcases yf hi with⟨rfl,e⟩|⟨hne,hi⟩
  ·cases e
  ·obtain⟨l,rc,k1,k2,k3,k4,k5,k6,k7⟩:=h.loop i f ps env bz hi;exact⟨l,rc,k1,by rw[other i l (Zb.1 hi).1 hne k1];exact k2,k3,k4,k5,k6,fun x hx=>⟨(k7 x hx).1,E.ar (k7 x hx).2⟩⟩
 ·intro i s es hi;rcases yf hi with⟨rfl,e⟩|⟨hne,hi⟩
  ·cases e
  ·obtain⟨h0,k,cs,t,vals,k1,k2,k3,k4,k5⟩:=h.arv i s es hi;exact⟨h0,k,cs,t,vals,k1,by rw[other i k (Zb.1 hi).1 hne k1];exact k2,k3,fun j p v hj hv=>⟨(k4 j p v hj hv).1,E.ar (k4 j p v hj hv).2⟩,k5⟩

theorem MR.nil{I:Nat->Prop}{sh:Sh}{ents:List MapEntry}(h:MR w I sh [] ents):ents=[]:=zf (by have:=h.1;simp at this;exact this.symm)
theorem MR.inv{I:Nat->Prop}{sh:Sh}{x:PV × PV}{es:List (PV × PV)}{ents:List MapEntry}(h:MR w I sh (x::es) ents):∃e r,ents=e::r/\PR w I x.1 e.key/\PR w I x.2 e.val/\vshp e.val=sh/\MR w I sh es r:=by
 cases ents with
 |nil=>have:=h.1;simp at this
 |cons e r=>
  obtain⟨a,b,c⟩:=h.2 0 x e rfl rfl;exact⟨e,r,rfl,a,b,c,by have:=h.1;simpa using this,fun k y f hy hf=>h.2 (k+1) y f (by simpa using hy) (by simpa using hf)⟩
theorem MR.cons{I:Nat->Prop}{sh:Sh}{x:PV × PV}{e:MapEntry}{es:List (PV × PV)}{ents:List MapEntry}(h1:PR w I x.1 e.key)(h2:PR w I x.2 e.val)(h3:vshp e.val=sh)(h:MR w I sh es ents):MR w I sh (x::es) (e::ents):=by
 refine⟨by simp[h.1],fun k y f hy hf=> ?_⟩;cases k with
 |zero=>simp at hy hf;subst hy;subst hf;exact⟨h1,h2,h3⟩
 |succ k=>exact h.2 k y f (by simpa using hy) (by simpa using hf)

def KK(s:Bool)(d:TypeDesc):Prop:=(s=true/\d=.string)\/(s=false/\∃k,d=.int k)
theorem vU{t:TypeId}{s:Bool}(h:x8 P t=some s):∃d,P.underlying t=some d/\KK s d:=by
 unfold x8 at h;split at h
 ·rename_i hd;cases h;exact⟨_,hd,.inl ⟨rfl,rfl⟩⟩
 ·rename_i k hd;cases h;exact⟨_,hd,.inr ⟨rfl,k,rfl⟩⟩
 ·cases h

theorem bO(n:Nat)(k:IntKind)(a:Int):Instr.sameBits n (.int k a) (.int k a)=true:=by cases n <;> simp[Instr.sameBits]
theorem bP(n:Nat)(a:List UInt8):Instr.sameBits n (.string ⟨a.toArray⟩) (.string ⟨a.toArray⟩)=true:=by
 cases n <;> simp[Instr.sameBits,beq_toListBytes]
theorem Jx{I:Nat->Prop}{s:Bool}{d:TypeDesc}{k k':PV}{v v':Value}{b:Bool}(hd:KK s d)(h:PV.same s k k'=some b)(h1:PR w I k v)(h2:PR w I k' v'):Instr.sameNow d v v'=some b/\(b=true->v=v')/\Instr.sameBits 10000 v v=true:=by
 unfold PV.same at h;split at h
 ·split at h
  ·rename_i hk;cases h;subst hk;rcases hd with⟨hd,_⟩|⟨_,q,rfl⟩
   ·cases hd
   ·rw[h1.int_inv,h2.int_inv];refine⟨?_,fun e=>by simp at e;rw[e],bO _ _ _⟩;simp only[Instr.sameNow,if_true,Option.some.injEq];rfl
  ·cases h
 ·cases h;rcases hd with⟨_,rfl⟩|⟨hd,_⟩
  ·rw[h1.str_inv,h2.str_inv];refine⟨?_,fun e=>by simp at e;rw[e],bP _ _⟩;simp only[Instr.sameNow,Option.some.injEq];rw[beq_toListBytes,ByteArray.toList_mk,ByteArray.toList_mk,vu]
  ·cases hd
 ·cases h

def Narrow(es:List (PV × PV)):Prop:=es=[]\/∃x r,es=x::r/\∀l,x.1≠.agg l
theorem MapR.scalar{I:Nat->Prop}{sh:Sh}{es:List (PV × PV)}{ents:Array MapEntry}(h:MapR w I sh es ents)(hn:Narrow es):MR w I sh es ents.toList:=by
 obtain⟨l,h1,h2,h3⟩:=h;rcases h3 with rfl|h3
 ·exact h2
 ·rcases hn with rfl|⟨x,r,rfl,hx⟩
  ·have h4:l=[]:=zf (by have:=h2.1;simp at this;exact this.symm);subst h4;rw[h1.symm.eq_nil];exact h2
  ·obtain⟨q,hq⟩:=h3 x (by simp);exact absurd hq (hx q)
theorem vV{s:Bool}{k k':PV}{b:Bool}(h:PV.same s k k'=some b):∀l,k'≠.agg l:=by
 rintro l rfl;unfold PV.same at h;split at h <;> simp_all
theorem bQ{s:Bool}{k:PV}{es:List (PV × PV)}{r:Option PV}(h:afind s k es=some r):Narrow es:=by
 cases es with
 |nil=>exact .inl rfl
 |cons x es=>
  obtain⟨k',v⟩:=x;refine .inr ⟨_,_,rfl,?_⟩;simp only[afind] at h;cases hs:PV.same s k k' with
  |none=>rw[hs] at h;cases h
  |some b=>exact vV hs
theorem bR{s:Bool}{k v:PV}{es es':List (PV × PV)}(h:aput s k v es=some es'):Narrow es:=by
 cases es with
 |nil=>exact .inl rfl
 |cons x es=>
  obtain⟨k',v'⟩:=x;refine .inr ⟨_,_,rfl,?_⟩;simp only[aput] at h;cases hs:PV.same s k k' with
  |none=>rw[hs] at h;cases h
  |some b=>exact vV hs

theorem Kn{I:Nat->Prop}{s:Bool}{d:TypeDesc}{sh:Sh}{k:PV}{kv:Value}(hd:KK s d)(hk:PR w I k kv):∀(es:List (PV × PV)) (ents:List MapEntry) (i:Nat) (r:Option PV),afind s k es=some r->MR w I sh es ents->
  ∃q,Instr.findNow d kv ents i=some q/\match r with|none=>q=none|some p=>∃j v,q=some (j,v)/\PR w I p v/\vshp v=sh
 |[],ents,i,r,h,hm=>by
  cases h;rw[hm.nil];exact⟨none,rfl,rfl⟩
 |(k',v')::es,ents,i,r,h,hm=>by
  obtain⟨e,rest,rfl,g1,g2,g3,g4⟩:=hm.inv;simp only[afind] at h;split at h
  ·cases h
  ·rename_i hs;cases h;obtain⟨n1,n2⟩:=Jx hd hs hk g1;exact⟨some (i,e.val),by simp[Instr.findNow,n1],i,e.val,rfl,g2,g3⟩
  ·rename_i hs;obtain⟨n1,n2⟩:=Jx hd hs hk g1;obtain⟨q,q1,q2⟩:=Kn hd hk es rest (i+1) r h g4;exact⟨q,by simp[Instr.findNow,n1,q1],q2⟩

theorem vW{I:Nat->Prop}{s:Bool}{d:TypeDesc}{sh:Sh}{k p:PV}{kv pv:Value}(hd:KK s d)(hk:PR w I k kv)(hp:PR w I p pv)(hs:vshp pv=sh):∀(es:List (PV × PV)) (ents:List MapEntry) (i:Nat) (es':List (PV × PV)),aput s k p es=some es'->MR w I sh es ents->
  (Instr.findNow d kv ents i=some none/\∀b,MR w I sh es' (ents++[{ key:=kv,val:=pv,born:=b }]))\/
  (∃j e v,Instr.findNow d kv ents i=some (some (i+j,v))/\ents[j]? =some e/\e.key=kv/\Instr.sameBits 10000 kv kv=true/\MR w I sh es' (ents.modify j fun e=>{ e with key:=kv,val:=pv }))
 |[],ents,i,es',h,hm=>by
  cases h;rw[hm.nil];exact .inl ⟨rfl,fun b=>MR.cons hk hp hs ⟨rfl,by simp⟩⟩
 |(k',v')::es,ents,i,es',h,hm=>by
  obtain⟨e,rest,rfl,g1,g2,g3,g4⟩:=hm.inv;simp only[aput] at h;split at h
  ·cases h
  ·rename_i hsm;cases h;obtain⟨n1,n2⟩:=Jx hd hsm hk g1;refine .inr ⟨0,e,e.val,by simp[Instr.findNow,n1],rfl,(n2.1 rfl).symm,n2.2,?_⟩;exact MR.cons hk hp hs g4
  ·rename_i hsm;obtain⟨n1,n2⟩:=Jx hd hsm hk g1;split at h
   ·rename_i l hl;cases h;rcases vW hd hk hp hs es rest (i+1) l hl g4 with⟨a1,a2⟩|⟨j,f,v,a1,a2,a3,a5,a4⟩
    ·exact .inl ⟨by simp[Instr.findNow,n1,a1],fun b=>MR.cons g1 g2 g3 (a2 b)⟩
    ·refine .inr ⟨j+1,f,v,by simp[Instr.findNow,n1,a1];omega,a2,a3,a5,?_⟩;exact MR.cons g1 g2 g3 a4
   ·cases h

theorem bS{s:Bool}{d:TypeDesc}{t:TypeId}(e:Bool)(ht:P.underlying t=some d)(hd:KK s d)(v:Value)(n:Nat):(Instr.checkKey e (n+1) t v).run P w=.ok () w:=by
 rcases hd with⟨_,rfl⟩|⟨_,k,rfl⟩ <;> simp[Instr.checkKey,run_underlying ht]
theorem Jy{s:Bool}{d:TypeDesc}{t:TypeId}(e:Bool)(ht:P.underlying t=some d)(hd:KK s d)(v:Value):(Instr.checkKey e 10000 t v).run P w=.ok () w:=bS e ht hd v 9999
theorem Qf{r:Nat}{es:Array MapEntry}{clock:Nat}(hb:w.heap[r]? =some (.map es clock)):(getObj r).run P w=.ok (.map es clock) w:=by simp[getObj,Sem.run,hb]
theorem Ko{r:Nat}{es:Array MapEntry}{clock:Nat}(o:Obj)(hb:w.heap[r]? =some (.map es clock)):(setObj r o).run P w=.ok () { w with heap:=w.heap.setIfInBounds r o }:=by simp[setObj,Sem.run,hb]

theorem bU{t tk te:TypeId}{s:Bool}{x k:Value}{z:AV}{ok:Bool}{vs:List AV}{v:AV}(ht:P.underlying t=some (.map tk te))(hk:x8 P tk=some s)(hz:YO P te=some z)(hH:HR w X μ hp)(hl:LR w X μ hp vs [x,k])
  (h:yh s (shOf P te) z ok hp vs=some v):Yr P w X μ hp (do pure (.value (<-Instr.lookup t x k ok))) v:=by
 obtain⟨d,hd,hKK⟩:=vU hk;obtain⟨zv,z1,z2,z3⟩:=xC (w:=w) (X:=X) (μ:=μ) (hp:=hp) hz;unfold yh at h;split at h
 ·rename_i r s0 kp;obtain⟨a,b,e,h1,h2⟩:=hl.two;cases e;cases h1 with|map _ b0 sh0 es0 ho0 hb0=>
  cases h2 with|pv _ _ _ _ h2=>
  split at h
  ·rename_i sh es hr;split at h
   ·rename_i hsh;subst hsh;obtain⟨b1,ents,clock,m1,m2,m3⟩:=hH.map r _ _ hr;rw[hb0] at m1;cases m1;have hM:∀{r},afind s kp es=some r->MR w (Im X μ hp) (shOf P te) es ents.toList:=fun hf=>m3.scalar (bQ hf);split at h
    ·rename_i p hf;cases h;obtain⟨q,q1,j,v,rfl,q3,q4⟩:=Kn hKK h2 es ents.toList 0 _ hf (hM hf);have hrun:(Instr.lookup t (.map (some b0)) k ok).run P w=.ok (if ok=true then .tuple #[v,.bool true] else v) w:=by
      simp[Instr.lookup,run_underlying ht,Qf m2,Jy _ hd hKK,Instr.findKey,run_underlying hd,q1]
     cases ok
     ·exact yn hrun (.pv _ _ _ q4 q3)
     ·exact yn hrun (.tuple _ [v,.bool true] rfl (fun i a u ha hu=>by
       match i,ha,hu with
       |0,ha,hu=>simp at ha hu;subst ha;subst hu;exact .pv _ _ _ q4 q3
       |1,ha,hu=>simp at ha hu;subst ha;subst hu;exact .mkBool _))
    ·rename_i hf;cases h;obtain⟨q,q1,rfl⟩:=Kn hKK h2 es ents.toList 0 _ hf (hM hf);have hrun:(Instr.lookup t (.map (some b0)) k ok).run P w=.ok (if ok=true then .tuple #[zv,.bool false] else zv) w:=by
      simp[Instr.lookup,run_underlying ht,Qf m2,Jy _ hd hKK,Instr.findKey,run_underlying hd,q1,z1]
     cases ok
     ·exact yn hrun z2
     ·exact yn hrun (.tuple _ [zv,.bool false] rfl (fun i a u ha hu=>by
       match i,ha,hu with
       |0,ha,hu=>simp at ha hu;subst ha;subst hu;exact z2
       |1,ha,hu=>simp at ha hu;subst ha;subst hu;exact .mkBool _))
    ·cases h
   ·cases h
  ·cases h
 ·cases h

theorem vX:∀(l:List (Sh × PV)) (vs:List Value),l.length=vs.length->l.all (fun x=>x.1.isNone)=true->(∀(i:Nat) (x:Sh × PV) (v:Value),l[i]? =some x->vs[i]? =some v->vshp v=x.1)->cellsOf vs=vs
 |_,[],_,_,_=>rfl
 |[],v::vs,h,_,_=>by simp at h
 |x::l,v::vs,h,h1,h2=>by
  simp only[zB,Zg,Option.isNone_iff_eq_none] at h1;have e:=h2 0 x v rfl rfl;rw[h1.1] at e;rw[Yj,vX l vs (by simpa using h) h1.2 fun i x v hx hv=>h2 (i+1) x v (by simpa using hx) (by simpa using hv)];cases v <;> first|rfl|(simp[vshp] at e)
theorem bV{t e:TypeId}{n:Nat}{x ix:Value}{vs:List AV}{v:AV}(ht:P.underlying t=some (.array n e))(hok:okT P e=true)(hsh:shOf P e=none)(hl:LR w X μ hp vs [x,ix])(h:xS n vs=some v):Yr P w X μ hp (do pure (.value (<-Instr.index t x ix))) v:=by
 unfold xS at h;split at h
 ·rename_i s1 l s2 k i;split at h
  ·rename_i h0;obtain⟨h0,h1,h2⟩:=h0;split at h
   ·rename_i s p hc;cases h;obtain⟨_,_,e0,g1,g2⟩:=hl.two;cases e0;cases g2.int_inv;cases g1 with|pv _ _ _ _ g1=>
    cases g1 with|agg _ us hlen k1 k2=>
    have hi:i.toNat<us.length:=by rw[<-hlen];exact(Zb.1 hc).1
    have hu:us[i.toNat]? =some us[i.toNat]:=Zf hi;have hs:s=none:=by
     have:=Zm.1 h2 _ (Zj hc);simpa using this
    subst hs;obtain⟨d,hd⟩:∃d,P.underlying e=some d:=by
     unfold okT at hok;split at hok
     ·exact⟨_,by assumption⟩
     ·cases hok
    have hz:=Xa hok w;rw[hsh] at hz;have hz':(sizeOf e).run P w=.ok 1 w:=hz;have hp:=xE (w:=w) hd hsh (cs:=(cellsOf us).toArray) (o:=i.toNat*1) (v:=us[i.toNat]) (by rw[vX l us hlen h2 k1];simp);refine⟨us[i.toNat],?_,.pv _ _ _ (k1 _ _ _ hc hu) (k2 _ _ _ hc hu)⟩;rw[Nat.mul_one] at hp;simp[Instr.index,asIntOf,run_underlying ht,h0,h1,hz',hp]
   ·cases h
  ·cases h
 ·cases h

theorem vY{I:Nat->Prop}(em:Bool)(d:Nat)(xs:Array Value):∀(fs:List Field) (ds:List Nat) (o:Nat) (lx:List (Sh × PV)) (vx:List Value),
  x7 P o fs=some ds->Yu ds lx lx=some true->CP w I lx vx->xs.toList.drop o=cellsOf vx->
  (forIn fs PUnit.unit (fun(f:Field) (_:PUnit)=>(if f.name≠ "_" then(do let v <-part f.type xs f.offset;Instr.checkKey em (d+1) f.type v;pure (ForInStep.yield PUnit.unit)) else pure (ForInStep.yield PUnit.unit):Sem (ForInStep PUnit)))).run P w=.ok PUnit.unit w
 |[],ds,o,lx,vx,hk,he,hx,h1=>by simp
 |f::r,ds,o,lx,vx,hk,he,hx,h1=>by
  simp only[x7] at hk;split at hk
  ·rename_i hf;obtain⟨rfl,hf⟩:=hf;have fin:∀{dt:TypeDesc} {l:List Nat} {v:Value} {lx':List (Sh × PV)} {vs:List Value},P.underlying f.type=some dt->shOf P f.type=none->(∀n,(Instr.checkKey em (n+1) f.type v).run P w=.ok () w)->x7 P (f.offset+1) r=some l->Yu l lx' lx'=some true->CP w I lx' vs->xs.toList.drop f.offset=v::cellsOf vs->
     (forIn (f::r) PUnit.unit (fun(f:Field) (_:PUnit)=>(if f.name≠ "_" then(do let v <-part f.type xs f.offset;Instr.checkKey em (d+1) f.type v;pure (ForInStep.yield PUnit.unit)) else pure (ForInStep.yield PUnit.unit):Sem (ForInStep PUnit)))).run P w=.ok PUnit.unit w:=by
    intro dt l v lx' vs hd hn hck hl he' hx' hc;obtain⟨a1,a2⟩:=Qe hc;have p1:=xE (w:=w) hd hn (by simpa using a1);have ih:=vY em d xs r l _ lx' vs hl he' hx' a2;rw[List.forIn_cons];simp only[ne_eq,hf,not_false_eq_true,if_true,Sem.run_bind,p1,Result.andThen_ok,hck,Sem.run_pure];exact ih
   split at hk
   ·rename_i k l hd hl;cases hk;have hn:shOf P f.type=none:=by simp[shOf,hd]
    match lx,he,hx with
    |(none,.int k1 a)::lx,he,hx=>
     simp only[Yu,if_true] at he;obtain⟨u,us,rfl,_,g1,g2⟩:=hx.inv;have e1:=g1.int_inv;subst e1;exact fin hd hn (fun n=>by simp[Instr.checkKey,run_underlying hd]) hl he g2 (by simpa[Yj,Value.cells] using h1)
    |[],he,_=>simp[Yu] at he
   ·rename_i l hd hl;cases hk;have hn:shOf P f.type=none:=by simp[shOf,hd]
    match lx,he,hx with
    |(none,.str a)::lx,he,hx=>
     simp only[Yu,if_true] at he;obtain⟨u,us,rfl,_,g1,g2⟩:=hx.inv;have e1:=g1.str_inv;subst e1;exact fin hd hn (fun n=>by simp[Instr.checkKey,run_underlying hd]) hl he g2 (by simpa[Yj,Value.cells] using h1)
    |[],he,_=>simp[Yu] at he
   ·rename_i l hd hl;cases hk;have hn:shOf P f.type=none:=by simp[shOf,hd]
    match lx,he,hx with
    |(none,.bool a)::lx,he,hx=>
     simp only[Yu,if_true] at he;obtain⟨u,us,rfl,_,g1,g2⟩:=hx.inv;have e1:=g1.bool_inv;subst e1;exact fin hd hn (fun n=>by simp[Instr.checkKey,run_underlying hd]) hl he g2 (by simpa[Yj,Value.cells] using h1)
    |[],he,_=>simp[Yu] at he
   ·cases hk
  ·cases hk

theorem Qg{I:Nat->Prop}{t:TypeId}{ds:List Nat}{k k':List (Sh × PV)}{kv kv':Value}{b:Bool}(hd:yx P t=some ds)(h1:PR w I (.agg k) kv)(h2:PR w I (.agg k') kv')(h:Yu ds k k'=some b):(Op.equal t kv kv').run P w=.ok b w:=by
 cases h1 with|agg _ ux hl1 k1 k1'=>
 cases h2 with|agg _ uy hl2 k2 k2'=>
 unfold yx at hd;split at hd
 ·rename_i fs ht;split at hd
  ·rename_i hg;have hfo:P.fieldsOf t=fs:=by simp[Program.fieldsOf,ht]
   show(Op.equalIn 10000 t _ _).run P w=_;rw[run_equalIn_agg w 9999 t _ _ (by rw[hfo];exact ht) hg.1,hfo];exact Jw 9998 _ _ _ _ 0 _ _ ux uy b hd h ⟨hl1,k1,k1'⟩ ⟨hl2,k2,k2'⟩ (by simp) (by simp)
  ·cases hd
 ·cases hd
theorem Kq{I:Nat->Prop}{t:TypeId}{ds:List Nat}{k:List (Sh × PV)}{kv:Value}(em:Bool)(hd:yx P t=some ds)(h1:PR w I (.agg k) kv)(h:Yu ds k k=some true):(Instr.checkKey em 10000 t kv).run P w=.ok () w:=by
 cases h1 with|agg _ ux hl1 k1 k1'=>
 unfold yx at hd;split at hd
 ·rename_i fs ht;split at hd
  ·rename_i hg;have:=vY (P:=P) (w:=w) em 9998 (cellsOf ux).toArray fs.toList ds 0 k ux hd h ⟨hl1,k1,k1'⟩ (by simp);rw[show(10000:Nat)=9999+1 from rfl,Instr.checkKey];simp only[Sem.run_bind,run_underlying ht,Result.andThen_ok];rw[<-Array.forIn_toList,this];rfl
  ·cases hd
 ·cases hd
theorem Kr{I:Nat->Prop}{t:TypeId}{ds:List Nat}{sh:Sh}{k:List (Sh × PV)}{kv:Value}(hd:yx P t=some ds)(hk:PR w I (.agg k) kv):∀(es:List (PV × PV)) (l:List MapEntry) (r:Option PV),afindr ds k es=some r->MR w I sh es l->
  (∀e∈l,∃b,(Op.equal t kv e.key).run P w=.ok b w/\(b=true->∃p,r=some p/\PR w I p e.val/\vshp e.val=sh))/\(r≠none->∃e∈l,(Op.equal t kv e.key).run P w=.ok true w)
 |[],l,r,h,hm=>by
  cases h;have:l=[]:=zf (by have:=hm.1;simp at this;exact this.symm);subst this;exact⟨by simp,by simp⟩
 |(k',v)::es,l,r,h,hm=>by
  obtain⟨e,rest,rfl,g1,g2,g3,g4⟩:=hm.inv;unfold afindr at h;split at h
  ·rename_i heq;cases heq
  ·rename_i k1 v1 r1 heq;cases heq;split at h
   ·rename_i hq;split at h
    ·rename_i hr;cases h;obtain⟨a1,_⟩:=Kr hd hk es rest none hr g4;have ee:=Qg hd hk g1 hq;refine⟨fun x hx=> ?_,fun _=>⟨e,by simp,ee⟩⟩;rcases Zl.1 hx with rfl|hx
     ·exact⟨true,ee,fun _=>⟨v,rfl,g2,g3⟩⟩
     ·obtain⟨b,b1,b2⟩:=a1 x hx;refine⟨b,b1,fun hb=> ?_⟩;obtain⟨p,hp,_⟩:=b2 hb;cases hp
    ·cases h
   ·rename_i hq;obtain⟨a1,a2⟩:=Kr hd hk es rest r h g4;refine⟨fun x hx=> ?_,fun hr=> ?_⟩
    ·rcases Zl.1 hx with rfl|hx
     ·exact⟨false,Qg hd hk g1 hq,fun h=>by cases h⟩
     ·exact a1 x hx
    ·obtain⟨x,hx,h5⟩:=a2 hr;exact⟨x,Zy _ hx,h5⟩
   ·cases h
  ·cases h
theorem Ks{I:Nat->Prop}{t:TypeId}{sh:Sh}{kv:Value}{r:Option PV}:∀(l:List MapEntry) (i:Nat),(∀e∈l,∃b,(Op.equal t kv e.key).run P w=.ok b w/\(b=true->∃p,r=some p/\PR w I p e.val/\vshp e.val=sh))->
  ∃q,(Instr.findAsking t kv l i).run P w=.ok q w/\((q=none/\∀e∈l,(Op.equal t kv e.key).run P w=.ok false w)\/∃j v p,q=some (j,v)/\r=some p/\PR w I p v/\vshp v=sh)
 |[],i,_=>⟨none,by simp[Instr.findAsking],.inl ⟨rfl,by simp⟩⟩
 |e::l,i,h=>by
  obtain⟨b,b1,b2⟩:=h e (by simp);cases b with
  |true=>
   obtain⟨p,p1,p2,p3⟩:=b2 rfl;exact⟨some (i,e.val),by simp[Instr.findAsking,b1],.inr ⟨i,e.val,p,rfl,p1,p2,p3⟩⟩
  |false=>
   obtain⟨q,q1,q2⟩:=Ks l (i+1) fun x hx=>h x (Zy _ hx);refine⟨q,by simp[Instr.findAsking,b1,q1],?_⟩;rcases q2 with⟨q2,q3⟩|q2
   ·exact .inl ⟨q2,fun x hx=>by
     rcases Zl.1 hx with rfl|hx
     ·exact b1
     ·exact q3 x hx⟩
   ·exact .inr q2
theorem vZ{I:Nat->Prop}{t:TypeId}{ds:List Nat}{sh:Sh}{k:List (Sh × PV)}{kv:Value}{es:List (PV × PV)}{ents:Array MapEntry}{r:Option PV}(hd:yx P t=some ds)(hk:PR w I (.agg k) kv)(h:afindr ds k es=some r)(hm:MapR w I sh es ents):
  ∃q,(Instr.findKey t kv ents.toList).run P w=.ok q w/\match r with|none=>q=none|some p=>∃j v,q=some (j,v)/\PR w I p v/\vshp v=sh:=by
 obtain⟨l,h1,h2,_⟩:=hm;obtain⟨a1,a2⟩:=Kr hd hk es l r h h2;obtain⟨q,q1,q2⟩:=Ks (r:=r) (sh:=sh) (I:=I) ents.toList 0 fun e he=>a1 e (h1.mem_iff.2 he);have ht:∃fs,P.underlying t=some (.struct fs):=by
  unfold yx at hd;split at hd
  ·exact⟨_,by assumption⟩
  ·cases hd
 obtain⟨fs,ht⟩:=ht;have hrun:(Instr.findKey t kv ents.toList).run P w=.ok q w:=by
  unfold Instr.findKey;simp only[Sem.run_bind,run_underlying ht,Result.andThen_ok];cases he:ents.toList with
  |nil=>
   rw[he] at q1;simp[Instr.findAsking] at q1;subst q1;simp[Instr.findNow]
  |cons x rest=>
   rw[he] at q1;have:Instr.findNow (.struct fs) kv (x::rest) 0=none:=by
    unfold Instr.findNow;have:Instr.sameNow (.struct fs) kv x.key=none:=by
     unfold Instr.sameNow;cases kv <;> cases x.key <;> rfl
    rw[this]
   rw[this];exact q1
 refine⟨q,hrun,?_⟩;cases r with
 |none=>
  rcases q2 with⟨q2,_⟩|⟨_,_,p,_,hp,_⟩
  ·exact q2
  ·cases hp
 |some p=>
  rcases q2 with⟨_,q3⟩|⟨j,v,p',g1,g2,g3⟩
  ·obtain⟨e,he,h5⟩:=a2 (by simp);have:=q3 e (h1.mem_iff.1 he);rw[h5] at this;cases this
  ·cases g2;exact⟨j,v,g1,g3⟩

theorem bW{t tk te:TypeId}{ds:List Nat}{x k:Value}{z:AV}{ok:Bool}{vs:List AV}{v:AV}(ht:P.underlying t=some (.map tk te))(hk:yx P tk=some ds)(hz:YO P te=some z)(hH:HR w X μ hp)(hl:LR w X μ hp vs [x,k])
  (h:X5 ds (shOf P te) z ok hp vs=some v):Yr P w X μ hp (do pure (.value (<-Instr.lookup t x k ok))) v:=by
 obtain⟨zv,z1,z2,z3⟩:=xC (w:=w) (X:=X) (μ:=μ) (hp:=hp) hz;unfold X5 at h;split at h
 ·rename_i r s0 kp;obtain⟨a,b,e,h1,h2⟩:=hl.two;cases e;cases h1 with|map _ b0 sh0 es0 ho0 hb0=>
  cases h2 with|pv _ _ _ _ h2=>
  split at h
  ·rename_i sh es hr;split at h
   ·rename_i hsh;obtain⟨rfl,hkk⟩:=hsh;obtain⟨b1,ents,clock,m1,m2,m3⟩:=hH.map r _ _ hr;rw[hb0] at m1;cases m1;split at h
    ·rename_i p hf;cases h;obtain⟨q,q1,j,v,rfl,q3,q4⟩:=vZ hk h2 hf m3;have hrun:(Instr.lookup t (.map (some b0)) k ok).run P w=.ok (if ok=true then .tuple #[v,.bool true] else v) w:=by
      simp[Instr.lookup,run_underlying ht,Qf m2,Kq _ hk h2 hkk,q1]
     cases ok
     ·exact yn hrun (.pv _ _ _ q4 q3)
     ·exact yn hrun (.tuple _ [v,.bool true] rfl (fun i a u ha hu=>by
       match i,ha,hu with
       |0,ha,hu=>simp at ha hu;subst ha;subst hu;exact .pv _ _ _ q4 q3
       |1,ha,hu=>simp at ha hu;subst ha;subst hu;exact .mkBool _))
    ·rename_i hf;cases h;obtain⟨q,q1,rfl⟩:=vZ hk h2 hf m3;have hrun:(Instr.lookup t (.map (some b0)) k ok).run P w=.ok (if ok=true then .tuple #[zv,.bool false] else zv) w:=by
      simp[Instr.lookup,run_underlying ht,Qf m2,Kq _ hk h2 hkk,q1,z1]
     cases ok
     ·exact yn hrun z2
     ·exact yn hrun (.tuple _ [zv,.bool false] rfl (fun i a u ha hu=>by
       match i,ha,hu with
       |0,ha,hu=>simp at ha hu;subst ha;subst hu;exact z2
       |1,ha,hu=>simp at ha hu;subst ha;subst hu;exact .mkBool _))
    ·cases h
   ·cases h
  ·cases h
 ·cases h

theorem v6{b:Nat}{t tk te:TypeId}{s:Bool}{x k y:Value}{vs:List AV}{v:AV}{hp':Heap}(ht:P.underlying t=some (.map tk te))(hk:x8 P tk=some s)(hH:HR w X μ hp)(hl:LR w X μ hp vs [x,k,y])
  (h:Xt s (shOf P te) hp vs=some (v,hp')):Out P b w X μ hp (do Instr.mapUpdate t x k y;pure .skip) v hp':=by
 obtain⟨d,hd,hKK⟩:=vU hk;unfold Xt at h;split at h
 ·rename_i r s0 kp a;obtain⟨u1,u2,u3,e,h1,h2,h3⟩:=hl.three;cases e;split at h
  ·rename_i hs;split at h
   ·cases h
   ·rename_i p hp1 hfz;obtain⟨e1,hH1,h3p⟩:=X9 b w X μ _ _ _ _ _ _ hfz hH h3;have hy:vshp y=shOf P te:=by rw[h3.vshp (Jt hfz),hs]
    have h1':=e1.ar h1;cases h1' with|map _ b0 sh0 es0 ho0 hb0=>
    have h2':=e1.ar h2;cases h2' with|pv _ _ _ _ h2'=>
    split at h
    ·rename_i sh es hr;split at h
     ·rename_i hsh;subst hsh;split at h
      ·rename_i es' hput;cases h;obtain⟨b1,ents,clock,m1,m2,m3⟩:=hH1.map r _ _ hr;rw[hb0] at m1;cases m1;have hM:MR w (Im X μ hp1) (shOf P te) es ents.toList:=m3.scalar (bR hput);have fin:∀(ents':Array MapEntry) (clock':Nat),MR w (Im X μ hp1) (shOf P te) es' ents'.toList->(Instr.mapUpdate t (.map (some b0)) k y).run P w=.ok () { w with heap:=w.heap.setIfInBounds b0 (.map ents' clock') }->
         Out P b w X μ hp (do Instr.mapUpdate t (.map (some b0)) k y;pure .skip) .undef (hp1.set r (.map (shOf P te) es')):=by
        intro ents' clock' hM' hrun;have oth:∀k,k≠b0->(w.heap.setIfInBounds b0 (.map ents' clock'))[k]? =w.heap[k]? :=fun k hk=>by rw[zW (Ne.symm hk)]
        have E:∀b,Ext b X μ hp1 w μ (hp1.set r (.map (shOf P te) es')) { w with heap:=w.heap.setIfInBounds b0 (.map ents' clock') }:=fun b=>
         Ext.setMap hr hb0 rfl rfl rfl (by simp) oth (fun cs t fr e=>by rw[m2] at e;cases e)
        exact xD hrun (hH1.setMap hr hb0 (E 0) oth (by rw[Array.getElem?_setIfInBounds_self_of_lt (YD m2)]) hM') (e1.trans (E b))
       rcases vW hKK h2' h3p hy es ents.toList 0 es' hput hM with⟨a1,a2⟩|⟨j,f,v,a1,a2,a3,a5,a4⟩
       ·refine fin (ents.push { key:=k,val:=y,born:=clock }) (clock+1) (by simpa using a2 clock) ?_;simp[Instr.mapUpdate,run_underlying ht,Qf m2,Jy _ hd hKK,Instr.findKey,run_underlying hd,a1,Ko _ m2]
       ·rw[Zv] at a1;refine fin (ents.modify j fun e=>{ e with key:=k,val:=y }) clock (by simpa using a4) ?_;have hkeep:∀w:World,(Instr.keyThatStays k k).run P w=.ok k w:=by
         intro w;simp[Instr.keyThatStays,a5]
        have hj:ents[j]? =some f:=by simpa using a2
        simp[Instr.mapUpdate,run_underlying ht,Qf m2,Jy _ hd hKK,Instr.findKey,run_underlying hd,a1,Ko _ m2,hj,a3,hkeep]
      ·cases h
     ·cases h
    ·cases h
  ·cases h
 ·cases h

theorem LR.inv1{x:Value}{vs:List AV}(h:LR w X μ hp vs [x]):∃a,vs=[a]/\AR w X μ hp a x:=by
 cases h with|cons h r=>cases r;exact⟨_,rfl,h⟩
theorem LR.inv2{x y:Value}{vs:List AV}(h:LR w X μ hp vs [x,y]):∃a b,vs=[a,b]/\AR w X μ hp a x/\AR w X μ hp b y:=by
 cases h with|cons h r=>obtain⟨u,rfl,h2⟩:=r.inv1;exact⟨_,_,rfl,h,h2⟩
theorem LR.inv3{x y z:Value}{vs:List AV}(h:LR w X μ hp vs [x,y,z]):∃a b c,vs=[a,b,c]/\AR w X μ hp a x/\AR w X μ hp b y/\AR w X μ hp c z:=by
 cases h with|cons h r=>obtain⟨u,v,rfl,h2,h3⟩:=r.inv2;exact⟨_,_,_,rfl,h,h2,h3⟩

theorem bX{t:TypeId}{x:Value}{lo hi:Option Value}{rest:List Value}{vs:List AV}{v:AV}(ht:P.underlying t=some .string)(hr:rest=lo.toList++hi.toList)(hl:LR w X μ hp vs (x::rest))(h:VT lo.isSome hi.isSome vs=some v):
  Yr P w X μ hp (do pure (.value (<-Instr.sliceAt t x lo hi none))) v:=by
 exact absurd (show(none:Option AV)=some _ from h) (by simp)
theorem PR.bare{w:World}{I:Nat->Prop}{p:PV}{v:Value}(h:PR w I p v):PR w I p.bare v:=by
 unfold PV.bare;split
 ·rename_i n q;cases h with
  |agg _ vs hl hs hs'=>
   match vs,hl with
   |[u],_=>
    have h1:=hs 0 _ u rfl rfl;have h2:=hs' 0 _ u rfl rfl;have e:(Value.agg (cellsOf [u]).toArray)=u:=by
     cases u <;> simp[vshp] at h1
     simp[cellsOf,Value.cells]
    rw[e];exact h2
 ·exact h
theorem bY{t xt:TypeId}{d:TypeDesc}{z:AV}{ok:Bool}{x:Value}{vs:List AV}{v:AV}(ht:P.underlying t=some d)(hd:∀ms,d≠.interface ms)(hz:YO P t=some z)(hl:LR w X μ hp vs [x])
  (h:Xm t (shOf P t) z ok vs=some v):Yr P w X μ hp (do pure (.value (<-Instr.typeAssert x xt t ok))) v:=by
 obtain⟨zv,z1,z2,z3⟩:=xC (w:=w) (X:=X) (μ:=μ) (hp:=hp) hz;have pair:∀{a:AV} {u:Value} (b:Bool),AR w X μ hp a u->AR w X μ hp (.tuple [a,.pv none (.bool b)]) (.tuple #[u,.bool b]):=fun{a u} b ha=>
  .tuple _ [u,.bool b] rfl (fun i c q hc hq=>by
   match i,hc,hq with
   |0,hc,hq=>simp at hc hq;subst hc;subst hq;exact ha
   |1,hc,hq=>simp at hc hq;subst hc;subst hq;exact .mkBool _)
 unfold Xm at h;split at h
 ·rename_i s0 u s p;obtain⟨y,e,h1⟩:=hl.one;cases e;cases h1 with|pv _ _ _ hs h1=>
  cases h1 with|iface _ _ _ vv hs1 h2=>
  split at h
  ·rename_i hu;obtain⟨rfl,rfl⟩:=hu;cases h;have hrun:(Instr.typeAssert (.iface u vv) xt u ok).run P w=.ok (if ok=true then .tuple #[vv,.bool true] else vv) w:=by
    cases d <;> first|(exact absurd rfl (hd _))|(simp[Instr.typeAssert,run_underlying ht])
   cases ok
   ·exact yn hrun (.pv _ _ _ hs1 h2.bare)
   ·exact yn hrun (pair true (.pv _ _ _ hs1 h2.bare))
  ·split at h
   ·cases h
   ·rename_i hne;cases ok
    ·cases h
    ·cases h;have hrun:(Instr.typeAssert (.iface u vv) xt t true).run P w=.ok (.tuple #[zv,.bool false]) w:=by
      cases d <;> first|(exact absurd rfl (hd _))|(simp[Instr.typeAssert,run_underlying ht,hne,z1])
     exact yn hrun (pair false z2)
 ·obtain⟨y,e,h1⟩:=hl.one;cases e;cases h1 with|pv _ _ _ hs h1=>
  cases h1;cases ok
  ·cases h
  ·cases h;have hrun:(Instr.typeAssert .nilIface xt t true).run P w=.ok (.tuple #[zv,.bool false]) w:=by
    cases d <;> first|(exact absurd rfl (hd _))|(simp[Instr.typeAssert,run_underlying ht,z1])
   exact yn hrun (pair false z2)
 ·cases h

theorem Kt(zc:Array Value):∀n:Nat,(madeCells zc (n*zc.size)).toList=(List.replicate n zc.toList).flatten
 |0=>by simp[madeCells]
 |n+1=>by
  rw[List.replicate_succ',List.flatten_append,<-Kt zc n];apply zA;intro i;have hs:(madeCells zc (n*zc.size)).toList.length=n*zc.size:=by simp[madeCells]
  have e:(n+1)*zc.size=n*zc.size+zc.size:=Nat.succ_mul _ _;by_cases h:i<n*zc.size
  ·rw[ZI (by omega)];simp[madeCells,h,show i<(n+1)*zc.size by omega]
  ·rw[ZZ (by omega),hs];by_cases h2:i<(n+1)*zc.size
   ·have hm:i % zc.size=i - n*zc.size:=by
     have:i=(i - n*zc.size)+n*zc.size:=by omega
     conv=>lhs;rw[this]
     rw[Nat.add_mul_mod_self_right,Nat.mod_eq_of_lt (by omega)]
    have hlt:i - n*zc.size<zc.size:=by omega
    simp[madeCells,h2,hm,hlt,getElem!_pos]
   ·have hge:¬i - n*zc.size<zc.size:=by omega
    simp[madeCells,h2];omega

theorem v7(z:Value)(n:Nat):cellsOf (List.replicate n z)=(List.replicate n z.cells.toList).flatten:=by
 induction n with
 |zero=>rfl
 |succ n ih=>rw[List.replicate_succ,Yj,ih,List.replicate_succ,List.flatten_cons]

theorem v8{z:Value}{n c:Nat}(h:n<=c):(madeCells z.cells (c*z.cells.size)).toList.take (n*z.cells.size)=cellsOf (List.replicate n z):=by
 rw[Kt,v7];have e:c=n+(c - n):=by omega
 rw[e,<-List.replicate_append_replicate,List.flatten_append,Z2];simp[List.length_flatten]

theorem b8{b:Nat}{t e:TypeId}{z:PV}{x y:Value}{vs:List AV}{v:AV}{hp':Heap}(ht:P.underlying t=some (.slice e))(hok:okT P e=true)(hzo:YJ P e=true)(hby:Y7 P e=true)(hz:(YO P e).bind pvOf=some z)
  (hH:HR w X μ hp)(hl:LR w X μ hp vs [x,y])(h:xu (shOf P e) z hp vs=some (v,hp')):Out P b w X μ hp (do pure (.value (<-Instr.makeSlice t x y))) v hp':=by
 unfold xu at h;split at h
 ·rename_i s1 k1 n s2 k2 c;obtain⟨u1,u2,eq,h1,h2⟩:=hl.two;cases eq;split at h
  ·rename_i hb;obtain⟨hb0,hb1,hb2,hb3⟩:=hb;cases h;rw[h1.int_inv,h2.int_inv];cases hza:YO P e with
   |none=>rw[hza] at hz;cases hz
   |some za=>
   rw[hza] at hz;obtain⟨i,zv,hi,hiz,hsz,hzs⟩:=okE w hok hzo;obtain⟨zv',z1,z2,z3⟩:=xC (w:=w) (X:=X) (μ:=μ) (hp:=hp) hza;have hzz:zv'=zv:=by
    simp only[zeroValue,typeInfo] at z1;simp[hi,hiz] at z1;exact z1.symm
   subst hzz;have hzpr:PR w (Im X μ hp) z zv':=Kh w X μ hp _ _ _ _ hz z2;have hzsh:vshp zv'=shOf P e:=by
    have:=z2.vshp z3;unfold YJ at hzo;rw[hza] at hzo;rw[this];simpa using hzo
   unfold Y7 at hby
   rw[hi] at hby
   have hby':i.bytes<=1024:=by simpa using hby
   have hrun:=run_make (P:=P) w t e i zv' ht hi hiz k1 k2 n c hb0 hb1 (by
    unfold lim at hb2;have:(i.bytes:Int)*c<=1024*1073741824:=Int.mul_le_mul (by omega) (by omega) (by omega) (by omega);omega) (by unfold lim at hb2;omega)
   rw[hsz,<-hzs] at hrun;generalize hcells:madeCells zv'.cells (c.toNat*zv'.cells.size)=cells at hrun;have hcsz:cells.size=c.toNat*(shOf P e).size:=by rw[<-hcells,size_madeCells,hzs]
   have E:∀b,Ext b X μ hp w (upd μ hp.length (some w.heap.size)) (hp++[.arr (shOf P e) (List.replicate n.toNat z) false]) (w.alloc (.cells cells e)):=fun b=>Ext.push _ _ (Ext.alloc b _) (fun k hk=>by cases hk;exact Zc _);refine⟨.value (.slice (some ⟨w.heap.size,0,none⟩) n.toNat c.toNat),_,_,upd μ hp.length (some w.heap.size),by simp only[Sem.run_bind,hrun,Result.andThen_ok,Sem.run_pure],.inl rfl,?_,?_,E b⟩
   ·refine .sl _ _ _ _ _ _ _ (List.replicate n.toNat z) false y8 (by simp) ⟨by omega,by omega⟩ (fun _=>rfl) fun _=>⟨by simp,.inr ⟨w.heap.size,cells,e,Yg _ _ _,YW w _,by rw[hcsz,Zv],fun _=>by simp⟩⟩
   ·refine hH.push _ _ (Ext.alloc 0 _) (fun i k hi hk=>Y2 w _ (hH.out i k hi hk).2) (fun k hk=>by cases hk;exact⟨Zc _,by simp⟩) (fun _ _ h=>by cases h) (fun s es fz h=> ?_) (fun _ _ h=>by cases h);cases h;refine⟨hb3,.inr ⟨w.heap.size,cells,e,List.replicate n.toNat zv',rfl,YW w _,by simp,fun k p u hp hu=> ?_,?_⟩⟩
    ·rw[List.getElem?_replicate] at hp hu;split at hp
     ·rename_i hk;rw[Zd hk] at hu;cases hp;cases hu;exact⟨hzsh,(E 0).pr hzpr⟩
     ·cases hp
    ·rw[List.length_replicate,<-hcells,<-hzs,v8 (by omega)]
  ·cases h
 ·cases h
end Go.Am

/- Slices written out; clear; what a row of stores does. -/
namespace Go.Am
variable{P:Program} {w:World} {X:Xc P} {μ:Nat->Option Nat} {hp:Heap}

theorem Ua{r b:Nat}{sh:Sh}{es es':List PV}{cs cs':Array Value}{t:TypeId}{vals':List Value}(hH:HR w X μ hp)(hr:hp[r]? =some (.arr sh es false))(hb:μ r=some b)(hw:w.heap[b]? =some (.cells cs t (0,0)))(hsz:cs'.size=cs.size)
  (hlen:es'.length=es.length)(hE:ER w (Im X μ hp) sh es' vals')(hc:cellsOf vals'=cs'.toList.take (es'.length*sh.size)):
  HR (w.setRow b cs') X μ (hp.set r (.arr sh es' false))/\∀b0,Ext b0 X μ hp w μ (hp.set r (.arr sh es' false)) (w.setRow b cs'):=by
 have E:∀b0,Ext b0 X μ hp w (upd μ r (μ r)) (hp.set r (.arr sh es' false)) (w.setRow b cs'):=fun b0=>
  Ext.setArr hr (by omega) (fun h=>by cases h) (fun _=>rfl) (fun k hk=>.inl hk) rfl rfl rfl (by simp[World.setRow]) (fun k hk hm=>setRow_other w b k _ (fun e=>hm rfl (by rw[e];exact hb))) (fun k cs0 t'' fr hk=>by
   by_cases e:k=b
   ·subst e;rw[hw] at hk;cases hk;exact⟨_,setRow_heap w k _ _ t _ hw,hsz⟩
   ·exact⟨cs0,by rw[setRow_other w b k _ e];exact hk,rfl⟩)
 have H:HR (w.setRow b cs') X (upd μ r (μ r)) (hp.set r (.arr sh es' false)):=
  hH.setArr hr (E 0) (fun k hk hne=>setRow_other w b k _ (fun e=>hne (by rw[e];exact hb))) (fun k hk=>⟨.inl hk,by rw[hb] at hk;cases hk;simpa[World.setRow] using YD hw⟩) (.inr ⟨b,_,t,vals',hb,setRow_heap w b _ _ t _ hw,hE.1,fun k q v hq hv=>⟨(hE.2 k q v hq hv).1,(E 0).pr (hE.2 k q v hq hv).2⟩,hc⟩)
 rw[Xx] at H;refine⟨H,fun b0=> ?_⟩;have:=E b0;rw[Xx] at this;exact this

theorem b9{b n:Nat}{t e:TypeId}{parts:Array (Nat × Operand)}{ρ:Operand->Value}{vs:List AV}{v:AV}{hp':Heap}(ht:P.underlying t=some (.slice e))(hok:okT P e=true)(hz:YJ P e=true)(hr:parts.toList.map (·.1)=List.range n)(hn:n*P.cellsOf e<=65536)
  (hH:HR w X μ hp)(hl:LR w X μ hp vs ((parts.toList.map (·.2)).map ρ))(h:yK (shOf P e) hp vs=some (v,hp')):Out P b w X μ hp (do pure (.value (<-Instr.buildSlice t n (parts.map fun(x:Nat × Operand)=>(x.1,ρ x.2))))) v hp':=by
 unfold yK at h;split at h
 ·rename_i ps hp1 hf;split at h
  ·rename_i es hs;cases h;obtain⟨e1,h1,h2⟩:=qi b _ _ _ _ _ hf hH hl;have hE:=Jv hs h2;obtain⟨r1,r2⟩:=Kj ht hok hz hr hn hE;obtain⟨o1,o2,o3⟩:=vQ (b:=b) (t:=e) h1 hE r2;exact⟨_,_,_,μ,by simp only[Sem.run_bind,r1,Result.andThen_ok,Sem.run_pure],.inl rfl,o1,o2,e1.trans o3⟩
  ·cases h
 ·cases h

theorem Da{b n:Nat}{t e:TypeId}{parts:Array (Nat × Operand)}{ρ:Operand->Value}{vs:List AV}{v:AV}{hp':Heap}(ht:P.underlying t=some (.slice e))(hok:okT P e=true)(hz:YJ P e=true)(hr:parts.toList.map (·.1)=List.range n)(hn:n*P.cellsOf e<=65536)
  (hH:HR w X μ hp)(hl:LR w X μ hp vs ((parts.toList.map (·.2)).map ρ))(h:xY (shOf P e) hp vs=some (v,hp')):Out P b w X μ hp (do pure (.value (<-Instr.buildSlice t n (parts.map fun(x:Nat × Operand)=>(x.1,ρ x.2))))) v hp':=by
 unfold xY at h;split at h
 ·rename_i ps hp1 hf;split at h
  ·rename_i es hs;split at h
   ·rename_i hpos;cases h;obtain⟨e1,h1,h2⟩:=qi b _ _ _ _ _ hf hH hl;have hE:=Jv hs h2;obtain⟨r1,r2⟩:=Kj ht hok hz hr hn hE;generalize hvals:(parts.toList.map (·.2)).map ρ=vals at hE r1;have E:∀b,Ext b X μ hp1 w (upd μ hp1.length (some w.heap.size)) (hp1++[.arr (shOf P e) es false]) (w.alloc (.cells (cellsOf vals).toArray e)):=fun b=>Ext.push _ _ (Ext.alloc b _) (fun k hk=>by cases hk;exact Zc _);have hcl:(cellsOf vals).length=es.length*(shOf P e).size:=hE.length;refine⟨.value (.slice (some ⟨w.heap.size,0,none⟩) n n),_,_,upd μ hp1.length (some w.heap.size),by simp only[Sem.run_bind,r1,Result.andThen_ok,Sem.run_pure],.inl rfl,?_,?_,e1.trans (E b)⟩
    ·rw[<-r2];refine .sl _ _ _ _ _ _ _ es false y8 (Zc _) ⟨Zc _,by omega⟩ (fun _=>rfl) fun _=>⟨by simp,.inr ⟨w.heap.size,(cellsOf vals).toArray,e,Yg _ _ _,YW w _,by simp[hcl],fun _=>by simp⟩⟩
    ·refine h1.push _ _ (Ext.alloc 0 _) (fun i k hi hk=>Y2 w _ (h1.out i k hi hk).2) (fun k hk=>by cases hk;exact⟨Zc _,by simp⟩) (fun _ _ h=>by cases h) (fun s es' fz h=> ?_) (fun _ _ h=>by cases h);cases h;exact⟨hpos,.inr ⟨w.heap.size,(cellsOf vals).toArray,e,vals,rfl,YW w _,hE.1,fun k p u hp hu=>⟨(hE.2 k p u hp hu).1,(E 0).pr (hE.2 k p u hp hu).2⟩,by rw[Zu (by simp[hcl])]⟩⟩
   ·cases h
  ·cases h
 ·cases h

theorem Ub{b n:Nat}{t e:TypeId}{parts:Array (Nat × Operand)}{ρ:Operand->Value}{vs:List AV}{v:AV}(ht:P.underlying t=some (.slice e))(hok:okT P e=true)(hz:YJ P e=true)(hr:parts.toList.map (·.1)=List.range n)(hn:n*P.cellsOf e<=65536)
  (hH:HR w X μ hp)(hl:LR w X μ hp vs ((parts.toList.map (·.2)).map ρ))(h:xm (shOf P e) vs=some v):Out P b w X μ hp (do pure (.value (<-Instr.buildSlice t n (parts.map fun(x:Nat × Operand)=>(x.1,ρ x.2))))) v hp:=by
 unfold xm at h;split at h
 ·rename_i ps hf;split at h
  ·rename_i es hs;cases h;have hE:=Jv hs (Ju _ _ _ hf hl);obtain⟨r1,r2⟩:=Kj ht hok hz hr hn hE;obtain⟨o1,o2,o3⟩:=vQ (b:=b) (t:=e) hH hE r2;exact⟨_,_,_,μ,by simp only[Sem.run_bind,r1,Result.andThen_ok,Sem.run_pure],.inl rfl,o1,o2,o3⟩
  ·cases h
 ·cases h

theorem Uc(z:Value)(n:Nat):(Builtin.zeroCells z.cells n).toList=cellsOf (List.replicate n z):=by
 rw[v7];exact Kt z.cells n

end Go.Am

/- One operation that calls nothing. -/
namespace Go.Am
variable{P:Program} {w:World} {X:Xc P} {μ:Nat->Option Nat} {hp:Heap}

theorem Db{sh:Sh}{s v:AV}{lo:Int}{hi:Option Int}{x:Value}(h:aslice sh lo hi s=some v)(hs:AR w X μ hp s x):∃a len cap,x=.slice a len cap:=by
 unfold aslice at h;split at h
 ·cases hs with|pv _ _ _ _ hq=>cases hq <;> exact⟨_,_,_,rfl⟩
 ·cases hs;exact⟨_,_,_,rfl⟩
 ·cases hs;exact⟨_,_,_,rfl⟩
 ·cases hs;exact⟨_,_,_,rfl⟩
 ·cases h

theorem Jz{t e:TypeId}(ht:P.underlying t=some (.slice e))(hok:okT P e=true){s v:AV}{x:Value}{lo hi:Option Value}{l:Int}{h:Option Int}(hx:AR w X μ hp s x)(hlo:lo=none/\l=0\/∃k,lo=some (.int k l))(hhi:hi=none/\h=none\/∃k n,hi=some (.int k n)/\h=some n)
  (hs:aslice (shOf P e) l h s=some v):Yr P w X μ hp (do pure (.value (<-Instr.sliceAt t x lo hi none))) v:=by
 obtain⟨a,len,cap,rfl⟩:=Db hs hx;obtain⟨h1,h2,h3,h4,h5⟩:=bg hs hx;have:=bf (P:=P) (w:=w) ht hok a len cap lo hi l.toNat ((h.map Int.toNat).getD len) (by
  rcases hlo with⟨rfl,rfl⟩|⟨k,rfl⟩
  ·exact .inl ⟨rfl,rfl⟩
  ·exact .inr ⟨k,by rw[Int.toNat_of_nonneg h1]⟩) (by
  rcases hhi with⟨rfl,rfl⟩|⟨k,n,rfl,rfl⟩
  ·exact .inl ⟨rfl,rfl⟩
  ·exact .inr ⟨k,by simp[Int.toNat_of_nonneg (h2 n rfl)]⟩) h3 h4
 exact yn this h5

theorem Dc{sh:Sh}{a b v:AV}(h:xn sh true false [a,b]=some v):∃s k l,b=.pv s (.int k l)/\aslice sh l none a=some v:=by
 unfold xn at h;split at h <;> simp_all
 exact⟨_,_,_,⟨rfl,rfl,rfl⟩,h⟩
theorem Dd{sh:Sh}{a b v:AV}(h:xn sh false true [a,b]=some v):∃s k l,b=.pv s (.int k l)/\aslice sh 0 (some l) a=some v:=by
 unfold xn at h;split at h <;> simp_all
 exact⟨_,_,_,⟨rfl,rfl,rfl⟩,h⟩
theorem De{sh:Sh}{a b c v:AV}(h:xn sh true true [a,b,c]=some v):∃s k l s' k' m,b=.pv s (.int k l)/\c=.pv s' (.int k' m)/\aslice sh l (some m) a=some v:=by
 unfold xn at h;split at h <;> simp_all
 exact⟨_,_,_,⟨rfl,rfl,rfl⟩,_,_,_,⟨rfl,rfl,rfl⟩,h⟩

theorem Df{t e:TypeId}{x:Value}{lo hi:Option Value}{vs:List AV}{v:AV}(ht:P.underlying t=some (.slice e))(hok:okT P e=true)(hl:LR w X μ hp vs (x::(lo.toList++hi.toList)))(h:xn (shOf P e) lo.isSome hi.isSome vs=some v):
  Yr P w X μ hp (do pure (.value (<-Instr.sliceAt t x lo hi none))) v:=by
 cases lo with
 |none=>cases hi with
  |none=>
   obtain⟨a,rfl,h1⟩:=hl.inv1;exact Jz ht hok h1 (.inl ⟨rfl,rfl⟩) (.inl ⟨rfl,rfl⟩) h
  |some y=>
   obtain⟨a,b,rfl,h1,h2⟩:=hl.inv2;obtain⟨s,k,l,rfl,h⟩:=Dd h;rw[h2.int_inv];exact Jz ht hok h1 (.inl ⟨rfl,rfl⟩) (.inr ⟨k,l,rfl,rfl⟩) h
 |some z=>cases hi with
  |none=>
   obtain⟨a,b,rfl,h1,h2⟩:=hl.inv2;obtain⟨s,k,l,rfl,h⟩:=Dc h;rw[h2.int_inv];exact Jz ht hok h1 (.inr ⟨k,rfl⟩) (.inl ⟨rfl,rfl⟩) h
  |some y=>
   obtain⟨a,b,c,rfl,h1,h2,h3⟩:=hl.inv3;obtain⟨s,k,l,s',k',m,rfl,rfl,h⟩:=De h;rw[h2.int_inv,h3.int_inv];exact Jz ht hok h1 (.inr ⟨k,rfl⟩) (.inr ⟨k',m,rfl,rfl⟩) h
end Go.Am

/- More operations: checks of pointers and interfaces, slices cut to their length, stores beside reads. -/
namespace Go.Am
variable{P:Program} {w:World} {X:Xc P} {μ:Nat->Option Nat} {hp:Heap}

theorem Dg{x:Value}{vs:List AV}{v:AV}(hl:LR w X μ hp vs [x])(h:xX vs=some v):(∃a,x=.pointer (some a))/\AR w X μ hp v x:=by
 unfold xX at h;split at h
 ·cases h;obtain⟨_,e,h1⟩:=hl.one;cases e;refine⟨?_,h1⟩;cases h1;exact⟨_,rfl⟩
 ·cases h;obtain⟨_,e,h1⟩:=hl.one;cases e;refine⟨?_,h1⟩;cases h1;exact⟨_,rfl⟩
 ·cases h;obtain⟨_,e,h1⟩:=hl.one;cases e;refine⟨?_,h1⟩;cases h1;exact⟨_,rfl⟩
 ·cases h;obtain⟨_,e,h1⟩:=hl.one;cases e;refine⟨?_,h1⟩;cases h1;exact⟨_,rfl⟩
 ·cases h

theorem Dh{t:TypeId}(h:qd P t=true):∃ms,P.underlying t=some (.interface ms):=by
 unfold qd at h;split at h
 ·exact⟨_,‹_›⟩
 ·cases h
theorem Di(t:TypeId){ms:Array (String × TypeId)}(ht:P.underlying t=some (.interface ms))(d:Nat):(Op.equalIn (d+1) t .nilIface .nilIface).run P w=.ok true w:=by simp[Op.equalIn,run_underlying ht]
theorem Dj(t:TypeId){ms:Array (String × TypeId)}(ht:P.underlying t=some (.interface ms))(u:TypeId)(a:Value)(d:Nat):(Op.equalIn (d+1) t (.iface u a) .nilIface).run P w=.ok false w:=by simp[Op.equalIn,run_underlying ht]
theorem Ud{op:BinOp}{t:TypeId}{x:Operand}{vx:Value}{b:Bool}(hop:x9 op=true)(ht:qd P t=true)(hv:(vx=.nilIface/\b=true)\/((∃u a,vx=.iface u a)/\b=false)):
  ((do eqGuard op t x (.const .nilIface) vx .nilIface;binOp op t vx .nilIface):Sem Value).run P w=.ok (.bool (if yF op=true then !b else b)) w:=by
 obtain⟨ms,hms⟩:=Dh ht;have e1:(Op.equal t .nilIface .nilIface).run P w=.ok true w:=Di t hms 9999;have e2:∀u a,(Op.equal t (.iface u a) .nilIface).run P w=.ok false w:=fun u a=>Dj t hms u a 9999;rcases hv with⟨rfl,rfl⟩|⟨⟨u,a,rfl⟩,rfl⟩
 ·cases op <;> first|(cases hop;done)|skip
  ·simp[eqGuard,binOp,yF,e1]
  ·simp[eqGuard,binOp,yF,e1]
 ·cases op <;> first|(cases hop;done)|skip
  ·simp[eqGuard,binOp,yF,e2]
  ·simp[eqGuard,binOp,yF,e2]
theorem Dk{op:BinOp}{t:TypeId}{x:Operand}{vx:Value}{vs:List AV}{v:AV}(hop:x9 op=true)(ht:qd P t=true)(hl:LR w X μ hp vs [vx])(h:xo (yF op) vs=some v):
  Yr P w X μ hp (do pure (.value (<-(do eqGuard op t x (.const .nilIface) vx .nilIface;binOp op t vx .nilIface)))) v:=by
 unfold xo at h;split at h
 ·rename_i s0 tt s1 p0;cases h;obtain⟨_,e,h1⟩:=hl.one;cases e;cases h1 with|pv _ _ _ _ hq=>
  cases hq with|iface _ _ _ u _ _=>
  have:=Ud (P:=P) (w:=w) (x:=x) (vx:=.iface tt u) (b:=false) hop ht (.inr ⟨⟨_,_,rfl⟩,rfl⟩);refine⟨_,by rw[Sem.run_bind,this,Result.andThen_ok,Sem.run_pure],?_⟩;cases hn:yF op <;> simp <;> exact .mkBool _
 ·cases h;obtain⟨_,e,h1⟩:=hl.one;cases e;cases h1 with|pv _ _ _ _ hq=>
  cases hq;have:=Ud (P:=P) (w:=w) (x:=x) (b:=true) hop ht (.inl ⟨rfl,rfl⟩);refine⟨_,by rw[Sem.run_bind,this,Result.andThen_ok,Sem.run_pure],?_⟩;cases hn:yF op <;> simp <;> exact .mkBool _
 ·cases h

theorem Dl(t:TypeId){e:TypeId}(ht:P.underlying t=some (.slice e))(a:Addr)(n k d:Nat):(Op.equalIn (d+1) t (.slice (some a) n k) (.slice none 0 0)).run P w=.ok false w:=by simp[Op.equalIn,run_underlying ht]
theorem Dm{op:BinOp}{t e:TypeId}{x:Operand}{a:Addr}{n k:Nat}(hop:x9 op=true)(ht:P.underlying t=some (.slice e)):
  ((do eqGuard op t x (.const (.slice none 0 0)) (.slice (some a) n k) (.slice none 0 0);binOp op t (.slice (some a) n k) (.slice none 0 0)):Sem Value).run P w=.ok (.bool (yF op)) w:=by
 have e1:(Op.equal t (.slice (some a) n k) (.slice none 0 0)).run P w=.ok false w:=Dl t ht a n k 9999;cases op <;> first|(cases hop;done)|skip
 ·simp[eqGuard,binOp,yF,e1]
 ·simp[eqGuard,binOp,yF,e1]
theorem Dn{op:BinOp}{t e:TypeId}{x:Operand}{vx:Value}{vs:List AV}{v:AV}(hop:x9 op=true)(ht:P.underlying t=some (.slice e))(hl:LR w X μ hp vs [vx])(h:jN (yF op) vs=some v):
  Yr P w X μ hp (do pure (.value (<-(do eqGuard op t x (.const (.slice none 0 0)) vx (.slice none 0 0);binOp op t vx (.slice none 0 0))))) v:=by
 have key:(∃a n k,vx=.slice (some a) n k)->v=.pv none (.bool (yF op))->Yr P w X μ hp (do pure (.value (<-(do eqGuard op t x (.const (.slice none 0 0)) vx (.slice none 0 0);binOp op t vx (.slice none 0 0))))) v:=by
  rintro⟨a,n,k,rfl⟩ rfl;refine⟨_,by rw[Sem.run_bind,Dm (x:=x) hop ht,Result.andThen_ok,Sem.run_pure],.mkBool _⟩
 unfold jN at h;split at h
 ·obtain⟨_,e,h1⟩:=hl.one;cases e;cases h1 with|pv _ _ _ _ hq=>
  cases hq;cases h;exact key ⟨_,_,_,rfl⟩ rfl
 ·obtain⟨_,e,h1⟩:=hl.one;cases e;cases h1 with|tsl _ _ a hq=>
  cases hq;cases h;exact key ⟨_,_,_,rfl⟩ rfl
 ·obtain⟨_,e,h1⟩:=hl.one;cases e;cases h1 with|sl _ _ _ _ _ a cap es fz ho hv hlc ha hc=>
  have:a.isSome=true:=ha (by omega);obtain⟨a',rfl⟩:=Option.isSome_iff_exists.1 this;cases h;exact key ⟨_,_,_,rfl⟩ rfl
 ·cases h

theorem Ue{t e:TypeId}(ht:P.underlying t=some (.slice e))(hok:okT P e=true)(a:Option Addr)(len cap:Nat)(lo:Option Value)(k k':IntKind)(l h:Nat)(hlo:lo=none/\l=0\/∃k,lo=some (.int k l))(h1:l<=h)(h2:h<=cap):
  (Instr.sliceAt t (.slice a len cap) lo (some (.int k h)) (some (.int k' h))).run P w=.ok (.slice (if h=l then a else a.map (·.add (l*(shOf P e).size))) (h - l) (h - l)) w:=by
 have hs:=Xa hok w;rcases hlo with⟨rfl,rfl⟩|⟨k,rfl⟩ <;>
  simp[Instr.sliceAt,Instr.slice,run_underlying ht,Instr.sliceBounds,Instr.sliceBound,asIntOf, *]
theorem Uf{e:TypeId}{a:Option Addr}{cap len:Nat}{es:List PV}{sh:Sh}{l h:Nat}(hq:PR w (Im X μ hp) (.sl sh es) (.slice a len cap))(hsh:sh=shOf P e\/es=[])(h1:l<=h)(h2:h<=es.length):
  h<=cap/\AR w X μ hp (.tsl sh ((es.drop l).take (h - l))) (.slice (if h=l then a else a.map (·.add (l*(shOf P e).size))) (h - l) (h - l)):=by
 have hle:((es.drop l).take (h - l)).length=h - l:=by simp;omega
 cases hq with
 |nilsl=>
  have e1:h=0:=by simpa using h2
  subst e1;have e2:l=0:=by omega
  subst e2;exact⟨by omega,.tsl _ _ _ (by simpa using .nilsl _ _ _)⟩
 |sl sh es b o n cs t fr vals hl hI hb hs hs' hc hn=>
  refine⟨by omega,?_⟩;by_cases e0:h=l
  ·subst e0;simp only[zy,zo,if_true];exact .tsl _ _ _ (.nilsl _ _ _)
  ·have hne:es≠[]:=by rintro rfl;simp at h2;omega
   have hsh':sh=shOf P e:=by rcases hsh with h|h;exact h;exact absurd h hne
   rw[Za e0];simp only[Option.map,Addr.add_lit];rw[<-hsh'];have hpp:∀(i:Nat) (p:PV) (v:Value),((es.drop l).take (h - l))[i]? =some p->((vals.drop l).take (h - l))[i]? =some v->vshp v=sh/\PR w (Im X μ hp) p v:=by
    intro i p v hi hv;have hil:i<h - l:=by have:=(Zb.1 hi).1;omega
    rw[zx hil,ZR] at hi hv;exact⟨hs (l+i) p v hi hv,hs' (l+i) p v hi hv⟩
   have key:=PR.sl (w:=w) (I:=Im X μ hp) sh ((es.drop l).take (h - l)) b (o+l*sh.size) (h - l) cs t fr ((vals.drop l).take (h - l)) (by simp;omega) hI hb (fun i p v hi hv=>(hpp i p v hi hv).1) (fun i p v hi hv=>(hpp i p v hi hv).2) ?_ (by omega)
   ·have:=AR.tsl sh ((es.drop l).take (h - l)) (some ⟨b,o+l*sh.size,none⟩) (X:=X) (μ:=μ) (hp:=hp) (w:=w) (by rw[hle] at key ⊢;exact key);rw[hle] at this;exact this
   ·rw[Qd hl hs l (h - l) (by omega),hc,hle,ZH,ZQ,Zz]
    congr 1
    have:(h - l)*sh.size+l*sh.size<=es.length*sh.size:=by rw[<-Zq];exact ZY _ (by omega)
    omega
theorem Do{t e:TypeId}{x m h0:Value}{lo:Option Value}{vs:List AV}{v:AV}(ht:P.underlying t=some (.slice e))(hok:okT P e=true)(hl:LR w X μ hp vs (x::(lo.toList++[h0,m])))(h:Qx (shOf P e) lo.isSome vs=some v):
  Yr P w X μ hp (do pure (.value (<-Instr.sliceAt t x lo (some h0) (some m)))) v:=by
 cases lo with
 |none=>
  simp only[Option.toList,ZP] at hl;change Qx (shOf P e) false vs=some v at h;unfold Qx at h;split at h
  ·rename_i s0 sh es s1 k1 n1 s2 k2 n2 _;split at h
   ·rename_i hh;cases h;obtain⟨c1,c2,c3,c4⟩:=hh;obtain⟨_,_,_,e0,h1,h2,h3⟩:=hl.three;cases e0;cases h1 with|pv _ _ _ _ hq=>
    cases h2.int_inv;cases h3.int_inv;subst c3;obtain⟨n,rfl⟩:=zX c2;obtain⟨a,len,cap,rfl⟩:∃a len cap,x=.slice a len cap:=by cases hq <;> exact⟨_,_,_,rfl⟩
    obtain⟨g1,g2⟩:=Uf (e:=e) (l:=0) (h:=n) hq c1 (Ze _) (by omega);have:=Ue (w:=w) ht hok a len cap none k1 k2 0 n (.inl ⟨rfl,rfl⟩) (Ze _) g1;exact yn this (by simpa using g2)
   ·cases h
  all_goals (first|(cases h;done)|simp_all)
 |some l0=>
  simp only[Option.toList,ZJ,ZP] at hl;change Qx (shOf P e) true vs=some v at h;unfold Qx at h;have chk:∀(a:Option Addr) (len cap:Nat) (k1 k2 k3:IntKind) (n1 n2 n3:Int),x=.slice a len cap->len<=cap->l0=.int k1 n1->h0=.int k2 n2->m=.int k3 n3->(0<=n1/\n1<=n2/\n2<=n3/\n3<=len)->some AV.undef=some v->Yr P w X μ hp (do pure (.value (<-Instr.sliceAt t x (some l0) (some h0) (some m)))) v:=by
   rintro a len cap k1 k2 k3 n1 n2 n3 rfl hlc rfl rfl rfl ⟨g1,g2,g3,g4⟩ hv;cases hv;obtain⟨l,rfl⟩:=zX g1;obtain⟨n,rfl⟩:=zX (by omega:0<=n2);obtain⟨q,rfl⟩:=zX (by omega:0<=n3);have hs:=Xa hok w;have b1:l<=n:=by omega
   have b2:n<=q:=by omega
   have b3:q<=cap:=by omega
   have hrun:(Instr.sliceAt t (.slice a len cap) (some (.int k1 l)) (some (.int k2 n)) (some (.int k3 q))).run P w=.ok (.slice (if q=l then a else a.map (·.add (l*(shOf P e).size))) (n - l) (q - l)) w:=by
    simp[Instr.sliceAt,Instr.slice,run_underlying ht,Instr.sliceBounds,Instr.sliceBound,asIntOf, *]
   exact yn hrun (.undef _ (fun b h=>by cases h))
  split at h
  ·simp_all
  ·split at h
   ·rename_i hh;cases hl with|cons h1 hl=>
    obtain⟨_,_,_,e0,h2,h3,h4⟩:=hl.three;cases e0;cases h1 with|sl _ _ _ _ _ a cap es fz ho hv hlc ha hc=>
    exact chk _ _ _ _ _ _ _ _ _ rfl hlc.1 h2.int_inv h3.int_inv h4.int_inv hh h
   ·cases h
  ·split at h
   ·rename_i hh;cases hl with|cons h1 hl=>
    obtain⟨_,_,_,e0,h2,h3,h4⟩:=hl.three;cases e0;cases h1 with|slv _ _ _ _ _ a cap n ho hv hlc ha hc=>
    exact chk _ _ _ _ _ _ _ _ _ rfl hlc.1 h2.int_inv h3.int_inv h4.int_inv hh h
   ·cases h
  ·rename_i s0 sh es s1 k1 n1 s2 k2 n2 s3 k3 n3 _;split at h
   ·rename_i hh;cases h;obtain⟨c1,c2,c3,c4,c5⟩:=hh;cases hl with|cons h1 hl=>
    obtain⟨_,_,_,e0,h2,h3,h4⟩:=hl.three;cases e0;cases h1 with|pv _ _ _ _ hq=>
    cases h2.int_inv;cases h3.int_inv;cases h4.int_inv;subst c4;obtain⟨l,rfl⟩:=zX c2;obtain⟨n,rfl⟩:=zX (by omega:0<=n2);obtain⟨a,len,cap,rfl⟩:∃a len cap,x=.slice a len cap:=by cases hq <;> exact⟨_,_,_,rfl⟩
    obtain⟨g1,g2⟩:=Uf (e:=e) (l:=l) (h:=n) hq c1 (by omega) (by omega);have:=Ue (w:=w) ht hok a len cap (some (.int k1 l)) k2 k3 l n (.inr ⟨_,rfl⟩) (by omega) g1;exact yn this (by simpa using g2)
   ·cases h
  all_goals (first|(cases h;done)|simp_all)

theorem beq_pv:(∀a b:PV,PV.beq a b=true->a=b)/\(∀a b:List (Sh × PV),PV.beqc a b=true->a=b)/\(∀a b:List PV,PV.beqs a b=true->a=b):=by
 have key:∀n,(∀a b:PV,SizeOf.sizeOf a<n->PV.beq a b=true->a=b)/\(∀a b:List (Sh × PV),SizeOf.sizeOf a<n->PV.beqc a b=true->a=b)/\(∀a b:List PV,SizeOf.sizeOf a<n->PV.beqs a b=true->a=b):=by
  intro n
  induction n with
  |zero=>exact⟨fun a b h=>by omega,fun a b h=>by omega,fun a b h=>by omega⟩
  |succ n ih=>
   obtain⟨i1,i2,i3⟩:=ih;refine⟨?_,?_,?_⟩
   ·intro a b hs h;unfold PV.beq at h;split at h <;> (try simp only[Zg,Zr,beq_iff_eq] at h) <;> (try (cases h;done)) <;> (try rfl)
    ·rw[h]
    ·rw[h.1,h.2]
    ·rw[h]
    ·rw[i2 _ _ (by simp at hs;omega) h]
    ·rw[h.1,i3 _ _ (by simp at hs;omega) h.2]
    ·rw[zd h]
    ·rw[h.1.1,h.1.2,i1 _ _ (by simp at hs;omega) h.2]
   ·intro a b hs h;unfold PV.beqc at h;split at h <;> (try simp only[Zg,Zr] at h) <;> (try (cases h;done)) <;> (try rfl)
    rename_i x a y b;obtain⟨x1,x2⟩:=x;obtain⟨y1,y2⟩:=y;simp only[List.cons.sizeOf_spec,Prod.mk.sizeOf_spec] at hs;simp only at h;rw[h.1.1,i1 _ _ (by omega) h.1.2,i2 _ _ (by omega) h.2]
   ·intro a b hs h;unfold PV.beqs at h;split at h <;> (try simp only[Zg] at h) <;> (try (cases h;done)) <;> (try rfl)
    simp only[List.cons.sizeOf_spec] at hs;rw[i1 _ _ (by omega) h.1,i3 _ _ (by omega) h.2]
 exact⟨fun a b=>(key _).1 a b (Nat.lt_succ_self _),fun a b=>(key _).2.1 a b (Nat.lt_succ_self _),fun a b=>(key _).2.2 a b (Nat.lt_succ_self _)⟩
theorem beq_av:(∀a b:AV,AV.beq a b=true->a=b)/\(∀a b:List (Sh × AV),AV.beqc a b=true->a=b)/\(∀a b:List AV,AV.beqs a b=true->a=b):=by
 have key:∀n,(∀a b:AV,SizeOf.sizeOf a<n->AV.beq a b=true->a=b)/\(∀a b:List (Sh × AV),SizeOf.sizeOf a<n->AV.beqc a b=true->a=b)/\(∀a b:List AV,SizeOf.sizeOf a<n->AV.beqs a b=true->a=b):=by
  intro n
  induction n with
  |zero=>exact⟨fun a b h=>by omega,fun a b h=>by omega,fun a b h=>by omega⟩
  |succ n ih=>
   obtain⟨i1,i2,i3⟩:=ih;obtain⟨p1,p2,p3⟩:=beq_pv;have ne:∀{a b:Nat},Nat.beq a b=true->a=b:=fun h=>zd h;refine⟨?_,?_,?_⟩
   ·intro a b hs h;unfold AV.beq at h;split at h <;> (try simp only[Zg,Zr] at h) <;> (try (cases h;done)) <;> (try rfl)
    ·rw[h.1,p1 _ _ h.2]
    ·rw[i2 _ _ (by simp at hs;omega) h]
    ·rw[h.1,p3 _ _ h.2]
    ·rw[h.1.1.1.1,ne h.1.1.1.2,ne h.1.1.2,ne h.1.2,ne h.2]
    ·rw[ne h.1,ne h.2]
    ·rw[h.1.1.1.1,ne h.1.1.1.2,ne h.1.1.2,ne h.1.2,ne h.2]
    ·rw[h.1.1,p1 _ _ h.1.2,ne h.2]
    ·rw[ne h]
    ·rw[ne h]
    ·simp at hs;rw[ne h.1.1,i3 _ _ (by omega) h.1.2,i3 _ _ (by omega) h.2]
    ·rw[h.1,i1 _ _ (by simp at hs;omega) h.2]
    ·rw[i3 _ _ (by simp at hs;omega) h]
    ·rw[h.1.1.1.1,ne h.1.1.1.2,ne h.1.1.2,ne h.1.2,ne h.2]
    ·rw[h.1.1.1.1,ne h.1.1.1.2,ne h.1.1.2,ne h.1.2,ne h.2]
    ·rw[h]
   ·intro a b hs h;unfold AV.beqc at h;split at h <;> (try simp only[Zg,Zr] at h) <;> (try (cases h;done)) <;> (try rfl)
    rename_i x a y b;obtain⟨x1,x2⟩:=x;obtain⟨y1,y2⟩:=y;simp only[List.cons.sizeOf_spec,Prod.mk.sizeOf_spec] at hs;simp only at h;rw[h.1.1,i1 _ _ (by omega) h.1.2,i2 _ _ (by omega) h.2]
   ·intro a b hs h;unfold AV.beqs at h;split at h <;> (try simp only[Zg] at h) <;> (try (cases h;done)) <;> (try rfl)
    simp only[List.cons.sizeOf_spec] at hs;rw[i1 _ _ (by omega) h.1,i3 _ _ (by omega) h.2]
 exact⟨fun a b=>(key _).1 a b (Nat.lt_succ_self _),fun a b=>(key _).2.1 a b (Nat.lt_succ_self _),fun a b=>(key _).2.2 a b (Nat.lt_succ_self _)⟩
theorem JA:∀{a b:Heap},Heap.beq a b=true->a=b
 |[],[],_=>rfl
 |[],_::_,h=>by cases h
 |_::_,[],h=>by cases h
 |x::a,y::b,h=>by
  have ne:∀{a b:Nat},Nat.beq a b=true->a=b:=fun h=>zd h;have frs:∀a b:Fr,Fr.beq a b=true->a=b:=by
   intro a
   induction a with
   |nil=>intro b h;cases b;rfl;cases h
   |cons x a ih=>
    intro b h;cases b with
    |nil=>cases h
    |cons y b=>
     simp only[Fr.beq,Zg] at h;obtain⟨x1,x2⟩:=x;obtain⟨y1,y2⟩:=y;have e1:x1=y1:=ne h.1.1;have e2:x2=y2:=beq_av.1 _ _ h.1.2;rw[e1,e2,ih _ h.2]
  have ms:∀a b:List (PV × PV),PV.beqm a b=true->a=b:=by
   intro a
   induction a with
   |nil=>intro b h;cases b;rfl;cases h
   |cons x a ih=>
    intro b h;cases b with
    |nil=>cases h
    |cons y b=>
     simp only[PV.beqm,Zg] at h;obtain⟨x1,x2⟩:=x;obtain⟨y1,y2⟩:=y;have e1:x1=y1:=beq_pv.1 _ _ h.1.1;have e2:x2=y2:=beq_pv.1 _ _ h.1.2;rw[e1,e2,ih _ h.2]
  simp only[Heap.beq,Zg] at h;rw[JA h.2]
  congr 1
  have h1:=h.1;unfold AObj.beq at h1;split at h1 <;> (try simp only[Zg,Zr,beq_iff_eq] at h1) <;> (try (cases h1;done))
  ·rw[h1.1,beq_av.1 _ _ h1.2]
  ·rw[h1.1.1,beq_pv.2.2 _ _ h1.1.2,h1.2]
  ·rw[h1.1,beq_av.2.2 _ _ h1.2]
  ·rw[h1.1,ms _ _ h1.2]
  ·rw[ne h1.1.1.1,h1.1.1.2,frs _ _ h1.1.2,h1.2]
theorem Dp{a b:Heap}(h:yW a b=true):a=b:=JA h
end Go.Am

/- What is proved: copying rows of cells; two slices of different blocks do not overlap. -/
namespace Go.Am
open Go
variable{P:Program}
theorem xb(w:World)(dT sT ty elem:TypeId)(g o dLen dCap:Nat)(a:Addr)(sLen sCap k:Nat)(cur:Array Value)(t:TypeId)(cs:List Value)
  (hu:P.underlying dT=some (.slice elem))(hs:(P.info? elem).map (·.size)=some k)
  (hg:w.heap[g]? =some (.cells cur t (0,0)))(hn:cs.length=Nat.min sLen dLen*k)
  (hsrc:∀j v,cs[j]? =some v->w.cell? (a.add j)=some v)(hfit:o+cs.length<=cur.size)(h1:∀v∈cs,v.oneCell'=true):
  (Builtin.copy_ #[dT,sT] ty #[.slice (some ⟨g,o,none⟩) dLen dCap,.slice (some a) sLen sCap]).run P w=
   .ok (goInt (Nat.min sLen dLen)) (w.setRow g (cur.toList.take o++cs++cur.toList.drop (o+cs.length)).toArray):=by
 have hl:=run_loadCells_list (P:=P) w a cs hsrc;have hst:=run_storeCells_at P g o t cs 0 cur w hg (by simpa using hfit) h1;cases hq:P.info? elem with
 |none=>simp[hq] at hs
 |some i=>
  have hi:i.size=k:=by simpa[hq] using hs
  simp[Builtin.copy_,run_underlying hu,Builtin.lenOf,Builtin.firstCells,sizeOf,typeInfo,hq,hi,<-hn,hl,hst]
theorem Ug(w:World)(tS tR e:TypeId)(ht:P.underlying tS=some (.slice e))(size:Nat)(hz:∀w,(Go.sizeOf e).run P w=.ok size w)
  (a b:Addr)(la ca lb cb:Nat)(hne:a.block≠b.block)(tA tB:TypeId)(kA kB:Nat)
  (hsa:w.shape? a.block=some (tA,kA))(hsb:w.shape? b.block=some (tB,kB))(hkA:kA≠0)(hkB:kB≠0)
  (hfb:∀o,w.frozen? { block:=b.block,off:=o }=false)(hfb':w.frozen? b=false):
  (Extern.SlicesOverlaps.overlaps #[tS,tS] #[tR] #[.slice (some a) la ca,.slice (some b) lb cb]).run P w=.ok (.bool false) w:=by
 have hnb:(a.block != b.block)=true:=by simpa using hne
 have hnb':(a.block == b.block)=false:=by simpa using hne
 change Sem.run P (α:=Value) (do
  let some t:=(#[tS,tS]:Array TypeId)[0]? |stuck "slices.overlaps: no parameter types"
  let .slice elem <-underlying t|stuck "slices.overlaps: slice type expected"
  let size <-sizeOf elem
  match(some a:Option Addr),(some b:Option Addr) with
  |some a,some b=>
   if la=0\/lb=0\/size=0 then pure (Value.bool false)
   else if a.block != b.block && (<-frozen a) && (<-frozen b) then unsupported .addressObserved
   else do
    if a.block != b.block then do
     noView a;noView b
     if <-mayBeOne a b then return Value.bool ((<-choose (.extern "sameAddr.stringBytes" 2)) == 1)
    pure (Value.bool (a.block == b.block && a.off<b.off+lb*size && b.off<a.off+la*size))
  |_,_=>pure (Value.bool false)) w=_
 by_cases h0:la=0\/lb=0\/size=0
 ·simp[run_underlying ht,hz,h0]
 ·cases kB with
  |zero=>exact absurd rfl hkB
  |succ kB=>
   cases kA with
   |zero=>exact absurd rfl hkA
   |succ kA=>
    cases hfa:w.frozen? a <;> cases hfe:w.frozen? { block:=a.block,off:=kA+1 } <;>
    simp[run_underlying ht,hz,h0,hnb,hnb',frozen,noView,viewAt,mayBeOne,stringish,shape,Sem.run,hsa,hsb,hfb,hfb',hfa,hfe]
end Go.Am
