/- What is proved: the abstract machine says true of the model (part 2). No conditions beside those that each theorem names. -/
import Derived.Test.YtffecaafklpmhaaGreatAm1
import Derived.Laws.MakeOwn
import Derived.OrdersIn
import Derived.RangeFuncIn
import Derived.RangeFuncRecord
import Derived.RangeFuncLeaves
import Derived.RecoverIn
set_option linter.unusedSimpArgs false
set_option linter.unusedVariables false
/- append, run in the model. -/
namespace Go.Am
variable{P:Program} {w:World} {X:Xc P} {μ:Nat->Option Nat} {hp:Heap}

theorem vj(t ty e:TypeId)(ht:P.underlying t=some (.slice e))(hok:okT P e=true)(base a:Option Addr)(n cap c:Nat)(hn:n<=cap):
  (Builtin.append_ #[t,t] ty #[.slice base n cap,.slice a 0 c]).run P w=.ok (.slice base n cap) w:=by
 have hs:=Xt hok w;cases a <;> cases base <;> simp[Builtin.append_,run_underlying ht,hs,Builtin.lenOf,hn,Builtin.firstCells,loadCells,loadCellsFrom,storeCells]

theorem bA(t ty e t0:TypeId)(i:TypeInfo)(ht:P.underlying t=some (.slice e))(hi:P.info? e=some i)
  (g sLen sCap:Nat)(cur:Array Value)(hg:w.heap[g]? =some (.cells cur t0 (0,0)))
  (a:Addr)(m c:Nat)(news:List Value)(hl:news.length=m*i.size)(hnews:∀j u,news[j]? =some u->w.cell? (a.add j)=some u)(h1:∀u∈news,u.oneCell'=true)
  (hroom:sLen+m<=sCap)(hfit:sLen*i.size+news.length<=cur.size):
  (Builtin.append_ #[t,t] ty #[.slice (some ⟨g,0,none⟩) sLen sCap,.slice (some a) m c]).run P w=
   .ok (.slice (some ⟨g,0,none⟩) (sLen+m) sCap) (w.setRow g (cur.toList.take (sLen*i.size)++news++cur.toList.drop (sLen*i.size+news.length)).toArray):=by
 have hf:=run_firstCells_some (P:=P) w i.size m a m c news hl hnews;have hst:=run_storeCells_at P g (sLen*i.size) t0 news 0 cur w hg (by simpa using hfit) h1;simp only[Z1] at hst;simp[Builtin.append_,run_underlying ht,sizeOf,typeInfo,hi,Builtin.lenOf,hroom,hf,Addr.add_lit,hst]

def ER(w:World)(I:Nat->Prop)(sh:Sh)(es:List PV)(vals:List Value):Prop:=
 es.length=vals.length/\∀(k:Nat) (p:PV) (v:Value),es[k]? =some p->vals[k]? =some v->vshp v=sh/\PR w I p v
theorem ER.sizes{I:Nat->Prop}{sh:Sh}{es:List PV}{vals:List Value}(h:ER w I sh es vals):∀v∈vals,v.cells.size=sh.size:=by
 intro v hv;obtain⟨j,hj⟩:=zU.1 hv;have hjl:=(Ze.1 hj).1;have hjl':j<es.length:=by rw[h.1];exact hjl
 rw[YP,(h.2 j es[j] v (Zf hjl') hj).1]
theorem ER.flat{I:Nat->Prop}{sh:Sh}{es:List PV}{vals:List Value}(h:ER w I sh es vals):∀c∈cellsOf vals,c.oneCell'=true:=by
 intro c hc;obtain⟨j,v,hj,hcv⟩:=qF hc;have hjl:=(Ze.1 hj).1;have hjl':j<es.length:=by rw[h.1];exact hjl
 exact(h.2 j es[j] v (Zf hjl') hj).2.flat c hcv
theorem Kj{vals:List Value}{k:Nat}(hk:∀v∈vals,v.cells.size=k):(cellsOf vals).length=vals.length*k:=by
 induction vals with
 |nil=>simp[cellsOf]
 |cons v r ih=>rw[Yq,Zc,Zs,hk v (by simp),ih (fun v hv=>hk v (by simp[hv])),ZB,ZI];omega
theorem ER.length{I:Nat->Prop}{sh:Sh}{es:List PV}{vals:List Value}(h:ER w I sh es vals):(cellsOf vals).length=es.length*sh.size:=by rw[Kj h.sizes,h.1]
theorem ER.append{I:Nat->Prop}{sh:Sh}{es fs:List PV}{vals us:List Value}(h:ER w I sh es vals)(k:ER w I sh fs us):ER w I sh (es++fs) (vals++us):=by
 refine⟨by simp[h.1,k.1],fun i p v hp hv=> ?_⟩;rcases Zq i es.length with hi|hi
 ·rw[Zx hi] at hp;rw[Zx (by rw[<-h.1];exact hi)] at hv;exact h.2 i p v hp hv
 ·rw[zq hi] at hp;rw[zq (by rw[<-h.1];exact hi),<-h.1] at hv;exact k.2 _ p v hp hv
theorem ER.take{I:Nat->Prop}{sh:Sh}{es:List PV}{vals:List Value}(h:ER w I sh es vals)(n:Nat):ER w I sh (es.take n) (vals.take n):=by
 refine⟨by simp[h.1],fun i p v hp hv=> ?_⟩;have hi:i<n:=by have:=(Ze.1 hp).1;simp at this;omega
 rw[zB hi] at hp hv;exact h.2 i p v hp hv
theorem ER.drop{I:Nat->Prop}{sh:Sh}{es:List PV}{vals:List Value}(h:ER w I sh es vals)(n:Nat):ER w I sh (es.drop n) (vals.drop n):=by
 refine⟨by simp[h.1],fun i p v hp hv=> ?_⟩;rw[ZT] at hp hv;exact h.2 _ p v hp hv
theorem ER.nil{I:Nat->Prop}{sh:Sh}:ER w I sh [] []:=⟨rfl,by simp⟩
theorem ER.ext{b0:Nat}{μ':Nat->Option Nat}{hp':Heap}{w':World}{sh:Sh}{es:List PV}{vals:List Value}(E:Ext b0 X μ hp w μ' hp' w')(h:ER w (Im X μ hp) sh es vals):ER w' (Im X μ' hp') sh es vals:=
 ⟨h.1,fun k p v hp hv=>⟨(h.2 k p v hp hv).1,E.pr (h.2 k p v hp hv).2⟩⟩
theorem ER.cells_take{I:Nat->Prop}{sh:Sh}{es:List PV}{vals:List Value}(h:ER w I sh es vals)(n:Nat)(hn:n<=es.length):cellsOf (vals.take n)=(cellsOf vals).take (n*sh.size):=by
 have:=QX h.1 (fun i p v hp hv=>(h.2 i p v hp hv).1) 0 n (by omega);simpa using this
theorem ER.cells_drop{I:Nat->Prop}{sh:Sh}{es:List PV}{vals:List Value}(h:ER w I sh es vals)(n:Nat)(hn:n<=es.length):cellsOf (vals.drop n)=(cellsOf vals).drop (n*sh.size):=by
 have h1:=Kj (vals:=vals.drop n) (k:=sh.size) (fun v hv=>h.sizes v (zG hv));have:=QX h.1 (fun i p v hp hv=>(h.2 i p v hp hv).1) n (es.length - n) (by omega);rw[Zp (by simp[h.1]),Zp] at this
 ·exact this
 ·rw[ZY,h.length,<-Nat.sub_mul];exact Zi _

theorem qH{b o:Nat}{cs:Array Value}{t:TypeId}{fr:Nat × Nat}(hb:w.heap[b]? =some (.cells cs t fr)){vals:List Value}{n:Nat}(hc:cellsOf vals=(cs.toList.drop o).take n):∀(j:Nat) (u:Value),(cellsOf vals)[j]? =some u->w.cell? ((⟨b,o,none⟩:Addr).add j)=some u:=by
 intro j u hj;have hjn:j<n:=by have:=(Ze.1 hj).1;rw[hc,Zn] at this;omega
 rw[hc,zB hjn,ZT] at hj;rw[Addr.add_lit];simp only[World.cell?,hb];simpa using hj

theorem bB{x:AV}{shx:Sh}{new:List PV}{a:Option Addr}{m c:Nat}(hH:HR w X μ hp)(h:elems hp x=some (shx,new))(hx:AR w X μ hp x (.slice a m c)):
  m=new.length/\∃vals,ER w (Im X μ hp) shx new vals/\(new≠[]->∃ad,a=some ad/\∀(j:Nat) (u:Value),(cellsOf vals)[j]? =some u->w.cell? (ad.add j)=some u):=by
 have ps:∀(sh:Sh) (es:List PV),PR w (Im X μ hp) (.sl sh es) (.slice a m c)->m=es.length/\∃vals,ER w (Im X μ hp) sh es vals/\(es≠[]->∃ad,a=some ad/\∀(j:Nat) (u:Value),(cellsOf vals)[j]? =some u->w.cell? (ad.add j)=some u):=by
  intro sh es hp;cases hp with
  |nilsl=>exact⟨rfl,[],ER.nil,fun h=>absurd rfl h⟩
  |sl _ _ b o _ cs t fr vals hl hI hb h1 h2 hc hn=>
   exact⟨rfl,vals,⟨hl,fun k p v hp hv=>⟨h1 k p v hp hv,h2 k p v hp hv⟩⟩,fun _=>⟨_,rfl,qH hb hc⟩⟩
 unfold elems at h;split at h
 ·cases h;cases hx with
  |pv _ _ _ _ hq=>exact ps _ _ hq
 ·cases h;cases hx with
  |tsl _ _ _ hq=>exact ps _ _ hq
 ·rename_i s0 r ver off len;cases hx with
  |sl _ _ _ _ _ _ _ es fz ho hv hlc ha hc=>
   simp only[ho] at h;split at h
   ·rename_i hver;obtain⟨c1,c2⟩:=hc hver;have view:off+m<=es.length->m=((es.drop off).take m).length/\∃vals,ER w (Im X μ hp) s0 ((es.drop off).take m) vals/\((es.drop off).take m≠[]->∃ad,a=some ad/\∀(j:Nat) (u:Value),(cellsOf vals)[j]? =some u->w.cell? (ad.add j)=some u):=by
     intro hle;refine⟨by simp;omega,?_⟩;rcases(hH.arr r s0 es fz ho).2 with⟨h1,rfl⟩|⟨b,cs,t,vals,h1,h2,h3,h4,h5⟩
     ·simp only[List.drop_nil,List.take_nil];exact⟨[],ER.nil,fun h=>absurd rfl h⟩
     ·have hE:ER w (Im X μ hp) s0 es vals:=⟨h3,h4⟩;refine⟨(vals.drop off).take m,(hE.drop off).take m,fun hne=> ?_⟩;have hm:m≠0:=by rintro rfl;simp at hne
      rcases c2 with⟨c2,c3⟩|⟨b',cs',t',c2,c3,c4,c5⟩
      ·omega
      ·rw[h1] at c2;cases c2;have:=c5 (by omega);subst this;refine⟨_,rfl,qH (n:=m*s0.size) h2 ?_⟩;rw[QX h3 (fun i p v hp hv=>(h4 i p v hp hv).1) off m hle,h5,Z5,ZX]
       congr 1
       have:off*s0.size+m*s0.size<=es.length*s0.size:=by rw[<-ZI];exact zl _ hle
       omega
    split at h
    ·rename_i hh;cases h;obtain⟨rfl,rfl⟩:=hh;have:=view (by omega);simpa using this
    ·cases h;exact view c1
   ·cases h
 ·cases h

theorem okE(w:World){e:TypeId}(hok:okT P e=true)(hz:yr P e=true):∃i z,P.info? e=some i/\i.zero=some z/\i.size=(shOf P e).size/\z.cells.size=(shOf P e).size:=by
 obtain⟨i,d,hi,_,hs,_⟩:=qG hok;unfold yr at hz;split at hz
 ·rename_i zv hzv;have hzv':=hzv;unfold Y4 at hzv;rw[hi] at hzv;simp only at hzv;cases h:i.zero with
  |none=>rw[h] at hzv;cases hzv
  |some z=>
   rw[h] at hzv;obtain⟨h1,h2⟩:=JF P w ⟨fun _=>False⟩ (fun _=>none) [] 8 e z zv hzv;refine⟨i,z,hi,h,hs,?_⟩;rw[YP,h1.vshp h2,ze hz]
 ·cases hz

theorem vk{t ty e:TypeId}(ht:P.underlying t=some (.slice e))(hok:okT P e=true)(hz:yr P e=true)(hby:XD P e=true){I:Nat->Prop}{es new:List PV}{vals nvals:List Value}(hE:ER w I (shOf P e) es vals)(hN:ER w I (shOf P e) new nvals)
  (base:Option Addr)(cap:Nat)(hbase:(base=none/\es=[]/\cap=0)\/∃bd,base=some bd/\∀(j:Nat) (u:Value),(cellsOf vals)[j]? =some u->w.cell? (bd.add j)=some u)(ad:Addr)(c:Nat)
  (hnews:∀(j:Nat) (u:Value),(cellsOf nvals)[j]? =some u->w.cell? (ad.add j)=some u)(hm:new≠[])(hcap:cap<es.length+new.length)(hlim:es.length+new.length<=lim):
  ∃(c':Nat) (cells:Array Value),(Builtin.append_ #[t,t] ty #[.slice base es.length cap,.slice (some ad) new.length c]).run P w=.ok (.slice (some ⟨w.heap.size,0,none⟩) (es.length+new.length) c') (w.drew.alloc (.cells cells e))/\
   es.length+new.length<=c'/\cells.size=c'*(shOf P e).size/\cells.toList.take ((es.length+new.length)*(shOf P e).size)=cellsOf (vals++nvals):=by
 obtain⟨i,z,hi,hiz,hsz,hzs⟩:=okE w hok hz;have hl1:=hE.length;have hl2:=hN.length;have hb:i.bytes<=1024:=by
  unfold XD at hby
  rw[hi] at hby
  simpa using hby
 have hbb:(es.length+new.length)*i.bytes<=140737488355328:=by
  have:(es.length+new.length)*i.bytes<=lim*1024:=zC hlim hb;unfold lim at this;omega
 have h63:es.length+new.length<=9223372036854775807:=by unfold lim at hlim;omega
 have hge:=grownCap_ge w (es.length+new.length) cap e;have main:(Builtin.append_ #[t,t] ty #[.slice base es.length cap,.slice (some ad) new.length c]).run P w=.ok (.slice (some ⟨w.heap.size,0,none⟩) (es.length+new.length) (grownCap w (es.length+new.length) cap e))
   (w.drew.alloc (.cells ((cellsOf vals).toArray++(cellsOf nvals).toArray++Builtin.zeroCells z.cells (grownCap w (es.length+new.length) cap e - (es.length+new.length))) e)):=by
  rcases hbase with⟨rfl,rfl,rfl⟩|⟨bd,rfl,hold⟩
  ·have hv:vals=[]:=Z9 hE.1.symm;subst hv;have hpos:0<new.length:=List.length_pos_iff.2 hm;have:=run_append_nil (P:=P) w t ty e i z ht hi hiz ad new.length c (cellsOf nvals) (by rw[hl2,hsz]) hnews hpos (by simp at h63;omega) (by simp at hbb;omega);simpa[cellsOf] using this
  ·exact run_append_grow (P:=P) w t ty e i z ht hi hiz bd es.length cap (cellsOf vals) (by rw[hl1,hsz]) hold ad new.length c (cellsOf nvals) (by rw[hl2,hsz]) hnews hcap (by omega) (growslice_fits hcap hbb)
 refine⟨_,_,main,hge,?_,?_⟩
 ·simp only[Array.size_append,List.size_toArray,size_zeroCells,hzs,hl1,hl2,<-ZI]
  congr 1
  omega
 ·rw[xH];simp only[Array.toList_append];rw[ZD (by simp[hl1,hl2,ZI])]

theorem bC{b r len:Nat}{t ty e:TypeId}{es new:List PV}{nvals:List Value}{base:Option Addr}{cap c:Nat}{ax:Option Addr}(ht:P.underlying t=some (.slice e))(hok:okT P e=true)(hz:yr P e=true)(hby:XD P e=true)(hH:HR w X μ hp)(ho:hp[r]? =some (.arr (shOf P e) es false))
  (hs:AR w X μ hp (.sl (shOf P e) r es.length 0 len) (.slice base len cap))(hN:ER w (Im X μ hp) (shOf P e) new nvals)(hnews:new≠[]->∃ad,ax=some ad/\∀(j:Nat) (u:Value),(cellsOf nvals)[j]? =some u->w.cell? (ad.add j)=some u)(hlim:len+new.length<=lim):
  ∃v' w' μ',(Builtin.append_ #[t,t] ty #[.slice base len cap,.slice ax new.length c]).run P w=.ok v' w'/\HR w' X μ' (hp.set r (.arr (shOf P e) (es.take len++new++es.drop (len+new.length)) false))/\
   Ext b X μ hp w μ' (hp.set r (.arr (shOf P e) (es.take len++new++es.drop (len+new.length)) false)) w'/\
   AR w' X μ' (hp.set r (.arr (shOf P e) (es.take len++new++es.drop (len+new.length)) false)) (.sl (shOf P e) r (es.take len++new++es.drop (len+new.length)).length 0 (len+new.length)) v':=by
 have hrl:=(Ze.1 ho).1;obtain⟨hpos,harr⟩:=hH.arr r _ es false ho;have hl2:=hN.length;cases hs with
 |sl _ _ _ _ _ _ _ es1 fz1 ho1 hv1 hlc ha hc=>
 rw[ho] at ho1;cases ho1;obtain⟨c1,c2⟩:=hc rfl;by_cases hne:new=[]
 ·subst hne;have e1:es.take len++[]++es.drop (len+([]:List PV).length)=es:=by simp
  rw[e1];have e2:hp.set r (.arr (shOf P e) es false)=hp:=by
   apply zK;intro k;by_cases hk:k=r
   ·subst hk;rw[ZG hrl,ho]
   ·rw[Zy (Ne.symm hk)]
  rw[e2];exact⟨_,w,μ,vj t ty e ht hok base ax len cap c hlc,hH,Ext.refl _ _ _ _ _,.sl _ _ _ _ _ _ _ es false ho hv1 hlc ha hc⟩
 ·obtain⟨ad,rfl,hcells⟩:=hnews hne

  have grown:∀(vals:List Value),ER w (Im X μ hp) (shOf P e) es vals->((base=none/\es.take len=[]/\cap=0)\/∃bd,base=some bd/\∀(j:Nat) (u:Value),(cellsOf (vals.take len))[j]? =some u->w.cell? (bd.add j)=some u)->
    cap<len+new.length->es.length<=len+new.length->∃v' w' μ',(Builtin.append_ #[t,t] ty #[.slice base len cap,.slice (some ad) new.length c]).run P w=.ok v' w'/\HR w' X μ' (hp.set r (.arr (shOf P e) (es.take len++new++es.drop (len+new.length)) false))/\
     Ext b X μ hp w μ' (hp.set r (.arr (shOf P e) (es.take len++new++es.drop (len+new.length)) false)) w'/\
     AR w' X μ' (hp.set r (.arr (shOf P e) (es.take len++new++es.drop (len+new.length)) false)) (.sl (shOf P e) r (es.take len++new++es.drop (len+new.length)).length 0 (len+new.length)) v':=by
   intro vals hE hbase hcap hle;have htl:(es.take len).length=len:=by simp;omega
   have hdn:es.drop (len+new.length)=[]:=zr hle;have hel:(es.take len++new++es.drop (len+new.length)).length=len+new.length:=by rw[hdn];simp;omega
   obtain⟨c',cells,g1,g2,g3,g4⟩:=vk (ty:=ty) ht hok hz hby (hE.take len) hN base cap hbase ad c hcells hne (by rw[htl];exact hcap) (by rw[htl];exact hlim);rw[htl] at g1 g2 g4;have hblk:∀k,k<w.heap.size->(w.drew.alloc (.cells cells e)).heap[k]? =w.heap[k]? :=fun k hk=>yL w.drew _ hk;have E:∀b0,Ext b0 X μ hp w (upd μ r (some w.heap.size)) (hp.set r (.arr (shOf P e) (es.take len++new++es.drop (len+new.length)) false)) (w.drew.alloc (.cells cells e)):=fun b0=>
    Ext.setArr ho (by rw[hel];exact hle) (fun h=>by cases h) (fun h=>by
     exfalso;rw[hel] at h;have hel2:es.length=len+new.length:=h.symm;rcases c2 with⟨c0,c3⟩|⟨b',cs,t',c3,c4,c5,c6⟩
     ·have hn:0<new.length:=List.length_pos_iff.2 hne;rcases harr with⟨_,h2⟩|⟨b',cs,t',vs,h1,_⟩
      ·rw[h2] at hel2;simp at hel2;omega
      ·rw[c0] at h1;cases h1
     ·rcases harr with⟨h1,h2⟩|⟨b2,cs2,t2,vs,h1,h2,h3,h4,h5⟩
      ·rw[c3] at h1;cases h1
      ·rw[c3] at h1;cases h1;rw[c4] at h2;cases h2;have:=congrArg List.length h5;rw[Kj (k:=(shOf P e).size) (ER.sizes ⟨h3,h4⟩),<-h3,Zn] at this;have hcl:cs.toList.length=cs.size:=Zs;have h6:es.length*(shOf P e).size<=cap*(shOf P e).size:=by rw[ZH] at c5;rw[c5];omega
       have h7:=Nat.le_of_mul_le_mul_right h6 hpos;omega) (fun k hk=>by cases hk;exact .inr (Zi _)) rfl rfl rfl (by simp) (fun k hk _=>hblk k hk) (fun k cs t' fr hk=>⟨cs,by rw[hblk k (YZ hk)];exact hk,rfl⟩)
   have H:=hH.setArr ho (E 0) (fun k hk _=>hblk k hk) (fun k hk=>by cases hk;exact⟨.inr (Zi _),by simp⟩) (.inr ⟨w.heap.size,cells,e,vals.take len++nvals++vals.drop (len+new.length),rfl,yM w.drew _,?_,?_,?_⟩)
   ·refine⟨_,_,_,g1,H,E b,?_⟩;refine .sl _ _ _ _ _ _ _ _ false (ZG hrl) (Zi _) g2 (fun _=>rfl) fun _=>⟨by rw[hel];omega,.inr ⟨w.heap.size,cells,e,Yn _ _ _,yM w.drew _,by rw[ZH];exact g3.symm,fun _=>by simp⟩⟩
   ·have:=((hE.take len).append hN).append (hE.drop (len+new.length));exact this.1
   ·have:=ER.ext (E 0) (((hE.take len).append hN).append (hE.drop (len+new.length)));exact this.2
   ·rw[hel,g4];have:vals.drop (len+new.length)=[]:=zr (by rw[<-hE.1];exact hle);rw[this,ZF]
  rcases harr with⟨h1,h2⟩|⟨bk,cs,t',vals,h1,h2,h3,h4,h5⟩
  ·subst h2;have hl0:len=0:=by simp at c1;omega
   subst hl0;rcases c2 with⟨_,c3⟩|⟨b',_,_,c3,_⟩
   ·subst c3;refine grown [] ER.nil ?_ (by have:=List.length_pos_iff.2 hne;omega) (by simp);cases base with
    |none=>exact .inl ⟨rfl,rfl,rfl⟩
    |some bd=>exact .inr ⟨bd,rfl,by simp[cellsOf]⟩
   ·rw[h1] at c3;cases c3
  ·have hE:ER w (Im X μ hp) (shOf P e) es vals:=⟨h3,h4⟩;rcases c2 with⟨c3,_⟩|⟨b',cs',t'',c3,c4,c5,c6⟩
   ·rw[h1] at c3;cases c3
   rw[h1] at c3;cases c3;rw[h2] at c4;cases c4;rw[ZH] at c5;have hcl:cs.toList.length=cs.size:=Zs;have hEl:es.length*(shOf P e).size<=cs.size:=by
    have:=congrArg List.length h5;rw[hE.length,Zn] at this;omega
   by_cases hroom:len+new.length<=cap
   ·have hcap:cap≠0:=by have:=List.length_pos_iff.2 hne;omega
    have hb0:=c6 hcap;simp only[Nat.zero_mul] at hb0;subst hb0;obtain⟨i,z,hi,hiz,hsz,hzs⟩:=okE w hok hz;have hfit:len*(shOf P e).size+new.length*(shOf P e).size<=cs.size:=by rw[<-c5,<-ZI];exact zl _ hroom
    have hrun:=bA (P:=P) t ty e t' i ht hi bk len cap cs h2 ad new.length c (cellsOf nvals) (by rw[hl2,hsz]) hcells hN.flat hroom (by rw[hl2,hsz];exact hfit);rw[hsz,hl2] at hrun;generalize hrow:(cs.toList.take (len*(shOf P e).size)++cellsOf nvals++cs.toList.drop (len*(shOf P e).size+new.length*(shOf P e).size))=row at hrun;have hrowl:row.length=cs.size:=by
     rw[<-hrow];simp only[Zc,Zn,ZY,hl2,hcl];omega
    have hel:es.length<=(es.take len++new++es.drop (len+new.length)).length:=by
     simp only[Zc,Zn,ZY];omega
    have E:∀b0,Ext b0 X μ hp w (upd μ r (μ r)) (hp.set r (.arr (shOf P e) (es.take len++new++es.drop (len+new.length)) false)) (w.setRow bk row.toArray):=fun b0=>
     Ext.setArr ho hel (fun h=>by cases h) (fun _=>rfl) (fun k hk=>.inl hk) rfl rfl rfl (by simp[World.setRow]) (fun k hk hm=>setRow_other w bk k _ (fun e=>hm rfl (by rw[e];exact h1))) (fun k cs' t'' fr hk=>by
      by_cases ek:k=bk
      ·subst ek;rw[h2] at hk;cases hk;exact⟨_,setRow_heap w k _ _ t' _ h2,by simpa using hrowl⟩
      ·exact⟨cs',by rw[setRow_other w bk k _ ek];exact hk,rfl⟩)
    have hER:=((hE.take len).append hN).append (hE.drop (len+new.length));have hcd:cellsOf (vals.drop (len+new.length))=(cs.toList.drop (len*(shOf P e).size+new.length*(shOf P e).size)).take (cellsOf (vals.drop (len+new.length))).length:=by
     rcases Zq es.length (len+new.length) with hlt|hge
     ·have:vals.drop (len+new.length)=[]:=zr (by rw[<-hE.1];omega);rw[this];simp[cellsOf]
     ·have h6:=hE.cells_drop (len+new.length) hge;rw[(hE.drop (len+new.length)).length,h6,h5,Z5,ZI]
      congr 1
      rw[ZY,Nat.sub_mul,ZI]
    have hct:cellsOf (vals.take len)=cs.toList.take (len*(shOf P e).size):=by
     rw[hE.cells_take len (by omega),h5,ZX,zs];exact zl _ (by omega)
    have hcc:cellsOf (vals.take len++nvals++vals.drop (len+new.length))=row.take ((es.take len++new++es.drop (len+new.length)).length*(shOf P e).size):=by
     rw[<-hER.length,xH,xH,hct]
     conv=>lhs;rw[hcd]
     rw[<-hrow];have hlt:(cs.toList.take (len*(shOf P e).size)).length=len*(shOf P e).size:=by rw[Zn];omega
     have e1:(cs.toList.take (len*(shOf P e).size)++cellsOf nvals++cellsOf (vals.drop (len+new.length))).length=(cs.toList.take (len*(shOf P e).size)++cellsOf nvals).length+(cellsOf (vals.drop (len+new.length))).length:=by rw[Zc]
     rw[e1,List.take_length_add_append]
    have H:=hH.setArr ho (E 0) (fun k hk hne'=>setRow_other w bk k _ (fun e=>hne' (by rw[e];exact h1))) (fun k hk=>⟨.inl hk,by rw[h1] at hk;cases hk;simpa[World.setRow] using YZ h2⟩)
     (.inr ⟨bk,row.toArray,t',vals.take len++nvals++vals.drop (len+new.length),h1,setRow_heap w bk _ _ t' _ h2,hER.1,(ER.ext (E 0) hER).2,by simpa using hcc⟩)
    rw[xJ] at H;have E':=E b;rw[xJ] at E';refine⟨_,_,μ,hrun,H,E',?_⟩;refine .sl _ _ _ _ _ _ _ _ false (ZG hrl) (Zi _) hroom (fun _=>rfl) fun _=>⟨?_,.inr ⟨bk,row.toArray,t',h1,setRow_heap w bk _ _ t' _ h2,by rw[ZH,c5];simpa using hrowl.symm,fun _=>by simp⟩⟩;simp only[Zc,Zn,ZY];omega
   ·have hcE:es.length<=cap:=Nat.le_of_mul_le_mul_right (by rw[c5];exact hEl) hpos;refine grown vals hE ?_ (by omega) (by omega);cases base with
    |none=>
     have hcap0:cap=0:=by
      by_cases h0:cap=0
      ·exact h0
      ·have:=ha h0;simp at this
     refine .inl ⟨rfl,?_,hcap0⟩;have:len=0:=by omega
     rw[this];rfl
    |some bd=>
     refine .inr ⟨bd,rfl,?_⟩;by_cases hl0:len=0
     ·subst hl0;simp[cellsOf]
     ·have:=c6 (by omega);simp only[Nat.zero_mul,Option.some.injEq] at this;subst this;refine qH (n:=len*(shOf P e).size) h2 ?_;rw[hE.cells_take len (by omega),h5,ZX,zs (zl _ (by omega))];simp
end Go.Am

/- append and make by the abstract machine's own word; slices written out. -/
namespace Go.Am
variable{P:Program} {w:World} {X:Xc P} {μ:Nat->Option Nat} {hp:Heap}

theorem qI{b:Nat}{ts:Array TypeId}{ty:TypeId}{x y:Value}{v:AV}{hp':Heap}(h:∃v' w' μ',(Builtin.append_ ts ty #[x,y]).run P w=.ok v' w'/\HR w' X μ' hp'/\Ext b X μ hp w μ' hp' w'/\AR w' X μ' hp' v v'):
  Out P b w X μ hp (do pure (.value (<-Builtin.append_ ts ty #[x,y]))) v hp':=by
 obtain⟨v',w',μ',h1,h2,h3,h4⟩:=h;exact⟨.value v',v',w',μ',by simp[h1],.inl rfl,h4,h2,h3⟩

theorem bD{x:AV}{shx:Sh}{new:List PV}{vx:Value}(h:elems hp x=some (shx,new))(hx:AR w X μ hp x vx):∃a m c,vx=.slice a m c:=by
 unfold elems at h;split at h
 ·cases hx with|pv _ _ _ _ hq=>cases hq <;> exact⟨_,_,_,rfl⟩
 ·cases hx;exact⟨_,_,_,rfl⟩
 ·cases hx;exact⟨_,_,_,rfl⟩
 ·cases h

theorem vl{b:Nat}{t ty e:TypeId}{x y:Value}{vs:List AV}{v:AV}{hp':Heap}(ht:P.underlying t=some (.slice e))(hok:okT P e=true)(hz:yr P e=true)(hby:XD P e=true)(hH:HR w X μ hp)
  (hl:LR w X μ hp vs [x,y])(h:YN (shOf P e) hp vs=some (v,hp')):Out P b w X μ hp (do pure (.value (<-Builtin.append_ #[t,t] ty #[x,y]))) v hp':=by
 have hy:∃a m c,y=.slice a m c:=by
  obtain⟨s,q,rfl,h1,h2⟩:∃s q,vs=[s,q]/\AR w X μ hp s x/\AR w X μ hp q y:=by
   cases hl with|cons h1 r=>cases r with|cons h2 r=>cases r;exact⟨_,_,rfl,h1,h2⟩
  simp only[YN,aappend] at h;cases he:elems hp q with
  |none=>rw[he] at h;cases h
  |some p=>exact bD (shx:=p.1) (new:=p.2) he h2
 obtain⟨ay,m,cy,rfl⟩:=hy;unfold YN at h;split at h
 ·rename_i s src;obtain⟨_,_,e0,h1,h2⟩:=hl.two;cases e0;unfold aappend at h;split at h
  ·cases h
  ·rename_i shx new hel;obtain⟨rfl,nvals,hN,hcells⟩:=bB hH hel h2;split at h
   ·rename_i hsh;have hN':ER w (Im X μ hp) (shOf P e) new nvals:=by
     rcases hsh with rfl|rfl
     ·exact hN
     ·have:nvals=[]:=Z9 hN.1.symm;subst this;exact ER.nil
    split at h
    ·rename_i s0 es;cases h1 with
     |tsl _ _ a hq=>
      split at h
      ·rename_i hse;split at h
       ·rename_i hn;cases h;subst hn;exact qI ⟨_,w,μ,vj t ty e ht hok a ay es.length es.length cy (Zi _),hH,Ext.refl _ _ _ _ _,.tsl _ _ _ hq⟩
       ·rename_i hn;split at h
        ·rename_i hlim;cases h;obtain⟨ad,rfl,hc⟩:=hcells hn;obtain⟨vals,hE,hb⟩:∃vals,ER w (Im X μ hp) (shOf P e) es vals/\((a=none/\es=[]/\es.length=0)\/∃bd,a=some bd/\∀(j:Nat) (u:Value),(cellsOf vals)[j]? =some u->w.cell? (bd.add j)=some u):=by
          cases hq with
          |nilsl=>
           refine⟨[],ER.nil,?_⟩;cases a with
           |none=>exact .inl ⟨rfl,rfl,rfl⟩
           |some bd=>exact .inr ⟨bd,rfl,by simp[cellsOf]⟩
          |sl _ _ b o _ cs t' fr vals hvl hI hb h1 h2 hc hn=>
           rcases hse with rfl|rfl
           ·exact⟨vals,⟨hvl,fun k p v hp hv=>⟨h1 k p v hp hv,h2 k p v hp hv⟩⟩,.inr ⟨_,rfl,qH hb hc⟩⟩
           ·have:vals=[]:=Z9 hvl.symm;subst this;exact⟨[],ER.nil,.inr ⟨_,rfl,by simp[cellsOf]⟩⟩
         have hpn:0<new.length:=List.length_pos_iff.2 hn;obtain⟨c',cells,g1,g2,g3,g4⟩:=vk (ty:=ty) ht hok hz hby hE hN' a es.length hb ad cy hc hn (by omega) hlim;have hEx:∀b,Ext b X μ hp w μ hp (w.drew.alloc (.cells cells e)):=fun b=>(Ext.drew b).trans (Ext.alloc b _);have hEp:∀b,Ext b X μ hp w (upd μ hp.length (some w.heap.size)) (hp++[.arr (shOf P e) (es++new) false]) (w.drew.alloc (.cells cells e)):=fun b=>Ext.push _ _ (hEx b) (fun k hk=>by cases hk;exact Zi _);have hER:=hE.append hN';refine qI ⟨_,_,upd μ hp.length (some w.heap.size),g1,?_,hEp b,?_⟩
         ·refine hH.push _ _ (hEx 0) (fun i k hi hk=>yL w.drew _ (hH.out i k hi hk).2) (fun k hk=>by cases hk;exact⟨Zi _,by simp⟩) (fun _ _ h=>by cases h) (fun s1 es1 fz h=> ?_) (fun _ _ h=>by cases h);cases h;exact⟨V2 hok,.inr ⟨_,cells,e,vals++nvals,rfl,yM w.drew _,hER.1,(ER.ext (hEp 0) hER).2,by rw[Zc];exact g4.symm⟩⟩
         ·exact .sl _ _ _ _ _ _ _ (es++new) false XF (by simp) g2 (fun _=>rfl) fun _=>⟨by simp,.inr ⟨_,cells,e,Yn _ _ _,yM w.drew _,by rw[ZH];exact g3.symm,fun _=>by simp⟩⟩
        ·cases h
      ·cases h
    ·rename_i s1 r ver off len;split at h
     ·rename_i s0 es ho;split at h
      ·rename_i hh;obtain⟨rfl,rfl,rfl⟩:=hh;split at h
       ·rename_i hlim;have hs1:s1=shOf P e:=by
         cases h1 with
         |sl _ _ _ _ _ _ _ es' fz' ho'=>rw[ho] at ho';cases ho';rfl
        subst hs1;obtain⟨base,cap,rfl⟩:∃base cap,x=.slice base len cap:=by cases h1;exact⟨_,_,rfl⟩
        have hclen:len<=es.length:=by
         cases h1 with
         |sl _ _ _ _ _ _ _ es' fz' ho' hv' hlc' ha' hc'=>rw[ho] at ho';cases ho';have:=(hc' rfl).1;omega
        have key:=bC (b:=b) (ty:=ty) (c:=cy) ht hok hz hby hH ho h1 hN' hcells hlim;split at h
        ·rename_i hle;cases h;subst hle;have e1:es.take es.length++new++es.drop (es.length+new.length)=es++new:=by rw[ZC,zr (by omega),ZF]
         rw[e1,Zc] at key;exact qI key
        ·split at h
         ·rename_i hle;cases h;have e1:(es.take len++new++es.drop (len+new.length)).length=es.length:=by simp only[Zc,Zn,ZY];omega
          rw[e1] at key;exact qI key
         ·split at h
          ·cases h;have e1:es.take len++new++es.drop (len+new.length)=es.take len++new:=by rw[zr (by omega),ZF]
           have e2:(es.take len++new).length=len+new.length:=by simp only[Zc,Zn];omega
           rw[e1,e2] at key;exact qI key
          ·cases h
       ·cases h
      ·cases h
     ·cases h
    ·cases h
   ·cases h
 ·cases h

theorem Kk(w:World)(X:Xc P)(μ:Nat->Option Nat)(hp:Heap):∀(d:Nat) (a:AV) (p:PV) (v:Value),AV.weaken d a=some p->AR w X μ hp a v->PR w (Im X μ hp) p v:=by
 intro d
 induction d with
 |zero=>intro a p v h;simp[AV.weaken] at h
 |succ d ih=>
  have go:∀(l:List (Sh × AV)) (ps:List (Sh × PV)) (vs:List Value),AV.weaken.go d l=some ps->CR w X μ hp l vs->CP w (Im X μ hp) ps vs:=by
   intro l
   induction l with
   |nil=>
    intro ps vs h hc;simp only[AV.weaken.go,Option.some.injEq] at h;subst h;rw[hc.nil_inv];exact CP.nil
   |cons x r ihl=>
    intro ps vs h hc;obtain⟨s,a⟩:=x;obtain⟨v,us,rfl,h1,_,h2,h3⟩:=hc.inv;simp only[AV.weaken.go] at h;split at h
    ·cases h
    ·rename_i p hp1;split at h
     ·rename_i ps' hg;cases h;exact CP.cons h1 (ih _ _ _ hp1 h2) (ihl _ _ hg h3)
     ·cases h
  intro a p v h ha;cases ha with
  |pv sh q v hs hq=>
   simp only[AV.weaken,Option.some.injEq] at h;subst h;exact hq
  |tsl sh es a hq=>
   simp only[AV.weaken,Option.some.injEq] at h;subst h;exact hq
  |agg l vs hl hs hs'=>
   simp only[AV.weaken] at h;split at h
   ·rename_i ps hg;cases h;exact(go _ _ vs hg ⟨hl,hs,hs'⟩).agg
   ·cases h
  |_=>simp[AV.weaken] at h

theorem bE{d:Nat}{a:AV}{p:PV}(h:AV.weaken d a=some p):a.plain=true:=by
 cases d with
 |zero=>simp[AV.weaken] at h
 |succ d=>cases a <;> first|rfl|(simp[AV.weaken] at h)
theorem JJ{d:Nat}{a:AV}{hp hp':Heap}{p:PV}(h:AV.freeze d a hp=some (p,hp')):a.plain=true:=by
 cases d with
 |zero=>simp[AV.freeze] at h
 |succ d=>cases a <;> first|rfl|(simp[AV.freeze] at h)

theorem Kl:∀(l:List AV) (ps:List (Sh × PV)) (vs:List Value),yu l=some ps->LR w X μ hp l vs->CP w (Im X μ hp) ps vs
 |[],ps,vs,h,hl=>by
  simp only[yu,Option.some.injEq] at h;subst h;cases hl;exact CP.nil
 |a::r,ps,vs,h,hl=>by
  cases hl with
  |cons ha hr=>
   simp only[yu] at h;split at h
   ·cases h
   ·rename_i p hp1;split at h
    ·rename_i ps' hg;cases h;exact CP.cons (ha.vshp (bE hp1)) (Kk w X μ hp _ _ _ _ hp1 ha) (Kl r ps' _ hg hr)
    ·cases h

theorem qJ(b0:Nat):∀(l:List AV) (hp:Heap) (ps:List (Sh × PV)) (hp':Heap) (vs:List Value),Yi l hp=some (ps,hp')->HR w X μ hp->LR w X μ hp l vs->Ext b0 X μ hp w μ hp' w/\HR w X μ hp'/\CP w (Im X μ hp') ps vs
 |[],hp,ps,hp',vs,h,hH,hl=>by
  simp only[Yi,Option.some.injEq,Prod.mk.injEq] at h;obtain⟨rfl,rfl⟩:=h;cases hl;exact⟨Ext.refl _ _ _ _ _,hH,CP.nil⟩
 |a::r,hp,ps,hp',vs,h,hH,hl=>by
  cases hl with
  |cons ha hr=>
   simp only[Yi] at h;split at h
   ·cases h
   ·rename_i p hp1 hf;split at h
    ·rename_i ps' hp2 hg;cases h;obtain⟨e1,k1,k2⟩:=Qs b0 w X μ _ _ _ _ _ _ hf hH ha;have hr':=LR.of hr.length fun i a v h1 h2=>e1.ar (hr.get i a v h1 h2);obtain⟨e2,k3,k4⟩:=qJ b0 r hp1 ps' hp' _ hg k1 hr';exact⟨e1.trans e2,k3,CP.cons (ha.vshp (JJ hf)) (e2.pr k2) k4⟩
    ·cases h

theorem JK{I:Nat->Prop}{sh:Sh}:∀{ps:List (Sh × PV)} {es:List PV} {vs:List Value},yf sh ps=some es->CP w I ps vs->ER w I sh es vs
 |[],es,vs,h,hc=>by
  simp only[yf,Option.some.injEq] at h;subst h;rw[hc.nil_inv];exact ER.nil
 |(s,p)::r,es,vs,h,hc=>by
  obtain⟨v,us,rfl,h1,h2,h3⟩:=hc.inv;simp only[yf] at h;split at h
  ·rename_i hs;subst hs;split at h
   ·rename_i l hl;cases h;obtain⟨k1,k2⟩:=JK hl h3;refine⟨by simp[k1],fun i q u hq hu=> ?_⟩;cases i with
    |zero=>simp at hq hu;subst hq;subst hu;exact⟨h1,h2⟩
    |succ i=>exact k2 i q u (by simpa using hq) (by simpa using hu)
   ·cases h
  ·cases h
end Go.Am

/- Structs, arrays and slices written out; make. -/
namespace Go.Am
variable{P:Program} {w:World} {X:Xc P} {μ:Nat->Option Nat} {hp:Heap}

theorem vm(off:Nat):∀(l:List Value) (k:Nat) (cells:Array Value),off+k+l.length<=cells.size->
  (l.zipIdx k).foldl (fun cs (x:Value × Nat)=>cs.setIfInBounds (off+x.2) x.1) cells=(cells.toList.take (off+k)++l++cells.toList.drop (off+k+l.length)).toArray
 |[],k,cells,h=>by simp
 |c::r,k,cells,h=>by
  have hl:off+k<cells.size:=by simp at h;omega
  rw[List.zipIdx_cons,zD,vm off r (k+1) _ (by simp at h ⊢;omega)];have e:=list_seg_step cells.toList (off+k) c r (by simp at h ⊢;omega);simp only[Array.toList_setIfInBounds,ZB]
  congr 1

theorem vq(place:Nat->Option (Nat × Nat))(cells:Array Value)(i:Nat)(v:Value)(rest:List (Nat × Value))(off:Nat)(hp:place i=some (off,v.cells.size))(hle:off+v.cells.size<=cells.size):
  Instr.fill place cells ((i,v)::rest)=Instr.fill place (cells.toList.take off++v.cells.toList++cells.toList.drop (off+v.cells.size)).toArray rest:=by
 have h1:¬((decide (v.cells.size≠v.cells.size) || decide (off+v.cells.size > cells.size))=true):=by simp;omega
 have h2:=vm off v.cells.toList 0 cells (by simpa using hle);simp only[Z1,Zs] at h2;have h3:v.cells.zipIdx.foldl (fun cs (x:Value × Nat)=>cs.setIfInBounds (off+x.2) x.1) cells=(v.cells.toList.zipIdx 0).foldl (fun cs (x:Value × Nat)=>cs.setIfInBounds (off+x.2) x.1) cells:=by
  rw[<-Array.foldl_toList,Array.toList_zipIdx]
 simp only[Instr.fill,hp];rw[Za h1];have h4:v.cells.zipIdx.foldl (fun cs x=>match x with|(c,j)=>cs.setIfInBounds (off+j) c) cells=v.cells.zipIdx.foldl (fun cs (x:Value × Nat)=>cs.setIfInBounds (off+x.2) x.1) cells:=rfl;rw[h4,h3,h2]

theorem vr{sz:Nat}:∀(us done:List Value) (cells:Array Value),(∀v∈us,v.cells.size=sz)->(∀v∈done,v.cells.size=sz)->cells.size=(done.length+us.length)*sz->cells.toList.take (done.length*sz)=cellsOf done->
  Instr.fill (fun i=>some (i*sz,sz)) cells ((List.range' done.length us.length).zip us)=some (cellsOf (done++us)).toArray
 |[],done,cells,_,_,hs,ht=>by
  simp only[List.zip_nil_right,Instr.fill,ZF]
  congr 1
  apply Array.ext';rw[<-ht,Zp (by simp at hs;simp[hs])]
 |v::r,done,cells,hu,hd,hs,ht=>by
  have hv:=hu v (by simp);have hle:done.length*sz+v.cells.size<=cells.size:=by rw[hs,hv];simp only[ZB,ZI];omega
  rw[ZB,List.range'_succ,List.zip_cons_cons,vq _ _ _ _ _ (done.length*sz) (by rw[hv]) hle];have hcl:cells.toList.length=cells.size:=Zs;have hl:(cells.toList.take (done.length*sz)).length=done.length*sz:=by rw[Zn];omega
  have ih:=vr r (done++[v]) ((cells.toList.take (done.length*sz)++v.cells.toList++cells.toList.drop (done.length*sz+v.cells.size)).toArray) (fun x hx=>hu x (by simp[hx]))
   (fun x hx=>by rcases Zr.1 hx with h|h;exact hd x h;simp at h;rw[h];exact hv) (by
    simp only[List.size_toArray,Zc,ZY,Zs,hl,ZB,zn];rw[hs,hv];simp only[ZB,ZI];omega) (by
    have e:(done++[v]).length*sz=(cells.toList.take (done.length*sz)++v.cells.toList).length:=by simp only[Zc,hl,Zs,hv,ZB,zn,ZI];omega
    rw[e];show List.take _ (cells.toList.take (done.length*sz)++v.cells.toList++_)=_;rw[ZD rfl,ht,xH];simp[cellsOf])
  have e2:(done++[v]).length=done.length+1:=by simp
  rw[e2] at ih;rw[ih];simp

theorem Km{parts:Array (Nat × Operand)}{ρ:Operand->Value}:(parts.map fun(x:Nat × Operand)=>(x.1,ρ x.2)).toList=(parts.toList.map (·.1)).zip ((parts.toList.map (·.2)).map ρ):=by
 rw[Array.toList_map]
 induction parts.toList with
 |nil=>rfl
 |cons x r ih=>simp[ih]

theorem Kn{t e:TypeId}{n:Nat}{parts:Array (Nat × Operand)}{ρ:Operand->Value}{I:Nat->Prop}{es:List PV}(ht:P.underlying t=some (.slice e))(hok:okT P e=true)(hz:yr P e=true)(hr:parts.toList.map (·.1)=List.range n)(hn:n*P.cellsOf e<=65536)
  (hE:ER w I (shOf P e) es ((parts.toList.map (·.2)).map ρ)):
  (Instr.buildSlice t n (parts.map fun(x:Nat × Operand)=>(x.1,ρ x.2))).run P w=.ok (.slice (some ⟨w.heap.size,0,none⟩) n n) (w.alloc (.cells (cellsOf ((parts.toList.map (·.2)).map ρ)).toArray e))/\es.length=n:=by
 obtain⟨i,z,hi,hiz,hsz,hzs⟩:=okE w hok hz;have hce:P.cellsOf e=(shOf P e).size:=by simp[Program.cellsOf,hi,hsz]
 rw[hce] at hn;have hlen:es.length=n:=by
  rw[hE.1,ZO,ZO];have:=congrArg List.length hr;simpa using this
 refine⟨?_,hlen⟩;have hbig:¬n*(shOf P e).size > 2 ^ 24:=by omega
 have hzero:(zeroValue e).run P w=.ok z w:=by simp[zeroValue,typeInfo,hi,hiz]
 have fillEq:∀cells:Array Value,cells.size=n*(shOf P e).size->Instr.fill (fun i=>some (i*(shOf P e).size,(shOf P e).size)) cells (parts.map fun(x:Nat × Operand)=>(x.1,ρ x.2)).toList=some (cellsOf ((parts.toList.map (·.2)).map ρ)).toArray:=by
  intro cells hc;rw[Km,hr,List.range_eq_range'];have:=vr (sz:=(shOf P e).size) ((parts.toList.map (·.2)).map ρ) [] cells hE.sizes (by simp) (by rw[<-hE.1,hlen];simpa using hc) (by simp[cellsOf]);rw[<-hE.1,hlen] at this;simpa using this
 by_cases h0:n*(shOf P e).size=0
 ·have hf:=fillEq (Array.map (fun x=>(#[]:Array Value)[x % (#[]:Array Value).size]!) (Array.range (n*(shOf P e).size))) (by simp);simp[Instr.buildSlice,run_underlying ht,Xt hok,h0,newRow] at hf ⊢;simp[hf]
 ·have hf:=fillEq (Array.map (fun x=>z.cells[x % z.cells.size]!) (Array.range (n*(shOf P e).size))) (by simp);simp[Instr.buildSlice,run_underlying ht,Xt hok,hbig,h0,newRow,hzero] at hf ⊢;simp[hf]

theorem vu{b n:Nat}{sh:Sh}{es:List PV}{vals:List Value}{t:TypeId}(hH:HR w X μ hp)(hE:ER w (Im X μ hp) sh es vals)(hn:es.length=n):
  AR (w.alloc (.cells (cellsOf vals).toArray t)) X μ hp (.tsl sh es) (.slice (some ⟨w.heap.size,0,none⟩) n n)/\HR (w.alloc (.cells (cellsOf vals).toArray t)) X μ hp/\Ext b X μ hp w μ hp (w.alloc (.cells (cellsOf vals).toArray t)):=by
 subst hn;refine⟨.tsl _ _ _ ?_,hH.alloc _,Ext.alloc b _⟩;have hE':=ER.ext (Ext.alloc (X:=X) (μ:=μ) (hp:=hp) (w:=w) 0 (.cells (cellsOf vals).toArray t)) hE;refine .sl sh es w.heap.size 0 es.length _ t (0,0) vals hE.1 ⟨fun hx=>by have:=hH.xlt _ hx;omega,fun i hl e=>by have:=(hH.out i _ (XR hl) e).2;omega⟩ (yM w _) (fun i p v hp hv=>(hE'.2 i p v hp hv).1) (fun i p v hp hv=>(hE'.2 i p v hp hv).2) ?_ (Zi _);simp only[Z4];rw[Zp (by rw[hE.length];exact Zi _)]
end Go.Am

/- Structs and arrays written out; strings cut; type assertions; make. -/
namespace Go.Am
variable{P:Program} {w:World} {X:Xc P} {μ:Nat->Option Nat} {hp:Heap}

theorem bF{l:List (Sh × AV)}{vals:List Value}{i:Nat}{sh:Sh}{a0 a:AV}{v:Value}(hc:CR w X μ hp l vals)(hi:l[i]? =some (sh,a0))(ha:AR w X μ hp a v)(hs:vshp v=sh)(hf:Flat v):
  CR w X μ hp (l.set i (sh,a)) (vals.set i v)/\total (l.take i)+v.cells.size<=(cellsOf vals).length/\cellsOf (vals.set i v)=(cellsOf vals).take (total (l.take i))++v.cells.toList++(cellsOf vals).drop (total (l.take i)+v.cells.size):=by
 induction l generalizing vals i with
 |nil=>simp at hi
 |cons x r ih=>
  obtain⟨s,a1⟩:=x;obtain⟨u,us,rfl,h1,h2,h3,h4⟩:=hc.inv;have hul:u.cells.toList.length=s.size:=by rw[Zs,YP,h1]
  have hvs:v.cells.size=sh.size:=by rw[YP,hs]
  cases i with
  |zero=>
   simp only[zQ,Option.some.injEq,Prod.mk.injEq] at hi;obtain⟨rfl,rfl⟩:=hi;refine⟨CR.cons hs hf ha h4,by simp[total,Yq,hvs,hul],?_⟩;simp only[zI,zd,total,ZH,Yq,ZE];rw[hvs,<-hul,zb]
  |succ i=>
   obtain⟨k1,k2,k3⟩:=ih h4 (by simpa using hi);refine⟨CR.cons h1 h2 h3 k1,by simp only[ZZ,total,Yq,Zc];omega,?_⟩;simp only[zJ,ZZ,total,Yq];rw[k3,zH,List.drop_append,Zp (by omega:u.cells.toList.length<=s.size+total (r.take i)),zr (by omega:u.cells.toList.length<=s.size+total (r.take i)+v.cells.size),hul,
    show s.size+total (r.take i) - s.size=total (r.take i) by omega,show s.size+total (r.take i)+v.cells.size - s.size=total (r.take i)+v.cells.size by omega]
   simp

theorem bG{l:List (Sh × AV)}{i:Nat}{sh:Sh}{a0 a:AV}(hi:l[i]? =some (sh,a0))(k:Nat):total ((l.set i (sh,a)).take k)=total (l.take k)/\(l.set i (sh,a)).map (·.1)=l.map (·.1):=by
 induction l generalizing i k with
 |nil=>simp at hi
 |cons x r ih=>
  cases i with
  |zero=>
   simp only[zQ,Option.some.injEq] at hi;subst hi;cases k with
   |zero=>simp[total]
   |succ k=>simp[total]
  |succ i=>
   have h:=fun k=>ih (i:=i) (by simpa using hi) k;cases k with
   |zero=>exact⟨by simp[total],by simp[(h 0).2]⟩
   |succ k=>exact⟨by simp[total,(h k).1],by simp[(h 0).2]⟩

theorem Ko{place:Nat->Option (Nat × Nat)}:∀(idx:List Nat) (as:List AV) (l l':List (Sh × AV)) (us vals:List Value) (cells:Array Value),x9 l idx as=some l'->CR w X μ hp l vals->cells.toList=cellsOf vals->LR w X μ hp as us->
  (∀i sh,(l.map (·.1))[i]? =some sh->place i=some (total (l.take i),sh.size))->∃vals',Instr.fill place cells (idx.zip us)=some (cellsOf vals').toArray/\CR w X μ hp l' vals'
 |[],as,l,l',us,vals,cells,h,hc,hcells,hl,hplace=>by
  cases as with
  |nil=>
   simp only[x9,Option.some.injEq] at h;subst h;refine⟨vals,?_,hc⟩;simp only[List.zip_nil_left,Instr.fill,<-hcells,Array.toArray_toList]
  |cons a r=>simp[x9] at h
 |i::idx,as,l,l',us,vals,cells,h,hc,hcells,hl,hplace=>by
  cases as with
  |nil=>simp[x9] at h
  |cons a r=>
   cases hl with
   |cons ha hr=>
    rename_i v us';simp only[x9] at h;split at h
    ·rename_i sh a0 hi;split at h
     ·rename_i hh;have hs:vshp v=sh:=by rw[ha.vshp hh.2,hh.1]
      have hvs:v.cells.size=sh.size:=by rw[YP,hs]
      obtain⟨k1,k2,k3⟩:=bF hc hi ha hs (ha.flat hh.2);have hpl:=hplace i sh (by simp[hi]);have hcl:cells.toList.length=cells.size:=Zs;rw[List.zip_cons_cons,vq place cells i v _ (total (l.take i)) (by rw[hpl,hvs]) (by rw[<-hcl,hcells];exact k2)];refine Ko idx r _ l' us' (vals.set i v) _ h k1 (by simp only[hcells,k3]) hr fun j s hj=> ?_;have ht:=fun k=>bG (a:=a) hi k;rw[(ht 0).2] at hj;rw[(ht j).1];exact hplace j s hj
     ·cases h
    ·cases h

theorem bH(P:Program)(d:Nat)(cs:Array Value):∀(fs:List Field) (o:Nat) (l:List (Sh × AV)),ofValue.fields P d cs o fs=some l->l.map (·.1)=fs.map (fun f=>shOf P f.type)/\∀i f,fs[i]? =some f->f.offset=o+total (l.take i):=by
 intro fs
 induction fs with
 |nil=>
  intro o l h;simp only[ofValue.fields,Qm] at h;split at h
  ·cases h;exact⟨rfl,by simp⟩
  ·cases h
 |cons f r ih=>
  intro o l h;simp only[ofValue.fields,Qm] at h;split at h
  ·rename_i ho;split at h
   ·cases h
   ·split at h
    ·rename_i l' hl';cases h;obtain⟨h1,h2⟩:=ih _ _ hl';refine⟨by simp[h1],fun i g hg=> ?_⟩;cases i with
     |zero=>simp at hg;subst hg;simp[total,ho]
     |succ i=>
      have:=h2 i g (by simpa using hg);rw[this,ZZ];simp only[total];omega
    ·cases h
  ·cases h
theorem bI(P:Program)(d:Nat)(cs:Array Value)(sh:Sh)(t:TypeId):∀(n o:Nat) (l:List (Sh × AV)),ofValue.items P d cs sh t o n=some l->∀i s,(l.map (·.1))[i]? =some s->s=sh/\total (l.take i)=i*sh.size:=by
 intro n
 induction n with
 |zero=>
  intro o l h;simp only[ofValue.items,Qn] at h;split at h
  ·cases h;intro i s hs;simp at hs
  ·cases h
 |succ n ih=>
  intro o l h;simp only[ofValue.items,Qn] at h;split at h
  ·cases h
  ·split at h
   ·rename_i l' hl';cases h;intro i s hs;cases i with
    |zero=>simp at hs;subst hs;simp[total]
    |succ i=>
     obtain⟨h1,h2⟩:=ih _ _ hl' i s (by simpa using hs);refine⟨h1,?_⟩;rw[ZZ];simp only[total,h2,ZI];omega
   ·cases h

theorem vw{l l':List (Sh × AV)}(h:(AV.ofComps l).comps=some l'):l'.map (·.1)=l.map (·.1):=by
 have key:∀(l:List (Sh × AV)) (ps:List (Sh × PV)),pures l=some ps->ps.map (·.1)=l.map (·.1):=by
  intro l
  induction l with
  |nil=>intro ps h;simp[pures] at h;subst h;rfl
  |cons x r ih=>
   intro ps h;obtain⟨s,a⟩:=x;cases a with
   |pv s' p=>
    simp only[pures] at h;split at h
    ·rename_i q hq;cases h;simp[ih _ hq]
    ·cases h
   |_=>simp[pures] at h
 unfold AV.ofComps at h;split at h
 ·rename_i ps hps;simp only[AV.comps,Option.some.injEq] at h;subst h;simp[key l ps hps,Function.comp_def]
 ·simp only[AV.comps,Option.some.injEq] at h;subst h;rfl
theorem Kq{α β:Type}:∀{a:List (Sh × α)} {b:List (Sh × β)},a.map (·.1)=b.map (·.1)->∀i,total (a.take i)=total (b.take i)
 |[],[],_,i=>by simp[total]
 |[],_::_,h,i=>by simp at h
 |_::_,[],h,i=>by simp at h
 |x::r,y::q,h,i=>by
  simp only[ZP,List.cons.injEq] at h;cases i with
  |zero=>simp[total]
  |succ i=>simp[total,h.1,Kq h.2 i]

theorem bJ{fs:List Field}(hok:fs.all (fun f=>okT P f.type)=true):(fs.mapM (fun f=>do pure (f.offset,<-sizeOf f.type)):Sem (List (Nat × Nat))).run P w=.ok (fs.map fun f=>(f.offset,(shOf P f.type).size)) w:=by
 induction fs with
 |nil=>rfl
 |cons f r ih=>
  simp only[List.all_cons,Zm] at hok;rw[List.mapM_cons];simp only[Sem.run_bind,Xt hok.1,Result.andThen_ok,Sem.run_pure,ih hok.2,ZP]

theorem bK{t:TypeId}{z:AV}{l:List (Sh × AV)}(hz:Y4 P t=some z)(hl:z.comps=some l)(w:World)(X:Xc P)(μ:Nat->Option Nat)(hp:Heap):
  ∃cs vals,(zeroValue t).run P w=.ok (.agg cs) w/\cs.toList=cellsOf vals/\CR w X μ hp l vals/\
   (∀fs,P.underlying t=some (.struct fs)->l.map (·.1)=fs.toList.map (fun f=>shOf P f.type)/\∀i f,fs[i]? =some f->f.offset=total (l.take i))/\
   (∀n e,P.underlying t=some (.array n e)->∀i s,(l.map (·.1))[i]? =some s->s=shOf P e/\total (l.take i)=i*(shOf P e).size):=by
 obtain⟨v,h1,h2,h3⟩:=QY (w:=w) (X:=X) (μ:=μ) (hp:=hp) hz;obtain⟨vals,rfl,hc⟩:=VZ hl h2;refine⟨_,vals,h1,rfl,hc,?_,?_⟩
 ·intro fs ht;unfold Y4 at hz;split at hz
  ·split at hz
   ·rename_i zv hzv;unfold ofValue at hz;split at hz <;> first|(simp only[Option.some.injEq] at hz;subst hz;simp[AV.comps] at hl;done)|skip
    ·split at hz
     ·simp only[Option.some.injEq] at hz;subst hz;simp[AV.comps] at hl
     ·cases hz
    ·simp only[ht] at hz;split at hz
     ·rename_i l0 hl0;cases hz;obtain⟨f1,f2⟩:=bH P _ _ _ _ _ hl0;have hm:=vw hl;refine⟨by rw[hm,f1],fun i f hf=> ?_⟩;rw[f2 i f (by simpa using hf),ZH];exact(Kq hm i).symm
     ·cases hz
    ·cases hz
   ·cases hz
  ·cases hz
 ·intro n e ht;unfold Y4 at hz;split at hz
  ·split at hz
   ·rename_i zv hzv;unfold ofValue at hz;split at hz <;> first|(simp only[Option.some.injEq] at hz;subst hz;simp[AV.comps] at hl;done)|skip
    ·split at hz
     ·simp only[Option.some.injEq] at hz;subst hz;simp[AV.comps] at hl
     ·cases hz
    ·simp only[ht] at hz;split at hz
     ·rename_i l0 hl0;cases hz;have hm:=vw hl;intro i s hs;rw[hm] at hs;obtain⟨a1,a2⟩:=bI P _ _ _ _ _ _ _ hl0 i s hs;exact⟨a1,by rw[Kq hm i];exact a2⟩
     ·cases hz
    ·cases hz
   ·cases hz
  ·cases hz

theorem vz{t:TypeId}{parts:Array (Nat × Operand)}{ρ:Operand->Value}{z:AV}{l:List (Sh × AV)}{vs:List AV}{v:AV}(hz:Y4 P t=some z)(hc:z.comps=some l)
  (ht:(∃fs,P.underlying t=some (.struct fs)/\fs.toList.all (fun f=>okT P f.type)=true)\/∃n e,P.underlying t=some (.array n e)/\okT P e=true)
  (hl:LR w X μ hp vs ((parts.toList.map (·.2)).map ρ))(h:Ym l (parts.toList.map (·.1)) vs=some v):Yz P w X μ hp (do pure (.value (<-Instr.build t (parts.map fun(x:Nat × Operand)=>(x.1,ρ x.2))))) v:=by
 obtain⟨cs,vals,z1,z2,z3,z4,z5⟩:=bK hz hc w X μ hp;unfold Ym at h;split at h
 ·split at h
  ·rename_i l' hl';cases h;rcases ht with⟨fs,ht,hok⟩|⟨n,e,ht,hok⟩
   ·obtain⟨f1,f2⟩:=z4 fs ht;obtain⟨vals',k1,k2⟩:=Ko (place:=((fs.map fun f=>(f.offset,(shOf P f.type).size))[·]?)) _ _ _ _ _ _ cs hl' z3 z2 hl (by
     intro i sh hi;rw[f1] at hi;simp only[zP,Z7] at hi;obtain⟨f,hf,rfl⟩:=hi;have hf':fs[i]? =some f:=by simpa using hf
     simp[hf',f2 i f hf'])
    refine⟨.agg (cellsOf vals').toArray,?_,k2.ofComps⟩;have hm:(fs.mapM (fun f=>do pure (f.offset,<-sizeOf f.type)):Sem (Array (Nat × Nat))).run P w=.ok (fs.map fun f=>(f.offset,(shOf P f.type).size)) w:=by
     rw[Array.mapM_eq_mapM_toList];simp only[Sem.run_map,bJ hok,Result.andThen_ok,<-Array.toList_map,Array.toArray_toList]
    rw[<-Km] at k1;simp only[Instr.build,Sem.run_bind,z1,Result.andThen_ok,run_underlying ht,hm,Value.cells,k1,Sem.run_pure]
   ·have f2:=z5 n e ht;obtain⟨vals',k1,k2⟩:=Ko (place:=fun i=>some (i*(shOf P e).size,(shOf P e).size)) _ _ _ _ _ _ cs hl' z3 z2 hl (by
     intro i sh hi;obtain⟨a1,a2⟩:=f2 i sh hi;rw[a1,a2])
    refine⟨.agg (cellsOf vals').toArray,?_,k2.ofComps⟩;rw[<-Km] at k1;simp only[Instr.build,Sem.run_bind,z1,Result.andThen_ok,run_underlying ht,Xt hok,Value.cells,k1,Sem.run_pure]
  ·cases h
 ·cases h
end Go.Am

/- Structs compared; strings cut; type assertions; maps read and written. -/
namespace Go.Am
variable{P:Program} {w:World} {X:Xc P} {μ:Nat->Option Nat} {hp:Heap}

theorem QZ{t:TypeId}{d:TypeDesc}(ht:P.underlying t=some d)(hn:shOf P t=none){cs:Array Value}{o:Nat}{v:Value}(h:cs[o]? =some v):(part t cs o).run P w=.ok v w:=by
 simp only[part,Sem.run_bind,Ke ht,hn,zL,Result.andThen_ok,ZR,if_false,h,Sem.run_pure]

theorem PR.int_inv{I:Nat->Prop}{k:IntKind}{n:Int}{v:Value}(h:PR w I (.int k n) v):v=.int k n:=by cases h;rfl
theorem PR.str_inv{I:Nat->Prop}{s:List UInt8}{v:Value}(h:PR w I (.str s) v):v=.string ⟨s.toArray⟩:=by cases h;rfl
theorem PR.bool_inv{I:Nat->Prop}{b:Bool}{v:Value}(h:PR w I (.bool b) v):v=.bool b:=by cases h;rfl

theorem Q0{α:Type}{l:List α}{o:Nat}{a:α}{r:List α}(h:l.drop o=a::r):l[o]? =some a/\l.drop (o+1)=r:=by
 have h1:(l.drop o)[0]? =some a:=by rw[h];rfl
 refine⟨by simpa using h1,?_⟩;have h2:=congrArg (List.drop 1) h;simpa[ZN] using h2

theorem JL{I:Nat->Prop}(d:Nat)(xs ys:Array Value):∀(fs:List Field) (ds:List Nat) (o:Nat) (lx ly:List (Sh × PV)) (vx vy:List Value) (b:Bool),
  JB P o fs=some ds->y7 ds lx ly=some b->CP w I lx vx->CP w I ly vy->xs.toList.drop o=cellsOf vx->ys.toList.drop o=cellsOf vy->(Op.eqFields (d+1) xs ys fs).run P w=.ok b w
 |[],ds,o,lx,ly,vx,vy,b,hk,he,hx,hy,h1,h2=>by
  cases hk;cases lx <;> cases ly <;> simp[y7] at he
  subst he;rfl
 |f::r,ds,o,lx,ly,vx,vy,b,hk,he,hx,hy,h1,h2=>by
  simp only[JB] at hk;split at hk
  ·rename_i hf;obtain⟨rfl,hf⟩:=hf;split at hk
   ·rename_i k l hd hl;cases hk;have hn:shOf P f.type=none:=by simp[shOf,hd]
    match lx,ly,he,hx,hy with
    |(none,.int k1 a)::lx,(none,.int k2 a')::ly,he,hx,hy=>
     simp only[y7] at he;split at he
     ·rename_i hkk;subst hkk;obtain⟨u,us,rfl,_,g1,g2⟩:=hx.inv;obtain⟨v,vs,rfl,_,g3,g4⟩:=hy.inv;have e1:=g1.int_inv;have e2:=g3.int_inv;subst e1;subst e2;simp only[Yq,Value.cells,Zw,ZE] at h1 h2;obtain⟨a1,a2⟩:=Q0 h1;obtain⟨b1,b2⟩:=Q0 h2;have p1:=QZ (w:=w) hd hn (by simpa using a1);have p2:=QZ (w:=w) hd hn (by simpa using b1);simp only[Op.eqFields,hf,if_true,ne_eq,not_false_eq_true,Sem.run_bind,p1,p2,Result.andThen_ok,run_equalIn_int w d _ _ _ _ _ hd];split at he
      ·rename_i hab;subst hab;simp only[BEq.rfl,Bool.not_true,ZR,if_false];exact JL d xs ys r l _ lx ly us vs b hl he g2 g4 a2 b2
      ·rename_i hab;cases he;have:(a == a')=false:=by simpa using hab
       simp only[this,Bool.not_false,if_true,Sem.run_pure]
     ·cases he
    |[],_,he,_,_=>simp[y7] at he
    |_,[],he,_,_=>simp[y7] at he
   ·rename_i l hd hl;cases hk;have hn:shOf P f.type=none:=by simp[shOf,hd]
    match lx,ly,he,hx,hy with
    |(none,.str a)::lx,(none,.str a')::ly,he,hx,hy=>
     simp only[y7] at he;obtain⟨u,us,rfl,_,g1,g2⟩:=hx.inv;obtain⟨v,vs,rfl,_,g3,g4⟩:=hy.inv;have e1:=g1.str_inv;have e2:=g3.str_inv;subst e1;subst e2;simp only[Yq,Value.cells,Zw,ZE] at h1 h2;obtain⟨a1,a2⟩:=Q0 h1;obtain⟨b1,b2⟩:=Q0 h2;have p1:=QZ (w:=w) hd hn (by simpa using a1);have p2:=QZ (w:=w) hd hn (by simpa using b1);simp only[Op.eqFields,hf,if_true,ne_eq,not_false_eq_true,Sem.run_bind,p1,p2,Result.andThen_ok,run_equalIn_string w d _ _ _ hd,ByteArray.toList_mk];split at he
     ·rename_i hab;subst hab;simp only[BEq.rfl,Bool.not_true,ZR,if_false];exact JL d xs ys r l _ lx ly us vs b hl he g2 g4 a2 b2
     ·rename_i hab;cases he;have:(a == a')=false:=by simpa using hab
      simp only[this,Bool.not_false,if_true,Sem.run_pure]
    |[],_,he,_,_=>simp[y7] at he
    |_,[],he,_,_=>simp[y7] at he
   ·rename_i l hd hl;cases hk;have hn:shOf P f.type=none:=by simp[shOf,hd]
    match lx,ly,he,hx,hy with
    |(none,.bool a)::lx,(none,.bool a')::ly,he,hx,hy=>
     simp only[y7] at he;obtain⟨u,us,rfl,_,g1,g2⟩:=hx.inv;obtain⟨v,vs,rfl,_,g3,g4⟩:=hy.inv;have e1:=g1.bool_inv;have e2:=g3.bool_inv;subst e1;subst e2;simp only[Yq,Value.cells,Zw,ZE] at h1 h2;obtain⟨a1,a2⟩:=Q0 h1;obtain⟨b1,b2⟩:=Q0 h2;have p1:=QZ (w:=w) hd hn (by simpa using a1);have p2:=QZ (w:=w) hd hn (by simpa using b1);simp only[Op.eqFields,hf,if_true,ne_eq,not_false_eq_true,Sem.run_bind,p1,p2,Result.andThen_ok,run_equalIn_bool' w d _ _ _ hd];split at he
     ·rename_i hab;subst hab;simp only[BEq.rfl,Bool.not_true,ZR,if_false];exact JL d xs ys r l _ lx ly us vs b hl he g2 g4 a2 b2
     ·rename_i hab;cases he;have:(a == a')=false:=by simpa using hab
      simp only[this,Bool.not_false,if_true,Sem.run_pure]
    |[],_,he,_,_=>simp[y7] at he
    |_,[],he,_,_=>simp[y7] at he
   ·cases hk
  ·cases hk

theorem bL{o:BinOp}(ho:o=.eql\/o=.neq){t:TypeId}{x y:Operand}{vx vy:Value}{ds:List Nat}{vs:List AV}{v:AV}(hd:jZ P t=some ds)(hl:LR w X μ hp vs [vx,vy])(h:sEqs (yJ o) ds vs=some v):
  Yz P w X μ hp (do pure (.value (<-(do eqGuard o t x y vx vy;binOp o t vx vy)))) v:=by
 unfold sEqs at h;split at h
 ·obtain⟨a,b,e,h1,h2⟩:=hl.two;cases e;split at h
  ·rename_i r hr;cases h;cases h1 with|pv _ _ _ hs1 h1=>
   cases h2 with|pv _ _ _ hs2 h2=>
   cases h1 with|agg _ ux hl1 k1 k1'=>
   cases h2 with|agg _ uy hl2 k2 k2'=>
   unfold jZ at hd;split at hd
   ·rename_i fs ht;split at hd
    ·rename_i hg;have hfo:P.fieldsOf t=fs:=by simp[Program.fieldsOf,ht]
     have hE:(Op.equalIn 10000 t (.agg (cellsOf ux).toArray) (.agg (cellsOf uy).toArray)).run P w=.ok r w:=by
      rw[run_equalIn_agg w 9999 t _ _ (by rw[hfo];exact ht) hg.1,hfo];exact JL 9998 _ _ _ _ 0 _ _ ux uy r hd hr ⟨hl1,k1,k1'⟩ ⟨hl2,k2,k2'⟩ (by simp) (by simp)
     rcases ho with rfl|rfl
     ·exact⟨.bool r,by simp only[Sem.run_bind,run_eqGuard_agg w .eql t x y _ _ hg.2,Result.andThen_ok,run_eql_struct,hE,Sem.run_pure],.mkBool _⟩
     ·exact⟨.bool (!r),by simp only[Sem.run_bind,run_eqGuard_agg w .neq t x y _ _ hg.2,Result.andThen_ok,run_neq_struct,hE,Sem.run_pure],.mkBool _⟩
    ·cases hd
   ·cases hd
  ·cases h
 ·cases h
end Go.Am

/- Maps; strings cut; type assertions; make. -/
namespace Go.Am
variable{P:Program} {w:World} {X:Xc P} {μ:Nat->Option Nat} {hp:Heap}

theorem Ext.setMap{b0 r:Nat}{sh:Sh}{old new:List (PV × PV)}(hr:hp[r]? =some (.map sh old)){w':World}{b:Nat}(hb:μ r=some b)(hos:w'.os=w.os)(ht:w'.tape=w.tape)(ho:w'.output=w.output)
  (hsz:w'.heap.size=w.heap.size)(hoth:∀k,k≠b->w'.heap[k]? =w.heap[k]?)(hsh:∀cs t fr,w.heap[b]?≠some (.cells cs t fr)):Ext b0 X μ hp w μ (hp.set r (.map sh new)) w' where
 os:=hos
 tape:=ht
 output:=ho
 size:=by omega
 blk k hk hm:=hoth k fun e=>by
  subst e;exact hm r (by simp[Am.live,hr]) hb
 shape k cs t fr hk:=by
  by_cases e:k=b
  ·subst e;exact absurd hk (hsh cs t fr)
  ·exact⟨cs,by rw[hoth k e];exact hk,rfl⟩
 len:=by simp
 box i s u hi:=by
  have e:i≠r:=by rintro rfl;rw[hr] at hi;cases hi
  exact⟨u,by rw[Zy (Ne.symm e)];exact hi,rfl,fun _ _ h=>h⟩
 arr i s es fz hi:=by
  have e:i≠r:=by rintro rfl;rw[hr] at hi;cases hi
  exact⟨es,fz,by rw[Zy (Ne.symm e)];exact hi,Zi _,fun e=>⟨e,rfl⟩,fun _=>rfl⟩
 map i s es hi:=by
  by_cases e:i=r
  ·subst e;rw[hr] at hi;cases hi;exact⟨new,by rw[ZG (Ze.1 hr).1],rfl⟩
  ·exact⟨es,by rw[Zy (Ne.symm e)];exact hi,rfl⟩
 loop i f ps env bz hi:=by
  have e:i≠r:=by rintro rfl;rw[hr] at hi;cases hi
  exact⟨bz,by rw[Zy (Ne.symm e)];exact hi,rfl⟩
 new i h1 h2:=by simp at h2;omega
 mov i _ k hk:=.inl hk

def MR(w:World)(I:Nat->Prop)(sh:Sh)(es:List (PV × PV))(ents:List MapEntry):Prop:=
 es.length=ents.length/\∀(k:Nat) (x:PV × PV) (e:MapEntry),es[k]? =some x->ents[k]? =some e->PR w I x.1 e.key/\PR w I x.2 e.val/\vshp e.val=sh

theorem HR.setMap{b0 r:Nat}{sh:Sh}{old new:List (PV × PV)}(h:HR w X μ hp)(hr:hp[r]? =some (.map sh old)){w':World}{b:Nat}(hb:μ r=some b)(E:Ext b0 X μ hp w μ (hp.set r (.map sh new)) w')(hoth:∀k,k≠b->w'.heap[k]? =w.heap[k]?)
  {ents:Array MapEntry}{clock:Nat}(h1:w'.heap[b]? =some (.map ents clock))(h2:MR w (Im X μ hp) sh new ents.toList):HR w' X μ (hp.set r (.map sh new)):=by
 have hlen:(hp.set r (.map sh new)).length=hp.length:=by simp
 have other:∀i k,i<hp.length->i≠r->μ i=some k->w'.heap[k]? =w.heap[k]? :=fun i k hi hne hk=>hoth k fun e=>by
  subst e;exact hne (h.inj i r k hi (Ze.1 hr).1 hk hb)
 refine⟨?_,?_,?_,?_,?_,?_,?_⟩
 ·intro i j k hi hj;rw[hlen] at hi hj;exact h.inj i j k hi hj
 ·intro i k hi hk;rw[hlen] at hi;exact⟨(h.out i k hi hk).1,ZM (h.out i k hi hk).2 E.size⟩
 ·exact fun k hx=>ZM (h.xlt k hx) E.size
 ·intro i s u hi;rcases Xs hi with⟨rfl,e⟩|⟨hne,hi⟩
  ·cases e
  ·obtain⟨k,val,t,k1,k2,k3,k4,k5⟩:=h.box i s u hi;exact⟨k,val,t,k1,by rw[other i k (Ze.1 hi).1 hne k1];exact k2,k3,k4,E.ar k5⟩
 ·intro i s es fz hi;rcases Xs hi with⟨rfl,e⟩|⟨hne,hi⟩
  ·cases e
  ·obtain⟨k0,k1⟩:=h.arr i s es fz hi;refine⟨k0,?_⟩;rcases k1 with k1|⟨k,cs,t,vals,k1,k2,k3,k4,k5⟩
   ·exact .inl k1
   ·exact .inr ⟨k,cs,t,vals,k1,by rw[other i k (Ze.1 hi).1 hne k1];exact k2,k3,fun j p v hj hv=>⟨(k4 j p v hj hv).1,E.pr (k4 j p v hj hv).2⟩,k5⟩
 ·intro i s es hi;rcases Xs hi with⟨rfl,e⟩|⟨hne,hi⟩
  ·cases e;exact⟨b,ents,clock,hb,h1,by simpa using h2.1,fun j x y hj hy=>by
    obtain⟨a1,a2,a3⟩:=h2.2 j x y hj (by simpa using hy);exact⟨E.pr a1,E.pr a2,a3⟩⟩
  ·obtain⟨k,ents,clock,k1,k2,k3,k4⟩:=h.map i s es hi;exact⟨k,ents,clock,k1,by rw[other i k (Ze.1 hi).1 hne k1];exact k2,k3,fun j x y hj hy=>⟨E.pr (k4 j x y hj hy).1,E.pr (k4 j x y hj hy).2.1,(k4 j x y hj hy).2.2⟩⟩
 ·intro i f ps env bz hi;rcases Xs hi with⟨rfl,e⟩|⟨hne,hi⟩
  ·cases e
  ·obtain⟨l,rc,k1,k2,k3,k4,k5,k6,k7⟩:=h.loop i f ps env bz hi;exact⟨l,rc,k1,by rw[other i l (Ze.1 hi).1 hne k1];exact k2,k3,k4,k5,k6,fun x hx=>⟨(k7 x hx).1,E.ar (k7 x hx).2⟩⟩

theorem MR.nil{I:Nat->Prop}{sh:Sh}{ents:List MapEntry}(h:MR w I sh [] ents):ents=[]:=Z9 (by have:=h.1;simp at this;exact this.symm)
theorem MR.inv{I:Nat->Prop}{sh:Sh}{x:PV × PV}{es:List (PV × PV)}{ents:List MapEntry}(h:MR w I sh (x::es) ents):∃e r,ents=e::r/\PR w I x.1 e.key/\PR w I x.2 e.val/\vshp e.val=sh/\MR w I sh es r:=by
 cases ents with
 |nil=>have:=h.1;simp at this
 |cons e r=>
  obtain⟨a,b,c⟩:=h.2 0 x e rfl rfl;exact⟨e,r,rfl,a,b,c,by have:=h.1;simpa using this,fun k y f hy hf=>h.2 (k+1) y f (by simpa using hy) (by simpa using hf)⟩
theorem MR.cons{I:Nat->Prop}{sh:Sh}{x:PV × PV}{e:MapEntry}{es:List (PV × PV)}{ents:List MapEntry}(h1:PR w I x.1 e.key)(h2:PR w I x.2 e.val)(h3:vshp e.val=sh)(h:MR w I sh es ents):MR w I sh (x::es) (e::ents):=by
 refine⟨by simp[h.1],fun k y f hy hf=> ?_⟩;cases k with
 |zero=>simp at hy hf;subst hy;subst hf;exact⟨h1,h2,h3⟩
 |succ k=>exact h.2 k y f (by simpa using hy) (by simpa using hf)

def KK(s:Bool)(d:TypeDesc):Prop:=(s=true/\d=.string)\/(s=false/\∃k,d=.int k)
theorem vA{t:TypeId}{s:Bool}(h:Qo P t=some s):∃d,P.underlying t=some d/\KK s d:=by
 unfold Qo at h;split at h
 ·rename_i hd;cases h;exact⟨_,hd,.inl ⟨rfl,rfl⟩⟩
 ·rename_i k hd;cases h;exact⟨_,hd,.inr ⟨rfl,k,rfl⟩⟩
 ·cases h

theorem bM(n:Nat)(k:IntKind)(a:Int):Instr.sameBits n (.int k a) (.int k a)=true:=by cases n <;> simp[Instr.sameBits]
theorem bN(n:Nat)(a:List UInt8):Instr.sameBits n (.string ⟨a.toArray⟩) (.string ⟨a.toArray⟩)=true:=by
 cases n <;> simp[Instr.sameBits,beq_toListBytes]
theorem JM{I:Nat->Prop}{s:Bool}{d:TypeDesc}{k k':PV}{v v':Value}{b:Bool}(hd:KK s d)(h:PV.same s k k'=some b)(h1:PR w I k v)(h2:PR w I k' v'):Instr.sameNow d v v'=some b/\(b=true->v=v')/\Instr.sameBits 10000 v v=true:=by
 unfold PV.same at h;split at h
 ·split at h
  ·rename_i hk;cases h;subst hk;rcases hd with⟨hd,_⟩|⟨_,q,rfl⟩
   ·cases hd
   ·rw[h1.int_inv,h2.int_inv];refine⟨?_,fun e=>by simp at e;rw[e],bM _ _ _⟩;simp only[Instr.sameNow,if_true,Option.some.injEq];rfl
  ·cases h
 ·cases h;rcases hd with⟨_,rfl⟩|⟨hd,_⟩
  ·rw[h1.str_inv,h2.str_inv];refine⟨?_,fun e=>by simp at e;rw[e],bN _ _⟩;simp only[Instr.sameNow,Option.some.injEq];rw[beq_toListBytes,ByteArray.toList_mk,ByteArray.toList_mk,V3]
  ·cases hd
 ·cases h

theorem Kr{I:Nat->Prop}{s:Bool}{d:TypeDesc}{sh:Sh}{k:PV}{kv:Value}(hd:KK s d)(hk:PR w I k kv):∀(es:List (PV × PV)) (ents:List MapEntry) (i:Nat) (r:Option PV),afind s k es=some r->MR w I sh es ents->
  ∃q,Instr.findNow d kv ents i=some q/\match r with|none=>q=none|some p=>∃j v,q=some (j,v)/\PR w I p v/\vshp v=sh
 |[],ents,i,r,h,hm=>by
  cases h;rw[hm.nil];exact⟨none,rfl,rfl⟩
 |(k',v')::es,ents,i,r,h,hm=>by
  obtain⟨e,rest,rfl,g1,g2,g3,g4⟩:=hm.inv;simp only[afind] at h;split at h
  ·cases h
  ·rename_i hs;cases h;obtain⟨n1,n2⟩:=JM hd hs hk g1;exact⟨some (i,e.val),by simp[Instr.findNow,n1],i,e.val,rfl,g2,g3⟩
  ·rename_i hs;obtain⟨n1,n2⟩:=JM hd hs hk g1;obtain⟨q,q1,q2⟩:=Kr hd hk es rest (i+1) r h g4;exact⟨q,by simp[Instr.findNow,n1,q1],q2⟩

theorem vB{I:Nat->Prop}{s:Bool}{d:TypeDesc}{sh:Sh}{k p:PV}{kv pv:Value}(hd:KK s d)(hk:PR w I k kv)(hp:PR w I p pv)(hs:vshp pv=sh):∀(es:List (PV × PV)) (ents:List MapEntry) (i:Nat) (es':List (PV × PV)),aput s k p es=some es'->MR w I sh es ents->
  (Instr.findNow d kv ents i=some none/\∀b,MR w I sh es' (ents++[{ key:=kv,val:=pv,born:=b }]))\/
  (∃j e v,Instr.findNow d kv ents i=some (some (i+j,v))/\ents[j]? =some e/\e.key=kv/\Instr.sameBits 10000 kv kv=true/\MR w I sh es' (ents.modify j fun e=>{ e with key:=kv,val:=pv }))
 |[],ents,i,es',h,hm=>by
  cases h;rw[hm.nil];exact .inl ⟨rfl,fun b=>MR.cons hk hp hs ⟨rfl,by simp⟩⟩
 |(k',v')::es,ents,i,es',h,hm=>by
  obtain⟨e,rest,rfl,g1,g2,g3,g4⟩:=hm.inv;simp only[aput] at h;split at h
  ·cases h
  ·rename_i hsm;cases h;obtain⟨n1,n2⟩:=JM hd hsm hk g1;refine .inr ⟨0,e,e.val,by simp[Instr.findNow,n1],rfl,(n2.1 rfl).symm,n2.2,?_⟩;exact MR.cons hk hp hs g4
  ·rename_i hsm;obtain⟨n1,n2⟩:=JM hd hsm hk g1;split at h
   ·rename_i l hl;cases h;rcases vB hd hk hp hs es rest (i+1) l hl g4 with⟨a1,a2⟩|⟨j,f,v,a1,a2,a3,a5,a4⟩
    ·exact .inl ⟨by simp[Instr.findNow,n1,a1],fun b=>MR.cons g1 g2 g3 (a2 b)⟩
    ·refine .inr ⟨j+1,f,v,by simp[Instr.findNow,n1,a1];omega,a2,a3,a5,?_⟩;exact MR.cons g1 g2 g3 a4
   ·cases h

theorem bO{s:Bool}{d:TypeDesc}{t:TypeId}(e:Bool)(ht:P.underlying t=some d)(hd:KK s d)(v:Value)(n:Nat):(Instr.checkKey e (n+1) t v).run P w=.ok () w:=by
 rcases hd with⟨_,rfl⟩|⟨_,k,rfl⟩ <;> simp[Instr.checkKey,run_underlying ht]
theorem JN{s:Bool}{d:TypeDesc}{t:TypeId}(e:Bool)(ht:P.underlying t=some d)(hd:KK s d)(v:Value):(Instr.checkKey e 10000 t v).run P w=.ok () w:=bO e ht hd v 9999
theorem JO{r:Nat}{es:Array MapEntry}{clock:Nat}(hb:w.heap[r]? =some (.map es clock)):(getObj r).run P w=.ok (.map es clock) w:=by simp[getObj,Sem.run,hb]
theorem vC{r:Nat}{es:Array MapEntry}{clock:Nat}(o:Obj)(hb:w.heap[r]? =some (.map es clock)):(setObj r o).run P w=.ok () { w with heap:=w.heap.setIfInBounds r o }:=by simp[setObj,Sem.run,hb]

theorem bP{t tk te:TypeId}{s:Bool}{x k:Value}{z:AV}{ok:Bool}{vs:List AV}{v:AV}(ht:P.underlying t=some (.map tk te))(hk:Qo P tk=some s)(hz:Y4 P te=some z)(hH:HR w X μ hp)(hl:LR w X μ hp vs [x,k])
  (h:yh s (shOf P te) z ok hp vs=some v):Yz P w X μ hp (do pure (.value (<-Instr.lookup t x k ok))) v:=by
 obtain⟨d,hd,hKK⟩:=vA hk;obtain⟨zv,z1,z2,z3⟩:=QY (w:=w) (X:=X) (μ:=μ) (hp:=hp) hz;unfold yh at h;split at h
 ·rename_i r s0 kp;obtain⟨a,b,e,h1,h2⟩:=hl.two;cases e;cases h1 with|map _ b0 sh0 es0 ho0 hb0=>
  cases h2 with|pv _ _ _ _ h2=>
  split at h
  ·rename_i sh es hr;split at h
   ·rename_i hsh;subst hsh;obtain⟨b1,ents,clock,m1,m2,m3,m4⟩:=hH.map r _ _ hr;rw[hb0] at m1;cases m1;have hM:MR w (Im X μ hp) (shOf P te) es ents.toList:=⟨by simpa using m3,fun k x e hx he=>m4 k x e hx (by simpa using he)⟩;split at h
    ·rename_i p hf;cases h;obtain⟨q,q1,j,v,rfl,q3,q4⟩:=Kr hKK h2 es ents.toList 0 _ hf hM;have hrun:(Instr.lookup t (.map (some b0)) k ok).run P w=.ok (if ok=true then .tuple #[v,.bool true] else v) w:=by
      simp[Instr.lookup,run_underlying ht,JO m2,JN _ hd hKK,Instr.findKey,run_underlying hd,q1]
     cases ok
     ·exact yN hrun (.pv _ _ _ q4 q3)
     ·exact yN hrun (.tuple _ [v,.bool true] rfl (fun i a u ha hu=>by
       match i,ha,hu with
       |0,ha,hu=>simp at ha hu;subst ha;subst hu;exact .pv _ _ _ q4 q3
       |1,ha,hu=>simp at ha hu;subst ha;subst hu;exact .mkBool _))
    ·rename_i hf;cases h;obtain⟨q,q1,rfl⟩:=Kr hKK h2 es ents.toList 0 _ hf hM;have hrun:(Instr.lookup t (.map (some b0)) k ok).run P w=.ok (if ok=true then .tuple #[zv,.bool false] else zv) w:=by
      simp[Instr.lookup,run_underlying ht,JO m2,JN _ hd hKK,Instr.findKey,run_underlying hd,q1,z1]
     cases ok
     ·exact yN hrun z2
     ·exact yN hrun (.tuple _ [zv,.bool false] rfl (fun i a u ha hu=>by
       match i,ha,hu with
       |0,ha,hu=>simp at ha hu;subst ha;subst hu;exact z2
       |1,ha,hu=>simp at ha hu;subst ha;subst hu;exact .mkBool _))
    ·cases h
   ·cases h
  ·cases h
 ·cases h

theorem vD{b:Nat}{t tk te:TypeId}{s:Bool}{x k y:Value}{vs:List AV}{v:AV}{hp':Heap}(ht:P.underlying t=some (.map tk te))(hk:Qo P tk=some s)(hH:HR w X μ hp)(hl:LR w X μ hp vs [x,k,y])
  (h:Xr s (shOf P te) hp vs=some (v,hp')):Out P b w X μ hp (do Instr.mapUpdate t x k y;pure .skip) v hp':=by
 obtain⟨d,hd,hKK⟩:=vA hk;unfold Xr at h;split at h
 ·rename_i r s0 kp a;obtain⟨u1,u2,u3,e,h1,h2,h3⟩:=hl.three;cases e;split at h
  ·rename_i hs;split at h
   ·cases h
   ·rename_i p hp1 hfz;obtain⟨e1,hH1,h3p⟩:=Qs b w X μ _ _ _ _ _ _ hfz hH h3;have hy:vshp y=shOf P te:=by rw[h3.vshp (JJ hfz),hs]
    have h1':=e1.ar h1;cases h1' with|map _ b0 sh0 es0 ho0 hb0=>
    have h2':=e1.ar h2;cases h2' with|pv _ _ _ _ h2'=>
    split at h
    ·rename_i sh es hr;split at h
     ·rename_i hsh;subst hsh;split at h
      ·rename_i es' hput;cases h;obtain⟨b1,ents,clock,m1,m2,m3,m4⟩:=hH1.map r _ _ hr;rw[hb0] at m1;cases m1;have hM:MR w (Im X μ hp1) (shOf P te) es ents.toList:=⟨by simpa using m3,fun k x e hx he=>m4 k x e hx (by simpa using he)⟩;have fin:∀(ents':Array MapEntry) (clock':Nat),MR w (Im X μ hp1) (shOf P te) es' ents'.toList->(Instr.mapUpdate t (.map (some b0)) k y).run P w=.ok () { w with heap:=w.heap.setIfInBounds b0 (.map ents' clock') }->
         Out P b w X μ hp (do Instr.mapUpdate t (.map (some b0)) k y;pure .skip) .undef (hp1.set r (.map (shOf P te) es')):=by
        intro ents' clock' hM' hrun;have oth:∀k,k≠b0->(w.heap.setIfInBounds b0 (.map ents' clock'))[k]? =w.heap[k]? :=fun k hk=>by rw[zR (Ne.symm hk)]
        have E:∀b,Ext b X μ hp1 w μ (hp1.set r (.map (shOf P te) es')) { w with heap:=w.heap.setIfInBounds b0 (.map ents' clock') }:=fun b=>
         Ext.setMap hr hb0 rfl rfl rfl (by simp) oth (fun cs t fr e=>by rw[m2] at e;cases e)
        exact Qt hrun (hH1.setMap hr hb0 (E 0) oth (by rw[Array.getElem?_setIfInBounds_self_of_lt (YZ m2)]) hM') (e1.trans (E b))
       rcases vB hKK h2' h3p hy es ents.toList 0 es' hput hM with⟨a1,a2⟩|⟨j,f,v,a1,a2,a3,a5,a4⟩
       ·refine fin (ents.push { key:=k,val:=y,born:=clock }) (clock+1) (by simpa using a2 clock) ?_;simp[Instr.mapUpdate,run_underlying ht,JO m2,JN _ hd hKK,Instr.findKey,run_underlying hd,a1,vC _ m2]
       ·rw[ZH] at a1;refine fin (ents.modify j fun e=>{ e with key:=k,val:=y }) clock (by simpa using a4) ?_;have hkeep:∀w:World,(Instr.keyThatStays k k).run P w=.ok k w:=by
         intro w;simp[Instr.keyThatStays,a5]
        have hj:ents[j]? =some f:=by simpa using a2
        simp[Instr.mapUpdate,run_underlying ht,JO m2,JN _ hd hKK,Instr.findKey,run_underlying hd,a1,vC _ m2,hj,a3,hkeep]
      ·cases h
     ·cases h
    ·cases h
  ·cases h
 ·cases h

theorem LR.inv1{x:Value}{vs:List AV}(h:LR w X μ hp vs [x]):∃a,vs=[a]/\AR w X μ hp a x:=by
 cases h with|cons h r=>cases r;exact⟨_,rfl,h⟩
theorem LR.inv2{x y:Value}{vs:List AV}(h:LR w X μ hp vs [x,y]):∃a b,vs=[a,b]/\AR w X μ hp a x/\AR w X μ hp b y:=by
 cases h with|cons h r=>obtain⟨u,rfl,h2⟩:=r.inv1;exact⟨_,_,rfl,h,h2⟩
theorem LR.inv3{x y z:Value}{vs:List AV}(h:LR w X μ hp vs [x,y,z]):∃a b c,vs=[a,b,c]/\AR w X μ hp a x/\AR w X μ hp b y/\AR w X μ hp c z:=by
 cases h with|cons h r=>obtain⟨u,v,rfl,h2,h3⟩:=r.inv2;exact⟨_,_,_,rfl,h,h2,h3⟩

theorem Ks{t:TypeId}(ht:P.underlying t=some .string)(s:List UInt8)(lo hi:Option Value)(l h:Nat)(hlo:lo=none/\l=0\/∃k,lo=some (.int k l))(hhi:hi=none/\h=s.length\/∃k,hi=some (.int k h))(h1:l<=h)(h2:h<=s.length):
  (Instr.sliceAt t (.string ⟨s.toArray⟩) lo hi none).run P w=.ok (.string ⟨((s.drop l).take (h - l)).toArray⟩) w:=by
 have hsz:(ByteArray.mk s.toArray).size=s.length:=by simp[ByteArray.size]
 have hex:(ByteArray.mk s.toArray).extract l h=ByteArray.mk ((s.drop l).take (h - l)).toArray:=by
  apply ByteArray.ext;simp[List.extract_eq_take_drop]
 rcases hlo with⟨rfl,rfl⟩|⟨k,rfl⟩ <;> rcases hhi with⟨rfl,rfl⟩|⟨k',rfl⟩ <;>
  simp[Instr.sliceAt,Instr.slice,run_underlying ht,Instr.sliceBounds,Instr.sliceBound,asIntOf, *]

theorem bQ{a b v:AV}(h:xc false true [a,b]=some v):∃s1 s s2 k n,a=.pv s1 (.str s)/\b=.pv s2 (.int k n)/\(0<=n/\n<=s.length)/\v=.pv none (.str (s.take n.toNat)):=by
 unfold xc at h;split at h <;> simp_all
 exact⟨_,_,⟨rfl,rfl⟩,_,_,_,⟨rfl,rfl,rfl⟩,h.1,h.2.symm⟩
theorem bR{a b v:AV}(h:xc true false [a,b]=some v):∃s1 s s2 k n,a=.pv s1 (.str s)/\b=.pv s2 (.int k n)/\(0<=n/\n<=s.length)/\v=.pv none (.str (s.drop n.toNat)):=by
 unfold xc at h;split at h <;> simp_all
 exact⟨_,_,⟨rfl,rfl⟩,_,_,_,⟨rfl,rfl,rfl⟩,h.1,h.2.symm⟩
theorem bS{a b c v:AV}(h:xc true true [a,b,c]=some v):∃s1 s s2 k n s3 k' m,a=.pv s1 (.str s)/\b=.pv s2 (.int k n)/\c=.pv s3 (.int k' m)/\(0<=n/\n<=m/\m<=s.length)/\v=.pv none (.str ((s.drop n.toNat).take (m.toNat - n.toNat))):=by
 unfold xc at h;split at h <;> simp_all
 exact⟨_,_,⟨rfl,rfl⟩,_,_,_,⟨rfl,rfl,rfl⟩,_,_,_,⟨rfl,rfl,rfl⟩,h.1,h.2.symm⟩

theorem bT{t:TypeId}{x:Value}{lo hi:Option Value}{rest:List Value}{vs:List AV}{v:AV}(ht:P.underlying t=some .string)(hr:rest=lo.toList++hi.toList)(hl:LR w X μ hp vs (x::rest))(h:xc lo.isSome hi.isSome vs=some v):
  Yz P w X μ hp (do pure (.value (<-Instr.sliceAt t x lo hi none))) v:=by
 subst hr;cases lo with
 |none=>cases hi with
  |none=>simp[xc] at h
  |some y=>
   obtain⟨a,b,rfl,h1,h2⟩:=hl.inv2;obtain⟨_,s,_,k,n,rfl,rfl,hb,rfl⟩:=bQ h;rw[h1.str_inv,h2.int_inv];have:=Ks (P:=P) (w:=w) ht s none (some (.int k n)) 0 n.toNat (.inl ⟨rfl,rfl⟩) (.inr ⟨k,by rw[Int.toNat_of_nonneg hb.1]⟩) (by omega) (by omega);simp only[Z4,Nat.sub_zero] at this;exact yN this (.mkStr _)
 |some z=>cases hi with
  |none=>
   obtain⟨a,b,rfl,h1,h2⟩:=hl.inv2;obtain⟨_,s,_,k,n,rfl,rfl,hb,rfl⟩:=bR h;rw[h1.str_inv,h2.int_inv];have:=Ks (P:=P) (w:=w) ht s (some (.int k n)) none n.toNat s.length (.inr ⟨k,by rw[Int.toNat_of_nonneg hb.1]⟩) (.inl ⟨rfl,rfl⟩) (by omega) (by omega);rw[Zp (by simp)] at this;exact yN this (.mkStr _)
  |some y=>
   obtain⟨a,b,c,rfl,h1,h2,h3⟩:=hl.inv3;obtain⟨_,s,_,k,n,_,k',m,rfl,rfl,rfl,hb,rfl⟩:=bS h;rw[h1.str_inv,h2.int_inv,h3.int_inv];have:=Ks (P:=P) (w:=w) ht s (some (.int k n)) (some (.int k' m)) n.toNat m.toNat (.inr ⟨k,by rw[Int.toNat_of_nonneg hb.1]⟩) (.inr ⟨k',by rw[Int.toNat_of_nonneg (by omega)]⟩) (by omega) (by omega);exact yN this (.mkStr _)

theorem bU{t xt:TypeId}{d:TypeDesc}{z:AV}{ok:Bool}{x:Value}{vs:List AV}{v:AV}(ht:P.underlying t=some d)(hd:∀ms,d≠.interface ms)(hz:Y4 P t=some z)(hl:LR w X μ hp vs [x])
  (h:xA t (shOf P t) z ok vs=some v):Yz P w X μ hp (do pure (.value (<-Instr.typeAssert x xt t ok))) v:=by
 obtain⟨zv,z1,z2,z3⟩:=QY (w:=w) (X:=X) (μ:=μ) (hp:=hp) hz;have pair:∀{a:AV} {u:Value} (b:Bool),AR w X μ hp a u->AR w X μ hp (.tuple [a,.pv none (.bool b)]) (.tuple #[u,.bool b]):=fun{a u} b ha=>
  .tuple _ [u,.bool b] rfl (fun i c q hc hq=>by
   match i,hc,hq with
   |0,hc,hq=>simp at hc hq;subst hc;subst hq;exact ha
   |1,hc,hq=>simp at hc hq;subst hc;subst hq;exact .mkBool _)
 unfold xA at h;split at h
 ·rename_i s0 u s p;obtain⟨y,e,h1⟩:=hl.one;cases e;cases h1 with|pv _ _ _ hs h1=>
  cases h1 with|iface _ _ _ vv hs1 h2=>
  split at h
  ·rename_i hu;obtain⟨rfl,rfl⟩:=hu;cases h;have hrun:(Instr.typeAssert (.iface u vv) xt u ok).run P w=.ok (if ok=true then .tuple #[vv,.bool true] else vv) w:=by
    cases d <;> first|(exact absurd rfl (hd _))|(simp[Instr.typeAssert,run_underlying ht])
   cases ok
   ·exact yN hrun (.pv _ _ _ hs1 h2)
   ·exact yN hrun (pair true (.pv _ _ _ hs1 h2))
  ·split at h
   ·cases h
   ·rename_i hne;cases ok
    ·cases h
    ·cases h;have hrun:(Instr.typeAssert (.iface u vv) xt t true).run P w=.ok (.tuple #[zv,.bool false]) w:=by
      cases d <;> first|(exact absurd rfl (hd _))|(simp[Instr.typeAssert,run_underlying ht,hne,z1])
     exact yN hrun (pair false z2)
 ·obtain⟨y,e,h1⟩:=hl.one;cases e;cases h1 with|pv _ _ _ hs h1=>
  cases h1;cases ok
  ·cases h
  ·cases h;have hrun:(Instr.typeAssert .nilIface xt t true).run P w=.ok (.tuple #[zv,.bool false]) w:=by
    cases d <;> first|(exact absurd rfl (hd _))|(simp[Instr.typeAssert,run_underlying ht,z1])
   exact yN hrun (pair false z2)
 ·cases h

theorem Kt(zc:Array Value):∀n:Nat,(madeCells zc (n*zc.size)).toList=(List.replicate n zc.toList).flatten
 |0=>by simp[madeCells]
 |n+1=>by
  rw[List.replicate_succ',List.flatten_append,<-Kt zc n];apply zK;intro i;have hs:(madeCells zc (n*zc.size)).toList.length=n*zc.size:=by simp[madeCells]
  have e:(n+1)*zc.size=n*zc.size+zc.size:=Nat.succ_mul _ _;by_cases h:i<n*zc.size
  ·rw[Zx (by omega)];simp[madeCells,h,show i<(n+1)*zc.size by omega]
  ·rw[zq (by omega),hs];by_cases h2:i<(n+1)*zc.size
   ·have hm:i % zc.size=i - n*zc.size:=by
     have:i=(i - n*zc.size)+n*zc.size:=by omega
     conv=>lhs;rw[this]
     rw[Nat.add_mul_mod_self_right,Nat.mod_eq_of_lt (by omega)]
    have hlt:i - n*zc.size<zc.size:=by omega
    simp[madeCells,h2,hm,hlt,getElem!_pos]
   ·have hge:¬i - n*zc.size<zc.size:=by omega
    simp[madeCells,h2];omega

theorem vE(z:Value)(n:Nat):cellsOf (List.replicate n z)=(List.replicate n z.cells.toList).flatten:=by
 induction n with
 |zero=>rfl
 |succ n ih=>rw[List.replicate_succ,Yq,ih,List.replicate_succ,List.flatten_cons]

theorem bV{z:Value}{n c:Nat}(h:n<=c):(madeCells z.cells (c*z.cells.size)).toList.take (n*z.cells.size)=cellsOf (List.replicate n z):=by
 rw[Kt,vE];have e:c=n+(c - n):=by omega
 rw[e,<-List.replicate_append_replicate,List.flatten_append,ZD];simp[List.length_flatten]

theorem bW{b:Nat}{t e:TypeId}{z:PV}{x y:Value}{vs:List AV}{v:AV}{hp':Heap}(ht:P.underlying t=some (.slice e))(hok:okT P e=true)(hzo:yr P e=true)(hby:XD P e=true)(hz:(Y4 P e).bind pvOf=some z)
  (hH:HR w X μ hp)(hl:LR w X μ hp vs [x,y])(h:XA (shOf P e) z hp vs=some (v,hp')):Out P b w X μ hp (do pure (.value (<-Instr.makeSlice t x y))) v hp':=by
 unfold XA at h;split at h
 ·rename_i s1 k1 n s2 k2 c;obtain⟨u1,u2,eq,h1,h2⟩:=hl.two;cases eq;split at h
  ·rename_i hb;obtain⟨hb0,hb1,hb2,hb3⟩:=hb;cases h;rw[h1.int_inv,h2.int_inv];cases hza:Y4 P e with
   |none=>rw[hza] at hz;cases hz
   |some za=>
   rw[hza] at hz;obtain⟨i,zv,hi,hiz,hsz,hzs⟩:=okE w hok hzo;obtain⟨zv',z1,z2,z3⟩:=QY (w:=w) (X:=X) (μ:=μ) (hp:=hp) hza;have hzz:zv'=zv:=by
    simp only[zeroValue,typeInfo] at z1;simp[hi,hiz] at z1;exact z1.symm
   subst hzz;have hzpr:PR w (Im X μ hp) z zv':=Kk w X μ hp _ _ _ _ hz z2;have hzsh:vshp zv'=shOf P e:=by
    have:=z2.vshp z3;unfold yr at hzo;rw[hza] at hzo;rw[this];simpa using hzo
   unfold XD at hby
   rw[hi] at hby
   have hby':i.bytes<=1024:=by simpa using hby
   have hrun:=run_make (P:=P) w t e i zv' ht hi hiz k1 k2 n c hb0 hb1 (by
    unfold lim at hb2;have:(i.bytes:Int)*c<=1024*1073741824:=Int.mul_le_mul (by omega) (by omega) (by omega) (by omega);omega) (by unfold lim at hb2;omega)
   rw[hsz,<-hzs] at hrun;generalize hcells:madeCells zv'.cells (c.toNat*zv'.cells.size)=cells at hrun;have hcsz:cells.size=c.toNat*(shOf P e).size:=by rw[<-hcells,size_madeCells,hzs]
   have E:∀b,Ext b X μ hp w (upd μ hp.length (some w.heap.size)) (hp++[.arr (shOf P e) (List.replicate n.toNat z) false]) (w.alloc (.cells cells e)):=fun b=>Ext.push _ _ (Ext.alloc b _) (fun k hk=>by cases hk;exact Zi _);refine⟨.value (.slice (some ⟨w.heap.size,0,none⟩) n.toNat c.toNat),_,_,upd μ hp.length (some w.heap.size),by simp only[Sem.run_bind,hrun,Result.andThen_ok,Sem.run_pure],.inl rfl,?_,?_,E b⟩
   ·refine .sl _ _ _ _ _ _ _ (List.replicate n.toNat z) false XF (by simp) (by omega) (fun _=>rfl) fun _=>⟨by simp,.inr ⟨w.heap.size,cells,e,Yn _ _ _,yM w _,by rw[hcsz,ZH],fun _=>by simp⟩⟩
   ·refine hH.push _ _ (Ext.alloc 0 _) (fun i k hi hk=>yL w _ (hH.out i k hi hk).2) (fun k hk=>by cases hk;exact⟨Zi _,by simp⟩) (fun _ _ h=>by cases h) (fun s es fz h=> ?_) (fun _ _ h=>by cases h);cases h;refine⟨hb3,.inr ⟨w.heap.size,cells,e,List.replicate n.toNat zv',rfl,yM w _,by simp,fun k p u hp hu=> ?_,?_⟩⟩
    ·rw[List.getElem?_replicate] at hp hu;split at hp
     ·rename_i hk;rw[Zb hk] at hu;cases hp;cases hu;exact⟨hzsh,(E 0).pr hzpr⟩
     ·cases hp
    ·rw[List.length_replicate,<-hcells,<-hzs,bV (by omega)]
  ·cases h
 ·cases h
end Go.Am

/- Slices written out; clear; what a row of stores does. -/
namespace Go.Am
variable{P:Program} {w:World} {X:Xc P} {μ:Nat->Option Nat} {hp:Heap}

theorem bX{r b:Nat}{sh:Sh}{es es':List PV}{cs cs':Array Value}{t:TypeId}{vals':List Value}(hH:HR w X μ hp)(hr:hp[r]? =some (.arr sh es false))(hb:μ r=some b)(hw:w.heap[b]? =some (.cells cs t (0,0)))(hsz:cs'.size=cs.size)
  (hlen:es'.length=es.length)(hE:ER w (Im X μ hp) sh es' vals')(hc:cellsOf vals'=cs'.toList.take (es'.length*sh.size)):
  HR (w.setRow b cs') X μ (hp.set r (.arr sh es' false))/\∀b0,Ext b0 X μ hp w μ (hp.set r (.arr sh es' false)) (w.setRow b cs'):=by
 have E:∀b0,Ext b0 X μ hp w (upd μ r (μ r)) (hp.set r (.arr sh es' false)) (w.setRow b cs'):=fun b0=>
  Ext.setArr hr (by omega) (fun h=>by cases h) (fun _=>rfl) (fun k hk=>.inl hk) rfl rfl rfl (by simp[World.setRow]) (fun k hk hm=>setRow_other w b k _ (fun e=>hm rfl (by rw[e];exact hb))) (fun k cs0 t'' fr hk=>by
   by_cases e:k=b
   ·subst e;rw[hw] at hk;cases hk;exact⟨_,setRow_heap w k _ _ t _ hw,hsz⟩
   ·exact⟨cs0,by rw[setRow_other w b k _ e];exact hk,rfl⟩)
 have H:HR (w.setRow b cs') X (upd μ r (μ r)) (hp.set r (.arr sh es' false)):=
  hH.setArr hr (E 0) (fun k hk hne=>setRow_other w b k _ (fun e=>hne (by rw[e];exact hb))) (fun k hk=>⟨.inl hk,by rw[hb] at hk;cases hk;simpa[World.setRow] using YZ hw⟩) (.inr ⟨b,_,t,vals',hb,setRow_heap w b _ _ t _ hw,hE.1,fun k q v hq hv=>⟨(hE.2 k q v hq hv).1,(E 0).pr (hE.2 k q v hq hv).2⟩,hc⟩)
 rw[xJ] at H;refine⟨H,fun b0=> ?_⟩;have:=E b0;rw[xJ] at this;exact this

theorem bY{b n:Nat}{t e:TypeId}{parts:Array (Nat × Operand)}{ρ:Operand->Value}{vs:List AV}{v:AV}{hp':Heap}(ht:P.underlying t=some (.slice e))(hok:okT P e=true)(hz:yr P e=true)(hr:parts.toList.map (·.1)=List.range n)(hn:n*P.cellsOf e<=65536)
  (hH:HR w X μ hp)(hl:LR w X μ hp vs ((parts.toList.map (·.2)).map ρ))(h:yp (shOf P e) hp vs=some (v,hp')):Out P b w X μ hp (do pure (.value (<-Instr.buildSlice t n (parts.map fun(x:Nat × Operand)=>(x.1,ρ x.2))))) v hp':=by
 unfold yp at h;split at h
 ·rename_i ps hp1 hf;split at h
  ·rename_i es hs;cases h;obtain⟨e1,h1,h2⟩:=qJ b _ _ _ _ _ hf hH hl;have hE:=JK hs h2;obtain⟨r1,r2⟩:=Kn ht hok hz hr hn hE;obtain⟨o1,o2,o3⟩:=vu (b:=b) (t:=e) h1 hE r2;exact⟨_,_,_,μ,by simp only[Sem.run_bind,r1,Result.andThen_ok,Sem.run_pure],.inl rfl,o1,o2,e1.trans o3⟩
  ·cases h
 ·cases h

theorem b5{b n:Nat}{t e:TypeId}{parts:Array (Nat × Operand)}{ρ:Operand->Value}{vs:List AV}{v:AV}{hp':Heap}(ht:P.underlying t=some (.slice e))(hok:okT P e=true)(hz:yr P e=true)(hr:parts.toList.map (·.1)=List.range n)(hn:n*P.cellsOf e<=65536)
  (hH:HR w X μ hp)(hl:LR w X μ hp vs ((parts.toList.map (·.2)).map ρ))(h:xC (shOf P e) hp vs=some (v,hp')):Out P b w X μ hp (do pure (.value (<-Instr.buildSlice t n (parts.map fun(x:Nat × Operand)=>(x.1,ρ x.2))))) v hp':=by
 unfold xC at h;split at h
 ·rename_i ps hp1 hf;split at h
  ·rename_i es hs;split at h
   ·rename_i hpos;cases h;obtain⟨e1,h1,h2⟩:=qJ b _ _ _ _ _ hf hH hl;have hE:=JK hs h2;obtain⟨r1,r2⟩:=Kn ht hok hz hr hn hE;generalize hvals:(parts.toList.map (·.2)).map ρ=vals at hE r1;have E:∀b,Ext b X μ hp1 w (upd μ hp1.length (some w.heap.size)) (hp1++[.arr (shOf P e) es false]) (w.alloc (.cells (cellsOf vals).toArray e)):=fun b=>Ext.push _ _ (Ext.alloc b _) (fun k hk=>by cases hk;exact Zi _);have hcl:(cellsOf vals).length=es.length*(shOf P e).size:=hE.length;refine⟨.value (.slice (some ⟨w.heap.size,0,none⟩) n n),_,_,upd μ hp1.length (some w.heap.size),by simp only[Sem.run_bind,r1,Result.andThen_ok,Sem.run_pure],.inl rfl,?_,?_,e1.trans (E b)⟩
    ·rw[<-r2];refine .sl _ _ _ _ _ _ _ es false XF (Zi _) (Zi _) (fun _=>rfl) fun _=>⟨by simp,.inr ⟨w.heap.size,(cellsOf vals).toArray,e,Yn _ _ _,yM w _,by simp[hcl],fun _=>by simp⟩⟩
    ·refine h1.push _ _ (Ext.alloc 0 _) (fun i k hi hk=>yL w _ (h1.out i k hi hk).2) (fun k hk=>by cases hk;exact⟨Zi _,by simp⟩) (fun _ _ h=>by cases h) (fun s es' fz h=> ?_) (fun _ _ h=>by cases h);cases h;exact⟨hpos,.inr ⟨w.heap.size,(cellsOf vals).toArray,e,vals,rfl,yM w _,hE.1,fun k p u hp hu=>⟨(hE.2 k p u hp hu).1,(E 0).pr (hE.2 k p u hp hu).2⟩,by rw[Zp (by simp[hcl])]⟩⟩
   ·cases h
  ·cases h
 ·cases h

theorem b6{b n:Nat}{t e:TypeId}{parts:Array (Nat × Operand)}{ρ:Operand->Value}{vs:List AV}{v:AV}(ht:P.underlying t=some (.slice e))(hok:okT P e=true)(hz:yr P e=true)(hr:parts.toList.map (·.1)=List.range n)(hn:n*P.cellsOf e<=65536)
  (hH:HR w X μ hp)(hl:LR w X μ hp vs ((parts.toList.map (·.2)).map ρ))(h:xy (shOf P e) vs=some v):Out P b w X μ hp (do pure (.value (<-Instr.buildSlice t n (parts.map fun(x:Nat × Operand)=>(x.1,ρ x.2))))) v hp:=by
 unfold xy at h;split at h
 ·rename_i ps hf;split at h
  ·rename_i es hs;cases h;have hE:=JK hs (Kl _ _ _ hf hl);obtain⟨r1,r2⟩:=Kn ht hok hz hr hn hE;obtain⟨o1,o2,o3⟩:=vu (b:=b) (t:=e) hH hE r2;exact⟨_,_,_,μ,by simp only[Sem.run_bind,r1,Result.andThen_ok,Sem.run_pure],.inl rfl,o1,o2,o3⟩
  ·cases h
 ·cases h

theorem vF(z:Value)(n:Nat):(Builtin.zeroCells z.cells n).toList=cellsOf (List.replicate n z):=by
 rw[vE];exact Kt z.cells n

theorem b7{b:Nat}{t ty e:TypeId}{z:PV}{x:Value}{vs:List AV}{v:AV}{hp':Heap}(ht:P.underlying t=some (.slice e))(hok:okT P e=true)(hzo:yr P e=true)(hz:(Y4 P e).bind pvOf=some z)
  (hH:HR w X μ hp)(hl:LR w X μ hp vs [x])(h:xD (shOf P e) z hp vs=some (v,hp')):Out P b w X μ hp (do pure (.value (<-Builtin.clear_ #[t] ty #[x]))) v hp':=by
 unfold xD at h;split at h
 ·rename_i s0 r ver off len;obtain⟨y,eq,h1⟩:=hl.one;cases eq;cases h1 with|sl _ _ _ _ _ a cap es1 fz1 ho hv hlc ha hc=>
  split at h
  ·rename_i s es hr;rw[hr] at ho;cases ho;split at h
   ·rename_i hcond;obtain⟨rfl,hver,hle⟩:=hcond;cases h;obtain⟨c1,c2⟩:=hc hver;by_cases h0:len=0
    ·subst h0;have hes:es1.take off++List.replicate 0 z++es1.drop (off+0)=es1:=by simp
     have hhp:hp.set r (.arr (shOf P e) es1 false)=hp:=by
      apply zK;intro k;by_cases e0:k=r
      ·subst e0;rw[ZG (Ze.1 hr).1,hr]
      ·rw[Zy (Ne.symm e0)]
     rw[hes];have hrun:(Builtin.clear_ #[t] ty #[.slice a 0 cap]).run P w=.ok (.tuple #[]) w:=by
      cases a <;> simp[Builtin.clear_,run_underlying ht]
     refine⟨.value (.tuple #[]),_,w,μ,by simp only[Sem.run_bind,hrun,Result.andThen_ok,Sem.run_pure],.inl rfl,.undef _ (fun b h=>by cases h),?_,?_⟩
     ·rw[hhp];exact hH
     ·rw[hhp];exact Ext.refl _ _ _ _ _
    ·rcases c2 with⟨c2,c3⟩|⟨b',cs,t',m1,m2,m3,m4⟩
     ·omega
     have hcap:cap≠0:=by omega
     have:=m4 hcap;subst this;rcases(hH.arr r _ es1 false hr).2 with⟨g1,g2⟩|⟨b2,cs2,t2,vals,g1,g2,g3,g4,g5⟩
     ·rw[m1] at g1;cases g1
     rw[m1] at g1;cases g1;rw[m2] at g2;cases g2;cases hza:Y4 P e with
     |none=>rw[hza] at hz;cases hz
     |some za=>
     rw[hza] at hz;obtain⟨zv,z1,z2,z3⟩:=QY (w:=w) (X:=X) (μ:=μ) (hp:=hp) hza;have hzpr:PR w (Im X μ hp) z zv:=Kk w X μ hp _ _ _ _ hz z2;have hzsh:vshp zv=shOf P e:=by
      have:=z2.vshp z3;unfold yr at hzo;rw[hza] at hzo;rw[this];simpa using hzo
     obtain⟨i,zv',hi,hiz,hsz,hzs⟩:=okE w hok hzo;have hzz:zv=zv':=by
      simp only[zeroValue,typeInfo] at z1;simp[hi,hiz] at z1;exact z1.symm
     subst hzz;have hzc:(Builtin.zeroCells zv.cells len).toList.length=len*(shOf P e).size:=by
      rw[Zs,size_zeroCells,hzs]
     have hfl:Flat zv:=z2.flat z3;have hfit:off*(shOf P e).size+len*(shOf P e).size<=cs.size:=by
      rw[<-m3,<-ZI];exact zl _ (by omega)
     have hst:=run_storeCells_at P b' (off*(shOf P e).size) t' (Builtin.zeroCells zv.cells len).toList 0 cs w m2 (by rw[hzc];omega) (fun u hu=>by
      rw[vF] at hu;obtain⟨k,q,hq,hqu⟩:=qF hu;rw[List.getElem?_replicate] at hq;split at hq
      ·cases hq;exact hfl u hqu
      ·cases hq)
     simp only[Z1,hzc] at hst;have hrun:(Builtin.clear_ #[t] ty #[.slice (some ⟨b',off*(shOf P e).size,none⟩) len cap]).run P w=.ok (.tuple #[]) (w.setRow b' (cs.toList.take (off*(shOf P e).size)++(Builtin.zeroCells zv.cells len).toList++cs.toList.drop (off*(shOf P e).size+len*(shOf P e).size)).toArray):=by
      cases len with
      |zero=>exact absurd rfl h0
      |succ k=>simp[Builtin.clear_,run_underlying ht,z1,hst]
     have hcl:cs.toList.length=cs.size:=Zs;have hE0:ER w (Im X μ hp) (shOf P e) es1 vals:=⟨g3,g4⟩;have hlv:vals.length=es1.length:=g3.symm;have hE':ER w (Im X μ hp) (shOf P e) (es1.take off++List.replicate len z++es1.drop (off+len)) (vals.take off++List.replicate len zv++vals.drop (off+len)):=by
      refine ER.append (ER.append ?_ ?_) (hE0.drop _)
      ·exact hE0.take _
      ·refine⟨by simp,fun k q u hq hu=> ?_⟩;rw[List.getElem?_replicate] at hq hu;split at hq
       ·rename_i hk;rw[Zb hk] at hu;cases hq;cases hu;exact⟨hzsh,hzpr⟩
       ·cases hq
     obtain⟨H,E⟩:=bX (cs':=(cs.toList.take (off*(shOf P e).size)++(Builtin.zeroCells zv.cells len).toList++cs.toList.drop (off*(shOf P e).size+len*(shOf P e).size)).toArray) hH hr m1 m2 (by simp[hzc];omega) (by simp;omega) hE' (by
      have hA:off*(shOf P e).size+len*(shOf P e).size<=es1.length*(shOf P e).size:=by rw[<-ZI];exact zl _ hle
      rw[xH,xH,hE0.cells_take off (by omega),hE0.cells_drop (off+len) (by omega),<-vF,g5,ZI];have hl':(es1.take off++List.replicate len z++es1.drop (off+len)).length=es1.length:=by simp;omega
      rw[hl',ZX,zs (by omega),Z5];simp only[];have hpre:(cs.toList.take (off*(shOf P e).size)++(Builtin.zeroCells zv.cells len).toList).length=off*(shOf P e).size+len*(shOf P e).size:=by
       rw[Zc,hzc,Zn,hcl];omega
      rw[zH,hpre,Zp (i:=es1.length*(shOf P e).size) (l:=cs.toList.take (off*(shOf P e).size)++(Builtin.zeroCells zv.cells len).toList) (by rw[hpre];exact hA)])
     exact⟨.value (.tuple #[]),_,_,μ,by simp only[Sem.run_bind,hrun,Result.andThen_ok,Sem.run_pure],.inl rfl,.undef _ (fun b h=>by cases h),H,E b⟩
   ·cases h
  ·cases h
 ·cases h
end Go.Am

/- One operation that calls nothing. -/
namespace Go.Am
variable{P:Program} {w:World} {X:Xc P} {μ:Nat->Option Nat} {hp:Heap}

theorem b8{sh:Sh}{s v:AV}{lo:Int}{hi:Option Int}{x:Value}(h:aslice sh lo hi s=some v)(hs:AR w X μ hp s x):∃a len cap,x=.slice a len cap:=by
 unfold aslice at h;split at h
 ·cases hs with|pv _ _ _ _ hq=>cases hq <;> exact⟨_,_,_,rfl⟩
 ·cases hs;exact⟨_,_,_,rfl⟩
 ·cases hs;exact⟨_,_,_,rfl⟩
 ·cases h

theorem JP{t e:TypeId}(ht:P.underlying t=some (.slice e))(hok:okT P e=true){s v:AV}{x:Value}{lo hi:Option Value}{l:Int}{h:Option Int}(hx:AR w X μ hp s x)(hlo:lo=none/\l=0\/∃k,lo=some (.int k l))(hhi:hi=none/\h=none\/∃k n,hi=some (.int k n)/\h=some n)
  (hs:aslice (shOf P e) l h s=some v):Yz P w X μ hp (do pure (.value (<-Instr.sliceAt t x lo hi none))) v:=by
 obtain⟨a,len,cap,rfl⟩:=b8 hs hx;obtain⟨h1,h2,h3,h4,h5⟩:=B8 hs hx;have:=B7 (P:=P) (w:=w) ht hok a len cap lo hi l.toNat ((h.map Int.toNat).getD len) (by
  rcases hlo with⟨rfl,rfl⟩|⟨k,rfl⟩
  ·exact .inl ⟨rfl,rfl⟩
  ·exact .inr ⟨k,by rw[Int.toNat_of_nonneg h1]⟩) (by
  rcases hhi with⟨rfl,rfl⟩|⟨k,n,rfl,rfl⟩
  ·exact .inl ⟨rfl,rfl⟩
  ·exact .inr ⟨k,by simp[Int.toNat_of_nonneg (h2 n rfl)]⟩) h3 h4
 exact yN this h5

theorem b9{sh:Sh}{a b v:AV}(h:yk sh true false [a,b]=some v):∃s k l,b=.pv s (.int k l)/\aslice sh l none a=some v:=by
 unfold yk at h;split at h <;> simp_all
 exact⟨_,_,_,⟨rfl,rfl,rfl⟩,h⟩
theorem Da{sh:Sh}{a b v:AV}(h:yk sh false true [a,b]=some v):∃s k l,b=.pv s (.int k l)/\aslice sh 0 (some l) a=some v:=by
 unfold yk at h;split at h <;> simp_all
 exact⟨_,_,_,⟨rfl,rfl,rfl⟩,h⟩
theorem Db{sh:Sh}{a b c v:AV}(h:yk sh true true [a,b,c]=some v):∃s k l s' k' m,b=.pv s (.int k l)/\c=.pv s' (.int k' m)/\aslice sh l (some m) a=some v:=by
 unfold yk at h;split at h <;> simp_all
 exact⟨_,_,_,⟨rfl,rfl,rfl⟩,_,_,_,⟨rfl,rfl,rfl⟩,h⟩

theorem Dc{t e:TypeId}{x:Value}{lo hi:Option Value}{vs:List AV}{v:AV}(ht:P.underlying t=some (.slice e))(hok:okT P e=true)(hl:LR w X μ hp vs (x::(lo.toList++hi.toList)))(h:yk (shOf P e) lo.isSome hi.isSome vs=some v):
  Yz P w X μ hp (do pure (.value (<-Instr.sliceAt t x lo hi none))) v:=by
 cases lo with
 |none=>cases hi with
  |none=>
   obtain⟨a,rfl,h1⟩:=hl.inv1;exact JP ht hok h1 (.inl ⟨rfl,rfl⟩) (.inl ⟨rfl,rfl⟩) h
  |some y=>
   obtain⟨a,b,rfl,h1,h2⟩:=hl.inv2;obtain⟨s,k,l,rfl,h⟩:=Da h;rw[h2.int_inv];exact JP ht hok h1 (.inl ⟨rfl,rfl⟩) (.inr ⟨k,l,rfl,rfl⟩) h
 |some z=>cases hi with
  |none=>
   obtain⟨a,b,rfl,h1,h2⟩:=hl.inv2;obtain⟨s,k,l,rfl,h⟩:=b9 h;rw[h2.int_inv];exact JP ht hok h1 (.inr ⟨k,rfl⟩) (.inl ⟨rfl,rfl⟩) h
  |some y=>
   obtain⟨a,b,c,rfl,h1,h2,h3⟩:=hl.inv3;obtain⟨s,k,l,s',k',m,rfl,rfl,h⟩:=Db h;rw[h2.int_inv,h3.int_inv];exact JP ht hok h1 (.inr ⟨k,rfl⟩) (.inr ⟨k',m,rfl,rfl⟩) h
end Go.Am

/- More operations: checks of pointers and interfaces, slices cut to their length, stores beside reads. -/
namespace Go.Am
variable{P:Program} {w:World} {X:Xc P} {μ:Nat->Option Nat} {hp:Heap}

theorem Dd{x:Value}{vs:List AV}{v:AV}(hl:LR w X μ hp vs [x])(h:Qg vs=some v):(∃a,x=.pointer (some a))/\AR w X μ hp v x:=by
 unfold Qg at h;split at h
 ·cases h;obtain⟨_,e,h1⟩:=hl.one;cases e;refine⟨?_,h1⟩;cases h1;exact⟨_,rfl⟩
 ·cases h;obtain⟨_,e,h1⟩:=hl.one;cases e;refine⟨?_,h1⟩;cases h1;exact⟨_,rfl⟩
 ·cases h;obtain⟨_,e,h1⟩:=hl.one;cases e;refine⟨?_,h1⟩;cases h1;exact⟨_,rfl⟩
 ·cases h

theorem De{t:TypeId}(h:qC P t=true):∃ms,P.underlying t=some (.interface ms):=by
 unfold qC at h;split at h
 ·exact⟨_,‹_›⟩
 ·cases h
theorem Df(t:TypeId){ms:Array (String × TypeId)}(ht:P.underlying t=some (.interface ms))(d:Nat):(Op.equalIn (d+1) t .nilIface .nilIface).run P w=.ok true w:=by simp[Op.equalIn,run_underlying ht]
theorem Dg(t:TypeId){ms:Array (String × TypeId)}(ht:P.underlying t=some (.interface ms))(u:TypeId)(a:Value)(d:Nat):(Op.equalIn (d+1) t (.iface u a) .nilIface).run P w=.ok false w:=by simp[Op.equalIn,run_underlying ht]
theorem vG{op:BinOp}{t:TypeId}{x:Operand}{vx:Value}{b:Bool}(hop:Qp op=true)(ht:qC P t=true)(hv:(vx=.nilIface/\b=true)\/((∃u a,vx=.iface u a)/\b=false)):
  ((do eqGuard op t x (.const .nilIface) vx .nilIface;binOp op t vx .nilIface):Sem Value).run P w=.ok (.bool (if yJ op=true then !b else b)) w:=by
 obtain⟨ms,hms⟩:=De ht;have e1:(Op.equal t .nilIface .nilIface).run P w=.ok true w:=Df t hms 9999;have e2:∀u a,(Op.equal t (.iface u a) .nilIface).run P w=.ok false w:=fun u a=>Dg t hms u a 9999;rcases hv with⟨rfl,rfl⟩|⟨⟨u,a,rfl⟩,rfl⟩
 ·cases op <;> first|(cases hop;done)|skip
  ·simp[eqGuard,binOp,yJ,e1]
  ·simp[eqGuard,binOp,yJ,e1]
 ·cases op <;> first|(cases hop;done)|skip
  ·simp[eqGuard,binOp,yJ,e2]
  ·simp[eqGuard,binOp,yJ,e2]
theorem Dh{op:BinOp}{t:TypeId}{x:Operand}{vx:Value}{vs:List AV}{v:AV}(hop:Qp op=true)(ht:qC P t=true)(hl:LR w X μ hp vs [vx])(h:Qh (yJ op) vs=some v):
  Yz P w X μ hp (do pure (.value (<-(do eqGuard op t x (.const .nilIface) vx .nilIface;binOp op t vx .nilIface)))) v:=by
 unfold Qh at h;split at h
 ·rename_i s0 tt s1 p0;cases h;obtain⟨_,e,h1⟩:=hl.one;cases e;cases h1 with|pv _ _ _ _ hq=>
  cases hq with|iface _ _ _ u _ _=>
  have:=vG (P:=P) (w:=w) (x:=x) (vx:=.iface tt u) (b:=false) hop ht (.inr ⟨⟨_,_,rfl⟩,rfl⟩);refine⟨_,by rw[Sem.run_bind,this,Result.andThen_ok,Sem.run_pure],?_⟩;cases hn:yJ op <;> simp <;> exact .mkBool _
 ·cases h;obtain⟨_,e,h1⟩:=hl.one;cases e;cases h1 with|pv _ _ _ _ hq=>
  cases hq;have:=vG (P:=P) (w:=w) (x:=x) (b:=true) hop ht (.inl ⟨rfl,rfl⟩);refine⟨_,by rw[Sem.run_bind,this,Result.andThen_ok,Sem.run_pure],?_⟩;cases hn:yJ op <;> simp <;> exact .mkBool _
 ·cases h

theorem Di(t:TypeId){e:TypeId}(ht:P.underlying t=some (.slice e))(a:Addr)(n k d:Nat):(Op.equalIn (d+1) t (.slice (some a) n k) (.slice none 0 0)).run P w=.ok false w:=by simp[Op.equalIn,run_underlying ht]
theorem Dj{op:BinOp}{t e:TypeId}{x:Operand}{a:Addr}{n k:Nat}(hop:Qp op=true)(ht:P.underlying t=some (.slice e)):
  ((do eqGuard op t x (.const (.slice none 0 0)) (.slice (some a) n k) (.slice none 0 0);binOp op t (.slice (some a) n k) (.slice none 0 0)):Sem Value).run P w=.ok (.bool (yJ op)) w:=by
 have e1:(Op.equal t (.slice (some a) n k) (.slice none 0 0)).run P w=.ok false w:=Di t ht a n k 9999;cases op <;> first|(cases hop;done)|skip
 ·simp[eqGuard,binOp,yJ,e1]
 ·simp[eqGuard,binOp,yJ,e1]
theorem Dk{op:BinOp}{t e:TypeId}{x:Operand}{vx:Value}{vs:List AV}{v:AV}(hop:Qp op=true)(ht:P.underlying t=some (.slice e))(hl:LR w X μ hp vs [vx])(h:jY (yJ op) vs=some v):
  Yz P w X μ hp (do pure (.value (<-(do eqGuard op t x (.const (.slice none 0 0)) vx (.slice none 0 0);binOp op t vx (.slice none 0 0))))) v:=by
 have key:(∃a n k,vx=.slice (some a) n k)->v=.pv none (.bool (yJ op))->Yz P w X μ hp (do pure (.value (<-(do eqGuard op t x (.const (.slice none 0 0)) vx (.slice none 0 0);binOp op t vx (.slice none 0 0))))) v:=by
  rintro⟨a,n,k,rfl⟩ rfl;refine⟨_,by rw[Sem.run_bind,Dj (x:=x) hop ht,Result.andThen_ok,Sem.run_pure],.mkBool _⟩
 unfold jY at h;split at h
 ·obtain⟨_,e,h1⟩:=hl.one;cases e;cases h1 with|pv _ _ _ _ hq=>
  cases hq;cases h;exact key ⟨_,_,_,rfl⟩ rfl
 ·obtain⟨_,e,h1⟩:=hl.one;cases e;cases h1 with|tsl _ _ a hq=>
  cases hq;cases h;exact key ⟨_,_,_,rfl⟩ rfl
 ·obtain⟨_,e,h1⟩:=hl.one;cases e;cases h1 with|sl _ _ _ _ _ a cap es fz ho hv hlc ha hc=>
  have:a.isSome=true:=ha (by omega);obtain⟨a',rfl⟩:=Option.isSome_iff_exists.1 this;cases h;exact key ⟨_,_,_,rfl⟩ rfl
 ·cases h

theorem vH{t e:TypeId}(ht:P.underlying t=some (.slice e))(hok:okT P e=true)(a:Option Addr)(len cap:Nat)(lo:Option Value)(k k':IntKind)(l h:Nat)(hlo:lo=none/\l=0\/∃k,lo=some (.int k l))(h1:l<=h)(h2:h<=cap):
  (Instr.sliceAt t (.slice a len cap) lo (some (.int k h)) (some (.int k' h))).run P w=.ok (.slice (if h=l then a else a.map (·.add (l*(shOf P e).size))) (h - l) (h - l)) w:=by
 have hs:=Xt hok w;rcases hlo with⟨rfl,rfl⟩|⟨k,rfl⟩ <;>
  simp[Instr.sliceAt,Instr.slice,run_underlying ht,Instr.sliceBounds,Instr.sliceBound,asIntOf, *]
theorem vI{e:TypeId}{a:Option Addr}{cap len:Nat}{es:List PV}{sh:Sh}{l h:Nat}(hq:PR w (Im X μ hp) (.sl sh es) (.slice a len cap))(hsh:sh=shOf P e\/es=[])(h1:l<=h)(h2:h<=es.length):
  h<=cap/\AR w X μ hp (.tsl sh ((es.drop l).take (h - l))) (.slice (if h=l then a else a.map (·.add (l*(shOf P e).size))) (h - l) (h - l)):=by
 have hle:((es.drop l).take (h - l)).length=h - l:=by simp;omega
 cases hq with
 |nilsl=>
  have e1:h=0:=by simpa using h2
  subst e1;have e2:l=0:=by omega
  subst e2;exact⟨by omega,.tsl _ _ _ (by simpa using .nilsl _ _ _)⟩
 |sl sh es b o n cs t fr vals hl hI hb hs hs' hc hn=>
  refine⟨by omega,?_⟩;by_cases e0:h=l
  ·subst e0;simp only[Nat.sub_self,zd,if_true];exact .tsl _ _ _ (.nilsl _ _ _)
  ·have hne:es≠[]:=by rintro rfl;simp at h2;omega
   have hsh':sh=shOf P e:=by rcases hsh with h|h;exact h;exact absurd h hne
   rw[Za e0];simp only[Option.map,Addr.add_lit];rw[<-hsh'];have hpp:∀(i:Nat) (p:PV) (v:Value),((es.drop l).take (h - l))[i]? =some p->((vals.drop l).take (h - l))[i]? =some v->vshp v=sh/\PR w (Im X μ hp) p v:=by
    intro i p v hi hv;have hil:i<h - l:=by have:=(Ze.1 hi).1;omega
    rw[zB hil,ZT] at hi hv;exact⟨hs (l+i) p v hi hv,hs' (l+i) p v hi hv⟩
   have key:=PR.sl (w:=w) (I:=Im X μ hp) sh ((es.drop l).take (h - l)) b (o+l*sh.size) (h - l) cs t fr ((vals.drop l).take (h - l)) (by simp;omega) hI hb (fun i p v hi hv=>(hpp i p v hi hv).1) (fun i p v hi hv=>(hpp i p v hi hv).2) ?_ (by omega)
   ·have:=AR.tsl sh ((es.drop l).take (h - l)) (some ⟨b,o+l*sh.size,none⟩) (X:=X) (μ:=μ) (hp:=hp) (w:=w) (by rw[hle] at key ⊢;exact key);rw[hle] at this;exact this
   ·rw[QX hl hs l (h - l) (by omega),hc,hle,Z5,ZN,ZX]
    congr 1
    have:(h - l)*sh.size+l*sh.size<=es.length*sh.size:=by rw[<-ZI];exact zl _ (by omega)
    omega
theorem Dl{t e:TypeId}{x m h0:Value}{lo:Option Value}{vs:List AV}{v:AV}(ht:P.underlying t=some (.slice e))(hok:okT P e=true)(hl:LR w X μ hp vs (x::(lo.toList++[h0,m])))(h:QQ (shOf P e) lo.isSome vs=some v):
  Yz P w X μ hp (do pure (.value (<-Instr.sliceAt t x lo (some h0) (some m)))) v:=by
 cases lo with
 |none=>
  simp only[Option.toList,ZE] at hl;change QQ (shOf P e) false vs=some v at h;unfold QQ at h;split at h
  ·rename_i s0 sh es s1 k1 n1 s2 k2 n2 _;split at h
   ·rename_i hh;cases h;obtain⟨c1,c2,c3,c4⟩:=hh;obtain⟨_,_,_,e0,h1,h2,h3⟩:=hl.three;cases e0;cases h1 with|pv _ _ _ _ hq=>
    cases h2.int_inv;cases h3.int_inv;subst c3;obtain⟨n,rfl⟩:=Int.eq_ofNat_of_zero_le c2;obtain⟨a,len,cap,rfl⟩:∃a len cap,x=.slice a len cap:=by cases hq <;> exact⟨_,_,_,rfl⟩
    obtain⟨g1,g2⟩:=vI (e:=e) (l:=0) (h:=n) hq c1 (Zg _) (by omega);have:=vH (w:=w) ht hok a len cap none k1 k2 0 n (.inl ⟨rfl,rfl⟩) (Zg _) g1;exact yN this (by simpa using g2)
   ·cases h
  all_goals (first|(cases h;done)|simp_all)
 |some l0=>
  simp only[Option.toList,Zw,ZE] at hl;change QQ (shOf P e) true vs=some v at h;unfold QQ at h;split at h
  ·simp_all
  ·rename_i s0 sh es s1 k1 n1 s2 k2 n2 s3 k3 n3 _;split at h
   ·rename_i hh;cases h;obtain⟨c1,c2,c3,c4,c5⟩:=hh;cases hl with|cons h1 hl=>
    obtain⟨_,_,_,e0,h2,h3,h4⟩:=hl.three;cases e0;cases h1 with|pv _ _ _ _ hq=>
    cases h2.int_inv;cases h3.int_inv;cases h4.int_inv;subst c4;obtain⟨l,rfl⟩:=Int.eq_ofNat_of_zero_le c2;obtain⟨n,rfl⟩:=Int.eq_ofNat_of_zero_le (by omega:0<=n2);obtain⟨a,len,cap,rfl⟩:∃a len cap,x=.slice a len cap:=by cases hq <;> exact⟨_,_,_,rfl⟩
    obtain⟨g1,g2⟩:=vI (e:=e) (l:=l) (h:=n) hq c1 (by omega) (by omega);have:=vH (w:=w) ht hok a len cap (some (.int k1 l)) k2 k3 l n (.inr ⟨_,rfl⟩) (by omega) g1;exact yN this (by simpa using g2)
   ·cases h
  all_goals (first|(cases h;done)|simp_all)

theorem beq_pv:(∀a b:PV,PV.beq a b=true->a=b)/\(∀a b:List (Sh × PV),PV.beqc a b=true->a=b)/\(∀a b:List PV,PV.beqs a b=true->a=b):=by
 have key:∀n,(∀a b:PV,SizeOf.sizeOf a<n->PV.beq a b=true->a=b)/\(∀a b:List (Sh × PV),SizeOf.sizeOf a<n->PV.beqc a b=true->a=b)/\(∀a b:List PV,SizeOf.sizeOf a<n->PV.beqs a b=true->a=b):=by
  intro n
  induction n with
  |zero=>exact⟨fun a b h=>by omega,fun a b h=>by omega,fun a b h=>by omega⟩
  |succ n ih=>
   obtain⟨i1,i2,i3⟩:=ih;refine⟨?_,?_,?_⟩
   ·intro a b hs h;unfold PV.beq at h;split at h <;> (try simp only[Zm,Zz,beq_iff_eq] at h) <;> (try (cases h;done)) <;> (try rfl)
    ·rw[h]
    ·rw[h.1,h.2]
    ·rw[h]
    ·rw[i2 _ _ (by simp at hs;omega) h]
    ·rw[h.1,i3 _ _ (by simp at hs;omega) h.2]
    ·rw[zf h]
    ·rw[h.1.1,h.1.2,i1 _ _ (by simp at hs;omega) h.2]
   ·intro a b hs h;unfold PV.beqc at h;split at h <;> (try simp only[Zm,Zz] at h) <;> (try (cases h;done)) <;> (try rfl)
    rename_i x a y b;obtain⟨x1,x2⟩:=x;obtain⟨y1,y2⟩:=y;simp only[List.cons.sizeOf_spec,Prod.mk.sizeOf_spec] at hs;simp only at h;rw[h.1.1,i1 _ _ (by omega) h.1.2,i2 _ _ (by omega) h.2]
   ·intro a b hs h;unfold PV.beqs at h;split at h <;> (try simp only[Zm] at h) <;> (try (cases h;done)) <;> (try rfl)
    simp only[List.cons.sizeOf_spec] at hs;rw[i1 _ _ (by omega) h.1,i3 _ _ (by omega) h.2]
 exact⟨fun a b=>(key _).1 a b (zu _),fun a b=>(key _).2.1 a b (zu _),fun a b=>(key _).2.2 a b (zu _)⟩
theorem beq_av:(∀a b:AV,AV.beq a b=true->a=b)/\(∀a b:List (Sh × AV),AV.beqc a b=true->a=b)/\(∀a b:List AV,AV.beqs a b=true->a=b):=by
 have key:∀n,(∀a b:AV,SizeOf.sizeOf a<n->AV.beq a b=true->a=b)/\(∀a b:List (Sh × AV),SizeOf.sizeOf a<n->AV.beqc a b=true->a=b)/\(∀a b:List AV,SizeOf.sizeOf a<n->AV.beqs a b=true->a=b):=by
  intro n
  induction n with
  |zero=>exact⟨fun a b h=>by omega,fun a b h=>by omega,fun a b h=>by omega⟩
  |succ n ih=>
   obtain⟨i1,i2,i3⟩:=ih;obtain⟨p1,p2,p3⟩:=beq_pv;have ne:∀{a b:Nat},Nat.beq a b=true->a=b:=fun h=>zf h;refine⟨?_,?_,?_⟩
   ·intro a b hs h;unfold AV.beq at h;split at h <;> (try simp only[Zm,Zz] at h) <;> (try (cases h;done)) <;> (try rfl)
    ·rw[h.1,p1 _ _ h.2]
    ·rw[i2 _ _ (by simp at hs;omega) h]
    ·rw[h.1,p3 _ _ h.2]
    ·rw[h.1.1.1.1,ne h.1.1.1.2,ne h.1.1.2,ne h.1.2,ne h.2]
    ·rw[ne h.1,ne h.2]
    ·rw[h.1.1.1.1,ne h.1.1.1.2,ne h.1.1.2,ne h.1.2,ne h.2]
    ·rw[h.1.1,p1 _ _ h.1.2,ne h.2]
    ·rw[ne h]
    ·rw[ne h]
    ·simp at hs;rw[ne h.1.1,i3 _ _ (by omega) h.1.2,i3 _ _ (by omega) h.2]
    ·rw[h.1,i1 _ _ (by simp at hs;omega) h.2]
    ·rw[i3 _ _ (by simp at hs;omega) h]
   ·intro a b hs h;unfold AV.beqc at h;split at h <;> (try simp only[Zm,Zz] at h) <;> (try (cases h;done)) <;> (try rfl)
    rename_i x a y b;obtain⟨x1,x2⟩:=x;obtain⟨y1,y2⟩:=y;simp only[List.cons.sizeOf_spec,Prod.mk.sizeOf_spec] at hs;simp only at h;rw[h.1.1,i1 _ _ (by omega) h.1.2,i2 _ _ (by omega) h.2]
   ·intro a b hs h;unfold AV.beqs at h;split at h <;> (try simp only[Zm] at h) <;> (try (cases h;done)) <;> (try rfl)
    simp only[List.cons.sizeOf_spec] at hs;rw[i1 _ _ (by omega) h.1,i3 _ _ (by omega) h.2]
 exact⟨fun a b=>(key _).1 a b (zu _),fun a b=>(key _).2.1 a b (zu _),fun a b=>(key _).2.2 a b (zu _)⟩
theorem JQ:∀{a b:Heap},Heap.beq a b=true->a=b
 |[],[],_=>rfl
 |[],_::_,h=>by cases h
 |_::_,[],h=>by cases h
 |x::a,y::b,h=>by
  have ne:∀{a b:Nat},Nat.beq a b=true->a=b:=fun h=>zf h;have frs:∀a b:Fr,Fr.beq a b=true->a=b:=by
   intro a
   induction a with
   |nil=>intro b h;cases b;rfl;cases h
   |cons x a ih=>
    intro b h;cases b with
    |nil=>cases h
    |cons y b=>
     simp only[Fr.beq,Zm] at h;obtain⟨x1,x2⟩:=x;obtain⟨y1,y2⟩:=y;have e1:x1=y1:=ne h.1.1;have e2:x2=y2:=beq_av.1 _ _ h.1.2;rw[e1,e2,ih _ h.2]
  have ms:∀a b:List (PV × PV),PV.beqm a b=true->a=b:=by
   intro a
   induction a with
   |nil=>intro b h;cases b;rfl;cases h
   |cons x a ih=>
    intro b h;cases b with
    |nil=>cases h
    |cons y b=>
     simp only[PV.beqm,Zm] at h;obtain⟨x1,x2⟩:=x;obtain⟨y1,y2⟩:=y;have e1:x1=y1:=beq_pv.1 _ _ h.1.1;have e2:x2=y2:=beq_pv.1 _ _ h.1.2;rw[e1,e2,ih _ h.2]
  simp only[Heap.beq,Zm] at h;rw[JQ h.2]
  congr 1
  have h1:=h.1;unfold AObj.beq at h1;split at h1 <;> (try simp only[Zm,Zz,beq_iff_eq] at h1) <;> (try (cases h1;done))
  ·rw[h1.1,beq_av.1 _ _ h1.2]
  ·rw[h1.1.1,beq_pv.2.2 _ _ h1.1.2,h1.2]
  ·rw[h1.1,ms _ _ h1.2]
  ·rw[ne h1.1.1.1,h1.1.1.2,frs _ _ h1.1.2,h1.2]
theorem Dm{a b:Heap}(h:XB a b=true):a=b:=JQ h
end Go.Am

/- One operation that calls nothing: all of them. -/
namespace Go.Am
variable{P:Program} {w:World} {X:Xc P} {μ:Nat->Option Nat} {hp:Heap}

def AOp.alike(op' op:AOp):Prop:=op'=op\/(∃sh,op=.bslice sh/\(op'=.bslicep sh\/op'=.bslo sh))\/(op=.call/\(op'=.callp\/op'=.callh))

section
variable{fr:Fr} {act:Act} {vs:List AV} (hF:FR w X μ hp fr act.tmps)
include hF
theorem arg1{t:TypeId}{x:Operand}{a:AArg}(h:YS P t x=some a)(ha:fr.argsOf [a]=some vs):LR w X μ hp vs [act.eval x]:=by
 obtain⟨v,rfl,hv⟩:=JH ha;exact .cons (xg hF h hv) .nil
theorem argc{t:TypeId}{x:Operand}{a:AArg}{as:List AArg}{l:List Value}(h:YS P t x=some a)(ha:fr.argsOf (a::as)=some vs)(hr:∀us,fr.argsOf as=some us->LR w X μ hp us l):LR w X μ hp vs (act.eval x::l):=by
 obtain⟨v,us,rfl,hv,hu⟩:=yE ha;exact .cons (xg hF h hv) (hr us hu)
theorem arg2{t u:TypeId}{x y:Operand}{a b:AArg}(h:YS P t x=some a)(k:YS P u y=some b)(ha:fr.argsOf [a,b]=some vs):LR w X μ hp vs [act.eval x,act.eval y]:=
 argc hF h ha fun _ hu=>arg1 hF k hu
theorem arg3{t u q:TypeId}{x y z:Operand}{a b c:AArg}(h:YS P t x=some a)(k:YS P u y=some b)(m:YS P q z=some c)(ha:fr.argsOf [a,b,c]=some vs):LR w X μ hp vs [act.eval x,act.eval y,act.eval z]:=
 argc hF h ha fun _ hu=>arg2 hF k m hu
end

theorem bounds{fr:Fr}{act:Act}{vs:List AV}(hF:FR w X μ hp fr act.tmps){lo hi:Option Operand}{l h:List AArg}(h1:lo.elim (some []) (fun l=>(YS P 0 l).map fun a=>[a])=some l)(h2:hi.elim (some []) (fun l=>(YS P 0 l).map fun a=>[a])=some h)
  (ha:fr.argsOf (l++h)=some vs):LR w X μ hp vs ((lo.map act.eval).toList++(hi.map act.eval).toList):=by
 have key:∀{q:Option Operand} {l:List AArg},q.elim (some []) (fun l=>(YS P 0 l).map fun a=>[a])=some l->(q=none/\l=[])\/∃x a,q=some x/\YS P 0 x=some a/\l=[a]:=by
  intro q l h;cases q with
  |none=>cases h;exact .inl ⟨rfl,rfl⟩
  |some x=>
   simp only[Option.elim,Z7] at h;obtain⟨a,h,rfl⟩:=h;exact .inr ⟨x,a,rfl,h,rfl⟩
 rcases key h1 with⟨rfl,rfl⟩|⟨x,a,rfl,g1,rfl⟩ <;> rcases key h2 with⟨rfl,rfl⟩|⟨y,c,rfl,g2,rfl⟩
 ·cases BJ ha;exact .nil
 ·exact arg1 hF g2 ha
 ·exact arg1 hF g1 ha
 ·exact arg2 hF g1 g2 ha
theorem Ku(a:Array Operand)(f:Operand->Value):(a.toList.map f).toArray=a.map f:=by
 apply Array.ext';simp

theorem args_two{a:Array Operand}{x y:Operand}(h:a.toList=[x,y])(f:Operand->Value):a= #[x,y]/\a.map f= #[f x,f y]:=by
 have:a= #[x,y]:=Array.ext' h;subst this;exact⟨rfl,by simp⟩
theorem vJ{a:Array Operand}{x:Operand}(h:a.toList=[x])(f:Operand->Value):a.map f= #[f x]:=by
 have:a= #[x]:=Array.ext' h;subst this;simp
theorem Dn{a:Array TypeId}{x y:TypeId}(h:a.toList=[x,y]):a= #[x,y]:=Array.ext' h
theorem vK{a:Array TypeId}{x:TypeId}(h:a.toList=[x]):a= #[x]:=Array.ext' h

theorem yO{t:TypeId}{x:Operand}{op op':AOp}{as:List AArg}(h:(match YS P t x with|some a=>some (op,[a])|none=>none)=some (op',as)):∃a,YS P t x=some a/\op'=op/\as=[a]:=by
 split at h
 ·cases h;exact⟨_,‹_›,rfl,rfl⟩
 ·cases h

theorem Do{b:Nat}{o:Oper}{op op':AOp}{as:List AArg}{fr:Fr}{act:Act}{vs:List AV}{v:AV}{hp':Heap}(hb:b<=hp.length)(ht:trOp P o=some (op,as))(hk:op'.alike op)(hF:FR w X μ hp fr act.tmps)(ha:fr.argsOf as=some vs)(hH:HR w X μ hp)
  (hs:astep b op' vs hp=some (v,hp')):Out P b w X μ hp (execOp act.eval o) v hp':=by
 have pureOut:∀{s:Sem Next},YM hp (some v)=some (v,hp')->Yz P w X μ hp s v->Out P b w X μ hp s v hp':=by
  intro s h hy;cases h;exact hy.out hH
 have sp:∀{op:AOp},op.isPure=true->astep b op vs hp=some (v,hp')->spure op vs=some v/\hp'=hp:=by
  intro op ho h;simp only[astep,ho,cond_true] at h;cases h':spure op vs with
  |none=>rw[h'] at h;cases h
  |some u=>rw[h'] at h;cases h;exact⟨rfl,rfl⟩
 have sr:∀{op:AOp},op.isPure=false->op.isRead=true->astep b op vs hp=some (v,hp')->sread op vs hp=some v/\hp'=hp:=by
  intro op ho ho' h;simp only[astep,ho,ho',cond_true,cond_false] at h;cases h':sread op vs hp with
  |none=>rw[h'] at h;cases h
  |some u=>rw[h'] at h;cases h;exact⟨rfl,rfl⟩
 have sw:∀{op:AOp},op.isPure=false->op.isRead=false->astep b op vs hp=some (v,hp')->swrite b op vs hp=some (v,hp'):=by
  intro op ho ho' h;simpa only[astep,ho,ho',cond_false] using h
 have same:∀{o:AOp},op=o->(∀sh,o≠.bslice sh)->o≠.call->op'=o:=by
  intro o e h1 h2;rcases hk with h|⟨sh,h,_⟩|⟨h,_⟩
  ·exact h.trans e
  ·exact absurd (e.symm.trans h) (h1 sh)
  ·exact absurd (e.symm.trans h) h2
 have mv:∀(x:Operand) (t:TypeId),(match YS P t x with|some a=>some (AOp.mv,[a])|none=>none)=some (op,as)->Out P b w X μ hp (pure (.value (act.eval x))) v hp':=by
  intro x t h;obtain⟨a,h1,h2,rfl⟩:=yO h;cases same h2 (by simp) (by simp);obtain⟨h3,rfl⟩:=sp rfl hs;exact(show Yz P w X μ hp' (pure (.value (act.eval x))) v from⟨_,rfl,BZ (arg1 hF h1 ha) h3⟩).out hH
 have one:∀(x:Operand) (t:TypeId) (o:AOp) {s:Sem Next},(match YS P t x with|some a=>some (o,[a])|none=>none)=some (op,as)->o.isPure=true->(∀sh,o≠.bslice sh)->o≠.call->(LR w X μ hp vs [act.eval x]->spure o vs=some v->Yz P w X μ hp s v)->Out P b w X μ hp s v hp':=by
  intro x t o s h hp1 hn hn2 hy;obtain⟨a,h1,h2,rfl⟩:=yO h;cases same h2 hn hn2;obtain⟨h3,rfl⟩:=sp hp1 hs;exact(hy (arg1 hF h1 ha) h3).out hH
 cases hop:o.op <;> simp only[trOp,hop] at ht <;> (try (cases ht;done)) <;> simp only[execOp,hop]
 case move x=>exact mv x _ ht
 case assign x=>
  split at ht
  ·rename_i e hx he;split at ht
   ·rename_i hpos;cases ht;cases same rfl (by simp) (by simp);exact bw hH (sw rfl rfl hs)
   ·cases ht
  ·exact mv _ _ ht
 case pick c x y=>
  split at ht
  ·rename_i a1 a2 a3 h1 h2 h3;cases ht;cases same rfl (by simp) (by simp);obtain⟨h4,rfl⟩:=sp rfl hs;exact(BK (arg3 hF h1 h2 h3 ha) h4).out hH
  ·cases ht
 case alloc t=>
  split at ht
  ·rename_i z hz;cases ht;cases same rfl (by simp) (by simp);exact bf hb hH hz (sw rfl rfl hs)
  ·cases ht
 case box t x=>
  obtain⟨a,h1,h2,rfl⟩:=yO ht;cases same h2 (by simp) (by simp);exact bc hb hH (arg1 hF h1 ha) (sw rfl rfl hs)
 case load t x=>
  split at ht
  ·rename_i hok;obtain⟨a,h1,h2,rfl⟩:=yO ht;cases same h2 (by simp) (by simp);obtain⟨h3,rfl⟩:=sr rfl rfl hs;exact(V8 hH hok (arg1 hF h1 ha) h3).out hH
  ·cases ht
 case store t x y=>
  split at ht
  ·cases ht
  ·rename_i hok;split at ht
   ·rename_i a1 a2 h1 h2;cases ht;cases same rfl (by simp) (by simp);exact bv (by simp at hok;exact hok.2) hH (arg2 hF h1 h2 ha) (sw rfl rfl hs)
   ·cases ht
 case build t parts=>
  split at ht
  ·rename_i z fs hz hu;split at ht
   ·rename_i hok;split at ht
    ·rename_i l as' hl has;cases ht;cases same rfl (by simp) (by simp);obtain⟨h3,rfl⟩:=sp rfl hs;exact(vz hz hl (.inl ⟨fs,hu,hok⟩) (X3 hF has ha) h3).out hH
    ·cases ht
   ·cases ht
  ·rename_i z n e hz hu;split at ht
   ·rename_i hok;split at ht
    ·rename_i l as' hl has;cases ht;cases same rfl (by simp) (by simp);obtain⟨h3,rfl⟩:=sp rfl hs;exact(vz hz hl (.inr ⟨n,e,hu,hok⟩) (X3 hF has ha) h3).out hH
    ·cases ht
   ·cases ht
  ·cases ht
 case buildSlice t n parts=>
  split at ht
  ·rename_i e hu;split at ht
   ·rename_i hc;obtain⟨c1,c2,c3,c4⟩:=hc;split at ht
    ·rename_i as' has;cases ht;rcases hk with rfl|⟨sh,h1,rfl|rfl⟩|⟨h1,_⟩
     ·exact bY hu c3 c4 c1 c2 hH (X3 hF has ha) (sw rfl rfl hs)
     ·cases h1;obtain⟨h3,rfl⟩:=sp rfl hs;exact b6 hu c3 c4 c1 c2 hH (X3 hF has ha) h3
     ·cases h1;exact b5 hu c3 c4 c1 c2 hH (X3 hF has ha) (sw rfl rfl hs)
     ·cases h1
    ·cases ht
   ·cases ht
  ·cases ht
 case binOp bo t x y ty=>
  split at ht
  ·split at ht
   ·rename_i a1 a2 h1 h2;cases ht;cases same rfl (by simp) (by simp);obtain⟨h4,rfl⟩:=sp rfl hs;have hl:=arg2 hF h1 h2 ha;obtain⟨c1,c2,rfl,k1,k2⟩:=hl.inv2;simp only[spure,sBin] at h4;split at h4
    ·rename_i q1 q2 q3 q4 q5;simp only[List.cons.injEq,and_true] at q5;obtain⟨rfl,rfl⟩:=q5;split at h4
     ·rename_i p hp';cases h4;obtain⟨u,u1,u2⟩:=BG (P:=P) bo t x y k1 k2 hp';exact(yN u1 u2).out hH
     ·cases h4
    ·cases h4
   ·cases ht
  ·split at ht
   ·rename_i hbool;split at ht
    ·rename_i a1 a2 h1 h2;cases ht;cases same rfl (by simp) (by simp);obtain⟨h4,rfl⟩:=sp rfl hs;have hl:=arg2 hF h1 h2 ha;obtain⟨c1,c2,rfl,k1,k2⟩:=hl.inv2;simp only[spure,Qb] at h4;split at h4
     ·rename_i q1 q2 q3 q4 q5;simp only[List.cons.injEq,and_true] at q5;obtain⟨rfl,rfl⟩:=q5;split at h4
      ·rename_i p hbb;cases h4;have hty:=VO hbool;obtain⟨u,u1,u2⟩:=BF (P:=P) (w:=w) (X:=X) (μ:=μ) (hp:=hp') bo t x y _ _ hty hbb;rw[k1.bool_inv,k2.bool_inv];exact(yN u1 u2).out hH
      ·cases h4
     ·cases h4
    ·cases ht
   ·split at ht
    ·rename_i hif;split at ht
     ·rename_i hcc;obtain⟨c1,c2⟩:=hcc;obtain⟨a,h1,h2,rfl⟩:=yO ht;cases same h2 (by simp) (by simp);obtain⟨h3,rfl⟩:=sp rfl hs;have hy:y=.const .nilIface:=by
       unfold VL at c2;split at c2
       ·rfl
       ·cases c2
      subst hy;exact(Dh (x:=x) c1 hif (arg1 hF h1 ha) h3).out hH
     ·cases ht
    ·split at ht
     ·rename_i hsl;split at ht
      ·rename_i hcc;obtain⟨c1,c2⟩:=hcc;obtain⟨a,h1,h2,rfl⟩:=yO ht;cases same h2 (by simp) (by simp);obtain⟨h3,rfl⟩:=sp rfl hs;have hy:y=.const (.slice none 0 0):=by
        unfold VN at c2;split at c2
        ·rfl
        ·cases c2
       subst hy;obtain⟨e,he⟩:∃e,P.underlying t=some (.slice e):=by
        unfold VM at hsl;split at hsl
        ·exact⟨_,‹_›⟩
        ·cases hsl
       exact(Dk (x:=x) c1 he (arg1 hF h1 ha) h3).out hH
      ·cases ht
     ·split at ht
      ·rename_i hbo;split at ht
       ·rename_i ds a1 a2 hds h1 h2;cases ht;cases same rfl (by simp) (by simp);obtain⟨h4,rfl⟩:=sp rfl hs;have hbo':bo=.eql\/bo=.neq:=by cases bo <;> first|exact .inl rfl|exact .inr rfl|(cases hbo)
        exact(bL hbo' hds (arg2 hF h1 h2 ha) h4).out hH
       ·cases ht
      ·cases ht
 case unOp uo t x=>
  cases uo <;> simp only at ht <;> (try (cases ht;done))
  ·split at ht
   ·obtain⟨a,h1,h2,rfl⟩:=yO ht;cases same h2 (by simp) (by simp);obtain⟨h3,rfl⟩:=sp rfl hs;exact(BM (arg1 hF h1 ha) h3).out hH
   ·cases ht
  ·obtain⟨a,h1,h2,rfl⟩:=yO ht;cases same h2 (by simp) (by simp);obtain⟨h3,rfl⟩:=sp rfl hs;exact(BL (arg1 hF h1 ha) h3).out hH
 case convert src dst x=>
  split at ht
  ·rename_i k0 k h1 h2;obtain⟨a,g1,g2,rfl⟩:=yO ht;cases same g2 (by simp) (by simp);obtain⟨h3,rfl⟩:=sp rfl hs;exact(BU h1 h2 (arg1 hF g1 ha) h3).out hH
  ·cases ht
 case makeInterface t x=>
  split at ht
  ·cases ht
  ·cases ht
  ·rename_i n1 n2;obtain⟨a,g1,g2,rfl⟩:=yO ht;cases same g2 (by simp) (by simp);obtain⟨h3,rfl⟩:=sp rfl hs;have hcon:P.concrete t=true:=by
    unfold Program.concrete;split
    ·exact absurd ‹_› (n1 _)
    ·exact absurd ‹_› n2
    ·rfl
   exact(BY hcon (arg1 hF g1 ha) h3).out hH
 case makeFunc fn first captured=>
  split at ht
  ·rename_i as' has;cases ht;cases same rfl (by simp) (by simp);obtain⟨h3,rfl⟩:=sp rfl hs;have hl:=X3 hF has ha;rw[List.map_append] at hl;have h4:=B0 (fn:=fn) (first:=first.toList.map act.eval) hl (by simpa[spure] using h3);refine(yN (s:=Instr.makeFunc fn (first.map act.eval) (captured.map act.eval)) (v':=.func fn (first.map act.eval) (captured.map act.eval)) rfl (by rw[<-Ku,<-Ku];exact h4)).out hH
  ·cases ht
 case makeMap t r=>
  cases r with
  |some r=>cases ht
  |none=>
   simp only[] at ht;split at ht
   ·rename_i tk te hu;cases ht;cases same rfl (by simp) (by simp);have h3:=sw rfl rfl hs;simp only[swrite,Option.some.injEq,Prod.mk.injEq] at h3;obtain⟨rfl,rfl⟩:=h3;exact bx hH
   ·cases ht
 case makeSlice t l c=>
  split at ht
  ·rename_i e hu;split at ht
   ·rename_i hc;split at ht
    ·rename_i z a1 a2 hz h1 h2;cases ht;cases same rfl (by simp) (by simp);exact bW hu hc.2.1 hc.2.2 hc.1 hz hH (arg2 hF h1 h2 ha) (sw rfl rfl hs)
    ·cases ht
   ·cases ht
  ·cases ht
 case fieldAddr t x i=>
  split at ht
  ·rename_i fs hu;split at ht
   ·rename_i f hf;split at ht
    ·cases ht
    ·rename_i hok;obtain⟨a,g1,g2,rfl⟩:=yO ht;cases same g2 (by simp) (by simp);obtain⟨h3,rfl⟩:=sp rfl hs;exact(BN hu hf (by simpa using hok) (arg1 hF g1 ha) h3).out hH
   ·cases ht
  ·cases ht
 case field t x i=>
  split at ht
  ·rename_i fs hu;split at ht
   ·rename_i f hf;split at ht
    ·cases ht
    ·rename_i hok;obtain⟨a,g1,g2,rfl⟩:=yO ht;cases same g2 (by simp) (by simp);obtain⟨h3,rfl⟩:=sp rfl hs;exact(BT hu hf (by simpa using hok) (arg1 hF g1 ha) h3).out hH
   ·cases ht
  ·cases ht
 case indexAddr t x i=>
  split at ht
  ·rename_i e hu;split at ht
   ·cases ht
   ·rename_i hok;split at ht
    ·rename_i a1 a2 h1 h2;cases ht;cases same rfl (by simp) (by simp);obtain⟨h3,rfl⟩:=sp rfl hs;exact(BO hu (by simpa using hok) (arg2 hF h1 h2 ha) h3).out hH
    ·cases ht
  ·rename_i n e hu;split at ht
   ·cases ht
   ·rename_i hok;split at ht
    ·rename_i a1 a2 h1 h2;cases ht;cases same rfl (by simp) (by simp);obtain⟨h3,rfl⟩:=sp rfl hs;exact(BR hu (by simpa using hok) (arg2 hF h1 h2 ha) h3).out hH
    ·cases ht
  ·cases ht
 case index t x i=>
  split at ht
  ·rename_i hu;split at ht
   ·rename_i a1 a2 h1 h2;cases ht;cases same rfl (by simp) (by simp);obtain⟨h3,rfl⟩:=sp rfl hs;exact(BS hu (arg2 hF h1 h2 ha) h3).out hH
   ·cases ht
  ·cases ht
 case lookup t m k ok=>
  split at ht
  ·rename_i tk te hu;split at ht
   ·rename_i s a1 a2 z hk0 h1 h2 hz;cases ht;cases same rfl (by simp) (by simp);obtain⟨h3,rfl⟩:=sr rfl rfl hs;exact(bP hu hk0 hz hH (arg2 hF h1 h2 ha) h3).out hH
   ·cases ht
  ·cases ht
 case mapUpdate t m k y=>
  split at ht
  ·cases ht
  ·split at ht
   ·rename_i tk te hu;split at ht
    ·rename_i s a1 a2 a3 hk0 h1 h2 h3;cases ht;cases same rfl (by simp) (by simp);exact vD hu hk0 hH (arg3 hF h1 h2 h3 ha) (sw rfl rfl hs)
    ·cases ht
   ·cases ht
 case insert t m k y=>
  split at ht
  ·cases ht
  ·split at ht
   ·rename_i tk te hu;split at ht
    ·rename_i s a1 a2 a3 hk0 h1 h2 h3;cases ht;cases same rfl (by simp) (by simp);exact vD hu hk0 hH (arg3 hF h1 h2 h3 ha) (sw rfl rfl hs)
    ·cases ht
   ·cases ht
 case extract x i=>
  exact one _ _ _ ht rfl (by simp) (by simp) fun hl h=>BV hl h
 case typeAssert x xt t ok=>
  split at ht
  ·cases ht
  ·cases ht
  ·rename_i n1 n2;split at ht
   ·rename_i z hz;obtain⟨a,g1,g2,rfl⟩:=yO ht;cases same g2 (by simp) (by simp);obtain⟨h3,rfl⟩:=sp rfl hs;cases hu:P.underlying t with
    |none=>exact absurd hu n2
    |some d=>exact(bU hu (fun ms e=>n1 ms (by rw[hu,e])) hz (arg1 hF g1 ha) h3).out hH
   ·cases ht
 case nilCheck x=>
  obtain⟨a,h1,h2,rfl⟩:=yO ht;cases same h2 (by simp) (by simp);obtain⟨h3,rfl⟩:=sp rfl hs;obtain⟨⟨ad,h4⟩,h5⟩:=Dd (arg1 hF h1 ha) h3;rw[h4] at h5 ⊢;exact(show Yz P w X μ hp' (pure (.value (.pointer (some ad)))) v from⟨_,rfl,h5⟩).out hH
 case slice t x lo hi mx=>
  cases mx with
  |some m=>
   cases hi with
   |none=>cases ht
   |some h0=>
    simp only[] at ht;split at ht
    ·rename_i e hu;split at ht
     ·cases ht
     ·rename_i hok;split at ht
      ·rename_i a l b c g1 g2 g3 g4;cases ht;cases same rfl (by simp) (by simp);obtain⟨h3,rfl⟩:=sp rfl hs;have hl2:LR w X μ hp' vs (act.eval x::((lo.map act.eval).toList++[act.eval h0,act.eval m])):=by
        refine argc hF g1 ha fun us hus=> ?_;cases lo with
        |none=>
         simp only[Option.elim,Option.some.injEq] at g2;subst g2;exact arg2 hF g3 g4 hus
        |some l0=>
         simp only[Option.elim,Z7] at g2;obtain⟨q,g2,rfl⟩:=g2;exact arg3 hF g2 g3 g4 hus
       have:=Dl (lo:=lo.map act.eval) hu (by simpa using hok) hl2 (by simpa[spure] using h3);exact this.out hH
      ·cases ht
    ·cases ht
  |none=>
   simp only[] at ht;split at ht
   ·rename_i e hu;split at ht
    ·cases ht
    ·rename_i hok;split at ht
     ·rename_i a l h g1 g2 g3;cases ht;cases same rfl (by simp) (by simp);obtain⟨h3,rfl⟩:=sp rfl hs;have:=Dc (lo:=lo.map act.eval) (hi:=hi.map act.eval) hu (by simpa using hok) (argc hF g1 ha fun us hus=>bounds hF g2 g3 hus) (by simpa[spure] using h3);exact this.out hH
     ·cases ht
   ·rename_i hu;split at ht
    ·rename_i a l h g1 g2 g3;cases ht;cases same rfl (by simp) (by simp);obtain⟨h3,rfl⟩:=sp rfl hs;have:=bT (lo:=lo.map act.eval) (hi:=hi.map act.eval) hu rfl (argc hF g1 ha fun us hus=>bounds hF g2 g3 hus) (by simpa[spure] using h3);exact this.out hH
    ·cases ht
   ·cases ht
 case call c=>
  cases hcal:c.callee with
  |invoke r n=>rw[hcal] at ht;cases ht
  |value f=>
   rw[hcal] at ht;simp only[] at ht;split at ht
   ·cases ht;rcases hk with rfl|⟨sh,h1,_⟩|⟨_,rfl|rfl⟩
    ·cases hs
    ·cases h1
    ·cases hs
    ·cases hs
   ·cases ht
  |builtin bi=>
   rw[hcal] at ht;simp only[resolve,hcal];have go:∀(s:Sem Next),builtin bi c.argTypes o.type (c.args.map fun| .const _=>true|_=>false) (c.args.map act.eval)=s->Out P b w X μ hp s v hp'->Out P b w X μ hp (do let d <-(pure { target:=.builtin bi c.argTypes o.type (c.args.map fun| .const _=>true|_=>false),args:=c.args.map act.eval }:Sem Deferred);invoke d.target d.args) v hp':=by
    intro s e h;subst e;exact h
   cases bi <;> simp only[] at ht <;> (try (cases ht;done))
   case append=>
    split at ht
    ·rename_i x y t u e1 e2;obtain⟨ae,ae'⟩:=args_two e1 act.eval;have te:=Dn e2;split at ht
     ·rename_i e e' hu hu';split at ht
      ·rename_i hc;obtain⟨rfl,c1,c2,c3⟩:=hc;split at ht
       ·rename_i a1 a2 h1 h2;cases ht;cases same rfl (by simp) (by simp);exact go _ rfl (by rw[te,ae'];exact vl hu c2 c3 c1 hH (arg2 hF h1 h2 ha) (sw rfl rfl hs))
       ·cases ht
      ·cases ht
     ·cases ht
    ·cases ht
   case clear=>
    split at ht
    ·rename_i x t e1 e2;have ae:=vJ e1 act.eval;have te:=vK e2;split at ht
     ·rename_i e hu;split at ht
      ·rename_i hc;split at ht
       ·rename_i z a1 hz h1;cases ht;cases same rfl (by simp) (by simp);exact go _ rfl (by rw[te,ae];exact b7 hu hc.1 hc.2 hz hH (arg1 hF h1 ha) (sw rfl rfl hs))
       ·cases ht
      ·cases ht
     ·cases ht
    ·cases ht
   case len=>
    split at ht
    ·rename_i x t e1 e2;have ae:=vJ e1 act.eval;have te:=vK e2;split at ht
     ·rename_i e hu;exact go _ rfl (one _ _ _ ht rfl (by simp) (by simp) fun hl h=>by rw[te,ae];exact B4 hu hl h)
     ·rename_i hu;exact go _ rfl (one _ _ _ ht rfl (by simp) (by simp) fun hl h=>by rw[te,ae];exact B5 hu hl h)
     ·rename_i tk tv hu;obtain⟨a,g1,g2,rfl⟩:=yO ht;cases same g2 (by simp) (by simp);obtain⟨h3,rfl⟩:=sr rfl rfl hs;exact go _ rfl (by rw[te,ae];exact(B6 hH hu (arg1 hF g1 ha) h3).out hH)
     ·cases ht
    ·cases ht
   case max=>
    split at ht
    ·rename_i x y t u e1 e2;obtain⟨ae,ae'⟩:=args_two e1 act.eval;split at ht
     ·rename_i a1 a2 h1 h2;cases ht;cases same rfl (by simp) (by simp);obtain⟨h3,rfl⟩:=sp rfl hs;exact go _ rfl (by rw[ae'];exact(BX (arg2 hF h1 h2 ha) h3).out hH)
     ·cases ht
    ·cases ht
   case min=>
    split at ht
    ·rename_i x y t u e1 e2;obtain⟨ae,ae'⟩:=args_two e1 act.eval;split at ht
     ·rename_i a1 a2 h1 h2;cases ht;cases same rfl (by simp) (by simp);obtain⟨h3,rfl⟩:=sp rfl hs;exact go _ rfl (by rw[ae'];exact(BW (arg2 hF h1 h2 ha) h3).out hH)
     ·cases ht
    ·cases ht
 case panic x=>
  obtain⟨a,g1,g2,rfl⟩:=yO ht;cases same g2 (by simp) (by simp);cases hs
end Go.Am

/- Calls of an oracle; one operation of a region, whatever it is. -/
namespace Go.Am
variable{P:Program} {w:World} {X:Xc P} {μ:Nat->Option Nat} {hp:Heap}

def Xn(b:Nat)(w:World)(X:Xc P)(μ:Nat->Option Nat)(hp:Heap)(r:ARes)(hp':Heap):Ending->World->Prop
 | .returned v',w'=>∃μ' v,r=.ret v/\HR w' X μ' hp'/\Ext b X μ hp w μ' hp' w'/\AR w' X μ' hp' v v'
 | .panicked chain,w'=>∃μ' p v',r=.panic p/\chain=[{ v:=v',recovered:=false }]/\HR w' X μ' hp'/\Ext b X μ hp w μ' hp' w'/\AR w' X μ' hp' (.pv none p) v'
 | .outgrown,_=>False

def Called(P:Program)(f:FuncId)(args:Array Value)(w:World)(R:Ending->World->Prop):Prop:=
 ((callFunc f args).run P w=.ok (.enter f args) w/\Calls P f args w R)\/∃v w',(callFunc f args).run P w=.ok (.value v) w'/\R (.returned v) w'

theorem Called.mono{f:FuncId}{args:Array Value}{R R':Ending->World->Prop}(h:Called P f args w R)(hr:∀e w',R e w'->R' e w'):Called P f args w R':=by
 rcases h with⟨h1,h2⟩|⟨v,w',h1,h2⟩
 ·exact .inl ⟨h1,h2.mono hr⟩
 ·exact .inr ⟨v,w',h1,hr _ _ h2⟩

abbrev Fe(ro:Option Nat):Fence:={ Fence.wide with round:=ro }
theorem JR{ro:Option Nat}{n:Nat}:(Fe ro).depth.isSome=true->1<=n:=fun h=>by cases h
def X4(rec:Loop)(vs:List Value):Array Value:=(rec.params.zip vs.toArray).foldl (fun tmps (t,a)=>tmps.setIfInBounds t a) rec.tmps
def Leaving(w:World)(X:Xc P)(μ:Nat->Option Nat)(hp:Heap)(p:PV)(u:FrameMode):Prop:=
 (u=.returning/\p=.niliface)\/∃v,u=.panicking [{ v:=v,recovered:=false }]/\AR w X μ hp (.pv none p) v
structure SoundO(P:Program)(Γ:Oracle):Prop where
 seq:∀f args hp r hp',Γ .seq f args hp=some (r,hp')->∀(w:World) (X:Xc P) (μ:Nat->Option Nat) (vs:List Value),HR w X μ hp->LR w X μ hp args vs->(callFunc f vs.toArray).run P w=.ok (.enter f vs.toArray) w/\Calls P f vs.toArray w (Xn hp.length w X μ hp r hp')
 fn:∀f args hp r hp',Γ .fn f args hp=some (r,hp')->∀(w:World) (X:Xc P) (μ:Nat->Option Nat) (vs:List Value),HR w X μ hp->LR w X μ hp args vs->Called P f vs.toArray w (Xn hp.length w X μ hp r hp')
 rnd:∀f q as hp v hp' ps env,Γ .rnd f (.yield q::as) hp=some (.ret v,hp')->hp[q]? =some (.loop f ps env false)->∀(w:World) (X:Xc P) (μ:Nat->Option Nat) (vs:List Value) (l:Nat) (rec:Loop),HR w X μ hp->LR w X μ hp as vs->μ q=some l->w.heap[l]? =some (.loop rec)->
  vs.length=rec.params.size/\RoundIn Fence.wide 0 P l rec.fn (X4 rec vs) rec.assign rec.body w (Xn hp.length w X μ hp (.ret v) hp')
 dfr:∀g p as hp r hp',Γ .dfr g (.pv none p::as) hp=some (r,hp')->∀(w:World) (X:Xc P) (μ:Nat->Option Nat) (vs:List Value) (u:FrameMode),HR w X μ hp->LR w X μ hp as vs->Leaving w X μ hp p u->
  (callFunc g vs.toArray).run P w=.ok (.enter g vs.toArray) w/\CallsDIn Fence.wide 0 P g vs.toArray u w fun e u' w'=>(∃v,e=.returned v)/\Go.settle u'=.returning/\∃μ',HR w' X μ' hp'/\Ext hp.length X μ hp w μ' hp' w'

theorem Ext.mono{b b0:Nat}{μ':Nat->Option Nat}{hp':Heap}{w':World}(h:Ext b0 X μ hp w μ' hp' w')(hb:b<=b0):Ext b X μ hp w μ' hp' w':=
 { h with box:=fun i sh v ho=>let ⟨v',h1,h2,h3⟩:=h.box i sh v ho;⟨v',h1,h2,fun hi=>h3 (ZM hi hb)⟩ }

theorem CP.lr{ps:List (Sh × PV)}{vs:List Value}(h:CP w (Im X μ hp) ps vs):LR w X μ hp (pvs ps) vs:=
 LR.of (by simp[pvs,h.1]) fun i a v ha hv=>by
  simp only[pvs,zP,Z7] at ha;obtain⟨x,hx,rfl⟩:=ha;exact .pv _ _ _ (h.2.1 i x v hx hv) (h.2.2 i x v hx hv)

def held(X:Xc P)(μ:Nat->Option Nat)(hp:Heap):Xc P:=⟨fun b=>X b\/∃i,live hp i=true/\μ i=some b⟩

theorem HR.empty(h:HR w X μ hp):HR w (held X μ hp) μ []:=
 ⟨fun i _ _ hi=>by simp at hi,fun i _ hi=>by simp at hi,fun b hb=>by
  rcases hb with hb|⟨i,hi,e⟩
  ·exact h.xlt b hb
  ·exact(h.out i b (XR hi) e).2,fun i _ _ h=>by simp at h,fun i _ _ _ h=>by simp at h,fun i _ _ h=>by simp at h,fun i _ _ _ _ h=>by simp at h⟩

theorem vL{b:Nat}(h:Im X μ hp b):Im (held X μ hp) μ [] b:=
 ⟨fun hb=>by
  rcases hb with hb|⟨i,hi,e⟩
  ·exact h.1 hb
  ·exact h.2 i hi e,fun i hi=>by simp[live] at hi⟩

theorem JS{b:Nat}{μ':Nat->Option Nat}{hp':Heap}(h:Im (held X μ hp) μ' hp' b):Im X μ hp b:=
 ⟨fun hb=>h.1 (.inl hb),fun i hi e=>h.1 (.inr ⟨i,hi,e⟩)⟩

theorem CP.empty{ps:List (Sh × PV)}{vs:List Value}(h:CP w (Im X μ hp) ps vs):CP w (Im (held X μ hp) μ []) ps vs:=
 ⟨h.1,h.2.1,fun i x v hx hv=>(h.2.2 i x v hx hv).mono fun _ _ _ _ hI hb=>⟨vL hI,hb⟩⟩

theorem back{b0 b:Nat}{X':Xc P}{μ':Nat->Option Nat}{hp':Heap}{w':World}(h:HR w X μ hp)(E:Ext b0 X' μ [] w μ' hp' w'):HR w' X μ hp/\Ext b X μ hp w μ hp w':=by
 have hb:∀k,k<w.heap.size->w'.heap[k]? =w.heap[k]? :=fun k hk=>E.blk k hk fun i hi=>by simp[live] at hi
 have e:∀b,Ext b X μ hp w μ hp w':=fun b=>{ Ext.refl b X μ hp w with
  os:=E.os,tape:=E.tape,output:=E.output,size:=E.size,blk:=fun k hk _=>hb k hk,shape:=E.shape
  new:=fun i h1 h2=>by omega
  mov:=fun i _ k hk=>.inl hk }
 exact⟨h.same (e 0) fun i k hi hk=>hb k (h.out i k hi hk).2,e b⟩

theorem Dp{μ':Nat->Option Nat}{hp':Heap}{v v':AV}{u:Value}(h:v.bare=some v')(ha:AR w (held X μ hp) μ' hp' v u):AR w X μ hp v' u:=by
 have pr:∀{p:PV} {u:Value},PR w (Im (held X μ hp) μ' hp') p u->PR w (Im X μ hp) p u:=fun h=>h.mono fun _ _ _ _ hI hb=>⟨JS hI,hb⟩;unfold AV.bare at h;split at h
 ·cases h;cases ha with|pv _ _ _ hs hq=>exact .pv _ _ _ hs (pr hq)
 ·rename_i l;split at h
  ·rename_i ps hps;cases h;cases ha with|tuple _ vs hl hx=>
   have hpv:l=pvs ps:=by
    clear hl hx
    induction l generalizing ps with
    |nil=>cases hps;rfl
    |cons a r ih=>
     cases a <;> simp only[jW] at hps <;> (try (cases hps;done))
     split at hps
     ·rename_i l hl;cases hps;simp only[pvs,ZP,List.cons.injEq,true_and];exact ih _ hl
     ·cases hps
   subst hpv;refine .tuple _ vs hl fun i a v hi hv=> ?_;have:=hx i a v hi hv;simp only[pvs,zP,Z7] at hi;obtain⟨x,hx',rfl⟩:=hi;cases this with|pv _ _ _ hs hq=>exact .pv _ _ _ hs (pr hq)
  ·cases h
 ·cases h

theorem Dq{μ':Nat->Option Nat}{hp':Heap}{v v':AV}{u:Value}(h:v.alone hp'=some v')(hH:HR w (held X μ hp) μ' hp')(ha:AR w (held X μ hp) μ' hp' v u):AR w X μ hp v' u:=by
 unfold AV.alone at h;split at h
 ·rename_i v1 hb;cases h;exact Dp hb ha
 ·split at h
  ·rename_i p hp2 hf;cases h;obtain⟨_,_,k3⟩:=Qs 0 w _ μ' _ _ _ _ _ _ hf hH ha;exact .pv _ _ _ (ha.vshp (JJ hf)) (k3.mono fun _ _ _ _ hI hb=>⟨JS hI,hb⟩)
  ·cases h
theorem vM:∀(l q:List AV) (vs:List Value),LR w X μ hp l vs->LR w (held X μ hp) μ [] q vs->LR w (held X μ hp) μ [] (yI l q) vs
 |[],q,vs,_,hq=>by
  have e:yI [] q=q:=by cases q <;> rfl
  rw[e];exact hq
 |x::r,[],vs,_,hq=>by
  have e:yI (x::r) []=[]:=by unfold yI;split <;> first|rfl|simp_all
  rw[e];exact hq
 |x::r,y::q,vs,hl,hq=>by
  cases hl with|cons h1 hl=>
  cases hq with|cons k1 hq=>
  have ih:=vM r q _ hl hq;unfold yI;split
  ·rename_i s r' y' q' e1 e2;cases e1;cases e2;cases h1 with|tsl _ _ a h=>
   exact .cons (.tsl _ _ a (h.mono fun _ _ _ _ hI hb=>⟨vL hI,hb⟩)) ih
  ·rename_i e1 e2;cases e1;cases e2;exact .cons k1 ih
  ·rename_i n1 n2;exact absurd rfl (n2 _ _ _ _ rfl)
theorem LR.append{l k:List AV}{vs us:List Value}(h:LR w X μ hp l vs)(h':LR w X μ hp k us):LR w X μ hp (l++k) (vs++us):=by
 induction h with
 |nil=>exact h'
 |cons h _ ih=>exact .cons h ih

theorem JT{v:AV}{u:Value}{g:FuncId}{first captured:List AV}(h:yB v=some (g,first,captured))(ha:AR w X μ hp v u):∃fs cs:List Value,u=.func (.func g) fs.toArray cs.toArray/\LR w X μ hp first fs/\LR w X μ hp captured cs:=by
 unfold yB at h;split at h
 ·cases h;cases ha with|pv _ _ _ _ hq=>
  cases hq;exact⟨[],[],rfl,.nil,.nil⟩
 ·cases h;cases ha with|func _ _ _ fs cs hf hc h1 h2=>exact⟨fs,cs,rfl,LR.of hf h1,LR.of hc h2⟩
 ·cases h

def After(b:Nat)(w:World)(X:Xc P)(μ:Nat->Option Nat)(hp:Heap)(r:OpRes)(a:Act)(dst:Option Tmp)(K:Act->World->Prop)(Q:Exit->Act->World->Prop):Prop:=
 match r with
 | .val v hp'=>∀v' w' μ',AR w' X μ' hp' v v'->HR w' X μ' hp'->Ext b X μ hp w μ' hp' w'->K (a.put dst v') w'
 | .panic p hp'=>∀v' w' μ',AR w' X μ' hp' (.pv none p) v'->HR w' X μ' hp'->Ext b X μ hp w μ' hp' w'->Q (.panic [{ v:=v',recovered:=false }]) a w'

theorem Dr{b:Nat}{o:Oper}{a:Act}{v:AV}{hp':Heap}{K:Act->World->Prop}{Q:Exit->Act->World->Prop}{ro:Option Nat}(hnd:∀c,o.op≠.defer c)(h:Out P b w X μ hp (execOp a.eval o) v hp')(hA:After b w X μ hp (.val v hp') a o.dst K Q):o.wpIn (Fe ro) 0 P a w K Q:=by
 obtain⟨n,v',w',μ',h1,h2,h3,h4,h5⟩:=h;refine⟨fun _ _=>trivial,?_⟩;rw[Oper.semAt_eq _ _ _ hnd,h1];rcases h2 with rfl|⟨rfl,rfl⟩
 ·exact hA v' w' μ' h3 h4 h5
 ·exact hA _ w' μ' h3 h4 h5

theorem JU{o:Oper}{a:Act}{f:FuncId}{args:Array Value}{K:Act->World->Prop}{Q:Exit->Act->World->Prop}{R:Ending->World->Prop}{ro:Option Nat}(hnd:∀c,o.op≠.defer c)(he:(execOp a.eval o).run P w=(callFunc f args).run P w)(h:Called P f args w R)
  (hr:∀v w',R (.returned v) w'->K (a.put o.dst v) w')(hp:∀c w',R (.panicked c) w'->Q (.panic c) a w')(ho:∀w',¬R .outgrown w'):o.wpIn (Fe ro) 0 P a w K Q:=by
 refine⟨fun _ _=>trivial,?_⟩;rw[Oper.semAt_eq _ _ _ hnd,he];rcases h with⟨h1,h2⟩|⟨v,w',h1,h2⟩
 ·rw[h1,Oper.uponIn_enter];refine⟨JR,?_⟩;have h3:CallsIn (Fe ro) (0 - 1) P f args w R:=callsIn_wide.2 h2;refine h3.mono fun e w' hR=> ?_;cases e with
  |returned v=>exact hr v w' hR
  |panicked c=>exact hp c w' hR
  |outgrown=>exact absurd hR (ho w')
 ·rw[h1];exact hr v w' h2

theorem Kv{o:Oper}{a:Act}{c:Call}{f:Operand}{g:FuncId}{fs cs:List Value}(hop:o.op=.call c)(hc:c.callee=.value f)(hf:a.eval f=.func (.func g) fs.toArray cs.toArray):
  (execOp a.eval o).run P w=(callFunc g (fs++c.args.toList.map a.eval++cs).toArray).run P w:=by
 have e:fs.toArray++c.args.map a.eval++cs.toArray=(fs++c.args.toList.map a.eval++cs).toArray:=by
  apply Array.ext';simp
 simp only[execOp,hop,resolve,hc,hf,Deferred.ofValue,pure_bind,invoke];rw[<-e]

theorem Kw{o:Oper}{as:List AArg}(h:trOp P o=some (.call,as)):∃c f a1 as',o.op=.call c/\c.callee=.value f/\YS P 0 f=some a1/\XZ P c.args.toList c.argTypes.toList=some as'/\as=a1::as':=by
 cases hop:o.op <;> simp only[trOp,hop] at h <;> (try (cases h;done))
 case call c=>
  cases hc:c.callee with
  |value f=>
   rw[hc] at h;simp only[] at h;split at h
   ·cases h;exact⟨c,f,_,_,rfl,hc,‹_›,‹_›,rfl⟩
   ·cases h
  |invoke r n=>rw[hc] at h;cases h
  |builtin bi=>
   rw[hc] at h;cases bi <;> simp only[] at h <;> (try (cases h;done)) <;> (repeat' split at h) <;> cases h
 all_goals ((repeat' split at h) <;> first|(cases h;done)|(exfalso;simp_all;done))
theorem Ds{o:Oper}{as:List AArg}:¬trOp P o=some (.callp,as):=by
 intro h;cases hop:o.op <;> simp only[trOp,hop] at h <;> (try (cases h;done))
 case call c=>
  cases hc:c.callee with
  |value f=>rw[hc] at h;(repeat' split at h) <;> cases h
  |invoke r n=>rw[hc] at h;cases h
  |builtin bi=>
   rw[hc] at h;cases bi <;> simp only[] at h <;> (try (cases h;done)) <;> (repeat' split at h) <;> cases h
 all_goals ((repeat' split at h) <;> first|(cases h;done)|(exfalso;simp_all;done))
theorem Dt{o:Oper}{as:List AArg}:¬trOp P o=some (.callh,as):=by
 intro h;cases hop:o.op <;> simp only[trOp,hop] at h <;> (try (cases h;done))
 case call c=>
  cases hc:c.callee with
  |value f=>rw[hc] at h;(repeat' split at h) <;> cases h
  |invoke r n=>rw[hc] at h;cases h
  |builtin bi=>
   rw[hc] at h;cases bi <;> simp only[] at h <;> (try (cases h;done)) <;> (repeat' split at h) <;> cases h
 all_goals ((repeat' split at h) <;> first|(cases h;done)|(exfalso;simp_all;done))
theorem vN{o:Oper}{as:List AArg}:¬trOp P o=some (.callg,as):=by
 intro h;cases hop:o.op <;> simp only[trOp,hop] at h <;> (try (cases h;done))
 case call c=>
  cases hc:c.callee with
  |value f=>rw[hc] at h;(repeat' split at h) <;> cases h
  |invoke r n=>rw[hc] at h;cases h
  |builtin bi=>
   rw[hc] at h;cases bi <;> simp only[] at h <;> (try (cases h;done)) <;> (repeat' split at h) <;> cases h
 all_goals ((repeat' split at h) <;> first|(cases h;done)|(exfalso;simp_all;done))
theorem Du{o:Oper}{as:List AArg}{n:Nat}:¬trOp P o=some (.calln n,as):=by
 intro h;cases hop:o.op <;> simp only[trOp,hop] at h <;> (try (cases h;done))
 case call c=>
  cases hc:c.callee with
  |value f=>rw[hc] at h;(repeat' split at h) <;> cases h
  |invoke r n=>rw[hc] at h;cases h
  |builtin bi=>
   rw[hc] at h;cases bi <;> simp only[] at h <;> (try (cases h;done)) <;> (repeat' split at h) <;> cases h
 all_goals ((repeat' split at h) <;> first|(cases h;done)|(exfalso;simp_all;done))
theorem Dv{o:Oper}{as:List AArg}{sh:Sh}{n:Nat}:¬trOp P o=some (.bslicen sh n,as):=by
 intro h;cases hop:o.op <;> simp only[trOp,hop] at h <;> (try (cases h;done))
 case call c=>
  cases hc:c.callee with
  |value f=>rw[hc] at h;(repeat' split at h) <;> cases h
  |invoke r n=>rw[hc] at h;cases h
  |builtin bi=>
   rw[hc] at h;cases bi <;> simp only[] at h <;> (try (cases h;done)) <;> (repeat' split at h) <;> cases h
 all_goals ((repeat' split at h) <;> first|(cases h;done)|(exfalso;simp_all;done))
theorem Dw{o:Oper}{as:List AArg}(h:trOp P o=some (.panic,as)):∃x a1,o.op=.panic x/\YS P 0 x=some a1/\as=[a1]:=by
 cases hop:o.op <;> simp only[trOp,hop] at h <;> (try (cases h;done))
 case panic x=>
  obtain⟨a,g1,g2,rfl⟩:=yO h;exact⟨x,a,rfl,g1,rfl⟩
 case call c=>
  cases hc:c.callee with
  |value f=>rw[hc] at h;(repeat' split at h) <;> cases h
  |invoke r n=>rw[hc] at h;cases h
  |builtin bi=>
   rw[hc] at h;cases bi <;> simp only[] at h <;> (try (cases h;done)) <;> (repeat' split at h) <;> cases h
 all_goals ((repeat' split at h) <;> first|(cases h;done)|(exfalso;simp_all;done))

theorem qK{Γ:Oracle}(hΓ:SoundO P Γ){b:Nat}{o:Oper}{op op':AOp}{as:List AArg}{fr:Fr}{a:Act}{vs:List AV}{r:OpRes}{K:Act->World->Prop}{Q:Exit->Act->World->Prop}{ro:Option Nat}(hb:b<=hp.length)(ht:trOp P o=some (op,as))(hk:op'.alike op)
  (hF:FR w X μ hp fr a.tmps)(ha:fr.argsOf as=some vs)(hH:HR w X μ hp)(hs:aOp Γ b op' vs hp=some r)(hA:After b w X μ hp r a o.dst K Q):o.wpIn (Fe ro) 0 P a w K Q:=by
 have plain:(∀op,op'≠.call->op'≠.callp->op'≠.callh->op'≠.callg->(∀n,op'≠.calln n)->(∀sh n,op'≠.bslicen sh n)->op'≠.panic->op=op'->aOp Γ b op vs hp=(match astep b op vs hp with|some (v,hp')=>some (.val v hp')|none=>none)):=by
  intro op h1 h2 h2' h2g h2n h2b h3 e;subst e;unfold aOp;split
  ·exact absurd rfl h1
  ·exact absurd rfl h2
  ·exact absurd rfl h2'
  ·exact absurd rfl h2g
  ·exact absurd rfl (h2n _)
  ·exact absurd rfl (h2b _ _)
  ·exact absurd rfl h3
  ·rfl
 have hnd:∀c,o.op≠.defer c:=by
  intro c e;simp only[trOp,e] at ht;cases ht
 by_cases c1:op'=.call
 ·subst c1;have hop:op=.call:=by
   rcases hk with h|⟨sh,_,h|h⟩|⟨h,_⟩
   ·exact h.symm
   ·cases h
   ·cases h
   ·exact h
  subst hop;obtain⟨c,f,a1,as',hc1,hc2,hc3,hc4,rfl⟩:=Kw ht;obtain⟨v1,us,rfl,hv1,hus⟩:=yE ha;have g1:=xg hF hc3 hv1;have g2:=X3 hF hc4 hus;simp only[aOp] at hs;unfold yl at hs;split at hs
  ·rename_i q as2 heq;simp only[List.cons.injEq] at heq;obtain⟨rfl,rfl⟩:=heq;split at hs
   ·rename_i f2 hlf;obtain⟨ps,env,hq⟩:∃ps env,hp[q]? =some (.loop f2 ps env false):=by
     unfold Jy at hlf;split at hlf
     ·rename_i f3 ps env e3;cases hlf;exact⟨ps,env,e3⟩
     ·cases hlf
    obtain⟨l,rc,l1,l2,l3,l4,l5,l6,l7⟩:=hH.loop q f2 ps env false hq;have e1:a.eval f=.func (.yield l) #[] #[]:=by
     generalize a.eval f=u at g1;cases g1 with|yield _ l' _ _ _ _ _ hb'=>
     rw[l1] at hb';cases hb';rfl
    split at hs
    ·rename_i v hp' hg;cases hs;obtain⟨k1,k2⟩:=hΓ.rnd _ _ _ _ _ _ _ _ hg hq w X μ _ l rc hH g2 l1 l2;have hrun:(execOp a.eval o).run P w=.ok (.round l rc.fn (X4 rc (c.args.toList.map a.eval)) rc.assign rc.body) w:=by
      have e2:(c.args.toList.map a.eval).toArray=c.args.map a.eval:=Ku _ _;have:=run_yield (P:=P) (args:=c.args.map a.eval) l2 (by rw[<-k1];simp);simp only[execOp,hc1,resolve,hc2,e1,Deferred.ofValue,pure_bind,invoke,X4,e2];simpa using this
     refine⟨fun _ _=>trivial,?_⟩;rw[Oper.semAt_eq _ _ _ hnd,hrun,Oper.uponIn_round];refine⟨JR,?_⟩;have h3:RoundIn (Fe ro) (0 - 1) P l rc.fn (X4 rc (c.args.toList.map a.eval)) rc.assign rc.body w _:=k2;refine h3.mono fun e w' hR=> ?_;cases e with
     |returned v'=>
      obtain⟨μ',v2,h1,h2,h3,h4⟩:=hR;cases h1;exact hA v' w' μ' h4 h2 (h3.mono hb)
     |panicked ch=>
      obtain⟨μ',p,v',h1,_⟩:=hR;cases h1
     |outgrown=>exact hR.elim
    ·cases hs
   ·cases hs
  ·rename_i f1 as1 _ heq;simp only[List.cons.injEq] at heq;obtain⟨rfl,rfl⟩:=heq;split at hs
   ·rename_i g first captured hcal
    obtain⟨fs,cs,e1,e2,e3⟩:=JT hcal g1;have hrun:=Kv (P:=P) (w:=w) hc1 hc2 e1;have hL:=(e2.append g2).append e3;split at hs
    ·rename_i v hp' hg;cases hs;refine JU hnd hrun (hΓ.fn _ _ _ _ _ hg w X μ _ hH hL) (fun v' w' hR=> ?_) (fun c w' hR=> ?_) (fun w' hR=>hR)
     ·obtain⟨μ',v2,h1,h2,h3,h4⟩:=hR;cases h1;exact hA v' w' μ' h4 h2 (h3.mono hb)
     ·obtain⟨μ',p,v',h1,_⟩:=hR;cases h1
    ·rename_i v hp' hg;cases hs;refine JU hnd hrun (hΓ.fn _ _ _ _ _ hg w X μ _ hH hL) (fun v' w' hR=> ?_) (fun c w' hR=> ?_) (fun w' hR=>hR)
     ·obtain⟨μ',v2,h1,h2,h3,h4⟩:=hR;cases h1
     ·obtain⟨μ',p,v',h1,rfl,h2,h3,h4⟩:=hR;cases h1;exact hA v' w' μ' h4 h2 (h3.mono hb)
    ·cases hs
   ·cases hs
  ·cases hs
 ·by_cases c2:op'=.callp
  ·subst c2;have hop:op=.call:=by
    rcases hk with h|⟨sh,_,h|h⟩|⟨h,_⟩
    ·exact absurd ht (by rw[<-h];exact Ds)
    ·cases h
    ·cases h
    ·exact h
   subst hop;obtain⟨c,f,a1,as',hc1,hc2,hc3,hc4,rfl⟩:=Kw ht;obtain⟨v1,us,rfl,hv1,hus⟩:=yE ha;have g1:=xg hF hc3 hv1;have g2:=X3 hF hc4 hus;simp only[aOp,Qk] at hs;split at hs
   ·rename_i s0 g as0 heq;simp only[List.cons.injEq] at heq;obtain⟨rfl,rfl⟩:=heq;split at hs
    ·rename_i ps hps;have hCP:=Kl _ _ _ hps g2;have hE:=(HR.empty hH);have hL:=vM _ _ _ g2 hCP.empty.lr;cases g1 with|pv _ _ _ _ hq=>
     have e1:a.eval f=.func (.func g) ([]:List Value).toArray ([]:List Value).toArray:=by
      generalize a.eval f=u at hq;cases hq;rfl
     have hrun:=Kv (P:=P) (w:=w) hc1 hc2 e1;simp only[ZE,ZF] at hrun;split at hs
     ·rename_i v hp2 hg;split at hs
      ·rename_i v' hbare;cases hs;refine JU hnd hrun (hΓ.fn _ _ _ _ _ hg w _ μ _ hE hL) (fun v' w' hR=> ?_) (fun c w' hR=> ?_) (fun w' hR=>hR)
       ·obtain⟨μ',v2,h1,h2,h3,h4⟩:=hR;cases h1;obtain⟨k1,k2⟩:=back (b:=b) hH h3;exact hA v' w' μ (Dq hbare h2 h4) k1 k2
       ·obtain⟨μ',p,v',h1,_⟩:=hR;cases h1
      ·cases hs
     ·cases hs
    ·cases hs
   ·cases hs
  ·by_cases c4:op'=.callh
   ·subst c4;have hop:op=.call:=by
     rcases hk with h|⟨sh,_,h|h⟩|⟨h,_⟩
     ·exact absurd ht (by rw[<-h];exact Dt)
     ·cases h
     ·cases h
     ·exact h
    subst hop;obtain⟨c,f,a1,as',hc1,hc2,hc3,hc4,rfl⟩:=Kw ht;obtain⟨v1,us,rfl,hv1,hus⟩:=yE ha;have g1:=xg hF hc3 hv1;have g2:=X3 hF hc4 hus;simp only[aOp,Qi] at hs;split at hs
    ·rename_i g first captured hcal
     obtain⟨fs,cs,e1,e2,e3⟩:=JT hcal g1;have hrun:=Kv (P:=P) (w:=w) hc1 hc2 e1;have hL:=(e2.append g2).append e3;split at hs
     ·rename_i v hp' hg;split at hs
      ·rename_i hsame;cases hs;cases Dm hsame;refine JU hnd hrun (hΓ.fn _ _ _ _ _ hg w X μ _ hH hL) (fun v' w' hR=> ?_) (fun c w' hR=> ?_) (fun w' hR=>hR)
       ·obtain⟨μ',v2,h1,h2,h3,h4⟩:=hR;cases h1;exact hA v' w' μ' h4 h2 (h3.mono hb)
       ·obtain⟨μ',p,v',h1,_⟩:=hR;cases h1
      ·cases hs
     ·cases hs
    ·cases hs
   ·by_cases c3:op'=.panic
    ·subst c3;have hop:op=.panic:=by
      rcases hk with h|⟨sh,_,h|h⟩|⟨_,h|h⟩
      ·exact h.symm
      ·cases h
      ·cases h
      ·cases h
      ·cases h
     subst hop;obtain⟨x,a1,hc1,hc2,rfl⟩:=Dw ht;have g:=arg1 hF hc2 ha;simp only[aOp,VK] at hs;split at hs
     ·rename_i s0 t s p;cases hs;obtain⟨y,e1,e2⟩:=g.one;simp only[List.cons.injEq,and_true] at e1;refine⟨fun _ _=>trivial,?_⟩;cases e2 with|pv _ _ _ hs0 hq=>
      cases hq with|iface _ _ _ vv hs1 h2=>
      have hrun:(execOp a.eval o).run P w=.halt (.panic (.iface t vv)) w:=by
       simp only[execOp,hc1,e1];simp[Instr.panic,goPanic]
      rw[Oper.semAt_eq _ _ _ hnd,hrun,Oper.uponIn_panic];exact hA _ w μ (.pv _ _ _ rfl (.iface _ _ _ _ hs1 h2)) hH (Ext.refl _ _ _ _ _)
     ·cases hs
    ·have c5:∀n,op'≠.calln n:=by
      rintro n rfl;rcases hk with h|⟨sh,_,h|h⟩|⟨_,h|h⟩
      ·exact Du (by rw[<-h] at ht;exact ht)
      ·cases h
      ·cases h
      ·cases h
      ·cases h
     have c6:∀sh n,op'≠.bslicen sh n:=by
      rintro sh n rfl;rcases hk with h|⟨sh,_,h|h⟩|⟨_,h|h⟩
      ·exact Dv (by rw[<-h] at ht;exact ht)
      ·cases h
      ·cases h
      ·cases h
      ·cases h
     have c7:op'≠.callg:=by
      rintro rfl;rcases hk with h|⟨sh,_,h|h⟩|⟨_,h|h⟩
      ·exact vN (by rw[<-h] at ht;exact ht)
      ·cases h
      ·cases h
      ·cases h
      ·cases h
     rw[plain op' c1 c2 c4 c7 c5 c6 c3 rfl] at hs;split at hs
     ·rename_i v hp' hst;cases hs;exact Dr hnd (Do hb ht hk hF ha hH hst) hA
     ·cases hs
end Go.Am

/- Regions in the text's order. -/
namespace Go.Am
variable{P:Program} {w:World} {X:Xc P} {μ:Nat->Option Nat} {hp:Heap}

def YC(w:World)(X:Xc P)(μ:Nat->Option Nat)(hp:Heap):AExit->Exit->Prop
 | .normal,.normal=>True
 | .exit i,.exit j=>i=j
 | .ret,.ret=>True
 | .panic p,.panic chain=>∃v,chain=[{ v,recovered:=false }]/\AR w X μ hp (.pv none p) v
 |_,_=>False

def Lands(nt:Nat)(b:Nat)(w:World)(X:Xc P)(μ:Nat->Option Nat)(hp:Heap)(ds:List Deferred)(e:AExit)(fr:Fr)(hp':Heap)(e':Exit)(a:Act)(w':World):Prop:=
 a.defers=ds/\a.tmps.size=nt/\∃μ',HR w' X μ' hp'/\FR w' X μ' hp' fr a.tmps/\Ext b X μ hp w μ' hp' w'/\YC w' X μ' hp' e e'

theorem FR.put{w':World}{μ':Nat->Option Nat}{hp':Heap}{b:Nat}{fr:Fr}{a:Act}{v:AV}{v':Value}{dst:Option Nat}(h:FR w X μ hp fr a.tmps)(E:Ext b X μ hp w μ' hp' w')(hd:∀d,dst=some d->d<a.tmps.size)(hv:AR w' X μ' hp' v v'):FR w' X μ' hp' (fr.dst dst v) (a.put dst v').tmps:=by
 cases dst with
 |none=>exact fun s u hs=>⟨(h s u hs).1,E.ar (h s u hs).2⟩
 |some d=>
  intro s u hs;have hlt:=hd d rfl;simp only[Fr.dst,Fr.look] at hs;simp only[Act.put,Array.size_setIfInBounds];split at hs
  ·rename_i e;subst e;cases hs;exact⟨hlt,by simpa[Array.getD,hlt] using hv⟩
  ·rename_i e;obtain⟨h1,h2⟩:=h s u hs;refine⟨h1,?_⟩;have:(a.tmps.setIfInBounds d v').getD s undef=a.tmps.getD s undef:=by
    simp only[Z6,zR e]
   rw[this];exact E.ar h2

theorem Xu(a:Act)(d:Option Tmp)(v:Value):(a.put d v).tmps.size=a.tmps.size:=by cases d <;> simp[Act.put]
theorem Qu(a:Act)(d:Option Tmp)(v:Value):(a.put d v).defers=a.defers:=by cases d <;> rfl

theorem FR.keep{fr:Fr}{t:Array Value}(h:FR w X μ hp fr t)(ks:List Nat):FR w X μ hp (fr.keep ks) t:=by
 have key:∀(ks:List Nat) s u,(fr.keep ks).look s=some u->fr.look s=some u:=by
  intro ks
  induction ks with
  |nil=>intro s u hs;simp[Fr.keep,Fr.look] at hs
  |cons k r ih=>
   intro s u hs;simp only[Fr.keep] at hs;split at hs
   ·rename_i v hv;simp only[Fr.look] at hs;split at hs
    ·rename_i e;subst e;cases hs;exact hv
    ·exact ih s u hs
   ·exact ih s u hs
 exact fun s u hs=>h s u (key ks s u hs)

theorem Q1{nt:Nat}{ops:Array Oper}{o:Oper}{ao:AOper}{fr:Fr}{t:Array Value}{x:Bool}(hF:FR w X μ hp fr t)(h:xE P nt ops o=some ao)(hw:wants fr ao.guard=some x):Region.wanted o (yielded ops t)=x:=by
 unfold xE at h;split at h
 ·split at h
  ·cases h
  ·rename_i op as hop;split at h
   ·rename_i hg;cases h;simp only[wants,Option.some.injEq] at hw;simp[Region.wanted,hg,<-hw]
   ·rename_i j want hg;split at h
    ·rename_i s hs;cases h;simp only[wants] at hw;split at hw
     ·rename_i sh b hl;cases hw;obtain⟨h1,h2⟩:=hF s _ hl;have h3:=h2.bool_inv;have h4:t[s]? =some (.bool b):=by
       rw[<-h3];simp[Array.getD,h1]
      simp[Region.wanted,hg,yielded,hs,h4]
     ·rename_i hl;cases hw;obtain⟨h1,h2⟩:=hF s _ hl;cases h2 with|undef _ h2=>
      have h4:t[s]? =some (t.getD s undef):=by simp[Array.getD,h1]
      simp only[Region.wanted,hg,yielded,hs,Option.bind_some,h4];cases hv:t.getD s undef with
      |bool b=>exact absurd hv (h2 b)
      |_=>rfl
     ·cases hw
    ·cases h
 ·cases h

theorem qL{nt:Nat}{ops:Array Oper}{o:Oper}{ao:AOper}(h:xE P nt ops o=some ao):ao.dst=o.dst/\(∀d,o.dst=some d->d<nt)/\trOp P o=some (ao.op,ao.args):=by
 unfold xE at h;split at h
 ·rename_i hd;have hd':∀d,o.dst=some d->d<nt:=fun d e=>Bv hd e;split at h
  ·cases h
  ·rename_i op as hop;split at h
   ·cases h;exact⟨rfl,hd',hop⟩
   ·split at h
    ·cases h;exact⟨rfl,hd',hop⟩
    ·cases h
 ·cases h

inductive Likes:List AOper->List AOper->Prop
 |nil:Likes [] []
 |cons (a b:AOper) (l k:List AOper) (h1:a.dst=b.dst) (h2:a.guard=b.guard) (h3:a.args=b.args) (h4:a.op.alike b.op) (h:Likes l k):Likes (a::l) (b::k)
theorem Likes.refl:∀l:List AOper,Likes l l
 |[]=>.nil
 |a::l=>.cons a a l l rfl rfl rfl (.inl rfl) (Likes.refl l)
theorem Likes.map{f:AOper->AOper}(hf:∀a,(f a).dst=a.dst/\(f a).guard=a.guard/\(f a).args=a.args/\(f a).op.alike a.op):∀l:List AOper,Likes (l.map f) l
 |[]=>.nil
 |a::l=>.cons _ _ _ _ (hf a).1 (hf a).2.1 (hf a).2.2.1 (hf a).2.2.2 (Likes.map hf l)
theorem Dx(k:List AOper)(a:AOper):(ownB k a).dst=a.dst/\(ownB k a).guard=a.guard/\(ownB k a).args=a.args/\(ownB k a).op.alike a.op:=by
 unfold ownB;split
 ·rename_i sh d hop _;split
  ·refine⟨rfl,rfl,rfl,?_⟩;rw[hop];exact .inr (.inl ⟨sh,rfl,.inr rfl⟩)
  ·exact⟨rfl,rfl,rfl,.inl rfl⟩
 ·exact⟨rfl,rfl,rfl,.inl rfl⟩

theorem JV{Γ:Oracle}(hΓ:SoundO P Γ){nt b:Nat}{ops:Array Oper}{e:AExit}{fr':Fr}{hp':Heap}{Q:Exit->Act->World->Prop}{ro:Option Nat}:∀(l0 l:List AOper) (n i:Nat) (w:World) (μ:Nat->Option Nat) (hp:Heap) (fr:Fr) (a:Act),
  i+n<=ops.size->Xa P nt ops ((ops.toList.drop i).take n)=some l0->Likes l l0->aops Γ b l fr hp=some (e,fr',hp')->b<=hp.length->HR w X μ hp->FR w X μ hp fr a.tmps->a.tmps.size=nt->(∀e' a' w',Lands nt b w X μ hp a.defers e fr' hp' e' a' w'->Q e' a' w')->
  wpOpsIn (Fe ro) 0 P ops Q (List.range' i n) a w
 |[],l,n,i,w,μ,hp,fr,a,hn,ht,hlk,hs,hb,hH,hF,hsz,hQ=>by
  cases hlk;have h0:n=0:=by
   rcases Nat.eq_zero_or_pos n with h|h
   ·exact h
   ·exfalso;have hlt:i<ops.toList.length:=by rw[Zs];omega
    obtain⟨m,rfl⟩:∃m,n=m+1:=⟨n - 1,by omega⟩;rw[ZS hlt,ZZ] at ht;simp only[Xa] at ht;split at ht
    ·cases ht
    ·split at ht <;> cases ht
  subst h0;simp only[aops,Option.some.injEq,Prod.mk.injEq] at hs;obtain⟨rfl,rfl,rfl⟩:=hs;exact hQ _ _ _ ⟨rfl,hsz,μ,hH,hF,Ext.refl _ _ _ _ _,trivial⟩
 |ao0::l0,lx,n,i,w,μ,hp,fr,a,hn,ht,hlk,hs,hb,hH,hF,hsz,hQ=>by
  cases hlk with|cons ao _ l _ k1 k2 k3 k4 hlk=>
  have h0:0<n:=by
   rcases Nat.eq_zero_or_pos n with h|h
   ·subst h;rw[zd] at ht;cases ht
   ·exact h
  obtain⟨m,rfl⟩:∃m,n=m+1:=⟨n - 1,by omega⟩;have hlt:i<ops.size:=by omega
  have hlt':i<ops.toList.length:=by simpa using hlt
  rw[ZS hlt',ZZ] at ht;simp only[Xa] at ht;split at ht
  ·cases ht
  ·rename_i ao' hao;split at ht
   ·rename_i l' hl';cases ht;obtain⟨d1,d2,d3⟩:=qL hao;have d1:=k1.trans d1;have ho:ops[i]? =some ops.toList[i]:=by simp[hlt]
    simp only[List.range'_succ,wpOpsIn,ho];simp only[aops] at hs;have rest:∀(v:AV) (hp2:Heap) (v':Value) (w2:World) (μ2:Nat->Option Nat),aops Γ b l (fr.dst ao.dst v) hp2=some (e,fr',hp')->AR w2 X μ2 hp2 v v'->HR w2 X μ2 hp2->Ext b X μ hp w μ2 hp2 w2->wpOpsIn (Fe ro) 0 P ops Q (List.range' (i+1) m) (a.put ops.toList[i].dst v') w2:=by
     intro v hp2 v' w2 μ2 hr hv hH2 E;refine JV hΓ l0 l m (i+1) w2 μ2 hp2 _ _ (by omega) hl' hlk hr (ZJ hb E.len) hH2 ?_ (by rw[Xu];exact hsz) ?_
     ·rw[d1];exact hF.put E (fun d hd=>by rw[hsz];exact d2 d hd) hv
     ·intro e' a' w' hL;rw[Qu] at hL;obtain⟨k1,k2,μ',k3,k4,k5,k6⟩:=hL;exact hQ e' a' w' ⟨k1,k2,μ',k3,k4,E.trans k5,k6⟩
    split at hs
    ·cases hs
    ·rename_i hw;rw[Q1 hF hao (by rw[<-k2];exact hw)];simp only[ZR,if_false];refine⟨fun _ _=>trivial,?_⟩;exact rest .undef hp undef w μ hs (.undef _ fun b h=>by cases h) hH (Ext.refl _ _ _ _ _)
    ·rename_i hw;rw[Q1 hF hao (by rw[<-k2];exact hw)];simp only[if_true];split at hs
     ·cases hs
     ·rename_i vs hvs;split at hs
      ·rename_i v hp2 hop;exact(qK hΓ hb d3 k4 hF (by rw[<-k3];exact hvs) hH hop (fun v' w2 μ2 hv hH2 E=>rest v hp2 v' w2 μ2 hs hv hH2 E))
      ·rename_i v hp2 hop;cases hs;refine(qK hΓ hb d3 k4 hF (by rw[<-k3];exact hvs) hH hop (fun v' w2 μ2 hv hH2 E=> ?_));exact hQ _ _ _ ⟨rfl,hsz,μ2,hH2,fun s u hs=>⟨(hF s u hs).1,E.ar (hF s u hs).2⟩,E,v',rfl,hv⟩
      ·cases hs
   ·cases ht

theorem vO{Γ:Oracle}(hΓ:SoundO P Γ){nt b id:Nat}{ops:Array Oper}{e:AExit}{fr fr':Fr}{hp':Heap}{Q:Exit->Act->World->Prop}{l l0:List AOper}{a:Act}{ro:Option Nat}(ht:Xa P nt ops ops.toList=some l0)(hlk:Likes l l0)(hs:aops Γ b l fr hp=some (e,fr',hp'))(hb:b<=hp.length)
  (hH:HR w X μ hp)(hF:FR w X μ hp fr a.tmps)(hsz:a.tmps.size=nt)(hQ:∀e' a' w',Lands nt b w X μ hp a.defers e fr' hp' e' a' w'->Q e' a' w'):(Code.region id ops false).wpIn (Fe ro) 0 P Q a w:=by
 apply wpIn_region;rw[List.range_eq_range'];exact JV hΓ l0 l ops.size 0 w μ hp fr a (by omega) (by rw[Z4,Zp (by simp)];exact ht) hlk hs hb hH hF hsz hQ
end Go.Am

/- Settling; dropping objects that nothing shows. -/
namespace Go.Am
variable{P:Program} {w:World} {X:Xc P} {μ:Nat->Option Nat} {hp:Heap}

theorem Dy{l:List (Sh × AV)}{q:Nat}(h:q∈AV.refsIn.go l):∃(i:Nat) (x:Sh × AV),l[i]? =some x/\q∈x.2.refsIn:=by
 induction l with
 |nil=>simp[AV.refsIn.go] at h
 |cons x r ih=>
  obtain⟨s,v⟩:=x;simp only[AV.refsIn.go,Zr] at h;rcases h with h|h
  ·exact⟨0,_,rfl,h⟩
  ·obtain⟨i,x,hx,hq⟩:=ih h;exact⟨i+1,x,by simpa using hx,hq⟩
theorem Kx{l:List AV}{q:Nat}(h:q∈AV.refsIn.gol l):∃(i:Nat) (x:AV),l[i]? =some x/\q∈x.refsIn:=by
 induction l with
 |nil=>simp[AV.refsIn.gol] at h
 |cons x r ih=>
  simp only[AV.refsIn.gol,Zr] at h;rcases h with h|h
  ·exact⟨0,_,rfl,h⟩
  ·obtain⟨i,x,hx,hq⟩:=ih h;exact⟨i+1,x,by simpa using hx,hq⟩
theorem Dz{l:List (Sh × AV)}{q i:Nat}{x:Sh × AV}(hx:l[i]? =some x)(h:q∈x.2.refsIn):q∈AV.refsIn.go l:=by
 induction l generalizing i with
 |nil=>simp at hx
 |cons y r ih=>
  obtain⟨s,v⟩:=y;simp only[AV.refsIn.go,Zr];cases i with
  |zero=>simp at hx;subst hx;exact .inl h
  |succ i=>exact .inr (ih (by simpa using hx))
theorem Ky{l:List AV}{q i:Nat}{x:AV}(hx:l[i]? =some x)(h:q∈x.refsIn):q∈AV.refsIn.gol l:=by
 induction l generalizing i with
 |nil=>simp at hx
 |cons y r ih=>
  simp only[AV.refsIn.gol,Zr];cases i with
  |zero=>simp at hx;subst hx;exact .inl h
  |succ i=>exact .inr (ih (by simpa using hx))

theorem DA{n i:Nat}(h:live (hp.take n) i=true):live hp i=true:=by
 have hlt:=XR h;simp only[Zn] at hlt;unfold live at*;rw[ZU,Zb (by omega)] at h;exact h
theorem vP{n b:Nat}(h:Im X μ hp b):Im X μ (hp.take n) b:=⟨h.1,fun i hi=>h.2 i (DA hi)⟩
theorem PR.take{n:Nat}{p:PV}{v:Value}(h:PR w (Im X μ hp) p v):PR w (Im X μ (hp.take n)) p v:=h.mono fun _ _ _ _ hI hb=>⟨vP hI,hb⟩
theorem X5{n i:Nat}{o:AObj}(h:hp[i]? =some o)(hi:i<n):(hp.take n)[i]? =some o:=by rw[ZU,Zb hi];exact h
theorem qM{n i:Nat}{o:AObj}(h:(hp.take n)[i]? =some o):i<n/\hp[i]? =some o:=by
 rw[ZU] at h;split at h
 ·exact⟨‹_›,h⟩
 ·cases h

theorem AR.take{n:Nat}{a:AV}{v:Value}(h:AR w X μ hp a v)(hn:∀q∈a.refsIn,q<n):AR w X μ (hp.take n) a v:=by
 induction h with
 |undef v h=>exact .undef v h
 |pv sh p v hs h=>exact .pv sh p v hs h.take
 |agg l vs hl h _ ih=>exact .agg l vs hl h fun i x v hx hv=>ih i x v hx hv fun q hq=>hn q (Dz hx hq)
 |tsl sh es a h=>exact .tsl sh es a h.take
 |sl sh r ver off len a cap es fz ho hv hlc ha hc=>exact .sl sh r ver off len a cap es fz (X5 ho (hn r (by simp[AV.refsIn]))) hv hlc ha hc
 |ptr r off b sh v ho hb=>exact .ptr r off b sh v (X5 ho (hn r (by simp[AV.refsIn]))) hb
 |eptr sh r ver i off a es fz ho hv hc=>exact .eptr sh r ver i off a es fz (X5 ho (hn r (by simp[AV.refsIn]))) hv hc
 |iptr sh p off b o cs t fr v hI hb hp hs hc=>exact .iptr sh p off b o cs t fr v (vP hI) hb hp.take hs hc
 |map r b sh es ho hb=>exact .map r b sh es (X5 ho (hn r (by simp[AV.refsIn]))) hb
 |func fn first captured fs cs hf hc _ _ ih ih'=>
  exact .func fn first captured fs cs hf hc (fun i a v hx hv=>ih i a v hx hv fun q hq=>hn q (by simp[AV.refsIn,Ky hx hq])) (fun i a v hx hv=>ih' i a v hx hv fun q hq=>hn q (by simp[AV.refsIn,Ky hx hq]))
 |iface t a v _ ih=>exact .iface t a v (ih fun q hq=>hn q (by simpa[AV.refsIn] using hq))
 |tuple l vs hl _ ih=>exact .tuple l vs hl fun i x v hx hv=>ih i x v hx hv fun q hq=>hn q (by simp[AV.refsIn,Ky hx hq])
 |yield r l f ps env bz ho hb=>exact .yield r l f ps env bz (X5 ho (hn r (by simp[AV.refsIn]))) hb

theorem AR.refs_lt{a:AV}{v:Value}(h:AR w X μ hp a v):∀q∈a.refsIn,q<hp.length:=by
 have lt:∀{i:Nat} {o:AObj},hp[i]? =some o->i<hp.length:=fun h=>(Ze.1 h).1
 induction h with
 |undef v=>intro q hq;simp[AV.refsIn] at hq
 |pv sh p v hs h=>intro q hq;simp[AV.refsIn] at hq
 |agg l vs hl h _ ih=>
  intro q hq;obtain⟨i,x,hx,hq⟩:=Dy (by simpa[AV.refsIn] using hq);have hi:i<vs.length:=by rw[<-hl];exact(Ze.1 hx).1
  exact ih i x vs[i] hx (Zf hi) q hq
 |tsl sh es a h=>intro q hq;simp[AV.refsIn] at hq
 |sl sh r ver off len a cap es fz ho hv hlc ha hc=>intro q hq;simp[AV.refsIn] at hq;subst hq;exact lt ho
 |ptr r off b sh v ho hb=>intro q hq;simp[AV.refsIn] at hq;subst hq;exact lt ho
 |eptr sh r ver i off a es fz ho hv hc=>intro q hq;simp[AV.refsIn] at hq;subst hq;exact lt ho
 |iptr=>intro q hq;simp[AV.refsIn] at hq
 |map r b sh es ho hb=>intro q hq;simp[AV.refsIn] at hq;subst hq;exact lt ho
 |func fn first captured fs cs hf hc _ _ ih ih'=>
  intro q hq;simp only[AV.refsIn,Zr] at hq;rcases hq with hq|hq
  ·obtain⟨i,x,hx,hq⟩:=Kx hq;have hi:i<fs.length:=by rw[<-hf];exact(Ze.1 hx).1
   exact ih i x fs[i] hx (Zf hi) q hq
  ·obtain⟨i,x,hx,hq⟩:=Kx hq;have hi:i<cs.length:=by rw[<-hc];exact(Ze.1 hx).1
   exact ih' i x cs[i] hx (Zf hi) q hq
 |iface t a v _ ih=>intro q hq;exact ih q (by simpa[AV.refsIn] using hq)
 |tuple l vs hl _ ih=>
  intro q hq;obtain⟨i,x,hx,hq⟩:=Kx (by simpa[AV.refsIn] using hq);have hi:i<vs.length:=by rw[<-hl];exact(Ze.1 hx).1
  exact ih i x vs[i] hx (Zf hi) q hq
 |yield r l f ps env bz ho hb=>intro q hq;simp[AV.refsIn] at hq;subst hq;exact lt ho

theorem DB{fr:Fr}{x:Nat × AV}{q:Nat}(h:x∈fr)(hq:q∈x.2.refsIn):q∈QP fr:=by
 induction fr with
 |nil=>cases h
 |cons y r ih=>
  simp only[QP,Zr];rcases Zt.1 h with rfl|h
  ·exact .inl hq
  ·exact .inr (ih h)
theorem DC{fr:Fr}{q:Nat}(h:q∈QP fr):∃x∈fr,q∈x.2.refsIn:=by
 induction fr with
 |nil=>cases h
 |cons x r ih=>
  obtain⟨k,u⟩:=x;simp only[QP,Zr] at h;rcases h with h|h
  ·exact⟨_,Zv,h⟩
  ·obtain⟨y,hy,hq⟩:=ih h;exact⟨y,Zu _ hy,hq⟩

theorem HR.take{n:Nat}(h:HR w X μ hp)(hr:∀i o,i<n->hp[i]? =some o->∀q∈o.refs,q<n):HR w X μ (hp.take n):=by
 have hle:∀{i:Nat},i<(hp.take n).length->i<hp.length:=fun h=>by simp at h;omega
 refine⟨fun i j b hi hj=>h.inj i j b (hle hi) (hle hj),fun i b hi=>h.out i b (hle hi),h.xlt,?_,?_,?_,?_⟩
 ·intro i sh v hi;obtain⟨hi,ho⟩:=qM hi;obtain⟨b,val,t,h1,h2,h3,h4,h5⟩:=h.box i sh v ho;exact⟨b,val,t,h1,h2,h3,h4,h5.take (hr i _ hi ho)⟩
 ·intro i sh es fz hi;obtain⟨hi,ho⟩:=qM hi;obtain⟨h0,h1⟩:=h.arr i sh es fz ho;refine⟨h0,?_⟩;rcases h1 with h1|⟨b,cs,t,vals,h1,h2,h3,h4,h5⟩
  ·exact .inl h1
  ·exact .inr ⟨b,cs,t,vals,h1,h2,h3,fun k p v hp hv=>⟨(h4 k p v hp hv).1,(h4 k p v hp hv).2.take⟩,h5⟩
 ·intro i sh es hi;obtain⟨hi,ho⟩:=qM hi;obtain⟨b,ents,clock,h1,h2,h3,h4⟩:=h.map i sh es ho;exact⟨b,ents,clock,h1,h2,h3,fun k x e hx he=>⟨(h4 k x e hx he).1.take,(h4 k x e hx he).2.1.take,(h4 k x e hx he).2.2⟩⟩
 ·intro i f ps env bz hi;obtain⟨hi,ho⟩:=qM hi;obtain⟨l,rc,h1,h2,h3,h4,h5,h6,h7⟩:=h.loop i f ps env bz ho;exact⟨l,rc,h1,h2,h3,h4,h5,h6,fun x hx=>⟨(h7 x hx).1,(h7 x hx).2.take fun q hq=>hr i _ hi ho q (DB hx hq)⟩⟩

theorem Ext.take{b n:Nat}{μ':Nat->Option Nat}{hp':Heap}{w':World}(E:Ext b X μ hp w μ' hp' w')(hn:hp.length<=n):Ext b X μ hp w μ' (hp'.take n) w':=by
 have lt:∀{i:Nat} {o:AObj},hp[i]? =some o->i<n:=fun h=>ZM (Ze.1 h).1 hn;exact{ E with
  len:=by have:=E.len;simp;omega
  box:=fun i sh v ho=>let ⟨v',h1,h2⟩:=E.box i sh v ho;⟨v',X5 h1 (lt ho),h2⟩
  arr:=fun i sh es fz ho=>let ⟨es',fz',h1,h2⟩:=E.arr i sh es fz ho;⟨es',fz',X5 h1 (lt ho),h2⟩
  map:=fun i sh es ho=>let ⟨es',h1,h2⟩:=E.map i sh es ho;⟨es',X5 h1 (lt ho),h2⟩
  loop:=fun i f ps env bz ho=>let ⟨bz',h1,h2⟩:=E.loop i f ps env bz ho;⟨bz',X5 h1 (lt ho),h2⟩
  new:=fun i h1 h2=>E.new i h1 (by simp at h2;omega) }

theorem vQ(b:Nat){t:Array Value}:∀(l:List Nat) (st st':St),settle l st=some st'->HR w X μ st.hp->FR w X μ st.hp st.fr t->HR w X μ st'.hp/\FR w X μ st'.hp st'.fr t/\Ext b X μ st.hp w μ st'.hp w
 |[],st,st',h,hH,hF=>by
  simp only[settle,Option.some.injEq] at h;subst h;exact⟨hH,hF,Ext.refl _ _ _ _ _⟩
 |s::r,st,st',h,hH,hF=>by
  have again:∀(fr:Fr) (hp1:Heap),settle r ⟨fr,hp1⟩=some st'->HR w X μ hp1->FR w X μ hp1 fr t->Ext b X μ st.hp w μ hp1 w->HR w X μ st'.hp/\FR w X μ st'.hp st'.fr t/\Ext b X μ st.hp w μ st'.hp w:=by
   intro fr hp1 h h1 h2 h3;obtain⟨k1,k2,k3⟩:=vQ b r _ _ h h1 h2;exact⟨k1,k2,h3.trans k3⟩
  have mv:∀{hp1:Heap},Ext b X μ st.hp w μ hp1 w->FR w X μ hp1 st.fr t:=fun E s u hs=>⟨(hF s u hs).1,E.ar (hF s u hs).2⟩;have stay:settle r st=some st'->HR w X μ st'.hp/\FR w X μ st'.hp st'.fr t/\Ext b X μ st.hp w μ st'.hp w:=fun h=>again st.fr st.hp h hH hF (Ext.refl _ _ _ _ _);simp only[settle] at h;split at h
  ·rename_i q off hl;split at h
   ·rename_i sh v hq;split at h
    ·rename_i p hp1 hf;obtain⟨b0,val,t0,g1,g2,g3,g4,g5⟩:=hH.box q sh v hq;obtain⟨e1,e2,e3⟩:=Qs b w X μ _ _ _ _ _ _ hf hH g5;obtain⟨v1,f1,f2,f3⟩:=e1.box q sh v hq;have E:∀b,Ext b X μ hp1 w μ (hp1.set q (.box sh (.pv sh p))) w:=fun b=>Ext.setBox f1 (fun _ x hx=>by simp[AV.refsIn] at hx) g1 rfl rfl rfl rfl (fun _ _=>rfl) fun cs t fr h=>⟨cs,h,rfl⟩;have H:=e2.setBox f1 g1 (E 0) (fun _ _=>rfl) g2 g3 g4 (.pv sh p val g3 e3);exact again _ _ h H (mv (e1.trans (E b))) (e1.trans (E b))
    ·cases h
   ·exact stay h
  ·rename_i s' q ver off len hl;split at h
   ·rename_i p hp1 hf;obtain⟨g1,g2⟩:=hF s _ hl;obtain⟨e1,e2,e3⟩:=Qs b w X μ _ _ _ _ _ _ hf hH g2;refine again _ _ h e2 (fun k u hk=> ?_) e1;simp only[Fr.look] at hk;split at hk
    ·rename_i e;subst e;cases hk;exact⟨g1,.pv _ _ _ (g2.vshp rfl) e3⟩
    ·exact mv e1 k u hk
   ·cases h
  ·rename_i sh es hl;obtain⟨g1,g2⟩:=hF s _ hl;refine again _ _ h hH (fun k u hk=> ?_) (Ext.refl _ _ _ _ _);simp only[Fr.look] at hk;split at hk
   ·rename_i e;subst e;cases hk;refine⟨g1,.pv _ _ _ (g2.vshp rfl) ?_⟩;generalize t.getD s undef=u at g2 ⊢;cases g2 with|tsl _ _ a hq=>exact hq
   ·exact hF k u hk
  ·exact stay h
end Go.Am

/- Blocks that are made before the abstract machine knows of them. -/
namespace Go.Am
variable{P:Program} {w:World} {X:Xc P} {μ:Nat->Option Nat} {hp:Heap}

structure Tran(w:World)(X:Xc P)(μ:Nat->Option Nat)(hp:Heap)(w':World)(X':Xc P)(μ':Nat->Option Nat)(hp':Heap):Prop where
 im:∀b,b<w.heap.size->Im X μ hp b->Im X' μ' hp' b/\w'.heap[b]? =w.heap[b]?
 shape:∀(b:Nat) (cs:Array Value) (t:TypeId) (fr:Nat × Nat),w.heap[b]? =some (Obj.cells cs t fr)->∃(cs':Array Value),w'.heap[b]? =some (Obj.cells cs' t fr)/\cs'.size=cs.size
 box:∀i sh v,hp[i]? =some (.box sh v)->∃v',hp'[i]? =some (.box sh v')/\μ' i=μ i
 arr:∀i sh es fz,hp[i]? =some (.arr sh es fz)->∃es' fz',hp'[i]? =some (.arr sh es' fz')/\es.length<=es'.length/\(es'.length=es.length->μ' i=μ i)
 map:∀i sh es,hp[i]? =some (.map sh es)->∃es',hp'[i]? =some (.map sh es')/\μ' i=μ i
 loop:∀i f ps env bz,hp[i]? =some (.loop f ps env bz)->∃bz',hp'[i]? =some (.loop f ps env bz')/\μ' i=μ i

theorem Ext.tran{b0:Nat}{Y:Xc P}{μ':Nat->Option Nat}{hp':Heap}{w':World}(h:Ext b0 Y μ hp w μ' hp' w'):Tran w X μ hp w' X μ' hp' where
 im b hb hI:=⟨⟨hI.1,fun i hl e=>by
  have hlt:=XR hl;rcases Zq i hp.length with hi|hi
  ·rcases h.mov i hi b e with h1|h1
   ·exact hI.2 i (h.live hi hl) h1
   ·omega
  ·have:=h.new i hi hlt b e;omega⟩,h.blk b hb hI.2⟩
 shape:=h.shape
 box i sh v ho:=let ⟨v',h1,h2,_⟩:=h.box i sh v ho;⟨v',h1,h2⟩
 arr i sh es fz ho:=let ⟨es',fz',h1,h2,_,h4⟩:=h.arr i sh es fz ho;⟨es',fz',h1,h2,h4⟩
 map:=h.map
 loop:=h.loop
theorem Tran.trans{w' w'':World}{X' X'':Xc P}{μ' μ'':Nat->Option Nat}{hp' hp'':Heap}(h:Tran w X μ hp w' X' μ' hp')(k:Tran w' X' μ' hp' w'' X'' μ'' hp'')(hs:w.heap.size<=w'.heap.size):Tran w X μ hp w'' X'' μ'' hp'' where
 im b hb hI:=by
  obtain⟨h1,h2⟩:=h.im b hb hI;obtain⟨k1,k2⟩:=k.im b (by omega) h1;exact⟨k1,k2.trans h2⟩
 shape b cs t fr hb:=by
  obtain⟨cs1,h1,h2⟩:=h.shape b cs t fr hb;obtain⟨cs2,h3,h4⟩:=k.shape b cs1 t fr h1;exact⟨cs2,h3,by omega⟩
 box i sh v ho:=by
  obtain⟨v1,h1,h2⟩:=h.box i sh v ho;obtain⟨v2,k1,k2⟩:=k.box i sh v1 h1;exact⟨v2,k1,k2.trans h2⟩
 arr i sh es fz ho:=by
  obtain⟨es1,fz1,h1,h2,h4⟩:=h.arr i sh es fz ho;obtain⟨es2,fz2,k1,k2,k4⟩:=k.arr i sh es1 fz1 h1;exact⟨es2,fz2,k1,by omega,fun e=>by rw[k4 (by omega),h4 (by omega)]⟩
 map i sh es ho:=by
  obtain⟨es1,h1,h2⟩:=h.map i sh es ho;obtain⟨es2,k1,k2⟩:=k.map i sh es1 h1;exact⟨es2,k1,k2.trans h2⟩
 loop i f ps env bz ho:=by
  obtain⟨b1,h1,h2⟩:=h.loop i f ps env bz ho;obtain⟨b2,k1,k2⟩:=k.loop i f ps env b1 h1;exact⟨b2,k1,k2.trans h2⟩

section
variable{w':World} {X':Xc P} {μ':Nat->Option Nat} {hp':Heap} (h:Tran w X μ hp w' X' μ' hp')
include h
theorem Tran.pr{p:PV}{v:Value}(hq:PR w (Im X μ hp) p v):PR w' (Im X' μ' hp') p v:=
 hq.mono fun b cs t fr hI hb=>let ⟨h1,h2⟩:=h.im b (YZ hb) hI;⟨h1,by rw[h2];exact hb⟩
theorem Tran.ar{a:AV}{v:Value}(ha:AR w X μ hp a v):AR w' X' μ' hp' a v:=by
 induction ha with
 |undef v h=>exact .undef v h
 |pv sh p v hs hp=>exact .pv sh p v hs (h.pr hp)
 |agg l vs hl hs _ ih=>exact .agg l vs hl hs ih
 |tsl sh es a hp=>exact .tsl sh es a (h.pr hp)
 |sl sh r ver off len a cap es fz ho hv hlc ha hc=>
  obtain⟨es',fz',h1,h2,h4⟩:=h.arr r sh es fz ho;refine .sl sh r ver off len a cap es' fz' h1 (by omega) hlc ha fun e=> ?_;have e1:es'.length=es.length:=by omega
  obtain⟨c1,c2⟩:=hc (by omega);refine⟨by omega,?_⟩;rcases c2 with⟨c2,c3⟩|⟨b,cs,t,c2,c3,c4,c5⟩
  ·exact .inl ⟨by rw[h4 e1];exact c2,c3⟩
  ·have hm:μ' r=some b:=by rw[h4 e1];exact c2
   obtain⟨cs2,hc2,hsz⟩:=h.shape b cs t _ c3;exact .inr ⟨b,cs2,t,hm,hc2,by rw[hsz];exact c4,c5⟩
 |ptr r off b sh v ho hb=>
  obtain⟨v',h1,h2⟩:=h.box r sh v ho;exact .ptr r off b sh v' h1 (by rw[h2];exact hb)
 |eptr sh r ver i off a es fz ho hv hc=>
  obtain⟨es',fz',h1,h2,h4⟩:=h.arr r sh es fz ho;refine .eptr sh r ver i off a es' fz' h1 (by omega) fun e=> ?_;have e1:es'.length=es.length:=by omega
  obtain⟨c1,b,c2,c3⟩:=hc (by omega);exact⟨by omega,b,by rw[h4 e1];exact c2,c3⟩
 |iptr sh p off b o cs t fr v hI hb hp hs hc=>
  obtain⟨h1,h2⟩:=h.im b (YZ hb) hI;exact .iptr sh p off b o cs t fr v h1 (by rw[h2];exact hb) (h.pr hp) hs hc
 |map r b sh es ho hb=>
  obtain⟨es',h1,h2⟩:=h.map r sh es ho;exact .map r b sh es' h1 (by rw[h2];exact hb)
 |func fn first captured fs cs hf hc _ _ ih ih'=>exact .func fn first captured fs cs hf hc ih ih'
 |iface t a v _ ih=>exact .iface t a v ih
 |tuple l vs hl _ ih=>exact .tuple l vs hl ih
 |yield r l f ps env bz ho hb=>
  obtain⟨bz',h1,h2⟩:=h.loop r f ps env bz ho;exact .yield r l f ps env bz' h1 (by rw[h2];exact hb)
end

theorem HR.tran{w':World}{X':Xc P}(h:HR w X μ hp)(e:Tran w X μ hp w' X' μ hp)(hb:∀i b,i<hp.length->μ i=some b->w'.heap[b]? =w.heap[b]?)(ho:∀i b,i<hp.length->μ i=some b->¬X' b/\b<w'.heap.size)(hx:∀b,X' b->b<w'.heap.size):HR w' X' μ hp where
 inj:=h.inj
 out:=ho
 xlt:=hx
 box i sh v ho:=by
  obtain⟨b,val,t,h1,h2,h3,h4,h5⟩:=h.box i sh v ho;exact⟨b,val,t,h1,by rw[hb i b (Ze.1 ho).1 h1];exact h2,h3,h4,e.ar h5⟩
 arr i sh es fz ho:=by
  obtain⟨h0,h1⟩:=h.arr i sh es fz ho;refine⟨h0,?_⟩;rcases h1 with h1|⟨b,cs,t,vals,h1,h2,h3,h4,h5⟩
  ·exact .inl h1
  ·exact .inr ⟨b,cs,t,vals,h1,by rw[hb i b (Ze.1 ho).1 h1];exact h2,h3,fun k p v hk hv=>⟨(h4 k p v hk hv).1,e.pr (h4 k p v hk hv).2⟩,h5⟩
 map i sh es ho:=by
  obtain⟨b,ents,clock,h1,h2,h3,h4⟩:=h.map i sh es ho;exact⟨b,ents,clock,h1,by rw[hb i b (Ze.1 ho).1 h1];exact h2,h3,fun k x y hk hy=>⟨e.pr (h4 k x y hk hy).1,e.pr (h4 k x y hk hy).2.1,(h4 k x y hk hy).2.2⟩⟩
 loop i f ps env bz ho:=by
  obtain⟨l,rc,h1,h2,h3,h4,h5,h6,h7⟩:=h.loop i f ps env bz ho;exact⟨l,rc,h1,by rw[hb i l (Ze.1 ho).1 h1];exact h2,h3,h4,h5,h6,fun x hx=>⟨(h7 x hx).1,e.ar (h7 x hx).2⟩⟩

def Xp(X:Xc P)(pb:Nat->Option Nat):Xc P:=⟨fun b=>X b\/∃k,pb k=some b⟩
theorem xK{pb:Nat->Option Nat}(h:∀k,pb k=none):Xp X pb=X:=by
 unfold Xp;cases X with
 |mk f=>
  congr 1
  funext b
  simp[h]
theorem Kz{pb:Nat->Option Nat}{k:Nat}(o:Obj)(hk:pb k=none):Tran w (Xp X pb) μ hp (w.alloc o) (Xp X (upd pb k (some w.heap.size))) μ hp where
 im b hb hI:=⟨⟨fun hx=>by
  rcases hx with hx|⟨j,hj⟩
  ·exact hI.1 (.inl hx)
  ·by_cases e:j=k
   ·subst e;rw[Yn] at hj;cases hj;omega
   ·rw[YH e] at hj;exact hI.1 (.inr ⟨j,hj⟩),hI.2⟩,yL w o hb⟩
 shape b cs t fr h:=⟨cs,V1 w o h,rfl⟩
 box i sh v h:=⟨v,h,rfl⟩
 arr i sh es fz h:=⟨es,fz,h,Zi _,fun _=>rfl⟩
 map i sh es h:=⟨es,h,rfl⟩
 loop i f ps env bz h:=⟨bz,h,rfl⟩
theorem HR.hold{pb:Nat->Option Nat}{k:Nat}(o:Obj)(hk:pb k=none)(h:HR w (Xp X pb) μ hp):HR (w.alloc o) (Xp X (upd pb k (some w.heap.size))) μ hp:=by
 refine h.tran (Kz o hk) (fun i b hi hm=>yL w o (h.out i b hi hm).2) (fun i b hi hm=>⟨fun hx=> ?_,by simp;have:=(h.out i b hi hm).2;omega⟩) (fun b hx=> ?_)
 ·rcases hx with hx|⟨j,hj⟩
  ·exact(h.out i b hi hm).1 (.inl hx)
  ·by_cases e:j=k
   ·subst e;rw[Yn] at hj;cases hj;have:=(h.out i _ hi hm).2;omega
   ·rw[YH e] at hj;exact(h.out i b hi hm).1 (.inr ⟨j,hj⟩)
 ·rcases hx with hx|⟨j,hj⟩
  ·have:=h.xlt b (.inl hx);simp;omega
  ·by_cases e:j=k
   ·subst e;rw[Yn] at hj;cases hj;simp
   ·rw[YH e] at hj;have:=h.xlt b (.inr ⟨j,hj⟩);simp;omega

theorem KA{pb:Nat->Option Nat}{k bk:Nat}(hk:pb k=some bk)(hi:∀k' b,pb k=some b->pb k'=some b->k=k')(hX:¬X bk)(o:AObj):Tran w (Xp X pb) μ hp w (Xp X (upd pb k none)) (upd μ hp.length (some bk)) (hp++[o]) where
 im b _ hI:=by
  refine⟨⟨fun hx=> ?_,fun i hl e=> ?_⟩,rfl⟩
  ·rcases hx with hx|⟨j,hj⟩
   ·exact hI.1 (.inl hx)
   ·by_cases e:j=k
    ·subst e;rw[Yn] at hj;cases hj
    ·rw[YH e] at hj;exact hI.1 (.inr ⟨j,hj⟩)
  ·have hlt:=XR hl;simp at hlt;rcases Zq i hp.length with hi|hi
   ·rw[YE hi] at e;refine hI.2 i ?_ e;unfold live at hl ⊢
    rwa [JG hi] at hl
   ·have:i=hp.length:=by omega
    subst this;rw[Yn] at e;cases e;exact hI.1 (.inr ⟨k,hk⟩)
 shape b cs t fr h:=⟨cs,h,rfl⟩
 box i sh v h:=⟨v,yW h,YE (Ze.1 h).1⟩
 arr i sh es fz h:=⟨es,fz,yW h,Zi _,fun _=>YE (Ze.1 h).1⟩
 map i sh es h:=⟨es,yW h,YE (Ze.1 h).1⟩
 loop i f ps env bz h:=⟨bz,yW h,YE (Ze.1 h).1⟩
theorem HR.takeIn{pb:Nat->Option Nat}{k bk:Nat}(h:HR w (Xp X pb) μ hp)(hk:pb k=some bk)(hi:∀k' b,pb k=some b->pb k'=some b->k=k')(hX:¬X bk)(o:AObj)
  (hbox:∀sh v,o=.box sh v->∃val t,w.heap[bk]? =some (.cells val.cells t (0,0))/\vshp val=sh/\Flat val/\∀(X':Xc P) (μ':Nat->Option Nat) (hp':Heap),AR w X' μ' hp' v val)
  (harr:∀sh es fz,o≠.arr sh es fz)(hmap:∀sh es,o=.map sh es->∃clock,w.heap[bk]? =some (.map #[] clock)/\es=[])(hloop:∀f ps env bz,o≠.loop f ps env bz):HR w (Xp X (upd pb k none)) (upd μ hp.length (some bk)) (hp++[o]):=by
 have T:=KA (w:=w) (μ:=μ) (hp:=hp) hk hi hX o;have hbk:Xp X pb bk:=.inr ⟨k,hk⟩;have at_:∀i,i<(hp++[o]).length->i<hp.length\/i=hp.length:=by intro i hi;simp at hi;omega
 have less:∀b,Xp X (upd pb k none) b->Xp X pb b:=by
  rintro b (hx|⟨j,hj⟩)
  ·exact .inl hx
  ·by_cases e:j=k
   ·subst e;rw[Yn] at hj;cases hj
   ·rw[YH e] at hj;exact .inr ⟨j,hj⟩
 have nbk:¬Xp X (upd pb k none) bk:=by
  rintro(hx|⟨j,hj⟩)
  ·exact hX hx
  ·by_cases e:j=k
   ·subst e;rw[Yn] at hj;cases hj
   ·rw[YH e] at hj;exact e (hi j bk hk hj).symm
 refine⟨?_,?_,?_,?_,?_,?_,?_⟩
 ·intro i j b hi' hj h1 h2;rcases at_ i hi' with hi'|rfl <;> rcases at_ j hj with hj|rfl
  ·rw[YE hi'] at h1;rw[YE hj] at h2;exact h.inj i j b hi' hj h1 h2
  ·rw[YE hi'] at h1;rw[Yn] at h2;cases h2;exact absurd hbk (h.out i _ hi' h1).1
  ·rw[Yn] at h1;rw[YE hj] at h2;cases h1;exact absurd hbk (h.out j _ hj h2).1
  ·rfl
 ·intro i b hi' h1;rcases at_ i hi' with hi'|rfl
  ·rw[YE hi'] at h1;exact⟨fun hx=>(h.out i b hi' h1).1 (less b hx),(h.out i b hi' h1).2⟩
  ·rw[Yn] at h1;cases h1;exact⟨nbk,h.xlt _ hbk⟩
 ·exact fun b hx=>h.xlt b (less b hx)
 ·intro i sh v ho;rcases xI ho with ho|⟨rfl,ho2⟩
  ·have hi':=(Ze.1 ho).1;obtain⟨b,val,t,h1,h2,h3,h4,h5⟩:=h.box i sh v ho;exact⟨b,val,t,by rw[YE hi'];exact h1,h2,h3,h4,T.ar h5⟩
  ·obtain⟨val,t,h1,h2,h3,h4⟩:=hbox sh v ho2.symm;exact⟨bk,val,t,Yn _ _ _,h1,h2,h3,h4 _ _ _⟩
 ·intro i sh es fz ho;rcases xI ho with ho|⟨rfl,ho2⟩
  ·have hi':=(Ze.1 ho).1;obtain⟨h0,h1⟩:=h.arr i sh es fz ho;refine⟨h0,?_⟩;rcases h1 with h1|⟨b,cs,t,vals,h1,h2,h3,h4,h5⟩
   ·exact .inl ⟨by rw[YE hi'];exact h1.1,h1.2⟩
   ·exact .inr ⟨b,cs,t,vals,by rw[YE hi'];exact h1,h2,h3,fun k p v hk hv=>⟨(h4 k p v hk hv).1,T.pr (h4 k p v hk hv).2⟩,h5⟩
  ·exact absurd ho2.symm (harr sh es fz)
 ·intro i sh es ho;rcases xI ho with ho|⟨rfl,ho2⟩
  ·have hi':=(Ze.1 ho).1;obtain⟨b,ents,clock,h1,h2,h3,h4⟩:=h.map i sh es ho;exact⟨b,ents,clock,by rw[YE hi'];exact h1,h2,h3,fun k x y hk hy=>⟨T.pr (h4 k x y hk hy).1,T.pr (h4 k x y hk hy).2.1,(h4 k x y hk hy).2.2⟩⟩
  ·obtain⟨clock,h1,rfl⟩:=hmap sh es ho2.symm;exact⟨bk,#[],clock,Yn _ _ _,h1,rfl,by simp⟩
 ·intro i f ps env bz ho;rcases xI ho with ho|⟨rfl,ho2⟩
  ·have hi':=(Ze.1 ho).1;obtain⟨l,rc,h1,h2,h3,h4,h5,h6,h7⟩:=h.loop i f ps env bz ho;exact⟨l,rc,by rw[YE hi'];exact h1,h2,h3,h4,h5,h6,fun x hx=>⟨(h7 x hx).1,T.ar (h7 x hx).2⟩⟩
  ·exact absurd ho2.symm (hloop f ps env bz)
theorem Ext.takeIn{b0 bk:Nat}{Y:Xc P}{μ0:Nat->Option Nat}{hp0:Heap}{w0:World}(E:Ext b0 Y μ0 hp0 w0 μ hp w)(hb:w0.heap.size<=bk)(o:AObj):Ext b0 Y μ0 hp0 w0 (upd μ hp.length (some bk)) (hp++[o]) w where
 os:=E.os
 tape:=E.tape
 output:=E.output
 size:=E.size
 blk:=E.blk
 shape:=E.shape
 len:=by have:=E.len;simp;omega
 box i sh v ho:=by
  obtain⟨v',h1,h2,h3⟩:=E.box i sh v ho;exact⟨v',yW h1,by rw[YE (Ze.1 h1).1];exact h2,h3⟩
 arr i sh es fz ho:=by
  obtain⟨es',fz',h1,h2,h3,h4⟩:=E.arr i sh es fz ho;exact⟨es',fz',yW h1,h2,h3,fun e=>by rw[YE (Ze.1 h1).1];exact h4 e⟩
 map i sh es ho:=by
  obtain⟨es',h1,h2⟩:=E.map i sh es ho;exact⟨es',yW h1,by rw[YE (Ze.1 h1).1];exact h2⟩
 loop i f ps env bz ho:=by
  obtain⟨bz',h1,h2⟩:=E.loop i f ps env bz ho;exact⟨bz',yW h1,by rw[YE (Ze.1 h1).1];exact h2⟩
 new i h1 h2 b hb':=by
  simp at h2;by_cases e:i=hp.length
  ·subst e;rw[Yn] at hb';cases hb';exact hb
  ·rw[YH e] at hb';exact E.new i h1 (by omega) b hb'
 mov i hi b hb':=by
  by_cases e:i=hp.length
  ·subst e;rw[Yn] at hb';cases hb';exact .inr hb
  ·rw[YH e] at hb';exact E.mov i hi b hb'
theorem Ext.cast{b0:Nat}{Y Z:Xc P}{μ':Nat->Option Nat}{hp':Heap}{w':World}(E:Ext b0 Y μ hp w μ' hp' w'):Ext b0 Z μ hp w μ' hp' w':=⟨E.os,E.tape,E.output,E.size,E.blk,E.shape,E.len,E.box,E.arr,E.map,E.loop,E.new,E.mov⟩

theorem DD{sh:Sh}{a:AV}{x:Value}{t:TypeId}{bk:Nat}(hH:HR w X μ (hp++[.box sh a]))(hm:μ hp.length=some bk)(hc:w.heap[bk]? =some (.cells x.cells t (0,0)))(hs:vshp x=sh)(hf:Flat x)(ha:AR w X μ (hp++[.box sh a]) a x):
  ∃μ',AR w X μ' (((a.own (hp++[.box sh a])).2).set hp.length (.box sh (a.own (hp++[.box sh a])).1)) (.ptr hp.length 0) (.pointer (some ⟨bk,0,none⟩))/\
   HR w X μ' (((a.own (hp++[.box sh a])).2).set hp.length (.box sh (a.own (hp++[.box sh a])).1))/\
   ∀b,b<=hp.length->Ext b X μ (hp++[.box sh a]) w μ' (((a.own (hp++[.box sh a])).2).set hp.length (.box sh (a.own (hp++[.box sh a])).1)) w:=by
 obtain⟨μ',k1,k2,k3⟩:=Kh hp.length hH ha;obtain⟨v0,k4,k5,_⟩:=k2.box hp.length sh a XF;have k6:μ' hp.length=some bk:=by rw[k5,hm]
 have E2:∀b0,b0<=hp.length->Ext b0 X μ' (a.own (hp++[.box sh a])).2 w μ' (((a.own (hp++[.box sh a])).2).set hp.length (.box sh (a.own (hp++[.box sh a])).1)) w:=fun b0 hb0=>
  Ext.setBox k4 (fun h=>by omega) k6 rfl rfl rfl rfl (fun _ _=>rfl) (fun cs t fr h=>⟨cs,h,rfl⟩)
 have H2:=k1.setBox k4 k6 (E2 0 (Zg _)) (fun _ _=>rfl) hc hs hf k3;refine⟨μ',?_,H2,fun b hb=>(k2.mono hb).trans (E2 b hb)⟩;have hl:hp.length<(a.own (hp++[.box sh a])).2.length:=(Ze.1 k4).1;exact .ptr _ 0 _ sh _ (by rw[ZG hl]) k6
end Go.Am

/- Regions whose order is drawn. -/
namespace Go.Am
variable{P:Program} {w:World} {X:Xc P} {μ:Nat->Option Nat} {hp:Heap}

def aone(Γ:Oracle)(b:Nat)(o:AOper)(fr:Fr)(hp:Heap):Option OpRes:=
 match wants fr o.guard with
 |none=>none
 |some false=>some (.val .undef hp)
 |some true=>match fr.argsOf o.args with
  |none=>none
  |some vs=>aOp Γ b o.op vs hp

theorem DE(Γ:Oracle)(b:Nat)(o:AOper)(rest:List AOper)(fr:Fr)(hp:Heap):
  aops Γ b (o::rest) fr hp=match aone Γ b o fr hp with
   |some (.val v hp')=>aops Γ b rest (fr.dst o.dst v) hp'
   |some (.panic v hp')=>some (.panic v,fr,hp')
   |none=>none:=by
 simp only[aops,aone];cases wants fr o.guard with
 |none=>rfl
 |some x=>
  cases x with
  |false=>rfl
  |true=>
   simp only[];cases fr.argsOf o.args with
   |none=>rfl
   |some vs=>
    simp only[];cases aOp Γ b o.op vs hp with
    |none=>rfl
    |some r=>cases r <;> rfl

structure Run(Γ:Oracle)(b:Nat)(l:List AOper)(fr:Fr)(hp:Heap)(e:AExit)(fr':Fr)(hp':Heap)(m:Nat)(frs:Nat->Fr)(hps:Nat->Heap)(vals:Nat->AV):Prop where
 f0:frs 0=fr
 h0:hps 0=hp
 le:m<=l.length
 step:∀k o,k<m->l[k]? =some o->aone Γ b o (frs k) (hps k)=some (.val (vals k) (hps (k+1)))/\frs (k+1)=(frs k).dst o.dst (vals k)
 fin:(m=l.length/\e=.normal/\fr'=frs m/\hp'=hps m)\/∃o p,l[m]? =some o/\aone Γ b o (frs m) (hps m)=some (.panic p hp')/\e=.panic p/\fr'=frs m

theorem KB{Γ:Oracle}{b:Nat}{e:AExit}{fr':Fr}{hp':Heap}:∀(l:List AOper) (fr:Fr) (hp:Heap),aops Γ b l fr hp=some (e,fr',hp')->∃m frs hps vals,Run Γ b l fr hp e fr' hp' m frs hps vals
 |[],fr,hp,h=>by
  simp only[aops,Option.some.injEq,Prod.mk.injEq] at h;obtain⟨rfl,rfl,rfl⟩:=h;exact⟨0,fun _=>fr,fun _=>hp,fun _=>.undef,⟨rfl,rfl,Zi _,fun k o hk=>by omega,.inl ⟨rfl,rfl,rfl,rfl⟩⟩⟩
 |o::rest,fr,hp,h=>by
  rw[DE] at h;split at h
  ·rename_i v hp2 ho;obtain⟨m,frs,hps,vals,R⟩:=KB rest _ _ h;refine⟨m+1,fun k=>if k=0 then fr else frs (k - 1),fun k=>if k=0 then hp else hps (k - 1),fun k=>if k=0 then v else vals (k - 1),⟨rfl,rfl,by simpa using R.le,?_,?_⟩⟩
   ·intro k o' hk ho';cases k with
    |zero=>
     simp at ho';subst ho';simp only[if_true,ZH,Nat.one_ne_zero,if_false,Nat.sub_self,R.f0,R.h0];exact⟨ho,trivial⟩
    |succ k=>
     have:=R.step k o' (by omega) (by simpa using ho');simpa using this
   ·rcases R.fin with⟨h1,h2,h3,h4⟩|⟨o',p,h1,h2,h3,h4⟩
    ·exact .inl ⟨by simp[h1],h2,by simpa using h3,by simpa using h4⟩
    ·exact .inr ⟨o',p,by simpa using h1,by simpa using h2,h3,by simpa using h4⟩
  ·rename_i v hp2 ho;cases h;exact⟨0,fun _=>fr',fun _=>hp,fun _=>.undef,⟨rfl,rfl,Zg _,fun k o hk=>by omega,.inr ⟨o,v,rfl,ho,rfl,rfl⟩⟩⟩
  ·cases h

theorem DG{o:AOper}(h:o.cls=0):o.op=.callp\/o.op.isPure=true:=by
 unfold AOper.cls at h;split at h <;> (try (cases h;done))
 ·exact .inl ‹_›
 ·rename_i op _ _ _ _ _ _ _ _;right;cases hp:o.op.isPure with
  |true=>rfl
  |false=>rw[hp] at h;simp only[cond_false] at h;cases hr:o.op.isRead <;> simp[hr] at h
theorem vR{o:AOper}(h:o.cls=1):o.op=.callh\/(o.op.isPure=false/\o.op.isRead=true):=by
 unfold AOper.cls at h;split at h <;> (try (cases h;done))
 ·exact .inl ‹_›
 ·right;cases hp:o.op.isPure with
  |true=>rw[hp] at h;simp only[cond_true] at h;cases h
  |false=>rw[hp] at h;simp only[cond_false] at h;cases hr:o.op.isRead <;> simp[hr] at h ⊢
theorem xh{o:AOper}(h:o.cls=3):o.args=[]/\o.guard=none/\(∃d,o.dst=some d)/\((∃sh z,o.op=.alloc sh z)\/(∃sh,o.op=.nilsl sh)\/∃sh,o.op=.mkmap sh):=by
 unfold AOper.cls at h;split at h <;> (try (cases h;done))
 ·exact⟨‹_›,‹_›,⟨_,‹_›⟩,.inl ⟨_,_,‹_›⟩⟩
 ·exact⟨‹_›,‹_›,⟨_,‹_›⟩,.inr (.inl ⟨_,‹_›⟩)⟩
 ·exact⟨‹_›,‹_›,⟨_,‹_›⟩,.inr (.inr ⟨_,‹_›⟩)⟩
 ·cases hp:o.op.isPure <;> cases hr:o.op.isRead <;> simp[hp,hr] at h
theorem qN(o:AOper):o.cls=0\/o.cls=1\/o.cls=2\/o.cls=3:=by
 unfold AOper.cls;split <;> (try simp)
 cases o.op.isPure <;> cases o.op.isRead <;> simp
theorem DH{o:AOper}(h:o.risky=true):o.cls=2:=by
 unfold AOper.risky at h;split at h
 ·rename_i e;unfold AOper.cls;simp[e,AOp.isPure,AOp.isRead]
 ·rename_i e;unfold AOper.cls;simp[e,AOp.isPure,AOp.isRead]
 ·rename_i e;unfold AOper.cls;simp[e,AOp.isPure,AOp.isRead]
 ·cases h

theorem DI{Γ:Oracle}{b:Nat}{op:AOp}{vs:List AV}{v:AV}{hp1 hp2:Heap}(ho:op=.callp\/op.isPure=true)(h:aOp Γ b op vs hp1=some (.val v hp2)):hp2=hp1/\∀hp3,aOp Γ b op vs hp3=some (.val v hp3):=by
 rcases ho with rfl|hop
 ·simp only[aOp,Qk] at h ⊢;split at h
  ·split at h
   ·rename_i ps hps;split at h
    ·rename_i v0 q hg;split at h
     ·rename_i v' hb;cases h;exact⟨rfl,fun hp3=>rfl⟩
     ·cases h
    ·cases h
   ·cases h
  ·cases h
 ·have e:∀hp,aOp Γ b op vs hp=match YM hp (spure op vs) with|some (v,hp')=>some (.val v hp')|none=>none:=by
   intro hp;cases op <;> first|(cases hop;done)|rfl
  rw[e] at h;cases hs:spure op vs with
  |none=>rw[hs] at h;cases h
  |some u=>
   rw[hs] at h;cases h;exact⟨rfl,fun hp3=>by rw[e,hs];rfl⟩
theorem KC{Γ:Oracle}{b:Nat}{op:AOp}{vs:List AV}{hp1:Heap}(hop:op.isPure=false)(hr:op.isRead=true):aOp Γ b op vs hp1=match sread op vs hp1 with|some v=>some (.val v hp1)|none=>none:=by
 have e:aOp Γ b op vs hp1=match YM hp1 (sread op vs hp1) with|some (v,hp')=>some (.val v hp')|none=>none:=by
  cases op <;> first|(cases hr;done)|rfl
 rw[e];cases sread op vs hp1 <;> rfl
theorem DJ{Γ:Oracle}{b:Nat}{op:AOp}{vs:List AV}{v:AV}{hp1 hp2:Heap}(ho:op=.callh\/(op.isPure=false/\op.isRead=true))(h:aOp Γ b op vs hp1=some (.val v hp2)):hp2=hp1:=by
 rcases ho with rfl|⟨hop,hr⟩
 ·simp only[aOp,Qi] at h;split at h
  ·split at h
   ·split at h
    ·split at h
     ·cases h;rfl
     ·cases h
    ·cases h
   ·cases h
  ·cases h
 ·rw[KC hop hr] at h;split at h
  ·cases h;rfl
  ·cases h

theorem Xv{Γ:Oracle}{b:Nat}{o:AOper}{fr:Fr}{v:AV}{hp1 hp2:Heap}(h:aone Γ b o fr hp1=some (.val v hp2)):(o.cls=0->hp2=hp1/\∀hp3,aone Γ b o fr hp3=some (.val v hp3))/\(o.cls=1->hp2=hp1):=by
 unfold aone at*;cases hw:wants fr o.guard with
 |none=>rw[hw] at h;cases h
 |some x=>
  rw[hw] at h;cases x with
  |false=>
   cases h;exact⟨fun _=>⟨rfl,fun _=>rfl⟩,fun _=>rfl⟩
  |true=>
   simp only[] at h ⊢;cases ha:fr.argsOf o.args with
   |none=>rw[ha] at h;cases h
   |some vs=>
    rw[ha] at h;simp only[] at h ⊢;exact⟨fun hc=>DI (DG hc) h,fun hc=>DJ (vR hc) h⟩

theorem KD{fr:Fr}:∀{n:Nat} {as:List AArg} {vs:List AV},fr.argsOf as=some vs->fr.argsOf (as.drop n)=some (vs.drop n)
 |0,as,vs,h=>by simpa using h
 |n+1,[],vs,h=>by simp only[Fr.argsOf,Option.some.injEq] at h;subst h;rfl
 |n+1,a::r,vs,h=>by
  obtain⟨v,us,rfl,_,h2⟩:=yE h;simpa using KD h2
theorem vT{sh:Sh}{b:Nat}{vs:List AV}{v:AV}{hp':Heap}(h:qA sh b hp vs=some (v,hp')):∃r o s1 r1 v1 i1 o1 s2 p2,∃y,vs=[.ptr r o,y,.eptr s1 r1 v1 i1 o1,.pv s2 p2]/\((∃sh r v o n,y=.sl sh r v o n)\/∃sh p,y=.pv sh p)/\astore sh b hp (.ptr r o) y=some hp'/\v=.undef:=by
 unfold qA at h;split at h
 ·split at h
  ·split at h
   ·cases h;exact⟨_,_,_,_,_,_,_,_,_,_,rfl,.inl ⟨_,_,_,_,_,rfl⟩,‹_›,rfl⟩
   ·cases h
  ·split at h
   ·cases h;exact⟨_,_,_,_,_,_,_,_,_,_,rfl,.inr ⟨_,_,rfl⟩,‹_›,rfl⟩
   ·cases h
  ·cases h
 ·cases h
theorem DK{Γ:Oracle}{b:Nat}{o:AOper}{fr:Fr}{hp:Heap}{r:OpRes}(h:aone Γ b o fr hp=some r):aone Γ b o.base fr hp=some r:=by
 unfold AOper.base;split
 ·rename_i sh p v qs ho ha;unfold aone at h ⊢;simp only[] at h ⊢;split at h
  ·cases h
  ·exact h
  ·rw[ha] at h;split at h
   ·cases h
   ·rename_i vs hvs;obtain⟨a1,us,rfl,h1,h2⟩:=yE hvs;obtain⟨a2,us2,rfl,h3,h4⟩:=yE h2;have e:fr.argsOf [p,v]=some [a1,a2]:=by simp[Fr.argsOf,h1,h3]
    rw[e];simp only[ho] at h;show aOp Γ b (.store sh) [a1,a2] hp=some r;simp only[aOp,astep,AOp.isPure,AOp.isRead,cond_false,swrite,xB,Yw] at h ⊢;cases a1 <;> simp only[] at h <;> (try (cases h;done))
    rename_i r0 o0;by_cases hall:us2.all (qz r0)=true
    ·rw[Zb hall] at h;cases hs:astore sh b hp (.ptr r0 o0) a2 with
     |none=>rw[hs] at h;cases h
     |some hq=>rw[hs] at h;exact h
    ·rw[Za hall] at h;cases h
 ·rename_i sh p v qs ho ha;unfold aone at h ⊢;simp only[] at h ⊢;split at h
  ·cases h
  ·exact h
  ·rw[ha] at h;split at h
   ·cases h
   ·rename_i vs hvs;obtain⟨a1,us,rfl,h1,h2⟩:=yE hvs;obtain⟨a2,us2,rfl,h3,h4⟩:=yE h2;have e:fr.argsOf [p,v]=some [a1,a2]:=by simp[Fr.argsOf,h1,h3]
    rw[e];simp only[ho] at h;show aOp Γ b (.store sh) [a1,a2] hp=some r;simp only[aOp,astep,AOp.isPure,AOp.isRead,cond_false,swrite,Yw] at h ⊢;cases hw:qA sh b hp (a1::a2::us2) with
    |none=>rw[hw] at h;cases h
    |some q=>
     obtain⟨v',hq⟩:=q;rw[hw] at h;obtain⟨r0,o0,s1,r1,v1,i1,o1,s2,p2,y,hvs',_,hst,rfl⟩:=vT hw;simp only[List.cons.injEq] at hvs';obtain⟨rfl,rfl,_⟩:=hvs';rw[hst];exact h
 ·rename_i n ho;unfold aone at h ⊢;simp only[] at h ⊢;split at h
  ·cases h
  ·exact h
  ·split at h
   ·cases h
   ·rename_i vs hvs;rw[KD hvs];simp only[ho,aOp] at h ⊢;unfold QR at h;split at h
    ·rename_i v hp' hc;split at h
     ·rw[hc];exact h
     ·cases h
    ·exact h
 ·rename_i ho;unfold aone at h ⊢;simp only[] at h ⊢;split at h
  ·cases h
  ·exact h
  ·split at h
   ·cases h
   ·rename_i vs hvs;simp only[ho,aOp] at h ⊢;unfold Qj at h;split at h
    ·rename_i v hp' hc;split at h
     ·rw[hc];exact h
     ·cases h
    ·cases h
 ·rename_i sh n ho;unfold aone at h ⊢;simp only[] at h ⊢;split at h
  ·cases h
  ·exact h
  ·split at h
   ·cases h
   ·rename_i vs hvs;rw[KD hvs];simp only[ho,aOp,astep,AOp.isPure,AOp.isRead,cond_false,swrite] at h ⊢;unfold qB at h;cases hc:yp sh hp (vs.drop n) with
    |none=>rw[hc] at h;cases h
    |some q=>
     obtain⟨v,hp'⟩:=q;rw[hc] at h;simp only[] at h;split at h
     ·exact h
     ·cases h
 ·exact h

theorem KE{Γ:Oracle}{b:Nat}{o:AOper}{fr:Fr}{p:PV}{hp1 hp2:Heap}(h:aone Γ b o fr hp1=some (.panic p hp2)):o.risky=true:=by
 unfold aone at h;split at h
 ·cases h
 ·cases h
 ·split at h
  ·cases h
  ·rename_i vs hvs;unfold AOper.risky;split
   ·rfl
   ·rfl
   ·rfl
   ·rename_i n1 n3 n2;exfalso;unfold aOp at h;split at h
    ·exact n1 ‹_›
    ·simp only[Qk] at h
     (repeat' split at h) <;> cases h
    ·simp only[Qi] at h
     (repeat' split at h) <;> cases h
    ·simp only[Qj] at h
     (repeat' split at h) <;> cases h
    ·exact n3 _ ‹_›
    ·simp only[qB] at h
     (repeat' split at h) <;> cases h
    ·exact n2 ‹_›
    ·split at h <;> cases h

theorem Run.heap{Γ:Oracle}{b:Nat}{l:List AOper}{fr fr':Fr}{hp hp':Heap}{e:AExit}{m:Nat}{frs:Nat->Fr}{hps:Nat->Heap}{vals:Nat->AV}(R:Run Γ b l fr hp e fr' hp' m frs hps vals){i:Nat}:∀(n:Nat),i+n<=m->(∀k o,i<=k->k<i+n->l[k]? =some o->o.cls≠2/\o.cls≠3)->hps (i+n)=hps i
 |0,_,_=>rfl
 |n+1,hm,hc=>by
  rw[<-R.heap n (by omega) (fun k o h1 h2 h3=>hc k o h1 (by omega) h3)];have hlt:i+n<l.length:=ZM (by omega) R.le;have ho:l[i+n]? =some l[i+n]:=Zf hlt;obtain⟨h1,_⟩:=R.step (i+n) _ (by omega) ho;have hcls:=hc (i+n) _ (by omega) (by omega) ho;rcases qN l[i+n] with h|h|h|h
  ·exact((Xv h1).1 h).1
  ·exact(Xv h1).2 h
  ·exact absurd h hcls.1
  ·exact absurd h hcls.2

theorem Run.look{Γ:Oracle}{b:Nat}{l:List AOper}{fr fr':Fr}{hp hp':Heap}{e:AExit}{m:Nat}{frs:Nat->Fr}{hps:Nat->Heap}{vals:Nat->AV}(R:Run Γ b l fr hp e fr' hp' m frs hps vals){s:Nat}{a:AV}:∀(k:Nat),k<=m->(frs k).look s=some a->
  (∃j o,j<k/\l[j]? =some o/\o.dst=some s/\a=vals j)\/((∀j o,j<k->l[j]? =some o->o.dst≠some s)/\fr.look s=some a)
 |0,_,h=>.inr ⟨fun j _ hj=>by omega,by rw[R.f0] at h;exact h⟩
 |k+1,hk,h=>by
  have hlt:k<l.length:=ZM (by omega) R.le;have ho:l[k]? =some l[k]:=Zf hlt;obtain⟨_,h2⟩:=R.step k _ (by omega) ho;rw[h2] at h;have old:l[k].dst≠some s->(frs k).look s=some a->(∃j o,j<k+1/\l[j]? =some o/\o.dst=some s/\a=vals j)\/((∀j o,j<k+1->l[j]? =some o->o.dst≠some s)/\fr.look s=some a):=by
   intro hn h;rcases R.look k (by omega) h with⟨j,o,h1,h2,h3,h4⟩|⟨h1,h2⟩
   ·exact .inl ⟨j,o,by omega,h2,h3,h4⟩
   ·refine .inr ⟨fun j o hj hjo=> ?_,h2⟩;rcases Zq j k with h|h
    ·exact h1 j o h hjo
    ·have:j=k:=by omega
     subst this;rw[ho] at hjo;cases hjo;exact hn
  cases hd:l[k].dst with
  |none=>
   rw[hd] at h;exact old (by rw[hd];simp) h
  |some d=>
   rw[hd] at h;simp only[Fr.dst,Fr.look] at h;split at h
   ·rename_i e;subst e;cases h;exact .inl ⟨k,_,by omega,ho,hd,rfl⟩
   ·rename_i e;exact old (by rw[hd];simpa using e) h
end Go.Am
