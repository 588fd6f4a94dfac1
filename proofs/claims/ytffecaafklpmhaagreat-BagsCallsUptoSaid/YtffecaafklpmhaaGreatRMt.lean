/- What is proved: what slices.Insert does at one type. -/
import Derived.Test.YtffecaafklpmhaaGreatProg
import Derived.Shelf.Spec.SlicesInsertGrow
import Derived.Test.YtffecaafklpmhaaGreatAm4
import Derived.Test.YtffecaafklpmhaaGreatAm2
import Derived.Test.YtffecaafklpmhaaGreatRows
import Derived.Test.YtffecaafklpmhaaGreatFns
set_option linter.unusedVariables false
set_option linter.unusedSimpArgs false
namespace Go.Proofs.YtffecaafklpmhaaGreat
open Go Go.Am Go.Proofs Go.Lib Go.RowKit
theorem t3:Tryz.prog.underlying 3=some (TypeDesc.int IntKind.i64):=by kernel_rfl
theorem a3:∀w,(isAgg 3).run Tryz.prog w=.ok false w:=fun w=>by kernel_rfl
theorem z3:∀w,(Go.sizeOf 3).run Tryz.prog w=.ok 1 w:=fun w=>by kernel_rfl
theorem v3:∀w,(zeroValue 3).run Tryz.prog w=.ok (Value.int IntKind.i64 0) w:=fun w=>by kernel_rfl
theorem t4:Tryz.prog.underlying 4=some TypeDesc.bool:=by kernel_rfl
theorem a4:∀w,(isAgg 4).run Tryz.prog w=.ok false w:=fun w=>by kernel_rfl
theorem z4:∀w,(Go.sizeOf 4).run Tryz.prog w=.ok 1 w:=fun w=>by kernel_rfl
theorem v4:∀w,(zeroValue 4).run Tryz.prog w=.ok (Value.bool false) w:=fun w=>by kernel_rfl
theorem tS:Tryz.prog.underlying 50=some (TypeDesc.slice 111):=by kernel_rfl
theorem aS:∀w,(isAgg 50).run Tryz.prog w=.ok false w:=fun w=>by kernel_rfl
theorem zS:∀w,(Go.sizeOf 50).run Tryz.prog w=.ok 1 w:=fun w=>by kernel_rfl
theorem vS:∀w,(zeroValue 50).run Tryz.prog w=.ok (Value.slice none 0 0) w:=fun w=>by kernel_rfl
theorem zE:∀w,(Go.sizeOf 111).run Tryz.prog w=.ok 5 w:=fun w=>by kernel_rfl
theorem iE:(Tryz.prog.info? 111).map (·.size)=some 5:=by kernel_rfl
theorem Mj{α:Type}(C:List α)(p q:Nat)(hpq:p<=q)(hq:q<=C.length)(R:List α):(C.take q++R).take p=C.take p/\(C.take q++R).drop q=R:=by
 have hl:(C.take q).length=q:=by simp;omega
 refine⟨?_,?_⟩
 ·rw[zk (by omega),ZX]
  congr 1
  omega
 ·exact List.drop_left' hl
set_option maxHeartbeats 4000000 in
set_option maxRecDepth 100000 in
theorem Mk(b n c i vb voff m vc:Nat)(cur:Array Value)(t:TypeId)(vs:List Value)(w:World)(hi:i<n)(hm:0<m)(hroom:n+m<=c)(hlim:n+m<=lim)(hvb:vb≠b)
  (hg:w.heap[b]? =some (.cells cur t (0,0)))(hcs:cur.size=c*5)(hvl:vs.length=m*5)(h1:∀v∈(cur.toList.drop (i*5)).take ((n - i)*5),v.oneCell'=true)
  (hvs:∀j v,vs[j]? =some v->w.cell? ⟨vb,voff+j,none⟩=some v)(h1v:∀v∈vs,v.oneCell'=true)
  (tA:TypeId)(kA:Nat)(hsa:w.shape? vb=some (tA,kA))(hkA:kA≠0):
  ∃cur2:Array Value,cur2.toList=cur.toList.take (i*5)++vs++(cur.toList.drop (i*5)).take ((n - i)*5)++cur.toList.drop ((n+m)*5)/\
  Calls Tryz.prog 158 #[.slice (some ⟨b,0,none⟩) n c,.int .i64 i,.slice (some ⟨vb,voff,none⟩) m vc] w fun e w'=>
   e=.returned (.slice (some ⟨b,0,none⟩) (n+m) c)/\∃cur1,w'=(w.drew.setRow b cur1).setRow b cur2:=by
 have t3:=t3;have a3:=a3;have z3:=z3;have v3:=v3;have t4:=t4;have a4:=a4;have z4:=z4;have v4:=v4;have tS:=tS;have aS:=aS;have zS:=zS;have vS:=vS;have zE:=zE;have u3:=run_underlying t3;have u4:=run_underlying t4;have uS:=run_underlying tS;have hlim':n+m<=1073741824:=hlim;have hov:∀lb cb x,(callFunc 162 #[.slice (some ⟨vb,voff,none⟩) m vc,.slice (some ⟨b,x,none⟩) lb cb]).run Tryz.prog w=.ok (.value (.bool false)) w:=fun lb cb x=>by
  have hfr:∀o,w.frozen? ⟨b,o,none⟩=false:=fun o=>by simp[World.frozen?,hg]
  rw[run_callFunc_extern Tryz.func162 (by kernel_rfl) (by kernel_rfl) (by kernel_rfl) (e:=Extern.SlicesOverlaps.overlaps #[50,50] #[4]) (by kernel_rfl),
   ED w 50 4 111 tS 5 zE ⟨vb,voff,none⟩ ⟨b,x,none⟩ m vc lb cb hvb tA t kA cur.size hsa (by simp[World.shape?,hg]) hkA (by omega) hfr (hfr x)]
  rfl
 have hz1:¬((m:Int)=0):=by omega
 have hz2:¬((i:Int)=(n:Int)):=by omega
 have hw1:IntKind.i64.wrap ((i:Int)+(m:Int))=(i:Int)+(m:Int):=by rw[IntKind.wrap_i64];omega
 have hb1:(0:Int)<=(i:Int)+(m:Int):=by omega
 have hin:i<=n:=by omega
 have htn:((i:Int)+(m:Int)).toNat=i+m:=by omega
 have hb2:¬(c=i+m):=by omega
 have hb3:(i:Int)<=(n:Int)+(m:Int):=by omega
 have hb4:¬(c=i):=by omega
 have hcell:∀(W:World) (j:Nat),W.heap=w.heap->W.cell? ⟨b,j,none⟩=cur.toList[j]? :=fun W j h=>by
  simp[World.cell?,h,hg]
 have hcp1:∃cur1:Array Value,cur1.toList=cur.toList.take ((i+m)*5)++(cur.toList.drop (i*5)).take ((n - i)*5)++cur.toList.drop ((n+m)*5)/\∀ty dc sc,(Builtin.copy_ #[50,50] ty #[.slice (some ⟨b,(i+m)*5,none⟩) (n+m - (i+m)) dc,.slice (some ⟨b,i*5,none⟩) (n+m - i) sc]).run Tryz.prog w.drew=.ok (goInt ((n - i:Nat):Int)) (w.drew.setRow b cur1):=by
  obtain⟨cs1,hcs1⟩:∃cs1,cs1=(cur.toList.drop (i*5)).take ((n - i)*5):=⟨_,rfl⟩;have hl1:cs1.length=(n - i)*5:=by rw[hcs1];simp;omega
  have hmin:Nat.min (n+m - i) (n+m - (i+m))=n - i:=by simp only[Nat.min_def];split <;> omega
  have h:=fun ty dc sc=>
   jb w.drew 50 50 ty 111 b ((i+m)*5) (n+m - (i+m)) dc ⟨b,i*5,none⟩ (n+m - i) sc 5 cur t cs1 tS iE hg (by rw[hl1,hmin])
   (fun j v hj=>by
    have ha:(⟨b,i*5,none⟩:Addr).add j=⟨b,i*5+j,none⟩:=by unfold Addr.add;split <;> simp_all
    rw[ha,hcell w.drew _ rfl];rw[hcs1,ZU] at hj;split at hj
    ·rwa [ZT] at hj
    ·cases hj)
   (by rw[hl1,hcs];omega) (fun v hv=>h1 v (by rw[hcs1] at hv;exact hv))
  refine⟨(cur.toList.take ((i+m)*5)++cs1++cur.toList.drop ((i+m)*5+cs1.length)).toArray,?_,fun ty dc sc=> ?_⟩
  ·rw[hl1,hcs1,show(i+m)*5+(n - i)*5=(n+m)*5 by omega]
  ·rw[h,hmin]
 obtain⟨cur1,hcur1,hcp1⟩:=hcp1;have hcur1l:cur1.size=cur.size:=by
  have:=congrArg List.length hcur1;simp at this;omega
 have hne:∀x,x≠b->(w.drew.setRow b cur1).heap[x]? =w.heap[x]? :=fun x hx=>by
  simp[World.setRow,Array.getElem?_modify,Ne.symm hx];rfl
 have hg1:(w.drew.setRow b cur1).heap[b]? =some (.cells cur1 t (0,0)):=setRow_heap w.drew b cur cur1 t _ hg;have hcp2:∃cur2:Array Value,cur2.toList=cur1.toList.take (i*5)++vs++cur1.toList.drop (i*5+m*5)/\∀ty dc,(Builtin.copy_ #[50,50] ty #[.slice (some ⟨b,i*5,none⟩) (n+m - i) dc,.slice (some ⟨vb,voff,none⟩) m vc]).run Tryz.prog (w.drew.setRow b cur1)=.ok (goInt m) ((w.drew.setRow b cur1).setRow b cur2):=by
  have hmin:Nat.min m (n+m - i)=m:=by simp only[Nat.min_def];split <;> omega
  have h:=fun ty dc=>
   jb (w.drew.setRow b cur1) 50 50 ty 111 b (i*5) (n+m - i) dc ⟨vb,voff,none⟩ m vc 5 cur1 t vs tS iE hg1 (by rw[hvl,hmin])
   (fun j v hj=>by
    have ha:(⟨vb,voff,none⟩:Addr).add j=⟨vb,voff+j,none⟩:=by unfold Addr.add;split <;> simp_all
    rw[ha];have:=hvs j v hj;unfold World.cell? at this ⊢;rw[hne vb hvb];exact this)
   (by rw[hvl,hcur1l,hcs];omega) h1v
  refine⟨(cur1.toList.take (i*5)++vs++cur1.toList.drop (i*5+vs.length)).toArray,?_,fun ty dc=> ?_⟩
  ·rw[hvl]
  ·rw[h,hmin]
 obtain⟨cur2,hcur2,hcp2⟩:=hcp2;have hfin:cur2.toList=cur.toList.take (i*5)++vs++(cur.toList.drop (i*5)).take ((n - i)*5)++cur.toList.drop ((n+m)*5):=by
  rw[hcur2,hcur1];simp only[Zd];obtain⟨e1,e2⟩:=Mj cur.toList (i*5) ((i+m)*5) (by omega) (by simp;omega) ((cur.toList.drop (i*5)).take ((n - i)*5)++cur.toList.drop ((n+m)*5));rw[e1,show i*5+m*5=(i+m)*5 by omega,e2]
 refine⟨cur2,hfin,?_⟩;clear hcur1 hcur2 hfin;have mixed:Tryz.prog.follows .mixedOrders=true:=by kernel_rfl
 go_enter Tryz.func158,Tryz.f158
 go_wp2_with (simp only[hov])
 go_region_law_o (refine step_copy_runI rfl _ _ 50 50 rfl _ _ (by simp[Act.eval,Act.put]) (by simp[Act.eval,Act.put]) (hcp1 _ _ _) ?_)
 go_wp2_with (at_builtin;refine wpList_copy_runI _ rfl _ _ 50 50 rfl _ _ rfl rfl (hcp2 _ _) ?_)
 go_ret
 exact⟨rfl,cur1,rfl⟩
set_option maxHeartbeats 4000000 in
set_option maxRecDepth 100000 in
theorem Ml(b n c i vb voff m vc:Nat)(cur:Array Value)(t:TypeId)(vs:List Value)(w:World)(hi:i<n)(hm:0<m)(hnc:n<=c)(hroom:c<n+m)(hlim:n+m<=lim)(hvb:vb<w.heap.size)
  (hg:w.heap[b]? =some (.cells cur t (0,0)))(hcs:cur.size=c*5)(hvl:vs.length=m*5)(h1:∀v∈(cur.toList.drop (i*5)).take ((n - i)*5),v.oneCell'=true)
  (hvs:∀j v,vs[j]? =some v->w.cell? ⟨vb,voff+j,none⟩=some v)(h1v:∀v∈vs,v.oneCell'=true)
  (hok:okT Tryz.prog 111=true)(hz:yr Tryz.prog 111=true)(hby:XD Tryz.prog 111=true)(hshE:(shOf Tryz.prog 111).size=5):
  ∃(row:Array Value) (G:Nat),n+m<=G/\row.size=G*5/\row.toList.take ((n+m)*5)=cur.toList.take (i*5)++vs++(cur.toList.drop (i*5)).take ((n - i)*5)/\
  Calls Tryz.prog 158 #[.slice (some ⟨b,0,none⟩) n c,.int .i64 i,.slice (some ⟨vb,voff,none⟩) m vc] w fun e w'=>
   e=.returned (.slice (some ⟨w.heap.size,0,none⟩) (n+m) G)/\w'.heap[w.heap.size]? =some (.cells row 111 (0,0))/\w'.heap.size=w.heap.size+1/\(∀x,x<w.heap.size->w'.heap[x]? =w.heap[x]?)/\w'.os=w.os/\w'.tape=w.tape/\w'.output=w.output:=by
 have t3:=t3;have a3:=a3;have z3:=z3;have v3:=v3;have t4:=t4;have a4:=a4;have z4:=z4;have v4:=v4;have tS:=tS;have aS:=aS;have zS:=zS;have vS:=vS;have zE:=zE;have u3:=run_underlying t3;have u4:=run_underlying t4;have uS:=run_underlying tS;obtain⟨i0,z0,hi0,hz0,hs0,hzc⟩:=okE w hok hz;rw[hshE] at hs0 hzc;have hb:i0.bytes<=1024:=by
  unfold XD at hby
  rw[hi0] at hby
  simpa using hby
 have hbb:(n+m)*i0.bytes<=140737488355328:=by
  have:(n+m)*i0.bytes<=lim*1024:=zC hlim hb;unfold lim at this;omega
 have hlim':n+m<=1073741824:=hlim;have hbN:b<w.heap.size:=YZ hg;have hz1:¬((m:Int)=0):=by omega
 have hz2:¬((i:Int)=(n:Int)):=by omega
 have hz3:(c:Int)<(n:Int)+(m:Int):=by omega
 have hkk:(n:Int)+(m:Int) - (i:Int)=((n+m - i:Nat):Int):=by omega
 have hik:i+(n+m - i)=n+m:=by omega
 have hold:(Builtin.firstCells i0.size i (.slice (some ⟨b,0,none⟩) i c)).run Tryz.prog w.drew=.ok (cur.toList.take (i*5)).toArray w.drew:=by
  rw[hs0];refine run_firstCells_some w.drew 5 i ⟨b,0,none⟩ i c (cur.toList.take (i*5)) (by simp;omega) fun j v hj=> ?_;have ha:(⟨b,0,none⟩:Addr).add j=⟨b,j,none⟩:=by unfold Addr.add;split <;> simp_all
  rw[ha];rw[ZU] at hj;split at hj
  ·have hg':w.drew.heap[b]? =some (.cells cur t (0,0)):=hg;simpa[World.cell?,hg'] using hj
  ·cases hj
 obtain⟨G,hG⟩:∃G,grownCap w (n+m) c 111=G:=⟨_,rfl⟩;obtain⟨ROW,hROW⟩:∃ROW:Array Value,(cur.toList.take (i*5)).toArray++Builtin.zeroCells z0.cells (n+m - i)++Builtin.zeroCells z0.cells (G - (n+m))=ROW:=⟨_,rfl⟩;have hGn:n+m<=G:=by rw[<-hG];exact grownCap_ge w _ _ _
 have hRl:ROW.size=G*5:=by
  rw[<-hROW];simp only[Array.size_append,List.size_toArray,size_zeroCells,hzc,Zn,Zs];omega
 have hRt:ROW.toList.take (i*5)=cur.toList.take (i*5):=by
  rw[<-hROW];simp only[Array.toList_append,Zd];exact ZD (by simp;omega)
 have hrz:∀ty,(Builtin.append_ #[50,3] ty #[.slice (some ⟨b,0,none⟩) i c,.int .i64 ((n:Int)+(m:Int) - (i:Int))]).run Tryz.prog w=
   .ok (.slice (some ⟨w.heap.size,0,none⟩) (n+m) G) (w.drew.alloc (.cells ROW 111)):=fun ty=>by
  have h:=Lib.run_append_grow_zeros w 50 3 ty 111 i0 z0 .i64 .i64 tS t3 hi0 hz0 (some ⟨b,0,none⟩) i c (cur.toList.take (i*5)) hold (n+m - i) (by omega) (by rw[hs0];omega) (by omega) (by omega)
   (by have:(n+m - i)*i0.bytes<=(n+m)*i0.bytes:=zC (by omega) (Zi _);omega) (by rw[hik];exact growslice_fits hroom hbb)
  rw[hik,hG] at h;rw[hkk,<-hROW];exact h
 have hd1:ROW.toList.length=G*5:=by simpa using hRl
 have hGn':(n+m)*5<=G*5:=zC hGn (Zi _);have hcpA:∃row1:Array Value,row1.toList=ROW.toList.take (i*5)++vs++ROW.toList.drop (i*5+m*5)/\∀W:World,W.heap[w.heap.size]? =some (.cells ROW 111 (0,0))->W.heap[vb]? =w.heap[vb]?->∀ty dc,(Builtin.copy_ #[50,50] ty #[.slice (some ⟨w.heap.size,i*5,none⟩) (n+m - i) dc,.slice (some ⟨vb,voff,none⟩) m vc]).run Tryz.prog W=.ok (goInt m) (W.setRow w.heap.size row1):=by
  have hmin:Nat.min m (n+m - i)=m:=by simp only[Nat.min_def];split <;> omega
  refine⟨(ROW.toList.take (i*5)++vs++ROW.toList.drop (i*5+vs.length)).toArray,by rw[hvl],fun W hN hV ty dc=> ?_⟩;have h:=jb W 50 50 ty 111 w.heap.size (i*5) (n+m - i) dc ⟨vb,voff,none⟩ m vc 5 ROW 111 vs tS iE hN (by rw[hvl,hmin])
   (fun j v hj=>by
    have ha:(⟨vb,voff,none⟩:Addr).add j=⟨vb,voff+j,none⟩:=by unfold Addr.add;split <;> simp_all
    rw[ha];have:=hvs j v hj;unfold World.cell? at this ⊢;rw[hV];exact this)
   (by rw[hvl,hRl];omega) h1v
  rw[h,hmin]
 obtain⟨row1,hrow1,hcpA⟩:=hcpA;have hr1l:row1.size=G*5:=by
  have:=congrArg List.length hrow1;simp at this;omega
 have hcpB:∃row2:Array Value,row2.toList=row1.toList.take ((i+m)*5)++(cur.toList.drop (i*5)).take ((n - i)*5)++row1.toList.drop ((n+m)*5)/\∀W:World,W.heap[w.heap.size]? =some (.cells row1 111 (0,0))->W.heap[b]? =some (.cells cur t (0,0))->∀ty dc sc,(Builtin.copy_ #[50,50] ty #[.slice (some ⟨w.heap.size,(i+m)*5,none⟩) (n+m - (i+m)) dc,.slice (some ⟨b,i*5,none⟩) (n - i) sc]).run Tryz.prog W=.ok (goInt ((n - i:Nat):Int)) (W.setRow w.heap.size row2):=by
  obtain⟨cs1,hcs1⟩:∃cs1,cs1=(cur.toList.drop (i*5)).take ((n - i)*5):=⟨_,rfl⟩;have hl1:cs1.length=(n - i)*5:=by rw[hcs1];simp;omega
  have hmin:Nat.min (n - i) (n+m - (i+m))=n - i:=by simp only[Nat.min_def];split <;> omega
  refine⟨(row1.toList.take ((i+m)*5)++cs1++row1.toList.drop ((i+m)*5+cs1.length)).toArray,by rw[hl1,hcs1,show(i+m)*5+(n - i)*5=(n+m)*5 by omega],fun W hN hB ty dc sc=> ?_⟩;have h:=jb W 50 50 ty 111 w.heap.size ((i+m)*5) (n+m - (i+m)) dc ⟨b,i*5,none⟩ (n - i) sc 5 row1 111 cs1 tS iE hN (by rw[hl1,hmin])
   (fun j v hj=>by
    have ha:(⟨b,i*5,none⟩:Addr).add j=⟨b,i*5+j,none⟩:=by unfold Addr.add;split <;> simp_all
    rw[ha];rw[hcs1,ZU] at hj;split at hj
    ·rw[ZT] at hj;simpa[World.cell?,hB] using hj
    ·cases hj)
   (by rw[hl1,hr1l];omega) (fun v hv=>h1 v (by rw[hcs1] at hv;exact hv))
  rw[h,hmin]
 obtain⟨row2,hrow2,hcpB⟩:=hcpB;have hfin:row2.toList.take ((n+m)*5)=cur.toList.take (i*5)++vs++(cur.toList.drop (i*5)).take ((n - i)*5):=by
  have e0:row1.toList.take ((i+m)*5)=cur.toList.take (i*5)++vs:=by
   rw[hrow1,hRt];exact ZD (by simp[hvl];omega)
  rw[hrow2,e0];exact ZD (by simp[hvl];omega)
 have hr2l:row2.size=G*5:=by
  have:=congrArg List.length hrow2;simp at this;omega
 have hA1:(w.drew.alloc (.cells ROW 111)).heap[w.heap.size]? =some (.cells ROW 111 (0,0)):=yM w.drew _;have hA2:∀x,x<w.heap.size->(w.drew.alloc (.cells ROW 111)).heap[x]? =w.heap[x]? :=fun x hx=>yL w.drew _ hx;have hA3:(w.drew.alloc (.cells ROW 111)).heap.size=w.heap.size+1:=by
  show(w.drew.heap.push _).size=_;rw[Array.size_push];rfl
 refine⟨row2,G,hGn,hr2l,hfin,?_⟩;have hG63:G<=9223372036854775807:=by
  have:=grownCap_le_maxLen w (n+m) c 111 (by unfold maxLen;omega);rw[hG] at this;unfold maxLen at this;omega
 have hGi:¬(G=i):=by omega
 have hGim:¬(G=i+m):=by omega
 have hci:¬(c=i):=by omega
 have hw1:IntKind.i64.wrap ((i:Int)+(m:Int))=(i:Int)+(m:Int):=by rw[IntKind.wrap_i64];omega
 have hw2:IntKind.i64.wrap ((n:Int)+(m:Int))=(n:Int)+(m:Int):=by rw[IntKind.wrap_i64];omega
 have hw3:IntKind.i64.wrap ((n:Int)+(m:Int) - (i:Int))=(n:Int)+(m:Int) - (i:Int):=by rw[IntKind.wrap_i64];omega
 have hb1:(0:Int)<=(i:Int)+(m:Int):=by omega
 have hin:i<=n:=by omega
 have htn:((i:Int)+(m:Int)).toNat=i+m:=by omega
 have hb3:(i:Int)<=(n:Int):=by omega
 clear hkk hik hold hrow1 hrow2 hfin hRt hd1 hROW hG;have mixed:Tryz.prog.follows .mixedOrders=true:=by kernel_rfl
 go_enter Tryz.func158,Tryz.f158
 go_wp2_with (at_builtin;refine Lib.wpList_append_run _ rfl _ _ _ _ rfl _ _ rfl rfl _ _ (hrz _) ?_)
 have hA1':((w.alloc (.cells ROW 111)).drew).heap[w.heap.size]? =some (.cells ROW 111 (0,0)):=hA1;have hA2':∀x,x<w.heap.size->((w.alloc (.cells ROW 111)).drew).heap[x]? =w.heap[x]? :=hA2;have hA3':((w.alloc (.cells ROW 111)).drew).heap.size=w.heap.size+1:=hA3;have hA4':((w.alloc (.cells ROW 111)).drew).os=w.os/\((w.alloc (.cells ROW 111)).drew).tape=w.tape/\((w.alloc (.cells ROW 111)).drew).output=w.output:=⟨rfl,rfl,rfl⟩;rw[hcpA _ hA1' (hA2' _ hvb)];generalize (w.alloc (.cells ROW 111)).drew=W0 at*;have hB1:(W0.setRow w.heap.size row1).heap[w.heap.size]? =some (.cells row1 111 (0,0)):=setRow_heap W0 w.heap.size ROW row1 111 _ hA1';have hB2:∀x,x<w.heap.size->(W0.setRow w.heap.size row1).heap[x]? =w.heap[x]? :=fun x hx=>by
  rw[<-hA2' x hx];have:w.heap.size≠x:=by omega
  simp[World.setRow,Array.getElem?_modify,this]
 have hB3:(W0.setRow w.heap.size row1).heap.size=w.heap.size+1:=by rw[<-hA3'];simp[World.setRow]
 have hB4:(W0.setRow w.heap.size row1).os=w.os/\(W0.setRow w.heap.size row1).tape=w.tape/\(W0.setRow w.heap.size row1).output=w.output:=hA4';generalize W0.setRow w.heap.size row1=W1 at*;clear hA1' hA2' hA3' hA4' hcpA hrz hA1 hA2 hA3
 go_wp2
 have hD1:W1.drew.heap[w.heap.size]? =some (.cells row1 111 (0,0)):=hB1;have hD2:W1.drew.heap[b]? =some (.cells cur t (0,0)):=by rw[<-hg];exact hB2 b hbN
 go_region_law_o (refine step_copy_runI rfl _ _ 50 50 rfl (.slice (some ⟨w.heap.size,(i+m)*5,none⟩) (n+m - (i+m)) (G - (i+m))) (.slice (some ⟨b,i*5,none⟩) (n - i) (c - i)) (by simp[Act.eval,Act.put]) (by simp[Act.eval,Act.put]) (hcpB W1.drew hD1 hD2 3 (G - (i+m)) (c - i)) ?_)
 have hE1:(W1.drew.setRow w.heap.size row2).heap[w.heap.size]? =some (.cells row2 111 (0,0)):=setRow_heap W1.drew w.heap.size row1 row2 111 _ hD1;have hE2:∀x,x<w.heap.size->(W1.drew.setRow w.heap.size row2).heap[x]? =w.heap[x]? :=fun x hx=>by
  rw[<-hB2 x hx];have:w.heap.size≠x:=by omega
  simp[World.setRow,Array.getElem?_modify,this];rfl
 have hE3:(W1.drew.setRow w.heap.size row2).heap.size=w.heap.size+1:=by
  rw[<-hB3];show(W1.heap.modify _ _).size=_;rw[Array.size_modify]
 have hE4:(W1.drew.setRow w.heap.size row2).os=w.os/\(W1.drew.setRow w.heap.size row2).tape=w.tape/\(W1.drew.setRow w.heap.size row2).output=w.output:=hB4;generalize W1.drew.setRow w.heap.size row2=W2 at*;clear hD1 hD2 hB1 hB2 hB3 hB4 hcpB
 go_wp2
 go_ret
 exact⟨rfl,hE1,hE3,hE2,hE4⟩
set_option maxHeartbeats 4000000 in
set_option maxRecDepth 100000 in
theorem Mm(base:Option Addr)(n c vb voff m vc:Nat)(w w':World)(v':Value)(hm:0<m)(hnc:n<=c)(hlim:n<=lim)(hrun:(Builtin.append_ #[50,50] 50 #[.slice base n c,.slice (some ⟨vb,voff,none⟩) m vc]).run Tryz.prog w=.ok v' w'):
  Calls Tryz.prog 158 #[.slice base n c,.int .i64 n,.slice (some ⟨vb,voff,none⟩) m vc] w fun E W=>E=.returned v'/\W=w':=by
 have t3:=t3;have a3:=a3;have z3:=z3;have v3:=v3;have t4:=t4;have a4:=a4;have z4:=z4;have v4:=v4;have tS:=tS;have aS:=aS;have zS:=zS;have vS:=vS;have zE:=zE;have u3:=run_underlying t3;have u4:=run_underlying t4;have uS:=run_underlying tS;have hlim':n<=1073741824:=hlim;have hz1:¬((m:Int)=0):=by omega
 have mixed:Tryz.prog.follows .mixedOrders=true:=by kernel_rfl
 go_enter Tryz.func158,Tryz.f158
 cases base with
 |none=>
  go_wp2_with (at_builtin;refine Lib.wpList_append_run _ rfl _ _ _ _ rfl _ _ rfl rfl _ _ hrun ?_)
  all_goals (go_ret;exact⟨rfl,rfl⟩)
 |some a=>
  obtain⟨ab,ao,asp⟩:=a
  go_wp2_with (at_builtin;refine Lib.wpList_append_run _ rfl _ _ _ _ rfl _ _ rfl rfl _ _ hrun ?_)
  all_goals (go_ret;exact⟨rfl,rfl⟩)
end Go.Proofs.YtffecaafklpmhaaGreat
namespace Go.Proofs.YtffecaafklpmhaaGreat
open Go.Am Go.ChangeShapes Go.WideShapes Go.ChangeAt Go.RowKit
theorem Tryz.own:ownKnob Tryz.prog.godebug=none:=by kernel_rfl
theorem Tryz.zzp:laidOutB Tryz.prog=true:=by kernel_rfl
theorem Tryz.mixed:Tryz.prog.follows .mixedOrders=true:=by kernel_rfl
def prim:FuncId->Option Ys:=fun g=>bif Nat.beq 158 g then some (xl (some 5)) else(fun g=>bif Nat.beq 152 g then some J9 else(fun _=>none) g) g
theorem Mn:ja Tryz.prog 158 (xl (some 5)):=by
 have h:shOf Tryz.prog 111=some 5:=by kernel_rfl
 have k:=EC (P:=Tryz.prog) (f:=158) (c:=Tryz.f158.body.get (by kernel_rfl)) (t:=50) (e:=111) (by rw[h];exact⟨Mm,Mk,fun b n c i vb voff m vc cur t vs w hi hm hnc hr hl hvb hg hcs hvl h1 hvs h1v=>Ml b n c i vb voff m vc cur t vs w hi hm hnc hr hl hvb hg hcs hvl h1 hvs h1v (by kernel_rfl) (by kernel_rfl) (by kernel_rfl) (by rw[h];rfl)⟩) Tryz.func158 (by kernel_rfl) (by decide+kernel) (by kernel_rfl) (by kernel_rfl) (by kernel_rfl) (by kernel_rfl);rw[h] at k;exact k
theorem Mo:xL Tryz.prog prim:=UW Mn (UW (Et Tryz.func152 (by kernel_rfl) (by kernel_rfl) (by kernel_rfl) (by kernel_rfl)) Eu)
theorem sound:SoundO Tryz.prog (sem (find tab) prim):=Ep Tryz.mixed (Es Mi) Mo
def yes:Option (ARes × Heap)->Bool
 |some (.ret (.pv none (.bool true)),[])=>true
 |_=>false
end Go.Proofs.YtffecaafklpmhaaGreat
namespace Go.Proofs.YtffecaafklpmhaaGreat
open Go.Am
noncomputable abbrev Z:=sem (find tab) prim
noncomputable abbrev S:=sem (find tab) prim .fn
noncomputable abbrev L:=sloop (find tab) prim

theorem O0(i:Nat) (h:i<9223372036854775807):IntKind.i64.wrap ((i:Int)+1)=((i+1:Nat):Int):=by rw[zZ (by omega) (by omega)];omega
theorem Mp:∀(t:Tm) (hp:Heap) (r1 r2:Nat) (l:Nat),t.size<1000000000->l<1000000000->hp[r1]? =some (.box none (O8 ((l+1:Nat):Int)))->hp[r2]? =some (.box none (.func (.func 125) [] [.ptr r1 0,.ptr r2 0]))->
  S 125 [t.av,.ptr r1 0,.ptr r2 0] hp=some (.ret (.tuple []),hp.set r1 (.box none (O8 ((l+1 - t.size:Nat):Int)))):=by
 intro t
 induction t using Tm.zyR with
 |h t ih=>
  intro hp r1 r2 l ht hl h1 h2;have hr1:=Y9 h1;have hr2:=Y9 h2;have hne:r1≠r2:=by
   rintro rfl;rw[h1] at h2;cases h2
  have hts:=t.size_eq;have hlen:=Tm.zyN t.args;refine YR rfl rfl rfl rfl ?_;have e1:∀y x,(hp.set r1 y++[x])[r1]? =some y:=fun y x=>by rw[qZ (by simpa using hr1)];simp[hr1]
  have e2:∀y x,(hp.set r1 y++[x])[r2]? =some (.box none (.func (.func 125) [] [.ptr r1 0,.ptr r2 0])):=fun y x=>by rw[qZ (by simpa using hr2),Zy hne,h2]
  have e3:∀y x,(hp.set r1 y++[x])[hp.length]? =some x:=fun y x=>by simp
  have e4:∀y x z,(hp.set r1 y++[x]).set r1 z=hp.set r1 z++[x]:=fun y x z=>by rw[jh (by simpa using hr1)];simp
  have e5:(↑(l+1) - 1:Int)=((l+1 - (1+Tm.sizes (t.args.take 0)):Nat):Int):=by simp[Tm.sizes]
  have w1:IntKind.i64.wrap ((l+1:Nat) - 1:Int)=((l+1 - (1+Tm.sizes (t.args.take 0)):Nat):Int):=by rw[zZ (by omega) (by omega),e5]
  simp -dsimp -implicitDefEqProofs only[go_sem,seval,↓reduceIte,Tm.av,qZ hr1,h1,lN,jh hr1,w1];refine Yr (fun n st=>∃i:Nat,n=t.args.length - i/\i<=t.args.length/\st=⟨[(1,.ptr r1 0),(2,.ptr r2 0),(3,.ptr hp.length 0),(4,O8 i)],hp.set r1 (.box none (O8 ((l+1 - (1+Tm.sizes (t.args.take i)):Nat):Int)))++[.box (some 4) (.pv (some 4) t.pv)]⟩) ⟨0,rfl,Zg _,?_⟩ ?_
  ·simp -dsimp -implicitDefEqProofs only[go_sem,seval,↓reduceIte]
   try rfl
  ·rintro n st ⟨i,hn,hi,rfl⟩;by_cases h:i<t.args.length
   ·have hc:(i:Int)<(t.args.length:Int):=by omega
    obtain⟨u,hu⟩:∃u,t.args[i]? =some u:=⟨_,Zf h⟩;have hst:=Tm.zyV hu;have hum:=Zk hu;have husz:=Tm.zyQ hum;by_cases h0:0<((l+1 - (1+Tm.sizes (t.args.take i)):Nat):Int)
    ·obtain⟨l',hl'⟩:∃l':Nat,l+1 - (1+Tm.sizes (t.args.take i))=l'+1:=⟨l+1 - (1+Tm.sizes (t.args.take i)) - 1,by omega⟩;have hcall:=ih u hum (hp.set r1 (.box none (O8 ((l'+1:Nat):Int)))++[.box (some 4) (.pv (some 4) t.pv)]) r1 r2 l' (by omega) (by omega) (e1 _ _) (e2 _ _);rw[e4] at hcall;have e6:l'+1 - u.size=l+1 - (1+Tm.sizes (t.args.take (i+1))):=by omega
     have w2:=O0 i (by omega)
     rw[hl'] at h0 ⊢;simp -dsimp -implicitDefEqProofs only[go_sem,seval,↓reduceIte,e1,e2,e3,e4,zV,Tm.pvs_len,hc,h0,zY (Tm.pvs_get hu),show AV.pv (some 4) u.pv=u.av from rfl,hcall,e6,w2];refine⟨t.args.length - (i+1),by omega,i+1,rfl,by omega,?_⟩;rw[YW (by simp)]
    ·simp -dsimp -implicitDefEqProofs only[go_sem,seval,↓reduceIte,e1,e2,e3,e4,zV,Tm.pvs_len,hc,h0];rw[ZD (by simp)];have hle:Tm.sizes (t.args.take i)<=Tm.sizes t.args:=Tm.zyS _ _
     first|(congr 5;omega)|(congr 4;omega)|(congr 3;omega)|(congr 6;omega)|(congr 7;omega)
   ·have hc:¬(i:Int)<(t.args.length:Int):=by omega
    obtain rfl:i=t.args.length:=by omega
    simp -dsimp -implicitDefEqProofs only[go_sem,seval,↓reduceIte,e1,e2,e3,e4,zV,Tm.pvs_len,hc];rw[ZD (by simp),ZC,hts]

theorem kH(t:Tm)(hp:Heap)(h:t.size<1000000000):S 87 [t.av] hp=some (.ret (O8 ((min t.size 2001:Nat):Int)),hp):=by
 refine Yb rfl rfl rfl (Yd [(some 4,t.pv)]) rfl ?_;have hc:=Mp t [.box (some 4) (.pv (some 4) t.pv),.box none (O8 2001),.box none (.func (.func 125) [] [.ptr 1 0,.ptr 2 0])] 1 2 2000 h (by omega) rfl rfl;have w1:IntKind.i64.wrap (2001 - ((2000+1 - t.size:Nat):Int))=((min t.size 2001:Nat):Int):=by rw[zZ (by omega) (by omega)];omega
 simp only[Tm.av] at hc;simp -dsimp -implicitDefEqProofs only[go_sem,seval,↓reduceIte,Tm.av,LN (Zg _),hc,w1]

theorem Mq(t:Tm)(Q:AExit->St->Prop)(h:∀r,Q .normal ⟨(1,.ptr 0 0)::(3,O9 t.node)::r,[.box (some 4) (.pv (some 4) t.pv)]⟩):
  W Z L 0 c96k15 ⟨[(1,.ptr 0 0),(3,O9 false),(6,O8 t.kind)],[.box (some 4) (.pv (some 4) t.pv)]⟩ Q:=by
 (repeat' (first|(simp -dsimp -implicitDefEqProofs only[c96k15,go_sem,seval,↓reduceIte,Ya,Yh,Ye,zV,Tm.pvs_len, *])|(refine YI (fun _=> ?_) (fun _=> ?_))))
 all_goals (simp -dsimp -implicitDefEqProofs only[Tm.node,go_sem,seval,↓reduceIte, *] at h;exact h _)

theorem Mr:∀(t:Tm) (hp:Heap),t.size<1000000000->S 96 [t.av] hp=some (.ret (O9 t.fits),hp):=by
 intro t
 induction t using Tm.zyR with
 |h t ih=>
  intro hp ht;have hts:=t.size_eq;have hlen:=Tm.zyN t.args;refine Yb rfl rfl rfl (Yd [(some 4,t.pv)]) rfl ?_;simp -dsimp -dsimp -implicitDefEqProofs only[go_sem,seval,↓reduceIte,Ya,Yh,Ye,zV,Tm.pvs_len];refine Mq t _ (fun r=> ?_);simp -dsimp -dsimp -implicitDefEqProofs only[go_sem,seval,↓reduceIte,Ya,Yh,Ye,zV,Tm.pvs_len];refine Yr (fun n st=>∃i:Nat,n=t.args.length - i/\i<=t.args.length/\st=⟨[(1,.ptr 0 0),(3,O9 (t.node && Tm.fitsAll (t.args.take i))),(4,O8 i)],[.box (some 4) (.pv (some 4) t.pv)]⟩) (n:=t.args.length) ⟨0,rfl,Zg _,?_⟩ ?_
  ·simp -dsimp -implicitDefEqProofs only[go_sem,seval,↓reduceIte,Tm.fitsAll]
   try rfl
  ·rintro n st ⟨i,hn,hi,rfl⟩;by_cases h:i<t.args.length
   ·have hc:(i:Int)<(t.args.length:Int):=by omega
    obtain⟨u,hu⟩:∃u,t.args[i]? =some u:=⟨_,Zf h⟩;have hum:=Zk hu;have husz:=Tm.zyQ hum;have hcall:=fun hp=>ih u hum hp (by omega);have e6:Tm.fitsAll (t.args.take (i+1))=(Tm.fitsAll (t.args.take i) && u.fits):=Tm.zy8 hu;have w2:=O0 i (by omega)
    by_cases h0:(t.node && Tm.fitsAll (t.args.take i))=true
    ·simp -dsimp -dsimp -implicitDefEqProofs only[go_sem,seval,↓reduceIte,zV,Tm.pvs_len,hc,h0,zY (Tm.pvs_get hu),show AV.pv (some 4) u.pv=u.av from rfl,hcall,w2];refine⟨t.args.length - (i+1),by omega,i+1,rfl,by omega,?_⟩;rw[e6,<-Bool.and_assoc,h0,Bool.true_and]
    ·simp -dsimp -implicitDefEqProofs only[go_sem,seval,↓reduceIte,zV,Tm.pvs_len,hc,h0];rw[Tm.fits_eq];have hp:Tm.fitsAll t.args=(Tm.fitsAll (t.args.take i) && Tm.fitsAll (t.args.drop i)):=by rw[<-Tm.zy2,ZK]
     rw[hp,<-Bool.and_assoc,Bool.eq_false_iff.2 h0];rfl
   ·have hc:¬(i:Int)<(t.args.length:Int):=by omega
    obtain rfl:i=t.args.length:=by omega
    simp -dsimp -implicitDefEqProofs only[go_sem,seval,↓reduceIte,zV,Tm.pvs_len,hc];rw[Tm.fits_eq,ZC]

theorem yR(t:Tm)(hp:Heap)(h:t.size<1000000000):S 45 [t.av] hp=some (.ret (O9 t.valid),hp):=by
 refine Yb rfl rfl rfl (Yd [(some 4,t.pv)]) rfl ?_;have h1:=fun hp=>kH t hp h;have h2:=fun hp=>Mr t hp h;unfold Tm.valid;simp only[Tm.av] at h1 h2;by_cases hs:t.size<=2000
 ·have hc:((min t.size 2001:Nat):Int)<=2000:=by omega
  (repeat' (first|(simp -dsimp -implicitDefEqProofs only[go_sem,seval,↓reduceIte,Tm.av, *])|(refine YI (fun _=> ?_) (fun _=> ?_))))
 ·have hc:¬((min t.size 2001:Nat):Int)<=2000:=by omega
  (repeat' (first|(simp -dsimp -implicitDefEqProofs only[go_sem,seval,↓reduceIte,Tm.av, *])|(refine YI (fun _=> ?_) (fun _=> ?_))))

theorem Ms:∀(t:Tm) (hp:Heap) (m:Nat),t.size<1000000000->m<1000000000->S 129 [t.av,O8 ((m+1:Nat):Int)] hp=some (.ret (O8 ((min t.size (m+1):Nat):Int)),hp):=by
 intro t
 induction t using Tm.zyR with
 |h t ih=>
  intro hp m ht hm;have hts:=t.size_eq;have hlen:=Tm.zyN t.args;refine Yb rfl rfl rfl (Yd [(some 4,t.pv),(none,.int .i64 ((m+1:Nat):Int))]) rfl ?_;simp -dsimp -implicitDefEqProofs only[go_sem,seval,↓reduceIte,zV,Tm.pvs_len];refine Yr (fun n st=>∃i:Nat,n=t.args.length - i/\i<=t.args.length/\st=⟨[(1,O8 ((m+1:Nat):Int)),(2,.ptr 0 0),(5,O8 ((min (1+Tm.sizes (t.args.take i)) (m+1):Nat):Int)),(6,O8 i)],[.box (some 4) (.pv (some 4) t.pv)]⟩) (n:=t.args.length) ⟨0,rfl,Zg _,?_⟩ ?_
  ·simp -dsimp -implicitDefEqProofs only[go_sem,seval,↓reduceIte];rw[show min (1+Tm.sizes []) (m+1)=1 by simp[Tm.sizes]];rfl
  ·rintro n st ⟨i,hn,hi,rfl⟩;by_cases h:i<t.args.length
   ·have hc:(i:Int)<(t.args.length:Int):=by omega
    obtain⟨u,hu⟩:∃u,t.args[i]? =some u:=⟨_,Zf h⟩;have hst:=Tm.zyV hu;have hum:=Zk hu;have husz:=Tm.zyQ hum;have w2:=O0 i (by omega)
    by_cases h0:((min (1+Tm.sizes (t.args.take i)) (m+1):Nat):Int)<((m+1:Nat):Int)
    ·obtain⟨m',hm'⟩:∃m':Nat,m+1 - min (1+Tm.sizes (t.args.take i)) (m+1)=m'+1:=⟨m - min (1+Tm.sizes (t.args.take i)) (m+1),by omega⟩;have w3:IntKind.i64.wrap (((m+1:Nat):Int) - ((min (1+Tm.sizes (t.args.take i)) (m+1):Nat):Int))=((m'+1:Nat):Int):=by rw[zZ (by omega) (by omega)];omega
     have w4:IntKind.i64.wrap (((min (1+Tm.sizes (t.args.take i)) (m+1):Nat):Int)+((min u.size (m'+1):Nat):Int))=((min (1+Tm.sizes (t.args.take (i+1))) (m+1):Nat):Int):=by rw[zZ (by omega) (by omega)];omega
     have hcall:=fun hp=>ih u hum hp m' (by omega) (by omega);simp -dsimp -implicitDefEqProofs only[go_sem,seval,↓reduceIte,zV,Tm.pvs_len,hc,h0,zY (Tm.pvs_get hu),show AV.pv (some 4) u.pv=u.av from rfl,hcall,w2,w3,w4];exact⟨t.args.length - (i+1),by omega,i+1,rfl,by omega,rfl⟩
    ·simp -dsimp -implicitDefEqProofs only[go_sem,seval,↓reduceIte,zV,Tm.pvs_len,hc,h0];have hle:Tm.sizes (t.args.take i)<=Tm.sizes t.args:=Tm.zyS _ _
     first|(congr 3;omega)|(congr 2;omega)|(congr 1;omega)|(congr 4;omega)|(congr 5;omega)
   ·have hc:¬(i:Int)<(t.args.length:Int):=by omega
    obtain rfl:i=t.args.length:=by omega
    simp -dsimp -implicitDefEqProofs only[go_sem,seval,↓reduceIte,zV,Tm.pvs_len,hc];rw[ZC,hts]

theorem uW(t:Tm)(hp:Heap)(h:t.size<1000000000):S 93 [t.av] hp=some (.ret (O8 ((min t.size 2001:Nat):Int)),hp):=by
 refine Yb rfl rfl rfl (Yd [(some 4,t.pv)]) rfl ?_;have h1:=fun hp=>Ms t hp 2000 h (by omega);simp only[Tm.av] at h1;have e:(((2000+1:Nat):Int))=2001:=rfl;rw[e] at h1
 (repeat' (first|(simp -dsimp -implicitDefEqProofs only[go_sem,seval,↓reduceIte, *])|(refine YI (fun _=> ?_) (fun _=> ?_))))

theorem Mt(t:Tm)(hp:Heap):S 130 [t.av] hp=some (.ret (O9 t.node),hp):=by
 refine Yb rfl rfl rfl (Yd [(some 4,t.pv)]) rfl ?_
 (repeat' (first|(simp -dsimp -implicitDefEqProofs only[go_sem,seval,↓reduceIte,Ya,Yh,Ye,zV,Tm.pvs_len, *])|(refine YI (fun _=> ?_) (fun _=> ?_))))
 all_goals (simp only[Tm.node,show(0<(t.args.length:Int))=(1<=(t.args.length:Int)) from propext (by omega), *,Int.reduceEq,if_true,if_false,decide_true,decide_false,Bool.true_and,Bool.false_and,Bool.and_true])

theorem Mu:∀(t:Tm) (hp:Heap),t.size<1000000000->S 94 [t.av] hp=some (.ret (O9 t.fits),hp):=by
 intro t
 induction t using Tm.zyR with
 |h t ih=>
  intro hp ht;have hts:=t.size_eq;have hlen:=Tm.zyN t.args;refine Yb rfl rfl rfl (Yd [(some 4,t.pv)]) rfl ?_;have hnode:=Mt t;simp only[Tm.av] at hnode;by_cases hn:t.node=true
  ·rw[hn] at hnode;simp -dsimp -implicitDefEqProofs only[go_sem,seval,↓reduceIte,hnode,zV,Tm.pvs_len];refine Yr (fun n st=>∃i:Nat,n=t.args.length - i/\i<=t.args.length/\Tm.fitsAll (t.args.take i)=true/\st=⟨[(1,.ptr 0 0),(3,O8 i)],[.box (some 4) (.pv (some 4) t.pv)]⟩) (n:=t.args.length) ⟨0,rfl,Zg _,rfl,?_⟩ ?_
   ·simp -dsimp -implicitDefEqProofs only[go_sem,seval,↓reduceIte]
    try rfl
   ·rintro n st ⟨i,hn',hi,hf,rfl⟩;by_cases h:i<t.args.length
    ·have hc:(i:Int)<(t.args.length:Int):=by omega
     obtain⟨u,hu⟩:∃u,t.args[i]? =some u:=⟨_,Zf h⟩;have hum:=Zk hu;have husz:=Tm.zyQ hum;have hcall:=fun hp=>ih u hum hp (by omega);have e6:Tm.fitsAll (t.args.take (i+1))=(Tm.fitsAll (t.args.take i) && u.fits):=Tm.zy8 hu;have w2:=O0 i (by omega)
     by_cases h0:u.fits=true
     ·simp -dsimp -implicitDefEqProofs only[go_sem,seval,↓reduceIte,zV,Tm.pvs_len,hc,h0,zY (Tm.pvs_get hu),show AV.pv (some 4) u.pv=u.av from rfl,hcall,w2];exact⟨t.args.length - (i+1),by omega,i+1,rfl,by omega,by rw[e6,hf,h0];rfl,rfl⟩
     ·rw[Bool.not_eq_true] at h0;simp -dsimp -implicitDefEqProofs only[go_sem,seval,↓reduceIte,zV,Tm.pvs_len,hc,h0,zY (Tm.pvs_get hu),show AV.pv (some 4) u.pv=u.av from rfl,hcall,w2];rw[show t.fits=false from Bool.eq_false_iff.2 fun h=>by rw[Tm.zyP h hum] at h0;cases h0]
    ·have hc:¬(i:Int)<(t.args.length:Int):=by omega
     obtain rfl:i=t.args.length:=by omega
     rw[ZC] at hf;simp -dsimp -implicitDefEqProofs only[go_sem,seval,↓reduceIte,zV,Tm.pvs_len,hc];rw[Tm.fits_eq,hn,hf];rfl
  ·rw[Bool.not_eq_true] at hn;rw[hn] at hnode;simp -dsimp -implicitDefEqProofs only[go_sem,seval,↓reduceIte,hnode,zV,Tm.pvs_len];rw[Tm.fits_eq,hn];rfl

theorem yS(t:Tm)(hp:Heap)(h:t.size<1000000000):S 43 [t.av] hp=some (.ret (O9 t.valid),hp):=by
 refine Yb rfl rfl rfl (Yd [(some 4,t.pv)]) rfl ?_;have h1:=fun hp=>uW t hp h;have h2:=fun hp=>Mu t hp h;unfold Tm.valid;simp only[Tm.av] at h1 h2;by_cases hs:t.size<=2000
 ·have hc:((min t.size 2001:Nat):Int)<=2000:=by omega
  (repeat' (first|(simp -dsimp -implicitDefEqProofs only[go_sem,seval,↓reduceIte,Tm.av, *])|(refine YI (fun _=> ?_) (fun _=> ?_))))
 ·have hc:¬((min t.size 2001:Nat):Int)<=2000:=by omega
  (repeat' (first|(simp -dsimp -implicitDefEqProofs only[go_sem,seval,↓reduceIte,Tm.av, *])|(refine YI (fun _=> ?_) (fun _=> ?_))))
end Go.Proofs.YtffecaafklpmhaaGreat
namespace Go.Proofs.YtffecaafklpmhaaGreat
open Go.Am
theorem kI:∀(a b:Tm) (hp:Heap),a.size<1000000000->S 75 [a.av,b.av] hp=some (.ret (O9 (decide (a.cmp b=0))),hp):=by
 intro a
 induction a using Tm.zyR with
 |h a ih=>
  intro b hp ha;have hts:=a.size_eq;have hlen:=Tm.zyN a.args;refine Yb rfl rfl rfl (Yd [(some 4,a.pv),(some 4,b.pv)]) rfl ?_;by_cases hall:a.kind=b.kind/\a.n=b.n/\a.name=b.name/\a.args.length=b.args.length
  ·obtain⟨h1,h2,h3,h4⟩:=hall;have hz:a.cmp b=Tm.cmps a.args b.args:=by
    rw[Tm.zy3,h1,h2,h3,h4,xP,xP,xP,cb_zero.2 rfl];rfl
   rw[hz];simp -dsimp -implicitDefEqProofs only[c75b12,go_sem,seval,↓reduceIte,Ya,Yh,Ye,zV,Tm.pvs_len,h1,h2,h3,h4];refine Yr (fun n st=>∃i:Nat,n=a.args.length - i/\i<=a.args.length/\Tm.cmps a.args b.args=Tm.cmps (a.args.drop i) (b.args.drop i)/\st=⟨[(2,.ptr 0 0),(3,.ptr 1 0),(5,O8 i)],[.box (some 4) (.pv (some 4) a.pv),.box (some 4) (.pv (some 4) b.pv)]⟩) (n:=a.args.length) ⟨0,rfl,Zg _,rfl,?_⟩ ?_
   ·simp -dsimp -implicitDefEqProofs only[go_sem,seval,↓reduceIte]
    try rfl
   ·rintro n st ⟨i,hn,hi,he,rfl⟩;by_cases h:i<a.args.length
    ·have hc:(i:Int)<(a.args.length:Int):=by omega
     obtain⟨u,hu⟩:∃u,a.args[i]? =some u:=⟨_,Zf h⟩;obtain⟨w,hw⟩:∃w,b.args[i]? =some w:=⟨_,Zf (by omega)⟩;have hum:=Zk hu;have husz:=Tm.zyQ hum;have hcall:=fun hp=>ih u hum w hp (by omega);simp only[Tm.av] at hcall;have w2:=O0 i (by omega)
     rw[Tm.zy6 hu hw] at he;by_cases h0:u.cmp w=0
     ·rw[h0,q7] at he;simp -dsimp -implicitDefEqProofs only[c75b12,go_sem,seval,↓reduceIte,zV,Tm.pvs_len,hc,zY (Tm.pvs_get hu),zY (Tm.pvs_get hw),hcall,w2,h0];exact⟨a.args.length - (i+1),by omega,i+1,rfl,by omega,he,rfl⟩
     ·rw[q8 h0] at he;simp -dsimp -implicitDefEqProofs only[c75b12,go_sem,seval,↓reduceIte,zV,Tm.pvs_len,hc,zY (Tm.pvs_get hu),zY (Tm.pvs_get hw),hcall,w2,h0,he]
    ·have hc:¬(i:Int)<(a.args.length:Int):=by omega
     obtain rfl:i=a.args.length:=by omega
     rw[zh,Tm.zyY] at he;simp -dsimp -implicitDefEqProofs only[c75b12,go_sem,seval,↓reduceIte,zV,Tm.pvs_len,hc,he]
  ·have hz:¬a.cmp b=0:=fun h=>hall (by rw[Tm.cmp_zero.1 h];exact⟨rfl,rfl,rfl,rfl⟩)
   replace hall:=Kept.mk hall
   replace hts:=Kept.mk hts
   clear ih
   (repeat' (first|(simp -dsimp -implicitDefEqProofs only[go_sem,seval,↓reduceIte,Ya,Yh,Ye,zV,Tm.pvs_len, *])|(refine YI (fun _=> ?_) (fun _=> ?_))))
   exact absurd ⟨‹_›,‹_›,‹_›,by omega⟩ hall.out

def same(a b:Tm):Bool:=a.valid && (b.valid && decide (a.cmp b=0))
theorem uX(a b:Tm)(hp:Heap)(ha:a.size<1000000000)(hb:b.size<1000000000):S 27 [a.av,b.av] hp=some (.ret (O9 (same a b)),hp):=by
 refine Yb rfl rfl rfl (Yd [(some 4,a.pv),(some 4,b.pv)]) rfl ?_;have h1:=fun hp=>yS a hp ha;have h2:=fun hp=>yS b hp hb;have h3:=fun hp=>kI a b hp ha;simp only[Tm.av] at h1 h2 h3;unfold same;by_cases va:a.valid=true
 ·by_cases vb:b.valid=true
  ·(repeat' (first|(simp -dsimp -implicitDefEqProofs only[go_sem,seval,↓reduceIte, *])|(refine YI (fun _=> ?_) (fun _=> ?_))))
  ·(repeat' (first|(simp -dsimp -implicitDefEqProofs only[go_sem,seval,↓reduceIte, *])|(refine YI (fun _=> ?_) (fun _=> ?_))))
 ·(repeat' (first|(simp -dsimp -implicitDefEqProofs only[go_sem,seval,↓reduceIte, *])|(refine YI (fun _=> ?_) (fun _=> ?_))))

theorem uY:∀(a b:Tm) (hp:Heap),a.size<1000000000->S 84 [a.av,b.av] hp=some (.ret (O9 (decide (a.cmp b=0))),hp):=by
 intro a
 induction a using Tm.zyR with
 |h a ih=>
  intro b hp ha;have hts:=a.size_eq;have hlen:=Tm.zyN a.args;refine Yb rfl rfl rfl (Yd [(some 4,a.pv),(some 4,b.pv)]) rfl ?_;by_cases hall:a.kind=b.kind/\a.n=b.n/\a.name=b.name/\a.args.length=b.args.length
  ·obtain⟨h1,h2,h3,h4⟩:=hall;have hz:a.cmp b=Tm.cmps a.args b.args:=by
    rw[Tm.zy3,h1,h2,h3,h4,xP,xP,xP,cb_zero.2 rfl];rfl
   rw[hz];simp -dsimp -implicitDefEqProofs only[c84b13,go_sem,seval,↓reduceIte,Ya,Yh,Ye,zV,Tm.pvs_len,h1,h2,h3,h4];have hbl:(b.args.length:Int)=(a.args.length:Int):=by rw[h4]
   refine Yv (α:=Unit) a.args.length (fun i _=>Tm.cmps a.args b.args=Tm.cmps (a.args.drop i) (b.args.drop i)) (fun i _=>⟨[(3,.ptr 1 0),(36,.pv none (.sl (some 4) (Tm.pvs a.args))),(37,O8 b.args.length),(38,O8 i)],[.box (some 4) (.pv (some 4) a.pv),.box (some 4) (.pv (some 4) b.pv)]⟩) () ⟨rfl,rfl⟩ ?_ ?_
   ·rintro i - h he;have hc:(i:Int)<(b.args.length:Int):=by omega
    obtain⟨u,hu⟩:∃u,a.args[i]? =some u:=⟨_,Zf h⟩;obtain⟨w,hw⟩:∃w,b.args[i]? =some w:=⟨_,Zf (by omega)⟩;have hum:=Zk hu;have husz:=Tm.zyQ hum;have hcall:=fun hp=>ih u hum w hp (by omega);simp only[Tm.av] at hcall;have w2:=O0 i (by omega)
    rw[Tm.zy6 hu hw] at he;by_cases h0:u.cmp w=0
    ·rw[h0,q7] at he;simp -dsimp -implicitDefEqProofs only[c84b13,go_sem,seval,↓reduceIte,zV,Tm.pvs_len,hc,zY (Tm.pvs_get hu),zY (Tm.pvs_get hw),hcall,w2,h0];exact⟨(),he,rfl⟩
    ·rw[q8 h0] at he;simp -dsimp -implicitDefEqProofs only[c84b13,go_sem,seval,↓reduceIte,zV,Tm.pvs_len,hc,zY (Tm.pvs_get hu),zY (Tm.pvs_get hw),hcall,w2,h0,he]
   ·rintro - he;have hc:¬(a.args.length:Int)<(b.args.length:Int):=by omega
    rw[zh,Tm.zyY] at he;simp -dsimp -implicitDefEqProofs only[c84b13,go_sem,seval,↓reduceIte,zV,Tm.pvs_len,hc,he]
  ·have hz:¬a.cmp b=0:=fun h=>hall (by rw[Tm.cmp_zero.1 h];exact⟨rfl,rfl,rfl,rfl⟩)
   replace hall:=Kept.mk hall
   replace hts:=Kept.mk hts
   clear ih
   (repeat' (first|(simp -dsimp -implicitDefEqProofs only[go_sem,seval,↓reduceIte,Ya,Yh,Ye,zV,Tm.pvs_len, *])|(refine YI (fun _=> ?_) (fun _=> ?_))))
   exact absurd ⟨‹_›,‹_›,‹_›,by omega⟩ hall.out
theorem Mv(a b:Tm)(hp:Heap)(ha:a.size<1000000000)(hb:b.size<1000000000):S 46 [a.av,b.av] hp=some (.ret (O9 (same a b)),hp):=by
 refine Yb rfl rfl rfl (Yd [(some 4,a.pv),(some 4,b.pv)]) rfl ?_;have h1:=fun hp=>yR a hp ha;have h2:=fun hp=>yR b hp hb;have h3:=fun hp=>uY a b hp ha;simp only[Tm.av] at h1 h2 h3;unfold same;by_cases va:a.valid=true
 ·by_cases vb:b.valid=true
  ·(repeat' (first|(simp -dsimp -implicitDefEqProofs only[go_sem,seval,↓reduceIte, *])|(refine YI (fun _=> ?_) (fun _=> ?_))))
  ·(repeat' (first|(simp -dsimp -implicitDefEqProofs only[go_sem,seval,↓reduceIte, *])|(refine YI (fun _=> ?_) (fun _=> ?_))))
 ·(repeat' (first|(simp -dsimp -implicitDefEqProofs only[go_sem,seval,↓reduceIte, *])|(refine YI (fun _=> ?_) (fun _=> ?_))))
end Go.Proofs.YtffecaafklpmhaaGreat
namespace Go.Proofs.YtffecaafklpmhaaGreat
open Go.Am
theorem zW{α:Type}(l r:List α)(k:Nat):(l++r)[l.length+k]? =r[k]? :=by
 rw[zq (by omega)]
 congr 1
 omega
theorem z6{α:Type}(l r:List α):(l++r)[l.length]? =r[0]? :=zW l r 0
theorem z7{α:Type}(l r:List α)(k:Nat)(x:α):(l++r).set (l.length+k) x=l++r.set k x:=by
 rw[List.set_append_right _ _ (by omega)]
 congr 2
 omega
theorem z9{α:Type}(l r:List α)(x:α):(l++r).set l.length x=l++r.set 0 x:=z7 l r 0 x
theorem Mw(t:Tm)(hp:Heap):S 89 [t.av] hp=some (.ret t.av,hp):=by
 refine Yb rfl rfl rfl (Yd [(some 4,t.pv)]) rfl ?_
 (repeat' (first|(simp -dsimp -implicitDefEqProofs only[go_sem,seval,↓reduceIte,Tm.av, *])|(refine YI (fun _=> ?_) (fun _=> ?_))))

theorem Y0(s s0:Sh)(r v o n:Nat)(l:List (Sh × AV))(hp:Heap):Yu ((s,.sl s0 r v o n)::l) hp=Q9 (s,.sl s0 r v o n) (Yu l hp):=rfl
theorem O3:∀l hp,AV.freeze (7+1) (.agg l) hp=match AV.freeze.go 7 l hp with|some (ps,hp')=>some (.agg ps,hp')|none=>none:=fun _ _=>rfl
theorem Mx{hp:Heap}{r:Nat}(t:Tm)(h:hp[r]? =some (.arr (some 4) (Tm.pvs t.args) false)):Am.frozen t.av (.agg [(none,O8 t.kind),(none,O8 t.n),(none,Oh t.name),(none,.sl (some 4) r t.args.length 0 t.args.length)]) hp:=by
 refine⟨hp.set r (.arr (some 4) (Tm.pvs t.args) true),?_⟩;cases t with
 |mk k n s ts=>
  show(match AV.freeze (7+1) (.agg _) hp with|some (p,hp')=>some (AV.pv _ p,hp')|none=>none)=_;have e:=O3
  simp only[Tm.args] at h;simp[e,AV.freeze.go,AV.freeze,h,Tm.kind,Tm.n,Tm.name,Tm.args,Tm.pvs_len,Tm.av,Tm.pv];rfl

theorem qh{Γ:Oracle}{b:Nat}{vs:List AV}{hp:Heap}{K:AV->Heap->Prop}{Kp:PV->Heap->Prop}(sh:Sh)(n:Nat):opK (aOp Γ b (.bslicen sh n) vs hp) K Kp=YV (yp sh hp (vs.drop n)) (fun v hp'=>(vs.take n).all (yC hp hp')=true/\K v hp'):=by
 simp only[aOp,qB];cases yp sh hp (vs.drop n) with
 |none=>rfl
 |some r=>
  obtain⟨v,hp'⟩:=r;simp only[opK,YV];split
  ·rename_i h;split at h
   ·cases h;simp[*]
   ·cases h
  ·rename_i h;split at h <;> cases h
  ·rename_i h;split at h
   ·cases h
   ·simp[*]
def appH(n:Nat)(t:Tm)(i:Nat):Heap:=[.box (some 4) (.pv (some 4) t.pv),.box (some 4) (.agg [(none,O8 0),(none,O8 0),(none,Oh []),(none,.sl (some 4) (n+2) 0 0 0)]),.arr (some 4) [] false,.box (some 4) (.agg [(none,O8 t.kind),(none,O8 t.n),(none,Oh t.name),(none,.sl (some 4) (n+5) i 0 i)]),.arr (some 4) [] false,.arr (some 4) (Tm.pvs (t.args.take i)) false]
theorem kJ{hp hp':Heap}{r o q i:Nat}{t:Tm}(h:hp[r]? =some (.box (some 4) (.agg [(none,O8 t.kind),(none,O8 t.n),(none,Oh t.name),(none,.sl (some 4) q i 0 i)])))(h':hp'[r]? =some (.box (some 4) (.agg [(none,O8 t.kind),(none,O8 t.n),(none,Oh t.name),(none,.sl (some 4) q i 0 i)]))):yC hp hp' (.ptr r o)=true:=by
 simp[yC,h,h',AObj.beq,AV.beq,AV.beqc,PV.beq]
theorem My:∀(t:Tm) (hp:Heap),t.fits=true->t.size<1000000000->∃v e,S 88 [t.av,.pv none (.func (.func 89))] hp=some (.ret v,hp++e)/\v.shp=some 4/\v.plain=true/\(∀H,v.own H=(v,H))/\(∃e2,AV.freeze deep v (hp++e)=some (t.pv,hp++e2))/\∀H:Heap,(∀j,hp.length<=j->H[j]? =(hp++e)[j]?)->∃H2,AV.freeze deep v H=some (t.pv,H2):=by
 intro t
 induction t using Tm.zyR with
 |h t ih=>
  intro hp hf ht;have hts:=t.size_eq;have hlen:=Tm.zyN t.args;have h1:=fun hp=>Mw t hp;simp only[Tm.av] at h1;by_cases hk:t.kind=0
  ·refine⟨t.av,[],?_,rfl,rfl,fun _=>rfl,⟨[],rfl⟩,fun H _=>⟨H,rfl⟩⟩;rw[ZF];refine YR rfl rfl rfl rfl ?_;have hk':=Zj hk;simp -dsimp -implicitDefEqProofs only[go_sem,seval,↓reduceIte,Tm.av,Ya,hk',h1,Zd,zW,z6,z7,z9,Zh,Zc];simp only[AV.refsIn,List.all_nil,if_true];exact zj
  ·refine⟨.agg [(none,O8 t.kind),(none,O8 t.n),(none,Oh t.name),(none,.sl (some 4) (hp.length+5) t.args.length 0 t.args.length)],
    [.box (some 4) (.pv (some 4) t.pv),.box (some 4) (.agg [(none,O8 t.kind),(none,O8 t.n),(none,Oh t.name),(none,.sl (some 4) (hp.length+5) t.args.length 0 t.args.length)]),.arr (some 4) [] false,.box (some 4) (.agg [(none,O8 t.kind),(none,O8 t.n),(none,Oh t.name),(none,.sl (some 4) (hp.length+5) t.args.length 0 t.args.length)]),.arr (some 4) [] false,.arr (some 4) (Tm.pvs t.args) false],?_,rfl,rfl,fun _=>rfl,?_,?_⟩
   ·refine YR rfl rfl rfl rfl ?_;have hk':=Zl hk;have hb:Ym A0 [0,1,2] [O8 t.kind,O8 t.n,Oh t.name]=some (.agg [(none,O8 t.kind),(none,O8 t.n),(none,Oh t.name),(none,.tsl (some 4) [])]):=rfl;simp -dsimp -implicitDefEqProofs only[go_sem,seval,↓reduceIte,Tm.av,Ya,Yh,Ye,zV,hk',Tm.pvs_len,hb,Yc (ZA _ _),Zd,zW,z6,z7,z9,Zh,Zc];refine Yv (α:=Unit) t.args.length (fun _ _=>True) (fun i _=>⟨[(1,.pv none (.func (.func 89))),(4,.ptr (hp.length+1) 0),(5,.ptr (hp.length+3) 0),(22,.pv none (.sl (some 4) (Tm.pvs t.args))),(23,O8 t.args.length),(24,O8 i)],hp++appH hp.length t i⟩) () ⟨trivial,rfl⟩ ?_ ?_
    ·rintro i - h -;have hc:(i:Int)<(t.args.length:Int):=by omega
     obtain⟨u,hu⟩:∃u,t.args[i]? =some u:=⟨_,Zf h⟩;have hum:=Zk hu;have husz:=Tm.zyQ hum;obtain⟨v,e,hcall,hvs,_,_,⟨e2,hfz⟩,_⟩:=ih u hum (hp++(appH hp.length t i++[.box (some 4) (.pv (some 4) u.pv),.arr (some 4) [] false])) (Tm.zyP hf hum) (by omega);have w2:=O0 i (by omega)
     have hl:(Tm.pvs (t.args.take i)).length=i:=by rw[Tm.pvs_len,Zn];omega
     have hlim:i+1<=lim:=by unfold lim;omega
     have hbs:yp (some 4) (hp++(appH hp.length t i++[.box (some 4) (.pv (some 4) u.pv),.arr (some 4) [] false])++e) [v]=some (.tsl (some 4) [u.pv],hp++(appH hp.length t i++[.box (some 4) (.pv (some 4) u.pv),.arr (some 4) [] false])++e2):=by
      simp only[yp,Yi,hfz,hvs,yf,if_true]
     simp only[Tm.av] at hcall;have hs1:∀e e':Heap,yC (hp++(appH hp.length t i++e)) (hp++(appH hp.length t i++e')) (.ptr (hp.length+3) 3)=true:=fun e e'=>kJ (t:=t) (q:=hp.length+5) (i:=i) (by rw[zW];rfl) (by rw[zW];rfl);simp only[appH,Zd,Zw,ZE] at hcall hbs hs1;simp -dsimp -implicitDefEqProofs only[go_sem,seval,↓reduceIte,appH,hc,zY (Tm.pvs_get hu),qh,ZZ,zA,List.all_cons,List.all_nil,hcall,hbs,hs1,w2,hl,hlim,Tm.zyT hu,Yc (ZA _ _),yF (ZA _ _),Zd,zW,z6,z7,z9,Zh,Zc];refine⟨(),?_⟩;rw[Xd 6 rfl rfl (by simp[AObj.refs,AV.ofComps,pures,AV.refsIn,AV.refsIn.go]) (by simp[AV.refsIn,AV.refsIn.gol])];rfl
    ·rintro - -;have hc:¬(t.args.length:Int)<(t.args.length:Int):=by omega
     simp -dsimp -implicitDefEqProofs only[go_sem,seval,↓reduceIte,appH,hc,ZC,Y0,Yc (ZA _ _),yF (ZA _ _),Zd,zW,z6,z7,z9,Zh,Zc];rw[Za (by simp[AV.refsIn,AV.refsIn.go])]
   ·have e:=O3
    cases t with
    |mk k n s ts=>
     refine⟨[.box (some 4) (.pv (some 4) (Tm.mk k n s ts).pv),.box (some 4) (.agg [(none,O8 k),(none,O8 n),(none,Oh s),(none,.sl (some 4) (hp.length+5) ts.length 0 ts.length)]),.arr (some 4) [] false,.box (some 4) (.agg [(none,O8 k),(none,O8 n),(none,Oh s),(none,.sl (some 4) (hp.length+5) ts.length 0 ts.length)]),.arr (some 4) [] false,.arr (some 4) (Tm.pvs ts) true],?_⟩;show AV.freeze (7+1) (.agg _) _=_;simp[e,AV.freeze.go,AV.freeze,zW,Tm.kind,Tm.n,Tm.name,Tm.args,Tm.pvs_len,Tm.pv]
   ·intro H hH;have h5:=hH (hp.length+5) (by omega);rw[zW] at h5;have e:=O3
    cases t with
    |mk k n s ts=>
     refine⟨H.set (hp.length+5) (.arr (some 4) (Tm.pvs ts) true),?_⟩;show AV.freeze (7+1) (.agg _) _=_;simp only[Tm.args,List.getElem?_cons_succ,zQ] at h5;simp[e,AV.freeze.go,AV.freeze,h5,Tm.kind,Tm.n,Tm.name,Tm.args,Tm.pvs_len,Tm.pv]
theorem Tm.valid_fits{t:Tm}(h:t.valid=true):t.fits=true:=by
 unfold Tm.valid at h;simp only[Zm] at h;exact h.2
theorem uZ{t:Tm}{v:AV}{H H2:Heap}(h1:v.shp=some 4)(h2:v.plain=true)(h3:AV.freeze deep v H=some (t.pv,H2)):Am.frozen t.av v H:=by
 refine⟨H2,?_⟩;cases v <;> first|(cases h2;done)|(simp only[AV.freezeRes,h3,h1];rfl)
theorem XU(t:Tm)(hp:Heap)(hv:t.valid=true)(ht:t.size<1000000000):S 38 [t.av] hp=some (.ret t.av,hp):=by
 refine Yb rfl rfl rfl (Yd [(some 4,t.pv)]) rfl ?_;have h1:=fun hp=>yR t hp ht;obtain⟨v,e,h2,h3,h4,h5,_,h6⟩:=My t [.box (some 4) (.pv (some 4) t.pv),.box (some 4) (.agg [(none,O8 0),(none,O8 0),(none,Oh []),(none,.sl (some 4) 2 0 0 0)]),.arr (some 4) [] false] (Tm.valid_fits hv) ht;have hst:Yw (some 4) 0 ([.box (some 4) (.pv (some 4) t.pv),.box (some 4) (.agg [(none,O8 0),(none,O8 0),(none,Oh []),(none,.sl (some 4) 2 0 0 0)]),.arr (some 4) [] false]++e) [.ptr 1 0,v]=some (.undef,[.box (some 4) (.pv (some 4) t.pv),.box (some 4) v,.arr (some 4) [] false]++e):=by
  simp[Yw,astore,h3,h4,h5]
 have hfz:=fun(H:Heap) (hH:∀j,3<=j->H[j]? =_)=>(h6 H hH).elim fun H2 k=>uZ h3 h4 k;have hfr:Am.frozen t.av v ([.box (some 4) (.pv (some 4) t.pv),.box (some 4) v,.arr (some 4) [] false]++e):=by
  refine hfz _ fun j hj=> ?_
  match j,hj with
  |j+3,_=>rfl
 rw[hv] at h1;simp only[Tm.av,Zw,ZE] at h1 h2 hst;simp -dsimp -implicitDefEqProofs only[go_sem,seval,↓reduceIte,Tm.av,h1,h2,hst,Yc (Zg _)];exact hfr
end Go.Proofs.YtffecaafklpmhaaGreat
namespace Go.Proofs.YtffecaafklpmhaaGreat
open Go.Am
theorem kK:∀(t:Tm) (hp:Heap),t.size<1000000000->S 103 [t.av] hp=some (.ret t.av,hp):=by
 intro t
 induction t using Tm.zyR with
 |h t ih=>
  intro hp ht;have hts:=t.size_eq;have hlen:=Tm.zyN t.args;refine Yb rfl rfl rfl (Yd [(some 4,t.pv)]) rfl ?_;have hb:Ym A0 [0,1,2] [O8 t.kind,O8 t.n,Oh t.name]=some (.agg [(none,O8 t.kind),(none,O8 t.n),(none,Oh t.name),(none,.tsl (some 4) [])]):=rfl;simp -dsimp -implicitDefEqProofs only[go_sem,seval,↓reduceIte,Tm.av,Ya,Yh,Ye,zV,Tm.pvs_len,hb,Yc (Zg _)];refine Yv (α:=Unit) t.args.length (fun _ _=>True) (fun i _=>⟨[(1,.ptr 0 0),(2,.ptr 1 0),(3,.ptr 3 0),(4,O8 i)],appH 0 t i⟩) () ⟨trivial,rfl⟩ ?_ ?_
  ·rintro i - h -;have hc:(i:Int)<(t.args.length:Int):=by omega
   obtain⟨u,hu⟩:∃u,t.args[i]? =some u:=⟨_,Zf h⟩;have hum:=Zk hu;have husz:=Tm.zyQ hum;have hcall:=fun hp=>ih u hum hp (by omega);simp only[Tm.av] at hcall;have w2:=O0 i (by omega)
   have hl:(Tm.pvs (t.args.take i)).length=i:=by rw[Tm.pvs_len,Zn];omega
   have hlim:i+1<=lim:=by unfold lim;omega
   simp -dsimp -implicitDefEqProofs only[go_sem,seval,↓reduceIte,appH,zV,Tm.pvs_len,hc,zY (Tm.pvs_get hu),hcall,w2,hl,hlim,Tm.zyT hu,Yc (Zg _),yF (Zg _)];exact⟨(),rfl⟩
  ·rintro - -;have hc:¬(t.args.length:Int)<(t.args.length:Int):=by omega
   simp -dsimp -implicitDefEqProofs only[go_sem,seval,↓reduceIte,appH,zV,Tm.pvs_len,hc,ZC,Y0,Yc (Zg _),yF (Zg _)];exact Mx t rfl
theorem kL(t:Tm)(hp:Heap)(hv:t.valid=true)(ht:t.size<1000000000):S 58 [t.av] hp=some (.ret t.av,hp):=by
 refine Yb rfl rfl rfl (Yd [(some 4,t.pv)]) rfl ?_;have h1:=fun hp=>yS t hp ht;have h2:=fun hp=>kK t hp ht;rw[hv] at h1;simp only[Tm.av] at h1 h2;simp -dsimp -implicitDefEqProofs only[go_sem,seval,↓reduceIte,Tm.av,h1,h2,Yc (Zg _)]
end Go.Proofs.YtffecaafklpmhaaGreat
namespace Go.Proofs.YtffecaafklpmhaaGreat
open Go.Am
abbrev B:=Int × Tm
def bdp(b:B):PV:=.agg [(none,.int .i64 b.1),(some 4,b.2.pv)]
def bds(l:List B):List PV:=l.map bdp
theorem Yk(l:List B):(bds l).length=l.length:=by simp[bds]
theorem Yx{l:List B}{i:Nat}{b:B}(h:l[i]? =some b):(bds l)[i]? =some (bdp b):=by simp[bds,h]
theorem Y3(b:B):PV.part deep (bdp b) 0 none=some (.int .i64 b.1):=rfl
theorem yY(b:B):PV.part deep (bdp b) 1 (some 4)=some b.2.pv:=rfl
def Srt'(l:List B):Prop:=l.Pairwise (fun a b=>a.1<b.1)
def lbB(l:List B)(v:Int):Nat:=(l.takeWhile (fun b=>decide (b.1<v))).length
def fndB(l:List B)(v:Int):Bool:=match l[lbB l v]? with
 |some b=>decide (b.1=v)
 |none=>false
theorem xo(l:List B)(v:Int):lbB l v<=l.length:=(List.takeWhile_sublist _).length_le
theorem QD{v:Int}:∀{l:List B},Srt' l->∀{k:Nat} {x:B},l[k]? =some x->(x.1<v↔k<lbB l v)
 |[],_,k,x,h=>by simp at h
 |y::r,hs,k,x,h=>by
  obtain⟨h1,h2⟩:=zN.1 hs;unfold lbB;by_cases hy:y.1<v
  ·rw[List.takeWhile_cons_of_pos (by simpa using hy)];cases k with
   |zero=>simp at h;subst h;simp[hy]
   |succ k=>
    have:=QD (v:=v) h2 (k:=k) (x:=x) (by simpa using h);rw[this];simp[lbB]
  ·rw[List.takeWhile_cons_of_neg (by simpa using hy)];cases k with
   |zero=>simp at h;subst h;simp[hy]
   |succ k=>
    have hm:x∈r:=Zk (by simpa using h);have:=h1 x hm;simp;omega
theorem Mz(hp:Heap)(x:Int):S 140 [O8 x] hp=some (.ret (O9 false),hp):=by
 refine Yb rfl rfl rfl (Yd [(none,.int .i64 x)]) rfl ?_
 (repeat' (first|(simp -dsimp -implicitDefEqProofs only[go_sem,seval,↓reduceIte, *])|(refine YI (fun _=> ?_) (fun _=> ?_))))
theorem u5(hp:Heap)(x y:Int):S 117 [O8 x,O8 y] hp=some (.ret (O8 (cmpI x y)),hp):=by
 refine Yb rfl rfl rfl (Yd [(none,.int .i64 x),(none,.int .i64 y)]) rfl ?_
 (repeat' (first|(simp -dsimp -implicitDefEqProofs only[go_sem,seval,↓reduceIte,Mz,cmpI, *])|(refine YI (fun _=> ?_) (fun _=> ?_))))
theorem MA(hp:Heap)(b:B)(v:Int):S 160 [.pv (some 5) (bdp b),O8 v] hp=some (.ret (O8 (cmpI b.1 v)),hp):=by
 refine Yb rfl rfl rfl (Yd [(some 5,bdp b),(none,.int .i64 v)]) rfl ?_;have h:=fun hp=>u5 hp b.1 v
 (repeat' (first|(simp -dsimp -implicitDefEqProofs only[go_sem,seval,↓reduceIte,Y3, *])|(refine YI (fun _=> ?_) (fun _=> ?_))))
theorem cmpI_lt{x y:Int}:cmpI x y<0↔x<y:=by
 unfold cmpI;split
 ·simp[*]
 ·split
  ·simp[*]
  ·simp[*]
theorem MB(l:List B)(v:Int)(hs:Srt' l)(hl:l.length<1000000000)(hp:Heap):
  S 159 [.pv none (.sl (some 5) (bds l)),O8 v,.pv none (.func (.func 160))] hp=some (.ret (.tuple [O8 (lbB l v:Int),O9 (fndB l v)]),hp):=by
 refine Yb rfl rfl rfl (Yd [(none,.sl (some 5) (bds l)),(none,.int .i64 v),(none,.func (.func 160))]) rfl ?_;have hlb:=xo l v;have hcall:=fun(b:B) hp=>MA hp b v;simp -dsimp -implicitDefEqProofs only[go_sem,seval,↓reduceIte,Yk];refine Yr (fun n st=>∃i j:Nat,n=j - i/\i<=lbB l v/\lbB l v<=j/\j<=l.length/\st=⟨[(0,.pv none (.sl (some 5) (bds l))),(1,O8 v),(2,.pv none (.func (.func 160))),(8,O8 (l.length:Int)),(9,O8 i),(10,O8 j)],[]⟩) (n:=l.length) ⟨0,l.length,by omega,by omega,hlb,by omega,?_⟩ ?_
 ·simp -dsimp -implicitDefEqProofs only[go_sem,seval,↓reduceIte]
  try rfl
 ·rintro n st ⟨i,j,hn,h1,h2,h3,rfl⟩;by_cases hij:i<j
  ·have hc:(i:Int)<(j:Int):=by omega
   obtain⟨x,hx⟩:∃x,l[(i+j) / 2]? =some x:=⟨_,Zf (by omega)⟩;have hsp:=QD (v:=v) hs hx;have w1:IntKind.i64.wrap ((i:Int)+(j:Int))=((i+j:Nat):Int):=by rw[zZ (by omega) (by omega)];omega
   have w2:IntKind.u64.wrap ((i+j:Nat):Int)=((i+j:Nat):Int):=qY (by omega) (by omega);have w3:IntKind.i64.wrap (((i+j:Nat):Int) / 2)=(((i+j) / 2:Nat):Int):=by rw[zZ (by omega) (by omega)];omega
   have w4:IntKind.i64.wrap ((((i+j) / 2:Nat):Int)+1)=(((i+j) / 2+1:Nat):Int):=by rw[zZ (by omega) (by omega)];omega
   by_cases h0:cmpI x.1 v<0
   ·simp -dsimp -implicitDefEqProofs only[go_sem,seval,↓reduceIte,Yk,hc,X7 (show 0<IntKind.bits .u64 by decide),w1,w2,w3,w4,zY (Yx hx),hcall,h0];refine⟨j - ((i+j) / 2+1),by omega,(i+j) / 2+1,j,rfl,?_,h2,h3,rfl⟩;have:=hsp.1 (cmpI_lt.1 h0);omega
   ·simp -dsimp -implicitDefEqProofs only[go_sem,seval,↓reduceIte,Yk,hc,X7 (show 0<IntKind.bits .u64 by decide),w1,w2,w3,w4,zY (Yx hx),hcall,h0];refine⟨(i+j) / 2 - i,by omega,i,(i+j) / 2,rfl,h1,?_,by omega,rfl⟩;have:¬(i+j) / 2<lbB l v:=fun h=>h0 (cmpI_lt.2 (hsp.2 h));omega
  ·have hc:¬(i:Int)<(j:Int):=by omega
   obtain rfl:i=lbB l v:=by omega
   by_cases hll:lbB l v<l.length
   ·have hc2:((lbB l v:Nat):Int)<(l.length:Int):=by omega
    obtain⟨x,hx⟩:∃x,l[lbB l v]? =some x:=⟨_,Zf hll⟩;have hf:fndB l v=decide (cmpI x.1 v=0):=by unfold fndB;rw[hx];simp[cmpI_zero]
    simp -dsimp -implicitDefEqProofs only[go_sem,seval,↓reduceIte,Yk,hc,hc2,zY (Yx hx),hcall,hf]
   ·have hc2:¬((lbB l v:Nat):Int)<(l.length:Int):=by omega
    have hf:fndB l v=false:=by unfold fndB;rw[Z3 (by omega)]
    simp -dsimp -implicitDefEqProofs only[go_sem,seval,↓reduceIte,Yk,hc,hc2,hf]
theorem jq(l:List B)(v:Int)(hs:Srt' l)(hl:l.length<1000000000)(hp:Heap):
  S 154 [.pv none (.sl (some 5) (bds l)),O8 v] hp=some (.ret (.tuple [O8 (lbB l v:Int),O9 (fndB l v)]),hp):=by
 refine Yb rfl rfl rfl (Yd [(none,.sl (some 5) (bds l)),(none,.int .i64 v)]) rfl ?_;have h:=MB l v hs hl;simp -dsimp -implicitDefEqProofs only[go_sem,seval,↓reduceIte,h]
def IsB(s:AV)(hp:Heap)(l:List B):Prop:=(s=.tsl (some 5) []/\l=[])\/∃r,s=.sl (some 5) r l.length 0 l.length/\hp[r]? =some (.arr (some 5) (bds l) false)
theorem IsB.freeze{s:AV}{hp:Heap}{l:List B}(h:IsB s hp l):∃hp1,AV.freeze deep s hp=some (.sl (some 5) (bds l),hp1)/\s.shp=none/\s.plain=true:=by
 rcases h with⟨rfl,rfl⟩|⟨r,rfl,h⟩
 ·exact⟨hp,rfl,rfl,rfl⟩
 ·exact⟨hp.set r (.arr (some 5) (bds l) true),by simp[AV.freeze,deep,h,Yk],rfl,rfl⟩
theorem kM{s:AV}{hp:Heap}{l:List B}(h:IsB s hp l)(v:Int)(hs:Srt' l)(hl:l.length<1000000000):
  S 154 [s,O8 v] hp=some (.ret (.tuple [O8 (lbB l v:Int),O9 (fndB l v)]),hp):=by
 obtain⟨hp1,h1,h2,_⟩:=h.freeze;have:=yG (F:=find tab) (prim:=prim) (f:=154) (args:=[s,O8 v]) (ps:=[(none,.sl (some 5) (bds l)),(none,.int .i64 v)]) (hp:=hp) (hp1:=hp1) rfl rfl rfl (by
  have e:∀H:Heap,AV.freeze deep (O8 v) H=some (.int .i64 v,H):=fun _=>rfl;simp only[Yi,h1,e,h2];rfl) (jq l v hs hl [])
 exact this
end Go.Proofs.YtffecaafklpmhaaGreat
namespace Go.Proofs.YtffecaafklpmhaaGreat
open Go.Am
def insB(l:List B)(v:Int)(t:Tm):List B:=l.take (lbB l v)++[(v,t)]++l.drop (lbB l v)
theorem qi(l:List B)(v:Int)(t:Tm):(insB l v t).length=l.length+1:=by
 have:=xo l v;simp[insB];omega
theorem MC(l:List B)(v:Int)(t:Tm):bds (insB l v t)=(bds l).take (lbB l v)++[bdp (v,t)]++(bds l).drop (lbB l v):=by
 simp[bds,insB,List.map_take,List.map_drop]
def Pres(s:AV)(hp hp':Heap):Prop:=hp.length<=hp'.length/\∀(i:Nat) (x:AObj),hp[i]? =some x->(∀v o n,s≠.sl (some 5) i v o n)->hp'[i]? =some x
theorem Pres.refl(s:AV)(hp:Heap):Pres s hp hp:=⟨Zi _,fun _ _ h _=>h⟩
theorem u6{s:AV}{H:Heap}{l:List B}(h:IsB s H l)(v:Int)(t:Tm)(hl:l.length+1<1000000000):
  ∃s' H',S 158 [s,O8 (lbB l v:Int),.tsl (some 5) [bdp (v,t)]] H=some (.ret s',H')/\IsB s' H' (insB l v t)/\Pres s H H'/\((∃r n,s=.sl (some 5) r n 0 n/\s'=.sl (some 5) r (l.length+1) 0 (l.length+1)/\H'=H.set r (.arr (some 5) (bds (insB l v t)) false))\/(s=.tsl (some 5) []/\s'=.sl (some 5) H.length 1 0 1/\H'=H++[.arr (some 5) (bds (insB l v t)) false])):=by
 have hlb:=xo l v;have hlen:=qi l v t;rcases h with⟨rfl,rfl⟩|⟨r,rfl,hr⟩
 ·refine⟨.sl (some 5) H.length 1 0 1,H++[.arr (some 5) [bdp (v,t)] false],?_,.inr ⟨H.length,rfl,by simp[bds,insB,lbB]⟩,⟨by simp,fun i x hx _=>by rw[Zx (Y9 hx)];exact hx⟩,.inr ⟨rfl,rfl,by simp[bds,insB,lbB]⟩⟩;rw[S,ko (F:=find tab) (prim:=prim) (p:=xl (some 5)) rfl];simp[xl,lbB,YN,aappend,elems,lim]
 ·refine⟨.sl (some 5) r (l.length+1) 0 (l.length+1),H.set r (.arr (some 5) (bds (insB l v t)) false),?_,.inr ⟨r,by rw[hlen],by rw[ZG (Y9 hr)]⟩,⟨by simp,fun i x hx hne=> ?_⟩,.inl ⟨r,_,rfl,rfl,rfl⟩⟩
  ·rw[S,ko (F:=find tab) (prim:=prim) (p:=xl (some 5)) rfl,MC];by_cases he:lbB l v=l.length
   ·have e1:(bds l).take (lbB l v)=bds l:=by rw[he,<-Yk l,ZC]
    have e2:(bds l).drop (lbB l v)=[]:=by rw[he,<-Yk l,zh]
    have h3:l.length<=lim:=by unfold lim;omega
    have h4:l.length+1<=lim:=by unfold lim;omega
    rw[e1,e2];simp[xl,he,h3,YN,aappend,elems,hr,h4,Yk]
   ·have h3:((lbB l v:Nat):Int)≠(l.length:Int):=by omega
    have h4:lbB l v<l.length:=by omega
    have h5:l.length+1<=lim:=by unfold lim;omega
    simp[xl,he,hr,Yk,h4,h5];intro e;exact absurd e h3
  ·have:i≠r:=fun e=>hne _ _ _ (by rw[e]);rw[Zy (Ne.symm this)];exact hx
theorem IsB.more{s:AV}{hp:Heap}{l:List B}(h:IsB s hp l)(e:Heap):IsB s (hp++e) l:=by
 rcases h with h|⟨r,h1,h2⟩
 ·exact .inl h
 ·exact .inr ⟨r,h1,by rw[Zx (Y9 h2)];exact h2⟩
theorem IsB.low{s:AV}{hp:Heap}{l:List B}(h:IsB s hp l):∀q∈s.refsIn,q<hp.length:=by
 rcases h with⟨rfl,_⟩|⟨r,rfl,h2⟩
 ·intro q hq;cases hq
 ·intro q hq;simp[AV.refsIn] at hq;subst hq;exact Y9 h2
theorem IsB.not_box{s:AV}{hp:Heap}{l:List B}(h:IsB s hp l){i:Nat}{sh:Sh}{v:AV}(hi:hp[i]? =some (.box sh v)):∀v o n,s≠.sl (some 5) i v o n:=by
 rcases h with⟨rfl,_⟩|⟨r,rfl,h2⟩
 ·intro v o n e;cases e
 ·intro v o n e;cases e;rw[hi] at h2;cases h2
def Own(s:AV)(hp:Heap)(s':AV):Prop:=∀r v o n,s'=.sl (some 5) r v o n->(∃v o n,s=.sl (some 5) r v o n)\/hp.length<=r
theorem Own.refl(s:AV)(hp:Heap):Own s hp s:=fun r v o n h=>.inl ⟨v,o,n,h⟩
theorem Own.trans{s s1 s2:AV}{hp hp1:Heap}(h1:Own s hp s1)(hl:hp.length<=hp1.length)(h2:Own s1 hp1 s2):Own s hp s2:=fun r v o n e=>by
 rcases h2 r v o n e with⟨v',o',n',e'⟩|h
 ·exact h1 r v' o' n' e'
 ·exact .inr (by omega)
theorem Pres.trans{s s1:AV}{hp hp1 hp2:Heap}(h1:Pres s hp hp1)(ho:Own s hp s1)(h2:Pres s1 hp1 hp2):Pres s hp hp2:=
 ⟨ZJ h1.1 h2.1,fun i x hx hne=>h2.2 i x (h1.2 i x hx hne) fun v o n e=>by
  rcases ho i v o n e with⟨v',o',n',e'⟩|h
  ·exact hne v' o' n' e'
  ·have:=Y9 hx;omega⟩
theorem Pres.take{s:AV}{hp hp1:Heap}{n:Nat}(h:Pres s hp hp1)(hn:hp.length<=n):Pres s hp (hp1.take n):=
 ⟨by rw[Zn];have:=h.1;omega,fun i x hx hne=>by
  have:=Y9 hx;rw[ZU,Zb (by omega)];exact h.2 i x hx hne⟩
theorem IsB.take{s:AV}{hp:Heap}{l:List B}{n:Nat}(h:IsB s hp l)(hr:∀q∈s.refsIn,q<n):IsB s (hp.take n) l:=by
 rcases h with h|⟨r,rfl,h2⟩
 ·exact .inl h
 ·have:r<n:=hr r (by simp[AV.refsIn]);exact .inr ⟨r,rfl,by rw[ZU,Zb this];exact h2⟩
theorem MD(n b:Nat)(fr:Fr)(hp:Heap):collect n b fr hp=hp\/(collect n b fr hp=hp.take n/\∀x∈fr,∀q∈x.2.refsIn,q<n):=by
 unfold collect;split
 ·rename_i h;rw[Zm,Zo] at h;exact .inr ⟨rfl,fun x hx q hq=>by simpa using Zo.1 (h.1 x hx) q hq⟩
 ·exact .inl rfl
def Good(l:List B):Prop:=Srt' l/\∀b∈l,b.2.valid=true/\b.2.size<1000000000
theorem jr:∀t:Tm,PV.beq t.pv t.pv=true:=by
 intro t
 induction t using Tm.zyR with
 |h t ih=>
  cases t with
  |mk k n s ts=>
   have:∀l:List Tm,(∀u∈l,PV.beq u.pv u.pv=true)->PV.beqs (Tm.pvs l) (Tm.pvs l)=true:=by
    intro l
    induction l with
    |nil=>intro _;rfl
    |cons x r ihr=>intro h;simp only[Tm.pvs,PV.beqs,h x (by simp),ihr (fun u hu=>h u (by simp[hu])),Bool.and_self]
   simp[Tm.pv,PV.beq,PV.beqc,this ts ih]
theorem YK{t u:Tm}(h:t.valid=true)(hu:u∈t.args):u.valid=true:=by
 unfold Tm.valid at h ⊢;simp only[Zm,Zz] at h ⊢;have:=Tm.zyQ hu;exact⟨by omega,Tm.zyP h.2 hu⟩
theorem kN(b:B)(r:List B)(v:Int):lbB (b::r) v=if b.1<v then lbB r v+1 else 0:=by
 unfold lbB;split
 ·rename_i h;rw[List.takeWhile_cons_of_pos (by simpa using h)];rfl
 ·rename_i h;rw[List.takeWhile_cons_of_neg (by simpa using h)];rfl
theorem ME(b:B)(r:List B)(v:Int):fndB (b::r) v=if b.1<v then fndB r v else decide (b.1=v):=by
 by_cases h:b.1<v
 ·simp only[fndB,kN,h,if_true,List.getElem?_cons_succ]
 ·simp only[fndB,kN,h,if_false,zQ]
theorem MF(b:B)(r:List B)(v:Int)(t:Tm):insB (b::r) v t=if b.1<v then b::insB r v t else(v,t)::b::r:=by
 unfold insB;rw[kN];split
 ·rw[ZZ,zA];rfl
 ·rfl
theorem QE{l:List B}{v:Int}{t:Tm}{x:B}(h:x∈insB l v t):x=(v,t)\/x∈l:=by
 unfold insB at h;simp only[Zr,ZV] at h;rcases h with(h|h)|h
 ·exact .inr (zO h)
 ·exact .inl h
 ·exact .inr (zG h)
theorem Jf:∀{l:List B} {v:Int} {t:Tm},Srt' l->fndB l v=false->Srt' (insB l v t)
 |[],v,t,_,_=>by simp[insB,Srt']
 |b::r,v,t,hs,hf=>by
  obtain⟨h1,h2⟩:=zN.1 hs;rw[MF];rw[ME] at hf;split
  ·rename_i hb;rw[Zb hb] at hf;refine zN.2 ⟨fun x hx=> ?_,Jf h2 hf⟩;rcases QE hx with rfl|hx
   ·exact hb
   ·exact h1 x hx
  ·rename_i hb;rw[Za hb] at hf;have hne:b.1≠v:=by simpa using hf
   refine zN.2 ⟨fun x hx=> ?_,hs⟩;rcases Zt.1 hx with rfl|hx
   ·show v<x.1;omega
   ·have:=h1 x hx;show v<x.1;omega
theorem MG{l:List B}{v:Int}{t:Tm}(h:Good l)(hf:fndB l v=false)(hv:t.valid=true)(ht:t.size<1000000000):Good (insB l v t):=
 ⟨Jf h.1 hf,fun b hb=>by
  rcases QE hb with rfl|hb
  ·exact⟨hv,ht⟩
  ·exact h.2 b hb⟩
theorem xp{F:FuncId->Option AFn}{prim:FuncId->Option Ys}{f:FuncId}{fn:AFn}{args:List AV}{hp:Heap}(P:AV->Heap->Prop)(hp0:prim f=none)(hf:F f=some fn)(hm:fn.heapMode=true)(hn:args.length=fn.nparams)
  (h:W (sem F prim) (sloop F prim) hp.length fn.code ⟨params 0 args,hp⟩ (endK fn.results (fun v' h'=>P v' (if v'.refsIn.all (fun q=>decide (q<hp.length))=true then h'.take hp.length else h'))))(hr:fn.rcv=none:=by rfl)(hmo:fn.more=[]:=by rfl):∃v hp',sem F prim .fn f args hp=some (.ret v,hp')/\P v hp':=by
 rw[xN];unfold yq;rw[hp0,hf];simp only[hr,hmo,zL,ZR,if_false,hm,if_true,abody,hn,ne_eq,not_true_eq_false,if_false];unfold W at h;split at h
 ·rename_i e st' he;rw[he];cases e with
  |normal=>
   rw[Qy] at h;cases hr:YO st' fn.results with
   |none=>rw[hr] at h;exact h.elim
   |some u=>rw[hr] at h;exact⟨_,_,by simp only[hr],h⟩
  |ret=>
   rw[xO] at h;cases hr:YO st' fn.results with
   |none=>rw[hr] at h;exact h.elim
   |some u=>rw[hr] at h;exact⟨_,_,by simp only[hr],h⟩
  |exit i=>exact h.elim
  |panic v=>exact h.elim
 ·exact h.elim
end Go.Proofs.YtffecaafklpmhaaGreat
namespace Go.Proofs.YtffecaafklpmhaaGreat
open Go.Am
def fdI(l:List B)(v:Int):Int:=if fndB l v=true then(lbB l v:Int) else -1
theorem kP(l:List B)(v:Int)(hs:Srt' l)(hl:l.length<1000000000)(hp:Heap):
  S 146 [.pv none (.sl (some 5) (bds l)),O8 v] hp=some (.ret (O8 (fdI l v)),hp):=by
 refine Yb rfl rfl rfl (Yd [(none,.sl (some 5) (bds l)),(none,.int .i64 v)]) rfl ?_;have hlb:=xo l v;simp -dsimp -implicitDefEqProofs only[go_sem,seval,↓reduceIte,Yk];refine Yr (fun n st=>∃i j:Nat,n=j - i/\i<=lbB l v/\lbB l v<=j/\j<=l.length/\st=⟨[(0,.pv none (.sl (some 5) (bds l))),(1,O8 v),(5,O8 i),(6,O8 j)],[]⟩) (n:=l.length) ⟨0,l.length,by omega,by omega,hlb,by omega,?_⟩ ?_
 ·simp -dsimp -implicitDefEqProofs only[go_sem,seval,↓reduceIte]
  try rfl
 ·rintro n st ⟨i,j,hn,h1,h2,h3,rfl⟩;by_cases hij:i<j
  ·have hc:(i:Int)<(j:Int):=by omega
   obtain⟨x,hx⟩:∃x,l[(i+j) / 2]? =some x:=⟨_,Zf (by omega)⟩;have hsp:=QD (v:=v) hs hx;have w1:IntKind.i64.wrap ((i:Int)+(j:Int))=((i+j:Nat):Int):=by rw[zZ (by omega) (by omega)];omega
   have w3:yA .quo .i64 ((i+j:Nat):Int) 2=some (.int .i64 (((i+j) / 2:Nat):Int)):=by
    have:((i+j:Nat):Int).tdiv 2=(((i+j) / 2:Nat):Int):=by rw[Int.tdiv_eq_ediv_of_nonneg (by omega)];omega
    simp only[yA,this];rw[zZ (by omega) (by omega)];rfl
   have w4:IntKind.i64.wrap ((((i+j) / 2:Nat):Int)+1)=(((i+j) / 2+1:Nat):Int):=by rw[zZ (by omega) (by omega)];omega
   by_cases h0:x.1<v
   ·simp -dsimp -implicitDefEqProofs only[go_sem,seval,↓reduceIte,Yk,hc,w1,w3,w4,zY (Yx hx),Y3,h0];refine⟨j - ((i+j) / 2+1),by omega,(i+j) / 2+1,j,rfl,?_,h2,h3,rfl⟩;have:=hsp.1 h0;omega
   ·simp -dsimp -implicitDefEqProofs only[go_sem,seval,↓reduceIte,Yk,hc,w1,w3,w4,zY (Yx hx),Y3,h0];refine⟨(i+j) / 2 - i,by omega,i,(i+j) / 2,rfl,h1,?_,by omega,rfl⟩;have:¬(i+j) / 2<lbB l v:=fun h=>h0 (hsp.2 h);omega
  ·have hc:¬(i:Int)<(j:Int):=by omega
   obtain rfl:i=lbB l v:=by omega
   by_cases hll:lbB l v<l.length
   ·have hc2:((lbB l v:Nat):Int)<(l.length:Int):=by omega
    obtain⟨x,hx⟩:∃x,l[lbB l v]? =some x:=⟨_,Zf hll⟩;have hf:fndB l v=decide (x.1=v):=by unfold fndB;rw[hx]
    by_cases hxv:x.1=v
    ·have hfd:fdI l v=(lbB l v:Int):=by unfold fdI;rw[hf];simp[hxv]
     rw[hfd];simp -dsimp -implicitDefEqProofs only[go_sem,seval,↓reduceIte,Yk,hc,hc2,zY (Yx hx),Y3,hxv]
    ·have hfd:fdI l v= -1:=by unfold fdI;rw[hf];simp[hxv]
     rw[hfd];simp -dsimp -implicitDefEqProofs only[go_sem,seval,↓reduceIte,Yk,hc,hc2,zY (Yx hx),Y3,hxv]
   ·have hc2:¬((lbB l v:Nat):Int)<(l.length:Int):=by omega
    have hfd:fdI l v= -1:=by unfold fdI fndB;rw[Z3 (by omega)];rfl
    rw[hfd];simp -dsimp -implicitDefEqProofs only[go_sem,seval,↓reduceIte,Yk,hc,hc2]
def bo(l:List B)(v:Int)(t:Tm)(i:Nat):List B:=if lbB l v<i then(insB l v t).take (i+1) else l.take i
theorem u7{l:List B}{v:Int}{t:Tm}{i:Nat}(h:i<=l.length):(bo l v t i).length<=i+1:=by
 unfold bo;split <;> simp <;> omega
theorem xU{α:Type}{l:List α}{i:Nat}{x:α}(h:l[i]? =some x):l.take (i+1)=l.take i++[x]:=by
 rw[ZL,h];rfl
theorem MH{l:List B}{v:Int}{t:Tm}{i:Nat}(h:i<lbB l v):(insB l v t)[i]? =l[i]? :=by
 have:=xo l v;unfold insB;rw[Zd,Zx (by rw[Zn];omega),ZU,Zb h]
theorem MI(l:List B)(v:Int)(t:Tm):(insB l v t)[lbB l v]? =some (v,t):=by
 have:=xo l v;unfold insB;have e:(l.take (lbB l v)).length=lbB l v:=by rw[Zn];omega
 rw[Zd,zq (by omega),e];simp
theorem u9{l:List B}{v:Int}{t:Tm}{i:Nat}(h:lbB l v<=i):(insB l v t)[i+1]? =l[i]? :=by
 have:=xo l v;unfold insB;have e:(l.take (lbB l v)).length=lbB l v:=by rw[Zn];omega
 rw[Zd,zq (by omega),e,show i+1 - lbB l v=(i - lbB l v)+1 by omega];simp only[List.singleton_append,List.getElem?_cons_succ,ZT]
 congr 1
 omega
theorem MJ{l:List B}{v:Int}{t:Tm}{i:Nat}{b:B}(h:i<lbB l v)(hb:l[i]? =some b):bo l v t (i+1)=bo l v t i++[b]:=by
 unfold bo;rw[Za (by omega),Za (by omega),xU hb]
theorem MK{l:List B}{v:Int}{t:Tm}{i:Nat}{b:B}(h:lbB l v<i)(hb:l[i]? =some b):bo l v t (i+1)=bo l v t i++[b]:=by
 unfold bo;rw[Zb (by omega),Zb h,xU (by rw[u9 (by omega)];exact hb)]
theorem ML{l:List B}{v:Int}{t:Tm}{b:B}(hb:l[lbB l v]? =some b):bo l v t (lbB l v+1)=bo l v t (lbB l v)++[(v,t)]++[b]:=by
 unfold bo;rw[Zb (by omega),Za (by omega),xU (by rw[u9 (Zi _)];exact hb),xU (MI l v t)]
 congr 2
 apply zK;intro k;rw[ZU,ZU];split
 ·rename_i h;exact MH h
 ·rfl
theorem Ga{l:List B}{v:Int}{t:Tm}:insB l v t=if lbB l v<l.length then bo l v t l.length else bo l v t l.length++[(v,t)]:=by
 have:=xo l v;split
 ·rename_i h;unfold bo;rw[Zb h,<-qi l v t,ZC]
 ·rename_i h;have e:lbB l v=l.length:=by omega
  unfold bo;rw[Za h];unfold insB;rw[e];simp
theorem MM{l:List B}{v:Int}(hs:Srt' l)(hf:fndB l v=false){i:Nat}{b:B}(hb:l[i]? =some b):v<b.1↔lbB l v<=i:=by
 have h1:=QD (v:=v) hs hb;constructor
 ·intro h;have:¬b.1<v:=by omega
  rw[h1] at this;omega
 ·intro h;have h2:¬b.1<v:=by rw[h1];omega
  have h3:b.1≠v:=by
   intro e;have hlt:=(Ze.1 hb).1;obtain⟨c,hc⟩:∃c,l[lbB l v]? =some c:=⟨_,Zf (by omega)⟩;have h4:¬c.1<v:=by rw[QD hs hc];omega
   have h5:c.1≠v:=by unfold fndB at hf;rw[hc] at hf;simpa using hf
   rcases Nat.eq_or_lt_of_le h with h|h
   ·rw[h] at hc;rw[hc] at hb;cases hb;exact h5 e
   ·have:=List.pairwise_iff_getElem.1 hs (lbB l v) i (by omega) hlt h;rw[(Ze.1 hc).2,(Ze.1 hb).2] at this;omega
  omega
theorem O5:∀H:Heap,YB (some 5) H=some (.sl (some 5) H.length 0 0 0,H++[.arr (some 5) [] false]):=fun H=>YA (sh:=some 5) (by decide)
theorem js(l:List B)(v:Int)(t:Tm)(hs:Srt' l)(hf:fndB l v=false)(hl:l.length<100000000)(hp:Heap):
  S 148 [.pv none (.sl (some 5) (bds l)),O8 v,.pv (some 4) t.pv] hp=some (.ret (.pv none (.sl (some 5) (bds (insB l v t)))),hp):=by
 refine Yb rfl rfl rfl (Yd [(none,.sl (some 5) (bds l)),(none,.int .i64 v),(some 4,t.pv)]) rfl ?_;have hlb:=xo l v;have hn0:=O5;have hbd:Ym A3 [0,1] [O8 v,.pv (some 4) t.pv]=some (.pv (some 5) (bdp (v,t))):=rfl;have hap:∀(m:List B) (b:B),m.length+1<1000000000->YN (some 5) [.box (some 4) (.pv (some 4) t.pv),.arr (some 5) [] false,.arr (some 5) (bds m) false] [.sl (some 5) 2 m.length 0 m.length,.tsl (some 5) [bdp b]]=some (.sl (some 5) 2 (m++[b]).length 0 (m++[b]).length,[.box (some 4) (.pv (some 4) t.pv),.arr (some 5) [] false,.arr (some 5) (bds (m++[b])) false]):=fun m b hm=>by
  have:=kk (sh:=some 5) (s:=some 5) (hp:=[.box (some 4) (.pv (some 4) t.pv),.arr (some 5) [] false,.arr (some 5) (bds m) false]) (r:=2) (n:=m.length) (new:=[bdp b]) (show Qz (some 5) m.length (some (.arr (some 5) (bds m) false)) from⟨rfl,Yk m⟩) (by simp[lim];omega);rw[this];simp[bds,yP]
 simp -dsimp -implicitDefEqProofs only[go_sem,seval,↓reduceIte,hn0];refine Yv (α:=Unit) l.length (fun _ _=>True) (fun i _=>⟨[(0,.pv none (.sl (some 5) (bds l))),(1,O8 v),(5,.ptr 0 0),(7,.sl (some 5) 2 (bo l v t i).length 0 (bo l v t i).length),(8,O9 (decide (lbB l v<i))),(9,O8 i)],[.box (some 4) (.pv (some 4) t.pv),.arr (some 5) [] false,.arr (some 5) (bds (bo l v t i)) false]⟩) () ⟨trivial,by simp[bo,bds];rfl⟩ ?_ ?_
 ·rintro i - h -;have hc:(i:Int)<(l.length:Int):=by omega
  obtain⟨b,hb⟩:∃b,l[i]? =some b:=⟨_,Zf h⟩;have hg:=MM hs hf hb;have hbl:=u7 (l:=l) (v:=v) (t:=t) (Nat.le_of_lt h);have w2:=O0 i (by omega)
  have ha1:=fun b=>hap (bo l v t i) b (by omega);rcases Nat.lt_trichotomy i (lbB l v) with hlt|heq|hgt
  ·have c1:¬lbB l v<i:=by omega
   have c2:¬v<b.1:=by rw[hg];omega
   have c3:decide (lbB l v<i+1)=false:=by simp;omega
   have e:=MJ (t:=t) hlt hb;simp -dsimp -implicitDefEqProofs only[go_sem,seval,↓reduceIte,Yk,hc,c1,c2,zY (Yx hb),Y3,ha1,w2];exact⟨(),by rw[e,c3]⟩
  ·subst heq;have c1:¬lbB l v<lbB l v:=by omega
   have c2:v<b.1:=hg.2 (Zi _);have c3:decide (lbB l v<lbB l v+1)=true:=by simp
   have e:=ML (t:=t) hb;have ha2:=hap (bo l v t (lbB l v)++[(v,t)]) b (by simp;omega);simp -dsimp -implicitDefEqProofs only[go_sem,seval,↓reduceIte,Yk,hc,c1,c2,zY (Yx hb),Y3,hbd,ha1,ha2,w2];exact⟨(),by rw[e,c3]⟩
  ·have c1:lbB l v<i:=by omega
   have c3:decide (lbB l v<i+1)=true:=by simp;omega
   have e:=MK (t:=t) hgt hb;simp -dsimp -implicitDefEqProofs only[go_sem,seval,↓reduceIte,Yk,hc,c1,zY (Yx hb),Y3,ha1,w2];exact⟨(),by rw[e]⟩
 ·rintro - -;have hc:¬(l.length:Int)<(l.length:Int):=by omega
  have hbl:=u7 (l:=l) (v:=v) (t:=t) (Zi _);have ha1:=hap (bo l v t l.length) (v,t) (by omega);by_cases hll:lbB l v<l.length
  ·have e:insB l v t=bo l v t l.length:=by rw[Ga,Zb hll]
   rw[e];simp -dsimp -implicitDefEqProofs only[go_sem,seval,↓reduceIte,Yk,hc,hll,hbd,ha1]
   done
  ·have e:insB l v t=bo l v t l.length++[(v,t)]:=by rw[Ga,Za hll]
   rw[e];simp -dsimp -implicitDefEqProofs only[go_sem,seval,↓reduceIte,Yk,hc,hll,hbd,ha1]
   done
end Go.Proofs.YtffecaafklpmhaaGreat
namespace Go.Proofs.YtffecaafklpmhaaGreat
open Go.Am
theorem Jg{F:FuncId->Option AFn}{prim:FuncId->Option Ys}{f:FuncId}{fn:AFn}{args:List AV}{ps:List (Sh × PV)}(P:AV->Prop)(hp0:prim f=none)(hf:F f=some fn)(hm:fn.heapMode=false)(hz:∀hp,Yi args hp=some (ps,hp))(hn:(pvs ps).length=fn.nparams)
  (h:W (sem F prim) (sloop F prim) 0 fn.code ⟨params 0 (pvs ps),[]⟩ (endK fn.results (fun v hp=>∃v',Am.frozen v' v hp/\P v')))(hr:fn.rcv=none:=by rfl)(hmo:fn.more=[]:=by rfl):∃v,(∀hp,sem F prim .fn f args hp=some (.ret v,hp))/\P v:=by
 have key:∃v,P v/\W (sem F prim) (sloop F prim) 0 fn.code ⟨params 0 (pvs ps),[]⟩ (endK fn.results (Am.frozen v)):=by
  unfold W at h ⊢;split at h
  ·rename_i e st' he;cases e with
   |normal=>
    rw[Qy] at h;cases hr:YO st' fn.results with
    |none=>rw[hr] at h;exact h.elim
    |some u=>rw[hr] at h;obtain⟨v',h1,h2⟩:=h;exact⟨v',h2,by simp only[he,Qy,hr];exact h1⟩
   |ret=>
    rw[xO] at h;cases hr:YO st' fn.results with
    |none=>rw[hr] at h;exact h.elim
    |some u=>rw[hr] at h;obtain⟨v',h1,h2⟩:=h;exact⟨v',h2,by simp only[he,xO,hr];exact h1⟩
   |exit i=>exact h.elim
   |panic v=>exact h.elim
  ·exact h.elim
 obtain⟨v,h1,h2⟩:=key;exact⟨v,fun hp=>Yb hp0 hf hm (hz hp) hn h2 hr hmo,h1⟩
theorem MN{t:Tm}(h:t.valid=true):same t t=true:=by
 unfold same;rw[h];simp[Tm.cmp_zero.2 rfl]
end Go.Proofs.YtffecaafklpmhaaGreat
