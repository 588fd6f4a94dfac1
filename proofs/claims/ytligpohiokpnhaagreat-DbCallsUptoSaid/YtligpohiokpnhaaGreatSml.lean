/- What is proved: what slices.Insert does at one type. -/
import Derived.Test.YtligpohiokpnhaaGreatProg
import Derived.Shelf.Spec.SlicesInsertGrow
import Derived.Test.YtligpohiokpnhaaGreatAm2
import Derived.Test.YtligpohiokpnhaaGreatRows
import Derived.Test.YtligpohiokpnhaaGreatFns
import Derived.Test.YtligpohiokpnhaaGreatAm5
set_option linter.unusedVariables false
set_option linter.unusedSimpArgs false
namespace Go.Proofs.YtligpohiokpnhaaGreat.InsA
open Go Go.Am Go.Proofs Go.Lib Go.RowKit
theorem t3:Tryz.prog.underlying 3=some (TypeDesc.int IntKind.i64):=by kernel_rfl
theorem a3:∀w,(isAgg 3).run Tryz.prog w=.ok false w:=fun w=>by kernel_rfl
theorem z3:∀w,(Go.sizeOf 3).run Tryz.prog w=.ok 1 w:=fun w=>by kernel_rfl
theorem v3:∀w,(zeroValue 3).run Tryz.prog w=.ok (Value.int IntKind.i64 0) w:=fun w=>by kernel_rfl
theorem t4:Tryz.prog.underlying 4=some TypeDesc.bool:=by kernel_rfl
theorem a4:∀w,(isAgg 4).run Tryz.prog w=.ok false w:=fun w=>by kernel_rfl
theorem z4:∀w,(Go.sizeOf 4).run Tryz.prog w=.ok 1 w:=fun w=>by kernel_rfl
theorem v4:∀w,(zeroValue 4).run Tryz.prog w=.ok (Value.bool false) w:=fun w=>by kernel_rfl
theorem tS:Tryz.prog.underlying 22=some (TypeDesc.slice 46):=by kernel_rfl
theorem aS:∀w,(isAgg 22).run Tryz.prog w=.ok false w:=fun w=>by kernel_rfl
theorem zS:∀w,(Go.sizeOf 22).run Tryz.prog w=.ok 1 w:=fun w=>by kernel_rfl
theorem vS:∀w,(zeroValue 22).run Tryz.prog w=.ok (Value.slice none 0 0) w:=fun w=>by kernel_rfl
theorem zE:∀w,(Go.sizeOf 46).run Tryz.prog w=.ok 4 w:=fun w=>by kernel_rfl
theorem iE:(Tryz.prog.info? 46).map (·.size)=some 4:=by kernel_rfl
theorem ins_list{α:Type}(C:List α)(p q:Nat)(hpq:p<=q)(hq:q<=C.length)(R:List α):(C.take q++R).take p=C.take p/\(C.take q++R).drop q=R:=by
 have hl:(C.take q).length=q:=by simp;omega
 refine⟨?_,?_⟩
 ·rw[zR (by omega),Zz]
  congr 1
  omega
 ·exact List.drop_left' hl
set_option maxHeartbeats 4000000 in
set_option maxRecDepth 100000 in
theorem ins_shift(b n c i vb voff m vc:Nat)(cur:Array Value)(t:TypeId)(vs:List Value)(w:World)(hi:i<n)(hm:0<m)(hroom:n+m<=c)(hlim:n+m<=lim)(hvb:vb≠b)
  (hg:w.heap[b]? =some (.cells cur t (0,0)))(hcs:cur.size=c*4)(hvl:vs.length=m*4)(h1:∀v∈(cur.toList.drop (i*4)).take ((n - i)*4),v.oneCell'=true)
  (hvs:∀j v,vs[j]? =some v->w.cell? ⟨vb,voff+j,none⟩=some v)(h1v:∀v∈vs,v.oneCell'=true)
  (tA:TypeId)(kA:Nat)(hsa:w.shape? vb=some (tA,kA))(hkA:kA≠0):
  ∃cur2:Array Value,cur2.toList=cur.toList.take (i*4)++vs++(cur.toList.drop (i*4)).take ((n - i)*4)++cur.toList.drop ((n+m)*4)/\
  Calls Tryz.prog 52 #[.slice (some ⟨b,0,none⟩) n c,.int .i64 i,.slice (some ⟨vb,voff,none⟩) m vc] w fun e w'=>
   e=.returned (.slice (some ⟨b,0,none⟩) (n+m) c)/\∃cur1,w'=(w.drew.setRow b cur1).setRow b cur2:=by
 have t3:=t3;have a3:=a3;have z3:=z3;have v3:=v3;have t4:=t4;have a4:=a4;have z4:=z4;have v4:=v4;have tS:=tS;have aS:=aS;have zS:=zS;have vS:=vS;have zE:=zE;have u3:=run_underlying t3;have u4:=run_underlying t4;have uS:=run_underlying tS;have hlim':n+m<=1073741824:=hlim;have hov:∀lb cb x,(callFunc 79 #[.slice (some ⟨vb,voff,none⟩) m vc,.slice (some ⟨b,x,none⟩) lb cb]).run Tryz.prog w=.ok (.value (.bool false)) w:=fun lb cb x=>by
  have hfr:∀o,w.frozen? ⟨b,o,none⟩=false:=fun o=>by simp[World.frozen?,hg]
  rw[run_callFunc_extern Tryz.func79 (by kernel_rfl) (by kernel_rfl) (by kernel_rfl) (e:=Extern.SlicesOverlaps.overlaps #[22,22] #[4]) (by kernel_rfl),
   V6 w 22 4 46 tS 4 zE ⟨vb,voff,none⟩ ⟨b,x,none⟩ m vc lb cb hvb tA t kA cur.size hsa (by simp[World.shape?,hg]) hkA (by omega) hfr (hfr x)]
  rfl
 have hz1:¬((m:Int)=0):=by omega
 have hz2:¬((i:Int)=(n:Int)):=by omega
 have hw1:IntKind.i64.wrap ((i:Int)+(m:Int))=(i:Int)+(m:Int):=by rw[IntKind.wrap_i64];omega
 have hb1:(0:Int)<=(i:Int)+(m:Int):=by omega
 have hin:i<=n:=by omega
 have htn:((i:Int)+(m:Int)).toNat=i+m:=by omega
 have hb2:¬(c=i+m):=by omega
 have hb3:(i:Int)<=(n:Int)+(m:Int):=by omega
 have hb4:¬(c=i):=by omega
 have hcell:∀(W:World) (j:Nat),W.heap=w.heap->W.cell? ⟨b,j,none⟩=cur.toList[j]? :=fun W j h=>by
  simp[World.cell?,h,hg]
 have hcp1:∃cur1:Array Value,cur1.toList=cur.toList.take ((i+m)*4)++(cur.toList.drop (i*4)).take ((n - i)*4)++cur.toList.drop ((n+m)*4)/\∀ty dc sc,(Builtin.copy_ #[22,22] ty #[.slice (some ⟨b,(i+m)*4,none⟩) (n+m - (i+m)) dc,.slice (some ⟨b,i*4,none⟩) (n+m - i) sc]).run Tryz.prog w.drew=.ok (goInt ((n - i:Nat):Int)) (w.drew.setRow b cur1):=by
  obtain⟨cs1,hcs1⟩:∃cs1,cs1=(cur.toList.drop (i*4)).take ((n - i)*4):=⟨_,rfl⟩;have hl1:cs1.length=(n - i)*4:=by rw[hcs1];simp;omega
  have hmin:Nat.min (n+m - i) (n+m - (i+m))=n - i:=by simp only[Nat.min_def];split <;> omega
  have h:=fun ty dc sc=>
   xd w.drew 22 22 ty 46 b ((i+m)*4) (n+m - (i+m)) dc ⟨b,i*4,none⟩ (n+m - i) sc 4 cur t cs1 tS iE hg (by rw[hl1,hmin])
   (fun j v hj=>by
    have ha:(⟨b,i*4,none⟩:Addr).add j=⟨b,i*4+j,none⟩:=by unfold Addr.add;split <;> simp_all
    rw[ha,hcell w.drew _ rfl];rw[hcs1,ZG] at hj;split at hj
    ·rwa [ZI] at hj
    ·cases hj)
   (by rw[hl1,hcs];omega) (fun v hv=>h1 v (by rw[hcs1] at hv;exact hv))
  refine⟨(cur.toList.take ((i+m)*4)++cs1++cur.toList.drop ((i+m)*4+cs1.length)).toArray,?_,fun ty dc sc=> ?_⟩
  ·rw[hl1,hcs1,show(i+m)*4+(n - i)*4=(n+m)*4 by omega]
  ·rw[h,hmin]
 obtain⟨cur1,hcur1,hcp1⟩:=hcp1;have hcur1l:cur1.size=cur.size:=by
  have:=congrArg List.length hcur1;simp at this;omega
 have hne:∀x,x≠b->(w.drew.setRow b cur1).heap[x]? =w.heap[x]? :=fun x hx=>by
  simp[World.setRow,zQ,Ne.symm hx];rfl
 have hg1:(w.drew.setRow b cur1).heap[b]? =some (.cells cur1 t (0,0)):=setRow_heap w.drew b cur cur1 t _ hg;have hcp2:∃cur2:Array Value,cur2.toList=cur1.toList.take (i*4)++vs++cur1.toList.drop (i*4+m*4)/\∀ty dc,(Builtin.copy_ #[22,22] ty #[.slice (some ⟨b,i*4,none⟩) (n+m - i) dc,.slice (some ⟨vb,voff,none⟩) m vc]).run Tryz.prog (w.drew.setRow b cur1)=.ok (goInt m) ((w.drew.setRow b cur1).setRow b cur2):=by
  have hmin:Nat.min m (n+m - i)=m:=by simp only[Nat.min_def];split <;> omega
  have h:=fun ty dc=>
   xd (w.drew.setRow b cur1) 22 22 ty 46 b (i*4) (n+m - i) dc ⟨vb,voff,none⟩ m vc 4 cur1 t vs tS iE hg1 (by rw[hvl,hmin])
   (fun j v hj=>by
    have ha:(⟨vb,voff,none⟩:Addr).add j=⟨vb,voff+j,none⟩:=by unfold Addr.add;split <;> simp_all
    rw[ha];have:=hvs j v hj;unfold World.cell? at this ⊢;rw[hne vb hvb];exact this)
   (by rw[hvl,hcur1l,hcs];omega) h1v
  refine⟨(cur1.toList.take (i*4)++vs++cur1.toList.drop (i*4+vs.length)).toArray,?_,fun ty dc=> ?_⟩
  ·rw[hvl]
  ·rw[h,hmin]
 obtain⟨cur2,hcur2,hcp2⟩:=hcp2;have hfin:cur2.toList=cur.toList.take (i*4)++vs++(cur.toList.drop (i*4)).take ((n - i)*4)++cur.toList.drop ((n+m)*4):=by
  rw[hcur2,hcur1];simp only[ZD];obtain⟨e1,e2⟩:=ins_list cur.toList (i*4) ((i+m)*4) (by omega) (by simp;omega) ((cur.toList.drop (i*4)).take ((n - i)*4)++cur.toList.drop ((n+m)*4));rw[e1,show i*4+m*4=(i+m)*4 by omega,e2]
 refine⟨cur2,hfin,?_⟩;clear hcur1 hcur2 hfin;have mixed:Tryz.prog.follows .mixedOrders=true:=by kernel_rfl
 go_enter Tryz.func52,Tryz.f52
 go_wp2_with (simp only[hov])
 go_region_law_o (refine step_copy_runI rfl _ _ 22 22 rfl _ _ (by simp[Act.eval,Act.put]) (by simp[Act.eval,Act.put]) (hcp1 _ _ _) ?_)
 go_wp2_with (at_builtin;refine wpList_copy_runI _ rfl _ _ 22 22 rfl _ _ rfl rfl (hcp2 _ _) ?_)
 go_ret
 exact⟨rfl,cur1,rfl⟩
set_option maxHeartbeats 4000000 in
set_option maxRecDepth 100000 in
theorem ins_grow(b n c i vb voff m vc:Nat)(cur:Array Value)(t:TypeId)(vs:List Value)(w:World)(hi:i<n)(hm:0<m)(hnc:n<=c)(hroom:c<n+m)(hlim:n+m<=lim)(hvb:vb<w.heap.size)
  (hg:w.heap[b]? =some (.cells cur t (0,0)))(hcs:cur.size=c*4)(hvl:vs.length=m*4)(h1:∀v∈(cur.toList.drop (i*4)).take ((n - i)*4),v.oneCell'=true)
  (hvs:∀j v,vs[j]? =some v->w.cell? ⟨vb,voff+j,none⟩=some v)(h1v:∀v∈vs,v.oneCell'=true)
  (hok:okT Tryz.prog 46=true)(hz:YH Tryz.prog 46=true)(hby:Y7 Tryz.prog 46=true)(hshE:(shOf Tryz.prog 46).size=4):
  ∃(row:Array Value) (G:Nat),n+m<=G/\row.size=G*4/\row.toList.take ((n+m)*4)=cur.toList.take (i*4)++vs++(cur.toList.drop (i*4)).take ((n - i)*4)/\
  Calls Tryz.prog 52 #[.slice (some ⟨b,0,none⟩) n c,.int .i64 i,.slice (some ⟨vb,voff,none⟩) m vc] w fun e w'=>
   e=.returned (.slice (some ⟨w.heap.size,0,none⟩) (n+m) G)/\w'.heap[w.heap.size]? =some (.cells row 46 (0,0))/\w'.heap.size=w.heap.size+1/\(∀x,x<w.heap.size->w'.heap[x]? =w.heap[x]?)/\w'.os=w.os/\w'.tape=w.tape/\w'.output=w.output:=by
 have t3:=t3;have a3:=a3;have z3:=z3;have v3:=v3;have t4:=t4;have a4:=a4;have z4:=z4;have v4:=v4;have tS:=tS;have aS:=aS;have zS:=zS;have vS:=vS;have zE:=zE;have u3:=run_underlying t3;have u4:=run_underlying t4;have uS:=run_underlying tS;obtain⟨i0,z0,hi0,hz0,hs0,hzc⟩:=okE w hok hz;rw[hshE] at hs0 hzc;have hb:i0.bytes<=1024:=by
  unfold Y7 at hby
  rw[hi0] at hby
  simpa using hby
 have hbb:(n+m)*i0.bytes<=140737488355328:=by
  have:(n+m)*i0.bytes<=lim*1024:=Z8 hlim hb;unfold lim at this;omega
 have hlim':n+m<=1073741824:=hlim;have hbN:b<w.heap.size:=Yx hg;have hz1:¬((m:Int)=0):=by omega
 have hz2:¬((i:Int)=(n:Int)):=by omega
 have hz3:(c:Int)<(n:Int)+(m:Int):=by omega
 have hkk:(n:Int)+(m:Int) - (i:Int)=((n+m - i:Nat):Int):=by omega
 have hik:i+(n+m - i)=n+m:=by omega
 have hold:(Builtin.firstCells i0.size i (.slice (some ⟨b,0,none⟩) i c)).run Tryz.prog w.drew=.ok (cur.toList.take (i*4)).toArray w.drew:=by
  rw[hs0];refine run_firstCells_some w.drew 4 i ⟨b,0,none⟩ i c (cur.toList.take (i*4)) (by simp;omega) fun j v hj=> ?_;have ha:(⟨b,0,none⟩:Addr).add j=⟨b,j,none⟩:=by unfold Addr.add;split <;> simp_all
  rw[ha];rw[ZG] at hj;split at hj
  ·have hg':w.drew.heap[b]? =some (.cells cur t (0,0)):=hg;simpa[World.cell?,hg'] using hj
  ·cases hj
 obtain⟨G,hG⟩:∃G,grownCap w (n+m) c 46=G:=⟨_,rfl⟩;obtain⟨ROW,hROW⟩:∃ROW:Array Value,(cur.toList.take (i*4)).toArray++Builtin.zeroCells z0.cells (n+m - i)++Builtin.zeroCells z0.cells (G - (n+m))=ROW:=⟨_,rfl⟩;have hGn:n+m<=G:=by rw[<-hG];exact grownCap_ge w _ _ _
 have hRl:ROW.size=G*4:=by
  rw[<-hROW];simp only[Array.size_append,List.size_toArray,size_zeroCells,hzc,Zh,Zm];omega
 have hRt:ROW.toList.take (i*4)=cur.toList.take (i*4):=by
  rw[<-hROW];simp only[Array.toList_append,ZD];exact ZZ (by simp;omega)
 have hrz:∀ty,(Builtin.append_ #[22,3] ty #[.slice (some ⟨b,0,none⟩) i c,.int .i64 ((n:Int)+(m:Int) - (i:Int))]).run Tryz.prog w=
   .ok (.slice (some ⟨w.heap.size,0,none⟩) (n+m) G) (w.drew.alloc (.cells ROW 46)):=fun ty=>by
  have h:=Lib.run_append_grow_zeros w 22 3 ty 46 i0 z0 .i64 .i64 tS t3 hi0 hz0 (some ⟨b,0,none⟩) i c (cur.toList.take (i*4)) hold (n+m - i) (by omega) (by rw[hs0];omega) (by omega) (by omega)
   (by have:(n+m - i)*i0.bytes<=(n+m)*i0.bytes:=Z8 (by omega) (Ze _);omega) (by rw[hik];exact growslice_fits hroom hbb)
  rw[hik,hG] at h;rw[hkk,<-hROW];exact h
 have hd1:ROW.toList.length=G*4:=by simpa using hRl
 have hGn':(n+m)*4<=G*4:=Z8 hGn (Ze _);have hcpA:∃row1:Array Value,row1.toList=ROW.toList.take (i*4)++vs++ROW.toList.drop (i*4+m*4)/\∀W:World,W.heap[w.heap.size]? =some (.cells ROW 46 (0,0))->W.heap[vb]? =w.heap[vb]?->∀ty dc,(Builtin.copy_ #[22,22] ty #[.slice (some ⟨w.heap.size,i*4,none⟩) (n+m - i) dc,.slice (some ⟨vb,voff,none⟩) m vc]).run Tryz.prog W=.ok (goInt m) (W.setRow w.heap.size row1):=by
  have hmin:Nat.min m (n+m - i)=m:=by simp only[Nat.min_def];split <;> omega
  refine⟨(ROW.toList.take (i*4)++vs++ROW.toList.drop (i*4+vs.length)).toArray,by rw[hvl],fun W hN hV ty dc=> ?_⟩;have h:=xd W 22 22 ty 46 w.heap.size (i*4) (n+m - i) dc ⟨vb,voff,none⟩ m vc 4 ROW 46 vs tS iE hN (by rw[hvl,hmin])
   (fun j v hj=>by
    have ha:(⟨vb,voff,none⟩:Addr).add j=⟨vb,voff+j,none⟩:=by unfold Addr.add;split <;> simp_all
    rw[ha];have:=hvs j v hj;unfold World.cell? at this ⊢;rw[hV];exact this)
   (by rw[hvl,hRl];omega) h1v
  rw[h,hmin]
 obtain⟨row1,hrow1,hcpA⟩:=hcpA;have hr1l:row1.size=G*4:=by
  have:=congrArg List.length hrow1;simp at this;omega
 have hcpB:∃row2:Array Value,row2.toList=row1.toList.take ((i+m)*4)++(cur.toList.drop (i*4)).take ((n - i)*4)++row1.toList.drop ((n+m)*4)/\∀W:World,W.heap[w.heap.size]? =some (.cells row1 46 (0,0))->W.heap[b]? =some (.cells cur t (0,0))->∀ty dc sc,(Builtin.copy_ #[22,22] ty #[.slice (some ⟨w.heap.size,(i+m)*4,none⟩) (n+m - (i+m)) dc,.slice (some ⟨b,i*4,none⟩) (n - i) sc]).run Tryz.prog W=.ok (goInt ((n - i:Nat):Int)) (W.setRow w.heap.size row2):=by
  obtain⟨cs1,hcs1⟩:∃cs1,cs1=(cur.toList.drop (i*4)).take ((n - i)*4):=⟨_,rfl⟩;have hl1:cs1.length=(n - i)*4:=by rw[hcs1];simp;omega
  have hmin:Nat.min (n - i) (n+m - (i+m))=n - i:=by simp only[Nat.min_def];split <;> omega
  refine⟨(row1.toList.take ((i+m)*4)++cs1++row1.toList.drop ((i+m)*4+cs1.length)).toArray,by rw[hl1,hcs1,show(i+m)*4+(n - i)*4=(n+m)*4 by omega],fun W hN hB ty dc sc=> ?_⟩;have h:=xd W 22 22 ty 46 w.heap.size ((i+m)*4) (n+m - (i+m)) dc ⟨b,i*4,none⟩ (n - i) sc 4 row1 46 cs1 tS iE hN (by rw[hl1,hmin])
   (fun j v hj=>by
    have ha:(⟨b,i*4,none⟩:Addr).add j=⟨b,i*4+j,none⟩:=by unfold Addr.add;split <;> simp_all
    rw[ha];rw[hcs1,ZG] at hj;split at hj
    ·rw[ZI] at hj;simpa[World.cell?,hB] using hj
    ·cases hj)
   (by rw[hl1,hr1l];omega) (fun v hv=>h1 v (by rw[hcs1] at hv;exact hv))
  rw[h,hmin]
 obtain⟨row2,hrow2,hcpB⟩:=hcpB;have hfin:row2.toList.take ((n+m)*4)=cur.toList.take (i*4)++vs++(cur.toList.drop (i*4)).take ((n - i)*4):=by
  have e0:row1.toList.take ((i+m)*4)=cur.toList.take (i*4)++vs:=by
   rw[hrow1,hRt];exact ZZ (by simp[hvl];omega)
  rw[hrow2,e0];exact ZZ (by simp[hvl];omega)
 have hr2l:row2.size=G*4:=by
  have:=congrArg List.length hrow2;simp at this;omega
 have hA1:(w.drew.alloc (.cells ROW 46)).heap[w.heap.size]? =some (.cells ROW 46 (0,0)):=Y3 w.drew _;have hA2:∀x,x<w.heap.size->(w.drew.alloc (.cells ROW 46)).heap[x]? =w.heap[x]? :=fun x hx=>Y6 w.drew _ hx;have hA3:(w.drew.alloc (.cells ROW 46)).heap.size=w.heap.size+1:=by
  show(w.drew.heap.push _).size=_;rw[Array.size_push];rfl
 refine⟨row2,G,hGn,hr2l,hfin,?_⟩;have hG63:G<=9223372036854775807:=by
  have:=grownCap_le_maxLen w (n+m) c 46 (by unfold maxLen;omega);rw[hG] at this;unfold maxLen at this;omega
 have hGi:¬(G=i):=by omega
 have hGim:¬(G=i+m):=by omega
 have hci:¬(c=i):=by omega
 have hw1:IntKind.i64.wrap ((i:Int)+(m:Int))=(i:Int)+(m:Int):=by rw[IntKind.wrap_i64];omega
 have hw2:IntKind.i64.wrap ((n:Int)+(m:Int))=(n:Int)+(m:Int):=by rw[IntKind.wrap_i64];omega
 have hw3:IntKind.i64.wrap ((n:Int)+(m:Int) - (i:Int))=(n:Int)+(m:Int) - (i:Int):=by rw[IntKind.wrap_i64];omega
 have hb1:(0:Int)<=(i:Int)+(m:Int):=by omega
 have hin:i<=n:=by omega
 have htn:((i:Int)+(m:Int)).toNat=i+m:=by omega
 have hb3:(i:Int)<=(n:Int):=by omega
 clear hkk hik hold hrow1 hrow2 hfin hRt hd1 hROW hG;have mixed:Tryz.prog.follows .mixedOrders=true:=by kernel_rfl
 go_enter Tryz.func52,Tryz.f52
 go_wp2_with (at_builtin;refine Lib.wpList_append_run _ rfl _ _ _ _ rfl _ _ rfl rfl _ _ (hrz _) ?_)
 have hA1':((w.alloc (.cells ROW 46)).drew).heap[w.heap.size]? =some (.cells ROW 46 (0,0)):=hA1;have hA2':∀x,x<w.heap.size->((w.alloc (.cells ROW 46)).drew).heap[x]? =w.heap[x]? :=hA2;have hA3':((w.alloc (.cells ROW 46)).drew).heap.size=w.heap.size+1:=hA3;have hA4':((w.alloc (.cells ROW 46)).drew).os=w.os/\((w.alloc (.cells ROW 46)).drew).tape=w.tape/\((w.alloc (.cells ROW 46)).drew).output=w.output:=⟨rfl,rfl,rfl⟩;rw[hcpA _ hA1' (hA2' _ hvb)];generalize (w.alloc (.cells ROW 46)).drew=W0 at*;have hB1:(W0.setRow w.heap.size row1).heap[w.heap.size]? =some (.cells row1 46 (0,0)):=setRow_heap W0 w.heap.size ROW row1 46 _ hA1';have hB2:∀x,x<w.heap.size->(W0.setRow w.heap.size row1).heap[x]? =w.heap[x]? :=fun x hx=>by
  rw[<-hA2' x hx];have:w.heap.size≠x:=by omega
  simp[World.setRow,zQ,this]
 have hB3:(W0.setRow w.heap.size row1).heap.size=w.heap.size+1:=by rw[<-hA3'];simp[World.setRow]
 have hB4:(W0.setRow w.heap.size row1).os=w.os/\(W0.setRow w.heap.size row1).tape=w.tape/\(W0.setRow w.heap.size row1).output=w.output:=hA4';generalize W0.setRow w.heap.size row1=W1 at*;clear hA1' hA2' hA3' hA4' hcpA hrz hA1 hA2 hA3
 go_wp2
 have hD1:W1.drew.heap[w.heap.size]? =some (.cells row1 46 (0,0)):=hB1;have hD2:W1.drew.heap[b]? =some (.cells cur t (0,0)):=by rw[<-hg];exact hB2 b hbN
 go_region_law_o (refine step_copy_runI rfl _ _ 22 22 rfl (.slice (some ⟨w.heap.size,(i+m)*4,none⟩) (n+m - (i+m)) (G - (i+m))) (.slice (some ⟨b,i*4,none⟩) (n - i) (c - i)) (by simp[Act.eval,Act.put]) (by simp[Act.eval,Act.put]) (hcpB W1.drew hD1 hD2 3 (G - (i+m)) (c - i)) ?_)
 have hE1:(W1.drew.setRow w.heap.size row2).heap[w.heap.size]? =some (.cells row2 46 (0,0)):=setRow_heap W1.drew w.heap.size row1 row2 46 _ hD1;have hE2:∀x,x<w.heap.size->(W1.drew.setRow w.heap.size row2).heap[x]? =w.heap[x]? :=fun x hx=>by
  rw[<-hB2 x hx];have:w.heap.size≠x:=by omega
  simp[World.setRow,zQ,this];rfl
 have hE3:(W1.drew.setRow w.heap.size row2).heap.size=w.heap.size+1:=by
  rw[<-hB3];show(W1.heap.modify _ _).size=_;rw[Array.size_modify]
 have hE4:(W1.drew.setRow w.heap.size row2).os=w.os/\(W1.drew.setRow w.heap.size row2).tape=w.tape/\(W1.drew.setRow w.heap.size row2).output=w.output:=hB4;generalize W1.drew.setRow w.heap.size row2=W2 at*;clear hD1 hD2 hB1 hB2 hB3 hB4 hcpB
 go_wp2
 go_ret
 exact⟨rfl,hE1,hE3,hE2,hE4⟩
set_option maxHeartbeats 4000000 in
set_option maxRecDepth 100000 in
theorem ins_end(base:Option Addr)(n c vb voff m vc:Nat)(w w':World)(v':Value)(hm:0<m)(hnc:n<=c)(hlim:n<=lim)(hrun:(Builtin.append_ #[22,22] 22 #[.slice base n c,.slice (some ⟨vb,voff,none⟩) m vc]).run Tryz.prog w=.ok v' w'):
  Calls Tryz.prog 52 #[.slice base n c,.int .i64 n,.slice (some ⟨vb,voff,none⟩) m vc] w fun E W=>E=.returned v'/\W=w':=by
 have t3:=t3;have a3:=a3;have z3:=z3;have v3:=v3;have t4:=t4;have a4:=a4;have z4:=z4;have v4:=v4;have tS:=tS;have aS:=aS;have zS:=zS;have vS:=vS;have zE:=zE;have u3:=run_underlying t3;have u4:=run_underlying t4;have uS:=run_underlying tS;have hlim':n<=1073741824:=hlim;have hz1:¬((m:Int)=0):=by omega
 have mixed:Tryz.prog.follows .mixedOrders=true:=by kernel_rfl
 go_enter Tryz.func52,Tryz.f52
 cases base with
 |none=>
  go_wp2_with (at_builtin;refine Lib.wpList_append_run _ rfl _ _ _ _ rfl _ _ rfl rfl _ _ hrun ?_)
  all_goals (go_ret;exact⟨rfl,rfl⟩)
 |some a=>
  obtain⟨ab,ao,asp⟩:=a
  go_wp2_with (at_builtin;refine Lib.wpList_append_run _ rfl _ _ _ _ rfl _ _ rfl rfl _ _ hrun ?_)
  all_goals (go_ret;exact⟨rfl,rfl⟩)
end Go.Proofs.YtligpohiokpnhaaGreat.InsA
namespace Go.Proofs.YtligpohiokpnhaaGreat.InsB
open Go Go.Am Go.Proofs Go.Lib Go.RowKit
theorem t3:Tryz.prog.underlying 3=some (TypeDesc.int IntKind.i64):=by kernel_rfl
theorem a3:∀w,(isAgg 3).run Tryz.prog w=.ok false w:=fun w=>by kernel_rfl
theorem z3:∀w,(Go.sizeOf 3).run Tryz.prog w=.ok 1 w:=fun w=>by kernel_rfl
theorem v3:∀w,(zeroValue 3).run Tryz.prog w=.ok (Value.int IntKind.i64 0) w:=fun w=>by kernel_rfl
theorem t4:Tryz.prog.underlying 4=some TypeDesc.bool:=by kernel_rfl
theorem a4:∀w,(isAgg 4).run Tryz.prog w=.ok false w:=fun w=>by kernel_rfl
theorem z4:∀w,(Go.sizeOf 4).run Tryz.prog w=.ok 1 w:=fun w=>by kernel_rfl
theorem v4:∀w,(zeroValue 4).run Tryz.prog w=.ok (Value.bool false) w:=fun w=>by kernel_rfl
theorem tS:Tryz.prog.underlying 44=some (TypeDesc.slice 53):=by kernel_rfl
theorem aS:∀w,(isAgg 44).run Tryz.prog w=.ok false w:=fun w=>by kernel_rfl
theorem zS:∀w,(Go.sizeOf 44).run Tryz.prog w=.ok 1 w:=fun w=>by kernel_rfl
theorem vS:∀w,(zeroValue 44).run Tryz.prog w=.ok (Value.slice none 0 0) w:=fun w=>by kernel_rfl
theorem zE:∀w,(Go.sizeOf 53).run Tryz.prog w=.ok 9 w:=fun w=>by kernel_rfl
theorem iE:(Tryz.prog.info? 53).map (·.size)=some 9:=by kernel_rfl
theorem ins_list{α:Type}(C:List α)(p q:Nat)(hpq:p<=q)(hq:q<=C.length)(R:List α):(C.take q++R).take p=C.take p/\(C.take q++R).drop q=R:=by
 have hl:(C.take q).length=q:=by simp;omega
 refine⟨?_,?_⟩
 ·rw[zR (by omega),Zz]
  congr 1
  omega
 ·exact List.drop_left' hl
set_option maxHeartbeats 4000000 in
set_option maxRecDepth 100000 in
theorem ins_shift(b n c i vb voff m vc:Nat)(cur:Array Value)(t:TypeId)(vs:List Value)(w:World)(hi:i<n)(hm:0<m)(hroom:n+m<=c)(hlim:n+m<=lim)(hvb:vb≠b)
  (hg:w.heap[b]? =some (.cells cur t (0,0)))(hcs:cur.size=c*9)(hvl:vs.length=m*9)(h1:∀v∈(cur.toList.drop (i*9)).take ((n - i)*9),v.oneCell'=true)
  (hvs:∀j v,vs[j]? =some v->w.cell? ⟨vb,voff+j,none⟩=some v)(h1v:∀v∈vs,v.oneCell'=true)
  (tA:TypeId)(kA:Nat)(hsa:w.shape? vb=some (tA,kA))(hkA:kA≠0):
  ∃cur2:Array Value,cur2.toList=cur.toList.take (i*9)++vs++(cur.toList.drop (i*9)).take ((n - i)*9)++cur.toList.drop ((n+m)*9)/\
  Calls Tryz.prog 53 #[.slice (some ⟨b,0,none⟩) n c,.int .i64 i,.slice (some ⟨vb,voff,none⟩) m vc] w fun e w'=>
   e=.returned (.slice (some ⟨b,0,none⟩) (n+m) c)/\∃cur1,w'=(w.drew.setRow b cur1).setRow b cur2:=by
 have t3:=t3;have a3:=a3;have z3:=z3;have v3:=v3;have t4:=t4;have a4:=a4;have z4:=z4;have v4:=v4;have tS:=tS;have aS:=aS;have zS:=zS;have vS:=vS;have zE:=zE;have u3:=run_underlying t3;have u4:=run_underlying t4;have uS:=run_underlying tS;have hlim':n+m<=1073741824:=hlim;have hov:∀lb cb x,(callFunc 81 #[.slice (some ⟨vb,voff,none⟩) m vc,.slice (some ⟨b,x,none⟩) lb cb]).run Tryz.prog w=.ok (.value (.bool false)) w:=fun lb cb x=>by
  have hfr:∀o,w.frozen? ⟨b,o,none⟩=false:=fun o=>by simp[World.frozen?,hg]
  rw[run_callFunc_extern Tryz.func81 (by kernel_rfl) (by kernel_rfl) (by kernel_rfl) (e:=Extern.SlicesOverlaps.overlaps #[44,44] #[4]) (by kernel_rfl),
   V6 w 44 4 53 tS 9 zE ⟨vb,voff,none⟩ ⟨b,x,none⟩ m vc lb cb hvb tA t kA cur.size hsa (by simp[World.shape?,hg]) hkA (by omega) hfr (hfr x)]
  rfl
 have hz1:¬((m:Int)=0):=by omega
 have hz2:¬((i:Int)=(n:Int)):=by omega
 have hw1:IntKind.i64.wrap ((i:Int)+(m:Int))=(i:Int)+(m:Int):=by rw[IntKind.wrap_i64];omega
 have hb1:(0:Int)<=(i:Int)+(m:Int):=by omega
 have hin:i<=n:=by omega
 have htn:((i:Int)+(m:Int)).toNat=i+m:=by omega
 have hb2:¬(c=i+m):=by omega
 have hb3:(i:Int)<=(n:Int)+(m:Int):=by omega
 have hb4:¬(c=i):=by omega
 have hcell:∀(W:World) (j:Nat),W.heap=w.heap->W.cell? ⟨b,j,none⟩=cur.toList[j]? :=fun W j h=>by
  simp[World.cell?,h,hg]
 have hcp1:∃cur1:Array Value,cur1.toList=cur.toList.take ((i+m)*9)++(cur.toList.drop (i*9)).take ((n - i)*9)++cur.toList.drop ((n+m)*9)/\∀ty dc sc,(Builtin.copy_ #[44,44] ty #[.slice (some ⟨b,(i+m)*9,none⟩) (n+m - (i+m)) dc,.slice (some ⟨b,i*9,none⟩) (n+m - i) sc]).run Tryz.prog w.drew=.ok (goInt ((n - i:Nat):Int)) (w.drew.setRow b cur1):=by
  obtain⟨cs1,hcs1⟩:∃cs1,cs1=(cur.toList.drop (i*9)).take ((n - i)*9):=⟨_,rfl⟩;have hl1:cs1.length=(n - i)*9:=by rw[hcs1];simp;omega
  have hmin:Nat.min (n+m - i) (n+m - (i+m))=n - i:=by simp only[Nat.min_def];split <;> omega
  have h:=fun ty dc sc=>
   xd w.drew 44 44 ty 53 b ((i+m)*9) (n+m - (i+m)) dc ⟨b,i*9,none⟩ (n+m - i) sc 9 cur t cs1 tS iE hg (by rw[hl1,hmin])
   (fun j v hj=>by
    have ha:(⟨b,i*9,none⟩:Addr).add j=⟨b,i*9+j,none⟩:=by unfold Addr.add;split <;> simp_all
    rw[ha,hcell w.drew _ rfl];rw[hcs1,ZG] at hj;split at hj
    ·rwa [ZI] at hj
    ·cases hj)
   (by rw[hl1,hcs];omega) (fun v hv=>h1 v (by rw[hcs1] at hv;exact hv))
  refine⟨(cur.toList.take ((i+m)*9)++cs1++cur.toList.drop ((i+m)*9+cs1.length)).toArray,?_,fun ty dc sc=> ?_⟩
  ·rw[hl1,hcs1,show(i+m)*9+(n - i)*9=(n+m)*9 by omega]
  ·rw[h,hmin]
 obtain⟨cur1,hcur1,hcp1⟩:=hcp1;have hcur1l:cur1.size=cur.size:=by
  have:=congrArg List.length hcur1;simp at this;omega
 have hne:∀x,x≠b->(w.drew.setRow b cur1).heap[x]? =w.heap[x]? :=fun x hx=>by
  simp[World.setRow,zQ,Ne.symm hx];rfl
 have hg1:(w.drew.setRow b cur1).heap[b]? =some (.cells cur1 t (0,0)):=setRow_heap w.drew b cur cur1 t _ hg;have hcp2:∃cur2:Array Value,cur2.toList=cur1.toList.take (i*9)++vs++cur1.toList.drop (i*9+m*9)/\∀ty dc,(Builtin.copy_ #[44,44] ty #[.slice (some ⟨b,i*9,none⟩) (n+m - i) dc,.slice (some ⟨vb,voff,none⟩) m vc]).run Tryz.prog (w.drew.setRow b cur1)=.ok (goInt m) ((w.drew.setRow b cur1).setRow b cur2):=by
  have hmin:Nat.min m (n+m - i)=m:=by simp only[Nat.min_def];split <;> omega
  have h:=fun ty dc=>
   xd (w.drew.setRow b cur1) 44 44 ty 53 b (i*9) (n+m - i) dc ⟨vb,voff,none⟩ m vc 9 cur1 t vs tS iE hg1 (by rw[hvl,hmin])
   (fun j v hj=>by
    have ha:(⟨vb,voff,none⟩:Addr).add j=⟨vb,voff+j,none⟩:=by unfold Addr.add;split <;> simp_all
    rw[ha];have:=hvs j v hj;unfold World.cell? at this ⊢;rw[hne vb hvb];exact this)
   (by rw[hvl,hcur1l,hcs];omega) h1v
  refine⟨(cur1.toList.take (i*9)++vs++cur1.toList.drop (i*9+vs.length)).toArray,?_,fun ty dc=> ?_⟩
  ·rw[hvl]
  ·rw[h,hmin]
 obtain⟨cur2,hcur2,hcp2⟩:=hcp2;have hfin:cur2.toList=cur.toList.take (i*9)++vs++(cur.toList.drop (i*9)).take ((n - i)*9)++cur.toList.drop ((n+m)*9):=by
  rw[hcur2,hcur1];simp only[ZD];obtain⟨e1,e2⟩:=ins_list cur.toList (i*9) ((i+m)*9) (by omega) (by simp;omega) ((cur.toList.drop (i*9)).take ((n - i)*9)++cur.toList.drop ((n+m)*9));rw[e1,show i*9+m*9=(i+m)*9 by omega,e2]
 refine⟨cur2,hfin,?_⟩;clear hcur1 hcur2 hfin;have mixed:Tryz.prog.follows .mixedOrders=true:=by kernel_rfl
 go_enter Tryz.func53,Tryz.f53
 go_wp2_with (simp only[hov])
 go_region_law_o (refine step_copy_runI rfl _ _ 44 44 rfl _ _ (by simp[Act.eval,Act.put]) (by simp[Act.eval,Act.put]) (hcp1 _ _ _) ?_)
 go_wp2_with (at_builtin;refine wpList_copy_runI _ rfl _ _ 44 44 rfl _ _ rfl rfl (hcp2 _ _) ?_)
 go_ret
 exact⟨rfl,cur1,rfl⟩
set_option maxHeartbeats 4000000 in
set_option maxRecDepth 100000 in
theorem ins_grow(b n c i vb voff m vc:Nat)(cur:Array Value)(t:TypeId)(vs:List Value)(w:World)(hi:i<n)(hm:0<m)(hnc:n<=c)(hroom:c<n+m)(hlim:n+m<=lim)(hvb:vb<w.heap.size)
  (hg:w.heap[b]? =some (.cells cur t (0,0)))(hcs:cur.size=c*9)(hvl:vs.length=m*9)(h1:∀v∈(cur.toList.drop (i*9)).take ((n - i)*9),v.oneCell'=true)
  (hvs:∀j v,vs[j]? =some v->w.cell? ⟨vb,voff+j,none⟩=some v)(h1v:∀v∈vs,v.oneCell'=true)
  (hok:okT Tryz.prog 53=true)(hz:YH Tryz.prog 53=true)(hby:Y7 Tryz.prog 53=true)(hshE:(shOf Tryz.prog 53).size=9):
  ∃(row:Array Value) (G:Nat),n+m<=G/\row.size=G*9/\row.toList.take ((n+m)*9)=cur.toList.take (i*9)++vs++(cur.toList.drop (i*9)).take ((n - i)*9)/\
  Calls Tryz.prog 53 #[.slice (some ⟨b,0,none⟩) n c,.int .i64 i,.slice (some ⟨vb,voff,none⟩) m vc] w fun e w'=>
   e=.returned (.slice (some ⟨w.heap.size,0,none⟩) (n+m) G)/\w'.heap[w.heap.size]? =some (.cells row 53 (0,0))/\w'.heap.size=w.heap.size+1/\(∀x,x<w.heap.size->w'.heap[x]? =w.heap[x]?)/\w'.os=w.os/\w'.tape=w.tape/\w'.output=w.output:=by
 have t3:=t3;have a3:=a3;have z3:=z3;have v3:=v3;have t4:=t4;have a4:=a4;have z4:=z4;have v4:=v4;have tS:=tS;have aS:=aS;have zS:=zS;have vS:=vS;have zE:=zE;have u3:=run_underlying t3;have u4:=run_underlying t4;have uS:=run_underlying tS;obtain⟨i0,z0,hi0,hz0,hs0,hzc⟩:=okE w hok hz;rw[hshE] at hs0 hzc;have hb:i0.bytes<=1024:=by
  unfold Y7 at hby
  rw[hi0] at hby
  simpa using hby
 have hbb:(n+m)*i0.bytes<=140737488355328:=by
  have:(n+m)*i0.bytes<=lim*1024:=Z8 hlim hb;unfold lim at this;omega
 have hlim':n+m<=1073741824:=hlim;have hbN:b<w.heap.size:=Yx hg;have hz1:¬((m:Int)=0):=by omega
 have hz2:¬((i:Int)=(n:Int)):=by omega
 have hz3:(c:Int)<(n:Int)+(m:Int):=by omega
 have hkk:(n:Int)+(m:Int) - (i:Int)=((n+m - i:Nat):Int):=by omega
 have hik:i+(n+m - i)=n+m:=by omega
 have hold:(Builtin.firstCells i0.size i (.slice (some ⟨b,0,none⟩) i c)).run Tryz.prog w.drew=.ok (cur.toList.take (i*9)).toArray w.drew:=by
  rw[hs0];refine run_firstCells_some w.drew 9 i ⟨b,0,none⟩ i c (cur.toList.take (i*9)) (by simp;omega) fun j v hj=> ?_;have ha:(⟨b,0,none⟩:Addr).add j=⟨b,j,none⟩:=by unfold Addr.add;split <;> simp_all
  rw[ha];rw[ZG] at hj;split at hj
  ·have hg':w.drew.heap[b]? =some (.cells cur t (0,0)):=hg;simpa[World.cell?,hg'] using hj
  ·cases hj
 obtain⟨G,hG⟩:∃G,grownCap w (n+m) c 53=G:=⟨_,rfl⟩;obtain⟨ROW,hROW⟩:∃ROW:Array Value,(cur.toList.take (i*9)).toArray++Builtin.zeroCells z0.cells (n+m - i)++Builtin.zeroCells z0.cells (G - (n+m))=ROW:=⟨_,rfl⟩;have hGn:n+m<=G:=by rw[<-hG];exact grownCap_ge w _ _ _
 have hRl:ROW.size=G*9:=by
  rw[<-hROW];simp only[Array.size_append,List.size_toArray,size_zeroCells,hzc,Zh,Zm];omega
 have hRt:ROW.toList.take (i*9)=cur.toList.take (i*9):=by
  rw[<-hROW];simp only[Array.toList_append,ZD];exact ZZ (by simp;omega)
 have hrz:∀ty,(Builtin.append_ #[44,3] ty #[.slice (some ⟨b,0,none⟩) i c,.int .i64 ((n:Int)+(m:Int) - (i:Int))]).run Tryz.prog w=
   .ok (.slice (some ⟨w.heap.size,0,none⟩) (n+m) G) (w.drew.alloc (.cells ROW 53)):=fun ty=>by
  have h:=Lib.run_append_grow_zeros w 44 3 ty 53 i0 z0 .i64 .i64 tS t3 hi0 hz0 (some ⟨b,0,none⟩) i c (cur.toList.take (i*9)) hold (n+m - i) (by omega) (by rw[hs0];omega) (by omega) (by omega)
   (by have:(n+m - i)*i0.bytes<=(n+m)*i0.bytes:=Z8 (by omega) (Ze _);omega) (by rw[hik];exact growslice_fits hroom hbb)
  rw[hik,hG] at h;rw[hkk,<-hROW];exact h
 have hd1:ROW.toList.length=G*9:=by simpa using hRl
 have hGn':(n+m)*9<=G*9:=Z8 hGn (Ze _);have hcpA:∃row1:Array Value,row1.toList=ROW.toList.take (i*9)++vs++ROW.toList.drop (i*9+m*9)/\∀W:World,W.heap[w.heap.size]? =some (.cells ROW 53 (0,0))->W.heap[vb]? =w.heap[vb]?->∀ty dc,(Builtin.copy_ #[44,44] ty #[.slice (some ⟨w.heap.size,i*9,none⟩) (n+m - i) dc,.slice (some ⟨vb,voff,none⟩) m vc]).run Tryz.prog W=.ok (goInt m) (W.setRow w.heap.size row1):=by
  have hmin:Nat.min m (n+m - i)=m:=by simp only[Nat.min_def];split <;> omega
  refine⟨(ROW.toList.take (i*9)++vs++ROW.toList.drop (i*9+vs.length)).toArray,by rw[hvl],fun W hN hV ty dc=> ?_⟩;have h:=xd W 44 44 ty 53 w.heap.size (i*9) (n+m - i) dc ⟨vb,voff,none⟩ m vc 9 ROW 53 vs tS iE hN (by rw[hvl,hmin])
   (fun j v hj=>by
    have ha:(⟨vb,voff,none⟩:Addr).add j=⟨vb,voff+j,none⟩:=by unfold Addr.add;split <;> simp_all
    rw[ha];have:=hvs j v hj;unfold World.cell? at this ⊢;rw[hV];exact this)
   (by rw[hvl,hRl];omega) h1v
  rw[h,hmin]
 obtain⟨row1,hrow1,hcpA⟩:=hcpA;have hr1l:row1.size=G*9:=by
  have:=congrArg List.length hrow1;simp at this;omega
 have hcpB:∃row2:Array Value,row2.toList=row1.toList.take ((i+m)*9)++(cur.toList.drop (i*9)).take ((n - i)*9)++row1.toList.drop ((n+m)*9)/\∀W:World,W.heap[w.heap.size]? =some (.cells row1 53 (0,0))->W.heap[b]? =some (.cells cur t (0,0))->∀ty dc sc,(Builtin.copy_ #[44,44] ty #[.slice (some ⟨w.heap.size,(i+m)*9,none⟩) (n+m - (i+m)) dc,.slice (some ⟨b,i*9,none⟩) (n - i) sc]).run Tryz.prog W=.ok (goInt ((n - i:Nat):Int)) (W.setRow w.heap.size row2):=by
  obtain⟨cs1,hcs1⟩:∃cs1,cs1=(cur.toList.drop (i*9)).take ((n - i)*9):=⟨_,rfl⟩;have hl1:cs1.length=(n - i)*9:=by rw[hcs1];simp;omega
  have hmin:Nat.min (n - i) (n+m - (i+m))=n - i:=by simp only[Nat.min_def];split <;> omega
  refine⟨(row1.toList.take ((i+m)*9)++cs1++row1.toList.drop ((i+m)*9+cs1.length)).toArray,by rw[hl1,hcs1,show(i+m)*9+(n - i)*9=(n+m)*9 by omega],fun W hN hB ty dc sc=> ?_⟩;have h:=xd W 44 44 ty 53 w.heap.size ((i+m)*9) (n+m - (i+m)) dc ⟨b,i*9,none⟩ (n - i) sc 9 row1 53 cs1 tS iE hN (by rw[hl1,hmin])
   (fun j v hj=>by
    have ha:(⟨b,i*9,none⟩:Addr).add j=⟨b,i*9+j,none⟩:=by unfold Addr.add;split <;> simp_all
    rw[ha];rw[hcs1,ZG] at hj;split at hj
    ·rw[ZI] at hj;simpa[World.cell?,hB] using hj
    ·cases hj)
   (by rw[hl1,hr1l];omega) (fun v hv=>h1 v (by rw[hcs1] at hv;exact hv))
  rw[h,hmin]
 obtain⟨row2,hrow2,hcpB⟩:=hcpB;have hfin:row2.toList.take ((n+m)*9)=cur.toList.take (i*9)++vs++(cur.toList.drop (i*9)).take ((n - i)*9):=by
  have e0:row1.toList.take ((i+m)*9)=cur.toList.take (i*9)++vs:=by
   rw[hrow1,hRt];exact ZZ (by simp[hvl];omega)
  rw[hrow2,e0];exact ZZ (by simp[hvl];omega)
 have hr2l:row2.size=G*9:=by
  have:=congrArg List.length hrow2;simp at this;omega
 have hA1:(w.drew.alloc (.cells ROW 53)).heap[w.heap.size]? =some (.cells ROW 53 (0,0)):=Y3 w.drew _;have hA2:∀x,x<w.heap.size->(w.drew.alloc (.cells ROW 53)).heap[x]? =w.heap[x]? :=fun x hx=>Y6 w.drew _ hx;have hA3:(w.drew.alloc (.cells ROW 53)).heap.size=w.heap.size+1:=by
  show(w.drew.heap.push _).size=_;rw[Array.size_push];rfl
 refine⟨row2,G,hGn,hr2l,hfin,?_⟩;have hG63:G<=9223372036854775807:=by
  have:=grownCap_le_maxLen w (n+m) c 53 (by unfold maxLen;omega);rw[hG] at this;unfold maxLen at this;omega
 have hGi:¬(G=i):=by omega
 have hGim:¬(G=i+m):=by omega
 have hci:¬(c=i):=by omega
 have hw1:IntKind.i64.wrap ((i:Int)+(m:Int))=(i:Int)+(m:Int):=by rw[IntKind.wrap_i64];omega
 have hw2:IntKind.i64.wrap ((n:Int)+(m:Int))=(n:Int)+(m:Int):=by rw[IntKind.wrap_i64];omega
 have hw3:IntKind.i64.wrap ((n:Int)+(m:Int) - (i:Int))=(n:Int)+(m:Int) - (i:Int):=by rw[IntKind.wrap_i64];omega
 have hb1:(0:Int)<=(i:Int)+(m:Int):=by omega
 have hin:i<=n:=by omega
 have htn:((i:Int)+(m:Int)).toNat=i+m:=by omega
 have hb3:(i:Int)<=(n:Int):=by omega
 clear hkk hik hold hrow1 hrow2 hfin hRt hd1 hROW hG;have mixed:Tryz.prog.follows .mixedOrders=true:=by kernel_rfl
 go_enter Tryz.func53,Tryz.f53
 go_wp2_with (at_builtin;refine Lib.wpList_append_run _ rfl _ _ _ _ rfl _ _ rfl rfl _ _ (hrz _) ?_)
 have hA1':((w.alloc (.cells ROW 53)).drew).heap[w.heap.size]? =some (.cells ROW 53 (0,0)):=hA1;have hA2':∀x,x<w.heap.size->((w.alloc (.cells ROW 53)).drew).heap[x]? =w.heap[x]? :=hA2;have hA3':((w.alloc (.cells ROW 53)).drew).heap.size=w.heap.size+1:=hA3;have hA4':((w.alloc (.cells ROW 53)).drew).os=w.os/\((w.alloc (.cells ROW 53)).drew).tape=w.tape/\((w.alloc (.cells ROW 53)).drew).output=w.output:=⟨rfl,rfl,rfl⟩;rw[hcpA _ hA1' (hA2' _ hvb)];generalize (w.alloc (.cells ROW 53)).drew=W0 at*;have hB1:(W0.setRow w.heap.size row1).heap[w.heap.size]? =some (.cells row1 53 (0,0)):=setRow_heap W0 w.heap.size ROW row1 53 _ hA1';have hB2:∀x,x<w.heap.size->(W0.setRow w.heap.size row1).heap[x]? =w.heap[x]? :=fun x hx=>by
  rw[<-hA2' x hx];have:w.heap.size≠x:=by omega
  simp[World.setRow,zQ,this]
 have hB3:(W0.setRow w.heap.size row1).heap.size=w.heap.size+1:=by rw[<-hA3'];simp[World.setRow]
 have hB4:(W0.setRow w.heap.size row1).os=w.os/\(W0.setRow w.heap.size row1).tape=w.tape/\(W0.setRow w.heap.size row1).output=w.output:=hA4';generalize W0.setRow w.heap.size row1=W1 at*;clear hA1' hA2' hA3' hA4' hcpA hrz hA1 hA2 hA3
 go_wp2
 have hD1:W1.drew.heap[w.heap.size]? =some (.cells row1 53 (0,0)):=hB1;have hD2:W1.drew.heap[b]? =some (.cells cur t (0,0)):=by rw[<-hg];exact hB2 b hbN
 go_region_law_o (refine step_copy_runI rfl _ _ 44 44 rfl (.slice (some ⟨w.heap.size,(i+m)*9,none⟩) (n+m - (i+m)) (G - (i+m))) (.slice (some ⟨b,i*9,none⟩) (n - i) (c - i)) (by simp[Act.eval,Act.put]) (by simp[Act.eval,Act.put]) (hcpB W1.drew hD1 hD2 3 (G - (i+m)) (c - i)) ?_)
 have hE1:(W1.drew.setRow w.heap.size row2).heap[w.heap.size]? =some (.cells row2 53 (0,0)):=setRow_heap W1.drew w.heap.size row1 row2 53 _ hD1;have hE2:∀x,x<w.heap.size->(W1.drew.setRow w.heap.size row2).heap[x]? =w.heap[x]? :=fun x hx=>by
  rw[<-hB2 x hx];have:w.heap.size≠x:=by omega
  simp[World.setRow,zQ,this];rfl
 have hE3:(W1.drew.setRow w.heap.size row2).heap.size=w.heap.size+1:=by
  rw[<-hB3];show(W1.heap.modify _ _).size=_;rw[Array.size_modify]
 have hE4:(W1.drew.setRow w.heap.size row2).os=w.os/\(W1.drew.setRow w.heap.size row2).tape=w.tape/\(W1.drew.setRow w.heap.size row2).output=w.output:=hB4;generalize W1.drew.setRow w.heap.size row2=W2 at*;clear hD1 hD2 hB1 hB2 hB3 hB4 hcpB
 go_wp2
 go_ret
 exact⟨rfl,hE1,hE3,hE2,hE4⟩
set_option maxHeartbeats 4000000 in
set_option maxRecDepth 100000 in
theorem ins_end(base:Option Addr)(n c vb voff m vc:Nat)(w w':World)(v':Value)(hm:0<m)(hnc:n<=c)(hlim:n<=lim)(hrun:(Builtin.append_ #[44,44] 44 #[.slice base n c,.slice (some ⟨vb,voff,none⟩) m vc]).run Tryz.prog w=.ok v' w'):
  Calls Tryz.prog 53 #[.slice base n c,.int .i64 n,.slice (some ⟨vb,voff,none⟩) m vc] w fun E W=>E=.returned v'/\W=w':=by
 have t3:=t3;have a3:=a3;have z3:=z3;have v3:=v3;have t4:=t4;have a4:=a4;have z4:=z4;have v4:=v4;have tS:=tS;have aS:=aS;have zS:=zS;have vS:=vS;have zE:=zE;have u3:=run_underlying t3;have u4:=run_underlying t4;have uS:=run_underlying tS;have hlim':n<=1073741824:=hlim;have hz1:¬((m:Int)=0):=by omega
 have mixed:Tryz.prog.follows .mixedOrders=true:=by kernel_rfl
 go_enter Tryz.func53,Tryz.f53
 cases base with
 |none=>
  go_wp2_with (at_builtin;refine Lib.wpList_append_run _ rfl _ _ _ _ rfl _ _ rfl rfl _ _ hrun ?_)
  all_goals (go_ret;exact⟨rfl,rfl⟩)
 |some a=>
  obtain⟨ab,ao,asp⟩:=a
  go_wp2_with (at_builtin;refine Lib.wpList_append_run _ rfl _ _ _ _ rfl _ _ rfl rfl _ _ hrun ?_)
  all_goals (go_ret;exact⟨rfl,rfl⟩)
end Go.Proofs.YtligpohiokpnhaaGreat.InsB
namespace Go.Proofs.YtligpohiokpnhaaGreat
open Go.Am Go.ChangeShapes Go.WideShapes Go.ChangeAt Go.RowKit
theorem Tryz.own:ownKnob Tryz.prog.godebug=none:=by kernel_rfl
theorem Tryz.zxz:laidOutB Tryz.prog=true:=by kernel_rfl
theorem Tryz.mixed:Tryz.prog.follows .mixedOrders=true:=by kernel_rfl
def prim:FuncId->Option Yw:=fun g=>bif Nat.beq 52 g then some (xG (some 4)) else(fun g=>bif Nat.beq 53 g then some (xi (some 9)) else(fun _=>none) g) g
theorem LE:qI Tryz.prog 52 (xG (some 4)):=by
 have h:shOf Tryz.prog 46=some 4:=by kernel_rfl
 have k:=dq (P:=Tryz.prog) (f:=52) (c:=Tryz.f52.body.get (by kernel_rfl)) (t:=22) (e:=46) (by rw[h];exact⟨InsA.ins_end,InsA.ins_shift,fun b n c i vb voff m vc cur t vs w hi hm hnc hr hl hvb hg hcs hvl h1 hvs h1v=>InsA.ins_grow b n c i vb voff m vc cur t vs w hi hm hnc hr hl hvb hg hcs hvl h1 hvs h1v (by kernel_rfl) (by kernel_rfl) (by kernel_rfl) (by rw[h];rfl)⟩) Tryz.func52 (by kernel_rfl) (by decide+kernel) (by kernel_rfl) (by kernel_rfl) (by kernel_rfl) (by kernel_rfl);rw[h] at k;exact k
theorem LF:qI Tryz.prog 53 (xi (some 9)):=by
 have h:shOf Tryz.prog 53=some 9:=by kernel_rfl
 have k:=dp (P:=Tryz.prog) (f:=53) (c:=Tryz.f53.body.get (by kernel_rfl)) (t:=44) (e:=53) (by rw[h];exact⟨InsB.ins_end,InsB.ins_shift,fun b n c i vb voff m vc cur t vs w hi hm hnc hr hl hvb hg hcs hvl h1 hvs h1v=>InsB.ins_grow b n c i vb voff m vc cur t vs w hi hm hnc hr hl hvb hg hcs hvl h1 hvs h1v (by kernel_rfl) (by kernel_rfl) (by kernel_rfl) (by rw[h];rfl)⟩) Tryz.func53 (by kernel_rfl) (by decide+kernel) (by kernel_rfl) (by kernel_rfl) (by kernel_rfl) (by kernel_rfl);rw[h] at k;exact k
theorem LG:xE Tryz.prog prim:=UI LE (UI LF dh)
theorem sound:SoundO Tryz.prog (sem (find tab) prim):=de Tryz.mixed (dg LD) LG
end Go.Proofs.YtligpohiokpnhaaGreat
namespace Go.Proofs.YtligpohiokpnhaaGreat
open Go.Am
noncomputable abbrev Z:=sem (find tab) prim
noncomputable abbrev S:=sem (find tab) prim .fn
noncomputable abbrev L:=sloop (find tab) prim

theorem LH:∀(t:Tm) (hp:Heap) (r1 r2:Nat) (l:Nat),t.size<1000000000->l<1000000000->hp[r1]? =some (.box none (.pv none (.int .i64 ((l+1:Nat):Int))))->hp[r2]? =some (.box none (.func (.func 101) [] [.ptr r1 0,.ptr r2 0]))->
  S 101 [t.av,.ptr r1 0,.ptr r2 0] hp=some (.ret (.tuple []),hp.set r1 (.box none (.pv none (.int .i64 ((l+1 - t.size:Nat):Int))))):=by
 intro t
 induction t using Tm.zxd with
 |h t ih=>
  intro hp r1 r2 l ht hl h1 h2;have hr1:=YT h1;have hr2:=YT h2;have hne:r1≠r2:=by
   rintro rfl;rw[h1] at h2;cases h2
  have hts:=t.size_eq;have hlen:=Tm.zw9 t.args;refine Xn rfl rfl rfl rfl ?_;have e1:∀y x,(hp.set r1 y++[x])[r1]? =some y:=fun y x=>by rw[ji (by simpa using hr1)];simp[hr1]
  have e2:∀y x,(hp.set r1 y++[x])[r2]? =some (.box none (.func (.func 101) [] [.ptr r1 0,.ptr r2 0])):=fun y x=>by rw[ji (by simpa using hr2),Zk hne,h2]
  have e3:∀y x,(hp.set r1 y++[x])[hp.length]? =some x:=fun y x=>by simp
  have e4:∀y x z,(hp.set r1 y++[x]).set r1 z=hp.set r1 z++[x]:=fun y x z=>by rw[UY (by simpa using hr1)];simp
  have e5:(↑(l+1) - 1:Int)=((l+1 - (1+Tm.sizes (t.args.take 0)):Nat):Int):=by simp[Tm.sizes]
  have w1:IntKind.i64.wrap ((l+1:Nat) - 1:Int)=((l+1 - (1+Tm.sizes (t.args.take 0)):Nat):Int):=by rw[Yf (by omega) (by omega),e5]
  simp -dsimp -implicitDefEqProofs only[go_sem,seval,↓reduceIte,Tm.av,ji hr1,h1,Lr,UY hr1,w1];refine Qn (fun n st=>∃i:Nat,n=t.args.length - i/\i<=t.args.length/\st=⟨[(1,.ptr r1 0),(2,.ptr r2 0),(3,.ptr hp.length 0),(4,.pv none (.int .i64 i))],hp.set r1 (.box none (.pv none (.int .i64 ((l+1 - (1+Tm.sizes (t.args.take i)):Nat):Int))))++[.box (some 4) (.pv (some 4) t.pv)]⟩) ⟨0,rfl,Zd _,?_⟩ ?_
  ·simp -dsimp -implicitDefEqProofs only[go_sem,seval,↓reduceIte]
   try rfl
  ·rintro n st ⟨i,hn,hi,rfl⟩;by_cases h:i<t.args.length
   ·have hc:(i:Int)<(t.args.length:Int):=by omega
    obtain⟨u,hu⟩:∃u,t.args[i]? =some u:=⟨_,Zf h⟩;have hst:=Tm.zxg hu;have hum:=Zi hu;have husz:=Tm.zxa hum;by_cases h0:0<((l+1 - (1+Tm.sizes (t.args.take i)):Nat):Int)
    ·obtain⟨l',hl'⟩:∃l':Nat,l+1 - (1+Tm.sizes (t.args.take i))=l'+1:=⟨l+1 - (1+Tm.sizes (t.args.take i)) - 1,by omega⟩;have hcall:=ih u hum (hp.set r1 (.box none (.pv none (.int .i64 ((l'+1:Nat):Int))))++[.box (some 4) (.pv (some 4) t.pv)]) r1 r2 l' (by omega) (by omega) (e1 _ _) (e2 _ _);rw[e4] at hcall;have e6:l'+1 - u.size=l+1 - (1+Tm.sizes (t.args.take (i+1))):=by omega
     have w2:IntKind.i64.wrap ((i:Int)+1)=((i+1:Nat):Int):=by rw[Yf (by omega) (by omega)];omega
     rw[hl'] at h0 ⊢;simp -dsimp -implicitDefEqProofs only[go_sem,seval,↓reduceIte,e1,e2,e3,e4,Yh,Tm.pvs_len,hc,h0,Yd (Tm.pvs_get hu),show AV.pv (some 4) u.pv=u.av from rfl,hcall,e6,w2];refine⟨t.args.length - (i+1),by omega,i+1,rfl,by omega,?_⟩;rw[qM (by simp)]
    ·simp -dsimp -implicitDefEqProofs only[go_sem,seval,↓reduceIte,e1,e2,e3,e4,Yh,Tm.pvs_len,hc,h0];rw[ZZ (by simp)];have hle:Tm.sizes (t.args.take i)<=Tm.sizes t.args:=Tm.zxb _ _
     congr 5
     omega
   ·have hc:¬(i:Int)<(t.args.length:Int):=by omega
    obtain rfl:i=t.args.length:=by omega
    simp -dsimp -implicitDefEqProofs only[go_sem,seval,↓reduceIte,e1,e2,e3,e4,Yh,Tm.pvs_len,hc];rw[ZZ (by simp),ZP,hts]

theorem jm(t:Tm)(hp:Heap)(h:t.size<1000000000):S 88 [t.av] hp=some (.ret (.pv none (.int .i64 ((min t.size 2001:Nat):Int))),hp):=by
 refine Ya rfl rfl rfl (z9 [(some 4,t.pv)]) rfl ?_;have hc:=LH t [.box (some 4) (.pv (some 4) t.pv),.box none (.pv none (.int .i64 2001)),.box none (.func (.func 101) [] [.ptr 1 0,.ptr 2 0])] 1 2 2000 h (by omega) rfl rfl;have w1:IntKind.i64.wrap (2001 - ((2000+1 - t.size:Nat):Int))=((min t.size 2001:Nat):Int):=by rw[Yf (by omega) (by omega)];omega
 simp only[Tm.av] at hc;simp -dsimp -implicitDefEqProofs only[go_sem,seval,↓reduceIte,Tm.av,HM (Zd _),hc,w1]

theorem LI(t:Tm)(Q:AExit->St->Prop)(h:∀r,Q .normal ⟨(1,.ptr 0 0)::(3,.pv none (.bool t.node))::r,[.box (some 4) (.pv (some 4) t.pv)]⟩):
  W Z L 0 c89k15 ⟨[(1,.ptr 0 0),(3,.pv none (.bool false)),(6,.pv none (.int .i64 t.kind))],[.box (some 4) (.pv (some 4) t.pv)]⟩ Q:=by
 (repeat' (first|(simp -dsimp -implicitDefEqProofs only[c89k15,go_sem,seval,↓reduceIte,Yo,yt,YJ,Yh,Tm.pvs_len, *])|(refine yM (fun _=> ?_) (fun _=> ?_))))
 all_goals (simp -dsimp -implicitDefEqProofs only[Tm.node,go_sem,seval,↓reduceIte, *] at h;exact h _)

theorem LJ:∀(t:Tm) (hp:Heap),t.size<1000000000->S 89 [t.av] hp=some (.ret (.pv none (.bool t.fits)),hp):=by
 intro t
 induction t using Tm.zxd with
 |h t ih=>
  intro hp ht;have hts:=t.size_eq;have hlen:=Tm.zw9 t.args;refine Ya rfl rfl rfl (z9 [(some 4,t.pv)]) rfl ?_;simp -dsimp -dsimp -implicitDefEqProofs only[go_sem,seval,↓reduceIte,Yo,yt,YJ,Yh,Tm.pvs_len];refine LI t _ (fun r=> ?_);simp -dsimp -dsimp -implicitDefEqProofs only[go_sem,seval,↓reduceIte,Yo,yt,YJ,Yh,Tm.pvs_len];refine Qn (fun n st=>∃i:Nat,n=t.args.length - i/\i<=t.args.length/\st=⟨[(1,.ptr 0 0),(3,.pv none (.bool (t.node && Tm.fitsAll (t.args.take i)))),(4,.pv none (.int .i64 i))],[.box (some 4) (.pv (some 4) t.pv)]⟩) (n:=t.args.length) ⟨0,rfl,Zd _,?_⟩ ?_
  ·simp -dsimp -implicitDefEqProofs only[go_sem,seval,↓reduceIte,Tm.fitsAll]
   try rfl
  ·rintro n st ⟨i,hn,hi,rfl⟩;by_cases h:i<t.args.length
   ·have hc:(i:Int)<(t.args.length:Int):=by omega
    obtain⟨u,hu⟩:∃u,t.args[i]? =some u:=⟨_,Zf h⟩;have hum:=Zi hu;have husz:=Tm.zxa hum;have hcall:=fun hp=>ih u hum hp (by omega);have e6:Tm.fitsAll (t.args.take (i+1))=(Tm.fitsAll (t.args.take i) && u.fits):=Tm.zxl hu;have w2:IntKind.i64.wrap ((i:Int)+1)=((i+1:Nat):Int):=by rw[Yf (by omega) (by omega)];omega
    by_cases h0:(t.node && Tm.fitsAll (t.args.take i))=true
    ·simp -dsimp -dsimp -implicitDefEqProofs only[go_sem,seval,↓reduceIte,Yh,Tm.pvs_len,hc,h0,Yd (Tm.pvs_get hu),show AV.pv (some 4) u.pv=u.av from rfl,hcall,w2];refine⟨t.args.length - (i+1),by omega,i+1,rfl,by omega,?_⟩;rw[e6,<-Bool.and_assoc,h0,Bool.true_and]
    ·simp -dsimp -implicitDefEqProofs only[go_sem,seval,↓reduceIte,Yh,Tm.pvs_len,hc,h0];rw[Tm.zxf];have hp:Tm.fitsAll t.args=(Tm.fitsAll (t.args.take i) && Tm.fitsAll (t.args.drop i)):=by rw[<-Tm.zxh,Z6]
     rw[hp,<-Bool.and_assoc,Bool.eq_false_iff.2 h0];rfl
   ·have hc:¬(i:Int)<(t.args.length:Int):=by omega
    obtain rfl:i=t.args.length:=by omega
    simp -dsimp -implicitDefEqProofs only[go_sem,seval,↓reduceIte,Yh,Tm.pvs_len,hc];rw[Tm.zxf,ZP]

theorem qQ(t:Tm)(hp:Heap)(h:t.size<1000000000):S 64 [t.av] hp=some (.ret (.pv none (.bool t.valid)),hp):=by
 refine Ya rfl rfl rfl (z9 [(some 4,t.pv)]) rfl ?_;have h1:=fun hp=>jm t hp h;have h2:=fun hp=>LJ t hp h;unfold Tm.valid;simp only[Tm.av] at h1 h2;by_cases hs:t.size<=2000
 ·have hc:((min t.size 2001:Nat):Int)<=2000:=by omega
  (repeat' (first|(simp -dsimp -implicitDefEqProofs only[go_sem,seval,↓reduceIte,Tm.av, *])|(refine yM (fun _=> ?_) (fun _=> ?_))))
 ·have hc:¬((min t.size 2001:Nat):Int)<=2000:=by omega
  (repeat' (first|(simp -dsimp -implicitDefEqProofs only[go_sem,seval,↓reduceIte,Tm.av, *])|(refine yM (fun _=> ?_) (fun _=> ?_))))

theorem LK:∀(t:Tm) (hp:Heap) (m:Nat),t.size<1000000000->m<1000000000->S 74 [t.av,.pv none (.int .i64 ((m+1:Nat):Int))] hp=some (.ret (.pv none (.int .i64 ((min t.size (m+1):Nat):Int))),hp):=by
 intro t
 induction t using Tm.zxd with
 |h t ih=>
  intro hp m ht hm;have hts:=t.size_eq;have hlen:=Tm.zw9 t.args;refine Ya rfl rfl rfl (z9 [(some 4,t.pv),(none,.int .i64 ((m+1:Nat):Int))]) rfl ?_;simp -dsimp -implicitDefEqProofs only[go_sem,seval,↓reduceIte,Yh,Tm.pvs_len];refine Qn (fun n st=>∃i:Nat,n=t.args.length - i/\i<=t.args.length/\st=⟨[(1,.pv none (.int .i64 ((m+1:Nat):Int))),(2,.ptr 0 0),(5,.pv none (.int .i64 ((min (1+Tm.sizes (t.args.take i)) (m+1):Nat):Int))),(6,.pv none (.int .i64 i))],[.box (some 4) (.pv (some 4) t.pv)]⟩) (n:=t.args.length) ⟨0,rfl,Zd _,?_⟩ ?_
  ·simp -dsimp -implicitDefEqProofs only[go_sem,seval,↓reduceIte];rw[show min (1+Tm.sizes []) (m+1)=1 by simp[Tm.sizes]];rfl
  ·rintro n st ⟨i,hn,hi,rfl⟩;by_cases h:i<t.args.length
   ·have hc:(i:Int)<(t.args.length:Int):=by omega
    obtain⟨u,hu⟩:∃u,t.args[i]? =some u:=⟨_,Zf h⟩;have hst:=Tm.zxg hu;have hum:=Zi hu;have husz:=Tm.zxa hum;have w2:IntKind.i64.wrap ((i:Int)+1)=((i+1:Nat):Int):=by rw[Yf (by omega) (by omega)];omega
    by_cases h0:((min (1+Tm.sizes (t.args.take i)) (m+1):Nat):Int)<((m+1:Nat):Int)
    ·obtain⟨m',hm'⟩:∃m':Nat,m+1 - min (1+Tm.sizes (t.args.take i)) (m+1)=m'+1:=⟨m - min (1+Tm.sizes (t.args.take i)) (m+1),by omega⟩;have w3:IntKind.i64.wrap (((m+1:Nat):Int) - ((min (1+Tm.sizes (t.args.take i)) (m+1):Nat):Int))=((m'+1:Nat):Int):=by rw[Yf (by omega) (by omega)];omega
     have w4:IntKind.i64.wrap (((min (1+Tm.sizes (t.args.take i)) (m+1):Nat):Int)+((min u.size (m'+1):Nat):Int))=((min (1+Tm.sizes (t.args.take (i+1))) (m+1):Nat):Int):=by rw[Yf (by omega) (by omega)];omega
     have hcall:=fun hp=>ih u hum hp m' (by omega) (by omega);simp -dsimp -implicitDefEqProofs only[go_sem,seval,↓reduceIte,Yh,Tm.pvs_len,hc,h0,Yd (Tm.pvs_get hu),show AV.pv (some 4) u.pv=u.av from rfl,hcall,w2,w3,w4];exact⟨t.args.length - (i+1),by omega,i+1,rfl,by omega,rfl⟩
    ·simp -dsimp -implicitDefEqProofs only[go_sem,seval,↓reduceIte,Yh,Tm.pvs_len,hc,h0];have hle:Tm.sizes (t.args.take i)<=Tm.sizes t.args:=Tm.zxb _ _
     congr 3
     omega
   ·have hc:¬(i:Int)<(t.args.length:Int):=by omega
    obtain rfl:i=t.args.length:=by omega
    simp -dsimp -implicitDefEqProofs only[go_sem,seval,↓reduceIte,Yh,Tm.pvs_len,hc];rw[ZP,hts]

theorem qR(t:Tm)(hp:Heap)(h:t.size<1000000000):S 46 [t.av] hp=some (.ret (.pv none (.int .i64 ((min t.size 2001:Nat):Int))),hp):=by
 refine Ya rfl rfl rfl (z9 [(some 4,t.pv)]) rfl ?_;have h1:=fun hp=>LK t hp 2000 h (by omega);simp only[Tm.av] at h1;have e:(((2000+1:Nat):Int))=2001:=rfl;rw[e] at h1
 (repeat' (first|(simp -dsimp -implicitDefEqProofs only[go_sem,seval,↓reduceIte, *])|(refine yM (fun _=> ?_) (fun _=> ?_))))

theorem LL(t:Tm)(hp:Heap):S 94 [t.av] hp=some (.ret (.pv none (.bool t.node)),hp):=by
 refine Ya rfl rfl rfl (z9 [(some 4,t.pv)]) rfl ?_
 (repeat' (first|(simp -dsimp -implicitDefEqProofs only[go_sem,seval,↓reduceIte,Yo,yt,YJ,Yh,Tm.pvs_len, *])|(refine yM (fun _=> ?_) (fun _=> ?_))))
 all_goals (simp only[Tm.node,show(0<(t.args.length:Int))=(1<=(t.args.length:Int)) from propext (by omega), *,Int.reduceEq,if_true,if_false,decide_true,decide_false,Bool.true_and,Bool.false_and,Bool.and_true])

theorem LM:∀(t:Tm) (hp:Heap),t.size<1000000000->S 71 [t.av] hp=some (.ret (.pv none (.bool t.fits)),hp):=by
 intro t
 induction t using Tm.zxd with
 |h t ih=>
  intro hp ht;have hts:=t.size_eq;have hlen:=Tm.zw9 t.args;refine Ya rfl rfl rfl (z9 [(some 4,t.pv)]) rfl ?_;have hnode:=LL t;simp only[Tm.av] at hnode;by_cases hn:t.node=true
  ·rw[hn] at hnode;simp -dsimp -implicitDefEqProofs only[go_sem,seval,↓reduceIte,hnode,Yh,Tm.pvs_len];refine Qn (fun n st=>∃i:Nat,n=t.args.length - i/\i<=t.args.length/\Tm.fitsAll (t.args.take i)=true/\st=⟨[(1,.ptr 0 0),(3,.pv none (.int .i64 i))],[.box (some 4) (.pv (some 4) t.pv)]⟩) (n:=t.args.length) ⟨0,rfl,Zd _,rfl,?_⟩ ?_
   ·simp -dsimp -implicitDefEqProofs only[go_sem,seval,↓reduceIte]
    try rfl
   ·rintro n st ⟨i,hn',hi,hf,rfl⟩;by_cases h:i<t.args.length
    ·have hc:(i:Int)<(t.args.length:Int):=by omega
     obtain⟨u,hu⟩:∃u,t.args[i]? =some u:=⟨_,Zf h⟩;have hum:=Zi hu;have husz:=Tm.zxa hum;have hcall:=fun hp=>ih u hum hp (by omega);have e6:Tm.fitsAll (t.args.take (i+1))=(Tm.fitsAll (t.args.take i) && u.fits):=Tm.zxl hu;have w2:IntKind.i64.wrap ((i:Int)+1)=((i+1:Nat):Int):=by rw[Yf (by omega) (by omega)];omega
     by_cases h0:u.fits=true
     ·simp -dsimp -implicitDefEqProofs only[go_sem,seval,↓reduceIte,Yh,Tm.pvs_len,hc,h0,Yd (Tm.pvs_get hu),show AV.pv (some 4) u.pv=u.av from rfl,hcall,w2];exact⟨t.args.length - (i+1),by omega,i+1,rfl,by omega,by rw[e6,hf,h0];rfl,rfl⟩
     ·rw[Bool.not_eq_true] at h0;simp -dsimp -implicitDefEqProofs only[go_sem,seval,↓reduceIte,Yh,Tm.pvs_len,hc,h0,Yd (Tm.pvs_get hu),show AV.pv (some 4) u.pv=u.av from rfl,hcall,w2];rw[show t.fits=false from Bool.eq_false_iff.2 fun h=>by rw[Tm.zxe h hum] at h0;cases h0]
    ·have hc:¬(i:Int)<(t.args.length:Int):=by omega
     obtain rfl:i=t.args.length:=by omega
     rw[ZP] at hf;simp -dsimp -implicitDefEqProofs only[go_sem,seval,↓reduceIte,Yh,Tm.pvs_len,hc];rw[Tm.zxf,hn,hf];rfl
  ·rw[Bool.not_eq_true] at hn;rw[hn] at hnode;simp -dsimp -implicitDefEqProofs only[go_sem,seval,↓reduceIte,hnode,Yh,Tm.pvs_len];rw[Tm.zxf,hn];rfl

theorem xI(t:Tm)(hp:Heap)(h:t.size<1000000000):S 43 [t.av] hp=some (.ret (.pv none (.bool t.valid)),hp):=by
 refine Ya rfl rfl rfl (z9 [(some 4,t.pv)]) rfl ?_;have h1:=fun hp=>qR t hp h;have h2:=fun hp=>LM t hp h;unfold Tm.valid;simp only[Tm.av] at h1 h2;by_cases hs:t.size<=2000
 ·have hc:((min t.size 2001:Nat):Int)<=2000:=by omega
  (repeat' (first|(simp -dsimp -implicitDefEqProofs only[go_sem,seval,↓reduceIte,Tm.av, *])|(refine yM (fun _=> ?_) (fun _=> ?_))))
 ·have hc:¬((min t.size 2001:Nat):Int)<=2000:=by omega
  (repeat' (first|(simp -dsimp -implicitDefEqProofs only[go_sem,seval,↓reduceIte,Tm.av, *])|(refine yM (fun _=> ?_) (fun _=> ?_))))
end Go.Proofs.YtligpohiokpnhaaGreat
namespace Go.Proofs.YtligpohiokpnhaaGreat
open Go.Am
theorem LN:∀(a b:Tm) (hp:Heap),a.size<1000000000->S 73 [a.av,b.av] hp=some (.ret (.pv none (.bool (decide (a.cmp b=0)))),hp):=by
 intro a
 induction a using Tm.zxd with
 |h a ih=>
  intro b hp ha;have hts:=a.size_eq;have hlen:=Tm.zw9 a.args;refine Ya rfl rfl rfl (z9 [(some 4,a.pv),(some 4,b.pv)]) rfl ?_;by_cases hall:a.kind=b.kind/\a.n=b.n/\a.name=b.name/\a.args.length=b.args.length
  ·obtain⟨h1,h2,h3,h4⟩:=hall;have hz:a.cmp b=Tm.cmps a.args b.args:=by
    rw[Tm.zxy,h1,h2,h3,h4,QW,QW,QW,cb_zero.2 rfl];rfl
   rw[hz];simp -dsimp -implicitDefEqProofs only[c73b12,go_sem,seval,↓reduceIte,Yo,yt,YJ,Yh,Tm.pvs_len,h1,h2,h3,h4];refine Qn (fun n st=>∃i:Nat,n=a.args.length - i/\i<=a.args.length/\Tm.cmps a.args b.args=Tm.cmps (a.args.drop i) (b.args.drop i)/\st=⟨[(2,.ptr 0 0),(3,.ptr 1 0),(5,.pv none (.int .i64 i))],[.box (some 4) (.pv (some 4) a.pv),.box (some 4) (.pv (some 4) b.pv)]⟩) (n:=a.args.length) ⟨0,rfl,Zd _,rfl,?_⟩ ?_
   ·simp -dsimp -implicitDefEqProofs only[go_sem,seval,↓reduceIte]
    try rfl
   ·rintro n st ⟨i,hn,hi,he,rfl⟩;by_cases h:i<a.args.length
    ·have hc:(i:Int)<(a.args.length:Int):=by omega
     obtain⟨u,hu⟩:∃u,a.args[i]? =some u:=⟨_,Zf h⟩;obtain⟨w,hw⟩:∃w,b.args[i]? =some w:=⟨_,Zf (by omega)⟩;have hum:=Zi hu;have husz:=Tm.zxa hum;have hcall:=fun hp=>ih u hum w hp (by omega);simp only[Tm.av] at hcall;have w2:IntKind.i64.wrap ((i:Int)+1)=((i+1:Nat):Int):=by rw[Yf (by omega) (by omega)];omega
     rw[Tm.zxq hu hw] at he;by_cases h0:u.cmp w=0
     ·rw[h0,UZ] at he;simp -dsimp -implicitDefEqProofs only[c73b12,go_sem,seval,↓reduceIte,Yh,Tm.pvs_len,hc,Yd (Tm.pvs_get hu),Yd (Tm.pvs_get hw),hcall,w2,h0];exact⟨a.args.length - (i+1),by omega,i+1,rfl,by omega,he,rfl⟩
     ·rw[U0 h0] at he;simp -dsimp -implicitDefEqProofs only[c73b12,go_sem,seval,↓reduceIte,Yh,Tm.pvs_len,hc,Yd (Tm.pvs_get hu),Yd (Tm.pvs_get hw),hcall,w2,h0,he]
    ·have hc:¬(i:Int)<(a.args.length:Int):=by omega
     obtain rfl:i=a.args.length:=by omega
     rw[List.drop_length,Tm.zxj] at he;simp -dsimp -implicitDefEqProofs only[c73b12,go_sem,seval,↓reduceIte,Yh,Tm.pvs_len,hc,he]
  ·have hz:¬a.cmp b=0:=fun h=>hall (by rw[Tm.cmp_zero.1 h];exact⟨rfl,rfl,rfl,rfl⟩)
   replace hall:=Kept.mk hall
   replace hts:=Kept.mk hts
   clear ih
   (repeat' (first|(simp -dsimp -implicitDefEqProofs only[go_sem,seval,↓reduceIte,Yo,yt,YJ,Yh,Tm.pvs_len, *])|(refine yM (fun _=> ?_) (fun _=> ?_))))
   exact absurd ⟨‹_›,‹_›,‹_›,by omega⟩ hall.out

def same(a b:Tm):Bool:=a.valid && (b.valid && decide (a.cmp b=0))
theorem Q1(a b:Tm)(hp:Heap)(ha:a.size<1000000000)(hb:b.size<1000000000):S 45 [a.av,b.av] hp=some (.ret (.pv none (.bool (same a b))),hp):=by
 refine Ya rfl rfl rfl (z9 [(some 4,a.pv),(some 4,b.pv)]) rfl ?_;have h1:=fun hp=>xI a hp ha;have h2:=fun hp=>xI b hp hb;have h3:=fun hp=>LN a b hp ha;simp only[Tm.av] at h1 h2 h3;unfold same;by_cases va:a.valid=true
 ·by_cases vb:b.valid=true
  ·(repeat' (first|(simp -dsimp -implicitDefEqProofs only[go_sem,seval,↓reduceIte, *])|(refine yM (fun _=> ?_) (fun _=> ?_))))
  ·(repeat' (first|(simp -dsimp -implicitDefEqProofs only[go_sem,seval,↓reduceIte, *])|(refine yM (fun _=> ?_) (fun _=> ?_))))
 ·(repeat' (first|(simp -dsimp -implicitDefEqProofs only[go_sem,seval,↓reduceIte, *])|(refine yM (fun _=> ?_) (fun _=> ?_))))

theorem LP:∀(a b:Tm) (hp:Heap),a.size<1000000000->S 91 [a.av,b.av] hp=some (.ret (.pv none (.bool (decide (a.cmp b=0)))),hp):=by
 intro a
 induction a using Tm.zxd with
 |h a ih=>
  intro b hp ha;have hts:=a.size_eq;have hlen:=Tm.zw9 a.args;refine Ya rfl rfl rfl (z9 [(some 4,a.pv),(some 4,b.pv)]) rfl ?_;by_cases hall:a.kind=b.kind/\a.n=b.n/\a.name=b.name/\a.args.length=b.args.length
  ·obtain⟨h1,h2,h3,h4⟩:=hall;have hz:a.cmp b=Tm.cmps a.args b.args:=by
    rw[Tm.zxy,h1,h2,h3,h4,QW,QW,QW,cb_zero.2 rfl];rfl
   rw[hz];simp -dsimp -implicitDefEqProofs only[c91b13,go_sem,seval,↓reduceIte,Yo,yt,YJ,Yh,Tm.pvs_len,h1,h2,h3,h4];have hbl:(b.args.length:Int)=(a.args.length:Int):=by rw[h4]
   refine Yv (α:=Unit) a.args.length (fun i _=>Tm.cmps a.args b.args=Tm.cmps (a.args.drop i) (b.args.drop i)) (fun i _=>⟨[(3,.ptr 1 0),(36,.pv none (.sl (some 4) (Tm.pvs a.args))),(37,.pv none (.int .i64 b.args.length)),(38,.pv none (.int .i64 i))],[.box (some 4) (.pv (some 4) a.pv),.box (some 4) (.pv (some 4) b.pv)]⟩) () ⟨rfl,rfl⟩ ?_ ?_
   ·rintro i - h he;have hc:(i:Int)<(b.args.length:Int):=by omega
    obtain⟨u,hu⟩:∃u,a.args[i]? =some u:=⟨_,Zf h⟩;obtain⟨w,hw⟩:∃w,b.args[i]? =some w:=⟨_,Zf (by omega)⟩;have hum:=Zi hu;have husz:=Tm.zxa hum;have hcall:=fun hp=>ih u hum w hp (by omega);simp only[Tm.av] at hcall;have w2:IntKind.i64.wrap ((i:Int)+1)=((i+1:Nat):Int):=by rw[Yf (by omega) (by omega)];omega
    rw[Tm.zxq hu hw] at he;by_cases h0:u.cmp w=0
    ·rw[h0,UZ] at he;simp -dsimp -implicitDefEqProofs only[c91b13,go_sem,seval,↓reduceIte,Yh,Tm.pvs_len,hc,Yd (Tm.pvs_get hu),Yd (Tm.pvs_get hw),hcall,w2,h0];exact⟨(),he,rfl⟩
    ·rw[U0 h0] at he;simp -dsimp -implicitDefEqProofs only[c91b13,go_sem,seval,↓reduceIte,Yh,Tm.pvs_len,hc,Yd (Tm.pvs_get hu),Yd (Tm.pvs_get hw),hcall,w2,h0,he]
   ·rintro - he;have hc:¬(a.args.length:Int)<(b.args.length:Int):=by omega
    rw[List.drop_length,Tm.zxj] at he;simp -dsimp -implicitDefEqProofs only[c91b13,go_sem,seval,↓reduceIte,Yh,Tm.pvs_len,hc,he]
  ·have hz:¬a.cmp b=0:=fun h=>hall (by rw[Tm.cmp_zero.1 h];exact⟨rfl,rfl,rfl,rfl⟩)
   replace hall:=Kept.mk hall
   replace hts:=Kept.mk hts
   clear ih
   (repeat' (first|(simp -dsimp -implicitDefEqProofs only[go_sem,seval,↓reduceIte,Yo,yt,YJ,Yh,Tm.pvs_len, *])|(refine yM (fun _=> ?_) (fun _=> ?_))))
   exact absurd ⟨‹_›,‹_›,‹_›,by omega⟩ hall.out
theorem kl(a b:Tm)(hp:Heap)(ha:a.size<1000000000)(hb:b.size<1000000000):S 68 [a.av,b.av] hp=some (.ret (.pv none (.bool (same a b))),hp):=by
 refine Ya rfl rfl rfl (z9 [(some 4,a.pv),(some 4,b.pv)]) rfl ?_;have h1:=fun hp=>qQ a hp ha;have h2:=fun hp=>qQ b hp hb;have h3:=fun hp=>LP a b hp ha;simp only[Tm.av] at h1 h2 h3;unfold same;by_cases va:a.valid=true
 ·by_cases vb:b.valid=true
  ·(repeat' (first|(simp -dsimp -implicitDefEqProofs only[go_sem,seval,↓reduceIte, *])|(refine yM (fun _=> ?_) (fun _=> ?_))))
  ·(repeat' (first|(simp -dsimp -implicitDefEqProofs only[go_sem,seval,↓reduceIte, *])|(refine yM (fun _=> ?_) (fun _=> ?_))))
 ·(repeat' (first|(simp -dsimp -implicitDefEqProofs only[go_sem,seval,↓reduceIte, *])|(refine yM (fun _=> ?_) (fun _=> ?_))))
end Go.Proofs.YtligpohiokpnhaaGreat
namespace Go.Proofs.YtligpohiokpnhaaGreat
open Go.Am
theorem xJ{α:Type}(l r:List α)(k:Nat):(l++r)[l.length+k]? =r[k]? :=by
 rw[Zp (by omega)]
 congr 1
 omega
theorem uz{α:Type}(l r:List α):(l++r)[l.length]? =r[0]? :=xJ l r 0
theorem uA{α:Type}(l r:List α)(k:Nat)(x:α):(l++r).set (l.length+k) x=l++r.set k x:=by
 rw[zu _ _ (by omega)]
 congr 2
 omega
theorem LQ{α:Type}(l r:List α)(x:α):(l++r).set l.length x=l++r.set 0 x:=uA l r 0 x
theorem LT(t:Tm)(hp:Heap):S 100 [t.av] hp=some (.ret t.av,hp):=by
 refine Ya rfl rfl rfl (z9 [(some 4,t.pv)]) rfl ?_
 (repeat' (first|(simp -dsimp -implicitDefEqProofs only[go_sem,seval,↓reduceIte,Tm.av, *])|(refine yM (fun _=> ?_) (fun _=> ?_))))

theorem Xf(s s0:Sh)(r v o n:Nat)(l:List (Sh × AV))(hp:Heap):Yb ((s,.sl s0 r v o n)::l) hp=YQ (s,.sl s0 r v o n) (Yb l hp):=rfl
theorem LU{hp:Heap}{r:Nat}(t:Tm)(h:hp[r]? =some (.arr (some 4) (Tm.pvs t.args) false)):Am.frozen t.av (.agg [(none,.pv none (.int .i64 t.kind)),(none,.pv none (.int .i64 t.n)),(none,.pv none (.str t.name)),(none,.sl (some 4) r t.args.length 0 t.args.length)]) hp:=by
 refine⟨hp.set r (.arr (some 4) (Tm.pvs t.args) true),?_⟩;cases t with
 |mk k n s ts=>
  show(match AV.freeze (7+1) (.agg _) hp with|some (p,hp')=>some (AV.pv _ p,hp')|none=>none)=_;have e:∀l hp,AV.freeze (7+1) (.agg l) hp=match AV.freeze.go 7 l hp with|some (ps,hp')=>some (.agg ps,hp')|none=>none:=fun _ _=>rfl
  simp only[Tm.args] at h;simp[e,AV.freeze.go,AV.freeze,h,Tm.kind,Tm.n,Tm.name,Tm.args,Tm.pvs_len,Tm.av,Tm.pv];rfl

theorem km{Γ:Oracle}{b:Nat}{vs:List AV}{hp:Heap}{K:AV->Heap->Prop}{Kp:PV->Heap->Prop}(sh:Sh)(n:Nat):opK (aOp Γ b (.bslicen sh n) vs hp) K Kp=YD (yI sh hp (vs.drop n)) (fun v hp'=>(vs.take n).all (Yr hp hp')=true/\K v hp'):=by
 simp only[aOp,qf];cases yI sh hp (vs.drop n) with
 |none=>rfl
 |some r=>
  obtain⟨v,hp'⟩:=r;simp only[opK,YD];split
  ·rename_i h;split at h
   ·cases h;simp[*]
   ·cases h
  ·rename_i h;split at h <;> cases h
  ·rename_i h;split at h
   ·cases h
   ·simp[*]
def appH(n:Nat)(t:Tm)(i:Nat):Heap:=[.box (some 4) (.pv (some 4) t.pv),.box (some 4) (.agg [(none,.pv none (.int .i64 0)),(none,.pv none (.int .i64 0)),(none,.pv none (.str [])),(none,.sl (some 4) (n+2) 0 0 0)]),.arr (some 4) [] false,.box (some 4) (.agg [(none,.pv none (.int .i64 t.kind)),(none,.pv none (.int .i64 t.n)),(none,.pv none (.str t.name)),(none,.sl (some 4) (n+5) i 0 i)]),.arr (some 4) [] false,.arr (some 4) (Tm.pvs (t.args.take i)) false]
theorem uB{hp hp':Heap}{r o q i:Nat}{t:Tm}(h:hp[r]? =some (.box (some 4) (.agg [(none,.pv none (.int .i64 t.kind)),(none,.pv none (.int .i64 t.n)),(none,.pv none (.str t.name)),(none,.sl (some 4) q i 0 i)])))(h':hp'[r]? =some (.box (some 4) (.agg [(none,.pv none (.int .i64 t.kind)),(none,.pv none (.int .i64 t.n)),(none,.pv none (.str t.name)),(none,.sl (some 4) q i 0 i)]))):Yr hp hp' (.ptr r o)=true:=by
 simp[Yr,h,h',AObj.beq,AV.beq,AV.beqc,PV.beq]
attribute [go_sem] ZD xJ uz uA LQ Nat.add_assoc Zj
theorem LV:∀(t:Tm) (hp:Heap),t.fits=true->t.size<1000000000->∃v e,S 99 [t.av,.pv none (.func (.func 100))] hp=some (.ret v,hp++e)/\v.shp=some 4/\v.plain=true/\(∀H,v.own H=(v,H))/\(∃e2,AV.freeze deep v (hp++e)=some (t.pv,hp++e2))/\∀H:Heap,(∀j,hp.length<=j->H[j]? =(hp++e)[j]?)->∃H2,AV.freeze deep v H=some (t.pv,H2):=by
 intro t
 induction t using Tm.zxd with
 |h t ih=>
  intro hp hf ht;have hts:=t.size_eq;have hlen:=Tm.zw9 t.args;have h1:=fun hp=>LT t hp;simp only[Tm.av] at h1;by_cases hk:t.kind=0
  ·refine⟨t.av,[],?_,rfl,rfl,fun _=>rfl,⟨[],rfl⟩,fun H _=>⟨H,rfl⟩⟩;rw[ZC];refine Xn rfl rfl rfl rfl ?_;have hk':=Zo hk;simp -dsimp -implicitDefEqProofs only[go_sem,seval,↓reduceIte,Tm.av,Yo,hk',h1];simp only[AV.refsIn,Z9,if_true];exact List.take_left
  ·refine⟨.agg [(none,.pv none (.int .i64 t.kind)),(none,.pv none (.int .i64 t.n)),(none,.pv none (.str t.name)),(none,.sl (some 4) (hp.length+5) t.args.length 0 t.args.length)],
    [.box (some 4) (.pv (some 4) t.pv),.box (some 4) (.agg [(none,.pv none (.int .i64 t.kind)),(none,.pv none (.int .i64 t.n)),(none,.pv none (.str t.name)),(none,.sl (some 4) (hp.length+5) t.args.length 0 t.args.length)]),.arr (some 4) [] false,.box (some 4) (.agg [(none,.pv none (.int .i64 t.kind)),(none,.pv none (.int .i64 t.n)),(none,.pv none (.str t.name)),(none,.sl (some 4) (hp.length+5) t.args.length 0 t.args.length)]),.arr (some 4) [] false,.arr (some 4) (Tm.pvs t.args) false],?_,rfl,rfl,fun _=>rfl,?_,?_⟩
   ·refine Xn rfl rfl rfl rfl ?_;have hk':=Zl hk;have hb:Yi A0 [0,1,2] [.pv none (.int .i64 t.kind),.pv none (.int .i64 t.n),.pv none (.str t.name)]=some (.agg [(none,.pv none (.int .i64 t.kind)),(none,.pv none (.int .i64 t.n)),(none,.pv none (.str t.name)),(none,.tsl (some 4) [])]):=rfl;simp -dsimp -implicitDefEqProofs only[go_sem,seval,↓reduceIte,Tm.av,Yo,yt,YJ,Yh,hk',Tm.pvs_len,hb,z7 (ZB _ _)];refine Yv (α:=Unit) t.args.length (fun _ _=>True) (fun i _=>⟨[(1,.pv none (.func (.func 100))),(4,.ptr (hp.length+1) 0),(5,.ptr (hp.length+3) 0),(22,.pv none (.sl (some 4) (Tm.pvs t.args))),(23,.pv none (.int .i64 t.args.length)),(24,.pv none (.int .i64 i))],hp++appH hp.length t i⟩) () ⟨trivial,rfl⟩ ?_ ?_
    ·rintro i - h -;have hc:(i:Int)<(t.args.length:Int):=by omega
     obtain⟨u,hu⟩:∃u,t.args[i]? =some u:=⟨_,Zf h⟩;have hum:=Zi hu;have husz:=Tm.zxa hum;obtain⟨v,e,hcall,hvs,_,_,⟨e2,hfz⟩,_⟩:=ih u hum (hp++(appH hp.length t i++[.box (some 4) (.pv (some 4) u.pv),.arr (some 4) [] false])) (Tm.zxe hf hum) (by omega);have w2:IntKind.i64.wrap ((i:Int)+1)=((i+1:Nat):Int):=by rw[Yf (by omega) (by omega)];omega
     have hl:(Tm.pvs (t.args.take i)).length=i:=by rw[Tm.pvs_len,Zh];omega
     have hlim:i+1<=lim:=by unfold lim;omega
     have hbs:yI (some 4) (hp++(appH hp.length t i++[.box (some 4) (.pv (some 4) u.pv),.arr (some 4) [] false])++e) [v]=some (.tsl (some 4) [u.pv],hp++(appH hp.length t i++[.box (some 4) (.pv (some 4) u.pv),.arr (some 4) [] false])++e2):=by
      simp only[yI,Yn,hfz,hvs,yb,if_true]
     simp only[Tm.av] at hcall;have hs1:∀e e':Heap,Yr (hp++(appH hp.length t i++e)) (hp++(appH hp.length t i++e')) (.ptr (hp.length+3) 3)=true:=fun e e'=>uB (t:=t) (q:=hp.length+5) (i:=i) (by rw[xJ];rfl) (by rw[xJ];rfl);simp only[appH,ZD,ZK,ZJ] at hcall hbs hs1;simp -dsimp -implicitDefEqProofs only[go_sem,seval,↓reduceIte,appH,hc,Yd (Tm.pvs_get hu),km,ZN,ze,zj,Z9,hcall,hbs,hs1,w2,hl,hlim,Tm.zxc hu,z7 (ZB _ _),Xm (ZB _ _)];refine⟨(),?_⟩;rw[jk 6 rfl rfl (by simp[AObj.refs,AV.ofComps,pures,AV.refsIn,AV.refsIn.go]) (by simp[AV.refsIn,AV.refsIn.gol])];rfl
    ·rintro - -;have hc:¬(t.args.length:Int)<(t.args.length:Int):=by omega
     simp -dsimp -implicitDefEqProofs only[go_sem,seval,↓reduceIte,appH,hc,ZP,Xf,z7 (ZB _ _),Xm (ZB _ _)];rw[Za (by simp[AV.refsIn,AV.refsIn.go])]
   ·have e:∀l hp,AV.freeze (7+1) (.agg l) hp=match AV.freeze.go 7 l hp with|some (ps,hp')=>some (.agg ps,hp')|none=>none:=fun _ _=>rfl
    cases t with
    |mk k n s ts=>
     refine⟨[.box (some 4) (.pv (some 4) (Tm.mk k n s ts).pv),.box (some 4) (.agg [(none,.pv none (.int .i64 k)),(none,.pv none (.int .i64 n)),(none,.pv none (.str s)),(none,.sl (some 4) (hp.length+5) ts.length 0 ts.length)]),.arr (some 4) [] false,.box (some 4) (.agg [(none,.pv none (.int .i64 k)),(none,.pv none (.int .i64 n)),(none,.pv none (.str s)),(none,.sl (some 4) (hp.length+5) ts.length 0 ts.length)]),.arr (some 4) [] false,.arr (some 4) (Tm.pvs ts) true],?_⟩;show AV.freeze (7+1) (.agg _) _=_;simp[e,AV.freeze.go,AV.freeze,xJ,Tm.kind,Tm.n,Tm.name,Tm.args,Tm.pvs_len,Tm.pv]
   ·intro H hH;have h5:=hH (hp.length+5) (by omega);rw[xJ] at h5;have e:∀l hp,AV.freeze (7+1) (.agg l) hp=match AV.freeze.go 7 l hp with|some (ps,hp')=>some (.agg ps,hp')|none=>none:=fun _ _=>rfl
    cases t with
    |mk k n s ts=>
     refine⟨H.set (hp.length+5) (.arr (some 4) (Tm.pvs ts) true),?_⟩;show AV.freeze (7+1) (.agg _) _=_;simp only[Tm.args,ZR,zW] at h5;simp[e,AV.freeze.go,AV.freeze,h5,Tm.kind,Tm.n,Tm.name,Tm.args,Tm.pvs_len,Tm.pv]
theorem Tm.valid_fits{t:Tm}(h:t.valid=true):t.fits=true:=by
 unfold Tm.valid at h;simp only[Zg] at h;exact h.2
theorem LW{t:Tm}{v:AV}{H H2:Heap}(h1:v.shp=some 4)(h2:v.plain=true)(h3:AV.freeze deep v H=some (t.pv,H2)):Am.frozen t.av v H:=by
 refine⟨H2,?_⟩;cases v <;> first|(cases h2;done)|(simp only[AV.freezeRes,h3,h1];rfl)
theorem kn(t:Tm)(hp:Heap)(hv:t.valid=true)(ht:t.size<1000000000):S 83 [t.av] hp=some (.ret t.av,hp):=by
 refine Ya rfl rfl rfl (z9 [(some 4,t.pv)]) rfl ?_;have h1:=fun hp=>qQ t hp ht;obtain⟨v,e,h2,h3,h4,h5,_,h6⟩:=LV t [.box (some 4) (.pv (some 4) t.pv),.box (some 4) (.agg [(none,.pv none (.int .i64 0)),(none,.pv none (.int .i64 0)),(none,.pv none (.str [])),(none,.sl (some 4) 2 0 0 0)]),.arr (some 4) [] false] (Tm.valid_fits hv) ht;have hst:z8 (some 4) 0 ([.box (some 4) (.pv (some 4) t.pv),.box (some 4) (.agg [(none,.pv none (.int .i64 0)),(none,.pv none (.int .i64 0)),(none,.pv none (.str [])),(none,.sl (some 4) 2 0 0 0)]),.arr (some 4) [] false]++e) [.ptr 1 0,v]=some (.undef,[.box (some 4) (.pv (some 4) t.pv),.box (some 4) v,.arr (some 4) [] false]++e):=by
  simp[z8,astore,h3,h4,h5]
 have hfz:=fun(H:Heap) (hH:∀j,3<=j->H[j]? =_)=>(h6 H hH).elim fun H2 k=>LW h3 h4 k;have hfr:Am.frozen t.av v ([.box (some 4) (.pv (some 4) t.pv),.box (some 4) v,.arr (some 4) [] false]++e):=by
  refine hfz _ fun j hj=> ?_
  match j,hj with
  |j+3,_=>rfl
 rw[hv] at h1;simp only[Tm.av,ZK,ZJ] at h1 h2 hst;simp -dsimp -implicitDefEqProofs only[go_sem,seval,↓reduceIte,Tm.av,h1,h2,hst,z7 (Zd _)];exact hfr
end Go.Proofs.YtligpohiokpnhaaGreat
namespace Go.Proofs.YtligpohiokpnhaaGreat
open Go.Am
theorem jo{t u:Tm}(h:t.valid=true)(hu:u∈t.args):u.valid=true:=by
 unfold Tm.valid at h ⊢;simp only[Zg,Zw] at h ⊢;have:=Tm.zxa hu;exact⟨by omega,Tm.zxe h.2 hu⟩
theorem valid_fits{t:Tm}(h:t.valid=true):t.fits=true:=by simp[Tm.valid] at h;exact h.2
def panE(p:PV):AExit->St->Prop
 | .panic v,_=>v=p
 |_,_=>False
theorem ko(p v:PV)(st:St):panE p (.panic v) st=(v=p):=rfl
theorem kr{F:FuncId->Option AFn}{prim:FuncId->Option Yw}{f:FuncId}{fn:AFn}{args:List AV}{ps:List (Sh × PV)}{hp:Heap}{p:PV}(hp0:prim f=none)(hf:F f=some fn)(hm:fn.heapMode=false)(hz:Yn args hp=some (ps,hp))(hn:(pvs ps).length=fn.nparams)
  (h:W (sem F prim) (sloop F prim) 0 fn.code ⟨params 0 (pvs ps),[]⟩ (panE p))(hr:fn.rcv=none:=by rfl)(hmo:fn.more=[]:=by rfl):sem F prim .fn f args hp=some (.panic p,hp):=by
 rw[Ql];unfold yh;rw[hp0,hf];simp only[hr,hmo,zH,hm,Z4,if_false,hz,abody,hn,ne_eq,not_true_eq_false];unfold W at h;split at h
 ·rename_i e st' he;have hl:([]:Heap).length=0:=rfl;rw[hl,he];cases e with
  |panic v=>
   have:v=p:=h;rw[this]
  |normal=>exact h.elim
  |ret=>exact h.elim
  |exit i=>exact h.elim
 ·exact h.elim
def jn(t:Tm):Prop:=t.kind=3/\t.args.length=2/\(t.name=[44]\/t.name=[59]\/t.name=[45,62])
instance (t:Tm):Decidable (jn t):=inferInstanceAs (Decidable (_/\_/\_))
theorem LX(t:Tm)(hp:Heap):S 106 [t.av] hp=some (.ret (.pv none (.bool (decide (jn t)))),hp):=by
 refine Ya rfl rfl rfl (z9 [(some 4,t.pv)]) rfl ?_;by_cases h1:t.kind=3
 ·have h1':=Zo h1;by_cases h2:t.args.length=2
  ·have h2':=Zo (show(t.args.length:Int)=2 by omega);by_cases h3:t.name=[44]
   ·have h3':=Zo h3;have e:decide (jn t)=true:=Zs ⟨h1,h2,.inl h3⟩;rw[e];simp -dsimp -implicitDefEqProofs only[go_sem,seval,↓reduceIte,Tm.av,Yo,YJ,Yh,Tm.pvs_len,h1',h2',h3']
   ·have h3':=Zl h3;by_cases h4:t.name=[59]
    ·have h4':=Zo h4;have e:decide (jn t)=true:=Zs ⟨h1,h2,.inr (.inl h4)⟩;rw[e];simp -dsimp -implicitDefEqProofs only[go_sem,seval,↓reduceIte,Tm.av,Yo,YJ,Yh,Tm.pvs_len,h1',h2',h3',h4']
    ·have h4':=Zl h4;have e:decide (jn t)=decide (t.name=[45,62]):=by simp[jn,h1,h2,h3,h4]
     rw[e];simp -dsimp -implicitDefEqProofs only[go_sem,seval,↓reduceIte,Tm.av,Yo,YJ,Yh,Tm.pvs_len,h1',h2',h3',h4']
  ·have h2':=Zl (show ¬(t.args.length:Int)=2 by omega);have e:decide (jn t)=false:=by simp[jn,h2]
   rw[e];simp -dsimp -implicitDefEqProofs only[go_sem,seval,↓reduceIte,Tm.av,Yo,YJ,Yh,Tm.pvs_len,h1',h2']
 ·have h1':=Zl h1;have e:decide (jn t)=false:=by simp[jn,h1]
  rw[e];simp -dsimp -implicitDefEqProofs only[go_sem,seval,↓reduceIte,Tm.av,Yo,YJ,Yh,Tm.pvs_len,h1']
theorem uC(t:Tm)(hp:Heap):S 65 [t.av] hp=some (.ret (.pv none (.bool (decide (t.kind=2) || decide (t.kind=3)))),hp):=by
 refine Ya rfl rfl rfl (z9 [(some 4,t.pv)]) rfl ?_;by_cases h1:t.kind=2
 ·simp -dsimp -implicitDefEqProofs only[go_sem,seval,↓reduceIte,Tm.av,Yo,h1,Bool.true_or]
 ·simp -dsimp -implicitDefEqProofs only[go_sem,seval,↓reduceIte,Tm.av,Yo,h1,Bool.false_or]
def Q2:List UInt8:=[99,97,108,108]
def tstr(s:List UInt8)(l:List Tm):Tm:=.mk 3 0 s l
def cvF:Nat->Tm->Option Tm
 |0,_=>none
 |n+1,t=>if t.kind=0 then some (tstr Q2 [t]) else if jn t then(match t.args with
   |[a,b]=>match cvF n a with
    |none=>none
    |some x=>match cvF n b with
     |none=>none
     |some y=>some (tstr t.name [x,y])
   |_=>none) else if t.kind=2\/t.kind=3 then some t else none
theorem jp{l:List Tm}(h:l.length=2):∃a b,l=[a,b]:=by
 match l,h with
 |[a,b],_=>exact⟨a,b,rfl⟩
def noG:PV:=.iface 116 (some 0) (.agg [])
def resB:Option Tm->ARes
 |some g=>.ret g.av
 |none=>.panic noG
def cV(s:List UInt8)(l:List PV):AV:=.agg [(none,.pv none (.int .i64 3)),(none,.pv none (.int .i64 0)),(none,.pv none (.str s)),(none,.tsl (some 4) l)]
theorem jq(x0:AObj)(v:AV)(r:Heap)(s:List UInt8)(a:PV)(l:List PV):z8 (some 4) 0 (x0::.box (some 4) v::r) [.ptr 1 0,cV s (a::l)]=some (.undef,x0::.box (some 4) (cV s (a::l))::r):=by
 simp[z8,astore,cV,AV.plain,AV.shp,AV.own,Yb,YQ,total,Sh.size]
theorem LY:∀(n:Nat) (t:Tm),t.size<=n->t.valid=true->∀hp,S 103 [t.av] hp=some (resB (cvF n t),hp):=by
 intro n
 induction n with
 |zero=>
  intro t h;have:=t.size_eq;omega
 |succ n ih=>
  intro t hn hv hp;have hsz:=Xb hv;have h1:=fun hp=>LX t hp;have h2:=fun hp=>uC t hp;have h3:=fun hp=>kn t hp hv (by omega);have hbu:∀(s:List UInt8) (l:List PV),Yi A0 [0,2,3] [.pv none (.int .i64 3),.pv none (.str s),.tsl (some 4) l]=some (cV s l):=fun _ _=>rfl;have hb0:Yi [] [] []=some (.pv (some 0) (.agg [])):=rfl;have hmi:∀(s:Sh) (p:PV),xW 116 [.pv s p]=some (.pv none (.iface 116 s p)):=fun _ _=>rfl;simp only[Tm.av] at h1 h2 h3;by_cases k0:t.kind=0
  ·have e:cvF (n+1) t=some (tstr Q2 [t]):=by rw[cvF,Zc k0]
   rw[e];refine Ya rfl rfl rfl (z9 [(some 4,t.pv)]) rfl ?_;have k0':=Zo k0;simp -dsimp -implicitDefEqProofs only[go_sem,seval,↓reduceIte,Tm.av,Yo,k0',hbu,jq];exact⟨_,rfl⟩
  have k0':=Zl k0;by_cases kj:jn t
  rotate_left
  ·have ej:decide (jn t)=false:=ZL kj;rw[ej] at h1;by_cases kc:t.kind=2\/t.kind=3
   ·have e:cvF (n+1) t=some t:=by rw[cvF,Za k0,Za kj,Zc kc]
    have ec:(decide (t.kind=2) || decide (t.kind=3))=true:=by rcases kc with h|h <;> simp[h]
    rw[ec] at h2;rw[e];refine Ya rfl rfl rfl (z9 [(some 4,t.pv)]) rfl ?_;simp -dsimp -implicitDefEqProofs only[go_sem,seval,↓reduceIte,Tm.av,Yo,k0',h1,h2,h3,z7 (Zd _)]
    done
   ·have e:cvF (n+1) t=none:=by rw[cvF,Za k0,Za kj,Za kc]
    have ec:(decide (t.kind=2) || decide (t.kind=3))=false:=by
     have:¬t.kind=2/\¬t.kind=3:=by omega
     simp[this.1,this.2]
    rw[ec] at h2;rw[e];refine kr rfl rfl rfl (z9 [(some 4,t.pv)]) rfl ?_;simp -dsimp -implicitDefEqProofs only[go_sem,seval,↓reduceIte,Tm.av,Yo,k0',h1,h2,h3,hb0,hmi,z7 (Zd _),ko]
    try rfl
  ·have ej:decide (jn t)=true:=Zs kj;rw[ej] at h1;obtain⟨a,b,hab⟩:=jp kj.2.1;have ma:a∈t.args:=by rw[hab];simp
   have mb:b∈t.args:=by rw[hab];simp
   have za:=Tm.zxa ma;have zb:=Tm.zxa mb;have ha:=fun hp=>ih a (by omega) (jo hv ma) hp;have hb:=fun hp=>ih b (by omega) (jo hv mb) hp;have g0:Yl (some 4) [.pv none (.sl (some 4) (Tm.pvs t.args)),.pv none (.int .i64 0)]=some (.iptr (some 4) a.pv 0):=by rw[hab];rfl
   have g1:Yl (some 4) [.pv none (.sl (some 4) (Tm.pvs t.args)),.pv none (.int .i64 1)]=some (.iptr (some 4) b.pv 0):=by rw[hab];rfl
   have e:cvF (n+1) t=match cvF n a with
    |none=>none
    |some x=>match cvF n b with
     |none=>none
     |some y=>some (tstr t.name [x,y]):=by rw[cvF,Za k0,Zc kj,hab]
   rw[e];simp only[Tm.av] at ha hb;cases ea:cvF n a with
   |none=>
    rw[ea] at ha;simp only[resB] at ha;refine kr rfl rfl rfl (z9 [(some 4,t.pv)]) rfl ?_;simp -dsimp -implicitDefEqProofs only[go_sem,seval,↓reduceIte,Tm.av,Yo,YJ,Yh,k0',h1,h2,ha,g0,g1,z7 (Zd _),ko]
    done
   |some x=>
    rw[ea] at ha;simp only[resB,Tm.av] at ha;cases eb:cvF n b with
    |none=>
     rw[eb] at hb;simp only[resB] at hb;refine kr rfl rfl rfl (z9 [(some 4,t.pv)]) rfl ?_;simp -dsimp -implicitDefEqProofs only[go_sem,seval,↓reduceIte,Tm.av,Yo,YJ,Yh,k0',h1,h2,ha,hb,g0,g1,z7 (Zd _),ko]
     done
    |some y=>
     rw[eb] at hb;simp only[resB,Tm.av] at hb;refine Ya rfl rfl rfl (z9 [(some 4,t.pv)]) rfl ?_;simp -dsimp -implicitDefEqProofs only[go_sem,seval,↓reduceIte,Tm.av,Yo,YJ,Yh,k0',h1,h2,ha,hb,g0,g1,hbu,jq,z7 (Zd _)];exact⟨_,rfl⟩
end Go.Proofs.YtligpohiokpnhaaGreat
namespace Go.Proofs.YtligpohiokpnhaaGreat
open Go.Am
mutual
def Tm.sub(f:Int->Tm):Tm->Tm
 | .mk k n s ts=>if k=0 then f n else .mk k n s (Tm.subs f ts)
def Tm.subs(f:Int->Tm):List Tm->List Tm
 |[]=>[]
 |t::r=>Tm.sub f t::Tm.subs f r
end
theorem Tm.zxv(f:Int->Tm):∀l:List Tm,Tm.subs f l=l.map (Tm.sub f)
 |[]=>rfl
 |t::r=>by rw[Tm.subs,Tm.zxv f r];rfl
theorem Tm.zxp(f:Int->Tm)(t:Tm):Tm.sub f t=if t.kind=0 then f t.n else .mk t.kind t.n t.name (t.args.map (Tm.sub f)):=by
 cases t with
 |mk k n s ts=>
  simp only[Tm.sub,Tm.kind,Tm.n,Tm.name,Tm.args,Tm.zxv];by_cases h:k=0 <;> simp[h]
def tvar(v:Int):Tm:=.mk 0 v [] []
theorem qS{t:Tm}(h:t.fits=true)(hk:t.kind=0):t=tvar t.n:=by
 rw[Tm.zxf] at h;have h1:t.node=true:=by simp at h;exact h.1
 cases t with
 |mk k n s ts=>
  simp only[Tm.kind] at hk;subst hk;simp[Tm.node,Tm.kind,Tm.n,Tm.name,Tm.args] at h1;obtain⟨⟨_,h3⟩,h4⟩:=h1;rw[h4,zi h3];rfl
theorem LZ{F:FuncId->Option AFn}{prim:FuncId->Option Yw}{f:FuncId}{fn:AFn}{args:List AV}{ps:List (Sh × PV)}(P:AV->Prop)(hp0:prim f=none)(hf:F f=some fn)(hm:fn.heapMode=false)(hz:∀hp,Yn args hp=some (ps,hp))(hn:(pvs ps).length=fn.nparams)
  (h:W (sem F prim) (sloop F prim) 0 fn.code ⟨params 0 (pvs ps),[]⟩ (endK fn.results (fun v hp=>∃v',Am.frozen v' v hp/\P v')))(hr:fn.rcv=none:=by rfl)(hmo:fn.more=[]:=by rfl):∃v,(∀hp,sem F prim .fn f args hp=some (.ret v,hp))/\P v:=by
 have key:∃v,P v/\W (sem F prim) (sloop F prim) 0 fn.code ⟨params 0 (pvs ps),[]⟩ (endK fn.results (Am.frozen v)):=by
  unfold W at h ⊢;split at h
  ·rename_i e st' he;cases e with
   |normal=>
    rw[QU] at h;cases hr:YM st' fn.results with
    |none=>rw[hr] at h;exact h.elim
    |some u=>rw[hr] at h;obtain⟨v',h1,h2⟩:=h;exact⟨v',h2,by simp only[he,QU,hr];exact h1⟩
   |ret=>
    rw[Qm] at h;cases hr:YM st' fn.results with
    |none=>rw[hr] at h;exact h.elim
    |some u=>rw[hr] at h;obtain⟨v',h1,h2⟩:=h;exact⟨v',h2,by simp only[he,Qm,hr];exact h1⟩
   |exit i=>exact h.elim
   |panic v=>exact h.elim
  ·exact h.elim
 obtain⟨v,h1,h2⟩:=key;exact⟨v,fun hp=>Ya hp0 hf hm (hz hp) hn h2 hr hmo,h1⟩
theorem kt{F:FuncId->Option AFn}{prim:FuncId->Option Yw}{f:FuncId}{fn:AFn}{args:List AV}{hp:Heap}(P:AV->Heap->Prop)(hp0:prim f=none)(hf:F f=some fn)(hm:fn.heapMode=true)(hn:args.length=fn.nparams)
  (h:W (sem F prim) (sloop F prim) hp.length fn.code ⟨params 0 args,hp⟩ (endK fn.results (fun v' h'=>P v' (if v'.refsIn.all (fun q=>decide (q<hp.length))=true then h'.take hp.length else h'))))(hr:fn.rcv=none:=by rfl)(hmo:fn.more=[]:=by rfl):∃v hp',sem F prim .fn f args hp=some (.ret v,hp')/\P v hp':=by
 rw[Ql];unfold yh;rw[hp0,hf];simp only[hr,hmo,zH,Z4,if_false,hm,if_true,abody,hn,ne_eq,not_true_eq_false,if_false];unfold W at h;split at h
 ·rename_i e st' he;rw[he];cases e with
  |normal=>
   rw[QU] at h;cases hr:YM st' fn.results with
   |none=>rw[hr] at h;exact h.elim
   |some u=>rw[hr] at h;exact⟨_,_,by simp only[hr],h⟩
  |ret=>
   rw[Qm] at h;cases hr:YM st' fn.results with
   |none=>rw[hr] at h;exact h.elim
   |some u=>rw[hr] at h;exact⟨_,_,by simp only[hr],h⟩
  |exit i=>exact h.elim
  |panic v=>exact h.elim
 ·exact h.elim
theorem uD(n b:Nat)(fr:Fr)(hp:Heap):collect n b fr hp=hp\/(collect n b fr hp=hp.take n/\∀x∈fr,∀q∈x.2.refsIn,q<n):=by
 unfold collect;split
 ·rename_i h;rw[Zg,Zx] at h;exact .inr ⟨rfl,fun x hx q hq=>by simpa using Zx.1 (h.1 x hx) q hq⟩
 ·exact .inl rfl
theorem Tm.zxw{l:List Tm}{u:Tm}(h:u∈l){w:Int}(hw:w∈u.occ):w∈Tm.occs l:=by
 induction l with
 |nil=>cases h
 |cons x r ih=>
  rw[Tm.occs];rcases Zu.1 h with rfl|h
  ·exact zJ _ hw
  ·exact zB _ (ih h)
theorem Tm.zxA{t u:Tm}(hk:¬t.kind=0)(h:u∈t.args){w:Int}(hw:w∈u.occ):w∈t.occ:=by
 rw[Tm.zxo,Za hk];exact Tm.zxw h hw
end Go.Proofs.YtligpohiokpnhaaGreat
