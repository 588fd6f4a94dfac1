/- What is proved: what slices.Insert does at one type. -/
import Derived.Test.YtgedfopkiebjkaaGreatDoorProg
import Derived.Shelf.Spec.SlicesInsertGrow
import Derived.Test.YtgedfopkiebjkaaGreatDoorAm2
import Derived.Test.YtgedfopkiebjkaaGreatDoorRows
import Derived.Shelf.Lays
import Derived.Test.YtgedfopkiebjkaaGreatDoorFns
import Derived.Test.YtgedfopkiebjkaaGreatDoorAm4
import Derived.Test.YtgedfopkiebjkaaGreatDoorAm6
import Derived.Test.YtgedfopkiebjkaaGreatDoorAm5
set_option linter.unusedVariables false
set_option linter.unusedSimpArgs false
namespace Go.Proofs.YtgedfopkiebjkaaGreatDoor.InsA
open Go Go.Am Go.Proofs Go.Lib Go.RowKit
theorem t3:Tryz.prog.underlying 3=some (TypeDesc.int IntKind.i64):=by kernel_rfl
theorem a3:∀w,(isAgg 3).run Tryz.prog w=.ok false w:=fun w=>by kernel_rfl
theorem z3:∀w,(Go.sizeOf 3).run Tryz.prog w=.ok 1 w:=fun w=>by kernel_rfl
theorem v3:∀w,(zeroValue 3).run Tryz.prog w=.ok (Value.int IntKind.i64 0) w:=fun w=>by kernel_rfl
theorem t4:Tryz.prog.underlying 4=some TypeDesc.bool:=by kernel_rfl
theorem a4:∀w,(isAgg 4).run Tryz.prog w=.ok false w:=fun w=>by kernel_rfl
theorem z4:∀w,(Go.sizeOf 4).run Tryz.prog w=.ok 1 w:=fun w=>by kernel_rfl
theorem v4:∀w,(zeroValue 4).run Tryz.prog w=.ok (Value.bool false) w:=fun w=>by kernel_rfl
theorem tS:Tryz.prog.underlying 22=some (TypeDesc.slice 45):=by kernel_rfl
theorem aS:∀w,(isAgg 22).run Tryz.prog w=.ok false w:=fun w=>by kernel_rfl
theorem zS:∀w,(Go.sizeOf 22).run Tryz.prog w=.ok 1 w:=fun w=>by kernel_rfl
theorem vS:∀w,(zeroValue 22).run Tryz.prog w=.ok (Value.slice none 0 0) w:=fun w=>by kernel_rfl
theorem zE:∀w,(Go.sizeOf 45).run Tryz.prog w=.ok 4 w:=fun w=>by kernel_rfl
theorem iE:(Tryz.prog.info? 45).map (·.size)=some 4:=by kernel_rfl
theorem ins_list{α:Type}(C:List α)(p q:Nat)(hpq:p<=q)(hq:q<=C.length)(R:List α):(C.take q++R).take p=C.take p/\(C.take q++R).drop q=R:=by
 have hl:(C.take q).length=q:=by simp;omega
 refine⟨?_,?_⟩
 ·rw[List.take_append_of_le_length (by omega),Zu]
  congr 1
  omega
 ·exact List.drop_left' hl
set_option maxHeartbeats 4000000 in
set_option maxRecDepth 100000 in
theorem ins_shift(b n c i vb voff m vc:Nat)(cur:Array Value)(t:TypeId)(vs:List Value)(w:World)(hi:i<n)(hm:0<m)(hroom:n+m<=c)(hlim:n+m<=lim)(hvb:vb≠b)
  (hg:w.heap[b]? =some (.cells cur t (0,0)))(hcs:cur.size=c*4)(hvl:vs.length=m*4)(h1:∀v∈(cur.toList.drop (i*4)).take ((n - i)*4),v.oneCell'=true)
  (hvs:∀j v,vs[j]? =some v->w.cell? ⟨vb,voff+j,none⟩=some v)(h1v:∀v∈vs,v.oneCell'=true)
  (tA:TypeId)(kA:Nat)(hsa:w.shape? vb=some (tA,kA))(hkA:kA≠0):
  ∃cur2:Array Value,cur2.toList=cur.toList.take (i*4)++vs++(cur.toList.drop (i*4)).take ((n - i)*4)++cur.toList.drop ((n+m)*4)/\
  Calls Tryz.prog 133 #[.slice (some ⟨b,0,none⟩) n c,.int .i64 i,.slice (some ⟨vb,voff,none⟩) m vc] w fun e w'=>
   e=.returned (.slice (some ⟨b,0,none⟩) (n+m) c)/\∃cur1,w'=(w.drew.setRow b cur1).setRow b cur2:=by
 have t3:=t3;have a3:=a3;have z3:=z3;have v3:=v3;have t4:=t4;have a4:=a4;have z4:=z4;have v4:=v4;have tS:=tS;have aS:=aS;have zS:=zS;have vS:=vS;have zE:=zE;have u3:=run_underlying t3;have u4:=run_underlying t4;have uS:=run_underlying tS;have hlim':n+m<=1073741824:=hlim;have hov:∀lb cb x,(callFunc 149 #[.slice (some ⟨vb,voff,none⟩) m vc,.slice (some ⟨b,x,none⟩) lb cb]).run Tryz.prog w=.ok (.value (.bool false)) w:=fun lb cb x=>by
  have hfr:∀o,w.frozen? ⟨b,o,none⟩=false:=fun o=>by simp[World.frozen?,hg]
  rw[run_callFunc_extern Tryz.func149 (by kernel_rfl) (by kernel_rfl) (by kernel_rfl) (e:=Extern.SlicesOverlaps.overlaps #[22,22] #[4]) (by kernel_rfl),
   Uw w 22 4 45 tS 4 zE ⟨vb,voff,none⟩ ⟨b,x,none⟩ m vc lb cb hvb tA t kA cur.size hsa (by simp[World.shape?,hg]) hkA (by omega) hfr (hfr x)]
  rfl
 have hz1:¬((m:Int)=0):=by omega
 have hz2:¬((i:Int)=(n:Int)):=by omega
 have hw1:IntKind.i64.wrap ((i:Int)+(m:Int))=(i:Int)+(m:Int):=by rw[IntKind.wrap_i64];omega
 have hb1:(0:Int)<=(i:Int)+(m:Int):=by omega
 have hin:i<=n:=by omega
 have htn:((i:Int)+(m:Int)).toNat=i+m:=by omega
 have hb2:¬(c=i+m):=by omega
 have hb3:(i:Int)<=(n:Int)+(m:Int):=by omega
 have hb4:¬(c=i):=by omega
 have hcell:∀(W:World) (j:Nat),W.heap=w.heap->W.cell? ⟨b,j,none⟩=cur.toList[j]? :=fun W j h=>by
  simp[World.cell?,h,hg]
 have hcp1:∃cur1:Array Value,cur1.toList=cur.toList.take ((i+m)*4)++(cur.toList.drop (i*4)).take ((n - i)*4)++cur.toList.drop ((n+m)*4)/\∀ty dc sc,(Builtin.copy_ #[22,22] ty #[.slice (some ⟨b,(i+m)*4,none⟩) (n+m - (i+m)) dc,.slice (some ⟨b,i*4,none⟩) (n+m - i) sc]).run Tryz.prog w.drew=.ok (goInt ((n - i:Nat):Int)) (w.drew.setRow b cur1):=by
  obtain⟨cs1,hcs1⟩:∃cs1,cs1=(cur.toList.drop (i*4)).take ((n - i)*4):=⟨_,rfl⟩;have hl1:cs1.length=(n - i)*4:=by rw[hcs1];simp;omega
  have hmin:Nat.min (n+m - i) (n+m - (i+m))=n - i:=by simp only[Nat.min_def];split <;> omega
  have h:=fun ty dc sc=>
   X5 w.drew 22 22 ty 45 b ((i+m)*4) (n+m - (i+m)) dc ⟨b,i*4,none⟩ (n+m - i) sc 4 cur t cs1 tS iE hg (by rw[hl1,hmin])
   (fun j v hj=>by
    have ha:(⟨b,i*4,none⟩:Addr).add j=⟨b,i*4+j,none⟩:=by unfold Addr.add;split <;> simp_all
    rw[ha,hcell w.drew _ rfl];rw[hcs1,zm] at hj;split at hj
    ·rwa [zy] at hj
    ·cases hj)
   (by rw[hl1,hcs];omega) (fun v hv=>h1 v (by rw[hcs1] at hv;exact hv))
  refine⟨(cur.toList.take ((i+m)*4)++cs1++cur.toList.drop ((i+m)*4+cs1.length)).toArray,?_,fun ty dc sc=> ?_⟩
  ·rw[hl1,hcs1,show(i+m)*4+(n - i)*4=(n+m)*4 by omega]
  ·rw[h,hmin]
 obtain⟨cur1,hcur1,hcp1⟩:=hcp1;have hcur1l:cur1.size=cur.size:=by
  have:=congrArg List.length hcur1;simp at this;omega
 have hne:∀x,x≠b->(w.drew.setRow b cur1).heap[x]? =w.heap[x]? :=fun x hx=>by
  simp[World.setRow,zq,Ne.symm hx];rfl
 have hg1:(w.drew.setRow b cur1).heap[b]? =some (.cells cur1 t (0,0)):=setRow_heap w.drew b cur cur1 t _ hg;have hcp2:∃cur2:Array Value,cur2.toList=cur1.toList.take (i*4)++vs++cur1.toList.drop (i*4+m*4)/\∀ty dc,(Builtin.copy_ #[22,22] ty #[.slice (some ⟨b,i*4,none⟩) (n+m - i) dc,.slice (some ⟨vb,voff,none⟩) m vc]).run Tryz.prog (w.drew.setRow b cur1)=.ok (goInt m) ((w.drew.setRow b cur1).setRow b cur2):=by
  have hmin:Nat.min m (n+m - i)=m:=by simp only[Nat.min_def];split <;> omega
  have h:=fun ty dc=>
   X5 (w.drew.setRow b cur1) 22 22 ty 45 b (i*4) (n+m - i) dc ⟨vb,voff,none⟩ m vc 4 cur1 t vs tS iE hg1 (by rw[hvl,hmin])
   (fun j v hj=>by
    have ha:(⟨vb,voff,none⟩:Addr).add j=⟨vb,voff+j,none⟩:=by unfold Addr.add;split <;> simp_all
    rw[ha];have:=hvs j v hj;unfold World.cell? at this ⊢;rw[hne vb hvb];exact this)
   (by rw[hvl,hcur1l,hcs];omega) h1v
  refine⟨(cur1.toList.take (i*4)++vs++cur1.toList.drop (i*4+vs.length)).toArray,?_,fun ty dc=> ?_⟩
  ·rw[hvl]
  ·rw[h,hmin]
 obtain⟨cur2,hcur2,hcp2⟩:=hcp2;have hfin:cur2.toList=cur.toList.take (i*4)++vs++(cur.toList.drop (i*4)).take ((n - i)*4)++cur.toList.drop ((n+m)*4):=by
  rw[hcur2,hcur1];simp only[Zl];obtain⟨e1,e2⟩:=ins_list cur.toList (i*4) ((i+m)*4) (by omega) (by simp;omega) ((cur.toList.drop (i*4)).take ((n - i)*4)++cur.toList.drop ((n+m)*4));rw[e1,show i*4+m*4=(i+m)*4 by omega,e2]
 refine⟨cur2,hfin,?_⟩;clear hcur1 hcur2 hfin;have mixed:Tryz.prog.follows .mixedOrders=true:=by kernel_rfl
 go_enter Tryz.func133,Tryz.f133
 go_wp2_with (simp only[hov])
 go_region_law_o (refine step_copy_runI rfl _ _ 22 22 rfl _ _ (by simp[Act.eval,Act.put]) (by simp[Act.eval,Act.put]) (hcp1 _ _ _) ?_)
 go_wp2_with (at_builtin;refine wpList_copy_runI _ rfl _ _ 22 22 rfl _ _ rfl rfl (hcp2 _ _) ?_)
 go_ret
 exact⟨rfl,cur1,rfl⟩
set_option maxHeartbeats 4000000 in
set_option maxRecDepth 100000 in
theorem ins_grow(b n c i vb voff m vc:Nat)(cur:Array Value)(t:TypeId)(vs:List Value)(w:World)(hi:i<n)(hm:0<m)(hnc:n<=c)(hroom:c<n+m)(hlim:n+m<=lim)(hvb:vb<w.heap.size)
  (hg:w.heap[b]? =some (.cells cur t (0,0)))(hcs:cur.size=c*4)(hvl:vs.length=m*4)(h1:∀v∈(cur.toList.drop (i*4)).take ((n - i)*4),v.oneCell'=true)
  (hvs:∀j v,vs[j]? =some v->w.cell? ⟨vb,voff+j,none⟩=some v)(h1v:∀v∈vs,v.oneCell'=true)
  (hok:okT Tryz.prog 45=true)(hz:Yw Tryz.prog 45=true)(hby:YZ Tryz.prog 45=true)(hshE:(shOf Tryz.prog 45).size=4):
  ∃(row:Array Value) (G:Nat),n+m<=G/\row.size=G*4/\row.toList.take ((n+m)*4)=cur.toList.take (i*4)++vs++(cur.toList.drop (i*4)).take ((n - i)*4)/\
  Calls Tryz.prog 133 #[.slice (some ⟨b,0,none⟩) n c,.int .i64 i,.slice (some ⟨vb,voff,none⟩) m vc] w fun e w'=>
   e=.returned (.slice (some ⟨w.heap.size,0,none⟩) (n+m) G)/\w'.heap[w.heap.size]? =some (.cells row 45 (0,0))/\w'.heap.size=w.heap.size+1/\(∀x,x<w.heap.size->w'.heap[x]? =w.heap[x]?)/\w'.os=w.os/\w'.tape=w.tape/\w'.output=w.output:=by
 have t3:=t3;have a3:=a3;have z3:=z3;have v3:=v3;have t4:=t4;have a4:=a4;have z4:=z4;have v4:=v4;have tS:=tS;have aS:=aS;have zS:=zS;have vS:=vS;have zE:=zE;have u3:=run_underlying t3;have u4:=run_underlying t4;have uS:=run_underlying tS;obtain⟨i0,z0,hi0,hz0,hs0,hzc⟩:=okE w hok hz;rw[hshE] at hs0 hzc;have hb:i0.bytes<=1024:=by
  unfold YZ at hby
  rw[hi0] at hby
  simpa using hby
 have hbb:(n+m)*i0.bytes<=140737488355328:=by
  have:(n+m)*i0.bytes<=lim*1024:=ZQ hlim hb;unfold lim at this;omega
 have hlim':n+m<=1073741824:=hlim;have hbN:b<w.heap.size:=yB hg;have hz1:¬((m:Int)=0):=by omega
 have hz2:¬((i:Int)=(n:Int)):=by omega
 have hz3:(c:Int)<(n:Int)+(m:Int):=by omega
 have hkk:(n:Int)+(m:Int) - (i:Int)=((n+m - i:Nat):Int):=by omega
 have hik:i+(n+m - i)=n+m:=by omega
 have hold:(Builtin.firstCells i0.size i (.slice (some ⟨b,0,none⟩) i c)).run Tryz.prog w.drew=.ok (cur.toList.take (i*4)).toArray w.drew:=by
  rw[hs0];refine run_firstCells_some w.drew 4 i ⟨b,0,none⟩ i c (cur.toList.take (i*4)) (by simp;omega) fun j v hj=> ?_;have ha:(⟨b,0,none⟩:Addr).add j=⟨b,j,none⟩:=by unfold Addr.add;split <;> simp_all
  rw[ha];rw[zm] at hj;split at hj
  ·have hg':w.drew.heap[b]? =some (.cells cur t (0,0)):=hg;simpa[World.cell?,hg'] using hj
  ·cases hj
 obtain⟨G,hG⟩:∃G,grownCap w (n+m) c 45=G:=⟨_,rfl⟩;obtain⟨ROW,hROW⟩:∃ROW:Array Value,(cur.toList.take (i*4)).toArray++Builtin.zeroCells z0.cells (n+m - i)++Builtin.zeroCells z0.cells (G - (n+m))=ROW:=⟨_,rfl⟩;have hGn:n+m<=G:=by rw[<-hG];exact grownCap_ge w _ _ _
 have hRl:ROW.size=G*4:=by
  rw[<-hROW];simp only[Array.size_append,List.size_toArray,size_zeroCells,hzc,Zx,Zr];omega
 have hRt:ROW.toList.take (i*4)=cur.toList.take (i*4):=by
  rw[<-hROW];simp only[Array.toList_append,Zl];exact ZT (by simp;omega)
 have hrz:∀ty,(Builtin.append_ #[22,3] ty #[.slice (some ⟨b,0,none⟩) i c,.int .i64 ((n:Int)+(m:Int) - (i:Int))]).run Tryz.prog w=
   .ok (.slice (some ⟨w.heap.size,0,none⟩) (n+m) G) (w.drew.alloc (.cells ROW 45)):=fun ty=>by
  have h:=Lib.run_append_grow_zeros w 22 3 ty 45 i0 z0 .i64 .i64 tS t3 hi0 hz0 (some ⟨b,0,none⟩) i c (cur.toList.take (i*4)) hold (n+m - i) (by omega) (by rw[hs0];omega) (by omega) (by omega)
   (by have:(n+m - i)*i0.bytes<=(n+m)*i0.bytes:=ZQ (by omega) (Zc _);omega) (by rw[hik];exact growslice_fits hroom hbb)
  rw[hik,hG] at h;rw[hkk,<-hROW];exact h
 have hd1:ROW.toList.length=G*4:=by simpa using hRl
 have hGn':(n+m)*4<=G*4:=ZQ hGn (Zc _);have hcpA:∃row1:Array Value,row1.toList=ROW.toList.take (i*4)++vs++ROW.toList.drop (i*4+m*4)/\∀W:World,W.heap[w.heap.size]? =some (.cells ROW 45 (0,0))->W.heap[vb]? =w.heap[vb]?->∀ty dc,(Builtin.copy_ #[22,22] ty #[.slice (some ⟨w.heap.size,i*4,none⟩) (n+m - i) dc,.slice (some ⟨vb,voff,none⟩) m vc]).run Tryz.prog W=.ok (goInt m) (W.setRow w.heap.size row1):=by
  have hmin:Nat.min m (n+m - i)=m:=by simp only[Nat.min_def];split <;> omega
  refine⟨(ROW.toList.take (i*4)++vs++ROW.toList.drop (i*4+vs.length)).toArray,by rw[hvl],fun W hN hV ty dc=> ?_⟩;have h:=X5 W 22 22 ty 45 w.heap.size (i*4) (n+m - i) dc ⟨vb,voff,none⟩ m vc 4 ROW 45 vs tS iE hN (by rw[hvl,hmin])
   (fun j v hj=>by
    have ha:(⟨vb,voff,none⟩:Addr).add j=⟨vb,voff+j,none⟩:=by unfold Addr.add;split <;> simp_all
    rw[ha];have:=hvs j v hj;unfold World.cell? at this ⊢;rw[hV];exact this)
   (by rw[hvl,hRl];omega) h1v
  rw[h,hmin]
 obtain⟨row1,hrow1,hcpA⟩:=hcpA;have hr1l:row1.size=G*4:=by
  have:=congrArg List.length hrow1;simp at this;omega
 have hcpB:∃row2:Array Value,row2.toList=row1.toList.take ((i+m)*4)++(cur.toList.drop (i*4)).take ((n - i)*4)++row1.toList.drop ((n+m)*4)/\∀W:World,W.heap[w.heap.size]? =some (.cells row1 45 (0,0))->W.heap[b]? =some (.cells cur t (0,0))->∀ty dc sc,(Builtin.copy_ #[22,22] ty #[.slice (some ⟨w.heap.size,(i+m)*4,none⟩) (n+m - (i+m)) dc,.slice (some ⟨b,i*4,none⟩) (n - i) sc]).run Tryz.prog W=.ok (goInt ((n - i:Nat):Int)) (W.setRow w.heap.size row2):=by
  obtain⟨cs1,hcs1⟩:∃cs1,cs1=(cur.toList.drop (i*4)).take ((n - i)*4):=⟨_,rfl⟩;have hl1:cs1.length=(n - i)*4:=by rw[hcs1];simp;omega
  have hmin:Nat.min (n - i) (n+m - (i+m))=n - i:=by simp only[Nat.min_def];split <;> omega
  refine⟨(row1.toList.take ((i+m)*4)++cs1++row1.toList.drop ((i+m)*4+cs1.length)).toArray,by rw[hl1,hcs1,show(i+m)*4+(n - i)*4=(n+m)*4 by omega],fun W hN hB ty dc sc=> ?_⟩;have h:=X5 W 22 22 ty 45 w.heap.size ((i+m)*4) (n+m - (i+m)) dc ⟨b,i*4,none⟩ (n - i) sc 4 row1 45 cs1 tS iE hN (by rw[hl1,hmin])
   (fun j v hj=>by
    have ha:(⟨b,i*4,none⟩:Addr).add j=⟨b,i*4+j,none⟩:=by unfold Addr.add;split <;> simp_all
    rw[ha];rw[hcs1,zm] at hj;split at hj
    ·rw[zy] at hj;simpa[World.cell?,hB] using hj
    ·cases hj)
   (by rw[hl1,hr1l];omega) (fun v hv=>h1 v (by rw[hcs1] at hv;exact hv))
  rw[h,hmin]
 obtain⟨row2,hrow2,hcpB⟩:=hcpB;have hfin:row2.toList.take ((n+m)*4)=cur.toList.take (i*4)++vs++(cur.toList.drop (i*4)).take ((n - i)*4):=by
  have e0:row1.toList.take ((i+m)*4)=cur.toList.take (i*4)++vs:=by
   rw[hrow1,hRt];exact ZT (by simp[hvl];omega)
  rw[hrow2,e0];exact ZT (by simp[hvl];omega)
 have hr2l:row2.size=G*4:=by
  have:=congrArg List.length hrow2;simp at this;omega
 have hA1:(w.drew.alloc (.cells ROW 45)).heap[w.heap.size]? =some (.cells ROW 45 (0,0)):=YP w.drew _;have hA2:∀x,x<w.heap.size->(w.drew.alloc (.cells ROW 45)).heap[x]? =w.heap[x]? :=fun x hx=>Y2 w.drew _ hx;have hA3:(w.drew.alloc (.cells ROW 45)).heap.size=w.heap.size+1:=by
  show(w.drew.heap.push _).size=_;rw[Array.size_push];rfl
 refine⟨row2,G,hGn,hr2l,hfin,?_⟩;have hG63:G<=9223372036854775807:=by
  have:=grownCap_le_maxLen w (n+m) c 45 (by unfold maxLen;omega);rw[hG] at this;unfold maxLen at this;omega
 have hGi:¬(G=i):=by omega
 have hGim:¬(G=i+m):=by omega
 have hci:¬(c=i):=by omega
 have hw1:IntKind.i64.wrap ((i:Int)+(m:Int))=(i:Int)+(m:Int):=by rw[IntKind.wrap_i64];omega
 have hw2:IntKind.i64.wrap ((n:Int)+(m:Int))=(n:Int)+(m:Int):=by rw[IntKind.wrap_i64];omega
 have hw3:IntKind.i64.wrap ((n:Int)+(m:Int) - (i:Int))=(n:Int)+(m:Int) - (i:Int):=by rw[IntKind.wrap_i64];omega
 have hb1:(0:Int)<=(i:Int)+(m:Int):=by omega
 have hin:i<=n:=by omega
 have htn:((i:Int)+(m:Int)).toNat=i+m:=by omega
 have hb3:(i:Int)<=(n:Int):=by omega
 clear hkk hik hold hrow1 hrow2 hfin hRt hd1 hROW hG;have mixed:Tryz.prog.follows .mixedOrders=true:=by kernel_rfl
 go_enter Tryz.func133,Tryz.f133
 go_wp2_with (at_builtin;refine Lib.wpList_append_run _ rfl _ _ _ _ rfl _ _ rfl rfl _ _ (hrz _) ?_)
 have hA1':((w.alloc (.cells ROW 45)).drew).heap[w.heap.size]? =some (.cells ROW 45 (0,0)):=hA1;have hA2':∀x,x<w.heap.size->((w.alloc (.cells ROW 45)).drew).heap[x]? =w.heap[x]? :=hA2;have hA3':((w.alloc (.cells ROW 45)).drew).heap.size=w.heap.size+1:=hA3;have hA4':((w.alloc (.cells ROW 45)).drew).os=w.os/\((w.alloc (.cells ROW 45)).drew).tape=w.tape/\((w.alloc (.cells ROW 45)).drew).output=w.output:=⟨rfl,rfl,rfl⟩;rw[hcpA _ hA1' (hA2' _ hvb)];generalize (w.alloc (.cells ROW 45)).drew=W0 at*;have hB1:(W0.setRow w.heap.size row1).heap[w.heap.size]? =some (.cells row1 45 (0,0)):=setRow_heap W0 w.heap.size ROW row1 45 _ hA1';have hB2:∀x,x<w.heap.size->(W0.setRow w.heap.size row1).heap[x]? =w.heap[x]? :=fun x hx=>by
  rw[<-hA2' x hx];have:w.heap.size≠x:=by omega
  simp[World.setRow,zq,this]
 have hB3:(W0.setRow w.heap.size row1).heap.size=w.heap.size+1:=by rw[<-hA3'];simp[World.setRow]
 have hB4:(W0.setRow w.heap.size row1).os=w.os/\(W0.setRow w.heap.size row1).tape=w.tape/\(W0.setRow w.heap.size row1).output=w.output:=hA4';generalize W0.setRow w.heap.size row1=W1 at*;clear hA1' hA2' hA3' hA4' hcpA hrz hA1 hA2 hA3
 go_wp2
 have hD1:W1.drew.heap[w.heap.size]? =some (.cells row1 45 (0,0)):=hB1;have hD2:W1.drew.heap[b]? =some (.cells cur t (0,0)):=by rw[<-hg];exact hB2 b hbN
 go_region_law_o (refine step_copy_runI rfl _ _ 22 22 rfl (.slice (some ⟨w.heap.size,(i+m)*4,none⟩) (n+m - (i+m)) (G - (i+m))) (.slice (some ⟨b,i*4,none⟩) (n - i) (c - i)) (by simp[Act.eval,Act.put]) (by simp[Act.eval,Act.put]) (hcpB W1.drew hD1 hD2 3 (G - (i+m)) (c - i)) ?_)
 have hE1:(W1.drew.setRow w.heap.size row2).heap[w.heap.size]? =some (.cells row2 45 (0,0)):=setRow_heap W1.drew w.heap.size row1 row2 45 _ hD1;have hE2:∀x,x<w.heap.size->(W1.drew.setRow w.heap.size row2).heap[x]? =w.heap[x]? :=fun x hx=>by
  rw[<-hB2 x hx];have:w.heap.size≠x:=by omega
  simp[World.setRow,zq,this];rfl
 have hE3:(W1.drew.setRow w.heap.size row2).heap.size=w.heap.size+1:=by
  rw[<-hB3];show(W1.heap.modify _ _).size=_;rw[Array.size_modify]
 have hE4:(W1.drew.setRow w.heap.size row2).os=w.os/\(W1.drew.setRow w.heap.size row2).tape=w.tape/\(W1.drew.setRow w.heap.size row2).output=w.output:=hB4;generalize W1.drew.setRow w.heap.size row2=W2 at*;clear hD1 hD2 hB1 hB2 hB3 hB4 hcpB
 go_wp2
 go_ret
 exact⟨rfl,hE1,hE3,hE2,hE4⟩
set_option maxHeartbeats 4000000 in
set_option maxRecDepth 100000 in
theorem ins_end(base:Option Addr)(n c vb voff m vc:Nat)(w w':World)(v':Value)(hm:0<m)(hnc:n<=c)(hlim:n<=lim)(hrun:(Builtin.append_ #[22,22] 22 #[.slice base n c,.slice (some ⟨vb,voff,none⟩) m vc]).run Tryz.prog w=.ok v' w'):
  Calls Tryz.prog 133 #[.slice base n c,.int .i64 n,.slice (some ⟨vb,voff,none⟩) m vc] w fun E W=>E=.returned v'/\W=w':=by
 have t3:=t3;have a3:=a3;have z3:=z3;have v3:=v3;have t4:=t4;have a4:=a4;have z4:=z4;have v4:=v4;have tS:=tS;have aS:=aS;have zS:=zS;have vS:=vS;have zE:=zE;have u3:=run_underlying t3;have u4:=run_underlying t4;have uS:=run_underlying tS;have hlim':n<=1073741824:=hlim;have hz1:¬((m:Int)=0):=by omega
 have mixed:Tryz.prog.follows .mixedOrders=true:=by kernel_rfl
 go_enter Tryz.func133,Tryz.f133
 cases base with
 |none=>
  go_wp2_with (at_builtin;refine Lib.wpList_append_run _ rfl _ _ _ _ rfl _ _ rfl rfl _ _ hrun ?_)
  all_goals (go_ret;exact⟨rfl,rfl⟩)
 |some a=>
  obtain⟨ab,ao,asp⟩:=a
  go_wp2_with (at_builtin;refine Lib.wpList_append_run _ rfl _ _ _ _ rfl _ _ rfl rfl _ _ hrun ?_)
  all_goals (go_ret;exact⟨rfl,rfl⟩)
end Go.Proofs.YtgedfopkiebjkaaGreatDoor.InsA
namespace Go.Proofs.YtgedfopkiebjkaaGreatDoor.InsB
open Go Go.Am Go.Proofs Go.Lib Go.RowKit
theorem t3:Tryz.prog.underlying 3=some (TypeDesc.int IntKind.i64):=by kernel_rfl
theorem a3:∀w,(isAgg 3).run Tryz.prog w=.ok false w:=fun w=>by kernel_rfl
theorem z3:∀w,(Go.sizeOf 3).run Tryz.prog w=.ok 1 w:=fun w=>by kernel_rfl
theorem v3:∀w,(zeroValue 3).run Tryz.prog w=.ok (Value.int IntKind.i64 0) w:=fun w=>by kernel_rfl
theorem t4:Tryz.prog.underlying 4=some TypeDesc.bool:=by kernel_rfl
theorem a4:∀w,(isAgg 4).run Tryz.prog w=.ok false w:=fun w=>by kernel_rfl
theorem z4:∀w,(Go.sizeOf 4).run Tryz.prog w=.ok 1 w:=fun w=>by kernel_rfl
theorem v4:∀w,(zeroValue 4).run Tryz.prog w=.ok (Value.bool false) w:=fun w=>by kernel_rfl
theorem tS:Tryz.prog.underlying 43=some (TypeDesc.slice 49):=by kernel_rfl
theorem aS:∀w,(isAgg 43).run Tryz.prog w=.ok false w:=fun w=>by kernel_rfl
theorem zS:∀w,(Go.sizeOf 43).run Tryz.prog w=.ok 1 w:=fun w=>by kernel_rfl
theorem vS:∀w,(zeroValue 43).run Tryz.prog w=.ok (Value.slice none 0 0) w:=fun w=>by kernel_rfl
theorem zE:∀w,(Go.sizeOf 49).run Tryz.prog w=.ok 9 w:=fun w=>by kernel_rfl
theorem iE:(Tryz.prog.info? 49).map (·.size)=some 9:=by kernel_rfl
set_option maxHeartbeats 4000000 in
set_option maxRecDepth 100000 in
theorem ins_end(base:Option Addr)(n c vb voff m vc:Nat)(w w':World)(v':Value)(hm:0<m)(hnc:n<=c)(hlim:n<=lim)(hrun:(Builtin.append_ #[43,43] 43 #[.slice base n c,.slice (some ⟨vb,voff,none⟩) m vc]).run Tryz.prog w=.ok v' w'):
  Calls Tryz.prog 134 #[.slice base n c,.int .i64 n,.slice (some ⟨vb,voff,none⟩) m vc] w fun E W=>E=.returned v'/\W=w':=by
 have t3:=t3;have a3:=a3;have z3:=z3;have v3:=v3;have t4:=t4;have a4:=a4;have z4:=z4;have v4:=v4;have tS:=tS;have aS:=aS;have zS:=zS;have vS:=vS;have zE:=zE;have u3:=run_underlying t3;have u4:=run_underlying t4;have uS:=run_underlying tS;have hlim':n<=1073741824:=hlim;have hz1:¬((m:Int)=0):=by omega
 have mixed:Tryz.prog.follows .mixedOrders=true:=by kernel_rfl
 go_enter Tryz.func134,Tryz.f134
 cases base with
 |none=>
  go_wp2_with (at_builtin;refine Lib.wpList_append_run _ rfl _ _ _ _ rfl _ _ rfl rfl _ _ hrun ?_)
  all_goals (go_ret;exact⟨rfl,rfl⟩)
 |some a=>
  obtain⟨ab,ao,asp⟩:=a
  go_wp2_with (at_builtin;refine Lib.wpList_append_run _ rfl _ _ _ _ rfl _ _ rfl rfl _ _ hrun ?_)
  all_goals (go_ret;exact⟨rfl,rfl⟩)
end Go.Proofs.YtgedfopkiebjkaaGreatDoor.InsB
namespace Go.Proofs.YtgedfopkiebjkaaGreatDoor.InsC
open Go Go.Am Go.Proofs Go.Lib Go.RowKit
theorem t3:Tryz.prog.underlying 3=some (TypeDesc.int IntKind.i64):=by kernel_rfl
theorem a3:∀w,(isAgg 3).run Tryz.prog w=.ok false w:=fun w=>by kernel_rfl
theorem z3:∀w,(Go.sizeOf 3).run Tryz.prog w=.ok 1 w:=fun w=>by kernel_rfl
theorem v3:∀w,(zeroValue 3).run Tryz.prog w=.ok (Value.int IntKind.i64 0) w:=fun w=>by kernel_rfl
theorem t4:Tryz.prog.underlying 4=some TypeDesc.bool:=by kernel_rfl
theorem a4:∀w,(isAgg 4).run Tryz.prog w=.ok false w:=fun w=>by kernel_rfl
theorem z4:∀w,(Go.sizeOf 4).run Tryz.prog w=.ok 1 w:=fun w=>by kernel_rfl
theorem v4:∀w,(zeroValue 4).run Tryz.prog w=.ok (Value.bool false) w:=fun w=>by kernel_rfl
theorem tS:Tryz.prog.underlying 145=some (TypeDesc.slice 197):=by kernel_rfl
theorem aS:∀w,(isAgg 145).run Tryz.prog w=.ok false w:=fun w=>by kernel_rfl
theorem zS:∀w,(Go.sizeOf 145).run Tryz.prog w=.ok 1 w:=fun w=>by kernel_rfl
theorem vS:∀w,(zeroValue 145).run Tryz.prog w=.ok (Value.slice none 0 0) w:=fun w=>by kernel_rfl
theorem zE:∀w,(Go.sizeOf 197).run Tryz.prog w=.ok 5 w:=fun w=>by kernel_rfl
theorem iE:(Tryz.prog.info? 197).map (·.size)=some 5:=by kernel_rfl
theorem ins_list{α:Type}(C:List α)(p q:Nat)(hpq:p<=q)(hq:q<=C.length)(R:List α):(C.take q++R).take p=C.take p/\(C.take q++R).drop q=R:=by
 have hl:(C.take q).length=q:=by simp;omega
 refine⟨?_,?_⟩
 ·rw[List.take_append_of_le_length (by omega),Zu]
  congr 1
  omega
 ·exact List.drop_left' hl
set_option maxHeartbeats 4000000 in
set_option maxRecDepth 100000 in
theorem ins_shift(b n c i vb voff m vc:Nat)(cur:Array Value)(t:TypeId)(vs:List Value)(w:World)(hi:i<n)(hm:0<m)(hroom:n+m<=c)(hlim:n+m<=lim)(hvb:vb≠b)
  (hg:w.heap[b]? =some (.cells cur t (0,0)))(hcs:cur.size=c*5)(hvl:vs.length=m*5)(h1:∀v∈(cur.toList.drop (i*5)).take ((n - i)*5),v.oneCell'=true)
  (hvs:∀j v,vs[j]? =some v->w.cell? ⟨vb,voff+j,none⟩=some v)(h1v:∀v∈vs,v.oneCell'=true)
  (tA:TypeId)(kA:Nat)(hsa:w.shape? vb=some (tA,kA))(hkA:kA≠0):
  ∃cur2:Array Value,cur2.toList=cur.toList.take (i*5)++vs++(cur.toList.drop (i*5)).take ((n - i)*5)++cur.toList.drop ((n+m)*5)/\
  Calls Tryz.prog 168 #[.slice (some ⟨b,0,none⟩) n c,.int .i64 i,.slice (some ⟨vb,voff,none⟩) m vc] w fun e w'=>
   e=.returned (.slice (some ⟨b,0,none⟩) (n+m) c)/\∃cur1,w'=(w.drew.setRow b cur1).setRow b cur2:=by
 have t3:=t3;have a3:=a3;have z3:=z3;have v3:=v3;have t4:=t4;have a4:=a4;have z4:=z4;have v4:=v4;have tS:=tS;have aS:=aS;have zS:=zS;have vS:=vS;have zE:=zE;have u3:=run_underlying t3;have u4:=run_underlying t4;have uS:=run_underlying tS;have hlim':n+m<=1073741824:=hlim;have hov:∀lb cb x,(callFunc 172 #[.slice (some ⟨vb,voff,none⟩) m vc,.slice (some ⟨b,x,none⟩) lb cb]).run Tryz.prog w=.ok (.value (.bool false)) w:=fun lb cb x=>by
  have hfr:∀o,w.frozen? ⟨b,o,none⟩=false:=fun o=>by simp[World.frozen?,hg]
  rw[run_callFunc_extern Tryz.func172 (by kernel_rfl) (by kernel_rfl) (by kernel_rfl) (e:=Extern.SlicesOverlaps.overlaps #[145,145] #[4]) (by kernel_rfl),
   Uw w 145 4 197 tS 5 zE ⟨vb,voff,none⟩ ⟨b,x,none⟩ m vc lb cb hvb tA t kA cur.size hsa (by simp[World.shape?,hg]) hkA (by omega) hfr (hfr x)]
  rfl
 have hz1:¬((m:Int)=0):=by omega
 have hz2:¬((i:Int)=(n:Int)):=by omega
 have hw1:IntKind.i64.wrap ((i:Int)+(m:Int))=(i:Int)+(m:Int):=by rw[IntKind.wrap_i64];omega
 have hb1:(0:Int)<=(i:Int)+(m:Int):=by omega
 have hin:i<=n:=by omega
 have htn:((i:Int)+(m:Int)).toNat=i+m:=by omega
 have hb2:¬(c=i+m):=by omega
 have hb3:(i:Int)<=(n:Int)+(m:Int):=by omega
 have hb4:¬(c=i):=by omega
 have hcell:∀(W:World) (j:Nat),W.heap=w.heap->W.cell? ⟨b,j,none⟩=cur.toList[j]? :=fun W j h=>by
  simp[World.cell?,h,hg]
 have hcp1:∃cur1:Array Value,cur1.toList=cur.toList.take ((i+m)*5)++(cur.toList.drop (i*5)).take ((n - i)*5)++cur.toList.drop ((n+m)*5)/\∀ty dc sc,(Builtin.copy_ #[145,145] ty #[.slice (some ⟨b,(i+m)*5,none⟩) (n+m - (i+m)) dc,.slice (some ⟨b,i*5,none⟩) (n+m - i) sc]).run Tryz.prog w.drew=.ok (goInt ((n - i:Nat):Int)) (w.drew.setRow b cur1):=by
  obtain⟨cs1,hcs1⟩:∃cs1,cs1=(cur.toList.drop (i*5)).take ((n - i)*5):=⟨_,rfl⟩;have hl1:cs1.length=(n - i)*5:=by rw[hcs1];simp;omega
  have hmin:Nat.min (n+m - i) (n+m - (i+m))=n - i:=by simp only[Nat.min_def];split <;> omega
  have h:=fun ty dc sc=>
   X5 w.drew 145 145 ty 197 b ((i+m)*5) (n+m - (i+m)) dc ⟨b,i*5,none⟩ (n+m - i) sc 5 cur t cs1 tS iE hg (by rw[hl1,hmin])
   (fun j v hj=>by
    have ha:(⟨b,i*5,none⟩:Addr).add j=⟨b,i*5+j,none⟩:=by unfold Addr.add;split <;> simp_all
    rw[ha,hcell w.drew _ rfl];rw[hcs1,zm] at hj;split at hj
    ·rwa [zy] at hj
    ·cases hj)
   (by rw[hl1,hcs];omega) (fun v hv=>h1 v (by rw[hcs1] at hv;exact hv))
  refine⟨(cur.toList.take ((i+m)*5)++cs1++cur.toList.drop ((i+m)*5+cs1.length)).toArray,?_,fun ty dc sc=> ?_⟩
  ·rw[hl1,hcs1,show(i+m)*5+(n - i)*5=(n+m)*5 by omega]
  ·rw[h,hmin]
 obtain⟨cur1,hcur1,hcp1⟩:=hcp1;have hcur1l:cur1.size=cur.size:=by
  have:=congrArg List.length hcur1;simp at this;omega
 have hne:∀x,x≠b->(w.drew.setRow b cur1).heap[x]? =w.heap[x]? :=fun x hx=>by
  simp[World.setRow,zq,Ne.symm hx];rfl
 have hg1:(w.drew.setRow b cur1).heap[b]? =some (.cells cur1 t (0,0)):=setRow_heap w.drew b cur cur1 t _ hg;have hcp2:∃cur2:Array Value,cur2.toList=cur1.toList.take (i*5)++vs++cur1.toList.drop (i*5+m*5)/\∀ty dc,(Builtin.copy_ #[145,145] ty #[.slice (some ⟨b,i*5,none⟩) (n+m - i) dc,.slice (some ⟨vb,voff,none⟩) m vc]).run Tryz.prog (w.drew.setRow b cur1)=.ok (goInt m) ((w.drew.setRow b cur1).setRow b cur2):=by
  have hmin:Nat.min m (n+m - i)=m:=by simp only[Nat.min_def];split <;> omega
  have h:=fun ty dc=>
   X5 (w.drew.setRow b cur1) 145 145 ty 197 b (i*5) (n+m - i) dc ⟨vb,voff,none⟩ m vc 5 cur1 t vs tS iE hg1 (by rw[hvl,hmin])
   (fun j v hj=>by
    have ha:(⟨vb,voff,none⟩:Addr).add j=⟨vb,voff+j,none⟩:=by unfold Addr.add;split <;> simp_all
    rw[ha];have:=hvs j v hj;unfold World.cell? at this ⊢;rw[hne vb hvb];exact this)
   (by rw[hvl,hcur1l,hcs];omega) h1v
  refine⟨(cur1.toList.take (i*5)++vs++cur1.toList.drop (i*5+vs.length)).toArray,?_,fun ty dc=> ?_⟩
  ·rw[hvl]
  ·rw[h,hmin]
 obtain⟨cur2,hcur2,hcp2⟩:=hcp2;have hfin:cur2.toList=cur.toList.take (i*5)++vs++(cur.toList.drop (i*5)).take ((n - i)*5)++cur.toList.drop ((n+m)*5):=by
  rw[hcur2,hcur1];simp only[Zl];obtain⟨e1,e2⟩:=ins_list cur.toList (i*5) ((i+m)*5) (by omega) (by simp;omega) ((cur.toList.drop (i*5)).take ((n - i)*5)++cur.toList.drop ((n+m)*5));rw[e1,show i*5+m*5=(i+m)*5 by omega,e2]
 refine⟨cur2,hfin,?_⟩;clear hcur1 hcur2 hfin;have mixed:Tryz.prog.follows .mixedOrders=true:=by kernel_rfl
 go_enter Tryz.func168,Tryz.f168
 go_wp2_with (simp only[hov])
 go_region_law_o (refine step_copy_runI rfl _ _ 145 145 rfl _ _ (by simp[Act.eval,Act.put]) (by simp[Act.eval,Act.put]) (hcp1 _ _ _) ?_)
 go_wp2_with (at_builtin;refine wpList_copy_runI _ rfl _ _ 145 145 rfl _ _ rfl rfl (hcp2 _ _) ?_)
 go_ret
 exact⟨rfl,cur1,rfl⟩
set_option maxHeartbeats 4000000 in
set_option maxRecDepth 100000 in
theorem ins_grow(b n c i vb voff m vc:Nat)(cur:Array Value)(t:TypeId)(vs:List Value)(w:World)(hi:i<n)(hm:0<m)(hnc:n<=c)(hroom:c<n+m)(hlim:n+m<=lim)(hvb:vb<w.heap.size)
  (hg:w.heap[b]? =some (.cells cur t (0,0)))(hcs:cur.size=c*5)(hvl:vs.length=m*5)(h1:∀v∈(cur.toList.drop (i*5)).take ((n - i)*5),v.oneCell'=true)
  (hvs:∀j v,vs[j]? =some v->w.cell? ⟨vb,voff+j,none⟩=some v)(h1v:∀v∈vs,v.oneCell'=true)
  (hok:okT Tryz.prog 197=true)(hz:Yw Tryz.prog 197=true)(hby:YZ Tryz.prog 197=true)(hshE:(shOf Tryz.prog 197).size=5):
  ∃(row:Array Value) (G:Nat),n+m<=G/\row.size=G*5/\row.toList.take ((n+m)*5)=cur.toList.take (i*5)++vs++(cur.toList.drop (i*5)).take ((n - i)*5)/\
  Calls Tryz.prog 168 #[.slice (some ⟨b,0,none⟩) n c,.int .i64 i,.slice (some ⟨vb,voff,none⟩) m vc] w fun e w'=>
   e=.returned (.slice (some ⟨w.heap.size,0,none⟩) (n+m) G)/\w'.heap[w.heap.size]? =some (.cells row 197 (0,0))/\w'.heap.size=w.heap.size+1/\(∀x,x<w.heap.size->w'.heap[x]? =w.heap[x]?)/\w'.os=w.os/\w'.tape=w.tape/\w'.output=w.output:=by
 have t3:=t3;have a3:=a3;have z3:=z3;have v3:=v3;have t4:=t4;have a4:=a4;have z4:=z4;have v4:=v4;have tS:=tS;have aS:=aS;have zS:=zS;have vS:=vS;have zE:=zE;have u3:=run_underlying t3;have u4:=run_underlying t4;have uS:=run_underlying tS;obtain⟨i0,z0,hi0,hz0,hs0,hzc⟩:=okE w hok hz;rw[hshE] at hs0 hzc;have hb:i0.bytes<=1024:=by
  unfold YZ at hby
  rw[hi0] at hby
  simpa using hby
 have hbb:(n+m)*i0.bytes<=140737488355328:=by
  have:(n+m)*i0.bytes<=lim*1024:=ZQ hlim hb;unfold lim at this;omega
 have hlim':n+m<=1073741824:=hlim;have hbN:b<w.heap.size:=yB hg;have hz1:¬((m:Int)=0):=by omega
 have hz2:¬((i:Int)=(n:Int)):=by omega
 have hz3:(c:Int)<(n:Int)+(m:Int):=by omega
 have hkk:(n:Int)+(m:Int) - (i:Int)=((n+m - i:Nat):Int):=by omega
 have hik:i+(n+m - i)=n+m:=by omega
 have hold:(Builtin.firstCells i0.size i (.slice (some ⟨b,0,none⟩) i c)).run Tryz.prog w.drew=.ok (cur.toList.take (i*5)).toArray w.drew:=by
  rw[hs0];refine run_firstCells_some w.drew 5 i ⟨b,0,none⟩ i c (cur.toList.take (i*5)) (by simp;omega) fun j v hj=> ?_;have ha:(⟨b,0,none⟩:Addr).add j=⟨b,j,none⟩:=by unfold Addr.add;split <;> simp_all
  rw[ha];rw[zm] at hj;split at hj
  ·have hg':w.drew.heap[b]? =some (.cells cur t (0,0)):=hg;simpa[World.cell?,hg'] using hj
  ·cases hj
 obtain⟨G,hG⟩:∃G,grownCap w (n+m) c 197=G:=⟨_,rfl⟩;obtain⟨ROW,hROW⟩:∃ROW:Array Value,(cur.toList.take (i*5)).toArray++Builtin.zeroCells z0.cells (n+m - i)++Builtin.zeroCells z0.cells (G - (n+m))=ROW:=⟨_,rfl⟩;have hGn:n+m<=G:=by rw[<-hG];exact grownCap_ge w _ _ _
 have hRl:ROW.size=G*5:=by
  rw[<-hROW];simp only[Array.size_append,List.size_toArray,size_zeroCells,hzc,Zx,Zr];omega
 have hRt:ROW.toList.take (i*5)=cur.toList.take (i*5):=by
  rw[<-hROW];simp only[Array.toList_append,Zl];exact ZT (by simp;omega)
 have hrz:∀ty,(Builtin.append_ #[145,3] ty #[.slice (some ⟨b,0,none⟩) i c,.int .i64 ((n:Int)+(m:Int) - (i:Int))]).run Tryz.prog w=
   .ok (.slice (some ⟨w.heap.size,0,none⟩) (n+m) G) (w.drew.alloc (.cells ROW 197)):=fun ty=>by
  have h:=Lib.run_append_grow_zeros w 145 3 ty 197 i0 z0 .i64 .i64 tS t3 hi0 hz0 (some ⟨b,0,none⟩) i c (cur.toList.take (i*5)) hold (n+m - i) (by omega) (by rw[hs0];omega) (by omega) (by omega)
   (by have:(n+m - i)*i0.bytes<=(n+m)*i0.bytes:=ZQ (by omega) (Zc _);omega) (by rw[hik];exact growslice_fits hroom hbb)
  rw[hik,hG] at h;rw[hkk,<-hROW];exact h
 have hd1:ROW.toList.length=G*5:=by simpa using hRl
 have hGn':(n+m)*5<=G*5:=ZQ hGn (Zc _);have hcpA:∃row1:Array Value,row1.toList=ROW.toList.take (i*5)++vs++ROW.toList.drop (i*5+m*5)/\∀W:World,W.heap[w.heap.size]? =some (.cells ROW 197 (0,0))->W.heap[vb]? =w.heap[vb]?->∀ty dc,(Builtin.copy_ #[145,145] ty #[.slice (some ⟨w.heap.size,i*5,none⟩) (n+m - i) dc,.slice (some ⟨vb,voff,none⟩) m vc]).run Tryz.prog W=.ok (goInt m) (W.setRow w.heap.size row1):=by
  have hmin:Nat.min m (n+m - i)=m:=by simp only[Nat.min_def];split <;> omega
  refine⟨(ROW.toList.take (i*5)++vs++ROW.toList.drop (i*5+vs.length)).toArray,by rw[hvl],fun W hN hV ty dc=> ?_⟩;have h:=X5 W 145 145 ty 197 w.heap.size (i*5) (n+m - i) dc ⟨vb,voff,none⟩ m vc 5 ROW 197 vs tS iE hN (by rw[hvl,hmin])
   (fun j v hj=>by
    have ha:(⟨vb,voff,none⟩:Addr).add j=⟨vb,voff+j,none⟩:=by unfold Addr.add;split <;> simp_all
    rw[ha];have:=hvs j v hj;unfold World.cell? at this ⊢;rw[hV];exact this)
   (by rw[hvl,hRl];omega) h1v
  rw[h,hmin]
 obtain⟨row1,hrow1,hcpA⟩:=hcpA;have hr1l:row1.size=G*5:=by
  have:=congrArg List.length hrow1;simp at this;omega
 have hcpB:∃row2:Array Value,row2.toList=row1.toList.take ((i+m)*5)++(cur.toList.drop (i*5)).take ((n - i)*5)++row1.toList.drop ((n+m)*5)/\∀W:World,W.heap[w.heap.size]? =some (.cells row1 197 (0,0))->W.heap[b]? =some (.cells cur t (0,0))->∀ty dc sc,(Builtin.copy_ #[145,145] ty #[.slice (some ⟨w.heap.size,(i+m)*5,none⟩) (n+m - (i+m)) dc,.slice (some ⟨b,i*5,none⟩) (n - i) sc]).run Tryz.prog W=.ok (goInt ((n - i:Nat):Int)) (W.setRow w.heap.size row2):=by
  obtain⟨cs1,hcs1⟩:∃cs1,cs1=(cur.toList.drop (i*5)).take ((n - i)*5):=⟨_,rfl⟩;have hl1:cs1.length=(n - i)*5:=by rw[hcs1];simp;omega
  have hmin:Nat.min (n - i) (n+m - (i+m))=n - i:=by simp only[Nat.min_def];split <;> omega
  refine⟨(row1.toList.take ((i+m)*5)++cs1++row1.toList.drop ((i+m)*5+cs1.length)).toArray,by rw[hl1,hcs1,show(i+m)*5+(n - i)*5=(n+m)*5 by omega],fun W hN hB ty dc sc=> ?_⟩;have h:=X5 W 145 145 ty 197 w.heap.size ((i+m)*5) (n+m - (i+m)) dc ⟨b,i*5,none⟩ (n - i) sc 5 row1 197 cs1 tS iE hN (by rw[hl1,hmin])
   (fun j v hj=>by
    have ha:(⟨b,i*5,none⟩:Addr).add j=⟨b,i*5+j,none⟩:=by unfold Addr.add;split <;> simp_all
    rw[ha];rw[hcs1,zm] at hj;split at hj
    ·rw[zy] at hj;simpa[World.cell?,hB] using hj
    ·cases hj)
   (by rw[hl1,hr1l];omega) (fun v hv=>h1 v (by rw[hcs1] at hv;exact hv))
  rw[h,hmin]
 obtain⟨row2,hrow2,hcpB⟩:=hcpB;have hfin:row2.toList.take ((n+m)*5)=cur.toList.take (i*5)++vs++(cur.toList.drop (i*5)).take ((n - i)*5):=by
  have e0:row1.toList.take ((i+m)*5)=cur.toList.take (i*5)++vs:=by
   rw[hrow1,hRt];exact ZT (by simp[hvl];omega)
  rw[hrow2,e0];exact ZT (by simp[hvl];omega)
 have hr2l:row2.size=G*5:=by
  have:=congrArg List.length hrow2;simp at this;omega
 have hA1:(w.drew.alloc (.cells ROW 197)).heap[w.heap.size]? =some (.cells ROW 197 (0,0)):=YP w.drew _;have hA2:∀x,x<w.heap.size->(w.drew.alloc (.cells ROW 197)).heap[x]? =w.heap[x]? :=fun x hx=>Y2 w.drew _ hx;have hA3:(w.drew.alloc (.cells ROW 197)).heap.size=w.heap.size+1:=by
  show(w.drew.heap.push _).size=_;rw[Array.size_push];rfl
 refine⟨row2,G,hGn,hr2l,hfin,?_⟩;have hG63:G<=9223372036854775807:=by
  have:=grownCap_le_maxLen w (n+m) c 197 (by unfold maxLen;omega);rw[hG] at this;unfold maxLen at this;omega
 have hGi:¬(G=i):=by omega
 have hGim:¬(G=i+m):=by omega
 have hci:¬(c=i):=by omega
 have hw1:IntKind.i64.wrap ((i:Int)+(m:Int))=(i:Int)+(m:Int):=by rw[IntKind.wrap_i64];omega
 have hw2:IntKind.i64.wrap ((n:Int)+(m:Int))=(n:Int)+(m:Int):=by rw[IntKind.wrap_i64];omega
 have hw3:IntKind.i64.wrap ((n:Int)+(m:Int) - (i:Int))=(n:Int)+(m:Int) - (i:Int):=by rw[IntKind.wrap_i64];omega
 have hb1:(0:Int)<=(i:Int)+(m:Int):=by omega
 have hin:i<=n:=by omega
 have htn:((i:Int)+(m:Int)).toNat=i+m:=by omega
 have hb3:(i:Int)<=(n:Int):=by omega
 clear hkk hik hold hrow1 hrow2 hfin hRt hd1 hROW hG;have mixed:Tryz.prog.follows .mixedOrders=true:=by kernel_rfl
 go_enter Tryz.func168,Tryz.f168
 go_wp2_with (at_builtin;refine Lib.wpList_append_run _ rfl _ _ _ _ rfl _ _ rfl rfl _ _ (hrz _) ?_)
 have hA1':((w.alloc (.cells ROW 197)).drew).heap[w.heap.size]? =some (.cells ROW 197 (0,0)):=hA1;have hA2':∀x,x<w.heap.size->((w.alloc (.cells ROW 197)).drew).heap[x]? =w.heap[x]? :=hA2;have hA3':((w.alloc (.cells ROW 197)).drew).heap.size=w.heap.size+1:=hA3;have hA4':((w.alloc (.cells ROW 197)).drew).os=w.os/\((w.alloc (.cells ROW 197)).drew).tape=w.tape/\((w.alloc (.cells ROW 197)).drew).output=w.output:=⟨rfl,rfl,rfl⟩;rw[hcpA _ hA1' (hA2' _ hvb)];generalize (w.alloc (.cells ROW 197)).drew=W0 at*;have hB1:(W0.setRow w.heap.size row1).heap[w.heap.size]? =some (.cells row1 197 (0,0)):=setRow_heap W0 w.heap.size ROW row1 197 _ hA1';have hB2:∀x,x<w.heap.size->(W0.setRow w.heap.size row1).heap[x]? =w.heap[x]? :=fun x hx=>by
  rw[<-hA2' x hx];have:w.heap.size≠x:=by omega
  simp[World.setRow,zq,this]
 have hB3:(W0.setRow w.heap.size row1).heap.size=w.heap.size+1:=by rw[<-hA3'];simp[World.setRow]
 have hB4:(W0.setRow w.heap.size row1).os=w.os/\(W0.setRow w.heap.size row1).tape=w.tape/\(W0.setRow w.heap.size row1).output=w.output:=hA4';generalize W0.setRow w.heap.size row1=W1 at*;clear hA1' hA2' hA3' hA4' hcpA hrz hA1 hA2 hA3
 go_wp2
 have hD1:W1.drew.heap[w.heap.size]? =some (.cells row1 197 (0,0)):=hB1;have hD2:W1.drew.heap[b]? =some (.cells cur t (0,0)):=by rw[<-hg];exact hB2 b hbN
 go_region_law_o (refine step_copy_runI rfl _ _ 145 145 rfl (.slice (some ⟨w.heap.size,(i+m)*5,none⟩) (n+m - (i+m)) (G - (i+m))) (.slice (some ⟨b,i*5,none⟩) (n - i) (c - i)) (by simp[Act.eval,Act.put]) (by simp[Act.eval,Act.put]) (hcpB W1.drew hD1 hD2 3 (G - (i+m)) (c - i)) ?_)
 have hE1:(W1.drew.setRow w.heap.size row2).heap[w.heap.size]? =some (.cells row2 197 (0,0)):=setRow_heap W1.drew w.heap.size row1 row2 197 _ hD1;have hE2:∀x,x<w.heap.size->(W1.drew.setRow w.heap.size row2).heap[x]? =w.heap[x]? :=fun x hx=>by
  rw[<-hB2 x hx];have:w.heap.size≠x:=by omega
  simp[World.setRow,zq,this];rfl
 have hE3:(W1.drew.setRow w.heap.size row2).heap.size=w.heap.size+1:=by
  rw[<-hB3];show(W1.heap.modify _ _).size=_;rw[Array.size_modify]
 have hE4:(W1.drew.setRow w.heap.size row2).os=w.os/\(W1.drew.setRow w.heap.size row2).tape=w.tape/\(W1.drew.setRow w.heap.size row2).output=w.output:=hB4;generalize W1.drew.setRow w.heap.size row2=W2 at*;clear hD1 hD2 hB1 hB2 hB3 hB4 hcpB
 go_wp2
 go_ret
 exact⟨rfl,hE1,hE3,hE2,hE4⟩
set_option maxHeartbeats 4000000 in
set_option maxRecDepth 100000 in
theorem ins_end(base:Option Addr)(n c vb voff m vc:Nat)(w w':World)(v':Value)(hm:0<m)(hnc:n<=c)(hlim:n<=lim)(hrun:(Builtin.append_ #[145,145] 145 #[.slice base n c,.slice (some ⟨vb,voff,none⟩) m vc]).run Tryz.prog w=.ok v' w'):
  Calls Tryz.prog 168 #[.slice base n c,.int .i64 n,.slice (some ⟨vb,voff,none⟩) m vc] w fun E W=>E=.returned v'/\W=w':=by
 have t3:=t3;have a3:=a3;have z3:=z3;have v3:=v3;have t4:=t4;have a4:=a4;have z4:=z4;have v4:=v4;have tS:=tS;have aS:=aS;have zS:=zS;have vS:=vS;have zE:=zE;have u3:=run_underlying t3;have u4:=run_underlying t4;have uS:=run_underlying tS;have hlim':n<=1073741824:=hlim;have hz1:¬((m:Int)=0):=by omega
 have mixed:Tryz.prog.follows .mixedOrders=true:=by kernel_rfl
 go_enter Tryz.func168,Tryz.f168
 cases base with
 |none=>
  go_wp2_with (at_builtin;refine Lib.wpList_append_run _ rfl _ _ _ _ rfl _ _ rfl rfl _ _ hrun ?_)
  all_goals (go_ret;exact⟨rfl,rfl⟩)
 |some a=>
  obtain⟨ab,ao,asp⟩:=a
  go_wp2_with (at_builtin;refine Lib.wpList_append_run _ rfl _ _ _ _ rfl _ _ rfl rfl _ _ hrun ?_)
  all_goals (go_ret;exact⟨rfl,rfl⟩)
end Go.Proofs.YtgedfopkiebjkaaGreatDoor.InsC
namespace Go.Proofs.YtgedfopkiebjkaaGreatDoor
open Go.Shelf
def Tryz.laysFields_ren:Go.Shelf.Ren:=⟨fun|157=>59|229=>100|199=>101|261=>130|311=>147|312=>148|n=>n,fun|9=>9|31=>93|3=>3|5=>5|4=>4|119=>125|0=>0|40=>127|152=>154|21=>21|154=>156|51=>157|141=>159|196=>182|193=>179|198=>185|49=>183|194=>180|201=>188|226=>202|46=>153|227=>203|n=>n,fun|0=>0|6=>1|n=>n⟩
theorem Tryz.zAP:Go.Proofs.Lays.n157 Tryz.prog Tryz.laysFields_ren:=
 {
  mixed:=by kernel_rfl,
  f157:=Tryz.func59.trans (congrArg some (by kernel_rfl)),
  f199:=Tryz.func101.trans (congrArg some (by kernel_rfl)),
  f229:=Tryz.func100.trans (congrArg some (by kernel_rfl)),
  f261:=Tryz.func130.trans (congrArg some (by kernel_rfl)),
  f311:=Tryz.func147.trans (congrArg some (by kernel_rfl)),
  f312:=Tryz.func148.trans (congrArg some (by kernel_rfl)),
  t0:=Tryz.underlying0,
  a0:=Tryz.isAgg0,
  z0:=Tryz.sizeOf0,
  v0:=Tryz.zeroValue0,
  t3:=Tryz.underlying3,
  a3:=Tryz.isAgg3,
  z3:=Tryz.sizeOf3,
  v3:=Tryz.zeroValue3,
  t4:=Tryz.underlying4,
  a4:=Tryz.isAgg4,
  z4:=Tryz.sizeOf4,
  v4:=Tryz.zeroValue4,
  t5:=Tryz.underlying5,
  a5:=Tryz.isAgg5,
  z5:=Tryz.sizeOf5,
  v5:=Tryz.zeroValue5,
  t9:=Tryz.underlying9,
  a9:=Tryz.isAgg9,
  z9:=Tryz.sizeOf9,
  v9:=Tryz.zeroValue9,
  t21:=Tryz.underlying21,
  a21:=Tryz.isAgg21,
  z21:=Tryz.sizeOf21,
  v21:=Tryz.zeroValue21,
  t31:=Tryz.underlying93,
  a31:=Tryz.isAgg93,
  z31:=Tryz.sizeOf93,
  v31:=Tryz.zeroValue93,
  t40:=Tryz.underlying127,
  a40:=Tryz.isAgg127,
  z40:=Tryz.sizeOf127,
  v40:=Tryz.zeroValue127,
  t46:=Tryz.underlying153,
  a46:=Tryz.isAgg153,
  z46:=Tryz.sizeOf153,
  v46:=Tryz.zeroValue153,
  t49:=Tryz.underlying183,
  a49:=Tryz.isAgg183,
  z49:=Tryz.sizeOf183,
  v49:=Tryz.zeroValue183,
  t51:=Tryz.underlying157,
  a51:=Tryz.isAgg157,
  z51:=Tryz.sizeOf157,
  v51:=Tryz.zeroValue157,
  t119:=Tryz.underlying125,
  a119:=Tryz.isAgg125,
  z119:=Tryz.sizeOf125,
  t141:=Tryz.underlying159,
  a141:=Tryz.isAgg159,
  z141:=Tryz.sizeOf159,
  v141:=Tryz.zeroValue159,
  t152:=Tryz.underlying154,
  a152:=Tryz.isAgg154,
  z152:=Tryz.sizeOf154,
  v152:=Tryz.zeroValue154,
  t154:=Tryz.underlying156,
  a154:=Tryz.isAgg156,
  z154:=Tryz.sizeOf156,
  v154:=Tryz.zeroValue156,
  t193:=Tryz.underlying179,
  a193:=Tryz.isAgg179,
  z193:=Tryz.sizeOf179,
  v193:=Tryz.zeroValue179,
  t194:=Tryz.underlying180,
  a194:=Tryz.isAgg180,
  z194:=Tryz.sizeOf180,
  v194:=Tryz.zeroValue180,
  t196:=Tryz.underlying182,
  a196:=Tryz.isAgg182,
  z196:=Tryz.sizeOf182,
  v196:=Tryz.zeroValue182,
  t198:=Tryz.underlying185,
  a198:=Tryz.isAgg185,
  z198:=Tryz.sizeOf185,
  v198:=Tryz.zeroValue185,
  t201:=Tryz.underlying188,
  a201:=Tryz.isAgg188,
  z201:=Tryz.sizeOf188,
  v201:=Tryz.zeroValue188,
  t226:=Tryz.underlying202,
  a226:=Tryz.isAgg202,
  z226:=Tryz.sizeOf202,
  v226:=Tryz.zeroValue202,
  t227:=Tryz.underlying203,
  a227:=Tryz.isAgg203,
  z227:=Tryz.sizeOf203,
  v227:=Tryz.zeroValue203,
  g0:=by kernel_rfl,
  g6:=by kernel_rfl
 }
end Go.Proofs.YtgedfopkiebjkaaGreatDoor
namespace Go.Proofs.YtgedfopkiebjkaaGreatDoor
open Go.Am Go.ChangeShapes Go.WideShapes Go.ChangeAt Go.RowKit
theorem Tryz.own:ownKnob Tryz.prog.godebug=none:=by kernel_rfl
theorem Tryz.zAU:laidOutB Tryz.prog=true:=by kernel_rfl
theorem Tryz.mixed:Tryz.prog.follows .mixedOrders=true:=by kernel_rfl
def prS:Nat->List UInt8
 |0=>[97,115,115,101,114,116,97]
 |1=>[97,115,115,101,114,116,122]
 |2=>[97,98,111,108,105,115,104]
 |3=>[100,121,110,97,109,105,99]
 |4=>[99,117,114,114,101,110,116,95,112,114,101,100,105,99,97,116,101]
 |5=>[99,108,97,117,115,101]
 |6=>[36,99,108,97,117,115,101]
 |_=>[36,101,114,97,115,101]
def prN:Nat->Int
 |0=>1
 |1=>1
 |2=>1
 |3=>1
 |4=>1
 |5=>2
 |6=>3
 |_=>1
def prF:Nat->FuncId
 |0=>78
 |1=>78
 |2=>79
 |3=>80
 |4=>81
 |5=>82
 |6=>82
 |_=>83
def mo:Code->Array Oper
 | .seq _ (.seq (.region _ ops _) _)=>ops
 |_=> #[]
set_option maxRecDepth 100000 in
theorem mp:Am.Lit Tryz.prog (mo (Tryz.f39.body.get (by kernel_rfl))) 8 11 0 1 10 71 74 (fun e=>e+2) prS prN prF where
 sz:=by kernel_rfl
 o0:=⟨_,rfl,rfl,rfl,rfl⟩
 ob:=fun e he=>by
  match e,he with
  |0,_=>exact⟨_,rfl,rfl,rfl,rfl⟩
  |1,_=>exact⟨_,rfl,rfl,rfl,rfl⟩
  |2,_=>exact⟨_,rfl,rfl,rfl,rfl⟩
  |3,_=>exact⟨_,rfl,rfl,rfl,rfl⟩
  |4,_=>exact⟨_,rfl,rfl,rfl,rfl⟩
  |5,_=>exact⟨_,rfl,rfl,rfl,rfl⟩
  |6,_=>exact⟨_,rfl,rfl,rfl,rfl⟩
  |7,_=>exact⟨_,rfl,rfl,rfl,rfl⟩
 oi:=fun e he=>by
  match e,he with
  |0,_=>exact⟨_,rfl,rfl,rfl,rfl,⟨_,ZC (i:=0) rfl,rfl,rfl⟩,⟨_,ZC (i:=1) rfl,rfl,rfl⟩⟩
  |1,_=>exact⟨_,rfl,rfl,rfl,rfl,⟨_,ZC (i:=0) rfl,rfl,rfl⟩,⟨_,ZC (i:=1) rfl,rfl,rfl⟩⟩
  |2,_=>exact⟨_,rfl,rfl,rfl,rfl,⟨_,ZC (i:=0) rfl,rfl,rfl⟩,⟨_,ZC (i:=1) rfl,rfl,rfl⟩⟩
  |3,_=>exact⟨_,rfl,rfl,rfl,rfl,⟨_,ZC (i:=0) rfl,rfl,rfl⟩,⟨_,ZC (i:=1) rfl,rfl,rfl⟩⟩
  |4,_=>exact⟨_,rfl,rfl,rfl,rfl,⟨_,ZC (i:=0) rfl,rfl,rfl⟩,⟨_,ZC (i:=1) rfl,rfl,rfl⟩⟩
  |5,_=>exact⟨_,rfl,rfl,rfl,rfl,⟨_,ZC (i:=0) rfl,rfl,rfl⟩,⟨_,ZC (i:=1) rfl,rfl,rfl⟩⟩
  |6,_=>exact⟨_,rfl,rfl,rfl,rfl,⟨_,ZC (i:=0) rfl,rfl,rfl⟩,⟨_,ZC (i:=1) rfl,rfl,rfl⟩⟩
  |7,_=>exact⟨_,rfl,rfl,rfl,rfl,⟨_,ZC (i:=0) rfl,rfl,rfl⟩,⟨_,ZC (i:=1) rfl,rfl,rfl⟩⟩
 om:=⟨_,rfl,rfl,rfl,rfl,⟨_,ZC (i:=0) rfl,rfl,rfl⟩⟩
 oa:=⟨_,rfl,rfl,rfl,rfl,⟨_,ZC (i:=0) rfl,rfl,rfl⟩⟩
 lt:=⟨by decide,by decide,by decide,fun e he=>by omega⟩
 ne:=⟨by decide,by decide,by decide,fun e he=>⟨by omega,by omega,by omega,fun e' he' h=>by omega⟩⟩
theorem mq:yl Tryz.prog 74=some [1,0]:=by kernel_rfl
theorem kkOk:∀e,e<8->Yi [1,0] (kP prS prN e) (kP prS prN e)=some true:=by decide
theorem knOk:∀e e',e<8->e'<8->e≠e'->Yi [1,0] (kP prS prN e) (kP prS prN e')=some false:=by
 have h:∀e,e<8->∀e',e'<8->e≠e'->Yi [1,0] (kP prS prN e) (kP prS prN e')=some false:=by decide
 exact fun e e' h1 h2 h3=>h e h1 e' h2 h3
set_option maxRecDepth 100000 in
theorem mr:Xr Tryz.prog 39 (qH none (YG 8 prS prN prF)):=
 Hh (te:=69) (ds:=[1,0]) Tryz.mixed Tryz.func39 rfl (by decide+kernel) (by kernel_rfl) rfl ⟨rfl,rfl,rfl⟩ mp (by kernel_rfl) mq kkOk knOk
  (fun w e he=>Hi (P:=Tryz.prog) (tk:=74) rfl rfl ⟨_,rfl,by kernel_rfl⟩ (prS e) (prN e) w) (by kernel_rfl)
theorem mt:Xr Tryz.prog 59 Qq:=
 mm Tryz.zAP (by kernel_rfl) (by kernel_rfl) rfl Tryz.func59 rfl (by decide+kernel)
theorem mw:Xr Tryz.prog 133 (J4 (some 4)):=by
 have h:shOf Tryz.prog 45=some 4:=by kernel_rfl
 have k:=Hb (P:=Tryz.prog) (f:=133) (c:=Tryz.f133.body.get (by kernel_rfl)) (t:=22) (e:=45) (by rw[h];exact⟨InsA.ins_end,InsA.ins_shift,fun b n c i vb voff m vc cur t vs w hi hm hnc hr hl hvb hg hcs hvl h1 hvs h1v=>InsA.ins_grow b n c i vb voff m vc cur t vs w hi hm hnc hr hl hvb hg hcs hvl h1 hvs h1v (by kernel_rfl) (by kernel_rfl) (by kernel_rfl) (by rw[h];rfl)⟩) Tryz.func133 (by kernel_rfl) (by decide+kernel) (by kernel_rfl) (by kernel_rfl) (by kernel_rfl) (by kernel_rfl);rw[h] at k;exact k
theorem my:Xr Tryz.prog 134 (J3 (some 9)):=by
 have h:shOf Tryz.prog 49=some 9:=by kernel_rfl
 have k:=Ha (P:=Tryz.prog) (f:=134) (c:=Tryz.f134.body.get (by kernel_rfl)) (t:=43) (e:=49) InsB.ins_end Tryz.func134 (by kernel_rfl) (by decide+kernel) (by kernel_rfl) (by kernel_rfl) (by kernel_rfl) (by kernel_rfl);rw[h] at k;exact k
theorem mz:Xr Tryz.prog 168 (xa (some 5)):=by
 have h:shOf Tryz.prog 197=some 5:=by kernel_rfl
 have k:=eZ (P:=Tryz.prog) (f:=168) (c:=Tryz.f168.body.get (by kernel_rfl)) (t:=145) (e:=197) (by rw[h];exact⟨InsC.ins_end,InsC.ins_shift,fun b n c i vb voff m vc cur t vs w hi hm hnc hr hl hvb hg hcs hvl h1 hvs h1v=>InsC.ins_grow b n c i vb voff m vc cur t vs w hi hm hnc hr hl hvb hg hcs hvl h1 hvs h1v (by kernel_rfl) (by kernel_rfl) (by kernel_rfl) (by rw[h];rfl)⟩) Tryz.func168 (by kernel_rfl) (by decide+kernel) (by kernel_rfl) (by kernel_rfl) (by kernel_rfl) (by kernel_rfl);rw[h] at k;exact k
def prim:FuncId->Option z8:=fun g=>bif Nat.beq 133 g then some (J4 (some 4)) else(fun g=>bif Nat.beq 134 g then some (J3 (some 9)) else(fun g=>bif Nat.beq 168 g then some (xa (some 5)) else(fun g=>bif Nat.beq 59 g then some Qq else(fun g=>bif Nat.beq 39 g then some (qH none (YG 8 prS prN prF)) else(fun _=>none) g) g) g) g) g
theorem mA:xE Tryz.prog prim:=qG mw (qG my (qG mz (qG mt (qG mr eS))))
theorem sound:SoundO Tryz.prog (sem (find tab) prim):=eP Tryz.mixed (eR mn) mA
def yes:Option (ARes × Heap)->Bool
 |some (.ret (.pv none (.bool true)),[])=>true
 |_=>false
theorem GL{r:Option (ARes × Heap)}(h:yes r=true):r=some (.ret (P5 true),[]):=by
 unfold yes at h;split at h
 ·rfl
 ·cases h
end Go.Proofs.YtgedfopkiebjkaaGreatDoor
namespace Go.Proofs.YtgedfopkiebjkaaGreatDoor
open Go.Am Go.ChangeShapes Go.WideShapes Go.ChangeAt Go.RowKit
theorem mB(H:Type):BulkLaws (H:=H) Rows.uptoBulk Rows.uptoBulkAll where
 nil:=by simp[Rows.uptoBulkAll]
 cons d r:=by simp[Rows.uptoBulkAll]
 slice e s:=by simp[Rows.uptoBulk]
 agg l:=by simp[Rows.uptoBulk]
 string l:=by simp[Rows.uptoBulk]
theorem mC{H:Type}{l:List (DataW H)}(hk:Rows.uptoSmall H l=true):Rows.uptoBulkAll l<=1048576:=Z5 hk
def GM(P:Program)(tA tT:TypeId):Bool:=
 (match P.underlying tA with|some (.slice t)=>t == tT|_=>false) &&
 (match P.underlying tT with
  |some (.struct fs)=>match fs.toList.map (·.type) with
   |[a,b,c,d]=>d == tA && (match P.underlying a with|some (.int .i64)=>true|_=>false) && (match P.underlying b with|some (.int .i64)=>true|_=>false) && (match P.underlying c with|some .string=>true|_=>false) && decide (shOf P a=none) && decide (shOf P b=none) && decide (shOf P c=none)
   |_=>false
  |_=>false) && decide (shOf P tT=some 4) && decide (shOf P tA=none)
theorem mD{P:Program}{tA tT:TypeId}(h:GM P tA tT=true):TermTy P tA tT:=by
 unfold GM at h;simp only[Zk,ZH] at h;obtain⟨⟨⟨h1,h2⟩,h3⟩,h4⟩:=h;refine⟨?_,?_⟩
 ·split at h1
  ·rename_i t ht;rw[ht];simp at h1;rw[h1]
  ·cases h1
 ·split at h2
  ·rename_i fs hfs;split at h2
   ·rename_i a b c d hl;simp only[Zk,ZH,beq_iff_eq] at h2;obtain⟨⟨⟨⟨⟨⟨k1,k2⟩,k3⟩,k4⟩,k5⟩,k6⟩,k7⟩:=h2;subst k1;refine⟨fs,a,b,c,hfs,hl,?_,?_,?_,h3,h4,k5,k6,k7⟩
    ·split at k2
     ·assumption
     ·cases k2
    ·split at k3
     ·assumption
     ·cases k3
    ·split at k4
     ·assumption
     ·cases k4
   ·cases h2
  ·cases h2
theorem GN:TermTy Tryz.prog 25 27:=mD (by kernel_rfl)
def GO:List TypeId:=[2,3,4,5,9,25,27,39,49,43,45,22,24,197,145]
theorem closed:Gp Tryz.prog GO=true:=by kernel_rfl
end Go.Proofs.YtgedfopkiebjkaaGreatDoor
namespace Go.Proofs.YtgedfopkiebjkaaGreatDoor
open Go.Am Go.ChangeShapes Go.WideShapes Go.ChangeAt Go.RowKit
theorem mE(H:Type):BulkLaws2 (H:=H) Rows.uptoBulk Rows.uptoBulkAll:=
 ⟨mB H,fun d=>by
  cases d with
  |lit l=>cases l <;> simp[Rows.uptoBulk]
  |_=>simp[Rows.uptoBulk]⟩
set_option maxRecDepth 100000 in
theorem GP{H:Type}{enc:TypeId × Value->H}{W:World}{base:Nat}{v:Value}{d:DataW H}{ps:List MemPlace}{t:TypeId}(ht:t∈GO)(hok:okT Tryz.prog t=true)(h:DataW.Trod enc Tryz.prog W 0 (fun _=>true) true t v d ps)(hv:Value.okWide Tryz.prog W .any base t v):
  ∃n p,AR W (noX (P:=Tryz.prog)) noμ [] (.pv (shOf Tryz.prog t) p) v/\wt Tryz.prog n t p/\p.sz<=Rows.uptoBulk d:=by
 obtain⟨fuel,h0⟩:=h;obtain⟨p,hp⟩:=M7 closed fuel _ _ _ _ ht h0;obtain⟨h1,h2⟩:=Gv (mE H) fuel _ _ _ hp;exact⟨fuel,p,Hk ⟨fuel,h0⟩ hok hp (Hl hv),h1,h2⟩
theorem mF{n:Nat}{t:TypeId}{p:PV}{k:IntKind}(hk:Tryz.prog.underlying t=some (.int k))(h:wt Tryz.prog n t p):∃x,p=.int k x/\(Lit.int k x).wf=true:=by
 cases n with
 |zero=>exact h.elim
 |succ n=>unfold wt at h;rw[hk] at h;exact h
end Go.Proofs.YtgedfopkiebjkaaGreatDoor
namespace Go.Proofs.YtgedfopkiebjkaaGreatDoor
open Go.Am Go.ChangeShapes Go.WideShapes Go.ChangeAt Go.RowKit
end Go.Proofs.YtgedfopkiebjkaaGreatDoor
namespace Go.Proofs.YtgedfopkiebjkaaGreatDoor
open Go.Am
noncomputable abbrev Z:=sem (find tab) prim
noncomputable abbrev S:=sem (find tab) prim .fn
noncomputable abbrev L:=sloop (find tab) prim

theorem mG:∀(t:Tm) (hp:Heap) (r1 r2:Nat) (l:Nat),t.size<1000000000->l<1000000000->hp[r1]? =some (.box none (P4 ((l+1:Nat):Int)))->hp[r2]? =some (.box none (.func (.func 106) [] [.ptr r1 0,.ptr r2 0]))->
  S 106 [t.av,.ptr r1 0,.ptr r2 0] hp=some (.ret (.tuple []),hp.set r1 (.box none (P4 ((l+1 - t.size:Nat):Int)))):=by
 intro t
 induction t using Tm.zAl with
 |h t ih=>
  intro hp r1 r2 l ht hl h1 h2;have hr1:=Yz h1;have hr2:=Yz h2;have hne:r1≠r2:=by
   grind
  have hts:=t.size_eq;have hlen:=Tm.zAk t.args;refine Yj rfl rfl rfl rfl ?_;have e1:∀y x,(hp.set r1 y++[x])[r1]? =some y:=fun y x=>by grind
  have e2:∀y x,(hp.set r1 y++[x])[r2]? =some (.box none (.func (.func 106) [] [.ptr r1 0,.ptr r2 0])):=fun y x=>by grind
  have e3:∀y x,(hp.set r1 y++[x])[hp.length]? =some x:=fun y x=>by simp
  have e4:∀y x z,(hp.set r1 y++[x]).set r1 z=hp.set r1 z++[x]:=fun y x z=>by simp_all
  have e5:(↑(l+1) - 1:Int)=((l+1 - (1+Tm.sizes (t.args.take 0)):Nat):Int):=by simp[Tm.sizes]
  have w1:IntKind.i64.wrap ((l+1:Nat) - 1:Int)=((l+1 - (1+Tm.sizes (t.args.take 0)):Nat):Int):=by grind [zO]
  simp -dsimp -implicitDefEqProofs only[go_sem,seval,Tm.av,y8 hr1,h1,M0,M3 hr1,w1];refine XL (fun n st=>∃i:Nat,n=t.args.length - i/\i<=t.args.length/\st=⟨[(1,.ptr r1 0),(2,.ptr r2 0),(3,.ptr hp.length 0),(4,P4 i)],hp.set r1 (.box none (P4 ((l+1 - (1+Tm.sizes (t.args.take i)):Nat):Int)))++[.box (some 4) (.pv (some 4) t.pv)]⟩) ⟨0,rfl,Za _,?_⟩ ?_
  ·simp -dsimp -implicitDefEqProofs only[go_sem,seval]
   try rfl
  ·rintro n st ⟨i,hn,hi,rfl⟩;by_cases h:i<t.args.length
   ·have hc:(i:Int)<(t.args.length:Int):=by omega
    obtain⟨u,hu⟩:∃u,t.args[i]? =some u:=⟨_,Zd h⟩;have hst:=Tm.zAr hu;have hum:=Zi hu;have husz:=Tm.zAq hum;by_cases h0:0<((l+1 - (1+Tm.sizes (t.args.take i)):Nat):Int)
    ·obtain⟨l',hl'⟩:∃l':Nat,l+1 - (1+Tm.sizes (t.args.take i))=l'+1:=⟨l+1 - (1+Tm.sizes (t.args.take i)) - 1,by omega⟩;have hcall:=ih u hum (hp.set r1 (.box none (P4 ((l'+1:Nat):Int)))++[.box (some 4) (.pv (some 4) t.pv)]) r1 r2 l' (by omega) (by omega) (e1 _ _) (e2 _ _);rw[e4] at hcall;have e6:l'+1 - u.size=l+1 - (1+Tm.sizes (t.args.take (i+1))):=by omega
     have w2:IntKind.i64.wrap ((i:Int)+1)=((i+1:Nat):Int):=by grind [zO]
     rw[hl'] at h0 ⊢;simp -dsimp -implicitDefEqProofs only[go_sem,seval,e1,e2,e3,e4,zN,Tm.pvs_len,hc,h0,zM (Tm.pvs_get hu),show AV.pv (some 4) u.pv=u.av from rfl,hcall,e6,w2];refine⟨t.args.length - (i+1),by omega,i+1,rfl,by omega,?_⟩
     grind [xJ]
    ·simp -dsimp -implicitDefEqProofs only[go_sem,seval,e1,e2,e3,e4,zN,Tm.pvs_len,hc,h0];rw[ZT (by simp)]
     grind [Tm.zAp]
   ·have hc:¬(i:Int)<(t.args.length:Int):=by omega
    obtain rfl:i=t.args.length:=by omega
    simp -dsimp -implicitDefEqProofs only[go_sem,seval,e1,e2,e3,e4,zN,Tm.pvs_len,hc]
    grind

theorem qN(t:Tm)(hp:Heap)(h:t.size<1000000000):S 73 [t.av] hp=some (.ret (P4 ((min t.size 2001:Nat):Int)),hp):=by
 refine zL rfl rfl rfl (zJ [(some 4,t.pv)]) rfl ?_;have hc:=mG t [.box (some 4) (.pv (some 4) t.pv),.box none (P4 2001),.box none (.func (.func 106) [] [.ptr 1 0,.ptr 2 0])] 1 2 2000 h (by omega) rfl rfl;have w1:IntKind.i64.wrap (2001 - ((2000+1 - t.size:Nat):Int))=((min t.size 2001:Nat):Int):=by grind [zO]
 simp only[Tm.av] at hc;simp -dsimp -implicitDefEqProofs only[go_sem,seval,Tm.av,Mp (Za _),hc,w1]

theorem mH(t:Tm)(Q:AExit->St->Prop)(h:∀r,Q .normal ⟨(1,.ptr 0 0)::(3,P5 t.node)::r,[.box (some 4) (.pv (some 4) t.pv)]⟩):
  W Z L 0 c74k15 ⟨[(1,.ptr 0 0),(3,P5 false),(6,P4 t.kind)],[.box (some 4) (.pv (some 4) t.pv)]⟩ Q:=by
 (repeat' (first|(simp -dsimp -implicitDefEqProofs only[c74k15,go_sem,seval,zQ,Yb,Ye,zN,Tm.pvs_len, *])|(refine YT (fun _=> ?_) (fun _=> ?_))))
 all_goals (simp -dsimp -implicitDefEqProofs only[Tm.node,go_sem,seval, *] at h;exact h _)

theorem mI:∀(t:Tm) (hp:Heap),t.size<1000000000->S 74 [t.av] hp=some (.ret (P5 t.fits),hp):=by
 intro t
 induction t using Tm.zAl with
 |h t ih=>
  intro hp ht;have hts:=t.size_eq;have hlen:=Tm.zAk t.args;refine zL rfl rfl rfl (zJ [(some 4,t.pv)]) rfl ?_;simp -dsimp -dsimp -implicitDefEqProofs only[go_sem,seval,zQ,Yb,Ye,zN,Tm.pvs_len];refine mH t _ (fun r=> ?_);simp -dsimp -dsimp -implicitDefEqProofs only[go_sem,seval,zQ,Yb,Ye,zN,Tm.pvs_len];refine XL (fun n st=>∃i:Nat,n=t.args.length - i/\i<=t.args.length/\st=⟨[(1,.ptr 0 0),(3,P5 (t.node && Tm.fitsAll (t.args.take i))),(4,P4 i)],[.box (some 4) (.pv (some 4) t.pv)]⟩) (n:=t.args.length) ⟨0,rfl,Za _,?_⟩ ?_
  ·simp -dsimp -implicitDefEqProofs only[go_sem,seval,Tm.fitsAll]
   try rfl
  ·rintro n st ⟨i,hn,hi,rfl⟩;by_cases h:i<t.args.length
   ·have hc:(i:Int)<(t.args.length:Int):=by omega
    obtain⟨u,hu⟩:∃u,t.args[i]? =some u:=⟨_,Zd h⟩;have hum:=Zi hu;have husz:=Tm.zAq hum;have hcall:=fun hp=>ih u hum hp (by omega);have e6:Tm.fitsAll (t.args.take (i+1))=(Tm.fitsAll (t.args.take i) && u.fits):=Tm.zAC hu;have w2:IntKind.i64.wrap ((i:Int)+1)=((i+1:Nat):Int):=by grind [zO]
    by_cases h0:(t.node && Tm.fitsAll (t.args.take i))=true
    ·simp -dsimp -dsimp -implicitDefEqProofs only[go_sem,seval,zN,Tm.pvs_len,hc,h0,zM (Tm.pvs_get hu),show AV.pv (some 4) u.pv=u.av from rfl,hcall,w2];refine⟨t.args.length - (i+1),by omega,i+1,rfl,by omega,?_⟩
     grind
    ·simp -dsimp -implicitDefEqProofs only[go_sem,seval,zN,Tm.pvs_len,hc,h0];rw[Tm.zAs];have hp:Tm.fitsAll t.args=(Tm.fitsAll (t.args.take i) && Tm.fitsAll (t.args.drop i)):=by rw[<-Tm.zAy,Z4]
     grind
   ·have hc:¬(i:Int)<(t.args.length:Int):=by omega
    obtain rfl:i=t.args.length:=by omega
    simp -dsimp -implicitDefEqProofs only[go_sem,seval,zN,Tm.pvs_len,hc];rw[Tm.zAs,ZJ]

theorem yu(t:Tm)(hp:Heap)(h:t.size<1000000000):S 36 [t.av] hp=some (.ret (P5 t.valid),hp):=by
 refine zL rfl rfl rfl (zJ [(some 4,t.pv)]) rfl ?_;have h1:=fun hp=>qN t hp h;have h2:=fun hp=>mI t hp h;unfold Tm.valid;simp only[Tm.av] at h1 h2;by_cases hs:t.size<=2000
 ·have hc:((min t.size 2001:Nat):Int)<=2000:=by omega
  (repeat' (first|(simp -dsimp -implicitDefEqProofs only[go_sem,seval,Tm.av, *])|(refine YT (fun _=> ?_) (fun _=> ?_))))
 ·have hc:¬((min t.size 2001:Nat):Int)<=2000:=by omega
  (repeat' (first|(simp -dsimp -implicitDefEqProofs only[go_sem,seval,Tm.av, *])|(refine YT (fun _=> ?_) (fun _=> ?_))))

theorem mJ:∀(t:Tm) (hp:Heap) (m:Nat),t.size<1000000000->m<1000000000->S 69 [t.av,P4 ((m+1:Nat):Int)] hp=some (.ret (P4 ((min t.size (m+1):Nat):Int)),hp):=by
 intro t
 induction t using Tm.zAl with
 |h t ih=>
  intro hp m ht hm;have hts:=t.size_eq;have hlen:=Tm.zAk t.args;refine zL rfl rfl rfl (zJ [(some 4,t.pv),(none,.int .i64 ((m+1:Nat):Int))]) rfl ?_;simp -dsimp -implicitDefEqProofs only[go_sem,seval,zN,Tm.pvs_len];refine XL (fun n st=>∃i:Nat,n=t.args.length - i/\i<=t.args.length/\st=⟨[(1,P4 ((m+1:Nat):Int)),(2,.ptr 0 0),(5,P4 ((min (1+Tm.sizes (t.args.take i)) (m+1):Nat):Int)),(6,P4 i)],[.box (some 4) (.pv (some 4) t.pv)]⟩) (n:=t.args.length) ⟨0,rfl,Za _,?_⟩ ?_
  ·simp -dsimp -implicitDefEqProofs only[go_sem,seval]
   grind [Tm.sizes]
  ·rintro n st ⟨i,hn,hi,rfl⟩;by_cases h:i<t.args.length
   ·have hc:(i:Int)<(t.args.length:Int):=by omega
    obtain⟨u,hu⟩:∃u,t.args[i]? =some u:=⟨_,Zd h⟩;have hst:=Tm.zAr hu;have hum:=Zi hu;have husz:=Tm.zAq hum;have w2:IntKind.i64.wrap ((i:Int)+1)=((i+1:Nat):Int):=by grind [zO]
    by_cases h0:((min (1+Tm.sizes (t.args.take i)) (m+1):Nat):Int)<((m+1:Nat):Int)
    ·obtain⟨m',hm'⟩:∃m':Nat,m+1 - min (1+Tm.sizes (t.args.take i)) (m+1)=m'+1:=⟨m - min (1+Tm.sizes (t.args.take i)) (m+1),by omega⟩;have w3:IntKind.i64.wrap (((m+1:Nat):Int) - ((min (1+Tm.sizes (t.args.take i)) (m+1):Nat):Int))=((m'+1:Nat):Int):=by grind [zO]
     have w4:IntKind.i64.wrap (((min (1+Tm.sizes (t.args.take i)) (m+1):Nat):Int)+((min u.size (m'+1):Nat):Int))=((min (1+Tm.sizes (t.args.take (i+1))) (m+1):Nat):Int):=by grind [zO]
     have hcall:=fun hp=>ih u hum hp m' (by omega) (by omega);simp -dsimp -implicitDefEqProofs only[go_sem,seval,zN,Tm.pvs_len,hc,h0,zM (Tm.pvs_get hu),show AV.pv (some 4) u.pv=u.av from rfl,hcall,w2,w3,w4]
     grind
    ·simp -dsimp -implicitDefEqProofs only[go_sem,seval,zN,Tm.pvs_len,hc,h0]
     grind [Tm.zAp]
   ·have hc:¬(i:Int)<(t.args.length:Int):=by omega
    obtain rfl:i=t.args.length:=by omega
    simp -dsimp -implicitDefEqProofs only[go_sem,seval,zN,Tm.pvs_len,hc]
    grind

theorem kS(t:Tm)(hp:Heap)(h:t.size<1000000000):S 30 [t.av] hp=some (.ret (P4 ((min t.size 2001:Nat):Int)),hp):=by
 refine zL rfl rfl rfl (zJ [(some 4,t.pv)]) rfl ?_;have h1:=fun hp=>mJ t hp 2000 h (by omega);simp only[Tm.av] at h1;have e:(((2000+1:Nat):Int))=2001:=rfl;rw[e] at h1
 (repeat' (first|(simp -dsimp -implicitDefEqProofs only[go_sem,seval, *])|(refine YT (fun _=> ?_) (fun _=> ?_))))

theorem mK(t:Tm)(hp:Heap):S 70 [t.av] hp=some (.ret (P5 t.node),hp):=by
 refine zL rfl rfl rfl (zJ [(some 4,t.pv)]) rfl ?_
 (repeat' (first|(simp -dsimp -implicitDefEqProofs only[go_sem,seval,zQ,Yb,Ye,zN,Tm.pvs_len, *])|(refine YT (fun _=> ?_) (fun _=> ?_))))
 all_goals (simp only[Tm.node,show(0<(t.args.length:Int))=(1<=(t.args.length:Int)) from propext (by omega), *,Int.reduceEq,if_true,if_false,decide_true,decide_false,Bool.true_and,Bool.false_and,Bool.and_true])

theorem mL:∀(t:Tm) (hp:Heap),t.size<1000000000->S 31 [t.av] hp=some (.ret (P5 t.fits),hp):=by
 intro t
 induction t using Tm.zAl with
 |h t ih=>
  intro hp ht;have hts:=t.size_eq;have hlen:=Tm.zAk t.args;refine zL rfl rfl rfl (zJ [(some 4,t.pv)]) rfl ?_;have hnode:=mK t;simp only[Tm.av] at hnode;by_cases hn:t.node=true
  ·rw[hn] at hnode;simp -dsimp -implicitDefEqProofs only[go_sem,seval,hnode,zN,Tm.pvs_len];refine XL (fun n st=>∃i:Nat,n=t.args.length - i/\i<=t.args.length/\Tm.fitsAll (t.args.take i)=true/\st=⟨[(1,.ptr 0 0),(3,P4 i)],[.box (some 4) (.pv (some 4) t.pv)]⟩) (n:=t.args.length) ⟨0,rfl,Za _,rfl,?_⟩ ?_
   ·simp -dsimp -implicitDefEqProofs only[go_sem,seval]
    try rfl
   ·rintro n st ⟨i,hn',hi,hf,rfl⟩;by_cases h:i<t.args.length
    ·have hc:(i:Int)<(t.args.length:Int):=by omega
     obtain⟨u,hu⟩:∃u,t.args[i]? =some u:=⟨_,Zd h⟩;have hum:=Zi hu;have husz:=Tm.zAq hum;have hcall:=fun hp=>ih u hum hp (by omega);have e6:Tm.fitsAll (t.args.take (i+1))=(Tm.fitsAll (t.args.take i) && u.fits):=Tm.zAC hu;have w2:IntKind.i64.wrap ((i:Int)+1)=((i+1:Nat):Int):=by grind [zO]
     by_cases h0:u.fits=true
     ·simp -dsimp -implicitDefEqProofs only[go_sem,seval,zN,Tm.pvs_len,hc,h0,zM (Tm.pvs_get hu),show AV.pv (some 4) u.pv=u.av from rfl,hcall,w2]
      grind
     ·rw[Bool.not_eq_true] at h0;simp -dsimp -implicitDefEqProofs only[go_sem,seval,zN,Tm.pvs_len,hc,h0,zM (Tm.pvs_get hu),show AV.pv (some 4) u.pv=u.av from rfl,hcall,w2]
      grind [Tm.zAo]
    ·have hc:¬(i:Int)<(t.args.length:Int):=by omega
     obtain rfl:i=t.args.length:=by omega
     rw[ZJ] at hf;simp -dsimp -implicitDefEqProofs only[go_sem,seval,zN,Tm.pvs_len,hc]
     grind [Tm.zAs]
  ·rw[Bool.not_eq_true] at hn;rw[hn] at hnode;simp -dsimp -implicitDefEqProofs only[go_sem,seval,hnode,zN,Tm.pvs_len]
   grind [Tm.zAs]

theorem xK(t:Tm)(hp:Heap)(h:t.size<1000000000):S 8 [t.av] hp=some (.ret (P5 t.valid),hp):=by
 refine zL rfl rfl rfl (zJ [(some 4,t.pv)]) rfl ?_;have h1:=fun hp=>kS t hp h;have h2:=fun hp=>mL t hp h;unfold Tm.valid;simp only[Tm.av] at h1 h2;by_cases hs:t.size<=2000
 ·have hc:((min t.size 2001:Nat):Int)<=2000:=by omega
  (repeat' (first|(simp -dsimp -implicitDefEqProofs only[go_sem,seval,Tm.av, *])|(refine YT (fun _=> ?_) (fun _=> ?_))))
 ·have hc:¬((min t.size 2001:Nat):Int)<=2000:=by omega
  (repeat' (first|(simp -dsimp -implicitDefEqProofs only[go_sem,seval,Tm.av, *])|(refine YT (fun _=> ?_) (fun _=> ?_))))
end Go.Proofs.YtgedfopkiebjkaaGreatDoor
namespace Go.Proofs.YtgedfopkiebjkaaGreatDoor
open Go.Am
theorem GQ:∀(a b:Tm) (hp:Heap),a.size<1000000000->S 64 [a.av,b.av] hp=some (.ret (P5 (decide (a.cmp b=0))),hp):=by
 intro a
 induction a using Tm.zAl with
 |h a ih=>
  intro b hp ha;have hts:=a.size_eq;have hlen:=Tm.zAk a.args;refine zL rfl rfl rfl (zJ [(some 4,a.pv),(some 4,b.pv)]) rfl ?_;by_cases hall:a.kind=b.kind/\a.n=b.n/\a.name=b.name/\a.args.length=b.args.length
  ·obtain⟨h1,h2,h3,h4⟩:=hall;have hz:a.cmp b=Tm.cmps a.args b.args:=by
    rw[Tm.zAO,h1,h2,h3,h4,QT,QT,QT,cb_zero.2 rfl];rfl
   rw[hz];simp -dsimp -implicitDefEqProofs only[c64b12,go_sem,seval,zQ,Yb,Ye,zN,Tm.pvs_len,h1,h2,h3,h4];refine XL (fun n st=>∃i:Nat,n=a.args.length - i/\i<=a.args.length/\Tm.cmps a.args b.args=Tm.cmps (a.args.drop i) (b.args.drop i)/\st=⟨[(2,.ptr 0 0),(3,.ptr 1 0),(5,P4 i)],[.box (some 4) (.pv (some 4) a.pv),.box (some 4) (.pv (some 4) b.pv)]⟩) (n:=a.args.length) ⟨0,rfl,Za _,rfl,?_⟩ ?_
   ·simp -dsimp -implicitDefEqProofs only[go_sem,seval]
    try rfl
   ·rintro n st ⟨i,hn,hi,he,rfl⟩;by_cases h:i<a.args.length
    ·have hc:(i:Int)<(a.args.length:Int):=by omega
     obtain⟨u,hu⟩:∃u,a.args[i]? =some u:=⟨_,Zd h⟩;obtain⟨w,hw⟩:∃w,b.args[i]? =some w:=⟨_,Zd (by omega)⟩;have hum:=Zi hu;have husz:=Tm.zAq hum;have hcall:=fun hp=>ih u hum w hp (by omega);simp only[Tm.av] at hcall;have w2:IntKind.i64.wrap ((i:Int)+1)=((i+1:Nat):Int):=by grind [zO]
     rw[Tm.zAI hu hw] at he;by_cases h0:u.cmp w=0
     ·rw[h0,Gj] at he;simp -dsimp -implicitDefEqProofs only[c64b12,go_sem,seval,zN,Tm.pvs_len,hc,zM (Tm.pvs_get hu),zM (Tm.pvs_get hw),hcall,w2,h0]
      grind
     ·rw[Gk h0] at he;simp -dsimp -implicitDefEqProofs only[c64b12,go_sem,seval,zN,Tm.pvs_len,hc,zM (Tm.pvs_get hu),zM (Tm.pvs_get hw),hcall,w2,h0,he]
    ·have hc:¬(i:Int)<(a.args.length:Int):=by omega
     obtain rfl:i=a.args.length:=by omega
     rw[List.drop_length,Tm.zAA] at he;simp -dsimp -implicitDefEqProofs only[c64b12,go_sem,seval,zN,Tm.pvs_len,hc,he]
  ·have hz:¬a.cmp b=0:=fun h=>hall (by grind [Tm.zAv])
   replace hall:=Kept.mk hall
   replace hts:=Kept.mk hts
   clear ih
   (repeat' (first|(simp -dsimp -implicitDefEqProofs only[go_sem,seval,zQ,Yb,Ye,zN,Tm.pvs_len, *])|(refine YT (fun _=> ?_) (fun _=> ?_))))
   exact absurd ⟨‹_›,‹_›,‹_›,by omega⟩ hall.out

def same(a b:Tm):Bool:=a.valid && (b.valid && decide (a.cmp b=0))
theorem qO(a b:Tm)(hp:Heap)(ha:a.size<1000000000)(hb:b.size<1000000000):S 44 [a.av,b.av] hp=some (.ret (P5 (same a b)),hp):=by
 refine zL rfl rfl rfl (zJ [(some 4,a.pv),(some 4,b.pv)]) rfl ?_;have h1:=fun hp=>xK a hp ha;have h2:=fun hp=>xK b hp hb;have h3:=fun hp=>GQ a b hp ha;simp only[Tm.av] at h1 h2 h3;unfold same;by_cases va:a.valid=true
 ·by_cases vb:b.valid=true
  ·(repeat' (first|(simp -dsimp -implicitDefEqProofs only[go_sem,seval, *])|(refine YT (fun _=> ?_) (fun _=> ?_))))
  ·(repeat' (first|(simp -dsimp -implicitDefEqProofs only[go_sem,seval, *])|(refine YT (fun _=> ?_) (fun _=> ?_))))
 ·(repeat' (first|(simp -dsimp -implicitDefEqProofs only[go_sem,seval, *])|(refine YT (fun _=> ?_) (fun _=> ?_))))

theorem mM:∀(a b:Tm) (hp:Heap),a.size<1000000000->S 75 [a.av,b.av] hp=some (.ret (P5 (decide (a.cmp b=0))),hp):=by
 intro a
 induction a using Tm.zAl with
 |h a ih=>
  intro b hp ha;have hts:=a.size_eq;have hlen:=Tm.zAk a.args;refine zL rfl rfl rfl (zJ [(some 4,a.pv),(some 4,b.pv)]) rfl ?_;by_cases hall:a.kind=b.kind/\a.n=b.n/\a.name=b.name/\a.args.length=b.args.length
  ·obtain⟨h1,h2,h3,h4⟩:=hall;have hz:a.cmp b=Tm.cmps a.args b.args:=by
    rw[Tm.zAO,h1,h2,h3,h4,QT,QT,QT,cb_zero.2 rfl];rfl
   rw[hz];simp -dsimp -implicitDefEqProofs only[c75b13,go_sem,seval,zQ,Yb,Ye,zN,Tm.pvs_len,h1,h2,h3,h4];have hbl:(b.args.length:Int)=(a.args.length:Int):=by rw[h4]
   refine Yf (α:=Unit) a.args.length (fun i _=>Tm.cmps a.args b.args=Tm.cmps (a.args.drop i) (b.args.drop i)) (fun i _=>⟨[(3,.ptr 1 0),(36,.pv none (.sl (some 4) (Tm.pvs a.args))),(37,P4 b.args.length),(38,P4 i)],[.box (some 4) (.pv (some 4) a.pv),.box (some 4) (.pv (some 4) b.pv)]⟩) () ⟨rfl,rfl⟩ ?_ ?_
   ·rintro i - h he;have hc:(i:Int)<(b.args.length:Int):=by omega
    obtain⟨u,hu⟩:∃u,a.args[i]? =some u:=⟨_,Zd h⟩;obtain⟨w,hw⟩:∃w,b.args[i]? =some w:=⟨_,Zd (by omega)⟩;have hum:=Zi hu;have husz:=Tm.zAq hum;have hcall:=fun hp=>ih u hum w hp (by omega);simp only[Tm.av] at hcall;have w2:IntKind.i64.wrap ((i:Int)+1)=((i+1:Nat):Int):=by grind [zO]
    rw[Tm.zAI hu hw] at he;by_cases h0:u.cmp w=0
    ·rw[h0,Gj] at he;simp -dsimp -implicitDefEqProofs only[c75b13,go_sem,seval,zN,Tm.pvs_len,hc,zM (Tm.pvs_get hu),zM (Tm.pvs_get hw),hcall,w2,h0];exact⟨(),he,rfl⟩
    ·rw[Gk h0] at he;simp -dsimp -implicitDefEqProofs only[c75b13,go_sem,seval,zN,Tm.pvs_len,hc,zM (Tm.pvs_get hu),zM (Tm.pvs_get hw),hcall,w2,h0,he]
   ·rintro - he;have hc:¬(a.args.length:Int)<(b.args.length:Int):=by omega
    rw[List.drop_length,Tm.zAA] at he;simp -dsimp -implicitDefEqProofs only[c75b13,go_sem,seval,zN,Tm.pvs_len,hc,he]
  ·have hz:¬a.cmp b=0:=fun h=>hall (by grind [Tm.zAv])
   replace hall:=Kept.mk hall
   replace hts:=Kept.mk hts
   clear ih
   (repeat' (first|(simp -dsimp -implicitDefEqProofs only[go_sem,seval,zQ,Yb,Ye,zN,Tm.pvs_len, *])|(refine YT (fun _=> ?_) (fun _=> ?_))))
   exact absurd ⟨‹_›,‹_›,‹_›,by omega⟩ hall.out
theorem QX(a b:Tm)(hp:Heap)(ha:a.size<1000000000)(hb:b.size<1000000000):S 37 [a.av,b.av] hp=some (.ret (P5 (same a b)),hp):=by
 refine zL rfl rfl rfl (zJ [(some 4,a.pv),(some 4,b.pv)]) rfl ?_;have h1:=fun hp=>yu a hp ha;have h2:=fun hp=>yu b hp hb;have h3:=fun hp=>mM a b hp ha;simp only[Tm.av] at h1 h2 h3;unfold same;by_cases va:a.valid=true
 ·by_cases vb:b.valid=true
  ·(repeat' (first|(simp -dsimp -implicitDefEqProofs only[go_sem,seval, *])|(refine YT (fun _=> ?_) (fun _=> ?_))))
  ·(repeat' (first|(simp -dsimp -implicitDefEqProofs only[go_sem,seval, *])|(refine YT (fun _=> ?_) (fun _=> ?_))))
 ·(repeat' (first|(simp -dsimp -implicitDefEqProofs only[go_sem,seval, *])|(refine YT (fun _=> ?_) (fun _=> ?_))))
end Go.Proofs.YtgedfopkiebjkaaGreatDoor
namespace Go.Proofs.YtgedfopkiebjkaaGreatDoor
open Go.Am
theorem YQ{α:Type}(l r:List α)(k:Nat):(l++r)[l.length+k]? =r[k]? :=by
 grind
theorem Qr{α:Type}(l r:List α):(l++r)[l.length]? =r[0]? :=YQ l r 0
theorem jh{α:Type}(l r:List α)(k:Nat)(x:α):(l++r).set (l.length+k) x=l++r.set k x:=by
 grind
theorem mN{α:Type}(l r:List α)(x:α):(l++r).set l.length x=l++r.set 0 x:=jh l r 0 x
theorem mO(t:Tm)(hp:Heap):S 85 [t.av] hp=some (.ret t.av,hp):=by
 refine zL rfl rfl rfl (zJ [(some 4,t.pv)]) rfl ?_
 (repeat' (first|(simp -dsimp -implicitDefEqProofs only[go_sem,seval,Tm.av, *])|(refine YT (fun _=> ?_) (fun _=> ?_))))

theorem zT(s s0:Sh)(r v o n:Nat)(l:List (Sh × AV))(hp:Heap):zU ((s,.sl s0 r v o n)::l) hp=Y3 (s,.sl s0 r v o n) (zU l hp):=rfl
theorem P0:∀l hp,AV.freeze (7+1) (.agg l) hp=match AV.freeze.go 7 l hp with|some (ps,hp')=>some (.agg ps,hp')|none=>none:=fun _ _=>rfl
theorem mP{hp:Heap}{r:Nat}(t:Tm)(h:hp[r]? =some (.arr (some 4) (Tm.pvs t.args) false)):Am.frozen t.av (.agg [(none,P4 t.kind),(none,P4 t.n),(none,P6 t.name),(none,.sl (some 4) r t.args.length 0 t.args.length)]) hp:=by
 refine⟨hp.set r (.arr (some 4) (Tm.pvs t.args) true),?_⟩;cases t with
 |mk k n s ts=>
  show(match AV.freeze (7+1) (.agg _) hp with|some (p,hp')=>some (AV.pv _ p,hp')|none=>none)=_;have e:=P0
  simp only[Tm.args] at h;simp[e,AV.freeze.go,AV.freeze,h,Tm.kind,Tm.n,Tm.name,Tm.args,Tm.pvs_len,Tm.av,Tm.pv];rfl

theorem xg{Γ:Oracle}{b:Nat}{vs:List AV}{hp:Heap}{K:AV->Heap->Prop}{Kp:PV->Heap->Prop}(sh:Sh)(n:Nat):opK (aOp Γ b (.bslicen sh n) vs hp) K Kp=YM (YN sh hp (vs.drop n)) (fun v hp'=>(vs.take n).all (Yv hp hp')=true/\K v hp'):=by
 grind [aOp,Q9,opK,YM]
def appH(n:Nat)(t:Tm)(i:Nat):Heap:=[.box (some 4) (.pv (some 4) t.pv),.box (some 4) (.agg [(none,P4 0),(none,P4 0),(none,P6 []),(none,.sl (some 4) (n+2) 0 0 0)]),.arr (some 4) [] false,.box (some 4) (.agg [(none,P4 t.kind),(none,P4 t.n),(none,P6 t.name),(none,.sl (some 4) (n+5) i 0 i)]),.arr (some 4) [] false,.arr (some 4) (Tm.pvs (t.args.take i)) false]
theorem qP{hp hp':Heap}{r o q i:Nat}{t:Tm}(h:hp[r]? =some (.box (some 4) (.agg [(none,P4 t.kind),(none,P4 t.n),(none,P6 t.name),(none,.sl (some 4) q i 0 i)])))(h':hp'[r]? =some (.box (some 4) (.agg [(none,P4 t.kind),(none,P4 t.n),(none,P6 t.name),(none,.sl (some 4) q i 0 i)]))):Yv hp hp' (.ptr r o)=true:=by
 simp_all[Yv,AObj.beq,AV.beq,AV.beqc,PV.beq]
attribute [go_sem] Zl YQ Qr jh mN Nat.add_assoc Z2
theorem mQ(cl:AV):∀(t:Tm) (hp:Heap),t.fits=true->t.size<1000000000->(cl=.pv none (.func (.func 85))\/(t.occ=[]/\cl.refsIn.all (fun q=>decide (q<hp.length))=true))->∃v e,S 76 [t.av,cl] hp=some (.ret v,hp++e)/\v.shp=some 4/\v.plain=true/\(∀H,v.own H=(v,H))/\(∃e2,AV.freeze deep v (hp++e)=some (t.pv,hp++e2))/\∀H:Heap,(∀j,hp.length<=j->H[j]? =(hp++e)[j]?)->∃H2,AV.freeze deep v H=some (t.pv,H2):=by
 intro t
 induction t using Tm.zAl with
 |h t ih=>
  intro hp hf ht hcl;have hts:=t.size_eq;have hlen:=Tm.zAk t.args;have h1:=fun hp=>mO t hp;simp only[Tm.av] at h1;by_cases hk:t.kind=0
  ·have hcl:cl=.pv none (.func (.func 85)):=by
    grind [Tm.zAm]
   subst hcl;refine⟨t.av,[],?_,rfl,rfl,fun _=>rfl,⟨[],rfl⟩,fun H _=>⟨H,rfl⟩⟩;rw[ZF];refine Yj rfl rfl rfl rfl ?_;have hk':=Zg hk;simp -dsimp -implicitDefEqProofs only[go_sem,seval,Tm.av,zQ,hk',h1]
   grind [AV.refsIn]
  ·refine⟨.agg [(none,P4 t.kind),(none,P4 t.n),(none,P6 t.name),(none,.sl (some 4) (hp.length+5) t.args.length 0 t.args.length)],
    [.box (some 4) (.pv (some 4) t.pv),.box (some 4) (.agg [(none,P4 t.kind),(none,P4 t.n),(none,P6 t.name),(none,.sl (some 4) (hp.length+5) t.args.length 0 t.args.length)]),.arr (some 4) [] false,.box (some 4) (.agg [(none,P4 t.kind),(none,P4 t.n),(none,P6 t.name),(none,.sl (some 4) (hp.length+5) t.args.length 0 t.args.length)]),.arr (some 4) [] false,.arr (some 4) (Tm.pvs t.args) false],?_,rfl,rfl,fun _=>rfl,?_,?_⟩
   ·refine Yj rfl rfl rfl rfl ?_;have hk':=Zj hk;have hb:zR A0 [0,1,2] [P4 t.kind,P4 t.n,P6 t.name]=some (.agg [(none,P4 t.kind),(none,P4 t.n),(none,P6 t.name),(none,.tsl (some 4) [])]):=rfl;simp -dsimp -implicitDefEqProofs only[go_sem,seval,Tm.av,zQ,Yb,Ye,zN,hk',Tm.pvs_len,hb,zH (Zf _ _)];refine Yf (α:=Unit) t.args.length (fun _ _=>True) (fun i _=>⟨[(1,cl),(4,.ptr (hp.length+1) 0),(5,.ptr (hp.length+3) 0),(22,.pv none (.sl (some 4) (Tm.pvs t.args))),(23,P4 t.args.length),(24,P4 i)],hp++appH hp.length t i⟩) () ⟨trivial,rfl⟩ ?_ ?_
    ·rintro i - h -;have hc:(i:Int)<(t.args.length:Int):=by omega
     obtain⟨u,hu⟩:∃u,t.args[i]? =some u:=⟨_,Zd h⟩;have hum:=Zi hu;have husz:=Tm.zAq hum;obtain⟨v,e,hcall,hvs,_,_,⟨e2,hfz⟩,_⟩:=ih u hum (hp++(appH hp.length t i++[.box (some 4) (.pv (some 4) u.pv),.arr (some 4) [] false])) (Tm.zAo hf hum) (by omega) (hcl.imp_right fun h=>⟨by
      have ho:=h.1;obtain⟨x,y,e⟩:=List.append_of_mem hum;rw[Tm.zAm,Zb hk,e,Tm.zAF] at ho;exact(List.append_eq_nil_iff.1 (List.append_eq_nil_iff.1 ho).2).1,Zp.2 fun q hq=>(by
      grind)⟩)
     have w2:IntKind.i64.wrap ((i:Int)+1)=((i+1:Nat):Int):=by grind [zO]
     have hl:(Tm.pvs (t.args.take i)).length=i:=by grind [Tm.pvs_len]
     have hlim:i+1<=lim:=by grind [lim]
     have hbs:YN (some 4) (hp++(appH hp.length t i++[.box (some 4) (.pv (some 4) u.pv),.arr (some 4) [] false])++e) [v]=some (.tsl (some 4) [u.pv],hp++(appH hp.length t i++[.box (some 4) (.pv (some 4) u.pv),.arr (some 4) [] false])++e2):=by
      simp_all[YN,zZ,YE]
     simp only[Tm.av] at hcall;have hs1:∀e e':Heap,Yv (hp++(appH hp.length t i++e)) (hp++(appH hp.length t i++e')) (.ptr (hp.length+3) 3)=true:=fun e e'=>qP (t:=t) (q:=hp.length+5) (i:=i) (by rw[YQ];rfl) (by rw[YQ];rfl);simp only[appH,Zl,Zs,Zv] at hcall hbs hs1;simp -dsimp -implicitDefEqProofs only[go_sem,seval,appH,hc,zM (Tm.pvs_get hu),xg,ZK,ZX,ZS,ZU,hcall,hbs,hs1,w2,hl,hlim,Tm.zAn hu,zH (Zf _ _),Y4 (Zf _ _)];have hcr:cl.refsIn.all (fun q=>decide (q<hp.length+6))=true:=by
      rcases hcl with h|h
      ·rw[h];rfl
      grind
     simp_all[yF,AObj.refs,AV.ofComps,pures,AV.refsIn,AV.refsIn.go]
    ·rintro - -;have hc:¬(t.args.length:Int)<(t.args.length:Int):=by omega
     simp -dsimp -implicitDefEqProofs only[go_sem,seval,appH,hc,ZJ,zT,zH (Zf _ _),Y4 (Zf _ _)]
     grind [AV.refsIn,AV.refsIn.go]
   ·have e:=P0
    cases t with
    |mk k n s ts=>
     refine⟨[.box (some 4) (.pv (some 4) (Tm.mk k n s ts).pv),.box (some 4) (.agg [(none,P4 k),(none,P4 n),(none,P6 s),(none,.sl (some 4) (hp.length+5) ts.length 0 ts.length)]),.arr (some 4) [] false,.box (some 4) (.agg [(none,P4 k),(none,P4 n),(none,P6 s),(none,.sl (some 4) (hp.length+5) ts.length 0 ts.length)]),.arr (some 4) [] false,.arr (some 4) (Tm.pvs ts) true],?_⟩;show AV.freeze (7+1) (.agg _) _=_;simp[e,AV.freeze.go,AV.freeze,YQ,Tm.kind,Tm.n,Tm.name,Tm.args,Tm.pvs_len,Tm.pv]
   ·intro H hH;have h5:=hH (hp.length+5) (by omega);rw[YQ] at h5;have e:=P0
    cases t with
    |mk k n s ts=>
     refine⟨H.set (hp.length+5) (.arr (some 4) (Tm.pvs ts) true),?_⟩;show AV.freeze (7+1) (.agg _) _=_;simp only[Tm.args,List.getElem?_cons_succ,List.getElem?_cons_zero] at h5;simp_all[AV.freeze.go,AV.freeze,Tm.kind,Tm.n,Tm.name,Tm.args,Tm.pvs_len,Tm.pv]
theorem Tm.valid_fits{t:Tm}(h:t.valid=true):t.fits=true:=by
 grind [Tm.valid]
theorem GR{t:Tm}{v:AV}{H H2:Heap}(h1:v.shp=some 4)(h2:v.plain=true)(h3:AV.freeze deep v H=some (t.pv,H2)):Am.frozen t.av v H:=by
 refine⟨H2,?_⟩;cases v <;> first|(cases h2;done)|(simp only[AV.freezeRes,h3,h1];rfl)
theorem Xu(t:Tm)(hp:Heap)(hv:t.valid=true)(ht:t.size<1000000000):S 41 [t.av] hp=some (.ret t.av,hp):=by
 refine zL rfl rfl rfl (zJ [(some 4,t.pv)]) rfl ?_;have h1:=fun hp=>yu t hp ht;obtain⟨v,e,h2,h3,h4,h5,_,h6⟩:=mQ _ t [.box (some 4) (.pv (some 4) t.pv),.box (some 4) (.agg [(none,P4 0),(none,P4 0),(none,P6 []),(none,.sl (some 4) 2 0 0 0)]),.arr (some 4) [] false] (Tm.valid_fits hv) ht (.inl rfl);have hst:zK (some 4) 0 ([.box (some 4) (.pv (some 4) t.pv),.box (some 4) (.agg [(none,P4 0),(none,P4 0),(none,P6 []),(none,.sl (some 4) 2 0 0 0)]),.arr (some 4) [] false]++e) [.ptr 1 0,v]=some (.undef,[.box (some 4) (.pv (some 4) t.pv),.box (some 4) v,.arr (some 4) [] false]++e):=by
  grind [zK,astore]
 have hfz:=fun(H:Heap) (hH:∀j,3<=j->H[j]? =_)=>(h6 H hH).elim fun H2 k=>GR h3 h4 k;have hfr:Am.frozen t.av v ([.box (some 4) (.pv (some 4) t.pv),.box (some 4) v,.arr (some 4) [] false]++e):=by
  grind
 rw[hv] at h1;simp only[Tm.av,Zs,Zv] at h1 h2 hst;simp -dsimp -implicitDefEqProofs only[go_sem,seval,Tm.av,h1,h2,hst,zH (Za _)];exact hfr
end Go.Proofs.YtgedfopkiebjkaaGreatDoor
