/- What is proved: what slices.Insert does at one type. -/
import Derived.Test.YtgedfopkiebjkaaGreatDoorProg
import Derived.Shelf.Spec.SlicesInsertGrow
import Derived.Test.YtgedfopkiebjkaaGreatDoorAm2
import Derived.Test.YtgedfopkiebjkaaGreatDoorRows
import Derived.Shelf.Lays
import Derived.Test.YtgedfopkiebjkaaGreatDoorFns
import Derived.Test.YtgedfopkiebjkaaGreatDoorAm4
import Derived.Test.YtgedfopkiebjkaaGreatDoorAm6
import Derived.Test.YtgedfopkiebjkaaGreatDoorAm5
set_option linter.unusedVariables false
set_option maxRecDepth 20000
set_option linter.unusedSimpArgs false
namespace Go.Proofs.YtgedfopkiebjkaaGreatDoor.InsA
open Go Go.Am Go.Proofs Go.Lib Go.RowKit
theorem t3:Tryz.prog.underlying 3=some (TypeDesc.int IntKind.i64):=by kernel_rfl
theorem a3:∀w,(isAgg 3).run Tryz.prog w=.ok false w:=fun w=>by kernel_rfl
theorem z3:∀w,(Go.sizeOf 3).run Tryz.prog w=.ok 1 w:=fun w=>by kernel_rfl
theorem v3:∀w,(zeroValue 3).run Tryz.prog w=.ok (Value.int IntKind.i64 0) w:=fun w=>by kernel_rfl
theorem t4:Tryz.prog.underlying 4=some TypeDesc.bool:=by kernel_rfl
theorem a4:∀w,(isAgg 4).run Tryz.prog w=.ok false w:=fun w=>by kernel_rfl
theorem z4:∀w,(Go.sizeOf 4).run Tryz.prog w=.ok 1 w:=fun w=>by kernel_rfl
theorem v4:∀w,(zeroValue 4).run Tryz.prog w=.ok (Value.bool false) w:=fun w=>by kernel_rfl
theorem tS:Tryz.prog.underlying 22=some (TypeDesc.slice 45):=by kernel_rfl
theorem aS:∀w,(isAgg 22).run Tryz.prog w=.ok false w:=fun w=>by kernel_rfl
theorem zS:∀w,(Go.sizeOf 22).run Tryz.prog w=.ok 1 w:=fun w=>by kernel_rfl
theorem vS:∀w,(zeroValue 22).run Tryz.prog w=.ok (Value.slice none 0 0) w:=fun w=>by kernel_rfl
theorem zE:∀w,(Go.sizeOf 45).run Tryz.prog w=.ok 4 w:=fun w=>by kernel_rfl
theorem iE:(Tryz.prog.info? 45).map (·.size)=some 4:=by kernel_rfl
theorem ins_list{α:Type}(C:List α)(p q:Nat)(hpq:p<=q)(hq:q<=C.length)(R:List α):(C.take q++R).take p=C.take p/\(C.take q++R).drop q=R:=by
 have hl:(C.take q).length=q:=by simp;omega
 refine⟨?_,?_⟩
 ·rw[List.take_append_of_le_length (by omega),Zt]
  congr 1
  omega
 ·exact List.drop_left' hl
set_option maxHeartbeats 4000000 in
set_option maxRecDepth 100000 in
theorem ins_shift(b n c i vb voff m vc:Nat)(cur:Array Value)(t:TypeId)(vs:List Value)(w:World)(hi:i<n)(hm:0<m)(hroom:n+m<=c)(hlim:n+m<=lim)(hvb:vb≠b)
  (hg:w.heap[b]? =some (.cells cur t (0,0)))(hcs:cur.size=c*4)(hvl:vs.length=m*4)(h1:∀v∈(cur.toList.drop (i*4)).take ((n - i)*4),v.oneCell'=true)
  (hvs:∀j v,vs[j]? =some v->w.cell? ⟨vb,voff+j,none⟩=some v)(h1v:∀v∈vs,v.oneCell'=true)
  (tA:TypeId)(kA:Nat)(hsa:w.shape? vb=some (tA,kA))(hkA:kA≠0):
  ∃cur2:Array Value,cur2.toList=cur.toList.take (i*4)++vs++(cur.toList.drop (i*4)).take ((n - i)*4)++cur.toList.drop ((n+m)*4)/\
  Calls Tryz.prog 133 #[.slice (some ⟨b,0,none⟩) n c,.int .i64 i,.slice (some ⟨vb,voff,none⟩) m vc] w fun e w'=>
   e=.returned (.slice (some ⟨b,0,none⟩) (n+m) c)/\∃cur1,w'=(w.drew.setRow b cur1).setRow b cur2:=by
 have t3:=t3;have a3:=a3;have z3:=z3;have v3:=v3;have t4:=t4;have a4:=a4;have z4:=z4;have v4:=v4;have tS:=tS;have aS:=aS;have zS:=zS;have vS:=vS;have zE:=zE;have u3:=run_underlying t3;have u4:=run_underlying t4;have uS:=run_underlying tS;have hlim':n+m<=1073741824:=hlim;have hov:∀lb cb x,(callFunc 149 #[.slice (some ⟨vb,voff,none⟩) m vc,.slice (some ⟨b,x,none⟩) lb cb]).run Tryz.prog w=.ok (.value (.bool false)) w:=fun lb cb x=>by
  have hfr:∀o,w.frozen? ⟨b,o,none⟩=false:=fun o=>by simp[World.frozen?,hg]
  rw[run_callFunc_extern Tryz.func149 (by kernel_rfl) (by kernel_rfl) (by kernel_rfl) (e:=Extern.SlicesOverlaps.overlaps #[22,22] #[4]) (by kernel_rfl),
   K6 w 22 4 45 tS 4 zE ⟨vb,voff,none⟩ ⟨b,x,none⟩ m vc lb cb hvb tA t kA cur.size hsa (by simp[World.shape?,hg]) hkA (by omega) hfr (hfr x)]
  rfl
 have hz1:¬((m:Int)=0):=by omega
 have hz2:¬((i:Int)=(n:Int)):=by omega
 have hw1:IntKind.i64.wrap ((i:Int)+(m:Int))=(i:Int)+(m:Int):=by rw[IntKind.wrap_i64];omega
 have hb1:(0:Int)<=(i:Int)+(m:Int):=by omega
 have hin:i<=n:=by omega
 have htn:((i:Int)+(m:Int)).toNat=i+m:=by omega
 have hb2:¬(c=i+m):=by omega
 have hb3:(i:Int)<=(n:Int)+(m:Int):=by omega
 have hb4:¬(c=i):=by omega
 have hcell:∀(W:World) (j:Nat),W.heap=w.heap->W.cell? ⟨b,j,none⟩=cur.toList[j]? :=fun W j h=>by
  simp[World.cell?,h,hg]
 have hcp1:∃cur1:Array Value,cur1.toList=cur.toList.take ((i+m)*4)++(cur.toList.drop (i*4)).take ((n - i)*4)++cur.toList.drop ((n+m)*4)/\∀ty dc sc,(Builtin.copy_ #[22,22] ty #[.slice (some ⟨b,(i+m)*4,none⟩) (n+m - (i+m)) dc,.slice (some ⟨b,i*4,none⟩) (n+m - i) sc]).run Tryz.prog w.drew=.ok (goInt ((n - i:Nat):Int)) (w.drew.setRow b cur1):=by
  obtain⟨cs1,hcs1⟩:∃cs1,cs1=(cur.toList.drop (i*4)).take ((n - i)*4):=⟨_,rfl⟩;have hl1:cs1.length=(n - i)*4:=by rw[hcs1];simp;omega
  have hmin:Nat.min (n+m - i) (n+m - (i+m))=n - i:=by simp only[ze];split <;> omega
  have h:=fun ty dc sc=>
   Xd w.drew 22 22 ty 45 b ((i+m)*4) (n+m - (i+m)) dc ⟨b,i*4,none⟩ (n+m - i) sc 4 cur t cs1 tS iE hg (by rw[hl1,hmin])
   (fun j v hj=>by
    have ha:(⟨b,i*4,none⟩:Addr).add j=⟨b,i*4+j,none⟩:=by unfold Addr.add;split <;> simp_all
    rw[ha,hcell w.drew _ rfl];rw[hcs1,ZT] at hj;split at hj
    ·rwa [ZQ] at hj
    ·cases hj)
   (by rw[hl1,hcs];omega) (fun v hv=>h1 v (by rw[hcs1] at hv;exact hv))
  refine⟨(cur.toList.take ((i+m)*4)++cs1++cur.toList.drop ((i+m)*4+cs1.length)).toArray,?_,fun ty dc sc=> ?_⟩
  ·rw[hl1,hcs1,show(i+m)*4+(n - i)*4=(n+m)*4 by omega]
  ·rw[h,hmin]
 obtain⟨cur1,hcur1,hcp1⟩:=hcp1;have hcur1l:cur1.size=cur.size:=by
  have:=congrArg List.length hcur1;simp at this;omega
 have hne:∀x,x≠b->(w.drew.setRow b cur1).heap[x]? =w.heap[x]? :=fun x hx=>by
  simp[World.setRow,zl,Ne.symm hx];rfl
 have hg1:(w.drew.setRow b cur1).heap[b]? =some (.cells cur1 t (0,0)):=setRow_heap w.drew b cur cur1 t _ hg;have hcp2:∃cur2:Array Value,cur2.toList=cur1.toList.take (i*4)++vs++cur1.toList.drop (i*4+m*4)/\∀ty dc,(Builtin.copy_ #[22,22] ty #[.slice (some ⟨b,i*4,none⟩) (n+m - i) dc,.slice (some ⟨vb,voff,none⟩) m vc]).run Tryz.prog (w.drew.setRow b cur1)=.ok (goInt m) ((w.drew.setRow b cur1).setRow b cur2):=by
  have hmin:Nat.min m (n+m - i)=m:=by simp only[ze];split <;> omega
  have h:=fun ty dc=>
   Xd (w.drew.setRow b cur1) 22 22 ty 45 b (i*4) (n+m - i) dc ⟨vb,voff,none⟩ m vc 4 cur1 t vs tS iE hg1 (by rw[hvl,hmin])
   (fun j v hj=>by
    have ha:(⟨vb,voff,none⟩:Addr).add j=⟨vb,voff+j,none⟩:=by unfold Addr.add;split <;> simp_all
    rw[ha];have:=hvs j v hj;unfold World.cell? at this ⊢;rw[hne vb hvb];exact this)
   (by rw[hvl,hcur1l,hcs];omega) h1v
  refine⟨(cur1.toList.take (i*4)++vs++cur1.toList.drop (i*4+vs.length)).toArray,?_,fun ty dc=> ?_⟩
  ·rw[hvl]
  ·rw[h,hmin]
 obtain⟨cur2,hcur2,hcp2⟩:=hcp2;have hfin:cur2.toList=cur.toList.take (i*4)++vs++(cur.toList.drop (i*4)).take ((n - i)*4)++cur.toList.drop ((n+m)*4):=by
  rw[hcur2,hcur1];simp only[Zo];obtain⟨e1,e2⟩:=ins_list cur.toList (i*4) ((i+m)*4) (by omega) (by simp;omega) ((cur.toList.drop (i*4)).take ((n - i)*4)++cur.toList.drop ((n+m)*4));rw[e1,show i*4+m*4=(i+m)*4 by omega,e2]
 refine⟨cur2,hfin,?_⟩;clear hcur1 hcur2 hfin;have mixed:Tryz.prog.follows .mixedOrders=true:=by kernel_rfl
 go_enter Tryz.func133,Tryz.f133
 go_wp2_with (simp only[hov])
 go_region_law_o (refine step_copy_runI rfl _ _ 22 22 rfl _ _ (by simp[Act.eval,Act.put]) (by simp[Act.eval,Act.put]) (hcp1 _ _ _) ?_)
 go_wp2_with (at_builtin;refine wpList_copy_runI _ rfl _ _ 22 22 rfl _ _ rfl rfl (hcp2 _ _) ?_)
 go_ret
 exact⟨rfl,cur1,rfl⟩
set_option maxHeartbeats 4000000 in
set_option maxRecDepth 100000 in
theorem ins_grow(b n c i vb voff m vc:Nat)(cur:Array Value)(t:TypeId)(vs:List Value)(w:World)(hi:i<n)(hm:0<m)(hnc:n<=c)(hroom:c<n+m)(hlim:n+m<=lim)(hvb:vb<w.heap.size)
  (hg:w.heap[b]? =some (.cells cur t (0,0)))(hcs:cur.size=c*4)(hvl:vs.length=m*4)(h1:∀v∈(cur.toList.drop (i*4)).take ((n - i)*4),v.oneCell'=true)
  (hvs:∀j v,vs[j]? =some v->w.cell? ⟨vb,voff+j,none⟩=some v)(h1v:∀v∈vs,v.oneCell'=true)
  (hok:okT Tryz.prog 45=true)(hz:Yt Tryz.prog 45=true)(hby:YN Tryz.prog 45=true)(hshE:(shOf Tryz.prog 45).size=4):
  ∃(row:Array Value) (G:Nat),n+m<=G/\row.size=G*4/\row.toList.take ((n+m)*4)=cur.toList.take (i*4)++vs++(cur.toList.drop (i*4)).take ((n - i)*4)/\
  Calls Tryz.prog 133 #[.slice (some ⟨b,0,none⟩) n c,.int .i64 i,.slice (some ⟨vb,voff,none⟩) m vc] w fun e w'=>
   e=.returned (.slice (some ⟨w.heap.size,0,none⟩) (n+m) G)/\w'.heap[w.heap.size]? =some (.cells row 45 (0,0))/\w'.heap.size=w.heap.size+1/\(∀x,x<w.heap.size->w'.heap[x]? =w.heap[x]?)/\w'.os=w.os/\w'.tape=w.tape/\w'.output=w.output:=by
 have t3:=t3;have a3:=a3;have z3:=z3;have v3:=v3;have t4:=t4;have a4:=a4;have z4:=z4;have v4:=v4;have tS:=tS;have aS:=aS;have zS:=zS;have vS:=vS;have zE:=zE;have u3:=run_underlying t3;have u4:=run_underlying t4;have uS:=run_underlying tS;obtain⟨i0,z0,hi0,hz0,hs0,hzc⟩:=okE w hok hz;rw[hshE] at hs0 hzc;have hb:i0.bytes<=1024:=by
  unfold YN at hby
  rw[hi0] at hby
  simpa using hby
 have hbb:(n+m)*i0.bytes<=140737488355328:=by
  have:(n+m)*i0.bytes<=lim*1024:=ZI hlim hb;unfold lim at this;omega
 have hlim':n+m<=1073741824:=hlim;have hbN:b<w.heap.size:=yt hg;have hz1:¬((m:Int)=0):=by omega
 have hz2:¬((i:Int)=(n:Int)):=by omega
 have hz3:(c:Int)<(n:Int)+(m:Int):=by omega
 have hkk:(n:Int)+(m:Int) - (i:Int)=((n+m - i:Nat):Int):=by omega
 have hik:i+(n+m - i)=n+m:=by omega
 have hold:(Builtin.firstCells i0.size i (.slice (some ⟨b,0,none⟩) i c)).run Tryz.prog w.drew=.ok (cur.toList.take (i*4)).toArray w.drew:=by
  rw[hs0];refine run_firstCells_some w.drew 4 i ⟨b,0,none⟩ i c (cur.toList.take (i*4)) (by simp;omega) fun j v hj=> ?_;have ha:(⟨b,0,none⟩:Addr).add j=⟨b,j,none⟩:=by unfold Addr.add;split <;> simp_all
  rw[ha];rw[ZT] at hj;split at hj
  ·have hg':w.drew.heap[b]? =some (.cells cur t (0,0)):=hg;simpa[World.cell?,hg'] using hj
  ·cases hj
 obtain⟨G,hG⟩:∃G,grownCap w (n+m) c 45=G:=⟨_,rfl⟩;obtain⟨ROW,hROW⟩:∃ROW:Array Value,(cur.toList.take (i*4)).toArray++Builtin.zeroCells z0.cells (n+m - i)++Builtin.zeroCells z0.cells (G - (n+m))=ROW:=⟨_,rfl⟩;have hGn:n+m<=G:=by rw[<-hG];exact grownCap_ge w _ _ _
 have hRl:ROW.size=G*4:=by
  rw[<-hROW];simp only[Array.size_append,List.size_toArray,size_zeroCells,hzc,Zx,Zm];omega
 have hRt:ROW.toList.take (i*4)=cur.toList.take (i*4):=by
  rw[<-hROW];simp only[Array.toList_append,Zo];exact ZF (by simp;omega)
 have hrz:∀ty,(Builtin.append_ #[22,3] ty #[.slice (some ⟨b,0,none⟩) i c,.int .i64 ((n:Int)+(m:Int) - (i:Int))]).run Tryz.prog w=
   .ok (.slice (some ⟨w.heap.size,0,none⟩) (n+m) G) (w.drew.alloc (.cells ROW 45)):=fun ty=>by
  have h:=Lib.run_append_grow_zeros w 22 3 ty 45 i0 z0 .i64 .i64 tS t3 hi0 hz0 (some ⟨b,0,none⟩) i c (cur.toList.take (i*4)) hold (n+m - i) (by omega) (by rw[hs0];omega) (by omega) (by omega)
   (by have:(n+m - i)*i0.bytes<=(n+m)*i0.bytes:=ZI (by omega) (Zc _);omega) (by rw[hik];exact growslice_fits hroom hbb)
  rw[hik,hG] at h;rw[hkk,<-hROW];exact h
 have hd1:ROW.toList.length=G*4:=by simpa using hRl
 have hGn':(n+m)*4<=G*4:=ZI hGn (Zc _);have hcpA:∃row1:Array Value,row1.toList=ROW.toList.take (i*4)++vs++ROW.toList.drop (i*4+m*4)/\∀W:World,W.heap[w.heap.size]? =some (.cells ROW 45 (0,0))->W.heap[vb]? =w.heap[vb]?->∀ty dc,(Builtin.copy_ #[22,22] ty #[.slice (some ⟨w.heap.size,i*4,none⟩) (n+m - i) dc,.slice (some ⟨vb,voff,none⟩) m vc]).run Tryz.prog W=.ok (goInt m) (W.setRow w.heap.size row1):=by
  have hmin:Nat.min m (n+m - i)=m:=by simp only[ze];split <;> omega
  refine⟨(ROW.toList.take (i*4)++vs++ROW.toList.drop (i*4+vs.length)).toArray,by rw[hvl],fun W hN hV ty dc=> ?_⟩;have h:=Xd W 22 22 ty 45 w.heap.size (i*4) (n+m - i) dc ⟨vb,voff,none⟩ m vc 4 ROW 45 vs tS iE hN (by rw[hvl,hmin])
   (fun j v hj=>by
    have ha:(⟨vb,voff,none⟩:Addr).add j=⟨vb,voff+j,none⟩:=by unfold Addr.add;split <;> simp_all
    rw[ha];have:=hvs j v hj;unfold World.cell? at this ⊢;rw[hV];exact this)
   (by rw[hvl,hRl];omega) h1v
  rw[h,hmin]
 obtain⟨row1,hrow1,hcpA⟩:=hcpA;have hr1l:row1.size=G*4:=by
  have:=congrArg List.length hrow1;simp at this;omega
 have hcpB:∃row2:Array Value,row2.toList=row1.toList.take ((i+m)*4)++(cur.toList.drop (i*4)).take ((n - i)*4)++row1.toList.drop ((n+m)*4)/\∀W:World,W.heap[w.heap.size]? =some (.cells row1 45 (0,0))->W.heap[b]? =some (.cells cur t (0,0))->∀ty dc sc,(Builtin.copy_ #[22,22] ty #[.slice (some ⟨w.heap.size,(i+m)*4,none⟩) (n+m - (i+m)) dc,.slice (some ⟨b,i*4,none⟩) (n - i) sc]).run Tryz.prog W=.ok (goInt ((n - i:Nat):Int)) (W.setRow w.heap.size row2):=by
  obtain⟨cs1,hcs1⟩:∃cs1,cs1=(cur.toList.drop (i*4)).take ((n - i)*4):=⟨_,rfl⟩;have hl1:cs1.length=(n - i)*4:=by rw[hcs1];simp;omega
  have hmin:Nat.min (n - i) (n+m - (i+m))=n - i:=by simp only[ze];split <;> omega
  refine⟨(row1.toList.take ((i+m)*4)++cs1++row1.toList.drop ((i+m)*4+cs1.length)).toArray,by rw[hl1,hcs1,show(i+m)*4+(n - i)*4=(n+m)*4 by omega],fun W hN hB ty dc sc=> ?_⟩;have h:=Xd W 22 22 ty 45 w.heap.size ((i+m)*4) (n+m - (i+m)) dc ⟨b,i*4,none⟩ (n - i) sc 4 row1 45 cs1 tS iE hN (by rw[hl1,hmin])
   (fun j v hj=>by
    have ha:(⟨b,i*4,none⟩:Addr).add j=⟨b,i*4+j,none⟩:=by unfold Addr.add;split <;> simp_all
    rw[ha];rw[hcs1,ZT] at hj;split at hj
    ·rw[ZQ] at hj;simpa[World.cell?,hB] using hj
    ·cases hj)
   (by rw[hl1,hr1l];omega) (fun v hv=>h1 v (by rw[hcs1] at hv;exact hv))
  rw[h,hmin]
 obtain⟨row2,hrow2,hcpB⟩:=hcpB;have hfin:row2.toList.take ((n+m)*4)=cur.toList.take (i*4)++vs++(cur.toList.drop (i*4)).take ((n - i)*4):=by
  have e0:row1.toList.take ((i+m)*4)=cur.toList.take (i*4)++vs:=by
   rw[hrow1,hRt];exact ZF (by simp[hvl];omega)
  rw[hrow2,e0];exact ZF (by simp[hvl];omega)
 have hr2l:row2.size=G*4:=by
  have:=congrArg List.length hrow2;simp at this;omega
 have hA1:(w.drew.alloc (.cells ROW 45)).heap[w.heap.size]? =some (.cells ROW 45 (0,0)):=YH w.drew _;have hA2:∀x,x<w.heap.size->(w.drew.alloc (.cells ROW 45)).heap[x]? =w.heap[x]? :=fun x hx=>YQ w.drew _ hx;have hA3:(w.drew.alloc (.cells ROW 45)).heap.size=w.heap.size+1:=by
  show(w.drew.heap.push _).size=_;rw[Array.size_push];rfl
 refine⟨row2,G,hGn,hr2l,hfin,?_⟩;have hG63:G<=9223372036854775807:=by
  have:=grownCap_le_maxLen w (n+m) c 45 (by unfold maxLen;omega);rw[hG] at this;unfold maxLen at this;omega
 have hGi:¬(G=i):=by omega
 have hGim:¬(G=i+m):=by omega
 have hci:¬(c=i):=by omega
 have hw1:IntKind.i64.wrap ((i:Int)+(m:Int))=(i:Int)+(m:Int):=by rw[IntKind.wrap_i64];omega
 have hw2:IntKind.i64.wrap ((n:Int)+(m:Int))=(n:Int)+(m:Int):=by rw[IntKind.wrap_i64];omega
 have hw3:IntKind.i64.wrap ((n:Int)+(m:Int) - (i:Int))=(n:Int)+(m:Int) - (i:Int):=by rw[IntKind.wrap_i64];omega
 have hb1:(0:Int)<=(i:Int)+(m:Int):=by omega
 have hin:i<=n:=by omega
 have htn:((i:Int)+(m:Int)).toNat=i+m:=by omega
 have hb3:(i:Int)<=(n:Int):=by omega
 clear hkk hik hold hrow1 hrow2 hfin hRt hd1 hROW hG;have mixed:Tryz.prog.follows .mixedOrders=true:=by kernel_rfl
 go_enter Tryz.func133,Tryz.f133
 go_wp2_with (at_builtin;refine Lib.wpList_append_run _ rfl _ _ _ _ rfl _ _ rfl rfl _ _ (hrz _) ?_)
 have hA1':((w.alloc (.cells ROW 45)).drew).heap[w.heap.size]? =some (.cells ROW 45 (0,0)):=hA1;have hA2':∀x,x<w.heap.size->((w.alloc (.cells ROW 45)).drew).heap[x]? =w.heap[x]? :=hA2;have hA3':((w.alloc (.cells ROW 45)).drew).heap.size=w.heap.size+1:=hA3;have hA4':((w.alloc (.cells ROW 45)).drew).os=w.os/\((w.alloc (.cells ROW 45)).drew).tape=w.tape/\((w.alloc (.cells ROW 45)).drew).output=w.output:=⟨rfl,rfl,rfl⟩;rw[hcpA _ hA1' (hA2' _ hvb)];generalize (w.alloc (.cells ROW 45)).drew=W0 at*;have hB1:(W0.setRow w.heap.size row1).heap[w.heap.size]? =some (.cells row1 45 (0,0)):=setRow_heap W0 w.heap.size ROW row1 45 _ hA1';have hB2:∀x,x<w.heap.size->(W0.setRow w.heap.size row1).heap[x]? =w.heap[x]? :=fun x hx=>by
  rw[<-hA2' x hx];have:w.heap.size≠x:=by omega
  simp[World.setRow,zl,this]
 have hB3:(W0.setRow w.heap.size row1).heap.size=w.heap.size+1:=by rw[<-hA3'];simp[World.setRow]
 have hB4:(W0.setRow w.heap.size row1).os=w.os/\(W0.setRow w.heap.size row1).tape=w.tape/\(W0.setRow w.heap.size row1).output=w.output:=hA4';generalize W0.setRow w.heap.size row1=W1 at*;clear hA1' hA2' hA3' hA4' hcpA hrz hA1 hA2 hA3
 go_wp2
 have hD1:W1.drew.heap[w.heap.size]? =some (.cells row1 45 (0,0)):=hB1;have hD2:W1.drew.heap[b]? =some (.cells cur t (0,0)):=by rw[<-hg];exact hB2 b hbN
 go_region_law_o (refine step_copy_runI rfl _ _ 22 22 rfl (.slice (some ⟨w.heap.size,(i+m)*4,none⟩) (n+m - (i+m)) (G - (i+m))) (.slice (some ⟨b,i*4,none⟩) (n - i) (c - i)) (by simp[Act.eval,Act.put]) (by simp[Act.eval,Act.put]) (hcpB W1.drew hD1 hD2 3 (G - (i+m)) (c - i)) ?_)
 have hE1:(W1.drew.setRow w.heap.size row2).heap[w.heap.size]? =some (.cells row2 45 (0,0)):=setRow_heap W1.drew w.heap.size row1 row2 45 _ hD1;have hE2:∀x,x<w.heap.size->(W1.drew.setRow w.heap.size row2).heap[x]? =w.heap[x]? :=fun x hx=>by
  rw[<-hB2 x hx];have:w.heap.size≠x:=by omega
  simp[World.setRow,zl,this];rfl
 have hE3:(W1.drew.setRow w.heap.size row2).heap.size=w.heap.size+1:=by
  rw[<-hB3];show(W1.heap.modify _ _).size=_;rw[Array.size_modify]
 have hE4:(W1.drew.setRow w.heap.size row2).os=w.os/\(W1.drew.setRow w.heap.size row2).tape=w.tape/\(W1.drew.setRow w.heap.size row2).output=w.output:=hB4;generalize W1.drew.setRow w.heap.size row2=W2 at*;clear hD1 hD2 hB1 hB2 hB3 hB4 hcpB
 go_wp2
 go_ret
 exact⟨rfl,hE1,hE3,hE2,hE4⟩
set_option maxHeartbeats 4000000 in
set_option maxRecDepth 100000 in
theorem ins_end(base:Option Addr)(n c vb voff m vc:Nat)(w w':World)(v':Value)(hm:0<m)(hnc:n<=c)(hlim:n<=lim)(hrun:(Builtin.append_ #[22,22] 22 #[.slice base n c,.slice (some ⟨vb,voff,none⟩) m vc]).run Tryz.prog w=.ok v' w'):
  Calls Tryz.prog 133 #[.slice base n c,.int .i64 n,.slice (some ⟨vb,voff,none⟩) m vc] w fun E W=>E=.returned v'/\W=w':=by
 have t3:=t3;have a3:=a3;have z3:=z3;have v3:=v3;have t4:=t4;have a4:=a4;have z4:=z4;have v4:=v4;have tS:=tS;have aS:=aS;have zS:=zS;have vS:=vS;have zE:=zE;have u3:=run_underlying t3;have u4:=run_underlying t4;have uS:=run_underlying tS;have hlim':n<=1073741824:=hlim;have hz1:¬((m:Int)=0):=by omega
 have mixed:Tryz.prog.follows .mixedOrders=true:=by kernel_rfl
 go_enter Tryz.func133,Tryz.f133
 cases base with
 |none=>
  go_wp2_with (at_builtin;refine Lib.wpList_append_run _ rfl _ _ _ _ rfl _ _ rfl rfl _ _ hrun ?_)
  all_goals (go_ret;exact⟨rfl,rfl⟩)
 |some a=>
  obtain⟨ab,ao,asp⟩:=a
  go_wp2_with (at_builtin;refine Lib.wpList_append_run _ rfl _ _ _ _ rfl _ _ rfl rfl _ _ hrun ?_)
  all_goals (go_ret;exact⟨rfl,rfl⟩)
end Go.Proofs.YtgedfopkiebjkaaGreatDoor.InsA
namespace Go.Proofs.YtgedfopkiebjkaaGreatDoor.InsB
open Go Go.Am Go.Proofs Go.Lib Go.RowKit
theorem t3:Tryz.prog.underlying 3=some (TypeDesc.int IntKind.i64):=by kernel_rfl
theorem a3:∀w,(isAgg 3).run Tryz.prog w=.ok false w:=fun w=>by kernel_rfl
theorem z3:∀w,(Go.sizeOf 3).run Tryz.prog w=.ok 1 w:=fun w=>by kernel_rfl
theorem v3:∀w,(zeroValue 3).run Tryz.prog w=.ok (Value.int IntKind.i64 0) w:=fun w=>by kernel_rfl
theorem t4:Tryz.prog.underlying 4=some TypeDesc.bool:=by kernel_rfl
theorem a4:∀w,(isAgg 4).run Tryz.prog w=.ok false w:=fun w=>by kernel_rfl
theorem z4:∀w,(Go.sizeOf 4).run Tryz.prog w=.ok 1 w:=fun w=>by kernel_rfl
theorem v4:∀w,(zeroValue 4).run Tryz.prog w=.ok (Value.bool false) w:=fun w=>by kernel_rfl
theorem tS:Tryz.prog.underlying 43=some (TypeDesc.slice 49):=by kernel_rfl
theorem aS:∀w,(isAgg 43).run Tryz.prog w=.ok false w:=fun w=>by kernel_rfl
theorem zS:∀w,(Go.sizeOf 43).run Tryz.prog w=.ok 1 w:=fun w=>by kernel_rfl
theorem vS:∀w,(zeroValue 43).run Tryz.prog w=.ok (Value.slice none 0 0) w:=fun w=>by kernel_rfl
theorem zE:∀w,(Go.sizeOf 49).run Tryz.prog w=.ok 9 w:=fun w=>by kernel_rfl
theorem iE:(Tryz.prog.info? 49).map (·.size)=some 9:=by kernel_rfl
theorem ins_list{α:Type}(C:List α)(p q:Nat)(hpq:p<=q)(hq:q<=C.length)(R:List α):(C.take q++R).take p=C.take p/\(C.take q++R).drop q=R:=by
 have hl:(C.take q).length=q:=by simp;omega
 refine⟨?_,?_⟩
 ·rw[List.take_append_of_le_length (by omega),Zt]
  congr 1
  omega
 ·exact List.drop_left' hl
set_option maxHeartbeats 4000000 in
set_option maxRecDepth 100000 in
theorem ins_shift(b n c i vb voff m vc:Nat)(cur:Array Value)(t:TypeId)(vs:List Value)(w:World)(hi:i<n)(hm:0<m)(hroom:n+m<=c)(hlim:n+m<=lim)(hvb:vb≠b)
  (hg:w.heap[b]? =some (.cells cur t (0,0)))(hcs:cur.size=c*9)(hvl:vs.length=m*9)(h1:∀v∈(cur.toList.drop (i*9)).take ((n - i)*9),v.oneCell'=true)
  (hvs:∀j v,vs[j]? =some v->w.cell? ⟨vb,voff+j,none⟩=some v)(h1v:∀v∈vs,v.oneCell'=true)
  (tA:TypeId)(kA:Nat)(hsa:w.shape? vb=some (tA,kA))(hkA:kA≠0):
  ∃cur2:Array Value,cur2.toList=cur.toList.take (i*9)++vs++(cur.toList.drop (i*9)).take ((n - i)*9)++cur.toList.drop ((n+m)*9)/\
  Calls Tryz.prog 134 #[.slice (some ⟨b,0,none⟩) n c,.int .i64 i,.slice (some ⟨vb,voff,none⟩) m vc] w fun e w'=>
   e=.returned (.slice (some ⟨b,0,none⟩) (n+m) c)/\∃cur1,w'=(w.drew.setRow b cur1).setRow b cur2:=by
 have t3:=t3;have a3:=a3;have z3:=z3;have v3:=v3;have t4:=t4;have a4:=a4;have z4:=z4;have v4:=v4;have tS:=tS;have aS:=aS;have zS:=zS;have vS:=vS;have zE:=zE;have u3:=run_underlying t3;have u4:=run_underlying t4;have uS:=run_underlying tS;have hlim':n+m<=1073741824:=hlim;have hov:∀lb cb x,(callFunc 151 #[.slice (some ⟨vb,voff,none⟩) m vc,.slice (some ⟨b,x,none⟩) lb cb]).run Tryz.prog w=.ok (.value (.bool false)) w:=fun lb cb x=>by
  have hfr:∀o,w.frozen? ⟨b,o,none⟩=false:=fun o=>by simp[World.frozen?,hg]
  rw[run_callFunc_extern Tryz.func151 (by kernel_rfl) (by kernel_rfl) (by kernel_rfl) (e:=Extern.SlicesOverlaps.overlaps #[43,43] #[4]) (by kernel_rfl),
   K6 w 43 4 49 tS 9 zE ⟨vb,voff,none⟩ ⟨b,x,none⟩ m vc lb cb hvb tA t kA cur.size hsa (by simp[World.shape?,hg]) hkA (by omega) hfr (hfr x)]
  rfl
 have hz1:¬((m:Int)=0):=by omega
 have hz2:¬((i:Int)=(n:Int)):=by omega
 have hw1:IntKind.i64.wrap ((i:Int)+(m:Int))=(i:Int)+(m:Int):=by rw[IntKind.wrap_i64];omega
 have hb1:(0:Int)<=(i:Int)+(m:Int):=by omega
 have hin:i<=n:=by omega
 have htn:((i:Int)+(m:Int)).toNat=i+m:=by omega
 have hb2:¬(c=i+m):=by omega
 have hb3:(i:Int)<=(n:Int)+(m:Int):=by omega
 have hb4:¬(c=i):=by omega
 have hcell:∀(W:World) (j:Nat),W.heap=w.heap->W.cell? ⟨b,j,none⟩=cur.toList[j]? :=fun W j h=>by
  simp[World.cell?,h,hg]
 have hcp1:∃cur1:Array Value,cur1.toList=cur.toList.take ((i+m)*9)++(cur.toList.drop (i*9)).take ((n - i)*9)++cur.toList.drop ((n+m)*9)/\∀ty dc sc,(Builtin.copy_ #[43,43] ty #[.slice (some ⟨b,(i+m)*9,none⟩) (n+m - (i+m)) dc,.slice (some ⟨b,i*9,none⟩) (n+m - i) sc]).run Tryz.prog w.drew=.ok (goInt ((n - i:Nat):Int)) (w.drew.setRow b cur1):=by
  obtain⟨cs1,hcs1⟩:∃cs1,cs1=(cur.toList.drop (i*9)).take ((n - i)*9):=⟨_,rfl⟩;have hl1:cs1.length=(n - i)*9:=by rw[hcs1];simp;omega
  have hmin:Nat.min (n+m - i) (n+m - (i+m))=n - i:=by simp only[ze];split <;> omega
  have h:=fun ty dc sc=>
   Xd w.drew 43 43 ty 49 b ((i+m)*9) (n+m - (i+m)) dc ⟨b,i*9,none⟩ (n+m - i) sc 9 cur t cs1 tS iE hg (by rw[hl1,hmin])
   (fun j v hj=>by
    have ha:(⟨b,i*9,none⟩:Addr).add j=⟨b,i*9+j,none⟩:=by unfold Addr.add;split <;> simp_all
    rw[ha,hcell w.drew _ rfl];rw[hcs1,ZT] at hj;split at hj
    ·rwa [ZQ] at hj
    ·cases hj)
   (by rw[hl1,hcs];omega) (fun v hv=>h1 v (by rw[hcs1] at hv;exact hv))
  refine⟨(cur.toList.take ((i+m)*9)++cs1++cur.toList.drop ((i+m)*9+cs1.length)).toArray,?_,fun ty dc sc=> ?_⟩
  ·rw[hl1,hcs1,show(i+m)*9+(n - i)*9=(n+m)*9 by omega]
  ·rw[h,hmin]
 obtain⟨cur1,hcur1,hcp1⟩:=hcp1;have hcur1l:cur1.size=cur.size:=by
  have:=congrArg List.length hcur1;simp at this;omega
 have hne:∀x,x≠b->(w.drew.setRow b cur1).heap[x]? =w.heap[x]? :=fun x hx=>by
  simp[World.setRow,zl,Ne.symm hx];rfl
 have hg1:(w.drew.setRow b cur1).heap[b]? =some (.cells cur1 t (0,0)):=setRow_heap w.drew b cur cur1 t _ hg;have hcp2:∃cur2:Array Value,cur2.toList=cur1.toList.take (i*9)++vs++cur1.toList.drop (i*9+m*9)/\∀ty dc,(Builtin.copy_ #[43,43] ty #[.slice (some ⟨b,i*9,none⟩) (n+m - i) dc,.slice (some ⟨vb,voff,none⟩) m vc]).run Tryz.prog (w.drew.setRow b cur1)=.ok (goInt m) ((w.drew.setRow b cur1).setRow b cur2):=by
  have hmin:Nat.min m (n+m - i)=m:=by simp only[ze];split <;> omega
  have h:=fun ty dc=>
   Xd (w.drew.setRow b cur1) 43 43 ty 49 b (i*9) (n+m - i) dc ⟨vb,voff,none⟩ m vc 9 cur1 t vs tS iE hg1 (by rw[hvl,hmin])
   (fun j v hj=>by
    have ha:(⟨vb,voff,none⟩:Addr).add j=⟨vb,voff+j,none⟩:=by unfold Addr.add;split <;> simp_all
    rw[ha];have:=hvs j v hj;unfold World.cell? at this ⊢;rw[hne vb hvb];exact this)
   (by rw[hvl,hcur1l,hcs];omega) h1v
  refine⟨(cur1.toList.take (i*9)++vs++cur1.toList.drop (i*9+vs.length)).toArray,?_,fun ty dc=> ?_⟩
  ·rw[hvl]
  ·rw[h,hmin]
 obtain⟨cur2,hcur2,hcp2⟩:=hcp2;have hfin:cur2.toList=cur.toList.take (i*9)++vs++(cur.toList.drop (i*9)).take ((n - i)*9)++cur.toList.drop ((n+m)*9):=by
  rw[hcur2,hcur1];simp only[Zo];obtain⟨e1,e2⟩:=ins_list cur.toList (i*9) ((i+m)*9) (by omega) (by simp;omega) ((cur.toList.drop (i*9)).take ((n - i)*9)++cur.toList.drop ((n+m)*9));rw[e1,show i*9+m*9=(i+m)*9 by omega,e2]
 refine⟨cur2,hfin,?_⟩;clear hcur1 hcur2 hfin;have mixed:Tryz.prog.follows .mixedOrders=true:=by kernel_rfl
 go_enter Tryz.func134,Tryz.f134
 go_wp2_with (simp only[hov])
 go_region_law_o (refine step_copy_runI rfl _ _ 43 43 rfl _ _ (by simp[Act.eval,Act.put]) (by simp[Act.eval,Act.put]) (hcp1 _ _ _) ?_)
 go_wp2_with (at_builtin;refine wpList_copy_runI _ rfl _ _ 43 43 rfl _ _ rfl rfl (hcp2 _ _) ?_)
 go_ret
 exact⟨rfl,cur1,rfl⟩
set_option maxHeartbeats 4000000 in
set_option maxRecDepth 100000 in
theorem ins_grow(b n c i vb voff m vc:Nat)(cur:Array Value)(t:TypeId)(vs:List Value)(w:World)(hi:i<n)(hm:0<m)(hnc:n<=c)(hroom:c<n+m)(hlim:n+m<=lim)(hvb:vb<w.heap.size)
  (hg:w.heap[b]? =some (.cells cur t (0,0)))(hcs:cur.size=c*9)(hvl:vs.length=m*9)(h1:∀v∈(cur.toList.drop (i*9)).take ((n - i)*9),v.oneCell'=true)
  (hvs:∀j v,vs[j]? =some v->w.cell? ⟨vb,voff+j,none⟩=some v)(h1v:∀v∈vs,v.oneCell'=true)
  (hok:okT Tryz.prog 49=true)(hz:Yt Tryz.prog 49=true)(hby:YN Tryz.prog 49=true)(hshE:(shOf Tryz.prog 49).size=9):
  ∃(row:Array Value) (G:Nat),n+m<=G/\row.size=G*9/\row.toList.take ((n+m)*9)=cur.toList.take (i*9)++vs++(cur.toList.drop (i*9)).take ((n - i)*9)/\
  Calls Tryz.prog 134 #[.slice (some ⟨b,0,none⟩) n c,.int .i64 i,.slice (some ⟨vb,voff,none⟩) m vc] w fun e w'=>
   e=.returned (.slice (some ⟨w.heap.size,0,none⟩) (n+m) G)/\w'.heap[w.heap.size]? =some (.cells row 49 (0,0))/\w'.heap.size=w.heap.size+1/\(∀x,x<w.heap.size->w'.heap[x]? =w.heap[x]?)/\w'.os=w.os/\w'.tape=w.tape/\w'.output=w.output:=by
 have t3:=t3;have a3:=a3;have z3:=z3;have v3:=v3;have t4:=t4;have a4:=a4;have z4:=z4;have v4:=v4;have tS:=tS;have aS:=aS;have zS:=zS;have vS:=vS;have zE:=zE;have u3:=run_underlying t3;have u4:=run_underlying t4;have uS:=run_underlying tS;obtain⟨i0,z0,hi0,hz0,hs0,hzc⟩:=okE w hok hz;rw[hshE] at hs0 hzc;have hb:i0.bytes<=1024:=by
  unfold YN at hby
  rw[hi0] at hby
  simpa using hby
 have hbb:(n+m)*i0.bytes<=140737488355328:=by
  have:(n+m)*i0.bytes<=lim*1024:=ZI hlim hb;unfold lim at this;omega
 have hlim':n+m<=1073741824:=hlim;have hbN:b<w.heap.size:=yt hg;have hz1:¬((m:Int)=0):=by omega
 have hz2:¬((i:Int)=(n:Int)):=by omega
 have hz3:(c:Int)<(n:Int)+(m:Int):=by omega
 have hkk:(n:Int)+(m:Int) - (i:Int)=((n+m - i:Nat):Int):=by omega
 have hik:i+(n+m - i)=n+m:=by omega
 have hold:(Builtin.firstCells i0.size i (.slice (some ⟨b,0,none⟩) i c)).run Tryz.prog w.drew=.ok (cur.toList.take (i*9)).toArray w.drew:=by
  rw[hs0];refine run_firstCells_some w.drew 9 i ⟨b,0,none⟩ i c (cur.toList.take (i*9)) (by simp;omega) fun j v hj=> ?_;have ha:(⟨b,0,none⟩:Addr).add j=⟨b,j,none⟩:=by unfold Addr.add;split <;> simp_all
  rw[ha];rw[ZT] at hj;split at hj
  ·have hg':w.drew.heap[b]? =some (.cells cur t (0,0)):=hg;simpa[World.cell?,hg'] using hj
  ·cases hj
 obtain⟨G,hG⟩:∃G,grownCap w (n+m) c 49=G:=⟨_,rfl⟩;obtain⟨ROW,hROW⟩:∃ROW:Array Value,(cur.toList.take (i*9)).toArray++Builtin.zeroCells z0.cells (n+m - i)++Builtin.zeroCells z0.cells (G - (n+m))=ROW:=⟨_,rfl⟩;have hGn:n+m<=G:=by rw[<-hG];exact grownCap_ge w _ _ _
 have hRl:ROW.size=G*9:=by
  rw[<-hROW];simp only[Array.size_append,List.size_toArray,size_zeroCells,hzc,Zx,Zm];omega
 have hRt:ROW.toList.take (i*9)=cur.toList.take (i*9):=by
  rw[<-hROW];simp only[Array.toList_append,Zo];exact ZF (by simp;omega)
 have hrz:∀ty,(Builtin.append_ #[43,3] ty #[.slice (some ⟨b,0,none⟩) i c,.int .i64 ((n:Int)+(m:Int) - (i:Int))]).run Tryz.prog w=
   .ok (.slice (some ⟨w.heap.size,0,none⟩) (n+m) G) (w.drew.alloc (.cells ROW 49)):=fun ty=>by
  have h:=Lib.run_append_grow_zeros w 43 3 ty 49 i0 z0 .i64 .i64 tS t3 hi0 hz0 (some ⟨b,0,none⟩) i c (cur.toList.take (i*9)) hold (n+m - i) (by omega) (by rw[hs0];omega) (by omega) (by omega)
   (by have:(n+m - i)*i0.bytes<=(n+m)*i0.bytes:=ZI (by omega) (Zc _);omega) (by rw[hik];exact growslice_fits hroom hbb)
  rw[hik,hG] at h;rw[hkk,<-hROW];exact h
 have hd1:ROW.toList.length=G*9:=by simpa using hRl
 have hGn':(n+m)*9<=G*9:=ZI hGn (Zc _);have hcpA:∃row1:Array Value,row1.toList=ROW.toList.take (i*9)++vs++ROW.toList.drop (i*9+m*9)/\∀W:World,W.heap[w.heap.size]? =some (.cells ROW 49 (0,0))->W.heap[vb]? =w.heap[vb]?->∀ty dc,(Builtin.copy_ #[43,43] ty #[.slice (some ⟨w.heap.size,i*9,none⟩) (n+m - i) dc,.slice (some ⟨vb,voff,none⟩) m vc]).run Tryz.prog W=.ok (goInt m) (W.setRow w.heap.size row1):=by
  have hmin:Nat.min m (n+m - i)=m:=by simp only[ze];split <;> omega
  refine⟨(ROW.toList.take (i*9)++vs++ROW.toList.drop (i*9+vs.length)).toArray,by rw[hvl],fun W hN hV ty dc=> ?_⟩;have h:=Xd W 43 43 ty 49 w.heap.size (i*9) (n+m - i) dc ⟨vb,voff,none⟩ m vc 9 ROW 49 vs tS iE hN (by rw[hvl,hmin])
   (fun j v hj=>by
    have ha:(⟨vb,voff,none⟩:Addr).add j=⟨vb,voff+j,none⟩:=by unfold Addr.add;split <;> simp_all
    rw[ha];have:=hvs j v hj;unfold World.cell? at this ⊢;rw[hV];exact this)
   (by rw[hvl,hRl];omega) h1v
  rw[h,hmin]
 obtain⟨row1,hrow1,hcpA⟩:=hcpA;have hr1l:row1.size=G*9:=by
  have:=congrArg List.length hrow1;simp at this;omega
 have hcpB:∃row2:Array Value,row2.toList=row1.toList.take ((i+m)*9)++(cur.toList.drop (i*9)).take ((n - i)*9)++row1.toList.drop ((n+m)*9)/\∀W:World,W.heap[w.heap.size]? =some (.cells row1 49 (0,0))->W.heap[b]? =some (.cells cur t (0,0))->∀ty dc sc,(Builtin.copy_ #[43,43] ty #[.slice (some ⟨w.heap.size,(i+m)*9,none⟩) (n+m - (i+m)) dc,.slice (some ⟨b,i*9,none⟩) (n - i) sc]).run Tryz.prog W=.ok (goInt ((n - i:Nat):Int)) (W.setRow w.heap.size row2):=by
  obtain⟨cs1,hcs1⟩:∃cs1,cs1=(cur.toList.drop (i*9)).take ((n - i)*9):=⟨_,rfl⟩;have hl1:cs1.length=(n - i)*9:=by rw[hcs1];simp;omega
  have hmin:Nat.min (n - i) (n+m - (i+m))=n - i:=by simp only[ze];split <;> omega
  refine⟨(row1.toList.take ((i+m)*9)++cs1++row1.toList.drop ((i+m)*9+cs1.length)).toArray,by rw[hl1,hcs1,show(i+m)*9+(n - i)*9=(n+m)*9 by omega],fun W hN hB ty dc sc=> ?_⟩;have h:=Xd W 43 43 ty 49 w.heap.size ((i+m)*9) (n+m - (i+m)) dc ⟨b,i*9,none⟩ (n - i) sc 9 row1 49 cs1 tS iE hN (by rw[hl1,hmin])
   (fun j v hj=>by
    have ha:(⟨b,i*9,none⟩:Addr).add j=⟨b,i*9+j,none⟩:=by unfold Addr.add;split <;> simp_all
    rw[ha];rw[hcs1,ZT] at hj;split at hj
    ·rw[ZQ] at hj;simpa[World.cell?,hB] using hj
    ·cases hj)
   (by rw[hl1,hr1l];omega) (fun v hv=>h1 v (by rw[hcs1] at hv;exact hv))
  rw[h,hmin]
 obtain⟨row2,hrow2,hcpB⟩:=hcpB;have hfin:row2.toList.take ((n+m)*9)=cur.toList.take (i*9)++vs++(cur.toList.drop (i*9)).take ((n - i)*9):=by
  have e0:row1.toList.take ((i+m)*9)=cur.toList.take (i*9)++vs:=by
   rw[hrow1,hRt];exact ZF (by simp[hvl];omega)
  rw[hrow2,e0];exact ZF (by simp[hvl];omega)
 have hr2l:row2.size=G*9:=by
  have:=congrArg List.length hrow2;simp at this;omega
 have hA1:(w.drew.alloc (.cells ROW 49)).heap[w.heap.size]? =some (.cells ROW 49 (0,0)):=YH w.drew _;have hA2:∀x,x<w.heap.size->(w.drew.alloc (.cells ROW 49)).heap[x]? =w.heap[x]? :=fun x hx=>YQ w.drew _ hx;have hA3:(w.drew.alloc (.cells ROW 49)).heap.size=w.heap.size+1:=by
  show(w.drew.heap.push _).size=_;rw[Array.size_push];rfl
 refine⟨row2,G,hGn,hr2l,hfin,?_⟩;have hG63:G<=9223372036854775807:=by
  have:=grownCap_le_maxLen w (n+m) c 49 (by unfold maxLen;omega);rw[hG] at this;unfold maxLen at this;omega
 have hGi:¬(G=i):=by omega
 have hGim:¬(G=i+m):=by omega
 have hci:¬(c=i):=by omega
 have hw1:IntKind.i64.wrap ((i:Int)+(m:Int))=(i:Int)+(m:Int):=by rw[IntKind.wrap_i64];omega
 have hw2:IntKind.i64.wrap ((n:Int)+(m:Int))=(n:Int)+(m:Int):=by rw[IntKind.wrap_i64];omega
 have hw3:IntKind.i64.wrap ((n:Int)+(m:Int) - (i:Int))=(n:Int)+(m:Int) - (i:Int):=by rw[IntKind.wrap_i64];omega
 have hb1:(0:Int)<=(i:Int)+(m:Int):=by omega
 have hin:i<=n:=by omega
 have htn:((i:Int)+(m:Int)).toNat=i+m:=by omega
 have hb3:(i:Int)<=(n:Int):=by omega
 clear hkk hik hold hrow1 hrow2 hfin hRt hd1 hROW hG;have mixed:Tryz.prog.follows .mixedOrders=true:=by kernel_rfl
 go_enter Tryz.func134,Tryz.f134
 go_wp2_with (at_builtin;refine Lib.wpList_append_run _ rfl _ _ _ _ rfl _ _ rfl rfl _ _ (hrz _) ?_)
 have hA1':((w.alloc (.cells ROW 49)).drew).heap[w.heap.size]? =some (.cells ROW 49 (0,0)):=hA1;have hA2':∀x,x<w.heap.size->((w.alloc (.cells ROW 49)).drew).heap[x]? =w.heap[x]? :=hA2;have hA3':((w.alloc (.cells ROW 49)).drew).heap.size=w.heap.size+1:=hA3;have hA4':((w.alloc (.cells ROW 49)).drew).os=w.os/\((w.alloc (.cells ROW 49)).drew).tape=w.tape/\((w.alloc (.cells ROW 49)).drew).output=w.output:=⟨rfl,rfl,rfl⟩;rw[hcpA _ hA1' (hA2' _ hvb)];generalize (w.alloc (.cells ROW 49)).drew=W0 at*;have hB1:(W0.setRow w.heap.size row1).heap[w.heap.size]? =some (.cells row1 49 (0,0)):=setRow_heap W0 w.heap.size ROW row1 49 _ hA1';have hB2:∀x,x<w.heap.size->(W0.setRow w.heap.size row1).heap[x]? =w.heap[x]? :=fun x hx=>by
  rw[<-hA2' x hx];have:w.heap.size≠x:=by omega
  simp[World.setRow,zl,this]
 have hB3:(W0.setRow w.heap.size row1).heap.size=w.heap.size+1:=by rw[<-hA3'];simp[World.setRow]
 have hB4:(W0.setRow w.heap.size row1).os=w.os/\(W0.setRow w.heap.size row1).tape=w.tape/\(W0.setRow w.heap.size row1).output=w.output:=hA4';generalize W0.setRow w.heap.size row1=W1 at*;clear hA1' hA2' hA3' hA4' hcpA hrz hA1 hA2 hA3
 go_wp2
 have hD1:W1.drew.heap[w.heap.size]? =some (.cells row1 49 (0,0)):=hB1;have hD2:W1.drew.heap[b]? =some (.cells cur t (0,0)):=by rw[<-hg];exact hB2 b hbN
 go_region_law_o (refine step_copy_runI rfl _ _ 43 43 rfl (.slice (some ⟨w.heap.size,(i+m)*9,none⟩) (n+m - (i+m)) (G - (i+m))) (.slice (some ⟨b,i*9,none⟩) (n - i) (c - i)) (by simp[Act.eval,Act.put]) (by simp[Act.eval,Act.put]) (hcpB W1.drew hD1 hD2 3 (G - (i+m)) (c - i)) ?_)
 have hE1:(W1.drew.setRow w.heap.size row2).heap[w.heap.size]? =some (.cells row2 49 (0,0)):=setRow_heap W1.drew w.heap.size row1 row2 49 _ hD1;have hE2:∀x,x<w.heap.size->(W1.drew.setRow w.heap.size row2).heap[x]? =w.heap[x]? :=fun x hx=>by
  rw[<-hB2 x hx];have:w.heap.size≠x:=by omega
  simp[World.setRow,zl,this];rfl
 have hE3:(W1.drew.setRow w.heap.size row2).heap.size=w.heap.size+1:=by
  rw[<-hB3];show(W1.heap.modify _ _).size=_;rw[Array.size_modify]
 have hE4:(W1.drew.setRow w.heap.size row2).os=w.os/\(W1.drew.setRow w.heap.size row2).tape=w.tape/\(W1.drew.setRow w.heap.size row2).output=w.output:=hB4;generalize W1.drew.setRow w.heap.size row2=W2 at*;clear hD1 hD2 hB1 hB2 hB3 hB4 hcpB
 go_wp2
 go_ret
 exact⟨rfl,hE1,hE3,hE2,hE4⟩
set_option maxHeartbeats 4000000 in
set_option maxRecDepth 100000 in
theorem ins_end(base:Option Addr)(n c vb voff m vc:Nat)(w w':World)(v':Value)(hm:0<m)(hnc:n<=c)(hlim:n<=lim)(hrun:(Builtin.append_ #[43,43] 43 #[.slice base n c,.slice (some ⟨vb,voff,none⟩) m vc]).run Tryz.prog w=.ok v' w'):
  Calls Tryz.prog 134 #[.slice base n c,.int .i64 n,.slice (some ⟨vb,voff,none⟩) m vc] w fun E W=>E=.returned v'/\W=w':=by
 have t3:=t3;have a3:=a3;have z3:=z3;have v3:=v3;have t4:=t4;have a4:=a4;have z4:=z4;have v4:=v4;have tS:=tS;have aS:=aS;have zS:=zS;have vS:=vS;have zE:=zE;have u3:=run_underlying t3;have u4:=run_underlying t4;have uS:=run_underlying tS;have hlim':n<=1073741824:=hlim;have hz1:¬((m:Int)=0):=by omega
 have mixed:Tryz.prog.follows .mixedOrders=true:=by kernel_rfl
 go_enter Tryz.func134,Tryz.f134
 cases base with
 |none=>
  go_wp2_with (at_builtin;refine Lib.wpList_append_run _ rfl _ _ _ _ rfl _ _ rfl rfl _ _ hrun ?_)
  all_goals (go_ret;exact⟨rfl,rfl⟩)
 |some a=>
  obtain⟨ab,ao,asp⟩:=a
  go_wp2_with (at_builtin;refine Lib.wpList_append_run _ rfl _ _ _ _ rfl _ _ rfl rfl _ _ hrun ?_)
  all_goals (go_ret;exact⟨rfl,rfl⟩)
end Go.Proofs.YtgedfopkiebjkaaGreatDoor.InsB
namespace Go.Proofs.YtgedfopkiebjkaaGreatDoor.InsC
open Go Go.Am Go.Proofs Go.Lib Go.RowKit
theorem t3:Tryz.prog.underlying 3=some (TypeDesc.int IntKind.i64):=by kernel_rfl
theorem a3:∀w,(isAgg 3).run Tryz.prog w=.ok false w:=fun w=>by kernel_rfl
theorem z3:∀w,(Go.sizeOf 3).run Tryz.prog w=.ok 1 w:=fun w=>by kernel_rfl
theorem v3:∀w,(zeroValue 3).run Tryz.prog w=.ok (Value.int IntKind.i64 0) w:=fun w=>by kernel_rfl
theorem t4:Tryz.prog.underlying 4=some TypeDesc.bool:=by kernel_rfl
theorem a4:∀w,(isAgg 4).run Tryz.prog w=.ok false w:=fun w=>by kernel_rfl
theorem z4:∀w,(Go.sizeOf 4).run Tryz.prog w=.ok 1 w:=fun w=>by kernel_rfl
theorem v4:∀w,(zeroValue 4).run Tryz.prog w=.ok (Value.bool false) w:=fun w=>by kernel_rfl
theorem tS:Tryz.prog.underlying 145=some (TypeDesc.slice 197):=by kernel_rfl
theorem aS:∀w,(isAgg 145).run Tryz.prog w=.ok false w:=fun w=>by kernel_rfl
theorem zS:∀w,(Go.sizeOf 145).run Tryz.prog w=.ok 1 w:=fun w=>by kernel_rfl
theorem vS:∀w,(zeroValue 145).run Tryz.prog w=.ok (Value.slice none 0 0) w:=fun w=>by kernel_rfl
theorem zE:∀w,(Go.sizeOf 197).run Tryz.prog w=.ok 5 w:=fun w=>by kernel_rfl
theorem iE:(Tryz.prog.info? 197).map (·.size)=some 5:=by kernel_rfl
theorem ins_list{α:Type}(C:List α)(p q:Nat)(hpq:p<=q)(hq:q<=C.length)(R:List α):(C.take q++R).take p=C.take p/\(C.take q++R).drop q=R:=by
 have hl:(C.take q).length=q:=by simp;omega
 refine⟨?_,?_⟩
 ·rw[List.take_append_of_le_length (by omega),Zt]
  congr 1
  omega
 ·exact List.drop_left' hl
set_option maxHeartbeats 4000000 in
set_option maxRecDepth 100000 in
theorem ins_shift(b n c i vb voff m vc:Nat)(cur:Array Value)(t:TypeId)(vs:List Value)(w:World)(hi:i<n)(hm:0<m)(hroom:n+m<=c)(hlim:n+m<=lim)(hvb:vb≠b)
  (hg:w.heap[b]? =some (.cells cur t (0,0)))(hcs:cur.size=c*5)(hvl:vs.length=m*5)(h1:∀v∈(cur.toList.drop (i*5)).take ((n - i)*5),v.oneCell'=true)
  (hvs:∀j v,vs[j]? =some v->w.cell? ⟨vb,voff+j,none⟩=some v)(h1v:∀v∈vs,v.oneCell'=true)
  (tA:TypeId)(kA:Nat)(hsa:w.shape? vb=some (tA,kA))(hkA:kA≠0):
  ∃cur2:Array Value,cur2.toList=cur.toList.take (i*5)++vs++(cur.toList.drop (i*5)).take ((n - i)*5)++cur.toList.drop ((n+m)*5)/\
  Calls Tryz.prog 168 #[.slice (some ⟨b,0,none⟩) n c,.int .i64 i,.slice (some ⟨vb,voff,none⟩) m vc] w fun e w'=>
   e=.returned (.slice (some ⟨b,0,none⟩) (n+m) c)/\∃cur1,w'=(w.drew.setRow b cur1).setRow b cur2:=by
 have t3:=t3;have a3:=a3;have z3:=z3;have v3:=v3;have t4:=t4;have a4:=a4;have z4:=z4;have v4:=v4;have tS:=tS;have aS:=aS;have zS:=zS;have vS:=vS;have zE:=zE;have u3:=run_underlying t3;have u4:=run_underlying t4;have uS:=run_underlying tS;have hlim':n+m<=1073741824:=hlim;have hov:∀lb cb x,(callFunc 172 #[.slice (some ⟨vb,voff,none⟩) m vc,.slice (some ⟨b,x,none⟩) lb cb]).run Tryz.prog w=.ok (.value (.bool false)) w:=fun lb cb x=>by
  have hfr:∀o,w.frozen? ⟨b,o,none⟩=false:=fun o=>by simp[World.frozen?,hg]
  rw[run_callFunc_extern Tryz.func172 (by kernel_rfl) (by kernel_rfl) (by kernel_rfl) (e:=Extern.SlicesOverlaps.overlaps #[145,145] #[4]) (by kernel_rfl),
   K6 w 145 4 197 tS 5 zE ⟨vb,voff,none⟩ ⟨b,x,none⟩ m vc lb cb hvb tA t kA cur.size hsa (by simp[World.shape?,hg]) hkA (by omega) hfr (hfr x)]
  rfl
 have hz1:¬((m:Int)=0):=by omega
 have hz2:¬((i:Int)=(n:Int)):=by omega
 have hw1:IntKind.i64.wrap ((i:Int)+(m:Int))=(i:Int)+(m:Int):=by rw[IntKind.wrap_i64];omega
 have hb1:(0:Int)<=(i:Int)+(m:Int):=by omega
 have hin:i<=n:=by omega
 have htn:((i:Int)+(m:Int)).toNat=i+m:=by omega
 have hb2:¬(c=i+m):=by omega
 have hb3:(i:Int)<=(n:Int)+(m:Int):=by omega
 have hb4:¬(c=i):=by omega
 have hcell:∀(W:World) (j:Nat),W.heap=w.heap->W.cell? ⟨b,j,none⟩=cur.toList[j]? :=fun W j h=>by
  simp[World.cell?,h,hg]
 have hcp1:∃cur1:Array Value,cur1.toList=cur.toList.take ((i+m)*5)++(cur.toList.drop (i*5)).take ((n - i)*5)++cur.toList.drop ((n+m)*5)/\∀ty dc sc,(Builtin.copy_ #[145,145] ty #[.slice (some ⟨b,(i+m)*5,none⟩) (n+m - (i+m)) dc,.slice (some ⟨b,i*5,none⟩) (n+m - i) sc]).run Tryz.prog w.drew=.ok (goInt ((n - i:Nat):Int)) (w.drew.setRow b cur1):=by
  obtain⟨cs1,hcs1⟩:∃cs1,cs1=(cur.toList.drop (i*5)).take ((n - i)*5):=⟨_,rfl⟩;have hl1:cs1.length=(n - i)*5:=by rw[hcs1];simp;omega
  have hmin:Nat.min (n+m - i) (n+m - (i+m))=n - i:=by simp only[ze];split <;> omega
  have h:=fun ty dc sc=>
   Xd w.drew 145 145 ty 197 b ((i+m)*5) (n+m - (i+m)) dc ⟨b,i*5,none⟩ (n+m - i) sc 5 cur t cs1 tS iE hg (by rw[hl1,hmin])
   (fun j v hj=>by
    have ha:(⟨b,i*5,none⟩:Addr).add j=⟨b,i*5+j,none⟩:=by unfold Addr.add;split <;> simp_all
    rw[ha,hcell w.drew _ rfl];rw[hcs1,ZT] at hj;split at hj
    ·rwa [ZQ] at hj
    ·cases hj)
   (by rw[hl1,hcs];omega) (fun v hv=>h1 v (by rw[hcs1] at hv;exact hv))
  refine⟨(cur.toList.take ((i+m)*5)++cs1++cur.toList.drop ((i+m)*5+cs1.length)).toArray,?_,fun ty dc sc=> ?_⟩
  ·rw[hl1,hcs1,show(i+m)*5+(n - i)*5=(n+m)*5 by omega]
  ·rw[h,hmin]
 obtain⟨cur1,hcur1,hcp1⟩:=hcp1;have hcur1l:cur1.size=cur.size:=by
  have:=congrArg List.length hcur1;simp at this;omega
 have hne:∀x,x≠b->(w.drew.setRow b cur1).heap[x]? =w.heap[x]? :=fun x hx=>by
  simp[World.setRow,zl,Ne.symm hx];rfl
 have hg1:(w.drew.setRow b cur1).heap[b]? =some (.cells cur1 t (0,0)):=setRow_heap w.drew b cur cur1 t _ hg;have hcp2:∃cur2:Array Value,cur2.toList=cur1.toList.take (i*5)++vs++cur1.toList.drop (i*5+m*5)/\∀ty dc,(Builtin.copy_ #[145,145] ty #[.slice (some ⟨b,i*5,none⟩) (n+m - i) dc,.slice (some ⟨vb,voff,none⟩) m vc]).run Tryz.prog (w.drew.setRow b cur1)=.ok (goInt m) ((w.drew.setRow b cur1).setRow b cur2):=by
  have hmin:Nat.min m (n+m - i)=m:=by simp only[ze];split <;> omega
  have h:=fun ty dc=>
   Xd (w.drew.setRow b cur1) 145 145 ty 197 b (i*5) (n+m - i) dc ⟨vb,voff,none⟩ m vc 5 cur1 t vs tS iE hg1 (by rw[hvl,hmin])
   (fun j v hj=>by
    have ha:(⟨vb,voff,none⟩:Addr).add j=⟨vb,voff+j,none⟩:=by unfold Addr.add;split <;> simp_all
    rw[ha];have:=hvs j v hj;unfold World.cell? at this ⊢;rw[hne vb hvb];exact this)
   (by rw[hvl,hcur1l,hcs];omega) h1v
  refine⟨(cur1.toList.take (i*5)++vs++cur1.toList.drop (i*5+vs.length)).toArray,?_,fun ty dc=> ?_⟩
  ·rw[hvl]
  ·rw[h,hmin]
 obtain⟨cur2,hcur2,hcp2⟩:=hcp2;have hfin:cur2.toList=cur.toList.take (i*5)++vs++(cur.toList.drop (i*5)).take ((n - i)*5)++cur.toList.drop ((n+m)*5):=by
  rw[hcur2,hcur1];simp only[Zo];obtain⟨e1,e2⟩:=ins_list cur.toList (i*5) ((i+m)*5) (by omega) (by simp;omega) ((cur.toList.drop (i*5)).take ((n - i)*5)++cur.toList.drop ((n+m)*5));rw[e1,show i*5+m*5=(i+m)*5 by omega,e2]
 refine⟨cur2,hfin,?_⟩;clear hcur1 hcur2 hfin;have mixed:Tryz.prog.follows .mixedOrders=true:=by kernel_rfl
 go_enter Tryz.func168,Tryz.f168
 go_wp2_with (simp only[hov])
 go_region_law_o (refine step_copy_runI rfl _ _ 145 145 rfl _ _ (by simp[Act.eval,Act.put]) (by simp[Act.eval,Act.put]) (hcp1 _ _ _) ?_)
 go_wp2_with (at_builtin;refine wpList_copy_runI _ rfl _ _ 145 145 rfl _ _ rfl rfl (hcp2 _ _) ?_)
 go_ret
 exact⟨rfl,cur1,rfl⟩
set_option maxHeartbeats 4000000 in
set_option maxRecDepth 100000 in
theorem ins_grow(b n c i vb voff m vc:Nat)(cur:Array Value)(t:TypeId)(vs:List Value)(w:World)(hi:i<n)(hm:0<m)(hnc:n<=c)(hroom:c<n+m)(hlim:n+m<=lim)(hvb:vb<w.heap.size)
  (hg:w.heap[b]? =some (.cells cur t (0,0)))(hcs:cur.size=c*5)(hvl:vs.length=m*5)(h1:∀v∈(cur.toList.drop (i*5)).take ((n - i)*5),v.oneCell'=true)
  (hvs:∀j v,vs[j]? =some v->w.cell? ⟨vb,voff+j,none⟩=some v)(h1v:∀v∈vs,v.oneCell'=true)
  (hok:okT Tryz.prog 197=true)(hz:Yt Tryz.prog 197=true)(hby:YN Tryz.prog 197=true)(hshE:(shOf Tryz.prog 197).size=5):
  ∃(row:Array Value) (G:Nat),n+m<=G/\row.size=G*5/\row.toList.take ((n+m)*5)=cur.toList.take (i*5)++vs++(cur.toList.drop (i*5)).take ((n - i)*5)/\
  Calls Tryz.prog 168 #[.slice (some ⟨b,0,none⟩) n c,.int .i64 i,.slice (some ⟨vb,voff,none⟩) m vc] w fun e w'=>
   e=.returned (.slice (some ⟨w.heap.size,0,none⟩) (n+m) G)/\w'.heap[w.heap.size]? =some (.cells row 197 (0,0))/\w'.heap.size=w.heap.size+1/\(∀x,x<w.heap.size->w'.heap[x]? =w.heap[x]?)/\w'.os=w.os/\w'.tape=w.tape/\w'.output=w.output:=by
 have t3:=t3;have a3:=a3;have z3:=z3;have v3:=v3;have t4:=t4;have a4:=a4;have z4:=z4;have v4:=v4;have tS:=tS;have aS:=aS;have zS:=zS;have vS:=vS;have zE:=zE;have u3:=run_underlying t3;have u4:=run_underlying t4;have uS:=run_underlying tS;obtain⟨i0,z0,hi0,hz0,hs0,hzc⟩:=okE w hok hz;rw[hshE] at hs0 hzc;have hb:i0.bytes<=1024:=by
  unfold YN at hby
  rw[hi0] at hby
  simpa using hby
 have hbb:(n+m)*i0.bytes<=140737488355328:=by
  have:(n+m)*i0.bytes<=lim*1024:=ZI hlim hb;unfold lim at this;omega
 have hlim':n+m<=1073741824:=hlim;have hbN:b<w.heap.size:=yt hg;have hz1:¬((m:Int)=0):=by omega
 have hz2:¬((i:Int)=(n:Int)):=by omega
 have hz3:(c:Int)<(n:Int)+(m:Int):=by omega
 have hkk:(n:Int)+(m:Int) - (i:Int)=((n+m - i:Nat):Int):=by omega
 have hik:i+(n+m - i)=n+m:=by omega
 have hold:(Builtin.firstCells i0.size i (.slice (some ⟨b,0,none⟩) i c)).run Tryz.prog w.drew=.ok (cur.toList.take (i*5)).toArray w.drew:=by
  rw[hs0];refine run_firstCells_some w.drew 5 i ⟨b,0,none⟩ i c (cur.toList.take (i*5)) (by simp;omega) fun j v hj=> ?_;have ha:(⟨b,0,none⟩:Addr).add j=⟨b,j,none⟩:=by unfold Addr.add;split <;> simp_all
  rw[ha];rw[ZT] at hj;split at hj
  ·have hg':w.drew.heap[b]? =some (.cells cur t (0,0)):=hg;simpa[World.cell?,hg'] using hj
  ·cases hj
 obtain⟨G,hG⟩:∃G,grownCap w (n+m) c 197=G:=⟨_,rfl⟩;obtain⟨ROW,hROW⟩:∃ROW:Array Value,(cur.toList.take (i*5)).toArray++Builtin.zeroCells z0.cells (n+m - i)++Builtin.zeroCells z0.cells (G - (n+m))=ROW:=⟨_,rfl⟩;have hGn:n+m<=G:=by rw[<-hG];exact grownCap_ge w _ _ _
 have hRl:ROW.size=G*5:=by
  rw[<-hROW];simp only[Array.size_append,List.size_toArray,size_zeroCells,hzc,Zx,Zm];omega
 have hRt:ROW.toList.take (i*5)=cur.toList.take (i*5):=by
  rw[<-hROW];simp only[Array.toList_append,Zo];exact ZF (by simp;omega)
 have hrz:∀ty,(Builtin.append_ #[145,3] ty #[.slice (some ⟨b,0,none⟩) i c,.int .i64 ((n:Int)+(m:Int) - (i:Int))]).run Tryz.prog w=
   .ok (.slice (some ⟨w.heap.size,0,none⟩) (n+m) G) (w.drew.alloc (.cells ROW 197)):=fun ty=>by
  have h:=Lib.run_append_grow_zeros w 145 3 ty 197 i0 z0 .i64 .i64 tS t3 hi0 hz0 (some ⟨b,0,none⟩) i c (cur.toList.take (i*5)) hold (n+m - i) (by omega) (by rw[hs0];omega) (by omega) (by omega)
   (by have:(n+m - i)*i0.bytes<=(n+m)*i0.bytes:=ZI (by omega) (Zc _);omega) (by rw[hik];exact growslice_fits hroom hbb)
  rw[hik,hG] at h;rw[hkk,<-hROW];exact h
 have hd1:ROW.toList.length=G*5:=by simpa using hRl
 have hGn':(n+m)*5<=G*5:=ZI hGn (Zc _);have hcpA:∃row1:Array Value,row1.toList=ROW.toList.take (i*5)++vs++ROW.toList.drop (i*5+m*5)/\∀W:World,W.heap[w.heap.size]? =some (.cells ROW 197 (0,0))->W.heap[vb]? =w.heap[vb]?->∀ty dc,(Builtin.copy_ #[145,145] ty #[.slice (some ⟨w.heap.size,i*5,none⟩) (n+m - i) dc,.slice (some ⟨vb,voff,none⟩) m vc]).run Tryz.prog W=.ok (goInt m) (W.setRow w.heap.size row1):=by
  have hmin:Nat.min m (n+m - i)=m:=by simp only[ze];split <;> omega
  refine⟨(ROW.toList.take (i*5)++vs++ROW.toList.drop (i*5+vs.length)).toArray,by rw[hvl],fun W hN hV ty dc=> ?_⟩;have h:=Xd W 145 145 ty 197 w.heap.size (i*5) (n+m - i) dc ⟨vb,voff,none⟩ m vc 5 ROW 197 vs tS iE hN (by rw[hvl,hmin])
   (fun j v hj=>by
    have ha:(⟨vb,voff,none⟩:Addr).add j=⟨vb,voff+j,none⟩:=by unfold Addr.add;split <;> simp_all
    rw[ha];have:=hvs j v hj;unfold World.cell? at this ⊢;rw[hV];exact this)
   (by rw[hvl,hRl];omega) h1v
  rw[h,hmin]
 obtain⟨row1,hrow1,hcpA⟩:=hcpA;have hr1l:row1.size=G*5:=by
  have:=congrArg List.length hrow1;simp at this;omega
 have hcpB:∃row2:Array Value,row2.toList=row1.toList.take ((i+m)*5)++(cur.toList.drop (i*5)).take ((n - i)*5)++row1.toList.drop ((n+m)*5)/\∀W:World,W.heap[w.heap.size]? =some (.cells row1 197 (0,0))->W.heap[b]? =some (.cells cur t (0,0))->∀ty dc sc,(Builtin.copy_ #[145,145] ty #[.slice (some ⟨w.heap.size,(i+m)*5,none⟩) (n+m - (i+m)) dc,.slice (some ⟨b,i*5,none⟩) (n - i) sc]).run Tryz.prog W=.ok (goInt ((n - i:Nat):Int)) (W.setRow w.heap.size row2):=by
  obtain⟨cs1,hcs1⟩:∃cs1,cs1=(cur.toList.drop (i*5)).take ((n - i)*5):=⟨_,rfl⟩;have hl1:cs1.length=(n - i)*5:=by rw[hcs1];simp;omega
  have hmin:Nat.min (n - i) (n+m - (i+m))=n - i:=by simp only[ze];split <;> omega
  refine⟨(row1.toList.take ((i+m)*5)++cs1++row1.toList.drop ((i+m)*5+cs1.length)).toArray,by rw[hl1,hcs1,show(i+m)*5+(n - i)*5=(n+m)*5 by omega],fun W hN hB ty dc sc=> ?_⟩;have h:=Xd W 145 145 ty 197 w.heap.size ((i+m)*5) (n+m - (i+m)) dc ⟨b,i*5,none⟩ (n - i) sc 5 row1 197 cs1 tS iE hN (by rw[hl1,hmin])
   (fun j v hj=>by
    have ha:(⟨b,i*5,none⟩:Addr).add j=⟨b,i*5+j,none⟩:=by unfold Addr.add;split <;> simp_all
    rw[ha];rw[hcs1,ZT] at hj;split at hj
    ·rw[ZQ] at hj;simpa[World.cell?,hB] using hj
    ·cases hj)
   (by rw[hl1,hr1l];omega) (fun v hv=>h1 v (by rw[hcs1] at hv;exact hv))
  rw[h,hmin]
 obtain⟨row2,hrow2,hcpB⟩:=hcpB;have hfin:row2.toList.take ((n+m)*5)=cur.toList.take (i*5)++vs++(cur.toList.drop (i*5)).take ((n - i)*5):=by
  have e0:row1.toList.take ((i+m)*5)=cur.toList.take (i*5)++vs:=by
   rw[hrow1,hRt];exact ZF (by simp[hvl];omega)
  rw[hrow2,e0];exact ZF (by simp[hvl];omega)
 have hr2l:row2.size=G*5:=by
  have:=congrArg List.length hrow2;simp at this;omega
 have hA1:(w.drew.alloc (.cells ROW 197)).heap[w.heap.size]? =some (.cells ROW 197 (0,0)):=YH w.drew _;have hA2:∀x,x<w.heap.size->(w.drew.alloc (.cells ROW 197)).heap[x]? =w.heap[x]? :=fun x hx=>YQ w.drew _ hx;have hA3:(w.drew.alloc (.cells ROW 197)).heap.size=w.heap.size+1:=by
  show(w.drew.heap.push _).size=_;rw[Array.size_push];rfl
 refine⟨row2,G,hGn,hr2l,hfin,?_⟩;have hG63:G<=9223372036854775807:=by
  have:=grownCap_le_maxLen w (n+m) c 197 (by unfold maxLen;omega);rw[hG] at this;unfold maxLen at this;omega
 have hGi:¬(G=i):=by omega
 have hGim:¬(G=i+m):=by omega
 have hci:¬(c=i):=by omega
 have hw1:IntKind.i64.wrap ((i:Int)+(m:Int))=(i:Int)+(m:Int):=by rw[IntKind.wrap_i64];omega
 have hw2:IntKind.i64.wrap ((n:Int)+(m:Int))=(n:Int)+(m:Int):=by rw[IntKind.wrap_i64];omega
 have hw3:IntKind.i64.wrap ((n:Int)+(m:Int) - (i:Int))=(n:Int)+(m:Int) - (i:Int):=by rw[IntKind.wrap_i64];omega
 have hb1:(0:Int)<=(i:Int)+(m:Int):=by omega
 have hin:i<=n:=by omega
 have htn:((i:Int)+(m:Int)).toNat=i+m:=by omega
 have hb3:(i:Int)<=(n:Int):=by omega
 clear hkk hik hold hrow1 hrow2 hfin hRt hd1 hROW hG;have mixed:Tryz.prog.follows .mixedOrders=true:=by kernel_rfl
 go_enter Tryz.func168,Tryz.f168
 go_wp2_with (at_builtin;refine Lib.wpList_append_run _ rfl _ _ _ _ rfl _ _ rfl rfl _ _ (hrz _) ?_)
 have hA1':((w.alloc (.cells ROW 197)).drew).heap[w.heap.size]? =some (.cells ROW 197 (0,0)):=hA1;have hA2':∀x,x<w.heap.size->((w.alloc (.cells ROW 197)).drew).heap[x]? =w.heap[x]? :=hA2;have hA3':((w.alloc (.cells ROW 197)).drew).heap.size=w.heap.size+1:=hA3;have hA4':((w.alloc (.cells ROW 197)).drew).os=w.os/\((w.alloc (.cells ROW 197)).drew).tape=w.tape/\((w.alloc (.cells ROW 197)).drew).output=w.output:=⟨rfl,rfl,rfl⟩;rw[hcpA _ hA1' (hA2' _ hvb)];generalize (w.alloc (.cells ROW 197)).drew=W0 at*;have hB1:(W0.setRow w.heap.size row1).heap[w.heap.size]? =some (.cells row1 197 (0,0)):=setRow_heap W0 w.heap.size ROW row1 197 _ hA1';have hB2:∀x,x<w.heap.size->(W0.setRow w.heap.size row1).heap[x]? =w.heap[x]? :=fun x hx=>by
  rw[<-hA2' x hx];have:w.heap.size≠x:=by omega
  simp[World.setRow,zl,this]
 have hB3:(W0.setRow w.heap.size row1).heap.size=w.heap.size+1:=by rw[<-hA3'];simp[World.setRow]
 have hB4:(W0.setRow w.heap.size row1).os=w.os/\(W0.setRow w.heap.size row1).tape=w.tape/\(W0.setRow w.heap.size row1).output=w.output:=hA4';generalize W0.setRow w.heap.size row1=W1 at*;clear hA1' hA2' hA3' hA4' hcpA hrz hA1 hA2 hA3
 go_wp2
 have hD1:W1.drew.heap[w.heap.size]? =some (.cells row1 197 (0,0)):=hB1;have hD2:W1.drew.heap[b]? =some (.cells cur t (0,0)):=by rw[<-hg];exact hB2 b hbN
 go_region_law_o (refine step_copy_runI rfl _ _ 145 145 rfl (.slice (some ⟨w.heap.size,(i+m)*5,none⟩) (n+m - (i+m)) (G - (i+m))) (.slice (some ⟨b,i*5,none⟩) (n - i) (c - i)) (by simp[Act.eval,Act.put]) (by simp[Act.eval,Act.put]) (hcpB W1.drew hD1 hD2 3 (G - (i+m)) (c - i)) ?_)
 have hE1:(W1.drew.setRow w.heap.size row2).heap[w.heap.size]? =some (.cells row2 197 (0,0)):=setRow_heap W1.drew w.heap.size row1 row2 197 _ hD1;have hE2:∀x,x<w.heap.size->(W1.drew.setRow w.heap.size row2).heap[x]? =w.heap[x]? :=fun x hx=>by
  rw[<-hB2 x hx];have:w.heap.size≠x:=by omega
  simp[World.setRow,zl,this];rfl
 have hE3:(W1.drew.setRow w.heap.size row2).heap.size=w.heap.size+1:=by
  rw[<-hB3];show(W1.heap.modify _ _).size=_;rw[Array.size_modify]
 have hE4:(W1.drew.setRow w.heap.size row2).os=w.os/\(W1.drew.setRow w.heap.size row2).tape=w.tape/\(W1.drew.setRow w.heap.size row2).output=w.output:=hB4;generalize W1.drew.setRow w.heap.size row2=W2 at*;clear hD1 hD2 hB1 hB2 hB3 hB4 hcpB
 go_wp2
 go_ret
 exact⟨rfl,hE1,hE3,hE2,hE4⟩
set_option maxHeartbeats 4000000 in
set_option maxRecDepth 100000 in
theorem ins_end(base:Option Addr)(n c vb voff m vc:Nat)(w w':World)(v':Value)(hm:0<m)(hnc:n<=c)(hlim:n<=lim)(hrun:(Builtin.append_ #[145,145] 145 #[.slice base n c,.slice (some ⟨vb,voff,none⟩) m vc]).run Tryz.prog w=.ok v' w'):
  Calls Tryz.prog 168 #[.slice base n c,.int .i64 n,.slice (some ⟨vb,voff,none⟩) m vc] w fun E W=>E=.returned v'/\W=w':=by
 have t3:=t3;have a3:=a3;have z3:=z3;have v3:=v3;have t4:=t4;have a4:=a4;have z4:=z4;have v4:=v4;have tS:=tS;have aS:=aS;have zS:=zS;have vS:=vS;have zE:=zE;have u3:=run_underlying t3;have u4:=run_underlying t4;have uS:=run_underlying tS;have hlim':n<=1073741824:=hlim;have hz1:¬((m:Int)=0):=by omega
 have mixed:Tryz.prog.follows .mixedOrders=true:=by kernel_rfl
 go_enter Tryz.func168,Tryz.f168
 cases base with
 |none=>
  go_wp2_with (at_builtin;refine Lib.wpList_append_run _ rfl _ _ _ _ rfl _ _ rfl rfl _ _ hrun ?_)
  all_goals (go_ret;exact⟨rfl,rfl⟩)
 |some a=>
  obtain⟨ab,ao,asp⟩:=a
  go_wp2_with (at_builtin;refine Lib.wpList_append_run _ rfl _ _ _ _ rfl _ _ rfl rfl _ _ hrun ?_)
  all_goals (go_ret;exact⟨rfl,rfl⟩)
end Go.Proofs.YtgedfopkiebjkaaGreatDoor.InsC
namespace Go.Proofs.YtgedfopkiebjkaaGreatDoor
open Go.Shelf
def Tryz.laysFields_ren:Go.Shelf.Ren:=⟨fun|157=>59|229=>100|199=>101|261=>130|311=>147|312=>148|n=>n,fun|9=>9|31=>93|3=>3|5=>5|4=>4|119=>125|0=>0|40=>127|152=>154|21=>21|154=>156|51=>157|141=>159|196=>182|193=>179|198=>185|49=>183|194=>180|201=>188|226=>202|46=>153|227=>203|n=>n,fun|0=>0|6=>1|n=>n⟩
theorem Tryz.zBb:Go.Proofs.Lays.n157 Tryz.prog Tryz.laysFields_ren:=
 {
  mixed:=by kernel_rfl,
  f157:=Tryz.func59.trans (congrArg some (by kernel_rfl)),
  f199:=Tryz.func101.trans (congrArg some (by kernel_rfl)),
  f229:=Tryz.func100.trans (congrArg some (by kernel_rfl)),
  f261:=Tryz.func130.trans (congrArg some (by kernel_rfl)),
  f311:=Tryz.func147.trans (congrArg some (by kernel_rfl)),
  f312:=Tryz.func148.trans (congrArg some (by kernel_rfl)),
  t0:=Tryz.underlying0,
  a0:=Tryz.isAgg0,
  z0:=Tryz.sizeOf0,
  v0:=Tryz.zeroValue0,
  t3:=Tryz.underlying3,
  a3:=Tryz.isAgg3,
  z3:=Tryz.sizeOf3,
  v3:=Tryz.zeroValue3,
  t4:=Tryz.underlying4,
  a4:=Tryz.isAgg4,
  z4:=Tryz.sizeOf4,
  v4:=Tryz.zeroValue4,
  t5:=Tryz.underlying5,
  a5:=Tryz.isAgg5,
  z5:=Tryz.sizeOf5,
  v5:=Tryz.zeroValue5,
  t9:=Tryz.underlying9,
  a9:=Tryz.isAgg9,
  z9:=Tryz.sizeOf9,
  v9:=Tryz.zeroValue9,
  t21:=Tryz.underlying21,
  a21:=Tryz.isAgg21,
  z21:=Tryz.sizeOf21,
  v21:=Tryz.zeroValue21,
  t31:=Tryz.underlying93,
  a31:=Tryz.isAgg93,
  z31:=Tryz.sizeOf93,
  v31:=Tryz.zeroValue93,
  t40:=Tryz.underlying127,
  a40:=Tryz.isAgg127,
  z40:=Tryz.sizeOf127,
  v40:=Tryz.zeroValue127,
  t46:=Tryz.underlying153,
  a46:=Tryz.isAgg153,
  z46:=Tryz.sizeOf153,
  v46:=Tryz.zeroValue153,
  t49:=Tryz.underlying183,
  a49:=Tryz.isAgg183,
  z49:=Tryz.sizeOf183,
  v49:=Tryz.zeroValue183,
  t51:=Tryz.underlying157,
  a51:=Tryz.isAgg157,
  z51:=Tryz.sizeOf157,
  v51:=Tryz.zeroValue157,
  t119:=Tryz.underlying125,
  a119:=Tryz.isAgg125,
  z119:=Tryz.sizeOf125,
  t141:=Tryz.underlying159,
  a141:=Tryz.isAgg159,
  z141:=Tryz.sizeOf159,
  v141:=Tryz.zeroValue159,
  t152:=Tryz.underlying154,
  a152:=Tryz.isAgg154,
  z152:=Tryz.sizeOf154,
  v152:=Tryz.zeroValue154,
  t154:=Tryz.underlying156,
  a154:=Tryz.isAgg156,
  z154:=Tryz.sizeOf156,
  v154:=Tryz.zeroValue156,
  t193:=Tryz.underlying179,
  a193:=Tryz.isAgg179,
  z193:=Tryz.sizeOf179,
  v193:=Tryz.zeroValue179,
  t194:=Tryz.underlying180,
  a194:=Tryz.isAgg180,
  z194:=Tryz.sizeOf180,
  v194:=Tryz.zeroValue180,
  t196:=Tryz.underlying182,
  a196:=Tryz.isAgg182,
  z196:=Tryz.sizeOf182,
  v196:=Tryz.zeroValue182,
  t198:=Tryz.underlying185,
  a198:=Tryz.isAgg185,
  z198:=Tryz.sizeOf185,
  v198:=Tryz.zeroValue185,
  t201:=Tryz.underlying188,
  a201:=Tryz.isAgg188,
  z201:=Tryz.sizeOf188,
  v201:=Tryz.zeroValue188,
  t226:=Tryz.underlying202,
  a226:=Tryz.isAgg202,
  z226:=Tryz.sizeOf202,
  v226:=Tryz.zeroValue202,
  t227:=Tryz.underlying203,
  a227:=Tryz.isAgg203,
  z227:=Tryz.sizeOf203,
  v227:=Tryz.zeroValue203,
  g0:=by kernel_rfl,
  g6:=by kernel_rfl
 }
end Go.Proofs.YtgedfopkiebjkaaGreatDoor
namespace Go.Proofs.YtgedfopkiebjkaaGreatDoor
open Go.Am Go.ChangeShapes Go.WideShapes Go.ChangeAt Go.RowKit
theorem Tryz.own:ownKnob Tryz.prog.godebug=none:=by kernel_rfl
theorem Tryz.zBg:laidOutB Tryz.prog=true:=by kernel_rfl
theorem Tryz.mixed:Tryz.prog.follows .mixedOrders=true:=by kernel_rfl
def prS:Nat->List UInt8
 |0=>[97,115,115,101,114,116,97]
 |1=>[97,115,115,101,114,116,122]
 |2=>[97,98,111,108,105,115,104]
 |3=>[100,121,110,97,109,105,99]
 |4=>[99,117,114,114,101,110,116,95,112,114,101,100,105,99,97,116,101]
 |5=>[99,108,97,117,115,101]
 |6=>[36,99,108,97,117,115,101]
 |_=>[36,101,114,97,115,101]
def prN:Nat->Int
 |0=>1
 |1=>1
 |2=>1
 |3=>1
 |4=>1
 |5=>2
 |6=>3
 |_=>1
def prF:Nat->FuncId
 |0=>78
 |1=>78
 |2=>79
 |3=>80
 |4=>81
 |5=>82
 |6=>82
 |_=>83
def mD:Code->Array Oper
 | .seq _ (.seq (.region _ ops _) _)=>ops
 |_=> #[]
set_option maxRecDepth 100000 in
theorem mE:Am.Lit Tryz.prog (mD (Tryz.f39.body.get (by kernel_rfl))) 8 11 0 1 10 71 74 (fun e=>e+2) prS prN prF where
 sz:=by kernel_rfl
 o0:=⟨_,rfl,rfl,rfl,rfl⟩
 ob:=fun e he=>by
  match e,he with
  |0,_=>exact⟨_,rfl,rfl,rfl,rfl⟩
  |1,_=>exact⟨_,rfl,rfl,rfl,rfl⟩
  |2,_=>exact⟨_,rfl,rfl,rfl,rfl⟩
  |3,_=>exact⟨_,rfl,rfl,rfl,rfl⟩
  |4,_=>exact⟨_,rfl,rfl,rfl,rfl⟩
  |5,_=>exact⟨_,rfl,rfl,rfl,rfl⟩
  |6,_=>exact⟨_,rfl,rfl,rfl,rfl⟩
  |7,_=>exact⟨_,rfl,rfl,rfl,rfl⟩
 oi:=fun e he=>by
  match e,he with
  |0,_=>exact⟨_,rfl,rfl,rfl,rfl,⟨_,ZH (i:=0) rfl,rfl,rfl⟩,⟨_,ZH (i:=1) rfl,rfl,rfl⟩⟩
  |1,_=>exact⟨_,rfl,rfl,rfl,rfl,⟨_,ZH (i:=0) rfl,rfl,rfl⟩,⟨_,ZH (i:=1) rfl,rfl,rfl⟩⟩
  |2,_=>exact⟨_,rfl,rfl,rfl,rfl,⟨_,ZH (i:=0) rfl,rfl,rfl⟩,⟨_,ZH (i:=1) rfl,rfl,rfl⟩⟩
  |3,_=>exact⟨_,rfl,rfl,rfl,rfl,⟨_,ZH (i:=0) rfl,rfl,rfl⟩,⟨_,ZH (i:=1) rfl,rfl,rfl⟩⟩
  |4,_=>exact⟨_,rfl,rfl,rfl,rfl,⟨_,ZH (i:=0) rfl,rfl,rfl⟩,⟨_,ZH (i:=1) rfl,rfl,rfl⟩⟩
  |5,_=>exact⟨_,rfl,rfl,rfl,rfl,⟨_,ZH (i:=0) rfl,rfl,rfl⟩,⟨_,ZH (i:=1) rfl,rfl,rfl⟩⟩
  |6,_=>exact⟨_,rfl,rfl,rfl,rfl,⟨_,ZH (i:=0) rfl,rfl,rfl⟩,⟨_,ZH (i:=1) rfl,rfl,rfl⟩⟩
  |7,_=>exact⟨_,rfl,rfl,rfl,rfl,⟨_,ZH (i:=0) rfl,rfl,rfl⟩,⟨_,ZH (i:=1) rfl,rfl,rfl⟩⟩
 om:=⟨_,rfl,rfl,rfl,rfl,⟨_,ZH (i:=0) rfl,rfl,rfl⟩⟩
 oa:=⟨_,rfl,rfl,rfl,rfl,⟨_,ZH (i:=0) rfl,rfl,rfl⟩⟩
 lt:=⟨by decide,by decide,by decide,fun e he=>by omega⟩
 ne:=⟨by decide,by decide,by decide,fun e he=>⟨by omega,by omega,by omega,fun e' he' h=>by omega⟩⟩
theorem mF:yi Tryz.prog 74=some [1,0]:=by kernel_rfl
theorem kkOk:∀e,e<8->Yd [1,0] (kP prS prN e) (kP prS prN e)=some true:=by decide
theorem knOk:∀e e',e<8->e'<8->e≠e'->Yd [1,0] (kP prS prN e) (kP prS prN e')=some false:=by
 have h:∀e,e<8->∀e',e'<8->e≠e'->Yd [1,0] (kP prS prN e) (kP prS prN e')=some false:=by decide
 exact fun e e' h1 h2 h3=>h e h1 e' h2 h3
set_option maxRecDepth 100000 in
theorem mG:X4 Tryz.prog 39 (Jb none (YA 8 prS prN prF)):=
 Hs (te:=69) (ds:=[1,0]) Tryz.mixed Tryz.func39 rfl (by decide+kernel) (by kernel_rfl) rfl ⟨rfl,rfl,rfl⟩ mE (by kernel_rfl) mF kkOk knOk
  (fun w e he=>Ht (P:=Tryz.prog) (tk:=74) rfl rfl ⟨_,rfl,by kernel_rfl⟩ (prS e) (prN e) w) (by kernel_rfl)
theorem mH:X4 Tryz.prog 59 QK:=
 mi Tryz.zBb (by kernel_rfl) (by kernel_rfl) rfl Tryz.func59 rfl (by decide+kernel)
theorem mI:X4 Tryz.prog 133 (xX (some 4)):=by
 have h:shOf Tryz.prog 45=some 4:=by kernel_rfl
 have k:=Hm (P:=Tryz.prog) (f:=133) (c:=Tryz.f133.body.get (by kernel_rfl)) (t:=22) (e:=45) (by rw[h];exact⟨InsA.ins_end,InsA.ins_shift,fun b n c i vb voff m vc cur t vs w hi hm hnc hr hl hvb hg hcs hvl h1 hvs h1v=>InsA.ins_grow b n c i vb voff m vc cur t vs w hi hm hnc hr hl hvb hg hcs hvl h1 hvs h1v (by kernel_rfl) (by kernel_rfl) (by kernel_rfl) (by rw[h];rfl)⟩) Tryz.func133 (by kernel_rfl) (by decide+kernel) (by kernel_rfl) (by kernel_rfl) (by kernel_rfl) (by kernel_rfl);rw[h] at k;exact k
theorem mJ:X4 Tryz.prog 134 (yK (some 9)):=by
 have h:shOf Tryz.prog 49=some 9:=by kernel_rfl
 have k:=Gf (P:=Tryz.prog) (f:=134) (c:=Tryz.f134.body.get (by kernel_rfl)) (t:=43) (e:=49) (by rw[h];exact⟨InsB.ins_end,InsB.ins_shift,fun b n c i vb voff m vc cur t vs w hi hm hnc hr hl hvb hg hcs hvl h1 hvs h1v=>InsB.ins_grow b n c i vb voff m vc cur t vs w hi hm hnc hr hl hvb hg hcs hvl h1 hvs h1v (by kernel_rfl) (by kernel_rfl) (by kernel_rfl) (by rw[h];rfl)⟩) Tryz.func134 (by kernel_rfl) (by decide+kernel) (by kernel_rfl) (by kernel_rfl) (by kernel_rfl) (by kernel_rfl);rw[h] at k;exact k
theorem mK:X4 Tryz.prog 168 (yK (some 5)):=by
 have h:shOf Tryz.prog 197=some 5:=by kernel_rfl
 have k:=Gf (P:=Tryz.prog) (f:=168) (c:=Tryz.f168.body.get (by kernel_rfl)) (t:=145) (e:=197) (by rw[h];exact⟨InsC.ins_end,InsC.ins_shift,fun b n c i vb voff m vc cur t vs w hi hm hnc hr hl hvb hg hcs hvl h1 hvs h1v=>InsC.ins_grow b n c i vb voff m vc cur t vs w hi hm hnc hr hl hvb hg hcs hvl h1 hvs h1v (by kernel_rfl) (by kernel_rfl) (by kernel_rfl) (by rw[h];rfl)⟩) Tryz.func168 (by kernel_rfl) (by decide+kernel) (by kernel_rfl) (by kernel_rfl) (by kernel_rfl) (by kernel_rfl);rw[h] at k;exact k
def prim:FuncId->Option Ya:=fun g=>bif Nat.beq 133 g then some (xX (some 4)) else(fun g=>bif Nat.beq 134 g then some (yK (some 9)) else(fun g=>bif Nat.beq 168 g then some (yK (some 5)) else(fun g=>bif Nat.beq 59 g then some QK else(fun g=>bif Nat.beq 39 g then some (Jb none (YA 8 prS prN prF)) else(fun _=>none) g) g) g) g) g
theorem mL:xV Tryz.prog prim:=Ja mI (Ja mJ (Ja mK (Ja mH (Ja mG Hf))))
theorem sound:SoundO Tryz.prog (sem (find tab) prim):=Hc Tryz.mixed (He mf) mL
def yes:Option (ARes × Heap)->Bool
 |some (.ret (.pv none (.bool true)),[])=>true
 |_=>false
theorem G0{r:Option (ARes × Heap)}(h:yes r=true):r=some (.ret (P5 true),[]):=by
 unfold yes at h;split at h
 ·rfl
 ·cases h
end Go.Proofs.YtgedfopkiebjkaaGreatDoor
namespace Go.Proofs.YtgedfopkiebjkaaGreatDoor
open Go.Am Go.ChangeShapes Go.WideShapes Go.ChangeAt Go.RowKit
theorem G1(H:Type):BulkLaws (H:=H) Rows.uptoBulk Rows.uptoBulkAll where
 nil:=by simp[Rows.uptoBulkAll]
 cons d r:=by simp[Rows.uptoBulkAll]
 slice e s:=by simp[Rows.uptoBulk]
 agg l:=by simp[Rows.uptoBulk]
 string l:=by simp[Rows.uptoBulk]
theorem mM{H:Type}{l:List (DataW H)}(hk:Rows.uptoSmall H l=true):Rows.uptoBulkAll l<=1048576:=zj hk
def G2(P:Program)(tA tT:TypeId):Bool:=
 (match P.underlying tA with|some (.slice t)=>t == tT|_=>false) &&
 (match P.underlying tT with
  |some (.struct fs)=>match fs.toList.map (·.type) with
   |[a,b,c,d]=>d == tA && (match P.underlying a with|some (.int .i64)=>true|_=>false) && (match P.underlying b with|some (.int .i64)=>true|_=>false) && (match P.underlying c with|some .string=>true|_=>false) && decide (shOf P a=none) && decide (shOf P b=none) && decide (shOf P c=none)
   |_=>false
  |_=>false) && decide (shOf P tT=some 4) && decide (shOf P tA=none)
theorem mN{P:Program}{tA tT:TypeId}(h:G2 P tA tT=true):TermTy P tA tT:=by
 unfold G2 at h;simp only[Zk,ZN] at h;obtain⟨⟨⟨h1,h2⟩,h3⟩,h4⟩:=h;refine⟨?_,?_⟩
 ·split at h1
  ·rename_i t ht;rw[ht];simp at h1;rw[h1]
  ·cases h1
 ·split at h2
  ·rename_i fs hfs;split at h2
   ·rename_i a b c d hl;simp only[Zk,ZN,beq_iff_eq] at h2;obtain⟨⟨⟨⟨⟨⟨k1,k2⟩,k3⟩,k4⟩,k5⟩,k6⟩,k7⟩:=h2;subst k1;refine⟨fs,a,b,c,hfs,hl,?_,?_,?_,h3,h4,k5,k6,k7⟩
    ·split at k2
     ·assumption
     ·cases k2
    ·split at k3
     ·assumption
     ·cases k3
    ·split at k4
     ·assumption
     ·cases k4
   ·cases h2
  ·cases h2
theorem Vx:TermTy Tryz.prog 25 27:=mN (by kernel_rfl)
def Vy:List TypeId:=[2,3,4,5,9,25,27,39,49,43,45,22,24,197,145]
theorem closed:GC Tryz.prog Vy=true:=by kernel_rfl
set_option maxRecDepth 100000 in
theorem mO{H:Type}{enc:TypeId × Value->H}{W:World}{base:Nat}{v:Value}{d:DataW H}{ps:List MemPlace}(h:DataW.Trod enc Tryz.prog W 0 (fun _=>true) true 27 v d ps)(hv:Value.okWide Tryz.prog W .any base 27 v):
  ∃t:Tm,AR W (noX (P:=Tryz.prog)) noμ [] t.av v/\t.size<=Rows.uptoBulk d/\t.rng:=by
 obtain⟨fuel,h0⟩:=h;obtain⟨p,hp⟩:=GF closed fuel _ _ _ _ (by simp[Vy]) h0;obtain⟨t,rfl,h1,h2⟩:=(GG Vx (G1 H) fuel).1 d p hp;have:=Gp ⟨fuel,h0⟩ (by kernel_rfl) hp (Gq hv);rw[show shOf Tryz.prog 27=some 4 from by kernel_rfl] at this;exact⟨t,this,h1,h2⟩
end Go.Proofs.YtgedfopkiebjkaaGreatDoor
namespace Go.Proofs.YtgedfopkiebjkaaGreatDoor
open Go.Am Go.ChangeShapes Go.WideShapes Go.ChangeAt Go.RowKit
theorem mP(H:Type):BulkLaws2 (H:=H) Rows.uptoBulk Rows.uptoBulkAll:=
 ⟨G1 H,fun d=>by
  cases d with
  |lit l=>cases l <;> simp[Rows.uptoBulk]
  |_=>simp[Rows.uptoBulk]⟩
set_option maxRecDepth 100000 in
theorem mQ{H:Type}{enc:TypeId × Value->H}{W:World}{base:Nat}{v:Value}{d:DataW H}{ps:List MemPlace}{t:TypeId}(ht:t∈Vy)(hok:okT Tryz.prog t=true)(h:DataW.Trod enc Tryz.prog W 0 (fun _=>true) true t v d ps)(hv:Value.okWide Tryz.prog W .any base t v):
  ∃n p,AR W (noX (P:=Tryz.prog)) noμ [] (.pv (shOf Tryz.prog t) p) v/\wt Tryz.prog n t p/\p.sz<=Rows.uptoBulk d:=by
 obtain⟨fuel,h0⟩:=h;obtain⟨p,hp⟩:=GF closed fuel _ _ _ _ ht h0;obtain⟨h1,h2⟩:=GJ (mP H) fuel _ _ _ hp;exact⟨fuel,p,Gp ⟨fuel,h0⟩ hok hp (Gq hv),h1,h2⟩
end Go.Proofs.YtgedfopkiebjkaaGreatDoor
namespace Go.Proofs.YtgedfopkiebjkaaGreatDoor
open Go.Am Go.ChangeShapes Go.WideShapes Go.ChangeAt Go.RowKit
end Go.Proofs.YtgedfopkiebjkaaGreatDoor
namespace Go.Proofs.YtgedfopkiebjkaaGreatDoor
open Go.Am
noncomputable abbrev Z:=sem (find tab) prim
noncomputable abbrev S:=sem (find tab) prim .fn
noncomputable abbrev L:=sloop (find tab) prim

theorem mR:∀(t:Tm) (hp:Heap) (r1 r2:Nat) (l:Nat),t.size<1000000000->l<1000000000->hp[r1]? =some (.box none (P4 ((l+1:Nat):Int)))->hp[r2]? =some (.box none (.func (.func 106) [] [.ptr r1 0,.ptr r2 0]))->
  S 106 [t.av,.ptr r1 0,.ptr r2 0] hp=some (.ret (.tuple []),hp.set r1 (.box none (P4 ((l+1 - t.size:Nat):Int)))):=by
 intro t
 induction t using Tm.zAH with
 |h t ih=>
  intro hp r1 r2 l ht hl h1 h2;have hr1:=YZ h1;have hr2:=YZ h2;have hne:r1≠r2:=by
   grind
  have hts:=t.size_eq;have hlen:=Tm.zAG t.args;refine Yj rfl rfl rfl rfl ?_;have e1:∀y x,(hp.set r1 y++[x])[r1]? =some y:=fun y x=>by grind
  have e2:∀y x,(hp.set r1 y++[x])[r2]? =some (.box none (.func (.func 106) [] [.ptr r1 0,.ptr r2 0])):=fun y x=>by grind
  have e3:∀y x,(hp.set r1 y++[x])[hp.length]? =some x:=fun y x=>by simp
  have e4:∀y x z,(hp.set r1 y++[x]).set r1 z=hp.set r1 z++[x]:=fun y x z=>by simp_all
  have e5:(↑(l+1) - 1:Int)=((l+1 - (1+Tm.sizes (t.args.take 0)):Nat):Int):=by simp[Tm.sizes]
  have w1:IntKind.i64.wrap ((l+1:Nat) - 1:Int)=((l+1 - (1+Tm.sizes (t.args.take 0)):Nat):Int):=by grind [zU]
  simp -dsimp -implicitDefEqProofs only[go_sem,seval,Tm.av,mj hr1,h1,mm,mn hr1,w1];refine XH (fun n st=>∃i:Nat,n=t.args.length - i/\i<=t.args.length/\st=⟨[(1,.ptr r1 0),(2,.ptr r2 0),(3,.ptr hp.length 0),(4,P4 i)],hp.set r1 (.box none (P4 ((l+1 - (1+Tm.sizes (t.args.take i)):Nat):Int)))++[.box (some 4) (.pv (some 4) t.pv)]⟩) ⟨0,rfl,Za _,?_⟩ ?_
  ·simp -dsimp -implicitDefEqProofs only[go_sem,seval]
   try rfl
  ·rintro n st ⟨i,hn,hi,rfl⟩;by_cases h:i<t.args.length
   ·have hc:(i:Int)<(t.args.length:Int):=by omega
    obtain⟨u,hu⟩:∃u,t.args[i]? =some u:=⟨_,Ze h⟩;have hst:=Tm.zAP hu;have hum:=Zh hu;have husz:=Tm.zAI hum;by_cases h0:0<((l+1 - (1+Tm.sizes (t.args.take i)):Nat):Int)
    ·obtain⟨l',hl'⟩:∃l':Nat,l+1 - (1+Tm.sizes (t.args.take i))=l'+1:=⟨l+1 - (1+Tm.sizes (t.args.take i)) - 1,by omega⟩;have hcall:=ih u hum (hp.set r1 (.box none (P4 ((l'+1:Nat):Int)))++[.box (some 4) (.pv (some 4) t.pv)]) r1 r2 l' (by omega) (by omega) (e1 _ _) (e2 _ _);rw[e4] at hcall;have e6:l'+1 - u.size=l+1 - (1+Tm.sizes (t.args.take (i+1))):=by omega
     have w2:IntKind.i64.wrap ((i:Int)+1)=((i+1:Nat):Int):=by grind [zU]
     rw[hl'] at h0 ⊢;simp -dsimp -implicitDefEqProofs only[go_sem,seval,e1,e2,e3,e4,zL,Tm.pvs_len,hc,h0,zT (Tm.pvs_get hu),show AV.pv (some 4) u.pv=u.av from rfl,hcall,e6,w2];refine⟨t.args.length - (i+1),by omega,i+1,rfl,by omega,?_⟩
     grind [QL]
    ·simp -dsimp -implicitDefEqProofs only[go_sem,seval,e1,e2,e3,e4,zL,Tm.pvs_len,hc,h0];rw[ZF (by simp)]
     grind [Tm.zAL]
   ·have hc:¬(i:Int)<(t.args.length:Int):=by omega
    obtain rfl:i=t.args.length:=by omega
    simp -dsimp -implicitDefEqProofs only[go_sem,seval,e1,e2,e3,e4,zL,Tm.pvs_len,hc]
    grind

theorem qg(t:Tm)(hp:Heap)(h:t.size<1000000000):S 73 [t.av] hp=some (.ret (P4 ((min t.size 2001:Nat):Int)),hp):=by
 refine zM rfl rfl rfl (zK [(some 4,t.pv)]) rfl ?_;have hc:=mR t [.box (some 4) (.pv (some 4) t.pv),.box none (P4 2001),.box none (.func (.func 106) [] [.ptr 1 0,.ptr 2 0])] 1 2 2000 h (by omega) rfl rfl;have w1:IntKind.i64.wrap (2001 - ((2000+1 - t.size:Nat):Int))=((min t.size 2001:Nat):Int):=by grind [zU]
 simp only[Tm.av] at hc;simp -dsimp -implicitDefEqProofs only[go_sem,seval,Tm.av,Mz (Za _),hc,w1]

theorem mS(t:Tm)(Q:AExit->St->Prop)(h:∀r,Q .normal ⟨(1,.ptr 0 0)::(3,P5 t.node)::r,[.box (some 4) (.pv (some 4) t.pv)]⟩):
  W Z L 0 c74k15 ⟨[(1,.ptr 0 0),(3,P5 false),(6,P4 t.kind)],[.box (some 4) (.pv (some 4) t.pv)]⟩ Q:=by
 (repeat' (first|(simp -dsimp -implicitDefEqProofs only[c74k15,go_sem,seval,zJ,Yf,zN,zL,Tm.pvs_len, *])|(refine Y6 (fun _=> ?_) (fun _=> ?_))))
 all_goals (simp -dsimp -implicitDefEqProofs only[Tm.node,go_sem,seval, *] at h;exact h _)

theorem mT:∀(t:Tm) (hp:Heap),t.size<1000000000->S 74 [t.av] hp=some (.ret (P5 t.fits),hp):=by
 intro t
 induction t using Tm.zAH with
 |h t ih=>
  intro hp ht;have hts:=t.size_eq;have hlen:=Tm.zAG t.args;refine zM rfl rfl rfl (zK [(some 4,t.pv)]) rfl ?_;simp -dsimp -dsimp -implicitDefEqProofs only[go_sem,seval,zJ,Yf,zN,zL,Tm.pvs_len];refine mS t _ (fun r=> ?_);simp -dsimp -dsimp -implicitDefEqProofs only[go_sem,seval,zJ,Yf,zN,zL,Tm.pvs_len];refine XH (fun n st=>∃i:Nat,n=t.args.length - i/\i<=t.args.length/\st=⟨[(1,.ptr 0 0),(3,P5 (t.node && Tm.fitsAll (t.args.take i))),(4,P4 i)],[.box (some 4) (.pv (some 4) t.pv)]⟩) (n:=t.args.length) ⟨0,rfl,Za _,?_⟩ ?_
  ·simp -dsimp -implicitDefEqProofs only[go_sem,seval,Tm.fitsAll]
   try rfl
  ·rintro n st ⟨i,hn,hi,rfl⟩;by_cases h:i<t.args.length
   ·have hc:(i:Int)<(t.args.length:Int):=by omega
    obtain⟨u,hu⟩:∃u,t.args[i]? =some u:=⟨_,Ze h⟩;have hum:=Zh hu;have husz:=Tm.zAI hum;have hcall:=fun hp=>ih u hum hp (by omega);have e6:Tm.fitsAll (t.args.take (i+1))=(Tm.fitsAll (t.args.take i) && u.fits):=Tm.zAY hu;have w2:IntKind.i64.wrap ((i:Int)+1)=((i+1:Nat):Int):=by grind [zU]
    by_cases h0:(t.node && Tm.fitsAll (t.args.take i))=true
    ·simp -dsimp -dsimp -implicitDefEqProofs only[go_sem,seval,zL,Tm.pvs_len,hc,h0,zT (Tm.pvs_get hu),show AV.pv (some 4) u.pv=u.av from rfl,hcall,w2];refine⟨t.args.length - (i+1),by omega,i+1,rfl,by omega,?_⟩
     grind
    ·simp -dsimp -implicitDefEqProofs only[go_sem,seval,zL,Tm.pvs_len,hc,h0];rw[Tm.zAO];have hp:Tm.fitsAll t.args=(Tm.fitsAll (t.args.take i) && Tm.fitsAll (t.args.drop i)):=by rw[<-Tm.zAU,ZY]
     grind
   ·have hc:¬(i:Int)<(t.args.length:Int):=by omega
    obtain rfl:i=t.args.length:=by omega
    simp -dsimp -implicitDefEqProofs only[go_sem,seval,zL,Tm.pvs_len,hc];rw[Tm.zAO,ZW]

theorem YR(t:Tm)(hp:Heap)(h:t.size<1000000000):S 36 [t.av] hp=some (.ret (P5 t.valid),hp):=by
 refine zM rfl rfl rfl (zK [(some 4,t.pv)]) rfl ?_;have h1:=fun hp=>qg t hp h;have h2:=fun hp=>mT t hp h;unfold Tm.valid;simp only[Tm.av] at h1 h2;by_cases hs:t.size<=2000
 ·have hc:((min t.size 2001:Nat):Int)<=2000:=by omega
  (repeat' (first|(simp -dsimp -implicitDefEqProofs only[go_sem,seval,Tm.av, *])|(refine Y6 (fun _=> ?_) (fun _=> ?_))))
 ·have hc:¬((min t.size 2001:Nat):Int)<=2000:=by omega
  (repeat' (first|(simp -dsimp -implicitDefEqProofs only[go_sem,seval,Tm.av, *])|(refine Y6 (fun _=> ?_) (fun _=> ?_))))

theorem mU:∀(t:Tm) (hp:Heap) (m:Nat),t.size<1000000000->m<1000000000->S 69 [t.av,P4 ((m+1:Nat):Int)] hp=some (.ret (P4 ((min t.size (m+1):Nat):Int)),hp):=by
 intro t
 induction t using Tm.zAH with
 |h t ih=>
  intro hp m ht hm;have hts:=t.size_eq;have hlen:=Tm.zAG t.args;refine zM rfl rfl rfl (zK [(some 4,t.pv),(none,.int .i64 ((m+1:Nat):Int))]) rfl ?_;simp -dsimp -implicitDefEqProofs only[go_sem,seval,zL,Tm.pvs_len];refine XH (fun n st=>∃i:Nat,n=t.args.length - i/\i<=t.args.length/\st=⟨[(1,P4 ((m+1:Nat):Int)),(2,.ptr 0 0),(5,P4 ((min (1+Tm.sizes (t.args.take i)) (m+1):Nat):Int)),(6,P4 i)],[.box (some 4) (.pv (some 4) t.pv)]⟩) (n:=t.args.length) ⟨0,rfl,Za _,?_⟩ ?_
  ·simp -dsimp -implicitDefEqProofs only[go_sem,seval]
   grind [Tm.sizes]
  ·rintro n st ⟨i,hn,hi,rfl⟩;by_cases h:i<t.args.length
   ·have hc:(i:Int)<(t.args.length:Int):=by omega
    obtain⟨u,hu⟩:∃u,t.args[i]? =some u:=⟨_,Ze h⟩;have hst:=Tm.zAP hu;have hum:=Zh hu;have husz:=Tm.zAI hum;have w2:IntKind.i64.wrap ((i:Int)+1)=((i+1:Nat):Int):=by grind [zU]
    by_cases h0:((min (1+Tm.sizes (t.args.take i)) (m+1):Nat):Int)<((m+1:Nat):Int)
    ·obtain⟨m',hm'⟩:∃m':Nat,m+1 - min (1+Tm.sizes (t.args.take i)) (m+1)=m'+1:=⟨m - min (1+Tm.sizes (t.args.take i)) (m+1),by omega⟩;have w3:IntKind.i64.wrap (((m+1:Nat):Int) - ((min (1+Tm.sizes (t.args.take i)) (m+1):Nat):Int))=((m'+1:Nat):Int):=by grind [zU]
     have w4:IntKind.i64.wrap (((min (1+Tm.sizes (t.args.take i)) (m+1):Nat):Int)+((min u.size (m'+1):Nat):Int))=((min (1+Tm.sizes (t.args.take (i+1))) (m+1):Nat):Int):=by grind [zU]
     have hcall:=fun hp=>ih u hum hp m' (by omega) (by omega);simp -dsimp -implicitDefEqProofs only[go_sem,seval,zL,Tm.pvs_len,hc,h0,zT (Tm.pvs_get hu),show AV.pv (some 4) u.pv=u.av from rfl,hcall,w2,w3,w4]
     grind
    ·simp -dsimp -implicitDefEqProofs only[go_sem,seval,zL,Tm.pvs_len,hc,h0]
     grind [Tm.zAL]
   ·have hc:¬(i:Int)<(t.args.length:Int):=by omega
    obtain rfl:i=t.args.length:=by omega
    simp -dsimp -implicitDefEqProofs only[go_sem,seval,zL,Tm.pvs_len,hc]
    grind

theorem mV(t:Tm)(hp:Heap)(h:t.size<1000000000):S 30 [t.av] hp=some (.ret (P4 ((min t.size 2001:Nat):Int)),hp):=by
 refine zM rfl rfl rfl (zK [(some 4,t.pv)]) rfl ?_;have h1:=fun hp=>mU t hp 2000 h (by omega);simp only[Tm.av] at h1;have e:(((2000+1:Nat):Int))=2001:=rfl;rw[e] at h1
 (repeat' (first|(simp -dsimp -implicitDefEqProofs only[go_sem,seval, *])|(refine Y6 (fun _=> ?_) (fun _=> ?_))))

theorem mW(t:Tm)(hp:Heap):S 70 [t.av] hp=some (.ret (P5 t.node),hp):=by
 refine zM rfl rfl rfl (zK [(some 4,t.pv)]) rfl ?_
 (repeat' (first|(simp -dsimp -implicitDefEqProofs only[go_sem,seval,zJ,Yf,zN,zL,Tm.pvs_len, *])|(refine Y6 (fun _=> ?_) (fun _=> ?_))))
 all_goals (simp only[Tm.node,show(0<(t.args.length:Int))=(1<=(t.args.length:Int)) from propext (by omega), *,Int.reduceEq,if_true,if_false,decide_true,decide_false,Bool.true_and,Bool.false_and,Bool.and_true])

theorem mX:∀(t:Tm) (hp:Heap),t.size<1000000000->S 31 [t.av] hp=some (.ret (P5 t.fits),hp):=by
 intro t
 induction t using Tm.zAH with
 |h t ih=>
  intro hp ht;have hts:=t.size_eq;have hlen:=Tm.zAG t.args;refine zM rfl rfl rfl (zK [(some 4,t.pv)]) rfl ?_;have hnode:=mW t;simp only[Tm.av] at hnode;by_cases hn:t.node=true
  ·rw[hn] at hnode;simp -dsimp -implicitDefEqProofs only[go_sem,seval,hnode,zL,Tm.pvs_len];refine XH (fun n st=>∃i:Nat,n=t.args.length - i/\i<=t.args.length/\Tm.fitsAll (t.args.take i)=true/\st=⟨[(1,.ptr 0 0),(3,P4 i)],[.box (some 4) (.pv (some 4) t.pv)]⟩) (n:=t.args.length) ⟨0,rfl,Za _,rfl,?_⟩ ?_
   ·simp -dsimp -implicitDefEqProofs only[go_sem,seval]
    try rfl
   ·rintro n st ⟨i,hn',hi,hf,rfl⟩;by_cases h:i<t.args.length
    ·have hc:(i:Int)<(t.args.length:Int):=by omega
     obtain⟨u,hu⟩:∃u,t.args[i]? =some u:=⟨_,Ze h⟩;have hum:=Zh hu;have husz:=Tm.zAI hum;have hcall:=fun hp=>ih u hum hp (by omega);have e6:Tm.fitsAll (t.args.take (i+1))=(Tm.fitsAll (t.args.take i) && u.fits):=Tm.zAY hu;have w2:IntKind.i64.wrap ((i:Int)+1)=((i+1:Nat):Int):=by grind [zU]
     by_cases h0:u.fits=true
     ·simp -dsimp -implicitDefEqProofs only[go_sem,seval,zL,Tm.pvs_len,hc,h0,zT (Tm.pvs_get hu),show AV.pv (some 4) u.pv=u.av from rfl,hcall,w2]
      grind
     ·rw[Bool.not_eq_true] at h0;simp -dsimp -implicitDefEqProofs only[go_sem,seval,zL,Tm.pvs_len,hc,h0,zT (Tm.pvs_get hu),show AV.pv (some 4) u.pv=u.av from rfl,hcall,w2]
      grind [Tm.zAK]
    ·have hc:¬(i:Int)<(t.args.length:Int):=by omega
     obtain rfl:i=t.args.length:=by omega
     rw[ZW] at hf;simp -dsimp -implicitDefEqProofs only[go_sem,seval,zL,Tm.pvs_len,hc]
     grind [Tm.zAO]
  ·rw[Bool.not_eq_true] at hn;rw[hn] at hnode;simp -dsimp -implicitDefEqProofs only[go_sem,seval,hnode,zL,Tm.pvs_len]
   grind [Tm.zAO]

theorem Vz(t:Tm)(hp:Heap)(h:t.size<1000000000):S 8 [t.av] hp=some (.ret (P5 t.valid),hp):=by
 refine zM rfl rfl rfl (zK [(some 4,t.pv)]) rfl ?_;have h1:=fun hp=>mV t hp h;have h2:=fun hp=>mX t hp h;unfold Tm.valid;simp only[Tm.av] at h1 h2;by_cases hs:t.size<=2000
 ·have hc:((min t.size 2001:Nat):Int)<=2000:=by omega
  (repeat' (first|(simp -dsimp -implicitDefEqProofs only[go_sem,seval,Tm.av, *])|(refine Y6 (fun _=> ?_) (fun _=> ?_))))
 ·have hc:¬((min t.size 2001:Nat):Int)<=2000:=by omega
  (repeat' (first|(simp -dsimp -implicitDefEqProofs only[go_sem,seval,Tm.av, *])|(refine Y6 (fun _=> ?_) (fun _=> ?_))))
end Go.Proofs.YtgedfopkiebjkaaGreatDoor
