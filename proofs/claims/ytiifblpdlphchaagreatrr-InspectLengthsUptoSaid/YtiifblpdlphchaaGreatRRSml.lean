/- What is proved: what slices.Insert does at one type. -/
import Derived.Test.YtiifblpdlphchaaGreatRRProg
import Derived.Shelf.Spec.SlicesInsertGrow
import Derived.Test.YtiifblpdlphchaaGreatRRAm2
import Derived.Test.YtiifblpdlphchaaGreatRRRows
import Derived.Test.YtiifblpdlphchaaGreatRRFns
import Derived.Test.YtiifblpdlphchaaGreatRRAm4
import Derived.Test.YtiifblpdlphchaaGreatRRAm5
set_option linter.unusedVariables false
set_option linter.unusedSimpArgs false
namespace Go.Proofs.YtiifblpdlphchaaGreatRR
open Go Go.Am Go.Proofs Go.Lib Go.RowKit
theorem t3:Tryz.prog.underlying 3=some (TypeDesc.int IntKind.i64):=by kernel_rfl
theorem a3:∀w,(isAgg 3).run Tryz.prog w=.ok false w:=fun w=>by kernel_rfl
theorem z3:∀w,(Go.sizeOf 3).run Tryz.prog w=.ok 1 w:=fun w=>by kernel_rfl
theorem v3:∀w,(zeroValue 3).run Tryz.prog w=.ok (Value.int IntKind.i64 0) w:=fun w=>by kernel_rfl
theorem t4:Tryz.prog.underlying 4=some TypeDesc.bool:=by kernel_rfl
theorem a4:∀w,(isAgg 4).run Tryz.prog w=.ok false w:=fun w=>by kernel_rfl
theorem z4:∀w,(Go.sizeOf 4).run Tryz.prog w=.ok 1 w:=fun w=>by kernel_rfl
theorem v4:∀w,(zeroValue 4).run Tryz.prog w=.ok (Value.bool false) w:=fun w=>by kernel_rfl
theorem tS:Tryz.prog.underlying 41=some (TypeDesc.slice 115):=by kernel_rfl
theorem aS:∀w,(isAgg 41).run Tryz.prog w=.ok false w:=fun w=>by kernel_rfl
theorem zS:∀w,(Go.sizeOf 41).run Tryz.prog w=.ok 1 w:=fun w=>by kernel_rfl
theorem vS:∀w,(zeroValue 41).run Tryz.prog w=.ok (Value.slice none 0 0) w:=fun w=>by kernel_rfl
theorem zE:∀w,(Go.sizeOf 115).run Tryz.prog w=.ok 5 w:=fun w=>by kernel_rfl
theorem iE:(Tryz.prog.info? 115).map (·.size)=some 5:=by kernel_rfl
theorem zsm{α:Type}(C:List α)(p q:Nat)(hpq:p<=q)(hq:q<=C.length)(R:List α):(C.take q++R).take p=C.take p/\(C.take q++R).drop q=R:=by
 have hl:(C.take q).length=q:=by simp;omega
 refine⟨?_,?_⟩
 ·rw[List.take_append_of_le_length (by omega),List.take_take]
  congr 1
  omega
 ·exact List.drop_left' hl
set_option maxHeartbeats 4000000 in
set_option maxRecDepth 100000 in
theorem zqo(b n c i vb voff m vc:Nat)(cur:Array Value)(t:TypeId)(vs:List Value)(w:World)(hi:i<n)(hm:0<m)(hroom:n+m<=c)(hlim:n+m<=lim)(hvb:vb≠b)
  (hg:w.heap[b]? =some (.cells cur t (0,0)))(hcs:cur.size=c*5)(hvl:vs.length=m*5)(h1:∀v∈(cur.toList.drop (i*5)).take ((n - i)*5),v.oneCell'=true)
  (hvs:∀j v,vs[j]? =some v->w.cell? ⟨vb,voff+j,none⟩=some v)(h1v:∀v∈vs,v.oneCell'=true)
  (tA:TypeId)(kA:Nat)(hsa:w.shape? vb=some (tA,kA))(hkA:kA≠0):
  ∃cur2:Array Value,cur2.toList=cur.toList.take (i*5)++vs++(cur.toList.drop (i*5)).take ((n - i)*5)++cur.toList.drop ((n+m)*5)/\
  Calls Tryz.prog 146 #[.slice (some ⟨b,0,none⟩) n c,.int .i64 i,.slice (some ⟨vb,voff,none⟩) m vc] w fun e w'=>
   e=.returned (.slice (some ⟨b,0,none⟩) (n+m) c)/\∃cur1,w'=(w.drew.setRow b cur1).setRow b cur2:=by
 have t3:=t3;have a3:=a3;have z3:=z3;have v3:=v3;have t4:=t4;have a4:=a4;have z4:=z4;have v4:=v4;have tS:=tS;have aS:=aS;have zS:=zS;have vS:=vS;have zE:=zE
 have u3:=run_underlying t3;have u4:=run_underlying t4;have uS:=run_underlying tS
 have hlim':n+m<=1073741824:=hlim
 have hov:∀lb cb x,(callFunc 153 #[.slice (some ⟨vb,voff,none⟩) m vc,.slice (some ⟨b,x,none⟩) lb cb]).run Tryz.prog w=.ok (.value (.bool false)) w:=fun lb cb x=>by
  have hfr:∀o,w.frozen? ⟨b,o,none⟩=false:=fun o=>by simp[World.frozen?,hg]
  rw[run_callFunc_extern Tryz.func153 (by kernel_rfl) (by kernel_rfl) (by kernel_rfl) (e:=Extern.SlicesOverlaps.overlaps #[41,41] #[4]) (by kernel_rfl),
   zfA w 41 4 115 tS 5 zE ⟨vb,voff,none⟩ ⟨b,x,none⟩ m vc lb cb hvb tA t kA cur.size hsa (by simp[World.shape?,hg]) hkA (by omega) hfr (hfr x)]
  rfl
 have hz1:¬((m:Int)=0):=by omega
 have hz2:¬((i:Int)=(n:Int)):=by omega
 have hw1:IntKind.i64.wrap ((i:Int)+(m:Int))=(i:Int)+(m:Int):=by rw[IntKind.wrap_i64];omega
 have hb1:(0:Int)<=(i:Int)+(m:Int):=by omega
 have hin:i<=n:=by omega
 have htn:((i:Int)+(m:Int)).toNat=i+m:=by omega
 have hb2:¬(c=i+m):=by omega
 have hb3:(i:Int)<=(n:Int)+(m:Int):=by omega
 have hb4:¬(c=i):=by omega
 have hcell:∀(W:World) (j:Nat),W.heap=w.heap->W.cell? ⟨b,j,none⟩=cur.toList[j]? :=fun W j h=>by
  simp[World.cell?,h,hg]
 have hcp1:∃cur1:Array Value,cur1.toList=cur.toList.take ((i+m)*5)++(cur.toList.drop (i*5)).take ((n - i)*5)++cur.toList.drop ((n+m)*5)/\∀ty dc sc,(Builtin.copy_ #[41,41] ty #[.slice (some ⟨b,(i+m)*5,none⟩) (n+m - (i+m)) dc,.slice (some ⟨b,i*5,none⟩) (n+m - i) sc]).run Tryz.prog w.drew=.ok (goInt ((n - i:Nat):Int)) (w.drew.setRow b cur1):=by
  obtain⟨cs1,hcs1⟩:∃cs1,cs1=(cur.toList.drop (i*5)).take ((n - i)*5):=⟨_,rfl⟩
  have hl1:cs1.length=(n - i)*5:=by rw[hcs1];simp;omega
  have hmin:Nat.min (n+m - i) (n+m - (i+m))=n - i:=by simp only[Nat.min_def];split <;> omega
  have h:=fun ty dc sc=>
   zbH w.drew 41 41 ty 115 b ((i+m)*5) (n+m - (i+m)) dc ⟨b,i*5,none⟩ (n+m - i) sc 5 cur t cs1 tS iE hg (by rw[hl1,hmin])
   (fun j v hj=>by
    have ha:(⟨b,i*5,none⟩:Addr).add j=⟨b,i*5+j,none⟩:=by unfold Addr.add;split <;> simp_all
    rw[ha,hcell w.drew _ rfl]
    rw[hcs1,List.getElem?_take] at hj
    split at hj
    ·rwa [List.getElem?_drop] at hj
    ·cases hj)
   (by rw[hl1,hcs];omega) (fun v hv=>h1 v (by rw[hcs1] at hv;exact hv))
  refine⟨(cur.toList.take ((i+m)*5)++cs1++cur.toList.drop ((i+m)*5+cs1.length)).toArray,?_,fun ty dc sc=> ?_⟩
  ·rw[hl1,hcs1,show(i+m)*5+(n - i)*5=(n+m)*5 by omega]
  ·rw[h,hmin]
 obtain⟨cur1,hcur1,hcp1⟩:=hcp1
 have hcur1l:cur1.size=cur.size:=by
  have:=congrArg List.length hcur1
  simp at this
  omega
 have hne:∀x,x≠b->(w.drew.setRow b cur1).heap[x]? =w.heap[x]? :=fun x hx=>by
  simp[World.setRow,Array.getElem?_modify,Ne.symm hx]
  rfl
 have hg1:(w.drew.setRow b cur1).heap[b]? =some (.cells cur1 t (0,0)):=setRow_heap w.drew b cur cur1 t _ hg
 have hcp2:∃cur2:Array Value,cur2.toList=cur1.toList.take (i*5)++vs++cur1.toList.drop (i*5+m*5)/\∀ty dc,(Builtin.copy_ #[41,41] ty #[.slice (some ⟨b,i*5,none⟩) (n+m - i) dc,.slice (some ⟨vb,voff,none⟩) m vc]).run Tryz.prog (w.drew.setRow b cur1)=.ok (goInt m) ((w.drew.setRow b cur1).setRow b cur2):=by
  have hmin:Nat.min m (n+m - i)=m:=by simp only[Nat.min_def];split <;> omega
  have h:=fun ty dc=>
   zbH (w.drew.setRow b cur1) 41 41 ty 115 b (i*5) (n+m - i) dc ⟨vb,voff,none⟩ m vc 5 cur1 t vs tS iE hg1 (by rw[hvl,hmin])
   (fun j v hj=>by
    have ha:(⟨vb,voff,none⟩:Addr).add j=⟨vb,voff+j,none⟩:=by unfold Addr.add;split <;> simp_all
    rw[ha]
    have:=hvs j v hj
    unfold World.cell? at this ⊢
    rw[hne vb hvb]
    exact this)
   (by rw[hvl,hcur1l,hcs];omega) h1v
  refine⟨(cur1.toList.take (i*5)++vs++cur1.toList.drop (i*5+vs.length)).toArray,?_,fun ty dc=> ?_⟩
  ·rw[hvl]
  ·rw[h,hmin]
 obtain⟨cur2,hcur2,hcp2⟩:=hcp2
 have hfin:cur2.toList=cur.toList.take (i*5)++vs++(cur.toList.drop (i*5)).take ((n - i)*5)++cur.toList.drop ((n+m)*5):=by
  rw[hcur2,hcur1]
  simp only[List.append_assoc]
  obtain⟨e1,e2⟩:=zsm cur.toList (i*5) ((i+m)*5) (by omega) (by simp;omega) ((cur.toList.drop (i*5)).take ((n - i)*5)++cur.toList.drop ((n+m)*5))
  rw[e1,show i*5+m*5=(i+m)*5 by omega,e2]
 refine⟨cur2,hfin,?_⟩
 clear hcur1 hcur2 hfin
 have mixed:Tryz.prog.follows .mixedOrders=true:=by kernel_rfl
 go_enter Tryz.func146,Tryz.f146
 go_wp2_with (simp only[hov])
 go_region_law_o (refine step_copy_runI rfl _ _ 41 41 rfl _ _ (by simp[Act.eval,Act.put]) (by simp[Act.eval,Act.put]) (hcp1 _ _ _) ?_)
 go_wp2_with (at_builtin;refine wpList_copy_runI _ rfl _ _ 41 41 rfl _ _ rfl rfl (hcp2 _ _) ?_)
 go_ret
 exact⟨rfl,cur1,rfl⟩
set_option maxHeartbeats 4000000 in
set_option maxRecDepth 100000 in
theorem zsn(b n c i vb voff m vc:Nat)(cur:Array Value)(t:TypeId)(vs:List Value)(w:World)(hi:i<n)(hm:0<m)(hnc:n<=c)(hroom:c<n+m)(hlim:n+m<=lim)(hvb:vb<w.heap.size)
  (hg:w.heap[b]? =some (.cells cur t (0,0)))(hcs:cur.size=c*5)(hvl:vs.length=m*5)(h1:∀v∈(cur.toList.drop (i*5)).take ((n - i)*5),v.oneCell'=true)
  (hvs:∀j v,vs[j]? =some v->w.cell? ⟨vb,voff+j,none⟩=some v)(h1v:∀v∈vs,v.oneCell'=true)
  (hok:okT Tryz.prog 115=true)(hz:zaX Tryz.prog 115=true)(hby:zbc Tryz.prog 115=true)(hshE:(shOf Tryz.prog 115).size=5):
  ∃(row:Array Value) (G:Nat),n+m<=G/\row.size=G*5/\row.toList.take ((n+m)*5)=cur.toList.take (i*5)++vs++(cur.toList.drop (i*5)).take ((n - i)*5)/\
  Calls Tryz.prog 146 #[.slice (some ⟨b,0,none⟩) n c,.int .i64 i,.slice (some ⟨vb,voff,none⟩) m vc] w fun e w'=>
   e=.returned (.slice (some ⟨w.heap.size,0,none⟩) (n+m) G)/\w'.heap[w.heap.size]? =some (.cells row 115 (0,0))/\w'.heap.size=w.heap.size+1/\(∀x,x<w.heap.size->w'.heap[x]? =w.heap[x]?)/\w'.os=w.os/\w'.tape=w.tape/\w'.output=w.output:=by
 have t3:=t3;have a3:=a3;have z3:=z3;have v3:=v3;have t4:=t4;have a4:=a4;have z4:=z4;have v4:=v4;have tS:=tS;have aS:=aS;have zS:=zS;have vS:=vS;have zE:=zE
 have u3:=run_underlying t3;have u4:=run_underlying t4;have uS:=run_underlying tS
 obtain⟨i0,z0,hi0,hz0,hs0,hzc⟩:=okE w hok hz
 rw[hshE] at hs0 hzc
 have hb:i0.bytes<=1024:=by
  unfold zbc at hby
  rw[hi0] at hby
  simpa using hby
 have hbb:(n+m)*i0.bytes<=140737488355328:=by
  have:(n+m)*i0.bytes<=lim*1024:=Nat.mul_le_mul hlim hb
  unfold lim at this
  omega
 have hlim':n+m<=1073741824:=hlim
 have hbN:b<w.heap.size:=zaC hg
 have hz1:¬((m:Int)=0):=by omega
 have hz2:¬((i:Int)=(n:Int)):=by omega
 have hz3:(c:Int)<(n:Int)+(m:Int):=by omega
 have hkk:(n:Int)+(m:Int) - (i:Int)=((n+m - i:Nat):Int):=by omega
 have hik:i+(n+m - i)=n+m:=by omega
 have hold:(Builtin.firstCells i0.size i (.slice (some ⟨b,0,none⟩) i c)).run Tryz.prog w.drew=.ok (cur.toList.take (i*5)).toArray w.drew:=by
  rw[hs0]
  refine run_firstCells_some w.drew 5 i ⟨b,0,none⟩ i c (cur.toList.take (i*5)) (by simp;omega) fun j v hj=> ?_
  have ha:(⟨b,0,none⟩:Addr).add j=⟨b,j,none⟩:=by unfold Addr.add;split <;> simp_all
  rw[ha]
  rw[List.getElem?_take] at hj
  split at hj
  ·have hg':w.drew.heap[b]? =some (.cells cur t (0,0)):=hg
   simpa[World.cell?,hg'] using hj
  ·cases hj
 obtain⟨G,hG⟩:∃G,grownCap w (n+m) c 115=G:=⟨_,rfl⟩
 obtain⟨ROW,hROW⟩:∃ROW:Array Value,(cur.toList.take (i*5)).toArray++Builtin.zeroCells z0.cells (n+m - i)++Builtin.zeroCells z0.cells (G - (n+m))=ROW:=⟨_,rfl⟩
 have hGn:n+m<=G:=by rw[<-hG];exact grownCap_ge w _ _ _
 have hRl:ROW.size=G*5:=by
  rw[<-hROW]
  simp only[Array.size_append,List.size_toArray,size_zeroCells,hzc,List.length_take,Array.length_toList]
  omega
 have hRt:ROW.toList.take (i*5)=cur.toList.take (i*5):=by
  rw[<-hROW]
  simp only[Array.toList_append,List.append_assoc]
  exact List.take_left' (by simp;omega)
 have hrz:∀ty,(Builtin.append_ #[41,3] ty #[.slice (some ⟨b,0,none⟩) i c,.int .i64 ((n:Int)+(m:Int) - (i:Int))]).run Tryz.prog w=
   .ok (.slice (some ⟨w.heap.size,0,none⟩) (n+m) G) (w.drew.alloc (.cells ROW 115)):=fun ty=>by
  have h:=Lib.run_append_grow_zeros w 41 3 ty 115 i0 z0 .i64 .i64 tS t3 hi0 hz0 (some ⟨b,0,none⟩) i c (cur.toList.take (i*5)) hold (n+m - i) (by omega) (by rw[hs0];omega) (by omega) (by omega)
   (by have:(n+m - i)*i0.bytes<=(n+m)*i0.bytes:=Nat.mul_le_mul (by omega) (Nat.le_refl _);omega) (by rw[hik];exact growslice_fits hroom hbb)
  rw[hik,hG] at h
  rw[hkk,<-hROW]
  exact h
 have hd1:ROW.toList.length=G*5:=by simpa using hRl
 have hGn':(n+m)*5<=G*5:=Nat.mul_le_mul hGn (Nat.le_refl _)
 have hcpA:∃row1:Array Value,row1.toList=ROW.toList.take (i*5)++vs++ROW.toList.drop (i*5+m*5)/\∀W:World,W.heap[w.heap.size]? =some (.cells ROW 115 (0,0))->W.heap[vb]? =w.heap[vb]?->∀ty dc,(Builtin.copy_ #[41,41] ty #[.slice (some ⟨w.heap.size,i*5,none⟩) (n+m - i) dc,.slice (some ⟨vb,voff,none⟩) m vc]).run Tryz.prog W=.ok (goInt m) (W.setRow w.heap.size row1):=by
  have hmin:Nat.min m (n+m - i)=m:=by simp only[Nat.min_def];split <;> omega
  refine⟨(ROW.toList.take (i*5)++vs++ROW.toList.drop (i*5+vs.length)).toArray,by rw[hvl],fun W hN hV ty dc=> ?_⟩
  have h:=zbH W 41 41 ty 115 w.heap.size (i*5) (n+m - i) dc ⟨vb,voff,none⟩ m vc 5 ROW 115 vs tS iE hN (by rw[hvl,hmin])
   (fun j v hj=>by
    have ha:(⟨vb,voff,none⟩:Addr).add j=⟨vb,voff+j,none⟩:=by unfold Addr.add;split <;> simp_all
    rw[ha]
    have:=hvs j v hj
    unfold World.cell? at this ⊢
    rw[hV]
    exact this)
   (by rw[hvl,hRl];omega) h1v
  rw[h,hmin]
 obtain⟨row1,hrow1,hcpA⟩:=hcpA
 have hr1l:row1.size=G*5:=by
  have:=congrArg List.length hrow1
  simp at this
  omega
 have hcpB:∃row2:Array Value,row2.toList=row1.toList.take ((i+m)*5)++(cur.toList.drop (i*5)).take ((n - i)*5)++row1.toList.drop ((n+m)*5)/\∀W:World,W.heap[w.heap.size]? =some (.cells row1 115 (0,0))->W.heap[b]? =some (.cells cur t (0,0))->∀ty dc sc,(Builtin.copy_ #[41,41] ty #[.slice (some ⟨w.heap.size,(i+m)*5,none⟩) (n+m - (i+m)) dc,.slice (some ⟨b,i*5,none⟩) (n - i) sc]).run Tryz.prog W=.ok (goInt ((n - i:Nat):Int)) (W.setRow w.heap.size row2):=by
  obtain⟨cs1,hcs1⟩:∃cs1,cs1=(cur.toList.drop (i*5)).take ((n - i)*5):=⟨_,rfl⟩
  have hl1:cs1.length=(n - i)*5:=by rw[hcs1];simp;omega
  have hmin:Nat.min (n - i) (n+m - (i+m))=n - i:=by simp only[Nat.min_def];split <;> omega
  refine⟨(row1.toList.take ((i+m)*5)++cs1++row1.toList.drop ((i+m)*5+cs1.length)).toArray,by rw[hl1,hcs1,show(i+m)*5+(n - i)*5=(n+m)*5 by omega],fun W hN hB ty dc sc=> ?_⟩
  have h:=zbH W 41 41 ty 115 w.heap.size ((i+m)*5) (n+m - (i+m)) dc ⟨b,i*5,none⟩ (n - i) sc 5 row1 115 cs1 tS iE hN (by rw[hl1,hmin])
   (fun j v hj=>by
    have ha:(⟨b,i*5,none⟩:Addr).add j=⟨b,i*5+j,none⟩:=by unfold Addr.add;split <;> simp_all
    rw[ha]
    rw[hcs1,List.getElem?_take] at hj
    split at hj
    ·rw[List.getElem?_drop] at hj
     simpa[World.cell?,hB] using hj
    ·cases hj)
   (by rw[hl1,hr1l];omega) (fun v hv=>h1 v (by rw[hcs1] at hv;exact hv))
  rw[h,hmin]
 obtain⟨row2,hrow2,hcpB⟩:=hcpB
 have hfin:row2.toList.take ((n+m)*5)=cur.toList.take (i*5)++vs++(cur.toList.drop (i*5)).take ((n - i)*5):=by
  have e0:row1.toList.take ((i+m)*5)=cur.toList.take (i*5)++vs:=by
   rw[hrow1,hRt]
   exact List.take_left' (by simp[hvl];omega)
  rw[hrow2,e0]
  exact List.take_left' (by simp[hvl];omega)
 have hr2l:row2.size=G*5:=by
  have:=congrArg List.length hrow2
  simp at this
  omega
 have hA1:(w.drew.alloc (.cells ROW 115)).heap[w.heap.size]? =some (.cells ROW 115 (0,0)):=zaA w.drew _
 have hA2:∀x,x<w.heap.size->(w.drew.alloc (.cells ROW 115)).heap[x]? =w.heap[x]? :=fun x hx=>zaF w.drew _ hx
 have hA3:(w.drew.alloc (.cells ROW 115)).heap.size=w.heap.size+1:=by
  show(w.drew.heap.push _).size=_
  rw[Array.size_push]
  rfl
 refine⟨row2,G,hGn,hr2l,hfin,?_⟩
 have hG63:G<=9223372036854775807:=by
  have:=grownCap_le_maxLen w (n+m) c 115 (by unfold maxLen;omega)
  rw[hG] at this
  unfold maxLen at this
  omega
 have hGi:¬(G=i):=by omega
 have hGim:¬(G=i+m):=by omega
 have hci:¬(c=i):=by omega
 have hw1:IntKind.i64.wrap ((i:Int)+(m:Int))=(i:Int)+(m:Int):=by rw[IntKind.wrap_i64];omega
 have hw2:IntKind.i64.wrap ((n:Int)+(m:Int))=(n:Int)+(m:Int):=by rw[IntKind.wrap_i64];omega
 have hw3:IntKind.i64.wrap ((n:Int)+(m:Int) - (i:Int))=(n:Int)+(m:Int) - (i:Int):=by rw[IntKind.wrap_i64];omega
 have hb1:(0:Int)<=(i:Int)+(m:Int):=by omega
 have hin:i<=n:=by omega
 have htn:((i:Int)+(m:Int)).toNat=i+m:=by omega
 have hb3:(i:Int)<=(n:Int):=by omega
 clear hkk hik hold hrow1 hrow2 hfin hRt hd1 hROW hG
 have mixed:Tryz.prog.follows .mixedOrders=true:=by kernel_rfl
 go_enter Tryz.func146,Tryz.f146
 go_wp2_with (at_builtin;refine Lib.wpList_append_run _ rfl _ _ _ _ rfl _ _ rfl rfl _ _ (hrz _) ?_)
 have hA1':((w.alloc (.cells ROW 115)).drew).heap[w.heap.size]? =some (.cells ROW 115 (0,0)):=hA1
 have hA2':∀x,x<w.heap.size->((w.alloc (.cells ROW 115)).drew).heap[x]? =w.heap[x]? :=hA2
 have hA3':((w.alloc (.cells ROW 115)).drew).heap.size=w.heap.size+1:=hA3
 have hA4':((w.alloc (.cells ROW 115)).drew).os=w.os/\((w.alloc (.cells ROW 115)).drew).tape=w.tape/\((w.alloc (.cells ROW 115)).drew).output=w.output:=⟨rfl,rfl,rfl⟩
 rw[hcpA _ hA1' (hA2' _ hvb)]
 generalize (w.alloc (.cells ROW 115)).drew=W0 at*
 have hB1:(W0.setRow w.heap.size row1).heap[w.heap.size]? =some (.cells row1 115 (0,0)):=setRow_heap W0 w.heap.size ROW row1 115 _ hA1'
 have hB2:∀x,x<w.heap.size->(W0.setRow w.heap.size row1).heap[x]? =w.heap[x]? :=fun x hx=>by
  rw[<-hA2' x hx]
  have:w.heap.size≠x:=by omega
  simp[World.setRow,Array.getElem?_modify,this]
 have hB3:(W0.setRow w.heap.size row1).heap.size=w.heap.size+1:=by rw[<-hA3'];simp[World.setRow]
 have hB4:(W0.setRow w.heap.size row1).os=w.os/\(W0.setRow w.heap.size row1).tape=w.tape/\(W0.setRow w.heap.size row1).output=w.output:=hA4'
 generalize W0.setRow w.heap.size row1=W1 at*
 clear hA1' hA2' hA3' hA4' hcpA hrz hA1 hA2 hA3
 go_wp2
 have hD1:W1.drew.heap[w.heap.size]? =some (.cells row1 115 (0,0)):=hB1
 have hD2:W1.drew.heap[b]? =some (.cells cur t (0,0)):=by rw[<-hg];exact hB2 b hbN
 go_region_law_o (refine step_copy_runI rfl _ _ 41 41 rfl (.slice (some ⟨w.heap.size,(i+m)*5,none⟩) (n+m - (i+m)) (G - (i+m))) (.slice (some ⟨b,i*5,none⟩) (n - i) (c - i)) (by simp[Act.eval,Act.put]) (by simp[Act.eval,Act.put]) (hcpB W1.drew hD1 hD2 3 (G - (i+m)) (c - i)) ?_)
 have hE1:(W1.drew.setRow w.heap.size row2).heap[w.heap.size]? =some (.cells row2 115 (0,0)):=setRow_heap W1.drew w.heap.size row1 row2 115 _ hD1
 have hE2:∀x,x<w.heap.size->(W1.drew.setRow w.heap.size row2).heap[x]? =w.heap[x]? :=fun x hx=>by
  rw[<-hB2 x hx]
  have:w.heap.size≠x:=by omega
  simp[World.setRow,Array.getElem?_modify,this]
  rfl
 have hE3:(W1.drew.setRow w.heap.size row2).heap.size=w.heap.size+1:=by
  rw[<-hB3]
  show(W1.heap.modify _ _).size=_
  rw[Array.size_modify]
 have hE4:(W1.drew.setRow w.heap.size row2).os=w.os/\(W1.drew.setRow w.heap.size row2).tape=w.tape/\(W1.drew.setRow w.heap.size row2).output=w.output:=hB4
 generalize W1.drew.setRow w.heap.size row2=W2 at*
 clear hD1 hD2 hB1 hB2 hB3 hB4 hcpB
 go_wp2
 go_ret
 exact⟨rfl,hE1,hE3,hE2,hE4⟩
set_option maxHeartbeats 4000000 in
set_option maxRecDepth 100000 in
theorem ztV(base:Option Addr)(n c vb voff m vc:Nat)(w w':World)(v':Value)(hm:0<m)(hnc:n<=c)(hlim:n<=lim)(hrun:(Builtin.append_ #[41,41] 41 #[.slice base n c,.slice (some ⟨vb,voff,none⟩) m vc]).run Tryz.prog w=.ok v' w'):
  Calls Tryz.prog 146 #[.slice base n c,.int .i64 n,.slice (some ⟨vb,voff,none⟩) m vc] w fun E W=>E=.returned v'/\W=w':=by
 have t3:=t3;have a3:=a3;have z3:=z3;have v3:=v3;have t4:=t4;have a4:=a4;have z4:=z4;have v4:=v4;have tS:=tS;have aS:=aS;have zS:=zS;have vS:=vS;have zE:=zE
 have u3:=run_underlying t3;have u4:=run_underlying t4;have uS:=run_underlying tS
 have hlim':n<=1073741824:=hlim
 have hz1:¬((m:Int)=0):=by omega
 have mixed:Tryz.prog.follows .mixedOrders=true:=by kernel_rfl
 go_enter Tryz.func146,Tryz.f146
 cases base with
 |none=>
  go_wp2_with (at_builtin;refine Lib.wpList_append_run _ rfl _ _ _ _ rfl _ _ rfl rfl _ _ hrun ?_)
  all_goals (go_ret;exact⟨rfl,rfl⟩)
 |some a=>
  obtain⟨ab,ao,asp⟩:=a
  go_wp2_with (at_builtin;refine Lib.wpList_append_run _ rfl _ _ _ _ rfl _ _ rfl rfl _ _ hrun ?_)
  all_goals (go_ret;exact⟨rfl,rfl⟩)
end Go.Proofs.YtiifblpdlphchaaGreatRR
namespace Go.Proofs.YtiifblpdlphchaaGreatRR
open Go.Am Go.ChangeShapes Go.WideShapes Go.ChangeAt Go.RowKit
theorem Tryz.own:ownKnob Tryz.prog.godebug=none:=by kernel_rfl
theorem Tryz.zvX:laidOutB Tryz.prog=true:=by kernel_rfl
theorem Tryz.mixed:Tryz.prog.follows .mixedOrders=true:=by kernel_rfl
def prim:FuncId->Option za9:=fun g=>bif Nat.beq 146 g then some (zii (some 5)) else(fun g=>bif Nat.beq 138 g then some zkZ else(fun _=>none) g) g
theorem zr3:zl1 Tryz.prog 146 (zii (some 5)):=by
 have h:shOf Tryz.prog 115=some 5:=by kernel_rfl
 have k:=znn (P:=Tryz.prog) (f:=146) (c:=Tryz.f146.body.get (by kernel_rfl)) (t:=41) (e:=115) (by rw[h];exact⟨ztV,zqo,fun b n c i vb voff m vc cur t vs w hi hm hnc hr hl hvb hg hcs hvl h1 hvs h1v=>zsn b n c i vb voff m vc cur t vs w hi hm hnc hr hl hvb hg hcs hvl h1 hvs h1v (by kernel_rfl) (by kernel_rfl) (by kernel_rfl) (by rw[h];rfl)⟩) Tryz.func146 (by kernel_rfl) (by decide+kernel) (by kernel_rfl) (by kernel_rfl) (by kernel_rfl) (by kernel_rfl)
 rw[h] at k
 exact k
theorem ztL:zfr Tryz.prog prim:=zgl zr3 (zgl (znk Tryz.func138 (by kernel_rfl) (by kernel_rfl) (by kernel_rfl) (by kernel_rfl)) znl)
theorem sound:SoundO Tryz.prog (sem (find tab) prim):=zph Tryz.mixed (zrn zuK) ztL
def yes:Option (ARes × Heap)->Bool
 |some (.ret (.pv none (.bool true)),[])=>true
 |_=>false
theorem zuC{r:Option (ARes × Heap)}(h:yes r=true):r=some (.ret (.pv none (.bool true)),[]):=by
 unfold yes at h
 split at h
 ·rfl
 ·cases h
end Go.Proofs.YtiifblpdlphchaaGreatRR
namespace Go.Proofs.YtiifblpdlphchaaGreatRR
open Go.Am
noncomputable abbrev Z:=sem (find tab) prim
noncomputable abbrev S:=sem (find tab) prim .fn
noncomputable abbrev L:=sloop (find tab) prim

theorem zsw:∀(t:Tm) (hp:Heap) (r1 r2:Nat) (l:Nat),t.size<1000000000->l<1000000000->hp[r1]? =some (.box none (.pv none (.int .i64 ((l+1:Nat):Int))))->hp[r2]? =some (.box none (.func (.func 118) [] [.ptr r1 0,.ptr r2 0]))->
  S 118 [t.av,.ptr r1 0,.ptr r2 0] hp=some (.ret (.tuple []),hp.set r1 (.box none (.pv none (.int .i64 ((l+1 - t.size:Nat):Int))))):=by
 intro t
 induction t using Tm.zvu with
 |h t ih=>
  intro hp r1 r2 l ht hl h1 h2
  have hr1:=zbr h1
  have hr2:=zbr h2
  have hne:r1≠r2:=by
   rintro rfl
   rw[h1] at h2
   cases h2
  have hts:=t.size_eq
  have hlen:=Tm.zvt t.args
  refine zaE rfl rfl rfl rfl ?_
  have e1:∀y x,(hp.set r1 y++[x])[r1]? =some y:=fun y x=>by rw[zbR (by simpa using hr1)];simp[hr1]
  have e2:∀y x,(hp.set r1 y++[x])[r2]? =some (.box none (.func (.func 118) [] [.ptr r1 0,.ptr r2 0])):=fun y x=>by rw[zbR (by simpa using hr2),List.getElem?_set_ne hne,h2]
  have e3:∀y x,(hp.set r1 y++[x])[hp.length]? =some x:=fun y x=>by simp
  have e4:∀y x z,(hp.set r1 y++[x]).set r1 z=hp.set r1 z++[x]:=fun y x z=>by rw[zp0 (by simpa using hr1)];simp
  have e5:(↑(l+1) - 1:Int)=((l+1 - (1+Tm.sizes (t.args.take 0)):Nat):Int):=by simp[Tm.sizes]
  have w1:IntKind.i64.wrap ((l+1:Nat) - 1:Int)=((l+1 - (1+Tm.sizes (t.args.take 0)):Nat):Int):=by rw[zaR (by omega) (by omega),e5]
  simp -dsimp -implicitDefEqProofs only[go_sem,seval,↓reduceIte,Tm.av,zbR hr1,h1,zr1,zp0 hr1,w1]
  refine zdY (fun n st=>∃i:Nat,n=t.args.length - i/\i<=t.args.length/\st=⟨[(1,.ptr r1 0),(2,.ptr r2 0),(3,.ptr hp.length 0),(4,.pv none (.int .i64 i))],hp.set r1 (.box none (.pv none (.int .i64 ((l+1 - (1+Tm.sizes (t.args.take i)):Nat):Int))))++[.box (some 4) (.pv (some 4) t.pv)]⟩) ⟨0,rfl,Nat.zero_le _,?_⟩ ?_
  ·simp -dsimp -implicitDefEqProofs only[go_sem,seval,↓reduceIte]
   try rfl
  ·rintro n st ⟨i,hn,hi,rfl⟩
   by_cases h:i<t.args.length
   ·have hc:(i:Int)<(t.args.length:Int):=by omega
    obtain⟨u,hu⟩:∃u,t.args[i]? =some u:=⟨_,List.getElem?_eq_getElem h⟩
    have hst:=Tm.zvD hu
    have hum:=List.mem_of_getElem? hu
    have husz:=Tm.zvv hum
    by_cases h0:0<((l+1 - (1+Tm.sizes (t.args.take i)):Nat):Int)
    ·obtain⟨l',hl'⟩:∃l':Nat,l+1 - (1+Tm.sizes (t.args.take i))=l'+1:=⟨l+1 - (1+Tm.sizes (t.args.take i)) - 1,by omega⟩
     have hcall:=ih u hum (hp.set r1 (.box none (.pv none (.int .i64 ((l'+1:Nat):Int))))++[.box (some 4) (.pv (some 4) t.pv)]) r1 r2 l' (by omega) (by omega) (e1 _ _) (e2 _ _)
     rw[e4] at hcall
     have e6:l'+1 - u.size=l+1 - (1+Tm.sizes (t.args.take (i+1))):=by omega
     have w2:IntKind.i64.wrap ((i:Int)+1)=((i+1:Nat):Int):=by rw[zaR (by omega) (by omega)];omega
     rw[hl'] at h0 ⊢
     simp -dsimp -implicitDefEqProofs only[go_sem,seval,↓reduceIte,e1,e2,e3,e4,zag,Tm.pvs_len,hc,h0,zap (Tm.pvs_get hu),show AV.pv (some 4) u.pv=u.av from rfl,hcall,e6,w2]
     refine⟨t.args.length - (i+1),by omega,i+1,rfl,by omega,?_⟩
     rw[zcj (by simp)]
    ·simp -dsimp -implicitDefEqProofs only[go_sem,seval,↓reduceIte,e1,e2,e3,e4,zag,Tm.pvs_len,hc,h0]
     rw[List.take_left' (by simp)]
     have hle:Tm.sizes (t.args.take i)<=Tm.sizes t.args:=Tm.zvz _ _
     congr 5
     omega
   ·have hc:¬(i:Int)<(t.args.length:Int):=by omega
    obtain rfl:i=t.args.length:=by omega
    simp -dsimp -implicitDefEqProofs only[go_sem,seval,↓reduceIte,e1,e2,e3,e4,zag,Tm.pvs_len,hc]
    rw[List.take_left' (by simp),List.take_length,hts]

theorem zqM(t:Tm)(hp:Heap)(h:t.size<1000000000):S 86 [t.av] hp=some (.ret (.pv none (.int .i64 ((min t.size 2001:Nat):Int))),hp):=by
 refine zal rfl rfl rfl (zab [(some 4,t.pv)]) rfl ?_
 have hc:=zsw t [.box (some 4) (.pv (some 4) t.pv),.box none (.pv none (.int .i64 2001)),.box none (.func (.func 118) [] [.ptr 1 0,.ptr 2 0])] 1 2 2000 h (by omega) rfl rfl
 have w1:IntKind.i64.wrap (2001 - ((2000+1 - t.size:Nat):Int))=((min t.size 2001:Nat):Int):=by rw[zaR (by omega) (by omega)];omega
 simp only[Tm.av] at hc
 simp -dsimp -implicitDefEqProofs only[go_sem,seval,↓reduceIte,Tm.av,zjL (Nat.zero_le _),hc,w1]

theorem zsx(t:Tm)(Q:AExit->St->Prop)(h:∀r,Q .normal ⟨(1,.ptr 0 0)::(3,.pv none (.bool t.node))::r,[.box (some 4) (.pv (some 4) t.pv)]⟩):
  W Z L 0 c87k15 ⟨[(1,.ptr 0 0),(3,.pv none (.bool false)),(6,.pv none (.int .i64 t.kind))],[.box (some 4) (.pv (some 4) t.pv)]⟩ Q:=by
 (repeat' (first|(simp -dsimp -implicitDefEqProofs only[c87k15,go_sem,seval,↓reduceIte,zaq,za3,zar,zag,Tm.pvs_len, *])|(refine zaI (fun _=> ?_) (fun _=> ?_))))
 all_goals (simp -dsimp -implicitDefEqProofs only[Tm.node,go_sem,seval,↓reduceIte, *] at h;exact h _)

theorem zt4:∀(t:Tm) (hp:Heap),t.size<1000000000->S 87 [t.av] hp=some (.ret (.pv none (.bool t.fits)),hp):=by
 intro t
 induction t using Tm.zvu with
 |h t ih=>
  intro hp ht
  have hts:=t.size_eq
  have hlen:=Tm.zvt t.args
  refine zal rfl rfl rfl (zab [(some 4,t.pv)]) rfl ?_
  simp -dsimp -dsimp -implicitDefEqProofs only[go_sem,seval,↓reduceIte,zaq,za3,zar,zag,Tm.pvs_len]
  refine zsx t _ (fun r=> ?_)
  simp -dsimp -dsimp -implicitDefEqProofs only[go_sem,seval,↓reduceIte,zaq,za3,zar,zag,Tm.pvs_len]
  refine zdY (fun n st=>∃i:Nat,n=t.args.length - i/\i<=t.args.length/\st=⟨[(1,.ptr 0 0),(3,.pv none (.bool (t.node && Tm.fitsAll (t.args.take i)))),(4,.pv none (.int .i64 i))],[.box (some 4) (.pv (some 4) t.pv)]⟩) (n:=t.args.length) ⟨0,rfl,Nat.zero_le _,?_⟩ ?_
  ·simp -dsimp -implicitDefEqProofs only[go_sem,seval,↓reduceIte,Tm.fitsAll]
   try rfl
  ·rintro n st ⟨i,hn,hi,rfl⟩
   by_cases h:i<t.args.length
   ·have hc:(i:Int)<(t.args.length:Int):=by omega
    obtain⟨u,hu⟩:∃u,t.args[i]? =some u:=⟨_,List.getElem?_eq_getElem h⟩
    have hum:=List.mem_of_getElem? hu
    have husz:=Tm.zvv hum
    have hcall:=fun hp=>ih u hum hp (by omega)
    have e6:Tm.fitsAll (t.args.take (i+1))=(Tm.fitsAll (t.args.take i) && u.fits):=Tm.zvI hu
    have w2:IntKind.i64.wrap ((i:Int)+1)=((i+1:Nat):Int):=by rw[zaR (by omega) (by omega)];omega
    by_cases h0:(t.node && Tm.fitsAll (t.args.take i))=true
    ·simp -dsimp -dsimp -implicitDefEqProofs only[go_sem,seval,↓reduceIte,zag,Tm.pvs_len,hc,h0,zap (Tm.pvs_get hu),show AV.pv (some 4) u.pv=u.av from rfl,hcall,w2]
     refine⟨t.args.length - (i+1),by omega,i+1,rfl,by omega,?_⟩
     rw[e6,<-Bool.and_assoc,h0,Bool.true_and]
    ·simp -dsimp -implicitDefEqProofs only[go_sem,seval,↓reduceIte,zag,Tm.pvs_len,hc,h0]
     rw[Tm.zvB]
     have hp:Tm.fitsAll t.args=(Tm.fitsAll (t.args.take i) && Tm.fitsAll (t.args.drop i)):=by rw[<-Tm.zvE,List.take_append_drop]
     rw[hp,<-Bool.and_assoc,Bool.eq_false_iff.2 h0]
     rfl
   ·have hc:¬(i:Int)<(t.args.length:Int):=by omega
    obtain rfl:i=t.args.length:=by omega
    simp -dsimp -implicitDefEqProofs only[go_sem,seval,↓reduceIte,zag,Tm.pvs_len,hc]
    rw[Tm.zvB,List.take_length]

theorem zbY(t:Tm)(hp:Heap)(h:t.size<1000000000):S 43 [t.av] hp=some (.ret (.pv none (.bool t.valid)),hp):=by
 refine zal rfl rfl rfl (zab [(some 4,t.pv)]) rfl ?_
 have h1:=fun hp=>zqM t hp h
 have h2:=fun hp=>zt4 t hp h
 unfold Tm.valid
 simp only[Tm.av] at h1 h2
 by_cases hs:t.size<=2000
 ·have hc:((min t.size 2001:Nat):Int)<=2000:=by omega
  (repeat' (first|(simp -dsimp -implicitDefEqProofs only[go_sem,seval,↓reduceIte,Tm.av, *])|(refine zaI (fun _=> ?_) (fun _=> ?_))))
 ·have hc:¬((min t.size 2001:Nat):Int)<=2000:=by omega
  (repeat' (first|(simp -dsimp -implicitDefEqProofs only[go_sem,seval,↓reduceIte,Tm.av, *])|(refine zaI (fun _=> ?_) (fun _=> ?_))))

theorem zqN:∀(t:Tm) (hp:Heap) (m:Nat),t.size<1000000000->m<1000000000->S 58 [t.av,.pv none (.int .i64 ((m+1:Nat):Int))] hp=some (.ret (.pv none (.int .i64 ((min t.size (m+1):Nat):Int))),hp):=by
 intro t
 induction t using Tm.zvu with
 |h t ih=>
  intro hp m ht hm
  have hts:=t.size_eq
  have hlen:=Tm.zvt t.args
  refine zal rfl rfl rfl (zab [(some 4,t.pv),(none,.int .i64 ((m+1:Nat):Int))]) rfl ?_
  simp -dsimp -implicitDefEqProofs only[go_sem,seval,↓reduceIte,zag,Tm.pvs_len]
  refine zdY (fun n st=>∃i:Nat,n=t.args.length - i/\i<=t.args.length/\st=⟨[(1,.pv none (.int .i64 ((m+1:Nat):Int))),(2,.ptr 0 0),(5,.pv none (.int .i64 ((min (1+Tm.sizes (t.args.take i)) (m+1):Nat):Int))),(6,.pv none (.int .i64 i))],[.box (some 4) (.pv (some 4) t.pv)]⟩) (n:=t.args.length) ⟨0,rfl,Nat.zero_le _,?_⟩ ?_
  ·simp -dsimp -implicitDefEqProofs only[go_sem,seval,↓reduceIte]
   rw[show min (1+Tm.sizes []) (m+1)=1 by simp[Tm.sizes]]
   rfl
  ·rintro n st ⟨i,hn,hi,rfl⟩
   by_cases h:i<t.args.length
   ·have hc:(i:Int)<(t.args.length:Int):=by omega
    obtain⟨u,hu⟩:∃u,t.args[i]? =some u:=⟨_,List.getElem?_eq_getElem h⟩
    have hst:=Tm.zvD hu
    have hum:=List.mem_of_getElem? hu
    have husz:=Tm.zvv hum
    have w2:IntKind.i64.wrap ((i:Int)+1)=((i+1:Nat):Int):=by rw[zaR (by omega) (by omega)];omega
    by_cases h0:((min (1+Tm.sizes (t.args.take i)) (m+1):Nat):Int)<((m+1:Nat):Int)
    ·obtain⟨m',hm'⟩:∃m':Nat,m+1 - min (1+Tm.sizes (t.args.take i)) (m+1)=m'+1:=⟨m - min (1+Tm.sizes (t.args.take i)) (m+1),by omega⟩
     have w3:IntKind.i64.wrap (((m+1:Nat):Int) - ((min (1+Tm.sizes (t.args.take i)) (m+1):Nat):Int))=((m'+1:Nat):Int):=by rw[zaR (by omega) (by omega)];omega
     have w4:IntKind.i64.wrap (((min (1+Tm.sizes (t.args.take i)) (m+1):Nat):Int)+((min u.size (m'+1):Nat):Int))=((min (1+Tm.sizes (t.args.take (i+1))) (m+1):Nat):Int):=by rw[zaR (by omega) (by omega)];omega
     have hcall:=fun hp=>ih u hum hp m' (by omega) (by omega)
     simp -dsimp -implicitDefEqProofs only[go_sem,seval,↓reduceIte,zag,Tm.pvs_len,hc,h0,zap (Tm.pvs_get hu),show AV.pv (some 4) u.pv=u.av from rfl,hcall,w2,w3,w4]
     exact⟨t.args.length - (i+1),by omega,i+1,rfl,by omega,rfl⟩
    ·simp -dsimp -implicitDefEqProofs only[go_sem,seval,↓reduceIte,zag,Tm.pvs_len,hc,h0]
     have hle:Tm.sizes (t.args.take i)<=Tm.sizes t.args:=Tm.zvz _ _
     congr 3
     omega
   ·have hc:¬(i:Int)<(t.args.length:Int):=by omega
    obtain rfl:i=t.args.length:=by omega
    simp -dsimp -implicitDefEqProofs only[go_sem,seval,↓reduceIte,zag,Tm.pvs_len,hc]
    rw[List.take_length,hts]

theorem zmF(t:Tm)(hp:Heap)(h:t.size<1000000000):S 24 [t.av] hp=some (.ret (.pv none (.int .i64 ((min t.size 2001:Nat):Int))),hp):=by
 refine zal rfl rfl rfl (zab [(some 4,t.pv)]) rfl ?_
 have h1:=fun hp=>zqN t hp 2000 h (by omega)
 simp only[Tm.av] at h1
 have e:(((2000+1:Nat):Int))=2001:=rfl
 rw[e] at h1
 (repeat' (first|(simp -dsimp -implicitDefEqProofs only[go_sem,seval,↓reduceIte, *])|(refine zaI (fun _=> ?_) (fun _=> ?_))))

theorem zsy(t:Tm)(hp:Heap):S 111 [t.av] hp=some (.ret (.pv none (.bool t.node)),hp):=by
 refine zal rfl rfl rfl (zab [(some 4,t.pv)]) rfl ?_
 (repeat' (first|(simp -dsimp -implicitDefEqProofs only[go_sem,seval,↓reduceIte,zaq,za3,zar,zag,Tm.pvs_len, *])|(refine zaI (fun _=> ?_) (fun _=> ?_))))
 all_goals (simp only[Tm.node,show(0<(t.args.length:Int))=(1<=(t.args.length:Int)) from propext (by omega), *,Int.reduceEq,if_true,if_false,decide_true,decide_false,Bool.true_and,Bool.false_and,Bool.and_true])

theorem zqO:∀(t:Tm) (hp:Heap),t.size<1000000000->S 57 [t.av] hp=some (.ret (.pv none (.bool t.fits)),hp):=by
 intro t
 induction t using Tm.zvu with
 |h t ih=>
  intro hp ht
  have hts:=t.size_eq
  have hlen:=Tm.zvt t.args
  refine zal rfl rfl rfl (zab [(some 4,t.pv)]) rfl ?_
  have hnode:=zsy t
  simp only[Tm.av] at hnode
  by_cases hn:t.node=true
  ·rw[hn] at hnode
   simp -dsimp -implicitDefEqProofs only[go_sem,seval,↓reduceIte,hnode,zag,Tm.pvs_len]
   refine zdY (fun n st=>∃i:Nat,n=t.args.length - i/\i<=t.args.length/\Tm.fitsAll (t.args.take i)=true/\st=⟨[(1,.ptr 0 0),(3,.pv none (.int .i64 i))],[.box (some 4) (.pv (some 4) t.pv)]⟩) (n:=t.args.length) ⟨0,rfl,Nat.zero_le _,rfl,?_⟩ ?_
   ·simp -dsimp -implicitDefEqProofs only[go_sem,seval,↓reduceIte]
    try rfl
   ·rintro n st ⟨i,hn',hi,hf,rfl⟩
    by_cases h:i<t.args.length
    ·have hc:(i:Int)<(t.args.length:Int):=by omega
     obtain⟨u,hu⟩:∃u,t.args[i]? =some u:=⟨_,List.getElem?_eq_getElem h⟩
     have hum:=List.mem_of_getElem? hu
     have husz:=Tm.zvv hum
     have hcall:=fun hp=>ih u hum hp (by omega)
     have e6:Tm.fitsAll (t.args.take (i+1))=(Tm.fitsAll (t.args.take i) && u.fits):=Tm.zvI hu
     have w2:IntKind.i64.wrap ((i:Int)+1)=((i+1:Nat):Int):=by rw[zaR (by omega) (by omega)];omega
     by_cases h0:u.fits=true
     ·simp -dsimp -implicitDefEqProofs only[go_sem,seval,↓reduceIte,zag,Tm.pvs_len,hc,h0,zap (Tm.pvs_get hu),show AV.pv (some 4) u.pv=u.av from rfl,hcall,w2]
      exact⟨t.args.length - (i+1),by omega,i+1,rfl,by omega,by rw[e6,hf,h0];rfl,rfl⟩
     ·rw[Bool.not_eq_true] at h0
      simp -dsimp -implicitDefEqProofs only[go_sem,seval,↓reduceIte,zag,Tm.pvs_len,hc,h0,zap (Tm.pvs_get hu),show AV.pv (some 4) u.pv=u.av from rfl,hcall,w2]
      rw[show t.fits=false from Bool.eq_false_iff.2 fun h=>by rw[Tm.zvw h hum] at h0;cases h0]
    ·have hc:¬(i:Int)<(t.args.length:Int):=by omega
     obtain rfl:i=t.args.length:=by omega
     rw[List.take_length] at hf
     simp -dsimp -implicitDefEqProofs only[go_sem,seval,↓reduceIte,zag,Tm.pvs_len,hc]
     rw[Tm.zvB,hn,hf]
     rfl
  ·rw[Bool.not_eq_true] at hn
   rw[hn] at hnode
   simp -dsimp -implicitDefEqProofs only[go_sem,seval,↓reduceIte,hnode,zag,Tm.pvs_len]
   rw[Tm.zvB,hn]
   rfl

theorem zb4(t:Tm)(hp:Heap)(h:t.size<1000000000):S 23 [t.av] hp=some (.ret (.pv none (.bool t.valid)),hp):=by
 refine zal rfl rfl rfl (zab [(some 4,t.pv)]) rfl ?_
 have h1:=fun hp=>zmF t hp h
 have h2:=fun hp=>zqO t hp h
 unfold Tm.valid
 simp only[Tm.av] at h1 h2
 by_cases hs:t.size<=2000
 ·have hc:((min t.size 2001:Nat):Int)<=2000:=by omega
  (repeat' (first|(simp -dsimp -implicitDefEqProofs only[go_sem,seval,↓reduceIte,Tm.av, *])|(refine zaI (fun _=> ?_) (fun _=> ?_))))
 ·have hc:¬((min t.size 2001:Nat):Int)<=2000:=by omega
  (repeat' (first|(simp -dsimp -implicitDefEqProofs only[go_sem,seval,↓reduceIte,Tm.av, *])|(refine zaI (fun _=> ?_) (fun _=> ?_))))
end Go.Proofs.YtiifblpdlphchaaGreatRR
namespace Go.Proofs.YtiifblpdlphchaaGreatRR
open Go.Am
theorem zqJ:∀(a b:Tm) (hp:Heap),a.size<1000000000->S 61 [a.av,b.av] hp=some (.ret (.pv none (.bool (decide (a.cmp b=0)))),hp):=by
 intro a
 induction a using Tm.zvu with
 |h a ih=>
  intro b hp ha
  have hts:=a.size_eq
  have hlen:=Tm.zvt a.args
  refine zal rfl rfl rfl (zab [(some 4,a.pv),(some 4,b.pv)]) rfl ?_
  by_cases hall:a.kind=b.kind/\a.n=b.n/\a.name=b.name/\a.args.length=b.args.length
  ·obtain⟨h1,h2,h3,h4⟩:=hall
   have hz:a.cmp b=Tm.cmps a.args b.args:=by
    rw[Tm.zvU,h1,h2,h3,h4,zcR,zcR,zcR,cb_zero.2 rfl]
    rfl
   rw[hz]
   simp -dsimp -implicitDefEqProofs only[c61b12,go_sem,seval,↓reduceIte,zaq,za3,zar,zag,Tm.pvs_len,h1,h2,h3,h4]
   refine zdY (fun n st=>∃i:Nat,n=a.args.length - i/\i<=a.args.length/\Tm.cmps a.args b.args=Tm.cmps (a.args.drop i) (b.args.drop i)/\st=⟨[(2,.ptr 0 0),(3,.ptr 1 0),(5,.pv none (.int .i64 i))],[.box (some 4) (.pv (some 4) a.pv),.box (some 4) (.pv (some 4) b.pv)]⟩) (n:=a.args.length) ⟨0,rfl,Nat.zero_le _,rfl,?_⟩ ?_
   ·simp -dsimp -implicitDefEqProofs only[go_sem,seval,↓reduceIte]
    try rfl
   ·rintro n st ⟨i,hn,hi,he,rfl⟩
    by_cases h:i<a.args.length
    ·have hc:(i:Int)<(a.args.length:Int):=by omega
     obtain⟨u,hu⟩:∃u,a.args[i]? =some u:=⟨_,List.getElem?_eq_getElem h⟩
     obtain⟨w,hw⟩:∃w,b.args[i]? =some w:=⟨_,List.getElem?_eq_getElem (by omega)⟩
     have hum:=List.mem_of_getElem? hu
     have husz:=Tm.zvv hum
     have hcall:=fun hp=>ih u hum w hp (by omega)
     simp only[Tm.av] at hcall
     have w2:IntKind.i64.wrap ((i:Int)+1)=((i+1:Nat):Int):=by rw[zaR (by omega) (by omega)];omega
     rw[Tm.zvO hu hw] at he
     by_cases h0:u.cmp w=0
     ·rw[h0,zhn] at he
      simp -dsimp -implicitDefEqProofs only[c61b12,go_sem,seval,↓reduceIte,zag,Tm.pvs_len,hc,zap (Tm.pvs_get hu),zap (Tm.pvs_get hw),hcall,w2,h0]
      exact⟨a.args.length - (i+1),by omega,i+1,rfl,by omega,he,rfl⟩
     ·rw[zl4 h0] at he
      simp -dsimp -implicitDefEqProofs only[c61b12,go_sem,seval,↓reduceIte,zag,Tm.pvs_len,hc,zap (Tm.pvs_get hu),zap (Tm.pvs_get hw),hcall,w2,h0,he]
    ·have hc:¬(i:Int)<(a.args.length:Int):=by omega
     obtain rfl:i=a.args.length:=by omega
     rw[List.drop_length,Tm.zvG] at he
     simp -dsimp -implicitDefEqProofs only[c61b12,go_sem,seval,↓reduceIte,zag,Tm.pvs_len,hc,he]
  ·have hz:¬a.cmp b=0:=fun h=>hall (by rw[Tm.cmp_zero.1 h];exact⟨rfl,rfl,rfl,rfl⟩)
   replace hall:=Kept.mk hall
   replace hts:=Kept.mk hts
   clear ih
   (repeat' (first|(simp -dsimp -implicitDefEqProofs only[go_sem,seval,↓reduceIte,zaq,za3,zar,zag,Tm.pvs_len, *])|(refine zaI (fun _=> ?_) (fun _=> ?_))))
   exact absurd ⟨‹_›,‹_›,‹_›,by omega⟩ hall.out

def same(a b:Tm):Bool:=a.valid && (b.valid && decide (a.cmp b=0))
theorem zsv(a b:Tm)(hp:Heap)(ha:a.size<1000000000)(hb:b.size<1000000000):S 56 [a.av,b.av] hp=some (.ret (.pv none (.bool (same a b))),hp):=by
 refine zal rfl rfl rfl (zab [(some 4,a.pv),(some 4,b.pv)]) rfl ?_
 have h1:=fun hp=>zb4 a hp ha
 have h2:=fun hp=>zb4 b hp hb
 have h3:=fun hp=>zqJ a b hp ha
 simp only[Tm.av] at h1 h2 h3
 unfold same
 by_cases va:a.valid=true
 ·by_cases vb:b.valid=true
  ·(repeat' (first|(simp -dsimp -implicitDefEqProofs only[go_sem,seval,↓reduceIte, *])|(refine zaI (fun _=> ?_) (fun _=> ?_))))
  ·(repeat' (first|(simp -dsimp -implicitDefEqProofs only[go_sem,seval,↓reduceIte, *])|(refine zaI (fun _=> ?_) (fun _=> ?_))))
 ·(repeat' (first|(simp -dsimp -implicitDefEqProofs only[go_sem,seval,↓reduceIte, *])|(refine zaI (fun _=> ?_) (fun _=> ?_))))

theorem zqK:∀(a b:Tm) (hp:Heap),a.size<1000000000->S 91 [a.av,b.av] hp=some (.ret (.pv none (.bool (decide (a.cmp b=0)))),hp):=by
 intro a
 induction a using Tm.zvu with
 |h a ih=>
  intro b hp ha
  have hts:=a.size_eq
  have hlen:=Tm.zvt a.args
  refine zal rfl rfl rfl (zab [(some 4,a.pv),(some 4,b.pv)]) rfl ?_
  by_cases hall:a.kind=b.kind/\a.n=b.n/\a.name=b.name/\a.args.length=b.args.length
  ·obtain⟨h1,h2,h3,h4⟩:=hall
   have hz:a.cmp b=Tm.cmps a.args b.args:=by
    rw[Tm.zvU,h1,h2,h3,h4,zcR,zcR,zcR,cb_zero.2 rfl]
    rfl
   rw[hz]
   simp -dsimp -implicitDefEqProofs only[c91b13,go_sem,seval,↓reduceIte,zaq,za3,zar,zag,Tm.pvs_len,h1,h2,h3,h4]
   have hbl:(b.args.length:Int)=(a.args.length:Int):=by rw[h4]
   refine zdn (α:=Unit) a.args.length (fun i _=>Tm.cmps a.args b.args=Tm.cmps (a.args.drop i) (b.args.drop i)) (fun i _=>⟨[(3,.ptr 1 0),(36,.pv none (.sl (some 4) (Tm.pvs a.args))),(37,.pv none (.int .i64 b.args.length)),(38,.pv none (.int .i64 i))],[.box (some 4) (.pv (some 4) a.pv),.box (some 4) (.pv (some 4) b.pv)]⟩) () ⟨rfl,rfl⟩ ?_ ?_
   ·rintro i - h he
    have hc:(i:Int)<(b.args.length:Int):=by omega
    obtain⟨u,hu⟩:∃u,a.args[i]? =some u:=⟨_,List.getElem?_eq_getElem h⟩
    obtain⟨w,hw⟩:∃w,b.args[i]? =some w:=⟨_,List.getElem?_eq_getElem (by omega)⟩
    have hum:=List.mem_of_getElem? hu
    have husz:=Tm.zvv hum
    have hcall:=fun hp=>ih u hum w hp (by omega)
    simp only[Tm.av] at hcall
    have w2:IntKind.i64.wrap ((i:Int)+1)=((i+1:Nat):Int):=by rw[zaR (by omega) (by omega)];omega
    rw[Tm.zvO hu hw] at he
    by_cases h0:u.cmp w=0
    ·rw[h0,zhn] at he
     simp -dsimp -implicitDefEqProofs only[c91b13,go_sem,seval,↓reduceIte,zag,Tm.pvs_len,hc,zap (Tm.pvs_get hu),zap (Tm.pvs_get hw),hcall,w2,h0]
     exact⟨(),he,rfl⟩
    ·rw[zl4 h0] at he
     simp -dsimp -implicitDefEqProofs only[c91b13,go_sem,seval,↓reduceIte,zag,Tm.pvs_len,hc,zap (Tm.pvs_get hu),zap (Tm.pvs_get hw),hcall,w2,h0,he]
   ·rintro - he
    have hc:¬(a.args.length:Int)<(b.args.length:Int):=by omega
    rw[List.drop_length,Tm.zvG] at he
    simp -dsimp -implicitDefEqProofs only[c91b13,go_sem,seval,↓reduceIte,zag,Tm.pvs_len,hc,he]
  ·have hz:¬a.cmp b=0:=fun h=>hall (by rw[Tm.cmp_zero.1 h];exact⟨rfl,rfl,rfl,rfl⟩)
   replace hall:=Kept.mk hall
   replace hts:=Kept.mk hts
   clear ih
   (repeat' (first|(simp -dsimp -implicitDefEqProofs only[go_sem,seval,↓reduceIte,zaq,za3,zar,zag,Tm.pvs_len, *])|(refine zaI (fun _=> ?_) (fun _=> ?_))))
   exact absurd ⟨‹_›,‹_›,‹_›,by omega⟩ hall.out
theorem zmE(a b:Tm)(hp:Heap)(ha:a.size<1000000000)(hb:b.size<1000000000):S 45 [a.av,b.av] hp=some (.ret (.pv none (.bool (same a b))),hp):=by
 refine zal rfl rfl rfl (zab [(some 4,a.pv),(some 4,b.pv)]) rfl ?_
 have h1:=fun hp=>zbY a hp ha
 have h2:=fun hp=>zbY b hp hb
 have h3:=fun hp=>zqK a b hp ha
 simp only[Tm.av] at h1 h2 h3
 unfold same
 by_cases va:a.valid=true
 ·by_cases vb:b.valid=true
  ·(repeat' (first|(simp -dsimp -implicitDefEqProofs only[go_sem,seval,↓reduceIte, *])|(refine zaI (fun _=> ?_) (fun _=> ?_))))
  ·(repeat' (first|(simp -dsimp -implicitDefEqProofs only[go_sem,seval,↓reduceIte, *])|(refine zaI (fun _=> ?_) (fun _=> ?_))))
 ·(repeat' (first|(simp -dsimp -implicitDefEqProofs only[go_sem,seval,↓reduceIte, *])|(refine zaI (fun _=> ?_) (fun _=> ?_))))
end Go.Proofs.YtiifblpdlphchaaGreatRR
namespace Go.Proofs.YtiifblpdlphchaaGreatRR
open Go.Am
theorem zah{α:Type}(l r:List α)(k:Nat):(l++r)[l.length+k]? =r[k]? :=by
 rw[List.getElem?_append_right (by omega)]
 congr 1
 omega
theorem zae{α:Type}(l r:List α):(l++r)[l.length]? =r[0]? :=zah l r 0
theorem zai{α:Type}(l r:List α)(k:Nat)(x:α):(l++r).set (l.length+k) x=l++r.set k x:=by
 rw[List.set_append_right _ _ (by omega)]
 congr 2
 omega
theorem zaf{α:Type}(l r:List α)(x:α):(l++r).set l.length x=l++r.set 0 x:=zai l r 0 x
theorem zr5(t:Tm)(hp:Heap):S 107 [t.av] hp=some (.ret t.av,hp):=by
 refine zal rfl rfl rfl (zab [(some 4,t.pv)]) rfl ?_
 (repeat' (first|(simp -dsimp -implicitDefEqProofs only[go_sem,seval,↓reduceIte,Tm.av, *])|(refine zaI (fun _=> ?_) (fun _=> ?_))))

theorem zaz(s s0:Sh)(r v o n:Nat)(l:List (Sh × AV))(hp:Heap):zao ((s,.sl s0 r v o n)::l) hp=zdc (s,.sl s0 r v o n) (zao l hp):=rfl
theorem zp9{hp:Heap}{r:Nat}(t:Tm)(h:hp[r]? =some (.arr (some 4) (Tm.pvs t.args) false)):Am.frozen t.av (.agg [(none,.pv none (.int .i64 t.kind)),(none,.pv none (.int .i64 t.n)),(none,.pv none (.str t.name)),(none,.sl (some 4) r t.args.length 0 t.args.length)]) hp:=by
 refine⟨hp.set r (.arr (some 4) (Tm.pvs t.args) true),?_⟩
 cases t with
 |mk k n s ts=>
  show(match AV.freeze (7+1) (.agg _) hp with|some (p,hp')=>some (AV.pv _ p,hp')|none=>none)=_
  have e:∀l hp,AV.freeze (7+1) (.agg l) hp=match AV.freeze.go 7 l hp with|some (ps,hp')=>some (.agg ps,hp')|none=>none:=fun _ _=>rfl
  simp only[Tm.args] at h
  simp[e,AV.freeze.go,AV.freeze,h,Tm.kind,Tm.n,Tm.name,Tm.args,Tm.pvs_len,Tm.av,Tm.pv]
  rfl

theorem zfa{Γ:Oracle}{b:Nat}{vs:List AV}{hp:Heap}{K:AV->Heap->Prop}{Kp:PV->Heap->Prop}(sh:Sh)(n:Nat):opK (aOp Γ b (.bslicen sh n) vs hp) K Kp=zb9 (za0 sh hp (vs.drop n)) (fun v hp'=>(vs.take n).all (zcm hp hp')=true/\K v hp'):=by
 simp only[aOp,zed]
 cases za0 sh hp (vs.drop n) with
 |none=>rfl
 |some r=>
  obtain⟨v,hp'⟩:=r
  simp only[opK,zb9]
  split
  ·rename_i h;split at h
   ·cases h;simp[*]
   ·cases h
  ·rename_i h;split at h <;> cases h
  ·rename_i h;split at h
   ·cases h
   ·simp[*]
def appH(n:Nat)(t:Tm)(i:Nat):Heap:=[.box (some 4) (.pv (some 4) t.pv),.box (some 4) (.agg [(none,.pv none (.int .i64 0)),(none,.pv none (.int .i64 0)),(none,.pv none (.str [])),(none,.sl (some 4) (n+2) 0 0 0)]),.arr (some 4) [] false,.box (some 4) (.agg [(none,.pv none (.int .i64 t.kind)),(none,.pv none (.int .i64 t.n)),(none,.pv none (.str t.name)),(none,.sl (some 4) (n+5) i 0 i)]),.arr (some 4) [] false,.arr (some 4) (Tm.pvs (t.args.take i)) false]
theorem zgt{hp hp':Heap}{r o q i:Nat}{t:Tm}(h:hp[r]? =some (.box (some 4) (.agg [(none,.pv none (.int .i64 t.kind)),(none,.pv none (.int .i64 t.n)),(none,.pv none (.str t.name)),(none,.sl (some 4) q i 0 i)])))(h':hp'[r]? =some (.box (some 4) (.agg [(none,.pv none (.int .i64 t.kind)),(none,.pv none (.int .i64 t.n)),(none,.pv none (.str t.name)),(none,.sl (some 4) q i 0 i)]))):zcm hp hp' (.ptr r o)=true:=by
 simp[zcm,h,h',AObj.beq,AV.beq,AV.beqc,PV.beq]
theorem zr6:∀(t:Tm) (hp:Heap),t.fits=true->t.size<1000000000->∃v e,S 92 [t.av,.pv none (.func (.func 107))] hp=some (.ret v,hp++e)/\v.shp=some 4/\v.plain=true/\(∀H,v.own H=(v,H))/\(∃e2,AV.freeze deep v (hp++e)=some (t.pv,hp++e2))/\∀H:Heap,(∀j,hp.length<=j->H[j]? =(hp++e)[j]?)->∃H2,AV.freeze deep v H=some (t.pv,H2):=by
 intro t
 induction t using Tm.zvu with
 |h t ih=>
  intro hp hf ht
  have hts:=t.size_eq
  have hlen:=Tm.zvt t.args
  have h1:=fun hp=>zr5 t hp
  simp only[Tm.av] at h1
  by_cases hk:t.kind=0
  ·refine⟨t.av,[],?_,rfl,rfl,fun _=>rfl,⟨[],rfl⟩,fun H _=>⟨H,rfl⟩⟩
   rw[List.append_nil]
   refine zaE rfl rfl rfl rfl ?_
   have hk':=eq_true hk
   simp -dsimp -implicitDefEqProofs only[go_sem,seval,↓reduceIte,Tm.av,zaq,hk',h1,List.append_assoc,zah,zae,zai,zaf,Nat.add_assoc,List.length_append]
   simp only[AV.refsIn,List.all_nil,if_true]
   exact List.take_left
  ·refine⟨.agg [(none,.pv none (.int .i64 t.kind)),(none,.pv none (.int .i64 t.n)),(none,.pv none (.str t.name)),(none,.sl (some 4) (hp.length+5) t.args.length 0 t.args.length)],
    [.box (some 4) (.pv (some 4) t.pv),.box (some 4) (.agg [(none,.pv none (.int .i64 t.kind)),(none,.pv none (.int .i64 t.n)),(none,.pv none (.str t.name)),(none,.sl (some 4) (hp.length+5) t.args.length 0 t.args.length)]),.arr (some 4) [] false,.box (some 4) (.agg [(none,.pv none (.int .i64 t.kind)),(none,.pv none (.int .i64 t.n)),(none,.pv none (.str t.name)),(none,.sl (some 4) (hp.length+5) t.args.length 0 t.args.length)]),.arr (some 4) [] false,.arr (some 4) (Tm.pvs t.args) false],?_,rfl,rfl,fun _=>rfl,?_,?_⟩
   ·refine zaE rfl rfl rfl rfl ?_
    have hk':=eq_false hk
    have hb:zaN [(none,.pv none (.int .i64 0)),(none,.pv none (.int .i64 0)),(none,.pv none (.str [])),(none,.tsl (some 4) [])] [0,1,2] [.pv none (.int .i64 t.kind),.pv none (.int .i64 t.n),.pv none (.str t.name)]=some (.agg [(none,.pv none (.int .i64 t.kind)),(none,.pv none (.int .i64 t.n)),(none,.pv none (.str t.name)),(none,.tsl (some 4) [])]):=rfl
    simp -dsimp -implicitDefEqProofs only[go_sem,seval,↓reduceIte,Tm.av,zaq,za3,zar,zag,hk',Tm.pvs_len,hb,zac (Nat.le_add_right _ _),List.append_assoc,zah,zae,zai,zaf,Nat.add_assoc,List.length_append]
    refine zdn (α:=Unit) t.args.length (fun _ _=>True) (fun i _=>⟨[(1,.pv none (.func (.func 107))),(4,.ptr (hp.length+1) 0),(5,.ptr (hp.length+3) 0),(22,.pv none (.sl (some 4) (Tm.pvs t.args))),(23,.pv none (.int .i64 t.args.length)),(24,.pv none (.int .i64 i))],hp++appH hp.length t i⟩) () ⟨trivial,rfl⟩ ?_ ?_
    ·rintro i - h -
     have hc:(i:Int)<(t.args.length:Int):=by omega
     obtain⟨u,hu⟩:∃u,t.args[i]? =some u:=⟨_,List.getElem?_eq_getElem h⟩
     have hum:=List.mem_of_getElem? hu
     have husz:=Tm.zvv hum
     obtain⟨v,e,hcall,hvs,_,_,⟨e2,hfz⟩,_⟩:=ih u hum (hp++(appH hp.length t i++[.box (some 4) (.pv (some 4) u.pv),.arr (some 4) [] false])) (Tm.zvw hf hum) (by omega)
     have w2:IntKind.i64.wrap ((i:Int)+1)=((i+1:Nat):Int):=by rw[zaR (by omega) (by omega)];omega
     have hl:(Tm.pvs (t.args.take i)).length=i:=by rw[Tm.pvs_len,List.length_take];omega
     have hlim:i+1<=lim:=by unfold lim;omega
     have hbs:za0 (some 4) (hp++(appH hp.length t i++[.box (some 4) (.pv (some 4) u.pv),.arr (some 4) [] false])++e) [v]=some (.tsl (some 4) [u.pv],hp++(appH hp.length t i++[.box (some 4) (.pv (some 4) u.pv),.arr (some 4) [] false])++e2):=by
      simp only[za0,zam,hfz,hvs,zaP,if_true]
     simp only[Tm.av] at hcall
     have hs1:∀e e':Heap,zcm (hp++(appH hp.length t i++e)) (hp++(appH hp.length t i++e')) (.ptr (hp.length+3) 3)=true:=fun e e'=>zgt (t:=t) (q:=hp.length+5) (i:=i) (by rw[zah];rfl) (by rw[zah];rfl)
     simp only[appH,List.append_assoc,List.cons_append,List.nil_append] at hcall hbs hs1
     simp -dsimp -implicitDefEqProofs only[go_sem,seval,↓reduceIte,appH,hc,zap (Tm.pvs_get hu),zfa,List.take_succ_cons,List.drop_succ_cons,List.all_cons,List.all_nil,hcall,hbs,hs1,w2,hl,hlim,Tm.zvx hu,zac (Nat.le_add_right _ _),zaO (Nat.le_add_right _ _),List.append_assoc,zah,zae,zai,zaf,Nat.add_assoc,List.length_append]
     refine⟨(),?_⟩
     rw[zcr 6 rfl rfl (by simp[AObj.refs,AV.ofComps,pures,AV.refsIn,AV.refsIn.go]) (by simp[AV.refsIn,AV.refsIn.gol])]
     rfl
    ·rintro - -
     have hc:¬(t.args.length:Int)<(t.args.length:Int):=by omega
     simp -dsimp -implicitDefEqProofs only[go_sem,seval,↓reduceIte,appH,hc,List.take_length,zaz,zac (Nat.le_add_right _ _),zaO (Nat.le_add_right _ _),List.append_assoc,zah,zae,zai,zaf,Nat.add_assoc,List.length_append]
     rw[if_neg (by simp[AV.refsIn,AV.refsIn.go])]
   ·have e:∀l hp,AV.freeze (7+1) (.agg l) hp=match AV.freeze.go 7 l hp with|some (ps,hp')=>some (.agg ps,hp')|none=>none:=fun _ _=>rfl
    cases t with
    |mk k n s ts=>
     refine⟨[.box (some 4) (.pv (some 4) (Tm.mk k n s ts).pv),.box (some 4) (.agg [(none,.pv none (.int .i64 k)),(none,.pv none (.int .i64 n)),(none,.pv none (.str s)),(none,.sl (some 4) (hp.length+5) ts.length 0 ts.length)]),.arr (some 4) [] false,.box (some 4) (.agg [(none,.pv none (.int .i64 k)),(none,.pv none (.int .i64 n)),(none,.pv none (.str s)),(none,.sl (some 4) (hp.length+5) ts.length 0 ts.length)]),.arr (some 4) [] false,.arr (some 4) (Tm.pvs ts) true],?_⟩
     show AV.freeze (7+1) (.agg _) _=_
     simp[e,AV.freeze.go,AV.freeze,zah,Tm.kind,Tm.n,Tm.name,Tm.args,Tm.pvs_len,Tm.pv]
   ·intro H hH
    have h5:=hH (hp.length+5) (by omega)
    rw[zah] at h5
    have e:∀l hp,AV.freeze (7+1) (.agg l) hp=match AV.freeze.go 7 l hp with|some (ps,hp')=>some (.agg ps,hp')|none=>none:=fun _ _=>rfl
    cases t with
    |mk k n s ts=>
     refine⟨H.set (hp.length+5) (.arr (some 4) (Tm.pvs ts) true),?_⟩
     show AV.freeze (7+1) (.agg _) _=_
     simp only[Tm.args,List.getElem?_cons_succ,List.getElem?_cons_zero] at h5
     simp[e,AV.freeze.go,AV.freeze,h5,Tm.kind,Tm.n,Tm.name,Tm.args,Tm.pvs_len,Tm.pv]
theorem Tm.valid_fits{t:Tm}(h:t.valid=true):t.fits=true:=by
 unfold Tm.valid at h
 simp only[Bool.and_eq_true] at h
 exact h.2
theorem zgu{t:Tm}{v:AV}{H H2:Heap}(h1:v.shp=some 4)(h2:v.plain=true)(h3:AV.freeze deep v H=some (t.pv,H2)):Am.frozen t.av v H:=by
 refine⟨H2,?_⟩
 cases v <;> first|(cases h2;done)|(simp only[AV.freezeRes,h3,h1];rfl)
theorem zeG(t:Tm)(hp:Heap)(hv:t.valid=true)(ht:t.size<1000000000):S 51 [t.av] hp=some (.ret t.av,hp):=by
 refine zal rfl rfl rfl (zab [(some 4,t.pv)]) rfl ?_
 have h1:=fun hp=>zbY t hp ht
 obtain⟨v,e,h2,h3,h4,h5,_,h6⟩:=zr6 t [.box (some 4) (.pv (some 4) t.pv),.box (some 4) (.agg [(none,.pv none (.int .i64 0)),(none,.pv none (.int .i64 0)),(none,.pv none (.str [])),(none,.sl (some 4) 2 0 0 0)]),.arr (some 4) [] false] (Tm.valid_fits hv) ht
 have hst:zaD (some 4) 0 ([.box (some 4) (.pv (some 4) t.pv),.box (some 4) (.agg [(none,.pv none (.int .i64 0)),(none,.pv none (.int .i64 0)),(none,.pv none (.str [])),(none,.sl (some 4) 2 0 0 0)]),.arr (some 4) [] false]++e) [.ptr 1 0,v]=some (.undef,[.box (some 4) (.pv (some 4) t.pv),.box (some 4) v,.arr (some 4) [] false]++e):=by
  simp[zaD,astore,h3,h4,h5]
 have hfz:=fun(H:Heap) (hH:∀j,3<=j->H[j]? =_)=>(h6 H hH).elim fun H2 k=>zgu h3 h4 k
 have hfr:Am.frozen t.av v ([.box (some 4) (.pv (some 4) t.pv),.box (some 4) v,.arr (some 4) [] false]++e):=by
  refine hfz _ fun j hj=> ?_
  match j,hj with
  |j+3,_=>rfl
 rw[hv] at h1
 simp only[Tm.av,List.cons_append,List.nil_append] at h1 h2 hst
 simp -dsimp -implicitDefEqProofs only[go_sem,seval,↓reduceIte,Tm.av,h1,h2,hst,zac (Nat.zero_le _)]
 exact hfr
end Go.Proofs.YtiifblpdlphchaaGreatRR
namespace Go.Proofs.YtiifblpdlphchaaGreatRR
open Go.Am
theorem zkb:∀(t:Tm) (hp:Heap),t.size<1000000000->S 63 [t.av] hp=some (.ret t.av,hp):=by
 intro t
 induction t using Tm.zvu with
 |h t ih=>
  intro hp ht
  have hts:=t.size_eq
  have hlen:=Tm.zvt t.args
  refine zal rfl rfl rfl (zab [(some 4,t.pv)]) rfl ?_
  have hb:zaN [(none,.pv none (.int .i64 0)),(none,.pv none (.int .i64 0)),(none,.pv none (.str [])),(none,.tsl (some 4) [])] [0,1,2] [.pv none (.int .i64 t.kind),.pv none (.int .i64 t.n),.pv none (.str t.name)]=some (.agg [(none,.pv none (.int .i64 t.kind)),(none,.pv none (.int .i64 t.n)),(none,.pv none (.str t.name)),(none,.tsl (some 4) [])]):=rfl
  simp -dsimp -implicitDefEqProofs only[go_sem,seval,↓reduceIte,Tm.av,zaq,za3,zar,zag,Tm.pvs_len,hb,zac (Nat.zero_le _)]
  refine zdn (α:=Unit) t.args.length (fun _ _=>True) (fun i _=>⟨[(1,.ptr 0 0),(2,.ptr 1 0),(3,.ptr 3 0),(4,.pv none (.int .i64 i))],appH 0 t i⟩) () ⟨trivial,rfl⟩ ?_ ?_
  ·rintro i - h -
   have hc:(i:Int)<(t.args.length:Int):=by omega
   obtain⟨u,hu⟩:∃u,t.args[i]? =some u:=⟨_,List.getElem?_eq_getElem h⟩
   have hum:=List.mem_of_getElem? hu
   have husz:=Tm.zvv hum
   have hcall:=fun hp=>ih u hum hp (by omega)
   simp only[Tm.av] at hcall
   have w2:IntKind.i64.wrap ((i:Int)+1)=((i+1:Nat):Int):=by rw[zaR (by omega) (by omega)];omega
   have hl:(Tm.pvs (t.args.take i)).length=i:=by rw[Tm.pvs_len,List.length_take];omega
   have hlim:i+1<=lim:=by unfold lim;omega
   simp -dsimp -implicitDefEqProofs only[go_sem,seval,↓reduceIte,appH,zag,Tm.pvs_len,hc,zap (Tm.pvs_get hu),hcall,w2,hl,hlim,Tm.zvx hu,zac (Nat.zero_le _),zaO (Nat.zero_le _)]
   exact⟨(),rfl⟩
  ·rintro - -
   have hc:¬(t.args.length:Int)<(t.args.length:Int):=by omega
   simp -dsimp -implicitDefEqProofs only[go_sem,seval,↓reduceIte,appH,zag,Tm.pvs_len,hc,List.take_length,zaz,zac (Nat.zero_le _),zaO (Nat.zero_le _)]
   exact zp9 t rfl
end Go.Proofs.YtiifblpdlphchaaGreatRR
namespace Go.Proofs.YtiifblpdlphchaaGreatRR
open Go.Am
abbrev B:=Int × Tm
def bdp(b:B):PV:=.agg [(none,.int .i64 b.1),(some 4,b.2.pv)]
def bds(l:List B):List PV:=l.map bdp
theorem ztM(l:List B):(bds l).length=l.length:=by simp[bds]
def Srt'(l:List B):Prop:=l.Pairwise (fun a b=>a.1<b.1)
def lbB(l:List B)(v:Int):Nat:=(l.takeWhile (fun b=>decide (b.1<v))).length
def fndB(l:List B)(v:Int):Bool:=match l[lbB l v]? with
 |some b=>decide (b.1=v)
 |none=>false
theorem ziu{v:Int}:∀{l:List B},Srt' l->∀{k:Nat} {x:B},l[k]? =some x->(x.1<v↔k<lbB l v)
 |[],_,k,x,h=>by simp at h
 |y::r,hs,k,x,h=>by
  obtain⟨h1,h2⟩:=List.pairwise_cons.1 hs
  unfold lbB
  by_cases hy:y.1<v
  ·rw[List.takeWhile_cons_of_pos (by simpa using hy)]
   cases k with
   |zero=>simp at h;subst h;simp[hy]
   |succ k=>
    have:=ziu (v:=v) h2 (k:=k) (x:=x) (by simpa using h)
    rw[this]
    simp[lbB]
  ·rw[List.takeWhile_cons_of_neg (by simpa using hy)]
   cases k with
   |zero=>simp at h;subst h;simp[hy]
   |succ k=>
    have hm:x∈r:=List.mem_of_getElem? (by simpa using h)
    have:=h1 x hm
    simp
    omega
def IsB(s:AV)(hp:Heap)(l:List B):Prop:=(s=.tsl (some 5) []/\l=[])\/∃r,s=.sl (some 5) r l.length 0 l.length/\hp[r]? =some (.arr (some 5) (bds l) false)
theorem IsB.freeze{s:AV}{hp:Heap}{l:List B}(h:IsB s hp l):∃hp1,AV.freeze deep s hp=some (.sl (some 5) (bds l),hp1)/\s.shp=none/\s.plain=true:=by
 rcases h with⟨rfl,rfl⟩|⟨r,rfl,h⟩
 ·exact⟨hp,rfl,rfl,rfl⟩
 ·exact⟨hp.set r (.arr (some 5) (bds l) true),by simp[AV.freeze,deep,h,ztM],rfl,rfl⟩
end Go.Proofs.YtiifblpdlphchaaGreatRR
namespace Go.Proofs.YtiifblpdlphchaaGreatRR
open Go.Am
def insB(l:List B)(v:Int)(t:Tm):List B:=l.take (lbB l v)++[(v,t)]++l.drop (lbB l v)
def Pres(s:AV)(hp hp':Heap):Prop:=hp.length<=hp'.length/\∀(i:Nat) (x:AObj),hp[i]? =some x->(∀v o n,s≠.sl (some 5) i v o n)->hp'[i]? =some x
theorem Pres.refl(s:AV)(hp:Heap):Pres s hp hp:=⟨Nat.le_refl _,fun _ _ h _=>h⟩
theorem IsB.more{s:AV}{hp:Heap}{l:List B}(h:IsB s hp l)(e:Heap):IsB s (hp++e) l:=by
 rcases h with h|⟨r,h1,h2⟩
 ·exact .inl h
 ·exact .inr ⟨r,h1,by rw[List.getElem?_append_left (zbr h2)];exact h2⟩
theorem IsB.not_box{s:AV}{hp:Heap}{l:List B}(h:IsB s hp l){i:Nat}{sh:Sh}{v:AV}(hi:hp[i]? =some (.box sh v)):∀v o n,s≠.sl (some 5) i v o n:=by
 rcases h with⟨rfl,_⟩|⟨r,rfl,h2⟩
 ·intro v o n e;cases e
 ·intro v o n e;cases e;rw[hi] at h2;cases h2
def Own(s:AV)(hp:Heap)(s':AV):Prop:=∀r v o n,s'=.sl (some 5) r v o n->(∃v o n,s=.sl (some 5) r v o n)\/hp.length<=r
theorem Own.refl(s:AV)(hp:Heap):Own s hp s:=fun r v o n h=>.inl ⟨v,o,n,h⟩
theorem Own.trans{s s1 s2:AV}{hp hp1:Heap}(h1:Own s hp s1)(hl:hp.length<=hp1.length)(h2:Own s1 hp1 s2):Own s hp s2:=fun r v o n e=>by
 rcases h2 r v o n e with⟨v',o',n',e'⟩|h
 ·exact h1 r v' o' n' e'
 ·exact .inr (by omega)
theorem Pres.trans{s s1:AV}{hp hp1 hp2:Heap}(h1:Pres s hp hp1)(ho:Own s hp s1)(h2:Pres s1 hp1 hp2):Pres s hp hp2:=
 ⟨Nat.le_trans h1.1 h2.1,fun i x hx hne=>h2.2 i x (h1.2 i x hx hne) fun v o n e=>by
  rcases ho i v o n e with⟨v',o',n',e'⟩|h
  ·exact hne v' o' n' e'
  ·have:=zbr hx;omega⟩
theorem Pres.take{s:AV}{hp hp1:Heap}{n:Nat}(h:Pres s hp hp1)(hn:hp.length<=n):Pres s hp (hp1.take n):=
 ⟨by rw[List.length_take];have:=h.1;omega,fun i x hx hne=>by
  have:=zbr hx
  rw[List.getElem?_take,if_pos (by omega)]
  exact h.2 i x hx hne⟩
theorem IsB.take{s:AV}{hp:Heap}{l:List B}{n:Nat}(h:IsB s hp l)(hr:∀q∈s.refsIn,q<n):IsB s (hp.take n) l:=by
 rcases h with h|⟨r,rfl,h2⟩
 ·exact .inl h
 ·have:r<n:=hr r (by simp[AV.refsIn])
  exact .inr ⟨r,rfl,by rw[List.getElem?_take,if_pos this];exact h2⟩
theorem ziI(n b:Nat)(fr:Fr)(hp:Heap):collect n b fr hp=hp\/(collect n b fr hp=hp.take n/\∀x∈fr,∀q∈x.2.refsIn,q<n):=by
 unfold collect
 split
 ·rename_i h
  rw[Bool.and_eq_true,List.all_eq_true] at h
  exact .inr ⟨rfl,fun x hx q hq=>by simpa using List.all_eq_true.1 (h.1 x hx) q hq⟩
 ·exact .inl rfl
def Good(l:List B):Prop:=Srt' l/\∀b∈l,b.2.valid=true/\b.2.size<1000000000
theorem ziJ:∀t:Tm,PV.beq t.pv t.pv=true:=by
 intro t
 induction t using Tm.zvu with
 |h t ih=>
  cases t with
  |mk k n s ts=>
   have:∀l:List Tm,(∀u∈l,PV.beq u.pv u.pv=true)->PV.beqs (Tm.pvs l) (Tm.pvs l)=true:=by
    intro l
    induction l with
    |nil=>intro _;rfl
    |cons x r ihr=>intro h;simp only[Tm.pvs,PV.beqs,h x (by simp),ihr (fun u hu=>h u (by simp[hu])),Bool.and_self]
   simp[Tm.pv,PV.beq,PV.beqc,this ts ih]
theorem za8{t u:Tm}(h:t.valid=true)(hu:u∈t.args):u.valid=true:=by
 unfold Tm.valid at h ⊢
 simp only[Bool.and_eq_true,decide_eq_true_eq] at h ⊢
 have:=Tm.zvv hu
 exact⟨by omega,Tm.zvw h.2 hu⟩
theorem ziK(b:B)(r:List B)(v:Int):lbB (b::r) v=if b.1<v then lbB r v+1 else 0:=by
 unfold lbB
 split
 ·rename_i h;rw[List.takeWhile_cons_of_pos (by simpa using h)];rfl
 ·rename_i h;rw[List.takeWhile_cons_of_neg (by simpa using h)];rfl
theorem zqz(b:B)(r:List B)(v:Int):fndB (b::r) v=if b.1<v then fndB r v else decide (b.1=v):=by
 by_cases h:b.1<v
 ·simp only[fndB,ziK,h,if_true,List.getElem?_cons_succ]
 ·simp only[fndB,ziK,h,if_false,List.getElem?_cons_zero]
theorem zqA(b:B)(r:List B)(v:Int)(t:Tm):insB (b::r) v t=if b.1<v then b::insB r v t else(v,t)::b::r:=by
 unfold insB
 rw[ziK]
 split
 ·rw[List.take_succ_cons,List.drop_succ_cons];rfl
 ·rfl
theorem zeH{l:List B}{v:Int}{t:Tm}{x:B}(h:x∈insB l v t):x=(v,t)\/x∈l:=by
 unfold insB at h
 simp only[List.mem_append,List.mem_singleton] at h
 rcases h with(h|h)|h
 ·exact .inr (List.mem_of_mem_take h)
 ·exact .inl h
 ·exact .inr (List.mem_of_mem_drop h)
theorem zeI:∀{l:List B} {v:Int} {t:Tm},Srt' l->fndB l v=false->Srt' (insB l v t)
 |[],v,t,_,_=>by simp[insB,Srt']
 |b::r,v,t,hs,hf=>by
  obtain⟨h1,h2⟩:=List.pairwise_cons.1 hs
  rw[zqA]
  rw[zqz] at hf
  split
  ·rename_i hb
   rw[if_pos hb] at hf
   refine List.pairwise_cons.2 ⟨fun x hx=> ?_,zeI h2 hf⟩
   rcases zeH hx with rfl|hx
   ·exact hb
   ·exact h1 x hx
  ·rename_i hb
   rw[if_neg hb] at hf
   have hne:b.1≠v:=by simpa using hf
   refine List.pairwise_cons.2 ⟨fun x hx=> ?_,hs⟩
   rcases List.mem_cons.1 hx with rfl|hx
   ·show v<x.1;omega
   ·have:=h1 x hx
    show v<x.1
    omega
theorem zqB{l:List B}{v:Int}{t:Tm}(h:Good l)(hf:fndB l v=false)(hv:t.valid=true)(ht:t.size<1000000000):Good (insB l v t):=
 ⟨zeI h.1 hf,fun b hb=>by
  rcases zeH hb with rfl|hb
  ·exact⟨hv,ht⟩
  ·exact h.2 b hb⟩
theorem zgF{F:FuncId->Option AFn}{prim:FuncId->Option za9}{f:FuncId}{fn:AFn}{args:List AV}{hp:Heap}(P:AV->Heap->Prop)(hp0:prim f=none)(hf:F f=some fn)(hm:fn.heapMode=true)(hn:args.length=fn.nparams)
  (h:W (sem F prim) (sloop F prim) hp.length fn.code ⟨params 0 args,hp⟩ (endK fn.results (fun v' h'=>P v' (if v'.refsIn.all (fun q=>decide (q<hp.length))=true then h'.take hp.length else h'))))(hr:fn.rcv=none:=by rfl)(hmo:fn.more=[]:=by rfl):∃v hp',sem F prim .fn f args hp=some (.ret v,hp')/\P v hp':=by
 rw[zeA]
 unfold za5
 rw[hp0,hf]
 simp only[hr,hmo,Option.isSome_none,Bool.false_eq_true,if_false,hm,if_true,abody,hn,ne_eq,not_true_eq_false,if_false]
 unfold W at h
 split at h
 ·rename_i e st' he
  rw[he]
  cases e with
  |normal=>
   rw[zbl] at h
   cases hr:zas st' fn.results with
   |none=>rw[hr] at h;exact h.elim
   |some u=>rw[hr] at h;exact⟨_,_,by simp only[hr],h⟩
  |ret=>
   rw[zcf] at h
   cases hr:zas st' fn.results with
   |none=>rw[hr] at h;exact h.elim
   |some u=>rw[hr] at h;exact⟨_,_,by simp only[hr],h⟩
  |exit i=>exact h.elim
  |panic v=>exact h.elim
 ·exact h.elim
end Go.Proofs.YtiifblpdlphchaaGreatRR
namespace Go.Proofs.YtiifblpdlphchaaGreatRR
open Go.Am
end Go.Proofs.YtiifblpdlphchaaGreatRR
namespace Go.Proofs.YtiifblpdlphchaaGreatRR
open Go.Am
def CmpF(c:PV->PV->Int)(fv:AV)(D:PV->Prop)(hp:Heap)(r:Nat):Prop:=∃g fs cs,zaT fv=some (g,fs,cs)/\∀x y,D x->D y->∀A,S g (fs++[.pv (some 4) x,.pv (some 4) y]++cs) (hp.set r A)=some (.ret (.pv none (.int .i64 (c x y))),hp.set r A)

end Go.Proofs.YtiifblpdlphchaaGreatRR
namespace Go.Proofs.YtiifblpdlphchaaGreatRR
open Go.Am
end Go.Proofs.YtiifblpdlphchaaGreatRR
namespace Go.Proofs.YtiifblpdlphchaaGreatRR
open Go.Am
section
variable(c:PV->PV->Int) (hC:Cmp c) (fv:AV) (D:PV->Prop) (hp:Heap) (r:Nat) (hg:CmpF c fv D hp r) (hr:r<hp.length) (N:Nat) (hN':N<100000000)
include hC hg hr hN'
end
end Go.Proofs.YtiifblpdlphchaaGreatRR
namespace Go.Proofs.YtiifblpdlphchaaGreatRR
open Go.Am
end Go.Proofs.YtiifblpdlphchaaGreatRR
namespace Go.Proofs.YtiifblpdlphchaaGreatRR
open Go.Am
end Go.Proofs.YtiifblpdlphchaaGreatRR
namespace Go.Proofs.YtiifblpdlphchaaGreatRR
open Go.Am
structure IsL(v:AV)(hp:Heap)(l:List Tm):Prop where
 len:sLen [v]=some (.pv none (.int .i64 l.length))
 idx:∀(i:Nat) (u:Tm),l[i]? =some u->∃p,(∀(s:Sh) (k:IntKind),za2 (some 4) [v,.pv s (.int k i)]=some p)/\∀ext,aload (some 4) (hp++ext) p=some (.pv (some 4) u.pv)
 refs:∀q,q∈v.refsIn->q<hp.length
 frz:∃hp1:Heap,hp1.length=hp.length/\∀ext,zam [v] (hp++ext)=some ([(none,.sl (some 4) (Tm.pvs l))],hp1++ext)
theorem IsL.more{v:AV}{hp:Heap}{l:List Tm}(h:IsL v hp l)(e:Heap):IsL v (hp++e) l where
 len:=h.len
 idx:=fun i u hu=>by
  obtain⟨p,h1,h2⟩:=h.idx i u hu
  exact⟨p,h1,fun ext=>by rw[List.append_assoc];exact h2 _⟩
 refs:=fun q hq=>by have:=h.refs q hq;simp;omega
 frz:=by
  obtain⟨hp1,h1,h2⟩:=h.frz
  exact⟨hp1++e,by simp[h1],fun ext=>by rw[List.append_assoc,h2,List.append_assoc]⟩
def CmpG(c:PV->PV->Int)(g:FuncId)(D:PV->Prop):Prop:=∀x y,D x->D y->∀hp,S g [.pv (some 4) x,.pv (some 4) y] hp=some (.ret (.pv none (.int .i64 (c x y))),hp)
section
variable(c:PV->PV->Int) (hC:Cmp c) (g:FuncId) (D:PV->Prop) (hg:CmpG c g D)
include hC hg
end
def small(p:PV):Prop:=∃t:Tm,p=t.pv/\t.valid=true/\t.size<1000000000
end Go.Proofs.YtiifblpdlphchaaGreatRR
namespace Go.Proofs.YtiifblpdlphchaaGreatRR
open Go.Am
end Go.Proofs.YtiifblpdlphchaaGreatRR
namespace Go.Proofs.YtiifblpdlphchaaGreatRR
open Go.Am
end Go.Proofs.YtiifblpdlphchaaGreatRR
namespace Go.Proofs.YtiifblpdlphchaaGreatRR
open Go.Am
end Go.Proofs.YtiifblpdlphchaaGreatRR
namespace Go.Proofs.YtiifblpdlphchaaGreatRR
open Go.Am
def bo(l:List B)(v:Int)(t:Tm)(i:Nat):List B:=if lbB l v<i then(insB l v t).take (i+1) else l.take i
end Go.Proofs.YtiifblpdlphchaaGreatRR
namespace Go.Proofs.YtiifblpdlphchaaGreatRR
open Go.Am
theorem zlA{F:FuncId->Option AFn}{prim:FuncId->Option za9}{f:FuncId}{fn:AFn}{args:List AV}{ps:List (Sh × PV)}(P:AV->Prop)(hp0:prim f=none)(hf:F f=some fn)(hm:fn.heapMode=false)(hz:∀hp,zam args hp=some (ps,hp))(hn:(pvs ps).length=fn.nparams)
  (h:W (sem F prim) (sloop F prim) 0 fn.code ⟨params 0 (pvs ps),[]⟩ (endK fn.results (fun v hp=>∃v',Am.frozen v' v hp/\P v')))(hr:fn.rcv=none:=by rfl)(hmo:fn.more=[]:=by rfl):∃v,(∀hp,sem F prim .fn f args hp=some (.ret v,hp))/\P v:=by
 have key:∃v,P v/\W (sem F prim) (sloop F prim) 0 fn.code ⟨params 0 (pvs ps),[]⟩ (endK fn.results (Am.frozen v)):=by
  unfold W at h ⊢
  split at h
  ·rename_i e st' he
   cases e with
   |normal=>
    rw[zbl] at h
    cases hr:zas st' fn.results with
    |none=>rw[hr] at h;exact h.elim
    |some u=>rw[hr] at h;obtain⟨v',h1,h2⟩:=h;exact⟨v',h2,by simp only[he,zbl,hr];exact h1⟩
   |ret=>
    rw[zcf] at h
    cases hr:zas st' fn.results with
    |none=>rw[hr] at h;exact h.elim
    |some u=>rw[hr] at h;obtain⟨v',h1,h2⟩:=h;exact⟨v',h2,by simp only[he,zcf,hr];exact h1⟩
   |exit i=>exact h.elim
   |panic v=>exact h.elim
  ·exact h.elim
 obtain⟨v,h1,h2⟩:=key
 exact⟨v,fun hp=>zal hp0 hf hm (hz hp) hn h2 hr hmo,h1⟩
end Go.Proofs.YtiifblpdlphchaaGreatRR
namespace Go.Proofs.YtiifblpdlphchaaGreatRR
open Go.Am
def mk1(l:List B)(D:List Bool)(w:Int):Bool:= !fndB l w || D.getD (lbB l w) false
def sttl(l:List B)(D:List Bool)(os:List Int):Bool:=os.all (mk1 l D)
theorem zuO{l:List B}{v:Int}(h:fndB l v=true):lbB l v<l.length:=by
 unfold fndB at h
 split at h
 ·rename_i b hb;exact(List.getElem?_eq_some_iff.1 hb).1
 ·cases h
structure OKB(l:List B):Prop where
 good:Good l
 rng:∀b∈l,0<=b.1/\b.1<=1099511627776
 acyc:∃rk:Nat->Nat,∀(i:Nat) (b:B),l[i]? =some b->∀w∈b.2.occ,fndB l w=true->rk (lbB l w)<rk i
structure InvD(l:List B)(D:List Bool)(left:Nat):Prop where
 len:D.length=l.length
 cnt:D.count false=left
 rk:∃(rk:Nat->Nat) (c:Nat),∀(i:Nat) (b:B),D[i]? =some true->l[i]? =some b->rk i<c/\∀w∈b.2.occ,fndB l w=true->D[lbB l w]? =some true/\rk (lbB l w)<rk i
theorem zqE{D:List Bool}{i:Nat}(h:D[i]? =some false):(D.set i true).count false+1=D.count false:=by
 induction D generalizing i with
 |nil=>simp at h
 |cons x r ih=>
  cases i with
  |zero=>simp at h;subst h;simp
  |succ i=>
   have:=ih (i:=i) (by simpa using h)
   simp only[List.set_cons_succ,List.count_cons]
   omega
theorem InvD.mark{l:List B}{D:List Bool}{left i:Nat}{b:B}(h:InvD l D left)(hi:D[i]? =some false)(hb:l[i]? =some b)(hs:sttl l D b.2.occ=true):InvD l (D.set i true) (left - 1):=by
 obtain⟨h1,h2,rk,c,h3⟩:=h
 have hlt:=(List.getElem?_eq_some_iff.1 hi).1
 refine⟨by simp[h1],by have:=zqE hi;omega,fun j=>if j=i then c else rk j,c+1,fun j b' hj hb'=> ?_⟩
 by_cases e:j=i
 ·subst e
  rw[hb] at hb'
  cases hb'
  refine⟨by simp,fun w hw hf=> ?_⟩
  have hm:=List.all_eq_true.1 hs w hw
  have hd:D[lbB l w]? =some true:=by
   simp only[mk1,hf,Bool.not_true,Bool.false_or,List.getD_eq_getElem?_getD] at hm
   cases hx:D[lbB l w]? with
   |none=>rw[hx] at hm;cases hm
   |some d=>rw[hx] at hm;simp at hm;rw[hm]
  have hne:lbB l w≠j:=by intro e;rw[e,hi] at hd;cases hd
  obtain⟨x,hx⟩:∃x,l[lbB l w]? =some x:=⟨_,List.getElem?_eq_getElem (zuO hf)⟩
  obtain⟨k1,_⟩:=h3 _ x hd hx
  refine⟨by rw[List.getElem?_set_ne (Ne.symm hne)];exact hd,?_⟩
  simp only[if_neg hne,if_true]
  exact k1
 ·rw[List.getElem?_set_ne (Ne.symm e)] at hj
  obtain⟨k1,k2⟩:=h3 j b' hj hb'
  refine⟨by simp only[if_neg e];omega,fun w hw hf=> ?_⟩
  obtain⟨m1,m2⟩:=k2 w hw hf
  have hne:lbB l w≠i:=by intro e;rw[e,hi] at m1;cases m1
  refine⟨by rw[List.getElem?_set_ne (Ne.symm hne)];exact m1,?_⟩
  simp only[if_neg hne,if_neg e]
  exact m2
def WfAt(l:List B)(i:Nat):Prop:=∀b,l[i]? =some b->0<=b.1/\b.1<=1099511627776/\b.2.valid=true/\(0<i->∀c,l[i - 1]? =some c->c.1<b.1)
theorem OKB.wf{l:List B}(h:OKB l)(i:Nat):WfAt l i:=fun b hb=>by
 have hm:=List.mem_of_getElem? hb
 obtain⟨h1,h2⟩:=h.rng b hm
 refine⟨h1,h2,(h.good.2 b hm).1,fun hi c hc=> ?_⟩
 obtain⟨hlt,hb'⟩:=List.getElem?_eq_some_iff.1 hb
 obtain⟨hlt2,hc'⟩:=List.getElem?_eq_some_iff.1 hc
 have:=List.pairwise_iff_getElem.1 h.good.1 (i - 1) i hlt2 hlt (by omega)
 rw[hb',hc'] at this
 exact this
end Go.Proofs.YtiifblpdlphchaaGreatRR
namespace Go.Proofs.YtiifblpdlphchaaGreatRR
open Go.Am
mutual
def Tm.sub(f:Int->Tm):Tm->Tm
 | .mk k n s ts=>if k=0 then f n else .mk k n s (Tm.subs f ts)
def Tm.subs(f:Int->Tm):List Tm->List Tm
 |[]=>[]
 |t::r=>Tm.sub f t::Tm.subs f r
end
theorem Tm.zvR(f:Int->Tm):∀l:List Tm,Tm.subs f l=l.map (Tm.sub f)
 |[]=>rfl
 |t::r=>by rw[Tm.subs,Tm.zvR f r];rfl
theorem Tm.zvy(f:Int->Tm)(t:Tm):Tm.sub f t=if t.kind=0 then f t.n else .mk t.kind t.n t.name (t.args.map (Tm.sub f)):=by
 cases t with
 |mk k n s ts=>
  simp only[Tm.sub,Tm.kind,Tm.n,Tm.name,Tm.args,Tm.zvR]
  by_cases h:k=0 <;> simp[h]
mutual
def Tm.wt(f:Int->Nat):Tm->Nat
 | .mk k n _ ts=>1+(if k=0 then f n else Tm.wts f ts)
def Tm.wts(f:Int->Nat):List Tm->Nat
 |[]=>0
 |t::r=>Tm.wt f t+Tm.wts f r
end
theorem Tm.zvV(f:Int->Nat)(t:Tm):Tm.wt f t=1+(if t.kind=0 then f t.n else Tm.wts f t.args):=by
 cases t;rfl
theorem Tm.zvW{f:Int->Nat}:∀{l:List Tm} {t:Tm},t∈l->Tm.wt f t<=Tm.wts f l
 |[],_,h=>by cases h
 |x::r,t,h=>by
  rw[Tm.wts]
  rcases List.mem_cons.1 h with rfl|h
  ·omega
  ·have:=Tm.zvW (f:=f) h;omega
theorem Tm.zvS{l:List Tm}{u:Tm}(h:u∈l){w:Int}(hw:w∈u.occ):w∈Tm.occs l:=by
 induction l with
 |nil=>cases h
 |cons x r ih=>
  rw[Tm.occs]
  rcases List.mem_cons.1 h with rfl|h
  ·exact List.mem_append_left _ hw
  ·exact List.mem_append_right _ (ih h)
theorem Tm.zvJ{l:List Tm}{w:Int}(hw:w∈Tm.occs l):∃u∈l,w∈u.occ:=by
 induction l with
 |nil=>cases hw
 |cons x r ih=>
  rw[Tm.occs] at hw
  rcases List.mem_append.1 hw with h|h
  ·exact⟨x,List.mem_cons_self,h⟩
  ·obtain⟨u,hu,h⟩:=ih h
   exact⟨u,List.mem_cons_of_mem _ hu,h⟩
theorem Tm.zvM{t u:Tm}(hk:¬t.kind=0)(h:u∈t.args){w:Int}(hw:w∈u.occ):w∈t.occ:=by
 rw[Tm.occ_eq,if_neg hk]
 exact Tm.zvS h hw
theorem Tm.zvL{f g:Int->Tm}:∀t:Tm,(∀w∈t.occ,f w=g w)->Tm.sub f t=Tm.sub g t:=by
 intro t
 induction t using Tm.zvu with
 |h t ih=>
  intro h
  rw[Tm.zvy,Tm.zvy]
  by_cases hk:t.kind=0
  ·rw[if_pos hk,if_pos hk]
   exact h _ (by rw[Tm.occ_eq,if_pos hk];simp)
  ·rw[if_neg hk,if_neg hk]
   congr 1
   exact List.map_congr_left fun u hu=>ih u hu fun w hw=>h w (Tm.zvM hk hu hw)
theorem Tm.zvP{f g:Int->Nat}:∀l:List Tm,(∀u∈l,Tm.wt f u=Tm.wt g u)->Tm.wts f l=Tm.wts g l
 |[],_=>rfl
 |x::r,h=>by rw[Tm.wts,Tm.wts,h x List.mem_cons_self,Tm.zvP r fun u hu=>h u (List.mem_cons_of_mem _ hu)]
theorem Tm.zvT{f g:Int->Nat}:∀t:Tm,(∀w∈t.occ,f w=g w)->Tm.wt f t=Tm.wt g t:=by
 intro t
 induction t using Tm.zvu with
 |h t ih=>
  intro h
  rw[Tm.zvV,Tm.zvV]
  by_cases hk:t.kind=0
  ·rw[if_pos hk,if_pos hk,h _ (by rw[Tm.occ_eq,if_pos hk];simp)]
  ·rw[if_neg hk,if_neg hk]
   rw[Tm.zvP t.args fun u hu=>ih u hu fun w hw=>h w (Tm.zvM hk hu hw)]
def toB(l:List B)(v:Int):Tm:=match l[lbB l v]? with
 |some b=>b.2
 |none=>default
theorem zgH{l:List B}{v:Int}(h:fndB l v=true):l[lbB l v]? =some (v,toB l v):=by
 unfold fndB at h
 unfold toB
 cases e:l[lbB l v]? with
 |none=>rw[e] at h;cases h
 |some b=>
  rw[e] at h
  have:b.1=v:=by simpa using h
  rw[<-this]
def Acyc(l:List B):Prop:=∃r:Int->Nat,∀v,fndB l v=true->∀w∈(toB l v).occ,fndB l w=true->r w<r v
theorem zs1{l:List B}(hs:Srt' l){i:Nat}{b:B}(hb:l[i]? =some b):fndB l b.1=true/\lbB l b.1=i:=by
 have hlt:=(List.getElem?_eq_some_iff.1 hb).1
 have h1:¬i<lbB l b.1:=fun h=>by have:=(ziu (v:=b.1) hs hb).2 h;omega
 have h2:¬lbB l b.1<i:=fun h=>by
  obtain⟨c,hc⟩:∃c,l[lbB l b.1]? =some c:=⟨_,List.getElem?_eq_getElem (by omega)⟩
  have h3:c.1<b.1:=by
   obtain⟨l1,e1⟩:=List.getElem?_eq_some_iff.1 hc
   obtain⟨l2,e2⟩:=List.getElem?_eq_some_iff.1 hb
   have:=List.pairwise_iff_getElem.1 hs _ _ l1 l2 h
   rw[e1,e2] at this
   exact this
  have:=(ziu (v:=b.1) hs hc).1 h3
  omega
 have e:lbB l b.1=i:=by omega
 refine⟨?_,e⟩
 unfold fndB
 rw[e,hb]
 simp
theorem OKB.Acyc{l:List B}(h:OKB l):Acyc l:=by
 obtain⟨rk,hr⟩:=h.acyc
 refine⟨fun v=>rk (lbB l v),fun v hv w hw hf=> ?_⟩
 exact hr _ _ (zgH hv) w hw hf
theorem zuP{l:List B}(hG:Good l)(hr:∀b∈l,0<=b.1/\b.1<=1099511627776)(ha:Acyc l):OKB l:=by
 obtain⟨r,ha⟩:=ha
 refine⟨hG,hr,fun i=>match l[i]? with|some b=>r b.1|none=>0,fun i b hb w hw hf=> ?_⟩
 obtain⟨h1,h2⟩:=zs1 hG.1 hb
 have h3:=zgH h1
 rw[h2,hb] at h3
 have h4:toB l b.1=b.2:=by cases e:toB l b.1;rw[e] at h3;cases b;cases h3;rfl
 simp only[zgH hf,hb]
 exact ha b.1 h1 w (by rw[h4];exact hw) hf
theorem zhx{X:Type}{l:List B}(h:Acyc l)(u:Int->X)(s:(Int->X)->Tm->X)(cg:∀f g t,(∀w∈t.occ,f w=g w)->s f t=s g t):
  ∃f:Int->X,∀v,f v=if fndB l v=true then s f (toB l v) else u v:=by
 obtain⟨rk,ha⟩:=h
 obtain⟨it,h0,h1⟩:∃it:Nat->Int->X,(∀v,it 0 v=u v)/\∀n v,it (n+1) v=if fndB l v=true then s (it n) (toB l v) else u v:=
  ⟨fun n=>Nat.rec u (fun _ f v=>if fndB l v=true then s f (toB l v) else u v) n,fun _=>rfl,fun _ _=>rfl⟩
 have hu:∀n v,¬fndB l v=true->it n v=u v:=fun n v hv=>by
  cases n with
  |zero=>exact h0 v
  |succ n=>rw[h1,if_neg hv]
 have stab:∀k n m v,rk v=k->k<n->k<m->it n v=it m v:=by
  intro k
  induction k using Nat.strongRecOn with
  |_ k ih=>
   intro n m v hk hn hm
   by_cases hv:fndB l v=true
   ·obtain⟨n',rfl⟩:∃n',n=n'+1:=⟨n - 1,by omega⟩
    obtain⟨m',rfl⟩:∃m',m=m'+1:=⟨m - 1,by omega⟩
    rw[h1,h1,if_pos hv,if_pos hv]
    refine cg _ _ _ fun w hw=> ?_
    by_cases hf:fndB l w=true
    ·have:=ha v hv w hw hf
     exact ih (rk w) (by omega) n' m' w rfl (by omega) (by omega)
    ·rw[hu _ _ hf,hu _ _ hf]
   ·rw[hu _ _ hv,hu _ _ hv]
 refine⟨fun v=>it (rk v+1) v,fun v=> ?_⟩
 by_cases hv:fndB l v=true
 ·rw[if_pos hv]
  show it (rk v+1) v=_
  rw[h1,if_pos hv]
  refine cg _ _ _ fun w hw=> ?_
  by_cases hf:fndB l w=true
  ·have:=ha v hv w hw hf
   exact stab (rk w) _ _ w rfl (by omega) (by omega)
  ·rw[hu _ _ hf,hu _ _ hf]
 ·rw[if_neg hv]
  exact hu _ _ hv
def tvar(v:Int):Tm:=.mk 0 v [] []
open Classical in
noncomputable def rsv(l:List B):Int->Tm:=if h:Acyc l then Classical.choose (zhx h tvar Tm.sub fun _ _ t h=>Tm.zvL t h) else tvar
theorem zuQ{l:List B}(h:Acyc l)(v:Int):rsv l v=if fndB l v=true then Tm.sub (rsv l) (toB l v) else tvar v:=by
 unfold rsv
 rw[dif_pos h]
 exact Classical.choose_spec (zhx h tvar Tm.sub fun _ _ t h=>Tm.zvL t h) v
open Classical in
noncomputable def muv(l:List B):Int->Nat:=if h:Acyc l then Classical.choose (zhx h (fun _=>0) Tm.wt fun _ _ t h=>Tm.zvT t h) else fun _=>0
theorem zuR{l:List B}(h:Acyc l)(v:Int):muv l v=if fndB l v=true then Tm.wt (muv l) (toB l v) else 0:=by
 unfold muv
 rw[dif_pos h]
 exact Classical.choose_spec (zhx h (fun _=>0) Tm.wt fun _ _ t h=>Tm.zvT t h) v
noncomputable def rs(l:List B)(t:Tm):Tm:=Tm.sub (rsv l) t
noncomputable def mu(l:List B)(t:Tm):Nat:=Tm.wt (muv l) t
theorem zs2(l:List B){t u:Tm}(hk:¬t.kind=0)(h:u∈t.args):mu l u<mu l t:=by
 unfold mu
 rw[Tm.zvV _ t,if_neg hk]
 have:=Tm.zvW (f:=muv l) h
 omega
theorem zlB{l:List B}(h:Acyc l){t:Tm}(hk:t.kind=0)(hf:fndB l t.n=true):mu l (toB l t.n)<mu l t:=by
 unfold mu
 rw[Tm.zvV _ t,if_pos hk,zuR h,if_pos hf]
 omega
theorem zqI{l:List B}(h:Acyc l){t:Tm}(hk:t.kind=0):rs l t=if fndB l t.n=true then rs l (toB l t.n) else tvar t.n:=by
 unfold rs
 rw[Tm.zvy,if_pos hk]
 exact zuQ h t.n
theorem zuS(l:List B){t:Tm}(hk:¬t.kind=0):rs l t=.mk t.kind t.n t.name (t.args.map (rs l)):=by
 unfold rs
 rw[Tm.zvy,if_neg hk]
theorem zbx{t:Tm}(h:t.fits=true)(hk:t.kind=0):t=tvar t.n:=by
 rw[Tm.zvB] at h
 have h1:t.node=true:=by simp at h;exact h.1
 cases t with
 |mk k n s ts=>
  simp only[Tm.kind] at hk
  subst hk
  simp[Tm.node,Tm.kind,Tm.n,Tm.name,Tm.args] at h1
  obtain⟨⟨_,h3⟩,h4⟩:=h1
  rw[h4,of_decide_eq_true h3]
  rfl
theorem valid_fits{t:Tm}(h:t.valid=true):t.fits=true:=by simp[Tm.valid] at h;exact h.2
theorem valid_size{t:Tm}(h:t.valid=true):t.size<=2000:=by simp[Tm.valid] at h;exact h.1
theorem zfH{t:Tm}(h:t.fits=true)(h2:t.size<=2000):t.valid=true:=by simp[Tm.valid,h,h2]
theorem OKB.to{l:List B}(h:OKB l){v:Int}(hf:fndB l v=true):(toB l v).valid=true/\(toB l v).size<1000000000:=h.good.2 _ (List.mem_of_getElem? (zgH hf))
def fstep(f:Int->Tm)(t:Tm):Tm:=if t.kind=0 then f t.n else t
theorem zgI{f g:Int->Tm}(t:Tm)(h:∀w∈t.occ,f w=g w):fstep f t=fstep g t:=by
 unfold fstep
 by_cases hk:t.kind=0
 ·rw[if_pos hk,if_pos hk]
  exact h _ (by rw[Tm.occ_eq,if_pos hk];simp)
 ·rw[if_neg hk,if_neg hk]
open Classical in
noncomputable def flv(l:List B):Int->Tm:=if h:Acyc l then Classical.choose (zhx h tvar fstep fun _ _ t h=>zgI t h) else tvar
theorem zs3{l:List B}(h:Acyc l)(v:Int):flv l v=if fndB l v=true then fstep (flv l) (toB l v) else tvar v:=by
 unfold flv
 simp only[dif_pos h]
 exact Classical.choose_spec (zhx h tvar fstep fun _ _ t h=>zgI t h) v
noncomputable def flw(l:List B)(t:Tm):Tm:=fstep (flv l) t
theorem ziL(l:List B){t:Tm}(hk:¬t.kind=0):flw l t=t:=by unfold flw fstep;rw[if_neg hk]
theorem zmD{l:List B}(h:Acyc l){t:Tm}(hk:t.kind=0)(hf:fndB l t.n=true):flw l t=flw l (toB l t.n):=by
 unfold flw
 rw[fstep,if_pos hk,zs3 h,if_pos hf]
theorem zfI{l:List B}(h:Acyc l){t:Tm}(hv:t.fits=true)(hk:t.kind=0)(hf:¬fndB l t.n=true):flw l t=t:=by
 unfold flw
 rw[fstep,if_pos hk,zs3 h,if_neg hf,<-zbx hv hk]
theorem zuT{l:List B}(h:OKB l):∀(m:Nat) (t:Tm),mu l t=m->t.valid=true->(flw l t).valid=true/\rs l (flw l t)=rs l t/\mu l (flw l t)<=mu l t/\¬((flw l t).kind=0/\fndB l (flw l t).n=true):=by
 intro m
 induction m using Nat.strongRecOn with
 |_ m ih=>
  intro t hm hv
  by_cases hk:t.kind=0
  ·by_cases hf:fndB l t.n=true
   ·have hlt:=zlB h.Acyc hk hf
    obtain⟨h1,h2,h3,h4⟩:=ih _ (by omega) (toB l t.n) rfl (h.to hf).1
    rw[zmD h.Acyc hk hf]
    exact⟨h1,by rw[h2,zqI h.Acyc hk,if_pos hf],by omega,h4⟩
   ·rw[zfI h.Acyc (valid_fits hv) hk hf]
    exact⟨hv,rfl,Nat.le_refl _,fun e=>hf e.2⟩
  ·rw[ziL l hk]
   exact⟨hv,rfl,Nat.le_refl _,fun e=>hk e.1⟩
theorem zt2{l:List B}(h:Acyc l){t:Tm}(hv:t.fits=true)(hk:t.kind=0)(hf:¬fndB l t.n=true):rs l t=t:=by
 rw[zqI h hk,if_neg hf,<-zbx hv hk]
end Go.Proofs.YtiifblpdlphchaaGreatRR
namespace Go.Proofs.YtiifblpdlphchaaGreatRR
open Go.Am
theorem fit9{t:Tm}(h:t.valid=true):t.size<1000000000:=by have:=valid_size h;omega
def rawP(k n:Int)(s:List UInt8)(es:List PV):PV:=.agg [(none,.int .i64 k),(none,.int .i64 n),(none,.str s),(none,.sl (some 4) es)]
theorem zhw{hp:Heap}{r:Nat}(k n:Int)(s:List UInt8)(es:List PV)(m:Nat)(hm:m=es.length)(h:hp[r]? =some (.arr (some 4) es false)):Am.frozen (.pv (some 4) (rawP k n s es)) (.agg [(none,.pv none (.int .i64 k)),(none,.pv none (.int .i64 n)),(none,.pv none (.str s)),(none,.sl (some 4) r m 0 m)]) hp:=by
 subst hm
 refine⟨hp.set r (.arr (some 4) es true),?_⟩
 show(match AV.freeze (7+1) (.agg _) hp with|some (p,hp')=>some (AV.pv _ p,hp')|none=>none)=_
 have e:∀l hp,AV.freeze (7+1) (.agg l) hp=match AV.freeze.go 7 l hp with|some (ps,hp')=>some (.agg ps,hp')|none=>none:=fun _ _=>rfl
 simp[e,AV.freeze.go,AV.freeze,h,rawP]
 rfl
def zt:Tm:=.mk 0 0 [] []
theorem hb0:zaN [(none,.pv none (.int .i64 0)),(none,.pv none (.int .i64 0)),(none,.pv none (.str [])),(none,.tsl (some 4) [])] [] []=some (.agg [(none,.pv none (.int .i64 0)),(none,.pv none (.int .i64 0)),(none,.pv none (.str [])),(none,.tsl (some 4) [])]):=rfl
end Go.Proofs.YtiifblpdlphchaaGreatRR
namespace Go.Proofs.YtiifblpdlphchaaGreatRR
open Go.Am
end Go.Proofs.YtiifblpdlphchaaGreatRR
