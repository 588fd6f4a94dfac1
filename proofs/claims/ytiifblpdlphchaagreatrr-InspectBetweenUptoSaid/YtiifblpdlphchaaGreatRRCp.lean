/- What is proved: what slices.Insert does at one type. -/
import Derived.Test.YtiifblpdlphchaaGreatRRProg
import Derived.Shelf.Spec.SlicesInsertGrow
import Derived.Test.YtiifblpdlphchaaGreatRRAm4
import Derived.Test.YtiifblpdlphchaaGreatRRAm2
import Derived.Test.YtiifblpdlphchaaGreatRRRows
import Derived.Test.YtiifblpdlphchaaGreatRRFns
set_option linter.unusedVariables false
set_option linter.unusedSimpArgs false
namespace Go.Proofs.YtiifblpdlphchaaGreatRR
open Go Go.Am Go.Proofs Go.Lib Go.RowKit
theorem t3:Tryz.prog.underlying 3=some (TypeDesc.int IntKind.i64):=by kernel_rfl
theorem a3:∀w,(isAgg 3).run Tryz.prog w=.ok false w:=fun w=>by kernel_rfl
theorem z3:∀w,(Go.sizeOf 3).run Tryz.prog w=.ok 1 w:=fun w=>by kernel_rfl
theorem v3:∀w,(zeroValue 3).run Tryz.prog w=.ok (Value.int IntKind.i64 0) w:=fun w=>by kernel_rfl
theorem t4:Tryz.prog.underlying 4=some TypeDesc.bool:=by kernel_rfl
theorem a4:∀w,(isAgg 4).run Tryz.prog w=.ok false w:=fun w=>by kernel_rfl
theorem z4:∀w,(Go.sizeOf 4).run Tryz.prog w=.ok 1 w:=fun w=>by kernel_rfl
theorem v4:∀w,(zeroValue 4).run Tryz.prog w=.ok (Value.bool false) w:=fun w=>by kernel_rfl
theorem tS:Tryz.prog.underlying 41=some (TypeDesc.slice 115):=by kernel_rfl
theorem aS:∀w,(isAgg 41).run Tryz.prog w=.ok false w:=fun w=>by kernel_rfl
theorem zS:∀w,(Go.sizeOf 41).run Tryz.prog w=.ok 1 w:=fun w=>by kernel_rfl
theorem vS:∀w,(zeroValue 41).run Tryz.prog w=.ok (Value.slice none 0 0) w:=fun w=>by kernel_rfl
theorem zE:∀w,(Go.sizeOf 115).run Tryz.prog w=.ok 5 w:=fun w=>by kernel_rfl
theorem iE:(Tryz.prog.info? 115).map (·.size)=some 5:=by kernel_rfl
theorem zo1{α:Type}(C:List α)(p q:Nat)(hpq:p<=q)(hq:q<=C.length)(R:List α):(C.take q++R).take p=C.take p/\(C.take q++R).drop q=R:=by
 have hl:(C.take q).length=q:=by simp;omega
 refine⟨?_,?_⟩
 ·rw[List.take_append_of_le_length (by omega),List.take_take]
  congr 1
  omega
 ·exact List.drop_left' hl
set_option maxHeartbeats 4000000 in
set_option maxRecDepth 100000 in
theorem znB(b n c i vb voff m vc:Nat)(cur:Array Value)(t:TypeId)(vs:List Value)(w:World)(hi:i<n)(hm:0<m)(hroom:n+m<=c)(hlim:n+m<=lim)(hvb:vb≠b)
  (hg:w.heap[b]? =some (.cells cur t (0,0)))(hcs:cur.size=c*5)(hvl:vs.length=m*5)(h1:∀v∈(cur.toList.drop (i*5)).take ((n - i)*5),v.oneCell'=true)
  (hvs:∀j v,vs[j]? =some v->w.cell? ⟨vb,voff+j,none⟩=some v)(h1v:∀v∈vs,v.oneCell'=true)
  (tA:TypeId)(kA:Nat)(hsa:w.shape? vb=some (tA,kA))(hkA:kA≠0):
  ∃cur2:Array Value,cur2.toList=cur.toList.take (i*5)++vs++(cur.toList.drop (i*5)).take ((n - i)*5)++cur.toList.drop ((n+m)*5)/\
  Calls Tryz.prog 146 #[.slice (some ⟨b,0,none⟩) n c,.int .i64 i,.slice (some ⟨vb,voff,none⟩) m vc] w fun e w'=>
   e=.returned (.slice (some ⟨b,0,none⟩) (n+m) c)/\∃cur1,w'=(w.drew.setRow b cur1).setRow b cur2:=by
 have t3:=t3;have a3:=a3;have z3:=z3;have v3:=v3;have t4:=t4;have a4:=a4;have z4:=z4;have v4:=v4;have tS:=tS;have aS:=aS;have zS:=zS;have vS:=vS;have zE:=zE
 have u3:=run_underlying t3;have u4:=run_underlying t4;have uS:=run_underlying tS
 have hlim':n+m<=1073741824:=hlim
 have hov:∀lb cb x,(callFunc 153 #[.slice (some ⟨vb,voff,none⟩) m vc,.slice (some ⟨b,x,none⟩) lb cb]).run Tryz.prog w=.ok (.value (.bool false)) w:=fun lb cb x=>by
  have hfr:∀o,w.frozen? ⟨b,o,none⟩=false:=fun o=>by simp[World.frozen?,hg]
  rw[run_callFunc_extern Tryz.func153 (by kernel_rfl) (by kernel_rfl) (by kernel_rfl) (e:=Extern.SlicesOverlaps.overlaps #[41,41] #[4]) (by kernel_rfl),
   zeF w 41 4 115 tS 5 zE ⟨vb,voff,none⟩ ⟨b,x,none⟩ m vc lb cb hvb tA t kA cur.size hsa (by simp[World.shape?,hg]) hkA (by omega) hfr (hfr x)]
  rfl
 have hz1:¬((m:Int)=0):=by omega
 have hz2:¬((i:Int)=(n:Int)):=by omega
 have hw1:IntKind.i64.wrap ((i:Int)+(m:Int))=(i:Int)+(m:Int):=by rw[IntKind.wrap_i64];omega
 have hb1:(0:Int)<=(i:Int)+(m:Int):=by omega
 have hin:i<=n:=by omega
 have htn:((i:Int)+(m:Int)).toNat=i+m:=by omega
 have hb2:¬(c=i+m):=by omega
 have hb3:(i:Int)<=(n:Int)+(m:Int):=by omega
 have hb4:¬(c=i):=by omega
 have hcell:∀(W:World) (j:Nat),W.heap=w.heap->W.cell? ⟨b,j,none⟩=cur.toList[j]? :=fun W j h=>by
  simp[World.cell?,h,hg]
 have hcp1:∃cur1:Array Value,cur1.toList=cur.toList.take ((i+m)*5)++(cur.toList.drop (i*5)).take ((n - i)*5)++cur.toList.drop ((n+m)*5)/\∀ty dc sc,(Builtin.copy_ #[41,41] ty #[.slice (some ⟨b,(i+m)*5,none⟩) (n+m - (i+m)) dc,.slice (some ⟨b,i*5,none⟩) (n+m - i) sc]).run Tryz.prog w.drew=.ok (goInt ((n - i:Nat):Int)) (w.drew.setRow b cur1):=by
  obtain⟨cs1,hcs1⟩:∃cs1,cs1=(cur.toList.drop (i*5)).take ((n - i)*5):=⟨_,rfl⟩
  have hl1:cs1.length=(n - i)*5:=by rw[hcs1];simp;omega
  have hmin:Nat.min (n+m - i) (n+m - (i+m))=n - i:=by simp only[Nat.min_def];split <;> omega
  have h:=fun ty dc sc=>
   zbJ w.drew 41 41 ty 115 b ((i+m)*5) (n+m - (i+m)) dc ⟨b,i*5,none⟩ (n+m - i) sc 5 cur t cs1 tS iE hg (by rw[hl1,hmin])
   (fun j v hj=>by
    have ha:(⟨b,i*5,none⟩:Addr).add j=⟨b,i*5+j,none⟩:=by unfold Addr.add;split <;> simp_all
    rw[ha,hcell w.drew _ rfl]
    rw[hcs1,List.getElem?_take] at hj
    split at hj
    ·rwa [List.getElem?_drop] at hj
    ·cases hj)
   (by rw[hl1,hcs];omega) (fun v hv=>h1 v (by rw[hcs1] at hv;exact hv))
  refine⟨(cur.toList.take ((i+m)*5)++cs1++cur.toList.drop ((i+m)*5+cs1.length)).toArray,?_,fun ty dc sc=> ?_⟩
  ·rw[hl1,hcs1,show(i+m)*5+(n - i)*5=(n+m)*5 by omega]
  ·rw[h,hmin]
 obtain⟨cur1,hcur1,hcp1⟩:=hcp1
 have hcur1l:cur1.size=cur.size:=by
  have:=congrArg List.length hcur1
  simp at this
  omega
 have hne:∀x,x≠b->(w.drew.setRow b cur1).heap[x]? =w.heap[x]? :=fun x hx=>by
  simp[World.setRow,Array.getElem?_modify,Ne.symm hx]
  rfl
 have hg1:(w.drew.setRow b cur1).heap[b]? =some (.cells cur1 t (0,0)):=setRow_heap w.drew b cur cur1 t _ hg
 have hcp2:∃cur2:Array Value,cur2.toList=cur1.toList.take (i*5)++vs++cur1.toList.drop (i*5+m*5)/\∀ty dc,(Builtin.copy_ #[41,41] ty #[.slice (some ⟨b,i*5,none⟩) (n+m - i) dc,.slice (some ⟨vb,voff,none⟩) m vc]).run Tryz.prog (w.drew.setRow b cur1)=.ok (goInt m) ((w.drew.setRow b cur1).setRow b cur2):=by
  have hmin:Nat.min m (n+m - i)=m:=by simp only[Nat.min_def];split <;> omega
  have h:=fun ty dc=>
   zbJ (w.drew.setRow b cur1) 41 41 ty 115 b (i*5) (n+m - i) dc ⟨vb,voff,none⟩ m vc 5 cur1 t vs tS iE hg1 (by rw[hvl,hmin])
   (fun j v hj=>by
    have ha:(⟨vb,voff,none⟩:Addr).add j=⟨vb,voff+j,none⟩:=by unfold Addr.add;split <;> simp_all
    rw[ha]
    have:=hvs j v hj
    unfold World.cell? at this ⊢
    rw[hne vb hvb]
    exact this)
   (by rw[hvl,hcur1l,hcs];omega) h1v
  refine⟨(cur1.toList.take (i*5)++vs++cur1.toList.drop (i*5+vs.length)).toArray,?_,fun ty dc=> ?_⟩
  ·rw[hvl]
  ·rw[h,hmin]
 obtain⟨cur2,hcur2,hcp2⟩:=hcp2
 have hfin:cur2.toList=cur.toList.take (i*5)++vs++(cur.toList.drop (i*5)).take ((n - i)*5)++cur.toList.drop ((n+m)*5):=by
  rw[hcur2,hcur1]
  simp only[List.append_assoc]
  obtain⟨e1,e2⟩:=zo1 cur.toList (i*5) ((i+m)*5) (by omega) (by simp;omega) ((cur.toList.drop (i*5)).take ((n - i)*5)++cur.toList.drop ((n+m)*5))
  rw[e1,show i*5+m*5=(i+m)*5 by omega,e2]
 refine⟨cur2,hfin,?_⟩
 clear hcur1 hcur2 hfin
 have mixed:Tryz.prog.follows .mixedOrders=true:=by kernel_rfl
 go_enter Tryz.func146,Tryz.f146
 go_wp2_with (simp only[hov])
 go_region_law_o (refine step_copy_runI rfl _ _ 41 41 rfl _ _ (by simp[Act.eval,Act.put]) (by simp[Act.eval,Act.put]) (hcp1 _ _ _) ?_)
 go_wp2_with (at_builtin;refine wpList_copy_runI _ rfl _ _ 41 41 rfl _ _ rfl rfl (hcp2 _ _) ?_)
 go_ret
 exact⟨rfl,cur1,rfl⟩
set_option maxHeartbeats 4000000 in
set_option maxRecDepth 100000 in
theorem zo2(b n c i vb voff m vc:Nat)(cur:Array Value)(t:TypeId)(vs:List Value)(w:World)(hi:i<n)(hm:0<m)(hnc:n<=c)(hroom:c<n+m)(hlim:n+m<=lim)(hvb:vb<w.heap.size)
  (hg:w.heap[b]? =some (.cells cur t (0,0)))(hcs:cur.size=c*5)(hvl:vs.length=m*5)(h1:∀v∈(cur.toList.drop (i*5)).take ((n - i)*5),v.oneCell'=true)
  (hvs:∀j v,vs[j]? =some v->w.cell? ⟨vb,voff+j,none⟩=some v)(h1v:∀v∈vs,v.oneCell'=true)
  (hok:okT Tryz.prog 115=true)(hz:zbh Tryz.prog 115=true)(hby:zbC Tryz.prog 115=true)(hshE:(shOf Tryz.prog 115).size=5):
  ∃(row:Array Value) (G:Nat),n+m<=G/\row.size=G*5/\row.toList.take ((n+m)*5)=cur.toList.take (i*5)++vs++(cur.toList.drop (i*5)).take ((n - i)*5)/\
  Calls Tryz.prog 146 #[.slice (some ⟨b,0,none⟩) n c,.int .i64 i,.slice (some ⟨vb,voff,none⟩) m vc] w fun e w'=>
   e=.returned (.slice (some ⟨w.heap.size,0,none⟩) (n+m) G)/\w'.heap[w.heap.size]? =some (.cells row 115 (0,0))/\w'.heap.size=w.heap.size+1/\(∀x,x<w.heap.size->w'.heap[x]? =w.heap[x]?)/\w'.os=w.os/\w'.tape=w.tape/\w'.output=w.output:=by
 have t3:=t3;have a3:=a3;have z3:=z3;have v3:=v3;have t4:=t4;have a4:=a4;have z4:=z4;have v4:=v4;have tS:=tS;have aS:=aS;have zS:=zS;have vS:=vS;have zE:=zE
 have u3:=run_underlying t3;have u4:=run_underlying t4;have uS:=run_underlying tS
 obtain⟨i0,z0,hi0,hz0,hs0,hzc⟩:=okE w hok hz
 rw[hshE] at hs0 hzc
 have hb:i0.bytes<=1024:=by
  unfold zbC at hby
  rw[hi0] at hby
  simpa using hby
 have hbb:(n+m)*i0.bytes<=140737488355328:=by
  have:(n+m)*i0.bytes<=lim*1024:=Nat.mul_le_mul hlim hb
  unfold lim at this
  omega
 have hlim':n+m<=1073741824:=hlim
 have hbN:b<w.heap.size:=zaH hg
 have hz1:¬((m:Int)=0):=by omega
 have hz2:¬((i:Int)=(n:Int)):=by omega
 have hz3:(c:Int)<(n:Int)+(m:Int):=by omega
 have hkk:(n:Int)+(m:Int) - (i:Int)=((n+m - i:Nat):Int):=by omega
 have hik:i+(n+m - i)=n+m:=by omega
 have hold:(Builtin.firstCells i0.size i (.slice (some ⟨b,0,none⟩) i c)).run Tryz.prog w.drew=.ok (cur.toList.take (i*5)).toArray w.drew:=by
  rw[hs0]
  refine run_firstCells_some w.drew 5 i ⟨b,0,none⟩ i c (cur.toList.take (i*5)) (by simp;omega) fun j v hj=> ?_
  have ha:(⟨b,0,none⟩:Addr).add j=⟨b,j,none⟩:=by unfold Addr.add;split <;> simp_all
  rw[ha]
  rw[List.getElem?_take] at hj
  split at hj
  ·have hg':w.drew.heap[b]? =some (.cells cur t (0,0)):=hg
   simpa[World.cell?,hg'] using hj
  ·cases hj
 obtain⟨G,hG⟩:∃G,grownCap w (n+m) c 115=G:=⟨_,rfl⟩
 obtain⟨ROW,hROW⟩:∃ROW:Array Value,(cur.toList.take (i*5)).toArray++Builtin.zeroCells z0.cells (n+m - i)++Builtin.zeroCells z0.cells (G - (n+m))=ROW:=⟨_,rfl⟩
 have hGn:n+m<=G:=by rw[<-hG];exact grownCap_ge w _ _ _
 have hRl:ROW.size=G*5:=by
  rw[<-hROW]
  simp only[Array.size_append,List.size_toArray,size_zeroCells,hzc,List.length_take,Array.length_toList]
  omega
 have hRt:ROW.toList.take (i*5)=cur.toList.take (i*5):=by
  rw[<-hROW]
  simp only[Array.toList_append,List.append_assoc]
  exact List.take_left' (by simp;omega)
 have hrz:∀ty,(Builtin.append_ #[41,3] ty #[.slice (some ⟨b,0,none⟩) i c,.int .i64 ((n:Int)+(m:Int) - (i:Int))]).run Tryz.prog w=
   .ok (.slice (some ⟨w.heap.size,0,none⟩) (n+m) G) (w.drew.alloc (.cells ROW 115)):=fun ty=>by
  have h:=Lib.run_append_grow_zeros w 41 3 ty 115 i0 z0 .i64 .i64 tS t3 hi0 hz0 (some ⟨b,0,none⟩) i c (cur.toList.take (i*5)) hold (n+m - i) (by omega) (by rw[hs0];omega) (by omega) (by omega)
   (by have:(n+m - i)*i0.bytes<=(n+m)*i0.bytes:=Nat.mul_le_mul (by omega) (Nat.le_refl _);omega) (by rw[hik];exact growslice_fits hroom hbb)
  rw[hik,hG] at h
  rw[hkk,<-hROW]
  exact h
 have hd1:ROW.toList.length=G*5:=by simpa using hRl
 have hGn':(n+m)*5<=G*5:=Nat.mul_le_mul hGn (Nat.le_refl _)
 have hcpA:∃row1:Array Value,row1.toList=ROW.toList.take (i*5)++vs++ROW.toList.drop (i*5+m*5)/\∀W:World,W.heap[w.heap.size]? =some (.cells ROW 115 (0,0))->W.heap[vb]? =w.heap[vb]?->∀ty dc,(Builtin.copy_ #[41,41] ty #[.slice (some ⟨w.heap.size,i*5,none⟩) (n+m - i) dc,.slice (some ⟨vb,voff,none⟩) m vc]).run Tryz.prog W=.ok (goInt m) (W.setRow w.heap.size row1):=by
  have hmin:Nat.min m (n+m - i)=m:=by simp only[Nat.min_def];split <;> omega
  refine⟨(ROW.toList.take (i*5)++vs++ROW.toList.drop (i*5+vs.length)).toArray,by rw[hvl],fun W hN hV ty dc=> ?_⟩
  have h:=zbJ W 41 41 ty 115 w.heap.size (i*5) (n+m - i) dc ⟨vb,voff,none⟩ m vc 5 ROW 115 vs tS iE hN (by rw[hvl,hmin])
   (fun j v hj=>by
    have ha:(⟨vb,voff,none⟩:Addr).add j=⟨vb,voff+j,none⟩:=by unfold Addr.add;split <;> simp_all
    rw[ha]
    have:=hvs j v hj
    unfold World.cell? at this ⊢
    rw[hV]
    exact this)
   (by rw[hvl,hRl];omega) h1v
  rw[h,hmin]
 obtain⟨row1,hrow1,hcpA⟩:=hcpA
 have hr1l:row1.size=G*5:=by
  have:=congrArg List.length hrow1
  simp at this
  omega
 have hcpB:∃row2:Array Value,row2.toList=row1.toList.take ((i+m)*5)++(cur.toList.drop (i*5)).take ((n - i)*5)++row1.toList.drop ((n+m)*5)/\∀W:World,W.heap[w.heap.size]? =some (.cells row1 115 (0,0))->W.heap[b]? =some (.cells cur t (0,0))->∀ty dc sc,(Builtin.copy_ #[41,41] ty #[.slice (some ⟨w.heap.size,(i+m)*5,none⟩) (n+m - (i+m)) dc,.slice (some ⟨b,i*5,none⟩) (n - i) sc]).run Tryz.prog W=.ok (goInt ((n - i:Nat):Int)) (W.setRow w.heap.size row2):=by
  obtain⟨cs1,hcs1⟩:∃cs1,cs1=(cur.toList.drop (i*5)).take ((n - i)*5):=⟨_,rfl⟩
  have hl1:cs1.length=(n - i)*5:=by rw[hcs1];simp;omega
  have hmin:Nat.min (n - i) (n+m - (i+m))=n - i:=by simp only[Nat.min_def];split <;> omega
  refine⟨(row1.toList.take ((i+m)*5)++cs1++row1.toList.drop ((i+m)*5+cs1.length)).toArray,by rw[hl1,hcs1,show(i+m)*5+(n - i)*5=(n+m)*5 by omega],fun W hN hB ty dc sc=> ?_⟩
  have h:=zbJ W 41 41 ty 115 w.heap.size ((i+m)*5) (n+m - (i+m)) dc ⟨b,i*5,none⟩ (n - i) sc 5 row1 115 cs1 tS iE hN (by rw[hl1,hmin])
   (fun j v hj=>by
    have ha:(⟨b,i*5,none⟩:Addr).add j=⟨b,i*5+j,none⟩:=by unfold Addr.add;split <;> simp_all
    rw[ha]
    rw[hcs1,List.getElem?_take] at hj
    split at hj
    ·rw[List.getElem?_drop] at hj
     simpa[World.cell?,hB] using hj
    ·cases hj)
   (by rw[hl1,hr1l];omega) (fun v hv=>h1 v (by rw[hcs1] at hv;exact hv))
  rw[h,hmin]
 obtain⟨row2,hrow2,hcpB⟩:=hcpB
 have hfin:row2.toList.take ((n+m)*5)=cur.toList.take (i*5)++vs++(cur.toList.drop (i*5)).take ((n - i)*5):=by
  have e0:row1.toList.take ((i+m)*5)=cur.toList.take (i*5)++vs:=by
   rw[hrow1,hRt]
   exact List.take_left' (by simp[hvl];omega)
  rw[hrow2,e0]
  exact List.take_left' (by simp[hvl];omega)
 have hr2l:row2.size=G*5:=by
  have:=congrArg List.length hrow2
  simp at this
  omega
 have hA1:(w.drew.alloc (.cells ROW 115)).heap[w.heap.size]? =some (.cells ROW 115 (0,0)):=zaC w.drew _
 have hA2:∀x,x<w.heap.size->(w.drew.alloc (.cells ROW 115)).heap[x]? =w.heap[x]? :=fun x hx=>zaB w.drew _ hx
 have hA3:(w.drew.alloc (.cells ROW 115)).heap.size=w.heap.size+1:=by
  show(w.drew.heap.push _).size=_
  rw[Array.size_push]
  rfl
 refine⟨row2,G,hGn,hr2l,hfin,?_⟩
 have hG63:G<=9223372036854775807:=by
  have:=grownCap_le_maxLen w (n+m) c 115 (by unfold maxLen;omega)
  rw[hG] at this
  unfold maxLen at this
  omega
 have hGi:¬(G=i):=by omega
 have hGim:¬(G=i+m):=by omega
 have hci:¬(c=i):=by omega
 have hw1:IntKind.i64.wrap ((i:Int)+(m:Int))=(i:Int)+(m:Int):=by rw[IntKind.wrap_i64];omega
 have hw2:IntKind.i64.wrap ((n:Int)+(m:Int))=(n:Int)+(m:Int):=by rw[IntKind.wrap_i64];omega
 have hw3:IntKind.i64.wrap ((n:Int)+(m:Int) - (i:Int))=(n:Int)+(m:Int) - (i:Int):=by rw[IntKind.wrap_i64];omega
 have hb1:(0:Int)<=(i:Int)+(m:Int):=by omega
 have hin:i<=n:=by omega
 have htn:((i:Int)+(m:Int)).toNat=i+m:=by omega
 have hb3:(i:Int)<=(n:Int):=by omega
 clear hkk hik hold hrow1 hrow2 hfin hRt hd1 hROW hG
 have mixed:Tryz.prog.follows .mixedOrders=true:=by kernel_rfl
 go_enter Tryz.func146,Tryz.f146
 go_wp2_with (at_builtin;refine Lib.wpList_append_run _ rfl _ _ _ _ rfl _ _ rfl rfl _ _ (hrz _) ?_)
 have hA1':((w.alloc (.cells ROW 115)).drew).heap[w.heap.size]? =some (.cells ROW 115 (0,0)):=hA1
 have hA2':∀x,x<w.heap.size->((w.alloc (.cells ROW 115)).drew).heap[x]? =w.heap[x]? :=hA2
 have hA3':((w.alloc (.cells ROW 115)).drew).heap.size=w.heap.size+1:=hA3
 have hA4':((w.alloc (.cells ROW 115)).drew).os=w.os/\((w.alloc (.cells ROW 115)).drew).tape=w.tape/\((w.alloc (.cells ROW 115)).drew).output=w.output:=⟨rfl,rfl,rfl⟩
 rw[hcpA _ hA1' (hA2' _ hvb)]
 generalize (w.alloc (.cells ROW 115)).drew=W0 at*
 have hB1:(W0.setRow w.heap.size row1).heap[w.heap.size]? =some (.cells row1 115 (0,0)):=setRow_heap W0 w.heap.size ROW row1 115 _ hA1'
 have hB2:∀x,x<w.heap.size->(W0.setRow w.heap.size row1).heap[x]? =w.heap[x]? :=fun x hx=>by
  rw[<-hA2' x hx]
  have:w.heap.size≠x:=by omega
  simp[World.setRow,Array.getElem?_modify,this]
 have hB3:(W0.setRow w.heap.size row1).heap.size=w.heap.size+1:=by rw[<-hA3'];simp[World.setRow]
 have hB4:(W0.setRow w.heap.size row1).os=w.os/\(W0.setRow w.heap.size row1).tape=w.tape/\(W0.setRow w.heap.size row1).output=w.output:=hA4'
 generalize W0.setRow w.heap.size row1=W1 at*
 clear hA1' hA2' hA3' hA4' hcpA hrz hA1 hA2 hA3
 go_wp2
 have hD1:W1.drew.heap[w.heap.size]? =some (.cells row1 115 (0,0)):=hB1
 have hD2:W1.drew.heap[b]? =some (.cells cur t (0,0)):=by rw[<-hg];exact hB2 b hbN
 go_region_law_o (refine step_copy_runI rfl _ _ 41 41 rfl (.slice (some ⟨w.heap.size,(i+m)*5,none⟩) (n+m - (i+m)) (G - (i+m))) (.slice (some ⟨b,i*5,none⟩) (n - i) (c - i)) (by simp[Act.eval,Act.put]) (by simp[Act.eval,Act.put]) (hcpB W1.drew hD1 hD2 3 (G - (i+m)) (c - i)) ?_)
 have hE1:(W1.drew.setRow w.heap.size row2).heap[w.heap.size]? =some (.cells row2 115 (0,0)):=setRow_heap W1.drew w.heap.size row1 row2 115 _ hD1
 have hE2:∀x,x<w.heap.size->(W1.drew.setRow w.heap.size row2).heap[x]? =w.heap[x]? :=fun x hx=>by
  rw[<-hB2 x hx]
  have:w.heap.size≠x:=by omega
  simp[World.setRow,Array.getElem?_modify,this]
  rfl
 have hE3:(W1.drew.setRow w.heap.size row2).heap.size=w.heap.size+1:=by
  rw[<-hB3]
  show(W1.heap.modify _ _).size=_
  rw[Array.size_modify]
 have hE4:(W1.drew.setRow w.heap.size row2).os=w.os/\(W1.drew.setRow w.heap.size row2).tape=w.tape/\(W1.drew.setRow w.heap.size row2).output=w.output:=hB4
 generalize W1.drew.setRow w.heap.size row2=W2 at*
 clear hD1 hD2 hB1 hB2 hB3 hB4 hcpB
 go_wp2
 go_ret
 exact⟨rfl,hE1,hE3,hE2,hE4⟩
set_option maxHeartbeats 4000000 in
set_option maxRecDepth 100000 in
theorem zqd(base:Option Addr)(n c vb voff m vc:Nat)(w w':World)(v':Value)(hm:0<m)(hnc:n<=c)(hlim:n<=lim)(hrun:(Builtin.append_ #[41,41] 41 #[.slice base n c,.slice (some ⟨vb,voff,none⟩) m vc]).run Tryz.prog w=.ok v' w'):
  Calls Tryz.prog 146 #[.slice base n c,.int .i64 n,.slice (some ⟨vb,voff,none⟩) m vc] w fun E W=>E=.returned v'/\W=w':=by
 have t3:=t3;have a3:=a3;have z3:=z3;have v3:=v3;have t4:=t4;have a4:=a4;have z4:=z4;have v4:=v4;have tS:=tS;have aS:=aS;have zS:=zS;have vS:=vS;have zE:=zE
 have u3:=run_underlying t3;have u4:=run_underlying t4;have uS:=run_underlying tS
 have hlim':n<=1073741824:=hlim
 have hz1:¬((m:Int)=0):=by omega
 have mixed:Tryz.prog.follows .mixedOrders=true:=by kernel_rfl
 go_enter Tryz.func146,Tryz.f146
 cases base with
 |none=>
  go_wp2_with (at_builtin;refine Lib.wpList_append_run _ rfl _ _ _ _ rfl _ _ rfl rfl _ _ hrun ?_)
  all_goals (go_ret;exact⟨rfl,rfl⟩)
 |some a=>
  obtain⟨ab,ao,asp⟩:=a
  go_wp2_with (at_builtin;refine Lib.wpList_append_run _ rfl _ _ _ _ rfl _ _ rfl rfl _ _ hrun ?_)
  all_goals (go_ret;exact⟨rfl,rfl⟩)
end Go.Proofs.YtiifblpdlphchaaGreatRR
namespace Go.Proofs.YtiifblpdlphchaaGreatRR
open Go.Am Go.ChangeShapes Go.WideShapes Go.ChangeAt Go.RowKit
theorem Tryz.own:ownKnob Tryz.prog.godebug=none:=by kernel_rfl
theorem Tryz.zrW:laidOutB Tryz.prog=true:=by kernel_rfl
theorem Tryz.mixed:Tryz.prog.follows .mixedOrders=true:=by kernel_rfl
def prim:FuncId->Option za1:=fun g=>bif Nat.beq 146 g then some (zgS (some 5)) else(fun g=>bif Nat.beq 138 g then some zi5 else(fun _=>none) g) g
theorem zoK:zjY Tryz.prog 146 (zgS (some 5)):=by
 have h:shOf Tryz.prog 115=some 5:=by kernel_rfl
 have k:=zkZ (P:=Tryz.prog) (f:=146) (c:=Tryz.f146.body.get (by kernel_rfl)) (t:=41) (e:=115) (by rw[h];exact⟨zqd,znB,fun b n c i vb voff m vc cur t vs w hi hm hnc hr hl hvb hg hcs hvl h1 hvs h1v=>zo2 b n c i vb voff m vc cur t vs w hi hm hnc hr hl hvb hg hcs hvl h1 hvs h1v (by kernel_rfl) (by kernel_rfl) (by kernel_rfl) (by rw[h];rfl)⟩) Tryz.func146 (by kernel_rfl) (by decide+kernel) (by kernel_rfl) (by kernel_rfl) (by kernel_rfl) (by kernel_rfl)
 rw[h] at k
 exact k
theorem zp8:zex Tryz.prog prim:=zfm zoK (zfm (zkW Tryz.func138 (by kernel_rfl) (by kernel_rfl) (by kernel_rfl) (by kernel_rfl)) zkX)
theorem sound:SoundO Tryz.prog (sem (find tab) prim):=zmE Tryz.mixed (zoa zqX) zp8
def yes:Option (ARes × Heap)->Bool
 |some (.ret (.pv none (.bool true)),[])=>true
 |_=>false
theorem zqK{r:Option (ARes × Heap)}(h:yes r=true):r=some (.ret (.pv none (.bool true)),[]):=by
 unfold yes at h
 split at h
 ·rfl
 ·cases h
end Go.Proofs.YtiifblpdlphchaaGreatRR
namespace Go.Proofs.YtiifblpdlphchaaGreatRR
open Go.Am
noncomputable abbrev Z:=sem (find tab) prim
noncomputable abbrev S:=sem (find tab) prim .fn
noncomputable abbrev L:=sloop (find tab) prim

theorem zo6:∀(t:Tm) (hp:Heap) (r1 r2:Nat) (l:Nat),t.size<1000000000->l<1000000000->hp[r1]? =some (.box none (.pv none (.int .i64 ((l+1:Nat):Int))))->hp[r2]? =some (.box none (.func (.func 118) [] [.ptr r1 0,.ptr r2 0]))->
  S 118 [t.av,.ptr r1 0,.ptr r2 0] hp=some (.ret (.tuple []),hp.set r1 (.box none (.pv none (.int .i64 ((l+1 - t.size:Nat):Int))))):=by
 intro t
 induction t using Tm.zry with
 |h t ih=>
  intro hp r1 r2 l ht hl h1 h2
  have hr1:=zbX h1
  have hr2:=zbX h2
  have hne:r1≠r2:=by
   rintro rfl
   rw[h1] at h2
   cases h2
  have hts:=t.size_eq
  have hlen:=Tm.zrx t.args
  refine zaK rfl rfl rfl rfl ?_
  have e1:∀y x,(hp.set r1 y++[x])[r1]? =some y:=fun y x=>by rw[zcQ (by simpa using hr1)];simp[hr1]
  have e2:∀y x,(hp.set r1 y++[x])[r2]? =some (.box none (.func (.func 118) [] [.ptr r1 0,.ptr r2 0])):=fun y x=>by rw[zcQ (by simpa using hr2),List.getElem?_set_ne hne,h2]
  have e3:∀y x,(hp.set r1 y++[x])[hp.length]? =some x:=fun y x=>by simp
  have e4:∀y x z,(hp.set r1 y++[x]).set r1 z=hp.set r1 z++[x]:=fun y x z=>by rw[zno (by simpa using hr1)];simp
  have e5:(↑(l+1) - 1:Int)=((l+1 - (1+Tm.sizes (t.args.take 0)):Nat):Int):=by simp[Tm.sizes]
  have w1:IntKind.i64.wrap ((l+1:Nat) - 1:Int)=((l+1 - (1+Tm.sizes (t.args.take 0)):Nat):Int):=by rw[za5 (by omega) (by omega),e5]
  simp -dsimp -implicitDefEqProofs only[go_sem,seval,↓reduceIte,Tm.av,zcQ hr1,h1,zoI,zno hr1,w1]
  refine zgb (fun n st=>∃i:Nat,n=t.args.length - i/\i<=t.args.length/\st=⟨[(1,.ptr r1 0),(2,.ptr r2 0),(3,.ptr hp.length 0),(4,.pv none (.int .i64 i))],hp.set r1 (.box none (.pv none (.int .i64 ((l+1 - (1+Tm.sizes (t.args.take i)):Nat):Int))))++[.box (some 4) (.pv (some 4) t.pv)]⟩) ⟨0,rfl,Nat.zero_le _,?_⟩ ?_
  ·simp -dsimp -implicitDefEqProofs only[go_sem,seval,↓reduceIte]
   try rfl
  ·rintro n st ⟨i,hn,hi,rfl⟩
   by_cases h:i<t.args.length
   ·have hc:(i:Int)<(t.args.length:Int):=by omega
    obtain⟨u,hu⟩:∃u,t.args[i]? =some u:=⟨_,List.getElem?_eq_getElem h⟩
    have hst:=Tm.zrC hu
    have hum:=List.mem_of_getElem? hu
    have husz:=Tm.zrB hum
    by_cases h0:0<((l+1 - (1+Tm.sizes (t.args.take i)):Nat):Int)
    ·obtain⟨l',hl'⟩:∃l':Nat,l+1 - (1+Tm.sizes (t.args.take i))=l'+1:=⟨l+1 - (1+Tm.sizes (t.args.take i)) - 1,by omega⟩
     have hcall:=ih u hum (hp.set r1 (.box none (.pv none (.int .i64 ((l'+1:Nat):Int))))++[.box (some 4) (.pv (some 4) t.pv)]) r1 r2 l' (by omega) (by omega) (e1 _ _) (e2 _ _)
     rw[e4] at hcall
     have e6:l'+1 - u.size=l+1 - (1+Tm.sizes (t.args.take (i+1))):=by omega
     have w2:IntKind.i64.wrap ((i:Int)+1)=((i+1:Nat):Int):=by rw[za5 (by omega) (by omega)];omega
     rw[hl'] at h0 ⊢
     simp -dsimp -implicitDefEqProofs only[go_sem,seval,↓reduceIte,e1,e2,e3,e4,zaf,Tm.pvs_len,hc,h0,zat (Tm.pvs_get hu),show AV.pv (some 4) u.pv=u.av from rfl,hcall,e6,w2]
     refine⟨t.args.length - (i+1),by omega,i+1,rfl,by omega,?_⟩
     rw[zc4 (by simp)]
    ·simp -dsimp -implicitDefEqProofs only[go_sem,seval,↓reduceIte,e1,e2,e3,e4,zaf,Tm.pvs_len,hc,h0]
     rw[List.take_left' (by simp)]
     have hle:Tm.sizes (t.args.take i)<=Tm.sizes t.args:=Tm.zrz _ _
     congr 5
     omega
   ·have hc:¬(i:Int)<(t.args.length:Int):=by omega
    obtain rfl:i=t.args.length:=by omega
    simp -dsimp -implicitDefEqProofs only[go_sem,seval,↓reduceIte,e1,e2,e3,e4,zaf,Tm.pvs_len,hc]
    rw[List.take_left' (by simp),List.take_length,hts]

theorem zqf(t:Tm)(hp:Heap)(h:t.size<1000000000):S 86 [t.av] hp=some (.ret (.pv none (.int .i64 ((min t.size 2001:Nat):Int))),hp):=by
 refine zaq rfl rfl rfl (zac [(some 4,t.pv)]) rfl ?_
 have hc:=zo6 t [.box (some 4) (.pv (some 4) t.pv),.box none (.pv none (.int .i64 2001)),.box none (.func (.func 118) [] [.ptr 1 0,.ptr 2 0])] 1 2 2000 h (by omega) rfl rfl
 have w1:IntKind.i64.wrap (2001 - ((2000+1 - t.size:Nat):Int))=((min t.size 2001:Nat):Int):=by rw[za5 (by omega) (by omega)];omega
 simp only[Tm.av] at hc
 simp -dsimp -implicitDefEqProofs only[go_sem,seval,↓reduceIte,Tm.av,zh0 (Nat.zero_le _),hc,w1]

theorem zo7(t:Tm)(Q:AExit->St->Prop)(h:∀r,Q .normal ⟨(1,.ptr 0 0)::(3,.pv none (.bool t.node))::r,[.box (some 4) (.pv (some 4) t.pv)]⟩):
  W Z L 0 c87k15 ⟨[(1,.ptr 0 0),(3,.pv none (.bool false)),(6,.pv none (.int .i64 t.kind))],[.box (some 4) (.pv (some 4) t.pv)]⟩ Q:=by
 (repeat' (first|(simp -dsimp -implicitDefEqProofs only[c87k15,go_sem,seval,↓reduceIte,zaE,za9,zaF,zaf,Tm.pvs_len, *])|(refine zax (fun _=> ?_) (fun _=> ?_))))
 all_goals (simp -dsimp -implicitDefEqProofs only[Tm.node,go_sem,seval,↓reduceIte, *] at h;exact h _)

theorem zqg:∀(t:Tm) (hp:Heap),t.size<1000000000->S 87 [t.av] hp=some (.ret (.pv none (.bool t.fits)),hp):=by
 intro t
 induction t using Tm.zry with
 |h t ih=>
  intro hp ht
  have hts:=t.size_eq
  have hlen:=Tm.zrx t.args
  refine zaq rfl rfl rfl (zac [(some 4,t.pv)]) rfl ?_
  simp -dsimp -dsimp -implicitDefEqProofs only[go_sem,seval,↓reduceIte,zaE,za9,zaF,zaf,Tm.pvs_len]
  refine zo7 t _ (fun r=> ?_)
  simp -dsimp -dsimp -implicitDefEqProofs only[go_sem,seval,↓reduceIte,zaE,za9,zaF,zaf,Tm.pvs_len]
  refine zgb (fun n st=>∃i:Nat,n=t.args.length - i/\i<=t.args.length/\st=⟨[(1,.ptr 0 0),(3,.pv none (.bool (t.node && Tm.fitsAll (t.args.take i)))),(4,.pv none (.int .i64 i))],[.box (some 4) (.pv (some 4) t.pv)]⟩) (n:=t.args.length) ⟨0,rfl,Nat.zero_le _,?_⟩ ?_
  ·simp -dsimp -implicitDefEqProofs only[go_sem,seval,↓reduceIte,Tm.fitsAll]
   try rfl
  ·rintro n st ⟨i,hn,hi,rfl⟩
   by_cases h:i<t.args.length
   ·have hc:(i:Int)<(t.args.length:Int):=by omega
    obtain⟨u,hu⟩:∃u,t.args[i]? =some u:=⟨_,List.getElem?_eq_getElem h⟩
    have hum:=List.mem_of_getElem? hu
    have husz:=Tm.zrB hum
    have hcall:=fun hp=>ih u hum hp (by omega)
    have e6:Tm.fitsAll (t.args.take (i+1))=(Tm.fitsAll (t.args.take i) && u.fits):=Tm.zrJ hu
    have w2:IntKind.i64.wrap ((i:Int)+1)=((i+1:Nat):Int):=by rw[za5 (by omega) (by omega)];omega
    by_cases h0:(t.node && Tm.fitsAll (t.args.take i))=true
    ·simp -dsimp -dsimp -implicitDefEqProofs only[go_sem,seval,↓reduceIte,zaf,Tm.pvs_len,hc,h0,zat (Tm.pvs_get hu),show AV.pv (some 4) u.pv=u.av from rfl,hcall,w2]
     refine⟨t.args.length - (i+1),by omega,i+1,rfl,by omega,?_⟩
     rw[e6,<-Bool.and_assoc,h0,Bool.true_and]
    ·simp -dsimp -implicitDefEqProofs only[go_sem,seval,↓reduceIte,zaf,Tm.pvs_len,hc,h0]
     rw[Tm.zrI]
     have hp:Tm.fitsAll t.args=(Tm.fitsAll (t.args.take i) && Tm.fitsAll (t.args.drop i)):=by rw[<-Tm.zrD,List.take_append_drop]
     rw[hp,<-Bool.and_assoc,Bool.eq_false_iff.2 h0]
     rfl
   ·have hc:¬(i:Int)<(t.args.length:Int):=by omega
    obtain rfl:i=t.args.length:=by omega
    simp -dsimp -implicitDefEqProofs only[go_sem,seval,↓reduceIte,zaf,Tm.pvs_len,hc]
    rw[Tm.zrI,List.take_length]

theorem zcA(t:Tm)(hp:Heap)(h:t.size<1000000000):S 43 [t.av] hp=some (.ret (.pv none (.bool t.valid)),hp):=by
 refine zaq rfl rfl rfl (zac [(some 4,t.pv)]) rfl ?_
 have h1:=fun hp=>zqf t hp h
 have h2:=fun hp=>zqg t hp h
 unfold Tm.valid
 simp only[Tm.av] at h1 h2
 by_cases hs:t.size<=2000
 ·have hc:((min t.size 2001:Nat):Int)<=2000:=by omega
  (repeat' (first|(simp -dsimp -implicitDefEqProofs only[go_sem,seval,↓reduceIte,Tm.av, *])|(refine zax (fun _=> ?_) (fun _=> ?_))))
 ·have hc:¬((min t.size 2001:Nat):Int)<=2000:=by omega
  (repeat' (first|(simp -dsimp -implicitDefEqProofs only[go_sem,seval,↓reduceIte,Tm.av, *])|(refine zax (fun _=> ?_) (fun _=> ?_))))

theorem znI:∀(t:Tm) (hp:Heap) (m:Nat),t.size<1000000000->m<1000000000->S 58 [t.av,.pv none (.int .i64 ((m+1:Nat):Int))] hp=some (.ret (.pv none (.int .i64 ((min t.size (m+1):Nat):Int))),hp):=by
 intro t
 induction t using Tm.zry with
 |h t ih=>
  intro hp m ht hm
  have hts:=t.size_eq
  have hlen:=Tm.zrx t.args
  refine zaq rfl rfl rfl (zac [(some 4,t.pv),(none,.int .i64 ((m+1:Nat):Int))]) rfl ?_
  simp -dsimp -implicitDefEqProofs only[go_sem,seval,↓reduceIte,zaf,Tm.pvs_len]
  refine zgb (fun n st=>∃i:Nat,n=t.args.length - i/\i<=t.args.length/\st=⟨[(1,.pv none (.int .i64 ((m+1:Nat):Int))),(2,.ptr 0 0),(5,.pv none (.int .i64 ((min (1+Tm.sizes (t.args.take i)) (m+1):Nat):Int))),(6,.pv none (.int .i64 i))],[.box (some 4) (.pv (some 4) t.pv)]⟩) (n:=t.args.length) ⟨0,rfl,Nat.zero_le _,?_⟩ ?_
  ·simp -dsimp -implicitDefEqProofs only[go_sem,seval,↓reduceIte]
   rw[show min (1+Tm.sizes []) (m+1)=1 by simp[Tm.sizes]]
   rfl
  ·rintro n st ⟨i,hn,hi,rfl⟩
   by_cases h:i<t.args.length
   ·have hc:(i:Int)<(t.args.length:Int):=by omega
    obtain⟨u,hu⟩:∃u,t.args[i]? =some u:=⟨_,List.getElem?_eq_getElem h⟩
    have hst:=Tm.zrC hu
    have hum:=List.mem_of_getElem? hu
    have husz:=Tm.zrB hum
    have w2:IntKind.i64.wrap ((i:Int)+1)=((i+1:Nat):Int):=by rw[za5 (by omega) (by omega)];omega
    by_cases h0:((min (1+Tm.sizes (t.args.take i)) (m+1):Nat):Int)<((m+1:Nat):Int)
    ·obtain⟨m',hm'⟩:∃m':Nat,m+1 - min (1+Tm.sizes (t.args.take i)) (m+1)=m'+1:=⟨m - min (1+Tm.sizes (t.args.take i)) (m+1),by omega⟩
     have w3:IntKind.i64.wrap (((m+1:Nat):Int) - ((min (1+Tm.sizes (t.args.take i)) (m+1):Nat):Int))=((m'+1:Nat):Int):=by rw[za5 (by omega) (by omega)];omega
     have w4:IntKind.i64.wrap (((min (1+Tm.sizes (t.args.take i)) (m+1):Nat):Int)+((min u.size (m'+1):Nat):Int))=((min (1+Tm.sizes (t.args.take (i+1))) (m+1):Nat):Int):=by rw[za5 (by omega) (by omega)];omega
     have hcall:=fun hp=>ih u hum hp m' (by omega) (by omega)
     simp -dsimp -implicitDefEqProofs only[go_sem,seval,↓reduceIte,zaf,Tm.pvs_len,hc,h0,zat (Tm.pvs_get hu),show AV.pv (some 4) u.pv=u.av from rfl,hcall,w2,w3,w4]
     exact⟨t.args.length - (i+1),by omega,i+1,rfl,by omega,rfl⟩
    ·simp -dsimp -implicitDefEqProofs only[go_sem,seval,↓reduceIte,zaf,Tm.pvs_len,hc,h0]
     have hle:Tm.sizes (t.args.take i)<=Tm.sizes t.args:=Tm.zrz _ _
     congr 3
     omega
   ·have hc:¬(i:Int)<(t.args.length:Int):=by omega
    obtain rfl:i=t.args.length:=by omega
    simp -dsimp -implicitDefEqProofs only[go_sem,seval,↓reduceIte,zaf,Tm.pvs_len,hc]
    rw[List.take_length,hts]

theorem zo8(t:Tm)(hp:Heap)(h:t.size<1000000000):S 24 [t.av] hp=some (.ret (.pv none (.int .i64 ((min t.size 2001:Nat):Int))),hp):=by
 refine zaq rfl rfl rfl (zac [(some 4,t.pv)]) rfl ?_
 have h1:=fun hp=>znI t hp 2000 h (by omega)
 simp only[Tm.av] at h1
 have e:(((2000+1:Nat):Int))=2001:=rfl
 rw[e] at h1
 (repeat' (first|(simp -dsimp -implicitDefEqProofs only[go_sem,seval,↓reduceIte, *])|(refine zax (fun _=> ?_) (fun _=> ?_))))

theorem zo9(t:Tm)(hp:Heap):S 111 [t.av] hp=some (.ret (.pv none (.bool t.node)),hp):=by
 refine zaq rfl rfl rfl (zac [(some 4,t.pv)]) rfl ?_
 (repeat' (first|(simp -dsimp -implicitDefEqProofs only[go_sem,seval,↓reduceIte,zaE,za9,zaF,zaf,Tm.pvs_len, *])|(refine zax (fun _=> ?_) (fun _=> ?_))))
 all_goals (simp only[Tm.node,show(0<(t.args.length:Int))=(1<=(t.args.length:Int)) from propext (by omega), *,Int.reduceEq,if_true,if_false,decide_true,decide_false,Bool.true_and,Bool.false_and,Bool.and_true])

theorem znJ:∀(t:Tm) (hp:Heap),t.size<1000000000->S 57 [t.av] hp=some (.ret (.pv none (.bool t.fits)),hp):=by
 intro t
 induction t using Tm.zry with
 |h t ih=>
  intro hp ht
  have hts:=t.size_eq
  have hlen:=Tm.zrx t.args
  refine zaq rfl rfl rfl (zac [(some 4,t.pv)]) rfl ?_
  have hnode:=zo9 t
  simp only[Tm.av] at hnode
  by_cases hn:t.node=true
  ·rw[hn] at hnode
   simp -dsimp -implicitDefEqProofs only[go_sem,seval,↓reduceIte,hnode,zaf,Tm.pvs_len]
   refine zgb (fun n st=>∃i:Nat,n=t.args.length - i/\i<=t.args.length/\Tm.fitsAll (t.args.take i)=true/\st=⟨[(1,.ptr 0 0),(3,.pv none (.int .i64 i))],[.box (some 4) (.pv (some 4) t.pv)]⟩) (n:=t.args.length) ⟨0,rfl,Nat.zero_le _,rfl,?_⟩ ?_
   ·simp -dsimp -implicitDefEqProofs only[go_sem,seval,↓reduceIte]
    try rfl
   ·rintro n st ⟨i,hn',hi,hf,rfl⟩
    by_cases h:i<t.args.length
    ·have hc:(i:Int)<(t.args.length:Int):=by omega
     obtain⟨u,hu⟩:∃u,t.args[i]? =some u:=⟨_,List.getElem?_eq_getElem h⟩
     have hum:=List.mem_of_getElem? hu
     have husz:=Tm.zrB hum
     have hcall:=fun hp=>ih u hum hp (by omega)
     have e6:Tm.fitsAll (t.args.take (i+1))=(Tm.fitsAll (t.args.take i) && u.fits):=Tm.zrJ hu
     have w2:IntKind.i64.wrap ((i:Int)+1)=((i+1:Nat):Int):=by rw[za5 (by omega) (by omega)];omega
     by_cases h0:u.fits=true
     ·simp -dsimp -implicitDefEqProofs only[go_sem,seval,↓reduceIte,zaf,Tm.pvs_len,hc,h0,zat (Tm.pvs_get hu),show AV.pv (some 4) u.pv=u.av from rfl,hcall,w2]
      exact⟨t.args.length - (i+1),by omega,i+1,rfl,by omega,by rw[e6,hf,h0];rfl,rfl⟩
     ·rw[Bool.not_eq_true] at h0
      simp -dsimp -implicitDefEqProofs only[go_sem,seval,↓reduceIte,zaf,Tm.pvs_len,hc,h0,zat (Tm.pvs_get hu),show AV.pv (some 4) u.pv=u.av from rfl,hcall,w2]
      rw[show t.fits=false from Bool.eq_false_iff.2 fun h=>by rw[Tm.zrK h hum] at h0;cases h0]
    ·have hc:¬(i:Int)<(t.args.length:Int):=by omega
     obtain rfl:i=t.args.length:=by omega
     rw[List.take_length] at hf
     simp -dsimp -implicitDefEqProofs only[go_sem,seval,↓reduceIte,zaf,Tm.pvs_len,hc]
     rw[Tm.zrI,hn,hf]
     rfl
  ·rw[Bool.not_eq_true] at hn
   rw[hn] at hnode
   simp -dsimp -implicitDefEqProofs only[go_sem,seval,↓reduceIte,hnode,zaf,Tm.pvs_len]
   rw[Tm.zrI,hn]
   rfl

theorem zii(t:Tm)(hp:Heap)(h:t.size<1000000000):S 23 [t.av] hp=some (.ret (.pv none (.bool t.valid)),hp):=by
 refine zaq rfl rfl rfl (zac [(some 4,t.pv)]) rfl ?_
 have h1:=fun hp=>zo8 t hp h
 have h2:=fun hp=>znJ t hp h
 unfold Tm.valid
 simp only[Tm.av] at h1 h2
 by_cases hs:t.size<=2000
 ·have hc:((min t.size 2001:Nat):Int)<=2000:=by omega
  (repeat' (first|(simp -dsimp -implicitDefEqProofs only[go_sem,seval,↓reduceIte,Tm.av, *])|(refine zax (fun _=> ?_) (fun _=> ?_))))
 ·have hc:¬((min t.size 2001:Nat):Int)<=2000:=by omega
  (repeat' (first|(simp -dsimp -implicitDefEqProofs only[go_sem,seval,↓reduceIte,Tm.av, *])|(refine zax (fun _=> ?_) (fun _=> ?_))))
end Go.Proofs.YtiifblpdlphchaaGreatRR
namespace Go.Proofs.YtiifblpdlphchaaGreatRR
open Go.Am
theorem znG:∀(a b:Tm) (hp:Heap),a.size<1000000000->S 61 [a.av,b.av] hp=some (.ret (.pv none (.bool (decide (a.cmp b=0)))),hp):=by
 intro a
 induction a using Tm.zry with
 |h a ih=>
  intro b hp ha
  have hts:=a.size_eq
  have hlen:=Tm.zrx a.args
  refine zaq rfl rfl rfl (zac [(some 4,a.pv),(some 4,b.pv)]) rfl ?_
  by_cases hall:a.kind=b.kind/\a.n=b.n/\a.name=b.name/\a.args.length=b.args.length
  ·obtain⟨h1,h2,h3,h4⟩:=hall
   have hz:a.cmp b=Tm.cmps a.args b.args:=by
    rw[Tm.zrT,h1,h2,h3,h4,zch,zch,zch,cb_zero.2 rfl]
    rfl
   rw[hz]
   simp -dsimp -implicitDefEqProofs only[c61b12,go_sem,seval,↓reduceIte,zaE,za9,zaF,zaf,Tm.pvs_len,h1,h2,h3,h4]
   refine zgb (fun n st=>∃i:Nat,n=a.args.length - i/\i<=a.args.length/\Tm.cmps a.args b.args=Tm.cmps (a.args.drop i) (b.args.drop i)/\st=⟨[(2,.ptr 0 0),(3,.ptr 1 0),(5,.pv none (.int .i64 i))],[.box (some 4) (.pv (some 4) a.pv),.box (some 4) (.pv (some 4) b.pv)]⟩) (n:=a.args.length) ⟨0,rfl,Nat.zero_le _,rfl,?_⟩ ?_
   ·simp -dsimp -implicitDefEqProofs only[go_sem,seval,↓reduceIte]
    try rfl
   ·rintro n st ⟨i,hn,hi,he,rfl⟩
    by_cases h:i<a.args.length
    ·have hc:(i:Int)<(a.args.length:Int):=by omega
     obtain⟨u,hu⟩:∃u,a.args[i]? =some u:=⟨_,List.getElem?_eq_getElem h⟩
     obtain⟨w,hw⟩:∃w,b.args[i]? =some w:=⟨_,List.getElem?_eq_getElem (by omega)⟩
     have hum:=List.mem_of_getElem? hu
     have husz:=Tm.zrB hum
     have hcall:=fun hp=>ih u hum w hp (by omega)
     simp only[Tm.av] at hcall
     have w2:IntKind.i64.wrap ((i:Int)+1)=((i+1:Nat):Int):=by rw[za5 (by omega) (by omega)];omega
     rw[Tm.zrO hu hw] at he
     by_cases h0:u.cmp w=0
     ·rw[h0,zgc] at he
      simp -dsimp -implicitDefEqProofs only[c61b12,go_sem,seval,↓reduceIte,zaf,Tm.pvs_len,hc,zat (Tm.pvs_get hu),zat (Tm.pvs_get hw),hcall,w2,h0]
      exact⟨a.args.length - (i+1),by omega,i+1,rfl,by omega,he,rfl⟩
     ·rw[zj1 h0] at he
      simp -dsimp -implicitDefEqProofs only[c61b12,go_sem,seval,↓reduceIte,zaf,Tm.pvs_len,hc,zat (Tm.pvs_get hu),zat (Tm.pvs_get hw),hcall,w2,h0,he]
    ·have hc:¬(i:Int)<(a.args.length:Int):=by omega
     obtain rfl:i=a.args.length:=by omega
     rw[List.drop_length,Tm.zrE] at he
     simp -dsimp -implicitDefEqProofs only[c61b12,go_sem,seval,↓reduceIte,zaf,Tm.pvs_len,hc,he]
  ·have hz:¬a.cmp b=0:=fun h=>hall (by rw[Tm.cmp_zero.1 h];exact⟨rfl,rfl,rfl,rfl⟩)
   replace hall:=Kept.mk hall
   replace hts:=Kept.mk hts
   clear ih
   (repeat' (first|(simp -dsimp -implicitDefEqProofs only[go_sem,seval,↓reduceIte,zaE,za9,zaF,zaf,Tm.pvs_len, *])|(refine zax (fun _=> ?_) (fun _=> ?_))))
   exact absurd ⟨‹_›,‹_›,‹_›,by omega⟩ hall.out

def same(a b:Tm):Bool:=a.valid && (b.valid && decide (a.cmp b=0))
theorem zo4(a b:Tm)(hp:Heap)(ha:a.size<1000000000)(hb:b.size<1000000000):S 56 [a.av,b.av] hp=some (.ret (.pv none (.bool (same a b))),hp):=by
 refine zaq rfl rfl rfl (zac [(some 4,a.pv),(some 4,b.pv)]) rfl ?_
 have h1:=fun hp=>zii a hp ha
 have h2:=fun hp=>zii b hp hb
 have h3:=fun hp=>znG a b hp ha
 simp only[Tm.av] at h1 h2 h3
 unfold same
 by_cases va:a.valid=true
 ·by_cases vb:b.valid=true
  ·(repeat' (first|(simp -dsimp -implicitDefEqProofs only[go_sem,seval,↓reduceIte, *])|(refine zax (fun _=> ?_) (fun _=> ?_))))
  ·(repeat' (first|(simp -dsimp -implicitDefEqProofs only[go_sem,seval,↓reduceIte, *])|(refine zax (fun _=> ?_) (fun _=> ?_))))
 ·(repeat' (first|(simp -dsimp -implicitDefEqProofs only[go_sem,seval,↓reduceIte, *])|(refine zax (fun _=> ?_) (fun _=> ?_))))

theorem znH:∀(a b:Tm) (hp:Heap),a.size<1000000000->S 91 [a.av,b.av] hp=some (.ret (.pv none (.bool (decide (a.cmp b=0)))),hp):=by
 intro a
 induction a using Tm.zry with
 |h a ih=>
  intro b hp ha
  have hts:=a.size_eq
  have hlen:=Tm.zrx a.args
  refine zaq rfl rfl rfl (zac [(some 4,a.pv),(some 4,b.pv)]) rfl ?_
  by_cases hall:a.kind=b.kind/\a.n=b.n/\a.name=b.name/\a.args.length=b.args.length
  ·obtain⟨h1,h2,h3,h4⟩:=hall
   have hz:a.cmp b=Tm.cmps a.args b.args:=by
    rw[Tm.zrT,h1,h2,h3,h4,zch,zch,zch,cb_zero.2 rfl]
    rfl
   rw[hz]
   simp -dsimp -implicitDefEqProofs only[c91b13,go_sem,seval,↓reduceIte,zaE,za9,zaF,zaf,Tm.pvs_len,h1,h2,h3,h4]
   have hbl:(b.args.length:Int)=(a.args.length:Int):=by rw[h4]
   refine zg0 (α:=Unit) a.args.length (fun i _=>Tm.cmps a.args b.args=Tm.cmps (a.args.drop i) (b.args.drop i)) (fun i _=>⟨[(3,.ptr 1 0),(36,.pv none (.sl (some 4) (Tm.pvs a.args))),(37,.pv none (.int .i64 b.args.length)),(38,.pv none (.int .i64 i))],[.box (some 4) (.pv (some 4) a.pv),.box (some 4) (.pv (some 4) b.pv)]⟩) () ⟨rfl,rfl⟩ ?_ ?_
   ·rintro i - h he
    have hc:(i:Int)<(b.args.length:Int):=by omega
    obtain⟨u,hu⟩:∃u,a.args[i]? =some u:=⟨_,List.getElem?_eq_getElem h⟩
    obtain⟨w,hw⟩:∃w,b.args[i]? =some w:=⟨_,List.getElem?_eq_getElem (by omega)⟩
    have hum:=List.mem_of_getElem? hu
    have husz:=Tm.zrB hum
    have hcall:=fun hp=>ih u hum w hp (by omega)
    simp only[Tm.av] at hcall
    have w2:IntKind.i64.wrap ((i:Int)+1)=((i+1:Nat):Int):=by rw[za5 (by omega) (by omega)];omega
    rw[Tm.zrO hu hw] at he
    by_cases h0:u.cmp w=0
    ·rw[h0,zgc] at he
     simp -dsimp -implicitDefEqProofs only[c91b13,go_sem,seval,↓reduceIte,zaf,Tm.pvs_len,hc,zat (Tm.pvs_get hu),zat (Tm.pvs_get hw),hcall,w2,h0]
     exact⟨(),he,rfl⟩
    ·rw[zj1 h0] at he
     simp -dsimp -implicitDefEqProofs only[c91b13,go_sem,seval,↓reduceIte,zaf,Tm.pvs_len,hc,zat (Tm.pvs_get hu),zat (Tm.pvs_get hw),hcall,w2,h0,he]
   ·rintro - he
    have hc:¬(a.args.length:Int)<(b.args.length:Int):=by omega
    rw[List.drop_length,Tm.zrE] at he
    simp -dsimp -implicitDefEqProofs only[c91b13,go_sem,seval,↓reduceIte,zaf,Tm.pvs_len,hc,he]
  ·have hz:¬a.cmp b=0:=fun h=>hall (by rw[Tm.cmp_zero.1 h];exact⟨rfl,rfl,rfl,rfl⟩)
   replace hall:=Kept.mk hall
   replace hts:=Kept.mk hts
   clear ih
   (repeat' (first|(simp -dsimp -implicitDefEqProofs only[go_sem,seval,↓reduceIte,zaE,za9,zaF,zaf,Tm.pvs_len, *])|(refine zax (fun _=> ?_) (fun _=> ?_))))
   exact absurd ⟨‹_›,‹_›,‹_›,by omega⟩ hall.out
theorem zo5(a b:Tm)(hp:Heap)(ha:a.size<1000000000)(hb:b.size<1000000000):S 45 [a.av,b.av] hp=some (.ret (.pv none (.bool (same a b))),hp):=by
 refine zaq rfl rfl rfl (zac [(some 4,a.pv),(some 4,b.pv)]) rfl ?_
 have h1:=fun hp=>zcA a hp ha
 have h2:=fun hp=>zcA b hp hb
 have h3:=fun hp=>znH a b hp ha
 simp only[Tm.av] at h1 h2 h3
 unfold same
 by_cases va:a.valid=true
 ·by_cases vb:b.valid=true
  ·(repeat' (first|(simp -dsimp -implicitDefEqProofs only[go_sem,seval,↓reduceIte, *])|(refine zax (fun _=> ?_) (fun _=> ?_))))
  ·(repeat' (first|(simp -dsimp -implicitDefEqProofs only[go_sem,seval,↓reduceIte, *])|(refine zax (fun _=> ?_) (fun _=> ?_))))
 ·(repeat' (first|(simp -dsimp -implicitDefEqProofs only[go_sem,seval,↓reduceIte, *])|(refine zax (fun _=> ?_) (fun _=> ?_))))
end Go.Proofs.YtiifblpdlphchaaGreatRR
namespace Go.Proofs.YtiifblpdlphchaaGreatRR
open Go.Am
theorem zam{α:Type}(l r:List α)(k:Nat):(l++r)[l.length+k]? =r[k]? :=by
 rw[List.getElem?_append_right (by omega)]
 congr 1
 omega
theorem zaj{α:Type}(l r:List α):(l++r)[l.length]? =r[0]? :=zam l r 0
theorem zan{α:Type}(l r:List α)(k:Nat)(x:α):(l++r).set (l.length+k) x=l++r.set k x:=by
 rw[List.set_append_right _ _ (by omega)]
 congr 2
 omega
theorem zak{α:Type}(l r:List α)(x:α):(l++r).set l.length x=l++r.set 0 x:=zan l r 0 x
theorem zoO(t:Tm)(hp:Heap):S 107 [t.av] hp=some (.ret t.av,hp):=by
 refine zaq rfl rfl rfl (zac [(some 4,t.pv)]) rfl ?_
 (repeat' (first|(simp -dsimp -implicitDefEqProofs only[go_sem,seval,↓reduceIte,Tm.av, *])|(refine zax (fun _=> ?_) (fun _=> ?_))))

theorem zay(s s0:Sh)(r v o n:Nat)(l:List (Sh × AV))(hp:Heap):zai ((s,.sl s0 r v o n)::l) hp=zdj (s,.sl s0 r v o n) (zai l hp):=rfl
theorem zeh{Γ:Oracle}{b:Nat}{vs:List AV}{hp:Heap}{K:AV->Heap->Prop}{Kp:PV->Heap->Prop}(sh:Sh)(n:Nat):opK (aOp Γ b (.bslicen sh n) vs hp) K Kp=zbE (zaW sh hp (vs.drop n)) (fun v hp'=>(vs.take n).all (zbP hp hp')=true/\K v hp'):=by
 simp only[aOp,zdn]
 cases zaW sh hp (vs.drop n) with
 |none=>rfl
 |some r=>
  obtain⟨v,hp'⟩:=r
  simp only[opK,zbE]
  split
  ·rename_i h;split at h
   ·cases h;simp[*]
   ·cases h
  ·rename_i h;split at h <;> cases h
  ·rename_i h;split at h
   ·cases h
   ·simp[*]
def appH(n:Nat)(t:Tm)(i:Nat):Heap:=[.box (some 4) (.pv (some 4) t.pv),.box (some 4) (.agg [(none,.pv none (.int .i64 0)),(none,.pv none (.int .i64 0)),(none,.pv none (.str [])),(none,.sl (some 4) (n+2) 0 0 0)]),.arr (some 4) [] false,.box (some 4) (.agg [(none,.pv none (.int .i64 t.kind)),(none,.pv none (.int .i64 t.n)),(none,.pv none (.str t.name)),(none,.sl (some 4) (n+5) i 0 i)]),.arr (some 4) [] false,.arr (some 4) (Tm.pvs (t.args.take i)) false]
theorem zfr{hp hp':Heap}{r o q i:Nat}{t:Tm}(h:hp[r]? =some (.box (some 4) (.agg [(none,.pv none (.int .i64 t.kind)),(none,.pv none (.int .i64 t.n)),(none,.pv none (.str t.name)),(none,.sl (some 4) q i 0 i)])))(h':hp'[r]? =some (.box (some 4) (.agg [(none,.pv none (.int .i64 t.kind)),(none,.pv none (.int .i64 t.n)),(none,.pv none (.str t.name)),(none,.sl (some 4) q i 0 i)]))):zbP hp hp' (.ptr r o)=true:=by
 simp[zbP,h,h',AObj.beq,AV.beq,AV.beqc,PV.beq]
theorem zoP:∀(t:Tm) (hp:Heap),t.fits=true->t.size<1000000000->∃v e,S 92 [t.av,.pv none (.func (.func 107))] hp=some (.ret v,hp++e)/\v.shp=some 4/\v.plain=true/\(∀H,v.own H=(v,H))/\(∃e2,AV.freeze deep v (hp++e)=some (t.pv,hp++e2))/\∀H:Heap,(∀j,hp.length<=j->H[j]? =(hp++e)[j]?)->∃H2,AV.freeze deep v H=some (t.pv,H2):=by
 intro t
 induction t using Tm.zry with
 |h t ih=>
  intro hp hf ht
  have hts:=t.size_eq
  have hlen:=Tm.zrx t.args
  have h1:=fun hp=>zoO t hp
  simp only[Tm.av] at h1
  by_cases hk:t.kind=0
  ·refine⟨t.av,[],?_,rfl,rfl,fun _=>rfl,⟨[],rfl⟩,fun H _=>⟨H,rfl⟩⟩
   rw[List.append_nil]
   refine zaK rfl rfl rfl rfl ?_
   have hk':=eq_true hk
   simp -dsimp -implicitDefEqProofs only[go_sem,seval,↓reduceIte,Tm.av,zaE,hk',h1,List.append_assoc,zam,zaj,zan,zak,Nat.add_assoc,List.length_append]
   simp only[AV.refsIn,List.all_nil,if_true]
   exact List.take_left
  ·refine⟨.agg [(none,.pv none (.int .i64 t.kind)),(none,.pv none (.int .i64 t.n)),(none,.pv none (.str t.name)),(none,.sl (some 4) (hp.length+5) t.args.length 0 t.args.length)],
    [.box (some 4) (.pv (some 4) t.pv),.box (some 4) (.agg [(none,.pv none (.int .i64 t.kind)),(none,.pv none (.int .i64 t.n)),(none,.pv none (.str t.name)),(none,.sl (some 4) (hp.length+5) t.args.length 0 t.args.length)]),.arr (some 4) [] false,.box (some 4) (.agg [(none,.pv none (.int .i64 t.kind)),(none,.pv none (.int .i64 t.n)),(none,.pv none (.str t.name)),(none,.sl (some 4) (hp.length+5) t.args.length 0 t.args.length)]),.arr (some 4) [] false,.arr (some 4) (Tm.pvs t.args) false],?_,rfl,rfl,fun _=>rfl,?_,?_⟩
   ·refine zaK rfl rfl rfl rfl ?_
    have hk':=eq_false hk
    have hb:zbg [(none,.pv none (.int .i64 0)),(none,.pv none (.int .i64 0)),(none,.pv none (.str [])),(none,.tsl (some 4) [])] [0,1,2] [.pv none (.int .i64 t.kind),.pv none (.int .i64 t.n),.pv none (.str t.name)]=some (.agg [(none,.pv none (.int .i64 t.kind)),(none,.pv none (.int .i64 t.n)),(none,.pv none (.str t.name)),(none,.tsl (some 4) [])]):=rfl
    simp -dsimp -implicitDefEqProofs only[go_sem,seval,↓reduceIte,Tm.av,zaE,za9,zaF,zaf,hk',Tm.pvs_len,hb,zag (Nat.le_add_right _ _),List.append_assoc,zam,zaj,zan,zak,Nat.add_assoc,List.length_append]
    refine zg0 (α:=Unit) t.args.length (fun _ _=>True) (fun i _=>⟨[(1,.pv none (.func (.func 107))),(4,.ptr (hp.length+1) 0),(5,.ptr (hp.length+3) 0),(22,.pv none (.sl (some 4) (Tm.pvs t.args))),(23,.pv none (.int .i64 t.args.length)),(24,.pv none (.int .i64 i))],hp++appH hp.length t i⟩) () ⟨trivial,rfl⟩ ?_ ?_
    ·rintro i - h -
     have hc:(i:Int)<(t.args.length:Int):=by omega
     obtain⟨u,hu⟩:∃u,t.args[i]? =some u:=⟨_,List.getElem?_eq_getElem h⟩
     have hum:=List.mem_of_getElem? hu
     have husz:=Tm.zrB hum
     obtain⟨v,e,hcall,hvs,_,_,⟨e2,hfz⟩,_⟩:=ih u hum (hp++(appH hp.length t i++[.box (some 4) (.pv (some 4) u.pv),.arr (some 4) [] false])) (Tm.zrK hf hum) (by omega)
     have w2:IntKind.i64.wrap ((i:Int)+1)=((i+1:Nat):Int):=by rw[za5 (by omega) (by omega)];omega
     have hl:(Tm.pvs (t.args.take i)).length=i:=by rw[Tm.pvs_len,List.length_take];omega
     have hlim:i+1<=lim:=by unfold lim;omega
     have hbs:zaW (some 4) (hp++(appH hp.length t i++[.box (some 4) (.pv (some 4) u.pv),.arr (some 4) [] false])++e) [v]=some (.tsl (some 4) [u.pv],hp++(appH hp.length t i++[.box (some 4) (.pv (some 4) u.pv),.arr (some 4) [] false])++e2):=by
      simp only[zaW,zah,hfz,hvs,zaM,if_true]
     simp only[Tm.av] at hcall
     have hs1:∀e e':Heap,zbP (hp++(appH hp.length t i++e)) (hp++(appH hp.length t i++e')) (.ptr (hp.length+3) 3)=true:=fun e e'=>zfr (t:=t) (q:=hp.length+5) (i:=i) (by rw[zam];rfl) (by rw[zam];rfl)
     simp only[appH,List.append_assoc,List.cons_append,List.nil_append] at hcall hbs hs1
     simp -dsimp -implicitDefEqProofs only[go_sem,seval,↓reduceIte,appH,hc,zat (Tm.pvs_get hu),zeh,List.take_succ_cons,List.drop_succ_cons,List.all_cons,List.all_nil,hcall,hbs,hs1,w2,hl,hlim,Tm.zrA hu,zag (Nat.le_add_right _ _),zbk (Nat.le_add_right _ _),List.append_assoc,zam,zaj,zan,zak,Nat.add_assoc,List.length_append]
     refine⟨(),?_⟩
     rw[zcs 6 rfl rfl (by simp[AObj.refs,AV.ofComps,pures,AV.refsIn,AV.refsIn.go]) (by simp[AV.refsIn,AV.refsIn.gol])]
     rfl
    ·rintro - -
     have hc:¬(t.args.length:Int)<(t.args.length:Int):=by omega
     simp -dsimp -implicitDefEqProofs only[go_sem,seval,↓reduceIte,appH,hc,List.take_length,zay,zag (Nat.le_add_right _ _),zbk (Nat.le_add_right _ _),List.append_assoc,zam,zaj,zan,zak,Nat.add_assoc,List.length_append]
     rw[if_neg (by simp[AV.refsIn,AV.refsIn.go])]
   ·have e:∀l hp,AV.freeze (7+1) (.agg l) hp=match AV.freeze.go 7 l hp with|some (ps,hp')=>some (.agg ps,hp')|none=>none:=fun _ _=>rfl
    cases t with
    |mk k n s ts=>
     refine⟨[.box (some 4) (.pv (some 4) (Tm.mk k n s ts).pv),.box (some 4) (.agg [(none,.pv none (.int .i64 k)),(none,.pv none (.int .i64 n)),(none,.pv none (.str s)),(none,.sl (some 4) (hp.length+5) ts.length 0 ts.length)]),.arr (some 4) [] false,.box (some 4) (.agg [(none,.pv none (.int .i64 k)),(none,.pv none (.int .i64 n)),(none,.pv none (.str s)),(none,.sl (some 4) (hp.length+5) ts.length 0 ts.length)]),.arr (some 4) [] false,.arr (some 4) (Tm.pvs ts) true],?_⟩
     show AV.freeze (7+1) (.agg _) _=_
     simp[e,AV.freeze.go,AV.freeze,zam,Tm.kind,Tm.n,Tm.name,Tm.args,Tm.pvs_len,Tm.pv]
   ·intro H hH
    have h5:=hH (hp.length+5) (by omega)
    rw[zam] at h5
    have e:∀l hp,AV.freeze (7+1) (.agg l) hp=match AV.freeze.go 7 l hp with|some (ps,hp')=>some (.agg ps,hp')|none=>none:=fun _ _=>rfl
    cases t with
    |mk k n s ts=>
     refine⟨H.set (hp.length+5) (.arr (some 4) (Tm.pvs ts) true),?_⟩
     show AV.freeze (7+1) (.agg _) _=_
     simp only[Tm.args,List.getElem?_cons_succ,List.getElem?_cons_zero] at h5
     simp[e,AV.freeze.go,AV.freeze,h5,Tm.kind,Tm.n,Tm.name,Tm.args,Tm.pvs_len,Tm.pv]
theorem Tm.valid_fits{t:Tm}(h:t.valid=true):t.fits=true:=by
 unfold Tm.valid at h
 simp only[Bool.and_eq_true] at h
 exact h.2
theorem zid{t:Tm}{v:AV}{H H2:Heap}(h1:v.shp=some 4)(h2:v.plain=true)(h3:AV.freeze deep v H=some (t.pv,H2)):Am.frozen t.av v H:=by
 refine⟨H2,?_⟩
 cases v <;> first|(cases h2;done)|(simp only[AV.freezeRes,h3,h1];rfl)
theorem zoQ(t:Tm)(hp:Heap)(hv:t.valid=true)(ht:t.size<1000000000):S 51 [t.av] hp=some (.ret t.av,hp):=by
 refine zaq rfl rfl rfl (zac [(some 4,t.pv)]) rfl ?_
 have h1:=fun hp=>zcA t hp ht
 obtain⟨v,e,h2,h3,h4,h5,_,h6⟩:=zoP t [.box (some 4) (.pv (some 4) t.pv),.box (some 4) (.agg [(none,.pv none (.int .i64 0)),(none,.pv none (.int .i64 0)),(none,.pv none (.str [])),(none,.sl (some 4) 2 0 0 0)]),.arr (some 4) [] false] (Tm.valid_fits hv) ht
 have hst:zaA (some 4) 0 ([.box (some 4) (.pv (some 4) t.pv),.box (some 4) (.agg [(none,.pv none (.int .i64 0)),(none,.pv none (.int .i64 0)),(none,.pv none (.str [])),(none,.sl (some 4) 2 0 0 0)]),.arr (some 4) [] false]++e) [.ptr 1 0,v]=some (.undef,[.box (some 4) (.pv (some 4) t.pv),.box (some 4) v,.arr (some 4) [] false]++e):=by
  simp[zaA,astore,h3,h4,h5]
 have hfz:=fun(H:Heap) (hH:∀j,3<=j->H[j]? =_)=>(h6 H hH).elim fun H2 k=>zid h3 h4 k
 have hfr:Am.frozen t.av v ([.box (some 4) (.pv (some 4) t.pv),.box (some 4) v,.arr (some 4) [] false]++e):=by
  refine hfz _ fun j hj=> ?_
  match j,hj with
  |j+3,_=>rfl
 rw[hv] at h1
 simp only[Tm.av,List.cons_append,List.nil_append] at h1 h2 hst
 simp -dsimp -implicitDefEqProofs only[go_sem,seval,↓reduceIte,Tm.av,h1,h2,hst,zag (Nat.zero_le _)]
 exact hfr
end Go.Proofs.YtiifblpdlphchaaGreatRR
namespace Go.Proofs.YtiifblpdlphchaaGreatRR
open Go.Am
end Go.Proofs.YtiifblpdlphchaaGreatRR
namespace Go.Proofs.YtiifblpdlphchaaGreatRR
open Go.Am
abbrev B:=Int × Tm
def bdp(b:B):PV:=.agg [(none,.int .i64 b.1),(some 4,b.2.pv)]
def bds(l:List B):List PV:=l.map bdp
theorem zp9(l:List B):(bds l).length=l.length:=by simp[bds]
def Srt'(l:List B):Prop:=l.Pairwise (fun a b=>a.1<b.1)
def lbB(l:List B)(v:Int):Nat:=(l.takeWhile (fun b=>decide (b.1<v))).length
def fndB(l:List B)(v:Int):Bool:=match l[lbB l v]? with
 |some b=>decide (b.1=v)
 |none=>false
def IsB(s:AV)(hp:Heap)(l:List B):Prop:=(s=.tsl (some 5) []/\l=[])\/∃r,s=.sl (some 5) r l.length 0 l.length/\hp[r]? =some (.arr (some 5) (bds l) false)
theorem IsB.freeze{s:AV}{hp:Heap}{l:List B}(h:IsB s hp l):∃hp1,AV.freeze deep s hp=some (.sl (some 5) (bds l),hp1)/\s.shp=none/\s.plain=true:=by
 rcases h with⟨rfl,rfl⟩|⟨r,rfl,h⟩
 ·exact⟨hp,rfl,rfl,rfl⟩
 ·exact⟨hp.set r (.arr (some 5) (bds l) true),by simp[AV.freeze,deep,h,zp9],rfl,rfl⟩
end Go.Proofs.YtiifblpdlphchaaGreatRR
namespace Go.Proofs.YtiifblpdlphchaaGreatRR
open Go.Am
def insB(l:List B)(v:Int)(t:Tm):List B:=l.take (lbB l v)++[(v,t)]++l.drop (lbB l v)
def Pres(s:AV)(hp hp':Heap):Prop:=hp.length<=hp'.length/\∀(i:Nat) (x:AObj),hp[i]? =some x->(∀v o n,s≠.sl (some 5) i v o n)->hp'[i]? =some x
theorem Pres.refl(s:AV)(hp:Heap):Pres s hp hp:=⟨Nat.le_refl _,fun _ _ h _=>h⟩
theorem IsB.more{s:AV}{hp:Heap}{l:List B}(h:IsB s hp l)(e:Heap):IsB s (hp++e) l:=by
 rcases h with h|⟨r,h1,h2⟩
 ·exact .inl h
 ·exact .inr ⟨r,h1,by rw[List.getElem?_append_left (zbX h2)];exact h2⟩
def Own(s:AV)(hp:Heap)(s':AV):Prop:=∀r v o n,s'=.sl (some 5) r v o n->(∃v o n,s=.sl (some 5) r v o n)\/hp.length<=r
theorem Own.refl(s:AV)(hp:Heap):Own s hp s:=fun r v o n h=>.inl ⟨v,o,n,h⟩
theorem Own.trans{s s1 s2:AV}{hp hp1:Heap}(h1:Own s hp s1)(hl:hp.length<=hp1.length)(h2:Own s1 hp1 s2):Own s hp s2:=fun r v o n e=>by
 rcases h2 r v o n e with⟨v',o',n',e'⟩|h
 ·exact h1 r v' o' n' e'
 ·exact .inr (by omega)
theorem Pres.trans{s s1:AV}{hp hp1 hp2:Heap}(h1:Pres s hp hp1)(ho:Own s hp s1)(h2:Pres s1 hp1 hp2):Pres s hp hp2:=
 ⟨Nat.le_trans h1.1 h2.1,fun i x hx hne=>h2.2 i x (h1.2 i x hx hne) fun v o n e=>by
  rcases ho i v o n e with⟨v',o',n',e'⟩|h
  ·exact hne v' o' n' e'
  ·have:=zbX hx;omega⟩
theorem Pres.take{s:AV}{hp hp1:Heap}{n:Nat}(h:Pres s hp hp1)(hn:hp.length<=n):Pres s hp (hp1.take n):=
 ⟨by rw[List.length_take];have:=h.1;omega,fun i x hx hne=>by
  have:=zbX hx
  rw[List.getElem?_take,if_pos (by omega)]
  exact h.2 i x hx hne⟩
theorem IsB.take{s:AV}{hp:Heap}{l:List B}{n:Nat}(h:IsB s hp l)(hr:∀q∈s.refsIn,q<n):IsB s (hp.take n) l:=by
 rcases h with h|⟨r,rfl,h2⟩
 ·exact .inl h
 ·have:r<n:=hr r (by simp[AV.refsIn])
  exact .inr ⟨r,rfl,by rw[List.getElem?_take,if_pos this];exact h2⟩
def Good(l:List B):Prop:=Srt' l/\∀b∈l,b.2.valid=true/\b.2.size<1000000000
theorem zg7:∀t:Tm,PV.beq t.pv t.pv=true:=by
 intro t
 induction t using Tm.zry with
 |h t ih=>
  cases t with
  |mk k n s ts=>
   have:∀l:List Tm,(∀u∈l,PV.beq u.pv u.pv=true)->PV.beqs (Tm.pvs l) (Tm.pvs l)=true:=by
    intro l
    induction l with
    |nil=>intro _;rfl
    |cons x r ihr=>intro h;simp only[Tm.pvs,PV.beqs,h x (by simp),ihr (fun u hu=>h u (by simp[hu])),Bool.and_self]
   simp[Tm.pv,PV.beq,PV.beqc,this ts ih]
end Go.Proofs.YtiifblpdlphchaaGreatRR
namespace Go.Proofs.YtiifblpdlphchaaGreatRR
open Go.Am
def bo(l:List B)(v:Int)(t:Tm)(i:Nat):List B:=if lbB l v<i then(insB l v t).take (i+1) else l.take i
end Go.Proofs.YtiifblpdlphchaaGreatRR
namespace Go.Proofs.YtiifblpdlphchaaGreatRR
open Go.Am
end Go.Proofs.YtiifblpdlphchaaGreatRR
namespace Go.Proofs.YtiifblpdlphchaaGreatRR
open Go.Am
def mk1(l:List B)(D:List Bool)(w:Int):Bool:= !fndB l w || D.getD (lbB l w) false
def sttl(l:List B)(D:List Bool)(os:List Int):Bool:=os.all (mk1 l D)
theorem zpr{l:List B}{v:Int}(h:fndB l v=true):lbB l v<l.length:=by
 unfold fndB at h
 split at h
 ·rename_i b hb;exact(List.getElem?_eq_some_iff.1 hb).1
 ·cases h
structure OKB(l:List B):Prop where
 good:Good l
 rng:∀b∈l,0<=b.1/\b.1<=1099511627776
 acyc:∃rk:Nat->Nat,∀(i:Nat) (b:B),l[i]? =some b->∀w∈b.2.occ,fndB l w=true->rk (lbB l w)<rk i
structure InvD(l:List B)(D:List Bool)(left:Nat):Prop where
 len:D.length=l.length
 cnt:D.count false=left
 rk:∃(rk:Nat->Nat) (c:Nat),∀(i:Nat) (b:B),D[i]? =some true->l[i]? =some b->rk i<c/\∀w∈b.2.occ,fndB l w=true->D[lbB l w]? =some true/\rk (lbB l w)<rk i
theorem znE{D:List Bool}{i:Nat}(h:D[i]? =some false):(D.set i true).count false+1=D.count false:=by
 induction D generalizing i with
 |nil=>simp at h
 |cons x r ih=>
  cases i with
  |zero=>simp at h;subst h;simp
  |succ i=>
   have:=ih (i:=i) (by simpa using h)
   simp only[List.set_cons_succ,List.count_cons]
   omega
theorem InvD.mark{l:List B}{D:List Bool}{left i:Nat}{b:B}(h:InvD l D left)(hi:D[i]? =some false)(hb:l[i]? =some b)(hs:sttl l D b.2.occ=true):InvD l (D.set i true) (left - 1):=by
 obtain⟨h1,h2,rk,c,h3⟩:=h
 have hlt:=(List.getElem?_eq_some_iff.1 hi).1
 refine⟨by simp[h1],by have:=znE hi;omega,fun j=>if j=i then c else rk j,c+1,fun j b' hj hb'=> ?_⟩
 by_cases e:j=i
 ·subst e
  rw[hb] at hb'
  cases hb'
  refine⟨by simp,fun w hw hf=> ?_⟩
  have hm:=List.all_eq_true.1 hs w hw
  have hd:D[lbB l w]? =some true:=by
   simp only[mk1,hf,Bool.not_true,Bool.false_or,List.getD_eq_getElem?_getD] at hm
   cases hx:D[lbB l w]? with
   |none=>rw[hx] at hm;cases hm
   |some d=>rw[hx] at hm;simp at hm;rw[hm]
  have hne:lbB l w≠j:=by intro e;rw[e,hi] at hd;cases hd
  obtain⟨x,hx⟩:∃x,l[lbB l w]? =some x:=⟨_,List.getElem?_eq_getElem (zpr hf)⟩
  obtain⟨k1,_⟩:=h3 _ x hd hx
  refine⟨by rw[List.getElem?_set_ne (Ne.symm hne)];exact hd,?_⟩
  simp only[if_neg hne,if_true]
  exact k1
 ·rw[List.getElem?_set_ne (Ne.symm e)] at hj
  obtain⟨k1,k2⟩:=h3 j b' hj hb'
  refine⟨by simp only[if_neg e];omega,fun w hw hf=> ?_⟩
  obtain⟨m1,m2⟩:=k2 w hw hf
  have hne:lbB l w≠i:=by intro e;rw[e,hi] at m1;cases m1
  refine⟨by rw[List.getElem?_set_ne (Ne.symm hne)];exact m1,?_⟩
  simp only[if_neg hne,if_neg e]
  exact m2
theorem InvD.done{l:List B}{D:List Bool}(h:InvD l D 0):∃rk:Nat->Nat,∀(i:Nat) (b:B),l[i]? =some b->∀w∈b.2.occ,fndB l w=true->rk (lbB l w)<rk i:=by
 obtain⟨h1,h2,rk,c,h3⟩:=h
 refine⟨rk,fun i b hb w hw hf=> ?_⟩
 have hlt:=(List.getElem?_eq_some_iff.1 hb).1
 have hd:D[i]? =some true:=by
  rw[List.getElem?_eq_getElem (by omega)]
  cases hx:D[i] with
  |true=>rfl
  |false=>
   have:false∈D:=by rw[<-hx];exact List.getElem_mem _
   have:=List.count_pos_iff.2 this
   omega
 exact((h3 i b hd hb).2 w hw hf).2
def WfAt(l:List B)(i:Nat):Prop:=∀b,l[i]? =some b->0<=b.1/\b.1<=1099511627776/\b.2.valid=true/\(0<i->∀c,l[i - 1]? =some c->c.1<b.1)
theorem OKB.wf{l:List B}(h:OKB l)(i:Nat):WfAt l i:=fun b hb=>by
 have hm:=List.mem_of_getElem? hb
 obtain⟨h1,h2⟩:=h.rng b hm
 refine⟨h1,h2,(h.good.2 b hm).1,fun hi c hc=> ?_⟩
 obtain⟨hlt,hb'⟩:=List.getElem?_eq_some_iff.1 hb
 obtain⟨hlt2,hc'⟩:=List.getElem?_eq_some_iff.1 hc
 have:=List.pairwise_iff_getElem.1 h.good.1 (i - 1) i hlt2 hlt (by omega)
 rw[hb',hc'] at this
 exact this
theorem InvD.stuck{l:List B}{D:List Bool}{n:Nat}(h:InvD l D n)(hn:0<n)(hs:∀(j:Nat) (b:B),l[j]? =some b->D[j]? =some false->sttl l D b.2.occ=false):¬OKB l:=by
 rintro⟨_,_,rk,ha⟩
 have key:∀(m j:Nat),rk j=m->D[j]? =some false->False:=by
  intro m
  induction m using Nat.strongRecOn with
  |_ m ih=>
   intro j hm hj
   have hlt:=(List.getElem?_eq_some_iff.1 hj).1
   have hl:=h.len
   obtain⟨b,hb⟩:∃b,l[j]? =some b:=⟨_,List.getElem?_eq_getElem (by omega)⟩
   have:=hs j b hb hj
   obtain⟨w,hw,hm1⟩:=List.all_eq_false.1 this
   have hf:fndB l w=true:=by
    cases e:fndB l w with
    |true=>rfl
    |false=>simp[mk1,e] at hm1
   have hd:D.getD (lbB l w) false=false:=by
    cases e:D.getD (lbB l w) false with
    |false=>rfl
    |true=>simp[mk1,e] at hm1;rw[List.getD_eq_getElem?_getD,hm1.2] at e;cases e
   have hlt2:=zpr hf
   have hd2:D[lbB l w]? =some false:=by
    rw[List.getD_eq_getElem?_getD,List.getElem?_eq_getElem (by omega)] at hd
    rw[List.getElem?_eq_getElem (by omega)]
    simpa using hd
   exact ih (rk (lbB l w)) (by have:=ha j b hb w hw hf;omega) _ rfl hd2
 have:0<D.count false:=by have:=h.cnt;omega
 obtain⟨j,hlt,hj⟩:=List.getElem_of_mem (List.count_pos_iff.1 this)
 exact key _ j rfl (by rw[List.getElem?_eq_getElem hlt,hj])
end Go.Proofs.YtiifblpdlphchaaGreatRR
namespace Go.Proofs.YtiifblpdlphchaaGreatRR
open Go.Am
mutual
def Tm.sub(f:Int->Tm):Tm->Tm
 | .mk k n s ts=>if k=0 then f n else .mk k n s (Tm.subs f ts)
def Tm.subs(f:Int->Tm):List Tm->List Tm
 |[]=>[]
 |t::r=>Tm.sub f t::Tm.subs f r
end
theorem Tm.zrS(f:Int->Tm):∀l:List Tm,Tm.subs f l=l.map (Tm.sub f)
 |[]=>rfl
 |t::r=>by rw[Tm.subs,Tm.zrS f r];rfl
theorem Tm.zrP(f:Int->Tm)(t:Tm):Tm.sub f t=if t.kind=0 then f t.n else .mk t.kind t.n t.name (t.args.map (Tm.sub f)):=by
 cases t with
 |mk k n s ts=>
  simp only[Tm.sub,Tm.kind,Tm.n,Tm.name,Tm.args,Tm.zrS]
  by_cases h:k=0 <;> simp[h]
mutual
def Tm.wt(f:Int->Nat):Tm->Nat
 | .mk k n _ ts=>1+(if k=0 then f n else Tm.wts f ts)
def Tm.wts(f:Int->Nat):List Tm->Nat
 |[]=>0
 |t::r=>Tm.wt f t+Tm.wts f r
end
theorem Tm.zrV{l:List Tm}{u:Tm}(h:u∈l){w:Int}(hw:w∈u.occ):w∈Tm.occs l:=by
 induction l with
 |nil=>cases h
 |cons x r ih=>
  rw[Tm.occs]
  rcases List.mem_cons.1 h with rfl|h
  ·exact List.mem_append_left _ hw
  ·exact List.mem_append_right _ (ih h)
theorem Tm.zrX{t u:Tm}(hk:¬t.kind=0)(h:u∈t.args){w:Int}(hw:w∈u.occ):w∈t.occ:=by
 rw[Tm.zrM,if_neg hk]
 exact Tm.zrV h hw
theorem Tm.zrU{f g:Int->Tm}:∀t:Tm,(∀w∈t.occ,f w=g w)->Tm.sub f t=Tm.sub g t:=by
 intro t
 induction t using Tm.zry with
 |h t ih=>
  intro h
  rw[Tm.zrP,Tm.zrP]
  by_cases hk:t.kind=0
  ·rw[if_pos hk,if_pos hk]
   exact h _ (by rw[Tm.zrM,if_pos hk];simp)
  ·rw[if_neg hk,if_neg hk]
   congr 1
   exact List.map_congr_left fun u hu=>ih u hu fun w hw=>h w (Tm.zrX hk hu hw)
def toB(l:List B)(v:Int):Tm:=match l[lbB l v]? with
 |some b=>b.2
 |none=>default
theorem znF{l:List B}{v:Int}(h:fndB l v=true):l[lbB l v]? =some (v,toB l v):=by
 unfold fndB at h
 unfold toB
 cases e:l[lbB l v]? with
 |none=>rw[e] at h;cases h
 |some b=>
  rw[e] at h
  have:b.1=v:=by simpa using h
  rw[<-this]
def Acyc(l:List B):Prop:=∃r:Int->Nat,∀v,fndB l v=true->∀w∈(toB l v).occ,fndB l w=true->r w<r v
theorem OKB.Acyc{l:List B}(h:OKB l):Acyc l:=by
 obtain⟨rk,hr⟩:=h.acyc
 refine⟨fun v=>rk (lbB l v),fun v hv w hw hf=> ?_⟩
 exact hr _ _ (znF hv) w hw hf
theorem zq1{X:Type}{l:List B}(h:Acyc l)(u:Int->X)(s:(Int->X)->Tm->X)(cg:∀f g t,(∀w∈t.occ,f w=g w)->s f t=s g t):
  ∃f:Int->X,∀v,f v=if fndB l v=true then s f (toB l v) else u v:=by
 obtain⟨rk,ha⟩:=h
 obtain⟨it,h0,h1⟩:∃it:Nat->Int->X,(∀v,it 0 v=u v)/\∀n v,it (n+1) v=if fndB l v=true then s (it n) (toB l v) else u v:=
  ⟨fun n=>Nat.rec u (fun _ f v=>if fndB l v=true then s f (toB l v) else u v) n,fun _=>rfl,fun _ _=>rfl⟩
 have hu:∀n v,¬fndB l v=true->it n v=u v:=fun n v hv=>by
  cases n with
  |zero=>exact h0 v
  |succ n=>rw[h1,if_neg hv]
 have stab:∀k n m v,rk v=k->k<n->k<m->it n v=it m v:=by
  intro k
  induction k using Nat.strongRecOn with
  |_ k ih=>
   intro n m v hk hn hm
   by_cases hv:fndB l v=true
   ·obtain⟨n',rfl⟩:∃n',n=n'+1:=⟨n - 1,by omega⟩
    obtain⟨m',rfl⟩:∃m',m=m'+1:=⟨m - 1,by omega⟩
    rw[h1,h1,if_pos hv,if_pos hv]
    refine cg _ _ _ fun w hw=> ?_
    by_cases hf:fndB l w=true
    ·have:=ha v hv w hw hf
     exact ih (rk w) (by omega) n' m' w rfl (by omega) (by omega)
    ·rw[hu _ _ hf,hu _ _ hf]
   ·rw[hu _ _ hv,hu _ _ hv]
 refine⟨fun v=>it (rk v+1) v,fun v=> ?_⟩
 by_cases hv:fndB l v=true
 ·rw[if_pos hv]
  show it (rk v+1) v=_
  rw[h1,if_pos hv]
  refine cg _ _ _ fun w hw=> ?_
  by_cases hf:fndB l w=true
  ·have:=ha v hv w hw hf
   exact stab (rk w) _ _ w rfl (by omega) (by omega)
  ·rw[hu _ _ hf,hu _ _ hf]
 ·rw[if_neg hv]
  exact hu _ _ hv
def tvar(v:Int):Tm:=.mk 0 v [] []
open Classical in
noncomputable def rsv(l:List B):Int->Tm:=if h:Acyc l then Classical.choose (zq1 h tvar Tm.sub fun _ _ t h=>Tm.zrU t h) else tvar
noncomputable def rs(l:List B)(t:Tm):Tm:=Tm.sub (rsv l) t
theorem valid_fits{t:Tm}(h:t.valid=true):t.fits=true:=by simp[Tm.valid] at h;exact h.2
theorem valid_size{t:Tm}(h:t.valid=true):t.size<=2000:=by simp[Tm.valid] at h;exact h.1
theorem OKB.to{l:List B}(h:OKB l){v:Int}(hf:fndB l v=true):(toB l v).valid=true/\(toB l v).size<1000000000:=h.good.2 _ (List.mem_of_getElem? (znF hf))
end Go.Proofs.YtiifblpdlphchaaGreatRR
namespace Go.Proofs.YtiifblpdlphchaaGreatRR
open Go.Am
def zt:Tm:=.mk 0 0 [] []
theorem hb0:zbg [(none,.pv none (.int .i64 0)),(none,.pv none (.int .i64 0)),(none,.pv none (.str [])),(none,.tsl (some 4) [])] [] []=some (.agg [(none,.pv none (.int .i64 0)),(none,.pv none (.int .i64 0)),(none,.pv none (.str [])),(none,.tsl (some 4) [])]):=rfl
end Go.Proofs.YtiifblpdlphchaaGreatRR
namespace Go.Proofs.YtiifblpdlphchaaGreatRR
open Go.Am
end Go.Proofs.YtiifblpdlphchaaGreatRR
namespace Go.Proofs.YtiifblpdlphchaaGreatRR
open Go.Am
def ints(l:List Int):List PV:=l.map (.int .i64)
theorem zeM(l:List Int):(ints l).length=l.length:=by simp[ints]
theorem znK(l:List Int)(x:Int):ints l++[.int .i64 x]=ints (l++[x]):=by simp[ints]
def vadd(s:List Int)(w:Int):List Int:=if w∈s then s else s++[w]
def vads(s:List Int)(ws:List Int):List Int:=ws.foldl vadd s
theorem zeN(s a b:List Int):vads s (a++b)=vads (vads s a) b:=by simp[vads]
theorem zkh(ws:List Int):∀s:List Int,(vads s ws).length<=s.length+ws.length:=by
 induction ws with
 |nil=>intro s;simp[vads]
 |cons w r ih=>
  intro s
  have:=ih (vadd s w)
  have h2:(vadd s w).length<=s.length+1:=by unfold vadd;split <;> simp
  simp only[vads,List.foldl_cons,List.length_cons] at this ⊢
  omega
def IsV(s:AV)(hp:Heap)(l:List Int):Prop:=(s=.tsl none []/\l=[])\/∃r,s=.sl none r l.length 0 l.length/\hp[r]? =some (.arr none (ints l) false)
def PresV(s:AV)(hp hp':Heap):Prop:=hp.length<=hp'.length/\∀(i:Nat) (x:AObj),hp[i]? =some x->(∀v o n,s≠.sl none i v o n)->hp'[i]? =some x
def OwnV(s:AV)(hp:Heap)(s':AV):Prop:=∀r v o n,s'=.sl none r v o n->(∃v o n,s=.sl none r v o n)\/hp.length<=r
theorem PresV.refl(s:AV)(hp:Heap):PresV s hp hp:=⟨Nat.le_refl _,fun _ _ h _=>h⟩
theorem OwnV.refl(s:AV)(hp:Heap):OwnV s hp s:=fun r v o n h=>.inl ⟨v,o,n,h⟩
theorem IsV.more{s:AV}{hp:Heap}{l:List Int}(h:IsV s hp l)(e:Heap):IsV s (hp++e) l:=by
 rcases h with h|⟨r,h1,h2⟩
 ·exact .inl h
 ·exact .inr ⟨r,h1,by rw[List.getElem?_append_left (zbX h2)];exact h2⟩
theorem OwnV.trans{s s1 s2:AV}{hp hp1:Heap}(h1:OwnV s hp s1)(hl:hp.length<=hp1.length)(h2:OwnV s1 hp1 s2):OwnV s hp s2:=fun r v o n e=>by
 rcases h2 r v o n e with⟨v',o',n',e'⟩|h
 ·exact h1 r v' o' n' e'
 ·exact .inr (by omega)
theorem PresV.trans{s s1:AV}{hp hp1 hp2:Heap}(h1:PresV s hp hp1)(ho:OwnV s hp s1)(h2:PresV s1 hp1 hp2):PresV s hp hp2:=
 ⟨Nat.le_trans h1.1 h2.1,fun i x hx hne=>h2.2 i x (h1.2 i x hx hne) fun v o n e=>by
  rcases ho i v o n e with⟨v',o',n',e'⟩|h
  ·exact hne v' o' n' e'
  ·have:=zbX hx;omega⟩
theorem PresV.take{s:AV}{hp hp1:Heap}{n:Nat}(h:PresV s hp hp1)(hn:hp.length<=n):PresV s hp (hp1.take n):=
 ⟨by rw[List.length_take];have:=h.1;omega,fun i x hx hne=>by
  have:=zbX hx
  rw[List.getElem?_take,if_pos (by omega)]
  exact h.2 i x hx hne⟩
theorem PresV.less{s:AV}{hp e hp1:Heap}(h:PresV s (hp++e) hp1):PresV s hp hp1:=
 ⟨by have:=h.1;simp at this;omega,fun i x hx hne=>h.2 i x (by rw[List.getElem?_append_left (zbX hx)];exact hx) hne⟩
theorem OwnV.less{s s':AV}{hp e:Heap}(h:OwnV s (hp++e) s'):OwnV s hp s':=fun r v o n h1=>by
 rcases h r v o n h1 with h|h
 ·exact .inl h
 ·exact .inr (by simp at h;omega)
theorem IsV.take{s:AV}{hp:Heap}{l:List Int}{n:Nat}(h:IsV s hp l)(hr:∀q∈s.refsIn,q<n):IsV s (hp.take n) l:=by
 rcases h with h|⟨r,rfl,h2⟩
 ·exact .inl h
 ·have:r<n:=hr r (by simp[AV.refsIn])
  exact .inr ⟨r,rfl,by rw[List.getElem?_take,if_pos this];exact h2⟩
theorem IsV.freeze{s:AV}{hp:Heap}{l:List Int}(h:IsV s hp l):∃hp1,AV.freeze deep s hp=some (.sl none (ints l),hp1)/\s.shp=none/\s.plain=true:=by
 rcases h with⟨rfl,rfl⟩|⟨r,rfl,h⟩
 ·exact⟨hp,rfl,rfl,rfl⟩
 ·exact⟨hp.set r (.arr none (ints l) true),by simp[AV.freeze,deep,h,zeM],rfl,rfl⟩
theorem zlw{s:AV}{H:Heap}{l:List Int}(h:IsV s H l):Am.frozen (.pv none (.sl none (ints l))) s H:=by
 rcases h with⟨rfl,rfl⟩|⟨r,rfl,h⟩
 ·exact⟨H,rfl⟩
 ·exact⟨H.set r (.arr none (ints l) true),by simp[AV.freezeRes,AV.freeze,deep,h,zeM,AV.shp]⟩
end Go.Proofs.YtiifblpdlphchaaGreatRR
namespace Go.Proofs.YtiifblpdlphchaaGreatRR
open Go.Am
def zfz(v:Int):List (Int × PV)->Option PV
 |[]=>none
 |x::r=>if x.1=v then some x.2 else zfz v r
def mPut(v:Int)(p:PV):List (Int × PV)->List (Int × PV)
 |[]=>[(v,p)]
 |x::r=>if x.1=v then(v,p)::r else x::mPut v p r
def zcc(m:List (Int × PV)):List (PV × PV):=m.map fun x=>(.int .i64 x.1,x.2)
theorem zei(v:Int):∀m,afind false (.int .i64 v) (zcc m)=some (zfz v m)
 |[]=>rfl
 |x::r=>by
  have ih:=zei v r
  unfold zcc at ih ⊢
  simp only[List.map_cons,afind,PV.same,if_true,zfz]
  by_cases h:x.1=v
  ·simp[h]
  ·have h':¬v=x.1:=fun e=>h e.symm
   simp only[decide_eq_false h',if_neg h]
   exact ih
theorem zfA(v:Int)(p:PV):∀m,aput false (.int .i64 v) p (zcc m)=some (zcc (mPut v p m))
 |[]=>rfl
 |x::r=>by
  have ih:=zfA v p r
  unfold zcc at ih ⊢
  simp only[List.map_cons,aput,PV.same,if_true,mPut]
  by_cases h:x.1=v
  ·simp[h]
  ·have h':¬v=x.1:=fun e=>h e.symm
   simp only[decide_eq_false h',if_neg h,List.map_cons]
   rw[ih]
theorem zpq{m:List (Int × PV)}{z:PV}{hp:Heap}{r:Nat}{s:Sh}{v:Int}(h:hp[r]? =some (.map none (zcc m))):zaR false none (.pv none z) false hp [.map r,.pv s (.int .i64 v)]=some (.pv none ((zfz v m).getD z)):=by
 have hf:=zei v m
 cases hm:zfz v m with
 |none=>rw[hm] at hf;exact zbo h hf
 |some x=>rw[hm] at hf;exact zct h hf
end Go.Proofs.YtiifblpdlphchaaGreatRR
namespace Go.Proofs.YtiifblpdlphchaaGreatRR
open Go.Am
def zej(l:List Int):List (Int × PV):=l.map fun v=>(v,.int .i64 1)
theorem zek(v:Int):∀l:List Int,(zfz v (zej l)).getD (.int .i64 0)=.int .i64 (if v∈l then 1 else 0)
 |[]=>rfl
 |x::r=>by
  have ih:=zek v r
  unfold zej at ih ⊢
  simp only[List.map_cons,zfz]
  by_cases h:x=v
  ·subst h;simp
  ·have h':¬v=x:=fun e=>h e.symm
   rw[if_neg h,ih]
   simp[h']
theorem zij(v:Int):∀l:List Int,v ∉ l->mPut v (.int .i64 1) (zej l)=zej (l++[v])
 |[],_=>rfl
 |x::r,h=>by
  have ih:=zij v r fun hm=>h (List.mem_cons_of_mem _ hm)
  unfold zej at ih ⊢
  simp only[List.map_cons,mPut,List.cons_append]
  have h':¬x=v:=fun e=>h (by rw[e];exact List.mem_cons_self)
  rw[if_neg h',ih]
def gV(t:Tm)(l:List Int):Heap:=[.box (some 4) (.pv (some 4) t.pv),.arr none [] false,.box none (.sl none 3 l.length 0 l.length),.arr none (ints l) false,.map none (zcc (zej l)),.box none (.map 4)]
theorem zpa(t0 u:Tm)(l:List Int)(ext:Heap)(hl:l.length<100000000):
  S 94 [u.av,.ptr 5 0,.ptr 2 0] (gV t0 l++ext)=some (.ret u.av,gV t0 (vadd l u.n)++ext):=by
 refine zaK rfl rfl rfl rfl ?_
 have hlim:l.length+1<=lim:=by unfold lim;omega
 by_cases hm:u.n∈l
 ·have e:vadd l u.n=l:=by simp[vadd,hm]
  rw[e]
  have hlk:∀(a0 a1 a2 a3 a5:AObj) (e:Heap),zaR false none (.pv none (.int .i64 0)) false (a0::a1::a2::a3::.map none (zcc (zej l))::a5::e) [.map 4,.pv none (.int .i64 u.n)]=some (.pv none (.int .i64 1)):=fun a0 a1 a2 a3 a5 e=>by
   rw[zpq (m:=zej l) rfl,zek,if_pos hm]
  simp -dsimp -implicitDefEqProofs only[go_sem,seval,↓reduceIte,gV,List.append_assoc,zam,zaj,zan,zak,Nat.add_assoc,List.length_append,Tm.av,za9,hlk]
  rw[if_pos (by simp[AV.refsIn])]
  simp
 ·have e:vadd l u.n=l++[u.n]:=by simp[vadd,hm]
  rw[e]
  have hlk:∀(a0 a1 a2 a3 a5:AObj) (e:Heap),zaR false none (.pv none (.int .i64 0)) false (a0::a1::a2::a3::.map none (zcc (zej l))::a5::e) [.map 4,.pv none (.int .i64 u.n)]=some (.pv none (.int .i64 0)):=fun a0 a1 a2 a3 a5 e=>by
   rw[zpq (m:=zej l) rfl,zek,if_neg hm]
  have hms:∀(a0 a1 a2 a3 a5:AObj) (e:Heap),zbB false none (a0::a1::a2::a3::.map none (zcc (zej l))::a5::e) [.map 4,.pv none (.int .i64 u.n),.pv none (.int .i64 1)]=some (.undef,a0::a1::a2::a3::.map none (zcc (zej (l++[u.n])))::a5::e):=fun a0 a1 a2 a3 a5 e=>by
   rw[zcu (es:=zcc (zej l)) rfl (zfA _ _ _),zij _ _ hm]
   rfl
  have hst:∀(n o' n':Nat) (a0 a1 a3 a4 a5:AObj) (e:Heap) (b:Nat),zaA none (b+6) (a0::a1::.box none (.sl none 3 n 0 n)::a3::a4::a5::e) [.ptr 2 0,.sl none 3 n' o' n']=some (.undef,a0::a1::.box none (.sl none 3 n' o' n')::a3::a4::a5::e):=fun n o' n' a0 a1 a3 a4 a5 e b=>zfJ (by omega) rfl
  simp -dsimp -implicitDefEqProofs only[go_sem,seval,↓reduceIte,gV,List.append_assoc,zam,zaj,zan,zak,Nat.add_assoc,List.length_append,Tm.av,za9,hlk,hms,hst,zeM,hlim,znK]
  rw[if_pos (by simp[AV.refsIn])]
  simp
theorem zlv(t0:Tm):∀(t:Tm) (l:List Int) (ext:Heap),t.fits=true->t.size<10000000->l.length+t.size<100000000->
  ∃v e,S 92 [t.av,.func (.func 94) [] [.ptr 5 0,.ptr 2 0]] (gV t0 l++ext)=some (.ret v,gV t0 (vads l t.occ)++(ext++e))/\v.shp=some 4/\v.plain=true/\
   ∃e2,AV.freeze deep v (gV t0 (vads l t.occ)++(ext++e))=some (t.pv,gV t0 (vads l t.occ)++(ext++e2)):=by
 intro t
 induction t using Tm.zry with
 |h t ih=>
  intro l ext hf ht hl
  have hts:=t.size_eq
  have hlen:=Tm.zrx t.args
  obtain⟨K,hK⟩:∃K:List Int->Heap,K=fun l=>gV t0 l++ext:=⟨_,rfl⟩
  have hKs:∀l,gV t0 l++ext=K l:=fun l=>by rw[hK]
  have hKl:∀l,(K l).length=ext.length+6:=fun l=>by rw[<-hKs];simp[gV]
  have hKa:∀l X,gV t0 l++(ext++X)=K l++X:=fun l X=>by rw[<-hKs,List.append_assoc]
  simp only[hKa,hKs]
  obtain⟨n,hn⟩:∃n,n=ext.length+6:=⟨_,rfl⟩
  rw[<-hn] at hKl
  rw[Tm.zrM]
  by_cases hk:t.kind=0
  ·rw[if_pos hk]
   have h1:=fun X=>zpa t0 t l (ext++X) (by omega)
   simp only[hKa] at h1
   have e1:vads l [t.n]=vadd l t.n:=rfl
   rw[e1]
   refine⟨t.av,[],?_,rfl,rfl,⟨[],rfl⟩⟩
   rw[List.append_nil]
   refine zaK rfl rfl rfl rfl ?_
   have hk':=eq_true hk
   simp only[Tm.av] at h1
   simp -dsimp -implicitDefEqProofs only[go_sem,seval,↓reduceIte,Tm.av,zaE,hk',h1,List.append_assoc,zam,zaj,zan,zak,Nat.add_assoc,List.length_append,hKl,getN (hKl _),zdP (hKl _),setN (hKl _),zdQ (hKl _)]
   rw[if_pos (by simp[AV.refsIn]),<-hKl (vadd l t.n)]
   exact List.take_left
  ·rw[if_neg hk]
   refine⟨.agg [(none,.pv none (.int .i64 t.kind)),(none,.pv none (.int .i64 t.n)),(none,.pv none (.str t.name)),(none,.sl (some 4) (n+5) t.args.length 0 t.args.length)],
    [.box (some 4) (.pv (some 4) t.pv),.box (some 4) (.agg [(none,.pv none (.int .i64 t.kind)),(none,.pv none (.int .i64 t.n)),(none,.pv none (.str t.name)),(none,.sl (some 4) (n+5) t.args.length 0 t.args.length)]),.arr (some 4) [] false,.box (some 4) (.agg [(none,.pv none (.int .i64 t.kind)),(none,.pv none (.int .i64 t.n)),(none,.pv none (.str t.name)),(none,.sl (some 4) (n+5) t.args.length 0 t.args.length)]),.arr (some 4) [] false,.arr (some 4) (Tm.pvs t.args) false],?_,rfl,rfl,?_⟩
   ·refine zaK rfl rfl rfl rfl ?_
    have hk':=eq_false hk
    have hb:zbg [(none,.pv none (.int .i64 0)),(none,.pv none (.int .i64 0)),(none,.pv none (.str [])),(none,.tsl (some 4) [])] [0,1,2] [.pv none (.int .i64 t.kind),.pv none (.int .i64 t.n),.pv none (.str t.name)]=some (.agg [(none,.pv none (.int .i64 t.kind)),(none,.pv none (.int .i64 t.n)),(none,.pv none (.str t.name)),(none,.tsl (some 4) [])]):=rfl
    have hle:∀k,n<=n+k:=fun k=>Nat.le_add_right _ _
    rw[hKl]
    simp -dsimp -implicitDefEqProofs only[go_sem,seval,↓reduceIte,Tm.av,zaE,za9,zaF,zaf,hk',Tm.pvs_len,hb,zag (Nat.le_add_right _ _),List.append_assoc,zam,zaj,zan,zak,Nat.add_assoc,List.length_append,hKl,getN (hKl _),zdP (hKl _),setN (hKl _),zdQ (hKl _)]
    refine zg0 (α:=Unit) t.args.length (fun _ _=>True) (fun i _=>⟨[(1,.func (.func 94) [] [.ptr 5 0,.ptr 2 0]),(4,.ptr (n+1) 0),(5,.ptr (n+3) 0),(22,.pv none (.sl (some 4) (Tm.pvs t.args))),(23,.pv none (.int .i64 t.args.length)),(24,.pv none (.int .i64 i))],K (vads l (Tm.occs (t.args.take i)))++appH n t i⟩) () ⟨trivial,?_⟩ ?_ ?_
    ·rw[List.take_zero]
     rfl
    ·rintro i - h -
     have hc:(i:Int)<(t.args.length:Int):=by omega
     obtain⟨u,hu⟩:∃u,t.args[i]? =some u:=⟨_,List.getElem?_eq_getElem h⟩
     have hum:=List.mem_of_getElem? hu
     have husz:=Tm.zrB hum
     have hst:=Tm.zrC hu
     have hle2:=Tm.zrz t.args (i+1)
     have hvl:=zkh (Tm.occs (t.args.take i)) l
     have hol:=Tm.zrR (t.args.take i)
     obtain⟨v,e,hcall,hvs,hvp,e2,hfz⟩:=ih u hum (vads l (Tm.occs (t.args.take i))) (ext++(appH n t i++[.box (some 4) (.pv (some 4) u.pv),.arr (some 4) [] false])) (Tm.zrK hf hum) (by omega) (by omega)
     rw[<-zeN,<-Tm.zrL hu] at hcall hfz
     simp only[List.append_assoc,hKa] at hcall hfz
     generalize vads l (Tm.occs (t.args.take (i+1)))=l2 at hcall hfz ⊢
     generalize vads l (Tm.occs (t.args.take i))=l1 at hcall hfz hvl ⊢
     have w2:IntKind.i64.wrap ((i:Int)+1)=((i+1:Nat):Int):=by rw[za5 (by omega) (by omega)];omega
     have hl:(Tm.pvs (t.args.take i)).length=i:=by rw[Tm.pvs_len,List.length_take];omega
     have hlim:i+1<=lim:=by unfold lim;omega
     have hbs:zaW (some 4) (K l2++(appH n t i++([.box (some 4) (.pv (some 4) u.pv),.arr (some 4) [] false]++e))) [v]=some (.tsl (some 4) [u.pv],K l2++(appH n t i++([.box (some 4) (.pv (some 4) u.pv),.arr (some 4) [] false]++e2))):=by
      simp only[zaW,zah,hfz,hvs,zaM,if_true]
     have hs1:∀(k k':List Int) (e e':Heap),zbP (K k++(appH n t i++e)) (K k'++(appH n t i++e')) (.ptr (n+3) 3)=true:=fun k k' e e'=>zfr (t:=t) (q:=n+5) (i:=i) (by rw[getN (hKl _)];rfl) (by rw[getN (hKl _)];rfl)
     simp only[Tm.av] at hcall
     simp only[appH,List.append_assoc,List.cons_append,List.nil_append] at hcall hbs hs1
     simp -dsimp -implicitDefEqProofs only[go_sem,seval,↓reduceIte,appH,hc,zat (Tm.pvs_get hu),zeh,List.take_succ_cons,List.drop_succ_cons,List.all_cons,List.all_nil,hcall,hbs,hs1,w2,hl,hlim,Tm.zrA hu,zag (Nat.le_add_right _ _),zbk (Nat.le_add_right _ _),List.append_assoc,zam,zaj,zan,zak,Nat.add_assoc,List.length_append,hKl,getN (hKl _),zdP (hKl _),setN (hKl _),zdQ (hKl _)]
     refine⟨(),?_⟩
     rw[zcs 6 (hKl _) rfl (by simp[AObj.refs,AV.ofComps,pures,AV.refsIn,AV.refsIn.go]) (by simp[AV.refsIn,AV.refsIn.gol])]
     rfl
    ·rintro - -
     have hc:¬(t.args.length:Int)<(t.args.length:Int):=by omega
     simp -dsimp -implicitDefEqProofs only[go_sem,seval,↓reduceIte,appH,hc,List.take_length,zay,zag (Nat.le_add_right _ _),zbk (Nat.le_add_right _ _),List.append_assoc,zam,zaj,zan,zak,Nat.add_assoc,List.length_append,hKl,getN (hKl _),zdP (hKl _),setN (hKl _),zdQ (hKl _)]
     rw[if_neg (by simp[AV.refsIn,AV.refsIn.go])]
   ·have e:∀l hp,AV.freeze (7+1) (.agg l) hp=match AV.freeze.go 7 l hp with|some (ps,hp')=>some (.agg ps,hp')|none=>none:=fun _ _=>rfl
    cases t with
    |mk k n' s ts=>
     refine⟨[.box (some 4) (.pv (some 4) (Tm.mk k n' s ts).pv),.box (some 4) (.agg [(none,.pv none (.int .i64 k)),(none,.pv none (.int .i64 n')),(none,.pv none (.str s)),(none,.sl (some 4) (n+5) ts.length 0 ts.length)]),.arr (some 4) [] false,.box (some 4) (.agg [(none,.pv none (.int .i64 k)),(none,.pv none (.int .i64 n')),(none,.pv none (.str s)),(none,.sl (some 4) (n+5) ts.length 0 ts.length)]),.arr (some 4) [] false,.arr (some 4) (Tm.pvs ts) true],?_⟩
     show AV.freeze (7+1) (.agg _) _=_
     simp[e,AV.freeze.go,AV.freeze,getN (hKl _),setN (hKl _),Tm.kind,Tm.n,Tm.name,Tm.args,Tm.pvs_len,Tm.pv]
theorem zpb(t:Tm)(hv:t.valid=true)(hp:Heap):S 49 [t.av] hp=some (.ret (.pv none (.sl none (ints (vads [] t.occ)))),hp):=by
 refine zaq rfl rfl rfl (zac [(some 4,t.pv)]) rfl ?_
 have hsz:=valid_size hv
 have h1:=fun hp=>zcA t hp (by omega)
 rw[hv] at h1
 have hn0:∀H:Heap,zcD none H=some (.sl none H.length 0 0 0,H++[.arr none [] false]):=fun H=>zbF (sh:=none) (by decide)
 obtain⟨v,e,h2,_,_,e2,hfz⟩:=zlv t t [] [] (valid_fits hv) (by omega) (by simp;omega)
 generalize vads [] t.occ=l at*
 simp only[Tm.av] at h1 h2
 have hmk:∀(a0 a1 a2 a3:AObj),zaA none 0 [a0,a1,a2,a3,.map none [],.box none (.pv none .nilmap)] [.ptr 5 0,.map 4]=some (.undef,[a0,a1,a2,a3,.map none [],.box none (.map 4)]):=fun _ _ _ _=>rfl
 have e0:gV t []++[]=[.box (some 4) (.pv (some 4) t.pv),.arr none [] false,.box none (.sl none 3 0 0 0),.arr none [] false,.map none [],.box none (.map 4)]:=rfl
 rw[e0] at h2
 simp only[gV,List.nil_append,List.cons_append] at h2
 have hal:∀a0 a1:AObj,zb1 none (.tsl none []) [a0,a1] []=some (.ptr 2 0,[a0,a1,.box none (.sl none 3 0 0 0),.arr none [] false]):=fun _ _=>rfl
 have hfr:∀(a0 a1 a2 a4 a5:AObj),Am.frozen (.pv none (.sl none (ints l))) (.sl none 3 l.length 0 l.length) (a0::a1::a2::.arr none (ints l) false::a4::a5::e):=fun a0 a1 a2 a4 a5=>zlw (.inr ⟨3,rfl,rfl⟩)
 simp -dsimp -implicitDefEqProofs only[go_sem,seval,↓reduceIte,Tm.av,h1,hn0,hal,hmk,h2]
 exact hfr _ _ _ _ _
end Go.Proofs.YtiifblpdlphchaaGreatRR
namespace Go.Proofs.YtiifblpdlphchaaGreatRR
open Go.Am
def posF:Nat->List Int->List (Int × PV)
 |_,[]=>[]
 |k,x::r=>(x,.int .i64 (k:Int))::posF (k+1) r
theorem zj9:∀(l:List Int) (k:Nat),(posF k l).length=l.length
 |[],_=>rfl
 |x::r,k=>by rw[posF,List.length_cons,zj9 r];rfl
theorem zft(v:Int):∀(l:List Int) (k:Nat),zfz v (posF k l)=if v∈l then some (.int .i64 ((k+l.idxOf v:Nat):Int)) else none
 |[],_=>rfl
 |x::r,k=>by
  rw[posF,zfz,zft v r]
  by_cases h:x=v
  ·subst h
   simp
  ·have h':¬v=x:=fun e=>h e.symm
   simp only[if_neg h,List.mem_cons,h',false_or]
   rw[List.idxOf_cons]
   have hb:(x == v)=false:=by simpa using h
   rw[hb]
   simp only[cond_false]
   split
   ·congr 2
    omega
   ·rfl
theorem zka(v:Int):∀(l:List Int) (k:Nat),v ∉ l->mPut v (.int .i64 ((k+l.length:Nat):Int)) (posF k l)=posF k (l++[v])
 |[],k,_=>rfl
 |x::r,k,h=>by
  have h':¬x=v:=fun e=>h (by rw[e];exact List.mem_cons_self)
  have ih:=zka v r (k+1) fun hm=>h (List.mem_cons_of_mem _ hm)
  rw[posF,mPut,if_neg h',List.cons_append,posF,<-ih,List.length_cons]
  congr 4
  omega
theorem znv{v:Int}:∀{l L:List Int},v∈l->l <+: L->L.idxOf v=l.idxOf v
 |[],_,h,_=>by cases h
 |x::r,L,h,hp=>by
  obtain⟨m,rfl⟩:=hp
  rw[List.cons_append,List.idxOf_cons,List.idxOf_cons]
  cases hb:x == v with
  |true=>rfl
  |false=>
   simp only[cond_false]
   have hx:¬x=v:=by simpa using hb
   have hm:v∈r:=(List.mem_cons.1 h).resolve_left fun e=>hx e.symm
   rw[znv hm ⟨m,rfl⟩]
theorem zkb{v:Int}:∀{l:List Int},v ∉ l->(l++[v]).idxOf v=l.length
 |[],_=>by simp[List.idxOf_cons]
 |x::r,h=>by
  have h':¬x=v:=fun e=>h (by rw[e];exact List.mem_cons_self)
  rw[List.cons_append,List.idxOf_cons,beq_eq_false_iff_ne.2 h',List.length_cons]
  simp only[cond_false]
  rw[zkb fun hm=>h (List.mem_cons_of_mem _ hm)]
theorem zoT(l:List Int)(v:Int):l <+: vadd l v:=by
 unfold vadd
 split
 ·exact List.prefix_refl _
 ·exact List.prefix_append _ _
theorem zkc:∀(ws l:List Int),l <+: vads l ws
 |[],l=>List.prefix_refl _
 |w::r,l=>(zoT l w).trans (zkc r (vadd l w))
def cPos(L:List Int)(v:Int):Tm:=tvar (L.idxOf v:Int)
def canT(t:Tm):Tm:=Tm.sub (cPos (vads [] t.occ)) t
theorem zoU(l:List Int)(v:Int):v∈vadd l v:=by
 unfold vadd
 split
 ·assumption
 ·simp
theorem zjr{L:List Int}{t:Tm}(hk:¬t.kind=0):Tm.sub (cPos L) t=.mk t.kind t.n t.name (t.args.map (Tm.sub (cPos L))):=by
 rw[Tm.zrP,if_neg hk]
end Go.Proofs.YtiifblpdlphchaaGreatRR
