/- What is proved: what slices.Insert does at one type. -/
import Derived.Test.YtiifblpdlphchaaGreatRRProg
import Derived.Shelf.Spec.SlicesInsertGrow
import Derived.Test.YtiifblpdlphchaaGreatRRAm4
import Derived.Test.YtiifblpdlphchaaGreatRRAm2
import Derived.Test.YtiifblpdlphchaaGreatRRRows
import Derived.Test.YtiifblpdlphchaaGreatRRFns
set_option linter.unusedVariables false
set_option linter.unusedSimpArgs false
namespace Go.Proofs.YtiifblpdlphchaaGreatRR
open Go Go.Am Go.Proofs Go.Lib Go.RowKit
theorem t3:Tryz.prog.underlying 3=some (TypeDesc.int IntKind.i64):=by kernel_rfl
theorem a3:∀w,(isAgg 3).run Tryz.prog w=.ok false w:=fun w=>by kernel_rfl
theorem z3:∀w,(Go.sizeOf 3).run Tryz.prog w=.ok 1 w:=fun w=>by kernel_rfl
theorem v3:∀w,(zeroValue 3).run Tryz.prog w=.ok (Value.int IntKind.i64 0) w:=fun w=>by kernel_rfl
theorem t4:Tryz.prog.underlying 4=some TypeDesc.bool:=by kernel_rfl
theorem a4:∀w,(isAgg 4).run Tryz.prog w=.ok false w:=fun w=>by kernel_rfl
theorem z4:∀w,(Go.sizeOf 4).run Tryz.prog w=.ok 1 w:=fun w=>by kernel_rfl
theorem v4:∀w,(zeroValue 4).run Tryz.prog w=.ok (Value.bool false) w:=fun w=>by kernel_rfl
theorem tS:Tryz.prog.underlying 41=some (TypeDesc.slice 115):=by kernel_rfl
theorem aS:∀w,(isAgg 41).run Tryz.prog w=.ok false w:=fun w=>by kernel_rfl
theorem zS:∀w,(Go.sizeOf 41).run Tryz.prog w=.ok 1 w:=fun w=>by kernel_rfl
theorem vS:∀w,(zeroValue 41).run Tryz.prog w=.ok (Value.slice none 0 0) w:=fun w=>by kernel_rfl
theorem zE:∀w,(Go.sizeOf 115).run Tryz.prog w=.ok 5 w:=fun w=>by kernel_rfl
theorem iE:(Tryz.prog.info? 115).map (·.size)=some 5:=by kernel_rfl
theorem zsN{α:Type}(C:List α)(p q:Nat)(hpq:p<=q)(hq:q<=C.length)(R:List α):(C.take q++R).take p=C.take p/\(C.take q++R).drop q=R:=by
 have hl:(C.take q).length=q:=by simp;omega
 refine⟨?_,?_⟩
 ·rw[List.take_append_of_le_length (by omega),List.take_take]
  congr 1
  omega
 ·exact List.drop_left' hl
set_option maxHeartbeats 4000000 in
set_option maxRecDepth 100000 in
theorem zqQ(b n c i vb voff m vc:Nat)(cur:Array Value)(t:TypeId)(vs:List Value)(w:World)(hi:i<n)(hm:0<m)(hroom:n+m<=c)(hlim:n+m<=lim)(hvb:vb≠b)
  (hg:w.heap[b]? =some (.cells cur t (0,0)))(hcs:cur.size=c*5)(hvl:vs.length=m*5)(h1:∀v∈(cur.toList.drop (i*5)).take ((n - i)*5),v.oneCell'=true)
  (hvs:∀j v,vs[j]? =some v->w.cell? ⟨vb,voff+j,none⟩=some v)(h1v:∀v∈vs,v.oneCell'=true)
  (tA:TypeId)(kA:Nat)(hsa:w.shape? vb=some (tA,kA))(hkA:kA≠0):
  ∃cur2:Array Value,cur2.toList=cur.toList.take (i*5)++vs++(cur.toList.drop (i*5)).take ((n - i)*5)++cur.toList.drop ((n+m)*5)/\
  Calls Tryz.prog 146 #[.slice (some ⟨b,0,none⟩) n c,.int .i64 i,.slice (some ⟨vb,voff,none⟩) m vc] w fun e w'=>
   e=.returned (.slice (some ⟨b,0,none⟩) (n+m) c)/\∃cur1,w'=(w.drew.setRow b cur1).setRow b cur2:=by
 have t3:=t3;have a3:=a3;have z3:=z3;have v3:=v3;have t4:=t4;have a4:=a4;have z4:=z4;have v4:=v4;have tS:=tS;have aS:=aS;have zS:=zS;have vS:=vS;have zE:=zE
 have u3:=run_underlying t3;have u4:=run_underlying t4;have uS:=run_underlying tS
 have hlim':n+m<=1073741824:=hlim
 have hov:∀lb cb x,(callFunc 153 #[.slice (some ⟨vb,voff,none⟩) m vc,.slice (some ⟨b,x,none⟩) lb cb]).run Tryz.prog w=.ok (.value (.bool false)) w:=fun lb cb x=>by
  have hfr:∀o,w.frozen? ⟨b,o,none⟩=false:=fun o=>by simp[World.frozen?,hg]
  rw[run_callFunc_extern Tryz.func153 (by kernel_rfl) (by kernel_rfl) (by kernel_rfl) (e:=Extern.SlicesOverlaps.overlaps #[41,41] #[4]) (by kernel_rfl),
   zf3 w 41 4 115 tS 5 zE ⟨vb,voff,none⟩ ⟨b,x,none⟩ m vc lb cb hvb tA t kA cur.size hsa (by simp[World.shape?,hg]) hkA (by omega) hfr (hfr x)]
  rfl
 have hz1:¬((m:Int)=0):=by omega
 have hz2:¬((i:Int)=(n:Int)):=by omega
 have hw1:IntKind.i64.wrap ((i:Int)+(m:Int))=(i:Int)+(m:Int):=by rw[IntKind.wrap_i64];omega
 have hb1:(0:Int)<=(i:Int)+(m:Int):=by omega
 have hin:i<=n:=by omega
 have htn:((i:Int)+(m:Int)).toNat=i+m:=by omega
 have hb2:¬(c=i+m):=by omega
 have hb3:(i:Int)<=(n:Int)+(m:Int):=by omega
 have hb4:¬(c=i):=by omega
 have hcell:∀(W:World) (j:Nat),W.heap=w.heap->W.cell? ⟨b,j,none⟩=cur.toList[j]? :=fun W j h=>by
  simp[World.cell?,h,hg]
 have hcp1:∃cur1:Array Value,cur1.toList=cur.toList.take ((i+m)*5)++(cur.toList.drop (i*5)).take ((n - i)*5)++cur.toList.drop ((n+m)*5)/\∀ty dc sc,(Builtin.copy_ #[41,41] ty #[.slice (some ⟨b,(i+m)*5,none⟩) (n+m - (i+m)) dc,.slice (some ⟨b,i*5,none⟩) (n+m - i) sc]).run Tryz.prog w.drew=.ok (goInt ((n - i:Nat):Int)) (w.drew.setRow b cur1):=by
  obtain⟨cs1,hcs1⟩:∃cs1,cs1=(cur.toList.drop (i*5)).take ((n - i)*5):=⟨_,rfl⟩
  have hl1:cs1.length=(n - i)*5:=by rw[hcs1];simp;omega
  have hmin:Nat.min (n+m - i) (n+m - (i+m))=n - i:=by simp only[Nat.min_def];split <;> omega
  have h:=fun ty dc sc=>
   zcf w.drew 41 41 ty 115 b ((i+m)*5) (n+m - (i+m)) dc ⟨b,i*5,none⟩ (n+m - i) sc 5 cur t cs1 tS iE hg (by rw[hl1,hmin])
   (fun j v hj=>by
    have ha:(⟨b,i*5,none⟩:Addr).add j=⟨b,i*5+j,none⟩:=by unfold Addr.add;split <;> simp_all
    rw[ha,hcell w.drew _ rfl]
    rw[hcs1,List.getElem?_take] at hj
    split at hj
    ·rwa [List.getElem?_drop] at hj
    ·cases hj)
   (by rw[hl1,hcs];omega) (fun v hv=>h1 v (by rw[hcs1] at hv;exact hv))
  refine⟨(cur.toList.take ((i+m)*5)++cs1++cur.toList.drop ((i+m)*5+cs1.length)).toArray,?_,fun ty dc sc=> ?_⟩
  ·rw[hl1,hcs1,show(i+m)*5+(n - i)*5=(n+m)*5 by omega]
  ·rw[h,hmin]
 obtain⟨cur1,hcur1,hcp1⟩:=hcp1
 have hcur1l:cur1.size=cur.size:=by
  have:=congrArg List.length hcur1
  simp at this
  omega
 have hne:∀x,x≠b->(w.drew.setRow b cur1).heap[x]? =w.heap[x]? :=fun x hx=>by
  simp[World.setRow,Array.getElem?_modify,Ne.symm hx]
  rfl
 have hg1:(w.drew.setRow b cur1).heap[b]? =some (.cells cur1 t (0,0)):=setRow_heap w.drew b cur cur1 t _ hg
 have hcp2:∃cur2:Array Value,cur2.toList=cur1.toList.take (i*5)++vs++cur1.toList.drop (i*5+m*5)/\∀ty dc,(Builtin.copy_ #[41,41] ty #[.slice (some ⟨b,i*5,none⟩) (n+m - i) dc,.slice (some ⟨vb,voff,none⟩) m vc]).run Tryz.prog (w.drew.setRow b cur1)=.ok (goInt m) ((w.drew.setRow b cur1).setRow b cur2):=by
  have hmin:Nat.min m (n+m - i)=m:=by simp only[Nat.min_def];split <;> omega
  have h:=fun ty dc=>
   zcf (w.drew.setRow b cur1) 41 41 ty 115 b (i*5) (n+m - i) dc ⟨vb,voff,none⟩ m vc 5 cur1 t vs tS iE hg1 (by rw[hvl,hmin])
   (fun j v hj=>by
    have ha:(⟨vb,voff,none⟩:Addr).add j=⟨vb,voff+j,none⟩:=by unfold Addr.add;split <;> simp_all
    rw[ha]
    have:=hvs j v hj
    unfold World.cell? at this ⊢
    rw[hne vb hvb]
    exact this)
   (by rw[hvl,hcur1l,hcs];omega) h1v
  refine⟨(cur1.toList.take (i*5)++vs++cur1.toList.drop (i*5+vs.length)).toArray,?_,fun ty dc=> ?_⟩
  ·rw[hvl]
  ·rw[h,hmin]
 obtain⟨cur2,hcur2,hcp2⟩:=hcp2
 have hfin:cur2.toList=cur.toList.take (i*5)++vs++(cur.toList.drop (i*5)).take ((n - i)*5)++cur.toList.drop ((n+m)*5):=by
  rw[hcur2,hcur1]
  simp only[List.append_assoc]
  obtain⟨e1,e2⟩:=zsN cur.toList (i*5) ((i+m)*5) (by omega) (by simp;omega) ((cur.toList.drop (i*5)).take ((n - i)*5)++cur.toList.drop ((n+m)*5))
  rw[e1,show i*5+m*5=(i+m)*5 by omega,e2]
 refine⟨cur2,hfin,?_⟩
 clear hcur1 hcur2 hfin
 have mixed:Tryz.prog.follows .mixedOrders=true:=by kernel_rfl
 go_enter Tryz.func146,Tryz.f146
 go_wp2_with (simp only[hov])
 go_region_law_o (refine step_copy_runI rfl _ _ 41 41 rfl _ _ (by simp[Act.eval,Act.put]) (by simp[Act.eval,Act.put]) (hcp1 _ _ _) ?_)
 go_wp2_with (at_builtin;refine wpList_copy_runI _ rfl _ _ 41 41 rfl _ _ rfl rfl (hcp2 _ _) ?_)
 go_ret
 exact⟨rfl,cur1,rfl⟩
set_option maxHeartbeats 4000000 in
set_option maxRecDepth 100000 in
theorem zsO(b n c i vb voff m vc:Nat)(cur:Array Value)(t:TypeId)(vs:List Value)(w:World)(hi:i<n)(hm:0<m)(hnc:n<=c)(hroom:c<n+m)(hlim:n+m<=lim)(hvb:vb<w.heap.size)
  (hg:w.heap[b]? =some (.cells cur t (0,0)))(hcs:cur.size=c*5)(hvl:vs.length=m*5)(h1:∀v∈(cur.toList.drop (i*5)).take ((n - i)*5),v.oneCell'=true)
  (hvs:∀j v,vs[j]? =some v->w.cell? ⟨vb,voff+j,none⟩=some v)(h1v:∀v∈vs,v.oneCell'=true)
  (hok:okT Tryz.prog 115=true)(hz:zbv Tryz.prog 115=true)(hby:zbJ Tryz.prog 115=true)(hshE:(shOf Tryz.prog 115).size=5):
  ∃(row:Array Value) (G:Nat),n+m<=G/\row.size=G*5/\row.toList.take ((n+m)*5)=cur.toList.take (i*5)++vs++(cur.toList.drop (i*5)).take ((n - i)*5)/\
  Calls Tryz.prog 146 #[.slice (some ⟨b,0,none⟩) n c,.int .i64 i,.slice (some ⟨vb,voff,none⟩) m vc] w fun e w'=>
   e=.returned (.slice (some ⟨w.heap.size,0,none⟩) (n+m) G)/\w'.heap[w.heap.size]? =some (.cells row 115 (0,0))/\w'.heap.size=w.heap.size+1/\(∀x,x<w.heap.size->w'.heap[x]? =w.heap[x]?)/\w'.os=w.os/\w'.tape=w.tape/\w'.output=w.output:=by
 have t3:=t3;have a3:=a3;have z3:=z3;have v3:=v3;have t4:=t4;have a4:=a4;have z4:=z4;have v4:=v4;have tS:=tS;have aS:=aS;have zS:=zS;have vS:=vS;have zE:=zE
 have u3:=run_underlying t3;have u4:=run_underlying t4;have uS:=run_underlying tS
 obtain⟨i0,z0,hi0,hz0,hs0,hzc⟩:=okE w hok hz
 rw[hshE] at hs0 hzc
 have hb:i0.bytes<=1024:=by
  unfold zbJ at hby
  rw[hi0] at hby
  simpa using hby
 have hbb:(n+m)*i0.bytes<=140737488355328:=by
  have:(n+m)*i0.bytes<=lim*1024:=Nat.mul_le_mul hlim hb
  unfold lim at this
  omega
 have hlim':n+m<=1073741824:=hlim
 have hbN:b<w.heap.size:=zaQ hg
 have hz1:¬((m:Int)=0):=by omega
 have hz2:¬((i:Int)=(n:Int)):=by omega
 have hz3:(c:Int)<(n:Int)+(m:Int):=by omega
 have hkk:(n:Int)+(m:Int) - (i:Int)=((n+m - i:Nat):Int):=by omega
 have hik:i+(n+m - i)=n+m:=by omega
 have hold:(Builtin.firstCells i0.size i (.slice (some ⟨b,0,none⟩) i c)).run Tryz.prog w.drew=.ok (cur.toList.take (i*5)).toArray w.drew:=by
  rw[hs0]
  refine run_firstCells_some w.drew 5 i ⟨b,0,none⟩ i c (cur.toList.take (i*5)) (by simp;omega) fun j v hj=> ?_
  have ha:(⟨b,0,none⟩:Addr).add j=⟨b,j,none⟩:=by unfold Addr.add;split <;> simp_all
  rw[ha]
  rw[List.getElem?_take] at hj
  split at hj
  ·have hg':w.drew.heap[b]? =some (.cells cur t (0,0)):=hg
   simpa[World.cell?,hg'] using hj
  ·cases hj
 obtain⟨G,hG⟩:∃G,grownCap w (n+m) c 115=G:=⟨_,rfl⟩
 obtain⟨ROW,hROW⟩:∃ROW:Array Value,(cur.toList.take (i*5)).toArray++Builtin.zeroCells z0.cells (n+m - i)++Builtin.zeroCells z0.cells (G - (n+m))=ROW:=⟨_,rfl⟩
 have hGn:n+m<=G:=by rw[<-hG];exact grownCap_ge w _ _ _
 have hRl:ROW.size=G*5:=by
  rw[<-hROW]
  simp only[Array.size_append,List.size_toArray,size_zeroCells,hzc,List.length_take,Array.length_toList]
  omega
 have hRt:ROW.toList.take (i*5)=cur.toList.take (i*5):=by
  rw[<-hROW]
  simp only[Array.toList_append,List.append_assoc]
  exact List.take_left' (by simp;omega)
 have hrz:∀ty,(Builtin.append_ #[41,3] ty #[.slice (some ⟨b,0,none⟩) i c,.int .i64 ((n:Int)+(m:Int) - (i:Int))]).run Tryz.prog w=
   .ok (.slice (some ⟨w.heap.size,0,none⟩) (n+m) G) (w.drew.alloc (.cells ROW 115)):=fun ty=>by
  have h:=Lib.run_append_grow_zeros w 41 3 ty 115 i0 z0 .i64 .i64 tS t3 hi0 hz0 (some ⟨b,0,none⟩) i c (cur.toList.take (i*5)) hold (n+m - i) (by omega) (by rw[hs0];omega) (by omega) (by omega)
   (by have:(n+m - i)*i0.bytes<=(n+m)*i0.bytes:=Nat.mul_le_mul (by omega) (Nat.le_refl _);omega) (by rw[hik];exact growslice_fits hroom hbb)
  rw[hik,hG] at h
  rw[hkk,<-hROW]
  exact h
 have hd1:ROW.toList.length=G*5:=by simpa using hRl
 have hGn':(n+m)*5<=G*5:=Nat.mul_le_mul hGn (Nat.le_refl _)
 have hcpA:∃row1:Array Value,row1.toList=ROW.toList.take (i*5)++vs++ROW.toList.drop (i*5+m*5)/\∀W:World,W.heap[w.heap.size]? =some (.cells ROW 115 (0,0))->W.heap[vb]? =w.heap[vb]?->∀ty dc,(Builtin.copy_ #[41,41] ty #[.slice (some ⟨w.heap.size,i*5,none⟩) (n+m - i) dc,.slice (some ⟨vb,voff,none⟩) m vc]).run Tryz.prog W=.ok (goInt m) (W.setRow w.heap.size row1):=by
  have hmin:Nat.min m (n+m - i)=m:=by simp only[Nat.min_def];split <;> omega
  refine⟨(ROW.toList.take (i*5)++vs++ROW.toList.drop (i*5+vs.length)).toArray,by rw[hvl],fun W hN hV ty dc=> ?_⟩
  have h:=zcf W 41 41 ty 115 w.heap.size (i*5) (n+m - i) dc ⟨vb,voff,none⟩ m vc 5 ROW 115 vs tS iE hN (by rw[hvl,hmin])
   (fun j v hj=>by
    have ha:(⟨vb,voff,none⟩:Addr).add j=⟨vb,voff+j,none⟩:=by unfold Addr.add;split <;> simp_all
    rw[ha]
    have:=hvs j v hj
    unfold World.cell? at this ⊢
    rw[hV]
    exact this)
   (by rw[hvl,hRl];omega) h1v
  rw[h,hmin]
 obtain⟨row1,hrow1,hcpA⟩:=hcpA
 have hr1l:row1.size=G*5:=by
  have:=congrArg List.length hrow1
  simp at this
  omega
 have hcpB:∃row2:Array Value,row2.toList=row1.toList.take ((i+m)*5)++(cur.toList.drop (i*5)).take ((n - i)*5)++row1.toList.drop ((n+m)*5)/\∀W:World,W.heap[w.heap.size]? =some (.cells row1 115 (0,0))->W.heap[b]? =some (.cells cur t (0,0))->∀ty dc sc,(Builtin.copy_ #[41,41] ty #[.slice (some ⟨w.heap.size,(i+m)*5,none⟩) (n+m - (i+m)) dc,.slice (some ⟨b,i*5,none⟩) (n - i) sc]).run Tryz.prog W=.ok (goInt ((n - i:Nat):Int)) (W.setRow w.heap.size row2):=by
  obtain⟨cs1,hcs1⟩:∃cs1,cs1=(cur.toList.drop (i*5)).take ((n - i)*5):=⟨_,rfl⟩
  have hl1:cs1.length=(n - i)*5:=by rw[hcs1];simp;omega
  have hmin:Nat.min (n - i) (n+m - (i+m))=n - i:=by simp only[Nat.min_def];split <;> omega
  refine⟨(row1.toList.take ((i+m)*5)++cs1++row1.toList.drop ((i+m)*5+cs1.length)).toArray,by rw[hl1,hcs1,show(i+m)*5+(n - i)*5=(n+m)*5 by omega],fun W hN hB ty dc sc=> ?_⟩
  have h:=zcf W 41 41 ty 115 w.heap.size ((i+m)*5) (n+m - (i+m)) dc ⟨b,i*5,none⟩ (n - i) sc 5 row1 115 cs1 tS iE hN (by rw[hl1,hmin])
   (fun j v hj=>by
    have ha:(⟨b,i*5,none⟩:Addr).add j=⟨b,i*5+j,none⟩:=by unfold Addr.add;split <;> simp_all
    rw[ha]
    rw[hcs1,List.getElem?_take] at hj
    split at hj
    ·rw[List.getElem?_drop] at hj
     simpa[World.cell?,hB] using hj
    ·cases hj)
   (by rw[hl1,hr1l];omega) (fun v hv=>h1 v (by rw[hcs1] at hv;exact hv))
  rw[h,hmin]
 obtain⟨row2,hrow2,hcpB⟩:=hcpB
 have hfin:row2.toList.take ((n+m)*5)=cur.toList.take (i*5)++vs++(cur.toList.drop (i*5)).take ((n - i)*5):=by
  have e0:row1.toList.take ((i+m)*5)=cur.toList.take (i*5)++vs:=by
   rw[hrow1,hRt]
   exact List.take_left' (by simp[hvl];omega)
  rw[hrow2,e0]
  exact List.take_left' (by simp[hvl];omega)
 have hr2l:row2.size=G*5:=by
  have:=congrArg List.length hrow2
  simp at this
  omega
 have hA1:(w.drew.alloc (.cells ROW 115)).heap[w.heap.size]? =some (.cells ROW 115 (0,0)):=zaK w.drew _
 have hA2:∀x,x<w.heap.size->(w.drew.alloc (.cells ROW 115)).heap[x]? =w.heap[x]? :=fun x hx=>zaN w.drew _ hx
 have hA3:(w.drew.alloc (.cells ROW 115)).heap.size=w.heap.size+1:=by
  show(w.drew.heap.push _).size=_
  rw[Array.size_push]
  rfl
 refine⟨row2,G,hGn,hr2l,hfin,?_⟩
 have hG63:G<=9223372036854775807:=by
  have:=grownCap_le_maxLen w (n+m) c 115 (by unfold maxLen;omega)
  rw[hG] at this
  unfold maxLen at this
  omega
 have hGi:¬(G=i):=by omega
 have hGim:¬(G=i+m):=by omega
 have hci:¬(c=i):=by omega
 have hw1:IntKind.i64.wrap ((i:Int)+(m:Int))=(i:Int)+(m:Int):=by rw[IntKind.wrap_i64];omega
 have hw2:IntKind.i64.wrap ((n:Int)+(m:Int))=(n:Int)+(m:Int):=by rw[IntKind.wrap_i64];omega
 have hw3:IntKind.i64.wrap ((n:Int)+(m:Int) - (i:Int))=(n:Int)+(m:Int) - (i:Int):=by rw[IntKind.wrap_i64];omega
 have hb1:(0:Int)<=(i:Int)+(m:Int):=by omega
 have hin:i<=n:=by omega
 have htn:((i:Int)+(m:Int)).toNat=i+m:=by omega
 have hb3:(i:Int)<=(n:Int):=by omega
 clear hkk hik hold hrow1 hrow2 hfin hRt hd1 hROW hG
 have mixed:Tryz.prog.follows .mixedOrders=true:=by kernel_rfl
 go_enter Tryz.func146,Tryz.f146
 go_wp2_with (at_builtin;refine Lib.wpList_append_run _ rfl _ _ _ _ rfl _ _ rfl rfl _ _ (hrz _) ?_)
 have hA1':((w.alloc (.cells ROW 115)).drew).heap[w.heap.size]? =some (.cells ROW 115 (0,0)):=hA1
 have hA2':∀x,x<w.heap.size->((w.alloc (.cells ROW 115)).drew).heap[x]? =w.heap[x]? :=hA2
 have hA3':((w.alloc (.cells ROW 115)).drew).heap.size=w.heap.size+1:=hA3
 have hA4':((w.alloc (.cells ROW 115)).drew).os=w.os/\((w.alloc (.cells ROW 115)).drew).tape=w.tape/\((w.alloc (.cells ROW 115)).drew).output=w.output:=⟨rfl,rfl,rfl⟩
 rw[hcpA _ hA1' (hA2' _ hvb)]
 generalize (w.alloc (.cells ROW 115)).drew=W0 at*
 have hB1:(W0.setRow w.heap.size row1).heap[w.heap.size]? =some (.cells row1 115 (0,0)):=setRow_heap W0 w.heap.size ROW row1 115 _ hA1'
 have hB2:∀x,x<w.heap.size->(W0.setRow w.heap.size row1).heap[x]? =w.heap[x]? :=fun x hx=>by
  rw[<-hA2' x hx]
  have:w.heap.size≠x:=by omega
  simp[World.setRow,Array.getElem?_modify,this]
 have hB3:(W0.setRow w.heap.size row1).heap.size=w.heap.size+1:=by rw[<-hA3'];simp[World.setRow]
 have hB4:(W0.setRow w.heap.size row1).os=w.os/\(W0.setRow w.heap.size row1).tape=w.tape/\(W0.setRow w.heap.size row1).output=w.output:=hA4'
 generalize W0.setRow w.heap.size row1=W1 at*
 clear hA1' hA2' hA3' hA4' hcpA hrz hA1 hA2 hA3
 go_wp2
 have hD1:W1.drew.heap[w.heap.size]? =some (.cells row1 115 (0,0)):=hB1
 have hD2:W1.drew.heap[b]? =some (.cells cur t (0,0)):=by rw[<-hg];exact hB2 b hbN
 go_region_law_o (refine step_copy_runI rfl _ _ 41 41 rfl (.slice (some ⟨w.heap.size,(i+m)*5,none⟩) (n+m - (i+m)) (G - (i+m))) (.slice (some ⟨b,i*5,none⟩) (n - i) (c - i)) (by simp[Act.eval,Act.put]) (by simp[Act.eval,Act.put]) (hcpB W1.drew hD1 hD2 3 (G - (i+m)) (c - i)) ?_)
 have hE1:(W1.drew.setRow w.heap.size row2).heap[w.heap.size]? =some (.cells row2 115 (0,0)):=setRow_heap W1.drew w.heap.size row1 row2 115 _ hD1
 have hE2:∀x,x<w.heap.size->(W1.drew.setRow w.heap.size row2).heap[x]? =w.heap[x]? :=fun x hx=>by
  rw[<-hB2 x hx]
  have:w.heap.size≠x:=by omega
  simp[World.setRow,Array.getElem?_modify,this]
  rfl
 have hE3:(W1.drew.setRow w.heap.size row2).heap.size=w.heap.size+1:=by
  rw[<-hB3]
  show(W1.heap.modify _ _).size=_
  rw[Array.size_modify]
 have hE4:(W1.drew.setRow w.heap.size row2).os=w.os/\(W1.drew.setRow w.heap.size row2).tape=w.tape/\(W1.drew.setRow w.heap.size row2).output=w.output:=hB4
 generalize W1.drew.setRow w.heap.size row2=W2 at*
 clear hD1 hD2 hB1 hB2 hB3 hB4 hcpB
 go_wp2
 go_ret
 exact⟨rfl,hE1,hE3,hE2,hE4⟩
set_option maxHeartbeats 4000000 in
set_option maxRecDepth 100000 in
theorem zuA(base:Option Addr)(n c vb voff m vc:Nat)(w w':World)(v':Value)(hm:0<m)(hnc:n<=c)(hlim:n<=lim)(hrun:(Builtin.append_ #[41,41] 41 #[.slice base n c,.slice (some ⟨vb,voff,none⟩) m vc]).run Tryz.prog w=.ok v' w'):
  Calls Tryz.prog 146 #[.slice base n c,.int .i64 n,.slice (some ⟨vb,voff,none⟩) m vc] w fun E W=>E=.returned v'/\W=w':=by
 have t3:=t3;have a3:=a3;have z3:=z3;have v3:=v3;have t4:=t4;have a4:=a4;have z4:=z4;have v4:=v4;have tS:=tS;have aS:=aS;have zS:=zS;have vS:=vS;have zE:=zE
 have u3:=run_underlying t3;have u4:=run_underlying t4;have uS:=run_underlying tS
 have hlim':n<=1073741824:=hlim
 have hz1:¬((m:Int)=0):=by omega
 have mixed:Tryz.prog.follows .mixedOrders=true:=by kernel_rfl
 go_enter Tryz.func146,Tryz.f146
 cases base with
 |none=>
  go_wp2_with (at_builtin;refine Lib.wpList_append_run _ rfl _ _ _ _ rfl _ _ rfl rfl _ _ hrun ?_)
  all_goals (go_ret;exact⟨rfl,rfl⟩)
 |some a=>
  obtain⟨ab,ao,asp⟩:=a
  go_wp2_with (at_builtin;refine Lib.wpList_append_run _ rfl _ _ _ _ rfl _ _ rfl rfl _ _ hrun ?_)
  all_goals (go_ret;exact⟨rfl,rfl⟩)
end Go.Proofs.YtiifblpdlphchaaGreatRR
namespace Go.Proofs.YtiifblpdlphchaaGreatRR
open Go.Am Go.ChangeShapes Go.WideShapes Go.ChangeAt Go.RowKit
theorem Tryz.own:ownKnob Tryz.prog.godebug=none:=by kernel_rfl
theorem Tryz.zwY:laidOutB Tryz.prog=true:=by kernel_rfl
theorem Tryz.mixed:Tryz.prog.follows .mixedOrders=true:=by kernel_rfl
def prim:FuncId->Option zba:=fun g=>bif Nat.beq 146 g then some (ziF (some 5)) else(fun g=>bif Nat.beq 138 g then some ziE else(fun _=>none) g) g
theorem zsx:zmo Tryz.prog 146 (ziF (some 5)):=by
 have h:shOf Tryz.prog 115=some 5:=by kernel_rfl
 have k:=znL (P:=Tryz.prog) (f:=146) (c:=Tryz.f146.body.get (by kernel_rfl)) (t:=41) (e:=115) (by rw[h];exact⟨zuA,zqQ,fun b n c i vb voff m vc cur t vs w hi hm hnc hr hl hvb hg hcs hvl h1 hvs h1v=>zsO b n c i vb voff m vc cur t vs w hi hm hnc hr hl hvb hg hcs hvl h1 hvs h1v (by kernel_rfl) (by kernel_rfl) (by kernel_rfl) (by rw[h];rfl)⟩) Tryz.func146 (by kernel_rfl) (by decide+kernel) (by kernel_rfl) (by kernel_rfl) (by kernel_rfl) (by kernel_rfl)
 rw[h] at k
 exact k
theorem zuq:zfQ Tryz.prog prim:=zgP zsx (zgP (znI Tryz.func138 (by kernel_rfl) (by kernel_rfl) (by kernel_rfl) (by kernel_rfl)) znJ)
theorem sound:SoundO Tryz.prog (sem (find tab) prim):=zpM Tryz.mixed (zrP zvB) zuq
def yes:Option (ARes × Heap)->Bool
 |some (.ret (.pv none (.bool true)),[])=>true
 |_=>false
theorem zvq{r:Option (ARes × Heap)}(h:yes r=true):r=some (.ret (.pv none (.bool true)),[]):=by
 unfold yes at h
 split at h
 ·rfl
 ·cases h
end Go.Proofs.YtiifblpdlphchaaGreatRR
namespace Go.Proofs.YtiifblpdlphchaaGreatRR
open Go.Am
noncomputable abbrev Z:=sem (find tab) prim
noncomputable abbrev S:=sem (find tab) prim .fn
noncomputable abbrev L:=sloop (find tab) prim

theorem zs4:∀(t:Tm) (hp:Heap) (r1 r2:Nat) (l:Nat),t.size<1000000000->l<1000000000->hp[r1]? =some (.box none (.pv none (.int .i64 ((l+1:Nat):Int))))->hp[r2]? =some (.box none (.func (.func 118) [] [.ptr r1 0,.ptr r2 0]))->
  S 118 [t.av,.ptr r1 0,.ptr r2 0] hp=some (.ret (.tuple []),hp.set r1 (.box none (.pv none (.int .i64 ((l+1 - t.size:Nat):Int))))):=by
 intro t
 induction t using Tm.zwq with
 |h t ih=>
  intro hp r1 r2 l ht hl h1 h2
  have hr1:=zbG h1
  have hr2:=zbG h2
  have hne:r1≠r2:=by
   rintro rfl
   rw[h1] at h2
   cases h2
  have hts:=t.size_eq
  have hlen:=Tm.zwp t.args
  refine zaD rfl rfl rfl rfl ?_
  have e1:∀y x,(hp.set r1 y++[x])[r1]? =some y:=fun y x=>by rw[zb8 (by simpa using hr1)];simp[hr1]
  have e2:∀y x,(hp.set r1 y++[x])[r2]? =some (.box none (.func (.func 118) [] [.ptr r1 0,.ptr r2 0])):=fun y x=>by rw[zb8 (by simpa using hr2),List.getElem?_set_ne hne,h2]
  have e3:∀y x,(hp.set r1 y++[x])[hp.length]? =some x:=fun y x=>by simp
  have e4:∀y x z,(hp.set r1 y++[x]).set r1 z=hp.set r1 z++[x]:=fun y x z=>by rw[zgR (by simpa using hr1)];simp
  have e5:(↑(l+1) - 1:Int)=((l+1 - (1+Tm.sizes (t.args.take 0)):Nat):Int):=by simp[Tm.sizes]
  have w1:IntKind.i64.wrap ((l+1:Nat) - 1:Int)=((l+1 - (1+Tm.sizes (t.args.take 0)):Nat):Int):=by rw[zaq (by omega) (by omega),e5]
  simp -dsimp -implicitDefEqProofs only[go_sem,seval,↓reduceIte,Tm.av,zb8 hr1,h1,zst,zgR hr1,w1]
  refine za9 (fun n st=>∃i:Nat,n=t.args.length - i/\i<=t.args.length/\st=⟨[(1,.ptr r1 0),(2,.ptr r2 0),(3,.ptr hp.length 0),(4,.pv none (.int .i64 i))],hp.set r1 (.box none (.pv none (.int .i64 ((l+1 - (1+Tm.sizes (t.args.take i)):Nat):Int))))++[.box (some 4) (.pv (some 4) t.pv)]⟩) ⟨0,rfl,Nat.zero_le _,?_⟩ ?_
  ·simp -dsimp -implicitDefEqProofs only[go_sem,seval,↓reduceIte]
   try rfl
  ·rintro n st ⟨i,hn,hi,rfl⟩
   by_cases h:i<t.args.length
   ·have hc:(i:Int)<(t.args.length:Int):=by omega
    obtain⟨u,hu⟩:∃u,t.args[i]? =some u:=⟨_,List.getElem?_eq_getElem h⟩
    have hst:=Tm.zwz hu
    have hum:=List.mem_of_getElem? hu
    have husz:=Tm.zwr hum
    by_cases h0:0<((l+1 - (1+Tm.sizes (t.args.take i)):Nat):Int)
    ·obtain⟨l',hl'⟩:∃l':Nat,l+1 - (1+Tm.sizes (t.args.take i))=l'+1:=⟨l+1 - (1+Tm.sizes (t.args.take i)) - 1,by omega⟩
     have hcall:=ih u hum (hp.set r1 (.box none (.pv none (.int .i64 ((l'+1:Nat):Int))))++[.box (some 4) (.pv (some 4) t.pv)]) r1 r2 l' (by omega) (by omega) (e1 _ _) (e2 _ _)
     rw[e4] at hcall
     have e6:l'+1 - u.size=l+1 - (1+Tm.sizes (t.args.take (i+1))):=by omega
     have w2:IntKind.i64.wrap ((i:Int)+1)=((i+1:Nat):Int):=by rw[zaq (by omega) (by omega)];omega
     rw[hl'] at h0 ⊢
     simp -dsimp -implicitDefEqProofs only[go_sem,seval,↓reduceIte,e1,e2,e3,e4,zac,Tm.pvs_len,hc,h0,zal (Tm.pvs_get hu),show AV.pv (some 4) u.pv=u.av from rfl,hcall,e6,w2]
     refine⟨t.args.length - (i+1),by omega,i+1,rfl,by omega,?_⟩
     rw[zav (by simp)]
    ·simp -dsimp -implicitDefEqProofs only[go_sem,seval,↓reduceIte,e1,e2,e3,e4,zac,Tm.pvs_len,hc,h0]
     rw[List.take_left' (by simp)]
     have hle:Tm.sizes (t.args.take i)<=Tm.sizes t.args:=Tm.zwv _ _
     congr 5
     omega
   ·have hc:¬(i:Int)<(t.args.length:Int):=by omega
    obtain rfl:i=t.args.length:=by omega
    simp -dsimp -implicitDefEqProofs only[go_sem,seval,↓reduceIte,e1,e2,e3,e4,zac,Tm.pvs_len,hc]
    rw[List.take_left' (by simp),List.take_length,hts]

theorem zuP(t:Tm)(hp:Heap)(h:t.size<1000000000):S 86 [t.av] hp=some (.ret (.pv none (.int .i64 ((min t.size 2001:Nat):Int))),hp):=by
 refine zai rfl rfl rfl (zab [(some 4,t.pv)]) rfl ?_
 have hc:=zs4 t [.box (some 4) (.pv (some 4) t.pv),.box none (.pv none (.int .i64 2001)),.box none (.func (.func 118) [] [.ptr 1 0,.ptr 2 0])] 1 2 2000 h (by omega) rfl rfl
 have w1:IntKind.i64.wrap (2001 - ((2000+1 - t.size:Nat):Int))=((min t.size 2001:Nat):Int):=by rw[zaq (by omega) (by omega)];omega
 simp only[Tm.av] at hc
 simp -dsimp -implicitDefEqProofs only[go_sem,seval,↓reduceIte,Tm.av,zj7 (Nat.zero_le _),hc,w1]

theorem zs5(t:Tm)(Q:AExit->St->Prop)(h:∀r,Q .normal ⟨(1,.ptr 0 0)::(3,.pv none (.bool t.node))::r,[.box (some 4) (.pv (some 4) t.pv)]⟩):
  W Z L 0 c87k15 ⟨[(1,.ptr 0 0),(3,.pv none (.bool false)),(6,.pv none (.int .i64 t.kind))],[.box (some 4) (.pv (some 4) t.pv)]⟩ Q:=by
 (repeat' (first|(simp -dsimp -implicitDefEqProofs only[c87k15,go_sem,seval,↓reduceIte,zar,zbt,zap,zac,Tm.pvs_len, *])|(refine zax (fun _=> ?_) (fun _=> ?_))))
 all_goals (simp -dsimp -implicitDefEqProofs only[Tm.node,go_sem,seval,↓reduceIte, *] at h;exact h _)

theorem zuQ:∀(t:Tm) (hp:Heap),t.size<1000000000->S 87 [t.av] hp=some (.ret (.pv none (.bool t.fits)),hp):=by
 intro t
 induction t using Tm.zwq with
 |h t ih=>
  intro hp ht
  have hts:=t.size_eq
  have hlen:=Tm.zwp t.args
  refine zai rfl rfl rfl (zab [(some 4,t.pv)]) rfl ?_
  simp -dsimp -dsimp -implicitDefEqProofs only[go_sem,seval,↓reduceIte,zar,zbt,zap,zac,Tm.pvs_len]
  refine zs5 t _ (fun r=> ?_)
  simp -dsimp -dsimp -implicitDefEqProofs only[go_sem,seval,↓reduceIte,zar,zbt,zap,zac,Tm.pvs_len]
  refine za9 (fun n st=>∃i:Nat,n=t.args.length - i/\i<=t.args.length/\st=⟨[(1,.ptr 0 0),(3,.pv none (.bool (t.node && Tm.fitsAll (t.args.take i)))),(4,.pv none (.int .i64 i))],[.box (some 4) (.pv (some 4) t.pv)]⟩) (n:=t.args.length) ⟨0,rfl,Nat.zero_le _,?_⟩ ?_
  ·simp -dsimp -implicitDefEqProofs only[go_sem,seval,↓reduceIte,Tm.fitsAll]
   try rfl
  ·rintro n st ⟨i,hn,hi,rfl⟩
   by_cases h:i<t.args.length
   ·have hc:(i:Int)<(t.args.length:Int):=by omega
    obtain⟨u,hu⟩:∃u,t.args[i]? =some u:=⟨_,List.getElem?_eq_getElem h⟩
    have hum:=List.mem_of_getElem? hu
    have husz:=Tm.zwr hum
    have hcall:=fun hp=>ih u hum hp (by omega)
    have e6:Tm.fitsAll (t.args.take (i+1))=(Tm.fitsAll (t.args.take i) && u.fits):=Tm.zwG hu
    have w2:IntKind.i64.wrap ((i:Int)+1)=((i+1:Nat):Int):=by rw[zaq (by omega) (by omega)];omega
    by_cases h0:(t.node && Tm.fitsAll (t.args.take i))=true
    ·simp -dsimp -dsimp -implicitDefEqProofs only[go_sem,seval,↓reduceIte,zac,Tm.pvs_len,hc,h0,zal (Tm.pvs_get hu),show AV.pv (some 4) u.pv=u.av from rfl,hcall,w2]
     refine⟨t.args.length - (i+1),by omega,i+1,rfl,by omega,?_⟩
     rw[e6,<-Bool.and_assoc,h0,Bool.true_and]
    ·simp -dsimp -implicitDefEqProofs only[go_sem,seval,↓reduceIte,zac,Tm.pvs_len,hc,h0]
     rw[Tm.zwy]
     have hp:Tm.fitsAll t.args=(Tm.fitsAll (t.args.take i) && Tm.fitsAll (t.args.drop i)):=by rw[<-Tm.zwC,List.take_append_drop]
     rw[hp,<-Bool.and_assoc,Bool.eq_false_iff.2 h0]
     rfl
   ·have hc:¬(i:Int)<(t.args.length:Int):=by omega
    obtain rfl:i=t.args.length:=by omega
    simp -dsimp -implicitDefEqProofs only[go_sem,seval,↓reduceIte,zac,Tm.pvs_len,hc]
    rw[Tm.zwy,List.take_length]

theorem zbT(t:Tm)(hp:Heap)(h:t.size<1000000000):S 43 [t.av] hp=some (.ret (.pv none (.bool t.valid)),hp):=by
 refine zai rfl rfl rfl (zab [(some 4,t.pv)]) rfl ?_
 have h1:=fun hp=>zuP t hp h
 have h2:=fun hp=>zuQ t hp h
 unfold Tm.valid
 simp only[Tm.av] at h1 h2
 by_cases hs:t.size<=2000
 ·have hc:((min t.size 2001:Nat):Int)<=2000:=by omega
  (repeat' (first|(simp -dsimp -implicitDefEqProofs only[go_sem,seval,↓reduceIte,Tm.av, *])|(refine zax (fun _=> ?_) (fun _=> ?_))))
 ·have hc:¬((min t.size 2001:Nat):Int)<=2000:=by omega
  (repeat' (first|(simp -dsimp -implicitDefEqProofs only[go_sem,seval,↓reduceIte,Tm.av, *])|(refine zax (fun _=> ?_) (fun _=> ?_))))

theorem zrj:∀(t:Tm) (hp:Heap) (m:Nat),t.size<1000000000->m<1000000000->S 58 [t.av,.pv none (.int .i64 ((m+1:Nat):Int))] hp=some (.ret (.pv none (.int .i64 ((min t.size (m+1):Nat):Int))),hp):=by
 intro t
 induction t using Tm.zwq with
 |h t ih=>
  intro hp m ht hm
  have hts:=t.size_eq
  have hlen:=Tm.zwp t.args
  refine zai rfl rfl rfl (zab [(some 4,t.pv),(none,.int .i64 ((m+1:Nat):Int))]) rfl ?_
  simp -dsimp -implicitDefEqProofs only[go_sem,seval,↓reduceIte,zac,Tm.pvs_len]
  refine za9 (fun n st=>∃i:Nat,n=t.args.length - i/\i<=t.args.length/\st=⟨[(1,.pv none (.int .i64 ((m+1:Nat):Int))),(2,.ptr 0 0),(5,.pv none (.int .i64 ((min (1+Tm.sizes (t.args.take i)) (m+1):Nat):Int))),(6,.pv none (.int .i64 i))],[.box (some 4) (.pv (some 4) t.pv)]⟩) (n:=t.args.length) ⟨0,rfl,Nat.zero_le _,?_⟩ ?_
  ·simp -dsimp -implicitDefEqProofs only[go_sem,seval,↓reduceIte]
   rw[show min (1+Tm.sizes []) (m+1)=1 by simp[Tm.sizes]]
   rfl
  ·rintro n st ⟨i,hn,hi,rfl⟩
   by_cases h:i<t.args.length
   ·have hc:(i:Int)<(t.args.length:Int):=by omega
    obtain⟨u,hu⟩:∃u,t.args[i]? =some u:=⟨_,List.getElem?_eq_getElem h⟩
    have hst:=Tm.zwz hu
    have hum:=List.mem_of_getElem? hu
    have husz:=Tm.zwr hum
    have w2:IntKind.i64.wrap ((i:Int)+1)=((i+1:Nat):Int):=by rw[zaq (by omega) (by omega)];omega
    by_cases h0:((min (1+Tm.sizes (t.args.take i)) (m+1):Nat):Int)<((m+1:Nat):Int)
    ·obtain⟨m',hm'⟩:∃m':Nat,m+1 - min (1+Tm.sizes (t.args.take i)) (m+1)=m'+1:=⟨m - min (1+Tm.sizes (t.args.take i)) (m+1),by omega⟩
     have w3:IntKind.i64.wrap (((m+1:Nat):Int) - ((min (1+Tm.sizes (t.args.take i)) (m+1):Nat):Int))=((m'+1:Nat):Int):=by rw[zaq (by omega) (by omega)];omega
     have w4:IntKind.i64.wrap (((min (1+Tm.sizes (t.args.take i)) (m+1):Nat):Int)+((min u.size (m'+1):Nat):Int))=((min (1+Tm.sizes (t.args.take (i+1))) (m+1):Nat):Int):=by rw[zaq (by omega) (by omega)];omega
     have hcall:=fun hp=>ih u hum hp m' (by omega) (by omega)
     simp -dsimp -implicitDefEqProofs only[go_sem,seval,↓reduceIte,zac,Tm.pvs_len,hc,h0,zal (Tm.pvs_get hu),show AV.pv (some 4) u.pv=u.av from rfl,hcall,w2,w3,w4]
     exact⟨t.args.length - (i+1),by omega,i+1,rfl,by omega,rfl⟩
    ·simp -dsimp -implicitDefEqProofs only[go_sem,seval,↓reduceIte,zac,Tm.pvs_len,hc,h0]
     have hle:Tm.sizes (t.args.take i)<=Tm.sizes t.args:=Tm.zwv _ _
     congr 3
     omega
   ·have hc:¬(i:Int)<(t.args.length:Int):=by omega
    obtain rfl:i=t.args.length:=by omega
    simp -dsimp -implicitDefEqProofs only[go_sem,seval,↓reduceIte,zac,Tm.pvs_len,hc]
    rw[List.take_length,hts]

theorem zm4(t:Tm)(hp:Heap)(h:t.size<1000000000):S 24 [t.av] hp=some (.ret (.pv none (.int .i64 ((min t.size 2001:Nat):Int))),hp):=by
 refine zai rfl rfl rfl (zab [(some 4,t.pv)]) rfl ?_
 have h1:=fun hp=>zrj t hp 2000 h (by omega)
 simp only[Tm.av] at h1
 have e:(((2000+1:Nat):Int))=2001:=rfl
 rw[e] at h1
 (repeat' (first|(simp -dsimp -implicitDefEqProofs only[go_sem,seval,↓reduceIte, *])|(refine zax (fun _=> ?_) (fun _=> ?_))))

theorem zs6(t:Tm)(hp:Heap):S 111 [t.av] hp=some (.ret (.pv none (.bool t.node)),hp):=by
 refine zai rfl rfl rfl (zab [(some 4,t.pv)]) rfl ?_
 (repeat' (first|(simp -dsimp -implicitDefEqProofs only[go_sem,seval,↓reduceIte,zar,zbt,zap,zac,Tm.pvs_len, *])|(refine zax (fun _=> ?_) (fun _=> ?_))))
 all_goals (simp only[Tm.node,show(0<(t.args.length:Int))=(1<=(t.args.length:Int)) from propext (by omega), *,Int.reduceEq,if_true,if_false,decide_true,decide_false,Bool.true_and,Bool.false_and,Bool.and_true])

theorem zrk:∀(t:Tm) (hp:Heap),t.size<1000000000->S 57 [t.av] hp=some (.ret (.pv none (.bool t.fits)),hp):=by
 intro t
 induction t using Tm.zwq with
 |h t ih=>
  intro hp ht
  have hts:=t.size_eq
  have hlen:=Tm.zwp t.args
  refine zai rfl rfl rfl (zab [(some 4,t.pv)]) rfl ?_
  have hnode:=zs6 t
  simp only[Tm.av] at hnode
  by_cases hn:t.node=true
  ·rw[hn] at hnode
   simp -dsimp -implicitDefEqProofs only[go_sem,seval,↓reduceIte,hnode,zac,Tm.pvs_len]
   refine za9 (fun n st=>∃i:Nat,n=t.args.length - i/\i<=t.args.length/\Tm.fitsAll (t.args.take i)=true/\st=⟨[(1,.ptr 0 0),(3,.pv none (.int .i64 i))],[.box (some 4) (.pv (some 4) t.pv)]⟩) (n:=t.args.length) ⟨0,rfl,Nat.zero_le _,rfl,?_⟩ ?_
   ·simp -dsimp -implicitDefEqProofs only[go_sem,seval,↓reduceIte]
    try rfl
   ·rintro n st ⟨i,hn',hi,hf,rfl⟩
    by_cases h:i<t.args.length
    ·have hc:(i:Int)<(t.args.length:Int):=by omega
     obtain⟨u,hu⟩:∃u,t.args[i]? =some u:=⟨_,List.getElem?_eq_getElem h⟩
     have hum:=List.mem_of_getElem? hu
     have husz:=Tm.zwr hum
     have hcall:=fun hp=>ih u hum hp (by omega)
     have e6:Tm.fitsAll (t.args.take (i+1))=(Tm.fitsAll (t.args.take i) && u.fits):=Tm.zwG hu
     have w2:IntKind.i64.wrap ((i:Int)+1)=((i+1:Nat):Int):=by rw[zaq (by omega) (by omega)];omega
     by_cases h0:u.fits=true
     ·simp -dsimp -implicitDefEqProofs only[go_sem,seval,↓reduceIte,zac,Tm.pvs_len,hc,h0,zal (Tm.pvs_get hu),show AV.pv (some 4) u.pv=u.av from rfl,hcall,w2]
      exact⟨t.args.length - (i+1),by omega,i+1,rfl,by omega,by rw[e6,hf,h0];rfl,rfl⟩
     ·rw[Bool.not_eq_true] at h0
      simp -dsimp -implicitDefEqProofs only[go_sem,seval,↓reduceIte,zac,Tm.pvs_len,hc,h0,zal (Tm.pvs_get hu),show AV.pv (some 4) u.pv=u.av from rfl,hcall,w2]
      rw[show t.fits=false from Bool.eq_false_iff.2 fun h=>by rw[Tm.zws h hum] at h0;cases h0]
    ·have hc:¬(i:Int)<(t.args.length:Int):=by omega
     obtain rfl:i=t.args.length:=by omega
     rw[List.take_length] at hf
     simp -dsimp -implicitDefEqProofs only[go_sem,seval,↓reduceIte,zac,Tm.pvs_len,hc]
     rw[Tm.zwy,hn,hf]
     rfl
  ·rw[Bool.not_eq_true] at hn
   rw[hn] at hnode
   simp -dsimp -implicitDefEqProofs only[go_sem,seval,↓reduceIte,hnode,zac,Tm.pvs_len]
   rw[Tm.zwy,hn]
   rfl

theorem zcX(t:Tm)(hp:Heap)(h:t.size<1000000000):S 23 [t.av] hp=some (.ret (.pv none (.bool t.valid)),hp):=by
 refine zai rfl rfl rfl (zab [(some 4,t.pv)]) rfl ?_
 have h1:=fun hp=>zm4 t hp h
 have h2:=fun hp=>zrk t hp h
 unfold Tm.valid
 simp only[Tm.av] at h1 h2
 by_cases hs:t.size<=2000
 ·have hc:((min t.size 2001:Nat):Int)<=2000:=by omega
  (repeat' (first|(simp -dsimp -implicitDefEqProofs only[go_sem,seval,↓reduceIte,Tm.av, *])|(refine zax (fun _=> ?_) (fun _=> ?_))))
 ·have hc:¬((min t.size 2001:Nat):Int)<=2000:=by omega
  (repeat' (first|(simp -dsimp -implicitDefEqProofs only[go_sem,seval,↓reduceIte,Tm.av, *])|(refine zax (fun _=> ?_) (fun _=> ?_))))
end Go.Proofs.YtiifblpdlphchaaGreatRR
namespace Go.Proofs.YtiifblpdlphchaaGreatRR
open Go.Am
theorem zq5:∀(a b:Tm) (hp:Heap),a.size<1000000000->S 61 [a.av,b.av] hp=some (.ret (.pv none (.bool (decide (a.cmp b=0)))),hp):=by
 intro a
 induction a using Tm.zwq with
 |h a ih=>
  intro b hp ha
  have hts:=a.size_eq
  have hlen:=Tm.zwp a.args
  refine zai rfl rfl rfl (zab [(some 4,a.pv),(some 4,b.pv)]) rfl ?_
  by_cases hall:a.kind=b.kind/\a.n=b.n/\a.name=b.name/\a.args.length=b.args.length
  ·obtain⟨h1,h2,h3,h4⟩:=hall
   have hz:a.cmp b=Tm.cmps a.args b.args:=by
    rw[Tm.zwE,h1,h2,h3,h4,zcv,zcv,zcv,cb_zero.2 rfl]
    rfl
   rw[hz]
   simp -dsimp -implicitDefEqProofs only[c61b12,go_sem,seval,↓reduceIte,zar,zbt,zap,zac,Tm.pvs_len,h1,h2,h3,h4]
   refine za9 (fun n st=>∃i:Nat,n=a.args.length - i/\i<=a.args.length/\Tm.cmps a.args b.args=Tm.cmps (a.args.drop i) (b.args.drop i)/\st=⟨[(2,.ptr 0 0),(3,.ptr 1 0),(5,.pv none (.int .i64 i))],[.box (some 4) (.pv (some 4) a.pv),.box (some 4) (.pv (some 4) b.pv)]⟩) (n:=a.args.length) ⟨0,rfl,Nat.zero_le _,rfl,?_⟩ ?_
   ·simp -dsimp -implicitDefEqProofs only[go_sem,seval,↓reduceIte]
    try rfl
   ·rintro n st ⟨i,hn,hi,he,rfl⟩
    by_cases h:i<a.args.length
    ·have hc:(i:Int)<(a.args.length:Int):=by omega
     obtain⟨u,hu⟩:∃u,a.args[i]? =some u:=⟨_,List.getElem?_eq_getElem h⟩
     obtain⟨w,hw⟩:∃w,b.args[i]? =some w:=⟨_,List.getElem?_eq_getElem (by omega)⟩
     have hum:=List.mem_of_getElem? hu
     have husz:=Tm.zwr hum
     have hcall:=fun hp=>ih u hum w hp (by omega)
     simp only[Tm.av] at hcall
     have w2:IntKind.i64.wrap ((i:Int)+1)=((i+1:Nat):Int):=by rw[zaq (by omega) (by omega)];omega
     rw[Tm.zwJ hu hw] at he
     by_cases h0:u.cmp w=0
     ·rw[h0,zfk] at he
      simp -dsimp -implicitDefEqProofs only[c61b12,go_sem,seval,↓reduceIte,zac,Tm.pvs_len,hc,zal (Tm.pvs_get hu),zal (Tm.pvs_get hw),hcall,w2,h0]
      exact⟨a.args.length - (i+1),by omega,i+1,rfl,by omega,he,rfl⟩
     ·rw[ziN h0] at he
      simp -dsimp -implicitDefEqProofs only[c61b12,go_sem,seval,↓reduceIte,zac,Tm.pvs_len,hc,zal (Tm.pvs_get hu),zal (Tm.pvs_get hw),hcall,w2,h0,he]
    ·have hc:¬(i:Int)<(a.args.length:Int):=by omega
     obtain rfl:i=a.args.length:=by omega
     rw[List.drop_length,Tm.zwA] at he
     simp -dsimp -implicitDefEqProofs only[c61b12,go_sem,seval,↓reduceIte,zac,Tm.pvs_len,hc,he]
  ·have hz:¬a.cmp b=0:=fun h=>hall (by rw[Tm.cmp_zero.1 h];exact⟨rfl,rfl,rfl,rfl⟩)
   replace hall:=Kept.mk hall
   replace hts:=Kept.mk hts
   clear ih
   (repeat' (first|(simp -dsimp -implicitDefEqProofs only[go_sem,seval,↓reduceIte,zar,zbt,zap,zac,Tm.pvs_len, *])|(refine zax (fun _=> ?_) (fun _=> ?_))))
   exact absurd ⟨‹_›,‹_›,‹_›,by omega⟩ hall.out

def same(a b:Tm):Bool:=a.valid && (b.valid && decide (a.cmp b=0))
theorem zsW(a b:Tm)(hp:Heap)(ha:a.size<1000000000)(hb:b.size<1000000000):S 56 [a.av,b.av] hp=some (.ret (.pv none (.bool (same a b))),hp):=by
 refine zai rfl rfl rfl (zab [(some 4,a.pv),(some 4,b.pv)]) rfl ?_
 have h1:=fun hp=>zcX a hp ha
 have h2:=fun hp=>zcX b hp hb
 have h3:=fun hp=>zq5 a b hp ha
 simp only[Tm.av] at h1 h2 h3
 unfold same
 by_cases va:a.valid=true
 ·by_cases vb:b.valid=true
  ·(repeat' (first|(simp -dsimp -implicitDefEqProofs only[go_sem,seval,↓reduceIte, *])|(refine zax (fun _=> ?_) (fun _=> ?_))))
  ·(repeat' (first|(simp -dsimp -implicitDefEqProofs only[go_sem,seval,↓reduceIte, *])|(refine zax (fun _=> ?_) (fun _=> ?_))))
 ·(repeat' (first|(simp -dsimp -implicitDefEqProofs only[go_sem,seval,↓reduceIte, *])|(refine zax (fun _=> ?_) (fun _=> ?_))))

theorem zq6:∀(a b:Tm) (hp:Heap),a.size<1000000000->S 91 [a.av,b.av] hp=some (.ret (.pv none (.bool (decide (a.cmp b=0)))),hp):=by
 intro a
 induction a using Tm.zwq with
 |h a ih=>
  intro b hp ha
  have hts:=a.size_eq
  have hlen:=Tm.zwp a.args
  refine zai rfl rfl rfl (zab [(some 4,a.pv),(some 4,b.pv)]) rfl ?_
  by_cases hall:a.kind=b.kind/\a.n=b.n/\a.name=b.name/\a.args.length=b.args.length
  ·obtain⟨h1,h2,h3,h4⟩:=hall
   have hz:a.cmp b=Tm.cmps a.args b.args:=by
    rw[Tm.zwE,h1,h2,h3,h4,zcv,zcv,zcv,cb_zero.2 rfl]
    rfl
   rw[hz]
   simp -dsimp -implicitDefEqProofs only[c91b13,go_sem,seval,↓reduceIte,zar,zbt,zap,zac,Tm.pvs_len,h1,h2,h3,h4]
   have hbl:(b.args.length:Int)=(a.args.length:Int):=by rw[h4]
   refine zed (α:=Unit) a.args.length (fun i _=>Tm.cmps a.args b.args=Tm.cmps (a.args.drop i) (b.args.drop i)) (fun i _=>⟨[(3,.ptr 1 0),(36,.pv none (.sl (some 4) (Tm.pvs a.args))),(37,.pv none (.int .i64 b.args.length)),(38,.pv none (.int .i64 i))],[.box (some 4) (.pv (some 4) a.pv),.box (some 4) (.pv (some 4) b.pv)]⟩) () ⟨rfl,rfl⟩ ?_ ?_
   ·rintro i - h he
    have hc:(i:Int)<(b.args.length:Int):=by omega
    obtain⟨u,hu⟩:∃u,a.args[i]? =some u:=⟨_,List.getElem?_eq_getElem h⟩
    obtain⟨w,hw⟩:∃w,b.args[i]? =some w:=⟨_,List.getElem?_eq_getElem (by omega)⟩
    have hum:=List.mem_of_getElem? hu
    have husz:=Tm.zwr hum
    have hcall:=fun hp=>ih u hum w hp (by omega)
    simp only[Tm.av] at hcall
    have w2:IntKind.i64.wrap ((i:Int)+1)=((i+1:Nat):Int):=by rw[zaq (by omega) (by omega)];omega
    rw[Tm.zwJ hu hw] at he
    by_cases h0:u.cmp w=0
    ·rw[h0,zfk] at he
     simp -dsimp -implicitDefEqProofs only[c91b13,go_sem,seval,↓reduceIte,zac,Tm.pvs_len,hc,zal (Tm.pvs_get hu),zal (Tm.pvs_get hw),hcall,w2,h0]
     exact⟨(),he,rfl⟩
    ·rw[ziN h0] at he
     simp -dsimp -implicitDefEqProofs only[c91b13,go_sem,seval,↓reduceIte,zac,Tm.pvs_len,hc,zal (Tm.pvs_get hu),zal (Tm.pvs_get hw),hcall,w2,h0,he]
   ·rintro - he
    have hc:¬(a.args.length:Int)<(b.args.length:Int):=by omega
    rw[List.drop_length,Tm.zwA] at he
    simp -dsimp -implicitDefEqProofs only[c91b13,go_sem,seval,↓reduceIte,zac,Tm.pvs_len,hc,he]
  ·have hz:¬a.cmp b=0:=fun h=>hall (by rw[Tm.cmp_zero.1 h];exact⟨rfl,rfl,rfl,rfl⟩)
   replace hall:=Kept.mk hall
   replace hts:=Kept.mk hts
   clear ih
   (repeat' (first|(simp -dsimp -implicitDefEqProofs only[go_sem,seval,↓reduceIte,zar,zbt,zap,zac,Tm.pvs_len, *])|(refine zax (fun _=> ?_) (fun _=> ?_))))
   exact absurd ⟨‹_›,‹_›,‹_›,by omega⟩ hall.out
theorem zmZ(a b:Tm)(hp:Heap)(ha:a.size<1000000000)(hb:b.size<1000000000):S 45 [a.av,b.av] hp=some (.ret (.pv none (.bool (same a b))),hp):=by
 refine zai rfl rfl rfl (zab [(some 4,a.pv),(some 4,b.pv)]) rfl ?_
 have h1:=fun hp=>zbT a hp ha
 have h2:=fun hp=>zbT b hp hb
 have h3:=fun hp=>zq6 a b hp ha
 simp only[Tm.av] at h1 h2 h3
 unfold same
 by_cases va:a.valid=true
 ·by_cases vb:b.valid=true
  ·(repeat' (first|(simp -dsimp -implicitDefEqProofs only[go_sem,seval,↓reduceIte, *])|(refine zax (fun _=> ?_) (fun _=> ?_))))
  ·(repeat' (first|(simp -dsimp -implicitDefEqProofs only[go_sem,seval,↓reduceIte, *])|(refine zax (fun _=> ?_) (fun _=> ?_))))
 ·(repeat' (first|(simp -dsimp -implicitDefEqProofs only[go_sem,seval,↓reduceIte, *])|(refine zax (fun _=> ?_) (fun _=> ?_))))
end Go.Proofs.YtiifblpdlphchaaGreatRR
namespace Go.Proofs.YtiifblpdlphchaaGreatRR
open Go.Am
theorem zah{α:Type}(l r:List α)(k:Nat):(l++r)[l.length+k]? =r[k]? :=by
 rw[List.getElem?_append_right (by omega)]
 congr 1
 omega
theorem zaf{α:Type}(l r:List α):(l++r)[l.length]? =r[0]? :=zah l r 0
theorem zaj{α:Type}(l r:List α)(k:Nat)(x:α):(l++r).set (l.length+k) x=l++r.set k x:=by
 rw[List.set_append_right _ _ (by omega)]
 congr 2
 omega
theorem zag{α:Type}(l r:List α)(x:α):(l++r).set l.length x=l++r.set 0 x:=zaj l r 0 x
theorem zsA(t:Tm)(hp:Heap):S 107 [t.av] hp=some (.ret t.av,hp):=by
 refine zai rfl rfl rfl (zab [(some 4,t.pv)]) rfl ?_
 (repeat' (first|(simp -dsimp -implicitDefEqProofs only[go_sem,seval,↓reduceIte,Tm.av, *])|(refine zax (fun _=> ?_) (fun _=> ?_))))

theorem zaE(s s0:Sh)(r v o n:Nat)(l:List (Sh × AV))(hp:Heap):zas ((s,.sl s0 r v o n)::l) hp=zda (s,.sl s0 r v o n) (zas l hp):=rfl
theorem zqH{hp:Heap}{r:Nat}(t:Tm)(h:hp[r]? =some (.arr (some 4) (Tm.pvs t.args) false)):Am.frozen t.av (.agg [(none,.pv none (.int .i64 t.kind)),(none,.pv none (.int .i64 t.n)),(none,.pv none (.str t.name)),(none,.sl (some 4) r t.args.length 0 t.args.length)]) hp:=by
 refine⟨hp.set r (.arr (some 4) (Tm.pvs t.args) true),?_⟩
 cases t with
 |mk k n s ts=>
  show(match AV.freeze (7+1) (.agg _) hp with|some (p,hp')=>some (AV.pv _ p,hp')|none=>none)=_
  have e:∀l hp,AV.freeze (7+1) (.agg l) hp=match AV.freeze.go 7 l hp with|some (ps,hp')=>some (.agg ps,hp')|none=>none:=fun _ _=>rfl
  simp only[Tm.args] at h
  simp[e,AV.freeze.go,AV.freeze,h,Tm.kind,Tm.n,Tm.name,Tm.args,Tm.pvs_len,Tm.av,Tm.pv]
  rfl

theorem zfr{Γ:Oracle}{b:Nat}{vs:List AV}{hp:Heap}{K:AV->Heap->Prop}{Kp:PV->Heap->Prop}(sh:Sh)(n:Nat):opK (aOp Γ b (.bslicen sh n) vs hp) K Kp=zbN (zbd sh hp (vs.drop n)) (fun v hp'=>(vs.take n).all (zco hp hp')=true/\K v hp'):=by
 simp only[aOp,zen]
 cases zbd sh hp (vs.drop n) with
 |none=>rfl
 |some r=>
  obtain⟨v,hp'⟩:=r
  simp only[opK,zbN]
  split
  ·rename_i h;split at h
   ·cases h;simp[*]
   ·cases h
  ·rename_i h;split at h <;> cases h
  ·rename_i h;split at h
   ·cases h
   ·simp[*]
def appH(n:Nat)(t:Tm)(i:Nat):Heap:=[.box (some 4) (.pv (some 4) t.pv),.box (some 4) (.agg [(none,.pv none (.int .i64 0)),(none,.pv none (.int .i64 0)),(none,.pv none (.str [])),(none,.sl (some 4) (n+2) 0 0 0)]),.arr (some 4) [] false,.box (some 4) (.agg [(none,.pv none (.int .i64 t.kind)),(none,.pv none (.int .i64 t.n)),(none,.pv none (.str t.name)),(none,.sl (some 4) (n+5) i 0 i)]),.arr (some 4) [] false,.arr (some 4) (Tm.pvs (t.args.take i)) false]
theorem zgV{hp hp':Heap}{r o q i:Nat}{t:Tm}(h:hp[r]? =some (.box (some 4) (.agg [(none,.pv none (.int .i64 t.kind)),(none,.pv none (.int .i64 t.n)),(none,.pv none (.str t.name)),(none,.sl (some 4) q i 0 i)])))(h':hp'[r]? =some (.box (some 4) (.agg [(none,.pv none (.int .i64 t.kind)),(none,.pv none (.int .i64 t.n)),(none,.pv none (.str t.name)),(none,.sl (some 4) q i 0 i)]))):zco hp hp' (.ptr r o)=true:=by
 simp[zco,h,h',AObj.beq,AV.beq,AV.beqc,PV.beq]
theorem zsB:∀(t:Tm) (hp:Heap),t.fits=true->t.size<1000000000->∃v e,S 92 [t.av,.pv none (.func (.func 107))] hp=some (.ret v,hp++e)/\v.shp=some 4/\v.plain=true/\(∀H,v.own H=(v,H))/\(∃e2,AV.freeze deep v (hp++e)=some (t.pv,hp++e2))/\∀H:Heap,(∀j,hp.length<=j->H[j]? =(hp++e)[j]?)->∃H2,AV.freeze deep v H=some (t.pv,H2):=by
 intro t
 induction t using Tm.zwq with
 |h t ih=>
  intro hp hf ht
  have hts:=t.size_eq
  have hlen:=Tm.zwp t.args
  have h1:=fun hp=>zsA t hp
  simp only[Tm.av] at h1
  by_cases hk:t.kind=0
  ·refine⟨t.av,[],?_,rfl,rfl,fun _=>rfl,⟨[],rfl⟩,fun H _=>⟨H,rfl⟩⟩
   rw[List.append_nil]
   refine zaD rfl rfl rfl rfl ?_
   have hk':=eq_true hk
   simp -dsimp -implicitDefEqProofs only[go_sem,seval,↓reduceIte,Tm.av,zar,hk',h1,List.append_assoc,zah,zaf,zaj,zag,Nat.add_assoc,List.length_append]
   simp only[AV.refsIn,List.all_nil,if_true]
   exact List.take_left
  ·refine⟨.agg [(none,.pv none (.int .i64 t.kind)),(none,.pv none (.int .i64 t.n)),(none,.pv none (.str t.name)),(none,.sl (some 4) (hp.length+5) t.args.length 0 t.args.length)],
    [.box (some 4) (.pv (some 4) t.pv),.box (some 4) (.agg [(none,.pv none (.int .i64 t.kind)),(none,.pv none (.int .i64 t.n)),(none,.pv none (.str t.name)),(none,.sl (some 4) (hp.length+5) t.args.length 0 t.args.length)]),.arr (some 4) [] false,.box (some 4) (.agg [(none,.pv none (.int .i64 t.kind)),(none,.pv none (.int .i64 t.n)),(none,.pv none (.str t.name)),(none,.sl (some 4) (hp.length+5) t.args.length 0 t.args.length)]),.arr (some 4) [] false,.arr (some 4) (Tm.pvs t.args) false],?_,rfl,rfl,fun _=>rfl,?_,?_⟩
   ·refine zaD rfl rfl rfl rfl ?_
    have hk':=eq_false hk
    have hb:za1 [(none,.pv none (.int .i64 0)),(none,.pv none (.int .i64 0)),(none,.pv none (.str [])),(none,.tsl (some 4) [])] [0,1,2] [.pv none (.int .i64 t.kind),.pv none (.int .i64 t.n),.pv none (.str t.name)]=some (.agg [(none,.pv none (.int .i64 t.kind)),(none,.pv none (.int .i64 t.n)),(none,.pv none (.str t.name)),(none,.tsl (some 4) [])]):=rfl
    simp -dsimp -implicitDefEqProofs only[go_sem,seval,↓reduceIte,Tm.av,zar,zbt,zap,zac,hk',Tm.pvs_len,hb,zae (Nat.le_add_right _ _),List.append_assoc,zah,zaf,zaj,zag,Nat.add_assoc,List.length_append]
    refine zed (α:=Unit) t.args.length (fun _ _=>True) (fun i _=>⟨[(1,.pv none (.func (.func 107))),(4,.ptr (hp.length+1) 0),(5,.ptr (hp.length+3) 0),(22,.pv none (.sl (some 4) (Tm.pvs t.args))),(23,.pv none (.int .i64 t.args.length)),(24,.pv none (.int .i64 i))],hp++appH hp.length t i⟩) () ⟨trivial,rfl⟩ ?_ ?_
    ·rintro i - h -
     have hc:(i:Int)<(t.args.length:Int):=by omega
     obtain⟨u,hu⟩:∃u,t.args[i]? =some u:=⟨_,List.getElem?_eq_getElem h⟩
     have hum:=List.mem_of_getElem? hu
     have husz:=Tm.zwr hum
     obtain⟨v,e,hcall,hvs,_,_,⟨e2,hfz⟩,_⟩:=ih u hum (hp++(appH hp.length t i++[.box (some 4) (.pv (some 4) u.pv),.arr (some 4) [] false])) (Tm.zws hf hum) (by omega)
     have w2:IntKind.i64.wrap ((i:Int)+1)=((i+1:Nat):Int):=by rw[zaq (by omega) (by omega)];omega
     have hl:(Tm.pvs (t.args.take i)).length=i:=by rw[Tm.pvs_len,List.length_take];omega
     have hlim:i+1<=lim:=by unfold lim;omega
     have hbs:zbd (some 4) (hp++(appH hp.length t i++[.box (some 4) (.pv (some 4) u.pv),.arr (some 4) [] false])++e) [v]=some (.tsl (some 4) [u.pv],hp++(appH hp.length t i++[.box (some 4) (.pv (some 4) u.pv),.arr (some 4) [] false])++e2):=by
      simp only[zbd,zan,hfz,hvs,za2,if_true]
     simp only[Tm.av] at hcall
     have hs1:∀e e':Heap,zco (hp++(appH hp.length t i++e)) (hp++(appH hp.length t i++e')) (.ptr (hp.length+3) 3)=true:=fun e e'=>zgV (t:=t) (q:=hp.length+5) (i:=i) (by rw[zah];rfl) (by rw[zah];rfl)
     simp only[appH,List.append_assoc,List.cons_append,List.nil_append] at hcall hbs hs1
     simp -dsimp -implicitDefEqProofs only[go_sem,seval,↓reduceIte,appH,hc,zal (Tm.pvs_get hu),zfr,List.take_succ_cons,List.drop_succ_cons,List.all_cons,List.all_nil,hcall,hbs,hs1,w2,hl,hlim,Tm.zwt hu,zae (Nat.le_add_right _ _),zaW (Nat.le_add_right _ _),List.append_assoc,zah,zaf,zaj,zag,Nat.add_assoc,List.length_append]
     refine⟨(),?_⟩
     rw[zbO 6 rfl rfl (by simp[AObj.refs,AV.ofComps,pures,AV.refsIn,AV.refsIn.go]) (by simp[AV.refsIn,AV.refsIn.gol])]
     rfl
    ·rintro - -
     have hc:¬(t.args.length:Int)<(t.args.length:Int):=by omega
     simp -dsimp -implicitDefEqProofs only[go_sem,seval,↓reduceIte,appH,hc,List.take_length,zaE,zae (Nat.le_add_right _ _),zaW (Nat.le_add_right _ _),List.append_assoc,zah,zaf,zaj,zag,Nat.add_assoc,List.length_append]
     rw[if_neg (by simp[AV.refsIn,AV.refsIn.go])]
   ·have e:∀l hp,AV.freeze (7+1) (.agg l) hp=match AV.freeze.go 7 l hp with|some (ps,hp')=>some (.agg ps,hp')|none=>none:=fun _ _=>rfl
    cases t with
    |mk k n s ts=>
     refine⟨[.box (some 4) (.pv (some 4) (Tm.mk k n s ts).pv),.box (some 4) (.agg [(none,.pv none (.int .i64 k)),(none,.pv none (.int .i64 n)),(none,.pv none (.str s)),(none,.sl (some 4) (hp.length+5) ts.length 0 ts.length)]),.arr (some 4) [] false,.box (some 4) (.agg [(none,.pv none (.int .i64 k)),(none,.pv none (.int .i64 n)),(none,.pv none (.str s)),(none,.sl (some 4) (hp.length+5) ts.length 0 ts.length)]),.arr (some 4) [] false,.arr (some 4) (Tm.pvs ts) true],?_⟩
     show AV.freeze (7+1) (.agg _) _=_
     simp[e,AV.freeze.go,AV.freeze,zah,Tm.kind,Tm.n,Tm.name,Tm.args,Tm.pvs_len,Tm.pv]
   ·intro H hH
    have h5:=hH (hp.length+5) (by omega)
    rw[zah] at h5
    have e:∀l hp,AV.freeze (7+1) (.agg l) hp=match AV.freeze.go 7 l hp with|some (ps,hp')=>some (.agg ps,hp')|none=>none:=fun _ _=>rfl
    cases t with
    |mk k n s ts=>
     refine⟨H.set (hp.length+5) (.arr (some 4) (Tm.pvs ts) true),?_⟩
     show AV.freeze (7+1) (.agg _) _=_
     simp only[Tm.args,List.getElem?_cons_succ,List.getElem?_cons_zero] at h5
     simp[e,AV.freeze.go,AV.freeze,h5,Tm.kind,Tm.n,Tm.name,Tm.args,Tm.pvs_len,Tm.pv]
theorem Tm.valid_fits{t:Tm}(h:t.valid=true):t.fits=true:=by
 unfold Tm.valid at h
 simp only[Bool.and_eq_true] at h
 exact h.2
theorem zgW{t:Tm}{v:AV}{H H2:Heap}(h1:v.shp=some 4)(h2:v.plain=true)(h3:AV.freeze deep v H=some (t.pv,H2)):Am.frozen t.av v H:=by
 refine⟨H2,?_⟩
 cases v <;> first|(cases h2;done)|(simp only[AV.freezeRes,h3,h1];rfl)
theorem zdT(t:Tm)(hp:Heap)(hv:t.valid=true)(ht:t.size<1000000000):S 51 [t.av] hp=some (.ret t.av,hp):=by
 refine zai rfl rfl rfl (zab [(some 4,t.pv)]) rfl ?_
 have h1:=fun hp=>zbT t hp ht
 obtain⟨v,e,h2,h3,h4,h5,_,h6⟩:=zsB t [.box (some 4) (.pv (some 4) t.pv),.box (some 4) (.agg [(none,.pv none (.int .i64 0)),(none,.pv none (.int .i64 0)),(none,.pv none (.str [])),(none,.sl (some 4) 2 0 0 0)]),.arr (some 4) [] false] (Tm.valid_fits hv) ht
 have hst:zaF (some 4) 0 ([.box (some 4) (.pv (some 4) t.pv),.box (some 4) (.agg [(none,.pv none (.int .i64 0)),(none,.pv none (.int .i64 0)),(none,.pv none (.str [])),(none,.sl (some 4) 2 0 0 0)]),.arr (some 4) [] false]++e) [.ptr 1 0,v]=some (.undef,[.box (some 4) (.pv (some 4) t.pv),.box (some 4) v,.arr (some 4) [] false]++e):=by
  simp[zaF,astore,h3,h4,h5]
 have hfz:=fun(H:Heap) (hH:∀j,3<=j->H[j]? =_)=>(h6 H hH).elim fun H2 k=>zgW h3 h4 k
 have hfr:Am.frozen t.av v ([.box (some 4) (.pv (some 4) t.pv),.box (some 4) v,.arr (some 4) [] false]++e):=by
  refine hfz _ fun j hj=> ?_
  match j,hj with
  |j+3,_=>rfl
 rw[hv] at h1
 simp only[Tm.av,List.cons_append,List.nil_append] at h1 h2 hst
 simp -dsimp -implicitDefEqProofs only[go_sem,seval,↓reduceIte,Tm.av,h1,h2,hst,zae (Nat.zero_le _)]
 exact hfr
end Go.Proofs.YtiifblpdlphchaaGreatRR
namespace Go.Proofs.YtiifblpdlphchaaGreatRR
open Go.Am
theorem zkC:∀(t:Tm) (hp:Heap),t.size<1000000000->S 63 [t.av] hp=some (.ret t.av,hp):=by
 intro t
 induction t using Tm.zwq with
 |h t ih=>
  intro hp ht
  have hts:=t.size_eq
  have hlen:=Tm.zwp t.args
  refine zai rfl rfl rfl (zab [(some 4,t.pv)]) rfl ?_
  have hb:za1 [(none,.pv none (.int .i64 0)),(none,.pv none (.int .i64 0)),(none,.pv none (.str [])),(none,.tsl (some 4) [])] [0,1,2] [.pv none (.int .i64 t.kind),.pv none (.int .i64 t.n),.pv none (.str t.name)]=some (.agg [(none,.pv none (.int .i64 t.kind)),(none,.pv none (.int .i64 t.n)),(none,.pv none (.str t.name)),(none,.tsl (some 4) [])]):=rfl
  simp -dsimp -implicitDefEqProofs only[go_sem,seval,↓reduceIte,Tm.av,zar,zbt,zap,zac,Tm.pvs_len,hb,zae (Nat.zero_le _)]
  refine zed (α:=Unit) t.args.length (fun _ _=>True) (fun i _=>⟨[(1,.ptr 0 0),(2,.ptr 1 0),(3,.ptr 3 0),(4,.pv none (.int .i64 i))],appH 0 t i⟩) () ⟨trivial,rfl⟩ ?_ ?_
  ·rintro i - h -
   have hc:(i:Int)<(t.args.length:Int):=by omega
   obtain⟨u,hu⟩:∃u,t.args[i]? =some u:=⟨_,List.getElem?_eq_getElem h⟩
   have hum:=List.mem_of_getElem? hu
   have husz:=Tm.zwr hum
   have hcall:=fun hp=>ih u hum hp (by omega)
   simp only[Tm.av] at hcall
   have w2:IntKind.i64.wrap ((i:Int)+1)=((i+1:Nat):Int):=by rw[zaq (by omega) (by omega)];omega
   have hl:(Tm.pvs (t.args.take i)).length=i:=by rw[Tm.pvs_len,List.length_take];omega
   have hlim:i+1<=lim:=by unfold lim;omega
   simp -dsimp -implicitDefEqProofs only[go_sem,seval,↓reduceIte,appH,zac,Tm.pvs_len,hc,zal (Tm.pvs_get hu),hcall,w2,hl,hlim,Tm.zwt hu,zae (Nat.zero_le _),zaW (Nat.zero_le _)]
   exact⟨(),rfl⟩
  ·rintro - -
   have hc:¬(t.args.length:Int)<(t.args.length:Int):=by omega
   simp -dsimp -implicitDefEqProofs only[go_sem,seval,↓reduceIte,appH,zac,Tm.pvs_len,hc,List.take_length,zaE,zae (Nat.zero_le _),zaW (Nat.zero_le _)]
   exact zqH t rfl
end Go.Proofs.YtiifblpdlphchaaGreatRR
namespace Go.Proofs.YtiifblpdlphchaaGreatRR
open Go.Am
abbrev B:=Int × Tm
def bdp(b:B):PV:=.agg [(none,.int .i64 b.1),(some 4,b.2.pv)]
def bds(l:List B):List PV:=l.map bdp
theorem zur(l:List B):(bds l).length=l.length:=by simp[bds]
def Srt'(l:List B):Prop:=l.Pairwise (fun a b=>a.1<b.1)
def lbB(l:List B)(v:Int):Nat:=(l.takeWhile (fun b=>decide (b.1<v))).length
def fndB(l:List B)(v:Int):Bool:=match l[lbB l v]? with
 |some b=>decide (b.1=v)
 |none=>false
theorem ziR{v:Int}:∀{l:List B},Srt' l->∀{k:Nat} {x:B},l[k]? =some x->(x.1<v↔k<lbB l v)
 |[],_,k,x,h=>by simp at h
 |y::r,hs,k,x,h=>by
  obtain⟨h1,h2⟩:=List.pairwise_cons.1 hs
  unfold lbB
  by_cases hy:y.1<v
  ·rw[List.takeWhile_cons_of_pos (by simpa using hy)]
   cases k with
   |zero=>simp at h;subst h;simp[hy]
   |succ k=>
    have:=ziR (v:=v) h2 (k:=k) (x:=x) (by simpa using h)
    rw[this]
    simp[lbB]
  ·rw[List.takeWhile_cons_of_neg (by simpa using hy)]
   cases k with
   |zero=>simp at h;subst h;simp[hy]
   |succ k=>
    have hm:x∈r:=List.mem_of_getElem? (by simpa using h)
    have:=h1 x hm
    simp
    omega
theorem zol(hp:Heap)(x:Int):S 120 [.pv none (.int .i64 x)] hp=some (.ret (.pv none (.bool false)),hp):=by
 refine zai rfl rfl rfl (zab [(none,.int .i64 x)]) rfl ?_
 (repeat' (first|(simp -dsimp -implicitDefEqProofs only[go_sem,seval,↓reduceIte, *])|(refine zax (fun _=> ?_) (fun _=> ?_))))
theorem zlI(hp:Heap)(x y:Int):S 89 [.pv none (.int .i64 x),.pv none (.int .i64 y)] hp=some (.ret (.pv none (.int .i64 (cmpI x y))),hp):=by
 refine zai rfl rfl rfl (zab [(none,.int .i64 x),(none,.int .i64 y)]) rfl ?_
 (repeat' (first|(simp -dsimp -implicitDefEqProofs only[go_sem,seval,↓reduceIte,zol,cmpI, *])|(refine zax (fun _=> ?_) (fun _=> ?_))))
theorem cmpI_lt{x y:Int}:cmpI x y<0↔x<y:=by
 unfold cmpI
 split
 ·simp[*]
 ·split
  ·simp[*]
  ·simp[*]
def IsB(s:AV)(hp:Heap)(l:List B):Prop:=(s=.tsl (some 5) []/\l=[])\/∃r,s=.sl (some 5) r l.length 0 l.length/\hp[r]? =some (.arr (some 5) (bds l) false)
theorem IsB.freeze{s:AV}{hp:Heap}{l:List B}(h:IsB s hp l):∃hp1,AV.freeze deep s hp=some (.sl (some 5) (bds l),hp1)/\s.shp=none/\s.plain=true:=by
 rcases h with⟨rfl,rfl⟩|⟨r,rfl,h⟩
 ·exact⟨hp,rfl,rfl,rfl⟩
 ·exact⟨hp.set r (.arr (some 5) (bds l) true),by simp[AV.freeze,deep,h,zur],rfl,rfl⟩
end Go.Proofs.YtiifblpdlphchaaGreatRR
namespace Go.Proofs.YtiifblpdlphchaaGreatRR
open Go.Am
def insB(l:List B)(v:Int)(t:Tm):List B:=l.take (lbB l v)++[(v,t)]++l.drop (lbB l v)
def Pres(s:AV)(hp hp':Heap):Prop:=hp.length<=hp'.length/\∀(i:Nat) (x:AObj),hp[i]? =some x->(∀v o n,s≠.sl (some 5) i v o n)->hp'[i]? =some x
theorem Pres.refl(s:AV)(hp:Heap):Pres s hp hp:=⟨Nat.le_refl _,fun _ _ h _=>h⟩
theorem IsB.more{s:AV}{hp:Heap}{l:List B}(h:IsB s hp l)(e:Heap):IsB s (hp++e) l:=by
 rcases h with h|⟨r,h1,h2⟩
 ·exact .inl h
 ·exact .inr ⟨r,h1,by rw[List.getElem?_append_left (zbG h2)];exact h2⟩
theorem IsB.not_box{s:AV}{hp:Heap}{l:List B}(h:IsB s hp l){i:Nat}{sh:Sh}{v:AV}(hi:hp[i]? =some (.box sh v)):∀v o n,s≠.sl (some 5) i v o n:=by
 rcases h with⟨rfl,_⟩|⟨r,rfl,h2⟩
 ·intro v o n e;cases e
 ·intro v o n e;cases e;rw[hi] at h2;cases h2
def Own(s:AV)(hp:Heap)(s':AV):Prop:=∀r v o n,s'=.sl (some 5) r v o n->(∃v o n,s=.sl (some 5) r v o n)\/hp.length<=r
theorem Own.refl(s:AV)(hp:Heap):Own s hp s:=fun r v o n h=>.inl ⟨v,o,n,h⟩
theorem Own.trans{s s1 s2:AV}{hp hp1:Heap}(h1:Own s hp s1)(hl:hp.length<=hp1.length)(h2:Own s1 hp1 s2):Own s hp s2:=fun r v o n e=>by
 rcases h2 r v o n e with⟨v',o',n',e'⟩|h
 ·exact h1 r v' o' n' e'
 ·exact .inr (by omega)
theorem Pres.trans{s s1:AV}{hp hp1 hp2:Heap}(h1:Pres s hp hp1)(ho:Own s hp s1)(h2:Pres s1 hp1 hp2):Pres s hp hp2:=
 ⟨Nat.le_trans h1.1 h2.1,fun i x hx hne=>h2.2 i x (h1.2 i x hx hne) fun v o n e=>by
  rcases ho i v o n e with⟨v',o',n',e'⟩|h
  ·exact hne v' o' n' e'
  ·have:=zbG hx;omega⟩
theorem Pres.take{s:AV}{hp hp1:Heap}{n:Nat}(h:Pres s hp hp1)(hn:hp.length<=n):Pres s hp (hp1.take n):=
 ⟨by rw[List.length_take];have:=h.1;omega,fun i x hx hne=>by
  have:=zbG hx
  rw[List.getElem?_take,if_pos (by omega)]
  exact h.2 i x hx hne⟩
theorem IsB.take{s:AV}{hp:Heap}{l:List B}{n:Nat}(h:IsB s hp l)(hr:∀q∈s.refsIn,q<n):IsB s (hp.take n) l:=by
 rcases h with h|⟨r,rfl,h2⟩
 ·exact .inl h
 ·have:r<n:=hr r (by simp[AV.refsIn])
  exact .inr ⟨r,rfl,by rw[List.getElem?_take,if_pos this];exact h2⟩
theorem zi4(n b:Nat)(fr:Fr)(hp:Heap):collect n b fr hp=hp\/(collect n b fr hp=hp.take n/\∀x∈fr,∀q∈x.2.refsIn,q<n):=by
 unfold collect
 split
 ·rename_i h
  rw[Bool.and_eq_true,List.all_eq_true] at h
  exact .inr ⟨rfl,fun x hx q hq=>by simpa using List.all_eq_true.1 (h.1 x hx) q hq⟩
 ·exact .inl rfl
def Good(l:List B):Prop:=Srt' l/\∀b∈l,b.2.valid=true/\b.2.size<1000000000
theorem zi5:∀t:Tm,PV.beq t.pv t.pv=true:=by
 intro t
 induction t using Tm.zwq with
 |h t ih=>
  cases t with
  |mk k n s ts=>
   have:∀l:List Tm,(∀u∈l,PV.beq u.pv u.pv=true)->PV.beqs (Tm.pvs l) (Tm.pvs l)=true:=by
    intro l
    induction l with
    |nil=>intro _;rfl
    |cons x r ihr=>intro h;simp only[Tm.pvs,PV.beqs,h x (by simp),ihr (fun u hu=>h u (by simp[hu])),Bool.and_self]
   simp[Tm.pv,PV.beq,PV.beqc,this ts ih]
theorem zbe{t u:Tm}(h:t.valid=true)(hu:u∈t.args):u.valid=true:=by
 unfold Tm.valid at h ⊢
 simp only[Bool.and_eq_true,decide_eq_true_eq] at h ⊢
 have:=Tm.zwr hu
 exact⟨by omega,Tm.zws h.2 hu⟩
theorem zi6(b:B)(r:List B)(v:Int):lbB (b::r) v=if b.1<v then lbB r v+1 else 0:=by
 unfold lbB
 split
 ·rename_i h;rw[List.takeWhile_cons_of_pos (by simpa using h)];rfl
 ·rename_i h;rw[List.takeWhile_cons_of_neg (by simpa using h)];rfl
theorem zqT(b:B)(r:List B)(v:Int):fndB (b::r) v=if b.1<v then fndB r v else decide (b.1=v):=by
 by_cases h:b.1<v
 ·simp only[fndB,zi6,h,if_true,List.getElem?_cons_succ]
 ·simp only[fndB,zi6,h,if_false,List.getElem?_cons_zero]
theorem zqU(b:B)(r:List B)(v:Int)(t:Tm):insB (b::r) v t=if b.1<v then b::insB r v t else(v,t)::b::r:=by
 unfold insB
 rw[zi6]
 split
 ·rw[List.take_succ_cons,List.drop_succ_cons];rfl
 ·rfl
theorem zeW{l:List B}{v:Int}{t:Tm}{x:B}(h:x∈insB l v t):x=(v,t)\/x∈l:=by
 unfold insB at h
 simp only[List.mem_append,List.mem_singleton] at h
 rcases h with(h|h)|h
 ·exact .inr (List.mem_of_mem_take h)
 ·exact .inl h
 ·exact .inr (List.mem_of_mem_drop h)
theorem zeX:∀{l:List B} {v:Int} {t:Tm},Srt' l->fndB l v=false->Srt' (insB l v t)
 |[],v,t,_,_=>by simp[insB,Srt']
 |b::r,v,t,hs,hf=>by
  obtain⟨h1,h2⟩:=List.pairwise_cons.1 hs
  rw[zqU]
  rw[zqT] at hf
  split
  ·rename_i hb
   rw[if_pos hb] at hf
   refine List.pairwise_cons.2 ⟨fun x hx=> ?_,zeX h2 hf⟩
   rcases zeW hx with rfl|hx
   ·exact hb
   ·exact h1 x hx
  ·rename_i hb
   rw[if_neg hb] at hf
   have hne:b.1≠v:=by simpa using hf
   refine List.pairwise_cons.2 ⟨fun x hx=> ?_,hs⟩
   rcases List.mem_cons.1 hx with rfl|hx
   ·show v<x.1;omega
   ·have:=h1 x hx
    show v<x.1
    omega
theorem zqV{l:List B}{v:Int}{t:Tm}(h:Good l)(hf:fndB l v=false)(hv:t.valid=true)(ht:t.size<1000000000):Good (insB l v t):=
 ⟨zeX h.1 hf,fun b hb=>by
  rcases zeW hb with rfl|hb
  ·exact⟨hv,ht⟩
  ·exact h.2 b hb⟩
theorem zha{F:FuncId->Option AFn}{prim:FuncId->Option zba}{f:FuncId}{fn:AFn}{args:List AV}{hp:Heap}(P:AV->Heap->Prop)(hp0:prim f=none)(hf:F f=some fn)(hm:fn.heapMode=true)(hn:args.length=fn.nparams)
  (h:W (sem F prim) (sloop F prim) hp.length fn.code ⟨params 0 args,hp⟩ (endK fn.results (fun v' h'=>P v' (if v'.refsIn.all (fun q=>decide (q<hp.length))=true then h'.take hp.length else h'))))(hr:fn.rcv=none:=by rfl)(hmo:fn.more=[]:=by rfl):∃v hp',sem F prim .fn f args hp=some (.ret v,hp')/\P v hp':=by
 rw[zd0]
 unfold za8
 rw[hp0,hf]
 simp only[hr,hmo,Option.isSome_none,Bool.false_eq_true,if_false,hm,if_true,abody,hn,ne_eq,not_true_eq_false,if_false]
 unfold W at h
 split at h
 ·rename_i e st' he
  rw[he]
  cases e with
  |normal=>
   rw[zbn] at h
   cases hr:zaw st' fn.results with
   |none=>rw[hr] at h;exact h.elim
   |some u=>rw[hr] at h;exact⟨_,_,by simp only[hr],h⟩
  |ret=>
   rw[zcg] at h
   cases hr:zaw st' fn.results with
   |none=>rw[hr] at h;exact h.elim
   |some u=>rw[hr] at h;exact⟨_,_,by simp only[hr],h⟩
  |exit i=>exact h.elim
  |panic v=>exact h.elim
 ·exact h.elim
end Go.Proofs.YtiifblpdlphchaaGreatRR
namespace Go.Proofs.YtiifblpdlphchaaGreatRR
open Go.Am
theorem zsC(hp:Heap)(x:Int):S 119 [.pv none (.int .i64 x)] hp=some (.ret (.pv none (.bool false)),hp):=by
 refine zai rfl rfl rfl (zab [(none,.int .i64 x)]) rfl ?_
 (repeat' (first|(simp -dsimp -implicitDefEqProofs only[go_sem,seval,↓reduceIte, *])|(refine zax (fun _=> ?_) (fun _=> ?_))))
theorem zqI(hp:Heap)(x y:Int):S 88 [.pv none (.int .i64 x),.pv none (.int .i64 y)] hp=some (.ret (.pv none (.int .i64 (cmpI x y))),hp):=by
 refine zai rfl rfl rfl (zab [(none,.int .i64 x),(none,.int .i64 y)]) rfl ?_
 (repeat' (first|(simp -dsimp -implicitDefEqProofs only[go_sem,seval,↓reduceIte,zsC,cmpI, *])|(refine zax (fun _=> ?_) (fun _=> ?_))))
theorem zkm(hp:Heap)(x y:List UInt8):S 121 [.pv none (.str x),.pv none (.str y)] hp=some (.ret (.pv none (.int .i64 (Lib.compareBytes x y))),hp):=by
 refine zai rfl rfl rfl (zab [(none,.str x),(none,.str y)]) rfl ?_
 have h:∀hp,S 138 [.pv none (.str x),.pv none (.str y)] hp=some (.ret (.pv none (.int .i64 (Lib.compareBytes x y))),hp):=fun hp=>(zsu (p:=ziE) rfl _ _).trans rfl
 (repeat' (first|(simp -dsimp -implicitDefEqProofs only[go_sem,seval,↓reduceIte, *])|(refine zax (fun _=> ?_) (fun _=> ?_))))
theorem zfs(hp:Heap)(x y:List UInt8):S 90 [.pv none (.str x),.pv none (.str y)] hp=some (.ret (.pv none (.int .i64 (Lib.compareBytes x y))),hp):=by
 refine zai rfl rfl rfl (zab [(none,.str x),(none,.str y)]) rfl ?_
 (repeat' (first|(simp -dsimp -implicitDefEqProofs only[go_sem,seval,↓reduceIte,zkm, *])|(refine zax (fun _=> ?_) (fun _=> ?_))))
theorem zkn(a b:Tm)(ih:∀u,u∈a.args->∀(b:Tm) (hp:Heap),u.size<1000000000->u.fits=true->b.fits=true->S 44 [u.av,b.av] hp=some (.ret (.pv none (.int .i64 (u.cmp b))),hp))
  (ha:a.size<1000000000)(fa:a.fits=true)(fb:b.fits=true)(hlb:a.args.length=b.args.length)(p:PV)(fr:Fr)(Q:AExit->St->Prop)
  (hfr:fr.keep [3,57,58,59]=[(3,.ptr 1 0),(57,.pv none (.sl (some 4) (Tm.pvs a.args))),(58,.pv none (.int .i64 (a.args.length:Int))),(59,.pv none (.int .i64 0))])
  (h:Tm.cmps a.args b.args=0->∀fr hp,Q (.exit 0) ⟨fr,hp⟩)(h':Tm.cmps a.args b.args≠0->∀hp r,Q .ret ⟨(4,.pv none (.int .i64 (Tm.cmps a.args b.args)))::r,hp⟩):
  W (sem (find tab) prim) (sloop (find tab) prim) 0 (.loop [3,57,58,59] c44b27) ⟨fr,[.box (some 4) (.pv (some 4) a.pv),.box (some 4) (.pv (some 4) b.pv),.box (some 4) (.pv (some 4) p)]⟩ Q:=by
 have hts:=a.size_eq
 have hlen:=Tm.zwp a.args
 refine za9 (fun n st=>∃(i:Nat),n=a.args.length - i/\i<=a.args.length/\Tm.cmps a.args b.args=Tm.cmps (a.args.drop i) (b.args.drop i)/\
  st=⟨[(3,.ptr 1 0),(57,.pv none (.sl (some 4) (Tm.pvs a.args))),(58,.pv none (.int .i64 (a.args.length:Int))),(59,.pv none (.int .i64 i))],[.box (some 4) (.pv (some 4) a.pv),.box (some 4) (.pv (some 4) b.pv),.box (some 4) (.pv (some 4) p)]⟩) (n:=a.args.length) ⟨0,rfl,Nat.zero_le _,rfl,?_⟩ ?_
 ·rw[hfr]
  rfl
 ·rintro n st ⟨i,hn,hi,he,rfl⟩
  by_cases hi':i<a.args.length
  ·have hc:(i:Int)<(a.args.length:Int):=by omega
   obtain⟨u,hu⟩:∃u,a.args[i]? =some u:=⟨_,List.getElem?_eq_getElem hi'⟩
   obtain⟨w,hw⟩:∃w,b.args[i]? =some w:=⟨_,List.getElem?_eq_getElem (by omega)⟩
   have hum:=List.mem_of_getElem? hu
   have husz:=Tm.zwr hum
   have hcall:=fun hp=>ih u hum w hp (by omega) (Tm.zws fa hum) (Tm.zws fb (List.mem_of_getElem? hw))
   simp only[Tm.av] at hcall
   have w2:IntKind.i64.wrap ((i:Int)+1)=((i+1:Nat):Int):=by rw[zaq (by omega) (by omega)];omega
   rw[Tm.zwJ hu hw] at he
   by_cases h0:u.cmp w=0
   ·rw[h0,zfk] at he
    simp -dsimp -implicitDefEqProofs only[c44b27,go_sem,seval,↓reduceIte,zac,Tm.pvs_len,hc,zal (Tm.pvs_get hu),zal (Tm.pvs_get hw),hcall,w2,h0]
    refine⟨a.args.length - (i+1),by omega,i+1,rfl,by omega,he,?_⟩
    rfl
   ·simp -dsimp -implicitDefEqProofs only[c44b27,go_sem,seval,↓reduceIte,zac,Tm.pvs_len,hc,zal (Tm.pvs_get hu),zal (Tm.pvs_get hw),hcall,w2,h0]
    rw[ziN h0] at he
    have:=h' (by rw[he];exact h0)
    rw[he] at this
    exact this _ _
  ·have hc:¬(i:Int)<(a.args.length:Int):=by omega
   obtain rfl:i=a.args.length:=by omega
   simp -dsimp -implicitDefEqProofs only[c44b27,go_sem,seval,↓reduceIte,zac,Tm.pvs_len,hc]
   rw[List.drop_length,Tm.zwA] at he
   exact h he _ _

set_option maxHeartbeats 4000000 in
theorem zft:∀(a b:Tm) (hp:Heap),a.size<1000000000->a.fits=true->b.fits=true->S 44 [a.av,b.av] hp=some (.ret (.pv none (.int .i64 (a.cmp b))),hp):=by
 intro a
 induction a using Tm.zwq with
 |h a ih=>
  intro b hp ha fa fb
  refine zai rfl rfl rfl (zab [(some 4,a.pv),(some 4,b.pv)]) rfl ?_
  rw[Tm.zwE]
  have loop:=zkn a b ih ha fa fb
  clear ih
  have hb:za1 [(none,(.pv none (.int .i64 (0)))),(none,(.pv none (.int .i64 (0)))),(none,(.pv none (.int .i64 (0)))),(none,(.pv none (.int .i64 (0))))] [0,1,2,3] [.pv none (.int .i64 (0)),.pv none (.int .i64 (1)),.pv none (.int .i64 (2)),.pv none (.int .i64 (3))]=some (.pv (some 4) (.agg [(none,.int .i64 0),(none,.int .i64 1),(none,.int .i64 2),(none,.int .i64 3)])):=rfl
  have h0:∀r:Nat,zb3 none 4 [.ptr r 0,.pv none (.int .i64 0)]=some (.ptr r 0):=fun r=>rfl
  have h1:∀r:Nat,zb3 none 4 [.ptr r 0,.pv none (.int .i64 1)]=some (.ptr r 1):=fun r=>by rw[zdy none (by decide)];simp[Sh.size]
  have h2:∀r:Nat,zb3 none 4 [.ptr r 0,.pv none (.int .i64 2)]=some (.ptr r 2):=fun r=>by rw[zdy none (by decide)];simp[Sh.size]
  have h3:∀r:Nat,zb3 none 4 [.ptr r 0,.pv none (.int .i64 3)]=some (.ptr r 3):=fun r=>by rw[zdy none (by decide)];simp[Sh.size]
  have hc:=zqz
  have hcmp:=zqI
  have hcmp64:=zlI
  have hstr:=zfs
  have fin:Kept (a.name=[]->a.args=[]->b.name=[]->b.args=[]->AV.pv none (.int .i64 (cmpI a.n b.n))=AV.pv none (.int .i64 (if cmpI a.n b.n=0 then if cmpI (a.args.length:Int) (b.args.length:Int)=0 then if Lib.compareBytes a.name b.name=0 then Tm.cmps a.args b.args else Lib.compareBytes a.name b.name else cmpI (a.args.length:Int) (b.args.length:Int) else cmpI a.n b.n))):=by
   intro h1 h2 h3 h4
   rw[h1,h2,h3,h4]
   simp only[show cmpI (([]:List Tm).length:Int) (([]:List Tm).length:Int)=0 from by decide,Lib.compareBytes,Tm.cmps,if_true]
   split <;> simp_all
  have hlen:Kept (cmpI (a.args.length:Int) (b.args.length:Int)=0->a.args.length=b.args.length):=fun h=>by have:=cmpI_zero.1 h;omega
  rcases Tm.zwM fa with⟨ka,xa,ya⟩|⟨ka,xa,ya⟩|⟨ka,xa,ya⟩|⟨ka,xa⟩ <;>
  rcases Tm.zwM fb with⟨kb,xb,yb⟩|⟨kb,xb,yb⟩|⟨kb,xb,yb⟩|⟨kb,xb⟩ <;> (try replace ya:=Kept.mk ya) <;> (try replace yb:=Kept.mk yb) <;> (try replace xa:=Kept.mk (show a.name=[] from xa)) <;> (try replace xb:=Kept.mk (show b.name=[] from xb))
  all_goals (repeat' (first|(simp -dsimp -implicitDefEqProofs only[go_sem,seval,↓reduceIte,zar,zbt,zap,zac,Tm.pvs_len,zcP, *])|(refine zax (fun _=> ?_) (fun _=> ?_))))
  all_goals first
   |(exact fin xa ya xb yb)
   |(refine loop (hlen.out (by assumption)) _ _ _ rfl (fun hz fr hp=> ?_) (fun hz hp r=> ?_) <;> simp -dsimp -implicitDefEqProofs only[go_sem,seval,↓reduceIte,zcP,zcv, *])
   |trace_state
end Go.Proofs.YtiifblpdlphchaaGreatRR
namespace Go.Proofs.YtiifblpdlphchaaGreatRR
open Go.Am
theorem zdF(fv:AV)(hp:Heap)(r:Nat)(hr:r<hp.length)(a b n N:Nat)(P X M Y R:List PV)(hP:P.length=a)(hX:X.length=n)(hY:Y.length=n)(hb:b=a+n+M.length)(hN:N=(P++X++M++Y++R).length)(hN':N<1000000000):
  S 157 [.sl (some 4) r N 0 N,.pv none (.int .i64 a),.pv none (.int .i64 b),.pv none (.int .i64 n),fv] (hp.set r (.arr (some 4) (P++X++M++Y++R) false))=some (.ret (.tuple []),hp.set r (.arr (some 4) (P++Y++M++X++R) false)):=by
 refine zaD rfl rfl rfl rfl ?_
 have e1:∀A,(hp.set r A)[r]? =some A:=fun A=>by simp[hr]
 have hNl:N=P.length+n+M.length+n+R.length:=by rw[hN];simp[hX,hY];omega
 simp -dsimp -implicitDefEqProofs only[go_sem,seval,↓reduceIte]
 refine za9 (fun k st=>∃(i:Nat) (X1 X2 Y1 Y2:List PV),k=n - i/\i<=n/\X=X1++X2/\Y=Y1++Y2/\X1.length=i/\Y1.length=i/\st=⟨[(0,.sl (some 4) r N 0 N),(1,.pv none (.int .i64 a)),(2,.pv none (.int .i64 b)),(3,.pv none (.int .i64 n)),(10,.pv none (.int .i64 i))],hp.set r (.arr (some 4) (P++Y1++X2++M++X1++Y2++R) false)⟩) (n:=n) ⟨0,[],X,[],Y,rfl,Nat.zero_le _,rfl,rfl,rfl,rfl,?_⟩ ?_
 ·simp -dsimp -implicitDefEqProofs only[go_sem,seval,↓reduceIte]
  simp
 ·rintro k st ⟨i,X1,X2,Y1,Y2,hk,hi,eX,eY,lX,lY,rfl⟩
  have l2X:X2.length=n - i:=by rw[eX] at hX;simp at hX;omega
  have l2Y:Y2.length=n - i:=by rw[eY] at hY;simp at hY;omega
  have hlen:(P++Y1++X2++M++X1++Y2++R).length=N:=by simp;omega
  by_cases h:i<n
  ·have hc:(i:Int)<(n:Int):=by omega
   obtain⟨x,X2,rfl⟩:∃x l,X2=x::l:=by cases X2 with|nil=>simp at l2X;omega|cons x l=>exact⟨x,l,rfl⟩
   obtain⟨y,Y2,rfl⟩:∃x l,Y2=x::l:=by cases Y2 with|nil=>simp at l2Y;omega|cons x l=>exact⟨x,l,rfl⟩
   have w1:IntKind.i64.wrap ((a:Int)+(i:Int))=((a+i:Nat):Int):=by rw[zaq (by omega) (by omega)];omega
   have w2:IntKind.i64.wrap ((b:Int)+(i:Int))=((b+i:Nat):Int):=by rw[zaq (by omega) (by omega)];omega
   have w3:IntKind.i64.wrap ((i:Int)+1)=((i+1:Nat):Int):=by rw[zaq (by omega) (by omega)];omega
   have la:a+i<N:=by omega
   have lb:b+i<N:=by omega
   have s1:P++Y1++x::X2++M++X1++y::Y2++R=(P++Y1)++x::(X2++M++X1++y::Y2++R):=by simp
   have s2:P++Y1++x::X2++M++X1++y::Y2++R=(P++Y1++x::X2++M++X1)++y::(Y2++R):=by simp
   have g1:(P++Y1++x::X2++M++X1++y::Y2++R)[a+i]? =some x:=by rw[s1];exact zdB (by simp;omega)
   have g2:(P++Y1++x::X2++M++X1++y::Y2++R)[b+i]? =some y:=by rw[s2];exact zdB (by simp at l2X ⊢;omega)
   have g3:((P++Y1++x::X2++M++X1++y::Y2++R).set (a+i) y).set (b+i) x=P++(Y1++[y])++X2++M++(X1++[x])++Y2++R:=by
    rw[s1,zdC (by simp;omega)]
    have s3:(P++Y1)++y::(X2++M++X1++y::Y2++R)=(P++Y1++y::X2++M++X1)++y::(Y2++R):=by simp
    rw[s3,zdC (by simp at l2X ⊢;omega)]
    simp
   generalize hxs:P++Y1++x::X2++M++X1++y::Y2++R=xs at g1 g2 g3 hlen ⊢
   simp -dsimp -implicitDefEqProofs only[go_sem,seval,↓reduceIte,hc,w1,w2,w3,zao la,zao lb,zaJ,zbZ,e1,g1,g2,hlen,List.length_set,List.set_set,la,lb,g3]
   refine⟨n - (i+1),by omega,i+1,X1++[x],X2,Y1++[y],Y2,rfl,by omega,by simp[eX],by simp[eY],by simp[lX],by simp[lY],?_⟩
   rw[zav (by simp)]
  ·have hc:¬(i:Int)<(n:Int):=by omega
   obtain rfl:i=n:=by omega
   have:X2=[]:=List.length_eq_zero_iff.1 (by omega)
   subst this
   have:Y2=[]:=List.length_eq_zero_iff.1 (by omega)
   subst this
   simp -dsimp -implicitDefEqProofs only[go_sem,seval,↓reduceIte,hc]
   rw[List.take_of_length_le (by simp)]
   simp[eX,eY]

theorem zri(fv:AV)(hp:Heap)(r:Nat)(hr:r<hp.length)(a m b N:Nat)(P U V R:List PV)(hP:P.length=a)(hU:m=a+U.length)(hV:b=m+V.length)(hN:N=(P++U++V++R).length)(hN':N<1000000000)(hU0:0<U.length)(hV0:0<V.length):
  S 155 [.sl (some 4) r N 0 N,.pv none (.int .i64 a),.pv none (.int .i64 m),.pv none (.int .i64 b),fv] (hp.set r (.arr (some 4) (P++U++V++R) false))=some (.ret (.tuple []),hp.set r (.arr (some 4) (P++V++U++R) false)):=by
 refine zaD rfl rfl rfl rfl ?_
 have hNl:N=P.length+U.length+V.length+R.length:=by(rw[hN];simp <;> omega)
 have w1:IntKind.i64.wrap ((m:Int) - (a:Int))=((U.length:Nat):Int):=by rw[zaq (by omega) (by omega)];omega
 have w2:IntKind.i64.wrap ((b:Int) - (m:Int))=((V.length:Nat):Int):=by rw[zaq (by omega) (by omega)];omega
 simp -dsimp -implicitDefEqProofs only[go_sem,seval,↓reduceIte,w1,w2]
 refine za9 (fun k st=>∃(i j:Nat) (P' X Y R':List PV),k=i+j/\0<i/\0<j/\X.length=i/\Y.length=j/\P'.length+i=m/\P'++Y++X++R'=P++V++U++R/\(P'++X++Y++R').length=N/\st=⟨[(0,.sl (some 4) r N 0 N),(2,.pv none (.int .i64 m)),(4,fv),(10,.pv none (.int .i64 i)),(11,.pv none (.int .i64 j))],hp.set r (.arr (some 4) (P'++X++Y++R') false)⟩) (n:=U.length+V.length) ⟨U.length,V.length,P,U,V,R,rfl,hU0,hV0,rfl,rfl,by omega,rfl,hN.symm,?_⟩ ?_
 ·simp -dsimp -implicitDefEqProofs only[go_sem,seval,↓reduceIte]
 ·rintro k st ⟨i,j,P',X,Y,R',hk,i0,j0,lX,lY,lP,hT,hL,rfl⟩
  have hLn:P'.length+i+j+R'.length=N:=by(rw[<-hL];simp <;> omega)
  by_cases hij:i=j
  ·have hc:(i:Int)=(j:Int):=by omega
   have w3:IntKind.i64.wrap ((m:Int) - (j:Int))=((P'.length:Nat):Int):=by rw[zaq (by omega) (by omega)];omega
   have hcall:=zdF fv hp r hr P'.length m j N P' X [] Y R' rfl (by omega) (by omega) (by(simp <;> omega)) (by simp at hL ⊢;omega) hN'
   simp only[List.append_nil] at hcall
   rw[hT] at hcall
   simp -dsimp -implicitDefEqProofs only[go_sem,seval,↓reduceIte,hc,w3,hcall]
   rw[List.take_of_length_le (by simp)]
  ·have hc:¬(i:Int)=(j:Int):=by omega
   by_cases hgt:j<i
   ·have hc2:(j:Int)<(i:Int):=by omega
    have w3:IntKind.i64.wrap ((m:Int) - (i:Int))=((P'.length:Nat):Int):=by rw[zaq (by omega) (by omega)];omega
    have w4:IntKind.i64.wrap ((i:Int) - (j:Int))=((i - j:Nat):Int):=by rw[zaq (by omega) (by omega)];omega
    have eX:X=X.take j++X.drop j:=(List.take_append_drop j X).symm
    have hcall:=zdF fv hp r hr P'.length m j N P' (X.take j) (X.drop j) Y R' rfl (by(simp <;> omega)) (by omega) (by(simp <;> omega)) (by(rw[<-hL];simp <;> omega)) hN'
    have e0:P'++X.take j++X.drop j++Y++R'=P'++X++Y++R':=by simp
    rw[e0] at hcall
    simp -dsimp -implicitDefEqProofs only[go_sem,seval,↓reduceIte,hc,hc2,w3,w4,hcall]
    refine⟨i - j+j,by omega,i - j,j,P'++Y,X.drop j,X.take j,R',rfl,by omega,by omega,by(simp <;> omega),by(simp <;> omega),by(simp <;> omega),?_,?_,?_⟩
    ·rw[<-hT];simp
    ·rw[<-hL];simp <;> omega
    ·rw[zav (by simp)]
   ·have hc2:¬(j:Int)<(i:Int):=by omega
    have w3:IntKind.i64.wrap ((m:Int) - (i:Int))=((P'.length:Nat):Int):=by rw[zaq (by omega) (by omega)];omega
    have w4:IntKind.i64.wrap ((j:Int) - (i:Int))=((j - i:Nat):Int):=by rw[zaq (by omega) (by omega)];omega
    have w5:IntKind.i64.wrap ((m:Int)+(j:Int))=((m+j:Nat):Int):=by rw[zaq (by omega) (by omega)];omega
    have w6:IntKind.i64.wrap (((m+j:Nat):Int) - (i:Int))=((m+j - i:Nat):Int):=by rw[zaq (by omega) (by omega)];omega
    have hcall:=zdF fv hp r hr P'.length (m+j - i) i N P' X (Y.take (j - i)) (Y.drop (j - i)) R' rfl lX (by(simp <;> omega)) (by(simp <;> omega)) (by(rw[<-hL];simp <;> omega)) hN'
    have e0:P'++X++Y.take (j - i)++Y.drop (j - i)++R'=P'++X++Y++R':=by simp
    rw[e0] at hcall
    simp -dsimp -implicitDefEqProofs only[go_sem,seval,↓reduceIte,hc,hc2,w3,w4,w5,w6,hcall]
    refine⟨i+(j - i),by omega,i,j - i,P',Y.drop (j - i),Y.take (j - i),X++R',rfl,by omega,by omega,by(simp <;> omega),by(simp <;> omega),by omega,?_,?_,?_⟩
    ·rw[<-hT];simp
    ·rw[<-hL];simp <;> omega
    ·rw[zav (by simp)];simp

def CmpF(c:PV->PV->Int)(fv:AV)(D:PV->Prop)(hp:Heap)(r:Nat):Prop:=∃g fs cs,zaT fv=some (g,fs,cs)/\∀x y,D x->D y->∀A,S g (fs++[.pv (some 4) x,.pv (some 4) y]++cs) (hp.set r A)=some (.ret (.pv none (.int .i64 (c x y))),hp.set r A)

theorem zs3(c:PV->PV->Int)(hC:Cmp c)(fv:AV)(D:PV->Prop)(hp:Heap)(r:Nat)(hg:CmpF c fv D hp r)(hr:r<hp.length)(a b i N:Nat)(P S1 R:List PV)(t:PV)(hP:P.length=a)(hs:Srt c S1)(hi:i=a+S1.length)(hN:N=(P++S1++t::R).length)(hN':N<1000000000)(hD:∀x∈S1,D x)(hDt:D t)
  (fr:Fr)(Q:AExit->St->Prop)
  (hfr:fr.keep [0,1,2,3,8,9]=[(0,.sl (some 4) r N 0 N),(1,.pv none (.int .i64 a)),(2,.pv none (.int .i64 b)),(3,fv),(8,.pv none (.int .i64 i)),(9,.pv none (.int .i64 i))])
  (h:∀rest,Q (.exit 2) ⟨(0,.sl (some 4) r N 0 N)::(1,.pv none (.int .i64 a))::(2,.pv none (.int .i64 b))::(3,fv)::(8,.pv none (.int .i64 i))::rest,hp.set r (.arr (some 4) (P++insC c t S1++R) false)⟩):
  W Z L hp.length (.loop [0,1,2,3,8,9] c147b9) ⟨fr,hp.set r (.arr (some 4) (P++S1++t::R) false)⟩ Q:=by
 have e1:∀A,(hp.set r A)[r]? =some A:=fun A=>by simp[hr]
 have hNl:N=P.length+S1.length+R.length+1:=by rw[hN];simp;omega
 refine za9 (fun k st=>∃(L1 M:List PV),k=L1.length/\S1=L1++M/\(∀m∈M,c t m<0)/\st=⟨[(0,.sl (some 4) r N 0 N),(1,.pv none (.int .i64 a)),(2,.pv none (.int .i64 b)),(3,fv),(8,.pv none (.int .i64 i)),(9,.pv none (.int .i64 ((a+L1.length:Nat):Int)))],hp.set r (.arr (some 4) (P++L1++t::M++R) false)⟩) (n:=S1.length) ⟨S1,[],rfl,by simp,by simp,?_⟩ ?_
 ·rw[hfr,hi]
  simp
 ·rintro k st ⟨L1,M,hk,hS,hM,rfl⟩
  have hSl:S1.length=L1.length+M.length:=by rw[hS];simp
  have hlen:(P++L1++t::M++R).length=N:=by simp;omega
  have fin:(∀x∈L1,¬c t x<0)->P++insC c t S1++R=P++L1++t::M++R:=fun hx=>by
   rw[hS,zhU hx hM];simp
  rcases zde L1 with rfl|⟨L2,x,rfl⟩
  ·have hc:¬((a:Nat):Int)<((a+([]:List PV).length:Nat):Int):=by simp
   have hf:=fin (by simp)
   rw[hf] at h
   simp -dsimp -implicitDefEqProofs only[c147b9,go_sem,seval,↓reduceIte,hc,Int.lt_irrefl]
   exact h _
  ·have hxl:(L2++[x]).length=L2.length+1:=by simp
   have hc:((a:Nat):Int)<((a+(L2++[x]).length:Nat):Int):=by rw[hxl];omega
   have w1:IntKind.i64.wrap (((a+(L2++[x]).length:Nat):Int) - 1)=((a+L2.length:Nat):Int):=by rw[zaq (by omega) (by omega)];omega
   have la:a+(L2++[x]).length<N:=by omega
   have lb:a+L2.length<N:=by omega
   have s1:P++(L2++[x])++t::M++R=(P++(L2++[x]))++t::(M++R):=by simp
   have s2:P++(L2++[x])++t::M++R=(P++L2)++x::(t::M++R):=by simp
   have g1:(P++(L2++[x])++t::M++R)[a+(L2++[x]).length]? =some t:=by rw[s1];exact zdB (by simp;omega)
   have g2:(P++(L2++[x])++t::M++R)[a+L2.length]? =some x:=by rw[s2];exact zdB (by simp;omega)
   have hxm:x∈S1:=by rw[hS];simp
   obtain⟨g,fs,cs,hcal,hg'⟩:=hg
   have hcall:=hg' t x hDt (hD x hxm)
   by_cases hlt:c t x<0
   ·have g3:((P++(L2++[x])++t::M++R).set (a+(L2++[x]).length) x).set (a+L2.length) t=P++L2++t::(x::M)++R:=by
     rw[s1,zdC (by simp;omega)]
     have s3:(P++(L2++[x]))++x::(M++R)=(P++L2)++x::(x::M++R):=by simp
     rw[s3,zdC (by simp;omega)]
     simp
    generalize hxs:P++(L2++[x])++t::M++R=xs at g1 g2 g3 hlen ⊢
    simp -dsimp -implicitDefEqProofs only[c147b9,go_sem,seval,↓reduceIte,hc,w1,zao la,zao lb,zaJ,zbZ,e1,g1,g2,hlen,List.length_set,List.set_set,la,lb,g3,hcall,zb0 hcal,hlt]
    refine⟨L2.length,by omega,L2,x::M,rfl,by rw[hS];simp,?_,?_⟩
    ·intro m hm
     rcases List.mem_cons.1 hm with rfl|hm
     ·exact hlt
     ·exact hM m hm
    ·rw[zav (by simp)]
   ·have hf:=fin (fun y hy=>by
     rcases List.mem_append.1 hy with hy|hy
     ·have hyx:c y x<=0:=by
       rw[hS] at hs
       have:=(List.pairwise_append.1 (List.pairwise_append.1 hs).1).2.2 y hy x (by simp)
       exact this
      intro hty
      have:=hC.lt_of_lt_le hty hyx
      exact hlt this
     ·simp at hy;subst hy;exact hlt)
    rw[hf] at h
    generalize hxs:P++(L2++[x])++t::M++R=xs at g1 g2 hlen h ⊢
    simp -dsimp -implicitDefEqProofs only[c147b9,go_sem,seval,↓reduceIte,hc,w1,zao la,zao lb,zaJ,e1,g1,g2,hlen,hcall,zb0 hcal,hlt]
    exact h _

theorem zf1(c:PV->PV->Int)(hC:Cmp c)(fv:AV)(D:PV->Prop)(hp:Heap)(r:Nat)(hg:CmpF c fv D hp r)(hr:r<hp.length)(a b N:Nat)(P A R:List PV)(hP:P.length=a)(hA:b=a+A.length)(hN:N=(P++A++R).length)(hN':N<1000000000)(hD:∀x∈A,D x):
  S 147 [.sl (some 4) r N 0 N,.pv none (.int .i64 a),.pv none (.int .i64 b),fv] (hp.set r (.arr (some 4) (P++A++R) false))=some (.ret (.tuple []),hp.set r (.arr (some 4) (P++isort c A++R) false)):=by
 refine zaD rfl rfl rfl rfl ?_
 have hNl:N=P.length+A.length+R.length:=by(rw[hN];simp <;> omega)
 have hsl:(hp.set r (.arr (some 4) (P++A++R) false)).length=hp.length:=by simp
 have w0:IntKind.i64.wrap ((a:Int)+1)=((a+1:Nat):Int):=by rw[zaq (by omega) (by omega)];omega
 rw[hsl]
 simp -dsimp -implicitDefEqProofs only[c147b9,go_sem,seval,↓reduceIte,w0]
 refine za9 (fun n st=>∃k:Nat,n=A.length - k/\1<=k/\st=⟨[(0,.sl (some 4) r N 0 N),(1,.pv none (.int .i64 a)),(2,.pv none (.int .i64 b)),(3,fv),(8,.pv none (.int .i64 ((a+k:Nat):Int)))],hp.set r (.arr (some 4) (P++isort c (A.take k)++A.drop k++R) false)⟩) (n:=A.length - 1) ⟨1,rfl,Nat.le_refl _,?_⟩ ?_
 ·simp -dsimp -implicitDefEqProofs only[go_sem,seval,↓reduceIte]
  cases A with
  |nil=>simp[isort]
  |cons x A=>simp[isort,insC]
 ·rintro n st ⟨k,hn,hk,rfl⟩
  by_cases h:k<A.length
  ·have hc:((a+k:Nat):Int)<(b:Int):=by omega
   obtain⟨t,R1,hd⟩:∃t R1,A.drop k=t::R1:=⟨A[k],A.drop (k+1),List.drop_eq_getElem_cons h⟩
   have hd1:A.drop (k+1)=R1:=by rw[<-List.drop_drop,hd];rfl
   have ht:A.take (k+1)=A.take k++[t]:=by
    have:A[k]? =some t:=by have:=congrArg List.head? hd;simpa using this
    rw[List.take_add_one,this];rfl
   have w3:IntKind.i64.wrap (((a+k:Nat):Int)+1)=((a+(k+1):Nat):Int):=by rw[zaq (by omega) (by omega)];omega
   have hlk:(isort c (A.take k)).length=k:=by rw[zat];simp;omega
   have e0:P++isort c (A.take k)++A.drop k++R=P++isort c (A.take k)++t::(R1++R):=by rw[hd];simp
   have hmem:∀x∈isort c (A.take k),D x:=fun x hx=>hD x (List.mem_of_mem_take ((za6 _).mem_iff.1 hx))
   have htm:D t:=hD t (List.mem_of_mem_drop (show t∈A.drop k from by rw[hd];simp))
   simp -dsimp -implicitDefEqProofs only[go_sem,seval,↓reduceIte,hc]
   rw[e0]
   refine zs3 c hC fv D hp r hg hr a b (a+k) N P (isort c (A.take k)) (R1++R) t hP (zcW hC _) (by omega) (by rw[<-e0];simp[hlk];omega) hN' hmem htm _ _ rfl fun rest=> ?_
   simp -dsimp -implicitDefEqProofs only[go_sem,seval,↓reduceIte,w3]
   refine⟨A.length - (k+1),by omega,k+1,rfl,by omega,?_⟩
   rw[zav (by simp),ht,zoi,hd1]
   simp
  ·have hc:¬((a+k:Nat):Int)<(b:Int):=by omega
   simp -dsimp -implicitDefEqProofs only[go_sem,seval,↓reduceIte,hc]
   rw[List.take_of_length_le (by simp),List.take_of_length_le (by omega),List.drop_eq_nil_of_le (by omega)]
   simp
end Go.Proofs.YtiifblpdlphchaaGreatRR
