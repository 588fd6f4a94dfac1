/- What is proved: what slices.Insert does at one type. -/
import Derived.Test.YtkfncielohbecaaGreatDoorProg
import Derived.Shelf.Spec.SlicesInsertGrow
import Derived.Test.YtkfncielohbecaaGreatDoorAm2
import Derived.Test.YtkfncielohbecaaGreatDoorRows
import Derived.Shelf.Lays
import Derived.Test.YtkfncielohbecaaGreatDoorFns
import Derived.Test.YtkfncielohbecaaGreatDoorAm5
import Derived.Test.YtkfncielohbecaaGreatDoorAm7
set_option linter.unusedVariables false
set_option linter.unusedSimpArgs false
namespace Go.Proofs.YtkfncielohbecaaGreatDoor.InsA
open Go Go.Am Go.Proofs Go.Lib Go.RowKit
theorem t3:Tryz.prog.underlying 3=some (TypeDesc.int IntKind.i64):=by kernel_rfl
theorem a3:∀w,(isAgg 3).run Tryz.prog w=.ok false w:=fun w=>by kernel_rfl
theorem z3:∀w,(Go.sizeOf 3).run Tryz.prog w=.ok 1 w:=fun w=>by kernel_rfl
theorem v3:∀w,(zeroValue 3).run Tryz.prog w=.ok (Value.int IntKind.i64 0) w:=fun w=>by kernel_rfl
theorem t4:Tryz.prog.underlying 4=some TypeDesc.bool:=by kernel_rfl
theorem a4:∀w,(isAgg 4).run Tryz.prog w=.ok false w:=fun w=>by kernel_rfl
theorem z4:∀w,(Go.sizeOf 4).run Tryz.prog w=.ok 1 w:=fun w=>by kernel_rfl
theorem v4:∀w,(zeroValue 4).run Tryz.prog w=.ok (Value.bool false) w:=fun w=>by kernel_rfl
theorem tS:Tryz.prog.underlying 24=some (TypeDesc.slice 54):=by kernel_rfl
theorem aS:∀w,(isAgg 24).run Tryz.prog w=.ok false w:=fun w=>by kernel_rfl
theorem zS:∀w,(Go.sizeOf 24).run Tryz.prog w=.ok 1 w:=fun w=>by kernel_rfl
theorem vS:∀w,(zeroValue 24).run Tryz.prog w=.ok (Value.slice none 0 0) w:=fun w=>by kernel_rfl
theorem zE:∀w,(Go.sizeOf 54).run Tryz.prog w=.ok 4 w:=fun w=>by kernel_rfl
theorem iE:(Tryz.prog.info? 54).map (·.size)=some 4:=by kernel_rfl
theorem ins_list{α:Type}(C:List α)(p q:Nat)(hpq:p<=q)(hq:q<=C.length)(R:List α):(C.take q++R).take p=C.take p/\(C.take q++R).drop q=R:=by
 have hl:(C.take q).length=q:=by simp;omega
 refine⟨?_,?_⟩
 ·rw[List.take_append_of_le_length (by omega),List.take_take]
  congr 1
  omega
 ·exact List.drop_left' hl
set_option maxHeartbeats 4000000 in
set_option maxRecDepth 100000 in
theorem ins_shift(b n c i vb voff m vc:Nat)(cur:Array Value)(t:TypeId)(vs:List Value)(w:World)(hi:i<n)(hm:0<m)(hroom:n+m<=c)(hlim:n+m<=lim)(hvb:vb≠b)
  (hg:w.heap[b]? =some (.cells cur t (0,0)))(hcs:cur.size=c*4)(hvl:vs.length=m*4)(h1:∀v∈(cur.toList.drop (i*4)).take ((n - i)*4),v.oneCell'=true)
  (hvs:∀j v,vs[j]? =some v->w.cell? ⟨vb,voff+j,none⟩=some v)(h1v:∀v∈vs,v.oneCell'=true)
  (tA:TypeId)(kA:Nat)(hsa:w.shape? vb=some (tA,kA))(hkA:kA≠0):
  ∃cur2:Array Value,cur2.toList=cur.toList.take (i*4)++vs++(cur.toList.drop (i*4)).take ((n - i)*4)++cur.toList.drop ((n+m)*4)/\
  Calls Tryz.prog 109 #[.slice (some ⟨b,0,none⟩) n c,.int .i64 i,.slice (some ⟨vb,voff,none⟩) m vc] w fun e w'=>
   e=.returned (.slice (some ⟨b,0,none⟩) (n+m) c)/\∃cur1,w'=(w.drew.setRow b cur1).setRow b cur2:=by
 have t3:=t3;have a3:=a3;have z3:=z3;have v3:=v3;have t4:=t4;have a4:=a4;have z4:=z4;have v4:=v4;have tS:=tS;have aS:=aS;have zS:=zS;have vS:=vS;have zE:=zE
 have u3:=run_underlying t3;have u4:=run_underlying t4;have uS:=run_underlying tS
 have hlim':n+m<=1073741824:=hlim
 have hov:∀lb cb x,(callFunc 131 #[.slice (some ⟨vb,voff,none⟩) m vc,.slice (some ⟨b,x,none⟩) lb cb]).run Tryz.prog w=.ok (.value (.bool false)) w:=fun lb cb x=>by
  have hfr:∀o,w.frozen? ⟨b,o,none⟩=false:=fun o=>by simp[World.frozen?,hg]
  rw[run_callFunc_extern Tryz.func131 (by kernel_rfl) (by kernel_rfl) (by kernel_rfl) (e:=Extern.SlicesOverlaps.overlaps #[24,24] #[4]) (by kernel_rfl),
   zbz w 24 4 54 tS 4 zE ⟨vb,voff,none⟩ ⟨b,x,none⟩ m vc lb cb hvb tA t kA cur.size hsa (by simp[World.shape?,hg]) hkA (by omega) hfr (hfr x)]
  rfl
 have hz1:¬((m:Int)=0):=by omega
 have hz2:¬((i:Int)=(n:Int)):=by omega
 have hw1:IntKind.i64.wrap ((i:Int)+(m:Int))=(i:Int)+(m:Int):=by rw[IntKind.wrap_i64];omega
 have hb1:(0:Int)<=(i:Int)+(m:Int):=by omega
 have hin:i<=n:=by omega
 have htn:((i:Int)+(m:Int)).toNat=i+m:=by omega
 have hb2:¬(c=i+m):=by omega
 have hb3:(i:Int)<=(n:Int)+(m:Int):=by omega
 have hb4:¬(c=i):=by omega
 have hcell:∀(W:World) (j:Nat),W.heap=w.heap->W.cell? ⟨b,j,none⟩=cur.toList[j]? :=fun W j h=>by
  simp[World.cell?,h,hg]
 have hcp1:∃cur1:Array Value,cur1.toList=cur.toList.take ((i+m)*4)++(cur.toList.drop (i*4)).take ((n - i)*4)++cur.toList.drop ((n+m)*4)/\∀ty dc sc,(Builtin.copy_ #[24,24] ty #[.slice (some ⟨b,(i+m)*4,none⟩) (n+m - (i+m)) dc,.slice (some ⟨b,i*4,none⟩) (n+m - i) sc]).run Tryz.prog w.drew=.ok (goInt ((n - i:Nat):Int)) (w.drew.setRow b cur1):=by
  obtain⟨cs1,hcs1⟩:∃cs1,cs1=(cur.toList.drop (i*4)).take ((n - i)*4):=⟨_,rfl⟩
  have hl1:cs1.length=(n - i)*4:=by rw[hcs1];simp;omega
  have hmin:Nat.min (n+m - i) (n+m - (i+m))=n - i:=by simp only[Nat.min_def];split <;> omega
  have h:=fun ty dc sc=>
   zar w.drew 24 24 ty 54 b ((i+m)*4) (n+m - (i+m)) dc ⟨b,i*4,none⟩ (n+m - i) sc 4 cur t cs1 tS iE hg (by rw[hl1,hmin])
   (fun j v hj=>by
    have ha:(⟨b,i*4,none⟩:Addr).add j=⟨b,i*4+j,none⟩:=by unfold Addr.add;split <;> simp_all
    rw[ha,hcell w.drew _ rfl]
    rw[hcs1,List.getElem?_take] at hj
    split at hj
    ·rwa [List.getElem?_drop] at hj
    ·cases hj)
   (by rw[hl1,hcs];omega) (fun v hv=>h1 v (by rw[hcs1] at hv;exact hv))
  refine⟨(cur.toList.take ((i+m)*4)++cs1++cur.toList.drop ((i+m)*4+cs1.length)).toArray,?_,fun ty dc sc=> ?_⟩
  ·rw[hl1,hcs1,show(i+m)*4+(n - i)*4=(n+m)*4 by omega]
  ·rw[h,hmin]
 obtain⟨cur1,hcur1,hcp1⟩:=hcp1
 have hcur1l:cur1.size=cur.size:=by
  have:=congrArg List.length hcur1
  simp at this
  omega
 have hne:∀x,x≠b->(w.drew.setRow b cur1).heap[x]? =w.heap[x]? :=fun x hx=>by
  simp[World.setRow,Array.getElem?_modify,Ne.symm hx]
  rfl
 have hg1:(w.drew.setRow b cur1).heap[b]? =some (.cells cur1 t (0,0)):=setRow_heap w.drew b cur cur1 t _ hg
 have hcp2:∃cur2:Array Value,cur2.toList=cur1.toList.take (i*4)++vs++cur1.toList.drop (i*4+m*4)/\∀ty dc,(Builtin.copy_ #[24,24] ty #[.slice (some ⟨b,i*4,none⟩) (n+m - i) dc,.slice (some ⟨vb,voff,none⟩) m vc]).run Tryz.prog (w.drew.setRow b cur1)=.ok (goInt m) ((w.drew.setRow b cur1).setRow b cur2):=by
  have hmin:Nat.min m (n+m - i)=m:=by simp only[Nat.min_def];split <;> omega
  have h:=fun ty dc=>
   zar (w.drew.setRow b cur1) 24 24 ty 54 b (i*4) (n+m - i) dc ⟨vb,voff,none⟩ m vc 4 cur1 t vs tS iE hg1 (by rw[hvl,hmin])
   (fun j v hj=>by
    have ha:(⟨vb,voff,none⟩:Addr).add j=⟨vb,voff+j,none⟩:=by unfold Addr.add;split <;> simp_all
    rw[ha]
    have:=hvs j v hj
    unfold World.cell? at this ⊢
    rw[hne vb hvb]
    exact this)
   (by rw[hvl,hcur1l,hcs];omega) h1v
  refine⟨(cur1.toList.take (i*4)++vs++cur1.toList.drop (i*4+vs.length)).toArray,?_,fun ty dc=> ?_⟩
  ·rw[hvl]
  ·rw[h,hmin]
 obtain⟨cur2,hcur2,hcp2⟩:=hcp2
 have hfin:cur2.toList=cur.toList.take (i*4)++vs++(cur.toList.drop (i*4)).take ((n - i)*4)++cur.toList.drop ((n+m)*4):=by
  rw[hcur2,hcur1]
  simp only[List.append_assoc]
  obtain⟨e1,e2⟩:=ins_list cur.toList (i*4) ((i+m)*4) (by omega) (by simp;omega) ((cur.toList.drop (i*4)).take ((n - i)*4)++cur.toList.drop ((n+m)*4))
  rw[e1,show i*4+m*4=(i+m)*4 by omega,e2]
 refine⟨cur2,hfin,?_⟩
 clear hcur1 hcur2 hfin
 have mixed:Tryz.prog.follows .mixedOrders=true:=by kernel_rfl
 go_enter Tryz.func109,Tryz.f109
 go_wp2_with (simp only[hov])
 go_region_law_o (refine step_copy_runI rfl _ _ 24 24 rfl _ _ (by simp[Act.eval,Act.put]) (by simp[Act.eval,Act.put]) (hcp1 _ _ _) ?_)
 go_wp2_with (at_builtin;refine wpList_copy_runI _ rfl _ _ 24 24 rfl _ _ rfl rfl (hcp2 _ _) ?_)
 go_ret
 exact⟨rfl,cur1,rfl⟩
set_option maxHeartbeats 4000000 in
set_option maxRecDepth 100000 in
theorem ins_grow(b n c i vb voff m vc:Nat)(cur:Array Value)(t:TypeId)(vs:List Value)(w:World)(hi:i<n)(hm:0<m)(hnc:n<=c)(hroom:c<n+m)(hlim:n+m<=lim)(hvb:vb<w.heap.size)
  (hg:w.heap[b]? =some (.cells cur t (0,0)))(hcs:cur.size=c*4)(hvl:vs.length=m*4)(h1:∀v∈(cur.toList.drop (i*4)).take ((n - i)*4),v.oneCell'=true)
  (hvs:∀j v,vs[j]? =some v->w.cell? ⟨vb,voff+j,none⟩=some v)(h1v:∀v∈vs,v.oneCell'=true)
  (hok:okT Tryz.prog 54=true)(hz:zay Tryz.prog 54=true)(hby:zaB Tryz.prog 54=true)(hshE:(shOf Tryz.prog 54).size=4):
  ∃(row:Array Value) (G:Nat),n+m<=G/\row.size=G*4/\row.toList.take ((n+m)*4)=cur.toList.take (i*4)++vs++(cur.toList.drop (i*4)).take ((n - i)*4)/\
  Calls Tryz.prog 109 #[.slice (some ⟨b,0,none⟩) n c,.int .i64 i,.slice (some ⟨vb,voff,none⟩) m vc] w fun e w'=>
   e=.returned (.slice (some ⟨w.heap.size,0,none⟩) (n+m) G)/\w'.heap[w.heap.size]? =some (.cells row 54 (0,0))/\w'.heap.size=w.heap.size+1/\(∀x,x<w.heap.size->w'.heap[x]? =w.heap[x]?)/\w'.os=w.os/\w'.tape=w.tape/\w'.output=w.output:=by
 have t3:=t3;have a3:=a3;have z3:=z3;have v3:=v3;have t4:=t4;have a4:=a4;have z4:=z4;have v4:=v4;have tS:=tS;have aS:=aS;have zS:=zS;have vS:=vS;have zE:=zE
 have u3:=run_underlying t3;have u4:=run_underlying t4;have uS:=run_underlying tS
 obtain⟨i0,z0,hi0,hz0,hs0,hzc⟩:=okE w hok hz
 rw[hshE] at hs0 hzc
 have hb:i0.bytes<=1024:=by
  unfold zaB at hby
  rw[hi0] at hby
  simpa using hby
 have hbb:(n+m)*i0.bytes<=140737488355328:=by
  have:(n+m)*i0.bytes<=lim*1024:=Nat.mul_le_mul hlim hb
  unfold lim at this
  omega
 have hlim':n+m<=1073741824:=hlim
 have hbN:b<w.heap.size:=zam hg
 have hz1:¬((m:Int)=0):=by omega
 have hz2:¬((i:Int)=(n:Int)):=by omega
 have hz3:(c:Int)<(n:Int)+(m:Int):=by omega
 have hkk:(n:Int)+(m:Int) - (i:Int)=((n+m - i:Nat):Int):=by omega
 have hik:i+(n+m - i)=n+m:=by omega
 have hold:(Builtin.firstCells i0.size i (.slice (some ⟨b,0,none⟩) i c)).run Tryz.prog w.drew=.ok (cur.toList.take (i*4)).toArray w.drew:=by
  rw[hs0]
  refine run_firstCells_some w.drew 4 i ⟨b,0,none⟩ i c (cur.toList.take (i*4)) (by simp;omega) fun j v hj=> ?_
  have ha:(⟨b,0,none⟩:Addr).add j=⟨b,j,none⟩:=by unfold Addr.add;split <;> simp_all
  rw[ha]
  rw[List.getElem?_take] at hj
  split at hj
  ·have hg':w.drew.heap[b]? =some (.cells cur t (0,0)):=hg
   simpa[World.cell?,hg'] using hj
  ·cases hj
 obtain⟨G,hG⟩:∃G,grownCap w (n+m) c 54=G:=⟨_,rfl⟩
 obtain⟨ROW,hROW⟩:∃ROW:Array Value,(cur.toList.take (i*4)).toArray++Builtin.zeroCells z0.cells (n+m - i)++Builtin.zeroCells z0.cells (G - (n+m))=ROW:=⟨_,rfl⟩
 have hGn:n+m<=G:=by rw[<-hG];exact grownCap_ge w _ _ _
 have hRl:ROW.size=G*4:=by
  rw[<-hROW]
  simp only[Array.size_append,List.size_toArray,size_zeroCells,hzc,List.length_take,Array.length_toList]
  omega
 have hRt:ROW.toList.take (i*4)=cur.toList.take (i*4):=by
  rw[<-hROW]
  simp only[Array.toList_append,List.append_assoc]
  exact List.take_left' (by simp;omega)
 have hrz:∀ty,(Builtin.append_ #[24,3] ty #[.slice (some ⟨b,0,none⟩) i c,.int .i64 ((n:Int)+(m:Int) - (i:Int))]).run Tryz.prog w=
   .ok (.slice (some ⟨w.heap.size,0,none⟩) (n+m) G) (w.drew.alloc (.cells ROW 54)):=fun ty=>by
  have h:=Lib.run_append_grow_zeros w 24 3 ty 54 i0 z0 .i64 .i64 tS t3 hi0 hz0 (some ⟨b,0,none⟩) i c (cur.toList.take (i*4)) hold (n+m - i) (by omega) (by rw[hs0];omega) (by omega) (by omega)
   (by have:(n+m - i)*i0.bytes<=(n+m)*i0.bytes:=Nat.mul_le_mul (by omega) (Nat.le_refl _);omega) (by rw[hik];exact growslice_fits hroom hbb)
  rw[hik,hG] at h
  rw[hkk,<-hROW]
  exact h
 have hd1:ROW.toList.length=G*4:=by simpa using hRl
 have hGn':(n+m)*4<=G*4:=Nat.mul_le_mul hGn (Nat.le_refl _)
 have hcpA:∃row1:Array Value,row1.toList=ROW.toList.take (i*4)++vs++ROW.toList.drop (i*4+m*4)/\∀W:World,W.heap[w.heap.size]? =some (.cells ROW 54 (0,0))->W.heap[vb]? =w.heap[vb]?->∀ty dc,(Builtin.copy_ #[24,24] ty #[.slice (some ⟨w.heap.size,i*4,none⟩) (n+m - i) dc,.slice (some ⟨vb,voff,none⟩) m vc]).run Tryz.prog W=.ok (goInt m) (W.setRow w.heap.size row1):=by
  have hmin:Nat.min m (n+m - i)=m:=by simp only[Nat.min_def];split <;> omega
  refine⟨(ROW.toList.take (i*4)++vs++ROW.toList.drop (i*4+vs.length)).toArray,by rw[hvl],fun W hN hV ty dc=> ?_⟩
  have h:=zar W 24 24 ty 54 w.heap.size (i*4) (n+m - i) dc ⟨vb,voff,none⟩ m vc 4 ROW 54 vs tS iE hN (by rw[hvl,hmin])
   (fun j v hj=>by
    have ha:(⟨vb,voff,none⟩:Addr).add j=⟨vb,voff+j,none⟩:=by unfold Addr.add;split <;> simp_all
    rw[ha]
    have:=hvs j v hj
    unfold World.cell? at this ⊢
    rw[hV]
    exact this)
   (by rw[hvl,hRl];omega) h1v
  rw[h,hmin]
 obtain⟨row1,hrow1,hcpA⟩:=hcpA
 have hr1l:row1.size=G*4:=by
  have:=congrArg List.length hrow1
  simp at this
  omega
 have hcpB:∃row2:Array Value,row2.toList=row1.toList.take ((i+m)*4)++(cur.toList.drop (i*4)).take ((n - i)*4)++row1.toList.drop ((n+m)*4)/\∀W:World,W.heap[w.heap.size]? =some (.cells row1 54 (0,0))->W.heap[b]? =some (.cells cur t (0,0))->∀ty dc sc,(Builtin.copy_ #[24,24] ty #[.slice (some ⟨w.heap.size,(i+m)*4,none⟩) (n+m - (i+m)) dc,.slice (some ⟨b,i*4,none⟩) (n - i) sc]).run Tryz.prog W=.ok (goInt ((n - i:Nat):Int)) (W.setRow w.heap.size row2):=by
  obtain⟨cs1,hcs1⟩:∃cs1,cs1=(cur.toList.drop (i*4)).take ((n - i)*4):=⟨_,rfl⟩
  have hl1:cs1.length=(n - i)*4:=by rw[hcs1];simp;omega
  have hmin:Nat.min (n - i) (n+m - (i+m))=n - i:=by simp only[Nat.min_def];split <;> omega
  refine⟨(row1.toList.take ((i+m)*4)++cs1++row1.toList.drop ((i+m)*4+cs1.length)).toArray,by rw[hl1,hcs1,show(i+m)*4+(n - i)*4=(n+m)*4 by omega],fun W hN hB ty dc sc=> ?_⟩
  have h:=zar W 24 24 ty 54 w.heap.size ((i+m)*4) (n+m - (i+m)) dc ⟨b,i*4,none⟩ (n - i) sc 4 row1 54 cs1 tS iE hN (by rw[hl1,hmin])
   (fun j v hj=>by
    have ha:(⟨b,i*4,none⟩:Addr).add j=⟨b,i*4+j,none⟩:=by unfold Addr.add;split <;> simp_all
    rw[ha]
    rw[hcs1,List.getElem?_take] at hj
    split at hj
    ·rw[List.getElem?_drop] at hj
     simpa[World.cell?,hB] using hj
    ·cases hj)
   (by rw[hl1,hr1l];omega) (fun v hv=>h1 v (by rw[hcs1] at hv;exact hv))
  rw[h,hmin]
 obtain⟨row2,hrow2,hcpB⟩:=hcpB
 have hfin:row2.toList.take ((n+m)*4)=cur.toList.take (i*4)++vs++(cur.toList.drop (i*4)).take ((n - i)*4):=by
  have e0:row1.toList.take ((i+m)*4)=cur.toList.take (i*4)++vs:=by
   rw[hrow1,hRt]
   exact List.take_left' (by simp[hvl];omega)
  rw[hrow2,e0]
  exact List.take_left' (by simp[hvl];omega)
 have hr2l:row2.size=G*4:=by
  have:=congrArg List.length hrow2
  simp at this
  omega
 have hA1:(w.drew.alloc (.cells ROW 54)).heap[w.heap.size]? =some (.cells ROW 54 (0,0)):=zaj w.drew _
 have hA2:∀x,x<w.heap.size->(w.drew.alloc (.cells ROW 54)).heap[x]? =w.heap[x]? :=fun x hx=>zao w.drew _ hx
 have hA3:(w.drew.alloc (.cells ROW 54)).heap.size=w.heap.size+1:=by
  show(w.drew.heap.push _).size=_
  rw[Array.size_push]
  rfl
 refine⟨row2,G,hGn,hr2l,hfin,?_⟩
 have hG63:G<=9223372036854775807:=by
  have:=grownCap_le_maxLen w (n+m) c 54 (by unfold maxLen;omega)
  rw[hG] at this
  unfold maxLen at this
  omega
 have hGi:¬(G=i):=by omega
 have hGim:¬(G=i+m):=by omega
 have hci:¬(c=i):=by omega
 have hw1:IntKind.i64.wrap ((i:Int)+(m:Int))=(i:Int)+(m:Int):=by rw[IntKind.wrap_i64];omega
 have hw2:IntKind.i64.wrap ((n:Int)+(m:Int))=(n:Int)+(m:Int):=by rw[IntKind.wrap_i64];omega
 have hw3:IntKind.i64.wrap ((n:Int)+(m:Int) - (i:Int))=(n:Int)+(m:Int) - (i:Int):=by rw[IntKind.wrap_i64];omega
 have hb1:(0:Int)<=(i:Int)+(m:Int):=by omega
 have hin:i<=n:=by omega
 have htn:((i:Int)+(m:Int)).toNat=i+m:=by omega
 have hb3:(i:Int)<=(n:Int):=by omega
 clear hkk hik hold hrow1 hrow2 hfin hRt hd1 hROW hG
 have mixed:Tryz.prog.follows .mixedOrders=true:=by kernel_rfl
 go_enter Tryz.func109,Tryz.f109
 go_wp2_with (at_builtin;refine Lib.wpList_append_run _ rfl _ _ _ _ rfl _ _ rfl rfl _ _ (hrz _) ?_)
 have hA1':((w.alloc (.cells ROW 54)).drew).heap[w.heap.size]? =some (.cells ROW 54 (0,0)):=hA1
 have hA2':∀x,x<w.heap.size->((w.alloc (.cells ROW 54)).drew).heap[x]? =w.heap[x]? :=hA2
 have hA3':((w.alloc (.cells ROW 54)).drew).heap.size=w.heap.size+1:=hA3
 have hA4':((w.alloc (.cells ROW 54)).drew).os=w.os/\((w.alloc (.cells ROW 54)).drew).tape=w.tape/\((w.alloc (.cells ROW 54)).drew).output=w.output:=⟨rfl,rfl,rfl⟩
 rw[hcpA _ hA1' (hA2' _ hvb)]
 generalize (w.alloc (.cells ROW 54)).drew=W0 at*
 have hB1:(W0.setRow w.heap.size row1).heap[w.heap.size]? =some (.cells row1 54 (0,0)):=setRow_heap W0 w.heap.size ROW row1 54 _ hA1'
 have hB2:∀x,x<w.heap.size->(W0.setRow w.heap.size row1).heap[x]? =w.heap[x]? :=fun x hx=>by
  rw[<-hA2' x hx]
  have:w.heap.size≠x:=by omega
  simp[World.setRow,Array.getElem?_modify,this]
 have hB3:(W0.setRow w.heap.size row1).heap.size=w.heap.size+1:=by rw[<-hA3'];simp[World.setRow]
 have hB4:(W0.setRow w.heap.size row1).os=w.os/\(W0.setRow w.heap.size row1).tape=w.tape/\(W0.setRow w.heap.size row1).output=w.output:=hA4'
 generalize W0.setRow w.heap.size row1=W1 at*
 clear hA1' hA2' hA3' hA4' hcpA hrz hA1 hA2 hA3
 go_wp2
 have hD1:W1.drew.heap[w.heap.size]? =some (.cells row1 54 (0,0)):=hB1
 have hD2:W1.drew.heap[b]? =some (.cells cur t (0,0)):=by rw[<-hg];exact hB2 b hbN
 go_region_law_o (refine step_copy_runI rfl _ _ 24 24 rfl (.slice (some ⟨w.heap.size,(i+m)*4,none⟩) (n+m - (i+m)) (G - (i+m))) (.slice (some ⟨b,i*4,none⟩) (n - i) (c - i)) (by simp[Act.eval,Act.put]) (by simp[Act.eval,Act.put]) (hcpB W1.drew hD1 hD2 3 (G - (i+m)) (c - i)) ?_)
 have hE1:(W1.drew.setRow w.heap.size row2).heap[w.heap.size]? =some (.cells row2 54 (0,0)):=setRow_heap W1.drew w.heap.size row1 row2 54 _ hD1
 have hE2:∀x,x<w.heap.size->(W1.drew.setRow w.heap.size row2).heap[x]? =w.heap[x]? :=fun x hx=>by
  rw[<-hB2 x hx]
  have:w.heap.size≠x:=by omega
  simp[World.setRow,Array.getElem?_modify,this]
  rfl
 have hE3:(W1.drew.setRow w.heap.size row2).heap.size=w.heap.size+1:=by
  rw[<-hB3]
  show(W1.heap.modify _ _).size=_
  rw[Array.size_modify]
 have hE4:(W1.drew.setRow w.heap.size row2).os=w.os/\(W1.drew.setRow w.heap.size row2).tape=w.tape/\(W1.drew.setRow w.heap.size row2).output=w.output:=hB4
 generalize W1.drew.setRow w.heap.size row2=W2 at*
 clear hD1 hD2 hB1 hB2 hB3 hB4 hcpB
 go_wp2
 go_ret
 exact⟨rfl,hE1,hE3,hE2,hE4⟩
set_option maxHeartbeats 4000000 in
set_option maxRecDepth 100000 in
theorem ins_end(base:Option Addr)(n c vb voff m vc:Nat)(w w':World)(v':Value)(hm:0<m)(hnc:n<=c)(hlim:n<=lim)(hrun:(Builtin.append_ #[24,24] 24 #[.slice base n c,.slice (some ⟨vb,voff,none⟩) m vc]).run Tryz.prog w=.ok v' w'):
  Calls Tryz.prog 109 #[.slice base n c,.int .i64 n,.slice (some ⟨vb,voff,none⟩) m vc] w fun E W=>E=.returned v'/\W=w':=by
 have t3:=t3;have a3:=a3;have z3:=z3;have v3:=v3;have t4:=t4;have a4:=a4;have z4:=z4;have v4:=v4;have tS:=tS;have aS:=aS;have zS:=zS;have vS:=vS;have zE:=zE
 have u3:=run_underlying t3;have u4:=run_underlying t4;have uS:=run_underlying tS
 have hlim':n<=1073741824:=hlim
 have hz1:¬((m:Int)=0):=by omega
 have mixed:Tryz.prog.follows .mixedOrders=true:=by kernel_rfl
 go_enter Tryz.func109,Tryz.f109
 cases base with
 |none=>
  go_wp2_with (at_builtin;refine Lib.wpList_append_run _ rfl _ _ _ _ rfl _ _ rfl rfl _ _ hrun ?_)
  all_goals (go_ret;exact⟨rfl,rfl⟩)
 |some a=>
  obtain⟨ab,ao,asp⟩:=a
  go_wp2_with (at_builtin;refine Lib.wpList_append_run _ rfl _ _ _ _ rfl _ _ rfl rfl _ _ hrun ?_)
  all_goals (go_ret;exact⟨rfl,rfl⟩)
end Go.Proofs.YtkfncielohbecaaGreatDoor.InsA
namespace Go.Proofs.YtkfncielohbecaaGreatDoor.InsB
open Go Go.Am Go.Proofs Go.Lib Go.RowKit
theorem t3:Tryz.prog.underlying 3=some (TypeDesc.int IntKind.i64):=by kernel_rfl
theorem a3:∀w,(isAgg 3).run Tryz.prog w=.ok false w:=fun w=>by kernel_rfl
theorem z3:∀w,(Go.sizeOf 3).run Tryz.prog w=.ok 1 w:=fun w=>by kernel_rfl
theorem v3:∀w,(zeroValue 3).run Tryz.prog w=.ok (Value.int IntKind.i64 0) w:=fun w=>by kernel_rfl
theorem t4:Tryz.prog.underlying 4=some TypeDesc.bool:=by kernel_rfl
theorem a4:∀w,(isAgg 4).run Tryz.prog w=.ok false w:=fun w=>by kernel_rfl
theorem z4:∀w,(Go.sizeOf 4).run Tryz.prog w=.ok 1 w:=fun w=>by kernel_rfl
theorem v4:∀w,(zeroValue 4).run Tryz.prog w=.ok (Value.bool false) w:=fun w=>by kernel_rfl
theorem tS:Tryz.prog.underlying 52=some (TypeDesc.slice 64):=by kernel_rfl
theorem aS:∀w,(isAgg 52).run Tryz.prog w=.ok false w:=fun w=>by kernel_rfl
theorem zS:∀w,(Go.sizeOf 52).run Tryz.prog w=.ok 1 w:=fun w=>by kernel_rfl
theorem vS:∀w,(zeroValue 52).run Tryz.prog w=.ok (Value.slice none 0 0) w:=fun w=>by kernel_rfl
theorem zE:∀w,(Go.sizeOf 64).run Tryz.prog w=.ok 9 w:=fun w=>by kernel_rfl
theorem iE:(Tryz.prog.info? 64).map (·.size)=some 9:=by kernel_rfl
theorem ins_list{α:Type}(C:List α)(p q:Nat)(hpq:p<=q)(hq:q<=C.length)(R:List α):(C.take q++R).take p=C.take p/\(C.take q++R).drop q=R:=by
 have hl:(C.take q).length=q:=by simp;omega
 refine⟨?_,?_⟩
 ·rw[List.take_append_of_le_length (by omega),List.take_take]
  congr 1
  omega
 ·exact List.drop_left' hl
set_option maxHeartbeats 4000000 in
set_option maxRecDepth 100000 in
theorem ins_shift(b n c i vb voff m vc:Nat)(cur:Array Value)(t:TypeId)(vs:List Value)(w:World)(hi:i<n)(hm:0<m)(hroom:n+m<=c)(hlim:n+m<=lim)(hvb:vb≠b)
  (hg:w.heap[b]? =some (.cells cur t (0,0)))(hcs:cur.size=c*9)(hvl:vs.length=m*9)(h1:∀v∈(cur.toList.drop (i*9)).take ((n - i)*9),v.oneCell'=true)
  (hvs:∀j v,vs[j]? =some v->w.cell? ⟨vb,voff+j,none⟩=some v)(h1v:∀v∈vs,v.oneCell'=true)
  (tA:TypeId)(kA:Nat)(hsa:w.shape? vb=some (tA,kA))(hkA:kA≠0):
  ∃cur2:Array Value,cur2.toList=cur.toList.take (i*9)++vs++(cur.toList.drop (i*9)).take ((n - i)*9)++cur.toList.drop ((n+m)*9)/\
  Calls Tryz.prog 110 #[.slice (some ⟨b,0,none⟩) n c,.int .i64 i,.slice (some ⟨vb,voff,none⟩) m vc] w fun e w'=>
   e=.returned (.slice (some ⟨b,0,none⟩) (n+m) c)/\∃cur1,w'=(w.drew.setRow b cur1).setRow b cur2:=by
 have t3:=t3;have a3:=a3;have z3:=z3;have v3:=v3;have t4:=t4;have a4:=a4;have z4:=z4;have v4:=v4;have tS:=tS;have aS:=aS;have zS:=zS;have vS:=vS;have zE:=zE
 have u3:=run_underlying t3;have u4:=run_underlying t4;have uS:=run_underlying tS
 have hlim':n+m<=1073741824:=hlim
 have hov:∀lb cb x,(callFunc 133 #[.slice (some ⟨vb,voff,none⟩) m vc,.slice (some ⟨b,x,none⟩) lb cb]).run Tryz.prog w=.ok (.value (.bool false)) w:=fun lb cb x=>by
  have hfr:∀o,w.frozen? ⟨b,o,none⟩=false:=fun o=>by simp[World.frozen?,hg]
  rw[run_callFunc_extern Tryz.func133 (by kernel_rfl) (by kernel_rfl) (by kernel_rfl) (e:=Extern.SlicesOverlaps.overlaps #[52,52] #[4]) (by kernel_rfl),
   zbz w 52 4 64 tS 9 zE ⟨vb,voff,none⟩ ⟨b,x,none⟩ m vc lb cb hvb tA t kA cur.size hsa (by simp[World.shape?,hg]) hkA (by omega) hfr (hfr x)]
  rfl
 have hz1:¬((m:Int)=0):=by omega
 have hz2:¬((i:Int)=(n:Int)):=by omega
 have hw1:IntKind.i64.wrap ((i:Int)+(m:Int))=(i:Int)+(m:Int):=by rw[IntKind.wrap_i64];omega
 have hb1:(0:Int)<=(i:Int)+(m:Int):=by omega
 have hin:i<=n:=by omega
 have htn:((i:Int)+(m:Int)).toNat=i+m:=by omega
 have hb2:¬(c=i+m):=by omega
 have hb3:(i:Int)<=(n:Int)+(m:Int):=by omega
 have hb4:¬(c=i):=by omega
 have hcell:∀(W:World) (j:Nat),W.heap=w.heap->W.cell? ⟨b,j,none⟩=cur.toList[j]? :=fun W j h=>by
  simp[World.cell?,h,hg]
 have hcp1:∃cur1:Array Value,cur1.toList=cur.toList.take ((i+m)*9)++(cur.toList.drop (i*9)).take ((n - i)*9)++cur.toList.drop ((n+m)*9)/\∀ty dc sc,(Builtin.copy_ #[52,52] ty #[.slice (some ⟨b,(i+m)*9,none⟩) (n+m - (i+m)) dc,.slice (some ⟨b,i*9,none⟩) (n+m - i) sc]).run Tryz.prog w.drew=.ok (goInt ((n - i:Nat):Int)) (w.drew.setRow b cur1):=by
  obtain⟨cs1,hcs1⟩:∃cs1,cs1=(cur.toList.drop (i*9)).take ((n - i)*9):=⟨_,rfl⟩
  have hl1:cs1.length=(n - i)*9:=by rw[hcs1];simp;omega
  have hmin:Nat.min (n+m - i) (n+m - (i+m))=n - i:=by simp only[Nat.min_def];split <;> omega
  have h:=fun ty dc sc=>
   zar w.drew 52 52 ty 64 b ((i+m)*9) (n+m - (i+m)) dc ⟨b,i*9,none⟩ (n+m - i) sc 9 cur t cs1 tS iE hg (by rw[hl1,hmin])
   (fun j v hj=>by
    have ha:(⟨b,i*9,none⟩:Addr).add j=⟨b,i*9+j,none⟩:=by unfold Addr.add;split <;> simp_all
    rw[ha,hcell w.drew _ rfl]
    rw[hcs1,List.getElem?_take] at hj
    split at hj
    ·rwa [List.getElem?_drop] at hj
    ·cases hj)
   (by rw[hl1,hcs];omega) (fun v hv=>h1 v (by rw[hcs1] at hv;exact hv))
  refine⟨(cur.toList.take ((i+m)*9)++cs1++cur.toList.drop ((i+m)*9+cs1.length)).toArray,?_,fun ty dc sc=> ?_⟩
  ·rw[hl1,hcs1,show(i+m)*9+(n - i)*9=(n+m)*9 by omega]
  ·rw[h,hmin]
 obtain⟨cur1,hcur1,hcp1⟩:=hcp1
 have hcur1l:cur1.size=cur.size:=by
  have:=congrArg List.length hcur1
  simp at this
  omega
 have hne:∀x,x≠b->(w.drew.setRow b cur1).heap[x]? =w.heap[x]? :=fun x hx=>by
  simp[World.setRow,Array.getElem?_modify,Ne.symm hx]
  rfl
 have hg1:(w.drew.setRow b cur1).heap[b]? =some (.cells cur1 t (0,0)):=setRow_heap w.drew b cur cur1 t _ hg
 have hcp2:∃cur2:Array Value,cur2.toList=cur1.toList.take (i*9)++vs++cur1.toList.drop (i*9+m*9)/\∀ty dc,(Builtin.copy_ #[52,52] ty #[.slice (some ⟨b,i*9,none⟩) (n+m - i) dc,.slice (some ⟨vb,voff,none⟩) m vc]).run Tryz.prog (w.drew.setRow b cur1)=.ok (goInt m) ((w.drew.setRow b cur1).setRow b cur2):=by
  have hmin:Nat.min m (n+m - i)=m:=by simp only[Nat.min_def];split <;> omega
  have h:=fun ty dc=>
   zar (w.drew.setRow b cur1) 52 52 ty 64 b (i*9) (n+m - i) dc ⟨vb,voff,none⟩ m vc 9 cur1 t vs tS iE hg1 (by rw[hvl,hmin])
   (fun j v hj=>by
    have ha:(⟨vb,voff,none⟩:Addr).add j=⟨vb,voff+j,none⟩:=by unfold Addr.add;split <;> simp_all
    rw[ha]
    have:=hvs j v hj
    unfold World.cell? at this ⊢
    rw[hne vb hvb]
    exact this)
   (by rw[hvl,hcur1l,hcs];omega) h1v
  refine⟨(cur1.toList.take (i*9)++vs++cur1.toList.drop (i*9+vs.length)).toArray,?_,fun ty dc=> ?_⟩
  ·rw[hvl]
  ·rw[h,hmin]
 obtain⟨cur2,hcur2,hcp2⟩:=hcp2
 have hfin:cur2.toList=cur.toList.take (i*9)++vs++(cur.toList.drop (i*9)).take ((n - i)*9)++cur.toList.drop ((n+m)*9):=by
  rw[hcur2,hcur1]
  simp only[List.append_assoc]
  obtain⟨e1,e2⟩:=ins_list cur.toList (i*9) ((i+m)*9) (by omega) (by simp;omega) ((cur.toList.drop (i*9)).take ((n - i)*9)++cur.toList.drop ((n+m)*9))
  rw[e1,show i*9+m*9=(i+m)*9 by omega,e2]
 refine⟨cur2,hfin,?_⟩
 clear hcur1 hcur2 hfin
 have mixed:Tryz.prog.follows .mixedOrders=true:=by kernel_rfl
 go_enter Tryz.func110,Tryz.f110
 go_wp2_with (simp only[hov])
 go_region_law_o (refine step_copy_runI rfl _ _ 52 52 rfl _ _ (by simp[Act.eval,Act.put]) (by simp[Act.eval,Act.put]) (hcp1 _ _ _) ?_)
 go_wp2_with (at_builtin;refine wpList_copy_runI _ rfl _ _ 52 52 rfl _ _ rfl rfl (hcp2 _ _) ?_)
 go_ret
 exact⟨rfl,cur1,rfl⟩
set_option maxHeartbeats 4000000 in
set_option maxRecDepth 100000 in
theorem ins_grow(b n c i vb voff m vc:Nat)(cur:Array Value)(t:TypeId)(vs:List Value)(w:World)(hi:i<n)(hm:0<m)(hnc:n<=c)(hroom:c<n+m)(hlim:n+m<=lim)(hvb:vb<w.heap.size)
  (hg:w.heap[b]? =some (.cells cur t (0,0)))(hcs:cur.size=c*9)(hvl:vs.length=m*9)(h1:∀v∈(cur.toList.drop (i*9)).take ((n - i)*9),v.oneCell'=true)
  (hvs:∀j v,vs[j]? =some v->w.cell? ⟨vb,voff+j,none⟩=some v)(h1v:∀v∈vs,v.oneCell'=true)
  (hok:okT Tryz.prog 64=true)(hz:zay Tryz.prog 64=true)(hby:zaB Tryz.prog 64=true)(hshE:(shOf Tryz.prog 64).size=9):
  ∃(row:Array Value) (G:Nat),n+m<=G/\row.size=G*9/\row.toList.take ((n+m)*9)=cur.toList.take (i*9)++vs++(cur.toList.drop (i*9)).take ((n - i)*9)/\
  Calls Tryz.prog 110 #[.slice (some ⟨b,0,none⟩) n c,.int .i64 i,.slice (some ⟨vb,voff,none⟩) m vc] w fun e w'=>
   e=.returned (.slice (some ⟨w.heap.size,0,none⟩) (n+m) G)/\w'.heap[w.heap.size]? =some (.cells row 64 (0,0))/\w'.heap.size=w.heap.size+1/\(∀x,x<w.heap.size->w'.heap[x]? =w.heap[x]?)/\w'.os=w.os/\w'.tape=w.tape/\w'.output=w.output:=by
 have t3:=t3;have a3:=a3;have z3:=z3;have v3:=v3;have t4:=t4;have a4:=a4;have z4:=z4;have v4:=v4;have tS:=tS;have aS:=aS;have zS:=zS;have vS:=vS;have zE:=zE
 have u3:=run_underlying t3;have u4:=run_underlying t4;have uS:=run_underlying tS
 obtain⟨i0,z0,hi0,hz0,hs0,hzc⟩:=okE w hok hz
 rw[hshE] at hs0 hzc
 have hb:i0.bytes<=1024:=by
  unfold zaB at hby
  rw[hi0] at hby
  simpa using hby
 have hbb:(n+m)*i0.bytes<=140737488355328:=by
  have:(n+m)*i0.bytes<=lim*1024:=Nat.mul_le_mul hlim hb
  unfold lim at this
  omega
 have hlim':n+m<=1073741824:=hlim
 have hbN:b<w.heap.size:=zam hg
 have hz1:¬((m:Int)=0):=by omega
 have hz2:¬((i:Int)=(n:Int)):=by omega
 have hz3:(c:Int)<(n:Int)+(m:Int):=by omega
 have hkk:(n:Int)+(m:Int) - (i:Int)=((n+m - i:Nat):Int):=by omega
 have hik:i+(n+m - i)=n+m:=by omega
 have hold:(Builtin.firstCells i0.size i (.slice (some ⟨b,0,none⟩) i c)).run Tryz.prog w.drew=.ok (cur.toList.take (i*9)).toArray w.drew:=by
  rw[hs0]
  refine run_firstCells_some w.drew 9 i ⟨b,0,none⟩ i c (cur.toList.take (i*9)) (by simp;omega) fun j v hj=> ?_
  have ha:(⟨b,0,none⟩:Addr).add j=⟨b,j,none⟩:=by unfold Addr.add;split <;> simp_all
  rw[ha]
  rw[List.getElem?_take] at hj
  split at hj
  ·have hg':w.drew.heap[b]? =some (.cells cur t (0,0)):=hg
   simpa[World.cell?,hg'] using hj
  ·cases hj
 obtain⟨G,hG⟩:∃G,grownCap w (n+m) c 64=G:=⟨_,rfl⟩
 obtain⟨ROW,hROW⟩:∃ROW:Array Value,(cur.toList.take (i*9)).toArray++Builtin.zeroCells z0.cells (n+m - i)++Builtin.zeroCells z0.cells (G - (n+m))=ROW:=⟨_,rfl⟩
 have hGn:n+m<=G:=by rw[<-hG];exact grownCap_ge w _ _ _
 have hRl:ROW.size=G*9:=by
  rw[<-hROW]
  simp only[Array.size_append,List.size_toArray,size_zeroCells,hzc,List.length_take,Array.length_toList]
  omega
 have hRt:ROW.toList.take (i*9)=cur.toList.take (i*9):=by
  rw[<-hROW]
  simp only[Array.toList_append,List.append_assoc]
  exact List.take_left' (by simp;omega)
 have hrz:∀ty,(Builtin.append_ #[52,3] ty #[.slice (some ⟨b,0,none⟩) i c,.int .i64 ((n:Int)+(m:Int) - (i:Int))]).run Tryz.prog w=
   .ok (.slice (some ⟨w.heap.size,0,none⟩) (n+m) G) (w.drew.alloc (.cells ROW 64)):=fun ty=>by
  have h:=Lib.run_append_grow_zeros w 52 3 ty 64 i0 z0 .i64 .i64 tS t3 hi0 hz0 (some ⟨b,0,none⟩) i c (cur.toList.take (i*9)) hold (n+m - i) (by omega) (by rw[hs0];omega) (by omega) (by omega)
   (by have:(n+m - i)*i0.bytes<=(n+m)*i0.bytes:=Nat.mul_le_mul (by omega) (Nat.le_refl _);omega) (by rw[hik];exact growslice_fits hroom hbb)
  rw[hik,hG] at h
  rw[hkk,<-hROW]
  exact h
 have hd1:ROW.toList.length=G*9:=by simpa using hRl
 have hGn':(n+m)*9<=G*9:=Nat.mul_le_mul hGn (Nat.le_refl _)
 have hcpA:∃row1:Array Value,row1.toList=ROW.toList.take (i*9)++vs++ROW.toList.drop (i*9+m*9)/\∀W:World,W.heap[w.heap.size]? =some (.cells ROW 64 (0,0))->W.heap[vb]? =w.heap[vb]?->∀ty dc,(Builtin.copy_ #[52,52] ty #[.slice (some ⟨w.heap.size,i*9,none⟩) (n+m - i) dc,.slice (some ⟨vb,voff,none⟩) m vc]).run Tryz.prog W=.ok (goInt m) (W.setRow w.heap.size row1):=by
  have hmin:Nat.min m (n+m - i)=m:=by simp only[Nat.min_def];split <;> omega
  refine⟨(ROW.toList.take (i*9)++vs++ROW.toList.drop (i*9+vs.length)).toArray,by rw[hvl],fun W hN hV ty dc=> ?_⟩
  have h:=zar W 52 52 ty 64 w.heap.size (i*9) (n+m - i) dc ⟨vb,voff,none⟩ m vc 9 ROW 64 vs tS iE hN (by rw[hvl,hmin])
   (fun j v hj=>by
    have ha:(⟨vb,voff,none⟩:Addr).add j=⟨vb,voff+j,none⟩:=by unfold Addr.add;split <;> simp_all
    rw[ha]
    have:=hvs j v hj
    unfold World.cell? at this ⊢
    rw[hV]
    exact this)
   (by rw[hvl,hRl];omega) h1v
  rw[h,hmin]
 obtain⟨row1,hrow1,hcpA⟩:=hcpA
 have hr1l:row1.size=G*9:=by
  have:=congrArg List.length hrow1
  simp at this
  omega
 have hcpB:∃row2:Array Value,row2.toList=row1.toList.take ((i+m)*9)++(cur.toList.drop (i*9)).take ((n - i)*9)++row1.toList.drop ((n+m)*9)/\∀W:World,W.heap[w.heap.size]? =some (.cells row1 64 (0,0))->W.heap[b]? =some (.cells cur t (0,0))->∀ty dc sc,(Builtin.copy_ #[52,52] ty #[.slice (some ⟨w.heap.size,(i+m)*9,none⟩) (n+m - (i+m)) dc,.slice (some ⟨b,i*9,none⟩) (n - i) sc]).run Tryz.prog W=.ok (goInt ((n - i:Nat):Int)) (W.setRow w.heap.size row2):=by
  obtain⟨cs1,hcs1⟩:∃cs1,cs1=(cur.toList.drop (i*9)).take ((n - i)*9):=⟨_,rfl⟩
  have hl1:cs1.length=(n - i)*9:=by rw[hcs1];simp;omega
  have hmin:Nat.min (n - i) (n+m - (i+m))=n - i:=by simp only[Nat.min_def];split <;> omega
  refine⟨(row1.toList.take ((i+m)*9)++cs1++row1.toList.drop ((i+m)*9+cs1.length)).toArray,by rw[hl1,hcs1,show(i+m)*9+(n - i)*9=(n+m)*9 by omega],fun W hN hB ty dc sc=> ?_⟩
  have h:=zar W 52 52 ty 64 w.heap.size ((i+m)*9) (n+m - (i+m)) dc ⟨b,i*9,none⟩ (n - i) sc 9 row1 64 cs1 tS iE hN (by rw[hl1,hmin])
   (fun j v hj=>by
    have ha:(⟨b,i*9,none⟩:Addr).add j=⟨b,i*9+j,none⟩:=by unfold Addr.add;split <;> simp_all
    rw[ha]
    rw[hcs1,List.getElem?_take] at hj
    split at hj
    ·rw[List.getElem?_drop] at hj
     simpa[World.cell?,hB] using hj
    ·cases hj)
   (by rw[hl1,hr1l];omega) (fun v hv=>h1 v (by rw[hcs1] at hv;exact hv))
  rw[h,hmin]
 obtain⟨row2,hrow2,hcpB⟩:=hcpB
 have hfin:row2.toList.take ((n+m)*9)=cur.toList.take (i*9)++vs++(cur.toList.drop (i*9)).take ((n - i)*9):=by
  have e0:row1.toList.take ((i+m)*9)=cur.toList.take (i*9)++vs:=by
   rw[hrow1,hRt]
   exact List.take_left' (by simp[hvl];omega)
  rw[hrow2,e0]
  exact List.take_left' (by simp[hvl];omega)
 have hr2l:row2.size=G*9:=by
  have:=congrArg List.length hrow2
  simp at this
  omega
 have hA1:(w.drew.alloc (.cells ROW 64)).heap[w.heap.size]? =some (.cells ROW 64 (0,0)):=zaj w.drew _
 have hA2:∀x,x<w.heap.size->(w.drew.alloc (.cells ROW 64)).heap[x]? =w.heap[x]? :=fun x hx=>zao w.drew _ hx
 have hA3:(w.drew.alloc (.cells ROW 64)).heap.size=w.heap.size+1:=by
  show(w.drew.heap.push _).size=_
  rw[Array.size_push]
  rfl
 refine⟨row2,G,hGn,hr2l,hfin,?_⟩
 have hG63:G<=9223372036854775807:=by
  have:=grownCap_le_maxLen w (n+m) c 64 (by unfold maxLen;omega)
  rw[hG] at this
  unfold maxLen at this
  omega
 have hGi:¬(G=i):=by omega
 have hGim:¬(G=i+m):=by omega
 have hci:¬(c=i):=by omega
 have hw1:IntKind.i64.wrap ((i:Int)+(m:Int))=(i:Int)+(m:Int):=by rw[IntKind.wrap_i64];omega
 have hw2:IntKind.i64.wrap ((n:Int)+(m:Int))=(n:Int)+(m:Int):=by rw[IntKind.wrap_i64];omega
 have hw3:IntKind.i64.wrap ((n:Int)+(m:Int) - (i:Int))=(n:Int)+(m:Int) - (i:Int):=by rw[IntKind.wrap_i64];omega
 have hb1:(0:Int)<=(i:Int)+(m:Int):=by omega
 have hin:i<=n:=by omega
 have htn:((i:Int)+(m:Int)).toNat=i+m:=by omega
 have hb3:(i:Int)<=(n:Int):=by omega
 clear hkk hik hold hrow1 hrow2 hfin hRt hd1 hROW hG
 have mixed:Tryz.prog.follows .mixedOrders=true:=by kernel_rfl
 go_enter Tryz.func110,Tryz.f110
 go_wp2_with (at_builtin;refine Lib.wpList_append_run _ rfl _ _ _ _ rfl _ _ rfl rfl _ _ (hrz _) ?_)
 have hA1':((w.alloc (.cells ROW 64)).drew).heap[w.heap.size]? =some (.cells ROW 64 (0,0)):=hA1
 have hA2':∀x,x<w.heap.size->((w.alloc (.cells ROW 64)).drew).heap[x]? =w.heap[x]? :=hA2
 have hA3':((w.alloc (.cells ROW 64)).drew).heap.size=w.heap.size+1:=hA3
 have hA4':((w.alloc (.cells ROW 64)).drew).os=w.os/\((w.alloc (.cells ROW 64)).drew).tape=w.tape/\((w.alloc (.cells ROW 64)).drew).output=w.output:=⟨rfl,rfl,rfl⟩
 rw[hcpA _ hA1' (hA2' _ hvb)]
 generalize (w.alloc (.cells ROW 64)).drew=W0 at*
 have hB1:(W0.setRow w.heap.size row1).heap[w.heap.size]? =some (.cells row1 64 (0,0)):=setRow_heap W0 w.heap.size ROW row1 64 _ hA1'
 have hB2:∀x,x<w.heap.size->(W0.setRow w.heap.size row1).heap[x]? =w.heap[x]? :=fun x hx=>by
  rw[<-hA2' x hx]
  have:w.heap.size≠x:=by omega
  simp[World.setRow,Array.getElem?_modify,this]
 have hB3:(W0.setRow w.heap.size row1).heap.size=w.heap.size+1:=by rw[<-hA3'];simp[World.setRow]
 have hB4:(W0.setRow w.heap.size row1).os=w.os/\(W0.setRow w.heap.size row1).tape=w.tape/\(W0.setRow w.heap.size row1).output=w.output:=hA4'
 generalize W0.setRow w.heap.size row1=W1 at*
 clear hA1' hA2' hA3' hA4' hcpA hrz hA1 hA2 hA3
 go_wp2
 have hD1:W1.drew.heap[w.heap.size]? =some (.cells row1 64 (0,0)):=hB1
 have hD2:W1.drew.heap[b]? =some (.cells cur t (0,0)):=by rw[<-hg];exact hB2 b hbN
 go_region_law_o (refine step_copy_runI rfl _ _ 52 52 rfl (.slice (some ⟨w.heap.size,(i+m)*9,none⟩) (n+m - (i+m)) (G - (i+m))) (.slice (some ⟨b,i*9,none⟩) (n - i) (c - i)) (by simp[Act.eval,Act.put]) (by simp[Act.eval,Act.put]) (hcpB W1.drew hD1 hD2 3 (G - (i+m)) (c - i)) ?_)
 have hE1:(W1.drew.setRow w.heap.size row2).heap[w.heap.size]? =some (.cells row2 64 (0,0)):=setRow_heap W1.drew w.heap.size row1 row2 64 _ hD1
 have hE2:∀x,x<w.heap.size->(W1.drew.setRow w.heap.size row2).heap[x]? =w.heap[x]? :=fun x hx=>by
  rw[<-hB2 x hx]
  have:w.heap.size≠x:=by omega
  simp[World.setRow,Array.getElem?_modify,this]
  rfl
 have hE3:(W1.drew.setRow w.heap.size row2).heap.size=w.heap.size+1:=by
  rw[<-hB3]
  show(W1.heap.modify _ _).size=_
  rw[Array.size_modify]
 have hE4:(W1.drew.setRow w.heap.size row2).os=w.os/\(W1.drew.setRow w.heap.size row2).tape=w.tape/\(W1.drew.setRow w.heap.size row2).output=w.output:=hB4
 generalize W1.drew.setRow w.heap.size row2=W2 at*
 clear hD1 hD2 hB1 hB2 hB3 hB4 hcpB
 go_wp2
 go_ret
 exact⟨rfl,hE1,hE3,hE2,hE4⟩
set_option maxHeartbeats 4000000 in
set_option maxRecDepth 100000 in
theorem ins_end(base:Option Addr)(n c vb voff m vc:Nat)(w w':World)(v':Value)(hm:0<m)(hnc:n<=c)(hlim:n<=lim)(hrun:(Builtin.append_ #[52,52] 52 #[.slice base n c,.slice (some ⟨vb,voff,none⟩) m vc]).run Tryz.prog w=.ok v' w'):
  Calls Tryz.prog 110 #[.slice base n c,.int .i64 n,.slice (some ⟨vb,voff,none⟩) m vc] w fun E W=>E=.returned v'/\W=w':=by
 have t3:=t3;have a3:=a3;have z3:=z3;have v3:=v3;have t4:=t4;have a4:=a4;have z4:=z4;have v4:=v4;have tS:=tS;have aS:=aS;have zS:=zS;have vS:=vS;have zE:=zE
 have u3:=run_underlying t3;have u4:=run_underlying t4;have uS:=run_underlying tS
 have hlim':n<=1073741824:=hlim
 have hz1:¬((m:Int)=0):=by omega
 have mixed:Tryz.prog.follows .mixedOrders=true:=by kernel_rfl
 go_enter Tryz.func110,Tryz.f110
 cases base with
 |none=>
  go_wp2_with (at_builtin;refine Lib.wpList_append_run _ rfl _ _ _ _ rfl _ _ rfl rfl _ _ hrun ?_)
  all_goals (go_ret;exact⟨rfl,rfl⟩)
 |some a=>
  obtain⟨ab,ao,asp⟩:=a
  go_wp2_with (at_builtin;refine Lib.wpList_append_run _ rfl _ _ _ _ rfl _ _ rfl rfl _ _ hrun ?_)
  all_goals (go_ret;exact⟨rfl,rfl⟩)
end Go.Proofs.YtkfncielohbecaaGreatDoor.InsB
namespace Go.Proofs.YtkfncielohbecaaGreatDoor.InsC
open Go Go.Am Go.Proofs Go.Lib Go.RowKit
theorem t3:Tryz.prog.underlying 3=some (TypeDesc.int IntKind.i64):=by kernel_rfl
theorem a3:∀w,(isAgg 3).run Tryz.prog w=.ok false w:=fun w=>by kernel_rfl
theorem z3:∀w,(Go.sizeOf 3).run Tryz.prog w=.ok 1 w:=fun w=>by kernel_rfl
theorem v3:∀w,(zeroValue 3).run Tryz.prog w=.ok (Value.int IntKind.i64 0) w:=fun w=>by kernel_rfl
theorem t4:Tryz.prog.underlying 4=some TypeDesc.bool:=by kernel_rfl
theorem a4:∀w,(isAgg 4).run Tryz.prog w=.ok false w:=fun w=>by kernel_rfl
theorem z4:∀w,(Go.sizeOf 4).run Tryz.prog w=.ok 1 w:=fun w=>by kernel_rfl
theorem v4:∀w,(zeroValue 4).run Tryz.prog w=.ok (Value.bool false) w:=fun w=>by kernel_rfl
theorem tS:Tryz.prog.underlying 123=some (TypeDesc.slice 187):=by kernel_rfl
theorem aS:∀w,(isAgg 123).run Tryz.prog w=.ok false w:=fun w=>by kernel_rfl
theorem zS:∀w,(Go.sizeOf 123).run Tryz.prog w=.ok 1 w:=fun w=>by kernel_rfl
theorem vS:∀w,(zeroValue 123).run Tryz.prog w=.ok (Value.slice none 0 0) w:=fun w=>by kernel_rfl
theorem zE:∀w,(Go.sizeOf 187).run Tryz.prog w=.ok 5 w:=fun w=>by kernel_rfl
theorem iE:(Tryz.prog.info? 187).map (·.size)=some 5:=by kernel_rfl
theorem ins_list{α:Type}(C:List α)(p q:Nat)(hpq:p<=q)(hq:q<=C.length)(R:List α):(C.take q++R).take p=C.take p/\(C.take q++R).drop q=R:=by
 have hl:(C.take q).length=q:=by simp;omega
 refine⟨?_,?_⟩
 ·rw[List.take_append_of_le_length (by omega),List.take_take]
  congr 1
  omega
 ·exact List.drop_left' hl
set_option maxHeartbeats 4000000 in
set_option maxRecDepth 100000 in
theorem ins_shift(b n c i vb voff m vc:Nat)(cur:Array Value)(t:TypeId)(vs:List Value)(w:World)(hi:i<n)(hm:0<m)(hroom:n+m<=c)(hlim:n+m<=lim)(hvb:vb≠b)
  (hg:w.heap[b]? =some (.cells cur t (0,0)))(hcs:cur.size=c*5)(hvl:vs.length=m*5)(h1:∀v∈(cur.toList.drop (i*5)).take ((n - i)*5),v.oneCell'=true)
  (hvs:∀j v,vs[j]? =some v->w.cell? ⟨vb,voff+j,none⟩=some v)(h1v:∀v∈vs,v.oneCell'=true)
  (tA:TypeId)(kA:Nat)(hsa:w.shape? vb=some (tA,kA))(hkA:kA≠0):
  ∃cur2:Array Value,cur2.toList=cur.toList.take (i*5)++vs++(cur.toList.drop (i*5)).take ((n - i)*5)++cur.toList.drop ((n+m)*5)/\
  Calls Tryz.prog 153 #[.slice (some ⟨b,0,none⟩) n c,.int .i64 i,.slice (some ⟨vb,voff,none⟩) m vc] w fun e w'=>
   e=.returned (.slice (some ⟨b,0,none⟩) (n+m) c)/\∃cur1,w'=(w.drew.setRow b cur1).setRow b cur2:=by
 have t3:=t3;have a3:=a3;have z3:=z3;have v3:=v3;have t4:=t4;have a4:=a4;have z4:=z4;have v4:=v4;have tS:=tS;have aS:=aS;have zS:=zS;have vS:=vS;have zE:=zE
 have u3:=run_underlying t3;have u4:=run_underlying t4;have uS:=run_underlying tS
 have hlim':n+m<=1073741824:=hlim
 have hov:∀lb cb x,(callFunc 157 #[.slice (some ⟨vb,voff,none⟩) m vc,.slice (some ⟨b,x,none⟩) lb cb]).run Tryz.prog w=.ok (.value (.bool false)) w:=fun lb cb x=>by
  have hfr:∀o,w.frozen? ⟨b,o,none⟩=false:=fun o=>by simp[World.frozen?,hg]
  rw[run_callFunc_extern Tryz.func157 (by kernel_rfl) (by kernel_rfl) (by kernel_rfl) (e:=Extern.SlicesOverlaps.overlaps #[123,123] #[4]) (by kernel_rfl),
   zbz w 123 4 187 tS 5 zE ⟨vb,voff,none⟩ ⟨b,x,none⟩ m vc lb cb hvb tA t kA cur.size hsa (by simp[World.shape?,hg]) hkA (by omega) hfr (hfr x)]
  rfl
 have hz1:¬((m:Int)=0):=by omega
 have hz2:¬((i:Int)=(n:Int)):=by omega
 have hw1:IntKind.i64.wrap ((i:Int)+(m:Int))=(i:Int)+(m:Int):=by rw[IntKind.wrap_i64];omega
 have hb1:(0:Int)<=(i:Int)+(m:Int):=by omega
 have hin:i<=n:=by omega
 have htn:((i:Int)+(m:Int)).toNat=i+m:=by omega
 have hb2:¬(c=i+m):=by omega
 have hb3:(i:Int)<=(n:Int)+(m:Int):=by omega
 have hb4:¬(c=i):=by omega
 have hcell:∀(W:World) (j:Nat),W.heap=w.heap->W.cell? ⟨b,j,none⟩=cur.toList[j]? :=fun W j h=>by
  simp[World.cell?,h,hg]
 have hcp1:∃cur1:Array Value,cur1.toList=cur.toList.take ((i+m)*5)++(cur.toList.drop (i*5)).take ((n - i)*5)++cur.toList.drop ((n+m)*5)/\∀ty dc sc,(Builtin.copy_ #[123,123] ty #[.slice (some ⟨b,(i+m)*5,none⟩) (n+m - (i+m)) dc,.slice (some ⟨b,i*5,none⟩) (n+m - i) sc]).run Tryz.prog w.drew=.ok (goInt ((n - i:Nat):Int)) (w.drew.setRow b cur1):=by
  obtain⟨cs1,hcs1⟩:∃cs1,cs1=(cur.toList.drop (i*5)).take ((n - i)*5):=⟨_,rfl⟩
  have hl1:cs1.length=(n - i)*5:=by rw[hcs1];simp;omega
  have hmin:Nat.min (n+m - i) (n+m - (i+m))=n - i:=by simp only[Nat.min_def];split <;> omega
  have h:=fun ty dc sc=>
   zar w.drew 123 123 ty 187 b ((i+m)*5) (n+m - (i+m)) dc ⟨b,i*5,none⟩ (n+m - i) sc 5 cur t cs1 tS iE hg (by rw[hl1,hmin])
   (fun j v hj=>by
    have ha:(⟨b,i*5,none⟩:Addr).add j=⟨b,i*5+j,none⟩:=by unfold Addr.add;split <;> simp_all
    rw[ha,hcell w.drew _ rfl]
    rw[hcs1,List.getElem?_take] at hj
    split at hj
    ·rwa [List.getElem?_drop] at hj
    ·cases hj)
   (by rw[hl1,hcs];omega) (fun v hv=>h1 v (by rw[hcs1] at hv;exact hv))
  refine⟨(cur.toList.take ((i+m)*5)++cs1++cur.toList.drop ((i+m)*5+cs1.length)).toArray,?_,fun ty dc sc=> ?_⟩
  ·rw[hl1,hcs1,show(i+m)*5+(n - i)*5=(n+m)*5 by omega]
  ·rw[h,hmin]
 obtain⟨cur1,hcur1,hcp1⟩:=hcp1
 have hcur1l:cur1.size=cur.size:=by
  have:=congrArg List.length hcur1
  simp at this
  omega
 have hne:∀x,x≠b->(w.drew.setRow b cur1).heap[x]? =w.heap[x]? :=fun x hx=>by
  simp[World.setRow,Array.getElem?_modify,Ne.symm hx]
  rfl
 have hg1:(w.drew.setRow b cur1).heap[b]? =some (.cells cur1 t (0,0)):=setRow_heap w.drew b cur cur1 t _ hg
 have hcp2:∃cur2:Array Value,cur2.toList=cur1.toList.take (i*5)++vs++cur1.toList.drop (i*5+m*5)/\∀ty dc,(Builtin.copy_ #[123,123] ty #[.slice (some ⟨b,i*5,none⟩) (n+m - i) dc,.slice (some ⟨vb,voff,none⟩) m vc]).run Tryz.prog (w.drew.setRow b cur1)=.ok (goInt m) ((w.drew.setRow b cur1).setRow b cur2):=by
  have hmin:Nat.min m (n+m - i)=m:=by simp only[Nat.min_def];split <;> omega
  have h:=fun ty dc=>
   zar (w.drew.setRow b cur1) 123 123 ty 187 b (i*5) (n+m - i) dc ⟨vb,voff,none⟩ m vc 5 cur1 t vs tS iE hg1 (by rw[hvl,hmin])
   (fun j v hj=>by
    have ha:(⟨vb,voff,none⟩:Addr).add j=⟨vb,voff+j,none⟩:=by unfold Addr.add;split <;> simp_all
    rw[ha]
    have:=hvs j v hj
    unfold World.cell? at this ⊢
    rw[hne vb hvb]
    exact this)
   (by rw[hvl,hcur1l,hcs];omega) h1v
  refine⟨(cur1.toList.take (i*5)++vs++cur1.toList.drop (i*5+vs.length)).toArray,?_,fun ty dc=> ?_⟩
  ·rw[hvl]
  ·rw[h,hmin]
 obtain⟨cur2,hcur2,hcp2⟩:=hcp2
 have hfin:cur2.toList=cur.toList.take (i*5)++vs++(cur.toList.drop (i*5)).take ((n - i)*5)++cur.toList.drop ((n+m)*5):=by
  rw[hcur2,hcur1]
  simp only[List.append_assoc]
  obtain⟨e1,e2⟩:=ins_list cur.toList (i*5) ((i+m)*5) (by omega) (by simp;omega) ((cur.toList.drop (i*5)).take ((n - i)*5)++cur.toList.drop ((n+m)*5))
  rw[e1,show i*5+m*5=(i+m)*5 by omega,e2]
 refine⟨cur2,hfin,?_⟩
 clear hcur1 hcur2 hfin
 have mixed:Tryz.prog.follows .mixedOrders=true:=by kernel_rfl
 go_enter Tryz.func153,Tryz.f153
 go_wp2_with (simp only[hov])
 go_region_law_o (refine step_copy_runI rfl _ _ 123 123 rfl _ _ (by simp[Act.eval,Act.put]) (by simp[Act.eval,Act.put]) (hcp1 _ _ _) ?_)
 go_wp2_with (at_builtin;refine wpList_copy_runI _ rfl _ _ 123 123 rfl _ _ rfl rfl (hcp2 _ _) ?_)
 go_ret
 exact⟨rfl,cur1,rfl⟩
set_option maxHeartbeats 4000000 in
set_option maxRecDepth 100000 in
theorem ins_grow(b n c i vb voff m vc:Nat)(cur:Array Value)(t:TypeId)(vs:List Value)(w:World)(hi:i<n)(hm:0<m)(hnc:n<=c)(hroom:c<n+m)(hlim:n+m<=lim)(hvb:vb<w.heap.size)
  (hg:w.heap[b]? =some (.cells cur t (0,0)))(hcs:cur.size=c*5)(hvl:vs.length=m*5)(h1:∀v∈(cur.toList.drop (i*5)).take ((n - i)*5),v.oneCell'=true)
  (hvs:∀j v,vs[j]? =some v->w.cell? ⟨vb,voff+j,none⟩=some v)(h1v:∀v∈vs,v.oneCell'=true)
  (hok:okT Tryz.prog 187=true)(hz:zay Tryz.prog 187=true)(hby:zaB Tryz.prog 187=true)(hshE:(shOf Tryz.prog 187).size=5):
  ∃(row:Array Value) (G:Nat),n+m<=G/\row.size=G*5/\row.toList.take ((n+m)*5)=cur.toList.take (i*5)++vs++(cur.toList.drop (i*5)).take ((n - i)*5)/\
  Calls Tryz.prog 153 #[.slice (some ⟨b,0,none⟩) n c,.int .i64 i,.slice (some ⟨vb,voff,none⟩) m vc] w fun e w'=>
   e=.returned (.slice (some ⟨w.heap.size,0,none⟩) (n+m) G)/\w'.heap[w.heap.size]? =some (.cells row 187 (0,0))/\w'.heap.size=w.heap.size+1/\(∀x,x<w.heap.size->w'.heap[x]? =w.heap[x]?)/\w'.os=w.os/\w'.tape=w.tape/\w'.output=w.output:=by
 have t3:=t3;have a3:=a3;have z3:=z3;have v3:=v3;have t4:=t4;have a4:=a4;have z4:=z4;have v4:=v4;have tS:=tS;have aS:=aS;have zS:=zS;have vS:=vS;have zE:=zE
 have u3:=run_underlying t3;have u4:=run_underlying t4;have uS:=run_underlying tS
 obtain⟨i0,z0,hi0,hz0,hs0,hzc⟩:=okE w hok hz
 rw[hshE] at hs0 hzc
 have hb:i0.bytes<=1024:=by
  unfold zaB at hby
  rw[hi0] at hby
  simpa using hby
 have hbb:(n+m)*i0.bytes<=140737488355328:=by
  have:(n+m)*i0.bytes<=lim*1024:=Nat.mul_le_mul hlim hb
  unfold lim at this
  omega
 have hlim':n+m<=1073741824:=hlim
 have hbN:b<w.heap.size:=zam hg
 have hz1:¬((m:Int)=0):=by omega
 have hz2:¬((i:Int)=(n:Int)):=by omega
 have hz3:(c:Int)<(n:Int)+(m:Int):=by omega
 have hkk:(n:Int)+(m:Int) - (i:Int)=((n+m - i:Nat):Int):=by omega
 have hik:i+(n+m - i)=n+m:=by omega
 have hold:(Builtin.firstCells i0.size i (.slice (some ⟨b,0,none⟩) i c)).run Tryz.prog w.drew=.ok (cur.toList.take (i*5)).toArray w.drew:=by
  rw[hs0]
  refine run_firstCells_some w.drew 5 i ⟨b,0,none⟩ i c (cur.toList.take (i*5)) (by simp;omega) fun j v hj=> ?_
  have ha:(⟨b,0,none⟩:Addr).add j=⟨b,j,none⟩:=by unfold Addr.add;split <;> simp_all
  rw[ha]
  rw[List.getElem?_take] at hj
  split at hj
  ·have hg':w.drew.heap[b]? =some (.cells cur t (0,0)):=hg
   simpa[World.cell?,hg'] using hj
  ·cases hj
 obtain⟨G,hG⟩:∃G,grownCap w (n+m) c 187=G:=⟨_,rfl⟩
 obtain⟨ROW,hROW⟩:∃ROW:Array Value,(cur.toList.take (i*5)).toArray++Builtin.zeroCells z0.cells (n+m - i)++Builtin.zeroCells z0.cells (G - (n+m))=ROW:=⟨_,rfl⟩
 have hGn:n+m<=G:=by rw[<-hG];exact grownCap_ge w _ _ _
 have hRl:ROW.size=G*5:=by
  rw[<-hROW]
  simp only[Array.size_append,List.size_toArray,size_zeroCells,hzc,List.length_take,Array.length_toList]
  omega
 have hRt:ROW.toList.take (i*5)=cur.toList.take (i*5):=by
  rw[<-hROW]
  simp only[Array.toList_append,List.append_assoc]
  exact List.take_left' (by simp;omega)
 have hrz:∀ty,(Builtin.append_ #[123,3] ty #[.slice (some ⟨b,0,none⟩) i c,.int .i64 ((n:Int)+(m:Int) - (i:Int))]).run Tryz.prog w=
   .ok (.slice (some ⟨w.heap.size,0,none⟩) (n+m) G) (w.drew.alloc (.cells ROW 187)):=fun ty=>by
  have h:=Lib.run_append_grow_zeros w 123 3 ty 187 i0 z0 .i64 .i64 tS t3 hi0 hz0 (some ⟨b,0,none⟩) i c (cur.toList.take (i*5)) hold (n+m - i) (by omega) (by rw[hs0];omega) (by omega) (by omega)
   (by have:(n+m - i)*i0.bytes<=(n+m)*i0.bytes:=Nat.mul_le_mul (by omega) (Nat.le_refl _);omega) (by rw[hik];exact growslice_fits hroom hbb)
  rw[hik,hG] at h
  rw[hkk,<-hROW]
  exact h
 have hd1:ROW.toList.length=G*5:=by simpa using hRl
 have hGn':(n+m)*5<=G*5:=Nat.mul_le_mul hGn (Nat.le_refl _)
 have hcpA:∃row1:Array Value,row1.toList=ROW.toList.take (i*5)++vs++ROW.toList.drop (i*5+m*5)/\∀W:World,W.heap[w.heap.size]? =some (.cells ROW 187 (0,0))->W.heap[vb]? =w.heap[vb]?->∀ty dc,(Builtin.copy_ #[123,123] ty #[.slice (some ⟨w.heap.size,i*5,none⟩) (n+m - i) dc,.slice (some ⟨vb,voff,none⟩) m vc]).run Tryz.prog W=.ok (goInt m) (W.setRow w.heap.size row1):=by
  have hmin:Nat.min m (n+m - i)=m:=by simp only[Nat.min_def];split <;> omega
  refine⟨(ROW.toList.take (i*5)++vs++ROW.toList.drop (i*5+vs.length)).toArray,by rw[hvl],fun W hN hV ty dc=> ?_⟩
  have h:=zar W 123 123 ty 187 w.heap.size (i*5) (n+m - i) dc ⟨vb,voff,none⟩ m vc 5 ROW 187 vs tS iE hN (by rw[hvl,hmin])
   (fun j v hj=>by
    have ha:(⟨vb,voff,none⟩:Addr).add j=⟨vb,voff+j,none⟩:=by unfold Addr.add;split <;> simp_all
    rw[ha]
    have:=hvs j v hj
    unfold World.cell? at this ⊢
    rw[hV]
    exact this)
   (by rw[hvl,hRl];omega) h1v
  rw[h,hmin]
 obtain⟨row1,hrow1,hcpA⟩:=hcpA
 have hr1l:row1.size=G*5:=by
  have:=congrArg List.length hrow1
  simp at this
  omega
 have hcpB:∃row2:Array Value,row2.toList=row1.toList.take ((i+m)*5)++(cur.toList.drop (i*5)).take ((n - i)*5)++row1.toList.drop ((n+m)*5)/\∀W:World,W.heap[w.heap.size]? =some (.cells row1 187 (0,0))->W.heap[b]? =some (.cells cur t (0,0))->∀ty dc sc,(Builtin.copy_ #[123,123] ty #[.slice (some ⟨w.heap.size,(i+m)*5,none⟩) (n+m - (i+m)) dc,.slice (some ⟨b,i*5,none⟩) (n - i) sc]).run Tryz.prog W=.ok (goInt ((n - i:Nat):Int)) (W.setRow w.heap.size row2):=by
  obtain⟨cs1,hcs1⟩:∃cs1,cs1=(cur.toList.drop (i*5)).take ((n - i)*5):=⟨_,rfl⟩
  have hl1:cs1.length=(n - i)*5:=by rw[hcs1];simp;omega
  have hmin:Nat.min (n - i) (n+m - (i+m))=n - i:=by simp only[Nat.min_def];split <;> omega
  refine⟨(row1.toList.take ((i+m)*5)++cs1++row1.toList.drop ((i+m)*5+cs1.length)).toArray,by rw[hl1,hcs1,show(i+m)*5+(n - i)*5=(n+m)*5 by omega],fun W hN hB ty dc sc=> ?_⟩
  have h:=zar W 123 123 ty 187 w.heap.size ((i+m)*5) (n+m - (i+m)) dc ⟨b,i*5,none⟩ (n - i) sc 5 row1 187 cs1 tS iE hN (by rw[hl1,hmin])
   (fun j v hj=>by
    have ha:(⟨b,i*5,none⟩:Addr).add j=⟨b,i*5+j,none⟩:=by unfold Addr.add;split <;> simp_all
    rw[ha]
    rw[hcs1,List.getElem?_take] at hj
    split at hj
    ·rw[List.getElem?_drop] at hj
     simpa[World.cell?,hB] using hj
    ·cases hj)
   (by rw[hl1,hr1l];omega) (fun v hv=>h1 v (by rw[hcs1] at hv;exact hv))
  rw[h,hmin]
 obtain⟨row2,hrow2,hcpB⟩:=hcpB
 have hfin:row2.toList.take ((n+m)*5)=cur.toList.take (i*5)++vs++(cur.toList.drop (i*5)).take ((n - i)*5):=by
  have e0:row1.toList.take ((i+m)*5)=cur.toList.take (i*5)++vs:=by
   rw[hrow1,hRt]
   exact List.take_left' (by simp[hvl];omega)
  rw[hrow2,e0]
  exact List.take_left' (by simp[hvl];omega)
 have hr2l:row2.size=G*5:=by
  have:=congrArg List.length hrow2
  simp at this
  omega
 have hA1:(w.drew.alloc (.cells ROW 187)).heap[w.heap.size]? =some (.cells ROW 187 (0,0)):=zaj w.drew _
 have hA2:∀x,x<w.heap.size->(w.drew.alloc (.cells ROW 187)).heap[x]? =w.heap[x]? :=fun x hx=>zao w.drew _ hx
 have hA3:(w.drew.alloc (.cells ROW 187)).heap.size=w.heap.size+1:=by
  show(w.drew.heap.push _).size=_
  rw[Array.size_push]
  rfl
 refine⟨row2,G,hGn,hr2l,hfin,?_⟩
 have hG63:G<=9223372036854775807:=by
  have:=grownCap_le_maxLen w (n+m) c 187 (by unfold maxLen;omega)
  rw[hG] at this
  unfold maxLen at this
  omega
 have hGi:¬(G=i):=by omega
 have hGim:¬(G=i+m):=by omega
 have hci:¬(c=i):=by omega
 have hw1:IntKind.i64.wrap ((i:Int)+(m:Int))=(i:Int)+(m:Int):=by rw[IntKind.wrap_i64];omega
 have hw2:IntKind.i64.wrap ((n:Int)+(m:Int))=(n:Int)+(m:Int):=by rw[IntKind.wrap_i64];omega
 have hw3:IntKind.i64.wrap ((n:Int)+(m:Int) - (i:Int))=(n:Int)+(m:Int) - (i:Int):=by rw[IntKind.wrap_i64];omega
 have hb1:(0:Int)<=(i:Int)+(m:Int):=by omega
 have hin:i<=n:=by omega
 have htn:((i:Int)+(m:Int)).toNat=i+m:=by omega
 have hb3:(i:Int)<=(n:Int):=by omega
 clear hkk hik hold hrow1 hrow2 hfin hRt hd1 hROW hG
 have mixed:Tryz.prog.follows .mixedOrders=true:=by kernel_rfl
 go_enter Tryz.func153,Tryz.f153
 go_wp2_with (at_builtin;refine Lib.wpList_append_run _ rfl _ _ _ _ rfl _ _ rfl rfl _ _ (hrz _) ?_)
 have hA1':((w.alloc (.cells ROW 187)).drew).heap[w.heap.size]? =some (.cells ROW 187 (0,0)):=hA1
 have hA2':∀x,x<w.heap.size->((w.alloc (.cells ROW 187)).drew).heap[x]? =w.heap[x]? :=hA2
 have hA3':((w.alloc (.cells ROW 187)).drew).heap.size=w.heap.size+1:=hA3
 have hA4':((w.alloc (.cells ROW 187)).drew).os=w.os/\((w.alloc (.cells ROW 187)).drew).tape=w.tape/\((w.alloc (.cells ROW 187)).drew).output=w.output:=⟨rfl,rfl,rfl⟩
 rw[hcpA _ hA1' (hA2' _ hvb)]
 generalize (w.alloc (.cells ROW 187)).drew=W0 at*
 have hB1:(W0.setRow w.heap.size row1).heap[w.heap.size]? =some (.cells row1 187 (0,0)):=setRow_heap W0 w.heap.size ROW row1 187 _ hA1'
 have hB2:∀x,x<w.heap.size->(W0.setRow w.heap.size row1).heap[x]? =w.heap[x]? :=fun x hx=>by
  rw[<-hA2' x hx]
  have:w.heap.size≠x:=by omega
  simp[World.setRow,Array.getElem?_modify,this]
 have hB3:(W0.setRow w.heap.size row1).heap.size=w.heap.size+1:=by rw[<-hA3'];simp[World.setRow]
 have hB4:(W0.setRow w.heap.size row1).os=w.os/\(W0.setRow w.heap.size row1).tape=w.tape/\(W0.setRow w.heap.size row1).output=w.output:=hA4'
 generalize W0.setRow w.heap.size row1=W1 at*
 clear hA1' hA2' hA3' hA4' hcpA hrz hA1 hA2 hA3
 go_wp2
 have hD1:W1.drew.heap[w.heap.size]? =some (.cells row1 187 (0,0)):=hB1
 have hD2:W1.drew.heap[b]? =some (.cells cur t (0,0)):=by rw[<-hg];exact hB2 b hbN
 go_region_law_o (refine step_copy_runI rfl _ _ 123 123 rfl (.slice (some ⟨w.heap.size,(i+m)*5,none⟩) (n+m - (i+m)) (G - (i+m))) (.slice (some ⟨b,i*5,none⟩) (n - i) (c - i)) (by simp[Act.eval,Act.put]) (by simp[Act.eval,Act.put]) (hcpB W1.drew hD1 hD2 3 (G - (i+m)) (c - i)) ?_)
 have hE1:(W1.drew.setRow w.heap.size row2).heap[w.heap.size]? =some (.cells row2 187 (0,0)):=setRow_heap W1.drew w.heap.size row1 row2 187 _ hD1
 have hE2:∀x,x<w.heap.size->(W1.drew.setRow w.heap.size row2).heap[x]? =w.heap[x]? :=fun x hx=>by
  rw[<-hB2 x hx]
  have:w.heap.size≠x:=by omega
  simp[World.setRow,Array.getElem?_modify,this]
  rfl
 have hE3:(W1.drew.setRow w.heap.size row2).heap.size=w.heap.size+1:=by
  rw[<-hB3]
  show(W1.heap.modify _ _).size=_
  rw[Array.size_modify]
 have hE4:(W1.drew.setRow w.heap.size row2).os=w.os/\(W1.drew.setRow w.heap.size row2).tape=w.tape/\(W1.drew.setRow w.heap.size row2).output=w.output:=hB4
 generalize W1.drew.setRow w.heap.size row2=W2 at*
 clear hD1 hD2 hB1 hB2 hB3 hB4 hcpB
 go_wp2
 go_ret
 exact⟨rfl,hE1,hE3,hE2,hE4⟩
set_option maxHeartbeats 4000000 in
set_option maxRecDepth 100000 in
theorem ins_end(base:Option Addr)(n c vb voff m vc:Nat)(w w':World)(v':Value)(hm:0<m)(hnc:n<=c)(hlim:n<=lim)(hrun:(Builtin.append_ #[123,123] 123 #[.slice base n c,.slice (some ⟨vb,voff,none⟩) m vc]).run Tryz.prog w=.ok v' w'):
  Calls Tryz.prog 153 #[.slice base n c,.int .i64 n,.slice (some ⟨vb,voff,none⟩) m vc] w fun E W=>E=.returned v'/\W=w':=by
 have t3:=t3;have a3:=a3;have z3:=z3;have v3:=v3;have t4:=t4;have a4:=a4;have z4:=z4;have v4:=v4;have tS:=tS;have aS:=aS;have zS:=zS;have vS:=vS;have zE:=zE
 have u3:=run_underlying t3;have u4:=run_underlying t4;have uS:=run_underlying tS
 have hlim':n<=1073741824:=hlim
 have hz1:¬((m:Int)=0):=by omega
 have mixed:Tryz.prog.follows .mixedOrders=true:=by kernel_rfl
 go_enter Tryz.func153,Tryz.f153
 cases base with
 |none=>
  go_wp2_with (at_builtin;refine Lib.wpList_append_run _ rfl _ _ _ _ rfl _ _ rfl rfl _ _ hrun ?_)
  all_goals (go_ret;exact⟨rfl,rfl⟩)
 |some a=>
  obtain⟨ab,ao,asp⟩:=a
  go_wp2_with (at_builtin;refine Lib.wpList_append_run _ rfl _ _ _ _ rfl _ _ rfl rfl _ _ hrun ?_)
  all_goals (go_ret;exact⟨rfl,rfl⟩)
end Go.Proofs.YtkfncielohbecaaGreatDoor.InsC
namespace Go.Proofs.YtkfncielohbecaaGreatDoor
open Go.Shelf
def Tryz.laysFields_ren:Go.Shelf.Ren:=⟨fun|157=>17|229=>50|199=>51|261=>96|311=>126|312=>127|n=>n,fun|9=>9|31=>45|3=>3|5=>5|4=>4|119=>80|0=>0|40=>82|152=>129|21=>21|154=>131|51=>132|141=>134|196=>168|193=>165|198=>171|49=>169|194=>166|201=>174|226=>194|46=>176|227=>195|n=>n,fun|0=>0|6=>1|n=>n⟩
theorem Tryz.zpC:Go.Proofs.Lays.n157 Tryz.prog Tryz.laysFields_ren:=
 {
  mixed:=by kernel_rfl,
  f157:=Tryz.func17.trans (congrArg some (by kernel_rfl)),
  f199:=Tryz.func51.trans (congrArg some (by kernel_rfl)),
  f229:=Tryz.func50.trans (congrArg some (by kernel_rfl)),
  f261:=Tryz.func96.trans (congrArg some (by kernel_rfl)),
  f311:=Tryz.func126.trans (congrArg some (by kernel_rfl)),
  f312:=Tryz.func127.trans (congrArg some (by kernel_rfl)),
  t0:=Tryz.underlying0,
  a0:=Tryz.isAgg0,
  z0:=Tryz.sizeOf0,
  v0:=Tryz.zeroValue0,
  t3:=Tryz.underlying3,
  a3:=Tryz.isAgg3,
  z3:=Tryz.sizeOf3,
  v3:=Tryz.zeroValue3,
  t4:=Tryz.underlying4,
  a4:=Tryz.isAgg4,
  z4:=Tryz.sizeOf4,
  v4:=Tryz.zeroValue4,
  t5:=Tryz.underlying5,
  a5:=Tryz.isAgg5,
  z5:=Tryz.sizeOf5,
  v5:=Tryz.zeroValue5,
  t9:=Tryz.underlying9,
  a9:=Tryz.isAgg9,
  z9:=Tryz.sizeOf9,
  v9:=Tryz.zeroValue9,
  t21:=Tryz.underlying21,
  a21:=Tryz.isAgg21,
  z21:=Tryz.sizeOf21,
  v21:=Tryz.zeroValue21,
  t31:=Tryz.underlying45,
  a31:=Tryz.isAgg45,
  z31:=Tryz.sizeOf45,
  v31:=Tryz.zeroValue45,
  t40:=Tryz.underlying82,
  a40:=Tryz.isAgg82,
  z40:=Tryz.sizeOf82,
  v40:=Tryz.zeroValue82,
  t46:=Tryz.underlying176,
  a46:=Tryz.isAgg176,
  z46:=Tryz.sizeOf176,
  v46:=Tryz.zeroValue176,
  t49:=Tryz.underlying169,
  a49:=Tryz.isAgg169,
  z49:=Tryz.sizeOf169,
  v49:=Tryz.zeroValue169,
  t51:=Tryz.underlying132,
  a51:=Tryz.isAgg132,
  z51:=Tryz.sizeOf132,
  v51:=Tryz.zeroValue132,
  t119:=Tryz.underlying80,
  a119:=Tryz.isAgg80,
  z119:=Tryz.sizeOf80,
  t141:=Tryz.underlying134,
  a141:=Tryz.isAgg134,
  z141:=Tryz.sizeOf134,
  v141:=Tryz.zeroValue134,
  t152:=Tryz.underlying129,
  a152:=Tryz.isAgg129,
  z152:=Tryz.sizeOf129,
  v152:=Tryz.zeroValue129,
  t154:=Tryz.underlying131,
  a154:=Tryz.isAgg131,
  z154:=Tryz.sizeOf131,
  v154:=Tryz.zeroValue131,
  t193:=Tryz.underlying165,
  a193:=Tryz.isAgg165,
  z193:=Tryz.sizeOf165,
  v193:=Tryz.zeroValue165,
  t194:=Tryz.underlying166,
  a194:=Tryz.isAgg166,
  z194:=Tryz.sizeOf166,
  v194:=Tryz.zeroValue166,
  t196:=Tryz.underlying168,
  a196:=Tryz.isAgg168,
  z196:=Tryz.sizeOf168,
  v196:=Tryz.zeroValue168,
  t198:=Tryz.underlying171,
  a198:=Tryz.isAgg171,
  z198:=Tryz.sizeOf171,
  v198:=Tryz.zeroValue171,
  t201:=Tryz.underlying174,
  a201:=Tryz.isAgg174,
  z201:=Tryz.sizeOf174,
  v201:=Tryz.zeroValue174,
  t226:=Tryz.underlying194,
  a226:=Tryz.isAgg194,
  z226:=Tryz.sizeOf194,
  v226:=Tryz.zeroValue194,
  t227:=Tryz.underlying195,
  a227:=Tryz.isAgg195,
  z227:=Tryz.sizeOf195,
  v227:=Tryz.zeroValue195,
  g0:=by kernel_rfl,
  g6:=by kernel_rfl
 }
end Go.Proofs.YtkfncielohbecaaGreatDoor
namespace Go.Proofs.YtkfncielohbecaaGreatDoor
open Go.Am Go.ChangeShapes Go.WideShapes Go.ChangeAt Go.RowKit
theorem Tryz.own:ownKnob Tryz.prog.godebug=none:=by kernel_rfl
theorem Tryz.zpD:laidOutB Tryz.prog=true:=by kernel_rfl
theorem Tryz.mixed:Tryz.prog.follows .mixedOrders=true:=by kernel_rfl
def prS:Nat->List UInt8
 |0=>[97,115,115,101,114,116,97]
 |1=>[97,115,115,101,114,116,122]
 |2=>[97,98,111,108,105,115,104]
 |3=>[100,121,110,97,109,105,99]
 |4=>[99,117,114,114,101,110,116,95,112,114,101,100,105,99,97,116,101]
 |5=>[99,108,97,117,115,101]
 |6=>[36,99,108,97,117,115,101]
 |_=>[36,101,114,97,115,101]
def prN:Nat->Int
 |0=>1
 |1=>1
 |2=>1
 |3=>1
 |4=>1
 |5=>2
 |6=>3
 |_=>1
def prF:Nat->FuncId
 |0=>43
 |1=>43
 |2=>44
 |3=>45
 |4=>46
 |5=>47
 |6=>47
 |_=>48
def zoV:Code->Array Oper
 | .seq _ (.seq (.region _ ops _) _)=>ops
 |_=> #[]
set_option maxRecDepth 100000 in
theorem zpz:Am.Lit Tryz.prog (zoV (Tryz.f15.body.get (by kernel_rfl))) 8 11 0 1 10 40 43 (fun e=>e+2) prS prN prF where
 sz:=by kernel_rfl
 o0:=⟨_,rfl,rfl,rfl,rfl⟩
 ob:=fun e he=>by
  match e,he with
  |0,_=>exact⟨_,rfl,rfl,rfl,rfl⟩
  |1,_=>exact⟨_,rfl,rfl,rfl,rfl⟩
  |2,_=>exact⟨_,rfl,rfl,rfl,rfl⟩
  |3,_=>exact⟨_,rfl,rfl,rfl,rfl⟩
  |4,_=>exact⟨_,rfl,rfl,rfl,rfl⟩
  |5,_=>exact⟨_,rfl,rfl,rfl,rfl⟩
  |6,_=>exact⟨_,rfl,rfl,rfl,rfl⟩
  |7,_=>exact⟨_,rfl,rfl,rfl,rfl⟩
 oi:=fun e he=>by
  match e,he with
  |0,_=>exact⟨_,rfl,rfl,rfl,rfl,⟨_,Array.mem_of_getElem? (i:=0) rfl,rfl,rfl⟩,⟨_,Array.mem_of_getElem? (i:=1) rfl,rfl,rfl⟩⟩
  |1,_=>exact⟨_,rfl,rfl,rfl,rfl,⟨_,Array.mem_of_getElem? (i:=0) rfl,rfl,rfl⟩,⟨_,Array.mem_of_getElem? (i:=1) rfl,rfl,rfl⟩⟩
  |2,_=>exact⟨_,rfl,rfl,rfl,rfl,⟨_,Array.mem_of_getElem? (i:=0) rfl,rfl,rfl⟩,⟨_,Array.mem_of_getElem? (i:=1) rfl,rfl,rfl⟩⟩
  |3,_=>exact⟨_,rfl,rfl,rfl,rfl,⟨_,Array.mem_of_getElem? (i:=0) rfl,rfl,rfl⟩,⟨_,Array.mem_of_getElem? (i:=1) rfl,rfl,rfl⟩⟩
  |4,_=>exact⟨_,rfl,rfl,rfl,rfl,⟨_,Array.mem_of_getElem? (i:=0) rfl,rfl,rfl⟩,⟨_,Array.mem_of_getElem? (i:=1) rfl,rfl,rfl⟩⟩
  |5,_=>exact⟨_,rfl,rfl,rfl,rfl,⟨_,Array.mem_of_getElem? (i:=0) rfl,rfl,rfl⟩,⟨_,Array.mem_of_getElem? (i:=1) rfl,rfl,rfl⟩⟩
  |6,_=>exact⟨_,rfl,rfl,rfl,rfl,⟨_,Array.mem_of_getElem? (i:=0) rfl,rfl,rfl⟩,⟨_,Array.mem_of_getElem? (i:=1) rfl,rfl,rfl⟩⟩
  |7,_=>exact⟨_,rfl,rfl,rfl,rfl,⟨_,Array.mem_of_getElem? (i:=0) rfl,rfl,rfl⟩,⟨_,Array.mem_of_getElem? (i:=1) rfl,rfl,rfl⟩⟩
 om:=⟨_,rfl,rfl,rfl,rfl,⟨_,Array.mem_of_getElem? (i:=0) rfl,rfl,rfl⟩⟩
 oa:=⟨_,rfl,rfl,rfl,rfl,⟨_,Array.mem_of_getElem? (i:=0) rfl,rfl,rfl⟩⟩
 lt:=⟨by decide,by decide,by decide,fun e he=>by omega⟩
 ne:=⟨by decide,by decide,by decide,fun e he=>⟨by omega,by omega,by omega,fun e' he' h=>by omega⟩⟩
theorem zpA:zco Tryz.prog 43=some [1,0]:=by kernel_rfl
theorem kkOk:∀e,e<8->zag [1,0] (kP prS prN e) (kP prS prN e)=some true:=by decide
theorem knOk:∀e e',e<8->e'<8->e≠e'->zag [1,0] (kP prS prN e) (kP prS prN e')=some false:=by
 have h:∀e,e<8->∀e',e'<8->e≠e'->zag [1,0] (kP prS prN e) (kP prS prN e')=some false:=by decide
 exact fun e e' h1 h2 h3=>h e h1 e' h2 h3
set_option maxRecDepth 100000 in
theorem zkY:zdf Tryz.prog 15 (zfF none (zcW 8 prS prN prF)):=
 zkG (te:=38) (ds:=[1,0]) Tryz.mixed Tryz.func15 rfl (by decide+kernel) (by kernel_rfl) rfl ⟨rfl,rfl,rfl⟩ zpz (by kernel_rfl) zpA kkOk knOk
  (fun w e he=>zme (P:=Tryz.prog) (tk:=43) rfl rfl ⟨_,rfl,by kernel_rfl⟩ (prS e) (prN e) w) (by kernel_rfl)
theorem zmF:zdf Tryz.prog 17 zbs:=
 zhf Tryz.zpC (by kernel_rfl) (by kernel_rfl) rfl Tryz.func17 rfl (by decide+kernel)
theorem zmG:zdf Tryz.prog 109 (zeX (some 4)):=by
 have h:shOf Tryz.prog 54=some 4:=by kernel_rfl
 have k:=zjm (P:=Tryz.prog) (f:=109) (c:=Tryz.f109.body.get (by kernel_rfl)) (t:=24) (e:=54) (by rw[h];exact⟨InsA.ins_end,InsA.ins_shift,fun b n c i vb voff m vc cur t vs w hi hm hnc hr hl hvb hg hcs hvl h1 hvs h1v=>InsA.ins_grow b n c i vb voff m vc cur t vs w hi hm hnc hr hl hvb hg hcs hvl h1 hvs h1v (by kernel_rfl) (by kernel_rfl) (by kernel_rfl) (by rw[h];rfl)⟩) Tryz.func109 (by kernel_rfl) (by decide+kernel) (by kernel_rfl) (by kernel_rfl) (by kernel_rfl) (by kernel_rfl)
 rw[h] at k
 exact k
theorem zmH:zdf Tryz.prog 110 (zel (some 9)):=by
 have h:shOf Tryz.prog 64=some 9:=by kernel_rfl
 have k:=zgl (P:=Tryz.prog) (f:=110) (c:=Tryz.f110.body.get (by kernel_rfl)) (t:=52) (e:=64) (by rw[h];exact⟨InsB.ins_end,InsB.ins_shift,fun b n c i vb voff m vc cur t vs w hi hm hnc hr hl hvb hg hcs hvl h1 hvs h1v=>InsB.ins_grow b n c i vb voff m vc cur t vs w hi hm hnc hr hl hvb hg hcs hvl h1 hvs h1v (by kernel_rfl) (by kernel_rfl) (by kernel_rfl) (by rw[h];rfl)⟩) Tryz.func110 (by kernel_rfl) (by decide+kernel) (by kernel_rfl) (by kernel_rfl) (by kernel_rfl) (by kernel_rfl)
 rw[h] at k
 exact k
theorem zmI:zdf Tryz.prog 153 (zel (some 5)):=by
 have h:shOf Tryz.prog 187=some 5:=by kernel_rfl
 have k:=zgl (P:=Tryz.prog) (f:=153) (c:=Tryz.f153.body.get (by kernel_rfl)) (t:=123) (e:=187) (by rw[h];exact⟨InsC.ins_end,InsC.ins_shift,fun b n c i vb voff m vc cur t vs w hi hm hnc hr hl hvb hg hcs hvl h1 hvs h1v=>InsC.ins_grow b n c i vb voff m vc cur t vs w hi hm hnc hr hl hvb hg hcs hvl h1 hvs h1v (by kernel_rfl) (by kernel_rfl) (by kernel_rfl) (by rw[h];rfl)⟩) Tryz.func153 (by kernel_rfl) (by decide+kernel) (by kernel_rfl) (by kernel_rfl) (by kernel_rfl) (by kernel_rfl)
 rw[h] at k
 exact k
def prim:FuncId->Option zbg:=fun g=>bif Nat.beq 109 g then some (zeX (some 4)) else(fun g=>bif Nat.beq 110 g then some (zel (some 9)) else(fun g=>bif Nat.beq 153 g then some (zel (some 5)) else(fun g=>bif Nat.beq 17 g then some zbs else(fun g=>bif Nat.beq 15 g then some (zfF none (zcW 8 prS prN prF)) else(fun _=>none) g) g) g) g) g
theorem zop:zeE Tryz.prog prim:=zbT zmG (zbT zmH (zbT zmI (zbT zmF (zbT zkY zkD))))
theorem sound:SoundO Tryz.prog (sem (find tab) prim):=zl9 Tryz.mixed (zng zoX) zop
def yes:Option (ARes × Heap)->Bool
 |some (.ret (.pv none (.bool true)),[])=>true
 |_=>false
theorem zoW{r:Option (ARes × Heap)}(h:yes r=true):r=some (.ret (.pv none (.bool true)),[]):=by
 unfold yes at h
 split at h
 ·rfl
 ·cases h
end Go.Proofs.YtkfncielohbecaaGreatDoor
namespace Go.Proofs.YtkfncielohbecaaGreatDoor
open Go.Am
def tP(k n:Int)(s:List UInt8)(l:List PV):PV:=.agg [(none,.int .i64 k),(none,.int .i64 n),(none,.str s),(none,.sl (some 4) l)]
theorem fok0:FactsOk (find tab) prim []:=.nil
def fq0:List (Sh × PV):=[((some 2),(.agg [(none,(.int .i64 (1))),(none,(.sl (some 4) []))]))]
def fv0:AV:=(.pv none (.bool true))
theorem ff0:resV (sem (find tab) prim .fn 13 (pvs fq0) [])=some fv0:=zau (n:=60) fok0 (by kernel_rfl)
def fK1:Facts:=(13,fq0,fv0)::[]
theorem fok1:FactsOk (find tab) prim fK1:=.cons (by kernel_rfl) ff0 fok0
def fq1:List (Sh × PV):=[((some 4),(tP 3 0 [97,115,115,101,114,116,122] [(tP 3 0 [58,45] [(tP 3 0 [112] [(tP 0 0 [] [])]),(tP 3 0 [113] [(tP 0 0 [] []),(tP 0 1 [] [])])])]))]
def fv1:AV:=(.pv (some 4) (tP 3 0 [97,115,115,101,114,116,122] [(tP 3 0 [58,45] [(tP 3 0 [112] [(tP 0 0 [] [])]),(tP 3 0 [113] [(tP 0 0 [] []),(tP 0 1 [] [])])])]))
theorem ff1:resV (sem (find tab) prim .fn 31 (pvs fq1) [])=some fv1:=zau (n:=60) fok1 (by kernel_rfl)
def fK2:Facts:=(31,fq1,fv1)::fK1
theorem fok2:FactsOk (find tab) prim fK2:=.cons (by kernel_rfl) ff1 fok1
def fq2:List (Sh × PV):=[((some 4),(tP 3 0 [58,45] [(tP 3 0 [112] [(tP 0 0 [] [])]),(tP 3 0 [113] [(tP 0 0 [] []),(tP 0 1 [] [])])]))]
def fv2:AV:=(.tuple [(.pv (some 8) (.agg [((some 4),(tP 3 0 [112] [(tP 0 0 [] [])])),((some 4),(tP 3 0 [113] [(tP 0 0 [] []),(tP 0 1 [] [])]))])),(.pv (some 4) (tP 0 0 [] [])),(.pv none (.int .i64 (0)))])
theorem ff2:resV (sem (find tab) prim .fn 74 (pvs fq2) [])=some fv2:=zau (n:=60) fok2 (by kernel_rfl)
def fK3:Facts:=(74,fq2,fv2)::fK2
theorem fok3:FactsOk (find tab) prim fK3:=.cons (by kernel_rfl) ff2 fok2
def fq3:List (Sh × PV):=[(none,(.str [112])),(none,(.int .i64 (1)))]
def fv3:AV:=(.pv none (.bool false))
theorem ff3:resV (sem (find tab) prim .fn 7 (pvs fq3) [])=some fv3:=zau (n:=60) fok3 (by kernel_rfl)
def fK4:Facts:=(7,fq3,fv3)::fK3
theorem fok4:FactsOk (find tab) prim fK4:=.cons (by kernel_rfl) ff3 fok3
def fq4:List (Sh × PV):=[((some 2),(.agg [(none,(.int .i64 (1))),(none,(.sl (some 4) []))])),((some 8),(.agg [((some 4),(tP 3 0 [112] [(tP 0 0 [] [])])),((some 4),(tP 3 0 [113] [(tP 0 0 [] []),(tP 0 1 [] [])]))])),(none,(.bool false)),(none,(.bool true))]
def fv4:AV:=(.tuple [(.pv (some 2) (.agg [(none,(.int .i64 (2))),(none,(.sl (some 4) [(.agg [(none,(.str [112])),(none,(.int .i64 (1))),(none,(.bool true)),(none,(.sl (some 9) [(.agg [(none,(.int .i64 (1))),((some 8),(.agg [((some 4),(tP 3 0 [112] [(tP 0 0 [] [])])),((some 4),(tP 3 0 [113] [(tP 0 0 [] []),(tP 0 1 [] [])]))]))])]))])]))])),(.pv none (.int .i64 (0)))])
theorem ff4:resV (sem (find tab) prim .fn 79 (pvs fq4) [])=some fv4:=zau (n:=60) fok4 (by kernel_rfl)
def fK5:Facts:=(79,fq4,fv4)::fK4
theorem fok5:FactsOk (find tab) prim fK5:=.cons (by kernel_rfl) ff4 fok4
def fq5:List (Sh × PV):=[((some 2),(.agg [(none,(.int .i64 (2))),(none,(.sl (some 4) [(.agg [(none,(.str [112])),(none,(.int .i64 (1))),(none,(.bool true)),(none,(.sl (some 9) [(.agg [(none,(.int .i64 (1))),((some 8),(.agg [((some 4),(tP 3 0 [112] [(tP 0 0 [] [])])),((some 4),(tP 3 0 [113] [(tP 0 0 [] []),(tP 0 1 [] [])]))]))])]))])]))]))]
def fv5:AV:=(.pv (some 2) (.agg [(none,(.int .i64 (2))),(none,(.sl (some 4) [(.agg [(none,(.str [112])),(none,(.int .i64 (1))),(none,(.bool true)),(none,(.sl (some 9) [(.agg [(none,(.int .i64 (1))),((some 8),(.agg [((some 4),(tP 3 0 [112] [(tP 0 0 [] [])])),((some 4),(tP 3 0 [113] [(tP 0 0 [] []),(tP 0 1 [] [])]))]))])]))])]))]))
theorem ff5:resV (sem (find tab) prim .fn 34 (pvs fq5) [])=some fv5:=zau (n:=60) fok5 (by kernel_rfl)
def fK6:Facts:=(34,fq5,fv5)::fK5
theorem fok6:FactsOk (find tab) prim fK6:=.cons (by kernel_rfl) ff5 fok5
def fq6:List (Sh × PV):=[((some 2),(.agg [(none,(.int .i64 (1))),(none,(.sl (some 4) []))])),((some 4),(tP 3 0 [97,115,115,101,114,116,122] [(tP 3 0 [58,45] [(tP 3 0 [112] [(tP 0 0 [] [])]),(tP 3 0 [113] [(tP 0 0 [] []),(tP 0 1 [] [])])])])),(none,(.sl (some 4) [(tP 3 0 [97,115,115,101,114,116,122] [(tP 3 0 [58,45] [(tP 3 0 [112] [(tP 0 0 [] [])]),(tP 3 0 [113] [(tP 0 0 [] []),(tP 0 1 [] [])])])])]))]
def fv6:AV:=(.tuple [(.pv (some 2) (.agg [(none,(.int .i64 (2))),(none,(.sl (some 4) [(.agg [(none,(.str [112])),(none,(.int .i64 (1))),(none,(.bool true)),(none,(.sl (some 9) [(.agg [(none,(.int .i64 (1))),((some 8),(.agg [((some 4),(tP 3 0 [112] [(tP 0 0 [] [])])),((some 4),(tP 3 0 [113] [(tP 0 0 [] []),(tP 0 1 [] [])]))]))])]))])]))])),(.pv none (.bool true))])
theorem ff6:resV (sem (find tab) prim .fn 22 (pvs fq6) [])=some fv6:=zau (n:=60) fok6 (by kernel_rfl)
def fK7:Facts:=(22,fq6,fv6)::fK6
theorem fok7:FactsOk (find tab) prim fK7:=.cons (by kernel_rfl) ff6 fok6
def fq7:List (Sh × PV):=[]
def fv7:AV:=(.tuple [(.pv (some 2) (.agg [(none,(.int .i64 (2))),(none,(.sl (some 4) [(.agg [(none,(.str [112])),(none,(.int .i64 (1))),(none,(.bool true)),(none,(.sl (some 9) [(.agg [(none,(.int .i64 (1))),((some 8),(.agg [((some 4),(tP 3 0 [112] [(tP 0 0 [] [])])),((some 4),(tP 3 0 [113] [(tP 0 0 [] []),(tP 0 1 [] [])]))]))])]))])]))])),(.pv none (.bool true))])
theorem ff7:resV (sem (find tab) prim .fn 20 (pvs fq7) [])=some fv7:=zau (n:=60) fok7 (by kernel_rfl)
def fK8:Facts:=(20,fq7,fv7)::fK7
theorem fok8:FactsOk (find tab) prim fK8:=.cons (by kernel_rfl) ff7 fok7
def fq8:List (Sh × PV):=[((some 2),(.agg [(none,(.int .i64 (2))),(none,(.sl (some 4) [(.agg [(none,(.str [112])),(none,(.int .i64 (1))),(none,(.bool true)),(none,(.sl (some 9) [(.agg [(none,(.int .i64 (1))),((some 8),(.agg [((some 4),(tP 3 0 [112] [(tP 0 0 [] [])])),((some 4),(tP 3 0 [113] [(tP 0 0 [] []),(tP 0 1 [] [])]))]))])]))])]))]))]
def fv8:AV:=(.pv none (.bool true))
theorem ff8:resV (sem (find tab) prim .fn 13 (pvs fq8) [])=some fv8:=zau (n:=60) fok8 (by kernel_rfl)
def fK9:Facts:=(13,fq8,fv8)::fK8
theorem fok9:FactsOk (find tab) prim fK9:=.cons (by kernel_rfl) ff8 fok8
def fq9:List (Sh × PV):=[((some 4),(tP 3 0 [99,108,97,117,115,101] [(tP 3 0 [112] [(tP 2 0 [97] [])]),(tP 0 0 [] [])]))]
def fv9:AV:=(.pv (some 4) (tP 3 0 [99,108,97,117,115,101] [(tP 3 0 [112] [(tP 2 0 [97] [])]),(tP 0 0 [] [])]))
theorem ff9:resV (sem (find tab) prim .fn 31 (pvs fq9) [])=some fv9:=zau (n:=60) fok9 (by kernel_rfl)
def fK10:Facts:=(31,fq9,fv9)::fK9
theorem zo0:FactsOk (find tab) prim fK10:=.cons (by kernel_rfl) ff9 fok9
def fq10:List (Sh × PV):=[(none,(.sl (some 5) [])),((some 4),(tP 3 0 [99,108,97,117,115,101] [(tP 3 0 [112] [(tP 2 0 [97] [])]),(tP 0 0 [] [])])),((some 4),(tP 3 0 [99,108,97,117,115,101] [(tP 3 0 [112] [(tP 0 1 [] [])]),(tP 3 0 [113] [(tP 0 1 [] []),(tP 0 2 [] [])])]))]
def fv10:AV:=(.tuple [(.pv none (.sl (some 5) [(.agg [(none,(.int .i64 (0))),((some 4),(tP 3 0 [113] [(tP 0 1 [] []),(tP 0 2 [] [])]))]),(.agg [(none,(.int .i64 (1))),((some 4),(tP 2 0 [97] []))])])),(.pv none (.int .i64 (0)))])
theorem ff10:resV (sem (find tab) prim .fn 93 (pvs fq10) [])=some fv10:=zau (n:=60) zo0 (by kernel_rfl)
def fK11:Facts:=(93,fq10,fv10)::fK10
theorem zo1:FactsOk (find tab) prim fK11:=.cons (by kernel_rfl) ff10 zo0
def fq11:List (Sh × PV):=[((some 2),(.agg [(none,(.int .i64 (2))),(none,(.sl (some 4) [(.agg [(none,(.str [112])),(none,(.int .i64 (1))),(none,(.bool true)),(none,(.sl (some 9) [(.agg [(none,(.int .i64 (1))),((some 8),(.agg [((some 4),(tP 3 0 [112] [(tP 0 0 [] [])])),((some 4),(tP 3 0 [113] [(tP 0 0 [] []),(tP 0 1 [] [])]))]))])]))])]))])),((some 4),(tP 3 0 [99,108,97,117,115,101] [(tP 3 0 [112] [(tP 2 0 [97] [])]),(tP 0 0 [] [])])),(none,(.sl (some 4) [(tP 3 0 [99,108,97,117,115,101] [(tP 3 0 [112] [(tP 0 1 [] [])]),(tP 3 0 [113] [(tP 0 1 [] []),(tP 0 2 [] [])])])]))]
def fv11:AV:=(.tuple [(.pv (some 2) (.agg [(none,(.int .i64 (2))),(none,(.sl (some 4) [(.agg [(none,(.str [112])),(none,(.int .i64 (1))),(none,(.bool true)),(none,(.sl (some 9) [(.agg [(none,(.int .i64 (1))),((some 8),(.agg [((some 4),(tP 3 0 [112] [(tP 0 0 [] [])])),((some 4),(tP 3 0 [113] [(tP 0 0 [] []),(tP 0 1 [] [])]))]))])]))])]))])),(.pv none (.bool true))])
theorem ff11:resV (sem (find tab) prim .fn 22 (pvs fq11) [])=some fv11:=zau (n:=60) zo1 (by kernel_rfl)
def fK12:Facts:=(22,fq11,fv11)::fK11
theorem zo2:FactsOk (find tab) prim fK12:=.cons (by kernel_rfl) ff11 zo1
def fq12:List (Sh × PV):=[((some 4),(tP 3 0 [36,99,108,97,117,115,101] [(tP 3 0 [112] [(tP 0 0 [] [])]),(tP 0 1 [] []),(tP 0 2 [] [])]))]
def fv12:AV:=(.pv (some 4) (tP 3 0 [36,99,108,97,117,115,101] [(tP 3 0 [112] [(tP 0 0 [] [])]),(tP 0 1 [] []),(tP 0 2 [] [])]))
theorem ff12:resV (sem (find tab) prim .fn 31 (pvs fq12) [])=some fv12:=zau (n:=60) zo2 (by kernel_rfl)
def fK13:Facts:=(31,fq12,fv12)::fK12
theorem zo3:FactsOk (find tab) prim fK13:=.cons (by kernel_rfl) ff12 zo2
def fq13:List (Sh × PV):=[(none,(.sl (some 5) [])),((some 4),(tP 3 0 [36,99,108,97,117,115,101] [(tP 3 0 [112] [(tP 0 0 [] [])]),(tP 0 1 [] []),(tP 0 2 [] [])])),((some 4),(tP 3 0 [36,99,108,97,117,115,101] [(tP 3 0 [112] [(tP 0 3 [] [])]),(tP 3 0 [113] [(tP 0 3 [] []),(tP 0 4 [] [])]),(tP 1 1 [] [])]))]
def fv13:AV:=(.tuple [(.pv none (.sl (some 5) [(.agg [(none,(.int .i64 (1))),((some 4),(tP 3 0 [113] [(tP 0 3 [] []),(tP 0 4 [] [])]))]),(.agg [(none,(.int .i64 (2))),((some 4),(tP 1 1 [] []))]),(.agg [(none,(.int .i64 (3))),((some 4),(tP 0 0 [] []))])])),(.pv none (.int .i64 (0)))])
theorem ff13:resV (sem (find tab) prim .fn 93 (pvs fq13) [])=some fv13:=zau (n:=60) zo3 (by kernel_rfl)
def fK14:Facts:=(93,fq13,fv13)::fK13
theorem zo4:FactsOk (find tab) prim fK14:=.cons (by kernel_rfl) ff13 zo3
def fq14:List (Sh × PV):=[((some 2),(.agg [(none,(.int .i64 (2))),(none,(.sl (some 4) [(.agg [(none,(.str [112])),(none,(.int .i64 (1))),(none,(.bool true)),(none,(.sl (some 9) [(.agg [(none,(.int .i64 (1))),((some 8),(.agg [((some 4),(tP 3 0 [112] [(tP 0 0 [] [])])),((some 4),(tP 3 0 [113] [(tP 0 0 [] []),(tP 0 1 [] [])]))]))])]))])]))])),((some 4),(tP 3 0 [36,99,108,97,117,115,101] [(tP 3 0 [112] [(tP 0 0 [] [])]),(tP 0 1 [] []),(tP 0 2 [] [])])),(none,(.sl (some 4) [(tP 3 0 [36,99,108,97,117,115,101] [(tP 3 0 [112] [(tP 0 3 [] [])]),(tP 3 0 [113] [(tP 0 3 [] []),(tP 0 4 [] [])]),(tP 1 1 [] [])])]))]
def fv14:AV:=(.tuple [(.pv (some 2) (.agg [(none,(.int .i64 (2))),(none,(.sl (some 4) [(.agg [(none,(.str [112])),(none,(.int .i64 (1))),(none,(.bool true)),(none,(.sl (some 9) [(.agg [(none,(.int .i64 (1))),((some 8),(.agg [((some 4),(tP 3 0 [112] [(tP 0 0 [] [])])),((some 4),(tP 3 0 [113] [(tP 0 0 [] []),(tP 0 1 [] [])]))]))])]))])]))])),(.pv none (.bool true))])
theorem ff14:resV (sem (find tab) prim .fn 22 (pvs fq14) [])=some fv14:=zau (n:=60) zo4 (by kernel_rfl)
def fK15:Facts:=(22,fq14,fv14)::fK14
theorem zo5:FactsOk (find tab) prim fK15:=.cons (by kernel_rfl) ff14 zo4
def fq15:List (Sh × PV):=[((some 4),(tP 3 0 [36,101,114,97,115,101] [(tP 1 1 [] [])]))]
def fv15:AV:=(.pv (some 4) (tP 3 0 [36,101,114,97,115,101] [(tP 1 1 [] [])]))
theorem ff15:resV (sem (find tab) prim .fn 31 (pvs fq15) [])=some fv15:=zau (n:=60) zo5 (by kernel_rfl)
def fK16:Facts:=(31,fq15,fv15)::fK15
theorem zo6:FactsOk (find tab) prim fK16:=.cons (by kernel_rfl) ff15 zo5
def fq16:List (Sh × PV):=[((some 2),(.agg [(none,(.int .i64 (2))),(none,(.sl (some 4) [(.agg [(none,(.str [112])),(none,(.int .i64 (1))),(none,(.bool true)),(none,(.sl (some 9) [(.agg [(none,(.int .i64 (1))),((some 8),(.agg [((some 4),(tP 3 0 [112] [(tP 0 0 [] [])])),((some 4),(tP 3 0 [113] [(tP 0 0 [] []),(tP 0 1 [] [])]))]))])]))])]))])),(none,(.int .i64 (1)))]
def fv16:AV:=(.tuple [(.pv (some 2) (.agg [(none,(.int .i64 (2))),(none,(.sl (some 4) [(.agg [(none,(.str [112])),(none,(.int .i64 (1))),(none,(.bool true)),(none,(.sl (some 9) []))])]))])),(.pv none (.bool true))])
theorem ff16:resV (sem (find tab) prim .fn 95 (pvs fq16) [])=some fv16:=zau (n:=60) zo6 (by kernel_rfl)
def fK17:Facts:=(95,fq16,fv16)::fK16
theorem zo7:FactsOk (find tab) prim fK17:=.cons (by kernel_rfl) ff16 zo6
def fq17:List (Sh × PV):=[((some 2),(.agg [(none,(.int .i64 (2))),(none,(.sl (some 4) [(.agg [(none,(.str [112])),(none,(.int .i64 (1))),(none,(.bool true)),(none,(.sl (some 9) []))])]))]))]
def fv17:AV:=(.pv (some 2) (.agg [(none,(.int .i64 (2))),(none,(.sl (some 4) [(.agg [(none,(.str [112])),(none,(.int .i64 (1))),(none,(.bool true)),(none,(.sl (some 9) []))])]))]))
theorem ff17:resV (sem (find tab) prim .fn 34 (pvs fq17) [])=some fv17:=zau (n:=60) zo7 (by kernel_rfl)
def fK18:Facts:=(34,fq17,fv17)::fK17
theorem zo8:FactsOk (find tab) prim fK18:=.cons (by kernel_rfl) ff17 zo7
def fq18:List (Sh × PV):=[((some 2),(.agg [(none,(.int .i64 (2))),(none,(.sl (some 4) [(.agg [(none,(.str [112])),(none,(.int .i64 (1))),(none,(.bool true)),(none,(.sl (some 9) [(.agg [(none,(.int .i64 (1))),((some 8),(.agg [((some 4),(tP 3 0 [112] [(tP 0 0 [] [])])),((some 4),(tP 3 0 [113] [(tP 0 0 [] []),(tP 0 1 [] [])]))]))])]))])]))])),((some 4),(tP 3 0 [36,101,114,97,115,101] [(tP 1 1 [] [])])),(none,(.sl (some 4) [(tP 3 0 [36,101,114,97,115,101] [(tP 1 1 [] [])])]))]
def fv18:AV:=(.tuple [(.pv (some 2) (.agg [(none,(.int .i64 (2))),(none,(.sl (some 4) [(.agg [(none,(.str [112])),(none,(.int .i64 (1))),(none,(.bool true)),(none,(.sl (some 9) []))])]))])),(.pv none (.bool true))])
theorem ff18:resV (sem (find tab) prim .fn 22 (pvs fq18) [])=some fv18:=zau (n:=60) zo8 (by kernel_rfl)
def fK19:Facts:=(22,fq18,fv18)::fK18
theorem zo9:FactsOk (find tab) prim fK19:=.cons (by kernel_rfl) ff18 zo8
def fq19:List (Sh × PV):=[((some 2),(.agg [(none,(.int .i64 (2))),(none,(.sl (some 4) [(.agg [(none,(.str [112])),(none,(.int .i64 (1))),(none,(.bool true)),(none,(.sl (some 9) []))])]))]))]
def fv19:AV:=(.pv none (.bool true))
theorem ff19:resV (sem (find tab) prim .fn 13 (pvs fq19) [])=some fv19:=zau (n:=60) zo9 (by kernel_rfl)
def fK20:Facts:=(13,fq19,fv19)::fK19
theorem zpa:FactsOk (find tab) prim fK20:=.cons (by kernel_rfl) ff19 zo9
def fq20:List (Sh × PV):=[((some 2),(.agg [(none,(.int .i64 (2))),(none,(.sl (some 4) [(.agg [(none,(.str [112])),(none,(.int .i64 (1))),(none,(.bool true)),(none,(.sl (some 9) []))])]))])),(none,(.int .i64 (1)))]
def fv20:AV:=(.tuple [(.pv (some 2) (.agg [(none,(.int .i64 (0))),(none,(.sl (some 4) []))])),(.pv none (.bool false))])
theorem ff20:resV (sem (find tab) prim .fn 95 (pvs fq20) [])=some fv20:=zau (n:=60) zpa (by kernel_rfl)
def fK21:Facts:=(95,fq20,fv20)::fK20
theorem zpb:FactsOk (find tab) prim fK21:=.cons (by kernel_rfl) ff20 zpa
def fq21:List (Sh × PV):=[((some 2),(.agg [(none,(.int .i64 (2))),(none,(.sl (some 4) [(.agg [(none,(.str [112])),(none,(.int .i64 (1))),(none,(.bool true)),(none,(.sl (some 9) []))])]))])),((some 4),(tP 3 0 [36,101,114,97,115,101] [(tP 1 1 [] [])])),(none,(.sl (some 4) []))]
def fv21:AV:=(.tuple [(.pv (some 2) (.agg [(none,(.int .i64 (2))),(none,(.sl (some 4) [(.agg [(none,(.str [112])),(none,(.int .i64 (1))),(none,(.bool true)),(none,(.sl (some 9) []))])]))])),(.pv none (.bool true))])
theorem ff21:resV (sem (find tab) prim .fn 22 (pvs fq21) [])=some fv21:=zau (n:=60) zpb (by kernel_rfl)
def fK22:Facts:=(22,fq21,fv21)::fK21
theorem zpc:FactsOk (find tab) prim fK22:=.cons (by kernel_rfl) ff21 zpb
def fq22:List (Sh × PV):=[((some 4),(tP 3 0 [97,115,115,101,114,116,122] [(tP 3 0 [97,116,111,109] [(tP 2 0 [97] [])])]))]
def fv22:AV:=(.pv (some 4) (tP 3 0 [97,115,115,101,114,116,122] [(tP 3 0 [97,116,111,109] [(tP 2 0 [97] [])])]))
theorem ff22:resV (sem (find tab) prim .fn 31 (pvs fq22) [])=some fv22:=zau (n:=60) zpc (by kernel_rfl)
def fK23:Facts:=(31,fq22,fv22)::fK22
theorem zpd:FactsOk (find tab) prim fK23:=.cons (by kernel_rfl) ff22 zpc
def fq23:List (Sh × PV):=[((some 4),(tP 3 0 [97,116,111,109] [(tP 2 0 [97] [])]))]
def fv23:AV:=(.tuple [(.pv (some 8) (.agg [((some 4),(tP 3 0 [97,116,111,109] [(tP 2 0 [97] [])])),((some 4),(tP 2 0 [116,114,117,101] []))])),(.pv (some 4) (tP 0 0 [] [])),(.pv none (.int .i64 (0)))])
theorem ff23:resV (sem (find tab) prim .fn 74 (pvs fq23) [])=some fv23:=zau (n:=60) zpd (by kernel_rfl)
def fK24:Facts:=(74,fq23,fv23)::fK23
theorem zpe:FactsOk (find tab) prim fK24:=.cons (by kernel_rfl) ff23 zpd
def fq24:List (Sh × PV):=[(none,(.str [97,116,111,109])),(none,(.int .i64 (1)))]
def fv24:AV:=(.pv none (.bool true))
theorem ff24:resV (sem (find tab) prim .fn 7 (pvs fq24) [])=some fv24:=zau (n:=60) zpe (by kernel_rfl)
def fK25:Facts:=(7,fq24,fv24)::fK24
theorem zpf:FactsOk (find tab) prim fK25:=.cons (by kernel_rfl) ff24 zpe
def fq25:List (Sh × PV):=[((some 2),(.agg [(none,(.int .i64 (2))),(none,(.sl (some 4) [(.agg [(none,(.str [112])),(none,(.int .i64 (1))),(none,(.bool true)),(none,(.sl (some 9) [(.agg [(none,(.int .i64 (1))),((some 8),(.agg [((some 4),(tP 3 0 [112] [(tP 0 0 [] [])])),((some 4),(tP 3 0 [113] [(tP 0 0 [] []),(tP 0 1 [] [])]))]))])]))])]))])),((some 4),(tP 3 0 [97,115,115,101,114,116,122] [(tP 3 0 [97,116,111,109] [(tP 2 0 [97] [])])])),((some 4),(tP 3 0 [112,101,114,109,105,115,115,105,111,110,95,101,114,114,111,114] [(tP 2 0 [109,111,100,105,102,121] []),(tP 2 0 [115,116,97,116,105,99,95,112,114,111,99,101,100,117,114,101] []),(tP 3 0 [47] [(tP 2 0 [97,116,111,109] []),(tP 1 1 [] [])])]))]
def fv25:AV:=(.pv none (.bool true))
theorem ff25:resV (sem (find tab) prim .fn 28 (pvs fq25) [])=some fv25:=zau (n:=60) zpf (by kernel_rfl)
def fK26:Facts:=(28,fq25,fv25)::fK25
theorem zpg:FactsOk (find tab) prim fK26:=.cons (by kernel_rfl) ff25 zpf
def fq26:List (Sh × PV):=[(none,(.str [105,115])),(none,(.int .i64 (2)))]
def fv26:AV:=(.pv none (.bool true))
theorem ff26:resV (sem (find tab) prim .fn 7 (pvs fq26) [])=some fv26:=zau (n:=60) zpg (by kernel_rfl)
def fK27:Facts:=(7,fq26,fv26)::fK26
theorem zpB:FactsOk (find tab) prim fK27:=.cons (by kernel_rfl) ff26 zpg
theorem run9:yes (zen fK27 (find tab) prim 60 .fn 9 [] [])=true:=by kernel_rfl
theorem sem9:sem (find tab) prim .fn 9 [] []=some (.ret (.pv none (.bool true)),[]):=zeY zpB 60 _ _ _ _ _ (zoW run9)
end Go.Proofs.YtkfncielohbecaaGreatDoor
namespace Go.Proofs.YtkfncielohbecaaGreatDoor
open Go.Am
noncomputable abbrev Z:=sem (find tab) prim
noncomputable abbrev S:=sem (find tab) prim .fn
noncomputable abbrev L:=sloop (find tab) prim

end Go.Proofs.YtkfncielohbecaaGreatDoor
