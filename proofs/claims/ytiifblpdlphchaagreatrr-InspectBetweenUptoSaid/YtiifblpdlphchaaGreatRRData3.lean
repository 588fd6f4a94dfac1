/- What is proved: inspect.Call of goals between. -/
import Derived.Test.YtiifblpdlphchaaGreatRRExB
import Derived.Test.YtiifblpdlphchaaGreatRRCp
import Derived.Test.YtiifblpdlphchaaGreatRRAm4
set_option linter.unusedSimpArgs false
set_option linter.unusedVariables false
namespace Go.Proofs.YtiifblpdlphchaaGreatRR
open Go.Am
theorem zc6(lo hi m:Int):(gBtw lo hi (tint m)).valid=true:=by
 simp[Tm.valid,gBtw,tint,Tm.size,Tm.sizes,Tm.fits,Tm.fitsAll,Tm.node,Tm.kind,Tm.n,Tm.name,Tm.args,nBtw]
theorem zjo(lo hi:Int):(gBtw lo hi (tvar 0)).valid=true:=by
 simp[Tm.valid,gBtw,tint,tvar,Tm.size,Tm.sizes,Tm.fits,Tm.fitsAll,Tm.node,Tm.kind,Tm.n,Tm.name,Tm.args,nBtw]
theorem zoL(lo hi m:Int)(hp:Heap):S 20 [(gBtw lo hi (tint m)).av] hp=some (.ret (.tuple [.pv none (.sl (some 4) (Tm.pvs (sucL (decide (lo<=m) && decide (m<=hi)) (gBtw lo hi (tint m))))),zt.av,.pv none (.int .i64 0)]),hp):=by
 obtain⟨ts,hts⟩:∃ts,ts=sucL (decide (lo<=m) && decide (m<=hi)) (gBtw lo hi (tint m)):=⟨_,rfl⟩
 obtain⟨g,hg⟩:∃g,g=gBtw lo hi (tint m):=⟨_,rfl⟩
 have hv:=zc6 lo hi m
 have hall:ts.all Tm.valid=true:=by
  rw[hts]
  unfold sucL
  split
  ·simp[hv]
  ·rfl
 have hlen:ts.length<=1:=by
  rw[hts]
  unfold sucL
  split <;> simp
 have hr:zdU ts 0=(ts,0):=by
  have:¬1000<ts.length:=by omega
  simp only[zdU,ne_eq,not_true_eq_false,if_false,this,hall,if_true]
 rw[<-hts,<-hg]
 rw[<-hg] at hts hv
 have hb:=zqW g
 have h1:=zjm g (vads [] g.occ).length lo hi m (hE g++eJ g) 6 rfl (hb.app (Bq.cons rfl (Bq.cons rfl (Bq.cons (zjs _ _) (Bq.cons (zg5 _) (Bq.cons (zg6 _) Bq.nil)))))) ts hts
 rw[List.append_assoc] at h1
 have h2:=zkd lo hi (tint m) (vads [] g.occ).length (hE g) 6 (by rw[<-hg];rfl) hb _ 0 _ rfl (by rw[<-hg];exact h1)
 have h3:=znz g hp hv (by rw[hg];rfl) (by rw[hg];rfl) (by rw[hg];exact(by decide:nBtw∈zbZ 3)) ts 0 _ _ false h2 (by show 7<=12+11;omega) rfl (by omega) fun t ht=>by
  have:=valid_size (List.all_eq_true.1 hall t ht)
  omega
 rw[hr] at h3
 exact h3
theorem znt(lo hi:Int)(hlo: -9223372036854775808<=lo/\lo<9223372036854775808)(hhi: -9223372036854775808<=hi/\hi<9223372036854775808)(hp:Heap):S 20 [(gBtw lo hi (tvar 0)).av] hp=some (.ret (.tuple [.pv none (.sl (some 4) (Tm.pvs (btwR (gBtw lo hi (tvar 0)) lo hi).1)),zt.av,.pv none (.int .i64 (btwR (gBtw lo hi (tvar 0)) lo hi).2)]),hp):=by
 obtain⟨ts,e,hts⟩:∃ts e,btwR (gBtw lo hi (tvar 0)) lo hi=(ts,e):=⟨_,_,rfl⟩
 have hv:=zjo lo hi
 have hts2:ts.length<=1000/\ts.all Tm.valid=true/\(e≠0->ts=[]):=by
  unfold btwR at hts
  split at hts
  ·cases hts;simp
  ·split at hts
   ·cases hts;simp
   ·cases hts
    refine⟨by simp;omega,?_,fun h=>absurd rfl h⟩
    rw[List.all_eq_true]
    intro t ht
    obtain⟨i,_,rfl⟩:=List.mem_map.1 ht
    exact zc6 lo hi (lo+i)
 obtain⟨hlen,hall,hez⟩:=hts2
 have hr:zdU ts e=(ts,e):=by
  have h1:¬1000<ts.length:=by omega
  unfold zdU
  by_cases h0:e=0
  ·simp only[h0,ne_eq,not_true_eq_false,if_false,h1,hall,if_true]
  ·rw[if_pos h0,hez h0]
 rw[hts]
 obtain⟨g,hg⟩:∃g,g=gBtw lo hi (tvar 0):=⟨_,rfl⟩
 rw[<-hg] at hts hv ⊢
 have hb:=zqW g
 have h1:=zjn g (vads [] g.occ).length lo hi (tvar 0) rfl (by rw[hg];rfl) hlo hhi (hE g++eJ g) 6 rfl (hb.app (Bq.cons rfl (Bq.cons rfl (Bq.cons (zjs _ _) (Bq.cons (zg5 _) (Bq.cons (zg6 _) Bq.nil)))))) ts e hts
 rw[List.append_assoc] at h1
 have h2:=zkd lo hi (tvar 0) (vads [] g.occ).length (hE g) 6 (by rw[<-hg];rfl) hb _ e _ rfl (by rw[<-hg];exact h1)
 have h3:=znz g hp hv (by rw[hg];rfl) (by rw[hg];rfl) (by rw[hg];exact(by decide:nBtw∈zbZ 3)) ts e _ _ false h2 (by show 7<=12+10;omega) rfl (by omega) fun t ht=>by
  have:=valid_size (List.all_eq_true.1 hall t ht)
  omega
 rw[hr] at h3
 exact h3
end Go.Proofs.YtiifblpdlphchaaGreatRR
namespace Go.Proofs.YtiifblpdlphchaaGreatRR
open Go.Am Go.ChangeShapes Go.WideShapes Go.ChangeAt Go.RowKit
theorem znw(H:Type):BulkLaws (H:=H) Rows.uptoBulk Rows.uptoBulkAll where
 nil:=by simp[Rows.uptoBulkAll]
 cons d r:=by simp[Rows.uptoBulkAll]
 slice e s:=by simp[Rows.uptoBulk]
 agg l:=by simp[Rows.uptoBulk]
 string l:=by simp[Rows.uptoBulk]
theorem zlt{H:Type}{l:List (DataW H)}(hk:Rows.uptoSmall H l=true):Rows.uptoBulkAll l<=1048576:=of_decide_eq_true hk
def znx:List TypeId:=[2,3,4,5,9,24,26]
theorem closed:zj7 Tryz.prog znx=true:=by kernel_rfl
end Go.Proofs.YtiifblpdlphchaaGreatRR
namespace Go.Proofs.YtiifblpdlphchaaGreatRR
open Go.Am Go.ChangeShapes Go.WideShapes Go.ChangeAt Go.RowKit
theorem zlu(H:Type):BulkLaws2 (H:=H) Rows.uptoBulk Rows.uptoBulkAll:=
 ⟨znw H,fun d=>by
  cases d with
  |lit l=>cases l <;> simp[Rows.uptoBulk]
  |_=>simp[Rows.uptoBulk]⟩
set_option maxRecDepth 100000 in
theorem zoV{H:Type}{enc:TypeId × Value->H}{W:World}{base:Nat}{v:Value}{d:DataW H}{ps:List MemPlace}{t:TypeId}(ht:t∈znx)(hok:okT Tryz.prog t=true)(h:DataW.Trod enc Tryz.prog W 0 (fun _=>true) true t v d ps)(hv:Value.okWide Tryz.prog W .any base t v):
  ∃n p,AR W (noX (P:=Tryz.prog)) noμ [] (.pv (shOf Tryz.prog t) p) v/\wt Tryz.prog n t p/\p.sz<=Rows.uptoBulk d:=by
 obtain⟨fuel,h0⟩:=h
 obtain⟨p,hp⟩:=znr closed fuel _ _ _ _ ht h0
 obtain⟨h1,h2⟩:=zns (zlu H) fuel _ _ _ hp
 exact⟨fuel,p,zqG ⟨fuel,h0⟩ hok hp (zlr hv),h1,h2⟩
end Go.Proofs.YtiifblpdlphchaaGreatRR
namespace Go.Proofs.YtiifblpdlphchaaGreatRR
open Go.Am Go.ChangeShapes Go.WideShapes Go.ChangeAt Go.RowKit
set_option maxRecDepth 100000 in
theorem zg4{H:Type}{enc:TypeId × Value->H}{W:World}{base:Nat}{v:Value}{d:DataW H}{ps:List MemPlace}(h:DataW.Trod enc Tryz.prog W 0 (fun _=>true) true 2 v d ps)(hv:Value.okWide Tryz.prog W .any base 2 v):
  ∃x:Int,AR W (noX (P:=Tryz.prog)) noμ [] (.pv none (.int .i64 x)) v/\zib x:=by
 obtain⟨n,p,h1,h2,h3⟩:=zoV (by decide) (by kernel_rfl) h hv
 obtain⟨x,rfl,hx⟩:=zqJ (by kernel_rfl) h2
 rw[show shOf Tryz.prog 2=none from by kernel_rfl] at h1
 exact⟨x,h1,hx⟩
end Go.Proofs.YtiifblpdlphchaaGreatRR
