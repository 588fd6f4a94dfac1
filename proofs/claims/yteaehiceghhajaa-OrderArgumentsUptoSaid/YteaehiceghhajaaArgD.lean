/- What all claims of the seat share. -/
import Derived.Test.YteaehiceghhajaaRows
import Derived.Test.YteaehiceghhajaaFns
import Derived.Test.YteaehiceghhajaaAm5
set_option linter.unusedSimpArgs false
set_option linter.unusedVariables false
namespace Go.Proofs.Yteaehiceghhajaa
open Go.Am Go.ChangeShapes Go.WideShapes Go.ChangeAt Go.RowKit
theorem Try.own:ownKnob Try.prog.godebug=none:=by kernel_rfl
theorem Try.zp0:laidOutB Try.prog=true:=by kernel_rfl
theorem Try.zp2:Try.prog.follows .mixedOrders=true:=by kernel_rfl
def prim:FuncId->Option zbE:=fun g=>bif Nat.beq 71 g then some zgJ else(fun _=>none) g
theorem zoQ:zei Try.prog prim:=zjb (zkD Try.func71 (by kernel_rfl) (by kernel_rfl) (by kernel_rfl) (by kernel_rfl)) zkE
theorem sound:SoundO Try.prog (sem (find tab) prim):=zl8 Try.zp2 (znq zpk) zoQ
def yes:Option (ARes × Heap)->Bool
 |some (.ret (.pv none (.bool true)),[])=>true
 |_=>false
theorem zpi{r:Option (ARes × Heap)}(h:yes r=true):r=some (.ret (.pv none (.bool true)),[]):=by
 unfold yes at h
 split at h
 ·rfl
 ·cases h
end Go.Proofs.Yteaehiceghhajaa
namespace Go.Proofs.Yteaehiceghhajaa
open Go.Am
noncomputable abbrev Z:=sem (find tab) prim
noncomputable abbrev S:=sem (find tab) prim .fn
noncomputable abbrev L:=sloop (find tab) prim

theorem zn3:∀(t:Tm) (hp:Heap) (r1 r2:Nat) (l:Nat),t.size<1000000000->l<1000000000->hp[r1]? =some (.box none (.pv none (.int .i64 ((l+1:Nat):Int))))->hp[r2]? =some (.box none (.func (.func 64) [] [.ptr r1 0,.ptr r2 0]))->
  S 64 [t.av,.ptr r1 0,.ptr r2 0] hp=some (.ret (.tuple []),hp.set r1 (.box none (.pv none (.int .i64 ((l+1 - t.size:Nat):Int))))):=by
 intro t
 induction t using Tm.zpL with
 |h t ih=>
  intro hp r1 r2 l ht hl h1 h2
  have hr1:=zof h1
  have hr2:=zof h2
  have hne:r1≠r2:=by
   rintro rfl
   rw[h1] at h2
   cases h2
  have hts:=t.size_eq
  have hlen:=Tm.zpF t.args
  refine zeA rfl rfl rfl rfl ?_
  have e1:∀y x,(hp.set r1 y++[x])[r1]? =some y:=fun y x=>by rw[get_app (by simpa using hr1)];simp[hr1]
  have e2:∀y x,(hp.set r1 y++[x])[r2]? =some (.box none (.func (.func 64) [] [.ptr r1 0,.ptr r2 0])):=fun y x=>by rw[get_app (by simpa using hr2),List.getElem?_set_ne hne,h2]
  have e3:∀y x,(hp.set r1 y++[x])[hp.length]? =some x:=fun y x=>by simp
  have e4:∀y x z,(hp.set r1 y++[x]).set r1 z=hp.set r1 z++[x]:=fun y x z=>by rw[set_app (by simpa using hr1)];simp
  have e5:(↑(l+1) - 1:Int)=((l+1 - (1+Tm.sizes (t.args.take 0)):Nat):Int):=by simp[Tm.sizes]
  have w1:IntKind.i64.wrap ((l+1:Nat) - 1:Int)=((l+1 - (1+Tm.sizes (t.args.take 0)):Nat):Int):=by rw[zch (by omega) (by omega),e5]
  simp -dsimp -implicitDefEqProofs only[go_sem,seval,↓reduceIte,Tm.av,get_app hr1,h1,znT,set_app hr1,w1]
  refine zfc (fun n st=>∃i:Nat,n=t.args.length - i/\i<=t.args.length/\st=⟨[(1,.ptr r1 0),(2,.ptr r2 0),(3,.ptr hp.length 0),(4,.pv none (.int .i64 i))],hp.set r1 (.box none (.pv none (.int .i64 ((l+1 - (1+Tm.sizes (t.args.take i)):Nat):Int))))++[.box (some 4) (.pv (some 4) t.pv)]⟩) ⟨0,rfl,Nat.zero_le _,?_⟩ ?_
  ·simp -dsimp -implicitDefEqProofs only[go_sem,seval,↓reduceIte]
   try rfl
  ·rintro n st ⟨i,hn,hi,rfl⟩
   by_cases h:i<t.args.length
   ·have hc:(i:Int)<(t.args.length:Int):=by omega
    obtain⟨u,hu⟩:∃u,t.args[i]? =some u:=⟨_,List.getElem?_eq_getElem h⟩
    have hst:=Tm.zpQ hu
    have hum:=List.mem_of_getElem? hu
    have husz:=Tm.zpK hum
    by_cases h0:0<((l+1 - (1+Tm.sizes (t.args.take i)):Nat):Int)
    ·obtain⟨l',hl'⟩:∃l':Nat,l+1 - (1+Tm.sizes (t.args.take i))=l'+1:=⟨l+1 - (1+Tm.sizes (t.args.take i)) - 1,by omega⟩
     have hcall:=ih u hum (hp.set r1 (.box none (.pv none (.int .i64 ((l'+1:Nat):Int))))++[.box (some 4) (.pv (some 4) t.pv)]) r1 r2 l' (by omega) (by omega) (e1 _ _) (e2 _ _)
     rw[e4] at hcall
     have e6:l'+1 - u.size=l+1 - (1+Tm.sizes (t.args.take (i+1))):=by omega
     have w2:IntKind.i64.wrap ((i:Int)+1)=((i+1:Nat):Int):=by rw[zch (by omega) (by omega)];omega
     rw[hl'] at h0 ⊢
     simp -dsimp -implicitDefEqProofs only[go_sem,seval,↓reduceIte,e1,e2,e3,e4,zao,Tm.pvs_len,hc,h0,zaE (Tm.pvs_get hu),show AV.pv (some 4) u.pv=u.av from rfl,hcall,e6,w2]
     refine⟨t.args.length - (i+1),by omega,i+1,rfl,by omega,?_⟩
     rw[zc9 (by simp)]
    ·simp -dsimp -implicitDefEqProofs only[go_sem,seval,↓reduceIte,e1,e2,e3,e4,zao,Tm.pvs_len,hc,h0]
     rw[List.take_left' (by simp)]
     have hle:Tm.sizes (t.args.take i)<=Tm.sizes t.args:=Tm.zpG _ _
     congr 5
     omega
   ·have hc:¬(i:Int)<(t.args.length:Int):=by omega
    obtain rfl:i=t.args.length:=by omega
    simp -dsimp -implicitDefEqProofs only[go_sem,seval,↓reduceIte,e1,e2,e3,e4,zao,Tm.pvs_len,hc]
    rw[List.take_left' (by simp),List.take_length,hts]

theorem zoR(t:Tm)(hp:Heap)(h:t.size<1000000000):S 52 [t.av] hp=some (.ret (.pv none (.int .i64 ((min t.size 2001:Nat):Int))),hp):=by
 refine zaA rfl rfl rfl (zaf [(some 4,t.pv)]) rfl ?_
 have hc:=zn3 t [.box (some 4) (.pv (some 4) t.pv),.box none (.pv none (.int .i64 2001)),.box none (.func (.func 64) [] [.ptr 1 0,.ptr 2 0])] 1 2 2000 h (by omega) rfl rfl
 have w1:IntKind.i64.wrap (2001 - ((2000+1 - t.size:Nat):Int))=((min t.size 2001:Nat):Int):=by rw[zch (by omega) (by omega)];omega
 simp only[Tm.av] at hc
 simp -dsimp -implicitDefEqProofs only[go_sem,seval,↓reduceIte,Tm.av,zh3 (Nat.zero_le _),hc,w1]

theorem zn4(t:Tm)(Q:AExit->St->Prop)(h:∀r,Q .normal ⟨(1,.ptr 0 0)::(3,.pv none (.bool t.node))::r,[.box (some 4) (.pv (some 4) t.pv)]⟩):
  W Z L 0 c53k15 ⟨[(1,.ptr 0 0),(3,.pv none (.bool false)),(6,.pv none (.int .i64 t.kind))],[.box (some 4) (.pv (some 4) t.pv)]⟩ Q:=by
 (repeat' (first|(simp -dsimp -implicitDefEqProofs only[c53k15,go_sem,seval,↓reduceIte,zcS,zh7,zcT,zao,Tm.pvs_len, *])|(refine zas (fun _=> ?_) (fun _=> ?_))))
 all_goals (simp -dsimp -implicitDefEqProofs only[Tm.node,go_sem,seval,↓reduceIte, *] at h;exact h _)

theorem zoS:∀(t:Tm) (hp:Heap),t.size<1000000000->S 53 [t.av] hp=some (.ret (.pv none (.bool t.fits)),hp):=by
 intro t
 induction t using Tm.zpL with
 |h t ih=>
  intro hp ht
  have hts:=t.size_eq
  have hlen:=Tm.zpF t.args
  refine zaA rfl rfl rfl (zaf [(some 4,t.pv)]) rfl ?_
  simp -dsimp -dsimp -implicitDefEqProofs only[go_sem,seval,↓reduceIte,zcS,zh7,zcT,zao,Tm.pvs_len]
  refine zn4 t _ (fun r=> ?_)
  simp -dsimp -dsimp -implicitDefEqProofs only[go_sem,seval,↓reduceIte,zcS,zh7,zcT,zao,Tm.pvs_len]
  refine zfc (fun n st=>∃i:Nat,n=t.args.length - i/\i<=t.args.length/\st=⟨[(1,.ptr 0 0),(3,.pv none (.bool (t.node && Tm.fitsAll (t.args.take i)))),(4,.pv none (.int .i64 i))],[.box (some 4) (.pv (some 4) t.pv)]⟩) (n:=t.args.length) ⟨0,rfl,Nat.zero_le _,?_⟩ ?_
  ·simp -dsimp -implicitDefEqProofs only[go_sem,seval,↓reduceIte,Tm.fitsAll]
   try rfl
  ·rintro n st ⟨i,hn,hi,rfl⟩
   by_cases h:i<t.args.length
   ·have hc:(i:Int)<(t.args.length:Int):=by omega
    obtain⟨u,hu⟩:∃u,t.args[i]? =some u:=⟨_,List.getElem?_eq_getElem h⟩
    have hum:=List.mem_of_getElem? hu
    have husz:=Tm.zpK hum
    have hcall:=fun hp=>ih u hum hp (by omega)
    have e6:Tm.fitsAll (t.args.take (i+1))=(Tm.fitsAll (t.args.take i) && u.fits):=Tm.zpN hu
    have w2:IntKind.i64.wrap ((i:Int)+1)=((i+1:Nat):Int):=by rw[zch (by omega) (by omega)];omega
    by_cases h0:(t.node && Tm.fitsAll (t.args.take i))=true
    ·simp -dsimp -dsimp -implicitDefEqProofs only[go_sem,seval,↓reduceIte,zao,Tm.pvs_len,hc,h0,zaE (Tm.pvs_get hu),show AV.pv (some 4) u.pv=u.av from rfl,hcall,w2]
     refine⟨t.args.length - (i+1),by omega,i+1,rfl,by omega,?_⟩
     rw[e6,<-Bool.and_assoc,h0,Bool.true_and]
    ·simp -dsimp -implicitDefEqProofs only[go_sem,seval,↓reduceIte,zao,Tm.pvs_len,hc,h0]
     rw[Tm.zpH]
     have hp:Tm.fitsAll t.args=(Tm.fitsAll (t.args.take i) && Tm.fitsAll (t.args.drop i)):=by rw[<-Tm.zpI,List.take_append_drop]
     rw[hp,<-Bool.and_assoc,Bool.eq_false_iff.2 h0]
     rfl
   ·have hc:¬(i:Int)<(t.args.length:Int):=by omega
    obtain rfl:i=t.args.length:=by omega
    simp -dsimp -implicitDefEqProofs only[go_sem,seval,↓reduceIte,zao,Tm.pvs_len,hc]
    rw[Tm.zpH,List.take_length]

theorem zj1(t:Tm)(hp:Heap)(h:t.size<1000000000):S 36 [t.av] hp=some (.ret (.pv none (.bool t.valid)),hp):=by
 refine zaA rfl rfl rfl (zaf [(some 4,t.pv)]) rfl ?_
 have h1:=fun hp=>zoR t hp h
 have h2:=fun hp=>zoS t hp h
 unfold Tm.valid
 simp only[Tm.av] at h1 h2
 by_cases hs:t.size<=2000
 ·have hc:((min t.size 2001:Nat):Int)<=2000:=by omega
  (repeat' (first|(simp -dsimp -implicitDefEqProofs only[go_sem,seval,↓reduceIte,Tm.av, *])|(refine zas (fun _=> ?_) (fun _=> ?_))))
 ·have hc:¬((min t.size 2001:Nat):Int)<=2000:=by omega
  (repeat' (first|(simp -dsimp -implicitDefEqProofs only[go_sem,seval,↓reduceIte,Tm.av, *])|(refine zas (fun _=> ?_) (fun _=> ?_))))

theorem zmV:∀(t:Tm) (hp:Heap) (m:Nat),t.size<1000000000->m<1000000000->S 62 [t.av,.pv none (.int .i64 ((m+1:Nat):Int))] hp=some (.ret (.pv none (.int .i64 ((min t.size (m+1):Nat):Int))),hp):=by
 intro t
 induction t using Tm.zpL with
 |h t ih=>
  intro hp m ht hm
  have hts:=t.size_eq
  have hlen:=Tm.zpF t.args
  refine zaA rfl rfl rfl (zaf [(some 4,t.pv),(none,.int .i64 ((m+1:Nat):Int))]) rfl ?_
  simp -dsimp -implicitDefEqProofs only[go_sem,seval,↓reduceIte,zao,Tm.pvs_len]
  refine zfc (fun n st=>∃i:Nat,n=t.args.length - i/\i<=t.args.length/\st=⟨[(1,.pv none (.int .i64 ((m+1:Nat):Int))),(2,.ptr 0 0),(5,.pv none (.int .i64 ((min (1+Tm.sizes (t.args.take i)) (m+1):Nat):Int))),(6,.pv none (.int .i64 i))],[.box (some 4) (.pv (some 4) t.pv)]⟩) (n:=t.args.length) ⟨0,rfl,Nat.zero_le _,?_⟩ ?_
  ·simp -dsimp -implicitDefEqProofs only[go_sem,seval,↓reduceIte]
   rw[show min (1+Tm.sizes []) (m+1)=1 by simp[Tm.sizes]]
   rfl
  ·rintro n st ⟨i,hn,hi,rfl⟩
   by_cases h:i<t.args.length
   ·have hc:(i:Int)<(t.args.length:Int):=by omega
    obtain⟨u,hu⟩:∃u,t.args[i]? =some u:=⟨_,List.getElem?_eq_getElem h⟩
    have hst:=Tm.zpQ hu
    have hum:=List.mem_of_getElem? hu
    have husz:=Tm.zpK hum
    have w2:IntKind.i64.wrap ((i:Int)+1)=((i+1:Nat):Int):=by rw[zch (by omega) (by omega)];omega
    by_cases h0:((min (1+Tm.sizes (t.args.take i)) (m+1):Nat):Int)<((m+1:Nat):Int)
    ·obtain⟨m',hm'⟩:∃m':Nat,m+1 - min (1+Tm.sizes (t.args.take i)) (m+1)=m'+1:=⟨m - min (1+Tm.sizes (t.args.take i)) (m+1),by omega⟩
     have w3:IntKind.i64.wrap (((m+1:Nat):Int) - ((min (1+Tm.sizes (t.args.take i)) (m+1):Nat):Int))=((m'+1:Nat):Int):=by rw[zch (by omega) (by omega)];omega
     have w4:IntKind.i64.wrap (((min (1+Tm.sizes (t.args.take i)) (m+1):Nat):Int)+((min u.size (m'+1):Nat):Int))=((min (1+Tm.sizes (t.args.take (i+1))) (m+1):Nat):Int):=by rw[zch (by omega) (by omega)];omega
     have hcall:=fun hp=>ih u hum hp m' (by omega) (by omega)
     simp -dsimp -implicitDefEqProofs only[go_sem,seval,↓reduceIte,zao,Tm.pvs_len,hc,h0,zaE (Tm.pvs_get hu),show AV.pv (some 4) u.pv=u.av from rfl,hcall,w2,w3,w4]
     exact⟨t.args.length - (i+1),by omega,i+1,rfl,by omega,rfl⟩
    ·simp -dsimp -implicitDefEqProofs only[go_sem,seval,↓reduceIte,zao,Tm.pvs_len,hc,h0]
     have hle:Tm.sizes (t.args.take i)<=Tm.sizes t.args:=Tm.zpG _ _
     congr 3
     omega
   ·have hc:¬(i:Int)<(t.args.length:Int):=by omega
    obtain rfl:i=t.args.length:=by omega
    simp -dsimp -implicitDefEqProofs only[go_sem,seval,↓reduceIte,zao,Tm.pvs_len,hc]
    rw[List.take_length,hts]

theorem zn5(t:Tm)(hp:Heap)(h:t.size<1000000000):S 50 [t.av] hp=some (.ret (.pv none (.int .i64 ((min t.size 2001:Nat):Int))),hp):=by
 refine zaA rfl rfl rfl (zaf [(some 4,t.pv)]) rfl ?_
 have h1:=fun hp=>zmV t hp 2000 h (by omega)
 simp only[Tm.av] at h1
 have e:(((2000+1:Nat):Int))=2001:=rfl
 rw[e] at h1
 (repeat' (first|(simp -dsimp -implicitDefEqProofs only[go_sem,seval,↓reduceIte, *])|(refine zas (fun _=> ?_) (fun _=> ?_))))

theorem zn6(t:Tm)(hp:Heap):S 63 [t.av] hp=some (.ret (.pv none (.bool t.node)),hp):=by
 refine zaA rfl rfl rfl (zaf [(some 4,t.pv)]) rfl ?_
 (repeat' (first|(simp -dsimp -implicitDefEqProofs only[go_sem,seval,↓reduceIte,zcS,zh7,zcT,zao,Tm.pvs_len, *])|(refine zas (fun _=> ?_) (fun _=> ?_))))
 all_goals (simp only[Tm.node,show(0<(t.args.length:Int))=(1<=(t.args.length:Int)) from propext (by omega), *,Int.reduceEq,if_true,if_false,decide_true,decide_false,Bool.true_and,Bool.false_and,Bool.and_true])

theorem zmW:∀(t:Tm) (hp:Heap),t.size<1000000000->S 51 [t.av] hp=some (.ret (.pv none (.bool t.fits)),hp):=by
 intro t
 induction t using Tm.zpL with
 |h t ih=>
  intro hp ht
  have hts:=t.size_eq
  have hlen:=Tm.zpF t.args
  refine zaA rfl rfl rfl (zaf [(some 4,t.pv)]) rfl ?_
  have hnode:=zn6 t
  simp only[Tm.av] at hnode
  by_cases hn:t.node=true
  ·rw[hn] at hnode
   simp -dsimp -implicitDefEqProofs only[go_sem,seval,↓reduceIte,hnode,zao,Tm.pvs_len]
   refine zfc (fun n st=>∃i:Nat,n=t.args.length - i/\i<=t.args.length/\Tm.fitsAll (t.args.take i)=true/\st=⟨[(1,.ptr 0 0),(3,.pv none (.int .i64 i))],[.box (some 4) (.pv (some 4) t.pv)]⟩) (n:=t.args.length) ⟨0,rfl,Nat.zero_le _,rfl,?_⟩ ?_
   ·simp -dsimp -implicitDefEqProofs only[go_sem,seval,↓reduceIte]
    try rfl
   ·rintro n st ⟨i,hn',hi,hf,rfl⟩
    by_cases h:i<t.args.length
    ·have hc:(i:Int)<(t.args.length:Int):=by omega
     obtain⟨u,hu⟩:∃u,t.args[i]? =some u:=⟨_,List.getElem?_eq_getElem h⟩
     have hum:=List.mem_of_getElem? hu
     have husz:=Tm.zpK hum
     have hcall:=fun hp=>ih u hum hp (by omega)
     have e6:Tm.fitsAll (t.args.take (i+1))=(Tm.fitsAll (t.args.take i) && u.fits):=Tm.zpN hu
     have w2:IntKind.i64.wrap ((i:Int)+1)=((i+1:Nat):Int):=by rw[zch (by omega) (by omega)];omega
     by_cases h0:u.fits=true
     ·simp -dsimp -implicitDefEqProofs only[go_sem,seval,↓reduceIte,zao,Tm.pvs_len,hc,h0,zaE (Tm.pvs_get hu),show AV.pv (some 4) u.pv=u.av from rfl,hcall,w2]
      exact⟨t.args.length - (i+1),by omega,i+1,rfl,by omega,by rw[e6,hf,h0];rfl,rfl⟩
     ·rw[Bool.not_eq_true] at h0
      simp -dsimp -implicitDefEqProofs only[go_sem,seval,↓reduceIte,zao,Tm.pvs_len,hc,h0,zaE (Tm.pvs_get hu),show AV.pv (some 4) u.pv=u.av from rfl,hcall,w2]
      rw[show t.fits=false from Bool.eq_false_iff.2 fun h=>by rw[Tm.zpO h hum] at h0;cases h0]
    ·have hc:¬(i:Int)<(t.args.length:Int):=by omega
     obtain rfl:i=t.args.length:=by omega
     rw[List.take_length] at hf
     simp -dsimp -implicitDefEqProofs only[go_sem,seval,↓reduceIte,zao,Tm.pvs_len,hc]
     rw[Tm.zpH,hn,hf]
     rfl
  ·rw[Bool.not_eq_true] at hn
   rw[hn] at hnode
   simp -dsimp -implicitDefEqProofs only[go_sem,seval,↓reduceIte,hnode,zao,Tm.pvs_len]
   rw[Tm.zpH,hn]
   rfl

theorem zik(t:Tm)(hp:Heap)(h:t.size<1000000000):S 31 [t.av] hp=some (.ret (.pv none (.bool t.valid)),hp):=by
 refine zaA rfl rfl rfl (zaf [(some 4,t.pv)]) rfl ?_
 have h1:=fun hp=>zn5 t hp h
 have h2:=fun hp=>zmW t hp h
 unfold Tm.valid
 simp only[Tm.av] at h1 h2
 by_cases hs:t.size<=2000
 ·have hc:((min t.size 2001:Nat):Int)<=2000:=by omega
  (repeat' (first|(simp -dsimp -implicitDefEqProofs only[go_sem,seval,↓reduceIte,Tm.av, *])|(refine zas (fun _=> ?_) (fun _=> ?_))))
 ·have hc:¬((min t.size 2001:Nat):Int)<=2000:=by omega
  (repeat' (first|(simp -dsimp -implicitDefEqProofs only[go_sem,seval,↓reduceIte,Tm.av, *])|(refine zas (fun _=> ?_) (fun _=> ?_))))
end Go.Proofs.Yteaehiceghhajaa
namespace Go.Proofs.Yteaehiceghhajaa
open Go.Am
theorem zn0(hp:Heap)(x:Int):S 65 [.pv none (.int .i64 x)] hp=some (.ret (.pv none (.bool false)),hp):=by
 refine zaA rfl rfl rfl (zaf [(none,.int .i64 x)]) rfl ?_
 (repeat' (first|(simp -dsimp -implicitDefEqProofs only[go_sem,seval,↓reduceIte, *])|(refine zas (fun _=> ?_) (fun _=> ?_))))
theorem zmR(hp:Heap)(x y:Int):S 54 [.pv none (.int .i64 x),.pv none (.int .i64 y)] hp=some (.ret (.pv none (.int .i64 (cmpI x y))),hp):=by
 refine zaA rfl rfl rfl (zaf [(none,.int .i64 x),(none,.int .i64 y)]) rfl ?_
 (repeat' (first|(simp -dsimp -implicitDefEqProofs only[go_sem,seval,↓reduceIte,zn0,cmpI, *])|(refine zas (fun _=> ?_) (fun _=> ?_))))
theorem zkX(hp:Heap)(x:Int):S 66 [.pv none (.int .i64 x)] hp=some (.ret (.pv none (.bool false)),hp):=by
 refine zaA rfl rfl rfl (zaf [(none,.int .i64 x)]) rfl ?_
 (repeat' (first|(simp -dsimp -implicitDefEqProofs only[go_sem,seval,↓reduceIte, *])|(refine zas (fun _=> ?_) (fun _=> ?_))))
theorem zjr(hp:Heap)(x y:Int):S 55 [.pv none (.int .i64 x),.pv none (.int .i64 y)] hp=some (.ret (.pv none (.int .i64 (cmpI x y))),hp):=by
 refine zaA rfl rfl rfl (zaf [(none,.int .i64 x),(none,.int .i64 y)]) rfl ?_
 (repeat' (first|(simp -dsimp -implicitDefEqProofs only[go_sem,seval,↓reduceIte,zkX,cmpI, *])|(refine zas (fun _=> ?_) (fun _=> ?_))))
theorem zih(hp:Heap)(x y:List UInt8):S 67 [.pv none (.str x),.pv none (.str y)] hp=some (.ret (.pv none (.int .i64 (Lib.compareBytes x y))),hp):=by
 refine zaA rfl rfl rfl (zaf [(none,.str x),(none,.str y)]) rfl ?_
 have h:∀hp,S 71 [.pv none (.str x),.pv none (.str y)] hp=some (.ret (.pv none (.int .i64 (Lib.compareBytes x y))),hp):=fun hp=>(znU (p:=zgJ) rfl _ _).trans rfl
 (repeat' (first|(simp -dsimp -implicitDefEqProofs only[go_sem,seval,↓reduceIte, *])|(refine zas (fun _=> ?_) (fun _=> ?_))))
theorem zd5(hp:Heap)(x y:List UInt8):S 56 [.pv none (.str x),.pv none (.str y)] hp=some (.ret (.pv none (.int .i64 (Lib.compareBytes x y))),hp):=by
 refine zaA rfl rfl rfl (zaf [(none,.str x),(none,.str y)]) rfl ?_
 (repeat' (first|(simp -dsimp -implicitDefEqProofs only[go_sem,seval,↓reduceIte,zih, *])|(refine zas (fun _=> ?_) (fun _=> ?_))))
theorem zii(a b:Tm)(ih:∀u,u∈a.args->∀(b:Tm) (hp:Heap),u.size<1000000000->u.fits=true->b.fits=true->S 37 [u.av,b.av] hp=some (.ret (.pv none (.int .i64 (u.cmp b))),hp))
  (ha:a.size<1000000000)(fa:a.fits=true)(fb:b.fits=true)(hlb:a.args.length=b.args.length)(p:PV)(fr:Fr)(Q:AExit->St->Prop)
  (hfr:fr.keep [3,57,58,59]=[(3,.ptr 1 0),(57,.pv none (.sl (some 4) (Tm.pvs a.args))),(58,.pv none (.int .i64 (a.args.length:Int))),(59,.pv none (.int .i64 0))])
  (h:Tm.cmps a.args b.args=0->∀fr hp,Q (.exit 0) ⟨fr,hp⟩)(h':Tm.cmps a.args b.args≠0->∀hp r,Q .ret ⟨(4,.pv none (.int .i64 (Tm.cmps a.args b.args)))::r,hp⟩):
  W (sem (find tab) prim) (sloop (find tab) prim) 0 (.loop [3,57,58,59] c37b27) ⟨fr,[.box (some 4) (.pv (some 4) a.pv),.box (some 4) (.pv (some 4) b.pv),.box (some 4) (.pv (some 4) p)]⟩ Q:=by
 have hts:=a.size_eq
 have hlen:=Tm.zpF a.args
 refine zfc (fun n st=>∃(i:Nat),n=a.args.length - i/\i<=a.args.length/\Tm.cmps a.args b.args=Tm.cmps (a.args.drop i) (b.args.drop i)/\
  st=⟨[(3,.ptr 1 0),(57,.pv none (.sl (some 4) (Tm.pvs a.args))),(58,.pv none (.int .i64 (a.args.length:Int))),(59,.pv none (.int .i64 i))],[.box (some 4) (.pv (some 4) a.pv),.box (some 4) (.pv (some 4) b.pv),.box (some 4) (.pv (some 4) p)]⟩) (n:=a.args.length) ⟨0,rfl,Nat.zero_le _,rfl,?_⟩ ?_
 ·rw[hfr]
  rfl
 ·rintro n st ⟨i,hn,hi,he,rfl⟩
  by_cases hi':i<a.args.length
  ·have hc:(i:Int)<(a.args.length:Int):=by omega
   obtain⟨u,hu⟩:∃u,a.args[i]? =some u:=⟨_,List.getElem?_eq_getElem hi'⟩
   obtain⟨w,hw⟩:∃w,b.args[i]? =some w:=⟨_,List.getElem?_eq_getElem (by omega)⟩
   have hum:=List.mem_of_getElem? hu
   have husz:=Tm.zpK hum
   have hcall:=fun hp=>ih u hum w hp (by omega) (Tm.zpO fa hum) (Tm.zpO fb (List.mem_of_getElem? hw))
   simp only[Tm.av] at hcall
   have w2:IntKind.i64.wrap ((i:Int)+1)=((i+1:Nat):Int):=by rw[zch (by omega) (by omega)];omega
   rw[Tm.zpY hu hw] at he
   by_cases h0:u.cmp w=0
   ·rw[h0,zkV] at he
    simp -dsimp -implicitDefEqProofs only[c37b27,go_sem,seval,↓reduceIte,zao,Tm.pvs_len,hc,zaE (Tm.pvs_get hu),zaE (Tm.pvs_get hw),hcall,w2,h0]
    refine⟨a.args.length - (i+1),by omega,i+1,rfl,by omega,he,?_⟩
    rfl
   ·simp -dsimp -implicitDefEqProofs only[c37b27,go_sem,seval,↓reduceIte,zao,Tm.pvs_len,hc,zaE (Tm.pvs_get hu),zaE (Tm.pvs_get hw),hcall,w2,h0]
    rw[znV h0] at he
    have:=h' (by rw[he];exact h0)
    rw[he] at this
    exact this _ _
  ·have hc:¬(i:Int)<(a.args.length:Int):=by omega
   obtain rfl:i=a.args.length:=by omega
   simp -dsimp -implicitDefEqProofs only[c37b27,go_sem,seval,↓reduceIte,zao,Tm.pvs_len,hc]
   rw[List.drop_length,Tm.zpU] at he
   exact h he _ _

set_option maxHeartbeats 4000000 in
theorem zkY:∀(a b:Tm) (hp:Heap),a.size<1000000000->a.fits=true->b.fits=true->S 37 [a.av,b.av] hp=some (.ret (.pv none (.int .i64 (a.cmp b))),hp):=by
 intro a
 induction a using Tm.zpL with
 |h a ih=>
  intro b hp ha fa fb
  refine zaA rfl rfl rfl (zaf [(some 4,a.pv),(some 4,b.pv)]) rfl ?_
  rw[Tm.zpR]
  have loop:=zii a b ih ha fa fb
  clear ih
  have hb:zcC [(none,(.pv none (.int .i64 (0)))),(none,(.pv none (.int .i64 (0)))),(none,(.pv none (.int .i64 (0)))),(none,(.pv none (.int .i64 (0))))] [0,1,2,3] [.pv none (.int .i64 (0)),.pv none (.int .i64 (1)),.pv none (.int .i64 (2)),.pv none (.int .i64 (3))]=some (.pv (some 4) (.agg [(none,.int .i64 0),(none,.int .i64 1),(none,.int .i64 2),(none,.int .i64 3)])):=rfl
  have h0:∀r:Nat,zbz none 4 [.ptr r 0,.pv none (.int .i64 0)]=some (.ptr r 0):=fun r=>rfl
  have h1:∀r:Nat,zbz none 4 [.ptr r 0,.pv none (.int .i64 1)]=some (.ptr r 1):=fun r=>by rw[zcU none (by decide)];simp[Sh.size]
  have h2:∀r:Nat,zbz none 4 [.ptr r 0,.pv none (.int .i64 2)]=some (.ptr r 2):=fun r=>by rw[zcU none (by decide)];simp[Sh.size]
  have h3:∀r:Nat,zbz none 4 [.ptr r 0,.pv none (.int .i64 3)]=some (.ptr r 3):=fun r=>by rw[zcU none (by decide)];simp[Sh.size]
  have hc:=zmJ
  have hcmp:=zmR
  have hcmp64:=zjr
  have hstr:=zd5
  have fin:Kept (a.name=[]->a.args=[]->b.name=[]->b.args=[]->AV.pv none (.int .i64 (cmpI a.n b.n))=AV.pv none (.int .i64 (if cmpI a.n b.n=0 then if cmpI (a.args.length:Int) (b.args.length:Int)=0 then if Lib.compareBytes a.name b.name=0 then Tm.cmps a.args b.args else Lib.compareBytes a.name b.name else cmpI (a.args.length:Int) (b.args.length:Int) else cmpI a.n b.n))):=by
   intro h1 h2 h3 h4
   rw[h1,h2,h3,h4]
   simp only[show cmpI (([]:List Tm).length:Int) (([]:List Tm).length:Int)=0 from by decide,Lib.compareBytes,Tm.cmps,if_true]
   split <;> simp_all
  have hlen:Kept (cmpI (a.args.length:Int) (b.args.length:Int)=0->a.args.length=b.args.length):=fun h=>by have:=cmpI_zero.1 h;omega
  rcases Tm.zpS fa with⟨ka,xa,ya⟩|⟨ka,xa,ya⟩|⟨ka,xa,ya⟩|⟨ka,xa⟩ <;>
  rcases Tm.zpS fb with⟨kb,xb,yb⟩|⟨kb,xb,yb⟩|⟨kb,xb,yb⟩|⟨kb,xb⟩ <;> (try replace ya:=Kept.mk ya) <;> (try replace yb:=Kept.mk yb) <;> (try replace xa:=Kept.mk (show a.name=[] from xa)) <;> (try replace xb:=Kept.mk (show b.name=[] from xb))
  all_goals (repeat' (first|(simp -dsimp -implicitDefEqProofs only[go_sem,seval,↓reduceIte,zcS,zh7,zcT,zao,Tm.pvs_len,zbC, *])|(refine zas (fun _=> ?_) (fun _=> ?_))))
  all_goals first
   |(exact fin xa ya xb yb)
   |(refine loop (hlen.out (by assumption)) _ _ _ rfl (fun hz fr hp=> ?_) (fun hz hp r=> ?_) <;> simp -dsimp -implicitDefEqProofs only[go_sem,seval,↓reduceIte,zbC,zbS, *])
   |trace_state
end Go.Proofs.Yteaehiceghhajaa
namespace Go.Proofs.Yteaehiceghhajaa
open Go.Am
def zbw(l:List Tm):Bool:=l.all Tm.valid
theorem zgS{l:List Tm}{i:Nat}{t:Tm}(h:l[i]? =some t):zbw (l.take (i+1))=(zbw (l.take i) && t.valid):=by
 unfold zbw
 rw[List.take_add_one,h,List.all_append]
 simp
theorem zfs{l:List Tm}{t:Tm}(h:t∈l)(hv:t.valid=false):zbw l=false:=by
 unfold zbw
 rw[List.all_eq_false]
 exact⟨t,h,by simp[hv]⟩

end Go.Proofs.Yteaehiceghhajaa
namespace Go.Proofs.Yteaehiceghhajaa
open Go.Am
theorem zfk{α:Type}(l r:List α)(k:Nat):(l++r)[l.length+k]? =r[k]? :=by
 rw[List.getElem?_append_right (by omega)]
 congr 1
 omega
theorem zeB{α:Type}(l r:List α):(l++r)[l.length]? =r[0]? :=zfk l r 0
theorem zfl{α:Type}(l r:List α)(k:Nat)(x:α):(l++r).set (l.length+k) x=l++r.set k x:=by
 rw[List.set_append_right _ _ (by omega)]
 congr 2
 omega
theorem zeC{α:Type}(l r:List α)(x:α):(l++r).set l.length x=l++r.set 0 x:=zfl l r 0 x
theorem zen{l:List Tm}(h:zbw l=true){t:Tm}(ht:t∈l):t.valid=true:=List.all_eq_true.1 h t ht
theorem zmS:yes (asem (find tab) prim 60 .fn 14 [] [])=true:=by kernel_rfl
theorem zn2(hp:Heap):S 14 [] hp=some (.ret (.pv none (.bool true)),hp):=
 zgP (ps:=[]) rfl rfl rfl rfl (sem_iff.2 ⟨60,zpi zmS⟩)
theorem zmT(l:List Tm)(hl:Tm.sizes l<1000000000):S 23 [.pv none (.sl (some 4) (Tm.pvs l))] []=some (.ret (.pv none (.bool (zbw l))),[]):=by
 refine zaA rfl rfl rfl (zaf [(none,.sl (some 4) (Tm.pvs l))]) rfl ?_
 have hlen:=Tm.zpF l
 simp -dsimp -implicitDefEqProofs only[go_sem,seval,↓reduceIte]
 refine zfc (fun n st=>∃i:Nat,n=l.length - i/\i<=l.length/\zbw (l.take i)=true/\st=⟨[(0,.pv none (.sl (some 4) (Tm.pvs l))),(3,.pv none (.int .i64 i))],[]⟩) (n:=l.length) ⟨0,rfl,Nat.zero_le _,rfl,?_⟩ ?_
 ·simp -dsimp -implicitDefEqProofs only[go_sem,seval,↓reduceIte]
  try rfl
 ·rintro n st ⟨i,hn,hi,he,rfl⟩
  by_cases h:i<l.length
  ·have hc:(i:Int)<(l.length:Int):=by omega
   obtain⟨u,hu⟩:∃u,l[i]? =some u:=⟨_,List.getElem?_eq_getElem h⟩
   have hum:=List.mem_of_getElem? hu
   have husz:=Tm.zpP hum
   have hcall:=fun hp=>zik u hp (by omega)
   simp only[Tm.av] at hcall
   have w2:IntKind.i64.wrap ((i:Int)+1)=((i+1:Nat):Int):=by rw[zch (by omega) (by omega)];omega
   by_cases h0:u.valid=true
   ·simp -dsimp -implicitDefEqProofs only[go_sem,seval,↓reduceIte,Tm.pvs_len,hc,zaE (Tm.pvs_get hu),hcall,w2,h0]
    exact⟨l.length - (i+1),by omega,i+1,rfl,by omega,by rw[zgS hu,he,h0];rfl,rfl⟩
   ·rw[Bool.not_eq_true] at h0
    simp -dsimp -implicitDefEqProofs only[go_sem,seval,↓reduceIte,Tm.pvs_len,hc,zaE (Tm.pvs_get hu),hcall,w2,h0,zfs hum h0]
  ·have hc:¬(i:Int)<(l.length:Int):=by omega
   obtain rfl:i=l.length:=by omega
   rw[List.take_length] at he
   simp -dsimp -implicitDefEqProofs only[go_sem,seval,↓reduceIte,Tm.pvs_len,hc,he]
def cmpV(a b:Tm):Int:=if a.valid=true then if b.valid=true then a.cmp b else 0 else 0
theorem zd6{t:Tm}(h:t.valid=true):t.fits=true:=by
 unfold Tm.valid at h
 simp at h
 exact h.2
theorem zmU(a b:Tm)(hp:Heap)(ha:a.size<1000000000)(hb:b.size<1000000000):S 12 [a.av,b.av] hp=some (.ret (.pv none (.int .i64 (cmpV a b))),hp):=by
 refine zaA rfl rfl rfl (zaf [(some 4,a.pv),(some 4,b.pv)]) rfl ?_
 have h1:=fun hp=>zj1 a hp ha
 have h2:=fun hp=>zj1 b hp hb
 have h3:=fun hp fa fb=>zkY a b hp ha fa fb
 unfold cmpV
 simp only[Tm.av] at h1 h2 h3
 by_cases va:a.valid=true
 ·by_cases vb:b.valid=true
  ·have h3:=fun hp=>h3 hp (zd6 va) (zd6 vb)
   (repeat' (first|(simp -dsimp -implicitDefEqProofs only[go_sem,seval,↓reduceIte, *])|(refine zas (fun _=> ?_) (fun _=> ?_))))
  ·(repeat' (first|(simp -dsimp -implicitDefEqProofs only[go_sem,seval,↓reduceIte, *])|(refine zas (fun _=> ?_) (fun _=> ?_))))
 ·(repeat' (first|(simp -dsimp -implicitDefEqProofs only[go_sem,seval,↓reduceIte, *])|(refine zas (fun _=> ?_) (fun _=> ?_))))
theorem zpl(l:List Tm)(hl:Tm.sizes l<1000000000)(hp:Heap):S 15 [.pv none (.sl (some 4) (Tm.pvs l))] hp=some (.ret (.sl (some 4) (hp.length+1) (l.take 40).length 0 (l.take 40).length),hp++[.arr (some 4) [] false,.arr (some 4) (Tm.pvs (l.take 40)) false]):=by
 refine zeA rfl rfl rfl rfl ?_
 have hlen:=Tm.zpF l
 simp -dsimp -implicitDefEqProofs only[go_sem,seval,↓reduceIte,zmD (sh:=some 4) (by decide),List.append_assoc,zfk,zeB,zfl,zeC,Nat.add_assoc,List.length_append]
 refine zfc (fun n st=>∃i:Nat,n=l.length - i/\i<=l.length/\i<=40/\st=⟨[(0,.pv none (.sl (some 4) (Tm.pvs l))),(3,.sl (some 4) (hp.length+1) i 0 i),(4,.pv none (.int .i64 i))],hp++[.arr (some 4) [] false,.arr (some 4) (Tm.pvs (l.take i)) false]⟩) (n:=l.length) ⟨0,rfl,Nat.zero_le _,by omega,?_⟩ ?_
 ·simp -dsimp -implicitDefEqProofs only[go_sem,seval,↓reduceIte]
  rfl
 ·rintro n st ⟨i,hn,hi,hi',rfl⟩
  by_cases h:i<l.length
  ·have hc:(i:Int)<(l.length:Int):=by omega
   by_cases h40:i<40
   ·have hc':(i:Int)<40:=by omega
    obtain⟨u,hu⟩:∃u,l[i]? =some u:=⟨_,List.getElem?_eq_getElem h⟩
    have w2:IntKind.i64.wrap ((i:Int)+1)=((i+1:Nat):Int):=by rw[zch (by omega) (by omega)];omega
    have hlm:i+1<=lim:=by unfold lim;omega
    have hti:(Tm.pvs (l.take i)).length=i:=by rw[Tm.pvs_len,List.length_take];omega
    simp -dsimp -implicitDefEqProofs only[go_sem,seval,↓reduceIte,Tm.pvs_len l,hc,hc',zaE (Tm.pvs_get hu),w2,hlm,hti,Tm.zpT hu,List.append_assoc,zfk,zeB,zfl,zeC,Nat.add_assoc,List.length_append]
    refine⟨l.length - (i+1),by omega,i+1,rfl,by omega,by omega,?_⟩
    rw[zc9 (by simp)]
   ·have hc':¬(i:Int)<40:=by omega
    obtain rfl:i=40:=by omega
    have hc:(40:Int)<(l.length:Int):=by omega
    have hc':¬(40:Int)<40:=by omega
    have hti:(l.take 40).length=40:=by simp;omega
    simp -dsimp -implicitDefEqProofs only[go_sem,seval,↓reduceIte,Tm.pvs_len,hc,hc',hti,List.append_assoc,zfk,zeB,zfl,zeC,Nat.add_assoc,List.length_append]
    simp[AV.refsIn]
  ·have hc:¬(i:Int)<(l.length:Int):=by omega
   obtain rfl:i=l.length:=by omega
   have hti:l.take 40=l:=List.take_of_length_le hi'
   simp -dsimp -implicitDefEqProofs only[go_sem,seval,↓reduceIte,Tm.pvs_len,hc,hti,List.take_length,List.append_assoc,zfk,zeB,zfl,zeC,Nat.add_assoc,List.length_append]
   simp[AV.refsIn]

end Go.Proofs.Yteaehiceghhajaa
namespace Go.Proofs.Yteaehiceghhajaa
open Go.Am
def bld(l:List Tm)(i:Nat)(s:List UInt8)(a:Tm):Tm:=.mk 3 0 s (l.take i++a::l.drop i)
theorem zid:∀l:List Tm,Tm.cmps l l=0
 |[]=>by simp[Tm.cmps]
 |x::r=>by rw[Tm.cmps,Tm.zpW,zid r];rfl
theorem zjX(a b:Tm)(B:List Tm):∀A:List Tm,Tm.cmps (A++a::B) (A++b::B)=a.cmp b
 |[]=>by rw[List.nil_append,List.nil_append,Tm.cmps,zid,zjo]
 |x::r=>by rw[List.cons_append,List.cons_append,Tm.cmps,Tm.zpW,zjX a b B r];rfl
theorem zoN(l:List Tm)(i:Nat)(s:List UInt8)(a b:Tm):(bld l i s a).cmp (bld l i s b)=a.cmp b:=by
 rw[Tm.zpR]
 have h:(bld l i s a).args.length=(bld l i s b).args.length:=by simp[bld,Tm.args]
 rw[h,zbS,show(bld l i s a).kind=(bld l i s b).kind from rfl,show(bld l i s a).n=(bld l i s b).n from rfl,show(bld l i s a).name=(bld l i s b).name from rfl,zbS,zbS,(zjp).2 rfl]
 exact zjX a b _ _
theorem znW(l:List Tm)(i:Nat)(s:List UInt8)(a x:Tm):(bld l i s a).cmp (.mk 3 0 [] ((bld l i s a).args++[x]))= -1:=by
 rw[Tm.zpR]
 show zbC (cmpI 3 3) (zbC (cmpI 0 0) (zbC (cmpI ((bld l i s a).args.length:Int) (((bld l i s a).args++[x]).length:Int)) _))= -1
 have h:cmpI ((bld l i s a).args.length:Int) (((bld l i s a).args++[x]).length:Int)= -1:=by
  unfold cmpI
  rw[if_pos (by simp;omega)]
 rw[h]
 rfl
theorem zmN(x:UInt8):∀s:List UInt8,Lib.compareBytes s (s++[x])= -1
 |[]=>rfl
 |c::r=>by
  have:=zmN x r
  simp[Lib.compareBytes,this]
theorem znX(l:List Tm)(i:Nat)(s:List UInt8)(a b:Tm):(bld l i s a).cmp (.mk 3 0 (s++[97]) (bld l i s b).args)= -1:=by
 rw[Tm.zpR]
 show zbC (cmpI 3 3) (zbC (cmpI 0 0) (zbC (cmpI ((bld l i s a).args.length:Int) ((bld l i s b).args.length:Int)) (zbC (Lib.compareBytes s (s++[97])) _)))= -1
 have h:(bld l i s a).args.length=(bld l i s b).args.length:=by simp[bld,Tm.args]
 rw[h,zbS 3,zbS 0,zbS,zmN]
 rfl
end Go.Proofs.Yteaehiceghhajaa
namespace Go.Proofs.Yteaehiceghhajaa
open Go.Am
def agT(s:List UInt8)(q n:Nat):AV:=.agg [(none,.pv none (.int .i64 3)),(none,.pv none (.int .i64 0)),(none,.pv none (.str s)),(none,.sl (some 4) q n 0 n)]
theorem zkW{Γ:Oracle}{b:Nat}{vs:List AV}{hp:Heap}{K:AV->Heap->Prop}{Kp:PV->Heap->Prop}(sh:Sh)(n:Nat):opK (aOp Γ b (.appendn sh n) vs hp) K Kp=zcg (zaB sh hp (vs.drop n)) (fun v hp'=>(vs.take n).all (zbm hp hp')=true/\K v hp'):=by
 show opK (match zaB sh hp (vs.drop n) with|some (v,hp')=>if(vs.take n).all (zbm hp hp')=true then some (OpRes.val v hp') else none|none=>none) K Kp=_
 cases h:zaB sh hp (vs.drop n) with
 |none=>rfl
 |some r=>
  obtain⟨v,hp'⟩:=r
  show opK (if(vs.take n).all (zbm hp hp')=true then some (OpRes.val v hp') else none) K Kp=((vs.take n).all (zbm hp hp')=true/\K v hp')
  by_cases c:(vs.take n).all (zbm hp hp')=true
  ·rw[if_pos c]
   exact propext ⟨fun h=>⟨c,h⟩,fun h=>h.2⟩
  ·rw[if_neg c]
   exact propext ⟨fun h=>h.elim,fun h=>absurd h.1 c⟩
theorem zfh{sh s:Sh}{k:IntKind}{r N n h:Nat}(hh:h<=n):zbK sh false true [.sl sh r N 0 n,.pv s (.int k h)]=some (.sl sh r N 0 h):=by
 have h1:(h:Int)<=(n:Int):=by omega
 simp[zbK,aslice,h1]
theorem zjq{sh s:Sh}{k:IntKind}{r N n h:Nat}(hh:h<=n):zbK sh true false [.sl sh r N 0 n,.pv s (.int k h)]=some (.sl sh r N h (n - h)):=by
 have h1:(h:Int)<=(n:Int):=by omega
 simp[zbK,aslice,h1]
theorem zfi{hp:Heap}{sh s0:Sh}{r N off n:Nat}{es:List PV}{z:Bool}(h:hp[r]? =some (.arr sh es z))(hN:es.length=N)(ho:off+n<=N):elems hp (.sl s0 r N off n)=some (sh,(es.drop off).take n):=by
 simp[elems,h,hN,ho]
 try (intro a b;subst a;subst b;simp[<-hN])
theorem append_own{hp:Heap}{sh s1:Sh}{r n:Nat}{A B:List PV}{x:AV}(h:hp[r]? =some (.arr sh A false))(hn:A.length=n)(hx:elems hp x=some (sh,B))(hl:n+B.length<=lim):zaB sh hp [.sl s1 r n 0 n,x]=some (.sl sh r (n+B.length) 0 (n+B.length),hp.set r (.arr sh (A++B) false)):=by
 subst hn
 simp[zaB,aappend,hx,h,hl]
theorem set_app{X L:Heap}{k:Nat}{y:AObj}:(X++L).set (X.length+k) y=X++L.set k y:=by
 rw[List.set_append_right _ _ (by omega),Nat.add_sub_cancel_left]
theorem get_app{X L:Heap}{k:Nat}:(X++L)[X.length+k]? =L[k]? :=by
 rw[List.getElem?_append_right (by omega),Nat.add_sub_cancel_left]
set_option maxRecDepth 20000 in
theorem zjY(o0 o1 o3 o6:AObj)(X:Heap)(s:List UInt8)(L:List Tm)(es:List PV)(m:Nat)(hm:es.length=m)(hL:es.take L.length=Tm.pvs L)(hl:L.length<=7)(hlm:L.length<=m)(i:Nat)(hi:i<=L.length)(t:Tm):
  S 29 [.pv (some 4) t.pv,.ptr 5 0,.ptr 7 0,.ptr 2 0] (o0::o1::.box none (.pv none (.str s))::o3::.arr (some 4) es false::.box none (.sl (some 4) 4 m 0 L.length)::o6::.box none (.pv none (.int .i64 i))::X)=some (.ret (agT s (X.length+11) (L.length+1)),o0::o1::.box none (.pv none (.str s))::o3::.arr (some 4) es false::.box none (.sl (some 4) 4 m 0 L.length)::o6::.box none (.pv none (.int .i64 i))::(X++[.box (some 4) (.pv (some 4) t.pv),.box (some 4) (agT s (X.length+11) (L.length+1)),.arr (some 4) [] false,.arr (some 4) (Tm.pvs (L.take i++t::L.drop i)) false])):=by
 refine zeA rfl rfl rfl rfl ?_
 have hhi:=zfh (sh:=some 4) (s:=none) (k:=.i64) (r:=4) (N:=m) hi
 have hlo:=zjq (sh:=some 4) (s:=none) (k:=.i64) (r:=4) (N:=m) hi
 have e1:es.take i=Tm.pvs (L.take i):=by
  rw[<-Tm.zpV,<-hL,List.take_take,Nat.min_eq_left hi]
 have e2:(es.drop i).take (L.length - i)=Tm.pvs (L.drop i):=by
  rw[<-Tm.zpZ,<-hL,List.drop_take]
 obtain⟨o2,ho2⟩:∃o2:AObj,o2=.box none (.pv none (.str s)):=⟨_,rfl⟩
 obtain⟨o5,ho5⟩:∃o5:AObj,o5=.box none (.sl (some 4) 4 m 0 L.length):=⟨_,rfl⟩
 obtain⟨o7,ho7⟩:∃o7:AObj,o7=.box none (.pv none (.int .i64 i)):=⟨_,rfl⟩
 have g2:∀(A:List PV) (y0 y1 y2:AObj),(o0::o1::o2::o3::.arr (some 4) es false::o5::o6::o7::(X++[y0,y1,y2,.arr (some 4) A false]))[X.length+11]? =some (.arr (some 4) A false):=fun A y0 y1 y2=>by
  show(X++[y0,y1,y2,.arr (some 4) A false])[X.length+3]? =_
  rw[List.getElem?_append_right (by omega)]
  simp
 have s2:∀(A B:List PV) (y0 y1 y2:AObj),(o0::o1::o2::o3::.arr (some 4) es false::o5::o6::o7::(X++[y0,y1,y2,.arr (some 4) A false])).set (X.length+11) (.arr (some 4) B false)=o0::o1::o2::o3::.arr (some 4) es false::o5::o6::o7::(X++[y0,y1,y2,.arr (some 4) B false]):=fun A B y0 y1 y2=>by
  simp
 have hap1:∀(y0 y1 y2:AObj),zaB (some 4) (o0::o1::o2::o3::.arr (some 4) es false::o5::o6::o7::(X++[y0,y1,y2,.arr (some 4) [] false])) [.sl (some 4) (X.length+11) 0 0 0,.sl (some 4) 4 m 0 i]=some (.sl (some 4) (X.length+11) i 0 i,o0::o1::o2::o3::.arr (some 4) es false::o5::o6::o7::(X++[y0,y1,y2,.arr (some 4) (Tm.pvs (L.take i)) false])):=fun y0 y1 y2=>by
  have hx:=zfi (hp:=o0::o1::o2::o3::.arr (some 4) es false::o5::o6::o7::(X++[y0,y1,y2,.arr (some 4) [] false])) (s0:=some 4) (r:=4) (N:=m) (off:=0) (n:=i) rfl hm (by omega)
  rw[List.drop_zero,e1] at hx
  have hil:(Tm.pvs (L.take i)).length=i:=by rw[Tm.pvs_len,List.length_take];omega
  have ha:=append_own (s1:=some 4) (n:=0) (g2 [] y0 y1 y2) rfl hx (by rw[hil];unfold lim;omega)
  rw[ha,s2,hil,Nat.zero_add]
  rfl
 have hap2:∀(A:List PV) (p:PV) (y0 y1 y2:AObj),A.length=i->zaB (some 4) (o0::o1::o2::o3::.arr (some 4) es false::o5::o6::o7::(X++[y0,y1,y2,.arr (some 4) A false])) [.sl (some 4) (X.length+11) i 0 i,.tsl (some 4) [p]]=some (.sl (some 4) (X.length+11) (i+1) 0 (i+1),o0::o1::o2::o3::.arr (some 4) es false::o5::o6::o7::(X++[y0,y1,y2,.arr (some 4) (A++[p]) false])):=fun A p y0 y1 y2 hA=>by
  rw[append_own (g2 A y0 y1 y2) hA (B:=[p]) rfl (by simp;unfold lim;omega),s2]
  simp
 have hap3:∀(A:List PV) (y0 y1 y2:AObj),A.length=i+1->zaB (some 4) (o0::o1::o2::o3::.arr (some 4) es false::o5::o6::o7::(X++[y0,y1,y2,.arr (some 4) A false])) [.sl (some 4) (X.length+11) (i+1) 0 (i+1),.sl (some 4) 4 m i (L.length - i)]=some (.sl (some 4) (X.length+11) (L.length+1) 0 (L.length+1),o0::o1::o2::o3::.arr (some 4) es false::o5::o6::o7::(X++[y0,y1,y2,.arr (some 4) (A++Tm.pvs (L.drop i)) false])):=fun A y0 y1 y2 hA=>by
  have hx:=zfi (hp:=o0::o1::o2::o3::.arr (some 4) es false::o5::o6::o7::(X++[y0,y1,y2,.arr (some 4) A false])) (s0:=some 4) (r:=4) (N:=m) (off:=i) (n:=L.length - i) rfl hm (by omega)
  rw[e2] at hx
  have hil:(Tm.pvs (L.drop i)).length=L.length - i:=by rw[Tm.pvs_len,List.length_drop]
  rw[append_own (g2 A y0 y1 y2) hA hx (by rw[hil];unfold lim;omega),s2,hil,show i+1+(L.length - i)=L.length+1 by omega]
 have hA1:(Tm.pvs (L.take i)).length=i:=by rw[Tm.pvs_len,List.length_take];omega
 have hA2:(Tm.pvs (L.take i)++[t.pv]).length=i+1:=by simp[hA1]
 have hargs:Tm.pvs (L.take i)++[t.pv]++Tm.pvs (L.drop i)=Tm.pvs (L.take i++t::L.drop i):=by
  rw[Tm.zpM,List.append_assoc]
  rfl
 have hb:∀(a:AV),zcC [(none,.pv none (.int .i64 0)),(none,.pv none (.int .i64 0)),(none,.pv none (.str [])),(none,.tsl (some 4) [])] [0,2,3] [.pv none (.int .i64 3),.pv none (.str s),.sl (some 4) (X.length+11) (L.length+1) 0 (L.length+1)]=some (agT s (X.length+11) (L.length+1)):=fun _=>rfl
 have hb:=hb .undef
 have hst:∀(v:AV) (y0 y2 y3:AObj),zba (some 4) (X.length+8) (o0::o1::o2::o3::.arr (some 4) es false::o5::o6::o7::(X++[y0,.box (some 4) v,y2,y3])) [.ptr (X.length+9) 0,agT s (X.length+11) (L.length+1)]=some (.undef,o0::o1::o2::o3::.arr (some 4) es false::o5::o6::o7::(X++[y0,.box (some 4) (agT s (X.length+11) (L.length+1)),y2,y3])):=fun v y0 y2 y3=>by
  have g:(X++[y0,.box (some 4) v,y2,y3])[X.length+1]? =some (.box (some 4) v):=by
   rw[List.getElem?_append_right (by omega)]
   simp
  have sg:∀w,(X++[y0,.box (some 4) v,y2,y3]).set (X.length+1) w=X++[y0,w,y2,y3]:=fun w=>by
   rw[List.set_append_right _ _ (by omega)]
   simp
  have f5:∀Y,(agT s (X.length+11) (L.length+1)).own Y=(agT s (X.length+11) (L.length+1),Y):=fun _=>rfl
  have f6:(agT s (X.length+11) (L.length+1)).plain=true:=rfl
  have f7:(agT s (X.length+11) (L.length+1)).shp=some 4:=rfl
  simp[zba,astore,f5,f6,f7,g,sg]
 have hsm:∀(Y Z:Heap),zbm (o0::o1::o2::o3::.arr (some 4) es false::o5::o6::o7::Y) (o0::o1::o2::o3::.arr (some 4) es false::o5::o6::o7::Z) (.ptr 2 0)=true:=fun Y Z=>by
  rw[ho2]
  simp[zbm,AObj.beq,AV.beq,PV.beq]
 have gr:∀(y0 y2 y3:AObj) (v:AV),(X++[y0,.box (some 4) v,y2,y3])[X.length+1]? =some (.box (some 4) v):=fun y0 y2 y3 v=>by
  rw[List.getElem?_append_right (by omega)]
  simp
 have l2:∀Y:Heap,(o0::o1::o2::o3::.arr (some 4) es false::o5::o6::o7::Y)[2]? =some (.box none (.pv none (.str s))):=fun Y=>by rw[ho2];rfl
 have l5:∀Y:Heap,(o0::o1::o2::o3::.arr (some 4) es false::o5::o6::o7::Y)[5]? =some (.box none (.sl (some 4) 4 m 0 L.length)):=fun Y=>by rw[ho5];rfl
 have l7:∀Y:Heap,(o0::o1::o2::o3::.arr (some 4) es false::o5::o6::o7::Y)[7]? =some (.box none (.pv none (.int .i64 i))):=fun Y=>by rw[ho7];rfl
 rw[<-ho2,<-ho5,<-ho7]
 have gx:∀(Y:Heap) (y:AObj),(X++y::Y)[X.length]? =some y:=fun Y y=>by simp
 simp -dsimp -implicitDefEqProofs only[go_sem,seval,↓reduceIte,l2,l5,l7,gx,hhi,hlo,hap1,hap2 _ _ _ _ _ hA1,hap3 _ _ _ _ hA2,hargs,hb,hst,hsm,gr,zkW,List.take_succ_cons,List.drop_succ_cons,List.all_cons,List.all_nil,zmD (sh:=some 4) (by decide),set_app,List.append_assoc,Nat.add_assoc,List.length_append]
 rw[if_neg]
 have e:(agT s (X.length+11) (L.length+1)).refsIn=[X.length+11]:=rfl
 simp[e]
end Go.Proofs.Yteaehiceghhajaa
namespace Go.Proofs.Yteaehiceghhajaa
open Go.Am
def IsT(v:AV)(H:Heap)(t:Tm):Prop:=v=t.av\/∃s q n l z,v=agT s q n/\t=.mk 3 0 s l/\H[q]? =some (.arr (some 4) (Tm.pvs l) z)/\l.length=n
theorem IsT.frz{v:AV}{H:Heap}{t:Tm}(h:IsT v H t):∃H',AV.freeze deep v H=some (t.pv,H')/\v.shp=some 4/\∀v' t',IsT v' H t'->IsT v' H' t':=by
 rcases h with rfl|⟨s,q,n,l,z,rfl,rfl,h,hn⟩
 ·exact⟨H,rfl,rfl,fun _ _ k=>k⟩
 ·have hlt:=(List.getElem?_eq_some_iff.1 h).1
  refine⟨H.set q (.arr (some 4) (Tm.pvs l) true),?_,rfl,?_⟩
  ·have e:∀l hp,AV.freeze (7+1) (.agg l) hp=match AV.freeze.go 7 l hp with|some (ps,hp')=>some (.agg ps,hp')|none=>none:=fun _ _=>rfl
   have hl:(Tm.pvs l).length=n:=by rw[Tm.pvs_len,hn]
   show AV.freeze (7+1) (.agg _) H=_
   simp[e,AV.freeze.go,AV.freeze,h,hl,Tm.pv]
  ·rintro v' t' (rfl|⟨s',q',n',l',z',rfl,rfl,h',hn'⟩)
   ·exact .inl rfl
   ·refine .inr ⟨s',q',n',l',?_⟩
    by_cases hq:q=q'
    ·subst hq
     rw[h] at h'
     have e:Tm.pvs l=Tm.pvs l':=by
      injection h' with h'
      injection h'
     exact⟨true,rfl,rfl,by rw[List.getElem?_set_self hlt,e],hn'⟩
    ·exact⟨z',rfl,rfl,by rw[List.getElem?_set_ne hq];exact h',hn'⟩
theorem zoO{v w:AV}{H:Heap}{t u:Tm}(h1:IsT v H t)(h2:IsT w H u)(z1:t.size<1000000000)(z2:u.size<1000000000):S 12 [v,w] H=some (.ret (.pv none (.int .i64 (cmpV t u))),H):=by
 obtain⟨H1,f1,g1,k1⟩:=h1.frz
 obtain⟨H2,f2,g2,_⟩:=(k1 _ _ h2).frz
 exact zgP (F:=find tab) (prim:=prim) (f:=12) (ps:=[(some 4,t.pv),(some 4,u.pv)]) (hp1:=H2) rfl rfl rfl (by simp only[zam,f1,f2,g1,g2]) (zmU t u [] z1 z2)
theorem zmO{v:AV}{H:Heap}{t:Tm}(h1:IsT v H t)(z1:t.size<1000000000):S 31 [v] H=some (.ret (.pv none (.bool t.valid)),H):=by
 obtain⟨H1,f1,g1,k1⟩:=h1.frz
 exact zgP (F:=find tab) (prim:=prim) (f:=31) (ps:=[(some 4,t.pv)]) (hp1:=H1) rfl rfl rfl (by simp only[zam,f1,g1]) (zik t [] z1)
theorem x_ok(hp:Heap):S 30 [.pv none (.int .i64 0)] hp=some (.ret (Tm.mk 0 0 [] []).av,hp):=by
 refine zaA rfl rfl rfl (zaf [(none,.int .i64 0)]) rfl ?_
 have hb:zcC [(none,.pv none (.int .i64 0)),(none,.pv none (.int .i64 0)),(none,.pv none (.str [])),(none,.tsl (some 4) [])] [1] [.pv none (.int .i64 0)]=some (.agg [(none,.pv none (.int .i64 0)),(none,.pv none (.int .i64 0)),(none,.pv none (.str [])),(none,.tsl (some 4) [])]):=rfl
 simp -dsimp -implicitDefEqProofs only[go_sem,seval,↓reduceIte,hb,zbr (Nat.zero_le _)]
 exact⟨_,rfl⟩
theorem zbU(s s0:Sh)(r v o n:Nat)(l:List (Sh × AV))(hp:Heap):zag ((s,.sl s0 r v o n)::l) hp=zfd (s,.sl s0 r v o n) (zag l hp):=rfl
theorem zan:∀t:Tm,PV.beq t.pv t.pv=true:=by
 intro t
 induction t using Tm.zpL with
 |h t ih=>
  cases t with
  |mk k n s ts=>
   have:∀l:List Tm,(∀u∈l,PV.beq u.pv u.pv=true)->PV.beqs (Tm.pvs l) (Tm.pvs l)=true:=by
    intro l
    induction l with
    |nil=>intro _;rfl
    |cons x r ihr=>intro h;simp only[Tm.pvs,PV.beqs,h x (by simp),ihr (fun u hu=>h u (by simp[hu])),Bool.and_self]
   simp[Tm.pv,PV.beq,PV.beqc,this ts ih]
def Bq(hp:Heap):Prop:=∀x∈hp,AObj.beq x x=true
theorem Bq.same:∀{hp:Heap},Bq hp->zaT hp hp=true
 |[],_=>rfl
 |x::r,h=>by
  show(AObj.beq x x && zaT r r)=true
  rw[h x List.mem_cons_self,Bq.same (hp:=r) fun y hy=>h y (List.mem_cons_of_mem _ hy)]
  rfl
theorem Bq.cons{x:AObj}{b:Heap}(h1:AObj.beq x x=true)(h2:Bq b):Bq (x::b):=fun y hy=>(List.mem_cons.1 hy).elim (fun e=>e▸h1) (h2 y)
theorem Bq.nil:Bq []:=fun _ h=>by cases h
theorem Bq.set{hp:Heap}(h:Bq hp)(i:Nat){x:AObj}(hx:AObj.beq x x=true):Bq (hp.set i x):=fun y hy=>by
 rcases List.mem_or_eq_of_mem_set hy with h1|rfl
 ·exact h y h1
 ·exact hx
theorem znY{es:List PV}(h:∀x∈es,PV.beq x x=true):PV.beqs es es=true:=by
 induction es with
 |nil=>rfl
 |cons x r ih=>
  show(PV.beq x x && PV.beqs r r)=true
  rw[h x List.mem_cons_self,ih fun y hy=>h y (List.mem_cons_of_mem _ hy)]
  rfl
def gK(r:Option (ARes × Heap))(hp:Heap)(K:AV->Heap->Prop):Prop:=match r with
 |some (.ret v,hp')=>zaT (hp'.take hp.length) hp=true/\K v hp'
 |_=>False
theorem zmP{Γ:Oracle}{b:Nat}{s:Sh}{f:FuncId}{vs:List AV}{hp:Heap}{K:AV->Heap->Prop}{Kp:PV->Heap->Prop}:opK (aOp Γ b .callg (.pv s (.func (.func f))::vs) hp) K Kp=gK (Γ .fn f vs hp) hp K:=by
 unfold gK
 simp only[aOp,zd8,zcB,zaO,List.nil_append,List.append_nil]
 cases Γ .fn f vs hp with
 |none=>rfl
 |some r=>
  obtain⟨r,hp'⟩:=r
  cases r with
  |panic p=>rfl
  |ret v=>
   by_cases h:zaT (hp'.take hp.length) hp=true
   ·simp only[h,if_true,true_and]
    rfl
   ·have h':zaT (hp'.take hp.length) hp=false:=by simpa using h
    simp only[h',Bool.false_eq_true,if_false,false_and]
    rfl
theorem zie{v:AV}{hp hp':Heap}{K:AV->Heap->Prop}:gK (some (.ret v,hp')) hp K=(zaT (hp'.take hp.length) hp=true/\K v hp'):=rfl
theorem zif{Γ:Oracle}{b:Nat}{f:FuncId}{fs cs vs:List AV}{hp:Heap}{K:AV->Heap->Prop}{Kp:PV->Heap->Prop}:opK (aOp Γ b .callg (.func (.func f) fs cs::vs) hp) K Kp=gK (Γ .fn f (fs++vs++cs) hp) hp K:=by
 unfold gK
 simp only[aOp,zd8,zcB,zaO]
 cases Γ .fn f (fs++vs++cs) hp with
 |none=>rfl
 |some r=>
  obtain⟨r,hp'⟩:=r
  cases r with
  |panic p=>rfl
  |ret v=>
   by_cases h:zaT (hp'.take hp.length) hp=true
   ·simp only[h,if_true,true_and]
    rfl
   ·have h':zaT (hp'.take hp.length) hp=false:=by simpa using h
    simp only[h',Bool.false_eq_true,if_false,false_and]
    rfl
end Go.Proofs.Yteaehiceghhajaa
namespace Go.Proofs.Yteaehiceghhajaa
open Go.Am
theorem zig{t u:Tm}(h:t.valid=true)(hu:u∈t.args):u.valid=true:=by
 unfold Tm.valid at h ⊢
 simp only[Bool.and_eq_true,decide_eq_true_eq] at h ⊢
 exact⟨by have:=Tm.zpK hu;omega,Tm.zpO h.2 hu⟩
theorem zaI(l:List Tm):PV.beqs (Tm.pvs l) (Tm.pvs l)=true:=znY fun x hx=>by
 rw[Tm.zpJ] at hx
 obtain⟨t,_,rfl⟩:=List.mem_map.1 hx
 exact zan t
def tl7:ACode:=(.seq (.region true c7r5 [5,6,7,11,12]) (.seq (.region true c7r6 [5,6,7,13]) (.seq (.region false c7r7 [5,6,7,14,15]) (.seq (.seq (.region true c7r8 [5,6,7,14,15,42]) c7k10) (.seq (.seq (.region true c7r11 [7,14,15,50]) c7k13) (.seq (.region true c7r14 [7,14,15,16]) (.seq (.seq (.region true c7r15 [7,14,15,65]) c7k17) (.seq (.region true c7r18 [14,17]) (.seq (.region true c7r19 [10]) .ret)))))))))
theorem c7_eq:c7=(.seq (.region true c7r0 [3,4,5,6,7]) (.seq (.region true c7r1 [4,5,6,7,11]) (.seq (.seq (.region true c7r2 [4,5,6,7,11,22]) c7k4) tl7))):=rfl
set_option maxRecDepth 40000 in
set_option maxHeartbeats 4000000 in
theorem zmQ(a b:Tm)(s:List UInt8)(L:List Tm)(es:List PV)(m:Nat)(kn:Nat)(hkn:kn<256)(ha:a.size<=2000000)(hb:b.size<=2000000)(hLs:Tm.sizes L<=2000000)(hm:es.length=m)(hL:es.take L.length=Tm.pvs L)(hl:L.length<=7)(hlm:L.length<=m)(hes:PV.beqs es es=true)(E:List (Nat × AV)):
  W Z Go.Proofs.Yteaehiceghhajaa.L 0 tl7 ⟨(4,.pv none (.int .u8 kn))::(5,.ptr 0 0)::(6,.ptr 1 0)::(7,.ptr 2 0)::(11,.ptr 5 0)::E,[.box (some 4) (.pv (some 4) a.pv),.box (some 4) (.pv (some 4) b.pv),.box none (.pv none (.str s)),.arr (some 4) [] false,.arr (some 4) es false,.box none (.sl (some 4) 4 m 0 L.length),.arr (some 4) [] false]⟩ (endK [(10,none)] (fun v' h'=>v'=.pv none (.bool true)/\(if(AV.pv none (.bool true)).refsIn.all (fun q=>decide (q<0))=true then h'.take 0 else h')=[])):=by
 obtain⟨i,hi0⟩:∃i,i=kn % (L.length+1):=⟨_,rfl⟩
 have hi:i<=L.length:=by have:=Nat.mod_lt kn (show 0<L.length+1 by omega);omega
 have hrem:Int.tmod ((kn:Nat):Int) ((L.length+1:Nat):Int)=(i:Int):=by rw[hi0];rfl
 have hrem:Int.tmod ((kn:Nat):Int) ((L.length:Int)+1)=(i:Int):=hrem
 have hne:¬((L.length:Int)+1)=0:=by omega
 have w1:IntKind.i64.wrap ((kn:Nat):Int)=((kn:Nat):Int):=zch (by omega) (by omega)
 have w2:IntKind.i64.wrap ((L.length:Int)+1)=(L.length:Int)+1:=zch (by omega) (by omega)
 have hb1:=fun X=>zjY (.box (some 4) (.pv (some 4) a.pv)) (.box (some 4) (.pv (some 4) b.pv)) (.arr (some 4) [] false) (.arr (some 4) [] false) X s L es m hm hL hl hlm i hi a
 have hb2:=fun X=>zjY (.box (some 4) (.pv (some 4) a.pv)) (.box (some 4) (.pv (some 4) b.pv)) (.arr (some 4) [] false) (.arr (some 4) [] false) X s L es m hm hL hl hlm i hi b
 obtain⟨U,hU⟩:∃U,U=bld L i s a:=⟨_,rfl⟩
 obtain⟨V,hV⟩:∃V,V=bld L i s b:=⟨_,rfl⟩
 obtain⟨M,hM⟩:∃M:Tm,M=.mk 3 0 [] ((L.take i++a::L.drop i)++[.mk 0 0 [] []]):=⟨_,rfl⟩
 obtain⟨G,hG⟩:∃G:Tm,G=.mk 3 0 (s++[97]) (L.take i++b::L.drop i):=⟨_,rfl⟩
 have zL1:=Tm.zpG L i
 have zA:∀t:Tm,Tm.sizes (L.take i++t::L.drop i)=Tm.sizes L+t.size:=fun t=>by
  have h:=Tm.zpE (L.take i) (L.drop i)
  rw[List.take_append_drop] at h
  rw[Tm.zpE,h]
  simp only[Tm.sizes]
  omega
 have zU:U.size<=4000001:=by rw[hU];show 1+Tm.sizes (L.take i++a::L.drop i)<=_;rw[zA];omega
 have zV:V.size<=4000001:=by rw[hV];show 1+Tm.sizes (L.take i++b::L.drop i)<=_;rw[zA];omega
 have zG:G.size<=4000001:=by rw[hG];show 1+Tm.sizes (L.take i++b::L.drop i)<=_;rw[zA];omega
 have zM:M.size<=4000002:=by
  rw[hM]
  show 1+Tm.sizes ((L.take i++a::L.drop i)++[.mk 0 0 [] []])<=_
  rw[Tm.zpE,zA]
  have:Tm.sizes [Tm.mk 0 0 [] []]=1:=rfl
  omega
 have nU:(L.take i++a::L.drop i).length=L.length+1:=by simp;omega
 have nV:(L.take i++b::L.drop i).length=L.length+1:=by simp;omega
 have nM:((L.take i++a::L.drop i)++[Tm.mk 0 0 [] []]).length=L.length+1+1:=by rw[List.length_append,nU];rfl
 have pM:Tm.pvs ((L.take i++a::L.drop i)++[Tm.mk 0 0 [] []])=Tm.pvs (L.take i++a::L.drop i)++[(Tm.mk 0 0 [] []).pv]:=by rw[Tm.zpM];rfl
 have fz:∀T:Heap,zam [.agg [(none,.pv none (.int .i64 3)),(none,.pv none (.int .i64 0)),(none,.pv none (.str s)),(none,.sl (some 4) 11 (L.length+1) 0 (L.length+1))],.agg [(none,.pv none (.int .i64 3)),(none,.pv none (.int .i64 0)),(none,.pv none (.str s)),(none,.sl (some 4) 15 (L.length+1) 0 (L.length+1))]] (.box (some 4) (.pv (some 4) a.pv)::.box (some 4) (.pv (some 4) b.pv)::.box none (.pv none (.str s))::.arr (some 4) [] false::.arr (some 4) es false::.box none (.sl (some 4) 4 m 0 L.length)::.arr (some 4) [] false::.box none (.pv none (.int .i64 i))::.box (some 4) (.pv (some 4) a.pv)::.box (some 4) (.agg [(none,.pv none (.int .i64 3)),(none,.pv none (.int .i64 0)),(none,.pv none (.str s)),(none,.sl (some 4) 11 (L.length+1) 0 (L.length+1))])::.arr (some 4) [] false::.arr (some 4) (Tm.pvs (L.take i++a::L.drop i)) false::.box (some 4) (.pv (some 4) b.pv)::.box (some 4) (.agg [(none,.pv none (.int .i64 3)),(none,.pv none (.int .i64 0)),(none,.pv none (.str s)),(none,.sl (some 4) 15 (L.length+1) 0 (L.length+1))])::.arr (some 4) [] false::.arr (some 4) (Tm.pvs (L.take i++b::L.drop i)) false::T)=some ([(some 4,U.pv),(some 4,V.pv)],.box (some 4) (.pv (some 4) a.pv)::.box (some 4) (.pv (some 4) b.pv)::.box none (.pv none (.str s))::.arr (some 4) [] false::.arr (some 4) es false::.box none (.sl (some 4) 4 m 0 L.length)::.arr (some 4) [] false::.box none (.pv none (.int .i64 i))::.box (some 4) (.pv (some 4) a.pv)::.box (some 4) (.agg [(none,.pv none (.int .i64 3)),(none,.pv none (.int .i64 0)),(none,.pv none (.str s)),(none,.sl (some 4) 11 (L.length+1) 0 (L.length+1))])::.arr (some 4) [] false::.arr (some 4) (Tm.pvs (L.take i++a::L.drop i)) true::.box (some 4) (.pv (some 4) b.pv)::.box (some 4) (.agg [(none,.pv none (.int .i64 3)),(none,.pv none (.int .i64 0)),(none,.pv none (.str s)),(none,.sl (some 4) 15 (L.length+1) 0 (L.length+1))])::.arr (some 4) [] false::.arr (some 4) (Tm.pvs (L.take i++b::L.drop i)) true::T):=fun T=>by
  have lU:(Tm.pvs (L.take i++a::L.drop i)).length=L.length+1:=by rw[Tm.pvs_len,nU]
  have lV:(Tm.pvs (L.take i++b::L.drop i)).length=L.length+1:=by rw[Tm.pvs_len,nV]
  rw[hU,hV]
  have e:∀l hp,AV.freeze (7+1) (.agg l) hp=match AV.freeze.go 7 l hp with|some (ps,hp')=>some (.agg ps,hp')|none=>none:=fun _ _=>rfl
  simp[zam,deep,e,AV.freeze.go,AV.freeze,lU,lV,AV.shp,total,Sh.size,bld,Tm.pv]
 have hc1:∀T:Heap,S 12 [.agg [(none,.pv none (.int .i64 3)),(none,.pv none (.int .i64 0)),(none,.pv none (.str s)),(none,.sl (some 4) 11 (L.length+1) 0 (L.length+1))],.agg [(none,.pv none (.int .i64 3)),(none,.pv none (.int .i64 0)),(none,.pv none (.str s)),(none,.sl (some 4) 15 (L.length+1) 0 (L.length+1))]] (.box (some 4) (.pv (some 4) a.pv)::.box (some 4) (.pv (some 4) b.pv)::.box none (.pv none (.str s))::.arr (some 4) [] false::.arr (some 4) es false::.box none (.sl (some 4) 4 m 0 L.length)::.arr (some 4) [] false::.box none (.pv none (.int .i64 i))::.box (some 4) (.pv (some 4) a.pv)::.box (some 4) (.agg [(none,.pv none (.int .i64 3)),(none,.pv none (.int .i64 0)),(none,.pv none (.str s)),(none,.sl (some 4) 11 (L.length+1) 0 (L.length+1))])::.arr (some 4) [] false::.arr (some 4) (Tm.pvs (L.take i++a::L.drop i)) true::.box (some 4) (.pv (some 4) b.pv)::.box (some 4) (.agg [(none,.pv none (.int .i64 3)),(none,.pv none (.int .i64 0)),(none,.pv none (.str s)),(none,.sl (some 4) 15 (L.length+1) 0 (L.length+1))])::.arr (some 4) [] false::.arr (some 4) (Tm.pvs (L.take i++b::L.drop i)) true::T)=some (.ret (.pv none (.int .i64 (cmpV U V))),.box (some 4) (.pv (some 4) a.pv)::.box (some 4) (.pv (some 4) b.pv)::.box none (.pv none (.str s))::.arr (some 4) [] false::.arr (some 4) es false::.box none (.sl (some 4) 4 m 0 L.length)::.arr (some 4) [] false::.box none (.pv none (.int .i64 i))::.box (some 4) (.pv (some 4) a.pv)::.box (some 4) (.agg [(none,.pv none (.int .i64 3)),(none,.pv none (.int .i64 0)),(none,.pv none (.str s)),(none,.sl (some 4) 11 (L.length+1) 0 (L.length+1))])::.arr (some 4) [] false::.arr (some 4) (Tm.pvs (L.take i++a::L.drop i)) true::.box (some 4) (.pv (some 4) b.pv)::.box (some 4) (.agg [(none,.pv none (.int .i64 3)),(none,.pv none (.int .i64 0)),(none,.pv none (.str s)),(none,.sl (some 4) 15 (L.length+1) 0 (L.length+1))])::.arr (some 4) [] false::.arr (some 4) (Tm.pvs (L.take i++b::L.drop i)) true::T):=fun T=>
  zoO (t:=U) (u:=V) (.inr ⟨s,11,L.length+1,_,true,rfl,hU,rfl,nU⟩) (.inr ⟨s,15,L.length+1,_,true,rfl,hV,rfl,nV⟩) (by omega) (by omega)
 have hc2:∀T:Heap,S 12 [.agg [(none,.pv none (.int .i64 3)),(none,.pv none (.int .i64 0)),(none,.pv none (.str s)),(none,.sl (some 4) 11 (L.length+1) 0 (L.length+1))],.agg [(none,.pv none (.int .i64 3)),(none,.pv none (.int .i64 0)),(none,.pv none (.str [])),(none,.sl (some 4) 20 (L.length+1+1) 0 (L.length+1+1))]] (.box (some 4) (.pv (some 4) a.pv)::.box (some 4) (.pv (some 4) b.pv)::.box none (.pv none (.str s))::.arr (some 4) [] false::.arr (some 4) es false::.box none (.sl (some 4) 4 m 0 L.length)::.arr (some 4) [] false::.box none (.pv none (.int .i64 i))::.box (some 4) (.pv (some 4) a.pv)::.box (some 4) (.agg [(none,.pv none (.int .i64 3)),(none,.pv none (.int .i64 0)),(none,.pv none (.str s)),(none,.sl (some 4) 11 (L.length+1) 0 (L.length+1))])::.arr (some 4) [] false::.arr (some 4) (Tm.pvs (L.take i++a::L.drop i)) true::.box (some 4) (.pv (some 4) b.pv)::.box (some 4) (.agg [(none,.pv none (.int .i64 3)),(none,.pv none (.int .i64 0)),(none,.pv none (.str s)),(none,.sl (some 4) 15 (L.length+1) 0 (L.length+1))])::.arr (some 4) [] false::.arr (some 4) (Tm.pvs (L.take i++b::L.drop i)) true::.box (some 4) (.agg [(none,.pv none (.int .i64 3)),(none,.pv none (.int .i64 0)),(none,.pv none (.str s)),(none,.sl (some 4) 11 (L.length+1) 0 (L.length+1))])::.arr (some 4) [] false::.box (some 4) (.agg [(none,.pv none (.int .i64 3)),(none,.pv none (.int .i64 0)),(none,.pv none (.str s)),(none,.sl (some 4) 15 (L.length+1) 0 (L.length+1))])::.arr (some 4) [] false::.arr (some 4) ((Tm.pvs (L.take i++a::L.drop i))++[(Tm.mk 0 0 [] []).pv]) false::T)=some (.ret (.pv none (.int .i64 (cmpV U M))),.box (some 4) (.pv (some 4) a.pv)::.box (some 4) (.pv (some 4) b.pv)::.box none (.pv none (.str s))::.arr (some 4) [] false::.arr (some 4) es false::.box none (.sl (some 4) 4 m 0 L.length)::.arr (some 4) [] false::.box none (.pv none (.int .i64 i))::.box (some 4) (.pv (some 4) a.pv)::.box (some 4) (.agg [(none,.pv none (.int .i64 3)),(none,.pv none (.int .i64 0)),(none,.pv none (.str s)),(none,.sl (some 4) 11 (L.length+1) 0 (L.length+1))])::.arr (some 4) [] false::.arr (some 4) (Tm.pvs (L.take i++a::L.drop i)) true::.box (some 4) (.pv (some 4) b.pv)::.box (some 4) (.agg [(none,.pv none (.int .i64 3)),(none,.pv none (.int .i64 0)),(none,.pv none (.str s)),(none,.sl (some 4) 15 (L.length+1) 0 (L.length+1))])::.arr (some 4) [] false::.arr (some 4) (Tm.pvs (L.take i++b::L.drop i)) true::.box (some 4) (.agg [(none,.pv none (.int .i64 3)),(none,.pv none (.int .i64 0)),(none,.pv none (.str s)),(none,.sl (some 4) 11 (L.length+1) 0 (L.length+1))])::.arr (some 4) [] false::.box (some 4) (.agg [(none,.pv none (.int .i64 3)),(none,.pv none (.int .i64 0)),(none,.pv none (.str s)),(none,.sl (some 4) 15 (L.length+1) 0 (L.length+1))])::.arr (some 4) [] false::.arr (some 4) ((Tm.pvs (L.take i++a::L.drop i))++[(Tm.mk 0 0 [] []).pv]) false::T):=fun T=>
  zoO (t:=U) (u:=M) (.inr ⟨s,11,L.length+1,_,true,rfl,hU,rfl,nU⟩) (.inr ⟨[],20,L.length+1+1,_,false,rfl,hM,by rw[pM];rfl,nM⟩) (by omega) (by omega)
 have hc3:∀T:Heap,S 12 [.agg [(none,.pv none (.int .i64 3)),(none,.pv none (.int .i64 0)),(none,.pv none (.str s)),(none,.sl (some 4) 11 (L.length+1) 0 (L.length+1))],.agg [(none,.pv none (.int .i64 3)),(none,.pv none (.int .i64 0)),(none,.pv none (.str (s++[97]))),(none,.sl (some 4) 15 (L.length+1) 0 (L.length+1))]] (.box (some 4) (.pv (some 4) a.pv)::.box (some 4) (.pv (some 4) b.pv)::.box none (.pv none (.str s))::.arr (some 4) [] false::.arr (some 4) es false::.box none (.sl (some 4) 4 m 0 L.length)::.arr (some 4) [] false::.box none (.pv none (.int .i64 i))::.box (some 4) (.pv (some 4) a.pv)::.box (some 4) (.agg [(none,.pv none (.int .i64 3)),(none,.pv none (.int .i64 0)),(none,.pv none (.str s)),(none,.sl (some 4) 11 (L.length+1) 0 (L.length+1))])::.arr (some 4) [] false::.arr (some 4) (Tm.pvs (L.take i++a::L.drop i)) true::.box (some 4) (.pv (some 4) b.pv)::.box (some 4) (.agg [(none,.pv none (.int .i64 3)),(none,.pv none (.int .i64 0)),(none,.pv none (.str s)),(none,.sl (some 4) 15 (L.length+1) 0 (L.length+1))])::.arr (some 4) [] false::.arr (some 4) (Tm.pvs (L.take i++b::L.drop i)) true::T)=some (.ret (.pv none (.int .i64 (cmpV U G))),.box (some 4) (.pv (some 4) a.pv)::.box (some 4) (.pv (some 4) b.pv)::.box none (.pv none (.str s))::.arr (some 4) [] false::.arr (some 4) es false::.box none (.sl (some 4) 4 m 0 L.length)::.arr (some 4) [] false::.box none (.pv none (.int .i64 i))::.box (some 4) (.pv (some 4) a.pv)::.box (some 4) (.agg [(none,.pv none (.int .i64 3)),(none,.pv none (.int .i64 0)),(none,.pv none (.str s)),(none,.sl (some 4) 11 (L.length+1) 0 (L.length+1))])::.arr (some 4) [] false::.arr (some 4) (Tm.pvs (L.take i++a::L.drop i)) true::.box (some 4) (.pv (some 4) b.pv)::.box (some 4) (.agg [(none,.pv none (.int .i64 3)),(none,.pv none (.int .i64 0)),(none,.pv none (.str s)),(none,.sl (some 4) 15 (L.length+1) 0 (L.length+1))])::.arr (some 4) [] false::.arr (some 4) (Tm.pvs (L.take i++b::L.drop i)) true::T):=fun T=>
  zoO (t:=U) (u:=G) (.inr ⟨s,11,L.length+1,_,true,rfl,hU,rfl,nU⟩) (.inr ⟨s++[97],15,L.length+1,_,true,rfl,hG,rfl,nV⟩) (by omega) (by omega)
 have hv2:∀T:Heap,S 31 [.agg [(none,.pv none (.int .i64 3)),(none,.pv none (.int .i64 0)),(none,.pv none (.str [])),(none,.sl (some 4) 20 (L.length+1+1) 0 (L.length+1+1))]] (.box (some 4) (.pv (some 4) a.pv)::.box (some 4) (.pv (some 4) b.pv)::.box none (.pv none (.str s))::.arr (some 4) [] false::.arr (some 4) es false::.box none (.sl (some 4) 4 m 0 L.length)::.arr (some 4) [] false::.box none (.pv none (.int .i64 i))::.box (some 4) (.pv (some 4) a.pv)::.box (some 4) (.agg [(none,.pv none (.int .i64 3)),(none,.pv none (.int .i64 0)),(none,.pv none (.str s)),(none,.sl (some 4) 11 (L.length+1) 0 (L.length+1))])::.arr (some 4) [] false::.arr (some 4) (Tm.pvs (L.take i++a::L.drop i)) true::.box (some 4) (.pv (some 4) b.pv)::.box (some 4) (.agg [(none,.pv none (.int .i64 3)),(none,.pv none (.int .i64 0)),(none,.pv none (.str s)),(none,.sl (some 4) 15 (L.length+1) 0 (L.length+1))])::.arr (some 4) [] false::.arr (some 4) (Tm.pvs (L.take i++b::L.drop i)) true::.box (some 4) (.agg [(none,.pv none (.int .i64 3)),(none,.pv none (.int .i64 0)),(none,.pv none (.str s)),(none,.sl (some 4) 11 (L.length+1) 0 (L.length+1))])::.arr (some 4) [] false::.box (some 4) (.agg [(none,.pv none (.int .i64 3)),(none,.pv none (.int .i64 0)),(none,.pv none (.str s)),(none,.sl (some 4) 15 (L.length+1) 0 (L.length+1))])::.arr (some 4) [] false::.arr (some 4) ((Tm.pvs (L.take i++a::L.drop i))++[(Tm.mk 0 0 [] []).pv]) false::T)=some (.ret (.pv none (.bool M.valid)),.box (some 4) (.pv (some 4) a.pv)::.box (some 4) (.pv (some 4) b.pv)::.box none (.pv none (.str s))::.arr (some 4) [] false::.arr (some 4) es false::.box none (.sl (some 4) 4 m 0 L.length)::.arr (some 4) [] false::.box none (.pv none (.int .i64 i))::.box (some 4) (.pv (some 4) a.pv)::.box (some 4) (.agg [(none,.pv none (.int .i64 3)),(none,.pv none (.int .i64 0)),(none,.pv none (.str s)),(none,.sl (some 4) 11 (L.length+1) 0 (L.length+1))])::.arr (some 4) [] false::.arr (some 4) (Tm.pvs (L.take i++a::L.drop i)) true::.box (some 4) (.pv (some 4) b.pv)::.box (some 4) (.agg [(none,.pv none (.int .i64 3)),(none,.pv none (.int .i64 0)),(none,.pv none (.str s)),(none,.sl (some 4) 15 (L.length+1) 0 (L.length+1))])::.arr (some 4) [] false::.arr (some 4) (Tm.pvs (L.take i++b::L.drop i)) true::.box (some 4) (.agg [(none,.pv none (.int .i64 3)),(none,.pv none (.int .i64 0)),(none,.pv none (.str s)),(none,.sl (some 4) 11 (L.length+1) 0 (L.length+1))])::.arr (some 4) [] false::.box (some 4) (.agg [(none,.pv none (.int .i64 3)),(none,.pv none (.int .i64 0)),(none,.pv none (.str s)),(none,.sl (some 4) 15 (L.length+1) 0 (L.length+1))])::.arr (some 4) [] false::.arr (some 4) ((Tm.pvs (L.take i++a::L.drop i))++[(Tm.mk 0 0 [] []).pv]) false::T):=fun T=>
  zmO (t:=M) (.inr ⟨[],20,L.length+1+1,_,false,rfl,hM,by rw[pM];rfl,nM⟩) (by omega)
 have hv3:∀T:Heap,S 31 [.agg [(none,.pv none (.int .i64 3)),(none,.pv none (.int .i64 0)),(none,.pv none (.str (s++[97]))),(none,.sl (some 4) 15 (L.length+1) 0 (L.length+1))]] (.box (some 4) (.pv (some 4) a.pv)::.box (some 4) (.pv (some 4) b.pv)::.box none (.pv none (.str s))::.arr (some 4) [] false::.arr (some 4) es false::.box none (.sl (some 4) 4 m 0 L.length)::.arr (some 4) [] false::.box none (.pv none (.int .i64 i))::.box (some 4) (.pv (some 4) a.pv)::.box (some 4) (.agg [(none,.pv none (.int .i64 3)),(none,.pv none (.int .i64 0)),(none,.pv none (.str s)),(none,.sl (some 4) 11 (L.length+1) 0 (L.length+1))])::.arr (some 4) [] false::.arr (some 4) (Tm.pvs (L.take i++a::L.drop i)) true::.box (some 4) (.pv (some 4) b.pv)::.box (some 4) (.agg [(none,.pv none (.int .i64 3)),(none,.pv none (.int .i64 0)),(none,.pv none (.str s)),(none,.sl (some 4) 15 (L.length+1) 0 (L.length+1))])::.arr (some 4) [] false::.arr (some 4) (Tm.pvs (L.take i++b::L.drop i)) true::T)=some (.ret (.pv none (.bool G.valid)),.box (some 4) (.pv (some 4) a.pv)::.box (some 4) (.pv (some 4) b.pv)::.box none (.pv none (.str s))::.arr (some 4) [] false::.arr (some 4) es false::.box none (.sl (some 4) 4 m 0 L.length)::.arr (some 4) [] false::.box none (.pv none (.int .i64 i))::.box (some 4) (.pv (some 4) a.pv)::.box (some 4) (.agg [(none,.pv none (.int .i64 3)),(none,.pv none (.int .i64 0)),(none,.pv none (.str s)),(none,.sl (some 4) 11 (L.length+1) 0 (L.length+1))])::.arr (some 4) [] false::.arr (some 4) (Tm.pvs (L.take i++a::L.drop i)) true::.box (some 4) (.pv (some 4) b.pv)::.box (some 4) (.agg [(none,.pv none (.int .i64 3)),(none,.pv none (.int .i64 0)),(none,.pv none (.str s)),(none,.sl (some 4) 15 (L.length+1) 0 (L.length+1))])::.arr (some 4) [] false::.arr (some 4) (Tm.pvs (L.take i++b::L.drop i)) true::T):=fun T=>
  zmO (t:=G) (.inr ⟨s++[97],15,L.length+1,_,true,rfl,hG,rfl,nV⟩) (by omega)
 have hlv:∀hp,S 23 [.tsl (some 4) [U.pv,V.pv]] hp=some (.ret (.pv none (.bool (zbw [U,V]))),hp):=fun hp=>zgP (ps:=[(none,.sl (some 4) [U.pv,V.pv])]) rfl rfl rfl rfl (zmT [U,V] (by simp only[Tm.sizes];omega))
 have hca:=fun hp=>zmU a b hp (by omega) (by omega)
 have haw:=zn2
 have hx:=x_ok
 simp only[Tm.av] at hca hx
 have hd1:=zoN L i s a b
 have hd2:=znW L i s a (.mk 0 0 [] [])
 have hd3:=znX L i s a b
 rw[<-hU] at hd1 hd2 hd3
 rw[<-hV] at hd1
 have hd2':U.cmp M= -1:=by rw[hM];rw[hU] at hd2 ⊢;exact hd2
 have hd3':U.cmp G= -1:=by rw[hG];exact hd3
 simp only[agT] at hb1 hb2
 have hmk:zcD (.func 29) 0 [.ptr 5 0,.ptr 7 0,.ptr 2 0]=some (.func (.func 29) [] [.ptr 5 0,.ptr 7 0,.ptr 2 0]):=rfl
 have hg:∀Y:Heap,zaT (List.take 8 (.box (some 4) (.pv (some 4) a.pv)::.box (some 4) (.pv (some 4) b.pv)::.box none (.pv none (.str s))::.arr (some 4) [] false::.arr (some 4) es false::.box none (.sl (some 4) 4 m 0 L.length)::.arr (some 4) [] false::.box none (.pv none (.int .i64 i))::Y)) [.box (some 4) (.pv (some 4) a.pv),.box (some 4) (.pv (some 4) b.pv),.box none (.pv none (.str s)),.arr (some 4) [] false,.arr (some 4) es false,.box none (.sl (some 4) 4 m 0 L.length),.arr (some 4) [] false,.box none (.pv none (.int .i64 i))]=true:=fun Y=>Bq.same (hp:=[.box (some 4) (.pv (some 4) a.pv),.box (some 4) (.pv (some 4) b.pv),.box none (.pv none (.str s)),.arr (some 4) [] false,.arr (some 4) es false,.box none (.sl (some 4) 4 m 0 L.length),.arr (some 4) [] false,.box none (.pv none (.int .i64 i))]) (Bq.cons (by simp[AObj.beq,AV.beq,AV.beqc,PV.beq,PV.beqs,zan,zaI,hes]) (Bq.cons (by simp[AObj.beq,AV.beq,AV.beqc,PV.beq,PV.beqs,zan,zaI,hes]) (Bq.cons (by simp[AObj.beq,AV.beq,AV.beqc,PV.beq,PV.beqs,zan,zaI,hes]) (Bq.cons (by simp[AObj.beq,AV.beq,AV.beqc,PV.beq,PV.beqs,zan,zaI,hes]) (Bq.cons (by simp[AObj.beq,AV.beq,AV.beqc,PV.beq,PV.beqs,zan,zaI,hes]) (Bq.cons (by simp[AObj.beq,AV.beq,AV.beqc,PV.beq,PV.beqs,zan,zaI,hes]) (Bq.cons (by simp[AObj.beq,AV.beq,AV.beqc,PV.beq,PV.beqs,zan,zaI,hes]) (Bq.cons (by simp[AObj.beq,AV.beq,AV.beqc,PV.beq,PV.beqs,zan,zaI,hes]) (Bq.nil)))))))))
 have hg2:zaT (List.take 20 [.box (some 4) (.pv (some 4) a.pv),.box (some 4) (.pv (some 4) b.pv),.box none (.pv none (.str s)),.arr (some 4) [] false,.arr (some 4) es false,.box none (.sl (some 4) 4 m 0 L.length),.arr (some 4) [] false,.box none (.pv none (.int .i64 i)),.box (some 4) (.pv (some 4) a.pv),.box (some 4) (.agg [(none,.pv none (.int .i64 3)),(none,.pv none (.int .i64 0)),(none,.pv none (.str s)),(none,.sl (some 4) 11 (L.length+1) 0 (L.length+1))]),.arr (some 4) [] false,.arr (some 4) (Tm.pvs (L.take i++a::L.drop i)) true,.box (some 4) (.pv (some 4) b.pv),.box (some 4) (.agg [(none,.pv none (.int .i64 3)),(none,.pv none (.int .i64 0)),(none,.pv none (.str s)),(none,.sl (some 4) 15 (L.length+1) 0 (L.length+1))]),.arr (some 4) [] false,.arr (some 4) (Tm.pvs (L.take i++b::L.drop i)) true,.box (some 4) (.agg [(none,.pv none (.int .i64 3)),(none,.pv none (.int .i64 0)),(none,.pv none (.str s)),(none,.sl (some 4) 11 (L.length+1) 0 (L.length+1))]),.arr (some 4) [] false,.box (some 4) (.agg [(none,.pv none (.int .i64 3)),(none,.pv none (.int .i64 0)),(none,.pv none (.str s)),(none,.sl (some 4) 15 (L.length+1) 0 (L.length+1))]),.arr (some 4) [] false]) [.box (some 4) (.pv (some 4) a.pv),.box (some 4) (.pv (some 4) b.pv),.box none (.pv none (.str s)),.arr (some 4) [] false,.arr (some 4) es false,.box none (.sl (some 4) 4 m 0 L.length),.arr (some 4) [] false,.box none (.pv none (.int .i64 i)),.box (some 4) (.pv (some 4) a.pv),.box (some 4) (.agg [(none,.pv none (.int .i64 3)),(none,.pv none (.int .i64 0)),(none,.pv none (.str s)),(none,.sl (some 4) 11 (L.length+1) 0 (L.length+1))]),.arr (some 4) [] false,.arr (some 4) (Tm.pvs (L.take i++a::L.drop i)) true,.box (some 4) (.pv (some 4) b.pv),.box (some 4) (.agg [(none,.pv none (.int .i64 3)),(none,.pv none (.int .i64 0)),(none,.pv none (.str s)),(none,.sl (some 4) 15 (L.length+1) 0 (L.length+1))]),.arr (some 4) [] false,.arr (some 4) (Tm.pvs (L.take i++b::L.drop i)) true,.box (some 4) (.agg [(none,.pv none (.int .i64 3)),(none,.pv none (.int .i64 0)),(none,.pv none (.str s)),(none,.sl (some 4) 11 (L.length+1) 0 (L.length+1))]),.arr (some 4) [] false,.box (some 4) (.agg [(none,.pv none (.int .i64 3)),(none,.pv none (.int .i64 0)),(none,.pv none (.str s)),(none,.sl (some 4) 15 (L.length+1) 0 (L.length+1))]),.arr (some 4) [] false]=true:=Bq.same (hp:=[.box (some 4) (.pv (some 4) a.pv),.box (some 4) (.pv (some 4) b.pv),.box none (.pv none (.str s)),.arr (some 4) [] false,.arr (some 4) es false,.box none (.sl (some 4) 4 m 0 L.length),.arr (some 4) [] false,.box none (.pv none (.int .i64 i)),.box (some 4) (.pv (some 4) a.pv),.box (some 4) (.agg [(none,.pv none (.int .i64 3)),(none,.pv none (.int .i64 0)),(none,.pv none (.str s)),(none,.sl (some 4) 11 (L.length+1) 0 (L.length+1))]),.arr (some 4) [] false,.arr (some 4) (Tm.pvs (L.take i++a::L.drop i)) true,.box (some 4) (.pv (some 4) b.pv),.box (some 4) (.agg [(none,.pv none (.int .i64 3)),(none,.pv none (.int .i64 0)),(none,.pv none (.str s)),(none,.sl (some 4) 15 (L.length+1) 0 (L.length+1))]),.arr (some 4) [] false,.arr (some 4) (Tm.pvs (L.take i++b::L.drop i)) true,.box (some 4) (.agg [(none,.pv none (.int .i64 3)),(none,.pv none (.int .i64 0)),(none,.pv none (.str s)),(none,.sl (some 4) 11 (L.length+1) 0 (L.length+1))]),.arr (some 4) [] false,.box (some 4) (.agg [(none,.pv none (.int .i64 3)),(none,.pv none (.int .i64 0)),(none,.pv none (.str s)),(none,.sl (some 4) 15 (L.length+1) 0 (L.length+1))]),.arr (some 4) [] false]) (Bq.cons (by simp[AObj.beq,AV.beq,AV.beqc,PV.beq,PV.beqs,zan,zaI,hes]) (Bq.cons (by simp[AObj.beq,AV.beq,AV.beqc,PV.beq,PV.beqs,zan,zaI,hes]) (Bq.cons (by simp[AObj.beq,AV.beq,AV.beqc,PV.beq,PV.beqs,zan,zaI,hes]) (Bq.cons (by simp[AObj.beq,AV.beq,AV.beqc,PV.beq,PV.beqs,zan,zaI,hes]) (Bq.cons (by simp[AObj.beq,AV.beq,AV.beqc,PV.beq,PV.beqs,zan,zaI,hes]) (Bq.cons (by simp[AObj.beq,AV.beq,AV.beqc,PV.beq,PV.beqs,zan,zaI,hes]) (Bq.cons (by simp[AObj.beq,AV.beq,AV.beqc,PV.beq,PV.beqs,zan,zaI,hes]) (Bq.cons (by simp[AObj.beq,AV.beq,AV.beqc,PV.beq,PV.beqs,zan,zaI,hes]) (Bq.cons (by simp[AObj.beq,AV.beq,AV.beqc,PV.beq,PV.beqs,zan,zaI,hes]) (Bq.cons (by simp[AObj.beq,AV.beq,AV.beqc,PV.beq,PV.beqs,zan,zaI,hes]) (Bq.cons (by simp[AObj.beq,AV.beq,AV.beqc,PV.beq,PV.beqs,zan,zaI,hes]) (Bq.cons (by simp[AObj.beq,AV.beq,AV.beqc,PV.beq,PV.beqs,zan,zaI,hes]) (Bq.cons (by simp[AObj.beq,AV.beq,AV.beqc,PV.beq,PV.beqs,zan,zaI,hes]) (Bq.cons (by simp[AObj.beq,AV.beq,AV.beqc,PV.beq,PV.beqs,zan,zaI,hes]) (Bq.cons (by simp[AObj.beq,AV.beq,AV.beqc,PV.beq,PV.beqs,zan,zaI,hes]) (Bq.cons (by simp[AObj.beq,AV.beq,AV.beqc,PV.beq,PV.beqs,zan,zaI,hes]) (Bq.cons (by simp[AObj.beq,AV.beq,AV.beqc,PV.beq,PV.beqs,zan,zaI,hes]) (Bq.cons (by simp[AObj.beq,AV.beq,AV.beqc,PV.beq,PV.beqs,zan,zaI,hes]) (Bq.cons (by simp[AObj.beq,AV.beq,AV.beqc,PV.beq,PV.beqs,zan,zaI,hes]) (Bq.cons (by simp[AObj.beq,AV.beq,AV.beqc,PV.beq,PV.beqs,zan,zaI,hes]) (Bq.nil)))))))))))))))))))))
 have hbu:zcC [(none,.pv none (.int .i64 0)),(none,.pv none (.int .i64 0)),(none,.pv none (.str [])),(none,.tsl (some 4) [])] [0,2,3] [.pv none (.int .i64 3),.pv none (.str []),.sl (some 4) 20 (L.length+1+1) 0 (L.length+1+1)]=some (.agg [(none,.pv none (.int .i64 3)),(none,.pv none (.int .i64 0)),(none,.pv none (.str [])),(none,.sl (some 4) 20 (L.length+1+1) 0 (L.length+1+1))]):=rfl
 have hbl:∀q:List UInt8,zcC [(none,.pv none (.int .i64 0)),(none,.pv none (.int .i64 0)),(none,.pv none (.str [])),(none,.tsl (some 4) [])] [0,2,3] [.pv none (.int .i64 3),.pv none (.str q),.sl (some 4) 15 (L.length+1) 0 (L.length+1)]=some (.agg [(none,.pv none (.int .i64 3)),(none,.pv none (.int .i64 0)),(none,.pv none (.str q)),(none,.sl (some 4) 15 (L.length+1) 0 (L.length+1))]):=fun _=>rfl
 have hap1:zaB (some 4) [.box (some 4) (.pv (some 4) a.pv),.box (some 4) (.pv (some 4) b.pv),.box none (.pv none (.str s)),.arr (some 4) [] false,.arr (some 4) es false,.box none (.sl (some 4) 4 m 0 L.length),.arr (some 4) [] false,.box none (.pv none (.int .i64 i)),.box (some 4) (.pv (some 4) a.pv),.box (some 4) (.agg [(none,.pv none (.int .i64 3)),(none,.pv none (.int .i64 0)),(none,.pv none (.str s)),(none,.sl (some 4) 11 (L.length+1) 0 (L.length+1))]),.arr (some 4) [] false,.arr (some 4) (Tm.pvs (L.take i++a::L.drop i)) true,.box (some 4) (.pv (some 4) b.pv),.box (some 4) (.agg [(none,.pv none (.int .i64 3)),(none,.pv none (.int .i64 0)),(none,.pv none (.str s)),(none,.sl (some 4) 15 (L.length+1) 0 (L.length+1))]),.arr (some 4) [] false,.arr (some 4) (Tm.pvs (L.take i++b::L.drop i)) true,.box (some 4) (.agg [(none,.pv none (.int .i64 3)),(none,.pv none (.int .i64 0)),(none,.pv none (.str s)),(none,.sl (some 4) 11 (L.length+1) 0 (L.length+1))]),.arr (some 4) [] false,.box (some 4) (.agg [(none,.pv none (.int .i64 3)),(none,.pv none (.int .i64 0)),(none,.pv none (.str s)),(none,.sl (some 4) 15 (L.length+1) 0 (L.length+1))]),.arr (some 4) [] false] [.tsl (some 4) [],.sl (some 4) 11 (L.length+1) 0 (L.length+1)]=some (.sl (some 4) 20 (L.length+1) 0 (L.length+1),[.box (some 4) (.pv (some 4) a.pv),.box (some 4) (.pv (some 4) b.pv),.box none (.pv none (.str s)),.arr (some 4) [] false,.arr (some 4) es false,.box none (.sl (some 4) 4 m 0 L.length),.arr (some 4) [] false,.box none (.pv none (.int .i64 i)),.box (some 4) (.pv (some 4) a.pv),.box (some 4) (.agg [(none,.pv none (.int .i64 3)),(none,.pv none (.int .i64 0)),(none,.pv none (.str s)),(none,.sl (some 4) 11 (L.length+1) 0 (L.length+1))]),.arr (some 4) [] false,.arr (some 4) (Tm.pvs (L.take i++a::L.drop i)) true,.box (some 4) (.pv (some 4) b.pv),.box (some 4) (.agg [(none,.pv none (.int .i64 3)),(none,.pv none (.int .i64 0)),(none,.pv none (.str s)),(none,.sl (some 4) 15 (L.length+1) 0 (L.length+1))]),.arr (some 4) [] false,.arr (some 4) (Tm.pvs (L.take i++b::L.drop i)) true,.box (some 4) (.agg [(none,.pv none (.int .i64 3)),(none,.pv none (.int .i64 0)),(none,.pv none (.str s)),(none,.sl (some 4) 11 (L.length+1) 0 (L.length+1))]),.arr (some 4) [] false,.box (some 4) (.agg [(none,.pv none (.int .i64 3)),(none,.pv none (.int .i64 0)),(none,.pv none (.str s)),(none,.sl (some 4) 15 (L.length+1) 0 (L.length+1))]),.arr (some 4) [] false,.arr (some 4) (Tm.pvs (L.take i++a::L.drop i)) false]):=by
  have lU:(Tm.pvs (L.take i++a::L.drop i)).length=L.length+1:=by rw[Tm.pvs_len,nU]
  have ne:Tm.pvs (L.take i++a::L.drop i)≠[]:=fun h=>by rw[h] at lU;cases lU
  have hx:=zfi (hp:=[.box (some 4) (.pv (some 4) a.pv),.box (some 4) (.pv (some 4) b.pv),.box none (.pv none (.str s)),.arr (some 4) [] false,.arr (some 4) es false,.box none (.sl (some 4) 4 m 0 L.length),.arr (some 4) [] false,.box none (.pv none (.int .i64 i)),.box (some 4) (.pv (some 4) a.pv),.box (some 4) (.agg [(none,.pv none (.int .i64 3)),(none,.pv none (.int .i64 0)),(none,.pv none (.str s)),(none,.sl (some 4) 11 (L.length+1) 0 (L.length+1))]),.arr (some 4) [] false,.arr (some 4) (Tm.pvs (L.take i++a::L.drop i)) true,.box (some 4) (.pv (some 4) b.pv),.box (some 4) (.agg [(none,.pv none (.int .i64 3)),(none,.pv none (.int .i64 0)),(none,.pv none (.str s)),(none,.sl (some 4) 15 (L.length+1) 0 (L.length+1))]),.arr (some 4) [] false,.arr (some 4) (Tm.pvs (L.take i++b::L.drop i)) true,.box (some 4) (.agg [(none,.pv none (.int .i64 3)),(none,.pv none (.int .i64 0)),(none,.pv none (.str s)),(none,.sl (some 4) 11 (L.length+1) 0 (L.length+1))]),.arr (some 4) [] false,.box (some 4) (.agg [(none,.pv none (.int .i64 3)),(none,.pv none (.int .i64 0)),(none,.pv none (.str s)),(none,.sl (some 4) 15 (L.length+1) 0 (L.length+1))]),.arr (some 4) [] false]) (s0:=some 4) (r:=11) (N:=L.length+1) (off:=0) (n:=L.length+1) rfl lU (by omega)
  rw[List.drop_zero,List.take_of_length_le (Nat.le_of_eq lU)] at hx
  have hlim:L.length+1<=lim:=by unfold lim;omega
  simp[zaB,aappend,hx,ne,lU,hlim]
 have hap2:∀p:PV,zaB (some 4) [.box (some 4) (.pv (some 4) a.pv),.box (some 4) (.pv (some 4) b.pv),.box none (.pv none (.str s)),.arr (some 4) [] false,.arr (some 4) es false,.box none (.sl (some 4) 4 m 0 L.length),.arr (some 4) [] false,.box none (.pv none (.int .i64 i)),.box (some 4) (.pv (some 4) a.pv),.box (some 4) (.agg [(none,.pv none (.int .i64 3)),(none,.pv none (.int .i64 0)),(none,.pv none (.str s)),(none,.sl (some 4) 11 (L.length+1) 0 (L.length+1))]),.arr (some 4) [] false,.arr (some 4) (Tm.pvs (L.take i++a::L.drop i)) true,.box (some 4) (.pv (some 4) b.pv),.box (some 4) (.agg [(none,.pv none (.int .i64 3)),(none,.pv none (.int .i64 0)),(none,.pv none (.str s)),(none,.sl (some 4) 15 (L.length+1) 0 (L.length+1))]),.arr (some 4) [] false,.arr (some 4) (Tm.pvs (L.take i++b::L.drop i)) true,.box (some 4) (.agg [(none,.pv none (.int .i64 3)),(none,.pv none (.int .i64 0)),(none,.pv none (.str s)),(none,.sl (some 4) 11 (L.length+1) 0 (L.length+1))]),.arr (some 4) [] false,.box (some 4) (.agg [(none,.pv none (.int .i64 3)),(none,.pv none (.int .i64 0)),(none,.pv none (.str s)),(none,.sl (some 4) 15 (L.length+1) 0 (L.length+1))]),.arr (some 4) [] false,.arr (some 4) (Tm.pvs (L.take i++a::L.drop i)) false] [.sl (some 4) 20 (L.length+1) 0 (L.length+1),.tsl (some 4) [p]]=some (.sl (some 4) 20 (L.length+1+1) 0 (L.length+1+1),[.box (some 4) (.pv (some 4) a.pv),.box (some 4) (.pv (some 4) b.pv),.box none (.pv none (.str s)),.arr (some 4) [] false,.arr (some 4) es false,.box none (.sl (some 4) 4 m 0 L.length),.arr (some 4) [] false,.box none (.pv none (.int .i64 i)),.box (some 4) (.pv (some 4) a.pv),.box (some 4) (.agg [(none,.pv none (.int .i64 3)),(none,.pv none (.int .i64 0)),(none,.pv none (.str s)),(none,.sl (some 4) 11 (L.length+1) 0 (L.length+1))]),.arr (some 4) [] false,.arr (some 4) (Tm.pvs (L.take i++a::L.drop i)) true,.box (some 4) (.pv (some 4) b.pv),.box (some 4) (.agg [(none,.pv none (.int .i64 3)),(none,.pv none (.int .i64 0)),(none,.pv none (.str s)),(none,.sl (some 4) 15 (L.length+1) 0 (L.length+1))]),.arr (some 4) [] false,.arr (some 4) (Tm.pvs (L.take i++b::L.drop i)) true,.box (some 4) (.agg [(none,.pv none (.int .i64 3)),(none,.pv none (.int .i64 0)),(none,.pv none (.str s)),(none,.sl (some 4) 11 (L.length+1) 0 (L.length+1))]),.arr (some 4) [] false,.box (some 4) (.agg [(none,.pv none (.int .i64 3)),(none,.pv none (.int .i64 0)),(none,.pv none (.str s)),(none,.sl (some 4) 15 (L.length+1) 0 (L.length+1))]),.arr (some 4) [] false,.arr (some 4) ((Tm.pvs (L.take i++a::L.drop i))++[p]) false]):=fun p=>by
  have lU:(Tm.pvs (L.take i++a::L.drop i)).length=L.length+1:=by rw[Tm.pvs_len,nU]
  rw[append_own (A:=Tm.pvs (L.take i++a::L.drop i)) (B:=[p]) rfl lU rfl (by simp;unfold lim;omega)]
  rfl
 cases hv:zbw [U,V] with
 |false=>
  rw[hv] at hlv
  simp -dsimp -implicitDefEqProofs only[tl7,g7,c7r0,c7r1,c7r2,c7r3,c7k4,c7r5,c7r6,c7r7,c7r8,c7r9,c7k10,c7r11,c7r12,c7k13,c7r14,c7r15,c7r16,c7k17,c7r18,c7r19,c7,go_sem,seval,↓reduceIte,hmk,w1,w2,zms hne,hrem,hb1,hb2,hg,hg2,zmP,zif,zie,fz,hlv,hca,hx,haw,hc1,hbu,hbl,hap1,hap2,zbU,zbr (Nat.zero_le _),List.append_assoc]
  simp[AV.refsIn]
 |true=>
  rw[hv] at hlv
  have vU:U.valid=true:=zen hv (by simp)
  have vV:V.valid=true:=zen hv (by simp)
  have hsn:s.length<1000000000:=by
   have hf:=zd6 vU
   rw[Tm.zpH,Bool.and_eq_true] at hf
   have:=Tm.zpX hf
   rw[hU] at this
   exact this
  have hadd:zdl .add s [97]=some (.str (s++[97])):=zpa (by show s.length+1<=lim;unfold lim;omega)
  have va:a.valid=true:=zig vU (by rw[hU];simp[bld,Tm.args])
  have vb:b.valid=true:=zig vV (by rw[hV];simp[bld,Tm.args])
  have c1:cmpV U V=a.cmp b:=by simp[cmpV,vU,vV,hd1]
  have c2:cmpV a b=a.cmp b:=by simp[cmpV,va,vb]
  rw[c1] at hc1
  rw[c2] at hca
  generalize a.cmp b=c at hc1 hca
  cases vM:M.valid with
  |false=>
   rw[vM] at hv2
   cases vG:G.valid with
   |false=>
    rw[vG] at hv3
    simp -dsimp -implicitDefEqProofs only[tl7,g7,c7r0,c7r1,c7r2,c7r3,c7k4,c7r5,c7r6,c7r7,c7r8,c7r9,c7k10,c7r11,c7r12,c7k13,c7r14,c7r15,c7r16,c7k17,c7r18,c7r19,c7,go_sem,seval,↓reduceIte,hmk,w1,w2,zms hne,hrem,hb1,hb2,hg,hg2,zmP,zif,zie,fz,hlv,hca,hx,haw,hc1,hv2,hv3,hbu,hbl,hadd,hap1,hap2,zbU,zbr (Nat.zero_le _),List.append_assoc]
    simp[AV.refsIn]
   |true=>
    rw[vG] at hv3
    have c3:cmpV U G= -1:=by simp[cmpV,vU,vG,hd3']
    rw[c3] at hc3
    simp -dsimp -implicitDefEqProofs only[tl7,g7,c7r0,c7r1,c7r2,c7r3,c7k4,c7r5,c7r6,c7r7,c7r8,c7r9,c7k10,c7r11,c7r12,c7k13,c7r14,c7r15,c7r16,c7k17,c7r18,c7r19,c7,go_sem,seval,↓reduceIte,hmk,w1,w2,zms hne,hrem,hb1,hb2,hg,hg2,zmP,zif,zie,fz,hlv,hca,hx,haw,hc1,hv2,hv3,hc3,hbu,hbl,hadd,hap1,hap2,zbU,zbr (Nat.zero_le _),List.append_assoc]
    simp[AV.refsIn]
  |true=>
   rw[vM] at hv2
   have c4:cmpV U M= -1:=by simp[cmpV,vU,vM,hd2']
   rw[c4] at hc2
   cases vG:G.valid with
   |false=>
    rw[vG] at hv3
    simp -dsimp -implicitDefEqProofs only[tl7,g7,c7r0,c7r1,c7r2,c7r3,c7k4,c7r5,c7r6,c7r7,c7r8,c7r9,c7k10,c7r11,c7r12,c7k13,c7r14,c7r15,c7r16,c7k17,c7r18,c7r19,c7,go_sem,seval,↓reduceIte,hmk,w1,w2,zms hne,hrem,hb1,hb2,hg,hg2,zmP,zif,zie,fz,hlv,hca,hx,haw,hc1,hv2,hc2,hv3,hbu,hbl,hadd,hap1,hap2,zbU,zbr (Nat.zero_le _),List.append_assoc]
    simp[AV.refsIn]
   |true=>
    rw[vG] at hv3
    have c3:cmpV U G= -1:=by simp[cmpV,vU,vG,hd3']
    rw[c3] at hc3
    simp -dsimp -implicitDefEqProofs only[tl7,g7,c7r0,c7r1,c7r2,c7r3,c7k4,c7r5,c7r6,c7r7,c7r8,c7r9,c7k10,c7r11,c7r12,c7k13,c7r14,c7r15,c7r16,c7k17,c7r18,c7r19,c7,go_sem,seval,↓reduceIte,hmk,w1,w2,zms hne,hrem,hb1,hb2,hg,hg2,zmP,zif,zie,fz,hlv,hca,hx,haw,hc1,hv2,hc2,hv3,hc3,hbu,hbl,hadd,hap1,hap2,zbU,zbr (Nat.zero_le _),List.append_assoc]
    simp[AV.refsIn]
theorem zfj(H:Type):BulkLaws (H:=H) Rows.uptoBulk Rows.uptoBulkAll where
 nil:=by simp[Rows.uptoBulkAll]
 cons d r:=by simp[Rows.uptoBulkAll]
 slice e s:=by simp[Rows.uptoBulk]
 agg l:=by simp[Rows.uptoBulk]
 string l:=by simp[Rows.uptoBulk]
theorem zkZ{H:Type}{l:List (DataW H)}(hk:Rows.uptoSmall H l=true):Rows.uptoBulkAll l<=1048576:=of_decide_eq_true hk
def zjZ(P:Program)(tA tT:TypeId):Bool:=
 (match P.underlying tA with|some (.slice t)=>t == tT|_=>false) &&
 (match P.underlying tT with
  |some (.struct fs)=>match fs.toList.map (·.type) with
   |[a,b,c,d]=>d == tA && (match P.underlying a with|some (.int .i64)=>true|_=>false) && (match P.underlying b with|some (.int .i64)=>true|_=>false) && (match P.underlying c with|some .string=>true|_=>false) && decide (shOf P a=none) && decide (shOf P b=none) && decide (shOf P c=none)
   |_=>false
  |_=>false) && decide (shOf P tT=some 4) && decide (shOf P tA=none)
theorem zjs{P:Program}{tA tT:TypeId}(h:zjZ P tA tT=true):TermTy P tA tT:=by
 unfold zjZ at h
 simp only[Bool.and_eq_true,decide_eq_true_eq] at h
 obtain⟨⟨⟨h1,h2⟩,h3⟩,h4⟩:=h
 refine⟨?_,?_⟩
 ·split at h1
  ·rename_i t ht;rw[ht];simp at h1;rw[h1]
  ·cases h1
 ·split at h2
  ·rename_i fs hfs
   split at h2
   ·rename_i a b c d hl
    simp only[Bool.and_eq_true,decide_eq_true_eq,beq_iff_eq] at h2
    obtain⟨⟨⟨⟨⟨⟨k1,k2⟩,k3⟩,k4⟩,k5⟩,k6⟩,k7⟩:=h2
    subst k1
    refine⟨fs,a,b,c,hfs,hl,?_,?_,?_,h3,h4,k5,k6,k7⟩
    ·split at k2
     ·assumption
     ·cases k2
    ·split at k3
     ·assumption
     ·cases k3
    ·split at k4
     ·assumption
     ·cases k4
   ·cases h2
  ·cases h2
theorem zoh:TermTy Try.prog 22 24:=zjs (by kernel_rfl)
def zgR:List TypeId:=[2,3,4,5,9,22,24,43]
theorem closed:zjV Try.prog zgR=true:=by kernel_rfl
set_option maxRecDepth 100000 in
theorem zij{H:Type}{enc:TypeId × Value->H}{W:World}{base:Nat}{v:Value}{d:DataW H}{ps:List MemPlace}(h:DataW.Trod enc Try.prog W 0 (fun _=>true) true 24 v d ps)(hv:Value.okWide Try.prog W .any base 24 v):
  ∃t:Tm,AR W (noX (P:=Try.prog)) noμ [] t.av v/\t.size<=Rows.uptoBulk d/\t.rng:=by
 obtain⟨fuel,h0⟩:=h
 obtain⟨p,hp⟩:=zff closed fuel _ _ _ _ (by simp[zgR]) h0
 obtain⟨t,rfl,h1,h2⟩:=(zfg zoh (zfj H) fuel).1 d p hp
 have:=zmK ⟨fuel,h0⟩ (by kernel_rfl) hp (zd4 hv)
 rw[show shOf Try.prog 24=some 4 from by kernel_rfl] at this
 exact⟨t,this,h1,h2⟩
set_option maxRecDepth 100000 in
theorem zk0{H:Type}{enc:TypeId × Value->H}{W:World}{base:Nat}{v:Value}{d:DataW H}{ps:List MemPlace}(h:DataW.Trod enc Try.prog W 0 (fun _=>true) true 22 v d ps)(hv:Value.okWide Try.prog W .any base 22 v):
  ∃l:List Tm,AR W (noX (P:=Try.prog)) noμ [] (.pv none (.sl (some 4) (Tm.pvs l))) v/\Tm.sizes l<=Rows.uptoBulk d/\Tm.rngs l:=by
 obtain⟨fuel,h0⟩:=h
 obtain⟨p,hp⟩:=zff closed fuel _ _ _ _ (by simp[zgR]) h0
 obtain⟨t,rfl,h1,h2⟩:=(zfg zoh (zfj H) fuel).2 d p hp
 have:=zmK ⟨fuel,h0⟩ (by kernel_rfl) hp (zd4 hv)
 rw[show shOf Try.prog 22=none from by kernel_rfl] at this
 exact⟨t,this,h1,h2⟩
theorem zk1(H:Type):BulkLaws2 (H:=H) Rows.uptoBulk Rows.uptoBulkAll:=
 ⟨zfj H,fun d=>by
  cases d with
  |lit l=>cases l <;> simp[Rows.uptoBulk]
  |_=>simp[Rows.uptoBulk]⟩
set_option maxRecDepth 100000 in
theorem zj0{H:Type}{enc:TypeId × Value->H}{W:World}{base:Nat}{v:Value}{d:DataW H}{ps:List MemPlace}{t:TypeId}(ht:t∈zgR)(hok:okT Try.prog t=true)(h:DataW.Trod enc Try.prog W 0 (fun _=>true) true t v d ps)(hv:Value.okWide Try.prog W .any base t v):
  ∃n p,AR W (noX (P:=Try.prog)) noμ [] (.pv (shOf Try.prog t) p) v/\wt Try.prog n t p/\p.sz<=Rows.uptoBulk d:=by
 obtain⟨fuel,h0⟩:=h
 obtain⟨p,hp⟩:=zff closed fuel _ _ _ _ ht h0
 obtain⟨h1,h2⟩:=zmM (zk1 H) fuel _ _ _ hp
 exact⟨fuel,p,zmK ⟨fuel,h0⟩ hok hp (zd4 hv),h1,h2⟩
theorem zpj{n:Nat}{t:TypeId}{p:PV}{k:IntKind}(hk:Try.prog.underlying t=some (.int k))(h:wt Try.prog n t p):∃x,p=.int k x/\(Lit.int k x).wf=true:=by
 cases n with
 |zero=>exact h.elim
 |succ n=>unfold wt at h;rw[hk] at h;exact h
theorem zph{n:Nat}{t:TypeId}{p:PV}(hk:Try.prog.underlying t=some .string)(h:wt Try.prog n t p):∃x,p=.str x:=by
 cases n with
 |zero=>exact h.elim
 |succ n=>unfold wt at h;rw[hk] at h;exact h
set_option maxRecDepth 100000 in
theorem znZ{H:Type}{enc:TypeId × Value->H}{W:World}{base:Nat}{v:Value}{d:DataW H}{ps:List MemPlace}(h:DataW.Trod enc Try.prog W 0 (fun _=>true) true 9 v d ps)(hv:Value.okWide Try.prog W .any base 9 v):
  ∃x:List UInt8,AR W (noX (P:=Try.prog)) noμ [] (.pv none (.str x)) v/\True:=by
 obtain⟨n,p,h1,h2,h3⟩:=zj0 (by decide) (by kernel_rfl) h hv
 obtain⟨x,rfl⟩:=zph (by kernel_rfl) h2
 rw[show shOf Try.prog 9=none from by kernel_rfl] at h1
 exact⟨x,h1,trivial⟩
set_option maxRecDepth 100000 in
theorem zoP{H:Type}{enc:TypeId × Value->H}{W:World}{base:Nat}{v:Value}{d:DataW H}{ps:List MemPlace}(h:DataW.Trod enc Try.prog W 0 (fun _=>true) true 5 v d ps)(hv:Value.okWide Try.prog W .any base 5 v):
  ∃x:Int,AR W (noX (P:=Try.prog)) noμ [] (.pv none (.int .u8 x)) v/\0<=x/\x<256:=by
 obtain⟨n,p,h1,h2,h3⟩:=zj0 (by decide) (by kernel_rfl) h hv
 obtain⟨x,rfl,hx⟩:=zpj (k:=.u8) (by kernel_rfl) h2
 rw[show shOf Try.prog 5=none from by kernel_rfl] at h1
 refine⟨x,h1,?_⟩
 simp[Lit.wf,IntKind.min,IntKind.max,IntKind.signed,IntKind.bits] at hx
 omega
end Go.Proofs.Yteaehiceghhajaa
