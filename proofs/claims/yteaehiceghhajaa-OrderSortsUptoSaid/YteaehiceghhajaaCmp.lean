/- What all claims of the seat share. -/
import Derived.Test.YteaehiceghhajaaRows
import Derived.Test.YteaehiceghhajaaFns
import Derived.Test.YteaehiceghhajaaAm4
import Derived.Test.YteaehiceghhajaaAm5
set_option linter.unusedSimpArgs false
set_option linter.unusedVariables false
namespace Go.Proofs.Yteaehiceghhajaa
open Go.Am Go.ChangeShapes Go.WideShapes Go.ChangeAt Go.RowKit
theorem Try.own:ownKnob Try.prog.godebug=none:=by kernel_rfl
theorem Try.zsW:laidOutB Try.prog=true:=by kernel_rfl
theorem Try.zsY:Try.prog.follows .mixedOrders=true:=by kernel_rfl
def prim:FuncId->Option zbW:=fun g=>bif Nat.beq 71 g then some zhU else(fun _=>none) g
theorem zrv:zfg Try.prog prim:=zks (zmb Try.func71 (by kernel_rfl) (by kernel_rfl) (by kernel_rfl) (by kernel_rfl)) zmc
theorem sound:SoundO Try.prog (sem (find tab) prim):=znV Try.zsY (zpG zsb) zrv
def yes:Option (ARes × Heap)->Bool
 |some (.ret (.pv none (.bool true)),[])=>true
 |_=>false
theorem zr9{r:Option (ARes × Heap)}(h:yes r=true):r=some (.ret (.pv none (.bool true)),[]):=by
 unfold yes at h
 split at h
 ·rfl
 ·cases h
end Go.Proofs.Yteaehiceghhajaa
namespace Go.Proofs.Yteaehiceghhajaa
open Go.Am
noncomputable abbrev Z:=sem (find tab) prim
noncomputable abbrev S:=sem (find tab) prim .fn
noncomputable abbrev L:=sloop (find tab) prim

theorem zqv:∀(t:Tm) (hp:Heap) (r1 r2:Nat) (l:Nat),t.size<1000000000->l<1000000000->hp[r1]? =some (.box none (.pv none (.int .i64 ((l+1:Nat):Int))))->hp[r2]? =some (.box none (.func (.func 64) [] [.ptr r1 0,.ptr r2 0]))->
  S 64 [t.av,.ptr r1 0,.ptr r2 0] hp=some (.ret (.tuple []),hp.set r1 (.box none (.pv none (.int .i64 ((l+1 - t.size:Nat):Int))))):=by
 intro t
 induction t using Tm.zsF with
 |h t ih=>
  intro hp r1 r2 l ht hl h1 h2
  have hr1:=zcH h1
  have hr2:=zcH h2
  have hne:r1≠r2:=by
   rintro rfl
   rw[h1] at h2
   cases h2
  have hts:=t.size_eq
  have hlen:=Tm.zsz t.args
  refine zgh (by simp[AV.refsIn,AV.refsIn.gol]) rfl rfl rfl rfl ?_
  have e1:∀y x,(hp.set r1 y++[x])[r1]? =some y:=fun y x=>by rw[zch (by simpa using hr1)];simp[hr1]
  have e2:∀y x,(hp.set r1 y++[x])[r2]? =some (.box none (.func (.func 64) [] [.ptr r1 0,.ptr r2 0])):=fun y x=>by rw[zch (by simpa using hr2),List.getElem?_set_ne hne,h2]
  have e3:∀y x,(hp.set r1 y++[x])[hp.length]? =some x:=fun y x=>by simp
  have e4:∀y x z,(hp.set r1 y++[x]).set r1 z=hp.set r1 z++[x]:=fun y x z=>by rw[zh1 (by simpa using hr1)];simp
  have e5:(↑(l+1) - 1:Int)=((l+1 - (1+Tm.sizes (t.args.take 0)):Nat):Int):=by simp[Tm.sizes]
  have w1:IntKind.i64.wrap ((l+1:Nat) - 1:Int)=((l+1 - (1+Tm.sizes (t.args.take 0)):Nat):Int):=by rw[zaj (by omega) (by omega),e5]
  simp -dsimp -implicitDefEqProofs only[go_sem,seval,↓reduceIte,Tm.av,zch hr1,h1,zqd,zh1 hr1,w1]
  refine zaE (fun n st=>∃i:Nat,n=t.args.length - i/\i<=t.args.length/\st=⟨[(1,.ptr r1 0),(2,.ptr r2 0),(3,.ptr hp.length 0),(4,.pv none (.int .i64 i))],hp.set r1 (.box none (.pv none (.int .i64 ((l+1 - (1+Tm.sizes (t.args.take i)):Nat):Int))))++[.box (some 4) (.pv (some 4) t.pv)]⟩) ⟨0,rfl,Nat.zero_le _,?_⟩ ?_
  ·simp -dsimp -implicitDefEqProofs only[go_sem,seval,↓reduceIte]
   try rfl
  ·rintro n st ⟨i,hn,hi,rfl⟩
   by_cases h:i<t.args.length
   ·have hc:(i:Int)<(t.args.length:Int):=by omega
    obtain⟨u,hu⟩:∃u,t.args[i]? =some u:=⟨_,List.getElem?_eq_getElem h⟩
    have hst:=Tm.zsQ hu
    have hum:=List.mem_of_getElem? hu
    have husz:=Tm.zsE hum
    by_cases h0:0<((l+1 - (1+Tm.sizes (t.args.take i)):Nat):Int)
    ·obtain⟨l',hl'⟩:∃l':Nat,l+1 - (1+Tm.sizes (t.args.take i))=l'+1:=⟨l+1 - (1+Tm.sizes (t.args.take i)) - 1,by omega⟩
     have hcall:=ih u hum (hp.set r1 (.box none (.pv none (.int .i64 ((l'+1:Nat):Int))))++[.box (some 4) (.pv (some 4) t.pv)]) r1 r2 l' (by omega) (by omega) (e1 _ _) (e2 _ _)
     rw[e4] at hcall
     have e6:l'+1 - u.size=l+1 - (1+Tm.sizes (t.args.take (i+1))):=by omega
     have w2:IntKind.i64.wrap ((i:Int)+1)=((i+1:Nat):Int):=by rw[zaj (by omega) (by omega)];omega
     rw[hl'] at h0 ⊢
     simp -dsimp -implicitDefEqProofs only[go_sem,seval,↓reduceIte,e1,e2,e3,e4,zag,Tm.pvs_len,hc,h0,zad (Tm.pvs_get hu),show AV.pv (some 4) u.pv=u.av from rfl,hcall,e6,w2]
     refine⟨t.args.length - (i+1),by omega,i+1,rfl,by omega,?_⟩
     rw[zao (by simp)]
    ·simp -dsimp -implicitDefEqProofs only[go_sem,seval,↓reduceIte,e1,e2,e3,e4,zag,Tm.pvs_len,hc,h0]
     refine⟨zeW _ rfl _ _ _,?_⟩
     rw[List.take_left' (by simp)]
     have hle:Tm.sizes (t.args.take i)<=Tm.sizes t.args:=Tm.zsB _ _
     first|(congr 5;omega)|(congr 4;omega)|(congr 6;omega)
   ·have hc:¬(i:Int)<(t.args.length:Int):=by omega
    obtain rfl:i=t.args.length:=by omega
    simp -dsimp -implicitDefEqProofs only[go_sem,seval,↓reduceIte,e1,e2,e3,e4,zag,Tm.pvs_len,hc]
    refine⟨zeW _ rfl _ _ _,?_⟩
    rw[List.take_left' (by simp),List.take_length,hts]

theorem zrD(t:Tm)(hp:Heap)(h:t.size<1000000000):S 52 [t.av] hp=some (.ret (.pv none (.int .i64 ((min t.size 2001:Nat):Int))),hp):=by
 refine zap rfl rfl rfl (zab [(some 4,t.pv)]) rfl ?_
 have hc:=zqv t [.box (some 4) (.pv (some 4) t.pv),.box none (.pv none (.int .i64 2001)),.box none (.func (.func 64) [] [.ptr 1 0,.ptr 2 0])] 1 2 2000 h (by omega) rfl rfl
 have w1:IntKind.i64.wrap (2001 - ((2000+1 - t.size:Nat):Int))=((min t.size 2001:Nat):Int):=by rw[zaj (by omega) (by omega)];omega
 simp only[Tm.av] at hc
 simp -dsimp -implicitDefEqProofs only[go_sem,seval,↓reduceIte,Tm.av,zji (Nat.zero_le _),hc,w1]

theorem zqw(t:Tm)(Q:AExit->St->Prop)(h:∀r,Q .normal ⟨(1,.ptr 0 0)::(3,.pv none (.bool t.node))::r,[.box (some 4) (.pv (some 4) t.pv)]⟩):
  W Z L 0 c53k15 ⟨[(1,.ptr 0 0),(3,.pv none (.bool false)),(6,.pv none (.int .i64 t.kind))],[.box (some 4) (.pv (some 4) t.pv)]⟩ Q:=by
 (repeat' (first|(simp -dsimp -implicitDefEqProofs only[c53k15,go_sem,seval,↓reduceIte,zaK,zdm,zaN,zag,Tm.pvs_len, *])|(refine zas (fun _=> ?_) (fun _=> ?_))))
 all_goals (simp -dsimp -implicitDefEqProofs only[Tm.node,go_sem,seval,↓reduceIte, *] at h;exact h _)

theorem zrE:∀(t:Tm) (hp:Heap),t.size<1000000000->S 53 [t.av] hp=some (.ret (.pv none (.bool t.fits)),hp):=by
 intro t
 induction t using Tm.zsF with
 |h t ih=>
  intro hp ht
  have hts:=t.size_eq
  have hlen:=Tm.zsz t.args
  refine zap rfl rfl rfl (zab [(some 4,t.pv)]) rfl ?_
  simp -dsimp -dsimp -implicitDefEqProofs only[go_sem,seval,↓reduceIte,zaK,zdm,zaN,zag,Tm.pvs_len]
  refine zqw t _ (fun r=> ?_)
  simp -dsimp -dsimp -implicitDefEqProofs only[go_sem,seval,↓reduceIte,zaK,zdm,zaN,zag,Tm.pvs_len]
  refine zaE (fun n st=>∃i:Nat,n=t.args.length - i/\i<=t.args.length/\st=⟨[(1,.ptr 0 0),(3,.pv none (.bool (t.node && Tm.fitsAll (t.args.take i)))),(4,.pv none (.int .i64 i))],[.box (some 4) (.pv (some 4) t.pv)]⟩) (n:=t.args.length) ⟨0,rfl,Nat.zero_le _,?_⟩ ?_
  ·simp -dsimp -implicitDefEqProofs only[go_sem,seval,↓reduceIte,Tm.fitsAll]
   try rfl
  ·rintro n st ⟨i,hn,hi,rfl⟩
   by_cases h:i<t.args.length
   ·have hc:(i:Int)<(t.args.length:Int):=by omega
    obtain⟨u,hu⟩:∃u,t.args[i]? =some u:=⟨_,List.getElem?_eq_getElem h⟩
    have hum:=List.mem_of_getElem? hu
    have husz:=Tm.zsE hum
    have hcall:=fun hp=>ih u hum hp (by omega)
    have e6:Tm.fitsAll (t.args.take (i+1))=(Tm.fitsAll (t.args.take i) && u.fits):=Tm.zsN hu
    have w2:IntKind.i64.wrap ((i:Int)+1)=((i+1:Nat):Int):=by rw[zaj (by omega) (by omega)];omega
    by_cases h0:(t.node && Tm.fitsAll (t.args.take i))=true
    ·simp -dsimp -dsimp -implicitDefEqProofs only[go_sem,seval,↓reduceIte,zag,Tm.pvs_len,hc,h0,zad (Tm.pvs_get hu),show AV.pv (some 4) u.pv=u.av from rfl,hcall,w2]
     refine⟨t.args.length - (i+1),by omega,i+1,rfl,by omega,?_⟩
     rw[e6,<-Bool.and_assoc,h0,Bool.true_and]
    ·simp -dsimp -implicitDefEqProofs only[go_sem,seval,↓reduceIte,zag,Tm.pvs_len,hc,h0]
     rw[Tm.fits_eq]
     have hp:Tm.fitsAll t.args=(Tm.fitsAll (t.args.take i) && Tm.fitsAll (t.args.drop i)):=by rw[<-Tm.zsJ,List.take_append_drop]
     rw[hp,<-Bool.and_assoc,Bool.eq_false_iff.2 h0]
     rfl
   ·have hc:¬(i:Int)<(t.args.length:Int):=by omega
    obtain rfl:i=t.args.length:=by omega
    simp -dsimp -implicitDefEqProofs only[go_sem,seval,↓reduceIte,zag,Tm.pvs_len,hc]
    rw[Tm.fits_eq,List.take_length]

theorem zly(t:Tm)(hp:Heap)(h:t.size<1000000000):S 36 [t.av] hp=some (.ret (.pv none (.bool t.valid)),hp):=by
 refine zap rfl rfl rfl (zab [(some 4,t.pv)]) rfl ?_
 have h1:=fun hp=>zrD t hp h
 have h2:=fun hp=>zrE t hp h
 unfold Tm.valid
 simp only[Tm.av] at h1 h2
 by_cases hs:t.size<=2000
 ·have hc:((min t.size 2001:Nat):Int)<=2000:=by omega
  (repeat' (first|(simp -dsimp -implicitDefEqProofs only[go_sem,seval,↓reduceIte,Tm.av, *])|(refine zas (fun _=> ?_) (fun _=> ?_))))
 ·have hc:¬((min t.size 2001:Nat):Int)<=2000:=by omega
  (repeat' (first|(simp -dsimp -implicitDefEqProofs only[go_sem,seval,↓reduceIte,Tm.av, *])|(refine zas (fun _=> ?_) (fun _=> ?_))))

theorem zo8:∀(t:Tm) (hp:Heap) (m:Nat),t.size<1000000000->m<1000000000->S 62 [t.av,.pv none (.int .i64 ((m+1:Nat):Int))] hp=some (.ret (.pv none (.int .i64 ((min t.size (m+1):Nat):Int))),hp):=by
 intro t
 induction t using Tm.zsF with
 |h t ih=>
  intro hp m ht hm
  have hts:=t.size_eq
  have hlen:=Tm.zsz t.args
  refine zap rfl rfl rfl (zab [(some 4,t.pv),(none,.int .i64 ((m+1:Nat):Int))]) rfl ?_
  simp -dsimp -implicitDefEqProofs only[go_sem,seval,↓reduceIte,zag,Tm.pvs_len]
  refine zaE (fun n st=>∃i:Nat,n=t.args.length - i/\i<=t.args.length/\st=⟨[(1,.pv none (.int .i64 ((m+1:Nat):Int))),(2,.ptr 0 0),(5,.pv none (.int .i64 ((min (1+Tm.sizes (t.args.take i)) (m+1):Nat):Int))),(6,.pv none (.int .i64 i))],[.box (some 4) (.pv (some 4) t.pv)]⟩) (n:=t.args.length) ⟨0,rfl,Nat.zero_le _,?_⟩ ?_
  ·simp -dsimp -implicitDefEqProofs only[go_sem,seval,↓reduceIte]
   rw[show min (1+Tm.sizes []) (m+1)=1 by simp[Tm.sizes]]
   rfl
  ·rintro n st ⟨i,hn,hi,rfl⟩
   by_cases h:i<t.args.length
   ·have hc:(i:Int)<(t.args.length:Int):=by omega
    obtain⟨u,hu⟩:∃u,t.args[i]? =some u:=⟨_,List.getElem?_eq_getElem h⟩
    have hst:=Tm.zsQ hu
    have hum:=List.mem_of_getElem? hu
    have husz:=Tm.zsE hum
    have w2:IntKind.i64.wrap ((i:Int)+1)=((i+1:Nat):Int):=by rw[zaj (by omega) (by omega)];omega
    by_cases h0:((min (1+Tm.sizes (t.args.take i)) (m+1):Nat):Int)<((m+1:Nat):Int)
    ·obtain⟨m',hm'⟩:∃m':Nat,m+1 - min (1+Tm.sizes (t.args.take i)) (m+1)=m'+1:=⟨m - min (1+Tm.sizes (t.args.take i)) (m+1),by omega⟩
     have w3:IntKind.i64.wrap (((m+1:Nat):Int) - ((min (1+Tm.sizes (t.args.take i)) (m+1):Nat):Int))=((m'+1:Nat):Int):=by rw[zaj (by omega) (by omega)];omega
     have w4:IntKind.i64.wrap (((min (1+Tm.sizes (t.args.take i)) (m+1):Nat):Int)+((min u.size (m'+1):Nat):Int))=((min (1+Tm.sizes (t.args.take (i+1))) (m+1):Nat):Int):=by rw[zaj (by omega) (by omega)];omega
     have hcall:=fun hp=>ih u hum hp m' (by omega) (by omega)
     simp -dsimp -implicitDefEqProofs only[go_sem,seval,↓reduceIte,zag,Tm.pvs_len,hc,h0,zad (Tm.pvs_get hu),show AV.pv (some 4) u.pv=u.av from rfl,hcall,w2,w3,w4]
     exact⟨t.args.length - (i+1),by omega,i+1,rfl,by omega,rfl⟩
    ·simp -dsimp -implicitDefEqProofs only[go_sem,seval,↓reduceIte,zag,Tm.pvs_len,hc,h0]
     have hle:Tm.sizes (t.args.take i)<=Tm.sizes t.args:=Tm.zsB _ _
     first|(congr 3;omega)|(congr 2;omega)|(congr 4;omega)
   ·have hc:¬(i:Int)<(t.args.length:Int):=by omega
    obtain rfl:i=t.args.length:=by omega
    simp -dsimp -implicitDefEqProofs only[go_sem,seval,↓reduceIte,zag,Tm.pvs_len,hc]
    rw[List.take_length,hts]

theorem zqx(t:Tm)(hp:Heap)(h:t.size<1000000000):S 50 [t.av] hp=some (.ret (.pv none (.int .i64 ((min t.size 2001:Nat):Int))),hp):=by
 refine zap rfl rfl rfl (zab [(some 4,t.pv)]) rfl ?_
 have h1:=fun hp=>zo8 t hp 2000 h (by omega)
 simp only[Tm.av] at h1
 have e:(((2000+1:Nat):Int))=2001:=rfl
 rw[e] at h1
 (repeat' (first|(simp -dsimp -implicitDefEqProofs only[go_sem,seval,↓reduceIte, *])|(refine zas (fun _=> ?_) (fun _=> ?_))))

theorem zqy(t:Tm)(hp:Heap):S 63 [t.av] hp=some (.ret (.pv none (.bool t.node)),hp):=by
 refine zap rfl rfl rfl (zab [(some 4,t.pv)]) rfl ?_
 (repeat' (first|(simp -dsimp -implicitDefEqProofs only[go_sem,seval,↓reduceIte,zaK,zdm,zaN,zag,Tm.pvs_len, *])|(refine zas (fun _=> ?_) (fun _=> ?_))))
 all_goals (simp only[Tm.node,show(0<(t.args.length:Int))=(1<=(t.args.length:Int)) from propext (by omega), *,Int.reduceEq,if_true,if_false,decide_true,decide_false,Bool.true_and,Bool.false_and,Bool.and_true])

theorem zo9:∀(t:Tm) (hp:Heap),t.size<1000000000->S 51 [t.av] hp=some (.ret (.pv none (.bool t.fits)),hp):=by
 intro t
 induction t using Tm.zsF with
 |h t ih=>
  intro hp ht
  have hts:=t.size_eq
  have hlen:=Tm.zsz t.args
  refine zap rfl rfl rfl (zab [(some 4,t.pv)]) rfl ?_
  have hnode:=zqy t
  simp only[Tm.av] at hnode
  by_cases hn:t.node=true
  ·rw[hn] at hnode
   simp -dsimp -implicitDefEqProofs only[go_sem,seval,↓reduceIte,hnode,zag,Tm.pvs_len]
   refine zaE (fun n st=>∃i:Nat,n=t.args.length - i/\i<=t.args.length/\Tm.fitsAll (t.args.take i)=true/\st=⟨[(1,.ptr 0 0),(3,.pv none (.int .i64 i))],[.box (some 4) (.pv (some 4) t.pv)]⟩) (n:=t.args.length) ⟨0,rfl,Nat.zero_le _,rfl,?_⟩ ?_
   ·simp -dsimp -implicitDefEqProofs only[go_sem,seval,↓reduceIte]
    try rfl
   ·rintro n st ⟨i,hn',hi,hf,rfl⟩
    by_cases h:i<t.args.length
    ·have hc:(i:Int)<(t.args.length:Int):=by omega
     obtain⟨u,hu⟩:∃u,t.args[i]? =some u:=⟨_,List.getElem?_eq_getElem h⟩
     have hum:=List.mem_of_getElem? hu
     have husz:=Tm.zsE hum
     have hcall:=fun hp=>ih u hum hp (by omega)
     have e6:Tm.fitsAll (t.args.take (i+1))=(Tm.fitsAll (t.args.take i) && u.fits):=Tm.zsN hu
     have w2:IntKind.i64.wrap ((i:Int)+1)=((i+1:Nat):Int):=by rw[zaj (by omega) (by omega)];omega
     by_cases h0:u.fits=true
     ·simp -dsimp -implicitDefEqProofs only[go_sem,seval,↓reduceIte,zag,Tm.pvs_len,hc,h0,zad (Tm.pvs_get hu),show AV.pv (some 4) u.pv=u.av from rfl,hcall,w2]
      exact⟨t.args.length - (i+1),by omega,i+1,rfl,by omega,by rw[e6,hf,h0];rfl,rfl⟩
     ·rw[Bool.not_eq_true] at h0
      simp -dsimp -implicitDefEqProofs only[go_sem,seval,↓reduceIte,zag,Tm.pvs_len,hc,h0,zad (Tm.pvs_get hu),show AV.pv (some 4) u.pv=u.av from rfl,hcall,w2]
      rw[show t.fits=false from Bool.eq_false_iff.2 fun h=>by rw[Tm.zsC h hum] at h0;cases h0]
    ·have hc:¬(i:Int)<(t.args.length:Int):=by omega
     obtain rfl:i=t.args.length:=by omega
     rw[List.take_length] at hf
     simp -dsimp -implicitDefEqProofs only[go_sem,seval,↓reduceIte,zag,Tm.pvs_len,hc]
     rw[Tm.fits_eq,hn,hf]
     rfl
  ·rw[Bool.not_eq_true] at hn
   rw[hn] at hnode
   simp -dsimp -implicitDefEqProofs only[go_sem,seval,↓reduceIte,hnode,zag,Tm.pvs_len]
   rw[Tm.fits_eq,hn]
   rfl

theorem zdv(t:Tm)(hp:Heap)(h:t.size<1000000000):S 31 [t.av] hp=some (.ret (.pv none (.bool t.valid)),hp):=by
 refine zap rfl rfl rfl (zab [(some 4,t.pv)]) rfl ?_
 have h1:=fun hp=>zqx t hp h
 have h2:=fun hp=>zo9 t hp h
 unfold Tm.valid
 simp only[Tm.av] at h1 h2
 by_cases hs:t.size<=2000
 ·have hc:((min t.size 2001:Nat):Int)<=2000:=by omega
  (repeat' (first|(simp -dsimp -implicitDefEqProofs only[go_sem,seval,↓reduceIte,Tm.av, *])|(refine zas (fun _=> ?_) (fun _=> ?_))))
 ·have hc:¬((min t.size 2001:Nat):Int)<=2000:=by omega
  (repeat' (first|(simp -dsimp -implicitDefEqProofs only[go_sem,seval,↓reduceIte,Tm.av, *])|(refine zas (fun _=> ?_) (fun _=> ?_))))
end Go.Proofs.Yteaehiceghhajaa
namespace Go.Proofs.Yteaehiceghhajaa
open Go.Am
abbrev TE:=Tm × Option Nat

def eA:TE->AV
 |(t,none)=>.pv (some 4) t.pv
 |(t,some q)=>.agg [(none,.pv none (.int .i64 t.kind)),(none,.pv none (.int .i64 t.n)),(none,.pv none (.str t.name)),(none,.sl (some 4) q t.args.length 0 t.args.length)]
theorem zdR(x:TE):(eA x).plain=true:=by
 obtain⟨t,q⟩:=x
 cases q <;> rfl
theorem zfq(x:TE):(eA x).shp=some 4:=by
 obtain⟨t,q⟩:=x
 cases q <;> rfl
def obj(xs:List TE):AObj:=.arv (some 4) (xs.map eA)
theorem zoR{sh:Sh}{r v o n:Nat}:sLen [.slv sh r v o n]=some (.pv none (.int .i64 n)):=rfl
attribute [go_sem] zoR
theorem zae{sh s':Sh}{k:IntKind}{r v o n i:Nat}(h:i<n):zcm sh [.slv sh r v o n,.pv s' (.int k i)]=some (.epv sh r v (o+i) 0):=by
 simp[zcm,aindex,h]
def toE:Option TE->Option AV
 |some x=>some (eA x)
 |none=>none
theorem za1(x:TE):toE (some x)=some (eA x):=rfl
theorem zc5{hp:Heap}{r N i:Nat}{xs:List TE}(hr:r<hp.length)(hl:xs.length=N):aload (some 4) (hp.set r (obj xs)) (.epv (some 4) r N i 0)=toE xs[i]? :=by
 have h:(hp.set r (obj xs))[r]? =some (.arv (some 4) (xs.map eA)):=by simp[hr,obj]
 simp only[aload,h,List.length_map,hl,if_true,List.getElem?_map]
 cases xs[i]? <;> simp[toE]
theorem zlv{hp:Heap}{r N i:Nat}{xs:List TE}{x:TE}(hr:r<hp.length)(hl:xs.length=N)(hi:i<N):zaB (some 4) 0 (hp.set r (obj xs)) [.epv (some 4) r N i 0,eA x]=some (.undef,hp.set r (obj (xs.set i x))):=by
 have h:(hp.set r (obj xs))[r]? =some (.arv (some 4) (xs.map eA)):=by simp[hr,obj]
 obtain⟨y,hy⟩:∃y,xs[i]? =some y:=⟨_,List.getElem?_eq_getElem (by omega)⟩
 have e:obj (xs.set i x)=.arv (some 4) ((xs.map eA).set i (eA x)):=by simp[obj]
 rw[e]
 simp[zaB,astore,h,zdR,zfq,hl,hy]
theorem zkQ{Γ:Oracle}{b:Nat}{vs:List AV}{hp:Heap}{K:AV->Heap->Prop}{Kp:PV->Heap->Prop}[Tag K][Tag Kp](sh:Sh)(z:AV):opK (aOp Γ b (.mkslicev sh z) vs hp) K Kp=zbZ (zbQ sh z hp vs) K:=by
 show opK (match(zbQ sh z hp vs) with|some (v,hp')=>some (OpRes.val v hp')|none=>none) K Kp=_
 cases (zbQ sh z hp vs) with
 |none=>rfl
 |some r=>cases r;rfl
theorem zqm{Γ:Oracle}{b:Nat}{vs:List AV}{hp:Heap}{K:AV->Heap->Prop}{Kp:PV->Heap->Prop}[Tag K][Tag Kp](sh:Sh):opK (aOp Γ b (.bslov sh) vs hp) K Kp=zbZ (zdX sh hp vs) K:=by
 show opK (match(zdX sh hp vs) with|some (v,hp')=>some (OpRes.val v hp')|none=>none) K Kp=_
 cases (zdX sh hp vs) with
 |none=>rfl
 |some r=>cases r;rfl
theorem zmN{Γ:Oracle}{b:Nat}{vs:List AV}{hp:Heap}{K:AV->Heap->Prop}{Kp:PV->Heap->Prop}[Tag K][Tag Kp](sh:Sh):opK (aOp Γ b (.appendv sh) vs hp) K Kp=zbZ (zcn sh b hp vs) K:=by
 show opK (match(zcn sh b hp vs) with|some (v,hp')=>some (OpRes.val v hp')|none=>none) K Kp=_
 cases (zcn sh b hp vs) with
 |none=>rfl
 |some r=>cases r;rfl
attribute [go_sem] zkQ zqm zmN
end Go.Proofs.Yteaehiceghhajaa
namespace Go.Proofs.Yteaehiceghhajaa
open Go.Am
theorem zdu(fv:AV)(hp:Heap)(r:Nat)(hr:r<hp.length)(a b n N:Nat)(P X M Y R:List TE)(hP:P.length=a)(hX:X.length=n)(hY:Y.length=n)(hb:b=a+n+M.length)(hN:N=(P++X++M++Y++R).length)(hN':N<1000000000):
  S 75 [.slv (some 4) r N 0 N,.pv none (.int .i64 a),.pv none (.int .i64 b),.pv none (.int .i64 n),fv] (hp.set r (obj (P++X++M++Y++R)))=some (.ret (.tuple []),hp.set r (obj (P++Y++M++X++R))):=by
 refine zdM (by simp) rfl rfl rfl rfl ?_
 have e1:∀A,(hp.set r A)[r]? =some A:=fun A=>by simp[hr]
 have hNl:N=P.length+n+M.length+n+R.length:=by rw[hN];simp[hX,hY];omega
 simp -dsimp -implicitDefEqProofs only[go_sem,seval,↓reduceIte]
 refine zaE (fun k st=>∃(i:Nat) (X1 X2 Y1 Y2:List TE),k=n - i/\i<=n/\X=X1++X2/\Y=Y1++Y2/\X1.length=i/\Y1.length=i/\st=⟨[(0,.slv (some 4) r N 0 N),(1,.pv none (.int .i64 a)),(2,.pv none (.int .i64 b)),(3,.pv none (.int .i64 n)),(10,.pv none (.int .i64 i))],hp.set r (obj (P++Y1++X2++M++X1++Y2++R))⟩) (n:=n) ⟨0,[],X,[],Y,rfl,Nat.zero_le _,rfl,rfl,rfl,rfl,?_⟩ ?_
 ·simp -dsimp -implicitDefEqProofs only[go_sem,seval,↓reduceIte]
  simp
 ·rintro k st ⟨i,X1,X2,Y1,Y2,hk,hi,eX,eY,lX,lY,rfl⟩
  have l2X:X2.length=n - i:=by rw[eX] at hX;simp at hX;omega
  have l2Y:Y2.length=n - i:=by rw[eY] at hY;simp at hY;omega
  have hlen:(P++Y1++X2++M++X1++Y2++R).length=N:=by simp;omega
  by_cases h:i<n
  ·have hc:(i:Int)<(n:Int):=by omega
   obtain⟨x,X2,rfl⟩:∃x l,X2=x::l:=by cases X2 with|nil=>simp at l2X;omega|cons x l=>exact⟨x,l,rfl⟩
   obtain⟨y,Y2,rfl⟩:∃x l,Y2=x::l:=by cases Y2 with|nil=>simp at l2Y;omega|cons x l=>exact⟨x,l,rfl⟩
   have w1:IntKind.i64.wrap ((a:Int)+(i:Int))=((a+i:Nat):Int):=by rw[zaj (by omega) (by omega)];omega
   have w2:IntKind.i64.wrap ((b:Int)+(i:Int))=((b+i:Nat):Int):=by rw[zaj (by omega) (by omega)];omega
   have w3:IntKind.i64.wrap ((i:Int)+1)=((i+1:Nat):Int):=by rw[zaj (by omega) (by omega)];omega
   have la:a+i<N:=by omega
   have lb:b+i<N:=by omega
   have s1:P++Y1++x::X2++M++X1++y::Y2++R=(P++Y1)++x::(X2++M++X1++y::Y2++R):=by simp
   have s2:P++Y1++x::X2++M++X1++y::Y2++R=(P++Y1++x::X2++M++X1)++y::(Y2++R):=by simp
   have g1:(P++Y1++x::X2++M++X1++y::Y2++R)[a+i]? =some x:=by rw[s1];exact zds (by simp;omega)
   have g2:(P++Y1++x::X2++M++X1++y::Y2++R)[b+i]? =some y:=by rw[s2];exact zds (by simp at l2X ⊢;omega)
   have g3:((P++Y1++x::X2++M++X1++y::Y2++R).set (a+i) y).set (b+i) x=P++(Y1++[y])++X2++M++(X1++[x])++Y2++R:=by
    rw[s1,zdt (by simp;omega)]
    have s3:(P++Y1)++y::(X2++M++X1++y::Y2++R)=(P++Y1++y::X2++M++X1)++y::(Y2++R):=by simp
    rw[s3,zdt (by simp at l2X ⊢;omega)]
    simp
   generalize hxs:P++Y1++x::X2++M++X1++y::Y2++R=xs at g1 g2 g3 hlen ⊢
   simp -dsimp -implicitDefEqProofs only[go_sem,seval,↓reduceIte,hc,w1,w2,w3,zae la,zae lb,zc5 hr,za1,zlv hr,e1,g1,g2,hlen,List.length_set,la,lb,g3]
   refine⟨n - (i+1),by omega,i+1,X1++[x],X2,Y1++[y],Y2,rfl,by omega,by simp[eX],by simp[eY],by simp[lX],by simp[lY],?_⟩
   rw[zao (by simp)]
  ·have hc:¬(i:Int)<(n:Int):=by omega
   obtain rfl:i=n:=by omega
   have:X2=[]:=List.length_eq_zero_iff.1 (by omega)
   subst this
   have:Y2=[]:=List.length_eq_zero_iff.1 (by omega)
   subst this
   simp -dsimp -implicitDefEqProofs only[go_sem,seval,↓reduceIte,hc]
   simp[eX,eY]

theorem zo7(fv:AV)(hp:Heap)(r:Nat)(hr:r<hp.length)(a m b N:Nat)(P U V R:List TE)(hP:P.length=a)(hU:m=a+U.length)(hV:b=m+V.length)(hN:N=(P++U++V++R).length)(hN':N<1000000000)(hU0:0<U.length)(hV0:0<V.length):
  S 74 [.slv (some 4) r N 0 N,.pv none (.int .i64 a),.pv none (.int .i64 m),.pv none (.int .i64 b),fv] (hp.set r (obj (P++U++V++R)))=some (.ret (.tuple []),hp.set r (obj (P++V++U++R))):=by
 refine zdM (by simp) rfl rfl rfl rfl ?_
 have hNl:N=P.length+U.length+V.length+R.length:=by(rw[hN];simp <;> omega)
 have w1:IntKind.i64.wrap ((m:Int) - (a:Int))=((U.length:Nat):Int):=by rw[zaj (by omega) (by omega)];omega
 have w2:IntKind.i64.wrap ((b:Int) - (m:Int))=((V.length:Nat):Int):=by rw[zaj (by omega) (by omega)];omega
 simp -dsimp -implicitDefEqProofs only[go_sem,seval,↓reduceIte,w1,w2]
 refine zaE (fun k st=>∃(i j:Nat) (P' X Y R':List TE),k=i+j/\0<i/\0<j/\X.length=i/\Y.length=j/\P'.length+i=m/\P'++Y++X++R'=P++V++U++R/\(P'++X++Y++R').length=N/\st=⟨[(0,.slv (some 4) r N 0 N),(2,.pv none (.int .i64 m)),(4,fv),(10,.pv none (.int .i64 i)),(11,.pv none (.int .i64 j))],hp.set r (obj (P'++X++Y++R'))⟩) (n:=U.length+V.length) ⟨U.length,V.length,P,U,V,R,rfl,hU0,hV0,rfl,rfl,by omega,rfl,hN.symm,?_⟩ ?_
 ·simp -dsimp -implicitDefEqProofs only[go_sem,seval,↓reduceIte]
 ·rintro k st ⟨i,j,P',X,Y,R',hk,i0,j0,lX,lY,lP,hT,hL,rfl⟩
  have hLn:P'.length+i+j+R'.length=N:=by(rw[<-hL];simp <;> omega)
  by_cases hij:i=j
  ·have hc:(i:Int)=(j:Int):=by omega
   have w3:IntKind.i64.wrap ((m:Int) - (j:Int))=((P'.length:Nat):Int):=by rw[zaj (by omega) (by omega)];omega
   have hcall:=zdu fv hp r hr P'.length m j N P' X [] Y R' rfl (by omega) (by omega) (by(simp <;> omega)) (by simp at hL ⊢;omega) hN'
   simp only[List.append_nil] at hcall
   rw[hT] at hcall
   simp -dsimp -implicitDefEqProofs only[go_sem,seval,↓reduceIte,hc,w3,hcall]
  ·have hc:¬(i:Int)=(j:Int):=by omega
   by_cases hgt:j<i
   ·have hc2:(j:Int)<(i:Int):=by omega
    have w3:IntKind.i64.wrap ((m:Int) - (i:Int))=((P'.length:Nat):Int):=by rw[zaj (by omega) (by omega)];omega
    have w4:IntKind.i64.wrap ((i:Int) - (j:Int))=((i - j:Nat):Int):=by rw[zaj (by omega) (by omega)];omega
    have eX:X=X.take j++X.drop j:=(List.take_append_drop j X).symm
    have hcall:=zdu fv hp r hr P'.length m j N P' (X.take j) (X.drop j) Y R' rfl (by(simp <;> omega)) (by omega) (by(simp <;> omega)) (by(rw[<-hL];simp <;> omega)) hN'
    have e0:P'++X.take j++X.drop j++Y++R'=P'++X++Y++R':=by simp
    rw[e0] at hcall
    simp -dsimp -implicitDefEqProofs only[go_sem,seval,↓reduceIte,hc,hc2,w3,w4,hcall]
    refine⟨i - j+j,by omega,i - j,j,P'++Y,X.drop j,X.take j,R',rfl,by omega,by omega,by(simp <;> omega),by(simp <;> omega),by(simp <;> omega),?_,?_,?_⟩
    ·rw[<-hT];simp
    ·rw[<-hL];simp <;> omega
    ·rw[zao (by simp)]
   ·have hc2:¬(j:Int)<(i:Int):=by omega
    have w3:IntKind.i64.wrap ((m:Int) - (i:Int))=((P'.length:Nat):Int):=by rw[zaj (by omega) (by omega)];omega
    have w4:IntKind.i64.wrap ((j:Int) - (i:Int))=((j - i:Nat):Int):=by rw[zaj (by omega) (by omega)];omega
    have w5:IntKind.i64.wrap ((m:Int)+(j:Int))=((m+j:Nat):Int):=by rw[zaj (by omega) (by omega)];omega
    have w6:IntKind.i64.wrap (((m+j:Nat):Int) - (i:Int))=((m+j - i:Nat):Int):=by rw[zaj (by omega) (by omega)];omega
    have hcall:=zdu fv hp r hr P'.length (m+j - i) i N P' X (Y.take (j - i)) (Y.drop (j - i)) R' rfl lX (by(simp <;> omega)) (by(simp <;> omega)) (by(rw[<-hL];simp <;> omega)) hN'
    have e0:P'++X++Y.take (j - i)++Y.drop (j - i)++R'=P'++X++Y++R':=by simp
    rw[e0] at hcall
    simp -dsimp -implicitDefEqProofs only[go_sem,seval,↓reduceIte,hc,hc2,w3,w4,w5,w6,hcall]
    refine⟨i+(j - i),by omega,i,j - i,P',Y.drop (j - i),Y.take (j - i),X++R',rfl,by omega,by omega,by(simp <;> omega),by(simp <;> omega),by omega,?_,?_,?_⟩
    ·rw[<-hT];simp
    ·rw[<-hL];simp <;> omega
    ·rw[zao (by simp)];simp

def CmpF(c:TE->TE->Int)(fv:AV)(D:TE->Prop)(hp:Heap)(r:Nat):Prop:=∃g fs cs,za4 fv=some (g,fs,cs)/\∀x y,D x->D y->∀A,S g (fs++[eA x,eA y]++cs) (hp.set r A)=some (.ret (.pv none (.int .i64 (c x y))),hp.set r A)

theorem zqu(c:TE->TE->Int)(hC:Cmp c)(fv:AV)(D:TE->Prop)(hp:Heap)(r:Nat)(hg:CmpF c fv D hp r)(hr:r<hp.length)(a b i N:Nat)(P S1 R:List TE)(t:TE)(hP:P.length=a)(hs:Srt c S1)(hi:i=a+S1.length)(hN:N=(P++S1++t::R).length)(hN':N<1000000000)(hD:∀x∈S1,D x)(hDt:D t)
  (fr:Fr)(Q:AExit->St->Prop)
  (hfr:fr.keep [0,1,2,3,8,9]=[(0,.slv (some 4) r N 0 N),(1,.pv none (.int .i64 a)),(2,.pv none (.int .i64 b)),(3,fv),(8,.pv none (.int .i64 i)),(9,.pv none (.int .i64 i))])
  (h:∀rest,Q (.exit 2) ⟨(0,.slv (some 4) r N 0 N)::(1,.pv none (.int .i64 a))::(2,.pv none (.int .i64 b))::(3,fv)::(8,.pv none (.int .i64 i))::rest,hp.set r (obj (P++insC c t S1++R))⟩):
  W Z L 0 (.loop [0,1,2,3,8,9] c72b9) ⟨fr,hp.set r (obj (P++S1++t::R))⟩ Q:=by
 have e1:∀A,(hp.set r A)[r]? =some A:=fun A=>by simp[hr]
 have hNl:N=P.length+S1.length+R.length+1:=by rw[hN];simp;omega
 refine zaE (fun k st=>∃(L1 M:List TE),k=L1.length/\S1=L1++M/\(∀m∈M,c t m<0)/\st=⟨[(0,.slv (some 4) r N 0 N),(1,.pv none (.int .i64 a)),(2,.pv none (.int .i64 b)),(3,fv),(8,.pv none (.int .i64 i)),(9,.pv none (.int .i64 ((a+L1.length:Nat):Int)))],hp.set r (obj (P++L1++t::M++R))⟩) (n:=S1.length) ⟨S1,[],rfl,by simp,by simp,?_⟩ ?_
 ·rw[hfr,hi]
  simp
 ·rintro k st ⟨L1,M,hk,hS,hM,rfl⟩
  have hSl:S1.length=L1.length+M.length:=by rw[hS];simp
  have hlen:(P++L1++t::M++R).length=N:=by simp;omega
  have fin:(∀x∈L1,¬c t x<0)->P++insC c t S1++R=P++L1++t::M++R:=fun hx=>by
   rw[hS,zdO hx hM];simp
  rcases zbL L1 with rfl|⟨L2,x,rfl⟩
  ·have hc:¬((a:Nat):Int)<((a+([]:List TE).length:Nat):Int):=by simp
   have hf:=fin (by simp)
   rw[hf] at h
   simp -dsimp -implicitDefEqProofs only[c72b9,go_sem,seval,↓reduceIte,hc,Int.lt_irrefl]
   exact h _
  ·have hxl:(L2++[x]).length=L2.length+1:=by simp
   have hc:((a:Nat):Int)<((a+(L2++[x]).length:Nat):Int):=by rw[hxl];omega
   have w1:IntKind.i64.wrap (((a+(L2++[x]).length:Nat):Int) - 1)=((a+L2.length:Nat):Int):=by rw[zaj (by omega) (by omega)];omega
   have la:a+(L2++[x]).length<N:=by omega
   have lb:a+L2.length<N:=by omega
   have s1:P++(L2++[x])++t::M++R=(P++(L2++[x]))++t::(M++R):=by simp
   have s2:P++(L2++[x])++t::M++R=(P++L2)++x::(t::M++R):=by simp
   have g1:(P++(L2++[x])++t::M++R)[a+(L2++[x]).length]? =some t:=by rw[s1];exact zds (by simp;omega)
   have g2:(P++(L2++[x])++t::M++R)[a+L2.length]? =some x:=by rw[s2];exact zds (by simp;omega)
   have hxm:x∈S1:=by rw[hS];simp
   obtain⟨g,fs,cs,hcal,hg'⟩:=hg
   have hcall:=hg' t x hDt (hD x hxm)
   by_cases hlt:c t x<0
   ·have g3:((P++(L2++[x])++t::M++R).set (a+(L2++[x]).length) x).set (a+L2.length) t=P++L2++t::(x::M)++R:=by
     rw[s1,zdt (by simp;omega)]
     have s3:(P++(L2++[x]))++x::(M++R)=(P++L2)++x::(x::M++R):=by simp
     rw[s3,zdt (by simp;omega)]
     simp
    generalize hxs:P++(L2++[x])++t::M++R=xs at g1 g2 g3 hlen ⊢
    simp -dsimp -implicitDefEqProofs only[c72b9,go_sem,seval,↓reduceIte,hc,w1,zae la,zae lb,zc5 hr,za1,zlv hr,e1,g1,g2,hlen,List.length_set,la,lb,g3,hcall,zbT hcal,hlt]
    refine⟨L2.length,by omega,L2,x::M,rfl,by rw[hS];simp,?_,?_⟩
    ·intro m hm
     rcases List.mem_cons.1 hm with rfl|hm
     ·exact hlt
     ·exact hM m hm
    ·rw[zao (by simp)]
   ·have hf:=fin (fun y hy=>by
     rcases List.mem_append.1 hy with hy|hy
     ·have hyx:c y x<=0:=by
       rw[hS] at hs
       have:=(List.pairwise_append.1 (List.pairwise_append.1 hs).1).2.2 y hy x (by simp)
       exact this
      intro hty
      have:=hC.lt_of_lt_le hty hyx
      exact hlt this
     ·simp at hy;subst hy;exact hlt)
    rw[hf] at h
    generalize hxs:P++(L2++[x])++t::M++R=xs at g1 g2 hlen h ⊢
    simp -dsimp -implicitDefEqProofs only[c72b9,go_sem,seval,↓reduceIte,hc,w1,zae la,zae lb,zc5 hr,za1,e1,g1,g2,hlen,hcall,zbT hcal,hlt]
    exact h _

theorem zft(c:TE->TE->Int)(hC:Cmp c)(fv:AV)(D:TE->Prop)(hp:Heap)(r:Nat)(hg:CmpF c fv D hp r)(hr:r<hp.length)(a b N:Nat)(P A R:List TE)(hP:P.length=a)(hA:b=a+A.length)(hN:N=(P++A++R).length)(hN':N<1000000000)(hD:∀x∈A,D x):
  S 72 [.slv (some 4) r N 0 N,.pv none (.int .i64 a),.pv none (.int .i64 b),fv] (hp.set r (obj (P++A++R)))=some (.ret (.tuple []),hp.set r (obj (P++isort c A++R))):=by
 refine zdM (by simp) rfl rfl rfl rfl ?_
 have hNl:N=P.length+A.length+R.length:=by(rw[hN];simp <;> omega)
 have hsl:(hp.set r (obj (P++A++R))).length=hp.length:=by simp
 have w0:IntKind.i64.wrap ((a:Int)+1)=((a+1:Nat):Int):=by rw[zaj (by omega) (by omega)];omega
 simp -dsimp -implicitDefEqProofs only[c72b9,go_sem,seval,↓reduceIte,w0]
 refine zaE (fun n st=>∃k:Nat,n=A.length - k/\1<=k/\st=⟨[(0,.slv (some 4) r N 0 N),(1,.pv none (.int .i64 a)),(2,.pv none (.int .i64 b)),(3,fv),(8,.pv none (.int .i64 ((a+k:Nat):Int)))],hp.set r (obj (P++isort c (A.take k)++A.drop k++R))⟩) (n:=A.length - 1) ⟨1,rfl,Nat.le_refl _,?_⟩ ?_
 ·simp -dsimp -implicitDefEqProofs only[go_sem,seval,↓reduceIte]
  cases A with
  |nil=>simp[isort]
  |cons x A=>simp[isort,insC]
 ·rintro n st ⟨k,hn,hk,rfl⟩
  by_cases h:k<A.length
  ·have hc:((a+k:Nat):Int)<(b:Int):=by omega
   obtain⟨t,R1,hd⟩:∃t R1,A.drop k=t::R1:=⟨A[k],A.drop (k+1),List.drop_eq_getElem_cons h⟩
   have hd1:A.drop (k+1)=R1:=by rw[<-List.drop_drop,hd];rfl
   have ht:A.take (k+1)=A.take k++[t]:=by
    have:A[k]? =some t:=by have:=congrArg List.head? hd;simpa using this
    rw[List.take_add_one,this];rfl
   have w3:IntKind.i64.wrap (((a+k:Nat):Int)+1)=((a+(k+1):Nat):Int):=by rw[zaj (by omega) (by omega)];omega
   have hlk:(isort c (A.take k)).length=k:=by rw[zan];simp;omega
   have e0:P++isort c (A.take k)++A.drop k++R=P++isort c (A.take k)++t::(R1++R):=by rw[hd];simp
   have hmem:∀x∈isort c (A.take k),D x:=fun x hx=>hD x (List.mem_of_mem_take ((za2 _).mem_iff.1 hx))
   have htm:D t:=hD t (List.mem_of_mem_drop (show t∈A.drop k from by rw[hd];simp))
   simp -dsimp -implicitDefEqProofs only[go_sem,seval,↓reduceIte,hc]
   rw[e0]
   refine zqu c hC fv D hp r hg hr a b (a+k) N P (isort c (A.take k)) (R1++R) t hP (zcI hC _) (by omega) (by rw[<-e0];simp[hlk];omega) hN' hmem htm _ _ rfl fun rest=> ?_
   simp -dsimp -implicitDefEqProofs only[go_sem,seval,↓reduceIte,w3]
   refine⟨A.length - (k+1),by omega,k+1,rfl,by omega,?_⟩
   rw[zao (by simp),ht,zeY,hd1]
   simp
  ·have hc:¬((a+k:Nat):Int)<(b:Int):=by omega
   simp -dsimp -implicitDefEqProofs only[go_sem,seval,↓reduceIte,hc]
   rw[List.take_of_length_le (by omega),List.drop_eq_nil_of_le (by omega)]
   simp
end Go.Proofs.Yteaehiceghhajaa
namespace Go.Proofs.Yteaehiceghhajaa
open Go.Am
theorem zsd(c:TE->TE->Int)(fv:AV)(D:TE->Prop)(hp:Heap)(r:Nat)(hg:CmpF c fv D hp r)(hr:r<hp.length)(xs:List TE)(N a i0 j0:Nat)(hN:xs.length=N)(hN':N<1000000000)(ha:a<N)(hj:j0<=N)(hij:i0<=j0)(hD:∀h,h<N->D (at' xs h))
  (hm:∀h h',i0<=h'->h'<=h->h<j0->c (at' xs h) (at' xs a)<0->c (at' xs h') (at' xs a)<0)
  (fr:Fr)(Q:AExit->St->Prop)
  (hfr:fr.keep [0,1,4,10,11]=[(0,.slv (some 4) r N 0 N),(1,.pv none (.int .i64 a)),(4,fv),(10,.pv none (.int .i64 i0)),(11,.pv none (.int .i64 j0))])
  (h:∀k,i0<=k->k<=j0->(∀h,i0<=h->h<k->c (at' xs h) (at' xs a)<0)->(∀h,k<=h->h<j0->¬c (at' xs h) (at' xs a)<0)->∀rest,Q (.exit 0) ⟨(0,.slv (some 4) r N 0 N)::(1,.pv none (.int .i64 a))::(4,fv)::(10,.pv none (.int .i64 k))::rest,hp.set r (obj xs)⟩):
  W Z L 0 (.loop [0,1,4,10,11] c73b11) ⟨fr,hp.set r (obj xs)⟩ Q:=by
 have e1:∀A,(hp.set r A)[r]? =some A:=fun A=>by simp[hr]
 refine zaE (fun n st=>∃i j:Nat,n=j - i/\i0<=i/\i<=j/\j<=j0/\(∀h,i0<=h->h<i->c (at' xs h) (at' xs a)<0)/\(∀h,j<=h->h<j0->¬c (at' xs h) (at' xs a)<0)/\
  st=⟨[(0,.slv (some 4) r N 0 N),(1,.pv none (.int .i64 a)),(4,fv),(10,.pv none (.int .i64 i)),(11,.pv none (.int .i64 j))],hp.set r (obj xs)⟩) (n:=j0 - i0) ⟨i0,j0,rfl,by omega,hij,by omega,fun h h1 h2=>by omega,fun h h1 h2=>by omega,?_⟩ ?_
 ·rw[hfr]
 ·rintro n st ⟨i,j,hn,h1,h2,h3,h4,h5,rfl⟩
  by_cases hlt:i<j
  ·have hc:(i:Int)<(j:Int):=by omega
   have w1:IntKind.i64.wrap ((i:Int)+(j:Int))=((i+j:Nat):Int):=by rw[zaj (by omega) (by omega)];omega
   have w2:IntKind.u64.wrap ((i+j:Nat):Int)=((i+j:Nat):Int):=zfG (by omega) (by omega)
   have w3:IntKind.i64.wrap (((i+j:Nat):Int) / 2)=(((i+j) / 2:Nat):Int):=by rw[zaj (by omega) (by omega)];omega
   have w4:IntKind.i64.wrap ((((i+j) / 2:Nat):Int)+1)=(((i+j) / 2+1:Nat):Int):=by rw[zaj (by omega) (by omega)];omega
   have lh:(i+j) / 2<N:=by omega
   have gh:=zd8 (xs:=xs) (i:=(i+j) / 2) (by omega)
   have ga:=zd8 (xs:=xs) (i:=a) (by omega)
   obtain⟨g,fs,cs,hcal,hg'⟩:=hg
   have hcall:=hg' _ _ (hD _ lh) (hD a ha)
   by_cases h0:c (at' xs ((i+j) / 2)) (at' xs a)<0
   ·simp -dsimp -implicitDefEqProofs only[c73b11,c73b19,c73b33,c73b41,c73b62,c73r64,c73r65,c73k67,c73r68,c73k70,c73r71,c73k73,go_sem,seval,↓reduceIte,hc,zfk (show 0<IntKind.bits .u64 by decide),w1,w2,w3,w4,zae lh,zae ha,zc5 hr,za1,e1,gh,ga,hN,hcall,zbT hcal,h0]
    refine⟨j - ((i+j) / 2+1),by omega,(i+j) / 2+1,j,rfl,by omega,by omega,h3,fun h x1 x2=>hm _ _ x1 (by omega) (by omega) h0,h5,?_⟩
    rw[zao (by simp)]
   ·simp -dsimp -implicitDefEqProofs only[c73b11,c73b19,c73b33,c73b41,c73b62,c73r64,c73r65,c73k67,c73r68,c73k70,c73r71,c73k73,go_sem,seval,↓reduceIte,hc,zfk (show 0<IntKind.bits .u64 by decide),w1,w2,w3,w4,zae lh,zae ha,zc5 hr,za1,e1,gh,ga,hN,hcall,zbT hcal,h0]
    refine⟨(i+j) / 2 - i,by omega,i,(i+j) / 2,rfl,h1,by omega,by omega,h4,fun h x1 x2 x3=>h0 (hm _ _ (by omega) x1 x2 x3),?_⟩
    rw[zao (by simp)]
  ·have hc:¬(i:Int)<(j:Int):=by omega
   obtain rfl:i=j:=by omega
   simp -dsimp -implicitDefEqProofs only[c73b11,c73b19,c73b33,c73b41,c73b62,c73r64,c73r65,c73k67,c73r68,c73k70,c73r71,c73k73,go_sem,seval,↓reduceIte,hc]
   exact h i h1 h3 h4 h5 _
theorem zse(c:TE->TE->Int)(fv:AV)(D:TE->Prop)(hp:Heap)(r:Nat)(hg:CmpF c fv D hp r)(hr:r<hp.length)(xs:List TE)(N m i0 j0:Nat)(hN:xs.length=N)(hN':N<1000000000)(ha:m<N)(hj:j0<=N)(hij:i0<=j0)(hD:∀h,h<N->D (at' xs h))
  (hm:∀h h',i0<=h'->h'<=h->h<j0->¬c (at' xs m) (at' xs h)<0->¬c (at' xs m) (at' xs h')<0)
  (fr:Fr)(Q:AExit->St->Prop)
  (hfr:fr.keep [0,2,4,14,15]=[(0,.slv (some 4) r N 0 N),(2,.pv none (.int .i64 m)),(4,fv),(14,.pv none (.int .i64 i0)),(15,.pv none (.int .i64 j0))])
  (h:∀k,i0<=k->k<=j0->(∀h,i0<=h->h<k->¬c (at' xs m) (at' xs h)<0)->(∀h,k<=h->h<j0->c (at' xs m) (at' xs h)<0)->∀rest,Q (.exit 4) ⟨(0,.slv (some 4) r N 0 N)::(2,.pv none (.int .i64 m))::(4,fv)::(14,.pv none (.int .i64 k))::rest,hp.set r (obj xs)⟩):
  W Z L 0 (.loop [0,2,4,14,15] c73b33) ⟨fr,hp.set r (obj xs)⟩ Q:=by
 have e1:∀A,(hp.set r A)[r]? =some A:=fun A=>by simp[hr]
 refine zaE (fun n st=>∃i j:Nat,n=j - i/\i0<=i/\i<=j/\j<=j0/\(∀h,i0<=h->h<i->¬c (at' xs m) (at' xs h)<0)/\(∀h,j<=h->h<j0->c (at' xs m) (at' xs h)<0)/\
  st=⟨[(0,.slv (some 4) r N 0 N),(2,.pv none (.int .i64 m)),(4,fv),(14,.pv none (.int .i64 i)),(15,.pv none (.int .i64 j))],hp.set r (obj xs)⟩) (n:=j0 - i0) ⟨i0,j0,rfl,by omega,hij,by omega,fun h h1 h2=>by omega,fun h h1 h2=>by omega,?_⟩ ?_
 ·rw[hfr]
 ·rintro n st ⟨i,j,hn,h1,h2,h3,h4,h5,rfl⟩
  by_cases hlt:i<j
  ·have hc:(i:Int)<(j:Int):=by omega
   have w1:IntKind.i64.wrap ((i:Int)+(j:Int))=((i+j:Nat):Int):=by rw[zaj (by omega) (by omega)];omega
   have w2:IntKind.u64.wrap ((i+j:Nat):Int)=((i+j:Nat):Int):=zfG (by omega) (by omega)
   have w3:IntKind.i64.wrap (((i+j:Nat):Int) / 2)=(((i+j) / 2:Nat):Int):=by rw[zaj (by omega) (by omega)];omega
   have w4:IntKind.i64.wrap ((((i+j) / 2:Nat):Int)+1)=(((i+j) / 2+1:Nat):Int):=by rw[zaj (by omega) (by omega)];omega
   have lh:(i+j) / 2<N:=by omega
   have gh:=zd8 (xs:=xs) (i:=(i+j) / 2) (by omega)
   have ga:=zd8 (xs:=xs) (i:=m) (by omega)
   obtain⟨g,fs,cs,hcal,hg'⟩:=hg
   have hcall:=hg' _ _ (hD m ha) (hD _ lh)
   by_cases h0:c (at' xs m) (at' xs ((i+j) / 2))<0
   ·simp -dsimp -implicitDefEqProofs only[c73b11,c73b19,c73b33,c73b41,c73b62,c73r64,c73r65,c73k67,c73r68,c73k70,c73r71,c73k73,go_sem,seval,↓reduceIte,hc,zfk (show 0<IntKind.bits .u64 by decide),w1,w2,w3,w4,zae lh,zae ha,zc5 hr,za1,e1,gh,ga,hN,hcall,zbT hcal,h0]
    refine⟨(i+j) / 2 - i,by omega,i,(i+j) / 2,rfl,h1,by omega,by omega,h4,fun h x1 x2=>Classical.byContradiction fun x3=>hm _ _ (by omega) x1 x2 x3 h0,?_⟩
    rw[zao (by simp)]
   ·simp -dsimp -implicitDefEqProofs only[c73b11,c73b19,c73b33,c73b41,c73b62,c73r64,c73r65,c73k67,c73r68,c73k70,c73r71,c73k73,go_sem,seval,↓reduceIte,hc,zfk (show 0<IntKind.bits .u64 by decide),w1,w2,w3,w4,zae lh,zae ha,zc5 hr,za1,e1,gh,ga,hN,hcall,zbT hcal,h0]
    refine⟨j - ((i+j) / 2+1),by omega,(i+j) / 2+1,j,rfl,by omega,by omega,h3,fun h x1 x2=>hm _ _ x1 (by omega) (by omega) h0,h5,?_⟩
    rw[zao (by simp)]
  ·have hc:¬(i:Int)<(j:Int):=by omega
   obtain rfl:i=j:=by omega
   simp -dsimp -implicitDefEqProofs only[c73b11,c73b19,c73b33,c73b41,c73b62,c73r64,c73r65,c73k67,c73r68,c73k70,c73r71,c73k73,go_sem,seval,↓reduceIte,hc]
   exact h i h1 h3 h4 h5 _
theorem zqU(c:TE->TE->Int)(fv:AV)(D:TE->Prop)(hp:Heap)(r:Nat)(hg:CmpF c fv D hp r)(hr:r<hp.length)(xs:List TE)(N a m b mid n p i0 j0:Nat)(hN:xs.length=N)(hN':N<1000000000)(hj:j0<=N)(hp1:p<N+i0)(hp2:j0<=p+1)(hij:i0<=j0)(hD:∀h,h<N->D (at' xs h))
  (hm:∀h h',i0<=h'->h'<=h->h<j0->¬c (at' xs (p - h)) (at' xs h)<0->¬c (at' xs (p - h')) (at' xs h')<0)(hb:p<1000000000+1000000000)
  (fr:Fr)(Q:AExit->St->Prop)
  (hfr:fr.keep [0,1,2,3,4,18,19,20,21,22]=[(0,.slv (some 4) r N 0 N),(1,.pv none (.int .i64 a)),(2,.pv none (.int .i64 m)),(3,.pv none (.int .i64 b)),(4,fv),(18,.pv none (.int .i64 mid)),(19,.pv none (.int .i64 n)),(20,.pv none (.int .i64 i0)),(21,.pv none (.int .i64 j0)),(22,.pv none (.int .i64 p))])
  (h:∀k,i0<=k->k<=j0->(∀h,i0<=h->h<k->¬c (at' xs (p - h)) (at' xs h)<0)->(∀h,k<=h->h<j0->c (at' xs (p - h)) (at' xs h)<0)->
   ∀rest,Q (.exit 8) ⟨(0,.slv (some 4) r N 0 N)::(1,.pv none (.int .i64 a))::(2,.pv none (.int .i64 m))::(3,.pv none (.int .i64 b))::(4,fv)::(18,.pv none (.int .i64 mid))::(19,.pv none (.int .i64 n))::(20,.pv none (.int .i64 k))::rest,hp.set r (obj xs)⟩):
  W Z L 0 (.loop [0,1,2,3,4,18,19,20,21,22] c73b62) ⟨fr,hp.set r (obj xs)⟩ Q:=by
 have e1:∀A,(hp.set r A)[r]? =some A:=fun A=>by simp[hr]
 refine zaE (fun k st=>∃i j:Nat,k=j - i/\i0<=i/\i<=j/\j<=j0/\(∀h,i0<=h->h<i->¬c (at' xs (p - h)) (at' xs h)<0)/\(∀h,j<=h->h<j0->c (at' xs (p - h)) (at' xs h)<0)/\
  st=⟨[(0,.slv (some 4) r N 0 N),(1,.pv none (.int .i64 a)),(2,.pv none (.int .i64 m)),(3,.pv none (.int .i64 b)),(4,fv),(18,.pv none (.int .i64 mid)),(19,.pv none (.int .i64 n)),(20,.pv none (.int .i64 i)),(21,.pv none (.int .i64 j)),(22,.pv none (.int .i64 p))],hp.set r (obj xs)⟩) (n:=j0 - i0) ⟨i0,j0,rfl,by omega,hij,by omega,fun h h1 h2=>by omega,fun h h1 h2=>by omega,?_⟩ ?_
 ·rw[hfr]
 ·rintro k st ⟨i,j,hn,h1,h2,h3,h4,h5,rfl⟩
  by_cases hlt:i<j
  ·have hc:(i:Int)<(j:Int):=by omega
   have w1:IntKind.i64.wrap ((i:Int)+(j:Int))=((i+j:Nat):Int):=by rw[zaj (by omega) (by omega)];omega
   have w2:IntKind.u64.wrap ((i+j:Nat):Int)=((i+j:Nat):Int):=zfG (by omega) (by omega)
   have w3:IntKind.i64.wrap (((i+j:Nat):Int) / 2)=(((i+j) / 2:Nat):Int):=by rw[zaj (by omega) (by omega)];omega
   have w4:IntKind.i64.wrap ((((i+j) / 2:Nat):Int)+1)=(((i+j) / 2+1:Nat):Int):=by rw[zaj (by omega) (by omega)];omega
   have w5:IntKind.i64.wrap ((p:Int) - (((i+j) / 2:Nat):Int))=((p - (i+j) / 2:Nat):Int):=by rw[zaj (by omega) (by omega)];omega
   have lh:(i+j) / 2<N:=by omega
   have lp:p - (i+j) / 2<N:=by omega
   have gh:=zd8 (xs:=xs) (i:=(i+j) / 2) (by omega)
   have ga:=zd8 (xs:=xs) (i:=p - (i+j) / 2) (by omega)
   obtain⟨g,fs,cs,hcal,hg'⟩:=hg
   have hcall:=hg' _ _ (hD _ lp) (hD _ lh)
   by_cases h0:c (at' xs (p - (i+j) / 2)) (at' xs ((i+j) / 2))<0
   ·simp -dsimp -implicitDefEqProofs only[c73b11,c73b19,c73b33,c73b41,c73b62,c73r64,c73r65,c73k67,c73r68,c73k70,c73r71,c73k73,go_sem,seval,↓reduceIte,hc,zfk (show 0<IntKind.bits .u64 by decide),w1,w2,w3,w4,w5,zae lh,zae lp,zc5 hr,za1,e1,gh,ga,hN,hcall,zbT hcal,h0]
    refine⟨(i+j) / 2 - i,by omega,i,(i+j) / 2,rfl,h1,by omega,by omega,h4,fun h x1 x2=>Classical.byContradiction fun x3=>hm _ _ (by omega) x1 x2 x3 h0,?_⟩
    rw[zao (by simp)]
   ·simp -dsimp -implicitDefEqProofs only[c73b11,c73b19,c73b33,c73b41,c73b62,c73r64,c73r65,c73k67,c73r68,c73k70,c73r71,c73k73,go_sem,seval,↓reduceIte,hc,zfk (show 0<IntKind.bits .u64 by decide),w1,w2,w3,w4,w5,zae lh,zae lp,zc5 hr,za1,e1,gh,ga,hN,hcall,zbT hcal,h0]
    refine⟨j - ((i+j) / 2+1),by omega,(i+j) / 2+1,j,rfl,by omega,by omega,h3,fun h x1 x2=>hm _ _ x1 (by omega) (by omega) h0,h5,?_⟩
    rw[zao (by simp)]
  ·have hc:¬(i:Int)<(j:Int):=by omega
   obtain rfl:i=j:=by omega
   simp -dsimp -implicitDefEqProofs only[c73b11,c73b19,c73b33,c73b41,c73b62,c73r64,c73r65,c73k67,c73r68,c73k70,c73r71,c73k73,go_sem,seval,↓reduceIte,hc]
   exact h i h1 h3 h4 h5 _

theorem zsx(hp:Heap)(r:Nat)(hr:r<hp.length)(N i a:Nat)(P B1 T:List TE)(x:TE)(hP:P.length=a)(hi:i=a+1+B1.length)(hN:N=(P++x::B1++T).length)(hN':N<1000000000)(fr:Fr)(Q:AExit->St->Prop)
  (hfr:fr.keep [0,10,13]=[(0,.slv (some 4) r N 0 N),(10,.pv none (.int .i64 i)),(13,.pv none (.int .i64 a))])
  (h:∀fr,Q (.exit 2) ⟨fr,hp.set r (obj (P++B1++x::T))⟩):
  W Z L 0 (.loop [0,10,13] c73b19) ⟨fr,hp.set r (obj (P++x::B1++T))⟩ Q:=by
 have e1:∀A,(hp.set r A)[r]? =some A:=fun A=>by simp[hr]
 have hNl:N=P.length+B1.length+T.length+1:=by(rw[hN];simp <;> omega)
 have w0:IntKind.i64.wrap ((i:Int) - 1)=((a+B1.length:Nat):Int):=by rw[zaj (by omega) (by omega)];omega
 refine zaE (fun k st=>∃(C1 C2:List TE),k=C2.length/\B1=C1++C2/\st=⟨[(0,.slv (some 4) r N 0 N),(10,.pv none (.int .i64 i)),(13,.pv none (.int .i64 ((a+C1.length:Nat):Int)))],hp.set r (obj (P++C1++x::C2++T))⟩) (n:=B1.length) ⟨[],B1,rfl,rfl,?_⟩ ?_
 ·rw[hfr]
  simp
 ·rintro k st ⟨C1,C2,hk,hB,rfl⟩
  have hBl:B1.length=C1.length+C2.length:=by rw[hB];simp
  have hlen:(P++C1++x::C2++T).length=N:=by(simp <;> omega)
  cases C2 with
  |nil=>
   have hc:¬((a+C1.length:Nat):Int)<((a+B1.length:Nat):Int):=by simp at hBl;omega
   simp -dsimp -implicitDefEqProofs only[c73b11,c73b19,c73b33,c73b41,c73b62,c73r64,c73r65,c73k67,c73r68,c73k70,c73r71,c73k73,go_sem,seval,↓reduceIte,hc,w0]
   rw[List.append_nil] at hB
   have e:P++C1++[x]++T=P++B1++x::T:=by rw[hB];simp
   rw[e]
   exact h _
  |cons y C2=>
   simp only[List.length_cons] at hBl hk
   have hc:((a+C1.length:Nat):Int)<((a+B1.length:Nat):Int):=by omega
   have w1:IntKind.i64.wrap (((a+C1.length:Nat):Int)+1)=((a+C1.length+1:Nat):Int):=by rw[zaj (by omega) (by omega)];omega
   have la:a+C1.length<N:=by omega
   have lb:a+C1.length+1<N:=by omega
   have s1:P++C1++x::y::C2++T=(P++C1)++x::(y::C2++T):=by simp
   have s2:P++C1++x::y::C2++T=(P++C1++[x])++y::(C2++T):=by simp
   have g1:(P++C1++x::y::C2++T)[a+C1.length]? =some x:=by rw[s1];exact zds (by simp;omega)
   have g2:(P++C1++x::y::C2++T)[a+C1.length+1]? =some y:=by rw[s2];exact zds (by simp;omega)
   have g3:((P++C1++x::y::C2++T).set (a+C1.length) y).set (a+C1.length+1) x=P++(C1++[y])++x::C2++T:=by
    rw[s1,zdt (by simp;omega)]
    have s3:(P++C1)++y::(y::C2++T)=(P++C1++[y])++y::(C2++T):=by simp
    rw[s3,zdt (by simp;omega)]
    simp
   generalize hxs:P++C1++x::y::C2++T=xs at g1 g2 g3 hlen ⊢
   simp -dsimp -implicitDefEqProofs only[c73b11,c73b19,c73b33,c73b41,c73b62,c73r64,c73r65,c73k67,c73r68,c73k70,c73r71,c73k73,go_sem,seval,↓reduceIte,hc,w0,w1,zae la,zae lb,zc5 hr,za1,zlv hr,e1,g1,g2,hlen,List.length_set,la,lb,g3]
   refine⟨C2.length,by omega,C1++[y],C2,rfl,by rw[hB];simp,?_⟩
   rw[zao (by simp)]
   simp
   rfl
theorem zsy(hp:Heap)(r:Nat)(hr:r<hp.length)(N i m:Nat)(P A2 T:List TE)(y:TE)(hP:P.length=i)(hi:m=i+A2.length)(hN:N=(P++A2++y::T).length)(hN':N<1000000000)(fr:Fr)(Q:AExit->St->Prop)
  (hfr:fr.keep [0,14,17]=[(0,.slv (some 4) r N 0 N),(14,.pv none (.int .i64 i)),(17,.pv none (.int .i64 m))])
  (h:∀fr,Q (.exit 6) ⟨fr,hp.set r (obj (P++y::A2++T))⟩):
  W Z L 0 (.loop [0,14,17] c73b41) ⟨fr,hp.set r (obj (P++A2++y::T))⟩ Q:=by
 have e1:∀A,(hp.set r A)[r]? =some A:=fun A=>by simp[hr]
 have hNl:N=P.length+A2.length+T.length+1:=by(rw[hN];simp <;> omega)
 refine zaE (fun k st=>∃(C1 C2:List TE),k=C1.length/\A2=C1++C2/\st=⟨[(0,.slv (some 4) r N 0 N),(14,.pv none (.int .i64 i)),(17,.pv none (.int .i64 ((i+C1.length:Nat):Int)))],hp.set r (obj (P++C1++y::C2++T))⟩) (n:=A2.length) ⟨A2,[],rfl,by simp,?_⟩ ?_
 ·rw[hfr,hi]
  simp
 ·rintro k st ⟨C1,C2,hk,hB,rfl⟩
  have hBl:A2.length=C1.length+C2.length:=by rw[hB];simp
  have hlen:(P++C1++y::C2++T).length=N:=by(simp <;> omega)
  rcases zbL C1 with rfl|⟨C3,x,rfl⟩
  ·have hc:¬((i:Nat):Int)<((i+([]:List TE).length:Nat):Int):=by simp
   simp -dsimp -implicitDefEqProofs only[c73b11,c73b19,c73b33,c73b41,c73b62,c73r64,c73r65,c73k67,c73r68,c73k70,c73r71,c73k73,go_sem,seval,↓reduceIte,hc,Int.lt_irrefl]
   rw[List.nil_append] at hB
   have e:P++[]++y::C2++T=P++y::A2++T:=by rw[hB];simp
   rw[e]
   exact h _
  ·have hxl:(C3++[x]).length=C3.length+1:=by simp
   have hc:((i:Nat):Int)<((i+(C3++[x]).length:Nat):Int):=by rw[hxl];omega
   have w1:IntKind.i64.wrap (((i+(C3++[x]).length:Nat):Int) - 1)=((i+C3.length:Nat):Int):=by rw[zaj (by omega) (by omega)];omega
   have la:i+(C3++[x]).length<N:=by omega
   have lb:i+C3.length<N:=by omega
   have s1:P++(C3++[x])++y::C2++T=(P++(C3++[x]))++y::(C2++T):=by simp
   have s2:P++(C3++[x])++y::C2++T=(P++C3)++x::(y::C2++T):=by simp
   have g1:(P++(C3++[x])++y::C2++T)[i+(C3++[x]).length]? =some y:=by rw[s1];exact zds (by simp;omega)
   have g2:(P++(C3++[x])++y::C2++T)[i+C3.length]? =some x:=by rw[s2];exact zds (by simp;omega)
   have g3:((P++(C3++[x])++y::C2++T).set (i+(C3++[x]).length) x).set (i+C3.length) y=P++C3++y::(x::C2)++T:=by
    rw[s1,zdt (by simp;omega)]
    have s3:(P++(C3++[x]))++x::(C2++T)=(P++C3)++x::(x::C2++T):=by simp
    rw[s3,zdt (by simp;omega)]
    simp
   generalize hxs:P++(C3++[x])++y::C2++T=xs at g1 g2 g3 hlen ⊢
   simp -dsimp -implicitDefEqProofs only[c73b11,c73b19,c73b33,c73b41,c73b62,c73r64,c73r65,c73k67,c73r68,c73k70,c73r71,c73k73,go_sem,seval,↓reduceIte,hc,w1,zae la,zae lb,zc5 hr,za1,zlv hr,e1,g1,g2,hlen,List.length_set,la,lb,g3]
   refine⟨C3.length,by omega,C3,x::C2,rfl,by rw[hB];simp,?_⟩
   rw[zao (by simp)]

set_option maxHeartbeats 4000000 in
theorem zqV(c:TE->TE->Int)(hC:Cmp c)(fv:AV)(D:TE->Prop)(hp:Heap)(r:Nat)(hg:CmpF c fv D hp r)(hr:r<hp.length)(N:Nat)(hN':N<100000000):∀(d a m b:Nat) (P A B R:List TE),b - a<=d->P.length=a->m=a+A.length->b=m+B.length->N=(P++A++B++R).length->0<A.length->0<B.length->Srt c A->Srt c B->(∀x∈P++A++B++R,D x)->
  S 73 [.slv (some 4) r N 0 N,.pv none (.int .i64 a),.pv none (.int .i64 m),.pv none (.int .i64 b),fv] (hp.set r (obj (P++A++B++R)))=some (.ret (.tuple []),hp.set r (obj (P++mrg c A B++R))):=by
 intro d
 induction d with
 |zero=>intro a m b P A B R hd hP hm hb hN hA hB;omega
 |succ d ih=>
  intro a m b P A B R hd hP hm hb hN hA hB sA sB hD
  have hNl:N=P.length+A.length+B.length+R.length:=by(rw[hN];simp <;> omega)
  have hDat:∀h,h<N->D (at' (P++A++B++R) h):=fun h hh=>hD _ (zr6 (by omega))
  have hsl:(hp.set r (obj (P++A++B++R))).length=hp.length:=by simp
  have w1:IntKind.i64.wrap ((m:Int) - (a:Int))=((A.length:Nat):Int):=by rw[zaj (by omega) (by omega)];omega
  have w2:IntKind.i64.wrap ((b:Int) - (m:Int))=((B.length:Nat):Int):=by rw[zaj (by omega) (by omega)];omega
  have atA:∀k,k<A.length->at' (P++A++B++R) (a+k)=at' A k:=fun k hk=>by
   have:=zqO (P:=P) (A:=A) (R:=B++R) hP hk
   rwa [<-List.append_assoc] at this
  have atB:∀k,k<B.length->at' (P++A++B++R) (m+k)=at' B k:=fun k hk=>zqO (P:=P++A) (A:=B) (R:=R) (by simp;omega) hk
  refine zdM (by simp) rfl rfl rfl rfl ?_
  by_cases hA1:A.length=1
  ·obtain⟨x,rfl⟩:∃x,A=[x]:=List.length_eq_one_iff.1 hA1
   have hc1:((1:Nat):Int)=1:=rfl
   simp -dsimp -implicitDefEqProofs only[c73b33,c73b41,c73b62,c73r64,c73r65,c73k67,c73r68,c73k70,c73r71,c73k73,go_sem,seval,↓reduceIte,w1,hc1]
   refine zsd c fv D hp r hg hr _ N a m b hN.symm (by omega) (by omega) (by omega) (by omega) hDat (fun h h' h1 h2 h3 h4=> ?_) _ _ rfl fun k k1 k2 k3 k4 rest=> ?_
   ·have e1:=atB (h - m) (by omega)
    have e2:=atB (h' - m) (by omega)
    rw[show m+(h - m)=h by omega] at e1
    rw[show m+(h' - m)=h' by omega] at e2
    rw[e1] at h4
    rw[e2]
    exact hC.lt_of_le_lt (zcw hC sB (by omega) (by omega)) h4
   ·have e0:=atA 0 (by simp)
    rw[Nat.add_zero] at e0
    have e0':at' [x] 0=x:=rfl
    rw[e0'] at e0
    rw[e0] at k3 k4
    simp -dsimp -implicitDefEqProofs only[c73b33,c73b41,c73b62,c73r64,c73r65,c73k67,c73r68,c73k70,c73r71,c73k73,go_sem,seval,↓reduceIte]
    have hsplit:P++[x]++B++R=P++x::(B.take (k - m))++(B.drop (k - m)++R):=by
     rw[show P++[x]++B++R=P++[x]++(B.take (k - m)++B.drop (k - m))++R by rw[List.take_append_drop]]
     simp only[List.append_assoc,List.cons_append,List.nil_append]
    have hmr:mrg c [x] B=B.take (k - m)++x::B.drop (k - m):=by
     have h1:=zdq hC (A:=[]) (U:=[x]) (V:=B.take (k - m)) (B:=B.drop (k - m)) (fun _ h=>by simp at h) (fun u hu v hv=>by
      simp at hu;subst hu
      obtain⟨i,hi,rfl⟩:=zc4 hv
      simp at hi
      rw[zeZ (by omega)]
      have:=k3 (m+i) (by omega) (by omega)
      rwa [atB i (by omega)] at this)
     have h2:mrg c [x] (B.drop (k - m))=x::B.drop (k - m):=zeX hC (A:=[x]) fun u hu v hv=>by
      simp at hu;subst hu
      obtain⟨i,hi,rfl⟩:=zc4 hv
      simp at hi
      rw[ze0]
      have:=k4 (k+i) (by omega) (by omega)
      have e:=atB (k - m+i) (by omega)
      rw[show m+(k - m+i)=k+i by omega] at e
      rw[e] at this
      have:=hC.neg u (at' B (k - m+i))
      omega
     rw[List.take_append_drop,List.nil_append,zd7,h2] at h1
     exact h1
    rw[hsplit]
    refine zsx hp r hr N k a P (B.take (k - m)) (B.drop (k - m)++R) x hP (by simp at hm ⊢;omega) (by rw[<-hsplit];exact hN) (by omega) _ _ rfl fun fr=> ?_
    simp -dsimp -implicitDefEqProofs only[c73b33,c73b41,c73b62,c73r64,c73r65,c73k67,c73r68,c73k70,c73r71,c73k73,go_sem,seval,↓reduceIte]
    rw[hmr]
    simp
  ·have hA1':¬((A.length:Nat):Int)=1:=by omega
   by_cases hB1:B.length=1
   ·obtain⟨y,rfl⟩:∃y,B=[y]:=List.length_eq_one_iff.1 hB1
    have hc1:((1:Nat):Int)=1:=rfl
    simp -dsimp -implicitDefEqProofs only[c73b11,c73b19,c73b62,c73r64,c73r65,c73k67,c73r68,c73k70,c73r71,c73k73,go_sem,seval,↓reduceIte,w1,w2,hA1',hc1]
    have e0:=atB 0 (by simp)
    rw[Nat.add_zero] at e0
    have e0':at' [y] 0=y:=rfl
    rw[e0'] at e0
    refine zse c fv D hp r hg hr _ N m a m hN.symm (by omega) (by simp at hNl;omega) (by omega) (by omega) hDat (fun h h' h1 h2 h3 h4=> ?_) _ _ rfl fun k k1 k2 k3 k4 rest=> ?_
    ·have e1:=atA (h - a) (by omega)
     have e2:=atA (h' - a) (by omega)
     rw[show a+(h - a)=h by omega] at e1
     rw[show a+(h' - a)=h' by omega] at e2
     rw[e1] at h4
     rw[e2]
     intro h5
     exact h4 (hC.lt_of_lt_le h5 (zcw hC sA (by omega) (by omega)))
    ·rw[e0] at k3 k4
     simp -dsimp -implicitDefEqProofs only[c73b11,c73b19,c73b62,c73r64,c73r65,c73k67,c73r68,c73k70,c73r71,c73k73,go_sem,seval,↓reduceIte]
     have hsplit:P++A++[y]++R=(P++A.take (k - a))++A.drop (k - a)++y::R:=by
      rw[show P++A++[y]++R=P++(A.take (k - a)++A.drop (k - a))++[y]++R by rw[List.take_append_drop]]
      simp only[List.append_assoc,List.cons_append,List.nil_append]
     have hmr:mrg c A [y]=A.take (k - a)++y::A.drop (k - a):=by
      have h1:=zdq hC (A:=A.take (k - a)) (U:=A.drop (k - a)) (V:=[y]) (B:=[]) (fun _ _ _ h=>by simp at h) (fun u hu v hv=>by
       simp at hv;subst hv
       obtain⟨i,hi,rfl⟩:=zc4 hu
       simp at hi
       rw[ze0]
       have:=k4 (k+i) (by omega) (by omega)
       have e:=atA (k - a+i) (by omega)
       rw[show a+(k - a+i)=k+i by omega] at e
       rwa [e] at this)
      have h2:mrg c (A.take (k - a)) [y]=A.take (k - a)++[y]:=zeX hC fun u hu v hv=>by
       simp at hv;subst hv
       obtain⟨i,hi,rfl⟩:=zc4 hu
       simp at hi
       rw[zeZ (by omega)]
       have:=k3 (a+i) (by omega) (by omega)
       rw[atA i (by omega)] at this
       have:=hC.neg (at' A i) v
       omega
      rw[List.take_append_drop,List.append_nil,zau,h2] at h1
      rw[h1]
      simp
     rw[hsplit]
     refine zsy hp r hr N k m (P++A.take (k - a)) (A.drop (k - a)) R y (by simp;omega) (by simp;omega) (by rw[<-hsplit];exact hN) (by omega) _ _ rfl fun fr=> ?_
     simp -dsimp -implicitDefEqProofs only[c73b11,c73b19,c73b62,c73r64,c73r65,c73k67,c73r68,c73k70,c73r71,c73k73,go_sem,seval,↓reduceIte]
     rw[hmr]
     simp
   ·have hB1':¬((B.length:Nat):Int)=1:=by omega
    have w3:IntKind.i64.wrap ((a:Int)+(b:Int))=((a+b:Nat):Int):=by rw[zaj (by omega) (by omega)];omega
    have w4:IntKind.u64.wrap ((a+b:Nat):Int)=((a+b:Nat):Int):=zfG (by omega) (by omega)
    have w5:IntKind.i64.wrap (((a+b:Nat):Int) / 2)=(((a+b) / 2:Nat):Int):=by rw[zaj (by omega) (by omega)];omega
    generalize hmid:(a+b) / 2=mid at w5
    have w6:IntKind.i64.wrap ((mid:Int)+(m:Int))=((mid+m:Nat):Int):=by rw[zaj (by omega) (by omega)];omega
    have w7:IntKind.i64.wrap (((mid+m:Nat):Int) - 1)=((mid+m - 1:Nat):Int):=by rw[zaj (by omega) (by omega)];omega
    have hm1:a<=mid:=by omega
    have hm2:mid<b:=by omega
    have tail:∀(k:Nat) (rest:Fr) (Q:AExit->St->Prop),a<=k->k<=m->k<=mid->mid+m - k<=b->(∀x∈A.take (k - a),∀y∈B.drop (mid - k),c x y<=0)->(∀u∈A.drop (k - a),∀v∈B.take (mid - k),c v u<0)->
      (∀fr,Q .normal ⟨fr,hp.set r (obj (P++mrg c A B++R))⟩)->
      W Z L 0 (.seq (.region true c73r64 [0,1,2,3,4,18,20,24]) (.seq (.seq (.region true c73r65 [0,1,2,3,4,18,20,24,185]) c73k67) (.seq (.seq (.region true c73r68 [0,1,3,4,18,20,24,199]) c73k70) (.seq (.region true c73r71 [0,3,4,18,24,213]) c73k73))))
       ⟨(0,.slv (some 4) r N 0 N)::(1,.pv none (.int .i64 a))::(2,.pv none (.int .i64 m))::(3,.pv none (.int .i64 b))::(4,fv)::(18,.pv none (.int .i64 mid))::(19,.pv none (.int .i64 ((mid+m:Nat):Int)))::(20,.pv none (.int .i64 k))::rest,hp.set r (obj (P++A++B++R))⟩ Q:=by
     intro k rest Q k1 k2 k3 k4 f1 f2 hQ
     have w8:IntKind.i64.wrap (((mid+m:Nat):Int) - (k:Int))=((mid+m - k:Nat):Int):=by rw[zaj (by omega) (by omega)];omega
     have lA1:(A.take (k - a)).length=k - a:=by(simp <;> omega)
     have lU:(A.drop (k - a)).length=m - k:=by(simp <;> omega)
     have lV:(B.take (mid - k)).length=mid - k:=by(simp <;> omega)
     have lB2:(B.drop (mid - k)).length=b - (mid+m - k):=by(simp <;> omega)
     have hmr:=zdq hC f1 f2
     rw[List.take_append_drop,List.take_append_drop] at hmr
     have hdat:P++A++B++R=(P++A.take (k - a))++A.drop (k - a)++B.take (mid - k)++(B.drop (mid - k)++R):=by
      rw[show P++A++B++R=P++(A.take (k - a)++A.drop (k - a))++(B.take (mid - k)++B.drop (mid - k))++R by rw[List.take_append_drop,List.take_append_drop]]
      simp only[List.append_assoc]
     have sA1:Srt c (A.take (k - a)):=sA.sublist (List.take_sublist _ _)
     have sU:Srt c (A.drop (k - a)):=sA.sublist (List.drop_sublist _ _)
     have sV:Srt c (B.take (mid - k)):=sB.sublist (List.take_sublist _ _)
     have sB2:Srt c (B.drop (mid - k)):=sB.sublist (List.drop_sublist _ _)
     rw[hdat] at hN hD ⊢
     rw[hmr] at hQ
     generalize A.take (k - a)=A1 at*
     generalize A.drop (k - a)=U at*
     generalize B.take (mid - k)=V at*
     generalize B.drop (mid - k)=B2 at*
     have hrot:=zo7 (fv) hp r hr k m (mid+m - k) N (P++A1) U V (B2++R) (by simp;omega) (by omega) (by omega) hN (by omega)
     refine zrr (fun st=>st=⟨[(0,.slv (some 4) r N 0 N),(1,.pv none (.int .i64 a)),(2,.pv none (.int .i64 m)),(3,.pv none (.int .i64 b)),(4,fv),(18,.pv none (.int .i64 mid)),(20,.pv none (.int .i64 k)),(24,.pv none (.int .i64 ((mid+m - k:Nat):Int)))],hp.set r (obj (P++A1++U++V++(B2++R)))⟩) ?_ ?_
     ·simp -dsimp -implicitDefEqProofs only[c73b11,c73b19,c73b33,c73b41,c73b62,c73r64,c73r65,c73k67,c73r68,c73k70,c73r71,c73k73,go_sem,seval,↓reduceIte,w8]
     rintro _ rfl
     refine zrr (fun st=>st.hp=hp.set r (obj (P++A1++V++U++(B2++R)))/\st.fr.look 0=some (.slv (some 4) r N 0 N)/\st.fr.look 1=some (.pv none (.int .i64 a))/\st.fr.look 3=some (.pv none (.int .i64 b))/\st.fr.look 4=some (fv)/\st.fr.look 18=some (.pv none (.int .i64 mid))/\st.fr.look 20=some (.pv none (.int .i64 k))/\st.fr.look 24=some (.pv none (.int .i64 ((mid+m - k:Nat):Int)))) ?_ ?_
     ·by_cases hU:k<m
      ·have hc1:(k:Int)<(m:Int):=by omega
       by_cases hV:m<mid+m - k
       ·have hc2:(m:Int)<((mid+m - k:Nat):Int):=by omega
        have hrot':=hrot (by omega) (by omega)
        simp -dsimp -implicitDefEqProofs only[c73b11,c73b19,c73b33,c73b41,c73b62,c73r64,c73r65,c73k67,c73r68,c73k70,c73r71,c73k73,go_sem,seval,↓reduceIte,hc1,hc2,hrot']
       ·have hc2:¬(m:Int)<((mid+m - k:Nat):Int):=by omega
        have hV0:V=[]:=List.length_eq_zero_iff.1 (by omega)
        subst hV0
        simp -dsimp -implicitDefEqProofs only[c73b11,c73b19,c73b33,c73b41,c73b62,c73r64,c73r65,c73k67,c73r68,c73k70,c73r71,c73k73,go_sem,seval,↓reduceIte,hc1,hc2,List.append_nil]
      ·have hc1:¬(k:Int)<(m:Int):=by omega
       have hU0:U=[]:=List.length_eq_zero_iff.1 (by omega)
       subst hU0
       simp -dsimp -implicitDefEqProofs only[c73b11,c73b19,c73b33,c73b41,c73b62,c73r64,c73r65,c73k67,c73r68,c73k70,c73r71,c73k73,go_sem,seval,↓reduceIte,hc1,List.append_nil]
     rintro⟨fr1,hp1⟩ ⟨x1,x2,x3,x4,x5,x6,x7,x8⟩
     simp only at x1 x2 x3 x4 x5 x6 x7 x8
     subst x1
     refine zrr (fun st=>st.hp=hp.set r (obj (P++mrg c A1 V++U++(B2++R)))/\st.fr.look 0=some (.slv (some 4) r N 0 N)/\st.fr.look 3=some (.pv none (.int .i64 b))/\st.fr.look 4=some (fv)/\st.fr.look 18=some (.pv none (.int .i64 mid))/\st.fr.look 24=some (.pv none (.int .i64 ((mid+m - k:Nat):Int)))) ?_ ?_
     ·by_cases hA1:a<k
      ·have hc1:(a:Int)<(k:Int):=by omega
       by_cases hV:k<mid
       ·have hc2:(k:Int)<(mid:Int):=by omega
        have hih:=ih a k mid P A1 V (U++(B2++R)) (by omega) hP (by omega) (by omega) (by rw[hN];simp;omega) (by omega) (by omega) sA1 sV (fun x hx=>hD x (by simp at hx ⊢;rcases hx with h|h|h|h|h|h <;> simp[h]))
        have e0:P++A1++V++(U++(B2++R))=P++A1++V++U++(B2++R):=by simp
        have e1:P++mrg c A1 V++(U++(B2++R))=P++mrg c A1 V++U++(B2++R):=by simp
        rw[e0,e1] at hih
        simp -dsimp -implicitDefEqProofs only[c73b11,c73b19,c73b33,c73b41,c73b62,c73r64,c73r65,c73k67,c73r68,c73k70,c73r71,c73k73,go_sem,seval,↓reduceIte,hc1,hc2,x2,x3,x4,x5,x6,x7,x8,hih]
       ·have hc2:¬(k:Int)<(mid:Int):=by omega
        have hV0:V=[]:=List.length_eq_zero_iff.1 (by omega)
        subst hV0
        simp -dsimp -implicitDefEqProofs only[c73b11,c73b19,c73b33,c73b41,c73b62,c73r64,c73r65,c73k67,c73r68,c73k70,c73r71,c73k73,go_sem,seval,↓reduceIte,hc1,hc2,x2,x3,x4,x5,x6,x7,x8,List.append_nil,zau]
      ·have hc1:¬(a:Int)<(k:Int):=by omega
       have hA0:A1=[]:=List.length_eq_zero_iff.1 (by omega)
       subst hA0
       simp -dsimp -implicitDefEqProofs only[c73b11,c73b19,c73b33,c73b41,c73b62,c73r64,c73r65,c73k67,c73r68,c73k70,c73r71,c73k73,go_sem,seval,↓reduceIte,hc1,x2,x3,x4,x5,x6,x7,x8,List.append_nil,zd7]
     rintro⟨fr2,hp2⟩ ⟨y1,y2,y4,y5,y6,y8⟩
     simp only at y1 y2 y4 y5 y6 y8
     subst y1
     have hml:(mrg c A1 V).length=A1.length+V.length:=zg2 A1 V
     by_cases hU:mid<mid+m - k
     ·have hc1:(mid:Int)<((mid+m - k:Nat):Int):=by omega
      by_cases hB2:mid+m - k<b
      ·have hc2:((mid+m - k:Nat):Int)<(b:Int):=by omega
       have hih:=ih mid (mid+m - k) b (P++mrg c A1 V) U B2 R (by omega) (by simp[hml];omega) (by omega) (by omega) (by rw[hN];simp[hml];omega) (by omega) (by omega) sU sB2 (fun x hx=>hD x (by
        simp only[List.mem_append,mem_mrg] at hx ⊢
        rcases hx with(((h|h|h)|h)|h)|h <;> simp[h]))
       have e0:P++mrg c A1 V++U++(B2++R)=P++mrg c A1 V++U++B2++R:=by simp
       have e1:P++mrg c A1 V++mrg c U B2++R=P++(mrg c A1 V++mrg c U B2)++R:=by simp
       rw[e1] at hih
       rw[e0]
       simp -dsimp -implicitDefEqProofs only[c73b11,c73b19,c73b33,c73b41,c73b62,c73r64,c73r65,c73k67,c73r68,c73k70,c73r71,c73k73,go_sem,seval,↓reduceIte,hc1,hc2,y2,y4,y5,y6,y8,hih]
       exact hQ _
      ·have hc2:¬((mid+m - k:Nat):Int)<(b:Int):=by omega
       have hB0:B2=[]:=List.length_eq_zero_iff.1 (by omega)
       subst hB0
       simp -dsimp -implicitDefEqProofs only[c73b11,c73b19,c73b33,c73b41,c73b62,c73r64,c73r65,c73k67,c73r68,c73k70,c73r71,c73k73,go_sem,seval,↓reduceIte,hc1,hc2,y2,y4,y5,y6,y8]
       have hQ:=hQ
       rw[zau] at hQ
       have e0:P++mrg c A1 V++U++R=P++(mrg c A1 V++U)++R:=by simp
       rw[e0]
       exact hQ _
     ·have hc1:¬(mid:Int)<((mid+m - k:Nat):Int):=by omega
      have hU0:U=[]:=List.length_eq_zero_iff.1 (by omega)
      subst hU0
      simp -dsimp -implicitDefEqProofs only[c73b11,c73b19,c73b33,c73b41,c73b62,c73r64,c73r65,c73k67,c73r68,c73k70,c73r71,c73k73,go_sem,seval,↓reduceIte,hc1,y2,y4,y5,y6,y8]
      have hQ:=hQ
      rw[zd7] at hQ
      have e0:P++mrg c A1 V++[]++(B2++R)=P++(mrg c A1 V++B2)++R:=by simp
      rw[e0]
      exact hQ _
    by_cases hmm:mid<m
    ·skip
     have hc:(mid:Int)<(m:Int):=by omega
     have w9:IntKind.i64.wrap (((mid+m:Nat):Int) - (b:Int))=((mid+m - b:Nat):Int):=by rw[zaj (by omega) (by omega)];omega
     simp -dsimp -implicitDefEqProofs only[c73b11,c73b19,c73b33,c73b41,go_sem,seval,↓reduceIte,w1,w2,hA1',hB1',w3,w4,zfk (show 0<IntKind.bits .u64 by decide),hmid,w5,w6,w7,hc,w9]
     refine zqU c fv D hp r hg hr _ N a m b mid (mid+m) (mid+m - 1) (mid+m - b) mid hN.symm (by omega) (by omega) (by omega) (by omega) (by omega) hDat (fun h h' h1 h2 h3 h4=> ?_) (by omega) _ _ rfl fun k k1 k2 k3 k4 rest=> ?_
     ·have e1:=atA (h - a) (by omega)
      have e2:=atA (h' - a) (by omega)
      have e3:=atB (mid+m - 1 - h - m) (by omega)
      have e4:=atB (mid+m - 1 - h' - m) (by omega)
      rw[show a+(h - a)=h by omega] at e1
      rw[show a+(h' - a)=h' by omega] at e2
      rw[show m+(mid+m - 1 - h - m)=mid+m - 1 - h by omega] at e3
      rw[show m+(mid+m - 1 - h' - m)=mid+m - 1 - h' by omega] at e4
      rw[e1,e3] at h4
      rw[e2,e4]
      have s1:c (at' A (h' - a)) (at' A (h - a))<=0:=zcw hC sA (by omega) (by omega)
      have s2:c (at' B (mid+m - 1 - h - m)) (at' B (mid+m - 1 - h' - m))<=0:=zcw hC sB (by omega) (by omega)
      intro h5
      exact h4 (hC.lt_of_le_lt s2 (hC.lt_of_lt_le h5 s1))
     ·simp -dsimp -implicitDefEqProofs only[go_sem,seval,↓reduceIte]
      refine tail k rest _ (by omega) (by omega) (by omega) (by omega) ?_ ?_ fun fr=> ?_
      ·intro x hx y hy
       obtain⟨i,hi,rfl⟩:=zc4 hx
       obtain⟨j,hj,rfl⟩:=zc4 hy
       simp at hi hj
       rw[zeZ (by omega),ze0]
       have h1:=k3 (k - 1) (by omega) (by omega)
       have e1:=atA (k - 1 - a) (by omega)
       have e3:=atB (mid - k) (by omega)
       rw[show a+(k - 1 - a)=k - 1 by omega] at e1
       rw[show m+(mid - k)=mid+m - 1 - (k - 1) by omega] at e3
       rw[e1,e3] at h1
       have s1:c (at' A i) (at' A (k - 1 - a))<=0:=zcw hC sA (by omega) (by omega)
       have s2:c (at' B (mid - k)) (at' B (mid - k+j))<=0:=zcw hC sB (by omega) (by omega)
       have s3:c (at' A (k - 1 - a)) (at' B (mid - k))<=0:=by have:=hC.neg (at' A (k - 1 - a)) (at' B (mid - k));omega
       exact hC.trans (hC.trans s1 s3) s2
      ·intro u hu v hv
       obtain⟨i,hi,rfl⟩:=zc4 hu
       obtain⟨j,hj,rfl⟩:=zc4 hv
       simp at hi hj
       rw[zeZ (by omega),ze0]
       have h1:=k4 k (by omega) (by omega)
       have e1:=atA (k - a) (by omega)
       have e3:=atB (mid - 1 - k) (by omega)
       rw[show a+(k - a)=k by omega] at e1
       rw[show m+(mid - 1 - k)=mid+m - 1 - k by omega] at e3
       rw[e1,e3] at h1
       have s1:c (at' A (k - a)) (at' A (k - a+i))<=0:=zcw hC sA (by omega) (by omega)
       have s2:c (at' B j) (at' B (mid - 1 - k))<=0:=zcw hC sB (by omega) (by omega)
       exact hC.lt_of_le_lt s2 (hC.lt_of_lt_le h1 s1)
      ·simp -dsimp -implicitDefEqProofs only[g73,go_sem,seval,↓reduceIte]
    ·skip
     have hc:¬(mid:Int)<(m:Int):=by omega
     simp -dsimp -implicitDefEqProofs only[c73b11,c73b19,c73b33,c73b41,go_sem,seval,↓reduceIte,w1,w2,hA1',hB1',w3,w4,zfk (show 0<IntKind.bits .u64 by decide),hmid,w5,w6,w7,hc]
     refine zqU c fv D hp r hg hr _ N a m b mid (mid+m) (mid+m - 1) a m hN.symm (by omega) (by omega) (by omega) (by omega) (by omega) hDat (fun h h' h1 h2 h3 h4=> ?_) (by omega) _ _ rfl fun k k1 k2 k3 k4 rest=> ?_
     ·have e1:=atA (h - a) (by omega)
      have e2:=atA (h' - a) (by omega)
      have e3:=atB (mid+m - 1 - h - m) (by omega)
      have e4:=atB (mid+m - 1 - h' - m) (by omega)
      rw[show a+(h - a)=h by omega] at e1
      rw[show a+(h' - a)=h' by omega] at e2
      rw[show m+(mid+m - 1 - h - m)=mid+m - 1 - h by omega] at e3
      rw[show m+(mid+m - 1 - h' - m)=mid+m - 1 - h' by omega] at e4
      rw[e1,e3] at h4
      rw[e2,e4]
      have s1:c (at' A (h' - a)) (at' A (h - a))<=0:=zcw hC sA (by omega) (by omega)
      have s2:c (at' B (mid+m - 1 - h - m)) (at' B (mid+m - 1 - h' - m))<=0:=zcw hC sB (by omega) (by omega)
      intro h5
      exact h4 (hC.lt_of_le_lt s2 (hC.lt_of_lt_le h5 s1))
     ·simp -dsimp -implicitDefEqProofs only[go_sem,seval,↓reduceIte]
      refine tail k rest _ (by omega) (by omega) (by omega) (by omega) ?_ ?_ fun fr=> ?_
      ·intro x hx y hy
       obtain⟨i,hi,rfl⟩:=zc4 hx
       obtain⟨j,hj,rfl⟩:=zc4 hy
       simp at hi hj
       rw[zeZ (by omega),ze0]
       have h1:=k3 (k - 1) (by omega) (by omega)
       have e1:=atA (k - 1 - a) (by omega)
       have e3:=atB (mid - k) (by omega)
       rw[show a+(k - 1 - a)=k - 1 by omega] at e1
       rw[show m+(mid - k)=mid+m - 1 - (k - 1) by omega] at e3
       rw[e1,e3] at h1
       have s1:c (at' A i) (at' A (k - 1 - a))<=0:=zcw hC sA (by omega) (by omega)
       have s2:c (at' B (mid - k)) (at' B (mid - k+j))<=0:=zcw hC sB (by omega) (by omega)
       have s3:c (at' A (k - 1 - a)) (at' B (mid - k))<=0:=by have:=hC.neg (at' A (k - 1 - a)) (at' B (mid - k));omega
       exact hC.trans (hC.trans s1 s3) s2
      ·intro u hu v hv
       obtain⟨i,hi,rfl⟩:=zc4 hu
       obtain⟨j,hj,rfl⟩:=zc4 hv
       simp at hi hj
       rw[zeZ (by omega),ze0]
       have h1:=k4 k (by omega) (by omega)
       have e1:=atA (k - a) (by omega)
       have e3:=atB (mid - 1 - k) (by omega)
       rw[show a+(k - a)=k by omega] at e1
       rw[show m+(mid - 1 - k)=mid+m - 1 - k by omega] at e3
       rw[e1,e3] at h1
       have s1:c (at' A (k - a)) (at' A (k - a+i))<=0:=zcw hC sA (by omega) (by omega)
       have s2:c (at' B j) (at' B (mid - 1 - k))<=0:=zcw hC sB (by omega) (by omega)
       exact hC.lt_of_le_lt s2 (hC.lt_of_lt_le h1 s1)
      ·simp -dsimp -implicitDefEqProofs only[g73,go_sem,seval,↓reduceIte]
end Go.Proofs.Yteaehiceghhajaa
namespace Go.Proofs.Yteaehiceghhajaa
open Go.Am
section
variable(c:TE->TE->Int) (hC:Cmp c) (fv:AV) (D:TE->Prop) (hp:Heap) (r:Nat) (hg:CmpF c fv D hp r) (hr:r<hp.length) (N:Nat) (hN':N<100000000)
include hC hg hr hN'
theorem zo6(xs:List TE)(hN:N=xs.length)(hD:∀x∈xs,D x):
  S 70 [.slv (some 4) r N 0 N,.pv none (.int .i64 N),fv] (hp.set r (obj xs))=some (.ret (.tuple []),hp.set r (obj (isort c xs))):=by
 have hsl:(hp.set r (obj xs)).length=hp.length:=by simp
 refine zdM (by simp) rfl rfl rfl rfl ?_
 simp -dsimp -implicitDefEqProofs only[go_sem,seval,↓reduceIte]
 /- the blocks -/
 refine zaE (fun n st=>∃(a:Nat) (Z:List TE),n=N - a/\a<=N/\Full c 20 (xs.take a) Z/\st=⟨[(0,.slv (some 4) r N 0 N),(1,.pv none (.int .i64 N)),(2,fv),(6,.pv none (.int .i64 20)),(7,.pv none (.int .i64 a)),(8,.pv none (.int .i64 ((a+20:Nat):Int)))],hp.set r (obj (Z++xs.drop a))⟩) (n:=N) ⟨0,[],rfl,Nat.zero_le _,.nil,?_⟩ ?_
 ·simp -dsimp -implicitDefEqProofs only[go_sem,seval,↓reduceIte]
  try simp
 ·rintro n st ⟨a,Z,hn,ha,hF,rfl⟩
  have hZ:Z.length=a:=by rw[hF.length];simp;omega
  have hD':∀x∈xs.drop a,D x:=fun x hx=>hD x (List.mem_of_mem_drop hx)
  by_cases hb:a+20<=N
  ·have hc:((a+20:Nat):Int)<=(N:Int):=by omega
   have w1:IntKind.i64.wrap (((a+20:Nat):Int)+20)=((a+20+20:Nat):Int):=by rw[zaj (by omega) (by omega)];omega
   have hx:(xs.drop a).take 20++(xs.drop a).drop 20=xs.drop a:=List.take_append_drop _ _
   have hl:((xs.drop a).take 20).length=20:=by simp;omega
   have hcall:=zft c hC fv D hp r hg hr a (a+20) N Z ((xs.drop a).take 20) ((xs.drop a).drop 20) hZ (by omega) (by simp[hZ];omega) (by omega) (fun x h=>hD' x (List.mem_of_mem_take h))
   rw[show Z++(xs.drop a).take 20++(xs.drop a).drop 20=Z++xs.drop a by rw[List.append_assoc,hx]] at hcall
   simp -dsimp -implicitDefEqProofs only[go_sem,seval,↓reduceIte,hc,w1,hcall]
   refine⟨N - (a+20),by omega,a+20,Z++isort c ((xs.drop a).take 20),rfl,by omega,?_,?_⟩
   ·have:=Full.snoc (c:=c) (n:=20) _ _ _ hl hF
    rwa [<-List.take_add] at this
   ·rw[zao (by simp),List.drop_drop]
  ·have hc:¬((a+20:Nat):Int)<=(N:Int):=by omega
   have hcall:=zft c hC fv D hp r hg hr a N N Z (xs.drop a) [] hZ (by simp;omega) (by simp[hZ];omega) (by omega) hD'
   simp only[List.append_nil] at hcall
   have hB:Blk c 20 xs (Z++isort c (xs.drop a)):=by
    have:=hF.blk (.last (xs.drop a) (by simp;omega))
    rwa [List.take_append_drop] at this
   simp -dsimp -implicitDefEqProofs only[go_sem,seval,↓reduceIte,hc,hcall]
   generalize Z++isort c (xs.drop a)=d0 at hB
   clear hcall hF hZ hD' ha hn hc hb Z a
   /- the merging -/
   refine zaE (fun n st=>∃(bs:Nat) (d:List TE),n=N - bs/\20<=bs/\Blk c bs xs d/\st=⟨[(0,.slv (some 4) r N 0 N),(1,.pv none (.int .i64 N)),(2,fv),(6,.pv none (.int .i64 bs))],hp.set r (obj d)⟩) (n:=N - 20) ⟨20,d0,rfl,Nat.le_refl _,hB,?_⟩ ?_
   ·simp -dsimp -implicitDefEqProofs only[go_sem,seval,↓reduceIte]
    try rfl
   ·rintro n1 st ⟨bs,d,hn1,hbs,hB,rfl⟩
    by_cases hlt:bs<N
    ·have hc:(bs:Int)<(N:Int):=by omega
     have w1:IntKind.i64.wrap (2*(bs:Int))=((0+2*bs:Nat):Int):=by rw[zaj (by omega) (by omega)];omega
     have w2:IntKind.i64.wrap ((bs:Int)*2)=((2*bs:Nat):Int):=by rw[zaj (by omega) (by omega)];omega
     simp -dsimp -implicitDefEqProofs only[go_sem,seval,↓reduceIte,hc,w1]
     refine zaE (fun n st=>∃(a:Nat) (Z d r0 r1:List TE),n=N - a/\a<=N/\xs=r0++r1/\r0.length=a/\Full c (2*bs) r0 Z/\Blk c bs r1 d/\st=⟨[(0,.slv (some 4) r N 0 N),(1,.pv none (.int .i64 N)),(2,fv),(6,.pv none (.int .i64 bs)),(7,.pv none (.int .i64 a)),(8,.pv none (.int .i64 ((a+2*bs:Nat):Int)))],hp.set r (obj (Z++d))⟩) (n:=N) ⟨0,[],d,[],xs,rfl,Nat.zero_le _,rfl,rfl,.nil,hB,?_⟩ ?_
     ·simp -dsimp -implicitDefEqProofs only[go_sem,seval,↓reduceIte]
      try rfl
     ·rintro n2 st ⟨a,Z,d,r0,r1,hn2,ha,hxs,hr0,hF,hB1,rfl⟩
      have hZ:Z.length=a:=by rw[hF.length,hr0]
      have hl1:a+r1.length=N:=by rw[hN,hxs];simp[hr0]
      have hDZ:∀x∈Z++d,D x:=fun x hx=>hD x (by
       rw[hxs]
       rcases List.mem_append.1 hx with h|h
       ·exact List.mem_append.2 (.inl (hF.mem.1 h))
       ·exact List.mem_append.2 (.inr (hB1.mem.1 h)))
      have w3:IntKind.i64.wrap ((a:Int)+(bs:Int))=((a+bs:Nat):Int):=by rw[zaj (by omega) (by omega)];omega
      by_cases hb:a+2*bs<=N
      ·have hc2:((a+2*bs:Nat):Int)<=(N:Int):=by omega
       obtain⟨x,y,r2,d2,e1,e2,lx,ly,ly0,hB2,hy⟩:=hB1.two (by omega) (by omega)
       have ly':y.length=bs:=by
        rcases Nat.lt_or_ge y.length bs with h|h
        ·have:=hy h;rw[e1,this] at hl1;simp at hl1;omega
        ·omega
       have w4:IntKind.i64.wrap (2*(bs:Int))=((2*bs:Nat):Int):=by rw[zaj (by omega) (by omega)];omega
       have w5:IntKind.i64.wrap (((a+2*bs:Nat):Int)+((2*bs:Nat):Int))=((a+2*bs+2*bs:Nat):Int):=by rw[zaj (by omega) (by omega)];omega
       have hld:=hB1.length
       have hcall:=zqV c hC fv D hp r hg hr N hN' (2*bs) a (a+bs) (a+2*bs) Z (isort c x) (isort c y) d2 (by omega) hZ (by rw[zan,lx]) (by rw[zan,ly'];omega) (by rw[e2] at hld;simp[zan] at hld ⊢;omega) (by rw[zan];omega) (by rw[zan];omega) (zcI hC x) (zcI hC y) (fun z hz=>hDZ z (by rw[e2];simpa using hz))
       rw[show Z++isort c x++isort c y++d2=Z++d by rw[e2];simp,<-zfl hC] at hcall
       simp -dsimp -implicitDefEqProofs only[go_sem,seval,↓reduceIte,hc2,w3,w4,w5,hcall]
       refine⟨N - (a+2*bs),by omega,a+2*bs,Z++isort c (x++y),d2,r0++(x++y),r2,rfl,hb,by rw[hxs,e1];simp,by simp[hr0,lx,ly'];omega,.snoc _ _ _ (by simp[lx,ly'];omega) hF,hB2,?_⟩
       rw[zao (by simp)]
      ·have hc2:¬((a+2*bs:Nat):Int)<=(N:Int):=by omega
       by_cases hm:a+bs<N
       ·have hc3:((a+bs:Nat):Int)<(N:Int):=by omega
        obtain⟨x,y,r2,d2,e1,e2,lx,ly,ly0,hB2,hy⟩:=hB1.two (by omega) (by omega)
        have ly':y.length<bs:=by rw[e1] at hl1;simp at hl1;omega
        have hr2:=hy ly'
        subst hr2
        have hd2:d2=[]:=List.length_eq_zero_iff.1 hB2.length
        subst hd2
        have hld:=hB1.length
        have hcall:=zqV c hC fv D hp r hg hr N hN' (2*bs) a (a+bs) N Z (isort c x) (isort c y) [] (by omega) hZ (by rw[zan,lx]) (by rw[zan];rw[e1] at hl1;simp at hl1;omega) (by rw[e2] at hld;simp[zan] at hld ⊢;omega) (by rw[zan];omega) (by rw[zan];omega) (zcI hC x) (zcI hC y) (fun z hz=>hDZ z (by rw[e2];simpa using hz))
        rw[show Z++isort c x++isort c y++[]=Z++d by rw[e2];simp,<-zfl hC] at hcall
        simp -dsimp -implicitDefEqProofs only[go_sem,seval,↓reduceIte,hc2,hc3,w2,w3,hcall]
        have hres:=hF.blk (.last r1 (by omega:r1.length<=2*bs))
        rw[<-hxs] at hres
        refine⟨N - 2*bs,by omega,2*bs,Z++isort c r1,rfl,by omega,hres,?_⟩
        rw[zao (by simp),e1]
        simp
       ·have hc3:¬((a+bs:Nat):Int)<(N:Int):=by omega
        have hd:=hB1.whole (by omega)
        simp -dsimp -implicitDefEqProofs only[go_sem,seval,↓reduceIte,hc2,hc3,w2,w3]
        have hres:=hF.blk (.last r1 (by omega:r1.length<=2*bs))
        rw[<-hxs] at hres
        refine⟨N - 2*bs,by omega,2*bs,Z++isort c r1,rfl,by omega,hres,?_⟩
        rw[zao (by simp),hd]
    ·have hc:¬(bs:Int)<(N:Int):=by omega
     have hd:=hB.whole (by omega)
     simp -dsimp -implicitDefEqProofs only[go_sem,seval,↓reduceIte,hc]
     rw[hd]
end
end Go.Proofs.Yteaehiceghhajaa
namespace Go.Proofs.Yteaehiceghhajaa
open Go.Am
theorem zql(hp:Heap)(x:Int):S 65 [.pv none (.int .i64 x)] hp=some (.ret (.pv none (.bool false)),hp):=by
 refine zap rfl rfl rfl (zab [(none,.int .i64 x)]) rfl ?_
 (repeat' (first|(simp -dsimp -implicitDefEqProofs only[go_sem,seval,↓reduceIte, *])|(refine zas (fun _=> ?_) (fun _=> ?_))))
theorem zoO(hp:Heap)(x y:Int):S 54 [.pv none (.int .i64 x),.pv none (.int .i64 y)] hp=some (.ret (.pv none (.int .i64 (cmpI x y))),hp):=by
 refine zap rfl rfl rfl (zab [(none,.int .i64 x),(none,.int .i64 y)]) rfl ?_
 (repeat' (first|(simp -dsimp -implicitDefEqProofs only[go_sem,seval,↓reduceIte,zql,cmpI, *])|(refine zas (fun _=> ?_) (fun _=> ?_))))
theorem zmK(hp:Heap)(x:Int):S 66 [.pv none (.int .i64 x)] hp=some (.ret (.pv none (.bool false)),hp):=by
 refine zap rfl rfl rfl (zab [(none,.int .i64 x)]) rfl ?_
 (repeat' (first|(simp -dsimp -implicitDefEqProofs only[go_sem,seval,↓reduceIte, *])|(refine zas (fun _=> ?_) (fun _=> ?_))))
theorem zkO(hp:Heap)(x y:Int):S 55 [.pv none (.int .i64 x),.pv none (.int .i64 y)] hp=some (.ret (.pv none (.int .i64 (cmpI x y))),hp):=by
 refine zap rfl rfl rfl (zab [(none,.int .i64 x),(none,.int .i64 y)]) rfl ?_
 (repeat' (first|(simp -dsimp -implicitDefEqProofs only[go_sem,seval,↓reduceIte,zmK,cmpI, *])|(refine zas (fun _=> ?_) (fun _=> ?_))))
theorem zjy(hp:Heap)(x y:List UInt8):S 67 [.pv none (.str x),.pv none (.str y)] hp=some (.ret (.pv none (.int .i64 (Lib.compareBytes x y))),hp):=by
 refine zap rfl rfl rfl (zab [(none,.str x),(none,.str y)]) rfl ?_
 have h:∀hp,S 71 [.pv none (.str x),.pv none (.str y)] hp=some (.ret (.pv none (.int .i64 (Lib.compareBytes x y))),hp):=fun hp=>(zqe (p:=zhU) rfl _ _).trans rfl
 (repeat' (first|(simp -dsimp -implicitDefEqProofs only[go_sem,seval,↓reduceIte, *])|(refine zas (fun _=> ?_) (fun _=> ?_))))
theorem ze1(hp:Heap)(x y:List UInt8):S 56 [.pv none (.str x),.pv none (.str y)] hp=some (.ret (.pv none (.int .i64 (Lib.compareBytes x y))),hp):=by
 refine zap rfl rfl rfl (zab [(none,.str x),(none,.str y)]) rfl ?_
 (repeat' (first|(simp -dsimp -implicitDefEqProofs only[go_sem,seval,↓reduceIte,zjy, *])|(refine zas (fun _=> ?_) (fun _=> ?_))))
theorem zjz(a b:Tm)(ih:∀u,u∈a.args->∀(b:Tm) (hp:Heap),u.size<1000000000->u.fits=true->b.fits=true->S 37 [u.av,b.av] hp=some (.ret (.pv none (.int .i64 (u.cmp b))),hp))
  (ha:a.size<1000000000)(fa:a.fits=true)(fb:b.fits=true)(hlb:a.args.length=b.args.length)(p:PV)(fr:Fr)(Q:AExit->St->Prop)
  (hfr:fr.keep [3,57,58,59]=[(3,.ptr 1 0),(57,.pv none (.sl (some 4) (Tm.pvs a.args))),(58,.pv none (.int .i64 (a.args.length:Int))),(59,.pv none (.int .i64 0))])
  (h:Tm.cmps a.args b.args=0->∀fr hp,Q (.exit 0) ⟨fr,hp⟩)(h':Tm.cmps a.args b.args≠0->∀hp r,Q .ret ⟨(4,.pv none (.int .i64 (Tm.cmps a.args b.args)))::r,hp⟩):
  W (sem (find tab) prim) (sloop (find tab) prim) 0 (.loop [3,57,58,59] c37b27) ⟨fr,[.box (some 4) (.pv (some 4) a.pv),.box (some 4) (.pv (some 4) b.pv),.box (some 4) (.pv (some 4) p)]⟩ Q:=by
 have hts:=a.size_eq
 have hlen:=Tm.zsz a.args
 refine zaE (fun n st=>∃(i:Nat),n=a.args.length - i/\i<=a.args.length/\Tm.cmps a.args b.args=Tm.cmps (a.args.drop i) (b.args.drop i)/\
  st=⟨[(3,.ptr 1 0),(57,.pv none (.sl (some 4) (Tm.pvs a.args))),(58,.pv none (.int .i64 (a.args.length:Int))),(59,.pv none (.int .i64 i))],[.box (some 4) (.pv (some 4) a.pv),.box (some 4) (.pv (some 4) b.pv),.box (some 4) (.pv (some 4) p)]⟩) (n:=a.args.length) ⟨0,rfl,Nat.zero_le _,rfl,?_⟩ ?_
 ·rw[hfr]
  rfl
 ·rintro n st ⟨i,hn,hi,he,rfl⟩
  by_cases hi':i<a.args.length
  ·have hc:(i:Int)<(a.args.length:Int):=by omega
   obtain⟨u,hu⟩:∃u,a.args[i]? =some u:=⟨_,List.getElem?_eq_getElem hi'⟩
   obtain⟨w,hw⟩:∃w,b.args[i]? =some w:=⟨_,List.getElem?_eq_getElem (by omega)⟩
   have hum:=List.mem_of_getElem? hu
   have husz:=Tm.zsE hum
   have hcall:=fun hp=>ih u hum w hp (by omega) (Tm.zsC fa hum) (Tm.zsC fb (List.mem_of_getElem? hw))
   simp only[Tm.av] at hcall
   have w2:IntKind.i64.wrap ((i:Int)+1)=((i+1:Nat):Int):=by rw[zaj (by omega) (by omega)];omega
   rw[Tm.zsO hu hw] at he
   by_cases h0:u.cmp w=0
   ·rw[h0,zdN] at he
    simp -dsimp -implicitDefEqProofs only[c37b27,go_sem,seval,↓reduceIte,zag,Tm.pvs_len,hc,zad (Tm.pvs_get hu),zad (Tm.pvs_get hw),hcall,w2,h0]
    refine⟨a.args.length - (i+1),by omega,i+1,rfl,by omega,he,?_⟩
    rfl
   ·simp -dsimp -implicitDefEqProofs only[c37b27,go_sem,seval,↓reduceIte,zag,Tm.pvs_len,hc,zad (Tm.pvs_get hu),zad (Tm.pvs_get hw),hcall,w2,h0]
    rw[zfH h0] at he
    have:=h' (by rw[he];exact h0)
    rw[he] at this
    exact this _ _
  ·have hc:¬(i:Int)<(a.args.length:Int):=by omega
   obtain rfl:i=a.args.length:=by omega
   simp -dsimp -implicitDefEqProofs only[c37b27,go_sem,seval,↓reduceIte,zag,Tm.pvs_len,hc]
   rw[List.drop_length,Tm.zsH] at he
   exact h he _ _

set_option maxHeartbeats 4000000 in
theorem ze2:∀(a b:Tm) (hp:Heap),a.size<1000000000->a.fits=true->b.fits=true->S 37 [a.av,b.av] hp=some (.ret (.pv none (.int .i64 (a.cmp b))),hp):=by
 intro a
 induction a using Tm.zsF with
 |h a ih=>
  intro b hp ha fa fb
  refine zap rfl rfl rfl (zab [(some 4,a.pv),(some 4,b.pv)]) rfl ?_
  rw[Tm.zsM]
  have loop:=zjz a b ih ha fa fb
  clear ih
  have hb:zdW [(none,(.pv none (.int .i64 (0)))),(none,(.pv none (.int .i64 (0)))),(none,(.pv none (.int .i64 (0)))),(none,(.pv none (.int .i64 (0))))] [0,1,2,3] [.pv none (.int .i64 (0)),.pv none (.int .i64 (1)),.pv none (.int .i64 (2)),.pv none (.int .i64 (3))]=some (.pv (some 4) (.agg [(none,.int .i64 0),(none,.int .i64 1),(none,.int .i64 2),(none,.int .i64 3)])):=rfl
  have h0:∀r:Nat,zbV none 4 [.ptr r 0,.pv none (.int .i64 0)]=some (.ptr r 0):=fun r=>rfl
  have h1:∀r:Nat,zbV none 4 [.ptr r 0,.pv none (.int .i64 1)]=some (.ptr r 1):=fun r=>by rw[zdn none (by decide)];simp[Sh.size]
  have h2:∀r:Nat,zbV none 4 [.ptr r 0,.pv none (.int .i64 2)]=some (.ptr r 2):=fun r=>by rw[zdn none (by decide)];simp[Sh.size]
  have h3:∀r:Nat,zbV none 4 [.ptr r 0,.pv none (.int .i64 3)]=some (.ptr r 3):=fun r=>by rw[zdn none (by decide)];simp[Sh.size]
  have hc:=zoH
  have hcmp:=zoO
  have hcmp64:=zkO
  have hstr:=ze1
  have fin:Kept (a.name=[]->a.args=[]->b.name=[]->b.args=[]->AV.pv none (.int .i64 (cmpI a.n b.n))=AV.pv none (.int .i64 (if cmpI a.n b.n=0 then if cmpI (a.args.length:Int) (b.args.length:Int)=0 then if Lib.compareBytes a.name b.name=0 then Tm.cmps a.args b.args else Lib.compareBytes a.name b.name else cmpI (a.args.length:Int) (b.args.length:Int) else cmpI a.n b.n))):=by
   intro h1 h2 h3 h4
   rw[h1,h2,h3,h4]
   simp only[show cmpI (([]:List Tm).length:Int) (([]:List Tm).length:Int)=0 from by decide,Lib.compareBytes,Tm.cmps,if_true]
   split <;> simp_all
  have hlen:Kept (cmpI (a.args.length:Int) (b.args.length:Int)=0->a.args.length=b.args.length):=fun h=>by have:=cmpI_zero.1 h;omega
  rcases Tm.zsR fa with⟨ka,xa,ya⟩|⟨ka,xa,ya⟩|⟨ka,xa,ya⟩|⟨ka,xa⟩ <;>
  rcases Tm.zsR fb with⟨kb,xb,yb⟩|⟨kb,xb,yb⟩|⟨kb,xb,yb⟩|⟨kb,xb⟩ <;> (try replace ya:=Kept.mk ya) <;> (try replace yb:=Kept.mk yb) <;> (try replace xa:=Kept.mk (show a.name=[] from xa)) <;> (try replace xb:=Kept.mk (show b.name=[] from xb))
  all_goals (repeat' (first|(simp -dsimp -implicitDefEqProofs only[go_sem,seval,↓reduceIte,zaK,zdm,zaN,zag,Tm.pvs_len,zbK, *])|(refine zas (fun _=> ?_) (fun _=> ?_))))
  all_goals first
   |(exact fin xa ya xb yb)
   |(refine loop (hlen.out (by assumption)) _ _ _ rfl (fun hz fr hp=> ?_) (fun hz hp r=> ?_) <;> simp -dsimp -implicitDefEqProofs only[go_sem,seval,↓reduceIte,zbK,zdo, *])
   |trace_state
end Go.Proofs.Yteaehiceghhajaa
