/- What all claims of the seat share. -/
import Derived.Test.YtmajapjbogmefaaRows
import Derived.Test.YtmajapjbogmefaaFns
import Derived.Test.YtmajapjbogmefaaAm5
set_option linter.unusedSimpArgs false
set_option linter.unusedVariables false
namespace Go.Proofs.Ytmajapjbogmefaa
open Go.Am Go.ChangeShapes Go.WideShapes Go.ChangeAt Go.RowKit
theorem Try.own:ownKnob Try.prog.godebug=none:=by kernel_rfl
theorem Try.zut:laidOutB Try.prog=true:=by kernel_rfl
theorem Try.zuv:Try.prog.follows .mixedOrders=true:=by kernel_rfl
def prim:FuncId->Option zcL:=fun _=>none
theorem zsP:zhz Try.prog prim:=zm8
theorem sound:SoundO Try.prog (sem (find tab) prim):=zoX Try.zuv (zqM ztD) zsP
def yes:Option (ARes × Heap)->Bool
 |some (.ret (.pv none (.bool true)),[])=>true
 |_=>false
theorem ztB{r:Option (ARes × Heap)}(h:yes r=true):r=some (.ret (.pv none (.bool true)),[]):=by
 unfold yes at h
 split at h
 ·rfl
 ·cases h
end Go.Proofs.Ytmajapjbogmefaa
namespace Go.Proofs.Ytmajapjbogmefaa
open Go.Am
noncomputable abbrev Z:=sem (find tab) prim
noncomputable abbrev S:=sem (find tab) prim .fn
noncomputable abbrev L:=sloop (find tab) prim

theorem zrN:∀(t:Tm) (hp:Heap) (r1 r2:Nat) (l:Nat),t.size<1000000000->l<1000000000->hp[r1]? =some (.box none (.pv none (.int .i64 ((l+1:Nat):Int))))->hp[r2]? =some (.box none (.func (.func 60) [] [.ptr r1 0,.ptr r2 0]))->
  S 60 [t.av,.ptr r1 0,.ptr r2 0] hp=some (.ret (.tuple []),hp.set r1 (.box none (.pv none (.int .i64 ((l+1 - t.size:Nat):Int))))):=by
 intro t
 induction t using Tm.zuc with
 |h t ih=>
  intro hp r1 r2 l ht hl h1 h2
  have hr1:=zl9 h1
  have hr2:=zl9 h2
  have hne:r1≠r2:=by
   rintro rfl
   rw[h1] at h2
   cases h2
  have hts:=t.size_eq
  have hlen:=Tm.zt8 t.args
  refine zaI rfl rfl rfl rfl ?_
  have e1:∀y x,(hp.set r1 y++[x])[r1]? =some y:=fun y x=>by rw[zdF (by simpa using hr1)];simp[hr1]
  have e2:∀y x,(hp.set r1 y++[x])[r2]? =some (.box none (.func (.func 60) [] [.ptr r1 0,.ptr r2 0])):=fun y x=>by rw[zdF (by simpa using hr2),List.getElem?_set_ne hne,h2]
  have e3:∀y x,(hp.set r1 y++[x])[hp.length]? =some x:=fun y x=>by simp
  have e4:∀y x z,(hp.set r1 y++[x]).set r1 z=hp.set r1 z++[x]:=fun y x z=>by rw[zpE (by simpa using hr1)];simp
  have e5:(↑(l+1) - 1:Int)=((l+1 - (1+Tm.sizes (t.args.take 0)):Nat):Int):=by simp[Tm.sizes]
  have w1:IntKind.i64.wrap ((l+1:Nat) - 1:Int)=((l+1 - (1+Tm.sizes (t.args.take 0)):Nat):Int):=by rw[zah (by omega) (by omega),e5]
  simp -dsimp -implicitDefEqProofs only[go_sem,seval,↓reduceIte,Tm.av,zdF hr1,h1,zdd,zpE hr1,w1]
  refine zbB (fun n st=>∃i:Nat,n=t.args.length - i/\i<=t.args.length/\st=⟨[(1,.ptr r1 0),(2,.ptr r2 0),(3,.ptr hp.length 0),(4,.pv none (.int .i64 i))],hp.set r1 (.box none (.pv none (.int .i64 ((l+1 - (1+Tm.sizes (t.args.take i)):Nat):Int))))++[.box (some 4) (.pv (some 4) t.pv)]⟩) ⟨0,rfl,Nat.zero_le _,?_⟩ ?_
  ·simp -dsimp -implicitDefEqProofs only[go_sem,seval,↓reduceIte]
   try rfl
  ·rintro n st ⟨i,hn,hi,rfl⟩
   by_cases h:i<t.args.length
   ·have hc:(i:Int)<(t.args.length:Int):=by omega
    obtain⟨u,hu⟩:∃u,t.args[i]? =some u:=⟨_,List.getElem?_eq_getElem h⟩
    have hst:=Tm.zuk hu
    have hum:=List.mem_of_getElem? hu
    have husz:=Tm.zul hum
    by_cases h0:0<((l+1 - (1+Tm.sizes (t.args.take i)):Nat):Int)
    ·obtain⟨l',hl'⟩:∃l':Nat,l+1 - (1+Tm.sizes (t.args.take i))=l'+1:=⟨l+1 - (1+Tm.sizes (t.args.take i)) - 1,by omega⟩
     have hcall:=ih u hum (hp.set r1 (.box none (.pv none (.int .i64 ((l'+1:Nat):Int))))++[.box (some 4) (.pv (some 4) t.pv)]) r1 r2 l' (by omega) (by omega) (e1 _ _) (e2 _ _)
     rw[e4] at hcall
     have e6:l'+1 - u.size=l+1 - (1+Tm.sizes (t.args.take (i+1))):=by omega
     have w2:IntKind.i64.wrap ((i:Int)+1)=((i+1:Nat):Int):=by rw[zah (by omega) (by omega)];omega
     rw[hl'] at h0 ⊢
     simp -dsimp -implicitDefEqProofs only[go_sem,seval,↓reduceIte,e1,e2,e3,e4,za7,Tm.pvs_len,hc,h0,zak (Tm.pvs_get hu),show AV.pv (some 4) u.pv=u.av from rfl,hcall,e6,w2]
     refine⟨t.args.length - (i+1),by omega,i+1,rfl,by omega,?_⟩
     rw[zam (by simp)]
    ·simp -dsimp -implicitDefEqProofs only[go_sem,seval,↓reduceIte,e1,e2,e3,e4,za7,Tm.pvs_len,hc,h0]
     rw[List.take_left' (by simp)]
     have hle:Tm.sizes (t.args.take i)<=Tm.sizes t.args:=Tm.zuf _ _
     congr 5
     omega
   ·have hc:¬(i:Int)<(t.args.length:Int):=by omega
    obtain rfl:i=t.args.length:=by omega
    simp -dsimp -implicitDefEqProofs only[go_sem,seval,↓reduceIte,e1,e2,e3,e4,za7,Tm.pvs_len,hc]
    rw[List.take_left' (by simp),List.take_length,hts]

theorem zqh(t:Tm)(hp:Heap)(h:t.size<1000000000):S 50 [t.av] hp=some (.ret (.pv none (.int .i64 ((min t.size 2001:Nat):Int))),hp):=by
 refine zaL rfl rfl rfl (zaf [(some 4,t.pv)]) rfl ?_
 have hc:=zrN t [.box (some 4) (.pv (some 4) t.pv),.box none (.pv none (.int .i64 2001)),.box none (.func (.func 60) [] [.ptr 1 0,.ptr 2 0])] 1 2 2000 h (by omega) rfl rfl
 have w1:IntKind.i64.wrap (2001 - ((2000+1 - t.size:Nat):Int))=((min t.size 2001:Nat):Int):=by rw[zah (by omega) (by omega)];omega
 simp only[Tm.av] at hc
 simp -dsimp -implicitDefEqProofs only[go_sem,seval,↓reduceIte,Tm.av,zj4 (Nat.zero_le _),hc,w1]

theorem zrO(t:Tm)(Q:AExit->St->Prop)(h:∀r,Q .normal ⟨(1,.ptr 0 0)::(3,.pv none (.bool t.node))::r,[.box (some 4) (.pv (some 4) t.pv)]⟩):
  W Z L 0 c59k15 ⟨[(1,.ptr 0 0),(3,.pv none (.bool false)),(6,.pv none (.int .i64 t.kind))],[.box (some 4) (.pv (some 4) t.pv)]⟩ Q:=by
 (repeat' (first|(simp -dsimp -implicitDefEqProofs only[c59k15,go_sem,seval,↓reduceIte,zbI,zeR,zdE,za7,Tm.pvs_len, *])|(refine zaz (fun _=> ?_) (fun _=> ?_))))
 all_goals (simp -dsimp -implicitDefEqProofs only[Tm.node,go_sem,seval,↓reduceIte, *] at h;exact h _)

theorem zs4:∀(t:Tm) (hp:Heap),t.size<1000000000->S 59 [t.av] hp=some (.ret (.pv none (.bool t.fits)),hp):=by
 intro t
 induction t using Tm.zuc with
 |h t ih=>
  intro hp ht
  have hts:=t.size_eq
  have hlen:=Tm.zt8 t.args
  refine zaL rfl rfl rfl (zaf [(some 4,t.pv)]) rfl ?_
  simp -dsimp -dsimp -implicitDefEqProofs only[go_sem,seval,↓reduceIte,zbI,zeR,zdE,za7,Tm.pvs_len]
  refine zrO t _ (fun r=> ?_)
  simp -dsimp -dsimp -implicitDefEqProofs only[go_sem,seval,↓reduceIte,zbI,zeR,zdE,za7,Tm.pvs_len]
  refine zbB (fun n st=>∃i:Nat,n=t.args.length - i/\i<=t.args.length/\st=⟨[(1,.ptr 0 0),(3,.pv none (.bool (t.node && Tm.fitsAll (t.args.take i)))),(4,.pv none (.int .i64 i))],[.box (some 4) (.pv (some 4) t.pv)]⟩) (n:=t.args.length) ⟨0,rfl,Nat.zero_le _,?_⟩ ?_
  ·simp -dsimp -implicitDefEqProofs only[go_sem,seval,↓reduceIte,Tm.fitsAll]
   try rfl
  ·rintro n st ⟨i,hn,hi,rfl⟩
   by_cases h:i<t.args.length
   ·have hc:(i:Int)<(t.args.length:Int):=by omega
    obtain⟨u,hu⟩:∃u,t.args[i]? =some u:=⟨_,List.getElem?_eq_getElem h⟩
    have hum:=List.mem_of_getElem? hu
    have husz:=Tm.zul hum
    have hcall:=fun hp=>ih u hum hp (by omega)
    have e6:Tm.fitsAll (t.args.take (i+1))=(Tm.fitsAll (t.args.take i) && u.fits):=Tm.zuo hu
    have w2:IntKind.i64.wrap ((i:Int)+1)=((i+1:Nat):Int):=by rw[zah (by omega) (by omega)];omega
    by_cases h0:(t.node && Tm.fitsAll (t.args.take i))=true
    ·simp -dsimp -dsimp -implicitDefEqProofs only[go_sem,seval,↓reduceIte,za7,Tm.pvs_len,hc,h0,zak (Tm.pvs_get hu),show AV.pv (some 4) u.pv=u.av from rfl,hcall,w2]
     refine⟨t.args.length - (i+1),by omega,i+1,rfl,by omega,?_⟩
     rw[e6,<-Bool.and_assoc,h0,Bool.true_and]
    ·simp -dsimp -implicitDefEqProofs only[go_sem,seval,↓reduceIte,za7,Tm.pvs_len,hc,h0]
     rw[Tm.zuj]
     have hp:Tm.fitsAll t.args=(Tm.fitsAll (t.args.take i) && Tm.fitsAll (t.args.drop i)):=by rw[<-Tm.zud,List.take_append_drop]
     rw[hp,<-Bool.and_assoc,Bool.eq_false_iff.2 h0]
     rfl
   ·have hc:¬(i:Int)<(t.args.length:Int):=by omega
    obtain rfl:i=t.args.length:=by omega
    simp -dsimp -implicitDefEqProofs only[go_sem,seval,↓reduceIte,za7,Tm.pvs_len,hc]
    rw[Tm.zuj,List.take_length]

theorem ziR(t:Tm)(hp:Heap)(h:t.size<1000000000):S 49 [t.av] hp=some (.ret (.pv none (.bool t.valid)),hp):=by
 refine zaL rfl rfl rfl (zaf [(some 4,t.pv)]) rfl ?_
 have h1:=fun hp=>zqh t hp h
 have h2:=fun hp=>zs4 t hp h
 unfold Tm.valid
 simp only[Tm.av] at h1 h2
 by_cases hs:t.size<=2000
 ·have hc:((min t.size 2001:Nat):Int)<=2000:=by omega
  (repeat' (first|(simp -dsimp -implicitDefEqProofs only[go_sem,seval,↓reduceIte,Tm.av, *])|(refine zaz (fun _=> ?_) (fun _=> ?_))))
 ·have hc:¬((min t.size 2001:Nat):Int)<=2000:=by omega
  (repeat' (first|(simp -dsimp -implicitDefEqProofs only[go_sem,seval,↓reduceIte,Tm.av, *])|(refine zaz (fun _=> ?_) (fun _=> ?_))))

end Go.Proofs.Ytmajapjbogmefaa
namespace Go.Proofs.Ytmajapjbogmefaa
open Go.Am
theorem zpS(l:List Tm)(hp:Heap)(r:Nat)(left:Int)(hl:Tm.sizes l<1000000000)(h0:0<=left)(h1:left<=131072)(hr:hp[r]? =some (.box none (.pv none (.int .i64 left)))):
  S 33 [.ptr r 0,.pv none (.sl (some 4) (Tm.pvs l))] hp=some (.ret (.pv none (.bool (zde left l).1)),hp.set r (.box none (.pv none (.int .i64 (zde left l).2)))):=by
 have hrl:=zl9 hr
 have hlen:=Tm.zt8 l
 refine zaI rfl rfl rfl rfl ?_
 simp -dsimp -implicitDefEqProofs only[go_sem,seval,↓reduceIte,Tm.pvs_len]
 refine zbB (fun n st=>∃(i:Nat) (b:Int),n=l.length - i/\i<=l.length/\0<=b/\b<=131072/\zde left l=zde b (l.drop i)/\st=⟨[(0,.ptr r 0),(7,.pv none (.sl (some 4) (Tm.pvs l))),(8,.pv none (.int .i64 l.length)),(9,.pv none (.int .i64 i))],hp.set r (.box none (.pv none (.int .i64 b)))⟩) (n:=l.length) ⟨0,left,rfl,Nat.zero_le _,h0,h1,rfl,?_⟩ ?_
 ·rw[zrj hr]
  rfl
 ·rintro n st ⟨i,b,hn,hi,hb0,hb1,hrf,rfl⟩
  by_cases h:i<l.length
  ·have hc:(i:Int)<(l.length:Int):=by omega
   obtain⟨u,hu⟩:∃u,l[i]? =some u:=⟨_,List.getElem?_eq_getElem h⟩
   have hum:=List.mem_of_getElem? hu
   have husz:u.size<1000000000:=Nat.lt_of_le_of_lt (Tm.zua hum) hl
   have hv:=fun hp=>ziR u hp husz
   have hs:=fun hp=>zqh u hp husz
   simp only[Tm.av] at hv hs
   obtain⟨H,hH⟩:∃H:Heap,H=hp.set r (.box none (.pv none (.int .i64 b))):=⟨_,rfl⟩
   have hHl:H.length=hp.length:=by rw[hH];simp
   have hHr:H[r]? =some (.box none (.pv none (.int .i64 b))):=by rw[hH];simp[hrl]
   have hHs:∀z,H.set r z=hp.set r z:=fun z=>by rw[hH];simp
   have hrH:r<H.length:=by omega
   have e5:∀y x c:AObj,(hp.set r y++[x]++[c])[r]? =some y:=fun y x c=>by rw[zdG (by simpa using hrl)];simp[hrl]
   rw[<-hH]
   have w2:IntKind.i64.wrap ((i:Int)+1)=((i+1:Nat):Int):=by rw[zah (by omega) (by omega)];omega
   rw[znB hu] at hrf
   by_cases hvu:u.valid=true
   ·have h20:=zfn hvu
    have e7:min u.size 2001=u.size:=by omega
    have w3:IntKind.i64.wrap (b - (u.size:Int))=b - (u.size:Int):=by rw[zah (by omega) (by omega)]
    rw[hvu] at hv
    rw[if_pos hvu] at hrf
    simp only[e7] at hs
    by_cases h0:b - (u.size:Int)<0
    ·rw[if_pos h0] at hrf
     simp -dsimp -implicitDefEqProofs only[go_sem,seval,↓reduceIte,hc,zak (Tm.pvs_get hu),ziJ,ziK,zdG hrH,zlw hrH,hHr,hHs,e5,hv,hs,zed,List.take_succ_cons,List.drop_succ_cons,List.all_cons,List.all_nil,zgJ ((zdG hrH _ _).trans hHr) ((zdG hrH _ _).trans hHr),w3,h0,hrf]
     simp[AV.refsIn,hHl]
    ·rw[if_neg h0] at hrf
     simp -dsimp -implicitDefEqProofs only[go_sem,seval,↓reduceIte,hc,zak (Tm.pvs_get hu),ziJ,ziK,zdG hrH,zlw hrH,hHr,hHs,e5,hv,hs,zed,List.take_succ_cons,List.drop_succ_cons,List.all_cons,List.all_nil,zgJ ((zdG hrH _ _).trans hHr) ((zdG hrH _ _).trans hHr),w3,h0,w2]
     refine⟨l.length - (i+1),by omega,i+1,b - (u.size:Int),rfl,by omega,by omega,by omega,hrf,?_⟩
     rw[List.append_assoc,zka (by simp) (by simp[AV.refsIn,hrl])]
   ·rw[Bool.not_eq_true] at hvu
    rw[hvu] at hv hrf
    simp only[Bool.false_eq_true,if_false] at hrf
    simp -dsimp -implicitDefEqProofs only[go_sem,seval,↓reduceIte,hc,zak (Tm.pvs_get hu),ziJ,ziK,zdG hrH,zlw hrH,hHr,hHs,e5,hv,hrf]
    simp[AV.refsIn,hHl]
    exact hH
  ·have hc:¬(i:Int)<(l.length:Int):=by omega
   obtain rfl:i=l.length:=by omega
   rw[List.drop_length] at hrf
   simp -dsimp -implicitDefEqProofs only[go_sem,seval,↓reduceIte,hc,hrf,zde]
   simp[AV.refsIn,List.take_of_length_le]
theorem zpT(p:Pr)(hp:Heap):S 32 [.pv (some 3) p.pv] hp=some (.ret (.pv none (.bool p.ok)),hp):=by
 refine zaL rfl rfl rfl (zaf [(some 3,p.pv)]) rfl ?_
 have h1:∀q:Pr,q.pv=.agg [(none,.str q.name),(none,.int .i64 q.arity),(none,.int .i64 q.aux)]:=fun _=>rfl
 simp only[h1]
 unfold Pr.ok
 (repeat' (first|(simp -dsimp -implicitDefEqProofs only[go_sem,seval,↓reduceIte, *])|(refine zaz (fun _=> ?_) (fun _=> ?_))))
 all_goals (simp_all <;> omega)

theorem znL{c:Bool}{left:Int}{l:List Gl}{i:Nat}{g:Gl}(h:l[i]? =some g):Gl.steps c left (l.drop i)=match g.step c left with
  |some (c',l')=>Gl.steps c' l' (l.drop (i+1))
  |none=>false:=by
 obtain⟨h1,rfl⟩:=List.getElem?_eq_some_iff.1 h
 rw[List.drop_eq_getElem_cons h1,Gl.steps]
 cases Gl.step c left l[i] with
 |none=>rfl
 |some q=>rfl
theorem zlB(f:Fl)(called:Bool)(left:Int)(h0:0<=left)(h1:left<=131072)(hs:∀g∈f.goals,Tm.sizes g.args<1000000000)(hlen:f.goals.length<1000000000)(Q:AExit->St->Prop)
  (hQt:∀fr hp,Gl.steps called left f.goals=true->Q .normal ⟨fr,hp⟩)(hQf:∀hp,Gl.steps called left f.goals=false->Q .ret ⟨[(2,.pv none (.bool false))],hp⟩):
  W Z L 0 c15k35 ⟨[(3,.ptr 1 0),(4,.pv none (.bool called)),(29,.pv none (.sl (some 6) (Gl.pvs f.goals))),(30,.pv none (.int .i64 f.goals.length)),(31,.pv none (.int .i64 0))],[.box (some 5) (.pv (some 5) f.pv),.box none (.pv none (.int .i64 left))]⟩ Q:=by
 simp -dsimp -implicitDefEqProofs only[c15k35,go_sem,seval,↓reduceIte]
 refine zbB (fun n st=>∃(i:Nat) (c:Bool) (b:Int),n=f.goals.length - i/\i<=f.goals.length/\0<=b/\b<=131072/\Gl.steps called left f.goals=Gl.steps c b (f.goals.drop i)/\
  st=⟨[(3,.ptr 1 0),(4,.pv none (.bool c)),(29,.pv none (.sl (some 6) (Gl.pvs f.goals))),(30,.pv none (.int .i64 f.goals.length)),(31,.pv none (.int .i64 i))],[.box (some 5) (.pv (some 5) f.pv),.box none (.pv none (.int .i64 b))]⟩) (n:=f.goals.length) ⟨0,called,left,rfl,Nat.zero_le _,h0,h1,rfl,rfl⟩ ?_
 rintro n st ⟨i,c,b,hn,hi,hb0,hb1,hst,rfl⟩
 by_cases h:i<f.goals.length
 ·have hc:(i:Int)<(f.goals.length:Int):=by omega
  obtain⟨g,hg⟩:∃g,f.goals[i]? =some g:=⟨_,List.getElem?_eq_getElem h⟩
  have hgm:=List.mem_of_getElem? hg
  have hroom:=fun c d=>zpS g.args [.box (some 5) (.pv (some 5) f.pv),.box none (.pv none (.int .i64 b)),c,d] 1 b (hs g hgm) hb0 hb1 rfl
  have hpred:=zpT g.pred
  have w2:IntKind.i64.wrap ((i:Int)+1)=((i+1:Nat):Int):=by rw[zah (by omega) (by omega)];omega
  rw[znL hg] at hst
  have next:Kept (∀c' b',g.step c b=some (c',b')->Gl.steps called left f.goals=Gl.steps c' b' (f.goals.drop (i+1))):=.mk fun c' b' e=>by rw[hst,e]
  have stop:Kept (g.step c b=none->Gl.steps called left f.goals=false):=.mk fun e=>by rw[hst,e]
  have hQf':Kept (∀hp,Gl.steps called left f.goals=false->Q .ret ⟨[(2,.pv none (.bool false))],hp⟩):=.mk hQf
  clear hst hQt hQf
  have hb:g.bare=(g.pred.zero && decide ((g.args.length:Int)=0)):=rfl
  rcases(by omega:g.kind=1\/g.kind=2\/g.kind=3\/g.kind=4\/g.kind=5\/(g.kind≠1/\g.kind≠2/\g.kind≠3/\g.kind≠4/\g.kind≠5)) with k|k|k|k|k|⟨k1,k2,k3,k4,k5⟩
  ·obtain⟨ok,l',hrl⟩:∃ok l',zde b g.args=(ok,l'):=⟨_,_,rfl⟩
   rw[hrl] at hroom
   have hle:l'<=b:=by have:=ziI g.args b;rw[hrl] at this;exact this
   have hge:Kept (ok=true->0<=l'):=.mk fun e=>zgI g.args b l' hb0 (by rw[hrl,e])
   have hstep:Kept (g.step c b=if(g.pred.ok && decide ((g.args.length:Int)=g.pred.arity) && decide (g.var=0))=true then(match(ok,l') with|(true,l)=>some (true,l)|_=>none) else none):=.mk (by unfold Gl.step;rw[if_pos k,hrl];cases ok <;> rfl)
   clear hrl
   cases hz:g.pred.zero <;>
   (repeat' (first|(simp -dsimp -implicitDefEqProofs only[c15k35,go_sem,seval,↓reduceIte,hc,zak (Gl.pvs_get hg),zbl,zfo,zd4,zcK,zee,zcS,zd5,Tm.pvs_len,hpred,w2,hz,hroom, *])|(refine zaz (fun _=> ?_) (fun _=> ?_))))
   all_goals first
    |(refine hQf'.out _ (stop.out ?_);rw[hstep.out];(try simp only[Bool.not_eq_true,Bool.not_eq_false] at*);simp only[*,decide_true,decide_false,Bool.and_true,Bool.true_and,Bool.false_and,Bool.and_false,Bool.not_true,Bool.not_false,if_true,if_false,Bool.false_eq_true,eq_self,and_self];done)
    |(refine⟨f.goals.length - (i+1),by omega,i+1,true,l',rfl,by omega,hge.out (by cases ok <;> simp_all),by omega,next.out _ _ ?_,?_⟩
      ·rw[hstep.out];(try simp only[Bool.not_eq_true,Bool.not_eq_false] at*);simp only[*,decide_true,decide_false,Bool.and_true,Bool.true_and,Bool.false_and,Bool.and_false,Bool.not_true,Bool.not_false,if_true,if_false,Bool.false_eq_true,eq_self,and_self]
      ·first|(rw[zbp _ _ _ _ (by simp[AV.refsIn]) rfl rfl];done)|(rw[zbp _ _ _ _ (by simp[AV.refsIn]) rfl rfl];simp_all))
  ·clear hroom
   have hstep:Kept (g.step c b=if(g.bare && decide (0<=g.var) && decide (g.var<=1099511627776) && !c)=true then some (c,b) else none):=.mk (by unfold Gl.step;simp[k])
   try rw[hb] at hstep
   clear hb
   cases hz:g.pred.zero <;>
   (repeat' (first|(simp -dsimp -implicitDefEqProofs only[c15k35,go_sem,seval,↓reduceIte,hc,zak (Gl.pvs_get hg),zbl,zfo,zd4,zcK,zee,zcS,zd5,Tm.pvs_len,hpred,w2,hz, *])|(refine zaz (fun _=> ?_) (fun _=> ?_))))
   all_goals first
    |(refine hQf'.out _ (stop.out ?_);rw[hstep.out];(try simp only[Bool.not_eq_true,Bool.not_eq_false] at*);simp only[*,decide_true,decide_false,Bool.and_true,Bool.true_and,Bool.false_and,Bool.and_false,Bool.not_true,Bool.not_false,if_true,if_false,Bool.false_eq_true,eq_self,and_self];done)
    |(refine⟨f.goals.length - (i+1),by omega,i+1,c,b,rfl,by omega,hb0,hb1,next.out _ _ ?_,?_⟩
      ·rw[hstep.out];(try simp only[Bool.not_eq_true,Bool.not_eq_false] at*);simp only[*,decide_true,decide_false,Bool.and_true,Bool.true_and,Bool.false_and,Bool.and_false,Bool.not_true,Bool.not_false,if_true,if_false,Bool.false_eq_true,eq_self,and_self]
      ·first|(rw[zbp _ _ _ _ (by simp[AV.refsIn]) rfl rfl];done)|(rw[zbp _ _ _ _ (by simp[AV.refsIn]) rfl rfl];simp_all))
  ·clear hroom
   have hstep:Kept (g.step c b=if(g.bare && decide (0<=g.var) && decide (g.var<=1099511627776))=true then some (c,b) else none):=.mk (by unfold Gl.step;simp[k])
   try rw[hb] at hstep
   clear hb
   cases hz:g.pred.zero <;>
   (repeat' (first|(simp -dsimp -implicitDefEqProofs only[c15k35,go_sem,seval,↓reduceIte,hc,zak (Gl.pvs_get hg),zbl,zfo,zd4,zcK,zee,zcS,zd5,Tm.pvs_len,hpred,w2,hz, *])|(refine zaz (fun _=> ?_) (fun _=> ?_))))
   all_goals first
    |(refine hQf'.out _ (stop.out ?_);rw[hstep.out];(try simp only[Bool.not_eq_true,Bool.not_eq_false] at*);simp only[*,decide_true,decide_false,Bool.and_true,Bool.true_and,Bool.false_and,Bool.and_false,Bool.not_true,Bool.not_false,if_true,if_false,Bool.false_eq_true,eq_self,and_self];done)
    |(refine⟨f.goals.length - (i+1),by omega,i+1,c,b,rfl,by omega,hb0,hb1,next.out _ _ ?_,?_⟩
      ·rw[hstep.out];(try simp only[Bool.not_eq_true,Bool.not_eq_false] at*);simp only[*,decide_true,decide_false,Bool.and_true,Bool.true_and,Bool.false_and,Bool.and_false,Bool.not_true,Bool.not_false,if_true,if_false,Bool.false_eq_true,eq_self,and_self]
      ·first|(rw[zbp _ _ _ _ (by simp[AV.refsIn]) rfl rfl];done)|(rw[zbp _ _ _ _ (by simp[AV.refsIn]) rfl rfl];simp_all))
  ·clear hroom
   have hstep:Kept (g.step c b=if(g.bare && decide (0<=g.var) && decide (g.var<=1099511627776))=true then some (c,b) else none):=.mk (by unfold Gl.step;simp[k])
   try rw[hb] at hstep
   clear hb
   cases hz:g.pred.zero <;>
   (repeat' (first|(simp -dsimp -implicitDefEqProofs only[c15k35,go_sem,seval,↓reduceIte,hc,zak (Gl.pvs_get hg),zbl,zfo,zd4,zcK,zee,zcS,zd5,Tm.pvs_len,hpred,w2,hz, *])|(refine zaz (fun _=> ?_) (fun _=> ?_))))
   all_goals first
    |(refine hQf'.out _ (stop.out ?_);rw[hstep.out];(try simp only[Bool.not_eq_true,Bool.not_eq_false] at*);simp only[*,decide_true,decide_false,Bool.and_true,Bool.true_and,Bool.false_and,Bool.and_false,Bool.not_true,Bool.not_false,if_true,if_false,Bool.false_eq_true,eq_self,and_self];done)
    |(refine⟨f.goals.length - (i+1),by omega,i+1,c,b,rfl,by omega,hb0,hb1,next.out _ _ ?_,?_⟩
      ·rw[hstep.out];(try simp only[Bool.not_eq_true,Bool.not_eq_false] at*);simp only[*,decide_true,decide_false,Bool.and_true,Bool.true_and,Bool.false_and,Bool.and_false,Bool.not_true,Bool.not_false,if_true,if_false,Bool.false_eq_true,eq_self,and_self]
      ·first|(rw[zbp _ _ _ _ (by simp[AV.refsIn]) rfl rfl];done)|(rw[zbp _ _ _ _ (by simp[AV.refsIn]) rfl rfl];simp_all))
  ·clear hroom
   have hstep:Kept (g.step c b=if(g.bare && decide (g.var=0))=true then some (c,b) else none):=.mk (by unfold Gl.step;simp[k])
   try rw[hb] at hstep
   clear hb
   cases hz:g.pred.zero <;>
   (repeat' (first|(simp -dsimp -implicitDefEqProofs only[c15k35,go_sem,seval,↓reduceIte,hc,zak (Gl.pvs_get hg),zbl,zfo,zd4,zcK,zee,zcS,zd5,Tm.pvs_len,hpred,w2,hz, *])|(refine zaz (fun _=> ?_) (fun _=> ?_))))
   all_goals first
    |(refine hQf'.out _ (stop.out ?_);rw[hstep.out];(try simp only[Bool.not_eq_true,Bool.not_eq_false] at*);simp only[*,decide_true,decide_false,Bool.and_true,Bool.true_and,Bool.false_and,Bool.and_false,Bool.not_true,Bool.not_false,if_true,if_false,Bool.false_eq_true,eq_self,and_self];done)
    |(refine⟨f.goals.length - (i+1),by omega,i+1,c,b,rfl,by omega,hb0,hb1,next.out _ _ ?_,?_⟩
      ·rw[hstep.out];(try simp only[Bool.not_eq_true,Bool.not_eq_false] at*);simp only[*,decide_true,decide_false,Bool.and_true,Bool.true_and,Bool.false_and,Bool.and_false,Bool.not_true,Bool.not_false,if_true,if_false,Bool.false_eq_true,eq_self,and_self]
      ·first|(rw[zbp _ _ _ _ (by simp[AV.refsIn]) rfl rfl];done)|(rw[zbp _ _ _ _ (by simp[AV.refsIn]) rfl rfl];simp_all))
  ·clear hroom
   have hstep:Kept (g.step c b=none):=.mk (by unfold Gl.step;simp[k1,k2,k3,k4,k5])
   try rw[hb] at hstep
   clear hb
   cases hz:g.pred.zero <;>
   (repeat' (first|(simp -dsimp -implicitDefEqProofs only[c15k35,go_sem,seval,↓reduceIte,hc,zak (Gl.pvs_get hg),zbl,zfo,zd4,zcK,zee,zcS,zd5,Tm.pvs_len,hpred,w2,hz, *])|(refine zaz (fun _=> ?_) (fun _=> ?_))))
   all_goals exact hQf'.out _ (stop.out hstep.out)
 ·have hc:¬(i:Int)<(f.goals.length:Int):=by omega
  obtain rfl:i=f.goals.length:=by omega
  rw[List.drop_length,Gl.steps] at hst
  simp -dsimp -implicitDefEqProofs only[c15k35,go_sem,seval,↓reduceIte,hc]
  exact hQt _ _ hst

theorem zb0(f:Fl)(hp:Heap)(ha:Tm.sizes f.args<1000000000)(hs:∀g∈f.goals,Tm.sizes g.args<1000000000)(hlen:f.goals.length<1000000000):S 15 [f.av] hp=some (.ret (.pv none (.bool f.valid)),hp):=by
 refine zaL rfl rfl rfl (zaf [(some 5,f.pv)]) rfl ?_
 have hpred:=zpT f.pred
 obtain⟨ok,l',hrl⟩:∃ok l',zde 131072 f.args=(ok,l'):=⟨_,_,rfl⟩
 have hroom:=fun c=>zpS f.args [c,.box none (.pv none (.int .i64 131072))] 1 131072 ha (by omega) (by omega) rfl
 rw[hrl] at hroom
 have hle:l'<=131072:=by have:=ziI f.args 131072;rw[hrl] at this;exact this
 have hge:Kept (ok=true->0<=l'):=.mk fun e=>zgI f.args 131072 l' (by omega) (by rw[hrl,e])
 have hv:f.valid=(f.pred.ok && decide ((f.args.length:Int)=f.pred.arity) && match(ok,l') with|(true,l)=>Gl.steps false l f.goals|_=>false):=by unfold Fl.valid;rw[hrl];cases ok <;> rfl
 clear hrl
 (repeat' (first|(simp -dsimp -implicitDefEqProofs only[go_sem,seval,↓reduceIte,zsN,zrk,zgK,zdf,hpred,Tm.pvs_len,Gl.pvs_len,hroom, *])|(refine zaz (fun _=> ?_) (fun _=> ?_))))
 have hok:ok=true:=by cases ok <;> simp_all
 subst hok
 have hp1:f.pred.ok=true:=‹_›
 have hp2:(f.args.length:Int)=f.pred.arity:=‹_›
 have hv2:f.valid=Gl.steps false l' f.goals:=by rw[hv,hp1,decide_eq_true hp2];rfl
 refine zlB f false l' (hge.out rfl) hle hs hlen _ (fun fr hp h=> ?_) (fun hp h=> ?_)
 ·rw[hv2,h]
  simp -dsimp -implicitDefEqProofs only[go_sem,seval,↓reduceIte]
 ·rw[hv2,h]
  simp -dsimp -implicitDefEqProofs only[go_sem,seval,↓reduceIte]
end Go.Proofs.Ytmajapjbogmefaa
namespace Go.Proofs.Ytmajapjbogmefaa
open Go.Am
def pl(x:Int × Int):PV:=zfL x.2 x.1
def zeb(calls:Int)(g:Gl):List (Int × Int):=(Tm.occs g.args).map (fun v=>(v,calls))++(if g.op=true then[(g.var,calls)] else[])
def zco:Int->List Gl->List (Int × Int)
 |_,[]=>[]
 |calls,g::r=>zeb calls g++zco (g.next calls) r
def zaj(f:Fl):List (Int × Int):=(Tm.occs f.args).map (fun v=>(v,0))++zco 0 f.goals
theorem zrA(c:Int)(g:Gl):(zeb c g).map pl=g.here c:=by
 unfold zeb Gl.here
 cases g.op <;> simp[pl,Function.comp_def]
theorem zmi:∀(l:List Gl) (c:Int),(zco c l).map pl=Gl.plcs c l
 |[],c=>rfl
 |g::r,c=>by simp only[zco,Gl.plcs,List.map_append,zrA,zmi r]
theorem znO(f:Fl):(zaj f).map pl=f.plcs:=by
 unfold zaj Fl.plcs
 simp[zmi,pl,Function.comp_def]
end Go.Proofs.Ytmajapjbogmefaa
namespace Go.Proofs.Ytmajapjbogmefaa
open Go.Am
def LIM:Nat:=500000000
structure Back(H:List (Int × Int)->Heap)(n0:Nat)(c:Int)(y:AV):Prop where
 len:∀s,(H s).length=n0
 refs:∀q∈y.refsIn,q<n0
 call:∀(s:List (Int × Int)) (v:Int) (ext:Heap),s.length<LIM->∃g first captured,zaT y=some (g,first,captured)/\S g (first++[.pv none (.int .i64 v)]++captured) (H s++ext)=some (.ret (.pv none (.bool true)),H (s++[(v,c)])++ext)
theorem ziS{n b:Nat}{fr:Fr}{base ext:Heap}{o:AObj}(hb:base.length=b)(hn:n=b+1)(ho:o.refs=[])(hf:fr.all (fun x=>x.2.refsIn.all (·<n))=true):collect n b fr (base++[o]++ext)=base++[o]:=by
 have h1:(base++[o]++ext).take n=base++[o]:=by rw[show n=(base++[o]).length by simp[hb,hn]];exact List.take_left
 have h2:((base++[o]++ext).take n).drop b=[o]:=by rw[h1,<-hb];exact List.drop_left
 have h3:(((base++[o]++ext).take n).drop b).all (fun o=>o.refs.all (fun q=>decide (q<n)))=true:=by rw[h2];simp[ho]
 unfold collect
 rw[if_pos (by rw[hf,h3];rfl),h1]
theorem zs5{H:List (Int × Int)->Heap}{n0:Nat}{c:Int}{y:AV}(B:Back H n0 c y):∀(t:Tm) (s:List (Int × Int)) (ext:Heap),t.size<1000000000->s.length+t.occ.length<=LIM->
  S 41 [t.av,y] (H s++ext)=some (.ret (.pv none (.bool true)),H (s++t.occ.map (fun v=>(v,c)))++ext):=by
 intro t
 induction t using Tm.zuc with
 |h t ih=>
  intro s ext hsz hlim
  have hts:=t.size_eq
  have hlen:=Tm.zt8 t.args
  have hoe:=t.occ_eq
  have hL:∀s',(H s'++ext).length=n0+ext.length:=fun s'=>by simp[B.len]
  refine zaI rfl rfl rfl rfl ?_
  by_cases hk:t.kind=0
  ·rw[if_pos hk] at hoe
   rw[hoe] at hlim ⊢
   obtain⟨g,first,captured,hcal,hcall⟩:=B.call s t.n (ext++[.box (some 4) (.pv (some 4) t.pv)]) (by simp at hlim;omega)
   have e1:∀s' x,(H s'++ext++[x])[(H s++ext).length]? =some x:=fun s' x=>by rw[hL s,<-hL s'];simp
   rw[<-List.append_assoc,<-List.append_assoc] at hcall
   have hc2:=hcall
   simp -dsimp -implicitDefEqProofs only[go_sem,seval,↓reduceIte,Tm.av,zbI,zeR,hk,zdd,zbJ hcal,hc2]
   simp[AV.refsIn,B.len]
   rw[<-List.append_assoc,<-hL (s++[(t.n,c)])]
   exact List.take_left
  ·rw[if_neg hk] at hoe
   rw[hoe] at hlim ⊢
   simp -dsimp -implicitDefEqProofs only[go_sem,seval,↓reduceIte,Tm.av,zbI,za7,hk,zdd,Tm.pvs_len]
   have yr:y.refsIn.all (fun q=>decide (q<n0+ext.length+1))=true:=by
    rw[List.all_eq_true]
    intro q hq
    have:=B.refs q hq
    simp only[decide_eq_true_eq]
    omega
   refine zbB (fun n st=>∃i:Nat,n=t.args.length - i/\i<=t.args.length/\st=⟨[(1,y),(15,.pv none (.sl (some 4) (Tm.pvs t.args))),(16,.pv none (.int .i64 t.args.length)),(17,.pv none (.int .i64 i))],H (s++(Tm.occs (t.args.take i)).map (fun v=>(v,c)))++ext++[.box (some 4) (.pv (some 4) t.pv)]⟩) (n:=t.args.length) ⟨0,rfl,Nat.zero_le _,?_⟩ ?_
   ·simp only[List.take_zero,Tm.occs,List.map_nil,List.append_nil]
    rfl
   ·rintro n st ⟨i,hn,hi,rfl⟩
    by_cases h:i<t.args.length
    ·have hc:(i:Int)<(t.args.length:Int):=by omega
     obtain⟨u,hu⟩:∃u,t.args[i]? =some u:=⟨_,List.getElem?_eq_getElem h⟩
     have hum:=List.mem_of_getElem? hu
     have husz:=Tm.zua hum
     have hot:=Tm.zui hu
     have hol:(Tm.occs (t.args.take (i+1))).length<=(Tm.occs t.args).length:=by
      have h5:Tm.occs t.args=Tm.occs (t.args.take (i+1))++Tm.occs (t.args.drop (i+1)):=by rw[<-Tm.zue,List.take_append_drop]
      rw[h5,List.length_append]
      omega
     have hcall:=ih u hum (s++(Tm.occs (t.args.take i)).map (fun v=>(v,c))) (ext++[.box (some 4) (.pv (some 4) t.pv)]++[.box (some 4) (.pv (some 4) u.pv)]++[.arr (some 4) [] false]) (by omega) (by rw[hot] at hol;simp at hol ⊢;omega)
     simp only[<-List.append_assoc,Tm.av] at hcall
     rw[List.append_assoc s,<-List.map_append,<-hot] at hcall
     have w2:IntKind.i64.wrap ((i:Int)+1)=((i+1:Nat):Int):=by rw[zah (by omega) (by omega)];omega
     simp -dsimp -implicitDefEqProofs only[go_sem,seval,↓reduceIte,hc,zak (Tm.pvs_get hu),ziJ,ziK,hcall,w2]
     refine⟨t.args.length - (i+1),by omega,i+1,rfl,by omega,?_⟩
     rw[List.append_assoc (_++_++_),ziS]
     ·simp[B.len]
     ·simp[B.len,Nat.add_assoc]
     ·rfl
     ·simp[AV.refsIn,B.len] at yr ⊢
      exact yr
    ·have hc:¬(i:Int)<(t.args.length:Int):=by omega
     obtain rfl:i=t.args.length:=by omega
     simp -dsimp -implicitDefEqProofs only[go_sem,seval,↓reduceIte,hc]
     rw[List.take_length]
     simp[AV.refsIn,B.len]
     rw[<-List.append_assoc,<-hL (s++(Tm.occs t.args).map (fun v=>(v,c)))]
     exact List.take_left
end Go.Proofs.Ytmajapjbogmefaa
namespace Go.Proofs.Ytmajapjbogmefaa
open Go.Am
structure Rnd(H:List (Int × Int)->Heap)(n0 r:Nat)(f:FuncId):Prop where
 len:∀s,(H s).length=n0
 lt:r<n0
 fn:∀s,zdn (H s)[r]? =some f
 call:∀(s:List (Int × Int)) (v c:Int) (ext:Heap),s.length<LIM->sem (find tab) prim .rnd f [.yield r,.pv (some 2) (zfL c v)] (H s++ext)=some (.ret (.pv none (.bool true)),H (s++[(v,c)])++ext)
variable{H:List (Int × Int)->Heap} {n0 r:Nat} {f:FuncId}
theorem Rnd.low(R:Rnd H n0 r f)(s:List (Int × Int))(ext:Heap):zdn (H s++ext)[r]? =some f:=by
 rw[zdF (by rw[R.len];exact R.lt)]
 exact R.fn s
def two(H:List (Int × Int)->Heap)(r:Nat)(c:Int)(s:List (Int × Int)):Heap:=H s++[.box none (.yield r),.box none (.pv none (.int .i64 c))]
theorem zlD(R:Rnd H n0 r f)(c:Int)(s:List (Int × Int)):(two H r c s).length=n0+2:=by simp[two,R.len]
theorem ziL:∀v c:Int,zb5 [(none,.pv none (.int .i64 0)),(none,.pv none (.int .i64 0))] [0,1] [.pv none (.int .i64 v),.pv none (.int .i64 c)]=some (.pv (some 2) (zfL c v)):=fun _ _=>rfl
theorem zt2(R:Rnd H n0 r f)(c:Int):Back (two H r c) (n0+2) c (.func (.func 42) [] [.ptr n0 0,.ptr (n0+1) 0]) where
 len:=zlD R c
 refs q hq:=by simp[AV.refsIn,AV.refsIn.gol] at hq;omega
 call s v ext hlim:=by
  refine⟨_,_,_,rfl,?_⟩
  refine zaI rfl rfl rfl rfl ?_
  have h1:=fun ext=>R.call s v c ext hlim
  have hL:(two H r c s++ext).length=n0+2+ext.length:=by simp[zlD R]
  simp -dsimp -implicitDefEqProofs only[go_sem,seval,↓reduceIte,two,List.append_assoc,Nat.add_assoc,List.length_append,getN (R.len _),zeo (R.len _),ziL,R.low,h1]
  simp[AV.refsIn,R.len]
  rw[show n0+(ext.length+1+1)=(H (s++[(v,c)])++.box none (.yield r)::.box none (.pv none (.int .i64 c))::ext).length by simp[R.len],List.take_length]

theorem zsS(R:Rnd H n0 r f)(c:Int)(l:List Tm)(s:List (Int × Int))(ext:Heap)(hl:Tm.sizes l<1000000000)(hlim:s.length+(Tm.occs l).length<=LIM):
  S 40 [.pv none (.sl (some 4) (Tm.pvs l)),.ptr n0 0,.ptr (n0+1) 0] (two H r c s++ext)=some (.ret (.pv none (.bool true)),two H r c (s++(Tm.occs l).map (fun v=>(v,c)))++ext):=by
 have hlen:=Tm.zt8 l
 obtain⟨G,hG⟩:∃G:List (Int × Int)->Heap,G=fun s=>two H r c s++ext:=⟨_,rfl⟩
 have hGs:∀s,two H r c s++ext=G s:=fun s=>by rw[hG]
 have hGl:∀s,(G s).length=n0+2+ext.length:=fun s=>by rw[<-hGs];simp[zlD R]
 obtain⟨N,hN⟩:∃N,N=n0+2+ext.length:=⟨_,rfl⟩
 rw[<-hN] at hGl
 have hw:∀(t:Tm) (s:List (Int × Int)) (e2:Heap),t.size<1000000000->s.length+t.occ.length<=LIM->S 41 [.pv (some 4) t.pv,.func (.func 42) [] [.ptr n0 0,.ptr (n0+1) 0]] (G s++e2)=some (.ret (.pv none (.bool true)),G (s++t.occ.map (fun v=>(v,c)))++e2):=fun t s e2 h hlm=>by
  have:=zs5 (zt2 R c) t s (ext++e2) h hlm
  rw[<-List.append_assoc,<-List.append_assoc,hGs,hGs] at this
  exact this
 rw[hGs,hGs]
 refine zaI rfl rfl rfl rfl ?_
 simp -dsimp -implicitDefEqProofs only[go_sem,seval,↓reduceIte,Tm.pvs_len]
 refine zbB (fun n st=>∃i:Nat,n=l.length - i/\i<=l.length/\st=⟨[(1,.ptr n0 0),(2,.ptr (n0+1) 0),(7,.pv none (.sl (some 4) (Tm.pvs l))),(8,.pv none (.int .i64 l.length)),(9,.pv none (.int .i64 i))],G (s++(Tm.occs (l.take i)).map (fun v=>(v,c)))⟩) (n:=l.length) ⟨0,rfl,Nat.zero_le _,(by simp only[List.take_zero,Tm.occs,List.map_nil,List.append_nil];rfl)⟩ ?_
 rintro n st ⟨i,hn,hi,rfl⟩
 by_cases h:i<l.length
 ·have hc:(i:Int)<(l.length:Int):=by omega
  obtain⟨u,hu⟩:∃u,l[i]? =some u:=⟨_,List.getElem?_eq_getElem h⟩
  have hum:=List.mem_of_getElem? hu
  have husz:=Tm.zua hum
  have hot:=Tm.zui hu
  have hol:(Tm.occs (l.take (i+1))).length<=(Tm.occs l).length:=by
   have h5:Tm.occs l=Tm.occs (l.take (i+1))++Tm.occs (l.drop (i+1)):=by rw[<-Tm.zue,List.take_append_drop]
   rw[h5,List.length_append]
   omega
  have hcall:=fun e2=>hw u (s++(Tm.occs (l.take i)).map (fun v=>(v,c))) e2 (by omega) (by rw[hot] at hol;simp at hol ⊢;omega)
  have w2:IntKind.i64.wrap ((i:Int)+1)=((i+1:Nat):Int):=by rw[zah (by omega) (by omega)];omega
  simp -dsimp -implicitDefEqProofs only[go_sem,seval,↓reduceIte,hc,zak (Tm.pvs_get hu),List.append_assoc,Nat.add_assoc,List.length_append,hGl,getN (hGl _),zeo (hGl _),setN (hGl _),zeS (hGl _),hcall,w2]
  refine⟨l.length - (i+1),by omega,i+1,rfl,by omega,?_⟩
  rw[zkb (hGl _) (by simp[AV.refsIn,hN];omega),hot,List.map_append]
 ·have hc:¬(i:Int)<(l.length:Int):=by omega
  obtain rfl:i=l.length:=by omega
  simp -dsimp -implicitDefEqProofs only[go_sem,seval,↓reduceIte,hc]
  rw[List.take_length]
  simp[AV.refsIn,hGl]
  rw[<-hGl (s++(Tm.occs l).map (fun v=>(v,c))),List.take_length]

theorem zgR(g:Gl)(hp:Heap):S 43 [.pv (some 6) g.pv] hp=some (.ret (.pv none (.bool g.op)),hp):=by
 refine zaL rfl rfl rfl (zaf [(some 6,g.pv)]) rfl ?_
 have hop:g.op=(decide (g.kind=2) || decide (g.kind=3) || decide (g.kind=4)):=rfl
 rcases(by omega:g.kind=2\/g.kind=3\/g.kind=4\/(g.kind≠2/\g.kind≠3/\g.kind≠4)) with q|q|q|⟨q2,q3,q4⟩
 ·rw[show g.op=true by simp[hop,q]]
  (repeat' (first|(simp -dsimp -implicitDefEqProofs only[go_sem,seval,↓reduceIte,zbl, *])|(refine zaz (fun _=> ?_) (fun _=> ?_))))
 ·rw[show g.op=true by simp[hop,q]]
  (repeat' (first|(simp -dsimp -implicitDefEqProofs only[go_sem,seval,↓reduceIte,zbl, *])|(refine zaz (fun _=> ?_) (fun _=> ?_))))
 ·rw[show g.op=true by simp[hop,q]]
  (repeat' (first|(simp -dsimp -implicitDefEqProofs only[go_sem,seval,↓reduceIte,zbl, *])|(refine zaz (fun _=> ?_) (fun _=> ?_))))
 ·rw[show g.op=false by simp[hop,q2,q3,q4]]
  (repeat' (first|(simp -dsimp -implicitDefEqProofs only[go_sem,seval,↓reduceIte,zbl, *])|(refine zaz (fun _=> ?_) (fun _=> ?_))))
theorem each_ok'(R:Rnd H n0 r f)(c:Int)(l:List Tm)(s:List (Int × Int))(ext:Heap)(hl:Tm.sizes l<1000000000)(hlim:s.length+(Tm.occs l).length<=LIM):
  S 40 [.pv none (.sl (some 4) (Tm.pvs l)),.ptr n0 0,.ptr (n0+1) 0] (H s++.box none (.yield r)::.box none (.pv none (.int .i64 c))::ext)=some (.ret (.pv none (.bool true)),H (s++(Tm.occs l).map (fun v=>(v,c)))++.box none (.yield r)::.box none (.pv none (.int .i64 c))::ext):=by
 have:=zsS R c l s ext hl hlim
 simpa[two] using this
theorem zd7{c:Int}{l:List Gl}{i:Nat}{g:Gl}(h:l[i]? =some g):zco c (l.drop i)=zeb c g++zco (g.next c) (l.drop (i+1)):=by
 obtain⟨h1,rfl⟩:=List.getElem?_eq_some_iff.1 h
 rw[List.drop_eq_getElem_cons h1,zco]
theorem zsT(R:Rnd H n0 r f)(x:Fl)(s:List (Int × Int))(fb:Nat)(hfb:fb<n0)(hx:∀s,(H s)[fb]? =some (.box (some 5) (.pv (some 5) x.pv)))(ha:Tm.sizes x.args<1000000000)(hs:∀g∈x.goals,Tm.sizes g.args<1000000000)(hlen:x.goals.length<1000000000)(hlim:s.length+(zaj x).length<=LIM):
  S 39 [.yield r,.ptr fb 0] (H s)=some (.ret (.tuple []),H (s++zaj x)):=by
 refine zaI rfl rfl rfl rfl ?_
 have hlow:∀s ext,(H s++ext)[fb]? =some (.box (some 5) (.pv (some 5) x.pv)):=fun s ext=>by rw[zdF (by rw[R.len];exact hfb)];exact hx s
 have hpl:(zaj x).length=(Tm.occs x.args).length+(zco 0 x.goals).length:=by simp[zaj]
 have h1:=fun ext=>each_ok' R 0 x.args s ext ha (by omega)
 simp -dsimp -implicitDefEqProofs only[go_sem,seval,↓reduceIte,List.append_assoc,Nat.add_assoc,List.length_append,R.len,getN (R.len _),zeo (R.len _),setN (R.len _),zeS (R.len _),hlow,hx,zgK,zdf,Gl.pvs_len,h1,zgL]
 refine zfS (α:=Int × List (Int × Int)) x.goals.length (fun i a=>0<=a.1/\a.1<=i/\s++zaj x=a.2++zco a.1 (x.goals.drop i))
  (fun i a=>⟨[(2,.ptr n0 0),(3,.ptr (n0+1) 0),(4,.func (.func 40) [] [.ptr n0 0,.ptr (n0+1) 0]),(14,.pv none (.sl (some 6) (Gl.pvs x.goals))),(15,.pv none (.int .i64 x.goals.length)),(16,.pv none (.int .i64 i))],
   H a.2++.box none (.yield r)::.box none (.pv none (.int .i64 a.1))::[]⟩) (0,_) ⟨⟨Int.le_refl _,Int.le_refl _,?_⟩,rfl⟩ ?_ ?_
 ·simp[zaj]
 ·rintro i ⟨c,s'⟩ h ⟨hc0,hci,hfold⟩
  have hc:(i:Int)<(x.goals.length:Int):=by omega
  obtain⟨g,hg⟩:∃g,x.goals[i]? =some g:=⟨_,List.getElem?_eq_getElem h⟩
  have hgs:=hs g (List.mem_of_getElem? hg)
  have hfl:=congrArg List.length hfold
  simp only[List.length_append,zd7 hg] at hfl
  have hherl:(zeb c g).length=(Tm.occs g.args).length+(if g.op=true then 1 else 0):=by unfold zeb;split <;> simp
  have h2:=fun ext=>each_ok' R c g.args s' ext hgs (by omega)
  have h3:=zgR g
  have h4:=fun ext=>R.call (s'++(Tm.occs g.args).map (fun v=>(v,c))) g.var c ext
  have w2:IntKind.i64.wrap ((i:Int)+1)=((i+1:Nat):Int):=by rw[zah (by omega) (by omega)];omega
  have w3:IntKind.i64.wrap (c+1)=c+1:=by rw[zah (by omega) (by omega)]
  rw[zd7 hg,<-List.append_assoc] at hfold
  have hcl:∀(l:Fr) (s1:List (Int × Int)) (y z:AObj) (e:Heap),l.all (fun x=>x.2.refsIn.all (fun q=>decide (q<n0+2)))=true->y.refs.all (fun q=>decide (q<n0+2))=true->z.refs.all (fun q=>decide (q<n0+2))=true->collect (n0+2) n0 l (H s1++y::z::e)=H s1++[y,z]:=fun l s1 y z e h h' h''=>
   zby 2 (R.len _) rfl (by simp[h',h'']) h
  by_cases hop:g.op=true <;> by_cases hk:g.kind=1
  all_goals
   have hher:zeb c g=(Tm.occs g.args).map (fun v=>(v,c))++(if g.op=true then[(g.var,c)] else[]):=rfl
   have hnx:g.next c=if g.kind=1 then c+1 else c:=rfl
   simp only[hop,hk,if_true,if_false,List.append_nil,Bool.false_eq_true] at hher hnx hherl
   rw[hher,hnx] at hfold
   first|(have h4:=fun ext=>h4 ext (by simp;omega))|skip
   simp only[List.append_assoc] at h4 hfold
   have hrl:=R.lt
   simp -dsimp -implicitDefEqProofs only[go_sem,seval,↓reduceIte,List.append_assoc,Nat.add_assoc,List.length_append,R.len,getN (R.len _),zeo (R.len _),setN (R.len _),zeS (R.len _),hc,zak (Gl.pvs_get hg),zcK,zee,zbl,h2,h3,hop,hk,ziL,R.low,h4,w2,w3]
   rw[hcl _ _ _ _ _ (by simp[AV.refsIn,AV.refsIn.gol]) (by simp[AObj.refs,AV.refsIn];omega) (by simp[AObj.refs,AV.refsIn])]
   exact⟨(_,_),⟨by dsimp only;omega,by dsimp only;omega,by rw[hfold];simp only[List.append_assoc]⟩,rfl⟩
 ·rintro⟨c,s'⟩ ⟨hc0,hci,hfold⟩
  have hc:¬(x.goals.length:Int)<(x.goals.length:Int):=by omega
  simp -dsimp -implicitDefEqProofs only[go_sem,seval,↓reduceIte,hc]
  rw[List.drop_length,zco,List.append_nil] at hfold
  rw[hfold]
  simp[R.len,zay,zr0 (R.len _)]
theorem zdj(c v:Int):PV.part deep (zfL c v) 0 none=some (.int .i64 v):=rfl
theorem zdk(c v:Int):PV.part deep (zfL c v) 1 none=some (.int .i64 c):=rfl
theorem zrp(x:Fl)(hp:Heap):S 24 [.pv (some 5) x.pv] hp=some (.ret (.func (.func 39) [] [.ptr hp.length 0]),hp++[.box (some 5) (.pv (some 5) x.pv)]):=by
 refine zaI rfl rfl rfl rfl ?_
 simp -dsimp -implicitDefEqProofs only[go_sem,seval,↓reduceIte]
 simp[AV.refsIn,AV.refsIn.gol,zay,zcs]
end Go.Proofs.Ytmajapjbogmefaa
namespace Go.Proofs.Ytmajapjbogmefaa
open Go.Am
theorem zdP(fv:AV)(hp:Heap)(r:Nat)(hr:r<hp.length)(a b n N:Nat)(P X M Y R:List PV)(hP:P.length=a)(hX:X.length=n)(hY:Y.length=n)(hb:b=a+n+M.length)(hN:N=(P++X++M++Y++R).length)(hN':N<1000000000):
  S 65 [.sl none r N 0 N,.pv none (.int .i64 a),.pv none (.int .i64 b),.pv none (.int .i64 n),fv] (hp.set r (.arr none (P++X++M++Y++R) false))=some (.ret (.tuple []),hp.set r (.arr none (P++Y++M++X++R) false)):=by
 refine zaI rfl rfl rfl rfl ?_
 have e1:∀A,(hp.set r A)[r]? =some A:=fun A=>by simp[hr]
 have hNl:N=P.length+n+M.length+n+R.length:=by rw[hN];simp[hX,hY];omega
 simp -dsimp -implicitDefEqProofs only[go_sem,seval,↓reduceIte]
 refine zbB (fun k st=>∃(i:Nat) (X1 X2 Y1 Y2:List PV),k=n - i/\i<=n/\X=X1++X2/\Y=Y1++Y2/\X1.length=i/\Y1.length=i/\st=⟨[(0,.sl none r N 0 N),(1,.pv none (.int .i64 a)),(2,.pv none (.int .i64 b)),(3,.pv none (.int .i64 n)),(10,.pv none (.int .i64 i))],hp.set r (.arr none (P++Y1++X2++M++X1++Y2++R) false)⟩) (n:=n) ⟨0,[],X,[],Y,rfl,Nat.zero_le _,rfl,rfl,rfl,rfl,?_⟩ ?_
 ·simp -dsimp -implicitDefEqProofs only[go_sem,seval,↓reduceIte]
  simp
 ·rintro k st ⟨i,X1,X2,Y1,Y2,hk,hi,eX,eY,lX,lY,rfl⟩
  have l2X:X2.length=n - i:=by rw[eX] at hX;simp at hX;omega
  have l2Y:Y2.length=n - i:=by rw[eY] at hY;simp at hY;omega
  have hlen:(P++Y1++X2++M++X1++Y2++R).length=N:=by simp;omega
  by_cases h:i<n
  ·have hc:(i:Int)<(n:Int):=by omega
   obtain⟨x,X2,rfl⟩:∃x l,X2=x::l:=by cases X2 with|nil=>simp at l2X;omega|cons x l=>exact⟨x,l,rfl⟩
   obtain⟨y,Y2,rfl⟩:∃x l,Y2=x::l:=by cases Y2 with|nil=>simp at l2Y;omega|cons x l=>exact⟨x,l,rfl⟩
   have w1:IntKind.i64.wrap ((a:Int)+(i:Int))=((a+i:Nat):Int):=by rw[zah (by omega) (by omega)];omega
   have w2:IntKind.i64.wrap ((b:Int)+(i:Int))=((b+i:Nat):Int):=by rw[zah (by omega) (by omega)];omega
   have w3:IntKind.i64.wrap ((i:Int)+1)=((i+1:Nat):Int):=by rw[zah (by omega) (by omega)];omega
   have la:a+i<N:=by omega
   have lb:b+i<N:=by omega
   have s1:P++Y1++x::X2++M++X1++y::Y2++R=(P++Y1)++x::(X2++M++X1++y::Y2++R):=by simp
   have s2:P++Y1++x::X2++M++X1++y::Y2++R=(P++Y1++x::X2++M++X1)++y::(Y2++R):=by simp
   have g1:(P++Y1++x::X2++M++X1++y::Y2++R)[a+i]? =some x:=by rw[s1];exact zdJ (by simp;omega)
   have g2:(P++Y1++x::X2++M++X1++y::Y2++R)[b+i]? =some y:=by rw[s2];exact zdJ (by simp at l2X ⊢;omega)
   have g3:((P++Y1++x::X2++M++X1++y::Y2++R).set (a+i) y).set (b+i) x=P++(Y1++[y])++X2++M++(X1++[x])++Y2++R:=by
    rw[s1,zdK (by simp;omega)]
    have s3:(P++Y1)++y::(X2++M++X1++y::Y2++R)=(P++Y1++y::X2++M++X1)++y::(Y2++R):=by simp
    rw[s3,zdK (by simp at l2X ⊢;omega)]
    simp
   generalize hxs:P++Y1++x::X2++M++X1++y::Y2++R=xs at g1 g2 g3 hlen ⊢
   simp -dsimp -implicitDefEqProofs only[go_sem,seval,↓reduceIte,hc,w1,w2,w3,zal la,zal lb,za5,zbZ,e1,g1,g2,hlen,List.length_set,List.set_set,la,lb,g3]
   refine⟨n - (i+1),by omega,i+1,X1++[x],X2,Y1++[y],Y2,rfl,by omega,by simp[eX],by simp[eY],by simp[lX],by simp[lY],?_⟩
   rw[zam (by simp)]
  ·have hc:¬(i:Int)<(n:Int):=by omega
   obtain rfl:i=n:=by omega
   have:X2=[]:=List.length_eq_zero_iff.1 (by omega)
   subst this
   have:Y2=[]:=List.length_eq_zero_iff.1 (by omega)
   subst this
   simp -dsimp -implicitDefEqProofs only[go_sem,seval,↓reduceIte,hc]
   rw[List.take_of_length_le (by simp)]
   simp[eX,eY]

theorem zqg(fv:AV)(hp:Heap)(r:Nat)(hr:r<hp.length)(a m b N:Nat)(P U V R:List PV)(hP:P.length=a)(hU:m=a+U.length)(hV:b=m+V.length)(hN:N=(P++U++V++R).length)(hN':N<1000000000)(hU0:0<U.length)(hV0:0<V.length):
  S 62 [.sl none r N 0 N,.pv none (.int .i64 a),.pv none (.int .i64 m),.pv none (.int .i64 b),fv] (hp.set r (.arr none (P++U++V++R) false))=some (.ret (.tuple []),hp.set r (.arr none (P++V++U++R) false)):=by
 refine zaI rfl rfl rfl rfl ?_
 have hNl:N=P.length+U.length+V.length+R.length:=by(rw[hN];simp <;> omega)
 have w1:IntKind.i64.wrap ((m:Int) - (a:Int))=((U.length:Nat):Int):=by rw[zah (by omega) (by omega)];omega
 have w2:IntKind.i64.wrap ((b:Int) - (m:Int))=((V.length:Nat):Int):=by rw[zah (by omega) (by omega)];omega
 simp -dsimp -implicitDefEqProofs only[go_sem,seval,↓reduceIte,w1,w2]
 refine zbB (fun k st=>∃(i j:Nat) (P' X Y R':List PV),k=i+j/\0<i/\0<j/\X.length=i/\Y.length=j/\P'.length+i=m/\P'++Y++X++R'=P++V++U++R/\(P'++X++Y++R').length=N/\st=⟨[(0,.sl none r N 0 N),(2,.pv none (.int .i64 m)),(4,fv),(10,.pv none (.int .i64 i)),(11,.pv none (.int .i64 j))],hp.set r (.arr none (P'++X++Y++R') false)⟩) (n:=U.length+V.length) ⟨U.length,V.length,P,U,V,R,rfl,hU0,hV0,rfl,rfl,by omega,rfl,hN.symm,?_⟩ ?_
 ·simp -dsimp -implicitDefEqProofs only[go_sem,seval,↓reduceIte]
 ·rintro k st ⟨i,j,P',X,Y,R',hk,i0,j0,lX,lY,lP,hT,hL,rfl⟩
  have hLn:P'.length+i+j+R'.length=N:=by(rw[<-hL];simp <;> omega)
  by_cases hij:i=j
  ·have hc:(i:Int)=(j:Int):=by omega
   have w3:IntKind.i64.wrap ((m:Int) - (j:Int))=((P'.length:Nat):Int):=by rw[zah (by omega) (by omega)];omega
   have hcall:=zdP fv hp r hr P'.length m j N P' X [] Y R' rfl (by omega) (by omega) (by(simp <;> omega)) (by simp at hL ⊢;omega) hN'
   simp only[List.append_nil] at hcall
   rw[hT] at hcall
   simp -dsimp -implicitDefEqProofs only[go_sem,seval,↓reduceIte,hc,w3,hcall]
   rw[List.take_of_length_le (by simp)]
  ·have hc:¬(i:Int)=(j:Int):=by omega
   by_cases hgt:j<i
   ·have hc2:(j:Int)<(i:Int):=by omega
    have w3:IntKind.i64.wrap ((m:Int) - (i:Int))=((P'.length:Nat):Int):=by rw[zah (by omega) (by omega)];omega
    have w4:IntKind.i64.wrap ((i:Int) - (j:Int))=((i - j:Nat):Int):=by rw[zah (by omega) (by omega)];omega
    have eX:X=X.take j++X.drop j:=(List.take_append_drop j X).symm
    have hcall:=zdP fv hp r hr P'.length m j N P' (X.take j) (X.drop j) Y R' rfl (by(simp <;> omega)) (by omega) (by(simp <;> omega)) (by(rw[<-hL];simp <;> omega)) hN'
    have e0:P'++X.take j++X.drop j++Y++R'=P'++X++Y++R':=by simp
    rw[e0] at hcall
    simp -dsimp -implicitDefEqProofs only[go_sem,seval,↓reduceIte,hc,hc2,w3,w4,hcall]
    refine⟨i - j+j,by omega,i - j,j,P'++Y,X.drop j,X.take j,R',rfl,by omega,by omega,by(simp <;> omega),by(simp <;> omega),by(simp <;> omega),?_,?_,?_⟩
    ·rw[<-hT];simp
    ·rw[<-hL];simp <;> omega
    ·rw[zam (by simp)]
   ·have hc2:¬(j:Int)<(i:Int):=by omega
    have w3:IntKind.i64.wrap ((m:Int) - (i:Int))=((P'.length:Nat):Int):=by rw[zah (by omega) (by omega)];omega
    have w4:IntKind.i64.wrap ((j:Int) - (i:Int))=((j - i:Nat):Int):=by rw[zah (by omega) (by omega)];omega
    have w5:IntKind.i64.wrap ((m:Int)+(j:Int))=((m+j:Nat):Int):=by rw[zah (by omega) (by omega)];omega
    have w6:IntKind.i64.wrap (((m+j:Nat):Int) - (i:Int))=((m+j - i:Nat):Int):=by rw[zah (by omega) (by omega)];omega
    have hcall:=zdP fv hp r hr P'.length (m+j - i) i N P' X (Y.take (j - i)) (Y.drop (j - i)) R' rfl lX (by(simp <;> omega)) (by(simp <;> omega)) (by(rw[<-hL];simp <;> omega)) hN'
    have e0:P'++X++Y.take (j - i)++Y.drop (j - i)++R'=P'++X++Y++R':=by simp
    rw[e0] at hcall
    simp -dsimp -implicitDefEqProofs only[go_sem,seval,↓reduceIte,hc,hc2,w3,w4,w5,w6,hcall]
    refine⟨i+(j - i),by omega,i,j - i,P',Y.drop (j - i),Y.take (j - i),X++R',rfl,by omega,by omega,by(simp <;> omega),by(simp <;> omega),by omega,?_,?_,?_⟩
    ·rw[<-hT];simp
    ·rw[<-hL];simp <;> omega
    ·rw[zam (by simp)];simp

def CmpF(c:PV->PV->Int)(fv:AV)(D:PV->Prop)(hp:Heap)(r:Nat):Prop:=∃g fs cs,zaT fv=some (g,fs,cs)/\∀x y,D x->D y->∀A,S g (fs++[.pv none x,.pv none y]++cs) (hp.set r A)=some (.ret (.pv none (.int .i64 (c x y))),hp.set r A)

theorem zrM(c:PV->PV->Int)(hC:Cmp c)(fv:AV)(D:PV->Prop)(hp:Heap)(r:Nat)(hg:CmpF c fv D hp r)(hr:r<hp.length)(a b i N:Nat)(P S1 R:List PV)(t:PV)(hP:P.length=a)(hs:Srt c S1)(hi:i=a+S1.length)(hN:N=(P++S1++t::R).length)(hN':N<1000000000)(hD:∀x∈S1,D x)(hDt:D t)
  (fr:Fr)(Q:AExit->St->Prop)
  (hfr:fr.keep [0,1,2,3,8,9]=[(0,.sl none r N 0 N),(1,.pv none (.int .i64 a)),(2,.pv none (.int .i64 b)),(3,fv),(8,.pv none (.int .i64 i)),(9,.pv none (.int .i64 i))])
  (h:∀rest,Q (.exit 2) ⟨(0,.sl none r N 0 N)::(1,.pv none (.int .i64 a))::(2,.pv none (.int .i64 b))::(3,fv)::(8,.pv none (.int .i64 i))::rest,hp.set r (.arr none (P++insC c t S1++R) false)⟩):
  W Z L hp.length (.loop [0,1,2,3,8,9] c55b9) ⟨fr,hp.set r (.arr none (P++S1++t::R) false)⟩ Q:=by
 have e1:∀A,(hp.set r A)[r]? =some A:=fun A=>by simp[hr]
 have hNl:N=P.length+S1.length+R.length+1:=by rw[hN];simp;omega
 refine zbB (fun k st=>∃(L1 M:List PV),k=L1.length/\S1=L1++M/\(∀m∈M,c t m<0)/\st=⟨[(0,.sl none r N 0 N),(1,.pv none (.int .i64 a)),(2,.pv none (.int .i64 b)),(3,fv),(8,.pv none (.int .i64 i)),(9,.pv none (.int .i64 ((a+L1.length:Nat):Int)))],hp.set r (.arr none (P++L1++t::M++R) false)⟩) (n:=S1.length) ⟨S1,[],rfl,by simp,by simp,?_⟩ ?_
 ·rw[hfr,hi]
  simp
 ·rintro k st ⟨L1,M,hk,hS,hM,rfl⟩
  have hSl:S1.length=L1.length+M.length:=by rw[hS];simp
  have hlen:(P++L1++t::M++R).length=N:=by simp;omega
  have fin:(∀x∈L1,¬c t x<0)->P++insC c t S1++R=P++L1++t::M++R:=fun hx=>by
   rw[hS,zhD hx hM];simp
  rcases zeq L1 with rfl|⟨L2,x,rfl⟩
  ·have hc:¬((a:Nat):Int)<((a+([]:List PV).length:Nat):Int):=by simp
   have hf:=fin (by simp)
   rw[hf] at h
   simp -dsimp -implicitDefEqProofs only[c55b9,go_sem,seval,↓reduceIte,hc,Int.lt_irrefl]
   exact h _
  ·have hxl:(L2++[x]).length=L2.length+1:=by simp
   have hc:((a:Nat):Int)<((a+(L2++[x]).length:Nat):Int):=by rw[hxl];omega
   have w1:IntKind.i64.wrap (((a+(L2++[x]).length:Nat):Int) - 1)=((a+L2.length:Nat):Int):=by rw[zah (by omega) (by omega)];omega
   have la:a+(L2++[x]).length<N:=by omega
   have lb:a+L2.length<N:=by omega
   have s1:P++(L2++[x])++t::M++R=(P++(L2++[x]))++t::(M++R):=by simp
   have s2:P++(L2++[x])++t::M++R=(P++L2)++x::(t::M++R):=by simp
   have g1:(P++(L2++[x])++t::M++R)[a+(L2++[x]).length]? =some t:=by rw[s1];exact zdJ (by simp;omega)
   have g2:(P++(L2++[x])++t::M++R)[a+L2.length]? =some x:=by rw[s2];exact zdJ (by simp;omega)
   have hxm:x∈S1:=by rw[hS];simp
   obtain⟨g,fs,cs,hcal,hg'⟩:=hg
   have hcall:=hg' t x hDt (hD x hxm)
   by_cases hlt:c t x<0
   ·have g3:((P++(L2++[x])++t::M++R).set (a+(L2++[x]).length) x).set (a+L2.length) t=P++L2++t::(x::M)++R:=by
     rw[s1,zdK (by simp;omega)]
     have s3:(P++(L2++[x]))++x::(M++R)=(P++L2)++x::(x::M++R):=by simp
     rw[s3,zdK (by simp;omega)]
     simp
    generalize hxs:P++(L2++[x])++t::M++R=xs at g1 g2 g3 hlen ⊢
    simp -dsimp -implicitDefEqProofs only[c55b9,go_sem,seval,↓reduceIte,hc,w1,zal la,zal lb,za5,zbZ,e1,g1,g2,hlen,List.length_set,List.set_set,la,lb,g3,hcall,zbJ hcal,hlt]
    refine⟨L2.length,by omega,L2,x::M,rfl,by rw[hS];simp,?_,?_⟩
    ·intro m hm
     rcases List.mem_cons.1 hm with rfl|hm
     ·exact hlt
     ·exact hM m hm
    ·rw[zam (by simp)]
   ·have hf:=fin (fun y hy=>by
     rcases List.mem_append.1 hy with hy|hy
     ·have hyx:c y x<=0:=by
       rw[hS] at hs
       have:=(List.pairwise_append.1 (List.pairwise_append.1 hs).1).2.2 y hy x (by simp)
       exact this
      intro hty
      have:=hC.lt_of_lt_le hty hyx
      exact hlt this
     ·simp at hy;subst hy;exact hlt)
    rw[hf] at h
    generalize hxs:P++(L2++[x])++t::M++R=xs at g1 g2 hlen h ⊢
    simp -dsimp -implicitDefEqProofs only[c55b9,go_sem,seval,↓reduceIte,hc,w1,zal la,zal lb,za5,e1,g1,g2,hlen,hcall,zbJ hcal,hlt]
    exact h _

theorem zfP(c:PV->PV->Int)(hC:Cmp c)(fv:AV)(D:PV->Prop)(hp:Heap)(r:Nat)(hg:CmpF c fv D hp r)(hr:r<hp.length)(a b N:Nat)(P A R:List PV)(hP:P.length=a)(hA:b=a+A.length)(hN:N=(P++A++R).length)(hN':N<1000000000)(hD:∀x∈A,D x):
  S 55 [.sl none r N 0 N,.pv none (.int .i64 a),.pv none (.int .i64 b),fv] (hp.set r (.arr none (P++A++R) false))=some (.ret (.tuple []),hp.set r (.arr none (P++isort c A++R) false)):=by
 refine zaI rfl rfl rfl rfl ?_
 have hNl:N=P.length+A.length+R.length:=by(rw[hN];simp <;> omega)
 have hsl:(hp.set r (.arr none (P++A++R) false)).length=hp.length:=by simp
 have w0:IntKind.i64.wrap ((a:Int)+1)=((a+1:Nat):Int):=by rw[zah (by omega) (by omega)];omega
 rw[hsl]
 simp -dsimp -implicitDefEqProofs only[c55b9,go_sem,seval,↓reduceIte,w0]
 refine zbB (fun n st=>∃k:Nat,n=A.length - k/\1<=k/\st=⟨[(0,.sl none r N 0 N),(1,.pv none (.int .i64 a)),(2,.pv none (.int .i64 b)),(3,fv),(8,.pv none (.int .i64 ((a+k:Nat):Int)))],hp.set r (.arr none (P++isort c (A.take k)++A.drop k++R) false)⟩) (n:=A.length - 1) ⟨1,rfl,Nat.le_refl _,?_⟩ ?_
 ·simp -dsimp -implicitDefEqProofs only[go_sem,seval,↓reduceIte]
  cases A with
  |nil=>simp[isort]
  |cons x A=>simp[isort,insC]
 ·rintro n st ⟨k,hn,hk,rfl⟩
  by_cases h:k<A.length
  ·have hc:((a+k:Nat):Int)<(b:Int):=by omega
   obtain⟨t,R1,hd⟩:∃t R1,A.drop k=t::R1:=⟨A[k],A.drop (k+1),List.drop_eq_getElem_cons h⟩
   have hd1:A.drop (k+1)=R1:=by rw[<-List.drop_drop,hd];rfl
   have ht:A.take (k+1)=A.take k++[t]:=by
    have:A[k]? =some t:=by have:=congrArg List.head? hd;simpa using this
    rw[List.take_add_one,this];rfl
   have w3:IntKind.i64.wrap (((a+k:Nat):Int)+1)=((a+(k+1):Nat):Int):=by rw[zah (by omega) (by omega)];omega
   have hlk:(isort c (A.take k)).length=k:=by rw[zaq];simp;omega
   have e0:P++isort c (A.take k)++A.drop k++R=P++isort c (A.take k)++t::(R1++R):=by rw[hd];simp
   have hmem:∀x∈isort c (A.take k),D x:=fun x hx=>hD x (List.mem_of_mem_take ((zcc _).mem_iff.1 hx))
   have htm:D t:=hD t (List.mem_of_mem_drop (show t∈A.drop k from by rw[hd];simp))
   simp -dsimp -implicitDefEqProofs only[go_sem,seval,↓reduceIte,hc]
   rw[e0]
   refine zrM c hC fv D hp r hg hr a b (a+k) N P (isort c (A.take k)) (R1++R) t hP (zcT hC _) (by omega) (by rw[<-e0];simp[hlk];omega) hN' hmem htm _ _ rfl fun rest=> ?_
   simp -dsimp -implicitDefEqProofs only[go_sem,seval,↓reduceIte,w3]
   refine⟨A.length - (k+1),by omega,k+1,rfl,by omega,?_⟩
   rw[zam (by simp),ht,znD,hd1]
   simp
  ·have hc:¬((a+k:Nat):Int)<(b:Int):=by omega
   simp -dsimp -implicitDefEqProofs only[go_sem,seval,↓reduceIte,hc]
   rw[List.take_of_length_le (by simp),List.take_of_length_le (by omega),List.drop_eq_nil_of_le (by omega)]
   simp
end Go.Proofs.Ytmajapjbogmefaa
