/- What is proved: BagsCalls answers true for all terms, names and numbers, where what it reads is of bulk at most 1048576. -/
import Derived.Test.YtffecaafklpmhaaGreatDataC
set_option linter.unusedSimpArgs false
set_option linter.unusedVariables false
namespace Go.Proofs.YtffecaafklpmhaaGreat
open Go.Am Go.ChangeShapes Go.WideShapes Go.ChangeAt Go.RowKit
theorem Oa(t:Tm):(YF t).2.1.valid=true:=by
 have hz:zt.valid=true:=by decide
 unfold YF;split
 ·rename_i hv;split
  ·exact jA
  ·split
   ·exact hz
   ·exact(jy (by decide) hv).2
 ·exact hz
theorem Ob(t:Tm):(YG t).2.1.valid=true:=by
 have hz:zt.valid=true:=by decide
 unfold YG;split
 ·cases hf:Xh (YF t).1 with
  |none=>exact hz
  |some b=>
   have hl:=(jU t).1;generalize (YF t).1=l at hf hl
   induction l with
   |nil=>rw[Xh] at hf;cases hf
   |cons p r ih=>
    rw[Xh] at hf;split at hf
    ·cases hf;exact jA
    ·split at hf
     ·exact ih hf fun x hx=>hl x (Zu _ hx)
     ·cases hf;exact(jy (by decide) (hl p Zv)).2
 ·exact Oa t
theorem Oc(t:Tm):(arg1 t).size<=t.size:=by
 have h1:(Tm.mk 0 0 [] []).size=1:=rfl;have h2:=t.size_pos;unfold arg1;split
 ·rename_i h;exact Nat.le_of_lt (Tm.zyQ (by rw[h];simp))
 ·omega
theorem Od(g:Tm)(hg:g.size<=1048576):(∀t∈(yo g).1,t.valid=true)/\(yo g).1.length<1000000000/\(yo g).2.1.valid=true:=by
 have hz:zt.valid=true:=by decide
 have nil:∀(b:Tm) (e:Int),b.valid=true->(∀t∈(([]:List Tm),b,e).1,t.valid=true)/\(([]:List Tm),b,e).1.length<1000000000/\(([]:List Tm),b,e).2.1.valid=true:=fun b e h=>⟨fun t ht=>(by cases ht),by show 0<1000000000;decide,h⟩;have hs:=Oc g;have hpf:=VH (arg1 g);unfold yo;split
 ·split
  ·split
   ·rename_i hk;have hl:=(hpf hk).2.1;have hgl:=VD (YG (arg1 g)).1;split
    ·split
     ·rename_i hall;refine⟨fun t ht=> ?_,?_,hz⟩
      ·obtain⟨u,hu,rfl⟩:=Z2.1 ht;exact hall u hu
      ·show(List.map _ _).length<_;rw[ZO];omega
     ·exact nil _ _ hz
    ·exact nil _ _ hz
   ·exact nil _ _ (Ob _)
  ·exact nil _ _ hz
 ·exact nil _ _ hz
theorem Oe(b:Tm)(hv:b.valid=true)(hp:Heap):S 15 [b.av,b.av] hp=some (.ret (O9 true),hp):=by
 refine Yb rfl rfl rfl (Yd [(some 4,b.pv),(some 4,b.pv)]) rfl ?_;have hs:=valid_size hv;have h1:=fun hp=>uX b b hp (by omega) (by omega);have e:same b b=true:=by simp[same,hv,Tm.zzo]
 rw[e] at h1;simp only[Tm.av] at h1;simp -dsimp -implicitDefEqProofs only[go_sem,seval,↓reduceIte,h1]
theorem Of(g:Tm)(nm:List UInt8)(k:Int)(hg:g.size<=1048576):S 4 [g.av,Oh nm,O8 k] []=some (.ret (O9 true),[]):=by
 refine Yb rfl rfl rfl (Yd [(some 4,g.pv),(none,.str nm),(none,.int .i64 k)]) rfl ?_;have haw:∀hp,S 9 [] hp=some (.ret (O9 true),hp):=fun hp=>by
  obtain⟨H,h⟩:=nU;exact yG (F:=find tab) (prim:=prim) (f:=9) (args:=[]) (ps:=[]) (hp:=hp) (hp1:=hp) rfl rfl rfl rfl h
 have h1:=fun hp=>nK g (by omega) hp;have h2:=fun hp=>nS g (by omega) hp;obtain⟨f1,f2,f3⟩:=Od g hg;generalize yo g=R at*;obtain⟨l,b,e⟩:=R;dsimp only at h1 h2 f1 f2 f3;have hS:∀hp,S 12 [.pv none (.sl (some 4) (Tm.pvs l)),.pv none (.sl (some 4) (Tm.pvs l))] hp=some (.ret (O9 true),hp):=fun hp=>yG (ps:=[(none,.sl (some 4) (Tm.pvs l)),(none,.sl (some 4) (Tm.pvs l))]) rfl rfl rfl rfl (np l f1 f2);have hE:=fun hp=>Oe b f3 hp;have h3:=fun hp=>gZ nm k hp;have h4:=fun hp=>Bd nm k hp;have hbe:∀b:Bool,(b == b)=true:=fun b=>by cases b <;> rfl
 simp only[Tm.av] at h1 h2 hE;simp -dsimp -implicitDefEqProofs only[go_sem,seval,↓reduceIte,Tm.av,h1,h2,hS,hE,h3,h4,hbe,haw]
set_option maxRecDepth 100000 in
theorem bagsCalls_lifted(os:Os)(started:os.Started)(H:Type)(enc:TypeId × Value->H)(F:Stop.Interp):
  ReturnsInHanded {} Tryz.checked os 4 .any ((Rows.OpenSpec.upto Rows.bagsCallsSpec).pre6 enc Tryz.prog Tryz.f4 Rows.bagsCallsUptoRow.domain false) (((Rows.OpenSpec.upto Rows.bagsCallsSpec).at F).post enc Tryz.prog Tryz.f4 false true false false):=by
 refine returnsInHanded_of_cond (C:=Tryz.checked) (s:=(Rows.OpenSpec.upto Rows.bagsCallsSpec)) (k:=Rows.uptoSmall) rfl Tryz.own started (by kernel_rfl) Tryz.func4
  (OpenSpec.witness (enc:=enc) (C:=Tryz.checked) (s:=(Rows.OpenSpec.upto Rows.bagsCallsSpec)) (k:=Rows.uptoSmall) rfl false ⟨#[],#[.agg #[.int .i64 0,.int .i64 0,.string ⟨#[]⟩,.slice none 0 0],.string ⟨#[]⟩,.int .i64 0],[]⟩ 8 (by kernel_rfl) (by kernel_rfl) (by kernel_rfl)
   (x:=([.agg [.lit (.int .i64 0),.lit (.int .i64 0),.lit (.string []),.nil],.lit (.string []),.lit (.int .i64 0)],[],[])) (by kernel_rfl) rfl (by kernel_rfl)) ?_
 intro W base args ds gs before hval0 hW _ hk _;have hval:∀(j:Nat) t v,Tryz.f4.params[j]? =some t->args[j]? =some v->Value.okWide Tryz.prog W .any base t v:=hval0;have hb:=nV hk;have hW':=hW;obtain⟨p,q,hA0,hV,rfl,hfz,hnd⟩:=hW;have hA:DataW.TrodAll enc Tryz.prog W 0 (fun _=>true) true Tryz.f4.params.toList args.toList ds p:=hA0;rw[Tryz.params4] at hA hval;clear hA0 hval0;obtain⟨v0,vs0,d0,ds0,p0,q0,e0,rfl,rfl,h0,r0'⟩:=trodAll_cons hA;obtain⟨v1,vs1,d1,ds1,p1,q1,e1,rfl,rfl,h1,r1'⟩:=trodAll_cons r0';obtain⟨v2,vs2,d2,ds2,p2,q2,e2,rfl,rfl,h2,r2'⟩:=trodAll_cons r1';obtain⟨e3,rfl,rfl⟩:=trodAll_nil r2';subst e3;subst e2;subst e1;obtain rfl:args= #[v0,v1,v2]:=by cases args;simp_all
 obtain⟨rfl,rfl⟩:=trodVars_none hV;obtain⟨t0,a0,z0,r0⟩:=nY h0 (hval 0 _ v0 rfl rfl);obtain⟨t1,a1,z1⟩:=n9 h1 (hval 1 _ v1 rfl rfl);obtain⟨t2,a2,r2⟩:=n8 h2 (hval 2 _ v2 rfl rfl);simp only[Rows.uptoBulkAll,ZF] at hb;exact EB sound Tryz.func4 (by kernel_rfl) Tryz.zzp (s:=Rows.bagsCallsSpec) rfl rfl hW' (.cons a0 (.cons a1 (.cons a2 (.nil)))) (Of t0 t1 t2 (by omega))
theorem bagsCalls_holds:Rows.BagsCallsUptoSaid:=
 OpenClaim.holds_of_cond 4 Tryz.f4 rfl rfl rfl rfl rfl rfl rfl ⟨rfl,rfl,rfl,rfl,rfl⟩ rfl rfl rfl rfl rfl (by kernel_rfl) Tryz.func4 (by kernel_rfl)
  (ze (by kernel_rfl)) (by unfold Func.isWrapper;first|(rw[Zb (by decide+kernel)];kernel_rfl)|(rw[Za (by decide+kernel)];exact⟨rfl,rfl⟩))
  (fun os started H enc _ F=>bagsCalls_lifted os started H enc F)
end Go.Proofs.YtffecaafklpmhaaGreat
