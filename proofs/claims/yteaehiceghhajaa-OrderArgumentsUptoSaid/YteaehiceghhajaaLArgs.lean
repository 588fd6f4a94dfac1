/- What is proved: OrderArguments answers true for all terms, names, lists and numbers, where what it reads is of bulk at most 1048576. -/
import Derived.Test.YteaehiceghhajaaArgD
set_option linter.unusedSimpArgs false
set_option linter.unusedVariables false
namespace Go.Proofs.Yteaehiceghhajaa
open Go.Am Go.ChangeShapes Go.WideShapes Go.ChangeAt Go.RowKit
theorem zn1(a b:Tm)(s:List UInt8)(l:List Tm)(k:Int)(hk:0<=k/\k<256)(ha:a.size<=1048576)(hb:b.size<=1048576)(hl:Tm.sizes l<=1048576):S 7 [a.av,b.av,.pv none (.str s),.pv none (.sl (some 4) (Tm.pvs l)),.pv none (.int .u8 k)] []=some (.ret (.pv none (.bool true)),[]):=by
 obtain⟨kn,rfl⟩:∃kn:Nat,k=kn:=⟨k.toNat,by omega⟩
 refine zeA rfl rfl rfl rfl ?_
 have h1:=fun hp=>zpl l (by omega) hp
 have hal:∀H:Heap,zbW none (.tsl (some 4) []) H []=some (.ptr H.length 0,H++[.box none (.sl (some 4) (H.length+1) 0 0 0),.arr (some 4) [] false]):=fun H=>by
  simp[zbW,AV.plain,AV.shp,AV.own,Sh.size]
 have s0:=Tm.zpG l 7
 have ml:(Tm.pvs (l.take 40)).length=(l.take 40).length:=Tm.pvs_len _
 have tt:(Tm.pvs (l.take 40)).take (l.take 7).length=Tm.pvs (l.take 7):=by
  rw[Tm.zpV,List.take_take]
  congr 1
  rw[List.length_take]
  by_cases h:l.length<=7
  ·rw[List.take_of_length_le (by omega),List.take_of_length_le (by omega)]
  ·rw[Nat.min_eq_left (by omega:7<=l.length)]
   rfl
 have hR:=zmQ a b s (l.take 7) (Tm.pvs (l.take 40)) (l.take 40).length kn (by omega) (by omega) (by omega) (by omega) ml tt (by rw[List.length_take];omega) (by rw[List.length_take,List.length_take];omega) (zaI _)
 obtain⟨T,hT⟩:∃T,T=tl7:=⟨_,rfl⟩
 have c7:=c7_eq
 rw[<-hT] at hR c7
 simp only[Tm.av] at*
 by_cases h7:7<(l.take 40).length
 ·have e7:(l.take 7).length=7:=by rw[List.length_take] at h7 ⊢;omega
  have c8:(7:Int)<((l.take 40).length:Int):=by omega
  have hhi:=zfh (sh:=some 4) (s:=none) (k:=.i64) (r:=4) (N:=(l.take 40).length) (n:=(l.take 40).length) (h:=7) (by omega)
  simp only[show((7:Nat):Int)=7 from rfl] at hhi
  rw[e7] at hR
  simp -dsimp -implicitDefEqProofs only[c7,g7,c7r0,c7r1,c7r2,c7r3,c7k4,c7r5,c7r6,c7r7,c7r8,c7r9,c7k10,c7r11,c7r12,c7k13,c7r14,c7r15,c7r16,c7k17,c7r18,c7r19,go_sem,seval,↓reduceIte,h1,hal,c8,hhi,zfT (Nat.zero_le _),List.append_assoc]
  exact hR []
 ·have e7:(l.take 7).length=(l.take 40).length:=by rw[List.length_take,List.length_take] at *; omega
  have c8:¬(7:Int)<((l.take 40).length:Int):=by omega
  rw[e7] at hR
  simp -dsimp -implicitDefEqProofs only[c7,g7,c7r0,c7r1,c7r2,c7r3,c7k4,c7r5,c7r6,c7r7,c7r8,c7r9,c7k10,c7r11,c7r12,c7k13,c7r14,c7r15,c7r16,c7k17,c7r18,c7r19,go_sem,seval,↓reduceIte,h1,hal,c8,zfT (Nat.zero_le _),List.append_assoc]
  exact hR [(22,.pv none (.bool false))]
set_option maxRecDepth 100000 in
theorem orderArguments_lifted(os:Os)(started:os.Started)(H:Type)(enc:TypeId × Value->H)(F:Stop.Interp):
  ReturnsInHanded {} Try.checked os 7 .any ((Rows.OpenSpec.upto Rows.orderArgumentsSpec).pre6 enc Try.prog Try.f7 Rows.orderArgumentsUptoRow.domain false) (((Rows.OpenSpec.upto Rows.orderArgumentsSpec).at F).post enc Try.prog Try.f7 false true false false):=by
 refine returnsInHanded_of_cond (C:=Try.checked) (s:=(Rows.OpenSpec.upto Rows.orderArgumentsSpec)) (k:=Rows.uptoSmall) rfl Try.own started (by kernel_rfl) Try.func7
  (OpenSpec.witness (enc:=enc) (C:=Try.checked) (s:=(Rows.OpenSpec.upto Rows.orderArgumentsSpec)) (k:=Rows.uptoSmall) rfl false ⟨#[],#[.agg #[.int .i64 0,.int .i64 0,.string ⟨#[]⟩,.slice none 0 0],.agg #[.int .i64 0,.int .i64 0,.string ⟨#[]⟩,.slice none 0 0],.string ⟨#[]⟩,.slice none 0 0,.int .u8 0],[]⟩ 8 (by kernel_rfl) (by kernel_rfl) (by kernel_rfl)
   (x:=([.agg [.lit (.int .i64 0),.lit (.int .i64 0),.lit (.string []),.nil],.agg [.lit (.int .i64 0),.lit (.int .i64 0),.lit (.string []),.nil],.lit (.string []),.nil,.lit (.int .u8 0)],[],[])) (by kernel_rfl) rfl (by kernel_rfl)) ?_
 intro W base args ds gs before hval0 hW _ hk _
 have hval:∀(j:Nat) t v,Try.f7.params[j]? =some t->args[j]? =some v->Value.okWide Try.prog W .any base t v:=hval0
 have hb:=zkZ hk
 have hW':=hW
 obtain⟨p,q,hA0,hV,rfl,hfz,hnd⟩:=hW
 have hA:DataW.TrodAll enc Try.prog W 0 (fun _=>true) true Try.f7.params.toList args.toList ds p:=hA0
 rw[Try.params7] at hA hval
 clear hA0 hval0
 obtain⟨v0,vs0,d0,ds0,p0,q0,e0,rfl,rfl,h0,r0'⟩:=trodAll_cons hA
 obtain⟨v1,vs1,d1,ds1,p1,q1,e1,rfl,rfl,h1,r1'⟩:=trodAll_cons r0'
 obtain⟨v2,vs2,d2,ds2,p2,q2,e2,rfl,rfl,h2,r2'⟩:=trodAll_cons r1'
 obtain⟨v3,vs3,d3,ds3,p3,q3,e3,rfl,rfl,h3,r3'⟩:=trodAll_cons r2'
 obtain⟨v4,vs4,d4,ds4,p4,q4,e4,rfl,rfl,h4,r4'⟩:=trodAll_cons r3'
 obtain⟨e5,rfl,rfl⟩:=trodAll_nil r4'
 subst e5
 subst e4
 subst e3
 subst e2
 subst e1
 obtain rfl:args= #[v0,v1,v2,v3,v4]:=by cases args;simp_all
 obtain⟨rfl,rfl⟩:=trodVars_none hV
 obtain⟨t0,a0,z0,r0⟩:=zij h0 (hval 0 _ v0 rfl rfl)
 obtain⟨t1,a1,z1,r1⟩:=zij h1 (hval 1 _ v1 rfl rfl)
 obtain⟨t2,a2,z2⟩:=znZ h2 (hval 2 _ v2 rfl rfl)
 obtain⟨t3,a3,z3,r3⟩:=zk0 h3 (hval 3 _ v3 rfl rfl)
 obtain⟨t4,a4,r4⟩:=zoP h4 (hval 4 _ v4 rfl rfl)
 simp only[Rows.uptoBulkAll,List.append_nil] at hb
 exact zhX sound Try.func7 (by kernel_rfl) Try.zp0 (s:=Rows.orderArgumentsSpec) rfl rfl hW' (.cons a0 (.cons a1 (.cons a2 (.cons a3 (.cons a4 (.nil)))))) (zn1 t0 t1 t2 t3 t4 r4 (by omega) (by omega) (by omega))
theorem orderArguments_holds:Rows.OrderArgumentsUptoSaid:=
 OpenClaim.holds_of_cond 7 Try.f7 rfl rfl rfl rfl rfl rfl rfl ⟨rfl,rfl,rfl,rfl,rfl⟩ rfl rfl rfl rfl rfl (by kernel_rfl) Try.func7 (by kernel_rfl)
  (of_decide_eq_true (by kernel_rfl)) (by unfold Func.isWrapper;first|(rw[if_pos (by decide+kernel)];kernel_rfl)|(rw[if_neg (by decide+kernel)];exact⟨rfl,rfl⟩))
  (fun os started H enc _ F=>orderArguments_lifted os started H enc F)
end Go.Proofs.Yteaehiceghhajaa
