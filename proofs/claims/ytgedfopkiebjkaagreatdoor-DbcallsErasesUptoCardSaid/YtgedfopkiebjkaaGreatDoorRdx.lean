/- What is proved: checks of arguments: bound, Atom, Int, Indicator of a name and a number. -/
import Derived.Test.YtgedfopkiebjkaaGreatDoorBal
import Derived.Test.YtgedfopkiebjkaaGreatDoorDb1
import Derived.Test.YtgedfopkiebjkaaGreatDoorCl
import Derived.Test.YtgedfopkiebjkaaGreatDoorAm5
set_option linter.unusedSimpArgs false
set_option linter.unusedVariables false
namespace Go.Proofs.YtgedfopkiebjkaaGreatDoor
open Go.Am
def intT(k:Int):Tm:=.mk 1 k [] []
def indT(nm:List UInt8)(k:Int):Tm:=.mk 3 0 [47] [zW nm,intT k]
theorem jC(k:Int):(intT k).fits=true:=by
 simp[intT,Tm.fits,Tm.fitsAll,Tm.node,Tm.kind,Tm.n,Tm.name,Tm.args]
theorem jD(k:Int):(intT k).valid=true:=Xw (jC k) (by have:(intT k).size=1:=rfl;omega)
theorem Vn{nm:List UInt8}{k:Int}(h:nm.length<=100):(indT nm k).valid=true:=by
 refine Xw (xO (nm:=[47]) (by decide) (by simp) (by simp) (by simp[Tm.fitsAll,valid_fits (q8 h),jC])) ?_;have:(indT nm k).size=3:=rfl;omega
theorem gJ(t:Tm)(hv:t.valid=true)(hk:t.kind≠0)(hp:Heap):S 139 [t.av] hp=some (.ret (.tuple [zt.av,P5 true]),hp):=by
 refine zL rfl rfl rfl (zJ [(some 4,t.pv)]) rfl ?_;have h1:=fun hp=>yu t hp (by grind [valid_size]);have hk':=Zj hk;have hz0:=P1;rw[hv] at h1;simp only[Tm.av] at h1;simp -dsimp -implicitDefEqProofs only[go_sem,seval,Tm.av,zQ,h1,hk',hz0,zH (Za _),zT];exact⟨_,rfl⟩
theorem N2(k:Int)(hp:Heap):S 125 [(intT k).av] hp=some (.ret (.tuple [P4 k,zt.av,P5 true]),hp):=by
 refine zL rfl rfl rfl (zJ [(some 4,(intT k).pv)]) rfl ?_;have h1:=gJ (intT k) (jD k) (by show(1:Int)≠0;decide);have hk:PV.part deep (intT k).pv 0 none=some (.int .i64 1):=rfl;have hs:PV.part deep (intT k).pv 1 none=some (.int .i64 k):=rfl;have hz0:=P1;simp only[Tm.av] at h1;simp -dsimp -implicitDefEqProofs only[go_sem,seval,Tm.av,h1,hk,hs,hz0,zH (Za _),zT];exact⟨_,rfl⟩
def strs(l:List (List UInt8)):List PV:=l.map .str
theorem N3(l:List (List UInt8)):(strs l).length=l.length:=by simp[strs]
theorem gL{l:List (List UInt8)}{i:Nat}{s:List UInt8}(h:l[i]? =some s):(strs l)[i]? =some (.str s):=by simp[strs,h]
def idxI:List (List UInt8)->List UInt8->Nat->Int
 |[],_,_=> -1
 |x::r,s,k=>if s=x then k else idxI r s (k+1)
theorem gM:∀(l:List (List UInt8)) (s:List UInt8) (k:Nat),0<=idxI l s k↔s∈l
 |[],s,k=>by simp[idxI]
 |x::r,s,k=>by
  unfold idxI;split
  ·rename_i h;simp[h]
  ·rename_i h;rw[gM r s (k+1)];simp[h]
theorem N4(l:List (List UInt8))(s:List UInt8)(hl:l.length<=1000000)(hp:Heap):S 99 [.pv none (.sl none (strs l)),P6 s] hp=some (.ret (P4 (idxI l s 0)),hp):=by
 refine zL rfl rfl rfl (zJ [(none,.sl none (strs l)),(none,.str s)]) rfl ?_;simp -dsimp -implicitDefEqProofs only[go_sem,seval,N3];refine Yf (α:=Unit) l.length (fun i _=>idxI l s 0=idxI (l.drop i) s i) (fun i _=>⟨[(0,.pv none (.sl none (strs l))),(1,P6 s),(7,P4 l.length),(8,P4 i)],[]⟩) () ⟨rfl,rfl⟩ ?_ ?_
 ·rintro i - h hinv;have hc:(i:Int)<(l.length:Int):=by omega
  obtain⟨u,hu⟩:∃u,l[i]? =some u:=⟨_,Zd h⟩;have w2:IntKind.i64.wrap ((i:Int)+1)=((i+1:Nat):Int):=by rw[zO (by omega) (by omega)];omega
  have hd:l.drop i=u::l.drop (i+1):=by
   have hlt:=(Ze.1 hu).1;rw[zF hlt]
   congr 1
   exact(Ze.1 hu).2
  rw[hd,idxI] at hinv;by_cases hs:s=u
  ·rw[Zh hs] at hinv;subst hs;simp -dsimp -implicitDefEqProofs only[go_sem,seval,hc,zM (gL hu),hinv]
  ·rw[Zb hs] at hinv;simp -dsimp -implicitDefEqProofs only[go_sem,seval,hc,zM (gL hu),hs,w2];exact⟨(),hinv⟩
 ·rintro - hinv;have hc:¬(l.length:Int)<(l.length:Int):=by omega
  rw[List.drop_length,idxI] at hinv;simp -dsimp -implicitDefEqProofs only[go_sem,seval,hc,hinv]
theorem N5(l:List (List UInt8))(s:List UInt8)(hl:l.length<=1000000)(hp:Heap):S 58 [.pv none (.sl none (strs l)),P6 s] hp=some (.ret (P5 (decide (s∈l))),hp):=by
 refine zL rfl rfl rfl (zJ [(none,.sl none (strs l)),(none,.str s)]) rfl ?_;have h:=N4 l s hl;have e:decide (0<=idxI l s 0)=decide (s∈l):=by simp[gM]
 simp -dsimp -implicitDefEqProofs only[go_sem,seval,h,e]
def sp1(l:List UInt8):List UInt8 × List (List UInt8):=l.foldr (fun b r=>if b=32 then([],r.1::r.2) else(b::r.1,r.2)) ([],[])
def sp(l:List UInt8):List (List UInt8):=(sp1 l).1::(sp1 l).2
def rs0:List UInt8:=[116,114,117,101,32,102,97,105,108,32,33,32,104,97,108,116,32,110,108,32,102,108,117,115,104,95,111,117,116,112,117,116,32,97,116,95,101,110,100,95,111,102,95,115,116,114,101,97,109]
def nm0:List (List UInt8):=sp rs0
def rs1:List UInt8:=[92,43,32,111,110,99,101,32,99,97,108,108,32,116,104,114,111,119,32,114,101,116,114,97,99,116,32,118,97,114,32,110,111,110,118,97,114,32,97,116,111,109,32,105,110,116,101,103,101,114,32,97,116,111,109,105,99,32,99,111,109,112,111,117,110,100,32,99,97,108,108,97,98,108,101,32,105,115,95,108,105,115,116,32,103,114,111,117,110,100,32,97,115,115,101,114,116,97,32,97,115,115,101,114,116,122,32,97,98,111,108,105,115,104,32,100,121,110,97,109,105,99,32,99,117,114,114,101,110,116,95,112,114,101,100,105,99,97,116,101,32,36,101,114,97,115,101,32,99,117,114,114,101,110,116,95,105,110,112,117,116,32,99,117,114,114,101,110,116,95,111,117,116,112,117,116,32,115,101,116,95,105,110,112,117,116,32,115,101,116,95,111,117,116,112,117,116,32,99,108,111,115,101,32,102,108,117,115,104,95,111,117,116,112,117,116,32,97,116,95,101,110,100,95,111,102,95,115,116,114,101,97,109,32,103,101,116,95,99,104,97,114,32,112,101,101,107,95,99,104,97,114,32,112,117,116,95,99,104,97,114,32,103,101,116,95,99,111,100,101,32,112,101,101,107,95,99,111,100,101,32,112,117,116,95,99,111,100,101,32,110,108,32,114,101,97,100,32,119,114,105,116,101,32,119,114,105,116,101,113,32,119,114,105,116,101,95,99,97,110,111,110,105,99,97,108]
def nm1:List (List UInt8):=sp rs1
def rs2:List UInt8:=[44,32,59,32,45,62,32,61,32,100,101,108,95,97,116,116,114,32,99,97,108,108,32,99,117,114,114,101,110,116,95,99,104,97,114,95,99,111,110,118,101,114,115,105,111,110,32,99,104,97,114,95,99,111,110,118,101,114,115,105,111,110,32,115,101,116,95,112,114,111,108,111,103,95,102,108,97,103,32,99,117,114,114,101,110,116,95,112,114,111,108,111,103,95,102,108,97,103,32,105,115,32,61,58,61,32,61,92,61,32,60,32,62,32,61,60,32,62,61,32,61,61,32,92,61,61,32,64,60,32,64,61,60,32,64,62,32,64,62,61,32,92,61,32,61,46,46,32,99,111,112,121,95,116,101,114,109,32,116,101,114,109,95,118,97,114,105,97,98,108,101,115,32,108,101,110,103,116,104,32,109,115,111,114,116,32,115,111,114,116,32,107,101,121,115,111,114,116,32,97,116,111,109,95,108,101,110,103,116,104,32,97,116,111,109,95,99,104,97,114,115,32,97,116,111,109,95,99,111,100,101,115,32,99,104,97,114,95,99,111,100,101,32,110,117,109,98,101,114,95,99,104,97,114,115,32,110,117,109,98,101,114,95,99,111,100,101,115,32,99,108,97,117,115,101,32,99,108,111,115,101,32,103,101,116,95,99,104,97,114,32,112,101,101,107,95,99,104,97,114,32,112,117,116,95,99,104,97,114,32,103,101,116,95,99,111,100,101,32,112,101,101,107,95,99,111,100,101,32,112,117,116,95,99,111,100,101,32,114,101,97,100,32,114,101,97,100,95,116,101,114,109,32,119,114,105,116,101,32,119,114,105,116,101,113,32,119,114,105,116,101,95,99,97,110,111,110,105,99,97,108,32,119,114,105,116,101,95,116,101,114,109]
def nm2:List (List UInt8):=sp rs2
def rs3:List UInt8:=[99,97,108,108,32,99,97,116,99,104,32,102,105,110,100,97,108,108,32,98,97,103,111,102,32,115,101,116,111,102,32,112,117,116,95,97,116,116,114,32,103,101,116,95,97,116,116,114,32,111,112,32,99,117,114,114,101,110,116,95,111,112,32,99,111,109,112,97,114,101,32,102,117,110,99,116,111,114,32,97,114,103,32,98,101,116,119,101,101,110,32,97,116,111,109,95,99,111,110,99,97,116,32,36,99,108,97,117,115,101,32,36,98,97,103,32,36,115,101,116,32,111,112,101,110,32,114,101,97,100,95,116,101,114,109,32,119,114,105,116,101,95,116,101,114,109]
def nm3:List (List UInt8):=sp rs3
def rs4:List UInt8:=[99,97,108,108,32,111,112,101,110]
def nm4:List (List UInt8):=sp rs4
def rs5:List UInt8:=[99,97,108,108,32,115,117,98,95,97,116,111,109]
def nm5:List (List UInt8):=sp rs5
def rs6:List UInt8:=[99,97,108,108]
def nm6:List (List UInt8):=sp rs6
def QA(n:Int):List (List UInt8):=if n=0 then nm0 else if n=1 then nm1 else if n=2 then nm2 else if n=3 then nm3 else if n=4 then nm4 else if n=5 then nm5 else if n=6 then nm6 else if n=7 then nm6 else if n=8 then nm6 else[]
def rsOf:List PV:=[.str rs0,.str rs1,.str rs2,.str rs3,.str rs4,.str rs5,.str rs6,.str rs6,.str rs6]
theorem QB{s:List UInt8}{l:List (List UInt8)}(h1:decide (s.length<4294967281)=true)(h2:s.all (fun b=>decide (b.toNat<128))=true)(h3:Lib.fields s=l)(hp:Heap):S 59 [P6 s] hp=some (.ret (.pv none (.sl none (strs l))),hp):=by
 have h:Qq 59 [P6 s] hp=some (.ret (.pv none (.sl none (strs l))),hp):=by
  unfold Qq;simp only[];rw[Zh ⟨Z5 h1,h2⟩,h3];rfl
 rw[S,jb (F:=find tab) (prim:=prim) (p:=Qq) rfl];exact h
theorem fl0(hp:Heap):S 59 [P6 rs0] hp=some (.ret (.pv none (.sl none (strs nm0))),hp):=QB (by kernel_rfl) (by kernel_rfl) (by kernel_rfl) hp
theorem fl1(hp:Heap):S 59 [P6 rs1] hp=some (.ret (.pv none (.sl none (strs nm1))),hp):=QB (by kernel_rfl) (by kernel_rfl) (by kernel_rfl) hp
theorem fl2(hp:Heap):S 59 [P6 rs2] hp=some (.ret (.pv none (.sl none (strs nm2))),hp):=QB (by kernel_rfl) (by kernel_rfl) (by kernel_rfl) hp
theorem fl3(hp:Heap):S 59 [P6 rs3] hp=some (.ret (.pv none (.sl none (strs nm3))),hp):=QB (by kernel_rfl) (by kernel_rfl) (by kernel_rfl) hp
theorem fl4(hp:Heap):S 59 [P6 rs4] hp=some (.ret (.pv none (.sl none (strs nm4))),hp):=QB (by kernel_rfl) (by kernel_rfl) (by kernel_rfl) hp
theorem fl5(hp:Heap):S 59 [P6 rs5] hp=some (.ret (.pv none (.sl none (strs nm5))),hp):=QB (by kernel_rfl) (by kernel_rfl) (by kernel_rfl) hp
theorem fl6(hp:Heap):S 59 [P6 rs6] hp=some (.ret (.pv none (.sl none (strs nm6))),hp):=QB (by kernel_rfl) (by kernel_rfl) (by kernel_rfl) hp
theorem N6:S 60 [] []=some (.ret (.pv (some 9) (.agg (rsOf.map fun p=>(none,p)))),[]):=sem_iff.2 ⟨20,by kernel_rfl⟩
theorem xi{n:Int}{r:List UInt8}{l:List (List UInt8)}(h1:¬n<0)(h2:¬8<n)(ha:∀s':Sh,xR 9 [.pv s' (.agg (rsOf.map fun p=>(none,p))),P4 n]=some (P6 r))(hf:∀hp:Heap,S 59 [P6 r] hp=some (.ret (.pv none (.sl none (strs l))),hp))(hl:l.length<=1000000)(s:List UInt8)(hp:Heap):S 18 [P6 s,P4 n] hp=some (.ret (P5 (decide (s∈l))),hp):=by
 refine zL rfl rfl rfl (zJ [(none,.str s),(none,.int .i64 n)]) rfl ?_;have hr:=N6;have hc:=N5 l s hl;generalize decide (s∈l)=q at hc;simp -dsimp -implicitDefEqProofs only[go_sem,seval,hr,h1,h2,ha,hf,hc]
theorem gN(s:List UInt8)(n:Int)(hp:Heap):S 18 [P6 s,P4 n] hp=some (.ret (P5 (decide (s∈QA n))),hp):=by
 by_cases hn:n<0\/8<n
 ·have e:QA n=[]:=by
   unfold QA;simp only[show ¬n=0 by omega,show ¬n=1 by omega,show ¬n=2 by omega,show ¬n=3 by omega,show ¬n=4 by omega,show ¬n=5 by omega,show ¬n=6 by omega,show ¬n=7 by omega,show ¬n=8 by omega,if_false]
  rw[e];refine zL rfl rfl rfl (zJ [(none,.str s),(none,.int .i64 n)]) rfl ?_;by_cases h:n<0
  ·simp -dsimp -implicitDefEqProofs only[go_sem,seval,h];simp
  ·have h2:8<n:=by omega
   simp -dsimp -implicitDefEqProofs only[go_sem,seval,h,h2];simp
 ·have h:n=0\/n=1\/n=2\/n=3\/n=4\/n=5\/n=6\/n=7\/n=8:=by omega
  rcases h with rfl|rfl|rfl|rfl|rfl|rfl|rfl|rfl|rfl
  ·exact xi (by decide) (by decide) (fun _=>rfl) fl0 (by decide) s hp
  ·exact xi (by decide) (by decide) (fun _=>rfl) fl1 (by decide) s hp
  ·exact xi (by decide) (by decide) (fun _=>rfl) fl2 (by decide) s hp
  ·exact xi (by decide) (by decide) (fun _=>rfl) fl3 (by decide) s hp
  ·exact xi (by decide) (by decide) (fun _=>rfl) fl4 (by decide) s hp
  ·exact xi (by decide) (by decide) (fun _=>rfl) fl5 (by decide) s hp
  ·exact xi (by decide) (by decide) (fun _=>rfl) fl6 (by decide) s hp
  ·exact xi (by decide) (by decide) (fun _=>rfl) fl6 (by decide) s hp
  ·exact xi (by decide) (by decide) (fun _=>rfl) fl6 (by decide) s hp
theorem Vo(hp:Heap):S 39 [] hp=some (.ret (.map hp.length),hp++[.map none (YG 8 prS prN prF)]):=by
 rw[S,jb (F:=find tab) (prim:=prim) (p:=qH none (YG 8 prS prN prF)) rfl];rfl
def XQ(b:Tm):PV:=.iface 110 (some 4) (.agg [(some 4,b.pv)])
def Q0(e:Int):PV:=.iface 112 (some 1) (.agg [(none,.int .i64 e)])
theorem N7(b:Tm)(hp:Heap):S 107 [b.av] hp=some (.panic (XQ b),hp):=by
 refine qR rfl rfl rfl (zJ [(some 4,b.pv)]) rfl ?_;have hsb:zR [(some 4,.agg A0)] [0] [.pv (some 4) b.pv]=some (.pv (some 4) (.agg [(some 4,b.pv)])):=rfl;have hmi:∀(s:Sh) (p:PV),Xd 110 [.pv s p]=some (.pv none (.iface 110 s p)):=fun _ _=>rfl;have hpan:∀A:Prop,panK true A=A:=fun _=>rfl;simp -dsimp -implicitDefEqProofs only[go_sem,seval,Tm.av,hsb,hmi,hpan,qQ]
 try rfl
theorem N8(e:Int)(h:e≠0)(hp:Heap):S 108 [P4 e] hp=some (.panic (Q0 e),hp):=by
 refine qR rfl rfl rfl (zJ [(none,.int .i64 e)]) rfl ?_;have hsb:zR A5 [0] [P4 e]=some (.pv (some 1) (.agg [(none,.int .i64 e)])):=rfl;have hmi:∀(s:Sh) (p:PV),Xd 112 [.pv s p]=some (.pv none (.iface 112 s p)):=fun _ _=>rfl;have hpan:∀A:Prop,panK true A=A:=fun _=>rfl;simp -dsimp -implicitDefEqProofs only[go_sem,seval,h,hsb,hmi,hpan,qQ]
 try rfl
def cB(d:Dbs)(g:Tm)(s:AV):AV:=.agg [(some 2,.pv (some 2) d.pv),(some 4,.pv (some 4) g.pv),(none,s)]
theorem q9(d:Dbs)(g:Tm)(s:AV):AV.part deep (cB d g s) 0 (some 2)=some (.pv (some 2) d.pv):=rfl
def yL(d:Dbs)(s:List UInt8)(a:Int):Bool:=decide (s∈QA a) || ((yb d s a).isSome && !((yb d s a).getD zP).dyn)
theorem gO(d:Dbs)(hb:BndD d)(g:Tm)(sv:AV)(s:List UInt8)(a:Int)(hp:Heap)(r:Nat)(hr:hp[r]? =some (.box (some 7) (cB d g sv))):S 119 [.ptr r 0,P6 s,P4 a] hp=some (.ret (P5 (yL d s a)),hp):=by
 refine Yj rfl rfl rfl rfl ?_;have hr':∀X,(hp++X)[r]? =some (.box (some 7) (cB d g sv)):=fun X=>by grind
 have h1:=fun hp=>gj d hb s a hp;have h2:=fun hp=>gN s a hp;unfold yL;generalize (yb d s a).getD zP=w at h1;generalize (yb d s a).isSome=z at h1;generalize decide (s∈QA a)=q at h2;have p2:=qY w;simp only[Dbs.av,Prc.av] at h1;cases q <;> cases z
 all_goals simp -dsimp -implicitDefEqProofs only[go_sem,seval,YD,h1,h2,hr,hr',q9,p2,zT,zH (Zf _ _)]
 all_goals simp[AV.refsIn]
def stN:List UInt8:=[115,116,97,116,105,99,95,112,114,111,99,101,100,117,114,101]
def moN:List UInt8:=[109,111,100,105,102,121]
theorem N9(d:Dbs)(hb:BndD d)(g:Tm)(sv:AV)(s:List UInt8)(a:Int)(t:Tm)(hs:yL d s a=false)(hp:Heap)(r:Nat)(hr:hp[r]? =some (.box (some 7) (cB d g sv))):S 109 [.ptr r 0,P6 s,P4 a,t.av] hp=some (.ret (.tuple []),hp):=by
 refine Yj rfl rfl rfl rfl ?_;have hr':∀X,(hp++X)[r]? =some (.box (some 7) (cB d g sv)):=fun X=>by grind
 have h1:∀X,_:=fun X=>gO d hb g sv s a (hp++X) r (hr' X);rw[hs] at h1;simp -dsimp -implicitDefEqProofs only[go_sem,seval,Tm.av,h1]
 grind
theorem na(d:Dbs)(hb:BndD d)(g:Tm)(sv:AV)(s:List UInt8)(a:Int)(t:Tm)(hv:t.valid=true)(hs:yL d s a=true)(hp:Heap)(r:Nat)(hr:hp[r]? =some (.box (some 7) (cB d g sv))):S 109 [.ptr r 0,P6 s,P4 a,t.av] hp=some (.panic (XQ (perT moN stN t)),hp):=by
 obtain⟨v,hp',h,rfl,rfl⟩:∃v hp',S 109 [.ptr r 0,P6 s,P4 a,t.av] hp=some (v,hp')/\v=.panic (XQ (perT moN stN t))/\hp'=hp:=by
  refine QY (fun v hp'=>v=.panic (XQ (perT moN stN t))/\hp'=hp) rfl rfl rfl rfl ?_;have hr':∀X,(hp++X)[r]? =some (.box (some 7) (cB d g sv)):=fun X=>by grind
  have h1:∀X,_:=fun X=>gO d hb g sv s a (hp++X) r (hr' X);rw[hs] at h1;have h2:=fun hp=>N1 moN stN (by decide) (by decide) t hv hp;have h3:=fun hp=>N7 (perT moN stN t) hp;have hpan:∀A:Prop,panK true A=A:=fun _=>rfl;simp only[Tm.av,moN,stN] at h2 h3;simp -dsimp -implicitDefEqProofs only[go_sem,seval,Tm.av,moN,stN,h1,h2,h3,hpan,YH,YI,YJ]
  grind
 exact h
theorem Ja(d:Dbs)(g:Tm)(s:AV):AV.part deep (cB d g s) 2 (some 4)=some (.pv (some 4) g.pv):=rfl
theorem Jb(d:Dbs)(g:Tm)(s:AV):AV.part deep (cB d g s) 5 none=some (.pv none (.sl (some 4) (Tm.pvs g.args))):=by cases g;rfl
abbrev slA(q m:Nat):AV:=.sl (some 4) q m 0 m
theorem nc{d n:Dbs}{g:Tm}{q m b:Nat}{hp:Heap}{r:Nat}(hr:hp[r]? =some (.box (some 7) (cB d g (slA q m))))(hb:r<b):zK (some 2) b hp [.ptr r 0,.pv (some 2) n.pv]=some (.undef,hp.set r (.box (some 7) (cB n g (slA q m)))):=by
 have hu:AV.upd deep (cB d g (slA q m)) 0 (some 2) (.pv (some 2) n.pv)=some (cB n g (slA q m)):=rfl
 grind [zK,astore,AV.plain,AV.shp,AV.refsIn]
theorem nf{d:Dbs}{g:Tm}{q m b:Nat}{hp:Heap}{r:Nat}(hr:hp[r]? =some (.box (some 7) (cB d g (slA q m))))(hb:r<b):zK none b hp [.ptr r 6,.tsl (some 4) [g.pv]]=some (.undef,hp.set r (.box (some 7) (cB d g (.tsl (some 4) [g.pv])))):=by
 have hu:AV.upd deep (cB d g (slA q m)) 6 none (.tsl (some 4) [g.pv])=some (cB d g (.tsl (some 4) [g.pv])):=rfl
 grind [zK,astore,AV.plain,AV.shp,AV.refsIn]
theorem ng(d:Dbs)(g:Tm)(q m:Nat)(hp:Heap)(r:Nat)(hr:hp[r]? =some (.box (some 7) (cB d g (slA q m)))):S 112 [.ptr r 0] hp=some (.ret (.tuple []),hp.set r (.box (some 7) (cB d g (.tsl (some 4) [g.pv])))):=by
 refine Yj rfl rfl rfl rfl ?_;have hs:=nf hr (Yz hr);simp -dsimp -implicitDefEqProofs only[go_sem,seval,YD,hr,Ja,hs];have hl:(hp.set r (.box (some 7) (cB d g (.tsl (some 4) [g.pv])))).length=hp.length:=by simp
 grind
def Bq(hp:Heap):Prop:=∀x∈hp,AObj.beq x x=true
theorem Bq.same:∀{hp:Heap},Bq hp->yk hp hp=true
 |[],_=>rfl
 |x::r,h=>by
  show(AObj.beq x x && yk r r)=true;rw[h x Zw,Bq.same (hp:=r) fun y hy=>h y (Zm _ hy)];rfl
theorem Bq.app{a b:Heap}(h1:Bq a)(h2:Bq b):Bq (a++b):=fun x hx=>(zj.1 hx).elim (h1 x) (h2 x)
theorem Bq.cons{x:AObj}{b:Heap}(h1:AObj.beq x x=true)(h2:Bq b):Bq (x::b):=fun y hy=>(ZB.1 hy).elim (fun e=>e▸h1) (h2 y)
theorem Bq.nil:Bq []:=fun _ h=>by cases h
theorem Bq.set{hp:Heap}(h:Bq hp)(i:Nat){x:AObj}(hx:AObj.beq x x=true):Bq (hp.set i x):=fun y hy=>by
 rcases List.mem_or_eq_of_mem_set hy with h1|rfl
 ·exact h y h1
 ·exact hx
theorem Xg(t:Tm):AObj.beq (.box (some 4) (.pv (some 4) t.pv)) (.box (some 4) (.pv (some 4) t.pv))=true:=by simp[AObj.beq,AV.beq,xN]
theorem Vp{es:List PV}(h:∀x∈es,PV.beq x x=true):PV.beqs es es=true:=by
 induction es with
 |nil=>rfl
 |cons x r ih=>
  show(PV.beq x x && PV.beqs r r)=true;rw[h x Zw,ih fun y hy=>h y (Zm _ hy)];rfl
theorem nh{Γ:Oracle}{b:Nat}{s:Sh}{f:FuncId}{vs:List AV}{v:AV}{hp:Heap}{K:AV->Heap->Prop}{Kp:PV->Heap->Prop}(hc:Γ .fn f vs hp=some (.ret v,hp))(h:yk hp hp=true):opK (aOp Γ b .callg (.pv s (.func (.func f))::vs) hp) K Kp=K v hp:=by
 have h2:yk (hp.take hp.length) hp=true:=by rw[ZJ];exact h
 simp[aOp,xu,yI,yp,hc,h];rfl
def gK(r:Option (ARes × Heap))(hp:Heap)(K:AV->Heap->Prop):Prop:=match r with
 |some (.ret v,hp')=>yk (hp'.take hp.length) hp=true/\K v hp'
 |_=>False
theorem Vq{Γ:Oracle}{b:Nat}{s:Sh}{f:FuncId}{vs:List AV}{hp:Heap}{K:AV->Heap->Prop}{Kp:PV->Heap->Prop}:opK (aOp Γ b .callg (.pv s (.func (.func f))::vs) hp) K Kp=gK (Γ .fn f vs hp) hp K:=by
 unfold gK;simp only[aOp,xu,yI,yp,Zv,ZF];cases Γ .fn f vs hp with
 |none=>rfl
 |some r=>
  obtain⟨r,hp'⟩:=r;cases r with
  |panic p=>rfl
  |ret v=>
   by_cases h:yk (hp'.take hp.length) hp=true
   ·simp only[h,if_true,true_and];rfl
   ·have h':yk (hp'.take hp.length) hp=false:=by simpa using h
    simp only[h',ZR,if_false,false_and];rfl
theorem Vr{v:AV}{hp hp':Heap}{K:AV->Heap->Prop}:gK (some (.ret v,hp')) hp K=(yk (hp'.take hp.length) hp=true/\K v hp'):=rfl
theorem Vs{hp a b:Heap}(h:Bq hp):yk (hp++a) (hp++b)=yk a b:=by
 induction hp with
 |nil=>rfl
 |cons x r ih=>
  show(AObj.beq x x && yk (r++a) (r++b))=_;rw[h x Zw,ih fun y hy=>h y (Zm _ hy)];rfl
theorem Vt(x y:AObj)(a b:Heap):yk (x::a) (y::b)=(AObj.beq x y && yk a b):=rfl
theorem Vu:yk [] []=true:=rfl
theorem QC(s:Sh)(z:Bool):AObj.beq (.arr s [] z) (.arr s [] z)=true:=by simp[AObj.beq,PV.beqs]
theorem ni(l:List Tm):PV.beqs (Tm.pvs l) (Tm.pvs l)=true:=Vp fun x hx=>by
 rw[Tm.zAw] at hx;obtain⟨t,_,rfl⟩:=ZI.1 hx;exact xN t
theorem nj(s:Sh)(l:List Tm)(z:Bool):AObj.beq (.arr s (Tm.pvs l) z) (.arr s (Tm.pvs l) z)=true:=by simp[AObj.beq,ni]
theorem nk{Γ:Oracle}{b:Nat}{vs:List AV}{hp:Heap}{K:AV->Heap->Prop}{Kp:PV->Heap->Prop}(neg:Bool):opK (aOp Γ b (.slnil neg) vs hp) K Kp=valK (xX neg vs) fun v=>K v hp:=by
 show opK (match(match xX neg vs with|some v=>some (v,hp)|none=>none) with|some (v,hp')=>some (OpRes.val v hp')|none=>none) K Kp=_;cases xX neg vs <;> rfl
theorem nl{Γ:Oracle}{b:Nat}{vs:List AV}{hp:Heap}{K:AV->Heap->Prop}{Kp:PV->Heap->Prop}[Tag K][Tag Kp](sh:Sh):opK (aOp Γ b (.storex sh) vs hp) K Kp=YM (XU sh b hp vs) K:=by
 show opK (match(XU sh b hp vs) with|some (v,hp')=>some (OpRes.val v hp')|none=>none) K Kp=_;cases (XU sh b hp vs) with
 |none=>rfl
 |some r=>cases r;rfl
theorem nn(es:List PV)(hne:0<es.length)(hl:es.length<=10)(hp:Heap):S 138 [.pv none (.sl (some 4) es)] hp=some (.ret (.sl (some 4) (hp.length+1) es.length 0 es.length),hp++[.arr (some 4) [] false,.arr (some 4) es false]):=by
 refine Yj rfl rfl rfl rfl ?_;have hlim:es.length<=lim:=by grind [lim]
 have happ:∀H:Heap,z6 (some 4) H [.tsl (some 4) [],.pv none (.sl (some 4) es)]=some (.sl (some 4) H.length es.length 0 es.length,H++[.arr (some 4) es false]):=fun H=>by
  grind [z6,aappend,elems]
 have hni:xX false [.pv none (.sl (some 4) es)]=some (P5 false):=by
  cases es with
  |nil=>grind
  |cons x r=>rfl
 simp -dsimp -implicitDefEqProofs only[go_sem,seval,nk,hni,hlim,happ,Xt (sh:=some 4) (by decide)]
 grind [AV.refsIn]
def ansT(g:Tm)(fs:List Tm):Tm:=.mk g.kind 0 g.name (fs++g.args.drop fs.length)
theorem Vv{l:List Prc}:PV.beqs (Prc.pvs l) (Prc.pvs l)=true:=by
 have hs:∀s:Sto,PV.beq s.pv s.pv=true:=fun s=>by simp[Sto.pv,Cz.pv,PV.beq,PV.beqc,xN]
 have hl:∀l:List Sto,PV.beqs (Sto.pvs l) (Sto.pvs l)=true:=fun l=>by
  induction l with
  |nil=>rfl
  |cons x r ih=>
   grind [PV.beqs,Sto.pvs]
 induction l with
 |nil=>rfl
 |cons x r ih=>
  simp_all[PV.beq,PV.beqs,Prc.pvs,Prc.pv,PV.beqc]
theorem Vw(d:Dbs)(g:Tm)(q m:Nat):AObj.beq (.box (some 7) (cB d g (slA q m))) (.box (some 7) (cB d g (slA q m)))=true:=by
 simp[cB,AObj.beq,AV.beq,AV.beqc,xN,Dbs.pv,PV.beq,PV.beqc,Vv]
theorem Vx(d:Dbs)(g:Tm)(s:AV):AV.part deep (cB d g s) 6 none=some s:=rfl
theorem np(d:Dbs)(g:Tm)(s:AV):AV.part deep (cB d g s) 2 none=some (P4 g.kind):=by cases g;rfl
theorem nq(d:Dbs)(g:Tm)(s:AV):AV.part deep (cB d g s) 4 none=some (P6 g.name):=by cases g;rfl
set_option maxRecDepth 20000 in
theorem nr(d:Dbs)(g:Tm)(h0:0<g.args.length)(h8:g.args.length<=8)(L fs:List Tm)(hL:L.length<1000)(hf:fs.length<=g.args.length)(hp:Heap)(r q s:Nat)(hr:hp[r]? =some (.box (some 7) (cB d g (slA q L.length))))(hq:hp[q]? =some (.arr (some 4) (Tm.pvs L) false))(hs:hp[s]? =some (.arr (some 4) (Tm.pvs fs) false)):
  S 117 [.ptr r 0,.sl (some 4) s fs.length 0 fs.length] hp=some (.ret (.tuple []),(hp.set q (.arr (some 4) (Tm.pvs (L++[ansT g fs])) false)).set r (.box (some 7) (cB d g (slA q (L.length+1))))):=by
 refine Yj rfl rfl rfl rfl ?_;have h1:=fun hp=>nn (Tm.pvs g.args) (by grind [Tm.pvs_len]) (by grind [Tm.pvs_len]) hp;have hlr:=Yz hr;have hlq:=Yz hq;have hls:=Yz hs;have hr':∀X,(hp++X)[r]? =some (.box (some 7) (cB d g (slA q L.length))):=fun X=>by grind
 have hsb:zR A0 [0,2,3] [P4 g.kind,P6 g.name,.sl (some 4) (hp.length+1) g.args.length 0 g.args.length]=some (.agg [(none,P4 g.kind),(none,P4 0),(none,P6 g.name),(none,.sl (some 4) (hp.length+1) g.args.length 0 g.args.length)]):=rfl;have hsp:∀X k,Yv hp (hp++X) (.ptr r k)=true:=fun X k=>by grind [Yv,Vw]
 have hA:Tm.pvs (fs++g.args.drop fs.length)=Tm.pvs fs++(Tm.pvs g.args).drop fs.length:=by simp[Tm.zAw]
 have hal:(fs++g.args.drop fs.length).length=g.args.length:=by grind
 have hcp:∀x0 x2 x3:AObj,Xy (some 4) (hp++[x0,.arr (some 4) (Tm.pvs g.args) false,x2,x3]) [.sl (some 4) (hp.length+1) g.args.length 0 g.args.length,.sl (some 4) s fs.length 0 fs.length]=some (P4 (Nat.min g.args.length fs.length),hp++[x0,.arr (some 4) (Tm.pvs (fs++g.args.drop fs.length)) false,x2,x3]):=fun x0 x2 x3=>by
  have e1:(hp++[x0,.arr (some 4) (Tm.pvs g.args) false,x2,x3])[s]? =some (.arr (some 4) (Tm.pvs fs) false):=by grind
  have e2:Nat.min g.args.length fs.length=fs.length:=Nat.min_eq_right hf;simp_all[Xy,elems,Tm.pvs_len,Zn]
 have hfz:∀x0 x3:AObj,∀x2,AV.freeze deep (.agg [(none,P4 g.kind),(none,P4 0),(none,P6 g.name),(none,.sl (some 4) (hp.length+1) g.args.length 0 g.args.length)]) (hp++[x0,.arr (some 4) (Tm.pvs (fs++g.args.drop fs.length)) false,x2,x3])=some ((ansT g fs).pv,hp++[x0,.arr (some 4) (Tm.pvs (fs++g.args.drop fs.length)) true,x2,x3]):=fun x0 x3 x2=>by
  have e:=P0
  show AV.freeze (7+1) (.agg _) _=_;simp[e,AV.freeze.go,AV.freeze,getN rfl,setN rfl,Tm.pvs_len,hal];rfl
 have hst:∀(x0 x3:AObj) (fr:Fr),xf [] ⟨fr,hp++[x0,.arr (some 4) (Tm.pvs (fs++g.args.drop fs.length)) false,.box (some 4) (.agg [(none,P4 g.kind),(none,P4 0),(none,P6 g.name),(none,.sl (some 4) (hp.length+1) g.args.length 0 g.args.length)]),x3]⟩ (hp.length+2) (some (.box (some 4) (.agg [(none,P4 g.kind),(none,P4 0),(none,P6 g.name),(none,.sl (some 4) (hp.length+1) g.args.length 0 g.args.length)])))=some ⟨fr,hp++[x0,.arr (some 4) (Tm.pvs (fs++g.args.drop fs.length)) true,.box (some 4) (.pv (some 4) (ansT g fs).pv),x3]⟩:=fun x0 x3 fr=>by
  simp[xf,hfz,setN rfl];rfl
 obtain⟨z,hz⟩:∃z:PV,z=.agg [(none,.int .i64 0),(none,.int .i64 0),(none,.str []),(none,.sl (some 4) [])]:=⟨_,rfl⟩;have hbs:∀H:Heap,YN (some 4) H [.agg A0]=some (.tsl (some 4) [z],H):=fun H=>by
  have e:=P0
  have e2:AV.freeze deep (.agg A0) H=some (z,H):=by
   show AV.freeze (7+1) (.agg _) _=_;simp_all[AV.freeze.go,AV.freeze]
  simp_all[YN,zZ,AV.shp,total,Sh.size,YE]
 have hsp2:∀(X:Heap) (k:Nat),Yv (hp++X) (hp++X) (.ptr r k)=true:=fun X k=>by grind [Yv,Vw]
 have hsp3:∀(x0 x1 x3:AObj),Yv (hp++[x0,x1,.box (some 4) (.pv (some 4) (ansT g fs).pv),x3]) (hp++[x0,x1,.box (some 4) (.pv (some 4) (ansT g fs).pv),x3]) (.ptr (hp.length+2) 0)=true:=fun x0 x1 x3=>by grind [Yv,getN,AObj.beq,AV.beq,xN]
 have hlim:L.length+1<=lim:=by grind [lim]
 have hrq:r≠q:=fun e=>by grind
 have happ:∀X:Heap,z6 (some 4) (hp++X) [.sl (some 4) q L.length 0 L.length,.tsl (some 4) [z]]=some (.sl (some 4) q (L.length+1) 0 (L.length+1),hp.set q (.arr (some 4) (Tm.pvs L++[z]) false)++X):=fun X=>by
  grind [z6,aappend,elems,Tm.pvs_len]
 have hia:Yc (some 4) [.sl (some 4) q (L.length+1) 0 (L.length+1),P4 (L.length:Int)]=some (.eptr (some 4) q (L.length+1) L.length 0):=by
  grind [xH]
 have hw1:∀X:Heap,zK (some 4) hp.length (hp.set q (.arr (some 4) (Tm.pvs L++[z]) false)++X) [.eptr (some 4) q (L.length+1) L.length 0,.pv (some 4) (ansT g fs).pv]=some (.undef,hp.set q (.arr (some 4) (Tm.pvs (L++[ansT g fs])) false)++X):=fun X=>by
  have e:∀H,AV.freeze deep (.pv (some 4) (ansT g fs).pv) H=some ((ansT g fs).pv,H):=fun _=>rfl;have e1:(hp.set q (.arr (some 4) (Tm.pvs L++[z]) false)++X)[q]? =some (.arr (some 4) (Tm.pvs L++[z]) false):=by grind
  have e2:Tm.pvs (L++[ansT g fs])=Tm.pvs L++[(ansT g fs).pv]:=by simp[Tm.zAw]
  have e3:(Tm.pvs L++[z]).set L.length (ansT g fs).pv=Tm.pvs L++[(ansT g fs).pv]:=by
   simp_all[Tm.pvs_len]
  simp_all[zK,astore,AV.shp,Tm.pvs_len]
 have hw2:∀(X:Heap) (i:Nat),XU none hp.length (hp.set q (.arr (some 4) (Tm.pvs (L++[ansT g fs])) false)++X) [.ptr r 6,.sl (some 4) q (L.length+1) 0 (L.length+1),.eptr (some 4) q (L.length+1) i 0,.pv (some 4) (ansT g fs).pv]=some (.undef,(hp.set q (.arr (some 4) (Tm.pvs (L++[ansT g fs])) false)).set r (.box (some 7) (cB d g (slA q (L.length+1))))++X):=fun X i=>by
  have hu:AV.upd deep (cB d g (slA q L.length)) 6 none (.sl (some 4) q (L.length+1) 0 (L.length+1))=some (cB d g (slA q (L.length+1))):=rfl;have hm:q∈(cB d g (slA q L.length)).refsIn:=by simp[cB,AV.refsIn,AV.refsIn.go]
  have hb':¬hp.length<=r:=by omega
  have e1:(hp.set q (.arr (some 4) (Tm.pvs (L++[ansT g fs])) false)++X)[r]? =some (.box (some 7) (cB d g (slA q L.length))):=by grind
  grind [XU,astore,AV.plain,AV.shp,AV.refsIn]
 simp -dsimp -implicitDefEqProofs only[go_sem,seval,YD,hr,hr',Vx,np,nq,Jb,h1,hsb,hsp,hcp,hst,hbs,hsp2,hsp3,happ,hia,hw1,hw2,Tm.pvs_len,gf,xg,nl,ZK,ZX,ZS,ZU,zT,zH (Zf _ _)]
 grind
theorem gP(t:Tm)(hv:t.valid=true)(h0:t.kind≠0)(h1:t.kind≠1)(hp:Heap):S 118 [t.av] hp=some (.ret (.tuple [zt.av,P5 true]),hp):=by
 refine zL rfl rfl rfl (zJ [(some 4,t.pv)]) rfl ?_;have hb:=gJ t hv h0;have h1':=Zj h1;have hz0:=P1;simp only[Tm.av] at hb;simp -dsimp -implicitDefEqProofs only[go_sem,seval,Tm.av,hb,zQ,h1',hz0,zH (Za _),zT];exact⟨_,rfl⟩
theorem gQ(k:Int)(hp:Heap):S 123 [P4 k] hp=some (.ret (intT k).av,hp):=by
 refine zL rfl rfl rfl (zJ [(none,.int .i64 k)]) rfl ?_;have hb:zR A0 [0,1] [P4 1,P4 k]=some (.agg [(none,P4 1),(none,P4 k),(none,P6 []),(none,.tsl (some 4) [])]):=rfl;simp -dsimp -implicitDefEqProofs only[go_sem,seval,Tm.av,hb,zH (Za _),zT];exact⟨_,rfl⟩
theorem gS(nm:List UInt8)(k:Int)(hn:nm.length<=100)(h0:0<=k)(h8:k<=8)(hp:Heap):S 110 [P6 nm,P4 k] hp=some (.ret (indT nm k).av,hp):=by
 refine zL rfl rfl rfl (zJ [(none,.str nm),(none,.int .i64 k)]) rfl ?_;have h1:=jA nm hn;have h2:=gQ k;have h3:∀H,S 126 [P6 [47],.tsl (some 4) [(zW nm).pv,(intT k).pv]] H=some (.ret (indT nm k).av,H):=fun H=>
  jB (ps:=[(none,.str [47]),(none,.sl (some 4) (Tm.pvs [zW nm,intT k]))]) rfl rfl rfl rfl rfl (Vm [47] [zW nm,intT k] (by simp) (Vn hn) [])
 have c1:=Zj (show ¬(100:Int)<(nm.length:Int) by omega);have c2:=Zj (show ¬k<0 by omega);have c3':=Zj (show ¬(8:Int)<k by omega);simp only[Tm.av] at h1 h2 h3;simp -dsimp -implicitDefEqProofs only[go_sem,seval,Tm.av,h1,h2,h3,c1,c2,c3',zH (Za _),zT]
 try rfl
def rawP(k n:Int)(s:List UInt8)(es:List PV):PV:=.agg [(none,.int .i64 k),(none,.int .i64 n),(none,.str s),(none,.sl (some 4) es)]
theorem jE{hp:Heap}{r:Nat}(k n:Int)(s:List UInt8)(es:List PV)(m:Nat)(hm:m=es.length)(h:hp[r]? =some (.arr (some 4) es false)):Am.frozen (.pv (some 4) (rawP k n s es)) (.agg [(none,P4 k),(none,P4 n),(none,P6 s),(none,.sl (some 4) r m 0 m)]) hp:=by
 subst hm;refine⟨hp.set r (.arr (some 4) es true),?_⟩;show(match AV.freeze (7+1) (.agg _) hp with|some (p,hp')=>some (AV.pv _ p,hp')|none=>none)=_;have e:=P0
 simp[e,AV.freeze.go,AV.freeze,h,rawP];rfl
theorem nu(t:Tm)(hp:Heap)(hv:t.valid=true)(ht:t.size<1000000000):S 105 [t.av] hp=some (.ret t.av,hp):=by
 refine zL rfl rfl rfl (zJ [(some 4,t.pv)]) rfl ?_;have h1:=fun hp=>xK t hp ht;have h2:=fun hp=>NX t hp ht;rw[hv] at h1;simp only[Tm.av] at h1 h2;simp -dsimp -implicitDefEqProofs only[go_sem,seval,Tm.av,h1,h2,zH (Za _)]
theorem gT{x:Int}:∀{l:List Int} {i:Nat},l[i]? =some x->(∀j,j<i->l[j]?≠some x)->l.idxOf x=i
 |[],_,h,_=>by grind
 |y::r,0,h,_=>by
  grind
 |y::r,i+1,h,hn=>by
  have h0:=hn 0 (by omega);have hy:¬y=x:=fun e=>h0 (by simp[e]);rw[zu,beq_eq_false_iff_ne.2 hy];simp only[cond_false];rw[gT (l:=r) (i:=i) (by grind) fun j hj=>by grind]
theorem gU(l:List Int)(x:Int)(hl:l.length<1000000000)(hm:x∈l)(hp:Heap):S 72 [.pv none (.sl none (ints l)),P4 x] hp=some (.ret (P4 ((l.idxOf x:Nat):Int)),hp):=by
 refine zL rfl rfl rfl (zJ [(none,.sl none (ints l)),(none,.int .i64 x)]) rfl ?_;simp -dsimp -implicitDefEqProofs only[go_sem,seval,ya];refine Yf (α:=Unit) l.length (fun i _=>∀j,j<i->l[j]?≠some x) (fun i _=>⟨[(0,.pv none (.sl none (ints l))),(1,P4 x),(5,P4 i)],[]⟩) () ⟨fun j hj=>by omega,rfl⟩ ?_ ?_
 ·rintro i - h hinv;have hc:(i:Int)<(l.length:Int):=by omega
  obtain⟨b,hb⟩:∃b,l[i]? =some b:=⟨_,Zd h⟩;have w2:IntKind.i64.wrap ((i:Int)+1)=((i+1:Nat):Int):=by grind [zO]
  by_cases hbx:b=x
  ·have hi:=gT (by grind) hinv;simp -dsimp -implicitDefEqProofs only[go_sem,seval,ya,hc,zM (Qs hb),hbx,hi]
  ·simp -dsimp -implicitDefEqProofs only[go_sem,seval,ya,hc,zM (Qs hb),hbx,w2];refine⟨(),fun j hj=> ?_⟩
   grind
 grind
def appR(t:Tm)(ts:List Tm)(i:Nat):Heap:=[.box (some 4) (.pv (some 4) t.pv),.box (some 4) (.agg [(none,P4 0),(none,P4 0),(none,P6 []),(none,.sl (some 4) 2 0 0 0)]),.arr (some 4) [] false,.box (some 4) (.agg [(none,P4 t.kind),(none,P4 t.n),(none,P6 t.name),(none,.sl (some 4) 5 i 0 i)]),.arr (some 4) [] false,.arr (some 4) (Tm.pvs (ts.take i)) false]
theorem nv(L:List Int)(hL:L.length<100000000):∀(t:Tm) (hp:Heap),t.fits=true->t.size<1000000000->(∀w∈t.occ,w∈L)->S 34 [.pv none (.sl none (ints L)),t.av] hp=some (.ret (Tm.sub (cPos L) t).av,hp):=by
 intro t
 induction t using Tm.zAl with
 |h t ih=>
  intro hp hf ht ho;have hts:=t.size_eq;have hlen:=Tm.zAk t.args;refine zL rfl rfl rfl (zJ [(none,.sl none (ints L)),(some 4,t.pv)]) rfl ?_;have hb:zR A0 [0,1,2] [P4 t.kind,P4 t.n,P6 t.name]=some (.agg [(none,P4 t.kind),(none,P4 t.n),(none,P6 t.name),(none,.tsl (some 4) [])]):=rfl;by_cases hk:t.kind=0
  ·have hk':=Zg hk;have hm:t.n∈L:=ho _ (by grind [Tm.zAm]);have hpos:=fun hp=>gU L t.n (by omega) hm hp;have ha:t.args=[]:=by rw[yw hf hk];rfl
   have hnm:t.name=[]:=by rw[yw hf hk];rfl
   have e:Tm.sub (cPos L) t=tvar (L.idxOf t.n:Nat):=by rw[Tm.zAt,Zh hk];rfl
   rw[e];generalize ((L.idxOf t.n:Nat):Int)=k at hpos ⊢;simp -dsimp -implicitDefEqProofs only[go_sem,seval,Tm.av,zQ,Yb,Ye,zN,Tm.pvs_len,hk',hb,hpos,zH (Za _)];refine Yf (α:=Unit) 0 (fun _ _=>True) (fun i _=>⟨[(0,.pv none (.sl none (ints L))),(3,.ptr 0 0),(4,.ptr 1 0),(5,.ptr 3 0),(6,P4 i)],[.box (some 4) (.pv (some 4) t.pv),.box (some 4) (.agg [(none,P4 0),(none,P4 0),(none,P6 []),(none,.sl (some 4) 2 0 0 0)]),.arr (some 4) [] false,.box (some 4) (.agg [(none,P4 t.kind),(none,P4 k),(none,P6 t.name),(none,.sl (some 4) 5 0 0 0)]),.arr (some 4) [] false,.arr (some 4) [] false]⟩) () ⟨trivial,rfl⟩ ?_ ?_
   ·grind
   ·rintro - -;have hc:¬(0:Int)<(t.args.length:Int):=by grind
    simp -dsimp -implicitDefEqProofs only[go_sem,seval,zN,Tm.pvs_len,hc,zT,zH (Za _),Y4 (Za _)];rw[hk,hnm];exact jE _ _ _ [] _ rfl rfl
  ·have hk':=Zj hk;rw[kZ hk];obtain⟨ts',hts'⟩:∃ts',ts'=t.args.map (Tm.sub (cPos L)):=⟨_,rfl⟩;have htl:ts'.length=t.args.length:=by grind
   rw[<-hts'];simp -dsimp -implicitDefEqProofs only[go_sem,seval,Tm.av,zQ,Yb,Ye,zN,Tm.pvs_len,hk',hb,zH (Za _)];refine Yf (α:=Unit) t.args.length (fun _ _=>True) (fun i _=>⟨[(0,.pv none (.sl none (ints L))),(3,.ptr 0 0),(4,.ptr 1 0),(5,.ptr 3 0),(6,P4 i)],appR t ts' i⟩) () ⟨trivial,rfl⟩ ?_ ?_
   ·rintro i - h -;have hc:(i:Int)<(t.args.length:Int):=by omega
    obtain⟨u,hu⟩:∃u,t.args[i]? =some u:=⟨_,Zd h⟩;have hum:=Zi hu;have husz:=Tm.zAq hum;have hcall:=fun hp=>ih u hum hp (Tm.zAo hf hum) (by omega) fun w hw=>ho w (Tm.zAD hk hum hw);simp only[Tm.av] at hcall;have w2:IntKind.i64.wrap ((i:Int)+1)=((i+1:Nat):Int):=by grind [zO]
    have hl:(Tm.pvs (ts'.take i)).length=i:=by grind [Tm.pvs_len]
    have hlim:i+1<=lim:=by grind [lim]
    have hus:ts'[i]? =some (Tm.sub (cPos L) u):=by grind
    simp -dsimp -implicitDefEqProofs only[go_sem,seval,appR,zN,Tm.pvs_len,hc,zM (Tm.pvs_get hu),hcall,w2,hl,hlim,Tm.zAn hus,zH (Za _),Y4 (Za _)];exact⟨(),rfl⟩
   ·rintro - -;have hc:¬(t.args.length:Int)<(t.args.length:Int):=by omega
    have htk:ts'.take t.args.length=ts':=Zn (by omega);simp -dsimp -implicitDefEqProofs only[go_sem,seval,appR,zN,Tm.pvs_len,hc,htk,zT,zH (Za _),Y4 (Za _)];exact jE _ _ _ (Tm.pvs ts') _ (by rw[Tm.pvs_len,htl]) rfl
theorem nw{s:AV}{H:Heap}{l:List Int}(h:IsV s H l):s.alone H=some (.pv none (.sl none (ints l))):=by
 rcases h with⟨rfl,rfl⟩|⟨r,rfl,h⟩
 ·rfl
 grind [AV.alone,AV.bare,AV.freeze,deep,ya,AV.shp]
theorem ny(t:Tm)(s:List UInt8)(n:Int)(hp:Heap):S 131 [t.av,P6 s,P4 n] hp=some (.ret (P5 (decide ((t.kind=2\/t.kind=3)/\t.name=s/\(t.args.length:Int)=n))),hp):=by
 refine zL rfl rfl rfl (zJ [(some 4,t.pv),(none,.str s),(none,.int .i64 n)]) rfl ?_;by_cases h2:t.kind=2
 ·have h2':=Zg h2;by_cases hn:t.name=s
  ·have hn':=Zg hn;simp -dsimp -implicitDefEqProofs only[go_sem,seval,Tm.av,zQ,Ye,zN,Tm.pvs_len,h2',hn',true_or]
  ·have hn':=Zj hn;simp -dsimp -implicitDefEqProofs only[go_sem,seval,Tm.av,zQ,Ye,zN,Tm.pvs_len,h2',hn',true_or]
 ·have h2':=Zj h2;by_cases h3:t.kind=3
  ·have h3':=Zg h3;by_cases hn:t.name=s
   ·have hn':=Zg hn;simp -dsimp -implicitDefEqProofs only[go_sem,seval,Tm.av,zQ,Ye,zN,Tm.pvs_len,h2',h3',hn',false_or]
   ·have hn':=Zj hn;simp -dsimp -implicitDefEqProofs only[go_sem,seval,Tm.av,zQ,Ye,zN,Tm.pvs_len,h2',h3',hn',false_or]
  ·have h3':=Zj h3;simp -dsimp -implicitDefEqProofs only[go_sem,seval,Tm.av,zQ,Ye,zN,Tm.pvs_len,h2',h3',false_or]
theorem nz{t:Tm}(hf:t.fits=true)(s:List UInt8):((t.kind=2\/t.kind=3)/\t.name=s/\(t.args.length:Int)=2)↔(t.kind=3/\t.args.length=2/\t.name=s):=by
 grind [Tm.zAs,Tm.node]
theorem gW(t:Tm)(hf:t.fits=true)(hp:Heap):S 104 [t.av] hp=some (.ret (P5 (decide (jn t))),hp):=by
 refine zL rfl rfl rfl (zJ [(some 4,t.pv)]) rfl ?_;have h1:=fun s hp=>ny t s 2 hp;simp only[nz hf,Tm.av] at h1;have e:decide (jn t)=(decide (t.kind=3/\t.args.length=2/\t.name=[44]) || (decide (t.kind=3/\t.args.length=2/\t.name=[59]) || decide (t.kind=3/\t.args.length=2/\t.name=[45,62]))):=by
  grind [jn]
 rw[e];have g1:=h1 [44];have g2:=h1 [59];have g3:=h1 [45,62];generalize decide (t.kind=3/\t.args.length=2/\t.name=[44])=x at g1;generalize decide (t.kind=3/\t.args.length=2/\t.name=[59])=y at g2;generalize decide (t.kind=3/\t.args.length=2/\t.name=[45,62])=z at g3;clear e h1;cases x
 ·cases y
  ·simp -dsimp -implicitDefEqProofs only[go_sem,seval,Tm.av,g1,g2,g3,Bool.false_or]
  ·simp -dsimp -implicitDefEqProofs only[go_sem,seval,Tm.av,g1,g2,g3,Bool.false_or,Bool.true_or]
 ·simp -dsimp -implicitDefEqProofs only[go_sem,seval,Tm.av,g1,g2,g3,Bool.true_or]
def rcF:Nat->Tm->Tm × Bool
 |0,_=>(zt,false)
 |n+1,t=>if t.kind=0 then(tstr qS [t],true) else if t.kind=1 then(zt,false) else if jn t then(match t.args with
   |[a,b]=>(tstr t.name [(rcF n a).1,(rcF n b).1],(rcF n a).2 && (rcF n b).2)
   |_=>(zt,false)) else(t,true)
theorem nA(t a b ga gb:Tm)(oa ob:Bool)(hab:t.args=[a,b])(hf:t.fits=true)(k0:¬t.kind=0)(k1:¬t.kind=1)(hjn:jn t)(h1:∀hp,S 66 [a.av] hp=some (.ret (.tuple [ga.av,P5 oa]),hp))(h2:∀hp,S 66 [b.av] hp=some (.ret (.tuple [gb.av,P5 ob]),hp))(hp:Heap):S 66 [t.av] hp=some (.ret (.tuple [(tstr t.name [ga,gb]).av,P5 (oa && ob)]),hp):=by
 refine zL rfl rfl rfl (zJ [(some 4,t.pv)]) rfl ?_;have k0':=Zj k0;have k1':=Zj k1;have hj:=fun hp=>gW t hf hp;rw[ZL hjn] at hj;have pa:PV.part deep t.pv 3 none=some (.sl (some 4) [a.pv,b.pv]):=by rw[zN,hab];rfl
 have i0:Yc (some 4) [.pv none (.sl (some 4) [a.pv,b.pv]),P4 0]=some (.iptr (some 4) a.pv 0):=rfl;have i1:Yc (some 4) [.pv none (.sl (some 4) [a.pv,b.pv]),P4 1]=some (.iptr (some 4) b.pv 0):=rfl;have hb:zR A0 [0,2,3] [P4 3,P6 t.name,.tsl (some 4) [ga.pv,gb.pv]]=some (cV t.name [ga.pv,gb.pv]):=rfl;have hst:=fun x0 v r=>ji x0 v r t.name ga.pv [gb.pv];simp only[Tm.av] at h1 h2 hj;cases oa
 ·simp -dsimp -implicitDefEqProofs only[go_sem,seval,Tm.av,zQ,Ye,k0',k1',hj,h1,h2,pa,i0,i1,hb,hst,zH (Za _)];exact⟨_,rfl⟩
 ·simp -dsimp -implicitDefEqProofs only[go_sem,seval,Tm.av,zQ,Ye,k0',k1',hj,h1,h2,pa,i0,i1,hb,hst,zH (Za _)];exact⟨_,rfl⟩
theorem nB:∀(n:Nat) (t:Tm),t.size<=n->t.valid=true->∀hp,S 66 [t.av] hp=some (.ret (.tuple [(rcF n t).1.av,.pv none (.bool (rcF n t).2)]),hp):=by
 intro n
 induction n with
 |zero=>
  intro t h;have:=t.size_eq;omega
 |succ n ih=>
  intro t hs hv hp;have hf:=valid_fits hv;have hts:=t.size_eq;have hsz:=valid_size hv;rw[rcF];by_cases k0:t.kind=0
  ·rw[Zh k0];refine zL rfl rfl rfl (zJ [(some 4,t.pv)]) rfl ?_;have k0':=Zg k0;have hb:zR A0 [0,2,3] [P4 3,P6 [99,97,108,108],.tsl (some 4) [t.pv]]=some (cV qS [t.pv]):=rfl;have hst:=fun x0 v r=>ji x0 v r qS t.pv [];simp -dsimp -implicitDefEqProofs only[go_sem,seval,Tm.av,zQ,k0',hb,hst,zH (Za _)];exact⟨_,rfl⟩
  have k0':=Zj k0;rw[Zb k0];by_cases k1:t.kind=1
  ·rw[Zh k1];refine zL rfl rfl rfl (zJ [(some 4,t.pv)]) rfl ?_;have k1':=Zg k1;have hb:=P1;simp -dsimp -implicitDefEqProofs only[go_sem,seval,Tm.av,zQ,k0',k1',hb,zH (Za _)];exact⟨_,rfl⟩
  have k1':=Zj k1;rw[Zb k1];by_cases hjn:jn t
  ·rw[Zh hjn];obtain⟨a,b,hab⟩:=GT hjn.2.1;have ha:a∈t.args:=by grind
   have hbm:b∈t.args:=by grind
   have z1:=Tm.zAq ha;have z2:=Tm.zAq hbm
   grind [nA,Xv]
  ·rw[Zb hjn];refine zL rfl rfl rfl (zJ [(some 4,t.pv)]) rfl ?_;have hj:=fun hp=>gW t hf hp;rw[zr hjn] at hj;have hcl:=fun hp=>nu t hp hv (by omega);simp only[Tm.av] at hj hcl;simp -dsimp -implicitDefEqProofs only[go_sem,seval,Tm.av,zQ,k0',k1',hj,hcl,zH (Za _)];exact⟨_,rfl⟩
theorem nC:∀(n:Nat) (t:Tm),(rcF n t).2=true->t.fits=true->cvF n t=some (rcF n t).1:=by
 intro n
 induction n with
 |zero=>intro t h;cases h
 |succ n ih=>
  intro t h hf;rw[rcF] at h ⊢;rw[cvF];by_cases k0:t.kind=0
  ·grind
  grind [Tm.zAo,Tm.zAs,Tm.node]
theorem nD:∀(n:Nat) (t:Tm),(rcF n t).1.size<=2*t.size:=by
 intro n
 induction n with
 |zero=>
  intro t;have:=t.size_eq;show 1<=_;omega
 |succ n ih=>
  intro t;have hts:=t.size_eq;rw[rcF];split
  ·show 1+(t.size+0)<=_;omega
  ·split
   ·show 1<=_;omega
   ·split
    ·split
     ·rename_i a b hab;have h1:=ih a;have h2:=ih b;rw[hab] at hts;have e:Tm.sizes [a,b]=a.size+(b.size+0):=rfl;rw[e] at hts;show 1+((rcF n a).1.size+((rcF n b).1.size+0))<=_;omega
     ·show 1<=_;omega
    grind
theorem gX(l:List Tm)(hf:∀t∈l,t.fits=true)(hz:Tm.sizes l<50000000)(hp:Heap):S 67 [.pv none (.sl (some 4) (Tm.pvs l))] hp=some (.ret (.pv none (.sl none (ints (vads [] (Tm.occs l))))),hp):=by
 refine zL rfl rfl rfl (zJ [(none,.sl (some 4) (Tm.pvs l))]) rfl ?_;have hlen:=Tm.zAk l;have hn0:∀H:Heap,YW none H=some (.sl none H.length 0 0 0,H++[.arr none [] false]):=fun H=>Xt (sh:=none) (by decide);simp -dsimp -implicitDefEqProofs only[go_sem,seval,hn0];refine Yf (α:=AV × Heap) l.length (fun i a=>IsV a.1 a.2 (vads [] (Tm.occs (l.take i)))) (fun i a=>⟨[(0,.pv none (.sl (some 4) (Tm.pvs l))),(3,a.1),(4,P4 i)],a.2⟩) (.sl none 1 0 0 0,[.arr none [] false,.arr none [] false]) ⟨.inr ⟨1,rfl,rfl⟩,rfl⟩ ?_ ?_
 ·rintro i ⟨s1,H⟩ h k1;dsimp only at k1;have hc:(i:Int)<(l.length:Int):=by omega
  obtain⟨u,hu⟩:∃u,l[i]? =some u:=⟨_,Zd h⟩;have hum:=Zi hu;have hst:=Tm.zAr hu;have hle:=Tm.zAp l (i+1);have hvl:=xh (Tm.occs (l.take i)) [];have hol:=Tm.zAx (l.take i);simp only[zp] at hvl;obtain⟨s2,H2,hcall,p1,p2,p3⟩:=GY u s1 H _ k1 (hf u hum) (by omega);simp only[Tm.av] at hcall;have w2:IntKind.i64.wrap ((i:Int)+1)=((i+1:Nat):Int):=by grind [zO]
  simp -dsimp -implicitDefEqProofs only[go_sem,seval,Tm.pvs_len,hc,zM (Tm.pvs_get hu),hcall,w2];have hcc:=GW 2 0 [(0,.pv none (.sl (some 4) (Tm.pvs l))),(3,s2),(4,P4 ((i+1:Nat):Int))] H2;refine⟨(s2,collect 2 0 [(0,.pv none (.sl (some 4) (Tm.pvs l))),(3,s2),(4,P4 ((i+1:Nat):Int))] H2),?_,rfl⟩;generalize collect 2 0 [(0,.pv none (.sl (some 4) (Tm.pvs l))),(3,s2),(4,P4 ((i+1:Nat):Int))] H2=HC at hcc;rw[Tm.zAu hu,xL];rcases hcc with rfl|⟨rfl,hr⟩
  ·exact p1
  ·exact p1.take (hr (3,s2) (by simp))
 ·rintro⟨s1,H⟩ k1;dsimp only at k1;have hc:¬(l.length:Int)<(l.length:Int):=by omega
  rw[ZJ] at k1;simp -dsimp -implicitDefEqProofs only[go_sem,seval,Tm.pvs_len,hc];exact mX k1
theorem nE(l:List Tm)(hf:∀t∈l,t.fits=true)(hz:Tm.sizes l<50000000)(hp:Heap):S 68 [.pv none (.sl (some 4) (Tm.pvs l))] hp=some (.ret (.pv none (.sl (some 4) (Tm.pvs (l.map (Tm.sub (cPos (vads [] (Tm.occs l)))))))),hp):=by
 refine zL rfl rfl rfl (zJ [(none,.sl (some 4) (Tm.pvs l))]) rfl ?_;have hlen:=Tm.zAk l;have hn4:=P2;have h1:=fun hp=>gX l hf hz hp;have hvl:=xh (Tm.occs l) [];have hol:=Tm.zAx l;simp only[zp] at hvl;have hnum:=fun(u:Tm) (hu:u∈l) hp=>nv (vads [] (Tm.occs l)) (by omega) u hp (hf u hu) (by have:=Tm.zAE hu;omega) fun w hw=>(qT _ [] w).2 (.inr (Tm.zAH hu hw));generalize vads [] (Tm.occs l)=L at*;obtain⟨ts',hts'⟩:∃ts',ts'=l.map (Tm.sub (cPos L)):=⟨_,rfl⟩;have htl:ts'.length=l.length:=by grind
 rw[<-hts'];simp -dsimp -implicitDefEqProofs only[go_sem,seval,hn4,h1];refine Yf (α:=Unit) l.length (fun _ _=>True) (fun i _=>⟨[(0,.pv none (.sl (some 4) (Tm.pvs l))),(3,.pv none (.sl none (ints L))),(4,.sl (some 4) 1 i 0 i),(5,P4 i)],[.arr (some 4) [] false,.arr (some 4) (Tm.pvs (ts'.take i)) false]⟩) () ⟨trivial,rfl⟩ ?_ ?_
 ·rintro i - h -;have hc:(i:Int)<(l.length:Int):=by omega
  obtain⟨u,hu⟩:∃u,l[i]? =some u:=⟨_,Zd h⟩;have hum:=Zi hu;have hcall:=fun hp=>hnum u hum hp;simp only[Tm.av] at hcall;have w2:IntKind.i64.wrap ((i:Int)+1)=((i+1:Nat):Int):=by grind [zO]
  have hll:(Tm.pvs (ts'.take i)).length=i:=by grind [Tm.pvs_len]
  have hlim:i+1<=lim:=by grind [lim]
  have hus:ts'[i]? =some (Tm.sub (cPos L) u):=by grind
  simp -dsimp -implicitDefEqProofs only[go_sem,seval,Tm.pvs_len,hc,zM (Tm.pvs_get hu),hcall,w2,hll,hlim,Tm.zAn hus];simp_all
 ·rintro - -;have hc:¬(l.length:Int)<(l.length:Int):=by omega
  have htk:ts'.take l.length=ts':=Zn (by omega);simp -dsimp -implicitDefEqProofs only[go_sem,seval,Tm.pvs_len,hc,htk];have hlp:(Tm.pvs ts').length=l.length:=by rw[Tm.pvs_len,htl]
  rw[Gf (sh:=some 4) (hp:=[AObj.arr (some 4) [] false,AObj.arr (some 4) (Tm.pvs ts') false]) (r:=1) (n:=l.length) hlp];rfl
theorem nF(a a' b b':Tm)(z1:a.size<1000000000)(z2:a'.size<1000000000)(z3:b.size<1000000000)(z4:b'.size<1000000000)(hp:Heap):S 65 [.pv none (.sl (some 4) (Tm.pvs [a',b'])),.pv none (.sl (some 4) (Tm.pvs [a,b]))] hp=some (.ret (P5 (same a' a && same b' b)),hp):=by
 refine zL rfl rfl rfl (zJ [(none,.sl (some 4) (Tm.pvs [a',b'])),(none,.sl (some 4) (Tm.pvs [a,b]))]) rfl ?_;have h1:=fun hp=>qO a' a hp z2 z1;have h2:=fun hp=>qO b' b hp z4 z3;have e2:((2:Nat):Int)=2:=rfl;have e1:((1:Nat):Int)=1:=rfl;have e0:((0:Nat):Int)=0:=rfl;have p1:Tm.pvs [a',b']=[a'.pv,b'.pv]:=rfl;have p2:Tm.pvs [a,b]=[a.pv,b.pv]:=rfl;have hl:∀x y:PV,(([x,y]:List PV).length:Int)=2:=fun _ _=>rfl;simp only[Tm.av] at h1 h2;rw[p1,p2];simp -dsimp -implicitDefEqProofs only[go_sem,seval,hl,e2];refine Yf (α:=Unit) 2 (fun i _=>(0<i->same a' a=true)/\(1<i->same b' b=true)) (fun i _=>⟨[(0,.pv none (.sl (some 4) [a'.pv,b'.pv])),(1,.pv none (.sl (some 4) [a.pv,b.pv])),(5,P4 i)],[]⟩) () ⟨⟨by omega,by omega⟩,rfl⟩ ?_ ?_
 ·rintro i - h ⟨ha,hb⟩
  match i,h with
  |0,_=>
   have c2:(0:Int)<2:=by decide
   have w2:IntKind.i64.wrap ((0:Int)+1)=((0+1:Nat):Int):=by decide
   have i0:Yc (some 4) [.pv none (.sl (some 4) [a'.pv,b'.pv]),P4 0]=some (.iptr (some 4) a'.pv 0):=rfl;have i1:Yc (some 4) [.pv none (.sl (some 4) [a.pv,b.pv]),P4 0]=some (.iptr (some 4) a.pv 0):=rfl;cases hs:same a' a with
   |true=>
    rw[hs] at h1;simp -dsimp -implicitDefEqProofs only[go_sem,seval,hl,e2,e0,c2,w2,i0,i1,h1];simp_all
   |false=>
    rw[hs] at h1;simp -dsimp -implicitDefEqProofs only[go_sem,seval,hl,e2,e0,c2,w2,i0,i1,h1]
    try exact⟨_,rfl⟩
  |1,_=>
   have h0:=ha (by omega);have c2:(1:Int)<2:=by decide
   have w2:IntKind.i64.wrap ((1:Int)+1)=((1+1:Nat):Int):=by decide
   have i0:Yc (some 4) [.pv none (.sl (some 4) [a'.pv,b'.pv]),P4 1]=some (.iptr (some 4) b'.pv 0):=rfl;have i1:Yc (some 4) [.pv none (.sl (some 4) [a.pv,b.pv]),P4 1]=some (.iptr (some 4) b.pv 0):=rfl;rw[h0];cases hs:same b' b with
   |true=>
    rw[hs] at h2;simp -dsimp -implicitDefEqProofs only[go_sem,seval,hl,e2,e1,c2,w2,i0,i1,h2];simp_all
   |false=>
    rw[hs] at h2;simp -dsimp -implicitDefEqProofs only[go_sem,seval,hl,e2,e1,c2,w2,i0,i1,h2]
    try exact⟨_,rfl⟩
 ·rintro - ⟨ha,hb⟩;have h0:=ha (by omega);have h1':=hb (by omega);have c2:¬(2:Int)<2:=by decide
  rw[h0,h1'];simp -dsimp -implicitDefEqProofs only[go_sem,seval,hl,e2,c2]
  try exact⟨_,rfl⟩
theorem Xa(c:Cz):PV.part deep c.pv 0 none=some (.int .i64 c.head.kind):=by
 obtain⟨⟨_,_,_,_⟩,_⟩:=c;rfl
theorem nG(c:Cz)(z1:c.head.size<100000000)(z2:c.body.size<100000000)(hp:Heap):∃r:Bool,S 29 [c.av] hp=some (.ret (P5 r),hp)/\(r=true->okC c=true):=by
 have h1:=fun hp=>xK c.head hp (by omega);have h2:=fun hp=>xK c.body hp (by omega);simp only[Tm.av] at h1 h2;cases v1:c.head.valid with
 |false=>
  rw[v1] at h1;refine⟨false,zL rfl rfl rfl (zJ [(some 8,c.pv)]) rfl ?_,fun h=>by cases h⟩;simp -dsimp -implicitDefEqProofs only[go_sem,seval,Cz.av,YU,YV,Xa,h1]
 |true=>
 rw[v1] at h1;cases v2:c.body.valid with
 |false=>
  rw[v2] at h2;refine⟨false,zL rfl rfl rfl (zJ [(some 8,c.pv)]) rfl ?_,fun h=>by cases h⟩;simp -dsimp -implicitDefEqProofs only[go_sem,seval,Cz.av,YU,YV,Xa,h1,h2]
 |true=>
 rw[v2] at h2;have hs1:=valid_size v1;have hs2:=valid_size v2;by_cases hk:c.head.kind=2\/c.head.kind=3
 rotate_left
 ·have k2:(c.head.kind=2)=False:=Zj fun h=>hk (.inl h);have k3:(c.head.kind=3)=False:=Zj fun h=>hk (.inr h);refine⟨false,zL rfl rfl rfl (zJ [(some 8,c.pv)]) rfl ?_,fun h=>by cases h⟩;simp -dsimp -implicitDefEqProofs only[go_sem,seval,Cz.av,YU,YV,Xa,h1,h2,k2,k3]
 have h3:=fun hp=>nB c.body.size c.body (Zc _) v2 hp;have hcv:=nC c.body.size c.body;have hcs:=nD c.body.size c.body;generalize rcF c.body.size c.body=R at h3 hcv hcs;obtain⟨g,ok⟩:=R;dsimp only at h3 hcv hcs;have h4:=fun hp=>qO g c.body hp (by omega) (by omega);have h5:=fun hp=>kS c.head hp (by omega);have h6:=fun hp=>kS c.body hp (by omega);have w1:IntKind.i64.wrap (((min c.head.size 2001:Nat):Int)+((min c.body.size 2001:Nat):Int))=((c.head.size+c.body.size:Nat):Int):=by grind [zO]
 simp only[Tm.av] at h3 h4 h5 h6;have hfl:∀t∈[c.head,c.body],t.fits=true:=fun t ht=>by
  grind [valid_fits]
 have hzz:Tm.sizes [c.head,c.body]<50000000:=by
  show c.head.size+(c.body.size+0)<_;omega
 have eoc:Tm.occs [c.head,c.body]=c.head.occ++c.body.occ:=by
  show c.head.occ++(c.body.occ++[])=_
  grind
 have h7:∀hp,S 67 [.tsl (some 4) [c.head.pv,c.body.pv]] hp=some (.ret (.pv none (.sl none (ints c.vars))),hp):=fun hp=>by
  have:=yX (F:=find tab) (prim:=prim) (f:=67) (args:=[.tsl (some 4) [c.head.pv,c.body.pv]]) (ps:=[(none,.sl (some 4) [c.head.pv,c.body.pv])]) (hp:=hp) (hp1:=hp) rfl rfl rfl rfl (gX [c.head,c.body] hfl hzz []);rw[eoc] at this;exact this
 have h8:∀hp,S 68 [.tsl (some 4) [c.head.pv,c.body.pv]] hp=some (.ret (.pv none (.sl (some 4) [c.can.head.pv,c.can.body.pv])),hp):=fun hp=>by
  have:=yX (F:=find tab) (prim:=prim) (f:=68) (args:=[.tsl (some 4) [c.head.pv,c.body.pv]]) (ps:=[(none,.sl (some 4) [c.head.pv,c.body.pv])]) (hp:=hp) (hp1:=hp) rfl rfl rfl rfl (nE [c.head,c.body] hfl hzz []);rw[eoc] at this;exact this
 have q1:c.can.head.size=c.head.size:=qX _ (valid_fits v1);have q2:c.can.body.size=c.body.size:=qX _ (valid_fits v2);have h9:∀hp,S 65 [.pv none (.sl (some 4) [c.can.head.pv,c.can.body.pv]),.tsl (some 4) [c.head.pv,c.body.pv]] hp=some (.ret (P5 (same c.can.head c.head && same c.can.body c.body)),hp):=fun hp=>by
  have:=yX (F:=find tab) (prim:=prim) (f:=65) (args:=[.pv none (.sl (some 4) [c.can.head.pv,c.can.body.pv]),.tsl (some 4) [c.head.pv,c.body.pv]]) (ps:=[(none,.sl (some 4) [c.can.head.pv,c.can.body.pv]),(none,.sl (some 4) [c.head.pv,c.body.pv])]) (hp:=hp) (hp1:=hp) rfl rfl rfl rfl (nF c.head c.can.head c.body c.can.body (by omega) (by omega) (by omega) (by omega) [])
  grind
 cases ok with
 |false=>
  refine⟨false,zL rfl rfl rfl (zJ [(some 8,c.pv)]) rfl ?_,fun h=>by cases h⟩;rcases hk with hk|hk
  ·have k2:=Zg hk;simp -dsimp -implicitDefEqProofs only[go_sem,seval,Cz.av,YU,YV,Xa,h1,h2,h3,k2,zH (Za _)]
  ·have k3:=Zg hk;have k2:(c.head.kind=2)=False:=Zj (by omega);simp -dsimp -implicitDefEqProofs only[go_sem,seval,Cz.av,YU,YV,Xa,h1,h2,h3,k2,k3,zH (Za _)]
 |true=>
 cases sm:same g c.body with
 |false=>
  rw[sm] at h4;refine⟨false,zL rfl rfl rfl (zJ [(some 8,c.pv)]) rfl ?_,fun h=>by cases h⟩;rcases hk with hk|hk
  ·have k2:=Zg hk;simp -dsimp -implicitDefEqProofs only[go_sem,seval,Cz.av,YU,YV,Xa,h1,h2,h3,h4,k2,zH (Za _)]
  ·have k3:=Zg hk;have k2:(c.head.kind=2)=False:=Zj (by omega);simp -dsimp -implicitDefEqProofs only[go_sem,seval,Cz.av,YU,YV,Xa,h1,h2,h3,h4,k2,k3,zH (Za _)]
 |true=>
 rw[sm] at h4;by_cases hsz:c.head.size+c.body.size<=2000
 rotate_left
 ·have hgt:(2000:Int)<((c.head.size+c.body.size:Nat):Int):=by omega
  refine⟨false,zL rfl rfl rfl (zJ [(some 8,c.pv)]) rfl ?_,fun h=>by cases h⟩;rcases hk with hk|hk
  ·have k2:=Zg hk;simp -dsimp -implicitDefEqProofs only[go_sem,seval,Cz.av,YU,YV,Xa,h1,h2,h3,h4,h5,h6,w1,hgt,k2,zH (Za _)]
  ·have k3:=Zg hk;have k2:(c.head.kind=2)=False:=Zj (by omega);simp -dsimp -implicitDefEqProofs only[go_sem,seval,Cz.av,YU,YV,Xa,h1,h2,h3,h4,h5,h6,w1,hgt,k2,k3,zH (Za _)]
 have hgt:¬(2000:Int)<((c.head.size+c.body.size:Nat):Int):=by omega
 by_cases hvl:c.vars.length<=64
 rotate_left
 ·have hv':¬((c.vars.length:Nat):Int)<=64:=by omega
  refine⟨false,zL rfl rfl rfl (zJ [(some 8,c.pv)]) rfl ?_,fun h=>by cases h⟩;rcases hk with hk|hk
  ·have k2:=Zg hk;simp -dsimp -implicitDefEqProofs only[go_sem,seval,Cz.av,YU,YV,Xa,h1,h2,h3,h4,h5,h6,h7,w1,hgt,hv',ya,k2,zH (Za _)]
  ·have k3:=Zg hk;have k2:(c.head.kind=2)=False:=Zj (by omega);simp -dsimp -implicitDefEqProofs only[go_sem,seval,Cz.av,YU,YV,Xa,h1,h2,h3,h4,h5,h6,h7,w1,hgt,hv',ya,k2,k3,zH (Za _)]
 have hv':((c.vars.length:Nat):Int)<=64:=by omega
 refine⟨same c.can.head c.head && same c.can.body c.body,zL rfl rfl rfl (zJ [(some 8,c.pv)]) rfl ?_,fun h=> ?_⟩
 ·rcases hk with hk|hk
  ·have k2:=Zg hk;simp -dsimp -implicitDefEqProofs only[go_sem,seval,Cz.av,YU,YV,Xa,h1,h2,h3,h4,h5,h6,h7,h8,h9,w1,hgt,hv',ya,k2,zH (Za _)]
  ·have k3:=Zg hk;have k2:(c.head.kind=2)=False:=Zj (by omega);simp -dsimp -implicitDefEqProofs only[go_sem,seval,Cz.av,YU,YV,Xa,h1,h2,h3,h4,h5,h6,h7,h8,h9,w1,hgt,hv',ya,k2,k3,zH (Za _)]
 ·rw[Zk] at h;have hg:yG c.body=some g:=by
   have hgv:g.valid=true:=by
    grind [same]
   grind [valid_size,yG,cv]
  grind [okC]
theorem W_ex{β:Type}{Γ:Oracle}{Λ:Ym}{b:Nat}{c:ACode}{st:St}{rs:List RSlot}{P:β->AV->Heap->Prop}(h:W Γ Λ b c st (endK rs fun v hp=>∃x,P x v hp)):∃x,W Γ Λ b c st (endK rs (P x)):=by
 unfold W at h ⊢;split at h
 ·rename_i e st' he;cases e with
  |normal=>
   rw[xe] at h;cases hr:Yn st' rs with
   |none=>rw[hr] at h;exact h.elim
   |some u=>
    rw[hr] at h;obtain⟨x,hx⟩:=h;refine⟨x,?_⟩;rw[xe,hr];exact hx
  |ret=>
   rw[XK] at h;cases hr:Yn st' rs with
   |none=>rw[hr] at h;exact h.elim
   |some u=>
    rw[hr] at h;obtain⟨x,hx⟩:=h;refine⟨x,?_⟩;rw[XK,hr];exact hx
  |exit i=>exact h.elim
  |panic v=>exact h.elim
 grind
theorem nI(s:List UInt8)(a:Int)(hp:Heap):S 27 [P6 s,P4 a] hp=some (.ret (P5 (namB (keyP s a))),hp):=by
 refine zL rfl rfl rfl (zJ [(none,.str s),(none,.int .i64 a)]) rfl ?_;unfold namB keyP;by_cases h1:s.length<=100
 ·have h1':(s.length:Int)<=100:=by omega
  by_cases h2:0<=a
  ·simp -dsimp -implicitDefEqProofs only[go_sem,seval,h1,h1',h2]
  ·simp -dsimp -implicitDefEqProofs only[go_sem,seval,h1,h1',h2]
 ·have h1':¬(s.length:Int)<=100:=by omega
  simp -dsimp -implicitDefEqProofs only[go_sem,seval,h1,h1']
theorem nJ(p q:Prc)(hp:Heap):S 28 [p.av,q.av] hp=some (.ret (P5 (decide (ordP p q<0))),hp):=by
 refine zL rfl rfl rfl (zJ [(some 4,p.pv),(some 4,q.pv)]) rfl ?_;have e:= @gd p q;cases h1:Op.bytesLess p.name q.name with
 |true=>
  rw[ZL (e.2 (.inl h1))];simp -dsimp -implicitDefEqProofs only[go_sem,seval,Prc.av,Yq,Yu,h1]
 |false=>
  by_cases h2:p.name=q.name
  ·have h2':=Zg h2;by_cases h3:p.ar<q.ar
   ·rw[ZL (e.2 (.inr ⟨h2,h3⟩))];simp -dsimp -implicitDefEqProofs only[go_sem,seval,Prc.av,Yq,Yu,h1,h2',h3]
   ·rw[zr fun h=>by
     grind]
    simp -dsimp -implicitDefEqProofs only[go_sem,seval,Prc.av,Yq,Yu,h1,h2',h3]
  ·have h2':=Zj h2;rw[zr fun h=>by
    grind]
   simp -dsimp -implicitDefEqProofs only[go_sem,seval,Prc.av,Yq,Yu,h1,h2']
theorem Vy(l:List Prc):totD l=(ids l).length:=by
 induction l with
 |nil=>rfl
 |cons p r ih=>rw[NI,XO,Z2,List.length_map,ih]
theorem nK(d:Dbs)(h1:d.procs.length<1000000000)(h2:totD d.procs<1000000000):∃r:{x:Int // x<=500->totD d.procs<=500},∀hp,S 26 [d.av] hp=some (.ret (P4 r.1),hp):=by
 suffices h:∃r:{x:Int // x<=500->totD d.procs<=500},W (sem (find tab) prim) (sloop (find tab) prim) 0 (g26).code ⟨params 0 (pvs [(some 2,d.pv)]),[]⟩ (endK (g26).results (Am.frozen (P4 r.1))) by
  obtain⟨r,hr⟩:=h;exact⟨r,fun hp=>zL rfl rfl rfl (zJ [(some 2,d.pv)]) rfl hr⟩
 refine W_ex (P:=fun(r:{x:Int // x<=500->totD d.procs<=500})=>Am.frozen (P4 r.1)) ?_;simp -dsimp -implicitDefEqProofs only[go_sem,seval,Dbs.av,Yr,Prc.pvs_len];refine Yf (α:=Unit) d.procs.length (fun _ _=>True) (fun i _=>⟨[(1,.ptr 0 0),(3,P4 (totD (d.procs.take i):Int)),(4,P4 i)],[.box (some 2) (.pv (some 2) d.pv)]⟩) () ⟨trivial,rfl⟩ ?_ ?_
 ·rintro i - h -;have hcc:(i:Int)<(d.procs.length:Int):=by omega
  have w1:IntKind.i64.wrap ((i:Int)+1)=((i+1:Nat):Int):=by grind [zO]
  obtain⟨p,hpp⟩:∃p,d.procs[i]? =some p:=⟨_,Zd h⟩;have ht:=k9 hpp;have hle:=Va (l:=d.procs) (i+1);have w2:IntKind.i64.wrap ((totD (d.procs.take i):Int)+(p.cls.length:Int))=(totD (d.procs.take (i+1)):Int):=by grind [zO]
  by_cases g1:(500:Int)<(p.cls.length:Int)
  ·simp -dsimp -implicitDefEqProofs only[go_sem,seval,hcc,w1,w2,g1,Yr,Y7,Prc.pvs_len,Sto.pvs_len,zM (Prc.pvs_get hpp)];simp_all
  ·by_cases g2:(500:Int)<(totD (d.procs.take i):Int)
   ·simp -dsimp -implicitDefEqProofs only[go_sem,seval,hcc,w1,w2,g1,g2,Yr,Y7,Prc.pvs_len,Sto.pvs_len,zM (Prc.pvs_get hpp)];simp_all
   ·simp -dsimp -implicitDefEqProofs only[go_sem,seval,hcc,w1,w2,g1,g2,Yr,Y7,Prc.pvs_len,Sto.pvs_len,zM (Prc.pvs_get hpp)];simp_all
 ·rintro - -;have hcc:¬(d.procs.length:Int)<(d.procs.length:Int):=by omega
  simp -dsimp -implicitDefEqProofs only[go_sem,seval,hcc,Yr,Prc.pvs_len];exact⟨⟨totD (d.procs.take d.procs.length),fun h=>by grind⟩,rfl⟩
theorem nL(c:Cz)(z1:c.head.size<100000000)(z2:c.body.size<100000000):∃r:{x:Bool // x=true->okC c=true},∀hp,S 29 [c.av] hp=some (.ret (P5 r.1),hp):=by
 obtain⟨r,hr,hi⟩:=nG c z1 z2 [];exact⟨⟨r,hi⟩,fun hp=>yX (F:=find tab) (prim:=prim) (f:=29) (ps:=[(some 8,c.pv)]) (hp:=hp) (hp1:=hp) rfl rfl rfl rfl hr⟩
set_option maxRecDepth 20000 in
set_option maxHeartbeats 4000000 in
theorem nM(d:Dbs)(hb:BndD d):∃r:{x:Bool // x=true->okD d=true},∀hp,S 7 [d.av] hp=some (.ret (P5 r.1),hp):=by
 suffices h:∃r:{x:Bool // x=true->okD d=true},W (sem (find tab) prim) (sloop (find tab) prim) 0 (g7).code ⟨params 0 (pvs [(some 2,d.pv)]),[]⟩ (endK (g7).results (Am.frozen (P5 r.1))) by
  obtain⟨r,hr⟩:=h;exact⟨r,fun hp=>zL rfl rfl rfl (zJ [(some 2,d.pv)]) rfl hr⟩
 refine W_ex (P:=fun(r:{x:Bool // x=true->okD d=true})=>Am.frozen (P5 r.1)) ?_;obtain⟨⟨r,hr5⟩,h1⟩:=nK d hb.1 hb.2.1;have hl:=hb.1;have htd:=hb.2.1;simp only[Dbs.av] at h1;have hn0:∀H:Heap,YW none H=some (.sl none H.length 0 0 0,H++[.arr none [] false]):=fun H=>Xt (sh:=none) (by decide);by_cases b1:d.next<1
 ·simp -dsimp -implicitDefEqProofs only[go_sem,seval,Dbs.av,YA,Yr,b1,Prc.pvs_len];simp_all
 by_cases b2:4294967296<d.next
 ·simp -dsimp -implicitDefEqProofs only[go_sem,seval,Dbs.av,YA,Yr,b1,b2,Prc.pvs_len];simp_all
 by_cases b3:(500:Int)<(d.procs.length:Int)
 ·simp -dsimp -implicitDefEqProofs only[go_sem,seval,Dbs.av,YA,Yr,b1,b2,b3,Prc.pvs_len];simp_all
 by_cases b4:500<r
 ·simp -dsimp -implicitDefEqProofs only[go_sem,seval,Dbs.av,YA,Yr,b1,b2,b3,h1,b4,Prc.pvs_len];simp_all
 simp -dsimp -implicitDefEqProofs only[go_sem,seval,Dbs.av,YA,Yr,b1,b2,b3,h1,b4,hn0,Prc.pvs_len];refine Yf (α:=List Int) d.procs.length (fun i l=>l=ids (d.procs.take i)/\OkP d.next (d.procs.take i)) (fun i l=>⟨[(1,.ptr 0 0),(3,.sl none 1 l.length 0 l.length),(4,P4 i)],[.box (some 2) (.pv (some 2) d.pv),.arr none (ints l) false]⟩) [] ⟨⟨rfl,fun p hp=>(by cases hp),List.Pairwise.nil,List.nodup_nil,fun p hp=>(by cases hp)⟩,rfl⟩ ?_ ?_
 ·rintro i l0 h ⟨hl0,hinv⟩;have hll0:l0.length=totD (d.procs.take i):=by rw[hl0,Vy]
  have hcc:(i:Int)<(d.procs.length:Int):=by omega
  have w1:IntKind.i64.wrap ((i:Int)+1)=((i+1:Nat):Int):=by grind [zO]
  obtain⟨p,hpp⟩:∃p,d.procs[i]? =some p:=⟨_,Zd h⟩;have hpm:=Zi hpp;have ht:=k9 hpp;have hle:=Va (l:=d.procs) (i+1);have h2:=fun hp=>nI p.name p.ar hp;cases hnm:namB (keyP p.name p.ar) with
  |false=>
   rw[hnm] at h2;simp -dsimp -implicitDefEqProofs only[go_sem,seval,hcc,w1,Yr,Prc.pvs_len,zM (Prc.pvs_get hpp),Yq,Yu,h2,zH (Za _)];simp_all
  |true=>
  rw[hnm] at h2;have h3:∃q:Prc,(0<i->d.procs[i - 1]? =some q):=by
   grind
  obtain⟨q,hq⟩:=h3;have h4:=fun hp=>nJ q p hp;simp only[Prc.av] at h4;have w3:0<i->IntKind.i64.wrap ((i:Int) - 1)=((i - 1:Nat):Int):=fun h=>by grind [zO]
  have go:(0<i/\decide (ordP q p<0)=false)\/¬((0:Int)<(i:Int))\/(0<i/\decide (ordP q p<0)=true):=by
   grind
  rcases go with⟨i0,e⟩|go
  ·rw[e] at h4;have i0':(0:Int)<(i:Int):=by omega
   have hq:=hq i0;have w3:=w3 i0;simp -dsimp -implicitDefEqProofs only[go_sem,seval,hcc,w1,w3,i0',Yr,Prc.pvs_len,zM (Prc.pvs_get hpp),zM (Prc.pvs_get hq),Yq,Yu,h2,h4,zH (Za _)];simp_all
  have hpre:∀a∈d.procs.take i,ordP a p<0:=fun a ha=>by
   obtain⟨j,hj⟩:=ZM.1 ha;have hjl:=(Ze.1 hj).1;rw[Zx] at hjl;rcases go with i0|⟨i0,e⟩
   ·omega
   ·have hqt:(d.procs.take i)[i - 1]? =some q:=by grind
    rcases Zo j (i - 1) with k|k
    ·exact ju (Vj hinv.2.1 j (i - 1) a q k hj hqt) (Z5 e)
    grind
  rcases go with i0|⟨i0,e⟩
  simp -dsimp -implicitDefEqProofs only[go_sem,seval,hcc,w1,i0,Yr,Prc.pvs_len,zM (Prc.pvs_get hpp),Yq,Yu,h2,zH (Za _)]
  rotate_left
  rw[e] at h4;have i0':(0:Int)<(i:Int):=by omega
  have hq:=hq i0;have w3:=w3 i0;simp -dsimp -implicitDefEqProofs only[go_sem,seval,hcc,w1,w3,i0',Yr,Prc.pvs_len,zM (Prc.pvs_get hpp),zM (Prc.pvs_get hq),Yq,Yu,h2,h4,zH (Za _)]
  all_goals
   refine Yf (α:=List Int) p.cls.length (fun k l=>l=l0++(p.cls.take k).map (·.id)/\l.Nodup/\∀s∈p.cls.take k,okS d.next p s) (fun k l=>⟨[(1,.ptr 0 0),(3,.sl none 1 l.length 0 l.length),(4,P4 i),(5,.ptr 2 0),(6,P4 k)],[.box (some 2) (.pv (some 2) d.pv),.arr none (ints l) false,.box (some 4) (.pv (some 4) p.pv),.arr (some 9) [] false]⟩) l0 ⟨⟨by simp,by rw[hl0];exact hinv.2.2.1,fun s hs=>by cases hs⟩,rfl⟩ ?_ ?_
   ·rintro k l hk ⟨hle,hnd,hoks⟩;have hll:l.length=l0.length+k:=by grind
    have hck:(k:Int)<(p.cls.length:Int):=by omega
    have w4:IntKind.i64.wrap ((k:Int)+1)=((k+1:Nat):Int):=by grind [zO]
    obtain⟨c,hcs⟩:∃c,p.cls[k]? =some c:=⟨_,Zd hk⟩;have hcm:=Zi hcs;obtain⟨z1,z2⟩:=hb.2.2 p hpm c hcm;obtain⟨⟨v,hvi⟩,hval⟩:=nL c.cl z1 z2;simp only[Cz.av] at hval;by_cases c1:c.id<1
    ·simp -dsimp -implicitDefEqProofs only[go_sem,seval,hck,w4,Y7,Sto.pvs_len,zM (Sto.pvs_get hcs),YK,c1,zH (Za _)];simp_all
    by_cases c2:d.next<=c.id
    ·simp -dsimp -implicitDefEqProofs only[go_sem,seval,hck,w4,Y7,Sto.pvs_len,zM (Sto.pvs_get hcs),YK,c1,c2,YA,zH (Za _)];simp_all
    cases v with
    |false=>
     simp -dsimp -implicitDefEqProofs only[go_sem,seval,hck,w4,Y7,Sto.pvs_len,zM (Sto.pvs_get hcs),YK,yx,c1,c2,hval,YA,zH (Za _)];simp_all
    |true=>
    by_cases c4:c.cl.head.name=p.name
    rotate_left
    ·have c4':=Zj c4;simp -dsimp -implicitDefEqProofs only[go_sem,seval,hck,w4,Y7,Yq,Sto.pvs_len,zM (Sto.pvs_get hcs),YK,yx,yK,c1,c2,c4',hval,YA,zH (Za _)];simp_all
    have c4':=Zg c4;by_cases c5:(c.cl.head.args.length:Int)=p.ar
    rotate_left
    ·have c5':=Zj c5;simp -dsimp -implicitDefEqProofs only[go_sem,seval,hck,w4,Y7,Yq,Yu,Sto.pvs_len,Tm.pvs_len,zM (Sto.pvs_get hcs),YK,yx,yK,yZ,c1,c2,c4',c5',hval,YA,zH (Za _)];simp_all
    have c5':=Zg c5;simp -dsimp -implicitDefEqProofs only[go_sem,seval,hck,w4,Y7,Yq,Yu,Sto.pvs_len,Tm.pvs_len,zM (Sto.pvs_get hcs),YK,yx,yK,yZ,c1,c2,c4',c5',hval,YA,zH (Za _)];refine Yf (α:=Unit) l.length (fun j _=>∀(j':Nat) (x:Int),j'<j->l[j']? =some x->x≠c.id) (fun j _=>⟨[(1,.ptr 0 0),(3,.sl none 1 l.length 0 l.length),(4,P4 i),(5,.ptr 2 0),(6,P4 k),(7,.ptr 4 0),(8,P4 j)],[.box (some 2) (.pv (some 2) d.pv),.arr none (ints l) false,.box (some 4) (.pv (some 4) p.pv),.arr (some 9) [] false,.box (some 9) (.pv (some 9) c.pv)]⟩) () ⟨fun j' x h=>by omega,rfl⟩ ?_ ?_
    ·rintro j - hj hinj;have hcj:(j:Int)<(l.length:Int):=by omega
     have w5:IntKind.i64.wrap ((j:Int)+1)=((j+1:Nat):Int):=by grind [zO]
     obtain⟨x,hx⟩:∃x,l[j]? =some x:=⟨_,Zd hj⟩;have hia:Yc none [.sl none 1 l.length 0 l.length,P4 j]=some (.eptr none 1 l.length j 0):=by
      grind [xH]
     have hld:∀(x0:AObj) (X:Heap),aload none (x0::.arr none (ints l) false::X) (.eptr none 1 l.length j 0)=some (P4 x):=fun x0 X=>by
      simp[aload,ya,Qs hx]
     by_cases hxc:x=c.id
     ·have hxc':=Zg hxc;simp -dsimp -implicitDefEqProofs only[go_sem,seval,hcj,w5,hia,hld,YK,hxc'];simp_all
     ·have hxc':=Zj hxc;simp -dsimp -implicitDefEqProofs only[go_sem,seval,hcj,w5,hia,hld,YK,hxc'];refine⟨(),fun j' y hj' hy=> ?_,rfl⟩
      grind
    ·rintro - hinj;have hcj:¬(l.length:Int)<(l.length:Int):=by omega
     have hlim:l.length+1<=lim:=by grind [lim]
     have hil:(ints l).length=l.length:=ya l;simp -dsimp -implicitDefEqProofs only[go_sem,seval,hcj,w4,YK,hil,hlim,GX];have htk:p.cls.take (k+1)=p.cls.take k++[c]:=by grind [Z7]
     refine⟨l++[c.id],⟨by grind,?_,fun s hs=> ?_⟩,?_⟩
     ·rw[List.nodup_append]
      grind [ZM]
     ·rw[htk] at hs;rcases zj.1 hs with hs|hs
      ·grind
      ·rcases List.mem_singleton.1 hs with rfl
       exact⟨by omega,by omega,hvi rfl,c4,c5⟩
     rw[Z2];rfl
   ·rintro l ⟨hle,hnd,hoks⟩;rw[ZJ] at hle hoks;have hck:¬(p.cls.length:Int)<(p.cls.length:Int):=by omega
    simp -dsimp -implicitDefEqProofs only[go_sem,seval,hck,w1,Y7,Sto.pvs_len];have htk:d.procs.take (i+1)=d.procs.take i++[p]:=by grind [Z7]
    refine⟨l,⟨?_,?_⟩,rfl⟩
    ·grind [ids]
    ·have h:=gy d.next (d.procs.take i) [] p
     rw[ZF] at h;rw[htk];rw[hle,hl0,List.nodup_append] at hnd;exact h.2 ⟨hinv,hnm,hpre,fun x hx=>(by cases hx),hnd.2.1,fun s hs hm=>hnd.2.2 s.id hm s.id (ZI.2 ⟨s,hs,rfl⟩) rfl,hoks⟩
 ·rintro l ⟨hle,hinv⟩;rw[ZJ] at hinv;have hcc:¬(d.procs.length:Int)<(d.procs.length:Int):=by omega
  simp -dsimp -implicitDefEqProofs only[go_sem,seval,hcc,Yr,Prc.pvs_len];exact⟨⟨true,fun _=>(XP d).2 ⟨by omega,by omega,by omega,hr5 (by omega),hinv⟩⟩,rfl⟩
end Go.Proofs.YtgedfopkiebjkaaGreatDoor
