/- What is proved: body.Clause. -/
import Derived.Test.YtgedfopkiebjkaaGreatDoorDb1
import Derived.Test.YtgedfopkiebjkaaGreatDoorRdx
import Derived.Test.YtgedfopkiebjkaaGreatDoorAdd
import Derived.Test.YtgedfopkiebjkaaGreatDoorEre
set_option linter.unusedSimpArgs false
set_option linter.unusedVariables false
set_option maxRecDepth 20000
namespace Go.Proofs.YtgedfopkiebjkaaGreatDoor
open Go.Am
theorem ox{s:List UInt8}{x y:Tm}(hs:s.length<=100)(hx:x.fits=true)(hy:y.fits=true):(tstr s [x,y]).fits=true:=xe hs (by simp) (by simp) (by grind [Tm.fitsAll])
theorem oy:∀(n:Nat) (t g:Tm),cvF n t=some g->t.fits=true->g.fits=true:=by
 intro n
 induction n with
 |zero=>intro t g h;cases h
 |succ n ih=>
  intro t g h hf;rw[cvF] at h;split at h
  ·cases h;exact xe (by decide) (by simp) (by simp) (by grind [Tm.fitsAll])
  ·split at h
   ·rename_i hj;split at h
    ·rename_i a b hab;split at h
     ·cases h
     ·rename_i x hx;split at h
      ·cases h
      ·rename_i y hy;cases h;refine ox ?_ (ih _ _ hx (Tm.zAK hf (by grind))) (ih _ _ hy (Tm.zAK hf (by grind)));rcases hj.2.2 with e|e|e <;> rw[e] <;> decide
    grind
   grind
def BalP(b:Tm)(e:Int):Prop:=(e=8/\b.valid=true/\b.kind=3)\/(e=2/\b=zt)\/(e=0/\b=zt)
set_option maxHeartbeats 1000000 in
theorem oA(t:Tm)(hv:t.valid=true):∃(c:Cz) (b:Tm) (e:Int),(∀hp,S 14 [t.av] hp=some (.ret (.tuple [c.av,b.av,P4 e]),hp))/\BalP b e/\c.head.size<100000000/\c.body.size<100000000/\(e=0->∃h g:Tm,h.valid=true/\¬h.kind=0/\c=(Cz.mk h g).can):=by
 suffices hW:∃(c:Cz) (b:Tm) (e:Int),W Z L 0 (g14).code ⟨params 0 (pvs [(some 4,t.pv)]),[]⟩ (endK (g14).results (Am.frozen (.tuple [c.av,b.av,P4 e])))/\BalP b e/\c.head.size<100000000/\c.body.size<100000000/\(e=0->∃h g:Tm,h.valid=true/\¬h.kind=0/\c=(Cz.mk h g).can) by
  obtain⟨c,b,e,h1,h2⟩:=hW;exact⟨c,b,e,fun hp=>zM rfl rfl rfl (zK [(some 4,t.pv)]) rfl h1,h2⟩
 have h1:=fun hp=>YR t hp (by grind [valid_size]);rw[hv] at h1;have h2:=fun hp=>xf [116,114,117,101] (by decide) hp;obtain⟨h,r,hh,hr,hc⟩:∃h r:Tm,h.valid=true/\r.valid=true/\((t.kind=3/\t.name=[58,45]/\t.args=[h,r])\/((¬t.kind=3\/¬t.name=[58,45]\/¬(t.args.length:Int)=2)/\h=t/\r=zO [116,114,117,101])):=by
  grind [G5,YS,Qf]
 have zh:=valid_size hh;have zr:=valid_size hr;have h3:=fun hp=>VB h hp;have h4:=fun hp=>xC [99,97,108,108,97,98,108,101] (by decide) h hh hp;have h5:=fun hp=>xC [99,97,108,108,97,98,108,101] (by decide) r hr hp;have h6:=fun hp=>gf r hr hp;have h7:=fun hp=>VW hp;have i0:∀(a b:PV) s kk,zX (some 4) [.pv s (.sl (some 4) [a,b]),.pv none (.int kk 0)]=some (.iptr (some 4) a 0):=fun _ _ _ _=>rfl;have i1:∀(a b:PV) s kk,zX (some 4) [.pv s (.sl (some 4) [a,b]),.pv none (.int kk 1)]=some (.iptr (some 4) b 0):=fun _ _ _ _=>rfl;have l2:∀a b:PV,(([a,b]:List PV).length:Int)=2:=fun _ _=>rfl;have stn:∀(H:Heap) (v:AV) (k:Nat) (s:Sh) (e:PV) (f:Nat),YV (some 4) 0 H [.ptr 4 0,v,.ptr 0 k,.iptr s e f]=zH (some 4) 0 H [.ptr 4 0,v]:=fun H v k s e f=>by simp[YV,zH,XB]
 simp only[Tm.av] at h1 h2 h3 h4 h5 h6 h7;have hb0':zQ A0 [] []=some (.agg A0):=rfl;have hb8:zQ [(some 4,(.agg A0)),(some 4,(.agg A0))] [] []=some (.agg [(some 4,(.agg A0)),(some 4,(.agg A0))]):=rfl;have hb62:∀a b:Tm,zQ [(some 4,(.agg A0)),(some 4,(.agg A0))] [0,1] [.pv (some 4) a.pv,.pv (some 4) b.pv]=some (.pv (some 8) (Cz.mk a b).pv):=fun _ _=>rfl;by_cases k0:h.kind=0
 ·have k0':=Zi k0;refine⟨⟨zt,zt⟩,instT,8,?_,.inl ⟨rfl,VV,rfl⟩,by decide,by decide,fun e=>absurd e (by decide)⟩;rcases hc with⟨c1,c2,ca⟩|⟨ch,rfl,rfl⟩
  ·have cp:Tm.pvs t.args=[h.pv,r.pv]:=by rw[ca];rfl
   simp -dsimp -implicitDefEqProofs only[go_sem,seval,Tm.av,Cz.av,h1,h2,zJ,zN,zL,stn,hb0',hb8,hb62,c1,c2,cp,l2,i0,i1,k0',h7,zF,zD (Za _)]
   first|exact⟨_,rfl⟩|exact absurd (k0.symm.trans c0) (by decide)
  ·rcases ch with c1|c1|c1
   ·simp -dsimp -implicitDefEqProofs only[go_sem,seval,Tm.av,Cz.av,h1,h2,zJ,zN,zL,stn,hb0',hb8,hb62,c1,k0',h7,zF,zD (Za _)]
    first|exact⟨_,rfl⟩|exact absurd (k0.symm.trans c0) (by decide)
   ·by_cases c0:h.kind=3
    ·grind
    ·simp -dsimp -implicitDefEqProofs only[go_sem,seval,Tm.av,Cz.av,h1,h2,zJ,zN,zL,stn,hb0',hb8,hb62,c0,k0',h7,zF,zD (Za _)]
     first|exact⟨_,rfl⟩|exact absurd (k0.symm.trans c0) (by decide)
   ·by_cases c0:h.kind=3
    ·by_cases c2:h.name=[58,45]
     ·grind
     grind
    ·simp -dsimp -implicitDefEqProofs only[go_sem,seval,Tm.av,Cz.av,h1,h2,zJ,zN,zL,stn,hb0',hb8,hb62,c0,k0',h7,zF,zD (Za _)]
     first|exact⟨_,rfl⟩|exact absurd (k0.symm.trans c0) (by decide)
 have k0':=Zg k0;cases kc:(decide (h.kind=2) || decide (h.kind=3)) with
 |false=>
  rw[kc] at h3;refine⟨⟨zt,zt⟩,typT [99,97,108,108,97,98,108,101] h,8,?_,.inl ⟨rfl,(jZ (by decide) hh).2,rfl⟩,by decide,by decide,fun e=>absurd e (by decide)⟩;rcases hc with⟨c1,c2,ca⟩|⟨ch,rfl,rfl⟩
  ·have cp:Tm.pvs t.args=[h.pv,r.pv]:=by rw[ca];rfl
   simp -dsimp -implicitDefEqProofs only[go_sem,seval,Tm.av,Cz.av,h1,h2,zJ,zN,zL,stn,hb0',hb8,hb62,c1,c2,cp,l2,i0,i1,k0',h3,h4,zF,zD (Za _)]
   first|exact⟨_,rfl⟩|exact absurd (k0.symm.trans c0) (by decide)
  ·rcases ch with c1|c1|c1
   ·simp -dsimp -implicitDefEqProofs only[go_sem,seval,Tm.av,Cz.av,h1,h2,zJ,zN,zL,stn,hb0',hb8,hb62,c1,k0',h3,h4,zF,zD (Za _)]
    first|exact⟨_,rfl⟩|exact absurd (k0.symm.trans c0) (by decide)
   ·by_cases c0:h.kind=3
    ·grind
    ·simp -dsimp -implicitDefEqProofs only[go_sem,seval,Tm.av,Cz.av,h1,h2,zJ,zN,zL,stn,hb0',hb8,hb62,c0,k0',h3,h4,zF,zD (Za _)]
     first|exact⟨_,rfl⟩|exact absurd (k0.symm.trans c0) (by decide)
   ·by_cases c0:h.kind=3
    ·by_cases c2:h.name=[58,45]
     ·grind
     grind
    ·simp -dsimp -implicitDefEqProofs only[go_sem,seval,Tm.av,Cz.av,h1,h2,zJ,zN,zL,stn,hb0',hb8,hb62,c0,k0',h3,h4,zF,zD (Za _)]
     first|exact⟨_,rfl⟩|exact absurd (k0.symm.trans c0) (by decide)
 |true=>
 rw[kc] at h3;cases hcv:cv r with
 |none=>
  rw[hcv] at h6;simp only[Option.getD_none,zy] at h6;refine⟨⟨zt,zt⟩,typT [99,97,108,108,97,98,108,101] r,8,?_,.inl ⟨rfl,(jZ (by decide) hr).2,rfl⟩,by decide,by decide,fun e=>absurd e (by decide)⟩;rcases hc with⟨c1,c2,ca⟩|⟨ch,rfl,rfl⟩
  ·have cp:Tm.pvs t.args=[h.pv,r.pv]:=by rw[ca];rfl
   simp -dsimp -implicitDefEqProofs only[go_sem,seval,Tm.av,Cz.av,h1,h2,zJ,zN,zL,stn,hb0',hb8,hb62,c1,c2,cp,l2,i0,i1,k0',h3,h6,h5,zF,zD (Za _)]
   first|exact⟨_,rfl⟩|exact absurd (k0.symm.trans c0) (by decide)
  ·rcases ch with c1|c1|c1
   ·simp -dsimp -implicitDefEqProofs only[go_sem,seval,Tm.av,Cz.av,h1,h2,zJ,zN,zL,stn,hb0',hb8,hb62,c1,k0',h3,h6,h5,zF,zD (Za _)]
    first|exact⟨_,rfl⟩|exact absurd (k0.symm.trans c0) (by decide)
   ·by_cases c0:h.kind=3
    ·simp -dsimp -implicitDefEqProofs only[go_sem,seval,Tm.av,Cz.av,h1,h2,zJ,zN,zL,stn,hb0',hb8,hb62,c0,c1,k0',h3,h6,h5,zF,zD (Za _)]
     first|exact⟨_,rfl⟩|exact absurd (k0.symm.trans c0) (by decide)
    ·simp -dsimp -implicitDefEqProofs only[go_sem,seval,Tm.av,Cz.av,h1,h2,zJ,zN,zL,stn,hb0',hb8,hb62,c0,k0',h3,h6,h5,zF,zD (Za _)]
     first|exact⟨_,rfl⟩|exact absurd (k0.symm.trans c0) (by decide)
   ·by_cases c0:h.kind=3
    ·by_cases c2:h.name=[58,45]
     ·simp -dsimp -implicitDefEqProofs only[go_sem,seval,Tm.av,Cz.av,h1,h2,zJ,zN,zL,stn,hb0',hb8,hb62,c0,c1,c2,Tm.pvs_len,k0',h3,h6,h5,zF,zD (Za _)]
      first|exact⟨_,rfl⟩|exact absurd (k0.symm.trans c0) (by decide)
     ·simp -dsimp -implicitDefEqProofs only[go_sem,seval,Tm.av,Cz.av,h1,h2,zJ,zN,zL,stn,hb0',hb8,hb62,c0,c2,k0',h3,h6,h5,zF,zD (Za _)]
      first|exact⟨_,rfl⟩|exact absurd (k0.symm.trans c0) (by decide)
    ·simp -dsimp -implicitDefEqProofs only[go_sem,seval,Tm.av,Cz.av,h1,h2,zJ,zN,zL,stn,hb0',hb8,hb62,c0,k0',h3,h6,h5,zF,zD (Za _)]
     first|exact⟨_,rfl⟩|exact absurd (k0.symm.trans c0) (by decide)
 |some g=>
 rw[hcv] at h6;simp only[Option.getD_some,Option.isSome_some] at h6;have zg:=gg _ _ _ hcv;have fg:=oy _ _ _ hcv (valid_fits hr);have h8:=fun hp=>gh ⟨h,g⟩ (by grind) (by grind) hp;have h9:=fun hp=>gc ⟨h,g⟩ (valid_fits hh) fg (by grind) hp;simp only[Cz.av] at h8 h9;cases hz:decide (h.size+g.size<=2000) with
 |false=>
  rw[hz] at h8;refine⟨⟨zt,zt⟩,zt,2,?_,.inr (.inl ⟨rfl,rfl⟩),by decide,by decide,fun e=>absurd e (by decide)⟩;rcases hc with⟨c1,c2,ca⟩|⟨ch,rfl,rfl⟩
  ·have cp:Tm.pvs t.args=[h.pv,r.pv]:=by rw[ca];rfl
   simp -dsimp -implicitDefEqProofs only[go_sem,seval,Tm.av,Cz.av,h1,h2,zJ,zN,zL,stn,hb0',hb8,hb62,c1,c2,cp,l2,i0,i1,k0',h3,h6,h8,zF,zD (Za _)]
   first|exact⟨_,rfl⟩|exact absurd (k0.symm.trans c0) (by decide)
  ·rcases ch with c1|c1|c1
   ·simp -dsimp -implicitDefEqProofs only[go_sem,seval,Tm.av,Cz.av,h1,h2,zJ,zN,zL,stn,hb0',hb8,hb62,c1,k0',h3,h6,h8,zF,zD (Za _)]
    first|exact⟨_,rfl⟩|exact absurd (k0.symm.trans c0) (by decide)
   ·by_cases c0:h.kind=3
    ·simp -dsimp -implicitDefEqProofs only[go_sem,seval,Tm.av,Cz.av,h1,h2,zJ,zN,zL,stn,hb0',hb8,hb62,c0,c1,k0',h3,h6,h8,zF,zD (Za _)]
     first|exact⟨_,rfl⟩|exact absurd (k0.symm.trans c0) (by decide)
    ·simp -dsimp -implicitDefEqProofs only[go_sem,seval,Tm.av,Cz.av,h1,h2,zJ,zN,zL,stn,hb0',hb8,hb62,c0,k0',h3,h6,h8,zF,zD (Za _)]
     first|exact⟨_,rfl⟩|exact absurd (k0.symm.trans c0) (by decide)
   ·by_cases c0:h.kind=3
    ·by_cases c2:h.name=[58,45]
     ·simp -dsimp -implicitDefEqProofs only[go_sem,seval,Tm.av,Cz.av,h1,h2,zJ,zN,zL,stn,hb0',hb8,hb62,c0,c1,c2,Tm.pvs_len,k0',h3,h6,h8,zF,zD (Za _)]
      first|exact⟨_,rfl⟩|exact absurd (k0.symm.trans c0) (by decide)
     ·simp -dsimp -implicitDefEqProofs only[go_sem,seval,Tm.av,Cz.av,h1,h2,zJ,zN,zL,stn,hb0',hb8,hb62,c0,c2,k0',h3,h6,h8,zF,zD (Za _)]
      first|exact⟨_,rfl⟩|exact absurd (k0.symm.trans c0) (by decide)
    ·simp -dsimp -implicitDefEqProofs only[go_sem,seval,Tm.av,Cz.av,h1,h2,zJ,zN,zL,stn,hb0',hb8,hb62,c0,k0',h3,h6,h8,zF,zD (Za _)]
     first|exact⟨_,rfl⟩|exact absurd (k0.symm.trans c0) (by decide)
 |true=>
 rw[hz] at h8;have z1:(Cz.mk h g).can.head.size=h.size:=Jp _ (valid_fits hh);have z2:(Cz.mk h g).can.body.size=g.size:=Jp _ fg;by_cases hl:(64:Int)<((Cz.mk h g).vars.length:Int)
 ·refine⟨⟨zt,zt⟩,zt,2,?_,.inr (.inl ⟨rfl,rfl⟩),by decide,by decide,fun e=>absurd e (by decide)⟩;rcases hc with⟨c1,c2,ca⟩|⟨ch,rfl,rfl⟩
  ·have cp:Tm.pvs t.args=[h.pv,r.pv]:=by rw[ca];rfl
   simp -dsimp -implicitDefEqProofs only[go_sem,seval,Tm.av,Cz.av,h1,h2,zJ,zN,zL,stn,hb0',hb8,hb62,c1,c2,cp,l2,i0,i1,k0',h3,h6,h8,h9,hl,zF,zD (Za _)]
   first|exact⟨_,rfl⟩|exact absurd (k0.symm.trans c0) (by decide)
  ·rcases ch with c1|c1|c1
   ·simp -dsimp -implicitDefEqProofs only[go_sem,seval,Tm.av,Cz.av,h1,h2,zJ,zN,zL,stn,hb0',hb8,hb62,c1,k0',h3,h6,h8,h9,hl,zF,zD (Za _)]
    first|exact⟨_,rfl⟩|exact absurd (k0.symm.trans c0) (by decide)
   ·by_cases c0:h.kind=3
    ·simp -dsimp -implicitDefEqProofs only[go_sem,seval,Tm.av,Cz.av,h1,h2,zJ,zN,zL,stn,hb0',hb8,hb62,c0,c1,k0',h3,h6,h8,h9,hl,zF,zD (Za _)]
     first|exact⟨_,rfl⟩|exact absurd (k0.symm.trans c0) (by decide)
    ·simp -dsimp -implicitDefEqProofs only[go_sem,seval,Tm.av,Cz.av,h1,h2,zJ,zN,zL,stn,hb0',hb8,hb62,c0,k0',h3,h6,h8,h9,hl,zF,zD (Za _)]
     first|exact⟨_,rfl⟩|exact absurd (k0.symm.trans c0) (by decide)
   ·by_cases c0:h.kind=3
    ·by_cases c2:h.name=[58,45]
     ·simp -dsimp -implicitDefEqProofs only[go_sem,seval,Tm.av,Cz.av,h1,h2,zJ,zN,zL,stn,hb0',hb8,hb62,c0,c1,c2,Tm.pvs_len,k0',h3,h6,h8,h9,hl,zF,zD (Za _)]
      first|exact⟨_,rfl⟩|exact absurd (k0.symm.trans c0) (by decide)
     ·simp -dsimp -implicitDefEqProofs only[go_sem,seval,Tm.av,Cz.av,h1,h2,zJ,zN,zL,stn,hb0',hb8,hb62,c0,c2,k0',h3,h6,h8,h9,hl,zF,zD (Za _)]
      first|exact⟨_,rfl⟩|exact absurd (k0.symm.trans c0) (by decide)
    ·simp -dsimp -implicitDefEqProofs only[go_sem,seval,Tm.av,Cz.av,h1,h2,zJ,zN,zL,stn,hb0',hb8,hb62,c0,k0',h3,h6,h8,h9,hl,zF,zD (Za _)]
     first|exact⟨_,rfl⟩|exact absurd (k0.symm.trans c0) (by decide)
 ·refine⟨(Cz.mk h g).can,zt,0,?_,.inr (.inr ⟨rfl,rfl⟩),by omega,by omega,fun _=>⟨h,g,hh,k0,rfl⟩⟩;rcases hc with⟨c1,c2,ca⟩|⟨ch,rfl,rfl⟩
  ·have cp:Tm.pvs t.args=[h.pv,r.pv]:=by rw[ca];rfl
   simp -dsimp -implicitDefEqProofs only[go_sem,seval,Tm.av,Cz.av,h1,h2,zJ,zN,zL,stn,hb0',hb8,hb62,c1,c2,cp,l2,i0,i1,k0',h3,h6,h8,h9,hl,zF,zD (Za _)]
   first|exact⟨_,rfl⟩|exact absurd (k0.symm.trans c0) (by decide)
  ·rcases ch with c1|c1|c1
   ·simp -dsimp -implicitDefEqProofs only[go_sem,seval,Tm.av,Cz.av,h1,h2,zJ,zN,zL,stn,hb0',hb8,hb62,c1,k0',h3,h6,h8,h9,hl,zF,zD (Za _)]
    first|exact⟨_,rfl⟩|exact absurd (k0.symm.trans c0) (by decide)
   ·by_cases c0:h.kind=3
    ·simp -dsimp -implicitDefEqProofs only[go_sem,seval,Tm.av,Cz.av,h1,h2,zJ,zN,zL,stn,hb0',hb8,hb62,c0,c1,k0',h3,h6,h8,h9,hl,zF,zD (Za _)]
     first|exact⟨_,rfl⟩|exact absurd (k0.symm.trans c0) (by decide)
    ·simp -dsimp -implicitDefEqProofs only[go_sem,seval,Tm.av,Cz.av,h1,h2,zJ,zN,zL,stn,hb0',hb8,hb62,c0,k0',h3,h6,h8,h9,hl,zF,zD (Za _)]
     first|exact⟨_,rfl⟩|exact absurd (k0.symm.trans c0) (by decide)
   ·by_cases c0:h.kind=3
    ·by_cases c2:h.name=[58,45]
     ·simp -dsimp -implicitDefEqProofs only[go_sem,seval,Tm.av,Cz.av,h1,h2,zJ,zN,zL,stn,hb0',hb8,hb62,c0,c1,c2,Tm.pvs_len,k0',h3,h6,h8,h9,hl,zF,zD (Za _)]
      first|exact⟨_,rfl⟩|exact absurd (k0.symm.trans c0) (by decide)
     ·simp -dsimp -implicitDefEqProofs only[go_sem,seval,Tm.av,Cz.av,h1,h2,zJ,zN,zL,stn,hb0',hb8,hb62,c0,c2,k0',h3,h6,h8,h9,hl,zF,zD (Za _)]
      first|exact⟨_,rfl⟩|exact absurd (k0.symm.trans c0) (by decide)
    ·simp -dsimp -implicitDefEqProofs only[go_sem,seval,Tm.av,Cz.av,h1,h2,zJ,zN,zL,stn,hb0',hb8,hb62,c0,k0',h3,h6,h8,h9,hl,zF,zD (Za _)]
     first|exact⟨_,rfl⟩|exact absurd (k0.symm.trans c0) (by decide)
theorem oB{h g:Tm}(hv:h.valid=true)(hk:¬h.kind=0):(Cz.mk h g).can.head.name.length<=100/\(Cz.mk h g).can.head.args.length<=8:=by
 grind [JL,Cz.can,Tm.zAR,Tm.name,Tm.args]
theorem vC(c:Cz):PV.part deep c.pv 2 none=some (.str c.head.name):=by
 obtain⟨⟨_,_,_,_⟩,_⟩:=c;rfl
theorem vD(c:Cz):PV.part deep c.pv 3 none=some (.sl (some 4) (Tm.pvs c.head.args)):=by
 obtain⟨⟨_,_,_,_⟩,_⟩:=c;rfl
theorem oC(d:Dbs)(c:Cz)(fr dy:Bool):(addR d c fr dy).2=0\/(addR d c fr dy).2=1\/(addR d c fr dy).2=13:=by
 grind [addR]
def asaN:List UInt8:=[97,115,115,101,114,116,97]
def asrQ(d:Dbs)(g:Tm)(c:Cz)(e:Int)(hp:Heap)(r:Nat)(v:ARes)(hp':Heap):Prop:=
 (∃b:Tm,b.valid=true/\b.kind=3/\v=.panic (XM b)/\hp'=hp)\/
 (∃k:Int,k≠0/\k≠8/\v=.panic (Qg k)/\hp'=hp)\/
 (e=0/\xh d c.head.name c.head.args.length=false/\(addR d c (decide (g.name=asaN)) true).2=0/\v=.ret (.tuple [])/\hp'=hp.set r (.box (some 7) (cB (addR d c (decide (g.name=asaN)) true).1 g (.tsl (some 4) [g.pv]))))
theorem oD(d:Dbs)(hv:okD d=true)(g t:Tm)(hgv:g.valid=true)(hga:g.args=[t])(c:Cz)(b:Tm)(e:Int)(h1:∀hp,S 14 [t.av] hp=some (.ret (.tuple [c.av,b.av,P4 e]),hp))(hP:BalP b e)(z1:c.head.size<100000000)(z2:c.body.size<100000000)(hcn:e=0->∃h g:Tm,h.valid=true/\¬h.kind=0/\c=(Cz.mk h g).can)
  (hp:Heap)(r q:Nat)(hr:hp[r]? =some (.box (some 7) (cB d g (slA q 0)))):
  ∃v hp',S 78 [.ptr r 0] hp=some (v,hp')/\asrQ d g c e hp r v hp':=by
 refine XJ (asrQ d g c e hp r) rfl rfl rfl rfl ?_;have hlr:=YZ hr;have hr':∀X,(hp++X)[r]? =some (.box (some 7) (cB d g (slA q 0))):=fun X=>by grind
 have e3:Tm.pvs g.args=[t.pv]:=by rw[hga];rfl
 have i0:∀s kk,zX (some 4) [.pv s (.sl (some 4) [t.pv]),.pv none (.int kk 0)]=some (.iptr (some 4) t.pv 0):=fun _ _=>rfl;have hpan:∀A:Prop,panK true A=A:=fun _=>rfl;simp only[Tm.av,Cz.av] at h1;rcases hP with⟨rfl,hbv,hbk⟩|⟨rfl,rfl⟩|⟨rfl,rfl⟩
 ·have h2:=fun hp=>xE b hp;simp only[Tm.av] at h2;simp -dsimp -implicitDefEqProofs only[go_sem,seval,z6,hr,hr',YK,Xt,e3,h1,h2,hpan,i0,Yg,zF,zD (Zd _ _)];exact .inl ⟨b,hbv,hbk,rfl,zq⟩
 ·have h2:=fun hp=>j8 2 (by decide) hp;simp -dsimp -implicitDefEqProofs only[go_sem,seval,z6,hr,hr',YK,Xt,e3,h1,h2,hpan,i0,Yg,zF,zD (Zd _ _)];exact .inr (.inl ⟨2,by decide,by decide,rfl,zq⟩)
 obtain⟨h,gb,hhv,hhk,hc⟩:=hcn rfl;have hnl:=oB (g:=gb) hhv hhk;rw[<-hc] at hnl;have h2:=fun hp=>Bh hp;have h3:=fun hp=>V2 c.head.name c.head.args.length hnl.1 (by omega) (by omega) hp;have hbd:=Xi hv;obtain⟨ti,hti⟩:∃ti,ti=indT c.head.name c.head.args.length:=⟨_,rfl⟩;have htv:ti.valid=true:=by grind [j6]
 rw[<-hti] at h3;cases hst:xh d c.head.name c.head.args.length with
 |true=>
  have h4:=fun X=>Ka d hbd g (slA q 0) c.head.name c.head.args.length ti htv hst (hp++X) r (hr' X);simp only[Tm.av] at h3 h4;simp -dsimp -implicitDefEqProofs only[go_sem,seval,z6,hr,hr',YK,Xt,e3,h1,h2,h3,h4,hpan,i0,vC,vD,Tm.pvs_len,Yg,zF,zD (Zd _ _)];exact .inl ⟨perT moN stN ti,(Jw (by decide) (by decide) (by decide) htv).2,rfl,rfl,zq⟩
 |false=>
  have h4:=fun X=>j9 d hbd g (slA q 0) c.head.name c.head.args.length ti hst (hp++X) r (hr' X);obtain⟨fr,hfr⟩:∃fr,fr=decide (g.name=asaN):=⟨_,rfl⟩;have h5:=fun hp=>oq d hbd c z1 z2 fr true hp;have hnil:∀H:Heap,zR A3 H=(A3,H):=fun _=>rfl;have hfr':decide (g.name=[97,115,115,101,114,116,97])=fr:=hfr.symm;obtain⟨dn,hdn⟩:∃dn,dn=(addR d c fr true).1:=⟨_,rfl⟩;obtain⟨en,hen⟩:∃en,en=(addR d c fr true).2:=⟨_,rfl⟩;have her:=oC d c fr true;rw[<-hen] at her;rw[<-hdn,<-hen] at h5;simp only[Tm.av,Dbs.av,Cz.av] at h3 h4 h5;by_cases he:en=0
  ·have hst2:∀X:Heap,zH (some 2) hp.length (hp++X) [.ptr r 0,.pv (some 2) dn.pv]=some (.undef,hp.set r (.box (some 7) (cB dn g (slA q 0)))++X):=fun X=>by
    grind [Kb]
   obtain⟨K,hK⟩:∃K,K=hp.set r (.box (some 7) (cB dn g (slA q 0))):=⟨_,rfl⟩;have hKl:hp.length=K.length:=by grind
   have hKr:∀X,(K++X)[r]? =some (.box (some 7) (cB dn g (slA q 0))):=fun X=>by grind
   have h6:∀X,S 112 [.ptr r 0] (K++X)=some (.ret (.tuple []),hp.set r (.box (some 7) (cB dn g (.tsl (some 4) [g.pv])))++X):=fun X=>by
    grind [Jz,List.set_set]
   rw[<-hK] at hst2;rw[he] at h5;simp -dsimp -implicitDefEqProofs only[go_sem,seval,z6,hr,hr',YK,Xt,V1,yF,e3,h1,h2,h3,h4,h5,h6,hst2,hfr',hnil,hpan,i0,vC,vD,Tm.pvs_len,Yg,zF,zD (Zd _ _)];refine .inr (.inr ⟨rfl,hst,by grind,rfl,?_⟩);rw[<-hfr,<-hdn];exact ZF (by simp)
  ·have h7:=fun hp=>j8 en he hp;simp -dsimp -implicitDefEqProofs only[go_sem,seval,z6,hr,hr',YK,Xt,V1,yF,e3,h1,h2,h3,h4,h5,h7,hfr',hnil,hpan,i0,vC,vD,Tm.pvs_len,Yg,zF,zD (Zd _ _)];exact .inr (.inl ⟨en,he,by omega,rfl,zq⟩)
theorem oE{d:Dbs}(hv:okD d=true){p:Prc}(hp:p∈d.procs):∀s∈p.cls,okS d.next p s:=((yw d).1 hv).2.2.2.2.2.2.2 p hp
theorem B3{d:Dbs}(hv:okD d=true){p:Prc}(hp:p∈d.procs):p.name.length<=100/\0<=p.ar/\p.ar<=8:=by
 have h:=((yw d).1 hv).2.2.2.2.1 p hp
 grind [namB]
theorem B4(a b:Tm)(ha:a.size<1000000000)(hb:b.size<1000000000):W Z L 0 (g13).code ⟨params 0 (pvs [(some 4,a.pv),(some 4,b.pv)]),[]⟩ (endK (g13).results (Am.frozen (P5 (same a b)))):=by
 have h1:=fun hp=>VA a b hp ha hb;simp only[Tm.av] at h1;simp -dsimp -implicitDefEqProofs only[go_sem,seval,h1]
theorem oF(a b:Tm)(hp:Heap)(ha:a.size<1000000000)(hb:b.size<1000000000):S 13 [a.av,b.av] hp=some (.ret (P5 (same a b)),hp):=
 zM rfl rfl rfl (zK [(some 4,a.pv),(some 4,b.pv)]) rfl (B4 a b ha hb)
def zV:AV:=.agg A0
theorem oH(a:Tm)(hp:Heap)(ha:a.size<1000000000):S 13 [a.av,zV] hp=some (.ret (P5 (same a zt)),hp):=
 zM (ps:=[(some 4,a.pv),(some 4,zt.pv)]) rfl rfl rfl rfl rfl (B4 a zt ha (by decide))
theorem oI:same zt zt=true:=by decide
theorem oJ{H:Heap}{q:Nat}{z:Bool}(h:H[q]? =some (.arr (some 4) [] z)):AV.freeze deep (zg q) H=some (zt.pv,H.set q (.arr (some 4) [] true)):=by
 have e:=P1
 show AV.freeze (7+1) (.agg _) _=_;simp[e,AV.freeze.go,AV.freeze,h];rfl
theorem oK(d:Dbs)(hbd:BndD d)(g:Tm)(hz:g.size<1000000000)(h:okD d=false\/(okD d=true/\g.valid=false)\/(okD d=true/\g.valid=true/\same g (canR g)=false))(hp:Heap)(hb:Bq hp):
  S 11 [d.av,g.av] hp=some (.ret (.tuple [Yb,.sl (some 4) (hp.length+6) 0 0 0,zg (hp.length+7),P4 1]),hp++[.box (some 2) (.pv (some 2) d.pv),.box (some 4) (.pv (some 4) g.pv),.box (some 2) Yb,.arr (some 4) [] false,.box (some 4) (zg (hp.length+7)),.arr (some 4) [] false,.arr (some 4) [] false,.arr (some 4) [] false]):=by
 have h1:=fun hp=>Y2 d hbd.1 hbd.2.1 hbd.2.2 hp;have h2:=fun hp=>YR g hp hz;have hz0:=P0;have hz1:zQ A1 [] []=some Yb:=rfl;have hnil:∀H:Heap,zR A3 H=(A3,H):=fun _=>rfl;have hn0:=P3;simp only[Tm.av,Dbs.av] at h1 h2;refine Yj rfl rfl rfl rfl ?_;rcases h with e|⟨e,e'⟩|⟨e,e',e''⟩
 ·rw[e] at h1;simp -dsimp -implicitDefEqProofs only[go_sem,seval,Tm.av,Dbs.av,Yb,h1,hz0,hz1,hnil,hn0,zF,zD (Zd _ _)];simp[Yn,Fr.look,aload,Xf,YJ,xx,Yb,zg,AV.shp,total,Sh.size,tupO,XG,valK,AV.refsIn,AV.refsIn.gol,AV.refsIn.go]
 ·rw[e] at h1;rw[e'] at h2;simp -dsimp -implicitDefEqProofs only[go_sem,seval,Tm.av,Dbs.av,Yb,h1,h2,hz0,hz1,hnil,hn0,zF,zD (Zd _ _)];simp[Yn,Fr.look,aload,Xf,YJ,xx,Yb,zg,AV.shp,total,Sh.size,tupO,XG,valK,AV.refsIn,AV.refsIn.gol,AV.refsIn.go]
 ·rw[e] at h1;rw[e'] at h2;have hcz:(canR g).size<1000000000:=by
   grind [canR,OB]
  have h3:=fun hp=>JK g hp hz;have h4:=fun hp=>Qa g (canR g) hp hz hcz;rw[e''] at h4;have hzg:=fun q=>QX (some 4) q;simp only[Tm.av,zg] at h3 h4 hzg;simp -dsimp -implicitDefEqProofs only[go_sem,seval,Tm.av,Dbs.av,Yb,h1,h2,h3,h4,hz0,hz1,hnil,hn0,ZE,ZX,ZR,ZS,JM,zF,zD (Zd _ _)];simp[Yn,Fr.look,aload,Xf,YJ,xx,Yb,zg,AV.shp,total,Sh.size,tupO,XG,valK,AV.refsIn,AV.refsIn.gol,AV.refsIn.go]
def CErr(d:Dbs)(g:Tm)(H:Heap):Prop:=∃(X:Heap) (a:Nat) (bv:AV) (e:Int),S 11 [d.av,g.av] H=some (.ret (.tuple [Yb,.sl (some 4) a 0 0 0,bv,P4 e]),H++X)/\e≠0/\((e=8/\∃b:Tm,bv=b.av/\b.valid=true/\b.kind=3)\/(e≠8/\∃q,bv=zg (H.length+q)/\X[q]? =some (.arr (some 4) [] false)))
theorem vE{d:Dbs}(hbd:BndD d){g:Tm}(hz:g.size<1000000000)(h:okD d=false\/(okD d=true/\g.valid=false)\/(okD d=true/\g.valid=true/\same g (canR g)=false)){hp:Heap}(hb:Bq hp):CErr d g hp:=
 ⟨_,_,_,_,oK d hbd g hz h hp hb,by decide,.inr ⟨by decide,7,rfl,rfl⟩⟩
structure OKS(d:Dbs)(g:Tm)(m:Dbs)(ts:List Tm):Prop where
 v:okD m=true
 n:d.next<=m.next
 q:m=d\/(ts≠[]/\∀s∈[[99,108,97,117,115,101],[36,99,108,97,117,115,101],[99,117,114,114,101,110,116,95,112,114,101,100,105,99,97,116,101]],g.name≠s)
 l:ts.length<1000
 a:∀t∈ts,t.valid=true/\t.name=g.name/\t.args.length=g.args.length
def OutQ(d:Dbs)(g:Tm)(hp:Heap)(r:Nat)(v:ARes)(hp':Heap):Prop:=
 (∃b,BalT b/\v=.panic (XM b)/\hp'=hp)\/
 (∃e o7 o8,e≠0/\e≠8/\v=.panic (Qg e)/\hp'=(hp.set r o7).set (r+1) o8)\/
 (v=.ret (.tuple [])/\∃m ts sv o8,OKS d g m ts/\hp'=(hp.set r (.box (some 7) (cB m g sv))).set (r+1) (.arr (some 4) o8 false)/\((ts=[g]/\sv=.tsl (some 4) [g.pv])\/∃tl,o8=Tm.pvs ts++tl/\sv=slT (r+1) ts.length tl.length))
def B5(d:Dbs)(g:Tm)(H:Heap):Prop:=CErr d g H\/∃m ts X,OKS d g m ts/\S 11 [d.av,g.av] H=some (.ret (.tuple [m.av,.sl (some 4) (H.length+3) ts.length 0 ts.length,zg (H.length+13),P4 0]),H++X)/\X[3]? =some (.arr (some 4) (Tm.pvs ts) false)/\X[13]? =some (.arr (some 4) [] false)
theorem oL(d:Dbs)(g:Tm)(n:Nat):Bq (y9 d g n):=by
 refine Bq.cons (QW d) (Bq.cons (yG g) (Bq.cons qt (Bq.cons rfl (Bq.cons (QX _ _) (Bq.cons rfl (Bq.cons ?_ (Bq.cons (Bj d g _ _) (Bq.cons rfl Bq.nil))))))))
 decide
theorem oM(n:Nat):Bq (x3 n):=Bq.cons (QX _ _) (Bq.cons rfl (Bq.cons (nn _ _ _ _) Bq.nil))
theorem qu(d:Dbs)(hv:okD d=true)(g:Tm)(f:FuncId)(hg:GK g f)(hf:∀hp r,Bq hp->hp[r]? =some (.box (some 7) (cB d g (slA (r+1) 0)))->hp[r+1]? =some (.arr (some 4) [] false)->∃v hp',S f [.ptr r 0] hp=some (v,hp')/\OutQ d g hp r v hp')(hp:Heap)(hb:Bq hp):B5 d g hp:=by
 obtain⟨v,hp',hS,hQ⟩:=hf (hp++y9 d g hp.length++x3 (hp++y9 d g hp.length).length) (hp.length+7) ((hb.app (oL d g _)).app (oM _)) (y9_r ..) (y9_q ..);have h9:(hp++y9 d g hp.length).length=hp.length+9:=by rw[zi];rfl
 have e1:∀o7 o8,((hp++y9 d g hp.length++x3 (hp++y9 d g hp.length).length).set (hp.length+7) o7).set (hp.length+8) o8=hp++[.box (some 2) (.pv (some 2) d.pv),.box (some 4) (.pv (some 4) g.pv),.box (some 2) Yb,.arr (some 4) [] false,.box (some 4) (zg (hp.length+5)),.arr (some 4) [] false,.map none (YA 8 prS prN prF),o7,o8]++x3 (hp++y9 d g hp.length).length:=fun o7 o8=>by
  simp_all[y9]
 rcases hQ with⟨b,hbb,rfl,rfl⟩|⟨e,o7,o8,he0,he8,rfl,rfl⟩|⟨rfl,m,ts,sv,o8,hm,rfl,hs⟩
 ·obtain⟨X,hX,-,-⟩:=O3 d hv g _ hg hp hb _ (O1 _ (hp++y9 d g hp.length) _ _ hS);exact .inl ⟨X,_,_,8,hX,by decide,.inl ⟨rfl,b,rfl,hbb⟩⟩
 ·rw[e1] at hS;have hr:=O2 _ (hp++y9 d g hp.length) _ (hp.length+7) (by simp_all) e hS;rw[h9,Zo] at hr;obtain⟨X,hX,-,hX10⟩:=O4 d hv g _ hg hp hb e he0 _ _ hr;exact .inl ⟨X,_,_,e,hX,he0,.inr ⟨he8,10,rfl,hX10⟩⟩
 ·rw[e1] at hS;have hr:=O0 _ (hp++y9 d g hp.length) _ (hp.length+7) (by simp_all) hS;rw[h9,Zo] at hr;have hv':∀t∈ts,t.valid=true:=fun t ht=>(hm.a t ht).1;refine .inr ⟨m,ts,?_⟩;rw[exists_and_left];refine⟨hm,?_⟩;rcases hs with⟨rfl,rfl⟩|⟨tl,rfl,rfl⟩
  ·exact BZ d hv g _ hg hp hb m (.tsl (some 4) [g.pv]) [g] o8 hv' (by simp) (B1 hm.v) rfl rfl (fun i u hu=>by
    cases i with
    |zero=>
     cases hu;exact⟨_,fun kk=>rfl,fun x0 x1 x2 x3 x4 x5 x6 X=>rfl⟩
    |succ i=>grind) hr
  ·refine BZ d hv g _ hg hp hb m (slT (hp.length+8) ts.length tl.length) ts (Tm.pvs ts++tl) hv' hm.l (B1 hm.v) rfl (by simp[AV.refsIn]) (fun i u hu=> ?_) hr;have hlt:=(Zf.1 hu).1;refine⟨_,fun kk=>xZ hlt,fun x0 x1 x2 x3 x4 x5 x6 X=> ?_⟩;have e1:(hp++x0::x1::x2::x3::x4::x5::x6::.box (some 7) (cB m g (slT (hp.length+8) ts.length tl.length))::.arr (some 4) (Tm.pvs ts++tl) false::X)[hp.length+8]? =some (.arr (some 4) (Tm.pvs ts++tl) false):=by simp_all
   grind [Tm.pvs_len,Tm.pvs_get,aload]
theorem JN{d m:Dbs}{g:Tm}{hp:Heap}{r:Nat}(hv:g.valid=true)(h:okD m=true)(hn:d.next<=m.next)(hq:m=d\/∀s∈[[99,108,97,117,115,101],[36,99,108,97,117,115,101],[99,117,114,114,101,110,116,95,112,114,101,100,105,99,97,116,101]],g.name≠s)(h1:hp[r+1]? =some (.arr (some 4) [] false)):OutQ d g hp r (.ret (.tuple [])) (hp.set r (.box (some 7) (cB m g (.tsl (some 4) [g.pv])))):=
 .inr (.inr ⟨rfl,m,[g],_,[],⟨h,hn,hq.imp_right fun h=>⟨by simp,h⟩,by simp,fun t ht=>by grind⟩,(Qd (by grind)).symm,.inl ⟨rfl,rfl⟩⟩)
theorem Xx{d:Dbs}{g b:Tm}{hp:Heap}{r:Nat}(h:BalT b):OutQ d g hp r (.panic (XM b)) hp:=.inl ⟨b,h,rfl,rfl⟩
theorem B6{d:Dbs}{g:Tm}{hp:Heap}{r:Nat}{e:Int}(o:AObj)(h0:e≠0)(h8:e≠8)(h1:hp[r+1]? =some (.arr (some 4) [] false)):OutQ d g hp r (.panic (Qg e)) (hp.set r o):=
 .inr (.inl ⟨e,_,_,h0,h8,rfl,(Qd (by rw[zm (by omega),h1])).symm⟩)
theorem oN(d:Dbs)(hb:BndD d)(s:List UInt8)(a:Int)(h:okD d=false\/fnD d.procs (keyP s a)=false)(hp:Heap):S 114 [d.av,P6 s,P4 a] hp=some (.ret (.tuple [Y7.av,P5 false]),hp):=by
 refine zM rfl rfl rfl (zK [(some 2,d.pv),(none,.str s),(none,.int .i64 a)]) rfl ?_;have h1:=fun hp=>Y2 d hb.1 hb.2.1 hb.2.2 hp;have hz0:=P2;have hnil:∀H:Heap,zR A3 H=(A3,H):=fun _=>rfl;simp only[Dbs.av] at h1;cases hv:okD d with
 |false=>
  rw[hv] at h1;simp -dsimp -implicitDefEqProofs only[go_sem,seval,Dbs.av,h1,hz0,hnil,zD (Za _)];exact⟨_,rfl⟩
 |true=>
  have hf:fnD d.procs (keyP s a)=false:=by
   grind
  have h3:∀hp,S 56 [d.av,P6 s,P4 a] hp=some (.ret (.tuple [P4 (lbD d.procs (keyP s a):Int),P5 (fnD d.procs (keyP s a))]),hp):=fun hp=>XK d s a hb.1 (XL hv) hp;simp only[Dbs.av] at h3;rw[hv] at h1;rw[hf] at h3;simp -dsimp -implicitDefEqProofs only[go_sem,seval,Dbs.av,h1,h3,hz0,hnil,zD (Za _)];exact⟨_,rfl⟩
theorem oO{Γ:Oracle}{b:Nat}{vs:List AV}{hp:Heap}{K:AV->Heap->Prop}{Kp:PV->Heap->Prop}[Tag K][Tag Kp](sh:Sh):opK (aOp Γ b (.appendv sh) vs hp) K Kp=YD (yx sh b hp vs) K:=by
 show opK (match(yx sh b hp vs) with|some (v,hp')=>some (OpRes.val v hp')|none=>none) K Kp=_;cases (yx sh b hp vs) with
 |none=>rfl
 |some r=>cases r;rfl
theorem oQ(es:List AV)(k q:Nat)(h:q∈AV.refsIn.gol (es.drop k)):q∈AV.refsIn.gol es:=by
 induction es generalizing k with
 |nil=>grind
 |cons e r ih=>
  cases k with
  |zero=>exact h
  |succ k=>exact List.mem_append_right _ (ih k h)
theorem oR(es:List AV)(i:Nat)(n:Nat)(hi:i<n)(he:es.length=n)(hn:n<=500)(x0 x1 x2 x3:AObj)(X:Heap):S 136 [.slv (some 4) 4 n 0 n,P4 (i:Int),P4 ((i:Int)+1)] (x0::x1::x2::x3::.arv (some 4) es::X)=some (.ret (.slv (some 4) 4 n 0 (n - 1)),x0::x1::x2::x3::.arv (some 4) (es.take i++es.drop (i+1)++[.pv (some 4) (.agg [(none,.str []),(none,.int .i64 0),(none,.bool false),(none,.sl (some 9) [])])])::X):=by
 refine Yj rfl rfl rfl rfl ?_;have h0:((i:Int)=(i:Int)+1)=False:=by grind
 have hL:∀m:Nat,sLen [.slv (some 4) 4 n 0 m]=some (P4 (m:Int)):=fun m=>rfl;have h3:y7 (some 4) true [.slv (some 4) 4 n 0 n,P4 (i:Int),P4 ((i:Int)+1),P4 (n:Int)]=some .undef:=by
  grind [y7]
 have s1:YE (some 4) false true [.slv (some 4) 4 n 0 n,P4 (i:Int)]=some (.slv (some 4) 4 n 0 i):=by
  grind [YE,aslice]
 have s2:YE (some 4) true false [.slv (some 4) 4 n 0 n,P4 ((i:Int)+1)]=some (.slv (some 4) 4 n (i+1) (n - (i+1))):=by
  grind [YE,aslice]
 have s3:YE (some 4) true true [.slv (some 4) 4 n 0 (n - 1),P4 ((n - 1:Nat):Int),P4 (n:Int)]=some (.slv (some 4) 4 n (n - 1) 1):=by
  grind [YE,aslice]
 have hel:elemsv (x0::x1::x2::x3::.arv (some 4) es::X) (.slv (some 4) 4 n (i+1) (n - (i+1)))=some (some 4,es.drop (i+1)):=by
  simp[elemsv,he]
  grind [Zl]
 have hro:∀b,Xz b 4 es (es.drop (i+1))=true:=fun b=>by
  grind [Xz,oQ]
 have hap:∀b,yx (some 4) b (x0::x1::x2::x3::.arv (some 4) es::X) [.slv (some 4) 4 n 0 i,.slv (some 4) 4 n (i+1) (n - (i+1))]=some (.slv (some 4) 4 n 0 (n - 1),x0::x1::x2::x3::.arv (some 4) (es.take i++es.drop (i+1)++es.drop (n - 1))::X):=fun b=>by
  have e1:i+(n - (i+1))=n - 1:=by omega
  have e2:n - 1<=n:=by omega
  have e3:n - 1<=lim:=by grind [lim]
  have e4:i≠n:=by omega
  simp[yx,aappendv,hel,hro,he,e1,e2,e3,e4]
  decide
 have hcl:XQ (some 4) (.agg [(none,.str []),(none,.int .i64 0),(none,.bool false),(none,.sl (some 9) [])]) (x0::x1::x2::x3::.arv (some 4) (es.take i++es.drop (i+1)++es.drop (n - 1))::X) [.slv (some 4) 4 n (n - 1) 1]=some (.undef,x0::x1::x2::x3::.arv (some 4) (es.take i++es.drop (i+1)++[.pv (some 4) (.agg [(none,.str []),(none,.int .i64 0),(none,.bool false),(none,.sl (some 9) [])])])::X):=by
  have l1:(es.take i++es.drop (i+1)).length=n - 1:=by grind
  have l2:(es.take i++es.drop (i+1)++es.drop (n - 1)).length=n:=by grind
  have l3:(es.take i++es.drop (i+1)++es.drop (n - 1)).take (n - 1)=es.take i++es.drop (i+1):=by grind
  have l4:n - 1+1=n:=by omega
  simp_all[XQ]
 simp only[Zo] at hap hcl;simp -dsimp -implicitDefEqProofs only[go_sem,seval,h0,hL,h3,s1,s2,s3,oO,hap,hcl]
 grind
theorem oS(d:Dbs)(hb:BndD d)(s:List UInt8)(a:Int)(hv:okD d=true)(hf:fnD d.procs (keyP s a)=true)(i:Nat)(hi:i=lbD d.procs (keyP s a))(hil:i<d.procs.length)(hp:Heap):S 114 [d.av,P6 s,P4 a] hp=some (.ret (.tuple [(⟨d.next,d.procs.take i++d.procs.drop (i+1)⟩:Dbs).av,P5 true]),hp):=by
 refine zM rfl rfl rfl (zK [(some 2,d.pv),(none,.str s),(none,.int .i64 a)]) rfl ?_;have h1:=fun hp=>Y2 d hb.1 hb.2.1 hb.2.2 hp;have h3:∀hp,S 56 [d.av,P6 s,P4 a] hp=some (.ret (.tuple [P4 (lbD d.procs (keyP s a):Int),P5 (fnD d.procs (keyP s a))]),hp):=fun hp=>XK d s a hb.1 (XL hv) hp;have hl5:d.procs.length<=500/\totD d.procs<=500:=by
  grind [okD]
 have h4:∀x0:AObj,∀x1:AObj,S 62 [d.av] [x0,x1]=some (.ret (dA d 4),x0::x1::.box (some 2) (dA d 4)::.box (some 2) (dA d 4)::.arv (some 4) (elsA d.procs 10 d.procs.length)::cEs d.procs 10):=fun x0 x1=>qn d (by omega) (fun q hq=>⟨by have:=y5 hq;omega,xc hv q hq⟩) [x0,x1];have hnil:∀H:Heap,zR A3 H=(A3,H):=fun _=>rfl;have hst:∀(x0:AObj) (v:AV) (X:Heap),zH (some 2) 0 (x0::.box (some 2) v::X) [.ptr 1 0,dA d 4]=some (.undef,x0::.box (some 2) (dA d 4)::X):=fun x0 v X=>by
  simp[zH,astore,dA,AV.plain,AV.shp,AV.own,zR,YI,total,Sh.size]
 simp only[Dbs.av] at h1 h3 h4;rw[hv] at h1;rw[hf,<-hi] at h3;have hpt:AV.part deep (dA d 4) 1 none=some (.slv (some 4) 4 d.procs.length 0 d.procs.length):=rfl;have hw:IntKind.i64.wrap ((i:Int)+1)=(i:Int)+1:=by
  grind [zU]
 have h5:=fun x0 x1 x2 x3 X=>oR (elsA d.procs 10 d.procs.length) i d.procs.length hil (YT _ _ _) (by omega) x0 x1 x2 x3 X;obtain⟨dN,hdN⟩:∃dN:AV,dN=.agg [(none,P4 d.next),(none,.slv (some 4) 4 d.procs.length 0 (d.procs.length - 1))]:=⟨_,rfl⟩;have hsf:∀(x0:AObj) (X:Heap),zH none 0 (x0::.box (some 2) (dA d 4)::X) [.ptr 1 1,.slv (some 4) 4 d.procs.length 0 (d.procs.length - 1)]=some (.undef,x0::.box (some 2) dN::X):=fun x0 X=>by
  have e:AV.upd deep (dA d 4) 1 none (.slv (some 4) 4 d.procs.length 0 (d.procs.length - 1))=some dN:=by rw[hdN];rfl
  simp[zH,astore,e,AV.plain,AV.shp,AV.own]
 have hs2:∀(x0:AObj) (X:Heap),zH (some 2) 0 (x0::.box (some 2) dN::X) [.ptr 1 0,dN]=some (.undef,x0::.box (some 2) dN::X):=fun x0 X=>by
  rw[hdN];simp[zH,astore,AV.plain,AV.shp,AV.own,zR,YI,total,Sh.size]
 have hr:∀(x0:AObj) (X:Heap),Yn ⟨[(6,.ptr 1 0),(7,P5 true)],x0::.box (some 2) dN::X⟩ (6,some (some 2))=some dN:=fun x0 X=>by
  simp[Yn,Fr.look,aload]
 have hlp:(d.procs.take i).length=i:=by grind
 have hle:((elsA d.procs 10 d.procs.length).take i).length=i:=by grind [YT]
 have hpl:(d.procs.take i++d.procs.drop (i+1)).length=d.procs.length - 1:=by grind
 have fin:∀(x0 x1 x2 x3:AObj),DbA ⟨d.next,d.procs.take i++d.procs.drop (i+1)⟩ dN (x0::x1::x2::x3::.arv (some 4) ((elsA d.procs 10 d.procs.length).take i++((elsA d.procs 10 d.procs.length).drop (i+1)++[.pv (some 4) (.agg [(none,.str []),(none,.int .i64 0),(none,.bool false),(none,.sl (some 9) [])])]))::cEs d.procs 10):=fun x0 x1 x2 x3=>by
  refine⟨4,d.procs.length,_,d.procs.take i++(d.procs.drop (i+1)++[⟨[],0,false,[]⟩]),?_,rfl,by grind [YT],by grind,by grind,?_,fun j q v hq hv2=> ?_⟩
  ·grind
  ·grind
  ·have hE:∀(k:Nat) (x:Prc),d.procs[k]? =some x->ElP x (pA x (10+6*k)) (x0::x1::x2::x3::AObj.arv (some 4) ((elsA d.procs 10 d.procs.length).take i++((elsA d.procs 10 d.procs.length).drop (i+1)++[.pv (some 4) (.agg [(none,.str []),(none,.int .i64 0),(none,.bool false),(none,.sl (some 9) [])])]))::cEs d.procs 10):=fun k x hx=>by
    refine .inr ⟨_,rfl,.inr ⟨10+6*k,x.cls.length,Sto.pvs x.cls,false,rfl,?_,Sto.pvs_len _,Zc _,Zl (by grind [Sto.pvs_len])⟩⟩
    grind [xz]
   by_cases k:j<i
   ·rw[ZZ (by omega),ZT,Zj k] at hq hv2;rw[Xs hq] at hv2
    grind
   ·rw[ZD (by omega),hlp] at hq;rw[ZD (by omega),hle] at hv2;by_cases k2:j - i<d.procs.length - (i+1)
    ·rw[ZZ (by grind),ZQ] at hq;rw[ZZ (by grind [YT]),ZQ] at hv2;rw[Xs hq] at hv2
     grind
    ·rw[ZD (by grind)] at hq;rw[ZD (by grind [YT])] at hv2;have hz:=Zh hq;have hz2:=Zh hv2;rw[List.mem_singleton] at hz hz2;subst hz;subst hz2;exact .inl rfl
 have hfr:∀(d':Dbs) (H:Heap),DbA d' dN H->Am.frozen (.tuple [d'.av,P5 true]) (.tuple [dN,P5 true]) H:=fun d' H hD=>by
  obtain⟨H',hz⟩:=hD.frz;have e3:∀X,AV.freeze deep (P5 true) X=some (.bool true,X):=fun _=>rfl;have hsh:dN.shp=some 2:=by rw[hdN];rfl
  refine⟨H',?_⟩;simp only[AV.freezeRes,zZ,hz,e3,hsh];rfl
 simp -dsimp -implicitDefEqProofs only[go_sem,seval,Dbs.av,YC,Prc.pvs_len,h1,h3,h4,hst,hnil,hpt,h5,hw,hsf,hs2,hr]
 grind [X6,Dbs.av]
def aboR(d:Dbs)(s:List UInt8)(a:Int):Dbs × Bool:=
 if okD d=false\/fnD d.procs (keyP s a)=false then(Y7,false)
 else(⟨d.next,d.procs.take (lbD d.procs (keyP s a))++d.procs.drop (lbD d.procs (keyP s a)+1)⟩,true)
theorem oT(d:Dbs)(hb:BndD d)(s:List UInt8)(a:Int)(hp:Heap):S 114 [d.av,P6 s,P4 a] hp=some (.ret (.tuple [(aboR d s a).1.av,.pv none (.bool (aboR d s a).2)]),hp):=by
 by_cases h:okD d=false\/fnD d.procs (keyP s a)=false
 ·grind [oN,aboR]
 ·have hv:okD d=true:=by grind
  have hf:fnD d.procs (keyP s a)=true:=by grind
  grind [Ju,oS,aboR]
theorem oU{d:Dbs}{s:List UInt8}{a:Int}(h:(aboR d s a).2=true):okD (aboR d s a).1=true/\(aboR d s a).1.next=d.next:=by
 by_cases hbad:okD d=false\/fnD d.procs (keyP s a)=false
 ·grind [aboR]
 have hv:okD d=true:=by grind
 have hf:fnD d.procs (keyP s a)=true:=by grind
 obtain⟨d1,d2,d3,d4,d5⟩:=(yw d).1 hv;obtain⟨p,hpp,rfl,rfl,hfd⟩:=VP hv hf;have e:aboR d p.name p.ar=(⟨d.next,d.procs.take (lbD d.procs (keyP p.name p.ar))++d.procs.drop (lbD d.procs (keyP p.name p.ar)+1)⟩,true):=by grind [aboR]
 rw[e];have d5':=d5;rw[xA hpp] at d5';obtain⟨g1,g2,g3,g4,g5,g6,g7⟩:=(QR ..).1 d5';have ht:totD d.procs=totD (d.procs.take (lbD d.procs (keyP p.name p.ar))++p::d.procs.drop (lbD d.procs (keyP p.name p.ar)+1)):=by grind [xA]
 rw[qo,qp] at ht;have ht2:totD (d.procs.take (lbD d.procs (keyP p.name p.ar))++d.procs.drop (lbD d.procs (keyP p.name p.ar)+1))+p.cls.length=totD d.procs:=by grind [qo]
 grind [yw]
theorem vF{t:Tm}(h:t.valid=true):BalT (perT moN stN t):=⟨(Jw (by decide) (by decide) (by decide) h).2,rfl⟩
theorem oV(d:Dbs)(hv:okD d=true)(g t:Tm)(hgv:g.valid=true)(hga:g.args=[t])(hgn:∀s∈[[99,108,97,117,115,101],[36,99,108,97,117,115,101],[99,117,114,114,101,110,116,95,112,114,101,100,105,99,97,116,101]],g.name≠s)(hp:Heap)(r:Nat)(hr:hp[r]? =some (.box (some 7) (cB d g (slA (r+1) 0))))(hq:hp[r+1]? =some (.arr (some 4) [] false)):
  ∃v hp',S 79 [.ptr r 0] hp=some (v,hp')/\OutQ d g hp r v hp':=by
 refine XJ (OutQ d g hp r) rfl rfl rfl rfl ?_;have hlr:=YZ hr;have hr':∀X,(hp++X)[r]? =some (.box (some 7) (cB d g (slA (r+1) 0))):=fun X=>by grind
 have hbd:=Xi hv;have e3:Tm.pvs g.args=[t.pv]:=by rw[hga];rfl
 have i0:∀s kk,zX (some 4) [.pv s (.sl (some 4) [t.pv]),.pv none (.int kk 0)]=some (.iptr (some 4) t.pv 0):=fun _ _=>rfl;have htv:t.valid=true:=YS hgv (by grind);have hnil:∀H:Heap,zR A3 H=(A3,H):=fun _=>rfl;have hpan:∀A:Prop,panK true A=A:=fun _=>rfl;rcases BR t htv with⟨b,hb,h1⟩|⟨nm,k,hn,h0,h8,h1⟩
 ·simp only[Tm.av] at h1;simp -dsimp -implicitDefEqProofs only[go_sem,seval,z6,hr,hr',YK,e3,i0,h1,hpan,Yg,zF,zD (Zd _ _)]
  grind [Xx]
 cases hst:xh d nm k with
 |true=>
  have h2:=fun X=>Ka d hbd g (slA (r+1) 0) nm k t htv hst (hp++X) r (hr' X);simp only[Tm.av] at h1 h2;simp -dsimp -implicitDefEqProofs only[go_sem,seval,z6,hr,hr',YK,e3,i0,h1,h2,hpan,Yg,zF,zD (Zd _ _)]
  grind [Xx,vF]
 |false=>
  have h2:=fun X=>j9 d hbd g (slA (r+1) 0) nm k t hst (hp++X) r (hr' X);have h3:=fun hp=>oT d hbd nm k hp;simp only[Tm.av,Dbs.av] at h1 h2 h3;cases he:(aboR d nm k).2 with
  |false=>
   have h4:∀X,S 112 [.ptr r 0] (hp++X)=some (.ret (.tuple []),hp.set r (.box (some 7) (cB d g (.tsl (some 4) [g.pv])))++X):=fun X=>by
    grind [Jz]
   rw[he] at h3;simp -dsimp -implicitDefEqProofs only[go_sem,seval,z6,hr,hr',YK,yF,e3,i0,h1,h2,h3,h4,hnil,zF,zD (Zd _ _),Ys,Ym]
   grind [JN]
  |true=>
   obtain⟨hv2,hnx⟩:=oU he;rw[he] at h3;have hst:∀X:Heap,zH (some 2) hp.length (hp++X) [.ptr r 0,.pv (some 2) (aboR d nm k).1.pv]=some (.undef,hp.set r (.box (some 7) (cB (aboR d nm k).1 g (slA (r+1) 0)))++X):=fun X=>by
    grind [Kb]
   obtain⟨K,hK⟩:∃K,K=hp.set r (.box (some 7) (cB (aboR d nm k).1 g (slA (r+1) 0))):=⟨_,rfl⟩;have hKl:hp.length=K.length:=by grind
   have hKr:∀X,(K++X)[r]? =some (.box (some 7) (cB (aboR d nm k).1 g (slA (r+1) 0))):=fun X=>by grind
   have h4:∀X,S 112 [.ptr r 0] (K++X)=some (.ret (.tuple []),hp.set r (.box (some 7) (cB (aboR d nm k).1 g (.tsl (some 4) [g.pv])))++X):=fun X=>by
    grind [Jz,List.set_set]
   rw[<-hK] at hst;have e:=JN (d:=d) (m:=(aboR d nm k).1) (g:=g) (hp:=hp) (r:=r) hgv hv2 (by omega) (.inr hgn) hq;simp -dsimp -implicitDefEqProofs only[go_sem,seval,z6,hr,hr',YK,yF,e3,i0,h1,h2,h3,hst,h4,hnil,zF,zD (Zd _ _),Ys,Ym]
   grind
theorem oW(d:Dbs)(hv:okD d=true)(g T:Tm)(hgv:g.valid=true)(hga:g.args=[T])(hgn:∀s∈[[99,108,97,117,115,101],[36,99,108,97,117,115,101],[99,117,114,114,101,110,116,95,112,114,101,100,105,99,97,116,101]],g.name≠s)(hp:Heap)(hb:Bq hp)(r:Nat)(hr:hp[r]? =some (.box (some 7) (cB d g (slA (r+1) 0))))(hq:hp[r+1]? =some (.arr (some 4) [] false)):
  ∃v hp',S 80 [.ptr r 0] hp=some (v,hp')/\OutQ d g hp r v hp':=by
 refine XJ (OutQ d g hp r) rfl rfl rfl rfl ?_;have hbd:=Xi hv;have hlt:=YZ hr;have hr':∀X,(hp++X)[r]? =some (.box (some 7) (cB d g (slA (r+1) 0))):=fun X=>by grind
 have ha:AV.part deep (cB d g (slA (r+1) 0)) 5 none=some (.pv none (.sl (some 4) (Tm.pvs [T]))):=by rw[YK,hga]
 have i0:zX (some 4) [.pv none (.sl (some 4) (Tm.pvs [T])),P4 0]=some (.iptr (some 4) T.pv 0):=ia0 rfl;have htv:T.valid=true:=YS hgv (by grind);obtain⟨v,hp',hi,k,E,ts,rfl,rfl,hE,hts,hn,ho⟩:=nu _ T rfl htv hp hb;have hz:=valid_size htv;have hkl:=YZ hE;obtain⟨lv,hlv⟩:∃lv:AV,lv=.sl (some 4) (hp.length+k) ts.length 0 ts.length:=⟨_,rfl⟩;have hsl:sLen [lv]=some (P4 ts.length):=by rw[hlv];rfl
 have hix:∀(i:Nat) (u:Tm) (H0 X:Heap),H0.length=hp.length->ts[i]? =some u->∃p,(∀k,zX (some 4) [lv,.pv none (.int k i)]=some p)/\aload (some 4) (H0++(E++X)) p=some (.pv (some 4) u.pv):=fun i u H0 X hn h=>by
  refine⟨_,fun kk=>by rw[hlv];exact xZ (Zf.1 h).1,?_⟩
  grind [aload,Tm.pvs_get,Tm.pvs_len]
 have hrefs:lv.refsIn.all (fun q=>decide (q<hp.length+E.length))=true:=by
  grind [AV.refsIn]
 have hEr:∀n,E.all (fun o=>o.refs.all (fun q=>decide (q<n)))=true:=fun n=>by
  grind
 rw[<-hlv] at hi;simp only[Tm.av] at hi;simp -dsimp -implicitDefEqProofs only[go_sem,seval,z6,hr,hr',ha,i0,hi,hsl];have hpan:∀A:Prop,panK true A=A:=fun _=>rfl;have hcol:∀(Z:Heap) (fr:Fr) (X:Heap),Z.length=hp.length->fr.all (fun x=>x.2.refsIn.all (fun q=>decide (q<hp.length+E.length)))=true->collect (hp.length+E.length) hp.length fr (Z++(E++X))=Z++E:=fun Z fr X hZ hf=>by
  grind [ym,zq]
 refine Yp (α:=Unit) ts.length (fun i _=>∀t∈ts.take i,∃(nm:List UInt8) (k:Int),∀hp,S 113 [t.av] hp=some (.ret (.tuple [P6 nm,P4 k]),hp)) (fun i _=>⟨[(0,.ptr r 0),(2,lv),(21,lv),(22,P4 ts.length),(23,P4 i)],hp++E⟩) () ⟨fun t h=>by grind,rfl⟩ ?_ ?_
 ·rintro i - h hinv;have hc:(i:Int)<(ts.length:Int):=by omega
  have w1:IntKind.i64.wrap ((i:Int)+1)=((i+1:Nat):Int):=by grind [zU]
  obtain⟨x,hx⟩:∃x,ts[i]? =some x:=⟨_,Ze h⟩;have hxv:=hts x (Zh hx);obtain⟨p,p1,p2⟩:=hix i x hp [] rfl hx;rw[ZL] at p2;rcases BR x hxv with⟨b,hb,h3⟩|⟨nm,k,hn,h0,h8,h3⟩
  ·simp only[Tm.av] at h3;simp -dsimp -implicitDefEqProofs only[go_sem,seval,hc,p1,p2,h3,zF,Yg,hpan]
   grind [Xx]
  cases hs:xh d nm k with
  |true=>
   have h4:=fun X=>Ka d hbd g (slA (r+1) 0) nm k x hxv hs (hp++X) r (hr' X);simp only[Tm.av] at h3 h4;simp -dsimp -implicitDefEqProofs only[go_sem,seval,hc,p1,p2,h3,h4,zF,Yg,hpan]
   grind [Xx,vF]
  |false=>
   have h4:=fun X=>j9 d hbd g (slA (r+1) 0) nm k x hs (hp++X) r (hr' X);have h3':=h3;simp only[Tm.av] at h3 h4;simp -dsimp -implicitDefEqProofs only[go_sem,seval,hc,w1,p1,p2,h3,h4,zF];refine⟨(),fun t ht=> ?_,?_⟩
   ·rw[Z8,hx] at ht;rcases Z6.1 ht with ht|ht
    ·simp_all
    simp_all
   ·rw[hcol _ _ _ rfl (by grind [AV.refsIn])]
 ·rintro - hinv;have hc:¬(ts.length:Int)<(ts.length:Int):=by omega
  rw[ZW] at hinv;simp -dsimp -implicitDefEqProofs only[go_sem,seval,hc,hsl];refine Yp (α:=Dbs) ts.length (fun i di=>okD di=true/\di.next=d.next) (fun i di=>⟨[(0,.ptr r 0),(38,lv),(39,P4 ts.length),(40,P4 i)],hp.set r (.box (some 7) (cB di g (slA (r+1) 0)))++E⟩) d ⟨⟨hv,rfl⟩,by rw[Qd hr];rfl⟩ ?_ ?_
  ·rintro i di h ⟨hdi,hbi⟩;obtain⟨K,hK⟩:∃K,K=hp.set r (.box (some 7) (cB di g (slA (r+1) 0))):=⟨_,rfl⟩;have hl:hp.length=K.length:=by grind
   have hKr:∀X,(K++X)[r]? =some (.box (some 7) (cB di g (slA (r+1) 0))):=fun X=>by
    grind
   have hst:∀(n:Dbs) (X:Heap),zH (some 2) K.length (K++X) [.ptr r 0,.pv (some 2) n.pv]=some (.undef,hp.set r (.box (some 7) (cB n g (slA (r+1) 0)))++X):=fun n X=>by
    grind [Kb,List.set_set]
   obtain⟨Q,hQ⟩:∃Q:Dbs->Heap,Q=fun n=>hp.set r (.box (some 7) (cB n g (slA (r+1) 0))):=⟨_,rfl⟩;have hQl:∀n,(Q n).length=hp.length:=fun n=>by grind
   have hQe:∀n,hp.set r (.box (some 7) (cB n g (slA (r+1) 0)))=Q n:=fun n=>by rw[hQ]
   simp only[hQe] at hst ⊢;have hKQ:Q di=K:=by grind
   rw[hKQ];have hc:(i:Int)<(ts.length:Int):=by omega
   have w1:IntKind.i64.wrap ((i:Int)+1)=((i+1:Nat):Int):=by grind [zU]
   obtain⟨x,hx⟩:∃x,ts[i]? =some x:=⟨_,Ze h⟩;obtain⟨p,p1,p2⟩:=hix i x K [] hl.symm hx;rw[ZL] at p2;obtain⟨nm,k,h3⟩:=hinv x (Zh hx);have h5:=fun hp=>NK di (Xi hdi) nm k true hp;have hsp:=fun h=>NP (d:=di) (s:=nm) (a:=k) (b:=true) h;have her:=NQ di nm k true;generalize Y8 di nm k true=R at*;obtain⟨n,e⟩:=R;dsimp only at h5 hsp her;have hnil:∀H:Heap,zR A3 H=(A3,H):=fun _=>rfl;simp only[Tm.av,Dbs.av] at h3 h5;rw[hl];by_cases he:e=0
   ·subst he;obtain⟨s1,s2⟩:=hsp rfl;have h6:=fun hp=>Bh hp;simp -dsimp -implicitDefEqProofs only[go_sem,seval,z6,hc,w1,p1,p2,hKr,yF,h3,h5,h6,hst,hnil,zF,zD (Zd _ _)];refine⟨n,⟨s1,by omega⟩,?_⟩;rw[<-hl,hcol _ _ _ (hQl n) (by grind [AV.refsIn]),hQ]
   ·have h6:=fun hp=>j8 e he hp;simp -dsimp -implicitDefEqProofs only[go_sem,seval,z6,hc,w1,p1,p2,hKr,yF,h3,h5,h6,hst,hnil,hpan,zF,zD (Zd _ _),Yg]
    grind [B6]
  ·rintro di ⟨hdi,hbi⟩;obtain⟨K,hK⟩:∃K,K=hp.set r (.box (some 7) (cB di g (slA (r+1) 0))):=⟨_,rfl⟩;have hl:hp.length=K.length:=by grind
   have hKr:∀X,(K++X)[r]? =some (.box (some 7) (cB di g (slA (r+1) 0))):=fun X=>by
    grind
   have h6:∀X,S 112 [.ptr r 0] (K++X)=some (.ret (.tuple []),hp.set r (.box (some 7) (cB di g (.tsl (some 4) [g.pv])))++X):=fun X=>by
    grind [Jz,List.set_set]
   have hc:¬(ts.length:Int)<(ts.length:Int):=by omega
   have e:=JN (d:=d) (m:=di) (g:=g) (hp:=hp) (r:=r) hgv hdi (by omega) (.inr hgn) hq;rw[<-hK];generalize hZ:hp.set r (.box (some 7) (cB di g (.tsl (some 4) [g.pv])))=Z at h6 e;have hZl:Z.length=hp.length:=by grind
   simp -dsimp -implicitDefEqProofs only[go_sem,seval,hc,h6,Ys,Ym]
   grind
theorem B7{L:List Int}:∀t:Tm,(∀w∈t.occ,w∈L)->∀v∈(Tm.sub (cPos L) t).occ,0<=v/\v<L.length:=by
 intro t
 induction t using Tm.zAH with
 |h t ih=>
  intro hw v hv;rw[Tm.zAR] at hv;split at hv
  ·rename_i hk;have hm:=hw t.n (by rw[Tm.zAJ,Zj hk];simp);have h2:v=(L.idxOf t.n:Int):=by simpa[cPos,tvar,Tm.zAJ,Tm.kind,Tm.n] using hv
   have:=List.idxOf_lt_length_of_mem hm;omega
  ·rename_i hk;rw[Tm.zAJ,Zb (by exact hk)] at hv;obtain⟨u,hu,hvu⟩:=Tm.zAV hv;obtain⟨x,hx,rfl⟩:=zd.1 (show u∈t.args.map (Tm.sub (cPos L)) from hu);exact ih x hx (fun w h=>hw w (Tm.zA6 hk hx h)) v hvu
theorem oX{c:Cz}(h:okC c=true):(c.head.kind=2\/c.head.kind=3)/\(∀v∈c.head.occ,0<=v/\v<64)/\∀v∈c.body.occ,0<=v/\v<64:=by
 simp only[okC,Zk,Bool.or_eq_true,ZN] at h;obtain⟨-,hk,-,-,h5,h6,h7⟩:=h;have e1:=jI h6;have e2:=jI h7;refine⟨hk,fun v hv=> ?_,fun v hv=> ?_⟩
 ·rw[<-e1] at hv;have:=B7 c.head (fun w hw=>(VC _ [] w).2 (.inr (List.mem_append_left _ hw))) v hv;have e:(c.vars.length:Int)<=64:=by omega
  exact⟨this.1,Int.lt_of_lt_of_le this.2 e⟩
 ·rw[<-e2] at hv;have:=B7 c.body (fun w hw=>(VC _ [] w).2 (.inr (List.mem_append_right _ hw))) v hv;have e:(c.vars.length:Int)<=64:=by omega
  exact⟨this.1,Int.lt_of_lt_of_le this.2 e⟩
theorem oY{d:Dbs}{g:Tm}{q n k n' k' b:Nat}{hp:Heap}{r:Nat}(hr:hp[r]? =some (.box (some 7) (cB d g (slT q n k))))(hb:r<b):zH none b hp [.ptr r 6,slT q n' k']=some (.undef,hp.set r (.box (some 7) (cB d g (slT q n' k')))):=by
 have hu:AV.upd deep (cB d g (slT q n k)) 6 none (slT q n' k')=some (cB d g (slT q n' k')):=rfl;have hb':¬b<=r:=by omega
 have hm:q∈(cB d g (slT q n k)).refsIn:=by simp[cB,AV.refsIn,AV.refsIn.go]
 grind [zH,astore,AV.plain,AV.shp,AV.refsIn]
theorem B8{g:Tm}(h:g.valid=true):0<=y6 g/\y6 g<=1099511627776/\y6 g<=2000:=by
 grind [qj,Tm.occ_len,valid_size,y6]
theorem oZ{d:Int}{t:Tm}(hd:d<=2000)(h:∀v∈t.occ,0<=v/\v<64):movable d t=true:=by
 grind [movable]
def B9(g:Tm)(l:List Sto):Prop:=l.length<=500/\∀s∈l,s.cl.head.valid=true/\s.cl.body.valid=true/\movable (y6 g) s.cl.head=true/\movable (y6 g) s.cl.body=true
def acN:List UInt8:=[97,99,99,101,115,115]
def prN':List UInt8:=[112,114,105,118,97,116,101,95,112,114,111,99,101,100,117,114,101]
theorem vG(d:Dbs)(hv:okD d=true)(g:Tm)(hgv:g.valid=true)(b:Bool)(hl:g.args.length=if b=true then 3 else 2)(l:List Sto)(hcl:B9 g l)(hp:Heap)(r:Nat)(hr:hp[r]? =some (.box (some 7) (cB d g (slA (r+1) 0))))(hq:hp[r+1]? =some (.arr (some 4) [] false))(E:Heap)(hEr:E.all (fun o=>o.refs.isEmpty)=true):
  W Z L hp.length c82k44 ⟨[(0,.ptr r 0),(8,P5 b),(12,P4 (y6 g)),(116,.pv none (.sl (some 9) (Sto.pvs l))),(117,P4 l.length),(118,P4 0)],hp++E⟩ (endA (g82).results hp.length (OutQ d g hp r)):=by
 have hlq:=YZ hq;have hlr:r<hp.length:=by omega
 have hfr:=B8 hgv;obtain⟨hc5,hcl⟩:=hcl;simp -dsimp -implicitDefEqProofs only[c82k44,go_sem,seval];refine Yp (α:=List Tm × List PV) l.length (fun i a=>a.2.length<=1/\a.1.length<=i/\∀t∈a.1,t.valid=true/\t.name=g.name/\t.args.length=g.args.length) (fun i a=>⟨[(0,.ptr r 0),(8,P5 b),(12,P4 (y6 g)),(116,.pv none (.sl (some 9) (Sto.pvs l))),(117,P4 l.length),(118,P4 i)],AT hp r d g a.1 a.2++E⟩) ([],[]) ⟨⟨by decide,by decide,fun t ht=>by cases ht⟩,by rw[BV hr hq];rfl⟩ ?_ ?_
 ·rintro i ⟨A,tl⟩ hi ⟨htl,hAi,hA⟩;dsimp only at htl hAi hA;obtain⟨c,hc⟩:∃c,l[i]? =some c:=⟨_,Ze hi⟩;have hci:(i:Int)<(l.length:Int):=by omega
  obtain⟨c1,c2,m1,m2⟩:=hcl c (Zh hc);have hx:=zT (sh:=some 9) (s:=none) (s':=none) (k:=.i64) (Sto.pvs_get hc);have t1:PV.part deep c.pv 1 (some 4)=some c.cl.head.pv:=rfl;have t2:PV.part deep c.pv 5 (some 4)=some c.cl.body.pv:=rfl;have t3:PV.part deep c.pv 0 none=some (.int .i64 c.id):=rfl;have h1:=fun hp=>BN c.cl.head c1 (y6 g) hfr.1 hfr.2.1 hp;have h2:=fun hp=>BN c.cl.body c2 (y6 g) hfr.1 hfr.2.1 hp;have h3:=Bk c.id;rw[Zj m1,Zj m1] at h1;rw[Zj m2,Zj m2] at h2;obtain⟨hd,hhd⟩:∃t,t=shT (y6 g) c.cl.head:=⟨_,rfl⟩;obtain⟨bd,hbd⟩:∃t,t=shT (y6 g) c.cl.body:=⟨_,rfl⟩;obtain⟨fs,hfs⟩:∃fs,fs=hd::bd::if b=true then[intT c.id] else[]:=⟨_,rfl⟩
  have hfl:fs.length=g.args.length:=by grind
  obtain⟨a,ha⟩:∃a,a=ansT g fs:=⟨_,rfl⟩;rw[<-hhd] at h1;rw[<-hbd] at h2;have ha3:a.name=g.name/\a.args.length=g.args.length:=by
   rw[ha];exact⟨rfl,by show(fs++g.args.drop fs.length).length=_;grind⟩
  have hgl8:=(JL hgv).2;have hg0:0<g.args.length:=by grind
  have h4:∀(X:Heap) (s:Nat),X[s]? =some (.arr (some 4) (Tm.pvs fs) false)->S 117 [.ptr r 0,.sl (some 4) (hp.length+s) fs.length 0 fs.length] (AT hp r d g A tl++X)=some (.ret (.tuple []),AT hp r d g (A++[a]) []++X):=fun X s hs=>by
   grind [BU,OL,Tm.pvs_len]
  obtain⟨K,hK⟩:∃K,K=AT hp r d g A tl:=⟨_,rfl⟩;obtain⟨K2,hK2⟩:∃K,K=AT hp r d g (A++[a]) []:=⟨_,rfl⟩;have hKl:hp.length=K.length:=by rw[hK,Xw]
  have hKl2:K2.length=K.length:=by grind [Xw]
  have hr2:∀X,(K2++X)[r]? =some (.box (some 7) (cB d g (slA (r+1) (A.length+1)))):=fun X=>by
   simp_all[at_r]
  have hld:∀X,aload (some 4) (K2++X) (.eptr (some 4) (r+1) (A.length+1) A.length 0)=some (.pv (some 4) a.pv):=fun X=>by
   have e1:(K2++X)[r+1]? =some (.arr (some 4) (Tm.pvs (A++[a])) false):=by grind [at_q]
   have e2:(Tm.pvs (A++[a]))[A.length]? =some a.pv:=Tm.pvs_get (by grind)
   grind [Tm.pvs_len,aload]
  have hia:zX (some 4) [.sl (some 4) (r+1) (A.length+1) 0 (A.length+1),P4 (A.length:Int)]=some (.eptr (some 4) (r+1) (A.length+1) A.length 0):=by
   grind [xZ]
  have hsl:sLen [.sl (some 4) (r+1) (A.length+1) 0 (A.length+1)]=some (P4 ((A.length+1:Nat):Int)):=rfl;have w1:IntKind.i64.wrap (((A.length+1:Nat):Int) - 1)=(A.length:Int):=by grind [zU]
  have w2:IntKind.i64.wrap ((i:Int)+1)=((i+1:Nat):Int):=by grind [zU]
  have haz:a.size<1000000000:=by
   have z1:=BP (y6 g) c.cl.head;have z2:=BP (y6 g) c.cl.body;have z3:=valid_size c1;have z4:=valid_size c2;have z5:a.size<=1+(hd.size+(bd.size+1)):=by
    rw[ha,ansT,hfl,List.drop_length,ZL,hfs];cases b with
    |true=>exact Zc (1+(hd.size+(bd.size+(1+0+0))))
    |false=>exact(by omega:1+(hd.size+(bd.size+0))<=1+(hd.size+(bd.size+1)))
   grind
  have h6:=fun hp=>YR a hp haz;have hss:YE (some 4) false true [.sl (some 4) (r+1) (A.length+1) 0 (A.length+1),P4 (A.length:Int)]=some (slT (r+1) A.length 1):=by
   simp[YE,aslice]
   grind
  have hdr:∀X,zH none K.length (K2++X) [.ptr r 6,slT (r+1) A.length 1]=some (.undef,AT hp r d g A [a.pv]++X):=fun X=>by
   have h:=oY (d:=d) (g:=g) (q:=r+1) (n:=A.length+1) (k:=0) (r:=r) (hp:=K2++X) (n':=A.length) (k':=1) (b:=K.length) (hr2 X:(K2++X)[r]? =some (AObj.box (some 7) (cB d g (slT (r+1) (A.length+1) 0)))) (by omega);have e:=Qd (x:=.arr (some 4) (Tm.pvs A++[a.pv]) false) (show(AT hp r d g (A++[a]) []++X)[r+1]? =_ by rw[at_q hlq,ZL,Tm.zAN];rfl);rw[h,hK2,<-BT hlq (A++[a]) A [] [a.pv] X,e];rfl
  obtain⟨K3,hK3⟩:∃K,K=AT hp r d g A [a.pv]:=⟨_,rfl⟩;have hKl3:K3.length=K.length:=by grind [Xw]
  rw[<-hK3] at hdr;have hbslo:∀H:Heap,XP (some 4) H [.pv (some 4) hd.pv,.pv (some 4) bd.pv]=some (.sl (some 4) H.length 2 0 2,H++[.arr (some 4) [hd.pv,bd.pv] false]):=fun H=>rfl;have hpan:∀A:Prop,panK true A=A:=fun _=>rfl;have hcol:∀(Y:Heap) (fr:Fr) (X:Heap),Y.length=K.length->fr.all (fun x=>x.2.refsIn.all (fun q=>decide (q<hp.length+E.length)))=true->collect (hp.length+E.length) K.length fr (Y++(E++X))=Y++E:=fun Y fr X hY hf=>by
   grind [ym,zq]
  have happ:∀x1 x2 x3 x4 x5:AObj,z8 (some 4) (K++(E++[x1,x2,x3,x4,x5,.arr (some 4) [hd.pv,bd.pv] false])) [.sl (some 4) (K.length+(E.length+5)) 2 0 2,.tsl (some 4) [(intT c.id).pv]]=some (.sl (some 4) (K.length+(E.length+5)) 3 0 3,K++(E++[x1,x2,x3,x4,x5,.arr (some 4) [hd.pv,bd.pv,(intT c.id).pv] false])):=fun x1 x2 x3 x4 x5=>by
   simp[z8,aappend,elems,YJ,jH,lim]
  have h5:=fun x1 x2 x3 x4 x5:AObj=>h4 (E++[x1,x2,x3,x4,x5,.arr (some 4) (Tm.pvs fs) false]) (E.length+5) (by simp_all);rw[hfl,hl,hfs,<-hK,<-hK2,hKl] at h5;rw[hKl];show W Z L K.length _ ⟨_,AT hp r d g A tl++E⟩ _;rw[<-hK];simp only[Tm.av] at h1 h2 h3 h6;cases hva:a.valid with
  |false=>
   rw[hva] at h6;have h7:=fun hp=>j8 2 (by decide) hp;cases b
   all_goals
    simp only[ZJ,if_true,if_false,Tm.pvs] at h5;simp -dsimp -implicitDefEqProofs only[c82b43,c82k44,go_sem,seval,hci,hx,t1,t2,t3,h1,h2,h3,hbslo,happ,h5,h6,h7,hpan,z6,hr2,hld,hia,hsl,w1,w2,Kc,Xt,Yg,zF,zD (Zd _ _)];refine .inr (.inl ⟨2,.box (some 7) (cB d g (slT (r+1) (A++[a]).length 0)),.arr (some 4) (Tm.pvs (A++[a])++[]) false,by decide,by decide,rfl,?_⟩);rw[<-hKl2,zq,hK2];rfl
  |true=>
   rw[hva] at h6;have h7:=fun hp=>OF g a hgv hva hp;generalize uni 1048576 [] [(g,a)]=R at h7;obtain⟨R1,R2⟩:=R;dsimp only at h7;simp only[Tm.av] at h7;by_cases h8:R2=4
   ·cases b
    all_goals
     simp only[ZJ,if_true,if_false,Tm.pvs] at h5;simp -dsimp -implicitDefEqProofs only[c82b43,c82k44,go_sem,seval,hci,hx,t1,t2,t3,h1,h2,h3,hbslo,happ,h5,h6,h7,h8,hss,hdr,z6,hr2,hld,hia,hsl,w1,w2,Kc,Xt,zF,zD (Zd _ _)];refine⟨(A,[a.pv]),⟨by simp,by grind,hA⟩,?_⟩;rw[hcol _ _ _ hKl3 (by simp[AV.refsIn];omega),hK3]
   ·cases b
    all_goals
     simp only[ZJ,if_true,if_false,Tm.pvs] at h5;simp -dsimp -implicitDefEqProofs only[c82b43,c82k44,go_sem,seval,hci,hx,t1,t2,t3,h1,h2,h3,hbslo,happ,h5,h6,h7,h8,z6,hr2,hld,hia,hsl,w1,w2,Kc,Xt,zF,zD (Zd _ _)];refine⟨(A++[a],[]),⟨by simp,by grind,fun t ht=> ?_⟩,?_⟩
     ·grind
     ·rw[hcol _ _ _ hKl2 (by simp[AV.refsIn];omega),hK2]
 ·rintro⟨A,tl⟩ ⟨htl,hAi,hA⟩;dsimp only at htl hAi hA;have hci:¬(l.length:Int)<(l.length:Int):=by omega
  simp -dsimp -implicitDefEqProofs only[c82b43,c82k44,go_sem,seval,hci,Ys,Ym];refine .inr (.inr ⟨rfl,d,A,_,_,⟨hv,Int.le_refl _,.inl rfl,by omega,hA⟩,?_,.inr ⟨tl,rfl,rfl⟩⟩);exact ZF (Xw A tl)
theorem o5{d:Dbs}(hv:okD d=true)(g:Tm)(hgv:g.valid=true)(s:List UInt8)(a:Int):B9 g ((Y3 d s a).getD zP).cls:=by
 cases hf:Y3 d s a with
 |none=>exact⟨by decide,fun s hs=>by cases hs⟩
 |some p=>
  refine⟨OG hv hf,fun s hs=> ?_⟩;obtain⟨-,-,h3,-,-⟩:=oE hv ((gQ hv _ _ _).1 hf).1 s hs;obtain⟨-,h4,h5⟩:=oX h3;simp_all[Js,B8,oZ]
theorem o6{hp:Heap}{r:Nat}(h:r<hp.length)(H:Heap)(v:AV)(k:Nat)(s:Sh)(e:PV)(f:Nat):YV (some 4) hp.length H [.ptr hp.length 0,v,.ptr r k,.iptr s e f]=zH (some 4) hp.length H [.ptr hp.length 0,v]:=by
 grind [ZM,YV,zH,XB]
theorem o9(d:Dbs)(hv:okD d=true)(g:Tm)(hgv:g.valid=true)(hl:g.args.length=2\/g.args.length=3)(hp:Heap)(r:Nat)(hr:hp[r]? =some (.box (some 7) (cB d g (slA (r+1) 0))))(hq:hp[r+1]? =some (.arr (some 4) [] false)):
  ∃v hp',S 82 [.ptr r 0] hp=some (v,hp')/\OutQ d g hp r v hp':=by
 refine XJ (OutQ d g hp r) rfl rfl rfl rfl ?_;have hlr:=YZ hr;have hr':∀X,(hp++X)[r]? =some (.box (some 7) (cB d g (slA (r+1) 0))):=fun X=>by grind
 have hbd:=Xi hv;have hstn:=o6 hlr;have hpan:∀A:Prop,panK true A=A:=fun _=>rfl;obtain⟨h,x,ys,hga,hys⟩:∃h x ys,g.args=h::x::ys/\(ys=[]\/∃y,ys=[y]):=by
  match e:g.args,hl with
  |[h,x],_=>grind
  |[h,x,y],_=>grind
  |[],h|[_],h|_::_::_::_::_,h=>grind
 have hhv:h.valid=true:=YS hgv (by grind);have hxv:x.valid=true:=YS hgv (by grind);obtain⟨hhn,hh8⟩:=JL hhv;obtain⟨zs,hzs⟩:∃zs,zs=Tm.pvs ys:=⟨_,rfl⟩;have e3:Tm.pvs g.args=h.pv::x.pv::zs:=by rw[hga,hzs];rfl
 have i0:∀s kk,zX (some 4) [.pv s (.sl (some 4) (h.pv::x.pv::zs)),.pv none (.int kk 0)]=some (.iptr (some 4) h.pv 0):=fun _ _=>rfl;have i1:∀s kk,zX (some 4) [.pv s (.sl (some 4) (h.pv::x.pv::zs)),.pv none (.int kk 1)]=some (.iptr (some 4) x.pv 0):=fun _ _=>rfl;have h3:=fun hp=>V2 h.name h.args.length hhn (by omega) (by omega) hp;obtain⟨ti,hti⟩:∃ti,ti=indT h.name h.args.length:=⟨_,rfl⟩;have htv:ti.valid=true:=by grind [j6]
 rw[<-hti] at h3;rcases OI h hhv with⟨b,hb,h1⟩|⟨-,-,h1⟩
 ·have h2:=fun hp=>xE b hp;simp only[Tm.av] at h1 h2;simp -dsimp -implicitDefEqProofs only[c82b43,go_sem,seval,z6,hr,hr',YK,e3,h1,h2,hpan,i0,i1,hstn,Yg,zF,zD (Zd _ _)]
  grind [Xx]
 by_cases hx:x.kind=1
 ·have h2:=fun hp=>xC clbN (by decide) x hxv hp;have h4:=fun hp=>xE (typT clbN x) hp;simp only[Tm.av,clbN] at h1 h2 h4;simp -dsimp -implicitDefEqProofs only[c82b43,go_sem,seval,z6,hr,hr',YK,e3,h1,h2,h4,hpan,i0,i1,hstn,hx,zJ,Yg,zF,zD (Zd _ _)];simp_all[Xx,QU]
 have hx:=Zg hx;have h5:=fun hp=>gA d hbd h.name h.args.length hp;have hmv:=o5 hv g hgv h.name h.args.length;generalize (Y3 d h.name h.args.length).getD zP=p at h5 hmv;have h6:=fun hp=>BM g hgv hp;have hil:(ints (vads [] g.occ)).length=(vads [] g.occ).length:=Jl _;simp only[Tm.av,Dbs.av,Prc.av] at h1 h3 h5 h6;rcases hys with rfl|⟨y,rfl⟩
 ·have hl2:g.args.length=2:=by grind
  have e4:(((zs.length+2:Nat):Int)=3)=False:=by
   rw[hzs];exact Zg (show ¬((2:Nat):Int)=3 by decide)
  have h4:=fun X=>VX d hbd g (slA (r+1) 0) h.name h.args.length (hp++X) r (hr' X);cases hs:xh d h.name h.args.length with
  |true=>
   rw[hs] at h4;have h7:=fun hp=>Bd acN prN' (by decide) (by decide) ti htv hp;have h8:=fun hp=>xE (perT acN prN' ti) hp;simp only[Tm.av,acN,prN'] at h7 h8;simp -dsimp -implicitDefEqProofs only[c82b43,go_sem,seval,z6,hr,hr',YK,e3,e4,h1,h3,h4,h7,h8,hpan,i0,i1,hstn,hx,zJ,zN,zL,Tm.pvs_len,Yg,zF,zD (Zd _ _)];rw[zq];exact Xx ⟨(Jw (by decide) (by decide) (by decide) htv).2,rfl⟩
  |false=>
   rw[hs] at h4;simp -dsimp -implicitDefEqProofs only[c82b43,go_sem,seval,z6,hr,hr',YK,Xt,yF,e3,e4,h1,h3,h4,h5,h6,hil,hpan,i0,i1,hstn,hx,yM,Sto.pvs_len,zJ,zN,zL,Tm.pvs_len,zF,zD (Zd _ _)];exact vG d hv g hgv false hl2 p.cls hmv hp r hr hq _ rfl
 ·have hl3:g.args.length=3:=by grind
  have e4:(((zs.length+2:Nat):Int)=3)=True:=by
   rw[hzs];exact Zi (show((3:Nat):Int)=3 by decide)
  have hyv:y.valid=true:=YS hgv (by grind);have i2:∀s kk,zX (some 4) [.pv s (.sl (some 4) (h.pv::x.pv::zs)),.pv none (.int kk 2)]=some (.iptr (some 4) y.pv 0):=fun _ _=>by rw[hzs];rfl
  cases hs:xh d h.name h.args.length with
  |true=>
   have h4:=fun X=>Ka d hbd g (slA (r+1) 0) h.name h.args.length ti htv hs (hp++X) r (hr' X);simp only[Tm.av] at h4;simp -dsimp -implicitDefEqProofs only[c82b43,go_sem,seval,z6,hr,hr',YK,e3,e4,h1,h3,h4,hpan,i0,i1,hstn,hx,zJ,zN,zL,Tm.pvs_len,Yg,zF,zD (Zd _ _)]
   grind [Xx,vF]
  |false=>
   have h4:=fun X=>j9 d hbd g (slA (r+1) 0) h.name h.args.length ti hs (hp++X) r (hr' X);simp only[Tm.av] at h4;by_cases y0:y.kind=0
   ·have y0:=Zi y0;simp -dsimp -implicitDefEqProofs only[c82b43,go_sem,seval,z6,hr,hr',YK,Xt,yF,e3,e4,h1,h3,h4,h5,h6,hil,hpan,i0,i1,i2,hstn,hx,y0,yM,Sto.pvs_len,zJ,zN,zL,Tm.pvs_len,zF,zD (Zd _ _)];exact vG d hv g hgv true hl3 p.cls hmv hp r hr hq _ rfl
   by_cases y1:y.kind=1
   ·have y0:=Zg y0;have y1:=Zi y1;simp -dsimp -implicitDefEqProofs only[c82b43,go_sem,seval,z6,hr,hr',YK,Xt,yF,e3,e4,h1,h3,h4,h5,h6,hil,hpan,i0,i1,i2,hstn,hx,y0,y1,yM,Sto.pvs_len,zJ,zN,zL,Tm.pvs_len,zF,zD (Zd _ _)];exact vG d hv g hgv true hl3 p.cls hmv hp r hr hq _ rfl
   ·have y0:=Zg y0;have y1:=Zg y1;have h7:=fun hp=>xC [105,110,116,101,103,101,114] (by decide) y hyv hp;have h8:=fun hp=>xE (typT [105,110,116,101,103,101,114] y) hp;simp only[Tm.av] at h7 h8;simp -dsimp -implicitDefEqProofs only[c82b43,go_sem,seval,z6,hr,hr',YK,e3,e4,h1,h3,h4,h7,h8,hpan,i0,i1,i2,hstn,hx,y0,y1,zJ,zN,zL,Tm.pvs_len,Yg,zF,zD (Zd _ _)];simp_all[Xx,QU]
theorem Pa{d:Dbs}(hv:okD d=true){g:Tm}(hgv:g.valid=true)(hk:g.kind=3)(hl:g.args.length=1){p:Prc}(hp:p∈d.procs):(ansT g [indT p.name p.ar]).valid=true:=by
 obtain⟨h1,h2,h3⟩:=B3 hv hp;have hi:=j6 (k:=p.ar) h1;have e:ansT g [indT p.name p.ar]=strT g.name [indT p.name p.ar]:=by
  have:g.args.drop 1=[]:=List.drop_eq_nil_of_le (by omega);show Tm.mk g.kind 0 g.name ([indT p.name p.ar]++g.args.drop 1)=_;rw[this,hk];rfl
 rw[e];refine QN (xe (JL hgv).1 (by simp) (by simp) (by simp[Tm.fitsAll,valid_fits hi])) ?_;have:(strT g.name [indT p.name p.ar]).size=4:=rfl;omega
theorem bc{t:Tm}(h:t.valid=true)(hl:0<t.args.length):t.kind=3:=by
 have h:=valid_fits h
 grind [Tm.zAO,Tm.node]
theorem bg(d:Dbs)(hv:okD d=true)(g:Tm)(hgv:g.valid=true)(hl:g.args.length=1)(u w:Tm)(b5 b6:Bool)(hp:Heap)(r:Nat)(hr:hp[r]? =some (.box (some 7) (cB d g (slA (r+1) 0))))(hq:hp[r+1]? =some (.arr (some 4) [] false))(E:Heap)(x y:Nat)(o1 o2:AV)(hx:E[x]? =some (.box (some 4) o1))(hy:E[y]? =some (.box (some 4) o2))(ho1:b5=false->o1=.pv (some 4) u.pv)(ho2:b6=false->o2=.pv (some 4) w.pv)(hEr:E.all (fun o=>o.refs.all (fun q=>decide (q<hp.length+E.length)))=true):
  W Z L hp.length c81k22 ⟨[(0,.ptr r 0),(3,.ptr (hp.length+x) 0),(4,.ptr (hp.length+y) 0),(5,P5 b5),(6,P5 b6),(75,.pv none (.sl (some 4) (Prc.pvs d.procs))),(76,P4 d.procs.length),(77,P4 0)],hp++E⟩ (endA (g81).results hp.length (OutQ d g hp r)):=by
 have hlq:=YZ hq;have hlr:r<hp.length:=by omega
 have hk:=bc hgv (by omega);have hd:d.procs.length<=500:=by grind [yw]
 simp -dsimp -implicitDefEqProofs only[c81k22,go_sem,seval];refine Yp (α:=List Tm) d.procs.length (fun i a=>a.length<=i/\∀t∈a,t.valid=true/\t.name=g.name/\t.args.length=g.args.length) (fun i a=>⟨[(0,.ptr r 0),(3,.ptr (hp.length+x) 0),(4,.ptr (hp.length+y) 0),(5,P5 b5),(6,P5 b6),(75,.pv none (.sl (some 4) (Prc.pvs d.procs))),(76,P4 d.procs.length),(77,P4 i)],AT hp r d g a []++E⟩) [] ⟨⟨by decide,fun t ht=>by cases ht⟩,by rw[BV hr hq];rfl⟩ ?_ ?_
 ·rintro i A hi ⟨hAi,hA⟩;obtain⟨p,hp'⟩:∃p,d.procs[i]? =some p:=⟨_,Ze hi⟩;have hpm:=Zh hp';have hci:(i:Int)<(d.procs.length:Int):=by omega
  have hxi:=zT (sh:=some 4) (s:=none) (s':=none) (k:=.i64) (Prc.pvs_get hp');obtain⟨n1,n2,n3⟩:=B3 hv hpm;have h1:=fun hp=>V2 p.name p.ar n1 n2 n3 hp;have w2:IntKind.i64.wrap ((i:Int)+1)=((i+1:Nat):Int):=by grind [zU]
  have hva:=Pa hv hgv hk hl hpm;obtain⟨ti,hti⟩:∃ti,ti=indT p.name p.ar:=⟨_,rfl⟩;rw[<-hti] at h1 hva;have h2:∀X,S 117 [.ptr r 0,.tsl (some 4) [ti.pv]] (AT hp r d g A []++X)=some (.ret (.tuple []),AT hp r d g (A++[ansT g [ti]]) []++X):=fun X=>
   BU (by omega) (by omega) hlq A [ti] [] (by decide) (by omega) (by grind) X _ (fun Y=>rfl)
  have hx':∀Y,(AT hp r d g A []++(E++Y))[hp.length+x]? =some (.box (some 4) o1):=fun Y=>by grind [Xw]
  have hy':∀Y,(AT hp r d g A []++(E++Y))[hp.length+y]? =some (.box (some 4) o2):=fun Y=>by grind [Xw]
  have lx:=YZ hx;have ly:=YZ hy;have hcol:∀(Y:Heap) (fr:Fr) (X:Heap),Y.length=hp.length->fr.all (fun x=>x.2.refsIn.all (fun q=>decide (q<hp.length+E.length)))=true->collect (hp.length+E.length) hp.length fr (Y++(E++X))=Y++E:=fun Y fr X hY hf=>by
   grind [ym,zq]
  obtain⟨K,hK⟩:∃K,K=AT hp r d g A []:=⟨_,rfl⟩;obtain⟨K2,hK2⟩:∃K,K=AT hp r d g (A++[ansT g [ti]]) []:=⟨_,rfl⟩;have hKl:hp.length=K.length:=by rw[hK,Xw]
  have hKl2:K2.length=hp.length:=by rw[hK2,Xw]
  simp only[<-hK,<-hK2] at h2 hx' hy' ⊢;rcases Classical.propComplete (0<(p.cls.length:Int)) with c1|c1 <;> rcases Classical.propComplete (u.name=p.name) with c2|c2 <;> rcases Classical.propComplete (w.n=p.ar) with c3|c3 <;> cases b5 <;> cases b6
  all_goals
   try (obtain rfl:=ho1 rfl)
   try (obtain rfl:=ho2 rfl)
   simp -dsimp -implicitDefEqProofs only[c81b21,c81k22,go_sem,seval,hci,w2,hxi,h1,h2,hx',hy',c1,c2,c3,Tm.av,yM,yg,yh,Sto.pvs_len,zN,Yf,zF,zD (Zd _ _)]
   first
   |refine⟨A,⟨by omega,hA⟩,?_⟩
    rw[hcol _ _ _ hKl.symm (by simp[AV.refsIn];omega),hK]
   |refine⟨A++[ansT g [ti]],⟨by simp;omega,fun t ht=> ?_⟩,?_⟩
    ·rcases Z6.1 ht with ht|ht
     ·exact hA t ht
     ·rw[List.mem_singleton.1 ht];exact⟨hva,rfl,by show([ti]++g.args.drop 1).length=_;simp;omega⟩
    ·rw[hcol _ _ _ hKl2 (by simp[AV.refsIn];omega),hK2]
 ·rintro A ⟨hAi,hA⟩;have hci:¬(d.procs.length:Int)<(d.procs.length:Int):=by omega
  simp -dsimp -implicitDefEqProofs only[c81b21,c81k22,go_sem,seval,hci,Ys,Ym];refine .inr (.inr ⟨rfl,d,A,_,_,⟨hv,Int.le_refl _,.inl rfl,by omega,hA⟩,?_,.inr ⟨[],rfl,rfl⟩⟩);exact ZF (Xw A [])
set_option maxHeartbeats 4000000 in
theorem Pb(d:Dbs)(hv:okD d=true)(g t:Tm)(hgv:g.valid=true)(hga:g.args=[t])(hp:Heap)(r:Nat)(hr:hp[r]? =some (.box (some 7) (cB d g (slA (r+1) 0))))(hq:hp[r+1]? =some (.arr (some 4) [] false)):
  ∃v hp',S 81 [.ptr r 0] hp=some (v,hp')/\OutQ d g hp r v hp':=by
 refine XJ (OutQ d g hp r) rfl rfl rfl rfl ?_;have hlr:=YZ hr;have hr':∀X,(hp++X)[r]? =some (.box (some 7) (cB d g (slA (r+1) 0))):=fun X=>by grind
 have e3:Tm.pvs g.args=[t.pv]:=by rw[hga];rfl
 have i0:∀s kk,zX (some 4) [.pv s (.sl (some 4) [t.pv]),.pv none (.int kk 0)]=some (.iptr (some 4) t.pv 0):=fun _ _=>rfl;have htv:t.valid=true:=YS hgv (by grind);have hl1:g.args.length=1:=by grind
 have hpan:∀A:Prop,panK true A=A:=fun _=>rfl;have hz0:=P0;have hpr:∀s,AV.part deep (cB d g s) 1 none=some (.pv none (.sl (some 4) (Prc.pvs d.procs))):=fun _=>rfl;have h1:=fun hp=>xC [112,114,101,100,105,99,97,116,101,95,105,110,100,105,99,97,116,111,114] (by decide) t htv hp;have h2:=fun hp=>xE (typT [112,114,101,100,105,99,97,116,101,95,105,110,100,105,99,97,116,111,114] t) hp;have hball:=Xx (d:=d) (g:=g) (hp:=hp) (r:=r) (QU (nm:=[112,114,101,100,105,99,97,116,101,95,105,110,100,105,99,97,116,111,114]) (by decide) htv);simp only[Tm.av] at h1 h2;by_cases k0:t.kind=0
 ·simp -dsimp -implicitDefEqProofs only[c81b21,go_sem,seval,z6,hr,hr',YK,yF,e3,i0,hz0,k0,hpr,Prc.pvs_len,zJ,zN,zL,Yf,Tm.pvs_len,zF,zD (Zd _ _)];exact bg d hv g hgv hl1 zt zt true true hp r hr hq _ 2 4 _ _ rfl rfl (fun h=>by cases h) (fun h=>by cases h) (by simp[AObj.refs,AV.refsIn,AV.refsIn.go])
 by_cases hc:t.kind=3/\t.name=[47]/\t.args.length=2
 ·have i1:=ia0 (Tm.pvs_get (jV hc.2.2));have i2:=ia1 (Tm.pvs_get (jW hc.2.2));have k3:=Zi hc.1;have k4:=Zi hc.2.1;have k5:=Zi (show((t.args.length:Nat):Int)=2 by grind);have hstn:∀(H:Heap) (v:AV) (s:Sh) (e:PV) (f:Nat),YV (some 4) hp.length H [.ptr (hp.length+2) 0,v,.ptr hp.length 3,.iptr s e f]=zH (some 4) hp.length H [.ptr (hp.length+2) 0,v]:=fun H v s e f=>by
   grind [ZM,YV,zH,XB]
  rcases Classical.propComplete ((arg0 t).kind=0) with c1|c1 <;> rcases Classical.propComplete ((arg0 t).kind=2) with c2|c2 <;> rcases Classical.propComplete ((arg1 t).kind=0) with c3|c3 <;> rcases Classical.propComplete ((arg1 t).kind=1) with c4|c4
  all_goals
   simp -dsimp -implicitDefEqProofs only[c81b21,go_sem,seval,z6,hr,hr',YK,yF,e3,i0,hz0,k0,k3,k4,k5,i1,i2,hstn,c1,c2,c3,c4,h1,h2,hpan,Yg,hpr,Prc.pvs_len,zJ,zN,zL,Yf,Tm.pvs_len,zF,zD (Zd _ _)]
   first
   |rw[zq]
    exact hball
   |exact bg d hv g hgv hl1 (arg0 t) (arg1 t) _ _ hp r hr hq _ 2 4 _ _ rfl rfl (fun _=>rfl) (fun _=>rfl) (by simp[AObj.refs,AV.refsIn])
 ·rcases Bi hc with⟨k3,k4,k5⟩|⟨k3,k4,k5⟩|⟨k3,k4,k5⟩
  all_goals
   simp -dsimp -implicitDefEqProofs only[c81b21,go_sem,seval,z6,hr,hr',YK,yF,e3,i0,hz0,k0,k3,k4,k5,h1,h2,hpan,Yg,hpr,Prc.pvs_len,zJ,zN,zL,Yf,Tm.pvs_len,zF,zD (Zd _ _)]
   grind
theorem Pc(d:Dbs)(hv:okD d=true)(g t:Tm)(hgv:g.valid=true)(hga:g.args=[t])(hgn:∀s∈[[99,108,97,117,115,101],[36,99,108,97,117,115,101],[99,117,114,114,101,110,116,95,112,114,101,100,105,99,97,116,101]],g.name≠s)(hp:Heap)(r:Nat)(hr:hp[r]? =some (.box (some 7) (cB d g (slA (r+1) 0))))(hq:hp[r+1]? =some (.arr (some 4) [] false)):
  ∃v hp',S 83 [.ptr r 0] hp=some (v,hp')/\OutQ d g hp r v hp':=by
 refine XJ (OutQ d g hp r) rfl rfl rfl rfl ?_;obtain⟨id,hid⟩:∃id,id=t.n:=⟨_,rfl⟩;have hlr:=YZ hr;have hr':∀X,(hp++X)[r]? =some (.box (some 7) (cB d g (slA (r+1) 0))):=fun X=>by grind
 have hbd:=Xi hv;have e3:Tm.pvs g.args=[t.pv]:=by rw[hga];rfl
 have i0:∀s kk,zX (some 4) [.pv s (.sl (some 4) [t.pv]),.pv none (.int kk 0)]=some (.iptr (some 4) t.pv 0):=fun _ _=>rfl;have htv:t.valid=true:=YS hgv (by grind);have h2:=fun hp=>OP d hbd id hp;have hnil:∀H:Heap,zR A3 H=(A3,H):=fun _=>rfl;rcases BQ t htv with⟨b,hb,h1⟩|h1
 ·have h3:=fun hp=>xE b hp;have hpan:∀A:Prop,panK true A=A:=fun _=>rfl;simp only[Tm.av] at h1 h3;simp -dsimp -implicitDefEqProofs only[go_sem,seval,z6,hr,hr',YK,e3,i0,h1,h3,hpan,Yg,zF,zD (Zd _ _),Ys,Ym]
  grind [Xx]
 rw[<-hid] at h1;simp only[Tm.av,Dbs.av] at h1 h2;cases he:(eraR d id).2 with
 |false=>
  rw[he] at h2;simp -dsimp -implicitDefEqProofs only[go_sem,seval,z6,hr,hr',YK,yF,e3,i0,h1,h2,hnil,zF,zD (Zd _ _),Ys,Ym];refine .inr (.inr ⟨rfl,d,[],_,[],⟨hv,Int.le_refl _,.inl rfl,by decide,fun t ht=>by cases ht⟩,?_,.inr ⟨[],rfl,rfl⟩⟩)
  grind [Qd]
 |true=>
  rw[he] at h2;have hst:∀X:Heap,zH (some 2) hp.length (hp++X) [.ptr r 0,.pv (some 2) (eraR d id).1.pv]=some (.undef,hp.set r (.box (some 7) (cB (eraR d id).1 g (slA (r+1) 0)))++X):=fun X=>by
   grind [Kb]
  obtain⟨K,hK⟩:∃K,K=hp.set r (.box (some 7) (cB (eraR d id).1 g (slA (r+1) 0))):=⟨_,rfl⟩;have hKl:hp.length=K.length:=by grind
  have hKr:∀X,(K++X)[r]? =some (.box (some 7) (cB (eraR d id).1 g (slA (r+1) 0))):=fun X=>by grind
  have h3:∀X,S 112 [.ptr r 0] (K++X)=some (.ret (.tuple []),hp.set r (.box (some 7) (cB (eraR d id).1 g (.tsl (some 4) [g.pv])))++X):=fun X=>by
   grind [Jz,List.set_set]
  rw[<-hK] at hst;obtain⟨e2,e1⟩:=OW he;have e:=JN (d:=d) (m:=(eraR d id).1) (g:=g) (hp:=hp) (r:=r) hgv e2 (by grind) (.inr hgn) hq;simp -dsimp -implicitDefEqProofs only[go_sem,seval,z6,hr,hr',YK,yF,e3,i0,h1,h2,hst,h3,hnil,zF,zD (Zd _ _),Ys,Ym]
  grind
end Go.Proofs.YtgedfopkiebjkaaGreatDoor
