/- ChunkShift: the walk. -/
import Derived.Test.YtmajapjbogmefaaSmall
import Derived.Test.YtmajapjbogmefaaSwap
import Derived.Test.YtmajapjbogmefaaAm5
set_option linter.unusedSimpArgs false
set_option linter.unusedVariables false
namespace Go.Proofs.Ytmajapjbogmefaa
open Go.Am
theorem fl_pred'(f:Fl):PV.part deep f.pv 0 (some 3)=some f.pred.pv:=rfl
set_option maxRecDepth 20000 in
theorem zrB(x:Fl)(d:Int)(h0:0<=d)(hd:d<=1073741824)(hval:x.valid=true)(hsm:Fl.small x=true)(ha:Tm.sizes x.args<1000000000)(hs:∀g∈x.goals,Tm.sizes g.args<1000000000)(hlen:x.goals.length<100000000)(hlim:(zaj x).length<100000000)(hgl:∀g∈x.goals,g.args.length<10000000)(hya:Tm.sizes (x.args.map (shX d))<1000000000)(hys:∀g∈(flX d x).goals,Tm.sizes g.args<1000000000)(hylim:(flX d x).valid=true->(zaj (flX d x)).length<100000000):
  S 9 [x.av,.pv none (.int .i64 d)] []=some (.ret (.pv none (.bool true)),[]):=by
 refine zaL rfl rfl rfl (zaf [(some 5,x.pv),(none,.int .i64 d)]) rfl ?_
 obtain⟨hav,hgv⟩:=zp7 hval
 have h1:=zmq x
 have h2:=fun hp=>zb0 x hp ha hs (by omega)
 have h3:=zmr
 have h4:=zt3 [.box (some 5) (.pv (some 5) x.pv)] x hval ha hs hlen hlim
 have h5:=fun hp=>zhP x.args hav (by have:(Fl.small x)=(decide ((x.args.length:Int)<=20) && decide ((x.goals.length:Int)<=100)):=rfl;rw[hsm] at this;have:=this.symm;simp only[Bool.and_eq_true,decide_eq_true_eq] at this;omega) d h0 (by omega) hp
 rw[hsm] at h1
 rw[hval] at h2
 simp only[Fl.av,hOf4,chA,List.length_cons,List.length_nil,List.cons_append,List.nil_append] at h1 h2 h4
 have c1:¬d<0:=by omega
 have c2:¬(1073741824:Int)<d:=by omega
 have hb:∀(p:PV) (es:List PV),zb5 [(some 3,.pv (some 3) (.agg [(none,.str []),(none,.int .i64 0),(none,.int .i64 0)])),(none,.tsl (some 4) []),(none,.tsl (some 6) [])] [0,1] [.pv (some 3) p,.pv none (.sl (some 4) es)]=some (.agg [(some 3,.pv (some 3) p),(none,.pv none (.sl (some 4) es)),(none,.tsl (some 6) [])]):=fun _ _=>rfl
 simp -dsimp -implicitDefEqProofs only[go_sem,seval,↓reduceIte,Fl.av,h1,h2,h3,h4,h5,c1,c2,zgK,fl_pred',hb,za1,zaA (Nat.zero_le _),List.append_assoc]
 have hyl:(flX d x).goals.length=x.goals.length:=List.length_map ..
 have hagg:flA (flX d x) 18=.agg [(some 3,.pv (some 3) x.pred.pv),(none,.pv none (.sl (some 4) (Tm.pvs (x.args.map (shX d))))),(none,.sl (some 6) 18 x.goals.length 0 x.goals.length)]:=by
  unfold flA
  rw[hyl]
  rfl
 have h15:∀(b0 b1 b2 b3 b4 b5 b6 b7 b8 b9 b10 b11 b12 b13 b14 b15 b16 b17:AObj) (e:Heap),S 15 [flA (flX d x) 18] (b0::b1::b2::b3::b4::b5::b6::b7::b8::b9::b10::b11::b12::b13::b14::b15::b16::b17::.arr (some 6) (Gl.pvs (x.goals.map (gX d))) false::e)=some (.ret (.pv none (.bool (flX d x).valid)),b0::b1::b2::b3::b4::b5::b6::b7::b8::b9::b10::b11::b12::b13::b14::b15::b16::b17::.arr (some 6) (Gl.pvs (x.goals.map (gX d))) false::e):=fun b0 b1 b2 b3 b4 b5 b6 b7 b8 b9 b10 b11 b12 b13 b14 b15 b16 b17 e=>by
  obtain⟨hp1,hz⟩:=zhK (hp:=b0::b1::b2::b3::b4::b5::b6::b7::b8::b9::b10::b11::b12::b13::b14::b15::b16::b17::.arr (some 6) (Gl.pvs (x.goals.map (gX d))) false::e) (x:=flX d x) (qg:=18) (zg:=false) rfl
  exact ziH (F:=find tab) (prim:=prim) (f:=15) (ps:=[(some 5,(flX d x).pv)]) (hp1:=hp1) rfl rfl rfl hz (zb0 (flX d x) [] hya hys (by omega))
 simp only[hagg] at h15
 refine zrG x d h0 hd (fun g hg=>(hgv g hg).1) hgl (fun g hg=>(hgv g hg).2) hlen x.pred.pv _ _ _ _ _ _ _ _ _ _ _ _ _ _ _ _ _ (by simp[AObj.refs,AV.ofComps,pures,AV.refsIn,AV.refsIn.go]) _ (fun r=> ?_)
 cases hy:(flX d x).valid with
 |false=>
  simp only[hy] at h15
  simp -dsimp -implicitDefEqProofs only[go_sem,seval,↓reduceIte,h15,h3]
 |true=>
  simp only[hy] at h15
  have h16:∀(b0 b1 b2 b3 b4 b5 b6 b7 b8 b9 b10 b11 b12 b13 b14 b15 b16 b17:AObj),S 12 [flA (flX d x) 18] [b0,b1,b2,b3,b4,b5,b6,b7,b8,b9,b10,b11,b12,b13,b14,b15,b16,b17,.arr (some 6) (Gl.pvs (x.goals.map (gX d))) false]=_:=fun b0 b1 b2 b3 b4 b5 b6 b7 b8 b9 b10 b11 b12 b13 b14 b15 b16 b17=>zt4 [b0,b1,b2,b3,b4,b5,b6,b7,b8,b9,b10,b11,b12,b13,b14,b15,b16,b17,.arr (some 6) (Gl.pvs (x.goals.map (gX d))) false] (flX d x) 18 false rfl hy hya hys (by omega) (hylim hy)
  have eF:=zp9 hy
  have eO:zb1 0 (flX d x).goals=zb1 0 x.goals:=by
   rw[eF]
   exact zmo d x.goals 0
  have eP:zea (flX d x)=(zea x).map (·+d):=by rw[eF,zmp]
  have eL:zcn (flX d x)=zcn x:=by rw[eF,zqe]
  have hpl:(zea x).length<100000000:=Nat.lt_of_le_of_lt (zrv x) hlim
  have hol:(zb1 0 x.goals).length<1000000000:=by rw[zkm];omega
  have hll:(zcn x).length<1000000000:=by unfold zcn;rw[livesOf_len'];omega
  simp only[hagg,hOf4,chA,eO,eP,eL,List.length_cons,List.length_nil,List.cons_append,List.nil_append,List.length_map] at h16
  generalize zb1 0 x.goals=A at*
  have hpb:=zrC hval
  generalize zea x=P at*
  generalize zcn x=B at*
  simp -dsimp -implicitDefEqProofs only[go_sem,seval,↓reduceIte,h15,h16,za1,zaA (Nat.zero_le _),List.append_assoc]
  refine zs3 d h0 hd P hpl hpb _ _ _ _ _ _ _ _ _ _ _ _ _ _ (fun r=> ?_)
  simp -dsimp -implicitDefEqProofs only[go_sem,seval,↓reduceIte,h3]
  have h17:=fun(hp:Heap) z0 z1 z2 z3 z4 z5=>zrD (hp:=hp) (A:=A) (P:=P.map (·+d)) (B:=B) (z0:=z0) (z1:=z1) (z2:=z2) (z3:=z3) (z4:=z4) (z5:=z5) hol (by rw[List.length_map];omega) hll
  simp only[ag3,List.length_map] at h17
  delta S at h17
  rw[h17 _ false false false false false false]
  ·simp -dsimp -implicitDefEqProofs only[go_sem,seval,↓reduceIte,h3]
  all_goals rfl
end Go.Proofs.Ytmajapjbogmefaa
namespace Go.Proofs.Ytmajapjbogmefaa
open Go.Am Go.ChangeShapes Go.WideShapes Go.ChangeAt Go.RowKit
theorem zpN(H:Type):BulkLaws (H:=H) Rows.uptoBulk Rows.uptoBulkAll where
 nil:=by simp[Rows.uptoBulkAll]
 cons d r:=by simp[Rows.uptoBulkAll]
 slice e s:=by simp[Rows.uptoBulk]
 agg l:=by simp[Rows.uptoBulk]
 string l:=by simp[Rows.uptoBulk]
theorem znJ{H:Type}{l:List (DataW H)}(hk:Rows.uptoSmall H l=true):Rows.uptoBulkAll l<=1048576:=of_decide_eq_true hk
def zmf(P:Program)(tA tT:TypeId):Bool:=
 (match P.underlying tA with|some (.slice t)=>t == tT|_=>false) &&
 (match P.underlying tT with
  |some (.struct fs)=>match fs.toList.map (·.type) with
   |[a,b,c,d]=>d == tA && (match P.underlying a with|some (.int .i64)=>true|_=>false) && (match P.underlying b with|some (.int .i64)=>true|_=>false) && (match P.underlying c with|some .string=>true|_=>false) && decide (shOf P a=none) && decide (shOf P b=none) && decide (shOf P c=none)
   |_=>false
  |_=>false) && decide (shOf P tT=some 4) && decide (shOf P tA=none)
theorem zlA{P:Program}{tA tT:TypeId}(h:zmf P tA tT=true):TermTy P tA tT:=by
 unfold zmf at h
 simp only[Bool.and_eq_true,decide_eq_true_eq] at h
 obtain⟨⟨⟨h1,h2⟩,h3⟩,h4⟩:=h
 refine⟨?_,?_⟩
 ·split at h1
  ·rename_i t ht;rw[ht];simp at h1;rw[h1]
  ·cases h1
 ·split at h2
  ·rename_i fs hfs
   split at h2
   ·rename_i a b c d hl
    simp only[Bool.and_eq_true,decide_eq_true_eq,beq_iff_eq] at h2
    obtain⟨⟨⟨⟨⟨⟨k1,k2⟩,k3⟩,k4⟩,k5⟩,k6⟩,k7⟩:=h2
    subst k1
    refine⟨fs,a,b,c,hfs,hl,?_,?_,?_,h3,h4,k5,k6,k7⟩
    ·split at k2
     ·assumption
     ·cases k2
    ·split at k3
     ·assumption
     ·cases k3
    ·split at k4
     ·assumption
     ·cases k4
   ·cases h2
  ·cases h2
theorem ztC:TermTy Try.prog 24 45:=zlA (by kernel_rfl)
def zpO:List TypeId:=[2,3,4,5,9,24,45,23,39,25,27]
theorem closed:zmc Try.prog zpO=true:=by kernel_rfl
end Go.Proofs.Ytmajapjbogmefaa
namespace Go.Proofs.Ytmajapjbogmefaa
open Go.Am Go.ChangeShapes Go.WideShapes Go.ChangeAt Go.RowKit
theorem znK(H:Type):BulkLaws2 (H:=H) Rows.uptoBulk Rows.uptoBulkAll:=
 ⟨zpN H,fun d=>by
  cases d with
  |lit l=>cases l <;> simp[Rows.uptoBulk]
  |_=>simp[Rows.uptoBulk]⟩
theorem zmg{H:Type}{enc:TypeId × Value->H}{W:World}{base:Nat}{v:Value}{d:DataW H}{ps:List MemPlace}{t:TypeId}(ht:t∈zpO)(hok:okT Try.prog t=true)(h:DataW.Trod enc Try.prog W 0 (fun _=>true) true t v d ps)(hv:Value.okWide Try.prog W .any base t v):
  ∃n p,AR W (noX (P:=Try.prog)) noμ [] (.pv (shOf Try.prog t) p) v/\wt Try.prog n t p/\p.sz<=Rows.uptoBulk d:=by
 obtain⟨fuel,h0⟩:=h
 obtain⟨p,hp⟩:=zpH closed fuel _ _ _ _ ht h0
 obtain⟨h1,h2⟩:=zpI (znK H) fuel _ _ _ hp
 exact⟨fuel,p,ztx ⟨fuel,h0⟩ hok hp (znE hv),h1,h2⟩
end Go.Proofs.Ytmajapjbogmefaa
namespace Go.Proofs.Ytmajapjbogmefaa
open Go.Am Go.ChangeShapes Go.WideShapes Go.ChangeAt Go.RowKit
theorem zpP{n:Nat}{p:PV}(h:wt Try.prog n 23 p):∃x:Pr,p=x.pv:=by
 obtain⟨m,l,rfl,h'⟩:=zgO (ts:=[9,3,2]) (by kernel_rfl) h
 obtain⟨a,l,rfl,ha,h⟩:=za0 h'
 obtain⟨b,l,rfl,hb,h⟩:=za0 h
 obtain⟨c,l,rfl,hc,h⟩:=za0 h
 obtain rfl:=zfs h
 obtain⟨x,rfl⟩:=ztA (by kernel_rfl) ha
 obtain⟨y,rfl,_⟩:=zkf (by kernel_rfl) hb
 obtain⟨z,rfl,_⟩:=zkf (by kernel_rfl) hc
 refine⟨⟨x,y,z⟩,?_⟩
 rw[show shOf Try.prog 9=none from by kernel_rfl,show shOf Try.prog 3=none from by kernel_rfl,show shOf Try.prog 2=none from by kernel_rfl]
 rfl
theorem zpQ{n:Nat}{p:PV}(h:wt Try.prog n 24 p):∃l:List Tm,p=.sl (some 4) (Tm.pvs l)/\Tm.rngs l:=(zpK ztC n).2 p h
theorem zsQ{n:Nat}{p:PV}(h:wt Try.prog n 39 p):∃x:Gl,p=x.pv:=by
 obtain⟨m,l,rfl,h'⟩:=zgO (ts:=[3,23,24,2]) (by kernel_rfl) h
 obtain⟨a,l,rfl,ha,h⟩:=za0 h'
 obtain⟨b,l,rfl,hb,h⟩:=za0 h
 obtain⟨c,l,rfl,hc,h⟩:=za0 h
 obtain⟨d,l,rfl,hd,h⟩:=za0 h
 obtain rfl:=zfs h
 obtain⟨x,rfl,_⟩:=zkf (by kernel_rfl) ha
 obtain⟨y,rfl⟩:=zpP hb
 obtain⟨z,rfl,_⟩:=zpQ hc
 obtain⟨w,rfl,_⟩:=zkf (by kernel_rfl) hd
 refine⟨⟨x,y,z,w⟩,?_⟩
 rw[show shOf Try.prog 3=none from by kernel_rfl,show shOf Try.prog 23=some 3 from by kernel_rfl,show shOf Try.prog 24=none from by kernel_rfl,show shOf Try.prog 2=none from by kernel_rfl]
 rfl
theorem zsR{n:Nat}{p:PV}(h:wt Try.prog n 27 p):∃x:Fl,p=x.pv:=by
 obtain⟨m,l,rfl,h'⟩:=zgO (ts:=[23,24,25]) (by kernel_rfl) h
 obtain⟨a,l,rfl,ha,h⟩:=za0 h'
 obtain⟨b,l,rfl,hb,h⟩:=za0 h
 obtain⟨c,l,rfl,hc,h⟩:=za0 h
 obtain rfl:=zfs h
 obtain⟨x,rfl⟩:=zpP ha
 obtain⟨y,rfl,_⟩:=zpQ hb
 obtain⟨k,es,rfl,he⟩:=zrm (e:=39) (by kernel_rfl) hc
 obtain⟨gs,rfl,_⟩:=zpL (f:=Gl.pv) (Q:=fun _=>True) es fun x hx=>by
  obtain⟨g,rfl⟩:=zsQ (he x hx)
  exact⟨g,rfl,trivial⟩
 refine⟨⟨x,y,gs⟩,?_⟩
 rw[show shOf Try.prog 23=some 3 from by kernel_rfl,show shOf Try.prog 24=none from by kernel_rfl,show shOf Try.prog 25=none from by kernel_rfl,show shOf Try.prog 39=some 6 from by kernel_rfl]
 rfl
theorem zpR{H:Type}{enc:TypeId × Value->H}{W:World}{base:Nat}{v:Value}{d:DataW H}{ps:List MemPlace}(h:DataW.Trod enc Try.prog W 0 (fun _=>true) true 27 v d ps)(hv:Value.okWide Try.prog W .any base 27 v):
  ∃f:Fl,AR W (noX (P:=Try.prog)) noμ [] f.av v/\f.pv.sz<=Rows.uptoBulk d:=by
 obtain⟨n,p,h1,h2,h3⟩:=zmg (by decide) (by kernel_rfl) h hv
 obtain⟨f,rfl⟩:=zsR h2
 rw[show shOf Try.prog 27=some 5 from by kernel_rfl] at h1
 exact⟨f,h1,h3⟩
theorem zrn{H:Type}{enc:TypeId × Value->H}{W:World}{base:Nat}{v:Value}{d:DataW H}{ps:List MemPlace}(h:DataW.Trod enc Try.prog W 0 (fun _=>true) true 2 v d ps)(hv:Value.okWide Try.prog W .any base 2 v):
  ∃x:Int,AR W (noX (P:=Try.prog)) noμ [] (.pv none (.int .i64 x)) v/\zly x:=by
 obtain⟨n,p,h1,h2,h3⟩:=zmg (by decide) (by kernel_rfl) h hv
 obtain⟨x,rfl,hx⟩:=zkf (by kernel_rfl) h2
 rw[show shOf Try.prog 2=none from by kernel_rfl] at h1
 exact⟨x,h1,hx⟩
end Go.Proofs.Ytmajapjbogmefaa
