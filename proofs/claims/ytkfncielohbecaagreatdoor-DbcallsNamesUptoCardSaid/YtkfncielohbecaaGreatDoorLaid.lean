/- What is proved: which predicates belong to the layer and which are reserved, by the program and by the reference. -/
import Derived.Test.YtkfncielohbecaaGreatDoorTerm
import Derived.Test.YtkfncielohbecaaGreatDoorAm5
import Derived.Test.YtkfncielohbecaaGreatDoorAm6
import Derived.Test.YtkfncielohbecaaGreatDoorCards
import Derived.Test.YtkfncielohbecaaGreatDoorTie
import Derived.ProofKit
import Derived.OpenShut
import Derived.Lay
import Derived.Deep.DeepHandedRow
import Derived.Deep.DeepWitnessRowRef
import Derived.Lib.LaidTab
import Derived.SevenTiedAt
set_option linter.unusedSimpArgs false
set_option linter.unusedVariables false
namespace Go.Proofs.YtkfncielohbecaaGreatDoor
open Go.Am
def strs(l:List (List UInt8)):List PV:=l.map .str
theorem zeZ(l:List (List UInt8)):(strs l).length=l.length:=by simp[strs]
theorem ze0{l:List (List UInt8)}{i:Nat}{s:List UInt8}(h:l[i]? =some s):(strs l)[i]? =some (.str s):=by simp[strs,h]
def idxI:List (List UInt8)->List UInt8->Nat->Int
 |[],_,_=> -1
 |x::r,s,k=>if s=x then k else idxI r s (k+1)
theorem zfK:∀(l:List (List UInt8)) (s:List UInt8) (k:Nat),0<=idxI l s k↔s∈l
 |[],s,k=>by simp[idxI]
 |x::r,s,k=>by
  unfold idxI
  split
  ·rename_i h;simp[h]
  ·rename_i h;rw[zfK r s (k+1)];simp[h]
theorem znC(l:List (List UInt8))(s:List UInt8)(hl:l.length<=1000000)(hp:Heap):S 49 [.pv none (.sl none (strs l)),.pv none (.str s)] hp=some (.ret (.pv none (.int .i64 (idxI l s 0))),hp):=by
 refine zb5 rfl rfl rfl (zax [(none,.sl none (strs l)),(none,.str s)]) rfl ?_
 simp -dsimp -implicitDefEqProofs only[go_sem,seval,↓reduceIte,zeZ]
 refine zoO (α:=Unit) l.length (fun i _=>idxI l s 0=idxI (l.drop i) s i) (fun i _=>⟨[(0,.pv none (.sl none (strs l))),(1,.pv none (.str s)),(7,.pv none (.int .i64 l.length)),(8,.pv none (.int .i64 i))],[]⟩) () ⟨rfl,rfl⟩ ?_ ?_
 ·rintro i - h hinv
  have hc:(i:Int)<(l.length:Int):=by omega
  obtain⟨u,hu⟩:∃u,l[i]? =some u:=⟨_,List.getElem?_eq_getElem h⟩
  have w2:IntKind.i64.wrap ((i:Int)+1)=((i+1:Nat):Int):=by rw[znQ (by omega) (by omega)];omega
  have hd:l.drop i=u::l.drop (i+1):=by
   have hlt:=(List.getElem?_eq_some_iff.1 hu).1
   rw[List.drop_eq_getElem_cons hlt]
   congr 1
   exact(List.getElem?_eq_some_iff.1 hu).2
  rw[hd,idxI] at hinv
  by_cases hs:s=u
  ·rw[if_pos hs] at hinv
   subst hs
   simp -dsimp -implicitDefEqProofs only[go_sem,seval,↓reduceIte,hc,zc9 (ze0 hu),hinv]
  ·rw[if_neg hs] at hinv
   simp -dsimp -implicitDefEqProofs only[go_sem,seval,↓reduceIte,hc,zc9 (ze0 hu),hs,w2]
   exact⟨(),hinv⟩
 ·rintro - hinv
  have hc:¬(l.length:Int)<(l.length:Int):=by omega
  rw[List.drop_length,idxI] at hinv
  simp -dsimp -implicitDefEqProofs only[go_sem,seval,↓reduceIte,hc,hinv]
theorem zaQ(l:List (List UInt8))(s:List UInt8)(hl:l.length<=1000000)(hp:Heap):S 16 [.pv none (.sl none (strs l)),.pv none (.str s)] hp=some (.ret (.pv none (.bool (decide (s∈l)))),hp):=by
 refine zb5 rfl rfl rfl (zax [(none,.sl none (strs l)),(none,.str s)]) rfl ?_
 have h:=znC l s hl
 have e:decide (0<=idxI l s 0)=decide (s∈l):=by simp[zfK]
 simp -dsimp -implicitDefEqProofs only[go_sem,seval,↓reduceIte,h,e]
def nm0:List (List UInt8):=[[116,114,117,101],[102,97,105,108],[33],[104,97,108,116],[110,108],[102,108,117,115,104,95,111,117,116,112,117,116],[97,116,95,101,110,100,95,111,102,95,115,116,114,101,97,109]]
def rs0:List UInt8:=[116,114,117,101,32,102,97,105,108,32,33,32,104,97,108,116,32,110,108,32,102,108,117,115,104,95,111,117,116,112,117,116,32,97,116,95,101,110,100,95,111,102,95,115,116,114,101,97,109]
def nm1:List (List UInt8):=[[92,43],[111,110,99,101],[99,97,108,108],[116,104,114,111,119],[114,101,116,114,97,99,116],[118,97,114],[110,111,110,118,97,114],[97,116,111,109],[105,110,116,101,103,101,114],[97,116,111,109,105,99],[99,111,109,112,111,117,110,100],[99,97,108,108,97,98,108,101],[105,115,95,108,105,115,116],[103,114,111,117,110,100],[97,115,115,101,114,116,97],[97,115,115,101,114,116,122],[97,98,111,108,105,115,104],[100,121,110,97,109,105,99],[99,117,114,114,101,110,116,95,112,114,101,100,105,99,97,116,101],[36,101,114,97,115,101],[99,117,114,114,101,110,116,95,105,110,112,117,116],[99,117,114,114,101,110,116,95,111,117,116,112,117,116],[115,101,116,95,105,110,112,117,116],[115,101,116,95,111,117,116,112,117,116],[99,108,111,115,101],[102,108,117,115,104,95,111,117,116,112,117,116],[97,116,95,101,110,100,95,111,102,95,115,116,114,101,97,109],[103,101,116,95,99,104,97,114],[112,101,101,107,95,99,104,97,114],[112,117,116,95,99,104,97,114],[103,101,116,95,99,111,100,101],[112,101,101,107,95,99,111,100,101],[112,117,116,95,99,111,100,101],[110,108],[114,101,97,100],[119,114,105,116,101],[119,114,105,116,101,113],[119,114,105,116,101,95,99,97,110,111,110,105,99,97,108]]
def rs1:List UInt8:=[92,43,32,111,110,99,101,32,99,97,108,108,32,116,104,114,111,119,32,114,101,116,114,97,99,116,32,118,97,114,32,110,111,110,118,97,114,32,97,116,111,109,32,105,110,116,101,103,101,114,32,97,116,111,109,105,99,32,99,111,109,112,111,117,110,100,32,99,97,108,108,97,98,108,101,32,105,115,95,108,105,115,116,32,103,114,111,117,110,100,32,97,115,115,101,114,116,97,32,97,115,115,101,114,116,122,32,97,98,111,108,105,115,104,32,100,121,110,97,109,105,99,32,99,117,114,114,101,110,116,95,112,114,101,100,105,99,97,116,101,32,36,101,114,97,115,101,32,99,117,114,114,101,110,116,95,105,110,112,117,116,32,99,117,114,114,101,110,116,95,111,117,116,112,117,116,32,115,101,116,95,105,110,112,117,116,32,115,101,116,95,111,117,116,112,117,116,32,99,108,111,115,101,32,102,108,117,115,104,95,111,117,116,112,117,116,32,97,116,95,101,110,100,95,111,102,95,115,116,114,101,97,109,32,103,101,116,95,99,104,97,114,32,112,101,101,107,95,99,104,97,114,32,112,117,116,95,99,104,97,114,32,103,101,116,95,99,111,100,101,32,112,101,101,107,95,99,111,100,101,32,112,117,116,95,99,111,100,101,32,110,108,32,114,101,97,100,32,119,114,105,116,101,32,119,114,105,116,101,113,32,119,114,105,116,101,95,99,97,110,111,110,105,99,97,108]
def nm2:List (List UInt8):=[[44],[59],[45,62],[61],[100,101,108,95,97,116,116,114],[99,97,108,108],[99,117,114,114,101,110,116,95,99,104,97,114,95,99,111,110,118,101,114,115,105,111,110],[99,104,97,114,95,99,111,110,118,101,114,115,105,111,110],[115,101,116,95,112,114,111,108,111,103,95,102,108,97,103],[99,117,114,114,101,110,116,95,112,114,111,108,111,103,95,102,108,97,103],[105,115],[61,58,61],[61,92,61],[60],[62],[61,60],[62,61],[61,61],[92,61,61],[64,60],[64,61,60],[64,62],[64,62,61],[92,61],[61,46,46],[99,111,112,121,95,116,101,114,109],[116,101,114,109,95,118,97,114,105,97,98,108,101,115],[108,101,110,103,116,104],[109,115,111,114,116],[115,111,114,116],[107,101,121,115,111,114,116],[97,116,111,109,95,108,101,110,103,116,104],[97,116,111,109,95,99,104,97,114,115],[97,116,111,109,95,99,111,100,101,115],[99,104,97,114,95,99,111,100,101],[110,117,109,98,101,114,95,99,104,97,114,115],[110,117,109,98,101,114,95,99,111,100,101,115],[99,108,97,117,115,101],[99,108,111,115,101],[103,101,116,95,99,104,97,114],[112,101,101,107,95,99,104,97,114],[112,117,116,95,99,104,97,114],[103,101,116,95,99,111,100,101],[112,101,101,107,95,99,111,100,101],[112,117,116,95,99,111,100,101],[114,101,97,100],[114,101,97,100,95,116,101,114,109],[119,114,105,116,101],[119,114,105,116,101,113],[119,114,105,116,101,95,99,97,110,111,110,105,99,97,108],[119,114,105,116,101,95,116,101,114,109]]
def rs2:List UInt8:=[44,32,59,32,45,62,32,61,32,100,101,108,95,97,116,116,114,32,99,97,108,108,32,99,117,114,114,101,110,116,95,99,104,97,114,95,99,111,110,118,101,114,115,105,111,110,32,99,104,97,114,95,99,111,110,118,101,114,115,105,111,110,32,115,101,116,95,112,114,111,108,111,103,95,102,108,97,103,32,99,117,114,114,101,110,116,95,112,114,111,108,111,103,95,102,108,97,103,32,105,115,32,61,58,61,32,61,92,61,32,60,32,62,32,61,60,32,62,61,32,61,61,32,92,61,61,32,64,60,32,64,61,60,32,64,62,32,64,62,61,32,92,61,32,61,46,46,32,99,111,112,121,95,116,101,114,109,32,116,101,114,109,95,118,97,114,105,97,98,108,101,115,32,108,101,110,103,116,104,32,109,115,111,114,116,32,115,111,114,116,32,107,101,121,115,111,114,116,32,97,116,111,109,95,108,101,110,103,116,104,32,97,116,111,109,95,99,104,97,114,115,32,97,116,111,109,95,99,111,100,101,115,32,99,104,97,114,95,99,111,100,101,32,110,117,109,98,101,114,95,99,104,97,114,115,32,110,117,109,98,101,114,95,99,111,100,101,115,32,99,108,97,117,115,101,32,99,108,111,115,101,32,103,101,116,95,99,104,97,114,32,112,101,101,107,95,99,104,97,114,32,112,117,116,95,99,104,97,114,32,103,101,116,95,99,111,100,101,32,112,101,101,107,95,99,111,100,101,32,112,117,116,95,99,111,100,101,32,114,101,97,100,32,114,101,97,100,95,116,101,114,109,32,119,114,105,116,101,32,119,114,105,116,101,113,32,119,114,105,116,101,95,99,97,110,111,110,105,99,97,108,32,119,114,105,116,101,95,116,101,114,109]
def nm3:List (List UInt8):=[[99,97,108,108],[99,97,116,99,104],[102,105,110,100,97,108,108],[98,97,103,111,102],[115,101,116,111,102],[112,117,116,95,97,116,116,114],[103,101,116,95,97,116,116,114],[111,112],[99,117,114,114,101,110,116,95,111,112],[99,111,109,112,97,114,101],[102,117,110,99,116,111,114],[97,114,103],[98,101,116,119,101,101,110],[97,116,111,109,95,99,111,110,99,97,116],[36,99,108,97,117,115,101],[36,98,97,103],[36,115,101,116],[111,112,101,110],[114,101,97,100,95,116,101,114,109],[119,114,105,116,101,95,116,101,114,109]]
def rs3:List UInt8:=[99,97,108,108,32,99,97,116,99,104,32,102,105,110,100,97,108,108,32,98,97,103,111,102,32,115,101,116,111,102,32,112,117,116,95,97,116,116,114,32,103,101,116,95,97,116,116,114,32,111,112,32,99,117,114,114,101,110,116,95,111,112,32,99,111,109,112,97,114,101,32,102,117,110,99,116,111,114,32,97,114,103,32,98,101,116,119,101,101,110,32,97,116,111,109,95,99,111,110,99,97,116,32,36,99,108,97,117,115,101,32,36,98,97,103,32,36,115,101,116,32,111,112,101,110,32,114,101,97,100,95,116,101,114,109,32,119,114,105,116,101,95,116,101,114,109]
def nm4:List (List UInt8):=[[99,97,108,108],[111,112,101,110]]
def rs4:List UInt8:=[99,97,108,108,32,111,112,101,110]
def nm5:List (List UInt8):=[[99,97,108,108],[115,117,98,95,97,116,111,109]]
def rs5:List UInt8:=[99,97,108,108,32,115,117,98,95,97,116,111,109]
def nm6:List (List UInt8):=[[99,97,108,108]]
def rs6:List UInt8:=[99,97,108,108]
def zaN(n:Int):List (List UInt8):=if n=0 then nm0 else if n=1 then nm1 else if n=2 then nm2 else if n=3 then nm3 else if n=4 then nm4 else if n=5 then nm5 else if n=6 then nm6 else if n=7 then nm6 else if n=8 then nm6 else[]
def rsOf:List PV:=[.str rs0,.str rs1,.str rs2,.str rs3,.str rs4,.str rs5,.str rs6,.str rs6,.str rs6]
theorem zaR{s:List UInt8}{l:List (List UInt8)}(h1:decide (s.length<4294967281)=true)(h2:s.all (fun b=>decide (b.toNat<128))=true)(h3:Lib.fields s=l)(hp:Heap):S 17 [.pv none (.str s)] hp=some (.ret (.pv none (.sl none (strs l))),hp):=by
 have h:zbs 17 [.pv none (.str s)] hp=some (.ret (.pv none (.sl none (strs l))),hp):=by
  unfold zbs
  simp only[]
  rw[if_pos ⟨of_decide_eq_true h1,h2⟩,h3]
  rfl
 rw[S,zjX (F:=find tab) (prim:=prim) (p:=zbs) rfl]
 exact h
theorem fl0(hp:Heap):S 17 [.pv none (.str rs0)] hp=some (.ret (.pv none (.sl none (strs nm0))),hp):=zaR (by kernel_rfl) (by kernel_rfl) (by kernel_rfl) hp
theorem fl1(hp:Heap):S 17 [.pv none (.str rs1)] hp=some (.ret (.pv none (.sl none (strs nm1))),hp):=zaR (by kernel_rfl) (by kernel_rfl) (by kernel_rfl) hp
theorem fl2(hp:Heap):S 17 [.pv none (.str rs2)] hp=some (.ret (.pv none (.sl none (strs nm2))),hp):=zaR (by kernel_rfl) (by kernel_rfl) (by kernel_rfl) hp
theorem fl3(hp:Heap):S 17 [.pv none (.str rs3)] hp=some (.ret (.pv none (.sl none (strs nm3))),hp):=zaR (by kernel_rfl) (by kernel_rfl) (by kernel_rfl) hp
theorem fl4(hp:Heap):S 17 [.pv none (.str rs4)] hp=some (.ret (.pv none (.sl none (strs nm4))),hp):=zaR (by kernel_rfl) (by kernel_rfl) (by kernel_rfl) hp
theorem fl5(hp:Heap):S 17 [.pv none (.str rs5)] hp=some (.ret (.pv none (.sl none (strs nm5))),hp):=zaR (by kernel_rfl) (by kernel_rfl) (by kernel_rfl) hp
theorem fl6(hp:Heap):S 17 [.pv none (.str rs6)] hp=some (.ret (.pv none (.sl none (strs nm6))),hp):=zaR (by kernel_rfl) (by kernel_rfl) (by kernel_rfl) hp
theorem ziv:S 18 [] []=some (.ret (.pv (some 9) (.agg (rsOf.map fun p=>(none,p)))),[]):=sem_iff.2 ⟨20,by kernel_rfl⟩
theorem zjs(s:List UInt8)(n:Int)(hp:Heap):S 7 [.pv none (.str s),.pv none (.int .i64 n)] hp=some (.ret (.pv none (.bool (decide (s∈zaN n)))),hp):=by
 refine zb5 rfl rfl rfl (zax [(none,.str s),(none,.int .i64 n)]) rfl ?_
 have hr:=ziv
 by_cases h0:n=0
 ·subst h0
  have e:zaN 0=nm0:=rfl
  have ha:∀s':Sh,zba 9 [.pv s' (.agg (rsOf.map fun p=>(none,p))),.pv none (.int .i64 0)]=some (.pv none (.str rs0)):=fun s'=>rfl
  have hc:=zaQ nm0 s (by decide)
  rw[e]
  generalize decide (s∈nm0)=q at hc
  simp -dsimp -implicitDefEqProofs only[go_sem,seval,↓reduceIte,hr,ha,fl0,hc]
 by_cases h1:n=1
 ·subst h1
  have e:zaN 1=nm1:=rfl
  have ha:∀s':Sh,zba 9 [.pv s' (.agg (rsOf.map fun p=>(none,p))),.pv none (.int .i64 1)]=some (.pv none (.str rs1)):=fun s'=>rfl
  have hc:=zaQ nm1 s (by decide)
  rw[e]
  generalize decide (s∈nm1)=q at hc
  simp -dsimp -implicitDefEqProofs only[go_sem,seval,↓reduceIte,hr,ha,fl1,hc]
 by_cases h2:n=2
 ·subst h2
  have e:zaN 2=nm2:=rfl
  have ha:∀s':Sh,zba 9 [.pv s' (.agg (rsOf.map fun p=>(none,p))),.pv none (.int .i64 2)]=some (.pv none (.str rs2)):=fun s'=>rfl
  have hc:=zaQ nm2 s (by decide)
  rw[e]
  generalize decide (s∈nm2)=q at hc
  simp -dsimp -implicitDefEqProofs only[go_sem,seval,↓reduceIte,hr,ha,fl2,hc]
 by_cases h3:n=3
 ·subst h3
  have e:zaN 3=nm3:=rfl
  have ha:∀s':Sh,zba 9 [.pv s' (.agg (rsOf.map fun p=>(none,p))),.pv none (.int .i64 3)]=some (.pv none (.str rs3)):=fun s'=>rfl
  have hc:=zaQ nm3 s (by decide)
  rw[e]
  generalize decide (s∈nm3)=q at hc
  simp -dsimp -implicitDefEqProofs only[go_sem,seval,↓reduceIte,hr,ha,fl3,hc]
 by_cases h4:n=4
 ·subst h4
  have e:zaN 4=nm4:=rfl
  have ha:∀s':Sh,zba 9 [.pv s' (.agg (rsOf.map fun p=>(none,p))),.pv none (.int .i64 4)]=some (.pv none (.str rs4)):=fun s'=>rfl
  have hc:=zaQ nm4 s (by decide)
  rw[e]
  generalize decide (s∈nm4)=q at hc
  simp -dsimp -implicitDefEqProofs only[go_sem,seval,↓reduceIte,hr,ha,fl4,hc]
 by_cases h5:n=5
 ·subst h5
  have e:zaN 5=nm5:=rfl
  have ha:∀s':Sh,zba 9 [.pv s' (.agg (rsOf.map fun p=>(none,p))),.pv none (.int .i64 5)]=some (.pv none (.str rs5)):=fun s'=>rfl
  have hc:=zaQ nm5 s (by decide)
  rw[e]
  generalize decide (s∈nm5)=q at hc
  simp -dsimp -implicitDefEqProofs only[go_sem,seval,↓reduceIte,hr,ha,fl5,hc]
 by_cases h6:n=6
 ·subst h6
  have e:zaN 6=nm6:=rfl
  have ha:∀s':Sh,zba 9 [.pv s' (.agg (rsOf.map fun p=>(none,p))),.pv none (.int .i64 6)]=some (.pv none (.str rs6)):=fun s'=>rfl
  have hc:=zaQ nm6 s (by decide)
  rw[e]
  generalize decide (s∈nm6)=q at hc
  simp -dsimp -implicitDefEqProofs only[go_sem,seval,↓reduceIte,hr,ha,fl6,hc]
 by_cases h7:n=7
 ·subst h7
  have e:zaN 7=nm6:=rfl
  have ha:∀s':Sh,zba 9 [.pv s' (.agg (rsOf.map fun p=>(none,p))),.pv none (.int .i64 7)]=some (.pv none (.str rs6)):=fun s'=>rfl
  have hc:=zaQ nm6 s (by decide)
  rw[e]
  generalize decide (s∈nm6)=q at hc
  simp -dsimp -implicitDefEqProofs only[go_sem,seval,↓reduceIte,hr,ha,fl6,hc]
 by_cases h8:n=8
 ·subst h8
  have e:zaN 8=nm6:=rfl
  have ha:∀s':Sh,zba 9 [.pv s' (.agg (rsOf.map fun p=>(none,p))),.pv none (.int .i64 8)]=some (.pv none (.str rs6)):=fun s'=>rfl
  have hc:=zaQ nm6 s (by decide)
  rw[e]
  generalize decide (s∈nm6)=q at hc
  simp -dsimp -implicitDefEqProofs only[go_sem,seval,↓reduceIte,hr,ha,fl6,hc]
 have e:zaN n=[]:=by simp[zaN,h0,h1,h2,h3,h4,h5,h6,h7,h8]
 rw[e]
 by_cases hn:n<0
 ·simp -dsimp -implicitDefEqProofs only[go_sem,seval,↓reduceIte,hn]
  simp
 ·have hn2:8<n:=by omega
  simp -dsimp -implicitDefEqProofs only[go_sem,seval,↓reduceIte,hn,hn2]
  simp
theorem zmL(n:Int)(hp:Heap):S 19 [.pv none (.int .i64 n)] hp=some (.ret (.pv none (.sl none (strs (zaN n)))),hp):=by
 refine zb5 rfl rfl rfl (zax [(none,.int .i64 n)]) rfl ?_
 by_cases h0:n=0
 ·subst h0
  simp -dsimp -implicitDefEqProofs only[go_sem,seval,↓reduceIte,zcb (sh:=none) (by decide)]
  rfl
 by_cases h1:n=1
 ·subst h1
  simp -dsimp -implicitDefEqProofs only[go_sem,seval,↓reduceIte,zcb (sh:=none) (by decide)]
  rfl
 by_cases h2:n=2
 ·subst h2
  simp -dsimp -implicitDefEqProofs only[go_sem,seval,↓reduceIte,zcb (sh:=none) (by decide)]
  rfl
 by_cases h3:n=3
 ·subst h3
  simp -dsimp -implicitDefEqProofs only[go_sem,seval,↓reduceIte,zcb (sh:=none) (by decide)]
  rfl
 by_cases h4:n=4
 ·subst h4
  simp -dsimp -implicitDefEqProofs only[go_sem,seval,↓reduceIte,zcb (sh:=none) (by decide)]
  rfl
 by_cases h5:n=5
 ·subst h5
  simp -dsimp -implicitDefEqProofs only[go_sem,seval,↓reduceIte,zcb (sh:=none) (by decide)]
  rfl
 by_cases h6:n=6
 ·subst h6
  simp -dsimp -implicitDefEqProofs only[go_sem,seval,↓reduceIte,zcb (sh:=none) (by decide)]
  rfl
 by_cases h7:n=7
 ·subst h7
  simp -dsimp -implicitDefEqProofs only[go_sem,seval,↓reduceIte,zcb (sh:=none) (by decide)]
  rfl
 by_cases h8:n=8
 ·subst h8
  simp -dsimp -implicitDefEqProofs only[go_sem,seval,↓reduceIte,zcb (sh:=none) (by decide)]
  rfl
 have e:zaN n=[]:=by simp[zaN,h0,h1,h2,h3,h4,h5,h6,h7,h8]
 rw[e]
 simp -dsimp -implicitDefEqProofs only[go_sem,seval,↓reduceIte,h0,h1,h2,h3,h4,h5,h6,h7,h8,zcb (sh:=none) (by decide)]
 rfl
theorem ziw(s:List UInt8)(n:Int)(hp:Heap):S 8 [.pv none (.str s),.pv none (.int .i64 n)] hp=some (.ret (.pv none (.bool (decide (s∈zaN n)))),hp):=by
 refine zb5 rfl rfl rfl (zax [(none,.str s),(none,.int .i64 n)]) rfl ?_
 have h:=zmL n
 have hl:(zaN n).length<=100:=by unfold zaN;(repeat' split) <;> decide
 generalize zaN n=l at h hl
 simp -dsimp -implicitDefEqProofs only[go_sem,seval,↓reduceIte,h]
 refine zoO (α:=Unit) l.length (fun i _=>decide (s∈l)=decide (s∈l.drop i)) (fun i _=>⟨[(0,.pv none (.str s)),(5,.pv none (.sl none (strs l))),(6,.pv none (.int .i64 i))],[]⟩) () ⟨rfl,rfl⟩ ?_ ?_
 ·rintro i - h hinv
  have hc:(i:Int)<(l.length:Int):=by omega
  obtain⟨u,hu⟩:∃u,l[i]? =some u:=⟨_,List.getElem?_eq_getElem h⟩
  have w2:IntKind.i64.wrap ((i:Int)+1)=((i+1:Nat):Int):=by rw[znQ (by omega) (by omega)];omega
  have hd:l.drop i=u::l.drop (i+1):=by
   have hlt:=(List.getElem?_eq_some_iff.1 hu).1
   rw[List.drop_eq_getElem_cons hlt]
   congr 1
   exact(List.getElem?_eq_some_iff.1 hu).2
  rw[hd] at hinv
  by_cases hs:u=s
  ·subst hs
   have hinv:decide (u∈l)=true:=by rw[hinv];simp
   simp -dsimp -implicitDefEqProofs only[go_sem,seval,↓reduceIte,hc,zeZ,zc9 (ze0 hu),hinv]
  ·have hinv:decide (s∈l)=decide (s∈l.drop (i+1)):=by rw[hinv];simp[Ne.symm hs]
   simp -dsimp -implicitDefEqProofs only[go_sem,seval,↓reduceIte,hc,zeZ,zc9 (ze0 hu),hs,w2]
   exact⟨(),hinv⟩
 ·rintro - hinv
  have hc:¬(l.length:Int)<(l.length:Int):=by omega
  have hinv:decide (s∈l)=false:=by rw[hinv];simp
  simp -dsimp -implicitDefEqProofs only[go_sem,seval,↓reduceIte,hc,zeZ,hinv]
def pkeys:List (List UInt8 × Int):=(List.range 8).map fun e=>(prS e,prN e)
theorem zjt:pkeys.Nodup:=by decide
theorem zfL(s:List UInt8)(n:Int):∀rows:List ((List UInt8 × Int) × PV),(rows.map (·.1)).Nodup->∃r,afindr [1,0] [(none,.str s),(none,.int .i64 n)] (rows.map fun x=>(.agg [(none,.str x.1.1),(none,.int .i64 x.1.2)],x.2))=some r/\r.isSome=decide ((s,n)∈rows.map (·.1))
 |[],_=>⟨none,rfl,rfl⟩
 |x::l,hd=>by
  rw[List.map_cons,List.nodup_cons] at hd
  obtain⟨r,h1,h2⟩:=zfL s n l hd.2
  by_cases h:s=x.1.1/\n=x.1.2
  ·obtain⟨e1,e2⟩:=h
   have hx:(s,n)=x.1:=by rw[e1,e2]
   have hr:r=none:=by
    rw[hx] at h2
    rw[decide_eq_false hd.1] at h2
    simpa using h2
   subst hr
   refine⟨some x.2,?_,by simp[hx]⟩
   have h1':=h1
   subst e1;subst e2
   simp[afindr,zag,h1']
  ·refine⟨r,?_,by
    rw[h2]
    have:(s,n)≠x.1:=fun e=>h ⟨by rw[<-e],by rw[<-e]⟩
    simp[this]⟩
   by_cases hs:s=x.1.1
   ·have hn:n≠x.1.2:=fun e=>h ⟨hs,e⟩
    simp[afindr,zag,hs,hn]
    rw[<-hs]
    exact h1
   ·simp[afindr,zag,hs,h1]
theorem zix(s:List UInt8)(n:Int)(z:AV)(s':Sh):∃u,zbt [1,0] none z true [.map none (zcW 8 prS prN prF)] [.map 0,.pv s' (.agg [(none,.str s),(none,.int .i64 n)])]=some (.tuple [u,.pv none (.bool (decide ((s,n)∈pkeys)))]):=by
 obtain⟨r,h1,h2⟩:=zfL s n ((List.range 8).map fun e=>((prS e,prN e),.func (.func (prF e)))) (by simpa[pkeys,List.map_map,Function.comp_def] using zjt)
 have e1:(((List.range 8).map fun e=>((prS e,prN e),PV.func (.func (prF e)))).map fun x=>(PV.agg [(none,.str x.1.1),(none,.int .i64 x.1.2)],x.2))=zcW 8 prS prN prF:=by simp[zcW,List.map_map,Function.comp_def]
 have e2:(((List.range 8).map fun e=>((prS e,prN e),PV.func (.func (prF e)))).map (·.1))=pkeys:=by simp[pkeys,List.map_map,Function.comp_def]
 rw[e1] at h1
 rw[e2] at h2
 have hk:zag [1,0] [(none,PV.str s),(none,.int .i64 n)] [(none,.str s),(none,.int .i64 n)]=some true:=by simp[zag]
 rw[<-h2]
 cases r with
 |none=>exact⟨z,by simp[zbt,hk,h1]⟩
 |some p=>exact⟨.pv none p,by simp[zbt,hk,h1]⟩
theorem znD(hp:Heap):S 15 [] hp=some (.ret (.map hp.length),hp++[.map none (zcW 8 prS prN prF)]):=by
 rw[S,zjX (F:=find tab) (prim:=prim) (p:=zfF none (zcW 8 prS prN prF)) rfl]
 rfl
theorem zoY(s:List UInt8)(n:Int)(hp:Heap):S 5 [.pv none (.str s),.pv none (.int .i64 n)] hp=some (.ret (.pv none (.bool (decide ((s,n)∈pkeys)))),hp):=by
 refine zb5 rfl rfl rfl (zax [(none,.str s),(none,.int .i64 n)]) rfl ?_
 obtain⟨u,hu⟩:=zix s n (.pv none .nilfunc) (some 2)
 have hq:=znD []
 simp only[List.length_nil,List.nil_append] at hq
 have hb:zep [(none,AV.pv none (PV.str [])),(none,AV.pv none (PV.int IntKind.i64 0))] [0,1] [AV.pv none (PV.str s),AV.pv none (PV.int IntKind.i64 n)]=some (.pv (some 2) (.agg [(none,.str s),(none,.int .i64 n)])):=rfl
 generalize zcW 8 prS prN prF=les at hu hq
 generalize decide ((s,n)∈pkeys)=q at hu
 simp -dsimp -implicitDefEqProofs only[go_sem,seval,↓reduceIte,hq,hu,hb]
theorem zoq(s:List UInt8)(n:Int)(hp:Heap):S 6 [.pv none (.str s),.pv none (.int .i64 n)] hp=some (.ret (.pv none (.bool (decide ((s,n)∈pkeys)))),hp):=by
 refine zb5 rfl rfl rfl (zax [(none,.str s),(none,.int .i64 n)]) rfl ?_
 by_cases yy0:s=[97,115,115,101,114,116,97]
 ·subst yy0
  have e:decide (([97,115,115,101,114,116,97],n)∈pkeys)=decide (n=1):=by simp[pkeys,List.range,List.range.loop,prS,prN]
  rw[e]
  simp -dsimp -implicitDefEqProofs only[go_sem,seval,↓reduceIte]
 by_cases yy1:s=[97,115,115,101,114,116,122]
 ·subst yy1
  have e:decide (([97,115,115,101,114,116,122],n)∈pkeys)=decide (n=1):=by simp[pkeys,List.range,List.range.loop,prS,prN]
  rw[e]
  simp -dsimp -implicitDefEqProofs only[go_sem,seval,↓reduceIte,yy0]
 by_cases yy2:s=[97,98,111,108,105,115,104]
 ·subst yy2
  have e:decide (([97,98,111,108,105,115,104],n)∈pkeys)=decide (n=1):=by simp[pkeys,List.range,List.range.loop,prS,prN]
  rw[e]
  simp -dsimp -implicitDefEqProofs only[go_sem,seval,↓reduceIte,yy0,yy1]
 by_cases yy3:s=[100,121,110,97,109,105,99]
 ·subst yy3
  have e:decide (([100,121,110,97,109,105,99],n)∈pkeys)=decide (n=1):=by simp[pkeys,List.range,List.range.loop,prS,prN]
  rw[e]
  simp -dsimp -implicitDefEqProofs only[go_sem,seval,↓reduceIte,yy0,yy1,yy2]
 by_cases yy4:s=[99,117,114,114,101,110,116,95,112,114,101,100,105,99,97,116,101]
 ·subst yy4
  have e:decide (([99,117,114,114,101,110,116,95,112,114,101,100,105,99,97,116,101],n)∈pkeys)=decide (n=1):=by simp[pkeys,List.range,List.range.loop,prS,prN]
  rw[e]
  simp -dsimp -implicitDefEqProofs only[go_sem,seval,↓reduceIte,yy0,yy1,yy2,yy3]
 by_cases yy5:s=[36,101,114,97,115,101]
 ·subst yy5
  have e:decide (([36,101,114,97,115,101],n)∈pkeys)=decide (n=1):=by simp[pkeys,List.range,List.range.loop,prS,prN]
  rw[e]
  simp -dsimp -implicitDefEqProofs only[go_sem,seval,↓reduceIte,yy0,yy1,yy2,yy3,yy4]
 by_cases yy6:s=[99,108,97,117,115,101]
 ·subst yy6
  have e:decide (([99,108,97,117,115,101],n)∈pkeys)=decide (n=2):=by simp[pkeys,List.range,List.range.loop,prS,prN]
  rw[e]
  simp -dsimp -implicitDefEqProofs only[go_sem,seval,↓reduceIte,yy0,yy1,yy2,yy3,yy4,yy5]
 by_cases yy7:s=[36,99,108,97,117,115,101]
 ·subst yy7
  have e:decide (([36,99,108,97,117,115,101],n)∈pkeys)=decide (n=3):=by simp[pkeys,List.range,List.range.loop,prS,prN]
  rw[e]
  simp -dsimp -implicitDefEqProofs only[go_sem,seval,↓reduceIte,yy0,yy1,yy2,yy3,yy4,yy5,yy6]
 have e:decide ((s,n)∈pkeys)=false:=by simp[pkeys,List.range,List.range.loop,prS,prN,yy0,yy1,yy2,yy3,yy4,yy5,yy6,yy7]
 rw[e]
 simp -dsimp -implicitDefEqProofs only[go_sem,seval,↓reduceIte,yy0,yy1,yy2,yy3,yy4,yy5,yy6,yy7]
end Go.Proofs.YtkfncielohbecaaGreatDoor
namespace Go.Proofs.YtkfncielohbecaaGreatDoor
open Go.Am Go.ChangeShapes Go.WideShapes Go.ChangeAt Go.RowKit
theorem zmJ(H:Type):BulkLaws (H:=H) Rows.uptoBulk Rows.uptoBulkAll where
 nil:=by simp[Rows.uptoBulkAll]
 cons d r:=by simp[Rows.uptoBulkAll]
 slice e s:=by simp[Rows.uptoBulk]
 agg l:=by simp[Rows.uptoBulk]
 string l:=by simp[Rows.uptoBulk]
theorem zkZ{H:Type}{l:List (DataW H)}(hk:Rows.uptoSmall H l=true):Rows.uptoBulkAll l<=1048576:=of_decide_eq_true hk
def zmK:List TypeId:=[2,3,4,5,9,27,29,62,64,52,54,24,26]
theorem closed:zjZ Tryz.prog zmK=true:=by kernel_rfl
end Go.Proofs.YtkfncielohbecaaGreatDoor
namespace Go.Proofs.YtkfncielohbecaaGreatDoor
open Go.Am Go.ChangeShapes Go.WideShapes Go.ChangeAt Go.RowKit
theorem zk0(H:Type):BulkLaws2 (H:=H) Rows.uptoBulk Rows.uptoBulkAll:=
 ⟨zmJ H,fun d=>by
  cases d with
  |lit l=>cases l <;> simp[Rows.uptoBulk]
  |_=>simp[Rows.uptoBulk]⟩
set_option maxRecDepth 100000 in
theorem zj1{H:Type}{enc:TypeId × Value->H}{W:World}{base:Nat}{v:Value}{d:DataW H}{ps:List MemPlace}{t:TypeId}(ht:t∈zmK)(hok:okT Tryz.prog t=true)(h:DataW.Trod enc Tryz.prog W 0 (fun _=>true) true t v d ps)(hv:Value.okWide Tryz.prog W .any base t v):
  ∃n p,AR W (noX (P:=Tryz.prog)) noμ [] (.pv (shOf Tryz.prog t) p) v/\wt Tryz.prog n t p/\p.sz<=Rows.uptoBulk d:=by
 obtain⟨fuel,h0⟩:=h
 obtain⟨p,hp⟩:=zmD closed fuel _ _ _ _ ht h0
 obtain⟨h1,h2⟩:=zmE (zk0 H) fuel _ _ _ hp
 exact⟨fuel,p,zoP ⟨fuel,h0⟩ hok hp (zkX hv),h1,h2⟩
end Go.Proofs.YtkfncielohbecaaGreatDoor
namespace Go.Proofs.YtkfncielohbecaaGreatDoor
open Go.Am Go.ChangeShapes Go.WideShapes Go.ChangeAt Go.RowKit
set_option maxRecDepth 100000 in
theorem znA{H:Type}{enc:TypeId × Value->H}{W:World}{base:Nat}{v:Value}{d:DataW H}{ps:List MemPlace}(h:DataW.Trod enc Tryz.prog W 0 (fun _=>true) true 3 v d ps)(hv:Value.okWide Tryz.prog W .any base 3 v):
  ∃x:Int,AR W (noX (P:=Tryz.prog)) noμ [] (.pv none (.int .i64 x)) v/\zny x:=by
 obtain⟨n,p,h1,h2,h3⟩:=zj1 (by decide) (by kernel_rfl) h hv
 obtain⟨x,rfl,hx⟩:=zoT (by kernel_rfl) h2
 rw[show shOf Tryz.prog 3=none from by kernel_rfl] at h1
 exact⟨x,h1,hx⟩
set_option maxRecDepth 100000 in
theorem znB{H:Type}{enc:TypeId × Value->H}{W:World}{base:Nat}{v:Value}{d:DataW H}{ps:List MemPlace}(h:DataW.Trod enc Tryz.prog W 0 (fun _=>true) true 9 v d ps)(hv:Value.okWide Tryz.prog W .any base 9 v):
  ∃s:List UInt8,AR W (noX (P:=Tryz.prog)) noμ [] (.pv none (.str s)) v/\(PV.str s).sz<=Rows.uptoBulk d:=by
 obtain⟨n,p,h1,h2,h3⟩:=zj1 (by decide) (by kernel_rfl) h hv
 obtain⟨s,rfl⟩:=zoU (by kernel_rfl) h2
 rw[show shOf Tryz.prog 9=none from by kernel_rfl] at h1
 exact⟨s,h1,h3⟩
end Go.Proofs.YtkfncielohbecaaGreatDoor
namespace Go.Proofs.YtkfncielohbecaaGreatDoor
open Go.Am Go.ChangeShapes Go.WideShapes Go.ChangeAt Go.RowKit
def znE:List (String × DataW Unit):=[("unicode.White_Space",Rows.laid_unicode_White_Space),("strings.asciiSpace",Rows.laid_strings_asciiSpace)]
noncomputable def zor(os:Os):World:=World.laidAll Tryz.prog os znE
theorem znF(os:Os)(args:Array Value):laidMet Tryz.prog znE ((zor os).forCall (fun _ _=>0) ⟨#[],args,[]⟩).memory:=laidMet_laidAll args (by kernel_rfl) (by kernel_rfl)
theorem gTab:Tryz.prog.globalNamed "strings.asciiSpace" =some 0:=by kernel_rfl
theorem gTabType:(Tryz.prog.globals[0]?).map (·.type)=some 80:=by kernel_rfl
theorem znG:Tryz.prog.cellsOf 80=256:=by kernel_rfl
theorem zos:Tryz.prog.cellsOf 5=1:=by kernel_rfl
theorem znH:Rows.laid_strings_asciiSpace (H:=Unit)=Lib.tabData .u8 Lib.asciiSpaceTab:=by kernel_rfl
theorem zoZ{W:World}(h:laidMetH Tryz.prog znE W):TabR Tryz.prog W fun _=>True:=by
 have h0:laidMet Tryz.prog znE W:=h
 obtain⟨ps,⟨g1,t1,cs1,fuel1,p1,q1,_,_,_,_,⟨g,t,cs,fuel,p,q,hg,ht,hvar,hd,_,_⟩,_⟩,_⟩:=h0
 obtain rfl:=Option.some.inj (gTab.symm.trans hg)
 obtain rfl:=Option.some.inj (gTabType.symm.trans ht)
 rw[znH] at hd
 have hcs:=Lib.cells_of_tab Tryz.underlying80 Tryz.underlying5 zos znG hd
 refine zoo (fun _=>trivial) fun g' hg'=> ?_
 obtain rfl:=Option.some.inj (gTab.symm.trans hg')
 unfold World.var? at hvar
 rw[gTab] at hvar
 simp only[Option.bind_some] at hvar
 split at hvar
 ·rename_i c t fr hb
  cases hvar
  refine⟨t,fr,?_⟩
  rw[hb,<-hcs]
 ·cases hvar
end Go.Proofs.YtkfncielohbecaaGreatDoor
