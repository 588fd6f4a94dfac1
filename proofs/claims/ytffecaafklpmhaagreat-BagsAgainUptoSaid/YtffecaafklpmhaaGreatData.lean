/- What is proved: the reference's sorting by keys. -/
import Derived.Test.YtffecaafklpmhaaGreatKeys
import Derived.Test.YtffecaafklpmhaaGreatSwap
import Derived.Test.YtffecaafklpmhaaGreatRVd
import Derived.Test.YtffecaafklpmhaaGreatAm4
set_option linter.unusedSimpArgs false
set_option linter.unusedVariables false
namespace Go.Proofs.YtffecaafklpmhaaGreat
open Go.Am
theorem pair_args{t:Tm}(h:isPair t=true):∃a b,t.args=[a,b]:=by
 simp only[isPair,Bool.and_eq_true,decide_eq_true_eq] at h
 match t.args,h.2 with
 |[a,b],_=>exact⟨a,b,rfl⟩
theorem key_mem{t:Tm}(h:isPair t=true):keyOfT t∈t.args:=by
 obtain⟨a,b,e⟩:=pair_args h
 unfold keyOfT
 rw[e]
 simp
theorem rkey_okK(t:Tm)(h:isPair t=true)(hp:Heap):S 106 [.pv (some 4) t.pv,.pv none (.bool true)] hp=some (.ret (.pv (some 4) (keyOfT t).pv),hp):=by
 refine sem_pure rfl rfl rfl (freezeAll_pvs [(some 4,t.pv),(none,.bool true)]) rfl ?_
 obtain⟨a,b,e⟩:=pair_args h
 have e1:(Tm.pvs t.args)[0]? =some (keyOfT t).pv:=Tm.pvs_get (by unfold keyOfT;rw[e];rfl)
 simp -dsimp -implicitDefEqProofs only[go_sem,seval,↓reduceIte,part_args,s_iaddr_pv0 e1,w_store_agg (Nat.zero_le _)]
 try exact⟨_,rfl⟩
def insPosK(l:List Tm)(t:Tm):Nat→Nat
 |0=>0
 |n+1=>match l[n]? with
  |some x=>if 0<keyCmp x t then insPosK l t n else n+1
  |none=>n+1
def insK(l:List Tm)(t:Tm):List Tm:=l.take (insPosK l t l.length)++t::l.drop (insPosK l t l.length)
theorem insPos_leK(l:List Tm)(t:Tm):∀n,insPosK l t n≤n
 |0=>Nat.le_refl _
 |n+1=>by
  unfold insPosK
  split
  ·split
   ·have:=insPos_leK l t n;omega
   ·omega
  ·omega
theorem mem_insK{l:List Tm}{t x:Tm}:x∈insK l t↔x∈l∨x=t:=by
 unfold insK
 rw[List.mem_append,List.mem_cons]
 have h:x∈l↔x∈l.take (insPosK l t l.length)∨x∈l.drop (insPosK l t l.length):=by rw[←List.mem_append,List.take_append_drop]
 rw[h]
 constructor
 ·rintro(h|h|h) <;> simp[h]
 ·rintro((h|h)|h) <;> simp[h]
theorem sizes_insK(l:List Tm)(t:Tm):Tm.sizes (insK l t)=Tm.sizes l+t.size:=by
 unfold insK
 have h:=Tm.sizes_append (l.take (insPosK l t l.length)) (l.drop (insPosK l t l.length))
 rw[List.take_append_drop] at h
 rw[Tm.sizes_append,h]
 simp only[Tm.sizes]
 omega
theorem length_insK(l:List Tm)(t:Tm):(insK l t).length=l.length+1:=by
 unfold insK
 have:=insPos_leK l t l.length
 simp
 omega
theorem rinsert_ok0(l:List Tm)(t:Tm)(hl:Tm.sizes l+t.size<1000000000)(hv:validAll l=true)(ht:t.valid=true)(pl:l.all isPair=true)(pt:isPair t=true)(hp:Heap):
  S 60 [.pv none (.sl (some 4) (Tm.pvs l)),.pv (some 4) t.pv,.pv none (.bool true)] hp=some (.ret (.pv none (.sl (some 4) (Tm.pvs (insK l t)))),hp):=by
 refine sem_pure rfl rfl rfl (freezeAll_pvs [(none,.sl (some 4) (Tm.pvs l)),(some 4,t.pv),(none,.bool true)]) rfl ?_
 have hlen:=Tm.sizes_len l
 have hkt:=rkey_okK t pt
 simp -dsimp -implicitDefEqProofs only[go_sem,seval,↓reduceIte,Tm.pvs_len,w_nilsl (show 0<Sh.size (some 4) by decide)]
 refine W_loop (fun n st=>∃i:Nat,n=i∧i≤l.length∧insPosK l t l.length=insPosK l t i∧st=⟨[(0,.pv none (.sl (some 4) (Tm.pvs l))),(2,.pv none (.bool true)),(4,.ptr 0 0),(7,.pv none (.int .i64 i))],[.box (some 4) (.pv (some 4) t.pv),.arr (some 4) [] false]⟩) (n:=l.length) ⟨l.length,rfl,Nat.le_refl _,rfl,?_⟩ ?_
 ·simp -dsimp -implicitDefEqProofs only[go_sem,seval,↓reduceIte]
 ·rintro n st ⟨i,hn,hi,he,rfl⟩
  have hti:(l.take i).length=i:=by simp;omega
  have htd:(l.drop i).length=l.length - i:=by simp
  have hl1:i≤lim:=by unfold lim;omega
  have hl2:i+1≤lim:=by unfold lim;omega
  have hl3:i+1+(l.length - i)≤lim:=by unfold lim;omega
  have hpl:i≤(Tm.pvs l).length:=by rw[Tm.pvs_len];exact hi
  have hln:(Tm.pvs (l.take i)++[t.pv]).length=i+1:=by simp[Tm.pvs_len,hti]
  have hln3:(Tm.pvs (l.take i)++[t.pv]++Tm.pvs (l.drop i)).length=i+1+(l.length - i):=by simp[Tm.pvs_len,hti,htd];omega
  have fin:i=insPosK l t l.length→Tm.pvs (insK l t)=Tm.pvs (l.take i)++[t.pv]++Tm.pvs (l.drop i):=by
   intro hk
   unfold insK
   rw[←hk,Tm.pvs_append,List.append_assoc]
   rfl
  by_cases h0:i=0
  ·have hc:¬(0:Int)<(i:Int):=by omega
   have hf:=fin (by rw[he,h0];rfl)
   simp -dsimp -implicitDefEqProofs only[go_sem,seval,↓reduceIte,Tm.pvs_len,hc,w_nilsl (show 0<Sh.size (some 4) by decide),s_slice_hi hpl,s_slice_lo hpl,Tm.pvs_take,Tm.pvs_drop,hti,htd,hl1,hl2,hl3,hln,hln3,hf]
  ·have hc:(0:Int)<(i:Int):=by omega
   obtain⟨j,rfl⟩:∃j,i=j+1:=⟨i - 1,by omega⟩
   obtain⟨x,hx⟩:∃x,l[j]? =some x:=⟨_,List.getElem?_eq_getElem (by omega)⟩
   have hm:=List.mem_of_getElem? hx
   have hsx:=Tm.sizes_mem hm
   have w1:IntKind.i64.wrap (((j+1:Nat):Int) - 1)=((j:Nat):Int):=by rw[wrap64 (by omega) (by omega)];omega
   have px:=List.all_eq_true.1 pl x hm
   have hkx:=rkey_okK x px
   have hcall:=fun hp=>rcompare_ok (keyOfT x) (keyOfT t) hp (by have:=Tm.arg_lt (key_mem px);omega) (Tm.fits_arg (valid_fits (validAll_mem hv hm)) (key_mem px)) (Tm.fits_arg (valid_fits ht) (key_mem pt))
   rw[show(keyOfT x).cmp (keyOfT t)=keyCmp x t from rfl] at hcall
   simp only[Tm.av] at hcall
   by_cases hgt:0<keyCmp x t
   ·simp -dsimp -implicitDefEqProofs only[go_sem,seval,↓reduceIte,Tm.pvs_len,hc,w1,s_iaddr_pv (Tm.pvs_get hx),hkx,hkt,hcall,hgt]
    exact⟨j,by omega,j,rfl,by omega,by rw[he];simp[insPosK,hx,hgt],rfl⟩
   ·have hf:=fin (by rw[he];simp[insPosK,hx,hgt])
    simp -dsimp -implicitDefEqProofs only[go_sem,seval,↓reduceIte,Tm.pvs_len,hc,w1,s_iaddr_pv (Tm.pvs_get hx),hkx,hkt,hcall,hgt,w_nilsl (show 0<Sh.size (some 4) by decide),s_slice_hi hpl,s_slice_lo hpl,Tm.pvs_take,Tm.pvs_drop,hti,htd,hl1,hl2,hl3,hln,hln3,hf]

theorem rinsert_okK(l:List Tm)(t:Tm)(args:List AV)(hp hp1:Heap)(hz:freezeAll args hp=some ([(none,.sl (some 4) (Tm.pvs l)),(some 4,t.pv),(none,.bool true)],hp1))(hl:Tm.sizes l+t.size<1000000000)(hv:validAll l=true)(ht:t.valid=true)(pl:l.all isPair=true)(pt:isPair t=true):
  S 60 args hp=some (.ret (.pv none (.sl (some 4) (Tm.pvs (insK l t)))),hp1):=
 sem_any rfl rfl rfl hz (rinsert_ok0 l t hl hv ht pl pt [])
def insAllK(l:List Tm):List Tm:=l.foldl insK []
theorem insAll_snocK(l:List Tm)(t:Tm):insAllK (l++[t])=insK (insAllK l) t:=by simp[insAllK]
theorem insFold_factsK:∀(l acc:List Tm),(∀x,x∈l.foldl insK acc↔x∈acc∨x∈l)∧Tm.sizes (l.foldl insK acc)=Tm.sizes acc+Tm.sizes l∧(l.foldl insK acc).length=acc.length+l.length
 |[],acc=>⟨fun x=>by simp,by simp[Tm.sizes],by simp⟩
 |t::l,acc=>by
  obtain⟨h1,h2,h3⟩:=insFold_factsK l (insK acc t)
  simp only[List.foldl_cons]
  refine⟨fun x=> ?_,?_,?_⟩
  ·rw[h1,mem_insK,List.mem_cons,or_assoc]
  ·rw[h2,sizes_insK];simp only[Tm.sizes];omega
  ·rw[h3,length_insK,List.length_cons];omega
theorem insAll_factsK(l:List Tm):(∀x,x∈insAllK l↔x∈l)∧Tm.sizes (insAllK l)=Tm.sizes l∧(insAllK l).length=l.length:=by
 obtain⟨h1,h2,h3⟩:=insFold_factsK l []
 exact⟨fun x=>by unfold insAllK;rw[h1];simp,by unfold insAllK;rw[h2];simp[Tm.sizes],by unfold insAllK;rw[h3];simp⟩
theorem validAll_insAllK{l:List Tm}(h:validAll l=true):validAll (insAllK l)=true:=
 List.all_eq_true.2 fun x hx=>List.all_eq_true.1 h x (((insAll_factsK l).1 x).1 hx)

theorem insK_eq{l:List Tm}(hs:Srt keyCmp l)(t:Tm):insK l t=insC keyCmp t l:=by
 have key:∀n,n≤l.length→(∀x∈l.drop n,0<keyCmp x t)→l.take (insPosK l t n)++t::l.drop (insPosK l t n)=insC keyCmp t l:=by
  intro n
  induction n with
  |zero=>
   intro _ h
   have:=insC_split (c:=keyCmp) (t:=t) (A:=[]) (B:=l) (by simp) (fun x hx=>by have:=h x (by simpa using hx);rw[key_cmp.neg x t];omega)
   simpa[insPosK] using this.symm
  |succ n ih=>
   intro hn h
   obtain⟨x,hx⟩:∃x,l[n]? =some x:=⟨_,List.getElem?_eq_getElem (by omega)⟩
   obtain⟨q1,q2⟩:=List.getElem?_eq_some_iff.1 hx
   unfold insPosK
   rw[hx]
   simp only
   split
   ·rename_i hgt
    refine ih (by omega) fun y hy=> ?_
    rw[List.drop_eq_getElem_cons q1,q2] at hy
    rcases List.mem_cons.1 hy with rfl|hy
    ·exact hgt
    ·exact h y hy
   ·rename_i hle
    have:=insC_split (c:=keyCmp) (t:=t) (A:=l.take (n+1)) (B:=l.drop (n+1)) (fun y hy=> ?_) (fun y hy=>by have:=h y hy;rw[key_cmp.neg y t];omega)
    ·rw[List.take_append_drop] at this
     exact this.symm
    ·rw[take_snoc hx] at hy
     have hyx:keyCmp y x≤0:=by
      rcases List.mem_append.1 hy with hy|hy
      ·have hs':=hs
       rw[←List.take_append_drop n l,List.drop_eq_getElem_cons q1,q2] at hs'
       exact(List.pairwise_append.1 hs').2.2 y hy x List.mem_cons_self
      ·rw[List.mem_singleton] at hy
       rw[hy,key_cmp.self];omega
     have:=key_cmp.trans hyx (show keyCmp x t≤0 by omega)
     have:=key_cmp.neg y t
     omega
 unfold insK
 exact key l.length (Nat.le_refl _) (by simp)
theorem insAllK_eq(l:List Tm):insAllK l=isort keyCmp l:=by
 suffices h:∀(l A:List Tm),Srt keyCmp A→l.foldl insK A=l.foldl (fun s t=>insC keyCmp t s) A from h l [] List.Pairwise.nil
 intro l
 induction l with
 |nil=>intro A _;rfl
 |cons t l ih=>
  intro A hA
  simp only[List.foldl_cons]
  rw[insK_eq hA]
  exact ih _ (insC_srt key_cmp hA t)
theorem all_insAllK{l:List Tm}{p:Tm→Bool}(h:l.all p=true):(insAllK l).all p=true:=
 List.all_eq_true.2 fun x hx=>List.all_eq_true.1 h x (((insAll_factsK l).1 x).1 hx)
theorem rpairT_ok(t:Tm)(hp:Heap):S 55 [.pv (some 4) t.pv] hp=some (.ret (.pv none (.bool (isPair t))),hp):=by
 refine sem_pure rfl rfl rfl (freezeAll_pvs [(some 4,t.pv)]) rfl ?_
 by_cases k1:t.kind=3
 ·have k1':=eq_true k1
  by_cases k2:t.name=[45]
  ·have k2':=eq_true k2
   by_cases k3:t.args.length=2
   ·have k3':=eq_true (show(t.args.length:Int)=2 by omega)
    have e:isPair t=true:=by simp[isPair,k1,k2,k3]
    simp -dsimp -implicitDefEqProofs only[go_sem,seval,↓reduceIte,part_kind,part_name,part_args,Tm.pvs_len,k1',k2',k3',e]
    try rfl
   ·have k3':=eq_false (show ¬(t.args.length:Int)=2 by omega)
    have e:isPair t=false:=by simp[isPair,k3]
    simp -dsimp -implicitDefEqProofs only[go_sem,seval,↓reduceIte,part_kind,part_name,part_args,Tm.pvs_len,k1',k2',k3',e]
    try rfl
  ·have k2':=eq_false k2
   have e:isPair t=false:=by simp[isPair,k2]
   simp -dsimp -implicitDefEqProofs only[go_sem,seval,↓reduceIte,part_kind,part_name,part_args,Tm.pvs_len,k1',k2',e]
   try rfl
 ·have k1':=eq_false k1
  have e:isPair t=false:=by simp[isPair,k1]
  simp -dsimp -implicitDefEqProofs only[go_sem,seval,↓reduceIte,part_kind,part_name,part_args,Tm.pvs_len,k1',e]
  try rfl
theorem rkeys_ok(l:List Tm)(hl:Tm.sizes l<100000000)(hp:Heap):S 18 [.pv none (.sl (some 4) (Tm.pvs l))] hp=some (.ret (.tuple [.pv none (.sl (some 4) (Tm.pvs (keysL l))),.pv none (.int .i64 (keysE l))]),hp):=by
 refine sem_pure rfl rfl rfl (freezeAll_pvs [(none,.sl (some 4) (Tm.pvs l))]) rfl ?_
 have hlen:=Tm.sizes_len l
 have h2:=fun hp=>rvalidAll_any l (by omega) hp
 have hn0:∀H:Heap,wNilsl (some 4) H=some (.sl (some 4) H.length 0 0 0,H++[.arr (some 4) [] false]):=fun H=>w_nilsl (sh:=some 4) (by decide)
 by_cases hv:validAll l=true
 ·simp -dsimp -implicitDefEqProofs only[go_sem,seval,↓reduceIte,h2,hv,hn0]
  refine W_loop (fun n st=>∃i:Nat,n=l.length - i∧i≤l.length∧(l.take i).all isPair=true∧st=⟨[(0,.pv none (.sl (some 4) (Tm.pvs l))),(4,.pv none (.int .i64 i))],[.arr (some 4) [] false]⟩) (n:=l.length) ⟨0,rfl,Nat.zero_le _,rfl,rfl⟩ ?_
  rintro n st ⟨i,hn,hi,hall,rfl⟩
  by_cases h:i<l.length
  ·have hc:(i:Int)<(l.length:Int):=by omega
   obtain⟨x,hx⟩:∃x,l[i]? =some x:=⟨_,List.getElem?_eq_getElem h⟩
   have hm:=List.mem_of_getElem? hx
   have w2:IntKind.i64.wrap ((i:Int)+1)=((i+1:Nat):Int):=by rw[wrap64 (by omega) (by omega)];omega
   have hpr:=rpairT_ok x
   cases hpx:isPair x with
   |true=>
    rw[hpx] at hpr
    simp -dsimp -implicitDefEqProofs only[go_sem,seval,↓reduceIte,Tm.pvs_len,hc,s_iaddr_pv (Tm.pvs_get hx),hpr,w2]
    exact⟨l.length - (i+1),by omega,i+1,rfl,by omega,by rw[List.take_add_one,hx];simp[hall,hpx],rfl⟩
   |false=>
    rw[hpx] at hpr
    have ha:l.all isPair=false:=List.all_eq_false.2 ⟨x,hm,by simp[hpx]⟩
    have e1:keysL l=[]:=by unfold keysL;simp[ha]
    have e2:keysE l=3:=by unfold keysE;simp[hv,ha]
    simp -dsimp -implicitDefEqProofs only[go_sem,seval,↓reduceIte,Tm.pvs_len,hc,s_iaddr_pv (Tm.pvs_get hx),hpr,hn0,e1,e2]
    try rfl
  ·have hc:¬(i:Int)<(l.length:Int):=by omega
   obtain rfl:i=l.length:=by omega
   rw[List.take_length] at hall
   have e1:keysL l=insAllK l:=by unfold keysL;rw[if_pos ⟨hv,hall⟩,insAllK_eq]
   have e2:keysE l=0:=by unfold keysE;rw[if_pos hv,if_pos hall]
   simp -dsimp -implicitDefEqProofs only[go_sem,seval,↓reduceIte,Tm.pvs_len,hc,hn0]
   refine W_loop (fun n st=>∃i:Nat,n=l.length - i∧i≤l.length∧((i=0∧st=⟨[(0,.pv none (.sl (some 4) (Tm.pvs l))),(5,.sl (some 4) 1 0 0 0),(6,.pv none (.int .i64 0))],[.arr (some 4) [] false,.arr (some 4) [] false]⟩)∨
   ∃fz,st=⟨[(0,.pv none (.sl (some 4) (Tm.pvs l))),(5,.pv none (.sl (some 4) (Tm.pvs (insAllK (l.take i))))),(6,.pv none (.int .i64 i))],[.arr (some 4) [] false,.arr (some 4) [] fz]⟩)) (n:=l.length) ⟨0,rfl,Nat.zero_le _,.inl ⟨rfl,rfl⟩⟩ ?_
   rintro n st ⟨i,hn,hi,hst⟩
   by_cases h:i<l.length
   ·have hc:(i:Int)<(l.length:Int):=by omega
    obtain⟨x,hx⟩:∃x,l[i]? =some x:=⟨_,List.getElem?_eq_getElem h⟩
    have hm:=List.mem_of_getElem? hx
    have hsx:=Tm.sizes_mem hm
    have hst':=Tm.sizes_take_le l i
    have w2:IntKind.i64.wrap ((i:Int)+1)=((i+1:Nat):Int):=by rw[wrap64 (by omega) (by omega)];omega
    have nx:insK (insAllK (l.take i)) x=insAllK (l.take (i+1)):=by rw[List.take_add_one,hx,←insAll_snocK];rfl
    have hva:validAll (insAllK (l.take i))=true:=validAll_insAllK (List.all_eq_true.2 fun y hy=>List.all_eq_true.1 hv y (List.mem_of_mem_take hy))
    have hpa:(insAllK (l.take i)).all isPair=true:=all_insAllK (List.all_eq_true.2 fun y hy=>List.all_eq_true.1 hall y (List.mem_of_mem_take hy))
    have hpx:=List.all_eq_true.1 hall x hm
    rcases hst with⟨rfl,rfl⟩|⟨fz,rfl⟩
    ·have hcall:=rinsert_okK [] x [.sl (some 4) 1 0 0 0,.pv (some 4) x.pv,.pv none (.bool true)] [.arr (some 4) [] false,.arr (some 4) [] false] [.arr (some 4) [] false,.arr (some 4) [] true] rfl (by simp[Tm.sizes];omega) rfl (validAll_mem hv hm) rfl hpx
     have hc:(0:Int)<(l.length:Int):=by omega
     have w1:IntKind.i64.wrap ((0:Int)+1)=((1:Nat):Int):=by rw[wrap64 (by omega) (by omega)];rfl
     have nx':insK [] x=insAllK (l.take 1):=nx
     simp -dsimp -implicitDefEqProofs only[go_sem,seval,↓reduceIte,Tm.pvs_len,hc,s_iaddr_pv0 (Tm.pvs_get hx),hcall,w1,nx']
     exact⟨l.length - 1,by omega,1,rfl,by omega,.inr ⟨true,rfl⟩⟩
    ·have hcall:=fun hp=>rinsert_okK (insAllK (l.take i)) x [.pv none (.sl (some 4) (Tm.pvs (insAllK (l.take i)))),.pv (some 4) x.pv,.pv none (.bool true)] hp hp (freezeAll_pvs [(none,.sl (some 4) (Tm.pvs (insAllK (l.take i)))),(some 4,x.pv),(none,.bool true)]) (by rw[(insAll_factsK _).2.1];omega) hva (validAll_mem hv hm) hpa hpx
     simp -dsimp -implicitDefEqProofs only[go_sem,seval,↓reduceIte,Tm.pvs_len,hc,s_iaddr_pv (Tm.pvs_get hx),hcall,w2,nx]
     exact⟨l.length - (i+1),by omega,i+1,rfl,by omega,.inr ⟨fz,rfl⟩⟩
   ·have hc:¬(i:Int)<(l.length:Int):=by omega
    obtain rfl:i=l.length:=by omega
    rcases hst with⟨h0,rfl⟩|⟨fz,rfl⟩
    ·have hnil:l=[]:=List.length_eq_zero_iff.1 h0
     subst hnil
     have hz:¬(0:Int)<((0:Nat):Int):=by decide
     simp -dsimp -implicitDefEqProofs only[go_sem,seval,↓reduceIte,Tm.pvs,hz,e1,e2]
     rfl
    ·rw[List.take_length]
     simp -dsimp -implicitDefEqProofs only[go_sem,seval,↓reduceIte,Tm.pvs_len,hc,e1,e2]
 ·have e1:keysL l=[]:=by unfold keysL;rw[if_neg (fun e=>hv e.1)]
  have e2:keysE l=1:=by unfold keysE;rw[if_neg hv]
  simp -dsimp -implicitDefEqProofs only[go_sem,seval,↓reduceIte,h2,hv,hn0,e1,e2]
  rfl
def vari(a b:Tm):Bool:=a.valid && (b.valid && decide ((canT a).cmp (canT b)=0))
theorem csub_size{L:List Int}:∀t:Tm,t.fits=true→(Tm.sub (cPos L) t).size=t.size:=by
 intro t
 induction t using Tm.induct with
 |h t ih=>
  intro hf
  rw[Tm.sub_eq]
  by_cases hk:t.kind=0
  ·rw[if_pos hk,node_var hf hk]
   rfl
  ·rw[if_neg hk,Tm.size_eq,t.size_eq]
   congr 1
   have hargs:∀u∈t.args,(Tm.sub (cPos L) u).size=u.size:=fun u hu=>ih u hu (Tm.fits_arg hf hu)
   show Tm.sizes (t.args.map (Tm.sub (cPos L)))=_
   generalize t.args=l at hargs
   clear ih
   induction l with
   |nil=>rfl
   |cons x r ihl=>
    rw[List.map_cons,Tm.sizes,Tm.sizes,hargs x List.mem_cons_self,ihl fun u hu=>hargs u (List.mem_cons_of_mem _ hu)]
theorem canT_size{t:Tm}(h:t.valid=true):(canT t).size=t.size:=csub_size t (valid_fits h)
theorem variant_ok(a b:Tm)(hp:Heap)(ha:a.size<1000000000)(hb:b.size<1000000000):S 36 [a.av,b.av] hp=some (.ret (.pv none (.bool (vari a b))),hp):=by
 refine sem_pure rfl rfl rfl (freezeAll_pvs [(some 4,a.pv),(some 4,b.pv)]) rfl ?_
 have h1:=fun hp=>valid_ok a hp ha
 have h2:=fun hp=>valid_ok b hp hb
 simp only[Tm.av] at h1 h2
 unfold vari
 by_cases va:a.valid=true
 ·by_cases vb:b.valid=true
  ·have h4:=fun hp=>canon_ok a hp ha
   have h5:=fun hp=>canon_ok b hp hb
   have hs:=canT_size va
   have h3:=fun hp=>pident_ok (canT a) (canT b) hp (by omega)
   rw[canR,if_pos va] at h4
   rw[canR,if_pos vb] at h5
   simp only[Tm.av] at h3 h4 h5
   (repeat' (first|(simp -dsimp -implicitDefEqProofs only[go_sem,seval,↓reduceIte, *])|(refine iteK_intro (fun _=> ?_) (fun _=> ?_))))
  ·(repeat' (first|(simp -dsimp -implicitDefEqProofs only[go_sem,seval,↓reduceIte, *])|(refine iteK_intro (fun _=> ?_) (fun _=> ?_))))
 ·(repeat' (first|(simp -dsimp -implicitDefEqProofs only[go_sem,seval,↓reduceIte, *])|(refine iteK_intro (fun _=> ?_) (fun _=> ?_))))
theorem variK_ok(p key:Tm)(hp:isPair p=true)(H:Heap)(c:Nat)(hc:H[c]? =some (.box (some 4) (.pv (some 4) key.pv)))(h1:p.size<1000000000)(h2:key.size<1000000000):
  S 35 [p.av,.ptr c 0] H=some (.ret (.pv none (.bool (vari (keyOfT p) key))),H):=by
 refine sem_heap rfl rfl rfl rfl ?_
 obtain⟨a,b,e⟩:=pair_args hp
 have e1:(Tm.pvs p.args)[0]? =some (keyOfT p).pv:=Tm.pvs_get (by unfold keyOfT;rw[e];rfl)
 have hk:=key_mem hp
 have hks:=Tm.arg_lt hk
 have h3:=fun hp=>variant_ok (keyOfT p) key hp (by omega) h2
 have hcl:=get_lt hc
 have hld:∀X:Heap,(H++X)[c]? =some (.box (some 4) (.pv (some 4) key.pv)):=fun X=>by rw[List.getElem?_append_left hcl];exact hc
 simp only[Tm.av] at h3
 simp -dsimp -implicitDefEqProofs only[go_sem,seval,↓reduceIte,Tm.av,part_args,s_iaddr_pv0 e1,h3,hld,List.append_assoc,get_pre,get_pre0,set_pre,set_pre0,Nat.add_assoc,List.length_append]
 simp[AV.refsIn]
theorem uniV{V:List Int}:∀(n:Nat) (l:List B) (r:List (Tm × Tm)),OKB l→(∀p∈r,p.1.valid=true∧p.2.valid=true)→InVB V l→(∀p∈r,InV V p.1∧InV V p.2)→InVB V (uni n l r).1
 |n,l,[],_,_,hl,_=>by rw[uni_nil];exact hl
 |0,l,p::r,_,_,_,_=>by rw[uni_zero];exact fun b hb=>by cases hb
 |n+1,l,p::r,hO,hr,hl,hp=>by
  have hv:=hr p List.mem_cons_self
  have hi:=hp p List.mem_cons_self
  have hx:=flw_flwd hO hv.1
  have hy:=flw_flwd hO hv.2
  have ix:=InV.flw hO hl _ _ rfl hv.1 hi.1
  have iy:=InV.flw hO hl _ _ rfl hv.2 hi.2
  have hr2:=fun q hq=>hr q (List.mem_cons_of_mem _ hq)
  have hp2:=fun q hq=>hp q (List.mem_cons_of_mem _ hq)
  cases e:ustep l (flw l p.1) (flw l p.2) with
  |err e'=>rw[uni_err r e];exact fun b hb=>by cases hb
  |bind v t=>
   rw[uni_bind r e]
   obtain⟨b1,b2,b3,b4⟩:=ustep_bind hO hx hy e
   refine uniV n (insB l v t) r (okb_ins hO b1 b2 b3 b4) hr2 (fun b hb=> ?_) hp2
   rcases mem_insB hb with rfl|h
   ·exact ustep_bindV ix iy e
   ·exact hl b h
  |args xs=>
   rw[uni_args r e]
   exact uniV n l (xs++r) hO (fun q hq=>(List.mem_append.1 hq).elim ((ustep_args hx hy e).1 q) (hr2 q)) hl fun q hq=>(List.mem_append.1 hq).elim (ustep_argsV ix iy e q) (hp2 q)
theorem unR_V{V:List Int}{l:List B}{a b:Tm}(hl:InVB V l)(ha:InV V a)(hb:InV V b):InVB V (unR l a b).1:=by
 unfold unR
 split
 ·rename_i h
  refine uniV _ _ _ (okb_iff.1 h.1) (fun p hp=> ?_) hl fun p hp=> ?_
  ·rw[List.mem_singleton] at hp;rw[hp];exact h.2
  ·rw[List.mem_singleton] at hp;rw[hp];exact⟨ha,hb⟩
 ·exact fun b hb=>by cases hb
theorem unR_okb(l:List B)(a b:Tm):OKB (unR l a b).1:=by
 unfold unR
 split
 ·rename_i h
  refine(uni_ok _ _ _ (okb_iff.1 h.1) fun p hp=> ?_).1
  rw[List.mem_singleton] at hp;rw[hp];exact h.2
 ·exact okb_nil
def itemT(t:Tm):Tm:=(t.args[1]?).getD (.mk 0 0 [] [])
def prT(k t:Tm):Tm:=.mk 3 0 [45] [k,t]
noncomputable def gU(key:Tm):List B→List Tm→Option (List B)
 |s,[]=>some s
 |s,p::r=>if(unR s (keyOfT p) key).2=0 then gU key (unR s (keyOfT p) key).1 r else none
noncomputable def grp(p:Tm)(r:List Tm):Option Tm:=
 match gU (keyOfT p) [] r with
 |none=>none
 |some s=>if(rsR s (keyOfT p)).2=0∧(∀t∈p::r,(rsR s (itemT t)).2=0)∧(prT (rsR s (keyOfT p)).1 (lst ((p::r).map fun t=>(rsR s (itemT t)).1))).size≤2000 then some (prT (rsR s (keyOfT p)).1 (lst ((p::r).map fun t=>(rsR s (itemT t)).1))) else none
def consG:Option Tm→Option (List Tm)→Option (List Tm)
 |none,_=>none
 |some t,g=>g.map (t::·)
noncomputable def grps:Nat→List Tm→Option (List Tm)
 |_,[]=>some []
 |0,_::_=>some []
 |n+1,p::r=>consG (grp p (r.filter fun q=>vari (keyOfT q) (keyOfT p))) (grps n (r.filter fun q=> !vari (keyOfT q) (keyOfT p)))
def ofG:Option (List Tm)→List Tm × Int
 |some l=>(l,0)
 |none=>([],2)
noncomputable def groupsR(ts:List Tm):List Tm × Int:=if keysE ts=0 then ofG (grps (keysL ts).length (keysL ts)) else([],keysE ts)
theorem rsR_valid{s:List B}{t:Tm}(h:(rsR s t).2=0):(rsR s t).1.valid=true∧(rsR s t).1.size≤2000:=by
 unfold rsR at h ⊢
 split
 ·rename_i hc
  rw[if_pos hc] at h
  split
  ·rename_i hz
   exact⟨valid_of (rs_fits (okb_iff.1 hc.1) _ t rfl (valid_fits hc.2)) hz,hz⟩
  ·rename_i hz
   rw[if_neg hz] at h
   cases h
 ·rename_i hc
  rw[if_neg hc] at h
  cases h
theorem lstG_fits:∀l:List Tm,(∀t∈l,t.fits=true)→(lst l).fits=true
 |[],_=>by decide
 |x::r,h=>by
  have ih:=lstG_fits r fun w hw=>h w (List.mem_cons_of_mem _ hw)
  have hv:=h x List.mem_cons_self
  show(consT x (lst r)).fits=true
  simp[consT,Tm.fits,Tm.fitsAll,Tm.node,ih,hv,Tm.kind,Tm.n,Tm.name,Tm.args]
theorem lstG_size:∀(l:List Tm) (m:Nat),(∀t∈l,t.size≤m)→(lst l).size≤(m+1)*l.length+1
 |[],_,_=>by show 1≤_;omega
 |x::r,m,h=>by
  have ih:=lstG_size r m fun w hw=>h w (List.mem_cons_of_mem _ hw)
  have hx:=h x List.mem_cons_self
  show 1+(x.size+((lst r).size+0))≤(m+1)*(r.length+1)+1
  rw[Nat.mul_succ]
  omega
theorem prT_fits{k t:Tm}(hk:k.fits=true)(ht:t.fits=true):(prT k t).fits=true:=by
 simp[prT,Tm.fits,Tm.fitsAll,Tm.node,hk,ht,Tm.kind,Tm.n,Tm.name,Tm.args]
theorem grp_valid{p:Tm}{r:List Tm}{t:Tm}(h:grp p r=some t):t.valid=true:=by
 unfold grp at h
 split at h
 ·cases h
 ·rename_i s _
  split at h
  ·rename_i hc
   cases h
   refine valid_of (prT_fits (valid_fits (rsR_valid hc.1).1) (lstG_fits _ fun x hx=> ?_)) hc.2.2
   obtain⟨q,hq,rfl⟩:=List.mem_map.1 hx
   exact valid_fits (rsR_valid (hc.2.1 q hq)).1
  ·cases h
theorem grps_valid:∀(n:Nat) (l:List Tm) (g:List Tm),grps n l=some g→∀t∈g,t.valid=true
 |_,[],g,h=>by rw[grps] at h;cases h;exact fun t ht=>by cases ht
 |0,_::_,g,h=>by rw[grps] at h;cases h;exact fun t ht=>by cases ht
 |n+1,p::r,g,h=>by
  rw[grps] at h
  cases ht:grp p (r.filter fun q=>vari (keyOfT q) (keyOfT p)) with
  |none=>rw[ht] at h;cases h
  |some t=>
   rw[ht] at h
   cases e:grps n (r.filter fun q=> !vari (keyOfT q) (keyOfT p)) with
   |none=>rw[e] at h;cases h
   |some g'=>
    rw[e] at h
    cases h
    intro u hu
    rcases List.mem_cons.1 hu with rfl|hu
    ·exact grp_valid ht
    ·exact grps_valid n _ g' e u hu
theorem groupsR_valid(ts:List Tm):∀t∈(groupsR ts).1,t.valid=true:=by
 unfold groupsR
 split
 ·cases h:grps (keysL ts).length (keysL ts) with
  |some l=>exact grps_valid _ _ _ h
  |none=>exact fun t ht=>by cases ht
 ·exact fun t ht=>by cases ht
theorem isort_srtd{α:Type}{c:α→α→Int}(hC:Cmp c):∀(l:List α),Srt c l→isort c l=l:=by
 intro l
 have key:∀(n:Nat) (l:List α),l.length=n→Srt c l→isort c l=l:=by
  intro n
  induction n with
  |zero=>intro l hl _;rw[List.eq_nil_of_length_eq_zero hl];rfl
  |succ n ih=>
   intro l hl hs
   rcases nil_or_snoc l with rfl|⟨r,x,rfl⟩
   ·rfl
   ·have h1:=List.pairwise_append.1 hs
    rw[isort_snoc,ih r (by simpa using hl) h1.1]
    have:=insC_split (c:=c) (t:=x) (A:=r) (B:=[]) (fun y hy=>by
     have:=h1.2.2 y hy x (by simp)
     have h2:=hC.neg y x
     omega) (fun y hy=>by cases hy)
    rw[List.append_nil] at this
    exact this
 exact key _ l rfl
theorem keysL_twice(ts:List Tm)(h:keysE ts=0):keysL (keysL ts)=keysL ts∧keysE (keysL ts)=0:=by
 unfold keysE at h
 split at h
 ·rename_i hv
  split at h
  ·rename_i hp
   have e:keysL ts=isort keyCmp ts:=by unfold keysL;rw[if_pos ⟨hv,hp⟩]
   have hm:∀x,x∈isort keyCmp ts↔x∈ts:=fun x=>(isort_perm ts).mem_iff
   have hv2:validAll (isort keyCmp ts)=true:=List.all_eq_true.2 fun x hx=>List.all_eq_true.1 hv x ((hm x).1 hx)
   have hp2:(isort keyCmp ts).all isPair=true:=List.all_eq_true.2 fun x hx=>List.all_eq_true.1 hp x ((hm x).1 hx)
   rw[e]
   refine⟨?_,?_⟩
   ·unfold keysL
    rw[if_pos ⟨hv2,hp2⟩]
    exact isort_srtd key_cmp _ (isort_srt key_cmp ts)
   ·unfold keysE
    rw[if_pos hv2,if_pos hp2]
  ·cases h
 ·cases h
theorem groupsR_keys(ts:List Tm)(h:keysE ts=0):groupsR (keysL ts)=groupsR ts:=by
 obtain⟨h1,h2⟩:=keysL_twice ts h
 unfold groupsR
 rw[h1,h2,h]
def GrpV(o:Option Tm)(v:AV):Prop:=match o with
 |some t=>v=.tuple [t.av,.pv none (.int .i64 0)]
 |none=>∃e:Int,e≠0∧v=.tuple [zt.av,.pv none (.int .i64 e)]
theorem grpV_none{e:Int}(h:e≠0):GrpV none (.tuple [zt.av,.pv none (.int .i64 e)]):=⟨e,h,rfl⟩
theorem pstrG_ok(nm:List UInt8)(x y:Tm)(hp:Heap):S 51 [.pv none (.str nm),.pv none (.sl (some 4) [x.pv,y.pv])] hp=some (.ret (Tm.mk 3 0 nm [x,y]).av,hp):=by
 refine sem_pure (ps:=[(none,.str nm),(none,.sl (some 4) [x.pv,y.pv])]) rfl rfl rfl rfl rfl ?_
 have hb:sBuild [(none,.pv none (.int .i64 0)),(none,.pv none (.int .i64 0)),(none,.pv none (.str [])),(none,.tsl (some 4) [])] [0,2,3] [.pv none (.int .i64 3),.pv none (.str nm),.pv none (.sl (some 4) [x.pv,y.pv])]=some (.pv (some 4) (Tm.mk 3 0 nm [x,y]).pv):=rfl
 simp -dsimp -implicitDefEqProofs only[go_sem,seval,↓reduceIte,hb]
 try rfl
theorem settleO_sl{s:Nat}{r:List Nat}{fr:Fr}{a0 a1 a2 a3 a4 a5 a6 a7:AObj}{es:List PV}{X:Heap}:settleO s r ⟨fr,a0::a1::a2::a3::a4::a5::a6::a7::.arr (some 4) es false::X⟩ (some (.sl (some 4) 8 es.length 0 es.length))=Am.settle r ⟨(s,.pv none (.sl (some 4) es))::fr,a0::a1::a2::a3::a4::a5::a6::a7::.arr (some 4) es true::X⟩:=by
 simp[settleO,AV.freeze,deep]
theorem collect0{n:Nat}{fr:Fr}{xs:Heap}(ho:(xs.take n).all (fun o=>o.refs.all (fun q=>decide (q<n)))=true)(hf:fr.all (fun x=>x.2.refsIn.all (fun q=>decide (q<n)))=true):collect n 0 fr xs=xs.take n:=by
 unfold collect
 rw[List.drop_zero,if_pos (by rw[hf,ho];rfl)]
def s5G(i:Nat)(s:List B):AV:=if i≤1 then .sl (some 5) 4 0 0 0 else .pv none (.sl (some 5) (bds s))
def gH(key:Tm)(fz:Bool)(items:List Tm):Heap:=[.box (some 4) (.agg [(none,.pv none (.int .i64 0)),(none,.pv none (.int .i64 0)),(none,.pv none (.str [])),(none,.sl (some 4) 1 0 0 0)]),.arr (some 4) [] false,.box (some 4) (.pv (some 4) key.pv),.arr (some 4) [] false,.arr (some 5) [] fz,.arr (some 4) (Tm.pvs items) false]
theorem item_get{t:Tm}(h:isPair t=true):(Tm.pvs t.args)[0]? =some (keyOfT t).pv∧(Tm.pvs t.args)[1]? =some (itemT t).pv∧itemT t∈t.args:=by
 obtain⟨a,b,e⟩:=pair_args h
 refine⟨Tm.pvs_get (by unfold keyOfT;rw[e];rfl),Tm.pvs_get (by unfold itemT;rw[e];rfl),?_⟩
 unfold itemT
 rw[e]
 simp
theorem frz5(a0 a1 a2 a3:AObj)(fz:Bool)(X:Heap)(x y:PV):freezeAll [.sl (some 5) 4 0 0 0,.pv (some 4) x,.pv (some 4) y] (a0::a1::a2::a3::.arr (some 5) [] fz::X)=some ([(none,.sl (some 5) []),(some 4,x),(some 4,y)],a0::a1::a2::a3::.arr (some 5) [] true::X):=by
 rw[freezeAll_sl (show okArrF 0 ((a0::a1::a2::a3::AObj.arr (some 5) [] fz::X)[4]?) from rfl)]
 rfl
theorem frz5b(a0 a1 a2 a3:AObj)(fz:Bool)(X:Heap)(x:PV):freezeAll [.sl (some 5) 4 0 0 0,.pv (some 4) x] (a0::a1::a2::a3::.arr (some 5) [] fz::X)=some ([(none,.sl (some 5) []),(some 4,x)],a0::a1::a2::a3::.arr (some 5) [] true::X):=by
 rw[freezeAll_sl (show okArrF 0 ((a0::a1::a2::a3::AObj.arr (some 5) [] fz::X)[4]?) from rfl)]
 rfl
theorem tm_scalar(x:Tm)(q:AV):(AV.tuple [x.av,q]).scalar=false:=by cases x;rfl
theorem pgroup_ok(p:Tm)(r:List Tm)(V:List Int)(hV:V.length≤200000)(hps:∀q∈p::r,isPair q=true∧q.valid=true)(hVk:∀q∈p::r,InV V (keyOfT q))(hl:r.length<100000):
  ∃v,(∀hp,S 37 [.pv none (.sl (some 4) (Tm.pvs (p::r)))] hp=some (.ret v,hp))∧GrpV (grp p r) v:=by
 obtain⟨ps,hpe⟩:∃ps,ps=p::r:=⟨_,rfl⟩
 have hp0:ps[0]? =some p:=by rw[hpe];rfl
 have hpl:ps.length=r.length+1:=by rw[hpe];rfl
 have hpn:∀j,ps[j+1]? =r[j]? :=fun j=>by rw[hpe];rfl
 rw[←hpe] at hps hVk
 rw[←hpe]
 refine sem_pure_ex _ rfl rfl rfl (fun hp=>freezeAll_pvs [(none,.sl (some 4) (Tm.pvs ps))]) rfl ?_
 have hn4:∀(H:Heap),wNilsl (some 4) H=some (.sl (some 4) H.length 0 0 0,H++[.arr (some 4) [] false]):=fun H=>w_nilsl (sh:=some 4) (by decide)
 have hn5:∀(H:Heap),wNilsl (some 5) H=some (.sl (some 5) H.length 0 0 0,H++[.arr (some 5) [] false]):=fun H=>w_nilsl (sh:=some 5) (by decide)
 have hb0:sBuild [(none,.pv none (.int .i64 0)),(none,.pv none (.int .i64 0)),(none,.pv none (.str [])),(none,.tsl (some 4) [])] [] []=some (.agg [(none,.pv none (.int .i64 0)),(none,.pv none (.int .i64 0)),(none,.pv none (.str [])),(none,.tsl (some 4) [])]):=rfl
 have hpp:=hps p (List.mem_of_getElem? hp0)
 obtain⟨g0,_,_⟩:=item_get hpp.1
 have hkv:(keyOfT p).valid=true:=valid_arg hpp.2 (key_mem hpp.1)
 have hks:=valid_size hkv
 have hgn:∀s,gU (keyOfT p) [] r=some s→grp p r=(if(rsR s (keyOfT p)).2=0∧(∀t∈ps,(rsR s (itemT t)).2=0)∧(prT (rsR s (keyOfT p)).1 (lst (ps.map fun t=>(rsR s (itemT t)).1))).size≤2000 then some (prT (rsR s (keyOfT p)).1 (lst (ps.map fun t=>(rsR s (itemT t)).1))) else none):=fun s h=>by
  rw[hpe]
  unfold grp
  rw[h]
 have hgz:gU (keyOfT p) [] r=none→grp p r=none:=fun h=>by
  unfold grp
  rw[h]
 have hVp:=hVk p (List.mem_of_getElem? hp0)
 generalize grp p r=G at hgn hgz ⊢
 obtain⟨key,hkey⟩:∃key,key=keyOfT p:=⟨_,rfl⟩
 rw[←hkey] at g0 hkv hks hgn hgz hVp
 simp -dsimp -implicitDefEqProofs only[go_sem,seval,↓reduceIte,hn4,hn5,Tm.pvs_len,s_iaddr_pv0 (Tm.pvs_get hp0),part_args,s_iaddr_pv0 g0]
 refine W_for (α:=List B) ps.length (fun i s=>OKB s∧InVB V s∧(i≤1→s=[])∧gU key [] r=gU key s (r.drop (i - 1))) (fun i s=>⟨[(2,.ptr 0 0),(4,.ptr 2 0),(5,s5G i s),(6,.sl (some 4) 5 i 0 i),(25,.pv none (.sl (some 4) (Tm.pvs ps))),(26,.pv none (.int .i64 ps.length)),(27,.pv none (.int .i64 i))],gH key (decide (1<i)) ((ps.take i).map itemT)⟩) [] ⟨⟨okb_nil,(fun b hb=>by cases hb),fun _=>rfl,rfl⟩,rfl⟩ ?_ ?_
 ·rintro i s h ⟨hO,hVs,hs1,hgu⟩
  have hc:(i:Int)<(ps.length:Int):=by omega
  obtain⟨u,hu⟩:∃u,ps[i]? =some u:=⟨_,List.getElem?_eq_getElem h⟩
  have hum:=List.mem_of_getElem? hu
  obtain⟨hup,huv⟩:=hps u hum
  obtain⟨u0,u1,u2⟩:=item_get hup
  have hVu:=hVk u hum
  have hk2:(keyOfT u).valid=true:=valid_arg huv (key_mem hup)
  have hk2s:=valid_size hk2
  have q1:=s_iaddr_pv (sh:=some 4) (s:=none) (s':=none) (k:=.i64) u1
  have q0:=s_iaddr_pv (sh:=some 4) (s:=none) (s':=none) (k:=.i64) u0
  simp only[show((1:Nat):Int)=1 from rfl,show((0:Nat):Int)=0 from rfl] at q1 q0
  have hll:(Tm.pvs ((ps.take i).map itemT)).length=i:=by rw[Tm.pvs_len,List.length_map,List.length_take];omega
  have hlim:i+1≤lim:=by unfold lim;omega
  have hap:Tm.pvs ((ps.take i).map itemT)++[(itemT u).pv]=Tm.pvs ((ps.take (i+1)).map itemT):=by rw[List.take_add_one,hu];simp[Tm.pvs_append];rfl
  have w2:IntKind.i64.wrap ((i:Int)+1)=((i+1:Nat):Int):=by rw[wrap64 (by omega) (by omega)];omega
  cases i with
  |zero=>
   have z:((0:Nat):Int)=0:=rfl
   rw[z] at hc w2
   simp only[List.take_zero,List.map_nil,Nat.zero_add] at hap hll
   simp -dsimp -implicitDefEqProofs only[go_sem,seval,↓reduceIte,List.map_nil,gH,s5G,z,hn4,hn5,hc,s_iaddr_pv0 (Tm.pvs_get hu),part_args,q0,q1,hll,hlim,hap,w2]
   rw[hs1 (by omega)] at hgu
   exact⟨[],⟨okb_nil,(fun b hb=>by cases hb),fun _=>rfl,hgu⟩,rfl⟩
  |succ i=>
   have hi0:¬((i+1:Nat):Int)=0:=by omega
   have hur:r[i]? =some u:=by rw[←hpn];exact hu
   have hdr:r.drop i=u::r.drop (i+1):=by
    obtain⟨q1,e1⟩:=List.getElem?_eq_some_iff.1 hur
    rw[List.drop_eq_getElem_cons q1,e1]
   have hgu:gU key [] r=gU key s (u::r.drop (i+1)):=by rw[hgu,Nat.add_sub_cancel,hdr]
   rw[gU] at hgu
   have hO2:=unR_okb s (keyOfT u) key
   have hV2:=unR_V hVs hVu hVp
   have hun:=punify_ok V s (keyOfT u) key (by omega) hVs hVu hVp (by have:=InVB.len hO.good hVs;omega) (fun b hb=>(hO.good.2 b hb).2) (by omega) (by omega)
   have hfin:∀{e:Int},e≠0→(unR s (keyOfT u) key).2=e→GrpV G (.tuple [zt.av,.pv none (.int .i64 e)]):=fun{e} he h=>by
    rw[if_neg (by rw[h];exact he)] at hgu
    rw[hgz hgu]
    exact grpV_none he
   have hgu2:(unR s (keyOfT u) key).2=0→gU key [] r=gU key (unR s (keyOfT u) key).1 (r.drop (i+1)):=fun h=>by rw[hgu,if_pos h]
   clear hgu
   generalize unR s (keyOfT u) key=R at*
   obtain⟨s2,e⟩:=R
   dsimp only at hO2 hV2 hun hfin hgu2
   cases i with
   |zero=>
    have hs0:=hs1 (by omega)
    subst hs0
    have hq:=s_iaddr_pv (sh:=some 4) (s:=none) (s':=none) (k:=.i64) (Tm.pvs_get hu)
    simp only[Nat.zero_add,show((1:Nat):Int)=1 from rfl] at hc hll hlim hap w2 hq
    have hcall:=fun(a0 a1 a2 a3:AObj) (X:Heap)=>sem_any rfl rfl rfl (frz5 a0 a1 a2 a3 false X (keyOfT u).pv key.pv) (hun [])
    by_cases he:e=0
    ·have he':=eq_true he
     simp -dsimp -implicitDefEqProofs only[go_sem,seval,↓reduceIte,gH,s5G,hn4,hn5,hc,hi0,hq,part_args,q0,q1,hll,hlim,hap,w2,hcall,he']
     exact⟨s2,⟨hO2,hV2,fun h=>by revert h;simp,hgu2 he⟩,rfl⟩
    ·simp -dsimp -implicitDefEqProofs only[go_sem,seval,↓reduceIte,gH,s5G,hn4,hn5,hb0,hc,hi0,hq,part_args,q0,q1,hll,hlim,hap,w2,hcall,he,w_store_agg (Nat.zero_le _)]
     exact⟨_,frozen_zt2 _ _ _ rfl,hfin he rfl⟩
   |succ i=>
    simp only[Tm.av] at hun
    by_cases he:e=0
    ·have he':=eq_true he
     simp -dsimp -implicitDefEqProofs only[go_sem,seval,↓reduceIte,gH,s5G,hn4,hn5,hc,hi0,s_iaddr_pv (Tm.pvs_get hu),part_args,q0,q1,hll,hlim,hap,w2,hun,he']
     exact⟨s2,⟨hO2,hV2,fun h=>by revert h;simp,hgu2 he⟩,rfl⟩
    ·simp -dsimp -implicitDefEqProofs only[go_sem,seval,↓reduceIte,gH,s5G,hn4,hn5,hb0,hc,hi0,s_iaddr_pv (Tm.pvs_get hu),part_args,q0,q1,hll,hlim,hap,w2,hun,he,w_store_agg (Nat.zero_le _)]
     exact⟨_,frozen_zt2 _ _ _ rfl,hfin he rfl⟩
 ·rintro s ⟨hO,hVs,hs1,hgu⟩
  have hc:¬(ps.length:Int)<(ps.length:Int):=by omega
  have hgS:gU key [] r=some s:=by
   rw[hgu,hpl,Nat.add_sub_cancel,List.drop_length]
   rfl
  have hG:=hgn s hgS
  clear hgn hgz hgu hgS
  have hsl:=InVB.len hO.good hVs
  have hpr:=fun t (ht:t.size<1000000000)=>presolve_ok s t (by omega) (fun b hb=>(hO.good.2 b hb).2) ht
  obtain⟨s5,o4,e1,e2,hr1,hr2,hlow⟩:∃(s5:AV) (o4:AObj),s5G ps.length s=s5∧AObj.arr (some 5) [] (decide (1<ps.length))=o4∧
    (∀t:Tm,t.size<1000000000→∀(a0 a1 a2 a3:AObj) (X:Heap),S 86 [s5,t.av] (a0::a1::a2::a3::o4::X)=some (.ret (.tuple [(rsR s t).1.av,.pv none (.int .i64 (rsR s t).2)]),a0::a1::a2::a3::.arr (some 5) [] true::X))∧
    (∀t:Tm,t.size<1000000000→∀(a0 a1 a2 a3:AObj) (X:Heap),S 86 [s5,t.av] (a0::a1::a2::a3::.arr (some 5) [] true::X)=some (.ret (.tuple [(rsR s t).1.av,.pv none (.int .i64 (rsR s t).2)]),a0::a1::a2::a3::.arr (some 5) [] true::X))∧
    s5.refsIn.all (fun q=>decide (q<9))=true:=by
   by_cases h1:ps.length≤1
   ·have hs0:=hs1 h1
    subst hs0
    refine⟨.sl (some 5) 4 0 0 0,.arr (some 5) [] false,by unfold s5G;rw[if_pos h1],by rw[decide_eq_false (by omega)],fun t ht a0 a1 a2 a3 X=> ?_,fun t ht a0 a1 a2 a3 X=> ?_,rfl⟩
    ·exact(sem_any rfl rfl rfl (frz5b a0 a1 a2 a3 false X t.pv) (hpr t ht [])).trans (by rw[tm_scalar];rfl)
    ·exact(sem_any rfl rfl rfl (frz5b a0 a1 a2 a3 true X t.pv) (hpr t ht [])).trans (by rw[tm_scalar];rfl)
   ·refine⟨.pv none (.sl (some 5) (bds s)),.arr (some 5) [] true,by unfold s5G;rw[if_neg h1],by rw[decide_eq_true (by omega)],fun t ht a0 a1 a2 a3 X=>hpr t ht _,fun t ht a0 a1 a2 a3 X=>hpr t ht _,rfl⟩
  simp only[gH,e1,e2]
  clear e1 e2 hs1 hpr
  have hk1:=hr1 key (by omega)
  simp only[Tm.av] at hk1
  have hrv:=fun t=>rsR_valid (s:=s) (t:=t)
  by_cases he:(rsR s key).2=0
  rotate_left
  ·rw[if_neg (fun h=>he h.1)] at hG
   generalize rsR s key=R at*
   obtain⟨k,e⟩:=R
   dsimp only at he hk1
   simp -dsimp -implicitDefEqProofs only[go_sem,seval,↓reduceIte,hn4,hn5,hb0,hc,List.take_length,hk1,he,w_store_agg (Nat.zero_le _)]
   rw[hG]
   exact⟨_,frozen_zt2 _ _ _ rfl,grpV_none he⟩
  ·have hkv2:=hrv key he
   obtain⟨k,hk⟩:∃k,k=(rsR s key).1:=⟨_,rfl⟩
   have he':=eq_true he
   rw[←hk] at hk1 hG hkv2
   simp -dsimp -implicitDefEqProofs only[go_sem,seval,↓reduceIte,hn4,hn5,hc,List.take_length,hk1,he']
   refine W_for (α:=Unit) ps.length (fun i _=>∀t∈ps.take i,(rsR s (itemT t)).2=0) (fun i _=>⟨[(2,.ptr 0 0),(5,s5),(11,.ptr 6 0),(13,.sl (some 4) 8 i 0 i),(67,.sl (some 4) 5 ps.length 0 ps.length),(68,.pv none (.int .i64 ps.length)),(69,.pv none (.int .i64 i))],
    [.box (some 4) (.agg [(none,.pv none (.int .i64 0)),(none,.pv none (.int .i64 0)),(none,.pv none (.str [])),(none,.sl (some 4) 1 0 0 0)]),.arr (some 4) [] false,.box (some 4) (.pv (some 4) key.pv),.arr (some 4) [] false,.arr (some 5) [] true,.arr (some 4) (Tm.pvs (ps.map itemT)) false,.box (some 4) (.pv (some 4) k.pv),.arr (some 4) [] false,.arr (some 4) (Tm.pvs ((ps.take i).map fun t=>(rsR s (itemT t)).1)) false]⟩) () ⟨(fun t ht=>by cases ht),rfl⟩ ?_ ?_
   ·rintro i - h hall
    have hc:(i:Int)<(ps.length:Int):=by omega
    obtain⟨u,hu⟩:∃u,ps[i]? =some u:=⟨_,List.getElem?_eq_getElem h⟩
    have hum:=List.mem_of_getElem? hu
    obtain⟨hup,huv⟩:=hps u hum
    obtain⟨u0,u1,u2⟩:=item_get hup
    have hk2:(itemT u).valid=true:=valid_arg huv u2
    have hk2s:=valid_size hk2
    have hcall:=hr2 (itemT u) (by omega)
    have hug:(Tm.pvs (ps.map itemT))[i]? =some (itemT u).pv:=Tm.pvs_get (by rw[List.getElem?_map,hu];rfl)
    have hll:(Tm.pvs ((ps.take i).map fun t=>(rsR s (itemT t)).1)).length=i:=by rw[Tm.pvs_len,List.length_map,List.length_take];omega
    have hlm:(Tm.pvs (ps.map itemT)).length=ps.length:=by rw[Tm.pvs_len,List.length_map]
    have hlim:i+1≤lim:=by unfold lim;omega
    have hap:Tm.pvs ((ps.take i).map fun t=>(rsR s (itemT t)).1)++[(rsR s (itemT u)).1.pv]=Tm.pvs ((ps.take (i+1)).map fun t=>(rsR s (itemT t)).1):=by rw[List.take_add_one,hu];simp[Tm.pvs_append];rfl
    have w2:IntKind.i64.wrap ((i:Int)+1)=((i+1:Nat):Int):=by rw[wrap64 (by omega) (by omega)];omega
    simp only[Tm.av] at hcall
    by_cases hue:(rsR s (itemT u)).2=0
    ·have hue':=eq_true hue
     have hall2:∀t∈ps.take (i+1),(rsR s (itemT t)).2=0:=fun t ht=>by
      rw[List.take_add_one,hu] at ht
      rcases List.mem_append.1 ht with ht|ht
      ·exact hall t ht
      ·have:t=u:=by simpa using ht
       rw[this];exact hue
     simp -dsimp -implicitDefEqProofs only[go_sem,seval,↓reduceIte,hn4,hn5,hc,s_iaddr_sl h,aload_eptr,hug,hcall,hue',hll,hlm,hlim,hap,w2]
     refine⟨(),hall2,?_⟩
     rw[collect0 (by simp[AObj.refs,AV.refsIn,AV.refsIn.go]) (by simp[AV.refsIn];simpa using hlow)]
     rfl
    ·have hGn:G=none:=by rw[hG,if_neg (fun h=>hue (h.2.1 u hum))]
     generalize rsR s (itemT u)=R at*
     obtain⟨x,e⟩:=R
     dsimp only at hcall hue
     simp -dsimp -implicitDefEqProofs only[go_sem,seval,↓reduceIte,hn4,hn5,hb0,hc,s_iaddr_sl h,aload_eptr,hug,hcall,hue,hll,hlm,hlim,w2,w_store_agg (Nat.zero_le _)]
     rw[hGn]
     exact⟨_,frozen_zt2 _ _ _ rfl,grpV_none hue⟩
   ·rintro - hall
    rw[List.take_length] at hall
    obtain⟨L,hL⟩:∃L,L=ps.map fun t=>(rsR s (itemT t)).1:=⟨_,rfl⟩
    have hLl:L.length=ps.length:=by rw[hL,List.length_map]
    have hLp:(Tm.pvs L).length=ps.length:=by rw[Tm.pvs_len,hLl]
    have hLs:∀t∈L,t.size≤2000:=fun t ht=>by
     rw[hL] at ht
     obtain⟨q,hq,rfl⟩:=List.mem_map.1 ht
     exact(hrv _ (hall q hq)).2
    have hls:=lstG_size L 2000 hLs
    rw[List.take_length,←hL]
    rw[←hL] at hG
    have hset:=fun(st:List Nat) (fr:Fr) (a0 a1 a2 a3 a4 a5 a6 a7:AObj) (X:Heap)=>settleO_sl (s:=13) (r:=st) (fr:=fr) (a0:=a0) (a1:=a1) (a2:=a2) (a3:=a3) (a4:=a4) (a5:=a5) (a6:=a6) (a7:=a7) (es:=Tm.pvs L) (X:=X)
    rw[hLp] at hset
    have h1:=fun hp=>plist_ok L (by omega) hp
    have h2:∀hp,S 51 [.pv none (.str [45]),.pv none (.sl (some 4) [k.pv,(lst L).pv])] hp=some (.ret (prT k (lst L)).av,hp):=fun hp=>pstrG_ok [45] k (lst L) hp
    have hsz:(prT k (lst L)).size=1+(k.size+(lst L).size):=by
     show 1+(k.size+((lst L).size+0))=_
     omega
    have h3:=fun hp=>size_ok (prT k (lst L)) hp (by omega)
    simp only[Tm.av] at h1 h2 h3
    by_cases hz:(prT k (lst L)).size≤2000
    ·rw[if_pos ⟨he,hall,hz⟩] at hG
     have hz':¬(2000:Int)<((min (prT k (lst L)).size 2001:Nat):Int):=by omega
     simp -dsimp -implicitDefEqProofs only[go_sem,seval,↓reduceIte,hn4,hn5,hc,hset,h1,h2,h3,hz',w_store_agg (Nat.zero_le _)]
     rw[hG]
     exact⟨_,frozen_two _ _ _ _ _,rfl⟩
    ·rw[if_neg (fun h=>hz h.2.2)] at hG
     have hz':(2000:Int)<((min (prT k (lst L)).size 2001:Nat):Int):=by omega
     simp -dsimp -implicitDefEqProofs only[go_sem,seval,↓reduceIte,hn4,hn5,hb0,hc,hset,h1,h2,h3,hz',w_store_agg (Nat.zero_le _)]
     rw[hG]
     exact⟨_,frozen_zt2 _ _ _ rfl,grpV_none (by decide)⟩
theorem collect_no{n b:Nat}{fr:Fr}{hp:Heap}(h:fr.all (fun x=>x.2.refsIn.all (fun q=>decide (q<n)))=false):collect n b fr hp=hp:=by
 unfold collect
 rw[h]
 rfl
theorem collect_or{n b:Nat}{fr:Fr}{H A X:Heap}(h:H.length+A.length=n):∃X',collect n b fr (H++(A++X))=H++(A++X'):=by
 unfold collect
 split
 ·refine⟨[],?_⟩
  rw[List.append_nil,←List.append_assoc]
  exact List.take_left' (by rw[List.length_append,h])
 ·exact⟨X,rfl⟩
theorem collect_ex4{n k:Nat}{fr:Fr}{H X:Heap}{a b c d c' d':AObj}(h:H.length+4=n)(hc:c=c')(hd:d=d'):∃X',(⟨fr,collect n k fr (H++(a::b::c::d::X))⟩:St)=⟨fr,H++(a::b::c'::d'::X')⟩:=by
 subst hc hd
 obtain⟨X',e⟩:=collect_or (n:=n) (b:=k) (fr:=fr) (H:=H) (A:=[a,b,c,d]) (X:=X) h
 exact⟨X',congrArg _ e⟩
theorem vari_self{k:Tm}(h:k.valid=true):vari k k=true:=by
 unfold vari
 rw[h,Tm.cmp_zero.2 rfl]
 rfl
theorem filter_take{f:Tm→Bool}{L:List Tm}{i:Nat}{u:Tm}(h:L[i]? =some u):(L.take (i+1)).filter f=(L.take i).filter f++(if f u=true then[u] else[]):=by
 rw[List.take_add_one,h,List.filter_append]
 congr 1
 cases e:f u <;> simp[e]
theorem frzG{H:Heap}{h:Nat}(hh:H.length=h)(x0 x1 x3:AObj)(X:Heap)(es:List PV)(n:Nat)(hn:es.length=n):freezeAll [.sl (some 4) (h+2) n 0 n] (H++(x0::x1::.arr (some 4) es false::x3::X))=some ([(none,.sl (some 4) es)],H++(x0::x1::.arr (some 4) es true::x3::X)):=by
 have hg:(H++(x0::x1::.arr (some 4) es false::x3::X))[h+2]? =some (.arr (some 4) es false):=by rw[getN hh];rfl
 rw[freezeAll_sl (show okArrF n ((H++(x0::x1::.arr (some 4) es false::x3::X))[h+2]?) from by rw[hg];exact hn),hg,setN hh]
 rfl
theorem frozenG{H:Heap}{q n:Nat}{es:List PV}{fz:Bool}{x:Int}(h:H[q]? =some (.arr (some 4) es fz))(hn:es.length=n):Am.frozen (.tuple [.pv none (.sl (some 4) es),.pv none (.int .i64 x)]) (.tuple [.sl (some 4) q n 0 n,.pv none (.int .i64 x)]) H:=by
 subst hn
 exact⟨H.set q (.arr (some 4) es true),by simp[AV.freezeRes,freezeAll,AV.freeze,deep,h,pvs,AV.shp]⟩
theorem s_iaddr_sl0{sh s':Sh}{k:IntKind}{r v n:Nat}(h:0<n):sIaddr sh [.sl sh r v 0 n,.pv s' (.int k 0)]=some (.eptr sh r v 0 0):=s_iaddr_sl (i:=0) h
theorem aload_fld{H:Heap}{q n:Nat}{es:List PV}{fz:Bool}{t:Tm}(h:H[q]? =some (.arr (some 4) es fz))(hn:es.length=n)(h0:es[0]? =some t.pv):aload none H (.eptr (some 4) q n 0 3)=some (.pv none (.sl (some 4) (Tm.pvs t.args))):=by
 simp[aload,h,hn,h0,toAV,part_args]
theorem pgroups_ok(ts:List Tm)(hl:Tm.sizes ts<100000000)(hn:ts.length<100000)(hz:validAll ts=true→Tm.sizes ts≤200000)(hp:Heap):
  S 10 [.pv none (.sl (some 4) (Tm.pvs ts))] hp=some (.ret (.tuple [.pv none (.sl (some 4) (Tm.pvs (groupsR ts).1)),.pv none (.int .i64 (groupsR ts).2)]),hp):=by
 refine sem_pure rfl rfl rfl (freezeAll_pvs [(none,.sl (some 4) (Tm.pvs ts))]) rfl ?_
 have hn4:∀(H:Heap),wNilsl (some 4) H=some (.sl (some 4) H.length 0 0 0,H++[.arr (some 4) [] false]):=fun H=>w_nilsl (sh:=some 4) (by decide)
 obtain⟨v,H0,hcall,q0,E,hE,hq0,hq1,rfl⟩:=keys_h ts hl [.arr (some 4) [] false]
 have hH0:H0[0]? =some (.arr (some 4) [] false):=by rw[hE];rfl
 by_cases he:keysE ts=0
 rotate_left
 ·have e:groupsR ts=([],keysE ts):=by unfold groupsR;rw[if_neg he]
  rw[e]
  dsimp only
  generalize keysE ts=k at*
  simp -dsimp -implicitDefEqProofs only[go_sem,seval,↓reduceIte,hn4,hcall,he]
  rw[←frozen_tuple]
  exact frozenG (es:=[]) (fz:=false) (List.getElem?_concat_length) rfl
 ·have he':=eq_true he
  have e:groupsR ts=ofG (grps (keysL ts).length (keysL ts)):=by unfold groupsR;rw[if_pos he]
  rw[e]
  have hval:validAll ts=true:=by
   unfold keysE at he
   split at he
   ·assumption
   ·cases he
  have hall:ts.all isPair=true:=by
   unfold keysE at he
   rw[if_pos hval] at he
   split at he
   ·assumption
   ·cases he
  have hm:∀x∈keysL ts,x∈ts:=fun x hx=>by
   unfold keysL at hx
   rw[if_pos ⟨hval,hall⟩] at hx
   exact(isort_perm ts).mem_iff.1 hx
  have hkl:(keysL ts).length=ts.length:=by
   unfold keysL
   rw[if_pos ⟨hval,hall⟩,isort_length]
  have hV:(Tm.occs ts).length≤200000:=Nat.le_trans (Tm.occs_len ts) (hz hval)
  have hprop:∀x∈keysL ts,isPair x=true∧x.valid=true∧InV (Tm.occs ts) (keyOfT x):=fun x hx=>by
   have h1:=List.all_eq_true.1 hall x (hm x hx)
   refine⟨h1,validAll_mem hval (hm x hx),fun w hw=>Tm.occs_mem (hm x hx) ?_⟩
   refine Tm.occ_arg (fun hk=> ?_) (key_mem h1) hw
   simp[isPair,hk] at h1
  generalize Tm.occs ts=V at hV hprop
  obtain⟨n0,hn0⟩:∃n0,n0=(keysL ts).length:=⟨_,rfl⟩
  obtain⟨G,hG⟩:∃G,G=grps n0 (keysL ts):=⟨_,rfl⟩
  rw[←hn0,←hG]
  simp -dsimp -implicitDefEqProofs only[go_sem,seval,↓reduceIte,hn4,hcall,he']
  refine W_loop (fun n st=>∃(D L:List Tm) (q:Nat) (H:Heap) (m:Nat),n=L.length∧L.length≤m∧D.length+L.length≤100000∧G=(grps m L).map (D++·)∧(∀x∈L,isPair x=true∧x.valid=true∧InV V (keyOfT x))∧H0.length≤H.length∧H[0]? =some (.arr (some 4) (Tm.pvs D) false)∧H[q]? =some (.arr (some 4) (Tm.pvs L) false)∧0<q∧st=⟨[(2,.sl (some 4) 0 D.length 0 D.length),(4,.sl (some 4) q L.length 0 L.length)],H⟩) (n:=n0) ⟨[],keysL ts,q0,H0,n0,hn0,by omega,by simp;omega,by rw[hG];cases grps n0 (keysL ts) <;> rfl,hprop,Nat.le_refl _,hH0,hq1,hq0,?_⟩ ?_
  ·rfl
  ·rintro n st ⟨D,L,q,H,m,hnL,hm1,hDL,hGD,hP,hHl,hh0,hhq,hqp,rfl⟩
   cases L with
   |nil=>
    have hg:G=some D:=by
     rw[hGD]
     cases m <;> simp[grps]
    rw[hg]
    have hc:¬(0:Int)<((0:Nat):Int):=by omega
    simp -dsimp -implicitDefEqProofs only[go_sem,seval,↓reduceIte,hn4,hc]
    rw[←frozen_tuple]
    exact frozenG hh0 (Tm.pvs_len D)
   |cons p r=>
    obtain⟨h,hh⟩:∃h,H.length=h:=⟨_,rfl⟩
    have hpp:=hP p List.mem_cons_self
    obtain⟨g0,_,_⟩:=item_get hpp.1
    have hkv:(keyOfT p).valid=true:=valid_arg hpp.2.1 (key_mem hpp.1)
    have hks:=valid_size hkv
    obtain⟨key,hkey⟩:∃key,key=keyOfT p:=⟨_,rfl⟩
    rw[←hkey] at g0 hkv hks
    obtain⟨L,hL⟩:∃L,L=p::r:=⟨_,rfl⟩
    obtain⟨N,hN⟩:∃N,N=L.length:=⟨_,rfl⟩
    have hNp:0<N:=by rw[hN,hL];simp
    have hL0:(Tm.pvs L)[0]? =some p.pv:=by rw[hL];rfl
    rw[←hL] at hnL hm1 hDL hP hhq ⊢
    rw[←hN] at hnL hm1 hDL ⊢
    have hLl:(Tm.pvs L).length=N:=by rw[Tm.pvs_len,hN]
    have hql:=get_lt hhq
    have h0l:=get_lt hh0
    have hq:∀X,(H++X)[q]? =some (.arr (some 4) (Tm.pvs L) false):=fun X=>by rw[List.getElem?_append_left hql];exact hhq
    have hx0:∀X,(H++X)[0]? =some (.arr (some 4) (Tm.pvs D) false):=fun X=>by rw[List.getElem?_append_left h0l];exact hh0
    have hx0s:∀X Y,(H++X).set 0 Y=H.set 0 Y++X:=fun X Y=>List.set_append_left _ _ h0l
    have hfl:=aload_fld hhq hLl hL0
    have hc:(0:Int)<(N:Int):=by omega
    simp -dsimp -implicitDefEqProofs only[go_sem,seval,↓reduceIte,hn4,hc,s_iaddr_sl0 hNp,hfl,s_iaddr_pv0 g0,hh,getN hh,getN0 hh,setN hh,setN0 hh,List.append_assoc,get_pre,get_pre0,set_pre,set_pre0,Nat.add_assoc,List.length_append]
    refine W_for (α:=Heap) N (fun _ _=>True) (fun i X=>⟨[(2,.sl (some 4) 0 D.length 0 D.length),(6,.func (.func 35) [] [.ptr h 0]),(7,.sl (some 4) (h+2) ((L.take i).filter fun q=>vari (keyOfT q) key).length 0 ((L.take i).filter fun q=>vari (keyOfT q) key).length),(8,.sl (some 4) (h+3) ((L.take i).filter fun q=> !vari (keyOfT q) key).length 0 ((L.take i).filter fun q=> !vari (keyOfT q) key).length),(31,.sl (some 4) q N 0 N),(32,.pv none (.int .i64 N)),(33,.pv none (.int .i64 i))],
     H++([.box (some 4) (.pv (some 4) key.pv),.arr (some 4) [] false,.arr (some 4) (Tm.pvs ((L.take i).filter fun q=>vari (keyOfT q) key)) false,.arr (some 4) (Tm.pvs ((L.take i).filter fun q=> !vari (keyOfT q) key)) false]++X)⟩) [] ⟨trivial,?_⟩ ?_ ?_
    ·rfl
    ·rintro i X hi -
     have hc:(i:Int)<(N:Int):=by omega
     obtain⟨u,hu⟩:∃u,L[i]? =some u:=⟨_,List.getElem?_eq_getElem (by omega)⟩
     have hum:=List.mem_of_getElem? hu
     obtain⟨up,uv,_⟩:=hP u hum
     have hus:=valid_size uv
     have hug:=Tm.pvs_get hu
     have hcl:∀X:Heap,S 35 [u.av,.ptr h 0] (H++(.box (some 4) (.pv (some 4) key.pv)::X))=some (.ret (.pv none (.bool (vari (keyOfT u) key))),H++(.box (some 4) (.pv (some 4) key.pv)::X)):=fun X=>
      variK_ok u key up _ h (by rw[getN0 hh];rfl) (by omega) (by omega)
     have hf1:=filter_take (f:=fun q=>vari (keyOfT q) key) hu
     have hf2:=filter_take (f:=fun q=> !vari (keyOfT q) key) hu
     have hlen1:((L.take i).filter fun q=>vari (keyOfT q) key).length≤i:=Nat.le_trans (List.length_filter_le _ _) (by rw[List.length_take];omega)
     have hlen2:((L.take i).filter fun q=> !vari (keyOfT q) key).length≤i:=Nat.le_trans (List.length_filter_le _ _) (by rw[List.length_take];omega)
     rw[hf1,hf2]
     generalize ((L.take i).filter fun q=>vari (keyOfT q) key)=A at*
     generalize ((L.take i).filter fun q=> !vari (keyOfT q) key)=B at*
     have hA:(Tm.pvs A).length=A.length:=Tm.pvs_len A
     have hB:(Tm.pvs B).length=B.length:=Tm.pvs_len B
     have hlA:A.length+1≤lim:=by unfold lim;omega
     have hlB:B.length+1≤lim:=by unfold lim;omega
     have hA1:Tm.pvs A++[u.pv]=Tm.pvs (A++[u]):=by rw[Tm.pvs_append];rfl
     have hB1:Tm.pvs B++[u.pv]=Tm.pvs (B++[u]):=by rw[Tm.pvs_append];rfl
     have w2:IntKind.i64.wrap ((i:Int)+1)=((i+1:Nat):Int):=by rw[wrap64 (by omega) (by omega)];omega
     simp only[Tm.av] at hcl
     cases hv:vari (keyOfT u) key with
     |true=>
      rw[hv] at hcl
      simp -dsimp -implicitDefEqProofs only[go_sem,seval,↓reduceIte,hn4,hc,s_iaddr_sl hi,aload_eptr,hq,hLl,hug,hcl,hA,hlA,hA1,w2,hh,getN hh,getN0 hh,setN hh,setN0 hh,List.append_assoc,get_pre,get_pre0,set_pre,set_pre0,Nat.add_assoc,List.length_append]
      exact collect_ex4 (by omega) rfl (by rw[List.append_nil])
     |false=>
      rw[hv] at hcl
      simp -dsimp -implicitDefEqProofs only[go_sem,seval,↓reduceIte,hn4,hc,s_iaddr_sl hi,aload_eptr,hq,hLl,hug,hcl,hB,hlB,hB1,w2,hh,getN hh,getN0 hh,setN hh,setN0 hh,List.append_assoc,get_pre,get_pre0,set_pre,set_pre0,Nat.add_assoc,List.length_append]
      exact collect_ex4 (by omega) (by rw[List.append_nil]) rfl
    ·rintro X -
     have hc:¬(N:Int)<(N:Int):=by omega
     have htk:L.take N=L:=List.take_of_length_le (by omega)
     have hvs:vari (keyOfT p) key=true:=by rw[←hkey];exact vari_self hkv
     have hf1:(L.filter fun q=>vari (keyOfT q) key)=p::r.filter fun q=>vari (keyOfT q) key:=by rw[hL,List.filter_cons,if_pos hvs]
     have hf2:(L.filter fun q=> !vari (keyOfT q) key)=r.filter fun q=> !vari (keyOfT q) key:=by rw[hL,List.filter_cons,if_neg (by rw[hvs];simp)]
     rw[htk,hf1,hf2]
     have hrl:r.length+1=N:=by rw[hN,hL];rfl
     have hl1:(r.filter fun q=>vari (keyOfT q) key).length≤r.length:=List.length_filter_le _ _
     have hl2:(r.filter fun q=> !vari (keyOfT q) key).length≤r.length:=List.length_filter_le _ _
     have hP2:∀x∈r.filter (fun q=> !vari (keyOfT q) key),isPair x=true∧x.valid=true∧InV V (keyOfT x):=fun x hx=>hP x (by rw[hL];exact List.mem_cons_of_mem _ (List.mem_filter.1 hx).1)
     have hP1:∀x∈p::r.filter (fun q=>vari (keyOfT q) key),isPair x=true∧x.valid=true∧InV V (keyOfT x):=fun x hx=>hP x (by
      rw[hL]
      rcases List.mem_cons.1 hx with rfl|hx
      ·exact List.mem_cons_self
      ·exact List.mem_cons_of_mem _ (List.mem_filter.1 hx).1)
     obtain⟨m',rfl⟩:∃m',m=m'+1:=⟨m - 1,by omega⟩
     have hgd:G=(consG (grp p (r.filter fun q=>vari (keyOfT q) key)) (grps m' (r.filter fun q=> !vari (keyOfT q) key))).map (D++·):=by
      rw[hGD,grps,←hkey]
     clear hGD
     generalize (r.filter fun q=> !vari (keyOfT q) key)=R2 at*
     generalize (r.filter fun q=>vari (keyOfT q) key)=R1 at*
     obtain⟨v,hv,hV2⟩:=pgroup_ok p R1 V (by omega) (fun q hq=>⟨(hP1 q hq).1,(hP1 q hq).2.1⟩) (fun q hq=>(hP1 q hq).2.2) (by omega)
     have hfz:=fun(x0 x1 x3:AObj) (X:Heap)=>frzG hh x0 x1 x3 X (Tm.pvs (p::R1)) (R1.length+1) (by rw[Tm.pvs_len];rfl)
     have hcall:=fun(x0 x1 x3:AObj) (X:Heap)=>sem_any rfl rfl rfl (hfz x0 x1 x3 X) (hv [])
     have hDl:(Tm.pvs D).length=D.length:=Tm.pvs_len D
     have hlD:D.length+1≤lim:=by unfold lim;omega
     cases hgr:grp p R1 with
     |none=>
      rw[hgr] at hV2 hgd
      obtain⟨e,he0,rfl⟩:=hV2
      have hGn:G=none:=hgd
      rw[hGn]
      simp only[tm_scalar,cond_false] at hcall
      simp only[Tm.av] at hcall
      generalize zt.pv=zp at hcall
      simp -dsimp -implicitDefEqProofs only[go_sem,seval,↓reduceIte,hn4,hc,hcall,he0,hh,getN hh,getN0 hh,setN hh,setN0 hh,List.append_assoc,get_pre,get_pre0,set_pre,set_pre0,Nat.add_assoc,List.length_append]
      rfl
     |some t=>
      rw[hgr] at hV2 hgd
      have htv:=grp_valid hgr
      have hts:=valid_size htv
      have hV3:v=.tuple [t.av,.pv none (.int .i64 0)]:=hV2
      subst hV3
      have hclone:=fun hp=>clone_ok t hp htv (by omega)
      have hD1:Tm.pvs D++[t.pv]=Tm.pvs (D++[t]):=by rw[Tm.pvs_append];rfl
      simp only[tm_scalar,cond_false] at hcall
      simp only[Tm.av] at hcall hclone
      simp -dsimp -implicitDefEqProofs only[go_sem,seval,↓reduceIte,hn4,hc,hcall,hclone,hx0,hx0s,hDl,hlD,hD1,hh,getN hh,getN0 hh,setN hh,setN0 hh,List.append_assoc,get_pre,get_pre0,set_pre,set_pre0,Nat.add_assoc,List.length_append]
      rw[collect_no (by simp[AV.refsIn];omega)]
      refine⟨R2.length,by omega,D++[t],R2,h+3,H.set 0 (.arr (some 4) (Tm.pvs (D++[t])) false)++(.box (some 4) (.pv (some 4) key.pv)::.arr (some 4) [] false::.arr (some 4) (Tm.pvs (p::R1)) true::.arr (some 4) (Tm.pvs R2) false::(X++[.box (some 4) (.pv (some 4) t.pv),.arr (some 4) [] false])),m',rfl,by omega,by simp;omega,?_,hP2,?_,?_,?_,by omega,?_⟩
      ·rw[hgd]
       cases grps m' R2 <;> simp[consG]
      ·rw[List.length_append,List.length_set]
       omega
      ·rw[List.getElem?_append_left (by rw[List.length_set];exact h0l),List.getElem?_set_self h0l]
      ·rw[getN (by rw[List.length_set];exact hh)]
       rfl
      ·rw[List.length_append]
       rfl
theorem fok0:FactsOk (find tab) prim []:=.nil
def fq0:List (Sh × PV):=[((some 4),(.agg [(none,(.int .i64 (2))),(none,(.int .i64 (0))),(none,(.str [97])),(none,(.sl (some 4) []))]))]
def fv0:AV:=(.pv (some 4) (.agg [(none,(.int .i64 (2))),(none,(.int .i64 (0))),(none,(.str [97])),(none,(.sl (some 4) []))]))
theorem ff0:resV (sem (find tab) prim .fn 47 (pvs fq0) [])=some fv0:=fact_of (n:=60) fok0 (by kernel_rfl)
def fK1:Facts:=(47,fq0,fv0)::[]
theorem fok1:FactsOk (find tab) prim fK1:=.cons (by kernel_rfl) ff0 fok0
def fq1:List (Sh × PV):=[((some 4),(.agg [(none,(.int .i64 (2))),(none,(.int .i64 (0))),(none,(.str [97])),(none,(.sl (some 4) []))])),((some 4),(.agg [(none,(.int .i64 (2))),(none,(.int .i64 (0))),(none,(.str [97])),(none,(.sl (some 4) []))]))]
def fv1:AV:=(.pv none (.bool true))
theorem ff1:resV (sem (find tab) prim .fn 36 (pvs fq1) [])=some fv1:=fact_of (n:=60) fok1 (by kernel_rfl)
def fK2:Facts:=(36,fq1,fv1)::fK1
theorem fok2:FactsOk (find tab) prim fK2:=.cons (by kernel_rfl) ff1 fok1
def fq2:List (Sh × PV):=[((some 4),(.agg [(none,(.int .i64 (2))),(none,(.int .i64 (0))),(none,(.str [98])),(none,(.sl (some 4) []))]))]
def fv2:AV:=(.pv (some 4) (.agg [(none,(.int .i64 (2))),(none,(.int .i64 (0))),(none,(.str [98])),(none,(.sl (some 4) []))]))
theorem ff2:resV (sem (find tab) prim .fn 47 (pvs fq2) [])=some fv2:=fact_of (n:=60) fok2 (by kernel_rfl)
def fK3:Facts:=(47,fq2,fv2)::fK2
theorem fok3:FactsOk (find tab) prim fK3:=.cons (by kernel_rfl) ff2 fok2
def fq3:List (Sh × PV):=[((some 4),(.agg [(none,(.int .i64 (2))),(none,(.int .i64 (0))),(none,(.str [98])),(none,(.sl (some 4) []))])),((some 4),(.agg [(none,(.int .i64 (2))),(none,(.int .i64 (0))),(none,(.str [97])),(none,(.sl (some 4) []))]))]
def fv3:AV:=(.pv none (.bool false))
theorem ff3:resV (sem (find tab) prim .fn 36 (pvs fq3) [])=some fv3:=fact_of (n:=60) fok3 (by kernel_rfl)
def fK4:Facts:=(36,fq3,fv3)::fK3
theorem fok4:FactsOk (find tab) prim fK4:=.cons (by kernel_rfl) ff3 fok3
def fq4:List (Sh × PV):=[(none,(.sl (some 5) [])),((some 4),(.agg [(none,(.int .i64 (2))),(none,(.int .i64 (0))),(none,(.str [97])),(none,(.sl (some 4) []))]))]
def fv4:AV:=(.tuple [(.pv (some 4) (.agg [(none,(.int .i64 (2))),(none,(.int .i64 (0))),(none,(.str [97])),(none,(.sl (some 4) []))])),(.pv none (.int .i64 (0)))])
theorem ff4:resV (sem (find tab) prim .fn 86 (pvs fq4) [])=some fv4:=fact_of (n:=60) fok4 (by kernel_rfl)
def fK5:Facts:=(86,fq4,fv4)::fK4
theorem fok5:FactsOk (find tab) prim fK5:=.cons (by kernel_rfl) ff4 fok4
def fq5:List (Sh × PV):=[(none,(.sl (some 5) [])),((some 4),(.agg [(none,(.int .i64 (1))),(none,(.int .i64 (2))),(none,(.str [])),(none,(.sl (some 4) []))]))]
def fv5:AV:=(.tuple [(.pv (some 4) (.agg [(none,(.int .i64 (1))),(none,(.int .i64 (2))),(none,(.str [])),(none,(.sl (some 4) []))])),(.pv none (.int .i64 (0)))])
theorem ff5:resV (sem (find tab) prim .fn 86 (pvs fq5) [])=some fv5:=fact_of (n:=60) fok5 (by kernel_rfl)
def fK6:Facts:=(86,fq5,fv5)::fK5
theorem fok6:FactsOk (find tab) prim fK6:=.cons (by kernel_rfl) ff5 fok5
def fq6:List (Sh × PV):=[(none,(.sl (some 4) [(.agg [(none,(.int .i64 (3))),(none,(.int .i64 (0))),(none,(.str [45])),(none,(.sl (some 4) [(.agg [(none,(.int .i64 (2))),(none,(.int .i64 (0))),(none,(.str [97])),(none,(.sl (some 4) []))]),(.agg [(none,(.int .i64 (1))),(none,(.int .i64 (2))),(none,(.str [])),(none,(.sl (some 4) []))])]))])]))]
def fv6:AV:=(.tuple [(.pv (some 4) (.agg [(none,(.int .i64 (3))),(none,(.int .i64 (0))),(none,(.str [45])),(none,(.sl (some 4) [(.agg [(none,(.int .i64 (2))),(none,(.int .i64 (0))),(none,(.str [97])),(none,(.sl (some 4) []))]),(.agg [(none,(.int .i64 (3))),(none,(.int .i64 (0))),(none,(.str [46])),(none,(.sl (some 4) [(.agg [(none,(.int .i64 (1))),(none,(.int .i64 (2))),(none,(.str [])),(none,(.sl (some 4) []))]),(.agg [(none,(.int .i64 (2))),(none,(.int .i64 (0))),(none,(.str [91,93])),(none,(.sl (some 4) []))])]))])]))])),(.pv none (.int .i64 (0)))])
theorem ff6:resV (sem (find tab) prim .fn 37 (pvs fq6) [])=some fv6:=fact_of (n:=60) fok6 (by kernel_rfl)
def fK7:Facts:=(37,fq6,fv6)::fK6
theorem fok7:FactsOk (find tab) prim fK7:=.cons (by kernel_rfl) ff6 fok6
def fq7:List (Sh × PV):=[((some 4),(.agg [(none,(.int .i64 (2))),(none,(.int .i64 (0))),(none,(.str [98])),(none,(.sl (some 4) []))])),((some 4),(.agg [(none,(.int .i64 (2))),(none,(.int .i64 (0))),(none,(.str [98])),(none,(.sl (some 4) []))]))]
def fv7:AV:=(.pv none (.bool true))
theorem ff7:resV (sem (find tab) prim .fn 36 (pvs fq7) [])=some fv7:=fact_of (n:=60) fok7 (by kernel_rfl)
def fK8:Facts:=(36,fq7,fv7)::fK7
theorem fok8:FactsOk (find tab) prim fK8:=.cons (by kernel_rfl) ff7 fok7
def fq8:List (Sh × PV):=[(none,(.sl (some 5) [])),((some 4),(.agg [(none,(.int .i64 (2))),(none,(.int .i64 (0))),(none,(.str [98])),(none,(.sl (some 4) []))])),((some 4),(.agg [(none,(.int .i64 (2))),(none,(.int .i64 (0))),(none,(.str [98])),(none,(.sl (some 4) []))]))]
def fv8:AV:=(.tuple [(.pv none (.sl (some 5) [])),(.pv none (.int .i64 (0)))])
theorem ff8:resV (sem (find tab) prim .fn 85 (pvs fq8) [])=some fv8:=fact_of (n:=60) fok8 (by kernel_rfl)
def fK9:Facts:=(85,fq8,fv8)::fK8
theorem fok9:FactsOk (find tab) prim fK9:=.cons (by kernel_rfl) ff8 fok8
def fq9:List (Sh × PV):=[(none,(.sl (some 5) [])),((some 4),(.agg [(none,(.int .i64 (2))),(none,(.int .i64 (0))),(none,(.str [98])),(none,(.sl (some 4) []))]))]
def fv9:AV:=(.tuple [(.pv (some 4) (.agg [(none,(.int .i64 (2))),(none,(.int .i64 (0))),(none,(.str [98])),(none,(.sl (some 4) []))])),(.pv none (.int .i64 (0)))])
theorem ff9:resV (sem (find tab) prim .fn 86 (pvs fq9) [])=some fv9:=fact_of (n:=60) fok9 (by kernel_rfl)
def fK10:Facts:=(86,fq9,fv9)::fK9
theorem fok10:FactsOk (find tab) prim fK10:=.cons (by kernel_rfl) ff9 fok9
def fq10:List (Sh × PV):=[(none,(.sl (some 5) [])),((some 4),(.agg [(none,(.int .i64 (1))),(none,(.int .i64 (1))),(none,(.str [])),(none,(.sl (some 4) []))]))]
def fv10:AV:=(.tuple [(.pv (some 4) (.agg [(none,(.int .i64 (1))),(none,(.int .i64 (1))),(none,(.str [])),(none,(.sl (some 4) []))])),(.pv none (.int .i64 (0)))])
theorem ff10:resV (sem (find tab) prim .fn 86 (pvs fq10) [])=some fv10:=fact_of (n:=60) fok10 (by kernel_rfl)
def fK11:Facts:=(86,fq10,fv10)::fK10
theorem fok11:FactsOk (find tab) prim fK11:=.cons (by kernel_rfl) ff10 fok10
def fq11:List (Sh × PV):=[(none,(.sl (some 5) [])),((some 4),(.agg [(none,(.int .i64 (1))),(none,(.int .i64 (3))),(none,(.str [])),(none,(.sl (some 4) []))]))]
def fv11:AV:=(.tuple [(.pv (some 4) (.agg [(none,(.int .i64 (1))),(none,(.int .i64 (3))),(none,(.str [])),(none,(.sl (some 4) []))])),(.pv none (.int .i64 (0)))])
theorem ff11:resV (sem (find tab) prim .fn 86 (pvs fq11) [])=some fv11:=fact_of (n:=60) fok11 (by kernel_rfl)
def fK12:Facts:=(86,fq11,fv11)::fK11
theorem fok12:FactsOk (find tab) prim fK12:=.cons (by kernel_rfl) ff11 fok11
def fq12:List (Sh × PV):=[(none,(.sl (some 4) [(.agg [(none,(.int .i64 (3))),(none,(.int .i64 (0))),(none,(.str [45])),(none,(.sl (some 4) [(.agg [(none,(.int .i64 (2))),(none,(.int .i64 (0))),(none,(.str [98])),(none,(.sl (some 4) []))]),(.agg [(none,(.int .i64 (1))),(none,(.int .i64 (1))),(none,(.str [])),(none,(.sl (some 4) []))])]))]),(.agg [(none,(.int .i64 (3))),(none,(.int .i64 (0))),(none,(.str [45])),(none,(.sl (some 4) [(.agg [(none,(.int .i64 (2))),(none,(.int .i64 (0))),(none,(.str [98])),(none,(.sl (some 4) []))]),(.agg [(none,(.int .i64 (1))),(none,(.int .i64 (3))),(none,(.str [])),(none,(.sl (some 4) []))])]))])]))]
def fv12:AV:=(.tuple [(.pv (some 4) (.agg [(none,(.int .i64 (3))),(none,(.int .i64 (0))),(none,(.str [45])),(none,(.sl (some 4) [(.agg [(none,(.int .i64 (2))),(none,(.int .i64 (0))),(none,(.str [98])),(none,(.sl (some 4) []))]),(.agg [(none,(.int .i64 (3))),(none,(.int .i64 (0))),(none,(.str [46])),(none,(.sl (some 4) [(.agg [(none,(.int .i64 (1))),(none,(.int .i64 (1))),(none,(.str [])),(none,(.sl (some 4) []))]),(.agg [(none,(.int .i64 (3))),(none,(.int .i64 (0))),(none,(.str [46])),(none,(.sl (some 4) [(.agg [(none,(.int .i64 (1))),(none,(.int .i64 (3))),(none,(.str [])),(none,(.sl (some 4) []))]),(.agg [(none,(.int .i64 (2))),(none,(.int .i64 (0))),(none,(.str [91,93])),(none,(.sl (some 4) []))])]))])]))])]))])),(.pv none (.int .i64 (0)))])
theorem ff12:resV (sem (find tab) prim .fn 37 (pvs fq12) [])=some fv12:=fact_of (n:=60) fok12 (by kernel_rfl)
def fK13:Facts:=(37,fq12,fv12)::fK12
theorem fok13:FactsOk (find tab) prim fK13:=.cons (by kernel_rfl) ff12 fok12
def fq13:List (Sh × PV):=[(none,(.sl (some 4) [(.agg [(none,(.int .i64 (3))),(none,(.int .i64 (0))),(none,(.str [45])),(none,(.sl (some 4) [(.agg [(none,(.int .i64 (2))),(none,(.int .i64 (0))),(none,(.str [98])),(none,(.sl (some 4) []))]),(.agg [(none,(.int .i64 (1))),(none,(.int .i64 (1))),(none,(.str [])),(none,(.sl (some 4) []))])]))]),(.agg [(none,(.int .i64 (3))),(none,(.int .i64 (0))),(none,(.str [45])),(none,(.sl (some 4) [(.agg [(none,(.int .i64 (2))),(none,(.int .i64 (0))),(none,(.str [97])),(none,(.sl (some 4) []))]),(.agg [(none,(.int .i64 (1))),(none,(.int .i64 (2))),(none,(.str [])),(none,(.sl (some 4) []))])]))]),(.agg [(none,(.int .i64 (3))),(none,(.int .i64 (0))),(none,(.str [45])),(none,(.sl (some 4) [(.agg [(none,(.int .i64 (2))),(none,(.int .i64 (0))),(none,(.str [98])),(none,(.sl (some 4) []))]),(.agg [(none,(.int .i64 (1))),(none,(.int .i64 (3))),(none,(.str [])),(none,(.sl (some 4) []))])]))])]))]
def fv13:AV:=(.tuple [(.pv none (.sl (some 4) [(.agg [(none,(.int .i64 (3))),(none,(.int .i64 (0))),(none,(.str [45])),(none,(.sl (some 4) [(.agg [(none,(.int .i64 (2))),(none,(.int .i64 (0))),(none,(.str [97])),(none,(.sl (some 4) []))]),(.agg [(none,(.int .i64 (3))),(none,(.int .i64 (0))),(none,(.str [46])),(none,(.sl (some 4) [(.agg [(none,(.int .i64 (1))),(none,(.int .i64 (2))),(none,(.str [])),(none,(.sl (some 4) []))]),(.agg [(none,(.int .i64 (2))),(none,(.int .i64 (0))),(none,(.str [91,93])),(none,(.sl (some 4) []))])]))])]))]),(.agg [(none,(.int .i64 (3))),(none,(.int .i64 (0))),(none,(.str [45])),(none,(.sl (some 4) [(.agg [(none,(.int .i64 (2))),(none,(.int .i64 (0))),(none,(.str [98])),(none,(.sl (some 4) []))]),(.agg [(none,(.int .i64 (3))),(none,(.int .i64 (0))),(none,(.str [46])),(none,(.sl (some 4) [(.agg [(none,(.int .i64 (1))),(none,(.int .i64 (1))),(none,(.str [])),(none,(.sl (some 4) []))]),(.agg [(none,(.int .i64 (3))),(none,(.int .i64 (0))),(none,(.str [46])),(none,(.sl (some 4) [(.agg [(none,(.int .i64 (1))),(none,(.int .i64 (3))),(none,(.str [])),(none,(.sl (some 4) []))]),(.agg [(none,(.int .i64 (2))),(none,(.int .i64 (0))),(none,(.str [91,93])),(none,(.sl (some 4) []))])]))])]))])]))])])),(.pv none (.int .i64 (0)))])
theorem ff13:resV (sem (find tab) prim .fn 10 (pvs fq13) [])=some fv13:=fact_of (n:=60) fok13 (by kernel_rfl)
def fK14:Facts:=(10,fq13,fv13)::fK13
theorem fok14:FactsOk (find tab) prim fK14:=.cons (by kernel_rfl) ff13 fok13
def fq14:List (Sh × PV):=[((some 4),(.agg [(none,(.int .i64 (3))),(none,(.int .i64 (0))),(none,(.str [36,115,101,116])),(none,(.sl (some 4) [(.agg [(none,(.int .i64 (0))),(none,(.int .i64 (0))),(none,(.str [])),(none,(.sl (some 4) []))]),(.agg [(none,(.int .i64 (3))),(none,(.int .i64 (0))),(none,(.str [46])),(none,(.sl (some 4) [(.agg [(none,(.int .i64 (3))),(none,(.int .i64 (0))),(none,(.str [45])),(none,(.sl (some 4) [(.agg [(none,(.int .i64 (2))),(none,(.int .i64 (0))),(none,(.str [97])),(none,(.sl (some 4) []))]),(.agg [(none,(.int .i64 (1))),(none,(.int .i64 (2))),(none,(.str [])),(none,(.sl (some 4) []))])]))]),(.agg [(none,(.int .i64 (3))),(none,(.int .i64 (0))),(none,(.str [46])),(none,(.sl (some 4) [(.agg [(none,(.int .i64 (3))),(none,(.int .i64 (0))),(none,(.str [45])),(none,(.sl (some 4) [(.agg [(none,(.int .i64 (2))),(none,(.int .i64 (0))),(none,(.str [97])),(none,(.sl (some 4) []))]),(.agg [(none,(.int .i64 (1))),(none,(.int .i64 (1))),(none,(.str [])),(none,(.sl (some 4) []))])]))]),(.agg [(none,(.int .i64 (3))),(none,(.int .i64 (0))),(none,(.str [46])),(none,(.sl (some 4) [(.agg [(none,(.int .i64 (3))),(none,(.int .i64 (0))),(none,(.str [45])),(none,(.sl (some 4) [(.agg [(none,(.int .i64 (2))),(none,(.int .i64 (0))),(none,(.str [97])),(none,(.sl (some 4) []))]),(.agg [(none,(.int .i64 (1))),(none,(.int .i64 (2))),(none,(.str [])),(none,(.sl (some 4) []))])]))]),(.agg [(none,(.int .i64 (2))),(none,(.int .i64 (0))),(none,(.str [91,93])),(none,(.sl (some 4) []))])]))])]))])]))]),(.agg [(none,(.int .i64 (0))),(none,(.int .i64 (1))),(none,(.str [])),(none,(.sl (some 4) []))])]))]))]
def fv14:AV:=(.pv (some 4) (.agg [(none,(.int .i64 (3))),(none,(.int .i64 (0))),(none,(.str [36,115,101,116])),(none,(.sl (some 4) [(.agg [(none,(.int .i64 (0))),(none,(.int .i64 (0))),(none,(.str [])),(none,(.sl (some 4) []))]),(.agg [(none,(.int .i64 (3))),(none,(.int .i64 (0))),(none,(.str [46])),(none,(.sl (some 4) [(.agg [(none,(.int .i64 (3))),(none,(.int .i64 (0))),(none,(.str [45])),(none,(.sl (some 4) [(.agg [(none,(.int .i64 (2))),(none,(.int .i64 (0))),(none,(.str [97])),(none,(.sl (some 4) []))]),(.agg [(none,(.int .i64 (1))),(none,(.int .i64 (2))),(none,(.str [])),(none,(.sl (some 4) []))])]))]),(.agg [(none,(.int .i64 (3))),(none,(.int .i64 (0))),(none,(.str [46])),(none,(.sl (some 4) [(.agg [(none,(.int .i64 (3))),(none,(.int .i64 (0))),(none,(.str [45])),(none,(.sl (some 4) [(.agg [(none,(.int .i64 (2))),(none,(.int .i64 (0))),(none,(.str [97])),(none,(.sl (some 4) []))]),(.agg [(none,(.int .i64 (1))),(none,(.int .i64 (1))),(none,(.str [])),(none,(.sl (some 4) []))])]))]),(.agg [(none,(.int .i64 (3))),(none,(.int .i64 (0))),(none,(.str [46])),(none,(.sl (some 4) [(.agg [(none,(.int .i64 (3))),(none,(.int .i64 (0))),(none,(.str [45])),(none,(.sl (some 4) [(.agg [(none,(.int .i64 (2))),(none,(.int .i64 (0))),(none,(.str [97])),(none,(.sl (some 4) []))]),(.agg [(none,(.int .i64 (1))),(none,(.int .i64 (2))),(none,(.str [])),(none,(.sl (some 4) []))])]))]),(.agg [(none,(.int .i64 (2))),(none,(.int .i64 (0))),(none,(.str [91,93])),(none,(.sl (some 4) []))])]))])]))])]))]),(.agg [(none,(.int .i64 (0))),(none,(.int .i64 (1))),(none,(.str [])),(none,(.sl (some 4) []))])]))]))
theorem ff14:resV (sem (find tab) prim .fn 47 (pvs fq14) [])=some fv14:=fact_of (n:=60) fok14 (by kernel_rfl)
def fK15:Facts:=(47,fq14,fv14)::fK14
theorem fok15:FactsOk (find tab) prim fK15:=.cons (by kernel_rfl) ff14 fok14
def fq15:List (Sh × PV):=[((some 4),(.agg [(none,(.int .i64 (3))),(none,(.int .i64 (0))),(none,(.str [46])),(none,(.sl (some 4) [(.agg [(none,(.int .i64 (3))),(none,(.int .i64 (0))),(none,(.str [45])),(none,(.sl (some 4) [(.agg [(none,(.int .i64 (2))),(none,(.int .i64 (0))),(none,(.str [97])),(none,(.sl (some 4) []))]),(.agg [(none,(.int .i64 (1))),(none,(.int .i64 (2))),(none,(.str [])),(none,(.sl (some 4) []))])]))]),(.agg [(none,(.int .i64 (3))),(none,(.int .i64 (0))),(none,(.str [46])),(none,(.sl (some 4) [(.agg [(none,(.int .i64 (3))),(none,(.int .i64 (0))),(none,(.str [45])),(none,(.sl (some 4) [(.agg [(none,(.int .i64 (2))),(none,(.int .i64 (0))),(none,(.str [97])),(none,(.sl (some 4) []))]),(.agg [(none,(.int .i64 (1))),(none,(.int .i64 (1))),(none,(.str [])),(none,(.sl (some 4) []))])]))]),(.agg [(none,(.int .i64 (3))),(none,(.int .i64 (0))),(none,(.str [46])),(none,(.sl (some 4) [(.agg [(none,(.int .i64 (3))),(none,(.int .i64 (0))),(none,(.str [45])),(none,(.sl (some 4) [(.agg [(none,(.int .i64 (2))),(none,(.int .i64 (0))),(none,(.str [97])),(none,(.sl (some 4) []))]),(.agg [(none,(.int .i64 (1))),(none,(.int .i64 (2))),(none,(.str [])),(none,(.sl (some 4) []))])]))]),(.agg [(none,(.int .i64 (2))),(none,(.int .i64 (0))),(none,(.str [91,93])),(none,(.sl (some 4) []))])]))])]))])]))]))]
def fv15:AV:=(.tuple [(.pv none (.sl (some 4) [(.agg [(none,(.int .i64 (3))),(none,(.int .i64 (0))),(none,(.str [45])),(none,(.sl (some 4) [(.agg [(none,(.int .i64 (2))),(none,(.int .i64 (0))),(none,(.str [97])),(none,(.sl (some 4) []))]),(.agg [(none,(.int .i64 (1))),(none,(.int .i64 (2))),(none,(.str [])),(none,(.sl (some 4) []))])]))]),(.agg [(none,(.int .i64 (3))),(none,(.int .i64 (0))),(none,(.str [45])),(none,(.sl (some 4) [(.agg [(none,(.int .i64 (2))),(none,(.int .i64 (0))),(none,(.str [97])),(none,(.sl (some 4) []))]),(.agg [(none,(.int .i64 (1))),(none,(.int .i64 (1))),(none,(.str [])),(none,(.sl (some 4) []))])]))]),(.agg [(none,(.int .i64 (3))),(none,(.int .i64 (0))),(none,(.str [45])),(none,(.sl (some 4) [(.agg [(none,(.int .i64 (2))),(none,(.int .i64 (0))),(none,(.str [97])),(none,(.sl (some 4) []))]),(.agg [(none,(.int .i64 (1))),(none,(.int .i64 (2))),(none,(.str [])),(none,(.sl (some 4) []))])]))])])),(.pv (some 4) (.agg [(none,(.int .i64 (0))),(none,(.int .i64 (0))),(none,(.str [])),(none,(.sl (some 4) []))])),(.pv none (.bool true))])
theorem ff15:resV (sem (find tab) prim .fn 48 (pvs fq15) [])=some fv15:=fact_of (n:=60) fok15 (by kernel_rfl)
def fK16:Facts:=(48,fq15,fv15)::fK15
theorem fok16:FactsOk (find tab) prim fK16:=.cons (by kernel_rfl) ff15 fok15
def fq16:List (Sh × PV):=[(none,(.sl (some 5) [])),((some 4),(.agg [(none,(.int .i64 (2))),(none,(.int .i64 (0))),(none,(.str [97])),(none,(.sl (some 4) []))])),((some 4),(.agg [(none,(.int .i64 (2))),(none,(.int .i64 (0))),(none,(.str [97])),(none,(.sl (some 4) []))]))]
def fv16:AV:=(.tuple [(.pv none (.sl (some 5) [])),(.pv none (.int .i64 (0)))])
theorem ff16:resV (sem (find tab) prim .fn 85 (pvs fq16) [])=some fv16:=fact_of (n:=60) fok16 (by kernel_rfl)
def fK17:Facts:=(85,fq16,fv16)::fK16
theorem fok17:FactsOk (find tab) prim fK17:=.cons (by kernel_rfl) ff16 fok16
def fq17:List (Sh × PV):=[(none,(.sl (some 4) [(.agg [(none,(.int .i64 (3))),(none,(.int .i64 (0))),(none,(.str [45])),(none,(.sl (some 4) [(.agg [(none,(.int .i64 (2))),(none,(.int .i64 (0))),(none,(.str [97])),(none,(.sl (some 4) []))]),(.agg [(none,(.int .i64 (1))),(none,(.int .i64 (2))),(none,(.str [])),(none,(.sl (some 4) []))])]))]),(.agg [(none,(.int .i64 (3))),(none,(.int .i64 (0))),(none,(.str [45])),(none,(.sl (some 4) [(.agg [(none,(.int .i64 (2))),(none,(.int .i64 (0))),(none,(.str [97])),(none,(.sl (some 4) []))]),(.agg [(none,(.int .i64 (1))),(none,(.int .i64 (1))),(none,(.str [])),(none,(.sl (some 4) []))])]))]),(.agg [(none,(.int .i64 (3))),(none,(.int .i64 (0))),(none,(.str [45])),(none,(.sl (some 4) [(.agg [(none,(.int .i64 (2))),(none,(.int .i64 (0))),(none,(.str [97])),(none,(.sl (some 4) []))]),(.agg [(none,(.int .i64 (1))),(none,(.int .i64 (2))),(none,(.str [])),(none,(.sl (some 4) []))])]))])]))]
def fv17:AV:=(.tuple [(.pv (some 4) (.agg [(none,(.int .i64 (3))),(none,(.int .i64 (0))),(none,(.str [45])),(none,(.sl (some 4) [(.agg [(none,(.int .i64 (2))),(none,(.int .i64 (0))),(none,(.str [97])),(none,(.sl (some 4) []))]),(.agg [(none,(.int .i64 (3))),(none,(.int .i64 (0))),(none,(.str [46])),(none,(.sl (some 4) [(.agg [(none,(.int .i64 (1))),(none,(.int .i64 (2))),(none,(.str [])),(none,(.sl (some 4) []))]),(.agg [(none,(.int .i64 (3))),(none,(.int .i64 (0))),(none,(.str [46])),(none,(.sl (some 4) [(.agg [(none,(.int .i64 (1))),(none,(.int .i64 (1))),(none,(.str [])),(none,(.sl (some 4) []))]),(.agg [(none,(.int .i64 (3))),(none,(.int .i64 (0))),(none,(.str [46])),(none,(.sl (some 4) [(.agg [(none,(.int .i64 (1))),(none,(.int .i64 (2))),(none,(.str [])),(none,(.sl (some 4) []))]),(.agg [(none,(.int .i64 (2))),(none,(.int .i64 (0))),(none,(.str [91,93])),(none,(.sl (some 4) []))])]))])]))])]))])]))])),(.pv none (.int .i64 (0)))])
theorem ff17:resV (sem (find tab) prim .fn 37 (pvs fq17) [])=some fv17:=fact_of (n:=60) fok17 (by kernel_rfl)
def fK18:Facts:=(37,fq17,fv17)::fK17
theorem fok18:FactsOk (find tab) prim fK18:=.cons (by kernel_rfl) ff17 fok17
def fq18:List (Sh × PV):=[(none,(.sl (some 4) [(.agg [(none,(.int .i64 (3))),(none,(.int .i64 (0))),(none,(.str [45])),(none,(.sl (some 4) [(.agg [(none,(.int .i64 (2))),(none,(.int .i64 (0))),(none,(.str [97])),(none,(.sl (some 4) []))]),(.agg [(none,(.int .i64 (1))),(none,(.int .i64 (2))),(none,(.str [])),(none,(.sl (some 4) []))])]))]),(.agg [(none,(.int .i64 (3))),(none,(.int .i64 (0))),(none,(.str [45])),(none,(.sl (some 4) [(.agg [(none,(.int .i64 (2))),(none,(.int .i64 (0))),(none,(.str [97])),(none,(.sl (some 4) []))]),(.agg [(none,(.int .i64 (1))),(none,(.int .i64 (1))),(none,(.str [])),(none,(.sl (some 4) []))])]))]),(.agg [(none,(.int .i64 (3))),(none,(.int .i64 (0))),(none,(.str [45])),(none,(.sl (some 4) [(.agg [(none,(.int .i64 (2))),(none,(.int .i64 (0))),(none,(.str [97])),(none,(.sl (some 4) []))]),(.agg [(none,(.int .i64 (1))),(none,(.int .i64 (2))),(none,(.str [])),(none,(.sl (some 4) []))])]))])]))]
def fv18:AV:=(.tuple [(.pv none (.sl (some 4) [(.agg [(none,(.int .i64 (3))),(none,(.int .i64 (0))),(none,(.str [45])),(none,(.sl (some 4) [(.agg [(none,(.int .i64 (2))),(none,(.int .i64 (0))),(none,(.str [97])),(none,(.sl (some 4) []))]),(.agg [(none,(.int .i64 (3))),(none,(.int .i64 (0))),(none,(.str [46])),(none,(.sl (some 4) [(.agg [(none,(.int .i64 (1))),(none,(.int .i64 (2))),(none,(.str [])),(none,(.sl (some 4) []))]),(.agg [(none,(.int .i64 (3))),(none,(.int .i64 (0))),(none,(.str [46])),(none,(.sl (some 4) [(.agg [(none,(.int .i64 (1))),(none,(.int .i64 (1))),(none,(.str [])),(none,(.sl (some 4) []))]),(.agg [(none,(.int .i64 (3))),(none,(.int .i64 (0))),(none,(.str [46])),(none,(.sl (some 4) [(.agg [(none,(.int .i64 (1))),(none,(.int .i64 (2))),(none,(.str [])),(none,(.sl (some 4) []))]),(.agg [(none,(.int .i64 (2))),(none,(.int .i64 (0))),(none,(.str [91,93])),(none,(.sl (some 4) []))])]))])]))])]))])]))])])),(.pv none (.int .i64 (0)))])
theorem ff18:resV (sem (find tab) prim .fn 10 (pvs fq18) [])=some fv18:=fact_of (n:=60) fok18 (by kernel_rfl)
def fK19:Facts:=(10,fq18,fv18)::fK18
theorem fok19:FactsOk (find tab) prim fK19:=.cons (by kernel_rfl) ff18 fok18
def fq19:List (Sh × PV):=[((some 4),(.agg [(none,(.int .i64 (3))),(none,(.int .i64 (0))),(none,(.str [36,115,101,116])),(none,(.sl (some 4) [(.agg [(none,(.int .i64 (0))),(none,(.int .i64 (0))),(none,(.str [])),(none,(.sl (some 4) []))]),(.agg [(none,(.int .i64 (3))),(none,(.int .i64 (0))),(none,(.str [46])),(none,(.sl (some 4) [(.agg [(none,(.int .i64 (3))),(none,(.int .i64 (0))),(none,(.str [45])),(none,(.sl (some 4) [(.agg [(none,(.int .i64 (2))),(none,(.int .i64 (0))),(none,(.str [97])),(none,(.sl (some 4) []))]),(.agg [(none,(.int .i64 (1))),(none,(.int .i64 (2))),(none,(.str [])),(none,(.sl (some 4) []))])]))]),(.agg [(none,(.int .i64 (3))),(none,(.int .i64 (0))),(none,(.str [46])),(none,(.sl (some 4) [(.agg [(none,(.int .i64 (3))),(none,(.int .i64 (0))),(none,(.str [45])),(none,(.sl (some 4) [(.agg [(none,(.int .i64 (2))),(none,(.int .i64 (0))),(none,(.str [97])),(none,(.sl (some 4) []))]),(.agg [(none,(.int .i64 (1))),(none,(.int .i64 (1))),(none,(.str [])),(none,(.sl (some 4) []))])]))]),(.agg [(none,(.int .i64 (3))),(none,(.int .i64 (0))),(none,(.str [46])),(none,(.sl (some 4) [(.agg [(none,(.int .i64 (3))),(none,(.int .i64 (0))),(none,(.str [45])),(none,(.sl (some 4) [(.agg [(none,(.int .i64 (2))),(none,(.int .i64 (0))),(none,(.str [97])),(none,(.sl (some 4) []))]),(.agg [(none,(.int .i64 (1))),(none,(.int .i64 (2))),(none,(.str [])),(none,(.sl (some 4) []))])]))]),(.agg [(none,(.int .i64 (2))),(none,(.int .i64 (0))),(none,(.str [91,93])),(none,(.sl (some 4) []))])]))])]))])]))]),(.agg [(none,(.int .i64 (0))),(none,(.int .i64 (1))),(none,(.str [])),(none,(.sl (some 4) []))])]))]))]
def fv19:AV:=(.tuple [(.pv none (.sl (some 4) [(.agg [(none,(.int .i64 (3))),(none,(.int .i64 (0))),(none,(.str [36,115,101,116])),(none,(.sl (some 4) [(.agg [(none,(.int .i64 (2))),(none,(.int .i64 (0))),(none,(.str [97])),(none,(.sl (some 4) []))]),(.agg [(none,(.int .i64 (3))),(none,(.int .i64 (0))),(none,(.str [46])),(none,(.sl (some 4) [(.agg [(none,(.int .i64 (3))),(none,(.int .i64 (0))),(none,(.str [45])),(none,(.sl (some 4) [(.agg [(none,(.int .i64 (2))),(none,(.int .i64 (0))),(none,(.str [97])),(none,(.sl (some 4) []))]),(.agg [(none,(.int .i64 (1))),(none,(.int .i64 (2))),(none,(.str [])),(none,(.sl (some 4) []))])]))]),(.agg [(none,(.int .i64 (3))),(none,(.int .i64 (0))),(none,(.str [46])),(none,(.sl (some 4) [(.agg [(none,(.int .i64 (3))),(none,(.int .i64 (0))),(none,(.str [45])),(none,(.sl (some 4) [(.agg [(none,(.int .i64 (2))),(none,(.int .i64 (0))),(none,(.str [97])),(none,(.sl (some 4) []))]),(.agg [(none,(.int .i64 (1))),(none,(.int .i64 (1))),(none,(.str [])),(none,(.sl (some 4) []))])]))]),(.agg [(none,(.int .i64 (3))),(none,(.int .i64 (0))),(none,(.str [46])),(none,(.sl (some 4) [(.agg [(none,(.int .i64 (3))),(none,(.int .i64 (0))),(none,(.str [45])),(none,(.sl (some 4) [(.agg [(none,(.int .i64 (2))),(none,(.int .i64 (0))),(none,(.str [97])),(none,(.sl (some 4) []))]),(.agg [(none,(.int .i64 (1))),(none,(.int .i64 (2))),(none,(.str [])),(none,(.sl (some 4) []))])]))]),(.agg [(none,(.int .i64 (2))),(none,(.int .i64 (0))),(none,(.str [91,93])),(none,(.sl (some 4) []))])]))])]))])]))]),(.agg [(none,(.int .i64 (3))),(none,(.int .i64 (0))),(none,(.str [46])),(none,(.sl (some 4) [(.agg [(none,(.int .i64 (1))),(none,(.int .i64 (1))),(none,(.str [])),(none,(.sl (some 4) []))]),(.agg [(none,(.int .i64 (3))),(none,(.int .i64 (0))),(none,(.str [46])),(none,(.sl (some 4) [(.agg [(none,(.int .i64 (1))),(none,(.int .i64 (2))),(none,(.str [])),(none,(.sl (some 4) []))]),(.agg [(none,(.int .i64 (2))),(none,(.int .i64 (0))),(none,(.str [91,93])),(none,(.sl (some 4) []))])]))])]))])]))])])),(.pv (some 4) (.agg [(none,(.int .i64 (0))),(none,(.int .i64 (0))),(none,(.str [])),(none,(.sl (some 4) []))])),(.pv none (.int .i64 (0)))])
theorem ff19:resV (sem (find tab) prim .fn 13 (pvs fq19) [])=some fv19:=fact_of (n:=60) fok19 (by kernel_rfl)
def fK20:Facts:=(13,fq19,fv19)::fK19
theorem fok20:FactsOk (find tab) prim fK20:=.cons (by kernel_rfl) ff19 fok19
def fq20:List (Sh × PV):=[((some 4),(.agg [(none,(.int .i64 (0))),(none,(.int .i64 (0))),(none,(.str [])),(none,(.sl (some 4) []))])),((some 4),(.agg [(none,(.int .i64 (3))),(none,(.int .i64 (0))),(none,(.str [94])),(none,(.sl (some 4) [(.agg [(none,(.int .i64 (0))),(none,(.int .i64 (1))),(none,(.str [])),(none,(.sl (some 4) []))]),(.agg [(none,(.int .i64 (3))),(none,(.int .i64 (0))),(none,(.str [112])),(none,(.sl (some 4) [(.agg [(none,(.int .i64 (0))),(none,(.int .i64 (0))),(none,(.str [])),(none,(.sl (some 4) []))]),(.agg [(none,(.int .i64 (0))),(none,(.int .i64 (1))),(none,(.str [])),(none,(.sl (some 4) []))]),(.agg [(none,(.int .i64 (0))),(none,(.int .i64 (2))),(none,(.str [])),(none,(.sl (some 4) []))])]))])]))]))]
def fv20:AV:=(.pv (some 4) (.agg [(none,(.int .i64 (3))),(none,(.int .i64 (0))),(none,(.str [46])),(none,(.sl (some 4) [(.agg [(none,(.int .i64 (0))),(none,(.int .i64 (2))),(none,(.str [])),(none,(.sl (some 4) []))]),(.agg [(none,(.int .i64 (2))),(none,(.int .i64 (0))),(none,(.str [91,93])),(none,(.sl (some 4) []))])]))]))
theorem ff20:resV (sem (find tab) prim .fn 21 (pvs fq20) [])=some fv20:=fact_of (n:=60) fok20 (by kernel_rfl)
def fK21:Facts:=(21,fq20,fv20)::fK20
theorem fok21:FactsOk (find tab) prim fK21:=.cons (by kernel_rfl) ff20 fok20
def fq21:List (Sh × PV):=[]
def fv21:AV:=(.pv none (.bool true))
theorem ff21:resV (sem (find tab) prim .fn 9 (pvs fq21) [])=some fv21:=fact_of (n:=60) fok21 (by kernel_rfl)
theorem awake9:∃H,S 9 [] []=some (.ret (.pv none (.bool true)),H):=by
 have h:=ff21
 have e:pvs fq21=[]:=rfl
 rw[e] at h
 cases hs:sem (find tab) prim .fn 9 [] [] with
 |none=>rw[hs] at h;cases h
 |some r=>
  obtain⟨r,H⟩:=r
  rw[hs] at h
  cases r with
  |ret v=>
   have h:some v=some fv21:=h
   cases h
   exact⟨H,hs⟩
  |panic v=>cases h
end Go.Proofs.YtffecaafklpmhaaGreat
namespace Go.Proofs.YtffecaafklpmhaaGreat
open Go.Am Go.ChangeShapes Go.WideShapes Go.ChangeAt Go.RowKit
theorem bulk_laws(H:Type):BulkLaws (H:=H) Rows.uptoBulk Rows.uptoBulkAll where
 nil:=by simp[Rows.uptoBulkAll]
 cons d r:=by simp[Rows.uptoBulkAll]
 slice e s:=by simp[Rows.uptoBulk]
 agg l:=by simp[Rows.uptoBulk]
 string l:=by simp[Rows.uptoBulk]
theorem bulk_bound{H:Type}{l:List (DataW H)}(hk:Rows.uptoSmall H l=true):Rows.uptoBulkAll l≤1048576:=of_decide_eq_true hk
def isTermTy(P:Program)(tA tT:TypeId):Bool:=
 (match P.underlying tA with|some (.slice t)=>t == tT|_=>false) &&
 (match P.underlying tT with
  |some (.struct fs)=>match fs.toList.map (·.type) with
   |[a,b,c,d]=>d == tA && (match P.underlying a with|some (.int .i64)=>true|_=>false) && (match P.underlying b with|some (.int .i64)=>true|_=>false) && (match P.underlying c with|some .string=>true|_=>false) && decide (shOf P a=none) && decide (shOf P b=none) && decide (shOf P c=none)
   |_=>false
  |_=>false) && decide (shOf P tT=some 4) && decide (shOf P tA=none)
theorem isTermTy_of{P:Program}{tA tT:TypeId}(h:isTermTy P tA tT=true):TermTy P tA tT:=by
 unfold isTermTy at h
 simp only[Bool.and_eq_true,decide_eq_true_eq] at h
 obtain⟨⟨⟨h1,h2⟩,h3⟩,h4⟩:=h
 refine⟨?_,?_⟩
 ·split at h1
  ·rename_i t ht;rw[ht];simp at h1;rw[h1]
  ·cases h1
 ·split at h2
  ·rename_i fs hfs
   split at h2
   ·rename_i a b c d hl
    simp only[Bool.and_eq_true,decide_eq_true_eq,beq_iff_eq] at h2
    obtain⟨⟨⟨⟨⟨⟨k1,k2⟩,k3⟩,k4⟩,k5⟩,k6⟩,k7⟩:=h2
    subst k1
    refine⟨fs,a,b,c,hfs,hl,?_,?_,?_,h3,h4,k5,k6,k7⟩
    ·split at k2
     ·assumption
     ·cases k2
    ·split at k3
     ·assumption
     ·cases k3
    ·split at k4
     ·assumption
     ·cases k4
   ·cases h2
  ·cases h2
theorem termTy:TermTy Tryz.prog 22 30:=isTermTy_of (by kernel_rfl)
def plainTs:List TypeId:=[2,3,4,5,9,22,30]
theorem closed:closedTs Tryz.prog plainTs=true:=by kernel_rfl
set_option maxRecDepth 100000 in
theorem open_terms{H:Type}{enc:TypeId × Value→H}{W:World}{base:Nat}{v:Value}{d:DataW H}{ps:List MemPlace}(h:DataW.Trod enc Tryz.prog W 0 (fun _=>true) true 22 v d ps)(hv:Value.okWide Tryz.prog W .any base 22 v):
  ∃l:List Tm,AR W (noX (P:=Tryz.prog)) noμ [] (.pv none (.sl (some 4) (Tm.pvs l))) v∧Tm.sizes l≤Rows.uptoBulk d∧Tm.rngs l:=by
 obtain⟨fuel,h0⟩:=h
 obtain⟨p,hp⟩:=data_some closed fuel _ _ _ _ (by simp[plainTs]) h0
 obtain⟨t,rfl,h1,h2⟩:=(term_data termTy (bulk_laws H) fuel).2 d p hp
 have:=arg_ar ⟨fuel,h0⟩ (by kernel_rfl) hp (okWide_shp hv)
 rw[show shOf Tryz.prog 22=none from by kernel_rfl] at this
 exact⟨t,this,h1,h2⟩
end Go.Proofs.YtffecaafklpmhaaGreat
