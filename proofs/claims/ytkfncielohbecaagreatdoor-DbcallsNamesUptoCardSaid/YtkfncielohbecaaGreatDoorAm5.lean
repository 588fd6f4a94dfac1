/- What is proved: the abstract machine says true of the model (part 5). No conditions beside those that each theorem names. -/
import Derived.Test.YtkfncielohbecaaGreatDoorAm4
import Derived.Lib.Bytealg
import Derived.ProofKit
import Derived.OpenShut
import Derived.JoinedCond
import Derived.Test.YtkfncielohbecaaGreatDoorAm2
import Derived.WalkKit
set_option linter.unusedSimpArgs false
set_option linter.unusedVariables false
/- The limit of the runs of bounded depth: equations without fuel. -/
namespace Go.Am

def OLe(Γ Δ:Oracle):Prop:=∀k f azs hp r,Γ k f azs hp=some r->Δ k f azs hp=some r
def LLe(Λ Λ':zad):Prop:=∀b m keep c st r,Λ b m keep c st=some r->Λ' b m keep c st=some r
theorem OLe.refl(Γ:Oracle):OLe Γ Γ:=fun _ _ _ _ _ h=>h
theorem OLe.trans{Γ Δ Θ:Oracle}(h:OLe Γ Δ)(k:OLe Δ Θ):OLe Γ Θ:=fun i f azs hp r e=>k i f azs hp r (h i f azs hp r e)
theorem LLe.refl(Γ:zad):LLe Γ Γ:=fun _ _ _ _ _ _ h=>h
theorem LLe.trans{Γ Δ Θ:zad}(h:LLe Γ Δ)(k:LLe Δ Θ):LLe Γ Θ:=fun f azs hp r x y e=>k f azs hp r x y (h f azs hp r x y e)

theorem zei{Γ Δ:Oracle}{vs:List AV}{hp:Heap}{r:OpRes}(hO:OLe Γ Δ)(h:zdg Γ hp vs=some r):zdg Δ hp vs=some r:=by
 cases vs with
 |nil=>cases h
 |cons a azs=>
  have gen:(match za7 a with
    |some (g,first,captured)=>match Γ .fn g (first++azs++captured) hp with
     |some (.ret v,hp')=>some (OpRes.val v hp')
     |some (.panic v,hp')=>some (.panic v hp')
     |none=>none
    |none=>none)=some r->(match za7 a with
    |some (g,first,captured)=>match Δ .fn g (first++azs++captured) hp with
     |some (.ret v,hp')=>some (OpRes.val v hp')
     |some (.panic v,hp')=>some (.panic v hp')
     |none=>none
    |none=>none)=some r:=by
   intro h
   split at h
   ·split at h
    ·rename_i hg;simp only[hO _ _ _ _ _ hg];exact h
    ·rename_i hg;simp only[hO _ _ _ _ _ hg];exact h
    ·cases h
   ·cases h
  cases a with
  |yield q=>
   simp only[zdg] at h ⊢
   split at h
   ·split at h
    ·rename_i hg;rw[hO _ _ _ _ _ hg];exact h
    ·cases h
   ·cases h
  |_=>exact gen h
theorem zdN{Γ Δ:Oracle}{b:Nat}{op:AOp}{vs:List AV}{hp:Heap}{r:OpRes}(hO:OLe Γ Δ)(h:aOp Γ b op vs hp=some r):aOp Δ b op vs hp=some r:=by
 cases op
 case call=>exact zei hO h
 case calln n=>
  simp only[aOp,zhi] at h ⊢
  cases hc:zdg Γ hp (vs.drop n) with
  |none=>rw[hc] at h;cases h
  |some q=>rw[hc] at h;rw[zei hO hc];exact h
 case callg=>
  simp only[aOp,zfV] at h ⊢
  cases hc:zdg Γ hp vs with
  |none=>rw[hc] at h;cases h
  |some q=>rw[hc] at h;rw[zei hO hc];exact h
 case callp=>
  simp only[aOp,zes] at h ⊢
  split at h
  ·split at h
   ·rename_i ps he
    split at h
    ·rename_i v hp' hg;rw[hO _ _ _ _ _ hg];exact h
    ·cases h
   ·cases h
  ·cases h
 case callh=>
  simp only[aOp,zfU] at h ⊢
  split at h
  ·split at h
   ·split at h
    ·rename_i v hp' hg;rw[hO _ _ _ _ _ hg];exact h
    ·cases h
   ·cases h
  ·cases h
 all_goals exact h

theorem zbS{Γ Δ:Oracle}{b:Nat}(hO:OLe Γ Δ):∀{ops:List AOper} {fr:Fr} {hp:Heap} {r:AExit × Fr × Heap},aops Γ b ops fr hp=some r->aops Δ b ops fr hp=some r
 |[],_,_,_,h=>h
 |o::rest,fr,hp,r,h=>by
  simp only[aops] at h ⊢
  split at h
  ·cases h
  ·exact zbS hO h
  ·split at h
   ·cases h
   ·split at h
    ·rename_i ho;rw[zdN hO ho];exact zbS hO h
    ·rename_i ho;rw[zdN hO ho];exact h
    ·cases h

theorem zcC{Γ Δ:Oracle}(hO:OLe Γ Δ){hp:Heap}{vs:List AV}{r:OpRes}(h:zbK Γ hp vs=some r):zbK Δ hp vs=some r:=by
 unfold zbK at h ⊢
 split at h
 ·split at h
  ·split at h
   ·rename_i hg;simp only[hO _ _ _ _ _ hg];exact h
   ·rename_i hg;simp only[hO _ _ _ _ _ hg];exact h
   ·cases h
  ·cases h
 ·cases h
theorem zbr{Γ Δ:Oracle}{b:Nat}(hO:OLe Γ Δ):∀{l:List (AOper × Option (List AOper))} {fr:Fr} {hp:Heap} {r:AExit × Fr × Heap},zcm Γ b l fr hp=some r->zcm Δ b l fr hp=some r
 |[],_,_,_,h=>h
 |(o,none)::rest,fr,hp,r,h=>by
  simp only[zcm] at h ⊢
  split at h
  ·cases h
  ·exact zbr hO h
  ·split at h
   ·cases h
   ·split at h
    ·rename_i ho;rw[zdN hO ho];exact zbr hO h
    ·cases h
 |(o,some later)::rest,fr,hp,r,h=>by
  simp only[zcm] at h ⊢
  split at h
  ·cases h
  ·split at h
   ·rename_i ho;simp only[zcC hO ho];exact zbr hO h
   ·rename_i ho
    simp only[zcC hO ho]
    split at h
    ·rename_i hl;simp only[zbS hO hl];exact h
    ·cases h
   ·cases h
theorem zai{Γ Δ:Oracle}{Λ Λ':zad}{b:Nat}(hO:OLe Γ Δ)(hL:LLe Λ Λ'):∀{c:ACode} {st:St} {r:AExit × St},aexec Γ Λ b c st=some r->aexec Δ Λ' b c st=some r:=by
 intro c
 induction c with
 |skip=>intro st r h;exact h
 |settle l=>intro st r h;exact h
 |doom l keep=>
  intro st r h
  simp only[aexec] at h ⊢
  split at h
  ·rename_i ho;rw[zbr hO ho];exact h
  ·rename_i ho;rw[zbr hO ho];exact h
  ·cases h
 |region pan ops keep=>
  intro st r h
  simp only[aexec] at h ⊢
  split at h
  ·rename_i ho;rw[zbS hO ho];exact h
  ·rename_i ho;rw[zbS hO ho];exact h
  ·cases h
 |seq x y ihx ihy=>
  intro st r h
  simp only[aexec] at h ⊢
  split at h
  ·rename_i ho;rw[ihx ho];exact ihy h
  ·rename_i hn
   rw[ihx h]
   split
   ·rename_i e;cases e;exact(hn _ h).elim
   ·rfl
 |cond c x y ihx ihy=>
  intro st r h
  simp only[aexec] at h ⊢
  split at h
  ·exact ihx h
  ·exact ihy h
  ·cases h
 |block id c ih=>
  intro st r h
  simp only[aexec] at h ⊢
  split at h
  ·rename_i ho;rw[ih ho];exact h
  ·rename_i hn
   rw[ih h]
   split
   ·rename_i e;cases e;exact(hn _ _ h).elim
   ·rfl
 |loop keep c ih=>intro st r h;exact hL _ _ _ _ _ _ h
 |exit id=>intro st r h;exact h
 |ret=>intro st r h;exact h

theorem zaF{Γ Δ:Oracle}(hO:OLe Γ Δ):∀{n m:Nat},n<=m->LLe (aloop Γ n) (aloop Δ m)
 |0,m,_=>fun _ _ _ _ _ _ h=>by cases h
 |n+1,0,h=>by omega
 |n+1,m+1,hnm=>fun b k keep c st r h=>by
  simp only[aloop] at h ⊢
  split at h
  ·rename_i ho
   rw[zai hO (zaF hO (by omega:n<=m)) ho]
   exact zaF hO (by omega:n<=m) _ _ _ _ _ _ h
  ·rename_i hn
   rw[zai hO (zaF hO (by omega:n<=m)) h]
   split
   ·rename_i e;cases e;exact(hn _ h).elim
   ·rfl

theorem zii{Γ Δ:Oracle}(hO:OLe Γ Δ){op:ATop}{st:St}{ds:List AV}{r:AExit × St × List AV}(h:atop Γ op st ds=some r):atop Δ op st ds=some r:=by
 cases op with
 |dfr s=>exact h
 |range self f ps env=>
  simp only[atop] at h ⊢
  split at h
  ·cases h
  ·split at h
   ·split at h
    ·rename_i hg;rw[hO _ _ _ _ _ hg];exact h
    ·cases h
   ·cases h
theorem zb4{Γ Δ:Oracle}{Λ Λ':zad}{b:Nat}(hO:OLe Γ Δ)(hL:LLe Λ Λ'):∀{l:List (ATop × ACode)} {c:ACode} {st:St} {ds:List AV} {r:AExit × St × List AV},apieces Γ Λ b l c st ds=some r->apieces Δ Λ' b l c st ds=some r
 |[],c,st,ds,r,h=>by
  simp only[apieces] at h ⊢
  split at h
  ·rename_i ho;rw[zai hO hL ho];exact h
  ·cases h
 |(op,c2)::l,c,st,ds,r,h=>by
  simp only[apieces] at h ⊢
  split at h
  ·rename_i ho
   rw[zai hO hL ho]
   split at h
   ·rename_i ha;simp only[zii hO ha];exact zb4 hO hL h
   ·cases h
  ·rename_i e st1 hne ho
   rw[zai hO hL ho]
   cases e with
   |normal=>exact(hne rfl).elim
   |_=>exact h
  ·cases h
theorem zbf{Γ Δ:Oracle}(hO:OLe Γ Δ):∀{ds:List AV} {p:Option PV} {hp:Heap} {r:Option PV × Heap},aunwind Γ ds p hp=some r->aunwind Δ ds p hp=some r
 |[],p,hp,r,h=>h
 |c::ds,p,hp,r,h=>by
  simp only[aunwind] at h ⊢
  split at h
  ·split at h
   ·rename_i hg;simp only[hO _ _ _ _ _ hg];exact zbf hO h
   ·cases h
  ·cases h
theorem zfD{Γ Δ:Oracle}(hO:OLe Γ Δ){fn:AFn}{q:AExit × St × List AV}{r:ARes × Heap}(h:aleave Γ fn (some q)=some r):aleave Δ fn (some q)=some r:=by
 obtain⟨e,st,ds⟩:=q
 cases e with
 |exit i=>cases h
 |normal=>
  simp only[aleave] at h ⊢
  split at h
  ·rename_i hu;simp only[zbf hO hu];exact h
  ·cases h
 |ret=>
  simp only[aleave] at h ⊢
  split at h
  ·rename_i hu;simp only[zbf hO hu];exact h
  ·cases h
 |panic v=>
  simp only[aleave] at h ⊢
  split at h
  ·rename_i hu;simp only[zbf hO hu];exact h
  ·rename_i hu;simp only[zbf hO hu];exact h
  ·cases h
theorem zc6{Γ Δ:Oracle}{Λ Λ':zad}(hO:OLe Γ Δ)(hL:LLe Λ Λ'){fn:AFn}{args:List AV}{hp:Heap}{r:ARes × Heap}(h:abody Γ Λ fn args hp=some r):abody Δ Λ' fn args hp=some r:=by
 unfold abody at h ⊢
 split at h
 ·cases h
 ·rename_i hn
  rw[if_neg hn]
  cases hmore:fn.more with
  |nil=>
   simp only[hmore] at h ⊢
   split at h
   ·rename_i ho;rw[zai hO hL ho];exact h
   ·rename_i ho;rw[zai hO hL ho];exact h
   ·rename_i ho;rw[zai hO hL ho];exact h
   ·cases h
  |cons x l=>
   simp only[hmore] at h ⊢
   cases hq:apieces Γ Λ hp.length (x::l) fn.code ⟨params 0 args,hp⟩ [] with
   |none=>rw[hq] at h;cases h
   |some q=>
    rw[hq] at h
    rw[zb4 hO hL hq]
    exact zfD hO h

theorem zeG{F:FuncId->Option AFn}{prim:FuncId->Option zbg}{Γ Δ:Oracle}{Λ Λ':zad}(hO:OLe Γ Δ)(hL:LLe Λ Λ'){f:FuncId}{azs:List AV}{hp:Heap}{r:ARes × Heap}(h:zbb F prim Γ Λ f azs hp=some r):zbb F prim Δ Λ' f azs hp=some r:=by
 unfold zbb at h ⊢
 split at h
 ·exact h
 ·split at h
  ·cases h
  ·rename_i fn _
   by_cases hr:fn.rcv.isSome=true
   ·rw[if_pos hr] at h;cases h
   simp only[if_neg hr] at h ⊢
   by_cases hm:fn.heapMode=true
   ·simp only[hm,if_true] at h ⊢
    split at h
    ·rename_i ho;rw[zc6 hO hL ho];exact h
    ·rename_i ho;rw[zc6 hO hL ho];exact h
    ·cases h
   ·rw[if_neg hm] at h ⊢
    split at h
    ·cases h
    ·split at h
     ·rename_i ho;rw[zc6 hO hL ho];exact h
     ·rename_i ho;rw[zc6 hO hL ho];exact h
     ·cases h
theorem zjg{F:FuncId->Option AFn}{Γ Δ:Oracle}{Λ Λ':zad}(hO:OLe Γ Δ)(hL:LLe Λ Λ'){f:FuncId}{azs:List AV}{hp:Heap}{r:ARes × Heap}(h:around F Γ Λ f azs hp=some r):around F Δ Λ' f azs hp=some r:=by
 unfold around at h ⊢
 split at h
 ·split at h
  ·split at h
   ·rename_i hc
    rw[if_pos hc]
    split at h
    ·split at h
     ·split at h
      ·rename_i h1
       simp only[zai hO hL h1]
       split at h
       ·split at h
        ·rename_i h2
         simp only[zai hO hL h2]
         exact h
        ·cases h
       ·cases h
      ·cases h
     ·cases h
    ·cases h
   ·cases h
  ·cases h
 ·cases h
theorem zjh{F:FuncId->Option AFn}{Γ Δ:Oracle}{Λ Λ':zad}(hO:OLe Γ Δ)(hL:LLe Λ Λ'){f:FuncId}{azs:List AV}{hp:Heap}{r:ARes × Heap}(h:adefer F Γ Λ f azs hp=some r):adefer F Δ Λ' f azs hp=some r:=by
 unfold adefer at h ⊢
 split at h
 ·split at h
  ·split at h
   ·split at h
    ·cases h
    ·rename_i hc
     rw[if_neg hc]
     split at h
     ·rename_i h1;simp only[zai hO hL h1];exact h
     ·rename_i h1;simp only[zai hO hL h1];exact h
     ·cases h
   ·cases h
  ·cases h
 ·cases h
theorem zej{F:FuncId->Option AFn}{prim:FuncId->Option zbg}{Γ Δ:Oracle}{Λ Λ':zad}(hO:OLe Γ Δ)(hL:LLe Λ Λ'):OLe (acall F prim Γ Λ) (acall F prim Δ Λ'):=by
 intro k f azs hp r h
 cases k with
 |fn=>exact zeG hO hL h
 |rnd=>exact zjg hO hL h
 |dfr=>exact zjh hO hL h
 |seq=>
  simp only[acall] at h ⊢
  split at h
  ·rename_i hs;rw[if_pos hs];exact zeG hO hL h
  ·cases h

theorem zbx{F:FuncId->Option AFn}{prim:FuncId->Option zbg}:∀{n m:Nat},n<=m->OLe (asem F prim n) (asem F prim m)
 |0,_,_=>fun _ _ _ _ _ h=>by cases h
 |n+1,0,h=>by omega
 |n+1,m+1,h=>zej (zbx (by omega)) (zaF (zbx (by omega)) (by omega))

noncomputable def sem(F:FuncId->Option AFn)(prim:FuncId->Option zbg):Oracle:=fun k f azs hp=>
 open Classical in if h:∃n r,asem F prim n k f azs hp=some r then some h.choose_spec.choose else none
noncomputable def sloop(F:FuncId->Option AFn)(prim:FuncId->Option zbg):zad:=fun b m keep c st=>
 open Classical in if h:∃n r,aloop (asem F prim n) n b m keep c st=some r then some h.choose_spec.choose else none

variable{F:FuncId->Option AFn} {prim:FuncId->Option zbg}
theorem sem_iff{k:Kind}{f:FuncId}{azs:List AV}{hp:Heap}{r:ARes × Heap}:sem F prim k f azs hp=some r↔∃n,asem F prim n k f azs hp=some r:=by
 unfold sem
 constructor
 ·intro h
  split at h
  ·rename_i he
   cases h
   exact⟨_,he.choose_spec.choose_spec⟩
  ·cases h
 ·rintro⟨n,hn⟩
  have he:∃n r,asem F prim n k f azs hp=some r:=⟨n,r,hn⟩
  rw[dif_pos he]
  have h1:=zbx (Nat.le_max_left n he.choose) _ _ _ _ _ hn
  have h2:=zbx (Nat.le_max_right n he.choose) _ _ _ _ _ he.choose_spec.choose_spec
  rw[h1] at h2
  exact h2.symm
theorem sloop_iff{b m:Nat}{keep:List Nat}{c:ACode}{st:St}{r:AExit × St}:sloop F prim b m keep c st=some r↔∃n,aloop (asem F prim n) n b m keep c st=some r:=by
 unfold sloop
 constructor
 ·intro h
  split at h
  ·rename_i he
   cases h
   exact⟨_,he.choose_spec.choose_spec⟩
  ·cases h
 ·rintro⟨n,hn⟩
  have he:∃n r,aloop (asem F prim n) n b m keep c st=some r:=⟨n,r,hn⟩
  rw[dif_pos he]
  have h1:=zaF (zbx (F:=F) (prim:=prim) (Nat.le_max_left n he.choose)) (Nat.le_max_left n he.choose) _ _ _ _ _ _ hn
  have h2:=zaF (zbx (F:=F) (prim:=prim) (Nat.le_max_right n he.choose)) (Nat.le_max_right n he.choose) _ _ _ _ _ _ he.choose_spec.choose_spec
  rw[h1] at h2
  exact h2.symm
theorem zji{n:Nat}:OLe (asem F prim n) (sem F prim):=fun _ _ _ _ _ h=>sem_iff.2 ⟨n,h⟩
theorem zjR{n:Nat}:LLe (aloop (asem F prim n) n) (sloop F prim):=fun _ _ _ _ _ _ h=>sloop_iff.2 ⟨n,h⟩
abbrev up{n m:Nat}(h:n<=m):OLe (asem F prim n) (asem F prim m):=zbx h
theorem upl{n m:Nat}(h:n<=m):LLe (aloop (asem F prim n) n) (aloop (asem F prim m) m):=zaF (zbx h) h

theorem zek{vs:List AV}{hp:Heap}{r:OpRes}(h:zdg (sem F prim) hp vs=some r):∃n,zdg (asem F prim n) hp vs=some r:=by
 cases vs with
 |nil=>cases h
 |cons a azs=>
  have gen:(match za7 a with
    |some (g,first,captured)=>match sem F prim .fn g (first++azs++captured) hp with
     |some (.ret v,hp')=>some (OpRes.val v hp')
     |some (.panic v,hp')=>some (.panic v hp')
     |none=>none
    |none=>none)=some r->∃n,(match za7 a with
    |some (g,first,captured)=>match asem F prim n .fn g (first++azs++captured) hp with
     |some (.ret v,hp')=>some (OpRes.val v hp')
     |some (.panic v,hp')=>some (.panic v hp')
     |none=>none
    |none=>none)=some r:=by
   intro h
   split at h
   ·split at h
    ·rename_i hg
     obtain⟨n,hn⟩:=sem_iff.1 hg
     exact⟨n,by simp only[hn];exact h⟩
    ·rename_i hg
     obtain⟨n,hn⟩:=sem_iff.1 hg
     exact⟨n,by simp only[hn];exact h⟩
    ·cases h
   ·cases h
  cases a with
  |yield q=>
   simp only[zdg] at h ⊢
   split at h
   ·split at h
    ·rename_i hg
     obtain⟨n,hn⟩:=sem_iff.1 hg
     exact⟨n,by simp only[hn];exact h⟩
    ·cases h
   ·cases h
  |_=>exact gen h
theorem zg9{b:Nat}{op:AOp}{vs:List AV}{hp:Heap}{r:OpRes}(h:aOp (sem F prim) b op vs hp=some r):∃n,aOp (asem F prim n) b op vs hp=some r:=by
 cases op
 case call=>exact zek h
 case calln n=>
  simp only[aOp,zhi] at h ⊢
  cases hc:zdg (sem F prim) hp (vs.drop n) with
  |none=>rw[hc] at h;cases h
  |some q=>
   rw[hc] at h
   obtain⟨k,hk⟩:=zek hc
   exact⟨k,by rw[hk];exact h⟩
 case callg=>
  simp only[aOp,zfV] at h ⊢
  cases hc:zdg (sem F prim) hp vs with
  |none=>rw[hc] at h;cases h
  |some q=>
   rw[hc] at h
   obtain⟨k,hk⟩:=zek hc
   exact⟨k,by rw[hk];exact h⟩
 case callp=>
  simp only[aOp,zes] at h ⊢
  split at h
  ·split at h
   ·rename_i ps he
    split at h
    ·rename_i v hp' hg
     obtain⟨n,hn⟩:=sem_iff.1 hg
     exact⟨n,by simp only[hn];exact h⟩
    ·cases h
   ·cases h
  ·cases h
 case callh=>
  simp only[aOp,zfU] at h ⊢
  split at h
  ·split at h
   ·split at h
    ·rename_i v hp' hg
     obtain⟨n,hn⟩:=sem_iff.1 hg
     exact⟨n,by simp only[hn];exact h⟩
    ·cases h
   ·cases h
  ·cases h
 all_goals exact⟨0,h⟩

theorem zcV{b:Nat}:∀{ops:List AOper} {fr:Fr} {hp:Heap} {r:AExit × Fr × Heap},aops (sem F prim) b ops fr hp=some r->∃n,aops (asem F prim n) b ops fr hp=some r
 |[],_,_,_,h=>⟨0,h⟩
 |o::rest,fr,hp,r,h=>by
  simp only[aops] at h ⊢
  split at h
  ·cases h
  ·exact zcV h
  ·split at h
   ·cases h
   ·split at h
    ·rename_i ho
     obtain⟨n,hn⟩:=zg9 ho
     obtain⟨m,hm⟩:=zcV h
     refine⟨max n m,?_⟩
     rw[zdN (up (Nat.le_max_left n m)) hn]
     exact zbS (up (Nat.le_max_right n m)) hm
    ·rename_i ho
     obtain⟨n,hn⟩:=zg9 ho
     exact⟨n,by rw[hn];exact h⟩
    ·cases h

theorem zfE{hp:Heap}{vs:List AV}{r:OpRes}(h:zbK (sem F prim) hp vs=some r):∃n,zbK (asem F prim n) hp vs=some r:=by
 unfold zbK at h ⊢
 split at h
 ·split at h
  ·split at h
   ·rename_i hg
    obtain⟨n,hn⟩:=sem_iff.1 hg
    exact⟨n,by simp only[hn];exact h⟩
   ·rename_i hg
    obtain⟨n,hn⟩:=sem_iff.1 hg
    exact⟨n,by simp only[hn];exact h⟩
   ·cases h
  ·cases h
 ·cases h
theorem zch{b:Nat}:∀{l:List (AOper × Option (List AOper))} {fr:Fr} {hp:Heap} {r:AExit × Fr × Heap},zcm (sem F prim) b l fr hp=some r->∃n,zcm (asem F prim n) b l fr hp=some r
 |[],_,_,_,h=>⟨0,h⟩
 |(o,none)::rest,fr,hp,r,h=>by
  simp only[zcm] at h ⊢
  split at h
  ·cases h
  ·exact zch h
  ·split at h
   ·cases h
   ·split at h
    ·rename_i ho
     obtain⟨n,hn⟩:=zg9 ho
     obtain⟨m,hm⟩:=zch h
     refine⟨max n m,?_⟩
     rw[zdN (up (Nat.le_max_left n m)) hn]
     exact zbr (up (Nat.le_max_right n m)) hm
    ·cases h
 |(o,some later)::rest,fr,hp,r,h=>by
  simp only[zcm] at h ⊢
  split at h
  ·cases h
  ·split at h
   ·rename_i ho
    obtain⟨n,hn⟩:=zfE ho
    obtain⟨m,hm⟩:=zch h
    refine⟨max n m,?_⟩
    simp only[zcC (up (Nat.le_max_left n m)) hn]
    exact zbr (up (Nat.le_max_right n m)) hm
   ·rename_i ho
    obtain⟨n,hn⟩:=zfE ho
    split at h
    ·rename_i hl
     obtain⟨m,hm⟩:=zcV hl
     refine⟨max n m,?_⟩
     simp only[zcC (up (Nat.le_max_left n m)) hn,zbS (up (Nat.le_max_right n m)) hm]
     exact h
    ·cases h
   ·cases h

theorem zaG{b:Nat}:∀{c:ACode} {st:St} {r:AExit × St},aexec (sem F prim) (sloop F prim) b c st=some r->∃n,aexec (asem F prim n) (aloop (asem F prim n) n) b c st=some r:=by
 intro c
 induction c with
 |skip=>intro st r h;exact⟨0,h⟩
 |settle l=>intro st r h;exact⟨0,h⟩
 |doom l keep=>
  intro st r h
  simp only[aexec] at h ⊢
  split at h
  ·rename_i ho
   obtain⟨n,hn⟩:=zch ho
   exact⟨n,by rw[hn];exact h⟩
  ·rename_i ho
   obtain⟨n,hn⟩:=zch ho
   exact⟨n,by rw[hn];exact h⟩
  ·cases h
 |region pan ops keep=>
  intro st r h
  simp only[aexec] at h ⊢
  split at h
  ·rename_i ho
   obtain⟨n,hn⟩:=zcV ho
   exact⟨n,by rw[hn];exact h⟩
  ·rename_i ho
   obtain⟨n,hn⟩:=zcV ho
   exact⟨n,by rw[hn];exact h⟩
  ·cases h
 |seq x y ihx ihy=>
  intro st r h
  simp only[aexec] at h ⊢
  split at h
  ·rename_i ho
   obtain⟨n,hn⟩:=ihx ho
   obtain⟨m,hm⟩:=ihy h
   refine⟨max n m,?_⟩
   rw[zai (up (Nat.le_max_left n m)) (upl (Nat.le_max_left n m)) hn]
   exact zai (up (Nat.le_max_right n m)) (upl (Nat.le_max_right n m)) hm
  ·rename_i hn
   obtain⟨n,h1⟩:=ihx h
   refine⟨n,?_⟩
   rw[h1]
   split
   ·rename_i e;cases e;exact(hn _ h).elim
   ·rfl
 |cond c x y ihx ihy=>
  intro st r h
  simp only[aexec] at h ⊢
  split at h
  ·exact ihx h
  ·exact ihy h
  ·cases h
 |block id c ih=>
  intro st r h
  simp only[aexec] at h ⊢
  split at h
  ·rename_i ho
   obtain⟨n,hn⟩:=ih ho
   exact⟨n,by rw[hn];exact h⟩
  ·rename_i hn
   obtain⟨n,h1⟩:=ih h
   refine⟨n,?_⟩
   rw[h1]
   split
   ·rename_i e;cases e;exact(hn _ _ h).elim
   ·rfl
 |loop keep c ih=>intro st r h;exact sloop_iff.1 h
 |exit id=>intro st r h;exact⟨0,h⟩
 |ret=>intro st r h;exact⟨0,h⟩

theorem zl6{op:ATop}{st:St}{ds:List AV}{r:AExit × St × List AV}(h:atop (sem F prim) op st ds=some r):∃n,atop (asem F prim n) op st ds=some r:=by
 cases op with
 |dfr s=>exact⟨0,h⟩
 |range self f ps env=>
  simp only[atop] at h ⊢
  split at h
  ·cases h
  ·split at h
   ·split at h
    ·rename_i hg
     obtain⟨n,hn⟩:=sem_iff.1 hg
     exact⟨n,by simp only[hn];exact h⟩
    ·cases h
   ·cases h
theorem zeH{b:Nat}:∀{l:List (ATop × ACode)} {c:ACode} {st:St} {ds:List AV} {r:AExit × St × List AV},apieces (sem F prim) (sloop F prim) b l c st ds=some r->∃n,apieces (asem F prim n) (aloop (asem F prim n) n) b l c st ds=some r
 |[],c,st,ds,r,h=>by
  simp only[apieces] at h ⊢
  split at h
  ·rename_i ho
   obtain⟨n,hn⟩:=zaG ho
   exact⟨n,by rw[hn];exact h⟩
  ·cases h
 |(op,c2)::l,c,st,ds,r,h=>by
  simp only[apieces] at h ⊢
  split at h
  ·rename_i ho
   obtain⟨n,hn⟩:=zaG ho
   split at h
   ·rename_i ha
    obtain⟨m,hm⟩:=zl6 ha
    obtain⟨k,hk⟩:=zeH h
    refine⟨max n (max m k),?_⟩
    rw[zai (up (by omega:n<=max n (max m k))) (upl (by omega)) hn]
    simp only[zii (up (by omega:m<=max n (max m k))) hm]
    exact zb4 (up (by omega:k<=max n (max m k))) (upl (by omega)) hk
   ·cases h
  ·rename_i e st1 hne ho
   obtain⟨n,hn⟩:=zaG ho
   refine⟨n,?_⟩
   rw[hn]
   cases e with
   |normal=>exact(hne rfl).elim
   |_=>exact h
  ·cases h
theorem zby:∀{ds:List AV} {p:Option PV} {hp:Heap} {r:Option PV × Heap},aunwind (sem F prim) ds p hp=some r->∃n,aunwind (asem F prim n) ds p hp=some r
 |[],p,hp,r,h=>⟨0,h⟩
 |c::ds,p,hp,r,h=>by
  simp only[aunwind] at h ⊢
  split at h
  ·split at h
   ·rename_i hg
    obtain⟨n,hn⟩:=sem_iff.1 hg
    obtain⟨m,hm⟩:=zby h
    refine⟨max n m,?_⟩
    simp only[up (F:=F) (prim:=prim) (Nat.le_max_left n m) _ _ _ _ _ hn]
    exact zbf (up (Nat.le_max_right n m)) hm
   ·cases h
  ·cases h
theorem zjj{fn:AFn}{q:AExit × St × List AV}{r:ARes × Heap}(h:aleave (sem F prim) fn (some q)=some r):∃n,aleave (asem F prim n) fn (some q)=some r:=by
 obtain⟨e,st,ds⟩:=q
 cases e with
 |exit i=>cases h
 |normal=>
  simp only[aleave] at h ⊢
  split at h
  ·rename_i hu
   obtain⟨n,hn⟩:=zby hu
   exact⟨n,by simp only[hn];exact h⟩
  ·cases h
 |ret=>
  simp only[aleave] at h ⊢
  split at h
  ·rename_i hu
   obtain⟨n,hn⟩:=zby hu
   exact⟨n,by simp only[hn];exact h⟩
  ·cases h
 |panic v=>
  simp only[aleave] at h ⊢
  split at h
  ·rename_i hu
   obtain⟨n,hn⟩:=zby hu
   exact⟨n,by simp only[hn];exact h⟩
  ·rename_i hu
   obtain⟨n,hn⟩:=zby hu
   exact⟨n,by simp only[hn];exact h⟩
  ·cases h
theorem zc7{fn:AFn}{args:List AV}{hp:Heap}{r:ARes × Heap}(h:abody (sem F prim) (sloop F prim) fn args hp=some r):∃n,abody (asem F prim n) (aloop (asem F prim n) n) fn args hp=some r:=by
 unfold abody at h ⊢
 split at h
 ·cases h
 ·rename_i hn
  simp only[if_neg hn]
  cases hmore:fn.more with
  |nil=>
   simp only[hmore] at h ⊢
   split at h
   ·rename_i ho
    obtain⟨n,hn⟩:=zaG ho
    exact⟨n,by rw[hn];exact h⟩
   ·rename_i ho
    obtain⟨n,hn⟩:=zaG ho
    exact⟨n,by rw[hn];exact h⟩
   ·rename_i ho
    obtain⟨n,hn⟩:=zaG ho
    exact⟨n,by rw[hn];exact h⟩
   ·cases h
  |cons x l=>
   simp only[hmore] at h ⊢
   cases hq:apieces (sem F prim) (sloop F prim) hp.length (x::l) fn.code ⟨params 0 args,hp⟩ [] with
   |none=>rw[hq] at h;cases h
   |some q=>
    rw[hq] at h
    obtain⟨n,hn⟩:=zeH hq
    obtain⟨m,hm⟩:=zjj h
    refine⟨max n m,?_⟩
    rw[zb4 (up (Nat.le_max_left n m)) (upl (Nat.le_max_left n m)) hn]
    exact zfD (up (Nat.le_max_right n m)) hm

theorem zeI{f:FuncId}{azs:List AV}{hp:Heap}{r:ARes × Heap}(h:zbb F prim (sem F prim) (sloop F prim) f azs hp=some r):∃n,zbb F prim (asem F prim n) (aloop (asem F prim n) n) f azs hp=some r:=by
 unfold zbb at h ⊢
 split at h
 ·exact⟨0,h⟩
 ·split at h
  ·cases h
  ·rename_i fn _
   by_cases hr:fn.rcv.isSome=true
   ·rw[if_pos hr] at h;cases h
   simp only[if_neg hr] at h ⊢
   by_cases hm:fn.heapMode=true
   ·simp only[hm,if_true] at h ⊢
    split at h
    ·rename_i ho
     obtain⟨n,hn⟩:=zc7 ho
     exact⟨n,by rw[hn];exact h⟩
    ·rename_i ho
     obtain⟨n,hn⟩:=zc7 ho
     exact⟨n,by rw[hn];exact h⟩
    ·cases h
   ·simp only[if_neg hm] at h ⊢
    split at h
    ·cases h
    ·split at h
     ·rename_i ho
      obtain⟨n,hn⟩:=zc7 ho
      exact⟨n,by rw[hn];exact h⟩
     ·rename_i ho
      obtain⟨n,hn⟩:=zc7 ho
      exact⟨n,by rw[hn];exact h⟩
     ·cases h
theorem zjk{f:FuncId}{azs:List AV}{hp:Heap}{r:ARes × Heap}(h:around F (sem F prim) (sloop F prim) f azs hp=some r):∃n,around F (asem F prim n) (aloop (asem F prim n) n) f azs hp=some r:=by
 unfold around at h ⊢
 split at h
 ·split at h
  ·split at h
   ·rename_i hc
    simp only[if_pos hc]
    split at h
    ·split at h
     ·split at h
      ·rename_i h1
       obtain⟨n,hn⟩:=zaG h1
       split at h
       ·split at h
        ·rename_i h2
         obtain⟨m,hm⟩:=zaG h2
         refine⟨max n m,?_⟩
         simp only[zai (up (Nat.le_max_left n m)) (upl (Nat.le_max_left n m)) hn,zai (up (Nat.le_max_right n m)) (upl (Nat.le_max_right n m)) hm]
         rename_i hlf _ _
         first|exact h|(simp only[hlf];exact h)
        ·cases h
       ·cases h
      ·cases h
     ·cases h
    ·cases h
   ·cases h
  ·cases h
 ·cases h
theorem zjl{f:FuncId}{azs:List AV}{hp:Heap}{r:ARes × Heap}(h:adefer F (sem F prim) (sloop F prim) f azs hp=some r):∃n,adefer F (asem F prim n) (aloop (asem F prim n) n) f azs hp=some r:=by
 unfold adefer at h ⊢
 split at h
 ·split at h
  ·split at h
   ·split at h
    ·cases h
    ·rename_i hc
     simp only[if_neg hc]
     split at h
     ·rename_i h1
      obtain⟨n,hn⟩:=zaG h1
      exact⟨n,by simp only[hn];exact h⟩
     ·rename_i h1
      obtain⟨n,hn⟩:=zaG h1
      exact⟨n,by simp only[hn];exact h⟩
     ·cases h
   ·cases h
  ·cases h
 ·cases h
theorem zkC{k:Kind}{f:FuncId}{azs:List AV}{hp:Heap}{r:ARes × Heap}(h:acall F prim (sem F prim) (sloop F prim) k f azs hp=some r):∃n,acall F prim (asem F prim n) (aloop (asem F prim n) n) k f azs hp=some r:=by
 cases k with
 |fn=>exact zeI h
 |rnd=>exact zjk h
 |dfr=>exact zjl h
 |seq=>
  simp only[acall] at h ⊢
  split at h
  ·rename_i hs
   simp only[if_pos hs]
   exact zeI h
  ·cases h

theorem zl7(k:Kind)(f:FuncId)(azs:List AV)(hp:Heap):sem F prim k f azs hp=acall F prim (sem F prim) (sloop F prim) k f azs hp:=by
 have to:∀r,sem F prim k f azs hp=some r↔acall F prim (sem F prim) (sloop F prim) k f azs hp=some r:=fun r=>by
  constructor
  ·intro h
   obtain⟨n,hn⟩:=sem_iff.1 h
   cases n with
   |zero=>cases hn
   |succ n=>exact zej zji zjR _ _ _ _ _ hn
  ·intro h
   obtain⟨n,hn⟩:=zkC h
   exact sem_iff.2 ⟨n+1,hn⟩
 exact Option.ext fun r=>to r

theorem zl8(f:FuncId)(azs:List AV)(hp:Heap):sem F prim .fn f azs hp=zbb F prim (sem F prim) (sloop F prim) f azs hp:=zl7 .fn f azs hp
theorem zjS(b m:Nat)(keep:List Nat)(c:ACode)(st:St):sloop F prim b m keep c st=match aexec (sem F prim) (sloop F prim) b c st with
  |some (.normal,st')=>sloop F prim b m keep c ⟨st'.fr.keep keep,collect m b (st'.fr.keep keep) st'.hp⟩
  |r=>r:=by
 have to:∀r,sloop F prim b m keep c st=some r↔(match aexec (sem F prim) (sloop F prim) b c st with
  |some (.normal,st')=>sloop F prim b m keep c ⟨st'.fr.keep keep,collect m b (st'.fr.keep keep) st'.hp⟩
  |r=>r)=some r:=fun r=>by
  constructor
  ·intro h
   obtain⟨n,hn⟩:=sloop_iff.1 h
   cases n with
   |zero=>cases hn
   |succ n=>
    simp only[aloop] at hn
    have hle:LLe (aloop (asem F prim (n+1)) n) (sloop F prim):=(zaF (OLe.refl _) (by omega:n<=n+1)).trans zjR
    split at hn
    ·rename_i ho
     rw[zai zji hle ho]
     exact hle _ _ _ _ _ _ hn
    ·rename_i hne
     rw[zai zji hle hn]
     split
     ·rename_i e;cases e;exact(hne _ hn).elim
     ·rfl
  ·intro h
   split at h
   ·rename_i ho
    obtain⟨n,hn⟩:=zaG ho
    obtain⟨k,hk⟩:=sloop_iff.1 h
    refine sloop_iff.2 ⟨max n k+1,?_⟩
    simp only[aloop]
    rw[zai (up (by omega:n<=max n k+1)) (zaF (up (by omega)) (by omega)) hn]
    exact zaF (up (by omega:k<=max n k+1)) (by omega) _ _ _ _ _ _ hk
   ·rename_i hne
    obtain⟨n,hn⟩:=zaG h
    refine sloop_iff.2 ⟨n+1,?_⟩
    simp only[aloop]
    rw[zai (up (by omega:n<=n+1)) (zaF (up (by omega)) (by omega)) hn]
    split
    ·rename_i e;cases e;exact(hne _ h).elim
    ·rfl
 exact Option.ext fun r=>to r

theorem zl9{P:Program}(hmix:P.follows .mixedOrders=true)(hF:zjd P F)(hP:zeE P prim):SoundO P (sem F prim) where
 fn f azs hp r hp' h:=by
  obtain⟨n,hn⟩:=sem_iff.1 h
  exact(zbI hmix hF hP n).fn f azs hp r hp' hn
 seq f azs hp r hp' h:=by
  obtain⟨n,hn⟩:=sem_iff.1 h
  exact(zbI hmix hF hP n).seq f azs hp r hp' hn
 rnd f q azs hp v hp' ps env h:=by
  obtain⟨n,hn⟩:=sem_iff.1 h
  exact(zbI hmix hF hP n).rnd f q azs hp v hp' ps env hn
 dfr g p azs hp r hp' h:=by
  obtain⟨n,hn⟩:=sem_iff.1 h
  exact(zbI hmix hF hP n).dfr g p azs hp r hp' hn
end Go.Am

/- A table of functions. -/
namespace Go.Am
def zma(P:Program)(tab:List (Nat × AFn)):Prop:=∀x∈tab,∃fnc,P.funcs[x.1]? =some fnc/\trFn P x.2.heapMode x.1 fnc=some x.2
theorem zmb{P:Program}:zma P []:=fun x h=>by simp at h
theorem zaa{P:Program}{f:Nat}{g:AFn}{fnc:Func}{r:List (Nat × AFn)}(h:P.funcs[f]? =some fnc)(t:trFn P g.heapMode f fnc=some g)(k:zma P r):zma P ((f,g)::r):=by
 intro x hx
 simp only[List.mem_cons] at hx
 rcases hx with rfl|hx
 ·exact⟨fnc,h,t⟩
 ·exact k x hx
def find:List (Nat × AFn)->FuncId->Option AFn
 |[],_=>none
 |(k,g)::r,f=>bif Nat.beq k f then some g else find r f
theorem zjT:∀{tab:List (Nat × AFn)} {f:FuncId} {g:AFn},find tab f=some g->(f,g)∈tab
 |[],_,_,h=>by cases h
 |(k,x)::r,f,g,h=>by
  simp only[find] at h
  cases hk:Nat.beq k f with
  |true=>
   rw[hk] at h
   cases h
   simp[Nat.eq_of_beq_eq_true hk]
  |false=>
   rw[hk] at h
   exact List.mem_cons_of_mem _ (zjT h)
theorem zng{P:Program}{tab:List (Nat × AFn)}(h:zma P tab):zjd P (find tab):=fun f fn hf=>h (f,fn) (zjT hf)
end Go.Am

/- Contracts by hand: what the library has no body for. -/
namespace Go.Am
variable{P:Program}

def zdf(P:Program)(f:FuncId)(p:zbg):Prop:=
 ∀args hp r hp',p f args hp=some (r,hp')->∀(w:World) (X:Xc P) (μ:Nat->Option Nat) (vs:List Value),HR w X μ hp->LR w X μ hp args vs->Called P f vs.toArray w (zaV hp.length w X μ hp r hp')

theorem zkD:zeE P (fun _=>none):=fun f p h=>by cases h
theorem zbT{prim:FuncId->Option zbg}{f:FuncId}{p:zbg}(h:zdf P f p)(k:zeE P prim):zeE P (fun g=>bif Nat.beq f g then some p else prim g):=by
 intro g q hq
 cases hk:Nat.beq f g with
 |true=>
  simp only[hk,cond_true] at hq
  cases hq
  have:=Nat.eq_of_beq_eq_true hk
  subst this
  exact h
 |false=>
  simp only[hk,cond_false] at hq
  exact k g q hq
end Go.Am

/- From a run of the abstract machine to what a law's row wants. -/
namespace Go.Am
open Go.ChangeShapes Go.WideShapes Go.ChangeAt Go.RowKit
variable{P:Program} {H:Type} {enc:TypeId × Value->H}

theorem zij{f:FuncId}{fn:Func}{c:Code}{args:Array Value}{w:World}{R:Ending->World->Prop}(hf:P.funcs[f]? =some fn)(hb:fn.body=some c)(hn:fn.name≠ "runtime.NumGoroutine")
  (h:Called P f args w R):Calls P f args w R:=by
 rcases h with⟨_,h⟩|⟨v,w',h,_⟩
 ·exact h
 ·rw[zaO hf hb hn] at h;cases h

abbrev noX:Xc P:=⟨fun _=>False⟩
abbrev noμ:Nat->Option Nat:=fun _=>none

theorem znh(w:World)(ht:TabR P w fun _=>True):HR w (noX (P:=P)) noμ []:=
 ⟨fun i _ _ hi=>by simp at hi,fun i _ hi=>by simp at hi,fun b hb=>hb.elim,fun i sh v h=>by simp at h,fun i sh es fz h=>by simp at h,fun i sh es h=>by simp at h,fun i f ps env bz h=>by simp at h,fun i sh es h=>by simp at h,ht.mono fun h=>h.mono fun _ _ _ _ _ hb=>⟨⟨fun h=>h.elim,fun i hi=>by simp[live] at hi⟩,hb⟩⟩

theorem zmc{b0:Nat}{X:Xc P}{μ μ':Nat->Option Nat}{hp':Heap}{w w':World}(h:Ext b0 X μ [] w μ' hp' w'):Below w.heap.size w w':=
 ⟨h.os,h.tape,h.output,h.size,fun k hk=>h.blk k hk fun i hi=>by simp[live] at hi⟩

theorem zkE{w w':World}(h:Below w.heap.size w w')(may:MemPlace->Prop):w.keptBut w' may:=by
 refine⟨h.os,h.output,fun i hi=> ?_⟩
 rw[h.block i hi]
 cases w.heap[i]? with
 |none=>trivial
 |some o=>cases o <;> simp

theorem zdO(hl:laidOutB P=true){W W':World}(hb:Below W.heap.size W W'):∀{ts:List TypeId} {vs:List Value} {ds:List (DataW H)} {p:List MemPlace},
  (∀t∈ts,P.readableRec t=true/\t<P.types.size)->(∀x∈p,x.block<W.heap.size)->DataW.TrodAll enc P W 0 (fun _=>true) true ts vs ds p->DataW.TrodAll enc P W' 0 (fun b=>decide (b<W.heap.size)) true ts vs ds p
 |[],_,_,_,_,_,h=>by
  obtain⟨rfl,rfl,rfl⟩:=trodAll_nil h
  exact trodAll_mk0
 |t::ts,_,_,_,ht,hp,h=>by
  obtain⟨v,vs,d,ds,a,b,rfl,rfl,rfl,h1,h2⟩:=trodAll_cons h
  obtain⟨k1,k2⟩:=ht t (by simp)
  exact⟨a,b,Below.trod hl k1 k2 h1 hb fun x hx=>hp x (by simp[hx]),zdO hl hb (fun t h=>ht t (by simp[h])) (fun x hx=>hp x (by simp[hx])) h2,rfl⟩

def zni(P:Program)(fn:Func):Bool:=fn.params.toList.all fun t=>P.readableRec t && decide (t<P.types.size)
def zmd(P:Program)(fn:Func):Bool:=
 match fn.resultTypes.toList with
 |[t]=>zgy P t
 |_=>false
def zox(P:Program)(fn:Func):Bool:=zni P fn && zmd P fn && fn.body.isSome && !(fn.name == "runtime.NumGoroutine")

theorem zik{Γ:Oracle}(hΓ:SoundO P Γ){f:FuncId}{fn:Func}(hf:P.funcs[f]? =some fn)(hfn:zox P fn=true)(hl:laidOutB P=true){s:ChangeSpec}(hv:s.vars=[])
  {W:World}{args:Array Value}{ds gs:List (DataW H)}{before:List MemPlace}(hs:s.fn H (ds++gs)={ results:=[.lit (.bool true)],args:=ds })
  (hW:DataW.Whole enc P fn.params.toList s.vars false W args.toList ds gs before)
  {avs:List AV}(hL:LR W (noX (P:=P)) noμ [] avs args.toList)(h:Γ .fn f avs []=some (.ret (.pv none (.bool true)),[]))(ht:TabR P W fun _=>True):
  Calls P f args W fun e W'=>∃v,e=.returned v/\s.post enc P fn false true false false W args v W':=by
 simp only[zox,Bool.and_eq_true,Bool.not_eq_true',beq_eq_false_iff_ne,Option.isSome_iff_exists] at hfn
 obtain⟨⟨⟨hp,hbr⟩,c,hb⟩,hn⟩:=hfn
 obtain⟨tb,hr,htb⟩:∃tb,fn.resultTypes= #[tb]/\P.underlying tb=some .bool:=by
  unfold zmd at hbr
  split at hbr
  ·rename_i t ht
   exact⟨t,Array.toList_inj.1 ht,zfY hbr⟩
  ·cases hbr
 have k:=hΓ.fn f avs [] _ _ h W noX noμ args.toList (znh W ht) hL
 refine(zij hf hb hn k).mono fun e W' he=> ?_
 cases e with
 |returned u=>
  obtain⟨μ',v,e1,_,hE,hA⟩:=he
  cases e1
  cases hA with|pv _ _ _ _ hA=>
  cases hA
  have hB:=zmc hE
  refine⟨_,rfl,ds,gs,before,[],before,[],hW,?_,?_,?_,zkE hB _,fun h=>by cases h⟩
  ·rw[hs,hr]
   simp only[Value.resultList]
   exact trodAll_mk1 (shut_bool htb true)
  ·rw[hs]
   have hlt:=hW.lt
   obtain⟨p,q,k1,k2,k3,_,_⟩:=hW
   rw[hv] at k2
   obtain⟨_,rfl⟩:=trodVars_none k2
   rw[List.append_nil] at k3
   subst k3
   refine zdO hl hB (fun t ht=> ?_) hlt k1
   have:=List.all_eq_true.1 hp t ht
   simp only[Bool.and_eq_true,decide_eq_true_eq] at this
   exact this
  ·rw[hs,hv]
   rfl
 |panicked ch=>obtain⟨_,_,_,e1,_⟩:=he;cases e1
 |outgrown=>exact he.elim
end Go.Am

/- The contract of slices.Insert, out of its three roads. -/
namespace Go.Am
variable{P:Program}
def zel(sh:Sh):zbg:=fun _ args hp=>match args with
 |[s,.pv _ (.int .i64 i),.tsl shx new]=>
  if shx=sh/\new≠[] then match s with
   | .sl s1 r ver off len=>
    if i=(len:Int) then(if len<=lim then match zck sh hp [.sl s1 r ver off len,.tsl shx new] with
     |some (v,hp')=>some (.ret v,hp')
     |none=>none else none)
    else match hp[r]? with
     |some (.arr s' es false)=>if s1=sh/\s'=sh/\ver=es.length/\off=0/\len=es.length/\0<=i/\i<len/\len+new.length<=lim then
       some (.ret (.sl sh r (len+new.length) 0 (len+new.length)),hp.set r (.arr sh (es.take i.toNat++new++es.drop i.toNat) false)) else none
     |_=>none
   | .tsl s1 es=>if i=(es.length:Int)/\es.length<=lim then match zck sh hp [.tsl s1 es,.tsl shx new] with
     |some (v,hp')=>some (.ret v,hp')
     |none=>none
    else none
   |_=>none
  else none
 |_=>none

structure InsRoads(P:Program)(f:FuncId)(t e:TypeId)(k:Nat):Prop where
 endr:∀(base:Option Addr) (n c vb voff m vc:Nat) (w w':World) (v':Value),0<m->n<=c->n<=lim->(Builtin.append_ #[t,t] t #[.slice base n c,.slice (some ⟨vb,voff,none⟩) m vc]).run P w=.ok v' w'->
  Calls P f #[.slice base n c,.int .i64 n,.slice (some ⟨vb,voff,none⟩) m vc] w fun E W=>E=.returned v'/\W=w'
 shift:∀(b n c i vb voff m vc:Nat) (cur:Array Value) (t0:TypeId) (vs:List Value) (w:World),i<n->0<m->n+m<=c->n+m<=lim->vb≠b->w.heap[b]? =some (.cells cur t0 (0,0))->cur.size=c*k->vs.length=m*k->
  (∀v∈(cur.toList.drop (i*k)).take ((n - i)*k),v.oneCell'=true)->(∀j v,vs[j]? =some v->w.cell? ⟨vb,voff+j,none⟩=some v)->(∀v∈vs,v.oneCell'=true)->∀(tA:TypeId) (kA:Nat),w.shape? vb=some (tA,kA)->kA≠0->
  ∃cur2:Array Value,cur2.toList=cur.toList.take (i*k)++vs++(cur.toList.drop (i*k)).take ((n - i)*k)++cur.toList.drop ((n+m)*k)/\
  Calls P f #[.slice (some ⟨b,0,none⟩) n c,.int .i64 i,.slice (some ⟨vb,voff,none⟩) m vc] w fun E w'=>E=.returned (.slice (some ⟨b,0,none⟩) (n+m) c)/\∃cur1,w'=(w.drew.setRow b cur1).setRow b cur2
 grow:∀(b n c i vb voff m vc:Nat) (cur:Array Value) (t0:TypeId) (vs:List Value) (w:World),i<n->0<m->n<=c->c<n+m->n+m<=lim->vb<w.heap.size->w.heap[b]? =some (.cells cur t0 (0,0))->cur.size=c*k->vs.length=m*k->
  (∀v∈(cur.toList.drop (i*k)).take ((n - i)*k),v.oneCell'=true)->(∀j v,vs[j]? =some v->w.cell? ⟨vb,voff+j,none⟩=some v)->(∀v∈vs,v.oneCell'=true)->
  ∃(row:Array Value) (G:Nat),n+m<=G/\row.size=G*k/\row.toList.take ((n+m)*k)=cur.toList.take (i*k)++vs++(cur.toList.drop (i*k)).take ((n - i)*k)/\
  Calls P f #[.slice (some ⟨b,0,none⟩) n c,.int .i64 i,.slice (some ⟨vb,voff,none⟩) m vc] w fun E w'=>
   E=.returned (.slice (some ⟨w.heap.size,0,none⟩) (n+m) G)/\w'.heap[w.heap.size]? =some (.cells row e (0,0))/\w'.heap.size=w.heap.size+1/\(∀x,x<w.heap.size->w'.heap[x]? =w.heap[x]?)/\w'.os=w.os/\w'.tape=w.tape/\w'.output=w.output

theorem zgk{b:Nat}{t e:TypeId}{x y:Value}{s q v:AV}{hp hp':Heap}{w:World}{X:Xc P}{μ:Nat->Option Nat}(ht:P.underlying t=some (.slice e))(hok:okT P e=true)(hz:zay P e=true)(hby:zaB P e=true)(hH:HR w X μ hp)
  (h1:AR w X μ hp s x)(h2:AR w X μ hp q y)(h:zck (shOf P e) hp [s,q]=some (v,hp')):
  ∃v' w' μ',(Builtin.append_ #[t,t] t #[x,y]).run P w=.ok v' w'/\AR w' X μ' hp' v v'/\HR w' X μ' hp'/\Ext b X μ hp w μ' hp' w':=by
 obtain⟨n,v',w',μ',hr,hn,k1,k2,k3⟩:=zez (b:=b) (ty:=t) ht hok hz hby hH (.cons h1 (.cons h2 .nil)) h
 simp only[Sem.run_bind] at hr
 cases hq:(Builtin.append_ #[t,t] t #[x,y]).run P w with
 |ok u w2=>
  rw[hq] at hr
  simp only[Result.andThen_ok,Sem.run_pure] at hr
  cases hr
  rcases hn with hn|⟨hn,_⟩
  ·cases hn
   exact⟨_,_,_,rfl,k1,k2,k3⟩
  ·cases hn
 |_=>rw[hq] at hr;simp at hr
theorem zcD(W:World)(x:Nat)(r:Array Value):(W.setRow x r).heap.size=W.heap.size:=by simp[World.setRow]
theorem zjU{w w':World}{X:Xc P}{μ:Nat->Option Nat}{hp:Heap}{sh:Sh}{rr b nb i G:Nat}{es new:List PV}{vals nvals:List Value}{cs row:Array Value}{t0 t1:TypeId}
  (hH:HR w X μ hp)(ho:hp[rr]? =some (.arr sh es false))(hpos:0<sh.size)(hE:ER w (Im X μ hp) sh es vals)(hN:ER w (Im X μ hp) sh new nvals)(hmu:μ rr=some b)(hb:w.heap[b]? =some (.cells cs t0 (0,0)))
  (hcells:cellsOf vals=cs.toList.take (es.length*sh.size))(hi:i<=es.length)(hm:0<new.length)(hnb:nb=b\/nb=w.heap.size)(hrow:w'.heap[nb]? =some (.cells row t1 (0,0)))
  (hoth:∀x,x<w.heap.size->x≠nb->w'.heap[x]? =w.heap[x]?)(hsz:w.heap.size<=w'.heap.size)(hos:w'.os=w.os)(htp:w'.tape=w.tape)(hout:w'.output=w.output)
  (hsame:nb=b->row.size=cs.size/\t1=t0)(hrs:row.size=G*sh.size)(hG:es.length+new.length<=G)
  (htk:row.toList.take ((es.length+new.length)*sh.size)=cs.toList.take (i*sh.size)++cellsOf nvals++(cs.toList.drop (i*sh.size)).take ((es.length - i)*sh.size)):
  zaV hp.length w X μ hp (.ret (.sl sh rr (es.length+new.length) 0 (es.length+new.length))) (hp.set rr (.arr sh (es.take i++new++es.drop i) false)) (.returned (.slice (some ⟨nb,0,none⟩) (es.length+new.length) G)) w':=by
 have hrl:=(List.getElem?_eq_some_iff.1 ho).1
 have hbN:=zam hb
 have hel:(es.take i++new++es.drop i).length=es.length+new.length:=by simp;omega
 have hnbl:=zam hrow
 have E:∀b0,Ext b0 X μ hp w (upd μ rr (some nb)) (hp.set rr (.arr sh (es.take i++new++es.drop i) false)) w':=fun b0=>
  Ext.setArr ho (by rw[hel];omega) (fun h=>by cases h) (fun h=>by rw[hel] at h;omega) (fun k hk=>by
   cases hk
   rcases hnb with h|h
   ·exact .inl (by rw[h];exact hmu)
   ·exact .inr (by omega)) hos htp hout hsz (fun k hk hne=>hoth k hk (fun e=>by
    rcases hnb with h|h
    ·exact hne rfl (by rw[e,h];exact hmu)
    ·omega)) (fun k cs' t fr hk=>by
    by_cases e:k=nb
    ·rcases hnb with h|h
     ·obtain⟨h1,h2⟩:=hsame h
      have:k=b:=e.trans h
      subst this
      rw[hb] at hk
      cases hk
      exact⟨row,by rw[e,hrow,h2],h1⟩
     ·have:=zam hk
      omega
    ·exact⟨cs',by rw[hoth k (zam hk) e];exact hk,rfl⟩)
 have hER:=((hE.take i).append hN).append (hE.drop i)
 have H:=hH.setArr ho (E 0) (fun k hk hne=>hoth k hk (fun e=>by
   rcases hnb with h|h
   ·exact hne (by rw[e,h];exact hmu)
   ·omega)) (fun k hk=>by
   cases hk
   refine⟨?_,hnbl⟩
   rcases hnb with h|h
   ·exact .inl (by rw[h];exact hmu)
   ·exact .inr (by omega)) (.inr ⟨nb,row,t1,vals.take i++nvals++vals.drop i,rfl,hrow,hER.1,(ER.ext (E 0) hER).2,?_⟩)
 ·refine⟨_,_,rfl,H,E _,?_⟩
  refine .sl _ _ _ _ _ _ _ (es.take i++new++es.drop i) false (List.getElem?_set_self hrl) (by omega) ⟨hG,by omega⟩ (fun _=>rfl) fun _=>⟨by omega,.inr ⟨nb,row,t1,zac _ _ _,hrow,by rw[Nat.zero_add];exact hrs.symm,fun _=>by simp⟩⟩
 ·rw[hel,htk,zaf,zaf,hE.cells_take i hi,hE.cells_drop i hi,hcells]
  have e1:(cs.toList.take (es.length*sh.size)).take (i*sh.size)=cs.toList.take (i*sh.size):=by
   rw[List.take_take]
   congr 1
   exact Nat.min_eq_left (Nat.mul_le_mul hi (Nat.le_refl _))
  have e2:(cs.toList.take (es.length*sh.size)).drop (i*sh.size)=(cs.toList.drop (i*sh.size)).take ((es.length - i)*sh.size):=by
   rw[List.drop_take,Nat.sub_mul]
  rw[e1,e2]
theorem zgl{f:FuncId}{fn:Func}{c:Code}{t e:TypeId}(R:InsRoads P f t e (shOf P e).size)(hf:P.funcs[f]? =some fn)(hb:fn.body=some c)(hn:fn.name≠ "runtime.NumGoroutine")(ht:P.underlying t=some (.slice e))(hok:okT P e=true)(hz:zay P e=true)(hby:zaB P e=true):
  zdf P f (zel (shOf P e)):=by
 intro args hp r hp' h w X μ vs hH hl
 have hlift:∀{K:Ending->World->Prop},Calls P f vs.toArray w K->Called P f vs.toArray w K:=fun h=>.inl ⟨zaO hf hb hn,h⟩
 unfold zel at h
 split at h
 ·rename_i s sh0 i shx new
  split at h
  ·rename_i hc
   obtain⟨rfl,hnew⟩:=hc
   have hm:0<new.length:=List.length_pos_iff.2 hnew
   cases hl with|cons h1 hl=>
   cases hl with|cons h2 hl=>
   cases hl with|cons h3 hl=>
   cases hl
   rename_i vs1 vs2 vs3
   cases h2 with|pv _ _ _ _ h2=>
   cases h2
   have h3':=h3
   cases h3 with|tsl _ _ a hq=>
   have hq':=hq
   cases hq with
   |nilsl=>exact(hnew rfl).elim
   |sl _ _ vb vo vn vcs vt vfr vvals hvl hvI hvb hv1 hv2 hvc hvn=>
   split at h
   ·rename_i s1 rr ver off len
    split at h
    ·rename_i hi
     split at h
     ·rename_i hlen
      split at h
      ·rename_i v hp1 hap
       cases h
       obtain⟨v',w',μ',g1,g2,g3,g4⟩:=zgk (b:=hp.length) ht hok hz hby hH h1 h3' hap
       cases h1 with|sl _ _ _ _ _ ba cap es fz ho hv hlc ha hcc=>
       subst hi
       refine hlift ((R.endr ba len cap vb vo new.length new.length w w' v' hm hlc.1 hlen g1).mono fun E W hE=> ?_)
       obtain⟨rfl,rfl⟩:=hE
       exact⟨μ',_,rfl,g3,g4,g2⟩
      ·cases h
     ·cases h
    ·rename_i hi
     split at h
     ·rename_i s' es ho
      split at h
      ·rename_i hcc
       obtain⟨rfl,rfl,rfl,rfl,rfl,hi0,hil,hlim⟩:=hcc
       cases h
       obtain⟨j,rfl⟩:∃j:Nat,i=(j:Int):=⟨i.toNat,by omega⟩
       have hjl:j<es.length:=by omega
       obtain⟨hpos,harr⟩:=hH.arr rr _ es false ho
       have hN:ER w (Im X μ hp) (shOf P e) new vvals:=⟨hvl,fun k p v hp hv=>⟨hv1 k p v hp hv,hv2 k p v hp hv⟩⟩
       have hNl:=hN.length
       have hNc:=zbM hvb hvc
       cases h1 with|sl _ _ _ _ _ ba cap es1 fz1 ho1 hv1' hlc ha hcc=>
       rw[ho] at ho1
       cases ho1
       obtain⟨_,c2⟩:=hcc rfl
       rcases harr with⟨h1,h2⟩|⟨b,cs,t0,vals,h1,h2,h3,h4,h5⟩
       ·rw[h2] at hjl;simp at hjl
       have hE:ER w (Im X μ hp) (shOf P e) es vals:=⟨h3,h4⟩
       have hEl:=hE.length
       rcases c2 with⟨c3,_⟩|⟨b',cs',t',c3,c4,c5,c6⟩
       ·rw[h1] at c3;cases c3
       rw[h1] at c3
       cases c3
       rw[h2] at c4
       cases c4
       rw[Nat.zero_add] at c5
       have hba:=c6 (by omega)
       rw[Nat.zero_mul] at hba
       subst hba
       have hlive:live hp rr=true:=by simp[live,ho]
       have hne:vb≠b:=fun e=>hvI.2 rr hlive (by rw[e];exact h1)
       have hvcell:∀(k:Nat) v,(cellsOf vvals)[k]? =some v->w.cell? ⟨vb,vo+k,none⟩=some v:=fun k v hk=>by
        have:=hNc k v hk
        have ha:(⟨vb,vo,none⟩:Addr).add k=⟨vb,vo+k,none⟩:=by unfold Addr.add;split <;> simp_all
        rwa [ha] at this
       have hoc:∀v∈(cs.toList.drop (j*(shOf P e).size)).take ((es.length - j)*(shOf P e).size),v.oneCell'=true:=fun v hv=>by
        have e2:(cs.toList.take (es.length*(shOf P e).size)).drop (j*(shOf P e).size)=(cs.toList.drop (j*(shOf P e).size)).take ((es.length - j)*(shOf P e).size):=by rw[List.drop_take,Nat.sub_mul]
        rw[<-e2,<-h5] at hv
        exact hE.flat v (List.mem_of_mem_drop hv)
       simp only[Int.toNat_natCast]
       by_cases hroom:es.length+new.length<=cap
       ·have hkA:vcs.size≠0:=by
         intro h0
         have:=congrArg List.length hvc
         have h00:vcs.toList=[]:=List.length_eq_zero_iff.1 (by simpa using h0)
         rw[hNl,h00] at this
         simp at this
         have:=Nat.mul_pos hm hpos
         omega
        obtain⟨cur2,hc2,hcall⟩:=R.shift b es.length cap j vb vo new.length new.length cs t0 (cellsOf vvals) w hjl hm hroom hlim hne h2 c5.symm hNl hoc hvcell hN.flat vt vcs.size (by simp[World.shape?,hvb]) hkA
        refine hlift (hcall.mono fun E W hE'=> ?_)
        obtain⟨rfl,cur1,rfl⟩:=hE'
        have hrow1:(w.drew.setRow b cur1).heap[b]? =some (.cells cur1 t0 (0,0)):=setRow_heap w.drew b cs cur1 t0 _ h2
        have hrow2:=setRow_heap (w.drew.setRow b cur1) b cur1 cur2 t0 _ hrow1
        have hc2l:cur2.size=cs.size:=by
         have:=congrArg List.length hc2
         have hb1:j*(shOf P e).size<=es.length*(shOf P e).size:=Nat.mul_le_mul (by omega) (Nat.le_refl _)
         have hb2:(es.length+new.length)*(shOf P e).size<=cap*(shOf P e).size:=Nat.mul_le_mul hroom (Nat.le_refl _)
         simp only[List.length_append,List.length_take,List.length_drop,Array.length_toList,hNl,Nat.sub_mul,Nat.add_mul] at this hb2
         omega
        refine zjU hH ho hpos hE hN h1 h2 h5 (by omega) hm (.inl rfl) hrow2 (fun x _ hx=> ?_) (by rw[zcD,zcD];exact Nat.le_of_eq rfl) rfl rfl rfl (fun _=>⟨hc2l,rfl⟩) (by rw[hc2l];exact c5.symm) hroom ?_
        ·simp[World.setRow,Array.getElem?_modify,Ne.symm hx]
         rfl
        ·rw[hc2]
         exact List.take_left' (by
          have hb1:j*(shOf P e).size<=es.length*(shOf P e).size:=Nat.mul_le_mul (by omega) (Nat.le_refl _)
          have hb2:(es.length+new.length)*(shOf P e).size<=cap*(shOf P e).size:=Nat.mul_le_mul hroom (Nat.le_refl _)
          simp only[List.length_append,List.length_take,List.length_drop,Array.length_toList,hNl,Nat.sub_mul,Nat.add_mul] at hb2 ⊢
          omega)
       ·obtain⟨row,G,g1,g2,g3,hcall⟩:=R.grow b es.length cap j vb vo new.length new.length cs t0 (cellsOf vvals) w hjl hm hlc.1 (by omega) hlim (zam hvb) h2 c5.symm hNl hoc hvcell hN.flat
        refine hlift (hcall.mono fun E W hE'=> ?_)
        obtain⟨rfl,k1,k2,k3,k4,k5,k6⟩:=hE'
        exact zjU hH ho hpos hE hN h1 h2 h5 (by omega) hm (.inr rfl) k1 (fun x hx _=>k3 x hx) (by omega) k4 k5 k6 (fun e=>by have:=zam h2;omega) g2 g1 g3
      ·cases h
     ·cases h
   ·rename_i s1 es
    split at h
    ·rename_i hi
     obtain⟨hi,hlen⟩:=hi
     split at h
     ·rename_i v hp1 hap
      cases h
      obtain⟨v',w',μ',g1,g2,g3,g4⟩:=zgk (b:=hp.length) ht hok hz hby hH h1 h3' hap
      cases h1 with|tsl _ _ a1 hq1=>
      subst hi
      refine hlift ((R.endr a1 es.length es.length vb vo new.length new.length w w' v' hm (Nat.le_refl _) hlen g1).mono fun E W hE=> ?_)
      obtain⟨rfl,rfl⟩:=hE
      exact⟨μ',_,rfl,g3,g4,g2⟩
     ·cases h
    ·cases h
   ·cases h
  ·cases h
 ·cases h
end Go.Am

/- slices.Insert at arrays of the run's own that hold what shows references. -/
namespace Go.Am
variable{P:Program}
def zeX(sh:Sh):zbg:=fun _ args hp=>match args with
 |[.slv s1 r ver off len,.pv _ (.int .i64 i),.slv sx rx verx offx lenx]=>match hp[r]?,hp[rx]? with
  |some (.arv s' es),some (.arv shx new)=>if(s1=sh/\s'=sh/\shx=sh)/\(ver=es.length/\off=0/\len=es.length)/\(verx=new.length/\offx=0/\lenx=new.length)/\r≠rx/\new≠[]/\(0<=i/\i<=len)/\len+new.length<=lim/\zju hp.length r es new=true then
    some (.ret (.slv sh r (len+new.length) 0 (len+new.length)),hp.set r (.arv sh (es.take i.toNat++new++es.drop i.toNat))) else none
  |_,_=>none
 |_=>none
theorem zjm{f:FuncId}{fn:Func}{c:Code}{t e:TypeId}(R:InsRoads P f t e (shOf P e).size)(hf:P.funcs[f]? =some fn)(hb:fn.body=some c)(hn:fn.name≠ "runtime.NumGoroutine")(ht:P.underlying t=some (.slice e))(hok:okT P e=true)(hz:zay P e=true)(hby:zaB P e=true):
  zdf P f (zeX (shOf P e)):=by
 intro args hp r hp' h w X μ vs hH hl
 have hlift:∀{K:Ending->World->Prop},Calls P f vs.toArray w K->Called P f vs.toArray w K:=fun h=>.inl ⟨zaO hf hb hn,h⟩
 unfold zeX at h
 split at h
 ·rename_i s1 rr ver off len sh0 i sx rx verx offx lenx
  split at h
  ·rename_i s' es shx new ho hox
   split at h
   ·rename_i hcond
    obtain⟨⟨rfl,rfl,rfl⟩,⟨rfl,rfl,rfl⟩,⟨rfl,rfl,rfl⟩,hne,hnew,⟨hi0,hil⟩,hlim,hrefs⟩:=hcond
    cases h
    have hm:0<new.length:=List.length_pos_iff.2 hnew
    cases hl with|cons h1 hl=>
    cases hl with|cons h2 hl=>
    cases hl with|cons h3 hl=>
    cases hl
    rename_i vs1 vs2 vs3
    cases h2 with|pv _ _ _ _ h2=>
    cases h2
    have h1':=h1
    have h3':=h3
    have hrl:=(List.getElem?_eq_some_iff.1 ho).1
    have hrx:=(List.getElem?_eq_some_iff.1 hox).1
    obtain⟨hpos,b,cs,t0,vals,g1,g2,g3,g4,g5⟩:=hH.arv rr _ es ho
    obtain⟨_,vb,vcs,vt,nvals,q1,q2,q3,q4,q5⟩:=hH.arv rx _ new hox
    have hE:EV w X μ hp (shOf P e) es vals:=⟨g3,g4⟩
    have hN:EV w X μ hp (shOf P e) new nvals:=⟨q3,q4⟩
    have hEl:=hE.length
    have hNl:=hN.length
    have hvb:vb≠b:=fun e=>hne (hH.inj rr rx b hrl hrx g1 (by rw[q1,e]))
    cases h1 with|slv _ _ _ _ _ base cap n ho1 hv1 hlc ha hcc=>
    rw[ho] at ho1
    simp only[zbD,Option.some.injEq,Prod.mk.injEq,true_and] at ho1
    subst ho1
    obtain⟨_,b',cs',t',c3,c4,c5,c6⟩:=hcc rfl
    rw[g1] at c3
    cases c3
    rw[g2] at c4
    cases c4
    rw[Nat.zero_add] at c5
    cases h3 with|slv _ _ _ _ _ vbase vcap vn ho3 hv3 hlc3 ha3 hcc3=>
    rw[hox] at ho3
    simp only[zbD,Option.some.injEq,Prod.mk.injEq] at ho3
    obtain⟨rfl,rfl⟩:=ho3
    obtain⟨_,vb',vcs',vt',d3,d4,d5,d6⟩:=hcc3 rfl
    rw[q1] at d3
    cases d3
    rw[q2] at d4
    cases d4
    have hvb0:=d6 (by have:=hlc3.1;omega)
    rw[Nat.zero_mul] at hvb0
    subst hvb0
    obtain⟨j,rfl⟩:∃j:Nat,i=(j:Int):=⟨i.toNat,by omega⟩
    simp only[Int.toNat_natCast]
    have hqn:rr<hp.length->∀q∈AV.refsIn.gol new,q∈AV.refsIn.gol es:=zga hrefs
    have hqq:rr<hp.length->∀q∈AV.refsIn.gol (es.take j++new++es.drop j),q∈AV.refsIn.gol es:=by
     intro hlt q hq'
     rcases(zbH _ _ _).1 hq' with h|h
     ·rcases(zbH _ _ _).1 h with h|h
      ·exact zd6 (fun x hx=>List.mem_of_mem_take hx) h
      ·exact hqn hlt q h
     ·exact zd6 (fun x hx=>List.mem_of_mem_drop hx) h
    by_cases hjl:j=es.length
    ·subst hjl
     have hcells:new≠[]->∃ad,some (⟨vb,0,none⟩:Addr)=some ad/\∀(k:Nat) (u:Value),(cellsOf nvals)[k]? =some u->w.cell? (ad.add k)=some u:=fun _=>⟨_,rfl,zbM (n:=new.length*(shOf P e).size) q2 (by rw[q5,List.drop_zero])⟩
     obtain⟨v',w',μ',a1,a2,a3,a4⟩:=zfm (b:=hp.length) (ty:=t) (c:=vcap) ht hok hz hby hH ho h1' hN hcells hlim hqn
     have e1:es.take es.length++new++es.drop (es.length+new.length)=es.take es.length++new++es.drop es.length:=by rw[List.drop_of_length_le (by omega),List.drop_length]
     have e2:(es.take es.length++new++es.drop es.length).length=es.length+new.length:=by simp
     rw[e1] at a2 a3 a4
     rw[e2] at a4
     refine hlift ((R.endr base es.length cap vb 0 new.length vcap w w' v' hm hlc.1 (by omega) a1).mono fun E W hE'=> ?_)
     obtain⟨rfl,rfl⟩:=hE'
     exact⟨μ',_,rfl,a2,a3,a4⟩
    ·have hjlt:j<es.length:=by omega
     have hba:=c6 (by have:=hlc.1;omega)
     rw[Nat.zero_mul] at hba
     subst hba
     have hEV:=((hE.take j).append hN).append (hE.drop j)
     have hel:(es.take j++new++es.drop j).length=es.length+new.length:=by simp;omega
     have hcl:cs.toList.length=cs.size:=Array.length_toList
     have hvcell:∀(k:Nat) v,(cellsOf nvals)[k]? =some v->w.cell? ⟨vb,0+k,none⟩=some v:=fun k v hk=>by
      have:=zbM (o:=0) (n:=new.length*(shOf P e).size) q2 (vals:=nvals) (by rw[q5,List.drop_zero]) k v hk
      have ha:(⟨vb,0,none⟩:Addr).add k=⟨vb,0+k,none⟩:=by unfold Addr.add;split <;> simp_all
      rwa [ha] at this
     have hdt:(cs.toList.take (es.length*(shOf P e).size)).drop (j*(shOf P e).size)=(cs.toList.drop (j*(shOf P e).size)).take ((es.length - j)*(shOf P e).size):=by rw[List.drop_take,Nat.sub_mul]
     have hoc:∀v∈(cs.toList.drop (j*(shOf P e).size)).take ((es.length - j)*(shOf P e).size),v.oneCell'=true:=fun v hv=>by
      rw[<-hdt,<-g5] at hv
      exact hE.flat v (List.mem_of_mem_drop hv)
     have hcc':cellsOf (vals.take j++nvals++vals.drop j)=cs.toList.take (j*(shOf P e).size)++cellsOf nvals++(cs.toList.drop (j*(shOf P e).size)).take ((es.length - j)*(shOf P e).size):=by
      rw[zaf,zaf,hE.cells_take j (by omega),hE.cells_drop j (by omega),g5,hdt,List.take_take,Nat.min_eq_left (Nat.mul_le_mul (by omega) (Nat.le_refl _))]
     by_cases hroom:es.length+new.length<=cap
     ·have hkA:vcs.size≠0:=by
       intro h0
       have:=congrArg List.length q5
       have h00:vcs.toList=[]:=List.length_eq_zero_iff.1 (by simpa using h0)
       rw[hNl,h00] at this
       simp at this
       have:=Nat.mul_pos hm hpos
       omega
      obtain⟨cur2,hc2,hcall⟩:=R.shift b es.length cap j vb 0 new.length vcap cs t0 (cellsOf nvals) w hjlt hm hroom hlim hvb g2 c5.symm hNl hoc hvcell hN.flat vt vcs.size (by simp[World.shape?,q2]) hkA
      refine hlift (hcall.mono fun E W hE'=> ?_)
      obtain⟨rfl,cur1,rfl⟩:=hE'
      have hrow1:(w.drew.setRow b cur1).heap[b]? =some (.cells cur1 t0 (0,0)):=setRow_heap w.drew b cs cur1 t0 _ g2
      have hrow2:=setRow_heap (w.drew.setRow b cur1) b cur1 cur2 t0 _ hrow1
      have hb1:j*(shOf P e).size<=es.length*(shOf P e).size:=Nat.mul_le_mul (by omega) (Nat.le_refl _)
      have hb2:(es.length+new.length)*(shOf P e).size<=cap*(shOf P e).size:=Nat.mul_le_mul hroom (Nat.le_refl _)
      have hc2l:cur2.size=cs.size:=by
       have:=congrArg List.length hc2
       simp only[List.length_append,List.length_take,List.length_drop,Array.length_toList,hNl,Nat.sub_mul,Nat.add_mul] at this hb2
       omega
      have hoth:∀x,x≠b->((w.drew.setRow b cur1).setRow b cur2).heap[x]? =w.heap[x]? :=fun x hx=>by
       simp[World.setRow,Array.getElem?_modify,Ne.symm hx]
       rfl
      obtain⟨k1,k2,k3⟩:=zfl hp.length (w':=(w.drew.setRow b cur1).setRow b cur2) (row:=cur2) (nb:=b) (cap:=cap) (t:=t0) hH ho (by rw[hel];omega) hqq hEV (.inl g1) hrow2 (fun k _ hk=>hoth k fun e=>hk (by rw[e];exact g1)) (.inl (by have:=zam g2;omega)) (fun cs0 t1 fr hk=>by
        rw[g2] at hk
        cases hk
        exact⟨rfl,rfl,hc2l⟩) (by rw[zcD,zcD];exact Nat.le_of_eq rfl) rfl rfl rfl (by
        rw[hcc',hel,hc2]
        refine(List.take_left' ?_).symm
        simp only[List.length_append,List.length_take,List.length_drop,Array.length_toList,hNl,Nat.sub_mul,Nat.add_mul] at hb2 ⊢
        omega) (by rw[hc2l];exact c5) (es.length+new.length) (by rw[hel];exact Nat.le_refl _) hroom (by rw[hel];exact hroom) (some ⟨b,0,none⟩) rfl
      rw[hel] at k3
      exact⟨_,_,rfl,k1,k2,k3⟩
     ·obtain⟨row,G,a1,a2,a3,hcall⟩:=R.grow b es.length cap j vb 0 new.length vcap cs t0 (cellsOf nvals) w hjlt hm hlc.1 (by omega) hlim (zam q2) g2 c5.symm hNl hoc hvcell hN.flat
      refine hlift (hcall.mono fun E W hE'=> ?_)
      obtain⟨rfl,r1,r2,r3,r4,r5,r6⟩:=hE'
      obtain⟨k1,k2,k3⟩:=zfl hp.length (w':=W) (row:=row) (nb:=w.heap.size) (cap:=G) (t:=e) hH ho (by rw[hel];omega) hqq hEV (.inr ⟨rfl,by rw[hel];omega⟩) r1 (fun k hk _=>r3 k hk) (.inr r3) (fun cs0 t1 fr hk=>by have:=zam hk;omega) (by omega) r4 r5 r6 (by rw[hcc',hel];exact a3.symm) a2.symm (es.length+new.length) (by rw[hel];exact Nat.le_refl _) a1 (by rw[hel];exact a1) (some ⟨w.heap.size,0,none⟩) rfl
      rw[hel] at k3
      exact⟨_,_,rfl,k1,k2,k3⟩
   ·cases h
  ·cases h
 ·cases h
end Go.Am

/- A function that writes out a map with keys of several parts: its entries come in any order. -/
namespace Go.Am
variable{P:Program} {w:World} {X:Xc P} {μ:Nat->Option Nat} {hp:Heap}

def zfF(sh:Sh)(es:List (PV × PV)):zbg:=fun _ args hp=>match args with
 |[]=>some (.ret (.map hp.length),hp++[.map sh es])
 |_=>none

theorem zeJ{α β:Type}{f:α->β}:∀(ys:List β) (xs:List α),(xs.map f).Perm ys->∃l:List α,l.Perm xs/\l.map f=ys
 |[],xs,h=>⟨[],by have:=h.eq_nil;simp at this;subst this;exact .refl _,rfl⟩
 |y::ys,xs,h=>by
  obtain⟨x,hx,hy⟩:=List.mem_map.1 (h.mem_iff.2 (List.mem_cons_self (a:=y) (l:=ys)))
  obtain⟨s,t,rfl⟩:=List.append_of_mem hx
  have h2:((s++t).map f).Perm ys:=by
   have e:((s++x::t).map f).Perm (y::(s++t).map f):=by
    rw[<-hy,<-List.map_cons]
    exact List.Perm.map f List.perm_middle
   exact(e.symm.trans h).cons_inv
  obtain⟨l,l1,l2⟩:=zeJ ys (s++t) h2
  exact⟨x::l,(l1.cons x).trans List.perm_middle.symm,by rw[List.map_cons,l2,hy]⟩

theorem zkF{tm tk te:TypeId}{ds:List Nat}(ht:P.underlying tm=some (.map tk te))(hk:zco P tk=some ds){b:Nat}{ents:Array MapEntry}{clock:Nat}(hb:w.heap[b]? =some (.map ents clock)){k:List (Sh × PV)}{kv fv:Value}(h1:PR w (fun _=>True) (.agg k) kv)
  (hkk:zag ds k k=some true)(hne:∀e∈ents.toList,∃k',PR w (fun _=>True) (.agg k') e.key/\zag ds k k'=some false):
  (Instr.mapUpdate tm (.map (some b)) kv fv).run P w=.ok () { w with heap:=w.heap.setIfInBounds b (.map (ents.push { key:=kv,val:=fv,born:=clock }) (clock+1)) }:=by
 obtain⟨q,q1,q2⟩:=zd4 (P:=P) (w:=w) (I:=fun _=>True) (t:=tk) (sh:=none) (kv:=kv) (r:=none) ents.toList 0 fun e he=>by
  obtain⟨k',g1,g2⟩:=hne e he
  exact⟨false,zbd hk h1 g1 g2,fun h=>by cases h⟩
 have hq:q=none:=by
  rcases q2 with⟨q2,_⟩|⟨_,_,_,_,h,_⟩
  ·exact q2
  ·cases h
 subst hq
 have hts:∃fs,P.underlying tk=some (.struct fs):=by
  unfold zco at hk
  split at hk
  ·exact⟨_,by assumption⟩
  ·cases hk
 obtain⟨fs,hts⟩:=hts
 have hrun:(Instr.findKey tk kv ents.toList).run P w=.ok none w:=by
  unfold Instr.findKey
  simp only[Sem.run_bind,run_underlying hts,Result.andThen_ok]
  cases he:ents.toList with
  |nil=>simp[Instr.findNow]
  |cons x rest=>
   rw[he] at q1
   have:Instr.findNow (.struct fs) kv (x::rest) 0=none:=by
    unfold Instr.findNow
    have:Instr.sameNow (.struct fs) kv x.key=none:=by
     unfold Instr.sameNow
     cases kv <;> cases x.key <;> rfl
    rw[this]
   rw[this]
   exact q1
 simp[Instr.mapUpdate,run_underlying ht,zbp hb,zb8 _ hk h1 hkk,hrun,zd2 _ hb]

structure Lit(P:Program)(ops:Array Oper)(N nt t0 t1 t2:Nat)(tm tk:TypeId)(d:Nat->Nat)(s:Nat->List UInt8)(n:Nat->Int)(f:Nat->FuncId):Prop where
 sz:ops.size=2*N+3
 o0:∃o,ops[0]? =some o/\o.guard=none/\o.dst=some t1/\o.op=.makeMap tm none
 ob:∀e,e<N->∃o,ops[2*e+1]? =some o/\o.guard=none/\o.dst=some (d e)/\o.op=.build tk #[(0,.const (.string ⟨(s e).toArray⟩)),(1,.const (.int .i64 (n e)))]
 oi:∀e,e<N->∃o,ops[2*e+2]? =some o/\o.guard=none/\o.dst=none/\o.op=.insert tm (.tmp t1) (.tmp (d e)) (.func (f e))/\(∃x∈o.after,Region.binds .any x=true/\x.on=0)/\∃x∈o.after,Region.binds .any x=true/\x.on=2*e+1
 om:∃o,ops[2*N+1]? =some o/\o.guard=none/\o.dst=some t2/\o.op=.move (.tmp t1)/\∃x∈o.after,Region.binds .any x=true/\x.on=0
 oa:∃o,ops[2*N+2]? =some o/\o.guard=none/\o.dst=some t0/\o.op=.assign (.tmp t2)/\∃x∈o.after,Region.binds .any x=true/\x.on=2*N+1
 lt:t0<nt/\t1<nt/\t2<nt/\∀e,e<N->d e<nt
 ne:t0≠t1/\t0≠t2/\t1≠t2/\∀e,e<N->d e≠t0/\d e≠t1/\d e≠t2/\∀e',e'<N->e≠e'->d e≠d e'

abbrev kP(s:Nat->List UInt8)(n:Nat->Int)(e:Nat):List (Sh × PV):=[(none,.str (s e)),(none,.int .i64 (n e))]
abbrev kV(s:Nat->List UInt8)(n:Nat->Int)(e:Nat):Value:=.agg #[.string ⟨(s e).toArray⟩,.int .i64 (n e)]
abbrev fV(f:Nat->FuncId)(e:Nat):Value:=.func (.func (f e)) #[] #[]
theorem zfG(w:World)(I:Nat->Prop)(s:Nat->List UInt8)(n:Nat->Int)(e:Nat):PR w I (.agg (kP s n e)) (kV s n e):=
 .agg _ [.string ⟨(s e).toArray⟩,.int .i64 (n e)] rfl (fun i x v hx hv=>by
  match i,hx,hv with
  |0,hx,hv=>simp at hx hv;subst hx;subst hv;rfl
  |1,hx,hv=>simp at hx hv;subst hx;subst hv;rfl) (fun i x v hx hv=>by
  match i,hx,hv with
  |0,hx,hv=>simp at hx hv;subst hx;subst hv;exact .str _
  |1,hx,hv=>simp at hx hv;subst hx;subst hv;exact .int _ _)

structure LI(w0:World)(N nt t0 t1 t2:Nat)(d:Nat->Nat)(s:Nat->List UInt8)(n:Nat->Int)(f:Nat->FuncId)(L:Array Bool)(a:Act)(w:World):Prop where
 sz:L.size=2*N+3
 ds:a.defers=[]
 tz:a.tmps.size=nt
 m1:L.getD 0 false=true->a.tmps[t1]? =some (.map (some w0.heap.size))
 mb:∀e,e<N->L.getD (2*e+1) false=true->a.tmps[d e]? =some (kV s n e)
 m2:L.getD (2*N+1) false=true->a.tmps[t2]? =some (.map (some w0.heap.size))
 m0:L.getD (2*N+2) false=true->a.tmps[t0]? =some (.map (some w0.heap.size))
 pre:L.getD 0 false=false->w=w0/\∀e,e<N->L.getD (2*e+2) false=false
 post:L.getD 0 false=true->∃(ents:Array MapEntry) (clock:Nat),w={ w0 with heap:=w0.heap.push (.map ents clock) }/\(ents.toList.map fun e=>(e.key,e.val)).Nodup/\
  ∀x,x∈ents.toList.map (fun e=>(e.key,e.val))↔∃e,e<N/\L.getD (2*e+2) false=true/\x=(kV s n e,fV f e)

theorem zc8{o:Oper}{a:Act}{w':World}{nx:Next}{v:Value}{K:Act->World->Prop}{Q:Exit->Act->World->Prop}{ro:Option Nat}(hnd:∀c,o.op≠.defer c)(h:(execOp a.eval o).run P w=.ok nx w')(hv:nx=.value v\/(nx=.skip/\v=undef))(hK:K (a.put o.dst v) w'):o.wpIn (Fe ro) 0 P a w K Q:=by
 refine⟨fun _ _=>trivial,?_⟩
 rw[Oper.semAt_eq _ _ _ hnd,h]
 rcases hv with rfl|⟨rfl,rfl⟩
 ·exact hK
 ·exact hK

theorem zem{ops:Array Oper}{i:Nat}{o:Oper}{a:Act}{K:Act->World->Prop}{Q:Exit->Act->World->Prop}{ro:Option Nat}(ho:ops[i]? =some o)(hg:o.guard=none)(h:o.wpIn (Fe ro) 0 P a w K Q):wpOpIn (Fe ro) 0 P ops Q i K a w:=by
 unfold wpOpIn
 rw[ho]
 simp only[]
 rw[if_pos (by simp[Region.wanted,hg])]
 exact h
theorem zaL(a:Act)(t:Nat)(v:Value)(j:Nat)(ht:t<a.tmps.size):(a.put (some t) v).tmps[j]? =if j=t then some v else a.tmps[j]? :=by
 show(a.tmps.setIfInBounds t v)[j]? =_
 rw[Array.getElem?_setIfInBounds]
 by_cases h:t=j
 ·subst h;simp[ht]
 ·rw[if_neg h,if_neg (Ne.symm h)]
theorem zdP{a:Act}{t:Nat}{v:Value}(h:a.tmps[t]? =some v):a.eval (.tmp t)=v:=by
 show a.tmps.getD t undef=v
 rw[Array.getD_eq_getD_getElem?,h]
 rfl
theorem zha{L:Array Bool}{i j:Nat}(h:i<L.size):(L.setIfInBounds i true).getD j false=if j=i then true else L.getD j false:=by
 rw[Array.getD_eq_getD_getElem?,Array.getD_eq_getD_getElem?,Array.getElem?_setIfInBounds]
 by_cases hx:i=j
 ·subst hx;simp[h]
 ·rw[if_neg hx,if_neg (Ne.symm hx)]

section
variable{ops:Array Oper} {N nt t0 t1 t2:Nat} {tm tk te:TypeId} {d:Nat->Nat} {s:Nat->List UInt8} {n:Nat->Int} {f:Nat->FuncId} {w0:World} {ro:Option Nat} {g:FuncId}

theorem znj{ds:List Nat}(T:Lit P ops N nt t0 t1 t2 tm tk d s n f)(ht:P.underlying tm=some (.map tk te))(hk:zco P tk=some ds)(hkk:∀e,e<N->zag ds (kP s n e) (kP s n e)=some true)(hkn:∀e e',e<N->e'<N->e≠e'->zag ds (kP s n e) (kP s n e')=some false)
  (hbuild:∀(w:World) e,e<N->(Instr.build tk #[(0,.string ⟨(s e).toArray⟩),(1,.int .i64 (n e))]).run P w=.ok (kV s n e) w){Q:Exit->Act->World->Prop}{L:Array Bool}{a:Act}{i:Nat}(D:LI w0 N nt t0 t1 t2 d s n f L a w)(hi:i∈Region.ready .any ops L):
  wpOpIn (Fe ro) 0 P ops Q i (fun a' w'=>LI w0 N nt t0 t1 t2 d s n f (L.setIfInBounds i true) a' w') a w:=by
 obtain⟨o',ho',hL,haft⟩:=mem_ready.1 hi
 have hil:i<2*N+3:=by rw[<-T.sz];exact(Array.getElem?_eq_some_iff.1 ho').1
 have hiL:i<L.size:=by rw[D.sz];exact hil
 have hLf:L.getD i false=false:=by rw[zcS hiL];exact hL
 have before:∀{o:Oper} {j:Nat},ops[i]? =some o->(∃x∈o.after,Region.binds .any x=true/\x.on=j)->L.getD j false=true:=by
  intro o j ho ⟨x,hx,hb,hj⟩
  rw[ho'] at ho
  cases ho
  have:=haft x hx
  rw[hb,hj] at this
  simpa using this
 have sz':(L.setIfInBounds i true).size=2*N+3:=by simp[D.sz]
 have gp:∀j,(L.setIfInBounds i true).getD j false=if j=i then true else L.getD j false:=fun j=>zha hiL
 obtain⟨l0,l1,l2,ld⟩:=T.lt
 obtain⟨n01,n02,n12,nd⟩:=T.ne
 have cases_:i=0\/(∃e,e<N/\i=2*e+1)\/(∃e,e<N/\i=2*e+2)\/i=2*N+1\/i=2*N+2:=by
  rcases Nat.eq_zero_or_pos i with h|h
  ·exact .inl h
  ·rcases Nat.lt_or_ge i (2*N+1) with h1|h1
   ·rcases Nat.mod_two_eq_zero_or_one i with h2|h2
    ·exact .inr (.inr (.inl ⟨i / 2 - 1,by omega,by omega⟩))
    ·exact .inr (.inl ⟨i / 2,by omega,by omega⟩)
   ·omega
 rcases cases_ with rfl|⟨e,he,rfl⟩|⟨e,he,rfl⟩|rfl|rfl
 ·obtain⟨o,ho,hg,hd,hop⟩:=T.o0
  obtain⟨p1,p2⟩:=D.pre hLf
  subst p1
  refine zem ho hg (zc8 (v:=.map (some w.heap.size)) (nx:=.value (.map (some w.heap.size))) (w':=w.alloc (.map #[] 0)) (by intro c e;rw[hop] at e;cases e) (by simp[execOp,hop,Instr.makeMap]) (.inl rfl) ?_)
  rw[hd]
  refine⟨sz',D.ds,by rw[zaC];exact D.tz,fun _=>by rw[zaL _ _ _ _ (by rw[D.tz];exact l1)];simp,fun e he h=> ?_,fun h=> ?_,fun h=> ?_,fun h=> ?_,fun _=> ?_⟩
  ·rw[gp,if_neg (by omega)] at h
   rw[zaL _ _ _ _ (by rw[D.tz];exact l1),if_neg (nd e he).2.1]
   exact D.mb e he h
  ·rw[gp,if_neg (by omega)] at h
   rw[zaL _ _ _ _ (by rw[D.tz];exact l1),if_neg (Ne.symm n12)]
   exact D.m2 h
  ·rw[gp,if_neg (by omega)] at h
   rw[zaL _ _ _ _ (by rw[D.tz];exact l1),if_neg n01]
   exact D.m0 h
  ·rw[gp,if_pos rfl] at h;cases h
  ·refine⟨#[],0,rfl,by simp,fun x=> ?_⟩
   simp only[List.map_nil,List.not_mem_nil,false_iff]
   rintro⟨e,he,h,_⟩
   rw[gp,if_neg (by omega),p2 e he] at h
   cases h
 ·obtain⟨o,ho,hg,hd,hop⟩:=T.ob e he
  refine zem ho hg (zc8 (v:=kV s n e) (nx:=.value (kV s n e)) (w':=w) (by intro c e;rw[hop] at e;cases e) ?_ (.inl rfl) ?_)
  ·have:=hbuild w e he
   simp[execOp,hop,Act.eval] at this ⊢
   rw[this]
   rfl
  rw[hd]
  have hlt:d e<a.tmps.size:=by rw[D.tz];exact ld e he
  obtain⟨q0,q1,q2,q3⟩:=nd e he
  refine⟨sz',D.ds,by rw[zaC];exact D.tz,fun h=> ?_,fun e' he' h=> ?_,fun h=> ?_,fun h=> ?_,fun h=> ?_,fun h=> ?_⟩
  ·rw[gp,if_neg (by omega)] at h
   rw[zaL _ _ _ _ hlt,if_neg (Ne.symm q1)]
   exact D.m1 h
  ·rw[zaL _ _ _ _ hlt]
   by_cases hee:e'=e
   ·subst hee;rw[if_pos rfl]
   ·rw[if_neg (Ne.symm (q3 e' he' (Ne.symm hee)))]
    rw[gp,if_neg (by omega)] at h
    exact D.mb e' he' h
  ·rw[gp,if_neg (by omega)] at h
   rw[zaL _ _ _ _ hlt,if_neg (Ne.symm q2)]
   exact D.m2 h
  ·rw[gp,if_neg (by omega)] at h
   rw[zaL _ _ _ _ hlt,if_neg (Ne.symm q0)]
   exact D.m0 h
  ·rw[gp,if_neg (by omega)] at h
   obtain⟨p1,p2⟩:=D.pre h
   exact⟨p1,fun e' he'=>by rw[gp,if_neg (by omega)];exact p2 e' he'⟩
  ·rw[gp,if_neg (by omega)] at h
   obtain⟨ents,clock,p1,p2,p3⟩:=D.post h
   refine⟨ents,clock,p1,p2,fun x=>(p3 x).trans ⟨?_,?_⟩⟩ <;> rintro⟨e',he',h',rfl⟩
   ·exact⟨e',he',by rw[gp,if_neg (by omega)];exact h',rfl⟩
   ·rw[gp,if_neg (by omega)] at h';exact⟨e',he',h',rfl⟩
 ·obtain⟨o,ho,hg,hd,hop,hb0,hb1⟩:=T.oi e he
  have z0:=before ho hb0
  have z1:=before ho hb1
  obtain⟨ents,clock,rfl,p2,p3⟩:=D.post z0
  have hmap:({ w0 with heap:=w0.heap.push (.map ents clock) }:World).heap[w0.heap.size]? =some (.map ents clock):=by simp
  have hrun:=zkF (P:=P) (fv:=fV f e) ht hk hmap (zfG _ _ s n e) (hkk e he) (fun x hx=>by
   obtain⟨e',he',h',hx'⟩:=(p3 (x.key,x.val)).1 (List.mem_map.2 ⟨x,hx,rfl⟩)
   injection hx' with hx1 hx2
   refine⟨kP s n e',?_,hkn e e' he he' ?_⟩
   ·rw[hx1];exact zfG _ _ s n e'
   ·rintro rfl
    rw[hLf] at h'
    cases h')
  refine zem ho hg (zc8 (v:=undef) (nx:=.skip) (w':={ w0 with heap:=w0.heap.push (.map (ents.push { key:=kV s n e,val:=fV f e,born:=clock }) (clock+1)) }) (by intro c e;rw[hop] at e;cases e) ?_ (.inr ⟨rfl,rfl⟩) ?_)
  ·have e1:a.eval (.tmp t1)=.map (some w0.heap.size):=zdP (D.m1 z0)
   have e2:a.eval (.tmp (d e))=kV s n e:=zdP (D.mb e he z1)
   have e3:a.eval (.func (f e))=fV f e:=rfl
   simp only[execOp,hop,e1,e2,e3]
   simp only[Sem.run_bind,hrun,Result.andThen_ok,Sem.run_pure]
   congr 2
   apply Array.ext_getElem?
   intro j
   rw[Array.getElem?_setIfInBounds]
   by_cases hj:w0.heap.size=j
   ·subst hj;simp
   ·rw[if_neg hj,Array.getElem?_push,Array.getElem?_push,if_neg (Ne.symm hj),if_neg (Ne.symm hj)]
  rw[hd]
  have hput:a.put none undef=a:=rfl
  rw[hput]
  refine⟨sz',D.ds,D.tz,fun h=>D.m1 z0,fun e' he' h=> ?_,fun h=> ?_,fun h=> ?_,fun h=> ?_,fun h=> ?_⟩
  ·rw[gp,if_neg (by omega)] at h
   exact D.mb e' he' h
  ·rw[gp,if_neg (by omega)] at h
   exact D.m2 h
  ·rw[gp,if_neg (by omega)] at h
   exact D.m0 h
  ·rw[gp,if_neg (by omega),z0] at h;cases h
  ·refine⟨_,_,rfl,?_,fun x=> ?_⟩
   ·simp only[Array.toList_push,List.map_append,List.map_cons,List.map_nil]
    rw[List.nodup_append]
    refine⟨p2,by simp,fun x hx y hy=> ?_⟩
    simp only[List.mem_singleton] at hy
    subst hy
    rintro rfl
    obtain⟨e',he',h',hx'⟩:=(p3 _).1 hx
    by_cases hee:e=e'
    ·subst hee;rw[hLf] at h';cases h'
    ·have h5:=hkn e e' he he' hee
     injection hx' with h6 h7
     have h8:=zbd (P:=P) (w:=w0) (I:=fun _=>True) hk (zfG _ _ s n e) (zfG _ _ s n e') h5
     have h9:=zbd (P:=P) (w:=w0) (I:=fun _=>True) hk (zfG _ _ s n e) (zfG _ _ s n e) (hkk e he)
     rw[<-h6,h9] at h8
     cases h8
   ·simp only[Array.toList_push,List.map_append,List.map_cons,List.map_nil,List.mem_append,List.mem_singleton]
    rw[p3 x]
    constructor
    ·rintro(⟨e',he',h',rfl⟩|rfl)
     ·exact⟨e',he',by rw[gp];split <;> simp[h'],rfl⟩
     ·exact⟨e,he,by rw[gp,if_pos rfl],rfl⟩
    ·rintro⟨e',he',h',rfl⟩
     by_cases hee:e'=e
     ·subst hee;exact .inr rfl
     ·rw[gp,if_neg (by omega)] at h'
      exact .inl ⟨e',he',h',rfl⟩
 ·obtain⟨o,ho,hg,hd,hop,hb0⟩:=T.om
  have z0:=before ho hb0
  have e1:a.eval (.tmp t1)=.map (some w0.heap.size):=zdP (D.m1 z0)
  refine zem ho hg (zc8 (v:=.map (some w0.heap.size)) (nx:=.value (.map (some w0.heap.size))) (w':=w) (by intro c e;rw[hop] at e;cases e) (by simp[execOp,hop,e1]) (.inl rfl) ?_)
  rw[hd]
  have hlt:t2<a.tmps.size:=by rw[D.tz];exact l2
  refine⟨sz',D.ds,by rw[zaC];exact D.tz,fun h=> ?_,fun e' he' h=> ?_,fun h=> ?_,fun h=> ?_,fun h=> ?_,fun h=> ?_⟩
  ·rw[zaL _ _ _ _ hlt,if_neg n12];exact D.m1 z0
  ·rw[gp,if_neg (by omega)] at h
   rw[zaL _ _ _ _ hlt,if_neg (nd e' he').2.2.1];exact D.mb e' he' h
  ·rw[zaL _ _ _ _ hlt,if_pos rfl]
  ·rw[gp,if_neg (by omega)] at h
   rw[zaL _ _ _ _ hlt,if_neg n02];exact D.m0 h
  ·rw[gp,if_neg (by omega),z0] at h;cases h
  ·obtain⟨ents,clock,p1,p2,p3⟩:=D.post z0
   refine⟨ents,clock,p1,p2,fun x=>(p3 x).trans ⟨?_,?_⟩⟩ <;> rintro⟨e',he',h',rfl⟩
   ·exact⟨e',he',by rw[gp,if_neg (by omega)];exact h',rfl⟩
   ·rw[gp,if_neg (by omega)] at h';exact⟨e',he',h',rfl⟩
 ·obtain⟨o,ho,hg,hd,hop,hb0⟩:=T.oa
  have z0:=before ho hb0
  have e1:a.eval (.tmp t2)=.map (some w0.heap.size):=zdP (D.m2 z0)
  refine zem ho hg (zc8 (v:=.map (some w0.heap.size)) (nx:=.value (.map (some w0.heap.size))) (w':=w) (by intro c e;rw[hop] at e;cases e) (by simp[execOp,hop,e1]) (.inl rfl) ?_)
  rw[hd]
  have hlt:t0<a.tmps.size:=by rw[D.tz];exact l0
  refine⟨sz',D.ds,by rw[zaC];exact D.tz,fun h=> ?_,fun e' he' h=> ?_,fun h=> ?_,fun h=> ?_,fun h=> ?_,fun h=> ?_⟩
  ·rw[gp,if_neg (by omega)] at h
   rw[zaL _ _ _ _ hlt,if_neg (Ne.symm n01)];exact D.m1 h
  ·rw[gp,if_neg (by omega)] at h
   rw[zaL _ _ _ _ hlt,if_neg (nd e' he').1];exact D.mb e' he' h
  ·rw[gp,if_neg (by omega)] at h
   rw[zaL _ _ _ _ hlt,if_neg (Ne.symm n02)];exact D.m2 h
  ·rw[zaL _ _ _ _ hlt,if_pos rfl]
  ·rw[gp,if_neg (by omega)] at h
   obtain⟨p1,p2⟩:=D.pre h
   exact⟨p1,fun e' he'=>by rw[gp,if_neg (by omega)];exact p2 e' he'⟩
  ·rw[gp,if_neg (by omega)] at h
   obtain⟨ents,clock,p1,p2,p3⟩:=D.post h
   refine⟨ents,clock,p1,p2,fun x=>(p3 x).trans ⟨?_,?_⟩⟩ <;> rintro⟨e',he',h',rfl⟩
   ·exact⟨e',he',by rw[gp,if_neg (by omega)];exact h',rfl⟩
   ·rw[gp,if_neg (by omega)] at h';exact⟨e',he',h',rfl⟩

theorem zjV(m i:Nat):(Array.replicate m false).getD i false=false:=by
 rw[Array.getD_eq_getD_getElem?,Array.getElem?_replicate]
 split <;> rfl
theorem zoa{ds:List Nat}(T:Lit P ops N nt t0 t1 t2 tm tk d s n f)(ht:P.underlying tm=some (.map tk te))(hk:zco P tk=some ds)(hkk:∀e,e<N->zag ds (kP s n e) (kP s n e)=some true)(hkn:∀e e',e<N->e'<N->e≠e'->zag ds (kP s n e) (kP s n e')=some false)
  (hbuild:∀(w:World) e,e<N->(Instr.build tk #[(0,.string ⟨(s e).toArray⟩),(1,.int .i64 (n e))]).run P w=.ok (kV s n e) w)(hE:zbj 0 ops.toList=true){Q:Exit->Act->World->Prop}
  (hQ:∀(L:Array Bool) a w,LI w0 N nt t0 t1 t2 d s n f L a w->(∀i,i<2*N+3->L.getD i false=true)->Q .normal a w):
  ∀(m:Nat) (L:Array Bool) (a:Act) (w:World),LI w0 N nt t0 t1 t2 d s n f L a w->(List.range ops.size).countP (fun i=> !L.getD i false)<=m->wpAnyIn (Fe ro) 0 P .any ops Q m L a w:=by
 have hend:∀(L:Array Bool) (a:Act) (w:World),LI w0 N nt t0 t1 t2 d s n f L a w->Region.ready .any ops L=[]->Q .normal a w:=fun L a w D hr=>
  hQ L a w D fun i hi=>zcf hE (by rw[D.sz,T.sz]) hr i (by rw[T.sz];exact hi)
 intro m
 induction m with
 |zero=>
  intro L a w D hn
  have hr:Region.ready .any ops L=[]:=by
   rw[List.eq_nil_iff_forall_not_mem]
   intro i hi
   obtain⟨o,ho,hL,_⟩:=mem_ready.1 hi
   have hil:=(Array.getElem?_eq_some_iff.1 ho).1
   have:0<(List.range ops.size).countP (fun i=> !L.getD i false):=by
    rw[List.countP_pos_iff]
    exact⟨i,List.mem_range.2 hil,by rw[zcS (by rw[D.sz,<-T.sz];exact hil),hL];rfl⟩
   omega
  exact⟨hr,hend L a w D hr⟩
 |succ m ih=>
  intro L a w D hn
  refine⟨hend L a w D,fun i hi=> ?_⟩
  obtain⟨o,ho,hL,_⟩:=mem_ready.1 hi
  have hil:=(Array.getElem?_eq_some_iff.1 ho).1
  have hiL:i<L.size:=by rw[D.sz,<-T.sz];exact hil
  refine wpOpIn_mono (fun a' w' D'=>ih _ a' w' D' ?_) (znj T ht hk hkk hkn hbuild D hi)
  have:=zcR (l:=List.range ops.size) (p:=fun i=> !L.getD i false) (q:=fun j=> !(L.setIfInBounds i true).getD j false) (List.mem_range.2 hil) (fun x hx=>by
   rw[zha hiL] at hx
   split at hx
   ·cases hx
   ·exact hx) (by rw[zcS hiL,hL];rfl) (by rw[zha hiL];simp)
  omega

def zcW(N:Nat)(s:Nat->List UInt8)(n:Nat->Int)(f:Nat->FuncId):List (PV × PV):=(List.range N).map fun e=>(.agg (kP s n e),.func (.func (f e)))

theorem zob{ds:List Nat}(hk:zco P tk=some ds)(hkk:∀e,e<N->zag ds (kP s n e) (kP s n e)=some true)(hkn:∀e e',e<N->e'<N->e≠e'->zag ds (kP s n e) (kP s n e')=some false)
  {L:Array Bool}{a:Act}{b:Nat}{W:World}(hH:HR W X μ hp)(D:LI W.drew N nt t0 t1 t2 d s n f L a w)(hall:∀i,i<2*N+3->L.getD i false=true):
  a.tmps[t0]? =some (.map (some W.heap.size))/\∃μ',HR w X μ' (hp++[.map none (zcW N s n f)])/\Ext b X μ hp W μ' (hp++[.map none (zcW N s n f)]) w/\AR w X μ' (hp++[.map none (zcW N s n f)]) (.map hp.length) (.map (some W.heap.size)):=by
 refine⟨D.m0 (hall _ (by omega)),?_⟩
 obtain⟨ents,clock,rfl,p2,p3⟩:=D.post (hall _ (by omega))
 have hw:({ W.drew with heap:=W.drew.heap.push (.map ents clock) }:World)=W.drew.alloc (.map ents clock):=rfl
 rw[hw]
 have hcan:(ents.toList.map fun e=>(e.key,e.val)).Perm ((List.range N).map fun e=>(kV s n e,fV f e)):=by
  rw[List.perm_ext_iff_of_nodup p2]
  ·intro x
   rw[p3 x,List.mem_map]
   constructor
   ·rintro⟨e,he,_,rfl⟩;exact⟨e,List.mem_range.2 he,rfl⟩
   ·rintro⟨e,he,rfl⟩;exact⟨e,List.mem_range.1 he,hall _ (by have:=List.mem_range.1 he;omega),rfl⟩
  ·refine List.pairwise_map.2 (List.Pairwise.imp_of_mem (fun{x y} hx hy hlt=> ?_) List.pairwise_lt_range)
   intro he
   injection he with h6 h7
   have h5:=hkn x y (List.mem_range.1 hx) (List.mem_range.1 hy) (by omega)
   have h8:=zbd (P:=P) (w:=W) (I:=fun _=>True) hk (zfG _ _ s n x) (zfG _ _ s n y) h5
   have h9:=zbd (P:=P) (w:=W) (I:=fun _=>True) hk (zfG _ _ s n x) (zfG _ _ s n x) (hkk x (List.mem_range.1 hx))
   rw[<-h6,h9] at h8
   cases h8
 obtain⟨l,l1,l2⟩:=zeJ _ _ hcan
 have hlen:l.length=N:=by
  have:=congrArg List.length l2
  simpa using this
 have hM:∀(w:World) (I:Nat->Prop),MapR w I none (zcW N s n f) ents:=fun w I=>by
  refine⟨l,l1,⟨by simp[zcW,hlen],fun k x e hx he=> ?_⟩,.inr fun x hx=> ?_⟩
  ·have hkl:k<N:=by rw[<-hlen];exact(List.getElem?_eq_some_iff.1 he).1
   have h1:=congrArg (fun q=>q[k]?) l2
   simp only[List.getElem?_map,he,Option.map_some,List.getElem?_range hkl,Option.some.injEq,Prod.mk.injEq] at h1
   simp only[zcW,List.getElem?_map,List.getElem?_range hkl,Option.map_some,Option.some.injEq] at hx
   subst hx
   rw[h1.1,h1.2]
   exact⟨zfG _ _ s n k,.func _,rfl⟩
  ·simp only[zcW,List.mem_map] at hx
   obtain⟨e,_,rfl⟩:=hx
   exact⟨_,rfl⟩
 have E:∀b,Ext b X μ hp W (upd μ hp.length (some W.heap.size)) (hp++[.map none (zcW N s n f)]) (W.drew.alloc (.map ents clock)):=fun b=>
  (Ext.drew (X:=X) (μ:=μ) (hp:=hp) (w:=W) b).trans (Ext.push _ _ (Ext.alloc b _) (fun k hk=>by cases hk;exact Nat.le_refl _))
 refine⟨upd μ hp.length (some W.heap.size),?_,E b,.map _ _ none _ zaT (zac _ _ _)⟩
 exact hH.drew.push _ _ (Ext.alloc 0 _) (fun i k hi hk=>zao _ _ (hH.drew.out i k hi hk).2) (fun k hk=>by cases hk;exact⟨Nat.le_refl _,by simp⟩) (fun _ _ h=>by cases h) (fun _ _ _ h=>by cases h)
  (fun s es h=>by cases h;exact⟨_,ents,clock,rfl,zaj _ _,hM _ _⟩)

theorem zkG{ds:List Nat}{fn:Func}{id id2:Nat}{oz:Oper}{cz:Value}(hmix:P.follows .mixedOrders=true)(hf:P.funcs[g]? =some fn)(hb:fn.body=some (.seq (.region id #[oz] false) (.seq (.region id2 ops true) .ret)))(hn:fn.name≠ "runtime.NumGoroutine")(hnt:fn.ntmps=nt)(hres:fn.results= #[.tmp t0])
  (hoz:oz.guard=none/\oz.dst=some t0/\oz.op=.assign (.const cz))(T:Lit P ops N nt t0 t1 t2 tm tk d s n f)(ht:P.underlying tm=some (.map tk te))(hk:zco P tk=some ds)(hkk:∀e,e<N->zag ds (kP s n e) (kP s n e)=some true)
  (hkn:∀e e',e<N->e'<N->e≠e'->zag ds (kP s n e) (kP s n e')=some false)
  (hbuild:∀(w:World) e,e<N->(Instr.build tk #[(0,.string ⟨(s e).toArray⟩),(1,.int .i64 (n e))]).run P w=.ok (kV s n e) w)(hE:zbj 0 ops.toList=true):zdf P g (zfF none (zcW N s n f)):=by
 intro args hp r hp' h w X μ vs hH hl
 unfold zfF at h
 split at h
 ·cases h
  cases hl
  refine .inl ⟨zaO hf hb hn,?_⟩
  apply zgi hf hb
  apply wpIn_seq
  apply wpIn_region
  obtain⟨l0,l1,l2,ld⟩:=T.lt
  show wpOpsIn _ _ _ _ _ (List.range 1) _ _
  rw[show List.range 1=[0] from rfl,wpOpsIn_cons]
  refine zem (o:=oz) rfl hoz.1 (zc8 (v:=cz) (nx:=.value cz) (w':=w) (by intro c e;rw[hoz.2.2] at e;cases e) (by simp[execOp,hoz.2.2,Act.eval]) (.inl rfl) ?_)
  rw[hoz.2.1]
  show Exit.then _ _ .normal _ _
  simp only[Exit.then]
  apply wpIn_seq
  refine wpIn_region_any hmix (zoa (w0:=w.drew) T ht hk hkk hkn hbuild hE (fun L a w' D hall=> ?_) ops.size _ _ _ ⟨by simp[T.sz],rfl,by rw[zaC];simp[hnt],fun h=> ?_,fun e he h=> ?_,fun h=> ?_,fun h=> ?_,fun _=>⟨rfl,fun e he=> ?_⟩,fun h=> ?_⟩ (Nat.le_trans (List.countP_le_length) (by simp)))
  ·simp only[Exit.then]
   apply wpIn_ret
   obtain⟨q1,μ',q2,q3,q4⟩:=zob (b:=hp.length) hk hkk hkn hH D hall
   refine⟨D.ds,.map (some w.heap.size),?_,μ',_,rfl,q2,q3,q4⟩
   have q5:a.tmps.getD t0 undef=.map (some w.heap.size):=zdP q1
   simp[results,hres,q1]
  all_goals first|(rw[zjV] at h;cases h)|exact zjV _ _
 ·cases h
end

theorem zme{tk:TypeId}{z a b:AV}(hz:zaD P tk=some z)(hc:z.comps=some [(none,a),(none,b)])(ht:∃fs,P.underlying tk=some (.struct fs)/\fs.toList.all (fun f=>okT P f.type)=true)(s:List UInt8)(n:Int)(w:World):
  (Instr.build tk #[(0,.string ⟨s.toArray⟩),(1,.int .i64 n)]).run P w=.ok (.agg #[.string ⟨s.toArray⟩,.int .i64 n]) w:=by
 have h:=zdl (P:=P) (w:=w) (X:=⟨fun _=>False⟩) (μ:=fun _=>none) (hp:=[]) (t:=tk) (parts:= #[(0,.const (.string ⟨s.toArray⟩)),(1,.const (.int .i64 n))]) (ρ:=fun o=>match o with| .const v=>v|_=>undef) (vs:=[.pv none (.str s),.pv none (.int .i64 n)]) (v:=.pv (some 2) (.agg [(none,.str s),(none,.int .i64 n)]))
  hz hc (.inl ht) (.cons (.mkStr _) (.cons (.mkInt _ _) .nil)) (by simp[zep,zbU,AV.plain,AV.shp,AV.ofComps,pures,total,Sh.size])
 obtain⟨v',h1,h2⟩:=h
 have e:v'=.agg #[.string ⟨s.toArray⟩,.int .i64 n]:=by
  cases h2 with|pv _ _ _ _ h2=>
  cases h2 with|agg _ us hl _ k=>
  match us,hl with
  |[x,y],_=>
   have e1:=(k 0 _ x rfl rfl).str_inv
   have e2:=(k 1 _ y rfl rfl).int_inv
   subst e1;subst e2
   rfl
 subst e
 simp only[Sem.run_bind] at h1
 have hp:(#[(0,Operand.const (.string ⟨s.toArray⟩)),(1,.const (.int .i64 n))].map fun(x:Nat × Operand)=>(x.1,(fun o=>match o with|Operand.const v=>v|_=>undef) x.2))= #[(0,.string ⟨s.toArray⟩),(1,.int .i64 n)]:=by simp
 rw[hp] at h1
 cases hr:(Instr.build tk #[(0,.string ⟨s.toArray⟩),(1,.int .i64 n)]).run P w with
 |ok v w'=>
  rw[hr] at h1
  simp only[Result.andThen_ok,Sem.run_pure,Result.ok.injEq,Next.value.injEq] at h1
  rw[h1.1,h1.2]
 |halt x w'=>
  rw[hr] at h1
  cases h1
end Go.Am

/- Runs with facts: what is known of calls of values alone is looked up. -/
namespace Go.Am
mutual
def PV.eqB:Nat->PV->PV->Bool
 |0,_,_=>false
 |_+1,.bool a,.bool b=>a == b
 |_+1,.int k n,.int k' n'=>decide (k=k') && decide (n=n')
 |_+1,.str s,.str s'=>decide (s.map UInt8.toNat=s'.map UInt8.toNat)
 |d+1,.agg l,.agg l'=>PV.eqA d l l'
 |d+1,.sl sh es,.sl sh' es'=>decide (sh=sh') && PV.eqL d es es'
 |_+1,_,_=>false
termination_by structural d _ _=>d
def PV.eqA:Nat->List (Sh × PV)->List (Sh × PV)->Bool
 |0,_,_=>false
 |_+1,[],[]=>true
 |d+1,(s,a)::r,(s',b)::r'=>decide (s=s') && (PV.eqB d a b && PV.eqA d r r')
 |_+1,_,_=>false
termination_by structural d _ _=>d
def PV.eqL:Nat->List PV->List PV->Bool
 |0,_,_=>false
 |_+1,[],[]=>true
 |d+1,a::r,b::r'=>PV.eqB d a b && PV.eqL d r r'
 |_+1,_,_=>false
termination_by structural d _ _=>d
end
theorem zdQ:∀{a b:List UInt8},a.map UInt8.toNat=b.map UInt8.toNat->a=b
 |[],[],_=>rfl
 |[],_::_,h=>by simp at h
 |_::_,[],h=>by simp at h
 |x::r,y::t,h=>by
  simp only[List.map_cons,List.cons.injEq] at h
  rw[UInt8.toNat.inj h.1,zdQ h.2]
theorem znN:∀d,(∀a b,PV.eqB d a b=true->a=b)/\(∀a b,PV.eqA d a b=true->a=b)/\(∀a b,PV.eqL d a b=true->a=b)
 |0=>⟨fun _ _ h=>Bool.noConfusion (show false=true from h),fun _ _ h=>Bool.noConfusion (show false=true from h),fun _ _ h=>Bool.noConfusion (show false=true from h)⟩
 |d+1=>by
  obtain⟨h1,h2,h3⟩:=znN d
  refine⟨fun a b h=> ?_,fun a b h=> ?_,fun a b h=> ?_⟩
  ·cases a <;> cases b <;> try (exact Bool.noConfusion (show false=true from h))
   ·rw[eq_of_beq h]
   ·rename_i k n k' n'
    have h:(decide (k=k') && decide (n=n'))=true:=h
    simp only[Bool.and_eq_true,decide_eq_true_eq] at h
    rw[h.1,h.2]
   ·rw[zdQ (of_decide_eq_true h)]
   ·rw[h2 _ _ h]
   ·rename_i sh es sh' es'
    have h:(decide (sh=sh') && PV.eqL d es es')=true:=h
    simp only[Bool.and_eq_true,decide_eq_true_eq] at h
    rw[h.1,h3 _ _ h.2]
  ·cases a with
   |nil=>cases b with
    |nil=>rfl
    |cons=>exact Bool.noConfusion (show false=true from h)
   |cons x r=>cases b with
    |nil=>exact Bool.noConfusion (show false=true from h)
    |cons y t=>
     obtain⟨s,a⟩:=x
     obtain⟨s',b⟩:=y
     have h:(decide (s=s') && (PV.eqB d a b && PV.eqA d r t))=true:=h
     simp only[Bool.and_eq_true,decide_eq_true_eq] at h
     rw[h.1,h1 _ _ h.2.1,h2 _ _ h.2.2]
  ·cases a with
   |nil=>cases b with
    |nil=>rfl
    |cons=>exact Bool.noConfusion (show false=true from h)
   |cons x r=>cases b with
    |nil=>exact Bool.noConfusion (show false=true from h)
    |cons y t=>
     have h:(PV.eqB d x y && PV.eqL d r t)=true:=h
     simp only[Bool.and_eq_true] at h
     rw[h1 _ _ h.1,h3 _ _ h.2]
abbrev Facts:=List (FuncId × List (Sh × PV) × AV)
def zmf:Facts->FuncId->List (Sh × PV)->Option AV
 |[],_,_=>none
 |(g,qs,v)::r,f,ps=>bif Nat.beq g f then(bif PV.eqA 60 qs ps then some v else zmf r f ps) else zmf r f ps
def hasF:Facts->FuncId->Bool
 |[],_=>false
 |(g,_,_)::r,f=>bif Nat.beq g f then true else hasF r f
def zoc(K:Facts)(f:FuncId)(args:List AV)(hp:Heap):Option (ARes × Heap):=
 match zap args hp with
 |none=>none
 |some (ps,hp1)=>match zmf K f ps with
  |some v=>some (.ret v,bif v.scalar then hp else hp1)
  |none=>none
def zen(K:Facts)(F:FuncId->Option AFn)(prim:FuncId->Option zbg):Nat->Oracle
 |0=>fun _ _ _ _=>none
 |n+1=>fun k f args hp=>match k with
  | .fn=>bif hasF K f then(match zoc K f args hp with
    |some r=>some r
    |none=>acall F prim (zen K F prim n) (aloop (zen K F prim n) n) .fn f args hp)
   else acall F prim (zen K F prim n) (aloop (zen K F prim n) n) .fn f args hp
  |k=>acall F prim (zen K F prim n) (aloop (zen K F prim n) n) k f args hp
variable{F:FuncId->Option AFn} {prim:FuncId->Option zbg}
theorem freezeAll_pvs':∀(ps:List (Sh × PV)) {hp:Heap},zap (pvs ps) hp=some (ps,hp)
 |[],_=>rfl
 |(sh,p)::r,hp=>by
  have h:AV.freeze deep (.pv sh p) hp=some (p,hp):=rfl
  show zap (.pv sh p::pvs r) hp=_
  simp only[zap,h,freezeAll_pvs' r,AV.shp]
def zod(F:FuncId->Option AFn)(prim:FuncId->Option zbg)(f:FuncId):Bool:=
 match prim f,F f with
 |none,some fn=> !fn.heapMode
 |_,_=>false
def resV:Option (ARes × Heap)->Option AV
 |some (.ret v,_)=>some v
 |_=>none
inductive FactsOk(F:FuncId->Option AFn)(prim:FuncId->Option zbg):Facts->Prop
 |nil:FactsOk F prim []
 |cons {f:FuncId} {qs:List (Sh × PV)} {v:AV} {K:Facts} (hp:zod F prim f=true) (h:resV (sem F prim .fn f (pvs qs) [])=some v) (k:FactsOk F prim K):FactsOk F prim ((f,qs,v)::K)
theorem zhb{f:FuncId}{ps:List (Sh × PV)}{v:AV}:∀{K:Facts},FactsOk F prim K->zmf K f ps=some v->zod F prim f=true/\resV (sem F prim .fn f (pvs ps) [])=some v
 |_,.nil,h=>by cases h
 |_,.cons (f:=g) (qs:=qs) hp h1 k,h=>by
  unfold zmf at h
  cases hg:Nat.beq g f with
  |false=>rw[hg] at h;exact zhb k h
  |true=>
   rw[hg] at h
   have hgf:g=f:=Nat.eq_of_beq_eq_true hg
   cases he:PV.eqA 60 qs ps with
   |false=>rw[he] at h;exact zhb k h
   |true=>
    rw[he] at h
    cases h
    rw[<-(znN 60).2.1 _ _ he,<-hgf]
    exact⟨hp,h1⟩
theorem znk{K:Facts}(hK:FactsOk F prim K){f:FuncId}{args:List AV}{hp:Heap}{r:ARes × Heap}(h:zoc K f args hp=some r):sem F prim .fn f args hp=some r:=by
 unfold zoc at h
 split at h
 ·cases h
 ·rename_i ps hp1 hz
  split at h
  ·rename_i v hv
   cases h
   obtain⟨h1,h2⟩:=zhb hK hv
   unfold zod at h1
   split at h1
   ·rename_i fn hpr hF
    rw[zl8] at h2 ⊢
    unfold zbb at h2 ⊢
    rw[hpr,hF] at h2 ⊢
    have hm:fn.heapMode=false:=by simpa using h1
    simp only[hm,Bool.false_eq_true,if_false,hz,freezeAll_pvs'] at h2 ⊢
    split at h2
    ·cases h2
    ·rename_i hrc
     rw[if_neg hrc]
     cases hb:abody (sem F prim) (sloop F prim) fn (pvs ps) [] with
     |none=>rw[hb] at h2;cases h2
     |some q=>
      obtain⟨q,hp2⟩:=q
      rw[hb] at h2
      cases q with
      |panic v'=>cases h2
      |ret v'=>
       simp only at h2 ⊢
       cases hf:v'.freezeRes hp2 with
       |none=>rw[hf] at h2;cases h2
       |some x=>
        rw[hf] at h2
        cases h2
        rfl
   ·cases h1
  ·cases h
theorem zcE:∀n,LLe (aloop (sem F prim) n) (sloop F prim)
 |0=>fun _ _ _ _ _ _ h=>by cases h
 |n+1=>fun b m keep c st r h=>by
  simp only[aloop] at h
  rw[zjS]
  split at h
  ·rename_i ho
   rw[zai (OLe.refl _) (zcE n) ho]
   exact zcE n _ _ _ _ _ _ h
  ·rename_i hn
   rw[zai (OLe.refl _) (zcE n) h]
   split
   ·rename_i e;cases e;exact(hn _ h).elim
   ·rfl
theorem zeY{K:Facts}(hK:FactsOk F prim K):∀n,OLe (zen K F prim n) (sem F prim)
 |0=>fun _ _ _ _ _ h=>by cases h
 |n+1=>fun k f args hp r h=>by
  have key:acall F prim (zen K F prim n) (aloop (zen K F prim n) n) k f args hp=some r->sem F prim k f args hp=some r:=fun h=>by
   rw[zl7]
   exact zej (zeY hK n) ((zaF (zeY hK n) (Nat.le_refl n)).trans (zcE n)) _ _ _ _ _ h
  unfold zen at h
  split at h
  ·cases hh:hasF K f with
   |false=>rw[hh] at h;exact key h
   |true=>
    rw[hh] at h
    simp only[cond_true] at h
    split at h
    ·rename_i r' hr
     cases h
     exact znk hK hr
    ·exact key h
  ·exact key h
theorem zau{K:Facts}(hK:FactsOk F prim K){n:Nat}{f:FuncId}{qs:List (Sh × PV)}{v:AV}(h:resV (zen K F prim n .fn f (pvs qs) [])=some v):resV (sem F prim .fn f (pvs qs) [])=some v:=by
 cases hr:zen K F prim n .fn f (pvs qs) [] with
 |none=>rw[hr] at h;cases h
 |some r=>
  rw[zeY hK n _ _ _ _ _ hr]
  rw[hr] at h
  exact h
end Go.Am

/- Terms azs plain data. -/
namespace Go.Am
inductive Tm where
 |mk (kind n:Int) (name:List UInt8) (args:List Tm)
 deriving Inhabited
mutual
def Tm.pv:Tm->PV
 | .mk k n s azs=>.agg [(none,.int .i64 k),(none,.int .i64 n),(none,.str s),(none,.sl (some 4) (Tm.pvs azs))]
def Tm.pvs:List Tm->List PV
 |[]=>[]
 |t::r=>t.pv::Tm.pvs r
end
def Tm.kind:Tm->Int| .mk k _ _ _=>k
def Tm.n:Tm->Int| .mk _ n _ _=>n
def Tm.name:Tm->List UInt8| .mk _ _ s _=>s
def Tm.args:Tm->List Tm| .mk _ _ _ azs=>azs
end Go.Am

/- What code comes to: rules that a proof steps by. -/
namespace Go.Am
variable{Γ:Oracle} {Λ:zad} {b:Nat}

class Tag.{u} {α:Sort u} (a:α):Type where
instance tagAny.{u}{α:Sort u}(a:α):Tag a:=⟨⟩

def W(Γ:Oracle)(Λ:zad)(b:Nat)(c:ACode)(st:St)(Q:AExit->St->Prop)[Tag Q]:Prop:=
 match aexec Γ Λ b c st with
 |some (e,st')=>Q e st'
 |none=>False
def O(Γ:Oracle)(b:Nat)(ops:List AOper)(fr:Fr)(hp:Heap)(K:Fr->Heap->Prop)(Kp:PV->Fr->Heap->Prop)[Tag K][Tag Kp]:Prop:=
 match aops Γ b ops fr hp with
 |some (.normal,fr',hp')=>K fr' hp'
 |some (.panic v,fr',hp')=>Kp v fr' hp'
 |_=>False
def seqK(k:St->Prop)(Q:AExit->St->Prop)[Tag k][Tag Q]:AExit->St->Prop
 | .normal,st=>k st
 | .exit i,st=>Q (.exit i) st
 | .ret,st=>Q .ret st
 | .panic v,st=>Q (.panic v) st
def zil(id:Nat)(Q:AExit->St->Prop)[Tag Q]:AExit->St->Prop
 | .exit i,st=>if i=id then Q .normal st else Q (.exit i) st
 | .normal,st=>Q .normal st
 | .ret,st=>Q .ret st
 | .panic v,st=>Q (.panic v) st
def znl(v:Option AV)(A B:Prop)[Tag A][Tag B]:Prop:=
 match v with
 |some (.pv _ (.bool b))=>if b=true then A else B
 |_=>False
def panK(pan:Bool)(A:Prop)[Tag A]:Prop:=if pan=true then A else False
def zmg(v:Option Bool)(A B:Prop)[Tag A][Tag B]:Prop:=
 match v with
 |some b=>if b=true then A else B
 |none=>False
def argK(v:Option (List AV))(K:List AV->Prop)[Tag K]:Prop:=
 match v with
 |some l=>K l
 |none=>False
def opK(v:Option OpRes)(K:AV->Heap->Prop)(Kp:PV->Heap->Prop)[Tag K][Tag Kp]:Prop:=
 match v with
 |some (.val v hp)=>K v hp
 |some (.panic v hp)=>Kp v hp
 |none=>False
def zoe(v:Option (AV × Heap))(K:AV->Heap->Prop)[Tag K]:Prop:=
 match v with
 |some (v,hp)=>K v hp
 |none=>False
def zoy(v:Option (ARes × Heap))(K:AV->Heap->Prop)(Kp:PV->Heap->Prop)[Tag K][Tag Kp]:Prop:=
 match v with
 |some (.ret v,hp)=>K v hp
 |some (.panic v,hp)=>Kp v hp
 |none=>False

variable{st:St} {Q:AExit->St->Prop} {fr:Fr} {hp:Heap} {K:Fr->Heap->Prop} {Kp:PV->Fr->Heap->Prop}
theorem zoz:W Γ Λ b .skip st Q=Q .normal st:=rfl
theorem zoA(i:Nat):W Γ Λ b (.exit i) st Q=Q (.exit i) st:=rfl
theorem zpm:W Γ Λ b .ret st Q=Q .ret st:=rfl
theorem zpn(x y:ACode):W Γ Λ b (.seq x y) st Q=W Γ Λ b x st (seqK (fun st'=>W Γ Λ b y st' Q) Q):=by
 unfold W
 simp only[aexec]
 cases aexec Γ Λ b x st with
 |none=>rfl
 |some r=>
  obtain⟨e,st'⟩:=r
  cases e <;> rfl
theorem zoB(c:AArg)(x y:ACode):W Γ Λ b (.cond c x y) st Q=znl (st.fr.arg c) (W Γ Λ b x st Q) (W Γ Λ b y st Q):=by
 unfold W
 simp only[aexec]
 cases st.fr.arg c with
 |none=>rfl
 |some v=>
  cases v with
  |pv s p=>
   cases p with
   |bool v=>cases v <;> simp[znl]
   |_=>rfl
  |_=>rfl
theorem zof(id:Nat)(c:ACode):W Γ Λ b (.block id c) st Q=W Γ Λ b c st (zil id Q):=by
 unfold W
 simp only[aexec]
 cases aexec Γ Λ b c st with
 |none=>rfl
 |some r=>
  obtain⟨e,st'⟩:=r
  cases e with
  |exit i=>
   simp only[zil]
   by_cases h:i=id
   ·simp[h]
   ·simp[h]
  |_=>rfl
theorem znm(pan:Bool)(ops:List AOper)(keep:List Nat):W Γ Λ b (.region pan ops keep) st Q=O Γ b ops st.fr st.hp (fun fr hp=>Q .normal ⟨fr.keep keep,hp⟩) (fun v fr hp=>panK pan (Q (.panic v) ⟨fr.keep keep,hp⟩)):=by
 unfold W O
 simp only[aexec]
 cases aops Γ b ops st.fr st.hp with
 |none=>rfl
 |some r=>
  obtain⟨e,fr,hp⟩:=r
  cases e with
  |panic v=>cases pan <;> simp[panK]
  |_=>rfl
theorem zpo:O Γ b [] fr hp K Kp=K fr hp:=rfl
theorem znO(o:AOper)(r:List AOper):O Γ b (o::r) fr hp K Kp=zmg (wants fr o.guard) (argK (fr.argsOf o.args) fun vs=>opK (aOp Γ b o.op vs hp) (fun v hp'=>O Γ b r (fr.dst o.dst v) hp' K Kp) (fun v hp'=>Kp v fr hp')) (O Γ b r (fr.dst o.dst .undef) hp K Kp):=by
 unfold O
 simp only[aops]
 cases wants fr o.guard with
 |none=>rfl
 |some w=>
  cases w with
  |false=>simp[zmg]
  |true=>
   simp only[zmg,if_true]
   cases fr.argsOf o.args with
   |none=>rfl
   |some vs=>
    simp only[argK]
    cases aOp Γ b o.op vs hp with
    |none=>rfl
    |some r=>cases r <;> rfl
theorem zoC(d:Option Nat)(op:AOp)(azs:List AArg)(r:List AOper):O Γ b (⟨d,op,azs,none⟩::r) fr hp K Kp=argK (fr.argsOf azs) fun vs=>opK (aOp Γ b op vs hp) (fun v hp'=>O Γ b r (fr.dst d v) hp' K Kp) (fun v hp'=>Kp v fr hp'):=by
 rw[znO];rfl
def zim(v:Option AV)(w:Bool)(A B:Prop)[Tag A][Tag B]:Prop:=
 match v with
 |some (.pv _ (.bool b))=>if b=w then A else B
 |some .undef=>B
 |_=>False
theorem zog(d:Option Nat)(op:AOp)(azs:List AArg)(s:Nat)(w:Bool)(r:List AOper):O Γ b (⟨d,op,azs,some (s,w)⟩::r) fr hp K Kp=zim (fr.look s) w (argK (fr.argsOf azs) fun vs=>opK (aOp Γ b op vs hp) (fun v hp'=>O Γ b r (fr.dst d v) hp' K Kp) (fun v hp'=>Kp v fr hp')) (O Γ b r (fr.dst d .undef) hp K Kp):=by
 rw[znO]
 simp only[wants]
 cases h:fr.look s with
 |none=>rfl
 |some v=>
  cases v with
  |pv sh p=>
   cases p with
   |bool c=>cases c <;> cases w <;> simp[zmg,zim]
   |_=>rfl
  |undef=>simp[zmg,zim]
  |_=>rfl
theorem zpp(s:Nat):fr.arg (.t s)=fr.look s:=rfl
theorem zpq(v:AV):fr.arg (.c v)=some v:=rfl
theorem zmh(k s:Nat)(v:AV)(r:Fr):Fr.look ((k,v)::r) s=if k=s then some v else Fr.look r s:=rfl
theorem znn(d:Nat)(v:AV):fr.dst (some d) v=(d,v)::fr:=rfl
theorem zno:fr.argsOf []=some []:=rfl
def zoD(v:Option AV)(l:Option (List AV)):Option (List AV):=
 match v with
 |none=>none
 |some v=>match l with
  |some l=>some (v::l)
  |none=>none
theorem zmi(a:AArg)(r:List AArg):fr.argsOf (a::r)=zoD (fr.arg a) (fr.argsOf r):=rfl
theorem zkH(v:AV)(l:List AV):zoD (some v) (some l)=some (v::l):=rfl
theorem zmj(l:List AV)(K:List AV->Prop):argK (some l) K=K l:=rfl
def iteK(v:Prop)(A B:Prop)[Tag A][Tag B]:Prop:=(v->A)/\(¬v->B)
theorem zkI(s:Sh)(v:Bool)(A B:Prop):znl (some (.pv s (.bool v))) A B=iteK (v=true) A B:=by
 cases v <;> simp[znl,iteK]
theorem zjn(s:Sh)(v w:Bool)(A B:Prop):zim (some (.pv s (.bool v))) w A B=iteK (v=w) A B:=by
 cases v <;> cases w <;> simp[zim,iteK]
theorem zmk(A B:Prop):iteK True A B=A:=by simp[iteK]
theorem zkJ(A B:Prop):iteK False A B=B:=by simp[iteK]
attribute [irreducible] iteK
theorem zkK(v:AV)(hp:Heap)(K:AV->Heap->Prop):zoe (some (v,hp)) K=K v hp:=rfl
theorem zml(v:AV)(hp:Heap)(K:AV->Heap->Prop)(Kp:PV->Heap->Prop):zoy (some (.ret v,hp)) K Kp=K v hp:=rfl
theorem znp:fr.keep []=[]:=rfl
def zoE(k:Nat)(v:Option AV)(r:Fr):Fr:=
 match v with
 |some v=>(k,v)::r
 |none=>r
theorem zmm(k:Nat)(ks:List Nat):fr.keep (k::ks)=zoE k (fr.look k) (fr.keep ks):=rfl
theorem zkL(k:Nat)(v:AV)(r:Fr):zoE k (some v) r=(k,v)::r:=rfl
theorem zjo(k:St->Prop)(Q:AExit->St->Prop)(st:St):seqK k Q .normal st=k st:=rfl
theorem zmn(k:St->Prop)(Q:AExit->St->Prop)(i:Nat)(st:St):seqK k Q (.exit i) st=Q (.exit i) st:=rfl
theorem znq(k:St->Prop)(Q:AExit->St->Prop)(st:St):seqK k Q .ret st=Q .ret st:=rfl
theorem zhc(id:Nat)(Q:AExit->St->Prop)(st:St):zil id Q .normal st=Q .normal st:=rfl
theorem zjp(id:Nat)(Q:AExit->St->Prop)(i:Nat)(st:St):zil id Q (.exit i) st=if i=id then Q .normal st else Q (.exit i) st:=rfl
theorem zkM(id:Nat)(Q:AExit->St->Prop)(st:St):zil id Q .ret st=Q .ret st:=rfl
end Go.Am

/- What code comes to: the operations. -/
namespace Go.Am
variable{Γ:Oracle} {Λ:zad} {b:Nat} {hp:Heap} {vs:List AV} {K:AV->Heap->Prop} {Kp:PV->Heap->Prop}
def valK(v:Option AV)(K:AV->Prop)[Tag K]:Prop:=
 match v with
 |some v=>K v
 |none=>False
def pvK(v:Option PV)(K:PV->Prop)[Tag K]:Prop:=
 match v with
 |some v=>K v
 |none=>False
theorem zmo(v:AV)(K:AV->Prop):valK (some v) K=K v:=rfl
theorem znr(v:PV)(K:PV->Prop):pvK (some v) K=K v:=rfl

theorem zpr:opK (aOp Γ b .mv vs hp) K Kp=valK (sMv vs) (fun v=>K v hp):=by
 show opK (match zbB hp (sMv vs) with|some (v,hp')=>some (OpRes.val v hp')|none=>none) K Kp=_
 cases sMv vs <;> rfl
theorem zoF:opK (aOp Γ b .len vs hp) K Kp=valK (sLen vs) (fun v=>K v hp):=by
 show opK (match zbB hp (sLen vs) with|some (v,hp')=>some (OpRes.val v hp')|none=>none) K Kp=_
 cases sLen vs <;> rfl
theorem zoh:opK (aOp Γ b .pick vs hp) K Kp=valK (ziy vs) (fun v=>K v hp):=by
 show opK (match zbB hp (ziy vs) with|some (v,hp')=>some (OpRes.val v hp')|none=>none) K Kp=_
 cases ziy vs <;> rfl
theorem zoG(o:BinOp):opK (aOp Γ b (.bin o) vs hp) K Kp=valK (sBin o vs) (fun v=>K v hp):=by
 show opK (match zbB hp (sBin o vs) with|some (v,hp')=>some (OpRes.val v hp')|none=>none) K Kp=_
 cases sBin o vs <;> rfl
theorem zoi(o:BinOp):opK (aOp Γ b (.binb o) vs hp) K Kp=valK (ziz o vs) (fun v=>K v hp):=by
 show opK (match zbB hp (ziz o vs) with|some (v,hp')=>some (OpRes.val v hp')|none=>none) K Kp=_
 cases ziz o vs <;> rfl
theorem zns(z:List (Sh × AV))(i:List Nat):opK (aOp Γ b (.build z i) vs hp) K Kp=valK (zep z i vs) (fun v=>K v hp):=by
 show opK (match zbB hp (zep z i vs) with|some (v,hp')=>some (OpRes.val v hp')|none=>none) K Kp=_
 cases zep z i vs <;> rfl
theorem znt(sh:Sh):opK (aOp Γ b (.iaddr sh) vs hp) K Kp=valK (zeq sh vs) (fun v=>K v hp):=by
 show opK (match zbB hp (zeq sh vs) with|some (v,hp')=>some (OpRes.val v hp')|none=>none) K Kp=_
 cases zeq sh vs <;> rfl
theorem zkN(i:Nat):opK (aOp Γ b (.extract i) vs hp) K Kp=valK (zcj i vs) (fun v=>K v hp):=by
 show opK (match zbB hp (zcj i vs) with|some (v,hp')=>some (OpRes.val v hp')|none=>none) K Kp=_
 cases zcj i vs <;> rfl
theorem zoj(sh:Sh):opK (aOp Γ b (.load sh) vs hp) K Kp=valK (zfM sh hp vs) (fun v=>K v hp):=by
 show opK (match zbB hp (zfM sh hp vs) with|some (v,hp')=>some (OpRes.val v hp')|none=>none) K Kp=_
 cases zfM sh hp vs <;> rfl
theorem zmp(n:Nat):opK (aOp Γ b (.aindex n) vs hp) K Kp=valK (zba n vs) (fun v=>K v hp):=by
 show opK (match zbB hp (zba n vs) with|some (v,hp')=>some (OpRes.val v hp')|none=>none) K Kp=_
 cases zba n vs <;> rfl
theorem zkO(ds:List Nat)(sh:Sh)(z:AV)(k:Bool):opK (aOp Γ b (.lookupr ds sh z k) vs hp) K Kp=valK (zbt ds sh z k hp vs) (fun v=>K v hp):=by
 show opK (match zbB hp (zbt ds sh z k hp vs) with|some (v,hp')=>some (OpRes.val v hp')|none=>none) K Kp=_
 cases zbt ds sh z k hp vs <;> rfl
theorem znu(sh:Sh):opK (aOp Γ b (.nilsl sh) vs hp) K Kp=zoe (zdd sh hp) K:=by
 show opK (match(zdd sh hp) with|some (v,hp')=>some (OpRes.val v hp')|none=>none) K Kp=_
 cases (zdd sh hp) with
 |none=>rfl
 |some r=>cases r;rfl
theorem zmq(sh:Sh):opK (aOp Γ b (.bslice sh) vs hp) K Kp=zoe (zb6 sh hp vs) K:=by
 show opK (match(zb6 sh hp vs) with|some (v,hp')=>some (OpRes.val v hp')|none=>none) K Kp=_
 cases (zb6 sh hp vs) with
 |none=>rfl
 |some r=>cases r;rfl
theorem zok(s:Sh)(f:FuncId)(azs:List AV):opK (aOp Γ b .call (.pv s (.func (.func f))::azs) hp) K Kp=zoy (Γ .fn f azs hp) K Kp:=by
 simp only[aOp,zdg,za7,List.nil_append,List.append_nil]
 cases Γ .fn f azs hp with
 |none=>rfl
 |some r=>obtain⟨r,hp'⟩:=r;cases r <;> rfl
end Go.Am
namespace Go.Am
variable{Γ:Oracle} {Λ:zad} {b:Nat} {hp:Heap} {vs:List AV} {K:AV->Heap->Prop} {Kp:PV->Heap->Prop}
end Go.Am

/- What code comes to: values; calls of functions. -/
namespace Go.Am
variable{Γ:Oracle} {Λ:zad} {b:Nat} {hp:Heap} {K:AV->Prop} {s s':Sh} {sh:Sh} {k:IntKind} {x y:Int}

theorem s_mv(v:AV):sMv [v]=some v:=rfl
theorem znv(es:List PV):sLen [.pv s (.sl sh es)]=some (.pv none (.int .i64 es.length)):=rfl
theorem zoH(c:Bool)(u v:AV):ziy [.pv s (.bool c),u,v]=some (bif c then u else v):=rfl
theorem zmr(o:BinOp):valK (sBin o [.pv s (.int k x),.pv s' (.int k y)]) K=pvK (zdc o k x y) (fun p=>K (.pv none p)):=by
 simp only[sBin,zk1,if_true]
 cases zdc o k x y <;> rfl
theorem zms(o:BinOp)(u v:List UInt8):valK (sBin o [.pv s (.str u),.pv s' (.str v)]) K=pvK (zfS o u v) (fun p=>K (.pv none p)):=by
 simp only[sBin,zk1]
 cases zfS o u v <;> rfl
theorem zoI(o:BinOp)(u v:Bool):valK (ziz o [.pv s (.bool u),.pv s' (.bool v)]) K=pvK (zdU o u v) (fun p=>K (.pv none p)):=by
 simp only[ziz]
 cases zdU o u v <;> rfl
theorem zps:zdc .add k x y=some (.int k (k.wrap (x+y))):=rfl
theorem zpt:zdc .eql k x y=some (.bool (decide (x=y))):=rfl
theorem zpu:zdc .lss k x y=some (.bool (decide (x<y))):=rfl
theorem zpv:zdc .gtr k x y=some (.bool (decide (y<x))):=rfl
theorem zpw:zdc .geq k x y=some (.bool (decide (y<=x))):=rfl
theorem zoJ{u v:List UInt8}:zfS .eql u v=some (.bool (decide (u=v))):=rfl
theorem zpx{u v:Bool}:zdU .eql u v=some (.bool (u == v)):=rfl
theorem zc9{es:List PV}{i:Nat}{p:PV}(h:es[i]? =some p):zeq sh [.pv s (.sl sh es),.pv s' (.int k i)]=some (.iptr sh p 0):=by
 simp[zeq,aindex,h]
theorem zmt(i:Nat)(l:List AV):zcj i [.tuple l]=l[i]? :=rfl
theorem zoK(p:AV):zfM sh hp [p]=aload sh hp p:=rfl
def zpy(sh:Sh)(off:Nat):Option AObj->Option AV
 |some (.box s v)=>if off=0/\s=sh then some v else AV.part deep v off sh
 |_=>none
def toAV(sh:Sh):Option PV->Option AV
 |some p=>some (.pv sh p)
 |none=>none
theorem zkP(p:PV)(off:Nat):aload sh hp (.iptr s p off)=if off=0/\s=sh then some (.pv sh p) else toAV sh (PV.part deep p off sh):=by
 simp only[aload,toAV]
 split
 ·rfl
 ·cases PV.part deep p off sh <;> rfl
def endK(rs:List RSlot)(Q:AV->Heap->Prop)[Tag Q]:AExit->St->Prop
 | .normal,st=>match zaH st rs with
  |some v=>Q v st.hp
  |none=>False
 | .ret,st=>match zaH st rs with
  |some v=>Q v st.hp
  |none=>False
 |_,_=>False
theorem zjW(rs:List RSlot)(Q:AV->Heap->Prop)(st:St):endK rs Q .ret st=valK (zaH st rs) (fun v=>Q v st.hp):=by
 show(match zaH st rs with|some v=>Q v st.hp|none=>False)=_
 cases zaH st rs <;> rfl
theorem zfH(rs:List RSlot)(Q:AV->Heap->Prop)(st:St):endK rs Q .normal st=valK (zaH st rs) (fun v=>Q v st.hp):=by
 show(match zaH st rs with|some v=>Q v st.hp|none=>False)=_
 cases zaH st rs <;> rfl
theorem zkQ(st:St)(r:Nat):zaH st [(r,none)]=st.fr.look r:=rfl
theorem zkR(i:Nat):params i []=[]:=rfl
theorem zjq(i:Nat)(v:AV)(r:List AV):params i (v::r)=(i,v)::params (i+1) r:=rfl

def frozen(v:AV):AV->Heap->Prop:=fun v' hp=>∃hp',v'.freezeRes hp=some (v,hp')
theorem zmu(p:PV)(v:AV):frozen v (.pv s p) hp=(.pv s p=v):=by
 have h:AV.freeze deep (.pv s p) hp=some (p,hp):=rfl
 simp only[frozen,AV.freezeRes,h,AV.shp]
 exact propext ⟨fun⟨_,h⟩=>by cases h;rfl,fun h=>⟨hp,by rw[h]⟩⟩
theorem zax:∀(ps:List (Sh × PV)),zap (pvs ps) hp=some (ps,hp)
 |[]=>rfl
 |(sh,p)::r=>by
  have h:AV.freeze deep (.pv sh p) hp=some (p,hp):=rfl
  show zap (.pv sh p::pvs r) hp=_
  simp only[zap,h,zax r,AV.shp]

variable{F:FuncId->Option AFn} {prim:FuncId->Option zbg}
theorem zb5{f:FuncId}{fn:AFn}{args:List AV}{ps:List (Sh × PV)}{hp:Heap}{v:AV}(hp0:prim f=none)(hf:F f=some fn)(hm:fn.heapMode=false)(hz:zap args hp=some (ps,hp))(hn:(pvs ps).length=fn.nparams)
  (h:W (sem F prim) (sloop F prim) 0 fn.code ⟨params 0 (pvs ps),[]⟩ (endK fn.results (frozen v)))(hr:fn.rcv=none:=by rfl)(hmo:fn.more=[]:=by rfl):sem F prim .fn f args hp=some (.ret v,hp):=by
 rw[zl8]
 unfold zbb
 rw[hp0,hf]
 simp only[hr,hmo,Option.isSome_none,hm,Bool.false_eq_true,if_false,hz,abody,hn,ne_eq,not_true_eq_false]
 unfold W at h
 split at h
 ·rename_i e st' he
  have hl:([]:Heap).length=0:=rfl
  rw[hl,he]
  cases e with
  |normal=>
   rw[zfH] at h
   cases hr:zaH st' fn.results with
   |none=>rw[hr] at h;exact h.elim
   |some u=>
    rw[hr] at h
    obtain⟨hp',h⟩:=h
    simp only[hr,h]
    cases v.scalar <;> rfl
  |ret=>
   rw[zjW] at h
   cases hr:zaH st' fn.results with
   |none=>rw[hr] at h;exact h.elim
   |some u=>
    rw[hr] at h
    obtain⟨hp',h⟩:=h
    simp only[hr,h]
    cases v.scalar <;> rfl
  |exit i=>exact h.elim
  |panic v=>exact h.elim
 ·exact h.elim
theorem znP{c:ACode}{st:St}{Q Q':AExit->St->Prop}(h:W Γ Λ b c st Q)(hq:∀e st',Q e st'->Q' e st'):W Γ Λ b c st Q':=by
 unfold W at h ⊢
 split at h
 ·exact hq _ _ h
 ·exact h.elim
theorem zoL(I:Nat->St->Prop){b:Nat}{keep:List Nat}{c:ACode}{st:St}{Q:AExit->St->Prop}{n:Nat}(h0:I n ⟨st.fr.keep keep,st.hp⟩)
  (h:∀n st1,I n st1->W (sem F prim) (sloop F prim) b c st1 (fun e st'=>match e with
   | .normal=>∃m,m<n/\I m ⟨st'.fr.keep keep,collect st.hp.length b (st'.fr.keep keep) st'.hp⟩
   |e=>Q e st')):W (sem F prim) (sloop F prim) b (.loop keep c) st Q:=by
 unfold W
 simp only[aexec]
 have key:∀n st1,I n st1->match sloop F prim b st.hp.length keep c st1 with|some (e,st')=>Q e st'|none=>False:=by
  intro n
  induction n using Nat.strongRecOn with
  |_ n ih=>
   intro st1 hI
   have hw:=h n st1 hI
   unfold W at hw
   rw[zjS]
   split at hw
   ·rename_i e st' he
    rw[he]
    cases e with
    |normal=>
     obtain⟨m,hm,hI'⟩:=hw
     exact ih m hm _ hI'
    |exit i=>exact hw
    |ret=>exact hw
    |panic v=>exact hw
   ·exact hw.elim
 exact key n _ h0
end Go.Am
namespace Go.Am
variable{Γ:Oracle} {Λ:zad} {b:Nat} {hp:Heap} {K:AV->Heap->Prop} {s s':Sh} {sh:Sh} {k:IntKind} {x y:Int}
theorem zol:Am.pvs []=[]:=rfl
theorem znw(s:Sh)(p:PV)(r:List (Sh × PV)):Am.pvs ((s,p)::r)=.pv s p::Am.pvs r:=rfl
theorem zcb(h:0<sh.size):zdd sh hp=some (.sl sh hp.length 0 0 0,hp++[.arr sh [] false]):=by
 simp[zdd,h]
def zoM(x:Sh × PV):Option (List (Sh × PV) × Heap)->Option (List (Sh × PV) × Heap)
 |some (l,hp)=>some (x::l,hp)
 |none=>none
theorem zkS(x:Sh × PV)(l:List (Sh × PV))(hp:Heap):zoM x (some (l,hp))=some (x::l,hp):=rfl
theorem zhd(hp:Heap):zap [] hp=some ([],hp):=rfl
theorem zin(s:Sh)(p:PV)(r:List AV)(hp:Heap):zap (.pv s p::r) hp=zoM (s,p) (zap r hp):=by
 have h:AV.freeze deep (.pv s p) hp=some (p,hp):=rfl
 simp only[zap,h,AV.shp]
 cases zap r hp with
 |none=>rfl
 |some x=>rfl
def bslO(sh:Sh):Option (List PV)->Heap->Option (AV × Heap)
 |some es,hp=>some (.tsl sh es,hp)
 |none,_=>none
def bslZ(sh:Sh):Option (List (Sh × PV) × Heap)->Option (AV × Heap)
 |some (ps,hp)=>bslO sh (za9 sh ps) hp
 |none=>none
theorem znx(sh:Sh)(hp:Heap)(vs:List AV):zb6 sh hp vs=bslZ sh (zap vs hp):=by
 unfold zb6 bslZ
 cases zap vs hp with
 |none=>rfl
 |some x=>
  obtain⟨ps,hp'⟩:=x
  simp only[]
  cases za9 sh ps <;> rfl
theorem zmv(sh:Sh)(ps:List (Sh × PV))(hp:Heap):bslZ sh (some (ps,hp))=bslO sh (za9 sh ps) hp:=rfl
theorem zmw(sh:Sh)(es:List PV)(hp:Heap):bslO sh (some es) hp=some (.tsl sh es,hp):=rfl
def zoN(p:PV):Option (List PV)->Option (List PV)
 |some l=>some (p::l)
 |none=>none
theorem zkT(p:PV)(l:List PV):zoN p (some l)=some (p::l):=rfl
theorem zjr(sh:Sh):za9 sh []=some []:=rfl
theorem zio(sh s:Sh)(p:PV)(r:List (Sh × PV)):za9 sh ((s,p)::r)=if s=sh then zoN p (za9 sh r) else none:=by
 simp only[za9]
 split
 ·cases za9 sh r <;> rfl
 ·rfl
def okArr(sh:Sh)(n:Nat):Option AObj->Prop
 |some (.arr s es false)=>s=sh/\es.length=n
 |_=>False
def ziq(n:Nat):Option AObj->Prop
 |some (.arr _ es _)=>es.length=n
 |_=>False
def zmx:Option AObj->List PV
 |some (.arr _ es _)=>es
 |_=>[]
def zmy:Option AObj->Sh
 |some (.arr s _ _)=>s
 |_=>none
theorem zkU{s:Sh}{n:Nat}{fz:Bool}(es:List PV):ziq n (some (.arr s es fz))=(es.length=n):=rfl
theorem zmz{s:Sh}{fz:Bool}(es:List PV):zmx (some (.arr s es fz))=es:=rfl
theorem zmA{s:Sh}{fz:Bool}(es:List PV):zmy (some (.arr s es fz))=s:=rfl
theorem zmB{n:Nat}{o:Option AObj}(h:ziq n o):∃sh es fz,o=some (.arr sh es fz)/\es.length=n:=by
 unfold ziq at h
 split at h
 ·exact⟨_,_,_,rfl,h⟩
 ·exact h.elim
theorem freeze_sl'{sh:Sh}{hp:Heap}{r n:Nat}(h:ziq n hp[r]?):AV.freeze deep (.sl sh r n 0 n) hp=some (.sl (zmy hp[r]?) (zmx hp[r]?),hp.set r (.arr (zmy hp[r]?) (zmx hp[r]?) true)):=by
 obtain⟨sh',es,fz,ho,rfl⟩:=zmB h
 show AV.freeze (7+1) _ _=_
 simp[AV.freeze,ho,zmx,zmy]
theorem zmC{sh:Sh}{hp:Heap}{r n:Nat}{v:AV}(h:ziq n hp[r]?):frozen v (.sl sh r n 0 n) hp=(.pv none (.sl (zmy hp[r]?) (zmx hp[r]?))=v):=by
 simp only[frozen,AV.freezeRes,freeze_sl' h,AV.shp]
 exact propext ⟨fun⟨_,h⟩=>by cases h;rfl,fun h=>⟨_,by rw[h]⟩⟩
theorem zkV{sh:Sh}{hp:Heap}{es:List PV}{v:AV}:frozen v (.tsl sh es) hp=(.pv none (.sl sh es)=v):=by
 have h:AV.freeze deep (.tsl sh es) hp=some (.sl sh es,hp):=rfl
 simp only[frozen,AV.freezeRes,h,AV.shp]
 exact propext ⟨fun⟨_,h⟩=>by cases h;rfl,fun h=>⟨_,by rw[h]⟩⟩
end Go.Am

/- (empty) -/

/- The steps, azs one set. -/
namespace Go.Am
attribute [go_sem] zoz zoA zpm zpn zoB zof znm zpo zoC zog zpp zpq zmh znn zno zmi zkH zmj zkI zjn zmk zkJ zkK zml znp zmm zkL zjo zmn znq zhc zjp zkM zmo znr zpr zoF zoh zoG zoi zns znt zkN zoj zmp zkO znu zmq zok s_mv znv zoH zmr zms zoI zps zpt zpu zpv zpw zoJ zpx zmt zoK zkP zjW zfH zkQ zkR zjq zmu zkS zhd zin znx zmv zmw zkT zjr zio zkU zmz zmA zmC zkV if_true if_false true_and and_true false_and and_false and_self Nat.zero_add Nat.add_zero eq_self Bool.true_eq_false Bool.false_eq_true cond_true cond_false decide_eq_true_eq Bool.not_eq_true' Bool.not_eq_false' decide_eq_false_iff_not not_true_eq_false not_false_eq_true Bool.true_and Bool.false_and Bool.and_true Bool.and_false Bool.not_true Bool.not_false Option.some.injEq decide_true decide_false List.getElem?_cons_zero List.getElem?_cons_succ List.length_cons List.length_nil List.nil_append List.cons_append List.set_cons_zero List.set_cons_succ List.take_zero List.drop_zero znw zol
end Go.Am

/- Terms: sizes, valid ones; how their parts are read. -/
namespace Go.Am
mutual
def Tm.size:Tm->Nat
 | .mk _ _ _ azs=>1+Tm.sizes azs
def Tm.sizes:List Tm->Nat
 |[]=>0
 |t::r=>t.size+Tm.sizes r
end
theorem znQ{x:Int}(h: -9223372036854775808<=x)(h':x<9223372036854775808):IntKind.i64.wrap x=x:=by
 rw[IntKind.wrap_i64]
 omega
end Go.Am
namespace Go.Am
def Tm.node(t:Tm):Bool:=
 if t.kind=0 then decide (0<=t.n) && decide (t.n<=1099511627776) && decide (t.name=[]) && decide ((t.args.length:Int)=0)
 else if t.kind=1 then decide (t.name=[]) && decide ((t.args.length:Int)=0)
 else if t.kind=2 then decide (t.n=0) && decide ((t.name.length:Int)<=100) && decide ((t.args.length:Int)=0)
 else if t.kind=3 then decide (t.n=0) && decide ((t.name.length:Int)<=100) && decide (0<(t.args.length:Int)) && decide ((t.args.length:Int)<=8)
 else false
mutual
def Tm.fits:Tm->Bool
 | .mk k n s azs=>Tm.node (.mk k n s azs) && Tm.fitsAll azs
def Tm.fitsAll:List Tm->Bool
 |[]=>true
 |t::r=>t.fits && Tm.fitsAll r
end
def Tm.valid(t:Tm):Bool:=decide (t.size<=2000) && t.fits
end Go.Am

/- Functions that run on their caller's heap; loops' heaps. -/
namespace Go.Am
variable{F:FuncId->Option AFn} {prim:FuncId->Option zbg}
theorem zkW{n b:Nat}{fr:Fr}{hp:Heap}(h:hp.length=n):collect n b fr hp=hp:=by
 unfold collect
 split
 ·rw[<-h,List.take_length]
 ·rfl
end Go.Am
namespace Go.Am
variable{Γ:Oracle} {Λ:zad} {b:Nat}
end Go.Am

namespace Go.Am
theorem zir{b:Nat}{fr:Fr}:collect 0 b fr []=[]:=zkW rfl
theorem zjX{F:FuncId->Option AFn}{prim:FuncId->Option zbg}{f:FuncId}{p:zbg}(h:prim f=some p)(azs:List AV)(hp:Heap):sem F prim .fn f azs hp=p f azs hp:=by
 rw[zl8]
 unfold zbb
 rw[h]
end Go.Am

namespace Go.Am
end Go.Am

namespace Go.Am
def Kept(p:Prop):Prop:=p
theorem Kept.out{p:Prop}(h:Kept p):p:=h
theorem Kept.mk{p:Prop}(h:p):Kept p:=h
end Go.Am
namespace Go.Am
end Go.Am

namespace Go.Am
end Go.Am

namespace Go.Am
end Go.Am

namespace Go.Am
end Go.Am

namespace Go.Am
attribute [go_sem] zir
end Go.Am

/- Flat clauses azs plain data. -/
namespace Go.Am
structure Pr where
 name:List UInt8
 arity:Int
 aux:Int
structure Gl where
 kind:Int
 pred:Pr
 args:List Tm
 var:Int
structure Fl where
 pred:Pr
 args:List Tm
 goals:List Gl
def Pr.pv(p:Pr):PV:=.agg [(none,.str p.name),(none,.int .i64 p.arity),(none,.int .i64 p.aux)]
def Gl.pv(g:Gl):PV:=.agg [(none,.int .i64 g.kind),(some 3,g.pred.pv),(none,.sl (some 4) (Tm.pvs g.args)),(none,.int .i64 g.var)]
def Gl.pvs(l:List Gl):List PV:=l.map Gl.pv
def Fl.pv(f:Fl):PV:=.agg [(some 3,f.pred.pv),(none,.sl (some 4) (Tm.pvs f.args)),(none,.sl (some 6) (Gl.pvs f.goals))]
def Pr.ok(p:Pr):Bool:=
 if p.aux=0 then decide ((p.name.length:Int)<=100) && decide (0<=p.arity) && decide (p.arity<=8)
 else decide (p.name=[]) && decide (1<=p.aux) && decide (p.aux<=1099511627776) && decide (0<=p.arity) && decide (p.arity<=4096)
def Pr.zero(p:Pr):Bool:=decide (p.name=[]) && decide (p.arity=0) && decide (p.aux=0)
def zom(left:Int):List Tm->Bool × Int
 |[]=>(true,left)
 |t::r=>if t.valid=true then if left - t.size<0 then(false,left - t.size) else zom (left - t.size) r else(false,left)
def Gl.bare(g:Gl):Bool:=g.pred.zero && decide ((g.args.length:Int)=0)
def Gl.step(called:Bool)(left:Int)(g:Gl):Option (Bool × Int):=
 if g.kind=1 then
  if(g.pred.ok && decide ((g.args.length:Int)=g.pred.arity) && decide (g.var=0))=true then match zom left g.args with
   |(true,l)=>some (true,l)
   |_=>none
  else none
 else if g.kind=2 then if(g.bare && decide (0<=g.var) && decide (g.var<=1099511627776) && !called)=true then some (called,left) else none
 else if g.kind=3\/g.kind=4 then if(g.bare && decide (0<=g.var) && decide (g.var<=1099511627776))=true then some (called,left) else none
 else if g.kind=5 then if(g.bare && decide (g.var=0))=true then some (called,left) else none
 else none
def Gl.steps:Bool->Int->List Gl->Bool
 |_,_,[]=>true
 |called,left,g::r=>match g.step called left with
  |some (c,l)=>Gl.steps c l r
  |none=>false
def Fl.valid(f:Fl):Bool:=
 f.pred.ok && decide ((f.args.length:Int)=f.pred.arity) && match zom 131072 f.args with
  |(true,l)=>Gl.steps false l f.goals
  |_=>false

end Go.Am
namespace Go.Am
end Go.Am
namespace Go.Am
end Go.Am
namespace Go.Am
end Go.Am
namespace Go.Am
end Go.Am
namespace Go.Am
end Go.Am
namespace Go.Am
end Go.Am
namespace Go.Am
def Gl.op(g:Gl):Bool:=decide (g.kind=2) || decide (g.kind=3) || decide (g.kind=4)
def Gl.next(calls:Int)(g:Gl):Int:=if g.kind=1 then calls+1 else calls
end Go.Am

/- Heaps of which a part is known. -/
namespace Go.Am
variable{F:FuncId->Option AFn} {prim:FuncId->Option zbg}
theorem zoO{α:Type}(N:Nat)(inv:Nat->α->Prop)(sti:Nat->α->St){b:Nat}{keep:List Nat}{c:ACode}{st:St}{Q:AExit->St->Prop}(a0:α)(h0:inv 0 a0/\(⟨st.fr.keep keep,st.hp⟩:St)=sti 0 a0)
  (h1:∀i a,i<N->inv i a->W (sem F prim) (sloop F prim) b c (sti i a) (seqK (fun st'=>∃a',inv (i+1) a'/\(⟨st'.fr.keep keep,collect st.hp.length b (st'.fr.keep keep) st'.hp⟩:St)=sti (i+1) a') Q))
  (h2:∀a,inv N a->W (sem F prim) (sloop F prim) b c (sti N a) (seqK (fun _=>False) Q)):W (sem F prim) (sloop F prim) b (.loop keep c) st Q:=by
 refine zoL (fun n s=>∃i a,n=N - i/\i<=N/\inv i a/\s=sti i a) (n:=N) ⟨0,a0,rfl,Nat.zero_le _,h0.1,h0.2⟩ ?_
 rintro n s ⟨i,a,hn,hi,hinv,rfl⟩
 by_cases h:i<N
 ·refine znP (h1 i a h hinv) fun e st' he=> ?_
  cases e with
  |normal=>
   obtain⟨a',k1,k2⟩:=he
   exact⟨N - (i+1),by omega,i+1,a',rfl,by omega,k1,k2⟩
  |exit j=>exact he
  |ret=>exact he
  |panic v=>exact he
 ·obtain rfl:i=N:=by omega
  refine znP (h2 a hinv) fun e st' he=> ?_
  cases e with
  |normal=>exact he.elim
  |exit j=>exact he
  |ret=>exact he
  |panic v=>exact he
end Go.Am

/- What a law is given, azs values without references. -/
namespace Go.Am
variable{P:Program} {H:Type} {enc:TypeId × Value->H} {w:World} {I:Nat->Prop}

theorem zdR{α β:Type}{g:α->Option β}:∀{l:List α} {xs:List β},l.mapM g=some xs->l.length=xs.length/\∀(i:Nat) (a:α) (x:β),l[i]? =some a->xs[i]? =some x->g a=some x
 |[],xs,h=>by
  simp at h
  subst h
  exact⟨rfl,fun i a x h=>by simp at h⟩
 |a::r,xs,h=>by
  rw[List.mapM_cons] at h
  cases ha:g a with
  |none=>rw[ha] at h;cases h
  |some y=>
   rw[ha] at h
   cases hr:r.mapM g with
   |none=>rw[hr] at h;cases h
   |some ys=>
    rw[hr] at h
    cases h
    obtain⟨h1,h2⟩:=zdR hr
    refine⟨by simp[h1],fun i b x hb hx=> ?_⟩
    cases i with
    |zero=>simp at hb hx;subst hb;subst hx;exact ha
    |succ i=>exact h2 i b x (by simpa using hb) (by simpa using hx)

def zdb(sh:Sh)(cs:List Value):Value:=
 match sh with
 |none=>cs.headD .nilIface
 |some _=>.agg cs.toArray

def zda(P:Program)(n:Nat):Nat->List Field->Bool
 |o,[]=>decide (o=n)
 |o,f::r=>decide (f.offset=o) && okT P f.type && zda P n (o+(shOf P f.type).size) r
def zbG(P:Program)(g:TypeId->DataW H->Option PV):List Field->List (DataW H)->Option (List (Sh × PV))
 |[],[]=>some []
 |f::fs,d::ds=>match g f.type d with
  |none=>none
  |some p=>match zbG P g fs ds with
   |some l=>some ((shOf P f.type,p)::l)
   |none=>none
 |_,_=>none
def zcF(g:DataW H->Option PV):List (DataW H)->Option (List PV)
 |[]=>some []
 |d::ds=>match g d with
  |none=>none
  |some p=>match zcF g ds with
   |some l=>some (p::l)
   |none=>none
def zcX(P:Program):Nat->TypeId->DataW H->Option PV
 |0,_,_=>none
 |n+1,t,d=>match P.underlying t,d with
  |some .bool,.lit (.bool b)=>some (.bool b)
  |some (.int k),.lit (.int k' n)=>if k'=k/\(Lit.int k n).wf=true then some (.int k n) else none
  |some .string,.lit (.string l)=>some (.str l)
  |some (.slice e),.nil=>some (.sl (shOf P e) [])
  |some (.slice e),.slice es _=>if okT P e=true then match zcF (zcX P n e) es with
    |some l=>some (.sl (shOf P e) l)
    |none=>none
   else none
  |some (.struct fs),.agg parts=>if zda P (P.cellsOf t) 0 fs.toList=true then match zbG P (zcX P n) fs.toList parts with
    |some l=>some (.agg l)
    |none=>none
   else none
  |_,_=>none

theorem zis{t:TypeId}(h:okT P t=true):P.cellsOf t=(shOf P t).size/\0<P.cellsOf t:=by
 unfold okT at h
 split at h
 ·rename_i i _ hi _
  simp only[Bool.and_eq_true,beq_iff_eq,decide_eq_true_eq] at h
  have:P.cellsOf t=i.size:=by simp[Program.cellsOf,hi]
  omega
 ·cases h

theorem zgm{base:Nat}{a:Addr}{n:Nat}{l:List Value}(h:w.cells? base a n=some l)(hn:0<n):a.spot=none/\∃cs t fr,w.heap[a.block]? =some (.cells cs t fr)/\l=(cs.toList.drop a.off).take n/\l.length=n:=by
 unfold World.cells? at h
 split at h
 ·obtain⟨h1,h2⟩:=zdR h
  rw[List.length_range] at h1
  have rd:∀i,i<n->∃v,l[i]? =some v/\w.cell? (a.add i)=some v:=by
   intro i hi
   have hl:l[i]? =some l[i]:=List.getElem?_eq_getElem (by omega)
   exact⟨l[i],hl,h2 i i l[i] (by simp[hi]) hl⟩
  obtain⟨v0,hv0,hc0⟩:=rd 0 hn
  unfold World.cell? at hc0
  split at hc0
  ·rename_i cs t fr hb
   split at hc0
   ·cases hc0
   ·rename_i hsp
    have hb':w.heap[a.block]? =some (.cells cs t fr):=hb
    have hsp':a.spot=none:=by simpa[Addr.add] using hsp
    refine⟨hsp',cs,t,fr,hb',?_,h1.symm⟩
    apply List.ext_getElem?
    intro i
    by_cases hi:i<n
    ·obtain⟨v,e1,e2⟩:=rd i hi
     rw[e1]
     have ea:a.add i=⟨a.block,a.off+i,none⟩:=by
      unfold Addr.add
      split
      ·rename_i h0;subst h0;cases a;simp_all
      ·rfl
     rw[ea] at e2
     simp only[World.cell?,hb',Option.isSome_none,Bool.false_eq_true,if_false] at e2
     rw[List.getElem?_take_of_lt hi,List.getElem?_drop]
     simpa using e2.symm
    ·rw[List.getElem?_eq_none (by omega),List.getElem?_eq_none (by simp;omega)]
  ·cases hc0
 ·cases h

theorem zit{g:TypeId->List Value->Option (DataW H × List MemPlace)}{f:TypeId->DataW H->Option PV}
  (hg:∀t cs d ps p,g t cs=some (d,ps)->okT P t=true->f t d=some p->PR w I p (zdb (shOf P t) cs)/\vshp (zdb (shOf P t) cs)=shOf P t/\(zdb (shOf P t) cs).cells.toList=cs)(cs:List Value):
  ∀(fs:List Field) (o:Nat) (xs:List (DataW H × List MemPlace)) (l:List (Sh × PV)),zda P cs.length o fs=true->fs.mapM (fun fd=>g fd.type ((cs.drop fd.offset).take (P.cellsOf fd.type)))=some xs->zbG P f fs (xs.map (·.1))=some l->
  ∃vs:List Value,l.length=vs.length/\(∀(i:Nat) (x:Sh × PV) (v:Value),l[i]? =some x->vs[i]? =some v->vshp v=x.1)/\(∀(i:Nat) (x:Sh × PV) (v:Value),l[i]? =some x->vs[i]? =some v->PR w I x.2 v)/\cellsOf vs=cs.drop o
 |[],o,xs,l,hok,hm,hp=>by
  simp[zda] at hok
  simp at hm
  subst hm
  simp[zbG] at hp
  subst hp
  exact⟨[],rfl,fun i x v h=>by simp at h,fun i x v h=>by simp at h,by simp[cellsOf,hok]⟩
 |fd::r,o,xs,l,hok,hm,hp=>by
  simp only[zda,Bool.and_eq_true,decide_eq_true_eq] at hok
  obtain⟨⟨h1,h2⟩,h3⟩:=hok
  rw[List.mapM_cons] at hm
  cases ha:g fd.type ((cs.drop fd.offset).take (P.cellsOf fd.type)) with
  |none=>rw[ha] at hm;cases hm
  |some y=>
   rw[ha] at hm
   cases hr:r.mapM (fun fd=>g fd.type ((cs.drop fd.offset).take (P.cellsOf fd.type))) with
   |none=>rw[hr] at hm;cases hm
   |some ys=>
    rw[hr] at hm
    cases hm
    simp only[List.map_cons,zbG] at hp
    split at hp
    ·cases hp
    ·rename_i p hfp
     split at hp
     ·rename_i l' hl'
      cases hp
      obtain⟨k1,k2,k3⟩:=hg _ _ y.1 y.2 p ha h2 hfp
      obtain⟨vs,e1,e2,e3,e4⟩:=zit hg cs r _ ys l' h3 hr hl'
      refine⟨zdb (shOf P fd.type) ((cs.drop fd.offset).take (P.cellsOf fd.type))::vs,by simp[e1],?_,?_,?_⟩
      ·intro i x v hx hv
       cases i with
       |zero=>simp at hx hv;subst hx;subst hv;exact k2
       |succ i=>exact e2 i x v (by simpa using hx) (by simpa using hv)
      ·intro i x v hx hv
       cases i with
       |zero=>simp at hx hv;subst hx;subst hv;exact k1
       |succ i=>exact e3 i x v (by simpa using hx) (by simpa using hv)
      ·simp only[cellsOf,List.flatMap_cons,k3]
       have e4':List.flatMap (fun v=>v.cells.toList) vs=cs.drop (o+(shOf P fd.type).size):=e4
       rw[e4',h1,(zis h2).1,<-List.drop_drop,List.take_append_drop]
     ·cases hp

theorem zjY{f:DataW H->Option PV}{g:Nat->Option (DataW H × List MemPlace)}{R:Nat->PV->Prop}
  (hg:∀i d ps p,g i=some (d,ps)->f d=some p->R i p):
  ∀(is:List Nat) (xs:List (DataW H × List MemPlace)) (l:List PV),is.mapM g=some xs->zcF f (xs.map (·.1))=some l->
  l.length=is.length/\∀(k i:Nat) (p:PV),is[k]? =some i->l[k]? =some p->R i p
 |[],xs,l,hm,hp=>by
  simp at hm
  subst hm
  simp[zcF] at hp
  subst hp
  exact⟨rfl,fun k i p h=>by simp at h⟩
 |i::r,xs,l,hm,hp=>by
  rw[List.mapM_cons] at hm
  cases ha:g i with
  |none=>rw[ha] at hm;cases hm
  |some y=>
   rw[ha] at hm
   cases hr:r.mapM g with
   |none=>rw[hr] at hm;cases hm
   |some ys=>
    rw[hr] at hm
    cases hm
    simp only[List.map_cons,zcF] at hp
    split at hp
    ·cases hp
    ·rename_i p hfp
     split at hp
     ·rename_i l' hl'
      cases hp
      obtain⟨e1,e2⟩:=zjY hg r ys l' hr hl'
      refine⟨by simp[e1],fun k j q hk hq=> ?_⟩
      cases k with
      |zero=>simp at hk hq;subst hk;subst hq;exact hg i y.1 y.2 p ha hfp
      |succ k=>exact e2 k j q (by simpa using hk) (by simpa using hq)
     ·cases hp

theorem zgn(f:Nat->Value)(l:List Value)(o n:Nat):∀m:Nat,(∀i,i<m->(f i).cells.toList=(l.drop (o+i*n)).take n)->cellsOf ((List.range m).map f)=(l.drop o).take (m*n)
 |0,_=>by simp[cellsOf]
 |m+1,h=>by
  have ih:=zgn f l o n m fun i hi=>h i (by omega)
  unfold cellsOf at ih ⊢
  rw[List.range_succ,List.map_append,List.flatMap_append,ih]
  simp only[List.map_cons,List.map_nil,List.flatMap_cons,List.flatMap_nil,List.append_nil]
  rw[h m (by omega),Nat.add_mul,Nat.one_mul,List.take_add,List.drop_drop]

theorem zon(hI:∀b,I b){base:Nat}{spare:Nat->Bool}{held:Bool}:∀(fuel:Nat) (n:Nat) (t:TypeId) (cs:List Value) (d:DataW H) (ps:List MemPlace) (p:PV),DataW.trod enc P w base spare held fuel t cs=some (d,ps)->okT P t=true->zcX P n t d=some p->
  PR w I p (zdb (shOf P t) cs)/\vshp (zdb (shOf P t) cs)=shOf P t/\(zdb (shOf P t) cs).cells.toList=cs:=by
 intro fuel
 induction fuel with
 |zero=>intro n t cs d ps p h;cases h
 |succ fuel ih=>
  intro n t cs d ps p h hok hp
  cases n with
  |zero=>cases hp
  |succ n=>
  simp only[zcX] at hp
  cases hu:P.underlying t with
  |none=>rw[hu] at hp;cases hp
  |some u=>
   rw[hu] at hp
   unfold DataW.trod at h
   rw[hu] at h
   cases u with
   |bool=>
    have hs:shOf P t=none:=by unfold shOf;rw[hu]
    rw[hs]
    simp only at h hp
    split at h <;> first|contradiction|(exfalso;clear ih;simp_all;done)|skip
    ·cases h
     cases hp
     exact⟨.bool _,rfl,rfl⟩
   |int k=>
    have hs:shOf P t=none:=by unfold shOf;rw[hu]
    rw[hs]
    simp only at h hp
    split at h <;> first|contradiction|(exfalso;clear ih;simp_all;done)|skip
    ·rename_i e
     split at h
     ·rename_i e2
      obtain⟨e2,e3⟩:=e2
      subst e2
      cases h
      cases e
      simp only[e3,and_self,if_true] at hp
      cases hp
      exact⟨.int _ _,rfl,rfl⟩
     ·cases h
   |string=>
    have hs:shOf P t=none:=by unfold shOf;rw[hu]
    rw[hs]
    simp only at h hp
    split at h <;> first|contradiction|(exfalso;clear ih;simp_all;done)|skip
    ·split at h
     ·cases h
      cases hp
      exact⟨.str _,rfl,rfl⟩
     ·cases h
   |slice e=>
    have hs:shOf P t=none:=by unfold shOf;rw[hu]
    rw[hs]
    simp only at h hp
    split at h <;> first|contradiction|(exfalso;clear ih;simp_all;done)|skip
    ·cases h
     cases hp
     exact⟨.nilsl _ _ _,rfl,rfl⟩
    ·rename_i e' a len cap hx
     cases hx
     split at h
     ·rename_i hb
      obtain⟨hb1,hb2,hb3⟩:=hb
      rw[Option.bind_eq_some_iff] at h
      obtain⟨elems,hm,h⟩:=h
      rw[Option.map_eq_some_iff] at h
      obtain⟨rest,hr,h⟩:=h
      cases h
      simp only at hp
      split at hp
      ·rename_i hoe
       split at hp
       ·rename_i l hl
        cases hp
        obtain⟨hc1,hc2⟩:=zis hoe
        obtain⟨k1,k2⟩:=zjY (R:=fun i p=>PR w I p (zdb (shOf P e) (((w.cells? base (a.add (i*P.cellsOf e)) (P.cellsOf e))).getD []))/\vshp (zdb (shOf P e) (((w.cells? base (a.add (i*P.cellsOf e)) (P.cellsOf e))).getD []))=shOf P e/\(zdb (shOf P e) (((w.cells? base (a.add (i*P.cellsOf e)) (P.cellsOf e))).getD [])).cells.toList=((w.cells? base (a.add (i*P.cellsOf e)) (P.cellsOf e))).getD []) (fun i d ps p hg hf=>by
         rw[Option.bind_eq_some_iff] at hg
         obtain⟨c,hc,hg⟩:=hg
         rw[hc]
         exact ih n e c d ps p hg hoe hf) _ _ _ hm hl
        rw[List.length_range] at k1
        refine⟨?_,rfl,rfl⟩
        have hel:elems.length=len:=by have:=(zdR hm).1;simpa using this.symm
        cases len with
        |zero=>
         have:l=[]:=List.length_eq_zero_iff.1 (by omega)
         subst this
         exact .nilsl _ _ _
        |succ m=>
         have rd:∀i,i<m+1->∃c,w.cells? base (a.add (i*P.cellsOf e)) (P.cellsOf e)=some c:=fun i hi=>by
          have hx:elems[i]? =some elems[i]:=List.getElem?_eq_getElem (by omega)
          have:=(zdR hm).2 i i elems[i] (by simp[hi]) hx
          rw[Option.bind_eq_some_iff] at this
          obtain⟨c,hc,_⟩:=this
          exact⟨c,hc⟩
         obtain⟨c0,hc0⟩:=rd 0 (by omega)
         obtain⟨s0,cs',t',fr',hblk,_,_⟩:=zgm hc0 hc2
         have ea0:a.add (0*P.cellsOf e)=a:=by simp[Addr.add]
         rw[ea0] at s0 hblk
         have seg:∀i,i<m+1->(w.cells? base (a.add (i*P.cellsOf e)) (P.cellsOf e)).getD []=(cs'.toList.drop (a.off+i*P.cellsOf e)).take (P.cellsOf e)/\((w.cells? base (a.add (i*P.cellsOf e)) (P.cellsOf e)).getD []).length=P.cellsOf e:=fun i hi=>by
          obtain⟨c,hc⟩:=rd i hi
          obtain⟨_,cs2,t2,fr2,hb2,e2,e3⟩:=zgm hc hc2
          have eo:(a.add (i*P.cellsOf e)).off=a.off+i*P.cellsOf e:=by unfold Addr.add;split <;> simp_all
          have eb:(a.add (i*P.cellsOf e)).block=a.block:=by unfold Addr.add;split <;> rfl
          rw[eb,hblk] at hb2
          cases hb2
          rw[hc,Option.getD_some]
          rw[eo] at e2
          exact⟨e2,e3⟩
         have ha:a=⟨a.block,a.off,none⟩:=by cases a;simp_all
         have hll:l.length=m+1:=k1
         rw[ha]
         have hgoal:PR w I (.sl (shOf P e) l) (.slice (some ⟨a.block,a.off,none⟩) l.length cap):=by
          refine .sl _ _ a.block a.off cap cs' t' fr' ((List.range (m+1)).map fun i=>zdb (shOf P e) ((w.cells? base (a.add (i*P.cellsOf e)) (P.cellsOf e)).getD [])) (by simp[hll]) (hI _) hblk ?_ ?_ ?_ (by omega)
          ·intro i p v hp hv
           have hi:i<m+1:=by rw[<-hll];exact(List.getElem?_eq_some_iff.1 hp).1
           simp[hi] at hv
           subst hv
           exact(k2 i i p (by simp[hi]) hp).2.1
          ·intro i p v hp hv
           have hi:i<m+1:=by rw[<-hll];exact(List.getElem?_eq_some_iff.1 hp).1
           simp[hi] at hv
           subst hv
           exact(k2 i i p (by simp[hi]) hp).1
          ·have cl:∀i,i<m+1->(zdb (shOf P e) ((w.cells? base (a.add (i*P.cellsOf e)) (P.cellsOf e)).getD [])).cells.toList=(cs'.toList.drop (a.off+i*P.cellsOf e)).take (P.cellsOf e):=fun i hi=>by
            rw[<-(seg i hi).1]
            exact(k2 i i l[i] (by simp[hi]) (List.getElem?_eq_getElem (by omega))).2.2
           rw[hll,<-hc1]
           exact zgn (fun i=>zdb (shOf P e) ((w.cells? base (a.add (i*P.cellsOf e)) (P.cellsOf e)).getD [])) cs'.toList a.off (P.cellsOf e) (m+1) cl
         rw[hll] at hgoal
         exact hgoal
       ·cases hp
      ·cases hp
     ·cases h
   |struct fs=>
    have hs:shOf P t=some (P.cellsOf t):=by unfold shOf;rw[hu]
    rw[hs]
    simp only at h hp
    split at h <;> first|contradiction|(exfalso;clear ih;simp_all;done)|skip
    ·rename_i hlen
     rw[Option.map_eq_some_iff] at h
     obtain⟨xs,hm,h⟩:=h
     cases h
     simp only at hp
     split at hp
     ·rename_i hfo
      split at hp
      ·rename_i l hl
       cases hp
       rw[<-hlen] at hfo
       obtain⟨vs,e1,e2,e3,e4⟩:=zit (w:=w) (I:=I) (fun t cs d ps p hg ho hf=>ih n t cs d ps p hg ho hf) cs fs.toList 0 xs l hfo hm hl
       rw[List.drop_zero] at e4
       refine⟨?_,?_,?_⟩
       ·show PR w I (.agg l) (.agg cs.toArray)
        rw[<-e4]
        exact .agg l vs e1 e2 e3
       ·show some cs.toArray.size=_
        simp[hlen]
       ·simp[zdb,Value.cells]
      ·cases hp
     ·cases hp
   |_=>cases hp

theorem zoP{base:Nat}{spare:Nat->Bool}{held:Bool}{n:Nat}{t:TypeId}{v:Value}{d:DataW H}{ps:List MemPlace}{p:PV}(h:DataW.Trod enc P w base spare held t v d ps)(hok:okT P t=true)(hp:zcX P n t d=some p)(hv:vshp v=shOf P t):
  AR w (noX (P:=P)) noμ [] (.pv (shOf P t) p) v:=by
 obtain⟨fuel,h⟩:=h
 have hI:∀b,Im (noX (P:=P)) noμ [] b:=fun b=>⟨fun h=>h,fun i hi=>by simp[live] at hi⟩
 obtain⟨h1,h2,h3⟩:=zon hI fuel n t _ d ps p h hok hp
 have:zdb (shOf P t) v.cells.toList=v:=by
  rw[<-hv]
  cases v <;> simp[vshp,zdb,Value.cells]
 rw[this] at h1
 exact .pv _ _ _ hv h1
theorem zkX{W:World}{base:Nat}{t:TypeId}{v:Value}(h:Value.okWide P W .any base t v):vshp v=shOf P t:=by
 unfold Value.okWide at h
 unfold shOf
 cases hu:P.underlying t with
 |none=>
  rw[hu] at h
  cases v with
  |agg cs=>simp[Cell.okWide,Cell.ok,hu] at h
  |_=>rfl
 |some u=>
  rw[hu] at h
  cases u with
  |struct fs=>obtain⟨cs,rfl,hc,_⟩:=h;simp[vshp,hc]
  |array n e=>obtain⟨cs,rfl,hc,_⟩:=h;simp[vshp,hc]
  |_=>
   cases v with
   |agg cs=>simp[Cell.okWide,Cell.ok,hu] at h
   |_=>rfl
end Go.Am

/- Every datum of plain types is a value; terms. -/
namespace Go.Am
variable{P:Program} {H:Type} {enc:TypeId × Value->H} {w:World}

def znR(P:Program)(ts:List TypeId)(t:TypeId):Bool:=
 okT P t && match P.underlying t with
 |some .bool=>true
 |some (.int _)=>true
 |some .string=>true
 |some (.slice e)=>ts.contains e && okT P e
 |some (.struct fs)=>fs.toList.all (fun f=>ts.contains f.type) && zda P (P.cellsOf t) 0 fs.toList
 |_=>false
def zjZ(P:Program)(ts:List TypeId):Bool:=ts.all (znR P ts)

theorem zgo{f:DataW H->Option PV}{g:Nat->Option (DataW H × List MemPlace)}(hg:∀i d ps,g i=some (d,ps)->∃p,f d=some p):∀(is:List Nat) (xs:List (DataW H × List MemPlace)),is.mapM g=some xs->∃l,zcF f (xs.map (·.1))=some l
 |[],xs,h=>by simp at h;subst h;exact⟨[],rfl⟩
 |i::r,xs,h=>by
  rw[List.mapM_cons] at h
  cases ha:g i with
  |none=>rw[ha] at h;cases h
  |some y=>
   rw[ha] at h
   cases hr:r.mapM g with
   |none=>rw[hr] at h;cases h
   |some ys=>
    rw[hr] at h
    cases h
    obtain⟨l,hl⟩:=zgo hg r ys hr
    obtain⟨p,hp⟩:=hg i y.1 y.2 ha
    exact⟨p::l,by simp[zcF,hp,hl]⟩
theorem zfI{f:TypeId->DataW H->Option PV}{g:Field->Option (DataW H × List MemPlace)}:∀(fs:List Field) (xs:List (DataW H × List MemPlace)),(∀fd∈fs,∀d ps,g fd=some (d,ps)->∃p,f fd.type d=some p)->fs.mapM g=some xs->∃l,zbG P f fs (xs.map (·.1))=some l
 |[],xs,_,h=>by simp at h;subst h;exact⟨[],rfl⟩
 |fd::r,xs,hg,h=>by
  rw[List.mapM_cons] at h
  cases ha:g fd with
  |none=>rw[ha] at h;cases h
  |some y=>
   rw[ha] at h
   cases hr:r.mapM g with
   |none=>rw[hr] at h;cases h
   |some ys=>
    rw[hr] at h
    cases h
    obtain⟨l,hl⟩:=zfI r ys (fun fd h=>hg fd (by simp[h])) hr
    obtain⟨p,hp⟩:=hg fd (by simp) y.1 y.2 ha
    exact⟨(shOf P fd.type,p)::l,by simp[zbG,hp,hl]⟩

theorem zmD{ts:List TypeId}(hc:zjZ P ts=true){base:Nat}{spare:Nat->Bool}{held:Bool}:∀(fuel:Nat) (t:TypeId) (cs:List Value) (d:DataW H) (ps:List MemPlace),t∈ts->DataW.trod enc P w base spare held fuel t cs=some (d,ps)->∃p,zcX P fuel t d=some p:=by
 intro fuel
 induction fuel with
 |zero=>intro t cs d ps _ h;cases h
 |succ fuel ih=>
  intro t cs d ps ht h
  have hp:=List.all_eq_true.1 hc t ht
  unfold znR at hp
  rw[Bool.and_eq_true] at hp
  have hp:=hp.2
  unfold DataW.trod at h
  unfold zcX
  cases hu:P.underlying t with
  |none=>rw[hu] at hp;cases hp
  |some u=>
   rw[hu] at hp h
   cases u with
   |bool=>
    simp only at h
    split at h <;> first|contradiction|(exfalso;clear ih;simp_all;done)|skip
    ·cases h;exact⟨_,rfl⟩
   |int k=>
    simp only at h
    split at h <;> first|contradiction|(exfalso;clear ih;simp_all;done)|skip
    ·rename_i e
     split at h
     ·rename_i e2
      obtain⟨e2,e3⟩:=e2
      subst e2
      cases h
      cases e
      exact⟨_,by simp[e3];rfl⟩
     ·cases h
   |string=>
    simp only at h
    split at h <;> first|contradiction|(exfalso;clear ih;simp_all;done)|skip
    ·split at h
     ·cases h;exact⟨_,rfl⟩
     ·cases h
   |slice e=>
    simp only[Bool.and_eq_true,List.contains_iff_mem] at hp
    simp only at h
    split at h <;> first|contradiction|(exfalso;clear ih;simp_all;done)|skip
    ·cases h;exact⟨_,rfl⟩
    ·rename_i e' a len cap hx
     cases hx
     split at h
     ·rw[Option.bind_eq_some_iff] at h
      obtain⟨elems,hm,h⟩:=h
      rw[Option.map_eq_some_iff] at h
      obtain⟨rest,hr,h⟩:=h
      cases h
      obtain⟨l,hl⟩:=zgo (f:=zcX P fuel e) (fun i d ps hg=>by
       rw[Option.bind_eq_some_iff] at hg
       obtain⟨c,_,hg⟩:=hg
       exact ih e c d ps hp.1 hg) _ _ hm
      exact⟨_,by simp[hp.2,hl];rfl⟩
     ·cases h
   |struct fs=>
    simp only[Bool.and_eq_true] at hp
    simp only at h
    split at h <;> first|contradiction|(exfalso;clear ih;simp_all;done)|skip
    ·rw[Option.map_eq_some_iff] at h
     obtain⟨xs,hm,h⟩:=h
     cases h
     obtain⟨l,hl⟩:=zfI (P:=P) (f:=zcX P fuel) fs.toList xs (fun fd hfd d ps hg=>by
      have:=List.all_eq_true.1 hp.1 fd hfd
      rw[List.contains_iff_mem] at this
      exact ih fd.type _ d ps this hg) hm
     exact⟨_,by simp[hp.2,hl];rfl⟩
   |_=>cases hp

structure BulkLaws(bulk:DataW H->Nat)(all:List (DataW H)->Nat):Prop where
 nil:all []=0
 cons:∀d r,all (d::r)=bulk d+all r
 slice:∀e s,bulk (.slice e s)=all e+all s+1
 agg:∀l,bulk (.agg l)=all l+1
 string:∀l,bulk (.lit (.string l))=l.length+1

def zny(n:Int):Prop:= -9223372036854775808<=n/\n<=9223372036854775807
theorem zoQ{n:Int}(h:(Lit.int .i64 n).wf=true):zny n:=by
 simpa[Lit.wf,IntKind.min,IntKind.max,IntKind.signed,IntKind.bits,zny] using h

end Go.Am
