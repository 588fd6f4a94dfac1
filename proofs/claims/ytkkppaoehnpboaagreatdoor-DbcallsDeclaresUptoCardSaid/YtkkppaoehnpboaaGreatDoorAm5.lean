/- What is proved: the abstract machine says true of the model (part 5). No conditions beside those that each theorem names. -/
import Derived.Test.YtkkppaoehnpboaaGreatDoorAm4
import Derived.Lib.Bytealg
import Derived.ProofKit
import Derived.OpenShut
import Derived.JoinedCond
import Derived.Test.YtkkppaoehnpboaaGreatDoorAm2
import Derived.WalkKit
set_option linter.unusedSimpArgs false
set_option linter.unusedVariables false
/- The limit of the runs of bounded depth: equations without fuel. -/
namespace Go.Am

def OLe(Γ Δ:Oracle):Prop:=∀k f azs hp r,Γ k f azs hp=some r->Δ k f azs hp=some r
def LLe(Λ Λ':Yw):Prop:=∀b m keep c st r,Λ b m keep c st=some r->Λ' b m keep c st=some r
theorem OLe.refl(Γ:Oracle):OLe Γ Γ:=fun _ _ _ _ _ h=>h
theorem OLe.trans{Γ Δ Θ:Oracle}(h:OLe Γ Δ)(k:OLe Δ Θ):OLe Γ Θ:=fun i f azs hp r e=>k i f azs hp r (h i f azs hp r e)
theorem LLe.refl(Γ:Yw):LLe Γ Γ:=fun _ _ _ _ _ _ h=>h
theorem LLe.trans{Γ Δ Θ:Yw}(h:LLe Γ Δ)(k:LLe Δ Θ):LLe Γ Θ:=fun f azs hp r x y e=>k f azs hp r x y (h f azs hp r x y e)

theorem kg{Γ Δ:Oracle}{vs:List AV}{hp:Heap}{r:OpRes}(hO:OLe Γ Δ)(h:yw Γ hp vs=some r):yw Δ hp vs=some r:=by
 cases vs with
 |nil=>cases h
 |cons a azs=>
  have gen:(match yL a with
    |some (g,first,captured)=>match Γ .fn g (first++azs++captured) hp with
     |some (.ret v,hp')=>some (OpRes.val v hp')
     |some (.panic v,hp')=>some (.panic v hp')
     |none=>none
    |none=>none)=some r->(match yL a with
    |some (g,first,captured)=>match Δ .fn g (first++azs++captured) hp with
     |some (.ret v,hp')=>some (OpRes.val v hp')
     |some (.panic v,hp')=>some (.panic v hp')
     |none=>none
    |none=>none)=some r:=by
   intro h;split at h
   ·split at h
    ·rename_i hg;simp only[hO _ _ _ _ _ hg];exact h
    ·rename_i hg;simp only[hO _ _ _ _ _ hg];exact h
    ·cases h
   ·cases h
  cases a with
  |yield q=>
   simp only[yw] at h ⊢;split at h
   ·split at h
    ·rename_i hg;rw[hO _ _ _ _ _ hg];exact h
    ·cases h
   ·cases h
  |_=>exact gen h
theorem qD{Γ Δ:Oracle}{b:Nat}{op:AOp}{vs:List AV}{hp:Heap}{r:OpRes}(hO:OLe Γ Δ)(h:aOp Γ b op vs hp=some r):aOp Δ b op vs hp=some r:=by
 cases op
 case call=>exact kg hO h
 case calln n=>
  simp only[aOp,Qz] at h ⊢;cases hc:yw Γ hp (vs.drop n) with
  |none=>rw[hc] at h;cases h
  |some q=>rw[hc] at h;rw[kg hO hc];exact h
 case callg=>
  simp only[aOp,xZ] at h ⊢;cases hc:yw Γ hp vs with
  |none=>rw[hc] at h;cases h
  |some q=>rw[hc] at h;rw[kg hO hc];exact h
 case callp=>
  simp only[aOp,X6] at h ⊢;split at h
  ·split at h
   ·rename_i ps he;split at h
    ·rename_i v hp' hg;rw[hO _ _ _ _ _ hg];exact h
    ·cases h
   ·cases h
  ·cases h
 case callh=>
  simp only[aOp,Qy] at h ⊢;split at h
  ·split at h
   ·split at h
    ·rename_i v hp' hg;rw[hO _ _ _ _ _ hg];exact h
    ·cases h
   ·cases h
  ·cases h
 all_goals exact h

theorem Qm{Γ Δ:Oracle}{b:Nat}(hO:OLe Γ Δ):∀{ops:List AOper} {fr:Fr} {hp:Heap} {r:AExit × Fr × Heap},aops Γ b ops fr hp=some r->aops Δ b ops fr hp=some r
 |[],_,_,_,h=>h
 |o::rest,fr,hp,r,h=>by
  simp only[aops] at h ⊢;split at h
  ·cases h
  ·exact Qm hO h
  ·split at h
   ·cases h
   ·split at h
    ·rename_i ho;rw[qD hO ho];exact Qm hO h
    ·rename_i ho;rw[qD hO ho];exact h
    ·cases h

theorem JV{Γ Δ:Oracle}(hO:OLe Γ Δ){hp:Heap}{vs:List AV}{r:OpRes}(h:yi Γ hp vs=some r):yi Δ hp vs=some r:=by
 unfold yi at h ⊢;split at h
 ·split at h
  ·split at h
   ·rename_i hg;simp only[hO _ _ _ _ _ hg];exact h
   ·rename_i hg;simp only[hO _ _ _ _ _ hg];exact h
   ·cases h
  ·cases h
 ·cases h
theorem Qn{Γ Δ:Oracle}{b:Nat}(hO:OLe Γ Δ):∀{l:List (AOper × Option (List AOper))} {fr:Fr} {hp:Heap} {r:AExit × Fr × Heap},YZ Γ b l fr hp=some r->YZ Δ b l fr hp=some r
 |[],_,_,_,h=>h
 |(o,none)::rest,fr,hp,r,h=>by
  simp only[YZ] at h ⊢;split at h
  ·cases h
  ·exact Qn hO h
  ·split at h
   ·cases h
   ·split at h
    ·rename_i ho;rw[qD hO ho];exact Qn hO h
    ·cases h
 |(o,some later)::rest,fr,hp,r,h=>by
  simp only[YZ] at h ⊢;split at h
  ·cases h
  ·split at h
   ·rename_i ho;simp only[JV hO ho];exact Qn hO h
   ·rename_i ho;simp only[JV hO ho];split at h
    ·rename_i hl;simp only[Qm hO hl];exact h
    ·cases h
   ·cases h
theorem yo{Γ Δ:Oracle}{Λ Λ':Yw}{b:Nat}(hO:OLe Γ Δ)(hL:LLe Λ Λ'):∀{c:ACode} {st:St} {r:AExit × St},aexec Γ Λ b c st=some r->aexec Δ Λ' b c st=some r:=by
 intro c
 induction c with
 |skip=>intro st r h;exact h
 |settle l=>intro st r h;exact h
 |doom l keep=>
  intro st r h;simp only[aexec] at h ⊢;split at h
  ·rename_i ho;rw[Qn hO ho];exact h
  ·rename_i ho;rw[Qn hO ho];exact h
  ·cases h
 |region pan ops keep=>
  intro st r h;simp only[aexec] at h ⊢;split at h
  ·rename_i ho;rw[Qm hO ho];exact h
  ·rename_i ho;rw[Qm hO ho];exact h
  ·cases h
 |seq x y ihx ihy=>
  intro st r h;simp only[aexec] at h ⊢;split at h
  ·rename_i ho;rw[ihx ho];exact ihy h
  ·rename_i hn;rw[ihx h];split
   ·rename_i e;cases e;exact(hn _ h).elim
   ·rfl
 |cond c x y ihx ihy=>
  intro st r h;simp only[aexec] at h ⊢;split at h
  ·exact ihx h
  ·exact ihy h
  ·cases h
 |block id c ih=>
  intro st r h;simp only[aexec] at h ⊢;split at h
  ·rename_i ho;rw[ih ho];exact h
  ·rename_i hn;rw[ih h];split
   ·rename_i e;cases e;exact(hn _ _ h).elim
   ·rfl
 |loop keep c ih=>intro st r h;exact hL _ _ _ _ _ _ h
 |exit id=>intro st r h;exact h
 |ret=>intro st r h;exact h

theorem Xq{Γ Δ:Oracle}(hO:OLe Γ Δ):∀{n m:Nat},n<=m->LLe (aloop Γ n) (aloop Δ m)
 |0,m,_=>fun _ _ _ _ _ _ h=>by cases h
 |n+1,0,h=>by omega
 |n+1,m+1,hnm=>fun b k keep c st r h=>by
  simp only[aloop] at h ⊢;split at h
  ·rename_i ho;rw[yo hO (Xq hO (by omega:n<=m)) ho];exact Xq hO (by omega:n<=m) _ _ _ _ _ _ h
  ·rename_i hn;rw[yo hO (Xq hO (by omega:n<=m)) h];split
   ·rename_i e;cases e;exact(hn _ h).elim
   ·rfl

theorem ug{Γ Δ:Oracle}(hO:OLe Γ Δ){op:ATop}{st:St}{ds:List AV}{r:AExit × St × List AV}(h:atop Γ op st ds=some r):atop Δ op st ds=some r:=by
 cases op with
 |dfr s=>exact h
 |range self f ps env=>
  simp only[atop] at h ⊢;split at h
  ·cases h
  ·split at h
   ·split at h
    ·rename_i hg;rw[hO _ _ _ _ _ hg];exact h
    ·cases h
   ·cases h
theorem JW{Γ Δ:Oracle}{Λ Λ':Yw}{b:Nat}(hO:OLe Γ Δ)(hL:LLe Λ Λ'):∀{l:List (ATop × ACode)} {c:ACode} {st:St} {ds:List AV} {r:AExit × St × List AV},apieces Γ Λ b l c st ds=some r->apieces Δ Λ' b l c st ds=some r
 |[],c,st,ds,r,h=>by
  simp only[apieces] at h ⊢;split at h
  ·rename_i ho;rw[yo hO hL ho];exact h
  ·cases h
 |(op,c2)::l,c,st,ds,r,h=>by
  simp only[apieces] at h ⊢;split at h
  ·rename_i ho;rw[yo hO hL ho];split at h
   ·rename_i ha;simp only[ug hO ha];exact JW hO hL h
   ·cases h
  ·rename_i e st1 hne ho;rw[yo hO hL ho];cases e with
   |normal=>exact(hne rfl).elim
   |_=>exact h
  ·cases h
theorem QI{Γ Δ:Oracle}(hO:OLe Γ Δ):∀{ds:List AV} {p:Option PV} {hp:Heap} {r:Option PV × Heap},aunwind Γ ds p hp=some r->aunwind Δ ds p hp=some r
 |[],p,hp,r,h=>h
 |c::ds,p,hp,r,h=>by
  simp only[aunwind] at h ⊢;split at h
  ·split at h
   ·rename_i hg;simp only[hO _ _ _ _ _ hg];exact QI hO h
   ·cases h
  ·cases h
theorem uh{Γ Δ:Oracle}(hO:OLe Γ Δ){fn:AFn}{q:AExit × St × List AV}{r:ARes × Heap}(h:aleave Γ fn (some q)=some r):aleave Δ fn (some q)=some r:=by
 obtain⟨e,st,ds⟩:=q;cases e with
 |exit i=>cases h
 |normal=>
  simp only[aleave] at h ⊢;split at h
  ·rename_i hu;simp only[QI hO hu];exact h
  ·cases h
 |ret=>
  simp only[aleave] at h ⊢;split at h
  ·rename_i hu;simp only[QI hO hu];exact h
  ·cases h
 |panic v=>
  simp only[aleave] at h ⊢;split at h
  ·rename_i hu;simp only[QI hO hu];exact h
  ·rename_i hu;simp only[QI hO hu];exact h
  ·cases h
theorem JX{Γ Δ:Oracle}{Λ Λ':Yw}(hO:OLe Γ Δ)(hL:LLe Λ Λ'){fn:AFn}{args:List AV}{hp:Heap}{r:ARes × Heap}(h:abody Γ Λ fn args hp=some r):abody Δ Λ' fn args hp=some r:=by
 unfold abody at h ⊢;split at h
 ·cases h
 ·rename_i hn;rw[Za hn];cases hmore:fn.more with
  |nil=>
   simp only[hmore] at h ⊢;split at h
   ·rename_i ho;rw[yo hO hL ho];exact h
   ·rename_i ho;rw[yo hO hL ho];exact h
   ·rename_i ho;rw[yo hO hL ho];exact h
   ·cases h
  |cons x l=>
   simp only[hmore] at h ⊢;cases hq:apieces Γ Λ hp.length (x::l) fn.code ⟨params 0 args,hp⟩ [] with
   |none=>rw[hq] at h;cases h
   |some q=>
    rw[hq] at h;rw[JW hO hL hq];exact uh hO h

theorem ui{F:FuncId->Option AFn}{prim:FuncId->Option Ym}{Γ Δ:Oracle}{Λ Λ':Yw}(hO:OLe Γ Δ)(hL:LLe Λ Λ'){f:FuncId}{azs:List AV}{hp:Heap}{r:ARes × Heap}(h:Y6 F prim Γ Λ f azs hp=some r):Y6 F prim Δ Λ' f azs hp=some r:=by
 unfold Y6 at h ⊢;split at h
 ·exact h
 ·split at h
  ·cases h
  ·rename_i fn _;by_cases hr:fn.rcv.isSome=true
   ·rw[Zd hr] at h;cases h
   simp only[Za hr] at h ⊢;by_cases hm:fn.heapMode=true
   ·simp only[hm,if_true] at h ⊢;split at h
    ·rename_i ho;rw[JX hO hL ho];exact h
    ·rename_i ho;rw[JX hO hL ho];exact h
    ·cases h
   ·rw[Za hm] at h ⊢;split at h
    ·cases h
    ·split at h
     ·rename_i ho;rw[JX hO hL ho];exact h
     ·rename_i ho;rw[JX hO hL ho];exact h
     ·cases h
theorem EG{F:FuncId->Option AFn}{Γ Δ:Oracle}{Λ Λ':Yw}(hO:OLe Γ Δ)(hL:LLe Λ Λ'){f:FuncId}{azs:List AV}{hp:Heap}{r:ARes × Heap}(h:adefer F Γ Λ f azs hp=some r):adefer F Δ Λ' f azs hp=some r:=by
 unfold adefer at h ⊢;split at h
 ·split at h
  ·split at h
   ·split at h
    ·cases h
    ·rename_i hc;rw[Za hc];split at h
     ·rename_i h1;simp only[yo hO hL h1];exact h
     ·rename_i h1;simp only[yo hO hL h1];exact h
     ·cases h
   ·cases h
  ·cases h
 ·cases h
theorem kh{F:FuncId->Option AFn}{prim:FuncId->Option Ym}{Γ Δ:Oracle}{Λ Λ':Yw}(hO:OLe Γ Δ)(hL:LLe Λ Λ'):OLe (acall F prim Γ Λ) (acall F prim Δ Λ'):=by
 intro k f azs hp r h;cases k with
 |fn=>exact ui hO hL h
 |rnd=>exact absurd (show(none:Option (ARes × Heap))=some _ from h) (by simp)
 |dfr=>exact EG hO hL h
 |seq=>
  simp only[acall] at h ⊢;split at h
  ·rename_i hs;rw[Zd hs];exact ui hO hL h
  ·cases h

theorem xG{F:FuncId->Option AFn}{prim:FuncId->Option Ym}:∀{n m:Nat},n<=m->OLe (asem F prim n) (asem F prim m)
 |0,_,_=>fun _ _ _ _ _ h=>by cases h
 |n+1,0,h=>by omega
 |n+1,m+1,h=>kh (xG (by omega)) (Xq (xG (by omega)) (by omega))

noncomputable def sem(F:FuncId->Option AFn)(prim:FuncId->Option Ym):Oracle:=fun k f azs hp=>
 open Classical in if h:∃n r,asem F prim n k f azs hp=some r then some h.choose_spec.choose else none
noncomputable def sloop(F:FuncId->Option AFn)(prim:FuncId->Option Ym):Yw:=fun b m keep c st=>
 open Classical in if h:∃n r,aloop (asem F prim n) n b m keep c st=some r then some h.choose_spec.choose else none

variable{F:FuncId->Option AFn} {prim:FuncId->Option Ym}
theorem sem_iff{k:Kind}{f:FuncId}{azs:List AV}{hp:Heap}{r:ARes × Heap}:sem F prim k f azs hp=some r↔∃n,asem F prim n k f azs hp=some r:=by
 unfold sem;constructor
 ·intro h;split at h
  ·rename_i he;cases h;exact⟨_,he.choose_spec.choose_spec⟩
  ·cases h
 ·rintro⟨n,hn⟩;have he:∃n r,asem F prim n k f azs hp=some r:=⟨n,r,hn⟩;rw[dif_pos he];have h1:=xG (zn n he.choose) _ _ _ _ _ hn;have h2:=xG (zu n he.choose) _ _ _ _ _ he.choose_spec.choose_spec;rw[h1] at h2;exact h2.symm
theorem sloop_iff{b m:Nat}{keep:List Nat}{c:ACode}{st:St}{r:AExit × St}:sloop F prim b m keep c st=some r↔∃n,aloop (asem F prim n) n b m keep c st=some r:=by
 unfold sloop;constructor
 ·intro h;split at h
  ·rename_i he;cases h;exact⟨_,he.choose_spec.choose_spec⟩
  ·cases h
 ·rintro⟨n,hn⟩;have he:∃n r,aloop (asem F prim n) n b m keep c st=some r:=⟨n,r,hn⟩;rw[dif_pos he];have h1:=Xq (xG (F:=F) (prim:=prim) (zn n he.choose)) (zn n he.choose) _ _ _ _ _ _ hn;have h2:=Xq (xG (F:=F) (prim:=prim) (zu n he.choose)) (zu n he.choose) _ _ _ _ _ _ he.choose_spec.choose_spec;rw[h1] at h2;exact h2.symm
theorem ki{n:Nat}:OLe (asem F prim n) (sem F prim):=fun _ _ _ _ _ h=>sem_iff.2 ⟨n,h⟩
theorem uj{n:Nat}:LLe (aloop (asem F prim n) n) (sloop F prim):=fun _ _ _ _ _ _ h=>sloop_iff.2 ⟨n,h⟩
abbrev up{n m:Nat}(h:n<=m):OLe (asem F prim n) (asem F prim m):=xG h
theorem upl{n m:Nat}(h:n<=m):LLe (aloop (asem F prim n) n) (aloop (asem F prim m) m):=Xq (xG h) h

theorem kl{vs:List AV}{hp:Heap}{r:OpRes}(h:yw (sem F prim) hp vs=some r):∃n,yw (asem F prim n) hp vs=some r:=by
 cases vs with
 |nil=>cases h
 |cons a azs=>
  have gen:(match yL a with
    |some (g,first,captured)=>match sem F prim .fn g (first++azs++captured) hp with
     |some (.ret v,hp')=>some (OpRes.val v hp')
     |some (.panic v,hp')=>some (.panic v hp')
     |none=>none
    |none=>none)=some r->∃n,(match yL a with
    |some (g,first,captured)=>match asem F prim n .fn g (first++azs++captured) hp with
     |some (.ret v,hp')=>some (OpRes.val v hp')
     |some (.panic v,hp')=>some (.panic v hp')
     |none=>none
    |none=>none)=some r:=by
   intro h;split at h
   ·split at h
    ·rename_i hg;obtain⟨n,hn⟩:=sem_iff.1 hg;exact⟨n,by simp only[hn];exact h⟩
    ·rename_i hg;obtain⟨n,hn⟩:=sem_iff.1 hg;exact⟨n,by simp only[hn];exact h⟩
    ·cases h
   ·cases h
  cases a with
  |yield q=>
   simp only[yw] at h ⊢;split at h
   ·split at h
    ·rename_i hg;obtain⟨n,hn⟩:=sem_iff.1 hg;exact⟨n,by simp only[hn];exact h⟩
    ·cases h
   ·cases h
  |_=>exact gen h
theorem km{b:Nat}{op:AOp}{vs:List AV}{hp:Heap}{r:OpRes}(h:aOp (sem F prim) b op vs hp=some r):∃n,aOp (asem F prim n) b op vs hp=some r:=by
 cases op
 case call=>exact kl h
 case calln n=>
  simp only[aOp,Qz] at h ⊢;cases hc:yw (sem F prim) hp (vs.drop n) with
  |none=>rw[hc] at h;cases h
  |some q=>
   rw[hc] at h;obtain⟨k,hk⟩:=kl hc;exact⟨k,by rw[hk];exact h⟩
 case callg=>
  simp only[aOp,xZ] at h ⊢;cases hc:yw (sem F prim) hp vs with
  |none=>rw[hc] at h;cases h
  |some q=>
   rw[hc] at h;obtain⟨k,hk⟩:=kl hc;exact⟨k,by rw[hk];exact h⟩
 case callp=>
  simp only[aOp,X6] at h ⊢;split at h
  ·split at h
   ·rename_i ps he;split at h
    ·rename_i v hp' hg;obtain⟨n,hn⟩:=sem_iff.1 hg;exact⟨n,by simp only[hn];exact h⟩
    ·cases h
   ·cases h
  ·cases h
 case callh=>
  simp only[aOp,Qy] at h ⊢;split at h
  ·split at h
   ·split at h
    ·rename_i v hp' hg;obtain⟨n,hn⟩:=sem_iff.1 hg;exact⟨n,by simp only[hn];exact h⟩
    ·cases h
   ·cases h
  ·cases h
 all_goals exact⟨0,h⟩

theorem qE{b:Nat}:∀{ops:List AOper} {fr:Fr} {hp:Heap} {r:AExit × Fr × Heap},aops (sem F prim) b ops fr hp=some r->∃n,aops (asem F prim n) b ops fr hp=some r
 |[],_,_,_,h=>⟨0,h⟩
 |o::rest,fr,hp,r,h=>by
  simp only[aops] at h ⊢;split at h
  ·cases h
  ·exact qE h
  ·split at h
   ·cases h
   ·split at h
    ·rename_i ho;obtain⟨n,hn⟩:=km ho;obtain⟨m,hm⟩:=qE h;refine⟨max n m,?_⟩;rw[qD (up (zn n m)) hn];exact Qm (up (zu n m)) hm
    ·rename_i ho;obtain⟨n,hn⟩:=km ho;exact⟨n,by rw[hn];exact h⟩
    ·cases h

theorem uk{hp:Heap}{vs:List AV}{r:OpRes}(h:yi (sem F prim) hp vs=some r):∃n,yi (asem F prim n) hp vs=some r:=by
 unfold yi at h ⊢;split at h
 ·split at h
  ·split at h
   ·rename_i hg;obtain⟨n,hn⟩:=sem_iff.1 hg;exact⟨n,by simp only[hn];exact h⟩
   ·rename_i hg;obtain⟨n,hn⟩:=sem_iff.1 hg;exact⟨n,by simp only[hn];exact h⟩
   ·cases h
  ·cases h
 ·cases h
theorem qF{b:Nat}:∀{l:List (AOper × Option (List AOper))} {fr:Fr} {hp:Heap} {r:AExit × Fr × Heap},YZ (sem F prim) b l fr hp=some r->∃n,YZ (asem F prim n) b l fr hp=some r
 |[],_,_,_,h=>⟨0,h⟩
 |(o,none)::rest,fr,hp,r,h=>by
  simp only[YZ] at h ⊢;split at h
  ·cases h
  ·exact qF h
  ·split at h
   ·cases h
   ·split at h
    ·rename_i ho;obtain⟨n,hn⟩:=km ho;obtain⟨m,hm⟩:=qF h;refine⟨max n m,?_⟩;rw[qD (up (zn n m)) hn];exact Qn (up (zu n m)) hm
    ·cases h
 |(o,some later)::rest,fr,hp,r,h=>by
  simp only[YZ] at h ⊢;split at h
  ·cases h
  ·split at h
   ·rename_i ho;obtain⟨n,hn⟩:=uk ho;obtain⟨m,hm⟩:=qF h;refine⟨max n m,?_⟩;simp only[JV (up (zn n m)) hn];exact Qn (up (zu n m)) hm
   ·rename_i ho;obtain⟨n,hn⟩:=uk ho;split at h
    ·rename_i hl;obtain⟨m,hm⟩:=qE hl;refine⟨max n m,?_⟩;simp only[JV (up (zn n m)) hn,Qm (up (zu n m)) hm];exact h
    ·cases h
   ·cases h

theorem XV{b:Nat}:∀{c:ACode} {st:St} {r:AExit × St},aexec (sem F prim) (sloop F prim) b c st=some r->∃n,aexec (asem F prim n) (aloop (asem F prim n) n) b c st=some r:=by
 intro c
 induction c with
 |skip=>intro st r h;exact⟨0,h⟩
 |settle l=>intro st r h;exact⟨0,h⟩
 |doom l keep=>
  intro st r h;simp only[aexec] at h ⊢;split at h
  ·rename_i ho;obtain⟨n,hn⟩:=qF ho;exact⟨n,by rw[hn];exact h⟩
  ·rename_i ho;obtain⟨n,hn⟩:=qF ho;exact⟨n,by rw[hn];exact h⟩
  ·cases h
 |region pan ops keep=>
  intro st r h;simp only[aexec] at h ⊢;split at h
  ·rename_i ho;obtain⟨n,hn⟩:=qE ho;exact⟨n,by rw[hn];exact h⟩
  ·rename_i ho;obtain⟨n,hn⟩:=qE ho;exact⟨n,by rw[hn];exact h⟩
  ·cases h
 |seq x y ihx ihy=>
  intro st r h;simp only[aexec] at h ⊢;split at h
  ·rename_i ho;obtain⟨n,hn⟩:=ihx ho;obtain⟨m,hm⟩:=ihy h;refine⟨max n m,?_⟩;rw[yo (up (zn n m)) (upl (zn n m)) hn];exact yo (up (zu n m)) (upl (zu n m)) hm
  ·rename_i hn;obtain⟨n,h1⟩:=ihx h;refine⟨n,?_⟩;rw[h1];split
   ·rename_i e;cases e;exact(hn _ h).elim
   ·rfl
 |cond c x y ihx ihy=>
  intro st r h;simp only[aexec] at h ⊢;split at h
  ·exact ihx h
  ·exact ihy h
  ·cases h
 |block id c ih=>
  intro st r h;simp only[aexec] at h ⊢;split at h
  ·rename_i ho;obtain⟨n,hn⟩:=ih ho;exact⟨n,by rw[hn];exact h⟩
  ·rename_i hn;obtain⟨n,h1⟩:=ih h;refine⟨n,?_⟩;rw[h1];split
   ·rename_i e;cases e;exact(hn _ _ h).elim
   ·rfl
 |loop keep c ih=>intro st r h;exact sloop_iff.1 h
 |exit id=>intro st r h;exact⟨0,h⟩
 |ret=>intro st r h;exact⟨0,h⟩

theorem EH{op:ATop}{st:St}{ds:List AV}{r:AExit × St × List AV}(h:atop (sem F prim) op st ds=some r):∃n,atop (asem F prim n) op st ds=some r:=by
 cases op with
 |dfr s=>exact⟨0,h⟩
 |range self f ps env=>
  simp only[atop] at h ⊢;split at h
  ·cases h
  ·split at h
   ·split at h
    ·rename_i hg;obtain⟨n,hn⟩:=sem_iff.1 hg;exact⟨n,by simp only[hn];exact h⟩
    ·cases h
   ·cases h
theorem ul{b:Nat}:∀{l:List (ATop × ACode)} {c:ACode} {st:St} {ds:List AV} {r:AExit × St × List AV},apieces (sem F prim) (sloop F prim) b l c st ds=some r->∃n,apieces (asem F prim n) (aloop (asem F prim n) n) b l c st ds=some r
 |[],c,st,ds,r,h=>by
  simp only[apieces] at h ⊢;split at h
  ·rename_i ho;obtain⟨n,hn⟩:=XV ho;exact⟨n,by rw[hn];exact h⟩
  ·cases h
 |(op,c2)::l,c,st,ds,r,h=>by
  simp only[apieces] at h ⊢;split at h
  ·rename_i ho;obtain⟨n,hn⟩:=XV ho;split at h
   ·rename_i ha;obtain⟨m,hm⟩:=EH ha;obtain⟨k,hk⟩:=ul h;refine⟨max n (max m k),?_⟩;rw[yo (up (by omega:n<=max n (max m k))) (upl (by omega)) hn];simp only[ug (up (by omega:m<=max n (max m k))) hm];exact JW (up (by omega:k<=max n (max m k))) (upl (by omega)) hk
   ·cases h
  ·rename_i e st1 hne ho;obtain⟨n,hn⟩:=XV ho;refine⟨n,?_⟩;rw[hn];cases e with
   |normal=>exact(hne rfl).elim
   |_=>exact h
  ·cases h
theorem qG:∀{ds:List AV} {p:Option PV} {hp:Heap} {r:Option PV × Heap},aunwind (sem F prim) ds p hp=some r->∃n,aunwind (asem F prim n) ds p hp=some r
 |[],p,hp,r,h=>⟨0,h⟩
 |c::ds,p,hp,r,h=>by
  simp only[aunwind] at h ⊢;split at h
  ·split at h
   ·rename_i hg;obtain⟨n,hn⟩:=sem_iff.1 hg;obtain⟨m,hm⟩:=qG h;refine⟨max n m,?_⟩;simp only[up (F:=F) (prim:=prim) (zn n m) _ _ _ _ _ hn];exact QI (up (zu n m)) hm
   ·cases h
  ·cases h
theorem EI{fn:AFn}{q:AExit × St × List AV}{r:ARes × Heap}(h:aleave (sem F prim) fn (some q)=some r):∃n,aleave (asem F prim n) fn (some q)=some r:=by
 obtain⟨e,st,ds⟩:=q;cases e with
 |exit i=>cases h
 |normal=>
  simp only[aleave] at h ⊢;split at h
  ·rename_i hu;obtain⟨n,hn⟩:=qG hu;exact⟨n,by simp only[hn];exact h⟩
  ·cases h
 |ret=>
  simp only[aleave] at h ⊢;split at h
  ·rename_i hu;obtain⟨n,hn⟩:=qG hu;exact⟨n,by simp only[hn];exact h⟩
  ·cases h
 |panic v=>
  simp only[aleave] at h ⊢;split at h
  ·rename_i hu;obtain⟨n,hn⟩:=qG hu;exact⟨n,by simp only[hn];exact h⟩
  ·rename_i hu;obtain⟨n,hn⟩:=qG hu;exact⟨n,by simp only[hn];exact h⟩
  ·cases h
theorem JY{fn:AFn}{args:List AV}{hp:Heap}{r:ARes × Heap}(h:abody (sem F prim) (sloop F prim) fn args hp=some r):∃n,abody (asem F prim n) (aloop (asem F prim n) n) fn args hp=some r:=by
 unfold abody at h ⊢;split at h
 ·cases h
 ·rename_i hn;simp only[Za hn];cases hmore:fn.more with
  |nil=>
   simp only[hmore] at h ⊢;split at h
   ·rename_i ho;obtain⟨n,hn⟩:=XV ho;exact⟨n,by rw[hn];exact h⟩
   ·rename_i ho;obtain⟨n,hn⟩:=XV ho;exact⟨n,by rw[hn];exact h⟩
   ·rename_i ho;obtain⟨n,hn⟩:=XV ho;exact⟨n,by rw[hn];exact h⟩
   ·cases h
  |cons x l=>
   simp only[hmore] at h ⊢;cases hq:apieces (sem F prim) (sloop F prim) hp.length (x::l) fn.code ⟨params 0 args,hp⟩ [] with
   |none=>rw[hq] at h;cases h
   |some q=>
    rw[hq] at h;obtain⟨n,hn⟩:=ul hq;obtain⟨m,hm⟩:=EI h;refine⟨max n m,?_⟩;rw[JW (up (zn n m)) (upl (zn n m)) hn];exact uh (up (zu n m)) hm

theorem um{f:FuncId}{azs:List AV}{hp:Heap}{r:ARes × Heap}(h:Y6 F prim (sem F prim) (sloop F prim) f azs hp=some r):∃n,Y6 F prim (asem F prim n) (aloop (asem F prim n) n) f azs hp=some r:=by
 unfold Y6 at h ⊢;split at h
 ·exact⟨0,h⟩
 ·split at h
  ·cases h
  ·rename_i fn _;by_cases hr:fn.rcv.isSome=true
   ·rw[Zd hr] at h;cases h
   simp only[Za hr] at h ⊢;by_cases hm:fn.heapMode=true
   ·simp only[hm,if_true] at h ⊢;split at h
    ·rename_i ho;obtain⟨n,hn⟩:=JY ho;exact⟨n,by rw[hn];exact h⟩
    ·rename_i ho;obtain⟨n,hn⟩:=JY ho;exact⟨n,by rw[hn];exact h⟩
    ·cases h
   ·simp only[Za hm] at h ⊢;split at h
    ·cases h
    ·split at h
     ·rename_i ho;obtain⟨n,hn⟩:=JY ho;exact⟨n,by rw[hn];exact h⟩
     ·rename_i ho;obtain⟨n,hn⟩:=JY ho;exact⟨n,by rw[hn];exact h⟩
     ·cases h
theorem EJ{f:FuncId}{azs:List AV}{hp:Heap}{r:ARes × Heap}(h:adefer F (sem F prim) (sloop F prim) f azs hp=some r):∃n,adefer F (asem F prim n) (aloop (asem F prim n) n) f azs hp=some r:=by
 unfold adefer at h ⊢;split at h
 ·split at h
  ·split at h
   ·split at h
    ·cases h
    ·rename_i hc;simp only[Za hc];split at h
     ·rename_i h1;obtain⟨n,hn⟩:=XV h1;exact⟨n,by simp only[hn];exact h⟩
     ·rename_i h1;obtain⟨n,hn⟩:=XV h1;exact⟨n,by simp only[hn];exact h⟩
     ·cases h
   ·cases h
  ·cases h
 ·cases h
theorem EK{k:Kind}{f:FuncId}{azs:List AV}{hp:Heap}{r:ARes × Heap}(h:acall F prim (sem F prim) (sloop F prim) k f azs hp=some r):∃n,acall F prim (asem F prim n) (aloop (asem F prim n) n) k f azs hp=some r:=by
 cases k with
 |fn=>exact um h
 |rnd=>exact absurd (show(none:Option (ARes × Heap))=some _ from h) (by simp)
 |dfr=>exact EJ h
 |seq=>
  simp only[acall] at h ⊢;split at h
  ·rename_i hs;simp only[Zd hs];exact um h
  ·cases h

theorem kn(k:Kind)(f:FuncId)(azs:List AV)(hp:Heap):sem F prim k f azs hp=acall F prim (sem F prim) (sloop F prim) k f azs hp:=by
 have to:∀r,sem F prim k f azs hp=some r↔acall F prim (sem F prim) (sloop F prim) k f azs hp=some r:=fun r=>by
  constructor
  ·intro h;obtain⟨n,hn⟩:=sem_iff.1 h;cases n with
   |zero=>cases hn
   |succ n=>exact kh ki uj _ _ _ _ _ hn
  ·intro h;obtain⟨n,hn⟩:=EK h;exact sem_iff.2 ⟨n+1,hn⟩
 exact Option.ext fun r=>to r

theorem XW(f:FuncId)(azs:List AV)(hp:Heap):sem F prim .fn f azs hp=Y6 F prim (sem F prim) (sloop F prim) f azs hp:=kn .fn f azs hp
theorem EL(f:FuncId)(azs:List AV)(hp:Heap):sem F prim .dfr f azs hp=adefer F (sem F prim) (sloop F prim) f azs hp:=kn .dfr f azs hp

theorem un(b m:Nat)(keep:List Nat)(c:ACode)(st:St):sloop F prim b m keep c st=match aexec (sem F prim) (sloop F prim) b c st with
  |some (.normal,st')=>sloop F prim b m keep c ⟨st'.fr.keep keep,collect m b (st'.fr.keep keep) st'.hp⟩
  |r=>r:=by
 have to:∀r,sloop F prim b m keep c st=some r↔(match aexec (sem F prim) (sloop F prim) b c st with
  |some (.normal,st')=>sloop F prim b m keep c ⟨st'.fr.keep keep,collect m b (st'.fr.keep keep) st'.hp⟩
  |r=>r)=some r:=fun r=>by
  constructor
  ·intro h;obtain⟨n,hn⟩:=sloop_iff.1 h;cases n with
   |zero=>cases hn
   |succ n=>
    simp only[aloop] at hn;have hle:LLe (aloop (asem F prim (n+1)) n) (sloop F prim):=(Xq (OLe.refl _) (by omega:n<=n+1)).trans uj;split at hn
    ·rename_i ho;rw[yo ki hle ho];exact hle _ _ _ _ _ _ hn
    ·rename_i hne;rw[yo ki hle hn];split
     ·rename_i e;cases e;exact(hne _ hn).elim
     ·rfl
  ·intro h;split at h
   ·rename_i ho;obtain⟨n,hn⟩:=XV ho;obtain⟨k,hk⟩:=sloop_iff.1 h;refine sloop_iff.2 ⟨max n k+1,?_⟩;simp only[aloop];rw[yo (up (by omega:n<=max n k+1)) (Xq (up (by omega)) (by omega)) hn];exact Xq (up (by omega:k<=max n k+1)) (by omega) _ _ _ _ _ _ hk
   ·rename_i hne;obtain⟨n,hn⟩:=XV h;refine sloop_iff.2 ⟨n+1,?_⟩;simp only[aloop];rw[yo (up (by omega:n<=n+1)) (Xq (up (by omega)) (by omega)) hn];split
    ·rename_i e;cases e;exact(hne _ h).elim
    ·rfl
 exact Option.ext fun r=>to r

theorem EM{P:Program}(hmix:P.follows .mixedOrders=true)(hF:Ql P F)(hP:xF P prim):SoundO P (sem F prim) where
 fn f azs hp r hp' h:=by
  obtain⟨n,hn⟩:=sem_iff.1 h;exact(QH hmix hF hP n).fn f azs hp r hp' hn
 seq f azs hp r hp' h:=by
  obtain⟨n,hn⟩:=sem_iff.1 h;exact(QH hmix hF hP n).seq f azs hp r hp' hn
 rnd f q azs hp v hp' ps env h:=by
  obtain⟨n,hn⟩:=sem_iff.1 h;exact(QH hmix hF hP n).rnd f q azs hp v hp' ps env hn
 dfr g p azs hp r hp' h:=by
  obtain⟨n,hn⟩:=sem_iff.1 h;exact(QH hmix hF hP n).dfr g p azs hp r hp' hn
end Go.Am

/- A table of functions. -/
namespace Go.Am
def qH(P:Program)(tab:List (Nat × AFn)):Prop:=∀x∈tab,∃fnc,P.funcs[x.1]? =some fnc/\trFn P x.2.heapMode x.1 fnc=some x.2
theorem EN{P:Program}:qH P []:=fun x h=>by simp at h
theorem z6{P:Program}{f:Nat}{g:AFn}{fnc:Func}{r:List (Nat × AFn)}(h:P.funcs[f]? =some fnc)(t:trFn P g.heapMode f fnc=some g)(k:qH P r):qH P ((f,g)::r):=by
 intro x hx;simp only[Zl] at hx;rcases hx with rfl|hx
 ·exact⟨fnc,h,t⟩
 ·exact k x hx
def find:List (Nat × AFn)->FuncId->Option AFn
 |[],_=>none
 |(k,g)::r,f=>bif Nat.beq k f then some g else find r f
theorem uq:∀{tab:List (Nat × AFn)} {f:FuncId} {g:AFn},find tab f=some g->(f,g)∈tab
 |[],_,_,h=>by cases h
 |(k,x)::r,f,g,h=>by
  simp only[find] at h;cases hk:Nat.beq k f with
  |true=>
   rw[hk] at h;cases h;simp[zd hk]
  |false=>
   rw[hk] at h;exact Zy _ (uq h)
theorem EO{P:Program}{tab:List (Nat × AFn)}(h:qH P tab):Ql P (find tab):=fun f fn hf=>h (f,fn) (uq hf)
end Go.Am

/- Contracts by hand: what the library has no body for. -/
namespace Go.Am
variable{P:Program}

def XA(P:Program)(f:FuncId)(p:Ym):Prop:=
 ∀args hp r hp',p f args hp=some (r,hp')->∀(w:World) (X:Xc P) (μ:Nat->Option Nat) (vs:List Value),HR w X μ hp->LR w X μ hp args vs->Called P f vs.toArray w (Xb hp.length w X μ hp r hp')

theorem EP:xF P (fun _=>none):=fun f p h=>by cases h
theorem qI{prim:FuncId->Option Ym}{f:FuncId}{p:Ym}(h:XA P f p)(k:xF P prim):xF P (fun g=>bif Nat.beq f g then some p else prim g):=by
 intro g q hq;cases hk:Nat.beq f g with
 |true=>
  simp only[hk,cond_true] at hq;cases hq;have:=zd hk;subst this;exact h
 |false=>
  simp only[hk,cond_false] at hq;exact k g q hq
end Go.Am

/- From a run of the abstract machine to what a law's row wants. -/
namespace Go.Am
open Go.ChangeShapes Go.WideShapes Go.ChangeAt Go.RowKit
variable{P:Program} {H:Type} {enc:TypeId × Value->H}

theorem EQ{f:FuncId}{fn:Func}{c:Code}{args:Array Value}{w:World}{R:Ending->World->Prop}(hf:P.funcs[f]? =some fn)(hb:fn.body=some c)(hn:fn.name≠ "runtime.NumGoroutine")
  (h:Called P f args w R):Calls P f args w R:=by
 rcases h with⟨_,h⟩|⟨v,w',h,_⟩
 ·exact h
 ·rw[xe hf hb hn] at h;cases h

abbrev noX:Xc P:=⟨fun _=>False⟩
abbrev noμ:Nat->Option Nat:=fun _=>none

theorem ES(w:World)(ht:TabR P w fun _=>True):HR w (noX (P:=P)) noμ []:=
 ⟨fun i _ _ hi=>by simp at hi,fun i _ hi=>by simp at hi,fun b hb=>hb.elim,fun i sh v h=>by simp at h,fun i sh es fz h=>by simp at h,fun i sh es h=>by simp at h,fun i f ps env bz h=>by simp at h,fun i sh es h=>by simp at h,ht.mono fun h=>h.mono fun _ _ _ _ _ hb=>⟨⟨fun h=>h.elim,fun i hi=>by simp[live] at hi⟩,hb⟩⟩

theorem ET{b0:Nat}{X:Xc P}{μ μ':Nat->Option Nat}{hp':Heap}{w w':World}(h:Ext b0 X μ [] w μ' hp' w'):Below w.heap.size w w':=
 ⟨h.os,h.tape,h.output,h.size,fun k hk=>h.blk k hk fun i hi=>by simp[live] at hi⟩

theorem EU{w w':World}(h:Below w.heap.size w w')(may:MemPlace->Prop):w.keptBut w' may:=by
 refine⟨h.os,h.output,fun i hi=> ?_⟩;rw[h.block i hi];cases w.heap[i]? with
 |none=>trivial
 |some o=>cases o <;> simp

theorem ur(hl:laidOutB P=true){W W':World}(hb:Below W.heap.size W W'):∀{ts:List TypeId} {vs:List Value} {ds:List (DataW H)} {p:List MemPlace},
  (∀t∈ts,P.readableRec t=true/\t<P.types.size)->(∀x∈p,x.block<W.heap.size)->DataW.TrodAll enc P W 0 (fun _=>true) true ts vs ds p->DataW.TrodAll enc P W' 0 (fun b=>decide (b<W.heap.size)) true ts vs ds p
 |[],_,_,_,_,_,h=>by
  obtain⟨rfl,rfl,rfl⟩:=trodAll_nil h;exact trodAll_mk0
 |t::ts,_,_,_,ht,hp,h=>by
  obtain⟨v,vs,d,ds,a,b,rfl,rfl,rfl,h1,h2⟩:=trodAll_cons h;obtain⟨k1,k2⟩:=ht t (by simp);exact⟨a,b,Below.trod hl k1 k2 h1 hb fun x hx=>hp x (by simp[hx]),ur hl hb (fun t h=>ht t (by simp[h])) (fun x hx=>hp x (by simp[hx])) h2,rfl⟩

def EW(P:Program)(fn:Func):Bool:=fn.params.toList.all fun t=>P.readableRec t && decide (t<P.types.size)
def ut(P:Program)(fn:Func):Bool:=
 match fn.resultTypes.toList with
 |[t]=>Jj P t
 |_=>false
def uu(P:Program)(fn:Func):Bool:=EW P fn && ut P fn && fn.body.isSome && !(fn.name == "runtime.NumGoroutine")

theorem EX{Γ:Oracle}(hΓ:SoundO P Γ){f:FuncId}{fn:Func}(hf:P.funcs[f]? =some fn)(hfn:uu P fn=true)(hl:laidOutB P=true){s:ChangeSpec}(hv:s.vars=[])
  {W:World}{args:Array Value}{ds gs:List (DataW H)}{before:List MemPlace}(hs:s.fn H (ds++gs)={ results:=[.lit (.bool true)],args:=ds })
  (hW:DataW.Whole enc P fn.params.toList s.vars false W args.toList ds gs before)
  {avs:List AV}(hL:LR W (noX (P:=P)) noμ [] avs args.toList)(h:Γ .fn f avs []=some (.ret (.pv none (.bool true)),[]))(ht:TabR P W fun _=>True):
  Calls P f args W fun e W'=>∃v,e=.returned v/\s.post enc P fn false true false false W args v W':=by
 simp only[uu,Zg,zD,beq_eq_false_iff_ne,Option.isSome_iff_exists] at hfn;obtain⟨⟨⟨hp,hbr⟩,c,hb⟩,hn⟩:=hfn;obtain⟨tb,hr,htb⟩:∃tb,fn.resultTypes= #[tb]/\P.underlying tb=some .bool:=by
  unfold ut at hbr;split at hbr
  ·rename_i t ht;exact⟨t,Array.toList_inj.1 ht,VZ hbr⟩
  ·cases hbr
 have k:=hΓ.fn f avs [] _ _ h W noX noμ args.toList (ES W ht) hL;refine(EQ hf hb hn k).mono fun e W' he=> ?_;cases e with
 |returned u=>
  obtain⟨μ',v,e1,_,hE,hA⟩:=he;cases e1;cases hA with|pv _ _ _ _ hA=>
  cases hA;have hB:=ET hE;refine⟨_,rfl,ds,gs,before,[],before,[],hW,?_,?_,?_,EU hB _,fun h=>by cases h⟩
  ·rw[hs,hr];simp only[Value.resultList];exact trodAll_mk1 (shut_bool htb true)
  ·rw[hs];have hlt:=hW.lt;obtain⟨p,q,k1,k2,k3,_,_⟩:=hW;rw[hv] at k2;obtain⟨_,rfl⟩:=trodVars_none k2;rw[ZB] at k3;subst k3;refine ur hl hB (fun t ht=> ?_) hlt k1;have:=Zm.1 hp t ht;simp only[Zg,Zr] at this;exact this
  ·rw[hs,hv];rfl
 |panicked ch=>obtain⟨_,_,_,e1,_⟩:=he;cases e1
 |outgrown=>exact he.elim
end Go.Am

/- The contract of slices.Insert, out of its three roads. -/
namespace Go.Am
variable{P:Program}
def JZ(sh:Sh):Ym:=fun _ args hp=>match args with
 |[s,.pv _ (.int .i64 i),.tsl shx new]=>
  if shx=sh/\new≠[] then match s with
   | .sl s1 r ver off len=>
    if i=(len:Int) then(if len<=lim then match YK sh hp [.sl s1 r ver off len,.tsl shx new] with
     |some (v,hp')=>some (.ret v,hp')
     |none=>none else none)
    else match hp[r]? with
     |some (.arr s' es false)=>if s1=sh/\s'=sh/\ver=es.length/\off=0/\len=es.length/\0<=i/\i<len/\len+new.length<=lim then
       some (.ret (.sl sh r (len+new.length) 0 (len+new.length)),hp.set r (.arr sh (es.take i.toNat++new++es.drop i.toNat) false)) else none
     |_=>none
   | .tsl s1 es=>if i=(es.length:Int)/\es.length<=lim then match YK sh hp [.tsl s1 es,.tsl shx new] with
     |some (v,hp')=>some (.ret v,hp')
     |none=>none
    else none
   |_=>none
  else none
 |_=>none

structure InsRoads(P:Program)(f:FuncId)(t e:TypeId)(k:Nat):Prop where
 endr:∀(base:Option Addr) (n c vb voff m vc:Nat) (w w':World) (v':Value),0<m->n<=c->n<=lim->(Builtin.append_ #[t,t] t #[.slice base n c,.slice (some ⟨vb,voff,none⟩) m vc]).run P w=.ok v' w'->
  Calls P f #[.slice base n c,.int .i64 n,.slice (some ⟨vb,voff,none⟩) m vc] w fun E W=>E=.returned v'/\W=w'
 shift:∀(b n c i vb voff m vc:Nat) (cur:Array Value) (t0:TypeId) (vs:List Value) (w:World),i<n->0<m->n+m<=c->n+m<=lim->vb≠b->w.heap[b]? =some (.cells cur t0 (0,0))->cur.size=c*k->vs.length=m*k->
  (∀v∈(cur.toList.drop (i*k)).take ((n - i)*k),v.oneCell'=true)->(∀j v,vs[j]? =some v->w.cell? ⟨vb,voff+j,none⟩=some v)->(∀v∈vs,v.oneCell'=true)->∀(tA:TypeId) (kA:Nat),w.shape? vb=some (tA,kA)->kA≠0->
  ∃cur2:Array Value,cur2.toList=cur.toList.take (i*k)++vs++(cur.toList.drop (i*k)).take ((n - i)*k)++cur.toList.drop ((n+m)*k)/\
  Calls P f #[.slice (some ⟨b,0,none⟩) n c,.int .i64 i,.slice (some ⟨vb,voff,none⟩) m vc] w fun E w'=>E=.returned (.slice (some ⟨b,0,none⟩) (n+m) c)/\∃cur1,w'=(w.drew.setRow b cur1).setRow b cur2
 grow:∀(b n c i vb voff m vc:Nat) (cur:Array Value) (t0:TypeId) (vs:List Value) (w:World),i<n->0<m->n<=c->c<n+m->n+m<=lim->vb<w.heap.size->w.heap[b]? =some (.cells cur t0 (0,0))->cur.size=c*k->vs.length=m*k->
  (∀v∈(cur.toList.drop (i*k)).take ((n - i)*k),v.oneCell'=true)->(∀j v,vs[j]? =some v->w.cell? ⟨vb,voff+j,none⟩=some v)->(∀v∈vs,v.oneCell'=true)->
  ∃(row:Array Value) (G:Nat),n+m<=G/\row.size=G*k/\row.toList.take ((n+m)*k)=cur.toList.take (i*k)++vs++(cur.toList.drop (i*k)).take ((n - i)*k)/\
  Calls P f #[.slice (some ⟨b,0,none⟩) n c,.int .i64 i,.slice (some ⟨vb,voff,none⟩) m vc] w fun E w'=>
   E=.returned (.slice (some ⟨w.heap.size,0,none⟩) (n+m) G)/\w'.heap[w.heap.size]? =some (.cells row e (0,0))/\w'.heap.size=w.heap.size+1/\(∀x,x<w.heap.size->w'.heap[x]? =w.heap[x]?)/\w'.os=w.os/\w'.tape=w.tape/\w'.output=w.output

theorem J0{b:Nat}{t e:TypeId}{x y:Value}{s q v:AV}{hp hp':Heap}{w:World}{X:Xc P}{μ:Nat->Option Nat}(ht:P.underlying t=some (.slice e))(hok:okT P e=true)(hz:YJ P e=true)(hby:Y7 P e=true)(hH:HR w X μ hp)
  (h1:AR w X μ hp s x)(h2:AR w X μ hp q y)(h:YK (shOf P e) hp [s,q]=some (v,hp')):
  ∃v' w' μ',(Builtin.append_ #[t,t] t #[x,y]).run P w=.ok v' w'/\AR w' X μ' hp' v v'/\HR w' X μ' hp'/\Ext b X μ hp w μ' hp' w':=by
 obtain⟨n,v',w',μ',hr,hn,k1,k2,k3⟩:=vK (b:=b) (ty:=t) ht hok hz hby hH (.cons h1 (.cons h2 .nil)) h;simp only[Sem.run_bind] at hr;cases hq:(Builtin.append_ #[t,t] t #[x,y]).run P w with
 |ok u w2=>
  rw[hq] at hr;simp only[Result.andThen_ok,Sem.run_pure] at hr;cases hr;rcases hn with hn|⟨hn,_⟩
  ·cases hn;exact⟨_,_,_,rfl,k1,k2,k3⟩
  ·cases hn
 |_=>rw[hq] at hr;simp at hr
theorem J1(W:World)(x:Nat)(r:Array Value):(W.setRow x r).heap.size=W.heap.size:=by simp[World.setRow]
theorem uv{w w':World}{X:Xc P}{μ:Nat->Option Nat}{hp:Heap}{sh:Sh}{rr b nb i G:Nat}{es new:List PV}{vals nvals:List Value}{cs row:Array Value}{t0 t1:TypeId}
  (hH:HR w X μ hp)(ho:hp[rr]? =some (.arr sh es false))(hpos:0<sh.size)(hE:ER w (Im X μ hp) sh es vals)(hN:ER w (Im X μ hp) sh new nvals)(hmu:μ rr=some b)(hb:w.heap[b]? =some (.cells cs t0 (0,0)))
  (hcells:cellsOf vals=cs.toList.take (es.length*sh.size))(hi:i<=es.length)(hm:0<new.length)(hnb:nb=b\/nb=w.heap.size)(hrow:w'.heap[nb]? =some (.cells row t1 (0,0)))
  (hoth:∀x,x<w.heap.size->x≠nb->w'.heap[x]? =w.heap[x]?)(hsz:w.heap.size<=w'.heap.size)(hos:w'.os=w.os)(htp:w'.tape=w.tape)(hout:w'.output=w.output)
  (hsame:nb=b->row.size=cs.size/\t1=t0)(hrs:row.size=G*sh.size)(hG:es.length+new.length<=G)
  (htk:row.toList.take ((es.length+new.length)*sh.size)=cs.toList.take (i*sh.size)++cellsOf nvals++(cs.toList.drop (i*sh.size)).take ((es.length - i)*sh.size)):
  Xb hp.length w X μ hp (.ret (.sl sh rr (es.length+new.length) 0 (es.length+new.length))) (hp.set rr (.arr sh (es.take i++new++es.drop i) false)) (.returned (.slice (some ⟨nb,0,none⟩) (es.length+new.length) G)) w':=by
 have hrl:=(Zb.1 ho).1;have hbN:=YD hb;have hel:(es.take i++new++es.drop i).length=es.length+new.length:=by simp;omega
 have hnbl:=YD hrow;have E:∀b0,Ext b0 X μ hp w (upd μ rr (some nb)) (hp.set rr (.arr sh (es.take i++new++es.drop i) false)) w':=fun b0=>
  Ext.setArr ho (by rw[hel];omega) (fun h=>by cases h) (fun h=>by rw[hel] at h;omega) (fun k hk=>by
   cases hk;rcases hnb with h|h
   ·exact .inl (by rw[h];exact hmu)
   ·exact .inr (by omega)) hos htp hout hsz (fun k hk hne=>hoth k hk (fun e=>by
    rcases hnb with h|h
    ·exact hne rfl (by rw[e,h];exact hmu)
    ·omega)) (fun k cs' t fr hk=>by
    by_cases e:k=nb
    ·rcases hnb with h|h
     ·obtain⟨h1,h2⟩:=hsame h;have:k=b:=e.trans h;subst this;rw[hb] at hk;cases hk;exact⟨row,by rw[e,hrow,h2],h1⟩
     ·have:=YD hk;omega
    ·exact⟨cs',by rw[hoth k (YD hk) e];exact hk,rfl⟩)
 have hER:=((hE.take i).append hN).append (hE.drop i);have H:=hH.setArr ho (E 0) (fun k hk hne=>hoth k hk (fun e=>by
   rcases hnb with h|h
   ·exact hne (by rw[e,h];exact hmu)
   ·omega)) (fun k hk=>by
   cases hk;refine⟨?_,hnbl⟩;rcases hnb with h|h
   ·exact .inl (by rw[h];exact hmu)
   ·exact .inr (by omega)) (.inr ⟨nb,row,t1,vals.take i++nvals++vals.drop i,rfl,hrow,hER.1,(ER.ext (E 0) hER).2,?_⟩)
 ·refine⟨_,_,rfl,H,E _,?_⟩;refine .sl _ _ _ _ _ _ _ (es.take i++new++es.drop i) false (Zx hrl) (by omega) ⟨hG,by omega⟩ (fun _=>rfl) fun _=>⟨by omega,.inr ⟨nb,row,t1,Yg _ _ _,hrow,by rw[Zv];exact hrs.symm,fun _=>by simp⟩⟩
 ·rw[hel,htk,y7,y7,hE.cells_take i hi,hE.cells_drop i hi,hcells];have e1:(cs.toList.take (es.length*sh.size)).take (i*sh.size)=cs.toList.take (i*sh.size):=by
   rw[Zz]
   congr 1
   exact Z4 (Z9 hi (Zc _))
  have e2:(cs.toList.take (es.length*sh.size)).drop (i*sh.size)=(cs.toList.drop (i*sh.size)).take ((es.length - i)*sh.size):=by
   rw[ZH,zq]
  rw[e1,e2]
theorem EY{f:FuncId}{fn:Func}{c:Code}{t e:TypeId}(R:InsRoads P f t e (shOf P e).size)(hf:P.funcs[f]? =some fn)(hb:fn.body=some c)(hn:fn.name≠ "runtime.NumGoroutine")(ht:P.underlying t=some (.slice e))(hok:okT P e=true)(hz:YJ P e=true)(hby:Y7 P e=true):
  XA P f (JZ (shOf P e)):=by
 intro args hp r hp' h w X μ vs hH hl;have hlift:∀{K:Ending->World->Prop},Calls P f vs.toArray w K->Called P f vs.toArray w K:=fun h=>.inl ⟨xe hf hb hn,h⟩;unfold JZ at h;split at h
 ·rename_i s sh0 i shx new;split at h
  ·rename_i hc;obtain⟨rfl,hnew⟩:=hc;have hm:0<new.length:=zz.2 hnew;cases hl with|cons h1 hl=>
   cases hl with|cons h2 hl=>
   cases hl with|cons h3 hl=>
   cases hl;rename_i vs1 vs2 vs3;cases h2 with|pv _ _ _ _ h2=>
   cases h2;have h3':=h3;cases h3 with|tsl _ _ a hq=>
   have hq':=hq;cases hq with
   |nilsl=>exact(hnew rfl).elim
   |sl _ _ vb vo vn vcs vt vfr vvals hvl hvI hvb hv1 hv2 hvc hvn=>
   split at h
   ·rename_i s1 rr ver off len;split at h
    ·rename_i hi;split at h
     ·rename_i hlen;split at h
      ·rename_i v hp1 hap;cases h;obtain⟨v',w',μ',g1,g2,g3,g4⟩:=J0 (b:=hp.length) ht hok hz hby hH h1 h3' hap;cases h1 with|sl _ _ _ _ _ ba cap es fz ho hv hlc ha hcc=>
       subst hi;refine hlift ((R.endr ba len cap vb vo new.length new.length w w' v' hm hlc.1 hlen g1).mono fun E W hE=> ?_);obtain⟨rfl,rfl⟩:=hE;exact⟨μ',_,rfl,g3,g4,g2⟩
      ·cases h
     ·cases h
    ·rename_i hi;split at h
     ·rename_i s' es ho;split at h
      ·rename_i hcc;obtain⟨rfl,rfl,rfl,rfl,rfl,hi0,hil,hlim⟩:=hcc;cases h;obtain⟨j,rfl⟩:∃j:Nat,i=(j:Int):=⟨i.toNat,by omega⟩;have hjl:j<es.length:=by omega
       obtain⟨hpos,harr⟩:=hH.arr rr _ es false ho;have hN:ER w (Im X μ hp) (shOf P e) new vvals:=⟨hvl,fun k p v hp hv=>⟨hv1 k p v hp hv,hv2 k p v hp hv⟩⟩;have hNl:=hN.length;have hNc:=XQ hvb hvc;cases h1 with|sl _ _ _ _ _ ba cap es1 fz1 ho1 hv1' hlc ha hcc=>
       rw[ho] at ho1;cases ho1;obtain⟨_,c2⟩:=hcc rfl;rcases harr with⟨h1,h2⟩|⟨b,cs,t0,vals,h1,h2,h3,h4,h5⟩
       ·rw[h2] at hjl;simp at hjl
       have hE:ER w (Im X μ hp) (shOf P e) es vals:=⟨h3,h4⟩;have hEl:=hE.length;rcases c2 with⟨c3,_⟩|⟨b',cs',t',c3,c4,c5,c6⟩
       ·rw[h1] at c3;cases c3
       rw[h1] at c3;cases c3;rw[h2] at c4;cases c4;rw[Zv] at c5;have hba:=c6 (by omega);rw[Nat.zero_mul] at hba;subst hba;have hlive:live hp rr=true:=by simp[live,ho]
       have hne:vb≠b:=fun e=>hvI.2 rr hlive (by rw[e];exact h1);have hvcell:∀(k:Nat) v,(cellsOf vvals)[k]? =some v->w.cell? ⟨vb,vo+k,none⟩=some v:=fun k v hk=>by
        have:=hNc k v hk;have ha:(⟨vb,vo,none⟩:Addr).add k=⟨vb,vo+k,none⟩:=by unfold Addr.add;split <;> simp_all
        rwa [ha] at this
       have hoc:∀v∈(cs.toList.drop (j*(shOf P e).size)).take ((es.length - j)*(shOf P e).size),v.oneCell'=true:=fun v hv=>by
        have e2:(cs.toList.take (es.length*(shOf P e).size)).drop (j*(shOf P e).size)=(cs.toList.drop (j*(shOf P e).size)).take ((es.length - j)*(shOf P e).size):=by rw[ZH,zq]
        rw[<-e2,<-h5] at hv;exact hE.flat v (zM hv)
       simp only[Int.toNat_natCast];by_cases hroom:es.length+new.length<=cap
       ·have hkA:vcs.size≠0:=by
         intro h0;have:=congrArg List.length hvc;have h00:vcs.toList=[]:=zZ.1 (by simpa using h0);rw[hNl,h00] at this;simp at this;have:=Nat.mul_pos hm hpos;omega
        obtain⟨cur2,hc2,hcall⟩:=R.shift b es.length cap j vb vo new.length new.length cs t0 (cellsOf vvals) w hjl hm hroom hlim hne h2 c5.symm hNl hoc hvcell hN.flat vt vcs.size (by simp[World.shape?,hvb]) hkA;refine hlift (hcall.mono fun E W hE'=> ?_);obtain⟨rfl,cur1,rfl⟩:=hE';have hrow1:(w.drew.setRow b cur1).heap[b]? =some (.cells cur1 t0 (0,0)):=setRow_heap w.drew b cs cur1 t0 _ h2;have hrow2:=setRow_heap (w.drew.setRow b cur1) b cur1 cur2 t0 _ hrow1;have hc2l:cur2.size=cs.size:=by
         have:=congrArg List.length hc2;have hb1:j*(shOf P e).size<=es.length*(shOf P e).size:=Z9 (by omega) (Zc _);have hb2:(es.length+new.length)*(shOf P e).size<=cap*(shOf P e).size:=Z9 hroom (Zc _);simp only[Zi,Zh,ZA,Zk,hNl,zq,Zq] at this hb2;omega
        refine uv hH ho hpos hE hN h1 h2 h5 (by omega) hm (.inl rfl) hrow2 (fun x _ hx=> ?_) (by rw[J1,J1];exact Nat.le_of_eq rfl) rfl rfl rfl (fun _=>⟨hc2l,rfl⟩) (by rw[hc2l];exact c5.symm) hroom ?_
        ·simp[World.setRow,zQ,Ne.symm hx];rfl
        ·rw[hc2];exact Z2 (by
          have hb1:j*(shOf P e).size<=es.length*(shOf P e).size:=Z9 (by omega) (Zc _);have hb2:(es.length+new.length)*(shOf P e).size<=cap*(shOf P e).size:=Z9 hroom (Zc _);simp only[Zi,Zh,ZA,Zk,hNl,zq,Zq] at hb2 ⊢;omega)
       ·obtain⟨row,G,g1,g2,g3,hcall⟩:=R.grow b es.length cap j vb vo new.length new.length cs t0 (cellsOf vvals) w hjl hm hlc.1 (by omega) hlim (YD hvb) h2 c5.symm hNl hoc hvcell hN.flat;refine hlift (hcall.mono fun E W hE'=> ?_);obtain⟨rfl,k1,k2,k3,k4,k5,k6⟩:=hE';exact uv hH ho hpos hE hN h1 h2 h5 (by omega) hm (.inr rfl) k1 (fun x hx _=>k3 x hx) (by omega) k4 k5 k6 (fun e=>by have:=YD h2;omega) g2 g1 g3
      ·cases h
     ·cases h
   ·rename_i s1 es;split at h
    ·rename_i hi;obtain⟨hi,hlen⟩:=hi;split at h
     ·rename_i v hp1 hap;cases h;obtain⟨v',w',μ',g1,g2,g3,g4⟩:=J0 (b:=hp.length) ht hok hz hby hH h1 h3' hap;cases h1 with|tsl _ _ a1 hq1=>
      subst hi;refine hlift ((R.endr a1 es.length es.length vb vo new.length new.length w w' v' hm (Zc _) hlen g1).mono fun E W hE=> ?_);obtain⟨rfl,rfl⟩:=hE;exact⟨μ',_,rfl,g3,g4,g2⟩
     ·cases h
    ·cases h
   ·cases h
  ·cases h
 ·cases h
end Go.Am

/- The contract of slices.Insert at the end of a slice. -/
namespace Go.Am
variable{P:Program}
def J2(sh:Sh):Ym:=fun _ args hp=>match args with
 |[s,.pv _ (.int .i64 i),.tsl shx new]=>
  if shx=sh/\new≠[] then match s with
   | .sl s1 r ver off len=>
    if i=(len:Int)/\len<=lim then match YK sh hp [.sl s1 r ver off len,.tsl shx new] with
     |some (v,hp')=>some (.ret v,hp')
     |none=>none
    else none
   | .tsl s1 es=>if i=(es.length:Int)/\es.length<=lim then match YK sh hp [.tsl s1 es,.tsl shx new] with
     |some (v,hp')=>some (.ret v,hp')
     |none=>none
    else none
   |_=>none
  else none
 |_=>none
theorem EZ{f:FuncId}{fn:Func}{c:Code}{t e:TypeId}(R:∀(base:Option Addr) (n c vb voff m vc:Nat) (w w':World) (v':Value),0<m->n<=c->n<=lim->(Builtin.append_ #[t,t] t #[.slice base n c,.slice (some ⟨vb,voff,none⟩) m vc]).run P w=.ok v' w'->
  Calls P f #[.slice base n c,.int .i64 n,.slice (some ⟨vb,voff,none⟩) m vc] w fun E W=>E=.returned v'/\W=w')(hf:P.funcs[f]? =some fn)(hb:fn.body=some c)(hn:fn.name≠ "runtime.NumGoroutine")(ht:P.underlying t=some (.slice e))(hok:okT P e=true)(hz:YJ P e=true)(hby:Y7 P e=true):
  XA P f (J2 (shOf P e)):=by
 intro args hp r hp' h w X μ vs hH hl;have hlift:∀{K:Ending->World->Prop},Calls P f vs.toArray w K->Called P f vs.toArray w K:=fun h=>.inl ⟨xe hf hb hn,h⟩;unfold J2 at h;split at h
 ·rename_i s sh0 i shx new;split at h
  ·rename_i hc;obtain⟨rfl,hnew⟩:=hc;have hm:0<new.length:=zz.2 hnew;cases hl with|cons h1 hl=>
   cases hl with|cons h2 hl=>
   cases hl with|cons h3 hl=>
   cases hl;rename_i vs1 vs2 vs3;cases h2 with|pv _ _ _ _ h2=>
   cases h2;have h3':=h3;cases h3 with|tsl _ _ a hq=>
   cases hq with
   |nilsl=>exact(hnew rfl).elim
   |sl _ _ vb vo vn vcs vt vfr vvals hvl hvI hvb hv1 hv2 hvc hvn=>
   split at h
   ·rename_i s1 rr ver off len;split at h
    ·rename_i hi;obtain⟨hi,hlen⟩:=hi;split at h
     ·rename_i v hp1 hap;cases h;obtain⟨v',w',μ',g1,g2,g3,g4⟩:=J0 (b:=hp.length) ht hok hz hby hH h1 h3' hap;cases h1 with|sl _ _ _ _ _ ba cap es fz ho hv hlc ha hcc=>
      subst hi;refine hlift ((R ba len cap vb vo new.length new.length w w' v' hm hlc.1 hlen g1).mono fun E W hE=> ?_);obtain⟨rfl,rfl⟩:=hE;exact⟨μ',_,rfl,g3,g4,g2⟩
     ·cases h
    ·cases h
   ·rename_i s1 es;split at h
    ·rename_i hi;obtain⟨hi,hlen⟩:=hi;split at h
     ·rename_i v hp1 hap;cases h;obtain⟨v',w',μ',g1,g2,g3,g4⟩:=J0 (b:=hp.length) ht hok hz hby hH h1 h3' hap;cases h1 with|tsl _ _ a1 hq1=>
      subst hi;refine hlift ((R a1 es.length es.length vb vo new.length new.length w w' v' hm (Zc _) hlen g1).mono fun E W hE=> ?_);obtain⟨rfl,rfl⟩:=hE;exact⟨μ',_,rfl,g3,g4,g2⟩
     ·cases h
    ·cases h
   ·cases h
  ·cases h
 ·cases h
end Go.Am

/- slices.Insert at arrays of the run's own that hold what shows references. -/
namespace Go.Am
variable{P:Program}
def QJ(sh:Sh):Ym:=fun _ args hp=>match args with
 |[.slv s1 r ver off len,.pv _ (.int .i64 i),.slv sx rx verx offx lenx]=>match hp[r]?,hp[rx]? with
  |some (.arv s' es),some (.arv shx new)=>if(s1=sh/\s'=sh/\shx=sh)/\(ver=es.length/\off=0/\len=es.length)/\(verx=new.length/\offx=0/\lenx=new.length)/\r≠rx/\new≠[]/\(0<=i/\i<=len)/\len+new.length<=lim/\xP hp.length r es new=true then
    some (.ret (.slv sh r (len+new.length) 0 (len+new.length)),hp.set r (.arv sh (es.take i.toNat++new++es.drop i.toNat))) else none
  |_,_=>none
 |_=>none
theorem E4{f:FuncId}{fn:Func}{c:Code}{t e:TypeId}(R:InsRoads P f t e (shOf P e).size)(hf:P.funcs[f]? =some fn)(hb:fn.body=some c)(hn:fn.name≠ "runtime.NumGoroutine")(ht:P.underlying t=some (.slice e))(hok:okT P e=true)(hz:YJ P e=true)(hby:Y7 P e=true):
  XA P f (QJ (shOf P e)):=by
 intro args hp r hp' h w X μ vs hH hl;have hlift:∀{K:Ending->World->Prop},Calls P f vs.toArray w K->Called P f vs.toArray w K:=fun h=>.inl ⟨xe hf hb hn,h⟩;unfold QJ at h;split at h
 ·rename_i s1 rr ver off len sh0 i sx rx verx offx lenx;split at h
  ·rename_i s' es shx new ho hox;split at h
   ·rename_i hcond;obtain⟨⟨rfl,rfl,rfl⟩,⟨rfl,rfl,rfl⟩,⟨rfl,rfl,rfl⟩,hne,hnew,⟨hi0,hil⟩,hlim,hrefs⟩:=hcond;cases h;have hm:0<new.length:=zz.2 hnew;cases hl with|cons h1 hl=>
    cases hl with|cons h2 hl=>
    cases hl with|cons h3 hl=>
    cases hl;rename_i vs1 vs2 vs3;cases h2 with|pv _ _ _ _ h2=>
    cases h2;have h1':=h1;have h3':=h3;have hrl:=(Zb.1 ho).1;have hrx:=(Zb.1 hox).1;obtain⟨hpos,b,cs,t0,vals,g1,g2,g3,g4,g5⟩:=hH.arv rr _ es ho;obtain⟨_,vb,vcs,vt,nvals,q1,q2,q3,q4,q5⟩:=hH.arv rx _ new hox;have hE:EV w X μ hp (shOf P e) es vals:=⟨g3,g4⟩;have hN:EV w X μ hp (shOf P e) new nvals:=⟨q3,q4⟩;have hEl:=hE.length;have hNl:=hN.length;have hvb:vb≠b:=fun e=>hne (hH.inj rr rx b hrl hrx g1 (by rw[q1,e]));cases h1 with|slv _ _ _ _ _ base cap n ho1 hv1 hlc ha hcc=>
    rw[ho] at ho1;simp only[Y1,Option.some.injEq,Prod.mk.injEq,true_and] at ho1;subst ho1;obtain⟨_,b',cs',t',c3,c4,c5,c6⟩:=hcc rfl;rw[g1] at c3;cases c3;rw[g2] at c4;cases c4;rw[Zv] at c5;cases h3 with|slv _ _ _ _ _ vbase vcap vn ho3 hv3 hlc3 ha3 hcc3=>
    rw[hox] at ho3;simp only[Y1,Option.some.injEq,Prod.mk.injEq] at ho3;obtain⟨rfl,rfl⟩:=ho3;obtain⟨_,vb',vcs',vt',d3,d4,d5,d6⟩:=hcc3 rfl;rw[q1] at d3;cases d3;rw[q2] at d4;cases d4;have hvb0:=d6 (by have:=hlc3.1;omega);rw[Nat.zero_mul] at hvb0;subst hvb0;obtain⟨j,rfl⟩:∃j:Nat,i=(j:Int):=⟨i.toNat,by omega⟩;simp only[Int.toNat_natCast];have hqn:rr<hp.length->∀q∈AV.refsIn.gol new,q∈AV.refsIn.gol es:=Uh hrefs;have hqq:rr<hp.length->∀q∈AV.refsIn.gol (es.take j++new++es.drop j),q∈AV.refsIn.gol es:=by
     intro hlt q hq';rcases(JB _ _ _).1 hq' with h|h
     ·rcases(JB _ _ _).1 h with h|h
      ·exact JC (fun x hx=>List.mem_of_mem_take hx) h
      ·exact hqn hlt q h
     ·exact JC (fun x hx=>zM hx) h
    by_cases hjl:j=es.length
    ·subst hjl;have hcells:new≠[]->∃ad,some (⟨vb,0,none⟩:Addr)=some ad/\∀(k:Nat) (u:Value),(cellsOf nvals)[k]? =some u->w.cell? (ad.add k)=some u:=fun _=>⟨_,rfl,XQ (n:=new.length*(shOf P e).size) q2 (by rw[q5,Z5])⟩;obtain⟨v',w',μ',a1,a2,a3,a4⟩:=Ui (b:=hp.length) (ty:=t) (c:=vcap) ht hok hz hby hH ho h1' hN hcells hlim hqn;have e1:es.take es.length++new++es.drop (es.length+new.length)=es.take es.length++new++es.drop es.length:=by rw[Z3 (by omega),zK]
     have e2:(es.take es.length++new++es.drop es.length).length=es.length+new.length:=by simp
     rw[e1] at a2 a3 a4;rw[e2] at a4;refine hlift ((R.endr base es.length cap vb 0 new.length vcap w w' v' hm hlc.1 (by omega) a1).mono fun E W hE'=> ?_);obtain⟨rfl,rfl⟩:=hE';exact⟨μ',_,rfl,a2,a3,a4⟩
    ·have hjlt:j<es.length:=by omega
     have hba:=c6 (by have:=hlc.1;omega);rw[Nat.zero_mul] at hba;subst hba;have hEV:=((hE.take j).append hN).append (hE.drop j);have hel:(es.take j++new++es.drop j).length=es.length+new.length:=by simp;omega
     have hcl:cs.toList.length=cs.size:=Zk;have hvcell:∀(k:Nat) v,(cellsOf nvals)[k]? =some v->w.cell? ⟨vb,0+k,none⟩=some v:=fun k v hk=>by
      have:=XQ (o:=0) (n:=new.length*(shOf P e).size) q2 (vals:=nvals) (by rw[q5,Z5]) k v hk;have ha:(⟨vb,0,none⟩:Addr).add k=⟨vb,0+k,none⟩:=by unfold Addr.add;split <;> simp_all
      rwa [ha] at this
     have hdt:(cs.toList.take (es.length*(shOf P e).size)).drop (j*(shOf P e).size)=(cs.toList.drop (j*(shOf P e).size)).take ((es.length - j)*(shOf P e).size):=by rw[ZH,zq]
     have hoc:∀v∈(cs.toList.drop (j*(shOf P e).size)).take ((es.length - j)*(shOf P e).size),v.oneCell'=true:=fun v hv=>by
      rw[<-hdt,<-g5] at hv;exact hE.flat v (zM hv)
     have hcc':cellsOf (vals.take j++nvals++vals.drop j)=cs.toList.take (j*(shOf P e).size)++cellsOf nvals++(cs.toList.drop (j*(shOf P e).size)).take ((es.length - j)*(shOf P e).size):=by
      rw[y7,y7,hE.cells_take j (by omega),hE.cells_drop j (by omega),g5,hdt,Zz,Z4 (Z9 (by omega) (Zc _))]
     by_cases hroom:es.length+new.length<=cap
     ·have hkA:vcs.size≠0:=by
       intro h0;have:=congrArg List.length q5;have h00:vcs.toList=[]:=zZ.1 (by simpa using h0);rw[hNl,h00] at this;simp at this;have:=Nat.mul_pos hm hpos;omega
      obtain⟨cur2,hc2,hcall⟩:=R.shift b es.length cap j vb 0 new.length vcap cs t0 (cellsOf nvals) w hjlt hm hroom hlim hvb g2 c5.symm hNl hoc hvcell hN.flat vt vcs.size (by simp[World.shape?,q2]) hkA;refine hlift (hcall.mono fun E W hE'=> ?_);obtain⟨rfl,cur1,rfl⟩:=hE';have hrow1:(w.drew.setRow b cur1).heap[b]? =some (.cells cur1 t0 (0,0)):=setRow_heap w.drew b cs cur1 t0 _ g2;have hrow2:=setRow_heap (w.drew.setRow b cur1) b cur1 cur2 t0 _ hrow1;have hb1:j*(shOf P e).size<=es.length*(shOf P e).size:=Z9 (by omega) (Zc _);have hb2:(es.length+new.length)*(shOf P e).size<=cap*(shOf P e).size:=Z9 hroom (Zc _);have hc2l:cur2.size=cs.size:=by
       have:=congrArg List.length hc2;simp only[Zi,Zh,ZA,Zk,hNl,zq,Zq] at this hb2;omega
      have hoth:∀x,x≠b->((w.drew.setRow b cur1).setRow b cur2).heap[x]? =w.heap[x]? :=fun x hx=>by
       simp[World.setRow,zQ,Ne.symm hx];rfl
      obtain⟨k1,k2,k3⟩:=JD hp.length (w':=(w.drew.setRow b cur1).setRow b cur2) (row:=cur2) (nb:=b) (cap:=cap) (t:=t0) hH ho (by rw[hel];omega) hqq hEV (.inl g1) hrow2 (fun k _ hk=>hoth k fun e=>hk (by rw[e];exact g1)) (.inl (by have:=YD g2;omega)) (fun cs0 t1 fr hk=>by
        rw[g2] at hk;cases hk;exact⟨rfl,rfl,hc2l⟩) (by rw[J1,J1];exact Nat.le_of_eq rfl) rfl rfl rfl (by
        rw[hcc',hel,hc2];refine(Z2 ?_).symm;simp only[Zi,Zh,ZA,Zk,hNl,zq,Zq] at hb2 ⊢;omega) (by rw[hc2l];exact c5) (es.length+new.length) (by rw[hel];exact Zc _) hroom (by rw[hel];exact hroom) (some ⟨b,0,none⟩) rfl
      rw[hel] at k3;exact⟨_,_,rfl,k1,k2,k3⟩
     ·obtain⟨row,G,a1,a2,a3,hcall⟩:=R.grow b es.length cap j vb 0 new.length vcap cs t0 (cellsOf nvals) w hjlt hm hlc.1 (by omega) hlim (YD q2) g2 c5.symm hNl hoc hvcell hN.flat;refine hlift (hcall.mono fun E W hE'=> ?_);obtain⟨rfl,r1,r2,r3,r4,r5,r6⟩:=hE';obtain⟨k1,k2,k3⟩:=JD hp.length (w':=W) (row:=row) (nb:=w.heap.size) (cap:=G) (t:=e) hH ho (by rw[hel];omega) hqq hEV (.inr ⟨rfl,by rw[hel];omega⟩) r1 (fun k hk _=>r3 k hk) (.inr r3) (fun cs0 t1 fr hk=>by have:=YD hk;omega) (by omega) r4 r5 r6 (by rw[hcc',hel];exact a3.symm) a2.symm (es.length+new.length) (by rw[hel];exact Zc _) a1 (by rw[hel];exact a1) (some ⟨w.heap.size,0,none⟩) rfl;rw[hel] at k3;exact⟨_,_,rfl,k1,k2,k3⟩
   ·cases h
  ·cases h
 ·cases h
end Go.Am

/- A function that writes out a map with keys of several parts: its entries come in any order. -/
namespace Go.Am
variable{P:Program} {w:World} {X:Xc P} {μ:Nat->Option Nat} {hp:Heap}

def qJ(sh:Sh)(es:List (PV × PV)):Ym:=fun _ args hp=>match args with
 |[]=>some (.ret (.map hp.length),hp++[.map sh es])
 |_=>none

theorem uw{α β:Type}{f:α->β}:∀(ys:List β) (xs:List α),(xs.map f).Perm ys->∃l:List α,l.Perm xs/\l.map f=ys
 |[],xs,h=>⟨[],by have:=h.eq_nil;simp at this;subst this;exact .refl _,rfl⟩
 |y::ys,xs,h=>by
  obtain⟨x,hx,hy⟩:=Z0.1 (h.mem_iff.2 (ZT (a:=y) (l:=ys)));obtain⟨s,t,rfl⟩:=List.append_of_mem hx;have h2:((s++t).map f).Perm ys:=by
   have e:((s++x::t).map f).Perm (y::(s++t).map f):=by
    rw[<-hy,<-ZX];exact List.Perm.map f List.perm_middle
   exact(e.symm.trans h).cons_inv
  obtain⟨l,l1,l2⟩:=uw ys (s++t) h2;exact⟨x::l,(l1.cons x).trans List.perm_middle.symm,by rw[ZX,l2,hy]⟩

theorem E5{tm tk te:TypeId}{ds:List Nat}(ht:P.underlying tm=some (.map tk te))(hk:yx P tk=some ds){b:Nat}{ents:Array MapEntry}{clock:Nat}(hb:w.heap[b]? =some (.map ents clock)){k:List (Sh × PV)}{kv fv:Value}(h1:PR w (fun _=>True) (.agg k) kv)
  (hkk:Yu ds k k=some true)(hne:∀e∈ents.toList,∃k',PR w (fun _=>True) (.agg k') e.key/\Yu ds k k'=some false):
  (Instr.mapUpdate tm (.map (some b)) kv fv).run P w=.ok () { w with heap:=w.heap.setIfInBounds b (.map (ents.push { key:=kv,val:=fv,born:=clock }) (clock+1)) }:=by
 obtain⟨q,q1,q2⟩:=Ks (P:=P) (w:=w) (I:=fun _=>True) (t:=tk) (sh:=none) (kv:=kv) (r:=none) ents.toList 0 fun e he=>by
  obtain⟨k',g1,g2⟩:=hne e he;exact⟨false,Qg hk h1 g1 g2,fun h=>by cases h⟩
 have hq:q=none:=by
  rcases q2 with⟨q2,_⟩|⟨_,_,_,_,h,_⟩
  ·exact q2
  ·cases h
 subst hq;have hts:∃fs,P.underlying tk=some (.struct fs):=by
  unfold yx at hk;split at hk
  ·exact⟨_,by assumption⟩
  ·cases hk
 obtain⟨fs,hts⟩:=hts;have hrun:(Instr.findKey tk kv ents.toList).run P w=.ok none w:=by
  unfold Instr.findKey;simp only[Sem.run_bind,run_underlying hts,Result.andThen_ok];cases he:ents.toList with
  |nil=>simp[Instr.findNow]
  |cons x rest=>
   rw[he] at q1;have:Instr.findNow (.struct fs) kv (x::rest) 0=none:=by
    unfold Instr.findNow;have:Instr.sameNow (.struct fs) kv x.key=none:=by
     unfold Instr.sameNow;cases kv <;> cases x.key <;> rfl
    rw[this]
   rw[this];exact q1
 simp[Instr.mapUpdate,run_underlying ht,Qf hb,Kq _ hk h1 hkk,hrun,Ko _ hb]

structure Lit(P:Program)(ops:Array Oper)(N nt t0 t1 t2:Nat)(tm tk:TypeId)(d:Nat->Nat)(s:Nat->List UInt8)(n:Nat->Int)(f:Nat->FuncId):Prop where
 sz:ops.size=2*N+3
 o0:∃o,ops[0]? =some o/\o.guard=none/\o.dst=some t1/\o.op=.makeMap tm none
 ob:∀e,e<N->∃o,ops[2*e+1]? =some o/\o.guard=none/\o.dst=some (d e)/\o.op=.build tk #[(0,.const (.string ⟨(s e).toArray⟩)),(1,.const (.int .i64 (n e)))]
 oi:∀e,e<N->∃o,ops[2*e+2]? =some o/\o.guard=none/\o.dst=none/\o.op=.insert tm (.tmp t1) (.tmp (d e)) (.func (f e))/\(∃x∈o.after,Region.binds .any x=true/\x.on=0)/\∃x∈o.after,Region.binds .any x=true/\x.on=2*e+1
 om:∃o,ops[2*N+1]? =some o/\o.guard=none/\o.dst=some t2/\o.op=.move (.tmp t1)/\∃x∈o.after,Region.binds .any x=true/\x.on=0
 oa:∃o,ops[2*N+2]? =some o/\o.guard=none/\o.dst=some t0/\o.op=.assign (.tmp t2)/\∃x∈o.after,Region.binds .any x=true/\x.on=2*N+1
 lt:t0<nt/\t1<nt/\t2<nt/\∀e,e<N->d e<nt
 ne:t0≠t1/\t0≠t2/\t1≠t2/\∀e,e<N->d e≠t0/\d e≠t1/\d e≠t2/\∀e',e'<N->e≠e'->d e≠d e'

abbrev kP(s:Nat->List UInt8)(n:Nat->Int)(e:Nat):List (Sh × PV):=[(none,.str (s e)),(none,.int .i64 (n e))]
abbrev kV(s:Nat->List UInt8)(n:Nat->Int)(e:Nat):Value:=.agg #[.string ⟨(s e).toArray⟩,.int .i64 (n e)]
abbrev fV(f:Nat->FuncId)(e:Nat):Value:=.func (.func (f e)) #[] #[]
theorem XB(w:World)(I:Nat->Prop)(s:Nat->List UInt8)(n:Nat->Int)(e:Nat):PR w I (.agg (kP s n e)) (kV s n e):=
 .agg _ [.string ⟨(s e).toArray⟩,.int .i64 (n e)] rfl (fun i x v hx hv=>by
  match i,hx,hv with
  |0,hx,hv=>simp at hx hv;subst hx;subst hv;rfl
  |1,hx,hv=>simp at hx hv;subst hx;subst hv;rfl) (fun i x v hx hv=>by
  match i,hx,hv with
  |0,hx,hv=>simp at hx hv;subst hx;subst hv;exact .str _
  |1,hx,hv=>simp at hx hv;subst hx;subst hv;exact .int _ _)

structure LI(w0:World)(N nt t0 t1 t2:Nat)(d:Nat->Nat)(s:Nat->List UInt8)(n:Nat->Int)(f:Nat->FuncId)(L:Array Bool)(a:Act)(w:World):Prop where
 sz:L.size=2*N+3
 ds:a.defers=[]
 tz:a.tmps.size=nt
 m1:L.getD 0 false=true->a.tmps[t1]? =some (.map (some w0.heap.size))
 mb:∀e,e<N->L.getD (2*e+1) false=true->a.tmps[d e]? =some (kV s n e)
 m2:L.getD (2*N+1) false=true->a.tmps[t2]? =some (.map (some w0.heap.size))
 m0:L.getD (2*N+2) false=true->a.tmps[t0]? =some (.map (some w0.heap.size))
 pre:L.getD 0 false=false->w=w0/\∀e,e<N->L.getD (2*e+2) false=false
 post:L.getD 0 false=true->∃(ents:Array MapEntry) (clock:Nat),w={ w0 with heap:=w0.heap.push (.map ents clock) }/\(ents.toList.map fun e=>(e.key,e.val)).Nodup/\
  ∀x,x∈ents.toList.map (fun e=>(e.key,e.val))↔∃e,e<N/\L.getD (2*e+2) false=true/\x=(kV s n e,fV f e)

theorem QK{o:Oper}{a:Act}{w':World}{nx:Next}{v:Value}{K:Act->World->Prop}{Q:Exit->Act->World->Prop}{ro:Option Nat}(hnd:∀c,o.op≠.defer c)(h:(execOp a.eval o).run P w=.ok nx w')(hv:nx=.value v\/(nx=.skip/\v=undef))(hK:K (a.put o.dst v) w'):o.wpIn (Fe ro) 0 P a w K Q:=by
 refine⟨fun _ _=>trivial,?_⟩;rw[Oper.semAt_eq _ _ _ hnd,h];rcases hv with rfl|⟨rfl,rfl⟩
 ·exact hK
 ·exact hK

theorem QL{ops:Array Oper}{i:Nat}{o:Oper}{a:Act}{K:Act->World->Prop}{Q:Exit->Act->World->Prop}{ro:Option Nat}(ho:ops[i]? =some o)(hg:o.guard=none)(h:o.wpIn (Fe ro) 0 P a w K Q):wpOpIn (Fe ro) 0 P ops Q i K a w:=by
 unfold wpOpIn;rw[ho];simp only[];rw[Zd (by simp[Region.wanted,hg])];exact h
theorem yO(a:Act)(t:Nat)(v:Value)(j:Nat)(ht:t<a.tmps.size):(a.put (some t) v).tmps[j]? =if j=t then some v else a.tmps[j]? :=by
 show(a.tmps.setIfInBounds t v)[j]? =_;rw[Array.getElem?_setIfInBounds];by_cases h:t=j
 ·subst h;simp[ht]
 ·rw[Za h,Za (Ne.symm h)]
theorem qK{a:Act}{t:Nat}{v:Value}(h:a.tmps[t]? =some v):a.eval (.tmp t)=v:=by
 show a.tmps.getD t undef=v;rw[ZC,h];rfl
theorem ko{L:Array Bool}{i j:Nat}(h:i<L.size):(L.setIfInBounds i true).getD j false=if j=i then true else L.getD j false:=by
 rw[ZC,ZC,Array.getElem?_setIfInBounds];by_cases hx:i=j
 ·subst hx;simp[h]
 ·rw[Za hx,Za (Ne.symm hx)]

section
variable{ops:Array Oper} {N nt t0 t1 t2:Nat} {tm tk te:TypeId} {d:Nat->Nat} {s:Nat->List UInt8} {n:Nat->Int} {f:Nat->FuncId} {w0:World} {ro:Option Nat} {g:FuncId}

theorem E6{ds:List Nat}(T:Lit P ops N nt t0 t1 t2 tm tk d s n f)(ht:P.underlying tm=some (.map tk te))(hk:yx P tk=some ds)(hkk:∀e,e<N->Yu ds (kP s n e) (kP s n e)=some true)(hkn:∀e e',e<N->e'<N->e≠e'->Yu ds (kP s n e) (kP s n e')=some false)
  (hbuild:∀(w:World) e,e<N->(Instr.build tk #[(0,.string ⟨(s e).toArray⟩),(1,.int .i64 (n e))]).run P w=.ok (kV s n e) w){Q:Exit->Act->World->Prop}{L:Array Bool}{a:Act}{i:Nat}(D:LI w0 N nt t0 t1 t2 d s n f L a w)(hi:i∈Region.ready .any ops L):
  wpOpIn (Fe ro) 0 P ops Q i (fun a' w'=>LI w0 N nt t0 t1 t2 d s n f (L.setIfInBounds i true) a' w') a w:=by
 obtain⟨o',ho',hL,haft⟩:=mem_ready.1 hi;have hil:i<2*N+3:=by rw[<-T.sz];exact(zw.1 ho').1
 have hiL:i<L.size:=by rw[D.sz];exact hil
 have hLf:L.getD i false=false:=by rw[qA hiL];exact hL
 have before:∀{o:Oper} {j:Nat},ops[i]? =some o->(∃x∈o.after,Region.binds .any x=true/\x.on=j)->L.getD j false=true:=by
  intro o j ho ⟨x,hx,hb,hj⟩;rw[ho'] at ho;cases ho;have:=haft x hx;rw[hb,hj] at this;simpa using this
 have sz':(L.setIfInBounds i true).size=2*N+3:=by simp[D.sz]
 have gp:∀j,(L.setIfInBounds i true).getD j false=if j=i then true else L.getD j false:=fun j=>ko hiL
 obtain⟨l0,l1,l2,ld⟩:=T.lt;obtain⟨n01,n02,n12,nd⟩:=T.ne;have cases_:i=0\/(∃e,e<N/\i=2*e+1)\/(∃e,e<N/\i=2*e+2)\/i=2*N+1\/i=2*N+2:=by
  rcases Nat.eq_zero_or_pos i with h|h
  ·exact .inl h
  ·rcases Zt i (2*N+1) with h1|h1
   ·rcases Nat.mod_two_eq_zero_or_one i with h2|h2
    ·exact .inr (.inr (.inl ⟨i / 2 - 1,by omega,by omega⟩))
    ·exact .inr (.inl ⟨i / 2,by omega,by omega⟩)
   ·omega
 rcases cases_ with rfl|⟨e,he,rfl⟩|⟨e,he,rfl⟩|rfl|rfl
 ·obtain⟨o,ho,hg,hd,hop⟩:=T.o0;obtain⟨p1,p2⟩:=D.pre hLf;subst p1;refine QL ho hg (QK (v:=.map (some w.heap.size)) (nx:=.value (.map (some w.heap.size))) (w':=w.alloc (.map #[] 0)) (by intro c e;rw[hop] at e;cases e) (by simp[execOp,hop,Instr.makeMap]) (.inl rfl) ?_);rw[hd];refine⟨sz',D.ds,by rw[yC];exact D.tz,fun _=>by rw[yO _ _ _ _ (by rw[D.tz];exact l1)];simp,fun e he h=> ?_,fun h=> ?_,fun h=> ?_,fun h=> ?_,fun _=> ?_⟩
  ·rw[gp,Za (by omega)] at h;rw[yO _ _ _ _ (by rw[D.tz];exact l1),Za (nd e he).2.1];exact D.mb e he h
  ·rw[gp,Za (by omega)] at h;rw[yO _ _ _ _ (by rw[D.tz];exact l1),Za (Ne.symm n12)];exact D.m2 h
  ·rw[gp,Za (by omega)] at h;rw[yO _ _ _ _ (by rw[D.tz];exact l1),Za n01];exact D.m0 h
  ·rw[gp,Zd rfl] at h;cases h
  ·refine⟨#[],0,rfl,by simp,fun x=> ?_⟩;simp only[List.map_nil,zj,false_iff];rintro⟨e,he,h,_⟩;rw[gp,Za (by omega),p2 e he] at h;cases h
 ·obtain⟨o,ho,hg,hd,hop⟩:=T.ob e he;refine QL ho hg (QK (v:=kV s n e) (nx:=.value (kV s n e)) (w':=w) (by intro c e;rw[hop] at e;cases e) ?_ (.inl rfl) ?_)
  ·have:=hbuild w e he;simp[execOp,hop,Act.eval] at this ⊢;rw[this];rfl
  rw[hd];have hlt:d e<a.tmps.size:=by rw[D.tz];exact ld e he
  obtain⟨q0,q1,q2,q3⟩:=nd e he;refine⟨sz',D.ds,by rw[yC];exact D.tz,fun h=> ?_,fun e' he' h=> ?_,fun h=> ?_,fun h=> ?_,fun h=> ?_,fun h=> ?_⟩
  ·rw[gp,Za (by omega)] at h;rw[yO _ _ _ _ hlt,Za (Ne.symm q1)];exact D.m1 h
  ·rw[yO _ _ _ _ hlt];by_cases hee:e'=e
   ·subst hee;rw[Zd rfl]
   ·rw[Za (Ne.symm (q3 e' he' (Ne.symm hee)))];rw[gp,Za (by omega)] at h;exact D.mb e' he' h
  ·rw[gp,Za (by omega)] at h;rw[yO _ _ _ _ hlt,Za (Ne.symm q2)];exact D.m2 h
  ·rw[gp,Za (by omega)] at h;rw[yO _ _ _ _ hlt,Za (Ne.symm q0)];exact D.m0 h
  ·rw[gp,Za (by omega)] at h;obtain⟨p1,p2⟩:=D.pre h;exact⟨p1,fun e' he'=>by rw[gp,Za (by omega)];exact p2 e' he'⟩
  ·rw[gp,Za (by omega)] at h;obtain⟨ents,clock,p1,p2,p3⟩:=D.post h;refine⟨ents,clock,p1,p2,fun x=>(p3 x).trans ⟨?_,?_⟩⟩ <;> rintro⟨e',he',h',rfl⟩
   ·exact⟨e',he',by rw[gp,Za (by omega)];exact h',rfl⟩
   ·rw[gp,Za (by omega)] at h';exact⟨e',he',h',rfl⟩
 ·obtain⟨o,ho,hg,hd,hop,hb0,hb1⟩:=T.oi e he;have z0:=before ho hb0;have z1:=before ho hb1;obtain⟨ents,clock,rfl,p2,p3⟩:=D.post z0;have hmap:({ w0 with heap:=w0.heap.push (.map ents clock) }:World).heap[w0.heap.size]? =some (.map ents clock):=by simp
  have hrun:=E5 (P:=P) (fv:=fV f e) ht hk hmap (XB _ _ s n e) (hkk e he) (fun x hx=>by
   obtain⟨e',he',h',hx'⟩:=(p3 (x.key,x.val)).1 (Z0.2 ⟨x,hx,rfl⟩);injection hx' with hx1 hx2
   refine⟨kP s n e',?_,hkn e e' he he' ?_⟩
   ·rw[hx1];exact XB _ _ s n e'
   ·rintro rfl;rw[hLf] at h';cases h')
  refine QL ho hg (QK (v:=undef) (nx:=.skip) (w':={ w0 with heap:=w0.heap.push (.map (ents.push { key:=kV s n e,val:=fV f e,born:=clock }) (clock+1)) }) (by intro c e;rw[hop] at e;cases e) ?_ (.inr ⟨rfl,rfl⟩) ?_)
  ·have e1:a.eval (.tmp t1)=.map (some w0.heap.size):=qK (D.m1 z0);have e2:a.eval (.tmp (d e))=kV s n e:=qK (D.mb e he z1);have e3:a.eval (.func (f e))=fV f e:=rfl;simp only[execOp,hop,e1,e2,e3];simp only[Sem.run_bind,hrun,Result.andThen_ok,Sem.run_pure]
   congr 2
   apply Array.ext_getElem?;intro j;rw[Array.getElem?_setIfInBounds];by_cases hj:w0.heap.size=j
   ·subst hj;simp
   ·rw[Za hj,Array.getElem?_push,Array.getElem?_push,Za (Ne.symm hj),Za (Ne.symm hj)]
  rw[hd];have hput:a.put none undef=a:=rfl;rw[hput];refine⟨sz',D.ds,D.tz,fun h=>D.m1 z0,fun e' he' h=> ?_,fun h=> ?_,fun h=> ?_,fun h=> ?_,fun h=> ?_⟩
  ·rw[gp,Za (by omega)] at h;exact D.mb e' he' h
  ·rw[gp,Za (by omega)] at h;exact D.m2 h
  ·rw[gp,Za (by omega)] at h;exact D.m0 h
  ·rw[gp,Za (by omega),z0] at h;cases h
  ·refine⟨_,_,rfl,?_,fun x=> ?_⟩
   ·simp only[Array.toList_push,List.map_append,ZX,List.map_nil];rw[List.nodup_append];refine⟨p2,by simp,fun x hx y hy=> ?_⟩;simp only[List.mem_singleton] at hy;subst hy;rintro rfl;obtain⟨e',he',h',hx'⟩:=(p3 _).1 hx;by_cases hee:e=e'
    ·subst hee;rw[hLf] at h';cases h'
    ·have h5:=hkn e e' he he' hee;injection hx' with h6 h7
     have h8:=Qg (P:=P) (w:=w0) (I:=fun _=>True) hk (XB _ _ s n e) (XB _ _ s n e') h5;have h9:=Qg (P:=P) (w:=w0) (I:=fun _=>True) hk (XB _ _ s n e) (XB _ _ s n e) (hkk e he);rw[<-h6,h9] at h8;cases h8
   ·simp only[Array.toList_push,List.map_append,ZX,List.map_nil,ZE,List.mem_singleton];rw[p3 x];constructor
    ·rintro(⟨e',he',h',rfl⟩|rfl)
     ·exact⟨e',he',by rw[gp];split <;> simp[h'],rfl⟩
     ·exact⟨e,he,by rw[gp,Zd rfl],rfl⟩
    ·rintro⟨e',he',h',rfl⟩;by_cases hee:e'=e
     ·subst hee;exact .inr rfl
     ·rw[gp,Za (by omega)] at h';exact .inl ⟨e',he',h',rfl⟩
 ·obtain⟨o,ho,hg,hd,hop,hb0⟩:=T.om;have z0:=before ho hb0;have e1:a.eval (.tmp t1)=.map (some w0.heap.size):=qK (D.m1 z0);refine QL ho hg (QK (v:=.map (some w0.heap.size)) (nx:=.value (.map (some w0.heap.size))) (w':=w) (by intro c e;rw[hop] at e;cases e) (by simp[execOp,hop,e1]) (.inl rfl) ?_);rw[hd];have hlt:t2<a.tmps.size:=by rw[D.tz];exact l2
  refine⟨sz',D.ds,by rw[yC];exact D.tz,fun h=> ?_,fun e' he' h=> ?_,fun h=> ?_,fun h=> ?_,fun h=> ?_,fun h=> ?_⟩
  ·rw[yO _ _ _ _ hlt,Za n12];exact D.m1 z0
  ·rw[gp,Za (by omega)] at h;rw[yO _ _ _ _ hlt,Za (nd e' he').2.2.1];exact D.mb e' he' h
  ·rw[yO _ _ _ _ hlt,Zd rfl]
  ·rw[gp,Za (by omega)] at h;rw[yO _ _ _ _ hlt,Za n02];exact D.m0 h
  ·rw[gp,Za (by omega),z0] at h;cases h
  ·obtain⟨ents,clock,p1,p2,p3⟩:=D.post z0;refine⟨ents,clock,p1,p2,fun x=>(p3 x).trans ⟨?_,?_⟩⟩ <;> rintro⟨e',he',h',rfl⟩
   ·exact⟨e',he',by rw[gp,Za (by omega)];exact h',rfl⟩
   ·rw[gp,Za (by omega)] at h';exact⟨e',he',h',rfl⟩
 ·obtain⟨o,ho,hg,hd,hop,hb0⟩:=T.oa;have z0:=before ho hb0;have e1:a.eval (.tmp t2)=.map (some w0.heap.size):=qK (D.m2 z0);refine QL ho hg (QK (v:=.map (some w0.heap.size)) (nx:=.value (.map (some w0.heap.size))) (w':=w) (by intro c e;rw[hop] at e;cases e) (by simp[execOp,hop,e1]) (.inl rfl) ?_);rw[hd];have hlt:t0<a.tmps.size:=by rw[D.tz];exact l0
  refine⟨sz',D.ds,by rw[yC];exact D.tz,fun h=> ?_,fun e' he' h=> ?_,fun h=> ?_,fun h=> ?_,fun h=> ?_,fun h=> ?_⟩
  ·rw[gp,Za (by omega)] at h;rw[yO _ _ _ _ hlt,Za (Ne.symm n01)];exact D.m1 h
  ·rw[gp,Za (by omega)] at h;rw[yO _ _ _ _ hlt,Za (nd e' he').1];exact D.mb e' he' h
  ·rw[gp,Za (by omega)] at h;rw[yO _ _ _ _ hlt,Za (Ne.symm n02)];exact D.m2 h
  ·rw[yO _ _ _ _ hlt,Zd rfl]
  ·rw[gp,Za (by omega)] at h;obtain⟨p1,p2⟩:=D.pre h;exact⟨p1,fun e' he'=>by rw[gp,Za (by omega)];exact p2 e' he'⟩
  ·rw[gp,Za (by omega)] at h;obtain⟨ents,clock,p1,p2,p3⟩:=D.post h;refine⟨ents,clock,p1,p2,fun x=>(p3 x).trans ⟨?_,?_⟩⟩ <;> rintro⟨e',he',h',rfl⟩
   ·exact⟨e',he',by rw[gp,Za (by omega)];exact h',rfl⟩
   ·rw[gp,Za (by omega)] at h';exact⟨e',he',h',rfl⟩

theorem uz(m i:Nat):(Array.replicate m false).getD i false=false:=by
 rw[ZC,zU];split <;> rfl
theorem E7{ds:List Nat}(T:Lit P ops N nt t0 t1 t2 tm tk d s n f)(ht:P.underlying tm=some (.map tk te))(hk:yx P tk=some ds)(hkk:∀e,e<N->Yu ds (kP s n e) (kP s n e)=some true)(hkn:∀e e',e<N->e'<N->e≠e'->Yu ds (kP s n e) (kP s n e')=some false)
  (hbuild:∀(w:World) e,e<N->(Instr.build tk #[(0,.string ⟨(s e).toArray⟩),(1,.int .i64 (n e))]).run P w=.ok (kV s n e) w)(hE:y5 0 ops.toList=true){Q:Exit->Act->World->Prop}
  (hQ:∀(L:Array Bool) a w,LI w0 N nt t0 t1 t2 d s n f L a w->(∀i,i<2*N+3->L.getD i false=true)->Q .normal a w):
  ∀(m:Nat) (L:Array Bool) (a:Act) (w:World),LI w0 N nt t0 t1 t2 d s n f L a w->(List.range ops.size).countP (fun i=> !L.getD i false)<=m->wpAnyIn (Fe ro) 0 P .any ops Q m L a w:=by
 have hend:∀(L:Array Bool) (a:Act) (w:World),LI w0 N nt t0 t1 t2 d s n f L a w->Region.ready .any ops L=[]->Q .normal a w:=fun L a w D hr=>
  hQ L a w D fun i hi=>qr hE (by rw[D.sz,T.sz]) hr i (by rw[T.sz];exact hi)
 intro m
 induction m with
 |zero=>
  intro L a w D hn;have hr:Region.ready .any ops L=[]:=by
   rw[List.eq_nil_iff_forall_not_mem];intro i hi;obtain⟨o,ho,hL,_⟩:=mem_ready.1 hi;have hil:=(zw.1 ho).1;have:0<(List.range ops.size).countP (fun i=> !L.getD i false):=by
    rw[List.countP_pos_iff];exact⟨i,ZO.2 hil,by rw[qA (by rw[D.sz,<-T.sz];exact hil),hL];rfl⟩
   omega
  exact⟨hr,hend L a w D hr⟩
 |succ m ih=>
  intro L a w D hn;refine⟨hend L a w D,fun i hi=> ?_⟩;obtain⟨o,ho,hL,_⟩:=mem_ready.1 hi;have hil:=(zw.1 ho).1;have hiL:i<L.size:=by rw[D.sz,<-T.sz];exact hil
  refine wpOpIn_mono (fun a' w' D'=>ih _ a' w' D' ?_) (E6 T ht hk hkk hkn hbuild D hi);have:=qx (l:=List.range ops.size) (p:=fun i=> !L.getD i false) (q:=fun j=> !(L.setIfInBounds i true).getD j false) (ZO.2 hil) (fun x hx=>by
   rw[ko hiL] at hx;split at hx
   ·cases hx
   ·exact hx) (by rw[qA hiL,hL];rfl) (by rw[ko hiL];simp)
  omega

def YX(N:Nat)(s:Nat->List UInt8)(n:Nat->Int)(f:Nat->FuncId):List (PV × PV):=(List.range N).map fun e=>(.agg (kP s n e),.func (.func (f e)))

theorem E8{ds:List Nat}(hk:yx P tk=some ds)(hkk:∀e,e<N->Yu ds (kP s n e) (kP s n e)=some true)(hkn:∀e e',e<N->e'<N->e≠e'->Yu ds (kP s n e) (kP s n e')=some false)
  {L:Array Bool}{a:Act}{b:Nat}{W:World}(hH:HR W X μ hp)(D:LI W.drew N nt t0 t1 t2 d s n f L a w)(hall:∀i,i<2*N+3->L.getD i false=true):
  a.tmps[t0]? =some (.map (some W.heap.size))/\∃μ',HR w X μ' (hp++[.map none (YX N s n f)])/\Ext b X μ hp W μ' (hp++[.map none (YX N s n f)]) w/\AR w X μ' (hp++[.map none (YX N s n f)]) (.map hp.length) (.map (some W.heap.size)):=by
 refine⟨D.m0 (hall _ (by omega)),?_⟩;obtain⟨ents,clock,rfl,p2,p3⟩:=D.post (hall _ (by omega));have hw:({ W.drew with heap:=W.drew.heap.push (.map ents clock) }:World)=W.drew.alloc (.map ents clock):=rfl;rw[hw];have hcan:(ents.toList.map fun e=>(e.key,e.val)).Perm ((List.range N).map fun e=>(kV s n e,fV f e)):=by
  rw[List.perm_ext_iff_of_nodup p2]
  ·intro x;rw[p3 x,Z0];constructor
   ·rintro⟨e,he,_,rfl⟩;exact⟨e,ZO.2 he,rfl⟩
   ·rintro⟨e,he,rfl⟩;exact⟨e,ZO.1 he,hall _ (by have:=ZO.1 he;omega),rfl⟩
  ·refine List.pairwise_map.2 (List.Pairwise.imp_of_mem (fun{x y} hx hy hlt=> ?_) List.pairwise_lt_range);intro he;injection he with h6 h7
   have h5:=hkn x y (ZO.1 hx) (ZO.1 hy) (by omega);have h8:=Qg (P:=P) (w:=W) (I:=fun _=>True) hk (XB _ _ s n x) (XB _ _ s n y) h5;have h9:=Qg (P:=P) (w:=W) (I:=fun _=>True) hk (XB _ _ s n x) (XB _ _ s n x) (hkk x (ZO.1 hx));rw[<-h6,h9] at h8;cases h8
 obtain⟨l,l1,l2⟩:=uw _ _ hcan;have hlen:l.length=N:=by
  have:=congrArg List.length l2;simpa using this
 have hM:∀(w:World) (I:Nat->Prop),MapR w I none (YX N s n f) ents:=fun w I=>by
  refine⟨l,l1,⟨by simp[YX,hlen],fun k x e hx he=> ?_⟩,.inr fun x hx=> ?_⟩
  ·have hkl:k<N:=by rw[<-hlen];exact(Zb.1 he).1
   have h1:=congrArg (fun q=>q[k]?) l2;simp only[ZK,he,zF,List.getElem?_range hkl,Option.some.injEq,Prod.mk.injEq] at h1;simp only[YX,ZK,List.getElem?_range hkl,zF,Option.some.injEq] at hx;subst hx;rw[h1.1,h1.2];exact⟨XB _ _ s n k,.func _,rfl⟩
  ·simp only[YX,Z0] at hx;obtain⟨e,_,rfl⟩:=hx;exact⟨_,rfl⟩
 have E:∀b,Ext b X μ hp W (upd μ hp.length (some W.heap.size)) (hp++[.map none (YX N s n f)]) (W.drew.alloc (.map ents clock)):=fun b=>
  (Ext.drew (X:=X) (μ:=μ) (hp:=hp) (w:=W) b).trans (Ext.push _ _ (Ext.alloc b _) (fun k hk=>by cases hk;exact Zc _))
 refine⟨upd μ hp.length (some W.heap.size),?_,E b,.map _ _ none _ y8 (Yg _ _ _)⟩;exact hH.drew.push _ _ (Ext.alloc 0 _) (fun i k hi hk=>Y2 _ _ (hH.drew.out i k hi hk).2) (fun k hk=>by cases hk;exact⟨Zc _,by simp⟩) (fun _ _ h=>by cases h) (fun _ _ _ h=>by cases h)
  (fun s es h=>by cases h;exact⟨_,ents,clock,rfl,YW _ _,hM _ _⟩)

theorem E9{ds:List Nat}{fn:Func}{id id2:Nat}{oz:Oper}{cz:Value}(hmix:P.follows .mixedOrders=true)(hf:P.funcs[g]? =some fn)(hb:fn.body=some (.seq (.region id #[oz] false) (.seq (.region id2 ops true) .ret)))(hn:fn.name≠ "runtime.NumGoroutine")(hnt:fn.ntmps=nt)(hres:fn.results= #[.tmp t0])
  (hoz:oz.guard=none/\oz.dst=some t0/\oz.op=.assign (.const cz))(T:Lit P ops N nt t0 t1 t2 tm tk d s n f)(ht:P.underlying tm=some (.map tk te))(hk:yx P tk=some ds)(hkk:∀e,e<N->Yu ds (kP s n e) (kP s n e)=some true)
  (hkn:∀e e',e<N->e'<N->e≠e'->Yu ds (kP s n e) (kP s n e')=some false)
  (hbuild:∀(w:World) e,e<N->(Instr.build tk #[(0,.string ⟨(s e).toArray⟩),(1,.int .i64 (n e))]).run P w=.ok (kV s n e) w)(hE:y5 0 ops.toList=true):XA P g (qJ none (YX N s n f)):=by
 intro args hp r hp' h w X μ vs hH hl;unfold qJ at h;split at h
 ·cases h;cases hl;refine .inl ⟨xe hf hb hn,?_⟩;apply uc hf hb;apply wpIn_seq;apply wpIn_region;obtain⟨l0,l1,l2,ld⟩:=T.lt;show wpOpsIn _ _ _ _ _ (List.range 1) _ _;rw[show List.range 1=[0] from rfl,wpOpsIn_cons];refine QL (o:=oz) rfl hoz.1 (QK (v:=cz) (nx:=.value cz) (w':=w) (by intro c e;rw[hoz.2.2] at e;cases e) (by simp[execOp,hoz.2.2,Act.eval]) (.inl rfl) ?_);rw[hoz.2.1];show Exit.then _ _ .normal _ _
  simp only[Exit.then];apply wpIn_seq;refine wpIn_region_any hmix (E7 (w0:=w.drew) T ht hk hkk hkn hbuild hE (fun L a w' D hall=> ?_) ops.size _ _ _ ⟨by simp[T.sz],rfl,by rw[yC];simp[hnt],fun h=> ?_,fun e he h=> ?_,fun h=> ?_,fun h=> ?_,fun _=>⟨rfl,fun e he=> ?_⟩,fun h=> ?_⟩ (ZV (List.countP_le_length) (by simp)))
  ·simp only[Exit.then];apply wpIn_ret;obtain⟨q1,μ',q2,q3,q4⟩:=E8 (b:=hp.length) hk hkk hkn hH D hall;refine⟨D.ds,.map (some w.heap.size),?_,μ',_,rfl,q2,q3,q4⟩;have q5:a.tmps.getD t0 undef=.map (some w.heap.size):=qK q1;simp[results,hres,q1]
  all_goals first|(rw[uz] at h;cases h)|exact uz _ _
 ·cases h
end

theorem ed{tk:TypeId}{z a b:AV}(hz:YO P tk=some z)(hc:z.comps=some [(none,a),(none,b)])(ht:∃fs,P.underlying tk=some (.struct fs)/\fs.toList.all (fun f=>okT P f.type)=true)(s:List UInt8)(n:Int)(w:World):
  (Instr.build tk #[(0,.string ⟨s.toArray⟩),(1,.int .i64 n)]).run P w=.ok (.agg #[.string ⟨s.toArray⟩,.int .i64 n]) w:=by
 have h:=Km (P:=P) (w:=w) (X:=⟨fun _=>False⟩) (μ:=fun _=>none) (hp:=[]) (t:=tk) (parts:= #[(0,.const (.string ⟨s.toArray⟩)),(1,.const (.int .i64 n))]) (ρ:=fun o=>match o with| .const v=>v|_=>undef) (vs:=[.pv none (.str s),.pv none (.int .i64 n)]) (v:=.pv (some 2) (.agg [(none,.str s),(none,.int .i64 n)]))
  hz hc (.inl ht) (.cons (.mkStr _) (.cons (.mkInt _ _) .nil)) (by simp[Yi,xl,AV.plain,AV.shp,AV.ofComps,pures,total,Sh.size])
 obtain⟨v',h1,h2⟩:=h;have e:v'=.agg #[.string ⟨s.toArray⟩,.int .i64 n]:=by
  cases h2 with|pv _ _ _ _ h2=>
  cases h2 with|agg _ us hl _ k=>
  match us,hl with
  |[x,y],_=>
   have e1:=(k 0 _ x rfl rfl).str_inv;have e2:=(k 1 _ y rfl rfl).int_inv;subst e1;subst e2;rfl
 subst e;simp only[Sem.run_bind] at h1;have hp:(#[(0,Operand.const (.string ⟨s.toArray⟩)),(1,.const (.int .i64 n))].map fun(x:Nat × Operand)=>(x.1,(fun o=>match o with|Operand.const v=>v|_=>undef) x.2))= #[(0,.string ⟨s.toArray⟩),(1,.int .i64 n)]:=by simp
 rw[hp] at h1;cases hr:(Instr.build tk #[(0,.string ⟨s.toArray⟩),(1,.int .i64 n)]).run P w with
 |ok v w'=>
  rw[hr] at h1;simp only[Result.andThen_ok,Sem.run_pure,Result.ok.injEq,Next.value.injEq] at h1;rw[h1.1,h1.2]
 |halt x w'=>
  rw[hr] at h1;cases h1
end Go.Am

/- What a law is given, azs values without references. -/
namespace Go.Am
variable{P:Program} {H:Type} {enc:TypeId × Value->H} {w:World} {I:Nat->Prop}

theorem J3{α β:Type}{g:α->Option β}:∀{l:List α} {xs:List β},l.mapM g=some xs->l.length=xs.length/\∀(i:Nat) (a:α) (x:β),l[i]? =some a->xs[i]? =some x->g a=some x
 |[],xs,h=>by
  simp at h;subst h;exact⟨rfl,fun i a x h=>by simp at h⟩
 |a::r,xs,h=>by
  rw[List.mapM_cons] at h;cases ha:g a with
  |none=>rw[ha] at h;cases h
  |some y=>
   rw[ha] at h;cases hr:r.mapM g with
   |none=>rw[hr] at h;cases h
   |some ys=>
    rw[hr] at h;cases h;obtain⟨h1,h2⟩:=J3 hr;refine⟨by simp[h1],fun i b x hb hx=> ?_⟩;cases i with
    |zero=>simp at hb hx;subst hb;subst hx;exact ha
    |succ i=>exact h2 i b x (by simpa using hb) (by simpa using hx)

def yP(sh:Sh)(cs:List Value):Value:=
 match sh with
 |none=>cs.headD .nilIface
 |some _=>.agg cs.toArray

def QM(P:Program)(n:Nat):Nat->List Field->Bool
 |o,[]=>decide (o=n)
 |o,f::r=>decide (f.offset=o) && okT P f.type && QM P n (o+(shOf P f.type).size) r
def xf(P:Program)(g:TypeId->DataW H->Option PV):List Field->List (DataW H)->Option (List (Sh × PV))
 |[],[]=>some []
 |f::fs,d::ds=>match g f.type d with
  |none=>none
  |some p=>match xf P g fs ds with
   |some l=>some ((shOf P f.type,p)::l)
   |none=>none
 |_,_=>none
def xg(g:DataW H->Option PV):List (DataW H)->Option (List PV)
 |[]=>some []
 |d::ds=>match g d with
  |none=>none
  |some p=>match xg g ds with
   |some l=>some (p::l)
   |none=>none
def XC(P:Program):Nat->TypeId->DataW H->Option PV
 |0,_,_=>none
 |n+1,t,d=>match P.underlying t,d with
  |some .bool,.lit (.bool b)=>some (.bool b)
  |some (.int k),.lit (.int k' n)=>if k'=k/\(Lit.int k n).wf=true then some (.int k n) else none
  |some .string,.lit (.string l)=>some (.str l)
  |some (.slice e),.nil=>some (.sl (shOf P e) [])
  |some (.slice e),.slice es _=>if okT P e=true then match xg (XC P n e) es with
    |some l=>some (.sl (shOf P e) l)
    |none=>none
   else none
  |some (.struct fs),.agg parts=>if QM P (P.cellsOf t) 0 fs.toList=true then match xf P (XC P n) fs.toList parts with
    |some l=>some (.agg l)
    |none=>none
   else none
  |_,_=>none

theorem uA{t:TypeId}(h:okT P t=true):P.cellsOf t=(shOf P t).size/\0<P.cellsOf t:=by
 unfold okT at h;split at h
 ·rename_i i _ hi _;simp only[Zg,beq_iff_eq,Zr] at h;have:P.cellsOf t=i.size:=by simp[Program.cellsOf,hi]
  omega
 ·cases h

theorem uB{base:Nat}{a:Addr}{n:Nat}{l:List Value}(h:w.cells? base a n=some l)(hn:0<n):a.spot=none/\∃cs t fr,w.heap[a.block]? =some (.cells cs t fr)/\l=(cs.toList.drop a.off).take n/\l.length=n:=by
 unfold World.cells? at h;split at h
 ·obtain⟨h1,h2⟩:=J3 h;rw[List.length_range] at h1;have rd:∀i,i<n->∃v,l[i]? =some v/\w.cell? (a.add i)=some v:=by
   intro i hi;have hl:l[i]? =some l[i]:=Zf (by omega);exact⟨l[i],hl,h2 i i l[i] (by simp[hi]) hl⟩
  obtain⟨v0,hv0,hc0⟩:=rd 0 hn;unfold World.cell? at hc0;split at hc0
  ·rename_i cs t fr hb;split at hc0
   ·cases hc0
   ·rename_i hsp;have hb':w.heap[a.block]? =some (.cells cs t fr):=hb;have hsp':a.spot=none:=by simpa[Addr.add] using hsp
    refine⟨hsp',cs,t,fr,hb',?_,h1.symm⟩;apply zA;intro i;by_cases hi:i<n
    ·obtain⟨v,e1,e2⟩:=rd i hi;rw[e1];have ea:a.add i=⟨a.block,a.off+i,none⟩:=by
      unfold Addr.add;split
      ·rename_i h0;subst h0;cases a;simp_all
      ·rfl
     rw[ea] at e2;simp only[World.cell?,hb',zm,ZM,if_false] at e2;rw[zx hi,ZR];simpa using e2.symm
    ·rw[zL (by omega),zL (by simp;omega)]
  ·cases hc0
 ·cases h

theorem uC{g:TypeId->List Value->Option (DataW H × List MemPlace)}{f:TypeId->DataW H->Option PV}
  (hg:∀t cs d ps p,g t cs=some (d,ps)->okT P t=true->f t d=some p->PR w I p (yP (shOf P t) cs)/\vshp (yP (shOf P t) cs)=shOf P t/\(yP (shOf P t) cs).cells.toList=cs)(cs:List Value):
  ∀(fs:List Field) (o:Nat) (xs:List (DataW H × List MemPlace)) (l:List (Sh × PV)),QM P cs.length o fs=true->fs.mapM (fun fd=>g fd.type ((cs.drop fd.offset).take (P.cellsOf fd.type)))=some xs->xf P f fs (xs.map (·.1))=some l->
  ∃vs:List Value,l.length=vs.length/\(∀(i:Nat) (x:Sh × PV) (v:Value),l[i]? =some x->vs[i]? =some v->vshp v=x.1)/\(∀(i:Nat) (x:Sh × PV) (v:Value),l[i]? =some x->vs[i]? =some v->PR w I x.2 v)/\cellsOf vs=cs.drop o
 |[],o,xs,l,hok,hm,hp=>by
  simp[QM] at hok;simp at hm;subst hm;simp[xf] at hp;subst hp;exact⟨[],rfl,fun i x v h=>by simp at h,fun i x v h=>by simp at h,by simp[cellsOf,hok]⟩
 |fd::r,o,xs,l,hok,hm,hp=>by
  simp only[QM,Zg,Zr] at hok;obtain⟨⟨h1,h2⟩,h3⟩:=hok;rw[List.mapM_cons] at hm;cases ha:g fd.type ((cs.drop fd.offset).take (P.cellsOf fd.type)) with
  |none=>rw[ha] at hm;cases hm
  |some y=>
   rw[ha] at hm;cases hr:r.mapM (fun fd=>g fd.type ((cs.drop fd.offset).take (P.cellsOf fd.type))) with
   |none=>rw[hr] at hm;cases hm
   |some ys=>
    rw[hr] at hm;cases hm;simp only[ZX,xf] at hp;split at hp
    ·cases hp
    ·rename_i p hfp;split at hp
     ·rename_i l' hl';cases hp;obtain⟨k1,k2,k3⟩:=hg _ _ y.1 y.2 p ha h2 hfp;obtain⟨vs,e1,e2,e3,e4⟩:=uC hg cs r _ ys l' h3 hr hl';refine⟨yP (shOf P fd.type) ((cs.drop fd.offset).take (P.cellsOf fd.type))::vs,by simp[e1],?_,?_,?_⟩
      ·intro i x v hx hv;cases i with
       |zero=>simp at hx hv;subst hx;subst hv;exact k2
       |succ i=>exact e2 i x v (by simpa using hx) (by simpa using hv)
      ·intro i x v hx hv;cases i with
       |zero=>simp at hx hv;subst hx;subst hv;exact k1
       |succ i=>exact e3 i x v (by simpa using hx) (by simpa using hv)
      ·simp only[cellsOf,List.flatMap_cons,k3];have e4':List.flatMap (fun v=>v.cells.toList) vs=cs.drop (o+(shOf P fd.type).size):=e4;rw[e4',h1,(uA h2).1,<-ZQ,zi]
     ·cases hp

theorem uD{f:DataW H->Option PV}{g:Nat->Option (DataW H × List MemPlace)}{R:Nat->PV->Prop}
  (hg:∀i d ps p,g i=some (d,ps)->f d=some p->R i p):
  ∀(is:List Nat) (xs:List (DataW H × List MemPlace)) (l:List PV),is.mapM g=some xs->xg f (xs.map (·.1))=some l->
  l.length=is.length/\∀(k i:Nat) (p:PV),is[k]? =some i->l[k]? =some p->R i p
 |[],xs,l,hm,hp=>by
  simp at hm;subst hm;simp[xg] at hp;subst hp;exact⟨rfl,fun k i p h=>by simp at h⟩
 |i::r,xs,l,hm,hp=>by
  rw[List.mapM_cons] at hm;cases ha:g i with
  |none=>rw[ha] at hm;cases hm
  |some y=>
   rw[ha] at hm;cases hr:r.mapM g with
   |none=>rw[hr] at hm;cases hm
   |some ys=>
    rw[hr] at hm;cases hm;simp only[ZX,xg] at hp;split at hp
    ·cases hp
    ·rename_i p hfp;split at hp
     ·rename_i l' hl';cases hp;obtain⟨e1,e2⟩:=uD hg r ys l' hr hl';refine⟨by simp[e1],fun k j q hk hq=> ?_⟩;cases k with
      |zero=>simp at hk hq;subst hk;subst hq;exact hg i y.1 y.2 p ha hfp
      |succ k=>exact e2 k j q (by simpa using hk) (by simpa using hq)
     ·cases hp

theorem uE(f:Nat->Value)(l:List Value)(o n:Nat):∀m:Nat,(∀i,i<m->(f i).cells.toList=(l.drop (o+i*n)).take n)->cellsOf ((List.range m).map f)=(l.drop o).take (m*n)
 |0,_=>by simp[cellsOf]
 |m+1,h=>by
  have ih:=uE f l o n m fun i hi=>h i (by omega);unfold cellsOf at ih ⊢;rw[List.range_succ,List.map_append,List.flatMap_append,ih];simp only[ZX,List.map_nil,List.flatMap_cons,List.flatMap_nil,ZB];rw[h m (by omega),Zq,Nat.one_mul,List.take_add,ZQ]

theorem ef(hI:∀b,I b){base:Nat}{spare:Nat->Bool}{held:Bool}:∀(fuel:Nat) (n:Nat) (t:TypeId) (cs:List Value) (d:DataW H) (ps:List MemPlace) (p:PV),DataW.trod enc P w base spare held fuel t cs=some (d,ps)->okT P t=true->XC P n t d=some p->
  PR w I p (yP (shOf P t) cs)/\vshp (yP (shOf P t) cs)=shOf P t/\(yP (shOf P t) cs).cells.toList=cs:=by
 intro fuel
 induction fuel with
 |zero=>intro n t cs d ps p h;cases h
 |succ fuel ih=>
  intro n t cs d ps p h hok hp;cases n with
  |zero=>cases hp
  |succ n=>
  simp only[XC] at hp;cases hu:P.underlying t with
  |none=>rw[hu] at hp;cases hp
  |some u=>
   rw[hu] at hp;unfold DataW.trod at h;rw[hu] at h;cases u with
   |bool=>
    have hs:shOf P t=none:=by unfold shOf;rw[hu]
    rw[hs];simp only at h hp;split at h <;> first|contradiction|(exfalso;clear ih;simp_all;done)|skip
    ·cases h;cases hp;exact⟨.bool _,rfl,rfl⟩
   |int k=>
    have hs:shOf P t=none:=by unfold shOf;rw[hu]
    rw[hs];simp only at h hp;split at h <;> first|contradiction|(exfalso;clear ih;simp_all;done)|skip
    ·rename_i e;split at h
     ·rename_i e2;obtain⟨e2,e3⟩:=e2;subst e2;cases h;cases e;simp only[e3,and_self,if_true] at hp;cases hp;exact⟨.int _ _,rfl,rfl⟩
     ·cases h
   |string=>
    have hs:shOf P t=none:=by unfold shOf;rw[hu]
    rw[hs];simp only at h hp;split at h <;> first|contradiction|(exfalso;clear ih;simp_all;done)|skip
    ·split at h
     ·cases h;cases hp;exact⟨.str _,rfl,rfl⟩
     ·cases h
   |slice e=>
    have hs:shOf P t=none:=by unfold shOf;rw[hu]
    rw[hs];simp only at h hp;split at h <;> first|contradiction|(exfalso;clear ih;simp_all;done)|skip
    ·cases h;cases hp;exact⟨.nilsl _ _ _,rfl,rfl⟩
    ·rename_i e' a len cap hx;cases hx;split at h
     ·rename_i hb;obtain⟨hb1,hb2,hb3⟩:=hb;rw[Option.bind_eq_some_iff] at h;obtain⟨elems,hm,h⟩:=h;rw[ZL] at h;obtain⟨rest,hr,h⟩:=h;cases h;simp only at hp;split at hp
      ·rename_i hoe;split at hp
       ·rename_i l hl;cases hp;obtain⟨hc1,hc2⟩:=uA hoe;obtain⟨k1,k2⟩:=uD (R:=fun i p=>PR w I p (yP (shOf P e) (((w.cells? base (a.add (i*P.cellsOf e)) (P.cellsOf e))).getD []))/\vshp (yP (shOf P e) (((w.cells? base (a.add (i*P.cellsOf e)) (P.cellsOf e))).getD []))=shOf P e/\(yP (shOf P e) (((w.cells? base (a.add (i*P.cellsOf e)) (P.cellsOf e))).getD [])).cells.toList=((w.cells? base (a.add (i*P.cellsOf e)) (P.cellsOf e))).getD []) (fun i d ps p hg hf=>by
         rw[Option.bind_eq_some_iff] at hg;obtain⟨c,hc,hg⟩:=hg;rw[hc];exact ih n e c d ps p hg hoe hf) _ _ _ hm hl
        rw[List.length_range] at k1;refine⟨?_,rfl,rfl⟩;have hel:elems.length=len:=by have:=(J3 hm).1;simpa using this.symm
        cases len with
        |zero=>
         have:l=[]:=zZ.1 (by omega);subst this;exact .nilsl _ _ _
        |succ m=>
         have rd:∀i,i<m+1->∃c,w.cells? base (a.add (i*P.cellsOf e)) (P.cellsOf e)=some c:=fun i hi=>by
          have hx:elems[i]? =some elems[i]:=Zf (by omega);have:=(J3 hm).2 i i elems[i] (by simp[hi]) hx;rw[Option.bind_eq_some_iff] at this;obtain⟨c,hc,_⟩:=this;exact⟨c,hc⟩
         obtain⟨c0,hc0⟩:=rd 0 (by omega);obtain⟨s0,cs',t',fr',hblk,_,_⟩:=uB hc0 hc2;have ea0:a.add (0*P.cellsOf e)=a:=by simp[Addr.add]
         rw[ea0] at s0 hblk;have seg:∀i,i<m+1->(w.cells? base (a.add (i*P.cellsOf e)) (P.cellsOf e)).getD []=(cs'.toList.drop (a.off+i*P.cellsOf e)).take (P.cellsOf e)/\((w.cells? base (a.add (i*P.cellsOf e)) (P.cellsOf e)).getD []).length=P.cellsOf e:=fun i hi=>by
          obtain⟨c,hc⟩:=rd i hi;obtain⟨_,cs2,t2,fr2,hb2,e2,e3⟩:=uB hc hc2;have eo:(a.add (i*P.cellsOf e)).off=a.off+i*P.cellsOf e:=by unfold Addr.add;split <;> simp_all
          have eb:(a.add (i*P.cellsOf e)).block=a.block:=by unfold Addr.add;split <;> rfl
          rw[eb,hblk] at hb2;cases hb2;rw[hc,zH];rw[eo] at e2;exact⟨e2,e3⟩
         have ha:a=⟨a.block,a.off,none⟩:=by cases a;simp_all
         have hll:l.length=m+1:=k1;rw[ha];have hgoal:PR w I (.sl (shOf P e) l) (.slice (some ⟨a.block,a.off,none⟩) l.length cap):=by
          refine .sl _ _ a.block a.off cap cs' t' fr' ((List.range (m+1)).map fun i=>yP (shOf P e) ((w.cells? base (a.add (i*P.cellsOf e)) (P.cellsOf e)).getD [])) (by simp[hll]) (hI _) hblk ?_ ?_ ?_ (by omega)
          ·intro i p v hp hv;have hi:i<m+1:=by rw[<-hll];exact(Zb.1 hp).1
           simp[hi] at hv;subst hv;exact(k2 i i p (by simp[hi]) hp).2.1
          ·intro i p v hp hv;have hi:i<m+1:=by rw[<-hll];exact(Zb.1 hp).1
           simp[hi] at hv;subst hv;exact(k2 i i p (by simp[hi]) hp).1
          ·have cl:∀i,i<m+1->(yP (shOf P e) ((w.cells? base (a.add (i*P.cellsOf e)) (P.cellsOf e)).getD [])).cells.toList=(cs'.toList.drop (a.off+i*P.cellsOf e)).take (P.cellsOf e):=fun i hi=>by
            rw[<-(seg i hi).1];exact(k2 i i l[i] (by simp[hi]) (Zf (by omega))).2.2
           rw[hll,<-hc1];exact uE (fun i=>yP (shOf P e) ((w.cells? base (a.add (i*P.cellsOf e)) (P.cellsOf e)).getD [])) cs'.toList a.off (P.cellsOf e) (m+1) cl
         rw[hll] at hgoal;exact hgoal
       ·cases hp
      ·cases hp
     ·cases h
   |struct fs=>
    have hs:shOf P t=some (P.cellsOf t):=by unfold shOf;rw[hu]
    rw[hs];simp only at h hp;split at h <;> first|contradiction|(exfalso;clear ih;simp_all;done)|skip
    ·rename_i hlen;rw[ZL] at h;obtain⟨xs,hm,h⟩:=h;cases h;simp only at hp;split at hp
     ·rename_i hfo;split at hp
      ·rename_i l hl;cases hp;rw[<-hlen] at hfo;obtain⟨vs,e1,e2,e3,e4⟩:=uC (w:=w) (I:=I) (fun t cs d ps p hg ho hf=>ih n t cs d ps p hg ho hf) cs fs.toList 0 xs l hfo hm hl;rw[Z5] at e4;refine⟨?_,?_,?_⟩
       ·show PR w I (.agg l) (.agg cs.toArray);rw[<-e4];exact .agg l vs e1 e2 e3
       ·show some cs.toArray.size=_;simp[hlen]
       ·simp[yP,Value.cells]
      ·cases hp
     ·cases hp
   |_=>cases hp

theorem eg{base:Nat}{spare:Nat->Bool}{held:Bool}{n:Nat}{t:TypeId}{v:Value}{d:DataW H}{ps:List MemPlace}{p:PV}(h:DataW.Trod enc P w base spare held t v d ps)(hok:okT P t=true)(hp:XC P n t d=some p)(hv:vshp v=shOf P t):
  AR w (noX (P:=P)) noμ [] (.pv (shOf P t) p) v:=by
 obtain⟨fuel,h⟩:=h;have hI:∀b,Im (noX (P:=P)) noμ [] b:=fun b=>⟨fun h=>h,fun i hi=>by simp[live] at hi⟩;obtain⟨h1,h2,h3⟩:=ef hI fuel n t _ d ps p h hok hp;have:yP (shOf P t) v.cells.toList=v:=by
  rw[<-hv];cases v <;> simp[vshp,yP,Value.cells]
 rw[this] at h1;exact .pv _ _ _ hv h1
theorem eh{W:World}{base:Nat}{t:TypeId}{v:Value}(h:Value.okWide P W .any base t v):vshp v=shOf P t:=by
 unfold Value.okWide at h;unfold shOf;cases hu:P.underlying t with
 |none=>
  rw[hu] at h;cases v with
  |agg cs=>simp[Cell.okWide,Cell.ok,hu] at h
  |_=>rfl
 |some u=>
  rw[hu] at h;cases u with
  |struct fs=>obtain⟨cs,rfl,hc,_⟩:=h;simp[vshp,hc]
  |array n e=>obtain⟨cs,rfl,hc,_⟩:=h;simp[vshp,hc]
  |_=>
   cases v with
   |agg cs=>simp[Cell.okWide,Cell.ok,hu] at h
   |_=>rfl
end Go.Am

/- Terms azs plain data. -/
namespace Go.Am
inductive Tm where
 |mk (kind n:Int) (name:List UInt8) (args:List Tm)
 deriving Inhabited
mutual
def Tm.pv:Tm->PV
 | .mk k n s azs=>.agg [(none,.int .i64 k),(none,.int .i64 n),(none,.str s),(none,.sl (some 4) (Tm.pvs azs))]
def Tm.pvs:List Tm->List PV
 |[]=>[]
 |t::r=>t.pv::Tm.pvs r
end
def Tm.kind:Tm->Int| .mk k _ _ _=>k
def Tm.n:Tm->Int| .mk _ n _ _=>n
def Tm.name:Tm->List UInt8| .mk _ _ s _=>s
def Tm.args:Tm->List Tm| .mk _ _ _ azs=>azs
def Tm.av(t:Tm):AV:=.pv (some 4) t.pv
end Go.Am

/- What code comes to: rules that a proof steps by. -/
namespace Go.Am
variable{Γ:Oracle} {Λ:Yw} {b:Nat}

class Tag.{u} {α:Sort u} (a:α):Type where
instance tagAny.{u}{α:Sort u}(a:α):Tag a:=⟨⟩

def W(Γ:Oracle)(Λ:Yw)(b:Nat)(c:ACode)(st:St)(Q:AExit->St->Prop)[Tag Q]:Prop:=
 match aexec Γ Λ b c st with
 |some (e,st')=>Q e st'
 |none=>False
def O(Γ:Oracle)(b:Nat)(ops:List AOper)(fr:Fr)(hp:Heap)(K:Fr->Heap->Prop)(Kp:PV->Fr->Heap->Prop)[Tag K][Tag Kp]:Prop:=
 match aops Γ b ops fr hp with
 |some (.normal,fr',hp')=>K fr' hp'
 |some (.panic v,fr',hp')=>Kp v fr' hp'
 |_=>False
def seqK(k:St->Prop)(Q:AExit->St->Prop)[Tag k][Tag Q]:AExit->St->Prop
 | .normal,st=>k st
 | .exit i,st=>Q (.exit i) st
 | .ret,st=>Q .ret st
 | .panic v,st=>Q (.panic v) st
def QN(id:Nat)(Q:AExit->St->Prop)[Tag Q]:AExit->St->Prop
 | .exit i,st=>if i=id then Q .normal st else Q (.exit i) st
 | .normal,st=>Q .normal st
 | .ret,st=>Q .ret st
 | .panic v,st=>Q (.panic v) st
def J4(v:Option AV)(A B:Prop)[Tag A][Tag B]:Prop:=
 match v with
 |some (.pv _ (.bool b))=>if b=true then A else B
 |_=>False
def panK(pan:Bool)(A:Prop)[Tag A]:Prop:=if pan=true then A else False
def qL(v:Option Bool)(A B:Prop)[Tag A][Tag B]:Prop:=
 match v with
 |some b=>if b=true then A else B
 |none=>False
def argK(v:Option (List AV))(K:List AV->Prop)[Tag K]:Prop:=
 match v with
 |some l=>K l
 |none=>False
def opK(v:Option OpRes)(K:AV->Heap->Prop)(Kp:PV->Heap->Prop)[Tag K][Tag Kp]:Prop:=
 match v with
 |some (.val v hp)=>K v hp
 |some (.panic v hp)=>Kp v hp
 |none=>False
def YL(v:Option (AV × Heap))(K:AV->Heap->Prop)[Tag K]:Prop:=
 match v with
 |some (v,hp)=>K v hp
 |none=>False
def xH(v:Option (ARes × Heap))(K:AV->Heap->Prop)(Kp:PV->Heap->Prop)[Tag K][Tag Kp]:Prop:=
 match v with
 |some (.ret v,hp)=>K v hp
 |some (.panic v,hp)=>Kp v hp
 |none=>False

variable{st:St} {Q:AExit->St->Prop} {fr:Fr} {hp:Heap} {K:Fr->Heap->Prop} {Kp:PV->Fr->Heap->Prop}
theorem en:W Γ Λ b .skip st Q=Q .normal st:=rfl
theorem ep(i:Nat):W Γ Λ b (.exit i) st Q=Q (.exit i) st:=rfl
theorem er:W Γ Λ b .ret st Q=Q .ret st:=rfl
theorem eu(l:List Nat):W Γ Λ b (.settle l) st Q=(match settle l st with|some st'=>Q .normal st'|none=>False):=by
 unfold W;simp only[aexec];cases settle l st <;> rfl
theorem ew(x y:ACode):W Γ Λ b (.seq x y) st Q=W Γ Λ b x st (seqK (fun st'=>W Γ Λ b y st' Q) Q):=by
 unfold W;simp only[aexec];cases aexec Γ Λ b x st with
 |none=>rfl
 |some r=>
  obtain⟨e,st'⟩:=r;cases e <;> rfl
theorem ex(c:AArg)(x y:ACode):W Γ Λ b (.cond c x y) st Q=J4 (st.fr.arg c) (W Γ Λ b x st Q) (W Γ Λ b y st Q):=by
 unfold W;simp only[aexec];cases st.fr.arg c with
 |none=>rfl
 |some v=>
  cases v with
  |pv s p=>
   cases p with
   |bool v=>cases v <;> simp[J4]
   |_=>rfl
  |_=>rfl
theorem ey(id:Nat)(c:ACode):W Γ Λ b (.block id c) st Q=W Γ Λ b c st (QN id Q):=by
 unfold W;simp only[aexec];cases aexec Γ Λ b c st with
 |none=>rfl
 |some r=>
  obtain⟨e,st'⟩:=r;cases e with
  |exit i=>
   simp only[QN];by_cases h:i=id
   ·simp[h]
   ·simp[h]
  |_=>rfl
theorem ez(pan:Bool)(ops:List AOper)(keep:List Nat):W Γ Λ b (.region pan ops keep) st Q=O Γ b ops st.fr st.hp (fun fr hp=>Q .normal ⟨fr.keep keep,hp⟩) (fun v fr hp=>panK pan (Q (.panic v) ⟨fr.keep keep,hp⟩)):=by
 unfold W O;simp only[aexec];cases aops Γ b ops st.fr st.hp with
 |none=>rfl
 |some r=>
  obtain⟨e,fr,hp⟩:=r;cases e with
  |panic v=>cases pan <;> simp[panK]
  |_=>rfl
def OD(Γ:Oracle)(b:Nat)(l:List (AOper × Option (List AOper)))(fr:Fr)(hp:Heap)(K:Fr->Heap->Prop)(Kp:PV->Prop)[Tag K][Tag Kp]:Prop:=
 match YZ Γ b l fr hp with
 |some (.normal,fr',hp')=>K fr' hp'
 |some (.panic v,_,_)=>Kp v
 |_=>False
theorem eA(l:List (AOper × Option (List AOper)))(keep:List Nat):W Γ Λ b (.doom l keep) st Q=OD Γ b l st.fr st.hp (fun fr hp=>Q .normal ⟨fr.keep keep,hp⟩) (fun v=>Q (.panic v) ⟨[],st.hp⟩):=by
 unfold W OD;simp only[aexec];cases YZ Γ b l st.fr st.hp with
 |none=>rfl
 |some r=>
  obtain⟨e,fr,hp⟩:=r;cases e <;> rfl
theorem eB:O Γ b [] fr hp K Kp=K fr hp:=rfl
theorem uF(o:AOper)(r:List AOper):O Γ b (o::r) fr hp K Kp=qL (wants fr o.guard) (argK (fr.argsOf o.args) fun vs=>opK (aOp Γ b o.op vs hp) (fun v hp'=>O Γ b r (fr.dst o.dst v) hp' K Kp) (fun v hp'=>Kp v fr hp')) (O Γ b r (fr.dst o.dst .undef) hp K Kp):=by
 unfold O;simp only[aops];cases wants fr o.guard with
 |none=>rfl
 |some w=>
  cases w with
  |false=>simp[qL]
  |true=>
   simp only[qL,if_true];cases fr.argsOf o.args with
   |none=>rfl
   |some vs=>
    simp only[argK];cases aOp Γ b o.op vs hp with
    |none=>rfl
    |some r=>cases r <;> rfl
theorem eC(d:Option Nat)(op:AOp)(azs:List AArg)(r:List AOper):O Γ b (⟨d,op,azs,none⟩::r) fr hp K Kp=argK (fr.argsOf azs) fun vs=>opK (aOp Γ b op vs hp) (fun v hp'=>O Γ b r (fr.dst d v) hp' K Kp) (fun v hp'=>Kp v fr hp'):=by
 rw[uF];rfl
theorem eD{Kp:PV->Prop}:OD Γ b [] fr hp K Kp=K fr hp:=rfl
theorem eE{Kp:PV->Prop}(d:Option Nat)(op:AOp)(azs:List AArg)(r:List (AOper × Option (List AOper))):OD Γ b ((⟨d,op,azs,none⟩,none)::r) fr hp K Kp=argK (fr.argsOf azs) fun vs=>opK (aOp Γ b op vs hp) (fun v hp'=>OD Γ b r (fr.dst d v) hp' K Kp) (fun _ _=>False):=by
 unfold OD;simp only[YZ,wants];cases fr.argsOf azs with
 |none=>rfl
 |some vs=>
  simp only[argK];cases aOp Γ b op vs hp with
  |none=>rfl
  |some r=>cases r <;> rfl
theorem eF{Kp:PV->Prop}(d:Option Nat)(op:AOp)(azs:List AArg)(l:List AOper)(r:List (AOper × Option (List AOper))):OD Γ b ((⟨d,op,azs,none⟩,some l)::r) fr hp K Kp=argK (fr.argsOf azs) fun vs=>opK (yi Γ hp vs) (fun v _=>OD Γ b r (fr.dst d v) hp K Kp) (fun p _=>O Γ b l fr hp (fun _ _=>Kp p) (fun _ _ _=>False)):=by
 unfold OD O;simp only[YZ];cases fr.argsOf azs with
 |none=>rfl
 |some vs=>
  simp only[argK];cases yi Γ hp vs with
  |none=>rfl
  |some r=>
   cases r with
   |val v hp'=>rfl
   |panic p hp'=>
    simp only[opK];cases aops Γ b l fr hp with
    |none=>rfl
    |some r=>
     obtain⟨e,fr',hp'⟩:=r;cases e <;> rfl
def QO(v:Option AV)(w:Bool)(A B:Prop)[Tag A][Tag B]:Prop:=
 match v with
 |some (.pv _ (.bool b))=>if b=w then A else B
 |some .undef=>B
 |_=>False
theorem eG(d:Option Nat)(op:AOp)(azs:List AArg)(s:Nat)(w:Bool)(r:List AOper):O Γ b (⟨d,op,azs,some (s,w)⟩::r) fr hp K Kp=QO (fr.look s) w (argK (fr.argsOf azs) fun vs=>opK (aOp Γ b op vs hp) (fun v hp'=>O Γ b r (fr.dst d v) hp' K Kp) (fun v hp'=>Kp v fr hp')) (O Γ b r (fr.dst d .undef) hp K Kp):=by
 rw[uF];simp only[wants];cases h:fr.look s with
 |none=>rfl
 |some v=>
  cases v with
  |pv sh p=>
   cases p with
   |bool c=>cases c <;> cases w <;> simp[qL,QO]
   |_=>rfl
  |undef=>simp[qL,QO]
  |_=>rfl
theorem eH(s:Nat):fr.arg (.t s)=fr.look s:=rfl
theorem eI(v:AV):fr.arg (.c v)=some v:=rfl
theorem eJ(k s:Nat)(v:AV)(r:Fr):Fr.look ((k,v)::r) s=if k=s then some v else Fr.look r s:=rfl
theorem eK(d:Nat)(v:AV):fr.dst (some d) v=(d,v)::fr:=rfl
theorem eL(v:AV):fr.dst none v=fr:=rfl
theorem eM:fr.argsOf []=some []:=rfl
def xI(v:Option AV)(l:Option (List AV)):Option (List AV):=
 match v with
 |none=>none
 |some v=>match l with
  |some l=>some (v::l)
  |none=>none
theorem eN(a:AArg)(r:List AArg):fr.argsOf (a::r)=xI (fr.arg a) (fr.argsOf r):=rfl
theorem eO(v:AV)(l:List AV):xI (some v) (some l)=some (v::l):=rfl
theorem eP(l:List AV)(K:List AV->Prop):argK (some l) K=K l:=rfl
def iteK(v:Prop)(A B:Prop)[Tag A][Tag B]:Prop:=(v->A)/\(¬v->B)
theorem eQ(s:Sh)(v:Bool)(A B:Prop):J4 (some (.pv s (.bool v))) A B=iteK (v=true) A B:=by
 cases v <;> simp[J4,iteK]
theorem eR(s:Sh)(v w:Bool)(A B:Prop):QO (some (.pv s (.bool v))) w A B=iteK (v=w) A B:=by
 cases v <;> cases w <;> simp[QO,iteK]
theorem eS(w:Bool)(A B:Prop):QO (some .undef) w A B=B:=rfl
theorem eT(A B:Prop):iteK True A B=A:=by simp[iteK]
theorem eU(A B:Prop):iteK False A B=B:=by simp[iteK]
theorem eV(v A B:Prop):iteK (¬v) A B=iteK v B A:=by
 by_cases h:v <;> simp[iteK,h]
theorem yQ{v A B:Prop}(hA:v->A)(hB:¬v->B):iteK v A B:=⟨hA,hB⟩
attribute [irreducible] iteK
theorem eW(v:AV)(hp:Heap)(K:AV->Heap->Prop):YL (some (v,hp)) K=K v hp:=rfl
theorem eX(v:AV)(hp:Heap)(K:AV->Heap->Prop)(Kp:PV->Heap->Prop):xH (some (.ret v,hp)) K Kp=K v hp:=rfl
theorem eY(v:PV)(hp:Heap)(K:AV->Heap->Prop)(Kp:PV->Heap->Prop):xH (some (.panic v,hp)) K Kp=Kp v hp:=rfl
theorem eZ:fr.keep []=[]:=rfl
def uG(k:Nat)(v:Option AV)(r:Fr):Fr:=
 match v with
 |some v=>(k,v)::r
 |none=>r
theorem Ha(k:Nat)(ks:List Nat):fr.keep (k::ks)=uG k (fr.look k) (fr.keep ks):=rfl
theorem Hb(k:Nat)(v:AV)(r:Fr):uG k (some v) r=(k,v)::r:=rfl
theorem Hc(k:St->Prop)(Q:AExit->St->Prop)(st:St):seqK k Q .normal st=k st:=rfl
theorem Hd(k:St->Prop)(Q:AExit->St->Prop)(i:Nat)(st:St):seqK k Q (.exit i) st=Q (.exit i) st:=rfl
theorem He(k:St->Prop)(Q:AExit->St->Prop)(st:St):seqK k Q .ret st=Q .ret st:=rfl
theorem Hf(k:St->Prop)(Q:AExit->St->Prop)(v:PV)(st:St):seqK k Q (.panic v) st=Q (.panic v) st:=rfl
theorem Hg(id:Nat)(Q:AExit->St->Prop)(st:St):QN id Q .normal st=Q .normal st:=rfl
theorem Hh(id:Nat)(Q:AExit->St->Prop)(i:Nat)(st:St):QN id Q (.exit i) st=if i=id then Q .normal st else Q (.exit i) st:=rfl
theorem Hi(id:Nat)(Q:AExit->St->Prop)(st:St):QN id Q .ret st=Q .ret st:=rfl
theorem Hj(id:Nat)(Q:AExit->St->Prop)(v:PV)(st:St):QN id Q (.panic v) st=Q (.panic v) st:=rfl
end Go.Am

/- What code comes to: the operations. -/
namespace Go.Am
variable{Γ:Oracle} {Λ:Yw} {b:Nat} {hp:Heap} {vs:List AV} {K:AV->Heap->Prop} {Kp:PV->Heap->Prop}
def valK(v:Option AV)(K:AV->Prop)[Tag K]:Prop:=
 match v with
 |some v=>K v
 |none=>False
def pvK(v:Option PV)(K:PV->Prop)[Tag K]:Prop:=
 match v with
 |some v=>K v
 |none=>False
theorem Hk(v:AV)(K:AV->Prop):valK (some v) K=K v:=rfl
theorem Hl(v:PV)(K:PV->Prop):pvK (some v) K=K v:=rfl

theorem Hm:opK (aOp Γ b .mv vs hp) K Kp=valK (sMv vs) (fun v=>K v hp):=by
 show opK (match YQ hp (sMv vs) with|some (v,hp')=>some (OpRes.val v hp')|none=>none) K Kp=_;cases sMv vs <;> rfl
theorem Hn:opK (aOp Γ b .len vs hp) K Kp=valK (sLen vs) (fun v=>K v hp):=by
 show opK (match YQ hp (sLen vs) with|some (v,hp')=>some (OpRes.val v hp')|none=>none) K Kp=_;cases sLen vs <;> rfl
theorem Ho:opK (aOp Γ b .slen vs hp) K Kp=valK (xW vs) (fun v=>K v hp):=by
 show opK (match YQ hp (xW vs) with|some (v,hp')=>some (OpRes.val v hp')|none=>none) K Kp=_;cases xW vs <;> rfl
theorem Hp:opK (aOp Γ b .pick vs hp) K Kp=valK (xQ vs) (fun v=>K v hp):=by
 show opK (match YQ hp (xQ vs) with|some (v,hp')=>some (OpRes.val v hp')|none=>none) K Kp=_;cases xQ vs <;> rfl
theorem Hq:opK (aOp Γ b .not vs hp) K Kp=valK (sNot vs) (fun v=>K v hp):=by
 show opK (match YQ hp (sNot vs) with|some (v,hp')=>some (OpRes.val v hp')|none=>none) K Kp=_;cases sNot vs <;> rfl
theorem Hr(o:BinOp):opK (aOp Γ b (.bin o) vs hp) K Kp=valK (sBin o vs) (fun v=>K v hp):=by
 show opK (match YQ hp (sBin o vs) with|some (v,hp')=>some (OpRes.val v hp')|none=>none) K Kp=_;cases sBin o vs <;> rfl
theorem Hs(o:BinOp):opK (aOp Γ b (.binb o) vs hp) K Kp=valK (xR o vs) (fun v=>K v hp):=by
 show opK (match YQ hp (xR o vs) with|some (v,hp')=>some (OpRes.val v hp')|none=>none) K Kp=_;cases xR o vs <;> rfl
theorem Ht(z:List (Sh × AV))(i:List Nat):opK (aOp Γ b (.build z i) vs hp) K Kp=valK (Yi z i vs) (fun v=>K v hp):=by
 show opK (match YQ hp (Yi z i vs) with|some (v,hp')=>some (OpRes.val v hp')|none=>none) K Kp=_;cases Yi z i vs <;> rfl
theorem Hu(sh:Sh):opK (aOp Γ b (.bslicep sh) vs hp) K Kp=valK (xm sh vs) (fun v=>K v hp):=by
 show opK (match YQ hp (xm sh vs) with|some (v,hp')=>some (OpRes.val v hp')|none=>none) K Kp=_;cases xm sh vs <;> rfl
theorem Hv(o:Nat):opK (aOp Γ b (.faddr o) vs hp) K Kp=valK (XJ o vs) (fun v=>K v hp):=by
 show opK (match YQ hp (XJ o vs) with|some (v,hp')=>some (OpRes.val v hp')|none=>none) K Kp=_;cases XJ o vs <;> rfl
theorem Hw(sh:Sh):opK (aOp Γ b (.iaddr sh) vs hp) K Kp=valK (Yq sh vs) (fun v=>K v hp):=by
 show opK (match YQ hp (Yq sh vs) with|some (v,hp')=>some (OpRes.val v hp')|none=>none) K Kp=_;cases Yq sh vs <;> rfl
theorem Hx(f:Fn)(k:Nat):opK (aOp Γ b (.mkfunc f k) vs hp) K Kp=valK (xT f k vs) (fun v=>K v hp):=by
 show opK (match YQ hp (xT f k vs) with|some (v,hp')=>some (OpRes.val v hp')|none=>none) K Kp=_;cases xT f k vs <;> rfl
theorem Hy(k:IntKind):opK (aOp Γ b (.conv k) vs hp) K Kp=valK (xU k vs) (fun v=>K v hp):=by
 show opK (match YQ hp (xU k vs) with|some (v,hp')=>some (OpRes.val v hp')|none=>none) K Kp=_;cases xU k vs <;> rfl
theorem Hz(i:Nat):opK (aOp Γ b (.extract i) vs hp) K Kp=valK (xV i vs) (fun v=>K v hp):=by
 show opK (match YQ hp (xV i vs) with|some (v,hp')=>some (OpRes.val v hp')|none=>none) K Kp=_;cases xV i vs <;> rfl
theorem HA(t:TypeId):opK (aOp Γ b (.mkiface t) vs hp) K Kp=valK (X4 t vs) (fun v=>K v hp):=by
 show opK (match YQ hp (X4 t vs) with|some (v,hp')=>some (OpRes.val v hp')|none=>none) K Kp=_;cases X4 t vs <;> rfl
theorem HB(t:TypeId)(sh:Sh)(z:AV)(k:Bool):opK (aOp Γ b (.assert t sh z k) vs hp) K Kp=valK (Xm t sh z k vs) (fun v=>K v hp):=by
 show opK (match YQ hp (Xm t sh z k vs) with|some (v,hp')=>some (OpRes.val v hp')|none=>none) K Kp=_;cases Xm t sh z k vs <;> rfl
theorem HD(sh:Sh):opK (aOp Γ b (.load sh) vs hp) K Kp=valK (XK sh hp vs) (fun v=>K v hp):=by
 show opK (match YQ hp (XK sh hp vs) with|some (v,hp')=>some (OpRes.val v hp')|none=>none) K Kp=_;cases XK sh hp vs <;> rfl
theorem HE(s:Bool)(sh:Sh)(z:AV)(k:Bool):opK (aOp Γ b (.lookup s sh z k) vs hp) K Kp=valK (yh s sh z k hp vs) (fun v=>K v hp):=by
 show opK (match YQ hp (yh s sh z k hp vs) with|some (v,hp')=>some (OpRes.val v hp')|none=>none) K Kp=_;cases yh s sh z k hp vs <;> rfl
theorem HF(n:Nat):opK (aOp Γ b (.aindex n) vs hp) K Kp=valK (xS n vs) (fun v=>K v hp):=by
 show opK (match YQ hp (xS n vs) with|some (v,hp')=>some (OpRes.val v hp')|none=>none) K Kp=_;cases xS n vs <;> rfl
theorem HG(ds:List Nat)(sh:Sh)(z:AV)(k:Bool):opK (aOp Γ b (.lookupr ds sh z k) vs hp) K Kp=valK (X5 ds sh z k hp vs) (fun v=>K v hp):=by
 show opK (match YQ hp (X5 ds sh z k hp vs) with|some (v,hp')=>some (OpRes.val v hp')|none=>none) K Kp=_;cases X5 ds sh z k hp vs <;> rfl
theorem HI:opK (aOp Γ b .mlen vs hp) K Kp=valK (Xs hp vs) (fun v=>K v hp):=by
 show opK (match YQ hp (Xs hp vs) with|some (v,hp')=>some (OpRes.val v hp')|none=>none) K Kp=_;cases Xs hp vs <;> rfl
theorem HJ(sh:Sh):opK (aOp Γ b (.nilsl sh) vs hp) K Kp=YL (YU sh hp) K:=by
 show opK (match(YU sh hp) with|some (v,hp')=>some (OpRes.val v hp')|none=>none) K Kp=_;cases (YU sh hp) with
 |none=>rfl
 |some r=>cases r;rfl
theorem HK(sh:Sh)(z:AV):opK (aOp Γ b (.alloc sh z) vs hp) K Kp=YL (Xn sh z hp vs) K:=by
 show opK (match(Xn sh z hp vs) with|some (v,hp')=>some (OpRes.val v hp')|none=>none) K Kp=_;cases (Xn sh z hp vs) with
 |none=>rfl
 |some r=>cases r;rfl
theorem HL(sh:Sh):opK (aOp Γ b (.box sh) vs hp) K Kp=YL (wBox sh hp vs) K:=by
 show opK (match(wBox sh hp vs) with|some (v,hp')=>some (OpRes.val v hp')|none=>none) K Kp=_;cases (wBox sh hp vs) with
 |none=>rfl
 |some r=>cases r;rfl
theorem HM(sh:Sh):opK (aOp Γ b (.bslice sh) vs hp) K Kp=YL (yK sh hp vs) K:=by
 show opK (match(yK sh hp vs) with|some (v,hp')=>some (OpRes.val v hp')|none=>none) K Kp=_;cases (yK sh hp vs) with
 |none=>rfl
 |some r=>cases r;rfl
theorem HN(sh:Sh):opK (aOp Γ b (.store sh) vs hp) K Kp=YL (Yb sh b hp vs) K:=by
 show opK (match(Yb sh b hp vs) with|some (v,hp')=>some (OpRes.val v hp')|none=>none) K Kp=_;cases (Yb sh b hp vs) with
 |none=>rfl
 |some r=>cases r;rfl
theorem HO(sh:Sh)(z:PV):opK (aOp Γ b (.mkslice sh z) vs hp) K Kp=YL (xu sh z hp vs) K:=by
 show opK (match(xu sh z hp vs) with|some (v,hp')=>some (OpRes.val v hp')|none=>none) K Kp=_;cases (xu sh z hp vs) with
 |none=>rfl
 |some r=>cases r;rfl
theorem HP(s:Bool)(sh:Sh):opK (aOp Γ b (.mapset s sh) vs hp) K Kp=YL (Xt s sh hp vs) K:=by
 show opK (match(Xt s sh hp vs) with|some (v,hp')=>some (OpRes.val v hp')|none=>none) K Kp=_;cases (Xt s sh hp vs) with
 |none=>rfl
 |some r=>cases r;rfl
theorem HQ(sh:Sh):opK (aOp Γ b (.append sh) vs hp) K Kp=YL (YK sh hp vs) K:=by
 show opK (match(YK sh hp vs) with|some (v,hp')=>some (OpRes.val v hp')|none=>none) K Kp=_;cases (YK sh hp vs) with
 |none=>rfl
 |some r=>cases r;rfl
theorem HS(sh:Sh):opK (aOp Γ b (.bslo sh) vs hp) K Kp=YL (xY sh hp vs) K:=by
 show opK (match xY sh hp vs with|some (v,hp')=>some (OpRes.val v hp')|none=>none) K Kp=_;cases xY sh hp vs with
 |none=>rfl
 |some r=>cases r;rfl
theorem HT(sh:Sh):opK (aOp Γ b (.storen sh) vs hp) K Kp=YL (y3 sh b hp vs) K:=by
 show opK (match y3 sh b hp vs with|some (v,hp')=>some (OpRes.val v hp')|none=>none) K Kp=_;cases y3 sh b hp vs with
 |none=>rfl
 |some r=>cases r;rfl
theorem HU(sh:Sh):opK (aOp Γ b (.mkmap sh) vs hp) K Kp=K (.map hp.length) (hp++[.map sh []]):=rfl
theorem HV(s:Sh)(f:FuncId)(azs:List AV):opK (aOp Γ b .call (.pv s (.func (.func f))::azs) hp) K Kp=xH (Γ .fn f azs hp) K Kp:=by
 simp only[aOp,yw,yL,ZP,ZB];cases Γ .fn f azs hp with
 |none=>rfl
 |some r=>obtain⟨r,hp'⟩:=r;cases r <;> rfl
theorem HW(f:FuncId)(fs cs azs:List AV):opK (aOp Γ b .call (.func (.func f) fs cs::azs) hp) K Kp=xH (Γ .fn f (fs++azs++cs) hp) K Kp:=by
 simp only[aOp,yw,yL];cases Γ .fn f (fs++azs++cs) hp with
 |none=>rfl
 |some r=>obtain⟨r,hp'⟩:=r;cases r <;> rfl
theorem HX(n:Nat):opK (aOp Γ b (.calln n) vs hp) K Kp=opK (aOp Γ b .call (vs.drop n) hp) (fun v hp'=>(vs.take n).all (yM hp hp')=true/\K v hp') Kp:=by
 simp only[aOp,Qz];cases yw Γ hp (vs.drop n) with
 |none=>rfl
 |some r=>
  cases r with
  |val v hp'=>
   simp only[opK];split
   ·rename_i h;split at h
    ·cases h;simp[*]
    ·cases h
   ·rename_i h;split at h <;> cases h
   ·rename_i h;split at h
    ·cases h
    ·simp[*]
  |panic v hp'=>rfl
def qM(v:Option (List (Sh × PV)))(K:List (Sh × PV)->Prop)[Tag K]:Prop:=
 match v with
 |some l=>K l
 |none=>False
theorem HY(s:Sh)(f:FuncId)(azs:List AV):opK (aOp Γ b .callp (.pv s (.func (.func f))::azs) hp) K Kp=qM (Y5 azs) (fun ps=>xH (Γ .fn f (yu azs (pvs ps)) []) (fun v H=>valK (v.alone H) fun v'=>K v' hp) (fun _ _=>False)):=by
 simp only[aOp,X6];cases Y5 azs with
 |none=>rfl
 |some ps=>
  simp only[qM];cases Γ .fn f (yu azs (pvs ps)) [] with
  |none=>rfl
  |some r=>
   obtain⟨r,hp'⟩:=r;cases r with
   |ret v=>simp only[xH];cases v.alone hp' <;> rfl
   |panic v=>rfl
theorem HZ(s:Sh)(f:FuncId)(azs:List AV):opK (yi Γ hp (.pv s (.func (.func f))::azs)) K Kp=qM (Y5 azs) (fun ps=>xH (Γ .fn f (yu azs (pvs ps)) []) (fun v H=>valK (v.alone H) fun v'=>K v' hp) (fun p _=>Kp p hp)):=by
 simp only[yi];cases Y5 azs with
 |none=>rfl
 |some ps=>
  simp only[qM];cases Γ .fn f (yu azs (pvs ps)) [] with
  |none=>rfl
  |some r=>
   obtain⟨r,hp'⟩:=r;cases r with
   |ret v=>simp only[xH];cases v.alone hp' <;> rfl
   |panic v=>rfl
theorem H4(s s':Sh)(t:TypeId)(p:PV):opK (aOp Γ b .panic [.pv s (.iface t s' p)] hp) K Kp=Kp (.iface t s' p) hp:=rfl
end Go.Am
namespace Go.Am
variable{Γ:Oracle} {Λ:Yw} {b:Nat} {hp:Heap} {vs:List AV} {K:AV->Heap->Prop} {Kp:PV->Heap->Prop}
theorem H5:opK (aOp Γ b .nilcheck vs hp) K Kp=valK (xX vs) (fun v=>K v hp):=by
 show opK (match YQ hp (xX vs) with|some (v,hp')=>some (OpRes.val v hp')|none=>none) K Kp=_;cases xX vs <;> rfl
theorem H6(g:Bool):opK (aOp Γ b (.isnil g) vs hp) K Kp=valK (xo g vs) (fun v=>K v hp):=by
 show opK (match YQ hp (xo g vs) with|some (v,hp')=>some (OpRes.val v hp')|none=>none) K Kp=_;cases xo g vs <;> rfl
end Go.Am

/- What code comes to: values; calls of functions. -/
namespace Go.Am
variable{Γ:Oracle} {Λ:Yw} {b:Nat} {hp:Heap} {K:AV->Prop} {s s':Sh} {sh:Sh} {k:IntKind} {x y:Int}

theorem s_mv(v:AV):sMv [v]=some v:=rfl
theorem H7(es:List PV):sLen [.pv s (.sl sh es)]=some (.pv none (.int .i64 es.length)):=rfl
theorem H8(es:List PV):sLen [.tsl sh es]=some (.pv none (.int .i64 es.length)):=rfl
theorem H9(r v o n:Nat):sLen [.sl sh r v o n]=some (.pv none (.int .i64 n)):=rfl
theorem hJ(l:List UInt8):xW [.pv s (.str l)]=some (.pv none (.int .i64 l.length)):=rfl
theorem hU(c:Bool)(u v:AV):xQ [.pv s (.bool c),u,v]=some (bif c then u else v):=rfl
theorem La(c:Bool):sNot [.pv s (.bool c)]=some (.pv none (.bool !c)):=rfl
theorem Lb(o:BinOp):valK (sBin o [.pv s (.int k x),.pv s' (.int k y)]) K=pvK (yU o k x y) (fun p=>K (.pv none p)):=by
 simp only[sBin,Q9,if_true];cases yU o k x y <;> rfl
theorem Lc(o:BinOp)(u v:List UInt8):valK (sBin o [.pv s (.str u),.pv s' (.str v)]) K=pvK (Xr o u v) (fun p=>K (.pv none p)):=by
 simp only[sBin,Q9];cases Xr o u v <;> rfl
theorem Ld(o:BinOp)(u v:Bool):valK (xR o [.pv s (.bool u),.pv s' (.bool v)]) K=pvK (Qv o u v) (fun p=>K (.pv none p)):=by
 simp only[xR];cases Qv o u v <;> rfl
theorem Le:yU .add k x y=some (.int k (k.wrap (x+y))):=rfl
theorem Lf:yU .sub k x y=some (.int k (k.wrap (x - y))):=rfl
theorem Lg:yU .eql k x y=some (.bool (decide (x=y))):=rfl
theorem Lh:yU .neq k x y=some (.bool (!decide (x=y))):=rfl
theorem Li:yU .lss k x y=some (.bool (decide (x<y))):=rfl
theorem Lj:yU .leq k x y=some (.bool (decide (x<=y))):=rfl
theorem Lk:yU .gtr k x y=some (.bool (decide (y<x))):=rfl
theorem Ll:yU .geq k x y=some (.bool (decide (y<=x))):=rfl
theorem Lm{u v:List UInt8}:Xr .eql u v=some (.bool (decide (u=v))):=rfl
theorem Ln{u v:List UInt8}:Xr .neq u v=some (.bool (!decide (u=v))):=rfl
theorem Lo{u v:List UInt8}:Xr .lss u v=some (.bool (Op.bytesLess u v)):=rfl
theorem Lp{u v:Bool}:Qv .neq u v=some (.bool (!(u == v))):=rfl
theorem Lq(o r o':Nat):XJ o [.ptr r o']=some (.ptr r (o'+o)):=rfl
theorem Lr(o o':Nat)(p:PV):XJ o [.iptr sh p o']=some (.iptr sh p (o'+o)):=rfl
theorem Yc{es:List PV}{i:Nat}{p:PV}(h:es[i]? =some p):Yq sh [.pv s (.sl sh es),.pv s' (.int k i)]=some (.iptr sh p 0):=by
 simp[Yq,aindex,h]
theorem qN{r v o n i:Nat}(h:i<n):Yq sh [.sl sh r v o n,.pv s' (.int k i)]=some (.eptr sh r v (o+i) 0):=by
 simp[Yq,aindex,h]
theorem Ls(k':IntKind):xU k' [.pv s (.int k x)]=some (.pv none (.int k' (k'.wrap x))):=rfl
theorem Lt(i:Nat)(l:List AV):xV i [.tuple l]=l[i]? :=rfl
theorem Lu(fn:Fn)(n:Nat)(v:AV)(l:List AV):xT fn n (v::l)=some (.func fn ((v::l).take n) ((v::l).drop n)):=rfl
theorem Lv(p:AV):XK sh hp [p]=aload sh hp p:=rfl
def XD(sh:Sh)(off:Nat):Option AObj->Option AV
 |some (.box s v)=>if off=0/\s=sh then some v else AV.part deep v off sh
 |_=>none
theorem Lw(r off:Nat):aload sh hp (.ptr r off)=XD sh off hp[r]? :=by
 unfold XD;simp only[aload];split <;> simp_all
theorem Lx(off:Nat)(v:AV):XD sh off (some (.box s v))=if off=0/\s=sh then some v else AV.part deep v off sh:=rfl
def toAV(sh:Sh):Option PV->Option AV
 |some p=>some (.pv sh p)
 |none=>none
theorem Ly(p:PV):toAV sh (some p)=some (.pv sh p):=rfl
theorem Lz(p:PV)(off:Nat):aload sh hp (.iptr s p off)=if off=0/\s=sh then some (.pv sh p) else toAV sh (PV.part deep p off sh):=by
 simp only[aload,toAV];split
 ·rfl
 ·cases PV.part deep p off sh <;> rfl
theorem LA(p:PV)(off:Nat):AV.part deep (.pv s p) off sh=toAV sh (PV.part deep p off sh):=by
 show AV.part (7+1) (.pv s p) off sh=toAV sh (PV.part (7+1) p off sh);simp only[AV.part,toAV];cases PV.part (7+1) p off sh <;> rfl
theorem LB(l:List (Sh × PV))(off:Nat):PV.part deep (.agg l) off sh=PV.part.go 7 off sh l:=rfl
theorem LC(l:List (Sh × AV))(off:Nat):AV.part deep (.agg l) off sh=AV.part.go 7 off sh l:=rfl
theorem LD(d off:Nat)(p:PV)(r:List (Sh × PV)):PV.part.go d off sh ((s,p)::r)=if off=0/\s=sh then some p else if off<s.size then PV.part d p off sh else PV.part.go d (off - s.size) sh r:=rfl
theorem LE(d off:Nat)(p:AV)(r:List (Sh × AV)):AV.part.go d off sh ((s,p)::r)=if off=0/\s=sh then some p else if off<s.size then AV.part d p off sh else AV.part.go d (off - s.size) sh r:=rfl
theorem LF:Sh.size none=1:=rfl
theorem xJ(n:Nat):Sh.size (some n)=n:=rfl
def endK(rs:List RSlot)(Q:AV->Heap->Prop)[Tag Q]:AExit->St->Prop
 | .normal,st=>match Yz st rs with
  |some v=>Q v st.hp
  |none=>False
 | .ret,st=>match Yz st rs with
  |some v=>Q v st.hp
  |none=>False
 |_,_=>False
theorem XX(rs:List RSlot)(Q:AV->Heap->Prop)(st:St):endK rs Q .ret st=valK (Yz st rs) (fun v=>Q v st.hp):=by
 show(match Yz st rs with|some v=>Q v st.hp|none=>False)=_;cases Yz st rs <;> rfl
theorem xh(rs:List RSlot)(Q:AV->Heap->Prop)(st:St):endK rs Q .normal st=valK (Yz st rs) (fun v=>Q v st.hp):=by
 show(match Yz st rs with|some v=>Q v st.hp|none=>False)=_;cases Yz st rs <;> rfl
theorem LG(st:St)(r:Nat):Yz st [(r,none)]=st.fr.look r:=rfl
theorem LH(st:St)(r:Nat)(sh:Sh):Yz st [(r,some sh)]=(match st.fr.look r with|some p=>aload sh st.hp p|none=>none):=rfl
def tupO:Option (List AV)->Option AV
 |some l=>some (.tuple l)
 |none=>none
theorem LJ(l:List AV):tupO (some l)=some (.tuple l):=rfl
theorem LK(st:St)(r q:RSlot)(l:List RSlot):Yz st (r::q::l)=tupO (yE st (r::q::l)):=by
 unfold Yz tupO;simp only[];cases yE st (r::q::l) <;> rfl
theorem LL(st:St):Yz st []=some (.tuple []):=rfl
theorem LM(p:Nat->Bool):(AV.tuple []).refsIn.all p=true:=rfl
theorem LN(st:St):yE st []=some []:=rfl
theorem LP(st:St)(r:RSlot)(l:List RSlot):yE st (r::l)=xI (Y8 st r) (yE st l):=rfl
theorem LQ(st:St)(r:Nat):Y8 st (r,none)=st.fr.look r:=rfl
theorem LT(i:Nat):params i []=[]:=rfl
theorem LU(i:Nat)(v:AV)(r:List AV):params i (v::r)=(i,v)::params (i+1) r:=rfl

def frozen(v:AV):AV->Heap->Prop:=fun v' hp=>∃hp',v'.freezeRes hp=some (v,hp')
theorem LV(p:PV)(v:AV):frozen v (.pv s p) hp=(.pv s p=v):=by
 have h:AV.freeze deep (.pv s p) hp=some (p,hp):=rfl;simp only[frozen,AV.freezeRes,h,AV.shp];exact propext ⟨fun⟨_,h⟩=>by cases h;rfl,fun h=>⟨hp,by rw[h]⟩⟩
theorem z8:∀(ps:List (Sh × PV)),Yp (pvs ps) hp=some (ps,hp)
 |[]=>rfl
 |(sh,p)::r=>by
  have h:AV.freeze deep (.pv sh p) hp=some (p,hp):=rfl;show Yp (.pv sh p::pvs r) hp=_;simp only[Yp,h,z8 r,AV.shp]

variable{F:FuncId->Option AFn} {prim:FuncId->Option Ym}
theorem Ya{f:FuncId}{fn:AFn}{args:List AV}{ps:List (Sh × PV)}{hp:Heap}{v:AV}(hp0:prim f=none)(hf:F f=some fn)(hm:fn.heapMode=false)(hz:Yp args hp=some (ps,hp))(hn:(pvs ps).length=fn.nparams)
  (h:W (sem F prim) (sloop F prim) 0 fn.code ⟨params 0 (pvs ps),[]⟩ (endK fn.results (frozen v)))(hr:fn.rcv=none:=by rfl)(hmo:fn.more=[]:=by rfl):sem F prim .fn f args hp=some (.ret v,hp):=by
 rw[XW];unfold Y6;rw[hp0,hf];simp only[hr,hmo,zm,hm,ZM,if_false,hz,abody,hn,ne_eq,not_true_eq_false];unfold W at h;split at h
 ·rename_i e st' he;have hl:([]:Heap).length=0:=rfl;rw[hl,he];cases e with
  |normal=>
   rw[xh] at h;cases hr:Yz st' fn.results with
   |none=>rw[hr] at h;exact h.elim
   |some u=>
    rw[hr] at h;obtain⟨hp',h⟩:=h;simp only[hr,h];cases v.scalar <;> rfl
  |ret=>
   rw[XX] at h;cases hr:Yz st' fn.results with
   |none=>rw[hr] at h;exact h.elim
   |some u=>
    rw[hr] at h;obtain⟨hp',h⟩:=h;simp only[hr,h];cases v.scalar <;> rfl
  |exit i=>exact h.elim
  |panic v=>exact h.elim
 ·exact h.elim
theorem qO{c:ACode}{st:St}{Q Q':AExit->St->Prop}(h:W Γ Λ b c st Q)(hq:∀e st',Q e st'->Q' e st'):W Γ Λ b c st Q':=by
 unfold W at h ⊢;split at h
 ·exact hq _ _ h
 ·exact h.elim
theorem xK(I:Nat->St->Prop){b:Nat}{keep:List Nat}{c:ACode}{st:St}{Q:AExit->St->Prop}{n:Nat}(h0:I n ⟨st.fr.keep keep,st.hp⟩)
  (h:∀n st1,I n st1->W (sem F prim) (sloop F prim) b c st1 (fun e st'=>match e with
   | .normal=>∃m,m<n/\I m ⟨st'.fr.keep keep,collect st.hp.length b (st'.fr.keep keep) st'.hp⟩
   |e=>Q e st')):W (sem F prim) (sloop F prim) b (.loop keep c) st Q:=by
 unfold W;simp only[aexec];have key:∀n st1,I n st1->match sloop F prim b st.hp.length keep c st1 with|some (e,st')=>Q e st'|none=>False:=by
  intro n
  induction n using Nat.strongRecOn with
  |_ n ih=>
   intro st1 hI;have hw:=h n st1 hI;unfold W at hw;rw[un];split at hw
   ·rename_i e st' he;rw[he];cases e with
    |normal=>
     obtain⟨m,hm,hI'⟩:=hw;exact ih m hm _ hI'
    |exit i=>exact hw
    |ret=>exact hw
    |panic v=>exact hw
   ·exact hw.elim
 exact key n _ h0
end Go.Am
namespace Go.Am
variable{Γ:Oracle} {Λ:Yw} {b:Nat} {hp:Heap} {K:AV->Heap->Prop} {s s':Sh} {sh:Sh} {k:IntKind} {x y:Int}
theorem LW:Am.pvs []=[]:=rfl
theorem LX(s:Sh)(p:PV)(r:List (Sh × PV)):Am.pvs ((s,p)::r)=.pv s p::Am.pvs r:=rfl
theorem uH{α:Type}(l:List α)(x y:α):(l++[x]).set l.length y=l++[y]:=by
 rw[List.set_append_right _ _ (Zc _)];simp
theorem LY(p:PV):Xn sh (.pv sh p) hp []=some (.ptr hp.length 0,hp++[.box sh (.pv sh p)]):=by
 simp only[Xn,AV.plain,AV.shp,and_self,if_true,AV.own,uH]
theorem LZ(p:PV):wBox sh hp [.pv sh p]=some (.ptr hp.length 0,hp++[.box sh (.pv sh p)]):=by
 simp only[wBox,AV.plain,AV.shp,and_self,if_true,AV.own,uH]
def kq(sh:Sh)(n:Nat):List (Sh × AV) × Heap->Option (AV × Heap)
 |(l,hp)=>some (.ptr n 0,hp.set n (.box sh (.agg l)))
theorem L0(n:Nat)(l:List (Sh × AV)):kq sh n (l,hp)=some (.ptr n 0,hp.set n (.box sh (.agg l))):=rfl
theorem L1(l:List (Sh × AV)):Xn sh (.agg l) hp []=if some (total l)=sh then kq sh hp.length (Yf l (hp++[.box sh (.agg l)])) else none:=by
 simp only[Xn,AV.plain,AV.shp,true_and,AV.own];rfl
theorem L2:Yf [] hp=([],hp):=rfl
def yI(x:Sh × AV):List (Sh × AV) × Heap->List (Sh × AV) × Heap
 |(l,hp)=>(x::l,hp)
theorem L3(u:Sh × AV)(l:List (Sh × AV)):yI u (l,hp)=(u::l,hp):=rfl
theorem L4(r:List (Sh × AV)):Yf ((s,.tsl sh [])::r) hp=if 0<sh.size then yI (s,.sl sh hp.length 0 0 0) (Yf r (hp++[.arr sh [] false])) else yI (s,.tsl sh []) (Yf r hp):=rfl
theorem L5(p:PV)(r:List (Sh × AV)):Yf ((s,.pv s' p)::r) hp=yI (s,.pv s' p) (Yf r hp):=rfl
theorem L6(p:List (Sh × AV))(r:List (Sh × AV)):Yf ((s,.agg p)::r) hp=yI (s,.agg p) (Yf r hp):=rfl
theorem L7:total ([]:List (Sh × AV))=0:=rfl
theorem L8(v:AV)(r:List (Sh × AV)):total ((s,v)::r)=s.size+total r:=rfl
def boxK(o:Option AObj)(K:Sh->AV->Prop)[Tag K]:Prop:=
 match o with
 |some (.box s v)=>K s v
 |_=>False
theorem L9(v:AV)(K:Sh->AV->Prop):boxK (some (.box s v)) K=K s v:=rfl
theorem lc(r off:Nat)(p:PV):YL (Yb sh b hp [.ptr r off,.pv sh p]) K=boxK hp[r]? fun s old=>if off=0/\s=sh then K .undef (hp.set r (.box s (.pv sh p))) else
  valK (AV.upd deep old off sh (.pv sh p)) fun new=>K .undef (hp.set r (.box s new)):=by
 simp only[Yb,astore,AV.plain,AV.shp,AV.own,AV.refsIn,zI];cases hp[r]? with
 |none=>rfl
 |some o=>
  cases o with
  |box s old=>
   simp only[boxK];by_cases h1:off=0/\s=sh
   ·obtain⟨h1,h2⟩:=h1;subst h1;subst h2;by_cases hb:b<=r <;> simp[hb,YL]
   ·cases hu:AV.upd deep old off sh (.pv sh p) with
    |none=>by_cases hb:b<=r <;> simp[hb,h1,YL,valK]
    |some new=>by_cases hb:b<=r <;> simp[hb,h1,YL,valK]
  |arr s es fz=>rfl
  |map s es=>rfl
  |loop f ps env bz=>rfl
  |arv s es=>rfl
theorem lf{r:Nat}(h:b<=r)(fn:Fn)(fs cs:List AV):YL (Yb none b hp [.ptr r 0,.func fn fs cs]) K=boxK hp[r]? fun s old=>if s=none then K .undef (hp.set r (.box s (.func fn fs cs))) else valK (AV.upd deep old 0 none (.func fn fs cs)) fun new=>K .undef (hp.set r (.box s new)):=by
 simp only[Yb,astore,AV.plain,AV.shp,AV.own];cases hp[r]? with
 |none=>rfl
 |some o=>
  cases o with
  |box s old=>
   simp only[boxK,Zd h];by_cases h1:s=none
   ·subst h1;simp[YL]
   ·cases hu:AV.upd deep old 0 none (.func fn fs cs) with
    |none=>simp[h1,YL,valK]
    |some new=>simp[h1,YL,valK]
  |arr s es fz=>rfl
  |map s es=>rfl
  |loop f ps env bz=>rfl
  |arv s es=>rfl
theorem Xd(h:0<sh.size):YU sh hp=some (.sl sh hp.length 0 0 0,hp++[.arr sh [] false]):=by
 simp[YU,h]
def kr(r:List Nat)(st:St)(q:Nat):Option AObj->Option St
 |some (.box sh v)=>match AV.freeze deep v st.hp with
  |some (p,hp')=>settle r ⟨st.fr,hp'.set q (.box sh (.pv sh p))⟩
  |none=>none
 |_=>settle r st
def J5(s:Nat)(r:List Nat)(st:St):Option AV->Option St
 |some (.ptr q _)=>kr r st q st.hp[q]?
 |some (.sl s' q ver off len)=>match AV.freeze deep (.sl s' q ver off len) st.hp with
   |some (p,hp')=>settle r ⟨(s,.pv none p)::st.fr,hp'⟩
   |none=>none
 |some (.tsl sh es)=>settle r ⟨(s,.pv none (.sl sh es))::st.fr,st.hp⟩
 |some (.slv s' q ver off len)=>match AV.freeze deep (.slv s' q ver off len) st.hp with
   |some (p,hp')=>settle r ⟨(s,.pv none p)::st.fr,hp'⟩
   |none=>none
 |some (.nilv sh)=>settle r ⟨(s,.pv none (.sl sh []))::st.fr,st.hp⟩
 |some (.agg l)=>if(AV.refsIn.go l).isEmpty=true then settle r st else match AV.freeze deep (.agg l) st.hp with
   |some (p,hp')=>settle r ⟨(s,.pv (some (total l)) p)::st.fr,hp'⟩
   |none=>settle r st
 |_=>settle r st
theorem lg(st:St):settle [] st=some st:=rfl
theorem lh(s:Nat)(r:List Nat)(st:St):settle (s::r) st=J5 s r st (st.fr.look s):=by
 simp only[settle];cases st.fr.look s with
 |none=>rfl
 |some v=>
  cases v with
  |ptr q o=>
   simp only[J5];cases st.hp[q]? with
   |none=>rfl
   |some o=>cases o <;> rfl
  |_=>rfl
theorem li(s:Nat)(r:List Nat)(st:St)(q o:Nat):J5 s r st (some (.ptr q o))=kr r st q st.hp[q]? :=rfl
theorem lj(s:Nat)(r:List Nat)(st:St)(sh:Sh)(p:PV):J5 s r st (some (.pv sh p))=settle r st:=rfl
theorem lk(r:List Nat)(st:St)(q:Nat)(sh s:Sh)(p:PV):kr r st q (some (.box sh (.pv s p)))=settle r ⟨st.fr,st.hp.set q (.box sh (.pv sh p))⟩:=rfl
def setK(v:Option St)(K:St->Prop)[Tag K]:Prop:=
 match v with
 |some st=>K st
 |none=>False
theorem ll(st:St)(K:St->Prop):setK (some st) K=K st:=rfl
theorem W_settle'{Γ:Oracle}{Λ:Yw}{b:Nat}{st:St}{Q:AExit->St->Prop}(l:List Nat):W Γ Λ b (.settle l) st Q=setK (settle l st) (fun st'=>Q .normal st'):=by
 rw[eu];cases settle l st <;> rfl
def kt(x:Sh × PV):Option (List (Sh × PV))->Option (List (Sh × PV))
 |some l=>some (x::l)
 |none=>none
theorem lm(x:Sh × PV)(l:List (Sh × PV)):kt x (some l)=some (x::l):=rfl
theorem ln:Y5 []=some []:=rfl
theorem lq(s:Sh)(p:PV)(r:List AV):Y5 (.pv s p::r)=kt (s,p) (Y5 r):=by
 have h:AV.weaken deep (.pv s p)=some p:=rfl;simp only[Y5,h,AV.shp];cases Y5 r <;> rfl
theorem lu(s:Sh)(es:List PV)(r:List AV):Y5 (.tsl s es::r)=kt (none,.sl s es) (Y5 r):=by
 have h:AV.weaken deep (.tsl s es)=some (.sl s es):=rfl;simp only[Y5,h,AV.shp];cases Y5 r <;> rfl
theorem lw(l:List (Sh × PV))(K:List (Sh × PV)->Prop):qM (some l) K=K l:=rfl
theorem lz(s:Sh)(p:PV)(H:Heap):AV.alone (.pv s p) H=some (.pv s p):=rfl
theorem lA(q:List AV):yu [] q=q:=by cases q <;> rfl
theorem lB(s:Sh)(p:PV)(r q:List AV)(x:AV):yu (.pv s p::r) (x::q)=x::yu r q:=rfl
theorem lC(s:Sh)(a:PV)(l:List PV)(r q:List AV)(x:AV):yu (.tsl s (a::l)::r) (x::q)=x::yu r q:=rfl
def uI(x:Sh × PV):Option (List (Sh × PV) × Heap)->Option (List (Sh × PV) × Heap)
 |some (l,hp)=>some (x::l,hp)
 |none=>none
theorem lD(x:Sh × PV)(l:List (Sh × PV))(hp:Heap):uI x (some (l,hp))=some (x::l,hp):=rfl
theorem lE(hp:Heap):Yp [] hp=some ([],hp):=rfl
theorem lF(s:Sh)(p:PV)(r:List AV)(hp:Heap):Yp (.pv s p::r) hp=uI (s,p) (Yp r hp):=by
 have h:AV.freeze deep (.pv s p) hp=some (p,hp):=rfl;simp only[Yp,h,AV.shp];cases Yp r hp with
 |none=>rfl
 |some x=>rfl
def bslO(sh:Sh):Option (List PV)->Heap->Option (AV × Heap)
 |some es,hp=>some (.tsl sh es,hp)
 |none,_=>none
def bslZ(sh:Sh):Option (List (Sh × PV) × Heap)->Option (AV × Heap)
 |some (ps,hp)=>bslO sh (ye sh ps) hp
 |none=>none
theorem lG(sh:Sh)(hp:Heap)(vs:List AV):yK sh hp vs=bslZ sh (Yp vs hp):=by
 unfold yK bslZ;cases Yp vs hp with
 |none=>rfl
 |some x=>
  obtain⟨ps,hp'⟩:=x;simp only[];cases ye sh ps <;> rfl
theorem lH(sh:Sh)(ps:List (Sh × PV))(hp:Heap):bslZ sh (some (ps,hp))=bslO sh (ye sh ps) hp:=rfl
theorem lI(sh:Sh)(es:List PV)(hp:Heap):bslO sh (some es) hp=some (.tsl sh es,hp):=rfl
def uJ(p:PV):Option (List PV)->Option (List PV)
 |some l=>some (p::l)
 |none=>none
theorem lJ(p:PV)(l:List PV):uJ p (some l)=some (p::l):=rfl
theorem lK(sh:Sh):ye sh []=some []:=rfl
theorem lL(sh s:Sh)(p:PV)(r:List (Sh × PV)):ye sh ((s,p)::r)=if s=sh then uJ p (ye sh r) else none:=by
 simp only[ye];split
 ·cases ye sh r <;> rfl
 ·rfl
def bslQ(sh:Sh):Option (List PV)->Option AV
 |some es=>some (.tsl sh es)
 |none=>none
theorem lM(sh:Sh)(es:List PV):bslQ sh (some es)=some (.tsl sh es):=rfl
def bslP(sh:Sh):Option (List (Sh × PV))->Option AV
 |some ps=>bslQ sh (ye sh ps)
 |none=>none
theorem lN(sh:Sh)(ps:List (Sh × PV)):bslP sh (some ps)=bslQ sh (ye sh ps):=rfl
theorem lO(sh:Sh)(vs:List AV):xm sh vs=bslP sh (Y5 vs):=by
 unfold xm bslP;cases Y5 vs with
 |none=>rfl
 |some ps=>simp only[];cases ye sh ps <;> rfl
def J6(sh:Sh)(n:Nat):Option AObj->Prop
 |some (.arr s es false)=>s=sh/\es.length=n
 |_=>False
def J7(n:Nat):Option AObj->Prop
 |some (.arr _ es _)=>es.length=n
 |_=>False
def Qo:Option AObj->List PV
 |some (.arr _ es _)=>es
 |_=>[]
def J8:Option AObj->Sh
 |some (.arr s _ _)=>s
 |_=>none
theorem lP{sh s:Sh}{n:Nat}(es:List PV):J6 sh n (some (.arr s es false))=(s=sh/\es.length=n):=rfl
theorem lQ{s:Sh}{fz:Bool}(es:List PV):Qo (some (.arr s es fz))=es:=rfl
theorem lR{sh:Sh}{n:Nat}{o:Option AObj}(h:J6 sh n o):∃es,o=some (.arr sh es false)/\es.length=n:=by
 unfold J6 at h;split at h
 ·obtain⟨rfl,h⟩:=h;exact⟨_,rfl,h⟩
 ·exact h.elim
theorem lS{n:Nat}{o:Option AObj}(h:J7 n o):∃sh es fz,o=some (.arr sh es fz)/\es.length=n:=by
 unfold J7 at h;split at h
 ·exact⟨_,_,_,rfl,h⟩
 ·exact h.elim
theorem lT{sh s:Sh}{hp:Heap}{r n:Nat}{new:List PV}(h:J6 sh n hp[r]?)(h2:n+new.length<=lim):YK sh hp [.sl s r n 0 n,.tsl sh new]=some (.sl sh r (n+new.length) 0 (n+new.length),hp.set r (.arr sh (Qo hp[r]? ++new) false)):=by
 obtain⟨es,ho,rfl⟩:=lR h;simp[YK,aappend,elems,ho,h2,Qo]
theorem freeze_sl'{sh:Sh}{hp:Heap}{r n:Nat}(h:J7 n hp[r]?):AV.freeze deep (.sl sh r n 0 n) hp=some (.sl (J8 hp[r]?) (Qo hp[r]?),hp.set r (.arr (J8 hp[r]?) (Qo hp[r]?) true)):=by
 obtain⟨sh',es,fz,ho,rfl⟩:=lS h;show AV.freeze (7+1) _ _=_;simp[AV.freeze,ho,Qo,J8]
theorem uK{sh:Sh}{hp:Heap}{r n:Nat}{v:AV}(h:J7 n hp[r]?):frozen v (.sl sh r n 0 n) hp=(.pv none (.sl (J8 hp[r]?) (Qo hp[r]?))=v):=by
 simp only[frozen,AV.freezeRes,freeze_sl' h,AV.shp];exact propext ⟨fun⟨_,h⟩=>by cases h;rfl,fun h=>⟨_,by rw[h]⟩⟩
def frzT(v:AV):Option (List (Sh × PV) × Heap)->Prop
 |some (ps,_)=>.tuple (pvs ps)=v
 |none=>False
theorem lU(v:AV)(ps:List (Sh × PV))(hp:Heap):frzT v (some (ps,hp))=(.tuple (pvs ps)=v):=rfl
theorem J9{hp:Heap}{l:List AV}{v:AV}:frozen v (.tuple l) hp=frzT v (Yp l hp):=by
 simp only[frozen,AV.freezeRes];cases Yp l hp with
 |none=>simp[frzT]
 |some x=>
  obtain⟨ps,hp'⟩:=x;simp only[frzT];exact propext ⟨fun⟨_,h⟩=>by cases h;rfl,fun h=>⟨_,by rw[h]⟩⟩
theorem lV{x:Int}(h:0<=x)(h':x<18446744073709551616):IntKind.u64.wrap x=x:=by
 simp[IntKind.wrap,IntKind.signed,IntKind.bits];omega
def kw(sh:Sh):Option AObj->Prop
 |some (.box s _)=>s=sh
 |_=>False
theorem lW(sh s:Sh)(v:AV):kw sh (some (.box s v))=(s=sh):=rfl
def kx(r:Nat)(sh:Sh):List (Sh × AV) × Heap->Option (AV × Heap)
 |(l,hp1)=>some (.undef,hp1.set r (.box sh (.agg l)))
theorem lX(r:Nat)(sh:Sh)(l:List (Sh × AV))(hp1:Heap):kx r sh (l,hp1)=some (.undef,hp1.set r (.box sh (.agg l))):=rfl
theorem z7{b r:Nat}{sh:Sh}{hp:Heap}(h:b<=r)(l:List (Sh × AV))(hs:some (total l)=sh)(ho:kw sh hp[r]?):Yb sh b hp [.ptr r 0,.agg l]=kx r sh (Yf l hp):=by
 cases ho':hp[r]? with
 |none=>rw[ho'] at ho;exact ho.elim
 |some o=>
  rw[ho'] at ho;cases o with
  |box s old=>
   simp only[kw] at ho;subst ho;simp only[Yb,astore,ho',AV.plain,AV.shp,AV.own,hs,Zd h];cases Yf l hp with
   |mk l' hp'=>simp[kx]
  |arr s es fz=>exact ho.elim
  |map s es=>exact ho.elim
  |loop f ps env bz=>exact ho.elim
  |arv s es=>exact ho.elim
theorem XE{b r:Nat}{s':Sh}{hp:Heap}{K:AV->Heap->Prop}{q v o n off:Nat}(h:b<=r):YL (Yb none b hp [.ptr r off,.sl s' q v o n]) K=boxK hp[r]? fun s old=>if off=0/\s=none then K .undef (hp.set r (.box s (.sl s' q v o n))) else
  valK (AV.upd deep old off none (.sl s' q v o n)) fun new=>K .undef (hp.set r (.box s new)):=by
 simp only[Yb,astore,AV.plain,AV.shp,AV.own];cases hp[r]? with
 |none=>rfl
 |some ob=>
  cases ob with
  |box s old=>
   simp only[boxK,Zd h];by_cases h1:off=0/\s=none
   ·obtain⟨h1,h2⟩:=h1;subst h1;subst h2;simp[YL]
   ·cases hu:AV.upd deep old off none (.sl s' q v o n) with
    |none=>simp[h1,YL,valK]
    |some new=>simp[h1,YL,valK]
  |arr s es fz=>rfl
  |map s es=>rfl
  |loop f ps env bz=>rfl
  |arv s es=>rfl
def updO:Option (List (Sh × AV))->Option AV
 |some l=>some (AV.ofComps l)
 |none=>none
theorem lY(l:List (Sh × AV)):updO (some l)=some (AV.ofComps l):=rfl
theorem lZ(l:List (Sh × AV))(off:Nat)(sh:Sh)(x:AV):AV.upd deep (.agg l) off sh x=updO (AV.updGo (fun p o=>AV.upd 7 p o sh x) sh x off l):=by
 show AV.upd (7+1) (.agg l) off sh x=_;simp only[AV.upd,AV.comps];cases AV.updGo (fun p o=>AV.upd 7 p o sh x) sh x off l <;> rfl
def uL(s:Sh)(p:AV):Option (List (Sh × AV))->Option (List (Sh × AV))
 |some l=>some ((s,p)::l)
 |none=>none
theorem l8(s:Sh)(p:AV)(l:List (Sh × AV)):uL s p (some l)=some ((s,p)::l):=rfl
theorem l9(f:AV->Nat->Option AV)(sh:Sh)(v:AV)(off:Nat)(s:Sh)(p:AV)(r:List (Sh × AV)):AV.updGo f sh v off ((s,p)::r)=if off=0/\s=sh then some ((s,v)::r) else if off<s.size then(match f p off with|some p'=>some ((s,p')::r)|none=>none) else uL s p (AV.updGo f sh v (off - s.size) r):=by
 simp only[AV.updGo];split
 ·rfl
 ·split
  ·rfl
  ·cases AV.updGo f sh v (off - s.size) r <;> rfl
end Go.Am

/- (empty) -/

/- The steps, azs one set. -/
namespace Go.Am
attribute [go_sem] en ep er ew ex ey ez eA eD eE eF eB eC eG eH eI eJ eK eL eM eN eO eP eQ eR eS eT eU eV eW eX eY eZ Ha Hb Hc Hd He Hf Hg Hh Hi Hj Hk Hl Hm Hn Ho Hp Hq Hr Hs Ht Hu Hv Hw Hx Hy Hz HA HB HD HE HI HF HG HJ HK HL HM HN HO HP HQ HU HV HW HY HZ H4 s_mv H7 H8 H9 hJ hU La Lb Lc Ld Le Lf Lg Lh Li Lj Lk Ll Lm Ln Lo Lp Lq Lr Ls Lt Lu Lv Lw Lx Ly Lz LA LB LC LD LE LF xJ XX xh LG LK LN LP LQ LT LU LJ LL LM LV LY LZ L2 L3 L4 L5 L6 L1 L0 L7 L8 L9 lc W_settle' ll lg lh li lj lk lm ln lq lu lw lz lA lB lC lD lE lF lG lH lI lJ lK lL lO lM lN lP lQ lT uK J9 lU lX lW lY lZ l8 l9 LH if_true if_false true_and and_true false_and and_false and_self Zv Nat.add_zero eq_self Bool.true_eq_false ZM cond_true cond_false Zr zD Bool.not_eq_false' decide_eq_false_iff_not not_true_eq_false not_false_eq_true Bool.true_and Bool.false_and Bool.and_true Bool.and_false Bool.not_true Bool.not_false Option.some.injEq decide_true decide_false List.getElem?_cons_zero zN ZF List.length_nil ZP ZJ List.set_cons_zero List.set_cons_succ zo Z5 LX LW HX HT HS H5 H6
end Go.Am

/- Terms: sizes, valid ones; how their parts are read. -/
namespace Go.Am
mutual
def Tm.size:Tm->Nat
 | .mk _ _ _ azs=>1+Tm.sizes azs
def Tm.sizes:List Tm->Nat
 |[]=>0
 |t::r=>t.size+Tm.sizes r
end
theorem Tm.size_eq(t:Tm):t.size=1+Tm.sizes t.args:=by cases t;simp[Tm.size,Tm.args]
theorem Tm.size_pos(t:Tm):0<t.size:=by rw[Tm.size_eq];omega
theorem Tm.zyQ:∀{l:List Tm} {t:Tm},t∈l->t.size<=Tm.sizes l
 |x::r,t,h=>by
  simp only[Tm.sizes];rcases Zl.1 h with rfl|h
  ·omega
  ·have:=Tm.zyQ h;omega
theorem Tm.zyN(l r:List Tm):Tm.sizes (l++r)=Tm.sizes l+Tm.sizes r:=by
 induction l with
 |nil=>simp[Tm.sizes]
 |cons x l ih=>simp only[ZJ,Tm.sizes,ih];omega
theorem Tm.zyA(l:List Tm):l.length<=Tm.sizes l:=by
 induction l with
 |nil=>simp
 |cons x l ih=>have:=x.size_pos;simp only[ZF,Tm.sizes];omega
theorem Tm.zyG{l:List Tm}{i:Nat}{t:Tm}(h:l[i]? =some t):Tm.sizes (l.take (i+1))=Tm.sizes (l.take i)+t.size:=by
 rw[zO,h,Tm.zyN];simp[Tm.sizes]
theorem Tm.zyD(l:List Tm)(i:Nat):Tm.sizes (l.take i)<=Tm.sizes l:=by
 have h:=Tm.zyN (l.take i) (l.drop i);rw[zi] at h;omega
theorem Tm.zyC{t u:Tm}(h:u∈t.args):u.size<t.size:=by
 have:=Tm.zyQ h;rw[t.size_eq];omega
theorem Tm.zyE{P:Tm->Prop}(h:∀t:Tm,(∀u∈t.args,P u)->P t)(t:Tm):P t:=by
 have:∀n (t:Tm),t.size<=n->P t:=by
  intro n
  induction n with
  |zero=>intro t ht;have:=t.size_pos;omega
  |succ n ih=>exact fun t ht=>h t fun u hu=>ih u (by have:=Tm.zyC hu;omega)
 exact this _ t (Zc _)
theorem Tm.zyS(l:List Tm):Tm.pvs l=l.map Tm.pv:=by
 induction l with
 |nil=>rfl
 |cons x l ih=>simp[Tm.pvs,ih]
theorem Tm.pvs_get{l:List Tm}{i:Nat}{t:Tm}(h:l[i]? =some t):(Tm.pvs l)[i]? =some t.pv:=by simp[Tm.zyS,h]
theorem Tm.pvs_len(l:List Tm):(Tm.pvs l).length=l.length:=by simp[Tm.zyS]
theorem Tm.zyM(l r:List Tm):Tm.pvs (l++r)=Tm.pvs l++Tm.pvs r:=by simp[Tm.zyS]
theorem Tm.zyB{l:List Tm}{i:Nat}{t:Tm}(h:l[i]? =some t):Tm.pvs (l.take i)++[t.pv]=Tm.pvs (l.take (i+1)):=by
 rw[zO,h,Tm.zyM];rfl
theorem Yk(t:Tm):PV.part deep t.pv 0 none=some (.int .i64 t.kind):=by cases t;rfl
theorem yD(t:Tm):PV.part deep t.pv 1 none=some (.int .i64 t.n):=by cases t;rfl
theorem Yt(t:Tm):PV.part deep t.pv 2 none=some (.str t.name):=by cases t;rfl
theorem Yd(t:Tm):PV.part deep t.pv 3 none=some (.sl (some 4) (Tm.pvs t.args)):=by cases t;rfl
theorem Yh{x:Int}(h: -9223372036854775808<=x)(h':x<9223372036854775808):IntKind.i64.wrap x=x:=by
 rw[IntKind.wrap_i64];omega
end Go.Am
namespace Go.Am
def Tm.node(t:Tm):Bool:=
 if t.kind=0 then decide (0<=t.n) && decide (t.n<=1099511627776) && decide (t.name=[]) && decide ((t.args.length:Int)=0)
 else if t.kind=1 then decide (t.name=[]) && decide ((t.args.length:Int)=0)
 else if t.kind=2 then decide (t.n=0) && decide ((t.name.length:Int)<=100) && decide ((t.args.length:Int)=0)
 else if t.kind=3 then decide (t.n=0) && decide ((t.name.length:Int)<=100) && decide (0<(t.args.length:Int)) && decide ((t.args.length:Int)<=8)
 else false
mutual
def Tm.fits:Tm->Bool
 | .mk k n s azs=>Tm.node (.mk k n s azs) && Tm.fitsAll azs
def Tm.fitsAll:List Tm->Bool
 |[]=>true
 |t::r=>t.fits && Tm.fitsAll r
end
theorem Tm.zyH(t:Tm):t.fits=(t.node && Tm.fitsAll t.args):=by cases t;simp[Tm.fits,Tm.args]
theorem Tm.fitsAll_iff{l:List Tm}:Tm.fitsAll l=true↔∀t∈l,t.fits=true:=by
 induction l with
 |nil=>simp[Tm.fitsAll]
 |cons x l ih=>simp[Tm.fitsAll,ih]
theorem Tm.zyJ(l r:List Tm):Tm.fitsAll (l++r)=(Tm.fitsAll l && Tm.fitsAll r):=by
 induction l with
 |nil=>simp[Tm.fitsAll]
 |cons x l ih=>simp[Tm.fitsAll,ih,Bool.and_assoc]
theorem Tm.zyO{l:List Tm}{i:Nat}{t:Tm}(h:l[i]? =some t):Tm.fitsAll (l.take (i+1))=(Tm.fitsAll (l.take i) && t.fits):=by
 rw[zO,h,Tm.zyJ];simp[Tm.fitsAll]
theorem Tm.zyF{t u:Tm}(h:t.fits=true)(hu:u∈t.args):u.fits=true:=by
 rw[Tm.zyH,Zg] at h;exact Tm.fitsAll_iff.1 h.2 u hu
def Tm.valid(t:Tm):Bool:=decide (t.size<=2000) && t.fits
end Go.Am

/- Functions that run on their caller's heap; loops' heaps. -/
namespace Go.Am
variable{F:FuncId->Option AFn} {prim:FuncId->Option Ym}
theorem yp{f:FuncId}{fn:AFn}{args:List AV}{hp hp':Heap}{v:AV}(hp0:prim f=none)(hf:F f=some fn)(hm:fn.heapMode=true)(hn:args.length=fn.nparams)
  (h:W (sem F prim) (sloop F prim) hp.length fn.code ⟨params 0 args,hp⟩ (endK fn.results (fun v' h'=>v'=v/\(if v.refsIn.all (fun q=>decide (q<hp.length))=true then h'.take hp.length else h')=hp')))(hr:fn.rcv=none:=by rfl)(hmo:fn.more=[]:=by rfl):sem F prim .fn f args hp=some (.ret v,hp'):=by
 rw[XW];unfold Y6;rw[hp0,hf];simp only[hr,hmo,zm,ZM,if_false,hm,if_true,abody,hn,ne_eq,not_true_eq_false,if_false];unfold W at h;split at h
 ·rename_i e st' he;rw[he];cases e with
  |normal=>
   rw[xh] at h;cases hr:Yz st' fn.results with
   |none=>rw[hr] at h;exact h.elim
   |some u=>
    rw[hr] at h;obtain⟨h1,h2⟩:=h;simp only[hr,h1,h2]
  |ret=>
   rw[XX] at h;cases hr:Yz st' fn.results with
   |none=>rw[hr] at h;exact h.elim
   |some u=>
    rw[hr] at h;obtain⟨h1,h2⟩:=h;simp only[hr,h1,h2]
  |exit i=>exact h.elim
  |panic v=>exact h.elim
 ·exact h.elim
theorem Qp{n b:Nat}{fr:Fr}{hp:Heap}(h:hp.length=n):collect n b fr hp=hp:=by
 unfold collect;split
 ·rw[<-h,ZS]
 ·rfl
theorem yY{α:Type}{l r:List α}{i:Nat}(h:i<l.length):(l++r)[i]? =l[i]? :=ZI h
theorem Ma{α:Type}(l:List α)(x:α):(l++[x])[l.length]? =some x:=by simp
theorem uM{α:Type}{l r:List α}{i:Nat}(h:i<l.length)(x:α):(l++r).set i x=l.set i x++r:=by rw[zV _ _ h]
theorem ya{α:Type}{l:List α}{i:Nat}{x:α}(h:l[i]? =some x):i<l.length:=(Zb.1 h).1
end Go.Am
namespace Go.Am
variable{Γ:Oracle} {Λ:Yw} {b:Nat}
end Go.Am

namespace Go.Am
theorem Mb{b:Nat}{fr:Fr}(x:AObj):collect 1 b fr [x]=[x]:=Qp rfl
theorem Mc{b:Nat}{fr:Fr}(x y:AObj):collect 2 b fr [x,y]=[x,y]:=Qp rfl
theorem Md{b:Nat}{fr:Fr}:collect 0 b fr []=[]:=Qp rfl
theorem ky{F:FuncId->Option AFn}{prim:FuncId->Option Ym}{f:FuncId}{p:Ym}(h:prim f=some p)(azs:List AV)(hp:Heap):sem F prim .fn f azs hp=p f azs hp:=by
 rw[XW];unfold Y6;rw[h]
def cmpI(x y:Int):Int:=if x<y then -1 else if y<x then 1 else 0
def Xe(x y:Int):Int:=if x=0 then y else x
mutual
def Tm.cmp:Tm->Tm->Int
 | .mk k n s azs,.mk k' n' s' azs'=>Xe (cmpI k k') (Xe (cmpI n n') (Xe (cmpI azs.length azs'.length) (Xe (Lib.compareBytes s s') (Tm.cmps azs azs'))))
def Tm.cmps:List Tm->List Tm->Int
 |x::r,y::r'=>Xe (x.cmp y) (Tm.cmps r r')
 |_,_=>0
end
theorem Tm.zyZ(a b:Tm):a.cmp b=Xe (cmpI a.kind b.kind) (Xe (cmpI a.n b.n) (Xe (cmpI a.args.length b.args.length) (Xe (Lib.compareBytes a.name b.name) (Tm.cmps a.args b.args)))):=by
 cases a;cases b;rfl
theorem QP(x:Int):cmpI x x=0:=by simp[cmpI]
theorem uN(y:Int):Xe 0 y=y:=rfl
theorem uO{x:Int}(h:x≠0)(y:Int):Xe x y=x:=Za h
theorem Me{x y:Int}:cmpI x y=0↔x=y:=by
 unfold cmpI;split
 ·constructor <;> intro h <;> omega
 ·split <;> constructor <;> intro h <;> omega
theorem Tm.zyU{l r:List Tm}{i:Nat}{x y:Tm}(h:l[i]? =some x)(h':r[i]? =some y):Tm.cmps (l.drop i) (r.drop i)=Xe (x.cmp y) (Tm.cmps (l.drop (i+1)) (r.drop (i+1))):=by
 obtain⟨h1,rfl⟩:=Zb.1 h;obtain⟨h2,rfl⟩:=Zb.1 h';rw[zC h1,zC h2,Tm.cmps]
end Go.Am

namespace Go.Am
theorem Tm.zyL(l:List Tm):Tm.cmps [] l=0:=by simp[Tm.cmps]
end Go.Am

namespace Go.Am
def Kept(p:Prop):Prop:=p
theorem Kept.out{p:Prop}(h:Kept p):p:=h
theorem Kept.mk{p:Prop}(h:p):Kept p:=h
end Go.Am
namespace Go.Am
theorem XF{F:FuncId->Option AFn}{prim:FuncId->Option Ym}{f:FuncId}{fn:AFn}{args:List AV}{ps:List (Sh × PV)}{hp hp1 hp2:Heap}{v:AV}(hp0:prim f=none)(hf:F f=some fn)(hm:fn.heapMode=false)(hz:Yp args hp=some (ps,hp1))
  (h:sem F prim .fn f (pvs ps) []=some (.ret v,hp2))(hr:fn.rcv=none:=by rfl):sem F prim .fn f args hp=some (.ret v,bif v.scalar then hp else hp1):=by
 rw[XW] at h ⊢;unfold Y6 at h ⊢;rw[hp0,hf] at h ⊢;simp only[hr,zm,hm,ZM,if_false,hz,z8] at h ⊢;split at h
 ·split at h
  ·cases h;simp_all
  ·cases h
 ·cases h
 ·cases h
end Go.Am

namespace Go.Am
theorem uP{k:IntKind}(hk:0<k.bits)(x:Int):yU .shr k x 1=some (.int k (x / 2)):=by
 have h1:Nat.min (1:Int).toNat k.bits=1:=Z4 hk;simp only[yU,h1];rw[Za (by decide),Int.fdiv_eq_ediv_of_nonneg _ (by decide)];rfl
end Go.Am

namespace Go.Am
theorem Mf{sh s s':Sh}{k:IntKind}{es:List PV}{p:PV}(h:es[0]? =some p):Yq sh [.pv s (.sl sh es),.pv s' (.int k 0)]=some (.iptr sh p 0):=by
 simp[Yq,aindex,h]
end Go.Am

namespace Go.Am
end Go.Am

namespace Go.Am
attribute [go_sem] Md Mb Mc
end Go.Am

/- Every datum of plain types is a value; terms. -/
namespace Go.Am
variable{P:Program} {H:Type} {enc:TypeId × Value->H} {w:World}

def uQ(P:Program)(ts:List TypeId)(t:TypeId):Bool:=
 okT P t && match P.underlying t with
 |some .bool=>true
 |some (.int _)=>true
 |some .string=>true
 |some (.slice e)=>ts.contains e && okT P e
 |some (.struct fs)=>fs.toList.all (fun f=>ts.contains f.type) && QM P (P.cellsOf t) 0 fs.toList
 |_=>false
def uR(P:Program)(ts:List TypeId):Bool:=ts.all (uQ P ts)

theorem uT{f:DataW H->Option PV}{g:Nat->Option (DataW H × List MemPlace)}(hg:∀i d ps,g i=some (d,ps)->∃p,f d=some p):∀(is:List Nat) (xs:List (DataW H × List MemPlace)),is.mapM g=some xs->∃l,xg f (xs.map (·.1))=some l
 |[],xs,h=>by simp at h;subst h;exact⟨[],rfl⟩
 |i::r,xs,h=>by
  rw[List.mapM_cons] at h;cases ha:g i with
  |none=>rw[ha] at h;cases h
  |some y=>
   rw[ha] at h;cases hr:r.mapM g with
   |none=>rw[hr] at h;cases h
   |some ys=>
    rw[hr] at h;cases h;obtain⟨l,hl⟩:=uT hg r ys hr;obtain⟨p,hp⟩:=hg i y.1 y.2 ha;exact⟨p::l,by simp[xg,hp,hl]⟩
theorem uU{f:TypeId->DataW H->Option PV}{g:Field->Option (DataW H × List MemPlace)}:∀(fs:List Field) (xs:List (DataW H × List MemPlace)),(∀fd∈fs,∀d ps,g fd=some (d,ps)->∃p,f fd.type d=some p)->fs.mapM g=some xs->∃l,xf P f fs (xs.map (·.1))=some l
 |[],xs,_,h=>by simp at h;subst h;exact⟨[],rfl⟩
 |fd::r,xs,hg,h=>by
  rw[List.mapM_cons] at h;cases ha:g fd with
  |none=>rw[ha] at h;cases h
  |some y=>
   rw[ha] at h;cases hr:r.mapM g with
   |none=>rw[hr] at h;cases h
   |some ys=>
    rw[hr] at h;cases h;obtain⟨l,hl⟩:=uU r ys (fun fd h=>hg fd (by simp[h])) hr;obtain⟨p,hp⟩:=hg fd (by simp) y.1 y.2 ha;exact⟨(shOf P fd.type,p)::l,by simp[xf,hp,hl]⟩

theorem Mg{ts:List TypeId}(hc:uR P ts=true){base:Nat}{spare:Nat->Bool}{held:Bool}:∀(fuel:Nat) (t:TypeId) (cs:List Value) (d:DataW H) (ps:List MemPlace),t∈ts->DataW.trod enc P w base spare held fuel t cs=some (d,ps)->∃p,XC P fuel t d=some p:=by
 intro fuel
 induction fuel with
 |zero=>intro t cs d ps _ h;cases h
 |succ fuel ih=>
  intro t cs d ps ht h;have hp:=Zm.1 hc t ht;unfold uQ at hp;rw[Zg] at hp;have hp:=hp.2;unfold DataW.trod at h;unfold XC;cases hu:P.underlying t with
  |none=>rw[hu] at hp;cases hp
  |some u=>
   rw[hu] at hp h;cases u with
   |bool=>
    simp only at h;split at h <;> first|contradiction|(exfalso;clear ih;simp_all;done)|skip
    ·cases h;exact⟨_,rfl⟩
   |int k=>
    simp only at h;split at h <;> first|contradiction|(exfalso;clear ih;simp_all;done)|skip
    ·rename_i e;split at h
     ·rename_i e2;obtain⟨e2,e3⟩:=e2;subst e2;cases h;cases e;exact⟨_,by simp[e3];rfl⟩
     ·cases h
   |string=>
    simp only at h;split at h <;> first|contradiction|(exfalso;clear ih;simp_all;done)|skip
    ·split at h
     ·cases h;exact⟨_,rfl⟩
     ·cases h
   |slice e=>
    simp only[Zg,List.contains_iff_mem] at hp;simp only at h;split at h <;> first|contradiction|(exfalso;clear ih;simp_all;done)|skip
    ·cases h;exact⟨_,rfl⟩
    ·rename_i e' a len cap hx;cases hx;split at h
     ·rw[Option.bind_eq_some_iff] at h;obtain⟨elems,hm,h⟩:=h;rw[ZL] at h;obtain⟨rest,hr,h⟩:=h;cases h;obtain⟨l,hl⟩:=uT (f:=XC P fuel e) (fun i d ps hg=>by
       rw[Option.bind_eq_some_iff] at hg;obtain⟨c,_,hg⟩:=hg;exact ih e c d ps hp.1 hg) _ _ hm
      exact⟨_,by simp[hp.2,hl];rfl⟩
     ·cases h
   |struct fs=>
    simp only[Zg] at hp;simp only at h;split at h <;> first|contradiction|(exfalso;clear ih;simp_all;done)|skip
    ·rw[ZL] at h;obtain⟨xs,hm,h⟩:=h;cases h;obtain⟨l,hl⟩:=uU (P:=P) (f:=XC P fuel) fs.toList xs (fun fd hfd d ps hg=>by
      have:=Zm.1 hp.1 fd hfd;rw[List.contains_iff_mem] at this;exact ih fd.type _ d ps this hg) hm
     exact⟨_,by simp[hp.2,hl];rfl⟩
   |_=>cases hp

structure BulkLaws(bulk:DataW H->Nat)(all:List (DataW H)->Nat):Prop where
 nil:all []=0
 cons:∀d r,all (d::r)=bulk d+all r
 slice:∀e s,bulk (.slice e s)=all e+all s+1
 agg:∀l,bulk (.agg l)=all l+1
 string:∀l,bulk (.lit (.string l))=l.length+1

structure TermTy(P:Program)(tA tT:TypeId):Prop where
 a:P.underlying tA=some (.slice tT)
 t:∃fs tI tL tS,P.underlying tT=some (.struct fs)/\fs.toList.map (·.type)=[tI,tL,tS,tA]/\P.underlying tI=some (.int .i64)/\P.underlying tL=some (.int .i64)/\P.underlying tS=some .string/\shOf P tT=some 4/\shOf P tA=none/\shOf P tI=none/\shOf P tL=none/\shOf P tS=none

def QQ(n:Int):Prop:= -9223372036854775808<=n/\n<=9223372036854775807
mutual
def Tm.rng:Tm->Prop
 | .mk k n _ azs=>QQ k/\QQ n/\Tm.rngs azs
def Tm.rngs:List Tm->Prop
 |[]=>True
 |t::r=>t.rng/\Tm.rngs r
end
theorem uV{n:Int}(h:(Lit.int .i64 n).wf=true):QQ n:=by
 simpa[Lit.wf,IntKind.min,IntKind.max,IntKind.signed,IntKind.bits,QQ] using h

end Go.Am

/- Data by their types: what a value of a plain type looks like, and how much it holds. -/
namespace Go.Am
variable{P:Program} {H:Type} {enc:TypeId × Value->H} {w:World}

mutual
def PV.sz:PV->Nat
 | .str s=>s.length+1
 | .agg l=>PV.szc l+1
 | .sl _ es=>PV.szs es+1
 |_=>1
def PV.szc:List (Sh × PV)->Nat
 |[]=>0
 |x::r=>PV.sz x.2+PV.szc r
def PV.szs:List PV->Nat
 |[]=>0
 |x::r=>PV.sz x+PV.szs r
end
def qP(P:Program)(f:TypeId->PV->Prop):List Field->List (Sh × PV)->Prop
 |[],[]=>True
 |fd::r,x::l=>x.1=shOf P fd.type/\f fd.type x.2/\qP P f r l
 |_,_=>False
def wt(P:Program):Nat->TypeId->PV->Prop
 |0,_,_=>False
 |n+1,t,p=>match P.underlying t with
  |some .bool=>∃b,p=.bool b
  |some (.int k)=>∃x,p=.int k x/\(Lit.int k x).wf=true
  |some .string=>∃s,p=.str s
  |some (.slice e)=>∃es,p=.sl (shOf P e) es/\∀x∈es,wt P n e x
  |some (.struct fs)=>∃l,p=.agg l/\qP P (wt P n) fs.toList l
  |_=>False

structure BulkLaws2(bulk:DataW H->Nat)(all:List (DataW H)->Nat):Prop extends BulkLaws bulk all where
 one:∀d,1<=bulk d

theorem uW{bulk:DataW H->Nat}{all:List (DataW H)->Nat}(hb:BulkLaws2 bulk all){f:DataW H->Option PV}{R:PV->Prop}(hf:∀d p,f d=some p->R p/\p.sz<=bulk d):∀(ds:List (DataW H)) (l:List PV),xg f ds=some l->(∀x∈l,R x)/\PV.szs l<=all ds
 |[],l,h=>by cases h;exact⟨fun x hx=>(by cases hx),Ze _⟩
 |d::ds,l,h=>by
  simp only[xg] at h;split at h
  ·cases h
  ·rename_i p hp;split at h
   ·rename_i l' hl;cases h;obtain⟨h1,h2⟩:=hf d p hp;obtain⟨h3,h4⟩:=uW hb hf ds l' hl;refine⟨fun x hx=> ?_,by rw[hb.cons];simp only[PV.szs];omega⟩;rcases Zl.1 hx with rfl|hx
    ·exact h1
    ·exact h3 x hx
   ·cases h
theorem uX{bulk:DataW H->Nat}{all:List (DataW H)->Nat}(hb:BulkLaws2 bulk all){f:TypeId->DataW H->Option PV}{R:TypeId->PV->Prop}(hf:∀t d p,f t d=some p->R t p/\p.sz<=bulk d):∀(fs:List Field) (ds:List (DataW H)) (l:List (Sh × PV)),xf P f fs ds=some l->qP P R fs l/\PV.szc l<=all ds
 |[],ds,l,h=>by
  cases ds with
  |nil=>cases h;exact⟨trivial,Ze _⟩
  |cons d r=>cases h
 |fd::fs,ds,l,h=>by
  cases ds with
  |nil=>cases h
  |cons d r=>
   simp only[xf] at h;split at h
   ·cases h
   ·rename_i p hp;split at h
    ·rename_i l' hl;cases h;obtain⟨h1,h2⟩:=hf fd.type d p hp;obtain⟨h3,h4⟩:=uX hb hf fs r l' hl;exact⟨⟨rfl,h1,h3⟩,by rw[hb.cons];simp only[PV.szc];omega⟩
    ·cases h
theorem uY{bulk:DataW H->Nat}{all:List (DataW H)->Nat}(hb:BulkLaws2 bulk all):∀(n:Nat) (t:TypeId) (d:DataW H) (p:PV),XC P n t d=some p->wt P n t p/\p.sz<=bulk d
 |0,t,d,p,h=>by cases h
 |n+1,t,d,p,h=>by
  have ih:=fun t d p=>uY hb n t d p;have one:=hb.one d;unfold XC at h;unfold wt;cases hu:P.underlying t with
  |none=>rw[hu] at h;cases h
  |some u=>
   rw[hu] at h;cases u with
   |bool=>
    cases d with
    |lit l=>cases l <;> first|(cases h;done)|(cases h;exact⟨⟨_,rfl⟩,one⟩)
    |_=>cases h
   |int k=>
    cases d with
    |lit l=>
     cases l with
     |int k' x=>
      simp only at h;split at h
      ·rename_i hw;cases h;obtain⟨e,hw⟩:=hw;subst e;exact⟨⟨x,rfl,hw⟩,one⟩
      ·cases h
     |_=>cases h
    |_=>cases h
   |string=>
    cases d with
    |lit l=>
     cases l with
     |string s=>cases h;exact⟨⟨_,rfl⟩,by rw[hb.string];exact Zc _⟩
     |_=>cases h
    |_=>cases h
   |slice e=>
    cases d with
    |nil=>cases h;exact⟨⟨[],rfl,fun x hx=>(by cases hx)⟩,one⟩
    |slice es sp=>
     simp only at h;split at h
     ·split at h
      ·rename_i l hl;cases h;obtain⟨h1,h2⟩:=uW hb (ih e) es l hl;exact⟨⟨l,rfl,h1⟩,by rw[hb.slice];simp only[PV.sz];omega⟩
      ·cases h
     ·cases h
    |lit l=>cases l <;> cases h
    |_=>cases h
   |struct fs=>
    cases d with
    |agg parts=>
     simp only at h;split at h
     ·split at h
      ·rename_i l hl;cases h;obtain⟨h1,h2⟩:=uX hb ih fs.toList parts l hl;exact⟨⟨l,rfl,h1⟩,by rw[hb.agg];simp only[PV.sz];omega⟩
      ·cases h
     ·cases h
    |lit l=>cases l <;> cases h
    |_=>cases h
   |_=>cases d <;> first|(cases h;done)|(rename_i l;cases l <;> cases h)

theorem uZ{n:Nat}{tT:TypeId}(hT:∀p,wt P n tT p->∃t:Tm,p=t.pv/\t.rng):∀(es:List PV),(∀x∈es,wt P n tT x)->∃l:List Tm,es=Tm.pvs l/\Tm.rngs l
 |[],_=>⟨[],rfl,trivial⟩
 |x::r,h=>by
  obtain⟨t,rfl,h1⟩:=hT x (h x (by simp));obtain⟨l,rfl,h2⟩:=uZ hT r fun y hy=>h y (by simp[hy]);exact⟨t::l,rfl,h1,h2⟩
theorem kz{tA tT:TypeId}(hT:TermTy P tA tT):∀(n:Nat),(∀p,wt P n tT p->∃t:Tm,p=t.pv/\t.rng)/\(∀p,wt P n tA p->∃l:List Tm,p=.sl (some 4) (Tm.pvs l)/\Tm.rngs l)
 |0=>⟨fun p h=>h.elim,fun p h=>h.elim⟩
 |n+1=>by
  obtain⟨ih1,ih2⟩:=kz hT n;obtain⟨hA,fs,tI,tL,tS,hS,hf,hI,hL,hSt,s1,s2,s3,s4,s5⟩:=hT;constructor
  ·intro p h;unfold wt at h;rw[hS] at h;obtain⟨l,rfl,h⟩:=h;obtain⟨f1,f2,f3,f4,hfs⟩:∃f1 f2 f3 f4:Field,fs.toList=[f1,f2,f3,f4]:=by
    match hx:fs.toList,hf with
    |[a,b,c,d],_=>exact⟨a,b,c,d,rfl⟩
   rw[hfs] at hf h;simp only[ZX,List.map_nil,List.cons.injEq,and_true] at hf;obtain⟨e1,e2,e3,e4⟩:=hf
   match l,h with
   |[x1,x2,x3,x4],h=>
    simp only[qP,e1,e2,e3,e4,s2,s3,s4,s5,and_true] at h;obtain⟨a1,b1,a2,b2,a3,b3,a4,b4⟩:=h;have i64:∀(ty:TypeId) (p:PV),P.underlying ty=some (.int .i64)->wt P n ty p->∃x,p=.int .i64 x/\QQ x:=by
     intro ty p hty hp;cases n with
     |zero=>exact hp.elim
     |succ n=>
      unfold wt at hp;rw[hty] at hp;obtain⟨x,rfl,hx⟩:=hp;exact⟨x,rfl,uV hx⟩
    obtain⟨y1,e1',g1⟩:=i64 tI x1.2 hI b1;obtain⟨y2,e2',g2⟩:=i64 tL x2.2 hL b2;obtain⟨s,e3'⟩:∃s,x3.2=.str s:=by
     cases n with
     |zero=>exact b3.elim
     |succ n=>
      unfold wt at b3;rw[hSt] at b3;exact b3
    obtain⟨ts,e4',k⟩:=ih2 x4.2 b4;refine⟨.mk y1 y2 s ts,?_,g1,g2,k⟩;obtain⟨_,_⟩:=x1;obtain⟨_,_⟩:=x2;obtain⟨_,_⟩:=x3;obtain⟨_,_⟩:=x4;simp only at a1 a2 a3 a4 e1' e2' e3' e4';subst a1 a2 a3 a4 e1' e2' e3' e4';rfl
  ·intro p h;unfold wt at h;rw[hA] at h;obtain⟨es,rfl,h⟩:=h;obtain⟨l,rfl,h1⟩:=uZ ih1 es h;exact⟨l,by rw[s1],h1⟩
mutual
theorem Tm.zyW:∀t:Tm,t.size<=t.pv.sz
 | .mk k n s azs=>by
  have:=Tm.zyV azs;simp only[Tm.size,Tm.pv,PV.sz,PV.szc];omega
theorem Tm.zyV:∀l:List Tm,Tm.sizes l<=PV.szs (Tm.pvs l)
 |[]=>Ze _
 |t::r=>by
  have h1:=Tm.zyW t;have h2:=Tm.zyV r;simp only[Tm.sizes,Tm.pvs,PV.szs];omega
end
end Go.Am

/- Flat clauses azs plain data. -/
namespace Go.Am
structure Pr where
 name:List UInt8
 arity:Int
 aux:Int
structure Gl where
 kind:Int
 pred:Pr
 args:List Tm
 var:Int
structure Fl where
 pred:Pr
 args:List Tm
 goals:List Gl
def Pr.pv(p:Pr):PV:=.agg [(none,.str p.name),(none,.int .i64 p.arity),(none,.int .i64 p.aux)]
def Gl.pv(g:Gl):PV:=.agg [(none,.int .i64 g.kind),(some 3,g.pred.pv),(none,.sl (some 4) (Tm.pvs g.args)),(none,.int .i64 g.var)]
def Gl.pvs(l:List Gl):List PV:=l.map Gl.pv
def Fl.pv(f:Fl):PV:=.agg [(some 3,f.pred.pv),(none,.sl (some 4) (Tm.pvs f.args)),(none,.sl (some 6) (Gl.pvs f.goals))]
def Fl.av(f:Fl):AV:=.pv (some 5) f.pv
def Pr.ok(p:Pr):Bool:=
 if p.aux=0 then decide ((p.name.length:Int)<=100) && decide (0<=p.arity) && decide (p.arity<=8)
 else decide (p.name=[]) && decide (1<=p.aux) && decide (p.aux<=1099511627776) && decide (0<=p.arity) && decide (p.arity<=4096)
def Pr.zero(p:Pr):Bool:=decide (p.name=[]) && decide (p.arity=0) && decide (p.aux=0)
def kC(left:Int):List Tm->Bool × Int
 |[]=>(true,left)
 |t::r=>if t.valid=true then if left - t.size<0 then(false,left - t.size) else kC (left - t.size) r else(false,left)
def Gl.bare(g:Gl):Bool:=g.pred.zero && decide ((g.args.length:Int)=0)
def Gl.step(called:Bool)(left:Int)(g:Gl):Option (Bool × Int):=
 if g.kind=1 then
  if(g.pred.ok && decide ((g.args.length:Int)=g.pred.arity) && decide (g.var=0))=true then match kC left g.args with
   |(true,l)=>some (true,l)
   |_=>none
  else none
 else if g.kind=2 then if(g.bare && decide (0<=g.var) && decide (g.var<=1099511627776) && !called)=true then some (called,left) else none
 else if g.kind=3\/g.kind=4 then if(g.bare && decide (0<=g.var) && decide (g.var<=1099511627776))=true then some (called,left) else none
 else if g.kind=5 then if(g.bare && decide (g.var=0))=true then some (called,left) else none
 else none
def Gl.steps:Bool->Int->List Gl->Bool
 |_,_,[]=>true
 |called,left,g::r=>match g.step called left with
  |some (c,l)=>Gl.steps c l r
  |none=>false
def Fl.valid(f:Fl):Bool:=
 f.pred.ok && decide ((f.args.length:Int)=f.pred.arity) && match kC 131072 f.args with
  |(true,l)=>Gl.steps false l f.goals
  |_=>false

theorem yb{t:Tm}(h:t.valid=true):t.size<=2000:=by
 unfold Tm.valid at h;simp only[Zg,Zr] at h;exact h.1
end Go.Am
namespace Go.Am
theorem xi(r o:Nat):xX [.ptr r o]=some (.ptr r o):=rfl
end Go.Am
namespace Go.Am
end Go.Am
namespace Go.Am
theorem Gl.pvs_len(l:List Gl):(Gl.pvs l).length=l.length:=by simp[Gl.pvs]
theorem Gl.pvs_get{l:List Gl}{i:Nat}{g:Gl}(h:l[i]? =some g):(Gl.pvs l)[i]? =some g.pv:=by simp[Gl.pvs,h]
end Go.Am
namespace Go.Am
end Go.Am
namespace Go.Am
end Go.Am
namespace Go.Am
mutual
def Tm.occ:Tm->List Int
 | .mk k n _ azs=>if k=0 then[n] else Tm.occs azs
def Tm.occs:List Tm->List Int
 |[]=>[]
 |t::r=>t.occ++Tm.occs r
end
theorem Tm.zyI(t:Tm):t.occ=if t.kind=0 then[t.n] else Tm.occs t.args:=by cases t;rfl
theorem Tm.zyR(x y:List Tm):Tm.occs (x++y)=Tm.occs x++Tm.occs y:=by
 induction x with
 |nil=>simp[Tm.occs]
 |cons t r ih=>simp[Tm.occs,ih,Zw]
theorem Tm.zyK{l:List Tm}{i:Nat}{t:Tm}(h:l[i]? =some t):Tm.occs (l.take (i+1))=Tm.occs (l.take i)++t.occ:=by
 obtain⟨h1,rfl⟩:=Zb.1 h;rw[List.take_succ_eq_append_getElem h1,Tm.zyR];simp[Tm.occs]
theorem Tm.occ_len:∀t:Tm,t.occ.length<=t.size:=by
 intro t
 induction t using Tm.zyE with
 |h t ih=>
  rw[Tm.zyI,Tm.size_eq];split
  ·simp
  ·have key:∀l:List Tm,(∀u∈l,u.occ.length<=u.size)->(Tm.occs l).length<=Tm.sizes l:=by
    intro l
    induction l with
    |nil=>intro _;simp[Tm.occs]
    |cons u r ih2=>
     intro hu;have h1:=hu u (by simp);have h2:=ih2 fun v hv=>hu v (by simp[hv]);simp only[Tm.occs,Tm.sizes,Zi];omega
   have:=key t.args ih;omega
end Go.Am
namespace Go.Am
def Gl.op(g:Gl):Bool:=decide (g.kind=2) || decide (g.kind=3) || decide (g.kind=4)
def Gl.next(calls:Int)(g:Gl):Int:=if g.kind=1 then calls+1 else calls
theorem Tm.zyP(l:List Tm):(Tm.occs l).length<=Tm.sizes l:=by
 induction l with
 |nil=>simp[Tm.occs]
 |cons x y ih=>have:=x.occ_len;simp only[Tm.occs,Tm.sizes,Zi];omega
end Go.Am

/- Structs and lists out of data. -/
namespace Go.Am
variable{P:Program}
def u0(P:Program)(t:TypeId):Option (List TypeId):=
 match P.underlying t with
 |some (.struct fs)=>some (fs.toList.map (·.type))
 |_=>none
def u5(P:Program)(t:TypeId):Bool:=match P.underlying t with|some (.int .i64)=>true|_=>false
def u6(P:Program)(t:TypeId):Bool:=match P.underlying t with|some .string=>true|_=>false
def u7(P:Program)(t:TypeId):Bool:=match P.underlying t with|some .bool=>true|_=>false
def isSl(P:Program)(t e:TypeId):Bool:=match P.underlying t with|some (.slice x)=>x == e|_=>false
def QR(P:Program)(m:Nat):List TypeId->List (Sh × PV)->Prop
 |[],[]=>True
 |t::ts,x::l=>x.1=shOf P t/\wt P m t x.2/\QR P m ts l
 |_,_=>False
theorem u9{m:Nat}:∀(fs:List Field) (l:List (Sh × PV)),qP P (wt P m) fs l->QR P m (fs.map (·.type)) l
 |[],[],_=>trivial
 |[],_::_,h=>h.elim
 |_::_,[],h=>h.elim
 |fd::r,x::l,h=>⟨h.1,h.2.1,u9 r l h.2.2⟩
theorem ja{n:Nat}{t:TypeId}{p:PV}{ts:List TypeId}(h:u0 P t=some ts)(hw:wt P n t p):∃m l,p=.agg l/\QR P m ts l:=by
 cases n with
 |zero=>exact hw.elim
 |succ n=>
  unfold wt at hw;unfold u0 at h;split at h
  ·rename_i fs hfs;rw[hfs] at hw;obtain⟨l,rfl,hl⟩:=hw;cases h;exact⟨n,l,rfl,u9 _ _ hl⟩
  ·cases h
theorem jb{m:Nat}{l:List (Sh × PV)}(h:QR P m [] l):l=[]:=by
 cases l with
 |nil=>rfl
 |cons x l=>exact h.elim
theorem XY{m:Nat}{t:TypeId}{ts:List TypeId}{l:List (Sh × PV)}(h:QR P m (t::ts) l):∃q r,l=(shOf P t,q)::r/\wt P m t q/\QR P m ts r:=by
 cases l with
 |nil=>exact h.elim
 |cons x l=>obtain⟨h1,h2,h3⟩:=h;exact⟨x.2,l,by rw[<-h1],h2,h3⟩
theorem kD{n:Nat}{t:TypeId}{p:PV}(h:u5 P t=true)(hw:wt P n t p):∃x,p=.int .i64 x/\QQ x:=by
 cases n with
 |zero=>exact hw.elim
 |succ n=>
  unfold wt at hw;unfold u5 at h;split at h
  ·rename_i hu;rw[hu] at hw;obtain⟨x,rfl,hx⟩:=hw;exact⟨x,rfl,uV hx⟩
  ·cases h
theorem Ga{n:Nat}{t:TypeId}{p:PV}(h:u6 P t=true)(hw:wt P n t p):∃x,p=.str x:=by
 cases n with
 |zero=>exact hw.elim
 |succ n=>
  unfold wt at hw;unfold u6 at h;split at h
  ·rename_i hu;rw[hu] at hw;exact hw
  ·cases h
theorem Mh{n:Nat}{t:TypeId}{p:PV}(h:u7 P t=true)(hw:wt P n t p):∃x,p=.bool x:=by
 cases n with
 |zero=>exact hw.elim
 |succ n=>
  unfold wt at hw;unfold u7 at h;split at h
  ·rename_i hu;rw[hu] at hw;exact hw
  ·cases h
theorem jc{n:Nat}{t e:TypeId}{p:PV}(h:isSl P t e=true)(hw:wt P n t p):∃m es,p=.sl (shOf P e) es/\∀x∈es,wt P m e x:=by
 cases n with
 |zero=>exact hw.elim
 |succ n=>
  unfold wt at hw;unfold isSl at h;split at h
  ·rename_i hu;rw[hu] at hw;rw[beq_iff_eq] at h;subst h;obtain⟨es,h1,h2⟩:=hw;exact⟨n,es,h1,h2⟩
  ·cases h
theorem je{α:Type}{f:α->PV}{Q:α->Prop}:∀(es:List PV),(∀x∈es,∃a,x=f a/\Q a)->∃l:List α,es=l.map f/\∀a∈l,Q a
 |[],_=>⟨[],rfl,fun x hx=>(by cases hx)⟩
 |x::r,h=>by
  obtain⟨y,rfl,hy⟩:=h x (by simp);obtain⟨l,rfl,hl⟩:=je r fun z hz=>h z (by simp[hz]);refine⟨y::l,rfl,fun z hz=> ?_⟩;rcases Zl.1 hz with rfl|hz
  ·exact hy
  ·exact hl z hz
end Go.Am
