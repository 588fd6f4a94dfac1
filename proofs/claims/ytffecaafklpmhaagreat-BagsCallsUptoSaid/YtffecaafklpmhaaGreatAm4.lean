/- What is proved: the abstract machine says true of the model (part 4). No conditions beside those that each theorem names. -/
import Derived.Test.YtffecaafklpmhaaGreatAm3
import Derived.Lib.Bytealg
import Derived.ProofKit
import Derived.OpenShut
import Derived.JoinedCond
import Derived.Test.YtffecaafklpmhaaGreatAm2
import Derived.Laws.CopyRow
import Derived.Lib.Overlaps
import Derived.WalkKit
set_option linter.unusedSimpArgs false
set_option linter.unusedVariables false
/- Calls; the whole. -/
namespace Go.Am
variable{P:Program} {w:World} {X:Xc P} {μ:Nat->Option Nat} {hp:Heap}

theorem UM{F:FuncId->Option AFn}{prim:FuncId->Option Ys}{Γ:Oracle}{Λ:Yy}(hmix:P.follows .mixedOrders=true)(hF:Qw P F)(hP:xL P prim)(hΓ:SoundO P Γ)(hΛ:∀nt c ac,Tr P nt c ac->xj P nt Λ c ac){f:FuncId}{args:List AV}{r:ARes}{hp':Heap}{vs:List Value}
  (h:yq F prim Γ Λ f args hp=some (r,hp'))(hH:HR w X μ hp)(hl:LR w X μ hp args vs):Called P f vs.toArray w (Xn hp.length w X μ hp r hp'):=by
 unfold yq at h;split at h
 ·exact hP _ _ ‹_› _ _ _ _ h w X μ vs hH hl
 ·split at h
  ·cases h
  ·rename_i fn hfn;obtain⟨fnc,hf,ht⟩:=hF f fn hfn;split at h
   ·cases h
   rename_i hrc;have hrcv:fn.rcv=none:=by
    cases hr:fn.rcv with
    |none=>rfl
    |some t=>rw[hr] at hrc;exact absurd rfl hrc
   have bs:∀{args:List AV} {hp:Heap} {w:World} {X:Xc P} {μ:Nat->Option Nat} {r:ARes} {hp':Heap} {vs:List Value},abody Γ Λ fn args hp=some (r,hp')->HR w X μ hp->LR w X μ hp args vs->Called P f vs.toArray w (Xn hp.length w X μ hp r hp'):=fun h hH hl=>.inl (d6 hmix hΓ hΛ hf ht hrcv h hH hl);split at h
   ·-- on the caller's heap
    split at h
    ·rename_i v hp2 hb;cases h;refine(bs hb hH hl).mono fun e w' hR=> ?_;cases e with
     |returned u=>
      obtain⟨μ',v2,e1,g1,g2,g3⟩:=hR;cases e1;split
      ·rename_i hc;simp only[Zo,Zz] at hc;exact⟨μ',v,rfl,g1.take fun i o hi ho q hq=>(hH.own.ext (Zi _) g2) i o hi ho q hq,g2.take (Zi _),g3.take hc⟩
      ·exact⟨μ',v,rfl,g1,g2,g3⟩
     |panicked c=>obtain⟨μ',p,v',e1,_⟩:=hR;cases e1
     |outgrown=>exact hR
    ·rename_i v hp2 hb;cases h;refine(bs hb hH hl).mono fun e w' hR=> ?_;cases e with
     |returned u=>obtain⟨μ',v2,e1,_⟩:=hR;cases e1
     |panicked c=>
      obtain⟨μ',p,v',e1,e2,g1,g2,g3⟩:=hR;cases e1;exact⟨μ',v,v',rfl,e2,g1.take fun i o hi ho q hq=>(hH.own.ext (Zi _) g2) i o hi ho q hq,g2.take (Zi _),g3.take (fun q hq=>by simp[AV.refsIn] at hq)⟩
     |outgrown=>exact hR
    ·cases h
   ·-- on a heap of its own
    split at h
    ·cases h
    ·rename_i ps hp1 hfz;obtain⟨e1,h1,hCP⟩:=qJ hp.length _ _ _ _ _ hfz hH hl;split at h
     ·rename_i v hp2 hb;split at h
      ·rename_i v' hp3 hfr;cases h;refine(bs hb h1.empty hCP.empty.lr).mono fun e w' hR=> ?_;cases e with
       |returned u=>
        obtain⟨μ',v2,e2,g1,g2,g3⟩:=hR;cases e2;cases hsc:v'.scalar with
        |true=>
         obtain⟨k1,k2⟩:=back (b:=hp.length) hH g2;exact⟨μ,v',rfl,k1,k2,(UI hfr g1 g3).scalar hsc⟩
        |false=>
         obtain⟨k1,k2⟩:=back (b:=hp.length) h1 g2;exact⟨μ,v',rfl,k1,e1.trans k2,UI hfr g1 g3⟩
       |panicked c=>obtain⟨μ',p,v',e1,_⟩:=hR;cases e1
       |outgrown=>exact hR
      ·cases h
     ·rename_i v hp2 hb;cases h;refine(bs hb h1.empty hCP.empty.lr).mono fun e w' hR=> ?_;cases e with
      |returned u=>obtain⟨μ',v2,e1,_⟩:=hR;cases e1
      |panicked c=>
       obtain⟨μ',p,v',e2,e3,g1,g2,g3⟩:=hR;cases e2;obtain⟨k1,k2⟩:=back (b:=hp.length) h1 g2;refine⟨μ,v,v',rfl,e3,k1,e1.trans k2,?_⟩;cases g3 with|pv _ _ _ hs hq=>exact .pv _ _ _ hs (hq.mono fun _ _ _ _ hI hb=>⟨JS hI,hb⟩)
      |outgrown=>exact hR
     ·cases h

theorem Eg{F:FuncId->Option AFn}{prim:FuncId->Option Ys}{Γ:Oracle}{Λ:Yy}(hmix:P.follows .mixedOrders=true)(hF:Qw P F)(hP:xL P prim)(hΓ:SoundO P Γ)(hΛ:∀nt c ac,Tr P nt c ac->xj P nt Λ c ac):SoundO P (acall F prim Γ Λ) where
 fn f args hp r hp' h w X μ vs hH hl:=UM hmix hF hP hΓ hΛ h hH hl
 seq f args hp r hp' h w X μ vs hH hl:=by
  have h:(if(F f).isSome=true then yq F prim Γ Λ f args hp else none)=some (r,hp'):=h;split at h
  ·rename_i hs;have hC:=UM hmix hF hP hΓ hΛ h hH hl;cases hfn:F f with
   |none=>rw[hfn] at hs;cases hs
   |some fn=>
    obtain⟨fnc,c1,c2⟩:=hF f fn hfn;obtain⟨c,d1,_,_,d4,_⟩:=J4 c2;have hent:=qT (w:=w) (args:=vs.toArray) c1 d1 d4;rcases hC with⟨h1,h2⟩|⟨v,w',h1,_⟩
    ·exact⟨h1,h2⟩
    ·rw[hent] at h1;cases h1
  ·cases h
 rnd f q as hp v hp' ps env h hq w X μ vs l rc hH hl hm hrc:=d9 hmix hF hΓ hΛ h hq hH hl hm hrc
 dfr g p as hp r hp' h w X μ vs u hH hl hu:=Ee hmix hF hΓ hΛ h hH hl hu

theorem Q4{F:FuncId->Option AFn}{prim:FuncId->Option Ys}(hmix:P.follows .mixedOrders=true)(hF:Qw P F)(hP:xL P prim):∀n,SoundO P (asem F prim n)
 |0=>⟨fun _ _ _ _ _ h=>(by cases h),fun _ _ _ _ _ h=>(by cases h),fun _ _ _ _ _ _ _ _ h=>(by cases h),fun _ _ _ _ _ _ h=>(by cases h)⟩
 |n+1=>Eg hmix hF hP (Q4 hmix hF hP n) fun nt c ac h=>dC hmix (Q4 hmix hF hP n) n c ac h
end Go.Am

/- The limit of the runs of bounded depth: equations without fuel. -/
namespace Go.Am

def OLe(Γ Δ:Oracle):Prop:=∀k f as hp r,Γ k f as hp=some r->Δ k f as hp=some r
def LLe(Λ Λ':Yy):Prop:=∀b m keep c st r,Λ b m keep c st=some r->Λ' b m keep c st=some r
theorem OLe.refl(Γ:Oracle):OLe Γ Γ:=fun _ _ _ _ _ h=>h
theorem OLe.trans{Γ Δ Θ:Oracle}(h:OLe Γ Δ)(k:OLe Δ Θ):OLe Γ Θ:=fun i f as hp r e=>k i f as hp r (h i f as hp r e)
theorem LLe.refl(Γ:Yy):LLe Γ Γ:=fun _ _ _ _ _ _ h=>h
theorem LLe.trans{Γ Δ Θ:Yy}(h:LLe Γ Δ)(k:LLe Δ Θ):LLe Γ Θ:=fun f as hp r x y e=>k f as hp r x y (h f as hp r x y e)

theorem K2{Γ Δ:Oracle}{vs:List AV}{hp:Heap}{r:OpRes}(hO:OLe Γ Δ)(h:yl Γ hp vs=some r):yl Δ hp vs=some r:=by
 cases vs with
 |nil=>cases h
 |cons a as=>
  have gen:(match yB a with
    |some (g,first,captured)=>match Γ .fn g (first++as++captured) hp with
     |some (.ret v,hp')=>some (OpRes.val v hp')
     |some (.panic v,hp')=>some (.panic v hp')
     |none=>none
    |none=>none)=some r->(match yB a with
    |some (g,first,captured)=>match Δ .fn g (first++as++captured) hp with
     |some (.ret v,hp')=>some (OpRes.val v hp')
     |some (.panic v,hp')=>some (.panic v hp')
     |none=>none
    |none=>none)=some r:=by
   intro h;split at h
   ·split at h
    ·rename_i hg;simp only[hO _ _ _ _ _ hg];exact h
    ·rename_i hg;simp only[hO _ _ _ _ _ hg];exact h
    ·cases h
   ·cases h
  cases a with
  |yield q=>
   simp only[yl] at h ⊢;split at h
   ·split at h
    ·rename_i hg;rw[hO _ _ _ _ _ hg];exact h
    ·cases h
   ·cases h
  |_=>exact gen h
theorem K3{Γ Δ:Oracle}{b:Nat}{op:AOp}{vs:List AV}{hp:Heap}{r:OpRes}(hO:OLe Γ Δ)(h:aOp Γ b op vs hp=some r):aOp Δ b op vs hp=some r:=by
 cases op
 case call=>exact K2 hO h
 case calln n=>
  simp only[aOp,QR] at h ⊢;cases hc:yl Γ hp (vs.drop n) with
  |none=>rw[hc] at h;cases h
  |some q=>rw[hc] at h;rw[K2 hO hc];exact h
 case callg=>
  simp only[aOp,Qj] at h ⊢;cases hc:yl Γ hp vs with
  |none=>rw[hc] at h;cases h
  |some q=>rw[hc] at h;rw[K2 hO hc];exact h
 case callp=>
  simp only[aOp,Qk] at h ⊢;split at h
  ·split at h
   ·rename_i ps he;split at h
    ·rename_i v hp' hg;rw[hO _ _ _ _ _ hg];exact h
    ·cases h
   ·cases h
  ·cases h
 case callh=>
  simp only[aOp,Qi] at h ⊢;split at h
  ·split at h
   ·split at h
    ·rename_i v hp' hg;rw[hO _ _ _ _ _ hg];exact h
    ·cases h
   ·cases h
  ·cases h
 all_goals exact h

theorem qU{Γ Δ:Oracle}{b:Nat}(hO:OLe Γ Δ):∀{ops:List AOper} {fr:Fr} {hp:Heap} {r:AExit × Fr × Heap},aops Γ b ops fr hp=some r->aops Δ b ops fr hp=some r
 |[],_,_,_,h=>h
 |o::rest,fr,hp,r,h=>by
  simp only[aops] at h ⊢;split at h
  ·cases h
  ·exact qU hO h
  ·split at h
   ·cases h
   ·split at h
    ·rename_i ho;rw[K3 hO ho];exact qU hO h
    ·rename_i ho;rw[K3 hO ho];exact h
    ·cases h

theorem Y8{Γ Δ:Oracle}{Λ Λ':Yy}{b:Nat}(hO:OLe Γ Δ)(hL:LLe Λ Λ'):∀{c:ACode} {st:St} {r:AExit × St},aexec Γ Λ b c st=some r->aexec Δ Λ' b c st=some r:=by
 intro c
 induction c with
 |skip=>intro st r h;exact h
 |settle l=>intro st r h;exact h
 |region pan ops keep=>
  intro st r h;simp only[aexec] at h ⊢;split at h
  ·rename_i ho;rw[qU hO ho];exact h
  ·rename_i ho;rw[qU hO ho];exact h
  ·cases h
 |seq x y ihx ihy=>
  intro st r h;simp only[aexec] at h ⊢;split at h
  ·rename_i ho;rw[ihx ho];exact ihy h
  ·rename_i hn;rw[ihx h];split
   ·rename_i e;cases e;exact(hn _ h).elim
   ·rfl
 |cond c x y ihx ihy=>
  intro st r h;simp only[aexec] at h ⊢;split at h
  ·exact ihx h
  ·exact ihy h
  ·cases h
 |block id c ih=>
  intro st r h;simp only[aexec] at h ⊢;split at h
  ·rename_i ho;rw[ih ho];exact h
  ·rename_i hn;rw[ih h];split
   ·rename_i e;cases e;exact(hn _ _ h).elim
   ·rfl
 |loop keep c ih=>intro st r h;exact hL _ _ _ _ _ _ h
 |exit id=>intro st r h;exact h
 |ret=>intro st r h;exact h

theorem XG{Γ Δ:Oracle}(hO:OLe Γ Δ):∀{n m:Nat},n<=m->LLe (aloop Γ n) (aloop Δ m)
 |0,m,_=>fun _ _ _ _ _ _ h=>by cases h
 |n+1,0,h=>by omega
 |n+1,m+1,hnm=>fun b k keep c st r h=>by
  simp only[aloop] at h ⊢;split at h
  ·rename_i ho;rw[Y8 hO (XG hO (by omega:n<=m)) ho];exact XG hO (by omega:n<=m) _ _ _ _ _ _ h
  ·rename_i hn;rw[Y8 hO (XG hO (by omega:n<=m)) h];split
   ·rename_i e;cases e;exact(hn _ h).elim
   ·rfl

theorem UN{Γ Δ:Oracle}(hO:OLe Γ Δ){op:ATop}{st:St}{ds:List AV}{r:AExit × St × List AV}(h:atop Γ op st ds=some r):atop Δ op st ds=some r:=by
 cases op with
 |dfr s=>exact h
 |range self f ps env=>
  simp only[atop] at h ⊢;split at h
  ·cases h
  ·split at h
   ·split at h
    ·rename_i hg;rw[hO _ _ _ _ _ hg];exact h
    ·cases h
   ·cases h
theorem J5{Γ Δ:Oracle}{Λ Λ':Yy}{b:Nat}(hO:OLe Γ Δ)(hL:LLe Λ Λ'):∀{l:List (ATop × ACode)} {c:ACode} {st:St} {ds:List AV} {r:AExit × St × List AV},apieces Γ Λ b l c st ds=some r->apieces Δ Λ' b l c st ds=some r
 |[],c,st,ds,r,h=>by
  simp only[apieces] at h ⊢;split at h
  ·rename_i ho;rw[Y8 hO hL ho];exact h
  ·cases h
 |(op,c2)::l,c,st,ds,r,h=>by
  simp only[apieces] at h ⊢;split at h
  ·rename_i ho;rw[Y8 hO hL ho];split at h
   ·rename_i ha;simp only[UN hO ha];exact J5 hO hL h
   ·cases h
  ·rename_i e st1 hne ho;rw[Y8 hO hL ho];cases e with
   |normal=>exact(hne rfl).elim
   |_=>exact h
  ·cases h
theorem Q5{Γ Δ:Oracle}(hO:OLe Γ Δ):∀{ds:List AV} {p:Option PV} {hp:Heap} {r:Option PV × Heap},aunwind Γ ds p hp=some r->aunwind Δ ds p hp=some r
 |[],p,hp,r,h=>h
 |c::ds,p,hp,r,h=>by
  simp only[aunwind] at h ⊢;split at h
  ·split at h
   ·rename_i hg;simp only[hO _ _ _ _ _ hg];exact Q5 hO h
   ·cases h
  ·cases h
theorem UO{Γ Δ:Oracle}(hO:OLe Γ Δ){fn:AFn}{q:AExit × St × List AV}{r:ARes × Heap}(h:aleave Γ fn (some q)=some r):aleave Δ fn (some q)=some r:=by
 obtain⟨e,st,ds⟩:=q;cases e with
 |exit i=>cases h
 |normal=>
  simp only[aleave] at h ⊢;split at h
  ·rename_i hu;simp only[Q5 hO hu];exact h
  ·cases h
 |ret=>
  simp only[aleave] at h ⊢;split at h
  ·rename_i hu;simp only[Q5 hO hu];exact h
  ·cases h
 |panic v=>
  simp only[aleave] at h ⊢;split at h
  ·rename_i hu;simp only[Q5 hO hu];exact h
  ·rename_i hu;simp only[Q5 hO hu];exact h
  ·cases h
theorem J6{Γ Δ:Oracle}{Λ Λ':Yy}(hO:OLe Γ Δ)(hL:LLe Λ Λ'){fn:AFn}{args:List AV}{hp:Heap}{r:ARes × Heap}(h:abody Γ Λ fn args hp=some r):abody Δ Λ' fn args hp=some r:=by
 unfold abody at h ⊢;split at h
 ·cases h
 ·rename_i hn;rw[Za hn];cases hmore:fn.more with
  |nil=>
   simp only[hmore] at h ⊢;split at h
   ·rename_i ho;rw[Y8 hO hL ho];exact h
   ·rename_i ho;rw[Y8 hO hL ho];exact h
   ·rename_i ho;rw[Y8 hO hL ho];exact h
   ·cases h
  |cons x l=>
   simp only[hmore] at h ⊢;cases hq:apieces Γ Λ hp.length (x::l) fn.code ⟨params 0 args,hp⟩ [] with
   |none=>rw[hq] at h;cases h
   |some q=>
    rw[hq] at h;rw[J5 hO hL hq];exact UO hO h

theorem UP{F:FuncId->Option AFn}{prim:FuncId->Option Ys}{Γ Δ:Oracle}{Λ Λ':Yy}(hO:OLe Γ Δ)(hL:LLe Λ Λ'){f:FuncId}{as:List AV}{hp:Heap}{r:ARes × Heap}(h:yq F prim Γ Λ f as hp=some r):yq F prim Δ Λ' f as hp=some r:=by
 unfold yq at h ⊢;split at h
 ·exact h
 ·split at h
  ·cases h
  ·rename_i fn _;by_cases hr:fn.rcv.isSome=true
   ·rw[Zb hr] at h;cases h
   simp only[Za hr] at h ⊢;by_cases hm:fn.heapMode=true
   ·simp only[hm,if_true] at h ⊢;split at h
    ·rename_i ho;rw[J6 hO hL ho];exact h
    ·rename_i ho;rw[J6 hO hL ho];exact h
    ·cases h
   ·rw[Za hm] at h ⊢;split at h
    ·cases h
    ·split at h
     ·rename_i ho;rw[J6 hO hL ho];exact h
     ·rename_i ho;rw[J6 hO hL ho];exact h
     ·cases h
theorem Eh{F:FuncId->Option AFn}{Γ Δ:Oracle}{Λ Λ':Yy}(hO:OLe Γ Δ)(hL:LLe Λ Λ'){f:FuncId}{as:List AV}{hp:Heap}{r:ARes × Heap}(h:around F Γ Λ f as hp=some r):around F Δ Λ' f as hp=some r:=by
 unfold around at h ⊢;split at h
 ·split at h
  ·split at h
   ·rename_i hc;rw[Zb hc];split at h
    ·split at h
     ·split at h
      ·rename_i h1;simp only[Y8 hO hL h1];split at h
       ·split at h
        ·rename_i h2;simp only[Y8 hO hL h2];exact h
        ·cases h
       ·cases h
      ·cases h
     ·cases h
    ·cases h
   ·cases h
  ·cases h
 ·cases h
theorem Ei{F:FuncId->Option AFn}{Γ Δ:Oracle}{Λ Λ':Yy}(hO:OLe Γ Δ)(hL:LLe Λ Λ'){f:FuncId}{as:List AV}{hp:Heap}{r:ARes × Heap}(h:adefer F Γ Λ f as hp=some r):adefer F Δ Λ' f as hp=some r:=by
 unfold adefer at h ⊢;split at h
 ·split at h
  ·split at h
   ·split at h
    ·cases h
    ·rename_i hc;rw[Za hc];split at h
     ·rename_i h1;simp only[Y8 hO hL h1];exact h
     ·rename_i h1;simp only[Y8 hO hL h1];exact h
     ·cases h
   ·cases h
  ·cases h
 ·cases h
theorem K4{F:FuncId->Option AFn}{prim:FuncId->Option Ys}{Γ Δ:Oracle}{Λ Λ':Yy}(hO:OLe Γ Δ)(hL:LLe Λ Λ'):OLe (acall F prim Γ Λ) (acall F prim Δ Λ'):=by
 intro k f as hp r h;cases k with
 |fn=>exact UP hO hL h
 |rnd=>exact Eh hO hL h
 |dfr=>exact Ei hO hL h
 |seq=>
  simp only[acall] at h ⊢;split at h
  ·rename_i hs;rw[Zb hs];exact UP hO hL h
  ·cases h

theorem xM{F:FuncId->Option AFn}{prim:FuncId->Option Ys}:∀{n m:Nat},n<=m->OLe (asem F prim n) (asem F prim m)
 |0,_,_=>fun _ _ _ _ _ h=>by cases h
 |n+1,0,h=>by omega
 |n+1,m+1,h=>K4 (xM (by omega)) (XG (xM (by omega)) (by omega))

noncomputable def sem(F:FuncId->Option AFn)(prim:FuncId->Option Ys):Oracle:=fun k f as hp=>
 open Classical in if h:∃n r,asem F prim n k f as hp=some r then some h.choose_spec.choose else none
noncomputable def sloop(F:FuncId->Option AFn)(prim:FuncId->Option Ys):Yy:=fun b m keep c st=>
 open Classical in if h:∃n r,aloop (asem F prim n) n b m keep c st=some r then some h.choose_spec.choose else none

variable{F:FuncId->Option AFn} {prim:FuncId->Option Ys}
theorem sem_iff{k:Kind}{f:FuncId}{as:List AV}{hp:Heap}{r:ARes × Heap}:sem F prim k f as hp=some r↔∃n,asem F prim n k f as hp=some r:=by
 unfold sem;constructor
 ·intro h;split at h
  ·rename_i he;cases h;exact⟨_,he.choose_spec.choose_spec⟩
  ·cases h
 ·rintro⟨n,hn⟩;have he:∃n r,asem F prim n k f as hp=some r:=⟨n,r,hn⟩;rw[dif_pos he];have h1:=xM (zo n he.choose) _ _ _ _ _ hn;have h2:=xM (zy n he.choose) _ _ _ _ _ he.choose_spec.choose_spec;rw[h1] at h2;exact h2.symm
theorem sloop_iff{b m:Nat}{keep:List Nat}{c:ACode}{st:St}{r:AExit × St}:sloop F prim b m keep c st=some r↔∃n,aloop (asem F prim n) n b m keep c st=some r:=by
 unfold sloop;constructor
 ·intro h;split at h
  ·rename_i he;cases h;exact⟨_,he.choose_spec.choose_spec⟩
  ·cases h
 ·rintro⟨n,hn⟩;have he:∃n r,aloop (asem F prim n) n b m keep c st=some r:=⟨n,r,hn⟩;rw[dif_pos he];have h1:=XG (xM (F:=F) (prim:=prim) (zo n he.choose)) (zo n he.choose) _ _ _ _ _ _ hn;have h2:=XG (xM (F:=F) (prim:=prim) (zy n he.choose)) (zy n he.choose) _ _ _ _ _ _ he.choose_spec.choose_spec;rw[h1] at h2;exact h2.symm
theorem K5{n:Nat}:OLe (asem F prim n) (sem F prim):=fun _ _ _ _ _ h=>sem_iff.2 ⟨n,h⟩
theorem UQ{n:Nat}:LLe (aloop (asem F prim n) n) (sloop F prim):=fun _ _ _ _ _ _ h=>sloop_iff.2 ⟨n,h⟩
abbrev up{n m:Nat}(h:n<=m):OLe (asem F prim n) (asem F prim m):=xM h
theorem upl{n m:Nat}(h:n<=m):LLe (aloop (asem F prim n) n) (aloop (asem F prim m) m):=XG (xM h) h

theorem K6{vs:List AV}{hp:Heap}{r:OpRes}(h:yl (sem F prim) hp vs=some r):∃n,yl (asem F prim n) hp vs=some r:=by
 cases vs with
 |nil=>cases h
 |cons a as=>
  have gen:(match yB a with
    |some (g,first,captured)=>match sem F prim .fn g (first++as++captured) hp with
     |some (.ret v,hp')=>some (OpRes.val v hp')
     |some (.panic v,hp')=>some (.panic v hp')
     |none=>none
    |none=>none)=some r->∃n,(match yB a with
    |some (g,first,captured)=>match asem F prim n .fn g (first++as++captured) hp with
     |some (.ret v,hp')=>some (OpRes.val v hp')
     |some (.panic v,hp')=>some (.panic v hp')
     |none=>none
    |none=>none)=some r:=by
   intro h;split at h
   ·split at h
    ·rename_i hg;obtain⟨n,hn⟩:=sem_iff.1 hg;exact⟨n,by simp only[hn];exact h⟩
    ·rename_i hg;obtain⟨n,hn⟩:=sem_iff.1 hg;exact⟨n,by simp only[hn];exact h⟩
    ·cases h
   ·cases h
  cases a with
  |yield q=>
   simp only[yl] at h ⊢;split at h
   ·split at h
    ·rename_i hg;obtain⟨n,hn⟩:=sem_iff.1 hg;exact⟨n,by simp only[hn];exact h⟩
    ·cases h
   ·cases h
  |_=>exact gen h
theorem UR{b:Nat}{op:AOp}{vs:List AV}{hp:Heap}{r:OpRes}(h:aOp (sem F prim) b op vs hp=some r):∃n,aOp (asem F prim n) b op vs hp=some r:=by
 cases op
 case call=>exact K6 h
 case calln n=>
  simp only[aOp,QR] at h ⊢;cases hc:yl (sem F prim) hp (vs.drop n) with
  |none=>rw[hc] at h;cases h
  |some q=>
   rw[hc] at h;obtain⟨k,hk⟩:=K6 hc;exact⟨k,by rw[hk];exact h⟩
 case callg=>
  simp only[aOp,Qj] at h ⊢;cases hc:yl (sem F prim) hp vs with
  |none=>rw[hc] at h;cases h
  |some q=>
   rw[hc] at h;obtain⟨k,hk⟩:=K6 hc;exact⟨k,by rw[hk];exact h⟩
 case callp=>
  simp only[aOp,Qk] at h ⊢;split at h
  ·split at h
   ·rename_i ps he;split at h
    ·rename_i v hp' hg;obtain⟨n,hn⟩:=sem_iff.1 hg;exact⟨n,by simp only[hn];exact h⟩
    ·cases h
   ·cases h
  ·cases h
 case callh=>
  simp only[aOp,Qi] at h ⊢;split at h
  ·split at h
   ·split at h
    ·rename_i v hp' hg;obtain⟨n,hn⟩:=sem_iff.1 hg;exact⟨n,by simp only[hn];exact h⟩
    ·cases h
   ·cases h
  ·cases h
 all_goals exact⟨0,h⟩

theorem J7{b:Nat}:∀{ops:List AOper} {fr:Fr} {hp:Heap} {r:AExit × Fr × Heap},aops (sem F prim) b ops fr hp=some r->∃n,aops (asem F prim n) b ops fr hp=some r
 |[],_,_,_,h=>⟨0,h⟩
 |o::rest,fr,hp,r,h=>by
  simp only[aops] at h ⊢;split at h
  ·cases h
  ·exact J7 h
  ·split at h
   ·cases h
   ·split at h
    ·rename_i ho;obtain⟨n,hn⟩:=UR ho;obtain⟨m,hm⟩:=J7 h;refine⟨max n m,?_⟩;rw[K3 (up (zo n m)) hn];exact qU (up (zy n m)) hm
    ·rename_i ho;obtain⟨n,hn⟩:=UR ho;exact⟨n,by rw[hn];exact h⟩
    ·cases h

theorem XH{b:Nat}:∀{c:ACode} {st:St} {r:AExit × St},aexec (sem F prim) (sloop F prim) b c st=some r->∃n,aexec (asem F prim n) (aloop (asem F prim n) n) b c st=some r:=by
 intro c
 induction c with
 |skip=>intro st r h;exact⟨0,h⟩
 |settle l=>intro st r h;exact⟨0,h⟩
 |region pan ops keep=>
  intro st r h;simp only[aexec] at h ⊢;split at h
  ·rename_i ho;obtain⟨n,hn⟩:=J7 ho;exact⟨n,by rw[hn];exact h⟩
  ·rename_i ho;obtain⟨n,hn⟩:=J7 ho;exact⟨n,by rw[hn];exact h⟩
  ·cases h
 |seq x y ihx ihy=>
  intro st r h;simp only[aexec] at h ⊢;split at h
  ·rename_i ho;obtain⟨n,hn⟩:=ihx ho;obtain⟨m,hm⟩:=ihy h;refine⟨max n m,?_⟩;rw[Y8 (up (zo n m)) (upl (zo n m)) hn];exact Y8 (up (zy n m)) (upl (zy n m)) hm
  ·rename_i hn;obtain⟨n,h1⟩:=ihx h;refine⟨n,?_⟩;rw[h1];split
   ·rename_i e;cases e;exact(hn _ h).elim
   ·rfl
 |cond c x y ihx ihy=>
  intro st r h;simp only[aexec] at h ⊢;split at h
  ·exact ihx h
  ·exact ihy h
  ·cases h
 |block id c ih=>
  intro st r h;simp only[aexec] at h ⊢;split at h
  ·rename_i ho;obtain⟨n,hn⟩:=ih ho;exact⟨n,by rw[hn];exact h⟩
  ·rename_i hn;obtain⟨n,h1⟩:=ih h;refine⟨n,?_⟩;rw[h1];split
   ·rename_i e;cases e;exact(hn _ _ h).elim
   ·rfl
 |loop keep c ih=>intro st r h;exact sloop_iff.1 h
 |exit id=>intro st r h;exact⟨0,h⟩
 |ret=>intro st r h;exact⟨0,h⟩

theorem Ej{op:ATop}{st:St}{ds:List AV}{r:AExit × St × List AV}(h:atop (sem F prim) op st ds=some r):∃n,atop (asem F prim n) op st ds=some r:=by
 cases op with
 |dfr s=>exact⟨0,h⟩
 |range self f ps env=>
  simp only[atop] at h ⊢;split at h
  ·cases h
  ·split at h
   ·split at h
    ·rename_i hg;obtain⟨n,hn⟩:=sem_iff.1 hg;exact⟨n,by simp only[hn];exact h⟩
    ·cases h
   ·cases h
theorem UT{b:Nat}:∀{l:List (ATop × ACode)} {c:ACode} {st:St} {ds:List AV} {r:AExit × St × List AV},apieces (sem F prim) (sloop F prim) b l c st ds=some r->∃n,apieces (asem F prim n) (aloop (asem F prim n) n) b l c st ds=some r
 |[],c,st,ds,r,h=>by
  simp only[apieces] at h ⊢;split at h
  ·rename_i ho;obtain⟨n,hn⟩:=XH ho;exact⟨n,by rw[hn];exact h⟩
  ·cases h
 |(op,c2)::l,c,st,ds,r,h=>by
  simp only[apieces] at h ⊢;split at h
  ·rename_i ho;obtain⟨n,hn⟩:=XH ho;split at h
   ·rename_i ha;obtain⟨m,hm⟩:=Ej ha;obtain⟨k,hk⟩:=UT h;refine⟨max n (max m k),?_⟩;rw[Y8 (up (by omega:n<=max n (max m k))) (upl (by omega)) hn];simp only[UN (up (by omega:m<=max n (max m k))) hm];exact J5 (up (by omega:k<=max n (max m k))) (upl (by omega)) hk
   ·cases h
  ·rename_i e st1 hne ho;obtain⟨n,hn⟩:=XH ho;refine⟨n,?_⟩;rw[hn];cases e with
   |normal=>exact(hne rfl).elim
   |_=>exact h
  ·cases h
theorem qV:∀{ds:List AV} {p:Option PV} {hp:Heap} {r:Option PV × Heap},aunwind (sem F prim) ds p hp=some r->∃n,aunwind (asem F prim n) ds p hp=some r
 |[],p,hp,r,h=>⟨0,h⟩
 |c::ds,p,hp,r,h=>by
  simp only[aunwind] at h ⊢;split at h
  ·split at h
   ·rename_i hg;obtain⟨n,hn⟩:=sem_iff.1 hg;obtain⟨m,hm⟩:=qV h;refine⟨max n m,?_⟩;simp only[up (F:=F) (prim:=prim) (zo n m) _ _ _ _ _ hn];exact Q5 (up (zy n m)) hm
   ·cases h
  ·cases h
theorem Ek{fn:AFn}{q:AExit × St × List AV}{r:ARes × Heap}(h:aleave (sem F prim) fn (some q)=some r):∃n,aleave (asem F prim n) fn (some q)=some r:=by
 obtain⟨e,st,ds⟩:=q;cases e with
 |exit i=>cases h
 |normal=>
  simp only[aleave] at h ⊢;split at h
  ·rename_i hu;obtain⟨n,hn⟩:=qV hu;exact⟨n,by simp only[hn];exact h⟩
  ·cases h
 |ret=>
  simp only[aleave] at h ⊢;split at h
  ·rename_i hu;obtain⟨n,hn⟩:=qV hu;exact⟨n,by simp only[hn];exact h⟩
  ·cases h
 |panic v=>
  simp only[aleave] at h ⊢;split at h
  ·rename_i hu;obtain⟨n,hn⟩:=qV hu;exact⟨n,by simp only[hn];exact h⟩
  ·rename_i hu;obtain⟨n,hn⟩:=qV hu;exact⟨n,by simp only[hn];exact h⟩
  ·cases h
theorem J8{fn:AFn}{args:List AV}{hp:Heap}{r:ARes × Heap}(h:abody (sem F prim) (sloop F prim) fn args hp=some r):∃n,abody (asem F prim n) (aloop (asem F prim n) n) fn args hp=some r:=by
 unfold abody at h ⊢;split at h
 ·cases h
 ·rename_i hn;simp only[Za hn];cases hmore:fn.more with
  |nil=>
   simp only[hmore] at h ⊢;split at h
   ·rename_i ho;obtain⟨n,hn⟩:=XH ho;exact⟨n,by rw[hn];exact h⟩
   ·rename_i ho;obtain⟨n,hn⟩:=XH ho;exact⟨n,by rw[hn];exact h⟩
   ·rename_i ho;obtain⟨n,hn⟩:=XH ho;exact⟨n,by rw[hn];exact h⟩
   ·cases h
  |cons x l=>
   simp only[hmore] at h ⊢;cases hq:apieces (sem F prim) (sloop F prim) hp.length (x::l) fn.code ⟨params 0 args,hp⟩ [] with
   |none=>rw[hq] at h;cases h
   |some q=>
    rw[hq] at h;obtain⟨n,hn⟩:=UT hq;obtain⟨m,hm⟩:=Ek h;refine⟨max n m,?_⟩;rw[J5 (up (zo n m)) (upl (zo n m)) hn];exact UO (up (zy n m)) hm

theorem UU{f:FuncId}{as:List AV}{hp:Heap}{r:ARes × Heap}(h:yq F prim (sem F prim) (sloop F prim) f as hp=some r):∃n,yq F prim (asem F prim n) (aloop (asem F prim n) n) f as hp=some r:=by
 unfold yq at h ⊢;split at h
 ·exact⟨0,h⟩
 ·split at h
  ·cases h
  ·rename_i fn _;by_cases hr:fn.rcv.isSome=true
   ·rw[Zb hr] at h;cases h
   simp only[Za hr] at h ⊢;by_cases hm:fn.heapMode=true
   ·simp only[hm,if_true] at h ⊢;split at h
    ·rename_i ho;obtain⟨n,hn⟩:=J8 ho;exact⟨n,by rw[hn];exact h⟩
    ·rename_i ho;obtain⟨n,hn⟩:=J8 ho;exact⟨n,by rw[hn];exact h⟩
    ·cases h
   ·simp only[Za hm] at h ⊢;split at h
    ·cases h
    ·split at h
     ·rename_i ho;obtain⟨n,hn⟩:=J8 ho;exact⟨n,by rw[hn];exact h⟩
     ·rename_i ho;obtain⟨n,hn⟩:=J8 ho;exact⟨n,by rw[hn];exact h⟩
     ·cases h
theorem El{f:FuncId}{as:List AV}{hp:Heap}{r:ARes × Heap}(h:around F (sem F prim) (sloop F prim) f as hp=some r):∃n,around F (asem F prim n) (aloop (asem F prim n) n) f as hp=some r:=by
 unfold around at h ⊢;split at h
 ·split at h
  ·split at h
   ·rename_i hc;simp only[Zb hc];split at h
    ·split at h
     ·split at h
      ·rename_i h1;obtain⟨n,hn⟩:=XH h1;split at h
       ·split at h
        ·rename_i h2;obtain⟨m,hm⟩:=XH h2;refine⟨max n m,?_⟩;simp only[Y8 (up (zo n m)) (upl (zo n m)) hn,Y8 (up (zy n m)) (upl (zy n m)) hm];rename_i hlf _ _
         first|exact h|(simp only[hlf];exact h)
        ·cases h
       ·cases h
      ·cases h
     ·cases h
    ·cases h
   ·cases h
  ·cases h
 ·cases h
theorem Em{f:FuncId}{as:List AV}{hp:Heap}{r:ARes × Heap}(h:adefer F (sem F prim) (sloop F prim) f as hp=some r):∃n,adefer F (asem F prim n) (aloop (asem F prim n) n) f as hp=some r:=by
 unfold adefer at h ⊢;split at h
 ·split at h
  ·split at h
   ·split at h
    ·cases h
    ·rename_i hc;simp only[Za hc];split at h
     ·rename_i h1;obtain⟨n,hn⟩:=XH h1;exact⟨n,by simp only[hn];exact h⟩
     ·rename_i h1;obtain⟨n,hn⟩:=XH h1;exact⟨n,by simp only[hn];exact h⟩
     ·cases h
   ·cases h
  ·cases h
 ·cases h
theorem En{k:Kind}{f:FuncId}{as:List AV}{hp:Heap}{r:ARes × Heap}(h:acall F prim (sem F prim) (sloop F prim) k f as hp=some r):∃n,acall F prim (asem F prim n) (aloop (asem F prim n) n) k f as hp=some r:=by
 cases k with
 |fn=>exact UU h
 |rnd=>exact El h
 |dfr=>exact Em h
 |seq=>
  simp only[acall] at h ⊢;split at h
  ·rename_i hs;simp only[Zb hs];exact UU h
  ·cases h

theorem K7(k:Kind)(f:FuncId)(as:List AV)(hp:Heap):sem F prim k f as hp=acall F prim (sem F prim) (sloop F prim) k f as hp:=by
 have to:∀r,sem F prim k f as hp=some r↔acall F prim (sem F prim) (sloop F prim) k f as hp=some r:=fun r=>by
  constructor
  ·intro h;obtain⟨n,hn⟩:=sem_iff.1 h;cases n with
   |zero=>cases hn
   |succ n=>exact K4 K5 UQ _ _ _ _ _ hn
  ·intro h;obtain⟨n,hn⟩:=En h;exact sem_iff.2 ⟨n+1,hn⟩
 exact Option.ext fun r=>to r

theorem xN(f:FuncId)(as:List AV)(hp:Heap):sem F prim .fn f as hp=yq F prim (sem F prim) (sloop F prim) f as hp:=K7 .fn f as hp
theorem Eo(f:FuncId)(as:List AV)(hp:Heap):sem F prim .dfr f as hp=adefer F (sem F prim) (sloop F prim) f as hp:=K7 .dfr f as hp

theorem UV(b m:Nat)(keep:List Nat)(c:ACode)(st:St):sloop F prim b m keep c st=match aexec (sem F prim) (sloop F prim) b c st with
  |some (.normal,st')=>sloop F prim b m keep c ⟨st'.fr.keep keep,collect m b (st'.fr.keep keep) st'.hp⟩
  |r=>r:=by
 have to:∀r,sloop F prim b m keep c st=some r↔(match aexec (sem F prim) (sloop F prim) b c st with
  |some (.normal,st')=>sloop F prim b m keep c ⟨st'.fr.keep keep,collect m b (st'.fr.keep keep) st'.hp⟩
  |r=>r)=some r:=fun r=>by
  constructor
  ·intro h;obtain⟨n,hn⟩:=sloop_iff.1 h;cases n with
   |zero=>cases hn
   |succ n=>
    simp only[aloop] at hn;have hle:LLe (aloop (asem F prim (n+1)) n) (sloop F prim):=(XG (OLe.refl _) (by omega:n<=n+1)).trans UQ;split at hn
    ·rename_i ho;rw[Y8 K5 hle ho];exact hle _ _ _ _ _ _ hn
    ·rename_i hne;rw[Y8 K5 hle hn];split
     ·rename_i e;cases e;exact(hne _ hn).elim
     ·rfl
  ·intro h;split at h
   ·rename_i ho;obtain⟨n,hn⟩:=XH ho;obtain⟨k,hk⟩:=sloop_iff.1 h;refine sloop_iff.2 ⟨max n k+1,?_⟩;simp only[aloop];rw[Y8 (up (by omega:n<=max n k+1)) (XG (up (by omega)) (by omega)) hn];exact XG (up (by omega:k<=max n k+1)) (by omega) _ _ _ _ _ _ hk
   ·rename_i hne;obtain⟨n,hn⟩:=XH h;refine sloop_iff.2 ⟨n+1,?_⟩;simp only[aloop];rw[Y8 (up (by omega:n<=n+1)) (XG (up (by omega)) (by omega)) hn];split
    ·rename_i e;cases e;exact(hne _ h).elim
    ·rfl
 exact Option.ext fun r=>to r

theorem Ep{P:Program}(hmix:P.follows .mixedOrders=true)(hF:Qw P F)(hP:xL P prim):SoundO P (sem F prim) where
 fn f as hp r hp' h:=by
  obtain⟨n,hn⟩:=sem_iff.1 h;exact(Q4 hmix hF hP n).fn f as hp r hp' hn
 seq f as hp r hp' h:=by
  obtain⟨n,hn⟩:=sem_iff.1 h;exact(Q4 hmix hF hP n).seq f as hp r hp' hn
 rnd f q as hp v hp' ps env h:=by
  obtain⟨n,hn⟩:=sem_iff.1 h;exact(Q4 hmix hF hP n).rnd f q as hp v hp' ps env hn
 dfr g p as hp r hp' h:=by
  obtain⟨n,hn⟩:=sem_iff.1 h;exact(Q4 hmix hF hP n).dfr g p as hp r hp' hn
end Go.Am

/- A table of functions. -/
namespace Go.Am
def qW(P:Program)(tab:List (Nat × AFn)):Prop:=∀x∈tab,∃fnc,P.funcs[x.1]? =some fnc/\trFn P x.2.heapMode x.1 fnc=some x.2
theorem Er{P:Program}:qW P []:=fun x h=>by simp at h
theorem zX{P:Program}{f:Nat}{g:AFn}{fnc:Func}{r:List (Nat × AFn)}(h:P.funcs[f]? =some fnc)(t:trFn P g.heapMode f fnc=some g)(k:qW P r):qW P ((f,g)::r):=by
 intro x hx;simp only[Zt] at hx;rcases hx with rfl|hx
 ·exact⟨fnc,h,t⟩
 ·exact k x hx
def find:List (Nat × AFn)->FuncId->Option AFn
 |[],_=>none
 |(k,g)::r,f=>bif Nat.beq k f then some g else find r f
theorem find_mem:∀{tab:List (Nat × AFn)} {f:FuncId} {g:AFn},find tab f=some g->(f,g)∈tab
 |[],_,_,h=>by cases h
 |(k,x)::r,f,g,h=>by
  simp only[find] at h;cases hk:Nat.beq k f with
  |true=>
   rw[hk] at h;cases h;simp[zf hk]
  |false=>
   rw[hk] at h;exact Zu _ (find_mem h)
theorem Es{P:Program}{tab:List (Nat × AFn)}(h:qW P tab):Qw P (find tab):=fun f fn hf=>h (f,fn) (find_mem hf)
end Go.Am

/- Contracts by hand: what the library has no body for. -/
namespace Go.Am
variable{P:Program}

def J9:Ys:=fun _ args hp=>match args with
 |[.pv _ (.str a),.pv _ (.str b)]=>some (.ret (.pv none (.int .i64 (Lib.compareBytes a b))),hp)
 |_=>none

def ja(P:Program)(f:FuncId)(p:Ys):Prop:=
 ∀args hp r hp',p f args hp=some (r,hp')->∀(w:World) (X:Xc P) (μ:Nat->Option Nat) (vs:List Value),HR w X μ hp->LR w X μ hp args vs->Called P f vs.toArray w (Xn hp.length w X μ hp r hp')

theorem Et{f:FuncId}{fn:Func}(hf:P.funcs[f]? =some fn)(hname:(fn.name == "runtime.NumGoroutine")=false)(hb:fn.body.isNone=true)(hn:Extern.findNext fn=none)
  (he:Extern.find fn=some Extern.BytealgCompare.compare):ja P f J9:=by
 intro args hp r hp' h w X μ vs hH hl;unfold J9 at h;split at h
 ·rename_i s1 a s2 b;cases h;cases hl with|cons h1 hl=>
  cases hl with|cons h2 hl=>
  cases hl;cases h1 with|pv _ _ _ _ h1=>
  cases h2 with|pv _ _ _ _ h2=>
  cases h1;cases h2;refine .inr ⟨.int .i64 (Lib.compareBytes a b),w,?_,μ,.pv none (.int .i64 (Lib.compareBytes a b)),rfl,hH,Ext.refl _ _ _ _ _,.pv _ _ _ rfl (.int _ _)⟩;rw[run_callFunc_extern hf hname hb hn he,Lib.run_compareString];rfl
 ·cases h

theorem Eu:xL P (fun _=>none):=fun f p h=>by cases h
theorem UW{prim:FuncId->Option Ys}{f:FuncId}{p:Ys}(h:ja P f p)(k:xL P prim):xL P (fun g=>bif Nat.beq f g then some p else prim g):=by
 intro g q hq;cases hk:Nat.beq f g with
 |true=>
  simp only[hk,cond_true] at hq;cases hq;have:=zf hk;subst this;exact h
 |false=>
  simp only[hk,cond_false] at hq;exact k g q hq
end Go.Am

/- From a run of the abstract machine to what a law's row wants. -/
namespace Go.Am
open Go.ChangeShapes Go.WideShapes Go.ChangeAt Go.RowKit
variable{P:Program} {H:Type} {enc:TypeId × Value->H}

theorem Ev{f:FuncId}{fn:Func}{c:Code}{args:Array Value}{w:World}{R:Ending->World->Prop}(hf:P.funcs[f]? =some fn)(hb:fn.body=some c)(hn:fn.name≠ "runtime.NumGoroutine")
  (h:Called P f args w R):Calls P f args w R:=by
 rcases h with⟨_,h⟩|⟨v,w',h,_⟩
 ·exact h
 ·rw[qT hf hb hn] at h;cases h

abbrev noX:Xc P:=⟨fun _=>False⟩
abbrev noμ:Nat->Option Nat:=fun _=>none

theorem Ex(w:World):HR w (noX (P:=P)) noμ []:=
 ⟨fun i _ _ hi=>by simp at hi,fun i _ hi=>by simp at hi,fun b hb=>hb.elim,fun i sh v h=>by simp at h,fun i sh es fz h=>by simp at h,fun i sh es h=>by simp at h,fun i f ps env bz h=>by simp at h⟩

theorem Ey{b0:Nat}{X:Xc P}{μ μ':Nat->Option Nat}{hp':Heap}{w w':World}(h:Ext b0 X μ [] w μ' hp' w'):Below w.heap.size w w':=
 ⟨h.os,h.tape,h.output,h.size,fun k hk=>h.blk k hk fun i hi=>by simp[live] at hi⟩

theorem Ez{w w':World}(h:Below w.heap.size w w')(may:MemPlace->Prop):w.keptBut w' may:=by
 refine⟨h.os,h.output,fun i hi=> ?_⟩;rw[h.block i hi];cases w.heap[i]? with
 |none=>trivial
 |some o=>cases o <;> simp

theorem UX(hl:laidOutB P=true){W W':World}(hb:Below W.heap.size W W'):∀{ts:List TypeId} {vs:List Value} {ds:List (DataW H)} {p:List MemPlace},
  (∀t∈ts,P.readableRec t=true/\t<P.types.size)->(∀x∈p,x.block<W.heap.size)->DataW.TrodAll enc P W 0 (fun _=>true) true ts vs ds p->DataW.TrodAll enc P W' 0 (fun b=>decide (b<W.heap.size)) true ts vs ds p
 |[],_,_,_,_,_,h=>by
  obtain⟨rfl,rfl,rfl⟩:=trodAll_nil h;exact trodAll_mk0
 |t::ts,_,_,_,ht,hp,h=>by
  obtain⟨v,vs,d,ds,a,b,rfl,rfl,rfl,h1,h2⟩:=trodAll_cons h;obtain⟨k1,k2⟩:=ht t (by simp);exact⟨a,b,Below.trod hl k1 k2 h1 hb fun x hx=>hp x (by simp[hx]),UX hl hb (fun t h=>ht t (by simp[h])) (fun x hx=>hp x (by simp[hx])) h2,rfl⟩

def EA(P:Program)(fn:Func):Bool:=fn.params.toList.all fun t=>P.readableRec t && decide (t<P.types.size)
def UY(P:Program)(fn:Func):Bool:=
 match fn.resultTypes.toList with
 |[t]=>JC P t
 |_=>false
def UZ(P:Program)(fn:Func):Bool:=EA P fn && UY P fn && fn.body.isSome && !(fn.name == "runtime.NumGoroutine")

theorem EB{Γ:Oracle}(hΓ:SoundO P Γ){f:FuncId}{fn:Func}(hf:P.funcs[f]? =some fn)(hfn:UZ P fn=true)(hl:laidOutB P=true){s:ChangeSpec}(hv:s.vars=[])
  {W:World}{args:Array Value}{ds gs:List (DataW H)}{before:List MemPlace}(hs:s.fn H (ds++gs)={ results:=[.lit (.bool true)],args:=ds })
  (hW:DataW.Whole enc P fn.params.toList s.vars false W args.toList ds gs before)
  {avs:List AV}(hL:LR W (noX (P:=P)) noμ [] avs args.toList)(h:Γ .fn f avs []=some (.ret (.pv none (.bool true)),[])):
  Calls P f args W fun e W'=>∃v,e=.returned v/\s.post enc P fn false true false false W args v W':=by
 simp only[UZ,Zm,zF,beq_eq_false_iff_ne,Option.isSome_iff_exists] at hfn;obtain⟨⟨⟨hp,hbr⟩,c,hb⟩,hn⟩:=hfn;obtain⟨tb,hr,htb⟩:∃tb,fn.resultTypes= #[tb]/\P.underlying tb=some .bool:=by
  unfold UY at hbr;split at hbr
  ·rename_i t ht;exact⟨t,Array.toList_inj.1 ht,VO hbr⟩
  ·cases hbr
 have k:=hΓ.fn f avs [] _ _ h W noX noμ args.toList (Ex W) hL;refine(Ev hf hb hn k).mono fun e W' he=> ?_;cases e with
 |returned u=>
  obtain⟨μ',v,e1,_,hE,hA⟩:=he;cases e1;cases hA with|pv _ _ _ _ hA=>
  cases hA;have hB:=Ey hE;refine⟨_,rfl,ds,gs,before,[],before,[],hW,?_,?_,?_,Ez hB _,fun h=>by cases h⟩
  ·rw[hs,hr];simp only[Value.resultList];exact trodAll_mk1 (shut_bool htb true)
  ·rw[hs];have hlt:=hW.lt;obtain⟨p,q,k1,k2,k3,_,_⟩:=hW;rw[hv] at k2;obtain⟨_,rfl⟩:=trodVars_none k2;rw[ZF] at k3;subst k3;refine UX hl hB (fun t ht=> ?_) hlt k1;have:=Zo.1 hp t ht;simp only[Zm,Zz] at this;exact this
  ·rw[hs,hv];rfl
 |panicked ch=>obtain⟨_,_,_,e1,_⟩:=he;cases e1
 |outgrown=>exact he.elim
end Go.Am

/- The contract of slices.Insert, out of its three roads. -/
namespace Go.Am
variable{P:Program}
def xl(sh:Sh):Ys:=fun _ args hp=>match args with
 |[s,.pv _ (.int .i64 i),.tsl shx new]=>
  if shx=sh/\new≠[] then match s with
   | .sl s1 r ver off len=>
    if i=(len:Int) then(if len<=lim then match YN sh hp [.sl s1 r ver off len,.tsl shx new] with
     |some (v,hp')=>some (.ret v,hp')
     |none=>none else none)
    else match hp[r]? with
     |some (.arr s' es false)=>if s1=sh/\s'=sh/\ver=es.length/\off=0/\len=es.length/\0<=i/\i<len/\len+new.length<=lim then
       some (.ret (.sl sh r (len+new.length) 0 (len+new.length)),hp.set r (.arr sh (es.take i.toNat++new++es.drop i.toNat) false)) else none
     |_=>none
   | .tsl s1 es=>if i=(es.length:Int)/\es.length<=lim then match YN sh hp [.tsl s1 es,.tsl shx new] with
     |some (v,hp')=>some (.ret v,hp')
     |none=>none
    else none
   |_=>none
  else none
 |_=>none

structure InsRoads(P:Program)(f:FuncId)(t e:TypeId)(k:Nat):Prop where
 endr:∀(base:Option Addr) (n c vb voff m vc:Nat) (w w':World) (v':Value),0<m->n<=c->n<=lim->(Builtin.append_ #[t,t] t #[.slice base n c,.slice (some ⟨vb,voff,none⟩) m vc]).run P w=.ok v' w'->
  Calls P f #[.slice base n c,.int .i64 n,.slice (some ⟨vb,voff,none⟩) m vc] w fun E W=>E=.returned v'/\W=w'
 shift:∀(b n c i vb voff m vc:Nat) (cur:Array Value) (t0:TypeId) (vs:List Value) (w:World),i<n->0<m->n+m<=c->n+m<=lim->vb≠b->w.heap[b]? =some (.cells cur t0 (0,0))->cur.size=c*k->vs.length=m*k->
  (∀v∈(cur.toList.drop (i*k)).take ((n - i)*k),v.oneCell'=true)->(∀j v,vs[j]? =some v->w.cell? ⟨vb,voff+j,none⟩=some v)->(∀v∈vs,v.oneCell'=true)->∀(tA:TypeId) (kA:Nat),w.shape? vb=some (tA,kA)->kA≠0->
  ∃cur2:Array Value,cur2.toList=cur.toList.take (i*k)++vs++(cur.toList.drop (i*k)).take ((n - i)*k)++cur.toList.drop ((n+m)*k)/\
  Calls P f #[.slice (some ⟨b,0,none⟩) n c,.int .i64 i,.slice (some ⟨vb,voff,none⟩) m vc] w fun E w'=>E=.returned (.slice (some ⟨b,0,none⟩) (n+m) c)/\∃cur1,w'=(w.drew.setRow b cur1).setRow b cur2
 grow:∀(b n c i vb voff m vc:Nat) (cur:Array Value) (t0:TypeId) (vs:List Value) (w:World),i<n->0<m->n<=c->c<n+m->n+m<=lim->vb<w.heap.size->w.heap[b]? =some (.cells cur t0 (0,0))->cur.size=c*k->vs.length=m*k->
  (∀v∈(cur.toList.drop (i*k)).take ((n - i)*k),v.oneCell'=true)->(∀j v,vs[j]? =some v->w.cell? ⟨vb,voff+j,none⟩=some v)->(∀v∈vs,v.oneCell'=true)->
  ∃(row:Array Value) (G:Nat),n+m<=G/\row.size=G*k/\row.toList.take ((n+m)*k)=cur.toList.take (i*k)++vs++(cur.toList.drop (i*k)).take ((n - i)*k)/\
  Calls P f #[.slice (some ⟨b,0,none⟩) n c,.int .i64 i,.slice (some ⟨vb,voff,none⟩) m vc] w fun E w'=>
   E=.returned (.slice (some ⟨w.heap.size,0,none⟩) (n+m) G)/\w'.heap[w.heap.size]? =some (.cells row e (0,0))/\w'.heap.size=w.heap.size+1/\(∀x,x<w.heap.size->w'.heap[x]? =w.heap[x]?)/\w'.os=w.os/\w'.tape=w.tape/\w'.output=w.output

theorem U0{b:Nat}{t e:TypeId}{x y:Value}{s q v:AV}{hp hp':Heap}{w:World}{X:Xc P}{μ:Nat->Option Nat}(ht:P.underlying t=some (.slice e))(hok:okT P e=true)(hz:yr P e=true)(hby:XD P e=true)(hH:HR w X μ hp)
  (h1:AR w X μ hp s x)(h2:AR w X μ hp q y)(h:YN (shOf P e) hp [s,q]=some (v,hp')):
  ∃v' w' μ',(Builtin.append_ #[t,t] t #[x,y]).run P w=.ok v' w'/\AR w' X μ' hp' v v'/\HR w' X μ' hp'/\Ext b X μ hp w μ' hp' w':=by
 obtain⟨n,v',w',μ',hr,hn,k1,k2,k3⟩:=vl (b:=b) (ty:=t) ht hok hz hby hH (.cons h1 (.cons h2 .nil)) h;simp only[Sem.run_bind] at hr;cases hq:(Builtin.append_ #[t,t] t #[x,y]).run P w with
 |ok u w2=>
  rw[hq] at hr;simp only[Result.andThen_ok,Sem.run_pure] at hr;cases hr;rcases hn with hn|⟨hn,_⟩
  ·cases hn;exact⟨_,_,_,rfl,k1,k2,k3⟩
  ·cases hn
 |_=>rw[hq] at hr;simp at hr
theorem U1(W:World)(x:Nat)(r:Array Value):(W.setRow x r).heap.size=W.heap.size:=by simp[World.setRow]
theorem U2{w w':World}{X:Xc P}{μ:Nat->Option Nat}{hp:Heap}{sh:Sh}{rr b nb i G:Nat}{es new:List PV}{vals nvals:List Value}{cs row:Array Value}{t0 t1:TypeId}
  (hH:HR w X μ hp)(ho:hp[rr]? =some (.arr sh es false))(hpos:0<sh.size)(hE:ER w (Im X μ hp) sh es vals)(hN:ER w (Im X μ hp) sh new nvals)(hmu:μ rr=some b)(hb:w.heap[b]? =some (.cells cs t0 (0,0)))
  (hcells:cellsOf vals=cs.toList.take (es.length*sh.size))(hi:i<=es.length)(hm:0<new.length)(hnb:nb=b\/nb=w.heap.size)(hrow:w'.heap[nb]? =some (.cells row t1 (0,0)))
  (hoth:∀x,x<w.heap.size->x≠nb->w'.heap[x]? =w.heap[x]?)(hsz:w.heap.size<=w'.heap.size)(hos:w'.os=w.os)(htp:w'.tape=w.tape)(hout:w'.output=w.output)
  (hsame:nb=b->row.size=cs.size/\t1=t0)(hrs:row.size=G*sh.size)(hG:es.length+new.length<=G)
  (htk:row.toList.take ((es.length+new.length)*sh.size)=cs.toList.take (i*sh.size)++cellsOf nvals++(cs.toList.drop (i*sh.size)).take ((es.length - i)*sh.size)):
  Xn hp.length w X μ hp (.ret (.sl sh rr (es.length+new.length) 0 (es.length+new.length))) (hp.set rr (.arr sh (es.take i++new++es.drop i) false)) (.returned (.slice (some ⟨nb,0,none⟩) (es.length+new.length) G)) w':=by
 have hrl:=(Ze.1 ho).1;have hbN:=YZ hb;have hel:(es.take i++new++es.drop i).length=es.length+new.length:=by simp;omega
 have hnbl:=YZ hrow;have E:∀b0,Ext b0 X μ hp w (upd μ rr (some nb)) (hp.set rr (.arr sh (es.take i++new++es.drop i) false)) w':=fun b0=>
  Ext.setArr ho (by rw[hel];omega) (fun h=>by cases h) (fun h=>by rw[hel] at h;omega) (fun k hk=>by
   cases hk;rcases hnb with h|h
   ·exact .inl (by rw[h];exact hmu)
   ·exact .inr (by omega)) hos htp hout hsz (fun k hk hne=>hoth k hk (fun e=>by
    rcases hnb with h|h
    ·exact hne rfl (by rw[e,h];exact hmu)
    ·omega)) (fun k cs' t fr hk=>by
    by_cases e:k=nb
    ·rcases hnb with h|h
     ·obtain⟨h1,h2⟩:=hsame h;have:k=b:=e.trans h;subst this;rw[hb] at hk;cases hk;exact⟨row,by rw[e,hrow,h2],h1⟩
     ·have:=YZ hk;omega
    ·exact⟨cs',by rw[hoth k (YZ hk) e];exact hk,rfl⟩)
 have hER:=((hE.take i).append hN).append (hE.drop i);have H:=hH.setArr ho (E 0) (fun k hk hne=>hoth k hk (fun e=>by
   rcases hnb with h|h
   ·exact hne (by rw[e,h];exact hmu)
   ·omega)) (fun k hk=>by
   cases hk;refine⟨?_,hnbl⟩;rcases hnb with h|h
   ·exact .inl (by rw[h];exact hmu)
   ·exact .inr (by omega)) (.inr ⟨nb,row,t1,vals.take i++nvals++vals.drop i,rfl,hrow,hER.1,(ER.ext (E 0) hER).2,?_⟩)
 ·refine⟨_,_,rfl,H,E _,?_⟩;refine .sl _ _ _ _ _ _ _ (es.take i++new++es.drop i) false (ZG hrl) (by omega) hG (fun _=>rfl) fun _=>⟨by omega,.inr ⟨nb,row,t1,Yn _ _ _,hrow,by rw[ZH];exact hrs.symm,fun _=>by simp⟩⟩
 ·rw[hel,htk,xH,xH,hE.cells_take i hi,hE.cells_drop i hi,hcells];have e1:(cs.toList.take (es.length*sh.size)).take (i*sh.size)=cs.toList.take (i*sh.size):=by
   rw[ZX]
   congr 1
   exact zs (zC hi (Zi _))
  have e2:(cs.toList.take (es.length*sh.size)).drop (i*sh.size)=(cs.toList.drop (i*sh.size)).take ((es.length - i)*sh.size):=by
   rw[Z5,Nat.sub_mul]
  rw[e1,e2]
theorem EC{f:FuncId}{fn:Func}{c:Code}{t e:TypeId}(R:InsRoads P f t e (shOf P e).size)(hf:P.funcs[f]? =some fn)(hb:fn.body=some c)(hn:fn.name≠ "runtime.NumGoroutine")(ht:P.underlying t=some (.slice e))(hok:okT P e=true)(hz:yr P e=true)(hby:XD P e=true):
  ja P f (xl (shOf P e)):=by
 intro args hp r hp' h w X μ vs hH hl;have hlift:∀{K:Ending->World->Prop},Calls P f vs.toArray w K->Called P f vs.toArray w K:=fun h=>.inl ⟨qT hf hb hn,h⟩;unfold xl at h;split at h
 ·rename_i s sh0 i shx new;split at h
  ·rename_i hc;obtain⟨rfl,hnew⟩:=hc;have hm:0<new.length:=List.length_pos_iff.2 hnew;cases hl with|cons h1 hl=>
   cases hl with|cons h2 hl=>
   cases hl with|cons h3 hl=>
   cases hl;rename_i vs1 vs2 vs3;cases h2 with|pv _ _ _ _ h2=>
   cases h2;have h3':=h3;cases h3 with|tsl _ _ a hq=>
   have hq':=hq;cases hq with
   |nilsl=>exact(hnew rfl).elim
   |sl _ _ vb vo vn vcs vt vfr vvals hvl hvI hvb hv1 hv2 hvc hvn=>
   split at h
   ·rename_i s1 rr ver off len;split at h
    ·rename_i hi;split at h
     ·rename_i hlen;split at h
      ·rename_i v hp1 hap;cases h;obtain⟨v',w',μ',g1,g2,g3,g4⟩:=U0 (b:=hp.length) ht hok hz hby hH h1 h3' hap;cases h1 with|sl _ _ _ _ _ ba cap es fz ho hv hlc ha hcc=>
       subst hi;refine hlift ((R.endr ba len cap vb vo new.length new.length w w' v' hm hlc hlen g1).mono fun E W hE=> ?_);obtain⟨rfl,rfl⟩:=hE;exact⟨μ',_,rfl,g3,g4,g2⟩
      ·cases h
     ·cases h
    ·rename_i hi;split at h
     ·rename_i s' es ho;split at h
      ·rename_i hcc;obtain⟨rfl,rfl,rfl,rfl,rfl,hi0,hil,hlim⟩:=hcc;cases h;obtain⟨j,rfl⟩:∃j:Nat,i=(j:Int):=⟨i.toNat,by omega⟩;have hjl:j<es.length:=by omega
       obtain⟨hpos,harr⟩:=hH.arr rr _ es false ho;have hN:ER w (Im X μ hp) (shOf P e) new vvals:=⟨hvl,fun k p v hp hv=>⟨hv1 k p v hp hv,hv2 k p v hp hv⟩⟩;have hNl:=hN.length;have hNc:=qH hvb hvc;cases h1 with|sl _ _ _ _ _ ba cap es1 fz1 ho1 hv1' hlc ha hcc=>
       rw[ho] at ho1;cases ho1;obtain⟨_,c2⟩:=hcc rfl;rcases harr with⟨h1,h2⟩|⟨b,cs,t0,vals,h1,h2,h3,h4,h5⟩
       ·rw[h2] at hjl;simp at hjl
       have hE:ER w (Im X μ hp) (shOf P e) es vals:=⟨h3,h4⟩;have hEl:=hE.length;rcases c2 with⟨c3,_⟩|⟨b',cs',t',c3,c4,c5,c6⟩
       ·rw[h1] at c3;cases c3
       rw[h1] at c3;cases c3;rw[h2] at c4;cases c4;rw[ZH] at c5;have hba:=c6 (by omega);rw[Nat.zero_mul] at hba;subst hba;have hlive:live hp rr=true:=by simp[live,ho]
       have hne:vb≠b:=fun e=>hvI.2 rr hlive (by rw[e];exact h1);have hvcell:∀(k:Nat) v,(cellsOf vvals)[k]? =some v->w.cell? ⟨vb,vo+k,none⟩=some v:=fun k v hk=>by
        have:=hNc k v hk;have ha:(⟨vb,vo,none⟩:Addr).add k=⟨vb,vo+k,none⟩:=by unfold Addr.add;split <;> simp_all
        rwa [ha] at this
       have hoc:∀v∈(cs.toList.drop (j*(shOf P e).size)).take ((es.length - j)*(shOf P e).size),v.oneCell'=true:=fun v hv=>by
        have e2:(cs.toList.take (es.length*(shOf P e).size)).drop (j*(shOf P e).size)=(cs.toList.drop (j*(shOf P e).size)).take ((es.length - j)*(shOf P e).size):=by rw[Z5,Nat.sub_mul]
        rw[<-e2,<-h5] at hv;exact hE.flat v (zG hv)
       simp only[Int.toNat_natCast];by_cases hroom:es.length+new.length<=cap
       ·have hkA:vcs.size≠0:=by
         intro h0;have:=congrArg List.length hvc;have h00:vcs.toList=[]:=ZQ.1 (by simpa using h0);rw[hNl,h00] at this;simp at this;have:=Nat.mul_pos hm hpos;omega
        obtain⟨cur2,hc2,hcall⟩:=R.shift b es.length cap j vb vo new.length new.length cs t0 (cellsOf vvals) w hjl hm hroom hlim hne h2 c5.symm hNl hoc hvcell hN.flat vt vcs.size (by simp[World.shape?,hvb]) hkA;refine hlift (hcall.mono fun E W hE'=> ?_);obtain⟨rfl,cur1,rfl⟩:=hE';have hrow1:(w.drew.setRow b cur1).heap[b]? =some (.cells cur1 t0 (0,0)):=setRow_heap w.drew b cs cur1 t0 _ h2;have hrow2:=setRow_heap (w.drew.setRow b cur1) b cur1 cur2 t0 _ hrow1;have hc2l:cur2.size=cs.size:=by
         have:=congrArg List.length hc2;have hb1:j*(shOf P e).size<=es.length*(shOf P e).size:=zC (by omega) (Zi _);have hb2:(es.length+new.length)*(shOf P e).size<=cap*(shOf P e).size:=zC hroom (Zi _);simp only[Zc,Zn,ZY,Zs,hNl,Nat.sub_mul,ZI] at this hb2;omega
        refine U2 hH ho hpos hE hN h1 h2 h5 (by omega) hm (.inl rfl) hrow2 (fun x _ hx=> ?_) (by rw[U1,U1];exact Nat.le_of_eq rfl) rfl rfl rfl (fun _=>⟨hc2l,rfl⟩) (by rw[hc2l];exact c5.symm) hroom ?_
        ·simp[World.setRow,Array.getElem?_modify,Ne.symm hx];rfl
        ·rw[hc2];exact ZD (by
          have hb1:j*(shOf P e).size<=es.length*(shOf P e).size:=zC (by omega) (Zi _);have hb2:(es.length+new.length)*(shOf P e).size<=cap*(shOf P e).size:=zC hroom (Zi _);simp only[Zc,Zn,ZY,Zs,hNl,Nat.sub_mul,ZI] at hb2 ⊢;omega)
       ·obtain⟨row,G,g1,g2,g3,hcall⟩:=R.grow b es.length cap j vb vo new.length new.length cs t0 (cellsOf vvals) w hjl hm hlc (by omega) hlim (YZ hvb) h2 c5.symm hNl hoc hvcell hN.flat;refine hlift (hcall.mono fun E W hE'=> ?_);obtain⟨rfl,k1,k2,k3,k4,k5,k6⟩:=hE';exact U2 hH ho hpos hE hN h1 h2 h5 (by omega) hm (.inr rfl) k1 (fun x hx _=>k3 x hx) (by omega) k4 k5 k6 (fun e=>by have:=YZ h2;omega) g2 g1 g3
      ·cases h
     ·cases h
   ·rename_i s1 es;split at h
    ·rename_i hi;obtain⟨hi,hlen⟩:=hi;split at h
     ·rename_i v hp1 hap;cases h;obtain⟨v',w',μ',g1,g2,g3,g4⟩:=U0 (b:=hp.length) ht hok hz hby hH h1 h3' hap;cases h1 with|tsl _ _ a1 hq1=>
      subst hi;refine hlift ((R.endr a1 es.length es.length vb vo new.length new.length w w' v' hm (Zi _) hlen g1).mono fun E W hE=> ?_);obtain⟨rfl,rfl⟩:=hE;exact⟨μ',_,rfl,g3,g4,g2⟩
     ·cases h
    ·cases h
   ·cases h
  ·cases h
 ·cases h
end Go.Am

/- What is proved: copying rows of cells; two slices of different blocks do not overlap. -/
namespace Go.Am
open Go
variable{P:Program}
theorem jb(w:World)(dT sT ty elem:TypeId)(g o dLen dCap:Nat)(a:Addr)(sLen sCap k:Nat)(cur:Array Value)(t:TypeId)(cs:List Value)
  (hu:P.underlying dT=some (.slice elem))(hs:(P.info? elem).map (·.size)=some k)
  (hg:w.heap[g]? =some (.cells cur t (0,0)))(hn:cs.length=Nat.min sLen dLen*k)
  (hsrc:∀j v,cs[j]? =some v->w.cell? (a.add j)=some v)(hfit:o+cs.length<=cur.size)(h1:∀v∈cs,v.oneCell'=true):
  (Builtin.copy_ #[dT,sT] ty #[.slice (some ⟨g,o,none⟩) dLen dCap,.slice (some a) sLen sCap]).run P w=
   .ok (goInt (Nat.min sLen dLen)) (w.setRow g (cur.toList.take o++cs++cur.toList.drop (o+cs.length)).toArray):=by
 have hl:=run_loadCells_list (P:=P) w a cs hsrc;have hst:=run_storeCells_at P g o t cs 0 cur w hg (by simpa using hfit) h1;cases hq:P.info? elem with
 |none=>simp[hq] at hs
 |some i=>
  have hi:i.size=k:=by simpa[hq] using hs
  simp[Builtin.copy_,run_underlying hu,Builtin.lenOf,Builtin.firstCells,sizeOf,typeInfo,hq,hi,<-hn,hl,hst]
theorem ED(w:World)(tS tR e:TypeId)(ht:P.underlying tS=some (.slice e))(size:Nat)(hz:∀w,(Go.sizeOf e).run P w=.ok size w)
  (a b:Addr)(la ca lb cb:Nat)(hne:a.block≠b.block)(tA tB:TypeId)(kA kB:Nat)
  (hsa:w.shape? a.block=some (tA,kA))(hsb:w.shape? b.block=some (tB,kB))(hkA:kA≠0)(hkB:kB≠0)
  (hfb:∀o,w.frozen? { block:=b.block,off:=o }=false)(hfb':w.frozen? b=false):
  (Extern.SlicesOverlaps.overlaps #[tS,tS] #[tR] #[.slice (some a) la ca,.slice (some b) lb cb]).run P w=.ok (.bool false) w:=by
 have hnb:(a.block != b.block)=true:=by simpa using hne
 have hnb':(a.block == b.block)=false:=by simpa using hne
 change Sem.run P (α:=Value) (do
  let some t:=(#[tS,tS]:Array TypeId)[0]? |stuck "slices.overlaps: no parameter types"
  let .slice elem <-underlying t|stuck "slices.overlaps: slice type expected"
  let size <-sizeOf elem
  match(some a:Option Addr),(some b:Option Addr) with
  |some a,some b=>
   if la=0\/lb=0\/size=0 then pure (Value.bool false)
   else if a.block != b.block && (<-frozen a) && (<-frozen b) then unsupported .addressObserved
   else do
    if a.block != b.block then do
     noView a;noView b
     if <-mayBeOne a b then return Value.bool ((<-choose (.extern "sameAddr.stringBytes" 2)) == 1)
    pure (Value.bool (a.block == b.block && a.off<b.off+lb*size && b.off<a.off+la*size))
  |_,_=>pure (Value.bool false)) w=_
 by_cases h0:la=0\/lb=0\/size=0
 ·simp[run_underlying ht,hz,h0]
 ·cases kB with
  |zero=>exact absurd rfl hkB
  |succ kB=>
   cases kA with
   |zero=>exact absurd rfl hkA
   |succ kA=>
    cases hfa:w.frozen? a <;> cases hfe:w.frozen? { block:=a.block,off:=kA+1 } <;>
    simp[run_underlying ht,hz,h0,hnb,hnb',frozen,noView,viewAt,mayBeOne,stringish,shape,Sem.run,hsa,hsb,hfb,hfb',hfa,hfe]
end Go.Am

/- Terms as plain data. -/
namespace Go.Am
inductive Tm where
 |mk (kind n:Int) (name:List UInt8) (args:List Tm)
 deriving Inhabited
mutual
def Tm.pv:Tm->PV
 | .mk k n s as=>.agg [(none,.int .i64 k),(none,.int .i64 n),(none,.str s),(none,.sl (some 4) (Tm.pvs as))]
def Tm.pvs:List Tm->List PV
 |[]=>[]
 |t::r=>t.pv::Tm.pvs r
end
def Tm.kind:Tm->Int| .mk k _ _ _=>k
def Tm.n:Tm->Int| .mk _ n _ _=>n
def Tm.name:Tm->List UInt8| .mk _ _ s _=>s
def Tm.args:Tm->List Tm| .mk _ _ _ as=>as
def Tm.av(t:Tm):AV:=.pv (some 4) t.pv
theorem Tm.zzr(t:Tm):t.pv=.agg [(none,.int .i64 t.kind),(none,.int .i64 t.n),(none,.str t.name),(none,.sl (some 4) (Tm.pvs t.args))]:=by cases t;rfl
end Go.Am

/- What code comes to: rules that a proof steps by. -/
namespace Go.Am
variable{Γ:Oracle} {Λ:Yy} {b:Nat}

class Tag.{u} {α:Sort u} (a:α):Type where
instance tagAny.{u}{α:Sort u}(a:α):Tag a:=⟨⟩

def W(Γ:Oracle)(Λ:Yy)(b:Nat)(c:ACode)(st:St)(Q:AExit->St->Prop)[Tag Q]:Prop:=
 match aexec Γ Λ b c st with
 |some (e,st')=>Q e st'
 |none=>False
def O(Γ:Oracle)(b:Nat)(ops:List AOper)(fr:Fr)(hp:Heap)(K:Fr->Heap->Prop)(Kp:PV->Fr->Heap->Prop)[Tag K][Tag Kp]:Prop:=
 match aops Γ b ops fr hp with
 |some (.normal,fr',hp')=>K fr' hp'
 |some (.panic v,fr',hp')=>Kp v fr' hp'
 |_=>False
def seqK(k:St->Prop)(Q:AExit->St->Prop)[Tag k][Tag Q]:AExit->St->Prop
 | .normal,st=>k st
 | .exit i,st=>Q (.exit i) st
 | .ret,st=>Q .ret st
 | .panic v,st=>Q (.panic v) st
def Q6(id:Nat)(Q:AExit->St->Prop)[Tag Q]:AExit->St->Prop
 | .exit i,st=>if i=id then Q .normal st else Q (.exit i) st
 | .normal,st=>Q .normal st
 | .ret,st=>Q .ret st
 | .panic v,st=>Q (.panic v) st
def jc(v:Option AV)(A B:Prop)[Tag A][Tag B]:Prop:=
 match v with
 |some (.pv _ (.bool b))=>if b=true then A else B
 |_=>False
def panK(pan:Bool)(A:Prop)[Tag A]:Prop:=if pan=true then A else False
def qX(v:Option Bool)(A B:Prop)[Tag A][Tag B]:Prop:=
 match v with
 |some b=>if b=true then A else B
 |none=>False
def argK(v:Option (List AV))(K:List AV->Prop)[Tag K]:Prop:=
 match v with
 |some l=>K l
 |none=>False
def opK(v:Option OpRes)(K:AV->Heap->Prop)(Kp:PV->Heap->Prop)[Tag K][Tag Kp]:Prop:=
 match v with
 |some (.val v hp)=>K v hp
 |some (.panic v hp)=>Kp v hp
 |none=>False
def YV(v:Option (AV × Heap))(K:AV->Heap->Prop)[Tag K]:Prop:=
 match v with
 |some (v,hp)=>K v hp
 |none=>False
def Qx(v:Option (ARes × Heap))(K:AV->Heap->Prop)(Kp:PV->Heap->Prop)[Tag K][Tag Kp]:Prop:=
 match v with
 |some (.ret v,hp)=>K v hp
 |some (.panic v,hp)=>Kp v hp
 |none=>False

variable{st:St} {Q:AExit->St->Prop} {fr:Fr} {hp:Heap} {K:Fr->Heap->Prop} {Kp:PV->Fr->Heap->Prop}
theorem EE:W Γ Λ b .skip st Q=Q .normal st:=rfl
theorem EF(i:Nat):W Γ Λ b (.exit i) st Q=Q (.exit i) st:=rfl
theorem EG:W Γ Λ b .ret st Q=Q .ret st:=rfl
theorem EH(l:List Nat):W Γ Λ b (.settle l) st Q=(match settle l st with|some st'=>Q .normal st'|none=>False):=by
 unfold W;simp only[aexec];cases settle l st <;> rfl
theorem U3(x y:ACode):W Γ Λ b (.seq x y) st Q=W Γ Λ b x st (seqK (fun st'=>W Γ Λ b y st' Q) Q):=by
 unfold W;simp only[aexec];cases aexec Γ Λ b x st with
 |none=>rfl
 |some r=>
  obtain⟨e,st'⟩:=r;cases e <;> rfl
theorem EI(c:AArg)(x y:ACode):W Γ Λ b (.cond c x y) st Q=jc (st.fr.arg c) (W Γ Λ b x st Q) (W Γ Λ b y st Q):=by
 unfold W;simp only[aexec];cases st.fr.arg c with
 |none=>rfl
 |some v=>
  cases v with
  |pv s p=>
   cases p with
   |bool v=>cases v <;> simp[jc]
   |_=>rfl
  |_=>rfl
theorem EJ(id:Nat)(c:ACode):W Γ Λ b (.block id c) st Q=W Γ Λ b c st (Q6 id Q):=by
 unfold W;simp only[aexec];cases aexec Γ Λ b c st with
 |none=>rfl
 |some r=>
  obtain⟨e,st'⟩:=r;cases e with
  |exit i=>
   simp only[Q6];by_cases h:i=id
   ·simp[h]
   ·simp[h]
  |_=>rfl
theorem EK(pan:Bool)(ops:List AOper)(keep:List Nat):W Γ Λ b (.region pan ops keep) st Q=O Γ b ops st.fr st.hp (fun fr hp=>Q .normal ⟨fr.keep keep,hp⟩) (fun v fr hp=>panK pan (Q (.panic v) ⟨fr.keep keep,hp⟩)):=by
 unfold W O;simp only[aexec];cases aops Γ b ops st.fr st.hp with
 |none=>rfl
 |some r=>
  obtain⟨e,fr,hp⟩:=r;cases e with
  |panic v=>cases pan <;> simp[panK]
  |_=>rfl
theorem EL:O Γ b [] fr hp K Kp=K fr hp:=rfl
theorem U4(o:AOper)(r:List AOper):O Γ b (o::r) fr hp K Kp=qX (wants fr o.guard) (argK (fr.argsOf o.args) fun vs=>opK (aOp Γ b o.op vs hp) (fun v hp'=>O Γ b r (fr.dst o.dst v) hp' K Kp) (fun v hp'=>Kp v fr hp')) (O Γ b r (fr.dst o.dst .undef) hp K Kp):=by
 unfold O;simp only[aops];cases wants fr o.guard with
 |none=>rfl
 |some w=>
  cases w with
  |false=>simp[qX]
  |true=>
   simp only[qX,if_true];cases fr.argsOf o.args with
   |none=>rfl
   |some vs=>
    simp only[argK];cases aOp Γ b o.op vs hp with
    |none=>rfl
    |some r=>cases r <;> rfl
theorem EM(d:Option Nat)(op:AOp)(as:List AArg)(r:List AOper):O Γ b (⟨d,op,as,none⟩::r) fr hp K Kp=argK (fr.argsOf as) fun vs=>opK (aOp Γ b op vs hp) (fun v hp'=>O Γ b r (fr.dst d v) hp' K Kp) (fun v hp'=>Kp v fr hp'):=by
 rw[U4];rfl
def Q7(v:Option AV)(w:Bool)(A B:Prop)[Tag A][Tag B]:Prop:=
 match v with
 |some (.pv _ (.bool b))=>if b=w then A else B
 |some .undef=>B
 |_=>False
theorem EN(d:Option Nat)(op:AOp)(as:List AArg)(s:Nat)(w:Bool)(r:List AOper):O Γ b (⟨d,op,as,some (s,w)⟩::r) fr hp K Kp=Q7 (fr.look s) w (argK (fr.argsOf as) fun vs=>opK (aOp Γ b op vs hp) (fun v hp'=>O Γ b r (fr.dst d v) hp' K Kp) (fun v hp'=>Kp v fr hp')) (O Γ b r (fr.dst d .undef) hp K Kp):=by
 rw[U4];simp only[wants];cases h:fr.look s with
 |none=>rfl
 |some v=>
  cases v with
  |pv sh p=>
   cases p with
   |bool c=>cases c <;> cases w <;> simp[qX,Q7]
   |_=>rfl
  |undef=>simp[qX,Q7]
  |_=>rfl
theorem EO(s:Nat):fr.arg (.t s)=fr.look s:=rfl
theorem EP(v:AV):fr.arg (.c v)=some v:=rfl
theorem EQ(s:Nat):Fr.look [] s=none:=rfl
theorem ES(k s:Nat)(v:AV)(r:Fr):Fr.look ((k,v)::r) s=if k=s then some v else Fr.look r s:=rfl
theorem ET(d:Nat)(v:AV):fr.dst (some d) v=(d,v)::fr:=rfl
theorem EU(v:AV):fr.dst none v=fr:=rfl
theorem EV:fr.argsOf []=some []:=rfl
def je(v:Option AV)(l:Option (List AV)):Option (List AV):=
 match v with
 |none=>none
 |some v=>match l with
  |some l=>some (v::l)
  |none=>none
theorem EW(a:AArg)(r:List AArg):fr.argsOf (a::r)=je (fr.arg a) (fr.argsOf r):=rfl
theorem EX(v:AV)(l:List AV):je (some v) (some l)=some (v::l):=rfl
theorem EY(l:List AV)(K:List AV->Prop):argK (some l) K=K l:=rfl
def iteK(v:Prop)(A B:Prop)[Tag A][Tag B]:Prop:=(v->A)/\(¬v->B)
theorem EZ(s:Sh)(v:Bool)(A B:Prop):jc (some (.pv s (.bool v))) A B=iteK (v=true) A B:=by
 cases v <;> simp[jc,iteK]
theorem E0(s:Sh)(v w:Bool)(A B:Prop):Q7 (some (.pv s (.bool v))) w A B=iteK (v=w) A B:=by
 cases v <;> cases w <;> simp[Q7,iteK]
theorem E5(w:Bool)(A B:Prop):Q7 (some .undef) w A B=B:=rfl
theorem E6(A B:Prop):iteK True A B=A:=by simp[iteK]
theorem E7(A B:Prop):iteK False A B=B:=by simp[iteK]
theorem E8(v A B:Prop):iteK (¬v) A B=iteK v B A:=by
 by_cases h:v <;> simp[iteK,h]
theorem YI{v A B:Prop}(hA:v->A)(hB:¬v->B):iteK v A B:=⟨hA,hB⟩
attribute [irreducible] iteK
theorem E9(v:AV)(hp:Heap)(K:AV->Heap->Prop):YV (some (v,hp)) K=K v hp:=rfl
theorem ed(v:AV)(hp:Heap)(K:AV->Heap->Prop)(Kp:PV->Heap->Prop):Qx (some (.ret v,hp)) K Kp=K v hp:=rfl
theorem ee(v:PV)(hp:Heap)(K:AV->Heap->Prop)(Kp:PV->Heap->Prop):Qx (some (.panic v,hp)) K Kp=Kp v hp:=rfl
theorem ef:fr.keep []=[]:=rfl
def K8(k:Nat)(v:Option AV)(r:Fr):Fr:=
 match v with
 |some v=>(k,v)::r
 |none=>r
theorem eg(k:Nat)(ks:List Nat):fr.keep (k::ks)=K8 k (fr.look k) (fr.keep ks):=rfl
theorem eh(k:Nat)(v:AV)(r:Fr):K8 k (some v) r=(k,v)::r:=rfl
theorem el(k:Nat)(r:Fr):K8 k none r=r:=rfl
theorem en(k:St->Prop)(Q:AExit->St->Prop)(st:St):seqK k Q .normal st=k st:=rfl
theorem ep(k:St->Prop)(Q:AExit->St->Prop)(i:Nat)(st:St):seqK k Q (.exit i) st=Q (.exit i) st:=rfl
theorem er(k:St->Prop)(Q:AExit->St->Prop)(st:St):seqK k Q .ret st=Q .ret st:=rfl
theorem et(k:St->Prop)(Q:AExit->St->Prop)(v:PV)(st:St):seqK k Q (.panic v) st=Q (.panic v) st:=rfl
theorem eu(id:Nat)(Q:AExit->St->Prop)(st:St):Q6 id Q .normal st=Q .normal st:=rfl
theorem ew(id:Nat)(Q:AExit->St->Prop)(i:Nat)(st:St):Q6 id Q (.exit i) st=if i=id then Q .normal st else Q (.exit i) st:=rfl
theorem eA(id:Nat)(Q:AExit->St->Prop)(st:St):Q6 id Q .ret st=Q .ret st:=rfl
theorem eB(id:Nat)(Q:AExit->St->Prop)(v:PV)(st:St):Q6 id Q (.panic v) st=Q (.panic v) st:=rfl
end Go.Am

/- What code comes to: the operations. -/
namespace Go.Am
variable{Γ:Oracle} {Λ:Yy} {b:Nat} {hp:Heap} {vs:List AV} {K:AV->Heap->Prop} {Kp:PV->Heap->Prop}
def valK(v:Option AV)(K:AV->Prop)[Tag K]:Prop:=
 match v with
 |some v=>K v
 |none=>False
def pvK(v:Option PV)(K:PV->Prop)[Tag K]:Prop:=
 match v with
 |some v=>K v
 |none=>False
theorem eC(v:AV)(K:AV->Prop):valK (some v) K=K v:=rfl
theorem eD(v:PV)(K:PV->Prop):pvK (some v) K=K v:=rfl

theorem eF:opK (aOp Γ b .mv vs hp) K Kp=valK (sMv vs) (fun v=>K v hp):=by
 show opK (match YM hp (sMv vs) with|some (v,hp')=>some (OpRes.val v hp')|none=>none) K Kp=_;cases sMv vs <;> rfl
theorem eG:opK (aOp Γ b .len vs hp) K Kp=valK (sLen vs) (fun v=>K v hp):=by
 show opK (match YM hp (sLen vs) with|some (v,hp')=>some (OpRes.val v hp')|none=>none) K Kp=_;cases sLen vs <;> rfl
theorem eH:opK (aOp Γ b .slen vs hp) K Kp=valK (Qf vs) (fun v=>K v hp):=by
 show opK (match YM hp (Qf vs) with|some (v,hp')=>some (OpRes.val v hp')|none=>none) K Kp=_;cases Qf vs <;> rfl
theorem eI:opK (aOp Γ b .pick vs hp) K Kp=valK (Qa vs) (fun v=>K v hp):=by
 show opK (match YM hp (Qa vs) with|some (v,hp')=>some (OpRes.val v hp')|none=>none) K Kp=_;cases Qa vs <;> rfl
theorem eJ:opK (aOp Γ b .not vs hp) K Kp=valK (sNot vs) (fun v=>K v hp):=by
 show opK (match YM hp (sNot vs) with|some (v,hp')=>some (OpRes.val v hp')|none=>none) K Kp=_;cases sNot vs <;> rfl
theorem eK(o:BinOp):opK (aOp Γ b (.bin o) vs hp) K Kp=valK (sBin o vs) (fun v=>K v hp):=by
 show opK (match YM hp (sBin o vs) with|some (v,hp')=>some (OpRes.val v hp')|none=>none) K Kp=_;cases sBin o vs <;> rfl
theorem eM(o:BinOp):opK (aOp Γ b (.binb o) vs hp) K Kp=valK (Qb o vs) (fun v=>K v hp):=by
 show opK (match YM hp (Qb o vs) with|some (v,hp')=>some (OpRes.val v hp')|none=>none) K Kp=_;cases Qb o vs <;> rfl
theorem eN(z:List (Sh × AV))(i:List Nat):opK (aOp Γ b (.build z i) vs hp) K Kp=valK (Ym z i vs) (fun v=>K v hp):=by
 show opK (match YM hp (Ym z i vs) with|some (v,hp')=>some (OpRes.val v hp')|none=>none) K Kp=_;cases Ym z i vs <;> rfl
theorem eO(sh:Sh):opK (aOp Γ b (.bslicep sh) vs hp) K Kp=valK (xy sh vs) (fun v=>K v hp):=by
 show opK (match YM hp (xy sh vs) with|some (v,hp')=>some (OpRes.val v hp')|none=>none) K Kp=_;cases xy sh vs <;> rfl
theorem eP(o:Nat):opK (aOp Γ b (.faddr o) vs hp) K Kp=valK (XX o vs) (fun v=>K v hp):=by
 show opK (match YM hp (XX o vs) with|some (v,hp')=>some (OpRes.val v hp')|none=>none) K Kp=_;cases XX o vs <;> rfl
theorem eQ(sh:Sh):opK (aOp Γ b (.iaddr sh) vs hp) K Kp=valK (yg sh vs) (fun v=>K v hp):=by
 show opK (match YM hp (yg sh vs) with|some (v,hp')=>some (OpRes.val v hp')|none=>none) K Kp=_;cases yg sh vs <;> rfl
theorem eR(sh:Sh)(n:Nat):opK (aOp Γ b (.iaddrA sh n) vs hp) K Kp=valK (Xi sh n vs) (fun v=>K v hp):=by
 show opK (match YM hp (Xi sh n vs) with|some (v,hp')=>some (OpRes.val v hp')|none=>none) K Kp=_;cases Xi sh n vs <;> rfl
theorem eS:opK (aOp Γ b .sindex vs hp) K Kp=valK (xz vs) (fun v=>K v hp):=by
 show opK (match YM hp (xz vs) with|some (v,hp')=>some (OpRes.val v hp')|none=>none) K Kp=_;cases xz vs <;> rfl
theorem eT(sh:Sh)(l h:Bool):opK (aOp Γ b (.slice sh l h) vs hp) K Kp=valK (yk sh l h vs) (fun v=>K v hp):=by
 show opK (match YM hp (yk sh l h vs) with|some (v,hp')=>some (OpRes.val v hp')|none=>none) K Kp=_;cases yk sh l h vs <;> rfl
theorem eU(f:Fn)(k:Nat):opK (aOp Γ b (.mkfunc f k) vs hp) K Kp=valK (Qc f k vs) (fun v=>K v hp):=by
 show opK (match YM hp (Qc f k vs) with|some (v,hp')=>some (OpRes.val v hp')|none=>none) K Kp=_;cases Qc f k vs <;> rfl
theorem eV(k:IntKind):opK (aOp Γ b (.conv k) vs hp) K Kp=valK (Qd k vs) (fun v=>K v hp):=by
 show opK (match YM hp (Qd k vs) with|some (v,hp')=>some (OpRes.val v hp')|none=>none) K Kp=_;cases Qd k vs <;> rfl
theorem eW(i:Nat):opK (aOp Γ b (.extract i) vs hp) K Kp=valK (Qe i vs) (fun v=>K v hp):=by
 show opK (match YM hp (Qe i vs) with|some (v,hp')=>some (OpRes.val v hp')|none=>none) K Kp=_;cases Qe i vs <;> rfl
theorem eZ:opK (aOp Γ b .min vs hp) K Kp=valK (sMin vs) (fun v=>K v hp):=by
 show opK (match YM hp (sMin vs) with|some (v,hp')=>some (OpRes.val v hp')|none=>none) K Kp=_;cases sMin vs <;> rfl
theorem Ha:opK (aOp Γ b .max vs hp) K Kp=valK (sMax vs) (fun v=>K v hp):=by
 show opK (match YM hp (sMax vs) with|some (v,hp')=>some (OpRes.val v hp')|none=>none) K Kp=_;cases sMax vs <;> rfl
theorem Hb(t:TypeId):opK (aOp Γ b (.mkiface t) vs hp) K Kp=valK (xd t vs) (fun v=>K v hp):=by
 show opK (match YM hp (xd t vs) with|some (v,hp')=>some (OpRes.val v hp')|none=>none) K Kp=_;cases xd t vs <;> rfl
theorem Hc(t:TypeId)(sh:Sh)(z:AV)(k:Bool):opK (aOp Γ b (.assert t sh z k) vs hp) K Kp=valK (xA t sh z k vs) (fun v=>K v hp):=by
 show opK (match YM hp (xA t sh z k vs) with|some (v,hp')=>some (OpRes.val v hp')|none=>none) K Kp=_;cases xA t sh z k vs <;> rfl
theorem Hd(sh:Sh):opK (aOp Γ b (.load sh) vs hp) K Kp=valK (XY sh hp vs) (fun v=>K v hp):=by
 show opK (match YM hp (XY sh hp vs) with|some (v,hp')=>some (OpRes.val v hp')|none=>none) K Kp=_;cases XY sh hp vs <;> rfl
theorem He(s:Bool)(sh:Sh)(z:AV)(k:Bool):opK (aOp Γ b (.lookup s sh z k) vs hp) K Kp=valK (yh s sh z k hp vs) (fun v=>K v hp):=by
 show opK (match YM hp (yh s sh z k hp vs) with|some (v,hp')=>some (OpRes.val v hp')|none=>none) K Kp=_;cases yh s sh z k hp vs <;> rfl
theorem Hf:opK (aOp Γ b .mlen vs hp) K Kp=valK (xe hp vs) (fun v=>K v hp):=by
 show opK (match YM hp (xe hp vs) with|some (v,hp')=>some (OpRes.val v hp')|none=>none) K Kp=_;cases xe hp vs <;> rfl
theorem Hg(sh:Sh):opK (aOp Γ b (.nilsl sh) vs hp) K Kp=YV (YB sh hp) K:=by
 show opK (match(YB sh hp) with|some (v,hp')=>some (OpRes.val v hp')|none=>none) K Kp=_;cases (YB sh hp) with
 |none=>rfl
 |some r=>cases r;rfl
theorem Hh(sh:Sh)(z:AV):opK (aOp Γ b (.alloc sh z) vs hp) K Kp=YV (y9 sh z hp vs) K:=by
 show opK (match(y9 sh z hp vs) with|some (v,hp')=>some (OpRes.val v hp')|none=>none) K Kp=_;cases (y9 sh z hp vs) with
 |none=>rfl
 |some r=>cases r;rfl
theorem Hi(sh:Sh):opK (aOp Γ b (.box sh) vs hp) K Kp=YV (wBox sh hp vs) K:=by
 show opK (match(wBox sh hp vs) with|some (v,hp')=>some (OpRes.val v hp')|none=>none) K Kp=_;cases (wBox sh hp vs) with
 |none=>rfl
 |some r=>cases r;rfl
theorem Hj(sh:Sh):opK (aOp Γ b (.bslice sh) vs hp) K Kp=YV (yp sh hp vs) K:=by
 show opK (match(yp sh hp vs) with|some (v,hp')=>some (OpRes.val v hp')|none=>none) K Kp=_;cases (yp sh hp vs) with
 |none=>rfl
 |some r=>cases r;rfl
theorem Hk(sh:Sh):opK (aOp Γ b (.store sh) vs hp) K Kp=YV (Yw sh b hp vs) K:=by
 show opK (match(Yw sh b hp vs) with|some (v,hp')=>some (OpRes.val v hp')|none=>none) K Kp=_;cases (Yw sh b hp vs) with
 |none=>rfl
 |some r=>cases r;rfl
theorem Hl(sh:Sh)(z:PV):opK (aOp Γ b (.mkslice sh z) vs hp) K Kp=YV (XA sh z hp vs) K:=by
 show opK (match(XA sh z hp vs) with|some (v,hp')=>some (OpRes.val v hp')|none=>none) K Kp=_;cases (XA sh z hp vs) with
 |none=>rfl
 |some r=>cases r;rfl
theorem Hm(s:Bool)(sh:Sh):opK (aOp Γ b (.mapset s sh) vs hp) K Kp=YV (Xr s sh hp vs) K:=by
 show opK (match(Xr s sh hp vs) with|some (v,hp')=>some (OpRes.val v hp')|none=>none) K Kp=_;cases (Xr s sh hp vs) with
 |none=>rfl
 |some r=>cases r;rfl
theorem Hn(sh:Sh)(z:PV):opK (aOp Γ b (.clear sh z) vs hp) K Kp=YV (xD sh z hp vs) K:=by
 show opK (match(xD sh z hp vs) with|some (v,hp')=>some (OpRes.val v hp')|none=>none) K Kp=_;cases (xD sh z hp vs) with
 |none=>rfl
 |some r=>cases r;rfl
theorem Ho(sh:Sh):opK (aOp Γ b (.append sh) vs hp) K Kp=YV (YN sh hp vs) K:=by
 show opK (match(YN sh hp vs) with|some (v,hp')=>some (OpRes.val v hp')|none=>none) K Kp=_;cases (YN sh hp vs) with
 |none=>rfl
 |some r=>cases r;rfl
theorem Hp(sh:Sh):opK (aOp Γ b (.bslo sh) vs hp) K Kp=YV (xC sh hp vs) K:=by
 show opK (match xC sh hp vs with|some (v,hp')=>some (OpRes.val v hp')|none=>none) K Kp=_;cases xC sh hp vs with
 |none=>rfl
 |some r=>cases r;rfl
theorem Hq(sh:Sh):opK (aOp Γ b (.storen sh) vs hp) K Kp=YV (xB sh b hp vs) K:=by
 show opK (match xB sh b hp vs with|some (v,hp')=>some (OpRes.val v hp')|none=>none) K Kp=_;cases xB sh b hp vs with
 |none=>rfl
 |some r=>cases r;rfl
theorem Hr(sh:Sh):opK (aOp Γ b (.mkmap sh) vs hp) K Kp=K (.map hp.length) (hp++[.map sh []]):=rfl
theorem Hs(s:Sh)(f:FuncId)(as:List AV):opK (aOp Γ b .call (.pv s (.func (.func f))::as) hp) K Kp=Qx (Γ .fn f as hp) K Kp:=by
 simp only[aOp,yl,yB,ZE,ZF];cases Γ .fn f as hp with
 |none=>rfl
 |some r=>obtain⟨r,hp'⟩:=r;cases r <;> rfl
theorem Ht(f:FuncId)(fs cs as:List AV):opK (aOp Γ b .call (.func (.func f) fs cs::as) hp) K Kp=Qx (Γ .fn f (fs++as++cs) hp) K Kp:=by
 simp only[aOp,yl,yB];cases Γ .fn f (fs++as++cs) hp with
 |none=>rfl
 |some r=>obtain⟨r,hp'⟩:=r;cases r <;> rfl
def rndK(v:Option (ARes × Heap))(K:AV->Heap->Prop)[Tag K]:Prop:=
 match v with
 |some (.ret v,hp)=>K v hp
 |_=>False
def jf(v:Option (ARes × Heap))(hp:Heap)(K:AV->Heap->Prop)[Tag K]:Prop:=
 match v with
 |some (.ret v,hp')=>if XB hp' hp=true then K v hp else False
 |_=>False
theorem Hu(s:Sh)(f:FuncId)(as:List AV):opK (aOp Γ b .callh (.pv s (.func (.func f))::as) hp) K Kp=jf (Γ .fn f as hp) hp K:=by
 simp only[aOp,Qi,yB,ZE,ZF];cases Γ .fn f as hp with
 |none=>rfl
 |some r=>
  obtain⟨r,hp'⟩:=r;cases r with
  |ret v=>simp only[jf];cases XB hp' hp <;> rfl
  |panic v=>rfl
theorem Hv(n:Nat):opK (aOp Γ b (.calln n) vs hp) K Kp=opK (aOp Γ b .call (vs.drop n) hp) (fun v hp'=>(vs.take n).all (yC hp hp')=true/\K v hp') Kp:=by
 simp only[aOp,QR];cases yl Γ hp (vs.drop n) with
 |none=>rfl
 |some r=>
  cases r with
  |val v hp'=>
   simp only[opK];split
   ·rename_i h;split at h
    ·cases h;simp[*]
    ·cases h
   ·rename_i h;split at h <;> cases h
   ·rename_i h;split at h
    ·cases h
    ·simp[*]
  |panic v hp'=>rfl
def K9(v:Option (List (Sh × PV)))(K:List (Sh × PV)->Prop)[Tag K]:Prop:=
 match v with
 |some l=>K l
 |none=>False
theorem Hw(s:Sh)(f:FuncId)(as:List AV):opK (aOp Γ b .callp (.pv s (.func (.func f))::as) hp) K Kp=K9 (yu as) (fun ps=>Qx (Γ .fn f (yI as (pvs ps)) []) (fun v H=>valK (v.alone H) fun v'=>K v' hp) (fun _ _=>False)):=by
 simp only[aOp,Qk];cases yu as with
 |none=>rfl
 |some ps=>
  simp only[K9];cases Γ .fn f (yI as (pvs ps)) [] with
  |none=>rfl
  |some r=>
   obtain⟨r,hp'⟩:=r;cases r with
   |ret v=>simp only[Qx];cases v.alone hp' <;> rfl
   |panic v=>rfl
theorem Hx(s s':Sh)(t:TypeId)(p:PV):opK (aOp Γ b .panic [.pv s (.iface t s' p)] hp) K Kp=Kp (.iface t s' p) hp:=rfl
end Go.Am
namespace Go.Am
variable{Γ:Oracle} {Λ:Yy} {b:Nat} {hp:Heap} {vs:List AV} {K:AV->Heap->Prop} {Kp:PV->Heap->Prop}
theorem Hy:opK (aOp Γ b .nilcheck vs hp) K Kp=valK (Qg vs) (fun v=>K v hp):=by
 show opK (match YM hp (Qg vs) with|some (v,hp')=>some (OpRes.val v hp')|none=>none) K Kp=_;cases Qg vs <;> rfl
theorem Hz(g:Bool):opK (aOp Γ b (.isnil g) vs hp) K Kp=valK (Qh g vs) (fun v=>K v hp):=by
 show opK (match YM hp (Qh g vs) with|some (v,hp')=>some (OpRes.val v hp')|none=>none) K Kp=_;cases Qh g vs <;> rfl
end Go.Am

/- What code comes to: values; calls of functions. -/
namespace Go.Am
variable{Γ:Oracle} {Λ:Yy} {b:Nat} {hp:Heap} {K:AV->Prop} {s s':Sh} {sh:Sh} {k:IntKind} {x y:Int}

theorem s_mv(v:AV):sMv [v]=some v:=rfl
theorem U5(es:List PV):sLen [.pv s (.sl sh es)]=some (.pv none (.int .i64 es.length)):=rfl
theorem HB(r v o n:Nat):sLen [.sl sh r v o n]=some (.pv none (.int .i64 n)):=rfl
theorem HD(l:List UInt8):Qf [.pv s (.str l)]=some (.pv none (.int .i64 l.length)):=rfl
theorem HE(c:Bool)(u v:AV):Qa [.pv s (.bool c),u,v]=some (bif c then u else v):=rfl
theorem HF(c:Bool):sNot [.pv s (.bool c)]=some (.pv none (.bool !c)):=rfl
theorem HG(o:BinOp):valK (sBin o [.pv s (.int k x),.pv s' (.int k y)]) K=pvK (yA o k x y) (fun p=>K (.pv none p)):=by
 simp only[sBin,qy,if_true];cases yA o k x y <;> rfl
theorem HH(o:BinOp)(u v:List UInt8):valK (sBin o [.pv s (.str u),.pv s' (.str v)]) K=pvK (xZ o u v) (fun p=>K (.pv none p)):=by
 simp only[sBin,qy];cases xZ o u v <;> rfl
theorem HI(o:BinOp)(u v:Bool):valK (Qb o [.pv s (.bool u),.pv s' (.bool v)]) K=pvK (QO o u v) (fun p=>K (.pv none p)):=by
 simp only[Qb];cases QO o u v <;> rfl
theorem HJ:yA .add k x y=some (.int k (k.wrap (x+y))):=rfl
theorem HK:yA .sub k x y=some (.int k (k.wrap (x - y))):=rfl
theorem HL:yA .mul k x y=some (.int k (k.wrap (x*y))):=rfl
theorem HM:yA .eql k x y=some (.bool (decide (x=y))):=rfl
theorem HN:yA .neq k x y=some (.bool (!decide (x=y))):=rfl
theorem HO:yA .lss k x y=some (.bool (decide (x<y))):=rfl
theorem HP:yA .leq k x y=some (.bool (decide (x<=y))):=rfl
theorem HQ:yA .gtr k x y=some (.bool (decide (y<x))):=rfl
theorem HT:yA .geq k x y=some (.bool (decide (y<=x))):=rfl
theorem HU{u v:List UInt8}:xZ .eql u v=some (.bool (decide (u=v))):=rfl
theorem HV{u v:List UInt8}:xZ .neq u v=some (.bool (!decide (u=v))):=rfl
theorem HW{u v:Bool}:QO .eql u v=some (.bool (u == v)):=rfl
theorem HX(o r o':Nat):XX o [.ptr r o']=some (.ptr r (o'+o)):=rfl
theorem HY(o o':Nat)(p:PV):XX o [.iptr sh p o']=some (.iptr sh p (o'+o)):=rfl
theorem HZ(o r v i o':Nat):XX o [.eptr sh r v i o']=some (.eptr sh r v i (o'+o)):=rfl
theorem zY{es:List PV}{i:Nat}{p:PV}(h:es[i]? =some p):yg sh [.pv s (.sl sh es),.pv s' (.int k i)]=some (.iptr sh p 0):=by
 simp[yg,aindex,h]
theorem Yp{r v o n i:Nat}(h:i<n):yg sh [.sl sh r v o n,.pv s' (.int k i)]=some (.eptr sh r v (o+i) 0):=by
 simp[yg,aindex,h]
theorem Q8{l:List UInt8}{i:Nat}{c:UInt8}(h:l[i]? =some c):xz [.pv s (.str l),.pv s' (.int k i)]=some (.pv none (.int .u8 c.toNat)):=by
 simp[xz,h]
theorem H6(k':IntKind):Qd k' [.pv s (.int k x)]=some (.pv none (.int k' (k'.wrap x))):=rfl
theorem H7(i:Nat)(l:List AV):Qe i [.tuple l]=l[i]? :=rfl
theorem H8(fn:Fn)(n:Nat)(v:AV)(l:List AV):Qc fn n (v::l)=some (.func fn ((v::l).take n) ((v::l).drop n)):=rfl
theorem H9:sMin [.pv s (.int k x),.pv s' (.int k y)]=some (.pv none (.int k (if y<x then y else x))):=by simp[sMin]
theorem hJ:sMax [.pv s (.int k x),.pv s' (.int k y)]=some (.pv none (.int k (if x<y then y else x))):=by simp[sMax]
theorem La(p:AV):XY sh hp [p]=aload sh hp p:=rfl
def kc(sh:Sh)(off:Nat):Option AObj->Option AV
 |some (.box s v)=>if off=0/\s=sh then some v else AV.part deep v off sh
 |_=>none
theorem Lb(r off:Nat):aload sh hp (.ptr r off)=kc sh off hp[r]? :=by
 unfold kc;simp only[aload];split <;> simp_all
theorem Lc(off:Nat)(v:AV):kc sh off (some (.box s v))=if off=0/\s=sh then some v else AV.part deep v off sh:=rfl
def toAV(sh:Sh):Option PV->Option AV
 |some p=>some (.pv sh p)
 |none=>none
theorem Ld(p:PV):toAV sh (some p)=some (.pv sh p):=rfl
theorem U6(p:PV)(off:Nat):aload sh hp (.iptr s p off)=if off=0/\s=sh then some (.pv sh p) else toAV sh (PV.part deep p off sh):=by
 simp only[aload,toAV];split
 ·rfl
 ·cases PV.part deep p off sh <;> rfl
theorem Le(p:PV)(off:Nat):AV.part deep (.pv s p) off sh=toAV sh (PV.part deep p off sh):=by
 show AV.part (7+1) (.pv s p) off sh=toAV sh (PV.part (7+1) p off sh);simp only[AV.part,toAV];cases PV.part (7+1) p off sh <;> rfl
theorem Lf(l:List (Sh × PV))(off:Nat):PV.part deep (.agg l) off sh=PV.part.go 7 off sh l:=rfl
theorem Lg(l:List (Sh × AV))(off:Nat):AV.part deep (.agg l) off sh=AV.part.go 7 off sh l:=rfl
theorem Lh(d off:Nat)(p:PV)(r:List (Sh × PV)):PV.part.go d off sh ((s,p)::r)=if off=0/\s=sh then some p else if off<s.size then PV.part d p off sh else PV.part.go d (off - s.size) sh r:=rfl
theorem Li(d off:Nat)(p:AV)(r:List (Sh × AV)):AV.part.go d off sh ((s,p)::r)=if off=0/\s=sh then some p else if off<s.size then AV.part d p off sh else AV.part.go d (off - s.size) sh r:=rfl
theorem Lj:Sh.size none=1:=rfl
theorem Lk(n:Nat):Sh.size (some n)=n:=rfl
def endK(rs:List RSlot)(Q:AV->Heap->Prop)[Tag Q]:AExit->St->Prop
 | .normal,st=>match YO st rs with
  |some v=>Q v st.hp
  |none=>False
 | .ret,st=>match YO st rs with
  |some v=>Q v st.hp
  |none=>False
 |_,_=>False
theorem xO(rs:List RSlot)(Q:AV->Heap->Prop)(st:St):endK rs Q .ret st=valK (YO st rs) (fun v=>Q v st.hp):=by
 show(match YO st rs with|some v=>Q v st.hp|none=>False)=_;cases YO st rs <;> rfl
theorem Qy(rs:List RSlot)(Q:AV->Heap->Prop)(st:St):endK rs Q .normal st=valK (YO st rs) (fun v=>Q v st.hp):=by
 show(match YO st rs with|some v=>Q v st.hp|none=>False)=_;cases YO st rs <;> rfl
theorem Ll(st:St)(r:Nat):YO st [(r,none)]=st.fr.look r:=rfl
theorem Lm(st:St)(r:Nat)(sh:Sh):YO st [(r,some sh)]=(match st.fr.look r with|some p=>aload sh st.hp p|none=>none):=rfl
def tupO:Option (List AV)->Option AV
 |some l=>some (.tuple l)
 |none=>none
theorem Ln(l:List AV):tupO (some l)=some (.tuple l):=rfl
theorem Lo(st:St)(r q:RSlot)(l:List RSlot):YO st (r::q::l)=tupO (Xj st (r::q::l)):=by
 unfold YO tupO;simp only[];cases Xj st (r::q::l) <;> rfl
theorem Lp(st:St):YO st []=some (.tuple []):=rfl
theorem Lq(p:Nat->Bool):(AV.tuple []).refsIn.all p=true:=rfl
theorem Lr(st:St):Xj st []=some []:=rfl
theorem Ls(st:St)(r:RSlot)(l:List RSlot):Xj st (r::l)=je (Ql st r) (Xj st l):=rfl
theorem Lt(st:St)(r:Nat):Ql st (r,none)=st.fr.look r:=rfl
theorem Lu(st:St)(r:Nat)(sh:Sh):Ql st (r,some sh)=(match st.fr.look r with|some p=>aload sh st.hp p|none=>none):=rfl
theorem Lv(i:Nat):params i []=[]:=rfl
theorem Lw(i:Nat)(v:AV)(r:List AV):params i (v::r)=(i,v)::params (i+1) r:=rfl

def frozen(v:AV):AV->Heap->Prop:=fun v' hp=>∃hp',v'.freezeRes hp=some (v,hp')
theorem Lx(p:PV)(v:AV):frozen v (.pv s p) hp=(.pv s p=v):=by
 have h:AV.freeze deep (.pv s p) hp=some (p,hp):=rfl;simp only[frozen,AV.freezeRes,h,AV.shp];exact propext ⟨fun⟨_,h⟩=>by cases h;rfl,fun h=>⟨hp,by rw[h]⟩⟩
theorem Yd:∀(ps:List (Sh × PV)),Yi (pvs ps) hp=some (ps,hp)
 |[]=>rfl
 |(sh,p)::r=>by
  have h:AV.freeze deep (.pv sh p) hp=some (p,hp):=rfl;show Yi (.pv sh p::pvs r) hp=_;simp only[Yi,h,Yd r,AV.shp]

variable{F:FuncId->Option AFn} {prim:FuncId->Option Ys}
theorem Yb{f:FuncId}{fn:AFn}{args:List AV}{ps:List (Sh × PV)}{hp:Heap}{v:AV}(hp0:prim f=none)(hf:F f=some fn)(hm:fn.heapMode=false)(hz:Yi args hp=some (ps,hp))(hn:(pvs ps).length=fn.nparams)
  (h:W (sem F prim) (sloop F prim) 0 fn.code ⟨params 0 (pvs ps),[]⟩ (endK fn.results (frozen v)))(hr:fn.rcv=none:=by rfl)(hmo:fn.more=[]:=by rfl):sem F prim .fn f args hp=some (.ret v,hp):=by
 rw[xN];unfold yq;rw[hp0,hf];simp only[hr,hmo,zL,hm,ZR,if_false,hz,abody,hn,ne_eq,not_true_eq_false];unfold W at h;split at h
 ·rename_i e st' he;have hl:([]:Heap).length=0:=rfl;rw[hl,he];cases e with
  |normal=>
   rw[Qy] at h;cases hr:YO st' fn.results with
   |none=>rw[hr] at h;exact h.elim
   |some u=>
    rw[hr] at h;obtain⟨hp',h⟩:=h;simp only[hr,h];cases v.scalar <;> rfl
  |ret=>
   rw[xO] at h;cases hr:YO st' fn.results with
   |none=>rw[hr] at h;exact h.elim
   |some u=>
    rw[hr] at h;obtain⟨hp',h⟩:=h;simp only[hr,h];cases v.scalar <;> rfl
  |exit i=>exact h.elim
  |panic v=>exact h.elim
 ·exact h.elim
theorem kd{c:ACode}{st:St}{Q Q':AExit->St->Prop}(h:W Γ Λ b c st Q)(hq:∀e st',Q e st'->Q' e st'):W Γ Λ b c st Q':=by
 unfold W at h ⊢;split at h
 ·exact hq _ _ h
 ·exact h.elim
theorem Yr(I:Nat->St->Prop){b:Nat}{keep:List Nat}{c:ACode}{st:St}{Q:AExit->St->Prop}{n:Nat}(h0:I n ⟨st.fr.keep keep,st.hp⟩)
  (h:∀n st1,I n st1->W (sem F prim) (sloop F prim) b c st1 (fun e st'=>match e with
   | .normal=>∃m,m<n/\I m ⟨st'.fr.keep keep,collect st.hp.length b (st'.fr.keep keep) st'.hp⟩
   |e=>Q e st')):W (sem F prim) (sloop F prim) b (.loop keep c) st Q:=by
 unfold W;simp only[aexec];have key:∀n st1,I n st1->match sloop F prim b st.hp.length keep c st1 with|some (e,st')=>Q e st'|none=>False:=by
  intro n
  induction n using Nat.strongRecOn with
  |_ n ih=>
   intro st1 hI;have hw:=h n st1 hI;unfold W at hw;rw[UV];split at hw
   ·rename_i e st' he;rw[he];cases e with
    |normal=>
     obtain⟨m,hm,hI'⟩:=hw;exact ih m hm _ hI'
    |exit i=>exact hw
    |ret=>exact hw
    |panic v=>exact hw
   ·exact hw.elim
 exact key n _ h0
end Go.Am
namespace Go.Am
variable{Γ:Oracle} {Λ:Yy} {b:Nat} {hp:Heap} {K:AV->Heap->Prop} {s s':Sh} {sh:Sh} {k:IntKind} {x y:Int}
theorem Ly:Am.pvs []=[]:=rfl
theorem Lz(s:Sh)(p:PV)(r:List (Sh × PV)):Am.pvs ((s,p)::r)=.pv s p::Am.pvs r:=rfl
theorem U7{α:Type}(l:List α)(x y:α):(l++[x]).set l.length y=l++[y]:=by
 rw[List.set_append_right _ _ (Zi _)];simp
theorem LA(p:PV):y9 sh (.pv sh p) hp []=some (.ptr hp.length 0,hp++[.box sh (.pv sh p)]):=by
 simp only[y9,AV.plain,AV.shp,and_self,if_true,AV.own,U7]
theorem LB(p:PV):wBox sh hp [.pv sh p]=some (.ptr hp.length 0,hp++[.box sh (.pv sh p)]):=by
 simp only[wBox,AV.plain,AV.shp,and_self,if_true,AV.own,U7]
def ke(sh:Sh)(n:Nat):List (Sh × AV) × Heap->Option (AV × Heap)
 |(l,hp)=>some (.ptr n 0,hp.set n (.box sh (.agg l)))
theorem LC(n:Nat)(l:List (Sh × AV)):ke sh n (l,hp)=some (.ptr n 0,hp.set n (.box sh (.agg l))):=rfl
theorem LD(l:List (Sh × AV)):y9 sh (.agg l) hp []=if some (total l)=sh then ke sh hp.length (Yu l (hp++[.box sh (.agg l)])) else none:=by
 simp only[y9,AV.plain,AV.shp,true_and,AV.own];rfl
theorem LE:Yu [] hp=([],hp):=rfl
def Q9(x:Sh × AV):List (Sh × AV) × Heap->List (Sh × AV) × Heap
 |(l,hp)=>(x::l,hp)
theorem LF(u:Sh × AV)(l:List (Sh × AV)):Q9 u (l,hp)=(u::l,hp):=rfl
theorem LG(r:List (Sh × AV)):Yu ((s,.tsl sh [])::r) hp=if 0<sh.size then Q9 (s,.sl sh hp.length 0 0 0) (Yu r (hp++[.arr sh [] false])) else Q9 (s,.tsl sh []) (Yu r hp):=rfl
theorem LH(p:PV)(r:List (Sh × AV)):Yu ((s,.pv s' p)::r) hp=Q9 (s,.pv s' p) (Yu r hp):=rfl
theorem LI(p:List (Sh × AV))(r:List (Sh × AV)):Yu ((s,.agg p)::r) hp=Q9 (s,.agg p) (Yu r hp):=rfl
theorem LJ:total ([]:List (Sh × AV))=0:=rfl
theorem LK(v:AV)(r:List (Sh × AV)):total ((s,v)::r)=s.size+total r:=rfl
def boxK(o:Option AObj)(K:Sh->AV->Prop)[Tag K]:Prop:=
 match o with
 |some (.box s v)=>K s v
 |_=>False
theorem LL(v:AV)(K:Sh->AV->Prop):boxK (some (.box s v)) K=K s v:=rfl
theorem LM(r off:Nat)(p:PV):YV (Yw sh b hp [.ptr r off,.pv sh p]) K=boxK hp[r]? fun s old=>if off=0/\s=sh then K .undef (hp.set r (.box s (.pv sh p))) else
  valK (AV.upd deep old off sh (.pv sh p)) fun new=>K .undef (hp.set r (.box s new)):=by
 simp only[Yw,astore,AV.plain,AV.shp,AV.own,AV.refsIn,List.all_nil];cases hp[r]? with
 |none=>rfl
 |some o=>
  cases o with
  |box s old=>
   simp only[boxK];by_cases h1:off=0/\s=sh
   ·obtain⟨h1,h2⟩:=h1;subst h1;subst h2;by_cases hb:b<=r <;> simp[hb,YV]
   ·cases hu:AV.upd deep old off sh (.pv sh p) with
    |none=>by_cases hb:b<=r <;> simp[hb,h1,YV,valK]
    |some new=>by_cases hb:b<=r <;> simp[hb,h1,YV,valK]
  |arr s es fz=>rfl
  |map s es=>rfl
  |loop f ps env bz=>rfl
theorem LN{r:Nat}(h:b<=r)(fn:Fn)(fs cs:List AV):YV (Yw none b hp [.ptr r 0,.func fn fs cs]) K=boxK hp[r]? fun s old=>if s=none then K .undef (hp.set r (.box s (.func fn fs cs))) else valK (AV.upd deep old 0 none (.func fn fs cs)) fun new=>K .undef (hp.set r (.box s new)):=by
 simp only[Yw,astore,AV.plain,AV.shp,AV.own];cases hp[r]? with
 |none=>rfl
 |some o=>
  cases o with
  |box s old=>
   simp only[boxK,Zb h];by_cases h1:s=none
   ·subst h1;simp[YV]
   ·cases hu:AV.upd deep old 0 none (.func fn fs cs) with
    |none=>simp[h1,YV,valK]
    |some new=>simp[h1,YV,valK]
  |arr s es fz=>rfl
  |map s es=>rfl
  |loop f ps env bz=>rfl
theorem YA(h:0<sh.size):YB sh hp=some (.sl sh hp.length 0 0 0,hp++[.arr sh [] false]):=by
 simp[YB,h]
def kg(r:List Nat)(st:St)(q:Nat):Option AObj->Option St
 |some (.box sh v)=>match AV.freeze deep v st.hp with
  |some (p,hp')=>settle r ⟨st.fr,hp'.set q (.box sh (.pv sh p))⟩
  |none=>none
 |_=>settle r st
def xm(s:Nat)(r:List Nat)(st:St):Option AV->Option St
 |some (.ptr q _)=>kg r st q st.hp[q]?
 |some (.sl s' q ver off len)=>match AV.freeze deep (.sl s' q ver off len) st.hp with
   |some (p,hp')=>settle r ⟨(s,.pv none p)::st.fr,hp'⟩
   |none=>none
 |some (.tsl sh es)=>settle r ⟨(s,.pv none (.sl sh es))::st.fr,st.hp⟩
 |_=>settle r st
theorem LP(st:St):settle [] st=some st:=rfl
theorem LQ(s:Nat)(r:List Nat)(st:St):settle (s::r) st=xm s r st (st.fr.look s):=by
 simp only[settle];cases st.fr.look s with
 |none=>rfl
 |some v=>
  cases v with
  |ptr q o=>
   simp only[xm];cases st.hp[q]? with
   |none=>rfl
   |some o=>cases o <;> rfl
  |_=>rfl
theorem LT(s:Nat)(r:List Nat)(st:St)(q o:Nat):xm s r st (some (.ptr q o))=kg r st q st.hp[q]? :=rfl
theorem LU(s:Nat)(r:List Nat)(st:St)(sh:Sh)(p:PV):xm s r st (some (.pv sh p))=settle r st:=rfl
theorem LV(r:List Nat)(st:St)(q:Nat)(sh s:Sh)(p:PV):kg r st q (some (.box sh (.pv s p)))=settle r ⟨st.fr,st.hp.set q (.box sh (.pv sh p))⟩:=rfl
def setK(v:Option St)(K:St->Prop)[Tag K]:Prop:=
 match v with
 |some st=>K st
 |none=>False
theorem LW(st:St)(K:St->Prop):setK (some st) K=K st:=rfl
theorem W_settle'{Γ:Oracle}{Λ:Yy}{b:Nat}{st:St}{Q:AExit->St->Prop}(l:List Nat):W Γ Λ b (.settle l) st Q=setK (settle l st) (fun st'=>Q .normal st'):=by
 rw[EH];cases settle l st <;> rfl
def kh(x:Sh × PV):Option (List (Sh × PV))->Option (List (Sh × PV))
 |some l=>some (x::l)
 |none=>none
theorem LX(x:Sh × PV)(l:List (Sh × PV)):kh x (some l)=some (x::l):=rfl
theorem LY:yu []=some []:=rfl
theorem LZ(s:Sh)(p:PV)(r:List AV):yu (.pv s p::r)=kh (s,p) (yu r):=by
 have h:AV.weaken deep (.pv s p)=some p:=rfl;simp only[yu,h,AV.shp];cases yu r <;> rfl
theorem L0(s:Sh)(es:List PV)(r:List AV):yu (.tsl s es::r)=kh (none,.sl s es) (yu r):=by
 have h:AV.weaken deep (.tsl s es)=some (.sl s es):=rfl;simp only[yu,h,AV.shp];cases yu r <;> rfl
theorem L3(l:List (Sh × PV))(K:List (Sh × PV)->Prop):K9 (some l) K=K l:=rfl
theorem L4(s:Sh)(p:PV)(H:Heap):AV.alone (.pv s p) H=some (.pv s p):=rfl
theorem L5(q:List AV):yI [] q=q:=by cases q <;> rfl
theorem L6(s:Sh)(p:PV)(r q:List AV)(x:AV):yI (.pv s p::r) (x::q)=x::yI r q:=rfl
theorem L7(s:Sh)(a:PV)(l:List PV)(r q:List AV)(x:AV):yI (.tsl s (a::l)::r) (x::q)=x::yI r q:=rfl
theorem L8(s:Sh)(r q:List AV)(x:AV):yI (.tsl s []::r) (x::q)=.tsl s []::yI r q:=rfl
def ki(x:Sh × PV):Option (List (Sh × PV) × Heap)->Option (List (Sh × PV) × Heap)
 |some (l,hp)=>some (x::l,hp)
 |none=>none
theorem L9(x:Sh × PV)(l:List (Sh × PV))(hp:Heap):ki x (some (l,hp))=some (x::l,hp):=rfl
theorem lc(hp:Heap):Yi [] hp=some ([],hp):=rfl
theorem ld(s:Sh)(p:PV)(r:List AV)(hp:Heap):Yi (.pv s p::r) hp=ki (s,p) (Yi r hp):=by
 have h:AV.freeze deep (.pv s p) hp=some (p,hp):=rfl;simp only[Yi,h,AV.shp];cases Yi r hp with
 |none=>rfl
 |some x=>rfl
def bslO(sh:Sh):Option (List PV)->Heap->Option (AV × Heap)
 |some es,hp=>some (.tsl sh es,hp)
 |none,_=>none
def bslZ(sh:Sh):Option (List (Sh × PV) × Heap)->Option (AV × Heap)
 |some (ps,hp)=>bslO sh (yf sh ps) hp
 |none=>none
theorem lf(sh:Sh)(hp:Heap)(vs:List AV):yp sh hp vs=bslZ sh (Yi vs hp):=by
 unfold yp bslZ;cases Yi vs hp with
 |none=>rfl
 |some x=>
  obtain⟨ps,hp'⟩:=x;simp only[];cases yf sh ps <;> rfl
theorem lg(sh:Sh)(ps:List (Sh × PV))(hp:Heap):bslZ sh (some (ps,hp))=bslO sh (yf sh ps) hp:=rfl
theorem li(sh:Sh)(es:List PV)(hp:Heap):bslO sh (some es) hp=some (.tsl sh es,hp):=rfl
def U8(p:PV):Option (List PV)->Option (List PV)
 |some l=>some (p::l)
 |none=>none
theorem lj(p:PV)(l:List PV):U8 p (some l)=some (p::l):=rfl
theorem lm(sh:Sh):yf sh []=some []:=rfl
theorem ln(sh s:Sh)(p:PV)(r:List (Sh × PV)):yf sh ((s,p)::r)=if s=sh then U8 p (yf sh r) else none:=by
 simp only[yf];split
 ·cases yf sh r <;> rfl
 ·rfl
def bslQ(sh:Sh):Option (List PV)->Option AV
 |some es=>some (.tsl sh es)
 |none=>none
theorem lq(sh:Sh)(es:List PV):bslQ sh (some es)=some (.tsl sh es):=rfl
def bslP(sh:Sh):Option (List (Sh × PV))->Option AV
 |some ps=>bslQ sh (yf sh ps)
 |none=>none
theorem lu(sh:Sh)(ps:List (Sh × PV)):bslP sh (some ps)=bslQ sh (yf sh ps):=rfl
theorem lw(sh:Sh)(vs:List AV):xy sh vs=bslP sh (yu vs):=by
 unfold xy bslP;cases yu vs with
 |none=>rfl
 |some ps=>simp only[];cases yf sh ps <;> rfl
def Qz(sh:Sh)(n:Nat):Option AObj->Prop
 |some (.arr s es false)=>s=sh/\es.length=n
 |_=>False
def XI(n:Nat):Option AObj->Prop
 |some (.arr _ es _)=>es.length=n
 |_=>False
def yP:Option AObj->List PV
 |some (.arr _ es _)=>es
 |_=>[]
def X6:Option AObj->Sh
 |some (.arr s _ _)=>s
 |_=>none
theorem lz{sh s:Sh}{n:Nat}(es:List PV):Qz sh n (some (.arr s es false))=(s=sh/\es.length=n):=rfl
theorem lA{s:Sh}{n:Nat}{fz:Bool}(es:List PV):XI n (some (.arr s es fz))=(es.length=n):=rfl
theorem lB{s:Sh}{fz:Bool}(es:List PV):yP (some (.arr s es fz))=es:=rfl
theorem lC{s:Sh}{fz:Bool}(es:List PV):X6 (some (.arr s es fz))=s:=rfl
theorem kj{sh:Sh}{n:Nat}{o:Option AObj}(h:Qz sh n o):∃es,o=some (.arr sh es false)/\es.length=n:=by
 unfold Qz at h;split at h
 ·obtain⟨rfl,h⟩:=h;exact⟨_,rfl,h⟩
 ·exact h.elim
theorem U9{n:Nat}{o:Option AObj}(h:XI n o):∃sh es fz,o=some (.arr sh es fz)/\es.length=n:=by
 unfold XI at h;split at h
 ·exact⟨_,_,_,rfl,h⟩
 ·exact h.elim
theorem kk{sh s:Sh}{hp:Heap}{r n:Nat}{new:List PV}(h:Qz sh n hp[r]?)(h2:n+new.length<=lim):YN sh hp [.sl s r n 0 n,.tsl sh new]=some (.sl sh r (n+new.length) 0 (n+new.length),hp.set r (.arr sh (yP hp[r]? ++new) false)):=by
 obtain⟨es,ho,rfl⟩:=kj h;simp[YN,aappend,elems,ho,h2,yP]
theorem lD{sh s s':Sh}{hp:Heap}{r n:Nat}{new:List PV}(h:Qz sh n hp[r]?)(h2:n+new.length<=lim):YN sh hp [.sl s r n 0 n,.pv s' (.sl sh new)]=some (.sl sh r (n+new.length) 0 (n+new.length),hp.set r (.arr sh (yP hp[r]? ++new) false)):=by
 obtain⟨es,ho,rfl⟩:=kj h;simp[YN,aappend,elems,ho,h2,yP]
theorem freeze_sl'{sh:Sh}{hp:Heap}{r n:Nat}(h:XI n hp[r]?):AV.freeze deep (.sl sh r n 0 n) hp=some (.sl (X6 hp[r]?) (yP hp[r]?),hp.set r (.arr (X6 hp[r]?) (yP hp[r]?) true)):=by
 obtain⟨sh',es,fz,ho,rfl⟩:=U9 h;show AV.freeze (7+1) _ _=_;simp[AV.freeze,ho,yP,X6]
theorem lE{sh:Sh}{hp:Heap}{r n:Nat}{v:AV}(h:XI n hp[r]?):frozen v (.sl sh r n 0 n) hp=(.pv none (.sl (X6 hp[r]?) (yP hp[r]?))=v):=by
 simp only[frozen,AV.freezeRes,freeze_sl' h,AV.shp];exact propext ⟨fun⟨_,h⟩=>by cases h;rfl,fun h=>⟨_,by rw[h]⟩⟩
theorem lF{sh:Sh}{hp:Heap}{es:List PV}{v:AV}:frozen v (.tsl sh es) hp=(.pv none (.sl sh es)=v):=by
 have h:AV.freeze deep (.tsl sh es) hp=some (.sl sh es,hp):=rfl;simp only[frozen,AV.freezeRes,h,AV.shp];exact propext ⟨fun⟨_,h⟩=>by cases h;rfl,fun h=>⟨_,by rw[h]⟩⟩
theorem qa{sh:Sh}{hp:Heap}{r n:Nat}(h:XI n hp[r]?)(rest:List AV):Yi (.sl sh r n 0 n::rest) hp=ki (none,.sl (X6 hp[r]?) (yP hp[r]?)) (Yi rest (hp.set r (.arr (X6 hp[r]?) (yP hp[r]?) true))):=by
 simp only[Yi,freeze_sl' h,AV.shp];cases Yi rest (hp.set r (.arr (X6 hp[r]?) (yP hp[r]?) true)) with
 |none=>rfl
 |some x=>rfl
def frzT(v:AV):Option (List (Sh × PV) × Heap)->Prop
 |some (ps,_)=>.tuple (pvs ps)=v
 |none=>False
theorem lG(v:AV)(ps:List (Sh × PV))(hp:Heap):frzT v (some (ps,hp))=(.tuple (pvs ps)=v):=rfl
theorem jg{hp:Heap}{l:List AV}{v:AV}:frozen v (.tuple l) hp=frzT v (Yi l hp):=by
 simp only[frozen,AV.freezeRes];cases Yi l hp with
 |none=>simp[frzT]
 |some x=>
  obtain⟨ps,hp'⟩:=x;simp only[frzT];exact propext ⟨fun⟨_,h⟩=>by cases h;rfl,fun h=>⟨_,by rw[h]⟩⟩
theorem ua{sh s s':Sh}{k:IntKind}{es:List PV}{h:Nat}(hh:h<=es.length):yk sh false true [.pv s (.sl sh es),.pv s' (.int k h)]=some (.pv none (.sl sh (es.take h))):=by
 simp[yk,aslice,hh]
theorem ub{sh s s':Sh}{k:IntKind}{es:List PV}{h:Nat}(hh:h<=es.length):yk sh true false [.pv s (.sl sh es),.pv s' (.int k h)]=some (.pv none (.sl sh (es.drop h))):=by
 simp[yk,aslice,hh]
theorem qY{x:Int}(h:0<=x)(h':x<18446744073709551616):IntKind.u64.wrap x=x:=by
 simp[IntKind.wrap,IntKind.signed,IntKind.bits];omega
def kl(sh:Sh):Option AObj->Prop
 |some (.box s _)=>s=sh
 |_=>False
theorem lH(sh s:Sh)(v:AV):kl sh (some (.box s v))=(s=sh):=rfl
def km(r:Nat)(sh:Sh):List (Sh × AV) × Heap->Option (AV × Heap)
 |(l,hp1)=>some (.undef,hp1.set r (.box sh (.agg l)))
theorem lI(r:Nat)(sh:Sh)(l:List (Sh × AV))(hp1:Heap):km r sh (l,hp1)=some (.undef,hp1.set r (.box sh (.agg l))):=rfl
theorem Yc{b r:Nat}{sh:Sh}{hp:Heap}(h:b<=r)(l:List (Sh × AV))(hs:some (total l)=sh)(ho:kl sh hp[r]?):Yw sh b hp [.ptr r 0,.agg l]=km r sh (Yu l hp):=by
 cases ho':hp[r]? with
 |none=>rw[ho'] at ho;exact ho.elim
 |some o=>
  rw[ho'] at ho;cases o with
  |box s old=>
   simp only[kl] at ho;subst ho;simp only[Yw,astore,ho',AV.plain,AV.shp,AV.own,hs,Zb h];cases Yu l hp with
   |mk l' hp'=>simp[km]
  |arr s es fz=>exact ho.elim
  |map s es=>exact ho.elim
  |loop f ps env bz=>exact ho.elim
theorem yF{b r:Nat}{s':Sh}{hp:Heap}{K:AV->Heap->Prop}{q v o n off:Nat}(h:b<=r):YV (Yw none b hp [.ptr r off,.sl s' q v o n]) K=boxK hp[r]? fun s old=>if off=0/\s=none then K .undef (hp.set r (.box s (.sl s' q v o n))) else
  valK (AV.upd deep old off none (.sl s' q v o n)) fun new=>K .undef (hp.set r (.box s new)):=by
 simp only[Yw,astore,AV.plain,AV.shp,AV.own];cases hp[r]? with
 |none=>rfl
 |some ob=>
  cases ob with
  |box s old=>
   simp only[boxK,Zb h];by_cases h1:off=0/\s=none
   ·obtain⟨h1,h2⟩:=h1;subst h1;subst h2;simp[YV]
   ·cases hu:AV.upd deep old off none (.sl s' q v o n) with
    |none=>simp[h1,YV,valK]
    |some new=>simp[h1,YV,valK]
  |arr s es fz=>rfl
  |map s es=>rfl
  |loop f ps env bz=>rfl
def updO:Option (List (Sh × AV))->Option AV
 |some l=>some (AV.ofComps l)
 |none=>none
theorem lJ(l:List (Sh × AV)):updO (some l)=some (AV.ofComps l):=rfl
theorem lK(l:List (Sh × AV))(off:Nat)(sh:Sh)(x:AV):AV.upd deep (.agg l) off sh x=updO (AV.updGo (fun p o=>AV.upd 7 p o sh x) sh x off l):=by
 show AV.upd (7+1) (.agg l) off sh x=_;simp only[AV.upd,AV.comps];cases AV.updGo (fun p o=>AV.upd 7 p o sh x) sh x off l <;> rfl
def uc(s:Sh)(p:AV):Option (List (Sh × AV))->Option (List (Sh × AV))
 |some l=>some ((s,p)::l)
 |none=>none
theorem lL(s:Sh)(p:AV)(l:List (Sh × AV)):uc s p (some l)=some ((s,p)::l):=rfl
theorem lM(f:AV->Nat->Option AV)(sh:Sh)(v:AV)(off:Nat)(s:Sh)(p:AV)(r:List (Sh × AV)):AV.updGo f sh v off ((s,p)::r)=if off=0/\s=sh then some ((s,v)::r) else if off<s.size then(match f p off with|some p'=>some ((s,p')::r)|none=>none) else uc s p (AV.updGo f sh v (off - s.size) r):=by
 simp only[AV.updGo];split
 ·rfl
 ·split
  ·rfl
  ·cases AV.updGo f sh v (off - s.size) r <;> rfl
end Go.Am

/- (empty) -/

/- The steps, as one set. -/
namespace Go.Am
attribute [go_sem] EE EF EG U3 EI EJ EK EL EM EN EO EP EQ ES ET EU EV EW EX EY EZ E0 E5 E6 E7 E8 E9 ed ee ef eg eh el en ep er et eu ew eA eB eC eD eF eG eH eI eJ eK eM eN eO eP eQ eR eS eT eU eV eW eZ Ha Hb Hc Hd He Hf Hg Hh Hi Hj Hk Hl Hm Hn Ho Hr Hs Ht Hw Hx s_mv U5 HB HD HE HF HG HH HI HJ HK HL HM HN HO HP HQ HT HU HV HW HX HY HZ H6 H7 H8 H9 hJ La Lb Lc Ld U6 Le Lf Lg Lh Li Lj Lk xO Qy Ll Lo Lr Ls Lt Lv Lw Ln Lp Lq Lx LA LB LE LF LG LH LI LD LC LJ LK LL LM W_settle' LW LP LQ LT LU LV LX LY LZ L0 L3 L4 L5 L6 L7 L8 L9 lc ld lf lg li lj lm ln lw lq lu lz lA lB lC kk lD lE lF qa jg lG lI lH lJ lK lL lM Lm if_true if_false true_and and_true false_and and_false and_self ZH Z1 eq_self Bool.true_eq_false ZR cond_true cond_false Zz zF Bool.not_eq_false' decide_eq_false_iff_not not_true_eq_false not_false_eq_true Bool.true_and Bool.false_and Bool.and_true Bool.and_false Bool.not_true Bool.not_false Option.some.injEq decide_true decide_false zQ List.getElem?_cons_succ ZB zn ZE Zw zI zJ zd Z4 Lz Ly Hu Hv Hq Hp Hy Hz
end Go.Am

/- Terms: sizes, valid ones; how their parts are read. -/
namespace Go.Am
mutual
def Tm.size:Tm->Nat
 | .mk _ _ _ as=>1+Tm.sizes as
def Tm.sizes:List Tm->Nat
 |[]=>0
 |t::r=>t.size+Tm.sizes r
end
theorem Tm.size_eq(t:Tm):t.size=1+Tm.sizes t.args:=by cases t;simp[Tm.size,Tm.args]
theorem Tm.size_pos(t:Tm):0<t.size:=by rw[Tm.size_eq];omega
theorem Tm.zyU:∀{l:List Tm} {t:Tm},t∈l->t.size<=Tm.sizes l
 |x::r,t,h=>by
  simp only[Tm.sizes];rcases Zt.1 h with rfl|h
  ·omega
  ·have:=Tm.zyU h;omega
theorem Tm.zyZ(l r:List Tm):Tm.sizes (l++r)=Tm.sizes l+Tm.sizes r:=by
 induction l with
 |nil=>simp[Tm.sizes]
 |cons x l ih=>simp only[Zw,Tm.sizes,ih];omega
theorem Tm.zyN(l:List Tm):l.length<=Tm.sizes l:=by
 induction l with
 |nil=>simp
 |cons x l ih=>have:=x.size_pos;simp only[ZB,Tm.sizes];omega
theorem Tm.zyV{l:List Tm}{i:Nat}{t:Tm}(h:l[i]? =some t):Tm.sizes (l.take (i+1))=Tm.sizes (l.take i)+t.size:=by
 rw[ZL,h,Tm.zyZ];simp[Tm.sizes]
theorem Tm.zyS(l:List Tm)(i:Nat):Tm.sizes (l.take i)<=Tm.sizes l:=by
 have h:=Tm.zyZ (l.take i) (l.drop i);rw[ZK] at h;omega
theorem Tm.zyQ{t u:Tm}(h:u∈t.args):u.size<t.size:=by
 have:=Tm.zyU h;rw[t.size_eq];omega
theorem Tm.zyR{P:Tm->Prop}(h:∀t:Tm,(∀u∈t.args,P u)->P t)(t:Tm):P t:=by
 have:∀n (t:Tm),t.size<=n->P t:=by
  intro n
  induction n with
  |zero=>intro t ht;have:=t.size_pos;omega
  |succ n ih=>exact fun t ht=>h t fun u hu=>ih u (by have:=Tm.zyQ hu;omega)
 exact this _ t (Zi _)
theorem Tm.zy5(l:List Tm):Tm.pvs l=l.map Tm.pv:=by
 induction l with
 |nil=>rfl
 |cons x l ih=>simp[Tm.pvs,ih]
theorem Tm.pvs_get{l:List Tm}{i:Nat}{t:Tm}(h:l[i]? =some t):(Tm.pvs l)[i]? =some t.pv:=by simp[Tm.zy5,h]
theorem Tm.pvs_len(l:List Tm):(Tm.pvs l).length=l.length:=by simp[Tm.zy5]
theorem Tm.zyO(l r:List Tm):Tm.pvs (l++r)=Tm.pvs l++Tm.pvs r:=by simp[Tm.zy5]
theorem Tm.zyT{l:List Tm}{i:Nat}{t:Tm}(h:l[i]? =some t):Tm.pvs (l.take i)++[t.pv]=Tm.pvs (l.take (i+1)):=by
 rw[ZL,h,Tm.zyO];rfl
theorem Tm.zzd(l:List Tm)(i:Nat):(Tm.pvs l).take i=Tm.pvs (l.take i):=by simp[Tm.zy5]
theorem Tm.zzi(l:List Tm)(i:Nat):(Tm.pvs l).drop i=Tm.pvs (l.drop i):=by simp[Tm.zy5]
theorem Ya(t:Tm):PV.part deep t.pv 0 none=some (.int .i64 t.kind):=by cases t;rfl
theorem Yh(t:Tm):PV.part deep t.pv 1 none=some (.int .i64 t.n):=by cases t;rfl
theorem Ye(t:Tm):PV.part deep t.pv 2 none=some (.str t.name):=by cases t;rfl
theorem zV(t:Tm):PV.part deep t.pv 3 none=some (.sl (some 4) (Tm.pvs t.args)):=by cases t;rfl
theorem zZ{x:Int}(h: -9223372036854775808<=x)(h':x<9223372036854775808):IntKind.i64.wrap x=x:=by
 rw[IntKind.wrap_i64];omega
end Go.Am
namespace Go.Am
def Tm.node(t:Tm):Bool:=
 if t.kind=0 then decide (0<=t.n) && decide (t.n<=1099511627776) && decide (t.name=[]) && decide ((t.args.length:Int)=0)
 else if t.kind=1 then decide (t.name=[]) && decide ((t.args.length:Int)=0)
 else if t.kind=2 then decide (t.n=0) && decide ((t.name.length:Int)<=100) && decide ((t.args.length:Int)=0)
 else if t.kind=3 then decide (t.n=0) && decide ((t.name.length:Int)<=100) && decide (0<(t.args.length:Int)) && decide ((t.args.length:Int)<=8)
 else false
mutual
def Tm.fits:Tm->Bool
 | .mk k n s as=>Tm.node (.mk k n s as) && Tm.fitsAll as
def Tm.fitsAll:List Tm->Bool
 |[]=>true
 |t::r=>t.fits && Tm.fitsAll r
end
theorem Tm.fits_eq(t:Tm):t.fits=(t.node && Tm.fitsAll t.args):=by cases t;simp[Tm.fits,Tm.args]
theorem Tm.zzn{t:Tm}(h:t.node=true/\Tm.fitsAll t.args=true):t.name.length<1000000000:=by
 have h:=h.1;unfold Tm.node at h;split at h
 ·simp only[Zm,Zz] at h;simp[h.1.2]
 ·split at h
  ·simp only[Zm,Zz] at h;simp[h.1]
  ·split at h
   ·simp only[Zm,Zz] at h;omega
   ·split at h
    ·simp only[Zm,Zz] at h;omega
    ·cases h
theorem Tm.fitsAll_iff{l:List Tm}:Tm.fitsAll l=true↔∀t∈l,t.fits=true:=by
 induction l with
 |nil=>simp[Tm.fitsAll]
 |cons x l ih=>simp[Tm.fitsAll,ih]
theorem Tm.zy2(l r:List Tm):Tm.fitsAll (l++r)=(Tm.fitsAll l && Tm.fitsAll r):=by
 induction l with
 |nil=>simp[Tm.fitsAll]
 |cons x l ih=>simp[Tm.fitsAll,ih,Bool.and_assoc]
theorem Tm.zy8{l:List Tm}{i:Nat}{t:Tm}(h:l[i]? =some t):Tm.fitsAll (l.take (i+1))=(Tm.fitsAll (l.take i) && t.fits):=by
 rw[ZL,h,Tm.zy2];simp[Tm.fitsAll]
theorem Tm.zyP{t u:Tm}(h:t.fits=true)(hu:u∈t.args):u.fits=true:=by
 rw[Tm.fits_eq,Zm] at h;exact Tm.fitsAll_iff.1 h.2 u hu
def Tm.valid(t:Tm):Bool:=decide (t.size<=2000) && t.fits
end Go.Am

/- Functions that run on their caller's heap; loops' heaps. -/
namespace Go.Am
variable{F:FuncId->Option AFn} {prim:FuncId->Option Ys}
theorem YR{f:FuncId}{fn:AFn}{args:List AV}{hp hp':Heap}{v:AV}(hp0:prim f=none)(hf:F f=some fn)(hm:fn.heapMode=true)(hn:args.length=fn.nparams)
  (h:W (sem F prim) (sloop F prim) hp.length fn.code ⟨params 0 args,hp⟩ (endK fn.results (fun v' h'=>v'=v/\(if v.refsIn.all (fun q=>decide (q<hp.length))=true then h'.take hp.length else h')=hp')))(hr:fn.rcv=none:=by rfl)(hmo:fn.more=[]:=by rfl):sem F prim .fn f args hp=some (.ret v,hp'):=by
 rw[xN];unfold yq;rw[hp0,hf];simp only[hr,hmo,zL,ZR,if_false,hm,if_true,abody,hn,ne_eq,not_true_eq_false,if_false];unfold W at h;split at h
 ·rename_i e st' he;rw[he];cases e with
  |normal=>
   rw[Qy] at h;cases hr:YO st' fn.results with
   |none=>rw[hr] at h;exact h.elim
   |some u=>
    rw[hr] at h;obtain⟨h1,h2⟩:=h;simp only[hr,h1,h2]
  |ret=>
   rw[xO] at h;cases hr:YO st' fn.results with
   |none=>rw[hr] at h;exact h.elim
   |some u=>
    rw[hr] at h;obtain⟨h1,h2⟩:=h;simp only[hr,h1,h2]
  |exit i=>exact h.elim
  |panic v=>exact h.elim
 ·exact h.elim
theorem YW{n b:Nat}{fr:Fr}{hp:Heap}(h:hp.length=n):collect n b fr hp=hp:=by
 unfold collect;split
 ·rw[<-h,ZC]
 ·rfl
theorem qZ{α:Type}{l r:List α}{i:Nat}(h:i<l.length):(l++r)[i]? =l[i]? :=Zx h
theorem lN{α:Type}(l:List α)(x:α):(l++[x])[l.length]? =some x:=by simp
theorem jh{α:Type}{l r:List α}{i:Nat}(h:i<l.length)(x:α):(l++r).set i x=l.set i x++r:=by rw[ZW _ _ h]
theorem Y9{α:Type}{l:List α}{i:Nat}{x:α}(h:l[i]? =some x):i<l.length:=(Ze.1 h).1
end Go.Am
namespace Go.Am
variable{Γ:Oracle} {Λ:Yy} {b:Nat}
theorem kn{x y:ACode}{st:St}{Q:AExit->St->Prop}(R:St->Prop)(h1:W Γ Λ b x st (seqK R Q))(h2:∀st',R st'->W Γ Λ b y st' Q):W Γ Λ b (.seq x y) st Q:=by
 rw[U3];refine kd h1 fun e st' h=> ?_;cases e with
 |normal=>exact h2 st' h
 |_=>exact h
end Go.Am

namespace Go.Am
theorem lO{b:Nat}{fr:Fr}(x:AObj):collect 1 b fr [x]=[x]:=YW rfl
theorem lQ{b:Nat}{fr:Fr}(x y:AObj):collect 2 b fr [x,y]=[x,y]:=YW rfl
theorem lR{b:Nat}{fr:Fr}(x y z:AObj):collect 3 b fr [x,y,z]=[x,y,z]:=YW rfl
theorem lS{b:Nat}{fr:Fr}:collect 0 b fr []=[]:=YW rfl
theorem ko{F:FuncId->Option AFn}{prim:FuncId->Option Ys}{f:FuncId}{p:Ys}(h:prim f=some p)(as:List AV)(hp:Heap):sem F prim .fn f as hp=p f as hp:=by
 rw[xN];unfold yq;rw[h]
theorem kq{r o n:Nat}{x:Int}{k:IntKind}{s:Sh}(sh:Sh)(h:0<=x/\x<n):Xi sh n [.ptr r o,.pv s (.int k x)]=some (.ptr r (o+x.toNat*sh.size)):=by
 simp[Xi,h]
def cmpI(x y:Int):Int:=if x<y then -1 else if y<x then 1 else 0
def YT(x y:Int):Int:=if x=0 then y else x
mutual
def Tm.cmp:Tm->Tm->Int
 | .mk k n s as,.mk k' n' s' as'=>YT (cmpI k k') (YT (cmpI n n') (YT (cmpI as.length as'.length) (YT (Lib.compareBytes s s') (Tm.cmps as as'))))
def Tm.cmps:List Tm->List Tm->Int
 |x::r,y::r'=>YT (x.cmp y) (Tm.cmps r r')
 |_,_=>0
end
theorem Tm.zy3(a b:Tm):a.cmp b=YT (cmpI a.kind b.kind) (YT (cmpI a.n b.n) (YT (cmpI a.args.length b.args.length) (YT (Lib.compareBytes a.name b.name) (Tm.cmps a.args b.args)))):=by
 cases a;cases b;rfl
theorem xP(x:Int):cmpI x x=0:=by simp[cmpI]
theorem q7(y:Int):YT 0 y=y:=rfl
theorem q8{x:Int}(h:x≠0)(y:Int):YT x y=x:=Za h
theorem cmpI_zero{x y:Int}:cmpI x y=0↔x=y:=by
 unfold cmpI;split
 ·constructor <;> intro h <;> omega
 ·split <;> constructor <;> intro h <;> omega
theorem Tm.zy6{l r:List Tm}{i:Nat}{x y:Tm}(h:l[i]? =some x)(h':r[i]? =some y):Tm.cmps (l.drop i) (r.drop i)=YT (x.cmp y) (Tm.cmps (l.drop (i+1)) (r.drop (i+1))):=by
 obtain⟨h1,rfl⟩:=Ze.1 h;obtain⟨h2,rfl⟩:=Ze.1 h';rw[ZS h1,ZS h2,Tm.cmps]
end Go.Am

namespace Go.Am
theorem lT(x:Int):YT x 0=x:=by unfold YT;split <;> simp_all
theorem Tm.zyY(l:List Tm):Tm.cmps [] l=0:=by simp[Tm.cmps]
theorem lW:cmpI 0 0=0/\cmpI 0 1= -1/\cmpI 0 2= -1/\cmpI 0 3= -1/\cmpI 1 0=1/\cmpI 1 1=0/\cmpI 1 2= -1/\cmpI 1 3= -1/\cmpI 2 0=1/\cmpI 2 1=1/\cmpI 2 2=0/\cmpI 2 3= -1/\cmpI 3 0=1/\cmpI 3 1=1/\cmpI 3 2=1/\cmpI 3 3=0:=by decide
theorem Tm.zze{t:Tm}(h:t.fits=true):(t.kind=0/\t.name=[]/\t.args=[])\/(t.kind=1/\t.name=[]/\t.args=[])\/(t.kind=2/\t.n=0/\t.args=[])\/(t.kind=3/\t.n=0):=by
 rw[Tm.fits_eq,Zm] at h;have h:=h.1;unfold Tm.node at h;have em:∀l:List Tm,(l.length:Int)=0->l=[]:=fun l h=>ZQ.1 (by omega);split at h
 ·simp only[Zm,Zz] at h;exact .inl ⟨‹_›,h.1.2,em _ h.2⟩
 ·split at h
  ·simp only[Zm,Zz] at h;exact .inr (.inl ⟨‹_›,h.1,em _ h.2⟩)
  ·split at h
   ·simp only[Zm,Zz] at h;exact .inr (.inr (.inl ⟨‹_›,h.1.1,em _ h.2⟩))
   ·split at h
    ·simp only[Zm,Zz] at h;exact .inr (.inr (.inr ⟨‹_›,h.1.1.1⟩))
    ·cases h
end Go.Am

namespace Go.Am
def Kept(p:Prop):Prop:=p
theorem Kept.out{p:Prop}(h:Kept p):p:=h
theorem Kept.mk{p:Prop}(h:p):Kept p:=h
end Go.Am
namespace Go.Am
theorem yG{F:FuncId->Option AFn}{prim:FuncId->Option Ys}{f:FuncId}{fn:AFn}{args:List AV}{ps:List (Sh × PV)}{hp hp1 hp2:Heap}{v:AV}(hp0:prim f=none)(hf:F f=some fn)(hm:fn.heapMode=false)(hz:Yi args hp=some (ps,hp1))
  (h:sem F prim .fn f (pvs ps) []=some (.ret v,hp2))(hr:fn.rcv=none:=by rfl):sem F prim .fn f args hp=some (.ret v,bif v.scalar then hp else hp1):=by
 rw[xN] at h ⊢;unfold yq at h ⊢;rw[hp0,hf] at h ⊢;simp only[hr,zL,hm,ZR,if_false,hz,Yd] at h ⊢;split at h
 ·split at h
  ·cases h;simp_all
  ·cases h
 ·cases h
 ·cases h
end Go.Am

namespace Go.Am
theorem X7{k:IntKind}(hk:0<k.bits)(x:Int):yA .shr k x 1=some (.int k (x / 2)):=by
 have h1:Nat.min (1:Int).toNat k.bits=1:=zs hk;simp only[yA,h1];rw[Za (by decide),Int.fdiv_eq_ediv_of_nonneg _ (by decide)];rfl
end Go.Am

namespace Go.Am
theorem yc{sh s s':Sh}{k:IntKind}{es:List PV}{p:PV}(h:es[0]? =some p):yg sh [.pv s (.sl sh es),.pv s' (.int k 0)]=some (.iptr sh p 0):=by
 simp[yg,aindex,h]
end Go.Am

namespace Go.Am
theorem YX{sh s:Sh}{hp:Heap}{r n i:Nat}(h:XI n hp[r]?)(hs:X6 hp[r]? =sh):aload sh hp (.eptr s r n i 0)=toAV sh ((yP hp[r]?)[i]?):=by
 obtain⟨s',es,fz,ho,rfl⟩:=U9 h;simp only[ho,X6] at hs;subst hs;simp only[aload,ho,yP,if_true,and_self];cases es[i]? <;> rfl
theorem qb{sh s:Sh}{b:Nat}{hp:Heap}{r n i:Nat}{p:PV}(h:Qz sh n hp[r]?)(hi:i<n):Yw sh b hp [.eptr s r n i 0,.pv sh p]=some (.undef,hp.set r (.arr sh ((yP hp[r]?).set i p) false)):=by
 obtain⟨es,ho,rfl⟩:=kj h;have hf:AV.freeze deep (.pv sh p) hp=some (p,hp):=rfl;simp[Yw,astore,AV.shp,hf,ho,yP,hi]
end Go.Am

namespace Go.Am
attribute [go_sem] lS lO lQ lR
end Go.Am

/- The standard order of terms is an order. -/
namespace Go.Am
open Lib (compareBytes)
theorem kr(x y:Int):cmpI y x= - cmpI x y:=by
 unfold cmpI;split <;> split <;> (try split) <;> omega
theorem cmpI_lt{x y:Int}:cmpI x y<0↔x<y:=by
 unfold cmpI;split <;> (try split) <;> omega
theorem ud(x y:Int):YT (-x) (-y)= - YT x y:=by
 unfold YT;by_cases h:x=0
 ·simp[h]
 ·rw[Za (by omega),Za h]
theorem ue{x y:Int}:YT x y<0↔x<0\/(x=0/\y<0):=by
 unfold YT;split <;> omega
theorem uf{x y:Int}:YT x y=0↔x=0/\y=0:=by
 unfold YT;split <;> omega
theorem cb_zero:∀{a b:List UInt8},compareBytes a b=0↔a=b
 |[],[]=>by simp[compareBytes]
 |[],_::_=>by simp[compareBytes]
 |_::_,[]=>by simp[compareBytes]
 |x::a,y::b=>by
  simp only[compareBytes,List.cons.injEq];split
  ·rename_i h;constructor
   ·intro h;omega
   ·rintro⟨rfl,_⟩;exact absurd h (by simp[UInt8.lt_iff_toNat_lt])
  ·split
   ·rename_i h;constructor
    ·intro h;omega
    ·rintro⟨rfl,_⟩;exact absurd h (by simp[UInt8.lt_iff_toNat_lt])
   ·rename_i h1 h2;have:x=y:=by
     rw[UInt8.lt_iff_toNat_lt] at h1 h2;exact UInt8.toNat_inj.1 (by omega)
    simp[this,cb_zero]
theorem ug:∀(a b:List UInt8),compareBytes b a= - compareBytes a b
 |[],[]=>by simp[compareBytes]
 |[],_::_=>by simp[compareBytes]
 |_::_,[]=>by simp[compareBytes]
 |x::a,y::b=>by
  simp only[compareBytes];by_cases h1:x<y
  ·have h2:¬y<x:=by rw[UInt8.lt_iff_toNat_lt] at *; omega
   simp[h1,h2]
  ·by_cases h2:y<x
   ·simp[h1,h2]
   ·simp[h1,h2,ug a b]
theorem uh:∀{a b c:List UInt8},compareBytes a b<0->compareBytes b c<0->compareBytes a c<0
 |[],b,[],h,h'=>by cases b <;> simp[compareBytes] at*
 |[],b,_::_,h,h'=>by simp[compareBytes]
 |_::_,[],_,h,h'=>by simp[compareBytes] at h
 |_::_,_::_,[],h,h'=>by simp[compareBytes] at h'
 |x::a,y::b,z::c,h,h'=>by
  simp only[compareBytes] at*;simp only[UInt8.lt_iff_toNat_lt] at*;by_cases h1:x.toNat<z.toNat
  ·simp[h1]
  ·by_cases h2:z.toNat<x.toNat
   ·split at h <;> split at h' <;> (try split at h) <;> (try split at h') <;> omega
   ·rw[Za h1,Za h2];split at h
    ·split at h' <;> (try split at h') <;> omega
    ·split at h
     ·omega
     ·split at h'
      ·omega
      ·split at h'
       ·omega
       ·exact uh h h'
theorem Tm.ext{a b:Tm}(h1:a.kind=b.kind)(h2:a.n=b.n)(h3:a.name=b.name)(h4:a.args=b.args):a=b:=by
 cases a;cases b;simp_all[Tm.kind,Tm.n,Tm.name,Tm.args]
theorem Tm.cmp_zero:∀{a b:Tm},a.cmp b=0↔a=b:=by
 intro a
 induction a using Tm.zyR with
 |h a ih=>
  intro b;have lists:∀(l r:List Tm),(∀t∈l,∀{b:Tm},t.cmp b=0↔t=b)->l.length=r.length->(Tm.cmps l r=0↔l=r):=by
   intro l
   induction l with
   |nil=>intro r _ hl;have:r=[]:=ZQ.1 hl.symm;subst this;simp[Tm.cmps]
   |cons x l ihl=>
    intro r hx hl;cases r with
    |nil=>simp at hl
    |cons y r=>
     simp only[Tm.cmps,uf,List.cons.injEq];rw[hx x (by simp),ihl r (fun t ht=>hx t (by simp[ht])) (by simpa using hl)]
  rw[Tm.zy3];simp only[uf,cmpI_zero,cb_zero];constructor
  ·rintro⟨h1,h2,h3,h4,h5⟩;exact Tm.ext h1 h2 h4 ((lists _ _ ih (by omega)).1 h5)
  ·rintro rfl;exact⟨rfl,rfl,rfl,rfl,(lists _ _ ih rfl).2 rfl⟩
theorem Tm.zzo(a:Tm):a.cmp a=0:=Tm.cmp_zero.2 rfl
theorem Tm.zzc:∀(a b:Tm),b.cmp a= - a.cmp b:=by
 intro a
 induction a using Tm.zyR with
 |h a ih=>
  intro b;have lists:∀(l r:List Tm),(∀t∈l,∀(b:Tm),b.cmp t= - t.cmp b)->Tm.cmps r l= - Tm.cmps l r:=by
   intro l
   induction l with
   |nil=>intro r _;cases r <;> simp[Tm.cmps]
   |cons x l ihl=>
    intro r hx;cases r with
    |nil=>simp[Tm.cmps]
    |cons y r=>simp only[Tm.cmps];rw[hx x (by simp),ihl r (fun t ht=>hx t (by simp[ht])),ud]
  rw[Tm.zy3,Tm.zy3 a b,lists _ _ ih,ug,kr a.kind,kr a.n,kr a.args.length];simp only[ud]
theorem Tm.zzh:∀{a b c:Tm},a.cmp b<0->b.cmp c<0->a.cmp c<0:=by
 intro a
 induction a using Tm.zyR with
 |h a ih=>
  intro b c h1 h2;have lists:∀(l r s:List Tm),(∀t∈l,∀{b c:Tm},t.cmp b<0->b.cmp c<0->t.cmp c<0)->l.length=r.length->r.length=s.length->Tm.cmps l r<0->Tm.cmps r s<0->Tm.cmps l s<0:=by
   intro l
   induction l with
   |nil=>intro r s _ hl _ h;have:r=[]:=ZQ.1 hl.symm;subst this;simp[Tm.cmps] at h
   |cons x l ihl=>
    intro r s hx hl hl' h h'
    match r,s,hl,hl' with
    |y::r,z::s,hl,hl'=>
     simp only[Tm.cmps,ue] at*;rcases h with h|⟨h,k⟩
     ·rcases h' with h'|⟨h',k'⟩
      ·exact .inl (hx x (by simp) h h')
      ·rw[Tm.cmp_zero] at h';subst h';exact .inl h
     ·rw[Tm.cmp_zero] at h;subst h;rcases h' with h'|⟨h',k'⟩
      ·exact .inl h'
      ·exact .inr ⟨h',ihl r s (fun t ht=>hx t (by simp[ht])) (by simpa using hl) (by simpa using hl') k k'⟩
  rw[Tm.zy3] at*;simp only[ue,cmpI_lt,cmpI_zero,cb_zero] at*;rcases h1 with h1|⟨h1,k1⟩
  ·rcases h2 with h2|⟨h2,k2⟩ <;> exact .inl (by omega)
  ·rcases h2 with h2|⟨h2,k2⟩
   ·exact .inl (by omega)
   ·refine .inr ⟨by omega,?_⟩;rcases k1 with h3|⟨h3,k1⟩
    ·rcases k2 with h4|⟨h4,k2⟩ <;> exact .inl (by omega)
    ·rcases k2 with h4|⟨h4,k2⟩
     ·exact .inl (by omega)
     ·refine .inr ⟨by omega,?_⟩;rcases k1 with h5|⟨h5,k1⟩
      ·rcases k2 with h6|⟨h6,k2⟩ <;> exact .inl (by omega)
      ·rcases k2 with h6|⟨h6,k2⟩
       ·exact .inl (by omega)
       ·refine .inr ⟨by omega,?_⟩;rcases k1 with h7|⟨h7,k1⟩
        ·rcases k2 with h8|⟨h8,k2⟩
         ·exact .inl (uh h7 h8)
         ·rw[<-h8];exact .inl h7
        ·rcases k2 with h8|⟨h8,k2⟩
         ·rw[h7];exact .inl h8
         ·exact .inr ⟨h7.trans h8,lists _ _ _ ih (by omega) (by omega) k1 k2⟩
theorem Tm.zy1{a b c:Tm}(h1:a.cmp b<=0)(h2:b.cmp c<=0):a.cmp c<=0:=by
 by_cases e1:a.cmp b=0
 ·rw[Tm.cmp_zero] at e1;subst e1;exact h2
 ·by_cases e2:b.cmp c=0
  ·rw[Tm.cmp_zero] at e2;subst e2;exact h1
  ·have:=Tm.zzh (show a.cmp b<0 by omega) (show b.cmp c<0 by omega);omega
end Go.Am

/- Flat clauses as plain data. -/
namespace Go.Am
structure Pr where
 name:List UInt8
 arity:Int
 aux:Int
structure Gl where
 kind:Int
 pred:Pr
 args:List Tm
 var:Int
structure Fl where
 pred:Pr
 args:List Tm
 goals:List Gl
def Pr.pv(p:Pr):PV:=.agg [(none,.str p.name),(none,.int .i64 p.arity),(none,.int .i64 p.aux)]
def Gl.pv(g:Gl):PV:=.agg [(none,.int .i64 g.kind),(some 3,g.pred.pv),(none,.sl (some 4) (Tm.pvs g.args)),(none,.int .i64 g.var)]
def Gl.pvs(l:List Gl):List PV:=l.map Gl.pv
def Fl.pv(f:Fl):PV:=.agg [(some 3,f.pred.pv),(none,.sl (some 4) (Tm.pvs f.args)),(none,.sl (some 6) (Gl.pvs f.goals))]
def Fl.av(f:Fl):AV:=.pv (some 5) f.pv
def Pr.ok(p:Pr):Bool:=
 if p.aux=0 then decide ((p.name.length:Int)<=100) && decide (0<=p.arity) && decide (p.arity<=8)
 else decide (p.name=[]) && decide (1<=p.aux) && decide (p.aux<=1099511627776) && decide (0<=p.arity) && decide (p.arity<=4096)
def Pr.zero(p:Pr):Bool:=decide (p.name=[]) && decide (p.arity=0) && decide (p.aux=0)
def kt(left:Int):List Tm->Bool × Int
 |[]=>(true,left)
 |t::r=>if t.valid=true then if left - t.size<0 then(false,left - t.size) else kt (left - t.size) r else(false,left)
def Gl.bare(g:Gl):Bool:=g.pred.zero && decide ((g.args.length:Int)=0)
def Gl.step(called:Bool)(left:Int)(g:Gl):Option (Bool × Int):=
 if g.kind=1 then
  if(g.pred.ok && decide ((g.args.length:Int)=g.pred.arity) && decide (g.var=0))=true then match kt left g.args with
   |(true,l)=>some (true,l)
   |_=>none
  else none
 else if g.kind=2 then if(g.bare && decide (0<=g.var) && decide (g.var<=1099511627776) && !called)=true then some (called,left) else none
 else if g.kind=3\/g.kind=4 then if(g.bare && decide (0<=g.var) && decide (g.var<=1099511627776))=true then some (called,left) else none
 else if g.kind=5 then if(g.bare && decide (g.var=0))=true then some (called,left) else none
 else none
def Gl.steps:Bool->Int->List Gl->Bool
 |_,_,[]=>true
 |called,left,g::r=>match g.step called left with
  |some (c,l)=>Gl.steps c l r
  |none=>false
def Fl.valid(f:Fl):Bool:=
 f.pred.ok && decide ((f.args.length:Int)=f.pred.arity) && match kt 131072 f.args with
  |(true,l)=>Gl.steps false l f.goals
  |_=>false

theorem valid_size{t:Tm}(h:t.valid=true):t.size<=2000:=by
 unfold Tm.valid at h;simp only[Zm,Zz] at h;exact h.1
end Go.Am
namespace Go.Am
theorem YD(r o:Nat):Qg [.ptr r o]=some (.ptr r o):=rfl
end Go.Am
namespace Go.Am
end Go.Am
namespace Go.Am
theorem Gl.pvs_len(l:List Gl):(Gl.pvs l).length=l.length:=by simp[Gl.pvs]
theorem Gl.pvs_get{l:List Gl}{i:Nat}{g:Gl}(h:l[i]? =some g):(Gl.pvs l)[i]? =some g.pv:=by simp[Gl.pvs,h]
end Go.Am
namespace Go.Am
end Go.Am
namespace Go.Am
end Go.Am
namespace Go.Am
mutual
def Tm.occ:Tm->List Int
 | .mk k n _ as=>if k=0 then[n] else Tm.occs as
def Tm.occs:List Tm->List Int
 |[]=>[]
 |t::r=>t.occ++Tm.occs r
end
theorem Tm.zyW(t:Tm):t.occ=if t.kind=0 then[t.n] else Tm.occs t.args:=by cases t;rfl
theorem Tm.zzb(x y:List Tm):Tm.occs (x++y)=Tm.occs x++Tm.occs y:=by
 induction x with
 |nil=>simp[Tm.occs]
 |cons t r ih=>simp[Tm.occs,ih,Zd]
theorem Tm.zy0{l:List Tm}{i:Nat}{t:Tm}(h:l[i]? =some t):Tm.occs (l.take (i+1))=Tm.occs (l.take i)++t.occ:=by
 obtain⟨h1,rfl⟩:=Ze.1 h;rw[List.take_succ_eq_append_getElem h1,Tm.zzb];simp[Tm.occs]
theorem Tm.occ_len:∀t:Tm,t.occ.length<=t.size:=by
 intro t
 induction t using Tm.zyR with
 |h t ih=>
  rw[Tm.zyW,Tm.size_eq];split
  ·simp
  ·have key:∀l:List Tm,(∀u∈l,u.occ.length<=u.size)->(Tm.occs l).length<=Tm.sizes l:=by
    intro l
    induction l with
    |nil=>intro _;simp[Tm.occs]
    |cons u r ih2=>
     intro hu;have h1:=hu u (by simp);have h2:=ih2 fun v hv=>hu v (by simp[hv]);simp only[Tm.occs,Tm.sizes,Zc];omega
   have:=key t.args ih;omega
end Go.Am
namespace Go.Am
def Gl.op(g:Gl):Bool:=decide (g.kind=2) || decide (g.kind=3) || decide (g.kind=4)
def Gl.next(calls:Int)(g:Gl):Int:=if g.kind=1 then calls+1 else calls
theorem Tm.zy4(l:List Tm):(Tm.occs l).length<=Tm.sizes l:=by
 induction l with
 |nil=>simp[Tm.occs]
 |cons x y ih=>have:=x.occ_len;simp only[Tm.occs,Tm.sizes,Zc];omega
end Go.Am

/- Heaps of which a part is known. -/
namespace Go.Am
theorem getN{l xs:Heap}{n:Nat}(h:l.length=n)(k:Nat):(l++xs)[n+k]? =xs[k]? :=by
 rw[<-h,zq (by omega)]
 congr 1
 omega
theorem YY{l xs:Heap}{n:Nat}(h:l.length=n):(l++xs)[n]? =xs[0]? :=getN h 0
theorem setN{l xs:Heap}{n:Nat}(h:l.length=n)(k:Nat)(x:AObj):(l++xs).set (n+k) x=l++xs.set k x:=by
 rw[<-h,List.set_append_right _ _ (by omega)]
 congr 2
 omega
theorem yQ{l xs:Heap}{n:Nat}(h:l.length=n)(x:AObj):(l++xs).set n x=l++xs.set 0 x:=setN h 0 x
theorem lZ{l xs:Heap}{n:Nat}(h:l.length=n)(k:Nat):(l++xs).take (n+k)=l++xs.take k:=by
 rw[<-h,zH,Zp (by omega)]
 congr 2
 omega
theorem Xd{n b:Nat}(k:Nat){fr:Fr}{base xs:Heap}(hb:base.length=b)(hn:n=b+k)(ho:(xs.take k).all (fun o=>o.refs.all (fun q=>decide (q<n)))=true)(hf:fr.all (fun x=>x.2.refsIn.all (fun q=>decide (q<n)))=true):collect n b fr (base++xs)=base++xs.take k:=by
 have h1:(base++xs).take n=base++xs.take k:=by rw[hn];exact lZ hb k
 have h2:((base++xs).take n).drop b=xs.take k:=by rw[h1,<-hb];exact zb
 unfold collect;rw[Zb (by rw[hf,h2,ho];rfl),h1]
theorem l8{sh:Sh}{hp:Heap}{r:Nat}{v:AV}(h:hp[r]? =some (.box sh v)):aload sh hp (.ptr r 0)=some v:=by
 simp[aload,h]
theorem xQ{Γ:Oracle}{b:Nat}{hp:Heap}{K:AV->Heap->Prop}{Kp:PV->Heap->Prop}{y:AV}{g:FuncId}{first captured as':List AV}(h:yB y=some (g,first,captured)):opK (aOp Γ b .call (y::as') hp) K Kp=Qx (Γ .fn g (first++as'++captured) hp) K Kp:=by
 have gen:yl Γ hp (y::as')=(match Γ .fn g (first++as'++captured) hp with
   |some (.ret v,hp')=>some (OpRes.val v hp')
   |some (.panic v,hp')=>some (.panic v hp')
   |none=>none):=by
  cases y <;> first|(cases h;done)|(simp only[yl,h];rfl)|(simp only[yl,h])
 simp only[aOp,gen];cases Γ .fn g (first++as'++captured) hp with
 |none=>rfl
 |some r=>obtain⟨r,hp'⟩:=r;cases r <;> rfl
variable{F:FuncId->Option AFn} {prim:FuncId->Option Ys}
theorem Yv{α:Type}(N:Nat)(inv:Nat->α->Prop)(sti:Nat->α->St){b:Nat}{keep:List Nat}{c:ACode}{st:St}{Q:AExit->St->Prop}(a0:α)(h0:inv 0 a0/\(⟨st.fr.keep keep,st.hp⟩:St)=sti 0 a0)
  (h1:∀i a,i<N->inv i a->W (sem F prim) (sloop F prim) b c (sti i a) (seqK (fun st'=>∃a',inv (i+1) a'/\(⟨st'.fr.keep keep,collect st.hp.length b (st'.fr.keep keep) st'.hp⟩:St)=sti (i+1) a') Q))
  (h2:∀a,inv N a->W (sem F prim) (sloop F prim) b c (sti N a) (seqK (fun _=>False) Q)):W (sem F prim) (sloop F prim) b (.loop keep c) st Q:=by
 refine Yr (fun n s=>∃i a,n=N - i/\i<=N/\inv i a/\s=sti i a) (n:=N) ⟨0,a0,rfl,Zg _,h0.1,h0.2⟩ ?_;rintro n s ⟨i,a,hn,hi,hinv,rfl⟩;by_cases h:i<N
 ·refine kd (h1 i a h hinv) fun e st' he=> ?_;cases e with
  |normal=>
   obtain⟨a',k1,k2⟩:=he;exact⟨N - (i+1),by omega,i+1,a',rfl,by omega,k1,k2⟩
  |exit j=>exact he
  |ret=>exact he
  |panic v=>exact he
 ·obtain rfl:i=N:=by omega
  refine kd (h2 a hinv) fun e st' he=> ?_;cases e with
  |normal=>exact he.elim
  |exit j=>exact he
  |ret=>exact he
  |panic v=>exact he
theorem ui{str ok:Bool}{sh:Sh}{zero:AV}{hp:Heap}{r:Nat}{s:Sh}{k v:PV}{es:List (PV × PV)}(ho:hp[r]? =some (.map sh es))(hf:afind str k es=some (some v)):yh str sh zero ok hp [.map r,.pv s k]=some (bif ok then .tuple [.pv sh v,.pv none (.bool true)] else .pv sh v):=by
 simp[yh,ho,hf]
theorem uj{str ok:Bool}{sh:Sh}{zero:AV}{hp:Heap}{r:Nat}{s:Sh}{k:PV}{es:List (PV × PV)}(ho:hp[r]? =some (.map sh es))(hf:afind str k es=some none):yh str sh zero ok hp [.map r,.pv s k]=some (bif ok then .tuple [zero,.pv none (.bool false)] else zero):=by
 simp[yh,ho,hf]
theorem q9{str:Bool}{sh:Sh}{hp:Heap}{r:Nat}{s:Sh}{k p:PV}{es es':List (PV × PV)}(ho:hp[r]? =some (.map sh es))(hf:aput str k p es=some es'):Xr str sh hp [.map r,.pv s k,.pv sh p]=some (.undef,hp.set r (.map sh es')):=by
 have h:AV.freeze deep (.pv sh p) hp=some (p,hp):=rfl;simp[Xr,AV.shp,h,ho,hf]
theorem uk{b r:Nat}{s s':Sh}{hp:Heap}{q v o n v' o' n':Nat}(h:r<b)(ho:hp[r]? =some (.box none (.sl s q v o n))):Yw none b hp [.ptr r 0,.sl s' q v' o' n']=some (.undef,hp.set r (.box none (.sl s' q v' o' n'))):=by
 simp[Yw,astore,ho,AV.plain,AV.shp,Nat.not_le.2 h,AV.refsIn]
end Go.Am

/- Sorting: insertion, merging, and that both come to the same. -/
namespace Go.Am
section
variable{α:Type} (c:α->α->Int)
structure Cmp:Prop where
 neg:∀x y,c y x= - c x y
 trans:∀{x y z},c x y<=0->c y z<=0->c x z<=0

def mrg:List α->List α->List α
 |[],B=>B
 |a::A,B=>go a A (mrg A) B
where
 go (a:α) (A:List α) (rest:List α->List α):List α->List α
 |[]=>a::A
 |b::B=>if c b a<0 then b::go a A rest B else a::rest (b::B)
theorem QA(B:List α):mrg c [] B=B:=rfl
theorem Xe:∀A:List α,mrg c A []=A
 |[]=>rfl
 |_::_=>rfl
theorem Y5(a:α)(A:List α)(b:α)(B:List α):mrg c (a::A) (b::B)=if c b a<0 then b::mrg c (a::A) B else a::mrg c A (b::B):=rfl
def Srt(l:List α):Prop:=l.Pairwise fun x y=>c x y<=0

variable{c}
theorem Cmp.self(h:Cmp c)(x:α):c x x=0:=by have:=h.neg x x;omega
theorem Cmp.lt_of_lt_le(h:Cmp c){x y z:α}(h1:c x y<0)(h2:c y z<=0):c x z<0:=by
 have h3:=h.neg x z;by_cases h4:c x z<0
 ·exact h4
 ·have h5:c z x<=0:=by omega
  have h6:=h.trans h2 h5;have:=h.neg x y;omega
theorem Cmp.lt_of_le_lt(h:Cmp c){x y z:α}(h1:c x y<=0)(h2:c y z<0):c x z<0:=by
 have h3:=h.neg x z;by_cases h4:c x z<0
 ·exact h4
 ·have h5:c z x<=0:=by omega
  have h6:=h.trans h5 h1;have:=h.neg y z;omega
theorem Srt.tail{a:α}{l:List α}(h:Srt c (a::l)):Srt c l:=(zN.1 h).2
theorem Srt.head{a:α}{l:List α}(h:Srt c (a::l)):∀x∈l,c a x<=0:=(zN.1 h).1
theorem ul:∀(A B:List α),(mrg c A B).length=A.length+B.length
 |[],B=>by simp[mrg]
 |a::A,B=>by
  induction B with
  |nil=>simp[Xe]
  |cons b B ih=>
   rw[Y5];split
   ·simp[ih];omega
   ·simp[ul A (b::B)];omega
theorem mem_mrg{x:α}:∀{A B:List α},x∈mrg c A B↔x∈A\/x∈B
 |[],B=>by simp[mrg]
 |a::A,B=>by
  induction B with
  |nil=>simp[Xe]
  |cons b B ih=>
   rw[Y5];split
   ·rw[Zt,ih];simp[Zt];exact⟨fun h=>by rcases h with h|(h|h)|h <;> simp[h],fun h=>by rcases h with(h|h)|h|h <;> simp[h]⟩
   ·rw[Zt,mem_mrg];simp[Zt];exact⟨fun h=>by rcases h with h|h|h|h <;> simp[h],fun h=>by rcases h with(h|h)|h|h <;> simp[h]⟩
theorem um:∀(A B:List α),(mrg c A B).Perm (A++B)
 |[],B=>by simp[mrg]
 |a::A,B=>by
  induction B with
  |nil=>simp[Xe]
  |cons b B ih=>
   rw[Y5];split
   ·exact(List.Perm.cons b ih).trans (List.perm_middle (l₁:=a::A) (l₂:=B) (a:=b)).symm
   ·exact List.Perm.cons a (um A (b::B))
theorem un(h:Cmp c):∀{A B:List α},Srt c A->Srt c B->Srt c (mrg c A B)
 |[],B,_,hB=>hB
 |a::A,B,hA,hB=>by
  induction B with
  |nil=>rw[Xe];exact hA
  |cons b B ih=>
   rw[Y5];split
   ·rename_i hlt;refine zN.2 ⟨fun x hx=> ?_,ih hB.tail⟩;rcases mem_mrg.1 hx with hx|hx
    ·rcases Zt.1 hx with rfl|hx
     ·omega
     ·exact h.trans (by omega) (hA.head x hx)
    ·exact hB.head x hx
   ·rename_i hlt;refine zN.2 ⟨fun x hx=> ?_,un h hA.tail hB⟩;have hab:c a b<=0:=by have:=h.neg a b;omega
    rcases mem_mrg.1 hx with hx|hx
    ·exact hA.head x hx
    ·rcases Zt.1 hx with rfl|hx
     ·exact hab
     ·exact h.trans hab (hB.head x hx)
theorem kw(h:Cmp c):∀{A B:List α},(∀a∈A,∀b∈B,c a b<=0)->mrg c A B=A++B
 |[],B,_=>rfl
 |a::A,[],_=>by rw[Xe];simp
 |a::A,b::B,hh=>by
  rw[Y5,Za (by have:=hh a (by simp) b (by simp);have:=h.neg a b;omega)];rw[kw h fun x hx y hy=>hh x (by simp[hx]) y hy];rfl
theorem Ja(h:Cmp c):∀{A U V B:List α},(∀a∈A,∀b∈B,c a b<=0)->(∀u∈U,∀v∈V,c v u<0)->mrg c (A++U) (V++B)=mrg c A V++mrg c U B
 |[],U,V,B,_,h2=>by
  rw[ZE,QA]
  induction V with
  |nil=>simp
  |cons v V ih=>
   cases U with
   |nil=>simp[QA]
   |cons u U=>
    rw[Zw,Y5,Zb (h2 u (by simp) v (by simp)),ih fun x hx y hy=>h2 x hx y (by simp[hy])];rfl
 |a::A,U,V,B,h1,h2=>by
  induction V with
  |nil=>
   rw[ZE,Xe];cases B with
   |nil=>simp[Xe]
   |cons b B=>
    rw[Zw,Y5,Za (by have:=h1 a (by simp) b (by simp);have:=h.neg a b;omega)];have:=Ja h (A:=A) (U:=U) (V:=[]) (B:=b::B) (fun x hx y hy=>h1 x (by simp[hx]) y hy) (fun _ _ _ hv=>by simp at hv);rw[ZE,Xe] at this;rw[this];rfl
  |cons v V ih=>
   rw[Zw,Zw,Y5,Y5];split
   ·have:=ih fun x hx y hy=>h2 x hx y (by simp[hy]);rw[Zw] at this;rw[this];rfl
   ·have:=Ja h (A:=A) (U:=U) (V:=v::V) (B:=B) (fun x hx y hy=>h1 x (by simp[hx]) y hy) h2;rw[Zw] at this;rw[this];rfl

def insC(c:α->α->Int)(t:α):List α->List α
 |[]=>[t]
 |x::l=>if c t x<0 then t::x::l else x::insC c t l
def isort(c:α->α->Int)(l:List α):List α:=l.foldl (fun s t=>insC c t s) []
theorem ji(t:α):∀l:List α,insC c t l=mrg c l [t]
 |[]=>rfl
 |x::l=>by
  rw[Y5,insC];split
  ·rw[Xe]
  ·rw[ji t l]
theorem uq(h:Cmp c){l:List α}(hs:Srt c l)(t:α):Srt c (insC c t l):=by
 rw[ji];exact un h hs (List.pairwise_singleton _ _)
theorem jj(h:Cmp c):∀(A B C:List α),Srt c A->Srt c B->Srt c C->mrg c (mrg c A B) C=mrg c A (mrg c B C)
 |[],B,C,_,_,_=>by simp[QA]
 |a::A,[],C,_,_,_=>by simp[Xe,QA]
 |a::A,b::B,[],_,_,_=>by simp[Xe]
 |a::A,b::B,k::C,hA,hB,hC=>by
  have e1:=jj h A (b::B) (k::C) hA.tail hB hC;have e2:=jj h (a::A) B (k::C) hA hB.tail hC;have e3:=jj h (a::A) (b::B) C hA hB hC.tail;have n1:=h.neg a b;have n2:=h.neg b k;have n3:=h.neg a k;rw[Y5 c a A b B,Y5 c b B k C];by_cases hba:c b a<0
  ·rw[Zb hba];by_cases hkb:c k b<0
   ·have hka:c k a<0:=h.lt_of_lt_le hkb (by omega);rw[Zb hkb,Y5,Zb hkb,Y5,Zb hka,<-e3,Y5 c a A b B,Zb hba]
   ·rw[Za hkb,Y5,Za hkb,Y5,Zb hba,e2]
  ·rw[Za hba];by_cases hkb:c k b<0
   ·rw[Zb hkb,Y5,Y5];by_cases hka:c k a<0
    ·rw[Zb hka,Zb hka,<-e3,Y5 c a A b B,Za hba]
    ·rw[Za hka,Za hka,e1,Y5 c b B k C,Zb hkb]
   ·have hka:¬c k a<0:=fun hka=>by
     have:=h.lt_of_lt_le hka (show c a b<=0 by omega);omega
    rw[Za hkb,Y5,Za hka,Y5,Za hba,e1,Y5 c b B k C,Za hkb]
termination_by A B C=>A.length+B.length+C.length
theorem l9(l:List α)(t:α):isort c (l++[t])=insC c t (isort c l):=by simp[isort]
theorem Jb(h:Cmp c):∀(l A:List α),Srt c A->l.foldl (fun s t=>insC c t s) A=mrg c A (isort c l)/\Srt c (l.foldl (fun s t=>insC c t s) A)
 |[],A,hA=>⟨by simp[isort,Xe],hA⟩
 |t::l,A,hA=>by
  have h1:=Jb h l (insC c t A) (uq h hA t);have h2:=Jb h l [t] (List.pairwise_singleton _ _);refine⟨?_,h1.2⟩;have e:isort c (t::l)=l.foldl (fun s t=>insC c t s) [t]:=rfl;have hs:Srt c (isort c l):=(Jb h l [] List.Pairwise.nil).2;rw[zD,h1.1,e,h2.1,ji,jj h A [t] _ hA (List.pairwise_singleton _ _) hs]
theorem qc(h:Cmp c)(l:List α):Srt c (isort c l):=(Jb h l [] List.Pairwise.nil).2
theorem ur(h:Cmp c)(l r:List α):isort c (l++r)=mrg c (isort c l) (isort c r):=by
 have:=(Jb h r (isort c l) (qc h l)).1;rw[<-this];simp[isort]
theorem X8(l:List α):(isort c l).Perm l:=by
 have:∀(l A:List α),(l.foldl (fun s t=>insC c t s) A).Perm (A++l):=by
  intro l
  induction l with
  |nil=>intro A;simp
  |cons t l ih=>
   intro A;refine(ih _).trans ?_;show(insC c t A++l).Perm _;rw[ji];refine((um A [t]).append_right l).trans ?_;simp
 simpa[isort] using this l []
theorem jk{t:α}:∀{A B:List α},(∀x∈A,¬c t x<0)->(∀x∈B,c t x<0)->insC c t (A++B)=A++t::B
 |[],[],_,_=>rfl
 |[],b::B,_,h=>by rw[ZE,insC,Zb (h b (by simp))];rfl
 |a::A,B,h,h'=>by
  rw[Zw,insC,Za (h a (by simp)),jk (fun x hx=>h x (by simp[hx])) h'];rfl
theorem ym(l:List α):(isort c l).length=l.length:=(X8 l).length_eq
end
theorem Jc{α:Type}(l:List α):l=[]\/∃(r:List α) (x:α),l=r++[x]:=by
 rcases List.eq_nil_or_concat l with h|⟨r,x,h⟩
 ·exact .inl h
 ·exact .inr ⟨r,x,by simpa using h⟩
theorem xR{α:Type}{L R:List α}{x:α}{i:Nat}(h:i=L.length):(L++x::R)[i]? =some x:=by
 subst h;simp
theorem xS{α:Type}{L R:List α}{x y:α}{i:Nat}(h:i=L.length):(L++x::R).set i y=L++y::R:=by
 subst h;simp
end Go.Am
namespace Go.Am
def at'(xs:List PV)(i:Nat):PV:=(xs[i]?).getD .nilptr
theorem QB{xs:List PV}{i:Nat}(h:i<xs.length):xs[i]? =some (at' xs i):=by
 unfold at';rw[Zf h];rfl
theorem ut{P A R:List PV}{a i:Nat}(hP:P.length=a)(hi:i<A.length):at' (P++A++R) (a+i)=at' A i:=by
 unfold at';rw[Zd,zq (by omega),Zx (by omega)]
 congr 2
 omega
theorem Xo{c:PV->PV->Int}(hC:Cmp c){A:List PV}(hs:Srt c A){i j:Nat}(hij:i<=j)(hj:j<A.length):c (at' A i) (at' A j)<=0:=by
 rcases Nat.eq_or_lt_of_le hij with rfl|h
 ·have:=hC.self (at' A i);omega
 ·have h1:at' A i=A[i]:=by unfold at';rw[Zf (by omega)];rfl
  have h2:at' A j=A[j]:=by unfold at';rw[Zf hj];rfl
  rw[h1,h2];exact List.pairwise_iff_getElem.1 hs i j (by omega) hj h
theorem XJ{A:List PV}{x:PV}(h:x∈A):∃i,i<A.length/\x=at' A i:=by
 obtain⟨i,hi⟩:=zU.1 h;refine⟨i,(Ze.1 hi).1,?_⟩;unfold at';rw[hi];rfl
theorem Ma{A:List PV}{i:Nat}(h:i<A.length):at' A i∈A:=Zk (QB h)
theorem qe{A:List PV}{k i:Nat}(h:i<k):at' (A.take k) i=at' A i:=by
 unfold at';rw[zB h]
theorem qf{A:List PV}{k i:Nat}:at' (A.drop k) i=at' A (k+i):=by
 unfold at';rw[ZT]
end Go.Am
namespace Go.Am
section
variable{α:Type} {c:α->α->Int}
inductive Blk(c:α->α->Int)(n:Nat):List α->List α->Prop
 |last (x:List α) (h:x.length<=n):Blk c n x (isort c x)
 |cons (x r d:List α) (h:x.length=n) (k:Blk c n r d):Blk c n (x++r) (isort c x++d)
inductive Full(c:α->α->Int)(n:Nat):List α->List α->Prop
 |nil:Full c n [] []
 |snoc (x r d:List α) (h:x.length=n) (k:Full c n r d):Full c n (r++x) (d++isort c x)
theorem Full.blk{n:Nat}{r d r' d':List α}(h:Full c n r d)(k:Blk c n r' d'):Blk c n (r++r') (d++d'):=by
 induction h generalizing r' d' with
 |nil=>exact k
 |snoc x r d hx _ ih=>
  have:=ih (.cons x r' d' hx k);simpa using this
theorem Full.length{n:Nat}{r d:List α}(h:Full c n r d):d.length=r.length:=by
 induction h with
 |nil=>rfl
 |snoc x r d hx _ ih=>simp[ih,ym]
theorem Full.mem{n:Nat}{r d:List α}(h:Full c n r d){x:α}:x∈d↔x∈r:=by
 induction h with
 |nil=>simp
 |snoc y r d hx _ ih=>simp[ih,(X8 y).mem_iff]
theorem Blk.length{n:Nat}{r d:List α}(h:Blk c n r d):d.length=r.length:=by
 induction h with
 |last x h=>exact ym x
 |cons x r d hx _ ih=>simp[ih,ym]
theorem Blk.mem{n:Nat}{r d:List α}(h:Blk c n r d){x:α}:x∈d↔x∈r:=by
 induction h with
 |last y h=>exact(X8 y).mem_iff
 |cons y r d hx _ ih=>simp[ih,(X8 y).mem_iff]
theorem Blk.whole{n:Nat}{r d:List α}(h:Blk c n r d)(hr:r.length<=n):d=isort c r:=by
 cases h with
 |last x h=>rfl
 |cons x r d hx k=>
  have:r=[]:=ZQ.1 (by simp at hr;omega);subst this;have hd:d=[]:=ZQ.1 (by rw[k.length];rfl);subst hd;simp
theorem Blk.two{n:Nat}{r d:List α}(h:Blk c n r d)(hn:0<n)(hr:n<r.length):∃x y r2 d2,r=x++y++r2/\d=isort c x++isort c y++d2/\x.length=n/\y.length<=n/\0<y.length/\Blk c n r2 d2/\(y.length<n->r2=[]):=by
 cases h with
 |last x h=>omega
 |cons x r1 d1 hx k=>
  cases k with
  |last _ hy=>exact⟨x,r1,[],[],by simp,by simp,hx,hy,by simp at hr;omega,.last [] (by simp),fun _=>rfl⟩
  |cons y r2 d2 hy k=>exact⟨x,y,r2,d2,by simp,by simp,hx,by omega,by omega,k,fun h=>by omega⟩
end
end Go.Am

/- Terms out of values, and comparing by what they stand for. -/
namespace Go.Am
theorem Tm.zzs:∀{a b:Tm},a.pv=b.pv->a=b:=by
 intro a
 induction a using Tm.zyR with
 |h a ih=>
  intro b hab;have lists:∀(l r:List Tm),(∀t∈l,∀{b:Tm},t.pv=b.pv->t=b)->Tm.pvs l=Tm.pvs r->l=r:=by
   intro l
   induction l with
   |nil=>intro r _ h;cases r with
    |nil=>rfl
    |cons y r=>simp[Tm.pvs] at h
   |cons x l ihl=>
    intro r hx h;cases r with
    |nil=>simp[Tm.pvs] at h
    |cons y r=>
     simp only[Tm.pvs,List.cons.injEq] at h;rw[hx x (by simp) h.1,ihl r (fun t ht=>hx t (by simp[ht])) h.2]
  rw[Tm.zzr,Tm.zzr] at hab;simp only[PV.agg.injEq,List.cons.injEq,Prod.mk.injEq,PV.int.injEq,PV.str.injEq,PV.sl.injEq,true_and,and_true] at hab;exact Tm.ext hab.1 hab.2.1 hab.2.2.1 (lists _ _ ih hab.2.2.2)
open Classical in
noncomputable def tmOf(p:PV):Tm:=if h:∃t:Tm,p=t.pv then h.choose else .mk 0 0 [] []
theorem kx(t:Tm):tmOf t.pv=t:=by
 have h:∃u:Tm,t.pv=u.pv:=⟨t,rfl⟩;unfold tmOf;rw[dif_pos h];exact(Tm.zzs h.choose_spec).symm
noncomputable def onPV(c:Tm->Tm->Int)(p q:PV):Int:=c (tmOf p) (tmOf q)
theorem uu{c:Tm->Tm->Int}(h:Cmp c):Cmp (onPV c):=⟨fun x y=>h.neg _ _,fun h1 h2=>h.trans h1 h2⟩
theorem Mb:Cmp Tm.cmp:=⟨fun x y=>Tm.zzc x y,fun h1 h2=>Tm.zy1 h1 h2⟩
theorem uw(c:Tm->Tm->Int)(t:Tm):∀l:List Tm,insC (onPV c) t.pv (Tm.pvs l)=Tm.pvs (insC c t l)
 |[]=>rfl
 |x::l=>by
  simp only[Tm.pvs,insC,onPV,kx];split
  ·rfl
  ·simp only[Tm.pvs];rw[uw c t l]
theorem uz(c:Tm->Tm->Int)(l:List Tm):isort (onPV c) (Tm.pvs l)=Tm.pvs (isort c l):=by
 have:∀(l s:List Tm),(Tm.pvs l).foldl (fun s t=>insC (onPV c) t s) (Tm.pvs s)=Tm.pvs (l.foldl (fun s t=>insC c t s) s):=by
  intro l
  induction l with
  |nil=>intro s;rfl
  |cons x l ih=>intro s;simp only[Tm.pvs,zD,uw,ih]
 exact this l []
def z8(t:Tm):Tm:=(t.args[0]?).getD (.mk 0 0 [] [])
def xn(a b:Tm):Int:=(z8 a).cmp (z8 b)
theorem Mc:Cmp xn:=⟨fun x y=>Tm.zzc _ _,fun h1 h2=>Tm.zy1 h1 h2⟩
end Go.Am

/- Loops over functions: what a body of two pieces comes to, and a round. -/
namespace Go.Am
variable{F:FuncId->Option AFn} {prim:FuncId->Option Ys}
end Go.Am

/- Neighbours that are the same, dropped; what sorting and dropping leaves. -/
namespace Go.Am
def xT(s:List Tm)(x:Tm):List Tm:=match s.getLast? with
 |some y=>if x.cmp y=0 then s else s++[x]
 |none=>[x]
def dd(l:List Tm):List Tm:=l.foldl xT []
theorem Jd(l:List Tm)(x:Tm):dd (l++[x])=xT (dd l) x:=by simp[dd]
theorem Md(s:List Tm)(x:Tm):(xT s x).getLast? =some x:=by
 unfold xT;split
 ·rename_i y hy;split
  ·rename_i h;rw[hy,Tm.cmp_zero.1 h]
  ·simp
 ·rfl
theorem ky:∀l:List Tm,(dd l).getLast? =l.getLast? :=by
 intro l;rcases Jc l with rfl|⟨r,x,rfl⟩
 ·rfl
 ·rw[Jd,Md];simp
theorem jl{l:List Tm}{x y:Tm}(h:l.getLast? =some y)(hc:¬x.cmp y=0):dd (l++[x])=dd l++[x]:=by
 rw[Jd];unfold xT;rw[ky,h];simp[hc]
theorem jm{l:List Tm}{x y:Tm}(h:l.getLast? =some y)(hc:x.cmp y=0):dd (l++[x])=dd l:=by
 rw[Jd];unfold xT;rw[ky,h];simp[hc]
theorem jn(l:List Tm):(dd l).length<=l.length:=by
 have:∀n (l:List Tm),l.length=n->(dd l).length<=n:=by
  intro n
  induction n with
  |zero=>intro l h;rw[ZQ.1 h];simp[dd]
  |succ n ih=>
   intro l h;rcases Jc l with rfl|⟨r,x,rfl⟩
   ·simp at h
   ·have:=ih r (by simpa using h);rw[Jd];unfold xT;split
    ·split
     ·omega
     ·simp;omega
    ·simp
 exact this _ l rfl
theorem mem_dd{t:Tm}:∀{l:List Tm},t∈dd l↔t∈l:=by
 have:∀n (l:List Tm),l.length=n->(t∈dd l↔t∈l):=by
  intro n
  induction n with
  |zero=>intro l h;rw[ZQ.1 h];simp[dd]
  |succ n ih=>
   intro l h;rcases Jc l with rfl|⟨r,x,rfl⟩
   ·simp at h
   ·have i:=ih r (by simpa using h);rw[Jd];unfold xT;split
    ·rename_i y hy;split
     ·rename_i hc;have:=Tm.cmp_zero.1 hc;subst this;have hm:x∈dd r:=List.mem_of_getLast? hy;rw[i,Zr];refine⟨.inl,fun h=> ?_⟩;rcases h with h|h
      ·exact h
      ·obtain rfl:t=x:=by simpa using h
       exact i.1 hm
     ·rw[Zr,Zr,i]
    ·rename_i hn;have hr:r=[]:=by
      rw[ky] at hn;exact List.getLast?_eq_none_iff.1 hn
     simp[hr]
 intro l;exact this _ l rfl
end Go.Am

/- Runs with facts: what is known of calls of values alone is looked up. -/
namespace Go.Am
mutual
def PV.eqB:Nat->PV->PV->Bool
 |0,_,_=>false
 |_+1,.bool a,.bool b=>a == b
 |_+1,.int k n,.int k' n'=>decide (k=k') && decide (n=n')
 |_+1,.str s,.str s'=>decide (s.map UInt8.toNat=s'.map UInt8.toNat)
 |d+1,.agg l,.agg l'=>PV.eqA d l l'
 |d+1,.sl sh es,.sl sh' es'=>decide (sh=sh') && PV.eqL d es es'
 |_+1,_,_=>false
termination_by structural d _ _=>d
def PV.eqA:Nat->List (Sh × PV)->List (Sh × PV)->Bool
 |0,_,_=>false
 |_+1,[],[]=>true
 |d+1,(s,a)::r,(s',b)::r'=>decide (s=s') && (PV.eqB d a b && PV.eqA d r r')
 |_+1,_,_=>false
termination_by structural d _ _=>d
def PV.eqL:Nat->List PV->List PV->Bool
 |0,_,_=>false
 |_+1,[],[]=>true
 |d+1,a::r,b::r'=>PV.eqB d a b && PV.eqL d r r'
 |_+1,_,_=>false
termination_by structural d _ _=>d
end
theorem uA:∀{a b:List UInt8},a.map UInt8.toNat=b.map UInt8.toNat->a=b
 |[],[],_=>rfl
 |[],_::_,h=>by simp at h
 |_::_,[],h=>by simp at h
 |x::r,y::t,h=>by
  simp only[ZP,List.cons.injEq] at h;rw[UInt8.toNat.inj h.1,uA h.2]
theorem uB:∀d,(∀a b,PV.eqB d a b=true->a=b)/\(∀a b,PV.eqA d a b=true->a=b)/\(∀a b,PV.eqL d a b=true->a=b)
 |0=>⟨fun _ _ h=>Bool.noConfusion (show false=true from h),fun _ _ h=>Bool.noConfusion (show false=true from h),fun _ _ h=>Bool.noConfusion (show false=true from h)⟩
 |d+1=>by
  obtain⟨h1,h2,h3⟩:=uB d;refine⟨fun a b h=> ?_,fun a b h=> ?_,fun a b h=> ?_⟩
  ·cases a <;> cases b <;> try (exact Bool.noConfusion (show false=true from h))
   ·rw[eq_of_beq h]
   ·rename_i k n k' n';have h:(decide (k=k') && decide (n=n'))=true:=h;simp only[Zm,Zz] at h;rw[h.1,h.2]
   ·rw[uA (ze h)]
   ·rw[h2 _ _ h]
   ·rename_i sh es sh' es';have h:(decide (sh=sh') && PV.eqL d es es')=true:=h;simp only[Zm,Zz] at h;rw[h.1,h3 _ _ h.2]
  ·cases a with
   |nil=>cases b with
    |nil=>rfl
    |cons=>exact Bool.noConfusion (show false=true from h)
   |cons x r=>cases b with
    |nil=>exact Bool.noConfusion (show false=true from h)
    |cons y t=>
     obtain⟨s,a⟩:=x;obtain⟨s',b⟩:=y;have h:(decide (s=s') && (PV.eqB d a b && PV.eqA d r t))=true:=h;simp only[Zm,Zz] at h;rw[h.1,h1 _ _ h.2.1,h2 _ _ h.2.2]
  ·cases a with
   |nil=>cases b with
    |nil=>rfl
    |cons=>exact Bool.noConfusion (show false=true from h)
   |cons x r=>cases b with
    |nil=>exact Bool.noConfusion (show false=true from h)
    |cons y t=>
     have h:(PV.eqB d x y && PV.eqL d r t)=true:=h;simp only[Zm] at h;rw[h1 _ _ h.1,h3 _ _ h.2]
abbrev Facts:=List (FuncId × List (Sh × PV) × AV)
def Je:Facts->FuncId->List (Sh × PV)->Option AV
 |[],_,_=>none
 |(g,qs,v)::r,f,ps=>bif Nat.beq g f then(bif PV.eqA 60 qs ps then some v else Je r f ps) else Je r f ps
def hasF:Facts->FuncId->Bool
 |[],_=>false
 |(g,_,_)::r,f=>bif Nat.beq g f then true else hasF r f
def kz(K:Facts)(f:FuncId)(args:List AV)(hp:Heap):Option (ARes × Heap):=
 match Yi args hp with
 |none=>none
 |some (ps,hp1)=>match Je K f ps with
  |some v=>some (.ret v,bif v.scalar then hp else hp1)
  |none=>none
def XK(K:Facts)(F:FuncId->Option AFn)(prim:FuncId->Option Ys):Nat->Oracle
 |0=>fun _ _ _ _=>none
 |n+1=>fun k f args hp=>match k with
  | .fn=>bif hasF K f then(match kz K f args hp with
    |some r=>some r
    |none=>acall F prim (XK K F prim n) (aloop (XK K F prim n) n) .fn f args hp)
   else acall F prim (XK K F prim n) (aloop (XK K F prim n) n) .fn f args hp
  |k=>acall F prim (XK K F prim n) (aloop (XK K F prim n) n) k f args hp
variable{F:FuncId->Option AFn} {prim:FuncId->Option Ys}
theorem freezeAll_pvs':∀(ps:List (Sh × PV)) {hp:Heap},Yi (pvs ps) hp=some (ps,hp)
 |[],_=>rfl
 |(sh,p)::r,hp=>by
  have h:AV.freeze deep (.pv sh p) hp=some (p,hp):=rfl;show Yi (.pv sh p::pvs r) hp=_;simp only[Yi,h,freezeAll_pvs' r,AV.shp]
def kD(F:FuncId->Option AFn)(prim:FuncId->Option Ys)(f:FuncId):Bool:=
 match prim f,F f with
 |none,some fn=> !fn.heapMode
 |_,_=>false
def resV:Option (ARes × Heap)->Option AV
 |some (.ret v,_)=>some v
 |_=>none
inductive FactsOk(F:FuncId->Option AFn)(prim:FuncId->Option Ys):Facts->Prop
 |nil:FactsOk F prim []
 |cons {f:FuncId} {qs:List (Sh × PV)} {v:AV} {K:Facts} (hp:kD F prim f=true) (h:resV (sem F prim .fn f (pvs qs) [])=some v) (k:FactsOk F prim K):FactsOk F prim ((f,qs,v)::K)
theorem kE{f:FuncId}{ps:List (Sh × PV)}{v:AV}:∀{K:Facts},FactsOk F prim K->Je K f ps=some v->kD F prim f=true/\resV (sem F prim .fn f (pvs ps) [])=some v
 |_,.nil,h=>by cases h
 |_,.cons (f:=g) (qs:=qs) hp h1 k,h=>by
  unfold Je at h;cases hg:Nat.beq g f with
  |false=>rw[hg] at h;exact kE k h
  |true=>
   rw[hg] at h;have hgf:g=f:=zf hg;cases he:PV.eqA 60 qs ps with
   |false=>rw[he] at h;exact kE k h
   |true=>
    rw[he] at h;cases h;rw[<-(uB 60).2.1 _ _ he,<-hgf];exact⟨hp,h1⟩
theorem Me{K:Facts}(hK:FactsOk F prim K){f:FuncId}{args:List AV}{hp:Heap}{r:ARes × Heap}(h:kz K f args hp=some r):sem F prim .fn f args hp=some r:=by
 unfold kz at h;split at h
 ·cases h
 ·rename_i ps hp1 hz;split at h
  ·rename_i v hv;cases h;obtain⟨h1,h2⟩:=kE hK hv;unfold kD at h1;split at h1
   ·rename_i fn hpr hF;rw[xN] at h2 ⊢;unfold yq at h2 ⊢;rw[hpr,hF] at h2 ⊢;have hm:fn.heapMode=false:=by simpa using h1
    simp only[hm,ZR,if_false,hz,freezeAll_pvs'] at h2 ⊢;split at h2
    ·cases h2
    ·rename_i hrc;rw[Za hrc];cases hb:abody (sem F prim) (sloop F prim) fn (pvs ps) [] with
     |none=>rw[hb] at h2;cases h2
     |some q=>
      obtain⟨q,hp2⟩:=q;rw[hb] at h2;cases q with
      |panic v'=>cases h2
      |ret v'=>
       simp only at h2 ⊢;cases hf:v'.freezeRes hp2 with
       |none=>rw[hf] at h2;cases h2
       |some x=>
        rw[hf] at h2;cases h2;rfl
   ·cases h1
  ·cases h
theorem jo:∀n,LLe (aloop (sem F prim) n) (sloop F prim)
 |0=>fun _ _ _ _ _ _ h=>by cases h
 |n+1=>fun b m keep c st r h=>by
  simp only[aloop] at h;rw[UV];split at h
  ·rename_i ho;rw[Y8 (OLe.refl _) (jo n) ho];exact jo n _ _ _ _ _ _ h
  ·rename_i hn;rw[Y8 (OLe.refl _) (jo n) h];split
   ·rename_i e;cases e;exact(hn _ h).elim
   ·rfl
theorem kF{K:Facts}(hK:FactsOk F prim K):∀n,OLe (XK K F prim n) (sem F prim)
 |0=>fun _ _ _ _ _ h=>by cases h
 |n+1=>fun k f args hp r h=>by
  have key:acall F prim (XK K F prim n) (aloop (XK K F prim n) n) k f args hp=some r->sem F prim k f args hp=some r:=fun h=>by
   rw[K7];exact K4 (kF hK n) ((XG (kF hK n) (Zi n)).trans (jo n)) _ _ _ _ _ h
  unfold XK at h;split at h
  ·cases hh:hasF K f with
   |false=>rw[hh] at h;exact key h
   |true=>
    rw[hh] at h;simp only[cond_true] at h;split at h
    ·rename_i r' hr;cases h;exact Me hK hr
    ·exact key h
  ·exact key h
theorem yj{K:Facts}(hK:FactsOk F prim K){n:Nat}{f:FuncId}{qs:List (Sh × PV)}{v:AV}(h:resV (XK K F prim n .fn f (pvs qs) [])=some v):resV (sem F prim .fn f (pvs qs) [])=some v:=by
 cases hr:XK K F prim n .fn f (pvs qs) [] with
 |none=>rw[hr] at h;cases h
 |some r=>
  rw[kF hK n _ _ _ _ _ hr];rw[hr] at h;exact h
end Go.Am

/- What a law is given, as values without references. -/
namespace Go.Am
variable{P:Program} {H:Type} {enc:TypeId × Value->H} {w:World} {I:Nat->Prop}

theorem jp{α β:Type}{g:α->Option β}:∀{l:List α} {xs:List β},l.mapM g=some xs->l.length=xs.length/\∀(i:Nat) (a:α) (x:β),l[i]? =some a->xs[i]? =some x->g a=some x
 |[],xs,h=>by
  simp at h;subst h;exact⟨rfl,fun i a x h=>by simp at h⟩
 |a::r,xs,h=>by
  rw[List.mapM_cons] at h;cases ha:g a with
  |none=>rw[ha] at h;cases h
  |some y=>
   rw[ha] at h;cases hr:r.mapM g with
   |none=>rw[hr] at h;cases h
   |some ys=>
    rw[hr] at h;cases h;obtain⟨h1,h2⟩:=jp hr;refine⟨by simp[h1],fun i b x hb hx=> ?_⟩;cases i with
    |zero=>simp at hb hx;subst hb;subst hx;exact ha
    |succ i=>exact h2 i b x (by simpa using hb) (by simpa using hx)

def yX(sh:Sh)(cs:List Value):Value:=
 match sh with
 |none=>cs.headD .nilIface
 |some _=>.agg cs.toArray

def qg(P:Program)(n:Nat):Nat->List Field->Bool
 |o,[]=>decide (o=n)
 |o,f::r=>decide (f.offset=o) && okT P f.type && qg P n (o+(shOf P f.type).size) r
def Xw(P:Program)(g:TypeId->DataW H->Option PV):List Field->List (DataW H)->Option (List (Sh × PV))
 |[],[]=>some []
 |f::fs,d::ds=>match g f.type d with
  |none=>none
  |some p=>match Xw P g fs ds with
   |some l=>some ((shOf P f.type,p)::l)
   |none=>none
 |_,_=>none
def XT(g:DataW H->Option PV):List (DataW H)->Option (List PV)
 |[]=>some []
 |d::ds=>match g d with
  |none=>none
  |some p=>match XT g ds with
   |some l=>some (p::l)
   |none=>none
def yx(P:Program):Nat->TypeId->DataW H->Option PV
 |0,_,_=>none
 |n+1,t,d=>match P.underlying t,d with
  |some .bool,.lit (.bool b)=>some (.bool b)
  |some (.int k),.lit (.int k' n)=>if k'=k/\(Lit.int k n).wf=true then some (.int k n) else none
  |some .string,.lit (.string l)=>some (.str l)
  |some (.slice e),.nil=>some (.sl (shOf P e) [])
  |some (.slice e),.slice es _=>if okT P e=true then match XT (yx P n e) es with
    |some l=>some (.sl (shOf P e) l)
    |none=>none
   else none
  |some (.struct fs),.agg parts=>if qg P (P.cellsOf t) 0 fs.toList=true then match Xw P (yx P n) fs.toList parts with
    |some l=>some (.agg l)
    |none=>none
   else none
  |_,_=>none

theorem uC{t:TypeId}(h:okT P t=true):P.cellsOf t=(shOf P t).size/\0<P.cellsOf t:=by
 unfold okT at h;split at h
 ·rename_i i _ hi _;simp only[Zm,beq_iff_eq,Zz] at h;have:P.cellsOf t=i.size:=by simp[Program.cellsOf,hi]
  omega
 ·cases h

theorem uD{base:Nat}{a:Addr}{n:Nat}{l:List Value}(h:w.cells? base a n=some l)(hn:0<n):a.spot=none/\∃cs t fr,w.heap[a.block]? =some (.cells cs t fr)/\l=(cs.toList.drop a.off).take n/\l.length=n:=by
 unfold World.cells? at h;split at h
 ·obtain⟨h1,h2⟩:=jp h;rw[List.length_range] at h1;have rd:∀i,i<n->∃v,l[i]? =some v/\w.cell? (a.add i)=some v:=by
   intro i hi;have hl:l[i]? =some l[i]:=Zf (by omega);exact⟨l[i],hl,h2 i i l[i] (by simp[hi]) hl⟩
  obtain⟨v0,hv0,hc0⟩:=rd 0 hn;unfold World.cell? at hc0;split at hc0
  ·rename_i cs t fr hb;split at hc0
   ·cases hc0
   ·rename_i hsp;have hb':w.heap[a.block]? =some (.cells cs t fr):=hb;have hsp':a.spot=none:=by simpa[Addr.add] using hsp
    refine⟨hsp',cs,t,fr,hb',?_,h1.symm⟩;apply zK;intro i;by_cases hi:i<n
    ·obtain⟨v,e1,e2⟩:=rd i hi;rw[e1];have ea:a.add i=⟨a.block,a.off+i,none⟩:=by
      unfold Addr.add;split
      ·rename_i h0;subst h0;cases a;simp_all
      ·rfl
     rw[ea] at e2;simp only[World.cell?,hb',zL,ZR,if_false] at e2;rw[zB hi,ZT];simpa using e2.symm
    ·rw[Z3 (by omega),Z3 (by simp;omega)]
  ·cases hc0
 ·cases h

theorem uE{g:TypeId->List Value->Option (DataW H × List MemPlace)}{f:TypeId->DataW H->Option PV}
  (hg:∀t cs d ps p,g t cs=some (d,ps)->okT P t=true->f t d=some p->PR w I p (yX (shOf P t) cs)/\vshp (yX (shOf P t) cs)=shOf P t/\(yX (shOf P t) cs).cells.toList=cs)(cs:List Value):
  ∀(fs:List Field) (o:Nat) (xs:List (DataW H × List MemPlace)) (l:List (Sh × PV)),qg P cs.length o fs=true->fs.mapM (fun fd=>g fd.type ((cs.drop fd.offset).take (P.cellsOf fd.type)))=some xs->Xw P f fs (xs.map (·.1))=some l->
  ∃vs:List Value,l.length=vs.length/\(∀(i:Nat) (x:Sh × PV) (v:Value),l[i]? =some x->vs[i]? =some v->vshp v=x.1)/\(∀(i:Nat) (x:Sh × PV) (v:Value),l[i]? =some x->vs[i]? =some v->PR w I x.2 v)/\cellsOf vs=cs.drop o
 |[],o,xs,l,hok,hm,hp=>by
  simp[qg] at hok;simp at hm;subst hm;simp[Xw] at hp;subst hp;exact⟨[],rfl,fun i x v h=>by simp at h,fun i x v h=>by simp at h,by simp[cellsOf,hok]⟩
 |fd::r,o,xs,l,hok,hm,hp=>by
  simp only[qg,Zm,Zz] at hok;obtain⟨⟨h1,h2⟩,h3⟩:=hok;rw[List.mapM_cons] at hm;cases ha:g fd.type ((cs.drop fd.offset).take (P.cellsOf fd.type)) with
  |none=>rw[ha] at hm;cases hm
  |some y=>
   rw[ha] at hm;cases hr:r.mapM (fun fd=>g fd.type ((cs.drop fd.offset).take (P.cellsOf fd.type))) with
   |none=>rw[hr] at hm;cases hm
   |some ys=>
    rw[hr] at hm;cases hm;simp only[ZP,Xw] at hp;split at hp
    ·cases hp
    ·rename_i p hfp;split at hp
     ·rename_i l' hl';cases hp;obtain⟨k1,k2,k3⟩:=hg _ _ y.1 y.2 p ha h2 hfp;obtain⟨vs,e1,e2,e3,e4⟩:=uE hg cs r _ ys l' h3 hr hl';refine⟨yX (shOf P fd.type) ((cs.drop fd.offset).take (P.cellsOf fd.type))::vs,by simp[e1],?_,?_,?_⟩
      ·intro i x v hx hv;cases i with
       |zero=>simp at hx hv;subst hx;subst hv;exact k2
       |succ i=>exact e2 i x v (by simpa using hx) (by simpa using hv)
      ·intro i x v hx hv;cases i with
       |zero=>simp at hx hv;subst hx;subst hv;exact k1
       |succ i=>exact e3 i x v (by simpa using hx) (by simpa using hv)
      ·simp only[cellsOf,List.flatMap_cons,k3];have e4':List.flatMap (fun v=>v.cells.toList) vs=cs.drop (o+(shOf P fd.type).size):=e4;rw[e4',h1,(uC h2).1,<-ZN,ZK]
     ·cases hp

theorem uF{f:DataW H->Option PV}{g:Nat->Option (DataW H × List MemPlace)}{R:Nat->PV->Prop}
  (hg:∀i d ps p,g i=some (d,ps)->f d=some p->R i p):
  ∀(is:List Nat) (xs:List (DataW H × List MemPlace)) (l:List PV),is.mapM g=some xs->XT f (xs.map (·.1))=some l->
  l.length=is.length/\∀(k i:Nat) (p:PV),is[k]? =some i->l[k]? =some p->R i p
 |[],xs,l,hm,hp=>by
  simp at hm;subst hm;simp[XT] at hp;subst hp;exact⟨rfl,fun k i p h=>by simp at h⟩
 |i::r,xs,l,hm,hp=>by
  rw[List.mapM_cons] at hm;cases ha:g i with
  |none=>rw[ha] at hm;cases hm
  |some y=>
   rw[ha] at hm;cases hr:r.mapM g with
   |none=>rw[hr] at hm;cases hm
   |some ys=>
    rw[hr] at hm;cases hm;simp only[ZP,XT] at hp;split at hp
    ·cases hp
    ·rename_i p hfp;split at hp
     ·rename_i l' hl';cases hp;obtain⟨e1,e2⟩:=uF hg r ys l' hr hl';refine⟨by simp[e1],fun k j q hk hq=> ?_⟩;cases k with
      |zero=>simp at hk hq;subst hk;subst hq;exact hg i y.1 y.2 p ha hfp
      |succ k=>exact e2 k j q (by simpa using hk) (by simpa using hq)
     ·cases hp

theorem uG(f:Nat->Value)(l:List Value)(o n:Nat):∀m:Nat,(∀i,i<m->(f i).cells.toList=(l.drop (o+i*n)).take n)->cellsOf ((List.range m).map f)=(l.drop o).take (m*n)
 |0,_=>by simp[cellsOf]
 |m+1,h=>by
  have ih:=uG f l o n m fun i hi=>h i (by omega);unfold cellsOf at ih ⊢;rw[List.range_succ,List.map_append,List.flatMap_append,ih];simp only[ZP,List.map_nil,List.flatMap_cons,List.flatMap_nil,ZF];rw[h m (by omega),ZI,Nat.one_mul,List.take_add,ZN]

theorem Mf(hI:∀b,I b){base:Nat}{spare:Nat->Bool}{held:Bool}:∀(fuel:Nat) (n:Nat) (t:TypeId) (cs:List Value) (d:DataW H) (ps:List MemPlace) (p:PV),DataW.trod enc P w base spare held fuel t cs=some (d,ps)->okT P t=true->yx P n t d=some p->
  PR w I p (yX (shOf P t) cs)/\vshp (yX (shOf P t) cs)=shOf P t/\(yX (shOf P t) cs).cells.toList=cs:=by
 intro fuel
 induction fuel with
 |zero=>intro n t cs d ps p h;cases h
 |succ fuel ih=>
  intro n t cs d ps p h hok hp;cases n with
  |zero=>cases hp
  |succ n=>
  simp only[yx] at hp;cases hu:P.underlying t with
  |none=>rw[hu] at hp;cases hp
  |some u=>
   rw[hu] at hp;unfold DataW.trod at h;rw[hu] at h;cases u with
   |bool=>
    have hs:shOf P t=none:=by unfold shOf;rw[hu]
    rw[hs];simp only at h hp;split at h <;> first|contradiction|(exfalso;clear ih;simp_all;done)|skip
    ·cases h;cases hp;exact⟨.bool _,rfl,rfl⟩
   |int k=>
    have hs:shOf P t=none:=by unfold shOf;rw[hu]
    rw[hs];simp only at h hp;split at h <;> first|contradiction|(exfalso;clear ih;simp_all;done)|skip
    ·rename_i e;split at h
     ·rename_i e2;obtain⟨e2,e3⟩:=e2;subst e2;cases h;cases e;simp only[e3,and_self,if_true] at hp;cases hp;exact⟨.int _ _,rfl,rfl⟩
     ·cases h
   |string=>
    have hs:shOf P t=none:=by unfold shOf;rw[hu]
    rw[hs];simp only at h hp;split at h <;> first|contradiction|(exfalso;clear ih;simp_all;done)|skip
    ·split at h
     ·cases h;cases hp;exact⟨.str _,rfl,rfl⟩
     ·cases h
   |slice e=>
    have hs:shOf P t=none:=by unfold shOf;rw[hu]
    rw[hs];simp only at h hp;split at h <;> first|contradiction|(exfalso;clear ih;simp_all;done)|skip
    ·cases h;cases hp;exact⟨.nilsl _ _ _,rfl,rfl⟩
    ·rename_i e' a len cap hx;cases hx;split at h
     ·rename_i hb;obtain⟨hb1,hb2,hb3⟩:=hb;rw[Option.bind_eq_some_iff] at h;obtain⟨elems,hm,h⟩:=h;rw[Z7] at h;obtain⟨rest,hr,h⟩:=h;cases h;simp only at hp;split at hp
      ·rename_i hoe;split at hp
       ·rename_i l hl;cases hp;obtain⟨hc1,hc2⟩:=uC hoe;obtain⟨k1,k2⟩:=uF (R:=fun i p=>PR w I p (yX (shOf P e) (((w.cells? base (a.add (i*P.cellsOf e)) (P.cellsOf e))).getD []))/\vshp (yX (shOf P e) (((w.cells? base (a.add (i*P.cellsOf e)) (P.cellsOf e))).getD []))=shOf P e/\(yX (shOf P e) (((w.cells? base (a.add (i*P.cellsOf e)) (P.cellsOf e))).getD [])).cells.toList=((w.cells? base (a.add (i*P.cellsOf e)) (P.cellsOf e))).getD []) (fun i d ps p hg hf=>by
         rw[Option.bind_eq_some_iff] at hg;obtain⟨c,hc,hg⟩:=hg;rw[hc];exact ih n e c d ps p hg hoe hf) _ _ _ hm hl
        rw[List.length_range] at k1;refine⟨?_,rfl,rfl⟩;have hel:elems.length=len:=by have:=(jp hm).1;simpa using this.symm
        cases len with
        |zero=>
         have:l=[]:=ZQ.1 (by omega);subst this;exact .nilsl _ _ _
        |succ m=>
         have rd:∀i,i<m+1->∃c,w.cells? base (a.add (i*P.cellsOf e)) (P.cellsOf e)=some c:=fun i hi=>by
          have hx:elems[i]? =some elems[i]:=Zf (by omega);have:=(jp hm).2 i i elems[i] (by simp[hi]) hx;rw[Option.bind_eq_some_iff] at this;obtain⟨c,hc,_⟩:=this;exact⟨c,hc⟩
         obtain⟨c0,hc0⟩:=rd 0 (by omega);obtain⟨s0,cs',t',fr',hblk,_,_⟩:=uD hc0 hc2;have ea0:a.add (0*P.cellsOf e)=a:=by simp[Addr.add]
         rw[ea0] at s0 hblk;have seg:∀i,i<m+1->(w.cells? base (a.add (i*P.cellsOf e)) (P.cellsOf e)).getD []=(cs'.toList.drop (a.off+i*P.cellsOf e)).take (P.cellsOf e)/\((w.cells? base (a.add (i*P.cellsOf e)) (P.cellsOf e)).getD []).length=P.cellsOf e:=fun i hi=>by
          obtain⟨c,hc⟩:=rd i hi;obtain⟨_,cs2,t2,fr2,hb2,e2,e3⟩:=uD hc hc2;have eo:(a.add (i*P.cellsOf e)).off=a.off+i*P.cellsOf e:=by unfold Addr.add;split <;> simp_all
          have eb:(a.add (i*P.cellsOf e)).block=a.block:=by unfold Addr.add;split <;> rfl
          rw[eb,hblk] at hb2;cases hb2;rw[hc,Option.getD_some];rw[eo] at e2;exact⟨e2,e3⟩
         have ha:a=⟨a.block,a.off,none⟩:=by cases a;simp_all
         have hll:l.length=m+1:=k1;rw[ha];have hgoal:PR w I (.sl (shOf P e) l) (.slice (some ⟨a.block,a.off,none⟩) l.length cap):=by
          refine .sl _ _ a.block a.off cap cs' t' fr' ((List.range (m+1)).map fun i=>yX (shOf P e) ((w.cells? base (a.add (i*P.cellsOf e)) (P.cellsOf e)).getD [])) (by simp[hll]) (hI _) hblk ?_ ?_ ?_ (by omega)
          ·intro i p v hp hv;have hi:i<m+1:=by rw[<-hll];exact(Ze.1 hp).1
           simp[hi] at hv;subst hv;exact(k2 i i p (by simp[hi]) hp).2.1
          ·intro i p v hp hv;have hi:i<m+1:=by rw[<-hll];exact(Ze.1 hp).1
           simp[hi] at hv;subst hv;exact(k2 i i p (by simp[hi]) hp).1
          ·have cl:∀i,i<m+1->(yX (shOf P e) ((w.cells? base (a.add (i*P.cellsOf e)) (P.cellsOf e)).getD [])).cells.toList=(cs'.toList.drop (a.off+i*P.cellsOf e)).take (P.cellsOf e):=fun i hi=>by
            rw[<-(seg i hi).1];exact(k2 i i l[i] (by simp[hi]) (Zf (by omega))).2.2
           rw[hll,<-hc1];exact uG (fun i=>yX (shOf P e) ((w.cells? base (a.add (i*P.cellsOf e)) (P.cellsOf e)).getD [])) cs'.toList a.off (P.cellsOf e) (m+1) cl
         rw[hll] at hgoal;exact hgoal
       ·cases hp
      ·cases hp
     ·cases h
   |struct fs=>
    have hs:shOf P t=some (P.cellsOf t):=by unfold shOf;rw[hu]
    rw[hs];simp only at h hp;split at h <;> first|contradiction|(exfalso;clear ih;simp_all;done)|skip
    ·rename_i hlen;rw[Z7] at h;obtain⟨xs,hm,h⟩:=h;cases h;simp only at hp;split at hp
     ·rename_i hfo;split at hp
      ·rename_i l hl;cases hp;rw[<-hlen] at hfo;obtain⟨vs,e1,e2,e3,e4⟩:=uE (w:=w) (I:=I) (fun t cs d ps p hg ho hf=>ih n t cs d ps p hg ho hf) cs fs.toList 0 xs l hfo hm hl;rw[Z4] at e4;refine⟨?_,?_,?_⟩
       ·show PR w I (.agg l) (.agg cs.toArray);rw[<-e4];exact .agg l vs e1 e2 e3
       ·show some cs.toArray.size=_;simp[hlen]
       ·simp[yX,Value.cells]
      ·cases hp
     ·cases hp
   |_=>cases hp

theorem uH{base:Nat}{spare:Nat->Bool}{held:Bool}{n:Nat}{t:TypeId}{v:Value}{d:DataW H}{ps:List MemPlace}{p:PV}(h:DataW.Trod enc P w base spare held t v d ps)(hok:okT P t=true)(hp:yx P n t d=some p)(hv:vshp v=shOf P t):
  AR w (noX (P:=P)) noμ [] (.pv (shOf P t) p) v:=by
 obtain⟨fuel,h⟩:=h;have hI:∀b,Im (noX (P:=P)) noμ [] b:=fun b=>⟨fun h=>h,fun i hi=>by simp[live] at hi⟩;obtain⟨h1,h2,h3⟩:=Mf hI fuel n t _ d ps p h hok hp;have:yX (shOf P t) v.cells.toList=v:=by
  rw[<-hv];cases v <;> simp[vshp,yX,Value.cells]
 rw[this] at h1;exact .pv _ _ _ hv h1
theorem uI{W:World}{base:Nat}{t:TypeId}{v:Value}(h:Value.okWide P W .any base t v):vshp v=shOf P t:=by
 unfold Value.okWide at h;unfold shOf;cases hu:P.underlying t with
 |none=>
  rw[hu] at h;cases v with
  |agg cs=>simp[Cell.okWide,Cell.ok,hu] at h
  |_=>rfl
 |some u=>
  rw[hu] at h;cases u with
  |struct fs=>obtain⟨cs,rfl,hc,_⟩:=h;simp[vshp,hc]
  |array n e=>obtain⟨cs,rfl,hc,_⟩:=h;simp[vshp,hc]
  |_=>
   cases v with
   |agg cs=>simp[Cell.okWide,Cell.ok,hu] at h
   |_=>rfl
end Go.Am

/- Every datum of plain types is a value; terms. -/
namespace Go.Am
variable{P:Program} {H:Type} {enc:TypeId × Value->H} {w:World}

def uJ(P:Program)(ts:List TypeId)(t:TypeId):Bool:=
 okT P t && match P.underlying t with
 |some .bool=>true
 |some (.int _)=>true
 |some .string=>true
 |some (.slice e)=>ts.contains e && okT P e
 |some (.struct fs)=>fs.toList.all (fun f=>ts.contains f.type) && qg P (P.cellsOf t) 0 fs.toList
 |_=>false
def uK(P:Program)(ts:List TypeId):Bool:=ts.all (uJ P ts)

theorem uL{f:DataW H->Option PV}{g:Nat->Option (DataW H × List MemPlace)}(hg:∀i d ps,g i=some (d,ps)->∃p,f d=some p):∀(is:List Nat) (xs:List (DataW H × List MemPlace)),is.mapM g=some xs->∃l,XT f (xs.map (·.1))=some l
 |[],xs,h=>by simp at h;subst h;exact⟨[],rfl⟩
 |i::r,xs,h=>by
  rw[List.mapM_cons] at h;cases ha:g i with
  |none=>rw[ha] at h;cases h
  |some y=>
   rw[ha] at h;cases hr:r.mapM g with
   |none=>rw[hr] at h;cases h
   |some ys=>
    rw[hr] at h;cases h;obtain⟨l,hl⟩:=uL hg r ys hr;obtain⟨p,hp⟩:=hg i y.1 y.2 ha;exact⟨p::l,by simp[XT,hp,hl]⟩
theorem uM{f:TypeId->DataW H->Option PV}{g:Field->Option (DataW H × List MemPlace)}:∀(fs:List Field) (xs:List (DataW H × List MemPlace)),(∀fd∈fs,∀d ps,g fd=some (d,ps)->∃p,f fd.type d=some p)->fs.mapM g=some xs->∃l,Xw P f fs (xs.map (·.1))=some l
 |[],xs,_,h=>by simp at h;subst h;exact⟨[],rfl⟩
 |fd::r,xs,hg,h=>by
  rw[List.mapM_cons] at h;cases ha:g fd with
  |none=>rw[ha] at h;cases h
  |some y=>
   rw[ha] at h;cases hr:r.mapM g with
   |none=>rw[hr] at h;cases h
   |some ys=>
    rw[hr] at h;cases h;obtain⟨l,hl⟩:=uM r ys (fun fd h=>hg fd (by simp[h])) hr;obtain⟨p,hp⟩:=hg fd (by simp) y.1 y.2 ha;exact⟨(shOf P fd.type,p)::l,by simp[Xw,hp,hl]⟩

theorem uN{ts:List TypeId}(hc:uK P ts=true){base:Nat}{spare:Nat->Bool}{held:Bool}:∀(fuel:Nat) (t:TypeId) (cs:List Value) (d:DataW H) (ps:List MemPlace),t∈ts->DataW.trod enc P w base spare held fuel t cs=some (d,ps)->∃p,yx P fuel t d=some p:=by
 intro fuel
 induction fuel with
 |zero=>intro t cs d ps _ h;cases h
 |succ fuel ih=>
  intro t cs d ps ht h;have hp:=Zo.1 hc t ht;unfold uJ at hp;rw[Zm] at hp;have hp:=hp.2;unfold DataW.trod at h;unfold yx;cases hu:P.underlying t with
  |none=>rw[hu] at hp;cases hp
  |some u=>
   rw[hu] at hp h;cases u with
   |bool=>
    simp only at h;split at h <;> first|contradiction|(exfalso;clear ih;simp_all;done)|skip
    ·cases h;exact⟨_,rfl⟩
   |int k=>
    simp only at h;split at h <;> first|contradiction|(exfalso;clear ih;simp_all;done)|skip
    ·rename_i e;split at h
     ·rename_i e2;obtain⟨e2,e3⟩:=e2;subst e2;cases h;cases e;exact⟨_,by simp[e3];rfl⟩
     ·cases h
   |string=>
    simp only at h;split at h <;> first|contradiction|(exfalso;clear ih;simp_all;done)|skip
    ·split at h
     ·cases h;exact⟨_,rfl⟩
     ·cases h
   |slice e=>
    simp only[Zm,List.contains_iff_mem] at hp;simp only at h;split at h <;> first|contradiction|(exfalso;clear ih;simp_all;done)|skip
    ·cases h;exact⟨_,rfl⟩
    ·rename_i e' a len cap hx;cases hx;split at h
     ·rw[Option.bind_eq_some_iff] at h;obtain⟨elems,hm,h⟩:=h;rw[Z7] at h;obtain⟨rest,hr,h⟩:=h;cases h;obtain⟨l,hl⟩:=uL (f:=yx P fuel e) (fun i d ps hg=>by
       rw[Option.bind_eq_some_iff] at hg;obtain⟨c,_,hg⟩:=hg;exact ih e c d ps hp.1 hg) _ _ hm
      exact⟨_,by simp[hp.2,hl];rfl⟩
     ·cases h
   |struct fs=>
    simp only[Zm] at hp;simp only at h;split at h <;> first|contradiction|(exfalso;clear ih;simp_all;done)|skip
    ·rw[Z7] at h;obtain⟨xs,hm,h⟩:=h;cases h;obtain⟨l,hl⟩:=uM (P:=P) (f:=yx P fuel) fs.toList xs (fun fd hfd d ps hg=>by
      have:=Zo.1 hp.1 fd hfd;rw[List.contains_iff_mem] at this;exact ih fd.type _ d ps this hg) hm
     exact⟨_,by simp[hp.2,hl];rfl⟩
   |_=>cases hp

structure BulkLaws(bulk:DataW H->Nat)(all:List (DataW H)->Nat):Prop where
 nil:all []=0
 cons:∀d r,all (d::r)=bulk d+all r
 slice:∀e s,bulk (.slice e s)=all e+all s+1
 agg:∀l,bulk (.agg l)=all l+1
 string:∀l,bulk (.lit (.string l))=l.length+1

structure TermTy(P:Program)(tA tT:TypeId):Prop where
 a:P.underlying tA=some (.slice tT)
 t:∃fs tI tL tS,P.underlying tT=some (.struct fs)/\fs.toList.map (·.type)=[tI,tL,tS,tA]/\P.underlying tI=some (.int .i64)/\P.underlying tL=some (.int .i64)/\P.underlying tS=some .string/\shOf P tT=some 4/\shOf P tA=none/\shOf P tI=none/\shOf P tL=none/\shOf P tS=none

def QC(n:Int):Prop:= -9223372036854775808<=n/\n<=9223372036854775807
mutual
def Tm.rng:Tm->Prop
 | .mk k n _ as=>QC k/\QC n/\Tm.rngs as
def Tm.rngs:List Tm->Prop
 |[]=>True
 |t::r=>t.rng/\Tm.rngs r
end
theorem uO{n:Int}(h:(Lit.int .i64 n).wf=true):QC n:=by
 simpa[Lit.wf,IntKind.min,IntKind.max,IntKind.signed,IntKind.bits,QC] using h

theorem uP{tA tT:TypeId}(hT:TermTy P tA tT){bulk:DataW H->Nat}{all:List (DataW H)->Nat}(hb:BulkLaws bulk all):∀(n:Nat),
  (∀(d:DataW H) (p:PV),yx P n tT d=some p->∃t:Tm,p=t.pv/\t.size<=bulk d/\t.rng)/\
  (∀(d:DataW H) (p:PV),yx P n tA d=some p->∃l:List Tm,p=.sl (some 4) (Tm.pvs l)/\Tm.sizes l<=bulk d/\Tm.rngs l)
 |0=>⟨fun d p h=>(by cases h),fun d p h=>(by cases h)⟩
 |n+1=>by
  obtain⟨ih1,ih2⟩:=uP hT hb n;have elems:∀(ds:List (DataW H)) (l:List PV),XT (yx P n tT) ds=some l->∃ts:List Tm,l=Tm.pvs ts/\Tm.sizes ts<=all ds/\Tm.rngs ts:=by
   intro ds
   induction ds with
   |nil=>intro l h;cases h;exact⟨[],rfl,Zg _,trivial⟩
   |cons d ds ih=>
    intro l h;simp only[XT] at h;split at h
    ·cases h
    ·rename_i p hp;split at h
     ·rename_i l' hl;cases h;obtain⟨t,rfl,h1,h2⟩:=ih1 d p hp;obtain⟨ts,rfl,h3,h4⟩:=ih l' hl;exact⟨t::ts,rfl,by rw[hb.cons];simp only[Tm.sizes];omega,h2,h4⟩
     ·cases h
  obtain⟨hA,fs,tI,tL,tS,hS,hf,hI,hL,hSt,s1,s2,s3,s4,s5⟩:=hT;constructor
  ·intro d p h;unfold yx at h;rw[hS] at h;cases d with
   |agg parts=>
    simp only at h;split at h
    ·split at h
     ·rename_i l hl;cases h;obtain⟨f1,f2,f3,f4,hfs⟩:∃f1 f2 f3 f4:Field,fs.toList=[f1,f2,f3,f4]:=by
       match hx:fs.toList,hf with
       |[a,b,c,d],_=>exact⟨a,b,c,d,rfl⟩
      rw[hfs] at hf hl;simp only[ZP,List.map_nil,List.cons.injEq,and_true] at hf;obtain⟨e1,e2,e3,e4⟩:=hf
      match parts,hl with
      |[],hl=>cases hl
      |d1::r1,hl=>
       simp only[Xw,e1] at hl;split at hl
       ·cases hl
       ·rename_i p1 hp1;split at hl
        ·rename_i l1 hl1;cases hl
         match r1,hl1 with
         |[],hl1=>cases hl1
         |d2::r2,hl1=>
          simp only[Xw,e2] at hl1;split at hl1
          ·cases hl1
          ·rename_i p2 hp2;split at hl1
           ·rename_i l2 hl2;cases hl1
            match r2,hl2 with
            |[],hl2=>cases hl2
            |d3::r3,hl2=>
             simp only[Xw,e3] at hl2;split at hl2
             ·cases hl2
             ·rename_i p3 hp3;split at hl2
              ·rename_i l3 hl3;cases hl2
               match r3,hl3 with
               |[],hl3=>cases hl3
               |d4::r4,hl3=>
                simp only[Xw,e4] at hl3;split at hl3
                ·cases hl3
                ·rename_i p4 hp4;split at hl3
                 ·rename_i l4 hl4;cases hl3
                  match r4,hl4 with
                  |_::_,hl4=>cases hl4
                  |[],hl4=>
                   cases hl4;obtain⟨ts,rfl,k1,k2⟩:=ih2 d4 p4 hp4;have i64:∀(ty:TypeId) (d:DataW H) (p:PV),P.underlying ty=some (.int .i64)->yx P n ty d=some p->∃x,p=.int .i64 x/\QC x:=by
                    intro ty d p hty hp;cases n with
                    |zero=>cases hp
                    |succ n=>
                     unfold yx at hp;rw[hty] at hp;cases d with
                     |lit l=>
                      cases l with
                      |int k x=>
                       simp only at hp;split at hp
                       ·rename_i hw;cases hp;exact⟨x,rfl,uO hw.2⟩
                       ·cases hp
                      |_=>cases hp
                     |_=>cases hp
                   obtain⟨x1,rfl,g1⟩:=i64 tI d1 p1 hI hp1;obtain⟨x2,rfl,g2⟩:=i64 tL d2 p2 hL hp2;obtain⟨s,rfl,hs⟩:∃s,p3=.str s/\s.length<=bulk d3:=by
                    cases n with
                    |zero=>cases hp3
                    |succ n=>
                     unfold yx at hp3;rw[hSt] at hp3;cases d3 with
                     |lit l=>
                      cases l with
                      |string s=>cases hp3;exact⟨s,rfl,by rw[hb.string];omega⟩
                      |_=>cases hp3
                     |_=>cases hp3
                   refine⟨.mk x1 x2 s ts,?_,?_,g1,g2,k2⟩
                   ·simp only[Tm.pv,e1,e2,e3,e4,s2,s3,s4,s5]
                   ·rw[hb.agg,hb.cons,hb.cons,hb.cons,hb.cons,hb.nil];simp only[Tm.size];omega
                 ·cases hl3
              ·cases hl2
           ·cases hl1
        ·cases hl
     ·cases h
    ·cases h
   |lit l=>cases l <;> cases h
   |_=>cases h
  ·intro d p h;unfold yx at h;rw[hA] at h;cases d with
   |nil=>cases h;exact⟨[],by rw[s1];rfl,Zg _,trivial⟩
   |slice es sp=>
    simp only at h;split at h
    ·split at h
     ·rename_i l hl;cases h;obtain⟨ts,rfl,k1,k2⟩:=elems es l hl;exact⟨ts,by rw[s1],by rw[hb.slice];omega,k2⟩
     ·cases h
    ·cases h
   |lit l=>cases l <;> cases h
   |_=>cases h
end Go.Am

/- Data by their types: what a value of a plain type looks like, and how much it holds. -/
namespace Go.Am
variable{P:Program} {H:Type} {enc:TypeId × Value->H} {w:World}

mutual
def PV.sz:PV->Nat
 | .str s=>s.length+1
 | .agg l=>PV.szc l+1
 | .sl _ es=>PV.szs es+1
 |_=>1
def PV.szc:List (Sh × PV)->Nat
 |[]=>0
 |x::r=>PV.sz x.2+PV.szc r
def PV.szs:List PV->Nat
 |[]=>0
 |x::r=>PV.sz x+PV.szs r
end
def kG(P:Program)(f:TypeId->PV->Prop):List Field->List (Sh × PV)->Prop
 |[],[]=>True
 |fd::r,x::l=>x.1=shOf P fd.type/\f fd.type x.2/\kG P f r l
 |_,_=>False
def wt(P:Program):Nat->TypeId->PV->Prop
 |0,_,_=>False
 |n+1,t,p=>match P.underlying t with
  |some .bool=>∃b,p=.bool b
  |some (.int k)=>∃x,p=.int k x/\(Lit.int k x).wf=true
  |some .string=>∃s,p=.str s
  |some (.slice e)=>∃es,p=.sl (shOf P e) es/\∀x∈es,wt P n e x
  |some (.struct fs)=>∃l,p=.agg l/\kG P (wt P n) fs.toList l
  |_=>False

structure BulkLaws2(bulk:DataW H->Nat)(all:List (DataW H)->Nat):Prop extends BulkLaws bulk all where
 one:∀d,1<=bulk d

theorem uQ{bulk:DataW H->Nat}{all:List (DataW H)->Nat}(hb:BulkLaws2 bulk all){f:DataW H->Option PV}{R:PV->Prop}(hf:∀d p,f d=some p->R p/\p.sz<=bulk d):∀(ds:List (DataW H)) (l:List PV),XT f ds=some l->(∀x∈l,R x)/\PV.szs l<=all ds
 |[],l,h=>by cases h;exact⟨fun x hx=>(by cases hx),Zg _⟩
 |d::ds,l,h=>by
  simp only[XT] at h;split at h
  ·cases h
  ·rename_i p hp;split at h
   ·rename_i l' hl;cases h;obtain⟨h1,h2⟩:=hf d p hp;obtain⟨h3,h4⟩:=uQ hb hf ds l' hl;refine⟨fun x hx=> ?_,by rw[hb.cons];simp only[PV.szs];omega⟩;rcases Zt.1 hx with rfl|hx
    ·exact h1
    ·exact h3 x hx
   ·cases h
theorem uR{bulk:DataW H->Nat}{all:List (DataW H)->Nat}(hb:BulkLaws2 bulk all){f:TypeId->DataW H->Option PV}{R:TypeId->PV->Prop}(hf:∀t d p,f t d=some p->R t p/\p.sz<=bulk d):∀(fs:List Field) (ds:List (DataW H)) (l:List (Sh × PV)),Xw P f fs ds=some l->kG P R fs l/\PV.szc l<=all ds
 |[],ds,l,h=>by
  cases ds with
  |nil=>cases h;exact⟨trivial,Zg _⟩
  |cons d r=>cases h
 |fd::fs,ds,l,h=>by
  cases ds with
  |nil=>cases h
  |cons d r=>
   simp only[Xw] at h;split at h
   ·cases h
   ·rename_i p hp;split at h
    ·rename_i l' hl;cases h;obtain⟨h1,h2⟩:=hf fd.type d p hp;obtain⟨h3,h4⟩:=uR hb hf fs r l' hl;exact⟨⟨rfl,h1,h3⟩,by rw[hb.cons];simp only[PV.szc];omega⟩
    ·cases h
theorem uT{bulk:DataW H->Nat}{all:List (DataW H)->Nat}(hb:BulkLaws2 bulk all):∀(n:Nat) (t:TypeId) (d:DataW H) (p:PV),yx P n t d=some p->wt P n t p/\p.sz<=bulk d
 |0,t,d,p,h=>by cases h
 |n+1,t,d,p,h=>by
  have ih:=fun t d p=>uT hb n t d p;have one:=hb.one d;unfold yx at h;unfold wt;cases hu:P.underlying t with
  |none=>rw[hu] at h;cases h
  |some u=>
   rw[hu] at h;cases u with
   |bool=>
    cases d with
    |lit l=>cases l <;> first|(cases h;done)|(cases h;exact⟨⟨_,rfl⟩,one⟩)
    |_=>cases h
   |int k=>
    cases d with
    |lit l=>
     cases l with
     |int k' x=>
      simp only at h;split at h
      ·rename_i hw;cases h;obtain⟨e,hw⟩:=hw;subst e;exact⟨⟨x,rfl,hw⟩,one⟩
      ·cases h
     |_=>cases h
    |_=>cases h
   |string=>
    cases d with
    |lit l=>
     cases l with
     |string s=>cases h;exact⟨⟨_,rfl⟩,by rw[hb.string];exact Zi _⟩
     |_=>cases h
    |_=>cases h
   |slice e=>
    cases d with
    |nil=>cases h;exact⟨⟨[],rfl,fun x hx=>(by cases hx)⟩,one⟩
    |slice es sp=>
     simp only at h;split at h
     ·split at h
      ·rename_i l hl;cases h;obtain⟨h1,h2⟩:=uQ hb (ih e) es l hl;exact⟨⟨l,rfl,h1⟩,by rw[hb.slice];simp only[PV.sz];omega⟩
      ·cases h
     ·cases h
    |lit l=>cases l <;> cases h
    |_=>cases h
   |struct fs=>
    cases d with
    |agg parts=>
     simp only at h;split at h
     ·split at h
      ·rename_i l hl;cases h;obtain⟨h1,h2⟩:=uR hb ih fs.toList parts l hl;exact⟨⟨l,rfl,h1⟩,by rw[hb.agg];simp only[PV.sz];omega⟩
      ·cases h
     ·cases h
    |lit l=>cases l <;> cases h
    |_=>cases h
   |_=>cases d <;> first|(cases h;done)|(rename_i l;cases l <;> cases h)

end Go.Am
