/- What is proved: the abstract machine says true of the model (part 4). No conditions beside those that each theorem names. -/
import Derived.Test.YtiifblpdlphchaaGreatRRAm3
import Derived.Lib.Bytealg
import Derived.ProofKit
import Derived.OpenShut
import Derived.JoinedCond
import Derived.Test.YtiifblpdlphchaaGreatRRAm2
import Derived.Laws.CopyRow
import Derived.Lib.Overlaps
import Derived.WalkKit
set_option linter.unusedSimpArgs false
set_option linter.unusedVariables false
/- Calls; the whole. -/
namespace Go.Am
variable{P:Program} {w:World} {X:Xc P} {μ:Nat->Option Nat} {hp:Heap}

theorem zeL{F:FuncId->Option AFn}{prim:FuncId->Option zba}{Γ:Oracle}{Λ:zak}(hmix:P.follows .mixedOrders=true)(hF:zle P F)(hP:zfQ P prim)(hΓ:SoundO P Γ)(hΛ:∀nt c ac,Tr P nt c ac->zeG P nt Λ c ac){f:FuncId}{args:List AV}{r:ARes}{hp':Heap}{vs:List Value}
  (h:za8 F prim Γ Λ f args hp=some (r,hp'))(hH:HR w X μ hp)(hl:LR w X μ hp args vs):Called P f vs.toArray w (zbi hp.length w X μ hp r hp'):=by
 unfold za8 at h
 split at h
 ·exact hP _ _ ‹_› _ _ _ _ h w X μ vs hH hl
 ·split at h
  ·cases h
  ·rename_i fn hfn
   obtain⟨fnc,hf,ht⟩:=hF f fn hfn
   split at h
   ·cases h
   rename_i hrc
   have hrcv:fn.rcv=none:=by
    cases hr:fn.rcv with
    |none=>rfl
    |some t=>rw[hr] at hrc;exact absurd rfl hrc
   have bs:∀{args:List AV} {hp:Heap} {w:World} {X:Xc P} {μ:Nat->Option Nat} {r:ARes} {hp':Heap} {vs:List Value},abody Γ Λ fn args hp=some (r,hp')->HR w X μ hp->LR w X μ hp args vs->Called P f vs.toArray w (zbi hp.length w X μ hp r hp'):=fun h hH hl=>.inl (znG hmix hΓ hΛ hf ht hrcv h hH hl)
   split at h
   ·-- on the caller's heap
    split at h
    ·rename_i v hp2 hb
     cases h
     refine(bs hb hH hl).mono fun e w' hR=> ?_
     cases e with
     |returned u=>
      obtain⟨μ',v2,e1,g1,g2,g3⟩:=hR
      cases e1
      split
      ·rename_i hc
       simp only[List.all_eq_true,decide_eq_true_eq] at hc
       exact⟨μ',v,rfl,g1.take fun i o hi ho q hq=>(hH.own.ext (Nat.le_refl _) g2) i o hi ho q hq,g2.take (Nat.le_refl _),g3.take hc⟩
      ·exact⟨μ',v,rfl,g1,g2,g3⟩
     |panicked c=>obtain⟨μ',p,v',e1,_⟩:=hR;cases e1
     |outgrown=>exact hR
    ·rename_i v hp2 hb
     cases h
     refine(bs hb hH hl).mono fun e w' hR=> ?_
     cases e with
     |returned u=>obtain⟨μ',v2,e1,_⟩:=hR;cases e1
     |panicked c=>
      obtain⟨μ',p,v',e1,e2,g1,g2,g3⟩:=hR
      cases e1
      exact⟨μ',v,v',rfl,e2,g1.take fun i o hi ho q hq=>(hH.own.ext (Nat.le_refl _) g2) i o hi ho q hq,g2.take (Nat.le_refl _),g3.take (fun q hq=>by simp[AV.refsIn] at hq)⟩
     |outgrown=>exact hR
    ·cases h
   ·-- on a heap of its own
    split at h
    ·cases h
    ·rename_i ps hp1 hfz
     obtain⟨e1,h1,hCP⟩:=zbm hp.length _ _ _ _ _ hfz hH hl
     split at h
     ·rename_i v hp2 hb
      split at h
      ·rename_i v' hp3 hfr
       cases h
       refine(bs hb h1.empty hCP.empty.lr).mono fun e w' hR=> ?_
       cases e with
       |returned u=>
        obtain⟨μ',v2,e2,g1,g2,g3⟩:=hR
        cases e2
        cases hsc:v'.scalar with
        |true=>
         obtain⟨k1,k2⟩:=back (b:=hp.length) hH g2
         exact⟨μ,v',rfl,k1,k2,(zdv hfr g1 g3).scalar hsc⟩
        |false=>
         obtain⟨k1,k2⟩:=back (b:=hp.length) h1 g2
         exact⟨μ,v',rfl,k1,e1.trans k2,zdv hfr g1 g3⟩
       |panicked c=>obtain⟨μ',p,v',e1,_⟩:=hR;cases e1
       |outgrown=>exact hR
      ·cases h
     ·rename_i v hp2 hb
      cases h
      refine(bs hb h1.empty hCP.empty.lr).mono fun e w' hR=> ?_
      cases e with
      |returned u=>obtain⟨μ',v2,e1,_⟩:=hR;cases e1
      |panicked c=>
       obtain⟨μ',p,v',e2,e3,g1,g2,g3⟩:=hR
       cases e2
       obtain⟨k1,k2⟩:=back (b:=hp.length) h1 g2
       refine⟨μ,v,v',rfl,e3,k1,e1.trans k2,?_⟩
       cases g3 with|pv _ _ _ hs hq=>exact .pv _ _ _ hs (hq.mono fun _ _ _ _ hI hb=>⟨zio hI,hb⟩)
      |outgrown=>exact hR
     ·cases h

theorem zlg{F:FuncId->Option AFn}{prim:FuncId->Option zba}{Γ:Oracle}{Λ:zak}(hmix:P.follows .mixedOrders=true)(hF:zle P F)(hP:zfQ P prim)(hΓ:SoundO P Γ)(hΛ:∀nt c ac,Tr P nt c ac->zeG P nt Λ c ac):SoundO P (acall F prim Γ Λ) where
 fn f args hp r hp' h w X μ vs hH hl:=zeL hmix hF hP hΓ hΛ h hH hl
 seq f args hp r hp' h w X μ vs hH hl:=by
  have h:(if(F f).isSome=true then za8 F prim Γ Λ f args hp else none)=some (r,hp'):=h
  split at h
  ·rename_i hs
   have hC:=zeL hmix hF hP hΓ hΛ h hH hl
   cases hfn:F f with
   |none=>rw[hfn] at hs;cases hs
   |some fn=>
    obtain⟨fnc,c1,c2⟩:=hF f fn hfn
    obtain⟨c,d1,_,_,d4,_⟩:=zf7 c2
    have hent:=zbW (w:=w) (args:=vs.toArray) c1 d1 d4
    rcases hC with⟨h1,h2⟩|⟨v,w',h1,_⟩
    ·exact⟨h1,h2⟩
    ·rw[hent] at h1;cases h1
  ·cases h
 rnd f q as hp v hp' ps env h hq w X μ vs l rc hH hl hm hrc:=zjW hmix hF hΓ hΛ h hq hH hl hm hrc
 dfr g p as hp r hp' h w X μ vs u hH hl hu:=zjX hmix hF hΓ hΛ h hH hl hu

theorem zck{F:FuncId->Option AFn}{prim:FuncId->Option zba}(hmix:P.follows .mixedOrders=true)(hF:zle P F)(hP:zfQ P prim):∀n,SoundO P (asem F prim n)
 |0=>⟨fun _ _ _ _ _ h=>(by cases h),fun _ _ _ _ _ h=>(by cases h),fun _ _ _ _ _ _ _ _ h=>(by cases h),fun _ _ _ _ _ _ h=>(by cases h)⟩
 |n+1=>zlg hmix hF hP (zck hmix hF hP n) fun nt c ac h=>ztS hmix (zck hmix hF hP n) n c ac h
end Go.Am

/- The limit of the runs of bounded depth: equations without fuel. -/
namespace Go.Am

def OLe(Γ Δ:Oracle):Prop:=∀k f as hp r,Γ k f as hp=some r->Δ k f as hp=some r
def LLe(Λ Λ':zak):Prop:=∀b m keep c st r,Λ b m keep c st=some r->Λ' b m keep c st=some r
theorem OLe.refl(Γ:Oracle):OLe Γ Γ:=fun _ _ _ _ _ h=>h
theorem OLe.trans{Γ Δ Θ:Oracle}(h:OLe Γ Δ)(k:OLe Δ Θ):OLe Γ Θ:=fun i f as hp r e=>k i f as hp r (h i f as hp r e)
theorem LLe.refl(Γ:zak):LLe Γ Γ:=fun _ _ _ _ _ _ h=>h
theorem LLe.trans{Γ Δ Θ:zak}(h:LLe Γ Δ)(k:LLe Δ Θ):LLe Γ Θ:=fun f as hp r x y e=>k f as hp r x y (h f as hp r x y e)

theorem zfh{Γ Δ:Oracle}{vs:List AV}{hp:Heap}{r:OpRes}(hO:OLe Γ Δ)(h:zcy Γ hp vs=some r):zcy Δ hp vs=some r:=by
 cases vs with
 |nil=>cases h
 |cons a as=>
  have gen:(match zaT a with
    |some (g,first,captured)=>match Γ .fn g (first++as++captured) hp with
     |some (.ret v,hp')=>some (OpRes.val v hp')
     |some (.panic v,hp')=>some (.panic v hp')
     |none=>none
    |none=>none)=some r->(match zaT a with
    |some (g,first,captured)=>match Δ .fn g (first++as++captured) hp with
     |some (.ret v,hp')=>some (OpRes.val v hp')
     |some (.panic v,hp')=>some (.panic v hp')
     |none=>none
    |none=>none)=some r:=by
   intro h
   split at h
   ·split at h
    ·rename_i hg;simp only[hO _ _ _ _ _ hg];exact h
    ·rename_i hg;simp only[hO _ _ _ _ _ hg];exact h
    ·cases h
   ·cases h
  cases a with
  |yield q=>
   simp only[zcy] at h ⊢
   split at h
   ·split at h
    ·rename_i hg;rw[hO _ _ _ _ _ hg];exact h
    ·cases h
   ·cases h
  |_=>exact gen h
theorem ziD{Γ Δ:Oracle}{b:Nat}{op:AOp}{vs:List AV}{hp:Heap}{r:OpRes}(hO:OLe Γ Δ)(h:aOp Γ b op vs hp=some r):aOp Δ b op vs hp=some r:=by
 cases op
 case call=>exact zfh hO h
 case calln n=>
  simp only[aOp,zhv] at h ⊢
  cases hc:zcy Γ hp (vs.drop n) with
  |none=>rw[hc] at h;cases h
  |some q=>rw[hc] at h;rw[zfh hO hc];exact h
 case callg=>
  simp only[aOp,zgk] at h ⊢
  cases hc:zcy Γ hp vs with
  |none=>rw[hc] at h;cases h
  |some q=>rw[hc] at h;rw[zfh hO hc];exact h
 case callp=>
  simp only[aOp,zgl] at h ⊢
  split at h
  ·split at h
   ·rename_i ps he
    split at h
    ·rename_i v hp' hg;rw[hO _ _ _ _ _ hg];exact h
    ·cases h
   ·cases h
  ·cases h
 case callh=>
  simp only[aOp,zgj] at h ⊢
  split at h
  ·split at h
   ·split at h
    ·rename_i v hp' hg;rw[hO _ _ _ _ _ hg];exact h
    ·cases h
   ·cases h
  ·cases h
 all_goals exact h

theorem zdw{Γ Δ:Oracle}{b:Nat}(hO:OLe Γ Δ):∀{ops:List AOper} {fr:Fr} {hp:Heap} {r:AExit × Fr × Heap},aops Γ b ops fr hp=some r->aops Δ b ops fr hp=some r
 |[],_,_,_,h=>h
 |o::rest,fr,hp,r,h=>by
  simp only[aops] at h ⊢
  split at h
  ·cases h
  ·exact zdw hO h
  ·split at h
   ·cases h
   ·split at h
    ·rename_i ho;rw[ziD hO ho];exact zdw hO h
    ·rename_i ho;rw[ziD hO ho];exact h
    ·cases h

theorem zay{Γ Δ:Oracle}{Λ Λ':zak}{b:Nat}(hO:OLe Γ Δ)(hL:LLe Λ Λ'):∀{c:ACode} {st:St} {r:AExit × St},aexec Γ Λ b c st=some r->aexec Δ Λ' b c st=some r:=by
 intro c
 induction c with
 |skip=>intro st r h;exact h
 |settle l=>intro st r h;exact h
 |region pan ops keep=>
  intro st r h
  simp only[aexec] at h ⊢
  split at h
  ·rename_i ho;rw[zdw hO ho];exact h
  ·rename_i ho;rw[zdw hO ho];exact h
  ·cases h
 |seq x y ihx ihy=>
  intro st r h
  simp only[aexec] at h ⊢
  split at h
  ·rename_i ho;rw[ihx ho];exact ihy h
  ·rename_i hn
   rw[ihx h]
   split
   ·rename_i e;cases e;exact(hn _ h).elim
   ·rfl
 |cond c x y ihx ihy=>
  intro st r h
  simp only[aexec] at h ⊢
  split at h
  ·exact ihx h
  ·exact ihy h
  ·cases h
 |block id c ih=>
  intro st r h
  simp only[aexec] at h ⊢
  split at h
  ·rename_i ho;rw[ih ho];exact h
  ·rename_i hn
   rw[ih h]
   split
   ·rename_i e;cases e;exact(hn _ _ h).elim
   ·rfl
 |loop keep c ih=>intro st r h;exact hL _ _ _ _ _ _ h
 |exit id=>intro st r h;exact h
 |ret=>intro st r h;exact h

theorem za4{Γ Δ:Oracle}(hO:OLe Γ Δ):∀{n m:Nat},n<=m->LLe (aloop Γ n) (aloop Δ m)
 |0,m,_=>fun _ _ _ _ _ _ h=>by cases h
 |n+1,0,h=>by omega
 |n+1,m+1,hnm=>fun b k keep c st r h=>by
  simp only[aloop] at h ⊢
  split at h
  ·rename_i ho
   rw[zay hO (za4 hO (by omega:n<=m)) ho]
   exact za4 hO (by omega:n<=m) _ _ _ _ _ _ h
  ·rename_i hn
   rw[zay hO (za4 hO (by omega:n<=m)) h]
   split
   ·rename_i e;cases e;exact(hn _ h).elim
   ·rfl

theorem zjY{Γ Δ:Oracle}(hO:OLe Γ Δ){op:ATop}{st:St}{ds:List AV}{r:AExit × St × List AV}(h:atop Γ op st ds=some r):atop Δ op st ds=some r:=by
 cases op with
 |dfr s=>exact h
 |range self f ps env=>
  simp only[atop] at h ⊢
  split at h
  ·cases h
  ·split at h
   ·split at h
    ·rename_i hg;rw[hO _ _ _ _ _ hg];exact h
    ·cases h
   ·cases h
theorem zcI{Γ Δ:Oracle}{Λ Λ':zak}{b:Nat}(hO:OLe Γ Δ)(hL:LLe Λ Λ'):∀{l:List (ATop × ACode)} {c:ACode} {st:St} {ds:List AV} {r:AExit × St × List AV},apieces Γ Λ b l c st ds=some r->apieces Δ Λ' b l c st ds=some r
 |[],c,st,ds,r,h=>by
  simp only[apieces] at h ⊢
  split at h
  ·rename_i ho;rw[zay hO hL ho];exact h
  ·cases h
 |(op,c2)::l,c,st,ds,r,h=>by
  simp only[apieces] at h ⊢
  split at h
  ·rename_i ho
   rw[zay hO hL ho]
   split at h
   ·rename_i ha;simp only[zjY hO ha];exact zcI hO hL h
   ·cases h
  ·rename_i e st1 hne ho
   rw[zay hO hL ho]
   cases e with
   |normal=>exact(hne rfl).elim
   |_=>exact h
  ·cases h
theorem zbB{Γ Δ:Oracle}(hO:OLe Γ Δ):∀{ds:List AV} {p:Option PV} {hp:Heap} {r:Option PV × Heap},aunwind Γ ds p hp=some r->aunwind Δ ds p hp=some r
 |[],p,hp,r,h=>h
 |c::ds,p,hp,r,h=>by
  simp only[aunwind] at h ⊢
  split at h
  ·split at h
   ·rename_i hg;simp only[hO _ _ _ _ _ hg];exact zbB hO h
   ·cases h
  ·cases h
theorem zgN{Γ Δ:Oracle}(hO:OLe Γ Δ){fn:AFn}{q:AExit × St × List AV}{r:ARes × Heap}(h:aleave Γ fn (some q)=some r):aleave Δ fn (some q)=some r:=by
 obtain⟨e,st,ds⟩:=q
 cases e with
 |exit i=>cases h
 |normal=>
  simp only[aleave] at h ⊢
  split at h
  ·rename_i hu;simp only[zbB hO hu];exact h
  ·cases h
 |ret=>
  simp only[aleave] at h ⊢
  split at h
  ·rename_i hu;simp only[zbB hO hu];exact h
  ·cases h
 |panic v=>
  simp only[aleave] at h ⊢
  split at h
  ·rename_i hu;simp only[zbB hO hu];exact h
  ·rename_i hu;simp only[zbB hO hu];exact h
  ·cases h
theorem zdP{Γ Δ:Oracle}{Λ Λ':zak}(hO:OLe Γ Δ)(hL:LLe Λ Λ'){fn:AFn}{args:List AV}{hp:Heap}{r:ARes × Heap}(h:abody Γ Λ fn args hp=some r):abody Δ Λ' fn args hp=some r:=by
 unfold abody at h ⊢
 split at h
 ·cases h
 ·rename_i hn
  rw[if_neg hn]
  cases hmore:fn.more with
  |nil=>
   simp only[hmore] at h ⊢
   split at h
   ·rename_i ho;rw[zay hO hL ho];exact h
   ·rename_i ho;rw[zay hO hL ho];exact h
   ·rename_i ho;rw[zay hO hL ho];exact h
   ·cases h
  |cons x l=>
   simp only[hmore] at h ⊢
   cases hq:apieces Γ Λ hp.length (x::l) fn.code ⟨params 0 args,hp⟩ [] with
   |none=>rw[hq] at h;cases h
   |some q=>
    rw[hq] at h
    rw[zcI hO hL hq]
    exact zgN hO h

theorem zfS{F:FuncId->Option AFn}{prim:FuncId->Option zba}{Γ Δ:Oracle}{Λ Λ':zak}(hO:OLe Γ Δ)(hL:LLe Λ Λ'){f:FuncId}{as:List AV}{hp:Heap}{r:ARes × Heap}(h:za8 F prim Γ Λ f as hp=some r):za8 F prim Δ Λ' f as hp=some r:=by
 unfold za8 at h ⊢
 split at h
 ·exact h
 ·split at h
  ·cases h
  ·rename_i fn _
   by_cases hr:fn.rcv.isSome=true
   ·rw[if_pos hr] at h;cases h
   simp only[if_neg hr] at h ⊢
   by_cases hm:fn.heapMode=true
   ·simp only[hm,if_true] at h ⊢
    split at h
    ·rename_i ho;rw[zdP hO hL ho];exact h
    ·rename_i ho;rw[zdP hO hL ho];exact h
    ·cases h
   ·rw[if_neg hm] at h ⊢
    split at h
    ·cases h
    ·split at h
     ·rename_i ho;rw[zdP hO hL ho];exact h
     ·rename_i ho;rw[zdP hO hL ho];exact h
     ·cases h
theorem zlh{F:FuncId->Option AFn}{Γ Δ:Oracle}{Λ Λ':zak}(hO:OLe Γ Δ)(hL:LLe Λ Λ'){f:FuncId}{as:List AV}{hp:Heap}{r:ARes × Heap}(h:around F Γ Λ f as hp=some r):around F Δ Λ' f as hp=some r:=by
 unfold around at h ⊢
 split at h
 ·split at h
  ·split at h
   ·rename_i hc
    rw[if_pos hc]
    split at h
    ·split at h
     ·split at h
      ·rename_i h1
       simp only[zay hO hL h1]
       split at h
       ·split at h
        ·rename_i h2
         simp only[zay hO hL h2]
         exact h
        ·cases h
       ·cases h
      ·cases h
     ·cases h
    ·cases h
   ·cases h
  ·cases h
 ·cases h
theorem zli{F:FuncId->Option AFn}{Γ Δ:Oracle}{Λ Λ':zak}(hO:OLe Γ Δ)(hL:LLe Λ Λ'){f:FuncId}{as:List AV}{hp:Heap}{r:ARes × Heap}(h:adefer F Γ Λ f as hp=some r):adefer F Δ Λ' f as hp=some r:=by
 unfold adefer at h ⊢
 split at h
 ·split at h
  ·split at h
   ·split at h
    ·cases h
    ·rename_i hc
     rw[if_neg hc]
     split at h
     ·rename_i h1;simp only[zay hO hL h1];exact h
     ·rename_i h1;simp only[zay hO hL h1];exact h
     ·cases h
   ·cases h
  ·cases h
 ·cases h
theorem zfi{F:FuncId->Option AFn}{prim:FuncId->Option zba}{Γ Δ:Oracle}{Λ Λ':zak}(hO:OLe Γ Δ)(hL:LLe Λ Λ'):OLe (acall F prim Γ Λ) (acall F prim Δ Λ'):=by
 intro k f as hp r h
 cases k with
 |fn=>exact zfS hO hL h
 |rnd=>exact zlh hO hL h
 |dfr=>exact zli hO hL h
 |seq=>
  simp only[acall] at h ⊢
  split at h
  ·rename_i hs;rw[if_pos hs];exact zfS hO hL h
  ·cases h

theorem zbX{F:FuncId->Option AFn}{prim:FuncId->Option zba}:∀{n m:Nat},n<=m->OLe (asem F prim n) (asem F prim m)
 |0,_,_=>fun _ _ _ _ _ h=>by cases h
 |n+1,0,h=>by omega
 |n+1,m+1,h=>zfi (zbX (by omega)) (za4 (zbX (by omega)) (by omega))

noncomputable def sem(F:FuncId->Option AFn)(prim:FuncId->Option zba):Oracle:=fun k f as hp=>
 open Classical in if h:∃n r,asem F prim n k f as hp=some r then some h.choose_spec.choose else none
noncomputable def sloop(F:FuncId->Option AFn)(prim:FuncId->Option zba):zak:=fun b m keep c st=>
 open Classical in if h:∃n r,aloop (asem F prim n) n b m keep c st=some r then some h.choose_spec.choose else none

variable{F:FuncId->Option AFn} {prim:FuncId->Option zba}
theorem sem_iff{k:Kind}{f:FuncId}{as:List AV}{hp:Heap}{r:ARes × Heap}:sem F prim k f as hp=some r↔∃n,asem F prim n k f as hp=some r:=by
 unfold sem
 constructor
 ·intro h
  split at h
  ·rename_i he
   cases h
   exact⟨_,he.choose_spec.choose_spec⟩
  ·cases h
 ·rintro⟨n,hn⟩
  have he:∃n r,asem F prim n k f as hp=some r:=⟨n,r,hn⟩
  rw[dif_pos he]
  have h1:=zbX (Nat.le_max_left n he.choose) _ _ _ _ _ hn
  have h2:=zbX (Nat.le_max_right n he.choose) _ _ _ _ _ he.choose_spec.choose_spec
  rw[h1] at h2
  exact h2.symm
theorem sloop_iff{b m:Nat}{keep:List Nat}{c:ACode}{st:St}{r:AExit × St}:sloop F prim b m keep c st=some r↔∃n,aloop (asem F prim n) n b m keep c st=some r:=by
 unfold sloop
 constructor
 ·intro h
  split at h
  ·rename_i he
   cases h
   exact⟨_,he.choose_spec.choose_spec⟩
  ·cases h
 ·rintro⟨n,hn⟩
  have he:∃n r,aloop (asem F prim n) n b m keep c st=some r:=⟨n,r,hn⟩
  rw[dif_pos he]
  have h1:=za4 (zbX (F:=F) (prim:=prim) (Nat.le_max_left n he.choose)) (Nat.le_max_left n he.choose) _ _ _ _ _ _ hn
  have h2:=za4 (zbX (F:=F) (prim:=prim) (Nat.le_max_right n he.choose)) (Nat.le_max_right n he.choose) _ _ _ _ _ _ he.choose_spec.choose_spec
  rw[h1] at h2
  exact h2.symm
theorem zlj{n:Nat}:OLe (asem F prim n) (sem F prim):=fun _ _ _ _ _ h=>sem_iff.2 ⟨n,h⟩
theorem zml{n:Nat}:LLe (aloop (asem F prim n) n) (sloop F prim):=fun _ _ _ _ _ _ h=>sloop_iff.2 ⟨n,h⟩
abbrev up{n m:Nat}(h:n<=m):OLe (asem F prim n) (asem F prim m):=zbX h
theorem upl{n m:Nat}(h:n<=m):LLe (aloop (asem F prim n) n) (aloop (asem F prim m) m):=za4 (zbX h) h

theorem zfj{vs:List AV}{hp:Heap}{r:OpRes}(h:zcy (sem F prim) hp vs=some r):∃n,zcy (asem F prim n) hp vs=some r:=by
 cases vs with
 |nil=>cases h
 |cons a as=>
  have gen:(match zaT a with
    |some (g,first,captured)=>match sem F prim .fn g (first++as++captured) hp with
     |some (.ret v,hp')=>some (OpRes.val v hp')
     |some (.panic v,hp')=>some (.panic v hp')
     |none=>none
    |none=>none)=some r->∃n,(match zaT a with
    |some (g,first,captured)=>match asem F prim n .fn g (first++as++captured) hp with
     |some (.ret v,hp')=>some (OpRes.val v hp')
     |some (.panic v,hp')=>some (.panic v hp')
     |none=>none
    |none=>none)=some r:=by
   intro h
   split at h
   ·split at h
    ·rename_i hg
     obtain⟨n,hn⟩:=sem_iff.1 hg
     exact⟨n,by simp only[hn];exact h⟩
    ·rename_i hg
     obtain⟨n,hn⟩:=sem_iff.1 hg
     exact⟨n,by simp only[hn];exact h⟩
    ·cases h
   ·cases h
  cases a with
  |yield q=>
   simp only[zcy] at h ⊢
   split at h
   ·split at h
    ·rename_i hg
     obtain⟨n,hn⟩:=sem_iff.1 hg
     exact⟨n,by simp only[hn];exact h⟩
    ·cases h
   ·cases h
  |_=>exact gen h
theorem zmm{b:Nat}{op:AOp}{vs:List AV}{hp:Heap}{r:OpRes}(h:aOp (sem F prim) b op vs hp=some r):∃n,aOp (asem F prim n) b op vs hp=some r:=by
 cases op
 case call=>exact zfj h
 case calln n=>
  simp only[aOp,zhv] at h ⊢
  cases hc:zcy (sem F prim) hp (vs.drop n) with
  |none=>rw[hc] at h;cases h
  |some q=>
   rw[hc] at h
   obtain⟨k,hk⟩:=zfj hc
   exact⟨k,by rw[hk];exact h⟩
 case callg=>
  simp only[aOp,zgk] at h ⊢
  cases hc:zcy (sem F prim) hp vs with
  |none=>rw[hc] at h;cases h
  |some q=>
   rw[hc] at h
   obtain⟨k,hk⟩:=zfj hc
   exact⟨k,by rw[hk];exact h⟩
 case callp=>
  simp only[aOp,zgl] at h ⊢
  split at h
  ·split at h
   ·rename_i ps he
    split at h
    ·rename_i v hp' hg
     obtain⟨n,hn⟩:=sem_iff.1 hg
     exact⟨n,by simp only[hn];exact h⟩
    ·cases h
   ·cases h
  ·cases h
 case callh=>
  simp only[aOp,zgj] at h ⊢
  split at h
  ·split at h
   ·split at h
    ·rename_i v hp' hg
     obtain⟨n,hn⟩:=sem_iff.1 hg
     exact⟨n,by simp only[hn];exact h⟩
    ·cases h
   ·cases h
  ·cases h
 all_goals exact⟨0,h⟩

theorem zeM{b:Nat}:∀{ops:List AOper} {fr:Fr} {hp:Heap} {r:AExit × Fr × Heap},aops (sem F prim) b ops fr hp=some r->∃n,aops (asem F prim n) b ops fr hp=some r
 |[],_,_,_,h=>⟨0,h⟩
 |o::rest,fr,hp,r,h=>by
  simp only[aops] at h ⊢
  split at h
  ·cases h
  ·exact zeM h
  ·split at h
   ·cases h
   ·split at h
    ·rename_i ho
     obtain⟨n,hn⟩:=zmm ho
     obtain⟨m,hm⟩:=zeM h
     refine⟨max n m,?_⟩
     rw[ziD (up (Nat.le_max_left n m)) hn]
     exact zdw (up (Nat.le_max_right n m)) hm
    ·rename_i ho
     obtain⟨n,hn⟩:=zmm ho
     exact⟨n,by rw[hn];exact h⟩
    ·cases h

theorem za5{b:Nat}:∀{c:ACode} {st:St} {r:AExit × St},aexec (sem F prim) (sloop F prim) b c st=some r->∃n,aexec (asem F prim n) (aloop (asem F prim n) n) b c st=some r:=by
 intro c
 induction c with
 |skip=>intro st r h;exact⟨0,h⟩
 |settle l=>intro st r h;exact⟨0,h⟩
 |region pan ops keep=>
  intro st r h
  simp only[aexec] at h ⊢
  split at h
  ·rename_i ho
   obtain⟨n,hn⟩:=zeM ho
   exact⟨n,by rw[hn];exact h⟩
  ·rename_i ho
   obtain⟨n,hn⟩:=zeM ho
   exact⟨n,by rw[hn];exact h⟩
  ·cases h
 |seq x y ihx ihy=>
  intro st r h
  simp only[aexec] at h ⊢
  split at h
  ·rename_i ho
   obtain⟨n,hn⟩:=ihx ho
   obtain⟨m,hm⟩:=ihy h
   refine⟨max n m,?_⟩
   rw[zay (up (Nat.le_max_left n m)) (upl (Nat.le_max_left n m)) hn]
   exact zay (up (Nat.le_max_right n m)) (upl (Nat.le_max_right n m)) hm
  ·rename_i hn
   obtain⟨n,h1⟩:=ihx h
   refine⟨n,?_⟩
   rw[h1]
   split
   ·rename_i e;cases e;exact(hn _ h).elim
   ·rfl
 |cond c x y ihx ihy=>
  intro st r h
  simp only[aexec] at h ⊢
  split at h
  ·exact ihx h
  ·exact ihy h
  ·cases h
 |block id c ih=>
  intro st r h
  simp only[aexec] at h ⊢
  split at h
  ·rename_i ho
   obtain⟨n,hn⟩:=ih ho
   exact⟨n,by rw[hn];exact h⟩
  ·rename_i hn
   obtain⟨n,h1⟩:=ih h
   refine⟨n,?_⟩
   rw[h1]
   split
   ·rename_i e;cases e;exact(hn _ _ h).elim
   ·rfl
 |loop keep c ih=>intro st r h;exact sloop_iff.1 h
 |exit id=>intro st r h;exact⟨0,h⟩
 |ret=>intro st r h;exact⟨0,h⟩

theorem zpL{op:ATop}{st:St}{ds:List AV}{r:AExit × St × List AV}(h:atop (sem F prim) op st ds=some r):∃n,atop (asem F prim n) op st ds=some r:=by
 cases op with
 |dfr s=>exact⟨0,h⟩
 |range self f ps env=>
  simp only[atop] at h ⊢
  split at h
  ·cases h
  ·split at h
   ·split at h
    ·rename_i hg
     obtain⟨n,hn⟩:=sem_iff.1 hg
     exact⟨n,by simp only[hn];exact h⟩
    ·cases h
   ·cases h
theorem zfT{b:Nat}:∀{l:List (ATop × ACode)} {c:ACode} {st:St} {ds:List AV} {r:AExit × St × List AV},apieces (sem F prim) (sloop F prim) b l c st ds=some r->∃n,apieces (asem F prim n) (aloop (asem F prim n) n) b l c st ds=some r
 |[],c,st,ds,r,h=>by
  simp only[apieces] at h ⊢
  split at h
  ·rename_i ho
   obtain⟨n,hn⟩:=za5 ho
   exact⟨n,by rw[hn];exact h⟩
  ·cases h
 |(op,c2)::l,c,st,ds,r,h=>by
  simp only[apieces] at h ⊢
  split at h
  ·rename_i ho
   obtain⟨n,hn⟩:=za5 ho
   split at h
   ·rename_i ha
    obtain⟨m,hm⟩:=zpL ha
    obtain⟨k,hk⟩:=zfT h
    refine⟨max n (max m k),?_⟩
    rw[zay (up (by omega:n<=max n (max m k))) (upl (by omega)) hn]
    simp only[zjY (up (by omega:m<=max n (max m k))) hm]
    exact zcI (up (by omega:k<=max n (max m k))) (upl (by omega)) hk
   ·cases h
  ·rename_i e st1 hne ho
   obtain⟨n,hn⟩:=za5 ho
   refine⟨n,?_⟩
   rw[hn]
   cases e with
   |normal=>exact(hne rfl).elim
   |_=>exact h
  ·cases h
theorem zbY:∀{ds:List AV} {p:Option PV} {hp:Heap} {r:Option PV × Heap},aunwind (sem F prim) ds p hp=some r->∃n,aunwind (asem F prim n) ds p hp=some r
 |[],p,hp,r,h=>⟨0,h⟩
 |c::ds,p,hp,r,h=>by
  simp only[aunwind] at h ⊢
  split at h
  ·split at h
   ·rename_i hg
    obtain⟨n,hn⟩:=sem_iff.1 hg
    obtain⟨m,hm⟩:=zbY h
    refine⟨max n m,?_⟩
    simp only[up (F:=F) (prim:=prim) (Nat.le_max_left n m) _ _ _ _ _ hn]
    exact zbB (up (Nat.le_max_right n m)) hm
   ·cases h
  ·cases h
theorem zlk{fn:AFn}{q:AExit × St × List AV}{r:ARes × Heap}(h:aleave (sem F prim) fn (some q)=some r):∃n,aleave (asem F prim n) fn (some q)=some r:=by
 obtain⟨e,st,ds⟩:=q
 cases e with
 |exit i=>cases h
 |normal=>
  simp only[aleave] at h ⊢
  split at h
  ·rename_i hu
   obtain⟨n,hn⟩:=zbY hu
   exact⟨n,by simp only[hn];exact h⟩
  ·cases h
 |ret=>
  simp only[aleave] at h ⊢
  split at h
  ·rename_i hu
   obtain⟨n,hn⟩:=zbY hu
   exact⟨n,by simp only[hn];exact h⟩
  ·cases h
 |panic v=>
  simp only[aleave] at h ⊢
  split at h
  ·rename_i hu
   obtain⟨n,hn⟩:=zbY hu
   exact⟨n,by simp only[hn];exact h⟩
  ·rename_i hu
   obtain⟨n,hn⟩:=zbY hu
   exact⟨n,by simp only[hn];exact h⟩
  ·cases h
theorem zdQ{fn:AFn}{args:List AV}{hp:Heap}{r:ARes × Heap}(h:abody (sem F prim) (sloop F prim) fn args hp=some r):∃n,abody (asem F prim n) (aloop (asem F prim n) n) fn args hp=some r:=by
 unfold abody at h ⊢
 split at h
 ·cases h
 ·rename_i hn
  simp only[if_neg hn]
  cases hmore:fn.more with
  |nil=>
   simp only[hmore] at h ⊢
   split at h
   ·rename_i ho
    obtain⟨n,hn⟩:=za5 ho
    exact⟨n,by rw[hn];exact h⟩
   ·rename_i ho
    obtain⟨n,hn⟩:=za5 ho
    exact⟨n,by rw[hn];exact h⟩
   ·rename_i ho
    obtain⟨n,hn⟩:=za5 ho
    exact⟨n,by rw[hn];exact h⟩
   ·cases h
  |cons x l=>
   simp only[hmore] at h ⊢
   cases hq:apieces (sem F prim) (sloop F prim) hp.length (x::l) fn.code ⟨params 0 args,hp⟩ [] with
   |none=>rw[hq] at h;cases h
   |some q=>
    rw[hq] at h
    obtain⟨n,hn⟩:=zfT hq
    obtain⟨m,hm⟩:=zlk h
    refine⟨max n m,?_⟩
    rw[zcI (up (Nat.le_max_left n m)) (upl (Nat.le_max_left n m)) hn]
    exact zgN (up (Nat.le_max_right n m)) hm

theorem zfU{f:FuncId}{as:List AV}{hp:Heap}{r:ARes × Heap}(h:za8 F prim (sem F prim) (sloop F prim) f as hp=some r):∃n,za8 F prim (asem F prim n) (aloop (asem F prim n) n) f as hp=some r:=by
 unfold za8 at h ⊢
 split at h
 ·exact⟨0,h⟩
 ·split at h
  ·cases h
  ·rename_i fn _
   by_cases hr:fn.rcv.isSome=true
   ·rw[if_pos hr] at h;cases h
   simp only[if_neg hr] at h ⊢
   by_cases hm:fn.heapMode=true
   ·simp only[hm,if_true] at h ⊢
    split at h
    ·rename_i ho
     obtain⟨n,hn⟩:=zdQ ho
     exact⟨n,by rw[hn];exact h⟩
    ·rename_i ho
     obtain⟨n,hn⟩:=zdQ ho
     exact⟨n,by rw[hn];exact h⟩
    ·cases h
   ·simp only[if_neg hm] at h ⊢
    split at h
    ·cases h
    ·split at h
     ·rename_i ho
      obtain⟨n,hn⟩:=zdQ ho
      exact⟨n,by rw[hn];exact h⟩
     ·rename_i ho
      obtain⟨n,hn⟩:=zdQ ho
      exact⟨n,by rw[hn];exact h⟩
     ·cases h
theorem zll{f:FuncId}{as:List AV}{hp:Heap}{r:ARes × Heap}(h:around F (sem F prim) (sloop F prim) f as hp=some r):∃n,around F (asem F prim n) (aloop (asem F prim n) n) f as hp=some r:=by
 unfold around at h ⊢
 split at h
 ·split at h
  ·split at h
   ·rename_i hc
    simp only[if_pos hc]
    split at h
    ·split at h
     ·split at h
      ·rename_i h1
       obtain⟨n,hn⟩:=za5 h1
       split at h
       ·split at h
        ·rename_i h2
         obtain⟨m,hm⟩:=za5 h2
         refine⟨max n m,?_⟩
         simp only[zay (up (Nat.le_max_left n m)) (upl (Nat.le_max_left n m)) hn,zay (up (Nat.le_max_right n m)) (upl (Nat.le_max_right n m)) hm]
         rename_i hlf _ _
         first|exact h|(simp only[hlf];exact h)
        ·cases h
       ·cases h
      ·cases h
     ·cases h
    ·cases h
   ·cases h
  ·cases h
 ·cases h
theorem zlm{f:FuncId}{as:List AV}{hp:Heap}{r:ARes × Heap}(h:adefer F (sem F prim) (sloop F prim) f as hp=some r):∃n,adefer F (asem F prim n) (aloop (asem F prim n) n) f as hp=some r:=by
 unfold adefer at h ⊢
 split at h
 ·split at h
  ·split at h
   ·split at h
    ·cases h
    ·rename_i hc
     simp only[if_neg hc]
     split at h
     ·rename_i h1
      obtain⟨n,hn⟩:=za5 h1
      exact⟨n,by simp only[hn];exact h⟩
     ·rename_i h1
      obtain⟨n,hn⟩:=za5 h1
      exact⟨n,by simp only[hn];exact h⟩
     ·cases h
   ·cases h
  ·cases h
 ·cases h
theorem znH{k:Kind}{f:FuncId}{as:List AV}{hp:Heap}{r:ARes × Heap}(h:acall F prim (sem F prim) (sloop F prim) k f as hp=some r):∃n,acall F prim (asem F prim n) (aloop (asem F prim n) n) k f as hp=some r:=by
 cases k with
 |fn=>exact zfU h
 |rnd=>exact zll h
 |dfr=>exact zlm h
 |seq=>
  simp only[acall] at h ⊢
  split at h
  ·rename_i hs
   simp only[if_pos hs]
   exact zfU h
  ·cases h

theorem zgO(k:Kind)(f:FuncId)(as:List AV)(hp:Heap):sem F prim k f as hp=acall F prim (sem F prim) (sloop F prim) k f as hp:=by
 have to:∀r,sem F prim k f as hp=some r↔acall F prim (sem F prim) (sloop F prim) k f as hp=some r:=fun r=>by
  constructor
  ·intro h
   obtain⟨n,hn⟩:=sem_iff.1 h
   cases n with
   |zero=>cases hn
   |succ n=>exact zfi zlj zml _ _ _ _ _ hn
  ·intro h
   obtain⟨n,hn⟩:=znH h
   exact sem_iff.2 ⟨n+1,hn⟩
 exact Option.ext fun r=>to r

theorem zd0(f:FuncId)(as:List AV)(hp:Heap):sem F prim .fn f as hp=za8 F prim (sem F prim) (sloop F prim) f as hp:=zgO .fn f as hp
theorem ztU{f:FuncId}(hF:(F f).isSome=true)(as:List AV)(hp:Heap):sem F prim .seq f as hp=sem F prim .fn f as hp:=by
 rw[zd0,zgO]
 simp only[acall,if_pos hF]
theorem ztV(f:FuncId)(as:List AV)(hp:Heap):sem F prim .rnd f as hp=around F (sem F prim) (sloop F prim) f as hp:=zgO .rnd f as hp
theorem ztW(f:FuncId)(as:List AV)(hp:Heap):sem F prim .dfr f as hp=adefer F (sem F prim) (sloop F prim) f as hp:=zgO .dfr f as hp

theorem zmn(b m:Nat)(keep:List Nat)(c:ACode)(st:St):sloop F prim b m keep c st=match aexec (sem F prim) (sloop F prim) b c st with
  |some (.normal,st')=>sloop F prim b m keep c ⟨st'.fr.keep keep,collect m b (st'.fr.keep keep) st'.hp⟩
  |r=>r:=by
 have to:∀r,sloop F prim b m keep c st=some r↔(match aexec (sem F prim) (sloop F prim) b c st with
  |some (.normal,st')=>sloop F prim b m keep c ⟨st'.fr.keep keep,collect m b (st'.fr.keep keep) st'.hp⟩
  |r=>r)=some r:=fun r=>by
  constructor
  ·intro h
   obtain⟨n,hn⟩:=sloop_iff.1 h
   cases n with
   |zero=>cases hn
   |succ n=>
    simp only[aloop] at hn
    have hle:LLe (aloop (asem F prim (n+1)) n) (sloop F prim):=(za4 (OLe.refl _) (by omega:n<=n+1)).trans zml
    split at hn
    ·rename_i ho
     rw[zay zlj hle ho]
     exact hle _ _ _ _ _ _ hn
    ·rename_i hne
     rw[zay zlj hle hn]
     split
     ·rename_i e;cases e;exact(hne _ hn).elim
     ·rfl
  ·intro h
   split at h
   ·rename_i ho
    obtain⟨n,hn⟩:=za5 ho
    obtain⟨k,hk⟩:=sloop_iff.1 h
    refine sloop_iff.2 ⟨max n k+1,?_⟩
    simp only[aloop]
    rw[zay (up (by omega:n<=max n k+1)) (za4 (up (by omega)) (by omega)) hn]
    exact za4 (up (by omega:k<=max n k+1)) (by omega) _ _ _ _ _ _ hk
   ·rename_i hne
    obtain⟨n,hn⟩:=za5 h
    refine sloop_iff.2 ⟨n+1,?_⟩
    simp only[aloop]
    rw[zay (up (by omega:n<=n+1)) (za4 (up (by omega)) (by omega)) hn]
    split
    ·rename_i e;cases e;exact(hne _ h).elim
    ·rfl
 exact Option.ext fun r=>to r

theorem zpM{P:Program}(hmix:P.follows .mixedOrders=true)(hF:zle P F)(hP:zfQ P prim):SoundO P (sem F prim) where
 fn f as hp r hp' h:=by
  obtain⟨n,hn⟩:=sem_iff.1 h
  exact(zck hmix hF hP n).fn f as hp r hp' hn
 seq f as hp r hp' h:=by
  obtain⟨n,hn⟩:=sem_iff.1 h
  exact(zck hmix hF hP n).seq f as hp r hp' hn
 rnd f q as hp v hp' ps env h:=by
  obtain⟨n,hn⟩:=sem_iff.1 h
  exact(zck hmix hF hP n).rnd f q as hp v hp' ps env hn
 dfr g p as hp r hp' h:=by
  obtain⟨n,hn⟩:=sem_iff.1 h
  exact(zck hmix hF hP n).dfr g p as hp r hp' hn
end Go.Am

/- A table of functions. -/
namespace Go.Am
def zpN(P:Program)(tab:List (Nat × AFn)):Prop:=∀x∈tab,∃fnc,P.funcs[x.1]? =some fnc/\trFn P x.2.heapMode x.1 fnc=some x.2
theorem zpO{P:Program}:zpN P []:=fun x h=>by simp at h
theorem zaa{P:Program}{f:Nat}{g:AFn}{fnc:Func}{r:List (Nat × AFn)}(h:P.funcs[f]? =some fnc)(t:trFn P g.heapMode f fnc=some g)(k:zpN P r):zpN P ((f,g)::r):=by
 intro x hx
 simp only[List.mem_cons] at hx
 rcases hx with rfl|hx
 ·exact⟨fnc,h,t⟩
 ·exact k x hx
def find:List (Nat × AFn)->FuncId->Option AFn
 |[],_=>none
 |(k,g)::r,f=>bif Nat.beq k f then some g else find r f
theorem find_mem:∀{tab:List (Nat × AFn)} {f:FuncId} {g:AFn},find tab f=some g->(f,g)∈tab
 |[],_,_,h=>by cases h
 |(k,x)::r,f,g,h=>by
  simp only[find] at h
  cases hk:Nat.beq k f with
  |true=>
   rw[hk] at h
   cases h
   simp[Nat.eq_of_beq_eq_true hk]
  |false=>
   rw[hk] at h
   exact List.mem_cons_of_mem _ (find_mem h)
theorem zrP{P:Program}{tab:List (Nat × AFn)}(h:zpN P tab):zle P (find tab):=fun f fn hf=>h (f,fn) (find_mem hf)
end Go.Am

/- Contracts by hand: what the library has no body for. -/
namespace Go.Am
variable{P:Program}

def ziE:zba:=fun _ args hp=>match args with
 |[.pv _ (.str a),.pv _ (.str b)]=>some (.ret (.pv none (.int .i64 (Lib.compareBytes a b))),hp)
 |_=>none

def zmo(P:Program)(f:FuncId)(p:zba):Prop:=
 ∀args hp r hp',p f args hp=some (r,hp')->∀(w:World) (X:Xc P) (μ:Nat->Option Nat) (vs:List Value),HR w X μ hp->LR w X μ hp args vs->Called P f vs.toArray w (zbi hp.length w X μ hp r hp')

theorem znI{f:FuncId}{fn:Func}(hf:P.funcs[f]? =some fn)(hname:(fn.name == "runtime.NumGoroutine")=false)(hb:fn.body.isNone=true)(hn:Extern.findNext fn=none)
  (he:Extern.find fn=some Extern.BytealgCompare.compare):zmo P f ziE:=by
 intro args hp r hp' h w X μ vs hH hl
 unfold ziE at h
 split at h
 ·rename_i s1 a s2 b
  cases h
  cases hl with|cons h1 hl=>
  cases hl with|cons h2 hl=>
  cases hl
  cases h1 with|pv _ _ _ _ h1=>
  cases h2 with|pv _ _ _ _ h2=>
  cases h1
  cases h2
  refine .inr ⟨.int .i64 (Lib.compareBytes a b),w,?_,μ,.pv none (.int .i64 (Lib.compareBytes a b)),rfl,hH,Ext.refl _ _ _ _ _,.pv _ _ _ rfl (.int _ _)⟩
  rw[run_callFunc_extern hf hname hb hn he,Lib.run_compareString]
  rfl
 ·cases h

theorem znJ:zfQ P (fun _=>none):=fun f p h=>by cases h
theorem zgP{prim:FuncId->Option zba}{f:FuncId}{p:zba}(h:zmo P f p)(k:zfQ P prim):zfQ P (fun g=>bif Nat.beq f g then some p else prim g):=by
 intro g q hq
 cases hk:Nat.beq f g with
 |true=>
  simp only[hk,cond_true] at hq
  cases hq
  have:=Nat.eq_of_beq_eq_true hk
  subst this
  exact h
 |false=>
  simp only[hk,cond_false] at hq
  exact k g q hq
end Go.Am

/- From a run of the abstract machine to what a law's row wants. -/
namespace Go.Am
open Go.ChangeShapes Go.WideShapes Go.ChangeAt Go.RowKit
variable{P:Program} {H:Type} {enc:TypeId × Value->H}

theorem zjZ{f:FuncId}{fn:Func}{c:Code}{args:Array Value}{w:World}{R:Ending->World->Prop}(hf:P.funcs[f]? =some fn)(hb:fn.body=some c)(hn:fn.name≠ "runtime.NumGoroutine")
  (h:Called P f args w R):Calls P f args w R:=by
 rcases h with⟨_,h⟩|⟨v,w',h,_⟩
 ·exact h
 ·rw[zbW hf hb hn] at h;cases h

abbrev noX:Xc P:=⟨fun _=>False⟩
abbrev noμ:Nat->Option Nat:=fun _=>none

theorem zrQ(w:World):HR w (noX (P:=P)) noμ []:=
 ⟨fun i _ _ hi=>by simp at hi,fun i _ hi=>by simp at hi,fun b hb=>hb.elim,fun i sh v h=>by simp at h,fun i sh es fz h=>by simp at h,fun i sh es h=>by simp at h,fun i f ps env bz h=>by simp at h⟩

theorem zpP{b0:Nat}{X:Xc P}{μ μ':Nat->Option Nat}{hp':Heap}{w w':World}(h:Ext b0 X μ [] w μ' hp' w'):Below w.heap.size w w':=
 ⟨h.os,h.tape,h.output,h.size,fun k hk=>h.blk k hk fun i hi=>by simp[live] at hi⟩

theorem znK{w w':World}(h:Below w.heap.size w w')(may:MemPlace->Prop):w.keptBut w' may:=by
 refine⟨h.os,h.output,fun i hi=> ?_⟩
 rw[h.block i hi]
 cases w.heap[i]? with
 |none=>trivial
 |some o=>cases o <;> simp

theorem zeN(hl:laidOutB P=true){W W':World}(hb:Below W.heap.size W W'):∀{ts:List TypeId} {vs:List Value} {ds:List (DataW H)} {p:List MemPlace},
  (∀t∈ts,P.readableRec t=true/\t<P.types.size)->(∀x∈p,x.block<W.heap.size)->DataW.TrodAll enc P W 0 (fun _=>true) true ts vs ds p->DataW.TrodAll enc P W' 0 (fun b=>decide (b<W.heap.size)) true ts vs ds p
 |[],_,_,_,_,_,h=>by
  obtain⟨rfl,rfl,rfl⟩:=trodAll_nil h
  exact trodAll_mk0
 |t::ts,_,_,_,ht,hp,h=>by
  obtain⟨v,vs,d,ds,a,b,rfl,rfl,rfl,h1,h2⟩:=trodAll_cons h
  obtain⟨k1,k2⟩:=ht t (by simp)
  exact⟨a,b,Below.trod hl k1 k2 h1 hb fun x hx=>hp x (by simp[hx]),zeN hl hb (fun t h=>ht t (by simp[h])) (fun x hx=>hp x (by simp[hx])) h2,rfl⟩

def zrR(P:Program)(fn:Func):Bool:=fn.params.toList.all fun t=>P.readableRec t && decide (t<P.types.size)
def zpQ(P:Program)(fn:Func):Bool:=
 match fn.resultTypes.toList with
 |[t]=>zh6 P t
 |_=>false
def zu0(P:Program)(fn:Func):Bool:=zrR P fn && zpQ P fn && fn.body.isSome && !(fn.name == "runtime.NumGoroutine")

theorem zj0{Γ:Oracle}(hΓ:SoundO P Γ){f:FuncId}{fn:Func}(hf:P.funcs[f]? =some fn)(hfn:zu0 P fn=true)(hl:laidOutB P=true){s:ChangeSpec}(hv:s.vars=[])
  {W:World}{args:Array Value}{ds gs:List (DataW H)}{before:List MemPlace}(hs:s.fn H (ds++gs)={ results:=[.lit (.bool true)],args:=ds })
  (hW:DataW.Whole enc P fn.params.toList s.vars false W args.toList ds gs before)
  {avs:List AV}(hL:LR W (noX (P:=P)) noμ [] avs args.toList)(h:Γ .fn f avs []=some (.ret (.pv none (.bool true)),[])):
  Calls P f args W fun e W'=>∃v,e=.returned v/\s.post enc P fn false true false false W args v W':=by
 simp only[zu0,Bool.and_eq_true,Bool.not_eq_true',beq_eq_false_iff_ne,Option.isSome_iff_exists] at hfn
 obtain⟨⟨⟨hp,hbr⟩,c,hb⟩,hn⟩:=hfn
 obtain⟨tb,hr,htb⟩:∃tb,fn.resultTypes= #[tb]/\P.underlying tb=some .bool:=by
  unfold zpQ at hbr
  split at hbr
  ·rename_i t ht
   exact⟨t,Array.toList_inj.1 ht,zhy hbr⟩
  ·cases hbr
 have k:=hΓ.fn f avs [] _ _ h W noX noμ args.toList (zrQ W) hL
 refine(zjZ hf hb hn k).mono fun e W' he=> ?_
 cases e with
 |returned u=>
  obtain⟨μ',v,e1,_,hE,hA⟩:=he
  cases e1
  cases hA with|pv _ _ _ _ hA=>
  cases hA
  have hB:=zpP hE
  refine⟨_,rfl,ds,gs,before,[],before,[],hW,?_,?_,?_,znK hB _,fun h=>by cases h⟩
  ·rw[hs,hr]
   simp only[Value.resultList]
   exact trodAll_mk1 (shut_bool htb true)
  ·rw[hs]
   have hlt:=hW.lt
   obtain⟨p,q,k1,k2,k3,_,_⟩:=hW
   rw[hv] at k2
   obtain⟨_,rfl⟩:=trodVars_none k2
   rw[List.append_nil] at k3
   subst k3
   refine zeN hl hB (fun t ht=> ?_) hlt k1
   have:=List.all_eq_true.1 hp t ht
   simp only[Bool.and_eq_true,decide_eq_true_eq] at this
   exact this
  ·rw[hs,hv]
   rfl
 |panicked ch=>obtain⟨_,_,_,e1,_⟩:=he;cases e1
 |outgrown=>exact he.elim
end Go.Am

/- The contract of slices.Insert, out of its three roads. -/
namespace Go.Am
variable{P:Program}
def ziF(sh:Sh):zba:=fun _ args hp=>match args with
 |[s,.pv _ (.int .i64 i),.tsl shx new]=>
  if shx=sh/\new≠[] then match s with
   | .sl s1 r ver off len=>
    if i=(len:Int) then(if len<=lim then match zaM sh hp [.sl s1 r ver off len,.tsl shx new] with
     |some (v,hp')=>some (.ret v,hp')
     |none=>none else none)
    else match hp[r]? with
     |some (.arr s' es false)=>if s1=sh/\s'=sh/\ver=es.length/\off=0/\len=es.length/\0<=i/\i<len/\len+new.length<=lim then
       some (.ret (.sl sh r (len+new.length) 0 (len+new.length)),hp.set r (.arr sh (es.take i.toNat++new++es.drop i.toNat) false)) else none
     |_=>none
   | .tsl s1 es=>if i=(es.length:Int)/\es.length<=lim then match zaM sh hp [.tsl s1 es,.tsl shx new] with
     |some (v,hp')=>some (.ret v,hp')
     |none=>none
    else none
   |_=>none
  else none
 |_=>none

structure InsRoads(P:Program)(f:FuncId)(t e:TypeId)(k:Nat):Prop where
 endr:∀(base:Option Addr) (n c vb voff m vc:Nat) (w w':World) (v':Value),0<m->n<=c->n<=lim->(Builtin.append_ #[t,t] t #[.slice base n c,.slice (some ⟨vb,voff,none⟩) m vc]).run P w=.ok v' w'->
  Calls P f #[.slice base n c,.int .i64 n,.slice (some ⟨vb,voff,none⟩) m vc] w fun E W=>E=.returned v'/\W=w'
 shift:∀(b n c i vb voff m vc:Nat) (cur:Array Value) (t0:TypeId) (vs:List Value) (w:World),i<n->0<m->n+m<=c->n+m<=lim->vb≠b->w.heap[b]? =some (.cells cur t0 (0,0))->cur.size=c*k->vs.length=m*k->
  (∀v∈(cur.toList.drop (i*k)).take ((n - i)*k),v.oneCell'=true)->(∀j v,vs[j]? =some v->w.cell? ⟨vb,voff+j,none⟩=some v)->(∀v∈vs,v.oneCell'=true)->∀(tA:TypeId) (kA:Nat),w.shape? vb=some (tA,kA)->kA≠0->
  ∃cur2:Array Value,cur2.toList=cur.toList.take (i*k)++vs++(cur.toList.drop (i*k)).take ((n - i)*k)++cur.toList.drop ((n+m)*k)/\
  Calls P f #[.slice (some ⟨b,0,none⟩) n c,.int .i64 i,.slice (some ⟨vb,voff,none⟩) m vc] w fun E w'=>E=.returned (.slice (some ⟨b,0,none⟩) (n+m) c)/\∃cur1,w'=(w.drew.setRow b cur1).setRow b cur2
 grow:∀(b n c i vb voff m vc:Nat) (cur:Array Value) (t0:TypeId) (vs:List Value) (w:World),i<n->0<m->n<=c->c<n+m->n+m<=lim->vb<w.heap.size->w.heap[b]? =some (.cells cur t0 (0,0))->cur.size=c*k->vs.length=m*k->
  (∀v∈(cur.toList.drop (i*k)).take ((n - i)*k),v.oneCell'=true)->(∀j v,vs[j]? =some v->w.cell? ⟨vb,voff+j,none⟩=some v)->(∀v∈vs,v.oneCell'=true)->
  ∃(row:Array Value) (G:Nat),n+m<=G/\row.size=G*k/\row.toList.take ((n+m)*k)=cur.toList.take (i*k)++vs++(cur.toList.drop (i*k)).take ((n - i)*k)/\
  Calls P f #[.slice (some ⟨b,0,none⟩) n c,.int .i64 i,.slice (some ⟨vb,voff,none⟩) m vc] w fun E w'=>
   E=.returned (.slice (some ⟨w.heap.size,0,none⟩) (n+m) G)/\w'.heap[w.heap.size]? =some (.cells row e (0,0))/\w'.heap.size=w.heap.size+1/\(∀x,x<w.heap.size->w'.heap[x]? =w.heap[x]?)/\w'.os=w.os/\w'.tape=w.tape/\w'.output=w.output

theorem zhR{b:Nat}{t e:TypeId}{x y:Value}{s q v:AV}{hp hp':Heap}{w:World}{X:Xc P}{μ:Nat->Option Nat}(ht:P.underlying t=some (.slice e))(hok:okT P e=true)(hz:zbv P e=true)(hby:zbJ P e=true)(hH:HR w X μ hp)
  (h1:AR w X μ hp s x)(h2:AR w X μ hp q y)(h:zaM (shOf P e) hp [s,q]=some (v,hp')):
  ∃v' w' μ',(Builtin.append_ #[t,t] t #[x,y]).run P w=.ok v' w'/\AR w' X μ' hp' v v'/\HR w' X μ' hp'/\Ext b X μ hp w μ' hp' w':=by
 obtain⟨n,v',w',μ',hr,hn,k1,k2,k3⟩:=zfJ (b:=b) (ty:=t) ht hok hz hby hH (.cons h1 (.cons h2 .nil)) h
 simp only[Sem.run_bind] at hr
 cases hq:(Builtin.append_ #[t,t] t #[x,y]).run P w with
 |ok u w2=>
  rw[hq] at hr
  simp only[Result.andThen_ok,Sem.run_pure] at hr
  cases hr
  rcases hn with hn|⟨hn,_⟩
  ·cases hn
   exact⟨_,_,_,rfl,k1,k2,k3⟩
  ·cases hn
 |_=>rw[hq] at hr;simp at hr
theorem zgQ(W:World)(x:Nat)(r:Array Value):(W.setRow x r).heap.size=W.heap.size:=by simp[World.setRow]
theorem zmp{w w':World}{X:Xc P}{μ:Nat->Option Nat}{hp:Heap}{sh:Sh}{rr b nb i G:Nat}{es new:List PV}{vals nvals:List Value}{cs row:Array Value}{t0 t1:TypeId}
  (hH:HR w X μ hp)(ho:hp[rr]? =some (.arr sh es false))(hpos:0<sh.size)(hE:ER w (Im X μ hp) sh es vals)(hN:ER w (Im X μ hp) sh new nvals)(hmu:μ rr=some b)(hb:w.heap[b]? =some (.cells cs t0 (0,0)))
  (hcells:cellsOf vals=cs.toList.take (es.length*sh.size))(hi:i<=es.length)(hm:0<new.length)(hnb:nb=b\/nb=w.heap.size)(hrow:w'.heap[nb]? =some (.cells row t1 (0,0)))
  (hoth:∀x,x<w.heap.size->x≠nb->w'.heap[x]? =w.heap[x]?)(hsz:w.heap.size<=w'.heap.size)(hos:w'.os=w.os)(htp:w'.tape=w.tape)(hout:w'.output=w.output)
  (hsame:nb=b->row.size=cs.size/\t1=t0)(hrs:row.size=G*sh.size)(hG:es.length+new.length<=G)
  (htk:row.toList.take ((es.length+new.length)*sh.size)=cs.toList.take (i*sh.size)++cellsOf nvals++(cs.toList.drop (i*sh.size)).take ((es.length - i)*sh.size)):
  zbi hp.length w X μ hp (.ret (.sl sh rr (es.length+new.length) 0 (es.length+new.length))) (hp.set rr (.arr sh (es.take i++new++es.drop i) false)) (.returned (.slice (some ⟨nb,0,none⟩) (es.length+new.length) G)) w':=by
 have hrl:=(List.getElem?_eq_some_iff.1 ho).1
 have hbN:=zaQ hb
 have hel:(es.take i++new++es.drop i).length=es.length+new.length:=by simp;omega
 have hnbl:=zaQ hrow
 have E:∀b0,Ext b0 X μ hp w (upd μ rr (some nb)) (hp.set rr (.arr sh (es.take i++new++es.drop i) false)) w':=fun b0=>
  Ext.setArr ho (by rw[hel];omega) (fun h=>by cases h) (fun h=>by rw[hel] at h;omega) (fun k hk=>by
   cases hk
   rcases hnb with h|h
   ·exact .inl (by rw[h];exact hmu)
   ·exact .inr (by omega)) hos htp hout hsz (fun k hk hne=>hoth k hk (fun e=>by
    rcases hnb with h|h
    ·exact hne rfl (by rw[e,h];exact hmu)
    ·omega)) (fun k cs' t fr hk=>by
    by_cases e:k=nb
    ·rcases hnb with h|h
     ·obtain⟨h1,h2⟩:=hsame h
      have:k=b:=e.trans h
      subst this
      rw[hb] at hk
      cases hk
      exact⟨row,by rw[e,hrow,h2],h1⟩
     ·have:=zaQ hk
      omega
    ·exact⟨cs',by rw[hoth k (zaQ hk) e];exact hk,rfl⟩)
 have hER:=((hE.take i).append hN).append (hE.drop i)
 have H:=hH.setArr ho (E 0) (fun k hk hne=>hoth k hk (fun e=>by
   rcases hnb with h|h
   ·exact hne (by rw[e,h];exact hmu)
   ·omega)) (fun k hk=>by
   cases hk
   refine⟨?_,hnbl⟩
   rcases hnb with h|h
   ·exact .inl (by rw[h];exact hmu)
   ·exact .inr (by omega)) (.inr ⟨nb,row,t1,vals.take i++nvals++vals.drop i,rfl,hrow,hER.1,(ER.ext (E 0) hER).2,?_⟩)
 ·refine⟨_,_,rfl,H,E _,?_⟩
  refine .sl _ _ _ _ _ _ _ (es.take i++new++es.drop i) false (List.getElem?_set_self hrl) (by omega) hG (fun _=>rfl) fun _=>⟨by omega,.inr ⟨nb,row,t1,zam _ _ _,hrow,by rw[Nat.zero_add];exact hrs.symm,fun _=>by simp⟩⟩
 ·rw[hel,htk,zaU,zaU,hE.cells_take i hi,hE.cells_drop i hi,hcells]
  have e1:(cs.toList.take (es.length*sh.size)).take (i*sh.size)=cs.toList.take (i*sh.size):=by
   rw[List.take_take]
   congr 1
   exact Nat.min_eq_left (Nat.mul_le_mul hi (Nat.le_refl _))
  have e2:(cs.toList.take (es.length*sh.size)).drop (i*sh.size)=(cs.toList.drop (i*sh.size)).take ((es.length - i)*sh.size):=by
   rw[List.drop_take,Nat.sub_mul]
  rw[e1,e2]
theorem znL{f:FuncId}{fn:Func}{c:Code}{t e:TypeId}(R:InsRoads P f t e (shOf P e).size)(hf:P.funcs[f]? =some fn)(hb:fn.body=some c)(hn:fn.name≠ "runtime.NumGoroutine")(ht:P.underlying t=some (.slice e))(hok:okT P e=true)(hz:zbv P e=true)(hby:zbJ P e=true):
  zmo P f (ziF (shOf P e)):=by
 intro args hp r hp' h w X μ vs hH hl
 have hlift:∀{K:Ending->World->Prop},Calls P f vs.toArray w K->Called P f vs.toArray w K:=fun h=>.inl ⟨zbW hf hb hn,h⟩
 unfold ziF at h
 split at h
 ·rename_i s sh0 i shx new
  split at h
  ·rename_i hc
   obtain⟨rfl,hnew⟩:=hc
   have hm:0<new.length:=List.length_pos_iff.2 hnew
   cases hl with|cons h1 hl=>
   cases hl with|cons h2 hl=>
   cases hl with|cons h3 hl=>
   cases hl
   rename_i vs1 vs2 vs3
   cases h2 with|pv _ _ _ _ h2=>
   cases h2
   have h3':=h3
   cases h3 with|tsl _ _ a hq=>
   have hq':=hq
   cases hq with
   |nilsl=>exact(hnew rfl).elim
   |sl _ _ vb vo vn vcs vt vfr vvals hvl hvI hvb hv1 hv2 hvc hvn=>
   split at h
   ·rename_i s1 rr ver off len
    split at h
    ·rename_i hi
     split at h
     ·rename_i hlen
      split at h
      ·rename_i v hp1 hap
       cases h
       obtain⟨v',w',μ',g1,g2,g3,g4⟩:=zhR (b:=hp.length) ht hok hz hby hH h1 h3' hap
       cases h1 with|sl _ _ _ _ _ ba cap es fz ho hv hlc ha hcc=>
       subst hi
       refine hlift ((R.endr ba len cap vb vo new.length new.length w w' v' hm hlc hlen g1).mono fun E W hE=> ?_)
       obtain⟨rfl,rfl⟩:=hE
       exact⟨μ',_,rfl,g3,g4,g2⟩
      ·cases h
     ·cases h
    ·rename_i hi
     split at h
     ·rename_i s' es ho
      split at h
      ·rename_i hcc
       obtain⟨rfl,rfl,rfl,rfl,rfl,hi0,hil,hlim⟩:=hcc
       cases h
       obtain⟨j,rfl⟩:∃j:Nat,i=(j:Int):=⟨i.toNat,by omega⟩
       have hjl:j<es.length:=by omega
       obtain⟨hpos,harr⟩:=hH.arr rr _ es false ho
       have hN:ER w (Im X μ hp) (shOf P e) new vvals:=⟨hvl,fun k p v hp hv=>⟨hv1 k p v hp hv,hv2 k p v hp hv⟩⟩
       have hNl:=hN.length
       have hNc:=ze6 hvb hvc
       cases h1 with|sl _ _ _ _ _ ba cap es1 fz1 ho1 hv1' hlc ha hcc=>
       rw[ho] at ho1
       cases ho1
       obtain⟨_,c2⟩:=hcc rfl
       rcases harr with⟨h1,h2⟩|⟨b,cs,t0,vals,h1,h2,h3,h4,h5⟩
       ·rw[h2] at hjl;simp at hjl
       have hE:ER w (Im X μ hp) (shOf P e) es vals:=⟨h3,h4⟩
       have hEl:=hE.length
       rcases c2 with⟨c3,_⟩|⟨b',cs',t',c3,c4,c5,c6⟩
       ·rw[h1] at c3;cases c3
       rw[h1] at c3
       cases c3
       rw[h2] at c4
       cases c4
       rw[Nat.zero_add] at c5
       have hba:=c6 (by omega)
       rw[Nat.zero_mul] at hba
       subst hba
       have hlive:live hp rr=true:=by simp[live,ho]
       have hne:vb≠b:=fun e=>hvI.2 rr hlive (by rw[e];exact h1)
       have hvcell:∀(k:Nat) v,(cellsOf vvals)[k]? =some v->w.cell? ⟨vb,vo+k,none⟩=some v:=fun k v hk=>by
        have:=hNc k v hk
        have ha:(⟨vb,vo,none⟩:Addr).add k=⟨vb,vo+k,none⟩:=by unfold Addr.add;split <;> simp_all
        rwa [ha] at this
       have hoc:∀v∈(cs.toList.drop (j*(shOf P e).size)).take ((es.length - j)*(shOf P e).size),v.oneCell'=true:=fun v hv=>by
        have e2:(cs.toList.take (es.length*(shOf P e).size)).drop (j*(shOf P e).size)=(cs.toList.drop (j*(shOf P e).size)).take ((es.length - j)*(shOf P e).size):=by rw[List.drop_take,Nat.sub_mul]
        rw[<-e2,<-h5] at hv
        exact hE.flat v (List.mem_of_mem_drop hv)
       simp only[Int.toNat_natCast]
       by_cases hroom:es.length+new.length<=cap
       ·have hkA:vcs.size≠0:=by
         intro h0
         have:=congrArg List.length hvc
         have h00:vcs.toList=[]:=List.length_eq_zero_iff.1 (by simpa using h0)
         rw[hNl,h00] at this
         simp at this
         have:=Nat.mul_pos hm hpos
         omega
        obtain⟨cur2,hc2,hcall⟩:=R.shift b es.length cap j vb vo new.length new.length cs t0 (cellsOf vvals) w hjl hm hroom hlim hne h2 c5.symm hNl hoc hvcell hN.flat vt vcs.size (by simp[World.shape?,hvb]) hkA
        refine hlift (hcall.mono fun E W hE'=> ?_)
        obtain⟨rfl,cur1,rfl⟩:=hE'
        have hrow1:(w.drew.setRow b cur1).heap[b]? =some (.cells cur1 t0 (0,0)):=setRow_heap w.drew b cs cur1 t0 _ h2
        have hrow2:=setRow_heap (w.drew.setRow b cur1) b cur1 cur2 t0 _ hrow1
        have hc2l:cur2.size=cs.size:=by
         have:=congrArg List.length hc2
         have hb1:j*(shOf P e).size<=es.length*(shOf P e).size:=Nat.mul_le_mul (by omega) (Nat.le_refl _)
         have hb2:(es.length+new.length)*(shOf P e).size<=cap*(shOf P e).size:=Nat.mul_le_mul hroom (Nat.le_refl _)
         simp only[List.length_append,List.length_take,List.length_drop,Array.length_toList,hNl,Nat.sub_mul,Nat.add_mul] at this hb2
         omega
        refine zmp hH ho hpos hE hN h1 h2 h5 (by omega) hm (.inl rfl) hrow2 (fun x _ hx=> ?_) (by rw[zgQ,zgQ];exact Nat.le_of_eq rfl) rfl rfl rfl (fun _=>⟨hc2l,rfl⟩) (by rw[hc2l];exact c5.symm) hroom ?_
        ·simp[World.setRow,Array.getElem?_modify,Ne.symm hx]
         rfl
        ·rw[hc2]
         exact List.take_left' (by
          have hb1:j*(shOf P e).size<=es.length*(shOf P e).size:=Nat.mul_le_mul (by omega) (Nat.le_refl _)
          have hb2:(es.length+new.length)*(shOf P e).size<=cap*(shOf P e).size:=Nat.mul_le_mul hroom (Nat.le_refl _)
          simp only[List.length_append,List.length_take,List.length_drop,Array.length_toList,hNl,Nat.sub_mul,Nat.add_mul] at hb2 ⊢
          omega)
       ·obtain⟨row,G,g1,g2,g3,hcall⟩:=R.grow b es.length cap j vb vo new.length new.length cs t0 (cellsOf vvals) w hjl hm hlc (by omega) hlim (zaQ hvb) h2 c5.symm hNl hoc hvcell hN.flat
        refine hlift (hcall.mono fun E W hE'=> ?_)
        obtain⟨rfl,k1,k2,k3,k4,k5,k6⟩:=hE'
        exact zmp hH ho hpos hE hN h1 h2 h5 (by omega) hm (.inr rfl) k1 (fun x hx _=>k3 x hx) (by omega) k4 k5 k6 (fun e=>by have:=zaQ h2;omega) g2 g1 g3
      ·cases h
     ·cases h
   ·rename_i s1 es
    split at h
    ·rename_i hi
     obtain⟨hi,hlen⟩:=hi
     split at h
     ·rename_i v hp1 hap
      cases h
      obtain⟨v',w',μ',g1,g2,g3,g4⟩:=zhR (b:=hp.length) ht hok hz hby hH h1 h3' hap
      cases h1 with|tsl _ _ a1 hq1=>
      subst hi
      refine hlift ((R.endr a1 es.length es.length vb vo new.length new.length w w' v' hm (Nat.le_refl _) hlen g1).mono fun E W hE=> ?_)
      obtain⟨rfl,rfl⟩:=hE
      exact⟨μ',_,rfl,g3,g4,g2⟩
     ·cases h
    ·cases h
   ·cases h
  ·cases h
 ·cases h
end Go.Am

/- What is proved: copying rows of cells; two slices of different blocks do not overlap. -/
namespace Go.Am
open Go
variable{P:Program}
theorem zcf(w:World)(dT sT ty elem:TypeId)(g o dLen dCap:Nat)(a:Addr)(sLen sCap k:Nat)(cur:Array Value)(t:TypeId)(cs:List Value)
  (hu:P.underlying dT=some (.slice elem))(hs:(P.info? elem).map (·.size)=some k)
  (hg:w.heap[g]? =some (.cells cur t (0,0)))(hn:cs.length=Nat.min sLen dLen*k)
  (hsrc:∀j v,cs[j]? =some v->w.cell? (a.add j)=some v)(hfit:o+cs.length<=cur.size)(h1:∀v∈cs,v.oneCell'=true):
  (Builtin.copy_ #[dT,sT] ty #[.slice (some ⟨g,o,none⟩) dLen dCap,.slice (some a) sLen sCap]).run P w=
   .ok (goInt (Nat.min sLen dLen)) (w.setRow g (cur.toList.take o++cs++cur.toList.drop (o+cs.length)).toArray):=by
 have hl:=run_loadCells_list (P:=P) w a cs hsrc
 have hst:=run_storeCells_at P g o t cs 0 cur w hg (by simpa using hfit) h1
 cases hq:P.info? elem with
 |none=>simp[hq] at hs
 |some i=>
  have hi:i.size=k:=by simpa[hq] using hs
  simp[Builtin.copy_,run_underlying hu,Builtin.lenOf,Builtin.firstCells,sizeOf,typeInfo,hq,hi,<-hn,hl,hst]
theorem zf3(w:World)(tS tR e:TypeId)(ht:P.underlying tS=some (.slice e))(size:Nat)(hz:∀w,(Go.sizeOf e).run P w=.ok size w)
  (a b:Addr)(la ca lb cb:Nat)(hne:a.block≠b.block)(tA tB:TypeId)(kA kB:Nat)
  (hsa:w.shape? a.block=some (tA,kA))(hsb:w.shape? b.block=some (tB,kB))(hkA:kA≠0)(hkB:kB≠0)
  (hfb:∀o,w.frozen? { block:=b.block,off:=o }=false)(hfb':w.frozen? b=false):
  (Extern.SlicesOverlaps.overlaps #[tS,tS] #[tR] #[.slice (some a) la ca,.slice (some b) lb cb]).run P w=.ok (.bool false) w:=by
 have hnb:(a.block != b.block)=true:=by simpa using hne
 have hnb':(a.block == b.block)=false:=by simpa using hne
 change Sem.run P (α:=Value) (do
  let some t:=(#[tS,tS]:Array TypeId)[0]? |stuck "slices.overlaps: no parameter types"
  let .slice elem <-underlying t|stuck "slices.overlaps: slice type expected"
  let size <-sizeOf elem
  match(some a:Option Addr),(some b:Option Addr) with
  |some a,some b=>
   if la=0\/lb=0\/size=0 then pure (Value.bool false)
   else if a.block != b.block && (<-frozen a) && (<-frozen b) then unsupported .addressObserved
   else do
    if a.block != b.block then do
     noView a;noView b
     if <-mayBeOne a b then return Value.bool ((<-choose (.extern "sameAddr.stringBytes" 2)) == 1)
    pure (Value.bool (a.block == b.block && a.off<b.off+lb*size && b.off<a.off+la*size))
  |_,_=>pure (Value.bool false)) w=_
 by_cases h0:la=0\/lb=0\/size=0
 ·simp[run_underlying ht,hz,h0]
 ·cases kB with
  |zero=>exact absurd rfl hkB
  |succ kB=>
   cases kA with
   |zero=>exact absurd rfl hkA
   |succ kA=>
    cases hfa:w.frozen? a <;> cases hfe:w.frozen? { block:=a.block,off:=kA+1 } <;>
    simp[run_underlying ht,hz,h0,hnb,hnb',frozen,noView,viewAt,mayBeOne,stringish,shape,Sem.run,hsa,hsb,hfb,hfb',hfa,hfe]
end Go.Am

/- Terms as plain data. -/
namespace Go.Am
inductive Tm where
 |mk (kind n:Int) (name:List UInt8) (args:List Tm)
 deriving Inhabited
mutual
def Tm.pv:Tm->PV
 | .mk k n s as=>.agg [(none,.int .i64 k),(none,.int .i64 n),(none,.str s),(none,.sl (some 4) (Tm.pvs as))]
def Tm.pvs:List Tm->List PV
 |[]=>[]
 |t::r=>t.pv::Tm.pvs r
end
def Tm.kind:Tm->Int| .mk k _ _ _=>k
def Tm.n:Tm->Int| .mk _ n _ _=>n
def Tm.name:Tm->List UInt8| .mk _ _ s _=>s
def Tm.args:Tm->List Tm| .mk _ _ _ as=>as
def Tm.av(t:Tm):AV:=.pv (some 4) t.pv
theorem Tm.zwZ(t:Tm):t.pv=.agg [(none,.int .i64 t.kind),(none,.int .i64 t.n),(none,.str t.name),(none,.sl (some 4) (Tm.pvs t.args))]:=by cases t;rfl
end Go.Am

/- What code comes to: rules that a proof steps by. -/
namespace Go.Am
variable{Γ:Oracle} {Λ:zak} {b:Nat}

class Tag.{u} {α:Sort u} (a:α):Type where
instance tagAny.{u}{α:Sort u}(a:α):Tag a:=⟨⟩

def W(Γ:Oracle)(Λ:zak)(b:Nat)(c:ACode)(st:St)(Q:AExit->St->Prop)[Tag Q]:Prop:=
 match aexec Γ Λ b c st with
 |some (e,st')=>Q e st'
 |none=>False
def O(Γ:Oracle)(b:Nat)(ops:List AOper)(fr:Fr)(hp:Heap)(K:Fr->Heap->Prop)(Kp:PV->Fr->Heap->Prop)[Tag K][Tag Kp]:Prop:=
 match aops Γ b ops fr hp with
 |some (.normal,fr',hp')=>K fr' hp'
 |some (.panic v,fr',hp')=>Kp v fr' hp'
 |_=>False
def seqK(k:St->Prop)(Q:AExit->St->Prop)[Tag k][Tag Q]:AExit->St->Prop
 | .normal,st=>k st
 | .exit i,st=>Q (.exit i) st
 | .ret,st=>Q .ret st
 | .panic v,st=>Q (.panic v) st
def zj1(id:Nat)(Q:AExit->St->Prop)[Tag Q]:AExit->St->Prop
 | .exit i,st=>if i=id then Q .normal st else Q (.exit i) st
 | .normal,st=>Q .normal st
 | .ret,st=>Q .ret st
 | .panic v,st=>Q (.panic v) st
def zrS(v:Option AV)(A B:Prop)[Tag A][Tag B]:Prop:=
 match v with
 |some (.pv _ (.bool b))=>if b=true then A else B
 |_=>False
def panK(pan:Bool)(A:Prop)[Tag A]:Prop:=if pan=true then A else False
def zpR(v:Option Bool)(A B:Prop)[Tag A][Tag B]:Prop:=
 match v with
 |some b=>if b=true then A else B
 |none=>False
def argK(v:Option (List AV))(K:List AV->Prop)[Tag K]:Prop:=
 match v with
 |some l=>K l
 |none=>False
def opK(v:Option OpRes)(K:AV->Heap->Prop)(Kp:PV->Heap->Prop)[Tag K][Tag Kp]:Prop:=
 match v with
 |some (.val v hp)=>K v hp
 |some (.panic v hp)=>Kp v hp
 |none=>False
def zbN(v:Option (AV × Heap))(K:AV->Heap->Prop)[Tag K]:Prop:=
 match v with
 |some (v,hp)=>K v hp
 |none=>False
def zln(v:Option (ARes × Heap))(K:AV->Heap->Prop)(Kp:PV->Heap->Prop)[Tag K][Tag Kp]:Prop:=
 match v with
 |some (.ret v,hp)=>K v hp
 |some (.panic v,hp)=>Kp v hp
 |none=>False

variable{st:St} {Q:AExit->St->Prop} {fr:Fr} {hp:Heap} {K:Fr->Heap->Prop} {Kp:PV->Fr->Heap->Prop}
theorem zu1:W Γ Λ b .skip st Q=Q .normal st:=rfl
theorem zu2(i:Nat):W Γ Λ b (.exit i) st Q=Q (.exit i) st:=rfl
theorem zv0:W Γ Λ b .ret st Q=Q .ret st:=rfl
theorem zrT(l:List Nat):W Γ Λ b (.settle l) st Q=(match settle l st with|some st'=>Q .normal st'|none=>False):=by
 unfold W
 simp only[aexec]
 cases settle l st <;> rfl
theorem zu3(x y:ACode):W Γ Λ b (.seq x y) st Q=W Γ Λ b x st (seqK (fun st'=>W Γ Λ b y st' Q) Q):=by
 unfold W
 simp only[aexec]
 cases aexec Γ Λ b x st with
 |none=>rfl
 |some r=>
  obtain⟨e,st'⟩:=r
  cases e <;> rfl
theorem zu4(c:AArg)(x y:ACode):W Γ Λ b (.cond c x y) st Q=zrS (st.fr.arg c) (W Γ Λ b x st Q) (W Γ Λ b y st Q):=by
 unfold W
 simp only[aexec]
 cases st.fr.arg c with
 |none=>rfl
 |some v=>
  cases v with
  |pv s p=>
   cases p with
   |bool v=>cases v <;> simp[zrS]
   |_=>rfl
  |_=>rfl
theorem ztX(id:Nat)(c:ACode):W Γ Λ b (.block id c) st Q=W Γ Λ b c st (zj1 id Q):=by
 unfold W
 simp only[aexec]
 cases aexec Γ Λ b c st with
 |none=>rfl
 |some r=>
  obtain⟨e,st'⟩:=r
  cases e with
  |exit i=>
   simp only[zj1]
   by_cases h:i=id
   ·simp[h]
   ·simp[h]
  |_=>rfl
theorem zrU(pan:Bool)(ops:List AOper)(keep:List Nat):W Γ Λ b (.region pan ops keep) st Q=O Γ b ops st.fr st.hp (fun fr hp=>Q .normal ⟨fr.keep keep,hp⟩) (fun v fr hp=>panK pan (Q (.panic v) ⟨fr.keep keep,hp⟩)):=by
 unfold W O
 simp only[aexec]
 cases aops Γ b ops st.fr st.hp with
 |none=>rfl
 |some r=>
  obtain⟨e,fr,hp⟩:=r
  cases e with
  |panic v=>cases pan <;> simp[panK]
  |_=>rfl
theorem zv1:O Γ b [] fr hp K Kp=K fr hp:=rfl
theorem ztk(o:AOper)(r:List AOper):O Γ b (o::r) fr hp K Kp=zpR (wants fr o.guard) (argK (fr.argsOf o.args) fun vs=>opK (aOp Γ b o.op vs hp) (fun v hp'=>O Γ b r (fr.dst o.dst v) hp' K Kp) (fun v hp'=>Kp v fr hp')) (O Γ b r (fr.dst o.dst .undef) hp K Kp):=by
 unfold O
 simp only[aops]
 cases wants fr o.guard with
 |none=>rfl
 |some w=>
  cases w with
  |false=>simp[zpR]
  |true=>
   simp only[zpR,if_true]
   cases fr.argsOf o.args with
   |none=>rfl
   |some vs=>
    simp only[argK]
    cases aOp Γ b o.op vs hp with
    |none=>rfl
    |some r=>cases r <;> rfl
theorem zu5(d:Option Nat)(op:AOp)(as:List AArg)(r:List AOper):O Γ b (⟨d,op,as,none⟩::r) fr hp K Kp=argK (fr.argsOf as) fun vs=>opK (aOp Γ b op vs hp) (fun v hp'=>O Γ b r (fr.dst d v) hp' K Kp) (fun v hp'=>Kp v fr hp'):=by
 rw[ztk];rfl
def zj2(v:Option AV)(w:Bool)(A B:Prop)[Tag A][Tag B]:Prop:=
 match v with
 |some (.pv _ (.bool b))=>if b=w then A else B
 |some .undef=>B
 |_=>False
theorem ztY(d:Option Nat)(op:AOp)(as:List AArg)(s:Nat)(w:Bool)(r:List AOper):O Γ b (⟨d,op,as,some (s,w)⟩::r) fr hp K Kp=zj2 (fr.look s) w (argK (fr.argsOf as) fun vs=>opK (aOp Γ b op vs hp) (fun v hp'=>O Γ b r (fr.dst d v) hp' K Kp) (fun v hp'=>Kp v fr hp')) (O Γ b r (fr.dst d .undef) hp K Kp):=by
 rw[ztk]
 simp only[wants]
 cases h:fr.look s with
 |none=>rfl
 |some v=>
  cases v with
  |pv sh p=>
   cases p with
   |bool c=>cases c <;> cases w <;> simp[zpR,zj2]
   |_=>rfl
  |undef=>simp[zpR,zj2]
  |_=>rfl
theorem zv2(s:Nat):fr.arg (.t s)=fr.look s:=rfl
theorem zv3(v:AV):fr.arg (.c v)=some v:=rfl
theorem zrV(s:Nat):Fr.look [] s=none:=rfl
theorem zpS(k s:Nat)(v:AV)(r:Fr):Fr.look ((k,v)::r) s=if k=s then some v else Fr.look r s:=rfl
theorem zrW(d:Nat)(v:AV):fr.dst (some d) v=(d,v)::fr:=rfl
theorem zrX(v:AV):fr.dst none v=fr:=rfl
theorem zrY:fr.argsOf []=some []:=rfl
def ztZ(v:Option AV)(l:Option (List AV)):Option (List AV):=
 match v with
 |none=>none
 |some v=>match l with
  |some l=>some (v::l)
  |none=>none
theorem zpT(a:AArg)(r:List AArg):fr.argsOf (a::r)=ztZ (fr.arg a) (fr.argsOf r):=rfl
theorem znM(v:AV)(l:List AV):ztZ (some v) (some l)=some (v::l):=rfl
theorem zpU(l:List AV)(K:List AV->Prop):argK (some l) K=K l:=rfl
def iteK(v:Prop)(A B:Prop)[Tag A][Tag B]:Prop:=(v->A)/\(¬v->B)
theorem znN(s:Sh)(v:Bool)(A B:Prop):zrS (some (.pv s (.bool v))) A B=iteK (v=true) A B:=by
 cases v <;> simp[zrS,iteK]
theorem zlo(s:Sh)(v w:Bool)(A B:Prop):zj2 (some (.pv s (.bool v))) w A B=iteK (v=w) A B:=by
 cases v <;> cases w <;> simp[zj2,iteK]
theorem zpV(A B:Prop):iteK True A B=A:=by simp[iteK]
theorem znO(A B:Prop):iteK False A B=B:=by simp[iteK]
theorem zrZ(v A B:Prop):iteK (¬v) A B=iteK v B A:=by
 by_cases h:v <;> simp[iteK,h]
theorem zax{v A B:Prop}(hA:v->A)(hB:¬v->B):iteK v A B:=⟨hA,hB⟩
attribute [irreducible] iteK
theorem znP(v:AV)(hp:Heap)(K:AV->Heap->Prop):zbN (some (v,hp)) K=K v hp:=rfl
theorem zpW(v:AV)(hp:Heap)(K:AV->Heap->Prop)(Kp:PV->Heap->Prop):zln (some (.ret v,hp)) K Kp=K v hp:=rfl
theorem zlp(v:PV)(hp:Heap)(K:AV->Heap->Prop)(Kp:PV->Heap->Prop):zln (some (.panic v,hp)) K Kp=Kp v hp:=rfl
theorem zr0:fr.keep []=[]:=rfl
def zt0(k:Nat)(v:Option AV)(r:Fr):Fr:=
 match v with
 |some v=>(k,v)::r
 |none=>r
theorem zpX(k:Nat)(ks:List Nat):fr.keep (k::ks)=zt0 k (fr.look k) (fr.keep ks):=rfl
theorem znQ(k:Nat)(v:AV)(r:Fr):zt0 k (some v) r=(k,v)::r:=rfl
theorem znR(k:Nat)(r:Fr):zt0 k none r=r:=rfl
theorem zlq(k:St->Prop)(Q:AExit->St->Prop)(st:St):seqK k Q .normal st=k st:=rfl
theorem zpY(k:St->Prop)(Q:AExit->St->Prop)(i:Nat)(st:St):seqK k Q (.exit i) st=Q (.exit i) st:=rfl
theorem zr1(k:St->Prop)(Q:AExit->St->Prop)(st:St):seqK k Q .ret st=Q .ret st:=rfl
theorem znS(k:St->Prop)(Q:AExit->St->Prop)(v:PV)(st:St):seqK k Q (.panic v) st=Q (.panic v) st:=rfl
theorem ziG(id:Nat)(Q:AExit->St->Prop)(st:St):zj1 id Q .normal st=Q .normal st:=rfl
theorem zlr(id:Nat)(Q:AExit->St->Prop)(i:Nat)(st:St):zj1 id Q (.exit i) st=if i=id then Q .normal st else Q (.exit i) st:=rfl
theorem znT(id:Nat)(Q:AExit->St->Prop)(st:St):zj1 id Q .ret st=Q .ret st:=rfl
end Go.Am

/- What code comes to: the operations. -/
namespace Go.Am
variable{Γ:Oracle} {Λ:zak} {b:Nat} {hp:Heap} {vs:List AV} {K:AV->Heap->Prop} {Kp:PV->Heap->Prop}
def valK(v:Option AV)(K:AV->Prop)[Tag K]:Prop:=
 match v with
 |some v=>K v
 |none=>False
def pvK(v:Option PV)(K:PV->Prop)[Tag K]:Prop:=
 match v with
 |some v=>K v
 |none=>False
theorem zpZ(v:AV)(K:AV->Prop):valK (some v) K=K v:=rfl
theorem zr2(v:PV)(K:PV->Prop):pvK (some v) K=K v:=rfl

theorem zv4:opK (aOp Γ b .mv vs hp) K Kp=valK (sMv vs) (fun v=>K v hp):=by
 show opK (match zbb hp (sMv vs) with|some (v,hp')=>some (OpRes.val v hp')|none=>none) K Kp=_
 cases sMv vs <;> rfl
theorem zu6:opK (aOp Γ b .len vs hp) K Kp=valK (sLen vs) (fun v=>K v hp):=by
 show opK (match zbb hp (sLen vs) with|some (v,hp')=>some (OpRes.val v hp')|none=>none) K Kp=_
 cases sLen vs <;> rfl
theorem zt1:opK (aOp Γ b .slen vs hp) K Kp=valK (zkM vs) (fun v=>K v hp):=by
 show opK (match zbb hp (zkM vs) with|some (v,hp')=>some (OpRes.val v hp')|none=>none) K Kp=_
 cases zkM vs <;> rfl
theorem zt2:opK (aOp Γ b .pick vs hp) K Kp=valK (zkK vs) (fun v=>K v hp):=by
 show opK (match zbb hp (zkK vs) with|some (v,hp')=>some (OpRes.val v hp')|none=>none) K Kp=_
 cases zkK vs <;> rfl
theorem zu7:opK (aOp Γ b .not vs hp) K Kp=valK (sNot vs) (fun v=>K v hp):=by
 show opK (match zbb hp (sNot vs) with|some (v,hp')=>some (OpRes.val v hp')|none=>none) K Kp=_
 cases sNot vs <;> rfl
theorem zu8(o:BinOp):opK (aOp Γ b (.bin o) vs hp) K Kp=valK (sBin o vs) (fun v=>K v hp):=by
 show opK (match zbb hp (sBin o vs) with|some (v,hp')=>some (OpRes.val v hp')|none=>none) K Kp=_
 cases sBin o vs <;> rfl
theorem zr3(z:List (Sh × AV))(i:List Nat):opK (aOp Γ b (.build z i) vs hp) K Kp=valK (za1 z i vs) (fun v=>K v hp):=by
 show opK (match zbb hp (za1 z i vs) with|some (v,hp')=>some (OpRes.val v hp')|none=>none) K Kp=_
 cases za1 z i vs <;> rfl
theorem znU(sh:Sh):opK (aOp Γ b (.bslicep sh) vs hp) K Kp=valK (zcz sh vs) (fun v=>K v hp):=by
 show opK (match zbb hp (zcz sh vs) with|some (v,hp')=>some (OpRes.val v hp')|none=>none) K Kp=_
 cases zcz sh vs <;> rfl
theorem zr4(o:Nat):opK (aOp Γ b (.faddr o) vs hp) K Kp=valK (zgg o vs) (fun v=>K v hp):=by
 show opK (match zbb hp (zgg o vs) with|some (v,hp')=>some (OpRes.val v hp')|none=>none) K Kp=_
 cases zgg o vs <;> rfl
theorem zr5(sh:Sh):opK (aOp Γ b (.iaddr sh) vs hp) K Kp=valK (za7 sh vs) (fun v=>K v hp):=by
 show opK (match zbb hp (za7 sh vs) with|some (v,hp')=>some (OpRes.val v hp')|none=>none) K Kp=_
 cases za7 sh vs <;> rfl
theorem zp0(sh:Sh)(n:Nat):opK (aOp Γ b (.iaddrA sh n) vs hp) K Kp=valK (zb3 sh n vs) (fun v=>K v hp):=by
 show opK (match zbb hp (zb3 sh n vs) with|some (v,hp')=>some (OpRes.val v hp')|none=>none) K Kp=_
 cases zb3 sh n vs <;> rfl
theorem zr6(sh:Sh)(l h:Bool):opK (aOp Γ b (.slice sh l h) vs hp) K Kp=valK (zcl sh l h vs) (fun v=>K v hp):=by
 show opK (match zbb hp (zcl sh l h vs) with|some (v,hp')=>some (OpRes.val v hp')|none=>none) K Kp=_
 cases zcl sh l h vs <;> rfl
theorem zp1(f:Fn)(k:Nat):opK (aOp Γ b (.mkfunc f k) vs hp) K Kp=valK (zd3 f k vs) (fun v=>K v hp):=by
 show opK (match zbb hp (zd3 f k vs) with|some (v,hp')=>some (OpRes.val v hp')|none=>none) K Kp=_
 cases zd3 f k vs <;> rfl
theorem zt3(k:IntKind):opK (aOp Γ b (.conv k) vs hp) K Kp=valK (zkL k vs) (fun v=>K v hp):=by
 show opK (match zbb hp (zkL k vs) with|some (v,hp')=>some (OpRes.val v hp')|none=>none) K Kp=_
 cases zkL k vs <;> rfl
theorem znV(i:Nat):opK (aOp Γ b (.extract i) vs hp) K Kp=valK (zc1 i vs) (fun v=>K v hp):=by
 show opK (match zbb hp (zc1 i vs) with|some (v,hp')=>some (OpRes.val v hp')|none=>none) K Kp=_
 cases zc1 i vs <;> rfl
theorem znW(t:TypeId):opK (aOp Γ b (.mkiface t) vs hp) K Kp=valK (zc2 t vs) (fun v=>K v hp):=by
 show opK (match zbb hp (zc2 t vs) with|some (v,hp')=>some (OpRes.val v hp')|none=>none) K Kp=_
 cases zc2 t vs <;> rfl
theorem zp2(t:TypeId)(sh:Sh)(z:AV)(k:Bool):opK (aOp Γ b (.assert t sh z k) vs hp) K Kp=valK (zd4 t sh z k vs) (fun v=>K v hp):=by
 show opK (match zbb hp (zd4 t sh z k vs) with|some (v,hp')=>some (OpRes.val v hp')|none=>none) K Kp=_
 cases zd4 t sh z k vs <;> rfl
theorem zt4(sh:Sh):opK (aOp Γ b (.load sh) vs hp) K Kp=valK (zhj sh hp vs) (fun v=>K v hp):=by
 show opK (match zbb hp (zhj sh hp vs) with|some (v,hp')=>some (OpRes.val v hp')|none=>none) K Kp=_
 cases zhj sh hp vs <;> rfl
theorem zp3(s:Bool)(sh:Sh)(z:AV)(k:Bool):opK (aOp Γ b (.lookup s sh z k) vs hp) K Kp=valK (zbc s sh z k hp vs) (fun v=>K v hp):=by
 show opK (match zbb hp (zbc s sh z k hp vs) with|some (v,hp')=>some (OpRes.val v hp')|none=>none) K Kp=_
 cases zbc s sh z k hp vs <;> rfl
theorem zt5:opK (aOp Γ b .mlen vs hp) K Kp=valK (zh4 hp vs) (fun v=>K v hp):=by
 show opK (match zbb hp (zh4 hp vs) with|some (v,hp')=>some (OpRes.val v hp')|none=>none) K Kp=_
 cases zh4 hp vs <;> rfl
theorem zr7(sh:Sh):opK (aOp Γ b (.nilsl sh) vs hp) K Kp=zbN (zcb sh hp) K:=by
 show opK (match(zcb sh hp) with|some (v,hp')=>some (OpRes.val v hp')|none=>none) K Kp=_
 cases (zcb sh hp) with
 |none=>rfl
 |some r=>cases r;rfl
theorem zr8(sh:Sh)(z:AV):opK (aOp Γ b (.alloc sh z) vs hp) K Kp=zbN (zcn sh z hp vs) K:=by
 show opK (match(zcn sh z hp vs) with|some (v,hp')=>some (OpRes.val v hp')|none=>none) K Kp=_
 cases (zcn sh z hp vs) with
 |none=>rfl
 |some r=>cases r;rfl
theorem zu9(sh:Sh):opK (aOp Γ b (.box sh) vs hp) K Kp=zbN (wBox sh hp vs) K:=by
 show opK (match(wBox sh hp vs) with|some (v,hp')=>some (OpRes.val v hp')|none=>none) K Kp=_
 cases (wBox sh hp vs) with
 |none=>rfl
 |some r=>cases r;rfl
theorem zp4(sh:Sh):opK (aOp Γ b (.bslice sh) vs hp) K Kp=zbN (zbd sh hp vs) K:=by
 show opK (match(zbd sh hp vs) with|some (v,hp')=>some (OpRes.val v hp')|none=>none) K Kp=_
 cases (zbd sh hp vs) with
 |none=>rfl
 |some r=>cases r;rfl
theorem zr9(sh:Sh):opK (aOp Γ b (.store sh) vs hp) K Kp=zbN (zaF sh b hp vs) K:=by
 show opK (match(zaF sh b hp vs) with|some (v,hp')=>some (OpRes.val v hp')|none=>none) K Kp=_
 cases (zaF sh b hp vs) with
 |none=>rfl
 |some r=>cases r;rfl
theorem znX(sh:Sh)(z:PV):opK (aOp Γ b (.mkslice sh z) vs hp) K Kp=zbN (zcA sh z hp vs) K:=by
 show opK (match(zcA sh z hp vs) with|some (v,hp')=>some (OpRes.val v hp')|none=>none) K Kp=_
 cases (zcA sh z hp vs) with
 |none=>rfl
 |some r=>cases r;rfl
theorem zp5(s:Bool)(sh:Sh):opK (aOp Γ b (.mapset s sh) vs hp) K Kp=zbN (zb5 s sh hp vs) K:=by
 show opK (match(zb5 s sh hp vs) with|some (v,hp')=>some (OpRes.val v hp')|none=>none) K Kp=_
 cases (zb5 s sh hp vs) with
 |none=>rfl
 |some r=>cases r;rfl
theorem zsa(sh:Sh)(z:PV):opK (aOp Γ b (.clear sh z) vs hp) K Kp=zbN (zfE sh z hp vs) K:=by
 show opK (match(zfE sh z hp vs) with|some (v,hp')=>some (OpRes.val v hp')|none=>none) K Kp=_
 cases (zfE sh z hp vs) with
 |none=>rfl
 |some r=>cases r;rfl
theorem zp6(sh:Sh):opK (aOp Γ b (.append sh) vs hp) K Kp=zbN (zaM sh hp vs) K:=by
 show opK (match(zaM sh hp vs) with|some (v,hp')=>some (OpRes.val v hp')|none=>none) K Kp=_
 cases (zaM sh hp vs) with
 |none=>rfl
 |some r=>cases r;rfl
theorem zt6(sh:Sh):opK (aOp Γ b (.bslo sh) vs hp) K Kp=zbN (zjd sh hp vs) K:=by
 show opK (match zjd sh hp vs with|some (v,hp')=>some (OpRes.val v hp')|none=>none) K Kp=_
 cases zjd sh hp vs with
 |none=>rfl
 |some r=>cases r;rfl
theorem zp7(sh:Sh):opK (aOp Γ b (.storen sh) vs hp) K Kp=zbN (zb4 sh b hp vs) K:=by
 show opK (match zb4 sh b hp vs with|some (v,hp')=>some (OpRes.val v hp')|none=>none) K Kp=_
 cases zb4 sh b hp vs with
 |none=>rfl
 |some r=>cases r;rfl
theorem zsb(sh:Sh):opK (aOp Γ b (.mkmap sh) vs hp) K Kp=K (.map hp.length) (hp++[.map sh []]):=rfl
theorem zt7(s:Sh)(f:FuncId)(as:List AV):opK (aOp Γ b .call (.pv s (.func (.func f))::as) hp) K Kp=zln (Γ .fn f as hp) K Kp:=by
 simp only[aOp,zcy,zaT,List.nil_append,List.append_nil]
 cases Γ .fn f as hp with
 |none=>rfl
 |some r=>obtain⟨r,hp'⟩:=r;cases r <;> rfl
theorem zsc(f:FuncId)(fs cs as:List AV):opK (aOp Γ b .call (.func (.func f) fs cs::as) hp) K Kp=zln (Γ .fn f (fs++as++cs) hp) K Kp:=by
 simp only[aOp,zcy,zaT]
 cases Γ .fn f (fs++as++cs) hp with
 |none=>rfl
 |some r=>obtain⟨r,hp'⟩:=r;cases r <;> rfl
def rndK(v:Option (ARes × Heap))(K:AV->Heap->Prop)[Tag K]:Prop:=
 match v with
 |some (.ret v,hp)=>K v hp
 |_=>False
theorem zsd(v:AV)(hp:Heap)(K:AV->Heap->Prop):rndK (some (.ret v,hp)) K=K v hp:=rfl
def zt8(v:Option FuncId)(K:FuncId->Prop)[Tag K]:Prop:=
 match v with
 |some f=>K f
 |none=>False
theorem znY(f:FuncId)(K:FuncId->Prop):zt8 (some f) K=K f:=rfl
theorem zls(f:Nat)(ps:List Nat)(env:List (Nat × AV)):zem (some (.loop f ps env false))=some f:=rfl
theorem zse(q:Nat)(as:List AV):opK (aOp Γ b .call (.yield q::as) hp) K Kp=zt8 (zem hp[q]?) fun f=>rndK (Γ .rnd f (.yield q::as) hp) K:=by
 simp only[aOp,zcy]
 cases zem hp[q]? with
 |none=>rfl
 |some f=>
  simp only[zt8]
  cases Γ .rnd f (.yield q::as) hp with
  |none=>rfl
  |some r=>obtain⟨r,hp'⟩:=r;cases r <;> rfl
def zsf(v:Option (ARes × Heap))(hp:Heap)(K:AV->Heap->Prop)[Tag K]:Prop:=
 match v with
 |some (.ret v,hp')=>if za0 hp' hp=true then K v hp else False
 |_=>False
theorem zsg(s:Sh)(f:FuncId)(as:List AV):opK (aOp Γ b .callh (.pv s (.func (.func f))::as) hp) K Kp=zsf (Γ .fn f as hp) hp K:=by
 simp only[aOp,zgj,zaT,List.nil_append,List.append_nil]
 cases Γ .fn f as hp with
 |none=>rfl
 |some r=>
  obtain⟨r,hp'⟩:=r
  cases r with
  |ret v=>simp only[zsf];cases za0 hp' hp <;> rfl
  |panic v=>rfl
theorem zsh(n:Nat):opK (aOp Γ b (.calln n) vs hp) K Kp=opK (aOp Γ b .call (vs.drop n) hp) (fun v hp'=>(vs.take n).all (zco hp hp')=true/\K v hp') Kp:=by
 simp only[aOp,zhv]
 cases zcy Γ hp (vs.drop n) with
 |none=>rfl
 |some r=>
  cases r with
  |val v hp'=>
   simp only[opK]
   split
   ·rename_i h;split at h
    ·cases h;simp[*]
    ·cases h
   ·rename_i h;split at h <;> cases h
   ·rename_i h;split at h
    ·cases h
    ·simp[*]
  |panic v hp'=>rfl
def zt9(v:Option (List (Sh × PV)))(K:List (Sh × PV)->Prop)[Tag K]:Prop:=
 match v with
 |some l=>K l
 |none=>False
theorem zsi(s:Sh)(f:FuncId)(as:List AV):opK (aOp Γ b .callp (.pv s (.func (.func f))::as) hp) K Kp=zt9 (zaG as) (fun ps=>zln (Γ .fn f (zbk as (pvs ps)) []) (fun v H=>valK (v.alone H) fun v'=>K v' hp) (fun _ _=>False)):=by
 simp only[aOp,zgl]
 cases zaG as with
 |none=>rfl
 |some ps=>
  simp only[zt9]
  cases Γ .fn f (zbk as (pvs ps)) [] with
  |none=>rfl
  |some r=>
   obtain⟨r,hp'⟩:=r
   cases r with
   |ret v=>simp only[zln];cases v.alone hp' <;> rfl
   |panic v=>rfl
theorem zsj(s s':Sh)(t:TypeId)(p:PV):opK (aOp Γ b .panic [.pv s (.iface t s' p)] hp) K Kp=Kp (.iface t s' p) hp:=rfl
end Go.Am
namespace Go.Am
variable{Γ:Oracle} {Λ:zak} {b:Nat} {hp:Heap} {vs:List AV} {K:AV->Heap->Prop} {Kp:PV->Heap->Prop}
theorem zlt:opK (aOp Γ b .nilcheck vs hp) K Kp=valK (zcm vs) (fun v=>K v hp):=by
 show opK (match zbb hp (zcm vs) with|some (v,hp')=>some (OpRes.val v hp')|none=>none) K Kp=_
 cases zcm vs <;> rfl
theorem zsk(g:Bool):opK (aOp Γ b (.isnil g) vs hp) K Kp=valK (zfD g vs) (fun v=>K v hp):=by
 show opK (match zbb hp (zfD g vs) with|some (v,hp')=>some (OpRes.val v hp')|none=>none) K Kp=_
 cases zfD g vs <;> rfl
end Go.Am

/- What code comes to: values; calls of functions. -/
namespace Go.Am
variable{Γ:Oracle} {Λ:zak} {b:Nat} {hp:Heap} {K:AV->Prop} {s s':Sh} {sh:Sh} {k:IntKind} {x y:Int}

theorem s_mv(v:AV):sMv [v]=some v:=rfl
theorem zmq(es:List PV):sLen [.pv s (.sl sh es)]=some (.pv none (.int .i64 es.length)):=rfl
theorem zp8(es:List PV):sLen [.tsl sh es]=some (.pv none (.int .i64 es.length)):=rfl
theorem ziH(r v o n:Nat):sLen [.sl sh r v o n]=some (.pv none (.int .i64 n)):=rfl
theorem zva(l:List UInt8):zkM [.pv s (.str l)]=some (.pv none (.int .i64 l.length)):=rfl
theorem zvb(c:Bool)(u v:AV):zkK [.pv s (.bool c),u,v]=some (bif c then u else v):=rfl
theorem zv5(c:Bool):sNot [.pv s (.bool c)]=some (.pv none (.bool !c)):=rfl
theorem zp9(o:BinOp):valK (sBin o [.pv s (.int k x),.pv s' (.int k y)]) K=pvK (zca o k x y) (fun p=>K (.pv none p)):=by
 simp only[sBin,zoF,if_true]
 cases zca o k x y <;> rfl
theorem zqa(o:BinOp)(u v:List UInt8):valK (sBin o [.pv s (.str u),.pv s' (.str v)]) K=pvK (zgf o u v) (fun p=>K (.pv none p)):=by
 simp only[sBin,zoF]
 cases zgf o u v <;> rfl
theorem zv6:zca .add k x y=some (.int k (k.wrap (x+y))):=rfl
theorem zv7:zca .sub k x y=some (.int k (k.wrap (x - y))):=rfl
theorem zv8:zca .mul k x y=some (.int k (k.wrap (x*y))):=rfl
theorem zv9:zca .eql k x y=some (.bool (decide (x=y))):=rfl
theorem zwa:zca .neq k x y=some (.bool (!decide (x=y))):=rfl
theorem zwb:zca .lss k x y=some (.bool (decide (x<y))):=rfl
theorem zwc:zca .leq k x y=some (.bool (decide (x<=y))):=rfl
theorem zwd:zca .gtr k x y=some (.bool (decide (y<x))):=rfl
theorem zwe:zca .geq k x y=some (.bool (decide (y<=x))):=rfl
theorem zvc{u v:List UInt8}:zgf .eql u v=some (.bool (decide (u=v))):=rfl
theorem zvd{u v:List UInt8}:zgf .neq u v=some (.bool (!decide (u=v))):=rfl
theorem zlu(o r o':Nat):zgg o [.ptr r o']=some (.ptr r (o'+o)):=rfl
theorem zal{es:List PV}{i:Nat}{p:PV}(h:es[i]? =some p):za7 sh [.pv s (.sl sh es),.pv s' (.int k i)]=some (.iptr sh p 0):=by
 simp[za7,aindex,h]
theorem zao{r v o n i:Nat}(h:i<n):za7 sh [.sl sh r v o n,.pv s' (.int k i)]=some (.eptr sh r v (o+i) 0):=by
 simp[za7,aindex,h]
theorem zve(k':IntKind):zkL k' [.pv s (.int k x)]=some (.pv none (.int k' (k'.wrap x))):=rfl
theorem zqb(i:Nat)(l:List AV):zc1 i [.tuple l]=l[i]? :=rfl
theorem zqc(fn:Fn)(n:Nat)(v:AV)(l:List AV):zd3 fn n (v::l)=some (.func fn ((v::l).take n) ((v::l).drop n)):=rfl
theorem zvf(p:AV):zhj sh hp [p]=aload sh hp p:=rfl
def ziI(sh:Sh)(off:Nat):Option AObj->Option AV
 |some (.box s v)=>if off=0/\s=sh then some v else AV.part deep v off sh
 |_=>none
theorem zqd(r off:Nat):aload sh hp (.ptr r off)=ziI sh off hp[r]? :=by
 unfold ziI
 simp only[aload]
 split <;> simp_all
theorem zlv(off:Nat)(v:AV):ziI sh off (some (.box s v))=if off=0/\s=sh then some v else AV.part deep v off sh:=rfl
def toAV(sh:Sh):Option PV->Option AV
 |some p=>some (.pv sh p)
 |none=>none
theorem zqe(p:PV):toAV sh (some p)=some (.pv sh p):=rfl
theorem zhS(p:PV)(off:Nat):aload sh hp (.iptr s p off)=if off=0/\s=sh then some (.pv sh p) else toAV sh (PV.part deep p off sh):=by
 simp only[aload,toAV]
 split
 ·rfl
 ·cases PV.part deep p off sh <;> rfl
theorem zua(p:PV)(off:Nat):AV.part deep (.pv s p) off sh=toAV sh (PV.part deep p off sh):=by
 show AV.part (7+1) (.pv s p) off sh=toAV sh (PV.part (7+1) p off sh)
 simp only[AV.part,toAV]
 cases PV.part (7+1) p off sh <;> rfl
theorem zsl(l:List (Sh × PV))(off:Nat):PV.part deep (.agg l) off sh=PV.part.go 7 off sh l:=rfl
theorem zqf(l:List (Sh × AV))(off:Nat):AV.part deep (.agg l) off sh=AV.part.go 7 off sh l:=rfl
theorem zj3(d off:Nat)(p:PV)(r:List (Sh × PV)):PV.part.go d off sh ((s,p)::r)=if off=0/\s=sh then some p else if off<s.size then PV.part d p off sh else PV.part.go d (off - s.size) sh r:=rfl
theorem ziJ(d off:Nat)(p:AV)(r:List (Sh × AV)):AV.part.go d off sh ((s,p)::r)=if off=0/\s=sh then some p else if off<s.size then AV.part d p off sh else AV.part.go d (off - s.size) sh r:=rfl
theorem zqg:Sh.size none=1:=rfl
theorem zcV(n:Nat):Sh.size (some n)=n:=rfl
def endK(rs:List RSlot)(Q:AV->Heap->Prop)[Tag Q]:AExit->St->Prop
 | .normal,st=>match zaw st rs with
  |some v=>Q v st.hp
  |none=>False
 | .ret,st=>match zaw st rs with
  |some v=>Q v st.hp
  |none=>False
 |_,_=>False
theorem zcg(rs:List RSlot)(Q:AV->Heap->Prop)(st:St):endK rs Q .ret st=valK (zaw st rs) (fun v=>Q v st.hp):=by
 show(match zaw st rs with|some v=>Q v st.hp|none=>False)=_
 cases zaw st rs <;> rfl
theorem zbn(rs:List RSlot)(Q:AV->Heap->Prop)(st:St):endK rs Q .normal st=valK (zaw st rs) (fun v=>Q v st.hp):=by
 show(match zaw st rs with|some v=>Q v st.hp|none=>False)=_
 cases zaw st rs <;> rfl
theorem znZ(st:St)(r:Nat):zaw st [(r,none)]=st.fr.look r:=rfl
theorem zlw(st:St)(r:Nat)(sh:Sh):zaw st [(r,some sh)]=(match st.fr.look r with|some p=>aload sh st.hp p|none=>none):=rfl
def tupO:Option (List AV)->Option AV
 |some l=>some (.tuple l)
 |none=>none
theorem zqh(l:List AV):tupO (some l)=some (.tuple l):=rfl
theorem zn0(st:St)(r q:RSlot)(l:List RSlot):zaw st (r::q::l)=tupO (zaX st (r::q::l)):=by
 unfold zaw tupO
 simp only[]
 cases zaX st (r::q::l) <;> rfl
theorem zj4(st:St):zaw st []=some (.tuple []):=rfl
theorem zqi(p:Nat->Bool):(AV.tuple []).refsIn.all p=true:=rfl
theorem ziK(st:St):zaX st []=some []:=rfl
theorem zho(st:St)(r:RSlot)(l:List RSlot):zaX st (r::l)=ztZ (zcB st r) (zaX st l):=rfl
theorem zn1(st:St)(r:Nat):zcB st (r,none)=st.fr.look r:=rfl
theorem zn2(st:St)(r:Nat)(sh:Sh):zcB st (r,some sh)=(match st.fr.look r with|some p=>aload sh st.hp p|none=>none):=rfl
theorem zn3(i:Nat):params i []=[]:=rfl
theorem zlx(i:Nat)(v:AV)(r:List AV):params i (v::r)=(i,v)::params (i+1) r:=rfl

def frozen(v:AV):AV->Heap->Prop:=fun v' hp=>∃hp',v'.freezeRes hp=some (v,hp')
theorem zqj(p:PV)(v:AV):frozen v (.pv s p) hp=(.pv s p=v):=by
 have h:AV.freeze deep (.pv s p) hp=some (p,hp):=rfl
 simp only[frozen,AV.freezeRes,h,AV.shp]
 exact propext ⟨fun⟨_,h⟩=>by cases h;rfl,fun h=>⟨hp,by rw[h]⟩⟩
theorem zab:∀(ps:List (Sh × PV)),zan (pvs ps) hp=some (ps,hp)
 |[]=>rfl
 |(sh,p)::r=>by
  have h:AV.freeze deep (.pv sh p) hp=some (p,hp):=rfl
  show zan (.pv sh p::pvs r) hp=_
  simp only[zan,h,zab r,AV.shp]

variable{F:FuncId->Option AFn} {prim:FuncId->Option zba}
theorem zai{f:FuncId}{fn:AFn}{args:List AV}{ps:List (Sh × PV)}{hp:Heap}{v:AV}(hp0:prim f=none)(hf:F f=some fn)(hm:fn.heapMode=false)(hz:zan args hp=some (ps,hp))(hn:(pvs ps).length=fn.nparams)
  (h:W (sem F prim) (sloop F prim) 0 fn.code ⟨params 0 (pvs ps),[]⟩ (endK fn.results (frozen v)))(hr:fn.rcv=none:=by rfl)(hmo:fn.more=[]:=by rfl):sem F prim .fn f args hp=some (.ret v,hp):=by
 rw[zd0]
 unfold za8
 rw[hp0,hf]
 simp only[hr,hmo,Option.isSome_none,hm,Bool.false_eq_true,if_false,hz,abody,hn,ne_eq,not_true_eq_false]
 unfold W at h
 split at h
 ·rename_i e st' he
  have hl:([]:Heap).length=0:=rfl
  rw[hl,he]
  cases e with
  |normal=>
   rw[zbn] at h
   cases hr:zaw st' fn.results with
   |none=>rw[hr] at h;exact h.elim
   |some u=>
    rw[hr] at h
    obtain⟨hp',h⟩:=h
    simp only[hr,h]
    cases v.scalar <;> rfl
  |ret=>
   rw[zcg] at h
   cases hr:zaw st' fn.results with
   |none=>rw[hr] at h;exact h.elim
   |some u=>
    rw[hr] at h
    obtain⟨hp',h⟩:=h
    simp only[hr,h]
    cases v.scalar <;> rfl
  |exit i=>exact h.elim
  |panic v=>exact h.elim
 ·exact h.elim
theorem zmr{c:ACode}{st:St}{Q Q':AExit->St->Prop}(h:W Γ Λ b c st Q)(hq:∀e st',Q e st'->Q' e st'):W Γ Λ b c st Q':=by
 unfold W at h ⊢
 split at h
 ·exact hq _ _ h
 ·exact h.elim
theorem za9(I:Nat->St->Prop){b:Nat}{keep:List Nat}{c:ACode}{st:St}{Q:AExit->St->Prop}{n:Nat}(h0:I n ⟨st.fr.keep keep,st.hp⟩)
  (h:∀n st1,I n st1->W (sem F prim) (sloop F prim) b c st1 (fun e st'=>match e with
   | .normal=>∃m,m<n/\I m ⟨st'.fr.keep keep,collect st.hp.length b (st'.fr.keep keep) st'.hp⟩
   |e=>Q e st')):W (sem F prim) (sloop F prim) b (.loop keep c) st Q:=by
 unfold W
 simp only[aexec]
 have key:∀n st1,I n st1->match sloop F prim b st.hp.length keep c st1 with|some (e,st')=>Q e st'|none=>False:=by
  intro n
  induction n using Nat.strongRecOn with
  |_ n ih=>
   intro st1 hI
   have hw:=h n st1 hI
   unfold W at hw
   rw[zmn]
   split at hw
   ·rename_i e st' he
    rw[he]
    cases e with
    |normal=>
     obtain⟨m,hm,hI'⟩:=hw
     exact ih m hm _ hI'
    |exit i=>exact hw
    |ret=>exact hw
    |panic v=>exact hw
   ·exact hw.elim
 exact key n _ h0
end Go.Am
namespace Go.Am
variable{Γ:Oracle} {Λ:zak} {b:Nat} {hp:Heap} {K:AV->Heap->Prop} {s s':Sh} {sh:Sh} {k:IntKind} {x y:Int}
theorem zub:Am.pvs []=[]:=rfl
theorem zsm(s:Sh)(p:PV)(r:List (Sh × PV)):Am.pvs ((s,p)::r)=.pv s p::Am.pvs r:=rfl
theorem zdx{α:Type}(l:List α)(x y:α):(l++[x]).set l.length y=l++[y]:=by
 rw[List.set_append_right _ _ (Nat.le_refl _)]
 simp
theorem zn4(p:PV):zcn sh (.pv sh p) hp []=some (.ptr hp.length 0,hp++[.box sh (.pv sh p)]):=by
 simp only[zcn,AV.plain,AV.shp,and_self,if_true,AV.own,zdx]
theorem zsn(p:PV):wBox sh hp [.pv sh p]=some (.ptr hp.length 0,hp++[.box sh (.pv sh p)]):=by
 simp only[wBox,AV.plain,AV.shp,and_self,if_true,AV.own,zdx]
def ztl(sh:Sh)(n:Nat):List (Sh × AV) × Heap->Option (AV × Heap)
 |(l,hp)=>some (.ptr n 0,hp.set n (.box sh (.agg l)))
theorem zqk(n:Nat)(l:List (Sh × AV)):ztl sh n (l,hp)=some (.ptr n 0,hp.set n (.box sh (.agg l))):=rfl
theorem zly(l:List (Sh × AV)):zcn sh (.agg l) hp []=if some (total l)=sh then ztl sh hp.length (zas l (hp++[.box sh (.agg l)])) else none:=by
 simp only[zcn,AV.plain,AV.shp,true_and,AV.own]
 rfl
theorem zuc:zas [] hp=([],hp):=rfl
def zda(x:Sh × AV):List (Sh × AV) × Heap->List (Sh × AV) × Heap
 |(l,hp)=>(x::l,hp)
theorem zn5(u:Sh × AV)(l:List (Sh × AV)):zda u (l,hp)=(u::l,hp):=rfl
theorem zj5(r:List (Sh × AV)):zas ((s,.tsl sh [])::r) hp=if 0<sh.size then zda (s,.sl sh hp.length 0 0 0) (zas r (hp++[.arr sh [] false])) else zda (s,.tsl sh []) (zas r hp):=rfl
theorem zlz(p:PV)(r:List (Sh × AV)):zas ((s,.pv s' p)::r) hp=zda (s,.pv s' p) (zas r hp):=rfl
theorem zj6(p:List (Sh × AV))(r:List (Sh × AV)):zas ((s,.agg p)::r) hp=zda (s,.agg p) (zas r hp):=rfl
theorem zql:total ([]:List (Sh × AV))=0:=rfl
theorem zn6(v:AV)(r:List (Sh × AV)):total ((s,v)::r)=s.size+total r:=rfl
def boxK(o:Option AObj)(K:Sh->AV->Prop)[Tag K]:Prop:=
 match o with
 |some (.box s v)=>K s v
 |_=>False
theorem zso(v:AV)(K:Sh->AV->Prop):boxK (some (.box s v)) K=K s v:=rfl
theorem zn7(r off:Nat)(p:PV):zbN (zaF sh b hp [.ptr r off,.pv sh p]) K=boxK hp[r]? fun s old=>if off=0/\s=sh then K .undef (hp.set r (.box s (.pv sh p))) else
  valK (AV.upd deep old off sh (.pv sh p)) fun new=>K .undef (hp.set r (.box s new)):=by
 simp only[zaF,astore,AV.plain,AV.shp,AV.own,AV.refsIn,List.all_nil]
 cases hp[r]? with
 |none=>rfl
 |some o=>
  cases o with
  |box s old=>
   simp only[boxK]
   by_cases h1:off=0/\s=sh
   ·obtain⟨h1,h2⟩:=h1
    subst h1;subst h2
    by_cases hb:b<=r <;> simp[hb,zbN]
   ·cases hu:AV.upd deep old off sh (.pv sh p) with
    |none=>by_cases hb:b<=r <;> simp[hb,h1,zbN,valK]
    |some new=>by_cases hb:b<=r <;> simp[hb,h1,zbN,valK]
  |arr s es fz=>rfl
  |map s es=>rfl
  |loop f ps env bz=>rfl
theorem zj7{r:Nat}(h:b<=r)(fn:Fn)(fs cs:List AV):zbN (zaF none b hp [.ptr r 0,.func fn fs cs]) K=boxK hp[r]? fun s old=>if s=none then K .undef (hp.set r (.box s (.func fn fs cs))) else valK (AV.upd deep old 0 none (.func fn fs cs)) fun new=>K .undef (hp.set r (.box s new)):=by
 simp only[zaF,astore,AV.plain,AV.shp,AV.own]
 cases hp[r]? with
 |none=>rfl
 |some o=>
  cases o with
  |box s old=>
   simp only[boxK,if_pos h]
   by_cases h1:s=none
   ·subst h1
    simp[zbN]
   ·cases hu:AV.upd deep old 0 none (.func fn fs cs) with
    |none=>simp[h1,zbN,valK]
    |some new=>simp[h1,zbN,valK]
  |arr s es fz=>rfl
  |map s es=>rfl
  |loop f ps env bz=>rfl
theorem zaY(h:0<sh.size):zcb sh hp=some (.sl sh hp.length 0 0 0,hp++[.arr sh [] false]):=by
 simp[zcb,h]
def zlA(r:List Nat)(st:St)(q:Nat):Option AObj->Option St
 |some (.box sh v)=>match AV.freeze deep v st.hp with
  |some (p,hp')=>settle r ⟨st.fr,hp'.set q (.box sh (.pv sh p))⟩
  |none=>none
 |_=>settle r st
def zcO(s:Nat)(r:List Nat)(st:St):Option AV->Option St
 |some (.ptr q _)=>zlA r st q st.hp[q]?
 |some (.sl s' q ver off len)=>match AV.freeze deep (.sl s' q ver off len) st.hp with
   |some (p,hp')=>settle r ⟨(s,.pv none p)::st.fr,hp'⟩
   |none=>none
 |some (.tsl sh es)=>settle r ⟨(s,.pv none (.sl sh es))::st.fr,st.hp⟩
 |_=>settle r st
theorem zn8(st:St):settle [] st=some st:=rfl
theorem zlB(s:Nat)(r:List Nat)(st:St):settle (s::r) st=zcO s r st (st.fr.look s):=by
 simp only[settle]
 cases st.fr.look s with
 |none=>rfl
 |some v=>
  cases v with
  |ptr q o=>
   simp only[zcO]
   cases st.hp[q]? with
   |none=>rfl
   |some o=>cases o <;> rfl
  |_=>rfl
theorem zlC(s:Nat)(r:List Nat)(st:St)(q o:Nat):zcO s r st (some (.ptr q o))=zlA r st q st.hp[q]? :=rfl
theorem zn9(s:Nat)(r:List Nat)(st:St)(sh:Sh)(p:PV):zcO s r st (some (.pv sh p))=settle r st:=rfl
theorem zoa(r:List Nat)(st:St)(q:Nat)(sh s:Sh)(p:PV):zlA r st q (some (.box sh (.pv s p)))=settle r ⟨st.fr,st.hp.set q (.box sh (.pv sh p))⟩:=rfl
def setK(v:Option St)(K:St->Prop)[Tag K]:Prop:=
 match v with
 |some st=>K st
 |none=>False
theorem zqm(st:St)(K:St->Prop):setK (some st) K=K st:=rfl
theorem W_settle'{Γ:Oracle}{Λ:zak}{b:Nat}{st:St}{Q:AExit->St->Prop}(l:List Nat):W Γ Λ b (.settle l) st Q=setK (settle l st) (fun st'=>Q .normal st'):=by
 rw[zrT]
 cases settle l st <;> rfl
def zud(x:Sh × PV):Option (List (Sh × PV))->Option (List (Sh × PV))
 |some l=>some (x::l)
 |none=>none
theorem zob(x:Sh × PV)(l:List (Sh × PV)):zud x (some l)=some (x::l):=rfl
theorem zsp:zaG []=some []:=rfl
theorem zue(s:Sh)(p:PV)(r:List AV):zaG (.pv s p::r)=zud (s,p) (zaG r):=by
 have h:AV.weaken deep (.pv s p)=some p:=rfl
 simp only[zaG,h,AV.shp]
 cases zaG r <;> rfl
theorem zsq(s:Sh)(es:List PV)(r:List AV):zaG (.tsl s es::r)=zud (none,.sl s es) (zaG r):=by
 have h:AV.weaken deep (.tsl s es)=some (.sl s es):=rfl
 simp only[zaG,h,AV.shp]
 cases zaG r <;> rfl
theorem zoc(l:List (Sh × PV))(K:List (Sh × PV)->Prop):zt9 (some l) K=K l:=rfl
theorem zsr(s:Sh)(p:PV)(H:Heap):AV.alone (.pv s p) H=some (.pv s p):=rfl
theorem zvg(q:List AV):zbk [] q=q:=by cases q <;> rfl
theorem zwf(s:Sh)(p:PV)(r q:List AV)(x:AV):zbk (.pv s p::r) (x::q)=x::zbk r q:=rfl
theorem zvh(s:Sh)(a:PV)(l:List PV)(r q:List AV)(x:AV):zbk (.tsl s (a::l)::r) (x::q)=x::zbk r q:=rfl
theorem zvi(s:Sh)(r q:List AV)(x:AV):zbk (.tsl s []::r) (x::q)=.tsl s []::zbk r q:=rfl
def zvj(x:Sh × PV):Option (List (Sh × PV) × Heap)->Option (List (Sh × PV) × Heap)
 |some (l,hp)=>some (x::l,hp)
 |none=>none
theorem zod(x:Sh × PV)(l:List (Sh × PV))(hp:Heap):zvj x (some (l,hp))=some (x::l,hp):=rfl
theorem ziL(hp:Heap):zan [] hp=some ([],hp):=rfl
theorem zj8(s:Sh)(p:PV)(r:List AV)(hp:Heap):zan (.pv s p::r) hp=zvj (s,p) (zan r hp):=by
 have h:AV.freeze deep (.pv s p) hp=some (p,hp):=rfl
 simp only[zan,h,AV.shp]
 cases zan r hp with
 |none=>rfl
 |some x=>rfl
def bslO(sh:Sh):Option (List PV)->Heap->Option (AV × Heap)
 |some es,hp=>some (.tsl sh es,hp)
 |none,_=>none
def bslZ(sh:Sh):Option (List (Sh × PV) × Heap)->Option (AV × Heap)
 |some (ps,hp)=>bslO sh (za2 sh ps) hp
 |none=>none
theorem zss(sh:Sh)(hp:Heap)(vs:List AV):zbd sh hp vs=bslZ sh (zan vs hp):=by
 unfold zbd bslZ
 cases zan vs hp with
 |none=>rfl
 |some x=>
  obtain⟨ps,hp'⟩:=x
  simp only[]
  cases za2 sh ps <;> rfl
theorem zqn(sh:Sh)(ps:List (Sh × PV))(hp:Heap):bslZ sh (some (ps,hp))=bslO sh (za2 sh ps) hp:=rfl
theorem zqo(sh:Sh)(es:List PV)(hp:Heap):bslO sh (some es) hp=some (.tsl sh es,hp):=rfl
def zvk(p:PV):Option (List PV)->Option (List PV)
 |some l=>some (p::l)
 |none=>none
theorem zoe(p:PV)(l:List PV):zvk p (some l)=some (p::l):=rfl
theorem zlD(sh:Sh):za2 sh []=some []:=rfl
theorem zj9(sh s:Sh)(p:PV)(r:List (Sh × PV)):za2 sh ((s,p)::r)=if s=sh then zvk p (za2 sh r) else none:=by
 simp only[za2]
 split
 ·cases za2 sh r <;> rfl
 ·rfl
def bslQ(sh:Sh):Option (List PV)->Option AV
 |some es=>some (.tsl sh es)
 |none=>none
theorem zqp(sh:Sh)(es:List PV):bslQ sh (some es)=some (.tsl sh es):=rfl
def bslP(sh:Sh):Option (List (Sh × PV))->Option AV
 |some ps=>bslQ sh (za2 sh ps)
 |none=>none
theorem zqq(sh:Sh)(ps:List (Sh × PV)):bslP sh (some ps)=bslQ sh (za2 sh ps):=rfl
theorem zqr(sh:Sh)(vs:List AV):zcz sh vs=bslP sh (zaG vs):=by
 unfold zcz bslP
 cases zaG vs with
 |none=>rfl
 |some ps=>simp only[];cases za2 sh ps <;> rfl
def zqs(sh:Sh)(n:Nat):Option AObj->Prop
 |some (.arr s es false)=>s=sh/\es.length=n
 |_=>False
def zms(n:Nat):Option AObj->Prop
 |some (.arr _ es _)=>es.length=n
 |_=>False
def zlE:Option AObj->List PV
 |some (.arr _ es _)=>es
 |_=>[]
def zuf:Option AObj->Sh
 |some (.arr s _ _)=>s
 |_=>none
theorem zqt{sh s:Sh}{n:Nat}(es:List PV):zqs sh n (some (.arr s es false))=(s=sh/\es.length=n):=rfl
theorem zof{s:Sh}{n:Nat}{fz:Bool}(es:List PV):zms n (some (.arr s es fz))=(es.length=n):=rfl
theorem zqu{s:Sh}{fz:Bool}(es:List PV):zlE (some (.arr s es fz))=es:=rfl
theorem zqv{s:Sh}{fz:Bool}(es:List PV):zuf (some (.arr s es fz))=s:=rfl
theorem zmt{sh:Sh}{n:Nat}{o:Option AObj}(h:zqs sh n o):∃es,o=some (.arr sh es false)/\es.length=n:=by
 unfold zqs at h
 split at h
 ·obtain⟨rfl,h⟩:=h;exact⟨_,rfl,h⟩
 ·exact h.elim
theorem zqw{n:Nat}{o:Option AObj}(h:zms n o):∃sh es fz,o=some (.arr sh es fz)/\es.length=n:=by
 unfold zms at h
 split at h
 ·exact⟨_,_,_,rfl,h⟩
 ·exact h.elim
theorem zka{sh s:Sh}{hp:Heap}{r n:Nat}{new:List PV}(h:zqs sh n hp[r]?)(h2:n+new.length<=lim):zaM sh hp [.sl s r n 0 n,.tsl sh new]=some (.sl sh r (n+new.length) 0 (n+new.length),hp.set r (.arr sh (zlE hp[r]? ++new) false)):=by
 obtain⟨es,ho,rfl⟩:=zmt h
 simp[zaM,aappend,elems,ho,h2,zlE]
theorem zf8{x:Int}(h:0<=x)(h':x<18446744073709551616):IntKind.u64.wrap x=x:=by
 simp[IntKind.wrap,IntKind.signed,IntKind.bits]
 omega
def zug(sh:Sh):Option AObj->Prop
 |some (.box s _)=>s=sh
 |_=>False
theorem zqx(sh s:Sh)(v:AV):zug sh (some (.box s v))=(s=sh):=rfl
def ziM(r:Nat)(sh:Sh):List (Sh × AV) × Heap->Option (AV × Heap)
 |(l,hp1)=>some (.undef,hp1.set r (.box sh (.agg l)))
theorem zlF(r:Nat)(sh:Sh)(l:List (Sh × AV))(hp1:Heap):ziM r sh (l,hp1)=some (.undef,hp1.set r (.box sh (.agg l))):=rfl
theorem zae{b r:Nat}{sh:Sh}{hp:Heap}(h:b<=r)(l:List (Sh × AV))(hs:some (total l)=sh)(ho:zug sh hp[r]?):zaF sh b hp [.ptr r 0,.agg l]=ziM r sh (zas l hp):=by
 cases ho':hp[r]? with
 |none=>rw[ho'] at ho;exact ho.elim
 |some o=>
  rw[ho'] at ho
  cases o with
  |box s old=>
   simp only[zug] at ho
   subst ho
   simp only[zaF,astore,ho',AV.plain,AV.shp,AV.own,hs,if_pos h]
   cases zas l hp with
   |mk l' hp'=>simp[ziM]
  |arr s es fz=>exact ho.elim
  |map s es=>exact ho.elim
  |loop f ps env bz=>exact ho.elim
theorem zaW{b r:Nat}{s':Sh}{hp:Heap}{K:AV->Heap->Prop}{q v o n off:Nat}(h:b<=r):zbN (zaF none b hp [.ptr r off,.sl s' q v o n]) K=boxK hp[r]? fun s old=>if off=0/\s=none then K .undef (hp.set r (.box s (.sl s' q v o n))) else
  valK (AV.upd deep old off none (.sl s' q v o n)) fun new=>K .undef (hp.set r (.box s new)):=by
 simp only[zaF,astore,AV.plain,AV.shp,AV.own]
 cases hp[r]? with
 |none=>rfl
 |some ob=>
  cases ob with
  |box s old=>
   simp only[boxK,if_pos h]
   by_cases h1:off=0/\s=none
   ·obtain⟨h1,h2⟩:=h1
    subst h1;subst h2
    simp[zbN]
   ·cases hu:AV.upd deep old off none (.sl s' q v o n) with
    |none=>simp[h1,zbN,valK]
    |some new=>simp[h1,zbN,valK]
  |arr s es fz=>rfl
  |map s es=>rfl
  |loop f ps env bz=>rfl
def updO:Option (List (Sh × AV))->Option AV
 |some l=>some (AV.ofComps l)
 |none=>none
theorem zqy(l:List (Sh × AV)):updO (some l)=some (AV.ofComps l):=rfl
theorem zuh(l:List (Sh × AV))(off:Nat)(sh:Sh)(x:AV):AV.upd deep (.agg l) off sh x=updO (AV.updGo (fun p o=>AV.upd 7 p o sh x) sh x off l):=by
 show AV.upd (7+1) (.agg l) off sh x=_
 simp only[AV.upd,AV.comps]
 cases AV.updGo (fun p o=>AV.upd 7 p o sh x) sh x off l <;> rfl
def zvl(s:Sh)(p:AV):Option (List (Sh × AV))->Option (List (Sh × AV))
 |some l=>some ((s,p)::l)
 |none=>none
theorem zog(s:Sh)(p:AV)(l:List (Sh × AV)):zvl s p (some l)=some ((s,p)::l):=rfl
theorem zoh(f:AV->Nat->Option AV)(sh:Sh)(v:AV)(off:Nat)(s:Sh)(p:AV)(r:List (Sh × AV)):AV.updGo f sh v off ((s,p)::r)=if off=0/\s=sh then some ((s,v)::r) else if off<s.size then(match f p off with|some p'=>some ((s,p')::r)|none=>none) else zvl s p (AV.updGo f sh v (off - s.size) r):=by
 simp only[AV.updGo]
 split
 ·rfl
 ·split
  ·rfl
  ·cases AV.updGo f sh v (off - s.size) r <;> rfl
end Go.Am

/- (empty) -/

/- The steps, as one set. -/
namespace Go.Am
attribute [go_sem] zu1 zu2 zv0 zu3 zu4 ztX zrU zv1 zu5 ztY zv2 zv3 zrV zpS zrW zrX zrY zpT znM zpU znN zlo zpV znO zrZ znP zpW zlp zr0 zpX znQ znR zlq zpY zr1 znS ziG zlr znT zpZ zr2 zv4 zu6 zt1 zt2 zu7 zu8 zr3 znU zr4 zr5 zp0 zr6 zp1 zt3 znV znW zp2 zt4 zp3 zt5 zr7 zr8 zu9 zp4 zr9 znX zp5 zsa zp6 zsb zt7 zsc zsi zsj s_mv zmq zp8 ziH zva zvb zv5 zp9 zqa zv6 zv7 zv8 zv9 zwa zwb zwc zwd zwe zvc zvd zlu zve zqb zqc zvf zqd zlv zqe zhS zua zsl zqf zj3 ziJ zqg zcV zcg zbn znZ zn0 ziK zho zn1 zn3 zlx zqh zj4 zqi zqj zn4 zsn zuc zn5 zj5 zlz zj6 zly zqk zql zn6 zso zn7 W_settle' zqm zn8 zlB zlC zn9 zoa zob zsp zue zsq zoc zsr zvg zwf zvh zvi zod ziL zj8 zss zqn zqo zoe zlD zj9 zqr zqp zqq zqt zof zqu zqv zka zlF zqx zqy zuh zog zoh zlw if_true if_false true_and and_true false_and and_false and_self Nat.zero_add Nat.add_zero eq_self Bool.true_eq_false Bool.false_eq_true cond_true cond_false decide_eq_true_eq Bool.not_eq_true' Bool.not_eq_false' decide_eq_false_iff_not not_true_eq_false not_false_eq_true Bool.true_and Bool.false_and Bool.and_true Bool.and_false Bool.not_true Bool.not_false Option.some.injEq decide_true decide_false List.getElem?_cons_zero List.getElem?_cons_succ List.length_cons List.length_nil List.nil_append List.cons_append List.set_cons_zero List.set_cons_succ List.take_zero List.drop_zero zsm zub zse zsg zsh zp7 zt6 zlt zsk zsd znY zls
end Go.Am

/- Terms: sizes, valid ones; how their parts are read. -/
namespace Go.Am
mutual
def Tm.size:Tm->Nat
 | .mk _ _ _ as=>1+Tm.sizes as
def Tm.sizes:List Tm->Nat
 |[]=>0
 |t::r=>t.size+Tm.sizes r
end
theorem Tm.size_eq(t:Tm):t.size=1+Tm.sizes t.args:=by cases t;simp[Tm.size,Tm.args]
theorem Tm.size_pos(t:Tm):0<t.size:=by rw[Tm.size_eq];omega
theorem Tm.zwx:∀{l:List Tm} {t:Tm},t∈l->t.size<=Tm.sizes l
 |x::r,t,h=>by
  simp only[Tm.sizes]
  rcases List.mem_cons.1 h with rfl|h
  ·omega
  ·have:=Tm.zwx h;omega
theorem Tm.zwF(l r:List Tm):Tm.sizes (l++r)=Tm.sizes l+Tm.sizes r:=by
 induction l with
 |nil=>simp[Tm.sizes]
 |cons x l ih=>simp only[List.cons_append,Tm.sizes,ih];omega
theorem Tm.zwp(l:List Tm):l.length<=Tm.sizes l:=by
 induction l with
 |nil=>simp
 |cons x l ih=>have:=x.size_pos;simp only[List.length_cons,Tm.sizes];omega
theorem Tm.zwz{l:List Tm}{i:Nat}{t:Tm}(h:l[i]? =some t):Tm.sizes (l.take (i+1))=Tm.sizes (l.take i)+t.size:=by
 rw[List.take_add_one,h,Tm.zwF]
 simp[Tm.sizes]
theorem Tm.zwv(l:List Tm)(i:Nat):Tm.sizes (l.take i)<=Tm.sizes l:=by
 have h:=Tm.zwF (l.take i) (l.drop i)
 rw[List.take_append_drop] at h
 omega
theorem Tm.zwr{t u:Tm}(h:u∈t.args):u.size<t.size:=by
 have:=Tm.zwx h
 rw[t.size_eq]
 omega
theorem Tm.zwq{P:Tm->Prop}(h:∀t:Tm,(∀u∈t.args,P u)->P t)(t:Tm):P t:=by
 have:∀n (t:Tm),t.size<=n->P t:=by
  intro n
  induction n with
  |zero=>intro t ht;have:=t.size_pos;omega
  |succ n ih=>exact fun t ht=>h t fun u hu=>ih u (by have:=Tm.zwr hu;omega)
 exact this _ t (Nat.le_refl _)
theorem Tm.zwB(l:List Tm):Tm.pvs l=l.map Tm.pv:=by
 induction l with
 |nil=>rfl
 |cons x l ih=>simp[Tm.pvs,ih]
theorem Tm.pvs_get{l:List Tm}{i:Nat}{t:Tm}(h:l[i]? =some t):(Tm.pvs l)[i]? =some t.pv:=by simp[Tm.zwB,h]
theorem Tm.pvs_len(l:List Tm):(Tm.pvs l).length=l.length:=by simp[Tm.zwB]
theorem Tm.zww(l r:List Tm):Tm.pvs (l++r)=Tm.pvs l++Tm.pvs r:=by simp[Tm.zwB]
theorem Tm.zwt{l:List Tm}{i:Nat}{t:Tm}(h:l[i]? =some t):Tm.pvs (l.take i)++[t.pv]=Tm.pvs (l.take (i+1)):=by
 rw[List.take_add_one,h,Tm.zww]
 rfl
theorem Tm.zwX(l:List Tm)(i:Nat):(Tm.pvs l).take i=Tm.pvs (l.take i):=by simp[Tm.zwB]
theorem zar(t:Tm):PV.part deep t.pv 0 none=some (.int .i64 t.kind):=by cases t;rfl
theorem zbt(t:Tm):PV.part deep t.pv 1 none=some (.int .i64 t.n):=by cases t;rfl
theorem zap(t:Tm):PV.part deep t.pv 2 none=some (.str t.name):=by cases t;rfl
theorem zac(t:Tm):PV.part deep t.pv 3 none=some (.sl (some 4) (Tm.pvs t.args)):=by cases t;rfl
theorem zaq{x:Int}(h: -9223372036854775808<=x)(h':x<9223372036854775808):IntKind.i64.wrap x=x:=by
 rw[IntKind.wrap_i64]
 omega
end Go.Am
namespace Go.Am
def Tm.node(t:Tm):Bool:=
 if t.kind=0 then decide (0<=t.n) && decide (t.n<=1099511627776) && decide (t.name=[]) && decide ((t.args.length:Int)=0)
 else if t.kind=1 then decide (t.name=[]) && decide ((t.args.length:Int)=0)
 else if t.kind=2 then decide (t.n=0) && decide ((t.name.length:Int)<=100) && decide ((t.args.length:Int)=0)
 else if t.kind=3 then decide (t.n=0) && decide ((t.name.length:Int)<=100) && decide (0<(t.args.length:Int)) && decide ((t.args.length:Int)<=8)
 else false
mutual
def Tm.fits:Tm->Bool
 | .mk k n s as=>Tm.node (.mk k n s as) && Tm.fitsAll as
def Tm.fitsAll:List Tm->Bool
 |[]=>true
 |t::r=>t.fits && Tm.fitsAll r
end
theorem Tm.zwy(t:Tm):t.fits=(t.node && Tm.fitsAll t.args):=by cases t;simp[Tm.fits,Tm.args]
theorem Tm.fitsAll_iff{l:List Tm}:Tm.fitsAll l=true↔∀t∈l,t.fits=true:=by
 induction l with
 |nil=>simp[Tm.fitsAll]
 |cons x l ih=>simp[Tm.fitsAll,ih]
theorem Tm.zwC(l r:List Tm):Tm.fitsAll (l++r)=(Tm.fitsAll l && Tm.fitsAll r):=by
 induction l with
 |nil=>simp[Tm.fitsAll]
 |cons x l ih=>simp[Tm.fitsAll,ih,Bool.and_assoc]
theorem Tm.zwG{l:List Tm}{i:Nat}{t:Tm}(h:l[i]? =some t):Tm.fitsAll (l.take (i+1))=(Tm.fitsAll (l.take i) && t.fits):=by
 rw[List.take_add_one,h,Tm.zwC]
 simp[Tm.fitsAll]
theorem Tm.zws{t u:Tm}(h:t.fits=true)(hu:u∈t.args):u.fits=true:=by
 rw[Tm.zwy,Bool.and_eq_true] at h
 exact Tm.fitsAll_iff.1 h.2 u hu
def Tm.valid(t:Tm):Bool:=decide (t.size<=2000) && t.fits
end Go.Am

/- Functions that run on their caller's heap; loops' heaps. -/
namespace Go.Am
variable{F:FuncId->Option AFn} {prim:FuncId->Option zba}
theorem zaD{f:FuncId}{fn:AFn}{args:List AV}{hp hp':Heap}{v:AV}(hp0:prim f=none)(hf:F f=some fn)(hm:fn.heapMode=true)(hn:args.length=fn.nparams)
  (h:W (sem F prim) (sloop F prim) hp.length fn.code ⟨params 0 args,hp⟩ (endK fn.results (fun v' h'=>v'=v/\(if v.refsIn.all (fun q=>decide (q<hp.length))=true then h'.take hp.length else h')=hp')))(hr:fn.rcv=none:=by rfl)(hmo:fn.more=[]:=by rfl):sem F prim .fn f args hp=some (.ret v,hp'):=by
 rw[zd0]
 unfold za8
 rw[hp0,hf]
 simp only[hr,hmo,Option.isSome_none,Bool.false_eq_true,if_false,hm,if_true,abody,hn,ne_eq,not_true_eq_false,if_false]
 unfold W at h
 split at h
 ·rename_i e st' he
  rw[he]
  cases e with
  |normal=>
   rw[zbn] at h
   cases hr:zaw st' fn.results with
   |none=>rw[hr] at h;exact h.elim
   |some u=>
    rw[hr] at h
    obtain⟨h1,h2⟩:=h
    simp only[hr,h1,h2]
  |ret=>
   rw[zcg] at h
   cases hr:zaw st' fn.results with
   |none=>rw[hr] at h;exact h.elim
   |some u=>
    rw[hr] at h
    obtain⟨h1,h2⟩:=h
    simp only[hr,h1,h2]
  |exit i=>exact h.elim
  |panic v=>exact h.elim
 ·exact h.elim
theorem zav{n b:Nat}{fr:Fr}{hp:Heap}(h:hp.length=n):collect n b fr hp=hp:=by
 unfold collect
 split
 ·rw[<-h,List.take_length]
 ·rfl
theorem zb8{α:Type}{l r:List α}{i:Nat}(h:i<l.length):(l++r)[i]? =l[i]? :=List.getElem?_append_left h
theorem zst{α:Type}(l:List α)(x:α):(l++[x])[l.length]? =some x:=by simp
theorem zgR{α:Type}{l r:List α}{i:Nat}(h:i<l.length)(x:α):(l++r).set i x=l.set i x++r:=by rw[List.set_append_left _ _ h]
theorem zbG{α:Type}{l:List α}{i:Nat}{x:α}(h:l[i]? =some x):i<l.length:=(List.getElem?_eq_some_iff.1 h).1
end Go.Am
namespace Go.Am
variable{Γ:Oracle} {Λ:zak} {b:Nat}
theorem zui{x y:ACode}{st:St}{Q:AExit->St->Prop}(R:St->Prop)(h1:W Γ Λ b x st (seqK R Q))(h2:∀st',R st'->W Γ Λ b y st' Q):W Γ Λ b (.seq x y) st Q:=by
 rw[zu3]
 refine zmr h1 fun e st' h=> ?_
 cases e with
 |normal=>exact h2 st' h
 |_=>exact h
end Go.Am

namespace Go.Am
theorem zkb{b:Nat}{fr:Fr}(x:AObj):collect 1 b fr [x]=[x]:=zav rfl
theorem zkc{b:Nat}{fr:Fr}(x y:AObj):collect 2 b fr [x,y]=[x,y]:=zav rfl
theorem zkd{b:Nat}{fr:Fr}(x y z:AObj):collect 3 b fr [x,y,z]=[x,y,z]:=zav rfl
theorem zke{b:Nat}{fr:Fr}:collect 0 b fr []=[]:=zav rfl
theorem zsu{F:FuncId->Option AFn}{prim:FuncId->Option zba}{f:FuncId}{p:zba}(h:prim f=some p)(as:List AV)(hp:Heap):sem F prim .fn f as hp=p f as hp:=by
 rw[zd0]
 unfold za8
 rw[h]
theorem zdy{r o n:Nat}{x:Int}{k:IntKind}{s:Sh}(sh:Sh)(h:0<=x/\x<n):zb3 sh n [.ptr r o,.pv s (.int k x)]=some (.ptr r (o+x.toNat*sh.size)):=by
 simp[zb3,h]
def cmpI(x y:Int):Int:=if x<y then -1 else if y<x then 1 else 0
def zcP(x y:Int):Int:=if x=0 then y else x
mutual
def Tm.cmp:Tm->Tm->Int
 | .mk k n s as,.mk k' n' s' as'=>zcP (cmpI k k') (zcP (cmpI n n') (zcP (cmpI as.length as'.length) (zcP (Lib.compareBytes s s') (Tm.cmps as as'))))
def Tm.cmps:List Tm->List Tm->Int
 |x::r,y::r'=>zcP (x.cmp y) (Tm.cmps r r')
 |_,_=>0
end
theorem Tm.zwE(a b:Tm):a.cmp b=zcP (cmpI a.kind b.kind) (zcP (cmpI a.n b.n) (zcP (cmpI a.args.length b.args.length) (zcP (Lib.compareBytes a.name b.name) (Tm.cmps a.args b.args)))):=by
 cases a;cases b;rfl
theorem zcv(x:Int):cmpI x x=0:=by simp[cmpI]
theorem zfk(y:Int):zcP 0 y=y:=rfl
theorem ziN{x:Int}(h:x≠0)(y:Int):zcP x y=x:=if_neg h
theorem cmpI_zero{x y:Int}:cmpI x y=0↔x=y:=by
 unfold cmpI
 split
 ·constructor <;> intro h <;> omega
 ·split <;> constructor <;> intro h <;> omega
theorem Tm.zwJ{l r:List Tm}{i:Nat}{x y:Tm}(h:l[i]? =some x)(h':r[i]? =some y):Tm.cmps (l.drop i) (r.drop i)=zcP (x.cmp y) (Tm.cmps (l.drop (i+1)) (r.drop (i+1))):=by
 obtain⟨h1,rfl⟩:=List.getElem?_eq_some_iff.1 h
 obtain⟨h2,rfl⟩:=List.getElem?_eq_some_iff.1 h'
 rw[List.drop_eq_getElem_cons h1,List.drop_eq_getElem_cons h2,Tm.cmps]
end Go.Am

namespace Go.Am
theorem Tm.zwA(l:List Tm):Tm.cmps [] l=0:=by simp[Tm.cmps]
theorem zqz:cmpI 0 0=0/\cmpI 0 1= -1/\cmpI 0 2= -1/\cmpI 0 3= -1/\cmpI 1 0=1/\cmpI 1 1=0/\cmpI 1 2= -1/\cmpI 1 3= -1/\cmpI 2 0=1/\cmpI 2 1=1/\cmpI 2 2=0/\cmpI 2 3= -1/\cmpI 3 0=1/\cmpI 3 1=1/\cmpI 3 2=1/\cmpI 3 3=0:=by decide
theorem Tm.zwM{t:Tm}(h:t.fits=true):(t.kind=0/\t.name=[]/\t.args=[])\/(t.kind=1/\t.name=[]/\t.args=[])\/(t.kind=2/\t.n=0/\t.args=[])\/(t.kind=3/\t.n=0):=by
 rw[Tm.zwy,Bool.and_eq_true] at h
 have h:=h.1
 unfold Tm.node at h
 have em:∀l:List Tm,(l.length:Int)=0->l=[]:=fun l h=>List.length_eq_zero_iff.1 (by omega)
 split at h
 ·simp only[Bool.and_eq_true,decide_eq_true_eq] at h;exact .inl ⟨‹_›,h.1.2,em _ h.2⟩
 ·split at h
  ·simp only[Bool.and_eq_true,decide_eq_true_eq] at h;exact .inr (.inl ⟨‹_›,h.1,em _ h.2⟩)
  ·split at h
   ·simp only[Bool.and_eq_true,decide_eq_true_eq] at h;exact .inr (.inr (.inl ⟨‹_›,h.1.1,em _ h.2⟩))
   ·split at h
    ·simp only[Bool.and_eq_true,decide_eq_true_eq] at h;exact .inr (.inr (.inr ⟨‹_›,h.1.1.1⟩))
    ·cases h
end Go.Am

namespace Go.Am
def Kept(p:Prop):Prop:=p
theorem Kept.out{p:Prop}(h:Kept p):p:=h
theorem Kept.mk{p:Prop}(h:p):Kept p:=h
end Go.Am
namespace Go.Am
theorem zfl{F:FuncId->Option AFn}{prim:FuncId->Option zba}{f:FuncId}{fn:AFn}{args:List AV}{ps:List (Sh × PV)}{hp hp1 hp2:Heap}{v:AV}(hp0:prim f=none)(hf:F f=some fn)(hm:fn.heapMode=false)(hz:zan args hp=some (ps,hp1))
  (h:sem F prim .fn f (pvs ps) []=some (.ret v,hp2))(hr:fn.rcv=none:=by rfl):sem F prim .fn f args hp=some (.ret v,bif v.scalar then hp else hp1):=by
 rw[zd0] at h ⊢
 unfold za8 at h ⊢
 rw[hp0,hf] at h ⊢
 simp only[hr,Option.isSome_none,hm,Bool.false_eq_true,if_false,hz,zab] at h ⊢
 split at h
 ·split at h
  ·cases h;simp_all
  ·cases h
 ·cases h
 ·cases h
end Go.Am

namespace Go.Am
theorem zfV{k:IntKind}(hk:0<k.bits)(x:Int):zca .shr k x 1=some (.int k (x / 2)):=by
 have h1:Nat.min (1:Int).toNat k.bits=1:=Nat.min_eq_left hk
 simp only[zca,h1]
 rw[if_neg (by decide),Int.fdiv_eq_ediv_of_nonneg _ (by decide)]
 rfl
end Go.Am

namespace Go.Am
theorem zdb{sh s s':Sh}{k:IntKind}{es:List PV}{p:PV}(h:es[0]? =some p):za7 sh [.pv s (.sl sh es),.pv s' (.int k 0)]=some (.iptr sh p 0):=by
 simp[za7,aindex,h]
end Go.Am

namespace Go.Am
theorem zaJ{sh s:Sh}{hp:Heap}{r n i:Nat}(h:zms n hp[r]?)(hs:zuf hp[r]? =sh):aload sh hp (.eptr s r n i 0)=toAV sh ((zlE hp[r]?)[i]?):=by
 obtain⟨s',es,fz,ho,rfl⟩:=zqw h
 simp only[ho,zuf] at hs
 subst hs
 simp only[aload,ho,zlE,if_true,and_self]
 cases es[i]? <;> rfl
theorem zbZ{sh s:Sh}{b:Nat}{hp:Heap}{r n i:Nat}{p:PV}(h:zqs sh n hp[r]?)(hi:i<n):zaF sh b hp [.eptr s r n i 0,.pv sh p]=some (.undef,hp.set r (.arr sh ((zlE hp[r]?).set i p) false)):=by
 obtain⟨es,ho,rfl⟩:=zmt h
 have hf:AV.freeze deep (.pv sh p) hp=some (p,hp):=rfl
 simp[zaF,astore,AV.shp,hf,ho,zlE,hi]
end Go.Am

namespace Go.Am
attribute [go_sem] zke zkb zkc zkd
end Go.Am

/- The standard order of terms is an order. -/
namespace Go.Am
open Lib (compareBytes)
theorem ziO(x y:Int):cmpI y x= - cmpI x y:=by
 unfold cmpI;split <;> split <;> (try split) <;> omega
theorem cmpI_lt{x y:Int}:cmpI x y<0↔x<y:=by
 unfold cmpI;split <;> (try split) <;> omega
theorem zkf(x y:Int):zcP (-x) (-y)= - zcP x y:=by
 unfold zcP
 by_cases h:x=0
 ·simp[h]
 ·rw[if_neg (by omega),if_neg h]
theorem zmu{x y:Int}:zcP x y<0↔x<0\/(x=0/\y<0):=by
 unfold zcP;split <;> omega
theorem zmv{x y:Int}:zcP x y=0↔x=0/\y=0:=by
 unfold zcP;split <;> omega
theorem cb_zero:∀{a b:List UInt8},compareBytes a b=0↔a=b
 |[],[]=>by simp[compareBytes]
 |[],_::_=>by simp[compareBytes]
 |_::_,[]=>by simp[compareBytes]
 |x::a,y::b=>by
  simp only[compareBytes,List.cons.injEq]
  split
  ·rename_i h
   constructor
   ·intro h;omega
   ·rintro⟨rfl,_⟩;exact absurd h (by simp[UInt8.lt_iff_toNat_lt])
  ·split
   ·rename_i h
    constructor
    ·intro h;omega
    ·rintro⟨rfl,_⟩;exact absurd h (by simp[UInt8.lt_iff_toNat_lt])
   ·rename_i h1 h2
    have:x=y:=by
     rw[UInt8.lt_iff_toNat_lt] at h1 h2
     exact UInt8.toNat_inj.1 (by omega)
    simp[this,cb_zero]
theorem ztm:∀(a b:List UInt8),compareBytes b a= - compareBytes a b
 |[],[]=>by simp[compareBytes]
 |[],_::_=>by simp[compareBytes]
 |_::_,[]=>by simp[compareBytes]
 |x::a,y::b=>by
  simp only[compareBytes]
  by_cases h1:x<y
  ·have h2:¬y<x:=by rw[UInt8.lt_iff_toNat_lt] at *; omega
   simp[h1,h2]
  ·by_cases h2:y<x
   ·simp[h1,h2]
   ·simp[h1,h2,ztm a b]
theorem zmw:∀{a b c:List UInt8},compareBytes a b<0->compareBytes b c<0->compareBytes a c<0
 |[],b,[],h,h'=>by cases b <;> simp[compareBytes] at*
 |[],b,_::_,h,h'=>by simp[compareBytes]
 |_::_,[],_,h,h'=>by simp[compareBytes] at h
 |_::_,_::_,[],h,h'=>by simp[compareBytes] at h'
 |x::a,y::b,z::c,h,h'=>by
  simp only[compareBytes] at*
  simp only[UInt8.lt_iff_toNat_lt] at*
  by_cases h1:x.toNat<z.toNat
  ·simp[h1]
  ·by_cases h2:z.toNat<x.toNat
   ·split at h <;> split at h' <;> (try split at h) <;> (try split at h') <;> omega
   ·rw[if_neg h1,if_neg h2]
    split at h
    ·split at h' <;> (try split at h') <;> omega
    ·split at h
     ·omega
     ·split at h'
      ·omega
      ·split at h'
       ·omega
       ·exact zmw h h'
theorem Tm.ext{a b:Tm}(h1:a.kind=b.kind)(h2:a.n=b.n)(h3:a.name=b.name)(h4:a.args=b.args):a=b:=by
 cases a;cases b;simp_all[Tm.kind,Tm.n,Tm.name,Tm.args]
theorem Tm.cmp_zero:∀{a b:Tm},a.cmp b=0↔a=b:=by
 intro a
 induction a using Tm.zwq with
 |h a ih=>
  intro b
  have lists:∀(l r:List Tm),(∀t∈l,∀{b:Tm},t.cmp b=0↔t=b)->l.length=r.length->(Tm.cmps l r=0↔l=r):=by
   intro l
   induction l with
   |nil=>intro r _ hl;have:r=[]:=List.length_eq_zero_iff.1 hl.symm;subst this;simp[Tm.cmps]
   |cons x l ihl=>
    intro r hx hl
    cases r with
    |nil=>simp at hl
    |cons y r=>
     simp only[Tm.cmps,zmv,List.cons.injEq]
     rw[hx x (by simp),ihl r (fun t ht=>hx t (by simp[ht])) (by simpa using hl)]
  rw[Tm.zwE]
  simp only[zmv,cmpI_zero,cb_zero]
  constructor
  ·rintro⟨h1,h2,h3,h4,h5⟩
   exact Tm.ext h1 h2 h4 ((lists _ _ ih (by omega)).1 h5)
  ·rintro rfl
   exact⟨rfl,rfl,rfl,rfl,(lists _ _ ih rfl).2 rfl⟩
theorem Tm.zwU:∀(a b:Tm),b.cmp a= - a.cmp b:=by
 intro a
 induction a using Tm.zwq with
 |h a ih=>
  intro b
  have lists:∀(l r:List Tm),(∀t∈l,∀(b:Tm),b.cmp t= - t.cmp b)->Tm.cmps r l= - Tm.cmps l r:=by
   intro l
   induction l with
   |nil=>intro r _;cases r <;> simp[Tm.cmps]
   |cons x l ihl=>
    intro r hx
    cases r with
    |nil=>simp[Tm.cmps]
    |cons y r=>simp only[Tm.cmps];rw[hx x (by simp),ihl r (fun t ht=>hx t (by simp[ht])),zkf]
  rw[Tm.zwE,Tm.zwE a b,lists _ _ ih,ztm,ziO a.kind,ziO a.n,ziO a.args.length]
  simp only[zkf]
theorem Tm.zwP:∀{a b c:Tm},a.cmp b<0->b.cmp c<0->a.cmp c<0:=by
 intro a
 induction a using Tm.zwq with
 |h a ih=>
  intro b c h1 h2
  have lists:∀(l r s:List Tm),(∀t∈l,∀{b c:Tm},t.cmp b<0->b.cmp c<0->t.cmp c<0)->l.length=r.length->r.length=s.length->Tm.cmps l r<0->Tm.cmps r s<0->Tm.cmps l s<0:=by
   intro l
   induction l with
   |nil=>intro r s _ hl _ h;have:r=[]:=List.length_eq_zero_iff.1 hl.symm;subst this;simp[Tm.cmps] at h
   |cons x l ihl=>
    intro r s hx hl hl' h h'
    match r,s,hl,hl' with
    |y::r,z::s,hl,hl'=>
     simp only[Tm.cmps,zmu] at*
     rcases h with h|⟨h,k⟩
     ·rcases h' with h'|⟨h',k'⟩
      ·exact .inl (hx x (by simp) h h')
      ·rw[Tm.cmp_zero] at h';subst h';exact .inl h
     ·rw[Tm.cmp_zero] at h
      subst h
      rcases h' with h'|⟨h',k'⟩
      ·exact .inl h'
      ·exact .inr ⟨h',ihl r s (fun t ht=>hx t (by simp[ht])) (by simpa using hl) (by simpa using hl') k k'⟩
  rw[Tm.zwE] at*
  simp only[zmu,cmpI_lt,cmpI_zero,cb_zero] at*
  rcases h1 with h1|⟨h1,k1⟩
  ·rcases h2 with h2|⟨h2,k2⟩ <;> exact .inl (by omega)
  ·rcases h2 with h2|⟨h2,k2⟩
   ·exact .inl (by omega)
   ·refine .inr ⟨by omega,?_⟩
    rcases k1 with h3|⟨h3,k1⟩
    ·rcases k2 with h4|⟨h4,k2⟩ <;> exact .inl (by omega)
    ·rcases k2 with h4|⟨h4,k2⟩
     ·exact .inl (by omega)
     ·refine .inr ⟨by omega,?_⟩
      rcases k1 with h5|⟨h5,k1⟩
      ·rcases k2 with h6|⟨h6,k2⟩ <;> exact .inl (by omega)
      ·rcases k2 with h6|⟨h6,k2⟩
       ·exact .inl (by omega)
       ·refine .inr ⟨by omega,?_⟩
        rcases k1 with h7|⟨h7,k1⟩
        ·rcases k2 with h8|⟨h8,k2⟩
         ·exact .inl (zmw h7 h8)
         ·rw[<-h8];exact .inl h7
        ·rcases k2 with h8|⟨h8,k2⟩
         ·rw[h7];exact .inl h8
         ·exact .inr ⟨h7.trans h8,lists _ _ _ ih (by omega) (by omega) k1 k2⟩
theorem Tm.zwH{a b c:Tm}(h1:a.cmp b<=0)(h2:b.cmp c<=0):a.cmp c<=0:=by
 by_cases e1:a.cmp b=0
 ·rw[Tm.cmp_zero] at e1;subst e1;exact h2
 ·by_cases e2:b.cmp c=0
  ·rw[Tm.cmp_zero] at e2;subst e2;exact h1
  ·have:=Tm.zwP (show a.cmp b<0 by omega) (show b.cmp c<0 by omega);omega
end Go.Am

/- Flat clauses as plain data. -/
namespace Go.Am
structure Pr where
 name:List UInt8
 arity:Int
 aux:Int
structure Gl where
 kind:Int
 pred:Pr
 args:List Tm
 var:Int
structure Fl where
 pred:Pr
 args:List Tm
 goals:List Gl
def Pr.pv(p:Pr):PV:=.agg [(none,.str p.name),(none,.int .i64 p.arity),(none,.int .i64 p.aux)]
def Gl.pv(g:Gl):PV:=.agg [(none,.int .i64 g.kind),(some 3,g.pred.pv),(none,.sl (some 4) (Tm.pvs g.args)),(none,.int .i64 g.var)]
def Gl.pvs(l:List Gl):List PV:=l.map Gl.pv
def Fl.pv(f:Fl):PV:=.agg [(some 3,f.pred.pv),(none,.sl (some 4) (Tm.pvs f.args)),(none,.sl (some 6) (Gl.pvs f.goals))]
def Fl.av(f:Fl):AV:=.pv (some 5) f.pv
def Pr.ok(p:Pr):Bool:=
 if p.aux=0 then decide ((p.name.length:Int)<=100) && decide (0<=p.arity) && decide (p.arity<=8)
 else decide (p.name=[]) && decide (1<=p.aux) && decide (p.aux<=1099511627776) && decide (0<=p.arity) && decide (p.arity<=4096)
def Pr.zero(p:Pr):Bool:=decide (p.name=[]) && decide (p.arity=0) && decide (p.aux=0)
def zuj(left:Int):List Tm->Bool × Int
 |[]=>(true,left)
 |t::r=>if t.valid=true then if left - t.size<0 then(false,left - t.size) else zuj (left - t.size) r else(false,left)
def Gl.bare(g:Gl):Bool:=g.pred.zero && decide ((g.args.length:Int)=0)
def Gl.step(called:Bool)(left:Int)(g:Gl):Option (Bool × Int):=
 if g.kind=1 then
  if(g.pred.ok && decide ((g.args.length:Int)=g.pred.arity) && decide (g.var=0))=true then match zuj left g.args with
   |(true,l)=>some (true,l)
   |_=>none
  else none
 else if g.kind=2 then if(g.bare && decide (0<=g.var) && decide (g.var<=1099511627776) && !called)=true then some (called,left) else none
 else if g.kind=3\/g.kind=4 then if(g.bare && decide (0<=g.var) && decide (g.var<=1099511627776))=true then some (called,left) else none
 else if g.kind=5 then if(g.bare && decide (g.var=0))=true then some (called,left) else none
 else none
def Gl.steps:Bool->Int->List Gl->Bool
 |_,_,[]=>true
 |called,left,g::r=>match g.step called left with
  |some (c,l)=>Gl.steps c l r
  |none=>false
def Fl.valid(f:Fl):Bool:=
 f.pred.ok && decide ((f.args.length:Int)=f.pred.arity) && match zuj 131072 f.args with
  |(true,l)=>Gl.steps false l f.goals
  |_=>false

theorem valid_size{t:Tm}(h:t.valid=true):t.size<=2000:=by
 unfold Tm.valid at h
 simp only[Bool.and_eq_true,decide_eq_true_eq] at h
 exact h.1
end Go.Am
namespace Go.Am
theorem zaV(r o:Nat):zcm [.ptr r o]=some (.ptr r o):=rfl
end Go.Am
namespace Go.Am
end Go.Am
namespace Go.Am
theorem Gl.pvs_len(l:List Gl):(Gl.pvs l).length=l.length:=by simp[Gl.pvs]
theorem Gl.pvs_get{l:List Gl}{i:Nat}{g:Gl}(h:l[i]? =some g):(Gl.pvs l)[i]? =some g.pv:=by simp[Gl.pvs,h]
end Go.Am
namespace Go.Am
end Go.Am
namespace Go.Am
end Go.Am
namespace Go.Am
mutual
def Tm.occ:Tm->List Int
 | .mk k n _ as=>if k=0 then[n] else Tm.occs as
def Tm.occs:List Tm->List Int
 |[]=>[]
 |t::r=>t.occ++Tm.occs r
end
theorem Tm.occ_eq(t:Tm):t.occ=if t.kind=0 then[t.n] else Tm.occs t.args:=by cases t;rfl
theorem Tm.zwQ(x y:List Tm):Tm.occs (x++y)=Tm.occs x++Tm.occs y:=by
 induction x with
 |nil=>simp[Tm.occs]
 |cons t r ih=>simp[Tm.occs,ih,List.append_assoc]
theorem Tm.zwD{l:List Tm}{i:Nat}{t:Tm}(h:l[i]? =some t):Tm.occs (l.take (i+1))=Tm.occs (l.take i)++t.occ:=by
 obtain⟨h1,rfl⟩:=List.getElem?_eq_some_iff.1 h
 rw[List.take_succ_eq_append_getElem h1,Tm.zwQ]
 simp[Tm.occs]
theorem Tm.occ_len:∀t:Tm,t.occ.length<=t.size:=by
 intro t
 induction t using Tm.zwq with
 |h t ih=>
  rw[Tm.occ_eq,Tm.size_eq]
  split
  ·simp
  ·have key:∀l:List Tm,(∀u∈l,u.occ.length<=u.size)->(Tm.occs l).length<=Tm.sizes l:=by
    intro l
    induction l with
    |nil=>intro _;simp[Tm.occs]
    |cons u r ih2=>
     intro hu
     have h1:=hu u (by simp)
     have h2:=ih2 fun v hv=>hu v (by simp[hv])
     simp only[Tm.occs,Tm.sizes,List.length_append]
     omega
   have:=key t.args ih
   omega
end Go.Am
namespace Go.Am
def Gl.op(g:Gl):Bool:=decide (g.kind=2) || decide (g.kind=3) || decide (g.kind=4)
def Gl.next(calls:Int)(g:Gl):Int:=if g.kind=1 then calls+1 else calls
theorem Tm.zwN(l:List Tm):(Tm.occs l).length<=Tm.sizes l:=by
 induction l with
 |nil=>simp[Tm.occs]
 |cons x y ih=>have:=x.occ_len;simp only[Tm.occs,Tm.sizes,List.length_append];omega
end Go.Am

/- Heaps of which a part is known. -/
namespace Go.Am
theorem getN{l xs:Heap}{n:Nat}(h:l.length=n)(k:Nat):(l++xs)[n+k]? =xs[k]? :=by
 rw[<-h,List.getElem?_append_right (by omega)]
 congr 1
 omega
theorem zeO{l xs:Heap}{n:Nat}(h:l.length=n):(l++xs)[n]? =xs[0]? :=getN h 0
theorem setN{l xs:Heap}{n:Nat}(h:l.length=n)(k:Nat)(x:AObj):(l++xs).set (n+k) x=l++xs.set k x:=by
 rw[<-h,List.set_append_right _ _ (by omega)]
 congr 2
 omega
theorem zeP{l xs:Heap}{n:Nat}(h:l.length=n)(x:AObj):(l++xs).set n x=l++xs.set 0 x:=setN h 0 x
theorem zkg{l xs:Heap}{n:Nat}(h:l.length=n)(k:Nat):(l++xs).take (n+k)=l++xs.take k:=by
 rw[<-h,List.take_append,List.take_of_length_le (by omega)]
 congr 2
 omega
theorem zbO{n b:Nat}(k:Nat){fr:Fr}{base xs:Heap}(hb:base.length=b)(hn:n=b+k)(ho:(xs.take k).all (fun o=>o.refs.all (fun q=>decide (q<n)))=true)(hf:fr.all (fun x=>x.2.refsIn.all (fun q=>decide (q<n)))=true):collect n b fr (base++xs)=base++xs.take k:=by
 have h1:(base++xs).take n=base++xs.take k:=by rw[hn];exact zkg hb k
 have h2:((base++xs).take n).drop b=xs.take k:=by rw[h1,<-hb];exact List.drop_left
 unfold collect
 rw[if_pos (by rw[hf,h2,ho];rfl),h1]
theorem zec{n b:Nat}{fr:Fr}{hp:Heap}(h:hp.length=n):collect n b fr hp=hp:=zav h
theorem zb0{Γ:Oracle}{b:Nat}{hp:Heap}{K:AV->Heap->Prop}{Kp:PV->Heap->Prop}{y:AV}{g:FuncId}{first captured as':List AV}(h:zaT y=some (g,first,captured)):opK (aOp Γ b .call (y::as') hp) K Kp=zln (Γ .fn g (first++as'++captured) hp) K Kp:=by
 have gen:zcy Γ hp (y::as')=(match Γ .fn g (first++as'++captured) hp with
   |some (.ret v,hp')=>some (OpRes.val v hp')
   |some (.panic v,hp')=>some (.panic v hp')
   |none=>none):=by
  cases y <;> first|(cases h;done)|(simp only[zcy,h];rfl)|(simp only[zcy,h])
 simp only[aOp,gen]
 cases Γ .fn g (first++as'++captured) hp with
 |none=>rfl
 |some r=>obtain⟨r,hp'⟩:=r;cases r <;> rfl
variable{F:FuncId->Option AFn} {prim:FuncId->Option zba}
theorem zed{α:Type}(N:Nat)(inv:Nat->α->Prop)(sti:Nat->α->St){b:Nat}{keep:List Nat}{c:ACode}{st:St}{Q:AExit->St->Prop}(a0:α)(h0:inv 0 a0/\(⟨st.fr.keep keep,st.hp⟩:St)=sti 0 a0)
  (h1:∀i a,i<N->inv i a->W (sem F prim) (sloop F prim) b c (sti i a) (seqK (fun st'=>∃a',inv (i+1) a'/\(⟨st'.fr.keep keep,collect st.hp.length b (st'.fr.keep keep) st'.hp⟩:St)=sti (i+1) a') Q))
  (h2:∀a,inv N a->W (sem F prim) (sloop F prim) b c (sti N a) (seqK (fun _=>False) Q)):W (sem F prim) (sloop F prim) b (.loop keep c) st Q:=by
 refine za9 (fun n s=>∃i a,n=N - i/\i<=N/\inv i a/\s=sti i a) (n:=N) ⟨0,a0,rfl,Nat.zero_le _,h0.1,h0.2⟩ ?_
 rintro n s ⟨i,a,hn,hi,hinv,rfl⟩
 by_cases h:i<N
 ·refine zmr (h1 i a h hinv) fun e st' he=> ?_
  cases e with
  |normal=>
   obtain⟨a',k1,k2⟩:=he
   exact⟨N - (i+1),by omega,i+1,a',rfl,by omega,k1,k2⟩
  |exit j=>exact he
  |ret=>exact he
  |panic v=>exact he
 ·obtain rfl:i=N:=by omega
  refine zmr (h2 a hinv) fun e st' he=> ?_
  cases e with
  |normal=>exact he.elim
  |exit j=>exact he
  |ret=>exact he
  |panic v=>exact he
theorem zdc{str ok:Bool}{sh:Sh}{zero:AV}{hp:Heap}{r:Nat}{s:Sh}{k v:PV}{es:List (PV × PV)}(ho:hp[r]? =some (.map sh es))(hf:afind str k es=some (some v)):zbc str sh zero ok hp [.map r,.pv s k]=some (bif ok then .tuple [.pv sh v,.pv none (.bool true)] else .pv sh v):=by
 simp[zbc,ho,hf]
theorem zbH{str ok:Bool}{sh:Sh}{zero:AV}{hp:Heap}{r:Nat}{s:Sh}{k:PV}{es:List (PV × PV)}(ho:hp[r]? =some (.map sh es))(hf:afind str k es=some none):zbc str sh zero ok hp [.map r,.pv s k]=some (bif ok then .tuple [zero,.pv none (.bool false)] else zero):=by
 simp[zbc,ho,hf]
theorem zdd{str:Bool}{sh:Sh}{hp:Heap}{r:Nat}{s:Sh}{k p:PV}{es es':List (PV × PV)}(ho:hp[r]? =some (.map sh es))(hf:aput str k p es=some es'):zb5 str sh hp [.map r,.pv s k,.pv sh p]=some (.undef,hp.set r (.map sh es')):=by
 have h:AV.freeze deep (.pv sh p) hp=some (p,hp):=rfl
 simp[zb5,AV.shp,h,ho,hf]
theorem zhp{b r:Nat}{s s':Sh}{hp:Heap}{q v o n v' o' n':Nat}(h:r<b)(ho:hp[r]? =some (.box none (.sl s q v o n))):zaF none b hp [.ptr r 0,.sl s' q v' o' n']=some (.undef,hp.set r (.box none (.sl s' q v' o' n'))):=by
 simp[zaF,astore,ho,AV.plain,AV.shp,Nat.not_le.2 h,AV.refsIn]
end Go.Am

/- Sorting: insertion, merging, and that both come to the same. -/
namespace Go.Am
section
variable{α:Type} (c:α->α->Int)
structure Cmp:Prop where
 neg:∀x y,c y x= - c x y
 trans:∀{x y z},c x y<=0->c y z<=0->c x z<=0

def mrg:List α->List α->List α
 |[],B=>B
 |a::A,B=>go a A (mrg A) B
where
 go (a:α) (A:List α) (rest:List α->List α):List α->List α
 |[]=>a::A
 |b::B=>if c b a<0 then b::go a A rest B else a::rest (b::B)
theorem zee(B:List α):mrg c [] B=B:=rfl
theorem zaA:∀A:List α,mrg c A []=A
 |[]=>rfl
 |_::_=>rfl
theorem zaH(a:α)(A:List α)(b:α)(B:List α):mrg c (a::A) (b::B)=if c b a<0 then b::mrg c (a::A) B else a::mrg c A (b::B):=rfl
def Srt(l:List α):Prop:=l.Pairwise fun x y=>c x y<=0

variable{c}
theorem Cmp.self(h:Cmp c)(x:α):c x x=0:=by have:=h.neg x x;omega
theorem Cmp.lt_of_lt_le(h:Cmp c){x y z:α}(h1:c x y<0)(h2:c y z<=0):c x z<0:=by
 have h3:=h.neg x z
 by_cases h4:c x z<0
 ·exact h4
 ·have h5:c z x<=0:=by omega
  have h6:=h.trans h2 h5
  have:=h.neg x y
  omega
theorem Cmp.lt_of_le_lt(h:Cmp c){x y z:α}(h1:c x y<=0)(h2:c y z<0):c x z<0:=by
 have h3:=h.neg x z
 by_cases h4:c x z<0
 ·exact h4
 ·have h5:c z x<=0:=by omega
  have h6:=h.trans h5 h1
  have:=h.neg y z
  omega
theorem Srt.tail{a:α}{l:List α}(h:Srt c (a::l)):Srt c l:=(List.pairwise_cons.1 h).2
theorem Srt.head{a:α}{l:List α}(h:Srt c (a::l)):∀x∈l,c a x<=0:=(List.pairwise_cons.1 h).1
theorem zhT:∀(A B:List α),(mrg c A B).length=A.length+B.length
 |[],B=>by simp[mrg]
 |a::A,B=>by
  induction B with
  |nil=>simp[zaA]
  |cons b B ih=>
   rw[zaH]
   split
   ·simp[ih];omega
   ·simp[zhT A (b::B)];omega
theorem mem_mrg{x:α}:∀{A B:List α},x∈mrg c A B↔x∈A\/x∈B
 |[],B=>by simp[mrg]
 |a::A,B=>by
  induction B with
  |nil=>simp[zaA]
  |cons b B ih=>
   rw[zaH]
   split
   ·rw[List.mem_cons,ih];simp[List.mem_cons];exact⟨fun h=>by rcases h with h|(h|h)|h <;> simp[h],fun h=>by rcases h with(h|h)|h|h <;> simp[h]⟩
   ·rw[List.mem_cons,mem_mrg];simp[List.mem_cons];exact⟨fun h=>by rcases h with h|h|h|h <;> simp[h],fun h=>by rcases h with(h|h)|h|h <;> simp[h]⟩
theorem zmx:∀(A B:List α),(mrg c A B).Perm (A++B)
 |[],B=>by simp[mrg]
 |a::A,B=>by
  induction B with
  |nil=>simp[zaA]
  |cons b B ih=>
   rw[zaH]
   split
   ·exact(List.Perm.cons b ih).trans (List.perm_middle (l₁:=a::A) (l₂:=B) (a:=b)).symm
   ·exact List.Perm.cons a (zmx A (b::B))
theorem zqA(h:Cmp c):∀{A B:List α},Srt c A->Srt c B->Srt c (mrg c A B)
 |[],B,_,hB=>hB
 |a::A,B,hA,hB=>by
  induction B with
  |nil=>rw[zaA];exact hA
  |cons b B ih=>
   rw[zaH]
   split
   ·rename_i hlt
    refine List.pairwise_cons.2 ⟨fun x hx=> ?_,ih hB.tail⟩
    rcases mem_mrg.1 hx with hx|hx
    ·rcases List.mem_cons.1 hx with rfl|hx
     ·omega
     ·exact h.trans (by omega) (hA.head x hx)
    ·exact hB.head x hx
   ·rename_i hlt
    refine List.pairwise_cons.2 ⟨fun x hx=> ?_,zqA h hA.tail hB⟩
    have hab:c a b<=0:=by have:=h.neg a b;omega
    rcases mem_mrg.1 hx with hx|hx
    ·exact hA.head x hx
    ·rcases List.mem_cons.1 hx with rfl|hx
     ·exact hab
     ·exact h.trans hab (hB.head x hx)
theorem zfm(h:Cmp c):∀{A B:List α},(∀a∈A,∀b∈B,c a b<=0)->mrg c A B=A++B
 |[],B,_=>rfl
 |a::A,[],_=>by rw[zaA];simp
 |a::A,b::B,hh=>by
  rw[zaH,if_neg (by have:=hh a (by simp) b (by simp);have:=h.neg a b;omega)]
  rw[zfm h fun x hx y hy=>hh x (by simp[hx]) y hy]
  rfl
theorem zdz(h:Cmp c):∀{A U V B:List α},(∀a∈A,∀b∈B,c a b<=0)->(∀u∈U,∀v∈V,c v u<0)->mrg c (A++U) (V++B)=mrg c A V++mrg c U B
 |[],U,V,B,_,h2=>by
  rw[List.nil_append,zee]
  induction V with
  |nil=>simp
  |cons v V ih=>
   cases U with
   |nil=>simp[zee]
   |cons u U=>
    rw[List.cons_append,zaH,if_pos (h2 u (by simp) v (by simp)),ih fun x hx y hy=>h2 x hx y (by simp[hy])]
    rfl
 |a::A,U,V,B,h1,h2=>by
  induction V with
  |nil=>
   rw[List.nil_append,zaA]
   cases B with
   |nil=>simp[zaA]
   |cons b B=>
    rw[List.cons_append,zaH,if_neg (by have:=h1 a (by simp) b (by simp);have:=h.neg a b;omega)]
    have:=zdz h (A:=A) (U:=U) (V:=[]) (B:=b::B) (fun x hx y hy=>h1 x (by simp[hx]) y hy) (fun _ _ _ hv=>by simp at hv)
    rw[List.nil_append,zaA] at this
    rw[this]
    rfl
  |cons v V ih=>
   rw[List.cons_append,List.cons_append,zaH,zaH]
   split
   ·have:=ih fun x hx y hy=>h2 x hx y (by simp[hy])
    rw[List.cons_append] at this
    rw[this]
    rfl
   ·have:=zdz h (A:=A) (U:=U) (V:=v::V) (B:=B) (fun x hx y hy=>h1 x (by simp[hx]) y hy) h2
    rw[List.cons_append] at this
    rw[this]
    rfl

def insC(c:α->α->Int)(t:α):List α->List α
 |[]=>[t]
 |x::l=>if c t x<0 then t::x::l else x::insC c t l
def isort(c:α->α->Int)(l:List α):List α:=l.foldl (fun s t=>insC c t s) []
theorem zf9(t:α):∀l:List α,insC c t l=mrg c l [t]
 |[]=>rfl
 |x::l=>by
  rw[zaH,insC]
  split
  ·rw[zaA]
  ·rw[zf9 t l]
theorem zsv(h:Cmp c){l:List α}(hs:Srt c l)(t:α):Srt c (insC c t l):=by
 rw[zf9]
 exact zqA h hs (List.pairwise_singleton _ _)
theorem zeQ(h:Cmp c):∀(A B C:List α),Srt c A->Srt c B->Srt c C->mrg c (mrg c A B) C=mrg c A (mrg c B C)
 |[],B,C,_,_,_=>by simp[zee]
 |a::A,[],C,_,_,_=>by simp[zaA,zee]
 |a::A,b::B,[],_,_,_=>by simp[zaA]
 |a::A,b::B,k::C,hA,hB,hC=>by
  have e1:=zeQ h A (b::B) (k::C) hA.tail hB hC
  have e2:=zeQ h (a::A) B (k::C) hA hB.tail hC
  have e3:=zeQ h (a::A) (b::B) C hA hB hC.tail
  have n1:=h.neg a b
  have n2:=h.neg b k
  have n3:=h.neg a k
  rw[zaH c a A b B,zaH c b B k C]
  by_cases hba:c b a<0
  ·rw[if_pos hba]
   by_cases hkb:c k b<0
   ·have hka:c k a<0:=h.lt_of_lt_le hkb (by omega)
    rw[if_pos hkb,zaH,if_pos hkb,zaH,if_pos hka,<-e3,zaH c a A b B,if_pos hba]
   ·rw[if_neg hkb,zaH,if_neg hkb,zaH,if_pos hba,e2]
  ·rw[if_neg hba]
   by_cases hkb:c k b<0
   ·rw[if_pos hkb,zaH,zaH]
    by_cases hka:c k a<0
    ·rw[if_pos hka,if_pos hka,<-e3,zaH c a A b B,if_neg hba]
    ·rw[if_neg hka,if_neg hka,e1,zaH c b B k C,if_pos hkb]
   ·have hka:¬c k a<0:=fun hka=>by
     have:=h.lt_of_lt_le hka (show c a b<=0 by omega)
     omega
    rw[if_neg hkb,zaH,if_neg hka,zaH,if_neg hba,e1,zaH c b B k C,if_neg hkb]
termination_by A B C=>A.length+B.length+C.length
theorem zoi(l:List α)(t:α):isort c (l++[t])=insC c t (isort c l):=by simp[isort]
theorem zdA(h:Cmp c):∀(l A:List α),Srt c A->l.foldl (fun s t=>insC c t s) A=mrg c A (isort c l)/\Srt c (l.foldl (fun s t=>insC c t s) A)
 |[],A,hA=>⟨by simp[isort,zaA],hA⟩
 |t::l,A,hA=>by
  have h1:=zdA h l (insC c t A) (zsv h hA t)
  have h2:=zdA h l [t] (List.pairwise_singleton _ _)
  refine⟨?_,h1.2⟩
  have e:isort c (t::l)=l.foldl (fun s t=>insC c t s) [t]:=rfl
  have hs:Srt c (isort c l):=(zdA h l [] List.Pairwise.nil).2
  rw[List.foldl_cons,h1.1,e,h2.1,zf9,zeQ h A [t] _ hA (List.pairwise_singleton _ _) hs]
theorem zcW(h:Cmp c)(l:List α):Srt c (isort c l):=(zdA h l [] List.Pairwise.nil).2
theorem zfW(h:Cmp c)(l r:List α):isort c (l++r)=mrg c (isort c l) (isort c r):=by
 have:=(zdA h r (isort c l) (zcW h l)).1
 rw[<-this]
 simp[isort]
theorem za6(l:List α):(isort c l).Perm l:=by
 have:∀(l A:List α),(l.foldl (fun s t=>insC c t s) A).Perm (A++l):=by
  intro l
  induction l with
  |nil=>intro A;simp
  |cons t l ih=>
   intro A
   refine(ih _).trans ?_
   show(insC c t A++l).Perm _
   rw[zf9]
   refine((zmx A [t]).append_right l).trans ?_
   simp
 simpa[isort] using this l []
theorem zhU{t:α}:∀{A B:List α},(∀x∈A,¬c t x<0)->(∀x∈B,c t x<0)->insC c t (A++B)=A++t::B
 |[],[],_,_=>rfl
 |[],b::B,_,h=>by rw[List.nil_append,insC,if_pos (h b (by simp))];rfl
 |a::A,B,h,h'=>by
  rw[List.cons_append,insC,if_neg (h a (by simp)),zhU (fun x hx=>h x (by simp[hx])) h']
  rfl
theorem zat(l:List α):(isort c l).length=l.length:=(za6 l).length_eq
end
theorem zde{α:Type}(l:List α):l=[]\/∃(r:List α) (x:α),l=r++[x]:=by
 rcases List.eq_nil_or_concat l with h|⟨r,x,h⟩
 ·exact .inl h
 ·exact .inr ⟨r,x,by simpa using h⟩
theorem zdB{α:Type}{L R:List α}{x:α}{i:Nat}(h:i=L.length):(L++x::R)[i]? =some x:=by
 subst h;simp
theorem zdC{α:Type}{L R:List α}{x y:α}{i:Nat}(h:i=L.length):(L++x::R).set i y=L++y::R:=by
 subst h;simp
end Go.Am
namespace Go.Am
def at'(xs:List PV)(i:Nat):PV:=(xs[i]?).getD .nilptr
theorem zef{xs:List PV}{i:Nat}(h:i<xs.length):xs[i]? =some (at' xs i):=by
 unfold at'
 rw[List.getElem?_eq_getElem h]
 rfl
theorem ztn{P A R:List PV}{a i:Nat}(hP:P.length=a)(hi:i<A.length):at' (P++A++R) (a+i)=at' A i:=by
 unfold at'
 rw[List.append_assoc,List.getElem?_append_right (by omega),List.getElem?_append_left (by omega)]
 congr 2
 omega
theorem zcJ{c:PV->PV->Int}(hC:Cmp c){A:List PV}(hs:Srt c A){i j:Nat}(hij:i<=j)(hj:j<A.length):c (at' A i) (at' A j)<=0:=by
 rcases Nat.eq_or_lt_of_le hij with rfl|h
 ·have:=hC.self (at' A i);omega
 ·have h1:at' A i=A[i]:=by unfold at';rw[List.getElem?_eq_getElem (by omega)];rfl
  have h2:at' A j=A[j]:=by unfold at';rw[List.getElem?_eq_getElem hj];rfl
  rw[h1,h2]
  exact List.pairwise_iff_getElem.1 hs i j (by omega) hj h
theorem zdl{A:List PV}{x:PV}(h:x∈A):∃i,i<A.length/\x=at' A i:=by
 obtain⟨i,hi⟩:=List.mem_iff_getElem?.1 h
 refine⟨i,(List.getElem?_eq_some_iff.1 hi).1,?_⟩
 unfold at'
 rw[hi]
 rfl
theorem zvm{A:List PV}{i:Nat}(h:i<A.length):at' A i∈A:=List.mem_of_getElem? (zef h)
theorem zfn{A:List PV}{k i:Nat}(h:i<k):at' (A.take k) i=at' A i:=by
 unfold at';rw[List.getElem?_take_of_lt h]
theorem zfo{A:List PV}{k i:Nat}:at' (A.drop k) i=at' A (k+i):=by
 unfold at';rw[List.getElem?_drop]
end Go.Am
namespace Go.Am
section
variable{α:Type} {c:α->α->Int}
inductive Blk(c:α->α->Int)(n:Nat):List α->List α->Prop
 |last (x:List α) (h:x.length<=n):Blk c n x (isort c x)
 |cons (x r d:List α) (h:x.length=n) (k:Blk c n r d):Blk c n (x++r) (isort c x++d)
inductive Full(c:α->α->Int)(n:Nat):List α->List α->Prop
 |nil:Full c n [] []
 |snoc (x r d:List α) (h:x.length=n) (k:Full c n r d):Full c n (r++x) (d++isort c x)
theorem Full.blk{n:Nat}{r d r' d':List α}(h:Full c n r d)(k:Blk c n r' d'):Blk c n (r++r') (d++d'):=by
 induction h generalizing r' d' with
 |nil=>exact k
 |snoc x r d hx _ ih=>
  have:=ih (.cons x r' d' hx k)
  simpa using this
theorem Full.length{n:Nat}{r d:List α}(h:Full c n r d):d.length=r.length:=by
 induction h with
 |nil=>rfl
 |snoc x r d hx _ ih=>simp[ih,zat]
theorem Full.mem{n:Nat}{r d:List α}(h:Full c n r d){x:α}:x∈d↔x∈r:=by
 induction h with
 |nil=>simp
 |snoc y r d hx _ ih=>simp[ih,(za6 y).mem_iff]
theorem Blk.length{n:Nat}{r d:List α}(h:Blk c n r d):d.length=r.length:=by
 induction h with
 |last x h=>exact zat x
 |cons x r d hx _ ih=>simp[ih,zat]
theorem Blk.mem{n:Nat}{r d:List α}(h:Blk c n r d){x:α}:x∈d↔x∈r:=by
 induction h with
 |last y h=>exact(za6 y).mem_iff
 |cons y r d hx _ ih=>simp[ih,(za6 y).mem_iff]
theorem Blk.whole{n:Nat}{r d:List α}(h:Blk c n r d)(hr:r.length<=n):d=isort c r:=by
 cases h with
 |last x h=>rfl
 |cons x r d hx k=>
  have:r=[]:=List.length_eq_zero_iff.1 (by simp at hr;omega)
  subst this
  have hd:d=[]:=List.length_eq_zero_iff.1 (by rw[k.length];rfl)
  subst hd
  simp
theorem Blk.two{n:Nat}{r d:List α}(h:Blk c n r d)(hn:0<n)(hr:n<r.length):∃x y r2 d2,r=x++y++r2/\d=isort c x++isort c y++d2/\x.length=n/\y.length<=n/\0<y.length/\Blk c n r2 d2/\(y.length<n->r2=[]):=by
 cases h with
 |last x h=>omega
 |cons x r1 d1 hx k=>
  cases k with
  |last _ hy=>exact⟨x,r1,[],[],by simp,by simp,hx,hy,by simp at hr;omega,.last [] (by simp),fun _=>rfl⟩
  |cons y r2 d2 hy k=>exact⟨x,y,r2,d2,by simp,by simp,hx,by omega,by omega,k,fun h=>by omega⟩
end
end Go.Am

/- Terms out of values, and comparing by what they stand for. -/
namespace Go.Am
theorem Tm.zw0:∀{a b:Tm},a.pv=b.pv->a=b:=by
 intro a
 induction a using Tm.zwq with
 |h a ih=>
  intro b hab
  have lists:∀(l r:List Tm),(∀t∈l,∀{b:Tm},t.pv=b.pv->t=b)->Tm.pvs l=Tm.pvs r->l=r:=by
   intro l
   induction l with
   |nil=>intro r _ h;cases r with
    |nil=>rfl
    |cons y r=>simp[Tm.pvs] at h
   |cons x l ihl=>
    intro r hx h
    cases r with
    |nil=>simp[Tm.pvs] at h
    |cons y r=>
     simp only[Tm.pvs,List.cons.injEq] at h
     rw[hx x (by simp) h.1,ihl r (fun t ht=>hx t (by simp[ht])) h.2]
  rw[Tm.zwZ,Tm.zwZ] at hab
  simp only[PV.agg.injEq,List.cons.injEq,Prod.mk.injEq,PV.int.injEq,PV.str.injEq,PV.sl.injEq,true_and,and_true] at hab
  exact Tm.ext hab.1 hab.2.1 hab.2.2.1 (lists _ _ ih hab.2.2.2)
open Classical in
noncomputable def tmOf(p:PV):Tm:=if h:∃t:Tm,p=t.pv then h.choose else .mk 0 0 [] []
theorem zlG(t:Tm):tmOf t.pv=t:=by
 have h:∃u:Tm,t.pv=u.pv:=⟨t,rfl⟩
 unfold tmOf
 rw[dif_pos h]
 exact(Tm.zw0 h.choose_spec).symm
noncomputable def onPV(c:Tm->Tm->Int)(p q:PV):Int:=c (tmOf p) (tmOf q)
theorem zmy{c:Tm->Tm->Int}(h:Cmp c):Cmp (onPV c):=⟨fun x y=>h.neg _ _,fun h1 h2=>h.trans h1 h2⟩
theorem zvn:Cmp Tm.cmp:=⟨fun x y=>Tm.zwU x y,fun h1 h2=>Tm.zwH h1 h2⟩
theorem zmz(c:Tm->Tm->Int)(t:Tm):∀l:List Tm,insC (onPV c) t.pv (Tm.pvs l)=Tm.pvs (insC c t l)
 |[]=>rfl
 |x::l=>by
  simp only[Tm.pvs,insC,onPV,zlG]
  split
  ·rfl
  ·simp only[Tm.pvs]
   rw[zmz c t l]
theorem zkh(c:Tm->Tm->Int)(l:List Tm):isort (onPV c) (Tm.pvs l)=Tm.pvs (isort c l):=by
 have:∀(l s:List Tm),(Tm.pvs l).foldl (fun s t=>insC (onPV c) t s) (Tm.pvs s)=Tm.pvs (l.foldl (fun s t=>insC c t s) s):=by
  intro l
  induction l with
  |nil=>intro s;rfl
  |cons x l ih=>intro s;simp only[Tm.pvs,List.foldl_cons,zmz,ih]
 exact this l []
def zqB(t:Tm):Tm:=(t.args[0]?).getD (.mk 0 0 [] [])
def zd1(a b:Tm):Int:=(zqB a).cmp (zqB b)
theorem zuk:Cmp zd1:=⟨fun x y=>Tm.zwU _ _,fun h1 h2=>Tm.zwH h1 h2⟩
end Go.Am

/- Neighbours that are the same, dropped; what sorting and dropping leaves. -/
namespace Go.Am
def zdD(s:List Tm)(x:Tm):List Tm:=match s.getLast? with
 |some y=>if x.cmp y=0 then s else s++[x]
 |none=>[x]
def dd(l:List Tm):List Tm:=l.foldl zdD []
theorem ziP(l:List Tm)(x:Tm):dd (l++[x])=zdD (dd l) x:=by simp[dd]
theorem zlH(s:List Tm)(x:Tm):(zdD s x).getLast? =some x:=by
 unfold zdD
 split
 ·rename_i y hy
  split
  ·rename_i h
   rw[hy,Tm.cmp_zero.1 h]
  ·simp
 ·rfl
theorem zqC:∀l:List Tm,(dd l).getLast? =l.getLast? :=by
 intro l
 rcases zde l with rfl|⟨r,x,rfl⟩
 ·rfl
 ·rw[ziP,zlH];simp
theorem zul{l:List Tm}{x y:Tm}(h:l.getLast? =some y)(hc:¬x.cmp y=0):dd (l++[x])=dd l++[x]:=by
 rw[ziP]
 unfold zdD
 rw[zqC,h]
 simp[hc]
theorem zum{l:List Tm}{x y:Tm}(h:l.getLast? =some y)(hc:x.cmp y=0):dd (l++[x])=dd l:=by
 rw[ziP]
 unfold zdD
 rw[zqC,h]
 simp[hc]
theorem zki(l:List Tm):(dd l).length<=l.length:=by
 have:∀n (l:List Tm),l.length=n->(dd l).length<=n:=by
  intro n
  induction n with
  |zero=>intro l h;rw[List.length_eq_zero_iff.1 h];simp[dd]
  |succ n ih=>
   intro l h
   rcases zde l with rfl|⟨r,x,rfl⟩
   ·simp at h
   ·have:=ih r (by simpa using h)
    rw[ziP]
    unfold zdD
    split
    ·split
     ·omega
     ·simp;omega
    ·simp
 exact this _ l rfl
end Go.Am

/- Runs with facts: what is known of calls of values alone is looked up. -/
namespace Go.Am
mutual
def PV.eqB:Nat->PV->PV->Bool
 |0,_,_=>false
 |_+1,.bool a,.bool b=>a == b
 |_+1,.int k n,.int k' n'=>decide (k=k') && decide (n=n')
 |_+1,.str s,.str s'=>decide (s.map UInt8.toNat=s'.map UInt8.toNat)
 |d+1,.agg l,.agg l'=>PV.eqA d l l'
 |d+1,.sl sh es,.sl sh' es'=>decide (sh=sh') && PV.eqL d es es'
 |_+1,_,_=>false
termination_by structural d _ _=>d
def PV.eqA:Nat->List (Sh × PV)->List (Sh × PV)->Bool
 |0,_,_=>false
 |_+1,[],[]=>true
 |d+1,(s,a)::r,(s',b)::r'=>decide (s=s') && (PV.eqB d a b && PV.eqA d r r')
 |_+1,_,_=>false
termination_by structural d _ _=>d
def PV.eqL:Nat->List PV->List PV->Bool
 |0,_,_=>false
 |_+1,[],[]=>true
 |d+1,a::r,b::r'=>PV.eqB d a b && PV.eqL d r r'
 |_+1,_,_=>false
termination_by structural d _ _=>d
end
theorem zeR:∀{a b:List UInt8},a.map UInt8.toNat=b.map UInt8.toNat->a=b
 |[],[],_=>rfl
 |[],_::_,h=>by simp at h
 |_::_,[],h=>by simp at h
 |x::r,y::t,h=>by
  simp only[List.map_cons,List.cons.injEq] at h
  rw[UInt8.toNat.inj h.1,zeR h.2]
theorem zto:∀d,(∀a b,PV.eqB d a b=true->a=b)/\(∀a b,PV.eqA d a b=true->a=b)/\(∀a b,PV.eqL d a b=true->a=b)
 |0=>⟨fun _ _ h=>Bool.noConfusion (show false=true from h),fun _ _ h=>Bool.noConfusion (show false=true from h),fun _ _ h=>Bool.noConfusion (show false=true from h)⟩
 |d+1=>by
  obtain⟨h1,h2,h3⟩:=zto d
  refine⟨fun a b h=> ?_,fun a b h=> ?_,fun a b h=> ?_⟩
  ·cases a <;> cases b <;> try (exact Bool.noConfusion (show false=true from h))
   ·rw[eq_of_beq h]
   ·rename_i k n k' n'
    have h:(decide (k=k') && decide (n=n'))=true:=h
    simp only[Bool.and_eq_true,decide_eq_true_eq] at h
    rw[h.1,h.2]
   ·rw[zeR (of_decide_eq_true h)]
   ·rw[h2 _ _ h]
   ·rename_i sh es sh' es'
    have h:(decide (sh=sh') && PV.eqL d es es')=true:=h
    simp only[Bool.and_eq_true,decide_eq_true_eq] at h
    rw[h.1,h3 _ _ h.2]
  ·cases a with
   |nil=>cases b with
    |nil=>rfl
    |cons=>exact Bool.noConfusion (show false=true from h)
   |cons x r=>cases b with
    |nil=>exact Bool.noConfusion (show false=true from h)
    |cons y t=>
     obtain⟨s,a⟩:=x
     obtain⟨s',b⟩:=y
     have h:(decide (s=s') && (PV.eqB d a b && PV.eqA d r t))=true:=h
     simp only[Bool.and_eq_true,decide_eq_true_eq] at h
     rw[h.1,h1 _ _ h.2.1,h2 _ _ h.2.2]
  ·cases a with
   |nil=>cases b with
    |nil=>rfl
    |cons=>exact Bool.noConfusion (show false=true from h)
   |cons x r=>cases b with
    |nil=>exact Bool.noConfusion (show false=true from h)
    |cons y t=>
     have h:(PV.eqB d x y && PV.eqL d r t)=true:=h
     simp only[Bool.and_eq_true] at h
     rw[h1 _ _ h.1,h3 _ _ h.2]
abbrev Facts:=List (FuncId × List (Sh × PV) × AV)
def zqD:Facts->FuncId->List (Sh × PV)->Option AV
 |[],_,_=>none
 |(g,qs,v)::r,f,ps=>bif Nat.beq g f then(bif PV.eqA 60 qs ps then some v else zqD r f ps) else zqD r f ps
def hasF:Facts->FuncId->Bool
 |[],_=>false
 |(g,_,_)::r,f=>bif Nat.beq g f then true else hasF r f
def zun(K:Facts)(f:FuncId)(args:List AV)(hp:Heap):Option (ARes × Heap):=
 match zan args hp with
 |none=>none
 |some (ps,hp1)=>match zqD K f ps with
  |some v=>some (.ret v,bif v.scalar then hp else hp1)
  |none=>none
def zfp(K:Facts)(F:FuncId->Option AFn)(prim:FuncId->Option zba):Nat->Oracle
 |0=>fun _ _ _ _=>none
 |n+1=>fun k f args hp=>match k with
  | .fn=>bif hasF K f then(match zun K f args hp with
    |some r=>some r
    |none=>acall F prim (zfp K F prim n) (aloop (zfp K F prim n) n) .fn f args hp)
   else acall F prim (zfp K F prim n) (aloop (zfp K F prim n) n) .fn f args hp
  |k=>acall F prim (zfp K F prim n) (aloop (zfp K F prim n) n) k f args hp
variable{F:FuncId->Option AFn} {prim:FuncId->Option zba}
theorem freezeAll_pvs':∀(ps:List (Sh × PV)) {hp:Heap},zan (pvs ps) hp=some (ps,hp)
 |[],_=>rfl
 |(sh,p)::r,hp=>by
  have h:AV.freeze deep (.pv sh p) hp=some (p,hp):=rfl
  show zan (.pv sh p::pvs r) hp=_
  simp only[zan,h,freezeAll_pvs' r,AV.shp]
def zuo(F:FuncId->Option AFn)(prim:FuncId->Option zba)(f:FuncId):Bool:=
 match prim f,F f with
 |none,some fn=> !fn.heapMode
 |_,_=>false
def resV:Option (ARes × Heap)->Option AV
 |some (.ret v,_)=>some v
 |_=>none
inductive FactsOk(F:FuncId->Option AFn)(prim:FuncId->Option zba):Facts->Prop
 |nil:FactsOk F prim []
 |cons {f:FuncId} {qs:List (Sh × PV)} {v:AV} {K:Facts} (hp:zuo F prim f=true) (h:resV (sem F prim .fn f (pvs qs) [])=some v) (k:FactsOk F prim K):FactsOk F prim ((f,qs,v)::K)
theorem ziQ{f:FuncId}{ps:List (Sh × PV)}{v:AV}:∀{K:Facts},FactsOk F prim K->zqD K f ps=some v->zuo F prim f=true/\resV (sem F prim .fn f (pvs ps) [])=some v
 |_,.nil,h=>by cases h
 |_,.cons (f:=g) (qs:=qs) hp h1 k,h=>by
  unfold zqD at h
  cases hg:Nat.beq g f with
  |false=>rw[hg] at h;exact ziQ k h
  |true=>
   rw[hg] at h
   have hgf:g=f:=Nat.eq_of_beq_eq_true hg
   cases he:PV.eqA 60 qs ps with
   |false=>rw[he] at h;exact ziQ k h
   |true=>
    rw[he] at h
    cases h
    rw[<-(zto 60).2.1 _ _ he,<-hgf]
    exact⟨hp,h1⟩
theorem zsw{K:Facts}(hK:FactsOk F prim K){f:FuncId}{args:List AV}{hp:Heap}{r:ARes × Heap}(h:zun K f args hp=some r):sem F prim .fn f args hp=some r:=by
 unfold zun at h
 split at h
 ·cases h
 ·rename_i ps hp1 hz
  split at h
  ·rename_i v hv
   cases h
   obtain⟨h1,h2⟩:=ziQ hK hv
   unfold zuo at h1
   split at h1
   ·rename_i fn hpr hF
    rw[zd0] at h2 ⊢
    unfold za8 at h2 ⊢
    rw[hpr,hF] at h2 ⊢
    have hm:fn.heapMode=false:=by simpa using h1
    simp only[hm,Bool.false_eq_true,if_false,hz,freezeAll_pvs'] at h2 ⊢
    split at h2
    ·cases h2
    ·rename_i hrc
     rw[if_neg hrc]
     cases hb:abody (sem F prim) (sloop F prim) fn (pvs ps) [] with
     |none=>rw[hb] at h2;cases h2
     |some q=>
      obtain⟨q,hp2⟩:=q
      rw[hb] at h2
      cases q with
      |panic v'=>cases h2
      |ret v'=>
       simp only at h2 ⊢
       cases hf:v'.freezeRes hp2 with
       |none=>rw[hf] at h2;cases h2
       |some x=>
        rw[hf] at h2
        cases h2
        rfl
   ·cases h1
  ·cases h
theorem zdf:∀n,LLe (aloop (sem F prim) n) (sloop F prim)
 |0=>fun _ _ _ _ _ _ h=>by cases h
 |n+1=>fun b m keep c st r h=>by
  simp only[aloop] at h
  rw[zmn]
  split at h
  ·rename_i ho
   rw[zay (OLe.refl _) (zdf n) ho]
   exact zdf n _ _ _ _ _ _ h
  ·rename_i hn
   rw[zay (OLe.refl _) (zdf n) h]
   split
   ·rename_i e;cases e;exact(hn _ h).elim
   ·rfl
theorem zga{K:Facts}(hK:FactsOk F prim K):∀n,OLe (zfp K F prim n) (sem F prim)
 |0=>fun _ _ _ _ _ h=>by cases h
 |n+1=>fun k f args hp r h=>by
  have key:acall F prim (zfp K F prim n) (aloop (zfp K F prim n) n) k f args hp=some r->sem F prim k f args hp=some r:=fun h=>by
   rw[zgO]
   exact zfi (zga hK n) ((za4 (zga hK n) (Nat.le_refl n)).trans (zdf n)) _ _ _ _ _ h
  unfold zfp at h
  split at h
  ·cases hh:hasF K f with
   |false=>rw[hh] at h;exact key h
   |true=>
    rw[hh] at h
    simp only[cond_true] at h
    split at h
    ·rename_i r' hr
     cases h
     exact zsw hK hr
    ·exact key h
  ·exact key h
theorem zbu{K:Facts}(hK:FactsOk F prim K){n:Nat}{f:FuncId}{qs:List (Sh × PV)}{v:AV}(h:resV (zfp K F prim n .fn f (pvs qs) [])=some v):resV (sem F prim .fn f (pvs qs) [])=some v:=by
 cases hr:zfp K F prim n .fn f (pvs qs) [] with
 |none=>rw[hr] at h;cases h
 |some r=>
  rw[zga hK n _ _ _ _ _ hr]
  rw[hr] at h
  exact h
end Go.Am

/- Loops over functions: what a body of two pieces comes to, and a round. -/
namespace Go.Am
variable{F:FuncId->Option AFn} {prim:FuncId->Option zba}
theorem zoj{Γ:Oracle}{self:FuncId}{fa:AArg}{ps env:List Nat}{st:St}{ds:List AV}{g:FuncId}{fs cs:List AV}{u:AV}{hp':Heap}{k:FuncId}{v:AV}(ha:st.fr.arg fa=some v)(hcal:zaT v=some (g,fs,cs))
  (h:Γ .seq g (fs++[.yield st.hp.length]++cs) (st.hp++[.loop self ps (st.fr.keep env) false])=some (.ret u,hp'))(hl:zem hp'[st.hp.length]? =some k):atop Γ (.range self fa ps env) st ds=some (.normal,⟨st.fr,hp'.take st.hp.length⟩,ds):=by
 simp only[atop,ha,hcal,h,hl]
theorem zhq{f:FuncId}{fn:AFn}{args:List AV}{ps:List (Sh × PV)}{hp:Heap}{v:AV}{op:ATop}{c2:ACode}(hp0:prim f=none)(hf:F f=some fn)(hm:fn.heapMode=false)(hz:zan args hp=some (ps,hp))(hn:(pvs ps).length=fn.nparams)(hmo:fn.more=[(op,c2)])
  (h:W (sem F prim) (sloop F prim) 0 fn.code ⟨params 0 (pvs ps),[]⟩ (seqK (fun st1=>∃st2,atop (sem F prim) op st1 []=some (.normal,st2,[])/\W (sem F prim) (sloop F prim) 0 c2 st2 (endK fn.results (frozen v))) (endK fn.results (frozen v))))(hr:fn.rcv=none:=by rfl):sem F prim .fn f args hp=some (.ret v,hp):=by
 have fin:∀(e:AExit) (st:St),endK fn.results (frozen v) e st->∃u hp3,aleave (sem F prim) fn (some (e,st,[]))=some (.ret u,st.hp)/\u.freezeRes st.hp=some (v,hp3):=by
  intro e st he
  cases e with
  |normal=>
   rw[zbn] at he
   cases hr:zaw st fn.results with
   |none=>rw[hr] at he;exact he.elim
   |some u=>
    rw[hr] at he
    obtain⟨hp3,he⟩:=he
    exact⟨u,hp3,by simp[aleave,aunwind,aresult,hr],he⟩
  |ret=>
   rw[zcg] at he
   cases hr:zaw st fn.results with
   |none=>rw[hr] at he;exact he.elim
   |some u=>
    rw[hr] at he
    obtain⟨hp3,he⟩:=he
    exact⟨u,hp3,by simp[aleave,aunwind,aresult,hr],he⟩
  |exit i=>exact he.elim
  |panic v=>exact he.elim
 have key:∃e st u hp3,apieces (sem F prim) (sloop F prim) 0 fn.more fn.code ⟨params 0 (pvs ps),[]⟩ []=some (e,st,[])/\aleave (sem F prim) fn (some (e,st,[]))=some (.ret u,st.hp)/\u.freezeRes st.hp=some (v,hp3):=by
  rw[hmo]
  simp only[apieces]
  unfold W at h
  split at h
  ·rename_i e st1 he
   rw[he]
   cases e with
   |normal=>
    obtain⟨st2,h2,h3⟩:=h
    simp only[h2]
    split at h3
    ·rename_i e2 st3 he2
     rw[he2]
     obtain⟨u,hp3,k1,k2⟩:=fin _ _ h3
     exact⟨_,_,u,hp3,rfl,k1,k2⟩
    ·exact h3.elim
   |ret=>
    obtain⟨u,hp3,k1,k2⟩:=fin .ret st1 h
    exact⟨_,_,u,hp3,rfl,k1,k2⟩
   |exit i=>exact h.elim
   |panic v=>exact h.elim
  ·exact h.elim
 obtain⟨e,st,u,hp3,k1,k2,k3⟩:=key
 rw[zd0]
 unfold za8
 rw[hp0,hf]
 rw[hmo] at k1
 have hl:([]:Heap).length=0:=rfl
 simp only[hr,hmo,Option.isSome_none,hm,Bool.false_eq_true,if_false,hz,abody,hn,ne_eq,not_true_eq_false,hl,k1,k2,k3]
 cases v.scalar <;> rfl
theorem zqE{f:FuncId}{fn:AFn}{r:Nat}{ps:List Nat}{env:List (Nat × AV)}{rd:ARound}{as:List AV}{hp hp':Heap}(hr:hp[r]? =some (.loop f ps env false))(has:as.length=ps.length)(hf:F f=some fn)(hrd:zdm ps fn.rounds=some rd)
  (h:W (sem F prim) (sloop F prim) hp.length rd.assign ⟨zeo ps as++env,hp⟩ (seqK (fun st1=>(∃k,zem st1.hp[r]? =some k)/\W (sem F prim) (sloop F prim) hp.length rd.body ⟨st1.fr,st1.hp.set r (.loop f ps env true)⟩ (seqK (fun st2=>(st2.hp.set r (.loop f ps env false)).take hp.length=hp') (fun _ _=>False))) (fun _ _=>False))):
  sem F prim .rnd f (.yield r::as) hp=some (.ret (.pv none (.bool true)),hp'):=by
 rw[ztV]
 simp only[around,hr,has,and_self,if_true,hf,hrd]
 unfold W at h
 split at h
 ·rename_i e st1 he
  rw[he]
  cases e with
  |normal=>
   obtain⟨⟨k,hk⟩,h2⟩:=h
   split at h2
   ·rename_i e2 st2 he2
    cases e2 with
    |normal=>
     have h3:(st2.hp.set r (.loop f ps env false)).take hp.length=hp':=h2
     simp only[hk,he2,h3]
    |exit i=>exact h2.elim
    |ret=>exact h2.elim
    |panic v=>exact h2.elim
   ·exact h2.elim
  |exit i=>exact h.elim
  |ret=>exact h.elim
  |panic v=>exact h.elim
 ·exact h.elim
end Go.Am

/- What a law is given, as values without references. -/
namespace Go.Am
variable{P:Program} {H:Type} {enc:TypeId × Value->H} {w:World} {I:Nat->Prop}

theorem zeS{α β:Type}{g:α->Option β}:∀{l:List α} {xs:List β},l.mapM g=some xs->l.length=xs.length/\∀(i:Nat) (a:α) (x:β),l[i]? =some a->xs[i]? =some x->g a=some x
 |[],xs,h=>by
  simp at h
  subst h
  exact⟨rfl,fun i a x h=>by simp at h⟩
 |a::r,xs,h=>by
  rw[List.mapM_cons] at h
  cases ha:g a with
  |none=>rw[ha] at h;cases h
  |some y=>
   rw[ha] at h
   cases hr:r.mapM g with
   |none=>rw[hr] at h;cases h
   |some ys=>
    rw[hr] at h
    cases h
    obtain⟨h1,h2⟩:=zeS hr
    refine⟨by simp[h1],fun i b x hb hx=> ?_⟩
    cases i with
    |zero=>simp at hb hx;subst hb;subst hx;exact ha
    |succ i=>exact h2 i b x (by simpa using hb) (by simpa using hx)

def zdX(sh:Sh)(cs:List Value):Value:=
 match sh with
 |none=>cs.headD .nilIface
 |some _=>.agg cs.toArray

def zdR(P:Program)(n:Nat):Nat->List Field->Bool
 |o,[]=>decide (o=n)
 |o,f::r=>decide (f.offset=o) && okT P f.type && zdR P n (o+(shOf P f.type).size) r
def zbI(P:Program)(g:TypeId->DataW H->Option PV):List Field->List (DataW H)->Option (List (Sh × PV))
 |[],[]=>some []
 |f::fs,d::ds=>match g f.type d with
  |none=>none
  |some p=>match zbI P g fs ds with
   |some l=>some ((shOf P f.type,p)::l)
   |none=>none
 |_,_=>none
def zdg(g:DataW H->Option PV):List (DataW H)->Option (List PV)
 |[]=>some []
 |d::ds=>match g d with
  |none=>none
  |some p=>match zdg g ds with
   |some l=>some (p::l)
   |none=>none
def zb1(P:Program):Nat->TypeId->DataW H->Option PV
 |0,_,_=>none
 |n+1,t,d=>match P.underlying t,d with
  |some .bool,.lit (.bool b)=>some (.bool b)
  |some (.int k),.lit (.int k' n)=>if k'=k/\(Lit.int k n).wf=true then some (.int k n) else none
  |some .string,.lit (.string l)=>some (.str l)
  |some (.slice e),.nil=>some (.sl (shOf P e) [])
  |some (.slice e),.slice es _=>if okT P e=true then match zdg (zb1 P n e) es with
    |some l=>some (.sl (shOf P e) l)
    |none=>none
   else none
  |some (.struct fs),.agg parts=>if zdR P (P.cellsOf t) 0 fs.toList=true then match zbI P (zb1 P n) fs.toList parts with
    |some l=>some (.agg l)
    |none=>none
   else none
  |_,_=>none

theorem zkj{t:TypeId}(h:okT P t=true):P.cellsOf t=(shOf P t).size/\0<P.cellsOf t:=by
 unfold okT at h
 split at h
 ·rename_i i _ hi _
  simp only[Bool.and_eq_true,beq_iff_eq,decide_eq_true_eq] at h
  have:P.cellsOf t=i.size:=by simp[Program.cellsOf,hi]
  omega
 ·cases h

theorem zhV{base:Nat}{a:Addr}{n:Nat}{l:List Value}(h:w.cells? base a n=some l)(hn:0<n):a.spot=none/\∃cs t fr,w.heap[a.block]? =some (.cells cs t fr)/\l=(cs.toList.drop a.off).take n/\l.length=n:=by
 unfold World.cells? at h
 split at h
 ·obtain⟨h1,h2⟩:=zeS h
  rw[List.length_range] at h1
  have rd:∀i,i<n->∃v,l[i]? =some v/\w.cell? (a.add i)=some v:=by
   intro i hi
   have hl:l[i]? =some l[i]:=List.getElem?_eq_getElem (by omega)
   exact⟨l[i],hl,h2 i i l[i] (by simp[hi]) hl⟩
  obtain⟨v0,hv0,hc0⟩:=rd 0 hn
  unfold World.cell? at hc0
  split at hc0
  ·rename_i cs t fr hb
   split at hc0
   ·cases hc0
   ·rename_i hsp
    have hb':w.heap[a.block]? =some (.cells cs t fr):=hb
    have hsp':a.spot=none:=by simpa[Addr.add] using hsp
    refine⟨hsp',cs,t,fr,hb',?_,h1.symm⟩
    apply List.ext_getElem?
    intro i
    by_cases hi:i<n
    ·obtain⟨v,e1,e2⟩:=rd i hi
     rw[e1]
     have ea:a.add i=⟨a.block,a.off+i,none⟩:=by
      unfold Addr.add
      split
      ·rename_i h0;subst h0;cases a;simp_all
      ·rfl
     rw[ea] at e2
     simp only[World.cell?,hb',Option.isSome_none,Bool.false_eq_true,if_false] at e2
     rw[List.getElem?_take_of_lt hi,List.getElem?_drop]
     simpa using e2.symm
    ·rw[List.getElem?_eq_none (by omega),List.getElem?_eq_none (by simp;omega)]
  ·cases hc0
 ·cases h

theorem zkk{g:TypeId->List Value->Option (DataW H × List MemPlace)}{f:TypeId->DataW H->Option PV}
  (hg:∀t cs d ps p,g t cs=some (d,ps)->okT P t=true->f t d=some p->PR w I p (zdX (shOf P t) cs)/\vshp (zdX (shOf P t) cs)=shOf P t/\(zdX (shOf P t) cs).cells.toList=cs)(cs:List Value):
  ∀(fs:List Field) (o:Nat) (xs:List (DataW H × List MemPlace)) (l:List (Sh × PV)),zdR P cs.length o fs=true->fs.mapM (fun fd=>g fd.type ((cs.drop fd.offset).take (P.cellsOf fd.type)))=some xs->zbI P f fs (xs.map (·.1))=some l->
  ∃vs:List Value,l.length=vs.length/\(∀(i:Nat) (x:Sh × PV) (v:Value),l[i]? =some x->vs[i]? =some v->vshp v=x.1)/\(∀(i:Nat) (x:Sh × PV) (v:Value),l[i]? =some x->vs[i]? =some v->PR w I x.2 v)/\cellsOf vs=cs.drop o
 |[],o,xs,l,hok,hm,hp=>by
  simp[zdR] at hok
  simp at hm
  subst hm
  simp[zbI] at hp
  subst hp
  exact⟨[],rfl,fun i x v h=>by simp at h,fun i x v h=>by simp at h,by simp[cellsOf,hok]⟩
 |fd::r,o,xs,l,hok,hm,hp=>by
  simp only[zdR,Bool.and_eq_true,decide_eq_true_eq] at hok
  obtain⟨⟨h1,h2⟩,h3⟩:=hok
  rw[List.mapM_cons] at hm
  cases ha:g fd.type ((cs.drop fd.offset).take (P.cellsOf fd.type)) with
  |none=>rw[ha] at hm;cases hm
  |some y=>
   rw[ha] at hm
   cases hr:r.mapM (fun fd=>g fd.type ((cs.drop fd.offset).take (P.cellsOf fd.type))) with
   |none=>rw[hr] at hm;cases hm
   |some ys=>
    rw[hr] at hm
    cases hm
    simp only[List.map_cons,zbI] at hp
    split at hp
    ·cases hp
    ·rename_i p hfp
     split at hp
     ·rename_i l' hl'
      cases hp
      obtain⟨k1,k2,k3⟩:=hg _ _ y.1 y.2 p ha h2 hfp
      obtain⟨vs,e1,e2,e3,e4⟩:=zkk hg cs r _ ys l' h3 hr hl'
      refine⟨zdX (shOf P fd.type) ((cs.drop fd.offset).take (P.cellsOf fd.type))::vs,by simp[e1],?_,?_,?_⟩
      ·intro i x v hx hv
       cases i with
       |zero=>simp at hx hv;subst hx;subst hv;exact k2
       |succ i=>exact e2 i x v (by simpa using hx) (by simpa using hv)
      ·intro i x v hx hv
       cases i with
       |zero=>simp at hx hv;subst hx;subst hv;exact k1
       |succ i=>exact e3 i x v (by simpa using hx) (by simpa using hv)
      ·simp only[cellsOf,List.flatMap_cons,k3]
       have e4':List.flatMap (fun v=>v.cells.toList) vs=cs.drop (o+(shOf P fd.type).size):=e4
       rw[e4',h1,(zkj h2).1,<-List.drop_drop,List.take_append_drop]
     ·cases hp

theorem zmA{f:DataW H->Option PV}{g:Nat->Option (DataW H × List MemPlace)}{R:Nat->PV->Prop}
  (hg:∀i d ps p,g i=some (d,ps)->f d=some p->R i p):
  ∀(is:List Nat) (xs:List (DataW H × List MemPlace)) (l:List PV),is.mapM g=some xs->zdg f (xs.map (·.1))=some l->
  l.length=is.length/\∀(k i:Nat) (p:PV),is[k]? =some i->l[k]? =some p->R i p
 |[],xs,l,hm,hp=>by
  simp at hm
  subst hm
  simp[zdg] at hp
  subst hp
  exact⟨rfl,fun k i p h=>by simp at h⟩
 |i::r,xs,l,hm,hp=>by
  rw[List.mapM_cons] at hm
  cases ha:g i with
  |none=>rw[ha] at hm;cases hm
  |some y=>
   rw[ha] at hm
   cases hr:r.mapM g with
   |none=>rw[hr] at hm;cases hm
   |some ys=>
    rw[hr] at hm
    cases hm
    simp only[List.map_cons,zdg] at hp
    split at hp
    ·cases hp
    ·rename_i p hfp
     split at hp
     ·rename_i l' hl'
      cases hp
      obtain⟨e1,e2⟩:=zmA hg r ys l' hr hl'
      refine⟨by simp[e1],fun k j q hk hq=> ?_⟩
      cases k with
      |zero=>simp at hk hq;subst hk;subst hq;exact hg i y.1 y.2 p ha hfp
      |succ k=>exact e2 k j q (by simpa using hk) (by simpa using hq)
     ·cases hp

theorem zhW(f:Nat->Value)(l:List Value)(o n:Nat):∀m:Nat,(∀i,i<m->(f i).cells.toList=(l.drop (o+i*n)).take n)->cellsOf ((List.range m).map f)=(l.drop o).take (m*n)
 |0,_=>by simp[cellsOf]
 |m+1,h=>by
  have ih:=zhW f l o n m fun i hi=>h i (by omega)
  unfold cellsOf at ih ⊢
  rw[List.range_succ,List.map_append,List.flatMap_append,ih]
  simp only[List.map_cons,List.map_nil,List.flatMap_cons,List.flatMap_nil,List.append_nil]
  rw[h m (by omega),Nat.add_mul,Nat.one_mul,List.take_add,List.drop_drop]

theorem zup(hI:∀b,I b){base:Nat}{spare:Nat->Bool}{held:Bool}:∀(fuel:Nat) (n:Nat) (t:TypeId) (cs:List Value) (d:DataW H) (ps:List MemPlace) (p:PV),DataW.trod enc P w base spare held fuel t cs=some (d,ps)->okT P t=true->zb1 P n t d=some p->
  PR w I p (zdX (shOf P t) cs)/\vshp (zdX (shOf P t) cs)=shOf P t/\(zdX (shOf P t) cs).cells.toList=cs:=by
 intro fuel
 induction fuel with
 |zero=>intro n t cs d ps p h;cases h
 |succ fuel ih=>
  intro n t cs d ps p h hok hp
  cases n with
  |zero=>cases hp
  |succ n=>
  simp only[zb1] at hp
  cases hu:P.underlying t with
  |none=>rw[hu] at hp;cases hp
  |some u=>
   rw[hu] at hp
   unfold DataW.trod at h
   rw[hu] at h
   cases u with
   |bool=>
    have hs:shOf P t=none:=by unfold shOf;rw[hu]
    rw[hs]
    simp only at h hp
    split at h <;> first|contradiction|(exfalso;clear ih;simp_all;done)|skip
    ·cases h
     cases hp
     exact⟨.bool _,rfl,rfl⟩
   |int k=>
    have hs:shOf P t=none:=by unfold shOf;rw[hu]
    rw[hs]
    simp only at h hp
    split at h <;> first|contradiction|(exfalso;clear ih;simp_all;done)|skip
    ·rename_i e
     split at h
     ·rename_i e2
      obtain⟨e2,e3⟩:=e2
      subst e2
      cases h
      cases e
      simp only[e3,and_self,if_true] at hp
      cases hp
      exact⟨.int _ _,rfl,rfl⟩
     ·cases h
   |string=>
    have hs:shOf P t=none:=by unfold shOf;rw[hu]
    rw[hs]
    simp only at h hp
    split at h <;> first|contradiction|(exfalso;clear ih;simp_all;done)|skip
    ·split at h
     ·cases h
      cases hp
      exact⟨.str _,rfl,rfl⟩
     ·cases h
   |slice e=>
    have hs:shOf P t=none:=by unfold shOf;rw[hu]
    rw[hs]
    simp only at h hp
    split at h <;> first|contradiction|(exfalso;clear ih;simp_all;done)|skip
    ·cases h
     cases hp
     exact⟨.nilsl _ _ _,rfl,rfl⟩
    ·rename_i e' a len cap hx
     cases hx
     split at h
     ·rename_i hb
      obtain⟨hb1,hb2,hb3⟩:=hb
      rw[Option.bind_eq_some_iff] at h
      obtain⟨elems,hm,h⟩:=h
      rw[Option.map_eq_some_iff] at h
      obtain⟨rest,hr,h⟩:=h
      cases h
      simp only at hp
      split at hp
      ·rename_i hoe
       split at hp
       ·rename_i l hl
        cases hp
        obtain⟨hc1,hc2⟩:=zkj hoe
        obtain⟨k1,k2⟩:=zmA (R:=fun i p=>PR w I p (zdX (shOf P e) (((w.cells? base (a.add (i*P.cellsOf e)) (P.cellsOf e))).getD []))/\vshp (zdX (shOf P e) (((w.cells? base (a.add (i*P.cellsOf e)) (P.cellsOf e))).getD []))=shOf P e/\(zdX (shOf P e) (((w.cells? base (a.add (i*P.cellsOf e)) (P.cellsOf e))).getD [])).cells.toList=((w.cells? base (a.add (i*P.cellsOf e)) (P.cellsOf e))).getD []) (fun i d ps p hg hf=>by
         rw[Option.bind_eq_some_iff] at hg
         obtain⟨c,hc,hg⟩:=hg
         rw[hc]
         exact ih n e c d ps p hg hoe hf) _ _ _ hm hl
        rw[List.length_range] at k1
        refine⟨?_,rfl,rfl⟩
        have hel:elems.length=len:=by have:=(zeS hm).1;simpa using this.symm
        cases len with
        |zero=>
         have:l=[]:=List.length_eq_zero_iff.1 (by omega)
         subst this
         exact .nilsl _ _ _
        |succ m=>
         have rd:∀i,i<m+1->∃c,w.cells? base (a.add (i*P.cellsOf e)) (P.cellsOf e)=some c:=fun i hi=>by
          have hx:elems[i]? =some elems[i]:=List.getElem?_eq_getElem (by omega)
          have:=(zeS hm).2 i i elems[i] (by simp[hi]) hx
          rw[Option.bind_eq_some_iff] at this
          obtain⟨c,hc,_⟩:=this
          exact⟨c,hc⟩
         obtain⟨c0,hc0⟩:=rd 0 (by omega)
         obtain⟨s0,cs',t',fr',hblk,_,_⟩:=zhV hc0 hc2
         have ea0:a.add (0*P.cellsOf e)=a:=by simp[Addr.add]
         rw[ea0] at s0 hblk
         have seg:∀i,i<m+1->(w.cells? base (a.add (i*P.cellsOf e)) (P.cellsOf e)).getD []=(cs'.toList.drop (a.off+i*P.cellsOf e)).take (P.cellsOf e)/\((w.cells? base (a.add (i*P.cellsOf e)) (P.cellsOf e)).getD []).length=P.cellsOf e:=fun i hi=>by
          obtain⟨c,hc⟩:=rd i hi
          obtain⟨_,cs2,t2,fr2,hb2,e2,e3⟩:=zhV hc hc2
          have eo:(a.add (i*P.cellsOf e)).off=a.off+i*P.cellsOf e:=by unfold Addr.add;split <;> simp_all
          have eb:(a.add (i*P.cellsOf e)).block=a.block:=by unfold Addr.add;split <;> rfl
          rw[eb,hblk] at hb2
          cases hb2
          rw[hc,Option.getD_some]
          rw[eo] at e2
          exact⟨e2,e3⟩
         have ha:a=⟨a.block,a.off,none⟩:=by cases a;simp_all
         have hll:l.length=m+1:=k1
         rw[ha]
         have hgoal:PR w I (.sl (shOf P e) l) (.slice (some ⟨a.block,a.off,none⟩) l.length cap):=by
          refine .sl _ _ a.block a.off cap cs' t' fr' ((List.range (m+1)).map fun i=>zdX (shOf P e) ((w.cells? base (a.add (i*P.cellsOf e)) (P.cellsOf e)).getD [])) (by simp[hll]) (hI _) hblk ?_ ?_ ?_ (by omega)
          ·intro i p v hp hv
           have hi:i<m+1:=by rw[<-hll];exact(List.getElem?_eq_some_iff.1 hp).1
           simp[hi] at hv
           subst hv
           exact(k2 i i p (by simp[hi]) hp).2.1
          ·intro i p v hp hv
           have hi:i<m+1:=by rw[<-hll];exact(List.getElem?_eq_some_iff.1 hp).1
           simp[hi] at hv
           subst hv
           exact(k2 i i p (by simp[hi]) hp).1
          ·have cl:∀i,i<m+1->(zdX (shOf P e) ((w.cells? base (a.add (i*P.cellsOf e)) (P.cellsOf e)).getD [])).cells.toList=(cs'.toList.drop (a.off+i*P.cellsOf e)).take (P.cellsOf e):=fun i hi=>by
            rw[<-(seg i hi).1]
            exact(k2 i i l[i] (by simp[hi]) (List.getElem?_eq_getElem (by omega))).2.2
           rw[hll,<-hc1]
           exact zhW (fun i=>zdX (shOf P e) ((w.cells? base (a.add (i*P.cellsOf e)) (P.cellsOf e)).getD [])) cs'.toList a.off (P.cellsOf e) (m+1) cl
         rw[hll] at hgoal
         exact hgoal
       ·cases hp
      ·cases hp
     ·cases h
   |struct fs=>
    have hs:shOf P t=some (P.cellsOf t):=by unfold shOf;rw[hu]
    rw[hs]
    simp only at h hp
    split at h <;> first|contradiction|(exfalso;clear ih;simp_all;done)|skip
    ·rename_i hlen
     rw[Option.map_eq_some_iff] at h
     obtain⟨xs,hm,h⟩:=h
     cases h
     simp only at hp
     split at hp
     ·rename_i hfo
      split at hp
      ·rename_i l hl
       cases hp
       rw[<-hlen] at hfo
       obtain⟨vs,e1,e2,e3,e4⟩:=zkk (w:=w) (I:=I) (fun t cs d ps p hg ho hf=>ih n t cs d ps p hg ho hf) cs fs.toList 0 xs l hfo hm hl
       rw[List.drop_zero] at e4
       refine⟨?_,?_,?_⟩
       ·show PR w I (.agg l) (.agg cs.toArray)
        rw[<-e4]
        exact .agg l vs e1 e2 e3
       ·show some cs.toArray.size=_
        simp[hlen]
       ·simp[zdX,Value.cells]
      ·cases hp
     ·cases hp
   |_=>cases hp

theorem zvo{base:Nat}{spare:Nat->Bool}{held:Bool}{n:Nat}{t:TypeId}{v:Value}{d:DataW H}{ps:List MemPlace}{p:PV}(h:DataW.Trod enc P w base spare held t v d ps)(hok:okT P t=true)(hp:zb1 P n t d=some p)(hv:vshp v=shOf P t):
  AR w (noX (P:=P)) noμ [] (.pv (shOf P t) p) v:=by
 obtain⟨fuel,h⟩:=h
 have hI:∀b,Im (noX (P:=P)) noμ [] b:=fun b=>⟨fun h=>h,fun i hi=>by simp[live] at hi⟩
 obtain⟨h1,h2,h3⟩:=zup hI fuel n t _ d ps p h hok hp
 have:zdX (shOf P t) v.cells.toList=v:=by
  rw[<-hv]
  cases v <;> simp[vshp,zdX,Value.cells]
 rw[this] at h1
 exact .pv _ _ _ hv h1
theorem zok{W:World}{base:Nat}{t:TypeId}{v:Value}(h:Value.okWide P W .any base t v):vshp v=shOf P t:=by
 unfold Value.okWide at h
 unfold shOf
 cases hu:P.underlying t with
 |none=>
  rw[hu] at h
  cases v with
  |agg cs=>simp[Cell.okWide,Cell.ok,hu] at h
  |_=>rfl
 |some u=>
  rw[hu] at h
  cases u with
  |struct fs=>obtain⟨cs,rfl,hc,_⟩:=h;simp[vshp,hc]
  |array n e=>obtain⟨cs,rfl,hc,_⟩:=h;simp[vshp,hc]
  |_=>
   cases v with
   |agg cs=>simp[Cell.okWide,Cell.ok,hu] at h
   |_=>rfl
end Go.Am

/- Every datum of plain types is a value; terms. -/
namespace Go.Am
variable{P:Program} {H:Type} {enc:TypeId × Value->H} {w:World}

def ztp(P:Program)(ts:List TypeId)(t:TypeId):Bool:=
 okT P t && match P.underlying t with
 |some .bool=>true
 |some (.int _)=>true
 |some .string=>true
 |some (.slice e)=>ts.contains e && okT P e
 |some (.struct fs)=>fs.toList.all (fun f=>ts.contains f.type) && zdR P (P.cellsOf t) 0 fs.toList
 |_=>false
def zmB(P:Program)(ts:List TypeId):Bool:=ts.all (ztp P ts)

theorem zhX{f:DataW H->Option PV}{g:Nat->Option (DataW H × List MemPlace)}(hg:∀i d ps,g i=some (d,ps)->∃p,f d=some p):∀(is:List Nat) (xs:List (DataW H × List MemPlace)),is.mapM g=some xs->∃l,zdg f (xs.map (·.1))=some l
 |[],xs,h=>by simp at h;subst h;exact⟨[],rfl⟩
 |i::r,xs,h=>by
  rw[List.mapM_cons] at h
  cases ha:g i with
  |none=>rw[ha] at h;cases h
  |some y=>
   rw[ha] at h
   cases hr:r.mapM g with
   |none=>rw[hr] at h;cases h
   |some ys=>
    rw[hr] at h
    cases h
    obtain⟨l,hl⟩:=zhX hg r ys hr
    obtain⟨p,hp⟩:=hg i y.1 y.2 ha
    exact⟨p::l,by simp[zdg,hp,hl]⟩
theorem zgS{f:TypeId->DataW H->Option PV}{g:Field->Option (DataW H × List MemPlace)}:∀(fs:List Field) (xs:List (DataW H × List MemPlace)),(∀fd∈fs,∀d ps,g fd=some (d,ps)->∃p,f fd.type d=some p)->fs.mapM g=some xs->∃l,zbI P f fs (xs.map (·.1))=some l
 |[],xs,_,h=>by simp at h;subst h;exact⟨[],rfl⟩
 |fd::r,xs,hg,h=>by
  rw[List.mapM_cons] at h
  cases ha:g fd with
  |none=>rw[ha] at h;cases h
  |some y=>
   rw[ha] at h
   cases hr:r.mapM g with
   |none=>rw[hr] at h;cases h
   |some ys=>
    rw[hr] at h
    cases h
    obtain⟨l,hl⟩:=zgS r ys (fun fd h=>hg fd (by simp[h])) hr
    obtain⟨p,hp⟩:=hg fd (by simp) y.1 y.2 ha
    exact⟨(shOf P fd.type,p)::l,by simp[zbI,hp,hl]⟩

theorem zqF{ts:List TypeId}(hc:zmB P ts=true){base:Nat}{spare:Nat->Bool}{held:Bool}:∀(fuel:Nat) (t:TypeId) (cs:List Value) (d:DataW H) (ps:List MemPlace),t∈ts->DataW.trod enc P w base spare held fuel t cs=some (d,ps)->∃p,zb1 P fuel t d=some p:=by
 intro fuel
 induction fuel with
 |zero=>intro t cs d ps _ h;cases h
 |succ fuel ih=>
  intro t cs d ps ht h
  have hp:=List.all_eq_true.1 hc t ht
  unfold ztp at hp
  rw[Bool.and_eq_true] at hp
  have hp:=hp.2
  unfold DataW.trod at h
  unfold zb1
  cases hu:P.underlying t with
  |none=>rw[hu] at hp;cases hp
  |some u=>
   rw[hu] at hp h
   cases u with
   |bool=>
    simp only at h
    split at h <;> first|contradiction|(exfalso;clear ih;simp_all;done)|skip
    ·cases h;exact⟨_,rfl⟩
   |int k=>
    simp only at h
    split at h <;> first|contradiction|(exfalso;clear ih;simp_all;done)|skip
    ·rename_i e
     split at h
     ·rename_i e2
      obtain⟨e2,e3⟩:=e2
      subst e2
      cases h
      cases e
      exact⟨_,by simp[e3];rfl⟩
     ·cases h
   |string=>
    simp only at h
    split at h <;> first|contradiction|(exfalso;clear ih;simp_all;done)|skip
    ·split at h
     ·cases h;exact⟨_,rfl⟩
     ·cases h
   |slice e=>
    simp only[Bool.and_eq_true,List.contains_iff_mem] at hp
    simp only at h
    split at h <;> first|contradiction|(exfalso;clear ih;simp_all;done)|skip
    ·cases h;exact⟨_,rfl⟩
    ·rename_i e' a len cap hx
     cases hx
     split at h
     ·rw[Option.bind_eq_some_iff] at h
      obtain⟨elems,hm,h⟩:=h
      rw[Option.map_eq_some_iff] at h
      obtain⟨rest,hr,h⟩:=h
      cases h
      obtain⟨l,hl⟩:=zhX (f:=zb1 P fuel e) (fun i d ps hg=>by
       rw[Option.bind_eq_some_iff] at hg
       obtain⟨c,_,hg⟩:=hg
       exact ih e c d ps hp.1 hg) _ _ hm
      exact⟨_,by simp[hp.2,hl];rfl⟩
     ·cases h
   |struct fs=>
    simp only[Bool.and_eq_true] at hp
    simp only at h
    split at h <;> first|contradiction|(exfalso;clear ih;simp_all;done)|skip
    ·rw[Option.map_eq_some_iff] at h
     obtain⟨xs,hm,h⟩:=h
     cases h
     obtain⟨l,hl⟩:=zgS (P:=P) (f:=zb1 P fuel) fs.toList xs (fun fd hfd d ps hg=>by
      have:=List.all_eq_true.1 hp.1 fd hfd
      rw[List.contains_iff_mem] at this
      exact ih fd.type _ d ps this hg) hm
     exact⟨_,by simp[hp.2,hl];rfl⟩
   |_=>cases hp

structure BulkLaws(bulk:DataW H->Nat)(all:List (DataW H)->Nat):Prop where
 nil:all []=0
 cons:∀d r,all (d::r)=bulk d+all r
 slice:∀e s,bulk (.slice e s)=all e+all s+1
 agg:∀l,bulk (.agg l)=all l+1
 string:∀l,bulk (.lit (.string l))=l.length+1

structure TermTy(P:Program)(tA tT:TypeId):Prop where
 a:P.underlying tA=some (.slice tT)
 t:∃fs tI tL tS,P.underlying tT=some (.struct fs)/\fs.toList.map (·.type)=[tI,tL,tS,tA]/\P.underlying tI=some (.int .i64)/\P.underlying tL=some (.int .i64)/\P.underlying tS=some .string/\shOf P tT=some 4/\shOf P tA=none/\shOf P tI=none/\shOf P tL=none/\shOf P tS=none

def zqG(n:Int):Prop:= -9223372036854775808<=n/\n<=9223372036854775807
mutual
def Tm.rng:Tm->Prop
 | .mk k n _ as=>zqG k/\zqG n/\Tm.rngs as
def Tm.rngs:List Tm->Prop
 |[]=>True
 |t::r=>t.rng/\Tm.rngs r
end
theorem zvp{n:Int}(h:(Lit.int .i64 n).wf=true):zqG n:=by
 simpa[Lit.wf,IntKind.min,IntKind.max,IntKind.signed,IntKind.bits,zqG] using h

theorem zkl{tA tT:TypeId}(hT:TermTy P tA tT){bulk:DataW H->Nat}{all:List (DataW H)->Nat}(hb:BulkLaws bulk all):∀(n:Nat),
  (∀(d:DataW H) (p:PV),zb1 P n tT d=some p->∃t:Tm,p=t.pv/\t.size<=bulk d/\t.rng)/\
  (∀(d:DataW H) (p:PV),zb1 P n tA d=some p->∃l:List Tm,p=.sl (some 4) (Tm.pvs l)/\Tm.sizes l<=bulk d/\Tm.rngs l)
 |0=>⟨fun d p h=>(by cases h),fun d p h=>(by cases h)⟩
 |n+1=>by
  obtain⟨ih1,ih2⟩:=zkl hT hb n
  have elems:∀(ds:List (DataW H)) (l:List PV),zdg (zb1 P n tT) ds=some l->∃ts:List Tm,l=Tm.pvs ts/\Tm.sizes ts<=all ds/\Tm.rngs ts:=by
   intro ds
   induction ds with
   |nil=>intro l h;cases h;exact⟨[],rfl,Nat.zero_le _,trivial⟩
   |cons d ds ih=>
    intro l h
    simp only[zdg] at h
    split at h
    ·cases h
    ·rename_i p hp
     split at h
     ·rename_i l' hl
      cases h
      obtain⟨t,rfl,h1,h2⟩:=ih1 d p hp
      obtain⟨ts,rfl,h3,h4⟩:=ih l' hl
      exact⟨t::ts,rfl,by rw[hb.cons];simp only[Tm.sizes];omega,h2,h4⟩
     ·cases h
  obtain⟨hA,fs,tI,tL,tS,hS,hf,hI,hL,hSt,s1,s2,s3,s4,s5⟩:=hT
  constructor
  ·intro d p h
   unfold zb1 at h
   rw[hS] at h
   cases d with
   |agg parts=>
    simp only at h
    split at h
    ·split at h
     ·rename_i l hl
      cases h
      obtain⟨f1,f2,f3,f4,hfs⟩:∃f1 f2 f3 f4:Field,fs.toList=[f1,f2,f3,f4]:=by
       match hx:fs.toList,hf with
       |[a,b,c,d],_=>exact⟨a,b,c,d,rfl⟩
      rw[hfs] at hf hl
      simp only[List.map_cons,List.map_nil,List.cons.injEq,and_true] at hf
      obtain⟨e1,e2,e3,e4⟩:=hf
      match parts,hl with
      |[],hl=>cases hl
      |d1::r1,hl=>
       simp only[zbI,e1] at hl
       split at hl
       ·cases hl
       ·rename_i p1 hp1
        split at hl
        ·rename_i l1 hl1
         cases hl
         match r1,hl1 with
         |[],hl1=>cases hl1
         |d2::r2,hl1=>
          simp only[zbI,e2] at hl1
          split at hl1
          ·cases hl1
          ·rename_i p2 hp2
           split at hl1
           ·rename_i l2 hl2
            cases hl1
            match r2,hl2 with
            |[],hl2=>cases hl2
            |d3::r3,hl2=>
             simp only[zbI,e3] at hl2
             split at hl2
             ·cases hl2
             ·rename_i p3 hp3
              split at hl2
              ·rename_i l3 hl3
               cases hl2
               match r3,hl3 with
               |[],hl3=>cases hl3
               |d4::r4,hl3=>
                simp only[zbI,e4] at hl3
                split at hl3
                ·cases hl3
                ·rename_i p4 hp4
                 split at hl3
                 ·rename_i l4 hl4
                  cases hl3
                  match r4,hl4 with
                  |_::_,hl4=>cases hl4
                  |[],hl4=>
                   cases hl4
                   obtain⟨ts,rfl,k1,k2⟩:=ih2 d4 p4 hp4
                   have i64:∀(ty:TypeId) (d:DataW H) (p:PV),P.underlying ty=some (.int .i64)->zb1 P n ty d=some p->∃x,p=.int .i64 x/\zqG x:=by
                    intro ty d p hty hp
                    cases n with
                    |zero=>cases hp
                    |succ n=>
                     unfold zb1 at hp
                     rw[hty] at hp
                     cases d with
                     |lit l=>
                      cases l with
                      |int k x=>
                       simp only at hp
                       split at hp
                       ·rename_i hw
                        cases hp
                        exact⟨x,rfl,zvp hw.2⟩
                       ·cases hp
                      |_=>cases hp
                     |_=>cases hp
                   obtain⟨x1,rfl,g1⟩:=i64 tI d1 p1 hI hp1
                   obtain⟨x2,rfl,g2⟩:=i64 tL d2 p2 hL hp2
                   obtain⟨s,rfl,hs⟩:∃s,p3=.str s/\s.length<=bulk d3:=by
                    cases n with
                    |zero=>cases hp3
                    |succ n=>
                     unfold zb1 at hp3
                     rw[hSt] at hp3
                     cases d3 with
                     |lit l=>
                      cases l with
                      |string s=>cases hp3;exact⟨s,rfl,by rw[hb.string];omega⟩
                      |_=>cases hp3
                     |_=>cases hp3
                   refine⟨.mk x1 x2 s ts,?_,?_,g1,g2,k2⟩
                   ·simp only[Tm.pv,e1,e2,e3,e4,s2,s3,s4,s5]
                   ·rw[hb.agg,hb.cons,hb.cons,hb.cons,hb.cons,hb.nil]
                    simp only[Tm.size]
                    omega
                 ·cases hl3
              ·cases hl2
           ·cases hl1
        ·cases hl
     ·cases h
    ·cases h
   |lit l=>cases l <;> cases h
   |_=>cases h
  ·intro d p h
   unfold zb1 at h
   rw[hA] at h
   cases d with
   |nil=>cases h;exact⟨[],by rw[s1];rfl,Nat.zero_le _,trivial⟩
   |slice es sp=>
    simp only at h
    split at h
    ·split at h
     ·rename_i l hl
      cases h
      obtain⟨ts,rfl,k1,k2⟩:=elems es l hl
      exact⟨ts,by rw[s1],by rw[hb.slice];omega,k2⟩
     ·cases h
    ·cases h
   |lit l=>cases l <;> cases h
   |_=>cases h
end Go.Am

/- Data by their types: what a value of a plain type looks like, and how much it holds. -/
namespace Go.Am
variable{P:Program} {H:Type} {enc:TypeId × Value->H} {w:World}

mutual
def PV.sz:PV->Nat
 | .str s=>s.length+1
 | .agg l=>PV.szc l+1
 | .sl _ es=>PV.szs es+1
 |_=>1
def PV.szc:List (Sh × PV)->Nat
 |[]=>0
 |x::r=>PV.sz x.2+PV.szc r
def PV.szs:List PV->Nat
 |[]=>0
 |x::r=>PV.sz x+PV.szs r
end
def zmC(P:Program)(f:TypeId->PV->Prop):List Field->List (Sh × PV)->Prop
 |[],[]=>True
 |fd::r,x::l=>x.1=shOf P fd.type/\f fd.type x.2/\zmC P f r l
 |_,_=>False
def wt(P:Program):Nat->TypeId->PV->Prop
 |0,_,_=>False
 |n+1,t,p=>match P.underlying t with
  |some .bool=>∃b,p=.bool b
  |some (.int k)=>∃x,p=.int k x/\(Lit.int k x).wf=true
  |some .string=>∃s,p=.str s
  |some (.slice e)=>∃es,p=.sl (shOf P e) es/\∀x∈es,wt P n e x
  |some (.struct fs)=>∃l,p=.agg l/\zmC P (wt P n) fs.toList l
  |_=>False

end Go.Am
