/- What is proved: the abstract machine says true of the model (part 6). No conditions beside those that each theorem names. -/
import Derived.Test.YtkkppaoehnpboaaGreatDoorAm5
set_option linter.unusedSimpArgs false
set_option linter.unusedVariables false
/- The standard order of terms is an order. -/
namespace Go.Am
open Lib (compareBytes)
theorem Gb{x y:Int}:Xe x y=0↔x=0/\y=0:=by
 unfold Xe;split <;> omega
theorem cb_zero:∀{a b:List UInt8},compareBytes a b=0↔a=b
 |[],[]=>by simp[compareBytes]
 |[],_::_=>by simp[compareBytes]
 |_::_,[]=>by simp[compareBytes]
 |x::a,y::b=>by
  simp only[compareBytes,List.cons.injEq];split
  ·rename_i h;constructor
   ·intro h;omega
   ·rintro⟨rfl,_⟩;exact absurd h (by simp[UInt8.lt_iff_toNat_lt])
  ·split
   ·rename_i h;constructor
    ·intro h;omega
    ·rintro⟨rfl,_⟩;exact absurd h (by simp[UInt8.lt_iff_toNat_lt])
   ·rename_i h1 h2;have:x=y:=by
     rw[UInt8.lt_iff_toNat_lt] at h1 h2;exact UInt8.toNat_inj.1 (by omega)
    simp[this,cb_zero]
theorem Tm.ext{a b:Tm}(h1:a.kind=b.kind)(h2:a.n=b.n)(h3:a.name=b.name)(h4:a.args=b.args):a=b:=by
 cases a;cases b;simp_all[Tm.kind,Tm.n,Tm.name,Tm.args]
theorem Tm.cmp_zero:∀{a b:Tm},a.cmp b=0↔a=b:=by
 intro a
 induction a using Tm.zyE with
 |h a ih=>
  intro b;have lists:∀(l r:List Tm),(∀t∈l,∀{b:Tm},t.cmp b=0↔t=b)->l.length=r.length->(Tm.cmps l r=0↔l=r):=by
   intro l
   induction l with
   |nil=>intro r _ hl;have:r=[]:=zZ.1 hl.symm;subst this;simp[Tm.cmps]
   |cons x l ihl=>
    intro r hx hl;cases r with
    |nil=>simp at hl
    |cons y r=>
     simp only[Tm.cmps,Gb,List.cons.injEq];rw[hx x (by simp),ihl r (fun t ht=>hx t (by simp[ht])) (by simpa using hl)]
  rw[Tm.zyZ];simp only[Gb,Me,cb_zero];constructor
  ·rintro⟨h1,h2,h3,h4,h5⟩;exact Tm.ext h1 h2 h4 ((lists _ _ ih (by omega)).1 h5)
  ·rintro rfl;exact⟨rfl,rfl,rfl,rfl,(lists _ _ ih rfl).2 rfl⟩
end Go.Am

/- Heaps of which a part is known. -/
namespace Go.Am
theorem getN{l xs:Heap}{n:Nat}(h:l.length=n)(k:Nat):(l++xs)[n+k]? =xs[k]? :=by
 rw[<-h,ZZ (by omega)]
 congr 1
 omega
theorem YY{l xs:Heap}{n:Nat}(h:l.length=n):(l++xs)[n]? =xs[0]? :=getN h 0
theorem setN{l xs:Heap}{n:Nat}(h:l.length=n)(k:Nat)(x:AObj):(l++xs).set (n+k) x=l++xs.set k x:=by
 rw[<-h,List.set_append_right _ _ (by omega)]
 congr 2
 omega
theorem yq{l xs:Heap}{n:Nat}(h:l.length=n)(x:AObj):(l++xs).set n x=l++xs.set 0 x:=setN h 0 x
theorem xL{l xs:Heap}{n:Nat}(h:l.length=n)(k:Nat):(l++xs).take (n+k)=l++xs.take k:=by
 rw[<-h,zp,Zu (by omega)]
 congr 2
 omega
theorem Mi{l xs:Heap}{n:Nat}(h:l.length=n):(l++xs).take n=l:=by rw[<-h];exact Z7
theorem Qq{n b:Nat}(k:Nat){fr:Fr}{base xs:Heap}(hb:base.length=b)(hn:n=b+k)(ho:(xs.take k).all (fun o=>o.refs.all (fun q=>decide (q<n)))=true)(hf:fr.all (fun x=>x.2.refsIn.all (fun q=>decide (q<n)))=true):collect n b fr (base++xs)=base++xs.take k:=by
 have h1:(base++xs).take n=base++xs.take k:=by rw[hn];exact xL hb k
 have h2:((base++xs).take n).drop b=xs.take k:=by rw[h1,<-hb];exact zk
 unfold collect;rw[Zd (by rw[hf,h2,ho];rfl),h1]
variable{F:FuncId->Option AFn} {prim:FuncId->Option Ym}
theorem Yy{α:Type}(N:Nat)(inv:Nat->α->Prop)(sti:Nat->α->St){b:Nat}{keep:List Nat}{c:ACode}{st:St}{Q:AExit->St->Prop}(a0:α)(h0:inv 0 a0/\(⟨st.fr.keep keep,st.hp⟩:St)=sti 0 a0)
  (h1:∀i a,i<N->inv i a->W (sem F prim) (sloop F prim) b c (sti i a) (seqK (fun st'=>∃a',inv (i+1) a'/\(⟨st'.fr.keep keep,collect st.hp.length b (st'.fr.keep keep) st'.hp⟩:St)=sti (i+1) a') Q))
  (h2:∀a,inv N a->W (sem F prim) (sloop F prim) b c (sti N a) (seqK (fun _=>False) Q)):W (sem F prim) (sloop F prim) b (.loop keep c) st Q:=by
 refine xK (fun n s=>∃i a,n=N - i/\i<=N/\inv i a/\s=sti i a) (n:=N) ⟨0,a0,rfl,Ze _,h0.1,h0.2⟩ ?_;rintro n s ⟨i,a,hn,hi,hinv,rfl⟩;by_cases h:i<N
 ·refine qO (h1 i a h hinv) fun e st' he=> ?_;cases e with
  |normal=>
   obtain⟨a',k1,k2⟩:=he;exact⟨N - (i+1),by omega,i+1,a',rfl,by omega,k1,k2⟩
  |exit j=>exact he
  |ret=>exact he
  |panic v=>exact he
 ·obtain rfl:i=N:=by omega
  refine qO (h2 a hinv) fun e st' he=> ?_;cases e with
  |normal=>exact he.elim
  |exit j=>exact he
  |ret=>exact he
  |panic v=>exact he
theorem Gc{str ok:Bool}{sh:Sh}{zero:AV}{hp:Heap}{r:Nat}{s:Sh}{k v:PV}{es:List (PV × PV)}(ho:hp[r]? =some (.map sh es))(hf:afind str k es=some (some v)):yh str sh zero ok hp [.map r,.pv s k]=some (bif ok then .tuple [.pv sh v,.pv none (.bool true)] else .pv sh v):=by
 simp[yh,ho,hf]
theorem Gd{str ok:Bool}{sh:Sh}{zero:AV}{hp:Heap}{r:Nat}{s:Sh}{k:PV}{es:List (PV × PV)}(ho:hp[r]? =some (.map sh es))(hf:afind str k es=some none):yh str sh zero ok hp [.map r,.pv s k]=some (bif ok then .tuple [zero,.pv none (.bool false)] else zero):=by
 simp[yh,ho,hf]
theorem kE{str:Bool}{sh:Sh}{hp:Heap}{r:Nat}{s:Sh}{k p:PV}{es es':List (PV × PV)}(ho:hp[r]? =some (.map sh es))(hf:aput str k p es=some es'):Xt str sh hp [.map r,.pv s k,.pv sh p]=some (.undef,hp.set r (.map sh es')):=by
 have h:AV.freeze deep (.pv sh p) hp=some (p,hp):=rfl;simp[Xt,AV.shp,h,ho,hf]
end Go.Am

/- Sorting: insertion, merging, and that both come to the same. -/
namespace Go.Am
section
variable{α:Type} (c:α->α->Int)
def mrg:List α->List α->List α
 |[],B=>B
 |a::A,B=>go a A (mrg A) B
where
 go (a:α) (A:List α) (rest:List α->List α):List α->List α
 |[]=>a::A
 |b::B=>if c b a<0 then b::go a A rest B else a::rest (b::B)
theorem Ge:∀A:List α,mrg c A []=A
 |[]=>rfl
 |_::_=>rfl
theorem Gf(a:α)(A:List α)(b:α)(B:List α):mrg c (a::A) (b::B)=if c b a<0 then b::mrg c (a::A) B else a::mrg c A (b::B):=rfl
def Srt(l:List α):Prop:=l.Pairwise fun x y=>c x y<=0

variable{c}
theorem Srt.tail{a:α}{l:List α}(h:Srt c (a::l)):Srt c l:=(List.pairwise_cons.1 h).2
theorem Srt.head{a:α}{l:List α}(h:Srt c (a::l)):∀x∈l,c a x<=0:=(List.pairwise_cons.1 h).1
theorem Gg:∀(A B:List α),(mrg c A B).Perm (A++B)
 |[],B=>by simp[mrg]
 |a::A,B=>by
  induction B with
  |nil=>simp[Ge]
  |cons b B ih=>
   rw[Gf];split
   ·exact(List.Perm.cons b ih).trans (List.perm_middle (l₁:=a::A) (l₂:=B) (a:=b)).symm
   ·exact List.Perm.cons a (Gg A (b::B))
def insC(c:α->α->Int)(t:α):List α->List α
 |[]=>[t]
 |x::l=>if c t x<0 then t::x::l else x::insC c t l
def isort(c:α->α->Int)(l:List α):List α:=l.foldl (fun s t=>insC c t s) []
theorem Gh(t:α):∀l:List α,insC c t l=mrg c l [t]
 |[]=>rfl
 |x::l=>by
  rw[Gf,insC];split
  ·rw[Ge]
  ·rw[Gh t l]
theorem Mj(l:List α):(isort c l).Perm l:=by
 have:∀(l A:List α),(l.foldl (fun s t=>insC c t s) A).Perm (A++l):=by
  intro l
  induction l with
  |nil=>intro A;simp
  |cons t l ih=>
   intro A;refine(ih _).trans ?_;show(insC c t A++l).Perm _;rw[Gh];refine((Gg A [t]).append_right l).trans ?_;simp
 simpa[isort] using this l []
theorem kF(l:List α):(isort c l).length=l.length:=(Mj l).length_eq
end
end Go.Am
namespace Go.Am
end Go.Am
namespace Go.Am
section
variable{α:Type} {c:α->α->Int}
inductive Blk(c:α->α->Int)(n:Nat):List α->List α->Prop
 |last (x:List α) (h:x.length<=n):Blk c n x (isort c x)
 |cons (x r d:List α) (h:x.length=n) (k:Blk c n r d):Blk c n (x++r) (isort c x++d)
inductive Full(c:α->α->Int)(n:Nat):List α->List α->Prop
 |nil:Full c n [] []
 |snoc (x r d:List α) (h:x.length=n) (k:Full c n r d):Full c n (r++x) (d++isort c x)
theorem Full.blk{n:Nat}{r d r' d':List α}(h:Full c n r d)(k:Blk c n r' d'):Blk c n (r++r') (d++d'):=by
 induction h generalizing r' d' with
 |nil=>exact k
 |snoc x r d hx _ ih=>
  have:=ih (.cons x r' d' hx k);simpa using this
theorem Full.length{n:Nat}{r d:List α}(h:Full c n r d):d.length=r.length:=by
 induction h with
 |nil=>rfl
 |snoc x r d hx _ ih=>simp[ih,kF]
theorem Blk.length{n:Nat}{r d:List α}(h:Blk c n r d):d.length=r.length:=by
 induction h with
 |last x h=>exact kF x
 |cons x r d hx _ ih=>simp[ih,kF]
theorem Blk.whole{n:Nat}{r d:List α}(h:Blk c n r d)(hr:r.length<=n):d=isort c r:=by
 cases h with
 |last x h=>rfl
 |cons x r d hx k=>
  have:r=[]:=zZ.1 (by simp at hr;omega);subst this;have hd:d=[]:=zZ.1 (by rw[k.length];rfl);subst hd;simp
theorem Blk.two{n:Nat}{r d:List α}(h:Blk c n r d)(hn:0<n)(hr:n<r.length):∃x y r2 d2,r=x++y++r2/\d=isort c x++isort c y++d2/\x.length=n/\y.length<=n/\0<y.length/\Blk c n r2 d2/\(y.length<n->r2=[]):=by
 cases h with
 |last x h=>omega
 |cons x r1 d1 hx k=>
  cases k with
  |last _ hy=>exact⟨x,r1,[],[],by simp,by simp,hx,hy,by simp at hr;omega,.last [] (by simp),fun _=>rfl⟩
  |cons y r2 d2 hy k=>exact⟨x,y,r2,d2,by simp,by simp,hx,by omega,by omega,k,fun h=>by omega⟩
end
end Go.Am

/- Terms out of values, and comparing by what they stand for. -/
namespace Go.Am
end Go.Am

/- Runs with facts: what is known of calls of values alone is looked up. -/
namespace Go.Am
mutual
def PV.eqB:Nat->PV->PV->Bool
 |0,_,_=>false
 |_+1,.bool a,.bool b=>a == b
 |_+1,.int k n,.int k' n'=>decide (k=k') && decide (n=n')
 |_+1,.str s,.str s'=>decide (s.map UInt8.toNat=s'.map UInt8.toNat)
 |d+1,.agg l,.agg l'=>PV.eqA d l l'
 |d+1,.sl sh es,.sl sh' es'=>decide (sh=sh') && PV.eqL d es es'
 |_+1,_,_=>false
termination_by structural d _ _=>d
def PV.eqA:Nat->List (Sh × PV)->List (Sh × PV)->Bool
 |0,_,_=>false
 |_+1,[],[]=>true
 |d+1,(s,a)::r,(s',b)::r'=>decide (s=s') && (PV.eqB d a b && PV.eqA d r r')
 |_+1,_,_=>false
termination_by structural d _ _=>d
def PV.eqL:Nat->List PV->List PV->Bool
 |0,_,_=>false
 |_+1,[],[]=>true
 |d+1,a::r,b::r'=>PV.eqB d a b && PV.eqL d r r'
 |_+1,_,_=>false
termination_by structural d _ _=>d
end
theorem Gi:∀{a b:List UInt8},a.map UInt8.toNat=b.map UInt8.toNat->a=b
 |[],[],_=>rfl
 |[],_::_,h=>by simp at h
 |_::_,[],h=>by simp at h
 |x::r,y::t,h=>by
  simp only[ZX,List.cons.injEq] at h;rw[UInt8.toNat.inj h.1,Gi h.2]
theorem Gj:∀d,(∀a b,PV.eqB d a b=true->a=b)/\(∀a b,PV.eqA d a b=true->a=b)/\(∀a b,PV.eqL d a b=true->a=b)
 |0=>⟨fun _ _ h=>Bool.noConfusion (show false=true from h),fun _ _ h=>Bool.noConfusion (show false=true from h),fun _ _ h=>Bool.noConfusion (show false=true from h)⟩
 |d+1=>by
  obtain⟨h1,h2,h3⟩:=Gj d;refine⟨fun a b h=> ?_,fun a b h=> ?_,fun a b h=> ?_⟩
  ·cases a <;> cases b <;> try (exact Bool.noConfusion (show false=true from h))
   ·rw[eq_of_beq h]
   ·rename_i k n k' n';have h:(decide (k=k') && decide (n=n'))=true:=h;simp only[Zg,Zr] at h;rw[h.1,h.2]
   ·rw[Gi (zl h)]
   ·rw[h2 _ _ h]
   ·rename_i sh es sh' es';have h:(decide (sh=sh') && PV.eqL d es es')=true:=h;simp only[Zg,Zr] at h;rw[h.1,h3 _ _ h.2]
  ·cases a with
   |nil=>cases b with
    |nil=>rfl
    |cons=>exact Bool.noConfusion (show false=true from h)
   |cons x r=>cases b with
    |nil=>exact Bool.noConfusion (show false=true from h)
    |cons y t=>
     obtain⟨s,a⟩:=x;obtain⟨s',b⟩:=y;have h:(decide (s=s') && (PV.eqB d a b && PV.eqA d r t))=true:=h;simp only[Zg,Zr] at h;rw[h.1,h1 _ _ h.2.1,h2 _ _ h.2.2]
  ·cases a with
   |nil=>cases b with
    |nil=>rfl
    |cons=>exact Bool.noConfusion (show false=true from h)
   |cons x r=>cases b with
    |nil=>exact Bool.noConfusion (show false=true from h)
    |cons y t=>
     have h:(PV.eqB d x y && PV.eqL d r t)=true:=h;simp only[Zg] at h;rw[h1 _ _ h.1,h3 _ _ h.2]
abbrev Facts:=List (FuncId × List (Sh × PV) × AV)
def qQ:Facts->FuncId->List (Sh × PV)->Option AV
 |[],_,_=>none
 |(g,qs,v)::r,f,ps=>bif Nat.beq g f then(bif PV.eqA 60 qs ps then some v else qQ r f ps) else qQ r f ps
def hasF:Facts->FuncId->Bool
 |[],_=>false
 |(g,_,_)::r,f=>bif Nat.beq g f then true else hasF r f
def kG(K:Facts)(f:FuncId)(args:List AV)(hp:Heap):Option (ARes × Heap):=
 match Yp args hp with
 |none=>none
 |some (ps,hp1)=>match qQ K f ps with
  |some v=>some (.ret v,bif v.scalar then hp else hp1)
  |none=>none
def Xi(K:Facts)(F:FuncId->Option AFn)(prim:FuncId->Option Ym):Nat->Oracle
 |0=>fun _ _ _ _=>none
 |n+1=>fun k f args hp=>match k with
  | .fn=>bif hasF K f then(match kG K f args hp with
    |some r=>some r
    |none=>acall F prim (Xi K F prim n) (aloop (Xi K F prim n) n) .fn f args hp)
   else acall F prim (Xi K F prim n) (aloop (Xi K F prim n) n) .fn f args hp
  |k=>acall F prim (Xi K F prim n) (aloop (Xi K F prim n) n) k f args hp
variable{F:FuncId->Option AFn} {prim:FuncId->Option Ym}
theorem freezeAll_pvs':∀(ps:List (Sh × PV)) {hp:Heap},Yp (pvs ps) hp=some (ps,hp)
 |[],_=>rfl
 |(sh,p)::r,hp=>by
  have h:AV.freeze deep (.pv sh p) hp=some (p,hp):=rfl;show Yp (.pv sh p::pvs r) hp=_;simp only[Yp,h,freezeAll_pvs' r,AV.shp]
def kH(F:FuncId->Option AFn)(prim:FuncId->Option Ym)(f:FuncId):Bool:=
 match prim f,F f with
 |none,some fn=> !fn.heapMode
 |_,_=>false
def resV:Option (ARes × Heap)->Option AV
 |some (.ret v,_)=>some v
 |_=>none
inductive FactsOk(F:FuncId->Option AFn)(prim:FuncId->Option Ym):Facts->Prop
 |nil:FactsOk F prim []
 |cons {f:FuncId} {qs:List (Sh × PV)} {v:AV} {K:Facts} (hp:kH F prim f=true) (h:resV (sem F prim .fn f (pvs qs) [])=some v) (k:FactsOk F prim K):FactsOk F prim ((f,qs,v)::K)
theorem kI{f:FuncId}{ps:List (Sh × PV)}{v:AV}:∀{K:Facts},FactsOk F prim K->qQ K f ps=some v->kH F prim f=true/\resV (sem F prim .fn f (pvs ps) [])=some v
 |_,.nil,h=>by cases h
 |_,.cons (f:=g) (qs:=qs) hp h1 k,h=>by
  unfold qQ at h;cases hg:Nat.beq g f with
  |false=>rw[hg] at h;exact kI k h
  |true=>
   rw[hg] at h;have hgf:g=f:=zd hg;cases he:PV.eqA 60 qs ps with
   |false=>rw[he] at h;exact kI k h
   |true=>
    rw[he] at h;cases h;rw[<-(Gj 60).2.1 _ _ he,<-hgf];exact⟨hp,h1⟩
theorem Mk{K:Facts}(hK:FactsOk F prim K){f:FuncId}{args:List AV}{hp:Heap}{r:ARes × Heap}(h:kG K f args hp=some r):sem F prim .fn f args hp=some r:=by
 unfold kG at h;split at h
 ·cases h
 ·rename_i ps hp1 hz;split at h
  ·rename_i v hv;cases h;obtain⟨h1,h2⟩:=kI hK hv;unfold kH at h1;split at h1
   ·rename_i fn hpr hF;rw[XW] at h2 ⊢;unfold Y6 at h2 ⊢;rw[hpr,hF] at h2 ⊢;have hm:fn.heapMode=false:=by simpa using h1
    simp only[hm,ZM,if_false,hz,freezeAll_pvs'] at h2 ⊢;split at h2
    ·cases h2
    ·rename_i hrc;rw[Za hrc];cases hb:abody (sem F prim) (sloop F prim) fn (pvs ps) [] with
     |none=>rw[hb] at h2;cases h2
     |some q=>
      obtain⟨q,hp2⟩:=q;rw[hb] at h2;cases q with
      |panic v'=>cases h2
      |ret v'=>
       simp only at h2 ⊢;cases hf:v'.freezeRes hp2 with
       |none=>rw[hf] at h2;cases h2
       |some x=>
        rw[hf] at h2;cases h2;rfl
   ·cases h1
  ·cases h
theorem jf:∀n,LLe (aloop (sem F prim) n) (sloop F prim)
 |0=>fun _ _ _ _ _ _ h=>by cases h
 |n+1=>fun b m keep c st r h=>by
  simp only[aloop] at h;rw[un];split at h
  ·rename_i ho;rw[yo (OLe.refl _) (jf n) ho];exact jf n _ _ _ _ _ _ h
  ·rename_i hn;rw[yo (OLe.refl _) (jf n) h];split
   ·rename_i e;cases e;exact(hn _ h).elim
   ·rfl
theorem jg{K:Facts}(hK:FactsOk F prim K):∀n,OLe (Xi K F prim n) (sem F prim)
 |0=>fun _ _ _ _ _ h=>by cases h
 |n+1=>fun k f args hp r h=>by
  have key:acall F prim (Xi K F prim n) (aloop (Xi K F prim n) n) k f args hp=some r->sem F prim k f args hp=some r:=fun h=>by
   rw[kn];exact kh (jg hK n) ((Xq (jg hK n) (Zc n)).trans (jf n)) _ _ _ _ _ h
  unfold Xi at h;split at h
  ·cases hh:hasF K f with
   |false=>rw[hh] at h;exact key h
   |true=>
    rw[hh] at h;simp only[cond_true] at h;split at h
    ·rename_i r' hr;cases h;exact Mk hK hr
    ·exact key h
  ·exact key h
theorem YS{K:Facts}(hK:FactsOk F prim K){n:Nat}{f:FuncId}{qs:List (Sh × PV)}{v:AV}(h:resV (Xi K F prim n .fn f (pvs qs) [])=some v):resV (sem F prim .fn f (pvs qs) [])=some v:=by
 cases hr:Xi K F prim n .fn f (pvs qs) [] with
 |none=>rw[hr] at h;cases h
 |some r=>
  rw[jg hK n _ _ _ _ _ hr];rw[hr] at h;exact h
end Go.Am
