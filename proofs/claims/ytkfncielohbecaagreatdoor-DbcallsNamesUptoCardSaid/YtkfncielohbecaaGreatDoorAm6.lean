/- What is proved: the abstract machine says true of the model (part 6). No conditions beside those that each theorem names. -/
import Derived.Test.YtkfncielohbecaaGreatDoorAm5
set_option linter.unusedSimpArgs false
set_option linter.unusedVariables false
/- Data by their types: what a value of a plain type looks like, and how much it holds. -/
namespace Go.Am
variable{P:Program} {H:Type} {enc:TypeId × Value->H} {w:World}

mutual
def PV.sz:PV->Nat
 | .str s=>s.length+1
 | .agg l=>PV.szc l+1
 | .sl _ es=>PV.szs es+1
 |_=>1
def PV.szc:List (Sh × PV)->Nat
 |[]=>0
 |x::r=>PV.sz x.2+PV.szc r
def PV.szs:List PV->Nat
 |[]=>0
 |x::r=>PV.sz x+PV.szs r
end
def zhe(P:Program)(f:TypeId->PV->Prop):List Field->List (Sh × PV)->Prop
 |[],[]=>True
 |fd::r,x::l=>x.1=shOf P fd.type/\f fd.type x.2/\zhe P f r l
 |_,_=>False
def wt(P:Program):Nat->TypeId->PV->Prop
 |0,_,_=>False
 |n+1,t,p=>match P.underlying t with
  |some .bool=>∃b,p=.bool b
  |some (.int k)=>∃x,p=.int k x/\(Lit.int k x).wf=true
  |some .string=>∃s,p=.str s
  |some (.slice e)=>∃es,p=.sl (shOf P e) es/\∀x∈es,wt P n e x
  |some (.struct fs)=>∃l,p=.agg l/\zhe P (wt P n) fs.toList l
  |_=>False

structure BulkLaws2(bulk:DataW H->Nat)(all:List (DataW H)->Nat):Prop extends BulkLaws bulk all where
 one:∀d,1<=bulk d

theorem zj0{bulk:DataW H->Nat}{all:List (DataW H)->Nat}(hb:BulkLaws2 bulk all){f:DataW H->Option PV}{R:PV->Prop}(hf:∀d p,f d=some p->R p/\p.sz<=bulk d):∀(ds:List (DataW H)) (l:List PV),zcF f ds=some l->(∀x∈l,R x)/\PV.szs l<=all ds
 |[],l,h=>by cases h;exact⟨fun x hx=>(by cases hx),Nat.zero_le _⟩
 |d::ds,l,h=>by
  simp only[zcF] at h
  split at h
  ·cases h
  ·rename_i p hp
   split at h
   ·rename_i l' hl
    cases h
    obtain⟨h1,h2⟩:=hf d p hp
    obtain⟨h3,h4⟩:=zj0 hb hf ds l' hl
    refine⟨fun x hx=> ?_,by rw[hb.cons];simp only[PV.szs];omega⟩
    rcases List.mem_cons.1 hx with rfl|hx
    ·exact h1
    ·exact h3 x hx
   ·cases h
theorem ziu{bulk:DataW H->Nat}{all:List (DataW H)->Nat}(hb:BulkLaws2 bulk all){f:TypeId->DataW H->Option PV}{R:TypeId->PV->Prop}(hf:∀t d p,f t d=some p->R t p/\p.sz<=bulk d):∀(fs:List Field) (ds:List (DataW H)) (l:List (Sh × PV)),zbG P f fs ds=some l->zhe P R fs l/\PV.szc l<=all ds
 |[],ds,l,h=>by
  cases ds with
  |nil=>cases h;exact⟨trivial,Nat.zero_le _⟩
  |cons d r=>cases h
 |fd::fs,ds,l,h=>by
  cases ds with
  |nil=>cases h
  |cons d r=>
   simp only[zbG] at h
   split at h
   ·cases h
   ·rename_i p hp
    split at h
    ·rename_i l' hl
     cases h
     obtain⟨h1,h2⟩:=hf fd.type d p hp
     obtain⟨h3,h4⟩:=ziu hb hf fs r l' hl
     exact⟨⟨rfl,h1,h3⟩,by rw[hb.cons];simp only[PV.szc];omega⟩
    ·cases h
theorem zmE{bulk:DataW H->Nat}{all:List (DataW H)->Nat}(hb:BulkLaws2 bulk all):∀(n:Nat) (t:TypeId) (d:DataW H) (p:PV),zcX P n t d=some p->wt P n t p/\p.sz<=bulk d
 |0,t,d,p,h=>by cases h
 |n+1,t,d,p,h=>by
  have ih:=fun t d p=>zmE hb n t d p
  have one:=hb.one d
  unfold zcX at h
  unfold wt
  cases hu:P.underlying t with
  |none=>rw[hu] at h;cases h
  |some u=>
   rw[hu] at h
   cases u with
   |bool=>
    cases d with
    |lit l=>cases l <;> first|(cases h;done)|(cases h;exact⟨⟨_,rfl⟩,one⟩)
    |_=>cases h
   |int k=>
    cases d with
    |lit l=>
     cases l with
     |int k' x=>
      simp only at h
      split at h
      ·rename_i hw
       cases h
       obtain⟨e,hw⟩:=hw
       subst e
       exact⟨⟨x,rfl,hw⟩,one⟩
      ·cases h
     |_=>cases h
    |_=>cases h
   |string=>
    cases d with
    |lit l=>
     cases l with
     |string s=>cases h;exact⟨⟨_,rfl⟩,by rw[hb.string];exact Nat.le_refl _⟩
     |_=>cases h
    |_=>cases h
   |slice e=>
    cases d with
    |nil=>cases h;exact⟨⟨[],rfl,fun x hx=>(by cases hx)⟩,one⟩
    |slice es sp=>
     simp only at h
     split at h
     ·split at h
      ·rename_i l hl
       cases h
       obtain⟨h1,h2⟩:=zj0 hb (ih e) es l hl
       exact⟨⟨l,rfl,h1⟩,by rw[hb.slice];simp only[PV.sz];omega⟩
      ·cases h
     ·cases h
    |lit l=>cases l <;> cases h
    |_=>cases h
   |struct fs=>
    cases d with
    |agg parts=>
     simp only at h
     split at h
     ·split at h
      ·rename_i l hl
       cases h
       obtain⟨h1,h2⟩:=ziu hb ih fs.toList parts l hl
       exact⟨⟨l,rfl,h1⟩,by rw[hb.agg];simp only[PV.sz];omega⟩
      ·cases h
     ·cases h
    |lit l=>cases l <;> cases h
    |_=>cases h
   |_=>cases d <;> first|(cases h;done)|(rename_i l;cases l <;> cases h)

end Go.Am

/- Structs and lists out of data. -/
namespace Go.Am
variable{P:Program}
def zph(P:Program)(t:TypeId):Option (List TypeId):=
 match P.underlying t with
 |some (.struct fs)=>some (fs.toList.map (·.type))
 |_=>none
def zoR(P:Program)(t:TypeId):Bool:=match P.underlying t with|some (.int .i64)=>true|_=>false
def zoS(P:Program)(t:TypeId):Bool:=match P.underlying t with|some .string=>true|_=>false
theorem zoT{n:Nat}{t:TypeId}{p:PV}(h:zoR P t=true)(hw:wt P n t p):∃x,p=.int .i64 x/\zny x:=by
 cases n with
 |zero=>exact hw.elim
 |succ n=>
  unfold wt at hw
  unfold zoR at h
  split at h
  ·rename_i hu;rw[hu] at hw;obtain⟨x,rfl,hx⟩:=hw;exact⟨x,rfl,zoQ hx⟩
  ·cases h
theorem zoU{n:Nat}{t:TypeId}{p:PV}(h:zoS P t=true)(hw:wt P n t p):∃x,p=.str x:=by
 cases n with
 |zero=>exact hw.elim
 |succ n=>
  unfold wt at hw
  unfold zoS at h
  split at h
  ·rename_i hu;rw[hu] at hw;exact hw
  ·cases h
end Go.Am
