/- What is proved: the abstract machine says true of the model (part 6). No conditions beside those that each theorem names. -/
import Derived.Test.YtgedfopkiebjkaaGreatDoorAm4
import Derived.Shelf.Strings.Fields
set_option linter.unusedSimpArgs false
set_option linter.unusedVariables false
/- strings.Fields by the library's contract, on letters below 128. -/
namespace Go.Am
open Go.Shelf Go.Proofs
variable{P:Program} {w:World} {X:Xc P} {μ:Nat->Option Nat} {hp:Heap}

def QK:Ya:=fun _ args hp=>match args with
 |[.pv _ (.str s)]=>if s.length<4294967281/\s.all (fun b=>decide (b.toNat<128))=true then some (.ret (.pv none (.sl none ((Lib.fields s).map .str))),hp) else none
 |_=>none

theorem PR.zBj{I:Nat->Prop}{sh:Sh}{es:List PV}{v:Value}(h:PR w I (.sl sh es) v)(hne:es≠[]):∃(b o n:Nat) (cs:Array Value) (t:TypeId) (fr:Nat × Nat) (vals:List Value),v=.slice (some ⟨b,o,none⟩) es.length n/\es.length=vals.length/\I b/\w.heap[b]? =some (.cells cs t fr)/\
  (∀(i:Nat) (p:PV) (v:Value),es[i]? =some p->vals[i]? =some v->vshp v=sh/\PR w I p v)/\cellsOf vals=(cs.toList.drop o).take (es.length*sh.size):=by
 cases h with
 |nilsl=>grind
 |sl _ _ b o n cs t fr vals hl hI hb h h' hc hn=>grind

theorem Vl:∀(zs:List Int) (vs:List Value),zs.length=vs.length->(∀(i:Nat) (z:Int) (v:Value),zs[i]? =some z->vs[i]? =some v->v=.int .u8 z)->cellsOf vs=zs.map (.int .u8)
 |[],[],_,_=>rfl
 |[],_::_,h,_=>by grind
 |_::_,[],h,_=>by grind
 |z::zs,v::vs,h,hv=>by
  have e:=hv 0 z v rfl rfl;subst e;rw[Yc,Vl zs vs (by grind) fun i z v h1 h2=>hv (i+1) z v (by grind) (by grind)];rfl

theorem mg{I:Nat->Prop}{g:Nat}(h:PR w I Uc (.slice (some ⟨g,0,none⟩) 256 256))(c:Nat)(hc:c<256):w.cell? ⟨g,c,none⟩=some (.int .u8 (if Lib.isSp (UInt8.ofNat c) then 1 else 0)):=by
 have hlen:(Lib.asciiSpaceTab.map fun z=>PV.int .u8 z).length=256:=by rw[List.length_map,Lib.asciiSpaceTab_length]
 obtain⟨b,o,n,cs,t,fr,vals,e,hl,hI,hb,hv,hcs⟩:=PR.zBj h (fun e=>by grind);injection e with e1 e2 e3
 cases e1;rw[hlen] at hl hcs;have hval:∀(i:Nat) (z:Int) (v:Value),Lib.asciiSpaceTab[i]? =some z->vals[i]? =some v->v=.int .u8 z:=by
  intro i z v h1 h2;exact(hv i (.int .u8 z) v (by simp[h1]) h2).2.int_inv
 rw[Vl Lib.asciiSpaceTab vals (by grind) hval] at hcs;have hz:Lib.asciiSpaceTab[c]? =some (if Lib.isSp (UInt8.ofNat c) then 1 else 0):=by
  have:=Lib.asciiSpaceTab_at c hc
  grind
 have hget:cs[c]? =some (.int .u8 (if Lib.isSp (UInt8.ofNat c) then 1 else 0)):=by
  have:=congrArg (fun l=>l[c]?) hcs;simp only[ZU,hz,Option.map_some,Sh.size,Nat.mul_one,List.drop_zero] at this;rw[ZT,Zj hc] at this;simpa using this.symm
 grind [World.cell?]

theorem mh{I:Nat->Prop}(hI:∀b,I b)(h:∀g,P.globalNamed "strings.asciiSpace" =some g->∃t fr,w.heap[g]? =some (.cells (Lib.asciiSpaceTab.map fun z=>Value.int .u8 z).toArray t fr)):TabR P w I:=by
 intro g hg;obtain⟨t,fr,hb⟩:=h g hg;have hlen:(Lib.asciiSpaceTab.map fun z=>PV.int .u8 z).length=256:=by rw[List.length_map,Lib.asciiSpaceTab_length]
 have k:=PR.sl (w:=w) (I:=I) none (Lib.asciiSpaceTab.map fun z=>PV.int .u8 z) g 0 256 _ t fr (Lib.asciiSpaceTab.map fun z=>Value.int .u8 z) (by simp) (hI g) hb
  (fun i p v h1 h2=>by
   simp only[ZU,ZA] at h1 h2;obtain⟨z,hz,rfl⟩:=h2;rfl)
  (fun i p v h1 h2=>by
   simp only[ZU,ZA] at h1 h2;obtain⟨z,hz,rfl⟩:=h2;obtain⟨z',hz',rfl⟩:=h1;rw[hz] at hz';cases hz';exact .int _ _)
  (by
   rw[hlen,Vl Lib.asciiSpaceTab _ (by simp) (fun i z v h1 h2=>by
    simp only[ZU,ZA] at h2;obtain⟨z',hz',rfl⟩:=h2;rw[h1] at hz';cases hz';rfl)]
   grind [Sh.size,Zl])
  (by grind)
 rw[hlen] at k;exact k

theorem mi{ρ:Ren}{f:FuncId}{fn:Func}{c:Code}(L:Lays.n157 P ρ)(hi9:(P.info? (ρ.t 9)).map (fun i=>(i.zero,i.size,i.bytes))=some (some (.string ByteArray.empty),1,16))(hg:P.globalNamed "strings.asciiSpace" =some (ρ.g 0))
  (hρ:ρ.f 157=f)(hf:P.funcs[f]? =some fn)(hb:fn.body=some c)(hn:fn.name≠ "runtime.NumGoroutine"):X4 P f QK:=by
 intro args hp r hp' h w X μ vs hH hl;unfold QK at h;split at h
 ·rename_i s1 s;split at h
  ·rename_i hs;cases h;cases hl with|cons h1 hl=>
   cases hl;have e1:=h1.str_inv;subst e1;refine .inl ⟨xU hf hb hn,?_⟩;have hasc:∀(j:Nat) (b:UInt8),(ByteArray.mk s.toArray).data.toList[j]? =some b->b.toNat<128:=fun j b hj=>by
    grind
   have k:=Any.strings_Fields_core L hi9 ⟨s.toArray⟩ w (by grind [ByteArray.size]) hasc (fun c hc=>mg (hH.tab _ hg) c hc);rw[hρ] at k;refine k.mono fun e w' he=> ?_;obtain⟨rfl,rfl⟩:=he;simp only[];refine⟨μ,_,rfl,hH.alloc _,Ext.alloc _ _,.pv _ _ _ rfl ?_⟩;cases hfs:Lib.fields s with
   |nil=>exact .nilsl _ _ _
   |cons x r=>
    rw[<-hfs];have hne:Lib.fields s≠[]:=by grind
    have k:=PR.sl (w:=w.alloc (.cells ((Lib.fields s).map fun l=>Value.string ⟨l.toArray⟩).toArray (ρ.t 9))) (I:=Im X μ hp) none ((Lib.fields s).map PV.str) w.heap.size 0 (Lib.fields s).length _ (ρ.t 9) (0,0) ((Lib.fields s).map fun l=>Value.string ⟨l.toArray⟩) (by simp)
     ⟨fun hx=>by have:=hH.xlt _ hx;omega,fun i hl e=>by have:=(hH.out i _ (yV hl) e).2;omega⟩ (YH w _)
     (fun i p v h1 h2=>by
      simp only[ZU,ZA] at h2;obtain⟨z,hz,rfl⟩:=h2;rfl)
     (fun i p v h1 h2=>by
      simp only[ZU,ZA] at h1 h2;obtain⟨z,hz,rfl⟩:=h2;obtain⟨z',hz',rfl⟩:=h1;rw[hz] at hz';cases hz';exact .str _)
     (by
      have:cellsOf ((Lib.fields s).map fun l=>Value.string ⟨l.toArray⟩)=(Lib.fields s).map fun l=>Value.string ⟨l.toArray⟩:=by
       generalize Lib.fields s=q
       induction q with
       |nil=>rfl
       |cons x r ih=>rw[ZV,Yc,ih];rfl
      grind [Sh.size,Zl])
     (by simp)
    grind
  grind
 grind
end Go.Am
