/- The functions as the abstract machine has them,each proved to be what the translation gives. -/
import Derived.Test.YtligpohiokpnhaaAm4
import Derived.Test.YtligpohiokpnhaaProg
import Derived.KernelRfl
namespace Go.Proofs.Ytligpohiokpnhaa
open Go.Am
def oP(d:Nat)(p:AOp)(l:List AArg):AOper:=⟨some d,p,l,none⟩
def aZ:AOp:=.alloc (some 4) (.agg [(none,(.pv none (.int .i64 0))),(none,(.pv none (.int .i64 0))),(none,(.pv none (.str []))),(none,(.tsl (some 4) []))])
def bZ(l:List Nat):AOp:=.build [(none,(.pv none (.int .i64 0))),(none,(.pv none (.int .i64 0))),(none,(.pv none (.str []))),(none,(.tsl (some 4) []))] l
def oMv(d s:Nat):AOper:=⟨some d,.mv,[.t s],none⟩
def oLf(d s:Nat):AOper:=⟨some d,.load (some 4),[.t s],none⟩
def oLo(d s:Nat):AOper:=⟨some d,.load none,[.t s],none⟩
def oFa(d k s:Nat):AOper:=⟨some d,.faddr k,[.t s],none⟩
def oSf(r s:Nat):AOper:=⟨none,.store (some 4),[.t r,.t s],none⟩
def oSo(r s:Nat):AOper:=⟨none,.store none,[.t r,.t s],none⟩
def oUn(d:Nat)(p:AOp)(s:Nat):AOper:=⟨some d,p,[.t s],none⟩
def oBi(d:Nat)(p:BinOp)(a b:Nat):AOper:=⟨some d,.bin p,[.t a,.t b],none⟩
def oIa(d a b:Nat):AOper:=⟨some d,.iaddr (some 4),[.t a,.t b],none⟩
def oBx(d s:Nat):AOper:=⟨some d,.box (some 4),[.t s],none⟩
def oEx(d k s:Nat):AOper:=⟨some d,.extract k,[.t s],none⟩
def kRt(c:Nat)(r:List AOper)(l:List Nat):ACode:=.cond (.t c) (.seq (.region true r l) .ret) .skip
def kEx(c k:Nat):ACode:=.cond (.t c) .skip (.exit k)
def rT(r:List AOper)(l:List Nat):ACode:=.region true r l
def oG(d:Nat)(p:AOp)(l:List AArg)(g:Nat)(b:Bool):AOper:=⟨some d,p,l,some (g,b)⟩
def oCl(d f:Nat)(l:List AArg):AOper:=⟨some d,.call,.c (.pv none (.func (.func f)))::l,none⟩
def oBc(d:Nat)(p:BinOp)(a:Nat)(n:Int):AOper:=⟨some d,.bin p,[.t a,.c (.pv none (.int .i64 n))],none⟩
def cSt(l:List UInt8):AArg:=.c (.pv none (.str l))
def cIn(n:Int):AArg:=.c (.pv none (.int .i64 n))
def cFn(n:Nat):AArg:=.c (.pv none (.func (.func n)))
def cBo(b:Bool):AArg:=.c (.pv none (.bool b))
abbrev LO:=List AOper
attribute [go_sem] oBc cSt oG oCl oUn oBi oIa oBx oEx kRt kEx rT oP aZ bZ oMv oLf oLo oFa oSf oSo cIn cFn cBo
def c3r0:LO:=[oUn 2 (.box (some 8)) 0,oP 4 .mv [cBo false]]
def c3r1:LO:=[oUn 14 (.load (some 8)) 2,oCl 15 8 [.t 14],oUn 16 .not 15,oMv 17 16,oG 18 .mv [.t 1] 17 false,oG 19 (.bin .lss) [.t 18,cIn 1] 17 false,oP 20 .pick [.t 17,cBo true,.t 19],oMv 21 20,oG 22 .mv [.t 1] 21 false,
 oG 23 (.bin .gtr) [.t 22,cIn 500] 21 false,oP 24 .pick [.t 21,cBo true,.t 23]]
def c3r2:LO:=[oCl 25 9 [],oMv 4 25]
def c3k3:ACode:=kRt 24 c3r2 [4]
def c3r4:LO:=[oP 26 (.build [(none,(.pv none (.int .i64 0))),(none,(.nilv (some 4)))] [0]) [cIn 501],oP 5 (.alloc (some 2) (.agg [(none,(.pv none (.int .i64 0))),(none,(.nilv (some 4)))])) [],⟨none,(.store (some 2)),[.t 5,.t 26],none⟩]
def c3r5:LO:=[oP 27 (.build [(none,(.pv none (.str []))),(none,(.pv none (.int .i64 0))),(none,(.pv none (.bool false))),(none,(.tsl (some 9) []))] [0]) [cSt [112]],oP 6 (.alloc (some 4) (.agg [(none,(.pv none (.str []))),(none,(.pv none (.int .i64 0))),(none,(.pv none (.bool false))),(none,(.tsl (some 9) []))])) [],
 oSf 6 27]
def c3r6:LO:=[oP 7 .mv [cIn 1]]
def c3r7:LO:=[oMv 28 7,oBc 29 .leq 28 500]
def c3k8:ACode:=kEx 29 0
def c3r9:LO:=[oFa 32 3 6,oLo 33 32,oMv 34 7,oP 35 .callp [cFn 10,cSt [112]],oP 36 (.build [(none,(.pv none (.int .i64 0))),((some 8),(.agg [((some 4),(.agg [(none,(.pv none (.int .i64 0))),(none,(.pv none (.int .i64 0))),(none,(.pv none (.str []))),(none,(.tsl (some 4) []))])),((some 4),(.agg [(none,(.pv none (.int .i64 0))),(none,(.pv none (.int .i64 0))),(none,(.pv none (.str []))),(none,(.tsl (some 4) []))]))]))] [0,1]) [.t 34,.t 35],
 oUn 37 (.bslicep (some 9)) 36,oP 38 (.append (some 9)) [.t 33,.t 37],oFa 39 3 6,oSo 39 38]
def c3k10:ACode:=.block 1 (.seq (.settle []) (rT c3r9 [1,2,5,6,7]))
def c3r11:LO:=[oMv 30 7,oBc 31 .add 30 1,oMv 7 31]
def c3b12:ACode:=.seq (.seq (rT c3r7 [1,2,5,6,7,29]) c3k8) (.seq c3k10 (rT c3r11 [1,2,5,6,7]))
def c3k13:ACode:=.block 0 (.loop [1,2,5,6,7] c3b12)
def c3r14:LO:=[oLf 40 6,oUn 41 (.bslov (some 4)) 40,oFa 42 1 5,oSo 42 41]
def c3r15:LO:=[oUn 44 (.load (some 2)) 5,oUn 45 (.load (some 8)) 2,oCl 46 11 [.t 44,.t 45,cBo false,cBo false],oMv 43 46,oEx 47 0 43,oEx 48 1 43,oP 8 (.alloc (some 2) (.agg [(none,(.pv none (.int .i64 0))),(none,(.nilv (some 4)))])) [],
 ⟨none,(.store (some 2)),[.t 8,.t 47],none⟩,oMv 9 48]
def c3r16:LO:=[oUn 50 (.load (some 2)) 5,oMv 51 1,oCl 52 12 [.t 50,.t 51],oMv 49 52,oEx 53 0 49,oEx 54 1 49,oP 10 (.alloc (some 2) (.agg [(none,(.pv none (.int .i64 0))),(none,(.nilv (some 4)))])) [],⟨none,(.store (some 2)),[.t 10,.t 53],none⟩,
 oMv 11 54]
def c3r17:LO:=[oUn 56 (.load (some 2)) 10,oUn 57 (.load (some 8)) 2,oCl 58 11 [.t 56,.t 57,cBo false,cBo false],oMv 55 58,oEx 59 0 55,oEx 60 1 55,oP 12 (.alloc (some 2) (.agg [(none,(.pv none (.int .i64 0))),(none,(.nilv (some 4)))])) [],
 ⟨none,(.store (some 2)),[.t 12,.t 59],none⟩,oMv 13 60]
def c3r18:LO:=[oMv 61 9,oBc 62 .eql 61 13,oMv 63 62,oG 64 .mv [.t 11] 63 true,oP 65 .pick [.t 63,.t 64,cBo false],oMv 66 65,oG 67 .mv [.t 13] 66 true,oG 68 (.bin .eql) [.t 67,cIn 0] 66 true,oP 69 .pick [.t 66,.t 68,cBo false],
 oMv 70 69,oG 71 (.load (some 2)) [.t 5] 70 true,oG 72 .call [cFn 13,.t 71] 70 true,oG 73 (.bin .eql) [.t 72,cIn 500] 70 true,oP 74 .pick [.t 70,.t 73,cBo false],oMv 75 74,oG 76 .call [cFn 9] 75 true,oP 77 .pick [.t 75,.t 76,cBo false],
 oMv 4 77]
def c3:ACode:=.seq (rT c3r0 [1,2]) (.seq (.seq (rT c3r1 [1,2,24]) c3k3) (.seq (rT c3r4 [1,2,5]) (.seq (rT c3r5 [1,2,5,6]) (.seq (.seq (rT c3r6 [1,2,5,6,7]) c3k13) (.seq (rT c3r14 [1,2,5]) (.seq (rT c3r15 [1,2,5,9]) (.seq (rT c3r16 [2,5,9,10,11]) (.seq (rT c3r17 [5,9,11,13]) (.seq (rT c3r18 [4]) .ret)))))))))
def g3:AFn:=⟨2,[(4,none)],c3,false,[],[],none⟩
theorem tr3:trFn Try.prog false 3 Try.f3=some g3:=by kernel_rfl
def c8r0:LO:=[oUn 1 (.box (some 8)) 0,oP 2 .mv [cBo false]]
def c8r1:LO:=[oFa 6 0 1,oLf 7 6,oCl 8 23 [.t 7],oUn 9 .not 8,oMv 10 9,oG 11 (.faddr 4) [.t 1] 10 false,oG 12 (.load (some 4)) [.t 11] 10 false,oG 13 .call [cFn 23,.t 12] 10 false,oG 14 .not [.t 13] 10 false,oP 15 .pick [.t 10,cBo true,.t 14],
 oMv 16 15,oG 17 (.faddr 0) [.t 1] 16 false,oG 18 (.faddr 0) [.t 17] 16 false,oG 19 (.load none) [.t 18] 16 false,oG 20 (.bin .neq) [.t 19,cIn 2] 16 false,oG 21 .mv [.t 20] 16 false,oG 22 (.faddr 0) [.t 1] 21 true,oG 23 (.faddr 0) [.t 22] 21 true,
 oG 24 (.load none) [.t 23] 21 true,oG 25 (.bin .neq) [.t 24,cIn 3] 21 true,oG 26 .pick [.t 21,.t 25,cBo false] 16 false,oP 27 .pick [.t 16,cBo true,.t 26]]
def c8r2:LO:=[oP 2 .mv [cBo false]]
def c8k3:ACode:=kRt 27 c8r2 [2]
def c8r4:LO:=[oFa 29 4 1,oLf 30 29,oCl 31 24 [.t 30],oMv 28 31,oEx 32 0 28,oEx 33 1 28,oP 3 aZ [],oSf 3 32,oMv 4 33]
def c8r5:LO:=[oMv 34 4,oUn 35 .not 34,oMv 36 35,oG 37 (.load (some 4)) [.t 3] 36 false,oG 38 (.faddr 4) [.t 1] 36 false,oG 39 (.load (some 4)) [.t 38] 36 false,oG 40 .callp [cFn 25,.t 37,.t 39] 36 false,oG 41 .not [.t 40] 36 false,
 oP 42 .pick [.t 36,cBo true,.t 41],oMv 43 42,oG 44 (.faddr 0) [.t 1] 43 false,oG 45 (.load (some 4)) [.t 44] 43 false,oG 46 .callp [cFn 26,.t 45] 43 false,oG 47 (.faddr 4) [.t 1] 43 false,oG 48 (.load (some 4)) [.t 47] 43 false,
 oG 49 .callp [cFn 26,.t 48] 43 false,oG 50 (.bin .add) [.t 46,.t 49] 43 false,oG 51 (.bin .gtr) [.t 50,cIn 2000] 43 false,oP 52 .pick [.t 43,cBo true,.t 51]]
def c8r6:LO:=[oP 2 .mv [cBo false]]
def c8k7:ACode:=kRt 52 c8r6 [2]
def c8r8:LO:=[oFa 53 0 1,oLf 54 53,oFa 55 4 1,oLf 56 55,oP 57 (.bslice (some 4)) [.t 54,.t 56],oMv 5 57]
def c8r9:LO:=[oMv 58 5,oCl 59 27 [.t 58],oUn 60 .len 59,oBc 61 .leq 60 64,oMv 62 61,oG 63 .mv [.t 5] 62 true,oG 64 .call [cFn 29,.t 63] 62 true,oG 65 .mv [.t 5] 62 true,oG 66 .call [cFn 28,.t 64,.t 65] 62 true,oP 67 .pick [.t 62,.t 66,cBo false],
 oMv 2 67]
def c8:ACode:=.seq (rT c8r0 [1]) (.seq (.seq (rT c8r1 [1,27]) c8k3) (.seq (rT c8r4 [1,3,4]) (.seq (.seq (.seq (.settle [3]) (rT c8r5 [1,52])) c8k7) (.seq (rT c8r8 [5]) (.seq (rT c8r9 [2]) .ret)))))
def g8:AFn:=⟨1,[(2,none)],c8,false,[],[],none⟩
theorem tr8:trFn Try.prog false 8 Try.f8=some g8:=by kernel_rfl
def c9r0:LO:=[oP 0 .mv [cBo false]]
def c9r1:LO:=[oCl 9 21 [],oCl 10 10 [cSt [97]],oCl 11 11 [.t 9,.t 10,cBo false,cBo false],oMv 8 11,oEx 12 0 8,oEx 13 1 8,oP 1 (.alloc (some 2) (.agg [(none,(.pv none (.int .i64 0))),(none,(.nilv (some 4)))])) [],⟨none,(.store (some 2)),[.t 1,.t 12],none⟩,
 oMv 2 13]
def c9r2:LO:=[oUn 15 (.load (some 2)) 1,oP 16 .callp [cFn 10,cSt [97]],oP 17 .callp [cFn 11,.t 15,.t 16,cBo true,cBo true],oMv 14 17,oEx 18 0 14,oEx 19 1 14,⟨none,(.store (some 2)),[.t 1,.t 18],none⟩,oMv 3 19]
def c9r3:LO:=[oUn 21 (.load (some 2)) 1,oCl 22 14 [.t 21,cSt [97],cIn 0],oMv 20 22,oEx 23 0 20,oEx 24 1 20,oP 4 (.alloc (some 4) (.agg [(none,(.pv none (.str []))),(none,(.pv none (.int .i64 0))),(none,(.pv none (.bool false))),(none,(.tsl (some 9) []))])) [],
 oSf 4 23,oMv 5 24]
def c9r4:LO:=[oUn 26 (.load (some 2)) 1,oCl 27 12 [.t 26,cIn 1],oMv 25 27,oEx 28 0 25,oEx 29 1 25,oP 6 (.alloc (some 2) (.agg [(none,(.pv none (.int .i64 0))),(none,(.nilv (some 4)))])) [],⟨none,(.store (some 2)),[.t 6,.t 28],none⟩,
 oMv 7 29]
def c9r5:LO:=[oMv 30 2,oBc 31 .eql 30 0,oMv 32 31,oG 33 .mv [.t 3] 32 true,oG 34 (.bin .eql) [.t 33,cIn 0] 32 true,oP 35 .pick [.t 32,.t 34,cBo false],oMv 36 35,oG 37 .mv [.t 5] 36 true,oP 38 .pick [.t 36,.t 37,cBo false],
 oMv 39 38,oG 40 .mv [.t 7] 39 true,oP 41 .pick [.t 39,.t 40,cBo false],oMv 42 41,oG 43 (.faddr 2) [.t 4] 42 true,oG 44 (.load none) [.t 43] 42 true,oG 45 .not [.t 44] 42 true,oP 46 .pick [.t 42,.t 45,cBo false],oMv 47 46,
 oG 48 (.faddr 3) [.t 4] 47 true,oG 49 (.load none) [.t 48] 47 true,oG 50 .len [.t 49] 47 true,oG 51 (.bin .eql) [.t 50,cIn 2] 47 true,oP 52 .pick [.t 47,.t 51,cBo false],oMv 53 52,oG 54 (.faddr 3) [.t 4] 53 true,oG 55 (.load none) [.t 54] 53 true,
 oG 56 (.iaddr (some 9)) [.t 55,cIn 0] 53 true,oG 57 (.faddr 0) [.t 56] 53 true,oG 58 (.load none) [.t 57] 53 true,oG 59 (.bin .eql) [.t 58,cIn 2] 53 true,oP 60 .pick [.t 53,.t 59,cBo false],oMv 61 60,oG 62 (.load (some 2)) [.t 1] 61 true,
 oG 63 .call [cFn 13,.t 62] 61 true,oG 64 (.bin .eql) [.t 63,cIn 2] 61 true,oP 65 .pick [.t 61,.t 64,cBo false],oMv 66 65,oG 67 (.load (some 2)) [.t 6] 66 true,oG 68 .call [cFn 13,.t 67] 66 true,oG 69 (.bin .eql) [.t 68,cIn 1] 66 true,
 oP 70 .pick [.t 66,.t 69,cBo false],oMv 71 70,oG 72 (.faddr 0) [.t 6] 71 true,oG 73 (.load none) [.t 72] 71 true,oG 74 (.bin .eql) [.t 73,cIn 3] 71 true,oP 75 .pick [.t 71,.t 74,cBo false],oMv 0 75]
def c9:ACode:=.seq (rT c9r0 []) (.seq (rT c9r1 [1,2]) (.seq (.seq (.settle [1]) (rT c9r2 [1,2,3])) (.seq (rT c9r3 [1,2,3,4,5]) (.seq (rT c9r4 [1,2,3,4,5,6,7]) (.seq (rT c9r5 [0]) .ret)))))
def g9:AFn:=⟨0,[(0,none)],c9,false,[],[],none⟩
theorem tr9:trFn Try.prog false 9 Try.f9=some g9:=by kernel_rfl
def c10r0:LO:=[oP 2 (.alloc (some 8) (.agg [((some 4),(.agg [(none,(.pv none (.int .i64 0))),(none,(.pv none (.int .i64 0))),(none,(.pv none (.str []))),(none,(.tsl (some 4) []))])),((some 4),(.agg [(none,(.pv none (.int .i64 0))),(none,(.pv none (.int .i64 0))),(none,(.pv none (.str []))),(none,(.tsl (some 4) []))]))])) []]
def c10r1:LO:=[oMv 3 0,oP 4 (bZ [0,2]) [cIn 2,.t 3],oP 5 (bZ [0,2]) [cIn 2,cSt [116,114,117,101]],oP 6 (.build [((some 4),(.agg [(none,(.pv none (.int .i64 0))),(none,(.pv none (.int .i64 0))),(none,(.pv none (.str []))),(none,(.tsl (some 4) []))])),((some 4),(.agg [(none,(.pv none (.int .i64 0))),(none,(.pv none (.int .i64 0))),(none,(.pv none (.str []))),(none,(.tsl (some 4) []))]))] [0,1]) [.t 4,.t 5],
 ⟨none,(.store (some 8)),[.t 2,.t 6],none⟩]
def c10:ACode:=.seq (rT c10r0 [0,2]) (.seq (rT c10r1 [2]) .ret)
def g10:AFn:=⟨1,[(2,some (some 8))],c10,false,[],[],none⟩
theorem tr10:trFn Try.prog false 10 Try.f10=some g10:=by kernel_rfl
def c11r0:LO:=[oUn 4 (.box (some 2)) 0,oUn 5 (.box (some 8)) 1,oP 8 (.alloc (some 2) (.agg [(none,(.pv none (.int .i64 0))),(none,(.nilv (some 4)))])) [],oP 9 .mv [cIn 0]]
def c11r1:LO:=[oUn 14 (.load (some 2)) 4,oCl 15 15 [.t 14],oUn 16 .not 15,oMv 17 16,oG 18 (.load (some 8)) [.t 5] 17 false,oG 19 .call [cFn 30,.t 18] 17 false,oG 20 .not [.t 19] 17 false,oP 21 .pick [.t 17,cBo true,.t 20]]
def c11r2:LO:=[oP 22 (.build [(none,(.pv none (.int .i64 0))),(none,(.nilv (some 4)))] []) [],⟨none,(.store (some 2)),[.t 8,.t 22],none⟩,oP 9 .mv [cIn 1]]
def c11k3:ACode:=kRt 21 c11r2 [8,9]
def c11r4:LO:=[oUn 24 (.load (some 2)) 4,oFa 25 0 5,oFa 26 2 25,oLo 27 26,oFa 28 0 5,oFa 29 3 28,oLo 30 29,oUn 31 .len 30,oCl 32 31 [.t 24,.t 27,.t 31],oMv 23 32,oEx 33 0 23,oEx 34 1 23,oMv 10 33,oMv 11 34]
def c11r5:LO:=[oUn 35 (.load (some 2)) 4,oCl 36 32 [.t 35],oBc 37 .eql 36 500,oMv 38 37,oG 39 (.faddr 0) [.t 4] 38 false,oG 40 (.load none) [.t 39] 38 false,oG 41 (.bin .eql) [.t 40,cIn 4294967296] 38 false,oP 42 .pick [.t 38,cBo true,.t 41],
 oMv 43 42,oG 44 .mv [.t 11] 43 false,oG 45 .not [.t 44] 43 false,oG 46 .mv [.t 45] 43 false,oG 47 (.faddr 1) [.t 4] 46 true,oG 48 (.load none) [.t 47] 46 true,oG 49 .len [.t 48] 46 true,oG 50 (.bin .eql) [.t 49,cIn 500] 46 true,
 oG 51 .pick [.t 46,.t 50,cBo false] 43 false,oP 52 .pick [.t 43,cBo true,.t 51]]
def c11r6:LO:=[oP 53 (.build [(none,(.pv none (.int .i64 0))),(none,(.nilv (some 4)))] []) [],⟨none,(.store (some 2)),[.t 8,.t 53],none⟩,oP 9 .mv [cIn 13]]
def c11k7:ACode:=kRt 52 c11r6 [8,9]
def c11r8:LO:=[oUn 54 (.load (some 2)) 4,oCl 55 33 [.t 54],⟨none,(.store (some 2)),[.t 8,.t 55],none⟩]
def c11r9:LO:=[oMv 56 11,oUn 57 .not 56]
def c11r10:LO:=[oFa 58 1 8,oLo 59 58,oMv 60 10,oFa 61 0 5,oFa 62 2 61,oLo 63 62,oFa 64 0 5,oFa 65 3 64,oLo 66 65,oUn 67 .len 66,oMv 68 3,oP 69 (.build [(none,(.pv none (.str []))),(none,(.pv none (.int .i64 0))),(none,(.pv none (.bool false))),(none,(.tsl (some 9) []))] [0,1,2]) [.t 63,.t 67,.t 68],
 oUn 70 (.bslov (some 4)) 69,oCl 71 34 [.t 59,.t 60,.t 70],oFa 72 1 8,oSo 72 71]
def c11k11:ACode:=.cond (.t 57) (rT c11r10 [2,4,5,8,10]) .skip
def c11r12:LO:=[oFa 73 1 8,oLo 74 73,oMv 75 10,oIa 76 74 75,oMv 12 76]
def c11r13:LO:=[oMv 77 12,oUn 78 .nilcheck 77,oFa 79 3 78,oLo 80 79,oUn 81 .len 80,oMv 13 81]
def c11r14:LO:=[oMv 82 2]
def c11r15:LO:=[oP 13 .mv [cIn 0]]
def c11k16:ACode:=.cond (.t 82) (rT c11r15 [4,5,8,12,13]) .skip
def c11r17:LO:=[oMv 83 12,oMv 84 12,oUn 85 .nilcheck 84,oFa 86 3 85,oLo 87 86,oMv 88 13,oFa 89 0 4,oLo 90 89,oUn 91 (.load (some 8)) 5,oP 92 (.build [(none,(.pv none (.int .i64 0))),((some 8),(.agg [((some 4),(.agg [(none,(.pv none (.int .i64 0))),(none,(.pv none (.int .i64 0))),(none,(.pv none (.str []))),(none,(.tsl (some 4) []))])),((some 4),(.agg [(none,(.pv none (.int .i64 0))),(none,(.pv none (.int .i64 0))),(none,(.pv none (.str []))),(none,(.tsl (some 4) []))]))]))] [0,1]) [.t 90,.t 91],
 oP 93 .callp [cFn 36,.t 92],oUn 94 (.bslicep (some 9)) 93,oCl 95 35 [.t 87,.t 88,.t 94],oUn 96 .nilcheck 83,oFa 97 3 96,oSo 97 95]
def c11r18:LO:=[oFa 98 0 8,oLo 99 98,oBc 100 .add 99 1,oFa 101 0 8,oSo 101 100]
def c11r19:LO:=[oUn 102 (.load (some 2)) 8,⟨none,(.store (some 2)),[.t 8,.t 102],none⟩,oP 9 .mv [cIn 0]]
def c11:ACode:=.seq (rT c11r0 [2,3,4,5,8]) (.seq (.seq (rT c11r1 [2,3,4,5,8,21]) c11k3) (.seq (rT c11r4 [2,3,4,5,8,10,11]) (.seq (.seq (rT c11r5 [2,3,4,5,8,10,11,52]) c11k7) (.seq (rT c11r8 [2,3,4,5,8,10,11]) (.seq (.seq (rT c11r9 [2,3,4,5,8,10,57]) c11k11) (.seq (rT c11r12 [2,4,5,8,12]) (.seq (rT c11r13 [2,4,5,8,12,13]) (.seq (.seq (rT c11r14 [4,5,8,12,13,82]) c11k16) (.seq (.seq (.settle []) (.region false c11r17 [8])) (.seq (rT c11r18 [8]) (.seq (rT c11r19 [8,9]) .ret)))))))))))
def g11:AFn:=⟨4,[(8,some (some 2)),(9,none)],c11,false,[],[],none⟩
theorem tr11:trFn Try.prog false 11 Try.f11=some g11:=by kernel_rfl
def c12r0:LO:=[oUn 2 (.box (some 2)) 0,oP 4 (.alloc (some 2) (.agg [(none,(.pv none (.int .i64 0))),(none,(.nilv (some 4)))])) [],oP 5 .mv [cBo false]]
def c12r1:LO:=[oUn 8 (.load (some 2)) 2,oCl 9 15 [.t 8],oUn 10 .not 9]
def c12r2:LO:=[oP 11 (.build [(none,(.pv none (.int .i64 0))),(none,(.nilv (some 4)))] []) [],⟨none,(.store (some 2)),[.t 4,.t 11],none⟩,oP 5 .mv [cBo false]]
def c12k3:ACode:=kRt 10 c12r2 [4,5]
def c12r4:LO:=[oUn 13 (.load (some 2)) 2,oMv 14 1,oCl 15 37 [.t 13,.t 14],oMv 12 15,oEx 16 0 12,oEx 17 1 12,oEx 18 2 12,oMv 6 16,oMv 7 17,oMv 5 18]
def c12r5:LO:=[oMv 19 5,oUn 20 .not 19]
def c12r6:LO:=[oP 21 (.build [(none,(.pv none (.int .i64 0))),(none,(.nilv (some 4)))] []) [],⟨none,(.store (some 2)),[.t 4,.t 21],none⟩,oP 5 .mv [cBo false]]
def c12k7:ACode:=kRt 20 c12r6 [4,5]
def c12r8:LO:=[oUn 22 (.load (some 2)) 2,oCl 23 33 [.t 22],⟨none,(.store (some 2)),[.t 4,.t 23],none⟩]
def c12r9:LO:=[oFa 24 1 4,oLo 25 24,oMv 26 6,oFa 27 1 4,oLo 28 27,oMv 29 6,oIa 30 28 29,oFa 31 3 30,oLo 32 31,oMv 33 7,oMv 34 7,oBc 35 .add 34 1,oP 36 (.calln 1) [.t 24,cFn 38,.t 32,.t 33,.t 35],oIa 37 25 26,oFa 38 3 37,
 oSo 38 36]
def c12r10:LO:=[oUn 39 (.load (some 2)) 4,⟨none,(.store (some 2)),[.t 4,.t 39],none⟩,oP 5 .mv [cBo true]]
def c12:ACode:=.seq (rT c12r0 [1,2,4]) (.seq (.seq (rT c12r1 [1,2,4,10]) c12k3) (.seq (rT c12r4 [2,4,5,6,7]) (.seq (.seq (rT c12r5 [2,4,6,7,20]) c12k7) (.seq (rT c12r8 [4,6,7]) (.seq (.region false c12r9 [4]) (.seq (rT c12r10 [4,5]) .ret))))))
def g12:AFn:=⟨2,[(4,some (some 2)),(5,none)],c12,false,[],[],none⟩
theorem tr12:trFn Try.prog false 12 Try.f12=some g12:=by kernel_rfl
def c13r0:LO:=[oUn 1 (.box (some 2)) 0,oP 2 .mv [cIn 0]]
def c13r1:LO:=[oUn 3 (.load (some 2)) 1,oCl 4 15 [.t 3],oUn 5 .not 4]
def c13r2:LO:=[oP 2 .mv [cIn 0]]
def c13k3:ACode:=kRt 5 c13r2 [2]
def c13r4:LO:=[oUn 6 (.load (some 2)) 1,oCl 7 32 [.t 6],oMv 2 7]
def c13:ACode:=.seq (rT c13r0 [1]) (.seq (.seq (rT c13r1 [1,5]) c13k3) (.seq (rT c13r4 [2]) .ret))
def g13:AFn:=⟨1,[(2,none)],c13,false,[],[],none⟩
theorem tr13:trFn Try.prog false 13 Try.f13=some g13:=by kernel_rfl
def c14r0:LO:=[oUn 3 (.box (some 2)) 0,oP 6 (.alloc (some 4) (.agg [(none,(.pv none (.str []))),(none,(.pv none (.int .i64 0))),(none,(.pv none (.bool false))),(none,(.tsl (some 9) []))])) [],oP 7 .mv [cBo false]]
def c14r1:LO:=[oUn 9 (.load (some 2)) 3,oCl 10 15 [.t 9],oUn 11 .not 10]
def c14r2:LO:=[oP 12 (.build [(none,(.pv none (.str []))),(none,(.pv none (.int .i64 0))),(none,(.pv none (.bool false))),(none,(.tsl (some 9) []))] []) [],oSf 6 12,oP 7 .mv [cBo false]]
def c14k3:ACode:=kRt 11 c14r2 [6,7]
def c14r4:LO:=[oUn 14 (.load (some 2)) 3,oMv 15 1,oMv 16 2,oCl 17 31 [.t 14,.t 15,.t 16],oMv 13 17,oEx 18 0 13,oEx 19 1 13,oMv 8 18,oMv 7 19]
def c14r5:LO:=[oMv 20 7,oUn 21 .not 20]
def c14r6:LO:=[oP 22 (.build [(none,(.pv none (.str []))),(none,(.pv none (.int .i64 0))),(none,(.pv none (.bool false))),(none,(.tsl (some 9) []))] []) [],oSf 6 22,oP 7 .mv [cBo false]]
def c14k7:ACode:=kRt 21 c14r6 [6,7]
def c14r8:LO:=[oFa 23 1 3,oLo 24 23,oMv 25 8,oIa 26 24 25,oLf 27 26,oCl 28 39 [.t 27],oSf 6 28,oP 7 .mv [cBo true]]
def c14:ACode:=.seq (rT c14r0 [1,2,3,6]) (.seq (.seq (rT c14r1 [1,2,3,6,11]) c14k3) (.seq (rT c14r4 [3,6,7,8]) (.seq (.seq (rT c14r5 [3,6,8,21]) c14k7) (.seq (rT c14r8 [6,7]) .ret))))
def g14:AFn:=⟨3,[(6,some (some 4)),(7,none)],c14,false,[],[],none⟩
theorem tr14:trFn Try.prog false 14 Try.f14=some g14:=by kernel_rfl
def c15r0:LO:=[oUn 1 (.box (some 2)) 0,oP 2 .mv [cBo false]]
def c15r1:LO:=[oFa 9 0 1,oLo 10 9,oBc 11 .lss 10 1,oMv 12 11,oG 13 (.faddr 0) [.t 1] 12 false,oG 14 (.load none) [.t 13] 12 false,oG 15 (.bin .gtr) [.t 14,cIn 4294967296] 12 false,oP 16 .pick [.t 12,cBo true,.t 15],oMv 17 16,
 oG 18 (.faddr 1) [.t 1] 17 false,oG 19 (.load none) [.t 18] 17 false,oG 20 .len [.t 19] 17 false,oG 21 (.bin .gtr) [.t 20,cIn 500] 17 false,oP 22 .pick [.t 17,cBo true,.t 21],oMv 23 22,oG 24 (.load (some 2)) [.t 1] 23 false,
 oG 25 .call [cFn 32,.t 24] 23 false,oG 26 (.bin .gtr) [.t 25,cIn 500] 23 false,oP 27 .pick [.t 23,cBo true,.t 26]]
def c15r2:LO:=[oP 2 .mv [cBo false]]
def c15k3:ACode:=kRt 27 c15r2 [2]
def c15r4:LO:=[oP 28 (.mkmap none) [],oMv 3 28]
def c15r5:LO:=[oP 4 .mv [cBo true]]
def c15r6:LO:=[oFa 29 1 1,oLo 30 29,oUn 31 .len 30,oP 32 .mv [cIn 0]]
def c15r7:LO:=[oBi 33 .lss 32 31]
def c15k8:ACode:=kEx 33 0
def c15r9:LO:=[oMv 34 32,oIa 35 30 32,oLf 36 35,oP 6 (.alloc (some 4) (.agg [(none,(.pv none (.str []))),(none,(.pv none (.int .i64 0))),(none,(.pv none (.bool false))),(none,(.tsl (some 9) []))])) [],oMv 5 34,oSf 6 36]
def c15r10:LO:=[oFa 37 0 6,oLo 38 37,oFa 39 1 6,oLo 40 39,oCl 41 40 [.t 38,.t 40],oUn 42 .not 41,oMv 43 42,oG 44 .mv [.t 5] 43 false,oG 45 (.bin .gtr) [.t 44,cIn 0] 43 false,oG 46 .mv [.t 45] 43 false,oG 47 (.faddr 1) [.t 1] 46 true,
 oG 48 (.load none) [.t 47] 46 true,oG 49 .mv [.t 5] 46 true,oG 50 (.bin .sub) [.t 49,cIn 1] 46 true,oG 51 (.iaddr (some 4)) [.t 48,.t 50] 46 true,oG 52 (.load (some 4)) [.t 51] 46 true,oG 53 (.load (some 4)) [.t 6] 46 true,
 oG 54 .call [cFn 41,.t 52,.t 53] 46 true,oG 55 (.bin .geq) [.t 54,cIn 0] 46 true,oG 56 .pick [.t 46,.t 55,cBo false] 43 false,oP 57 .pick [.t 43,cBo true,.t 56]]
def c15r11:LO:=[oP 4 .mv [cBo false]]
def c15k12:ACode:=.cond (.t 57) (.seq (rT c15r11 [4]) (.exit 0)) .skip
def c15r13:LO:=[oFa 58 3 6,oLo 59 58,oUn 60 .len 59,oP 61 .mv [cIn 0]]
def c15r14:LO:=[oBi 62 .lss 61 60]
def c15k15:ACode:=kEx 62 2
def c15r16:LO:=[oP 63 (.iaddr (some 9)) [.t 59,.t 61],oUn 64 (.load (some 9)) 63,oP 8 (.alloc (some 9) (.agg [(none,(.pv none (.int .i64 0))),((some 8),(.agg [((some 4),(.agg [(none,(.pv none (.int .i64 0))),(none,(.pv none (.int .i64 0))),(none,(.pv none (.str []))),(none,(.tsl (some 4) []))])),((some 4),(.agg [(none,(.pv none (.int .i64 0))),(none,(.pv none (.int .i64 0))),(none,(.pv none (.str []))),(none,(.tsl (some 4) []))]))]))])) [],
 ⟨none,(.store (some 9)),[.t 8,.t 64],none⟩]
def c15r17:LO:=[oMv 65 3,oFa 66 0 8,oLo 67 66,oP 68 (.lookup false none (.pv none (.int .i64 0)) false) [.t 65,.t 67],oBc 69 .add 68 1,⟨none,(.mapset false none),[.t 65,.t 67,.t 69],none⟩]
def c15r18:LO:=[oFa 70 0 8,oLo 71 70,oBc 72 .lss 71 1,oMv 73 72,oG 74 (.faddr 0) [.t 8] 73 false,oG 75 (.load none) [.t 74] 73 false,oG 76 (.faddr 0) [.t 1] 73 false,oG 77 (.load none) [.t 76] 73 false,oG 78 (.bin .geq) [.t 75,.t 77] 73 false,
 oP 79 .pick [.t 73,cBo true,.t 78],oMv 80 79,oG 81 .mv [.t 3] 80 false,oG 82 (.faddr 0) [.t 8] 80 false,oG 83 (.load none) [.t 82] 80 false,oG 84 (.lookup false none (.pv none (.int .i64 0)) false) [.t 81,.t 83] 80 false,
 oG 85 (.bin .gtr) [.t 84,cIn 1] 80 false,oP 86 .pick [.t 80,cBo true,.t 85],oMv 87 86,oG 88 (.faddr 1) [.t 8] 87 false,oG 89 (.load (some 8)) [.t 88] 87 false,oG 90 .call [cFn 30,.t 89] 87 false,oG 91 .not [.t 90] 87 false,
 oP 92 .pick [.t 87,cBo true,.t 91],oMv 93 92,oG 94 (.faddr 1) [.t 8] 93 false,oG 95 (.faddr 0) [.t 94] 93 false,oG 96 (.faddr 2) [.t 95] 93 false,oG 97 (.load none) [.t 96] 93 false,oG 98 (.faddr 0) [.t 6] 93 false,oG 99 (.load none) [.t 98] 93 false,
 oG 100 (.bin .neq) [.t 97,.t 99] 93 false,oP 101 .pick [.t 93,cBo true,.t 100],oMv 102 101,oG 103 (.faddr 1) [.t 8] 102 false,oG 104 (.faddr 0) [.t 103] 102 false,oG 105 (.faddr 3) [.t 104] 102 false,oG 106 (.load none) [.t 105] 102 false,
 oG 107 .len [.t 106] 102 false,oG 108 (.faddr 1) [.t 6] 102 false,oG 109 (.load none) [.t 108] 102 false,oG 110 (.bin .neq) [.t 107,.t 109] 102 false,oP 111 .pick [.t 102,cBo true,.t 110]]
def c15r19:LO:=[oP 4 .mv [cBo false]]
def c15k20:ACode:=.cond (.t 111) (.seq (rT c15r19 [4]) (.exit 0)) .skip
def c15k21:ACode:=.block 3 (.seq (rT c15r16 [1,3,4,6,8,30,31,32,59,60,61]) (.seq (rT c15r17 [1,3,4,6,8,30,31,32,59,60,61]) (.seq (rT c15r18 [1,3,4,6,30,31,32,59,60,61,111]) c15k20)))
def c15r22:LO:=[oBc 112 .add 61 1,oMv 61 112]
def c15b23:ACode:=.seq (rT c15r14 [1,3,4,6,30,31,32,59,60,61,62]) (.seq c15k15 (.seq c15k21 (rT c15r22 [1,3,4,6,30,31,32,59,60,61])))
def c15k24:ACode:=.block 2 (.loop [1,3,4,6,30,31,32,59,60,61] c15b23)
def c15k25:ACode:=.block 1 (.seq (rT c15r9 [1,3,4,5,6,30,31,32]) (.seq (.seq (rT c15r10 [1,3,4,6,30,31,32,57]) c15k12) (.seq (rT c15r13 [1,3,4,6,30,31,32,59,60,61]) c15k24)))
def c15r26:LO:=[oBc 113 .add 32 1,oMv 32 113]
def c15b27:ACode:=.seq (rT c15r7 [1,3,4,30,31,32,33]) (.seq c15k8 (.seq c15k25 (rT c15r26 [1,3,4,30,31,32])))
def c15k28:ACode:=.block 0 (.loop [1,3,4,30,31,32] c15b27)
def c15r29:LO:=[oMv 114 4,oMv 2 114]
def c15:ACode:=.seq (rT c15r0 [1]) (.seq (.seq (rT c15r1 [1,27]) c15k3) (.seq (rT c15r4 [1,3]) (.seq (rT c15r5 [1,3,4]) (.seq .skip (.seq (.seq (rT c15r6 [1,3,4,30,31,32]) c15k28) (.seq (rT c15r29 [2]) .ret))))))
def g15:AFn:=⟨1,[(2,none)],c15,false,[],[],none⟩
theorem tr15:trFn Try.prog false 15 Try.f15=some g15:=by kernel_rfl
def c21r0:LO:=[oP 0 (.alloc (some 2) (.agg [(none,(.pv none (.int .i64 0))),(none,(.nilv (some 4)))])) []]
def c21r1:LO:=[oP 1 (.build [(none,(.pv none (.int .i64 0))),(none,(.nilv (some 4)))] [0]) [cIn 1],⟨none,(.store (some 2)),[.t 0,.t 1],none⟩]
def c21:ACode:=.seq (rT c21r0 [0]) (.seq (rT c21r1 [0]) .ret)
def g21:AFn:=⟨0,[(0,some (some 2))],c21,false,[],[],none⟩
theorem tr21:trFn Try.prog false 21 Try.f21=some g21:=by kernel_rfl
def c23r0:LO:=[oBx 1 0,oP 2 .mv [cBo false]]
def c23r1:LO:=[oLf 3 1,oCl 4 26 [.t 3],oBc 5 .leq 4 2000,oMv 6 5,oG 7 (.load (some 4)) [.t 1] 6 true,oG 8 .call [cFn 44,.t 7] 6 true,oP 9 .pick [.t 6,.t 8,cBo false],oMv 2 9]
def c23:ACode:=.seq (rT c23r0 [1]) (.seq (rT c23r1 [2]) .ret)
def g23:AFn:=⟨1,[(2,none)],c23,false,[],[],none⟩
theorem tr23:trFn Try.prog false 23 Try.f23=some g23:=by kernel_rfl
def c24r0:LO:=[oBx 1 0,oP 2 aZ [],oP 3 .mv [cBo false]]
def c24r1:LO:=[oFa 8 0 1,oLo 9 8,oBc 10 .eql 9 0]
def c24r2:LO:=[oLf 11 1,oUn 12 (.bslice (some 4)) 11,oP 13 (bZ [0,2,3]) [cIn 3,cSt [99,97,108,108],.t 12],oSf 2 13,oP 3 .mv [cBo true]]
def c24k3:ACode:=kRt 10 c24r2 [2,3]
def c24r4:LO:=[oFa 14 0 1,oLo 15 14,oBc 16 .eql 15 1]
def c24r5:LO:=[oP 17 (bZ []) [],oSf 2 17,oP 3 .mv [cBo false]]
def c24k6:ACode:=kRt 16 c24r5 [2,3]
def c24r7:LO:=[oLf 18 1,oCl 19 45 [.t 18],oUn 20 .not 19]
def c24r8:LO:=[oLf 21 1,oCl 22 46 [.t 21],oSf 2 22,oP 3 .mv [cBo true]]
def c24k9:ACode:=kRt 20 c24r8 [2,3]
def c24r10:LO:=[oFa 24 3 1,oLo 25 24,oP 26 (.iaddr (some 4)) [.t 25,cIn 0],oLf 27 26,oCl 28 24 [.t 27],oMv 23 28,oEx 29 0 23,oEx 30 1 23,oP 4 aZ [],oSf 4 29,oMv 5 30]
def c24r11:LO:=[oFa 32 3 1,oLo 33 32,oP 34 (.iaddr (some 4)) [.t 33,cIn 1],oLf 35 34,oCl 36 24 [.t 35],oMv 31 36,oEx 37 0 31,oEx 38 1 31,oP 6 aZ [],oSf 6 37,oMv 7 38]
def c24r12:LO:=[oFa 39 2 1,oLo 40 39,oLf 41 4,oLf 42 6,oP 43 (.bslice (some 4)) [.t 41,.t 42],oP 44 (bZ [0,2,3]) [cIn 3,.t 40,.t 43],oMv 45 5,oMv 46 45,oG 47 .mv [.t 7] 46 true,oP 48 .pick [.t 46,.t 47,cBo false],oSf 2 44,
 oMv 3 48]
def c24:ACode:=.seq (rT c24r0 [1,2]) (.seq (.seq (rT c24r1 [1,2,10]) c24k3) (.seq (.seq (rT c24r4 [1,2,16]) c24k6) (.seq (.seq (rT c24r7 [1,2,20]) c24k9) (.seq (rT c24r10 [1,2,4,5]) (.seq (rT c24r11 [1,2,4,5,6,7]) (.seq (rT c24r12 [2,3]) .ret))))))
def g24:AFn:=⟨1,[(2,some (some 4)),(3,none)],c24,false,[],[],none⟩
theorem tr24:trFn Try.prog false 24 Try.f24=some g24:=by kernel_rfl
def c25r0:LO:=[oBx 2 0,oBx 3 1,oP 4 .mv [cBo false]]
def c25r1:LO:=[oLf 5 2,oCl 6 23 [.t 5],oMv 7 6,oG 8 (.load (some 4)) [.t 3] 7 true,oG 9 .call [cFn 23,.t 8] 7 true,oP 10 .pick [.t 7,.t 9,cBo false],oMv 11 10,oG 12 (.load (some 4)) [.t 2] 11 true,oG 13 (.load (some 4)) [.t 3] 11 true,
 oG 14 .call [cFn 47,.t 12,.t 13] 11 true,oP 15 .pick [.t 11,.t 14,cBo false],oMv 4 15]
def c25:ACode:=.seq (rT c25r0 [2,3]) (.seq (rT c25r1 [4]) .ret)
def g25:AFn:=⟨2,[(4,none)],c25,false,[],[],none⟩
theorem tr25:trFn Try.prog false 25 Try.f25=some g25:=by kernel_rfl
def c26r0:LO:=[oBx 1 0,oP 2 .mv [cIn 0]]
def c26r1:LO:=[oLf 3 1,oCl 4 48 [.t 3,cIn 2001],oMv 2 4]
def c26:ACode:=.seq (rT c26r0 [1]) (.seq (rT c26r1 [2]) .ret)
def g26:AFn:=⟨1,[(2,none)],c26,false,[],[],none⟩
theorem tr26:trFn Try.prog false 26 Try.f26=some g26:=by kernel_rfl
def c27r0:LO:=[oP 2 (.nilsl none) []]
def c27r1:LO:=[oP 3 (.nilsl none) []]
def c27r2:LO:=[oP 4 .mv [cIn 0]]
def c27r3:LO:=[oMv 5 4,oMv 6 0,oUn 7 .len 6,oBi 8 .lss 5 7]
def c27k4:ACode:=kEx 8 0
def c27r5:LO:=[oMv 11 3,oMv 12 0,oMv 13 4,oIa 14 12 13,oLf 15 14,oCl 16 49 [.t 11,.t 15],oMv 3 16]
def c27k6:ACode:=.block 1 (rT c27r5 [0,3,4])
def c27r7:LO:=[oMv 9 4,oBc 10 .add 9 1,oMv 4 10]
def c27b8:ACode:=.seq (.seq (rT c27r3 [0,3,4,8]) c27k4) (.seq c27k6 (rT c27r7 [0,3,4]))
def c27k9:ACode:=.block 0 (.loop [0,3,4] c27b8)
def c27r10:LO:=[oMv 17 3,oMv 2 17]
def c27:ACode:=.seq (rT c27r0 [0]) (.seq (rT c27r1 [0,3]) (.seq (.seq (rT c27r2 [0,3,4]) c27k9) (.seq (rT c27r10 [2]) .ret)))
def g27:AFn:=⟨1,[(2,none)],c27,false,[],[],none⟩
theorem tr27:trFn Try.prog false 27 Try.f27=some g27:=by kernel_rfl
def c28r0:LO:=[oP 4 .mv [cBo false]]
def c28r1:LO:=[oMv 6 0,oUn 7 .len 6,oMv 8 1,oUn 9 .len 8,oBi 10 .neq 7 9]
def c28r2:LO:=[oP 4 .mv [cBo false]]
def c28k3:ACode:=kRt 10 c28r2 [4]
def c28r4:LO:=[oP 5 .mv [cIn 0]]
def c28r5:LO:=[oMv 11 5,oMv 12 0,oUn 13 .len 12,oBi 14 .lss 11 13]
def c28k6:ACode:=kEx 14 0
def c28r7:LO:=[oMv 17 0,oMv 18 5,oIa 19 17 18,oLf 20 19,oMv 21 1,oMv 22 5,oIa 23 21 22,oLf 24 23,oCl 25 25 [.t 20,.t 24],oUn 26 .not 25]
def c28r8:LO:=[oP 4 .mv [cBo false]]
def c28k9:ACode:=kRt 26 c28r8 [4]
def c28k10:ACode:=.block 1 (.seq (rT c28r7 [0,1,5,26]) c28k9)
def c28r11:LO:=[oMv 15 5,oBc 16 .add 15 1,oMv 5 16]
def c28b12:ACode:=.seq (.seq (rT c28r5 [0,1,5,14]) c28k6) (.seq c28k10 (rT c28r11 [0,1,5]))
def c28k13:ACode:=.block 0 (.loop [0,1,5] c28b12)
def c28r14:LO:=[oP 4 .mv [cBo true]]
def c28:ACode:=.seq (rT c28r0 [0,1]) (.seq (.seq (rT c28r1 [0,1,10]) c28k3) (.seq (.seq (rT c28r4 [0,1,5]) c28k13) (.seq (rT c28r14 [4]) .ret)))
def g28:AFn:=⟨2,[(4,none)],c28,false,[],[],none⟩
theorem tr28:trFn Try.prog false 28 Try.f28=some g28:=by kernel_rfl
def c29r0:LO:=[oP 2 (.nilsl (some 4)) []]
def c29r1:LO:=[oMv 6 0,oCl 7 27 [.t 6],oMv 3 7]
def c29r2:LO:=[oP 4 (.nilsl (some 4)) []]
def c29r3:LO:=[oP 5 .mv [cIn 0]]
def c29r4:LO:=[oMv 8 5,oMv 9 0,oUn 10 .len 9,oBi 11 .lss 8 10]
def c29k5:ACode:=kEx 11 0
def c29r6:LO:=[oMv 14 4,oMv 15 3,oMv 16 0,oMv 17 5,oIa 18 16 17,oLf 19 18,oCl 20 50 [.t 15,.t 19],oUn 21 (.bslice (some 4)) 20,oP 22 (.append (some 4)) [.t 14,.t 21],oMv 4 22]
def c29k7:ACode:=.block 1 (rT c29r6 [0,3,4,5])
def c29r8:LO:=[oMv 12 5,oBc 13 .add 12 1,oMv 5 13]
def c29b9:ACode:=.seq (.seq (rT c29r4 [0,3,4,5,11]) c29k5) (.seq c29k7 (rT c29r8 [0,3,4,5]))
def c29k10:ACode:=.block 0 (.loop [0,3,4,5] c29b9)
def c29r11:LO:=[oMv 23 4,oMv 2 23]
def c29:ACode:=.seq (rT c29r0 [0]) (.seq (rT c29r1 [0,3]) (.seq (rT c29r2 [0,3,4]) (.seq (.seq (rT c29r3 [0,3,4,5]) c29k10) (.seq (rT c29r11 [2]) .ret))))
def g29:AFn:=⟨1,[(2,none)],c29,false,[],[],none⟩
theorem tr29:trFn Try.prog false 29 Try.f29=some g29:=by kernel_rfl
def c30r0:LO:=[oUn 1 (.box (some 8)) 0,oP 2 .mv [cBo false]]
def c30r1:LO:=[oFa 6 0 1,oLf 7 6,oCl 8 51 [.t 7],oUn 9 .not 8,oMv 10 9,oG 11 (.faddr 0) [.t 1] 10 false,oG 12 (.load (some 4)) [.t 11] 10 false,oG 13 .call [cFn 52,.t 12] 10 false,oG 14 .not [.t 13] 10 false,oP 15 .pick [.t 10,cBo true,.t 14],
 oMv 16 15,oG 17 (.load (some 8)) [.t 1] 16 false,oG 18 .call [cFn 53,.t 17] 16 false,oG 19 .not [.t 18] 16 false,oP 20 .pick [.t 16,cBo true,.t 19]]
def c30r2:LO:=[oP 2 .mv [cBo false]]
def c30k3:ACode:=kRt 20 c30r2 [2]
def c30r4:LO:=[oFa 22 4 1,oLf 23 22,oCl 24 54 [.t 23],oMv 21 24,oEx 25 0 21,oEx 26 1 21,oP 3 aZ [],oSf 3 25,oMv 2 26]
def c30r5:LO:=[oMv 27 2,oUn 28 .not 27,oMv 29 28,oG 30 (.load (some 4)) [.t 3] 29 false,oG 31 (.faddr 4) [.t 1] 29 false,oG 32 (.load (some 4)) [.t 31] 29 false,oG 33 .call [cFn 55,.t 30,.t 32] 29 false,oG 34 .not [.t 33] 29 false,
 oP 35 .pick [.t 29,cBo true,.t 34]]
def c30r6:LO:=[oP 2 .mv [cBo false]]
def c30k7:ACode:=kRt 35 c30r6 [2]
def c30r8:LO:=[oUn 37 (.load (some 8)) 1,oCl 38 56 [.t 37],oMv 36 38,oEx 39 0 36,oEx 40 1 36,oP 4 (.alloc (some 8) (.agg [((some 4),(.agg [(none,(.pv none (.int .i64 0))),(none,(.pv none (.int .i64 0))),(none,(.pv none (.str []))),(none,(.tsl (some 4) []))])),((some 4),(.agg [(none,(.pv none (.int .i64 0))),(none,(.pv none (.int .i64 0))),(none,(.pv none (.str []))),(none,(.tsl (some 4) []))]))])) [],
 ⟨none,(.store (some 8)),[.t 4,.t 39],none⟩,oMv 5 40]
def c30r9:LO:=[oMv 41 5,oBc 42 .leq 41 64,oMv 43 42,oG 44 (.faddr 0) [.t 4] 43 true,oG 45 (.load (some 4)) [.t 44] 43 true,oG 46 (.faddr 0) [.t 1] 43 true,oG 47 (.load (some 4)) [.t 46] 43 true,oG 48 .call [cFn 55,.t 45,.t 47] 43 true,
 oP 49 .pick [.t 43,.t 48,cBo false],oMv 50 49,oG 51 (.faddr 4) [.t 4] 50 true,oG 52 (.load (some 4)) [.t 51] 50 true,oG 53 (.faddr 4) [.t 1] 50 true,oG 54 (.load (some 4)) [.t 53] 50 true,oG 55 .call [cFn 55,.t 52,.t 54] 50 true,
 oP 56 .pick [.t 50,.t 55,cBo false],oMv 2 56]
def c30:ACode:=.seq (rT c30r0 [1]) (.seq (.seq (rT c30r1 [1,20]) c30k3) (.seq (rT c30r4 [1,2,3]) (.seq (.seq (rT c30r5 [1,35]) c30k7) (.seq (rT c30r8 [1,4,5]) (.seq (rT c30r9 [2]) .ret)))))
def g30:AFn:=⟨1,[(2,none)],c30,false,[],[],none⟩
theorem tr30:trFn Try.prog false 30 Try.f30=some g30:=by kernel_rfl
def c31r0:LO:=[oUn 3 (.box (some 2)) 0,oP 6 .mv [cIn 0],oP 7 .mv [cBo false]]
def c31r1:LO:=[oFa 8 1 3,oLo 9 8,oMv 10 1,oMv 11 2,oP 12 (.build [(none,(.pv none (.str []))),(none,(.pv none (.int .i64 0))),(none,(.pv none (.bool false))),(none,(.tsl (some 9) []))] [0,1]) [.t 10,.t 11],oCl 13 57 [.t 9,.t 12,cFn 58],
 oEx 14 0 13,oEx 15 1 13,oMv 6 14,oMv 7 15]
def c31:ACode:=.seq (rT c31r0 [1,2,3]) (.seq (rT c31r1 [6,7]) .ret)
def g31:AFn:=⟨3,[(6,none),(7,none)],c31,false,[],[],none⟩
theorem tr31:trFn Try.prog false 31 Try.f31=some g31:=by kernel_rfl
def c32r0:LO:=[oUn 1 (.box (some 2)) 0,oP 2 .mv [cIn 0]]
def c32r1:LO:=[oP 3 .mv [cIn 0]]
def c32r2:LO:=[oFa 6 1 1,oLo 7 6,oUn 8 .len 7,oP 9 .mv [cIn 0]]
def c32r3:LO:=[oBi 10 .lss 9 8]
def c32k4:ACode:=kEx 10 0
def c32r5:LO:=[oIa 11 7 9,oLf 12 11,oP 5 (.alloc (some 4) (.agg [(none,(.pv none (.str []))),(none,(.pv none (.int .i64 0))),(none,(.pv none (.bool false))),(none,(.tsl (some 9) []))])) [],oSf 5 12]
def c32r6:LO:=[oMv 13 3,oFa 14 3 5,oLo 15 14,oUn 16 .len 15,oBi 17 .add 13 16,oMv 3 17]
def c32k7:ACode:=.block 1 (.seq (rT c32r5 [3,5,7,8,9]) (rT c32r6 [3,7,8,9]))
def c32r8:LO:=[oBc 18 .add 9 1,oMv 9 18]
def c32b9:ACode:=.seq (rT c32r3 [3,7,8,9,10]) (.seq c32k4 (.seq c32k7 (rT c32r8 [3,7,8,9])))
def c32k10:ACode:=.block 0 (.loop [3,7,8,9] c32b9)
def c32r11:LO:=[oMv 19 3,oMv 2 19]
def c32:ACode:=.seq (rT c32r0 [1]) (.seq (rT c32r1 [1,3]) (.seq (.seq (rT c32r2 [3,7,8,9]) c32k10) (.seq (rT c32r11 [2]) .ret)))
def g32:AFn:=⟨1,[(2,none)],c32,false,[],[],none⟩
theorem tr32:trFn Try.prog false 32 Try.f32=some g32:=by kernel_rfl
def c33r0:LO:=[oUn 1 (.box (some 2)) 0,oP 2 (.alloc (some 2) (.agg [(none,(.pv none (.int .i64 0))),(none,(.nilv (some 4)))])) []]
def c33r1:LO:=[oFa 6 1 1,oLo 7 6,oUn 8 .len 7,oP 9 (.mkslicev (some 4) (.agg [(none,(.pv none (.str []))),(none,(.pv none (.int .i64 0))),(none,(.pv none (.bool false))),(none,(.tsl (some 9) []))])) [.t 8,.t 8],oMv 3 9]
def c33r2:LO:=[oFa 10 1 1,oLo 11 10,oUn 12 .len 11,oP 13 .mv [cIn 0]]
def c33r3:LO:=[oBi 14 .lss 13 12]
def c33k4:ACode:=kEx 14 0
def c33r5:LO:=[oMv 15 13,oIa 16 11 13,oLf 17 16,oP 5 (.alloc (some 4) (.agg [(none,(.pv none (.str []))),(none,(.pv none (.int .i64 0))),(none,(.pv none (.bool false))),(none,(.tsl (some 9) []))])) [],oMv 4 15,oSf 5 17]
def c33r6:LO:=[oMv 18 3,oMv 19 4,oLf 20 5,oCl 21 39 [.t 20],oIa 22 18 19,oSf 22 21]
def c33k7:ACode:=.block 1 (.seq (rT c33r5 [1,2,3,4,5,11,12,13]) (rT c33r6 [1,2,3,11,12,13]))
def c33r8:LO:=[oBc 23 .add 13 1,oMv 13 23]
def c33b9:ACode:=.seq (rT c33r3 [1,2,3,11,12,13,14]) (.seq c33k4 (.seq c33k7 (rT c33r8 [1,2,3,11,12,13])))
def c33k10:ACode:=.block 0 (.loop [1,2,3,11,12,13] c33b9)
def c33r11:LO:=[oMv 24 3,oFa 25 1 1,oSo 25 24]
def c33r12:LO:=[oUn 26 (.load (some 2)) 1,⟨none,(.store (some 2)),[.t 2,.t 26],none⟩]
def c33:ACode:=.seq (rT c33r0 [1,2]) (.seq (rT c33r1 [1,2,3]) (.seq (.seq (rT c33r2 [1,2,3,11,12,13]) c33k10) (.seq (rT c33r11 [1,2]) (.seq (rT c33r12 [2]) .ret))))
def g33:AFn:=⟨1,[(2,some (some 2))],c33,true,[],[],none⟩
theorem tr33:trFn Try.prog true 33 Try.f33=some g33:=by kernel_rfl
def c36r0:LO:=[oUn 1 (.box (some 9)) 0,oP 2 (.alloc (some 9) (.agg [(none,(.pv none (.int .i64 0))),((some 8),(.agg [((some 4),(.agg [(none,(.pv none (.int .i64 0))),(none,(.pv none (.int .i64 0))),(none,(.pv none (.str []))),(none,(.tsl (some 4) []))])),((some 4),(.agg [(none,(.pv none (.int .i64 0))),(none,(.pv none (.int .i64 0))),(none,(.pv none (.str []))),(none,(.tsl (some 4) []))]))]))])) []]
def c36r1:LO:=[oFa 3 0 1,oLo 4 3,oFa 5 1 1,oFa 6 0 5,oLf 7 6,oP 8 .callp [cFn 63,.t 7],oFa 9 1 1,oFa 10 4 9,oLf 11 10,oP 12 .callp [cFn 63,.t 11],oP 13 (.build [((some 4),(.agg [(none,(.pv none (.int .i64 0))),(none,(.pv none (.int .i64 0))),(none,(.pv none (.str []))),(none,(.tsl (some 4) []))])),((some 4),(.agg [(none,(.pv none (.int .i64 0))),(none,(.pv none (.int .i64 0))),(none,(.pv none (.str []))),(none,(.tsl (some 4) []))]))] [0,1]) [.t 8,.t 12],
 oP 14 (.build [(none,(.pv none (.int .i64 0))),((some 8),(.agg [((some 4),(.agg [(none,(.pv none (.int .i64 0))),(none,(.pv none (.int .i64 0))),(none,(.pv none (.str []))),(none,(.tsl (some 4) []))])),((some 4),(.agg [(none,(.pv none (.int .i64 0))),(none,(.pv none (.int .i64 0))),(none,(.pv none (.str []))),(none,(.tsl (some 4) []))]))]))] [0,1]) [.t 4,.t 13],
 ⟨none,(.store (some 9)),[.t 2,.t 14],none⟩]
def c36:ACode:=.seq (rT c36r0 [1,2]) (.seq (.seq (.settle []) (rT c36r1 [2])) .ret)
def g36:AFn:=⟨1,[(2,some (some 9))],c36,false,[],[],none⟩
theorem tr36:trFn Try.prog false 36 Try.f36=some g36:=by kernel_rfl
def c37r0:LO:=[oUn 2 (.box (some 2)) 0,oUn 3 (.box none) 1,oP 4 .mv [cIn 0],oP 5 .mv [cIn 0],oP 6 .mv [cBo false]]
def c37r1:LO:=[oFa 10 1 2,oLo 11 10,oUn 12 .len 11,oP 13 .mv [cIn 0]]
def c37r2:LO:=[oBi 14 .lss 13 12]
def c37k3:ACode:=kEx 14 0
def c37r4:LO:=[oMv 15 13,oIa 16 11 13,oLf 17 16,oP 8 (.alloc (some 4) (.agg [(none,(.pv none (.str []))),(none,(.pv none (.int .i64 0))),(none,(.pv none (.bool false))),(none,(.tsl (some 9) []))])) [],oMv 7 15,oSf 8 17]
def c37r5:LO:=[oFa 18 3 8,oLo 19 18,oUn 20 (.mkfunc (.func 65) 0) 3,oCl 21 64 [.t 19,.t 20],oMv 9 21]
def c37r6:LO:=[oMv 22 9,oBc 23 .geq 22 0]
def c37r7:LO:=[oMv 24 7,oMv 25 9,oMv 4 24,oMv 5 25,oP 6 .mv [cBo true]]
def c37k8:ACode:=kRt 23 c37r7 [4,5,6]
def c37k9:ACode:=.block 1 (.seq (rT c37r4 [3,7,8,11,12,13]) (.seq (rT c37r5 [3,7,9,11,12,13]) (.seq (rT c37r6 [3,7,9,11,12,13,23]) c37k8)))
def c37r10:LO:=[oBc 26 .add 13 1,oMv 13 26]
def c37b11:ACode:=.seq (rT c37r2 [3,11,12,13,14]) (.seq c37k3 (.seq c37k9 (rT c37r10 [3,11,12,13])))
def c37k12:ACode:=.block 0 (.loop [3,11,12,13] c37b11)
def c37r13:LO:=[oP 4 .mv [cIn 0],oP 5 .mv [cIn 0],oP 6 .mv [cBo false]]
def c37:ACode:=.seq (rT c37r0 [2,3]) (.seq (.seq (rT c37r1 [3,11,12,13]) c37k12) (.seq (rT c37r13 [4,5,6]) .ret))
def g37:AFn:=⟨2,[(4,none),(5,none),(6,none)],c37,false,[],[],none⟩
theorem tr37:trFn Try.prog false 37 Try.f37=some g37:=by kernel_rfl
def c38r0:LO:=[oP 6 (.nilsl (some 9)) []]
def c38r1:LO:=[oMv 8 0,oMv 9 1,oMv 10 2,oMv 11 0,oUn 12 .len 11,oP 13 (.slice3 (some 9) true) [.t 8,.t 9,.t 10,.t 12]]
def c38r2:LO:=[oMv 14 1,oMv 15 2,oBi 16 .eql 14 15]
def c38r3:LO:=[oMv 17 0,oMv 6 17]
def c38k4:ACode:=kRt 16 c38r3 [6]
def c38r5:LO:=[oMv 18 0,oUn 19 .len 18,oMv 7 19]
def c38r6:LO:=[oMv 20 0,oMv 21 1,oP 22 (.slice (some 9) false true) [.t 20,.t 21],oMv 23 0,oMv 24 2,oP 25 (.slice (some 9) true false) [.t 23,.t 24],oP 26 (.append (some 9)) [.t 22,.t 25],oMv 0 26]
def c38r7:LO:=[oMv 27 0,oMv 28 0,oUn 29 .len 28,oMv 30 7,oP 31 (.slice (some 9) true true) [.t 27,.t 29,.t 30],⟨none,(.clear (some 9) (.agg [(none,(.int .i64 0)),((some 8),(.agg [((some 4),(.agg [(none,(.int .i64 0)),(none,(.int .i64 0)),(none,(.str [])),(none,(.sl (some 4) []))])),((some 4),(.agg [(none,(.int .i64 0)),(none,(.int .i64 0)),(none,(.str [])),(none,(.sl (some 4) []))]))]))])),[.t 31],none⟩]
def c38r8:LO:=[oMv 32 0,oMv 6 32]
def c38:ACode:=.seq (rT c38r0 [0,1,2]) (.seq (rT c38r1 [0,1,2]) (.seq (.seq (rT c38r2 [0,1,2,16]) c38k4) (.seq (rT c38r5 [0,1,2,7]) (.seq (rT c38r6 [0,7]) (.seq (rT c38r7 [0]) (.seq (rT c38r8 [6]) .ret))))))
def g38:AFn:=⟨3,[(6,none)],c38,true,[],[],none⟩
theorem tr38:trFn Try.prog true 38 Try.f38=some g38:=by kernel_rfl
def c39r0:LO:=[oBx 1 0,oP 2 (.alloc (some 4) (.agg [(none,(.pv none (.str []))),(none,(.pv none (.int .i64 0))),(none,(.pv none (.bool false))),(none,(.tsl (some 9) []))])) []]
def c39r1:LO:=[oFa 6 3 1,oLo 7 6,oUn 8 .len 7,oP 9 (.mkslice (some 9) (.agg [(none,(.int .i64 0)),((some 8),(.agg [((some 4),(.agg [(none,(.int .i64 0)),(none,(.int .i64 0)),(none,(.str [])),(none,(.sl (some 4) []))])),((some 4),(.agg [(none,(.int .i64 0)),(none,(.int .i64 0)),(none,(.str [])),(none,(.sl (some 4) []))]))]))])) [.t 8,.t 8],
 oMv 3 9]
def c39r2:LO:=[oMv 10 3,oFa 11 3 1,oLo 12 11,oP 13 (.copy (some 9)) [.t 10,.t 12]]
def c39r3:LO:=[oMv 14 3,oUn 15 .len 14,oP 16 .mv [cIn 0]]
def c39r4:LO:=[oBi 17 .lss 16 15]
def c39k5:ACode:=kEx 17 0
def c39r6:LO:=[oMv 18 16,oP 19 (.iaddr (some 9)) [.t 14,.t 16],oUn 20 (.load (some 9)) 19,oP 5 (.alloc (some 9) (.agg [(none,(.pv none (.int .i64 0))),((some 8),(.agg [((some 4),(.agg [(none,(.pv none (.int .i64 0))),(none,(.pv none (.int .i64 0))),(none,(.pv none (.str []))),(none,(.tsl (some 4) []))])),((some 4),(.agg [(none,(.pv none (.int .i64 0))),(none,(.pv none (.int .i64 0))),(none,(.pv none (.str []))),(none,(.tsl (some 4) []))]))]))])) [],
 oMv 4 18,⟨none,(.store (some 9)),[.t 5,.t 20],none⟩]
def c39r7:LO:=[oMv 21 3,oMv 22 4,oUn 23 (.load (some 9)) 5,oCl 24 36 [.t 23],oP 25 (.iaddr (some 9)) [.t 21,.t 22],⟨none,(.store (some 9)),[.t 25,.t 24],none⟩]
def c39k8:ACode:=.block 1 (.seq (rT c39r6 [1,2,3,4,5,14,15,16]) (rT c39r7 [1,2,3,14,15,16]))
def c39r9:LO:=[oBc 26 .add 16 1,oMv 16 26]
def c39b10:ACode:=.seq (rT c39r4 [1,2,3,14,15,16,17]) (.seq c39k5 (.seq c39k8 (rT c39r9 [1,2,3,14,15,16])))
def c39k11:ACode:=.block 0 (.loop [1,2,3,14,15,16] c39b10)
def c39r12:LO:=[oMv 27 3,oFa 28 3 1,oSo 28 27]
def c39r13:LO:=[oLf 29 1,oSf 2 29]
def c39:ACode:=.seq (rT c39r0 [1,2]) (.seq (rT c39r1 [1,2,3]) (.seq (rT c39r2 [1,2,3]) (.seq (.seq (rT c39r3 [1,2,3,14,15,16]) c39k11) (.seq (rT c39r12 [1,2]) (.seq (rT c39r13 [2]) .ret)))))
def g39:AFn:=⟨1,[(2,some (some 4))],c39,true,[],[],none⟩
theorem tr39:trFn Try.prog true 39 Try.f39=some g39:=by kernel_rfl
def c40r0:LO:=[oP 4 .mv [cBo false]]
def c40r1:LO:=[oMv 5 0,oUn 6 .slen 5,oBc 7 .leq 6 100,oMv 8 7,oG 9 .mv [.t 1] 8 true,oG 10 (.bin .geq) [.t 9,cIn 0] 8 true,oP 11 .pick [.t 8,.t 10,cBo false],oMv 12 11,oG 13 .mv [.t 1] 12 true,oG 14 (.bin .leq) [.t 13,cIn 8] 12 true,
 oP 15 .pick [.t 12,.t 14,cBo false],oMv 4 15]
def c40:ACode:=.seq (rT c40r0 [0,1]) (.seq (rT c40r1 [4]) .ret)
def g40:AFn:=⟨2,[(4,none)],c40,false,[],[],none⟩
theorem tr40:trFn Try.prog false 40 Try.f40=some g40:=by kernel_rfl
def c41r0:LO:=[oBx 2 0,oBx 3 1,oP 4 .mv [cIn 0]]
def c41r1:LO:=[oFa 5 0 2,oLo 6 5,oFa 7 0 3,oLo 8 7,oP 9 .callp [cFn 67,.t 6,.t 8],oFa 10 1 2,oLo 11 10,oFa 12 1 3,oLo 13 12,oP 14 .callp [cFn 68,.t 11,.t 13],oP 15 (.bslicep none) [.t 9,.t 14],oP 16 .callp [cFn 66,.t 15],
 oMv 4 16]
def c41:ACode:=.seq (rT c41r0 [2,3]) (.seq (.seq (.settle []) (rT c41r1 [4])) .ret)
def g41:AFn:=⟨2,[(4,none)],c41,false,[],[],none⟩
theorem tr41:trFn Try.prog false 41 Try.f41=some g41:=by kernel_rfl
def c44r0:LO:=[oBx 1 0,oP 2 .mv [cBo false]]
def c44r1:LO:=[oLf 4 1,oCl 5 69 [.t 4],oUn 6 .not 5]
def c44r2:LO:=[oP 2 .mv [cBo false]]
def c44k3:ACode:=kRt 6 c44r2 [2]
def c44r4:LO:=[oP 3 .mv [cIn 0]]
def c44r5:LO:=[oMv 7 3,oFa 8 3 1,oLo 9 8,oUn 10 .len 9,oBi 11 .lss 7 10]
def c44k6:ACode:=kEx 11 0
def c44r7:LO:=[oFa 14 3 1,oLo 15 14,oMv 16 3,oIa 17 15 16,oLf 18 17,oCl 19 44 [.t 18],oUn 20 .not 19]
def c44r8:LO:=[oP 2 .mv [cBo false]]
def c44k9:ACode:=kRt 20 c44r8 [2]
def c44k10:ACode:=.block 1 (.seq (rT c44r7 [1,3,20]) c44k9)
def c44r11:LO:=[oMv 12 3,oBc 13 .add 12 1,oMv 3 13]
def c44b12:ACode:=.seq (.seq (rT c44r5 [1,3,11]) c44k6) (.seq c44k10 (rT c44r11 [1,3]))
def c44k13:ACode:=.block 0 (.loop [1,3] c44b12)
def c44r14:LO:=[oP 2 .mv [cBo true]]
def c44:ACode:=.seq (rT c44r0 [1]) (.seq (.seq (rT c44r1 [1,6]) c44k3) (.seq (.seq (rT c44r4 [1,3]) c44k13) (.seq (rT c44r14 [2]) .ret)))
def g44:AFn:=⟨1,[(2,none)],c44,false,[],[],none⟩
theorem tr44:trFn Try.prog false 44 Try.f44=some g44:=by kernel_rfl
def c45r0:LO:=[oBx 1 0,oP 2 .mv [cBo false]]
def c45r1:LO:=[oLf 3 1,oCl 4 70 [.t 3,cSt [44],cIn 2],oMv 5 4,oG 6 (.load (some 4)) [.t 1] 5 false,oG 7 .call [cFn 70,.t 6,cSt [59],cIn 2] 5 false,oP 8 .pick [.t 5,cBo true,.t 7],oMv 9 8,oG 10 (.load (some 4)) [.t 1] 9 false,
 oG 11 .call [cFn 70,.t 10,cSt [45,62],cIn 2] 9 false,oP 12 .pick [.t 9,cBo true,.t 11],oMv 2 12]
def c45:ACode:=.seq (rT c45r0 [1]) (.seq (rT c45r1 [2]) .ret)
def g45:AFn:=⟨1,[(2,none)],c45,false,[],[],none⟩
theorem tr45:trFn Try.prog false 45 Try.f45=some g45:=by kernel_rfl
def c46r0:LO:=[oBx 1 0,oP 2 aZ []]
def c46r1:LO:=[oLf 3 1,oCl 4 23 [.t 3],oUn 5 .not 4]
def c46r2:LO:=[oP 6 (bZ []) [],oSf 2 6]
def c46k3:ACode:=kRt 5 c46r2 [2]
def c46r4:LO:=[oLf 7 1,oCl 8 71 [.t 7],oSf 2 8]
def c46:ACode:=.seq (rT c46r0 [1,2]) (.seq (.seq (rT c46r1 [1,2,5]) c46k3) (.seq (rT c46r4 [2]) .ret))
def g46:AFn:=⟨1,[(2,some (some 4))],c46,false,[],[],none⟩
theorem tr46:trFn Try.prog false 46 Try.f46=some g46:=by kernel_rfl
def c47r0:LO:=[oBx 2 0,oBx 3 1,oP 4 .mv [cBo false]]
def c47r1:LO:=[oFa 6 0 2,oLo 7 6,oFa 8 0 3,oLo 9 8,oBi 10 .neq 7 9,oMv 11 10,oG 12 (.faddr 1) [.t 2] 11 false,oG 13 (.load none) [.t 12] 11 false,oG 14 (.faddr 1) [.t 3] 11 false,oG 15 (.load none) [.t 14] 11 false,oG 16 (.bin .neq) [.t 13,.t 15] 11 false,
 oP 17 .pick [.t 11,cBo true,.t 16],oMv 18 17,oG 19 (.faddr 2) [.t 2] 18 false,oG 20 (.load none) [.t 19] 18 false,oG 21 (.faddr 2) [.t 3] 18 false,oG 22 (.load none) [.t 21] 18 false,oG 23 (.bin .neq) [.t 20,.t 22] 18 false,
 oP 24 .pick [.t 18,cBo true,.t 23],oMv 25 24,oG 26 (.faddr 3) [.t 2] 25 false,oG 27 (.load none) [.t 26] 25 false,oG 28 .len [.t 27] 25 false,oG 29 (.faddr 3) [.t 3] 25 false,oG 30 (.load none) [.t 29] 25 false,oG 31 .len [.t 30] 25 false,
 oG 32 (.bin .neq) [.t 28,.t 31] 25 false,oP 33 .pick [.t 25,cBo true,.t 32]]
def c47r2:LO:=[oP 4 .mv [cBo false]]
def c47k3:ACode:=kRt 33 c47r2 [4]
def c47r4:LO:=[oP 5 .mv [cIn 0]]
def c47r5:LO:=[oMv 34 5,oFa 35 3 2,oLo 36 35,oUn 37 .len 36,oBi 38 .lss 34 37]
def c47k6:ACode:=kEx 38 0
def c47r7:LO:=[oFa 41 3 2,oLo 42 41,oMv 43 5,oIa 44 42 43,oLf 45 44,oFa 46 3 3,oLo 47 46,oMv 48 5,oIa 49 47 48,oLf 50 49,oCl 51 47 [.t 45,.t 50],oUn 52 .not 51]
def c47r8:LO:=[oP 4 .mv [cBo false]]
def c47k9:ACode:=kRt 52 c47r8 [4]
def c47k10:ACode:=.block 1 (.seq (rT c47r7 [2,3,5,52]) c47k9)
def c47r11:LO:=[oMv 39 5,oBc 40 .add 39 1,oMv 5 40]
def c47b12:ACode:=.seq (.seq (rT c47r5 [2,3,5,38]) c47k6) (.seq c47k10 (rT c47r11 [2,3,5]))
def c47k13:ACode:=.block 0 (.loop [2,3,5] c47b12)
def c47r14:LO:=[oP 4 .mv [cBo true]]
def c47:ACode:=.seq (rT c47r0 [2,3]) (.seq (.seq (rT c47r1 [2,3,33]) c47k3) (.seq (.seq (rT c47r4 [2,3,5]) c47k13) (.seq (rT c47r14 [4]) .ret)))
def g47:AFn:=⟨2,[(4,none)],c47,false,[],[],none⟩
theorem tr47:trFn Try.prog false 47 Try.f47=some g47:=by kernel_rfl
def c48r0:LO:=[oBx 2 0,oP 4 .mv [cIn 0]]
def c48r1:LO:=[oP 5 .mv [cIn 1]]
def c48r2:LO:=[oP 6 .mv [cIn 0]]
def c48r3:LO:=[oMv 7 6,oFa 8 3 2,oLo 9 8,oUn 10 .len 9,oBi 11 .lss 7 10,oMv 12 11,oG 13 .mv [.t 5] 12 true,oG 14 .mv [.t 1] 12 true,oG 15 (.bin .lss) [.t 13,.t 14] 12 true,oP 16 .pick [.t 12,.t 15,cBo false]]
def c48k4:ACode:=kEx 16 0
def c48r5:LO:=[oMv 19 5,oFa 20 3 2,oLo 21 20,oMv 22 6,oIa 23 21 22,oLf 24 23,oMv 25 1,oMv 26 5,oBi 27 .sub 25 26,oCl 28 48 [.t 24,.t 27],oBi 29 .add 19 28,oMv 5 29]
def c48k6:ACode:=.block 1 (rT c48r5 [1,2,5,6])
def c48r7:LO:=[oMv 17 6,oBc 18 .add 17 1,oMv 6 18]
def c48b8:ACode:=.seq (.seq (rT c48r3 [1,2,5,6,16]) c48k4) (.seq c48k6 (rT c48r7 [1,2,5,6]))
def c48k9:ACode:=.block 0 (.loop [1,2,5,6] c48b8)
def c48r10:LO:=[oMv 30 5,oMv 4 30]
def c48:ACode:=.seq (rT c48r0 [1,2]) (.seq (rT c48r1 [1,2,5]) (.seq (.seq (rT c48r2 [1,2,5,6]) c48k9) (.seq (rT c48r10 [4]) .ret)))
def g48:AFn:=⟨2,[(4,none)],c48,false,[],[],none⟩
theorem tr48:trFn Try.prog false 48 Try.f48=some g48:=by kernel_rfl
def c49r0:LO:=[oBx 3 1,oP 4 (.nilsl none) []]
def c49r1:LO:=[oFa 6 0 3,oLo 7 6,oBc 8 .eql 7 0,oMv 9 8,oG 10 .mv [.t 0] 9 true,oG 11 (.faddr 1) [.t 3] 9 true,oG 12 (.load none) [.t 11] 9 true,oG 13 .call [cFn 72,.t 10,.t 12] 9 true,oG 14 (.bin .lss) [.t 13,cIn 0] 9 true,
 oP 15 .pick [.t 9,.t 14,cBo false]]
def c49r2:LO:=[oMv 16 0,oFa 17 1 3,oLo 18 17,oUn 19 (.bslice none) 18,oP 20 (.append none) [.t 16,.t 19],oMv 0 20]
def c49k3:ACode:=.cond (.t 15) (rT c49r2 [0,3]) .skip
def c49r4:LO:=[oP 5 .mv [cIn 0]]
def c49r5:LO:=[oMv 21 5,oFa 22 3 3,oLo 23 22,oUn 24 .len 23,oBi 25 .lss 21 24]
def c49k6:ACode:=kEx 25 0
def c49r7:LO:=[oMv 28 0,oFa 29 3 3,oLo 30 29,oMv 31 5,oIa 32 30 31,oLf 33 32,oCl 34 49 [.t 28,.t 33],oMv 0 34]
def c49k8:ACode:=.block 1 (rT c49r7 [0,3,5])
def c49r9:LO:=[oMv 26 5,oBc 27 .add 26 1,oMv 5 27]
def c49b10:ACode:=.seq (.seq (rT c49r5 [0,3,5,25]) c49k6) (.seq c49k8 (rT c49r9 [0,3,5]))
def c49k11:ACode:=.block 0 (.loop [0,3,5] c49b10)
def c49r12:LO:=[oMv 35 0,oMv 4 35]
def c49:ACode:=.seq (rT c49r0 [0,3]) (.seq (.seq (rT c49r1 [0,3,15]) c49k3) (.seq (.seq (rT c49r4 [0,3,5]) c49k11) (.seq (rT c49r12 [4]) .ret)))
def g49:AFn:=⟨2,[(4,none)],c49,true,[],[],none⟩
theorem tr49:trFn Try.prog true 49 Try.f49=some g49:=by kernel_rfl
def c50r0:LO:=[oBx 3 1,oP 4 aZ []]
def c50r1:LO:=[oFa 7 0 3,oLo 8 7,oFa 9 1 3,oLo 10 9,oFa 11 2 3,oLo 12 11,oP 13 (bZ [0,1,2]) [.t 8,.t 10,.t 12],oP 5 aZ [],oSf 5 13]
def c50r2:LO:=[oFa 14 0 3,oLo 15 14,oBc 16 .eql 15 0]
def c50r3:LO:=[oMv 17 0,oFa 18 1 3,oLo 19 18,oCl 20 72 [.t 17,.t 19],oFa 21 1 5,oSo 21 20]
def c50k4:ACode:=.cond (.t 16) (rT c50r3 [0,3,4,5]) .skip
def c50r5:LO:=[oP 6 .mv [cIn 0]]
def c50r6:LO:=[oMv 22 6,oFa 23 3 3,oLo 24 23,oUn 25 .len 24,oBi 26 .lss 22 25]
def c50k7:ACode:=kEx 26 0
def c50r8:LO:=[oFa 29 3 5,oLo 30 29,oMv 31 0,oFa 32 3 3,oLo 33 32,oMv 34 6,oIa 35 33 34,oLf 36 35,oP 37 .callp [cFn 50,.t 31,.t 36],oUn 38 (.bslicep (some 4)) 37,oP 39 (.append (some 4)) [.t 30,.t 38],oFa 40 3 5,oSo 40 39]
def c50k9:ACode:=.block 1 (.seq (.settle [0]) (rT c50r8 [0,3,4,5,6]))
def c50r10:LO:=[oMv 27 6,oBc 28 .add 27 1,oMv 6 28]
def c50b11:ACode:=.seq (.seq (rT c50r6 [0,3,4,5,6,26]) c50k7) (.seq c50k9 (rT c50r10 [0,3,4,5,6]))
def c50k12:ACode:=.block 0 (.loop [0,3,4,5,6] c50b11)
def c50r13:LO:=[oLf 41 5,oSf 4 41]
def c50:ACode:=.seq (rT c50r0 [0,3,4]) (.seq (rT c50r1 [0,3,4,5]) (.seq (.seq (rT c50r2 [0,3,4,5,16]) c50k4) (.seq (.seq (rT c50r5 [0,3,4,5,6]) c50k12) (.seq (rT c50r13 [4]) .ret))))
def g50:AFn:=⟨2,[(4,some (some 4))],c50,false,[],[],none⟩
theorem tr50:trFn Try.prog false 50 Try.f50=some g50:=by kernel_rfl
def c51r0:LO:=[oBx 1 0,oP 2 .mv [cBo false]]
def c51r1:LO:=[oLf 3 1,oCl 4 73 [.t 3],oBc 5 .leq 4 2000,oMv 6 5,oG 7 (.load (some 4)) [.t 1] 6 true,oG 8 .call [cFn 74,.t 7] 6 true,oP 9 .pick [.t 6,.t 8,cBo false],oMv 2 9]
def c51:ACode:=.seq (rT c51r0 [1]) (.seq (rT c51r1 [2]) .ret)
def g51:AFn:=⟨1,[(2,none)],c51,false,[],[],none⟩
theorem tr51:trFn Try.prog false 51 Try.f51=some g51:=by kernel_rfl
def c52r0:LO:=[oBx 1 0,oP 2 .mv [cBo false]]
def c52r1:LO:=[oFa 3 0 1,oLo 4 3,oBc 5 .eql 4 2,oMv 6 5,oG 7 (.faddr 0) [.t 1] 6 false,oG 8 (.load none) [.t 7] 6 false,oG 9 (.bin .eql) [.t 8,cIn 3] 6 false,oP 10 .pick [.t 6,cBo true,.t 9],oMv 2 10]
def c52:ACode:=.seq (rT c52r0 [1]) (.seq (rT c52r1 [2]) .ret)
def g52:AFn:=⟨1,[(2,none)],c52,false,[],[],none⟩
theorem tr52:trFn Try.prog false 52 Try.f52=some g52:=by kernel_rfl
def c53r0:LO:=[oUn 1 (.box (some 8)) 0,oP 2 .mv [cBo false]]
def c53r1:LO:=[oFa 3 0 1,oLf 4 3,oP 5 .callp [cFn 73,.t 4],oFa 6 4 1,oLf 7 6,oP 8 .callp [cFn 73,.t 7],oBi 9 .add 5 8,oBc 10 .leq 9 2000,oMv 2 10]
def c53:ACode:=.seq (rT c53r0 [1]) (.seq (.seq (.settle []) (rT c53r1 [2])) .ret)
def g53:AFn:=⟨1,[(2,none)],c53,false,[],[],none⟩
theorem tr53:trFn Try.prog false 53 Try.f53=some g53:=by kernel_rfl
def c54r0:LO:=[oBx 1 0,oP 2 aZ [],oP 3 .mv [cBo false]]
def c54r1:LO:=[oLf 4 1,oCl 5 51 [.t 4],oUn 6 .not 5]
def c54r2:LO:=[oP 7 (bZ []) [],oSf 2 7,oP 3 .mv [cBo false]]
def c54k3:ACode:=kRt 6 c54r2 [2,3]
def c54r4:LO:=[oLf 9 1,oCl 10 75 [.t 9],oMv 8 10,oEx 11 0 8,oEx 12 1 8,oSf 2 11,oMv 3 12]
def c54r5:LO:=[oMv 13 3,oUn 14 .not 13,oMv 15 14,oG 16 (.load (some 4)) [.t 2] 15 false,oG 17 .call [cFn 73,.t 16] 15 false,oG 18 (.bin .gtr) [.t 17,cIn 2000] 15 false,oP 19 .pick [.t 15,cBo true,.t 18]]
def c54r6:LO:=[oP 20 (bZ []) [],oSf 2 20,oP 3 .mv [cBo false]]
def c54k7:ACode:=kRt 19 c54r6 [2,3]
def c54r8:LO:=[oLf 21 2,oSf 2 21,oP 3 .mv [cBo true]]
def c54:ACode:=.seq (rT c54r0 [1,2]) (.seq (.seq (rT c54r1 [1,2,6]) c54k3) (.seq (rT c54r4 [2,3]) (.seq (.seq (rT c54r5 [2,19]) c54k7) (.seq (rT c54r8 [2,3]) .ret))))
def g54:AFn:=⟨1,[(2,some (some 4)),(3,none)],c54,false,[],[],none⟩
theorem tr54:trFn Try.prog false 54 Try.f54=some g54:=by kernel_rfl
def c55r0:LO:=[oBx 2 0,oBx 3 1,oP 4 .mv [cBo false]]
def c55r1:LO:=[oLf 5 2,oCl 6 51 [.t 5],oMv 7 6,oG 8 (.load (some 4)) [.t 3] 7 true,oG 9 .call [cFn 51,.t 8] 7 true,oP 10 .pick [.t 7,.t 9,cBo false],oMv 11 10,oG 12 (.load (some 4)) [.t 2] 11 true,oG 13 (.load (some 4)) [.t 3] 11 true,
 oG 14 .call [cFn 76,.t 12,.t 13] 11 true,oP 15 .pick [.t 11,.t 14,cBo false],oMv 4 15]
def c55:ACode:=.seq (rT c55r0 [2,3]) (.seq (rT c55r1 [4]) .ret)
def g55:AFn:=⟨2,[(4,none)],c55,false,[],[],none⟩
theorem tr55:trFn Try.prog false 55 Try.f55=some g55:=by kernel_rfl
def c56r0:LO:=[oUn 1 (.box (some 8)) 0,oP 2 (.alloc (some 8) (.agg [((some 4),(.agg [(none,(.pv none (.int .i64 0))),(none,(.pv none (.int .i64 0))),(none,(.pv none (.str []))),(none,(.tsl (some 4) []))])),((some 4),(.agg [(none,(.pv none (.int .i64 0))),(none,(.pv none (.int .i64 0))),(none,(.pv none (.str []))),(none,(.tsl (some 4) []))]))])) [],
 oP 3 .mv [cIn 0]]
def c56r1:LO:=[oP 5 (.mkmap none) [],oMv 4 5]
def c56r2:LO:=[oFa 6 0 1,oLf 7 6,oMv 8 4,oCl 9 77 [.t 7,.t 8],oFa 10 0 2,oSf 10 9]
def c56r3:LO:=[oFa 11 4 1,oLf 12 11,oMv 13 4,oCl 14 77 [.t 12,.t 13],oFa 15 4 2,oSf 15 14]
def c56r4:LO:=[oUn 16 (.load (some 8)) 2,oMv 17 4,oUn 18 .mlen 17,⟨none,(.store (some 8)),[.t 2,.t 16],none⟩,oMv 3 18]
def c56:ACode:=.seq (rT c56r0 [1,2]) (.seq (rT c56r1 [1,2,4]) (.seq (rT c56r2 [1,2,4]) (.seq (rT c56r3 [2,4]) (.seq (rT c56r4 [2,3]) .ret))))
def g56:AFn:=⟨1,[(2,some (some 8)),(3,none)],c56,false,[],[],none⟩
theorem tr56:trFn Try.prog false 56 Try.f56=some g56:=by kernel_rfl
def c57r0:LO:=[oBx 4 1,oP 6 .mv [cIn 0],oP 7 .mv [cBo false]]
def c57r1:LO:=[oMv 12 0,oUn 13 .len 12,oMv 8 13]
def c57r2:LO:=[oMv 14 8,oP 9 .mv [cIn 0],oMv 10 14]
def c57r3:LO:=[oMv 15 9,oMv 16 10,oBi 17 .lss 15 16]
def c57k4:ACode:=kEx 17 0
def c57r5:LO:=[oMv 18 9,oMv 19 10,oBi 20 .add 18 19,oUn 21 (.conv .u64) 20,oP 22 (.bin .shr) [.t 21,.c (.pv none (.int .u64 1))],oUn 23 (.conv .i64) 22,oMv 11 23]
def c57r6:LO:=[oMv 24 2,oMv 25 0,oMv 26 11,oIa 27 25 26,oLf 28 27,oLf 29 4,oP 30 .call [.t 24,.t 28,.t 29],oBc 31 .lss 30 0]
def c57r7:LO:=[oMv 32 11,oBc 33 .add 32 1,oMv 9 33]
def c57r8:LO:=[oMv 34 11,oMv 10 34]
def c57k9:ACode:=.cond (.t 31) (rT c57r7 [0,2,4,8,9,10]) (rT c57r8 [0,2,4,8,9,10])
def c57k10:ACode:=.block 1 (.seq (rT c57r5 [0,2,4,8,9,10,11]) (.seq (rT c57r6 [0,2,4,8,9,10,11,31]) c57k9))
def c57b11:ACode:=.seq (.seq (rT c57r3 [0,2,4,8,9,10,17]) c57k4) c57k10
def c57k12:ACode:=.block 0 (.loop [0,2,4,8,9,10] c57b11)
def c57r13:LO:=[oMv 35 9,oMv 36 9,oMv 37 8,oBi 38 .lss 36 37,oMv 39 38,oG 40 .mv [.t 2] 39 true,oG 41 .mv [.t 0] 39 true,oG 42 .mv [.t 9] 39 true,oG 43 (.iaddr (some 4)) [.t 41,.t 42] 39 true,oG 44 (.load (some 4)) [.t 43] 39 true,
 oG 45 (.load (some 4)) [.t 4] 39 true,oG 46 .call [.t 40,.t 44,.t 45] 39 true,oG 47 (.bin .eql) [.t 46,cIn 0] 39 true,oP 48 .pick [.t 39,.t 47,cBo false],oMv 6 35,oMv 7 48]
def c57:ACode:=.seq (rT c57r0 [0,2,4]) (.seq (rT c57r1 [0,2,4,8]) (.seq (rT c57r2 [0,2,4,8,9,10]) (.seq c57k12 (.seq (.region false c57r13 [6,7]) .ret))))
def g57:AFn:=⟨3,[(6,none),(7,none)],c57,false,[],[],none⟩
theorem tr57:trFn Try.prog false 57 Try.f57=some g57:=by kernel_rfl
def c58r0:LO:=[oBx 2 0,oBx 3 1,oP 4 .mv [cIn 0]]
def c58r1:LO:=[oLf 5 2,oLf 6 3,oCl 7 41 [.t 5,.t 6],oMv 4 7]
def c58:ACode:=.seq (rT c58r0 [2,3]) (.seq (rT c58r1 [4]) .ret)
def g58:AFn:=⟨2,[(4,none)],c58,false,[],[],none⟩
theorem tr58:trFn Try.prog false 58 Try.f58=some g58:=by kernel_rfl
def c63r0:LO:=[oBx 1 0,oP 2 aZ []]
def c63r1:LO:=[oLf 3 1,oCl 4 51 [.t 3],oUn 5 .not 4]
def c63r2:LO:=[oP 6 (bZ []) [],oSf 2 6]
def c63k3:ACode:=kRt 5 c63r2 [2]
def c63r4:LO:=[oLf 7 1,oCl 8 80 [.t 7,cFn 81],oSf 2 8]
def c63:ACode:=.seq (rT c63r0 [1,2]) (.seq (.seq (rT c63r1 [1,2,5]) c63k3) (.seq (rT c63r4 [2]) .ret))
def g63:AFn:=⟨1,[(2,some (some 4))],c63,false,[],[],none⟩
theorem tr63:trFn Try.prog false 63 Try.f63=some g63:=by kernel_rfl
def c64r0:LO:=[oP 4 .mv [cIn 0]]
def c64r1:LO:=[oMv 6 0,oUn 7 .len 6,oP 8 .mv [cIn 0]]
def c64r2:LO:=[oBi 9 .lss 8 7]
def c64k3:ACode:=kEx 9 0
def c64r4:LO:=[oMv 10 8,oMv 5 10]
def c64r5:LO:=[oMv 11 1,oMv 12 0,oMv 13 5,oP 14 (.iaddr (some 9)) [.t 12,.t 13],oUn 15 (.load (some 9)) 14,oP 16 .call [.t 11,.t 15]]
def c64r6:LO:=[oMv 17 5,oMv 4 17]
def c64k7:ACode:=kRt 16 c64r6 [4]
def c64k8:ACode:=.block 1 (.seq (rT c64r4 [0,1,5,7,8]) (.seq (rT c64r5 [0,1,5,7,8,16]) c64k7))
def c64r9:LO:=[oBc 18 .add 8 1,oMv 8 18]
def c64b10:ACode:=.seq (rT c64r2 [0,1,7,8,9]) (.seq c64k3 (.seq c64k8 (rT c64r9 [0,1,7,8])))
def c64k11:ACode:=.block 0 (.loop [0,1,7,8] c64b10)
def c64r12:LO:=[oP 4 .mv [.c (.pv none (.int .i64 (-1)))]]
def c64:ACode:=.seq (rT c64r0 [0,1]) (.seq (.seq (rT c64r1 [0,1,7,8]) c64k11) (.seq (rT c64r12 [4]) .ret))
def g64:AFn:=⟨2,[(4,none)],c64,true,[],[],none⟩
theorem tr64:trFn Try.prog true 64 Try.f64=some g64:=by kernel_rfl
def c65r0:LO:=[oUn 2 (.box (some 9)) 0,oP 3 .mv [cBo false]]
def c65r1:LO:=[oFa 4 0 2,oLo 5 4,oLo 6 1,oBi 7 .eql 5 6,oMv 3 7]
def c65:ACode:=.seq (rT c65r0 [1,2]) (.seq (rT c65r1 [3]) .ret)
def g65:AFn:=⟨2,[(3,none)],c65,true,[],[],none⟩
theorem tr65:trFn Try.prog true 65 Try.f65=some g65:=by kernel_rfl
def c66r0:LO:=[oP 2 .mv [cIn 0]]
def c66r1:LO:=[oP 3 .mv [cIn 0]]
def c66r2:LO:=[oMv 6 0,oUn 7 .len 6,oP 8 .mv [cIn 0]]
def c66r3:LO:=[oBi 9 .lss 8 7]
def c66k4:ACode:=kEx 9 0
def c66r5:LO:=[oP 10 (.iaddr none) [.t 6,.t 8],oLo 11 10,oMv 5 11]
def c66r6:LO:=[oMv 12 5,oMv 13 3,oBi 14 .neq 12 13]
def c66r7:LO:=[oMv 15 5,oMv 2 15]
def c66k8:ACode:=kRt 14 c66r7 [2]
def c66k9:ACode:=.block 1 (.seq (rT c66r5 [3,5,6,7,8]) (.seq (rT c66r6 [3,5,6,7,8,14]) c66k8))
def c66r10:LO:=[oBc 16 .add 8 1,oMv 8 16]
def c66b11:ACode:=.seq (rT c66r3 [3,6,7,8,9]) (.seq c66k4 (.seq c66k9 (rT c66r10 [3,6,7,8])))
def c66k12:ACode:=.block 0 (.loop [3,6,7,8] c66b11)
def c66r13:LO:=[oMv 17 3,oMv 2 17]
def c66:ACode:=.seq (rT c66r0 [0]) (.seq (rT c66r1 [0,3]) (.seq (.seq (rT c66r2 [3,6,7,8]) c66k12) (.seq (rT c66r13 [2]) .ret)))
def g66:AFn:=⟨1,[(2,none)],c66,false,[],[],none⟩
theorem tr66:trFn Try.prog false 66 Try.f66=some g66:=by kernel_rfl
def c67r0:LO:=[oP 4 .mv [cIn 0]]
def c67r1:LO:=[oMv 7 0,oCl 8 82 [.t 7],oMv 5 8]
def c67r2:LO:=[oMv 9 1,oCl 10 82 [.t 9],oMv 6 10]
def c67r3:LO:=[oMv 11 5]
def c67r4:LO:=[oMv 12 6]
def c67r5:LO:=[oP 4 .mv [cIn 0]]
def c67k6:ACode:=kRt 12 c67r5 [4]
def c67r7:LO:=[oP 4 .mv [.c (.pv none (.int .i64 (-1)))]]
def c67k8:ACode:=.cond (.t 11) (.seq (.seq (rT c67r4 [12]) c67k6) (.seq (rT c67r7 [4]) .ret)) .skip
def c67r9:LO:=[oMv 13 6]
def c67r10:LO:=[oP 4 .mv [cIn 1]]
def c67k11:ACode:=kRt 13 c67r10 [4]
def c67r12:LO:=[oMv 14 0,oMv 15 1,oBi 16 .lss 14 15]
def c67r13:LO:=[oP 4 .mv [.c (.pv none (.int .i64 (-1)))]]
def c67k14:ACode:=kRt 16 c67r13 [4]
def c67r15:LO:=[oMv 17 0,oMv 18 1,oBi 19 .gtr 17 18]
def c67r16:LO:=[oP 4 .mv [cIn 1]]
def c67k17:ACode:=kRt 19 c67r16 [4]
def c67r18:LO:=[oP 4 .mv [cIn 0]]
def c67:ACode:=.seq (rT c67r0 [0,1]) (.seq (rT c67r1 [0,1,5]) (.seq (rT c67r2 [0,1,5,6]) (.seq (.seq (rT c67r3 [0,1,6,11]) c67k8) (.seq (.seq (rT c67r9 [0,1,13]) c67k11) (.seq (.seq (rT c67r12 [0,1,16]) c67k14) (.seq (.seq (rT c67r15 [19]) c67k17) (.seq (rT c67r18 [4]) .ret)))))))
def g67:AFn:=⟨2,[(4,none)],c67,false,[],[],none⟩
theorem tr67:trFn Try.prog false 67 Try.f67=some g67:=by kernel_rfl
def c68r0:LO:=[oP 4 .mv [cIn 0]]
def c68r1:LO:=[oMv 7 0,oCl 8 83 [.t 7],oMv 5 8]
def c68r2:LO:=[oMv 9 1,oCl 10 83 [.t 9],oMv 6 10]
def c68r3:LO:=[oMv 11 5]
def c68r4:LO:=[oMv 12 6]
def c68r5:LO:=[oP 4 .mv [cIn 0]]
def c68k6:ACode:=kRt 12 c68r5 [4]
def c68r7:LO:=[oP 4 .mv [.c (.pv none (.int .i64 (-1)))]]
def c68k8:ACode:=.cond (.t 11) (.seq (.seq (rT c68r4 [12]) c68k6) (.seq (rT c68r7 [4]) .ret)) .skip
def c68r9:LO:=[oMv 13 6]
def c68r10:LO:=[oP 4 .mv [cIn 1]]
def c68k11:ACode:=kRt 13 c68r10 [4]
def c68r12:LO:=[oMv 14 0,oMv 15 1,oBi 16 .lss 14 15]
def c68r13:LO:=[oP 4 .mv [.c (.pv none (.int .i64 (-1)))]]
def c68k14:ACode:=kRt 16 c68r13 [4]
def c68r15:LO:=[oMv 17 0,oMv 18 1,oBi 19 .gtr 17 18]
def c68r16:LO:=[oP 4 .mv [cIn 1]]
def c68k17:ACode:=kRt 19 c68r16 [4]
def c68r18:LO:=[oP 4 .mv [cIn 0]]
def c68:ACode:=.seq (rT c68r0 [0,1]) (.seq (rT c68r1 [0,1,5]) (.seq (rT c68r2 [0,1,5,6]) (.seq (.seq (rT c68r3 [0,1,6,11]) c68k8) (.seq (.seq (rT c68r9 [0,1,13]) c68k11) (.seq (.seq (rT c68r12 [0,1,16]) c68k14) (.seq (.seq (rT c68r15 [19]) c68k17) (.seq (rT c68r18 [4]) .ret)))))))
def g68:AFn:=⟨2,[(4,none)],c68,false,[],[],none⟩
theorem tr68:trFn Try.prog false 68 Try.f68=some g68:=by kernel_rfl
def c69r0:LO:=[oBx 1 0,oP 2 .mv [cBo false]]
def c69r1:LO:=[oFa 3 0 1,oLo 4 3]
def c69r2:LO:=[oBc 6 .eql 4 0,oMv 5 6]
def c69r3:LO:=[oFa 7 1 1,oLo 8 7,oBc 9 .geq 8 0,oMv 10 9,oG 11 (.faddr 1) [.t 1] 10 true,oG 12 (.load none) [.t 11] 10 true,oG 13 (.bin .leq) [.t 12,cIn 1099511627776] 10 true,oP 14 .pick [.t 10,.t 13,cBo false],oMv 15 14,
 oG 16 (.faddr 2) [.t 1] 15 true,oG 17 (.load none) [.t 16] 15 true,oG 18 (.bin .eql) [.t 17,cSt []] 15 true,oP 19 .pick [.t 15,.t 18,cBo false],oMv 20 19,oG 21 (.faddr 3) [.t 1] 20 true,oG 22 (.load none) [.t 21] 20 true,
 oG 23 .len [.t 22] 20 true,oG 24 (.bin .eql) [.t 23,cIn 0] 20 true,oP 25 .pick [.t 20,.t 24,cBo false],oMv 2 25]
def c69r4:LO:=[oBc 27 .eql 4 1,oMv 26 27]
def c69r5:LO:=[oFa 28 2 1,oLo 29 28,oP 30 (.bin .eql) [.t 29,cSt []],oMv 31 30,oG 32 (.faddr 3) [.t 1] 31 true,oG 33 (.load none) [.t 32] 31 true,oG 34 .len [.t 33] 31 true,oG 35 (.bin .eql) [.t 34,cIn 0] 31 true,oP 36 .pick [.t 31,.t 35,cBo false],
 oMv 2 36]
def c69r6:LO:=[oBc 38 .eql 4 2,oMv 37 38]
def c69r7:LO:=[oFa 39 1 1,oLo 40 39,oBc 41 .eql 40 0,oMv 42 41,oG 43 (.faddr 2) [.t 1] 42 true,oG 44 (.load none) [.t 43] 42 true,oG 45 .slen [.t 44] 42 true,oG 46 (.bin .leq) [.t 45,cIn 100] 42 true,oP 47 .pick [.t 42,.t 46,cBo false],
 oMv 48 47,oG 49 (.faddr 3) [.t 1] 48 true,oG 50 (.load none) [.t 49] 48 true,oG 51 .len [.t 50] 48 true,oG 52 (.bin .eql) [.t 51,cIn 0] 48 true,oP 53 .pick [.t 48,.t 52,cBo false],oMv 2 53]
def c69r8:LO:=[oBc 55 .eql 4 3,oMv 54 55]
def c69r9:LO:=[oFa 56 1 1,oLo 57 56,oBc 58 .eql 57 0,oMv 59 58,oG 60 (.faddr 2) [.t 1] 59 true,oG 61 (.load none) [.t 60] 59 true,oG 62 .slen [.t 61] 59 true,oG 63 (.bin .leq) [.t 62,cIn 100] 59 true,oP 64 .pick [.t 59,.t 63,cBo false],
 oMv 65 64,oG 66 (.faddr 3) [.t 1] 65 true,oG 67 (.load none) [.t 66] 65 true,oG 68 .len [.t 67] 65 true,oG 69 (.bin .geq) [.t 68,cIn 1] 65 true,oP 70 .pick [.t 65,.t 69,cBo false],oMv 71 70,oG 72 (.faddr 3) [.t 1] 71 true,
 oG 73 (.load none) [.t 72] 71 true,oG 74 .len [.t 73] 71 true,oG 75 (.bin .leq) [.t 74,cIn 8] 71 true,oP 76 .pick [.t 71,.t 75,cBo false],oMv 2 76]
def c69k10:ACode:=kRt 54 c69r9 [2]
def c69k11:ACode:=.cond (.t 37) (.seq (rT c69r7 [2]) .ret) (.seq (rT c69r8 [1,54]) c69k10)
def c69k12:ACode:=.cond (.t 26) (.seq (rT c69r5 [2]) .ret) (.seq (rT c69r6 [1,4,37]) c69k11)
def c69k13:ACode:=.cond (.t 5) (.seq (rT c69r3 [2]) .ret) (.seq (rT c69r4 [1,4,26]) c69k12)
def c69k14:ACode:=.block 0 (.seq (rT c69r2 [1,4,5]) c69k13)
def c69r15:LO:=[oP 2 .mv [cBo false]]
def c69:ACode:=.seq (rT c69r0 [1]) (.seq (.seq (rT c69r1 [1,4]) c69k14) (.seq (rT c69r15 [2]) .ret))
def g69:AFn:=⟨1,[(2,none)],c69,false,[],[],none⟩
theorem tr69:trFn Try.prog false 69 Try.f69=some g69:=by kernel_rfl
def c70r0:LO:=[oBx 3 0,oP 6 .mv [cBo false]]
def c70r1:LO:=[oFa 7 0 3,oLo 8 7,oBc 9 .eql 8 2,oMv 10 9,oG 11 (.faddr 0) [.t 3] 10 false,oG 12 (.load none) [.t 11] 10 false,oG 13 (.bin .eql) [.t 12,cIn 3] 10 false,oP 14 .pick [.t 10,cBo true,.t 13],oMv 15 14,oG 16 (.faddr 2) [.t 3] 15 true,
 oG 17 (.load none) [.t 16] 15 true,oG 18 .mv [.t 1] 15 true,oG 19 (.bin .eql) [.t 17,.t 18] 15 true,oP 20 .pick [.t 15,.t 19,cBo false],oMv 21 20,oG 22 (.faddr 3) [.t 3] 21 true,oG 23 (.load none) [.t 22] 21 true,oG 24 .len [.t 23] 21 true,
 oG 25 .mv [.t 2] 21 true,oG 26 (.bin .eql) [.t 24,.t 25] 21 true,oP 27 .pick [.t 21,.t 26,cBo false],oMv 6 27]
def c70:ACode:=.seq (rT c70r0 [1,2,3]) (.seq (rT c70r1 [6]) .ret)
def g70:AFn:=⟨3,[(6,none)],c70,false,[],[],none⟩
theorem tr70:trFn Try.prog false 70 Try.f70=some g70:=by kernel_rfl
def c71r0:LO:=[oBx 1 0,oP 2 aZ []]
def c71r1:LO:=[oFa 5 0 1,oLo 6 5,oFa 7 1 1,oLo 8 7,oFa 9 2 1,oLo 10 9,oP 11 (bZ [0,1,2]) [.t 6,.t 8,.t 10],oP 3 aZ [],oSf 3 11]
def c71r2:LO:=[oP 4 .mv [cIn 0]]
def c71r3:LO:=[oMv 12 4,oFa 13 3 1,oLo 14 13,oUn 15 .len 14,oBi 16 .lss 12 15]
def c71k4:ACode:=kEx 16 0
def c71r5:LO:=[oFa 19 3 3,oLo 20 19,oFa 21 3 1,oLo 22 21,oMv 23 4,oIa 24 22 23,oLf 25 24,oP 26 .callp [cFn 71,.t 25],oUn 27 (.bslicep (some 4)) 26,oP 28 (.append (some 4)) [.t 20,.t 27],oFa 29 3 3,oSo 29 28]
def c71k6:ACode:=.block 1 (.seq (.settle []) (rT c71r5 [1,2,3,4]))
def c71r7:LO:=[oMv 17 4,oBc 18 .add 17 1,oMv 4 18]
def c71b8:ACode:=.seq (.seq (rT c71r3 [1,2,3,4,16]) c71k4) (.seq c71k6 (rT c71r7 [1,2,3,4]))
def c71k9:ACode:=.block 0 (.loop [1,2,3,4] c71b8)
def c71r10:LO:=[oLf 30 3,oSf 2 30]
def c71:ACode:=.seq (rT c71r0 [1,2]) (.seq (rT c71r1 [1,2,3]) (.seq (.seq (rT c71r2 [1,2,3,4]) c71k9) (.seq (rT c71r10 [2]) .ret)))
def g71:AFn:=⟨1,[(2,some (some 4))],c71,false,[],[],none⟩
theorem tr71:trFn Try.prog false 71 Try.f71=some g71:=by kernel_rfl
def c72r0:LO:=[oP 4 .mv [cIn 0]]
def c72r1:LO:=[oP 5 .mv [cIn 0]]
def c72r2:LO:=[oMv 6 5,oMv 7 0,oUn 8 .len 7,oBi 9 .lss 6 8]
def c72k3:ACode:=kEx 9 0
def c72r4:LO:=[oMv 12 0,oMv 13 5,oP 14 (.iaddr none) [.t 12,.t 13],oLo 15 14,oMv 16 1,oBi 17 .eql 15 16]
def c72r5:LO:=[oMv 18 5,oMv 4 18]
def c72k6:ACode:=kRt 17 c72r5 [4]
def c72k7:ACode:=.block 1 (.seq (rT c72r4 [0,1,5,17]) c72k6)
def c72r8:LO:=[oMv 10 5,oBc 11 .add 10 1,oMv 5 11]
def c72b9:ACode:=.seq (.seq (rT c72r2 [0,1,5,9]) c72k3) (.seq c72k7 (rT c72r8 [0,1,5]))
def c72k10:ACode:=.block 0 (.loop [0,1,5] c72b9)
def c72r11:LO:=[oP 4 .mv [.c (.pv none (.int .i64 (-1)))]]
def c72:ACode:=.seq (rT c72r0 [0,1]) (.seq (.seq (rT c72r1 [0,1,5]) c72k10) (.seq (rT c72r11 [4]) .ret))
def g72:AFn:=⟨2,[(4,none)],c72,false,[],[],none⟩
theorem tr72:trFn Try.prog false 72 Try.f72=some g72:=by kernel_rfl
def c73r0:LO:=[oBx 1 0,oP 2 .mv [cIn 0]]
def c73r1:LO:=[oP 3 (.alloc none (.pv none (.int .i64 0))) [],⟨none,(.store none),[.t 3,cIn 2001],none⟩]
def c73r2:LO:=[oP 4 (.alloc none (.pv none .nilfunc)) []]
def c73r3:LO:=[oP 5 (.mkfunc (.func 84) 0) [.t 3,.t 4],oSo 4 5]
def c73r4:LO:=[oLo 6 4,oLf 7 1,oP 8 .call [.t 6,.t 7]]
def c73r5:LO:=[oLo 9 3,oP 10 (.bin .sub) [cIn 2001,.t 9],oMv 2 10]
def c73:ACode:=.seq (rT c73r0 [1]) (.seq (rT c73r1 [1,3]) (.seq (rT c73r2 [1,3,4]) (.seq (rT c73r3 [1,3,4]) (.seq (rT c73r4 [3]) (.seq (rT c73r5 [2]) .ret)))))
def g73:AFn:=⟨1,[(2,none)],c73,false,[],[],none⟩
theorem tr73:trFn Try.prog false 73 Try.f73=some g73:=by kernel_rfl
def c74r0:LO:=[oBx 1 0,oP 2 .mv [cBo false]]
def c74r1:LO:=[oP 3 .mv [cBo false]]
def c74r2:LO:=[oFa 5 0 1,oLo 6 5]
def c74r3:LO:=[oBc 8 .eql 6 0,oMv 7 8]
def c74r4:LO:=[oFa 9 1 1,oLo 10 9,oBc 11 .geq 10 0,oMv 12 11,oG 13 (.faddr 1) [.t 1] 12 true,oG 14 (.load none) [.t 13] 12 true,oG 15 (.bin .leq) [.t 14,cIn 1099511627776] 12 true,oP 16 .pick [.t 12,.t 15,cBo false],
 oMv 17 16,oG 18 (.faddr 2) [.t 1] 17 true,oG 19 (.load none) [.t 18] 17 true,oG 20 (.bin .eql) [.t 19,cSt []] 17 true,oP 21 .pick [.t 17,.t 20,cBo false],oMv 22 21,oG 23 (.faddr 3) [.t 1] 22 true,oG 24 (.load none) [.t 23] 22 true,
 oG 25 .len [.t 24] 22 true,oG 26 (.bin .eql) [.t 25,cIn 0] 22 true,oP 27 .pick [.t 22,.t 26,cBo false],oMv 3 27]
def c74r5:LO:=[oBc 29 .eql 6 1,oMv 28 29]
def c74r6:LO:=[oFa 30 2 1,oLo 31 30,oP 32 (.bin .eql) [.t 31,cSt []],oMv 33 32,oG 34 (.faddr 3) [.t 1] 33 true,oG 35 (.load none) [.t 34] 33 true,oG 36 .len [.t 35] 33 true,oG 37 (.bin .eql) [.t 36,cIn 0] 33 true,oP 38 .pick [.t 33,.t 37,cBo false],
 oMv 3 38]
def c74r7:LO:=[oBc 40 .eql 6 2,oMv 39 40]
def c74r8:LO:=[oFa 41 1 1,oLo 42 41,oBc 43 .eql 42 0,oMv 44 43,oG 45 (.faddr 2) [.t 1] 44 true,oG 46 (.load none) [.t 45] 44 true,oG 47 .slen [.t 46] 44 true,oG 48 (.bin .leq) [.t 47,cIn 100] 44 true,oP 49 .pick [.t 44,.t 48,cBo false],
 oMv 50 49,oG 51 (.faddr 3) [.t 1] 50 true,oG 52 (.load none) [.t 51] 50 true,oG 53 .len [.t 52] 50 true,oG 54 (.bin .eql) [.t 53,cIn 0] 50 true,oP 55 .pick [.t 50,.t 54,cBo false],oMv 3 55]
def c74r9:LO:=[oBc 57 .eql 6 3,oMv 56 57]
def c74r10:LO:=[oFa 58 1 1,oLo 59 58,oBc 60 .eql 59 0,oMv 61 60,oG 62 (.faddr 2) [.t 1] 61 true,oG 63 (.load none) [.t 62] 61 true,oG 64 .slen [.t 63] 61 true,oG 65 (.bin .leq) [.t 64,cIn 100] 61 true,oP 66 .pick [.t 61,.t 65,cBo false],
 oMv 67 66,oG 68 (.faddr 3) [.t 1] 67 true,oG 69 (.load none) [.t 68] 67 true,oG 70 .len [.t 69] 67 true,oG 71 (.bin .gtr) [.t 70,cIn 0] 67 true,oP 72 .pick [.t 67,.t 71,cBo false],oMv 73 72,oG 74 (.faddr 3) [.t 1] 73 true,
 oG 75 (.load none) [.t 74] 73 true,oG 76 .len [.t 75] 73 true,oG 77 (.bin .leq) [.t 76,cIn 8] 73 true,oP 78 .pick [.t 73,.t 77,cBo false],oMv 3 78]
def c74k11:ACode:=.cond (.t 56) (rT c74r10 [1,3]) .skip
def c74k12:ACode:=.cond (.t 39) (rT c74r8 [1,3]) (.seq (rT c74r9 [1,3,56]) c74k11)
def c74k13:ACode:=.cond (.t 28) (rT c74r6 [1,3]) (.seq (rT c74r7 [1,3,6,39]) c74k12)
def c74k14:ACode:=.cond (.t 7) (rT c74r4 [1,3]) (.seq (rT c74r5 [1,3,6,28]) c74k13)
def c74k15:ACode:=.block 0 (.seq (rT c74r3 [1,3,6,7]) c74k14)
def c74r16:LO:=[oP 4 .mv [cIn 0]]
def c74r17:LO:=[oMv 79 4,oFa 80 3 1,oLo 81 80,oUn 82 .len 81,oBi 83 .lss 79 82,oMv 84 83,oG 85 .mv [.t 3] 84 true,oP 86 .pick [.t 84,.t 85,cBo false]]
def c74k18:ACode:=kEx 86 1
def c74r19:LO:=[oFa 89 3 1,oLo 90 89,oMv 91 4,oIa 92 90 91,oLf 93 92,oCl 94 74 [.t 93],oMv 3 94]
def c74k20:ACode:=.block 2 (rT c74r19 [1,3,4])
def c74r21:LO:=[oMv 87 4,oBc 88 .add 87 1,oMv 4 88]
def c74b22:ACode:=.seq (.seq (rT c74r17 [1,3,4,86]) c74k18) (.seq c74k20 (rT c74r21 [1,3,4]))
def c74k23:ACode:=.block 1 (.loop [1,3,4] c74b22)
def c74r24:LO:=[oMv 95 3,oMv 2 95]
def c74:ACode:=.seq (rT c74r0 [1]) (.seq (rT c74r1 [1,3]) (.seq (.seq (rT c74r2 [1,3,6]) c74k15) (.seq (.seq (rT c74r16 [1,3,4]) c74k23) (.seq (rT c74r24 [2]) .ret))))
def g74:AFn:=⟨1,[(2,none)],c74,false,[],[],none⟩
theorem tr74:trFn Try.prog false 74 Try.f74=some g74:=by kernel_rfl
def c75r0:LO:=[oBx 1 0,oP 2 aZ [],oP 3 (.alloc none (.pv none (.bool false))) []]
def c75r1:LO:=[oP 4 (.mkfunc (.func 85) 0) [.t 2,.t 3]]
def c75r2:LO:=[oLf 5 1,oCl 6 86 [.t 5],oSf 2 6,⟨none,(.store none),[.t 3,cBo true],none⟩]
def c75p3:ACode:=(.seq (rT c75r2 [2,3]) (.seq .ret .skip))
def c75:ACode:=.seq (rT c75r0 [1,2,3]) (rT c75r1 [1,2,3,4])
def g75:AFn:=⟨1,[(2,some (some 4)),(3,some none)],c75,false,[(.dfr 4,c75p3)],[],none⟩
theorem tr75:trFn Try.prog false 75 Try.f75=some g75:=by kernel_rfl
def c76r0:LO:=[oBx 2 0,oBx 3 1,oP 4 .mv [cBo false]]
def c76r1:LO:=[oFa 7 0 2,oLo 8 7,oFa 9 0 3,oLo 10 9,oBi 11 .neq 8 10,oMv 12 11,oG 13 (.faddr 1) [.t 2] 12 false,oG 14 (.load none) [.t 13] 12 false,oG 15 (.faddr 1) [.t 3] 12 false,oG 16 (.load none) [.t 15] 12 false,
 oG 17 (.bin .neq) [.t 14,.t 16] 12 false,oP 18 .pick [.t 12,cBo true,.t 17],oMv 19 18,oG 20 (.faddr 2) [.t 2] 19 false,oG 21 (.load none) [.t 20] 19 false,oG 22 (.faddr 2) [.t 3] 19 false,oG 23 (.load none) [.t 22] 19 false,
 oG 24 (.bin .neq) [.t 21,.t 23] 19 false,oP 25 .pick [.t 19,cBo true,.t 24],oMv 26 25,oG 27 (.faddr 3) [.t 2] 26 false,oG 28 (.load none) [.t 27] 26 false,oG 29 .len [.t 28] 26 false,oG 30 (.faddr 3) [.t 3] 26 false,oG 31 (.load none) [.t 30] 26 false,
 oG 32 .len [.t 31] 26 false,oG 33 (.bin .neq) [.t 29,.t 32] 26 false,oP 34 .pick [.t 26,cBo true,.t 33]]
def c76r2:LO:=[oP 4 .mv [cBo false]]
def c76k3:ACode:=kRt 34 c76r2 [4]
def c76r4:LO:=[oFa 35 3 2,oLo 36 35,oUn 37 .len 36,oP 38 .mv [cIn 0]]
def c76r5:LO:=[oBi 39 .lss 38 37]
def c76k6:ACode:=kEx 39 0
def c76r7:LO:=[oMv 40 38,oIa 41 36 38,oLf 42 41,oP 6 aZ [],oMv 5 40,oSf 6 42]
def c76r8:LO:=[oLf 43 6,oFa 44 3 3,oLo 45 44,oMv 46 5,oIa 47 45 46,oLf 48 47,oCl 49 76 [.t 43,.t 48],oUn 50 .not 49]
def c76r9:LO:=[oP 4 .mv [cBo false]]
def c76k10:ACode:=kRt 50 c76r9 [4]
def c76k11:ACode:=.block 1 (.seq (rT c76r7 [3,5,6,36,37,38]) (.seq (rT c76r8 [3,36,37,38,50]) c76k10))
def c76r12:LO:=[oBc 51 .add 38 1,oMv 38 51]
def c76b13:ACode:=.seq (rT c76r5 [3,36,37,38,39]) (.seq c76k6 (.seq c76k11 (rT c76r12 [3,36,37,38])))
def c76k14:ACode:=.block 0 (.loop [3,36,37,38] c76b13)
def c76r15:LO:=[oP 4 .mv [cBo true]]
def c76:ACode:=.seq (rT c76r0 [2,3]) (.seq (.seq (rT c76r1 [2,3,34]) c76k3) (.seq (.seq (rT c76r4 [3,36,37,38]) c76k14) (.seq (rT c76r15 [4]) .ret)))
def g76:AFn:=⟨2,[(4,none)],c76,false,[],[],none⟩
theorem tr76:trFn Try.prog false 76 Try.f76=some g76:=by kernel_rfl
def c77r0:LO:=[oBx 2 0,oP 4 aZ []]
def c77r1:LO:=[oFa 10 0 2,oLo 11 10,oFa 12 1 2,oLo 13 12,oFa 14 2 2,oLo 15 14,oP 16 (bZ [0,1,2]) [.t 11,.t 13,.t 15],oP 5 aZ [],oSf 5 16]
def c77r2:LO:=[oFa 17 0 2,oLo 18 17,oBc 19 .eql 18 0]
def c77r3:LO:=[oMv 21 1,oFa 22 1 2,oLo 23 22,oP 24 (.lookup false none (.pv none (.int .i64 0)) true) [.t 21,.t 23],oMv 20 24,oEx 25 0 20,oEx 26 1 20,oMv 6 25,oMv 7 26]
def c77r4:LO:=[oMv 27 7,oUn 28 .not 27]
def c77r5:LO:=[oMv 29 1,oUn 30 .mlen 29,oMv 6 30]
def c77r6:LO:=[oMv 31 1,oFa 32 1 2,oLo 33 32,oMv 34 6,⟨none,(.mapset false none),[.t 31,.t 33,.t 34],none⟩]
def c77k7:ACode:=.cond (.t 28) (.seq (rT c77r5 [1,2,4,5,6]) (rT c77r6 [1,2,4,5,6])) .skip
def c77r8:LO:=[oMv 35 6,oFa 36 1 5,oSo 36 35]
def c77k9:ACode:=.cond (.t 19) (.seq (rT c77r3 [1,2,4,5,6,7]) (.seq (.seq (rT c77r4 [1,2,4,5,6,28]) c77k7) (rT c77r8 [1,2,4,5]))) .skip
def c77r10:LO:=[oFa 37 3 2,oLo 38 37,oUn 39 .len 38,oP 40 .mv [cIn 0]]
def c77r11:LO:=[oBi 41 .lss 40 39]
def c77k12:ACode:=kEx 41 0
def c77r13:LO:=[oIa 42 38 40,oLf 43 42,oP 9 aZ [],oSf 9 43]
def c77r14:LO:=[oFa 44 3 5,oLo 45 44,oLf 46 9,oMv 47 1,oP 48 (.calln 1) [.t 44,cFn 77,.t 46,.t 47],oP 49 (.bslicen (some 4) 1) [.t 44,.t 48],oP 50 (.append (some 4)) [.t 45,.t 49],oFa 51 3 5,oSo 51 50]
def c77k15:ACode:=.block 1 (.seq (rT c77r13 [1,4,5,9,38,39,40]) (.region false c77r14 [1,4,5,38,39,40]))
def c77r16:LO:=[oBc 52 .add 40 1,oMv 40 52]
def c77b17:ACode:=.seq (rT c77r11 [1,4,5,38,39,40,41]) (.seq c77k12 (.seq c77k15 (rT c77r16 [1,4,5,38,39,40])))
def c77k18:ACode:=.block 0 (.loop [1,4,5,38,39,40] c77b17)
def c77r19:LO:=[oLf 53 5,oSf 4 53]
def c77:ACode:=.seq (rT c77r0 [1,2,4]) (.seq (rT c77r1 [1,2,4,5]) (.seq (.seq (rT c77r2 [1,2,4,5,19]) c77k9) (.seq (.seq (rT c77r10 [1,4,5,38,39,40]) c77k18) (.seq (rT c77r19 [4]) .ret))))
def g77:AFn:=⟨2,[(4,some (some 4))],c77,true,[],[],none⟩
theorem tr77:trFn Try.prog true 77 Try.f77=some g77:=by kernel_rfl
def c80r0:LO:=[oBx 2 0,oP 4 aZ []]
def c80r1:LO:=[oFa 8 0 2,oLo 9 8,oBc 10 .eql 9 0]
def c80r2:LO:=[oMv 11 1,oLf 12 2,oP 13 .call [.t 11,.t 12],oSf 4 13]
def c80k3:ACode:=kRt 10 c80r2 [4]
def c80r4:LO:=[oFa 14 0 2,oLo 15 14,oFa 16 1 2,oLo 17 16,oFa 18 2 2,oLo 19 18,oP 20 (bZ [0,1,2]) [.t 15,.t 17,.t 19],oP 5 aZ [],oSf 5 20]
def c80r5:LO:=[oFa 21 3 2,oLo 22 21,oUn 23 .len 22,oP 24 .mv [cIn 0]]
def c80r6:LO:=[oBi 25 .lss 24 23]
def c80k7:ACode:=kEx 25 0
def c80r8:LO:=[oIa 26 22 24,oLf 27 26,oP 7 aZ [],oSf 7 27]
def c80r9:LO:=[oFa 28 3 5,oLo 29 28,oLf 30 7,oMv 31 1,oP 32 (.calln 1) [.t 28,cFn 80,.t 30,.t 31],oP 33 (.bslicen (some 4) 1) [.t 28,.t 32],oP 34 (.append (some 4)) [.t 29,.t 33],oFa 35 3 5,oSo 35 34]
def c80k10:ACode:=.block 1 (.seq (rT c80r8 [1,4,5,7,22,23,24]) (.region false c80r9 [1,4,5,22,23,24]))
def c80r11:LO:=[oBc 36 .add 24 1,oMv 24 36]
def c80b12:ACode:=.seq (rT c80r6 [1,4,5,22,23,24,25]) (.seq c80k7 (.seq c80k10 (rT c80r11 [1,4,5,22,23,24])))
def c80k13:ACode:=.block 0 (.loop [1,4,5,22,23,24] c80b12)
def c80r14:LO:=[oLf 37 5,oSf 4 37]
def c80:ACode:=.seq (rT c80r0 [1,2,4]) (.seq (.seq (rT c80r1 [1,2,4,10]) c80k3) (.seq (rT c80r4 [1,2,4,5]) (.seq (.seq (rT c80r5 [1,4,5,22,23,24]) c80k13) (.seq (rT c80r14 [4]) .ret))))
def g80:AFn:=⟨2,[(4,some (some 4))],c80,true,[],[],none⟩
theorem tr80:trFn Try.prog true 80 Try.f80=some g80:=by kernel_rfl
def c81r0:LO:=[oBx 1 0,oP 2 aZ []]
def c81r1:LO:=[oLf 3 1,oSf 2 3]
def c81:ACode:=.seq (rT c81r0 [1,2]) (.seq (rT c81r1 [2]) .ret)
def g81:AFn:=⟨1,[(2,some (some 4))],c81,false,[],[],none⟩
theorem tr81:trFn Try.prog false 81 Try.f81=some g81:=by kernel_rfl
def c82r0:LO:=[oP 2 .mv [cBo false]]
def c82r1:LO:=[oMv 3 0,oMv 4 0,oBi 5 .neq 3 4,oMv 2 5]
def c82:ACode:=.seq (rT c82r0 [0]) (.seq (rT c82r1 [2]) .ret)
def g82:AFn:=⟨1,[(2,none)],c82,false,[],[],none⟩
theorem tr82:trFn Try.prog false 82 Try.f82=some g82:=by kernel_rfl
def c83r0:LO:=[oP 2 .mv [cBo false]]
def c83r1:LO:=[oMv 3 0,oMv 4 0,oBi 5 .neq 3 4,oMv 2 5]
def c83:ACode:=.seq (rT c83r0 [0]) (.seq (rT c83r1 [2]) .ret)
def g83:AFn:=⟨1,[(2,none)],c83,false,[],[],none⟩
theorem tr83:trFn Try.prog false 83 Try.f83=some g83:=by kernel_rfl
def c84r0:LO:=[oBx 3 0]
def c84r1:LO:=[oLo 5 1,oBc 6 .sub 5 1,oSo 1 6]
def c84r2:LO:=[oP 4 .mv [cIn 0]]
def c84r3:LO:=[oMv 7 4,oFa 8 3 3,oLo 9 8,oUn 10 .len 9,oBi 11 .lss 7 10,oMv 12 11,oG 13 (.load none) [.t 1] 12 true,oG 14 (.bin .gtr) [.t 13,cIn 0] 12 true,oP 15 .pick [.t 12,.t 14,cBo false]]
def c84k4:ACode:=kEx 15 0
def c84r5:LO:=[oLo 18 2,oFa 19 3 3,oLo 20 19,oMv 21 4,oIa 22 20 21,oLf 23 22,oP 24 .call [.t 18,.t 23]]
def c84k6:ACode:=.block 1 (rT c84r5 [1,2,3,4])
def c84r7:LO:=[oMv 16 4,oBc 17 .add 16 1,oMv 4 17]
def c84b8:ACode:=.seq (.seq (rT c84r3 [1,2,3,4,15]) c84k4) (.seq c84k6 (rT c84r7 [1,2,3,4]))
def c84k9:ACode:=.block 0 (.loop [1,2,3,4] c84b8)
def c84:ACode:=.seq (rT c84r0 [1,2,3]) (.seq (rT c84r1 [1,2,3]) (.seq (rT c84r2 [1,2,3,4]) c84k9))
def g84:AFn:=⟨3,[],c84,true,[],[],none⟩
theorem tr84:trFn Try.prog true 84 Try.f84=some g84:=by kernel_rfl
def c85r0:LO:=[oMv 2 5]
def c85r1:LO:=[oMv 6 2,oUn 7 (.isnil true) 6]
def c85r2:LO:=[oMv 9 2,oP 10 (.assert 116 (some 0) (.pv (some 0) (.agg [])) true) [.t 9],oMv 8 10,oEx 11 0 8,oEx 12 1 8,oP 3 (.alloc (some 0) (.pv (some 0) (.agg []))) [],⟨none,(.store (some 0)),[.t 3,.t 11],none⟩,oMv 4 12]
def c85r3:LO:=[oMv 13 4,oUn 14 .not 13]
def c85r4:LO:=[oMv 15 2,⟨none,.panic,[.t 15],none⟩]
def c85k5:ACode:=.cond (.t 14) (rT c85r4 [0,1]) .skip
def c85r6:LO:=[oP 16 (bZ []) [],oSf 0 16,⟨none,(.store none),[.t 1,cBo false],none⟩]
def c85k7:ACode:=.cond (.t 7) (.seq (.seq (rT c85r2 [0,1,2,4]) (.seq (rT c85r3 [0,1,2,14]) c85k5)) (rT c85r6 [])) .skip
def c85:ACode:=.seq (rT c85r0 [0,1,2]) (.seq (rT c85r1 [0,1,2,7]) (.seq c85k7 .skip))
def g85:AFn:=⟨2,[],c85,true,[],[],some 5⟩
theorem tr85:trFn Try.prog true 85 Try.f85=some g85:=by kernel_rfl
def c86r0:LO:=[oBx 1 0,oP 2 aZ []]
def c86r1:LO:=[oFa 4 0 1,oLo 5 4,oBc 6 .eql 5 0,oMv 3 6]
def c86r2:LO:=[oLf 7 1,oUn 8 (.bslice (some 4)) 7,oP 9 (bZ [0,2,3]) [cIn 3,cSt [99,97,108,108],.t 8],oSf 2 9]
def c86r3:LO:=[oLf 11 1,oCl 12 89 [.t 11],oMv 10 12]
def c86r4:List (AOper × Option (List AOper)):=[
 (⟨some 13,(.faddr 2),[.t 1],none⟩,none),
 (⟨some 14,(.load none),[.t 13],none⟩,none),
 (⟨some 15,(.faddr 3),[.t 1],none⟩,none),
 (⟨some 16,(.load none),[.t 15],none⟩,none),
 (⟨some 17,(.iaddr (some 4)),[.t 16,cIn 0],none⟩,none),
 (⟨some 18,(.load (some 4)),[.t 17],none⟩,none),
 (⟨some 19,.callp,[cFn 86,.t 18],none⟩,some [⟨some 20,(.faddr 3),[.t 1],none⟩,⟨some 21,(.load none),[.t 20],none⟩,⟨some 22,(.iaddr (some 4)),[.t 21,cIn 1],none⟩,⟨some 23,(.load (some 4)),[.t 22],none⟩,⟨none,.mv,[cBo true],none⟩,⟨none,.mv,[cBo true],none⟩,⟨none,.mv,[cBo true],none⟩,⟨none,.mv,[cBo true],none⟩]),
 (⟨some 20,(.faddr 3),[.t 1],none⟩,none),
 (⟨some 21,(.load none),[.t 20],none⟩,none),
 (⟨some 22,(.iaddr (some 4)),[.t 21,cIn 1],none⟩,none),
 (⟨some 23,(.load (some 4)),[.t 22],none⟩,none),
 (⟨some 24,.callp,[cFn 86,.t 23],none⟩,some [⟨none,.mv,[cBo true],none⟩,⟨none,.mv,[cBo true],none⟩,⟨none,.mv,[cBo true],none⟩]),
 (⟨some 25,(.bslicep (some 4)),[.t 19,.t 24],none⟩,none),
 (⟨some 26,(bZ [0,2,3]),[cIn 3,.t 14,.t 25],none⟩,none),
 (oSf 2 26,none)]
def c86r5:LO:=[oLf 28 1,oCl 29 52 [.t 28],oMv 27 29]
def c86r6:LO:=[oLf 30 1,oCl 31 63 [.t 30],oSf 2 31]
def c86k7:ACode:=kRt 27 c86r6 [2]
def c86k8:ACode:=.cond (.t 10) (.seq (.seq (.settle []) (.doom c86r4 [2])) .ret) (.seq (rT c86r5 [1,2,27]) c86k7)
def c86k9:ACode:=.cond (.t 3) (.seq (rT c86r2 [2]) .ret) (.seq (rT c86r3 [1,2,10]) c86k8)
def c86k10:ACode:=.block 0 (.seq (rT c86r1 [1,2,3]) c86k9)
def c86r11:LO:=[oP 32 (.build [] []) [],oUn 33 (.mkiface 116) 32,⟨none,.panic,[.t 33],none⟩]
def c86:ACode:=.seq (rT c86r0 [1,2]) (.seq c86k10 (rT c86r11 [2]))
def g86:AFn:=⟨1,[(2,some (some 4))],c86,false,[],[],none⟩
theorem tr86:trFn Try.prog false 86 Try.f86=some g86:=by kernel_rfl
def c89r0:LO:=[oBx 1 0,oP 2 .mv [cBo false]]
def c89r1:LO:=[oFa 3 0 1,oLo 4 3,oBc 5 .eql 4 3,oMv 6 5,oG 7 (.faddr 3) [.t 1] 6 true,oG 8 (.load none) [.t 7] 6 true,oG 9 .len [.t 8] 6 true,oG 10 (.bin .eql) [.t 9,cIn 2] 6 true,oP 11 .pick [.t 6,.t 10,cBo false],oMv 12 11,
 oG 13 (.faddr 2) [.t 1] 12 true,oG 14 (.load none) [.t 13] 12 true,oG 15 (.bin .eql) [.t 14,cSt [44]] 12 true,oG 16 .mv [.t 15] 12 true,oG 17 (.faddr 2) [.t 1] 16 false,oG 18 (.load none) [.t 17] 16 false,oG 19 (.bin .eql) [.t 18,cSt [59]] 16 false,
 oG 20 .pick [.t 16,cBo true,.t 19] 12 true,oG 21 .mv [.t 20] 12 true,oG 22 (.faddr 2) [.t 1] 21 false,oG 23 (.load none) [.t 22] 21 false,oG 24 (.bin .eql) [.t 23,cSt [45,62]] 21 false,oG 25 .pick [.t 21,cBo true,.t 24] 12 true,
 oP 26 .pick [.t 12,.t 25,cBo false],oMv 2 26]
def c89:ACode:=.seq (rT c89r0 [1]) (.seq (rT c89r1 [2]) .ret)
def g89:AFn:=⟨1,[(2,none)],c89,false,[],[],none⟩
theorem tr89:trFn Try.prog false 89 Try.f89=some g89:=by kernel_rfl
def tab:List (Nat × AFn):=[(3,g3),(8,g8),(9,g9),(10,g10),(11,g11),(12,g12),(13,g13),(14,g14),(15,g15),(21,g21),(23,g23),(24,g24),(25,g25),(26,g26),(27,g27),(28,g28),(29,g29),(30,g30),(31,g31),(32,g32),(33,g33),(36,g36),(37,g37),(38,g38),(39,g39),(40,g40),(41,g41),(44,g44),(45,g45),(46,g46),(47,g47),(48,g48),(49,g49),(50,g50),(51,g51),(52,g52),(53,g53),(54,g54),(55,g55),(56,g56),(57,g57),(58,g58),(63,g63),(64,g64),(65,g65),(66,g66),(67,g67),(68,g68),(69,g69),(70,g70),(71,g71),(72,g72),(73,g73),(74,g74),(75,g75),(76,g76),(77,g77),(80,g80),(81,g81),(82,g82),(83,g83),(84,g84),(85,g85),(86,g86),(89,g89)]
theorem ztw:zoC Try.prog tab:=
 (zag Try.func3 tr3
 (zag Try.func8 tr8
 (zag Try.func9 tr9
 (zag Try.func10 tr10
 (zag Try.func11 tr11
 (zag Try.func12 tr12
 (zag Try.func13 tr13
 (zag Try.func14 tr14
 (zag Try.func15 tr15
 (zag Try.func21 tr21
 (zag Try.func23 tr23
 (zag Try.func24 tr24
 (zag Try.func25 tr25
 (zag Try.func26 tr26
 (zag Try.func27 tr27
 (zag Try.func28 tr28
 (zag Try.func29 tr29
 (zag Try.func30 tr30
 (zag Try.func31 tr31
 (zag Try.func32 tr32
 (zag Try.func33 tr33
 (zag Try.func36 tr36
 (zag Try.func37 tr37
 (zag Try.func38 tr38
 (zag Try.func39 tr39
 (zag Try.func40 tr40
 (zag Try.func41 tr41
 (zag Try.func44 tr44
 (zag Try.func45 tr45
 (zag Try.func46 tr46
 (zag Try.func47 tr47
 (zag Try.func48 tr48
 (zag Try.func49 tr49
 (zag Try.func50 tr50
 (zag Try.func51 tr51
 (zag Try.func52 tr52
 (zag Try.func53 tr53
 (zag Try.func54 tr54
 (zag Try.func55 tr55
 (zag Try.func56 tr56
 (zag Try.func57 tr57
 (zag Try.func58 tr58
 (zag Try.func63 tr63
 (zag Try.func64 tr64
 (zag Try.func65 tr65
 (zag Try.func66 tr66
 (zag Try.func67 tr67
 (zag Try.func68 tr68
 (zag Try.func69 tr69
 (zag Try.func70 tr70
 (zag Try.func71 tr71
 (zag Try.func72 tr72
 (zag Try.func73 tr73
 (zag Try.func74 tr74
 (zag Try.func75 tr75
 (zag Try.func76 tr76
 (zag Try.func77 tr77
 (zag Try.func80 tr80
 (zag Try.func81 tr81
 (zag Try.func82 tr82
 (zag Try.func83 tr83
 (zag Try.func84 tr84
 (zag Try.func85 tr85
 (zag Try.func86 tr86
 (zag Try.func89 tr89 zoD)))))))))))))))))))))))))))))))))))))))))))))))))))))))))))))))))
attribute [go_sem] c3r0 c3r1 c3r2 c3k3 c3r4 c3r5 c3r6 c3r7 c3k8 c3r9 c3k10 c3r11 c3b12 c3k13 c3r14 c3r15 c3r16 c3r17 c3r18 c3 g3 c8r0 c8r1 c8r2 c8k3 c8r4 c8r5 c8r6 c8k7 c8r8 c8r9 c8 g8 c9r0 c9r1 c9r2 c9r3 c9r4 c9r5 c9 g9 c10r0 c10r1 c10 g10 c11r0 c11r1 c11r2 c11k3 c11r4 c11r5 c11r6 c11k7 c11r8 c11r9 c11r10 c11k11 c11r12 c11r13 c11r14 c11r15 c11k16 c11r17 c11r18 c11r19 c11 g11 c12r0 c12r1 c12r2 c12k3 c12r4 c12r5 c12r6 c12k7 c12r8 c12r9 c12r10 c12 g12 c13r0 c13r1 c13r2 c13k3 c13r4 c13 g13 c14r0 c14r1 c14r2 c14k3 c14r4 c14r5 c14r6 c14k7 c14r8 c14 g14 c15r0 c15r1 c15r2 c15k3 c15r4 c15r5 c15r6 c15r7 c15k8 c15r9 c15r10 c15r11 c15k12 c15r13 c15r14 c15k15 c15r16 c15r17 c15r18 c15r19 c15k20 c15k21 c15r22 c15b23 c15k24 c15k25 c15r26 c15b27 c15k28 c15r29 c15 g15 c21r0 c21r1 c21 g21 c23r0 c23r1 c23 g23 c24r0 c24r1 c24r2 c24k3 c24r4 c24r5 c24k6 c24r7 c24r8 c24k9 c24r10 c24r11 c24r12 c24 g24 c25r0 c25r1 c25 g25 c26r0 c26r1 c26 g26 c27r0 c27r1 c27r2 c27r3 c27k4 c27r5 c27k6 c27r7 c27b8 c27k9 c27r10 c27 g27 c28r0 c28r1 c28r2 c28k3 c28r4 c28r5 c28k6 c28r7 c28r8 c28k9 c28k10 c28r11 c28b12 c28k13 c28r14 c28 g28 c29r0 c29r1 c29r2 c29r3 c29r4 c29k5 c29r6 c29k7 c29r8 c29b9 c29k10 c29r11 c29 g29 c30r0 c30r1 c30r2 c30k3 c30r4 c30r5 c30r6 c30k7 c30r8 c30r9 c30 g30 c31r0 c31r1 c31 g31 c32r0 c32r1 c32r2 c32r3 c32k4 c32r5 c32r6 c32k7 c32r8 c32b9 c32k10 c32r11 c32 g32 c33r0 c33r1 c33r2 c33r3 c33k4 c33r5 c33r6 c33k7 c33r8 c33b9 c33k10 c33r11 c33r12 c33 g33 c37r0 c37r1 c37r2 c37k3 c37r4 c37r5 c37r6 c37r7 c37k8 c37k9 c37r10 c37b11 c37k12 c37r13 c37 g37 c38r0 c38r1 c38r2 c38r3 c38k4 c38r5 c38r6 c38r7 c38r8 c38 g38 c39r0 c39r1 c39r2 c39r3 c39r4 c39k5 c39r6 c39r7 c39k8 c39r9 c39b10 c39k11 c39r12 c39r13 c39 g39 c40r0 c40r1 c40 g40 c41r0 c41r1 c41 g41 c44r0 c44r1 c44r2 c44k3 c44r4 c44r5 c44k6 c44r7 c44r8 c44k9 c44k10 c44r11 c44b12 c44k13 c44r14 c44 g44 c45r0 c45r1 c45 g45 c46r0 c46r1 c46r2 c46k3 c46r4 c46 g46 c47r0 c47r1 c47r2 c47k3 c47r4 c47r5 c47k6 c47r7 c47r8 c47k9 c47k10 c47r11 c47k13 c47r14 c47 g47 c48r0 c48r1 c48r2 c48r3 c48k4 c48r5 c48k6 c48r7 c48b8 c48k9 c48r10 c48 g48 c49r0 c49r1 c49r2 c49k3 c49r4 c49r5 c49k6 c49r7 c49k8 c49r9 c49r12 c49 g49 c50r0 c50r1 c50r2 c50r3 c50k4 c50r5 c50r6 c50k7 c50r8 c50k9 c50r10 c50b11 c50k12 c50r13 c50 g50 c51r0 c51r1 c51 g51 c52r0 c52r1 c52 g52 c53r0 c53r1 c53 g53 c54r0 c54r1 c54r2 c54k3 c54r4 c54r5 c54r6 c54k7 c54r8 c54 g54 c55r0 c55r1 c55 g55 c56r0 c56r1 c56r2 c56r3 c56r4 c56 g56 c57r0 c57r1 c57r2 c57r3 c57k4 c57r5 c57r6 c57r7 c57r8 c57k9 c57k10 c57b11 c57k12 c57r13 c57 g57 c58r0 c58r1 c58 g58 c63r0 c63r1 c63r2 c63k3 c63r4 c63 g63 c64r0 c64r1 c64r2 c64k3 c64r4 c64r5 c64r6 c64k7 c64k8 c64r9 c64b10 c64k11 c64r12 c64 g64 c65r0 c65r1 c65 g65 c66r0 c66r1 c66r2 c66r3 c66k4 c66r5 c66r6 c66r7 c66k8 c66k9 c66r10 c66b11 c66k12 c66r13 c66 g66 c67r0 c67r1 c67r2 c67r3 c67r4 c67r5 c67k6 c67r7 c67k8 c67r9 c67r10 c67k11 c67r12 c67r13 c67k14 c67r15 c67r16 c67k17 c67r18 c67 g67 c68r0 c68r1 c68r2 c68r3 c68r4 c68r5 c68k6 c68r7 c68k8 c68r9 c68r10 c68k11 c68r12 c68r13 c68k14 c68r15 c68r16 c68k17 c68r18 c68 g68 c69r0 c69r1 c69r2 c69r3 c69r4 c69r5 c69r6 c69r7 c69r8 c69r9 c69k10 c69k11 c69k12 c69k13 c69k14 c69r15 c69 g69 c70r0 c70r1 c70 g70 c71r0 c71r1 c71r2 c71r3 c71k4 c71r5 c71k6 c71r7 c71b8 c71k9 c71r10 c71 g71 c72r0 c72r1 c72r2 c72k3 c72r4 c72r5 c72k6 c72k7 c72r8 c72b9 c72k10 c72r11 c72 g72 c73r0 c73r1 c73r2 c73r3 c73r4 c73r5 c73 g73 c74r0 c74r1 c74r2 c74r3 c74r4 c74r5 c74r6 c74r7 c74r8 c74r9 c74r10 c74k11 c74k12 c74k13 c74k14 c74r16 c74r17 c74k18 c74r19 c74k20 c74r21 c74b22 c74k23 c74r24 c74 g74 c75r0 c75r1 c75r2 c75p3 c75 g75 c76r0 c76r1 c76r2 c76k3 c76r4 c76r5 c76k6 c76r7 c76r8 c76r9 c76k10 c76k11 c76r12 c76k14 c76r15 c76 g76 c77r0 c77r1 c77r2 c77r3 c77r4 c77r5 c77r6 c77k7 c77r8 c77k9 c77r10 c77r11 c77k12 c77r13 c77r14 c77k15 c77r16 c77b17 c77k18 c77r19 c77 g77 c80r0 c80r1 c80r2 c80k3 c80r4 c80r5 c80r6 c80k7 c80r8 c80r9 c80k10 c80r11 c80b12 c80k13 c80r14 c80 g80 c81r0 c81r1 c81 g81 c82r0 c82r1 c82 g82 c83r0 c83r1 c83 g83 c84r0 c84r1 c84r2 c84r3 c84k4 c84r5 c84k6 c84r7 c84b8 c84k9 c84 g84 c85r0 c85r1 c85r2 c85r3 c85r4 c85k5 c85r6 c85k7 c85 g85 c86r0 c86r1 c86r2 c86r3 c86r4 c86r5 c86r6 c86k7 c86k8 c86k9 c86k10 c86r11 c86 g86 c89r0 c89r1 c89 g89
end Go.Proofs.Ytligpohiokpnhaa
