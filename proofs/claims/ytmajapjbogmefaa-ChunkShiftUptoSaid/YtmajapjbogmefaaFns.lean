/- The functions as the abstract machine has them,each proved to be what the translation gives. -/
import Derived.Test.YtmajapjbogmefaaAm5
import Derived.Test.YtmajapjbogmefaaProg
import Derived.KernelRfl
namespace Go.Proofs.Ytmajapjbogmefaa
open Go.Am
def oP(d:Nat)(p:AOp)(l:List AArg):AOper:=⟨some d,p,l,none⟩
def aZ:AOp:=.alloc (some 4) (.agg [(none,(.pv none (.int .i64 0))),(none,(.pv none (.int .i64 0))),(none,(.pv none (.str []))),(none,(.tsl (some 4) []))])
def bZ(l:List Nat):AOp:=.build [(none,(.pv none (.int .i64 0))),(none,(.pv none (.int .i64 0))),(none,(.pv none (.str []))),(none,(.tsl (some 4) []))] l
def oMv(d s:Nat):AOper:=⟨some d,.mv,[.t s],none⟩
def oLf(d s:Nat):AOper:=⟨some d,.load (some 4),[.t s],none⟩
def oLo(d s:Nat):AOper:=⟨some d,.load none,[.t s],none⟩
def oFa(d k s:Nat):AOper:=⟨some d,.faddr k,[.t s],none⟩
def oSf(r s:Nat):AOper:=⟨none,.store (some 4),[.t r,.t s],none⟩
def oSo(r s:Nat):AOper:=⟨none,.store none,[.t r,.t s],none⟩
def oUn(d:Nat)(p:AOp)(s:Nat):AOper:=⟨some d,p,[.t s],none⟩
def oBi(d:Nat)(p:BinOp)(a b:Nat):AOper:=⟨some d,.bin p,[.t a,.t b],none⟩
def oIa(d a b:Nat):AOper:=⟨some d,.iaddr (some 4),[.t a,.t b],none⟩
def oBx(d s:Nat):AOper:=⟨some d,.box (some 4),[.t s],none⟩
def oEx(d k s:Nat):AOper:=⟨some d,.extract k,[.t s],none⟩
def kRt(c:Nat)(r:List AOper)(l:List Nat):ACode:=.cond (.t c) (.seq (.region true r l) .ret) .skip
def kEx(c k:Nat):ACode:=.cond (.t c) .skip (.exit k)
def rT(r:List AOper)(l:List Nat):ACode:=.region true r l
def oG(d:Nat)(p:AOp)(l:List AArg)(g:Nat)(b:Bool):AOper:=⟨some d,p,l,some (g,b)⟩
def oCl(d f:Nat)(l:List AArg):AOper:=⟨some d,.call,.c (.pv none (.func (.func f)))::l,none⟩
def oBc(d:Nat)(p:BinOp)(a:Nat)(n:Int):AOper:=⟨some d,.bin p,[.t a,.c (.pv none (.int .i64 n))],none⟩
def cSt(l:List UInt8):AArg:=.c (.pv none (.str l))
def cIn(n:Int):AArg:=.c (.pv none (.int .i64 n))
def cFn(n:Nat):AArg:=.c (.pv none (.func (.func n)))
def cBo(b:Bool):AArg:=.c (.pv none (.bool b))
abbrev LO:=List AOper
attribute [go_sem] oBc cSt oG oCl oUn oBi oIa oBx oEx kRt kEx rT oP aZ bZ oMv oLf oLo oFa oSf oSo cIn cFn cBo
def c9r0:LO:=[oUn 2 (.box (some 5)) 0,oP 4 .mv [cBo false]]
def c9r1:LO:=[oUn 13 (.load (some 5)) 2,oCl 14 10 [.t 13],oUn 15 .not 14,oMv 16 15,oG 17 (.load (some 5)) [.t 2] 16 false,oG 18 .call [cFn 15,.t 17] 16 false,oG 19 .not [.t 18] 16 false,oP 20 .pick [.t 16,cBo true,.t 19],
 oMv 21 20,oG 22 .mv [.t 1] 21 false,oG 23 (.bin .lss) [.t 22,cIn 0] 21 false,oP 24 .pick [.t 21,cBo true,.t 23],oMv 25 24,oG 26 .mv [.t 1] 25 false,oG 27 (.bin .gtr) [.t 26,cIn 1073741824] 25 false,oP 28 .pick [.t 25,cBo true,.t 27]]
def c9r2:LO:=[oCl 29 11 [],oMv 4 29]
def c9k3:ACode:=kRt 28 c9r2 [4]
def c9r4:LO:=[oUn 31 (.load (some 5)) 2,oCl 32 12 [.t 31],oMv 30 32,oEx 33 0 30,oEx 34 1 30,oP 5 (.alloc (some 3) (.agg [(none,(.tsl none [])),(none,(.tsl none [])),(none,(.tsl none []))])) [],⟨none,(.store (some 3)),[.t 5,.t 33],none⟩,
 oMv 6 34]
def c9r5:LO:=[oFa 35 0 2,oUn 36 (.load (some 3)) 35,oFa 37 3 2,oLo 38 37,oMv 39 1,oP 40 .callp [cFn 23,.t 38,.t 39],oP 41 (.build [((some 3),(.pv (some 3) (.agg [(none,(.str [])),(none,(.int .i64 0)),(none,(.int .i64 0))]))),(none,(.tsl (some 4) [])),(none,(.tsl (some 6) []))] [0,1]) [.t 36,.t 40],
 oP 7 (.alloc (some 5) (.agg [((some 3),(.pv (some 3) (.agg [(none,(.str [])),(none,(.int .i64 0)),(none,(.int .i64 0))]))),(none,(.tsl (some 4) [])),(none,(.tsl (some 6) []))])) [],⟨none,(.store (some 5)),[.t 7,.t 41],none⟩]
def c9r6:LO:=[oP 8 .mv [cIn 0]]
def c9r7:LO:=[oMv 42 8,oFa 43 4 2,oLo 44 43,oUn 45 .len 44,oBi 46 .lss 42 45]
def c9k8:ACode:=kEx 46 0
def c9r9:LO:=[oFa 49 4 2,oLo 50 49,oMv 51 8,oP 52 (.iaddr (some 6)) [.t 50,.t 51],oUn 53 (.load (some 6)) 52,oP 9 (.alloc (some 6) (.agg [(none,(.pv none (.int .i64 0))),((some 3),(.pv (some 3) (.agg [(none,(.str [])),(none,(.int .i64 0)),(none,(.int .i64 0))]))),(none,(.tsl (some 4) [])),(none,(.pv none (.int .i64 0)))])) [],
 ⟨none,(.store (some 6)),[.t 9,.t 53],none⟩]
def c9r10:LO:=[oFa 54 4 9,oLo 55 54,oMv 56 1,oCl 57 23 [.t 55,.t 56],oFa 58 4 9,oSo 58 57]
def c9r11:LO:=[oFa 59 0 9,oLo 60 59,oBc 61 .eql 60 2,oMv 62 61,oG 63 (.faddr 0) [.t 9] 62 false,oG 64 (.load none) [.t 63] 62 false,oG 65 (.bin .eql) [.t 64,cIn 3] 62 false,oP 66 .pick [.t 62,cBo true,.t 65],oMv 67 66,
 oG 68 (.faddr 0) [.t 9] 67 false,oG 69 (.load none) [.t 68] 67 false,oG 70 (.bin .eql) [.t 69,cIn 4] 67 false,oP 71 .pick [.t 67,cBo true,.t 70]]
def c9r12:LO:=[oFa 72 5 9,oLo 73 72,oMv 74 1,oBi 75 .add 73 74,oFa 76 5 9,oSo 76 75]
def c9k13:ACode:=.cond (.t 71) (rT c9r12 [1,2,5,6,7,8,9]) .skip
def c9r14:LO:=[oFa 77 4 7,oLo 78 77,oUn 79 (.load (some 6)) 9,oUn 80 (.bslice (some 6)) 79,oP 81 (.append (some 6)) [.t 78,.t 80],oFa 82 4 7,oSo 82 81]
def c9k15:ACode:=.block 1 (.seq (rT c9r9 [1,2,5,6,7,8,9]) (.seq (rT c9r10 [1,2,5,6,7,8,9]) (.seq (.seq (rT c9r11 [1,2,5,6,7,8,9,71]) c9k13) (rT c9r14 [1,2,5,6,7,8]))))
def c9r16:LO:=[oMv 47 8,oBc 48 .add 47 1,oMv 8 48]
def c9b17:ACode:=.seq (.seq (rT c9r7 [1,2,5,6,7,8,46]) c9k8) (.seq c9k15 (rT c9r16 [1,2,5,6,7,8]))
def c9k18:ACode:=.block 0 (.loop [1,2,5,6,7,8] c9b17)
def c9r19:LO:=[oUn 83 (.load (some 5)) 7,oCl 84 15 [.t 83],oUn 85 .not 84]
def c9r20:LO:=[oCl 86 11 [],oMv 4 86]
def c9k21:ACode:=kRt 85 c9r20 [4]
def c9r22:LO:=[oUn 88 (.load (some 5)) 7,oCl 89 12 [.t 88],oMv 87 89,oEx 90 0 87,oEx 91 1 87,oP 10 (.alloc (some 3) (.agg [(none,(.tsl none [])),(none,(.tsl none [])),(none,(.tsl none []))])) [],⟨none,(.store (some 3)),[.t 10,.t 90],none⟩,
 oMv 11 91]
def c9r23:LO:=[oP 12 .mv [cIn 0]]
def c9r24:LO:=[oMv 92 12,oFa 93 1 5,oLo 94 93,oUn 95 .len 94,oBi 96 .lss 92 95]
def c9k25:ACode:=kEx 96 2
def c9r26:LO:=[oFa 99 1 5,oLo 100 99,oMv 101 12,oP 102 (.iaddr none) [.t 100,.t 101],oLo 103 102,oMv 104 1,oBi 105 .add 103 104,oP 106 (.iaddr none) [.t 100,.t 101],oSo 106 105]
def c9k27:ACode:=.block 3 (rT c9r26 [1,5,6,10,11,12])
def c9r28:LO:=[oMv 97 12,oBc 98 .add 97 1,oMv 12 98]
def c9b29:ACode:=.seq (.seq (rT c9r24 [1,5,6,10,11,12,96]) c9k25) (.seq c9k27 (rT c9r28 [1,5,6,10,11,12]))
def c9k30:ACode:=.block 2 (.loop [1,5,6,10,11,12] c9b29)
def c9r31:LO:=[oMv 107 6,oBc 108 .eql 107 0,oMv 109 108,oG 110 .mv [.t 11] 109 true,oG 111 (.bin .eql) [.t 110,cIn 0] 109 true,oP 112 .pick [.t 109,.t 111,cBo false],oMv 113 112,oG 114 (.load (some 3)) [.t 5] 113 true,
 oG 115 (.load (some 3)) [.t 10] 113 true,oG 116 .call [cFn 14,.t 114,.t 115] 113 true,oP 117 .pick [.t 113,.t 116,cBo false],oMv 118 117,oG 119 .call [cFn 11] 118 true,oP 120 .pick [.t 118,.t 119,cBo false],oMv 4 120]
def c9:ACode:=.seq (rT c9r0 [1,2]) (.seq (.seq (rT c9r1 [1,2,28]) c9k3) (.seq (rT c9r4 [1,2,5,6]) (.seq (.seq (.settle [1]) (rT c9r5 [1,2,5,6,7])) (.seq (.seq (rT c9r6 [1,2,5,6,7,8]) c9k18) (.seq (.seq (rT c9r19 [1,5,6,7,85]) c9k21) (.seq (rT c9r22 [1,5,6,10,11]) (.seq (.seq (rT c9r23 [1,5,6,10,11,12]) c9k30) (.seq (rT c9r31 [4]) .ret))))))))
def g9:AFn:=⟨2,[(4,none)],c9,false,[],[],none⟩
theorem tr9:trFn Try.prog false 9 Try.f9=some g9:=by kernel_rfl
def c10r0:LO:=[oUn 1 (.box (some 5)) 0,oP 2 .mv [cBo false]]
def c10r1:LO:=[oFa 3 3 1,oLo 4 3,oUn 5 .len 4,oBc 6 .leq 5 20,oMv 7 6,oG 8 (.faddr 4) [.t 1] 7 true,oG 9 (.load none) [.t 8] 7 true,oG 10 .len [.t 9] 7 true,oG 11 (.bin .leq) [.t 10,cIn 100] 7 true,oP 12 .pick [.t 7,.t 11,cBo false],
 oMv 2 12]
def c10:ACode:=.seq (rT c10r0 [1]) (.seq (rT c10r1 [2]) .ret)
def g10:AFn:=⟨1,[(2,none)],c10,false,[],[],none⟩
theorem tr10:trFn Try.prog false 10 Try.f10=some g10:=by kernel_rfl
def c11r0:LO:=[oP 0 .mv [cBo false]]
def c11r1:LO:=[oCl 4 19 [cIn 0],oUn 5 (.bslice (some 4)) 4,oP 6 (.bslice none) [cIn 0,cIn 1],oCl 7 21 [cSt [113],.t 6],oP 8 (.bslice none) [cIn 1],oCl 9 21 [cSt [114],.t 8],oP 10 (.bslice (some 6)) [.t 7,.t 9],oCl 11 20 [.t 5,.t 10],
 oCl 12 12 [.t 11],oMv 3 12,oEx 13 0 3,oEx 14 1 3,oP 1 (.alloc (some 3) (.agg [(none,(.tsl none [])),(none,(.tsl none [])),(none,(.tsl none []))])) [],⟨none,(.store (some 3)),[.t 1,.t 13],none⟩,oMv 2 14]
def c11r2:LO:=[oMv 15 2,oBc 16 .eql 15 0,oMv 17 16,oG 18 (.load (some 3)) [.t 1] 17 true,oG 19 (.bslice none) [cIn 0,cIn 1] 17 true,oG 20 (.bslice none) [cIn 1] 17 true,oG 21 (.bslice none) [cIn 1,cIn 0] 17 true,oG 22 (.build [(none,(.tsl none [])),(none,(.tsl none [])),(none,(.tsl none []))] [0,1,2]) [.t 19,.t 20,.t 21] 17 true,
 oG 23 .call [cFn 14,.t 18,.t 22] 17 true,oP 24 .pick [.t 17,.t 23,cBo false],oMv 0 24]
def c11:ACode:=.seq (rT c11r0 []) (.seq (rT c11r1 [1,2]) (.seq (rT c11r2 [0]) .ret))
def g11:AFn:=⟨0,[(0,none)],c11,false,[],[],none⟩
theorem tr11:trFn Try.prog false 11 Try.f11=some g11:=by kernel_rfl
def c12r0:LO:=[oUn 1 (.box (some 5)) 0,oP 2 (.alloc (some 3) (.agg [(none,(.tsl none [])),(none,(.tsl none [])),(none,(.tsl none []))])) [],oP 3 .mv [cIn 0]]
def c12r1:LO:=[oUn 15 (.load (some 5)) 1,oCl 16 15 [.t 15],oUn 17 .not 16]
def c12r2:LO:=[oP 18 (.build [(none,(.tsl none [])),(none,(.tsl none [])),(none,(.tsl none []))] []) [],⟨none,(.store (some 3)),[.t 2,.t 18],none⟩,oP 3 .mv [cIn 1]]
def c12k3:ACode:=kRt 17 c12r2 [2,3]
def c12r4:LO:=[oP 19 (.mkmap (some 3)) [],oP 4 (.alloc none (.pv none .nilmap)) [],oSo 4 19]
def c12r5:LO:=[oP 5 (.alloc none (.tsl none [])) []]
def c12r6:LO:=[oUn 20 (.load (some 5)) 1,oCl 21 24 [.t 20]]
def c12r7:LO:=[oLo 49 5,oUn 50 .len 49,oP 51 .mv [cIn 0]]
def c12r8:LO:=[oBi 52 .lss 51 50]
def c12k9:ACode:=kEx 52 2
def c12r10:LO:=[oP 53 (.iaddr none) [.t 49,.t 51],oLo 54 53,oMv 10 54]
def c12r11:LO:=[oLo 55 4,oMv 56 10,oP 57 (.lookup false (some 3) (.pv (some 3) (.agg [(none,(.int .i64 0)),(none,(.int .i64 0)),(none,(.int .i64 0))])) false) [.t 55,.t 56],oUn 58 (.field 1 none) 57,oLo 59 4,oMv 60 10,
 oP 61 (.lookup false (some 3) (.pv (some 3) (.agg [(none,(.int .i64 0)),(none,(.int .i64 0)),(none,(.int .i64 0))])) false) [.t 59,.t 60],oUn 62 (.field 2 none) 61,oBi 63 .lss 58 62]
def c12r12:LO:=[oFa 64 1 2,oLo 65 64,oMv 66 10,oUn 67 (.bslice none) 66,oP 68 (.append none) [.t 65,.t 67],oFa 69 1 2,oSo 69 68]
def c12k13:ACode:=.cond (.t 63) (rT c12r12 [1,2,4,49,50,51]) .skip
def c12k14:ACode:=.block 3 (.seq (rT c12r10 [1,2,4,10,49,50,51]) (.seq (rT c12r11 [1,2,4,10,49,50,51,63]) c12k13))
def c12r15:LO:=[oBc 70 .add 51 1,oMv 51 70]
def c12b16:ACode:=.seq (rT c12r8 [1,2,4,49,50,51,52]) (.seq c12k9 (.seq c12k14 (rT c12r15 [1,2,4,49,50,51])))
def c12k17:ACode:=.block 2 (.loop [1,2,4,49,50,51] c12b16)
def c12r18:LO:=[oFa 71 1 2,oLo 72 71,oUn 73 (.mkfunc (.func 26) 0) 4,oCl 74 25 [.t 72,.t 73]]
def c12r19:LO:=[oP 11 .mv [cIn 0]]
def c12r20:LO:=[oFa 75 4 1,oLo 76 75,oUn 77 .len 76,oP 78 .mv [cIn 0]]
def c12r21:LO:=[oBi 79 .lss 78 77]
def c12k22:ACode:=kEx 79 4
def c12r23:LO:=[oP 80 (.iaddr (some 6)) [.t 76,.t 78],oUn 81 (.load (some 6)) 80,oP 13 (.alloc (some 6) (.agg [(none,(.pv none (.int .i64 0))),((some 3),(.pv (some 3) (.agg [(none,(.str [])),(none,(.int .i64 0)),(none,(.int .i64 0))]))),(none,(.tsl (some 4) [])),(none,(.pv none (.int .i64 0)))])) [],
 ⟨none,(.store (some 6)),[.t 13,.t 81],none⟩]
def c12r24:LO:=[oFa 82 0 2,oLo 83 82,oMv 84 11,oUn 85 (.bslice none) 84,oP 86 (.append none) [.t 83,.t 85],oFa 87 0 2,oSo 87 86]
def c12r25:LO:=[oP 14 .mv [cIn 0]]
def c12r26:LO:=[oFa 88 0 13,oLo 89 88,oBc 90 .eql 89 1]
def c12r27:LO:=[oMv 91 14,oFa 92 1 2,oLo 93 92,oUn 94 .len 93,oBi 95 .lss 91 94,oMv 96 95,oG 97 (.load none) [.t 4] 96 true,oG 98 (.faddr 1) [.t 2] 96 true,oG 99 (.load none) [.t 98] 96 true,oG 100 .mv [.t 14] 96 true,
 oG 101 (.iaddr none) [.t 99,.t 100] 96 true,oG 102 (.load none) [.t 101] 96 true,oG 103 (.lookup false (some 3) (.pv (some 3) (.agg [(none,(.int .i64 0)),(none,(.int .i64 0)),(none,(.int .i64 0))])) false) [.t 97,.t 102] 96 true,
 oG 104 (.field 2 none) [.t 103] 96 true,oG 105 .mv [.t 11] 96 true,oG 106 (.bin .gtr) [.t 104,.t 105] 96 true,oP 107 .pick [.t 96,.t 106,cBo false]]
def c12k28:ACode:=kEx 107 6
def c12r29:LO:=[oMv 108 14,oBc 109 .add 108 1,oMv 14 109]
def c12k30:ACode:=.block 7 (rT c12r29 [2,4,11,14,76,77,78])
def c12b31:ACode:=.seq (.seq (rT c12r27 [2,4,11,14,76,77,78,107]) c12k28) c12k30
def c12k32:ACode:=.block 6 (.loop [2,4,11,14,76,77,78] c12b31)
def c12r33:LO:=[oMv 110 11,oBc 111 .add 110 1,oMv 11 111]
def c12k34:ACode:=.cond (.t 90) (.seq c12k32 (rT c12r33 [2,4,11,14,76,77,78])) .skip
def c12r35:LO:=[oFa 112 2 2,oLo 113 112,oMv 114 14,oUn 115 (.bslice none) 114,oP 116 (.append none) [.t 113,.t 115],oFa 117 2 2,oSo 117 116]
def c12k36:ACode:=.block 5 (.seq (rT c12r23 [2,4,11,13,76,77,78]) (.seq (rT c12r24 [2,4,11,13,76,77,78]) (.seq (rT c12r25 [2,4,11,13,14,76,77,78]) (.seq (.seq (rT c12r26 [2,4,11,14,76,77,78,90]) c12k34) (rT c12r35 [2,4,11,76,77,78])))))
def c12r37:LO:=[oBc 118 .add 78 1,oMv 78 118]
def c12b38:ACode:=.seq (rT c12r21 [2,4,11,76,77,78,79]) (.seq c12k22 (.seq c12k36 (rT c12r37 [2,4,11,76,77,78])))
def c12k39:ACode:=.block 4 (.loop [2,4,11,76,77,78] c12b38)
def c12r40:LO:=[oUn 119 (.load (some 3)) 2,⟨none,(.store (some 3)),[.t 2,.t 119],none⟩,oP 3 .mv [cIn 0]]
def c12p41:ACode:=(.seq (rT c12r7 [1,2,4,49,50,51]) (.seq c12k17 (.seq (rT c12r18 [1,2,4]) (.seq (rT c12r19 [1,2,4,11]) (.seq (rT c12r20 [2,4,11,76,77,78]) (.seq c12k39 (.seq (rT c12r40 [2,3]) (.seq .ret .skip))))))))
def c12r42:LO:=[oP 6 (.alloc (some 2) (.pv (some 2) (.agg [(none,(.int .i64 0)),(none,(.int .i64 0))]))) [],⟨none,(.store (some 2)),[.t 6,.t 22],none⟩]
def c12r43:LO:=[oLo 24 4,oFa 25 0 6,oLo 26 25,oP 27 (.lookup false (some 3) (.pv (some 3) (.agg [(none,(.int .i64 0)),(none,(.int .i64 0)),(none,(.int .i64 0))])) true) [.t 24,.t 26],oMv 23 27,oEx 28 0 23,oEx 29 1 23,
 oP 7 (.alloc (some 3) (.pv (some 3) (.agg [(none,(.int .i64 0)),(none,(.int .i64 0)),(none,(.int .i64 0))]))) [],⟨none,(.store (some 3)),[.t 7,.t 28],none⟩,oMv 8 29]
def c12r44:LO:=[oMv 30 8,oUn 31 .not 30]
def c12r45:LO:=[oLo 32 5,oUn 33 .len 32,oFa 34 1 6,oLo 35 34,oP 36 (.build [(none,(.pv none (.int .i64 0))),(none,(.pv none (.int .i64 0))),(none,(.pv none (.int .i64 0)))] [0,1]) [.t 33,.t 35],⟨none,(.store (some 3)),[.t 7,.t 36],none⟩]
def c12r46:LO:=[oLo 37 5,oFa 38 0 6,oLo 39 38,oUn 40 (.bslice none) 39,oP 41 (.append none) [.t 37,.t 40],oSo 5 41]
def c12k47:ACode:=.cond (.t 31) (.seq (rT c12r45 [4,5,6,7]) (rT c12r46 [4,6,7])) .skip
def c12r48:LO:=[oFa 42 1 6,oLo 43 42,oFa 44 2 7,oSo 44 43]
def c12r49:LO:=[oLo 45 4,oFa 46 0 6,oLo 47 46,oUn 48 (.load (some 3)) 7,⟨none,(.mapset false (some 3)),[.t 45,.t 47,.t 48],none⟩]
def c12k50:ACode:=.block 1 (.seq (rT c12r43 [4,5,6,7,8]) (.seq (.seq (rT c12r44 [4,5,6,7,31]) c12k47) (.seq (rT c12r48 [4,6,7]) (rT c12r49 []))))
def c12q51:ACode:=c12k50
def c12:ACode:=.seq (rT c12r0 [1,2]) (.seq (rT c12r1 [1,2,17]) (.seq c12k3 (.seq (rT c12r4 [1,2,4]) (.seq (rT c12r5 [1,2,4,5]) (.seq (rT c12r6 [1,2,4,5,21]) .skip)))))
def g12:AFn:=⟨1,[(2,some (some 3)),(3,none)],c12,true,[(.range 12 (.t 21) [22] [4,5],c12p41)],[⟨[22],(rT c12r42 [4,5,6]),c12q51⟩],none⟩
theorem tr12:trFn Try.prog true 12 Try.f12=some g12:=by kernel_rfl
def c14r0:LO:=[oUn 2 (.box (some 3)) 0,oUn 3 (.box (some 3)) 1,oP 4 .mv [cBo false]]
def c14r1:LO:=[oFa 5 0 2,oLo 6 5,oFa 7 0 3,oLo 8 7,oCl 9 30 [.t 6,.t 8],oMv 10 9,oG 11 (.faddr 1) [.t 2] 10 true,oG 12 (.load none) [.t 11] 10 true,oG 13 (.faddr 1) [.t 3] 10 true,oG 14 (.load none) [.t 13] 10 true,oG 15 .call [cFn 31,.t 12,.t 14] 10 true,
 oP 16 .pick [.t 10,.t 15,cBo false],oMv 17 16,oG 18 (.faddr 2) [.t 2] 17 true,oG 19 (.load none) [.t 18] 17 true,oG 20 (.faddr 2) [.t 3] 17 true,oG 21 (.load none) [.t 20] 17 true,oG 22 .call [cFn 30,.t 19,.t 21] 17 true,
 oP 23 .pick [.t 17,.t 22,cBo false],oMv 4 23]
def c14:ACode:=.seq (rT c14r0 [2,3]) (.seq (rT c14r1 [4]) .ret)
def g14:AFn:=⟨2,[(4,none)],c14,false,[],[],none⟩
theorem tr14:trFn Try.prog false 14 Try.f14=some g14:=by kernel_rfl
def c15r0:LO:=[oUn 1 (.box (some 5)) 0,oP 2 .mv [cBo false]]
def c15r1:LO:=[oP 3 (.alloc none (.pv none (.int .i64 0))) [],⟨none,(.store none),[.t 3,cIn 131072],none⟩]
def c15r2:LO:=[oFa 9 0 1,oUn 10 (.load (some 3)) 9,oCl 11 32 [.t 10],oUn 12 .not 11,oMv 13 12,oG 14 (.faddr 3) [.t 1] 13 false,oG 15 (.load none) [.t 14] 13 false,oG 16 .len [.t 15] 13 false,oG 17 (.faddr 0) [.t 1] 13 false,
 oG 18 (.faddr 1) [.t 17] 13 false,oG 19 (.load none) [.t 18] 13 false,oG 20 (.bin .neq) [.t 16,.t 19] 13 false,oP 21 .pick [.t 13,cBo true,.t 20],oMv 22 21,oG 23 (.faddr 3) [.t 1] 22 false,oG 24 (.load none) [.t 23] 22 false,
 oG 25 .call [cFn 33,.t 3,.t 24] 22 false,oG 26 .not [.t 25] 22 false,oP 27 .pick [.t 22,cBo true,.t 26]]
def c15r3:LO:=[oP 2 .mv [cBo false]]
def c15k4:ACode:=kRt 27 c15r3 [2]
def c15r5:LO:=[oP 4 .mv [cBo false]]
def c15r6:LO:=[oFa 28 4 1,oLo 29 28,oUn 30 .len 29,oP 31 .mv [cIn 0]]
def c15r7:LO:=[oBi 32 .lss 31 30]
def c15k8:ACode:=kEx 32 0
def c15r9:LO:=[oP 33 (.iaddr (some 6)) [.t 29,.t 31],oUn 34 (.load (some 6)) 33,oP 6 (.alloc (some 6) (.agg [(none,(.pv none (.int .i64 0))),((some 3),(.pv (some 3) (.agg [(none,(.str [])),(none,(.int .i64 0)),(none,(.int .i64 0))]))),(none,(.tsl (some 4) [])),(none,(.pv none (.int .i64 0)))])) [],
 ⟨none,(.store (some 6)),[.t 6,.t 34],none⟩]
def c15r10:LO:=[oFa 35 1 6,oUn 36 (.load (some 3)) 35,oP 37 (.build [(none,(.pv none (.str []))),(none,(.pv none (.int .i64 0))),(none,(.pv none (.int .i64 0)))] []) [],oP 38 (.eqs false [1,0,0]) [.t 36,.t 37],oMv 39 38,
 oG 40 (.faddr 4) [.t 6] 39 true,oG 41 (.load none) [.t 40] 39 true,oG 42 .len [.t 41] 39 true,oG 43 (.bin .eql) [.t 42,cIn 0] 39 true,oP 44 .pick [.t 39,.t 43,cBo false],oMv 7 44]
def c15r11:LO:=[oP 8 .mv [cBo false]]
def c15r12:LO:=[oFa 45 0 6,oLo 46 45]
def c15r13:LO:=[oBc 48 .eql 46 1,oMv 47 48]
def c15r14:LO:=[oFa 49 1 6,oUn 50 (.load (some 3)) 49,oCl 51 32 [.t 50],oMv 52 51,oG 53 (.faddr 4) [.t 6] 52 true,oG 54 (.load none) [.t 53] 52 true,oG 55 .len [.t 54] 52 true,oG 56 (.faddr 1) [.t 6] 52 true,oG 57 (.faddr 1) [.t 56] 52 true,
 oG 58 (.load none) [.t 57] 52 true,oG 59 (.bin .eql) [.t 55,.t 58] 52 true,oP 60 .pick [.t 52,.t 59,cBo false],oMv 61 60,oG 62 (.faddr 5) [.t 6] 61 true,oG 63 (.load none) [.t 62] 61 true,oG 64 (.bin .eql) [.t 63,cIn 0] 61 true,
 oP 65 .pick [.t 61,.t 64,cBo false],oMv 66 65,oG 67 (.faddr 4) [.t 6] 66 true,oG 68 (.load none) [.t 67] 66 true,oG 69 .call [cFn 33,.t 3,.t 68] 66 true,oP 70 .pick [.t 66,.t 69,cBo false],oMv 8 70]
def c15r15:LO:=[oP 4 .mv [cBo true]]
def c15r16:LO:=[oBc 72 .eql 46 2,oMv 71 72]
def c15r17:LO:=[oMv 73 7,oMv 74 73,oG 75 (.faddr 5) [.t 6] 74 true,oG 76 (.load none) [.t 75] 74 true,oG 77 (.bin .geq) [.t 76,cIn 0] 74 true,oP 78 .pick [.t 74,.t 77,cBo false],oMv 79 78,oG 80 (.faddr 5) [.t 6] 79 true,
 oG 81 (.load none) [.t 80] 79 true,oG 82 (.bin .leq) [.t 81,cIn 1099511627776] 79 true,oP 83 .pick [.t 79,.t 82,cBo false],oMv 84 83,oG 85 .mv [.t 4] 84 true,oG 86 .not [.t 85] 84 true,oP 87 .pick [.t 84,.t 86,cBo false],
 oMv 8 87]
def c15r18:LO:=[oBc 89 .eql 46 3,oMv 88 89]
def c15r19:LO:=[oBc 90 .eql 46 4,oMv 88 90]
def c15k20:ACode:=.cond (.t 88) .skip (rT c15r19 [3,4,6,7,8,29,30,31,46,88])
def c15r21:LO:=[oMv 91 7,oMv 92 91,oG 93 (.faddr 5) [.t 6] 92 true,oG 94 (.load none) [.t 93] 92 true,oG 95 (.bin .geq) [.t 94,cIn 0] 92 true,oP 96 .pick [.t 92,.t 95,cBo false],oMv 97 96,oG 98 (.faddr 5) [.t 6] 97 true,
 oG 99 (.load none) [.t 98] 97 true,oG 100 (.bin .leq) [.t 99,cIn 1099511627776] 97 true,oP 101 .pick [.t 97,.t 100,cBo false],oMv 8 101]
def c15r22:LO:=[oBc 103 .eql 46 5,oMv 102 103]
def c15r23:LO:=[oMv 104 7,oMv 105 104,oG 106 (.faddr 5) [.t 6] 105 true,oG 107 (.load none) [.t 106] 105 true,oG 108 (.bin .eql) [.t 107,cIn 0] 105 true,oP 109 .pick [.t 105,.t 108,cBo false],oMv 8 109]
def c15k24:ACode:=.cond (.t 102) (rT c15r23 [3,4,8,29,30,31]) .skip
def c15k25:ACode:=.cond (.t 88) (rT c15r21 [3,4,8,29,30,31]) (.seq (rT c15r22 [3,4,6,7,8,29,30,31,102]) c15k24)
def c15k26:ACode:=.cond (.t 71) (rT c15r17 [3,4,8,29,30,31]) (.seq (.seq (rT c15r18 [3,4,6,7,8,29,30,31,46,88]) c15k20) c15k25)
def c15k27:ACode:=.cond (.t 47) (.seq (rT c15r14 [3,8,29,30,31]) (rT c15r15 [3,4,8,29,30,31])) (.seq (rT c15r16 [3,4,6,7,8,29,30,31,46,71]) c15k26)
def c15k28:ACode:=.block 2 (.seq (rT c15r13 [3,4,6,7,8,29,30,31,46,47]) c15k27)
def c15r29:LO:=[oMv 110 8,oUn 111 .not 110]
def c15r30:LO:=[oP 2 .mv [cBo false]]
def c15k31:ACode:=kRt 111 c15r30 [2]
def c15k32:ACode:=.block 1 (.seq (rT c15r9 [3,4,6,29,30,31]) (.seq (rT c15r10 [3,4,6,7,29,30,31]) (.seq (rT c15r11 [3,4,6,7,8,29,30,31]) (.seq (.seq (rT c15r12 [3,4,6,7,8,29,30,31,46]) c15k28) (.seq (rT c15r29 [3,4,29,30,31,111]) c15k31)))))
def c15r33:LO:=[oBc 112 .add 31 1,oMv 31 112]
def c15b34:ACode:=.seq (rT c15r7 [3,4,29,30,31,32]) (.seq c15k8 (.seq c15k32 (rT c15r33 [3,4,29,30,31])))
def c15k35:ACode:=.block 0 (.loop [3,4,29,30,31] c15b34)
def c15r36:LO:=[oP 2 .mv [cBo true]]
def c15:ACode:=.seq (rT c15r0 [1]) (.seq (rT c15r1 [1,3]) (.seq (.seq (rT c15r2 [1,3,27]) c15k4) (.seq (rT c15r5 [1,3,4]) (.seq (.seq (rT c15r6 [3,4,29,30,31]) c15k35) (.seq (rT c15r36 [2]) .ret)))))
def g15:AFn:=⟨1,[(2,none)],c15,false,[],[],none⟩
theorem tr15:trFn Try.prog false 15 Try.f15=some g15:=by kernel_rfl
def c19r0:LO:=[oP 2 aZ []]
def c19r1:LO:=[oMv 3 0,oCl 4 35 [.t 3],oUn 5 .not 4]
def c19r2:LO:=[oP 6 (bZ []) [],oSf 2 6]
def c19k3:ACode:=kRt 5 c19r2 [2]
def c19r4:LO:=[oMv 7 0,oP 8 (bZ [1]) [.t 7],oSf 2 8]
def c19:ACode:=.seq (rT c19r0 [0,2]) (.seq (.seq (rT c19r1 [0,2,5]) c19k3) (.seq (rT c19r4 [2]) .ret))
def g19:AFn:=⟨1,[(2,some (some 4))],c19,false,[],[],none⟩
theorem tr19:trFn Try.prog false 19 Try.f19=some g19:=by kernel_rfl
def c20r0:LO:=[oP 4 (.alloc (some 5) (.agg [((some 3),(.pv (some 3) (.agg [(none,(.str [])),(none,(.int .i64 0)),(none,(.int .i64 0))]))),(none,(.tsl (some 4) [])),(none,(.tsl (some 6) []))])) []]
def c20r1:LO:=[oMv 5 0,oUn 6 .len 5,oP 7 (.build [(none,(.pv none (.str []))),(none,(.pv none (.int .i64 0))),(none,(.pv none (.int .i64 0)))] [0,1]) [cSt [112],.t 6],oMv 8 0,oMv 9 1,oP 10 (.build [((some 3),(.pv (some 3) (.agg [(none,(.str [])),(none,(.int .i64 0)),(none,(.int .i64 0))]))),(none,(.tsl (some 4) [])),(none,(.tsl (some 6) []))] [0,1,2]) [.t 7,.t 8,.t 9],
 ⟨none,(.store (some 5)),[.t 4,.t 10],none⟩]
def c20:ACode:=.seq (rT c20r0 [0,1,4]) (.seq (rT c20r1 [4]) .ret)
def g20:AFn:=⟨2,[(4,some (some 5))],c20,false,[],[],none⟩
theorem tr20:trFn Try.prog false 20 Try.f20=some g20:=by kernel_rfl
def c21r0:LO:=[oP 4 (.alloc (some 6) (.agg [(none,(.pv none (.int .i64 0))),((some 3),(.pv (some 3) (.agg [(none,(.str [])),(none,(.int .i64 0)),(none,(.int .i64 0))]))),(none,(.tsl (some 4) [])),(none,(.pv none (.int .i64 0)))])) []]
def c21r1:LO:=[oMv 7 0,oMv 8 1,oUn 9 .len 8,oP 10 (.build [(none,(.pv none (.str []))),(none,(.pv none (.int .i64 0))),(none,(.pv none (.int .i64 0)))] [0,1]) [.t 7,.t 9],oP 11 (.build [(none,(.pv none (.int .i64 0))),((some 3),(.pv (some 3) (.agg [(none,(.str [])),(none,(.int .i64 0)),(none,(.int .i64 0))]))),(none,(.tsl (some 4) [])),(none,(.pv none (.int .i64 0)))] [0,1]) [cIn 1,.t 10],
 oP 5 (.alloc (some 6) (.agg [(none,(.pv none (.int .i64 0))),((some 3),(.pv (some 3) (.agg [(none,(.str [])),(none,(.int .i64 0)),(none,(.int .i64 0))]))),(none,(.tsl (some 4) [])),(none,(.pv none (.int .i64 0)))])) [],
 ⟨none,(.store (some 6)),[.t 5,.t 11],none⟩]
def c21r2:LO:=[oP 6 .mv [cIn 0]]
def c21r3:LO:=[oMv 12 6,oMv 13 1,oUn 14 .len 13,oBi 15 .lss 12 14]
def c21k4:ACode:=kEx 15 0
def c21r5:LO:=[oFa 18 4 5,oLo 19 18,oMv 20 1,oMv 21 6,oP 22 (.iaddr none) [.t 20,.t 21],oLo 23 22,oP 24 .callp [cFn 19,.t 23],oUn 25 (.bslicep (some 4)) 24,oP 26 (.append (some 4)) [.t 19,.t 25],oFa 27 4 5,oSo 27 26]
def c21k6:ACode:=.block 1 (.seq (.settle []) (rT c21r5 [1,4,5,6]))
def c21r7:LO:=[oMv 16 6,oBc 17 .add 16 1,oMv 6 17]
def c21b8:ACode:=.seq (.seq (rT c21r3 [1,4,5,6,15]) c21k4) (.seq c21k6 (rT c21r7 [1,4,5,6]))
def c21k9:ACode:=.block 0 (.loop [1,4,5,6] c21b8)
def c21r10:LO:=[oUn 28 (.load (some 6)) 5,⟨none,(.store (some 6)),[.t 4,.t 28],none⟩]
def c21:ACode:=.seq (rT c21r0 [0,1,4]) (.seq (rT c21r1 [1,4,5]) (.seq (.seq (rT c21r2 [1,4,5,6]) c21k9) (.seq (rT c21r10 [4]) .ret)))
def g21:AFn:=⟨2,[(4,some (some 6))],c21,false,[],[],none⟩
theorem tr21:trFn Try.prog false 21 Try.f21=some g21:=by kernel_rfl
def c23r0:LO:=[oP 4 (.nilsl (some 4)) []]
def c23r1:LO:=[oP 5 (.nilsl (some 4)) []]
def c23r2:LO:=[oP 6 .mv [cIn 0]]
def c23r3:LO:=[oMv 9 6,oMv 10 0,oUn 11 .len 10,oBi 12 .lss 9 11]
def c23k4:ACode:=kEx 12 0
def c23r5:LO:=[oMv 16 0,oMv 17 6,oIa 18 16 17,oLf 19 18,oMv 20 1,oCl 21 38 [.t 19,.t 20],oMv 15 21,oEx 22 0 15,oEx 23 1 15,oP 7 aZ [],oSf 7 22,oMv 8 23]
def c23r6:LO:=[oMv 24 8,oBc 25 .neq 24 0]
def c23r7:LO:=[oP 26 (bZ [0]) [cIn 9],oSf 7 26]
def c23k8:ACode:=.cond (.t 25) (rT c23r7 [0,1,5,6,7]) .skip
def c23r9:LO:=[oMv 27 5,oLf 28 7,oUn 29 (.bslice (some 4)) 28,oP 30 (.append (some 4)) [.t 27,.t 29],oMv 5 30]
def c23k10:ACode:=.block 1 (.seq (rT c23r5 [0,1,5,6,7,8]) (.seq (.seq (rT c23r6 [0,1,5,6,7,25]) c23k8) (rT c23r9 [0,1,5,6])))
def c23r11:LO:=[oMv 13 6,oBc 14 .add 13 1,oMv 6 14]
def c23b12:ACode:=.seq (.seq (rT c23r3 [0,1,5,6,12]) c23k4) (.seq c23k10 (rT c23r11 [0,1,5,6]))
def c23k13:ACode:=.block 0 (.loop [0,1,5,6] c23b12)
def c23r14:LO:=[oMv 31 5,oMv 4 31]
def c23:ACode:=.seq (rT c23r0 [0,1]) (.seq (rT c23r1 [0,1,5]) (.seq (.seq (rT c23r2 [0,1,5,6]) c23k13) (.seq (rT c23r14 [4]) .ret)))
def g23:AFn:=⟨2,[(4,none)],c23,false,[],[],none⟩
theorem tr23:trFn Try.prog false 23 Try.f23=some g23:=by kernel_rfl
def c24r0:LO:=[oUn 1 (.box (some 5)) 0,oP 2 .mv [.c (.pv none .nilfunc)]]
def c24r1:LO:=[oUn 3 (.mkfunc (.func 39) 0) 1,oMv 2 3]
def c24:ACode:=.seq (rT c24r0 [1]) (.seq (rT c24r1 [2]) .ret)
def g24:AFn:=⟨1,[(2,none)],c24,true,[],[],none⟩
theorem tr24:trFn Try.prog true 24 Try.f24=some g24:=by kernel_rfl
def c25r0:LO:=[oMv 4 0,oMv 5 0,oUn 6 .len 5,oMv 7 1,oCl 8 44 [.t 4,.t 6,.t 7]]
def c25:ACode:=rT c25r0 []
def g25:AFn:=⟨2,[],c25,true,[],[],none⟩
theorem tr25:trFn Try.prog true 25 Try.f25=some g25:=by kernel_rfl
def c26r0:LO:=[oP 5 .mv [cIn 0]]
def c26r1:LO:=[oLo 6 2,oMv 7 1,oP 8 (.lookup false (some 3) (.pv (some 3) (.agg [(none,(.int .i64 0)),(none,(.int .i64 0)),(none,(.int .i64 0))])) false) [.t 6,.t 7],oUn 9 (.field 2 none) 8,oLo 10 2,oMv 11 0,oP 12 (.lookup false (some 3) (.pv (some 3) (.agg [(none,(.int .i64 0)),(none,(.int .i64 0)),(none,(.int .i64 0))])) false) [.t 10,.t 11],
 oUn 13 (.field 2 none) 12,oCl 14 27 [.t 9,.t 13],oMv 5 14]
def c26:ACode:=.seq (rT c26r0 [0,1,2]) (.seq (rT c26r1 [5]) .ret)
def g26:AFn:=⟨3,[(5,none)],c26,true,[],[],none⟩
theorem tr26:trFn Try.prog true 26 Try.f26=some g26:=by kernel_rfl
def c27r0:LO:=[oP 4 .mv [cIn 0]]
def c27r1:LO:=[oMv 7 0,oCl 8 45 [.t 7],oMv 5 8]
def c27r2:LO:=[oMv 9 1,oCl 10 45 [.t 9],oMv 6 10]
def c27r3:LO:=[oMv 11 5]
def c27r4:LO:=[oMv 12 6]
def c27r5:LO:=[oP 4 .mv [cIn 0]]
def c27k6:ACode:=kRt 12 c27r5 [4]
def c27r7:LO:=[oP 4 .mv [.c (.pv none (.int .i64 (-1)))]]
def c27k8:ACode:=.cond (.t 11) (.seq (.seq (rT c27r4 [12]) c27k6) (.seq (rT c27r7 [4]) .ret)) .skip
def c27r9:LO:=[oMv 13 6]
def c27r10:LO:=[oP 4 .mv [cIn 1]]
def c27k11:ACode:=kRt 13 c27r10 [4]
def c27r12:LO:=[oMv 14 0,oMv 15 1,oBi 16 .lss 14 15]
def c27r13:LO:=[oP 4 .mv [.c (.pv none (.int .i64 (-1)))]]
def c27k14:ACode:=kRt 16 c27r13 [4]
def c27r15:LO:=[oMv 17 0,oMv 18 1,oBi 19 .gtr 17 18]
def c27r16:LO:=[oP 4 .mv [cIn 1]]
def c27k17:ACode:=kRt 19 c27r16 [4]
def c27r18:LO:=[oP 4 .mv [cIn 0]]
def c27:ACode:=.seq (rT c27r0 [0,1]) (.seq (rT c27r1 [0,1,5]) (.seq (rT c27r2 [0,1,5,6]) (.seq (.seq (rT c27r3 [0,1,6,11]) c27k8) (.seq (.seq (rT c27r9 [0,1,13]) c27k11) (.seq (.seq (rT c27r12 [0,1,16]) c27k14) (.seq (.seq (rT c27r15 [19]) c27k17) (.seq (rT c27r18 [4]) .ret)))))))
def g27:AFn:=⟨2,[(4,none)],c27,false,[],[],none⟩
theorem tr27:trFn Try.prog false 27 Try.f27=some g27:=by kernel_rfl
def c30r0:LO:=[oP 4 .mv [cBo false]]
def c30r1:LO:=[oMv 6 0,oUn 7 .len 6,oMv 8 1,oUn 9 .len 8,oBi 10 .neq 7 9]
def c30r2:LO:=[oP 4 .mv [cBo false]]
def c30k3:ACode:=kRt 10 c30r2 [4]
def c30r4:LO:=[oP 5 .mv [cIn 0]]
def c30r5:LO:=[oMv 11 5,oMv 12 0,oUn 13 .len 12,oBi 14 .lss 11 13]
def c30k6:ACode:=kEx 14 0
def c30r7:LO:=[oMv 17 0,oMv 18 5,oP 19 (.iaddr none) [.t 17,.t 18],oLo 20 19,oMv 21 1,oMv 22 5,oP 23 (.iaddr none) [.t 21,.t 22],oLo 24 23,oBi 25 .neq 20 24]
def c30r8:LO:=[oP 4 .mv [cBo false]]
def c30k9:ACode:=kRt 25 c30r8 [4]
def c30k10:ACode:=.block 1 (.seq (rT c30r7 [0,1,5,25]) c30k9)
def c30r11:LO:=[oMv 15 5,oBc 16 .add 15 1,oMv 5 16]
def c30b12:ACode:=.seq (.seq (rT c30r5 [0,1,5,14]) c30k6) (.seq c30k10 (rT c30r11 [0,1,5]))
def c30k13:ACode:=.block 0 (.loop [0,1,5] c30b12)
def c30r14:LO:=[oP 4 .mv [cBo true]]
def c30:ACode:=.seq (rT c30r0 [0,1]) (.seq (.seq (rT c30r1 [0,1,10]) c30k3) (.seq (.seq (rT c30r4 [0,1,5]) c30k13) (.seq (rT c30r14 [4]) .ret)))
def g30:AFn:=⟨2,[(4,none)],c30,false,[],[],none⟩
theorem tr30:trFn Try.prog false 30 Try.f30=some g30:=by kernel_rfl
def c31r0:LO:=[oP 4 .mv [cBo false]]
def c31r1:LO:=[oMv 6 0,oUn 7 .len 6,oMv 8 1,oUn 9 .len 8,oBi 10 .neq 7 9]
def c31r2:LO:=[oP 4 .mv [cBo false]]
def c31k3:ACode:=kRt 10 c31r2 [4]
def c31r4:LO:=[oP 5 .mv [cIn 0]]
def c31r5:LO:=[oMv 11 5,oMv 12 0,oUn 13 .len 12,oBi 14 .lss 11 13]
def c31k6:ACode:=kEx 14 0
def c31r7:LO:=[oMv 17 0,oMv 18 5,oP 19 (.iaddr none) [.t 17,.t 18],oLo 20 19,oMv 21 1,oMv 22 5,oP 23 (.iaddr none) [.t 21,.t 22],oLo 24 23,oBi 25 .neq 20 24]
def c31r8:LO:=[oP 4 .mv [cBo false]]
def c31k9:ACode:=kRt 25 c31r8 [4]
def c31k10:ACode:=.block 1 (.seq (rT c31r7 [0,1,5,25]) c31k9)
def c31r11:LO:=[oMv 15 5,oBc 16 .add 15 1,oMv 5 16]
def c31b12:ACode:=.seq (.seq (rT c31r5 [0,1,5,14]) c31k6) (.seq c31k10 (rT c31r11 [0,1,5]))
def c31k13:ACode:=.block 0 (.loop [0,1,5] c31b12)
def c31r14:LO:=[oP 4 .mv [cBo true]]
def c31:ACode:=.seq (rT c31r0 [0,1]) (.seq (.seq (rT c31r1 [0,1,10]) c31k3) (.seq (.seq (rT c31r4 [0,1,5]) c31k13) (.seq (rT c31r14 [4]) .ret)))
def g31:AFn:=⟨2,[(4,none)],c31,false,[],[],none⟩
theorem tr31:trFn Try.prog false 31 Try.f31=some g31:=by kernel_rfl
def c32r0:LO:=[oUn 1 (.box (some 3)) 0,oP 2 .mv [cBo false]]
def c32r1:LO:=[oFa 3 2 1,oLo 4 3,oBc 5 .eql 4 0]
def c32r2:LO:=[oFa 6 0 1,oLo 7 6,oUn 8 .slen 7,oBc 9 .leq 8 100,oMv 10 9,oG 11 (.faddr 1) [.t 1] 10 true,oG 12 (.load none) [.t 11] 10 true,oG 13 (.bin .geq) [.t 12,cIn 0] 10 true,oP 14 .pick [.t 10,.t 13,cBo false],
 oMv 15 14,oG 16 (.faddr 1) [.t 1] 15 true,oG 17 (.load none) [.t 16] 15 true,oG 18 (.bin .leq) [.t 17,cIn 8] 15 true,oP 19 .pick [.t 15,.t 18,cBo false],oMv 2 19]
def c32k3:ACode:=kRt 5 c32r2 [2]
def c32r4:LO:=[oFa 20 0 1,oLo 21 20,oP 22 (.bin .eql) [.t 21,cSt []],oMv 23 22,oG 24 (.faddr 2) [.t 1] 23 true,oG 25 (.load none) [.t 24] 23 true,oG 26 (.bin .geq) [.t 25,cIn 1] 23 true,oP 27 .pick [.t 23,.t 26,cBo false],
 oMv 28 27,oG 29 (.faddr 2) [.t 1] 28 true,oG 30 (.load none) [.t 29] 28 true,oG 31 (.bin .leq) [.t 30,cIn 1099511627776] 28 true,oP 32 .pick [.t 28,.t 31,cBo false],oMv 33 32,oG 34 (.faddr 1) [.t 1] 33 true,oG 35 (.load none) [.t 34] 33 true,
 oG 36 (.bin .geq) [.t 35,cIn 0] 33 true,oP 37 .pick [.t 33,.t 36,cBo false],oMv 38 37,oG 39 (.faddr 1) [.t 1] 38 true,oG 40 (.load none) [.t 39] 38 true,oG 41 (.bin .leq) [.t 40,cIn 4096] 38 true,oP 42 .pick [.t 38,.t 41,cBo false],
 oMv 2 42]
def c32:ACode:=.seq (rT c32r0 [1]) (.seq (.seq (rT c32r1 [1,5]) c32k3) (.seq (rT c32r4 [2]) .ret))
def g32:AFn:=⟨1,[(2,none)],c32,false,[],[],none⟩
theorem tr32:trFn Try.prog false 32 Try.f32=some g32:=by kernel_rfl
def c33r0:LO:=[oP 4 .mv [cBo false]]
def c33r1:LO:=[oMv 7 1,oUn 8 .len 7,oP 9 .mv [cIn 0]]
def c33r2:LO:=[oBi 10 .lss 9 8]
def c33k3:ACode:=kEx 10 0
def c33r4:LO:=[oIa 11 7 9,oLf 12 11,oP 6 aZ [],oSf 6 12]
def c33r5:LO:=[oLf 13 6,oCl 14 49 [.t 13],oUn 15 .not 14]
def c33r6:LO:=[oP 4 .mv [cBo false]]
def c33k7:ACode:=kRt 15 c33r6 [4]
def c33r8:LO:=[oMv 16 0,oUn 17 .nilcheck 16,oLo 18 17,oLf 19 6,oP 20 (.calln 1) [.t 17,cFn 50,.t 19],oBi 21 .sub 18 20,oUn 22 .nilcheck 16,oSo 22 21]
def c33r9:LO:=[oMv 23 0,oUn 24 .nilcheck 23,oLo 25 24,oBc 26 .lss 25 0]
def c33r10:LO:=[oP 4 .mv [cBo false]]
def c33k11:ACode:=kRt 26 c33r10 [4]
def c33k12:ACode:=.block 1 (.seq (rT c33r4 [0,6,7,8,9]) (.seq (.seq (rT c33r5 [0,6,7,8,9,15]) c33k7) (.seq (.region false c33r8 [0,7,8,9]) (.seq (rT c33r9 [0,7,8,9,26]) c33k11))))
def c33r13:LO:=[oBc 27 .add 9 1,oMv 9 27]
def c33b14:ACode:=.seq (rT c33r2 [0,7,8,9,10]) (.seq c33k3 (.seq c33k12 (rT c33r13 [0,7,8,9])))
def c33k15:ACode:=.block 0 (.loop [0,7,8,9] c33b14)
def c33r16:LO:=[oP 4 .mv [cBo true]]
def c33:ACode:=.seq (rT c33r0 [0,1]) (.seq (.seq (rT c33r1 [0,7,8,9]) c33k15) (.seq (rT c33r16 [4]) .ret))
def g33:AFn:=⟨2,[(4,none)],c33,true,[],[],none⟩
theorem tr33:trFn Try.prog true 33 Try.f33=some g33:=by kernel_rfl
def c35r0:LO:=[oP 2 .mv [cBo false]]
def c35r1:LO:=[oMv 3 0,oBc 4 .geq 3 0,oMv 5 4,oG 6 .mv [.t 0] 5 true,oG 7 (.bin .leq) [.t 6,cIn 1099511627776] 5 true,oP 8 .pick [.t 5,.t 7,cBo false],oMv 2 8]
def c35:ACode:=.seq (rT c35r0 [0]) (.seq (rT c35r1 [2]) .ret)
def g35:AFn:=⟨1,[(2,none)],c35,false,[],[],none⟩
theorem tr35:trFn Try.prog false 35 Try.f35=some g35:=by kernel_rfl
def c38r0:LO:=[oBx 2 0,oUn 3 (.box none) 1,oP 4 aZ [],oP 5 .mv [cIn 0]]
def c38r1:LO:=[oLf 8 2,oCl 9 49 [.t 8],oUn 10 .not 9,oMv 11 10,oG 12 (.load none) [.t 3] 11 false,oG 13 .call [cFn 35,.t 12] 11 false,oG 14 .not [.t 13] 11 false,oP 15 .pick [.t 11,cBo true,.t 14]]
def c38r2:LO:=[oP 16 (bZ []) [],oSf 4 16,oP 5 .mv [cIn 1]]
def c38k3:ACode:=kRt 15 c38r2 [4,5]
def c38r4:LO:=[oLf 17 2,oCl 18 53 [.t 17],oUn 19 .len 18,oP 20 .mv [cIn 0]]
def c38r5:LO:=[oBi 21 .lss 20 19]
def c38k6:ACode:=kEx 21 0
def c38r7:LO:=[oP 22 (.iaddr none) [.t 18,.t 20],oLo 23 22,oMv 7 23]
def c38r8:LO:=[oMv 24 7,oLo 25 3,oP 26 (.bin .sub) [cIn 1099511627776,.t 25],oBi 27 .gtr 24 26]
def c38r9:LO:=[oP 28 (bZ []) [],oSf 4 28,oP 5 .mv [cIn 2]]
def c38k10:ACode:=kRt 27 c38r9 [4,5]
def c38k11:ACode:=.block 1 (.seq (rT c38r7 [2,3,4,7,18,19,20]) (.seq (rT c38r8 [2,3,4,18,19,20,27]) c38k10))
def c38r12:LO:=[oBc 29 .add 20 1,oMv 20 29]
def c38b13:ACode:=.seq (rT c38r5 [2,3,4,18,19,20,21]) (.seq c38k6 (.seq c38k11 (rT c38r12 [2,3,4,18,19,20])))
def c38k14:ACode:=.block 0 (.loop [2,3,4,18,19,20] c38b13)
def c38r15:LO:=[oLf 30 2,oUn 31 (.mkfunc (.func 54) 0) 3,oCl 32 51 [.t 30,.t 31],oSf 4 32,oP 5 .mv [cIn 0]]
def c38:ACode:=.seq (rT c38r0 [2,3,4]) (.seq (.seq (rT c38r1 [2,3,4,15]) c38k3) (.seq (.seq (rT c38r4 [2,3,4,18,19,20]) c38k14) (.seq (rT c38r15 [4,5]) .ret)))
def g38:AFn:=⟨2,[(4,some (some 4)),(5,none)],c38,false,[],[],none⟩
theorem tr38:trFn Try.prog false 38 Try.f38=some g38:=by kernel_rfl
def c39r0:LO:=[oUn 2 (.box none) 0]
def c39r1:LO:=[oP 3 (.alloc none (.pv none (.int .i64 0))) [],⟨none,(.store none),[.t 3,cIn 0],none⟩]
def c39r2:LO:=[oP 7 (.mkfunc (.func 40) 0) [.t 2,.t 3],oMv 4 7]
def c39r3:LO:=[oMv 8 4,oFa 9 3 1,oLo 10 9,oP 11 .call [.t 8,.t 10],oUn 12 .not 11]
def c39k4:ACode:=.cond (.t 12) .ret .skip
def c39r5:LO:=[oFa 13 4 1,oLo 14 13,oUn 15 .len 14,oP 16 .mv [cIn 0]]
def c39r6:LO:=[oBi 17 .lss 16 15]
def c39k7:ACode:=kEx 17 0
def c39r8:LO:=[oP 18 (.iaddr (some 6)) [.t 14,.t 16],oUn 19 (.load (some 6)) 18,oP 6 (.alloc (some 6) (.agg [(none,(.pv none (.int .i64 0))),((some 3),(.pv (some 3) (.agg [(none,(.str [])),(none,(.int .i64 0)),(none,(.int .i64 0))]))),(none,(.tsl (some 4) [])),(none,(.pv none (.int .i64 0)))])) [],
 ⟨none,(.store (some 6)),[.t 6,.t 19],none⟩]
def c39r9:LO:=[oMv 20 4,oFa 21 4 6,oLo 22 21,oP 23 .call [.t 20,.t 22],oUn 24 .not 23,oMv 25 24,oG 26 (.load (some 6)) [.t 6] 25 false,oG 27 .call [cFn 43,.t 26] 25 false,oG 28 .mv [.t 27] 25 false,oG 29 (.load none) [.t 2] 28 true,
 oG 30 (.faddr 5) [.t 6] 28 true,oG 31 (.load none) [.t 30] 28 true,oG 32 (.load none) [.t 3] 28 true,oG 33 (.build [(none,(.pv none (.int .i64 0))),(none,(.pv none (.int .i64 0)))] [0,1]) [.t 31,.t 32] 28 true,oG 34 .call [.t 29,.t 33] 28 true,
 oG 35 .not [.t 34] 28 true,oG 36 .pick [.t 28,.t 35,cBo false] 25 false,oP 37 .pick [.t 25,cBo true,.t 36]]
def c39k10:ACode:=.cond (.t 37) .ret .skip
def c39r11:LO:=[oFa 38 0 6,oLo 39 38,oBc 40 .eql 39 1]
def c39r12:LO:=[oLo 41 3,oBc 42 .add 41 1,oSo 3 42]
def c39k13:ACode:=.cond (.t 40) (rT c39r12 [2,3,4,14,15,16]) .skip
def c39k14:ACode:=.block 1 (.seq (rT c39r8 [2,3,4,6,14,15,16]) (.seq (.seq (rT c39r9 [2,3,4,6,14,15,16,37]) c39k10) (.seq (rT c39r11 [2,3,4,14,15,16,40]) c39k13)))
def c39r15:LO:=[oBc 43 .add 16 1,oMv 16 43]
def c39b16:ACode:=.seq (rT c39r6 [2,3,4,14,15,16,17]) (.seq c39k7 (.seq c39k14 (rT c39r15 [2,3,4,14,15,16])))
def c39k17:ACode:=.block 0 (.loop [2,3,4,14,15,16] c39b16)
def c39:ACode:=.seq (rT c39r0 [1,2]) (.seq (rT c39r1 [1,2,3]) (.seq (rT c39r2 [1,2,3,4]) (.seq (.seq (rT c39r3 [1,2,3,4,12]) c39k4) (.seq (rT c39r5 [2,3,4,14,15,16]) c39k17))))
def g39:AFn:=⟨2,[],c39,true,[],[],none⟩
theorem tr39:trFn Try.prog true 39 Try.f39=some g39:=by kernel_rfl
def c40r0:LO:=[oP 4 .mv [cBo false]]
def c40r1:LO:=[oMv 7 0,oUn 8 .len 7,oP 9 .mv [cIn 0]]
def c40r2:LO:=[oBi 10 .lss 9 8]
def c40k3:ACode:=kEx 10 0
def c40r4:LO:=[oIa 11 7 9,oLf 12 11,oP 6 aZ [],oSf 6 12]
def c40r5:LO:=[oLf 13 6,oP 14 (.mkfunc (.func 42) 0) [.t 1,.t 2],oCl 15 41 [.t 13,.t 14],oUn 16 .not 15]
def c40r6:LO:=[oP 4 .mv [cBo false]]
def c40k7:ACode:=kRt 16 c40r6 [4]
def c40k8:ACode:=.block 1 (.seq (rT c40r4 [1,2,6,7,8,9]) (.seq (rT c40r5 [1,2,7,8,9,16]) c40k7))
def c40r9:LO:=[oBc 17 .add 9 1,oMv 9 17]
def c40b10:ACode:=.seq (rT c40r2 [1,2,7,8,9,10]) (.seq c40k3 (.seq c40k8 (rT c40r9 [1,2,7,8,9])))
def c40k11:ACode:=.block 0 (.loop [1,2,7,8,9] c40b10)
def c40r12:LO:=[oP 4 .mv [cBo true]]
def c40:ACode:=.seq (rT c40r0 [0,1,2]) (.seq (.seq (rT c40r1 [1,2,7,8,9]) c40k11) (.seq (rT c40r12 [4]) .ret))
def g40:AFn:=⟨3,[(4,none)],c40,true,[],[],none⟩
theorem tr40:trFn Try.prog true 40 Try.f40=some g40:=by kernel_rfl
def c41r0:LO:=[oBx 2 0,oP 4 .mv [cBo false]]
def c41r1:LO:=[oFa 7 0 2,oLo 8 7,oBc 9 .eql 8 0]
def c41r2:LO:=[oMv 10 1,oFa 11 1 2,oLo 12 11,oP 13 .call [.t 10,.t 12],oMv 4 13]
def c41k3:ACode:=kRt 9 c41r2 [4]
def c41r4:LO:=[oFa 14 3 2,oLo 15 14,oUn 16 .len 15,oP 17 .mv [cIn 0]]
def c41r5:LO:=[oBi 18 .lss 17 16]
def c41k6:ACode:=kEx 18 0
def c41r7:LO:=[oIa 19 15 17,oLf 20 19,oP 6 aZ [],oSf 6 20]
def c41r8:LO:=[oLf 21 6,oMv 22 1,oCl 23 41 [.t 21,.t 22],oUn 24 .not 23]
def c41r9:LO:=[oP 4 .mv [cBo false]]
def c41k10:ACode:=kRt 24 c41r9 [4]
def c41k11:ACode:=.block 1 (.seq (rT c41r7 [1,6,15,16,17]) (.seq (rT c41r8 [1,15,16,17,24]) c41k10))
def c41r12:LO:=[oBc 25 .add 17 1,oMv 17 25]
def c41b13:ACode:=.seq (rT c41r5 [1,15,16,17,18]) (.seq c41k6 (.seq c41k11 (rT c41r12 [1,15,16,17])))
def c41k14:ACode:=.block 0 (.loop [1,15,16,17] c41b13)
def c41r15:LO:=[oP 4 .mv [cBo true]]
def c41:ACode:=.seq (rT c41r0 [1,2]) (.seq (.seq (rT c41r1 [1,2,9]) c41k3) (.seq (.seq (rT c41r4 [1,15,16,17]) c41k14) (.seq (rT c41r15 [4]) .ret)))
def g41:AFn:=⟨2,[(4,none)],c41,true,[],[],none⟩
theorem tr41:trFn Try.prog true 41 Try.f41=some g41:=by kernel_rfl
def c42r0:LO:=[oP 4 .mv [cBo false]]
def c42r1:LO:=[oLo 5 1,oMv 6 0,oLo 7 2,oP 8 (.build [(none,(.pv none (.int .i64 0))),(none,(.pv none (.int .i64 0)))] [0,1]) [.t 6,.t 7],oP 9 .call [.t 5,.t 8],oMv 4 9]
def c42:ACode:=.seq (rT c42r0 [0,1,2]) (.seq (rT c42r1 [4]) .ret)
def g42:AFn:=⟨3,[(4,none)],c42,true,[],[],none⟩
theorem tr42:trFn Try.prog true 42 Try.f42=some g42:=by kernel_rfl
def c43r0:LO:=[oUn 1 (.box (some 6)) 0,oP 2 .mv [cBo false]]
def c43r1:LO:=[oFa 3 0 1,oLo 4 3,oBc 5 .eql 4 2,oMv 6 5,oG 7 (.faddr 0) [.t 1] 6 false,oG 8 (.load none) [.t 7] 6 false,oG 9 (.bin .eql) [.t 8,cIn 3] 6 false,oP 10 .pick [.t 6,cBo true,.t 9],oMv 11 10,oG 12 (.faddr 0) [.t 1] 11 false,
 oG 13 (.load none) [.t 12] 11 false,oG 14 (.bin .eql) [.t 13,cIn 4] 11 false,oP 15 .pick [.t 11,cBo true,.t 14],oMv 2 15]
def c43:ACode:=.seq (rT c43r0 [1]) (.seq (rT c43r1 [2]) .ret)
def g43:AFn:=⟨1,[(2,none)],c43,false,[],[],none⟩
theorem tr43:trFn Try.prog false 43 Try.f43=some g43:=by kernel_rfl
def c44r0:LO:=[oP 6 .mv [cIn 20]]
def c44r1:LO:=[oMv 10 6,oP 7 .mv [cIn 0],oMv 8 10]
def c44r2:LO:=[oMv 11 8,oMv 12 1,oBi 13 .leq 11 12]
def c44k3:ACode:=kEx 13 0
def c44r4:LO:=[oMv 14 0,oMv 15 7,oMv 16 8,oMv 17 2,oCl 18 55 [.t 14,.t 15,.t 16,.t 17]]
def c44r5:LO:=[oMv 19 8,oMv 7 19]
def c44r6:LO:=[oMv 20 8,oMv 21 6,oBi 22 .add 20 21,oMv 8 22]
def c44k7:ACode:=.block 1 (.seq (rT c44r4 [0,1,2,6,8]) (.seq (rT c44r5 [0,1,2,6,7,8]) (rT c44r6 [0,1,2,6,7,8])))
def c44b8:ACode:=.seq (.seq (rT c44r2 [0,1,2,6,7,8,13]) c44k3) c44k7
def c44k9:ACode:=.block 0 (.loop [0,1,2,6,7,8] c44b8)
def c44r10:LO:=[oMv 23 0,oMv 24 7,oMv 25 1,oMv 26 2,oCl 27 55 [.t 23,.t 24,.t 25,.t 26]]
def c44r11:LO:=[oMv 28 6,oMv 29 1,oBi 30 .lss 28 29]
def c44k12:ACode:=kEx 30 2
def c44r13:LO:=[oMv 31 6,oP 32 (.bin .mul) [cIn 2,.t 31],oP 7 .mv [cIn 0],oMv 8 32]
def c44r14:LO:=[oMv 33 8,oMv 34 1,oBi 35 .leq 33 34]
def c44k15:ACode:=kEx 35 4
def c44r16:LO:=[oMv 36 0,oMv 37 7,oMv 38 7,oMv 39 6,oBi 40 .add 38 39,oMv 41 8,oMv 42 2,oCl 43 56 [.t 36,.t 37,.t 40,.t 41,.t 42]]
def c44r17:LO:=[oMv 44 8,oMv 7 44]
def c44r18:LO:=[oMv 45 8,oMv 46 6,oP 47 (.bin .mul) [cIn 2,.t 46],oBi 48 .add 45 47,oMv 8 48]
def c44k19:ACode:=.block 5 (.seq (rT c44r16 [0,1,2,6,8]) (.seq (rT c44r17 [0,1,2,6,7,8]) (rT c44r18 [0,1,2,6,7,8])))
def c44b20:ACode:=.seq (.seq (rT c44r14 [0,1,2,6,7,8,35]) c44k15) c44k19
def c44k21:ACode:=.block 4 (.loop [0,1,2,6,7,8] c44b20)
def c44r22:LO:=[oMv 49 7,oMv 50 6,oBi 51 .add 49 50,oMv 9 51]
def c44r23:LO:=[oMv 52 9,oMv 53 1,oBi 54 .lss 52 53]
def c44r24:LO:=[oMv 55 0,oMv 56 7,oMv 57 9,oMv 58 1,oMv 59 2,oCl 60 56 [.t 55,.t 56,.t 57,.t 58,.t 59]]
def c44k25:ACode:=.cond (.t 54) (rT c44r24 [0,1,2,6]) .skip
def c44r26:LO:=[oMv 61 6,oBc 62 .mul 61 2,oMv 6 62]
def c44k27:ACode:=.block 3 (.seq (rT c44r13 [0,1,2,6,7,8]) (.seq c44k21 (.seq (.seq (rT c44r22 [0,1,2,6,7,9]) (.seq (rT c44r23 [0,1,2,6,7,9,54]) c44k25)) (rT c44r26 [0,1,2,6]))))
def c44b28:ACode:=.seq (.seq (rT c44r11 [0,1,2,6,30]) c44k12) c44k27
def c44k29:ACode:=.block 2 (.loop [0,1,2,6] c44b28)
def c44:ACode:=.seq (rT c44r0 [0,1,2,6]) (.seq (rT c44r1 [0,1,2,6,7,8]) (.seq c44k9 (.seq (rT c44r10 [0,1,2,6]) c44k29)))
def g44:AFn:=⟨3,[],c44,true,[],[],none⟩
theorem tr44:trFn Try.prog true 44 Try.f44=some g44:=by kernel_rfl
def c45r0:LO:=[oP 2 .mv [cBo false]]
def c45r1:LO:=[oMv 3 0,oMv 4 0,oBi 5 .neq 3 4,oMv 2 5]
def c45:ACode:=.seq (rT c45r0 [0]) (.seq (rT c45r1 [2]) .ret)
def g45:AFn:=⟨1,[(2,none)],c45,false,[],[],none⟩
theorem tr45:trFn Try.prog false 45 Try.f45=some g45:=by kernel_rfl
def c49r0:LO:=[oBx 1 0,oP 2 .mv [cBo false]]
def c49r1:LO:=[oLf 3 1,oCl 4 50 [.t 3],oBc 5 .leq 4 2000,oMv 6 5,oG 7 (.load (some 4)) [.t 1] 6 true,oG 8 .call [cFn 59,.t 7] 6 true,oP 9 .pick [.t 6,.t 8,cBo false],oMv 2 9]
def c49:ACode:=.seq (rT c49r0 [1]) (.seq (rT c49r1 [2]) .ret)
def g49:AFn:=⟨1,[(2,none)],c49,false,[],[],none⟩
theorem tr49:trFn Try.prog false 49 Try.f49=some g49:=by kernel_rfl
def c50r0:LO:=[oBx 1 0,oP 2 .mv [cIn 0]]
def c50r1:LO:=[oP 3 (.alloc none (.pv none (.int .i64 0))) [],⟨none,(.store none),[.t 3,cIn 2001],none⟩]
def c50r2:LO:=[oP 4 (.alloc none (.pv none .nilfunc)) []]
def c50r3:LO:=[oP 5 (.mkfunc (.func 60) 0) [.t 3,.t 4],oSo 4 5]
def c50r4:LO:=[oLo 6 4,oLf 7 1,oP 8 .call [.t 6,.t 7]]
def c50r5:LO:=[oLo 9 3,oP 10 (.bin .sub) [cIn 2001,.t 9],oMv 2 10]
def c50:ACode:=.seq (rT c50r0 [1]) (.seq (rT c50r1 [1,3]) (.seq (rT c50r2 [1,3,4]) (.seq (rT c50r3 [1,3,4]) (.seq (rT c50r4 [3]) (.seq (rT c50r5 [2]) .ret)))))
def g50:AFn:=⟨1,[(2,none)],c50,false,[],[],none⟩
theorem tr50:trFn Try.prog false 50 Try.f50=some g50:=by kernel_rfl
def c51r0:LO:=[oBx 2 0,oP 4 aZ []]
def c51r1:LO:=[oFa 8 0 2,oLo 9 8,oBc 10 .eql 9 0]
def c51r2:LO:=[oMv 11 1,oLf 12 2,oP 13 .call [.t 11,.t 12],oSf 4 13]
def c51k3:ACode:=kRt 10 c51r2 [4]
def c51r4:LO:=[oFa 14 0 2,oLo 15 14,oFa 16 1 2,oLo 17 16,oFa 18 2 2,oLo 19 18,oP 20 (bZ [0,1,2]) [.t 15,.t 17,.t 19],oP 5 aZ [],oSf 5 20]
def c51r5:LO:=[oFa 21 3 2,oLo 22 21,oUn 23 .len 22,oP 24 .mv [cIn 0]]
def c51r6:LO:=[oBi 25 .lss 24 23]
def c51k7:ACode:=kEx 25 0
def c51r8:LO:=[oIa 26 22 24,oLf 27 26,oP 7 aZ [],oSf 7 27]
def c51r9:LO:=[oFa 28 3 5,oLo 29 28,oLf 30 7,oMv 31 1,oP 32 (.calln 1) [.t 28,cFn 51,.t 30,.t 31],oP 33 (.bslicen (some 4) 1) [.t 28,.t 32],oP 34 (.append (some 4)) [.t 29,.t 33],oFa 35 3 5,oSo 35 34]
def c51k10:ACode:=.block 1 (.seq (rT c51r8 [1,4,5,7,22,23,24]) (.region false c51r9 [1,4,5,22,23,24]))
def c51r11:LO:=[oBc 36 .add 24 1,oMv 24 36]
def c51b12:ACode:=.seq (rT c51r6 [1,4,5,22,23,24,25]) (.seq c51k7 (.seq c51k10 (rT c51r11 [1,4,5,22,23,24])))
def c51k13:ACode:=.block 0 (.loop [1,4,5,22,23,24] c51b12)
def c51r14:LO:=[oLf 37 5,oSf 4 37]
def c51:ACode:=.seq (rT c51r0 [1,2,4]) (.seq (.seq (rT c51r1 [1,2,4,10]) c51k3) (.seq (rT c51r4 [1,2,4,5]) (.seq (.seq (rT c51r5 [1,4,5,22,23,24]) c51k13) (.seq (rT c51r14 [4]) .ret))))
def g51:AFn:=⟨2,[(4,some (some 4))],c51,true,[],[],none⟩
theorem tr51:trFn Try.prog true 51 Try.f51=some g51:=by kernel_rfl
def c53r0:LO:=[oBx 1 0,oP 2 (.nilsl none) []]
def c53r1:LO:=[oLf 5 1,oCl 6 49 [.t 5],oUn 7 .not 6]
def c53r2:LO:=[oP 2 (.nilsl none) []]
def c53k3:ACode:=kRt 7 c53r2 [2]
def c53r4:LO:=[oP 3 (.alloc none (.tsl none [])) []]
def c53r5:LO:=[oP 8 (.mkmap none) [],oP 4 (.alloc none (.pv none .nilmap)) [],oSo 4 8]
def c53r6:LO:=[oLf 9 1,oP 10 (.mkfunc (.func 61) 0) [.t 4,.t 3],oCl 11 51 [.t 9,.t 10]]
def c53r7:LO:=[oLo 12 3,oMv 2 12]
def c53:ACode:=.seq (rT c53r0 [1]) (.seq (.seq (rT c53r1 [1,7]) c53k3) (.seq (rT c53r4 [1,3]) (.seq (rT c53r5 [1,3,4]) (.seq (rT c53r6 [3]) (.seq (rT c53r7 [2]) .ret)))))
def g53:AFn:=⟨1,[(2,none)],c53,false,[],[],none⟩
theorem tr53:trFn Try.prog false 53 Try.f53=some g53:=by kernel_rfl
def c54r0:LO:=[oBx 2 0,oP 3 aZ []]
def c54r1:LO:=[oFa 4 1 2,oLo 5 4,oLo 6 1,oBi 7 .add 5 6,oP 8 (bZ [1]) [.t 7],oSf 3 8]
def c54:ACode:=.seq (rT c54r0 [1,2,3]) (.seq (rT c54r1 [3]) .ret)
def g54:AFn:=⟨2,[(3,some (some 4))],c54,true,[],[],none⟩
theorem tr54:trFn Try.prog true 54 Try.f54=some g54:=by kernel_rfl
def c55r0:LO:=[oMv 10 1,oBc 11 .add 10 1,oMv 8 11]
def c55r1:LO:=[oMv 12 8,oMv 13 2,oBi 14 .lss 12 13]
def c55k2:ACode:=kEx 14 0
def c55r3:LO:=[oMv 17 8,oMv 9 17]
def c55r4:LO:=[oMv 18 9,oMv 19 1,oBi 20 .gtr 18 19,oMv 21 20,oG 22 .mv [.t 3] 21 true,oG 23 .mv [.t 0] 21 true,oG 24 .mv [.t 9] 21 true,oG 25 (.iaddr none) [.t 23,.t 24] 21 true,oG 26 (.load none) [.t 25] 21 true,oG 27 .mv [.t 0] 21 true,
 oG 28 .mv [.t 9] 21 true,oG 29 (.bin .sub) [.t 28,cIn 1] 21 true,oG 30 (.iaddr none) [.t 27,.t 29] 21 true,oG 31 (.load none) [.t 30] 21 true,oG 32 .call [.t 22,.t 26,.t 31] 21 true,oG 33 (.bin .lss) [.t 32,cIn 0] 21 true,
 oP 34 .pick [.t 21,.t 33,cBo false]]
def c55k5:ACode:=kEx 34 2
def c55r6:LO:=[oMv 37 0,oMv 38 9,oMv 39 0,oMv 40 9,oBc 41 .sub 40 1,oMv 42 0,oMv 43 9,oBc 44 .sub 43 1,oP 45 (.iaddr none) [.t 42,.t 44],oLo 46 45,oMv 47 0,oMv 48 9,oP 49 (.iaddr none) [.t 47,.t 48],oLo 50 49,oP 51 (.iaddr none) [.t 37,.t 38],
 oSo 51 46,oP 52 (.iaddr none) [.t 39,.t 41],oSo 52 50]
def c55k7:ACode:=.block 3 (rT c55r6 [0,1,2,3,8,9])
def c55r8:LO:=[oMv 35 9,oBc 36 .sub 35 1,oMv 9 36]
def c55b9:ACode:=.seq (.seq (rT c55r4 [0,1,2,3,8,9,34]) c55k5) (.seq c55k7 (rT c55r8 [0,1,2,3,8,9]))
def c55k10:ACode:=.block 2 (.loop [0,1,2,3,8,9] c55b9)
def c55k11:ACode:=.block 1 (.seq (rT c55r3 [0,1,2,3,8,9]) c55k10)
def c55r12:LO:=[oMv 15 8,oBc 16 .add 15 1,oMv 8 16]
def c55b13:ACode:=.seq (.seq (rT c55r1 [0,1,2,3,8,14]) c55k2) (.seq c55k11 (rT c55r12 [0,1,2,3,8]))
def c55k14:ACode:=.block 0 (.loop [0,1,2,3,8] c55b13)
def c55:ACode:=.seq (rT c55r0 [0,1,2,3,8]) c55k14
def g55:AFn:=⟨4,[],c55,true,[],[],none⟩
theorem tr55:trFn Try.prog true 55 Try.f55=some g55:=by kernel_rfl
def c56r0:LO:=[oMv 25 2,oMv 26 1,oBi 27 .sub 25 26,oBc 28 .eql 27 1]
def c56r1:LO:=[oMv 29 2,oMv 10 29]
def c56r2:LO:=[oMv 30 3,oMv 11 30]
def c56r3:LO:=[oMv 31 10,oMv 32 11,oBi 33 .lss 31 32]
def c56k4:ACode:=kEx 33 0
def c56r5:LO:=[oMv 34 10,oMv 35 11,oBi 36 .add 34 35,oUn 37 (.conv .u64) 36,oP 38 (.bin .shr) [.t 37,.c (.pv none (.int .u64 1))],oUn 39 (.conv .i64) 38,oMv 12 39]
def c56r6:LO:=[oMv 40 4,oMv 41 0,oMv 42 12,oP 43 (.iaddr none) [.t 41,.t 42],oLo 44 43,oMv 45 0,oMv 46 1,oP 47 (.iaddr none) [.t 45,.t 46],oLo 48 47,oP 49 .call [.t 40,.t 44,.t 48],oBc 50 .lss 49 0]
def c56r7:LO:=[oMv 51 12,oBc 52 .add 51 1,oMv 10 52]
def c56r8:LO:=[oMv 53 12,oMv 11 53]
def c56k9:ACode:=.cond (.t 50) (rT c56r7 [0,1,4,10,11]) (rT c56r8 [0,1,4,10,11])
def c56k10:ACode:=.block 1 (.seq (rT c56r5 [0,1,4,10,11,12]) (.seq (rT c56r6 [0,1,4,10,11,12,50]) c56k9))
def c56b11:ACode:=.seq (.seq (rT c56r3 [0,1,4,10,11,33]) c56k4) c56k10
def c56k12:ACode:=.block 0 (.loop [0,1,4,10,11] c56b11)
def c56r13:LO:=[oMv 54 1,oMv 13 54]
def c56r14:LO:=[oMv 55 13,oMv 56 10,oBc 57 .sub 56 1,oBi 58 .lss 55 57]
def c56k15:ACode:=kEx 58 2
def c56r16:LO:=[oMv 61 0,oMv 62 13,oMv 63 0,oMv 64 13,oBc 65 .add 64 1,oMv 66 0,oMv 67 13,oBc 68 .add 67 1,oP 69 (.iaddr none) [.t 66,.t 68],oLo 70 69,oMv 71 0,oMv 72 13,oP 73 (.iaddr none) [.t 71,.t 72],oLo 74 73,oP 75 (.iaddr none) [.t 61,.t 62],
 oSo 75 70,oP 76 (.iaddr none) [.t 63,.t 65],oSo 76 74]
def c56k17:ACode:=.block 3 (rT c56r16 [0,10,13])
def c56r18:LO:=[oMv 59 13,oBc 60 .add 59 1,oMv 13 60]
def c56b19:ACode:=.seq (.seq (rT c56r14 [0,10,13,58]) c56k15) (.seq c56k17 (rT c56r18 [0,10,13]))
def c56k20:ACode:=.block 2 (.loop [0,10,13] c56b19)
def c56k21:ACode:=.cond (.t 28) (.seq (rT c56r1 [0,1,3,4,10]) (.seq (rT c56r2 [0,1,4,10,11]) (.seq c56k12 (.seq (.seq (rT c56r13 [0,10,13]) c56k20) .ret)))) .skip
def c56r22:LO:=[oMv 77 3,oMv 78 2,oBi 79 .sub 77 78,oBc 80 .eql 79 1]
def c56r23:LO:=[oMv 81 1,oMv 14 81]
def c56r24:LO:=[oMv 82 2,oMv 15 82]
def c56r25:LO:=[oMv 83 14,oMv 84 15,oBi 85 .lss 83 84]
def c56k26:ACode:=kEx 85 4
def c56r27:LO:=[oMv 86 14,oMv 87 15,oBi 88 .add 86 87,oUn 89 (.conv .u64) 88,oP 90 (.bin .shr) [.t 89,.c (.pv none (.int .u64 1))],oUn 91 (.conv .i64) 90,oMv 16 91]
def c56r28:LO:=[oMv 92 4,oMv 93 0,oMv 94 2,oP 95 (.iaddr none) [.t 93,.t 94],oLo 96 95,oMv 97 0,oMv 98 16,oP 99 (.iaddr none) [.t 97,.t 98],oLo 100 99,oP 101 .call [.t 92,.t 96,.t 100],oBc 102 .lss 101 0,oUn 103 .not 102]
def c56r29:LO:=[oMv 104 16,oBc 105 .add 104 1,oMv 14 105]
def c56r30:LO:=[oMv 106 16,oMv 15 106]
def c56k31:ACode:=.cond (.t 103) (rT c56r29 [0,2,4,14,15]) (rT c56r30 [0,2,4,14,15])
def c56k32:ACode:=.block 5 (.seq (rT c56r27 [0,2,4,14,15,16]) (.seq (rT c56r28 [0,2,4,14,15,16,103]) c56k31))
def c56b33:ACode:=.seq (.seq (rT c56r25 [0,2,4,14,15,85]) c56k26) c56k32
def c56k34:ACode:=.block 4 (.loop [0,2,4,14,15] c56b33)
def c56r35:LO:=[oMv 107 2,oMv 17 107]
def c56r36:LO:=[oMv 108 17,oMv 109 14,oBi 110 .gtr 108 109]
def c56k37:ACode:=kEx 110 6
def c56r38:LO:=[oMv 113 0,oMv 114 17,oMv 115 0,oMv 116 17,oBc 117 .sub 116 1,oMv 118 0,oMv 119 17,oBc 120 .sub 119 1,oP 121 (.iaddr none) [.t 118,.t 120],oLo 122 121,oMv 123 0,oMv 124 17,oP 125 (.iaddr none) [.t 123,.t 124],
 oLo 126 125,oP 127 (.iaddr none) [.t 113,.t 114],oSo 127 122,oP 128 (.iaddr none) [.t 115,.t 117],oSo 128 126]
def c56k39:ACode:=.block 7 (rT c56r38 [0,14,17])
def c56r40:LO:=[oMv 111 17,oBc 112 .sub 111 1,oMv 17 112]
def c56b41:ACode:=.seq (.seq (rT c56r36 [0,14,17,110]) c56k37) (.seq c56k39 (rT c56r40 [0,14,17]))
def c56k42:ACode:=.block 6 (.loop [0,14,17] c56b41)
def c56k43:ACode:=.cond (.t 80) (.seq (rT c56r23 [0,2,4,14]) (.seq (rT c56r24 [0,2,4,14,15]) (.seq c56k34 (.seq (.seq (rT c56r35 [0,14,17]) c56k42) .ret)))) .skip
def c56r44:LO:=[oMv 129 1,oMv 130 3,oBi 131 .add 129 130,oUn 132 (.conv .u64) 131,oP 133 (.bin .shr) [.t 132,.c (.pv none (.int .u64 1))],oUn 134 (.conv .i64) 133,oMv 18 134]
def c56r45:LO:=[oMv 135 18,oMv 136 2,oBi 137 .add 135 136,oMv 19 137]
def c56r46:LO:=[oP 20 .mv [cIn 0],oP 21 .mv [cIn 0]]
def c56r47:LO:=[oMv 138 2,oMv 139 18,oBi 140 .gtr 138 139]
def c56r48:LO:=[oMv 141 19,oMv 142 3,oBi 143 .sub 141 142,oMv 20 143]
def c56r49:LO:=[oMv 144 18,oMv 21 144]
def c56r50:LO:=[oMv 145 1,oMv 20 145]
def c56r51:LO:=[oMv 146 2,oMv 21 146]
def c56k52:ACode:=.cond (.t 140) (.seq (rT c56r48 [0,1,2,3,4,18,19,20]) (rT c56r49 [0,1,2,3,4,18,19,20,21])) (.seq (rT c56r50 [0,1,2,3,4,18,19,20]) (rT c56r51 [0,1,2,3,4,18,19,20,21]))
def c56r53:LO:=[oMv 147 19,oBc 148 .sub 147 1,oMv 22 148]
def c56r54:LO:=[oMv 149 20,oMv 150 21,oBi 151 .lss 149 150]
def c56k55:ACode:=kEx 151 8
def c56r56:LO:=[oMv 152 20,oMv 153 21,oBi 154 .add 152 153,oUn 155 (.conv .u64) 154,oP 156 (.bin .shr) [.t 155,.c (.pv none (.int .u64 1))],oUn 157 (.conv .i64) 156,oMv 23 157]
def c56r57:LO:=[oMv 158 4,oMv 159 0,oMv 160 22,oMv 161 23,oBi 162 .sub 160 161,oP 163 (.iaddr none) [.t 159,.t 162],oLo 164 163,oMv 165 0,oMv 166 23,oP 167 (.iaddr none) [.t 165,.t 166],oLo 168 167,oP 169 .call [.t 158,.t 164,.t 168],
 oBc 170 .lss 169 0,oUn 171 .not 170]
def c56r58:LO:=[oMv 172 23,oBc 173 .add 172 1,oMv 20 173]
def c56r59:LO:=[oMv 174 23,oMv 21 174]
def c56k60:ACode:=.cond (.t 171) (rT c56r58 [0,1,2,3,4,18,19,20,21,22]) (rT c56r59 [0,1,2,3,4,18,19,20,21,22])
def c56k61:ACode:=.block 9 (.seq (rT c56r56 [0,1,2,3,4,18,19,20,21,22,23]) (.seq (rT c56r57 [0,1,2,3,4,18,19,20,21,22,23,171]) c56k60))
def c56b62:ACode:=.seq (.seq (rT c56r54 [0,1,2,3,4,18,19,20,21,22,151]) c56k55) c56k61
def c56k63:ACode:=.block 8 (.loop [0,1,2,3,4,18,19,20,21,22] c56b62)
def c56r64:LO:=[oMv 175 19,oMv 176 20,oBi 177 .sub 175 176,oMv 24 177]
def c56r65:LO:=[oMv 178 20,oMv 179 2,oBi 180 .lss 178 179,oMv 181 180,oG 182 .mv [.t 2] 181 true,oG 183 .mv [.t 24] 181 true,oG 184 (.bin .lss) [.t 182,.t 183] 181 true,oP 185 .pick [.t 181,.t 184,cBo false]]
def c56r66:LO:=[oMv 186 0,oMv 187 20,oMv 188 2,oMv 189 24,oMv 190 4,oCl 191 62 [.t 186,.t 187,.t 188,.t 189,.t 190]]
def c56k67:ACode:=.cond (.t 185) (rT c56r66 [0,1,3,4,18,20,24]) .skip
def c56r68:LO:=[oMv 192 1,oMv 193 20,oBi 194 .lss 192 193,oMv 195 194,oG 196 .mv [.t 20] 195 true,oG 197 .mv [.t 18] 195 true,oG 198 (.bin .lss) [.t 196,.t 197] 195 true,oP 199 .pick [.t 195,.t 198,cBo false]]
def c56r69:LO:=[oMv 200 0,oMv 201 1,oMv 202 20,oMv 203 18,oMv 204 4,oCl 205 56 [.t 200,.t 201,.t 202,.t 203,.t 204]]
def c56k70:ACode:=.cond (.t 199) (rT c56r69 [0,3,4,18,24]) .skip
def c56r71:LO:=[oMv 206 18,oMv 207 24,oBi 208 .lss 206 207,oMv 209 208,oG 210 .mv [.t 24] 209 true,oG 211 .mv [.t 3] 209 true,oG 212 (.bin .lss) [.t 210,.t 211] 209 true,oP 213 .pick [.t 209,.t 212,cBo false]]
def c56r72:LO:=[oMv 214 0,oMv 215 18,oMv 216 24,oMv 217 3,oMv 218 4,oCl 219 56 [.t 214,.t 215,.t 216,.t 217,.t 218]]
def c56k73:ACode:=.cond (.t 213) (rT c56r72 []) .skip
def c56:ACode:=.seq (.seq (rT c56r0 [0,1,2,3,4,28]) c56k21) (.seq (.seq (rT c56r22 [0,1,2,3,4,80]) c56k43) (.seq (rT c56r44 [0,1,2,3,4,18]) (.seq (rT c56r45 [0,1,2,3,4,18,19]) (.seq (rT c56r46 [0,1,2,3,4,18,19]) (.seq (.seq (rT c56r47 [0,1,2,3,4,18,19,140]) c56k52) (.seq (rT c56r53 [0,1,2,3,4,18,19,20,21,22]) (.seq c56k63 (.seq (rT c56r64 [0,1,2,3,4,18,20,24]) (.seq (.seq (rT c56r65 [0,1,2,3,4,18,20,24,185]) c56k67) (.seq (.seq (rT c56r68 [0,1,3,4,18,20,24,199]) c56k70) (.seq (rT c56r71 [0,3,4,18,24,213]) c56k73)))))))))))
def g56:AFn:=⟨5,[],c56,true,[],[],none⟩
theorem tr56:trFn Try.prog true 56 Try.f56=some g56:=by kernel_rfl
def c59r0:LO:=[oBx 1 0,oP 2 .mv [cBo false]]
def c59r1:LO:=[oP 3 .mv [cBo false]]
def c59r2:LO:=[oFa 5 0 1,oLo 6 5]
def c59r3:LO:=[oBc 8 .eql 6 0,oMv 7 8]
def c59r4:LO:=[oFa 9 1 1,oLo 10 9,oBc 11 .geq 10 0,oMv 12 11,oG 13 (.faddr 1) [.t 1] 12 true,oG 14 (.load none) [.t 13] 12 true,oG 15 (.bin .leq) [.t 14,cIn 1099511627776] 12 true,oP 16 .pick [.t 12,.t 15,cBo false],
 oMv 17 16,oG 18 (.faddr 2) [.t 1] 17 true,oG 19 (.load none) [.t 18] 17 true,oG 20 (.bin .eql) [.t 19,cSt []] 17 true,oP 21 .pick [.t 17,.t 20,cBo false],oMv 22 21,oG 23 (.faddr 3) [.t 1] 22 true,oG 24 (.load none) [.t 23] 22 true,
 oG 25 .len [.t 24] 22 true,oG 26 (.bin .eql) [.t 25,cIn 0] 22 true,oP 27 .pick [.t 22,.t 26,cBo false],oMv 3 27]
def c59r5:LO:=[oBc 29 .eql 6 1,oMv 28 29]
def c59r6:LO:=[oFa 30 2 1,oLo 31 30,oP 32 (.bin .eql) [.t 31,cSt []],oMv 33 32,oG 34 (.faddr 3) [.t 1] 33 true,oG 35 (.load none) [.t 34] 33 true,oG 36 .len [.t 35] 33 true,oG 37 (.bin .eql) [.t 36,cIn 0] 33 true,oP 38 .pick [.t 33,.t 37,cBo false],
 oMv 3 38]
def c59r7:LO:=[oBc 40 .eql 6 2,oMv 39 40]
def c59r8:LO:=[oFa 41 1 1,oLo 42 41,oBc 43 .eql 42 0,oMv 44 43,oG 45 (.faddr 2) [.t 1] 44 true,oG 46 (.load none) [.t 45] 44 true,oG 47 .slen [.t 46] 44 true,oG 48 (.bin .leq) [.t 47,cIn 100] 44 true,oP 49 .pick [.t 44,.t 48,cBo false],
 oMv 50 49,oG 51 (.faddr 3) [.t 1] 50 true,oG 52 (.load none) [.t 51] 50 true,oG 53 .len [.t 52] 50 true,oG 54 (.bin .eql) [.t 53,cIn 0] 50 true,oP 55 .pick [.t 50,.t 54,cBo false],oMv 3 55]
def c59r9:LO:=[oBc 57 .eql 6 3,oMv 56 57]
def c59r10:LO:=[oFa 58 1 1,oLo 59 58,oBc 60 .eql 59 0,oMv 61 60,oG 62 (.faddr 2) [.t 1] 61 true,oG 63 (.load none) [.t 62] 61 true,oG 64 .slen [.t 63] 61 true,oG 65 (.bin .leq) [.t 64,cIn 100] 61 true,oP 66 .pick [.t 61,.t 65,cBo false],
 oMv 67 66,oG 68 (.faddr 3) [.t 1] 67 true,oG 69 (.load none) [.t 68] 67 true,oG 70 .len [.t 69] 67 true,oG 71 (.bin .gtr) [.t 70,cIn 0] 67 true,oP 72 .pick [.t 67,.t 71,cBo false],oMv 73 72,oG 74 (.faddr 3) [.t 1] 73 true,
 oG 75 (.load none) [.t 74] 73 true,oG 76 .len [.t 75] 73 true,oG 77 (.bin .leq) [.t 76,cIn 8] 73 true,oP 78 .pick [.t 73,.t 77,cBo false],oMv 3 78]
def c59k11:ACode:=.cond (.t 56) (rT c59r10 [1,3]) .skip
def c59k12:ACode:=.cond (.t 39) (rT c59r8 [1,3]) (.seq (rT c59r9 [1,3,56]) c59k11)
def c59k13:ACode:=.cond (.t 28) (rT c59r6 [1,3]) (.seq (rT c59r7 [1,3,6,39]) c59k12)
def c59k14:ACode:=.cond (.t 7) (rT c59r4 [1,3]) (.seq (rT c59r5 [1,3,6,28]) c59k13)
def c59k15:ACode:=.block 0 (.seq (rT c59r3 [1,3,6,7]) c59k14)
def c59r16:LO:=[oP 4 .mv [cIn 0]]
def c59r17:LO:=[oMv 79 4,oFa 80 3 1,oLo 81 80,oUn 82 .len 81,oBi 83 .lss 79 82,oMv 84 83,oG 85 .mv [.t 3] 84 true,oP 86 .pick [.t 84,.t 85,cBo false]]
def c59k18:ACode:=kEx 86 1
def c59r19:LO:=[oFa 89 3 1,oLo 90 89,oMv 91 4,oIa 92 90 91,oLf 93 92,oCl 94 59 [.t 93],oMv 3 94]
def c59k20:ACode:=.block 2 (rT c59r19 [1,3,4])
def c59r21:LO:=[oMv 87 4,oBc 88 .add 87 1,oMv 4 88]
def c59b22:ACode:=.seq (.seq (rT c59r17 [1,3,4,86]) c59k18) (.seq c59k20 (rT c59r21 [1,3,4]))
def c59k23:ACode:=.block 1 (.loop [1,3,4] c59b22)
def c59r24:LO:=[oMv 95 3,oMv 2 95]
def c59:ACode:=.seq (rT c59r0 [1]) (.seq (rT c59r1 [1,3]) (.seq (.seq (rT c59r2 [1,3,6]) c59k15) (.seq (.seq (rT c59r16 [1,3,4]) c59k23) (.seq (rT c59r24 [2]) .ret))))
def g59:AFn:=⟨1,[(2,none)],c59,false,[],[],none⟩
theorem tr59:trFn Try.prog false 59 Try.f59=some g59:=by kernel_rfl
def c60r0:LO:=[oBx 3 0]
def c60r1:LO:=[oLo 5 1,oBc 6 .sub 5 1,oSo 1 6]
def c60r2:LO:=[oP 4 .mv [cIn 0]]
def c60r3:LO:=[oMv 7 4,oFa 8 3 3,oLo 9 8,oUn 10 .len 9,oBi 11 .lss 7 10,oMv 12 11,oG 13 (.load none) [.t 1] 12 true,oG 14 (.bin .gtr) [.t 13,cIn 0] 12 true,oP 15 .pick [.t 12,.t 14,cBo false]]
def c60k4:ACode:=kEx 15 0
def c60r5:LO:=[oLo 18 2,oFa 19 3 3,oLo 20 19,oMv 21 4,oIa 22 20 21,oLf 23 22,oP 24 .call [.t 18,.t 23]]
def c60k6:ACode:=.block 1 (rT c60r5 [1,2,3,4])
def c60r7:LO:=[oMv 16 4,oBc 17 .add 16 1,oMv 4 17]
def c60b8:ACode:=.seq (.seq (rT c60r3 [1,2,3,4,15]) c60k4) (.seq c60k6 (rT c60r7 [1,2,3,4]))
def c60k9:ACode:=.block 0 (.loop [1,2,3,4] c60b8)
def c60:ACode:=.seq (rT c60r0 [1,2,3]) (.seq (rT c60r1 [1,2,3]) (.seq (rT c60r2 [1,2,3,4]) c60k9))
def g60:AFn:=⟨3,[],c60,true,[],[],none⟩
theorem tr60:trFn Try.prog true 60 Try.f60=some g60:=by kernel_rfl
def c61r0:LO:=[oBx 3 0,oP 4 aZ []]
def c61r1:LO:=[oLo 5 1,oFa 6 1 3,oLo 7 6,oP 8 (.lookup false none (.pv none (.int .i64 0)) false) [.t 5,.t 7],oBc 9 .eql 8 0]
def c61r2:LO:=[oLo 10 1,oFa 11 1 3,oLo 12 11,⟨none,(.mapset false none),[.t 10,.t 12,cIn 1],none⟩]
def c61r3:LO:=[oLo 13 2,oFa 14 1 3,oLo 15 14,oUn 16 (.bslice none) 15,oP 17 (.append none) [.t 13,.t 16],oSo 2 17]
def c61k4:ACode:=.cond (.t 9) (.seq (rT c61r2 [2,3,4]) (rT c61r3 [3,4])) .skip
def c61r5:LO:=[oLf 18 3,oSf 4 18]
def c61:ACode:=.seq (rT c61r0 [1,2,3,4]) (.seq (.seq (rT c61r1 [1,2,3,4,9]) c61k4) (.seq (rT c61r5 [4]) .ret))
def g61:AFn:=⟨3,[(4,some (some 4))],c61,true,[],[],none⟩
theorem tr61:trFn Try.prog true 61 Try.f61=some g61:=by kernel_rfl
def c62r0:LO:=[oMv 12 2,oMv 13 1,oBi 14 .sub 12 13,oMv 10 14]
def c62r1:LO:=[oMv 15 3,oMv 16 2,oBi 17 .sub 15 16,oMv 11 17]
def c62r2:LO:=[oMv 18 10,oMv 19 11,oBi 20 .neq 18 19]
def c62k3:ACode:=kEx 20 0
def c62r4:LO:=[oMv 21 10,oMv 22 11,oBi 23 .gtr 21 22]
def c62r5:LO:=[oMv 24 0,oMv 25 2,oMv 26 10,oBi 27 .sub 25 26,oMv 28 2,oMv 29 11,oMv 30 4,oCl 31 65 [.t 24,.t 27,.t 28,.t 29,.t 30]]
def c62r6:LO:=[oMv 32 10,oMv 33 11,oBi 34 .sub 32 33,oMv 10 34]
def c62r7:LO:=[oMv 35 0,oMv 36 2,oMv 37 10,oBi 38 .sub 36 37,oMv 39 2,oMv 40 11,oBi 41 .add 39 40,oMv 42 10,oBi 43 .sub 41 42,oMv 44 10,oMv 45 4,oCl 46 65 [.t 35,.t 38,.t 43,.t 44,.t 45]]
def c62r8:LO:=[oMv 47 11,oMv 48 10,oBi 49 .sub 47 48,oMv 11 49]
def c62k9:ACode:=.cond (.t 23) (.seq (rT c62r5 [0,2,4,10,11]) (rT c62r6 [0,2,4,10,11])) (.seq (rT c62r7 [0,2,4,10,11]) (rT c62r8 [0,2,4,10,11]))
def c62k10:ACode:=.block 1 (.seq (rT c62r4 [0,2,4,10,11,23]) c62k9)
def c62b11:ACode:=.seq (.seq (rT c62r2 [0,2,4,10,11,20]) c62k3) c62k10
def c62k12:ACode:=.block 0 (.loop [0,2,4,10,11] c62b11)
def c62r13:LO:=[oMv 50 0,oMv 51 2,oMv 52 10,oBi 53 .sub 51 52,oMv 54 2,oMv 55 10,oMv 56 4,oCl 57 65 [.t 50,.t 53,.t 54,.t 55,.t 56]]
def c62:ACode:=.seq (rT c62r0 [0,2,3,4,10]) (.seq (rT c62r1 [0,2,4,10,11]) (.seq c62k12 (rT c62r13 [])))
def g62:AFn:=⟨5,[],c62,true,[],[],none⟩
theorem tr62:trFn Try.prog true 62 Try.f62=some g62:=by kernel_rfl
def c65r0:LO:=[oP 10 .mv [cIn 0]]
def c65r1:LO:=[oMv 11 10,oMv 12 3,oBi 13 .lss 11 12]
def c65k2:ACode:=kEx 13 0
def c65r3:LO:=[oMv 16 0,oMv 17 1,oMv 18 10,oBi 19 .add 17 18,oMv 20 0,oMv 21 2,oMv 22 10,oBi 23 .add 21 22,oMv 24 0,oMv 25 2,oMv 26 10,oBi 27 .add 25 26,oP 28 (.iaddr none) [.t 24,.t 27],oLo 29 28,oMv 30 0,oMv 31 1,oMv 32 10,
 oBi 33 .add 31 32,oP 34 (.iaddr none) [.t 30,.t 33],oLo 35 34,oP 36 (.iaddr none) [.t 16,.t 19],oSo 36 29,oP 37 (.iaddr none) [.t 20,.t 23],oSo 37 35]
def c65k4:ACode:=.block 1 (rT c65r3 [0,1,2,3,10])
def c65r5:LO:=[oMv 14 10,oBc 15 .add 14 1,oMv 10 15]
def c65b6:ACode:=.seq (.seq (rT c65r1 [0,1,2,3,10,13]) c65k2) (.seq c65k4 (rT c65r5 [0,1,2,3,10]))
def c65k7:ACode:=.block 0 (.loop [0,1,2,3,10] c65b6)
def c65:ACode:=.seq (rT c65r0 [0,1,2,3,10]) c65k7
def g65:AFn:=⟨5,[],c65,true,[],[],none⟩
theorem tr65:trFn Try.prog true 65 Try.f65=some g65:=by kernel_rfl
def tab:List (Nat × AFn):=[(9,g9),(10,g10),(11,g11),(12,g12),(14,g14),(15,g15),(19,g19),(20,g20),(21,g21),(23,g23),(24,g24),(25,g25),(26,g26),(27,g27),(30,g30),(31,g31),(32,g32),(33,g33),(35,g35),(38,g38),(39,g39),(40,g40),(41,g41),(42,g42),(43,g43),(44,g44),(45,g45),(49,g49),(50,g50),(51,g51),(53,g53),(54,g54),(55,g55),(56,g56),(59,g59),(60,g60),(61,g61),(62,g62),(65,g65)]
theorem ztD:zoY Try.prog tab:=
 (zac Try.func9 tr9
 (zac Try.func10 tr10
 (zac Try.func11 tr11
 (zac Try.func12 tr12
 (zac Try.func14 tr14
 (zac Try.func15 tr15
 (zac Try.func19 tr19
 (zac Try.func20 tr20
 (zac Try.func21 tr21
 (zac Try.func23 tr23
 (zac Try.func24 tr24
 (zac Try.func25 tr25
 (zac Try.func26 tr26
 (zac Try.func27 tr27
 (zac Try.func30 tr30
 (zac Try.func31 tr31
 (zac Try.func32 tr32
 (zac Try.func33 tr33
 (zac Try.func35 tr35
 (zac Try.func38 tr38
 (zac Try.func39 tr39
 (zac Try.func40 tr40
 (zac Try.func41 tr41
 (zac Try.func42 tr42
 (zac Try.func43 tr43
 (zac Try.func44 tr44
 (zac Try.func45 tr45
 (zac Try.func49 tr49
 (zac Try.func50 tr50
 (zac Try.func51 tr51
 (zac Try.func53 tr53
 (zac Try.func54 tr54
 (zac Try.func55 tr55
 (zac Try.func56 tr56
 (zac Try.func59 tr59
 (zac Try.func60 tr60
 (zac Try.func61 tr61
 (zac Try.func62 tr62
 (zac Try.func65 tr65 zoZ)))))))))))))))))))))))))))))))))))))))
attribute [go_sem] c9r0 c9r1 c9r2 c9k3 c9r4 c9r5 c9r6 c9r7 c9k8 c9r9 c9r10 c9r11 c9r12 c9k13 c9r14 c9k15 c9r16 c9b17 c9r19 c9r20 c9k21 c9r22 c9r23 c9r24 c9k25 c9r26 c9k27 c9r28 c9b29 c9r31 c9 g9 c10r0 c10r1 c10 g10 c12r0 c12r1 c12r2 c12k3 c12r4 c12r5 c12r6 c12r7 c12r8 c12k9 c12r10 c12r11 c12r12 c12k13 c12k14 c12r15 c12b16 c12r18 c12r19 c12r20 c12r21 c12k22 c12r23 c12r24 c12r25 c12r26 c12r27 c12k28 c12r29 c12k30 c12b31 c12r33 c12k34 c12r35 c12k36 c12r37 c12b38 c12r40 c12p41 c12r42 c12r43 c12r44 c12r45 c12r46 c12k47 c12r48 c12r49 c12k50 c12q51 c12 g12 c14r0 c14r1 c14 g14 c15r0 c15r1 c15r2 c15r3 c15k4 c15r5 c15r6 c15r7 c15k8 c15r9 c15r10 c15r11 c15r12 c15r13 c15r14 c15r15 c15r16 c15r17 c15r18 c15r19 c15k20 c15r21 c15r22 c15r23 c15k24 c15k25 c15k26 c15k27 c15k28 c15r29 c15r30 c15k31 c15k32 c15r33 c15b34 c15r36 c15 g15 c23r0 c23r1 c23r2 c23r3 c23k4 c23r5 c23r6 c23r7 c23k8 c23r9 c23k10 c23r11 c23b12 c23k13 c23r14 c23 g23 c24r0 c24r1 c24 g24 c25r0 c25 g25 c26r0 c26r1 c26 g26 c27r0 c27r1 c27r2 c27r3 c27r4 c27r5 c27k6 c27r7 c27k8 c27r9 c27r10 c27k11 c27r12 c27r13 c27k14 c27r15 c27r16 c27k17 c27r18 c27 g27 c30r0 c30r1 c30r2 c30k3 c30r4 c30r5 c30k6 c30r7 c30r8 c30k9 c30k10 c30r11 c30b12 c30k13 c30r14 c30 g30 c31r0 c31r1 c31r2 c31k3 c31r4 c31r5 c31k6 c31r7 c31r8 c31k9 c31k10 c31r11 c31b12 c31k13 c31r14 c31 g31 c32r0 c32r1 c32r2 c32k3 c32r4 c32 g32 c33r0 c33r1 c33r2 c33k3 c33r4 c33r5 c33r6 c33k7 c33r8 c33r9 c33r10 c33k11 c33k12 c33r13 c33b14 c33k15 c33r16 c33 g33 c35r0 c35r1 c35 g35 c38r0 c38r1 c38r2 c38k3 c38r4 c38r5 c38k6 c38r7 c38r8 c38r9 c38k10 c38k11 c38r12 c38b13 c38k14 c38r15 c38 g38 c39r0 c39r1 c39r2 c39r3 c39k4 c39r5 c39r6 c39k7 c39r8 c39r9 c39k10 c39r11 c39r12 c39k13 c39k14 c39r15 c39b16 c39k17 c39 g39 c40r0 c40r1 c40r2 c40k3 c40r4 c40r5 c40r6 c40k7 c40k8 c40r9 c40b10 c40k11 c40r12 c40 g40 c41r0 c41r1 c41r2 c41k3 c41r4 c41r5 c41k6 c41r7 c41r8 c41r9 c41k10 c41k11 c41r12 c41b13 c41k14 c41r15 c41 g41 c42r0 c42r1 c42 g42 c43r0 c43r1 c43 g43 c44r0 c44r1 c44r2 c44k3 c44r4 c44r5 c44r6 c44k7 c44b8 c44k9 c44r10 c44r11 c44k12 c44r13 c44r14 c44k15 c44r16 c44r17 c44r18 c44k19 c44b20 c44k21 c44r22 c44r23 c44r24 c44k25 c44r26 c44k27 c44b28 c44k29 c44 g44 c45r0 c45r1 c45 g45 c49r0 c49r1 c49 g49 c50r0 c50r1 c50r2 c50r3 c50r4 c50r5 c50 g50 c51r0 c51r1 c51r2 c51k3 c51r4 c51r5 c51r6 c51k7 c51r8 c51r9 c51k10 c51r11 c51b12 c51k13 c51r14 c51 g51 c53r0 c53r1 c53r2 c53k3 c53r4 c53r5 c53r6 c53r7 c53 g53 c54r0 c54r1 c54 g54 c55r0 c55r1 c55k2 c55r3 c55r4 c55k5 c55r6 c55k7 c55r8 c55k10 c55k11 c55r12 c55b13 c55k14 c55 g55 c56r0 c56r1 c56r2 c56r3 c56k4 c56r5 c56r6 c56r7 c56r8 c56k9 c56k10 c56k12 c56r13 c56r14 c56k15 c56r16 c56k17 c56r18 c56k20 c56k21 c56r22 c56r23 c56r24 c56r25 c56k26 c56r27 c56r28 c56r29 c56r30 c56k31 c56k32 c56k34 c56r35 c56r36 c56k37 c56r38 c56k39 c56r40 c56k42 c56k43 c56r44 c56r45 c56r46 c56r47 c56r48 c56r49 c56r50 c56r51 c56k52 c56r53 c56r54 c56k55 c56r56 c56r57 c56r58 c56r59 c56k60 c56k61 c56k63 c56r66 c56r69 c56r72 c56 g56 c59r0 c59r1 c59r2 c59r3 c59r4 c59r5 c59r6 c59r7 c59r8 c59r9 c59r10 c59k11 c59k12 c59k13 c59k14 c59r16 c59r17 c59k18 c59r19 c59k20 c59r21 c59b22 c59k23 c59r24 c59 g59 c60r0 c60r1 c60r2 c60r3 c60k4 c60r5 c60k6 c60r7 c60b8 c60k9 c60 g60 c61r0 c61r1 c61r2 c61r3 c61k4 c61r5 c61 g61 c62r0 c62r1 c62r2 c62k3 c62r4 c62r5 c62r6 c62r7 c62r8 c62k9 c62k10 c62b11 c62k12 c62r13 c62 g62 c65r0 c65r1 c65k2 c65r3 c65k4 c65r5 c65b6 c65k7 c65 g65
end Go.Proofs.Ytmajapjbogmefaa
