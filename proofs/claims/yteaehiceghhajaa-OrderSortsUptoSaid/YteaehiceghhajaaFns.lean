/- The functions as the abstract machine has them,each proved to be what the translation gives. -/
import Derived.Test.YteaehiceghhajaaAm4
import Derived.Test.YteaehiceghhajaaProg
import Derived.KernelRfl
namespace Go.Proofs.Yteaehiceghhajaa
open Go.Am
def oP(d:Nat)(p:AOp)(l:List AArg):AOper:=⟨some d,p,l,none⟩
def aZ:AOp:=.alloc (some 4) (.agg [(none,(.pv none (.int .i64 0))),(none,(.pv none (.int .i64 0))),(none,(.pv none (.str []))),(none,(.tsl (some 4) []))])
def bZ(l:List Nat):AOp:=.build [(none,(.pv none (.int .i64 0))),(none,(.pv none (.int .i64 0))),(none,(.pv none (.str []))),(none,(.tsl (some 4) []))] l
def oMv(d s:Nat):AOper:=⟨some d,.mv,[.t s],none⟩
def oLf(d s:Nat):AOper:=⟨some d,.load (some 4),[.t s],none⟩
def oLo(d s:Nat):AOper:=⟨some d,.load none,[.t s],none⟩
def oFa(d k s:Nat):AOper:=⟨some d,.faddr k,[.t s],none⟩
def oSf(r s:Nat):AOper:=⟨none,.store (some 4),[.t r,.t s],none⟩
def oSo(r s:Nat):AOper:=⟨none,.store none,[.t r,.t s],none⟩
def oUn(d:Nat)(p:AOp)(s:Nat):AOper:=⟨some d,p,[.t s],none⟩
def oBi(d:Nat)(p:BinOp)(a b:Nat):AOper:=⟨some d,.bin p,[.t a,.t b],none⟩
def oIa(d a b:Nat):AOper:=⟨some d,.iaddr (some 4),[.t a,.t b],none⟩
def oBx(d s:Nat):AOper:=⟨some d,.box (some 4),[.t s],none⟩
def oEx(d k s:Nat):AOper:=⟨some d,.extract k,[.t s],none⟩
def kRt(c:Nat)(r:List AOper)(l:List Nat):ACode:=.cond (.t c) (.seq (.region true r l) .ret) .skip
def kEx(c k:Nat):ACode:=.cond (.t c) .skip (.exit k)
def rT(r:List AOper)(l:List Nat):ACode:=.region true r l
def oG(d:Nat)(p:AOp)(l:List AArg)(g:Nat)(b:Bool):AOper:=⟨some d,p,l,some (g,b)⟩
def oCl(d f:Nat)(l:List AArg):AOper:=⟨some d,.call,.c (.pv none (.func (.func f)))::l,none⟩
def oBc(d:Nat)(p:BinOp)(a:Nat)(n:Int):AOper:=⟨some d,.bin p,[.t a,.c (.pv none (.int .i64 n))],none⟩
def cSt(l:List UInt8):AArg:=.c (.pv none (.str l))
def cIn(n:Int):AArg:=.c (.pv none (.int .i64 n))
def cFn(n:Nat):AArg:=.c (.pv none (.func (.func n)))
def cBo(b:Bool):AArg:=.c (.pv none (.bool b))
abbrev LO:=List AOper
attribute [go_sem] oBc cSt oG oCl oUn oBi oIa oBx oEx kRt kEx rT oP aZ bZ oMv oLf oLo oFa oSf oSo cIn cFn cBo
def c4r0:LO:=[oP 2 .mv [cBo false]]
def c4r1:LO:=[oMv 17 0,oCl 18 15 [.t 17],oMv 0 18]
def c4r2:LO:=[oMv 20 0,oCl 21 16 [.t 20],oMv 19 21,oEx 22 0 19,oEx 23 1 19,oMv 3 22,oMv 4 23]
def c4r3:LO:=[oMv 25 0,oCl 26 17 [.t 25],oMv 24 26,oEx 27 0 24,oEx 28 1 24,oMv 5 27,oMv 6 28]
def c4r4:LO:=[oMv 30 0,oCl 31 18 [.t 30],oMv 29 31,oEx 32 0 29,oEx 33 1 29,oMv 7 32,oMv 8 33]
def c4r5:LO:=[oMv 35 0,oCl 36 19 [.t 35],oMv 34 36,oEx 37 0 34,oEx 38 1 34,oMv 9 37,oMv 10 38]
def c4r6:LO:=[oMv 40 0,oCl 41 20 [.t 40],oMv 39 41,oEx 42 0 39,oEx 43 1 39,oMv 11 42,oMv 12 43]
def c4r7:LO:=[oMv 45 0,oCl 46 21 [.t 45],oMv 44 46,oEx 47 0 44,oEx 48 1 44,oMv 13 47,oMv 14 48]
def c4r8:LO:=[oMv 49 4,oMv 50 10,oBi 51 .neq 49 50,oMv 52 51,oG 53 .mv [.t 6] 52 false,oG 54 .mv [.t 12] 52 false,oG 55 (.bin .neq) [.t 53,.t 54] 52 false,oP 56 .pick [.t 52,cBo true,.t 55],oMv 57 56,oG 58 .mv [.t 8] 57 false,
 oG 59 .mv [.t 14] 57 false,oG 60 (.bin .neq) [.t 58,.t 59] 57 false,oP 61 .pick [.t 57,cBo true,.t 60],oMv 62 61,oG 63 .mv [.t 3] 62 false,oG 64 .mv [.t 9] 62 false,oG 65 .call [cFn 22,.t 63,.t 64] 62 false,oG 66 .not [.t 65] 62 false,
 oP 67 .pick [.t 62,cBo true,.t 66],oMv 68 67,oG 69 .mv [.t 5] 68 false,oG 70 .mv [.t 11] 68 false,oG 71 .call [cFn 22,.t 69,.t 70] 68 false,oG 72 .not [.t 71] 68 false,oP 73 .pick [.t 68,cBo true,.t 72],oMv 74 73,oG 75 .mv [.t 7] 74 false,
 oG 76 .mv [.t 13] 74 false,oG 77 .call [cFn 22,.t 75,.t 76] 74 false,oG 78 .not [.t 77] 74 false,oP 79 .pick [.t 74,cBo true,.t 78]]
def c4r9:LO:=[oP 2 .mv [cBo false]]
def c4k10:ACode:=kRt 79 c4r9 [2]
def c4r11:LO:=[oMv 80 0,oCl 81 23 [.t 80],oUn 82 .not 81]
def c4r12:LO:=[oCl 83 14 [],oMv 2 83]
def c4k13:ACode:=kRt 82 c4r12 [2]
def c4r14:LO:=[oP 15 (.nilsl (some 4)) []]
def c4r15:LO:=[oP 16 .mv [cIn 0]]
def c4r16:LO:=[oMv 84 16,oMv 85 0,oUn 86 .len 85,oBi 87 .lss 84 86]
def c4k17:ACode:=kEx 87 0
def c4r18:LO:=[oMv 90 15,oMv 91 0,oMv 92 16,oIa 93 91 92,oLf 94 93,oCl 95 24 [.t 94],oUn 96 (.bslice (some 4)) 95,oP 97 (.append (some 4)) [.t 90,.t 96],oMv 15 97]
def c4k19:ACode:=.block 1 (rT c4r18 [0,3,5,7,15,16])
def c4r20:LO:=[oMv 88 16,oBc 89 .add 88 1,oMv 16 89]
def c4b21:ACode:=.seq (.seq (rT c4r16 [0,3,5,7,15,16,87]) c4k17) (.seq c4k19 (rT c4r20 [0,3,5,7,15,16]))
def c4k22:ACode:=.block 0 (.loop [0,3,5,7,15,16] c4b21)
def c4r23:LO:=[oMv 98 3,oCl 99 25 [.t 98]]
def c4r24:LO:=[oMv 100 5,oCl 101 25 [.t 100]]
def c4r25:LO:=[oMv 102 7,oCl 103 25 [.t 102]]
def c4r26:LO:=[oMv 104 0,oMv 105 15,oCl 106 22 [.t 104,.t 105],oMv 107 106,oG 108 .call [cFn 14] 107 true,oP 109 .pick [.t 107,.t 108,cBo false],oMv 2 109]
def c4:ACode:=.seq (rT c4r0 [0]) (.seq (rT c4r1 [0]) (.seq (rT c4r2 [0,3,4]) (.seq (rT c4r3 [0,3,4,5,6]) (.seq (rT c4r4 [0,3,4,5,6,7,8]) (.seq (rT c4r5 [0,3,4,5,6,7,8,9,10]) (.seq (rT c4r6 [0,3,4,5,6,7,8,9,10,11,12]) (.seq (rT c4r7 [0,3,4,5,6,7,8,9,10,11,12,13,14]) (.seq (.seq (rT c4r8 [0,3,5,7,79]) c4k10) (.seq (.seq (rT c4r11 [0,3,5,7,82]) c4k13) (.seq (rT c4r14 [0,3,5,7,15]) (.seq (.seq (rT c4r15 [0,3,5,7,15,16]) c4k22) (.seq (rT c4r23 [0,5,7,15]) (.seq (rT c4r24 [0,7,15]) (.seq (rT c4r25 [0,15]) (.seq (rT c4r26 [2]) .ret)))))))))))))))
def g4:AFn:=⟨1,[(2,none)],c4,true,[],[],none⟩
theorem tr4:trFn Try.prog true 4 Try.f4=some g4:=by kernel_rfl
def c12r0:LO:=[oBx 2 0,oBx 3 1,oP 4 .mv [cIn 0]]
def c12r1:LO:=[oLf 5 2,oCl 6 36 [.t 5],oUn 7 .not 6,oMv 8 7,oG 9 (.load (some 4)) [.t 3] 8 false,oG 10 .call [cFn 36,.t 9] 8 false,oG 11 .not [.t 10] 8 false,oP 12 .pick [.t 8,cBo true,.t 11]]
def c12r2:LO:=[oP 4 .mv [cIn 0]]
def c12k3:ACode:=kRt 12 c12r2 [4]
def c12r4:LO:=[oLf 13 2,oLf 14 3,oCl 15 37 [.t 13,.t 14],oMv 4 15]
def c12:ACode:=.seq (rT c12r0 [2,3]) (.seq (.seq (rT c12r1 [2,3,12]) c12k3) (.seq (rT c12r4 [4]) .ret))
def g12:AFn:=⟨2,[(4,none)],c12,false,[],[],none⟩
theorem tr12:trFn Try.prog false 12 Try.f12=some g12:=by kernel_rfl
def c14r0:LO:=[oP 0 .mv [cBo false]]
def c14r1:LO:=[oCl 10 35 [cSt [99]],oCl 11 34 [cIn 1],oCl 12 35 [cSt [98]],oCl 13 34 [cIn 1],oP 14 (.bslice (some 4)) [.t 10,.t 11,.t 12,.t 13],oCl 15 16 [.t 14],oMv 9 15,oEx 16 0 9,oEx 17 1 9,oMv 1 16,oMv 2 17]
def c14r2:LO:=[oCl 19 35 [cSt [99]],oCl 20 34 [cIn 1],oCl 21 35 [cSt [98]],oCl 22 34 [cIn 1],oP 23 (.bslice (some 4)) [.t 19,.t 20,.t 21,.t 22],oCl 24 17 [.t 23],oMv 18 24,oEx 25 0 18,oEx 26 1 18,oMv 3 25,oMv 4 26]
def c14r3:LO:=[oCl 28 35 [cSt [98]],oCl 29 34 [cIn 1],oP 30 (.bslice (some 4)) [.t 28,.t 29],oCl 31 33 [cSt [45],.t 30],oCl 32 35 [cSt [97]],oCl 33 34 [cIn 2],oP 34 (.bslice (some 4)) [.t 32,.t 33],oCl 35 33 [cSt [45],.t 34],
 oCl 36 35 [cSt [98]],oCl 37 34 [cIn 0],oP 38 (.bslice (some 4)) [.t 36,.t 37],oCl 39 33 [cSt [45],.t 38],oP 40 (.bslice (some 4)) [.t 31,.t 35,.t 39],oCl 41 18 [.t 40],oMv 27 41,oEx 42 0 27,oEx 43 1 27,oMv 5 42,oMv 6 43]
def c14r4:LO:=[oCl 45 35 [cSt [97]],oCl 46 35 [cSt [99]],oP 47 (.bslice (some 4)) [.t 45,.t 46],oCl 48 35 [cSt [98]],oCl 49 26 [.t 47,.t 48],oMv 44 49,oEx 50 0 44,oEx 51 1 44,oMv 7 50,oMv 8 51]
def c14r5:LO:=[oCl 52 30 [cIn 5],oCl 53 34 [cIn 3],oCl 54 12 [.t 52,.t 53],oP 55 (.bin .eql) [.t 54,.c (.pv none (.int .i64 (-1)))],oMv 56 55,oG 57 .call [cFn 34,cIn 3] 56 true,oG 58 .call [cFn 35,cSt [97]] 56 true,oG 59 .call [cFn 12,.t 57,.t 58] 56 true,
 oG 60 (.bin .eql) [.t 59,.c (.pv none (.int .i64 (-1)))] 56 true,oP 61 .pick [.t 56,.t 60,cBo false],oMv 62 61,oG 63 .call [cFn 35,cSt [122,122,122]] 62 true,oG 64 .call [cFn 35,cSt [97]] 62 true,oG 65 (.bslice (some 4)) [.t 64] 62 true,
 oG 66 .call [cFn 33,cSt [102],.t 65] 62 true,oG 67 .call [cFn 12,.t 63,.t 66] 62 true,oG 68 (.bin .eql) [.t 67,.c (.pv none (.int .i64 (-1)))] 62 true,oP 69 .pick [.t 62,.t 68,cBo false],oMv 70 69,oG 71 .call [cFn 35,cSt [98]] 70 true,
 oG 72 .call [cFn 35,cSt [97]] 70 true,oG 73 (.bslice (some 4)) [.t 71,.t 72] 70 true,oG 74 .call [cFn 33,cSt [102],.t 73] 70 true,oG 75 .call [cFn 35,cSt [97]] 70 true,oG 76 (.bslice (some 4)) [.t 75] 70 true,oG 77 .call [cFn 33,cSt [103],.t 76] 70 true,
 oG 78 .call [cFn 12,.t 74,.t 77] 70 true,oG 79 (.bin .eql) [.t 78,cIn 1] 70 true,oP 80 .pick [.t 70,.t 79,cBo false],oMv 81 80,oG 82 .call [cFn 35,cSt [97,98]] 81 true,oG 83 .call [cFn 35,cSt [97]] 81 true,oG 84 .call [cFn 12,.t 82,.t 83] 81 true,
 oG 85 (.bin .eql) [.t 84,cIn 1] 81 true,oP 86 .pick [.t 81,.t 85,cBo false],oMv 87 86,oG 88 .mv [.t 2] 87 true,oG 89 (.bin .eql) [.t 88,cIn 0] 87 true,oP 90 .pick [.t 87,.t 89,cBo false],oMv 91 90,oG 92 .mv [.t 1] 91 true,
 oG 93 .call [cFn 34,cIn 1] 91 true,oG 94 .call [cFn 35,cSt [98]] 91 true,oG 95 .call [cFn 35,cSt [99]] 91 true,oG 96 (.bslice (some 4)) [.t 93,.t 94,.t 95] 91 true,oG 97 .call [cFn 22,.t 92,.t 96] 91 true,oP 98 .pick [.t 91,.t 97,cBo false],
 oMv 99 98,oG 100 .mv [.t 4] 99 true,oG 101 (.bin .eql) [.t 100,cIn 0] 99 true,oP 102 .pick [.t 99,.t 101,cBo false],oMv 103 102,oG 104 .mv [.t 3] 103 true,oG 105 .call [cFn 34,cIn 1] 103 true,oG 106 .call [cFn 34,cIn 1] 103 true,
 oG 107 .call [cFn 35,cSt [98]] 103 true,oG 108 .call [cFn 35,cSt [99]] 103 true,oG 109 (.bslice (some 4)) [.t 105,.t 106,.t 107,.t 108] 103 true,oG 110 .call [cFn 22,.t 104,.t 109] 103 true,oP 111 .pick [.t 103,.t 110,cBo false],
 oMv 112 111,oG 113 .mv [.t 6] 112 true,oG 114 (.bin .eql) [.t 113,cIn 0] 112 true,oP 115 .pick [.t 112,.t 114,cBo false],oMv 116 115,oG 117 .mv [.t 5] 116 true,oG 118 .call [cFn 35,cSt [97]] 116 true,oG 119 .call [cFn 34,cIn 2] 116 true,
 oG 120 (.bslice (some 4)) [.t 118,.t 119] 116 true,oG 121 .call [cFn 33,cSt [45],.t 120] 116 true,oG 122 .call [cFn 35,cSt [98]] 116 true,oG 123 .call [cFn 34,cIn 1] 116 true,oG 124 (.bslice (some 4)) [.t 122,.t 123] 116 true,
 oG 125 .call [cFn 33,cSt [45],.t 124] 116 true,oG 126 .call [cFn 35,cSt [98]] 116 true,oG 127 .call [cFn 34,cIn 0] 116 true,oG 128 (.bslice (some 4)) [.t 126,.t 127] 116 true,oG 129 .call [cFn 33,cSt [45],.t 128] 116 true,
 oG 130 (.bslice (some 4)) [.t 121,.t 125,.t 129] 116 true,oG 131 .call [cFn 22,.t 117,.t 130] 116 true,oP 132 .pick [.t 116,.t 131,cBo false],oMv 133 132,oG 134 .mv [.t 7] 133 true,oG 135 (.bin .eql) [.t 134,cIn 1] 133 true,
 oP 136 .pick [.t 133,.t 135,cBo false],oMv 137 136,oG 138 .mv [.t 8] 137 true,oG 139 .not [.t 138] 137 true,oP 140 .pick [.t 137,.t 139,cBo false],oMv 0 140]
def c14:ACode:=.seq (rT c14r0 []) (.seq (rT c14r1 [1,2]) (.seq (rT c14r2 [1,2,3,4]) (.seq (rT c14r3 [1,2,3,4,5,6]) (.seq (rT c14r4 [1,2,3,4,5,6,7,8]) (.seq (rT c14r5 [0]) .ret)))))
def g14:AFn:=⟨0,[(0,none)],c14,false,[],[],none⟩
theorem tr14:trFn Try.prog false 14 Try.f14=some g14:=by kernel_rfl
def c15r0:LO:=[oP 2 (.nilsl (some 4)) []]
def c15r1:LO:=[oP 3 (.nilsl (some 4)) []]
def c15r2:LO:=[oP 4 .mv [cIn 0]]
def c15r3:LO:=[oMv 5 4,oMv 6 0,oUn 7 .len 6,oBi 8 .lss 5 7,oMv 9 8,oG 10 .mv [.t 4] 9 true,oG 11 (.bin .lss) [.t 10,cIn 40] 9 true,oP 12 .pick [.t 9,.t 11,cBo false]]
def c15k4:ACode:=kEx 12 0
def c15r5:LO:=[oMv 15 3,oMv 16 0,oMv 17 4,oIa 18 16 17,oLf 19 18,oUn 20 (.bslice (some 4)) 19,oP 21 (.append (some 4)) [.t 15,.t 20],oMv 3 21]
def c15k6:ACode:=.block 1 (rT c15r5 [0,3,4])
def c15r7:LO:=[oMv 13 4,oBc 14 .add 13 1,oMv 4 14]
def c15b8:ACode:=.seq (.seq (rT c15r3 [0,3,4,12]) c15k4) (.seq c15k6 (rT c15r7 [0,3,4]))
def c15k9:ACode:=.block 0 (.loop [0,3,4] c15b8)
def c15r10:LO:=[oMv 22 3,oMv 2 22]
def c15:ACode:=.seq (rT c15r0 [0]) (.seq (rT c15r1 [0,3]) (.seq (.seq (rT c15r2 [0,3,4]) c15k9) (.seq (rT c15r10 [2]) .ret)))
def g15:AFn:=⟨1,[(2,none)],c15,false,[],[],none⟩
theorem tr15:trFn Try.prog false 15 Try.f15=some g15:=by kernel_rfl
def c16r0:LO:=[oP 2 (.nilsl (some 4)) [],oP 3 .mv [cIn 0]]
def c16r1:LO:=[oMv 5 0,oCl 6 17 [.t 5],oMv 4 6,oEx 7 0 4,oEx 8 1 4,oMv 2 7,oMv 3 8]
def c16r2:LO:=[oMv 9 3,oBc 10 .neq 9 0]
def c16r3:LO:=[oMv 11 3,oP 2 (.nilsl (some 4)) [],oMv 3 11]
def c16k4:ACode:=kRt 10 c16r3 [2,3]
def c16r5:LO:=[oMv 12 2,oCl 13 39 [.t 12,cFn 40],oMv 2 13,oP 3 .mv [cIn 0]]
def c16:ACode:=.seq (rT c16r0 [0]) (.seq (rT c16r1 [2,3]) (.seq (.seq (rT c16r2 [2,3,10]) c16k4) (.seq (rT c16r5 [2,3]) .ret)))
def g16:AFn:=⟨1,[(2,none),(3,none)],c16,true,[],[],none⟩
theorem tr16:trFn Try.prog true 16 Try.f16=some g16:=by kernel_rfl
def c17r0:LO:=[oP 2 (.nilsl (some 4)) [],oP 3 .mv [cIn 0]]
def c17r1:LO:=[oMv 4 0,oCl 5 41 [.t 4],oUn 6 .not 5]
def c17r2:LO:=[oP 2 (.nilsl (some 4)) [],oP 3 .mv [cIn 1]]
def c17k3:ACode:=kRt 6 c17r2 [2,3]
def c17r4:LO:=[oMv 7 0,oCl 8 42 [.t 7,cFn 37],oMv 2 8,oP 3 .mv [cIn 0]]
def c17:ACode:=.seq (rT c17r0 [0]) (.seq (.seq (rT c17r1 [0,6]) c17k3) (.seq (rT c17r4 [2,3]) .ret))
def g17:AFn:=⟨1,[(2,none),(3,none)],c17,true,[],[],none⟩
theorem tr17:trFn Try.prog true 17 Try.f17=some g17:=by kernel_rfl
def c18r0:LO:=[oP 2 (.nilsl (some 4)) [],oP 3 .mv [cIn 0]]
def c18r1:LO:=[oMv 6 0,oCl 7 41 [.t 6],oUn 8 .not 7]
def c18r2:LO:=[oP 2 (.nilsl (some 4)) [],oP 3 .mv [cIn 1]]
def c18k3:ACode:=kRt 8 c18r2 [2,3]
def c18r4:LO:=[oMv 9 0,oUn 10 .len 9,oP 11 .mv [cIn 0]]
def c18r5:LO:=[oBi 12 .lss 11 10]
def c18k6:ACode:=kEx 12 0
def c18r7:LO:=[oIa 13 9 11,oLf 14 13,oP 5 aZ [],oSf 5 14]
def c18r8:LO:=[oFa 15 0 5,oLo 16 15,oBc 17 .neq 16 3,oMv 18 17,oG 19 (.faddr 2) [.t 5] 18 false,oG 20 (.load none) [.t 19] 18 false,oG 21 (.bin .neq) [.t 20,cSt [45]] 18 false,oP 22 .pick [.t 18,cBo true,.t 21],oMv 23 22,
 oG 24 (.faddr 3) [.t 5] 23 false,oG 25 (.load none) [.t 24] 23 false,oG 26 .len [.t 25] 23 false,oG 27 (.bin .neq) [.t 26,cIn 2] 23 false,oP 28 .pick [.t 23,cBo true,.t 27]]
def c18r9:LO:=[oP 2 (.nilsl (some 4)) [],oP 3 .mv [cIn 3]]
def c18k10:ACode:=kRt 28 c18r9 [2,3]
def c18k11:ACode:=.block 1 (.seq (rT c18r7 [0,5,9,10,11]) (.seq (rT c18r8 [0,9,10,11,28]) c18k10))
def c18r12:LO:=[oBc 29 .add 11 1,oMv 11 29]
def c18b13:ACode:=.seq (rT c18r5 [0,9,10,11,12]) (.seq c18k6 (.seq c18k11 (rT c18r12 [0,9,10,11])))
def c18k14:ACode:=.block 0 (.loop [0,9,10,11] c18b13)
def c18r15:LO:=[oMv 30 0,oCl 31 42 [.t 30,cFn 43],oMv 2 31,oP 3 .mv [cIn 0]]
def c18:ACode:=.seq (rT c18r0 [0]) (.seq (.seq (rT c18r1 [0,8]) c18k3) (.seq (.seq (rT c18r4 [0,9,10,11]) c18k14) (.seq (rT c18r15 [2,3]) .ret)))
def g18:AFn:=⟨1,[(2,none),(3,none)],c18,true,[],[],none⟩
theorem tr18:trFn Try.prog true 18 Try.f18=some g18:=by kernel_rfl
def c19r0:LO:=[oP 2 (.nilsl (some 4)) [],oP 3 .mv [cIn 0]]
def c19r1:LO:=[oMv 9 0,oCl 10 20 [.t 9],oMv 8 10,oEx 11 0 8,oEx 12 1 8,oMv 4 11,oMv 5 12]
def c19r2:LO:=[oP 6 (.nilsl (some 4)) []]
def c19r3:LO:=[oP 7 .mv [cIn 0]]
def c19r4:LO:=[oMv 13 7,oMv 14 4,oUn 15 .len 14,oBi 16 .lss 13 15]
def c19k5:ACode:=kEx 16 0
def c19r6:LO:=[oMv 19 7,oBc 20 .eql 19 0,oMv 21 20,oG 22 .mv [.t 4] 21 false,oG 23 .mv [.t 7] 21 false,oG 24 (.bin .sub) [.t 23,cIn 1] 21 false,oG 25 (.iaddr (some 4)) [.t 22,.t 24] 21 false,oG 26 (.load (some 4)) [.t 25] 21 false,
 oG 27 .mv [.t 4] 21 false,oG 28 .mv [.t 7] 21 false,oG 29 (.iaddr (some 4)) [.t 27,.t 28] 21 false,oG 30 (.load (some 4)) [.t 29] 21 false,oG 31 .call [cFn 38,.t 26,.t 30] 21 false,oG 32 (.bin .neq) [.t 31,cIn 0] 21 false,
 oP 33 .pick [.t 21,cBo true,.t 32]]
def c19r7:LO:=[oMv 34 6,oMv 35 4,oMv 36 7,oIa 37 35 36,oLf 38 37,oUn 39 (.bslice (some 4)) 38,oP 40 (.append (some 4)) [.t 34,.t 39],oMv 6 40]
def c19k8:ACode:=.cond (.t 33) (rT c19r7 [4,5,6,7]) .skip
def c19k9:ACode:=.block 1 (.seq (rT c19r6 [4,5,6,7,33]) c19k8)
def c19r10:LO:=[oMv 17 7,oBc 18 .add 17 1,oMv 7 18]
def c19b11:ACode:=.seq (.seq (rT c19r4 [4,5,6,7,16]) c19k5) (.seq c19k9 (rT c19r10 [4,5,6,7]))
def c19k12:ACode:=.block 0 (.loop [4,5,6,7] c19b11)
def c19r13:LO:=[oMv 41 6,oMv 42 5,oMv 2 41,oMv 3 42]
def c19:ACode:=.seq (rT c19r0 [0]) (.seq (rT c19r1 [4,5]) (.seq (rT c19r2 [4,5,6]) (.seq (.seq (rT c19r3 [4,5,6,7]) c19k12) (.seq (rT c19r13 [2,3]) .ret))))
def g19:AFn:=⟨1,[(2,none),(3,none)],c19,false,[],[],none⟩
theorem tr19:trFn Try.prog false 19 Try.f19=some g19:=by kernel_rfl
def c20r0:LO:=[oP 2 (.nilsl (some 4)) [],oP 3 .mv [cIn 0]]
def c20r1:LO:=[oMv 6 0,oCl 7 44 [.t 6],oUn 8 .not 7]
def c20r2:LO:=[oP 2 (.nilsl (some 4)) [],oP 3 .mv [cIn 1]]
def c20k3:ACode:=kRt 8 c20r2 [2,3]
def c20r4:LO:=[oP 4 (.nilsl (some 4)) []]
def c20r5:LO:=[oP 5 .mv [cIn 0]]
def c20r6:LO:=[oMv 9 5,oMv 10 0,oUn 11 .len 10,oBi 12 .lss 9 11]
def c20k7:ACode:=kEx 12 0
def c20r8:LO:=[oMv 15 4,oMv 16 0,oMv 17 5,oIa 18 16 17,oLf 19 18,oCl 20 45 [.t 15,.t 19,cBo false],oMv 4 20]
def c20k9:ACode:=.block 1 (rT c20r8 [0,4,5])
def c20r10:LO:=[oMv 13 5,oBc 14 .add 13 1,oMv 5 14]
def c20b11:ACode:=.seq (.seq (rT c20r6 [0,4,5,12]) c20k7) (.seq c20k9 (rT c20r10 [0,4,5]))
def c20k12:ACode:=.block 0 (.loop [0,4,5] c20b11)
def c20r13:LO:=[oMv 21 4,oMv 2 21,oP 3 .mv [cIn 0]]
def c20:ACode:=.seq (rT c20r0 [0]) (.seq (.seq (rT c20r1 [0,8]) c20k3) (.seq (rT c20r4 [0,4]) (.seq (.seq (rT c20r5 [0,4,5]) c20k12) (.seq (rT c20r13 [2,3]) .ret))))
def g20:AFn:=⟨1,[(2,none),(3,none)],c20,false,[],[],none⟩
theorem tr20:trFn Try.prog false 20 Try.f20=some g20:=by kernel_rfl
def c21r0:LO:=[oP 2 (.nilsl (some 4)) [],oP 3 .mv [cIn 0]]
def c21r1:LO:=[oMv 7 0,oCl 8 44 [.t 7],oUn 9 .not 8]
def c21r2:LO:=[oP 2 (.nilsl (some 4)) [],oP 3 .mv [cIn 1]]
def c21k3:ACode:=kRt 9 c21r2 [2,3]
def c21r4:LO:=[oP 4 .mv [cIn 0]]
def c21r5:LO:=[oMv 10 4,oMv 11 0,oUn 12 .len 11,oBi 13 .lss 10 12]
def c21k6:ACode:=kEx 13 0
def c21r7:LO:=[oMv 16 0,oMv 17 4,oIa 18 16 17,oLf 19 18,oCl 20 46 [.t 19],oUn 21 .not 20]
def c21r8:LO:=[oP 2 (.nilsl (some 4)) [],oP 3 .mv [cIn 3]]
def c21k9:ACode:=kRt 21 c21r8 [2,3]
def c21k10:ACode:=.block 1 (.seq (rT c21r7 [0,4,21]) c21k9)
def c21r11:LO:=[oMv 14 4,oBc 15 .add 14 1,oMv 4 15]
def c21b12:ACode:=.seq (.seq (rT c21r5 [0,4,13]) c21k6) (.seq c21k10 (rT c21r11 [0,4]))
def c21k13:ACode:=.block 0 (.loop [0,4] c21b12)
def c21r14:LO:=[oP 5 (.nilsl (some 4)) []]
def c21r15:LO:=[oP 6 .mv [cIn 0]]
def c21r16:LO:=[oMv 22 6,oMv 23 0,oUn 24 .len 23,oBi 25 .lss 22 24]
def c21k17:ACode:=kEx 25 2
def c21r18:LO:=[oMv 28 5,oMv 29 0,oMv 30 6,oIa 31 29 30,oLf 32 31,oCl 33 45 [.t 28,.t 32,cBo true],oMv 5 33]
def c21k19:ACode:=.block 3 (rT c21r18 [0,5,6])
def c21r20:LO:=[oMv 26 6,oBc 27 .add 26 1,oMv 6 27]
def c21b21:ACode:=.seq (.seq (rT c21r16 [0,5,6,25]) c21k17) (.seq c21k19 (rT c21r20 [0,5,6]))
def c21k22:ACode:=.block 2 (.loop [0,5,6] c21b21)
def c21r23:LO:=[oMv 34 5,oMv 2 34,oP 3 .mv [cIn 0]]
def c21:ACode:=.seq (rT c21r0 [0]) (.seq (.seq (rT c21r1 [0,9]) c21k3) (.seq (.seq (rT c21r4 [0,4]) c21k13) (.seq (rT c21r14 [0,5]) (.seq (.seq (rT c21r15 [0,5,6]) c21k22) (.seq (rT c21r23 [2,3]) .ret)))))
def g21:AFn:=⟨1,[(2,none),(3,none)],c21,false,[],[],none⟩
theorem tr21:trFn Try.prog false 21 Try.f21=some g21:=by kernel_rfl
def c22r0:LO:=[oP 4 .mv [cBo false]]
def c22r1:LO:=[oMv 6 0,oUn 7 .len 6,oMv 8 1,oUn 9 .len 8,oBi 10 .neq 7 9]
def c22r2:LO:=[oP 4 .mv [cBo false]]
def c22k3:ACode:=kRt 10 c22r2 [4]
def c22r4:LO:=[oP 5 .mv [cIn 0]]
def c22r5:LO:=[oMv 11 5,oMv 12 0,oUn 13 .len 12,oBi 14 .lss 11 13]
def c22k6:ACode:=kEx 14 0
def c22r7:LO:=[oMv 17 0,oMv 18 5,oIa 19 17 18,oLf 20 19,oMv 21 1,oMv 22 5,oIa 23 21 22,oLf 24 23,oCl 25 28 [.t 20,.t 24],oUn 26 .not 25]
def c22r8:LO:=[oP 4 .mv [cBo false]]
def c22k9:ACode:=kRt 26 c22r8 [4]
def c22k10:ACode:=.block 1 (.seq (rT c22r7 [0,1,5,26]) c22k9)
def c22r11:LO:=[oMv 15 5,oBc 16 .add 15 1,oMv 5 16]
def c22b12:ACode:=.seq (.seq (rT c22r5 [0,1,5,14]) c22k6) (.seq c22k10 (rT c22r11 [0,1,5]))
def c22k13:ACode:=.block 0 (.loop [0,1,5] c22b12)
def c22r14:LO:=[oP 4 .mv [cBo true]]
def c22:ACode:=.seq (rT c22r0 [0,1]) (.seq (.seq (rT c22r1 [0,1,10]) c22k3) (.seq (.seq (rT c22r4 [0,1,5]) c22k13) (.seq (rT c22r14 [4]) .ret)))
def g22:AFn:=⟨2,[(4,none)],c22,false,[],[],none⟩
theorem tr22:trFn Try.prog false 22 Try.f22=some g22:=by kernel_rfl
def c23r0:LO:=[oP 2 .mv [cBo false]]
def c23r1:LO:=[oP 3 .mv [cIn 0]]
def c23r2:LO:=[oMv 4 3,oMv 5 0,oUn 6 .len 5,oBi 7 .lss 4 6]
def c23k3:ACode:=kEx 7 0
def c23r4:LO:=[oMv 10 0,oMv 11 3,oIa 12 10 11,oLf 13 12,oCl 14 31 [.t 13],oUn 15 .not 14]
def c23r5:LO:=[oP 2 .mv [cBo false]]
def c23k6:ACode:=kRt 15 c23r5 [2]
def c23k7:ACode:=.block 1 (.seq (rT c23r4 [0,3,15]) c23k6)
def c23r8:LO:=[oMv 8 3,oBc 9 .add 8 1,oMv 3 9]
def c23b9:ACode:=.seq (.seq (rT c23r2 [0,3,7]) c23k3) (.seq c23k7 (rT c23r8 [0,3]))
def c23k10:ACode:=.block 0 (.loop [0,3] c23b9)
def c23r11:LO:=[oP 2 .mv [cBo true]]
def c23:ACode:=.seq (rT c23r0 [0]) (.seq (.seq (rT c23r1 [0,3]) c23k10) (.seq (rT c23r11 [2]) .ret))
def g23:AFn:=⟨1,[(2,none)],c23,false,[],[],none⟩
theorem tr23:trFn Try.prog false 23 Try.f23=some g23:=by kernel_rfl
def c24r0:LO:=[oBx 1 0,oP 2 aZ []]
def c24r1:LO:=[oLf 3 1,oCl 4 31 [.t 3],oUn 5 .not 4]
def c24r2:LO:=[oP 6 (bZ []) [],oSf 2 6]
def c24k3:ACode:=kRt 5 c24r2 [2]
def c24r4:LO:=[oLf 7 1,oCl 8 47 [.t 7],oSf 2 8]
def c24:ACode:=.seq (rT c24r0 [1,2]) (.seq (.seq (rT c24r1 [1,2,5]) c24k3) (.seq (rT c24r4 [2]) .ret))
def g24:AFn:=⟨1,[(2,some (some 4))],c24,false,[],[],none⟩
theorem tr24:trFn Try.prog false 24 Try.f24=some g24:=by kernel_rfl
def c25r0:LO:=[oP 2 .mv [cIn 0]]
def c25r1:LO:=[oMv 4 2,oMv 5 0,oUn 6 .len 5,oBi 7 .lss 4 6]
def c25k2:ACode:=kEx 7 0
def c25r3:LO:=[oP 3 .mv [cIn 0]]
def c25r4:LO:=[oMv 10 3,oMv 11 0,oMv 12 2,oIa 13 11 12,oFa 14 3 13,oLo 15 14,oUn 16 .len 15,oBi 17 .lss 10 16]
def c25k5:ACode:=kEx 17 2
def c25r6:LO:=[oMv 20 0,oMv 21 2,oIa 22 20 21,oFa 23 3 22,oLo 24 23,oMv 25 3,oP 26 (bZ [0]) [cIn 7],oIa 27 24 25,oSf 27 26]
def c25k7:ACode:=.block 3 (rT c25r6 [0,2,3])
def c25r8:LO:=[oMv 18 3,oBc 19 .add 18 1,oMv 3 19]
def c25b9:ACode:=.seq (.seq (rT c25r4 [0,2,3,17]) c25k5) (.seq c25k7 (rT c25r8 [0,2,3]))
def c25k10:ACode:=.block 2 (.loop [0,2,3] c25b9)
def c25r11:LO:=[oMv 28 0,oMv 29 2,oP 30 (bZ [0]) [cIn 7],oIa 31 28 29,oSf 31 30]
def c25k12:ACode:=.block 1 (.seq (.seq (rT c25r3 [0,2,3]) c25k10) (rT c25r11 [0,2]))
def c25r13:LO:=[oMv 8 2,oBc 9 .add 8 1,oMv 2 9]
def c25b14:ACode:=.seq (.seq (rT c25r1 [0,2,7]) c25k2) (.seq c25k12 (rT c25r13 [0,2]))
def c25k15:ACode:=.block 0 (.loop [0,2] c25b14)
def c25:ACode:=.seq (rT c25r0 [0,2]) c25k15
def g25:AFn:=⟨1,[],c25,true,[],[],none⟩
theorem tr25:trFn Try.prog true 25 Try.f25=some g25:=by kernel_rfl
def c26r0:LO:=[oBx 3 1,oP 4 .mv [cIn 0],oP 5 .mv [cBo false]]
def c26r1:LO:=[oLf 7 3,oCl 8 36 [.t 7],oUn 9 .not 8,oMv 10 9,oG 11 .mv [.t 0] 10 false,oG 12 .call [cFn 41,.t 11] 10 false,oG 13 .not [.t 12] 10 false,oP 14 .pick [.t 10,cBo true,.t 13]]
def c26r2:LO:=[oP 4 .mv [cIn 0],oP 5 .mv [cBo false]]
def c26k3:ACode:=kRt 14 c26r2 [4,5]
def c26r4:LO:=[oP 6 .mv [cIn 1]]
def c26r5:LO:=[oMv 15 6,oMv 16 0,oUn 17 .len 16,oBi 18 .lss 15 17]
def c26k6:ACode:=kEx 18 0
def c26r7:LO:=[oMv 21 0,oMv 22 6,oBc 23 .sub 22 1,oIa 24 21 23,oLf 25 24,oMv 26 0,oMv 27 6,oIa 28 26 27,oLf 29 28,oCl 30 37 [.t 25,.t 29],oBc 31 .geq 30 0]
def c26r8:LO:=[oP 4 .mv [cIn 0],oP 5 .mv [cBo false]]
def c26k9:ACode:=kRt 31 c26r8 [4,5]
def c26k10:ACode:=.block 1 (.seq (rT c26r7 [0,3,6,31]) c26k9)
def c26r11:LO:=[oMv 19 6,oBc 20 .add 19 1,oMv 6 20]
def c26b12:ACode:=.seq (.seq (rT c26r5 [0,3,6,18]) c26k6) (.seq c26k10 (rT c26r11 [0,3,6]))
def c26k13:ACode:=.block 0 (.loop [0,3,6] c26b12)
def c26r14:LO:=[oMv 32 0,oLf 33 3,oCl 34 48 [.t 32,.t 33,cFn 37],oEx 35 0 34,oEx 36 1 34,oMv 4 35,oMv 5 36]
def c26:ACode:=.seq (rT c26r0 [0,3]) (.seq (.seq (rT c26r1 [0,3,14]) c26k3) (.seq (.seq (rT c26r4 [0,3,6]) c26k13) (.seq (rT c26r14 [4,5]) .ret)))
def g26:AFn:=⟨2,[(4,none),(5,none)],c26,false,[],[],none⟩
theorem tr26:trFn Try.prog false 26 Try.f26=some g26:=by kernel_rfl
def c28r0:LO:=[oBx 2 0,oBx 3 1,oP 4 .mv [cBo false]]
def c28r1:LO:=[oLf 5 2,oCl 6 31 [.t 5],oMv 7 6,oG 8 (.load (some 4)) [.t 3] 7 true,oG 9 .call [cFn 31,.t 8] 7 true,oP 10 .pick [.t 7,.t 9,cBo false],oMv 11 10,oG 12 (.load (some 4)) [.t 2] 11 true,oG 13 (.load (some 4)) [.t 3] 11 true,
 oG 14 .call [cFn 49,.t 12,.t 13] 11 true,oP 15 .pick [.t 11,.t 14,cBo false],oMv 4 15]
def c28:ACode:=.seq (rT c28r0 [2,3]) (.seq (rT c28r1 [4]) .ret)
def g28:AFn:=⟨2,[(4,none)],c28,false,[],[],none⟩
theorem tr28:trFn Try.prog false 28 Try.f28=some g28:=by kernel_rfl
def c30r0:LO:=[oP 2 aZ []]
def c30r1:LO:=[oMv 3 0,oP 4 (bZ [1]) [.t 3],oSf 2 4]
def c30:ACode:=.seq (rT c30r0 [0,2]) (.seq (rT c30r1 [2]) .ret)
def g30:AFn:=⟨1,[(2,some (some 4))],c30,false,[],[],none⟩
theorem tr30:trFn Try.prog false 30 Try.f30=some g30:=by kernel_rfl
def c31r0:LO:=[oBx 1 0,oP 2 .mv [cBo false]]
def c31r1:LO:=[oLf 3 1,oCl 4 50 [.t 3],oBc 5 .leq 4 2000,oMv 6 5,oG 7 (.load (some 4)) [.t 1] 6 true,oG 8 .call [cFn 51,.t 7] 6 true,oP 9 .pick [.t 6,.t 8,cBo false],oMv 2 9]
def c31:ACode:=.seq (rT c31r0 [1]) (.seq (rT c31r1 [2]) .ret)
def g31:AFn:=⟨1,[(2,none)],c31,false,[],[],none⟩
theorem tr31:trFn Try.prog false 31 Try.f31=some g31:=by kernel_rfl
def c33r0:LO:=[oP 4 aZ []]
def c33r1:LO:=[oMv 5 0,oMv 6 1,oP 7 (bZ [0,2,3]) [cIn 3,.t 5,.t 6],oSf 4 7]
def c33:ACode:=.seq (rT c33r0 [0,1,4]) (.seq (rT c33r1 [4]) .ret)
def g33:AFn:=⟨2,[(4,some (some 4))],c33,false,[],[],none⟩
theorem tr33:trFn Try.prog false 33 Try.f33=some g33:=by kernel_rfl
def c34r0:LO:=[oP 2 aZ []]
def c34r1:LO:=[oMv 3 0,oP 4 (bZ [0,1]) [cIn 1,.t 3],oSf 2 4]
def c34:ACode:=.seq (rT c34r0 [0,2]) (.seq (rT c34r1 [2]) .ret)
def g34:AFn:=⟨1,[(2,some (some 4))],c34,false,[],[],none⟩
theorem tr34:trFn Try.prog false 34 Try.f34=some g34:=by kernel_rfl
def c35r0:LO:=[oP 2 aZ []]
def c35r1:LO:=[oMv 3 0,oP 4 (bZ [0,2]) [cIn 2,.t 3],oSf 2 4]
def c35:ACode:=.seq (rT c35r0 [0,2]) (.seq (rT c35r1 [2]) .ret)
def g35:AFn:=⟨1,[(2,some (some 4))],c35,false,[],[],none⟩
theorem tr35:trFn Try.prog false 35 Try.f35=some g35:=by kernel_rfl
def c36r0:LO:=[oBx 1 0,oP 2 .mv [cBo false]]
def c36r1:LO:=[oLf 3 1,oCl 4 52 [.t 3],oBc 5 .leq 4 2000,oMv 6 5,oG 7 (.load (some 4)) [.t 1] 6 true,oG 8 .call [cFn 53,.t 7] 6 true,oP 9 .pick [.t 6,.t 8,cBo false],oMv 2 9]
def c36:ACode:=.seq (rT c36r0 [1]) (.seq (rT c36r1 [2]) .ret)
def g36:AFn:=⟨1,[(2,none)],c36,false,[],[],none⟩
theorem tr36:trFn Try.prog false 36 Try.f36=some g36:=by kernel_rfl
def c37r0:LO:=[oBx 2 0,oBx 3 1,oP 4 .mv [cIn 0]]
def c37r1:LO:=[oP 12 (.build [(none,(.pv none (.int .i64 0))),(none,(.pv none (.int .i64 0))),(none,(.pv none (.int .i64 0))),(none,(.pv none (.int .i64 0)))] [0,1,2,3]) [cIn 0,cIn 1,cIn 2,cIn 3],oP 5 (.alloc (some 4) (.pv (some 4) (.agg [(none,(.int .i64 0)),(none,(.int .i64 0)),(none,(.int .i64 0)),(none,(.int .i64 0))]))) [],
 oSf 5 12]
def c37r2:LO:=[oFa 13 0 2,oLo 14 13,oP 15 (.iaddrA none 4) [.t 5,.t 14],oLo 16 15,oFa 17 0 3,oLo 18 17,oP 19 (.iaddrA none 4) [.t 5,.t 18],oLo 20 19,oCl 21 54 [.t 16,.t 20],oMv 6 21]
def c37r3:LO:=[oMv 22 6,oBc 23 .neq 22 0]
def c37r4:LO:=[oMv 24 6,oMv 4 24]
def c37k5:ACode:=kRt 23 c37r4 [4]
def c37r6:LO:=[oFa 25 0 2,oLo 26 25,oBc 27 .eql 26 0,oMv 28 27,oG 29 (.faddr 0) [.t 2] 28 false,oG 30 (.load none) [.t 29] 28 false,oG 31 (.bin .eql) [.t 30,cIn 1] 28 false,oP 32 .pick [.t 28,cBo true,.t 31]]
def c37r7:LO:=[oFa 33 1 2,oLo 34 33,oFa 35 1 3,oLo 36 35,oCl 37 55 [.t 34,.t 36],oMv 4 37]
def c37k8:ACode:=kRt 32 c37r7 [4]
def c37r9:LO:=[oFa 38 3 2,oLo 39 38,oUn 40 .len 39,oFa 41 3 3,oLo 42 41,oUn 43 .len 42,oCl 44 54 [.t 40,.t 43],oMv 7 44]
def c37r10:LO:=[oMv 45 7,oBc 46 .neq 45 0]
def c37r11:LO:=[oMv 47 7,oMv 4 47]
def c37k12:ACode:=kRt 46 c37r11 [4]
def c37r13:LO:=[oFa 48 2 2,oLo 49 48,oFa 50 2 3,oLo 51 50,oCl 52 56 [.t 49,.t 51],oMv 8 52]
def c37r14:LO:=[oMv 53 8,oBc 54 .neq 53 0]
def c37r15:LO:=[oMv 55 8,oMv 4 55]
def c37k16:ACode:=kRt 54 c37r15 [4]
def c37r17:LO:=[oFa 56 3 2,oLo 57 56,oUn 58 .len 57,oP 59 .mv [cIn 0]]
def c37r18:LO:=[oBi 60 .lss 59 58]
def c37k19:ACode:=kEx 60 0
def c37r20:LO:=[oMv 61 59,oIa 62 57 59,oLf 63 62,oP 10 aZ [],oMv 9 61,oSf 10 63]
def c37r21:LO:=[oLf 64 10,oFa 65 3 3,oLo 66 65,oMv 67 9,oIa 68 66 67,oLf 69 68,oCl 70 37 [.t 64,.t 69],oMv 11 70]
def c37r22:LO:=[oMv 71 11,oBc 72 .neq 71 0]
def c37r23:LO:=[oMv 73 11,oMv 4 73]
def c37k24:ACode:=kRt 72 c37r23 [4]
def c37k25:ACode:=.block 1 (.seq (rT c37r20 [3,9,10,57,58,59]) (.seq (rT c37r21 [3,11,57,58,59]) (.seq (rT c37r22 [3,11,57,58,59,72]) c37k24)))
def c37r26:LO:=[oBc 74 .add 59 1,oMv 59 74]
def c37b27:ACode:=.seq (rT c37r18 [3,57,58,59,60]) (.seq c37k19 (.seq c37k25 (rT c37r26 [3,57,58,59])))
def c37k28:ACode:=.block 0 (.loop [3,57,58,59] c37b27)
def c37r29:LO:=[oP 4 .mv [cIn 0]]
def c37:ACode:=.seq (rT c37r0 [2,3]) (.seq (rT c37r1 [2,3,5]) (.seq (.seq (rT c37r2 [2,3,6]) (.seq (rT c37r3 [2,3,6,23]) c37k5)) (.seq (.seq (rT c37r6 [2,3,32]) c37k8) (.seq (.seq (rT c37r9 [2,3,7]) (.seq (rT c37r10 [2,3,7,46]) c37k12)) (.seq (.seq (rT c37r13 [2,3,8]) (.seq (rT c37r14 [2,3,8,54]) c37k16)) (.seq (.seq (rT c37r17 [3,57,58,59]) c37k28) (.seq (rT c37r29 [4]) .ret)))))))
def g37:AFn:=⟨2,[(4,none)],c37,false,[],[],none⟩
theorem tr37:trFn Try.prog false 37 Try.f37=some g37:=by kernel_rfl
def c38r0:LO:=[oBx 2 0,oBx 3 1,oP 4 .mv [cIn 0]]
def c38r1:LO:=[oFa 7 0 2,oLo 8 7,oFa 9 0 3,oLo 10 9,oBi 11 .neq 8 10]
def c38r2:LO:=[oFa 12 0 2,oLo 13 12,oFa 14 0 3,oLo 15 14,oCl 16 57 [.t 13,.t 15],oMv 4 16]
def c38k3:ACode:=kRt 11 c38r2 [4]
def c38r4:LO:=[oFa 17 1 2,oLo 18 17,oFa 19 1 3,oLo 20 19,oCl 21 57 [.t 18,.t 20],oMv 5 21]
def c38r5:LO:=[oMv 22 5,oBc 23 .eql 22 0]
def c38r6:LO:=[oFa 24 3 2,oLo 25 24,oUn 26 .len 25,oFa 27 3 3,oLo 28 27,oUn 29 .len 28,oCl 30 57 [.t 26,.t 29],oMv 5 30]
def c38k7:ACode:=.cond (.t 23) (rT c38r6 [2,3,5]) .skip
def c38r8:LO:=[oMv 31 5,oBc 32 .eql 31 0]
def c38r9:LO:=[oFa 33 2 2,oLo 34 33,oFa 35 2 3,oLo 36 35,oCl 37 58 [.t 34,.t 36],oMv 5 37]
def c38k10:ACode:=.cond (.t 32) (rT c38r9 [2,3,5]) .skip
def c38r11:LO:=[oP 6 .mv [cIn 0]]
def c38r12:LO:=[oMv 38 6,oFa 39 3 2,oLo 40 39,oUn 41 .len 40,oBi 42 .lss 38 41,oMv 43 42,oG 44 .mv [.t 5] 43 true,oG 45 (.bin .eql) [.t 44,cIn 0] 43 true,oP 46 .pick [.t 43,.t 45,cBo false]]
def c38k13:ACode:=kEx 46 0
def c38r14:LO:=[oFa 49 3 2,oLo 50 49,oMv 51 6,oIa 52 50 51,oLf 53 52,oFa 54 3 3,oLo 55 54,oMv 56 6,oIa 57 55 56,oLf 58 57,oCl 59 38 [.t 53,.t 58],oMv 5 59]
def c38k15:ACode:=.block 1 (rT c38r14 [2,3,5,6])
def c38r16:LO:=[oMv 47 6,oBc 48 .add 47 1,oMv 6 48]
def c38b17:ACode:=.seq (.seq (rT c38r12 [2,3,5,6,46]) c38k13) (.seq c38k15 (rT c38r16 [2,3,5,6]))
def c38k18:ACode:=.block 0 (.loop [2,3,5,6] c38b17)
def c38r19:LO:=[oMv 60 5,oMv 4 60]
def c38:ACode:=.seq (rT c38r0 [2,3]) (.seq (.seq (rT c38r1 [2,3,11]) c38k3) (.seq (rT c38r4 [2,3,5]) (.seq (.seq (rT c38r5 [2,3,5,23]) c38k7) (.seq (.seq (rT c38r8 [2,3,5,32]) c38k10) (.seq (.seq (rT c38r11 [2,3,5,6]) c38k18) (.seq (rT c38r19 [4]) .ret))))))
def g38:AFn:=⟨2,[(4,none)],c38,false,[],[],none⟩
theorem tr38:trFn Try.prog false 38 Try.f38=some g38:=by kernel_rfl
def c39r0:LO:=[oP 4 (.nilsl (some 4)) []]
def c39r1:LO:=[oMv 8 0,oUn 9 .len 8,oBc 10 .lss 9 2]
def c39r2:LO:=[oMv 11 0,oMv 4 11]
def c39k3:ACode:=kRt 10 c39r2 [4]
def c39r4:LO:=[oP 5 .mv [cIn 1]]
def c39r5:LO:=[oMv 12 5,oMv 13 0,oUn 14 .len 13,oBi 15 .lss 12 14]
def c39k6:ACode:=kEx 15 0
def c39r7:LO:=[oMv 18 1,oMv 19 0,oMv 20 5,oIa 21 19 20,oLf 22 21,oMv 23 0,oMv 24 5,oBc 25 .sub 24 1,oIa 26 23 25,oLf 27 26,oP 28 .call [.t 18,.t 22,.t 27]]
def c39r8:LO:=[oMv 29 0,oMv 30 5,oP 31 (.slice (some 4) true false) [.t 29,.t 30],oMv 6 31]
def c39r9:LO:=[oP 7 .mv [cIn 1]]
def c39r10:LO:=[oMv 32 7,oMv 33 6,oUn 34 .len 33,oBi 35 .lss 32 34]
def c39k11:ACode:=kEx 35 2
def c39r12:LO:=[oMv 38 1,oMv 39 6,oMv 40 7,oIa 41 39 40,oLf 42 41,oMv 43 6,oMv 44 7,oBc 45 .sub 44 1,oIa 46 43 45,oLf 47 46,oP 48 .call [.t 38,.t 42,.t 47],oUn 49 .not 48]
def c39r13:LO:=[oMv 50 0,oMv 51 5,oMv 52 6,oMv 53 7,oIa 54 52 53,oLf 55 54,oIa 56 50 51,oSf 56 55]
def c39r14:LO:=[oMv 57 5,oBc 58 .add 57 1,oMv 5 58]
def c39k15:ACode:=.cond (.t 49) (.seq (rT c39r13 [0,1,5,6,7]) (rT c39r14 [0,1,5,6,7])) .skip
def c39k16:ACode:=.block 3 (.seq (rT c39r12 [0,1,5,6,7,49]) c39k15)
def c39r17:LO:=[oMv 36 7,oBc 37 .add 36 1,oMv 7 37]
def c39b18:ACode:=.seq (.seq (rT c39r10 [0,1,5,6,7,35]) c39k11) (.seq c39k16 (rT c39r17 [0,1,5,6,7]))
def c39k19:ACode:=.block 2 (.loop [0,1,5,6,7] c39b18)
def c39r20:LO:=[oMv 59 0,oMv 60 5,oP 61 (.slice (some 4) true false) [.t 59,.t 60],⟨none,(.clear (some 4) (.agg [(none,(.int .i64 0)),(none,(.int .i64 0)),(none,(.str [])),(none,(.sl (some 4) []))])),[.t 61],none⟩]
def c39r21:LO:=[oMv 62 0,oMv 63 5,oP 64 (.slice (some 4) false true) [.t 62,.t 63],oMv 4 64]
def c39k22:ACode:=.cond (.t 28) (.seq (rT c39r8 [0,1,5,6]) (.seq (.seq (rT c39r9 [0,1,5,6,7]) c39k19) (.seq (rT c39r20 [0,5]) (.seq (rT c39r21 [4]) .ret)))) .skip
def c39k23:ACode:=.block 1 (.seq (rT c39r7 [0,1,5,28]) c39k22)
def c39r24:LO:=[oMv 16 5,oBc 17 .add 16 1,oMv 5 17]
def c39b25:ACode:=.seq (.seq (rT c39r5 [0,1,5,15]) c39k6) (.seq c39k23 (rT c39r24 [0,1,5]))
def c39k26:ACode:=.block 0 (.loop [0,1,5] c39b25)
def c39r27:LO:=[oMv 65 0,oMv 4 65]
def c39:ACode:=.seq (rT c39r0 [0,1]) (.seq (.seq (rT c39r1 [0,1,10]) c39k3) (.seq (.seq (rT c39r4 [0,1,5]) c39k26) (.seq (rT c39r27 [4]) .ret)))
def g39:AFn:=⟨2,[(4,none)],c39,true,[],[],none⟩
theorem tr39:trFn Try.prog true 39 Try.f39=some g39:=by kernel_rfl
def c40r0:LO:=[oBx 2 0,oBx 3 1,oP 4 .mv [cBo false]]
def c40r1:LO:=[oLf 5 2,oLf 6 3,oCl 7 37 [.t 5,.t 6],oBc 8 .eql 7 0,oMv 4 8]
def c40:ACode:=.seq (rT c40r0 [2,3]) (.seq (rT c40r1 [4]) .ret)
def g40:AFn:=⟨2,[(4,none)],c40,false,[],[],none⟩
theorem tr40:trFn Try.prog false 40 Try.f40=some g40:=by kernel_rfl
def c41r0:LO:=[oP 2 .mv [cBo false]]
def c41r1:LO:=[oMv 5 0,oUn 6 .len 5,oP 7 .mv [cIn 0]]
def c41r2:LO:=[oBi 8 .lss 7 6]
def c41k3:ACode:=kEx 8 0
def c41r4:LO:=[oIa 9 5 7,oLf 10 9,oP 4 aZ [],oSf 4 10]
def c41r5:LO:=[oLf 11 4,oCl 12 36 [.t 11],oUn 13 .not 12]
def c41r6:LO:=[oP 2 .mv [cBo false]]
def c41k7:ACode:=kRt 13 c41r6 [2]
def c41k8:ACode:=.block 1 (.seq (rT c41r4 [4,5,6,7]) (.seq (rT c41r5 [5,6,7,13]) c41k7))
def c41r9:LO:=[oBc 14 .add 7 1,oMv 7 14]
def c41b10:ACode:=.seq (rT c41r2 [5,6,7,8]) (.seq c41k3 (.seq c41k8 (rT c41r9 [5,6,7])))
def c41k11:ACode:=.block 0 (.loop [5,6,7] c41b10)
def c41r12:LO:=[oP 2 .mv [cBo true]]
def c41:ACode:=.seq (rT c41r0 [0]) (.seq (.seq (rT c41r1 [5,6,7]) c41k11) (.seq (rT c41r12 [2]) .ret))
def g41:AFn:=⟨1,[(2,none)],c41,false,[],[],none⟩
theorem tr41:trFn Try.prog false 41 Try.f41=some g41:=by kernel_rfl
def c42r0:LO:=[oP 4 (.nilsl (some 4)) []]
def c42r1:LO:=[oMv 8 0,oUn 9 .len 8,oP 10 (.mkslicev (some 4) (.agg [(none,(.pv none (.int .i64 0))),(none,(.pv none (.int .i64 0))),(none,(.pv none (.str []))),(none,(.tsl (some 4) []))])) [cIn 0,.t 9],oMv 5 10]
def c42r2:LO:=[oMv 11 0,oUn 12 .len 11,oP 13 .mv [cIn 0]]
def c42r3:LO:=[oBi 14 .lss 13 12]
def c42k4:ACode:=kEx 14 0
def c42r5:LO:=[oIa 15 11 13,oLf 16 15,oP 7 aZ [],oSf 7 16]
def c42r6:LO:=[oMv 17 5,oLf 18 7,oCl 19 59 [.t 18],oUn 20 (.bslov (some 4)) 19,oP 21 (.appendv (some 4)) [.t 17,.t 20],oMv 5 21]
def c42k7:ACode:=.block 1 (.seq (rT c42r5 [1,5,7,11,12,13]) (rT c42r6 [1,5,11,12,13]))
def c42r8:LO:=[oBc 22 .add 13 1,oMv 13 22]
def c42b9:ACode:=.seq (rT c42r3 [1,5,11,12,13,14]) (.seq c42k4 (.seq c42k7 (rT c42r8 [1,5,11,12,13])))
def c42k10:ACode:=.block 0 (.loop [1,5,11,12,13] c42b9)
def c42r11:LO:=[oMv 23 5,oMv 24 1,oCl 25 60 [.t 23,.t 24]]
def c42r12:LO:=[oMv 26 5,oMv 4 26]
def c42:ACode:=.seq (rT c42r0 [0,1]) (.seq (rT c42r1 [0,1,5]) (.seq (.seq (rT c42r2 [1,5,11,12,13]) c42k10) (.seq (rT c42r11 [5]) (.seq (rT c42r12 [4]) .ret))))
def g42:AFn:=⟨2,[(4,none)],c42,true,[],[],none⟩
theorem tr42:trFn Try.prog true 42 Try.f42=some g42:=by kernel_rfl
def c43r0:LO:=[oBx 2 0,oBx 3 1,oP 4 .mv [cIn 0]]
def c43r1:LO:=[oFa 5 3 2,oLo 6 5,oP 7 (.iaddr (some 4)) [.t 6,cIn 0],oLf 8 7,oFa 9 3 3,oLo 10 9,oP 11 (.iaddr (some 4)) [.t 10,cIn 0],oLf 12 11,oCl 13 37 [.t 8,.t 12],oMv 4 13]
def c43:ACode:=.seq (rT c43r0 [2,3]) (.seq (rT c43r1 [4]) .ret)
def g43:AFn:=⟨2,[(4,none)],c43,false,[],[],none⟩
theorem tr43:trFn Try.prog false 43 Try.f43=some g43:=by kernel_rfl
def c44r0:LO:=[oP 2 .mv [cBo false]]
def c44r1:LO:=[oP 3 .mv [cIn 0]]
def c44r2:LO:=[oMv 4 3,oMv 5 0,oUn 6 .len 5,oBi 7 .lss 4 6]
def c44k3:ACode:=kEx 7 0
def c44r4:LO:=[oMv 10 0,oMv 11 3,oIa 12 10 11,oLf 13 12,oCl 14 31 [.t 13],oUn 15 .not 14]
def c44r5:LO:=[oP 2 .mv [cBo false]]
def c44k6:ACode:=kRt 15 c44r5 [2]
def c44k7:ACode:=.block 1 (.seq (rT c44r4 [0,3,15]) c44k6)
def c44r8:LO:=[oMv 8 3,oBc 9 .add 8 1,oMv 3 9]
def c44b9:ACode:=.seq (.seq (rT c44r2 [0,3,7]) c44k3) (.seq c44k7 (rT c44r8 [0,3]))
def c44k10:ACode:=.block 0 (.loop [0,3] c44b9)
def c44r11:LO:=[oP 2 .mv [cBo true]]
def c44:ACode:=.seq (rT c44r0 [0]) (.seq (.seq (rT c44r1 [0,3]) c44k10) (.seq (rT c44r11 [2]) .ret))
def g44:AFn:=⟨1,[(2,none)],c44,false,[],[],none⟩
theorem tr44:trFn Try.prog false 44 Try.f44=some g44:=by kernel_rfl
def c45r0:LO:=[oBx 4 1,oP 6 (.nilsl (some 4)) []]
def c45r1:LO:=[oMv 9 0,oUn 10 .len 9,oMv 7 10]
def c45r2:LO:=[oMv 11 7,oBc 12 .gtr 11 0,oMv 13 12,oG 14 .mv [.t 0] 13 true,oG 15 .mv [.t 7] 13 true,oG 16 (.bin .sub) [.t 15,cIn 1] 13 true,oG 17 (.iaddr (some 4)) [.t 14,.t 16] 13 true,oG 18 (.load (some 4)) [.t 17] 13 true,
 oG 19 .mv [.t 2] 13 true,oG 20 .callp [cFn 61,.t 18,.t 19] 13 true,oG 21 (.load (some 4)) [.t 4] 13 true,oG 22 .mv [.t 2] 13 true,oG 23 .callp [cFn 61,.t 21,.t 22] 13 true,oG 24 .callp [cFn 38,.t 20,.t 23] 13 true,oG 25 (.bin .gtr) [.t 24,cIn 0] 13 true,
 oP 26 .pick [.t 13,.t 25,cBo false]]
def c45k3:ACode:=kEx 26 0
def c45r4:LO:=[oMv 27 7,oBc 28 .sub 27 1,oMv 7 28]
def c45k5:ACode:=.block 1 (rT c45r4 [0,2,4,7])
def c45b6:ACode:=.seq (.seq (.seq (.settle [2,4]) (rT c45r2 [0,2,4,7,26])) c45k3) c45k5
def c45k7:ACode:=.block 0 (.loop [0,2,4,7] c45b6)
def c45r8:LO:=[oP 8 (.nilsl (some 4)) []]
def c45r9:LO:=[oMv 29 8,oMv 30 0,oMv 31 7,oP 32 (.slice (some 4) false true) [.t 30,.t 31],oP 33 (.append (some 4)) [.t 29,.t 32],oMv 8 33]
def c45r10:LO:=[oMv 34 8,oLf 35 4,oUn 36 (.bslice (some 4)) 35,oP 37 (.append (some 4)) [.t 34,.t 36],oMv 8 37]
def c45r11:LO:=[oMv 38 8,oMv 39 0,oMv 40 7,oP 41 (.slice (some 4) true false) [.t 39,.t 40],oP 42 (.append (some 4)) [.t 38,.t 41],oMv 6 42]
def c45:ACode:=.seq (rT c45r0 [0,2,4]) (.seq (rT c45r1 [0,2,4,7]) (.seq c45k7 (.seq (rT c45r8 [0,4,7,8]) (.seq (rT c45r9 [0,4,7,8]) (.seq (rT c45r10 [0,7,8]) (.seq (rT c45r11 [6]) .ret))))))
def g45:AFn:=⟨3,[(6,none)],c45,false,[],[],none⟩
theorem tr45:trFn Try.prog false 45 Try.f45=some g45:=by kernel_rfl
def c46r0:LO:=[oBx 1 0,oP 2 .mv [cBo false]]
def c46r1:LO:=[oFa 3 0 1,oLo 4 3,oBc 5 .eql 4 3,oMv 6 5,oG 7 (.faddr 2) [.t 1] 6 true,oG 8 (.load none) [.t 7] 6 true,oG 9 (.bin .eql) [.t 8,cSt [45]] 6 true,oP 10 .pick [.t 6,.t 9,cBo false],oMv 11 10,oG 12 (.faddr 3) [.t 1] 11 true,
 oG 13 (.load none) [.t 12] 11 true,oG 14 .len [.t 13] 11 true,oG 15 (.bin .eql) [.t 14,cIn 2] 11 true,oP 16 .pick [.t 11,.t 15,cBo false],oMv 2 16]
def c46:ACode:=.seq (rT c46r0 [1]) (.seq (rT c46r1 [2]) .ret)
def g46:AFn:=⟨1,[(2,none)],c46,false,[],[],none⟩
theorem tr46:trFn Try.prog false 46 Try.f46=some g46:=by kernel_rfl
def c47r0:LO:=[oBx 1 0,oP 2 aZ []]
def c47r1:LO:=[oFa 5 0 1,oLo 6 5,oFa 7 1 1,oLo 8 7,oFa 9 2 1,oLo 10 9,oP 11 (bZ [0,1,2]) [.t 6,.t 8,.t 10],oP 3 aZ [],oSf 3 11]
def c47r2:LO:=[oP 4 .mv [cIn 0]]
def c47r3:LO:=[oMv 12 4,oFa 13 3 1,oLo 14 13,oUn 15 .len 14,oBi 16 .lss 12 15]
def c47k4:ACode:=kEx 16 0
def c47r5:LO:=[oFa 19 3 3,oLo 20 19,oFa 21 3 1,oLo 22 21,oMv 23 4,oIa 24 22 23,oLf 25 24,oP 26 .callp [cFn 47,.t 25],oUn 27 (.bslicep (some 4)) 26,oP 28 (.append (some 4)) [.t 20,.t 27],oFa 29 3 3,oSo 29 28]
def c47k6:ACode:=.block 1 (.seq (.settle []) (rT c47r5 [1,2,3,4]))
def c47r7:LO:=[oMv 17 4,oBc 18 .add 17 1,oMv 4 18]
def c47b8:ACode:=.seq (.seq (rT c47r3 [1,2,3,4,16]) c47k4) (.seq c47k6 (rT c47r7 [1,2,3,4]))
def c47k9:ACode:=.block 0 (.loop [1,2,3,4] c47b8)
def c47r10:LO:=[oLf 30 3,oSf 2 30]
def c47:ACode:=.seq (rT c47r0 [1,2]) (.seq (rT c47r1 [1,2,3]) (.seq (.seq (rT c47r2 [1,2,3,4]) c47k9) (.seq (rT c47r10 [2]) .ret)))
def g47:AFn:=⟨1,[(2,some (some 4))],c47,false,[],[],none⟩
theorem tr47:trFn Try.prog false 47 Try.f47=some g47:=by kernel_rfl
def c48r0:LO:=[oBx 4 1,oP 6 .mv [cIn 0],oP 7 .mv [cBo false]]
def c48r1:LO:=[oMv 12 0,oUn 13 .len 12,oMv 8 13]
def c48r2:LO:=[oMv 14 8,oP 9 .mv [cIn 0],oMv 10 14]
def c48r3:LO:=[oMv 15 9,oMv 16 10,oBi 17 .lss 15 16]
def c48k4:ACode:=kEx 17 0
def c48r5:LO:=[oMv 18 9,oMv 19 10,oBi 20 .add 18 19,oUn 21 (.conv .u64) 20,oP 22 (.bin .shr) [.t 21,.c (.pv none (.int .u64 1))],oUn 23 (.conv .i64) 22,oMv 11 23]
def c48r6:LO:=[oMv 24 2,oMv 25 0,oMv 26 11,oIa 27 25 26,oLf 28 27,oLf 29 4,oP 30 .call [.t 24,.t 28,.t 29],oBc 31 .lss 30 0]
def c48r7:LO:=[oMv 32 11,oBc 33 .add 32 1,oMv 9 33]
def c48r8:LO:=[oMv 34 11,oMv 10 34]
def c48k9:ACode:=.cond (.t 31) (rT c48r7 [0,2,4,8,9,10]) (rT c48r8 [0,2,4,8,9,10])
def c48k10:ACode:=.block 1 (.seq (rT c48r5 [0,2,4,8,9,10,11]) (.seq (rT c48r6 [0,2,4,8,9,10,11,31]) c48k9))
def c48b11:ACode:=.seq (.seq (rT c48r3 [0,2,4,8,9,10,17]) c48k4) c48k10
def c48k12:ACode:=.block 0 (.loop [0,2,4,8,9,10] c48b11)
def c48r13:LO:=[oMv 35 9,oMv 36 9,oMv 37 8,oBi 38 .lss 36 37,oMv 39 38,oG 40 .mv [.t 2] 39 true,oG 41 .mv [.t 0] 39 true,oG 42 .mv [.t 9] 39 true,oG 43 (.iaddr (some 4)) [.t 41,.t 42] 39 true,oG 44 (.load (some 4)) [.t 43] 39 true,
 oG 45 (.load (some 4)) [.t 4] 39 true,oG 46 .call [.t 40,.t 44,.t 45] 39 true,oG 47 (.bin .eql) [.t 46,cIn 0] 39 true,oP 48 .pick [.t 39,.t 47,cBo false],oMv 6 35,oMv 7 48]
def c48:ACode:=.seq (rT c48r0 [0,2,4]) (.seq (rT c48r1 [0,2,4,8]) (.seq (rT c48r2 [0,2,4,8,9,10]) (.seq c48k12 (.seq (.region false c48r13 [6,7]) .ret))))
def g48:AFn:=⟨3,[(6,none),(7,none)],c48,false,[],[],none⟩
theorem tr48:trFn Try.prog false 48 Try.f48=some g48:=by kernel_rfl
def c49r0:LO:=[oBx 2 0,oBx 3 1,oP 4 .mv [cBo false]]
def c49r1:LO:=[oFa 6 0 2,oLo 7 6,oFa 8 0 3,oLo 9 8,oBi 10 .neq 7 9,oMv 11 10,oG 12 (.faddr 1) [.t 2] 11 false,oG 13 (.load none) [.t 12] 11 false,oG 14 (.faddr 1) [.t 3] 11 false,oG 15 (.load none) [.t 14] 11 false,oG 16 (.bin .neq) [.t 13,.t 15] 11 false,
 oP 17 .pick [.t 11,cBo true,.t 16],oMv 18 17,oG 19 (.faddr 2) [.t 2] 18 false,oG 20 (.load none) [.t 19] 18 false,oG 21 (.faddr 2) [.t 3] 18 false,oG 22 (.load none) [.t 21] 18 false,oG 23 (.bin .neq) [.t 20,.t 22] 18 false,
 oP 24 .pick [.t 18,cBo true,.t 23],oMv 25 24,oG 26 (.faddr 3) [.t 2] 25 false,oG 27 (.load none) [.t 26] 25 false,oG 28 .len [.t 27] 25 false,oG 29 (.faddr 3) [.t 3] 25 false,oG 30 (.load none) [.t 29] 25 false,oG 31 .len [.t 30] 25 false,
 oG 32 (.bin .neq) [.t 28,.t 31] 25 false,oP 33 .pick [.t 25,cBo true,.t 32]]
def c49r2:LO:=[oP 4 .mv [cBo false]]
def c49k3:ACode:=kRt 33 c49r2 [4]
def c49r4:LO:=[oP 5 .mv [cIn 0]]
def c49r5:LO:=[oMv 34 5,oFa 35 3 2,oLo 36 35,oUn 37 .len 36,oBi 38 .lss 34 37]
def c49k6:ACode:=kEx 38 0
def c49r7:LO:=[oFa 41 3 2,oLo 42 41,oMv 43 5,oIa 44 42 43,oLf 45 44,oFa 46 3 3,oLo 47 46,oMv 48 5,oIa 49 47 48,oLf 50 49,oCl 51 49 [.t 45,.t 50],oUn 52 .not 51]
def c49r8:LO:=[oP 4 .mv [cBo false]]
def c49k9:ACode:=kRt 52 c49r8 [4]
def c49k10:ACode:=.block 1 (.seq (rT c49r7 [2,3,5,52]) c49k9)
def c49r11:LO:=[oMv 39 5,oBc 40 .add 39 1,oMv 5 40]
def c49b12:ACode:=.seq (.seq (rT c49r5 [2,3,5,38]) c49k6) (.seq c49k10 (rT c49r11 [2,3,5]))
def c49k13:ACode:=.block 0 (.loop [2,3,5] c49b12)
def c49r14:LO:=[oP 4 .mv [cBo true]]
def c49:ACode:=.seq (rT c49r0 [2,3]) (.seq (.seq (rT c49r1 [2,3,33]) c49k3) (.seq (.seq (rT c49r4 [2,3,5]) c49k13) (.seq (rT c49r14 [4]) .ret)))
def g49:AFn:=⟨2,[(4,none)],c49,false,[],[],none⟩
theorem tr49:trFn Try.prog false 49 Try.f49=some g49:=by kernel_rfl
def c50r0:LO:=[oBx 1 0,oP 2 .mv [cIn 0]]
def c50r1:LO:=[oLf 3 1,oCl 4 62 [.t 3,cIn 2001],oMv 2 4]
def c50:ACode:=.seq (rT c50r0 [1]) (.seq (rT c50r1 [2]) .ret)
def g50:AFn:=⟨1,[(2,none)],c50,false,[],[],none⟩
theorem tr50:trFn Try.prog false 50 Try.f50=some g50:=by kernel_rfl
def c51r0:LO:=[oBx 1 0,oP 2 .mv [cBo false]]
def c51r1:LO:=[oLf 4 1,oCl 5 63 [.t 4],oUn 6 .not 5]
def c51r2:LO:=[oP 2 .mv [cBo false]]
def c51k3:ACode:=kRt 6 c51r2 [2]
def c51r4:LO:=[oP 3 .mv [cIn 0]]
def c51r5:LO:=[oMv 7 3,oFa 8 3 1,oLo 9 8,oUn 10 .len 9,oBi 11 .lss 7 10]
def c51k6:ACode:=kEx 11 0
def c51r7:LO:=[oFa 14 3 1,oLo 15 14,oMv 16 3,oIa 17 15 16,oLf 18 17,oCl 19 51 [.t 18],oUn 20 .not 19]
def c51r8:LO:=[oP 2 .mv [cBo false]]
def c51k9:ACode:=kRt 20 c51r8 [2]
def c51k10:ACode:=.block 1 (.seq (rT c51r7 [1,3,20]) c51k9)
def c51r11:LO:=[oMv 12 3,oBc 13 .add 12 1,oMv 3 13]
def c51b12:ACode:=.seq (.seq (rT c51r5 [1,3,11]) c51k6) (.seq c51k10 (rT c51r11 [1,3]))
def c51k13:ACode:=.block 0 (.loop [1,3] c51b12)
def c51r14:LO:=[oP 2 .mv [cBo true]]
def c51:ACode:=.seq (rT c51r0 [1]) (.seq (.seq (rT c51r1 [1,6]) c51k3) (.seq (.seq (rT c51r4 [1,3]) c51k13) (.seq (rT c51r14 [2]) .ret)))
def g51:AFn:=⟨1,[(2,none)],c51,false,[],[],none⟩
theorem tr51:trFn Try.prog false 51 Try.f51=some g51:=by kernel_rfl
def c52r0:LO:=[oBx 1 0,oP 2 .mv [cIn 0]]
def c52r1:LO:=[oP 3 (.alloc none (.pv none (.int .i64 0))) [],⟨none,(.store none),[.t 3,cIn 2001],none⟩]
def c52r2:LO:=[oP 4 (.alloc none (.pv none .nilfunc)) []]
def c52r3:LO:=[oP 5 (.mkfunc (.func 64) 0) [.t 3,.t 4],oSo 4 5]
def c52r4:LO:=[oLo 6 4,oLf 7 1,oP 8 .call [.t 6,.t 7]]
def c52r5:LO:=[oLo 9 3,oP 10 (.bin .sub) [cIn 2001,.t 9],oMv 2 10]
def c52:ACode:=.seq (rT c52r0 [1]) (.seq (rT c52r1 [1,3]) (.seq (rT c52r2 [1,3,4]) (.seq (rT c52r3 [1,3,4]) (.seq (rT c52r4 [3]) (.seq (rT c52r5 [2]) .ret)))))
def g52:AFn:=⟨1,[(2,none)],c52,false,[],[],none⟩
theorem tr52:trFn Try.prog false 52 Try.f52=some g52:=by kernel_rfl
def c53r0:LO:=[oBx 1 0,oP 2 .mv [cBo false]]
def c53r1:LO:=[oP 3 .mv [cBo false]]
def c53r2:LO:=[oFa 5 0 1,oLo 6 5]
def c53r3:LO:=[oBc 8 .eql 6 0,oMv 7 8]
def c53r4:LO:=[oFa 9 1 1,oLo 10 9,oBc 11 .geq 10 0,oMv 12 11,oG 13 (.faddr 1) [.t 1] 12 true,oG 14 (.load none) [.t 13] 12 true,oG 15 (.bin .leq) [.t 14,cIn 1099511627776] 12 true,oP 16 .pick [.t 12,.t 15,cBo false],
 oMv 17 16,oG 18 (.faddr 2) [.t 1] 17 true,oG 19 (.load none) [.t 18] 17 true,oG 20 (.bin .eql) [.t 19,cSt []] 17 true,oP 21 .pick [.t 17,.t 20,cBo false],oMv 22 21,oG 23 (.faddr 3) [.t 1] 22 true,oG 24 (.load none) [.t 23] 22 true,
 oG 25 .len [.t 24] 22 true,oG 26 (.bin .eql) [.t 25,cIn 0] 22 true,oP 27 .pick [.t 22,.t 26,cBo false],oMv 3 27]
def c53r5:LO:=[oBc 29 .eql 6 1,oMv 28 29]
def c53r6:LO:=[oFa 30 2 1,oLo 31 30,oP 32 (.bin .eql) [.t 31,cSt []],oMv 33 32,oG 34 (.faddr 3) [.t 1] 33 true,oG 35 (.load none) [.t 34] 33 true,oG 36 .len [.t 35] 33 true,oG 37 (.bin .eql) [.t 36,cIn 0] 33 true,oP 38 .pick [.t 33,.t 37,cBo false],
 oMv 3 38]
def c53r7:LO:=[oBc 40 .eql 6 2,oMv 39 40]
def c53r8:LO:=[oFa 41 1 1,oLo 42 41,oBc 43 .eql 42 0,oMv 44 43,oG 45 (.faddr 2) [.t 1] 44 true,oG 46 (.load none) [.t 45] 44 true,oG 47 .slen [.t 46] 44 true,oG 48 (.bin .leq) [.t 47,cIn 100] 44 true,oP 49 .pick [.t 44,.t 48,cBo false],
 oMv 50 49,oG 51 (.faddr 3) [.t 1] 50 true,oG 52 (.load none) [.t 51] 50 true,oG 53 .len [.t 52] 50 true,oG 54 (.bin .eql) [.t 53,cIn 0] 50 true,oP 55 .pick [.t 50,.t 54,cBo false],oMv 3 55]
def c53r9:LO:=[oBc 57 .eql 6 3,oMv 56 57]
def c53r10:LO:=[oFa 58 1 1,oLo 59 58,oBc 60 .eql 59 0,oMv 61 60,oG 62 (.faddr 2) [.t 1] 61 true,oG 63 (.load none) [.t 62] 61 true,oG 64 .slen [.t 63] 61 true,oG 65 (.bin .leq) [.t 64,cIn 100] 61 true,oP 66 .pick [.t 61,.t 65,cBo false],
 oMv 67 66,oG 68 (.faddr 3) [.t 1] 67 true,oG 69 (.load none) [.t 68] 67 true,oG 70 .len [.t 69] 67 true,oG 71 (.bin .gtr) [.t 70,cIn 0] 67 true,oP 72 .pick [.t 67,.t 71,cBo false],oMv 73 72,oG 74 (.faddr 3) [.t 1] 73 true,
 oG 75 (.load none) [.t 74] 73 true,oG 76 .len [.t 75] 73 true,oG 77 (.bin .leq) [.t 76,cIn 8] 73 true,oP 78 .pick [.t 73,.t 77,cBo false],oMv 3 78]
def c53k11:ACode:=.cond (.t 56) (rT c53r10 [1,3]) .skip
def c53k12:ACode:=.cond (.t 39) (rT c53r8 [1,3]) (.seq (rT c53r9 [1,3,56]) c53k11)
def c53k13:ACode:=.cond (.t 28) (rT c53r6 [1,3]) (.seq (rT c53r7 [1,3,6,39]) c53k12)
def c53k14:ACode:=.cond (.t 7) (rT c53r4 [1,3]) (.seq (rT c53r5 [1,3,6,28]) c53k13)
def c53k15:ACode:=.block 0 (.seq (rT c53r3 [1,3,6,7]) c53k14)
def c53r16:LO:=[oP 4 .mv [cIn 0]]
def c53r17:LO:=[oMv 79 4,oFa 80 3 1,oLo 81 80,oUn 82 .len 81,oBi 83 .lss 79 82,oMv 84 83,oG 85 .mv [.t 3] 84 true,oP 86 .pick [.t 84,.t 85,cBo false]]
def c53k18:ACode:=kEx 86 1
def c53r19:LO:=[oFa 89 3 1,oLo 90 89,oMv 91 4,oIa 92 90 91,oLf 93 92,oCl 94 53 [.t 93],oMv 3 94]
def c53k20:ACode:=.block 2 (rT c53r19 [1,3,4])
def c53r21:LO:=[oMv 87 4,oBc 88 .add 87 1,oMv 4 88]
def c53b22:ACode:=.seq (.seq (rT c53r17 [1,3,4,86]) c53k18) (.seq c53k20 (rT c53r21 [1,3,4]))
def c53k23:ACode:=.block 1 (.loop [1,3,4] c53b22)
def c53r24:LO:=[oMv 95 3,oMv 2 95]
def c53:ACode:=.seq (rT c53r0 [1]) (.seq (rT c53r1 [1,3]) (.seq (.seq (rT c53r2 [1,3,6]) c53k15) (.seq (.seq (rT c53r16 [1,3,4]) c53k23) (.seq (rT c53r24 [2]) .ret))))
def g53:AFn:=⟨1,[(2,none)],c53,false,[],[],none⟩
theorem tr53:trFn Try.prog false 53 Try.f53=some g53:=by kernel_rfl
def c54r0:LO:=[oP 4 .mv [cIn 0]]
def c54r1:LO:=[oMv 7 0,oCl 8 65 [.t 7],oMv 5 8]
def c54r2:LO:=[oMv 9 1,oCl 10 65 [.t 9],oMv 6 10]
def c54r3:LO:=[oMv 11 5]
def c54r4:LO:=[oMv 12 6]
def c54r5:LO:=[oP 4 .mv [cIn 0]]
def c54k6:ACode:=kRt 12 c54r5 [4]
def c54r7:LO:=[oP 4 .mv [.c (.pv none (.int .i64 (-1)))]]
def c54k8:ACode:=.cond (.t 11) (.seq (.seq (rT c54r4 [12]) c54k6) (.seq (rT c54r7 [4]) .ret)) .skip
def c54r9:LO:=[oMv 13 6]
def c54r10:LO:=[oP 4 .mv [cIn 1]]
def c54k11:ACode:=kRt 13 c54r10 [4]
def c54r12:LO:=[oMv 14 0,oMv 15 1,oBi 16 .lss 14 15]
def c54r13:LO:=[oP 4 .mv [.c (.pv none (.int .i64 (-1)))]]
def c54k14:ACode:=kRt 16 c54r13 [4]
def c54r15:LO:=[oMv 17 0,oMv 18 1,oBi 19 .gtr 17 18]
def c54r16:LO:=[oP 4 .mv [cIn 1]]
def c54k17:ACode:=kRt 19 c54r16 [4]
def c54r18:LO:=[oP 4 .mv [cIn 0]]
def c54:ACode:=.seq (rT c54r0 [0,1]) (.seq (rT c54r1 [0,1,5]) (.seq (rT c54r2 [0,1,5,6]) (.seq (.seq (rT c54r3 [0,1,6,11]) c54k8) (.seq (.seq (rT c54r9 [0,1,13]) c54k11) (.seq (.seq (rT c54r12 [0,1,16]) c54k14) (.seq (.seq (rT c54r15 [19]) c54k17) (.seq (rT c54r18 [4]) .ret)))))))
def g54:AFn:=⟨2,[(4,none)],c54,false,[],[],none⟩
theorem tr54:trFn Try.prog false 54 Try.f54=some g54:=by kernel_rfl
def c55r0:LO:=[oP 4 .mv [cIn 0]]
def c55r1:LO:=[oMv 7 0,oCl 8 66 [.t 7],oMv 5 8]
def c55r2:LO:=[oMv 9 1,oCl 10 66 [.t 9],oMv 6 10]
def c55r3:LO:=[oMv 11 5]
def c55r4:LO:=[oMv 12 6]
def c55r5:LO:=[oP 4 .mv [cIn 0]]
def c55k6:ACode:=kRt 12 c55r5 [4]
def c55r7:LO:=[oP 4 .mv [.c (.pv none (.int .i64 (-1)))]]
def c55k8:ACode:=.cond (.t 11) (.seq (.seq (rT c55r4 [12]) c55k6) (.seq (rT c55r7 [4]) .ret)) .skip
def c55r9:LO:=[oMv 13 6]
def c55r10:LO:=[oP 4 .mv [cIn 1]]
def c55k11:ACode:=kRt 13 c55r10 [4]
def c55r12:LO:=[oMv 14 0,oMv 15 1,oBi 16 .lss 14 15]
def c55r13:LO:=[oP 4 .mv [.c (.pv none (.int .i64 (-1)))]]
def c55k14:ACode:=kRt 16 c55r13 [4]
def c55r15:LO:=[oMv 17 0,oMv 18 1,oBi 19 .gtr 17 18]
def c55r16:LO:=[oP 4 .mv [cIn 1]]
def c55k17:ACode:=kRt 19 c55r16 [4]
def c55r18:LO:=[oP 4 .mv [cIn 0]]
def c55:ACode:=.seq (rT c55r0 [0,1]) (.seq (rT c55r1 [0,1,5]) (.seq (rT c55r2 [0,1,5,6]) (.seq (.seq (rT c55r3 [0,1,6,11]) c55k8) (.seq (.seq (rT c55r9 [0,1,13]) c55k11) (.seq (.seq (rT c55r12 [0,1,16]) c55k14) (.seq (.seq (rT c55r15 [19]) c55k17) (.seq (rT c55r18 [4]) .ret)))))))
def g55:AFn:=⟨2,[(4,none)],c55,false,[],[],none⟩
theorem tr55:trFn Try.prog false 55 Try.f55=some g55:=by kernel_rfl
def c56r0:LO:=[oP 4 .mv [cIn 0]]
def c56r1:LO:=[oMv 5 0,oMv 6 1,oCl 7 67 [.t 5,.t 6],oMv 4 7]
def c56:ACode:=.seq (rT c56r0 [0,1]) (.seq (rT c56r1 [4]) .ret)
def g56:AFn:=⟨2,[(4,none)],c56,false,[],[],none⟩
theorem tr56:trFn Try.prog false 56 Try.f56=some g56:=by kernel_rfl
def c57r0:LO:=[oP 4 .mv [cIn 0]]
def c57r1:LO:=[oMv 5 0,oMv 6 1,oBi 7 .lss 5 6]
def c57r2:LO:=[oP 4 .mv [.c (.pv none (.int .i64 (-1)))]]
def c57k3:ACode:=kRt 7 c57r2 [4]
def c57r4:LO:=[oMv 8 0,oMv 9 1,oBi 10 .gtr 8 9]
def c57r5:LO:=[oP 4 .mv [cIn 1]]
def c57k6:ACode:=kRt 10 c57r5 [4]
def c57r7:LO:=[oP 4 .mv [cIn 0]]
def c57:ACode:=.seq (rT c57r0 [0,1]) (.seq (.seq (rT c57r1 [0,1,7]) c57k3) (.seq (.seq (rT c57r4 [10]) c57k6) (.seq (rT c57r7 [4]) .ret)))
def g57:AFn:=⟨2,[(4,none)],c57,false,[],[],none⟩
theorem tr57:trFn Try.prog false 57 Try.f57=some g57:=by kernel_rfl
def c58r0:LO:=[oP 4 .mv [cIn 0]]
def c58r1:LO:=[oP 5 .mv [cIn 0]]
def c58r2:LO:=[oMv 6 5,oMv 7 0,oUn 8 .slen 7,oBi 9 .lss 6 8,oMv 10 9,oG 11 .mv [.t 5] 10 true,oG 12 .mv [.t 1] 10 true,oG 13 .slen [.t 12] 10 true,oG 14 (.bin .lss) [.t 11,.t 13] 10 true,oP 15 .pick [.t 10,.t 14,cBo false]]
def c58k3:ACode:=kEx 15 0
def c58r4:LO:=[oMv 18 0,oMv 19 5,oP 20 .sindex [.t 18,.t 19],oMv 21 1,oMv 22 5,oP 23 .sindex [.t 21,.t 22],oBi 24 .lss 20 23]
def c58r5:LO:=[oP 4 .mv [.c (.pv none (.int .i64 (-1)))]]
def c58k6:ACode:=kRt 24 c58r5 [4]
def c58r7:LO:=[oMv 25 0,oMv 26 5,oP 27 .sindex [.t 25,.t 26],oMv 28 1,oMv 29 5,oP 30 .sindex [.t 28,.t 29],oBi 31 .gtr 27 30]
def c58r8:LO:=[oP 4 .mv [cIn 1]]
def c58k9:ACode:=kRt 31 c58r8 [4]
def c58k10:ACode:=.block 1 (.seq (.seq (rT c58r4 [0,1,5,24]) c58k6) (.seq (rT c58r7 [0,1,5,31]) c58k9))
def c58r11:LO:=[oMv 16 5,oBc 17 .add 16 1,oMv 5 17]
def c58b12:ACode:=.seq (.seq (rT c58r2 [0,1,5,15]) c58k3) (.seq c58k10 (rT c58r11 [0,1,5]))
def c58k13:ACode:=.block 0 (.loop [0,1,5] c58b12)
def c58r14:LO:=[oMv 32 0,oUn 33 .slen 32,oMv 34 1,oUn 35 .slen 34,oCl 36 57 [.t 33,.t 35],oMv 4 36]
def c58:ACode:=.seq (rT c58r0 [0,1]) (.seq (.seq (rT c58r1 [0,1,5]) c58k13) (.seq (rT c58r14 [4]) .ret))
def g58:AFn:=⟨2,[(4,none)],c58,false,[],[],none⟩
theorem tr58:trFn Try.prog false 58 Try.f58=some g58:=by kernel_rfl
def c59r0:LO:=[oBx 1 0,oP 2 aZ []]
def c59r1:LO:=[oLf 3 1,oCl 4 36 [.t 3],oUn 5 .not 4]
def c59r2:LO:=[oP 6 (bZ []) [],oSf 2 6]
def c59k3:ACode:=kRt 5 c59r2 [2]
def c59r4:LO:=[oLf 7 1,oCl 8 68 [.t 7,cFn 69],oSf 2 8]
def c59:ACode:=.seq (rT c59r0 [1,2]) (.seq (.seq (rT c59r1 [1,2,5]) c59k3) (.seq (rT c59r4 [2]) .ret))
def g59:AFn:=⟨1,[(2,some (some 4))],c59,true,[],[],none⟩
theorem tr59:trFn Try.prog true 59 Try.f59=some g59:=by kernel_rfl
def c60r0:LO:=[oMv 4 0,oMv 5 0,oUn 6 .len 5,oMv 7 1,oCl 8 70 [.t 4,.t 6,.t 7]]
def c60:ACode:=rT c60r0 []
def g60:AFn:=⟨2,[],c60,true,[],[],none⟩
theorem tr60:trFn Try.prog true 60 Try.f60=some g60:=by kernel_rfl
def c61r0:LO:=[oBx 2 0,oP 4 aZ []]
def c61r1:LO:=[oMv 5 1]
def c61r2:LO:=[oFa 6 3 2,oLo 7 6,oP 8 (.iaddr (some 4)) [.t 7,cIn 0],oLf 9 8,oSf 4 9]
def c61k3:ACode:=kRt 5 c61r2 [4]
def c61r4:LO:=[oLf 10 2,oSf 4 10]
def c61:ACode:=.seq (rT c61r0 [1,2,4]) (.seq (.seq (rT c61r1 [2,4,5]) c61k3) (.seq (rT c61r4 [4]) .ret))
def g61:AFn:=⟨2,[(4,some (some 4))],c61,false,[],[],none⟩
theorem tr61:trFn Try.prog false 61 Try.f61=some g61:=by kernel_rfl
def c62r0:LO:=[oBx 2 0,oP 4 .mv [cIn 0]]
def c62r1:LO:=[oP 5 .mv [cIn 1]]
def c62r2:LO:=[oP 6 .mv [cIn 0]]
def c62r3:LO:=[oMv 7 6,oFa 8 3 2,oLo 9 8,oUn 10 .len 9,oBi 11 .lss 7 10,oMv 12 11,oG 13 .mv [.t 5] 12 true,oG 14 .mv [.t 1] 12 true,oG 15 (.bin .lss) [.t 13,.t 14] 12 true,oP 16 .pick [.t 12,.t 15,cBo false]]
def c62k4:ACode:=kEx 16 0
def c62r5:LO:=[oMv 19 5,oFa 20 3 2,oLo 21 20,oMv 22 6,oIa 23 21 22,oLf 24 23,oMv 25 1,oMv 26 5,oBi 27 .sub 25 26,oCl 28 62 [.t 24,.t 27],oBi 29 .add 19 28,oMv 5 29]
def c62k6:ACode:=.block 1 (rT c62r5 [1,2,5,6])
def c62r7:LO:=[oMv 17 6,oBc 18 .add 17 1,oMv 6 18]
def c62b8:ACode:=.seq (.seq (rT c62r3 [1,2,5,6,16]) c62k4) (.seq c62k6 (rT c62r7 [1,2,5,6]))
def c62k9:ACode:=.block 0 (.loop [1,2,5,6] c62b8)
def c62r10:LO:=[oMv 30 5,oMv 4 30]
def c62:ACode:=.seq (rT c62r0 [1,2]) (.seq (rT c62r1 [1,2,5]) (.seq (.seq (rT c62r2 [1,2,5,6]) c62k9) (.seq (rT c62r10 [4]) .ret)))
def g62:AFn:=⟨2,[(4,none)],c62,false,[],[],none⟩
theorem tr62:trFn Try.prog false 62 Try.f62=some g62:=by kernel_rfl
def c63r0:LO:=[oBx 1 0,oP 2 .mv [cBo false]]
def c63r1:LO:=[oFa 3 0 1,oLo 4 3]
def c63r2:LO:=[oBc 6 .eql 4 0,oMv 5 6]
def c63r3:LO:=[oFa 7 1 1,oLo 8 7,oBc 9 .geq 8 0,oMv 10 9,oG 11 (.faddr 1) [.t 1] 10 true,oG 12 (.load none) [.t 11] 10 true,oG 13 (.bin .leq) [.t 12,cIn 1099511627776] 10 true,oP 14 .pick [.t 10,.t 13,cBo false],oMv 15 14,
 oG 16 (.faddr 2) [.t 1] 15 true,oG 17 (.load none) [.t 16] 15 true,oG 18 (.bin .eql) [.t 17,cSt []] 15 true,oP 19 .pick [.t 15,.t 18,cBo false],oMv 20 19,oG 21 (.faddr 3) [.t 1] 20 true,oG 22 (.load none) [.t 21] 20 true,
 oG 23 .len [.t 22] 20 true,oG 24 (.bin .eql) [.t 23,cIn 0] 20 true,oP 25 .pick [.t 20,.t 24,cBo false],oMv 2 25]
def c63r4:LO:=[oBc 27 .eql 4 1,oMv 26 27]
def c63r5:LO:=[oFa 28 2 1,oLo 29 28,oP 30 (.bin .eql) [.t 29,cSt []],oMv 31 30,oG 32 (.faddr 3) [.t 1] 31 true,oG 33 (.load none) [.t 32] 31 true,oG 34 .len [.t 33] 31 true,oG 35 (.bin .eql) [.t 34,cIn 0] 31 true,oP 36 .pick [.t 31,.t 35,cBo false],
 oMv 2 36]
def c63r6:LO:=[oBc 38 .eql 4 2,oMv 37 38]
def c63r7:LO:=[oFa 39 1 1,oLo 40 39,oBc 41 .eql 40 0,oMv 42 41,oG 43 (.faddr 2) [.t 1] 42 true,oG 44 (.load none) [.t 43] 42 true,oG 45 .slen [.t 44] 42 true,oG 46 (.bin .leq) [.t 45,cIn 100] 42 true,oP 47 .pick [.t 42,.t 46,cBo false],
 oMv 48 47,oG 49 (.faddr 3) [.t 1] 48 true,oG 50 (.load none) [.t 49] 48 true,oG 51 .len [.t 50] 48 true,oG 52 (.bin .eql) [.t 51,cIn 0] 48 true,oP 53 .pick [.t 48,.t 52,cBo false],oMv 2 53]
def c63r8:LO:=[oBc 55 .eql 4 3,oMv 54 55]
def c63r9:LO:=[oFa 56 1 1,oLo 57 56,oBc 58 .eql 57 0,oMv 59 58,oG 60 (.faddr 2) [.t 1] 59 true,oG 61 (.load none) [.t 60] 59 true,oG 62 .slen [.t 61] 59 true,oG 63 (.bin .leq) [.t 62,cIn 100] 59 true,oP 64 .pick [.t 59,.t 63,cBo false],
 oMv 65 64,oG 66 (.faddr 3) [.t 1] 65 true,oG 67 (.load none) [.t 66] 65 true,oG 68 .len [.t 67] 65 true,oG 69 (.bin .geq) [.t 68,cIn 1] 65 true,oP 70 .pick [.t 65,.t 69,cBo false],oMv 71 70,oG 72 (.faddr 3) [.t 1] 71 true,
 oG 73 (.load none) [.t 72] 71 true,oG 74 .len [.t 73] 71 true,oG 75 (.bin .leq) [.t 74,cIn 8] 71 true,oP 76 .pick [.t 71,.t 75,cBo false],oMv 2 76]
def c63k10:ACode:=kRt 54 c63r9 [2]
def c63k11:ACode:=.cond (.t 37) (.seq (rT c63r7 [2]) .ret) (.seq (rT c63r8 [1,54]) c63k10)
def c63k12:ACode:=.cond (.t 26) (.seq (rT c63r5 [2]) .ret) (.seq (rT c63r6 [1,4,37]) c63k11)
def c63k13:ACode:=.cond (.t 5) (.seq (rT c63r3 [2]) .ret) (.seq (rT c63r4 [1,4,26]) c63k12)
def c63k14:ACode:=.block 0 (.seq (rT c63r2 [1,4,5]) c63k13)
def c63r15:LO:=[oP 2 .mv [cBo false]]
def c63:ACode:=.seq (rT c63r0 [1]) (.seq (.seq (rT c63r1 [1,4]) c63k14) (.seq (rT c63r15 [2]) .ret))
def g63:AFn:=⟨1,[(2,none)],c63,false,[],[],none⟩
theorem tr63:trFn Try.prog false 63 Try.f63=some g63:=by kernel_rfl
def c64r0:LO:=[oBx 3 0]
def c64r1:LO:=[oLo 5 1,oBc 6 .sub 5 1,oSo 1 6]
def c64r2:LO:=[oP 4 .mv [cIn 0]]
def c64r3:LO:=[oMv 7 4,oFa 8 3 3,oLo 9 8,oUn 10 .len 9,oBi 11 .lss 7 10,oMv 12 11,oG 13 (.load none) [.t 1] 12 true,oG 14 (.bin .gtr) [.t 13,cIn 0] 12 true,oP 15 .pick [.t 12,.t 14,cBo false]]
def c64k4:ACode:=kEx 15 0
def c64r5:LO:=[oLo 18 2,oFa 19 3 3,oLo 20 19,oMv 21 4,oIa 22 20 21,oLf 23 22,oP 24 .call [.t 18,.t 23]]
def c64k6:ACode:=.block 1 (rT c64r5 [1,2,3,4])
def c64r7:LO:=[oMv 16 4,oBc 17 .add 16 1,oMv 4 17]
def c64b8:ACode:=.seq (.seq (rT c64r3 [1,2,3,4,15]) c64k4) (.seq c64k6 (rT c64r7 [1,2,3,4]))
def c64k9:ACode:=.block 0 (.loop [1,2,3,4] c64b8)
def c64:ACode:=.seq (rT c64r0 [1,2,3]) (.seq (rT c64r1 [1,2,3]) (.seq (rT c64r2 [1,2,3,4]) c64k9))
def g64:AFn:=⟨3,[],c64,true,[],[],none⟩
theorem tr64:trFn Try.prog true 64 Try.f64=some g64:=by kernel_rfl
def c65r0:LO:=[oP 2 .mv [cBo false]]
def c65r1:LO:=[oMv 3 0,oMv 4 0,oBi 5 .neq 3 4,oMv 2 5]
def c65:ACode:=.seq (rT c65r0 [0]) (.seq (rT c65r1 [2]) .ret)
def g65:AFn:=⟨1,[(2,none)],c65,false,[],[],none⟩
theorem tr65:trFn Try.prog false 65 Try.f65=some g65:=by kernel_rfl
def c66r0:LO:=[oP 2 .mv [cBo false]]
def c66r1:LO:=[oMv 3 0,oMv 4 0,oBi 5 .neq 3 4,oMv 2 5]
def c66:ACode:=.seq (rT c66r0 [0]) (.seq (rT c66r1 [2]) .ret)
def g66:AFn:=⟨1,[(2,none)],c66,false,[],[],none⟩
theorem tr66:trFn Try.prog false 66 Try.f66=some g66:=by kernel_rfl
def c67r0:LO:=[oP 4 .mv [cIn 0]]
def c67r1:LO:=[oMv 5 0,oMv 6 1,oCl 7 71 [.t 5,.t 6],oMv 4 7]
def c67:ACode:=.seq (rT c67r0 [0,1]) (.seq (rT c67r1 [4]) .ret)
def g67:AFn:=⟨2,[(4,none)],c67,false,[],[],none⟩
theorem tr67:trFn Try.prog false 67 Try.f67=some g67:=by kernel_rfl
def c68r0:LO:=[oBx 2 0,oP 4 aZ []]
def c68r1:LO:=[oFa 8 0 2,oLo 9 8,oBc 10 .eql 9 0]
def c68r2:LO:=[oMv 11 1,oLf 12 2,oP 13 .call [.t 11,.t 12],oSf 4 13]
def c68k3:ACode:=kRt 10 c68r2 [4]
def c68r4:LO:=[oFa 14 0 2,oLo 15 14,oFa 16 1 2,oLo 17 16,oFa 18 2 2,oLo 19 18,oP 20 (bZ [0,1,2]) [.t 15,.t 17,.t 19],oP 5 aZ [],oSf 5 20]
def c68r5:LO:=[oFa 21 3 2,oLo 22 21,oUn 23 .len 22,oP 24 .mv [cIn 0]]
def c68r6:LO:=[oBi 25 .lss 24 23]
def c68k7:ACode:=kEx 25 0
def c68r8:LO:=[oIa 26 22 24,oLf 27 26,oP 7 aZ [],oSf 7 27]
def c68r9:LO:=[oFa 28 3 5,oLo 29 28,oLf 30 7,oMv 31 1,oP 32 (.calln 1) [.t 28,cFn 68,.t 30,.t 31],oP 33 (.bslicen (some 4) 1) [.t 28,.t 32],oP 34 (.append (some 4)) [.t 29,.t 33],oFa 35 3 5,oSo 35 34]
def c68k10:ACode:=.block 1 (.seq (rT c68r8 [1,4,5,7,22,23,24]) (.region false c68r9 [1,4,5,22,23,24]))
def c68r11:LO:=[oBc 36 .add 24 1,oMv 24 36]
def c68b12:ACode:=.seq (rT c68r6 [1,4,5,22,23,24,25]) (.seq c68k7 (.seq c68k10 (rT c68r11 [1,4,5,22,23,24])))
def c68k13:ACode:=.block 0 (.loop [1,4,5,22,23,24] c68b12)
def c68r14:LO:=[oLf 37 5,oSf 4 37]
def c68:ACode:=.seq (rT c68r0 [1,2,4]) (.seq (.seq (rT c68r1 [1,2,4,10]) c68k3) (.seq (rT c68r4 [1,2,4,5]) (.seq (.seq (rT c68r5 [1,4,5,22,23,24]) c68k13) (.seq (rT c68r14 [4]) .ret))))
def g68:AFn:=⟨2,[(4,some (some 4))],c68,true,[],[],none⟩
theorem tr68:trFn Try.prog true 68 Try.f68=some g68:=by kernel_rfl
def c69r0:LO:=[oBx 1 0,oP 2 aZ []]
def c69r1:LO:=[oLf 3 1,oSf 2 3]
def c69:ACode:=.seq (rT c69r0 [1,2]) (.seq (rT c69r1 [2]) .ret)
def g69:AFn:=⟨1,[(2,some (some 4))],c69,false,[],[],none⟩
theorem tr69:trFn Try.prog false 69 Try.f69=some g69:=by kernel_rfl
def c70r0:LO:=[oP 6 .mv [cIn 20]]
def c70r1:LO:=[oMv 10 6,oP 7 .mv [cIn 0],oMv 8 10]
def c70r2:LO:=[oMv 11 8,oMv 12 1,oBi 13 .leq 11 12]
def c70k3:ACode:=kEx 13 0
def c70r4:LO:=[oMv 14 0,oMv 15 7,oMv 16 8,oMv 17 2,oCl 18 72 [.t 14,.t 15,.t 16,.t 17]]
def c70r5:LO:=[oMv 19 8,oMv 7 19]
def c70r6:LO:=[oMv 20 8,oMv 21 6,oBi 22 .add 20 21,oMv 8 22]
def c70k7:ACode:=.block 1 (.seq (rT c70r4 [0,1,2,6,8]) (.seq (rT c70r5 [0,1,2,6,7,8]) (rT c70r6 [0,1,2,6,7,8])))
def c70b8:ACode:=.seq (.seq (rT c70r2 [0,1,2,6,7,8,13]) c70k3) c70k7
def c70k9:ACode:=.block 0 (.loop [0,1,2,6,7,8] c70b8)
def c70r10:LO:=[oMv 23 0,oMv 24 7,oMv 25 1,oMv 26 2,oCl 27 72 [.t 23,.t 24,.t 25,.t 26]]
def c70r11:LO:=[oMv 28 6,oMv 29 1,oBi 30 .lss 28 29]
def c70k12:ACode:=kEx 30 2
def c70r13:LO:=[oMv 31 6,oP 32 (.bin .mul) [cIn 2,.t 31],oP 7 .mv [cIn 0],oMv 8 32]
def c70r14:LO:=[oMv 33 8,oMv 34 1,oBi 35 .leq 33 34]
def c70k15:ACode:=kEx 35 4
def c70r16:LO:=[oMv 36 0,oMv 37 7,oMv 38 7,oMv 39 6,oBi 40 .add 38 39,oMv 41 8,oMv 42 2,oCl 43 73 [.t 36,.t 37,.t 40,.t 41,.t 42]]
def c70r17:LO:=[oMv 44 8,oMv 7 44]
def c70r18:LO:=[oMv 45 8,oMv 46 6,oP 47 (.bin .mul) [cIn 2,.t 46],oBi 48 .add 45 47,oMv 8 48]
def c70k19:ACode:=.block 5 (.seq (rT c70r16 [0,1,2,6,8]) (.seq (rT c70r17 [0,1,2,6,7,8]) (rT c70r18 [0,1,2,6,7,8])))
def c70b20:ACode:=.seq (.seq (rT c70r14 [0,1,2,6,7,8,35]) c70k15) c70k19
def c70k21:ACode:=.block 4 (.loop [0,1,2,6,7,8] c70b20)
def c70r22:LO:=[oMv 49 7,oMv 50 6,oBi 51 .add 49 50,oMv 9 51]
def c70r23:LO:=[oMv 52 9,oMv 53 1,oBi 54 .lss 52 53]
def c70r24:LO:=[oMv 55 0,oMv 56 7,oMv 57 9,oMv 58 1,oMv 59 2,oCl 60 73 [.t 55,.t 56,.t 57,.t 58,.t 59]]
def c70k25:ACode:=.cond (.t 54) (rT c70r24 [0,1,2,6]) .skip
def c70r26:LO:=[oMv 61 6,oBc 62 .mul 61 2,oMv 6 62]
def c70k27:ACode:=.block 3 (.seq (rT c70r13 [0,1,2,6,7,8]) (.seq c70k21 (.seq (.seq (rT c70r22 [0,1,2,6,7,9]) (.seq (rT c70r23 [0,1,2,6,7,9,54]) c70k25)) (rT c70r26 [0,1,2,6]))))
def c70b28:ACode:=.seq (.seq (rT c70r11 [0,1,2,6,30]) c70k12) c70k27
def c70k29:ACode:=.block 2 (.loop [0,1,2,6] c70b28)
def c70:ACode:=.seq (rT c70r0 [0,1,2,6]) (.seq (rT c70r1 [0,1,2,6,7,8]) (.seq c70k9 (.seq (rT c70r10 [0,1,2,6]) c70k29)))
def g70:AFn:=⟨3,[],c70,true,[],[],none⟩
theorem tr70:trFn Try.prog true 70 Try.f70=some g70:=by kernel_rfl
def c72r0:LO:=[oMv 10 1,oBc 11 .add 10 1,oMv 8 11]
def c72r1:LO:=[oMv 12 8,oMv 13 2,oBi 14 .lss 12 13]
def c72k2:ACode:=kEx 14 0
def c72r3:LO:=[oMv 17 8,oMv 9 17]
def c72r4:LO:=[oMv 18 9,oMv 19 1,oBi 20 .gtr 18 19,oMv 21 20,oG 22 .mv [.t 3] 21 true,oG 23 .mv [.t 0] 21 true,oG 24 .mv [.t 9] 21 true,oG 25 (.iaddr (some 4)) [.t 23,.t 24] 21 true,oG 26 (.load (some 4)) [.t 25] 21 true,
 oG 27 .mv [.t 0] 21 true,oG 28 .mv [.t 9] 21 true,oG 29 (.bin .sub) [.t 28,cIn 1] 21 true,oG 30 (.iaddr (some 4)) [.t 27,.t 29] 21 true,oG 31 (.load (some 4)) [.t 30] 21 true,oG 32 .call [.t 22,.t 26,.t 31] 21 true,oG 33 (.bin .lss) [.t 32,cIn 0] 21 true,
 oP 34 .pick [.t 21,.t 33,cBo false]]
def c72k5:ACode:=kEx 34 2
def c72r6:LO:=[oMv 37 0,oMv 38 9,oMv 39 0,oMv 40 9,oBc 41 .sub 40 1,oMv 42 0,oMv 43 9,oBc 44 .sub 43 1,oIa 45 42 44,oLf 46 45,oMv 47 0,oMv 48 9,oIa 49 47 48,oLf 50 49,oIa 51 37 38,oSf 51 46,oIa 52 39 41,oSf 52 50]
def c72k7:ACode:=.block 3 (rT c72r6 [0,1,2,3,8,9])
def c72r8:LO:=[oMv 35 9,oBc 36 .sub 35 1,oMv 9 36]
def c72b9:ACode:=.seq (.seq (rT c72r4 [0,1,2,3,8,9,34]) c72k5) (.seq c72k7 (rT c72r8 [0,1,2,3,8,9]))
def c72k10:ACode:=.block 2 (.loop [0,1,2,3,8,9] c72b9)
def c72k11:ACode:=.block 1 (.seq (rT c72r3 [0,1,2,3,8,9]) c72k10)
def c72r12:LO:=[oMv 15 8,oBc 16 .add 15 1,oMv 8 16]
def c72b13:ACode:=.seq (.seq (rT c72r1 [0,1,2,3,8,14]) c72k2) (.seq c72k11 (rT c72r12 [0,1,2,3,8]))
def c72k14:ACode:=.block 0 (.loop [0,1,2,3,8] c72b13)
def c72:ACode:=.seq (rT c72r0 [0,1,2,3,8]) c72k14
def g72:AFn:=⟨4,[],c72,true,[],[],none⟩
theorem tr72:trFn Try.prog true 72 Try.f72=some g72:=by kernel_rfl
def c73r0:LO:=[oMv 25 2,oMv 26 1,oBi 27 .sub 25 26,oBc 28 .eql 27 1]
def c73r1:LO:=[oMv 29 2,oMv 10 29]
def c73r2:LO:=[oMv 30 3,oMv 11 30]
def c73r3:LO:=[oMv 31 10,oMv 32 11,oBi 33 .lss 31 32]
def c73k4:ACode:=kEx 33 0
def c73r5:LO:=[oMv 34 10,oMv 35 11,oBi 36 .add 34 35,oUn 37 (.conv .u64) 36,oP 38 (.bin .shr) [.t 37,.c (.pv none (.int .u64 1))],oUn 39 (.conv .i64) 38,oMv 12 39]
def c73r6:LO:=[oMv 40 4,oMv 41 0,oMv 42 12,oIa 43 41 42,oLf 44 43,oMv 45 0,oMv 46 1,oIa 47 45 46,oLf 48 47,oP 49 .call [.t 40,.t 44,.t 48],oBc 50 .lss 49 0]
def c73r7:LO:=[oMv 51 12,oBc 52 .add 51 1,oMv 10 52]
def c73r8:LO:=[oMv 53 12,oMv 11 53]
def c73k9:ACode:=.cond (.t 50) (rT c73r7 [0,1,4,10,11]) (rT c73r8 [0,1,4,10,11])
def c73k10:ACode:=.block 1 (.seq (rT c73r5 [0,1,4,10,11,12]) (.seq (rT c73r6 [0,1,4,10,11,12,50]) c73k9))
def c73b11:ACode:=.seq (.seq (rT c73r3 [0,1,4,10,11,33]) c73k4) c73k10
def c73k12:ACode:=.block 0 (.loop [0,1,4,10,11] c73b11)
def c73r13:LO:=[oMv 54 1,oMv 13 54]
def c73r14:LO:=[oMv 55 13,oMv 56 10,oBc 57 .sub 56 1,oBi 58 .lss 55 57]
def c73k15:ACode:=kEx 58 2
def c73r16:LO:=[oMv 61 0,oMv 62 13,oMv 63 0,oMv 64 13,oBc 65 .add 64 1,oMv 66 0,oMv 67 13,oBc 68 .add 67 1,oIa 69 66 68,oLf 70 69,oMv 71 0,oMv 72 13,oIa 73 71 72,oLf 74 73,oIa 75 61 62,oSf 75 70,oIa 76 63 65,oSf 76 74]
def c73k17:ACode:=.block 3 (rT c73r16 [0,10,13])
def c73r18:LO:=[oMv 59 13,oBc 60 .add 59 1,oMv 13 60]
def c73b19:ACode:=.seq (.seq (rT c73r14 [0,10,13,58]) c73k15) (.seq c73k17 (rT c73r18 [0,10,13]))
def c73k20:ACode:=.block 2 (.loop [0,10,13] c73b19)
def c73k21:ACode:=.cond (.t 28) (.seq (rT c73r1 [0,1,3,4,10]) (.seq (rT c73r2 [0,1,4,10,11]) (.seq c73k12 (.seq (.seq (rT c73r13 [0,10,13]) c73k20) .ret)))) .skip
def c73r22:LO:=[oMv 77 3,oMv 78 2,oBi 79 .sub 77 78,oBc 80 .eql 79 1]
def c73r23:LO:=[oMv 81 1,oMv 14 81]
def c73r24:LO:=[oMv 82 2,oMv 15 82]
def c73r25:LO:=[oMv 83 14,oMv 84 15,oBi 85 .lss 83 84]
def c73k26:ACode:=kEx 85 4
def c73r27:LO:=[oMv 86 14,oMv 87 15,oBi 88 .add 86 87,oUn 89 (.conv .u64) 88,oP 90 (.bin .shr) [.t 89,.c (.pv none (.int .u64 1))],oUn 91 (.conv .i64) 90,oMv 16 91]
def c73r28:LO:=[oMv 92 4,oMv 93 0,oMv 94 2,oIa 95 93 94,oLf 96 95,oMv 97 0,oMv 98 16,oIa 99 97 98,oLf 100 99,oP 101 .call [.t 92,.t 96,.t 100],oBc 102 .lss 101 0,oUn 103 .not 102]
def c73r29:LO:=[oMv 104 16,oBc 105 .add 104 1,oMv 14 105]
def c73r30:LO:=[oMv 106 16,oMv 15 106]
def c73k31:ACode:=.cond (.t 103) (rT c73r29 [0,2,4,14,15]) (rT c73r30 [0,2,4,14,15])
def c73k32:ACode:=.block 5 (.seq (rT c73r27 [0,2,4,14,15,16]) (.seq (rT c73r28 [0,2,4,14,15,16,103]) c73k31))
def c73b33:ACode:=.seq (.seq (rT c73r25 [0,2,4,14,15,85]) c73k26) c73k32
def c73k34:ACode:=.block 4 (.loop [0,2,4,14,15] c73b33)
def c73r35:LO:=[oMv 107 2,oMv 17 107]
def c73r36:LO:=[oMv 108 17,oMv 109 14,oBi 110 .gtr 108 109]
def c73k37:ACode:=kEx 110 6
def c73r38:LO:=[oMv 113 0,oMv 114 17,oMv 115 0,oMv 116 17,oBc 117 .sub 116 1,oMv 118 0,oMv 119 17,oBc 120 .sub 119 1,oIa 121 118 120,oLf 122 121,oMv 123 0,oMv 124 17,oIa 125 123 124,oLf 126 125,oIa 127 113 114,oSf 127 122,
 oIa 128 115 117,oSf 128 126]
def c73k39:ACode:=.block 7 (rT c73r38 [0,14,17])
def c73r40:LO:=[oMv 111 17,oBc 112 .sub 111 1,oMv 17 112]
def c73b41:ACode:=.seq (.seq (rT c73r36 [0,14,17,110]) c73k37) (.seq c73k39 (rT c73r40 [0,14,17]))
def c73k42:ACode:=.block 6 (.loop [0,14,17] c73b41)
def c73k43:ACode:=.cond (.t 80) (.seq (rT c73r23 [0,2,4,14]) (.seq (rT c73r24 [0,2,4,14,15]) (.seq c73k34 (.seq (.seq (rT c73r35 [0,14,17]) c73k42) .ret)))) .skip
def c73r44:LO:=[oMv 129 1,oMv 130 3,oBi 131 .add 129 130,oUn 132 (.conv .u64) 131,oP 133 (.bin .shr) [.t 132,.c (.pv none (.int .u64 1))],oUn 134 (.conv .i64) 133,oMv 18 134]
def c73r45:LO:=[oMv 135 18,oMv 136 2,oBi 137 .add 135 136,oMv 19 137]
def c73r46:LO:=[oP 20 .mv [cIn 0],oP 21 .mv [cIn 0]]
def c73r47:LO:=[oMv 138 2,oMv 139 18,oBi 140 .gtr 138 139]
def c73r48:LO:=[oMv 141 19,oMv 142 3,oBi 143 .sub 141 142,oMv 20 143]
def c73r49:LO:=[oMv 144 18,oMv 21 144]
def c73r50:LO:=[oMv 145 1,oMv 20 145]
def c73r51:LO:=[oMv 146 2,oMv 21 146]
def c73k52:ACode:=.cond (.t 140) (.seq (rT c73r48 [0,1,2,3,4,18,19,20]) (rT c73r49 [0,1,2,3,4,18,19,20,21])) (.seq (rT c73r50 [0,1,2,3,4,18,19,20]) (rT c73r51 [0,1,2,3,4,18,19,20,21]))
def c73r53:LO:=[oMv 147 19,oBc 148 .sub 147 1,oMv 22 148]
def c73r54:LO:=[oMv 149 20,oMv 150 21,oBi 151 .lss 149 150]
def c73k55:ACode:=kEx 151 8
def c73r56:LO:=[oMv 152 20,oMv 153 21,oBi 154 .add 152 153,oUn 155 (.conv .u64) 154,oP 156 (.bin .shr) [.t 155,.c (.pv none (.int .u64 1))],oUn 157 (.conv .i64) 156,oMv 23 157]
def c73r57:LO:=[oMv 158 4,oMv 159 0,oMv 160 22,oMv 161 23,oBi 162 .sub 160 161,oIa 163 159 162,oLf 164 163,oMv 165 0,oMv 166 23,oIa 167 165 166,oLf 168 167,oP 169 .call [.t 158,.t 164,.t 168],oBc 170 .lss 169 0,oUn 171 .not 170]
def c73r58:LO:=[oMv 172 23,oBc 173 .add 172 1,oMv 20 173]
def c73r59:LO:=[oMv 174 23,oMv 21 174]
def c73k60:ACode:=.cond (.t 171) (rT c73r58 [0,1,2,3,4,18,19,20,21,22]) (rT c73r59 [0,1,2,3,4,18,19,20,21,22])
def c73k61:ACode:=.block 9 (.seq (rT c73r56 [0,1,2,3,4,18,19,20,21,22,23]) (.seq (rT c73r57 [0,1,2,3,4,18,19,20,21,22,23,171]) c73k60))
def c73b62:ACode:=.seq (.seq (rT c73r54 [0,1,2,3,4,18,19,20,21,22,151]) c73k55) c73k61
def c73k63:ACode:=.block 8 (.loop [0,1,2,3,4,18,19,20,21,22] c73b62)
def c73r64:LO:=[oMv 175 19,oMv 176 20,oBi 177 .sub 175 176,oMv 24 177]
def c73r65:LO:=[oMv 178 20,oMv 179 2,oBi 180 .lss 178 179,oMv 181 180,oG 182 .mv [.t 2] 181 true,oG 183 .mv [.t 24] 181 true,oG 184 (.bin .lss) [.t 182,.t 183] 181 true,oP 185 .pick [.t 181,.t 184,cBo false]]
def c73r66:LO:=[oMv 186 0,oMv 187 20,oMv 188 2,oMv 189 24,oMv 190 4,oCl 191 74 [.t 186,.t 187,.t 188,.t 189,.t 190]]
def c73k67:ACode:=.cond (.t 185) (rT c73r66 [0,1,3,4,18,20,24]) .skip
def c73r68:LO:=[oMv 192 1,oMv 193 20,oBi 194 .lss 192 193,oMv 195 194,oG 196 .mv [.t 20] 195 true,oG 197 .mv [.t 18] 195 true,oG 198 (.bin .lss) [.t 196,.t 197] 195 true,oP 199 .pick [.t 195,.t 198,cBo false]]
def c73r69:LO:=[oMv 200 0,oMv 201 1,oMv 202 20,oMv 203 18,oMv 204 4,oCl 205 73 [.t 200,.t 201,.t 202,.t 203,.t 204]]
def c73k70:ACode:=.cond (.t 199) (rT c73r69 [0,3,4,18,24]) .skip
def c73r71:LO:=[oMv 206 18,oMv 207 24,oBi 208 .lss 206 207,oMv 209 208,oG 210 .mv [.t 24] 209 true,oG 211 .mv [.t 3] 209 true,oG 212 (.bin .lss) [.t 210,.t 211] 209 true,oP 213 .pick [.t 209,.t 212,cBo false]]
def c73r72:LO:=[oMv 214 0,oMv 215 18,oMv 216 24,oMv 217 3,oMv 218 4,oCl 219 73 [.t 214,.t 215,.t 216,.t 217,.t 218]]
def c73k73:ACode:=.cond (.t 213) (rT c73r72 []) .skip
def c73:ACode:=.seq (.seq (rT c73r0 [0,1,2,3,4,28]) c73k21) (.seq (.seq (rT c73r22 [0,1,2,3,4,80]) c73k43) (.seq (rT c73r44 [0,1,2,3,4,18]) (.seq (rT c73r45 [0,1,2,3,4,18,19]) (.seq (rT c73r46 [0,1,2,3,4,18,19]) (.seq (.seq (rT c73r47 [0,1,2,3,4,18,19,140]) c73k52) (.seq (rT c73r53 [0,1,2,3,4,18,19,20,21,22]) (.seq c73k63 (.seq (rT c73r64 [0,1,2,3,4,18,20,24]) (.seq (.seq (rT c73r65 [0,1,2,3,4,18,20,24,185]) c73k67) (.seq (.seq (rT c73r68 [0,1,3,4,18,20,24,199]) c73k70) (.seq (rT c73r71 [0,3,4,18,24,213]) c73k73)))))))))))
def g73:AFn:=⟨5,[],c73,true,[],[],none⟩
theorem tr73:trFn Try.prog true 73 Try.f73=some g73:=by kernel_rfl
def c74r0:LO:=[oMv 12 2,oMv 13 1,oBi 14 .sub 12 13,oMv 10 14]
def c74r1:LO:=[oMv 15 3,oMv 16 2,oBi 17 .sub 15 16,oMv 11 17]
def c74r2:LO:=[oMv 18 10,oMv 19 11,oBi 20 .neq 18 19]
def c74k3:ACode:=kEx 20 0
def c74r4:LO:=[oMv 21 10,oMv 22 11,oBi 23 .gtr 21 22]
def c74r5:LO:=[oMv 24 0,oMv 25 2,oMv 26 10,oBi 27 .sub 25 26,oMv 28 2,oMv 29 11,oMv 30 4,oCl 31 75 [.t 24,.t 27,.t 28,.t 29,.t 30]]
def c74r6:LO:=[oMv 32 10,oMv 33 11,oBi 34 .sub 32 33,oMv 10 34]
def c74r7:LO:=[oMv 35 0,oMv 36 2,oMv 37 10,oBi 38 .sub 36 37,oMv 39 2,oMv 40 11,oBi 41 .add 39 40,oMv 42 10,oBi 43 .sub 41 42,oMv 44 10,oMv 45 4,oCl 46 75 [.t 35,.t 38,.t 43,.t 44,.t 45]]
def c74r8:LO:=[oMv 47 11,oMv 48 10,oBi 49 .sub 47 48,oMv 11 49]
def c74k9:ACode:=.cond (.t 23) (.seq (rT c74r5 [0,2,4,10,11]) (rT c74r6 [0,2,4,10,11])) (.seq (rT c74r7 [0,2,4,10,11]) (rT c74r8 [0,2,4,10,11]))
def c74k10:ACode:=.block 1 (.seq (rT c74r4 [0,2,4,10,11,23]) c74k9)
def c74b11:ACode:=.seq (.seq (rT c74r2 [0,2,4,10,11,20]) c74k3) c74k10
def c74k12:ACode:=.block 0 (.loop [0,2,4,10,11] c74b11)
def c74r13:LO:=[oMv 50 0,oMv 51 2,oMv 52 10,oBi 53 .sub 51 52,oMv 54 2,oMv 55 10,oMv 56 4,oCl 57 75 [.t 50,.t 53,.t 54,.t 55,.t 56]]
def c74:ACode:=.seq (rT c74r0 [0,2,3,4,10]) (.seq (rT c74r1 [0,2,4,10,11]) (.seq c74k12 (rT c74r13 [])))
def g74:AFn:=⟨5,[],c74,true,[],[],none⟩
theorem tr74:trFn Try.prog true 74 Try.f74=some g74:=by kernel_rfl
def c75r0:LO:=[oP 10 .mv [cIn 0]]
def c75r1:LO:=[oMv 11 10,oMv 12 3,oBi 13 .lss 11 12]
def c75k2:ACode:=kEx 13 0
def c75r3:LO:=[oMv 16 0,oMv 17 1,oMv 18 10,oBi 19 .add 17 18,oMv 20 0,oMv 21 2,oMv 22 10,oBi 23 .add 21 22,oMv 24 0,oMv 25 2,oMv 26 10,oBi 27 .add 25 26,oIa 28 24 27,oLf 29 28,oMv 30 0,oMv 31 1,oMv 32 10,oBi 33 .add 31 32,
 oIa 34 30 33,oLf 35 34,oIa 36 16 19,oSf 36 29,oIa 37 20 23,oSf 37 35]
def c75k4:ACode:=.block 1 (rT c75r3 [0,1,2,3,10])
def c75r5:LO:=[oMv 14 10,oBc 15 .add 14 1,oMv 10 15]
def c75b6:ACode:=.seq (.seq (rT c75r1 [0,1,2,3,10,13]) c75k2) (.seq c75k4 (rT c75r5 [0,1,2,3,10]))
def c75k7:ACode:=.block 0 (.loop [0,1,2,3,10] c75b6)
def c75:ACode:=.seq (rT c75r0 [0,1,2,3,10]) c75k7
def g75:AFn:=⟨5,[],c75,true,[],[],none⟩
theorem tr75:trFn Try.prog true 75 Try.f75=some g75:=by kernel_rfl
def tab:List (Nat × AFn):=[(4,g4),(12,g12),(14,g14),(15,g15),(16,g16),(17,g17),(18,g18),(19,g19),(20,g20),(21,g21),(22,g22),(23,g23),(24,g24),(25,g25),(26,g26),(28,g28),(30,g30),(31,g31),(33,g33),(34,g34),(35,g35),(36,g36),(37,g37),(38,g38),(39,g39),(40,g40),(41,g41),(42,g42),(43,g43),(44,g44),(45,g45),(46,g46),(47,g47),(48,g48),(49,g49),(50,g50),(51,g51),(52,g52),(53,g53),(54,g54),(55,g55),(56,g56),(57,g57),(58,g58),(59,g59),(60,g60),(61,g61),(62,g62),(63,g63),(64,g64),(65,g65),(66,g66),(67,g67),(68,g68),(69,g69),(70,g70),(72,g72),(73,g73),(74,g74),(75,g75)]
theorem zsb:znW Try.prog tab:=
 (zac Try.func4 tr4
 (zac Try.func12 tr12
 (zac Try.func14 tr14
 (zac Try.func15 tr15
 (zac Try.func16 tr16
 (zac Try.func17 tr17
 (zac Try.func18 tr18
 (zac Try.func19 tr19
 (zac Try.func20 tr20
 (zac Try.func21 tr21
 (zac Try.func22 tr22
 (zac Try.func23 tr23
 (zac Try.func24 tr24
 (zac Try.func25 tr25
 (zac Try.func26 tr26
 (zac Try.func28 tr28
 (zac Try.func30 tr30
 (zac Try.func31 tr31
 (zac Try.func33 tr33
 (zac Try.func34 tr34
 (zac Try.func35 tr35
 (zac Try.func36 tr36
 (zac Try.func37 tr37
 (zac Try.func38 tr38
 (zac Try.func39 tr39
 (zac Try.func40 tr40
 (zac Try.func41 tr41
 (zac Try.func42 tr42
 (zac Try.func43 tr43
 (zac Try.func44 tr44
 (zac Try.func45 tr45
 (zac Try.func46 tr46
 (zac Try.func47 tr47
 (zac Try.func48 tr48
 (zac Try.func49 tr49
 (zac Try.func50 tr50
 (zac Try.func51 tr51
 (zac Try.func52 tr52
 (zac Try.func53 tr53
 (zac Try.func54 tr54
 (zac Try.func55 tr55
 (zac Try.func56 tr56
 (zac Try.func57 tr57
 (zac Try.func58 tr58
 (zac Try.func59 tr59
 (zac Try.func60 tr60
 (zac Try.func61 tr61
 (zac Try.func62 tr62
 (zac Try.func63 tr63
 (zac Try.func64 tr64
 (zac Try.func65 tr65
 (zac Try.func66 tr66
 (zac Try.func67 tr67
 (zac Try.func68 tr68
 (zac Try.func69 tr69
 (zac Try.func70 tr70
 (zac Try.func72 tr72
 (zac Try.func73 tr73
 (zac Try.func74 tr74
 (zac Try.func75 tr75 znX))))))))))))))))))))))))))))))))))))))))))))))))))))))))))))
attribute [go_sem] c4r0 c4r1 c4r2 c4r3 c4r4 c4r5 c4r6 c4r7 c4r8 c4r9 c4k10 c4r11 c4r12 c4k13 c4r14 c4r15 c4r16 c4k17 c4r18 c4k19 c4r20 c4b21 c4k22 c4r23 c4r24 c4r25 c4r26 c4 g4 c15r0 c15r1 c15r2 c15r3 c15k4 c15r5 c15k6 c15r7 c15b8 c15k9 c15r10 c15 g15 c16r0 c16r1 c16r2 c16r3 c16k4 c16r5 c16 g16 c17r0 c17r1 c17r2 c17k3 c17r4 c17 g17 c18r0 c18r1 c18r2 c18k3 c18r4 c18r5 c18k6 c18r7 c18r8 c18r9 c18k10 c18k11 c18r12 c18b13 c18k14 c18r15 c18 g18 c19r0 c19r1 c19r2 c19r3 c19r4 c19k5 c19r6 c19r7 c19k8 c19k9 c19r10 c19b11 c19k12 c19r13 c19 g19 c20r0 c20r1 c20r2 c20k3 c20r4 c20r5 c20r6 c20k7 c20r8 c20k9 c20r10 c20b11 c20k12 c20r13 c20 g20 c21r0 c21r1 c21r2 c21k3 c21r4 c21r5 c21k6 c21r7 c21r8 c21k9 c21k10 c21r11 c21b12 c21k13 c21r14 c21r15 c21r16 c21k17 c21r18 c21k19 c21r20 c21b21 c21k22 c21r23 c21 g21 c22r0 c22r1 c22r2 c22k3 c22r4 c22r5 c22k6 c22r7 c22r8 c22k9 c22k10 c22r11 c22b12 c22k13 c22r14 c22 g22 c23r0 c23r1 c23r2 c23k3 c23r4 c23r5 c23k6 c23k7 c23r8 c23b9 c23k10 c23r11 c23 g23 c24r0 c24r1 c24r2 c24k3 c24r4 c24 g24 c25r0 c25r1 c25k2 c25r3 c25r4 c25k5 c25r6 c25k7 c25r8 c25k10 c25r11 c25k12 c25r13 c25k15 c25 g25 c28r0 c28r1 c28 g28 c31r0 c31r1 c31 g31 c36r0 c36r1 c36 g36 c37r0 c37r1 c37r2 c37r3 c37r4 c37k5 c37r6 c37r7 c37k8 c37r9 c37r10 c37r11 c37k12 c37r13 c37r14 c37r15 c37k16 c37r17 c37r18 c37k19 c37r20 c37r21 c37r22 c37r23 c37k24 c37k25 c37r26 c37k28 c37r29 c37 g37 c38r0 c38r1 c38r2 c38k3 c38r4 c38r5 c38r6 c38k7 c38r8 c38r9 c38k10 c38r11 c38r12 c38k13 c38r14 c38k15 c38r16 c38k18 c38r19 c38 g38 c39r0 c39r1 c39r2 c39k3 c39r4 c39r5 c39k6 c39r7 c39r8 c39r9 c39r10 c39k11 c39r12 c39r13 c39r14 c39k15 c39k16 c39r17 c39k19 c39r20 c39r21 c39k22 c39k23 c39r24 c39b25 c39k26 c39r27 c39 g39 c40r0 c40r1 c40 g40 c41r0 c41r1 c41r2 c41k3 c41r4 c41r5 c41r6 c41k7 c41k8 c41r9 c41b10 c41k11 c41r12 c41 g41 c42r0 c42r1 c42r2 c42r3 c42k4 c42r5 c42r6 c42k7 c42r8 c42b9 c42k10 c42r11 c42r12 c42 g42 c43r0 c43r1 c43 g43 c44r0 c44r1 c44r2 c44k3 c44r4 c44r5 c44k6 c44k7 c44r8 c44b9 c44k10 c44r11 c44 g44 c45r0 c45r1 c45r2 c45k3 c45r4 c45k5 c45b6 c45k7 c45r8 c45r9 c45r10 c45r11 c45 g45 c46r0 c46r1 c46 g46 c47r0 c47r1 c47r2 c47r3 c47k4 c47r5 c47k6 c47r7 c47b8 c47k9 c47r10 c47 g47 c49r0 c49r1 c49r2 c49k3 c49r4 c49r5 c49k6 c49r7 c49r8 c49k9 c49k10 c49r11 c49k13 c49r14 c49 g49 c50r0 c50r1 c50 g50 c51r0 c51r1 c51r2 c51k3 c51r4 c51r5 c51k6 c51r7 c51r8 c51k9 c51k10 c51r11 c51b12 c51k13 c51r14 c51 g51 c52r0 c52r1 c52r2 c52r3 c52r4 c52r5 c52 g52 c53r0 c53r1 c53r2 c53r3 c53r4 c53r5 c53r6 c53r7 c53r8 c53r9 c53r10 c53k11 c53k12 c53k13 c53k14 c53r16 c53r17 c53k18 c53r19 c53k20 c53r21 c53b22 c53k23 c53r24 c53 g53 c54r0 c54r1 c54r2 c54r3 c54r4 c54r5 c54k6 c54r7 c54k8 c54r9 c54r10 c54k11 c54r12 c54r13 c54k14 c54r15 c54r16 c54k17 c54r18 c54 g54 c55r0 c55r1 c55r2 c55r3 c55r4 c55r5 c55k6 c55r7 c55k8 c55r9 c55r10 c55k11 c55r12 c55r13 c55k14 c55r15 c55r16 c55k17 c55r18 c55 g55 c56r0 c56r1 c56 g56 c57r0 c57r1 c57r2 c57k3 c57r4 c57r5 c57k6 c57r7 c57 g57 c58r0 c58r1 c58r2 c58k3 c58r4 c58r5 c58k6 c58r7 c58r8 c58k9 c58k10 c58r11 c58b12 c58k13 c58r14 c58 g58 c59r0 c59r1 c59r2 c59k3 c59r4 c59 g59 c60r0 c60 g60 c61r0 c61r1 c61r2 c61k3 c61r4 c61 g61 c62r0 c62r1 c62r2 c62r3 c62k4 c62r5 c62k6 c62r7 c62b8 c62k9 c62r10 c62 g62 c63r0 c63r1 c63r2 c63r3 c63r4 c63r5 c63r6 c63r7 c63r8 c63r9 c63k10 c63k11 c63k12 c63k13 c63k14 c63r15 c63 g63 c64r0 c64r1 c64r2 c64r3 c64k4 c64r5 c64k6 c64r7 c64b8 c64k9 c64 g64 c65r0 c65r1 c65 g65 c66r0 c66r1 c66 g66 c67r0 c67r1 c67 g67 c68r0 c68r1 c68r2 c68k3 c68r4 c68r5 c68r6 c68k7 c68r8 c68r9 c68k10 c68r11 c68b12 c68k13 c68r14 c68 g68 c69r0 c69r1 c69 g69 c70r0 c70r1 c70r2 c70k3 c70r4 c70r5 c70r6 c70k7 c70b8 c70k9 c70r10 c70r11 c70k12 c70r13 c70r14 c70k15 c70r16 c70r17 c70r18 c70k19 c70b20 c70k21 c70r22 c70r23 c70r24 c70k25 c70r26 c70k27 c70b28 c70k29 c70 g70 c72r0 c72r1 c72k2 c72r3 c72r4 c72k5 c72r6 c72k7 c72r8 c72k10 c72k11 c72r12 c72b13 c72k14 c72 g72 c73r0 c73r1 c73r2 c73r3 c73k4 c73r5 c73r6 c73r7 c73r8 c73k9 c73k10 c73k12 c73r13 c73r14 c73k15 c73r16 c73k17 c73r18 c73k20 c73k21 c73r22 c73r23 c73r24 c73r25 c73k26 c73r27 c73r28 c73r29 c73r30 c73k31 c73k32 c73k34 c73r35 c73r36 c73k37 c73r38 c73k39 c73r40 c73k42 c73k43 c73r44 c73r45 c73r46 c73r47 c73r48 c73r49 c73r50 c73r51 c73k52 c73r53 c73r54 c73k55 c73r56 c73r57 c73r58 c73r59 c73k60 c73k61 c73k63 c73r66 c73r69 c73r72 c73 g73 c74r0 c74r1 c74r2 c74k3 c74r4 c74r5 c74r6 c74r7 c74r8 c74k9 c74k10 c74b11 c74k12 c74r13 c74 g74 c75r0 c75r1 c75k2 c75r3 c75k4 c75r5 c75b6 c75k7 c75 g75
end Go.Proofs.Yteaehiceghhajaa
