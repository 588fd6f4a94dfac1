/- The functions azs the abstract machine has them,each proved to be what the translation gives. -/
import Derived.Test.YtkfncielohbecaaGreatDoorAm5
import Derived.Test.YtkfncielohbecaaGreatDoorProg
import Derived.KernelRfl
namespace Go.Proofs.YtkfncielohbecaaGreatDoor
open Go.Am
def oP(d:Nat)(p:AOp)(l:List AArg):AOper:=⟨some d,p,l,none⟩
def aZ:AOp:=.alloc (some 4) (.agg [(none,(.pv none (.int .i64 0))),(none,(.pv none (.int .i64 0))),(none,(.pv none (.str []))),(none,(.tsl (some 4) []))])
def bZ(l:List Nat):AOp:=.build [(none,(.pv none (.int .i64 0))),(none,(.pv none (.int .i64 0))),(none,(.pv none (.str []))),(none,(.tsl (some 4) []))] l
def oMv(d s:Nat):AOper:=⟨some d,.mv,[.t s],none⟩
def oLf(d s:Nat):AOper:=⟨some d,.load (some 4),[.t s],none⟩
def oLo(d s:Nat):AOper:=⟨some d,.load none,[.t s],none⟩
def oFa(d k s:Nat):AOper:=⟨some d,.faddr k,[.t s],none⟩
def oSf(r s:Nat):AOper:=⟨none,.store (some 4),[.t r,.t s],none⟩
def oSo(r s:Nat):AOper:=⟨none,.store none,[.t r,.t s],none⟩
def oUn(d:Nat)(p:AOp)(s:Nat):AOper:=⟨some d,p,[.t s],none⟩
def oBi(d:Nat)(p:BinOp)(a b:Nat):AOper:=⟨some d,.bin p,[.t a,.t b],none⟩
def oIa(d a b:Nat):AOper:=⟨some d,.iaddr (some 4),[.t a,.t b],none⟩
def oBx(d s:Nat):AOper:=⟨some d,.box (some 4),[.t s],none⟩
def oEx(d k s:Nat):AOper:=⟨some d,.extract k,[.t s],none⟩
def kRt(c:Nat)(r:List AOper)(l:List Nat):ACode:=.cond (.t c) (.seq (.region true r l) .ret) .skip
def kEx(c k:Nat):ACode:=.cond (.t c) .skip (.exit k)
def rT(r:List AOper)(l:List Nat):ACode:=.region true r l
def oG(d:Nat)(p:AOp)(l:List AArg)(g:Nat)(b:Bool):AOper:=⟨some d,p,l,some (g,b)⟩
def oCl(d f:Nat)(l:List AArg):AOper:=⟨some d,.call,.c (.pv none (.func (.func f)))::l,none⟩
def oBc(d:Nat)(p:BinOp)(a:Nat)(n:Int):AOper:=⟨some d,.bin p,[.t a,.c (.pv none (.int .i64 n))],none⟩
def cSt(l:List UInt8):AArg:=.c (.pv none (.str l))
def cIn(n:Int):AArg:=.c (.pv none (.int .i64 n))
def cFn(n:Nat):AArg:=.c (.pv none (.func (.func n)))
def cBo(b:Bool):AArg:=.c (.pv none (.bool b))
abbrev LO:=List AOper
attribute [go_sem] oBc cSt oG oCl oUn oBi oIa oBx oEx kRt kEx rT oP aZ bZ oMv oLf oLo oFa oSf oSo cIn cFn cBo
def c3r0:LO:=[oP 4 .mv [cBo false]]
def c3r1:LO:=[oMv 5 0,oMv 6 1,oCl 7 5 [.t 5,.t 6],oMv 8 0,oMv 9 1,oCl 10 6 [.t 8,.t 9],oP 11 (.binb .eql) [.t 7,.t 10],oMv 12 11,oG 13 .mv [.t 0] 12 true,oG 14 .mv [.t 1] 12 true,oG 15 .call [cFn 7,.t 13,.t 14] 12 true,
 oG 16 .mv [.t 0] 12 true,oG 17 .mv [.t 1] 12 true,oG 18 .call [cFn 8,.t 16,.t 17] 12 true,oG 19 (.binb .eql) [.t 15,.t 18] 12 true,oP 20 .pick [.t 12,.t 19,cBo false],oMv 21 20,oG 22 .call [cFn 9] 21 true,oP 23 .pick [.t 21,.t 22,cBo false],
 oMv 4 23]
def c3:ACode:=.seq (rT c3r0 [0,1]) (.seq (rT c3r1 [4]) .ret)
def g3:AFn:=⟨2,[(4,none)],c3,false,[],[],none⟩
theorem tr3:trFn Tryz.prog false 3 Tryz.f3=some g3:=by kernel_rfl
def c5r0:LO:=[oP 4 .mv [cBo false]]
def c5r1:LO:=[oCl 6 15 [],oMv 7 0,oMv 8 1,oP 9 (.build [(none,(.pv none (.str []))),(none,(.pv none (.int .i64 0)))] [0,1]) [.t 7,.t 8],oP 10 (.lookupr [1,0] none (.pv none .nilfunc) true) [.t 6,.t 9],oMv 5 10,oEx 11 0 5,
 oEx 12 1 5,oMv 4 12]
def c5r2:LO:=[oMv 13 4,oMv 4 13]
def c5:ACode:=.seq (rT c5r0 [0,1]) (.seq (rT c5r1 [4]) (.seq (rT c5r2 [4]) .ret))
def g5:AFn:=⟨2,[(4,none)],c5,false,[],[],none⟩
theorem tr5:trFn Tryz.prog false 5 Tryz.f5=some g5:=by kernel_rfl
def c6r0:LO:=[oP 4 .mv [cBo false]]
def c6r1:LO:=[oMv 5 0]
def c6r2:LO:=[oP 7 (.bin .eql) [.t 5,cSt [97,115,115,101,114,116,97]],oMv 6 7]
def c6r3:LO:=[oP 8 (.bin .eql) [.t 5,cSt [97,115,115,101,114,116,122]],oMv 6 8]
def c6r4:LO:=[oP 9 (.bin .eql) [.t 5,cSt [97,98,111,108,105,115,104]],oMv 6 9]
def c6r5:LO:=[oP 10 (.bin .eql) [.t 5,cSt [100,121,110,97,109,105,99]],oMv 6 10]
def c6r6:LO:=[oP 11 (.bin .eql) [.t 5,cSt [99,117,114,114,101,110,116,95,112,114,101,100,105,99,97,116,101]],oMv 6 11]
def c6r7:LO:=[oP 12 (.bin .eql) [.t 5,cSt [36,101,114,97,115,101]],oMv 6 12]
def c6k8:ACode:=.cond (.t 6) .skip (rT c6r7 [1,5,6])
def c6k9:ACode:=.cond (.t 6) .skip (.seq (rT c6r6 [1,5,6]) c6k8)
def c6k10:ACode:=.cond (.t 6) .skip (.seq (rT c6r5 [1,5,6]) c6k9)
def c6k11:ACode:=.cond (.t 6) .skip (.seq (rT c6r4 [1,5,6]) c6k10)
def c6k12:ACode:=.cond (.t 6) .skip (.seq (rT c6r3 [1,5,6]) c6k11)
def c6r13:LO:=[oMv 13 1,oBc 14 .eql 13 1,oMv 4 14]
def c6r14:LO:=[oP 16 (.bin .eql) [.t 5,cSt [99,108,97,117,115,101]],oMv 15 16]
def c6r15:LO:=[oMv 17 1,oBc 18 .eql 17 2,oMv 4 18]
def c6r16:LO:=[oP 20 (.bin .eql) [.t 5,cSt [36,99,108,97,117,115,101]],oMv 19 20]
def c6r17:LO:=[oMv 21 1,oBc 22 .eql 21 3,oMv 4 22]
def c6k18:ACode:=kRt 19 c6r17 [4]
def c6k19:ACode:=.cond (.t 15) (.seq (rT c6r15 [4]) .ret) (.seq (rT c6r16 [1,19]) c6k18)
def c6k20:ACode:=.cond (.t 6) (.seq (rT c6r13 [4]) .ret) (.seq (rT c6r14 [1,5,15]) c6k19)
def c6k21:ACode:=.block 0 (.seq (.seq (rT c6r2 [1,5,6]) c6k12) c6k20)
def c6r22:LO:=[oP 4 .mv [cBo false]]
def c6:ACode:=.seq (rT c6r0 [0,1]) (.seq (.seq (rT c6r1 [1,5]) c6k21) (.seq (rT c6r22 [4]) .ret))
def g6:AFn:=⟨2,[(4,none)],c6,false,[],[],none⟩
theorem tr6:trFn Tryz.prog false 6 Tryz.f6=some g6:=by kernel_rfl
def c7r0:LO:=[oP 4 .mv [cBo false]]
def c7r1:LO:=[oMv 5 1,oBc 6 .lss 5 0,oMv 7 6,oG 8 .mv [.t 1] 7 false,oG 9 (.bin .gtr) [.t 8,cIn 8] 7 false,oP 10 .pick [.t 7,cBo true,.t 9]]
def c7r2:LO:=[oP 4 .mv [cBo false]]
def c7k3:ACode:=kRt 10 c7r2 [4]
def c7r4:LO:=[oCl 11 18 [],oMv 12 1,oP 13 (.aindex 9) [.t 11,.t 12],oCl 14 17 [.t 13],oMv 15 0,oCl 16 16 [.t 14,.t 15],oMv 4 16]
def c7:ACode:=.seq (rT c7r0 [0,1]) (.seq (.seq (rT c7r1 [0,1,10]) c7k3) (.seq (rT c7r4 [4]) .ret))
def g7:AFn:=⟨2,[(4,none)],c7,false,[],[],none⟩
theorem tr7:trFn Tryz.prog false 7 Tryz.f7=some g7:=by kernel_rfl
def c8r0:LO:=[oP 4 .mv [cBo false]]
def c8r1:LO:=[oMv 7 1,oCl 8 19 [.t 7],oMv 5 8]
def c8r2:LO:=[oP 6 .mv [cIn 0]]
def c8r3:LO:=[oMv 9 6,oMv 10 5,oUn 11 .len 10,oBi 12 .lss 9 11]
def c8k4:ACode:=kEx 12 0
def c8r5:LO:=[oMv 15 5,oMv 16 6,oP 17 (.iaddr none) [.t 15,.t 16],oLo 18 17,oMv 19 0,oBi 20 .eql 18 19]
def c8r6:LO:=[oP 4 .mv [cBo true]]
def c8k7:ACode:=kRt 20 c8r6 [4]
def c8k8:ACode:=.block 1 (.seq (rT c8r5 [0,5,6,20]) c8k7)
def c8r9:LO:=[oMv 13 6,oBc 14 .add 13 1,oMv 6 14]
def c8b10:ACode:=.seq (.seq (rT c8r3 [0,5,6,12]) c8k4) (.seq c8k8 (rT c8r9 [0,5,6]))
def c8k11:ACode:=.block 0 (.loop [0,5,6] c8b10)
def c8r12:LO:=[oP 4 .mv [cBo false]]
def c8:ACode:=.seq (rT c8r0 [0,1]) (.seq (rT c8r1 [0,5]) (.seq (.seq (rT c8r2 [0,5,6]) c8k11) (.seq (rT c8r12 [4]) .ret)))
def g8:AFn:=⟨2,[(4,none)],c8,false,[],[],none⟩
theorem tr8:trFn Tryz.prog false 8 Tryz.f8=some g8:=by kernel_rfl
def c9r0:LO:=[oP 0 .mv [cBo false]]
def c9r1:LO:=[oCl 14 20 [],oMv 13 14,oEx 15 0 13,oEx 16 1 13,oP 1 (.alloc (some 2) (.agg [(none,(.pv none (.int .i64 0))),(none,(.nilv (some 4)))])) [],⟨none,(.store (some 2)),[.t 1,.t 15],none⟩,oMv 2 16]
def c9r2:LO:=[oUn 18 (.load (some 2)) 1,oCl 19 21 [.t 18,cSt [112],cIn 1],oMv 17 19,oEx 20 0 17,oEx 21 1 17,oP 3 (.alloc (some 4) (.agg [(none,(.pv none (.str []))),(none,(.pv none (.int .i64 0))),(none,(.pv none (.bool false))),(none,(.tsl (some 9) []))])) [],
 oSf 3 20,oMv 4 21]
def c9r3:LO:=[oUn 23 (.load (some 2)) 1,oP 24 .callp [cFn 24,cSt [97]],oUn 25 (.bslicep (some 4)) 24,oP 26 .callp [cFn 23,cSt [112],.t 25],oP 27 .callp [cFn 25,cIn 0],oP 28 (.bslicep (some 4)) [.t 26,.t 27],oP 29 .callp [cFn 23,cSt [99,108,97,117,115,101],.t 28],
 oP 30 .callp [cFn 25,cIn 1],oUn 31 (.bslicep (some 4)) 30,oP 32 .callp [cFn 23,cSt [112],.t 31],oP 33 .callp [cFn 25,cIn 1],oP 34 .callp [cFn 25,cIn 2],oP 35 (.bslicep (some 4)) [.t 33,.t 34],oP 36 .callp [cFn 23,cSt [113],.t 35],
 oP 37 (.bslicep (some 4)) [.t 32,.t 36],oP 38 .callp [cFn 23,cSt [99,108,97,117,115,101],.t 37],oUn 39 (.bslicep (some 4)) 38,oP 40 .callp [cFn 22,.t 23,.t 29,.t 39],oMv 22 40,oEx 41 0 22,oEx 42 1 22,oP 5 (.alloc (some 2) (.agg [(none,(.pv none (.int .i64 0))),(none,(.nilv (some 4)))])) [],
 ⟨none,(.store (some 2)),[.t 5,.t 41],none⟩,oMv 6 42]
def c9r4:LO:=[oUn 44 (.load (some 2)) 1,oP 45 .callp [cFn 25,cIn 0],oUn 46 (.bslicep (some 4)) 45,oP 47 .callp [cFn 23,cSt [112],.t 46],oP 48 .callp [cFn 25,cIn 1],oP 49 .callp [cFn 25,cIn 2],oP 50 (.bslicep (some 4)) [.t 47,.t 48,.t 49],
 oP 51 .callp [cFn 23,cSt [36,99,108,97,117,115,101],.t 50],oP 52 .callp [cFn 25,cIn 3],oUn 53 (.bslicep (some 4)) 52,oP 54 .callp [cFn 23,cSt [112],.t 53],oP 55 .callp [cFn 25,cIn 3],oP 56 .callp [cFn 25,cIn 4],oP 57 (.bslicep (some 4)) [.t 55,.t 56],
 oP 58 .callp [cFn 23,cSt [113],.t 57],oP 59 .callp [cFn 26,cIn 1],oP 60 (.bslicep (some 4)) [.t 54,.t 58,.t 59],oP 61 .callp [cFn 23,cSt [36,99,108,97,117,115,101],.t 60],oUn 62 (.bslicep (some 4)) 61,oP 63 .callp [cFn 22,.t 44,.t 51,.t 62],
 oMv 43 63,oEx 64 0 43,oEx 65 1 43,oP 7 (.alloc (some 2) (.agg [(none,(.pv none (.int .i64 0))),(none,(.nilv (some 4)))])) [],⟨none,(.store (some 2)),[.t 7,.t 64],none⟩,oMv 8 65]
def c9r5:LO:=[oUn 67 (.load (some 2)) 1,oP 68 .callp [cFn 26,cIn 1],oUn 69 (.bslicep (some 4)) 68,oP 70 .callp [cFn 23,cSt [36,101,114,97,115,101],.t 69],oP 71 .callp [cFn 26,cIn 1],oUn 72 (.bslicep (some 4)) 71,oP 73 .callp [cFn 23,cSt [36,101,114,97,115,101],.t 72],
 oUn 74 (.bslicep (some 4)) 73,oP 75 .callp [cFn 22,.t 67,.t 70,.t 74],oMv 66 75,oEx 76 0 66,oEx 77 1 66,oP 9 (.alloc (some 2) (.agg [(none,(.pv none (.int .i64 0))),(none,(.nilv (some 4)))])) [],⟨none,(.store (some 2)),[.t 9,.t 76],none⟩,
 oMv 10 77]
def c9r6:LO:=[oUn 79 (.load (some 2)) 9,oP 80 .callp [cFn 26,cIn 1],oUn 81 (.bslicep (some 4)) 80,oP 82 .callp [cFn 23,cSt [36,101,114,97,115,101],.t 81],oP 83 .callp [cFn 22,.t 79,.t 82,.c (.tsl (some 4) [])],oMv 78 83,
 oEx 84 0 78,oEx 85 1 78,oP 11 (.alloc (some 2) (.agg [(none,(.pv none (.int .i64 0))),(none,(.nilv (some 4)))])) [],⟨none,(.store (some 2)),[.t 11,.t 84],none⟩,oMv 12 85]
def c9r7:LO:=[oMv 86 2,oMv 87 86,oG 88 .mv [.t 4] 87 true,oP 89 .pick [.t 87,.t 88,cBo false],oMv 90 89,oG 91 (.faddr 2) [.t 3] 90 true,oG 92 (.load none) [.t 91] 90 true,oP 93 .pick [.t 90,.t 92,cBo false],oMv 94 93,
 oG 95 (.faddr 3) [.t 3] 94 true,oG 96 (.load none) [.t 95] 94 true,oG 97 .len [.t 96] 94 true,oG 98 (.bin .eql) [.t 97,cIn 1] 94 true,oP 99 .pick [.t 94,.t 98,cBo false],oMv 100 99,oG 101 (.faddr 3) [.t 3] 100 true,oG 102 (.load none) [.t 101] 100 true,
 oG 103 (.iaddr (some 9)) [.t 102,cIn 0] 100 true,oG 104 (.faddr 0) [.t 103] 100 true,oG 105 (.load none) [.t 104] 100 true,oG 106 (.bin .eql) [.t 105,cIn 1] 100 true,oP 107 .pick [.t 100,.t 106,cBo false],oMv 108 107,oG 109 .mv [.t 6] 108 true,
 oP 110 .pick [.t 108,.t 109,cBo false],oMv 111 110,oG 112 .mv [.t 8] 111 true,oP 113 .pick [.t 111,.t 112,cBo false],oMv 114 113,oG 115 .mv [.t 10] 114 true,oP 116 .pick [.t 114,.t 115,cBo false],oMv 117 116,oG 118 .mv [.t 12] 117 true,
 oP 119 .pick [.t 117,.t 118,cBo false],oMv 120 119,oG 121 (.load (some 2)) [.t 9] 120 true,oG 122 .callp [cFn 27,.t 121] 120 true,oG 123 (.bin .eql) [.t 122,cIn 0] 120 true,oP 124 .pick [.t 120,.t 123,cBo false],oMv 125 124,
 oG 126 (.load (some 2)) [.t 1] 125 true,oG 127 .callp [cFn 24,cSt [97]] 125 true,oG 128 (.bslicep (some 4)) [.t 127] 125 true,oG 129 .callp [cFn 23,cSt [97,116,111,109],.t 128] 125 true,oG 130 (.bslicep (some 4)) [.t 129] 125 true,
 oG 131 .callp [cFn 23,cSt [97,115,115,101,114,116,122],.t 130] 125 true,oG 132 .callp [cFn 24,cSt [109,111,100,105,102,121]] 125 true,oG 133 .callp [cFn 24,cSt [115,116,97,116,105,99,95,112,114,111,99,101,100,117,114,101]] 125 true,
 oG 134 .callp [cFn 24,cSt [97,116,111,109]] 125 true,oG 135 .callp [cFn 26,cIn 1] 125 true,oG 136 (.bslicep (some 4)) [.t 134,.t 135] 125 true,oG 137 .callp [cFn 23,cSt [47],.t 136] 125 true,oG 138 (.bslicep (some 4)) [.t 132,.t 133,.t 137] 125 true,
 oG 139 .callp [cFn 23,cSt [112,101,114,109,105,115,115,105,111,110,95,101,114,114,111,114],.t 138] 125 true,oG 140 .callp [cFn 28,.t 126,.t 131,.t 139] 125 true,oP 141 .pick [.t 125,.t 140,cBo false],oMv 142 141,oG 143 .callp [cFn 7,cSt [105,115],cIn 2] 142 true,
 oP 144 .pick [.t 142,.t 143,cBo false],oMv 145 144,oG 146 .callp [cFn 7,cSt [112],cIn 1] 145 true,oG 147 .not [.t 146] 145 true,oP 148 .pick [.t 145,.t 147,cBo false],oMv 0 148]
def c9:ACode:=.seq (rT c9r0 []) (.seq (rT c9r1 [1,2]) (.seq (rT c9r2 [1,2,3,4]) (.seq (.seq (.settle [1]) (rT c9r3 [1,2,3,4,6])) (.seq (.seq (.settle [1]) (rT c9r4 [1,2,3,4,6,8])) (.seq (.seq (.settle [1]) (rT c9r5 [1,2,3,4,6,8,9,10])) (.seq (.seq (.settle [9]) (rT c9r6 [1,2,3,4,6,8,9,10,12])) (.seq (.seq (.settle [1,9]) (rT c9r7 [0])) .ret)))))))
def g9:AFn:=⟨0,[(0,none)],c9,false,[],[],none⟩
theorem tr9:trFn Tryz.prog false 9 Tryz.f9=some g9:=by kernel_rfl
def c10r0:LO:=[oUn 2 (.box (some 2)) 0,oBx 3 1,oP 4 (.alloc (some 2) (.agg [(none,(.pv none (.int .i64 0))),(none,(.nilv (some 4)))])) [],oP 5 (.nilsl (some 4)) [],oP 6 aZ [],oP 7 .mv [cIn 0]]
def c10r1:LO:=[oUn 13 (.load (some 2)) 2,oCl 14 13 [.t 13],oUn 15 .not 14,oMv 16 15,oG 17 (.load (some 4)) [.t 3] 16 false,oG 18 .call [cFn 29,.t 17] 16 false,oG 19 .not [.t 18] 16 false,oP 20 .pick [.t 16,cBo true,.t 19],
 oMv 21 20,oG 22 (.load (some 4)) [.t 3] 21 false,oG 23 (.load (some 4)) [.t 3] 21 false,oG 24 (.calln 1) [.t 3,cFn 31,.t 23] 21 false,oG 25 .call [cFn 30,.t 22,.t 24] 21 false,oG 26 .not [.t 25] 21 false,oP 27 .pick [.t 21,cBo true,.t 26]]
def c10r2:LO:=[oP 28 (.build [(none,(.pv none (.int .i64 0))),(none,(.nilv (some 4)))] []) [],oP 29 (bZ []) [],⟨none,(.store (some 2)),[.t 4,.t 28],none⟩,oP 5 (.nilsl (some 4)) [],oSf 6 29,oP 7 .mv [cIn 1]]
def c10k3:ACode:=kRt 27 c10r2 [4,5,6,7]
def c10r4:LO:=[oP 31 .callg [cFn 15],oFa 32 2 3,oLo 33 32,oFa 34 3 3,oLo 35 34,oUn 36 .len 35,oP 37 (.build [(none,(.pv none (.str []))),(none,(.pv none (.int .i64 0)))] [0,1]) [.t 33,.t 36],oP 38 (.lookupr [1,0] none (.pv none .nilfunc) true) [.t 31,.t 37],
 oMv 30 38,oEx 39 0 30,oEx 40 1 30,oMv 8 39,oMv 9 40]
def c10r5:LO:=[oMv 41 9,oUn 42 .not 41,oMv 43 42,oG 44 (.faddr 0) [.t 3] 43 false,oG 45 (.load none) [.t 44] 43 false,oG 46 (.bin .neq) [.t 45,cIn 3] 43 false,oP 47 .pick [.t 43,cBo true,.t 46]]
def c10r6:LO:=[oP 48 (.build [(none,(.pv none (.int .i64 0))),(none,(.nilv (some 4)))] []) [],oP 49 (bZ []) [],⟨none,(.store (some 2)),[.t 4,.t 48],none⟩,oP 5 (.nilsl (some 4)) [],oSf 6 49,oP 7 .mv [cIn 4]]
def c10k7:ACode:=kRt 47 c10r6 [4,5,6,7]
def c10r8:LO:=[oUn 50 (.load (some 2)) 2,oLf 51 3,oP 52 (.build [((some 2),(.agg [(none,(.pv none (.int .i64 0))),(none,(.nilv (some 4)))])),((some 4),(.agg [(none,(.pv none (.int .i64 0))),(none,(.pv none (.int .i64 0))),(none,(.pv none (.str []))),(none,(.tsl (some 4) []))])),(none,(.tsl (some 4) []))] [0,1]) [.t 50,.t 51],
 oUn 53 (.box (some 7)) 52,oMv 10 53]
def c10r9:LO:=[oMv 55 10,oMv 56 8,oCl 57 32 [.t 55,.t 56],oMv 54 57,oEx 58 0 54,oEx 59 1 54,oSf 6 58,oMv 7 59]
def c10r10:LO:=[oMv 60 7,oBc 61 .neq 60 0]
def c10r11:LO:=[oP 62 (.build [(none,(.pv none (.int .i64 0))),(none,(.nilv (some 4)))] []) [],oLf 63 6,oMv 64 7,⟨none,(.storen (some 2)),[.t 4,.t 62,.t 6],none⟩,oP 5 (.nilsl (some 4)) [],oSf 6 63,oMv 7 64]
def c10k12:ACode:=kRt 61 c10r11 [4,5,6,7]
def c10r13:LO:=[oMv 65 10,oUn 66 .nilcheck 65,oFa 67 6 66,oLo 68 67,oUn 69 .len 68,oP 70 .mv [cIn 0]]
def c10r14:LO:=[oBi 71 .lss 70 69]
def c10k15:ACode:=kEx 71 0
def c10r16:LO:=[oIa 72 68 70,oLf 73 72,oP 12 aZ [],oSf 12 73]
def c10r17:LO:=[oLf 74 12,oCl 75 29 [.t 74],oUn 76 .not 75]
def c10r18:LO:=[oP 77 (.build [(none,(.pv none (.int .i64 0))),(none,(.nilv (some 4)))] []) [],oP 78 (bZ []) [],⟨none,(.store (some 2)),[.t 4,.t 77],none⟩,oP 5 (.nilsl (some 4)) [],oSf 6 78,oP 7 .mv [cIn 2]]
def c10k19:ACode:=kRt 76 c10r18 [4,5,6,7]
def c10r20:LO:=[oMv 79 5,oLf 80 12,oCl 81 33 [.t 80],oUn 82 (.bslice (some 4)) 81,oP 83 (.append (some 4)) [.t 79,.t 82],oMv 5 83]
def c10k21:ACode:=.block 1 (.seq (rT c10r16 [4,5,6,10,12,68,69,70]) (.seq (.seq (rT c10r17 [4,5,6,10,12,68,69,70,76]) c10k19) (rT c10r20 [4,5,6,10,68,69,70])))
def c10r22:LO:=[oBc 84 .add 70 1,oMv 70 84]
def c10b23:ACode:=.seq (rT c10r14 [4,5,6,10,68,69,70,71]) (.seq c10k15 (.seq c10k21 (rT c10r22 [4,5,6,10,68,69,70])))
def c10k24:ACode:=.block 0 (.loop [4,5,6,10,68,69,70] c10b23)
def c10r25:LO:=[oMv 85 10,oUn 86 .nilcheck 85,oFa 87 0 86,oUn 88 (.load (some 2)) 87,oCl 89 34 [.t 88],oMv 90 5,oP 91 (bZ []) [],⟨none,(.store (some 2)),[.t 4,.t 89],none⟩,oMv 5 90,oSf 6 91,oP 7 .mv [cIn 0]]
def c10:ACode:=.seq (rT c10r0 [2,3,4,5,6]) (.seq (.seq (.region false c10r1 [2,3,4,5,6,27]) c10k3) (.seq (rT c10r4 [2,3,4,5,6,8,9]) (.seq (.seq (rT c10r5 [2,3,4,5,6,8,47]) c10k7) (.seq (rT c10r8 [4,5,6,8,10]) (.seq (.seq (rT c10r9 [4,5,6,7,10]) (.seq (rT c10r10 [4,5,6,7,10,61]) c10k12)) (.seq (.seq (rT c10r13 [4,5,6,10,68,69,70]) c10k24) (.seq (rT c10r25 [4,5,6,7]) .ret)))))))
def g10:AFn:=⟨2,[(4,some (some 2)),(5,none),(6,some (some 4)),(7,none)],c10,true,[],[],none⟩
theorem tr10:trFn Tryz.prog true 10 Tryz.f10=some g10:=by kernel_rfl
def c11r0:LO:=[oUn 2 (.box (some 2)) 0,oUn 3 (.box (some 2)) 1,oP 4 .mv [cBo false]]
def c11r1:LO:=[oFa 6 0 2,oLo 7 6,oFa 8 0 3,oLo 9 8,oBi 10 .neq 7 9,oMv 11 10,oG 12 (.faddr 1) [.t 2] 11 false,oG 13 (.load none) [.t 12] 11 false,oG 14 .len [.t 13] 11 false,oG 15 (.faddr 1) [.t 3] 11 false,oG 16 (.load none) [.t 15] 11 false,
 oG 17 .len [.t 16] 11 false,oG 18 (.bin .neq) [.t 14,.t 17] 11 false,oP 19 .pick [.t 11,cBo true,.t 18]]
def c11r2:LO:=[oP 4 .mv [cBo false]]
def c11k3:ACode:=kRt 19 c11r2 [4]
def c11r4:LO:=[oP 5 .mv [cIn 0]]
def c11r5:LO:=[oMv 20 5,oFa 21 1 2,oLo 22 21,oUn 23 .len 22,oBi 24 .lss 20 23]
def c11k6:ACode:=kEx 24 0
def c11r7:LO:=[oFa 27 1 2,oLo 28 27,oMv 29 5,oIa 30 28 29,oLf 31 30,oFa 32 1 3,oLo 33 32,oMv 34 5,oIa 35 33 34,oLf 36 35,oCl 37 35 [.t 31,.t 36],oUn 38 .not 37]
def c11r8:LO:=[oP 4 .mv [cBo false]]
def c11k9:ACode:=kRt 38 c11r8 [4]
def c11k10:ACode:=.block 1 (.seq (rT c11r7 [2,3,5,38]) c11k9)
def c11r11:LO:=[oMv 25 5,oBc 26 .add 25 1,oMv 5 26]
def c11b12:ACode:=.seq (.seq (rT c11r5 [2,3,5,24]) c11k6) (.seq c11k10 (rT c11r11 [2,3,5]))
def c11k13:ACode:=.block 0 (.loop [2,3,5] c11b12)
def c11r14:LO:=[oP 4 .mv [cBo true]]
def c11:ACode:=.seq (rT c11r0 [2,3]) (.seq (.seq (rT c11r1 [2,3,19]) c11k3) (.seq (.seq (rT c11r4 [2,3,5]) c11k13) (.seq (rT c11r14 [4]) .ret)))
def g11:AFn:=⟨2,[(4,none)],c11,false,[],[],none⟩
theorem tr11:trFn Tryz.prog false 11 Tryz.f11=some g11:=by kernel_rfl
def c12r0:LO:=[oBx 2 0,oBx 3 1,oP 4 .mv [cBo false]]
def c12r1:LO:=[oLf 5 2,oLf 6 3,oCl 7 36 [.t 5,.t 6],oMv 4 7]
def c12:ACode:=.seq (rT c12r0 [2,3]) (.seq (rT c12r1 [4]) .ret)
def g12:AFn:=⟨2,[(4,none)],c12,false,[],[],none⟩
theorem tr12:trFn Tryz.prog false 12 Tryz.f12=some g12:=by kernel_rfl
def c13r0:LO:=[oUn 1 (.box (some 2)) 0,oP 2 .mv [cBo false]]
def c13r1:LO:=[oFa 9 0 1,oLo 10 9,oBc 11 .lss 10 1,oMv 12 11,oG 13 (.faddr 0) [.t 1] 12 false,oG 14 (.load none) [.t 13] 12 false,oG 15 (.bin .gtr) [.t 14,cIn 4294967296] 12 false,oP 16 .pick [.t 12,cBo true,.t 15],oMv 17 16,
 oG 18 (.faddr 1) [.t 1] 17 false,oG 19 (.load none) [.t 18] 17 false,oG 20 .len [.t 19] 17 false,oG 21 (.bin .gtr) [.t 20,cIn 500] 17 false,oP 22 .pick [.t 17,cBo true,.t 21],oMv 23 22,oG 24 (.load (some 2)) [.t 1] 23 false,
 oG 25 .call [cFn 37,.t 24] 23 false,oG 26 (.bin .gtr) [.t 25,cIn 500] 23 false,oP 27 .pick [.t 23,cBo true,.t 26]]
def c13r2:LO:=[oP 2 .mv [cBo false]]
def c13k3:ACode:=kRt 27 c13r2 [2]
def c13r4:LO:=[oP 28 (.mkmap none) [],oMv 3 28]
def c13r5:LO:=[oP 4 .mv [cBo true]]
def c13r6:LO:=[oFa 29 1 1,oLo 30 29,oUn 31 .len 30,oP 32 .mv [cIn 0]]
def c13r7:LO:=[oBi 33 .lss 32 31]
def c13k8:ACode:=kEx 33 0
def c13r9:LO:=[oMv 34 32,oIa 35 30 32,oLf 36 35,oP 6 (.alloc (some 4) (.agg [(none,(.pv none (.str []))),(none,(.pv none (.int .i64 0))),(none,(.pv none (.bool false))),(none,(.tsl (some 9) []))])) [],oMv 5 34,oSf 6 36]
def c13r10:LO:=[oFa 37 0 6,oLo 38 37,oFa 39 1 6,oLo 40 39,oCl 41 38 [.t 38,.t 40],oUn 42 .not 41,oMv 43 42,oG 44 .mv [.t 5] 43 false,oG 45 (.bin .gtr) [.t 44,cIn 0] 43 false,oG 46 .mv [.t 45] 43 false,oG 47 (.faddr 1) [.t 1] 46 true,
 oG 48 (.load none) [.t 47] 46 true,oG 49 .mv [.t 5] 46 true,oG 50 (.bin .sub) [.t 49,cIn 1] 46 true,oG 51 (.iaddr (some 4)) [.t 48,.t 50] 46 true,oG 52 (.load (some 4)) [.t 51] 46 true,oG 53 (.load (some 4)) [.t 6] 46 true,
 oG 54 .call [cFn 39,.t 52,.t 53] 46 true,oG 55 (.bin .geq) [.t 54,cIn 0] 46 true,oG 56 .pick [.t 46,.t 55,cBo false] 43 false,oP 57 .pick [.t 43,cBo true,.t 56]]
def c13r11:LO:=[oP 4 .mv [cBo false]]
def c13k12:ACode:=.cond (.t 57) (.seq (rT c13r11 [4]) (.exit 0)) .skip
def c13r13:LO:=[oFa 58 3 6,oLo 59 58,oUn 60 .len 59,oP 61 .mv [cIn 0]]
def c13r14:LO:=[oBi 62 .lss 61 60]
def c13k15:ACode:=kEx 62 2
def c13r16:LO:=[oP 63 (.iaddr (some 9)) [.t 59,.t 61],oUn 64 (.load (some 9)) 63,oP 8 (.alloc (some 9) (.agg [(none,(.pv none (.int .i64 0))),((some 8),(.agg [((some 4),(.agg [(none,(.pv none (.int .i64 0))),(none,(.pv none (.int .i64 0))),(none,(.pv none (.str []))),(none,(.tsl (some 4) []))])),((some 4),(.agg [(none,(.pv none (.int .i64 0))),(none,(.pv none (.int .i64 0))),(none,(.pv none (.str []))),(none,(.tsl (some 4) []))]))]))])) [],
 ⟨none,(.store (some 9)),[.t 8,.t 64],none⟩]
def c13r17:LO:=[oMv 65 3,oFa 66 0 8,oLo 67 66,oP 68 (.lookup false none (.pv none (.int .i64 0)) false) [.t 65,.t 67],oBc 69 .add 68 1,⟨none,(.mapset false none),[.t 65,.t 67,.t 69],none⟩]
def c13r18:LO:=[oFa 70 0 8,oLo 71 70,oBc 72 .lss 71 1,oMv 73 72,oG 74 (.faddr 0) [.t 8] 73 false,oG 75 (.load none) [.t 74] 73 false,oG 76 (.faddr 0) [.t 1] 73 false,oG 77 (.load none) [.t 76] 73 false,oG 78 (.bin .geq) [.t 75,.t 77] 73 false,
 oP 79 .pick [.t 73,cBo true,.t 78],oMv 80 79,oG 81 .mv [.t 3] 80 false,oG 82 (.faddr 0) [.t 8] 80 false,oG 83 (.load none) [.t 82] 80 false,oG 84 (.lookup false none (.pv none (.int .i64 0)) false) [.t 81,.t 83] 80 false,
 oG 85 (.bin .gtr) [.t 84,cIn 1] 80 false,oP 86 .pick [.t 80,cBo true,.t 85],oMv 87 86,oG 88 (.faddr 1) [.t 8] 87 false,oG 89 (.load (some 8)) [.t 88] 87 false,oG 90 .call [cFn 40,.t 89] 87 false,oG 91 .not [.t 90] 87 false,
 oP 92 .pick [.t 87,cBo true,.t 91],oMv 93 92,oG 94 (.faddr 1) [.t 8] 93 false,oG 95 (.faddr 0) [.t 94] 93 false,oG 96 (.faddr 2) [.t 95] 93 false,oG 97 (.load none) [.t 96] 93 false,oG 98 (.faddr 0) [.t 6] 93 false,oG 99 (.load none) [.t 98] 93 false,
 oG 100 (.bin .neq) [.t 97,.t 99] 93 false,oP 101 .pick [.t 93,cBo true,.t 100],oMv 102 101,oG 103 (.faddr 1) [.t 8] 102 false,oG 104 (.faddr 0) [.t 103] 102 false,oG 105 (.faddr 3) [.t 104] 102 false,oG 106 (.load none) [.t 105] 102 false,
 oG 107 .len [.t 106] 102 false,oG 108 (.faddr 1) [.t 6] 102 false,oG 109 (.load none) [.t 108] 102 false,oG 110 (.bin .neq) [.t 107,.t 109] 102 false,oP 111 .pick [.t 102,cBo true,.t 110]]
def c13r19:LO:=[oP 4 .mv [cBo false]]
def c13k20:ACode:=.cond (.t 111) (.seq (rT c13r19 [4]) (.exit 0)) .skip
def c13k21:ACode:=.block 3 (.seq (rT c13r16 [1,3,4,6,8,30,31,32,59,60,61]) (.seq (rT c13r17 [1,3,4,6,8,30,31,32,59,60,61]) (.seq (rT c13r18 [1,3,4,6,30,31,32,59,60,61,111]) c13k20)))
def c13r22:LO:=[oBc 112 .add 61 1,oMv 61 112]
def c13b23:ACode:=.seq (rT c13r14 [1,3,4,6,30,31,32,59,60,61,62]) (.seq c13k15 (.seq c13k21 (rT c13r22 [1,3,4,6,30,31,32,59,60,61])))
def c13k24:ACode:=.block 2 (.loop [1,3,4,6,30,31,32,59,60,61] c13b23)
def c13k25:ACode:=.block 1 (.seq (rT c13r9 [1,3,4,5,6,30,31,32]) (.seq (.seq (rT c13r10 [1,3,4,6,30,31,32,57]) c13k12) (.seq (rT c13r13 [1,3,4,6,30,31,32,59,60,61]) c13k24)))
def c13r26:LO:=[oBc 113 .add 32 1,oMv 32 113]
def c13b27:ACode:=.seq (rT c13r7 [1,3,4,30,31,32,33]) (.seq c13k8 (.seq c13k25 (rT c13r26 [1,3,4,30,31,32])))
def c13k28:ACode:=.block 0 (.loop [1,3,4,30,31,32] c13b27)
def c13r29:LO:=[oMv 114 4,oMv 2 114]
def c13:ACode:=.seq (rT c13r0 [1]) (.seq (.seq (rT c13r1 [1,27]) c13k3) (.seq (rT c13r4 [1,3]) (.seq (rT c13r5 [1,3,4]) (.seq .skip (.seq (.seq (rT c13r6 [1,3,4,30,31,32]) c13k28) (.seq (rT c13r29 [2]) .ret))))))
def g13:AFn:=⟨1,[(2,none)],c13,false,[],[],none⟩
theorem tr13:trFn Tryz.prog false 13 Tryz.f13=some g13:=by kernel_rfl
def c14r0:LO:=[oBx 1 0,oP 2 .mv [cBo false]]
def c14r1:LO:=[oLf 3 1,oCl 4 41 [.t 3],oBc 5 .leq 4 2000,oMv 6 5,oG 7 (.load (some 4)) [.t 1] 6 true,oG 8 .call [cFn 42,.t 7] 6 true,oP 9 .pick [.t 6,.t 8,cBo false],oMv 2 9]
def c14:ACode:=.seq (rT c14r0 [1]) (.seq (rT c14r1 [2]) .ret)
def g14:AFn:=⟨1,[(2,none)],c14,false,[],[],none⟩
theorem tr14:trFn Tryz.prog false 14 Tryz.f14=some g14:=by kernel_rfl
def c16r0:LO:=[oP 4 .mv [cBo false]]
def c16r1:LO:=[oMv 5 0,oMv 6 1,oCl 7 49 [.t 5,.t 6],oBc 8 .geq 7 0,oMv 4 8]
def c16:ACode:=.seq (rT c16r0 [0,1]) (.seq (rT c16r1 [4]) .ret)
def g16:AFn:=⟨2,[(4,none)],c16,false,[],[],none⟩
theorem tr16:trFn Tryz.prog false 16 Tryz.f16=some g16:=by kernel_rfl
def c18r0:LO:=[oP 0 (.alloc (some 9) (.pv (some 9) (.agg [(none,(.str [])),(none,(.str [])),(none,(.str [])),(none,(.str [])),(none,(.str [])),(none,(.str [])),(none,(.str [])),(none,(.str [])),(none,(.str []))]))) []]
def c18r1:LO:=[oP 1 (.build [(none,(.pv none (.str []))),(none,(.pv none (.str []))),(none,(.pv none (.str []))),(none,(.pv none (.str []))),(none,(.pv none (.str []))),(none,(.pv none (.str []))),(none,(.pv none (.str []))),(none,(.pv none (.str []))),(none,(.pv none (.str [])))] [0,1,2,3,4,5,6,7,8]) [cSt [116,114,117,101,32,102,97,105,108,32,33,32,104,97,108,116,32,110,108,32,102,108,117,115,104,95,111,117,116,112,117,116,32,97,116,95,101,110,100,95,111,102,95,115,116,114,101,97,109],cSt [92,43,32,111,110,99,101,32,99,97,108,108,32,116,104,114,111,119,32,114,101,116,114,97,99,116,32,118,97,114,32,110,111,110,118,97,114,32,97,116,111,109,32,105,110,116,101,103,101,114,32,97,116,111,109,105,99,32,99,111,109,112,111,117,110,100,32,99,97,108,108,97,98,108,101,32,105,115,95,108,105,115,116,32,103,114,111,117,110,100,32,97,115,115,101,114,116,97,32,97,115,115,101,114,116,122,32,97,98,111,108,105,115,104,32,100,121,110,97,109,105,99,32,99,117,114,114,101,110,116,95,112,114,101,100,105,99,97,116,101,32,36,101,114,97,115,101,32,99,117,114,114,101,110,116,95,105,110,112,117,116,32,99,117,114,114,101,110,116,95,111,117,116,112,117,116,32,115,101,116,95,105,110,112,117,116,32,115,101,116,95,111,117,116,112,117,116,32,99,108,111,115,101,32,102,108,117,115,104,95,111,117,116,112,117,116,32,97,116,95,101,110,100,95,111,102,95,115,116,114,101,97,109,32,103,101,116,95,99,104,97,114,32,112,101,101,107,95,99,104,97,114,32,112,117,116,95,99,104,97,114,32,103,101,116,95,99,111,100,101,32,112,101,101,107,95,99,111,100,101,32,112,117,116,95,99,111,100,101,32,110,108,32,114,101,97,100,32,119,114,105,116,101,32,119,114,105,116,101,113,32,119,114,105,116,101,95,99,97,110,111,110,105,99,97,108],cSt [44,32,59,32,45,62,32,61,32,100,101,108,95,97,116,116,114,32,99,97,108,108,32,99,117,114,114,101,110,116,95,99,104,97,114,95,99,111,110,118,101,114,115,105,111,110,32,99,104,97,114,95,99,111,110,118,101,114,115,105,111,110,32,115,101,116,95,112,114,111,108,111,103,95,102,108,97,103,32,99,117,114,114,101,110,116,95,112,114,111,108,111,103,95,102,108,97,103,32,105,115,32,61,58,61,32,61,92,61,32,60,32,62,32,61,60,32,62,61,32,61,61,32,92,61,61,32,64,60,32,64,61,60,32,64,62,32,64,62,61,32,92,61,32,61,46,46,32,99,111,112,121,95,116,101,114,109,32,116,101,114,109,95,118,97,114,105,97,98,108,101,115,32,108,101,110,103,116,104,32,109,115,111,114,116,32,115,111,114,116,32,107,101,121,115,111,114,116,32,97,116,111,109,95,108,101,110,103,116,104,32,97,116,111,109,95,99,104,97,114,115,32,97,116,111,109,95,99,111,100,101,115,32,99,104,97,114,95,99,111,100,101,32,110,117,109,98,101,114,95,99,104,97,114,115,32,110,117,109,98,101,114,95,99,111,100,101,115,32,99,108,97,117,115,101,32,99,108,111,115,101,32,103,101,116,95,99,104,97,114,32,112,101,101,107,95,99,104,97,114,32,112,117,116,95,99,104,97,114,32,103,101,116,95,99,111,100,101,32,112,101,101,107,95,99,111,100,101,32,112,117,116,95,99,111,100,101,32,114,101,97,100,32,114,101,97,100,95,116,101,114,109,32,119,114,105,116,101,32,119,114,105,116,101,113,32,119,114,105,116,101,95,99,97,110,111,110,105,99,97,108,32,119,114,105,116,101,95,116,101,114,109],cSt [99,97,108,108,32,99,97,116,99,104,32,102,105,110,100,97,108,108,32,98,97,103,111,102,32,115,101,116,111,102,32,112,117,116,95,97,116,116,114,32,103,101,116,95,97,116,116,114,32,111,112,32,99,117,114,114,101,110,116,95,111,112,32,99,111,109,112,97,114,101,32,102,117,110,99,116,111,114,32,97,114,103,32,98,101,116,119,101,101,110,32,97,116,111,109,95,99,111,110,99,97,116,32,36,99,108,97,117,115,101,32,36,98,97,103,32,36,115,101,116,32,111,112,101,110,32,114,101,97,100,95,116,101,114,109,32,119,114,105,116,101,95,116,101,114,109],cSt [99,97,108,108,32,111,112,101,110],cSt [99,97,108,108,32,115,117,98,95,97,116,111,109],cSt [99,97,108,108],cSt [99,97,108,108],cSt [99,97,108,108]],
 ⟨none,(.store (some 9)),[.t 0,.t 1],none⟩]
def c18:ACode:=.seq (rT c18r0 [0]) (.seq (rT c18r1 [0]) .ret)
def g18:AFn:=⟨0,[(0,some (some 9))],c18,false,[],[],none⟩
theorem tr18:trFn Tryz.prog false 18 Tryz.f18=some g18:=by kernel_rfl
def c19r0:LO:=[oP 2 (.nilsl none) []]
def c19r1:LO:=[oMv 3 0]
def c19r2:LO:=[oBc 5 .eql 3 0,oMv 4 5]
def c19r3:LO:=[oP 6 (.bslice none) [cSt [116,114,117,101],cSt [102,97,105,108],cSt [33],cSt [104,97,108,116],cSt [110,108],cSt [102,108,117,115,104,95,111,117,116,112,117,116],cSt [97,116,95,101,110,100,95,111,102,95,115,116,114,101,97,109]],
 oMv 2 6]
def c19r4:LO:=[oBc 8 .eql 3 1,oMv 7 8]
def c19r5:LO:=[oP 9 (.bslice none) [cSt [92,43],cSt [111,110,99,101],cSt [99,97,108,108],cSt [116,104,114,111,119],cSt [114,101,116,114,97,99,116],cSt [118,97,114],cSt [110,111,110,118,97,114],cSt [97,116,111,109],cSt [105,110,116,101,103,101,114],cSt [97,116,111,109,105,99],cSt [99,111,109,112,111,117,110,100],cSt [99,97,108,108,97,98,108,101],cSt [105,115,95,108,105,115,116],cSt [103,114,111,117,110,100],cSt [97,115,115,101,114,116,97],cSt [97,115,115,101,114,116,122],cSt [97,98,111,108,105,115,104],cSt [100,121,110,97,109,105,99],cSt [99,117,114,114,101,110,116,95,112,114,101,100,105,99,97,116,101],cSt [36,101,114,97,115,101],cSt [99,117,114,114,101,110,116,95,105,110,112,117,116],cSt [99,117,114,114,101,110,116,95,111,117,116,112,117,116],cSt [115,101,116,95,105,110,112,117,116],cSt [115,101,116,95,111,117,116,112,117,116],cSt [99,108,111,115,101],cSt [102,108,117,115,104,95,111,117,116,112,117,116],cSt [97,116,95,101,110,100,95,111,102,95,115,116,114,101,97,109],cSt [103,101,116,95,99,104,97,114],cSt [112,101,101,107,95,99,104,97,114],cSt [112,117,116,95,99,104,97,114],cSt [103,101,116,95,99,111,100,101],cSt [112,101,101,107,95,99,111,100,101],cSt [112,117,116,95,99,111,100,101],cSt [110,108],cSt [114,101,97,100],cSt [119,114,105,116,101],cSt [119,114,105,116,101,113],cSt [119,114,105,116,101,95,99,97,110,111,110,105,99,97,108]],
 oMv 2 9]
def c19r6:LO:=[oBc 11 .eql 3 2,oMv 10 11]
def c19r7:LO:=[oP 12 (.bslice none) [cSt [44],cSt [59],cSt [45,62],cSt [61],cSt [100,101,108,95,97,116,116,114],cSt [99,97,108,108],cSt [99,117,114,114,101,110,116,95,99,104,97,114,95,99,111,110,118,101,114,115,105,111,110],cSt [99,104,97,114,95,99,111,110,118,101,114,115,105,111,110],cSt [115,101,116,95,112,114,111,108,111,103,95,102,108,97,103],cSt [99,117,114,114,101,110,116,95,112,114,111,108,111,103,95,102,108,97,103],cSt [105,115],cSt [61,58,61],cSt [61,92,61],cSt [60],cSt [62],cSt [61,60],cSt [62,61],cSt [61,61],cSt [92,61,61],cSt [64,60],cSt [64,61,60],cSt [64,62],cSt [64,62,61],cSt [92,61],cSt [61,46,46],cSt [99,111,112,121,95,116,101,114,109],cSt [116,101,114,109,95,118,97,114,105,97,98,108,101,115],cSt [108,101,110,103,116,104],cSt [109,115,111,114,116],cSt [115,111,114,116],cSt [107,101,121,115,111,114,116],cSt [97,116,111,109,95,108,101,110,103,116,104],cSt [97,116,111,109,95,99,104,97,114,115],cSt [97,116,111,109,95,99,111,100,101,115],cSt [99,104,97,114,95,99,111,100,101],cSt [110,117,109,98,101,114,95,99,104,97,114,115],cSt [110,117,109,98,101,114,95,99,111,100,101,115],cSt [99,108,97,117,115,101],cSt [99,108,111,115,101],cSt [103,101,116,95,99,104,97,114],cSt [112,101,101,107,95,99,104,97,114],cSt [112,117,116,95,99,104,97,114],cSt [103,101,116,95,99,111,100,101],cSt [112,101,101,107,95,99,111,100,101],cSt [112,117,116,95,99,111,100,101],cSt [114,101,97,100],cSt [114,101,97,100,95,116,101,114,109],cSt [119,114,105,116,101],cSt [119,114,105,116,101,113],cSt [119,114,105,116,101,95,99,97,110,111,110,105,99,97,108],cSt [119,114,105,116,101,95,116,101,114,109]],
 oMv 2 12]
def c19r8:LO:=[oBc 14 .eql 3 3,oMv 13 14]
def c19r9:LO:=[oP 15 (.bslice none) [cSt [99,97,108,108],cSt [99,97,116,99,104],cSt [102,105,110,100,97,108,108],cSt [98,97,103,111,102],cSt [115,101,116,111,102],cSt [112,117,116,95,97,116,116,114],cSt [103,101,116,95,97,116,116,114],cSt [111,112],cSt [99,117,114,114,101,110,116,95,111,112],cSt [99,111,109,112,97,114,101],cSt [102,117,110,99,116,111,114],cSt [97,114,103],cSt [98,101,116,119,101,101,110],cSt [97,116,111,109,95,99,111,110,99,97,116],cSt [36,99,108,97,117,115,101],cSt [36,98,97,103],cSt [36,115,101,116],cSt [111,112,101,110],cSt [114,101,97,100,95,116,101,114,109],cSt [119,114,105,116,101,95,116,101,114,109]],
 oMv 2 15]
def c19r10:LO:=[oBc 17 .eql 3 4,oMv 16 17]
def c19r11:LO:=[oP 18 (.bslice none) [cSt [99,97,108,108],cSt [111,112,101,110]],oMv 2 18]
def c19r12:LO:=[oBc 20 .eql 3 5,oMv 19 20]
def c19r13:LO:=[oP 21 (.bslice none) [cSt [99,97,108,108],cSt [115,117,98,95,97,116,111,109]],oMv 2 21]
def c19r14:LO:=[oBc 23 .eql 3 6,oMv 22 23]
def c19r15:LO:=[oBc 24 .eql 3 7,oMv 22 24]
def c19r16:LO:=[oBc 25 .eql 3 8,oMv 22 25]
def c19k17:ACode:=.cond (.t 22) .skip (rT c19r16 [22])
def c19k18:ACode:=.cond (.t 22) .skip (.seq (rT c19r15 [3,22]) c19k17)
def c19r19:LO:=[oP 26 (.bslice none) [cSt [99,97,108,108]],oMv 2 26]
def c19k20:ACode:=kRt 22 c19r19 [2]
def c19k21:ACode:=.cond (.t 19) (.seq (rT c19r13 [2]) .ret) (.seq (.seq (rT c19r14 [3,22]) c19k18) c19k20)
def c19k22:ACode:=.cond (.t 16) (.seq (rT c19r11 [2]) .ret) (.seq (rT c19r12 [3,19]) c19k21)
def c19k23:ACode:=.cond (.t 13) (.seq (rT c19r9 [2]) .ret) (.seq (rT c19r10 [3,16]) c19k22)
def c19k24:ACode:=.cond (.t 10) (.seq (rT c19r7 [2]) .ret) (.seq (rT c19r8 [3,13]) c19k23)
def c19k25:ACode:=.cond (.t 7) (.seq (rT c19r5 [2]) .ret) (.seq (rT c19r6 [3,10]) c19k24)
def c19k26:ACode:=.cond (.t 4) (.seq (rT c19r3 [2]) .ret) (.seq (rT c19r4 [3,7]) c19k25)
def c19k27:ACode:=.block 0 (.seq (rT c19r2 [3,4]) c19k26)
def c19r28:LO:=[oP 2 (.nilsl none) []]
def c19:ACode:=.seq (rT c19r0 [0]) (.seq (.seq (rT c19r1 [3]) c19k27) (.seq (rT c19r28 [2]) .ret))
def g19:AFn:=⟨1,[(2,none)],c19,false,[],[],none⟩
theorem tr19:trFn Tryz.prog false 19 Tryz.f19=some g19:=by kernel_rfl
def c20r0:LO:=[oP 0 (.alloc (some 2) (.agg [(none,(.pv none (.int .i64 0))),(none,(.nilv (some 4)))])) [],oP 1 .mv [cBo false]]
def c20r1:LO:=[oCl 3 25 [cIn 0],oUn 4 (.bslice (some 4)) 3,oCl 5 23 [cSt [112],.t 4],oCl 6 25 [cIn 0],oCl 7 25 [cIn 1],oP 8 (.bslice (some 4)) [.t 6,.t 7],oCl 9 23 [cSt [113],.t 8],oP 10 (.bslice (some 4)) [.t 5,.t 9],
 oCl 11 23 [cSt [58,45],.t 10],oUn 12 (.bslice (some 4)) 11,oCl 13 23 [cSt [97,115,115,101,114,116,122],.t 12],oP 2 aZ [],oSf 2 13]
def c20r2:LO:=[oP 14 .callp [cFn 52],oLf 15 2,oLf 16 2,oUn 17 (.bslicep (some 4)) 16,oP 18 .callp [cFn 22,.t 14,.t 15,.t 17],oEx 19 0 18,oEx 20 1 18,⟨none,(.store (some 2)),[.t 0,.t 19],none⟩,oMv 1 20]
def c20:ACode:=.seq (rT c20r0 [0]) (.seq (rT c20r1 [0,2]) (.seq (.seq (.settle [2]) (rT c20r2 [0,1])) .ret))
def g20:AFn:=⟨0,[(0,some (some 2)),(1,none)],c20,false,[],[],none⟩
theorem tr20:trFn Tryz.prog false 20 Tryz.f20=some g20:=by kernel_rfl
def c21r0:LO:=[oUn 3 (.box (some 2)) 0,oP 6 (.alloc (some 4) (.agg [(none,(.pv none (.str []))),(none,(.pv none (.int .i64 0))),(none,(.pv none (.bool false))),(none,(.tsl (some 9) []))])) [],oP 7 .mv [cBo false]]
def c21r1:LO:=[oUn 9 (.load (some 2)) 3,oCl 10 13 [.t 9],oUn 11 .not 10]
def c21r2:LO:=[oP 12 (.build [(none,(.pv none (.str []))),(none,(.pv none (.int .i64 0))),(none,(.pv none (.bool false))),(none,(.tsl (some 9) []))] []) [],oSf 6 12,oP 7 .mv [cBo false]]
def c21k3:ACode:=kRt 11 c21r2 [6,7]
def c21r4:LO:=[oUn 14 (.load (some 2)) 3,oMv 15 1,oMv 16 2,oCl 17 53 [.t 14,.t 15,.t 16],oMv 13 17,oEx 18 0 13,oEx 19 1 13,oMv 8 18,oMv 7 19]
def c21r5:LO:=[oMv 20 7,oUn 21 .not 20]
def c21r6:LO:=[oP 22 (.build [(none,(.pv none (.str []))),(none,(.pv none (.int .i64 0))),(none,(.pv none (.bool false))),(none,(.tsl (some 9) []))] []) [],oSf 6 22,oP 7 .mv [cBo false]]
def c21k7:ACode:=kRt 21 c21r6 [6,7]
def c21r8:LO:=[oFa 23 1 3,oLo 24 23,oMv 25 8,oIa 26 24 25,oLf 27 26,oCl 28 54 [.t 27],oSf 6 28,oP 7 .mv [cBo true]]
def c21:ACode:=.seq (rT c21r0 [1,2,3,6]) (.seq (.seq (rT c21r1 [1,2,3,6,11]) c21k3) (.seq (rT c21r4 [3,6,7,8]) (.seq (.seq (rT c21r5 [3,6,8,21]) c21k7) (.seq (rT c21r8 [6,7]) .ret))))
def g21:AFn:=⟨3,[(6,some (some 4)),(7,none)],c21,false,[],[],none⟩
theorem tr21:trFn Tryz.prog false 21 Tryz.f21=some g21:=by kernel_rfl
def c22r0:LO:=[oUn 3 (.box (some 2)) 0,oBx 4 1,oP 6 (.alloc (some 2) (.agg [(none,(.pv none (.int .i64 0))),(none,(.nilv (some 4)))])) [],oP 7 .mv [cBo false]]
def c22r1:LO:=[oUn 13 (.load (some 2)) 3,oLf 14 4,oCl 15 10 [.t 13,.t 14],oMv 12 15,oEx 16 0 12,oEx 17 1 12,oEx 18 2 12,oEx 19 3 12,oP 8 (.alloc (some 2) (.agg [(none,(.pv none (.int .i64 0))),(none,(.nilv (some 4)))])) [],
 oP 10 aZ [],⟨none,(.store (some 2)),[.t 8,.t 16],none⟩,oMv 9 17,oSf 10 18,oMv 11 19]
def c22r2:LO:=[oUn 20 (.load (some 2)) 8,oMv 21 11,oBc 22 .eql 21 0,oMv 23 22,oG 24 .mv [.t 9] 23 true,oG 25 .mv [.t 2] 23 true,oG 26 .callp [cFn 55,.t 24,.t 25] 23 true,oP 27 .pick [.t 23,.t 26,cBo false],oMv 28 27,
 oG 29 (.load (some 4)) [.t 10] 28 true,oG 30 (bZ []) [] 28 true,oG 31 .callp [cFn 12,.t 29,.t 30] 28 true,oP 32 .pick [.t 28,.t 31,cBo false],⟨none,(.store (some 2)),[.t 6,.t 20],none⟩,oMv 7 32]
def c22:ACode:=.seq (rT c22r0 [2,3,4,6]) (.seq (rT c22r1 [2,6,8,9,10,11]) (.seq (.seq (.settle [2,9,10]) (rT c22r2 [6,7])) .ret))
def g22:AFn:=⟨3,[(6,some (some 2)),(7,none)],c22,false,[],[],none⟩
theorem tr22:trFn Tryz.prog false 22 Tryz.f22=some g22:=by kernel_rfl
def c23r0:LO:=[oP 4 aZ []]
def c23r1:LO:=[oMv 5 0,oMv 6 1,oP 7 (bZ [0,2,3]) [cIn 3,.t 5,.t 6],oSf 4 7]
def c23:ACode:=.seq (rT c23r0 [0,1,4]) (.seq (rT c23r1 [4]) .ret)
def g23:AFn:=⟨2,[(4,some (some 4))],c23,false,[],[],none⟩
theorem tr23:trFn Tryz.prog false 23 Tryz.f23=some g23:=by kernel_rfl
def c24r0:LO:=[oP 2 aZ []]
def c24r1:LO:=[oMv 3 0,oP 4 (bZ [0,2]) [cIn 2,.t 3],oSf 2 4]
def c24:ACode:=.seq (rT c24r0 [0,2]) (.seq (rT c24r1 [2]) .ret)
def g24:AFn:=⟨1,[(2,some (some 4))],c24,false,[],[],none⟩
theorem tr24:trFn Tryz.prog false 24 Tryz.f24=some g24:=by kernel_rfl
def c25r0:LO:=[oP 2 aZ []]
def c25r1:LO:=[oMv 3 0,oP 4 (bZ [1]) [.t 3],oSf 2 4]
def c25:ACode:=.seq (rT c25r0 [0,2]) (.seq (rT c25r1 [2]) .ret)
def g25:AFn:=⟨1,[(2,some (some 4))],c25,false,[],[],none⟩
theorem tr25:trFn Tryz.prog false 25 Tryz.f25=some g25:=by kernel_rfl
def c26r0:LO:=[oP 2 aZ []]
def c26r1:LO:=[oMv 3 0,oP 4 (bZ [0,1]) [cIn 1,.t 3],oSf 2 4]
def c26:ACode:=.seq (rT c26r0 [0,2]) (.seq (rT c26r1 [2]) .ret)
def g26:AFn:=⟨1,[(2,some (some 4))],c26,false,[],[],none⟩
theorem tr26:trFn Tryz.prog false 26 Tryz.f26=some g26:=by kernel_rfl
def c27r0:LO:=[oUn 1 (.box (some 2)) 0,oP 2 .mv [cIn 0]]
def c27r1:LO:=[oUn 3 (.load (some 2)) 1,oCl 4 13 [.t 3],oUn 5 .not 4]
def c27r2:LO:=[oP 2 .mv [cIn 0]]
def c27k3:ACode:=kRt 5 c27r2 [2]
def c27r4:LO:=[oUn 6 (.load (some 2)) 1,oCl 7 37 [.t 6],oMv 2 7]
def c27:ACode:=.seq (rT c27r0 [1]) (.seq (.seq (rT c27r1 [1,5]) c27k3) (.seq (rT c27r4 [2]) .ret))
def g27:AFn:=⟨1,[(2,none)],c27,false,[],[],none⟩
theorem tr27:trFn Tryz.prog false 27 Tryz.f27=some g27:=by kernel_rfl
def c28r0:LO:=[oUn 3 (.box (some 2)) 0,oBx 4 1,oBx 5 2,oP 6 .mv [cBo false]]
def c28r1:LO:=[oUn 12 (.load (some 2)) 3,oLf 13 4,oCl 14 10 [.t 12,.t 13],oMv 11 14,oEx 15 0 11,oEx 16 1 11,oEx 17 2 11,oEx 18 3 11,oP 7 (.alloc (some 2) (.agg [(none,(.pv none (.int .i64 0))),(none,(.nilv (some 4)))])) [],
 oP 9 aZ [],⟨none,(.store (some 2)),[.t 7,.t 15],none⟩,oMv 8 16,oSf 9 17,oMv 10 18]
def c28r2:LO:=[oMv 19 10,oBc 20 .eql 19 8,oMv 21 20,oG 22 .mv [.t 8] 21 true,oG 23 .len [.t 22] 21 true,oG 24 (.bin .eql) [.t 23,cIn 0] 21 true,oP 25 .pick [.t 21,.t 24,cBo false],oMv 26 25,oG 27 (.load (some 2)) [.t 7] 26 true,
 oG 28 (.build [(none,(.pv none (.int .i64 0))),(none,(.nilv (some 4)))] []) [] 26 true,oG 29 .callp [cFn 11,.t 27,.t 28] 26 true,oP 30 .pick [.t 26,.t 29,cBo false],oMv 31 30,oG 32 (.load (some 4)) [.t 9] 31 true,oG 33 (.load (some 4)) [.t 5] 31 true,
 oG 34 .callp [cFn 24,cSt [91,93]] 31 true,oG 35 (.bslicep (some 4)) [.t 33,.t 34] 31 true,oG 36 .callp [cFn 23,cSt [101,114,114,111,114],.t 35] 31 true,oG 37 .callp [cFn 12,.t 32,.t 36] 31 true,oP 38 .pick [.t 31,.t 37,cBo false],
 oMv 6 38]
def c28:ACode:=.seq (rT c28r0 [3,4,5]) (.seq (rT c28r1 [5,7,8,9,10]) (.seq (.seq (.settle [5,7,9]) (rT c28r2 [6])) .ret))
def g28:AFn:=⟨3,[(6,none)],c28,false,[],[],none⟩
theorem tr28:trFn Tryz.prog false 28 Tryz.f28=some g28:=by kernel_rfl
def c29r0:LO:=[oBx 1 0,oP 2 .mv [cBo false]]
def c29r1:LO:=[oLf 3 1,oCl 4 56 [.t 3],oBc 5 .leq 4 2000,oMv 6 5,oG 7 (.load (some 4)) [.t 1] 6 true,oG 8 .call [cFn 57,.t 7] 6 true,oP 9 .pick [.t 6,.t 8,cBo false],oMv 2 9]
def c29:ACode:=.seq (rT c29r0 [1]) (.seq (rT c29r1 [2]) .ret)
def g29:AFn:=⟨1,[(2,none)],c29,false,[],[],none⟩
theorem tr29:trFn Tryz.prog false 29 Tryz.f29=some g29:=by kernel_rfl
def c30r0:LO:=[oBx 2 0,oBx 3 1,oP 4 .mv [cBo false]]
def c30r1:LO:=[oLf 5 2,oCl 6 29 [.t 5],oMv 7 6,oG 8 (.load (some 4)) [.t 3] 7 true,oG 9 .call [cFn 29,.t 8] 7 true,oP 10 .pick [.t 7,.t 9,cBo false],oMv 11 10,oG 12 (.load (some 4)) [.t 2] 11 true,oG 13 (.load (some 4)) [.t 3] 11 true,
 oG 14 .call [cFn 58,.t 12,.t 13] 11 true,oP 15 .pick [.t 11,.t 14,cBo false],oMv 4 15]
def c30:ACode:=.seq (rT c30r0 [2,3]) (.seq (rT c30r1 [4]) .ret)
def g30:AFn:=⟨2,[(4,none)],c30,false,[],[],none⟩
theorem tr30:trFn Tryz.prog false 30 Tryz.f30=some g30:=by kernel_rfl
def c31r0:LO:=[oBx 1 0,oP 2 aZ []]
def c31r1:LO:=[oLf 4 1,oCl 5 29 [.t 4],oUn 6 .not 5]
def c31r2:LO:=[oP 7 (bZ []) [],oSf 2 7]
def c31k3:ACode:=kRt 6 c31r2 [2]
def c31r4:LO:=[oP 8 (.mkmap none) [],oP 3 (.alloc none (.pv none .nilmap)) [],oSo 3 8]
def c31r5:LO:=[oLf 9 1,oUn 10 (.mkfunc (.func 60) 0) 3,oCl 11 59 [.t 9,.t 10],oSf 2 11]
def c31:ACode:=.seq (rT c31r0 [1,2]) (.seq (.seq (rT c31r1 [1,2,6]) c31k3) (.seq (rT c31r4 [1,2,3]) (.seq (rT c31r5 [2]) .ret)))
def g31:AFn:=⟨1,[(2,some (some 4))],c31,false,[],[],none⟩
theorem tr31:trFn Tryz.prog false 31 Tryz.f31=some g31:=by kernel_rfl
def c32r0:LO:=[oP 4 aZ [],oP 5 (.alloc none (.pv none (.int .i64 0))) []]
def c32r1:LO:=[oP 6 (.mkfunc (.func 61) 0) [.t 4,.t 5]]
def c32r2:LO:=[oMv 7 1,oMv 8 0,oP 9 .call [.t 7,.t 8]]
def c32r3:LO:=[oP 10 (bZ []) [],oSf 4 10,⟨none,(.store none),[.t 5,cIn 0],none⟩]
def c32p4:ACode:=(.seq (rT c32r2 [4,5]) (.seq (rT c32r3 [4,5]) (.seq .ret .skip)))
def c32:ACode:=.seq (rT c32r0 [0,1,4,5]) (rT c32r1 [0,1,4,5,6])
def g32:AFn:=⟨2,[(4,some (some 4)),(5,some none)],c32,true,[(.dfr 6,c32p4)],[],none⟩
theorem tr32:trFn Tryz.prog true 32 Tryz.f32=some g32:=by kernel_rfl
def c33r0:LO:=[oBx 1 0,oP 2 aZ []]
def c33r1:LO:=[oLf 3 1,oCl 4 29 [.t 3],oUn 5 .not 4]
def c33r2:LO:=[oP 6 (bZ []) [],oSf 2 6]
def c33k3:ACode:=kRt 5 c33r2 [2]
def c33r4:LO:=[oLf 7 1,oCl 8 59 [.t 7,cFn 62],oSf 2 8]
def c33:ACode:=.seq (rT c33r0 [1,2]) (.seq (.seq (rT c33r1 [1,2,5]) c33k3) (.seq (rT c33r4 [2]) .ret))
def g33:AFn:=⟨1,[(2,some (some 4))],c33,false,[],[],none⟩
theorem tr33:trFn Tryz.prog false 33 Tryz.f33=some g33:=by kernel_rfl
def c34r0:LO:=[oUn 1 (.box (some 2)) 0,oP 2 (.alloc (some 2) (.agg [(none,(.pv none (.int .i64 0))),(none,(.nilv (some 4)))])) []]
def c34r1:LO:=[oFa 9 0 1,oLo 10 9,oP 11 (.build [(none,(.pv none (.int .i64 0))),(none,(.nilv (some 4)))] [0]) [.t 10],oP 3 (.alloc (some 2) (.agg [(none,(.pv none (.int .i64 0))),(none,(.nilv (some 4)))])) [],⟨none,(.store (some 2)),[.t 3,.t 11],none⟩]
def c34r2:LO:=[oFa 12 1 1,oLo 13 12,oUn 14 .len 13,oP 15 .mv [cIn 0]]
def c34r3:LO:=[oBi 16 .lss 15 14]
def c34k4:ACode:=kEx 16 0
def c34r5:LO:=[oIa 17 13 15,oLf 18 17,oP 5 (.alloc (some 4) (.agg [(none,(.pv none (.str []))),(none,(.pv none (.int .i64 0))),(none,(.pv none (.bool false))),(none,(.tsl (some 9) []))])) [],oSf 5 18]
def c34r6:LO:=[oFa 19 3 5,oLo 20 19,oMv 6 20]
def c34r7:LO:=[oFa 21 3 5,⟨none,(.store none),[.t 21,.c (.tsl (some 9) [])],none⟩]
def c34r8:LO:=[oMv 22 6,oUn 23 .len 22,oP 24 .mv [cIn 0]]
def c34r9:LO:=[oBi 25 .lss 24 23]
def c34k10:ACode:=kEx 25 2
def c34r11:LO:=[oP 26 (.iaddr (some 9)) [.t 22,.t 24],oUn 27 (.load (some 9)) 26,oP 8 (.alloc (some 9) (.agg [(none,(.pv none (.int .i64 0))),((some 8),(.agg [((some 4),(.agg [(none,(.pv none (.int .i64 0))),(none,(.pv none (.int .i64 0))),(none,(.pv none (.str []))),(none,(.tsl (some 4) []))])),((some 4),(.agg [(none,(.pv none (.int .i64 0))),(none,(.pv none (.int .i64 0))),(none,(.pv none (.str []))),(none,(.tsl (some 4) []))]))]))])) [],
 ⟨none,(.store (some 9)),[.t 8,.t 27],none⟩]
def c34r12:LO:=[oFa 28 3 5,oLo 29 28,oFa 30 0 8,oLo 31 30,oFa 32 1 8,oFa 33 0 32,oLf 34 33,oP 35 .callp [cFn 33,.t 34],oFa 36 1 8,oFa 37 4 36,oLf 38 37,oP 39 .callp [cFn 33,.t 38],oP 40 (.build [((some 4),(.agg [(none,(.pv none (.int .i64 0))),(none,(.pv none (.int .i64 0))),(none,(.pv none (.str []))),(none,(.tsl (some 4) []))])),((some 4),(.agg [(none,(.pv none (.int .i64 0))),(none,(.pv none (.int .i64 0))),(none,(.pv none (.str []))),(none,(.tsl (some 4) []))]))] [0,1]) [.t 35,.t 39],
 oP 41 (.build [(none,(.pv none (.int .i64 0))),((some 8),(.agg [((some 4),(.agg [(none,(.pv none (.int .i64 0))),(none,(.pv none (.int .i64 0))),(none,(.pv none (.str []))),(none,(.tsl (some 4) []))])),((some 4),(.agg [(none,(.pv none (.int .i64 0))),(none,(.pv none (.int .i64 0))),(none,(.pv none (.str []))),(none,(.tsl (some 4) []))]))]))] [0,1]) [.t 31,.t 40],
 oUn 42 (.bslicep (some 9)) 41,oP 43 (.append (some 9)) [.t 29,.t 42],oFa 44 3 5,oSo 44 43]
def c34k13:ACode:=.block 3 (.seq (rT c34r11 [2,3,5,8,13,14,15,22,23,24]) (.seq (.settle []) (rT c34r12 [2,3,5,13,14,15,22,23,24])))
def c34r14:LO:=[oBc 45 .add 24 1,oMv 24 45]
def c34b15:ACode:=.seq (rT c34r9 [2,3,5,13,14,15,22,23,24,25]) (.seq c34k10 (.seq c34k13 (rT c34r14 [2,3,5,13,14,15,22,23,24])))
def c34k16:ACode:=.block 2 (.loop [2,3,5,13,14,15,22,23,24] c34b15)
def c34r17:LO:=[oFa 46 1 3,oLo 47 46,oLf 48 5,oUn 49 (.bslov (some 4)) 48,oP 50 (.appendv (some 4)) [.t 47,.t 49],oFa 51 1 3,oSo 51 50]
def c34k18:ACode:=.block 1 (.seq (rT c34r5 [2,3,5,13,14,15]) (.seq (rT c34r6 [2,3,5,6,13,14,15]) (.seq (rT c34r7 [2,3,5,6,13,14,15]) (.seq (.seq (rT c34r8 [2,3,5,13,14,15,22,23,24]) c34k16) (rT c34r17 [2,3,13,14,15])))))
def c34r19:LO:=[oBc 52 .add 15 1,oMv 15 52]
def c34b20:ACode:=.seq (rT c34r3 [2,3,13,14,15,16]) (.seq c34k4 (.seq c34k18 (rT c34r19 [2,3,13,14,15])))
def c34k21:ACode:=.block 0 (.loop [2,3,13,14,15] c34b20)
def c34r22:LO:=[oUn 53 (.load (some 2)) 3,⟨none,(.store (some 2)),[.t 2,.t 53],none⟩]
def c34:ACode:=.seq (rT c34r0 [1,2]) (.seq (rT c34r1 [1,2,3]) (.seq (.seq (rT c34r2 [2,3,13,14,15]) c34k21) (.seq (rT c34r22 [2]) .ret)))
def g34:AFn:=⟨1,[(2,some (some 2))],c34,false,[],[],none⟩
theorem tr34:trFn Tryz.prog false 34 Tryz.f34=some g34:=by kernel_rfl
def c35r0:LO:=[oBx 2 0,oBx 3 1,oP 4 .mv [cBo false]]
def c35r1:LO:=[oFa 6 0 2,oLo 7 6,oFa 8 0 3,oLo 9 8,oBi 10 .neq 7 9,oMv 11 10,oG 12 (.faddr 1) [.t 2] 11 false,oG 13 (.load none) [.t 12] 11 false,oG 14 (.faddr 1) [.t 3] 11 false,oG 15 (.load none) [.t 14] 11 false,oG 16 (.bin .neq) [.t 13,.t 15] 11 false,
 oP 17 .pick [.t 11,cBo true,.t 16],oMv 18 17,oG 19 (.faddr 2) [.t 2] 18 false,oG 20 (.load none) [.t 19] 18 false,oG 21 (.faddr 2) [.t 3] 18 false,oG 22 (.load none) [.t 21] 18 false,oG 23 (.binb .neq) [.t 20,.t 22] 18 false,
 oP 24 .pick [.t 18,cBo true,.t 23],oMv 25 24,oG 26 (.faddr 3) [.t 2] 25 false,oG 27 (.load none) [.t 26] 25 false,oG 28 .len [.t 27] 25 false,oG 29 (.faddr 3) [.t 3] 25 false,oG 30 (.load none) [.t 29] 25 false,oG 31 .len [.t 30] 25 false,
 oG 32 (.bin .neq) [.t 28,.t 31] 25 false,oP 33 .pick [.t 25,cBo true,.t 32]]
def c35r2:LO:=[oP 4 .mv [cBo false]]
def c35k3:ACode:=kRt 33 c35r2 [4]
def c35r4:LO:=[oP 5 .mv [cIn 0]]
def c35r5:LO:=[oMv 34 5,oFa 35 3 2,oLo 36 35,oUn 37 .len 36,oBi 38 .lss 34 37]
def c35k6:ACode:=kEx 38 0
def c35r7:LO:=[oFa 41 3 2,oLo 42 41,oMv 43 5,oP 44 (.iaddr (some 9)) [.t 42,.t 43],oUn 45 (.load (some 9)) 44,oFa 46 3 3,oLo 47 46,oMv 48 5,oP 49 (.iaddr (some 9)) [.t 47,.t 48],oUn 50 (.load (some 9)) 49,oCl 51 63 [.t 45,.t 50],
 oUn 52 .not 51]
def c35r8:LO:=[oP 4 .mv [cBo false]]
def c35k9:ACode:=kRt 52 c35r8 [4]
def c35k10:ACode:=.block 1 (.seq (rT c35r7 [2,3,5,52]) c35k9)
def c35r11:LO:=[oMv 39 5,oBc 40 .add 39 1,oMv 5 40]
def c35b12:ACode:=.seq (.seq (rT c35r5 [2,3,5,38]) c35k6) (.seq c35k10 (rT c35r11 [2,3,5]))
def c35k13:ACode:=.block 0 (.loop [2,3,5] c35b12)
def c35r14:LO:=[oP 4 .mv [cBo true]]
def c35:ACode:=.seq (rT c35r0 [2,3]) (.seq (.seq (rT c35r1 [2,3,33]) c35k3) (.seq (.seq (rT c35r4 [2,3,5]) c35k13) (.seq (rT c35r14 [4]) .ret)))
def g35:AFn:=⟨2,[(4,none)],c35,false,[],[],none⟩
theorem tr35:trFn Tryz.prog false 35 Tryz.f35=some g35:=by kernel_rfl
def c36r0:LO:=[oBx 2 0,oBx 3 1,oP 4 .mv [cBo false]]
def c36r1:LO:=[oLf 5 2,oCl 6 14 [.t 5],oMv 7 6,oG 8 (.load (some 4)) [.t 3] 7 true,oG 9 .call [cFn 14,.t 8] 7 true,oP 10 .pick [.t 7,.t 9,cBo false],oMv 11 10,oG 12 (.load (some 4)) [.t 2] 11 true,oG 13 (.load (some 4)) [.t 3] 11 true,
 oG 14 .call [cFn 64,.t 12,.t 13] 11 true,oP 15 .pick [.t 11,.t 14,cBo false],oMv 4 15]
def c36:ACode:=.seq (rT c36r0 [2,3]) (.seq (rT c36r1 [4]) .ret)
def g36:AFn:=⟨2,[(4,none)],c36,false,[],[],none⟩
theorem tr36:trFn Tryz.prog false 36 Tryz.f36=some g36:=by kernel_rfl
def c37r0:LO:=[oUn 1 (.box (some 2)) 0,oP 2 .mv [cIn 0]]
def c37r1:LO:=[oP 3 .mv [cIn 0]]
def c37r2:LO:=[oFa 6 1 1,oLo 7 6,oUn 8 .len 7,oP 9 .mv [cIn 0]]
def c37r3:LO:=[oBi 10 .lss 9 8]
def c37k4:ACode:=kEx 10 0
def c37r5:LO:=[oIa 11 7 9,oLf 12 11,oP 5 (.alloc (some 4) (.agg [(none,(.pv none (.str []))),(none,(.pv none (.int .i64 0))),(none,(.pv none (.bool false))),(none,(.tsl (some 9) []))])) [],oSf 5 12]
def c37r6:LO:=[oMv 13 3,oFa 14 3 5,oLo 15 14,oUn 16 .len 15,oBi 17 .add 13 16,oMv 3 17]
def c37k7:ACode:=.block 1 (.seq (rT c37r5 [3,5,7,8,9]) (rT c37r6 [3,7,8,9]))
def c37r8:LO:=[oBc 18 .add 9 1,oMv 9 18]
def c37b9:ACode:=.seq (rT c37r3 [3,7,8,9,10]) (.seq c37k4 (.seq c37k7 (rT c37r8 [3,7,8,9])))
def c37k10:ACode:=.block 0 (.loop [3,7,8,9] c37b9)
def c37r11:LO:=[oMv 19 3,oMv 2 19]
def c37:ACode:=.seq (rT c37r0 [1]) (.seq (rT c37r1 [1,3]) (.seq (.seq (rT c37r2 [3,7,8,9]) c37k10) (.seq (rT c37r11 [2]) .ret)))
def g37:AFn:=⟨1,[(2,none)],c37,false,[],[],none⟩
theorem tr37:trFn Tryz.prog false 37 Tryz.f37=some g37:=by kernel_rfl
def c38r0:LO:=[oP 4 .mv [cBo false]]
def c38r1:LO:=[oMv 5 0,oUn 6 .slen 5,oBc 7 .leq 6 100,oMv 8 7,oG 9 .mv [.t 1] 8 true,oG 10 (.bin .geq) [.t 9,cIn 0] 8 true,oP 11 .pick [.t 8,.t 10,cBo false],oMv 12 11,oG 13 .mv [.t 1] 12 true,oG 14 (.bin .leq) [.t 13,cIn 8] 12 true,
 oP 15 .pick [.t 12,.t 14,cBo false],oMv 4 15]
def c38:ACode:=.seq (rT c38r0 [0,1]) (.seq (rT c38r1 [4]) .ret)
def g38:AFn:=⟨2,[(4,none)],c38,false,[],[],none⟩
theorem tr38:trFn Tryz.prog false 38 Tryz.f38=some g38:=by kernel_rfl
def c39r0:LO:=[oBx 2 0,oBx 3 1,oP 4 .mv [cIn 0]]
def c39r1:LO:=[oFa 5 0 2,oLo 6 5,oFa 7 0 3,oLo 8 7,oP 9 .callp [cFn 66,.t 6,.t 8],oFa 10 1 2,oLo 11 10,oFa 12 1 3,oLo 13 12,oP 14 .callp [cFn 67,.t 11,.t 13],oP 15 (.bslicep none) [.t 9,.t 14],oP 16 .callp [cFn 65,.t 15],
 oMv 4 16]
def c39:ACode:=.seq (rT c39r0 [2,3]) (.seq (.seq (.settle []) (rT c39r1 [4])) .ret)
def g39:AFn:=⟨2,[(4,none)],c39,false,[],[],none⟩
theorem tr39:trFn Tryz.prog false 39 Tryz.f39=some g39:=by kernel_rfl
def c40r0:LO:=[oUn 1 (.box (some 8)) 0,oP 2 .mv [cBo false]]
def c40r1:LO:=[oFa 6 0 1,oLf 7 6,oCl 8 29 [.t 7],oUn 9 .not 8,oMv 10 9,oG 11 (.faddr 0) [.t 1] 10 false,oG 12 (.load (some 4)) [.t 11] 10 false,oG 13 .call [cFn 68,.t 12] 10 false,oG 14 .not [.t 13] 10 false,oP 15 .pick [.t 10,cBo true,.t 14],
 oMv 16 15,oG 17 (.load (some 8)) [.t 1] 16 false,oG 18 .call [cFn 69,.t 17] 16 false,oG 19 .not [.t 18] 16 false,oP 20 .pick [.t 16,cBo true,.t 19]]
def c40r2:LO:=[oP 2 .mv [cBo false]]
def c40k3:ACode:=kRt 20 c40r2 [2]
def c40r4:LO:=[oFa 22 4 1,oLf 23 22,oCl 24 70 [.t 23],oMv 21 24,oEx 25 0 21,oEx 26 1 21,oP 3 aZ [],oSf 3 25,oMv 2 26]
def c40r5:LO:=[oMv 27 2,oUn 28 .not 27,oMv 29 28,oG 30 (.load (some 4)) [.t 3] 29 false,oG 31 (.faddr 4) [.t 1] 29 false,oG 32 (.load (some 4)) [.t 31] 29 false,oG 33 .call [cFn 30,.t 30,.t 32] 29 false,oG 34 .not [.t 33] 29 false,
 oP 35 .pick [.t 29,cBo true,.t 34]]
def c40r6:LO:=[oP 2 .mv [cBo false]]
def c40k7:ACode:=kRt 35 c40r6 [2]
def c40r8:LO:=[oUn 37 (.load (some 8)) 1,oCl 38 71 [.t 37],oMv 36 38,oEx 39 0 36,oEx 40 1 36,oP 4 (.alloc (some 8) (.agg [((some 4),(.agg [(none,(.pv none (.int .i64 0))),(none,(.pv none (.int .i64 0))),(none,(.pv none (.str []))),(none,(.tsl (some 4) []))])),((some 4),(.agg [(none,(.pv none (.int .i64 0))),(none,(.pv none (.int .i64 0))),(none,(.pv none (.str []))),(none,(.tsl (some 4) []))]))])) [],
 ⟨none,(.store (some 8)),[.t 4,.t 39],none⟩,oMv 5 40]
def c40r9:LO:=[oMv 41 5,oBc 42 .leq 41 64,oMv 43 42,oG 44 (.faddr 0) [.t 4] 43 true,oG 45 (.load (some 4)) [.t 44] 43 true,oG 46 (.faddr 0) [.t 1] 43 true,oG 47 (.load (some 4)) [.t 46] 43 true,oG 48 .call [cFn 30,.t 45,.t 47] 43 true,
 oP 49 .pick [.t 43,.t 48,cBo false],oMv 50 49,oG 51 (.faddr 4) [.t 4] 50 true,oG 52 (.load (some 4)) [.t 51] 50 true,oG 53 (.faddr 4) [.t 1] 50 true,oG 54 (.load (some 4)) [.t 53] 50 true,oG 55 .call [cFn 30,.t 52,.t 54] 50 true,
 oP 56 .pick [.t 50,.t 55,cBo false],oMv 2 56]
def c40:ACode:=.seq (rT c40r0 [1]) (.seq (.seq (rT c40r1 [1,20]) c40k3) (.seq (rT c40r4 [1,2,3]) (.seq (.seq (rT c40r5 [1,35]) c40k7) (.seq (rT c40r8 [1,4,5]) (.seq (rT c40r9 [2]) .ret)))))
def g40:AFn:=⟨1,[(2,none)],c40,false,[],[],none⟩
theorem tr40:trFn Tryz.prog false 40 Tryz.f40=some g40:=by kernel_rfl
def c41r0:LO:=[oBx 1 0,oP 2 .mv [cIn 0]]
def c41r1:LO:=[oLf 3 1,oCl 4 72 [.t 3,cIn 2001],oMv 2 4]
def c41:ACode:=.seq (rT c41r0 [1]) (.seq (rT c41r1 [2]) .ret)
def g41:AFn:=⟨1,[(2,none)],c41,false,[],[],none⟩
theorem tr41:trFn Tryz.prog false 41 Tryz.f41=some g41:=by kernel_rfl
def c42r0:LO:=[oBx 1 0,oP 2 .mv [cBo false]]
def c42r1:LO:=[oLf 4 1,oCl 5 73 [.t 4],oUn 6 .not 5]
def c42r2:LO:=[oP 2 .mv [cBo false]]
def c42k3:ACode:=kRt 6 c42r2 [2]
def c42r4:LO:=[oP 3 .mv [cIn 0]]
def c42r5:LO:=[oMv 7 3,oFa 8 3 1,oLo 9 8,oUn 10 .len 9,oBi 11 .lss 7 10]
def c42k6:ACode:=kEx 11 0
def c42r7:LO:=[oFa 14 3 1,oLo 15 14,oMv 16 3,oIa 17 15 16,oLf 18 17,oCl 19 42 [.t 18],oUn 20 .not 19]
def c42r8:LO:=[oP 2 .mv [cBo false]]
def c42k9:ACode:=kRt 20 c42r8 [2]
def c42k10:ACode:=.block 1 (.seq (rT c42r7 [1,3,20]) c42k9)
def c42r11:LO:=[oMv 12 3,oBc 13 .add 12 1,oMv 3 13]
def c42b12:ACode:=.seq (.seq (rT c42r5 [1,3,11]) c42k6) (.seq c42k10 (rT c42r11 [1,3]))
def c42k13:ACode:=.block 0 (.loop [1,3] c42b12)
def c42r14:LO:=[oP 2 .mv [cBo true]]
def c42:ACode:=.seq (rT c42r0 [1]) (.seq (.seq (rT c42r1 [1,6]) c42k3) (.seq (.seq (rT c42r4 [1,3]) c42k13) (.seq (rT c42r14 [2]) .ret)))
def g42:AFn:=⟨1,[(2,none)],c42,false,[],[],none⟩
theorem tr42:trFn Tryz.prog false 42 Tryz.f42=some g42:=by kernel_rfl
def c43r0:LO:=[oMv 9 0,oUn 10 .nilcheck 9,oFa 11 2 10,oFa 12 3 11,oLo 13 12,oP 14 (.iaddr (some 4)) [.t 13,cIn 0],oLf 15 14,oCl 16 74 [.t 15],oMv 8 16,oEx 17 0 8,oEx 18 1 8,oEx 19 2 8,oP 2 (.alloc (some 8) (.agg [((some 4),(.agg [(none,(.pv none (.int .i64 0))),(none,(.pv none (.int .i64 0))),(none,(.pv none (.str []))),(none,(.tsl (some 4) []))])),((some 4),(.agg [(none,(.pv none (.int .i64 0))),(none,(.pv none (.int .i64 0))),(none,(.pv none (.str []))),(none,(.tsl (some 4) []))]))])) [],
 oP 3 aZ [],⟨none,(.store (some 8)),[.t 2,.t 17],none⟩,oSf 3 18,oMv 4 19]
def c43r1:LO:=[oMv 20 4,oBc 21 .eql 20 8]
def c43r2:LO:=[oLf 22 3,oCl 23 75 [.t 22]]
def c43k3:ACode:=.cond (.t 21) (rT c43r2 [0,2,4]) .skip
def c43r4:LO:=[oMv 24 4,oCl 25 76 [.t 24]]
def c43r5:LO:=[oFa 26 0 2,oFa 27 2 26,oLo 28 27,oFa 29 0 2,oFa 30 3 29,oLo 31 30,oUn 32 .len 31,oMv 5 28,oMv 6 32]
def c43r6:LO:=[oMv 33 0,oMv 34 5,oMv 35 6,oMv 36 5,oMv 37 6,oCl 38 78 [.t 36,.t 37],oCl 39 77 [.t 33,.t 34,.t 35,.t 38]]
def c43r7:LO:=[oMv 41 0,oUn 42 .nilcheck 41,oFa 43 0 42,oUn 44 (.load (some 2)) 43,oUn 45 (.load (some 8)) 2,oMv 46 0,oUn 47 .nilcheck 46,oFa 48 2 47,oFa 49 2 48,oLo 50 49,oP 51 (.bin .eql) [.t 50,cSt [97,115,115,101,114,116,97]],
 oCl 52 79 [.t 44,.t 45,.t 51,cBo true],oMv 40 52,oEx 53 0 40,oEx 54 1 40,oP 7 (.alloc (some 2) (.agg [(none,(.pv none (.int .i64 0))),(none,(.nilv (some 4)))])) [],⟨none,(.store (some 2)),[.t 7,.t 53],none⟩,oMv 4 54]
def c43r8:LO:=[oMv 55 4,oCl 56 76 [.t 55]]
def c43r9:LO:=[oMv 57 0,oUn 58 (.load (some 2)) 7,oUn 59 .nilcheck 57,oFa 60 0 59,⟨none,(.store (some 2)),[.t 60,.t 58],none⟩]
def c43r10:LO:=[oMv 61 0,oCl 62 80 [.t 61]]
def c43:ACode:=.seq (rT c43r0 [0,2,3,4]) (.seq (.seq (rT c43r1 [0,2,3,4,21]) c43k3) (.seq (rT c43r4 [0,2]) (.seq (rT c43r5 [0,2,5,6]) (.seq (rT c43r6 [0,2]) (.seq (.region false c43r7 [0,4,7]) (.seq (rT c43r8 [0,7]) (.seq (rT c43r9 [0]) (rT c43r10 []))))))))
def g43:AFn:=⟨1,[],c43,true,[],[],none⟩
theorem tr43:trFn Tryz.prog true 43 Tryz.f43=some g43:=by kernel_rfl
def c47r0:LO:=[oMv 23 0,oUn 24 .nilcheck 23,oFa 25 2 24,oFa 26 3 25,oLo 27 26,oP 28 (.iaddr (some 4)) [.t 27,cIn 0],oLf 29 28,oMv 30 0,oUn 31 .nilcheck 30,oFa 32 2 31,oFa 33 3 32,oLo 34 33,oP 35 (.iaddr (some 4)) [.t 34,cIn 1],
 oLf 36 35,oP 2 aZ [],oP 3 aZ [],⟨none,(.storen (some 4)),[.t 2,.t 29,.t 33,.t 35],none⟩,oSf 3 36]
def c47r1:LO:=[oLf 38 2,oCl 39 87 [.t 38],oMv 37 39,oEx 40 0 37,oEx 41 1 37,oP 4 aZ [],oSf 4 40,oMv 5 41]
def c47r2:LO:=[oMv 42 5,oUn 43 .not 42]
def c47r3:LO:=[oLf 44 4,oCl 45 75 [.t 44]]
def c47k4:ACode:=.cond (.t 43) (rT c47r3 [0,2,3]) .skip
def c47r5:LO:=[oFa 46 0 3,oLo 47 46,oBc 48 .eql 47 1]
def c47r6:LO:=[oLf 49 3,oCl 50 85 [cSt [99,97,108,108,97,98,108,101],.t 49],oCl 51 75 [.t 50]]
def c47k7:ACode:=.cond (.t 48) (rT c47r6 [0,2]) .skip
def c47r8:LO:=[oFa 52 2 2,oLo 53 52,oFa 54 3 2,oLo 55 54,oUn 56 .len 55,oMv 6 53,oMv 7 56]
def c47r9:LO:=[oMv 57 0,oUn 58 .nilcheck 57,oFa 59 2 58,oFa 60 3 59,oLo 61 60,oUn 62 .len 61,oBc 63 .eql 62 3,oMv 8 63]
def c47r10:LO:=[oMv 64 8]
def c47r11:LO:=[oMv 65 0,oMv 66 6,oMv 67 7,oMv 68 6,oMv 69 7,oCl 70 78 [.t 68,.t 69],oCl 71 77 [.t 65,.t 66,.t 67,.t 70]]
def c47r12:LO:=[oMv 72 0,oUn 73 .nilcheck 72,oFa 74 2 73,oFa 75 3 74,oLo 76 75,oP 77 (.iaddr (some 4)) [.t 76,cIn 2],oLf 78 77,oP 9 aZ [],oSf 9 78]
def c47r13:LO:=[oFa 79 0 9,oLo 80 79,oBc 81 .neq 80 0,oMv 82 81,oG 83 (.faddr 0) [.t 9] 82 true,oG 84 (.load none) [.t 83] 82 true,oG 85 (.bin .neq) [.t 84,cIn 1] 82 true,oP 86 .pick [.t 82,.t 85,cBo false]]
def c47r14:LO:=[oLf 87 9,oCl 88 85 [cSt [105,110,116,101,103,101,114],.t 87],oCl 89 75 [.t 88]]
def c47k15:ACode:=.cond (.t 86) (rT c47r14 [0,6,7,8]) .skip
def c47r16:LO:=[oMv 90 0,oMv 91 6,oMv 92 7,oCl 93 88 [.t 90,.t 91,.t 92]]
def c47r17:LO:=[oMv 94 6,oMv 95 7,oCl 96 78 [.t 94,.t 95],oCl 97 89 [cSt [97,99,99,101,115,115],cSt [112,114,105,118,97,116,101,95,112,114,111,99,101,100,117,114,101],.t 96],oCl 98 75 [.t 97]]
def c47k18:ACode:=.cond (.t 93) (rT c47r17 [0,6,7,8]) .skip
def c47k19:ACode:=.cond (.t 64) (.seq (rT c47r11 [0,6,7,8]) (.seq (rT c47r12 [0,6,7,8,9]) (.seq (rT c47r13 [0,6,7,8,9,86]) c47k15))) (.seq (rT c47r16 [0,6,7,8,93]) c47k18)
def c47r20:LO:=[oMv 100 0,oUn 101 .nilcheck 100,oFa 102 0 101,oUn 103 (.load (some 2)) 102,oMv 104 6,oMv 105 7,oCl 106 21 [.t 103,.t 104,.t 105],oMv 99 106,oEx 107 0 99,oEx 108 1 99,oP 10 (.alloc (some 4) (.agg [(none,(.pv none (.str []))),(none,(.pv none (.int .i64 0))),(none,(.pv none (.bool false))),(none,(.tsl (some 9) []))])) [],
 oSf 10 107,oMv 11 108]
def c47r21:LO:=[oMv 109 0,oUn 110 .nilcheck 109,oFa 111 2 110,oLf 112 111,oCl 113 90 [.t 112],oUn 114 .len 113,oMv 12 114]
def c47r22:LO:=[oFa 115 3 10,oLo 116 115,oUn 117 .len 116,oP 118 .mv [cIn 0]]
def c47r23:LO:=[oBi 119 .lss 118 117]
def c47k24:ACode:=kEx 119 0
def c47r25:LO:=[oP 120 (.iaddr (some 9)) [.t 116,.t 118],oUn 121 (.load (some 9)) 120,oP 14 (.alloc (some 9) (.agg [(none,(.pv none (.int .i64 0))),((some 8),(.agg [((some 4),(.agg [(none,(.pv none (.int .i64 0))),(none,(.pv none (.int .i64 0))),(none,(.pv none (.str []))),(none,(.tsl (some 4) []))])),((some 4),(.agg [(none,(.pv none (.int .i64 0))),(none,(.pv none (.int .i64 0))),(none,(.pv none (.str []))),(none,(.tsl (some 4) []))]))]))])) [],
 ⟨none,(.store (some 9)),[.t 14,.t 121],none⟩]
def c47r26:LO:=[oFa 123 1 14,oFa 124 0 123,oLf 125 124,oMv 126 12,oCl 127 91 [.t 125,.t 126],oMv 122 127,oEx 128 0 122,oEx 129 1 122,oP 15 aZ [],oSf 15 128,oMv 16 129]
def c47r27:LO:=[oFa 131 1 14,oFa 132 4 131,oLf 133 132,oMv 134 12,oCl 135 91 [.t 133,.t 134],oMv 130 135,oEx 136 0 130,oEx 137 1 130,oP 17 aZ [],oSf 17 136,oMv 18 137]
def c47r28:LO:=[oLf 138 15,oLf 139 17,oP 140 (.bslo (some 4)) [.t 138,.t 139],oMv 19 140]
def c47r29:LO:=[oMv 141 8]
def c47r30:LO:=[oMv 142 19,oFa 143 0 14,oLo 144 143,oCl 145 92 [.t 144],oUn 146 (.bslice (some 4)) 145,oP 147 (.append (some 4)) [.t 142,.t 146],oMv 19 147]
def c47k31:ACode:=.cond (.t 141) (rT c47r30 [0,8,12,19,116,117,118]) .skip
def c47r32:LO:=[oMv 148 0,oMv 149 19,oCl 150 86 [.t 148,.t 149]]
def c47r33:LO:=[oMv 151 0,oUn 152 .nilcheck 151,oFa 153 6 152,oLo 154 153,oUn 155 .len 154,oBc 156 .sub 155 1,oMv 20 156]
def c47r34:LO:=[oMv 157 0,oUn 158 .nilcheck 157,oFa 159 6 158,oLo 160 159,oMv 161 20,oIa 162 160 161,oLf 163 162,oCl 164 29 [.t 163],oUn 165 .not 164]
def c47r35:LO:=[oCl 166 76 [cIn 2]]
def c47k36:ACode:=.cond (.t 165) (rT c47r35 [0,8,12,20,116,117,118]) .skip
def c47r37:LO:=[oMv 168 0,oUn 169 .nilcheck 168,oFa 170 2 169,oLf 171 170,oMv 172 0,oUn 173 .nilcheck 172,oFa 174 6 173,oLo 175 174,oMv 176 20,oIa 177 175 176,oLf 178 177,oCl 179 93 [.c (.tsl (some 5) []),.t 171,.t 178],
 oMv 167 179,oEx 180 0 167,oEx 181 1 167,oMv 21 180,oMv 22 181]
def c47r38:LO:=[oMv 182 22,oBc 183 .eql 182 4]
def c47r39:LO:=[oMv 184 0,oMv 185 0,oUn 186 .nilcheck 185,oFa 187 6 186,oLo 188 187,oMv 189 20,oP 190 (.slice (some 4) false true) [.t 188,.t 189],oUn 191 .nilcheck 184,oFa 192 6 191,oSo 192 190]
def c47k40:ACode:=.cond (.t 183) (rT c47r39 [0,8,12,116,117,118]) .skip
def c47k41:ACode:=.block 1 (.seq (rT c47r25 [0,8,12,14,116,117,118]) (.seq (rT c47r26 [0,8,12,14,15,116,117,118]) (.seq (rT c47r27 [0,8,12,14,15,17,116,117,118]) (.seq (rT c47r28 [0,8,12,14,19,116,117,118]) (.seq (.seq (rT c47r29 [0,8,12,14,19,116,117,118,141]) c47k31) (.seq (rT c47r32 [0,8,12,116,117,118]) (.seq (rT c47r33 [0,8,12,20,116,117,118]) (.seq (.seq (rT c47r34 [0,8,12,20,116,117,118,165]) c47k36) (.seq (rT c47r37 [0,8,12,20,22,116,117,118]) (.seq (rT c47r38 [0,8,12,20,116,117,118,183]) c47k40))))))))))
def c47r42:LO:=[oBc 193 .add 118 1,oMv 118 193]
def c47b43:ACode:=.seq (rT c47r23 [0,8,12,116,117,118,119]) (.seq c47k24 (.seq c47k41 (rT c47r42 [0,8,12,116,117,118])))
def c47k44:ACode:=.block 0 (.loop [0,8,12,116,117,118] c47b43)
def c47:ACode:=.seq (rT c47r0 [0,2,3]) (.seq (.seq (rT c47r1 [0,2,3,4,5]) (.seq (rT c47r2 [0,2,3,4,43]) c47k4)) (.seq (.seq (rT c47r5 [0,2,3,48]) c47k7) (.seq (rT c47r8 [0,6,7]) (.seq (rT c47r9 [0,6,7,8]) (.seq (.seq (rT c47r10 [0,6,7,8,64]) c47k19) (.seq (rT c47r20 [0,8,10]) (.seq (rT c47r21 [0,8,10,12]) (.seq (rT c47r22 [0,8,12,116,117,118]) c47k44))))))))
def g47:AFn:=⟨1,[],c47,true,[],[],none⟩
theorem tr47:trFn Tryz.prog true 47 Tryz.f47=some g47:=by kernel_rfl
def c48r0:LO:=[oMv 8 0,oUn 9 .nilcheck 8,oFa 10 2 9,oFa 11 3 10,oLo 12 11,oP 13 (.iaddr (some 4)) [.t 12,cIn 0],oLf 14 13,oCl 15 94 [.t 14],oMv 7 15,oEx 16 0 7,oEx 17 1 7,oEx 18 2 7,oP 3 aZ [],oMv 2 16,oSf 3 17,oMv 4 18]
def c48r1:LO:=[oMv 19 4,oUn 20 .not 19]
def c48r2:LO:=[oLf 21 3,oCl 22 75 [.t 21]]
def c48k3:ACode:=.cond (.t 20) (rT c48r2 [0,2]) .skip
def c48r4:LO:=[oMv 24 0,oUn 25 .nilcheck 24,oFa 26 0 25,oUn 27 (.load (some 2)) 26,oMv 28 2,oCl 29 95 [.t 27,.t 28],oMv 23 29,oEx 30 0 23,oEx 31 1 23,oP 5 (.alloc (some 2) (.agg [(none,(.pv none (.int .i64 0))),(none,(.nilv (some 4)))])) [],
 ⟨none,(.store (some 2)),[.t 5,.t 30],none⟩,oMv 6 31]
def c48r5:LO:=[oMv 32 6]
def c48r6:LO:=[oMv 33 0,oUn 34 (.load (some 2)) 5,oUn 35 .nilcheck 33,oFa 36 0 35,⟨none,(.store (some 2)),[.t 36,.t 34],none⟩]
def c48r7:LO:=[oMv 37 0,oCl 38 80 [.t 37]]
def c48k8:ACode:=.cond (.t 32) (.seq (rT c48r6 [0]) (rT c48r7 [])) .skip
def c48:ACode:=.seq (rT c48r0 [0,2,3,4]) (.seq (.seq (rT c48r1 [0,2,3,20]) c48k3) (.seq (rT c48r4 [0,5,6]) (.seq (rT c48r5 [0,5,32]) c48k8)))
def g48:AFn:=⟨1,[],c48,true,[],[],none⟩
theorem tr48:trFn Tryz.prog true 48 Tryz.f48=some g48:=by kernel_rfl
def c49r0:LO:=[oP 4 .mv [cIn 0]]
def c49r1:LO:=[oMv 6 0,oUn 7 .len 6,oP 8 .mv [cIn 0]]
def c49r2:LO:=[oBi 9 .lss 8 7]
def c49k3:ACode:=kEx 9 0
def c49r4:LO:=[oMv 10 8,oMv 5 10]
def c49r5:LO:=[oMv 11 1,oMv 12 0,oMv 13 5,oP 14 (.iaddr none) [.t 12,.t 13],oLo 15 14,oBi 16 .eql 11 15]
def c49r6:LO:=[oMv 17 5,oMv 4 17]
def c49k7:ACode:=kRt 16 c49r6 [4]
def c49k8:ACode:=.block 1 (.seq (rT c49r4 [0,1,5,7,8]) (.seq (rT c49r5 [0,1,5,7,8,16]) c49k7))
def c49r9:LO:=[oBc 18 .add 8 1,oMv 8 18]
def c49b10:ACode:=.seq (rT c49r2 [0,1,7,8,9]) (.seq c49k3 (.seq c49k8 (rT c49r9 [0,1,7,8])))
def c49k11:ACode:=.block 0 (.loop [0,1,7,8] c49b10)
def c49r12:LO:=[oP 4 .mv [.c (.pv none (.int .i64 (-1)))]]
def c49:ACode:=.seq (rT c49r0 [0,1]) (.seq (.seq (rT c49r1 [0,1,7,8]) c49k11) (.seq (rT c49r12 [4]) .ret))
def g49:AFn:=⟨2,[(4,none)],c49,false,[],[],none⟩
theorem tr49:trFn Tryz.prog false 49 Tryz.f49=some g49:=by kernel_rfl
def c52r0:LO:=[oP 0 (.alloc (some 2) (.agg [(none,(.pv none (.int .i64 0))),(none,(.nilv (some 4)))])) []]
def c52r1:LO:=[oP 1 (.build [(none,(.pv none (.int .i64 0))),(none,(.nilv (some 4)))] [0]) [cIn 1],⟨none,(.store (some 2)),[.t 0,.t 1],none⟩]
def c52:ACode:=.seq (rT c52r0 [0]) (.seq (rT c52r1 [0]) .ret)
def g52:AFn:=⟨0,[(0,some (some 2))],c52,false,[],[],none⟩
theorem tr52:trFn Tryz.prog false 52 Tryz.f52=some g52:=by kernel_rfl
def c53r0:LO:=[oUn 3 (.box (some 2)) 0,oP 6 .mv [cIn 0],oP 7 .mv [cBo false]]
def c53r1:LO:=[oFa 8 1 3,oLo 9 8,oMv 10 1,oMv 11 2,oP 12 (.build [(none,(.pv none (.str []))),(none,(.pv none (.int .i64 0))),(none,(.pv none (.bool false))),(none,(.tsl (some 9) []))] [0,1]) [.t 10,.t 11],oCl 13 97 [.t 9,.t 12,cFn 98],
 oEx 14 0 13,oEx 15 1 13,oMv 6 14,oMv 7 15]
def c53:ACode:=.seq (rT c53r0 [1,2,3]) (.seq (rT c53r1 [6,7]) .ret)
def g53:AFn:=⟨3,[(6,none),(7,none)],c53,false,[],[],none⟩
theorem tr53:trFn Tryz.prog false 53 Tryz.f53=some g53:=by kernel_rfl
def c54r0:LO:=[oBx 1 0,oP 2 (.alloc (some 4) (.agg [(none,(.pv none (.str []))),(none,(.pv none (.int .i64 0))),(none,(.pv none (.bool false))),(none,(.tsl (some 9) []))])) []]
def c54r1:LO:=[oFa 6 3 1,oLo 7 6,oUn 8 .len 7,oP 9 (.mkslice (some 9) (.agg [(none,(.int .i64 0)),((some 8),(.agg [((some 4),(.agg [(none,(.int .i64 0)),(none,(.int .i64 0)),(none,(.str [])),(none,(.sl (some 4) []))])),((some 4),(.agg [(none,(.int .i64 0)),(none,(.int .i64 0)),(none,(.str [])),(none,(.sl (some 4) []))]))]))])) [.t 8,.t 8],
 oMv 3 9]
def c54r2:LO:=[oMv 10 3,oFa 11 3 1,oLo 12 11,oP 13 (.copy (some 9)) [.t 10,.t 12]]
def c54r3:LO:=[oMv 14 3,oUn 15 .len 14,oP 16 .mv [cIn 0]]
def c54r4:LO:=[oBi 17 .lss 16 15]
def c54k5:ACode:=kEx 17 0
def c54r6:LO:=[oMv 18 16,oP 19 (.iaddr (some 9)) [.t 14,.t 16],oUn 20 (.load (some 9)) 19,oP 5 (.alloc (some 9) (.agg [(none,(.pv none (.int .i64 0))),((some 8),(.agg [((some 4),(.agg [(none,(.pv none (.int .i64 0))),(none,(.pv none (.int .i64 0))),(none,(.pv none (.str []))),(none,(.tsl (some 4) []))])),((some 4),(.agg [(none,(.pv none (.int .i64 0))),(none,(.pv none (.int .i64 0))),(none,(.pv none (.str []))),(none,(.tsl (some 4) []))]))]))])) [],
 oMv 4 18,⟨none,(.store (some 9)),[.t 5,.t 20],none⟩]
def c54r7:LO:=[oMv 21 3,oMv 22 4,oUn 23 (.load (some 9)) 5,oCl 24 99 [.t 23],oP 25 (.iaddr (some 9)) [.t 21,.t 22],⟨none,(.store (some 9)),[.t 25,.t 24],none⟩]
def c54k8:ACode:=.block 1 (.seq (rT c54r6 [1,2,3,4,5,14,15,16]) (rT c54r7 [1,2,3,14,15,16]))
def c54r9:LO:=[oBc 26 .add 16 1,oMv 16 26]
def c54b10:ACode:=.seq (rT c54r4 [1,2,3,14,15,16,17]) (.seq c54k5 (.seq c54k8 (rT c54r9 [1,2,3,14,15,16])))
def c54k11:ACode:=.block 0 (.loop [1,2,3,14,15,16] c54b10)
def c54r12:LO:=[oMv 27 3,oFa 28 3 1,oSo 28 27]
def c54r13:LO:=[oLf 29 1,oSf 2 29]
def c54:ACode:=.seq (rT c54r0 [1,2]) (.seq (rT c54r1 [1,2,3]) (.seq (rT c54r2 [1,2,3]) (.seq (.seq (rT c54r3 [1,2,3,14,15,16]) c54k11) (.seq (rT c54r12 [1,2]) (.seq (rT c54r13 [2]) .ret)))))
def g54:AFn:=⟨1,[(2,some (some 4))],c54,true,[],[],none⟩
theorem tr54:trFn Tryz.prog true 54 Tryz.f54=some g54:=by kernel_rfl
def c55r0:LO:=[oP 4 .mv [cBo false]]
def c55r1:LO:=[oMv 6 0,oUn 7 .len 6,oMv 8 1,oUn 9 .len 8,oBi 10 .neq 7 9]
def c55r2:LO:=[oP 4 .mv [cBo false]]
def c55k3:ACode:=kRt 10 c55r2 [4]
def c55r4:LO:=[oP 5 .mv [cIn 0]]
def c55r5:LO:=[oMv 11 5,oMv 12 0,oUn 13 .len 12,oBi 14 .lss 11 13]
def c55k6:ACode:=kEx 14 0
def c55r7:LO:=[oMv 17 0,oMv 18 5,oIa 19 17 18,oLf 20 19,oMv 21 1,oMv 22 5,oIa 23 21 22,oLf 24 23,oCl 25 36 [.t 20,.t 24],oUn 26 .not 25]
def c55r8:LO:=[oP 4 .mv [cBo false]]
def c55k9:ACode:=kRt 26 c55r8 [4]
def c55k10:ACode:=.block 1 (.seq (rT c55r7 [0,1,5,26]) c55k9)
def c55r11:LO:=[oMv 15 5,oBc 16 .add 15 1,oMv 5 16]
def c55b12:ACode:=.seq (.seq (rT c55r5 [0,1,5,14]) c55k6) (.seq c55k10 (rT c55r11 [0,1,5]))
def c55k13:ACode:=.block 0 (.loop [0,1,5] c55b12)
def c55r14:LO:=[oP 4 .mv [cBo true]]
def c55:ACode:=.seq (rT c55r0 [0,1]) (.seq (.seq (rT c55r1 [0,1,10]) c55k3) (.seq (.seq (rT c55r4 [0,1,5]) c55k13) (.seq (rT c55r14 [4]) .ret)))
def g55:AFn:=⟨2,[(4,none)],c55,false,[],[],none⟩
theorem tr55:trFn Tryz.prog false 55 Tryz.f55=some g55:=by kernel_rfl
def c56r0:LO:=[oBx 1 0,oP 2 .mv [cIn 0]]
def c56r1:LO:=[oP 3 (.alloc none (.pv none (.int .i64 0))) [],⟨none,(.store none),[.t 3,cIn 2001],none⟩]
def c56r2:LO:=[oP 4 (.alloc none (.pv none .nilfunc)) []]
def c56r3:LO:=[oP 5 (.mkfunc (.func 100) 0) [.t 3,.t 4],oSo 4 5]
def c56r4:LO:=[oLo 6 4,oLf 7 1,oP 8 .call [.t 6,.t 7]]
def c56r5:LO:=[oLo 9 3,oP 10 (.bin .sub) [cIn 2001,.t 9],oMv 2 10]
def c56:ACode:=.seq (rT c56r0 [1]) (.seq (rT c56r1 [1,3]) (.seq (rT c56r2 [1,3,4]) (.seq (rT c56r3 [1,3,4]) (.seq (rT c56r4 [3]) (.seq (rT c56r5 [2]) .ret)))))
def g56:AFn:=⟨1,[(2,none)],c56,false,[],[],none⟩
theorem tr56:trFn Tryz.prog false 56 Tryz.f56=some g56:=by kernel_rfl
def c57r0:LO:=[oBx 1 0,oP 2 .mv [cBo false]]
def c57r1:LO:=[oP 3 .mv [cBo false]]
def c57r2:LO:=[oFa 5 0 1,oLo 6 5]
def c57r3:LO:=[oBc 8 .eql 6 0,oMv 7 8]
def c57r4:LO:=[oFa 9 1 1,oLo 10 9,oBc 11 .geq 10 0,oMv 12 11,oG 13 (.faddr 1) [.t 1] 12 true,oG 14 (.load none) [.t 13] 12 true,oG 15 (.bin .leq) [.t 14,cIn 1099511627776] 12 true,oP 16 .pick [.t 12,.t 15,cBo false],
 oMv 17 16,oG 18 (.faddr 2) [.t 1] 17 true,oG 19 (.load none) [.t 18] 17 true,oG 20 (.bin .eql) [.t 19,cSt []] 17 true,oP 21 .pick [.t 17,.t 20,cBo false],oMv 22 21,oG 23 (.faddr 3) [.t 1] 22 true,oG 24 (.load none) [.t 23] 22 true,
 oG 25 .len [.t 24] 22 true,oG 26 (.bin .eql) [.t 25,cIn 0] 22 true,oP 27 .pick [.t 22,.t 26,cBo false],oMv 3 27]
def c57r5:LO:=[oBc 29 .eql 6 1,oMv 28 29]
def c57r6:LO:=[oFa 30 2 1,oLo 31 30,oP 32 (.bin .eql) [.t 31,cSt []],oMv 33 32,oG 34 (.faddr 3) [.t 1] 33 true,oG 35 (.load none) [.t 34] 33 true,oG 36 .len [.t 35] 33 true,oG 37 (.bin .eql) [.t 36,cIn 0] 33 true,oP 38 .pick [.t 33,.t 37,cBo false],
 oMv 3 38]
def c57r7:LO:=[oBc 40 .eql 6 2,oMv 39 40]
def c57r8:LO:=[oFa 41 1 1,oLo 42 41,oBc 43 .eql 42 0,oMv 44 43,oG 45 (.faddr 2) [.t 1] 44 true,oG 46 (.load none) [.t 45] 44 true,oG 47 .slen [.t 46] 44 true,oG 48 (.bin .leq) [.t 47,cIn 100] 44 true,oP 49 .pick [.t 44,.t 48,cBo false],
 oMv 50 49,oG 51 (.faddr 3) [.t 1] 50 true,oG 52 (.load none) [.t 51] 50 true,oG 53 .len [.t 52] 50 true,oG 54 (.bin .eql) [.t 53,cIn 0] 50 true,oP 55 .pick [.t 50,.t 54,cBo false],oMv 3 55]
def c57r9:LO:=[oBc 57 .eql 6 3,oMv 56 57]
def c57r10:LO:=[oFa 58 1 1,oLo 59 58,oBc 60 .eql 59 0,oMv 61 60,oG 62 (.faddr 2) [.t 1] 61 true,oG 63 (.load none) [.t 62] 61 true,oG 64 .slen [.t 63] 61 true,oG 65 (.bin .leq) [.t 64,cIn 100] 61 true,oP 66 .pick [.t 61,.t 65,cBo false],
 oMv 67 66,oG 68 (.faddr 3) [.t 1] 67 true,oG 69 (.load none) [.t 68] 67 true,oG 70 .len [.t 69] 67 true,oG 71 (.bin .gtr) [.t 70,cIn 0] 67 true,oP 72 .pick [.t 67,.t 71,cBo false],oMv 73 72,oG 74 (.faddr 3) [.t 1] 73 true,
 oG 75 (.load none) [.t 74] 73 true,oG 76 .len [.t 75] 73 true,oG 77 (.bin .leq) [.t 76,cIn 8] 73 true,oP 78 .pick [.t 73,.t 77,cBo false],oMv 3 78]
def c57k11:ACode:=.cond (.t 56) (rT c57r10 [1,3]) .skip
def c57k12:ACode:=.cond (.t 39) (rT c57r8 [1,3]) (.seq (rT c57r9 [1,3,56]) c57k11)
def c57k13:ACode:=.cond (.t 28) (rT c57r6 [1,3]) (.seq (rT c57r7 [1,3,6,39]) c57k12)
def c57k14:ACode:=.cond (.t 7) (rT c57r4 [1,3]) (.seq (rT c57r5 [1,3,6,28]) c57k13)
def c57k15:ACode:=.block 0 (.seq (rT c57r3 [1,3,6,7]) c57k14)
def c57r16:LO:=[oP 4 .mv [cIn 0]]
def c57r17:LO:=[oMv 79 4,oFa 80 3 1,oLo 81 80,oUn 82 .len 81,oBi 83 .lss 79 82,oMv 84 83,oG 85 .mv [.t 3] 84 true,oP 86 .pick [.t 84,.t 85,cBo false]]
def c57k18:ACode:=kEx 86 1
def c57r19:LO:=[oFa 89 3 1,oLo 90 89,oMv 91 4,oIa 92 90 91,oLf 93 92,oCl 94 57 [.t 93],oMv 3 94]
def c57k20:ACode:=.block 2 (rT c57r19 [1,3,4])
def c57r21:LO:=[oMv 87 4,oBc 88 .add 87 1,oMv 4 88]
def c57b22:ACode:=.seq (.seq (rT c57r17 [1,3,4,86]) c57k18) (.seq c57k20 (rT c57r21 [1,3,4]))
def c57k23:ACode:=.block 1 (.loop [1,3,4] c57b22)
def c57r24:LO:=[oMv 95 3,oMv 2 95]
def c57:ACode:=.seq (rT c57r0 [1]) (.seq (rT c57r1 [1,3]) (.seq (.seq (rT c57r2 [1,3,6]) c57k15) (.seq (.seq (rT c57r16 [1,3,4]) c57k23) (.seq (rT c57r24 [2]) .ret))))
def g57:AFn:=⟨1,[(2,none)],c57,false,[],[],none⟩
theorem tr57:trFn Tryz.prog false 57 Tryz.f57=some g57:=by kernel_rfl
def c58r0:LO:=[oBx 2 0,oBx 3 1,oP 4 .mv [cBo false]]
def c58r1:LO:=[oFa 7 0 2,oLo 8 7,oFa 9 0 3,oLo 10 9,oBi 11 .neq 8 10,oMv 12 11,oG 13 (.faddr 1) [.t 2] 12 false,oG 14 (.load none) [.t 13] 12 false,oG 15 (.faddr 1) [.t 3] 12 false,oG 16 (.load none) [.t 15] 12 false,
 oG 17 (.bin .neq) [.t 14,.t 16] 12 false,oP 18 .pick [.t 12,cBo true,.t 17],oMv 19 18,oG 20 (.faddr 2) [.t 2] 19 false,oG 21 (.load none) [.t 20] 19 false,oG 22 (.faddr 2) [.t 3] 19 false,oG 23 (.load none) [.t 22] 19 false,
 oG 24 (.bin .neq) [.t 21,.t 23] 19 false,oP 25 .pick [.t 19,cBo true,.t 24],oMv 26 25,oG 27 (.faddr 3) [.t 2] 26 false,oG 28 (.load none) [.t 27] 26 false,oG 29 .len [.t 28] 26 false,oG 30 (.faddr 3) [.t 3] 26 false,oG 31 (.load none) [.t 30] 26 false,
 oG 32 .len [.t 31] 26 false,oG 33 (.bin .neq) [.t 29,.t 32] 26 false,oP 34 .pick [.t 26,cBo true,.t 33]]
def c58r2:LO:=[oP 4 .mv [cBo false]]
def c58k3:ACode:=kRt 34 c58r2 [4]
def c58r4:LO:=[oFa 35 3 2,oLo 36 35,oUn 37 .len 36,oP 38 .mv [cIn 0]]
def c58r5:LO:=[oBi 39 .lss 38 37]
def c58k6:ACode:=kEx 39 0
def c58r7:LO:=[oMv 40 38,oIa 41 36 38,oLf 42 41,oP 6 aZ [],oMv 5 40,oSf 6 42]
def c58r8:LO:=[oLf 43 6,oFa 44 3 3,oLo 45 44,oMv 46 5,oIa 47 45 46,oLf 48 47,oCl 49 58 [.t 43,.t 48],oUn 50 .not 49]
def c58r9:LO:=[oP 4 .mv [cBo false]]
def c58k10:ACode:=kRt 50 c58r9 [4]
def c58k11:ACode:=.block 1 (.seq (rT c58r7 [3,5,6,36,37,38]) (.seq (rT c58r8 [3,36,37,38,50]) c58k10))
def c58r12:LO:=[oBc 51 .add 38 1,oMv 38 51]
def c58b13:ACode:=.seq (rT c58r5 [3,36,37,38,39]) (.seq c58k6 (.seq c58k11 (rT c58r12 [3,36,37,38])))
def c58k14:ACode:=.block 0 (.loop [3,36,37,38] c58b13)
def c58r15:LO:=[oP 4 .mv [cBo true]]
def c58:ACode:=.seq (rT c58r0 [2,3]) (.seq (.seq (rT c58r1 [2,3,34]) c58k3) (.seq (.seq (rT c58r4 [3,36,37,38]) c58k14) (.seq (rT c58r15 [4]) .ret)))
def g58:AFn:=⟨2,[(4,none)],c58,false,[],[],none⟩
theorem tr58:trFn Tryz.prog false 58 Tryz.f58=some g58:=by kernel_rfl
def c59r0:LO:=[oBx 2 0,oP 4 aZ []]
def c59r1:LO:=[oFa 8 0 2,oLo 9 8,oBc 10 .eql 9 0]
def c59r2:LO:=[oMv 11 1,oLf 12 2,oP 13 .call [.t 11,.t 12],oSf 4 13]
def c59k3:ACode:=kRt 10 c59r2 [4]
def c59r4:LO:=[oFa 14 0 2,oLo 15 14,oFa 16 1 2,oLo 17 16,oFa 18 2 2,oLo 19 18,oP 20 (bZ [0,1,2]) [.t 15,.t 17,.t 19],oP 5 aZ [],oSf 5 20]
def c59r5:LO:=[oFa 21 3 2,oLo 22 21,oUn 23 .len 22,oP 24 .mv [cIn 0]]
def c59r6:LO:=[oBi 25 .lss 24 23]
def c59k7:ACode:=kEx 25 0
def c59r8:LO:=[oIa 26 22 24,oLf 27 26,oP 7 aZ [],oSf 7 27]
def c59r9:LO:=[oFa 28 3 5,oLo 29 28,oLf 30 7,oMv 31 1,oP 32 (.calln 1) [.t 28,cFn 59,.t 30,.t 31],oP 33 (.bslicen (some 4) 1) [.t 28,.t 32],oP 34 (.append (some 4)) [.t 29,.t 33],oFa 35 3 5,oSo 35 34]
def c59k10:ACode:=.block 1 (.seq (rT c59r8 [1,4,5,7,22,23,24]) (.region false c59r9 [1,4,5,22,23,24]))
def c59r11:LO:=[oBc 36 .add 24 1,oMv 24 36]
def c59b12:ACode:=.seq (rT c59r6 [1,4,5,22,23,24,25]) (.seq c59k7 (.seq c59k10 (rT c59r11 [1,4,5,22,23,24])))
def c59k13:ACode:=.block 0 (.loop [1,4,5,22,23,24] c59b12)
def c59r14:LO:=[oLf 37 5,oSf 4 37]
def c59:ACode:=.seq (rT c59r0 [1,2,4]) (.seq (.seq (rT c59r1 [1,2,4,10]) c59k3) (.seq (rT c59r4 [1,2,4,5]) (.seq (.seq (rT c59r5 [1,4,5,22,23,24]) c59k13) (.seq (rT c59r14 [4]) .ret))))
def g59:AFn:=⟨2,[(4,some (some 4))],c59,true,[],[],none⟩
theorem tr59:trFn Tryz.prog true 59 Tryz.f59=some g59:=by kernel_rfl
def c60r0:LO:=[oBx 2 0,oP 3 aZ []]
def c60r1:LO:=[oLo 7 1,oFa 8 1 2,oLo 9 8,oP 10 (.lookup false none (.pv none (.int .i64 0)) true) [.t 7,.t 9],oMv 6 10,oEx 11 0 6,oEx 12 1 6,oMv 4 11,oMv 5 12]
def c60r2:LO:=[oMv 13 5,oUn 14 .not 13]
def c60r3:LO:=[oLo 15 1,oUn 16 .mlen 15,oMv 4 16]
def c60r4:LO:=[oLo 17 1,oFa 18 1 2,oLo 19 18,oMv 20 4,⟨none,(.mapset false none),[.t 17,.t 19,.t 20],none⟩]
def c60k5:ACode:=.cond (.t 14) (.seq (rT c60r3 [1,2,3,4]) (rT c60r4 [3,4])) .skip
def c60r6:LO:=[oMv 21 4,oP 22 (bZ [1]) [.t 21],oSf 3 22]
def c60:ACode:=.seq (rT c60r0 [1,2,3]) (.seq (rT c60r1 [1,2,3,4,5]) (.seq (.seq (rT c60r2 [1,2,3,4,14]) c60k5) (.seq (rT c60r6 [3]) .ret)))
def g60:AFn:=⟨2,[(3,some (some 4))],c60,true,[],[],none⟩
theorem tr60:trFn Tryz.prog true 60 Tryz.f60=some g60:=by kernel_rfl
def c61r0:LO:=[
 ]
def c61r1:LO:=[oP 5 (.assert 92 (some 4) (.agg [((some 4),(.agg [(none,(.pv none (.int .i64 0))),(none,(.pv none (.int .i64 0))),(none,(.pv none (.str []))),(none,(.tsl (some 4) []))]))]) true) [.t 4],oEx 6 1 5,oEx 7 0 5]
def c61r2:LO:=[oP 2 (.alloc (some 4) (.agg [((some 4),(.agg [(none,(.pv none (.int .i64 0))),(none,(.pv none (.int .i64 0))),(none,(.pv none (.str []))),(none,(.tsl (some 4) []))]))])) [],oSf 2 7]
def c61r3:LO:=[oFa 8 0 2,oLf 9 8,oSf 0 9,⟨none,(.store none),[.t 1,cIn 8],none⟩]
def c61r4:LO:=[oP 10 (.assert 94 (some 1) (.pv (some 1) (.agg [(none,(.int .i64 0))])) true) [.t 4],oEx 11 1 10,oEx 12 0 10]
def c61r5:LO:=[oP 3 (.alloc (some 1) (.pv (some 1) (.agg [(none,(.int .i64 0))]))) [],⟨none,(.store (some 1)),[.t 3,.t 12],none⟩]
def c61r6:LO:=[oFa 13 0 3,oLo 14 13,oSo 1 14]
def c61k7:ACode:=.cond (.t 11) (.seq (rT c61r5 [1,3]) (rT c61r6 [])) .skip
def c61k8:ACode:=.cond (.t 6) (.seq (rT c61r2 [0,1,2]) (rT c61r3 [])) (.seq (rT c61r4 [1,11,12]) c61k7)
def c61k9:ACode:=.block 0 (.seq (rT c61r1 [0,1,4,6,7]) c61k8)
def c61:ACode:=.seq (rT c61r0 [0,1,4]) (.seq c61k9 .skip)
def g61:AFn:=⟨2,[],c61,true,[],[],some 4⟩
theorem tr61:trFn Tryz.prog true 61 Tryz.f61=some g61:=by kernel_rfl
def c62r0:LO:=[oBx 1 0,oP 2 aZ []]
def c62r1:LO:=[oLf 3 1,oSf 2 3]
def c62:ACode:=.seq (rT c62r0 [1,2]) (.seq (rT c62r1 [2]) .ret)
def g62:AFn:=⟨1,[(2,some (some 4))],c62,false,[],[],none⟩
theorem tr62:trFn Tryz.prog false 62 Tryz.f62=some g62:=by kernel_rfl
def c63r0:LO:=[oUn 2 (.box (some 9)) 0,oUn 3 (.box (some 9)) 1,oP 4 .mv [cBo false]]
def c63r1:LO:=[oFa 5 0 2,oLo 6 5,oFa 7 0 3,oLo 8 7,oBi 9 .eql 6 8,oMv 10 9,oG 11 (.faddr 1) [.t 2] 10 true,oG 12 (.faddr 0) [.t 11] 10 true,oG 13 (.load (some 4)) [.t 12] 10 true,oG 14 (.faddr 1) [.t 3] 10 true,oG 15 (.faddr 0) [.t 14] 10 true,
 oG 16 (.load (some 4)) [.t 15] 10 true,oG 17 .call [cFn 36,.t 13,.t 16] 10 true,oP 18 .pick [.t 10,.t 17,cBo false],oMv 19 18,oG 20 (.faddr 1) [.t 2] 19 true,oG 21 (.faddr 4) [.t 20] 19 true,oG 22 (.load (some 4)) [.t 21] 19 true,
 oG 23 (.faddr 1) [.t 3] 19 true,oG 24 (.faddr 4) [.t 23] 19 true,oG 25 (.load (some 4)) [.t 24] 19 true,oG 26 .call [cFn 36,.t 22,.t 25] 19 true,oP 27 .pick [.t 19,.t 26,cBo false],oMv 4 27]
def c63:ACode:=.seq (rT c63r0 [2,3]) (.seq (rT c63r1 [4]) .ret)
def g63:AFn:=⟨2,[(4,none)],c63,false,[],[],none⟩
theorem tr63:trFn Tryz.prog false 63 Tryz.f63=some g63:=by kernel_rfl
def c64r0:LO:=[oBx 2 0,oBx 3 1,oP 4 .mv [cBo false]]
def c64r1:LO:=[oFa 6 0 2,oLo 7 6,oFa 8 0 3,oLo 9 8,oBi 10 .neq 7 9,oMv 11 10,oG 12 (.faddr 1) [.t 2] 11 false,oG 13 (.load none) [.t 12] 11 false,oG 14 (.faddr 1) [.t 3] 11 false,oG 15 (.load none) [.t 14] 11 false,oG 16 (.bin .neq) [.t 13,.t 15] 11 false,
 oP 17 .pick [.t 11,cBo true,.t 16],oMv 18 17,oG 19 (.faddr 2) [.t 2] 18 false,oG 20 (.load none) [.t 19] 18 false,oG 21 (.faddr 2) [.t 3] 18 false,oG 22 (.load none) [.t 21] 18 false,oG 23 (.bin .neq) [.t 20,.t 22] 18 false,
 oP 24 .pick [.t 18,cBo true,.t 23],oMv 25 24,oG 26 (.faddr 3) [.t 2] 25 false,oG 27 (.load none) [.t 26] 25 false,oG 28 .len [.t 27] 25 false,oG 29 (.faddr 3) [.t 3] 25 false,oG 30 (.load none) [.t 29] 25 false,oG 31 .len [.t 30] 25 false,
 oG 32 (.bin .neq) [.t 28,.t 31] 25 false,oP 33 .pick [.t 25,cBo true,.t 32]]
def c64r2:LO:=[oP 4 .mv [cBo false]]
def c64k3:ACode:=kRt 33 c64r2 [4]
def c64r4:LO:=[oP 5 .mv [cIn 0]]
def c64r5:LO:=[oMv 34 5,oFa 35 3 2,oLo 36 35,oUn 37 .len 36,oBi 38 .lss 34 37]
def c64k6:ACode:=kEx 38 0
def c64r7:LO:=[oFa 41 3 2,oLo 42 41,oMv 43 5,oIa 44 42 43,oLf 45 44,oFa 46 3 3,oLo 47 46,oMv 48 5,oIa 49 47 48,oLf 50 49,oCl 51 64 [.t 45,.t 50],oUn 52 .not 51]
def c64r8:LO:=[oP 4 .mv [cBo false]]
def c64k9:ACode:=kRt 52 c64r8 [4]
def c64k10:ACode:=.block 1 (.seq (rT c64r7 [2,3,5,52]) c64k9)
def c64r11:LO:=[oMv 39 5,oBc 40 .add 39 1,oMv 5 40]
def c64b12:ACode:=.seq (.seq (rT c64r5 [2,3,5,38]) c64k6) (.seq c64k10 (rT c64r11 [2,3,5]))
def c64k13:ACode:=.block 0 (.loop [2,3,5] c64b12)
def c64r14:LO:=[oP 4 .mv [cBo true]]
def c64:ACode:=.seq (rT c64r0 [2,3]) (.seq (.seq (rT c64r1 [2,3,33]) c64k3) (.seq (.seq (rT c64r4 [2,3,5]) c64k13) (.seq (rT c64r14 [4]) .ret)))
def g64:AFn:=⟨2,[(4,none)],c64,false,[],[],none⟩
theorem tr64:trFn Tryz.prog false 64 Tryz.f64=some g64:=by kernel_rfl
def c65r0:LO:=[oP 2 .mv [cIn 0]]
def c65r1:LO:=[oP 3 .mv [cIn 0]]
def c65r2:LO:=[oMv 6 0,oUn 7 .len 6,oP 8 .mv [cIn 0]]
def c65r3:LO:=[oBi 9 .lss 8 7]
def c65k4:ACode:=kEx 9 0
def c65r5:LO:=[oP 10 (.iaddr none) [.t 6,.t 8],oLo 11 10,oMv 5 11]
def c65r6:LO:=[oMv 12 5,oMv 13 3,oBi 14 .neq 12 13]
def c65r7:LO:=[oMv 15 5,oMv 2 15]
def c65k8:ACode:=kRt 14 c65r7 [2]
def c65k9:ACode:=.block 1 (.seq (rT c65r5 [3,5,6,7,8]) (.seq (rT c65r6 [3,5,6,7,8,14]) c65k8))
def c65r10:LO:=[oBc 16 .add 8 1,oMv 8 16]
def c65b11:ACode:=.seq (rT c65r3 [3,6,7,8,9]) (.seq c65k4 (.seq c65k9 (rT c65r10 [3,6,7,8])))
def c65k12:ACode:=.block 0 (.loop [3,6,7,8] c65b11)
def c65r13:LO:=[oMv 17 3,oMv 2 17]
def c65:ACode:=.seq (rT c65r0 [0]) (.seq (rT c65r1 [0,3]) (.seq (.seq (rT c65r2 [3,6,7,8]) c65k12) (.seq (rT c65r13 [2]) .ret)))
def g65:AFn:=⟨1,[(2,none)],c65,false,[],[],none⟩
theorem tr65:trFn Tryz.prog false 65 Tryz.f65=some g65:=by kernel_rfl
def c66r0:LO:=[oP 4 .mv [cIn 0]]
def c66r1:LO:=[oMv 7 0,oCl 8 101 [.t 7],oMv 5 8]
def c66r2:LO:=[oMv 9 1,oCl 10 101 [.t 9],oMv 6 10]
def c66r3:LO:=[oMv 11 5]
def c66r4:LO:=[oMv 12 6]
def c66r5:LO:=[oP 4 .mv [cIn 0]]
def c66k6:ACode:=kRt 12 c66r5 [4]
def c66r7:LO:=[oP 4 .mv [.c (.pv none (.int .i64 (-1)))]]
def c66k8:ACode:=.cond (.t 11) (.seq (.seq (rT c66r4 [12]) c66k6) (.seq (rT c66r7 [4]) .ret)) .skip
def c66r9:LO:=[oMv 13 6]
def c66r10:LO:=[oP 4 .mv [cIn 1]]
def c66k11:ACode:=kRt 13 c66r10 [4]
def c66r12:LO:=[oMv 14 0,oMv 15 1,oBi 16 .lss 14 15]
def c66r13:LO:=[oP 4 .mv [.c (.pv none (.int .i64 (-1)))]]
def c66k14:ACode:=kRt 16 c66r13 [4]
def c66r15:LO:=[oMv 17 0,oMv 18 1,oBi 19 .gtr 17 18]
def c66r16:LO:=[oP 4 .mv [cIn 1]]
def c66k17:ACode:=kRt 19 c66r16 [4]
def c66r18:LO:=[oP 4 .mv [cIn 0]]
def c66:ACode:=.seq (rT c66r0 [0,1]) (.seq (rT c66r1 [0,1,5]) (.seq (rT c66r2 [0,1,5,6]) (.seq (.seq (rT c66r3 [0,1,6,11]) c66k8) (.seq (.seq (rT c66r9 [0,1,13]) c66k11) (.seq (.seq (rT c66r12 [0,1,16]) c66k14) (.seq (.seq (rT c66r15 [19]) c66k17) (.seq (rT c66r18 [4]) .ret)))))))
def g66:AFn:=⟨2,[(4,none)],c66,false,[],[],none⟩
theorem tr66:trFn Tryz.prog false 66 Tryz.f66=some g66:=by kernel_rfl
def c67r0:LO:=[oP 4 .mv [cIn 0]]
def c67r1:LO:=[oMv 7 0,oCl 8 102 [.t 7],oMv 5 8]
def c67r2:LO:=[oMv 9 1,oCl 10 102 [.t 9],oMv 6 10]
def c67r3:LO:=[oMv 11 5]
def c67r4:LO:=[oMv 12 6]
def c67r5:LO:=[oP 4 .mv [cIn 0]]
def c67k6:ACode:=kRt 12 c67r5 [4]
def c67r7:LO:=[oP 4 .mv [.c (.pv none (.int .i64 (-1)))]]
def c67k8:ACode:=.cond (.t 11) (.seq (.seq (rT c67r4 [12]) c67k6) (.seq (rT c67r7 [4]) .ret)) .skip
def c67r9:LO:=[oMv 13 6]
def c67r10:LO:=[oP 4 .mv [cIn 1]]
def c67k11:ACode:=kRt 13 c67r10 [4]
def c67r12:LO:=[oMv 14 0,oMv 15 1,oBi 16 .lss 14 15]
def c67r13:LO:=[oP 4 .mv [.c (.pv none (.int .i64 (-1)))]]
def c67k14:ACode:=kRt 16 c67r13 [4]
def c67r15:LO:=[oMv 17 0,oMv 18 1,oBi 19 .gtr 17 18]
def c67r16:LO:=[oP 4 .mv [cIn 1]]
def c67k17:ACode:=kRt 19 c67r16 [4]
def c67r18:LO:=[oP 4 .mv [cIn 0]]
def c67:ACode:=.seq (rT c67r0 [0,1]) (.seq (rT c67r1 [0,1,5]) (.seq (rT c67r2 [0,1,5,6]) (.seq (.seq (rT c67r3 [0,1,6,11]) c67k8) (.seq (.seq (rT c67r9 [0,1,13]) c67k11) (.seq (.seq (rT c67r12 [0,1,16]) c67k14) (.seq (.seq (rT c67r15 [19]) c67k17) (.seq (rT c67r18 [4]) .ret)))))))
def g67:AFn:=⟨2,[(4,none)],c67,false,[],[],none⟩
theorem tr67:trFn Tryz.prog false 67 Tryz.f67=some g67:=by kernel_rfl
def c68r0:LO:=[oBx 1 0,oP 2 .mv [cBo false]]
def c68r1:LO:=[oFa 3 0 1,oLo 4 3,oBc 5 .eql 4 2,oMv 6 5,oG 7 (.faddr 0) [.t 1] 6 false,oG 8 (.load none) [.t 7] 6 false,oG 9 (.bin .eql) [.t 8,cIn 3] 6 false,oP 10 .pick [.t 6,cBo true,.t 9],oMv 2 10]
def c68:ACode:=.seq (rT c68r0 [1]) (.seq (rT c68r1 [2]) .ret)
def g68:AFn:=⟨1,[(2,none)],c68,false,[],[],none⟩
theorem tr68:trFn Tryz.prog false 68 Tryz.f68=some g68:=by kernel_rfl
def c69r0:LO:=[oUn 1 (.box (some 8)) 0,oP 2 .mv [cBo false]]
def c69r1:LO:=[oFa 3 0 1,oLf 4 3,oP 5 .callp [cFn 56,.t 4],oFa 6 4 1,oLf 7 6,oP 8 .callp [cFn 56,.t 7],oBi 9 .add 5 8,oBc 10 .leq 9 2000,oMv 2 10]
def c69:ACode:=.seq (rT c69r0 [1]) (.seq (.seq (.settle []) (rT c69r1 [2])) .ret)
def g69:AFn:=⟨1,[(2,none)],c69,false,[],[],none⟩
theorem tr69:trFn Tryz.prog false 69 Tryz.f69=some g69:=by kernel_rfl
def c70r0:LO:=[oBx 1 0,oP 2 aZ [],oP 3 .mv [cBo false]]
def c70r1:LO:=[oLf 4 1,oCl 5 29 [.t 4],oUn 6 .not 5]
def c70r2:LO:=[oP 7 (bZ []) [],oSf 2 7,oP 3 .mv [cBo false]]
def c70k3:ACode:=kRt 6 c70r2 [2,3]
def c70r4:LO:=[oLf 9 1,oCl 10 103 [.t 9],oMv 8 10,oEx 11 0 8,oEx 12 1 8,oSf 2 11,oMv 3 12]
def c70r5:LO:=[oMv 13 3,oUn 14 .not 13,oMv 15 14,oG 16 (.load (some 4)) [.t 2] 15 false,oG 17 .call [cFn 56,.t 16] 15 false,oG 18 (.bin .gtr) [.t 17,cIn 2000] 15 false,oP 19 .pick [.t 15,cBo true,.t 18]]
def c70r6:LO:=[oP 20 (bZ []) [],oSf 2 20,oP 3 .mv [cBo false]]
def c70k7:ACode:=kRt 19 c70r6 [2,3]
def c70r8:LO:=[oLf 21 2,oSf 2 21,oP 3 .mv [cBo true]]
def c70:ACode:=.seq (rT c70r0 [1,2]) (.seq (.seq (rT c70r1 [1,2,6]) c70k3) (.seq (rT c70r4 [2,3]) (.seq (.seq (rT c70r5 [2,19]) c70k7) (.seq (rT c70r8 [2,3]) .ret))))
def g70:AFn:=⟨1,[(2,some (some 4)),(3,none)],c70,false,[],[],none⟩
theorem tr70:trFn Tryz.prog false 70 Tryz.f70=some g70:=by kernel_rfl
def c71r0:LO:=[oUn 1 (.box (some 8)) 0,oP 2 (.alloc (some 8) (.agg [((some 4),(.agg [(none,(.pv none (.int .i64 0))),(none,(.pv none (.int .i64 0))),(none,(.pv none (.str []))),(none,(.tsl (some 4) []))])),((some 4),(.agg [(none,(.pv none (.int .i64 0))),(none,(.pv none (.int .i64 0))),(none,(.pv none (.str []))),(none,(.tsl (some 4) []))]))])) [],
 oP 3 .mv [cIn 0]]
def c71r1:LO:=[oP 5 (.mkmap none) [],oMv 4 5]
def c71r2:LO:=[oFa 6 0 1,oLf 7 6,oMv 8 4,oCl 9 104 [.t 7,.t 8],oFa 10 0 2,oSf 10 9]
def c71r3:LO:=[oFa 11 4 1,oLf 12 11,oMv 13 4,oCl 14 104 [.t 12,.t 13],oFa 15 4 2,oSf 15 14]
def c71r4:LO:=[oUn 16 (.load (some 8)) 2,oMv 17 4,oUn 18 .mlen 17,⟨none,(.store (some 8)),[.t 2,.t 16],none⟩,oMv 3 18]
def c71:ACode:=.seq (rT c71r0 [1,2]) (.seq (rT c71r1 [1,2,4]) (.seq (rT c71r2 [1,2,4]) (.seq (rT c71r3 [2,4]) (.seq (rT c71r4 [2,3]) .ret))))
def g71:AFn:=⟨1,[(2,some (some 8)),(3,none)],c71,false,[],[],none⟩
theorem tr71:trFn Tryz.prog false 71 Tryz.f71=some g71:=by kernel_rfl
def c72r0:LO:=[oBx 2 0,oP 4 .mv [cIn 0]]
def c72r1:LO:=[oP 5 .mv [cIn 1]]
def c72r2:LO:=[oP 6 .mv [cIn 0]]
def c72r3:LO:=[oMv 7 6,oFa 8 3 2,oLo 9 8,oUn 10 .len 9,oBi 11 .lss 7 10,oMv 12 11,oG 13 .mv [.t 5] 12 true,oG 14 .mv [.t 1] 12 true,oG 15 (.bin .lss) [.t 13,.t 14] 12 true,oP 16 .pick [.t 12,.t 15,cBo false]]
def c72k4:ACode:=kEx 16 0
def c72r5:LO:=[oMv 19 5,oFa 20 3 2,oLo 21 20,oMv 22 6,oIa 23 21 22,oLf 24 23,oMv 25 1,oMv 26 5,oBi 27 .sub 25 26,oCl 28 72 [.t 24,.t 27],oBi 29 .add 19 28,oMv 5 29]
def c72k6:ACode:=.block 1 (rT c72r5 [1,2,5,6])
def c72r7:LO:=[oMv 17 6,oBc 18 .add 17 1,oMv 6 18]
def c72b8:ACode:=.seq (.seq (rT c72r3 [1,2,5,6,16]) c72k4) (.seq c72k6 (rT c72r7 [1,2,5,6]))
def c72k9:ACode:=.block 0 (.loop [1,2,5,6] c72b8)
def c72r10:LO:=[oMv 30 5,oMv 4 30]
def c72:ACode:=.seq (rT c72r0 [1,2]) (.seq (rT c72r1 [1,2,5]) (.seq (.seq (rT c72r2 [1,2,5,6]) c72k9) (.seq (rT c72r10 [4]) .ret)))
def g72:AFn:=⟨2,[(4,none)],c72,false,[],[],none⟩
theorem tr72:trFn Tryz.prog false 72 Tryz.f72=some g72:=by kernel_rfl
def c73r0:LO:=[oBx 1 0,oP 2 .mv [cBo false]]
def c73r1:LO:=[oFa 3 0 1,oLo 4 3]
def c73r2:LO:=[oBc 6 .eql 4 0,oMv 5 6]
def c73r3:LO:=[oFa 7 1 1,oLo 8 7,oBc 9 .geq 8 0,oMv 10 9,oG 11 (.faddr 1) [.t 1] 10 true,oG 12 (.load none) [.t 11] 10 true,oG 13 (.bin .leq) [.t 12,cIn 1099511627776] 10 true,oP 14 .pick [.t 10,.t 13,cBo false],oMv 15 14,
 oG 16 (.faddr 2) [.t 1] 15 true,oG 17 (.load none) [.t 16] 15 true,oG 18 (.bin .eql) [.t 17,cSt []] 15 true,oP 19 .pick [.t 15,.t 18,cBo false],oMv 20 19,oG 21 (.faddr 3) [.t 1] 20 true,oG 22 (.load none) [.t 21] 20 true,
 oG 23 .len [.t 22] 20 true,oG 24 (.bin .eql) [.t 23,cIn 0] 20 true,oP 25 .pick [.t 20,.t 24,cBo false],oMv 2 25]
def c73r4:LO:=[oBc 27 .eql 4 1,oMv 26 27]
def c73r5:LO:=[oFa 28 2 1,oLo 29 28,oP 30 (.bin .eql) [.t 29,cSt []],oMv 31 30,oG 32 (.faddr 3) [.t 1] 31 true,oG 33 (.load none) [.t 32] 31 true,oG 34 .len [.t 33] 31 true,oG 35 (.bin .eql) [.t 34,cIn 0] 31 true,oP 36 .pick [.t 31,.t 35,cBo false],
 oMv 2 36]
def c73r6:LO:=[oBc 38 .eql 4 2,oMv 37 38]
def c73r7:LO:=[oFa 39 1 1,oLo 40 39,oBc 41 .eql 40 0,oMv 42 41,oG 43 (.faddr 2) [.t 1] 42 true,oG 44 (.load none) [.t 43] 42 true,oG 45 .slen [.t 44] 42 true,oG 46 (.bin .leq) [.t 45,cIn 100] 42 true,oP 47 .pick [.t 42,.t 46,cBo false],
 oMv 48 47,oG 49 (.faddr 3) [.t 1] 48 true,oG 50 (.load none) [.t 49] 48 true,oG 51 .len [.t 50] 48 true,oG 52 (.bin .eql) [.t 51,cIn 0] 48 true,oP 53 .pick [.t 48,.t 52,cBo false],oMv 2 53]
def c73r8:LO:=[oBc 55 .eql 4 3,oMv 54 55]
def c73r9:LO:=[oFa 56 1 1,oLo 57 56,oBc 58 .eql 57 0,oMv 59 58,oG 60 (.faddr 2) [.t 1] 59 true,oG 61 (.load none) [.t 60] 59 true,oG 62 .slen [.t 61] 59 true,oG 63 (.bin .leq) [.t 62,cIn 100] 59 true,oP 64 .pick [.t 59,.t 63,cBo false],
 oMv 65 64,oG 66 (.faddr 3) [.t 1] 65 true,oG 67 (.load none) [.t 66] 65 true,oG 68 .len [.t 67] 65 true,oG 69 (.bin .geq) [.t 68,cIn 1] 65 true,oP 70 .pick [.t 65,.t 69,cBo false],oMv 71 70,oG 72 (.faddr 3) [.t 1] 71 true,
 oG 73 (.load none) [.t 72] 71 true,oG 74 .len [.t 73] 71 true,oG 75 (.bin .leq) [.t 74,cIn 8] 71 true,oP 76 .pick [.t 71,.t 75,cBo false],oMv 2 76]
def c73k10:ACode:=kRt 54 c73r9 [2]
def c73k11:ACode:=.cond (.t 37) (.seq (rT c73r7 [2]) .ret) (.seq (rT c73r8 [1,54]) c73k10)
def c73k12:ACode:=.cond (.t 26) (.seq (rT c73r5 [2]) .ret) (.seq (rT c73r6 [1,4,37]) c73k11)
def c73k13:ACode:=.cond (.t 5) (.seq (rT c73r3 [2]) .ret) (.seq (rT c73r4 [1,4,26]) c73k12)
def c73k14:ACode:=.block 0 (.seq (rT c73r2 [1,4,5]) c73k13)
def c73r15:LO:=[oP 2 .mv [cBo false]]
def c73:ACode:=.seq (rT c73r0 [1]) (.seq (.seq (rT c73r1 [1,4]) c73k14) (.seq (rT c73r15 [2]) .ret))
def g73:AFn:=⟨1,[(2,none)],c73,false,[],[],none⟩
theorem tr73:trFn Tryz.prog false 73 Tryz.f73=some g73:=by kernel_rfl
def c74r0:LO:=[oBx 1 0,oP 2 (.alloc (some 8) (.agg [((some 4),(.agg [(none,(.pv none (.int .i64 0))),(none,(.pv none (.int .i64 0))),(none,(.pv none (.str []))),(none,(.tsl (some 4) []))])),((some 4),(.agg [(none,(.pv none (.int .i64 0))),(none,(.pv none (.int .i64 0))),(none,(.pv none (.str []))),(none,(.tsl (some 4) []))]))])) [],
 oP 3 aZ [],oP 4 .mv [cIn 0]]
def c74r1:LO:=[oLf 10 1,oCl 11 29 [.t 10],oUn 12 .not 11]
def c74r2:LO:=[oP 13 (.build [((some 4),(.agg [(none,(.pv none (.int .i64 0))),(none,(.pv none (.int .i64 0))),(none,(.pv none (.str []))),(none,(.tsl (some 4) []))])),((some 4),(.agg [(none,(.pv none (.int .i64 0))),(none,(.pv none (.int .i64 0))),(none,(.pv none (.str []))),(none,(.tsl (some 4) []))]))] []) [],
 oP 14 (bZ []) [],⟨none,(.store (some 8)),[.t 2,.t 13],none⟩,oSf 3 14,oP 4 .mv [cIn 1]]
def c74k3:ACode:=kRt 12 c74r2 [2,3,4]
def c74r4:LO:=[oLf 15 1,oP 16 .callp [cFn 105,cSt [116,114,117,101]],oP 5 aZ [],oP 6 aZ [],oSf 5 15,oSf 6 16]
def c74r5:LO:=[oFa 17 0 1,oLo 18 17,oBc 19 .eql 18 3,oMv 20 19,oG 21 (.faddr 2) [.t 1] 20 true,oG 22 (.load none) [.t 21] 20 true,oG 23 (.bin .eql) [.t 22,cSt [58,45]] 20 true,oP 24 .pick [.t 20,.t 23,cBo false],oMv 25 24,
 oG 26 (.faddr 3) [.t 1] 25 true,oG 27 (.load none) [.t 26] 25 true,oG 28 .len [.t 27] 25 true,oG 29 (.bin .eql) [.t 28,cIn 2] 25 true,oP 30 .pick [.t 25,.t 29,cBo false]]
def c74r6:LO:=[oFa 31 3 1,oLo 32 31,oP 33 (.iaddr (some 4)) [.t 32,cIn 0],oLf 34 33,oFa 35 3 1,oLo 36 35,oP 37 (.iaddr (some 4)) [.t 36,cIn 1],oLf 38 37,⟨none,(.storen (some 4)),[.t 5,.t 34,.t 35,.t 37],none⟩,oSf 6 38]
def c74k7:ACode:=.cond (.t 30) (rT c74r6 [2,3,5,6]) .skip
def c74r8:LO:=[oFa 39 0 5,oLo 40 39,oBc 41 .eql 40 0]
def c74r9:LO:=[oP 42 (.build [((some 4),(.agg [(none,(.pv none (.int .i64 0))),(none,(.pv none (.int .i64 0))),(none,(.pv none (.str []))),(none,(.tsl (some 4) []))])),((some 4),(.agg [(none,(.pv none (.int .i64 0))),(none,(.pv none (.int .i64 0))),(none,(.pv none (.str []))),(none,(.tsl (some 4) []))]))] []) [],
 oCl 43 106 [],⟨none,(.store (some 8)),[.t 2,.t 42],none⟩,oSf 3 43,oP 4 .mv [cIn 8]]
def c74k10:ACode:=kRt 41 c74r9 [2,3,4]
def c74r11:LO:=[oLf 44 5,oCl 45 68 [.t 44],oUn 46 .not 45]
def c74r12:LO:=[oP 47 (.build [((some 4),(.agg [(none,(.pv none (.int .i64 0))),(none,(.pv none (.int .i64 0))),(none,(.pv none (.str []))),(none,(.tsl (some 4) []))])),((some 4),(.agg [(none,(.pv none (.int .i64 0))),(none,(.pv none (.int .i64 0))),(none,(.pv none (.str []))),(none,(.tsl (some 4) []))]))] []) [],
 oLf 48 5,oCl 49 85 [cSt [99,97,108,108,97,98,108,101],.t 48],⟨none,(.store (some 8)),[.t 2,.t 47],none⟩,oSf 3 49,oP 4 .mv [cIn 8]]
def c74k13:ACode:=kRt 46 c74r12 [2,3,4]
def c74r14:LO:=[oLf 51 6,oCl 52 103 [.t 51],oMv 50 52,oEx 53 0 50,oEx 54 1 50,oP 7 aZ [],oSf 7 53,oMv 8 54]
def c74r15:LO:=[oMv 55 8,oUn 56 .not 55]
def c74r16:LO:=[oP 57 (.build [((some 4),(.agg [(none,(.pv none (.int .i64 0))),(none,(.pv none (.int .i64 0))),(none,(.pv none (.str []))),(none,(.tsl (some 4) []))])),((some 4),(.agg [(none,(.pv none (.int .i64 0))),(none,(.pv none (.int .i64 0))),(none,(.pv none (.str []))),(none,(.tsl (some 4) []))]))] []) [],
 oLf 58 6,oCl 59 85 [cSt [99,97,108,108,97,98,108,101],.t 58],⟨none,(.store (some 8)),[.t 2,.t 57],none⟩,oSf 3 59,oP 4 .mv [cIn 8]]
def c74k17:ACode:=kRt 56 c74r16 [2,3,4]
def c74r18:LO:=[oLf 60 5,oLf 61 7,oP 62 (.build [((some 4),(.agg [(none,(.pv none (.int .i64 0))),(none,(.pv none (.int .i64 0))),(none,(.pv none (.str []))),(none,(.tsl (some 4) []))])),((some 4),(.agg [(none,(.pv none (.int .i64 0))),(none,(.pv none (.int .i64 0))),(none,(.pv none (.str []))),(none,(.tsl (some 4) []))]))] [0,1]) [.t 60,.t 61],
 ⟨none,(.store (some 8)),[.t 2,.t 62],none⟩]
def c74r19:LO:=[oUn 63 (.load (some 8)) 2,oCl 64 69 [.t 63],oUn 65 .not 64]
def c74r20:LO:=[oP 66 (.build [((some 4),(.agg [(none,(.pv none (.int .i64 0))),(none,(.pv none (.int .i64 0))),(none,(.pv none (.str []))),(none,(.tsl (some 4) []))])),((some 4),(.agg [(none,(.pv none (.int .i64 0))),(none,(.pv none (.int .i64 0))),(none,(.pv none (.str []))),(none,(.tsl (some 4) []))]))] []) [],
 oP 67 (bZ []) [],⟨none,(.store (some 8)),[.t 2,.t 66],none⟩,oSf 3 67,oP 4 .mv [cIn 2]]
def c74k21:ACode:=kRt 65 c74r20 [2,3,4]
def c74r22:LO:=[oUn 69 (.load (some 8)) 2,oCl 70 71 [.t 69],oMv 68 70,oEx 71 0 68,oEx 72 1 68,⟨none,(.store (some 8)),[.t 2,.t 71],none⟩,oMv 9 72]
def c74r23:LO:=[oMv 73 9,oBc 74 .gtr 73 64]
def c74r24:LO:=[oP 75 (.build [((some 4),(.agg [(none,(.pv none (.int .i64 0))),(none,(.pv none (.int .i64 0))),(none,(.pv none (.str []))),(none,(.tsl (some 4) []))])),((some 4),(.agg [(none,(.pv none (.int .i64 0))),(none,(.pv none (.int .i64 0))),(none,(.pv none (.str []))),(none,(.tsl (some 4) []))]))] []) [],
 oP 76 (bZ []) [],⟨none,(.store (some 8)),[.t 2,.t 75],none⟩,oSf 3 76,oP 4 .mv [cIn 2]]
def c74k25:ACode:=kRt 74 c74r24 [2,3,4]
def c74r26:LO:=[oUn 77 (.load (some 8)) 2,oP 78 (bZ []) [],⟨none,(.store (some 8)),[.t 2,.t 77],none⟩,oSf 3 78,oP 4 .mv [cIn 0]]
def c74:ACode:=.seq (rT c74r0 [1,2,3]) (.seq (.seq (rT c74r1 [1,2,3,12]) c74k3) (.seq (.seq (.settle []) (rT c74r4 [1,2,3,5,6])) (.seq (.seq (rT c74r5 [1,2,3,5,6,30]) c74k7) (.seq (.seq (rT c74r8 [2,3,5,6,41]) c74k10) (.seq (.seq (rT c74r11 [2,3,5,6,46]) c74k13) (.seq (rT c74r14 [2,3,5,6,7,8]) (.seq (.seq (rT c74r15 [2,3,5,6,7,56]) c74k17) (.seq (rT c74r18 [2,3]) (.seq (.seq (rT c74r19 [2,3,65]) c74k21) (.seq (rT c74r22 [2,3,9]) (.seq (.seq (rT c74r23 [2,3,74]) c74k25) (.seq (rT c74r26 [2,3,4]) .ret))))))))))))
def g74:AFn:=⟨1,[(2,some (some 8)),(3,some (some 4)),(4,none)],c74,false,[],[],none⟩
theorem tr74:trFn Tryz.prog false 74 Tryz.f74=some g74:=by kernel_rfl
def c75r0:LO:=[oBx 1 0]
def c75r1:LO:=[oLf 2 1,oP 3 (.build [((some 4),(.agg [(none,(.pv none (.int .i64 0))),(none,(.pv none (.int .i64 0))),(none,(.pv none (.str []))),(none,(.tsl (some 4) []))]))] [0]) [.t 2],oUn 4 (.mkiface 92) 3,⟨none,.panic,[.t 4],none⟩]
def c75:ACode:=.seq (rT c75r0 [1]) (rT c75r1 [])
def g75:AFn:=⟨1,[],c75,false,[],[],none⟩
theorem tr75:trFn Tryz.prog false 75 Tryz.f75=some g75:=by kernel_rfl
def c76r0:LO:=[oMv 2 0,oBc 3 .neq 2 0]
def c76r1:LO:=[oMv 4 0,oP 5 (.build [(none,(.pv none (.int .i64 0)))] [0]) [.t 4],oUn 6 (.mkiface 94) 5,⟨none,.panic,[.t 6],none⟩]
def c76k2:ACode:=.cond (.t 3) (rT c76r1 []) .skip
def c76:ACode:=.seq (rT c76r0 [0,3]) c76k2
def g76:AFn:=⟨1,[],c76,false,[],[],none⟩
theorem tr76:trFn Tryz.prog false 76 Tryz.f76=some g76:=by kernel_rfl
def c77r0:LO:=[oBx 7 3]
def c77r1:LO:=[oMv 8 0,oMv 9 1,oMv 10 2,oCl 11 88 [.t 8,.t 9,.t 10]]
def c77r2:LO:=[oLf 12 7,oCl 13 89 [cSt [109,111,100,105,102,121],cSt [115,116,97,116,105,99,95,112,114,111,99,101,100,117,114,101],.t 12],oCl 14 75 [.t 13]]
def c77k3:ACode:=.cond (.t 11) (rT c77r2 []) .skip
def c77:ACode:=.seq (rT c77r0 [0,1,2,7]) (.seq (rT c77r1 [7,11]) c77k3)
def g77:AFn:=⟨4,[],c77,true,[],[],none⟩
theorem tr77:trFn Tryz.prog true 77 Tryz.f77=some g77:=by kernel_rfl
def c78r0:LO:=[oP 4 aZ []]
def c78r1:LO:=[oMv 5 0,oUn 6 .slen 5,oBc 7 .gtr 6 100,oMv 8 7,oG 9 .mv [.t 1] 8 false,oG 10 (.bin .lss) [.t 9,cIn 0] 8 false,oP 11 .pick [.t 8,cBo true,.t 10],oMv 12 11,oG 13 .mv [.t 1] 12 false,oG 14 (.bin .gtr) [.t 13,cIn 8] 12 false,
 oP 15 .pick [.t 12,cBo true,.t 14]]
def c78r2:LO:=[oP 16 (bZ []) [],oSf 4 16]
def c78k3:ACode:=kRt 15 c78r2 [4]
def c78r4:LO:=[oMv 17 0,oCl 18 105 [.t 17],oMv 19 1,oCl 20 92 [.t 19],oP 21 (.bslice (some 4)) [.t 18,.t 20],oCl 22 107 [cSt [47],.t 21],oSf 4 22]
def c78:ACode:=.seq (rT c78r0 [0,1,4]) (.seq (.seq (rT c78r1 [0,1,4,15]) c78k3) (.seq (rT c78r4 [4]) .ret))
def g78:AFn:=⟨2,[(4,some (some 4))],c78,false,[],[],none⟩
theorem tr78:trFn Tryz.prog false 78 Tryz.f78=some g78:=by kernel_rfl
def c79r0:LO:=[oUn 4 (.box (some 2)) 0,oUn 5 (.box (some 8)) 1,oP 8 (.alloc (some 2) (.agg [(none,(.pv none (.int .i64 0))),(none,(.nilv (some 4)))])) [],oP 9 .mv [cIn 0]]
def c79r1:LO:=[oUn 14 (.load (some 2)) 4,oCl 15 13 [.t 14],oUn 16 .not 15,oMv 17 16,oG 18 (.load (some 8)) [.t 5] 17 false,oG 19 .call [cFn 40,.t 18] 17 false,oG 20 .not [.t 19] 17 false,oP 21 .pick [.t 17,cBo true,.t 20]]
def c79r2:LO:=[oP 22 (.build [(none,(.pv none (.int .i64 0))),(none,(.nilv (some 4)))] []) [],⟨none,(.store (some 2)),[.t 8,.t 22],none⟩,oP 9 .mv [cIn 1]]
def c79k3:ACode:=kRt 21 c79r2 [8,9]
def c79r4:LO:=[oUn 24 (.load (some 2)) 4,oFa 25 0 5,oFa 26 2 25,oLo 27 26,oFa 28 0 5,oFa 29 3 28,oLo 30 29,oUn 31 .len 30,oCl 32 53 [.t 24,.t 27,.t 31],oMv 23 32,oEx 33 0 23,oEx 34 1 23,oMv 10 33,oMv 11 34]
def c79r5:LO:=[oUn 35 (.load (some 2)) 4,oCl 36 37 [.t 35],oBc 37 .eql 36 500,oMv 38 37,oG 39 (.faddr 0) [.t 4] 38 false,oG 40 (.load none) [.t 39] 38 false,oG 41 (.bin .eql) [.t 40,cIn 4294967296] 38 false,oP 42 .pick [.t 38,cBo true,.t 41],
 oMv 43 42,oG 44 .mv [.t 11] 43 false,oG 45 .not [.t 44] 43 false,oG 46 .mv [.t 45] 43 false,oG 47 (.faddr 1) [.t 4] 46 true,oG 48 (.load none) [.t 47] 46 true,oG 49 .len [.t 48] 46 true,oG 50 (.bin .eql) [.t 49,cIn 500] 46 true,
 oG 51 .pick [.t 46,.t 50,cBo false] 43 false,oP 52 .pick [.t 43,cBo true,.t 51]]
def c79r6:LO:=[oP 53 (.build [(none,(.pv none (.int .i64 0))),(none,(.nilv (some 4)))] []) [],⟨none,(.store (some 2)),[.t 8,.t 53],none⟩,oP 9 .mv [cIn 13]]
def c79k7:ACode:=kRt 52 c79r6 [8,9]
def c79r8:LO:=[oUn 54 (.load (some 2)) 4,oCl 55 108 [.t 54],⟨none,(.store (some 2)),[.t 8,.t 55],none⟩]
def c79r9:LO:=[oMv 56 11,oUn 57 .not 56]
def c79r10:LO:=[oFa 58 1 8,oLo 59 58,oMv 60 10,oFa 61 0 5,oFa 62 2 61,oLo 63 62,oFa 64 0 5,oFa 65 3 64,oLo 66 65,oUn 67 .len 66,oMv 68 3,oP 69 (.build [(none,(.pv none (.str []))),(none,(.pv none (.int .i64 0))),(none,(.pv none (.bool false))),(none,(.tsl (some 9) []))] [0,1,2]) [.t 63,.t 67,.t 68],
 oUn 70 (.bslov (some 4)) 69,oCl 71 109 [.t 59,.t 60,.t 70],oFa 72 1 8,oSo 72 71]
def c79k11:ACode:=.cond (.t 57) (rT c79r10 [2,4,5,8,10]) .skip
def c79r12:LO:=[oFa 73 1 8,oLo 74 73,oMv 75 10,oIa 76 74 75,oMv 12 76]
def c79r13:LO:=[oMv 77 12,oUn 78 .nilcheck 77,oFa 79 3 78,oLo 80 79,oUn 81 .len 80,oMv 13 81]
def c79r14:LO:=[oMv 82 2]
def c79r15:LO:=[oP 13 .mv [cIn 0]]
def c79k16:ACode:=.cond (.t 82) (rT c79r15 [4,5,8,12,13]) .skip
def c79r17:LO:=[oMv 83 12,oMv 84 12,oUn 85 .nilcheck 84,oFa 86 3 85,oLo 87 86,oMv 88 13,oFa 89 0 4,oLo 90 89,oUn 91 (.load (some 8)) 5,oP 92 (.build [(none,(.pv none (.int .i64 0))),((some 8),(.agg [((some 4),(.agg [(none,(.pv none (.int .i64 0))),(none,(.pv none (.int .i64 0))),(none,(.pv none (.str []))),(none,(.tsl (some 4) []))])),((some 4),(.agg [(none,(.pv none (.int .i64 0))),(none,(.pv none (.int .i64 0))),(none,(.pv none (.str []))),(none,(.tsl (some 4) []))]))]))] [0,1]) [.t 90,.t 91],
 oP 93 .callp [cFn 99,.t 92],oUn 94 (.bslicep (some 9)) 93,oCl 95 110 [.t 87,.t 88,.t 94],oUn 96 .nilcheck 83,oFa 97 3 96,oSo 97 95]
def c79r18:LO:=[oFa 98 0 8,oLo 99 98,oBc 100 .add 99 1,oFa 101 0 8,oSo 101 100]
def c79r19:LO:=[oUn 102 (.load (some 2)) 8,⟨none,(.store (some 2)),[.t 8,.t 102],none⟩,oP 9 .mv [cIn 0]]
def c79:ACode:=.seq (rT c79r0 [2,3,4,5,8]) (.seq (.seq (rT c79r1 [2,3,4,5,8,21]) c79k3) (.seq (rT c79r4 [2,3,4,5,8,10,11]) (.seq (.seq (rT c79r5 [2,3,4,5,8,10,11,52]) c79k7) (.seq (rT c79r8 [2,3,4,5,8,10,11]) (.seq (.seq (rT c79r9 [2,3,4,5,8,10,57]) c79k11) (.seq (rT c79r12 [2,4,5,8,12]) (.seq (rT c79r13 [2,4,5,8,12,13]) (.seq (.seq (rT c79r14 [4,5,8,12,13,82]) c79k16) (.seq (.seq (.settle []) (.region false c79r17 [8])) (.seq (rT c79r18 [8]) (.seq (rT c79r19 [8,9]) .ret)))))))))))
def g79:AFn:=⟨4,[(8,some (some 2)),(9,none)],c79,false,[],[],none⟩
theorem tr79:trFn Tryz.prog false 79 Tryz.f79=some g79:=by kernel_rfl
def c80r0:LO:=[oMv 2 0,oMv 3 0,oUn 4 .nilcheck 3,oFa 5 2 4,oLf 6 5,oUn 7 (.bslice (some 4)) 6,oUn 8 .nilcheck 2,oFa 9 6 8,oSo 9 7]
def c80:ACode:=rT c80r0 []
def g80:AFn:=⟨1,[],c80,true,[],[],none⟩
theorem tr80:trFn Tryz.prog true 80 Tryz.f80=some g80:=by kernel_rfl
def c85r0:LO:=[oBx 3 1,oP 4 aZ []]
def c85r1:LO:=[oLf 5 3,oMv 6 0,oUn 7 (.bslice none) 6,oCl 8 114 [.t 5,cSt [116,121,112,101,95,101,114,114,111,114],.t 7],oSf 4 8]
def c85:ACode:=.seq (rT c85r0 [0,3,4]) (.seq (rT c85r1 [4]) .ret)
def g85:AFn:=⟨2,[(4,some (some 4))],c85,false,[],[],none⟩
theorem tr85:trFn Tryz.prog false 85 Tryz.f85=some g85:=by kernel_rfl
def c86r0:LO:=[oMv 5 0,oUn 6 .nilcheck 5,oFa 7 2 6,oFa 8 0 7,oLo 9 8,oMv 10 0,oUn 11 .nilcheck 10,oFa 12 2 11,oFa 13 2 12,oLo 14 13,oMv 15 0,oUn 16 .nilcheck 15,oFa 17 2 16,oFa 18 3 17,oLo 19 18,oP 20 (.calln 2) [.t 8,.t 13,cFn 115,.t 19],
 oP 21 (bZ [0,2,3]) [.t 9,.t 14,.t 20],oP 4 aZ [],oSf 4 21]
def c86r1:LO:=[oFa 22 3 4,oLo 23 22,oMv 24 1,oP 25 (.copy (some 4)) [.t 23,.t 24]]
def c86r2:LO:=[oMv 26 0,oUn 27 .nilcheck 26,oFa 28 6 27,oLo 29 28,oLf 30 4,oUn 31 .len 29,oP 32 (.bslicen (some 4) 2) [.t 28,.t 4,.c (.agg [(none,(.pv none (.int .i64 0))),(none,(.pv none (.int .i64 0))),(none,(.pv none (.str []))),(none,(.tsl (some 4) []))])],
 oP 33 (.append (some 4)) [.t 29,.t 32],oUn 35 .nilcheck 26,oFa 36 6 35,oIa 34 33 31,oSf 34 30,⟨none,(.storex none),[.t 36,.t 33,.t 34,.t 30],none⟩]
def c86:ACode:=.seq (.region false c86r0 [0,1,4]) (.seq (rT c86r1 [0,4]) (.seq (.settle [4]) (.region false c86r2 [])))
def g86:AFn:=⟨2,[],c86,true,[],[],none⟩
theorem tr86:trFn Tryz.prog true 86 Tryz.f86=some g86:=by kernel_rfl
def c87r0:LO:=[oBx 1 0,oP 2 aZ [],oP 3 .mv [cBo false]]
def c87r1:LO:=[oLf 5 1,oCl 6 116 [.t 5],oMv 4 6,oEx 7 0 4,oEx 8 1 4,oSf 2 7,oMv 3 8]
def c87r2:LO:=[oMv 9 3,oUn 10 .not 9]
def c87r3:LO:=[oLf 11 2,oSf 2 11,oP 3 .mv [cBo false]]
def c87k4:ACode:=kRt 10 c87r3 [2,3]
def c87r5:LO:=[oFa 12 0 1,oLo 13 12,oBc 14 .eql 13 1]
def c87r6:LO:=[oLf 15 1,oCl 16 85 [cSt [99,97,108,108,97,98,108,101],.t 15],oSf 2 16,oP 3 .mv [cBo false]]
def c87k7:ACode:=kRt 14 c87r6 [2,3]
def c87r8:LO:=[oP 17 (bZ []) [],oSf 2 17,oP 3 .mv [cBo true]]
def c87:ACode:=.seq (rT c87r0 [1,2]) (.seq (.seq (rT c87r1 [1,2,3]) (.seq (rT c87r2 [1,2,10]) c87k4)) (.seq (.seq (rT c87r5 [1,2,14]) c87k7) (.seq (rT c87r8 [2,3]) .ret)))
def g87:AFn:=⟨1,[(2,some (some 4)),(3,none)],c87,false,[],[],none⟩
theorem tr87:trFn Tryz.prog false 87 Tryz.f87=some g87:=by kernel_rfl
def c88r0:LO:=[oP 6 .mv [cBo false]]
def c88r1:LO:=[oMv 10 0,oUn 11 .nilcheck 10,oFa 12 0 11,oUn 13 (.load (some 2)) 12,oMv 14 1,oMv 15 2,oCl 16 21 [.t 13,.t 14,.t 15],oMv 9 16,oEx 17 0 9,oEx 18 1 9,oP 7 (.alloc (some 4) (.agg [(none,(.pv none (.str []))),(none,(.pv none (.int .i64 0))),(none,(.pv none (.bool false))),(none,(.tsl (some 9) []))])) [],
 oSf 7 17,oMv 8 18]
def c88r2:LO:=[oMv 19 1,oMv 20 2,oCl 21 7 [.t 19,.t 20],oMv 22 21,oG 23 .mv [.t 8] 22 false,oG 24 .mv [.t 23] 22 false,oG 25 (.faddr 2) [.t 7] 24 true,oG 26 (.load none) [.t 25] 24 true,oG 27 .not [.t 26] 24 true,oG 28 .pick [.t 24,.t 27,cBo false] 22 false,
 oP 29 .pick [.t 22,cBo true,.t 28],oMv 6 29]
def c88:ACode:=.seq (rT c88r0 [0,1,2]) (.seq (rT c88r1 [1,2,7,8]) (.seq (rT c88r2 [6]) .ret))
def g88:AFn:=⟨3,[(6,none)],c88,true,[],[],none⟩
theorem tr88:trFn Tryz.prog true 88 Tryz.f88=some g88:=by kernel_rfl
def c89r0:LO:=[oBx 5 2,oP 6 aZ []]
def c89r1:LO:=[oLf 7 5,oMv 8 0,oMv 9 1,oP 10 (.bslice none) [.t 8,.t 9],oCl 11 114 [.t 7,cSt [112,101,114,109,105,115,115,105,111,110,95,101,114,114,111,114],.t 10],oSf 6 11]
def c89:ACode:=.seq (rT c89r0 [0,1,5,6]) (.seq (rT c89r1 [6]) .ret)
def g89:AFn:=⟨3,[(6,some (some 4))],c89,false,[],[],none⟩
theorem tr89:trFn Tryz.prog false 89 Tryz.f89=some g89:=by kernel_rfl
def c90r0:LO:=[oBx 1 0,oP 2 (.nilsl none) []]
def c90r1:LO:=[oLf 5 1,oCl 6 29 [.t 5],oUn 7 .not 6]
def c90r2:LO:=[oP 2 (.nilsl none) []]
def c90k3:ACode:=kRt 7 c90r2 [2]
def c90r4:LO:=[oP 3 (.alloc none (.tsl none [])) []]
def c90r5:LO:=[oP 8 (.mkmap none) [],oP 4 (.alloc none (.pv none .nilmap)) [],oSo 4 8]
def c90r6:LO:=[oLf 9 1,oP 10 (.mkfunc (.func 117) 0) [.t 4,.t 3],oCl 11 59 [.t 9,.t 10]]
def c90r7:LO:=[oLo 12 3,oMv 2 12]
def c90:ACode:=.seq (rT c90r0 [1]) (.seq (.seq (rT c90r1 [1,7]) c90k3) (.seq (rT c90r4 [1,3]) (.seq (rT c90r5 [1,3,4]) (.seq (rT c90r6 [3]) (.seq (rT c90r7 [2]) .ret)))))
def g90:AFn:=⟨1,[(2,none)],c90,false,[],[],none⟩
theorem tr90:trFn Tryz.prog false 90 Tryz.f90=some g90:=by kernel_rfl
def c91r0:LO:=[oBx 2 0,oUn 3 (.box none) 1,oP 4 aZ [],oP 5 .mv [cIn 0]]
def c91r1:LO:=[oLf 8 2,oCl 9 29 [.t 8],oUn 10 .not 9,oMv 11 10,oG 12 (.load none) [.t 3] 11 false,oG 13 .call [cFn 118,.t 12] 11 false,oG 14 .not [.t 13] 11 false,oP 15 .pick [.t 11,cBo true,.t 14]]
def c91r2:LO:=[oP 16 (bZ []) [],oSf 4 16,oP 5 .mv [cIn 1]]
def c91k3:ACode:=kRt 15 c91r2 [4,5]
def c91r4:LO:=[oLf 17 2,oCl 18 90 [.t 17],oUn 19 .len 18,oP 20 .mv [cIn 0]]
def c91r5:LO:=[oBi 21 .lss 20 19]
def c91k6:ACode:=kEx 21 0
def c91r7:LO:=[oP 22 (.iaddr none) [.t 18,.t 20],oLo 23 22,oMv 7 23]
def c91r8:LO:=[oMv 24 7,oLo 25 3,oP 26 (.bin .sub) [cIn 1099511627776,.t 25],oBi 27 .gtr 24 26]
def c91r9:LO:=[oP 28 (bZ []) [],oSf 4 28,oP 5 .mv [cIn 2]]
def c91k10:ACode:=kRt 27 c91r9 [4,5]
def c91k11:ACode:=.block 1 (.seq (rT c91r7 [2,3,4,7,18,19,20]) (.seq (rT c91r8 [2,3,4,18,19,20,27]) c91k10))
def c91r12:LO:=[oBc 29 .add 20 1,oMv 20 29]
def c91b13:ACode:=.seq (rT c91r5 [2,3,4,18,19,20,21]) (.seq c91k6 (.seq c91k11 (rT c91r12 [2,3,4,18,19,20])))
def c91k14:ACode:=.block 0 (.loop [2,3,4,18,19,20] c91b13)
def c91r15:LO:=[oLf 30 2,oUn 31 (.mkfunc (.func 119) 0) 3,oCl 32 59 [.t 30,.t 31],oSf 4 32,oP 5 .mv [cIn 0]]
def c91:ACode:=.seq (rT c91r0 [2,3,4]) (.seq (.seq (rT c91r1 [2,3,4,15]) c91k3) (.seq (.seq (rT c91r4 [2,3,4,18,19,20]) c91k14) (.seq (rT c91r15 [4,5]) .ret)))
def g91:AFn:=⟨2,[(4,some (some 4)),(5,none)],c91,false,[],[],none⟩
theorem tr91:trFn Tryz.prog false 91 Tryz.f91=some g91:=by kernel_rfl
def c92r0:LO:=[oP 2 aZ []]
def c92r1:LO:=[oMv 3 0,oP 4 (bZ [0,1]) [cIn 1,.t 3],oSf 2 4]
def c92:ACode:=.seq (rT c92r0 [0,2]) (.seq (rT c92r1 [2]) .ret)
def g92:AFn:=⟨1,[(2,some (some 4))],c92,false,[],[],none⟩
theorem tr92:trFn Tryz.prog false 92 Tryz.f92=some g92:=by kernel_rfl
def c93r0:LO:=[oBx 4 1,oBx 5 2,oP 6 (.alloc none (.tsl (some 5) [])) [],oP 7 (.alloc none (.pv none (.int .i64 0))) []]
def c93r1:LO:=[oMv 9 0,oCl 10 120 [.t 9],oUn 11 .not 10,oMv 12 11,oG 13 (.load (some 4)) [.t 4] 12 false,oG 14 .call [cFn 29,.t 13] 12 false,oG 15 .not [.t 14] 12 false,oP 16 .pick [.t 12,cBo true,.t 15],oMv 17 16,oG 18 (.load (some 4)) [.t 5] 17 false,
 oG 19 .call [cFn 29,.t 18] 17 false,oG 20 .not [.t 19] 17 false,oP 21 .pick [.t 17,cBo true,.t 20]]
def c93r2:LO:=[⟨none,(.store none),[.t 6,.c (.tsl (some 5) [])],none⟩,⟨none,(.store none),[.t 7,cIn 1],none⟩]
def c93k3:ACode:=kRt 21 c93r2 [6,7]
def c93r4:LO:=[oP 22 (.mkfunc (.func 121) 0) [.t 6,.t 7]]
def c93r5:LO:=[oMv 23 0,oCl 24 122 [.t 23],oP 25 (.build [(none,(.tsl (some 5) []))] [0]) [.t 24],oUn 26 (.box (some 1)) 25,oMv 8 26]
def c93r6:LO:=[oMv 27 8,oLf 28 4,oLf 29 5,oCl 30 123 [.t 27,.t 28,.t 29]]
def c93r7:LO:=[oMv 31 8,oUn 32 .nilcheck 31,oFa 33 0 32,oLo 34 33,oSo 6 34,⟨none,(.store none),[.t 7,cIn 0],none⟩]
def c93p8:ACode:=(.seq (rT c93r5 [4,5,6,7,8]) (.seq (rT c93r6 [6,7,8]) (.seq (rT c93r7 [6,7]) (.seq .ret .skip))))
def c93:ACode:=.seq (rT c93r0 [0,4,5,6,7]) (.seq (rT c93r1 [0,4,5,6,7,21]) (.seq c93k3 (rT c93r4 [0,4,5,6,7,22])))
def g93:AFn:=⟨3,[(6,some none),(7,some none)],c93,false,[(.dfr 22,c93p8)],[],none⟩
theorem tr93:trFn Tryz.prog false 93 Tryz.f93=some g93:=by kernel_rfl
def c94r0:LO:=[oBx 1 0,oP 2 .mv [cIn 0],oP 3 aZ [],oP 4 .mv [cBo false]]
def c94r1:LO:=[oLf 6 1,oCl 7 116 [.t 6],oMv 5 7,oEx 8 0 5,oEx 9 1 5,oSf 3 8,oMv 4 9]
def c94r2:LO:=[oMv 10 4,oUn 11 .not 10]
def c94r3:LO:=[oLf 12 3,oP 2 .mv [cIn 0],oSf 3 12,oP 4 .mv [cBo false]]
def c94k4:ACode:=kRt 11 c94r3 [2,3,4]
def c94r5:LO:=[oFa 13 0 1,oLo 14 13,oBc 15 .neq 14 1]
def c94r6:LO:=[oLf 16 1,oCl 17 85 [cSt [105,110,116,101,103,101,114],.t 16],oP 2 .mv [cIn 0],oSf 3 17,oP 4 .mv [cBo false]]
def c94k7:ACode:=kRt 15 c94r6 [2,3,4]
def c94r8:LO:=[oFa 18 1 1,oLo 19 18,oP 20 (bZ []) [],oMv 2 19,oSf 3 20,oP 4 .mv [cBo true]]
def c94:ACode:=.seq (rT c94r0 [1,3]) (.seq (.seq (rT c94r1 [1,3,4]) (.seq (rT c94r2 [1,3,11]) c94k4)) (.seq (.seq (rT c94r5 [1,3,15]) c94k7) (.seq (rT c94r8 [2,3,4]) .ret)))
def g94:AFn:=⟨1,[(2,none),(3,some (some 4)),(4,none)],c94,false,[],[],none⟩
theorem tr94:trFn Tryz.prog false 94 Tryz.f94=some g94:=by kernel_rfl
def c95r0:LO:=[oUn 2 (.box (some 2)) 0,oP 4 (.alloc (some 2) (.agg [(none,(.pv none (.int .i64 0))),(none,(.nilv (some 4)))])) [],oP 5 .mv [cBo false]]
def c95r1:LO:=[oUn 8 (.load (some 2)) 2,oCl 9 13 [.t 8],oUn 10 .not 9]
def c95r2:LO:=[oP 11 (.build [(none,(.pv none (.int .i64 0))),(none,(.nilv (some 4)))] []) [],⟨none,(.store (some 2)),[.t 4,.t 11],none⟩,oP 5 .mv [cBo false]]
def c95k3:ACode:=kRt 10 c95r2 [4,5]
def c95r4:LO:=[oUn 13 (.load (some 2)) 2,oMv 14 1,oCl 15 124 [.t 13,.t 14],oMv 12 15,oEx 16 0 12,oEx 17 1 12,oEx 18 2 12,oMv 6 16,oMv 7 17,oMv 5 18]
def c95r5:LO:=[oMv 19 5,oUn 20 .not 19]
def c95r6:LO:=[oP 21 (.build [(none,(.pv none (.int .i64 0))),(none,(.nilv (some 4)))] []) [],⟨none,(.store (some 2)),[.t 4,.t 21],none⟩,oP 5 .mv [cBo false]]
def c95k7:ACode:=kRt 20 c95r6 [4,5]
def c95r8:LO:=[oUn 22 (.load (some 2)) 2,oCl 23 108 [.t 22],⟨none,(.store (some 2)),[.t 4,.t 23],none⟩]
def c95r9:LO:=[oFa 24 1 4,oLo 25 24,oMv 26 6,oFa 27 1 4,oLo 28 27,oMv 29 6,oIa 30 28 29,oFa 31 3 30,oLo 32 31,oMv 33 7,oMv 34 7,oBc 35 .add 34 1,oP 36 (.calln 1) [.t 24,cFn 125,.t 32,.t 33,.t 35],oIa 37 25 26,oFa 38 3 37,
 oSo 38 36]
def c95r10:LO:=[oUn 39 (.load (some 2)) 4,⟨none,(.store (some 2)),[.t 4,.t 39],none⟩,oP 5 .mv [cBo true]]
def c95:ACode:=.seq (rT c95r0 [1,2,4]) (.seq (.seq (rT c95r1 [1,2,4,10]) c95k3) (.seq (rT c95r4 [2,4,5,6,7]) (.seq (.seq (rT c95r5 [2,4,6,7,20]) c95k7) (.seq (rT c95r8 [4,6,7]) (.seq (.region false c95r9 [4]) (.seq (rT c95r10 [4,5]) .ret))))))
def g95:AFn:=⟨2,[(4,some (some 2)),(5,none)],c95,false,[],[],none⟩
theorem tr95:trFn Tryz.prog false 95 Tryz.f95=some g95:=by kernel_rfl
def c97r0:LO:=[oBx 4 1,oP 6 .mv [cIn 0],oP 7 .mv [cBo false]]
def c97r1:LO:=[oMv 12 0,oUn 13 .len 12,oMv 8 13]
def c97r2:LO:=[oMv 14 8,oP 9 .mv [cIn 0],oMv 10 14]
def c97r3:LO:=[oMv 15 9,oMv 16 10,oBi 17 .lss 15 16]
def c97k4:ACode:=kEx 17 0
def c97r5:LO:=[oMv 18 9,oMv 19 10,oBi 20 .add 18 19,oUn 21 (.conv .u64) 20,oP 22 (.bin .shr) [.t 21,.c (.pv none (.int .u64 1))],oUn 23 (.conv .i64) 22,oMv 11 23]
def c97r6:LO:=[oMv 24 2,oMv 25 0,oMv 26 11,oIa 27 25 26,oLf 28 27,oLf 29 4,oP 30 .call [.t 24,.t 28,.t 29],oBc 31 .lss 30 0]
def c97r7:LO:=[oMv 32 11,oBc 33 .add 32 1,oMv 9 33]
def c97r8:LO:=[oMv 34 11,oMv 10 34]
def c97k9:ACode:=.cond (.t 31) (rT c97r7 [0,2,4,8,9,10]) (rT c97r8 [0,2,4,8,9,10])
def c97k10:ACode:=.block 1 (.seq (rT c97r5 [0,2,4,8,9,10,11]) (.seq (rT c97r6 [0,2,4,8,9,10,11,31]) c97k9))
def c97b11:ACode:=.seq (.seq (rT c97r3 [0,2,4,8,9,10,17]) c97k4) c97k10
def c97k12:ACode:=.block 0 (.loop [0,2,4,8,9,10] c97b11)
def c97r13:LO:=[oMv 35 9,oMv 36 9,oMv 37 8,oBi 38 .lss 36 37,oMv 39 38,oG 40 .mv [.t 2] 39 true,oG 41 .mv [.t 0] 39 true,oG 42 .mv [.t 9] 39 true,oG 43 (.iaddr (some 4)) [.t 41,.t 42] 39 true,oG 44 (.load (some 4)) [.t 43] 39 true,
 oG 45 (.load (some 4)) [.t 4] 39 true,oG 46 .call [.t 40,.t 44,.t 45] 39 true,oG 47 (.bin .eql) [.t 46,cIn 0] 39 true,oP 48 .pick [.t 39,.t 47,cBo false],oMv 6 35,oMv 7 48]
def c97:ACode:=.seq (rT c97r0 [0,2,4]) (.seq (rT c97r1 [0,2,4,8]) (.seq (rT c97r2 [0,2,4,8,9,10]) (.seq c97k12 (.seq (.region false c97r13 [6,7]) .ret))))
def g97:AFn:=⟨3,[(6,none),(7,none)],c97,false,[],[],none⟩
theorem tr97:trFn Tryz.prog false 97 Tryz.f97=some g97:=by kernel_rfl
def c98r0:LO:=[oBx 2 0,oBx 3 1,oP 4 .mv [cIn 0]]
def c98r1:LO:=[oLf 5 2,oLf 6 3,oCl 7 39 [.t 5,.t 6],oMv 4 7]
def c98:ACode:=.seq (rT c98r0 [2,3]) (.seq (rT c98r1 [4]) .ret)
def g98:AFn:=⟨2,[(4,none)],c98,false,[],[],none⟩
theorem tr98:trFn Tryz.prog false 98 Tryz.f98=some g98:=by kernel_rfl
def c99r0:LO:=[oUn 1 (.box (some 9)) 0,oP 2 (.alloc (some 9) (.agg [(none,(.pv none (.int .i64 0))),((some 8),(.agg [((some 4),(.agg [(none,(.pv none (.int .i64 0))),(none,(.pv none (.int .i64 0))),(none,(.pv none (.str []))),(none,(.tsl (some 4) []))])),((some 4),(.agg [(none,(.pv none (.int .i64 0))),(none,(.pv none (.int .i64 0))),(none,(.pv none (.str []))),(none,(.tsl (some 4) []))]))]))])) []]
def c99r1:LO:=[oFa 3 0 1,oLo 4 3,oFa 5 1 1,oFa 6 0 5,oLf 7 6,oP 8 .callp [cFn 33,.t 7],oFa 9 1 1,oFa 10 4 9,oLf 11 10,oP 12 .callp [cFn 33,.t 11],oP 13 (.build [((some 4),(.agg [(none,(.pv none (.int .i64 0))),(none,(.pv none (.int .i64 0))),(none,(.pv none (.str []))),(none,(.tsl (some 4) []))])),((some 4),(.agg [(none,(.pv none (.int .i64 0))),(none,(.pv none (.int .i64 0))),(none,(.pv none (.str []))),(none,(.tsl (some 4) []))]))] [0,1]) [.t 8,.t 12],
 oP 14 (.build [(none,(.pv none (.int .i64 0))),((some 8),(.agg [((some 4),(.agg [(none,(.pv none (.int .i64 0))),(none,(.pv none (.int .i64 0))),(none,(.pv none (.str []))),(none,(.tsl (some 4) []))])),((some 4),(.agg [(none,(.pv none (.int .i64 0))),(none,(.pv none (.int .i64 0))),(none,(.pv none (.str []))),(none,(.tsl (some 4) []))]))]))] [0,1]) [.t 4,.t 13],
 ⟨none,(.store (some 9)),[.t 2,.t 14],none⟩]
def c99:ACode:=.seq (rT c99r0 [1,2]) (.seq (.seq (.settle []) (rT c99r1 [2])) .ret)
def g99:AFn:=⟨1,[(2,some (some 9))],c99,false,[],[],none⟩
theorem tr99:trFn Tryz.prog false 99 Tryz.f99=some g99:=by kernel_rfl
def c100r0:LO:=[oBx 3 0]
def c100r1:LO:=[oLo 5 1,oBc 6 .sub 5 1,oSo 1 6]
def c100r2:LO:=[oP 4 .mv [cIn 0]]
def c100r3:LO:=[oMv 7 4,oFa 8 3 3,oLo 9 8,oUn 10 .len 9,oBi 11 .lss 7 10,oMv 12 11,oG 13 (.load none) [.t 1] 12 true,oG 14 (.bin .gtr) [.t 13,cIn 0] 12 true,oP 15 .pick [.t 12,.t 14,cBo false]]
def c100k4:ACode:=kEx 15 0
def c100r5:LO:=[oLo 18 2,oFa 19 3 3,oLo 20 19,oMv 21 4,oIa 22 20 21,oLf 23 22,oP 24 .call [.t 18,.t 23]]
def c100k6:ACode:=.block 1 (rT c100r5 [1,2,3,4])
def c100r7:LO:=[oMv 16 4,oBc 17 .add 16 1,oMv 4 17]
def c100b8:ACode:=.seq (.seq (rT c100r3 [1,2,3,4,15]) c100k4) (.seq c100k6 (rT c100r7 [1,2,3,4]))
def c100k9:ACode:=.block 0 (.loop [1,2,3,4] c100b8)
def c100:ACode:=.seq (rT c100r0 [1,2,3]) (.seq (rT c100r1 [1,2,3]) (.seq (rT c100r2 [1,2,3,4]) c100k9))
def g100:AFn:=⟨3,[],c100,true,[],[],none⟩
theorem tr100:trFn Tryz.prog true 100 Tryz.f100=some g100:=by kernel_rfl
def c101r0:LO:=[oP 2 .mv [cBo false]]
def c101r1:LO:=[oMv 3 0,oMv 4 0,oBi 5 .neq 3 4,oMv 2 5]
def c101:ACode:=.seq (rT c101r0 [0]) (.seq (rT c101r1 [2]) .ret)
def g101:AFn:=⟨1,[(2,none)],c101,false,[],[],none⟩
theorem tr101:trFn Tryz.prog false 101 Tryz.f101=some g101:=by kernel_rfl
def c102r0:LO:=[oP 2 .mv [cBo false]]
def c102r1:LO:=[oMv 3 0,oMv 4 0,oBi 5 .neq 3 4,oMv 2 5]
def c102:ACode:=.seq (rT c102r0 [0]) (.seq (rT c102r1 [2]) .ret)
def g102:AFn:=⟨1,[(2,none)],c102,false,[],[],none⟩
theorem tr102:trFn Tryz.prog false 102 Tryz.f102=some g102:=by kernel_rfl
def c103r0:LO:=[oBx 1 0,oP 2 aZ [],oP 3 (.alloc none (.pv none (.bool false))) []]
def c103r1:LO:=[oP 4 (.mkfunc (.func 128) 0) [.t 2,.t 3]]
def c103r2:LO:=[oLf 5 1,oCl 6 129 [.t 5],oSf 2 6,⟨none,(.store none),[.t 3,cBo true],none⟩]
def c103p3:ACode:=(.seq (rT c103r2 [2,3]) (.seq .ret .skip))
def c103:ACode:=.seq (rT c103r0 [1,2,3]) (rT c103r1 [1,2,3,4])
def g103:AFn:=⟨1,[(2,some (some 4)),(3,some none)],c103,false,[(.dfr 4,c103p3)],[],none⟩
theorem tr103:trFn Tryz.prog false 103 Tryz.f103=some g103:=by kernel_rfl
def c104r0:LO:=[oBx 2 0,oP 4 aZ []]
def c104r1:LO:=[oFa 10 0 2,oLo 11 10,oFa 12 1 2,oLo 13 12,oFa 14 2 2,oLo 15 14,oP 16 (bZ [0,1,2]) [.t 11,.t 13,.t 15],oP 5 aZ [],oSf 5 16]
def c104r2:LO:=[oFa 17 0 2,oLo 18 17,oBc 19 .eql 18 0]
def c104r3:LO:=[oMv 21 1,oFa 22 1 2,oLo 23 22,oP 24 (.lookup false none (.pv none (.int .i64 0)) true) [.t 21,.t 23],oMv 20 24,oEx 25 0 20,oEx 26 1 20,oMv 6 25,oMv 7 26]
def c104r4:LO:=[oMv 27 7,oUn 28 .not 27]
def c104r5:LO:=[oMv 29 1,oUn 30 .mlen 29,oMv 6 30]
def c104r6:LO:=[oMv 31 1,oFa 32 1 2,oLo 33 32,oMv 34 6,⟨none,(.mapset false none),[.t 31,.t 33,.t 34],none⟩]
def c104k7:ACode:=.cond (.t 28) (.seq (rT c104r5 [1,2,4,5,6]) (rT c104r6 [1,2,4,5,6])) .skip
def c104r8:LO:=[oMv 35 6,oFa 36 1 5,oSo 36 35]
def c104k9:ACode:=.cond (.t 19) (.seq (rT c104r3 [1,2,4,5,6,7]) (.seq (.seq (rT c104r4 [1,2,4,5,6,28]) c104k7) (rT c104r8 [1,2,4,5]))) .skip
def c104r10:LO:=[oFa 37 3 2,oLo 38 37,oUn 39 .len 38,oP 40 .mv [cIn 0]]
def c104r11:LO:=[oBi 41 .lss 40 39]
def c104k12:ACode:=kEx 41 0
def c104r13:LO:=[oIa 42 38 40,oLf 43 42,oP 9 aZ [],oSf 9 43]
def c104r14:LO:=[oFa 44 3 5,oLo 45 44,oLf 46 9,oMv 47 1,oP 48 (.calln 1) [.t 44,cFn 104,.t 46,.t 47],oP 49 (.bslicen (some 4) 1) [.t 44,.t 48],oP 50 (.append (some 4)) [.t 45,.t 49],oFa 51 3 5,oSo 51 50]
def c104k15:ACode:=.block 1 (.seq (rT c104r13 [1,4,5,9,38,39,40]) (.region false c104r14 [1,4,5,38,39,40]))
def c104r16:LO:=[oBc 52 .add 40 1,oMv 40 52]
def c104b17:ACode:=.seq (rT c104r11 [1,4,5,38,39,40,41]) (.seq c104k12 (.seq c104k15 (rT c104r16 [1,4,5,38,39,40])))
def c104k18:ACode:=.block 0 (.loop [1,4,5,38,39,40] c104b17)
def c104r19:LO:=[oLf 53 5,oSf 4 53]
def c104:ACode:=.seq (rT c104r0 [1,2,4]) (.seq (rT c104r1 [1,2,4,5]) (.seq (.seq (rT c104r2 [1,2,4,5,19]) c104k9) (.seq (.seq (rT c104r10 [1,4,5,38,39,40]) c104k18) (.seq (rT c104r19 [4]) .ret))))
def g104:AFn:=⟨2,[(4,some (some 4))],c104,true,[],[],none⟩
theorem tr104:trFn Tryz.prog true 104 Tryz.f104=some g104:=by kernel_rfl
def c105r0:LO:=[oP 2 aZ []]
def c105r1:LO:=[oMv 3 0,oP 4 (bZ [0,2]) [cIn 2,.t 3],oCl 5 33 [.t 4],oSf 2 5]
def c105:ACode:=.seq (rT c105r0 [0,2]) (.seq (rT c105r1 [2]) .ret)
def g105:AFn:=⟨1,[(2,some (some 4))],c105,false,[],[],none⟩
theorem tr105:trFn Tryz.prog false 105 Tryz.f105=some g105:=by kernel_rfl
def c106r0:LO:=[oP 0 aZ []]
def c106r1:LO:=[oCl 1 130 [cSt [105,110,115,116,97,110,116,105,97,116,105,111,110,95,101,114,114,111,114],.c (.tsl (some 4) [])],oSf 0 1]
def c106:ACode:=.seq (rT c106r0 [0]) (.seq (rT c106r1 [0]) .ret)
def g106:AFn:=⟨0,[(0,some (some 4))],c106,false,[],[],none⟩
theorem tr106:trFn Tryz.prog false 106 Tryz.f106=some g106:=by kernel_rfl
def c107r0:LO:=[oP 4 aZ []]
def c107r1:LO:=[oMv 5 1,oUn 6 .len 5,oBc 7 .eql 6 0]
def c107r2:LO:=[oMv 8 0,oCl 9 105 [.t 8],oSf 4 9]
def c107k3:ACode:=kRt 7 c107r2 [4]
def c107r4:LO:=[oMv 10 0,oMv 11 1,oP 12 (bZ [0,2,3]) [cIn 3,.t 10,.t 11],oCl 13 33 [.t 12],oSf 4 13]
def c107:ACode:=.seq (rT c107r0 [0,1,4]) (.seq (.seq (rT c107r1 [0,1,4,7]) c107k3) (.seq (rT c107r4 [4]) .ret))
def g107:AFn:=⟨2,[(4,some (some 4))],c107,false,[],[],none⟩
theorem tr107:trFn Tryz.prog false 107 Tryz.f107=some g107:=by kernel_rfl
def c108r0:LO:=[oUn 1 (.box (some 2)) 0,oP 2 (.alloc (some 2) (.agg [(none,(.pv none (.int .i64 0))),(none,(.nilv (some 4)))])) []]
def c108r1:LO:=[oFa 6 1 1,oLo 7 6,oUn 8 .len 7,oP 9 (.mkslicev (some 4) (.agg [(none,(.pv none (.str []))),(none,(.pv none (.int .i64 0))),(none,(.pv none (.bool false))),(none,(.tsl (some 9) []))])) [.t 8,.t 8],oMv 3 9]
def c108r2:LO:=[oFa 10 1 1,oLo 11 10,oUn 12 .len 11,oP 13 .mv [cIn 0]]
def c108r3:LO:=[oBi 14 .lss 13 12]
def c108k4:ACode:=kEx 14 0
def c108r5:LO:=[oMv 15 13,oIa 16 11 13,oLf 17 16,oP 5 (.alloc (some 4) (.agg [(none,(.pv none (.str []))),(none,(.pv none (.int .i64 0))),(none,(.pv none (.bool false))),(none,(.tsl (some 9) []))])) [],oMv 4 15,oSf 5 17]
def c108r6:LO:=[oMv 18 3,oMv 19 4,oLf 20 5,oCl 21 54 [.t 20],oIa 22 18 19,oSf 22 21]
def c108k7:ACode:=.block 1 (.seq (rT c108r5 [1,2,3,4,5,11,12,13]) (rT c108r6 [1,2,3,11,12,13]))
def c108r8:LO:=[oBc 23 .add 13 1,oMv 13 23]
def c108b9:ACode:=.seq (rT c108r3 [1,2,3,11,12,13,14]) (.seq c108k4 (.seq c108k7 (rT c108r8 [1,2,3,11,12,13])))
def c108k10:ACode:=.block 0 (.loop [1,2,3,11,12,13] c108b9)
def c108r11:LO:=[oMv 24 3,oFa 25 1 1,oSo 25 24]
def c108r12:LO:=[oUn 26 (.load (some 2)) 1,⟨none,(.store (some 2)),[.t 2,.t 26],none⟩]
def c108:ACode:=.seq (rT c108r0 [1,2]) (.seq (rT c108r1 [1,2,3]) (.seq (.seq (rT c108r2 [1,2,3,11,12,13]) c108k10) (.seq (rT c108r11 [1,2]) (.seq (rT c108r12 [2]) .ret))))
def g108:AFn:=⟨1,[(2,some (some 2))],c108,true,[],[],none⟩
theorem tr108:trFn Tryz.prog true 108 Tryz.f108=some g108:=by kernel_rfl
def c114r0:LO:=[oBx 3 0,oP 6 aZ []]
def c114r1:LO:=[oLf 10 3,oCl 11 29 [.t 10],oUn 12 .not 11]
def c114r2:LO:=[oP 13 (bZ []) [],oSf 6 13]
def c114k3:ACode:=kRt 12 c114r2 [6]
def c114r4:LO:=[oP 7 (.nilsl (some 4)) []]
def c114r5:LO:=[oMv 14 2,oUn 15 .len 14,oP 16 .mv [cIn 0]]
def c114r6:LO:=[oBi 17 .lss 16 15]
def c114k7:ACode:=kEx 17 0
def c114r8:LO:=[oP 18 (.iaddr none) [.t 14,.t 16],oLo 19 18,oMv 9 19]
def c114r9:LO:=[oMv 20 9,oUn 21 .slen 20,oBc 22 .gtr 21 100]
def c114r10:LO:=[oP 23 (bZ []) [],oSf 6 23]
def c114k11:ACode:=kRt 22 c114r10 [6]
def c114r12:LO:=[oMv 24 7,oMv 25 9,oCl 26 105 [.t 25],oUn 27 (.bslice (some 4)) 26,oP 28 (.append (some 4)) [.t 24,.t 27],oMv 7 28]
def c114k13:ACode:=.block 1 (.seq (rT c114r8 [1,2,3,6,7,9,14,15,16]) (.seq (.seq (rT c114r9 [1,2,3,6,7,9,14,15,16,22]) c114k11) (rT c114r12 [1,2,3,6,7,14,15,16])))
def c114r14:LO:=[oBc 29 .add 16 1,oMv 16 29]
def c114b15:ACode:=.seq (rT c114r6 [1,2,3,6,7,14,15,16,17]) (.seq c114k7 (.seq c114k13 (rT c114r14 [1,2,3,6,7,14,15,16])))
def c114k16:ACode:=.block 0 (.loop [1,2,3,6,7,14,15,16] c114b15)
def c114r17:LO:=[oMv 30 2,oUn 31 .len 30,oP 32 (.bin .add) [cIn 3,.t 31],oLf 33 3,oCl 34 56 [.t 33],oBi 35 .add 32 34,oBc 36 .gtr 35 2000]
def c114r18:LO:=[oCl 37 105 [cSt [46,46,46]],oSf 3 37]
def c114k19:ACode:=.cond (.t 36) (rT c114r18 [1,3,6,7]) .skip
def c114r20:LO:=[oMv 38 1,oMv 39 7,oLf 40 3,oUn 41 (.bslice (some 4)) 40,oP 42 (.append (some 4)) [.t 39,.t 41],oCl 43 130 [.t 38,.t 42],oSf 6 43]
def c114:ACode:=.seq (rT c114r0 [1,2,3,6]) (.seq (.seq (rT c114r1 [1,2,3,6,12]) c114k3) (.seq (rT c114r4 [1,2,3,6,7]) (.seq (.seq (rT c114r5 [1,2,3,6,7,14,15,16]) c114k16) (.seq (.seq (rT c114r17 [1,3,6,7,36]) c114k19) (.seq (rT c114r20 [6]) .ret)))))
def g114:AFn:=⟨3,[(6,some (some 4))],c114,false,[],[],none⟩
theorem tr114:trFn Tryz.prog false 114 Tryz.f114=some g114:=by kernel_rfl
def c115r0:LO:=[oP 2 (.nilsl (some 4)) []]
def c115r1:LO:=[oMv 3 0,oUn 4 (.slnil false) 3]
def c115r2:LO:=[oP 2 (.nilsl (some 4)) []]
def c115k3:ACode:=kRt 4 c115r2 [2]
def c115r4:LO:=[oP 5 (.bslice (some 4)) [],oMv 6 0,oP 7 (.append (some 4)) [.t 5,.t 6],oMv 2 7]
def c115:ACode:=.seq (rT c115r0 [0]) (.seq (.seq (rT c115r1 [0,4]) c115k3) (.seq (rT c115r4 [2]) .ret))
def g115:AFn:=⟨1,[(2,none)],c115,true,[],[],none⟩
theorem tr115:trFn Tryz.prog true 115 Tryz.f115=some g115:=by kernel_rfl
def c116r0:LO:=[oBx 1 0,oP 2 aZ [],oP 3 .mv [cBo false]]
def c116r1:LO:=[oLf 4 1,oCl 5 29 [.t 4],oUn 6 .not 5]
def c116r2:LO:=[oP 7 (bZ []) [],oSf 2 7,oP 3 .mv [cBo false]]
def c116k3:ACode:=kRt 6 c116r2 [2,3]
def c116r4:LO:=[oFa 8 0 1,oLo 9 8,oBc 10 .eql 9 0]
def c116r5:LO:=[oCl 11 106 [],oSf 2 11,oP 3 .mv [cBo false]]
def c116k6:ACode:=kRt 10 c116r5 [2,3]
def c116r7:LO:=[oP 12 (bZ []) [],oSf 2 12,oP 3 .mv [cBo true]]
def c116:ACode:=.seq (rT c116r0 [1,2]) (.seq (.seq (rT c116r1 [1,2,6]) c116k3) (.seq (.seq (rT c116r4 [2,10]) c116k6) (.seq (rT c116r7 [2,3]) .ret)))
def g116:AFn:=⟨1,[(2,some (some 4)),(3,none)],c116,false,[],[],none⟩
theorem tr116:trFn Tryz.prog false 116 Tryz.f116=some g116:=by kernel_rfl
def c117r0:LO:=[oBx 3 0,oP 4 aZ []]
def c117r1:LO:=[oLo 5 1,oFa 6 1 3,oLo 7 6,oP 8 (.lookup false none (.pv none (.int .i64 0)) false) [.t 5,.t 7],oBc 9 .eql 8 0]
def c117r2:LO:=[oLo 10 1,oFa 11 1 3,oLo 12 11,⟨none,(.mapset false none),[.t 10,.t 12,cIn 1],none⟩]
def c117r3:LO:=[oLo 13 2,oFa 14 1 3,oLo 15 14,oUn 16 (.bslice none) 15,oP 17 (.append none) [.t 13,.t 16],oSo 2 17]
def c117k4:ACode:=.cond (.t 9) (.seq (rT c117r2 [2,3,4]) (rT c117r3 [3,4])) .skip
def c117r5:LO:=[oLf 18 3,oSf 4 18]
def c117:ACode:=.seq (rT c117r0 [1,2,3,4]) (.seq (.seq (rT c117r1 [1,2,3,4,9]) c117k4) (.seq (rT c117r5 [4]) .ret))
def g117:AFn:=⟨3,[(4,some (some 4))],c117,true,[],[],none⟩
theorem tr117:trFn Tryz.prog true 117 Tryz.f117=some g117:=by kernel_rfl
def c118r0:LO:=[oP 2 .mv [cBo false]]
def c118r1:LO:=[oMv 3 0,oBc 4 .geq 3 0,oMv 5 4,oG 6 .mv [.t 0] 5 true,oG 7 (.bin .leq) [.t 6,cIn 1099511627776] 5 true,oP 8 .pick [.t 5,.t 7,cBo false],oMv 2 8]
def c118:ACode:=.seq (rT c118r0 [0]) (.seq (rT c118r1 [2]) .ret)
def g118:AFn:=⟨1,[(2,none)],c118,false,[],[],none⟩
theorem tr118:trFn Tryz.prog false 118 Tryz.f118=some g118:=by kernel_rfl
def c119r0:LO:=[oBx 2 0,oP 3 aZ []]
def c119r1:LO:=[oFa 4 1 2,oLo 5 4,oLo 6 1,oBi 7 .add 5 6,oP 8 (bZ [1]) [.t 7],oSf 3 8]
def c119:ACode:=.seq (rT c119r0 [1,2,3]) (.seq (rT c119r1 [3]) .ret)
def g119:AFn:=⟨2,[(3,some (some 4))],c119,true,[],[],none⟩
theorem tr119:trFn Tryz.prog true 119 Tryz.f119=some g119:=by kernel_rfl
def c120r0:LO:=[oP 2 .mv [cBo false]]
def c120r1:LO:=[oMv 8 0,oUn 9 .len 8,oP 10 .mv [cIn 0]]
def c120r2:LO:=[oBi 11 .lss 10 9]
def c120k3:ACode:=kEx 11 0
def c120r4:LO:=[oMv 12 10,oP 13 (.iaddr (some 5)) [.t 8,.t 10],oUn 14 (.load (some 5)) 13,oP 4 (.alloc (some 5) (.agg [(none,(.pv none (.int .i64 0))),((some 4),(.agg [(none,(.pv none (.int .i64 0))),(none,(.pv none (.int .i64 0))),(none,(.pv none (.str []))),(none,(.tsl (some 4) []))]))])) [],
 oMv 3 12,⟨none,(.store (some 5)),[.t 4,.t 14],none⟩]
def c120r5:LO:=[oFa 15 0 4,oLo 16 15,oBc 17 .lss 16 0,oMv 18 17,oG 19 (.faddr 0) [.t 4] 18 false,oG 20 (.load none) [.t 19] 18 false,oG 21 (.bin .gtr) [.t 20,cIn 1099511627776] 18 false,oP 22 .pick [.t 18,cBo true,.t 21],
 oMv 23 22,oG 24 .mv [.t 3] 23 false,oG 25 (.bin .gtr) [.t 24,cIn 0] 23 false,oG 26 .mv [.t 25] 23 false,oG 27 .mv [.t 0] 26 true,oG 28 .mv [.t 3] 26 true,oG 29 (.bin .sub) [.t 28,cIn 1] 26 true,oG 30 (.iaddr (some 5)) [.t 27,.t 29] 26 true,
 oG 31 (.faddr 0) [.t 30] 26 true,oG 32 (.load none) [.t 31] 26 true,oG 33 (.faddr 0) [.t 4] 26 true,oG 34 (.load none) [.t 33] 26 true,oG 35 (.bin .geq) [.t 32,.t 34] 26 true,oG 36 .pick [.t 26,.t 35,cBo false] 23 false,
 oP 37 .pick [.t 23,cBo true,.t 36],oMv 38 37,oG 39 (.faddr 1) [.t 4] 38 false,oG 40 (.load (some 4)) [.t 39] 38 false,oG 41 .call [cFn 29,.t 40] 38 false,oG 42 .not [.t 41] 38 false,oP 43 .pick [.t 38,cBo true,.t 42]]
def c120r6:LO:=[oP 2 .mv [cBo false]]
def c120k7:ACode:=kRt 43 c120r6 [2]
def c120k8:ACode:=.block 1 (.seq (rT c120r4 [0,3,4,8,9,10]) (.seq (rT c120r5 [0,8,9,10,43]) c120k7))
def c120r9:LO:=[oBc 44 .add 10 1,oMv 10 44]
def c120b10:ACode:=.seq (rT c120r2 [0,8,9,10,11]) (.seq c120k3 (.seq c120k8 (rT c120r9 [0,8,9,10])))
def c120k11:ACode:=.block 0 (.loop [0,8,9,10] c120b10)
def c120r12:LO:=[oP 45 (.mkmap none) [],oMv 5 45]
def c120r13:LO:=[oMv 46 0,oUn 47 .len 46,oP 48 .mv [cIn 0]]
def c120r14:LO:=[oBi 49 .lss 48 47]
def c120k15:ACode:=kEx 49 2
def c120r16:LO:=[oP 50 (.iaddr (some 5)) [.t 46,.t 48],oUn 51 (.load (some 5)) 50,oP 7 (.alloc (some 5) (.agg [(none,(.pv none (.int .i64 0))),((some 4),(.agg [(none,(.pv none (.int .i64 0))),(none,(.pv none (.int .i64 0))),(none,(.pv none (.str []))),(none,(.tsl (some 4) []))]))])) [],
 ⟨none,(.store (some 5)),[.t 7,.t 51],none⟩]
def c120r17:LO:=[oMv 52 0,oFa 53 0 7,oLo 54 53,oMv 55 5,oCl 56 138 [.t 52,.t 54,.t 55]]
def c120r18:LO:=[oP 2 .mv [cBo false]]
def c120k19:ACode:=kRt 56 c120r18 [2]
def c120k20:ACode:=.block 3 (.seq (rT c120r16 [0,5,7,46,47,48]) (.seq (rT c120r17 [0,5,46,47,48,56]) c120k19))
def c120r21:LO:=[oBc 57 .add 48 1,oMv 48 57]
def c120b22:ACode:=.seq (rT c120r14 [0,5,46,47,48,49]) (.seq c120k15 (.seq c120k20 (rT c120r21 [0,5,46,47,48])))
def c120k23:ACode:=.block 2 (.loop [0,5,46,47,48] c120b22)
def c120r24:LO:=[oP 2 .mv [cBo true]]
def c120:ACode:=.seq (rT c120r0 [0]) (.seq (.seq (rT c120r1 [0,8,9,10]) c120k11) (.seq (rT c120r12 [0,5]) (.seq (.seq (rT c120r13 [0,5,46,47,48]) c120k23) (.seq (rT c120r24 [2]) .ret))))
def g120:AFn:=⟨1,[(2,none)],c120,false,[],[],none⟩
theorem tr120:trFn Tryz.prog false 120 Tryz.f120=some g120:=by kernel_rfl
def c121r0:LO:=[oMv 2 5]
def c121r1:LO:=[oMv 7 2,oP 8 (.assert 155 (some 1) (.pv (some 1) (.agg [(none,(.int .i64 0))])) true) [.t 7],oMv 6 8,oEx 9 0 6,oEx 10 1 6,oP 3 (.alloc (some 1) (.pv (some 1) (.agg [(none,(.int .i64 0))]))) [],⟨none,(.store (some 1)),[.t 3,.t 9],none⟩,
 oMv 4 10]
def c121r2:LO:=[oMv 11 4]
def c121r3:LO:=[oFa 12 0 3,oLo 13 12,⟨none,(.storen none),[.t 0,.c (.tsl (some 5) []),.t 12],none⟩,oSo 1 13]
def c121r4:LO:=[oMv 14 2,oUn 15 (.isnil true) 14]
def c121r5:LO:=[oMv 16 2,⟨none,.panic,[.t 16],none⟩]
def c121k6:ACode:=.cond (.t 15) (rT c121r5 []) .skip
def c121k7:ACode:=.cond (.t 11) (rT c121r3 []) (.seq (rT c121r4 [2,15]) c121k6)
def c121:ACode:=.seq (rT c121r0 [0,1,2]) (.seq (rT c121r1 [0,1,2,3,4]) (.seq (rT c121r2 [0,1,2,3,11]) (.seq c121k7 .skip)))
def g121:AFn:=⟨2,[],c121,true,[],[],some 5⟩
theorem tr121:trFn Tryz.prog true 121 Tryz.f121=some g121:=by kernel_rfl
def c122r0:LO:=[oP 2 (.nilsl (some 5)) []]
def c122r1:LO:=[oP 3 (.nilsl (some 5)) []]
def c122r2:LO:=[oMv 6 0,oUn 7 .len 6,oP 8 .mv [cIn 0]]
def c122r3:LO:=[oBi 9 .lss 8 7]
def c122k4:ACode:=kEx 9 0
def c122r5:LO:=[oP 10 (.iaddr (some 5)) [.t 6,.t 8],oUn 11 (.load (some 5)) 10,oP 5 (.alloc (some 5) (.agg [(none,(.pv none (.int .i64 0))),((some 4),(.agg [(none,(.pv none (.int .i64 0))),(none,(.pv none (.int .i64 0))),(none,(.pv none (.str []))),(none,(.tsl (some 4) []))]))])) [],
 ⟨none,(.store (some 5)),[.t 5,.t 11],none⟩]
def c122r6:LO:=[oMv 12 3,oFa 13 0 5,oLo 14 13,oFa 15 1 5,oLf 16 15,oP 17 (.calln 1) [.t 13,cFn 33,.t 16],oP 18 (.build [(none,(.pv none (.int .i64 0))),((some 4),(.agg [(none,(.pv none (.int .i64 0))),(none,(.pv none (.int .i64 0))),(none,(.pv none (.str []))),(none,(.tsl (some 4) []))]))] [0,1]) [.t 14,.t 17],
 oUn 19 (.bslice (some 5)) 18,oP 20 (.append (some 5)) [.t 12,.t 19],oMv 3 20]
def c122k7:ACode:=.block 1 (.seq (rT c122r5 [3,5,6,7,8]) (.region false c122r6 [3,6,7,8]))
def c122r8:LO:=[oBc 21 .add 8 1,oMv 8 21]
def c122b9:ACode:=.seq (rT c122r3 [3,6,7,8,9]) (.seq c122k4 (.seq c122k7 (rT c122r8 [3,6,7,8])))
def c122k10:ACode:=.block 0 (.loop [3,6,7,8] c122b9)
def c122r11:LO:=[oMv 22 3,oMv 2 22]
def c122:ACode:=.seq (rT c122r0 [0]) (.seq (rT c122r1 [0,3]) (.seq (.seq (rT c122r2 [3,6,7,8]) c122k10) (.seq (rT c122r11 [2]) .ret)))
def g122:AFn:=⟨1,[(2,none)],c122,true,[],[],none⟩
theorem tr122:trFn Tryz.prog true 122 Tryz.f122=some g122:=by kernel_rfl
def c123r0:LO:=[oBx 4 1,oBx 5 2]
def c123r1:LO:=[oLf 12 4,oLf 13 5,oP 14 (.build [((some 4),(.agg [(none,(.pv none (.int .i64 0))),(none,(.pv none (.int .i64 0))),(none,(.pv none (.str []))),(none,(.tsl (some 4) []))])),((some 4),(.agg [(none,(.pv none (.int .i64 0))),(none,(.pv none (.int .i64 0))),(none,(.pv none (.str []))),(none,(.tsl (some 4) []))]))] [0,1]) [.t 12,.t 13],
 oUn 15 (.bslo (some 8)) 14,oMv 6 15]
def c123r2:LO:=[oP 7 .mv [cIn 0]]
def c123r3:LO:=[oMv 16 6,oUn 17 .len 16,oBc 18 .gtr 17 0]
def c123k4:ACode:=kEx 18 0
def c123r5:LO:=[oMv 21 7,oBc 22 .eql 21 1048576]
def c123r6:LO:=[oP 23 (.build [(none,(.pv none (.int .i64 0)))] [0]) [cIn 2],oUn 24 (.mkiface 155) 23,⟨none,.panic,[.t 24],none⟩]
def c123k7:ACode:=.cond (.t 22) (rT c123r6 [0,6,7]) .skip
def c123r8:LO:=[oMv 25 6,oMv 26 6,oUn 27 .len 26,oBc 28 .sub 27 1,oP 29 (.iaddr (some 8)) [.t 25,.t 28],oUn 30 (.load (some 8)) 29,oP 8 (.alloc (some 8) (.agg [((some 4),(.agg [(none,(.pv none (.int .i64 0))),(none,(.pv none (.int .i64 0))),(none,(.pv none (.str []))),(none,(.tsl (some 4) []))])),((some 4),(.agg [(none,(.pv none (.int .i64 0))),(none,(.pv none (.int .i64 0))),(none,(.pv none (.str []))),(none,(.tsl (some 4) []))]))])) [],
 ⟨none,(.store (some 8)),[.t 8,.t 30],none⟩]
def c123r9:LO:=[oMv 31 6,oMv 32 6,oUn 33 .len 32,oBc 34 .sub 33 1,oP 35 (.slice (some 8) false true) [.t 31,.t 34],oMv 6 35]
def c123r10:LO:=[oMv 36 0,oUn 37 .nilcheck 36,oFa 38 0 37,oLo 39 38,oP 40 (.iaddrA (some 4) 2) [.t 8,cIn 0],oLf 41 40,oP 42 .callg [cFn 139,.t 39,.t 41],oMv 43 0,oUn 44 .nilcheck 43,oFa 45 0 44,oLo 46 45,oP 47 (.iaddrA (some 4) 2) [.t 8,cIn 1],
 oLf 48 47,oCl 49 139 [.t 46,.t 48],oP 9 aZ [],oP 10 aZ [],oSf 9 42,oSf 10 49]
def c123r11:LO:=[oMv 50 0,oLf 51 9,oLf 52 10,oCl 53 140 [.t 50,.t 51,.t 52]]
def c123r12:LO:=[oFa 54 3 9,oLo 55 54,oUn 56 .len 55,oBc 57 .sub 56 1,oMv 11 57]
def c123r13:LO:=[oMv 58 11,oBc 59 .geq 58 0]
def c123k14:ACode:=kEx 59 2
def c123r15:LO:=[oMv 62 6,oFa 63 3 9,oLo 64 63,oMv 65 11,oIa 66 64 65,oLf 67 66,oFa 68 3 10,oLo 69 68,oMv 70 11,oIa 71 69 70,oLf 72 71,oP 73 (.build [((some 4),(.agg [(none,(.pv none (.int .i64 0))),(none,(.pv none (.int .i64 0))),(none,(.pv none (.str []))),(none,(.tsl (some 4) []))])),((some 4),(.agg [(none,(.pv none (.int .i64 0))),(none,(.pv none (.int .i64 0))),(none,(.pv none (.str []))),(none,(.tsl (some 4) []))]))] [0,1]) [.t 67,.t 72],
 oUn 74 (.bslice (some 8)) 73,oP 75 (.append (some 8)) [.t 62,.t 74],oMv 6 75]
def c123k16:ACode:=.block 3 (rT c123r15 [0,6,7,9,10,11])
def c123r17:LO:=[oMv 60 11,oBc 61 .sub 60 1,oMv 11 61]
def c123b18:ACode:=.seq (.seq (rT c123r13 [0,6,7,9,10,11,59]) c123k14) (.seq c123k16 (rT c123r17 [0,6,7,9,10,11]))
def c123k19:ACode:=.block 2 (.loop [0,6,7,9,10,11] c123b18)
def c123k20:ACode:=.cond (.t 53) (.seq (rT c123r12 [0,6,7,9,10,11]) c123k19) .skip
def c123k21:ACode:=.block 1 (.seq (.seq (rT c123r5 [0,6,7,22]) c123k7) (.seq (rT c123r8 [0,6,7,8]) (.seq (rT c123r9 [0,6,7,8]) (.seq (.region false c123r10 [0,6,7,9,10]) (.seq (rT c123r11 [0,6,7,9,10,53]) c123k20)))))
def c123r22:LO:=[oMv 19 7,oBc 20 .add 19 1,oMv 7 20]
def c123b23:ACode:=.seq (.seq (rT c123r3 [0,6,7,18]) c123k4) (.seq c123k21 (rT c123r22 [0,6,7]))
def c123k24:ACode:=.block 0 (.loop [0,6,7] c123b23)
def c123:ACode:=.seq (rT c123r0 [0,4,5]) (.seq (rT c123r1 [0,6]) (.seq (rT c123r2 [0,6,7]) c123k24))
def g123:AFn:=⟨3,[],c123,true,[],[],none⟩
theorem tr123:trFn Tryz.prog true 123 Tryz.f123=some g123:=by kernel_rfl
def c124r0:LO:=[oUn 2 (.box (some 2)) 0,oUn 3 (.box none) 1,oP 4 .mv [cIn 0],oP 5 .mv [cIn 0],oP 6 .mv [cBo false]]
def c124r1:LO:=[oFa 10 1 2,oLo 11 10,oUn 12 .len 11,oP 13 .mv [cIn 0]]
def c124r2:LO:=[oBi 14 .lss 13 12]
def c124k3:ACode:=kEx 14 0
def c124r4:LO:=[oMv 15 13,oIa 16 11 13,oLf 17 16,oP 8 (.alloc (some 4) (.agg [(none,(.pv none (.str []))),(none,(.pv none (.int .i64 0))),(none,(.pv none (.bool false))),(none,(.tsl (some 9) []))])) [],oMv 7 15,oSf 8 17]
def c124r5:LO:=[oFa 18 3 8,oLo 19 18,oUn 20 (.mkfunc (.func 142) 0) 3,oCl 21 141 [.t 19,.t 20],oMv 9 21]
def c124r6:LO:=[oMv 22 9,oBc 23 .geq 22 0]
def c124r7:LO:=[oMv 24 7,oMv 25 9,oMv 4 24,oMv 5 25,oP 6 .mv [cBo true]]
def c124k8:ACode:=kRt 23 c124r7 [4,5,6]
def c124k9:ACode:=.block 1 (.seq (rT c124r4 [3,7,8,11,12,13]) (.seq (rT c124r5 [3,7,9,11,12,13]) (.seq (rT c124r6 [3,7,9,11,12,13,23]) c124k8)))
def c124r10:LO:=[oBc 26 .add 13 1,oMv 13 26]
def c124b11:ACode:=.seq (rT c124r2 [3,11,12,13,14]) (.seq c124k3 (.seq c124k9 (rT c124r10 [3,11,12,13])))
def c124k12:ACode:=.block 0 (.loop [3,11,12,13] c124b11)
def c124r13:LO:=[oP 4 .mv [cIn 0],oP 5 .mv [cIn 0],oP 6 .mv [cBo false]]
def c124:ACode:=.seq (rT c124r0 [2,3]) (.seq (.seq (rT c124r1 [3,11,12,13]) c124k12) (.seq (rT c124r13 [4,5,6]) .ret))
def g124:AFn:=⟨2,[(4,none),(5,none),(6,none)],c124,false,[],[],none⟩
theorem tr124:trFn Tryz.prog false 124 Tryz.f124=some g124:=by kernel_rfl
def c125r0:LO:=[oP 6 (.nilsl (some 9)) []]
def c125r1:LO:=[oMv 8 0,oMv 9 1,oMv 10 2,oMv 11 0,oUn 12 .len 11,oP 13 (.slice3 (some 9) true) [.t 8,.t 9,.t 10,.t 12]]
def c125r2:LO:=[oMv 14 1,oMv 15 2,oBi 16 .eql 14 15]
def c125r3:LO:=[oMv 17 0,oMv 6 17]
def c125k4:ACode:=kRt 16 c125r3 [6]
def c125r5:LO:=[oMv 18 0,oUn 19 .len 18,oMv 7 19]
def c125r6:LO:=[oMv 20 0,oMv 21 1,oP 22 (.slice (some 9) false true) [.t 20,.t 21],oMv 23 0,oMv 24 2,oP 25 (.slice (some 9) true false) [.t 23,.t 24],oP 26 (.append (some 9)) [.t 22,.t 25],oMv 0 26]
def c125r7:LO:=[oMv 27 0,oMv 28 0,oUn 29 .len 28,oMv 30 7,oP 31 (.slice (some 9) true true) [.t 27,.t 29,.t 30],⟨none,(.clear (some 9) (.agg [(none,(.int .i64 0)),((some 8),(.agg [((some 4),(.agg [(none,(.int .i64 0)),(none,(.int .i64 0)),(none,(.str [])),(none,(.sl (some 4) []))])),((some 4),(.agg [(none,(.int .i64 0)),(none,(.int .i64 0)),(none,(.str [])),(none,(.sl (some 4) []))]))]))])),[.t 31],none⟩]
def c125r8:LO:=[oMv 32 0,oMv 6 32]
def c125:ACode:=.seq (rT c125r0 [0,1,2]) (.seq (rT c125r1 [0,1,2]) (.seq (.seq (rT c125r2 [0,1,2,16]) c125k4) (.seq (rT c125r5 [0,1,2,7]) (.seq (rT c125r6 [0,7]) (.seq (rT c125r7 [0]) (.seq (rT c125r8 [6]) .ret))))))
def g125:AFn:=⟨3,[(6,none)],c125,true,[],[],none⟩
theorem tr125:trFn Tryz.prog true 125 Tryz.f125=some g125:=by kernel_rfl
def c128r0:LO:=[oMv 2 5]
def c128r1:LO:=[oMv 6 2,oUn 7 (.isnil true) 6]
def c128r2:LO:=[oMv 9 2,oP 10 (.assert 178 (some 0) (.pv (some 0) (.agg [])) true) [.t 9],oMv 8 10,oEx 11 0 8,oEx 12 1 8,oP 3 (.alloc (some 0) (.pv (some 0) (.agg []))) [],⟨none,(.store (some 0)),[.t 3,.t 11],none⟩,oMv 4 12]
def c128r3:LO:=[oMv 13 4,oUn 14 .not 13]
def c128r4:LO:=[oMv 15 2,⟨none,.panic,[.t 15],none⟩]
def c128k5:ACode:=.cond (.t 14) (rT c128r4 [0,1]) .skip
def c128r6:LO:=[oP 16 (bZ []) [],oSf 0 16,⟨none,(.store none),[.t 1,cBo false],none⟩]
def c128k7:ACode:=.cond (.t 7) (.seq (.seq (rT c128r2 [0,1,2,4]) (.seq (rT c128r3 [0,1,2,14]) c128k5)) (rT c128r6 [])) .skip
def c128:ACode:=.seq (rT c128r0 [0,1,2]) (.seq (rT c128r1 [0,1,2,7]) (.seq c128k7 .skip))
def g128:AFn:=⟨2,[],c128,true,[],[],some 5⟩
theorem tr128:trFn Tryz.prog true 128 Tryz.f128=some g128:=by kernel_rfl
def c129r0:LO:=[oBx 1 0,oP 2 aZ []]
def c129r1:LO:=[oFa 4 0 1,oLo 5 4,oBc 6 .eql 5 0,oMv 3 6]
def c129r2:LO:=[oLf 7 1,oUn 8 (.bslice (some 4)) 7,oP 9 (bZ [0,2,3]) [cIn 3,cSt [99,97,108,108],.t 8],oSf 2 9]
def c129r3:LO:=[oLf 11 1,oCl 12 143 [.t 11],oMv 10 12]
def c129r4:List (AOper × Option (List AOper)):=[
 (⟨some 13,(.faddr 2),[.t 1],none⟩,none),
 (⟨some 14,(.load none),[.t 13],none⟩,none),
 (⟨some 15,(.faddr 3),[.t 1],none⟩,none),
 (⟨some 16,(.load none),[.t 15],none⟩,none),
 (⟨some 17,(.iaddr (some 4)),[.t 16,cIn 0],none⟩,none),
 (⟨some 18,(.load (some 4)),[.t 17],none⟩,none),
 (⟨some 19,.callp,[cFn 129,.t 18],none⟩,some [⟨some 20,(.faddr 3),[.t 1],none⟩,⟨some 21,(.load none),[.t 20],none⟩,⟨some 22,(.iaddr (some 4)),[.t 21,cIn 1],none⟩,⟨some 23,(.load (some 4)),[.t 22],none⟩,⟨none,.mv,[cBo true],none⟩,⟨none,.mv,[cBo true],none⟩,⟨none,.mv,[cBo true],none⟩,⟨none,.mv,[cBo true],none⟩]),
 (⟨some 20,(.faddr 3),[.t 1],none⟩,none),
 (⟨some 21,(.load none),[.t 20],none⟩,none),
 (⟨some 22,(.iaddr (some 4)),[.t 21,cIn 1],none⟩,none),
 (⟨some 23,(.load (some 4)),[.t 22],none⟩,none),
 (⟨some 24,.callp,[cFn 129,.t 23],none⟩,some [⟨none,.mv,[cBo true],none⟩,⟨none,.mv,[cBo true],none⟩,⟨none,.mv,[cBo true],none⟩]),
 (⟨some 25,(.bslicep (some 4)),[.t 19,.t 24],none⟩,none),
 (⟨some 26,(bZ [0,2,3]),[cIn 3,.t 14,.t 25],none⟩,none),
 (oSf 2 26,none)]
def c129r5:LO:=[oLf 28 1,oCl 29 68 [.t 28],oMv 27 29]
def c129r6:LO:=[oLf 30 1,oCl 31 33 [.t 30],oSf 2 31]
def c129k7:ACode:=kRt 27 c129r6 [2]
def c129k8:ACode:=.cond (.t 10) (.seq (.seq (.settle []) (.doom c129r4 [2])) .ret) (.seq (rT c129r5 [1,2,27]) c129k7)
def c129k9:ACode:=.cond (.t 3) (.seq (rT c129r2 [2]) .ret) (.seq (rT c129r3 [1,2,10]) c129k8)
def c129k10:ACode:=.block 0 (.seq (rT c129r1 [1,2,3]) c129k9)
def c129r11:LO:=[oP 32 (.build [] []) [],oUn 33 (.mkiface 178) 32,⟨none,.panic,[.t 33],none⟩]
def c129:ACode:=.seq (rT c129r0 [1,2]) (.seq c129k10 (rT c129r11 [2]))
def g129:AFn:=⟨1,[(2,some (some 4))],c129,false,[],[],none⟩
theorem tr129:trFn Tryz.prog false 129 Tryz.f129=some g129:=by kernel_rfl
def c130r0:LO:=[oP 4 aZ []]
def c130r1:LO:=[oMv 5 0,oMv 6 1,oCl 7 107 [.t 5,.t 6],oCl 8 105 [cSt [91,93]],oP 9 (.bslice (some 4)) [.t 7,.t 8],oCl 10 107 [cSt [101,114,114,111,114],.t 9],oSf 4 10]
def c130:ACode:=.seq (rT c130r0 [0,1,4]) (.seq (rT c130r1 [4]) .ret)
def g130:AFn:=⟨2,[(4,some (some 4))],c130,false,[],[],none⟩
theorem tr130:trFn Tryz.prog false 130 Tryz.f130=some g130:=by kernel_rfl
def c138r0:LO:=[oP 6 .mv [cBo false]]
def c138r1:LO:=[oMv 11 2,oMv 12 1,oP 13 (.lookup false none (.pv none (.int .i64 0)) false) [.t 11,.t 12],oBc 14 .neq 13 0]
def c138r2:LO:=[oMv 15 2,oMv 16 1,oP 17 (.lookup false none (.pv none (.int .i64 0)) false) [.t 15,.t 16],oBc 18 .eql 17 1,oMv 6 18]
def c138k3:ACode:=kRt 14 c138r2 [6]
def c138r4:LO:=[oMv 20 0,oMv 21 1,oP 22 (bZ [1]) [.t 21],oCl 23 147 [.t 20,.t 22],oMv 19 23,oEx 24 0 19,oEx 25 1 19,oP 7 aZ [],oSf 7 24,oMv 8 25]
def c138r5:LO:=[oMv 26 8,oUn 27 .not 26]
def c138r6:LO:=[oP 6 .mv [cBo false]]
def c138k7:ACode:=kRt 27 c138r6 [6]
def c138r8:LO:=[oMv 28 2,oMv 29 1,⟨none,(.mapset false none),[.t 28,.t 29,cIn 1],none⟩]
def c138r9:LO:=[oLf 30 7,oCl 31 90 [.t 30],oUn 32 .len 31,oP 33 .mv [cIn 0]]
def c138r10:LO:=[oBi 34 .lss 33 32]
def c138k11:ACode:=kEx 34 0
def c138r12:LO:=[oP 35 (.iaddr none) [.t 31,.t 33],oLo 36 35,oMv 10 36]
def c138r13:LO:=[oMv 37 0,oMv 38 10,oMv 39 2,oCl 40 138 [.t 37,.t 38,.t 39]]
def c138r14:LO:=[oP 6 .mv [cBo true]]
def c138k15:ACode:=kRt 40 c138r14 [6]
def c138k16:ACode:=.block 1 (.seq (rT c138r12 [0,1,2,10,31,32,33]) (.seq (rT c138r13 [0,1,2,31,32,33,40]) c138k15))
def c138r17:LO:=[oBc 41 .add 33 1,oMv 33 41]
def c138b18:ACode:=.seq (rT c138r10 [0,1,2,31,32,33,34]) (.seq c138k11 (.seq c138k16 (rT c138r17 [0,1,2,31,32,33])))
def c138k19:ACode:=.block 0 (.loop [0,1,2,31,32,33] c138b18)
def c138r20:LO:=[oMv 42 2,oMv 43 1,⟨none,(.mapset false none),[.t 42,.t 43,cIn 2],none⟩]
def c138r21:LO:=[oP 6 .mv [cBo false]]
def c138:ACode:=.seq (rT c138r0 [0,1,2]) (.seq (.seq (rT c138r1 [0,1,2,14]) c138k3) (.seq (rT c138r4 [0,1,2,7,8]) (.seq (.seq (rT c138r5 [0,1,2,7,27]) c138k7) (.seq (rT c138r8 [0,1,2,7]) (.seq (.seq (rT c138r9 [0,1,2,31,32,33]) c138k19) (.seq (rT c138r20 []) (.seq (rT c138r21 [6]) .ret)))))))
def g138:AFn:=⟨3,[(6,none)],c138,true,[],[],none⟩
theorem tr138:trFn Tryz.prog true 138 Tryz.f138=some g138:=by kernel_rfl
def c139r0:LO:=[oBx 3 1,oP 4 aZ []]
def c139r1:LO:=[oMv 8 0,oLf 9 3,oCl 10 147 [.t 8,.t 9],oMv 7 10,oEx 11 0 7,oEx 12 1 7,oP 5 aZ [],oSf 5 11,oMv 6 12]
def c139r2:LO:=[oMv 13 6,oUn 14 .not 13]
def c139r3:LO:=[oLf 15 3,oSf 4 15]
def c139k4:ACode:=kRt 14 c139r3 [4]
def c139r5:LO:=[oLf 16 5,oSf 3 16]
def c139k6:ACode:=.block 1 (.seq (rT c139r1 [0,3,4,5,6]) (.seq (.seq (rT c139r2 [0,3,4,5,14]) c139k4) (rT c139r5 [0,3,4])))
def c139b7:ACode:=c139k6
def c139k8:ACode:=.block 0 (.loop [0,3,4] c139b7)
def c139:ACode:=.seq (rT c139r0 [0,3,4]) c139k8
def g139:AFn:=⟨2,[(4,some (some 4))],c139,true,[],[],none⟩
theorem tr139:trFn Tryz.prog true 139 Tryz.f139=some g139:=by kernel_rfl
def c140r0:LO:=[oBx 4 1,oBx 5 2,oP 6 .mv [cBo false]]
def c140r1:LO:=[oFa 8 0 4,oLo 9 8,oBc 10 .eql 9 0,oMv 11 10,oG 12 (.faddr 0) [.t 5] 11 true,oG 13 (.load none) [.t 12] 11 true,oG 14 (.bin .eql) [.t 13,cIn 0] 11 true,oP 15 .pick [.t 11,.t 14,cBo false],oMv 7 15]
def c140r2:LO:=[oFa 16 1 4,oLo 17 16,oFa 18 1 5,oLo 19 18,oBi 20 .neq 17 19]
def c140r3:LO:=[oMv 21 0,oFa 22 1 4,oLo 23 22,oFa 24 1 5,oLo 25 24,oP 26 .max [.t 23,.t 25],oFa 27 1 4,oLo 28 27,oFa 29 1 5,oLo 30 29,oP 31 .min [.t 28,.t 30],oP 32 (bZ [1]) [.t 31],oCl 33 148 [.t 21,.t 26,.t 32]]
def c140k4:ACode:=.cond (.t 20) (rT c140r3 []) .skip
def c140r5:LO:=[oFa 35 0 4,oLo 36 35,oBc 37 .eql 36 0,oMv 34 37]
def c140r6:LO:=[oMv 38 0,oFa 39 1 4,oLo 40 39,oLf 41 5,oCl 42 148 [.t 38,.t 40,.t 41]]
def c140r7:LO:=[oFa 44 0 5,oLo 45 44,oBc 46 .eql 45 0,oMv 43 46]
def c140r8:LO:=[oMv 47 0,oFa 48 1 5,oLo 49 48,oLf 50 4,oCl 51 148 [.t 47,.t 49,.t 50]]
def c140r9:LO:=[oFa 53 0 4,oLo 54 53,oFa 55 0 5,oLo 56 55,oBi 57 .neq 54 56,oMv 58 57,oG 59 (.faddr 1) [.t 4] 58 false,oG 60 (.load none) [.t 59] 58 false,oG 61 (.faddr 1) [.t 5] 58 false,oG 62 (.load none) [.t 61] 58 false,
 oG 63 (.bin .neq) [.t 60,.t 62] 58 false,oP 64 .pick [.t 58,cBo true,.t 63],oMv 65 64,oG 66 (.faddr 2) [.t 4] 65 false,oG 67 (.load none) [.t 66] 65 false,oG 68 (.faddr 2) [.t 5] 65 false,oG 69 (.load none) [.t 68] 65 false,
 oG 70 (.bin .neq) [.t 67,.t 69] 65 false,oP 71 .pick [.t 65,cBo true,.t 70],oMv 72 71,oG 73 (.faddr 3) [.t 4] 72 false,oG 74 (.load none) [.t 73] 72 false,oG 75 .len [.t 74] 72 false,oG 76 (.faddr 3) [.t 5] 72 false,oG 77 (.load none) [.t 76] 72 false,
 oG 78 .len [.t 77] 72 false,oG 79 (.bin .neq) [.t 75,.t 78] 72 false,oP 80 .pick [.t 72,cBo true,.t 79],oMv 52 80]
def c140r10:LO:=[oP 81 (.build [(none,(.pv none (.int .i64 0)))] [0]) [cIn 4],oUn 82 (.mkiface 155) 81,⟨none,.panic,[.t 82],none⟩]
def c140r11:LO:=[oP 6 .mv [cBo true]]
def c140k12:ACode:=.cond (.t 52) (rT c140r10 []) (.seq (rT c140r11 [6]) .ret)
def c140k13:ACode:=.cond (.t 43) (rT c140r8 []) (.seq (rT c140r9 [52]) c140k12)
def c140k14:ACode:=.cond (.t 34) (rT c140r6 []) (.seq (rT c140r7 [0,4,5,43]) c140k13)
def c140k15:ACode:=.cond (.t 7) (.seq (rT c140r2 [0,4,5,20]) c140k4) (.seq (rT c140r5 [0,4,5,34]) c140k14)
def c140k16:ACode:=.block 0 (.seq (rT c140r1 [0,4,5,7]) c140k15)
def c140r17:LO:=[oP 6 .mv [cBo false]]
def c140:ACode:=.seq (rT c140r0 [0,4,5]) (.seq c140k16 (.seq (rT c140r17 [6]) .ret))
def g140:AFn:=⟨3,[(6,none)],c140,true,[],[],none⟩
theorem tr140:trFn Tryz.prog true 140 Tryz.f140=some g140:=by kernel_rfl
def c141r0:LO:=[oP 4 .mv [cIn 0]]
def c141r1:LO:=[oMv 6 0,oUn 7 .len 6,oP 8 .mv [cIn 0]]
def c141r2:LO:=[oBi 9 .lss 8 7]
def c141k3:ACode:=kEx 9 0
def c141r4:LO:=[oMv 10 8,oMv 5 10]
def c141r5:LO:=[oMv 11 1,oMv 12 0,oMv 13 5,oP 14 (.iaddr (some 9)) [.t 12,.t 13],oUn 15 (.load (some 9)) 14,oP 16 .call [.t 11,.t 15]]
def c141r6:LO:=[oMv 17 5,oMv 4 17]
def c141k7:ACode:=kRt 16 c141r6 [4]
def c141k8:ACode:=.block 1 (.seq (rT c141r4 [0,1,5,7,8]) (.seq (rT c141r5 [0,1,5,7,8,16]) c141k7))
def c141r9:LO:=[oBc 18 .add 8 1,oMv 8 18]
def c141b10:ACode:=.seq (rT c141r2 [0,1,7,8,9]) (.seq c141k3 (.seq c141k8 (rT c141r9 [0,1,7,8])))
def c141k11:ACode:=.block 0 (.loop [0,1,7,8] c141b10)
def c141r12:LO:=[oP 4 .mv [.c (.pv none (.int .i64 (-1)))]]
def c141:ACode:=.seq (rT c141r0 [0,1]) (.seq (.seq (rT c141r1 [0,1,7,8]) c141k11) (.seq (rT c141r12 [4]) .ret))
def g141:AFn:=⟨2,[(4,none)],c141,true,[],[],none⟩
theorem tr141:trFn Tryz.prog true 141 Tryz.f141=some g141:=by kernel_rfl
def c142r0:LO:=[oUn 2 (.box (some 9)) 0,oP 3 .mv [cBo false]]
def c142r1:LO:=[oFa 4 0 2,oLo 5 4,oLo 6 1,oBi 7 .eql 5 6,oMv 3 7]
def c142:ACode:=.seq (rT c142r0 [1,2]) (.seq (rT c142r1 [3]) .ret)
def g142:AFn:=⟨2,[(3,none)],c142,true,[],[],none⟩
theorem tr142:trFn Tryz.prog true 142 Tryz.f142=some g142:=by kernel_rfl
def c143r0:LO:=[oBx 1 0,oP 2 .mv [cBo false]]
def c143r1:LO:=[oFa 3 0 1,oLo 4 3,oBc 5 .eql 4 3,oMv 6 5,oG 7 (.faddr 3) [.t 1] 6 true,oG 8 (.load none) [.t 7] 6 true,oG 9 .len [.t 8] 6 true,oG 10 (.bin .eql) [.t 9,cIn 2] 6 true,oP 11 .pick [.t 6,.t 10,cBo false],
 oMv 12 11,oG 13 (.faddr 2) [.t 1] 12 true,oG 14 (.load none) [.t 13] 12 true,oG 15 (.bin .eql) [.t 14,cSt [44]] 12 true,oG 16 .mv [.t 15] 12 true,oG 17 (.faddr 2) [.t 1] 16 false,oG 18 (.load none) [.t 17] 16 false,oG 19 (.bin .eql) [.t 18,cSt [59]] 16 false,
 oG 20 .pick [.t 16,cBo true,.t 19] 12 true,oG 21 .mv [.t 20] 12 true,oG 22 (.faddr 2) [.t 1] 21 false,oG 23 (.load none) [.t 22] 21 false,oG 24 (.bin .eql) [.t 23,cSt [45,62]] 21 false,oG 25 .pick [.t 21,cBo true,.t 24] 12 true,
 oP 26 .pick [.t 12,.t 25,cBo false],oMv 2 26]
def c143:ACode:=.seq (rT c143r0 [1]) (.seq (rT c143r1 [2]) .ret)
def g143:AFn:=⟨1,[(2,none)],c143,false,[],[],none⟩
theorem tr143:trFn Tryz.prog false 143 Tryz.f143=some g143:=by kernel_rfl
def c147r0:LO:=[oBx 3 1,oP 4 aZ [],oP 5 .mv [cBo false]]
def c147r1:LO:=[oFa 8 0 3,oLo 9 8,oBc 10 .neq 9 0]
def c147r2:LO:=[oP 11 (bZ []) [],oSf 4 11,oP 5 .mv [cBo false]]
def c147k3:ACode:=kRt 10 c147r2 [4,5]
def c147r4:LO:=[oMv 13 0,oFa 14 1 3,oLo 15 14,oCl 16 151 [.t 13,.t 15],oMv 12 16,oEx 17 0 12,oEx 18 1 12,oMv 6 17,oMv 7 18]
def c147r5:LO:=[oMv 19 7,oUn 20 .not 19]
def c147r6:LO:=[oP 21 (bZ []) [],oSf 4 21,oP 5 .mv [cBo false]]
def c147k7:ACode:=kRt 20 c147r6 [4,5]
def c147r8:LO:=[oMv 22 0,oMv 23 6,oP 24 (.iaddr (some 5)) [.t 22,.t 23],oFa 25 1 24,oLf 26 25,oSf 4 26,oP 5 .mv [cBo true]]
def c147:ACode:=.seq (rT c147r0 [0,3,4]) (.seq (.seq (rT c147r1 [0,3,4,10]) c147k3) (.seq (rT c147r4 [0,4,6,7]) (.seq (.seq (rT c147r5 [0,4,6,20]) c147k7) (.seq (rT c147r8 [4,5]) .ret))))
def g147:AFn:=⟨2,[(4,some (some 4)),(5,none)],c147,true,[],[],none⟩
theorem tr147:trFn Tryz.prog true 147 Tryz.f147=some g147:=by kernel_rfl
def c148r0:LO:=[oBx 5 2]
def c148r1:LO:=[oMv 8 0,oUn 9 .nilcheck 8,oFa 10 0 9,oLo 11 10,oMv 12 1,oLf 13 5,oP 14 (.mkmap none) [],oCl 15 152 [.t 11,.t 12,.t 13,.t 14]]
def c148r2:LO:=[oP 16 (.build [(none,(.pv none (.int .i64 0)))] [0]) [cIn 9],oUn 17 (.mkiface 155) 16,⟨none,.panic,[.t 17],none⟩]
def c148k3:ACode:=.cond (.t 15) (rT c148r2 [0,1,5]) .skip
def c148r4:LO:=[oMv 19 0,oUn 20 .nilcheck 19,oFa 21 0 20,oLo 22 21,oMv 23 1,oCl 24 151 [.t 22,.t 23],oMv 18 24,oEx 25 0 18,oEx 26 1 18,oMv 6 25,oMv 7 26]
def c148r5:LO:=[oMv 27 0,oMv 28 0,oUn 29 .nilcheck 28,oFa 30 0 29,oLo 31 30,oMv 32 6,oMv 33 1,oLf 34 5,oP 35 (.calln 1) [.t 30,cFn 33,.t 34],oP 36 (.build [(none,(.pv none (.int .i64 0))),((some 4),(.agg [(none,(.pv none (.int .i64 0))),(none,(.pv none (.int .i64 0))),(none,(.pv none (.str []))),(none,(.tsl (some 4) []))]))] [0,1]) [.t 33,.t 35],
 oP 37 (.bslicen (some 5) 1) [.t 30,.t 36],oCl 38 153 [.t 31,.t 32,.t 37],oUn 39 .nilcheck 27,oFa 40 0 39,oSo 40 38]
def c148:ACode:=.seq (rT c148r0 [0,1,5]) (.seq (.seq (rT c148r1 [0,1,5,15]) c148k3) (.seq (rT c148r4 [0,1,5,6]) (.region false c148r5 [])))
def g148:AFn:=⟨3,[],c148,true,[],[],none⟩
theorem tr148:trFn Tryz.prog true 148 Tryz.f148=some g148:=by kernel_rfl
def c151r0:LO:=[oP 4 .mv [cIn 0],oP 5 .mv [cBo false]]
def c151r1:LO:=[oMv 6 0,oMv 7 1,oCl 8 154 [.t 6,.t 7,cFn 155],oEx 9 0 8,oEx 10 1 8,oMv 4 9,oMv 5 10]
def c151:ACode:=.seq (rT c151r0 [0,1]) (.seq (rT c151r1 [4,5]) .ret)
def g151:AFn:=⟨2,[(4,none),(5,none)],c151,false,[],[],none⟩
theorem tr151:trFn Tryz.prog false 151 Tryz.f151=some g151:=by kernel_rfl
def c152r0:LO:=[oBx 6 2,oP 8 .mv [cBo false]]
def c152r1:LO:=[oFa 13 0 6,oLo 14 13,oBc 15 .eql 14 0]
def c152r2:LO:=[oMv 17 0,oLf 18 6,oCl 19 147 [.t 17,.t 18],oMv 16 19,oEx 20 0 16,oEx 21 1 16,oP 9 aZ [],oSf 9 20,oMv 10 21]
def c152r3:LO:=[oMv 22 10,oUn 23 .not 22]
def c152r4:LO:=[oFa 24 1 6,oLo 25 24,oMv 26 1,oBi 27 .eql 25 26,oMv 8 27]
def c152k5:ACode:=kRt 23 c152r4 [8]
def c152r6:LO:=[oMv 28 3,oFa 29 1 6,oLo 30 29,oP 31 (.lookup false none (.pv none (.int .i64 0)) false) [.t 28,.t 30],oBc 32 .add 31 1,⟨none,(.mapset false none),[.t 28,.t 30,.t 32],none⟩]
def c152r7:LO:=[oMv 33 3,oFa 34 1 6,oLo 35 34,oP 36 (.lookup false none (.pv none (.int .i64 0)) false) [.t 33,.t 35],oBc 37 .eql 36 1,oMv 38 37,oG 39 .mv [.t 0] 38 true,oG 40 .mv [.t 1] 38 true,oG 41 (.load (some 4)) [.t 9] 38 true,
 oG 42 .mv [.t 3] 38 true,oG 43 .call [cFn 152,.t 39,.t 40,.t 41,.t 42] 38 true,oP 44 .pick [.t 38,.t 43,cBo false],oMv 8 44]
def c152k8:ACode:=.cond (.t 15) (.seq (rT c152r2 [0,1,3,6,9,10]) (.seq (.seq (rT c152r3 [0,1,3,6,9,23]) c152k5) (.seq (rT c152r6 [0,1,3,6,9]) (.seq (rT c152r7 [8]) .ret)))) .skip
def c152r9:LO:=[oFa 45 3 6,oLo 46 45,oUn 47 .len 46,oP 48 .mv [cIn 0]]
def c152r10:LO:=[oBi 49 .lss 48 47]
def c152k11:ACode:=kEx 49 0
def c152r12:LO:=[oIa 50 46 48,oLf 51 50,oP 12 aZ [],oSf 12 51]
def c152r13:LO:=[oMv 52 0,oMv 53 1,oLf 54 12,oMv 55 3,oCl 56 152 [.t 52,.t 53,.t 54,.t 55]]
def c152r14:LO:=[oP 8 .mv [cBo true]]
def c152k15:ACode:=kRt 56 c152r14 [8]
def c152k16:ACode:=.block 1 (.seq (rT c152r12 [0,1,3,12,46,47,48]) (.seq (rT c152r13 [0,1,3,46,47,48,56]) c152k15))
def c152r17:LO:=[oBc 57 .add 48 1,oMv 48 57]
def c152b18:ACode:=.seq (rT c152r10 [0,1,3,46,47,48,49]) (.seq c152k11 (.seq c152k16 (rT c152r17 [0,1,3,46,47,48])))
def c152k19:ACode:=.block 0 (.loop [0,1,3,46,47,48] c152b18)
def c152r20:LO:=[oP 8 .mv [cBo false]]
def c152:ACode:=.seq (rT c152r0 [0,1,3,6]) (.seq (.seq (rT c152r1 [0,1,3,6,15]) c152k8) (.seq (.seq (rT c152r9 [0,1,3,46,47,48]) c152k19) (.seq (rT c152r20 [8]) .ret)))
def g152:AFn:=⟨4,[(8,none)],c152,true,[],[],none⟩
theorem tr152:trFn Tryz.prog true 152 Tryz.f152=some g152:=by kernel_rfl
def c154r0:LO:=[oP 6 .mv [cIn 0],oP 7 .mv [cBo false]]
def c154r1:LO:=[oMv 12 0,oUn 13 .len 12,oMv 8 13]
def c154r2:LO:=[oMv 14 8,oP 9 .mv [cIn 0],oMv 10 14]
def c154r3:LO:=[oMv 15 9,oMv 16 10,oBi 17 .lss 15 16]
def c154k4:ACode:=kEx 17 0
def c154r5:LO:=[oMv 18 9,oMv 19 10,oBi 20 .add 18 19,oUn 21 (.conv .u64) 20,oP 22 (.bin .shr) [.t 21,.c (.pv none (.int .u64 1))],oUn 23 (.conv .i64) 22,oMv 11 23]
def c154r6:LO:=[oMv 24 2,oMv 25 0,oMv 26 11,oP 27 (.iaddr (some 5)) [.t 25,.t 26],oUn 28 (.load (some 5)) 27,oMv 29 1,oP 30 .call [.t 24,.t 28,.t 29],oBc 31 .lss 30 0]
def c154r7:LO:=[oMv 32 11,oBc 33 .add 32 1,oMv 9 33]
def c154r8:LO:=[oMv 34 11,oMv 10 34]
def c154k9:ACode:=.cond (.t 31) (rT c154r7 [0,1,2,8,9,10]) (rT c154r8 [0,1,2,8,9,10])
def c154k10:ACode:=.block 1 (.seq (rT c154r5 [0,1,2,8,9,10,11]) (.seq (rT c154r6 [0,1,2,8,9,10,11,31]) c154k9))
def c154b11:ACode:=.seq (.seq (rT c154r3 [0,1,2,8,9,10,17]) c154k4) c154k10
def c154k12:ACode:=.block 0 (.loop [0,1,2,8,9,10] c154b11)
def c154r13:LO:=[oMv 35 9,oMv 36 9,oMv 37 8,oBi 38 .lss 36 37,oMv 39 38,oG 40 .mv [.t 2] 39 true,oG 41 .mv [.t 0] 39 true,oG 42 .mv [.t 9] 39 true,oG 43 (.iaddr (some 5)) [.t 41,.t 42] 39 true,oG 44 (.load (some 5)) [.t 43] 39 true,
 oG 45 .mv [.t 1] 39 true,oG 46 .call [.t 40,.t 44,.t 45] 39 true,oG 47 (.bin .eql) [.t 46,cIn 0] 39 true,oP 48 .pick [.t 39,.t 47,cBo false],oMv 6 35,oMv 7 48]
def c154:ACode:=.seq (rT c154r0 [0,1,2]) (.seq (rT c154r1 [0,1,2,8]) (.seq (rT c154r2 [0,1,2,8,9,10]) (.seq c154k12 (.seq (rT c154r13 [6,7]) .ret))))
def g154:AFn:=⟨3,[(6,none),(7,none)],c154,false,[],[],none⟩
theorem tr154:trFn Tryz.prog false 154 Tryz.f154=some g154:=by kernel_rfl
def c155r0:LO:=[oUn 2 (.box (some 5)) 0,oP 4 .mv [cIn 0]]
def c155r1:LO:=[oFa 5 0 2,oLo 6 5,oMv 7 1,oCl 8 156 [.t 6,.t 7],oMv 4 8]
def c155:ACode:=.seq (rT c155r0 [1,2]) (.seq (rT c155r1 [4]) .ret)
def g155:AFn:=⟨2,[(4,none)],c155,false,[],[],none⟩
theorem tr155:trFn Tryz.prog false 155 Tryz.f155=some g155:=by kernel_rfl
def c156r0:LO:=[oP 4 .mv [cIn 0]]
def c156r1:LO:=[oMv 7 0,oCl 8 159 [.t 7],oMv 5 8]
def c156r2:LO:=[oMv 9 1,oCl 10 159 [.t 9],oMv 6 10]
def c156r3:LO:=[oMv 11 5]
def c156r4:LO:=[oMv 12 6]
def c156r5:LO:=[oP 4 .mv [cIn 0]]
def c156k6:ACode:=kRt 12 c156r5 [4]
def c156r7:LO:=[oP 4 .mv [.c (.pv none (.int .i64 (-1)))]]
def c156k8:ACode:=.cond (.t 11) (.seq (.seq (rT c156r4 [12]) c156k6) (.seq (rT c156r7 [4]) .ret)) .skip
def c156r9:LO:=[oMv 13 6]
def c156r10:LO:=[oP 4 .mv [cIn 1]]
def c156k11:ACode:=kRt 13 c156r10 [4]
def c156r12:LO:=[oMv 14 0,oMv 15 1,oBi 16 .lss 14 15]
def c156r13:LO:=[oP 4 .mv [.c (.pv none (.int .i64 (-1)))]]
def c156k14:ACode:=kRt 16 c156r13 [4]
def c156r15:LO:=[oMv 17 0,oMv 18 1,oBi 19 .gtr 17 18]
def c156r16:LO:=[oP 4 .mv [cIn 1]]
def c156k17:ACode:=kRt 19 c156r16 [4]
def c156r18:LO:=[oP 4 .mv [cIn 0]]
def c156:ACode:=.seq (rT c156r0 [0,1]) (.seq (rT c156r1 [0,1,5]) (.seq (rT c156r2 [0,1,5,6]) (.seq (.seq (rT c156r3 [0,1,6,11]) c156k8) (.seq (.seq (rT c156r9 [0,1,13]) c156k11) (.seq (.seq (rT c156r12 [0,1,16]) c156k14) (.seq (.seq (rT c156r15 [19]) c156k17) (.seq (rT c156r18 [4]) .ret)))))))
def g156:AFn:=⟨2,[(4,none)],c156,false,[],[],none⟩
theorem tr156:trFn Tryz.prog false 156 Tryz.f156=some g156:=by kernel_rfl
def c159r0:LO:=[oP 2 .mv [cBo false]]
def c159r1:LO:=[oMv 3 0,oMv 4 0,oBi 5 .neq 3 4,oMv 2 5]
def c159:ACode:=.seq (rT c159r0 [0]) (.seq (rT c159r1 [2]) .ret)
def g159:AFn:=⟨1,[(2,none)],c159,false,[],[],none⟩
theorem tr159:trFn Tryz.prog false 159 Tryz.f159=some g159:=by kernel_rfl
def tab:List (Nat × AFn):=[(3,g3),(5,g5),(6,g6),(7,g7),(8,g8),(9,g9),(10,g10),(11,g11),(12,g12),(13,g13),(14,g14),(16,g16),(18,g18),(19,g19),(20,g20),(21,g21),(22,g22),(23,g23),(24,g24),(25,g25),(26,g26),(27,g27),(28,g28),(29,g29),(30,g30),(31,g31),(32,g32),(33,g33),(34,g34),(35,g35),(36,g36),(37,g37),(38,g38),(39,g39),(40,g40),(41,g41),(42,g42),(43,g43),(47,g47),(48,g48),(49,g49),(52,g52),(53,g53),(54,g54),(55,g55),(56,g56),(57,g57),(58,g58),(59,g59),(60,g60),(61,g61),(62,g62),(63,g63),(64,g64),(65,g65),(66,g66),(67,g67),(68,g68),(69,g69),(70,g70),(71,g71),(72,g72),(73,g73),(74,g74),(75,g75),(76,g76),(77,g77),(78,g78),(79,g79),(80,g80),(85,g85),(86,g86),(87,g87),(88,g88),(89,g89),(90,g90),(91,g91),(92,g92),(93,g93),(94,g94),(95,g95),(97,g97),(98,g98),(99,g99),(100,g100),(101,g101),(102,g102),(103,g103),(104,g104),(105,g105),(106,g106),(107,g107),(108,g108),(114,g114),(115,g115),(116,g116),(117,g117),(118,g118),(119,g119),(120,g120),(121,g121),(122,g122),(123,g123),(124,g124),(125,g125),(128,g128),(129,g129),(130,g130),(138,g138),(139,g139),(140,g140),(141,g141),(142,g142),(143,g143),(147,g147),(148,g148),(151,g151),(152,g152),(154,g154),(155,g155),(156,g156),(159,g159)]
theorem zoX:zma Tryz.prog tab:=
 (zaa Tryz.func3 tr3
 (zaa Tryz.func5 tr5
 (zaa Tryz.func6 tr6
 (zaa Tryz.func7 tr7
 (zaa Tryz.func8 tr8
 (zaa Tryz.func9 tr9
 (zaa Tryz.func10 tr10
 (zaa Tryz.func11 tr11
 (zaa Tryz.func12 tr12
 (zaa Tryz.func13 tr13
 (zaa Tryz.func14 tr14
 (zaa Tryz.func16 tr16
 (zaa Tryz.func18 tr18
 (zaa Tryz.func19 tr19
 (zaa Tryz.func20 tr20
 (zaa Tryz.func21 tr21
 (zaa Tryz.func22 tr22
 (zaa Tryz.func23 tr23
 (zaa Tryz.func24 tr24
 (zaa Tryz.func25 tr25
 (zaa Tryz.func26 tr26
 (zaa Tryz.func27 tr27
 (zaa Tryz.func28 tr28
 (zaa Tryz.func29 tr29
 (zaa Tryz.func30 tr30
 (zaa Tryz.func31 tr31
 (zaa Tryz.func32 tr32
 (zaa Tryz.func33 tr33
 (zaa Tryz.func34 tr34
 (zaa Tryz.func35 tr35
 (zaa Tryz.func36 tr36
 (zaa Tryz.func37 tr37
 (zaa Tryz.func38 tr38
 (zaa Tryz.func39 tr39
 (zaa Tryz.func40 tr40
 (zaa Tryz.func41 tr41
 (zaa Tryz.func42 tr42
 (zaa Tryz.func43 tr43
 (zaa Tryz.func47 tr47
 (zaa Tryz.func48 tr48
 (zaa Tryz.func49 tr49
 (zaa Tryz.func52 tr52
 (zaa Tryz.func53 tr53
 (zaa Tryz.func54 tr54
 (zaa Tryz.func55 tr55
 (zaa Tryz.func56 tr56
 (zaa Tryz.func57 tr57
 (zaa Tryz.func58 tr58
 (zaa Tryz.func59 tr59
 (zaa Tryz.func60 tr60
 (zaa Tryz.func61 tr61
 (zaa Tryz.func62 tr62
 (zaa Tryz.func63 tr63
 (zaa Tryz.func64 tr64
 (zaa Tryz.func65 tr65
 (zaa Tryz.func66 tr66
 (zaa Tryz.func67 tr67
 (zaa Tryz.func68 tr68
 (zaa Tryz.func69 tr69
 (zaa Tryz.func70 tr70
 (zaa Tryz.func71 tr71
 (zaa Tryz.func72 tr72
 (zaa Tryz.func73 tr73
 (zaa Tryz.func74 tr74
 (zaa Tryz.func75 tr75
 (zaa Tryz.func76 tr76
 (zaa Tryz.func77 tr77
 (zaa Tryz.func78 tr78
 (zaa Tryz.func79 tr79
 (zaa Tryz.func80 tr80
 (zaa Tryz.func85 tr85
 (zaa Tryz.func86 tr86
 (zaa Tryz.func87 tr87
 (zaa Tryz.func88 tr88
 (zaa Tryz.func89 tr89
 (zaa Tryz.func90 tr90
 (zaa Tryz.func91 tr91
 (zaa Tryz.func92 tr92
 (zaa Tryz.func93 tr93
 (zaa Tryz.func94 tr94
 (zaa Tryz.func95 tr95
 (zaa Tryz.func97 tr97
 (zaa Tryz.func98 tr98
 (zaa Tryz.func99 tr99
 (zaa Tryz.func100 tr100
 (zaa Tryz.func101 tr101
 (zaa Tryz.func102 tr102
 (zaa Tryz.func103 tr103
 (zaa Tryz.func104 tr104
 (zaa Tryz.func105 tr105
 (zaa Tryz.func106 tr106
 (zaa Tryz.func107 tr107
 (zaa Tryz.func108 tr108
 (zaa Tryz.func114 tr114
 (zaa Tryz.func115 tr115
 (zaa Tryz.func116 tr116
 (zaa Tryz.func117 tr117
 (zaa Tryz.func118 tr118
 (zaa Tryz.func119 tr119
 (zaa Tryz.func120 tr120
 (zaa Tryz.func121 tr121
 (zaa Tryz.func122 tr122
 (zaa Tryz.func123 tr123
 (zaa Tryz.func124 tr124
 (zaa Tryz.func125 tr125
 (zaa Tryz.func128 tr128
 (zaa Tryz.func129 tr129
 (zaa Tryz.func130 tr130
 (zaa Tryz.func138 tr138
 (zaa Tryz.func139 tr139
 (zaa Tryz.func140 tr140
 (zaa Tryz.func141 tr141
 (zaa Tryz.func142 tr142
 (zaa Tryz.func143 tr143
 (zaa Tryz.func147 tr147
 (zaa Tryz.func148 tr148
 (zaa Tryz.func151 tr151
 (zaa Tryz.func152 tr152
 (zaa Tryz.func154 tr154
 (zaa Tryz.func155 tr155
 (zaa Tryz.func156 tr156
 (zaa Tryz.func159 tr159 zmb))))))))))))))))))))))))))))))))))))))))))))))))))))))))))))))))))))))))))))))))))))))))))))))))))))))))))))))))))))))))))
attribute [go_sem] c3r0 c3r1 c3 g3 c5r0 c5r1 c5r2 c5 g5 c6r0 c6r1 c6r2 c6r3 c6r4 c6r5 c6r6 c6r7 c6k8 c6k9 c6k10 c6k11 c6k12 c6r13 c6r14 c6r15 c6r16 c6r17 c6k18 c6k19 c6k20 c6k21 c6r22 c6 g6 c7r0 c7r1 c7r2 c7k3 c7r4 c7 g7 c8r0 c8r1 c8r2 c8r3 c8k4 c8r5 c8r6 c8k7 c8k8 c8r9 c8b10 c8k11 c8r12 c8 g8 c16r0 c16r1 c16 g16 c19r0 c19r1 c19r2 c19r3 c19r4 c19r5 c19r6 c19r7 c19r8 c19r9 c19r10 c19r11 c19r12 c19r13 c19r14 c19r15 c19r16 c19k17 c19k18 c19r19 c19k20 c19k21 c19k22 c19k23 c19k24 c19k25 c19k26 c19k27 c19r28 c19 g19 c49r0 c49r1 c49r2 c49k3 c49r4 c49r5 c49r6 c49k7 c49k8 c49r9 c49b10 c49k11 c49r12 c49 g49
end Go.Proofs.YtkfncielohbecaaGreatDoor
