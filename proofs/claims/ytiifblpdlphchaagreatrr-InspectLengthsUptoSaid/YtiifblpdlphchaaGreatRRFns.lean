/- The functions as the abstract machine has them,each proved to be what the translation gives. -/
import Derived.Test.YtiifblpdlphchaaGreatRRAm4
import Derived.Test.YtiifblpdlphchaaGreatRRProg
import Derived.KernelRfl
namespace Go.Proofs.YtiifblpdlphchaaGreatRR
open Go.Am
def oP(d:Nat)(p:AOp)(l:List AArg):AOper:=⟨some d,p,l,none⟩
def aZ:AOp:=.alloc (some 4) (.agg [(none,(.pv none (.int .i64 0))),(none,(.pv none (.int .i64 0))),(none,(.pv none (.str []))),(none,(.tsl (some 4) []))])
def bZ(l:List Nat):AOp:=.build [(none,(.pv none (.int .i64 0))),(none,(.pv none (.int .i64 0))),(none,(.pv none (.str []))),(none,(.tsl (some 4) []))] l
def oMv(d s:Nat):AOper:=⟨some d,.mv,[.t s],none⟩
def oLf(d s:Nat):AOper:=⟨some d,.load (some 4),[.t s],none⟩
def oLo(d s:Nat):AOper:=⟨some d,.load none,[.t s],none⟩
def oFa(d k s:Nat):AOper:=⟨some d,.faddr k,[.t s],none⟩
def oSf(r s:Nat):AOper:=⟨none,.store (some 4),[.t r,.t s],none⟩
def oSo(r s:Nat):AOper:=⟨none,.store none,[.t r,.t s],none⟩
def oUn(d:Nat)(p:AOp)(s:Nat):AOper:=⟨some d,p,[.t s],none⟩
def oBi(d:Nat)(p:BinOp)(a b:Nat):AOper:=⟨some d,.bin p,[.t a,.t b],none⟩
def oIa(d a b:Nat):AOper:=⟨some d,.iaddr (some 4),[.t a,.t b],none⟩
def oBx(d s:Nat):AOper:=⟨some d,.box (some 4),[.t s],none⟩
def oEx(d k s:Nat):AOper:=⟨some d,.extract k,[.t s],none⟩
def kRt(c:Nat)(r:List AOper)(l:List Nat):ACode:=.cond (.t c) (.seq (.region true r l) .ret) .skip
def kEx(c k:Nat):ACode:=.cond (.t c) .skip (.exit k)
def rT(r:List AOper)(l:List Nat):ACode:=.region true r l
def oG(d:Nat)(p:AOp)(l:List AArg)(g:Nat)(b:Bool):AOper:=⟨some d,p,l,some (g,b)⟩
def oCl(d f:Nat)(l:List AArg):AOper:=⟨some d,.call,.c (.pv none (.func (.func f)))::l,none⟩
def oBc(d:Nat)(p:BinOp)(a:Nat)(n:Int):AOper:=⟨some d,.bin p,[.t a,.c (.pv none (.int .i64 n))],none⟩
def cSt(l:List UInt8):AArg:=.c (.pv none (.str l))
def cIn(n:Int):AArg:=.c (.pv none (.int .i64 n))
def cFn(n:Nat):AArg:=.c (.pv none (.func (.func n)))
def cBo(b:Bool):AArg:=.c (.pv none (.bool b))
abbrev LO:=List AOper
attribute [go_sem] oBc cSt oG oCl oUn oBi oIa oBx oEx kRt kEx rT oP aZ bZ oMv oLf oLo oFa oSf oSo cIn cFn cBo
def c8r0:LO:=[oP 4 .mv [cBo false]]
def c8r1:LO:=[oP 5 (.nilsl (some 4)) []]
def c8r2:LO:=[oP 6 .mv [cIn 0]]
def c8r3:LO:=[oMv 24 6,oMv 25 0,oUn 26 .len 25,oBi 27 .lss 24 26,oMv 28 27,oG 29 .mv [.t 6] 28 true,oG 30 (.bin .lss) [.t 29,cIn 40] 28 true,oP 31 .pick [.t 28,.t 30,cBo false]]
def c8k4:ACode:=kEx 31 0
def c8r5:LO:=[oMv 34 0,oMv 35 6,oIa 36 34 35,oLf 37 36,oCl 38 23 [.t 37],oMv 39 38,oG 40 .mv [.t 0] 39 true,oG 41 .mv [.t 6] 39 true,oG 42 (.iaddr (some 4)) [.t 40,.t 41] 39 true,oG 43 (.load (some 4)) [.t 42] 39 true,
 oG 44 .call [cFn 24,.t 43] 39 true,oG 45 (.bin .leq) [.t 44,cIn 20] 39 true,oP 46 .pick [.t 39,.t 45,cBo false]]
def c8r6:LO:=[oMv 47 5,oMv 48 0,oMv 49 6,oIa 50 48 49,oLf 51 50,oUn 52 (.bslice (some 4)) 51,oP 53 (.append (some 4)) [.t 47,.t 52],oMv 5 53]
def c8k7:ACode:=.cond (.t 46) (rT c8r6 [0,1,5,6]) .skip
def c8k8:ACode:=.block 1 (.seq (rT c8r5 [0,1,5,6,46]) c8k7)
def c8r9:LO:=[oMv 32 6,oBc 33 .add 32 1,oMv 6 33]
def c8b10:ACode:=.seq (.seq (rT c8r3 [0,1,5,6,31]) c8k4) (.seq c8k8 (rT c8r9 [0,1,5,6]))
def c8k11:ACode:=.block 0 (.loop [0,1,5,6] c8b10)
def c8r12:LO:=[oCl 55 17 [cSt [91,93]],oMv 56 5,oCl 57 27 [.t 55,.t 56],oCl 58 28 [cIn 1099511627776],oP 59 (.bslice (some 4)) [.t 57,.t 58],oCl 60 14 [cSt [108,101,110,103,116,104],.t 59],oMv 54 60,oEx 61 0 54,oEx 62 1 54,
 oP 7 aZ [],oSf 7 61,oMv 8 62]
def c8r13:LO:=[oLf 63 7,oFa 64 3 7,oLo 65 64,oP 66 (.iaddr (some 4)) [.t 65,cIn 0],oLf 67 66,oMv 68 5,oUn 69 .len 68,oP 70 .callp [cFn 30,.t 69],oP 71 (.bslicep (some 4)) [.t 67,.t 70],oP 72 .callp [cFn 19,cSt [108,101,110,103,116,104],.t 71],
 oP 73 .callp [cFn 18,.t 63,.t 72],oUn 74 .not 73]
def c8r14:LO:=[oP 4 .mv [cBo false]]
def c8k15:ACode:=kRt 74 c8r14 [4]
def c8r16:LO:=[oP 9 .mv [cIn 1099511627776]]
def c8r17:LO:=[oMv 75 5,oUn 76 .len 75,oP 77 .mv [cIn 0]]
def c8r18:LO:=[oBi 78 .lss 77 76]
def c8k19:ACode:=kEx 78 2
def c8r20:LO:=[oIa 79 75 77,oLf 80 79,oP 11 aZ [],oSf 11 80]
def c8r21:LO:=[oLf 81 11,oCl 82 26 [.t 81],oUn 83 .len 82,oP 84 .mv [cIn 0]]
def c8r22:LO:=[oBi 85 .lss 84 83]
def c8k23:ACode:=kEx 85 4
def c8r24:LO:=[oP 86 (.iaddr none) [.t 82,.t 84],oLo 87 86,oMv 13 87]
def c8r25:LO:=[oMv 88 13,oMv 89 9,oBi 90 .eql 88 89]
def c8r26:LO:=[oCl 91 13 [],oMv 4 91]
def c8k27:ACode:=kRt 90 c8r26 [4]
def c8k28:ACode:=.block 5 (.seq (rT c8r24 [1,5,7,9,13,75,76,77,82,83,84]) (.seq (rT c8r25 [1,5,7,9,75,76,77,82,83,84,90]) c8k27))
def c8r29:LO:=[oBc 92 .add 84 1,oMv 84 92]
def c8b30:ACode:=.seq (rT c8r22 [1,5,7,9,75,76,77,82,83,84,85]) (.seq c8k23 (.seq c8k28 (rT c8r29 [1,5,7,9,75,76,77,82,83,84])))
def c8k31:ACode:=.block 4 (.loop [1,5,7,9,75,76,77,82,83,84] c8b30)
def c8k32:ACode:=.block 3 (.seq (rT c8r20 [1,5,7,9,11,75,76,77]) (.seq (rT c8r21 [1,5,7,9,75,76,77,82,83,84]) c8k31))
def c8r33:LO:=[oBc 93 .add 77 1,oMv 77 93]
def c8b34:ACode:=.seq (rT c8r18 [1,5,7,9,75,76,77,78]) (.seq c8k19 (.seq c8k32 (rT c8r33 [1,5,7,9,75,76,77])))
def c8k35:ACode:=.block 2 (.loop [1,5,7,9,75,76,77] c8b34)
def c8r36:LO:=[oMv 95 9,oCl 96 28 [.t 95],oMv 97 5,oCl 98 27 [.t 96,.t 97],oMv 99 1,oCl 100 30 [.t 99],oP 101 (.bslice (some 4)) [.t 98,.t 100],oCl 102 14 [cSt [108,101,110,103,116,104],.t 101],oMv 94 102,oEx 103 0 94,
 oEx 104 1 94,oSf 7 103]
def c8r37:LO:=[oMv 106 1,oBc 107 .lss 106 0,oMv 105 107]
def c8r38:LO:=[oLf 108 7,oP 109 .callp [cFn 17,cSt [110,111,116,95,108,101,115,115,95,116,104,97,110,95,122,101,114,111]],oMv 110 1,oP 111 .callp [cFn 30,.t 110],oP 112 (.bslicep (some 4)) [.t 109,.t 111],oP 113 .callp [cFn 19,cSt [100,111,109,97,105,110,95,101,114,114,111,114],.t 112],
 oP 114 .callp [cFn 37,.t 108,.t 113],oMv 115 114,oG 116 .callp [cFn 13] 115 true,oP 117 .pick [.t 115,.t 116,cBo false],oMv 4 117]
def c8r39:LO:=[oMv 119 1,oMv 120 5,oUn 121 .len 120,oBi 122 .lss 119 121,oMv 118 122]
def c8r40:LO:=[oLf 123 7,oCl 124 31 [.t 123],oMv 125 124,oG 126 .call [cFn 13] 125 true,oP 127 .pick [.t 125,.t 126,cBo false],oMv 4 127]
def c8r41:LO:=[oMv 129 1,oBc 130 .gtr 129 500,oMv 128 130]
def c8r42:LO:=[oLf 132 7,oCl 133 20 [.t 132],oMv 131 133,oEx 134 0 131,oEx 135 1 131,oEx 136 2 131,oP 15 aZ [],oMv 14 134,oSf 15 135,oMv 16 136]
def c8r43:LO:=[oMv 137 16,oBc 138 .eql 137 2,oMv 139 138,oG 140 .mv [.t 14] 139 true,oG 141 .len [.t 140] 139 true,oG 142 (.bin .eql) [.t 141,cIn 0] 139 true,oP 143 .pick [.t 139,.t 142,cBo false],oMv 144 143,oG 145 .mv [.t 16] 144 false,
 oG 146 (.bin .eql) [.t 145,cIn 0] 144 false,oG 147 .mv [.t 146] 144 false,oG 148 .mv [.t 14] 147 true,oG 149 .len [.t 148] 147 true,oG 150 (.bin .eql) [.t 149,cIn 1] 147 true,oG 151 .pick [.t 147,.t 150,cBo false] 144 false,
 oG 152 .mv [.t 151] 144 false,oG 153 .mv [.t 1] 152 true,oG 154 (.bin .leq) [.t 153,cIn 1000] 152 true,oG 155 .pick [.t 152,.t 154,cBo false] 144 false,oP 156 .pick [.t 144,cBo true,.t 155],oMv 157 156,oG 158 .call [cFn 13] 157 true,
 oP 159 .pick [.t 157,.t 158,cBo false],oMv 4 159]
def c8k44:ACode:=.cond (.t 128) (.seq (rT c8r42 [1,14,16]) (.seq (rT c8r43 [4]) .ret)) .skip
def c8k45:ACode:=.cond (.t 118) (.seq (rT c8r40 [4]) .ret) (.seq (rT c8r41 [1,7,128]) c8k44)
def c8k46:ACode:=.cond (.t 105) (.seq (.seq (.settle [1,7]) (rT c8r38 [4])) .ret) (.seq (rT c8r39 [1,7,118]) c8k45)
def c8k47:ACode:=.block 6 (.seq (rT c8r37 [1,5,7,105]) c8k46)
def c8r48:LO:=[oFa 161 3 7,oLo 162 161,oP 163 (.iaddr (some 4)) [.t 162,cIn 0],oLf 164 163,oCl 165 33 [.t 164],oMv 160 165,oEx 166 0 160,oEx 167 1 160,oP 18 aZ [],oMv 17 166,oSf 18 167]
def c8r49:LO:=[oLf 168 7,oCl 169 26 [.t 168],oUn 170 .len 169,oMv 19 170]
def c8r50:LO:=[oMv 171 17,oUn 172 .len 171,oMv 173 1,oBi 174 .lss 172 173]
def c8k51:ACode:=kEx 174 7
def c8r52:LO:=[oMv 175 17,oMv 176 19,oCl 177 28 [.t 176],oUn 178 (.bslice (some 4)) 177,oP 179 (.append (some 4)) [.t 175,.t 178],oMv 17 179]
def c8r53:LO:=[oMv 180 19,oBc 181 .add 180 1,oMv 19 181]
def c8k54:ACode:=.block 8 (.seq (rT c8r52 [1,7,17,19]) (rT c8r53 [1,7,17,19]))
def c8b55:ACode:=.seq (.seq (rT c8r50 [1,7,17,19,174]) c8k51) c8k54
def c8k56:ACode:=.block 7 (.loop [1,7,17,19] c8b55)
def c8r57:LO:=[oCl 182 17 [cSt [91,93]],oMv 183 17,oCl 184 27 [.t 182,.t 183],oMv 185 1,oCl 186 30 [.t 185],oP 187 (.bslice (some 4)) [.t 184,.t 186],oCl 188 19 [cSt [108,101,110,103,116,104],.t 187],oP 20 aZ [],oSf 20 188]
def c8r58:LO:=[oLf 189 20,oCl 190 23 [.t 189],oUn 191 .not 190]
def c8r59:LO:=[oLf 193 7,oCl 194 20 [.t 193],oMv 192 194,oEx 195 0 192,oEx 196 1 192,oEx 197 2 192,oP 22 aZ [],oMv 21 195,oSf 22 196,oMv 23 197]
def c8r60:LO:=[oMv 198 23,oBc 199 .eql 198 2,oMv 200 199,oG 201 .call [cFn 13] 200 true,oP 202 .pick [.t 200,.t 201,cBo false],oMv 4 202]
def c8k61:ACode:=.cond (.t 191) (.seq (rT c8r59 [23]) (.seq (rT c8r60 [4]) .ret)) .skip
def c8r62:LO:=[oLf 203 7,oLf 204 20,oCl 205 18 [.t 203,.t 204],oMv 206 205,oG 207 .call [cFn 13] 206 true,oP 208 .pick [.t 206,.t 207,cBo false],oMv 4 208]
def c8:ACode:=.seq (rT c8r0 [0,1]) (.seq (rT c8r1 [0,1,5]) (.seq (.seq (rT c8r2 [0,1,5,6]) c8k11) (.seq (rT c8r12 [1,5,7]) (.seq (.seq (.seq (.settle [7]) (rT c8r13 [1,5,7,74])) c8k15) (.seq (rT c8r16 [1,5,7,9]) (.seq (.seq (rT c8r17 [1,5,7,9,75,76,77]) c8k35) (.seq (rT c8r36 [1,5,7]) (.seq c8k47 (.seq (rT c8r48 [1,7,17]) (.seq (rT c8r49 [1,7,17,19]) (.seq c8k56 (.seq (rT c8r57 [7,20]) (.seq (.seq (rT c8r58 [7,20,191]) c8k61) (.seq (rT c8r62 [4]) .ret))))))))))))))
def g8:AFn:=⟨2,[(4,none)],c8,false,[],[],none⟩
theorem tr8:trFn Tryz.prog false 8 Tryz.f8=some g8:=by kernel_rfl
def c11r0:LO:=[oP 4 .mv [cBo false]]
def c11r1:LO:=[oMv 5 1]
def c11r2:LO:=[oBc 7 .eql 5 1,oMv 6 7]
def c11r3:LO:=[oCl 9 39 [],oMv 10 0,oP 11 (.lookup true none (.pv none .nilfunc) true) [.t 9,.t 10],oMv 8 11,oEx 12 0 8,oEx 13 1 8,oMv 4 13]
def c11r4:LO:=[oBc 15 .eql 5 2,oMv 14 15]
def c11r5:LO:=[oCl 17 40 [],oMv 18 0,oP 19 (.lookup true none (.pv none .nilfunc) true) [.t 17,.t 18],oMv 16 19,oEx 20 0 16,oEx 21 1 16,oMv 4 21]
def c11r6:LO:=[oMv 22 4,oMv 23 22,oG 24 (.bslice none) [cSt [92,61],cSt [61,46,46],cSt [99,111,112,121,95,116,101,114,109],cSt [116,101,114,109,95,118,97,114,105,97,98,108,101,115],cSt [108,101,110,103,116,104],cSt [109,115,111,114,116],cSt [115,111,114,116],cSt [107,101,121,115,111,114,116]] 23 false,
 oG 25 .mv [.t 0] 23 false,oG 26 .call [cFn 41,.t 24,.t 25] 23 false,oP 27 .pick [.t 23,cBo true,.t 26],oMv 4 27]
def c11r7:LO:=[oBc 29 .eql 5 3,oMv 28 29]
def c11r8:LO:=[oP 30 (.bslice none) [cSt [99,111,109,112,97,114,101],cSt [102,117,110,99,116,111,114],cSt [97,114,103],cSt [98,101,116,119,101,101,110]],oMv 31 0,oCl 32 41 [.t 30,.t 31],oMv 4 32]
def c11k9:ACode:=.cond (.t 28) (rT c11r8 [4]) .skip
def c11k10:ACode:=.cond (.t 14) (.seq (rT c11r5 [0,4]) (rT c11r6 [4])) (.seq (rT c11r7 [0,4,28]) c11k9)
def c11k11:ACode:=.cond (.t 6) (rT c11r3 [4]) (.seq (rT c11r4 [0,4,5,14]) c11k10)
def c11k12:ACode:=.block 0 (.seq (rT c11r2 [0,4,5,6]) c11k11)
def c11r13:LO:=[oMv 33 4,oMv 4 33]
def c11:ACode:=.seq (rT c11r0 [0,1,4]) (.seq (.seq (rT c11r1 [0,4,5]) c11k12) (.seq (rT c11r13 [4]) .ret))
def g11:AFn:=⟨2,[(4,none)],c11,false,[],[],none⟩
theorem tr11:trFn Tryz.prog false 11 Tryz.f11=some g11:=by kernel_rfl
def c13r0:LO:=[oP 0 .mv [cBo false]]
def c13r1:LO:=[oCl 1 17 [cSt [102,111,111]],oUn 2 (.bslice (some 4)) 1,oCl 3 19 [cSt [97,116,111,109],.t 2],oCl 4 17 [cSt [102,111,111]],oUn 5 (.bslice (some 4)) 4,oCl 6 19 [cSt [97,116,111,109],.t 5],oCl 7 18 [.t 3,.t 6],
 oMv 8 7,oG 9 .call [cFn 28,cIn 0] 8 true,oG 10 (.bslice (some 4)) [.t 9] 8 true,oG 11 .call [cFn 19,cSt [97,116,111,109],.t 10] 8 true,oG 12 .call [cFn 31,.t 11] 8 true,oP 13 .pick [.t 8,.t 12,cBo false],oMv 14 13,oG 15 .call [cFn 28,cIn 0] 14 true,
 oG 16 .call [cFn 28,cIn 1] 14 true,oG 17 (.bslice (some 4)) [.t 16] 14 true,oG 18 .call [cFn 19,cSt [102],.t 17] 14 true,oG 19 .call [cFn 30,cIn 3] 14 true,oG 20 (.bslice (some 4)) [.t 15,.t 18,.t 19] 14 true,oG 21 .call [cFn 19,cSt [99,111,109,112,97,114,101],.t 20] 14 true,
 oG 22 .call [cFn 17,cSt [62]] 14 true,oG 23 .call [cFn 28,cIn 1] 14 true,oG 24 (.bslice (some 4)) [.t 23] 14 true,oG 25 .call [cFn 19,cSt [102],.t 24] 14 true,oG 26 .call [cFn 30,cIn 3] 14 true,oG 27 (.bslice (some 4)) [.t 22,.t 25,.t 26] 14 true,
 oG 28 .call [cFn 19,cSt [99,111,109,112,97,114,101],.t 27] 14 true,oG 29 .call [cFn 18,.t 21,.t 28] 14 true,oP 30 .pick [.t 14,.t 29,cBo false],oMv 31 30,oG 32 .call [cFn 28,cIn 0] 31 true,oG 33 .call [cFn 17,cSt [102]] 31 true,
 oG 34 .call [cFn 30,cIn 2] 31 true,oG 35 (.bslice (some 4)) [.t 32,.t 33,.t 34] 31 true,oG 36 .call [cFn 19,cSt [102,117,110,99,116,111,114],.t 35] 31 true,oG 37 .call [cFn 28,cIn 1] 31 true,oG 38 .call [cFn 28,cIn 2] 31 true,
 oG 39 (.bslice (some 4)) [.t 37,.t 38] 31 true,oG 40 .call [cFn 19,cSt [102],.t 39] 31 true,oG 41 .call [cFn 17,cSt [102]] 31 true,oG 42 .call [cFn 30,cIn 2] 31 true,oG 43 (.bslice (some 4)) [.t 40,.t 41,.t 42] 31 true,
 oG 44 .call [cFn 19,cSt [102,117,110,99,116,111,114],.t 43] 31 true,oG 45 .call [cFn 18,.t 36,.t 44] 31 true,oP 46 .pick [.t 31,.t 45,cBo false],oMv 47 46,oG 48 .call [cFn 28,cIn 0] 47 true,oG 49 .call [cFn 17,cSt [102]] 47 true,
 oG 50 .call [cFn 30,.c (.pv none (.int .i64 (-1)))] 47 true,oG 51 (.bslice (some 4)) [.t 48,.t 49,.t 50] 47 true,oG 52 .call [cFn 19,cSt [102,117,110,99,116,111,114],.t 51] 47 true,oG 53 .call [cFn 17,cSt [110,111,116,95,108,101,115,115,95,116,104,97,110,95,122,101,114,111]] 47 true,
 oG 54 .call [cFn 30,.c (.pv none (.int .i64 (-1)))] 47 true,oG 55 (.bslice (some 4)) [.t 53,.t 54] 47 true,oG 56 .call [cFn 19,cSt [100,111,109,97,105,110,95,101,114,114,111,114],.t 55] 47 true,oG 57 .call [cFn 37,.t 52,.t 56] 47 true,
 oP 58 .pick [.t 47,.t 57,cBo false],oMv 59 58,oG 60 .call [cFn 28,cIn 0] 59 true,oG 61 .call [cFn 28,cIn 1] 59 true,oG 62 .call [cFn 28,cIn 0] 59 true,oG 63 (.bslice (some 4)) [.t 60,.t 61,.t 62] 59 true,oG 64 .call [cFn 19,cSt [102],.t 63] 59 true,
 oG 65 .call [cFn 28,cIn 2] 59 true,oG 66 (.bslice (some 4)) [.t 64,.t 65] 59 true,oG 67 .call [cFn 19,cSt [99,111,112,121,95,116,101,114,109],.t 66] 59 true,oG 68 .call [cFn 28,cIn 0] 59 true,oG 69 .call [cFn 28,cIn 1] 59 true,
 oG 70 .call [cFn 28,cIn 0] 59 true,oG 71 (.bslice (some 4)) [.t 68,.t 69,.t 70] 59 true,oG 72 .call [cFn 19,cSt [102],.t 71] 59 true,oG 73 .call [cFn 28,cIn 3] 59 true,oG 74 .call [cFn 28,cIn 4] 59 true,oG 75 .call [cFn 28,cIn 3] 59 true,
 oG 76 (.bslice (some 4)) [.t 73,.t 74,.t 75] 59 true,oG 77 .call [cFn 19,cSt [102],.t 76] 59 true,oG 78 (.bslice (some 4)) [.t 72,.t 77] 59 true,oG 79 .call [cFn 19,cSt [99,111,112,121,95,116,101,114,109],.t 78] 59 true,
 oG 80 .call [cFn 18,.t 67,.t 79] 59 true,oP 81 .pick [.t 59,.t 80,cBo false],oMv 82 81,oG 83 .call [cFn 17,cSt [91,93]] 82 true,oG 84 .call [cFn 17,cSt [99]] 82 true,oG 85 .call [cFn 30,cIn 1] 82 true,oG 86 .call [cFn 17,cSt [98]] 82 true,
 oG 87 .call [cFn 30,cIn 1] 82 true,oG 88 (.bslice (some 4)) [.t 84,.t 85,.t 86,.t 87] 82 true,oG 89 .call [cFn 27,.t 83,.t 88] 82 true,oG 90 .call [cFn 28,cIn 0] 82 true,oG 91 (.bslice (some 4)) [.t 89,.t 90] 82 true,oG 92 .call [cFn 19,cSt [115,111,114,116],.t 91] 82 true,
 oG 93 .call [cFn 17,cSt [91,93]] 82 true,oG 94 .call [cFn 17,cSt [99]] 82 true,oG 95 .call [cFn 30,cIn 1] 82 true,oG 96 .call [cFn 17,cSt [98]] 82 true,oG 97 .call [cFn 30,cIn 1] 82 true,oG 98 (.bslice (some 4)) [.t 94,.t 95,.t 96,.t 97] 82 true,
 oG 99 .call [cFn 27,.t 93,.t 98] 82 true,oG 100 .call [cFn 17,cSt [91,93]] 82 true,oG 101 .call [cFn 30,cIn 1] 82 true,oG 102 .call [cFn 17,cSt [98]] 82 true,oG 103 .call [cFn 17,cSt [99]] 82 true,oG 104 (.bslice (some 4)) [.t 101,.t 102,.t 103] 82 true,
 oG 105 .call [cFn 27,.t 100,.t 104] 82 true,oG 106 (.bslice (some 4)) [.t 99,.t 105] 82 true,oG 107 .call [cFn 19,cSt [115,111,114,116],.t 106] 82 true,oG 108 .call [cFn 18,.t 92,.t 107] 82 true,oP 109 .pick [.t 82,.t 108,cBo false],
 oMv 110 109,oG 111 .call [cFn 28,cIn 0] 110 true,oG 112 .call [cFn 28,cIn 1] 110 true,oG 113 (.bslice (some 4)) [.t 111,.t 112] 110 true,oG 114 .call [cFn 19,cSt [108,101,110,103,116,104],.t 113] 110 true,oG 115 .call [cFn 17,cSt [105,110,115,116,97,110,116,105,97,116,105,111,110,95,101,114,114,111,114]] 110 true,
 oG 116 .call [cFn 37,.t 114,.t 115] 110 true,oP 117 .pick [.t 110,.t 116,cBo false],oMv 0 117]
def c13:ACode:=.seq (rT c13r0 []) (.seq (rT c13r1 [0]) .ret)
def g13:AFn:=⟨0,[(0,none)],c13,false,[],[],none⟩
theorem tr13:trFn Tryz.prog false 13 Tryz.f13=some g13:=by kernel_rfl
def c14r0:LO:=[oP 4 aZ [],oP 5 .mv [cBo false]]
def c14r1:LO:=[oMv 7 0,oMv 8 1,oCl 9 19 [.t 7,.t 8],oP 6 aZ [],oSf 6 9]
def c14r2:LO:=[oLf 10 6,oP 11 .callp [cFn 25,.t 10],oLf 12 6,oP 13 .callp [cFn 23,.t 12],oSf 4 11,oMv 5 13]
def c14:ACode:=.seq (rT c14r0 [0,1,4]) (.seq (rT c14r1 [4,6]) (.seq (.seq (.settle [6]) (rT c14r2 [4,5])) .ret))
def g14:AFn:=⟨2,[(4,some (some 4)),(5,none)],c14,false,[],[],none⟩
theorem tr14:trFn Tryz.prog false 14 Tryz.f14=some g14:=by kernel_rfl
def c15r0:LO:=[oBx 2 0,oBx 3 1,oP 4 .mv [cIn 0]]
def c15r1:LO:=[oLf 5 2,oCl 6 43 [.t 5],oUn 7 .not 6,oMv 8 7,oG 9 (.load (some 4)) [.t 3] 8 false,oG 10 .call [cFn 43,.t 9] 8 false,oG 11 .not [.t 10] 8 false,oP 12 .pick [.t 8,cBo true,.t 11]]
def c15r2:LO:=[oP 4 .mv [cIn 0]]
def c15k3:ACode:=kRt 12 c15r2 [4]
def c15r4:LO:=[oLf 13 2,oLf 14 3,oCl 15 44 [.t 13,.t 14],oMv 4 15]
def c15:ACode:=.seq (rT c15r0 [2,3]) (.seq (.seq (rT c15r1 [2,3,12]) c15k3) (.seq (rT c15r4 [4]) .ret))
def g15:AFn:=⟨2,[(4,none)],c15,false,[],[],none⟩
theorem tr15:trFn Tryz.prog false 15 Tryz.f15=some g15:=by kernel_rfl
def c17r0:LO:=[oP 2 aZ []]
def c17r1:LO:=[oMv 3 0,oP 4 (bZ [0,2]) [cIn 2,.t 3],oSf 2 4]
def c17:ACode:=.seq (rT c17r0 [0,2]) (.seq (rT c17r1 [2]) .ret)
def g17:AFn:=⟨1,[(2,some (some 4))],c17,false,[],[],none⟩
theorem tr17:trFn Tryz.prog false 17 Tryz.f17=some g17:=by kernel_rfl
def c18r0:LO:=[oBx 2 0,oBx 3 1,oP 4 .mv [cBo false]]
def c18r1:LO:=[oLf 9 2,oCl 10 20 [.t 9],oMv 8 10,oEx 11 0 8,oEx 12 1 8,oEx 13 2 8,oP 6 aZ [],oMv 5 11,oSf 6 12,oMv 7 13]
def c18r2:LO:=[oMv 14 7,oBc 15 .eql 14 0,oMv 16 15,oG 17 .mv [.t 5] 16 true,oG 18 .len [.t 17] 16 true,oG 19 (.bin .eql) [.t 18,cIn 1] 16 true,oP 20 .pick [.t 16,.t 19,cBo false],oMv 21 20,oG 22 .mv [.t 5] 21 true,oG 23 (.iaddr (some 4)) [.t 22,cIn 0] 21 true,
 oG 24 (.load (some 4)) [.t 23] 21 true,oG 25 (.load (some 4)) [.t 3] 21 true,oG 26 .call [cFn 22,.t 24,.t 25] 21 true,oP 27 .pick [.t 21,.t 26,cBo false],oMv 28 27,oG 29 (.load (some 4)) [.t 6] 28 true,oG 30 (bZ []) [] 28 true,
 oG 31 .call [cFn 22,.t 29,.t 30] 28 true,oP 32 .pick [.t 28,.t 31,cBo false],oMv 4 32]
def c18:ACode:=.seq (rT c18r0 [2,3]) (.seq (rT c18r1 [3,5,6,7]) (.seq (rT c18r2 [4]) .ret))
def g18:AFn:=⟨2,[(4,none)],c18,false,[],[],none⟩
theorem tr18:trFn Tryz.prog false 18 Tryz.f18=some g18:=by kernel_rfl
def c19r0:LO:=[oP 4 aZ []]
def c19r1:LO:=[oMv 5 0,oMv 6 1,oP 7 (bZ [0,2,3]) [cIn 3,.t 5,.t 6],oSf 4 7]
def c19:ACode:=.seq (rT c19r0 [0,1,4]) (.seq (rT c19r1 [4]) .ret)
def g19:AFn:=⟨2,[(4,some (some 4))],c19,false,[],[],none⟩
theorem tr19:trFn Tryz.prog false 19 Tryz.f19=some g19:=by kernel_rfl
def c20r0:LO:=[oBx 1 0,oP 2 (.alloc none (.tsl (some 4) [])) [],oP 3 aZ [],oP 4 (.alloc none (.pv none (.int .i64 0))) []]
def c20r1:LO:=[oLf 9 1,oP 10 .callp [cFn 43,.t 9],oUn 11 .not 10,oMv 12 11,oG 13 (.load (some 4)) [.t 1] 12 false,oG 14 (.load (some 4)) [.t 1] 12 false,oG 15 .callp [cFn 46,.t 14] 12 false,oG 16 .callp [cFn 45,.t 13,.t 15] 12 false,
 oG 17 .not [.t 16] 12 false,oP 18 .pick [.t 12,cBo true,.t 17]]
def c20r2:LO:=[oP 19 (bZ []) [],⟨none,(.store none),[.t 2,.c (.tsl (some 4) [])],none⟩,oSf 3 19,⟨none,(.store none),[.t 4,cIn 1],none⟩]
def c20k3:ACode:=kRt 18 c20r2 [2,3,4]
def c20r4:LO:=[oLf 20 1,oCl 21 47 [.t 20],oUn 22 .not 21,oMv 23 22,oG 24 (.faddr 2) [.t 1] 23 false,oG 25 (.load none) [.t 24] 23 false,oG 26 (.faddr 3) [.t 1] 23 false,oG 27 (.load none) [.t 26] 23 false,oG 28 .len [.t 27] 23 false,
 oG 29 .call [cFn 11,.t 25,.t 28] 23 false,oG 30 .not [.t 29] 23 false,oP 31 .pick [.t 23,cBo true,.t 30]]
def c20r5:LO:=[oP 32 (bZ []) [],⟨none,(.store none),[.t 2,.c (.tsl (some 4) [])],none⟩,oSf 3 32,⟨none,(.store none),[.t 4,cIn 4],none⟩]
def c20k6:ACode:=kRt 31 c20r5 [2,3,4]
def c20r7:LO:=[oP 33 (.mkfunc (.func 48) 0) [.t 2,.t 3,.t 4]]
def c20r8:LO:=[oLf 34 1,oLf 35 1,oP 36 .callp [cFn 49,.t 35],oUn 37 .len 36,oP 38 (.build [((some 4),(.agg [(none,(.pv none (.int .i64 0))),(none,(.pv none (.int .i64 0))),(none,(.pv none (.str []))),(none,(.tsl (some 4) []))])),(none,(.pv none (.int .i64 0)))] [0,1]) [.t 34,.t 37],
 oUn 39 (.box (some 5)) 38,oMv 5 39]
def c20r9:LO:=[oMv 41 5,oCl 42 50 [.t 41],oMv 40 42,oEx 43 0 40,oEx 44 1 40,oMv 6 43,oSo 4 44]
def c20r10:LO:=[oLo 45 4,oBc 46 .neq 45 0]
def c20r11:LO:=[oP 47 (bZ []) [],oLo 48 4,⟨none,(.storen none),[.t 2,.c (.tsl (some 4) []),.t 4],none⟩,⟨none,(.storen (some 4)),[.t 3,.t 47,.t 4],none⟩,oSo 4 48]
def c20k12:ACode:=kRt 46 c20r11 [2,3,4]
def c20r13:LO:=[oMv 49 6,oUn 50 .len 49,oBc 51 .gtr 50 1000]
def c20r14:LO:=[oP 52 (bZ []) [],⟨none,(.store none),[.t 2,.c (.tsl (some 4) [])],none⟩,oSf 3 52,⟨none,(.store none),[.t 4,cIn 2],none⟩]
def c20k15:ACode:=kRt 51 c20r14 [2,3,4]
def c20r16:LO:=[oMv 53 6,oUn 54 .len 53,oP 55 .mv [cIn 0]]
def c20r17:LO:=[oBi 56 .lss 55 54]
def c20k18:ACode:=kEx 56 0
def c20r19:LO:=[oIa 57 53 55,oLf 58 57,oP 8 aZ [],oSf 8 58]
def c20r20:LO:=[oLf 59 8,oCl 60 43 [.t 59],oUn 61 .not 60]
def c20r21:LO:=[oP 62 (bZ []) [],⟨none,(.store none),[.t 2,.c (.tsl (some 4) [])],none⟩,oSf 3 62,⟨none,(.store none),[.t 4,cIn 2],none⟩]
def c20k22:ACode:=kRt 61 c20r21 [2,3,4]
def c20r23:LO:=[oLo 63 2,oLf 64 8,oP 65 .callp [cFn 51,.t 64],oUn 66 .len 63,oP 67 (.bslicep (some 4)) [.c (.agg [(none,(.pv none (.int .i64 0))),(none,(.pv none (.int .i64 0))),(none,(.pv none (.str []))),(none,(.tsl (some 4) []))])],
 oP 68 (.append (some 4)) [.t 63,.t 67],oIa 69 68 66,oSf 69 65,⟨none,(.storex none),[.t 2,.t 68,.t 69,.t 65],none⟩]
def c20k24:ACode:=.block 1 (.seq (rT c20r19 [2,3,4,8,53,54,55]) (.seq (.seq (rT c20r20 [2,3,4,8,53,54,55,61]) c20k22) (.seq (.settle [8]) (.region false c20r23 [2,3,4,53,54,55]))))
def c20r25:LO:=[oBc 70 .add 55 1,oMv 55 70]
def c20b26:ACode:=.seq (rT c20r17 [2,3,4,53,54,55,56]) (.seq c20k18 (.seq c20k24 (rT c20r25 [2,3,4,53,54,55])))
def c20k27:ACode:=.block 0 (.loop [2,3,4,53,54,55] c20b26)
def c20r28:LO:=[oLo 71 2,oP 72 (bZ []) [],oSo 2 71,oSf 3 72,⟨none,(.store none),[.t 4,cIn 0],none⟩]
def c20p29:ACode:=(.seq (.seq (.settle [1]) (rT c20r8 [2,3,4,5])) (.seq (rT c20r9 [2,3,4,6]) (.seq (rT c20r10 [2,3,4,6,46]) (.seq c20k12 (.seq (rT c20r13 [2,3,4,6,51]) (.seq c20k15 (.seq (rT c20r16 [2,3,4,53,54,55]) (.seq c20k27 (.seq (rT c20r28 [2,3,4]) (.seq .ret .skip))))))))))
def c20:ACode:=.seq (rT c20r0 [1,2,3,4]) (.seq (.seq (.settle [1]) (rT c20r1 [1,2,3,4,18])) (.seq c20k3 (.seq (rT c20r4 [1,2,3,4,31]) (.seq c20k6 (rT c20r7 [1,2,3,4,33])))))
def g20:AFn:=⟨1,[(2,some none),(3,some (some 4)),(4,some none)],c20,false,[(.dfr 33,c20p29)],[],none⟩
theorem tr20:trFn Tryz.prog false 20 Tryz.f20=some g20:=by kernel_rfl
def c21r0:LO:=[oBx 4 1,oBx 5 2,oP 6 (.alloc none (.tsl (some 5) [])) [],oP 7 (.alloc none (.pv none (.int .i64 0))) []]
def c21r1:LO:=[oMv 9 0,oCl 10 52 [.t 9],oUn 11 .not 10,oMv 12 11,oG 13 (.load (some 4)) [.t 4] 12 false,oG 14 .call [cFn 43,.t 13] 12 false,oG 15 .not [.t 14] 12 false,oP 16 .pick [.t 12,cBo true,.t 15],oMv 17 16,oG 18 (.load (some 4)) [.t 5] 17 false,
 oG 19 .call [cFn 43,.t 18] 17 false,oG 20 .not [.t 19] 17 false,oP 21 .pick [.t 17,cBo true,.t 20]]
def c21r2:LO:=[⟨none,(.store none),[.t 6,.c (.tsl (some 5) [])],none⟩,⟨none,(.store none),[.t 7,cIn 1],none⟩]
def c21k3:ACode:=kRt 21 c21r2 [6,7]
def c21r4:LO:=[oP 22 (.mkfunc (.func 53) 0) [.t 6,.t 7]]
def c21r5:LO:=[oMv 23 0,oCl 24 54 [.t 23],oP 25 (.build [(none,(.tsl (some 5) []))] [0]) [.t 24],oUn 26 (.box (some 1)) 25,oMv 8 26]
def c21r6:LO:=[oMv 27 8,oLf 28 4,oLf 29 5,oCl 30 55 [.t 27,.t 28,.t 29]]
def c21r7:LO:=[oMv 31 8,oUn 32 .nilcheck 31,oFa 33 0 32,oLo 34 33,oSo 6 34,⟨none,(.store none),[.t 7,cIn 0],none⟩]
def c21p8:ACode:=(.seq (rT c21r5 [4,5,6,7,8]) (.seq (rT c21r6 [6,7,8]) (.seq (rT c21r7 [6,7]) (.seq .ret .skip))))
def c21:ACode:=.seq (rT c21r0 [0,4,5,6,7]) (.seq (rT c21r1 [0,4,5,6,7,21]) (.seq c21k3 (rT c21r4 [0,4,5,6,7,22])))
def g21:AFn:=⟨3,[(6,some none),(7,some none)],c21,false,[(.dfr 22,c21p8)],[],none⟩
theorem tr21:trFn Tryz.prog false 21 Tryz.f21=some g21:=by kernel_rfl
def c22r0:LO:=[oBx 2 0,oBx 3 1,oP 4 .mv [cBo false]]
def c22r1:LO:=[oLf 5 2,oLf 6 3,oCl 7 56 [.t 5,.t 6],oMv 4 7]
def c22:ACode:=.seq (rT c22r0 [2,3]) (.seq (rT c22r1 [4]) .ret)
def g22:AFn:=⟨2,[(4,none)],c22,false,[],[],none⟩
theorem tr22:trFn Tryz.prog false 22 Tryz.f22=some g22:=by kernel_rfl
def c23r0:LO:=[oBx 1 0,oP 2 .mv [cBo false]]
def c23r1:LO:=[oLf 3 1,oCl 4 24 [.t 3],oBc 5 .leq 4 2000,oMv 6 5,oG 7 (.load (some 4)) [.t 1] 6 true,oG 8 .call [cFn 57,.t 7] 6 true,oP 9 .pick [.t 6,.t 8,cBo false],oMv 2 9]
def c23:ACode:=.seq (rT c23r0 [1]) (.seq (rT c23r1 [2]) .ret)
def g23:AFn:=⟨1,[(2,none)],c23,false,[],[],none⟩
theorem tr23:trFn Tryz.prog false 23 Tryz.f23=some g23:=by kernel_rfl
def c24r0:LO:=[oBx 1 0,oP 2 .mv [cIn 0]]
def c24r1:LO:=[oLf 3 1,oCl 4 58 [.t 3,cIn 2001],oMv 2 4]
def c24:ACode:=.seq (rT c24r0 [1]) (.seq (rT c24r1 [2]) .ret)
def g24:AFn:=⟨1,[(2,none)],c24,false,[],[],none⟩
theorem tr24:trFn Tryz.prog false 24 Tryz.f24=some g24:=by kernel_rfl
def c25r0:LO:=[oBx 1 0,oP 2 aZ []]
def c25r1:LO:=[oLf 3 1,oCl 4 23 [.t 3],oUn 5 .not 4]
def c25r2:LO:=[oP 6 (bZ []) [],oSf 2 6]
def c25k3:ACode:=kRt 5 c25r2 [2]
def c25r4:LO:=[oLf 7 1,oP 8 .callp [cFn 60,.c (.tsl none []),.t 7],oLf 9 1,oP 10 .callp [cFn 59,.t 8,.t 9],oSf 2 10]
def c25:ACode:=.seq (rT c25r0 [1,2]) (.seq (.seq (rT c25r1 [1,2,5]) c25k3) (.seq (.seq (.settle [1]) (rT c25r4 [2])) .ret))
def g25:AFn:=⟨1,[(2,some (some 4))],c25,false,[],[],none⟩
theorem tr25:trFn Tryz.prog false 25 Tryz.f25=some g25:=by kernel_rfl
def c26r0:LO:=[oBx 1 0,oP 2 (.nilsl none) []]
def c26r1:LO:=[oLf 3 1,oCl 4 23 [.t 3],oUn 5 .not 4]
def c26r2:LO:=[oP 2 (.nilsl none) []]
def c26k3:ACode:=kRt 5 c26r2 [2]
def c26r4:LO:=[oLf 6 1,oCl 7 60 [.c (.tsl none []),.t 6],oMv 2 7]
def c26:ACode:=.seq (rT c26r0 [1]) (.seq (.seq (rT c26r1 [1,5]) c26k3) (.seq (rT c26r4 [2]) .ret))
def g26:AFn:=⟨1,[(2,none)],c26,true,[],[],none⟩
theorem tr26:trFn Tryz.prog true 26 Tryz.f26=some g26:=by kernel_rfl
def c27r0:LO:=[oBx 2 0,oP 4 aZ []]
def c27r1:LO:=[oMv 6 1,oUn 7 .len 6,oBc 8 .sub 7 1,oMv 5 8]
def c27r2:LO:=[oMv 9 5,oBc 10 .geq 9 0]
def c27k3:ACode:=kEx 10 0
def c27r4:LO:=[oMv 13 1,oMv 14 5,oIa 15 13 14,oLf 16 15,oLf 17 2,oP 18 (.bslice (some 4)) [.t 16,.t 17],oCl 19 19 [cSt [46],.t 18],oSf 2 19]
def c27k5:ACode:=.block 1 (rT c27r4 [1,2,4,5])
def c27r6:LO:=[oMv 11 5,oBc 12 .sub 11 1,oMv 5 12]
def c27b7:ACode:=.seq (.seq (rT c27r2 [1,2,4,5,10]) c27k3) (.seq c27k5 (rT c27r6 [1,2,4,5]))
def c27k8:ACode:=.block 0 (.loop [1,2,4,5] c27b7)
def c27r9:LO:=[oLf 20 2,oSf 4 20]
def c27:ACode:=.seq (rT c27r0 [1,2,4]) (.seq (.seq (rT c27r1 [1,2,4,5]) c27k8) (.seq (rT c27r9 [4]) .ret))
def g27:AFn:=⟨2,[(4,some (some 4))],c27,false,[],[],none⟩
theorem tr27:trFn Tryz.prog false 27 Tryz.f27=some g27:=by kernel_rfl
def c28r0:LO:=[oP 2 aZ []]
def c28r1:LO:=[oMv 3 0,oP 4 (bZ [1]) [.t 3],oSf 2 4]
def c28:ACode:=.seq (rT c28r0 [0,2]) (.seq (rT c28r1 [2]) .ret)
def g28:AFn:=⟨1,[(2,some (some 4))],c28,false,[],[],none⟩
theorem tr28:trFn Tryz.prog false 28 Tryz.f28=some g28:=by kernel_rfl
def c30r0:LO:=[oP 2 aZ []]
def c30r1:LO:=[oMv 3 0,oP 4 (bZ [0,1]) [cIn 1,.t 3],oSf 2 4]
def c30:ACode:=.seq (rT c30r0 [0,2]) (.seq (rT c30r1 [2]) .ret)
def g30:AFn:=⟨1,[(2,some (some 4))],c30,false,[],[],none⟩
theorem tr30:trFn Tryz.prog false 30 Tryz.f30=some g30:=by kernel_rfl
def c31r0:LO:=[oBx 1 0,oP 2 .mv [cBo false]]
def c31r1:LO:=[oLf 7 1,oCl 8 20 [.t 7],oMv 6 8,oEx 9 0 6,oEx 10 1 6,oEx 11 2 6,oP 4 aZ [],oMv 3 9,oSf 4 10,oMv 5 11]
def c31r2:LO:=[oMv 12 5,oBc 13 .eql 12 0,oMv 14 13,oG 15 .mv [.t 3] 14 true,oG 16 .len [.t 15] 14 true,oG 17 (.bin .eql) [.t 16,cIn 0] 14 true,oP 18 .pick [.t 14,.t 17,cBo false],oMv 19 18,oG 20 (.load (some 4)) [.t 4] 19 true,
 oG 21 (bZ []) [] 19 true,oG 22 .call [cFn 22,.t 20,.t 21] 19 true,oP 23 .pick [.t 19,.t 22,cBo false],oMv 2 23]
def c31:ACode:=.seq (rT c31r0 [1]) (.seq (rT c31r1 [3,4,5]) (.seq (rT c31r2 [2]) .ret))
def g31:AFn:=⟨1,[(2,none)],c31,false,[],[],none⟩
theorem tr31:trFn Tryz.prog false 31 Tryz.f31=some g31:=by kernel_rfl
def c33r0:LO:=[oBx 1 0,oP 2 (.nilsl (some 4)) [],oP 3 aZ []]
def c33r1:LO:=[oLf 5 1,oCl 6 23 [.t 5],oUn 7 .not 6]
def c33r2:LO:=[oP 8 (bZ []) [],oP 2 (.nilsl (some 4)) [],oSf 3 8]
def c33k3:ACode:=kRt 7 c33r2 [2,3]
def c33r4:LO:=[oP 4 (.nilsl (some 4)) []]
def c33r5:LO:=[oLf 9 1,oCl 10 62 [.t 9]]
def c33k6:ACode:=kEx 10 0
def c33r7:LO:=[oMv 11 4,oFa 12 3 1,oLo 13 12,oP 14 (.iaddr (some 4)) [.t 13,cIn 0],oLf 15 14,oCl 16 63 [.t 15],oUn 17 (.bslice (some 4)) 16,oP 18 (.append (some 4)) [.t 11,.t 17],oMv 4 18]
def c33r8:LO:=[oFa 19 3 1,oLo 20 19,oP 21 (.iaddr (some 4)) [.t 20,cIn 1],oLf 22 21,oSf 1 22]
def c33k9:ACode:=.block 1 (.seq (rT c33r7 [1,3,4]) (rT c33r8 [1,3,4]))
def c33b10:ACode:=.seq (.seq (rT c33r5 [1,3,4,10]) c33k6) c33k9
def c33k11:ACode:=.block 0 (.loop [1,3,4] c33b10)
def c33r12:LO:=[oMv 23 4,oLf 24 1,oCl 25 63 [.t 24],oMv 2 23,oSf 3 25]
def c33:ACode:=.seq (rT c33r0 [1,3]) (.seq (.seq (rT c33r1 [1,3,7]) c33k3) (.seq (rT c33r4 [1,3,4]) (.seq c33k11 (.seq (rT c33r12 [2,3]) .ret))))
def g33:AFn:=⟨1,[(2,none),(3,some (some 4))],c33,true,[],[],none⟩
theorem tr33:trFn Tryz.prog true 33 Tryz.f33=some g33:=by kernel_rfl
def c34r0:LO:=[oP 2 (.nilsl (some 4)) [],oP 3 .mv [cIn 0]]
def c34r1:LO:=[oMv 4 0,oCl 5 64 [.t 4],oUn 6 .not 5]
def c34r2:LO:=[oP 2 (.nilsl (some 4)) [],oP 3 .mv [cIn 1]]
def c34k3:ACode:=kRt 6 c34r2 [2,3]
def c34r4:LO:=[oMv 7 0,oCl 8 65 [.t 7,cFn 44],oMv 2 8,oP 3 .mv [cIn 0]]
def c34:ACode:=.seq (rT c34r0 [0]) (.seq (.seq (rT c34r1 [0,6]) c34k3) (.seq (rT c34r4 [2,3]) .ret))
def g34:AFn:=⟨1,[(2,none),(3,none)],c34,true,[],[],none⟩
theorem tr34:trFn Tryz.prog true 34 Tryz.f34=some g34:=by kernel_rfl
def c35r0:LO:=[oP 2 (.nilsl (some 4)) [],oP 3 .mv [cIn 0]]
def c35r1:LO:=[oMv 5 0,oCl 6 34 [.t 5],oMv 4 6,oEx 7 0 4,oEx 8 1 4,oMv 2 7,oMv 3 8]
def c35r2:LO:=[oMv 9 3,oBc 10 .neq 9 0]
def c35r3:LO:=[oMv 11 3,oP 2 (.nilsl (some 4)) [],oMv 3 11]
def c35k4:ACode:=kRt 10 c35r3 [2,3]
def c35r5:LO:=[oMv 12 2,oCl 13 66 [.t 12,cFn 67],oMv 2 13,oP 3 .mv [cIn 0]]
def c35:ACode:=.seq (rT c35r0 [0]) (.seq (rT c35r1 [2,3]) (.seq (.seq (rT c35r2 [2,3,10]) c35k4) (.seq (rT c35r5 [2,3]) .ret)))
def g35:AFn:=⟨1,[(2,none),(3,none)],c35,true,[],[],none⟩
theorem tr35:trFn Tryz.prog true 35 Tryz.f35=some g35:=by kernel_rfl
def c36r0:LO:=[oP 2 (.nilsl (some 4)) [],oP 3 .mv [cIn 0]]
def c36r1:LO:=[oMv 6 0,oCl 7 64 [.t 6],oUn 8 .not 7]
def c36r2:LO:=[oP 2 (.nilsl (some 4)) [],oP 3 .mv [cIn 1]]
def c36k3:ACode:=kRt 8 c36r2 [2,3]
def c36r4:LO:=[oMv 9 0,oUn 10 .len 9,oP 11 .mv [cIn 0]]
def c36r5:LO:=[oBi 12 .lss 11 10]
def c36k6:ACode:=kEx 12 0
def c36r7:LO:=[oIa 13 9 11,oLf 14 13,oP 5 aZ [],oSf 5 14]
def c36r8:LO:=[oFa 15 0 5,oLo 16 15,oBc 17 .neq 16 3,oMv 18 17,oG 19 (.faddr 2) [.t 5] 18 false,oG 20 (.load none) [.t 19] 18 false,oG 21 (.bin .neq) [.t 20,cSt [45]] 18 false,oP 22 .pick [.t 18,cBo true,.t 21],oMv 23 22,
 oG 24 (.faddr 3) [.t 5] 23 false,oG 25 (.load none) [.t 24] 23 false,oG 26 .len [.t 25] 23 false,oG 27 (.bin .neq) [.t 26,cIn 2] 23 false,oP 28 .pick [.t 23,cBo true,.t 27]]
def c36r9:LO:=[oP 2 (.nilsl (some 4)) [],oP 3 .mv [cIn 3]]
def c36k10:ACode:=kRt 28 c36r9 [2,3]
def c36k11:ACode:=.block 1 (.seq (rT c36r7 [0,5,9,10,11]) (.seq (rT c36r8 [0,9,10,11,28]) c36k10))
def c36r12:LO:=[oBc 29 .add 11 1,oMv 11 29]
def c36b13:ACode:=.seq (rT c36r5 [0,9,10,11,12]) (.seq c36k6 (.seq c36k11 (rT c36r12 [0,9,10,11])))
def c36k14:ACode:=.block 0 (.loop [0,9,10,11] c36b13)
def c36r15:LO:=[oMv 30 0,oCl 31 65 [.t 30,cFn 68],oMv 2 31,oP 3 .mv [cIn 0]]
def c36:ACode:=.seq (rT c36r0 [0]) (.seq (.seq (rT c36r1 [0,8]) c36k3) (.seq (.seq (rT c36r4 [0,9,10,11]) c36k14) (.seq (rT c36r15 [2,3]) .ret)))
def g36:AFn:=⟨1,[(2,none),(3,none)],c36,true,[],[],none⟩
theorem tr36:trFn Tryz.prog true 36 Tryz.f36=some g36:=by kernel_rfl
def c37r0:LO:=[oBx 2 0,oBx 3 1,oP 4 .mv [cBo false]]
def c37r1:LO:=[oLf 9 2,oCl 10 20 [.t 9],oMv 8 10,oEx 11 0 8,oEx 12 1 8,oEx 13 2 8,oP 6 aZ [],oMv 5 11,oSf 6 12,oMv 7 13]
def c37r2:LO:=[oMv 14 7,oBc 15 .eql 14 8,oMv 16 15,oG 17 .mv [.t 5] 16 true,oG 18 .len [.t 17] 16 true,oG 19 (.bin .eql) [.t 18,cIn 0] 16 true,oP 20 .pick [.t 16,.t 19,cBo false],oMv 21 20,oG 22 (.load (some 4)) [.t 6] 21 true,
 oG 23 (.load (some 4)) [.t 3] 21 true,oG 24 .callp [cFn 17,cSt [91,93]] 21 true,oG 25 (.bslicep (some 4)) [.t 23,.t 24] 21 true,oG 26 .callp [cFn 19,cSt [101,114,114,111,114],.t 25] 21 true,oG 27 .callp [cFn 22,.t 22,.t 26] 21 true,
 oP 28 .pick [.t 21,.t 27,cBo false],oMv 4 28]
def c37:ACode:=.seq (rT c37r0 [2,3]) (.seq (rT c37r1 [3,5,6,7]) (.seq (.seq (.settle [3,6]) (rT c37r2 [4])) .ret))
def g37:AFn:=⟨2,[(4,none)],c37,false,[],[],none⟩
theorem tr37:trFn Tryz.prog false 37 Tryz.f37=some g37:=by kernel_rfl
def c39r0:LO:=[oP 0 .mv [.c (.pv none .nilmap)]]
def c39r1:LO:=[oP 1 (.mkmap none) [],⟨none,(.mapset true none),[.t 1,cSt [118,97,114],cFn 71],none⟩,⟨none,(.mapset true none),[.t 1,cSt [110,111,110,118,97,114],cFn 72],none⟩,⟨none,(.mapset true none),[.t 1,cSt [97,116,111,109],cFn 73],none⟩,
 ⟨none,(.mapset true none),[.t 1,cSt [105,110,116,101,103,101,114],cFn 74],none⟩,⟨none,(.mapset true none),[.t 1,cSt [97,116,111,109,105,99],cFn 75],none⟩,⟨none,(.mapset true none),[.t 1,cSt [99,111,109,112,111,117,110,100],cFn 47],none⟩,
 ⟨none,(.mapset true none),[.t 1,cSt [99,97,108,108,97,98,108,101],cFn 76],none⟩,⟨none,(.mapset true none),[.t 1,cSt [105,115,95,108,105,115,116],cFn 77],none⟩,⟨none,(.mapset true none),[.t 1,cSt [103,114,111,117,110,100],cFn 78],none⟩,
 oMv 2 1,oMv 0 2]
def c39:ACode:=.seq (rT c39r0 []) (.seq (rT c39r1 [0]) .ret)
def g39:AFn:=⟨0,[(0,none)],c39,true,[],[],none⟩
theorem tr39:trFn Tryz.prog true 39 Tryz.f39=some g39:=by kernel_rfl
def c40r0:LO:=[oP 0 .mv [.c (.pv none .nilmap)]]
def c40r1:LO:=[oP 1 (.mkmap none) [],⟨none,(.mapset true none),[.t 1,cSt [61,61],cFn 79],none⟩,⟨none,(.mapset true none),[.t 1,cSt [92,61,61],cFn 80],none⟩,⟨none,(.mapset true none),[.t 1,cSt [64,60],cFn 81],none⟩,⟨none,(.mapset true none),[.t 1,cSt [64,61,60],cFn 82],none⟩,
 ⟨none,(.mapset true none),[.t 1,cSt [64,62],cFn 83],none⟩,⟨none,(.mapset true none),[.t 1,cSt [64,62,61],cFn 84],none⟩,oMv 2 1,oMv 0 2]
def c40:ACode:=.seq (rT c40r0 []) (.seq (rT c40r1 [0]) .ret)
def g40:AFn:=⟨0,[(0,none)],c40,true,[],[],none⟩
theorem tr40:trFn Tryz.prog true 40 Tryz.f40=some g40:=by kernel_rfl
def c41r0:LO:=[oP 4 .mv [cBo false]]
def c41r1:LO:=[oMv 5 0,oMv 6 1,oCl 7 85 [.t 5,.t 6],oBc 8 .geq 7 0,oMv 4 8]
def c41:ACode:=.seq (rT c41r0 [0,1]) (.seq (rT c41r1 [4]) .ret)
def g41:AFn:=⟨2,[(4,none)],c41,false,[],[],none⟩
theorem tr41:trFn Tryz.prog false 41 Tryz.f41=some g41:=by kernel_rfl
def c43r0:LO:=[oBx 1 0,oP 2 .mv [cBo false]]
def c43r1:LO:=[oLf 3 1,oCl 4 86 [.t 3],oBc 5 .leq 4 2000,oMv 6 5,oG 7 (.load (some 4)) [.t 1] 6 true,oG 8 .call [cFn 87,.t 7] 6 true,oP 9 .pick [.t 6,.t 8,cBo false],oMv 2 9]
def c43:ACode:=.seq (rT c43r0 [1]) (.seq (rT c43r1 [2]) .ret)
def g43:AFn:=⟨1,[(2,none)],c43,false,[],[],none⟩
theorem tr43:trFn Tryz.prog false 43 Tryz.f43=some g43:=by kernel_rfl
def c44r0:LO:=[oBx 2 0,oBx 3 1,oP 4 .mv [cIn 0]]
def c44r1:LO:=[oP 12 (.build [(none,(.pv none (.int .i64 0))),(none,(.pv none (.int .i64 0))),(none,(.pv none (.int .i64 0))),(none,(.pv none (.int .i64 0)))] [0,1,2,3]) [cIn 0,cIn 1,cIn 2,cIn 3],oP 5 (.alloc (some 4) (.pv (some 4) (.agg [(none,(.int .i64 0)),(none,(.int .i64 0)),(none,(.int .i64 0)),(none,(.int .i64 0))]))) [],
 oSf 5 12]
def c44r2:LO:=[oFa 13 0 2,oLo 14 13,oP 15 (.iaddrA none 4) [.t 5,.t 14],oLo 16 15,oFa 17 0 3,oLo 18 17,oP 19 (.iaddrA none 4) [.t 5,.t 18],oLo 20 19,oCl 21 88 [.t 16,.t 20],oMv 6 21]
def c44r3:LO:=[oMv 22 6,oBc 23 .neq 22 0]
def c44r4:LO:=[oMv 24 6,oMv 4 24]
def c44k5:ACode:=kRt 23 c44r4 [4]
def c44r6:LO:=[oFa 25 0 2,oLo 26 25,oBc 27 .eql 26 0,oMv 28 27,oG 29 (.faddr 0) [.t 2] 28 false,oG 30 (.load none) [.t 29] 28 false,oG 31 (.bin .eql) [.t 30,cIn 1] 28 false,oP 32 .pick [.t 28,cBo true,.t 31]]
def c44r7:LO:=[oFa 33 1 2,oLo 34 33,oFa 35 1 3,oLo 36 35,oCl 37 89 [.t 34,.t 36],oMv 4 37]
def c44k8:ACode:=kRt 32 c44r7 [4]
def c44r9:LO:=[oFa 38 3 2,oLo 39 38,oUn 40 .len 39,oFa 41 3 3,oLo 42 41,oUn 43 .len 42,oCl 44 88 [.t 40,.t 43],oMv 7 44]
def c44r10:LO:=[oMv 45 7,oBc 46 .neq 45 0]
def c44r11:LO:=[oMv 47 7,oMv 4 47]
def c44k12:ACode:=kRt 46 c44r11 [4]
def c44r13:LO:=[oFa 48 2 2,oLo 49 48,oFa 50 2 3,oLo 51 50,oCl 52 90 [.t 49,.t 51],oMv 8 52]
def c44r14:LO:=[oMv 53 8,oBc 54 .neq 53 0]
def c44r15:LO:=[oMv 55 8,oMv 4 55]
def c44k16:ACode:=kRt 54 c44r15 [4]
def c44r17:LO:=[oFa 56 3 2,oLo 57 56,oUn 58 .len 57,oP 59 .mv [cIn 0]]
def c44r18:LO:=[oBi 60 .lss 59 58]
def c44k19:ACode:=kEx 60 0
def c44r20:LO:=[oMv 61 59,oIa 62 57 59,oLf 63 62,oP 10 aZ [],oMv 9 61,oSf 10 63]
def c44r21:LO:=[oLf 64 10,oFa 65 3 3,oLo 66 65,oMv 67 9,oIa 68 66 67,oLf 69 68,oCl 70 44 [.t 64,.t 69],oMv 11 70]
def c44r22:LO:=[oMv 71 11,oBc 72 .neq 71 0]
def c44r23:LO:=[oMv 73 11,oMv 4 73]
def c44k24:ACode:=kRt 72 c44r23 [4]
def c44k25:ACode:=.block 1 (.seq (rT c44r20 [3,9,10,57,58,59]) (.seq (rT c44r21 [3,11,57,58,59]) (.seq (rT c44r22 [3,11,57,58,59,72]) c44k24)))
def c44r26:LO:=[oBc 74 .add 59 1,oMv 59 74]
def c44b27:ACode:=.seq (rT c44r18 [3,57,58,59,60]) (.seq c44k19 (.seq c44k25 (rT c44r26 [3,57,58,59])))
def c44k28:ACode:=.block 0 (.loop [3,57,58,59] c44b27)
def c44r29:LO:=[oP 4 .mv [cIn 0]]
def c44:ACode:=.seq (rT c44r0 [2,3]) (.seq (rT c44r1 [2,3,5]) (.seq (.seq (rT c44r2 [2,3,6]) (.seq (rT c44r3 [2,3,6,23]) c44k5)) (.seq (.seq (rT c44r6 [2,3,32]) c44k8) (.seq (.seq (rT c44r9 [2,3,7]) (.seq (rT c44r10 [2,3,7,46]) c44k12)) (.seq (.seq (rT c44r13 [2,3,8]) (.seq (rT c44r14 [2,3,8,54]) c44k16)) (.seq (.seq (rT c44r17 [3,57,58,59]) c44k28) (.seq (rT c44r29 [4]) .ret)))))))
def g44:AFn:=⟨2,[(4,none)],c44,false,[],[],none⟩
theorem tr44:trFn Tryz.prog false 44 Tryz.f44=some g44:=by kernel_rfl
def c45r0:LO:=[oBx 2 0,oBx 3 1,oP 4 .mv [cBo false]]
def c45r1:LO:=[oLf 5 2,oCl 6 43 [.t 5],oMv 7 6,oG 8 (.load (some 4)) [.t 3] 7 true,oG 9 .call [cFn 43,.t 8] 7 true,oP 10 .pick [.t 7,.t 9,cBo false],oMv 11 10,oG 12 (.load (some 4)) [.t 2] 11 true,oG 13 (.load (some 4)) [.t 3] 11 true,
 oG 14 .call [cFn 91,.t 12,.t 13] 11 true,oP 15 .pick [.t 11,.t 14,cBo false],oMv 4 15]
def c45:ACode:=.seq (rT c45r0 [2,3]) (.seq (rT c45r1 [4]) .ret)
def g45:AFn:=⟨2,[(4,none)],c45,false,[],[],none⟩
theorem tr45:trFn Tryz.prog false 45 Tryz.f45=some g45:=by kernel_rfl
def c46r0:LO:=[oBx 1 0,oP 2 aZ []]
def c46r1:LO:=[oLf 4 1,oCl 5 43 [.t 4],oUn 6 .not 5]
def c46r2:LO:=[oP 7 (bZ []) [],oSf 2 7]
def c46k3:ACode:=kRt 6 c46r2 [2]
def c46r4:LO:=[oP 8 (.mkmap none) [],oP 3 (.alloc none (.pv none .nilmap)) [],oSo 3 8]
def c46r5:LO:=[oLf 9 1,oUn 10 (.mkfunc (.func 93) 0) 3,oCl 11 92 [.t 9,.t 10],oSf 2 11]
def c46:ACode:=.seq (rT c46r0 [1,2]) (.seq (.seq (rT c46r1 [1,2,6]) c46k3) (.seq (rT c46r4 [1,2,3]) (.seq (rT c46r5 [2]) .ret)))
def g46:AFn:=⟨1,[(2,some (some 4))],c46,false,[],[],none⟩
theorem tr46:trFn Tryz.prog false 46 Tryz.f46=some g46:=by kernel_rfl
def c47r0:LO:=[oBx 1 0,oP 2 .mv [cBo false]]
def c47r1:LO:=[oFa 3 0 1,oLo 4 3,oBc 5 .eql 4 3,oMv 2 5]
def c47:ACode:=.seq (rT c47r0 [1]) (.seq (rT c47r1 [2]) .ret)
def g47:AFn:=⟨1,[(2,none)],c47,false,[],[],none⟩
theorem tr47:trFn Tryz.prog false 47 Tryz.f47=some g47:=by kernel_rfl
def c48r0:LO:=[oMv 3 6]
def c48r1:LO:=[oMv 7 3,oUn 8 (.isnil true) 7]
def c48r2:LO:=[oMv 10 3,oP 11 (.assert 74 (some 4) (.agg [((some 4),(.agg [(none,(.pv none (.int .i64 0))),(none,(.pv none (.int .i64 0))),(none,(.pv none (.str []))),(none,(.tsl (some 4) []))]))]) true) [.t 10],oMv 9 11,
 oEx 12 0 9,oEx 13 1 9,oP 4 (.alloc (some 4) (.agg [((some 4),(.agg [(none,(.pv none (.int .i64 0))),(none,(.pv none (.int .i64 0))),(none,(.pv none (.str []))),(none,(.tsl (some 4) []))]))])) [],oSf 4 12,oMv 5 13]
def c48r3:LO:=[oMv 14 5,oUn 15 .not 14]
def c48r4:LO:=[oMv 16 3,⟨none,.panic,[.t 16],none⟩]
def c48k5:ACode:=.cond (.t 15) (rT c48r4 [0,1,2,4]) .skip
def c48r6:LO:=[oFa 17 0 4,oLf 18 17,⟨none,(.storen none),[.t 0,.c (.tsl (some 4) []),.t 17],none⟩,oSf 1 18,⟨none,(.store none),[.t 2,cIn 8],none⟩]
def c48k7:ACode:=.cond (.t 8) (.seq (rT c48r2 [0,1,2,3,4,5]) (.seq (.seq (rT c48r3 [0,1,2,3,4,15]) c48k5) (rT c48r6 []))) .skip
def c48:ACode:=.seq (rT c48r0 [0,1,2,3]) (.seq (rT c48r1 [0,1,2,3,8]) (.seq c48k7 .skip))
def g48:AFn:=⟨3,[],c48,true,[],[],some 6⟩
theorem tr48:trFn Tryz.prog true 48 Tryz.f48=some g48:=by kernel_rfl
def c49r0:LO:=[oBx 1 0,oP 2 (.nilsl none) []]
def c49r1:LO:=[oLf 5 1,oCl 6 43 [.t 5],oUn 7 .not 6]
def c49r2:LO:=[oP 2 (.nilsl none) []]
def c49k3:ACode:=kRt 7 c49r2 [2]
def c49r4:LO:=[oP 3 (.alloc none (.tsl none [])) []]
def c49r5:LO:=[oP 8 (.mkmap none) [],oP 4 (.alloc none (.pv none .nilmap)) [],oSo 4 8]
def c49r6:LO:=[oLf 9 1,oP 10 (.mkfunc (.func 94) 0) [.t 4,.t 3],oCl 11 92 [.t 9,.t 10]]
def c49r7:LO:=[oLo 12 3,oMv 2 12]
def c49:ACode:=.seq (rT c49r0 [1]) (.seq (.seq (rT c49r1 [1,7]) c49k3) (.seq (rT c49r4 [1,3]) (.seq (rT c49r5 [1,3,4]) (.seq (rT c49r6 [3]) (.seq (rT c49r7 [2]) .ret)))))
def g49:AFn:=⟨1,[(2,none)],c49,false,[],[],none⟩
theorem tr49:trFn Tryz.prog false 49 Tryz.f49=some g49:=by kernel_rfl
def c50r0:LO:=[oP 2 (.nilsl (some 4)) [],oP 3 .mv [cIn 0]]
def c50r1:LO:=[oMv 11 0,oUn 12 .nilcheck 11,oFa 13 0 12,oFa 14 3 13,oLo 15 14,oCl 16 95 [.t 15],oP 17 (bZ []) [],oP 18 (bZ []) [],oP 19 (.bslice (some 4)) [.t 17,.t 18],oP 20 (.append (some 4)) [.t 16,.t 19],oMv 4 20]
def c50r2:LO:=[oP 22 .callg [cFn 39],oMv 23 0,oUn 24 .nilcheck 23,oFa 25 0 24,oFa 26 2 25,oLo 27 26,oP 28 (.lookup true none (.pv none .nilfunc) true) [.t 22,.t 27],oMv 21 28,oEx 29 0 21,oEx 30 1 21,oMv 5 29,oMv 6 30]
def c50r3:LO:=[oMv 31 6]
def c50r4:LO:=[oMv 32 0,oMv 33 5,oMv 34 4,oP 35 (.iaddr (some 4)) [.t 34,cIn 0],oLf 36 35,oP 37 .call [.t 33,.t 36],oCl 38 96 [.t 32,.t 37],oMv 2 38,oP 3 .mv [cIn 0]]
def c50k5:ACode:=kRt 31 c50r4 [2,3]
def c50r6:LO:=[oP 40 .callg [cFn 40],oMv 41 0,oUn 42 .nilcheck 41,oFa 43 0 42,oFa 44 2 43,oLo 45 44,oP 46 (.lookup true none (.pv none .nilfunc) true) [.t 40,.t 45],oMv 39 46,oEx 47 0 39,oEx 48 1 39,oMv 7 47,oMv 8 48]
def c50r7:LO:=[oMv 49 8]
def c50r8:LO:=[oMv 50 0,oMv 51 7,oMv 52 4,oP 53 (.iaddr (some 4)) [.t 52,cIn 0],oLf 54 53,oMv 55 4,oP 56 (.iaddr (some 4)) [.t 55,cIn 1],oLf 57 56,oCl 58 15 [.t 54,.t 57],oP 59 .call [.t 51,.t 58],oCl 60 96 [.t 50,.t 59],
 oMv 2 60,oP 3 .mv [cIn 0]]
def c50k9:ACode:=.cond (.t 49) (.seq (.region false c50r8 [2,3]) .ret) .skip
def c50r10:LO:=[oMv 61 0,oUn 62 .nilcheck 61,oFa 63 0 62,oFa 64 2 63,oLo 65 64]
def c50r11:LO:=[oP 67 (.bin .eql) [.t 65,cSt [99,111,109,112,97,114,101]],oMv 66 67]
def c50r12:LO:=[oMv 68 0,oMv 69 4,oP 70 (.iaddr (some 4)) [.t 69,cIn 0],oLf 71 70,oMv 72 4,oP 73 (.iaddr (some 4)) [.t 72,cIn 1],oLf 74 73,oMv 75 4,oP 76 (.iaddr (some 4)) [.t 75,cIn 2],oLf 77 76,oCl 78 97 [.t 68,.t 71,.t 74,.t 77],
 oMv 2 78,oP 3 .mv [cIn 0]]
def c50r13:LO:=[oP 80 (.bin .eql) [.t 65,cSt [92,61]],oMv 79 80]
def c50r14:LO:=[oMv 82 4,oP 83 (.iaddr (some 4)) [.t 82,cIn 0],oLf 84 83,oMv 85 4,oP 86 (.iaddr (some 4)) [.t 85,cIn 1],oLf 87 86,oCl 88 21 [.c (.tsl (some 5) []),.t 84,.t 87],oMv 81 88,oEx 89 0 81,oEx 90 1 81,oMv 9 89,
 oMv 10 90]
def c50r15:LO:=[oMv 91 10,oBc 92 .neq 91 0,oMv 93 92,oG 94 .mv [.t 10] 93 true,oG 95 (.bin .neq) [.t 94,cIn 4] 93 true,oP 96 .pick [.t 93,.t 95,cBo false]]
def c50r16:LO:=[oMv 97 10,oP 2 (.nilsl (some 4)) [],oMv 3 97]
def c50k17:ACode:=kRt 96 c50r16 [2,3]
def c50r18:LO:=[oMv 98 0,oMv 99 10,oBc 100 .eql 99 4,oCl 101 96 [.t 98,.t 100],oMv 2 101,oP 3 .mv [cIn 0]]
def c50r19:LO:=[oP 103 (.bin .eql) [.t 65,cSt [102,117,110,99,116,111,114]],oMv 102 103]
def c50r20:LO:=[oMv 104 0,oMv 105 4,oP 106 (.iaddr (some 4)) [.t 105,cIn 0],oLf 107 106,oMv 108 4,oP 109 (.iaddr (some 4)) [.t 108,cIn 1],oLf 110 109,oMv 111 4,oP 112 (.iaddr (some 4)) [.t 111,cIn 2],oLf 113 112,oCl 114 98 [.t 104,.t 107,.t 110,.t 113],
 oMv 2 114,oP 3 .mv [cIn 0]]
def c50r21:LO:=[oP 116 (.bin .eql) [.t 65,cSt [97,114,103]],oMv 115 116]
def c50r22:LO:=[oMv 117 0,oMv 118 4,oP 119 (.iaddr (some 4)) [.t 118,cIn 0],oLf 120 119,oMv 121 4,oP 122 (.iaddr (some 4)) [.t 121,cIn 1],oLf 123 122,oCl 124 99 [.t 117,.t 120,.t 123],oMv 2 124,oP 3 .mv [cIn 0]]
def c50r23:LO:=[oP 126 (.bin .eql) [.t 65,cSt [61,46,46]],oMv 125 126]
def c50r24:LO:=[oMv 127 0,oMv 128 4,oP 129 (.iaddr (some 4)) [.t 128,cIn 0],oLf 130 129,oMv 131 4,oP 132 (.iaddr (some 4)) [.t 131,cIn 1],oLf 133 132,oCl 134 100 [.t 127,.t 130,.t 133],oMv 2 134,oP 3 .mv [cIn 0]]
def c50r25:LO:=[oP 136 (.bin .eql) [.t 65,cSt [99,111,112,121,95,116,101,114,109]],oMv 135 136]
def c50r26:LO:=[oMv 137 0,oMv 138 0,oMv 139 4,oP 140 (.iaddr (some 4)) [.t 139,cIn 0],oLf 141 140,oP 142 (.mkmap (some 4)) [],oCl 143 102 [.t 138,.t 141,.t 142],oCl 144 101 [.t 137,cIn 1,.t 143],oMv 2 144,oP 3 .mv [cIn 0]]
def c50r27:LO:=[oP 146 (.bin .eql) [.t 65,cSt [116,101,114,109,95,118,97,114,105,97,98,108,101,115]],oMv 145 146]
def c50r28:LO:=[oMv 147 0,oMv 148 4,oP 149 (.iaddr (some 4)) [.t 148,cIn 0],oLf 150 149,oMv 151 4,oP 152 (.iaddr (some 4)) [.t 151,cIn 1],oLf 153 152,oCl 154 103 [.t 147,.t 150,.t 153],oMv 2 154,oP 3 .mv [cIn 0]]
def c50r29:LO:=[oP 156 (.bin .eql) [.t 65,cSt [108,101,110,103,116,104]],oMv 155 156]
def c50r30:LO:=[oMv 157 0,oMv 158 4,oP 159 (.iaddr (some 4)) [.t 158,cIn 0],oLf 160 159,oMv 161 4,oP 162 (.iaddr (some 4)) [.t 161,cIn 1],oLf 163 162,oCl 164 104 [.t 157,.t 160,.t 163],oEx 165 0 164,oEx 166 1 164,oMv 2 165,
 oMv 3 166]
def c50r31:LO:=[oP 168 (.bin .eql) [.t 65,cSt [98,101,116,119,101,101,110]],oMv 167 168]
def c50r32:LO:=[oMv 169 0,oMv 170 4,oP 171 (.iaddr (some 4)) [.t 170,cIn 0],oLf 172 171,oMv 173 4,oP 174 (.iaddr (some 4)) [.t 173,cIn 1],oLf 175 174,oMv 176 4,oP 177 (.iaddr (some 4)) [.t 176,cIn 2],oLf 178 177,oCl 179 105 [.t 169,.t 172,.t 175,.t 178],
 oEx 180 0 179,oEx 181 1 179,oMv 2 180,oMv 3 181]
def c50k33:ACode:=kRt 167 c50r32 [2,3]
def c50k34:ACode:=.cond (.t 155) (.seq (rT c50r30 [2,3]) .ret) (.seq (rT c50r31 [0,4,167]) c50k33)
def c50k35:ACode:=.cond (.t 145) (.seq (rT c50r28 [2,3]) .ret) (.seq (rT c50r29 [0,4,65,155]) c50k34)
def c50k36:ACode:=.cond (.t 135) (.seq (rT c50r26 [2,3]) .ret) (.seq (rT c50r27 [0,4,65,145]) c50k35)
def c50k37:ACode:=.cond (.t 125) (.seq (rT c50r24 [2,3]) .ret) (.seq (rT c50r25 [0,4,65,135]) c50k36)
def c50k38:ACode:=.cond (.t 115) (.seq (rT c50r22 [2,3]) .ret) (.seq (rT c50r23 [0,4,65,125]) c50k37)
def c50k39:ACode:=.cond (.t 102) (.seq (rT c50r20 [2,3]) .ret) (.seq (rT c50r21 [0,4,65,115]) c50k38)
def c50k40:ACode:=.cond (.t 79) (.seq (rT c50r14 [0,10]) (.seq (.seq (rT c50r15 [0,10,96]) c50k17) (.seq (rT c50r18 [2,3]) .ret))) (.seq (rT c50r19 [0,4,65,102]) c50k39)
def c50k41:ACode:=.cond (.t 66) (.seq (rT c50r12 [2,3]) .ret) (.seq (rT c50r13 [0,4,65,79]) c50k40)
def c50k42:ACode:=.block 0 (.seq (rT c50r11 [0,4,65,66]) c50k41)
def c50r43:LO:=[oMv 182 0,oMv 183 4,oP 184 (.iaddr (some 4)) [.t 183,cIn 0],oLf 185 184,oMv 186 4,oP 187 (.iaddr (some 4)) [.t 186,cIn 1],oLf 188 187,oCl 189 106 [.t 182,.t 185,.t 188],oMv 2 189,oP 3 .mv [cIn 0]]
def c50:ACode:=.seq (rT c50r0 [0]) (.seq (rT c50r1 [0,4]) (.seq (.seq (rT c50r2 [0,4,5,6]) (.seq (rT c50r3 [0,4,5,31]) c50k5)) (.seq (.seq (rT c50r6 [0,4,7,8]) (.seq (rT c50r7 [0,4,7,49]) c50k9)) (.seq (.seq (rT c50r10 [0,4,65]) c50k42) (.seq (rT c50r43 [2,3]) .ret)))))
def g50:AFn:=⟨1,[(2,none),(3,none)],c50,true,[],[],none⟩
theorem tr50:trFn Tryz.prog true 50 Tryz.f50=some g50:=by kernel_rfl
def c51r0:LO:=[oBx 1 0,oP 2 aZ []]
def c51r1:LO:=[oLf 3 1,oCl 4 43 [.t 3],oUn 5 .not 4]
def c51r2:LO:=[oP 6 (bZ []) [],oSf 2 6]
def c51k3:ACode:=kRt 5 c51r2 [2]
def c51r4:LO:=[oLf 7 1,oCl 8 92 [.t 7,cFn 107],oSf 2 8]
def c51:ACode:=.seq (rT c51r0 [1,2]) (.seq (.seq (rT c51r1 [1,2,5]) c51k3) (.seq (rT c51r4 [2]) .ret))
def g51:AFn:=⟨1,[(2,some (some 4))],c51,false,[],[],none⟩
theorem tr51:trFn Tryz.prog false 51 Tryz.f51=some g51:=by kernel_rfl
def c52r0:LO:=[oP 2 .mv [cBo false]]
def c52r1:LO:=[oMv 8 0,oUn 9 .len 8,oP 10 .mv [cIn 0]]
def c52r2:LO:=[oBi 11 .lss 10 9]
def c52k3:ACode:=kEx 11 0
def c52r4:LO:=[oMv 12 10,oP 13 (.iaddr (some 5)) [.t 8,.t 10],oUn 14 (.load (some 5)) 13,oP 4 (.alloc (some 5) (.agg [(none,(.pv none (.int .i64 0))),((some 4),(.agg [(none,(.pv none (.int .i64 0))),(none,(.pv none (.int .i64 0))),(none,(.pv none (.str []))),(none,(.tsl (some 4) []))]))])) [],
 oMv 3 12,⟨none,(.store (some 5)),[.t 4,.t 14],none⟩]
def c52r5:LO:=[oFa 15 0 4,oLo 16 15,oBc 17 .lss 16 0,oMv 18 17,oG 19 (.faddr 0) [.t 4] 18 false,oG 20 (.load none) [.t 19] 18 false,oG 21 (.bin .gtr) [.t 20,cIn 1099511627776] 18 false,oP 22 .pick [.t 18,cBo true,.t 21],
 oMv 23 22,oG 24 .mv [.t 3] 23 false,oG 25 (.bin .gtr) [.t 24,cIn 0] 23 false,oG 26 .mv [.t 25] 23 false,oG 27 .mv [.t 0] 26 true,oG 28 .mv [.t 3] 26 true,oG 29 (.bin .sub) [.t 28,cIn 1] 26 true,oG 30 (.iaddr (some 5)) [.t 27,.t 29] 26 true,
 oG 31 (.faddr 0) [.t 30] 26 true,oG 32 (.load none) [.t 31] 26 true,oG 33 (.faddr 0) [.t 4] 26 true,oG 34 (.load none) [.t 33] 26 true,oG 35 (.bin .geq) [.t 32,.t 34] 26 true,oG 36 .pick [.t 26,.t 35,cBo false] 23 false,
 oP 37 .pick [.t 23,cBo true,.t 36],oMv 38 37,oG 39 (.faddr 1) [.t 4] 38 false,oG 40 (.load (some 4)) [.t 39] 38 false,oG 41 .call [cFn 43,.t 40] 38 false,oG 42 .not [.t 41] 38 false,oP 43 .pick [.t 38,cBo true,.t 42]]
def c52r6:LO:=[oP 2 .mv [cBo false]]
def c52k7:ACode:=kRt 43 c52r6 [2]
def c52k8:ACode:=.block 1 (.seq (rT c52r4 [0,3,4,8,9,10]) (.seq (rT c52r5 [0,8,9,10,43]) c52k7))
def c52r9:LO:=[oBc 44 .add 10 1,oMv 10 44]
def c52b10:ACode:=.seq (rT c52r2 [0,8,9,10,11]) (.seq c52k3 (.seq c52k8 (rT c52r9 [0,8,9,10])))
def c52k11:ACode:=.block 0 (.loop [0,8,9,10] c52b10)
def c52r12:LO:=[oP 45 (.mkmap none) [],oMv 5 45]
def c52r13:LO:=[oMv 46 0,oUn 47 .len 46,oP 48 .mv [cIn 0]]
def c52r14:LO:=[oBi 49 .lss 48 47]
def c52k15:ACode:=kEx 49 2
def c52r16:LO:=[oP 50 (.iaddr (some 5)) [.t 46,.t 48],oUn 51 (.load (some 5)) 50,oP 7 (.alloc (some 5) (.agg [(none,(.pv none (.int .i64 0))),((some 4),(.agg [(none,(.pv none (.int .i64 0))),(none,(.pv none (.int .i64 0))),(none,(.pv none (.str []))),(none,(.tsl (some 4) []))]))])) [],
 ⟨none,(.store (some 5)),[.t 7,.t 51],none⟩]
def c52r17:LO:=[oMv 52 0,oFa 53 0 7,oLo 54 53,oMv 55 5,oCl 56 108 [.t 52,.t 54,.t 55]]
def c52r18:LO:=[oP 2 .mv [cBo false]]
def c52k19:ACode:=kRt 56 c52r18 [2]
def c52k20:ACode:=.block 3 (.seq (rT c52r16 [0,5,7,46,47,48]) (.seq (rT c52r17 [0,5,46,47,48,56]) c52k19))
def c52r21:LO:=[oBc 57 .add 48 1,oMv 48 57]
def c52b22:ACode:=.seq (rT c52r14 [0,5,46,47,48,49]) (.seq c52k15 (.seq c52k20 (rT c52r21 [0,5,46,47,48])))
def c52k23:ACode:=.block 2 (.loop [0,5,46,47,48] c52b22)
def c52r24:LO:=[oP 2 .mv [cBo true]]
def c52:ACode:=.seq (rT c52r0 [0]) (.seq (.seq (rT c52r1 [0,8,9,10]) c52k11) (.seq (rT c52r12 [0,5]) (.seq (.seq (rT c52r13 [0,5,46,47,48]) c52k23) (.seq (rT c52r24 [2]) .ret))))
def g52:AFn:=⟨1,[(2,none)],c52,false,[],[],none⟩
theorem tr52:trFn Tryz.prog false 52 Tryz.f52=some g52:=by kernel_rfl
def c53r0:LO:=[oMv 2 5]
def c53r1:LO:=[oMv 7 2,oP 8 (.assert 82 (some 1) (.pv (some 1) (.agg [(none,(.int .i64 0))])) true) [.t 7],oMv 6 8,oEx 9 0 6,oEx 10 1 6,oP 3 (.alloc (some 1) (.pv (some 1) (.agg [(none,(.int .i64 0))]))) [],⟨none,(.store (some 1)),[.t 3,.t 9],none⟩,
 oMv 4 10]
def c53r2:LO:=[oMv 11 4]
def c53r3:LO:=[oFa 12 0 3,oLo 13 12,⟨none,(.storen none),[.t 0,.c (.tsl (some 5) []),.t 12],none⟩,oSo 1 13]
def c53r4:LO:=[oMv 14 2,oUn 15 (.isnil true) 14]
def c53r5:LO:=[oMv 16 2,⟨none,.panic,[.t 16],none⟩]
def c53k6:ACode:=.cond (.t 15) (rT c53r5 []) .skip
def c53k7:ACode:=.cond (.t 11) (rT c53r3 []) (.seq (rT c53r4 [2,15]) c53k6)
def c53:ACode:=.seq (rT c53r0 [0,1,2]) (.seq (rT c53r1 [0,1,2,3,4]) (.seq (rT c53r2 [0,1,2,3,11]) (.seq c53k7 .skip)))
def g53:AFn:=⟨2,[],c53,true,[],[],some 5⟩
theorem tr53:trFn Tryz.prog true 53 Tryz.f53=some g53:=by kernel_rfl
def c54r0:LO:=[oP 2 (.nilsl (some 5)) []]
def c54r1:LO:=[oP 3 (.nilsl (some 5)) []]
def c54r2:LO:=[oMv 6 0,oUn 7 .len 6,oP 8 .mv [cIn 0]]
def c54r3:LO:=[oBi 9 .lss 8 7]
def c54k4:ACode:=kEx 9 0
def c54r5:LO:=[oP 10 (.iaddr (some 5)) [.t 6,.t 8],oUn 11 (.load (some 5)) 10,oP 5 (.alloc (some 5) (.agg [(none,(.pv none (.int .i64 0))),((some 4),(.agg [(none,(.pv none (.int .i64 0))),(none,(.pv none (.int .i64 0))),(none,(.pv none (.str []))),(none,(.tsl (some 4) []))]))])) [],
 ⟨none,(.store (some 5)),[.t 5,.t 11],none⟩]
def c54r6:LO:=[oMv 12 3,oFa 13 0 5,oLo 14 13,oFa 15 1 5,oLf 16 15,oP 17 .callh [cFn 51,.t 16],oP 18 (.build [(none,(.pv none (.int .i64 0))),((some 4),(.agg [(none,(.pv none (.int .i64 0))),(none,(.pv none (.int .i64 0))),(none,(.pv none (.str []))),(none,(.tsl (some 4) []))]))] [0,1]) [.t 14,.t 17],
 oUn 19 (.bslice (some 5)) 18,oP 20 (.append (some 5)) [.t 12,.t 19],oMv 3 20]
def c54k7:ACode:=.block 1 (.seq (rT c54r5 [3,5,6,7,8]) (rT c54r6 [3,6,7,8]))
def c54r8:LO:=[oBc 21 .add 8 1,oMv 8 21]
def c54b9:ACode:=.seq (rT c54r3 [3,6,7,8,9]) (.seq c54k4 (.seq c54k7 (rT c54r8 [3,6,7,8])))
def c54k10:ACode:=.block 0 (.loop [3,6,7,8] c54b9)
def c54r11:LO:=[oMv 22 3,oMv 2 22]
def c54:ACode:=.seq (rT c54r0 [0]) (.seq (rT c54r1 [0,3]) (.seq (.seq (rT c54r2 [3,6,7,8]) c54k10) (.seq (rT c54r11 [2]) .ret)))
def g54:AFn:=⟨1,[(2,none)],c54,true,[],[],none⟩
theorem tr54:trFn Tryz.prog true 54 Tryz.f54=some g54:=by kernel_rfl
def c55r0:LO:=[oBx 4 1,oBx 5 2]
def c55r1:LO:=[oLf 12 4,oLf 13 5,oP 14 (.build [((some 4),(.agg [(none,(.pv none (.int .i64 0))),(none,(.pv none (.int .i64 0))),(none,(.pv none (.str []))),(none,(.tsl (some 4) []))])),((some 4),(.agg [(none,(.pv none (.int .i64 0))),(none,(.pv none (.int .i64 0))),(none,(.pv none (.str []))),(none,(.tsl (some 4) []))]))] [0,1]) [.t 12,.t 13],
 oUn 15 (.bslo (some 8)) 14,oMv 6 15]
def c55r2:LO:=[oP 7 .mv [cIn 0]]
def c55r3:LO:=[oMv 16 6,oUn 17 .len 16,oBc 18 .gtr 17 0]
def c55k4:ACode:=kEx 18 0
def c55r5:LO:=[oMv 21 7,oBc 22 .eql 21 1048576]
def c55r6:LO:=[oP 23 (.build [(none,(.pv none (.int .i64 0)))] [0]) [cIn 2],oUn 24 (.mkiface 82) 23,⟨none,.panic,[.t 24],none⟩]
def c55k7:ACode:=.cond (.t 22) (rT c55r6 [0,6,7]) .skip
def c55r8:LO:=[oMv 25 6,oMv 26 6,oUn 27 .len 26,oBc 28 .sub 27 1,oP 29 (.iaddr (some 8)) [.t 25,.t 28],oUn 30 (.load (some 8)) 29,oP 8 (.alloc (some 8) (.agg [((some 4),(.agg [(none,(.pv none (.int .i64 0))),(none,(.pv none (.int .i64 0))),(none,(.pv none (.str []))),(none,(.tsl (some 4) []))])),((some 4),(.agg [(none,(.pv none (.int .i64 0))),(none,(.pv none (.int .i64 0))),(none,(.pv none (.str []))),(none,(.tsl (some 4) []))]))])) [],
 ⟨none,(.store (some 8)),[.t 8,.t 30],none⟩]
def c55r9:LO:=[oMv 31 6,oMv 32 6,oUn 33 .len 32,oBc 34 .sub 33 1,oP 35 (.slice (some 8) false true) [.t 31,.t 34],oMv 6 35]
def c55r10:LO:=[oMv 36 0,oUn 37 .nilcheck 36,oFa 38 0 37,oLo 39 38,oP 40 (.iaddrA (some 4) 2) [.t 8,cIn 0],oLf 41 40,oP 42 .callg [cFn 109,.t 39,.t 41],oMv 43 0,oUn 44 .nilcheck 43,oFa 45 0 44,oLo 46 45,oP 47 (.iaddrA (some 4) 2) [.t 8,cIn 1],
 oLf 48 47,oCl 49 109 [.t 46,.t 48],oP 9 aZ [],oP 10 aZ [],oSf 9 42,oSf 10 49]
def c55r11:LO:=[oMv 50 0,oLf 51 9,oLf 52 10,oCl 53 110 [.t 50,.t 51,.t 52]]
def c55r12:LO:=[oFa 54 3 9,oLo 55 54,oUn 56 .len 55,oBc 57 .sub 56 1,oMv 11 57]
def c55r13:LO:=[oMv 58 11,oBc 59 .geq 58 0]
def c55k14:ACode:=kEx 59 2
def c55r15:LO:=[oMv 62 6,oFa 63 3 9,oLo 64 63,oMv 65 11,oIa 66 64 65,oLf 67 66,oFa 68 3 10,oLo 69 68,oMv 70 11,oIa 71 69 70,oLf 72 71,oP 73 (.build [((some 4),(.agg [(none,(.pv none (.int .i64 0))),(none,(.pv none (.int .i64 0))),(none,(.pv none (.str []))),(none,(.tsl (some 4) []))])),((some 4),(.agg [(none,(.pv none (.int .i64 0))),(none,(.pv none (.int .i64 0))),(none,(.pv none (.str []))),(none,(.tsl (some 4) []))]))] [0,1]) [.t 67,.t 72],
 oUn 74 (.bslice (some 8)) 73,oP 75 (.append (some 8)) [.t 62,.t 74],oMv 6 75]
def c55k16:ACode:=.block 3 (rT c55r15 [0,6,7,9,10,11])
def c55r17:LO:=[oMv 60 11,oBc 61 .sub 60 1,oMv 11 61]
def c55b18:ACode:=.seq (.seq (rT c55r13 [0,6,7,9,10,11,59]) c55k14) (.seq c55k16 (rT c55r17 [0,6,7,9,10,11]))
def c55k19:ACode:=.block 2 (.loop [0,6,7,9,10,11] c55b18)
def c55k20:ACode:=.cond (.t 53) (.seq (rT c55r12 [0,6,7,9,10,11]) c55k19) .skip
def c55k21:ACode:=.block 1 (.seq (.seq (rT c55r5 [0,6,7,22]) c55k7) (.seq (rT c55r8 [0,6,7,8]) (.seq (rT c55r9 [0,6,7,8]) (.seq (.region false c55r10 [0,6,7,9,10]) (.seq (rT c55r11 [0,6,7,9,10,53]) c55k20)))))
def c55r22:LO:=[oMv 19 7,oBc 20 .add 19 1,oMv 7 20]
def c55b23:ACode:=.seq (.seq (rT c55r3 [0,6,7,18]) c55k4) (.seq c55k21 (rT c55r22 [0,6,7]))
def c55k24:ACode:=.block 0 (.loop [0,6,7] c55b23)
def c55:ACode:=.seq (rT c55r0 [0,4,5]) (.seq (rT c55r1 [0,6]) (.seq (rT c55r2 [0,6,7]) c55k24))
def g55:AFn:=⟨3,[],c55,true,[],[],none⟩
theorem tr55:trFn Tryz.prog true 55 Tryz.f55=some g55:=by kernel_rfl
def c56r0:LO:=[oBx 2 0,oBx 3 1,oP 4 .mv [cBo false]]
def c56r1:LO:=[oLf 5 2,oCl 6 23 [.t 5],oMv 7 6,oG 8 (.load (some 4)) [.t 3] 7 true,oG 9 .call [cFn 23,.t 8] 7 true,oP 10 .pick [.t 7,.t 9,cBo false],oMv 11 10,oG 12 (.load (some 4)) [.t 2] 11 true,oG 13 (.load (some 4)) [.t 3] 11 true,
 oG 14 .call [cFn 61,.t 12,.t 13] 11 true,oP 15 .pick [.t 11,.t 14,cBo false],oMv 4 15]
def c56:ACode:=.seq (rT c56r0 [2,3]) (.seq (rT c56r1 [4]) .ret)
def g56:AFn:=⟨2,[(4,none)],c56,false,[],[],none⟩
theorem tr56:trFn Tryz.prog false 56 Tryz.f56=some g56:=by kernel_rfl
def c57r0:LO:=[oBx 1 0,oP 2 .mv [cBo false]]
def c57r1:LO:=[oLf 4 1,oCl 5 111 [.t 4],oUn 6 .not 5]
def c57r2:LO:=[oP 2 .mv [cBo false]]
def c57k3:ACode:=kRt 6 c57r2 [2]
def c57r4:LO:=[oP 3 .mv [cIn 0]]
def c57r5:LO:=[oMv 7 3,oFa 8 3 1,oLo 9 8,oUn 10 .len 9,oBi 11 .lss 7 10]
def c57k6:ACode:=kEx 11 0
def c57r7:LO:=[oFa 14 3 1,oLo 15 14,oMv 16 3,oIa 17 15 16,oLf 18 17,oCl 19 57 [.t 18],oUn 20 .not 19]
def c57r8:LO:=[oP 2 .mv [cBo false]]
def c57k9:ACode:=kRt 20 c57r8 [2]
def c57k10:ACode:=.block 1 (.seq (rT c57r7 [1,3,20]) c57k9)
def c57r11:LO:=[oMv 12 3,oBc 13 .add 12 1,oMv 3 13]
def c57b12:ACode:=.seq (.seq (rT c57r5 [1,3,11]) c57k6) (.seq c57k10 (rT c57r11 [1,3]))
def c57k13:ACode:=.block 0 (.loop [1,3] c57b12)
def c57r14:LO:=[oP 2 .mv [cBo true]]
def c57:ACode:=.seq (rT c57r0 [1]) (.seq (.seq (rT c57r1 [1,6]) c57k3) (.seq (.seq (rT c57r4 [1,3]) c57k13) (.seq (rT c57r14 [2]) .ret)))
def g57:AFn:=⟨1,[(2,none)],c57,false,[],[],none⟩
theorem tr57:trFn Tryz.prog false 57 Tryz.f57=some g57:=by kernel_rfl
def c58r0:LO:=[oBx 2 0,oP 4 .mv [cIn 0]]
def c58r1:LO:=[oP 5 .mv [cIn 1]]
def c58r2:LO:=[oP 6 .mv [cIn 0]]
def c58r3:LO:=[oMv 7 6,oFa 8 3 2,oLo 9 8,oUn 10 .len 9,oBi 11 .lss 7 10,oMv 12 11,oG 13 .mv [.t 5] 12 true,oG 14 .mv [.t 1] 12 true,oG 15 (.bin .lss) [.t 13,.t 14] 12 true,oP 16 .pick [.t 12,.t 15,cBo false]]
def c58k4:ACode:=kEx 16 0
def c58r5:LO:=[oMv 19 5,oFa 20 3 2,oLo 21 20,oMv 22 6,oIa 23 21 22,oLf 24 23,oMv 25 1,oMv 26 5,oBi 27 .sub 25 26,oCl 28 58 [.t 24,.t 27],oBi 29 .add 19 28,oMv 5 29]
def c58k6:ACode:=.block 1 (rT c58r5 [1,2,5,6])
def c58r7:LO:=[oMv 17 6,oBc 18 .add 17 1,oMv 6 18]
def c58b8:ACode:=.seq (.seq (rT c58r3 [1,2,5,6,16]) c58k4) (.seq c58k6 (rT c58r7 [1,2,5,6]))
def c58k9:ACode:=.block 0 (.loop [1,2,5,6] c58b8)
def c58r10:LO:=[oMv 30 5,oMv 4 30]
def c58:ACode:=.seq (rT c58r0 [1,2]) (.seq (rT c58r1 [1,2,5]) (.seq (.seq (rT c58r2 [1,2,5,6]) c58k9) (.seq (rT c58r10 [4]) .ret)))
def g58:AFn:=⟨2,[(4,none)],c58,false,[],[],none⟩
theorem tr58:trFn Tryz.prog false 58 Tryz.f58=some g58:=by kernel_rfl
def c59r0:LO:=[oBx 3 1,oP 4 aZ []]
def c59r1:LO:=[oFa 7 0 3,oLo 8 7,oFa 9 1 3,oLo 10 9,oFa 11 2 3,oLo 12 11,oP 13 (bZ [0,1,2]) [.t 8,.t 10,.t 12],oP 5 aZ [],oSf 5 13]
def c59r2:LO:=[oFa 14 0 3,oLo 15 14,oBc 16 .eql 15 0]
def c59r3:LO:=[oMv 17 0,oFa 18 1 3,oLo 19 18,oCl 20 112 [.t 17,.t 19],oFa 21 1 5,oSo 21 20]
def c59k4:ACode:=.cond (.t 16) (rT c59r3 [0,3,4,5]) .skip
def c59r5:LO:=[oP 6 .mv [cIn 0]]
def c59r6:LO:=[oMv 22 6,oFa 23 3 3,oLo 24 23,oUn 25 .len 24,oBi 26 .lss 22 25]
def c59k7:ACode:=kEx 26 0
def c59r8:LO:=[oFa 29 3 5,oLo 30 29,oMv 31 0,oFa 32 3 3,oLo 33 32,oMv 34 6,oIa 35 33 34,oLf 36 35,oP 37 .callp [cFn 59,.t 31,.t 36],oUn 38 (.bslicep (some 4)) 37,oP 39 (.append (some 4)) [.t 30,.t 38],oFa 40 3 5,oSo 40 39]
def c59k9:ACode:=.block 1 (.seq (.settle [0]) (rT c59r8 [0,3,4,5,6]))
def c59r10:LO:=[oMv 27 6,oBc 28 .add 27 1,oMv 6 28]
def c59b11:ACode:=.seq (.seq (rT c59r6 [0,3,4,5,6,26]) c59k7) (.seq c59k9 (rT c59r10 [0,3,4,5,6]))
def c59k12:ACode:=.block 0 (.loop [0,3,4,5,6] c59b11)
def c59r13:LO:=[oLf 41 5,oSf 4 41]
def c59:ACode:=.seq (rT c59r0 [0,3,4]) (.seq (rT c59r1 [0,3,4,5]) (.seq (.seq (rT c59r2 [0,3,4,5,16]) c59k4) (.seq (.seq (rT c59r5 [0,3,4,5,6]) c59k12) (.seq (rT c59r13 [4]) .ret))))
def g59:AFn:=⟨2,[(4,some (some 4))],c59,false,[],[],none⟩
theorem tr59:trFn Tryz.prog false 59 Tryz.f59=some g59:=by kernel_rfl
def c60r0:LO:=[oBx 3 1,oP 4 (.nilsl none) []]
def c60r1:LO:=[oFa 6 0 3,oLo 7 6,oBc 8 .eql 7 0,oMv 9 8,oG 10 .mv [.t 0] 9 true,oG 11 (.faddr 1) [.t 3] 9 true,oG 12 (.load none) [.t 11] 9 true,oG 13 .call [cFn 112,.t 10,.t 12] 9 true,oG 14 (.bin .lss) [.t 13,cIn 0] 9 true,
 oP 15 .pick [.t 9,.t 14,cBo false]]
def c60r2:LO:=[oMv 16 0,oFa 17 1 3,oLo 18 17,oUn 19 (.bslice none) 18,oP 20 (.append none) [.t 16,.t 19],oMv 0 20]
def c60k3:ACode:=.cond (.t 15) (rT c60r2 [0,3]) .skip
def c60r4:LO:=[oP 5 .mv [cIn 0]]
def c60r5:LO:=[oMv 21 5,oFa 22 3 3,oLo 23 22,oUn 24 .len 23,oBi 25 .lss 21 24]
def c60k6:ACode:=kEx 25 0
def c60r7:LO:=[oMv 28 0,oFa 29 3 3,oLo 30 29,oMv 31 5,oIa 32 30 31,oLf 33 32,oCl 34 60 [.t 28,.t 33],oMv 0 34]
def c60k8:ACode:=.block 1 (rT c60r7 [0,3,5])
def c60r9:LO:=[oMv 26 5,oBc 27 .add 26 1,oMv 5 27]
def c60b10:ACode:=.seq (.seq (rT c60r5 [0,3,5,25]) c60k6) (.seq c60k8 (rT c60r9 [0,3,5]))
def c60k11:ACode:=.block 0 (.loop [0,3,5] c60b10)
def c60r12:LO:=[oMv 35 0,oMv 4 35]
def c60:ACode:=.seq (rT c60r0 [0,3]) (.seq (.seq (rT c60r1 [0,3,15]) c60k3) (.seq (.seq (rT c60r4 [0,3,5]) c60k11) (.seq (rT c60r12 [4]) .ret)))
def g60:AFn:=⟨2,[(4,none)],c60,true,[],[],none⟩
theorem tr60:trFn Tryz.prog true 60 Tryz.f60=some g60:=by kernel_rfl
def c61r0:LO:=[oBx 2 0,oBx 3 1,oP 4 .mv [cBo false]]
def c61r1:LO:=[oFa 6 0 2,oLo 7 6,oFa 8 0 3,oLo 9 8,oBi 10 .neq 7 9,oMv 11 10,oG 12 (.faddr 1) [.t 2] 11 false,oG 13 (.load none) [.t 12] 11 false,oG 14 (.faddr 1) [.t 3] 11 false,oG 15 (.load none) [.t 14] 11 false,oG 16 (.bin .neq) [.t 13,.t 15] 11 false,
 oP 17 .pick [.t 11,cBo true,.t 16],oMv 18 17,oG 19 (.faddr 2) [.t 2] 18 false,oG 20 (.load none) [.t 19] 18 false,oG 21 (.faddr 2) [.t 3] 18 false,oG 22 (.load none) [.t 21] 18 false,oG 23 (.bin .neq) [.t 20,.t 22] 18 false,
 oP 24 .pick [.t 18,cBo true,.t 23],oMv 25 24,oG 26 (.faddr 3) [.t 2] 25 false,oG 27 (.load none) [.t 26] 25 false,oG 28 .len [.t 27] 25 false,oG 29 (.faddr 3) [.t 3] 25 false,oG 30 (.load none) [.t 29] 25 false,oG 31 .len [.t 30] 25 false,
 oG 32 (.bin .neq) [.t 28,.t 31] 25 false,oP 33 .pick [.t 25,cBo true,.t 32]]
def c61r2:LO:=[oP 4 .mv [cBo false]]
def c61k3:ACode:=kRt 33 c61r2 [4]
def c61r4:LO:=[oP 5 .mv [cIn 0]]
def c61r5:LO:=[oMv 34 5,oFa 35 3 2,oLo 36 35,oUn 37 .len 36,oBi 38 .lss 34 37]
def c61k6:ACode:=kEx 38 0
def c61r7:LO:=[oFa 41 3 2,oLo 42 41,oMv 43 5,oIa 44 42 43,oLf 45 44,oFa 46 3 3,oLo 47 46,oMv 48 5,oIa 49 47 48,oLf 50 49,oCl 51 61 [.t 45,.t 50],oUn 52 .not 51]
def c61r8:LO:=[oP 4 .mv [cBo false]]
def c61k9:ACode:=kRt 52 c61r8 [4]
def c61k10:ACode:=.block 1 (.seq (rT c61r7 [2,3,5,52]) c61k9)
def c61r11:LO:=[oMv 39 5,oBc 40 .add 39 1,oMv 5 40]
def c61b12:ACode:=.seq (.seq (rT c61r5 [2,3,5,38]) c61k6) (.seq c61k10 (rT c61r11 [2,3,5]))
def c61k13:ACode:=.block 0 (.loop [2,3,5] c61b12)
def c61r14:LO:=[oP 4 .mv [cBo true]]
def c61:ACode:=.seq (rT c61r0 [2,3]) (.seq (.seq (rT c61r1 [2,3,33]) c61k3) (.seq (.seq (rT c61r4 [2,3,5]) c61k13) (.seq (rT c61r14 [4]) .ret)))
def g61:AFn:=⟨2,[(4,none)],c61,false,[],[],none⟩
theorem tr61:trFn Tryz.prog false 61 Tryz.f61=some g61:=by kernel_rfl
def c62r0:LO:=[oBx 1 0,oP 2 .mv [cBo false]]
def c62r1:LO:=[oFa 3 0 1,oLo 4 3,oBc 5 .eql 4 3,oMv 6 5,oG 7 (.faddr 2) [.t 1] 6 true,oG 8 (.load none) [.t 7] 6 true,oG 9 (.bin .eql) [.t 8,cSt [46]] 6 true,oP 10 .pick [.t 6,.t 9,cBo false],oMv 11 10,oG 12 (.faddr 3) [.t 1] 11 true,
 oG 13 (.load none) [.t 12] 11 true,oG 14 .len [.t 13] 11 true,oG 15 (.bin .eql) [.t 14,cIn 2] 11 true,oP 16 .pick [.t 11,.t 15,cBo false],oMv 2 16]
def c62:ACode:=.seq (rT c62r0 [1]) (.seq (rT c62r1 [2]) .ret)
def g62:AFn:=⟨1,[(2,none)],c62,false,[],[],none⟩
theorem tr62:trFn Tryz.prog false 62 Tryz.f62=some g62:=by kernel_rfl
def c63r0:LO:=[oBx 1 0,oP 2 aZ []]
def c63r1:LO:=[oFa 5 0 1,oLo 6 5,oFa 7 1 1,oLo 8 7,oFa 9 2 1,oLo 10 9,oP 11 (bZ [0,1,2]) [.t 6,.t 8,.t 10],oP 3 aZ [],oSf 3 11]
def c63r2:LO:=[oP 4 .mv [cIn 0]]
def c63r3:LO:=[oMv 12 4,oFa 13 3 1,oLo 14 13,oUn 15 .len 14,oBi 16 .lss 12 15]
def c63k4:ACode:=kEx 16 0
def c63r5:LO:=[oFa 19 3 3,oLo 20 19,oFa 21 3 1,oLo 22 21,oMv 23 4,oIa 24 22 23,oLf 25 24,oP 26 .callp [cFn 63,.t 25],oUn 27 (.bslicep (some 4)) 26,oP 28 (.append (some 4)) [.t 20,.t 27],oFa 29 3 3,oSo 29 28]
def c63k6:ACode:=.block 1 (.seq (.settle []) (rT c63r5 [1,2,3,4]))
def c63r7:LO:=[oMv 17 4,oBc 18 .add 17 1,oMv 4 18]
def c63b8:ACode:=.seq (.seq (rT c63r3 [1,2,3,4,16]) c63k4) (.seq c63k6 (rT c63r7 [1,2,3,4]))
def c63k9:ACode:=.block 0 (.loop [1,2,3,4] c63b8)
def c63r10:LO:=[oLf 30 3,oSf 2 30]
def c63:ACode:=.seq (rT c63r0 [1,2]) (.seq (rT c63r1 [1,2,3]) (.seq (.seq (rT c63r2 [1,2,3,4]) c63k9) (.seq (rT c63r10 [2]) .ret)))
def g63:AFn:=⟨1,[(2,some (some 4))],c63,false,[],[],none⟩
theorem tr63:trFn Tryz.prog false 63 Tryz.f63=some g63:=by kernel_rfl
def c64r0:LO:=[oP 2 .mv [cBo false]]
def c64r1:LO:=[oMv 5 0,oUn 6 .len 5,oP 7 .mv [cIn 0]]
def c64r2:LO:=[oBi 8 .lss 7 6]
def c64k3:ACode:=kEx 8 0
def c64r4:LO:=[oIa 9 5 7,oLf 10 9,oP 4 aZ [],oSf 4 10]
def c64r5:LO:=[oLf 11 4,oCl 12 43 [.t 11],oUn 13 .not 12]
def c64r6:LO:=[oP 2 .mv [cBo false]]
def c64k7:ACode:=kRt 13 c64r6 [2]
def c64k8:ACode:=.block 1 (.seq (rT c64r4 [4,5,6,7]) (.seq (rT c64r5 [5,6,7,13]) c64k7))
def c64r9:LO:=[oBc 14 .add 7 1,oMv 7 14]
def c64b10:ACode:=.seq (rT c64r2 [5,6,7,8]) (.seq c64k3 (.seq c64k8 (rT c64r9 [5,6,7])))
def c64k11:ACode:=.block 0 (.loop [5,6,7] c64b10)
def c64r12:LO:=[oP 2 .mv [cBo true]]
def c64:ACode:=.seq (rT c64r0 [0]) (.seq (.seq (rT c64r1 [5,6,7]) c64k11) (.seq (rT c64r12 [2]) .ret))
def g64:AFn:=⟨1,[(2,none)],c64,false,[],[],none⟩
theorem tr64:trFn Tryz.prog false 64 Tryz.f64=some g64:=by kernel_rfl
def c65r0:LO:=[oP 4 (.nilsl (some 4)) []]
def c65r1:LO:=[oMv 8 0,oUn 9 .len 8,oP 10 (.mkslice (some 4) (.agg [(none,(.int .i64 0)),(none,(.int .i64 0)),(none,(.str [])),(none,(.sl (some 4) []))])) [cIn 0,.t 9],oMv 5 10]
def c65r2:LO:=[oMv 11 0,oUn 12 .len 11,oP 13 .mv [cIn 0]]
def c65r3:LO:=[oBi 14 .lss 13 12]
def c65k4:ACode:=kEx 14 0
def c65r5:LO:=[oIa 15 11 13,oLf 16 15,oP 7 aZ [],oSf 7 16]
def c65r6:LO:=[oMv 17 5,oLf 18 7,oCl 19 51 [.t 18],oUn 20 (.bslice (some 4)) 19,oP 21 (.append (some 4)) [.t 17,.t 20],oMv 5 21]
def c65k7:ACode:=.block 1 (.seq (rT c65r5 [1,5,7,11,12,13]) (rT c65r6 [1,5,11,12,13]))
def c65r8:LO:=[oBc 22 .add 13 1,oMv 13 22]
def c65b9:ACode:=.seq (rT c65r3 [1,5,11,12,13,14]) (.seq c65k4 (.seq c65k7 (rT c65r8 [1,5,11,12,13])))
def c65k10:ACode:=.block 0 (.loop [1,5,11,12,13] c65b9)
def c65r11:LO:=[oMv 23 5,oMv 24 1,oCl 25 113 [.t 23,.t 24]]
def c65r12:LO:=[oMv 26 5,oMv 4 26]
def c65:ACode:=.seq (rT c65r0 [0,1]) (.seq (rT c65r1 [0,1,5]) (.seq (.seq (rT c65r2 [1,5,11,12,13]) c65k10) (.seq (rT c65r11 [5]) (.seq (rT c65r12 [4]) .ret))))
def g65:AFn:=⟨2,[(4,none)],c65,true,[],[],none⟩
theorem tr65:trFn Tryz.prog true 65 Tryz.f65=some g65:=by kernel_rfl
def c66r0:LO:=[oP 4 (.nilsl (some 4)) []]
def c66r1:LO:=[oMv 8 0,oUn 9 .len 8,oBc 10 .lss 9 2]
def c66r2:LO:=[oMv 11 0,oMv 4 11]
def c66k3:ACode:=kRt 10 c66r2 [4]
def c66r4:LO:=[oP 5 .mv [cIn 1]]
def c66r5:LO:=[oMv 12 5,oMv 13 0,oUn 14 .len 13,oBi 15 .lss 12 14]
def c66k6:ACode:=kEx 15 0
def c66r7:LO:=[oMv 18 1,oMv 19 0,oMv 20 5,oIa 21 19 20,oLf 22 21,oMv 23 0,oMv 24 5,oBc 25 .sub 24 1,oIa 26 23 25,oLf 27 26,oP 28 .call [.t 18,.t 22,.t 27]]
def c66r8:LO:=[oMv 29 0,oMv 30 5,oP 31 (.slice (some 4) true false) [.t 29,.t 30],oMv 6 31]
def c66r9:LO:=[oP 7 .mv [cIn 1]]
def c66r10:LO:=[oMv 32 7,oMv 33 6,oUn 34 .len 33,oBi 35 .lss 32 34]
def c66k11:ACode:=kEx 35 2
def c66r12:LO:=[oMv 38 1,oMv 39 6,oMv 40 7,oIa 41 39 40,oLf 42 41,oMv 43 6,oMv 44 7,oBc 45 .sub 44 1,oIa 46 43 45,oLf 47 46,oP 48 .call [.t 38,.t 42,.t 47],oUn 49 .not 48]
def c66r13:LO:=[oMv 50 0,oMv 51 5,oMv 52 6,oMv 53 7,oIa 54 52 53,oLf 55 54,oIa 56 50 51,oSf 56 55]
def c66r14:LO:=[oMv 57 5,oBc 58 .add 57 1,oMv 5 58]
def c66k15:ACode:=.cond (.t 49) (.seq (rT c66r13 [0,1,5,6,7]) (rT c66r14 [0,1,5,6,7])) .skip
def c66k16:ACode:=.block 3 (.seq (rT c66r12 [0,1,5,6,7,49]) c66k15)
def c66r17:LO:=[oMv 36 7,oBc 37 .add 36 1,oMv 7 37]
def c66b18:ACode:=.seq (.seq (rT c66r10 [0,1,5,6,7,35]) c66k11) (.seq c66k16 (rT c66r17 [0,1,5,6,7]))
def c66k19:ACode:=.block 2 (.loop [0,1,5,6,7] c66b18)
def c66r20:LO:=[oMv 59 0,oMv 60 5,oP 61 (.slice (some 4) true false) [.t 59,.t 60],⟨none,(.clear (some 4) (.agg [(none,(.int .i64 0)),(none,(.int .i64 0)),(none,(.str [])),(none,(.sl (some 4) []))])),[.t 61],none⟩]
def c66r21:LO:=[oMv 62 0,oMv 63 5,oP 64 (.slice (some 4) false true) [.t 62,.t 63],oMv 4 64]
def c66k22:ACode:=.cond (.t 28) (.seq (rT c66r8 [0,1,5,6]) (.seq (.seq (rT c66r9 [0,1,5,6,7]) c66k19) (.seq (rT c66r20 [0,5]) (.seq (rT c66r21 [4]) .ret)))) .skip
def c66k23:ACode:=.block 1 (.seq (rT c66r7 [0,1,5,28]) c66k22)
def c66r24:LO:=[oMv 16 5,oBc 17 .add 16 1,oMv 5 17]
def c66b25:ACode:=.seq (.seq (rT c66r5 [0,1,5,15]) c66k6) (.seq c66k23 (rT c66r24 [0,1,5]))
def c66k26:ACode:=.block 0 (.loop [0,1,5] c66b25)
def c66r27:LO:=[oMv 65 0,oMv 4 65]
def c66:ACode:=.seq (rT c66r0 [0,1]) (.seq (.seq (rT c66r1 [0,1,10]) c66k3) (.seq (.seq (rT c66r4 [0,1,5]) c66k26) (.seq (rT c66r27 [4]) .ret)))
def g66:AFn:=⟨2,[(4,none)],c66,true,[],[],none⟩
theorem tr66:trFn Tryz.prog true 66 Tryz.f66=some g66:=by kernel_rfl
def c67r0:LO:=[oBx 2 0,oBx 3 1,oP 4 .mv [cBo false]]
def c67r1:LO:=[oLf 5 2,oLf 6 3,oCl 7 44 [.t 5,.t 6],oBc 8 .eql 7 0,oMv 4 8]
def c67:ACode:=.seq (rT c67r0 [2,3]) (.seq (rT c67r1 [4]) .ret)
def g67:AFn:=⟨2,[(4,none)],c67,false,[],[],none⟩
theorem tr67:trFn Tryz.prog false 67 Tryz.f67=some g67:=by kernel_rfl
def c68r0:LO:=[oBx 2 0,oBx 3 1,oP 4 .mv [cIn 0]]
def c68r1:LO:=[oFa 5 3 2,oLo 6 5,oP 7 (.iaddr (some 4)) [.t 6,cIn 0],oLf 8 7,oFa 9 3 3,oLo 10 9,oP 11 (.iaddr (some 4)) [.t 10,cIn 0],oLf 12 11,oCl 13 44 [.t 8,.t 12],oMv 4 13]
def c68:ACode:=.seq (rT c68r0 [2,3]) (.seq (rT c68r1 [4]) .ret)
def g68:AFn:=⟨2,[(4,none)],c68,false,[],[],none⟩
theorem tr68:trFn Tryz.prog false 68 Tryz.f68=some g68:=by kernel_rfl
def c69r0:LO:=[oP 0 aZ []]
def c69r1:LO:=[oCl 1 114 [cSt [105,110,115,116,97,110,116,105,97,116,105,111,110,95,101,114,114,111,114],.c (.tsl (some 4) [])],oSf 0 1]
def c69:ACode:=.seq (rT c69r0 [0]) (.seq (rT c69r1 [0]) .ret)
def g69:AFn:=⟨0,[(0,some (some 4))],c69,false,[],[],none⟩
theorem tr69:trFn Tryz.prog false 69 Tryz.f69=some g69:=by kernel_rfl
def c70r0:LO:=[oBx 3 1,oP 4 aZ []]
def c70r1:LO:=[oLf 5 3,oMv 6 0,oUn 7 (.bslice none) 6,oCl 8 115 [.t 5,cSt [116,121,112,101,95,101,114,114,111,114],.t 7],oSf 4 8]
def c70:ACode:=.seq (rT c70r0 [0,3,4]) (.seq (rT c70r1 [4]) .ret)
def g70:AFn:=⟨2,[(4,some (some 4))],c70,false,[],[],none⟩
theorem tr70:trFn Tryz.prog false 70 Tryz.f70=some g70:=by kernel_rfl
def c71r0:LO:=[oBx 1 0,oP 2 .mv [cBo false]]
def c71r1:LO:=[oFa 3 0 1,oLo 4 3,oBc 5 .eql 4 0,oMv 2 5]
def c71:ACode:=.seq (rT c71r0 [1]) (.seq (rT c71r1 [2]) .ret)
def g71:AFn:=⟨1,[(2,none)],c71,false,[],[],none⟩
theorem tr71:trFn Tryz.prog false 71 Tryz.f71=some g71:=by kernel_rfl
def c72r0:LO:=[oBx 1 0,oP 2 .mv [cBo false]]
def c72r1:LO:=[oLf 3 1,oCl 4 71 [.t 3],oUn 5 .not 4,oMv 2 5]
def c72:ACode:=.seq (rT c72r0 [1]) (.seq (rT c72r1 [2]) .ret)
def g72:AFn:=⟨1,[(2,none)],c72,false,[],[],none⟩
theorem tr72:trFn Tryz.prog false 72 Tryz.f72=some g72:=by kernel_rfl
def c73r0:LO:=[oBx 1 0,oP 2 .mv [cBo false]]
def c73r1:LO:=[oFa 3 0 1,oLo 4 3,oBc 5 .eql 4 2,oMv 2 5]
def c73:ACode:=.seq (rT c73r0 [1]) (.seq (rT c73r1 [2]) .ret)
def g73:AFn:=⟨1,[(2,none)],c73,false,[],[],none⟩
theorem tr73:trFn Tryz.prog false 73 Tryz.f73=some g73:=by kernel_rfl
def c74r0:LO:=[oBx 1 0,oP 2 .mv [cBo false]]
def c74r1:LO:=[oFa 3 0 1,oLo 4 3,oBc 5 .eql 4 1,oMv 2 5]
def c74:ACode:=.seq (rT c74r0 [1]) (.seq (rT c74r1 [2]) .ret)
def g74:AFn:=⟨1,[(2,none)],c74,false,[],[],none⟩
theorem tr74:trFn Tryz.prog false 74 Tryz.f74=some g74:=by kernel_rfl
def c75r0:LO:=[oBx 1 0,oP 2 .mv [cBo false]]
def c75r1:LO:=[oLf 3 1,oCl 4 73 [.t 3],oMv 5 4,oG 6 (.load (some 4)) [.t 1] 5 false,oG 7 .call [cFn 74,.t 6] 5 false,oP 8 .pick [.t 5,cBo true,.t 7],oMv 2 8]
def c75:ACode:=.seq (rT c75r0 [1]) (.seq (rT c75r1 [2]) .ret)
def g75:AFn:=⟨1,[(2,none)],c75,false,[],[],none⟩
theorem tr75:trFn Tryz.prog false 75 Tryz.f75=some g75:=by kernel_rfl
def c76r0:LO:=[oBx 1 0,oP 2 .mv [cBo false]]
def c76r1:LO:=[oLf 3 1,oCl 4 73 [.t 3],oMv 5 4,oG 6 (.load (some 4)) [.t 1] 5 false,oG 7 .call [cFn 47,.t 6] 5 false,oP 8 .pick [.t 5,cBo true,.t 7],oMv 2 8]
def c76:ACode:=.seq (rT c76r0 [1]) (.seq (rT c76r1 [2]) .ret)
def g76:AFn:=⟨1,[(2,none)],c76,false,[],[],none⟩
theorem tr76:trFn Tryz.prog false 76 Tryz.f76=some g76:=by kernel_rfl
def c77r0:LO:=[oBx 1 0,oP 2 .mv [cBo false]]
def c77r1:LO:=[oLf 6 1,oCl 7 116 [.t 6],oMv 5 7,oEx 8 0 5,oEx 9 1 5,oP 4 aZ [],oMv 3 8,oSf 4 9]
def c77r2:LO:=[oLf 10 4,oCl 11 117 [.t 10],oMv 2 11]
def c77:ACode:=.seq (rT c77r0 [1]) (.seq (rT c77r1 [4]) (.seq (rT c77r2 [2]) .ret))
def g77:AFn:=⟨1,[(2,none)],c77,false,[],[],none⟩
theorem tr77:trFn Tryz.prog false 77 Tryz.f77=some g77:=by kernel_rfl
def c78r0:LO:=[oBx 1 0,oP 2 .mv [cBo false]]
def c78r1:LO:=[oLf 3 1,oCl 4 49 [.t 3],oUn 5 .len 4,oBc 6 .eql 5 0,oMv 2 6]
def c78:ACode:=.seq (rT c78r0 [1]) (.seq (rT c78r1 [2]) .ret)
def g78:AFn:=⟨1,[(2,none)],c78,false,[],[],none⟩
theorem tr78:trFn Tryz.prog false 78 Tryz.f78=some g78:=by kernel_rfl
def c79r0:LO:=[oP 2 .mv [cBo false]]
def c79r1:LO:=[oMv 3 0,oBc 4 .eql 3 0,oMv 2 4]
def c79:ACode:=.seq (rT c79r0 [0]) (.seq (rT c79r1 [2]) .ret)
def g79:AFn:=⟨1,[(2,none)],c79,false,[],[],none⟩
theorem tr79:trFn Tryz.prog false 79 Tryz.f79=some g79:=by kernel_rfl
def c80r0:LO:=[oP 2 .mv [cBo false]]
def c80r1:LO:=[oMv 3 0,oBc 4 .neq 3 0,oMv 2 4]
def c80:ACode:=.seq (rT c80r0 [0]) (.seq (rT c80r1 [2]) .ret)
def g80:AFn:=⟨1,[(2,none)],c80,false,[],[],none⟩
theorem tr80:trFn Tryz.prog false 80 Tryz.f80=some g80:=by kernel_rfl
def c81r0:LO:=[oP 2 .mv [cBo false]]
def c81r1:LO:=[oMv 3 0,oBc 4 .lss 3 0,oMv 2 4]
def c81:ACode:=.seq (rT c81r0 [0]) (.seq (rT c81r1 [2]) .ret)
def g81:AFn:=⟨1,[(2,none)],c81,false,[],[],none⟩
theorem tr81:trFn Tryz.prog false 81 Tryz.f81=some g81:=by kernel_rfl
def c82r0:LO:=[oP 2 .mv [cBo false]]
def c82r1:LO:=[oMv 3 0,oBc 4 .leq 3 0,oMv 2 4]
def c82:ACode:=.seq (rT c82r0 [0]) (.seq (rT c82r1 [2]) .ret)
def g82:AFn:=⟨1,[(2,none)],c82,false,[],[],none⟩
theorem tr82:trFn Tryz.prog false 82 Tryz.f82=some g82:=by kernel_rfl
def c83r0:LO:=[oP 2 .mv [cBo false]]
def c83r1:LO:=[oMv 3 0,oBc 4 .gtr 3 0,oMv 2 4]
def c83:ACode:=.seq (rT c83r0 [0]) (.seq (rT c83r1 [2]) .ret)
def g83:AFn:=⟨1,[(2,none)],c83,false,[],[],none⟩
theorem tr83:trFn Tryz.prog false 83 Tryz.f83=some g83:=by kernel_rfl
def c84r0:LO:=[oP 2 .mv [cBo false]]
def c84r1:LO:=[oMv 3 0,oBc 4 .geq 3 0,oMv 2 4]
def c84:ACode:=.seq (rT c84r0 [0]) (.seq (rT c84r1 [2]) .ret)
def g84:AFn:=⟨1,[(2,none)],c84,false,[],[],none⟩
theorem tr84:trFn Tryz.prog false 84 Tryz.f84=some g84:=by kernel_rfl
def c85r0:LO:=[oP 4 .mv [cIn 0]]
def c85r1:LO:=[oMv 6 0,oUn 7 .len 6,oP 8 .mv [cIn 0]]
def c85r2:LO:=[oBi 9 .lss 8 7]
def c85k3:ACode:=kEx 9 0
def c85r4:LO:=[oMv 10 8,oMv 5 10]
def c85r5:LO:=[oMv 11 1,oMv 12 0,oMv 13 5,oP 14 (.iaddr none) [.t 12,.t 13],oLo 15 14,oBi 16 .eql 11 15]
def c85r6:LO:=[oMv 17 5,oMv 4 17]
def c85k7:ACode:=kRt 16 c85r6 [4]
def c85k8:ACode:=.block 1 (.seq (rT c85r4 [0,1,5,7,8]) (.seq (rT c85r5 [0,1,5,7,8,16]) c85k7))
def c85r9:LO:=[oBc 18 .add 8 1,oMv 8 18]
def c85b10:ACode:=.seq (rT c85r2 [0,1,7,8,9]) (.seq c85k3 (.seq c85k8 (rT c85r9 [0,1,7,8])))
def c85k11:ACode:=.block 0 (.loop [0,1,7,8] c85b10)
def c85r12:LO:=[oP 4 .mv [.c (.pv none (.int .i64 (-1)))]]
def c85:ACode:=.seq (rT c85r0 [0,1]) (.seq (.seq (rT c85r1 [0,1,7,8]) c85k11) (.seq (rT c85r12 [4]) .ret))
def g85:AFn:=⟨2,[(4,none)],c85,false,[],[],none⟩
theorem tr85:trFn Tryz.prog false 85 Tryz.f85=some g85:=by kernel_rfl
def c86r0:LO:=[oBx 1 0,oP 2 .mv [cIn 0]]
def c86r1:LO:=[oP 3 (.alloc none (.pv none (.int .i64 0))) [],⟨none,(.store none),[.t 3,cIn 2001],none⟩]
def c86r2:LO:=[oP 4 (.alloc none (.pv none .nilfunc)) []]
def c86r3:LO:=[oP 5 (.mkfunc (.func 118) 0) [.t 3,.t 4],oSo 4 5]
def c86r4:LO:=[oLo 6 4,oLf 7 1,oP 8 .call [.t 6,.t 7]]
def c86r5:LO:=[oLo 9 3,oP 10 (.bin .sub) [cIn 2001,.t 9],oMv 2 10]
def c86:ACode:=.seq (rT c86r0 [1]) (.seq (rT c86r1 [1,3]) (.seq (rT c86r2 [1,3,4]) (.seq (rT c86r3 [1,3,4]) (.seq (rT c86r4 [3]) (.seq (rT c86r5 [2]) .ret)))))
def g86:AFn:=⟨1,[(2,none)],c86,false,[],[],none⟩
theorem tr86:trFn Tryz.prog false 86 Tryz.f86=some g86:=by kernel_rfl
def c87r0:LO:=[oBx 1 0,oP 2 .mv [cBo false]]
def c87r1:LO:=[oP 3 .mv [cBo false]]
def c87r2:LO:=[oFa 5 0 1,oLo 6 5]
def c87r3:LO:=[oBc 8 .eql 6 0,oMv 7 8]
def c87r4:LO:=[oFa 9 1 1,oLo 10 9,oBc 11 .geq 10 0,oMv 12 11,oG 13 (.faddr 1) [.t 1] 12 true,oG 14 (.load none) [.t 13] 12 true,oG 15 (.bin .leq) [.t 14,cIn 1099511627776] 12 true,oP 16 .pick [.t 12,.t 15,cBo false],
 oMv 17 16,oG 18 (.faddr 2) [.t 1] 17 true,oG 19 (.load none) [.t 18] 17 true,oG 20 (.bin .eql) [.t 19,cSt []] 17 true,oP 21 .pick [.t 17,.t 20,cBo false],oMv 22 21,oG 23 (.faddr 3) [.t 1] 22 true,oG 24 (.load none) [.t 23] 22 true,
 oG 25 .len [.t 24] 22 true,oG 26 (.bin .eql) [.t 25,cIn 0] 22 true,oP 27 .pick [.t 22,.t 26,cBo false],oMv 3 27]
def c87r5:LO:=[oBc 29 .eql 6 1,oMv 28 29]
def c87r6:LO:=[oFa 30 2 1,oLo 31 30,oP 32 (.bin .eql) [.t 31,cSt []],oMv 33 32,oG 34 (.faddr 3) [.t 1] 33 true,oG 35 (.load none) [.t 34] 33 true,oG 36 .len [.t 35] 33 true,oG 37 (.bin .eql) [.t 36,cIn 0] 33 true,oP 38 .pick [.t 33,.t 37,cBo false],
 oMv 3 38]
def c87r7:LO:=[oBc 40 .eql 6 2,oMv 39 40]
def c87r8:LO:=[oFa 41 1 1,oLo 42 41,oBc 43 .eql 42 0,oMv 44 43,oG 45 (.faddr 2) [.t 1] 44 true,oG 46 (.load none) [.t 45] 44 true,oG 47 .slen [.t 46] 44 true,oG 48 (.bin .leq) [.t 47,cIn 100] 44 true,oP 49 .pick [.t 44,.t 48,cBo false],
 oMv 50 49,oG 51 (.faddr 3) [.t 1] 50 true,oG 52 (.load none) [.t 51] 50 true,oG 53 .len [.t 52] 50 true,oG 54 (.bin .eql) [.t 53,cIn 0] 50 true,oP 55 .pick [.t 50,.t 54,cBo false],oMv 3 55]
def c87r9:LO:=[oBc 57 .eql 6 3,oMv 56 57]
def c87r10:LO:=[oFa 58 1 1,oLo 59 58,oBc 60 .eql 59 0,oMv 61 60,oG 62 (.faddr 2) [.t 1] 61 true,oG 63 (.load none) [.t 62] 61 true,oG 64 .slen [.t 63] 61 true,oG 65 (.bin .leq) [.t 64,cIn 100] 61 true,oP 66 .pick [.t 61,.t 65,cBo false],
 oMv 67 66,oG 68 (.faddr 3) [.t 1] 67 true,oG 69 (.load none) [.t 68] 67 true,oG 70 .len [.t 69] 67 true,oG 71 (.bin .gtr) [.t 70,cIn 0] 67 true,oP 72 .pick [.t 67,.t 71,cBo false],oMv 73 72,oG 74 (.faddr 3) [.t 1] 73 true,
 oG 75 (.load none) [.t 74] 73 true,oG 76 .len [.t 75] 73 true,oG 77 (.bin .leq) [.t 76,cIn 8] 73 true,oP 78 .pick [.t 73,.t 77,cBo false],oMv 3 78]
def c87k11:ACode:=.cond (.t 56) (rT c87r10 [1,3]) .skip
def c87k12:ACode:=.cond (.t 39) (rT c87r8 [1,3]) (.seq (rT c87r9 [1,3,56]) c87k11)
def c87k13:ACode:=.cond (.t 28) (rT c87r6 [1,3]) (.seq (rT c87r7 [1,3,6,39]) c87k12)
def c87k14:ACode:=.cond (.t 7) (rT c87r4 [1,3]) (.seq (rT c87r5 [1,3,6,28]) c87k13)
def c87k15:ACode:=.block 0 (.seq (rT c87r3 [1,3,6,7]) c87k14)
def c87r16:LO:=[oP 4 .mv [cIn 0]]
def c87r17:LO:=[oMv 79 4,oFa 80 3 1,oLo 81 80,oUn 82 .len 81,oBi 83 .lss 79 82,oMv 84 83,oG 85 .mv [.t 3] 84 true,oP 86 .pick [.t 84,.t 85,cBo false]]
def c87k18:ACode:=kEx 86 1
def c87r19:LO:=[oFa 89 3 1,oLo 90 89,oMv 91 4,oIa 92 90 91,oLf 93 92,oCl 94 87 [.t 93],oMv 3 94]
def c87k20:ACode:=.block 2 (rT c87r19 [1,3,4])
def c87r21:LO:=[oMv 87 4,oBc 88 .add 87 1,oMv 4 88]
def c87b22:ACode:=.seq (.seq (rT c87r17 [1,3,4,86]) c87k18) (.seq c87k20 (rT c87r21 [1,3,4]))
def c87k23:ACode:=.block 1 (.loop [1,3,4] c87b22)
def c87r24:LO:=[oMv 95 3,oMv 2 95]
def c87:ACode:=.seq (rT c87r0 [1]) (.seq (rT c87r1 [1,3]) (.seq (.seq (rT c87r2 [1,3,6]) c87k15) (.seq (.seq (rT c87r16 [1,3,4]) c87k23) (.seq (rT c87r24 [2]) .ret))))
def g87:AFn:=⟨1,[(2,none)],c87,false,[],[],none⟩
theorem tr87:trFn Tryz.prog false 87 Tryz.f87=some g87:=by kernel_rfl
def c88r0:LO:=[oP 4 .mv [cIn 0]]
def c88r1:LO:=[oMv 7 0,oCl 8 119 [.t 7],oMv 5 8]
def c88r2:LO:=[oMv 9 1,oCl 10 119 [.t 9],oMv 6 10]
def c88r3:LO:=[oMv 11 5]
def c88r4:LO:=[oMv 12 6]
def c88r5:LO:=[oP 4 .mv [cIn 0]]
def c88k6:ACode:=kRt 12 c88r5 [4]
def c88r7:LO:=[oP 4 .mv [.c (.pv none (.int .i64 (-1)))]]
def c88k8:ACode:=.cond (.t 11) (.seq (.seq (rT c88r4 [12]) c88k6) (.seq (rT c88r7 [4]) .ret)) .skip
def c88r9:LO:=[oMv 13 6]
def c88r10:LO:=[oP 4 .mv [cIn 1]]
def c88k11:ACode:=kRt 13 c88r10 [4]
def c88r12:LO:=[oMv 14 0,oMv 15 1,oBi 16 .lss 14 15]
def c88r13:LO:=[oP 4 .mv [.c (.pv none (.int .i64 (-1)))]]
def c88k14:ACode:=kRt 16 c88r13 [4]
def c88r15:LO:=[oMv 17 0,oMv 18 1,oBi 19 .gtr 17 18]
def c88r16:LO:=[oP 4 .mv [cIn 1]]
def c88k17:ACode:=kRt 19 c88r16 [4]
def c88r18:LO:=[oP 4 .mv [cIn 0]]
def c88:ACode:=.seq (rT c88r0 [0,1]) (.seq (rT c88r1 [0,1,5]) (.seq (rT c88r2 [0,1,5,6]) (.seq (.seq (rT c88r3 [0,1,6,11]) c88k8) (.seq (.seq (rT c88r9 [0,1,13]) c88k11) (.seq (.seq (rT c88r12 [0,1,16]) c88k14) (.seq (.seq (rT c88r15 [19]) c88k17) (.seq (rT c88r18 [4]) .ret)))))))
def g88:AFn:=⟨2,[(4,none)],c88,false,[],[],none⟩
theorem tr88:trFn Tryz.prog false 88 Tryz.f88=some g88:=by kernel_rfl
def c89r0:LO:=[oP 4 .mv [cIn 0]]
def c89r1:LO:=[oMv 7 0,oCl 8 120 [.t 7],oMv 5 8]
def c89r2:LO:=[oMv 9 1,oCl 10 120 [.t 9],oMv 6 10]
def c89r3:LO:=[oMv 11 5]
def c89r4:LO:=[oMv 12 6]
def c89r5:LO:=[oP 4 .mv [cIn 0]]
def c89k6:ACode:=kRt 12 c89r5 [4]
def c89r7:LO:=[oP 4 .mv [.c (.pv none (.int .i64 (-1)))]]
def c89k8:ACode:=.cond (.t 11) (.seq (.seq (rT c89r4 [12]) c89k6) (.seq (rT c89r7 [4]) .ret)) .skip
def c89r9:LO:=[oMv 13 6]
def c89r10:LO:=[oP 4 .mv [cIn 1]]
def c89k11:ACode:=kRt 13 c89r10 [4]
def c89r12:LO:=[oMv 14 0,oMv 15 1,oBi 16 .lss 14 15]
def c89r13:LO:=[oP 4 .mv [.c (.pv none (.int .i64 (-1)))]]
def c89k14:ACode:=kRt 16 c89r13 [4]
def c89r15:LO:=[oMv 17 0,oMv 18 1,oBi 19 .gtr 17 18]
def c89r16:LO:=[oP 4 .mv [cIn 1]]
def c89k17:ACode:=kRt 19 c89r16 [4]
def c89r18:LO:=[oP 4 .mv [cIn 0]]
def c89:ACode:=.seq (rT c89r0 [0,1]) (.seq (rT c89r1 [0,1,5]) (.seq (rT c89r2 [0,1,5,6]) (.seq (.seq (rT c89r3 [0,1,6,11]) c89k8) (.seq (.seq (rT c89r9 [0,1,13]) c89k11) (.seq (.seq (rT c89r12 [0,1,16]) c89k14) (.seq (.seq (rT c89r15 [19]) c89k17) (.seq (rT c89r18 [4]) .ret)))))))
def g89:AFn:=⟨2,[(4,none)],c89,false,[],[],none⟩
theorem tr89:trFn Tryz.prog false 89 Tryz.f89=some g89:=by kernel_rfl
def c90r0:LO:=[oP 4 .mv [cIn 0]]
def c90r1:LO:=[oMv 5 0,oMv 6 1,oCl 7 121 [.t 5,.t 6],oMv 4 7]
def c90:ACode:=.seq (rT c90r0 [0,1]) (.seq (rT c90r1 [4]) .ret)
def g90:AFn:=⟨2,[(4,none)],c90,false,[],[],none⟩
theorem tr90:trFn Tryz.prog false 90 Tryz.f90=some g90:=by kernel_rfl
def c91r0:LO:=[oBx 2 0,oBx 3 1,oP 4 .mv [cBo false]]
def c91r1:LO:=[oFa 7 0 2,oLo 8 7,oFa 9 0 3,oLo 10 9,oBi 11 .neq 8 10,oMv 12 11,oG 13 (.faddr 1) [.t 2] 12 false,oG 14 (.load none) [.t 13] 12 false,oG 15 (.faddr 1) [.t 3] 12 false,oG 16 (.load none) [.t 15] 12 false,
 oG 17 (.bin .neq) [.t 14,.t 16] 12 false,oP 18 .pick [.t 12,cBo true,.t 17],oMv 19 18,oG 20 (.faddr 2) [.t 2] 19 false,oG 21 (.load none) [.t 20] 19 false,oG 22 (.faddr 2) [.t 3] 19 false,oG 23 (.load none) [.t 22] 19 false,
 oG 24 (.bin .neq) [.t 21,.t 23] 19 false,oP 25 .pick [.t 19,cBo true,.t 24],oMv 26 25,oG 27 (.faddr 3) [.t 2] 26 false,oG 28 (.load none) [.t 27] 26 false,oG 29 .len [.t 28] 26 false,oG 30 (.faddr 3) [.t 3] 26 false,oG 31 (.load none) [.t 30] 26 false,
 oG 32 .len [.t 31] 26 false,oG 33 (.bin .neq) [.t 29,.t 32] 26 false,oP 34 .pick [.t 26,cBo true,.t 33]]
def c91r2:LO:=[oP 4 .mv [cBo false]]
def c91k3:ACode:=kRt 34 c91r2 [4]
def c91r4:LO:=[oFa 35 3 2,oLo 36 35,oUn 37 .len 36,oP 38 .mv [cIn 0]]
def c91r5:LO:=[oBi 39 .lss 38 37]
def c91k6:ACode:=kEx 39 0
def c91r7:LO:=[oMv 40 38,oIa 41 36 38,oLf 42 41,oP 6 aZ [],oMv 5 40,oSf 6 42]
def c91r8:LO:=[oLf 43 6,oFa 44 3 3,oLo 45 44,oMv 46 5,oIa 47 45 46,oLf 48 47,oCl 49 91 [.t 43,.t 48],oUn 50 .not 49]
def c91r9:LO:=[oP 4 .mv [cBo false]]
def c91k10:ACode:=kRt 50 c91r9 [4]
def c91k11:ACode:=.block 1 (.seq (rT c91r7 [3,5,6,36,37,38]) (.seq (rT c91r8 [3,36,37,38,50]) c91k10))
def c91r12:LO:=[oBc 51 .add 38 1,oMv 38 51]
def c91b13:ACode:=.seq (rT c91r5 [3,36,37,38,39]) (.seq c91k6 (.seq c91k11 (rT c91r12 [3,36,37,38])))
def c91k14:ACode:=.block 0 (.loop [3,36,37,38] c91b13)
def c91r15:LO:=[oP 4 .mv [cBo true]]
def c91:ACode:=.seq (rT c91r0 [2,3]) (.seq (.seq (rT c91r1 [2,3,34]) c91k3) (.seq (.seq (rT c91r4 [3,36,37,38]) c91k14) (.seq (rT c91r15 [4]) .ret)))
def g91:AFn:=⟨2,[(4,none)],c91,false,[],[],none⟩
theorem tr91:trFn Tryz.prog false 91 Tryz.f91=some g91:=by kernel_rfl
def c92r0:LO:=[oBx 2 0,oP 4 aZ []]
def c92r1:LO:=[oFa 8 0 2,oLo 9 8,oBc 10 .eql 9 0]
def c92r2:LO:=[oMv 11 1,oLf 12 2,oP 13 .call [.t 11,.t 12],oSf 4 13]
def c92k3:ACode:=kRt 10 c92r2 [4]
def c92r4:LO:=[oFa 14 0 2,oLo 15 14,oFa 16 1 2,oLo 17 16,oFa 18 2 2,oLo 19 18,oP 20 (bZ [0,1,2]) [.t 15,.t 17,.t 19],oP 5 aZ [],oSf 5 20]
def c92r5:LO:=[oFa 21 3 2,oLo 22 21,oUn 23 .len 22,oP 24 .mv [cIn 0]]
def c92r6:LO:=[oBi 25 .lss 24 23]
def c92k7:ACode:=kEx 25 0
def c92r8:LO:=[oIa 26 22 24,oLf 27 26,oP 7 aZ [],oSf 7 27]
def c92r9:LO:=[oFa 28 3 5,oLo 29 28,oLf 30 7,oMv 31 1,oP 32 (.calln 1) [.t 28,cFn 92,.t 30,.t 31],oP 33 (.bslicen (some 4) 1) [.t 28,.t 32],oP 34 (.append (some 4)) [.t 29,.t 33],oFa 35 3 5,oSo 35 34]
def c92k10:ACode:=.block 1 (.seq (rT c92r8 [1,4,5,7,22,23,24]) (.region false c92r9 [1,4,5,22,23,24]))
def c92r11:LO:=[oBc 36 .add 24 1,oMv 24 36]
def c92b12:ACode:=.seq (rT c92r6 [1,4,5,22,23,24,25]) (.seq c92k7 (.seq c92k10 (rT c92r11 [1,4,5,22,23,24])))
def c92k13:ACode:=.block 0 (.loop [1,4,5,22,23,24] c92b12)
def c92r14:LO:=[oLf 37 5,oSf 4 37]
def c92:ACode:=.seq (rT c92r0 [1,2,4]) (.seq (.seq (rT c92r1 [1,2,4,10]) c92k3) (.seq (rT c92r4 [1,2,4,5]) (.seq (.seq (rT c92r5 [1,4,5,22,23,24]) c92k13) (.seq (rT c92r14 [4]) .ret))))
def g92:AFn:=⟨2,[(4,some (some 4))],c92,true,[],[],none⟩
theorem tr92:trFn Tryz.prog true 92 Tryz.f92=some g92:=by kernel_rfl
def c93r0:LO:=[oBx 2 0,oP 3 aZ []]
def c93r1:LO:=[oLo 7 1,oFa 8 1 2,oLo 9 8,oP 10 (.lookup false none (.pv none (.int .i64 0)) true) [.t 7,.t 9],oMv 6 10,oEx 11 0 6,oEx 12 1 6,oMv 4 11,oMv 5 12]
def c93r2:LO:=[oMv 13 5,oUn 14 .not 13]
def c93r3:LO:=[oLo 15 1,oUn 16 .mlen 15,oMv 4 16]
def c93r4:LO:=[oLo 17 1,oFa 18 1 2,oLo 19 18,oMv 20 4,⟨none,(.mapset false none),[.t 17,.t 19,.t 20],none⟩]
def c93k5:ACode:=.cond (.t 14) (.seq (rT c93r3 [1,2,3,4]) (rT c93r4 [3,4])) .skip
def c93r6:LO:=[oMv 21 4,oP 22 (bZ [1]) [.t 21],oSf 3 22]
def c93:ACode:=.seq (rT c93r0 [1,2,3]) (.seq (rT c93r1 [1,2,3,4,5]) (.seq (.seq (rT c93r2 [1,2,3,4,14]) c93k5) (.seq (rT c93r6 [3]) .ret)))
def g93:AFn:=⟨2,[(3,some (some 4))],c93,true,[],[],none⟩
theorem tr93:trFn Tryz.prog true 93 Tryz.f93=some g93:=by kernel_rfl
def c94r0:LO:=[oBx 3 0,oP 4 aZ []]
def c94r1:LO:=[oLo 5 1,oFa 6 1 3,oLo 7 6,oP 8 (.lookup false none (.pv none (.int .i64 0)) false) [.t 5,.t 7],oBc 9 .eql 8 0]
def c94r2:LO:=[oLo 10 1,oFa 11 1 3,oLo 12 11,⟨none,(.mapset false none),[.t 10,.t 12,cIn 1],none⟩]
def c94r3:LO:=[oLo 13 2,oFa 14 1 3,oLo 15 14,oUn 16 (.bslice none) 15,oP 17 (.append none) [.t 13,.t 16],oSo 2 17]
def c94k4:ACode:=.cond (.t 9) (.seq (rT c94r2 [2,3,4]) (rT c94r3 [3,4])) .skip
def c94r5:LO:=[oLf 18 3,oSf 4 18]
def c94:ACode:=.seq (rT c94r0 [1,2,3,4]) (.seq (.seq (rT c94r1 [1,2,3,4,9]) c94k4) (.seq (rT c94r5 [4]) .ret))
def g94:AFn:=⟨3,[(4,some (some 4))],c94,true,[],[],none⟩
theorem tr94:trFn Tryz.prog true 94 Tryz.f94=some g94:=by kernel_rfl
def c95r0:LO:=[oP 2 (.nilsl (some 4)) []]
def c95r1:LO:=[oMv 3 0,oUn 4 (.slnil false) 3]
def c95r2:LO:=[oP 2 (.nilsl (some 4)) []]
def c95k3:ACode:=kRt 4 c95r2 [2]
def c95r4:LO:=[oP 5 (.bslice (some 4)) [],oMv 6 0,oP 7 (.append (some 4)) [.t 5,.t 6],oMv 2 7]
def c95:ACode:=.seq (rT c95r0 [0]) (.seq (.seq (rT c95r1 [0,4]) c95k3) (.seq (rT c95r4 [2]) .ret))
def g95:AFn:=⟨1,[(2,none)],c95,true,[],[],none⟩
theorem tr95:trFn Tryz.prog true 95 Tryz.f95=some g95:=by kernel_rfl
def c96r0:LO:=[oP 4 (.nilsl (some 4)) []]
def c96r1:LO:=[oMv 5 1]
def c96r2:LO:=[oMv 6 0,oUn 7 .nilcheck 6,oFa 8 0 7,oLf 9 8,oUn 10 (.bslo (some 4)) 9,oMv 4 10]
def c96k3:ACode:=kRt 5 c96r2 [4]
def c96r4:LO:=[oP 4 (.nilsl (some 4)) []]
def c96:ACode:=.seq (rT c96r0 [0,1]) (.seq (.seq (rT c96r1 [0,5]) c96k3) (.seq (rT c96r4 [4]) .ret))
def g96:AFn:=⟨2,[(4,none)],c96,true,[],[],none⟩
theorem tr96:trFn Tryz.prog true 96 Tryz.f96=some g96:=by kernel_rfl
def c97r0:LO:=[oBx 5 1,oBx 6 2,oBx 7 3,oP 8 (.nilsl (some 4)) []]
def c97r1:LO:=[oLf 10 5,oP 11 .callg [cFn 71,.t 10],oUn 12 .not 11,oMv 13 12,oG 14 (.load (some 4)) [.t 5] 13 true,oG 15 .callg [cFn 73,.t 14] 13 true,oG 16 .not [.t 15] 13 true,oP 17 .pick [.t 13,.t 16,cBo false],oLf 18 5,
 oP 19 .callg [cFn 123,cSt [97,116,111,109],.t 18],oCl 20 122 [.t 17,.t 19]]
def c97r2:LO:=[oP 21 (.bslo none) [cSt [60],cSt [61],cSt [62]],oMv 9 21]
def c97r3:LO:=[oLf 22 5,oP 23 .callg [cFn 73,.t 22],oMv 24 23,oG 25 .mv [.t 9] 24 true,oG 26 (.faddr 2) [.t 5] 24 true,oG 27 (.load none) [.t 26] 24 true,oG 28 .callg [cFn 41,.t 25,.t 27] 24 true,oG 29 .not [.t 28] 24 true,
 oP 30 .pick [.t 24,.t 29,cBo false],oLf 31 5,oP 32 .callg [cFn 124,cSt [111,114,100,101,114],.t 31],oCl 33 122 [.t 30,.t 32]]
def c97r4:LO:=[oMv 34 0,oMv 35 9,oLf 36 6,oLf 37 7,oCl 38 15 [.t 36,.t 37],oBc 39 .add 38 1,oP 40 (.iaddr none) [.t 35,.t 39],oLo 41 40,oCl 42 125 [.t 41],oCl 43 101 [.t 34,cIn 0,.t 42],oMv 8 43]
def c97:ACode:=.seq (rT c97r0 [0,5,6,7]) (.seq (rT c97r1 [0,5,6,7]) (.seq (rT c97r2 [0,5,6,7,9]) (.seq (rT c97r3 [0,6,7,9]) (.seq (rT c97r4 [8]) .ret))))
def g97:AFn:=⟨4,[(8,none)],c97,true,[],[],none⟩
theorem tr97:trFn Tryz.prog true 97 Tryz.f97=some g97:=by kernel_rfl
def c98r0:LO:=[oBx 5 1,oBx 6 2,oBx 7 3,oP 8 (.nilsl (some 4)) []]
def c98r1:LO:=[oLf 12 5,oCl 13 71 [.t 12],oUn 14 .not 13]
def c98r2:LO:=[oMv 15 0,oUn 16 .nilcheck 15,oFa 17 0 16,oLf 18 17,oP 9 aZ [],oSf 9 18]
def c98r3:LO:=[oLf 19 5,oP 10 aZ [],oSf 10 19]
def c98r4:LO:=[oLf 20 5,oCl 21 47 [.t 20]]
def c98r5:LO:=[oFa 22 2 5,oLo 23 22,oCl 24 125 [.t 23],oSf 10 24]
def c98k6:ACode:=.cond (.t 21) (rT c98r5 [5,9,10]) .skip
def c98r7:LO:=[oLf 25 5,oLf 26 10,oFa 27 3 5,oLo 28 27,oUn 29 .len 28,oP 30 (.calln 2) [.t 5,.t 10,cFn 126,.t 29],oP 31 (.bslice (some 4)) [.t 25,.t 26,.t 30],oFa 32 3 9,oSo 32 31]
def c98r8:LO:=[oLf 33 9,oUn 34 (.bslo (some 4)) 33,oMv 8 34]
def c98k9:ACode:=.cond (.t 14) (.seq (rT c98r2 [5,9]) (.seq (rT c98r3 [5,9,10]) (.seq (.seq (rT c98r4 [5,9,10,21]) c98k6) (.seq (.region false c98r7 [9]) (.seq (rT c98r8 [8]) .ret))))) .skip
def c98r10:LO:=[oLf 35 6,oCl 36 71 [.t 35],oMv 37 36,oG 38 (.load (some 4)) [.t 7] 37 false,oG 39 .call [cFn 71,.t 38] 37 false,oP 40 .pick [.t 37,cBo true,.t 39],oCl 41 122 [.t 40,cFn 69]]
def c98r11:LO:=[oLf 42 6,oP 43 .callg [cFn 47,.t 42],oLf 44 6,oCl 45 123 [cSt [97,116,111,109,105,99],.t 44],oCl 46 122 [.t 43,.t 45]]
def c98r12:LO:=[oLf 47 7,oP 48 .callg [cFn 74,.t 47],oUn 49 .not 48,oLf 50 7,oP 51 .callg [cFn 123,cSt [105,110,116,101,103,101,114],.t 50],oCl 52 122 [.t 49,.t 51]]
def c98r13:LO:=[oFa 53 1 7,oLo 54 53,oBc 55 .lss 54 0,oLf 56 7,oP 57 .callg [cFn 124,cSt [110,111,116,95,108,101,115,115,95,116,104,97,110,95,122,101,114,111],.t 56],oCl 58 122 [.t 55,.t 57]]
def c98r14:LO:=[oFa 59 1 7,oLo 60 59,oBc 61 .gtr 60 8,oCl 62 122 [.t 61,cFn 127]]
def c98r15:LO:=[oFa 63 1 7,oLo 64 63,oBc 65 .gtr 64 0,oMv 66 65,oG 67 (.load (some 4)) [.t 6] 66 true,oG 68 .callg [cFn 73,.t 67] 66 true,oG 69 .not [.t 68] 66 true,oP 70 .pick [.t 66,.t 69,cBo false],oLf 71 6,oP 72 .callg [cFn 123,cSt [97,116,111,109],.t 71],
 oCl 73 122 [.t 70,.t 72]]
def c98r16:LO:=[oFa 74 1 7,oLo 75 74,oBc 76 .eql 75 0]
def c98r17:LO:=[oMv 77 0,oLf 78 6,oCl 79 101 [.t 77,cIn 0,.t 78],oMv 8 79]
def c98k18:ACode:=kRt 76 c98r17 [8]
def c98r19:LO:=[oP 11 (.nilsl (some 4)) []]
def c98r20:LO:=[oFa 80 1 7,oLo 81 80,oP 82 .mv [cIn 0]]
def c98r21:LO:=[oBi 83 .lss 82 81]
def c98k22:ACode:=kEx 83 0
def c98r23:LO:=[oMv 84 11,oMv 85 0,oCl 86 128 [.t 85],oUn 87 (.bslice (some 4)) 86,oP 88 (.append (some 4)) [.t 84,.t 87],oMv 11 88]
def c98k24:ACode:=.block 1 (rT c98r23 [0,6,11,81,82])
def c98r25:LO:=[oBc 89 .add 82 1,oMv 82 89]
def c98b26:ACode:=.seq (rT c98r21 [0,6,11,81,82,83]) (.seq c98k22 (.seq c98k24 (rT c98r25 [0,6,11,81,82])))
def c98k27:ACode:=.block 0 (.loop [0,6,11,81,82] c98b26)
def c98r28:LO:=[oMv 90 0,oFa 91 2 6,oLo 92 91,oMv 93 11,oCl 94 129 [.t 92,.t 93],oCl 95 101 [.t 90,cIn 0,.t 94],oMv 8 95]
def c98:ACode:=.seq (rT c98r0 [0,5,6,7]) (.seq (.seq (rT c98r1 [0,5,6,7,14]) c98k9) (.seq (rT c98r10 [0,6,7]) (.seq (rT c98r11 [0,6,7]) (.seq (rT c98r12 [0,6,7]) (.seq (rT c98r13 [0,6,7]) (.seq (rT c98r14 [0,6,7]) (.seq (rT c98r15 [0,6,7]) (.seq (.seq (rT c98r16 [0,6,7,76]) c98k18) (.seq (rT c98r19 [0,6,7,11]) (.seq (.seq (rT c98r20 [0,6,11,81,82]) c98k27) (.seq (rT c98r28 [8]) .ret)))))))))))
def g98:AFn:=⟨4,[(8,none)],c98,true,[],[],none⟩
theorem tr98:trFn Tryz.prog true 98 Tryz.f98=some g98:=by kernel_rfl
def c99r0:LO:=[oBx 4 1,oBx 5 2,oP 6 (.nilsl (some 4)) []]
def c99r1:LO:=[oLf 7 4,oCl 8 71 [.t 7],oMv 9 8,oG 10 (.load (some 4)) [.t 5] 9 false,oG 11 .call [cFn 71,.t 10] 9 false,oP 12 .pick [.t 9,cBo true,.t 11],oCl 13 122 [.t 12,cFn 69]]
def c99r2:LO:=[oLf 14 4,oP 15 .callg [cFn 74,.t 14],oUn 16 .not 15,oLf 17 4,oP 18 .callg [cFn 123,cSt [105,110,116,101,103,101,114],.t 17],oCl 19 122 [.t 16,.t 18]]
def c99r3:LO:=[oLf 20 5,oP 21 .callg [cFn 47,.t 20],oUn 22 .not 21,oLf 23 5,oP 24 .callg [cFn 123,cSt [99,111,109,112,111,117,110,100],.t 23],oCl 25 122 [.t 22,.t 24]]
def c99r4:LO:=[oFa 26 1 4,oLo 27 26,oBc 28 .lss 27 0,oLf 29 4,oP 30 .callg [cFn 124,cSt [110,111,116,95,108,101,115,115,95,116,104,97,110,95,122,101,114,111],.t 29],oCl 31 122 [.t 28,.t 30]]
def c99r5:LO:=[oFa 32 1 4,oLo 33 32,oBc 34 .eql 33 0,oMv 35 34,oG 36 (.faddr 1) [.t 4] 35 false,oG 37 (.load none) [.t 36] 35 false,oG 38 (.faddr 3) [.t 5] 35 false,oG 39 (.load none) [.t 38] 35 false,oG 40 .len [.t 39] 35 false,
 oG 41 (.bin .gtr) [.t 37,.t 40] 35 false,oP 42 .pick [.t 35,cBo true,.t 41]]
def c99r6:LO:=[oP 6 (.nilsl (some 4)) []]
def c99k7:ACode:=kRt 42 c99r6 [6]
def c99r8:LO:=[oMv 43 0,oFa 44 3 5,oLo 45 44,oFa 46 1 4,oLo 47 46,oBc 48 .sub 47 1,oIa 49 45 48,oLf 50 49,oCl 51 101 [.t 43,cIn 2,.t 50],oMv 6 51]
def c99:ACode:=.seq (rT c99r0 [0,4,5]) (.seq (rT c99r1 [0,4,5]) (.seq (rT c99r2 [0,4,5]) (.seq (rT c99r3 [0,4,5]) (.seq (rT c99r4 [0,4,5]) (.seq (.seq (rT c99r5 [0,4,5,42]) c99k7) (.seq (rT c99r8 [6]) .ret))))))
def g99:AFn:=⟨3,[(6,none)],c99,true,[],[],none⟩
theorem tr99:trFn Tryz.prog true 99 Tryz.f99=some g99:=by kernel_rfl
def c100r0:LO:=[oBx 4 1,oBx 5 2,oP 6 (.nilsl (some 4)) []]
def c100r1:LO:=[oLf 11 5,oP 12 .callg [cFn 130,.t 11],oUn 13 .not 12,oLf 14 5,oP 15 .callg [cFn 123,cSt [108,105,115,116],.t 14],oCl 16 122 [.t 13,.t 15]]
def c100r2:LO:=[oLf 17 4,oCl 18 47 [.t 17]]
def c100r3:LO:=[oMv 19 0,oFa 20 2 4,oLo 21 20,oP 22 .callh [cFn 125,.t 21],oUn 23 (.bslicep (some 4)) 22,oFa 24 3 4,oLo 25 24,oP 26 (.append (some 4)) [.t 23,.t 25],oCl 27 125 [cSt [91,93]],oCl 28 131 [.t 26,.t 27],oCl 29 101 [.t 19,cIn 1,.t 28],
 oMv 6 29]
def c100k4:ACode:=.cond (.t 18) (.seq (.region false c100r3 [6]) .ret) .skip
def c100r5:LO:=[oLf 30 4,oCl 31 71 [.t 30],oUn 32 .not 31]
def c100r6:LO:=[oMv 33 0,oLf 34 4,oUn 35 (.bslicep (some 4)) 34,oP 36 (.calln 1) [.t 4,cFn 125,cSt [91,93]],oCl 37 131 [.t 35,.t 36],oCl 38 101 [.t 33,cIn 1,.t 37],oMv 6 38]
def c100k7:ACode:=.cond (.t 32) (.seq (.region false c100r6 [6]) .ret) .skip
def c100r8:LO:=[oLf 39 5,oCl 40 132 [.t 39],oCl 41 122 [.t 40,cFn 69]]
def c100r9:LO:=[oLf 42 5,oP 43 .callg [cFn 117,.t 42],oLf 44 5,oCl 45 124 [cSt [110,111,110,95,101,109,112,116,121,95,108,105,115,116],.t 44],oCl 46 122 [.t 43,.t 45]]
def c100r10:LO:=[oLf 48 5,oCl 49 116 [.t 48],oMv 47 49,oEx 50 0 47,oEx 51 1 47,oP 8 aZ [],oMv 7 50,oSf 8 51]
def c100r11:LO:=[oMv 52 7,oP 53 (.iaddr (some 4)) [.t 52,cIn 0],oLf 54 53,oMv 55 7,oP 56 (.slice (some 4) true false) [.t 55,cIn 1],oP 9 aZ [],oSf 9 54,oMv 10 56]
def c100r12:LO:=[oLf 57 9,oCl 58 71 [.t 57],oCl 59 122 [.t 58,cFn 69]]
def c100r13:LO:=[oMv 60 10,oUn 61 .len 60,oBc 62 .eql 61 0]
def c100r14:LO:=[oLf 63 9,oP 64 .callg [cFn 47,.t 63],oLf 65 9,oCl 66 123 [cSt [97,116,111,109,105,99],.t 65],oCl 67 122 [.t 64,.t 66]]
def c100r15:LO:=[oMv 68 0,oLf 69 9,oCl 70 101 [.t 68,cIn 0,.t 69],oMv 6 70]
def c100k16:ACode:=.cond (.t 62) (.seq (rT c100r14 [0,9]) (.seq (rT c100r15 [6]) .ret)) .skip
def c100r17:LO:=[oLf 71 9,oP 72 .callg [cFn 73,.t 71],oUn 73 .not 72,oLf 74 9,oP 75 .callg [cFn 123,cSt [97,116,111,109],.t 74],oCl 76 122 [.t 73,.t 75]]
def c100r18:LO:=[oMv 77 10,oUn 78 .len 77,oBc 79 .gtr 78 8,oCl 80 122 [.t 79,cFn 127]]
def c100r19:LO:=[oMv 81 0,oFa 82 2 9,oLo 83 82,oMv 84 10,oCl 85 129 [.t 83,.t 84],oCl 86 101 [.t 81,cIn 0,.t 85],oMv 6 86]
def c100:ACode:=.seq (rT c100r0 [0,4,5]) (.seq (rT c100r1 [0,4,5]) (.seq (.seq (rT c100r2 [0,4,5,18]) c100k4) (.seq (.seq (rT c100r5 [0,4,5,32]) c100k7) (.seq (rT c100r8 [0,5]) (.seq (rT c100r9 [0,5]) (.seq (rT c100r10 [0,7]) (.seq (rT c100r11 [0,9,10]) (.seq (rT c100r12 [0,9,10]) (.seq (.seq (rT c100r13 [0,9,10,62]) c100k16) (.seq (rT c100r17 [0,9,10]) (.seq (rT c100r18 [0,9,10]) (.seq (rT c100r19 [6]) .ret))))))))))))
def g100:AFn:=⟨3,[(6,none)],c100,true,[],[],none⟩
theorem tr100:trFn Tryz.prog true 100 Tryz.f100=some g100:=by kernel_rfl
def c101r0:LO:=[oBx 5 2,oP 6 (.nilsl (some 4)) []]
def c101r1:LO:=[oMv 8 0,oUn 9 .nilcheck 8,oFa 10 0 9,oLf 11 10,oP 7 aZ [],oSf 7 11]
def c101r2:LO:=[oFa 12 3 7,oLo 13 12,oCl 14 95 [.t 13],oFa 15 3 7,oSo 15 14]
def c101r3:LO:=[oFa 16 3 7,oLo 17 16,oMv 18 1,oLf 19 5,oIa 20 17 18,oSf 20 19]
def c101r4:LO:=[oLf 21 7,oUn 22 (.bslo (some 4)) 21,oMv 6 22]
def c101:ACode:=.seq (rT c101r0 [0,1,5]) (.seq (rT c101r1 [1,5,7]) (.seq (rT c101r2 [1,5,7]) (.seq (rT c101r3 [7]) (.seq (rT c101r4 [6]) .ret))))
def g101:AFn:=⟨3,[(6,none)],c101,true,[],[],none⟩
theorem tr101:trFn Tryz.prog true 101 Tryz.f101=some g101:=by kernel_rfl
def c102r0:LO:=[oBx 4 1,oP 6 aZ []]
def c102r1:LO:=[oLf 12 4,oCl 13 71 [.t 12]]
def c102r2:LO:=[oMv 15 2,oFa 16 1 4,oLo 17 16,oP 18 (.lookup false (some 4) (.agg [(none,(.pv none (.int .i64 0))),(none,(.pv none (.int .i64 0))),(none,(.pv none (.str []))),(none,(.tsl (some 4) []))]) true) [.t 15,.t 17],
 oMv 14 18,oEx 19 0 14,oEx 20 1 14,oP 7 aZ [],oSf 7 19,oMv 8 20]
def c102r3:LO:=[oMv 21 8,oUn 22 .not 21]
def c102r4:LO:=[oMv 23 0,oCl 24 128 [.t 23],oSf 7 24]
def c102r5:LO:=[oMv 25 2,oFa 26 1 4,oLo 27 26,oLf 28 7,⟨none,(.mapset false (some 4)),[.t 25,.t 27,.t 28],none⟩]
def c102k6:ACode:=.cond (.t 22) (.seq (rT c102r4 [2,4,6,7]) (rT c102r5 [6,7])) .skip
def c102r7:LO:=[oLf 29 7,oSf 6 29]
def c102k8:ACode:=.cond (.t 13) (.seq (rT c102r2 [0,2,4,6,7,8]) (.seq (.seq (rT c102r3 [0,2,4,6,7,22]) c102k6) (.seq (rT c102r7 [6]) .ret))) .skip
def c102r9:LO:=[oLf 30 4,oP 9 aZ [],oSf 9 30]
def c102r10:LO:=[oFa 31 3 9,⟨none,(.store none),[.t 31,.c (.tsl (some 4) [])],none⟩]
def c102r11:LO:=[oFa 32 3 4,oLo 33 32,oUn 34 .len 33,oP 35 .mv [cIn 0]]
def c102r12:LO:=[oBi 36 .lss 35 34]
def c102k13:ACode:=kEx 36 0
def c102r14:LO:=[oIa 37 33 35,oLf 38 37,oP 11 aZ [],oSf 11 38]
def c102r15:LO:=[oFa 39 3 9,oLo 40 39,oMv 41 0,oLf 42 11,oMv 43 2,oP 44 (.calln 1) [.t 39,cFn 102,.t 41,.t 42,.t 43],oP 45 (.bslicen (some 4) 1) [.t 39,.t 44],oP 46 (.append (some 4)) [.t 40,.t 45],oFa 47 3 9,oSo 47 46]
def c102k16:ACode:=.block 1 (.seq (rT c102r14 [0,2,6,9,11,33,34,35]) (.region false c102r15 [0,2,6,9,33,34,35]))
def c102r17:LO:=[oBc 48 .add 35 1,oMv 35 48]
def c102b18:ACode:=.seq (rT c102r12 [0,2,6,9,33,34,35,36]) (.seq c102k13 (.seq c102k16 (rT c102r17 [0,2,6,9,33,34,35])))
def c102k19:ACode:=.block 0 (.loop [0,2,6,9,33,34,35] c102b18)
def c102r20:LO:=[oLf 49 9,oSf 6 49]
def c102:ACode:=.seq (rT c102r0 [0,2,4,6]) (.seq (.seq (rT c102r1 [0,2,4,6,13]) c102k8) (.seq (rT c102r9 [0,2,4,6,9]) (.seq (rT c102r10 [0,2,4,6,9]) (.seq (.seq (rT c102r11 [0,2,6,9,33,34,35]) c102k19) (.seq (rT c102r20 [6]) .ret)))))
def g102:AFn:=⟨3,[(6,some (some 4))],c102,true,[],[],none⟩
theorem tr102:trFn Tryz.prog true 102 Tryz.f102=some g102:=by kernel_rfl
def c103r0:LO:=[oBx 4 1,oBx 5 2,oP 6 (.nilsl (some 4)) []]
def c103r1:LO:=[oLf 10 5,oP 11 .callg [cFn 130,.t 10],oUn 12 .not 11,oLf 13 5,oP 14 .callg [cFn 123,cSt [108,105,115,116],.t 13],oCl 15 122 [.t 12,.t 14]]
def c103r2:LO:=[oP 7 (.nilsl (some 4)) []]
def c103r3:LO:=[oLf 16 4,oCl 17 49 [.t 16],oUn 18 .len 17,oP 19 .mv [cIn 0]]
def c103r4:LO:=[oBi 20 .lss 19 18]
def c103k5:ACode:=kEx 20 0
def c103r6:LO:=[oP 21 (.iaddr none) [.t 17,.t 19],oLo 22 21,oMv 9 22]
def c103r7:LO:=[oMv 23 7,oMv 24 9,oP 25 (bZ [0,1]) [cIn 0,.t 24],oUn 26 (.bslice (some 4)) 25,oP 27 (.append (some 4)) [.t 23,.t 26],oMv 7 27]
def c103k8:ACode:=.block 1 (.seq (rT c103r6 [0,7,9,17,18,19]) (rT c103r7 [0,7,17,18,19]))
def c103r9:LO:=[oBc 28 .add 19 1,oMv 19 28]
def c103b10:ACode:=.seq (rT c103r4 [0,7,17,18,19,20]) (.seq c103k5 (.seq c103k8 (rT c103r9 [0,7,17,18,19])))
def c103k11:ACode:=.block 0 (.loop [0,7,17,18,19] c103b10)
def c103r12:LO:=[oMv 29 0,oMv 30 7,oCl 31 125 [cSt [91,93]],oCl 32 131 [.t 30,.t 31],oCl 33 101 [.t 29,cIn 1,.t 32],oMv 6 33]
def c103:ACode:=.seq (rT c103r0 [0,4,5]) (.seq (rT c103r1 [0,4]) (.seq (rT c103r2 [0,4,7]) (.seq (.seq (rT c103r3 [0,7,17,18,19]) c103k11) (.seq (rT c103r12 [6]) .ret))))
def g103:AFn:=⟨3,[(6,none)],c103,true,[],[],none⟩
theorem tr103:trFn Tryz.prog true 103 Tryz.f103=some g103:=by kernel_rfl
def c104r0:LO:=[oBx 4 1,oBx 5 2,oP 6 (.nilsl (some 4)) [],oP 7 .mv [cIn 0]]
def c104r1:LO:=[oLf 10 5,oP 11 .callg [cFn 71,.t 10],oUn 12 .not 11,oMv 13 12,oG 14 (.load (some 4)) [.t 5] 13 true,oG 15 .callg [cFn 74,.t 14] 13 true,oG 16 .not [.t 15] 13 true,oP 17 .pick [.t 13,.t 16,cBo false],oLf 18 5,
 oP 19 .callg [cFn 123,cSt [105,110,116,101,103,101,114],.t 18],oCl 20 122 [.t 17,.t 19]]
def c104r2:LO:=[oLf 21 5,oP 22 .callg [cFn 74,.t 21],oMv 23 22,oG 24 (.faddr 1) [.t 5] 23 true,oG 25 (.load none) [.t 24] 23 true,oG 26 (.bin .lss) [.t 25,cIn 0] 23 true,oP 27 .pick [.t 23,.t 26,cBo false],oLf 28 5,oP 29 .callg [cFn 124,cSt [110,111,116,95,108,101,115,115,95,116,104,97,110,95,122,101,114,111],.t 28],
 oCl 30 122 [.t 27,.t 29]]
def c104r3:LO:=[oLf 31 4,oP 32 .callg [cFn 130,.t 31],oUn 33 .not 32,oLf 34 4,oP 35 .callg [cFn 123,cSt [108,105,115,116],.t 34],oCl 36 122 [.t 33,.t 35]]
def c104r4:LO:=[oLf 38 4,oCl 39 116 [.t 38],oMv 37 39,oEx 40 0 37,oEx 41 1 37,oP 9 aZ [],oMv 8 40,oSf 9 41]
def c104r5:LO:=[oLf 42 9,oCl 43 117 [.t 42]]
def c104r6:LO:=[oMv 44 0,oMv 45 8,oUn 46 .len 45,oCl 47 126 [.t 46],oCl 48 101 [.t 44,cIn 1,.t 47],oMv 6 48,oP 7 .mv [cIn 0]]
def c104k7:ACode:=kRt 43 c104r6 [6,7]
def c104r8:LO:=[oLf 49 5,oCl 50 71 [.t 49],oCl 51 122 [.t 50,cFn 69]]
def c104r9:LO:=[oFa 52 1 5,oLo 53 52,oMv 54 8,oUn 55 .len 54,oBi 56 .lss 53 55]
def c104r10:LO:=[oP 6 (.nilsl (some 4)) [],oP 7 .mv [cIn 0]]
def c104k11:ACode:=kRt 56 c104r10 [6,7]
def c104r12:LO:=[oFa 57 1 5,oLo 58 57,oBc 59 .gtr 58 2000]
def c104r13:LO:=[oP 6 (.nilsl (some 4)) [],oP 7 .mv [cIn 2]]
def c104k14:ACode:=kRt 59 c104r13 [6,7]
def c104r15:LO:=[oMv 60 8,oUn 61 .len 60,oFa 62 1 5,oLo 63 62,oBi 64 .lss 61 63]
def c104k16:ACode:=kEx 64 0
def c104r17:LO:=[oMv 65 8,oMv 66 0,oCl 67 128 [.t 66],oUn 68 (.bslice (some 4)) 67,oP 69 (.append (some 4)) [.t 65,.t 68],oMv 8 69]
def c104k18:ACode:=.block 1 (rT c104r17 [0,5,8])
def c104b19:ACode:=.seq (.seq (rT c104r15 [0,5,8,64]) c104k16) c104k18
def c104k20:ACode:=.block 0 (.loop [0,5,8] c104b19)
def c104r21:LO:=[oMv 70 0,oMv 71 8,oCl 72 125 [cSt [91,93]],oCl 73 131 [.t 71,.t 72],oCl 74 101 [.t 70,cIn 0,.t 73],oMv 6 74,oP 7 .mv [cIn 0]]
def c104:ACode:=.seq (rT c104r0 [0,4,5]) (.seq (rT c104r1 [0,4,5]) (.seq (rT c104r2 [0,4,5]) (.seq (rT c104r3 [0,4,5]) (.seq (rT c104r4 [0,5,8,9]) (.seq (.seq (rT c104r5 [0,5,8,43]) c104k7) (.seq (rT c104r8 [0,5,8]) (.seq (.seq (rT c104r9 [0,5,8,56]) c104k11) (.seq (.seq (rT c104r12 [0,5,8,59]) c104k14) (.seq c104k20 (.seq (rT c104r21 [6,7]) .ret))))))))))
def g104:AFn:=⟨3,[(6,none),(7,none)],c104,true,[],[],none⟩
theorem tr104:trFn Tryz.prog true 104 Tryz.f104=some g104:=by kernel_rfl
def c105r0:LO:=[oBx 5 1,oBx 6 2,oBx 7 3,oP 8 (.nilsl (some 4)) [],oP 9 .mv [cIn 0]]
def c105r1:LO:=[oLf 12 5,oCl 13 71 [.t 12],oMv 14 13,oG 15 (.load (some 4)) [.t 6] 14 false,oG 16 .call [cFn 71,.t 15] 14 false,oP 17 .pick [.t 14,cBo true,.t 16],oCl 18 122 [.t 17,cFn 69]]
def c105r2:LO:=[oLf 19 5,oP 20 .callg [cFn 74,.t 19],oUn 21 .not 20,oLf 22 5,oP 23 .callg [cFn 123,cSt [105,110,116,101,103,101,114],.t 22],oCl 24 122 [.t 21,.t 23]]
def c105r3:LO:=[oLf 25 6,oP 26 .callg [cFn 74,.t 25],oUn 27 .not 26,oLf 28 6,oP 29 .callg [cFn 123,cSt [105,110,116,101,103,101,114],.t 28],oCl 30 122 [.t 27,.t 29]]
def c105r4:LO:=[oLf 31 7,oP 32 .callg [cFn 71,.t 31],oUn 33 .not 32,oMv 34 33,oG 35 (.load (some 4)) [.t 7] 34 true,oG 36 .callg [cFn 74,.t 35] 34 true,oG 37 .not [.t 36] 34 true,oP 38 .pick [.t 34,.t 37,cBo false],oLf 39 7,
 oP 40 .callg [cFn 123,cSt [105,110,116,101,103,101,114],.t 39],oCl 41 122 [.t 38,.t 40]]
def c105r5:LO:=[oLf 42 7,oCl 43 74 [.t 42]]
def c105r6:LO:=[oMv 44 0,oFa 45 1 5,oLo 46 45,oFa 47 1 7,oLo 48 47,oBi 49 .leq 46 48,oMv 50 49,oG 51 (.faddr 1) [.t 7] 50 true,oG 52 (.load none) [.t 51] 50 true,oG 53 (.faddr 1) [.t 6] 50 true,oG 54 (.load none) [.t 53] 50 true,
 oG 55 (.bin .leq) [.t 52,.t 54] 50 true,oP 56 .pick [.t 50,.t 55,cBo false],oCl 57 96 [.t 44,.t 56],oMv 8 57,oP 9 .mv [cIn 0]]
def c105k7:ACode:=kRt 43 c105r6 [8,9]
def c105r8:LO:=[oFa 58 1 5,oLo 59 58,oFa 60 1 6,oLo 61 60,oBi 62 .gtr 59 61]
def c105r9:LO:=[oP 8 (.nilsl (some 4)) [],oP 9 .mv [cIn 0]]
def c105k10:ACode:=kRt 62 c105r9 [8,9]
def c105r11:LO:=[oFa 63 1 6,oLo 64 63,oUn 65 (.conv .u64) 64,oFa 66 1 5,oLo 67 66,oUn 68 (.conv .u64) 67,oBi 69 .sub 65 68,oP 70 (.bin .geq) [.t 69,.c (.pv none (.int .u64 1000))]]
def c105r12:LO:=[oP 8 (.nilsl (some 4)) [],oP 9 .mv [cIn 2]]
def c105k13:ACode:=kRt 70 c105r12 [8,9]
def c105r14:LO:=[oP 10 (.nilsl (some 4)) []]
def c105r15:LO:=[oFa 71 1 6,oLo 72 71,oFa 73 1 5,oLo 74 73,oBi 75 .sub 72 74,oBc 76 .add 75 1,oP 77 .mv [cIn 0]]
def c105r16:LO:=[oBi 78 .lss 77 76]
def c105k17:ACode:=kEx 78 0
def c105r18:LO:=[oMv 79 77,oMv 11 79]
def c105r19:LO:=[oMv 80 10,oMv 81 0,oFa 82 1 5,oLo 83 82,oMv 84 11,oBi 85 .add 83 84,oP 86 (bZ [0,1]) [cIn 1,.t 85],oCl 87 101 [.t 81,cIn 2,.t 86],oP 88 (.append (some 4)) [.t 80,.t 87],oMv 10 88]
def c105k20:ACode:=.block 1 (.seq (rT c105r18 [0,5,10,11,76,77]) (rT c105r19 [0,5,10,76,77]))
def c105r21:LO:=[oBc 89 .add 77 1,oMv 77 89]
def c105b22:ACode:=.seq (rT c105r16 [0,5,10,76,77,78]) (.seq c105k17 (.seq c105k20 (rT c105r21 [0,5,10,76,77])))
def c105k23:ACode:=.block 0 (.loop [0,5,10,76,77] c105b22)
def c105r24:LO:=[oMv 90 10,oMv 8 90,oP 9 .mv [cIn 0]]
def c105:ACode:=.seq (rT c105r0 [0,5,6,7]) (.seq (rT c105r1 [0,5,6,7]) (.seq (rT c105r2 [0,5,6,7]) (.seq (rT c105r3 [0,5,6,7]) (.seq (rT c105r4 [0,5,6,7]) (.seq (.seq (rT c105r5 [0,5,6,7,43]) c105k7) (.seq (.seq (rT c105r8 [0,5,6,62]) c105k10) (.seq (.seq (rT c105r11 [0,5,6,70]) c105k13) (.seq (rT c105r14 [0,5,6,10]) (.seq (.seq (rT c105r15 [0,5,10,76,77]) c105k23) (.seq (rT c105r24 [8,9]) .ret))))))))))
def g105:AFn:=⟨4,[(8,none),(9,none)],c105,true,[],[],none⟩
theorem tr105:trFn Tryz.prog true 105 Tryz.f105=some g105:=by kernel_rfl
def c106r0:LO:=[oBx 4 1,oBx 5 2,oP 6 (.nilsl (some 4)) []]
def c106r1:LO:=[oLf 12 4,oCl 13 132 [.t 12],oCl 14 122 [.t 13,cFn 69]]
def c106r2:LO:=[oLf 15 4,oP 16 .callg [cFn 77,.t 15],oUn 17 .not 16,oLf 18 4,oP 19 .callg [cFn 123,cSt [108,105,115,116],.t 18],oCl 20 122 [.t 17,.t 19]]
def c106r3:LO:=[oLf 22 4,oCl 23 116 [.t 22],oMv 21 23,oEx 24 0 21,oEx 25 1 21,oP 8 aZ [],oMv 7 24,oSf 8 25]
def c106r4:LO:=[oP 9 .mv [cFn 34]]
def c106r5:LO:=[oMv 26 0,oUn 27 .nilcheck 26,oFa 28 0 27,oFa 29 2 28,oLo 30 29]
def c106r6:LO:=[oP 32 (.bin .eql) [.t 30,cSt [115,111,114,116]],oMv 31 32]
def c106r7:LO:=[oP 9 .mv [cFn 35]]
def c106r8:LO:=[oP 34 (.bin .eql) [.t 30,cSt [107,101,121,115,111,114,116]],oMv 33 34]
def c106r9:LO:=[oP 9 .mv [cFn 36]]
def c106r10:LO:=[oMv 35 7,oUn 36 .len 35,oP 37 .mv [cIn 0]]
def c106r11:LO:=[oBi 38 .lss 37 36]
def c106k12:ACode:=kEx 38 1
def c106r13:LO:=[oIa 39 35 37,oLf 40 39,oP 11 aZ [],oSf 11 40]
def c106r14:LO:=[oLf 41 11,oCl 42 71 [.t 41],oCl 43 122 [.t 42,cFn 69]]
def c106r15:LO:=[oLf 44 11,oP 45 .callg [cFn 47,.t 44],oUn 46 .not 45,oMv 47 46,oG 48 (.faddr 2) [.t 11] 47 false,oG 49 (.load none) [.t 48] 47 false,oG 50 (.bin .neq) [.t 49,cSt [45]] 47 false,oP 51 .pick [.t 47,cBo true,.t 50],
 oMv 52 51,oG 53 (.faddr 3) [.t 11] 52 false,oG 54 (.load none) [.t 53] 52 false,oG 55 .len [.t 54] 52 false,oG 56 (.bin .neq) [.t 55,cIn 2] 52 false,oP 57 .pick [.t 52,cBo true,.t 56],oLf 58 11,oP 59 .callg [cFn 123,cSt [112,97,105,114],.t 58],
 oCl 60 122 [.t 57,.t 59]]
def c106k16:ACode:=.block 2 (.seq (rT c106r13 [0,5,7,9,11,35,36,37]) (.seq (rT c106r14 [0,5,7,9,11,35,36,37]) (rT c106r15 [0,5,7,9,35,36,37])))
def c106r17:LO:=[oBc 61 .add 37 1,oMv 37 61]
def c106b18:ACode:=.seq (rT c106r11 [0,5,7,9,35,36,37,38]) (.seq c106k12 (.seq c106k16 (rT c106r17 [0,5,7,9,35,36,37])))
def c106k19:ACode:=.block 1 (.loop [0,5,7,9,35,36,37] c106b18)
def c106k20:ACode:=.cond (.t 33) (.seq (rT c106r9 [0,5,7,9]) (.seq (rT c106r10 [0,5,7,9,35,36,37]) c106k19)) .skip
def c106k21:ACode:=.cond (.t 31) (rT c106r7 [0,5,7,9]) (.seq (rT c106r8 [0,5,7,9,33]) c106k20)
def c106k22:ACode:=.block 0 (.seq (rT c106r6 [0,5,7,9,30,31]) c106k21)
def c106r23:LO:=[oLf 62 5,oP 63 .callg [cFn 130,.t 62],oUn 64 .not 63,oLf 65 5,oP 66 .callg [cFn 123,cSt [108,105,115,116],.t 65],oCl 67 122 [.t 64,.t 66]]
def c106r24:LO:=[oMv 69 9,oMv 70 7,oP 71 .call [.t 69,.t 70],oMv 68 71,oEx 72 0 68,oEx 73 1 68,oMv 7 72]
def c106r25:LO:=[oMv 74 0,oMv 75 7,oCl 76 125 [cSt [91,93]],oCl 77 131 [.t 75,.t 76],oCl 78 101 [.t 74,cIn 1,.t 77],oMv 6 78]
def c106:ACode:=.seq (rT c106r0 [0,4,5]) (.seq (rT c106r1 [0,4,5]) (.seq (rT c106r2 [0,4,5]) (.seq (rT c106r3 [0,5,7]) (.seq (rT c106r4 [0,5,7,9]) (.seq (.seq (rT c106r5 [0,5,7,9,30]) c106k22) (.seq (rT c106r23 [0,7,9]) (.seq (rT c106r24 [0,7]) (.seq (rT c106r25 [6]) .ret))))))))
def g106:AFn:=⟨3,[(6,none)],c106,true,[],[],none⟩
theorem tr106:trFn Tryz.prog true 106 Tryz.f106=some g106:=by kernel_rfl
def c107r0:LO:=[oBx 1 0,oP 2 aZ []]
def c107r1:LO:=[oLf 3 1,oSf 2 3]
def c107:ACode:=.seq (rT c107r0 [1,2]) (.seq (rT c107r1 [2]) .ret)
def g107:AFn:=⟨1,[(2,some (some 4))],c107,false,[],[],none⟩
theorem tr107:trFn Tryz.prog false 107 Tryz.f107=some g107:=by kernel_rfl
def c108r0:LO:=[oP 6 .mv [cBo false]]
def c108r1:LO:=[oMv 11 2,oMv 12 1,oP 13 (.lookup false none (.pv none (.int .i64 0)) false) [.t 11,.t 12],oBc 14 .neq 13 0]
def c108r2:LO:=[oMv 15 2,oMv 16 1,oP 17 (.lookup false none (.pv none (.int .i64 0)) false) [.t 15,.t 16],oBc 18 .eql 17 1,oMv 6 18]
def c108k3:ACode:=kRt 14 c108r2 [6]
def c108r4:LO:=[oMv 20 0,oMv 21 1,oP 22 (bZ [1]) [.t 21],oCl 23 133 [.t 20,.t 22],oMv 19 23,oEx 24 0 19,oEx 25 1 19,oP 7 aZ [],oSf 7 24,oMv 8 25]
def c108r5:LO:=[oMv 26 8,oUn 27 .not 26]
def c108r6:LO:=[oP 6 .mv [cBo false]]
def c108k7:ACode:=kRt 27 c108r6 [6]
def c108r8:LO:=[oMv 28 2,oMv 29 1,⟨none,(.mapset false none),[.t 28,.t 29,cIn 1],none⟩]
def c108r9:LO:=[oLf 30 7,oCl 31 49 [.t 30],oUn 32 .len 31,oP 33 .mv [cIn 0]]
def c108r10:LO:=[oBi 34 .lss 33 32]
def c108k11:ACode:=kEx 34 0
def c108r12:LO:=[oP 35 (.iaddr none) [.t 31,.t 33],oLo 36 35,oMv 10 36]
def c108r13:LO:=[oMv 37 0,oMv 38 10,oMv 39 2,oCl 40 108 [.t 37,.t 38,.t 39]]
def c108r14:LO:=[oP 6 .mv [cBo true]]
def c108k15:ACode:=kRt 40 c108r14 [6]
def c108k16:ACode:=.block 1 (.seq (rT c108r12 [0,1,2,10,31,32,33]) (.seq (rT c108r13 [0,1,2,31,32,33,40]) c108k15))
def c108r17:LO:=[oBc 41 .add 33 1,oMv 33 41]
def c108b18:ACode:=.seq (rT c108r10 [0,1,2,31,32,33,34]) (.seq c108k11 (.seq c108k16 (rT c108r17 [0,1,2,31,32,33])))
def c108k19:ACode:=.block 0 (.loop [0,1,2,31,32,33] c108b18)
def c108r20:LO:=[oMv 42 2,oMv 43 1,⟨none,(.mapset false none),[.t 42,.t 43,cIn 2],none⟩]
def c108r21:LO:=[oP 6 .mv [cBo false]]
def c108:ACode:=.seq (rT c108r0 [0,1,2]) (.seq (.seq (rT c108r1 [0,1,2,14]) c108k3) (.seq (rT c108r4 [0,1,2,7,8]) (.seq (.seq (rT c108r5 [0,1,2,7,27]) c108k7) (.seq (rT c108r8 [0,1,2,7]) (.seq (.seq (rT c108r9 [0,1,2,31,32,33]) c108k19) (.seq (rT c108r20 []) (.seq (rT c108r21 [6]) .ret)))))))
def g108:AFn:=⟨3,[(6,none)],c108,true,[],[],none⟩
theorem tr108:trFn Tryz.prog true 108 Tryz.f108=some g108:=by kernel_rfl
def c109r0:LO:=[oBx 3 1,oP 4 aZ []]
def c109r1:LO:=[oMv 8 0,oLf 9 3,oCl 10 133 [.t 8,.t 9],oMv 7 10,oEx 11 0 7,oEx 12 1 7,oP 5 aZ [],oSf 5 11,oMv 6 12]
def c109r2:LO:=[oMv 13 6,oUn 14 .not 13]
def c109r3:LO:=[oLf 15 3,oSf 4 15]
def c109k4:ACode:=kRt 14 c109r3 [4]
def c109r5:LO:=[oLf 16 5,oSf 3 16]
def c109k6:ACode:=.block 1 (.seq (rT c109r1 [0,3,4,5,6]) (.seq (.seq (rT c109r2 [0,3,4,5,14]) c109k4) (rT c109r5 [0,3,4])))
def c109b7:ACode:=c109k6
def c109k8:ACode:=.block 0 (.loop [0,3,4] c109b7)
def c109:ACode:=.seq (rT c109r0 [0,3,4]) c109k8
def g109:AFn:=⟨2,[(4,some (some 4))],c109,true,[],[],none⟩
theorem tr109:trFn Tryz.prog true 109 Tryz.f109=some g109:=by kernel_rfl
def c110r0:LO:=[oBx 4 1,oBx 5 2,oP 6 .mv [cBo false]]
def c110r1:LO:=[oFa 8 0 4,oLo 9 8,oBc 10 .eql 9 0,oMv 11 10,oG 12 (.faddr 0) [.t 5] 11 true,oG 13 (.load none) [.t 12] 11 true,oG 14 (.bin .eql) [.t 13,cIn 0] 11 true,oP 15 .pick [.t 11,.t 14,cBo false],oMv 7 15]
def c110r2:LO:=[oFa 16 1 4,oLo 17 16,oFa 18 1 5,oLo 19 18,oBi 20 .neq 17 19]
def c110r3:LO:=[oMv 21 0,oFa 22 1 4,oLo 23 22,oFa 24 1 5,oLo 25 24,oP 26 .max [.t 23,.t 25],oFa 27 1 4,oLo 28 27,oFa 29 1 5,oLo 30 29,oP 31 .min [.t 28,.t 30],oP 32 (bZ [1]) [.t 31],oCl 33 134 [.t 21,.t 26,.t 32]]
def c110k4:ACode:=.cond (.t 20) (rT c110r3 []) .skip
def c110r5:LO:=[oFa 35 0 4,oLo 36 35,oBc 37 .eql 36 0,oMv 34 37]
def c110r6:LO:=[oMv 38 0,oFa 39 1 4,oLo 40 39,oLf 41 5,oCl 42 134 [.t 38,.t 40,.t 41]]
def c110r7:LO:=[oFa 44 0 5,oLo 45 44,oBc 46 .eql 45 0,oMv 43 46]
def c110r8:LO:=[oMv 47 0,oFa 48 1 5,oLo 49 48,oLf 50 4,oCl 51 134 [.t 47,.t 49,.t 50]]
def c110r9:LO:=[oFa 53 0 4,oLo 54 53,oFa 55 0 5,oLo 56 55,oBi 57 .neq 54 56,oMv 58 57,oG 59 (.faddr 1) [.t 4] 58 false,oG 60 (.load none) [.t 59] 58 false,oG 61 (.faddr 1) [.t 5] 58 false,oG 62 (.load none) [.t 61] 58 false,
 oG 63 (.bin .neq) [.t 60,.t 62] 58 false,oP 64 .pick [.t 58,cBo true,.t 63],oMv 65 64,oG 66 (.faddr 2) [.t 4] 65 false,oG 67 (.load none) [.t 66] 65 false,oG 68 (.faddr 2) [.t 5] 65 false,oG 69 (.load none) [.t 68] 65 false,
 oG 70 (.bin .neq) [.t 67,.t 69] 65 false,oP 71 .pick [.t 65,cBo true,.t 70],oMv 72 71,oG 73 (.faddr 3) [.t 4] 72 false,oG 74 (.load none) [.t 73] 72 false,oG 75 .len [.t 74] 72 false,oG 76 (.faddr 3) [.t 5] 72 false,oG 77 (.load none) [.t 76] 72 false,
 oG 78 .len [.t 77] 72 false,oG 79 (.bin .neq) [.t 75,.t 78] 72 false,oP 80 .pick [.t 72,cBo true,.t 79],oMv 52 80]
def c110r10:LO:=[oP 81 (.build [(none,(.pv none (.int .i64 0)))] [0]) [cIn 4],oUn 82 (.mkiface 82) 81,⟨none,.panic,[.t 82],none⟩]
def c110r11:LO:=[oP 6 .mv [cBo true]]
def c110k12:ACode:=.cond (.t 52) (rT c110r10 []) (.seq (rT c110r11 [6]) .ret)
def c110k13:ACode:=.cond (.t 43) (rT c110r8 []) (.seq (rT c110r9 [52]) c110k12)
def c110k14:ACode:=.cond (.t 34) (rT c110r6 []) (.seq (rT c110r7 [0,4,5,43]) c110k13)
def c110k15:ACode:=.cond (.t 7) (.seq (rT c110r2 [0,4,5,20]) c110k4) (.seq (rT c110r5 [0,4,5,34]) c110k14)
def c110k16:ACode:=.block 0 (.seq (rT c110r1 [0,4,5,7]) c110k15)
def c110r17:LO:=[oP 6 .mv [cBo false]]
def c110:ACode:=.seq (rT c110r0 [0,4,5]) (.seq c110k16 (.seq (rT c110r17 [6]) .ret))
def g110:AFn:=⟨3,[(6,none)],c110,true,[],[],none⟩
theorem tr110:trFn Tryz.prog true 110 Tryz.f110=some g110:=by kernel_rfl
def c111r0:LO:=[oBx 1 0,oP 2 .mv [cBo false]]
def c111r1:LO:=[oFa 3 0 1,oLo 4 3]
def c111r2:LO:=[oBc 6 .eql 4 0,oMv 5 6]
def c111r3:LO:=[oFa 7 1 1,oLo 8 7,oBc 9 .geq 8 0,oMv 10 9,oG 11 (.faddr 1) [.t 1] 10 true,oG 12 (.load none) [.t 11] 10 true,oG 13 (.bin .leq) [.t 12,cIn 1099511627776] 10 true,oP 14 .pick [.t 10,.t 13,cBo false],oMv 15 14,
 oG 16 (.faddr 2) [.t 1] 15 true,oG 17 (.load none) [.t 16] 15 true,oG 18 (.bin .eql) [.t 17,cSt []] 15 true,oP 19 .pick [.t 15,.t 18,cBo false],oMv 20 19,oG 21 (.faddr 3) [.t 1] 20 true,oG 22 (.load none) [.t 21] 20 true,
 oG 23 .len [.t 22] 20 true,oG 24 (.bin .eql) [.t 23,cIn 0] 20 true,oP 25 .pick [.t 20,.t 24,cBo false],oMv 2 25]
def c111r4:LO:=[oBc 27 .eql 4 1,oMv 26 27]
def c111r5:LO:=[oFa 28 2 1,oLo 29 28,oP 30 (.bin .eql) [.t 29,cSt []],oMv 31 30,oG 32 (.faddr 3) [.t 1] 31 true,oG 33 (.load none) [.t 32] 31 true,oG 34 .len [.t 33] 31 true,oG 35 (.bin .eql) [.t 34,cIn 0] 31 true,oP 36 .pick [.t 31,.t 35,cBo false],
 oMv 2 36]
def c111r6:LO:=[oBc 38 .eql 4 2,oMv 37 38]
def c111r7:LO:=[oFa 39 1 1,oLo 40 39,oBc 41 .eql 40 0,oMv 42 41,oG 43 (.faddr 2) [.t 1] 42 true,oG 44 (.load none) [.t 43] 42 true,oG 45 .slen [.t 44] 42 true,oG 46 (.bin .leq) [.t 45,cIn 100] 42 true,oP 47 .pick [.t 42,.t 46,cBo false],
 oMv 48 47,oG 49 (.faddr 3) [.t 1] 48 true,oG 50 (.load none) [.t 49] 48 true,oG 51 .len [.t 50] 48 true,oG 52 (.bin .eql) [.t 51,cIn 0] 48 true,oP 53 .pick [.t 48,.t 52,cBo false],oMv 2 53]
def c111r8:LO:=[oBc 55 .eql 4 3,oMv 54 55]
def c111r9:LO:=[oFa 56 1 1,oLo 57 56,oBc 58 .eql 57 0,oMv 59 58,oG 60 (.faddr 2) [.t 1] 59 true,oG 61 (.load none) [.t 60] 59 true,oG 62 .slen [.t 61] 59 true,oG 63 (.bin .leq) [.t 62,cIn 100] 59 true,oP 64 .pick [.t 59,.t 63,cBo false],
 oMv 65 64,oG 66 (.faddr 3) [.t 1] 65 true,oG 67 (.load none) [.t 66] 65 true,oG 68 .len [.t 67] 65 true,oG 69 (.bin .geq) [.t 68,cIn 1] 65 true,oP 70 .pick [.t 65,.t 69,cBo false],oMv 71 70,oG 72 (.faddr 3) [.t 1] 71 true,
 oG 73 (.load none) [.t 72] 71 true,oG 74 .len [.t 73] 71 true,oG 75 (.bin .leq) [.t 74,cIn 8] 71 true,oP 76 .pick [.t 71,.t 75,cBo false],oMv 2 76]
def c111k10:ACode:=kRt 54 c111r9 [2]
def c111k11:ACode:=.cond (.t 37) (.seq (rT c111r7 [2]) .ret) (.seq (rT c111r8 [1,54]) c111k10)
def c111k12:ACode:=.cond (.t 26) (.seq (rT c111r5 [2]) .ret) (.seq (rT c111r6 [1,4,37]) c111k11)
def c111k13:ACode:=.cond (.t 5) (.seq (rT c111r3 [2]) .ret) (.seq (rT c111r4 [1,4,26]) c111k12)
def c111k14:ACode:=.block 0 (.seq (rT c111r2 [1,4,5]) c111k13)
def c111r15:LO:=[oP 2 .mv [cBo false]]
def c111:ACode:=.seq (rT c111r0 [1]) (.seq (.seq (rT c111r1 [1,4]) c111k14) (.seq (rT c111r15 [2]) .ret))
def g111:AFn:=⟨1,[(2,none)],c111,false,[],[],none⟩
theorem tr111:trFn Tryz.prog false 111 Tryz.f111=some g111:=by kernel_rfl
def c112r0:LO:=[oP 4 .mv [cIn 0]]
def c112r1:LO:=[oP 5 .mv [cIn 0]]
def c112r2:LO:=[oMv 6 5,oMv 7 0,oUn 8 .len 7,oBi 9 .lss 6 8]
def c112k3:ACode:=kEx 9 0
def c112r4:LO:=[oMv 12 0,oMv 13 5,oP 14 (.iaddr none) [.t 12,.t 13],oLo 15 14,oMv 16 1,oBi 17 .eql 15 16]
def c112r5:LO:=[oMv 18 5,oMv 4 18]
def c112k6:ACode:=kRt 17 c112r5 [4]
def c112k7:ACode:=.block 1 (.seq (rT c112r4 [0,1,5,17]) c112k6)
def c112r8:LO:=[oMv 10 5,oBc 11 .add 10 1,oMv 5 11]
def c112b9:ACode:=.seq (.seq (rT c112r2 [0,1,5,9]) c112k3) (.seq c112k7 (rT c112r8 [0,1,5]))
def c112k10:ACode:=.block 0 (.loop [0,1,5] c112b9)
def c112r11:LO:=[oP 4 .mv [.c (.pv none (.int .i64 (-1)))]]
def c112:ACode:=.seq (rT c112r0 [0,1]) (.seq (.seq (rT c112r1 [0,1,5]) c112k10) (.seq (rT c112r11 [4]) .ret))
def g112:AFn:=⟨2,[(4,none)],c112,false,[],[],none⟩
theorem tr112:trFn Tryz.prog false 112 Tryz.f112=some g112:=by kernel_rfl
def c113r0:LO:=[oMv 4 0,oMv 5 0,oUn 6 .len 5,oMv 7 1,oCl 8 135 [.t 4,.t 6,.t 7]]
def c113:ACode:=rT c113r0 []
def g113:AFn:=⟨2,[],c113,true,[],[],none⟩
theorem tr113:trFn Tryz.prog true 113 Tryz.f113=some g113:=by kernel_rfl
def c114r0:LO:=[oP 4 aZ []]
def c114r1:LO:=[oMv 5 0,oMv 6 1,oCl 7 136 [.t 5,.t 6],oCl 8 137 [cSt [91,93]],oP 9 (.bslice (some 4)) [.t 7,.t 8],oCl 10 136 [cSt [101,114,114,111,114],.t 9],oSf 4 10]
def c114:ACode:=.seq (rT c114r0 [0,1,4]) (.seq (rT c114r1 [4]) .ret)
def g114:AFn:=⟨2,[(4,some (some 4))],c114,false,[],[],none⟩
theorem tr114:trFn Tryz.prog false 114 Tryz.f114=some g114:=by kernel_rfl
def c115r0:LO:=[oBx 3 0,oP 6 aZ []]
def c115r1:LO:=[oLf 10 3,oCl 11 43 [.t 10],oUn 12 .not 11]
def c115r2:LO:=[oP 13 (bZ []) [],oSf 6 13]
def c115k3:ACode:=kRt 12 c115r2 [6]
def c115r4:LO:=[oP 7 (.nilsl (some 4)) []]
def c115r5:LO:=[oMv 14 2,oUn 15 .len 14,oP 16 .mv [cIn 0]]
def c115r6:LO:=[oBi 17 .lss 16 15]
def c115k7:ACode:=kEx 17 0
def c115r8:LO:=[oP 18 (.iaddr none) [.t 14,.t 16],oLo 19 18,oMv 9 19]
def c115r9:LO:=[oMv 20 9,oUn 21 .slen 20,oBc 22 .gtr 21 100]
def c115r10:LO:=[oP 23 (bZ []) [],oSf 6 23]
def c115k11:ACode:=kRt 22 c115r10 [6]
def c115r12:LO:=[oMv 24 7,oMv 25 9,oCl 26 137 [.t 25],oUn 27 (.bslice (some 4)) 26,oP 28 (.append (some 4)) [.t 24,.t 27],oMv 7 28]
def c115k13:ACode:=.block 1 (.seq (rT c115r8 [1,2,3,6,7,9,14,15,16]) (.seq (.seq (rT c115r9 [1,2,3,6,7,9,14,15,16,22]) c115k11) (rT c115r12 [1,2,3,6,7,14,15,16])))
def c115r14:LO:=[oBc 29 .add 16 1,oMv 16 29]
def c115b15:ACode:=.seq (rT c115r6 [1,2,3,6,7,14,15,16,17]) (.seq c115k7 (.seq c115k13 (rT c115r14 [1,2,3,6,7,14,15,16])))
def c115k16:ACode:=.block 0 (.loop [1,2,3,6,7,14,15,16] c115b15)
def c115r17:LO:=[oMv 30 2,oUn 31 .len 30,oP 32 (.bin .add) [cIn 3,.t 31],oLf 33 3,oCl 34 86 [.t 33],oBi 35 .add 32 34,oBc 36 .gtr 35 2000]
def c115r18:LO:=[oCl 37 137 [cSt [46,46,46]],oSf 3 37]
def c115k19:ACode:=.cond (.t 36) (rT c115r18 [1,3,6,7]) .skip
def c115r20:LO:=[oMv 38 1,oMv 39 7,oLf 40 3,oUn 41 (.bslice (some 4)) 40,oP 42 (.append (some 4)) [.t 39,.t 41],oCl 43 114 [.t 38,.t 42],oSf 6 43]
def c115:ACode:=.seq (rT c115r0 [1,2,3,6]) (.seq (.seq (rT c115r1 [1,2,3,6,12]) c115k3) (.seq (rT c115r4 [1,2,3,6,7]) (.seq (.seq (rT c115r5 [1,2,3,6,7,14,15,16]) c115k16) (.seq (.seq (rT c115r17 [1,3,6,7,36]) c115k19) (.seq (rT c115r20 [6]) .ret)))))
def g115:AFn:=⟨3,[(6,some (some 4))],c115,false,[],[],none⟩
theorem tr115:trFn Tryz.prog false 115 Tryz.f115=some g115:=by kernel_rfl
def c116r0:LO:=[oBx 1 0,oP 2 (.nilsl (some 4)) [],oP 3 aZ []]
def c116r1:LO:=[oLf 5 1,oCl 6 43 [.t 5],oUn 7 .not 6]
def c116r2:LO:=[oP 8 (bZ []) [],oP 2 (.nilsl (some 4)) [],oSf 3 8]
def c116k3:ACode:=kRt 7 c116r2 [2,3]
def c116r4:LO:=[oP 4 (.nilsl (some 4)) []]
def c116r5:LO:=[oFa 9 0 1,oLo 10 9,oBc 11 .eql 10 3,oMv 12 11,oG 13 (.faddr 2) [.t 1] 12 true,oG 14 (.load none) [.t 13] 12 true,oG 15 (.bin .eql) [.t 14,cSt [46]] 12 true,oP 16 .pick [.t 12,.t 15,cBo false],oMv 17 16,
 oG 18 (.faddr 3) [.t 1] 17 true,oG 19 (.load none) [.t 18] 17 true,oG 20 .len [.t 19] 17 true,oG 21 (.bin .eql) [.t 20,cIn 2] 17 true,oP 22 .pick [.t 17,.t 21,cBo false]]
def c116k6:ACode:=kEx 22 0
def c116r7:LO:=[oMv 23 4,oFa 24 3 1,oLo 25 24,oP 26 (.iaddr (some 4)) [.t 25,cIn 0],oLf 27 26,oCl 28 51 [.t 27],oUn 29 (.bslice (some 4)) 28,oP 30 (.append (some 4)) [.t 23,.t 29],oMv 4 30]
def c116r8:LO:=[oFa 31 3 1,oLo 32 31,oP 33 (.iaddr (some 4)) [.t 32,cIn 1],oLf 34 33,oSf 1 34]
def c116k9:ACode:=.block 1 (.seq (rT c116r7 [1,3,4]) (rT c116r8 [1,3,4]))
def c116b10:ACode:=.seq (.seq (rT c116r5 [1,3,4,22]) c116k6) c116k9
def c116k11:ACode:=.block 0 (.loop [1,3,4] c116b10)
def c116r12:LO:=[oMv 35 4,oLf 36 1,oCl 37 51 [.t 36],oMv 2 35,oSf 3 37]
def c116:ACode:=.seq (rT c116r0 [1,3]) (.seq (.seq (rT c116r1 [1,3,7]) c116k3) (.seq (rT c116r4 [1,3,4]) (.seq c116k11 (.seq (rT c116r12 [2,3]) .ret))))
def g116:AFn:=⟨1,[(2,none),(3,some (some 4))],c116,true,[],[],none⟩
theorem tr116:trFn Tryz.prog true 116 Tryz.f116=some g116:=by kernel_rfl
def c117r0:LO:=[oBx 1 0,oP 2 .mv [cBo false]]
def c117r1:LO:=[oLf 3 1,oCl 4 73 [.t 3],oMv 5 4,oG 6 (.faddr 2) [.t 1] 5 true,oG 7 (.load none) [.t 6] 5 true,oG 8 (.bin .eql) [.t 7,cSt [91,93]] 5 true,oP 9 .pick [.t 5,.t 8,cBo false],oMv 2 9]
def c117:ACode:=.seq (rT c117r0 [1]) (.seq (rT c117r1 [2]) .ret)
def g117:AFn:=⟨1,[(2,none)],c117,false,[],[],none⟩
theorem tr117:trFn Tryz.prog false 117 Tryz.f117=some g117:=by kernel_rfl
def c118r0:LO:=[oBx 3 0]
def c118r1:LO:=[oLo 5 1,oBc 6 .sub 5 1,oSo 1 6]
def c118r2:LO:=[oP 4 .mv [cIn 0]]
def c118r3:LO:=[oMv 7 4,oFa 8 3 3,oLo 9 8,oUn 10 .len 9,oBi 11 .lss 7 10,oMv 12 11,oG 13 (.load none) [.t 1] 12 true,oG 14 (.bin .gtr) [.t 13,cIn 0] 12 true,oP 15 .pick [.t 12,.t 14,cBo false]]
def c118k4:ACode:=kEx 15 0
def c118r5:LO:=[oLo 18 2,oFa 19 3 3,oLo 20 19,oMv 21 4,oIa 22 20 21,oLf 23 22,oP 24 .call [.t 18,.t 23]]
def c118k6:ACode:=.block 1 (rT c118r5 [1,2,3,4])
def c118r7:LO:=[oMv 16 4,oBc 17 .add 16 1,oMv 4 17]
def c118b8:ACode:=.seq (.seq (rT c118r3 [1,2,3,4,15]) c118k4) (.seq c118k6 (rT c118r7 [1,2,3,4]))
def c118k9:ACode:=.block 0 (.loop [1,2,3,4] c118b8)
def c118:ACode:=.seq (rT c118r0 [1,2,3]) (.seq (rT c118r1 [1,2,3]) (.seq (rT c118r2 [1,2,3,4]) c118k9))
def g118:AFn:=⟨3,[],c118,true,[],[],none⟩
theorem tr118:trFn Tryz.prog true 118 Tryz.f118=some g118:=by kernel_rfl
def c119r0:LO:=[oP 2 .mv [cBo false]]
def c119r1:LO:=[oMv 3 0,oMv 4 0,oBi 5 .neq 3 4,oMv 2 5]
def c119:ACode:=.seq (rT c119r0 [0]) (.seq (rT c119r1 [2]) .ret)
def g119:AFn:=⟨1,[(2,none)],c119,false,[],[],none⟩
theorem tr119:trFn Tryz.prog false 119 Tryz.f119=some g119:=by kernel_rfl
def c120r0:LO:=[oP 2 .mv [cBo false]]
def c120r1:LO:=[oMv 3 0,oMv 4 0,oBi 5 .neq 3 4,oMv 2 5]
def c120:ACode:=.seq (rT c120r0 [0]) (.seq (rT c120r1 [2]) .ret)
def g120:AFn:=⟨1,[(2,none)],c120,false,[],[],none⟩
theorem tr120:trFn Tryz.prog false 120 Tryz.f120=some g120:=by kernel_rfl
def c121r0:LO:=[oP 4 .mv [cIn 0]]
def c121r1:LO:=[oMv 5 0,oMv 6 1,oCl 7 138 [.t 5,.t 6],oMv 4 7]
def c121:ACode:=.seq (rT c121r0 [0,1]) (.seq (rT c121r1 [4]) .ret)
def g121:AFn:=⟨2,[(4,none)],c121,false,[],[],none⟩
theorem tr121:trFn Tryz.prog false 121 Tryz.f121=some g121:=by kernel_rfl
def c122r0:LO:=[oMv 4 0]
def c122r1:LO:=[oMv 5 1,oUn 6 .call 5,oP 7 (.build [((some 4),(.agg [(none,(.pv none (.int .i64 0))),(none,(.pv none (.int .i64 0))),(none,(.pv none (.str []))),(none,(.tsl (some 4) []))]))] [0]) [.t 6],oUn 8 (.mkiface 74) 7,
 ⟨none,.panic,[.t 8],none⟩]
def c122k2:ACode:=.cond (.t 4) (rT c122r1 []) .skip
def c122:ACode:=.seq (rT c122r0 [1,4]) c122k2
def g122:AFn:=⟨2,[],c122,true,[],[],none⟩
theorem tr122:trFn Tryz.prog true 122 Tryz.f122=some g122:=by kernel_rfl
def c123r0:LO:=[oUn 2 (.box none) 0,oBx 3 1,oP 4 .mv [.c (.pv none .nilfunc)]]
def c123r1:LO:=[oP 5 (.mkfunc (.func 139) 0) [.t 2,.t 3],oMv 4 5]
def c123:ACode:=.seq (rT c123r0 [2,3]) (.seq (rT c123r1 [4]) .ret)
def g123:AFn:=⟨2,[(4,none)],c123,true,[],[],none⟩
theorem tr123:trFn Tryz.prog true 123 Tryz.f123=some g123:=by kernel_rfl
def c124r0:LO:=[oUn 2 (.box none) 0,oBx 3 1,oP 4 .mv [.c (.pv none .nilfunc)]]
def c124r1:LO:=[oP 5 (.mkfunc (.func 140) 0) [.t 2,.t 3],oMv 4 5]
def c124:ACode:=.seq (rT c124r0 [2,3]) (.seq (rT c124r1 [4]) .ret)
def g124:AFn:=⟨2,[(4,none)],c124,true,[],[],none⟩
theorem tr124:trFn Tryz.prog true 124 Tryz.f124=some g124:=by kernel_rfl
def c125r0:LO:=[oP 2 aZ []]
def c125r1:LO:=[oMv 3 0,oP 4 (bZ [0,2]) [cIn 2,.t 3],oSf 2 4]
def c125:ACode:=.seq (rT c125r0 [0,2]) (.seq (rT c125r1 [2]) .ret)
def g125:AFn:=⟨1,[(2,some (some 4))],c125,false,[],[],none⟩
theorem tr125:trFn Tryz.prog false 125 Tryz.f125=some g125:=by kernel_rfl
def c126r0:LO:=[oP 2 aZ []]
def c126r1:LO:=[oMv 3 0,oP 4 (bZ [0,1]) [cIn 1,.t 3],oSf 2 4]
def c126:ACode:=.seq (rT c126r0 [0,2]) (.seq (rT c126r1 [2]) .ret)
def g126:AFn:=⟨1,[(2,some (some 4))],c126,false,[],[],none⟩
theorem tr126:trFn Tryz.prog false 126 Tryz.f126=some g126:=by kernel_rfl
def c127r0:LO:=[oP 0 aZ []]
def c127r1:LO:=[oCl 1 142 [cSt [109,97,120,95,97,114,105,116,121]],oSf 0 1]
def c127:ACode:=.seq (rT c127r0 [0]) (.seq (rT c127r1 [0]) .ret)
def g127:AFn:=⟨0,[(0,some (some 4))],c127,false,[],[],none⟩
theorem tr127:trFn Tryz.prog false 127 Tryz.f127=some g127:=by kernel_rfl
def c128r0:LO:=[oP 2 aZ []]
def c128r1:LO:=[oMv 3 0,oUn 4 .nilcheck 3,oFa 5 4 4,oLo 6 5,oBc 7 .add 6 1,oUn 8 .nilcheck 3,oFa 9 4 8,oSo 9 7]
def c128r2:LO:=[oMv 10 0,oUn 11 .nilcheck 10,oFa 12 4 11,oLo 13 12,oBc 14 .sub 13 1,oP 15 (bZ [0,1]) [cIn 0,.t 14],oSf 2 15]
def c128:ACode:=.seq (rT c128r0 [0,2]) (.seq (rT c128r1 [0,2]) (.seq (rT c128r2 [2]) .ret))
def g128:AFn:=⟨1,[(2,some (some 4))],c128,true,[],[],none⟩
theorem tr128:trFn Tryz.prog true 128 Tryz.f128=some g128:=by kernel_rfl
def c129r0:LO:=[oP 4 aZ []]
def c129r1:LO:=[oMv 5 0,oMv 6 1,oP 7 (bZ [0,2,3]) [cIn 3,.t 5,.t 6],oSf 4 7]
def c129:ACode:=.seq (rT c129r0 [0,1,4]) (.seq (rT c129r1 [4]) .ret)
def g129:AFn:=⟨2,[(4,some (some 4))],c129,false,[],[],none⟩
theorem tr129:trFn Tryz.prog false 129 Tryz.f129=some g129:=by kernel_rfl
def c130r0:LO:=[oBx 1 0,oP 2 .mv [cBo false]]
def c130r1:LO:=[oLf 3 1,oCl 4 77 [.t 3],oMv 5 4,oG 6 (.load (some 4)) [.t 1] 5 false,oG 7 .call [cFn 132,.t 6] 5 false,oP 8 .pick [.t 5,cBo true,.t 7],oMv 2 8]
def c130:ACode:=.seq (rT c130r0 [1]) (.seq (rT c130r1 [2]) .ret)
def g130:AFn:=⟨1,[(2,none)],c130,false,[],[],none⟩
theorem tr130:trFn Tryz.prog false 130 Tryz.f130=some g130:=by kernel_rfl
def c131r0:LO:=[oBx 3 1,oP 4 aZ []]
def c131r1:LO:=[oMv 7 0,oCl 8 143 [.t 7]]
def c131r2:LO:=[oLf 15 3,oSf 4 15]
def c131p3:ACode:=(.seq (rT c131r2 [4]) (.seq .ret .skip))
def c131r4:LO:=[oP 6 aZ [],oSf 6 10]
def c131r5:LO:=[oLf 11 6,oLf 12 3,oP 13 (.bslice (some 4)) [.t 11,.t 12],oP 14 (bZ [0,2,3]) [cIn 3,cSt [46],.t 13],oSf 3 14]
def c131k6:ACode:=.block 1 (rT c131r5 [])
def c131q7:ACode:=c131k6
def c131:ACode:=.seq (rT c131r0 [0,3,4]) (.seq (rT c131r1 [3,4,8]) .skip)
def g131:AFn:=⟨2,[(4,some (some 4))],c131,false,[(.range 131 (.t 8) [9,10] [3],c131p3)],[⟨[9,10],(rT c131r4 [3,6]),c131q7⟩],none⟩
theorem tr131:trFn Tryz.prog false 131 Tryz.f131=some g131:=by kernel_rfl
def c132r0:LO:=[oBx 1 0,oP 2 .mv [cBo false]]
def c132r1:LO:=[oLf 6 1,oCl 7 116 [.t 6],oMv 5 7,oEx 8 0 5,oEx 9 1 5,oP 4 aZ [],oMv 3 8,oSf 4 9]
def c132r2:LO:=[oLf 10 4,oCl 11 71 [.t 10],oMv 2 11]
def c132:ACode:=.seq (rT c132r0 [1]) (.seq (rT c132r1 [4]) (.seq (rT c132r2 [2]) .ret))
def g132:AFn:=⟨1,[(2,none)],c132,false,[],[],none⟩
theorem tr132:trFn Tryz.prog false 132 Tryz.f132=some g132:=by kernel_rfl
def c133r0:LO:=[oBx 3 1,oP 4 aZ [],oP 5 .mv [cBo false]]
def c133r1:LO:=[oFa 8 0 3,oLo 9 8,oBc 10 .neq 9 0]
def c133r2:LO:=[oP 11 (bZ []) [],oSf 4 11,oP 5 .mv [cBo false]]
def c133k3:ACode:=kRt 10 c133r2 [4,5]
def c133r4:LO:=[oMv 13 0,oFa 14 1 3,oLo 15 14,oCl 16 144 [.t 13,.t 15],oMv 12 16,oEx 17 0 12,oEx 18 1 12,oMv 6 17,oMv 7 18]
def c133r5:LO:=[oMv 19 7,oUn 20 .not 19]
def c133r6:LO:=[oP 21 (bZ []) [],oSf 4 21,oP 5 .mv [cBo false]]
def c133k7:ACode:=kRt 20 c133r6 [4,5]
def c133r8:LO:=[oMv 22 0,oMv 23 6,oP 24 (.iaddr (some 5)) [.t 22,.t 23],oFa 25 1 24,oLf 26 25,oSf 4 26,oP 5 .mv [cBo true]]
def c133:ACode:=.seq (rT c133r0 [0,3,4]) (.seq (.seq (rT c133r1 [0,3,4,10]) c133k3) (.seq (rT c133r4 [0,4,6,7]) (.seq (.seq (rT c133r5 [0,4,6,20]) c133k7) (.seq (rT c133r8 [4,5]) .ret))))
def g133:AFn:=⟨2,[(4,some (some 4)),(5,none)],c133,true,[],[],none⟩
theorem tr133:trFn Tryz.prog true 133 Tryz.f133=some g133:=by kernel_rfl
def c134r0:LO:=[oBx 5 2]
def c134r1:LO:=[oMv 8 0,oUn 9 .nilcheck 8,oFa 10 0 9,oLo 11 10,oMv 12 1,oLf 13 5,oP 14 (.mkmap none) [],oCl 15 145 [.t 11,.t 12,.t 13,.t 14]]
def c134r2:LO:=[oP 16 (.build [(none,(.pv none (.int .i64 0)))] [0]) [cIn 9],oUn 17 (.mkiface 82) 16,⟨none,.panic,[.t 17],none⟩]
def c134k3:ACode:=.cond (.t 15) (rT c134r2 [0,1,5]) .skip
def c134r4:LO:=[oMv 19 0,oUn 20 .nilcheck 19,oFa 21 0 20,oLo 22 21,oMv 23 1,oCl 24 144 [.t 22,.t 23],oMv 18 24,oEx 25 0 18,oEx 26 1 18,oMv 6 25,oMv 7 26]
def c134r5:LO:=[oMv 27 0,oMv 28 0,oUn 29 .nilcheck 28,oFa 30 0 29,oLo 31 30,oMv 32 6,oMv 33 1,oLf 34 5,oP 35 (.calln 1) [.t 30,cFn 51,.t 34],oP 36 (.build [(none,(.pv none (.int .i64 0))),((some 4),(.agg [(none,(.pv none (.int .i64 0))),(none,(.pv none (.int .i64 0))),(none,(.pv none (.str []))),(none,(.tsl (some 4) []))]))] [0,1]) [.t 33,.t 35],
 oP 37 (.bslicen (some 5) 1) [.t 30,.t 36],oCl 38 146 [.t 31,.t 32,.t 37],oUn 39 .nilcheck 27,oFa 40 0 39,oSo 40 38]
def c134:ACode:=.seq (rT c134r0 [0,1,5]) (.seq (.seq (rT c134r1 [0,1,5,15]) c134k3) (.seq (rT c134r4 [0,1,5,6]) (.region false c134r5 [])))
def g134:AFn:=⟨3,[],c134,true,[],[],none⟩
theorem tr134:trFn Tryz.prog true 134 Tryz.f134=some g134:=by kernel_rfl
def c135r0:LO:=[oP 6 .mv [cIn 20]]
def c135r1:LO:=[oMv 10 6,oP 7 .mv [cIn 0],oMv 8 10]
def c135r2:LO:=[oMv 11 8,oMv 12 1,oBi 13 .leq 11 12]
def c135k3:ACode:=kEx 13 0
def c135r4:LO:=[oMv 14 0,oMv 15 7,oMv 16 8,oMv 17 2,oCl 18 147 [.t 14,.t 15,.t 16,.t 17]]
def c135r5:LO:=[oMv 19 8,oMv 7 19]
def c135r6:LO:=[oMv 20 8,oMv 21 6,oBi 22 .add 20 21,oMv 8 22]
def c135k7:ACode:=.block 1 (.seq (rT c135r4 [0,1,2,6,8]) (.seq (rT c135r5 [0,1,2,6,7,8]) (rT c135r6 [0,1,2,6,7,8])))
def c135b8:ACode:=.seq (.seq (rT c135r2 [0,1,2,6,7,8,13]) c135k3) c135k7
def c135k9:ACode:=.block 0 (.loop [0,1,2,6,7,8] c135b8)
def c135r10:LO:=[oMv 23 0,oMv 24 7,oMv 25 1,oMv 26 2,oCl 27 147 [.t 23,.t 24,.t 25,.t 26]]
def c135r11:LO:=[oMv 28 6,oMv 29 1,oBi 30 .lss 28 29]
def c135k12:ACode:=kEx 30 2
def c135r13:LO:=[oMv 31 6,oP 32 (.bin .mul) [cIn 2,.t 31],oP 7 .mv [cIn 0],oMv 8 32]
def c135r14:LO:=[oMv 33 8,oMv 34 1,oBi 35 .leq 33 34]
def c135k15:ACode:=kEx 35 4
def c135r16:LO:=[oMv 36 0,oMv 37 7,oMv 38 7,oMv 39 6,oBi 40 .add 38 39,oMv 41 8,oMv 42 2,oCl 43 148 [.t 36,.t 37,.t 40,.t 41,.t 42]]
def c135r17:LO:=[oMv 44 8,oMv 7 44]
def c135r18:LO:=[oMv 45 8,oMv 46 6,oP 47 (.bin .mul) [cIn 2,.t 46],oBi 48 .add 45 47,oMv 8 48]
def c135k19:ACode:=.block 5 (.seq (rT c135r16 [0,1,2,6,8]) (.seq (rT c135r17 [0,1,2,6,7,8]) (rT c135r18 [0,1,2,6,7,8])))
def c135b20:ACode:=.seq (.seq (rT c135r14 [0,1,2,6,7,8,35]) c135k15) c135k19
def c135k21:ACode:=.block 4 (.loop [0,1,2,6,7,8] c135b20)
def c135r22:LO:=[oMv 49 7,oMv 50 6,oBi 51 .add 49 50,oMv 9 51]
def c135r23:LO:=[oMv 52 9,oMv 53 1,oBi 54 .lss 52 53]
def c135r24:LO:=[oMv 55 0,oMv 56 7,oMv 57 9,oMv 58 1,oMv 59 2,oCl 60 148 [.t 55,.t 56,.t 57,.t 58,.t 59]]
def c135k25:ACode:=.cond (.t 54) (rT c135r24 [0,1,2,6]) .skip
def c135r26:LO:=[oMv 61 6,oBc 62 .mul 61 2,oMv 6 62]
def c135k27:ACode:=.block 3 (.seq (rT c135r13 [0,1,2,6,7,8]) (.seq c135k21 (.seq (.seq (rT c135r22 [0,1,2,6,7,9]) (.seq (rT c135r23 [0,1,2,6,7,9,54]) c135k25)) (rT c135r26 [0,1,2,6]))))
def c135b28:ACode:=.seq (.seq (rT c135r11 [0,1,2,6,30]) c135k12) c135k27
def c135k29:ACode:=.block 2 (.loop [0,1,2,6] c135b28)
def c135:ACode:=.seq (rT c135r0 [0,1,2,6]) (.seq (rT c135r1 [0,1,2,6,7,8]) (.seq c135k9 (.seq (rT c135r10 [0,1,2,6]) c135k29)))
def g135:AFn:=⟨3,[],c135,true,[],[],none⟩
theorem tr135:trFn Tryz.prog true 135 Tryz.f135=some g135:=by kernel_rfl
def c136r0:LO:=[oP 4 aZ []]
def c136r1:LO:=[oMv 5 1,oUn 6 .len 5,oBc 7 .eql 6 0]
def c136r2:LO:=[oMv 8 0,oCl 9 137 [.t 8],oSf 4 9]
def c136k3:ACode:=kRt 7 c136r2 [4]
def c136r4:LO:=[oMv 10 0,oMv 11 1,oP 12 (bZ [0,2,3]) [cIn 3,.t 10,.t 11],oCl 13 51 [.t 12],oSf 4 13]
def c136:ACode:=.seq (rT c136r0 [0,1,4]) (.seq (.seq (rT c136r1 [0,1,4,7]) c136k3) (.seq (rT c136r4 [4]) .ret))
def g136:AFn:=⟨2,[(4,some (some 4))],c136,false,[],[],none⟩
theorem tr136:trFn Tryz.prog false 136 Tryz.f136=some g136:=by kernel_rfl
def c137r0:LO:=[oP 2 aZ []]
def c137r1:LO:=[oMv 3 0,oP 4 (bZ [0,2]) [cIn 2,.t 3],oCl 5 51 [.t 4],oSf 2 5]
def c137:ACode:=.seq (rT c137r0 [0,2]) (.seq (rT c137r1 [2]) .ret)
def g137:AFn:=⟨1,[(2,some (some 4))],c137,false,[],[],none⟩
theorem tr137:trFn Tryz.prog false 137 Tryz.f137=some g137:=by kernel_rfl
def c139r0:LO:=[oP 2 aZ []]
def c139r1:LO:=[oLo 3 0,oLf 4 1,oCl 5 70 [.t 3,.t 4],oSf 2 5]
def c139:ACode:=.seq (rT c139r0 [0,1,2]) (.seq (rT c139r1 [2]) .ret)
def g139:AFn:=⟨2,[(2,some (some 4))],c139,true,[],[],none⟩
theorem tr139:trFn Tryz.prog true 139 Tryz.f139=some g139:=by kernel_rfl
def c140r0:LO:=[oP 2 aZ []]
def c140r1:LO:=[oLo 3 0,oLf 4 1,oCl 5 141 [.t 3,.t 4],oSf 2 5]
def c140:ACode:=.seq (rT c140r0 [0,1,2]) (.seq (rT c140r1 [2]) .ret)
def g140:AFn:=⟨2,[(2,some (some 4))],c140,true,[],[],none⟩
theorem tr140:trFn Tryz.prog true 140 Tryz.f140=some g140:=by kernel_rfl
def c141r0:LO:=[oBx 3 1,oP 4 aZ []]
def c141r1:LO:=[oLf 5 3,oMv 6 0,oUn 7 (.bslice none) 6,oCl 8 115 [.t 5,cSt [100,111,109,97,105,110,95,101,114,114,111,114],.t 7],oSf 4 8]
def c141:ACode:=.seq (rT c141r0 [0,3,4]) (.seq (rT c141r1 [4]) .ret)
def g141:AFn:=⟨2,[(4,some (some 4))],c141,false,[],[],none⟩
theorem tr141:trFn Tryz.prog false 141 Tryz.f141=some g141:=by kernel_rfl
def c142r0:LO:=[oP 2 aZ []]
def c142r1:LO:=[oMv 3 0,oCl 4 149 [cSt [114,101,112,114,101,115,101,110,116,97,116,105,111,110,95,101,114,114,111,114],.t 3],oSf 2 4]
def c142:ACode:=.seq (rT c142r0 [0,2]) (.seq (rT c142r1 [2]) .ret)
def g142:AFn:=⟨1,[(2,some (some 4))],c142,false,[],[],none⟩
theorem tr142:trFn Tryz.prog false 142 Tryz.f142=some g142:=by kernel_rfl
def c143r0:LO:=[oUn 1 (.box none) 0,oP 2 .mv [.c (.pv none .nilfunc)]]
def c143r1:LO:=[oUn 3 (.mkfunc (.func 150) 0) 1,oMv 2 3]
def c143:ACode:=.seq (rT c143r0 [1]) (.seq (rT c143r1 [2]) .ret)
def g143:AFn:=⟨1,[(2,none)],c143,true,[],[],none⟩
theorem tr143:trFn Tryz.prog true 143 Tryz.f143=some g143:=by kernel_rfl
def c144r0:LO:=[oP 4 .mv [cIn 0],oP 5 .mv [cBo false]]
def c144r1:LO:=[oMv 6 0,oMv 7 1,oCl 8 151 [.t 6,.t 7,cFn 152],oEx 9 0 8,oEx 10 1 8,oMv 4 9,oMv 5 10]
def c144:ACode:=.seq (rT c144r0 [0,1]) (.seq (rT c144r1 [4,5]) .ret)
def g144:AFn:=⟨2,[(4,none),(5,none)],c144,false,[],[],none⟩
theorem tr144:trFn Tryz.prog false 144 Tryz.f144=some g144:=by kernel_rfl
def c145r0:LO:=[oBx 6 2,oP 8 .mv [cBo false]]
def c145r1:LO:=[oFa 13 0 6,oLo 14 13,oBc 15 .eql 14 0]
def c145r2:LO:=[oMv 17 0,oLf 18 6,oCl 19 133 [.t 17,.t 18],oMv 16 19,oEx 20 0 16,oEx 21 1 16,oP 9 aZ [],oSf 9 20,oMv 10 21]
def c145r3:LO:=[oMv 22 10,oUn 23 .not 22]
def c145r4:LO:=[oFa 24 1 6,oLo 25 24,oMv 26 1,oBi 27 .eql 25 26,oMv 8 27]
def c145k5:ACode:=kRt 23 c145r4 [8]
def c145r6:LO:=[oMv 28 3,oFa 29 1 6,oLo 30 29,oP 31 (.lookup false none (.pv none (.int .i64 0)) false) [.t 28,.t 30],oBc 32 .add 31 1,⟨none,(.mapset false none),[.t 28,.t 30,.t 32],none⟩]
def c145r7:LO:=[oMv 33 3,oFa 34 1 6,oLo 35 34,oP 36 (.lookup false none (.pv none (.int .i64 0)) false) [.t 33,.t 35],oBc 37 .eql 36 1,oMv 38 37,oG 39 .mv [.t 0] 38 true,oG 40 .mv [.t 1] 38 true,oG 41 (.load (some 4)) [.t 9] 38 true,
 oG 42 .mv [.t 3] 38 true,oG 43 .call [cFn 145,.t 39,.t 40,.t 41,.t 42] 38 true,oP 44 .pick [.t 38,.t 43,cBo false],oMv 8 44]
def c145k8:ACode:=.cond (.t 15) (.seq (rT c145r2 [0,1,3,6,9,10]) (.seq (.seq (rT c145r3 [0,1,3,6,9,23]) c145k5) (.seq (rT c145r6 [0,1,3,6,9]) (.seq (rT c145r7 [8]) .ret)))) .skip
def c145r9:LO:=[oFa 45 3 6,oLo 46 45,oUn 47 .len 46,oP 48 .mv [cIn 0]]
def c145r10:LO:=[oBi 49 .lss 48 47]
def c145k11:ACode:=kEx 49 0
def c145r12:LO:=[oIa 50 46 48,oLf 51 50,oP 12 aZ [],oSf 12 51]
def c145r13:LO:=[oMv 52 0,oMv 53 1,oLf 54 12,oMv 55 3,oCl 56 145 [.t 52,.t 53,.t 54,.t 55]]
def c145r14:LO:=[oP 8 .mv [cBo true]]
def c145k15:ACode:=kRt 56 c145r14 [8]
def c145k16:ACode:=.block 1 (.seq (rT c145r12 [0,1,3,12,46,47,48]) (.seq (rT c145r13 [0,1,3,46,47,48,56]) c145k15))
def c145r17:LO:=[oBc 57 .add 48 1,oMv 48 57]
def c145b18:ACode:=.seq (rT c145r10 [0,1,3,46,47,48,49]) (.seq c145k11 (.seq c145k16 (rT c145r17 [0,1,3,46,47,48])))
def c145k19:ACode:=.block 0 (.loop [0,1,3,46,47,48] c145b18)
def c145r20:LO:=[oP 8 .mv [cBo false]]
def c145:ACode:=.seq (rT c145r0 [0,1,3,6]) (.seq (.seq (rT c145r1 [0,1,3,6,15]) c145k8) (.seq (.seq (rT c145r9 [0,1,3,46,47,48]) c145k19) (.seq (rT c145r20 [8]) .ret)))
def g145:AFn:=⟨4,[(8,none)],c145,true,[],[],none⟩
theorem tr145:trFn Tryz.prog true 145 Tryz.f145=some g145:=by kernel_rfl
def c147r0:LO:=[oMv 10 1,oBc 11 .add 10 1,oMv 8 11]
def c147r1:LO:=[oMv 12 8,oMv 13 2,oBi 14 .lss 12 13]
def c147k2:ACode:=kEx 14 0
def c147r3:LO:=[oMv 17 8,oMv 9 17]
def c147r4:LO:=[oMv 18 9,oMv 19 1,oBi 20 .gtr 18 19,oMv 21 20,oG 22 .mv [.t 3] 21 true,oG 23 .mv [.t 0] 21 true,oG 24 .mv [.t 9] 21 true,oG 25 (.iaddr (some 4)) [.t 23,.t 24] 21 true,oG 26 (.load (some 4)) [.t 25] 21 true,
 oG 27 .mv [.t 0] 21 true,oG 28 .mv [.t 9] 21 true,oG 29 (.bin .sub) [.t 28,cIn 1] 21 true,oG 30 (.iaddr (some 4)) [.t 27,.t 29] 21 true,oG 31 (.load (some 4)) [.t 30] 21 true,oG 32 .call [.t 22,.t 26,.t 31] 21 true,oG 33 (.bin .lss) [.t 32,cIn 0] 21 true,
 oP 34 .pick [.t 21,.t 33,cBo false]]
def c147k5:ACode:=kEx 34 2
def c147r6:LO:=[oMv 37 0,oMv 38 9,oMv 39 0,oMv 40 9,oBc 41 .sub 40 1,oMv 42 0,oMv 43 9,oBc 44 .sub 43 1,oIa 45 42 44,oLf 46 45,oMv 47 0,oMv 48 9,oIa 49 47 48,oLf 50 49,oIa 51 37 38,oSf 51 46,oIa 52 39 41,oSf 52 50]
def c147k7:ACode:=.block 3 (rT c147r6 [0,1,2,3,8,9])
def c147r8:LO:=[oMv 35 9,oBc 36 .sub 35 1,oMv 9 36]
def c147b9:ACode:=.seq (.seq (rT c147r4 [0,1,2,3,8,9,34]) c147k5) (.seq c147k7 (rT c147r8 [0,1,2,3,8,9]))
def c147k10:ACode:=.block 2 (.loop [0,1,2,3,8,9] c147b9)
def c147k11:ACode:=.block 1 (.seq (rT c147r3 [0,1,2,3,8,9]) c147k10)
def c147r12:LO:=[oMv 15 8,oBc 16 .add 15 1,oMv 8 16]
def c147b13:ACode:=.seq (.seq (rT c147r1 [0,1,2,3,8,14]) c147k2) (.seq c147k11 (rT c147r12 [0,1,2,3,8]))
def c147k14:ACode:=.block 0 (.loop [0,1,2,3,8] c147b13)
def c147:ACode:=.seq (rT c147r0 [0,1,2,3,8]) c147k14
def g147:AFn:=⟨4,[],c147,true,[],[],none⟩
theorem tr147:trFn Tryz.prog true 147 Tryz.f147=some g147:=by kernel_rfl
def c148r0:LO:=[oMv 25 2,oMv 26 1,oBi 27 .sub 25 26,oBc 28 .eql 27 1]
def c148r1:LO:=[oMv 29 2,oMv 10 29]
def c148r2:LO:=[oMv 30 3,oMv 11 30]
def c148r3:LO:=[oMv 31 10,oMv 32 11,oBi 33 .lss 31 32]
def c148k4:ACode:=kEx 33 0
def c148r5:LO:=[oMv 34 10,oMv 35 11,oBi 36 .add 34 35,oUn 37 (.conv .u64) 36,oP 38 (.bin .shr) [.t 37,.c (.pv none (.int .u64 1))],oUn 39 (.conv .i64) 38,oMv 12 39]
def c148r6:LO:=[oMv 40 4,oMv 41 0,oMv 42 12,oIa 43 41 42,oLf 44 43,oMv 45 0,oMv 46 1,oIa 47 45 46,oLf 48 47,oP 49 .call [.t 40,.t 44,.t 48],oBc 50 .lss 49 0]
def c148r7:LO:=[oMv 51 12,oBc 52 .add 51 1,oMv 10 52]
def c148r8:LO:=[oMv 53 12,oMv 11 53]
def c148k9:ACode:=.cond (.t 50) (rT c148r7 [0,1,4,10,11]) (rT c148r8 [0,1,4,10,11])
def c148k10:ACode:=.block 1 (.seq (rT c148r5 [0,1,4,10,11,12]) (.seq (rT c148r6 [0,1,4,10,11,12,50]) c148k9))
def c148b11:ACode:=.seq (.seq (rT c148r3 [0,1,4,10,11,33]) c148k4) c148k10
def c148k12:ACode:=.block 0 (.loop [0,1,4,10,11] c148b11)
def c148r13:LO:=[oMv 54 1,oMv 13 54]
def c148r14:LO:=[oMv 55 13,oMv 56 10,oBc 57 .sub 56 1,oBi 58 .lss 55 57]
def c148k15:ACode:=kEx 58 2
def c148r16:LO:=[oMv 61 0,oMv 62 13,oMv 63 0,oMv 64 13,oBc 65 .add 64 1,oMv 66 0,oMv 67 13,oBc 68 .add 67 1,oIa 69 66 68,oLf 70 69,oMv 71 0,oMv 72 13,oIa 73 71 72,oLf 74 73,oIa 75 61 62,oSf 75 70,oIa 76 63 65,oSf 76 74]
def c148k17:ACode:=.block 3 (rT c148r16 [0,10,13])
def c148r18:LO:=[oMv 59 13,oBc 60 .add 59 1,oMv 13 60]
def c148b19:ACode:=.seq (.seq (rT c148r14 [0,10,13,58]) c148k15) (.seq c148k17 (rT c148r18 [0,10,13]))
def c148k20:ACode:=.block 2 (.loop [0,10,13] c148b19)
def c148k21:ACode:=.cond (.t 28) (.seq (rT c148r1 [0,1,3,4,10]) (.seq (rT c148r2 [0,1,4,10,11]) (.seq c148k12 (.seq (.seq (rT c148r13 [0,10,13]) c148k20) .ret)))) .skip
def c148r22:LO:=[oMv 77 3,oMv 78 2,oBi 79 .sub 77 78,oBc 80 .eql 79 1]
def c148r23:LO:=[oMv 81 1,oMv 14 81]
def c148r24:LO:=[oMv 82 2,oMv 15 82]
def c148r25:LO:=[oMv 83 14,oMv 84 15,oBi 85 .lss 83 84]
def c148k26:ACode:=kEx 85 4
def c148r27:LO:=[oMv 86 14,oMv 87 15,oBi 88 .add 86 87,oUn 89 (.conv .u64) 88,oP 90 (.bin .shr) [.t 89,.c (.pv none (.int .u64 1))],oUn 91 (.conv .i64) 90,oMv 16 91]
def c148r28:LO:=[oMv 92 4,oMv 93 0,oMv 94 2,oIa 95 93 94,oLf 96 95,oMv 97 0,oMv 98 16,oIa 99 97 98,oLf 100 99,oP 101 .call [.t 92,.t 96,.t 100],oBc 102 .lss 101 0,oUn 103 .not 102]
def c148r29:LO:=[oMv 104 16,oBc 105 .add 104 1,oMv 14 105]
def c148r30:LO:=[oMv 106 16,oMv 15 106]
def c148k31:ACode:=.cond (.t 103) (rT c148r29 [0,2,4,14,15]) (rT c148r30 [0,2,4,14,15])
def c148k32:ACode:=.block 5 (.seq (rT c148r27 [0,2,4,14,15,16]) (.seq (rT c148r28 [0,2,4,14,15,16,103]) c148k31))
def c148b33:ACode:=.seq (.seq (rT c148r25 [0,2,4,14,15,85]) c148k26) c148k32
def c148k34:ACode:=.block 4 (.loop [0,2,4,14,15] c148b33)
def c148r35:LO:=[oMv 107 2,oMv 17 107]
def c148r36:LO:=[oMv 108 17,oMv 109 14,oBi 110 .gtr 108 109]
def c148k37:ACode:=kEx 110 6
def c148r38:LO:=[oMv 113 0,oMv 114 17,oMv 115 0,oMv 116 17,oBc 117 .sub 116 1,oMv 118 0,oMv 119 17,oBc 120 .sub 119 1,oIa 121 118 120,oLf 122 121,oMv 123 0,oMv 124 17,oIa 125 123 124,oLf 126 125,oIa 127 113 114,oSf 127 122,
 oIa 128 115 117,oSf 128 126]
def c148k39:ACode:=.block 7 (rT c148r38 [0,14,17])
def c148r40:LO:=[oMv 111 17,oBc 112 .sub 111 1,oMv 17 112]
def c148b41:ACode:=.seq (.seq (rT c148r36 [0,14,17,110]) c148k37) (.seq c148k39 (rT c148r40 [0,14,17]))
def c148k42:ACode:=.block 6 (.loop [0,14,17] c148b41)
def c148k43:ACode:=.cond (.t 80) (.seq (rT c148r23 [0,2,4,14]) (.seq (rT c148r24 [0,2,4,14,15]) (.seq c148k34 (.seq (.seq (rT c148r35 [0,14,17]) c148k42) .ret)))) .skip
def c148r44:LO:=[oMv 129 1,oMv 130 3,oBi 131 .add 129 130,oUn 132 (.conv .u64) 131,oP 133 (.bin .shr) [.t 132,.c (.pv none (.int .u64 1))],oUn 134 (.conv .i64) 133,oMv 18 134]
def c148r45:LO:=[oMv 135 18,oMv 136 2,oBi 137 .add 135 136,oMv 19 137]
def c148r46:LO:=[oP 20 .mv [cIn 0],oP 21 .mv [cIn 0]]
def c148r47:LO:=[oMv 138 2,oMv 139 18,oBi 140 .gtr 138 139]
def c148r48:LO:=[oMv 141 19,oMv 142 3,oBi 143 .sub 141 142,oMv 20 143]
def c148r49:LO:=[oMv 144 18,oMv 21 144]
def c148r50:LO:=[oMv 145 1,oMv 20 145]
def c148r51:LO:=[oMv 146 2,oMv 21 146]
def c148k52:ACode:=.cond (.t 140) (.seq (rT c148r48 [0,1,2,3,4,18,19,20]) (rT c148r49 [0,1,2,3,4,18,19,20,21])) (.seq (rT c148r50 [0,1,2,3,4,18,19,20]) (rT c148r51 [0,1,2,3,4,18,19,20,21]))
def c148r53:LO:=[oMv 147 19,oBc 148 .sub 147 1,oMv 22 148]
def c148r54:LO:=[oMv 149 20,oMv 150 21,oBi 151 .lss 149 150]
def c148k55:ACode:=kEx 151 8
def c148r56:LO:=[oMv 152 20,oMv 153 21,oBi 154 .add 152 153,oUn 155 (.conv .u64) 154,oP 156 (.bin .shr) [.t 155,.c (.pv none (.int .u64 1))],oUn 157 (.conv .i64) 156,oMv 23 157]
def c148r57:LO:=[oMv 158 4,oMv 159 0,oMv 160 22,oMv 161 23,oBi 162 .sub 160 161,oIa 163 159 162,oLf 164 163,oMv 165 0,oMv 166 23,oIa 167 165 166,oLf 168 167,oP 169 .call [.t 158,.t 164,.t 168],oBc 170 .lss 169 0,oUn 171 .not 170]
def c148r58:LO:=[oMv 172 23,oBc 173 .add 172 1,oMv 20 173]
def c148r59:LO:=[oMv 174 23,oMv 21 174]
def c148k60:ACode:=.cond (.t 171) (rT c148r58 [0,1,2,3,4,18,19,20,21,22]) (rT c148r59 [0,1,2,3,4,18,19,20,21,22])
def c148k61:ACode:=.block 9 (.seq (rT c148r56 [0,1,2,3,4,18,19,20,21,22,23]) (.seq (rT c148r57 [0,1,2,3,4,18,19,20,21,22,23,171]) c148k60))
def c148b62:ACode:=.seq (.seq (rT c148r54 [0,1,2,3,4,18,19,20,21,22,151]) c148k55) c148k61
def c148k63:ACode:=.block 8 (.loop [0,1,2,3,4,18,19,20,21,22] c148b62)
def c148r64:LO:=[oMv 175 19,oMv 176 20,oBi 177 .sub 175 176,oMv 24 177]
def c148r65:LO:=[oMv 178 20,oMv 179 2,oBi 180 .lss 178 179,oMv 181 180,oG 182 .mv [.t 2] 181 true,oG 183 .mv [.t 24] 181 true,oG 184 (.bin .lss) [.t 182,.t 183] 181 true,oP 185 .pick [.t 181,.t 184,cBo false]]
def c148r66:LO:=[oMv 186 0,oMv 187 20,oMv 188 2,oMv 189 24,oMv 190 4,oCl 191 155 [.t 186,.t 187,.t 188,.t 189,.t 190]]
def c148k67:ACode:=.cond (.t 185) (rT c148r66 [0,1,3,4,18,20,24]) .skip
def c148r68:LO:=[oMv 192 1,oMv 193 20,oBi 194 .lss 192 193,oMv 195 194,oG 196 .mv [.t 20] 195 true,oG 197 .mv [.t 18] 195 true,oG 198 (.bin .lss) [.t 196,.t 197] 195 true,oP 199 .pick [.t 195,.t 198,cBo false]]
def c148r69:LO:=[oMv 200 0,oMv 201 1,oMv 202 20,oMv 203 18,oMv 204 4,oCl 205 148 [.t 200,.t 201,.t 202,.t 203,.t 204]]
def c148k70:ACode:=.cond (.t 199) (rT c148r69 [0,3,4,18,24]) .skip
def c148r71:LO:=[oMv 206 18,oMv 207 24,oBi 208 .lss 206 207,oMv 209 208,oG 210 .mv [.t 24] 209 true,oG 211 .mv [.t 3] 209 true,oG 212 (.bin .lss) [.t 210,.t 211] 209 true,oP 213 .pick [.t 209,.t 212,cBo false]]
def c148r72:LO:=[oMv 214 0,oMv 215 18,oMv 216 24,oMv 217 3,oMv 218 4,oCl 219 148 [.t 214,.t 215,.t 216,.t 217,.t 218]]
def c148k73:ACode:=.cond (.t 213) (rT c148r72 []) .skip
def c148:ACode:=.seq (.seq (rT c148r0 [0,1,2,3,4,28]) c148k21) (.seq (.seq (rT c148r22 [0,1,2,3,4,80]) c148k43) (.seq (rT c148r44 [0,1,2,3,4,18]) (.seq (rT c148r45 [0,1,2,3,4,18,19]) (.seq (rT c148r46 [0,1,2,3,4,18,19]) (.seq (.seq (rT c148r47 [0,1,2,3,4,18,19,140]) c148k52) (.seq (rT c148r53 [0,1,2,3,4,18,19,20,21,22]) (.seq c148k63 (.seq (rT c148r64 [0,1,2,3,4,18,20,24]) (.seq (.seq (rT c148r65 [0,1,2,3,4,18,20,24,185]) c148k67) (.seq (.seq (rT c148r68 [0,1,3,4,18,20,24,199]) c148k70) (.seq (rT c148r71 [0,3,4,18,24,213]) c148k73)))))))))))
def g148:AFn:=⟨5,[],c148,true,[],[],none⟩
theorem tr148:trFn Tryz.prog true 148 Tryz.f148=some g148:=by kernel_rfl
def c149r0:LO:=[oP 4 aZ []]
def c149r1:LO:=[oMv 5 1,oUn 6 .slen 5,oBc 7 .gtr 6 100]
def c149r2:LO:=[oP 8 (bZ []) [],oSf 4 8]
def c149k3:ACode:=kRt 7 c149r2 [4]
def c149r4:LO:=[oMv 9 0,oMv 10 1,oCl 11 137 [.t 10],oUn 12 (.bslice (some 4)) 11,oCl 13 114 [.t 9,.t 12],oSf 4 13]
def c149:ACode:=.seq (rT c149r0 [0,1,4]) (.seq (.seq (rT c149r1 [0,1,4,7]) c149k3) (.seq (rT c149r4 [4]) .ret))
def g149:AFn:=⟨2,[(4,some (some 4))],c149,false,[],[],none⟩
theorem tr149:trFn Tryz.prog false 149 Tryz.f149=some g149:=by kernel_rfl
def c150r0:LO:=[oLo 4 1,oUn 5 .len 4,oBc 6 .sub 5 1,oMv 3 6]
def c150r1:LO:=[oMv 7 3,oBc 8 .geq 7 0]
def c150k2:ACode:=kEx 8 0
def c150r3:LO:=[oMv 11 0,oMv 12 3,oLo 13 1,oMv 14 3,oIa 15 13 14,oLf 16 15,oP 17 .call [.t 11,.t 12,.t 16],oUn 18 .not 17]
def c150k4:ACode:=.cond (.t 18) .ret .skip
def c150k5:ACode:=.block 1 (.seq (rT c150r3 [0,1,3,18]) c150k4)
def c150r6:LO:=[oMv 9 3,oBc 10 .sub 9 1,oMv 3 10]
def c150b7:ACode:=.seq (.seq (rT c150r1 [0,1,3,8]) c150k2) (.seq c150k5 (rT c150r6 [0,1,3]))
def c150k8:ACode:=.block 0 (.loop [0,1,3] c150b7)
def c150:ACode:=.seq (rT c150r0 [0,1,3]) c150k8
def g150:AFn:=⟨2,[],c150,true,[],[],none⟩
theorem tr150:trFn Tryz.prog true 150 Tryz.f150=some g150:=by kernel_rfl
def c151r0:LO:=[oP 6 .mv [cIn 0],oP 7 .mv [cBo false]]
def c151r1:LO:=[oMv 12 0,oUn 13 .len 12,oMv 8 13]
def c151r2:LO:=[oMv 14 8,oP 9 .mv [cIn 0],oMv 10 14]
def c151r3:LO:=[oMv 15 9,oMv 16 10,oBi 17 .lss 15 16]
def c151k4:ACode:=kEx 17 0
def c151r5:LO:=[oMv 18 9,oMv 19 10,oBi 20 .add 18 19,oUn 21 (.conv .u64) 20,oP 22 (.bin .shr) [.t 21,.c (.pv none (.int .u64 1))],oUn 23 (.conv .i64) 22,oMv 11 23]
def c151r6:LO:=[oMv 24 2,oMv 25 0,oMv 26 11,oP 27 (.iaddr (some 5)) [.t 25,.t 26],oUn 28 (.load (some 5)) 27,oMv 29 1,oP 30 .call [.t 24,.t 28,.t 29],oBc 31 .lss 30 0]
def c151r7:LO:=[oMv 32 11,oBc 33 .add 32 1,oMv 9 33]
def c151r8:LO:=[oMv 34 11,oMv 10 34]
def c151k9:ACode:=.cond (.t 31) (rT c151r7 [0,1,2,8,9,10]) (rT c151r8 [0,1,2,8,9,10])
def c151k10:ACode:=.block 1 (.seq (rT c151r5 [0,1,2,8,9,10,11]) (.seq (rT c151r6 [0,1,2,8,9,10,11,31]) c151k9))
def c151b11:ACode:=.seq (.seq (rT c151r3 [0,1,2,8,9,10,17]) c151k4) c151k10
def c151k12:ACode:=.block 0 (.loop [0,1,2,8,9,10] c151b11)
def c151r13:LO:=[oMv 35 9,oMv 36 9,oMv 37 8,oBi 38 .lss 36 37,oMv 39 38,oG 40 .mv [.t 2] 39 true,oG 41 .mv [.t 0] 39 true,oG 42 .mv [.t 9] 39 true,oG 43 (.iaddr (some 5)) [.t 41,.t 42] 39 true,oG 44 (.load (some 5)) [.t 43] 39 true,
 oG 45 .mv [.t 1] 39 true,oG 46 .call [.t 40,.t 44,.t 45] 39 true,oG 47 (.bin .eql) [.t 46,cIn 0] 39 true,oP 48 .pick [.t 39,.t 47,cBo false],oMv 6 35,oMv 7 48]
def c151:ACode:=.seq (rT c151r0 [0,1,2]) (.seq (rT c151r1 [0,1,2,8]) (.seq (rT c151r2 [0,1,2,8,9,10]) (.seq c151k12 (.seq (rT c151r13 [6,7]) .ret))))
def g151:AFn:=⟨3,[(6,none),(7,none)],c151,false,[],[],none⟩
theorem tr151:trFn Tryz.prog false 151 Tryz.f151=some g151:=by kernel_rfl
def c152r0:LO:=[oUn 2 (.box (some 5)) 0,oP 4 .mv [cIn 0]]
def c152r1:LO:=[oFa 5 0 2,oLo 6 5,oMv 7 1,oCl 8 89 [.t 6,.t 7],oMv 4 8]
def c152:ACode:=.seq (rT c152r0 [1,2]) (.seq (rT c152r1 [4]) .ret)
def g152:AFn:=⟨2,[(4,none)],c152,false,[],[],none⟩
theorem tr152:trFn Tryz.prog false 152 Tryz.f152=some g152:=by kernel_rfl
def c155r0:LO:=[oMv 12 2,oMv 13 1,oBi 14 .sub 12 13,oMv 10 14]
def c155r1:LO:=[oMv 15 3,oMv 16 2,oBi 17 .sub 15 16,oMv 11 17]
def c155r2:LO:=[oMv 18 10,oMv 19 11,oBi 20 .neq 18 19]
def c155k3:ACode:=kEx 20 0
def c155r4:LO:=[oMv 21 10,oMv 22 11,oBi 23 .gtr 21 22]
def c155r5:LO:=[oMv 24 0,oMv 25 2,oMv 26 10,oBi 27 .sub 25 26,oMv 28 2,oMv 29 11,oMv 30 4,oCl 31 157 [.t 24,.t 27,.t 28,.t 29,.t 30]]
def c155r6:LO:=[oMv 32 10,oMv 33 11,oBi 34 .sub 32 33,oMv 10 34]
def c155r7:LO:=[oMv 35 0,oMv 36 2,oMv 37 10,oBi 38 .sub 36 37,oMv 39 2,oMv 40 11,oBi 41 .add 39 40,oMv 42 10,oBi 43 .sub 41 42,oMv 44 10,oMv 45 4,oCl 46 157 [.t 35,.t 38,.t 43,.t 44,.t 45]]
def c155r8:LO:=[oMv 47 11,oMv 48 10,oBi 49 .sub 47 48,oMv 11 49]
def c155k9:ACode:=.cond (.t 23) (.seq (rT c155r5 [0,2,4,10,11]) (rT c155r6 [0,2,4,10,11])) (.seq (rT c155r7 [0,2,4,10,11]) (rT c155r8 [0,2,4,10,11]))
def c155k10:ACode:=.block 1 (.seq (rT c155r4 [0,2,4,10,11,23]) c155k9)
def c155b11:ACode:=.seq (.seq (rT c155r2 [0,2,4,10,11,20]) c155k3) c155k10
def c155k12:ACode:=.block 0 (.loop [0,2,4,10,11] c155b11)
def c155r13:LO:=[oMv 50 0,oMv 51 2,oMv 52 10,oBi 53 .sub 51 52,oMv 54 2,oMv 55 10,oMv 56 4,oCl 57 157 [.t 50,.t 53,.t 54,.t 55,.t 56]]
def c155:ACode:=.seq (rT c155r0 [0,2,3,4,10]) (.seq (rT c155r1 [0,2,4,10,11]) (.seq c155k12 (rT c155r13 [])))
def g155:AFn:=⟨5,[],c155,true,[],[],none⟩
theorem tr155:trFn Tryz.prog true 155 Tryz.f155=some g155:=by kernel_rfl
def c157r0:LO:=[oP 10 .mv [cIn 0]]
def c157r1:LO:=[oMv 11 10,oMv 12 3,oBi 13 .lss 11 12]
def c157k2:ACode:=kEx 13 0
def c157r3:LO:=[oMv 16 0,oMv 17 1,oMv 18 10,oBi 19 .add 17 18,oMv 20 0,oMv 21 2,oMv 22 10,oBi 23 .add 21 22,oMv 24 0,oMv 25 2,oMv 26 10,oBi 27 .add 25 26,oIa 28 24 27,oLf 29 28,oMv 30 0,oMv 31 1,oMv 32 10,oBi 33 .add 31 32,
 oIa 34 30 33,oLf 35 34,oIa 36 16 19,oSf 36 29,oIa 37 20 23,oSf 37 35]
def c157k4:ACode:=.block 1 (rT c157r3 [0,1,2,3,10])
def c157r5:LO:=[oMv 14 10,oBc 15 .add 14 1,oMv 10 15]
def c157b6:ACode:=.seq (.seq (rT c157r1 [0,1,2,3,10,13]) c157k2) (.seq c157k4 (rT c157r5 [0,1,2,3,10]))
def c157k7:ACode:=.block 0 (.loop [0,1,2,3,10] c157b6)
def c157:ACode:=.seq (rT c157r0 [0,1,2,3,10]) c157k7
def g157:AFn:=⟨5,[],c157,true,[],[],none⟩
theorem tr157:trFn Tryz.prog true 157 Tryz.f157=some g157:=by kernel_rfl
def tab:List (Nat × AFn):=[(8,g8),(11,g11),(13,g13),(14,g14),(15,g15),(17,g17),(18,g18),(19,g19),(20,g20),(21,g21),(22,g22),(23,g23),(24,g24),(25,g25),(26,g26),(27,g27),(28,g28),(30,g30),(31,g31),(33,g33),(34,g34),(35,g35),(36,g36),(37,g37),(39,g39),(40,g40),(41,g41),(43,g43),(44,g44),(45,g45),(46,g46),(47,g47),(48,g48),(49,g49),(50,g50),(51,g51),(52,g52),(53,g53),(54,g54),(55,g55),(56,g56),(57,g57),(58,g58),(59,g59),(60,g60),(61,g61),(62,g62),(63,g63),(64,g64),(65,g65),(66,g66),(67,g67),(68,g68),(69,g69),(70,g70),(71,g71),(72,g72),(73,g73),(74,g74),(75,g75),(76,g76),(77,g77),(78,g78),(79,g79),(80,g80),(81,g81),(82,g82),(83,g83),(84,g84),(85,g85),(86,g86),(87,g87),(88,g88),(89,g89),(90,g90),(91,g91),(92,g92),(93,g93),(94,g94),(95,g95),(96,g96),(97,g97),(98,g98),(99,g99),(100,g100),(101,g101),(102,g102),(103,g103),(104,g104),(105,g105),(106,g106),(107,g107),(108,g108),(109,g109),(110,g110),(111,g111),(112,g112),(113,g113),(114,g114),(115,g115),(116,g116),(117,g117),(118,g118),(119,g119),(120,g120),(121,g121),(122,g122),(123,g123),(124,g124),(125,g125),(126,g126),(127,g127),(128,g128),(129,g129),(130,g130),(131,g131),(132,g132),(133,g133),(134,g134),(135,g135),(136,g136),(137,g137),(139,g139),(140,g140),(141,g141),(142,g142),(143,g143),(144,g144),(145,g145),(147,g147),(148,g148),(149,g149),(150,g150),(151,g151),(152,g152),(155,g155),(157,g157)]
theorem zuK:zpi Tryz.prog tab:=
 (zaa Tryz.func8 tr8
 (zaa Tryz.func11 tr11
 (zaa Tryz.func13 tr13
 (zaa Tryz.func14 tr14
 (zaa Tryz.func15 tr15
 (zaa Tryz.func17 tr17
 (zaa Tryz.func18 tr18
 (zaa Tryz.func19 tr19
 (zaa Tryz.func20 tr20
 (zaa Tryz.func21 tr21
 (zaa Tryz.func22 tr22
 (zaa Tryz.func23 tr23
 (zaa Tryz.func24 tr24
 (zaa Tryz.func25 tr25
 (zaa Tryz.func26 tr26
 (zaa Tryz.func27 tr27
 (zaa Tryz.func28 tr28
 (zaa Tryz.func30 tr30
 (zaa Tryz.func31 tr31
 (zaa Tryz.func33 tr33
 (zaa Tryz.func34 tr34
 (zaa Tryz.func35 tr35
 (zaa Tryz.func36 tr36
 (zaa Tryz.func37 tr37
 (zaa Tryz.func39 tr39
 (zaa Tryz.func40 tr40
 (zaa Tryz.func41 tr41
 (zaa Tryz.func43 tr43
 (zaa Tryz.func44 tr44
 (zaa Tryz.func45 tr45
 (zaa Tryz.func46 tr46
 (zaa Tryz.func47 tr47
 (zaa Tryz.func48 tr48
 (zaa Tryz.func49 tr49
 (zaa Tryz.func50 tr50
 (zaa Tryz.func51 tr51
 (zaa Tryz.func52 tr52
 (zaa Tryz.func53 tr53
 (zaa Tryz.func54 tr54
 (zaa Tryz.func55 tr55
 (zaa Tryz.func56 tr56
 (zaa Tryz.func57 tr57
 (zaa Tryz.func58 tr58
 (zaa Tryz.func59 tr59
 (zaa Tryz.func60 tr60
 (zaa Tryz.func61 tr61
 (zaa Tryz.func62 tr62
 (zaa Tryz.func63 tr63
 (zaa Tryz.func64 tr64
 (zaa Tryz.func65 tr65
 (zaa Tryz.func66 tr66
 (zaa Tryz.func67 tr67
 (zaa Tryz.func68 tr68
 (zaa Tryz.func69 tr69
 (zaa Tryz.func70 tr70
 (zaa Tryz.func71 tr71
 (zaa Tryz.func72 tr72
 (zaa Tryz.func73 tr73
 (zaa Tryz.func74 tr74
 (zaa Tryz.func75 tr75
 (zaa Tryz.func76 tr76
 (zaa Tryz.func77 tr77
 (zaa Tryz.func78 tr78
 (zaa Tryz.func79 tr79
 (zaa Tryz.func80 tr80
 (zaa Tryz.func81 tr81
 (zaa Tryz.func82 tr82
 (zaa Tryz.func83 tr83
 (zaa Tryz.func84 tr84
 (zaa Tryz.func85 tr85
 (zaa Tryz.func86 tr86
 (zaa Tryz.func87 tr87
 (zaa Tryz.func88 tr88
 (zaa Tryz.func89 tr89
 (zaa Tryz.func90 tr90
 (zaa Tryz.func91 tr91
 (zaa Tryz.func92 tr92
 (zaa Tryz.func93 tr93
 (zaa Tryz.func94 tr94
 (zaa Tryz.func95 tr95
 (zaa Tryz.func96 tr96
 (zaa Tryz.func97 tr97
 (zaa Tryz.func98 tr98
 (zaa Tryz.func99 tr99
 (zaa Tryz.func100 tr100
 (zaa Tryz.func101 tr101
 (zaa Tryz.func102 tr102
 (zaa Tryz.func103 tr103
 (zaa Tryz.func104 tr104
 (zaa Tryz.func105 tr105
 (zaa Tryz.func106 tr106
 (zaa Tryz.func107 tr107
 (zaa Tryz.func108 tr108
 (zaa Tryz.func109 tr109
 (zaa Tryz.func110 tr110
 (zaa Tryz.func111 tr111
 (zaa Tryz.func112 tr112
 (zaa Tryz.func113 tr113
 (zaa Tryz.func114 tr114
 (zaa Tryz.func115 tr115
 (zaa Tryz.func116 tr116
 (zaa Tryz.func117 tr117
 (zaa Tryz.func118 tr118
 (zaa Tryz.func119 tr119
 (zaa Tryz.func120 tr120
 (zaa Tryz.func121 tr121
 (zaa Tryz.func122 tr122
 (zaa Tryz.func123 tr123
 (zaa Tryz.func124 tr124
 (zaa Tryz.func125 tr125
 (zaa Tryz.func126 tr126
 (zaa Tryz.func127 tr127
 (zaa Tryz.func128 tr128
 (zaa Tryz.func129 tr129
 (zaa Tryz.func130 tr130
 (zaa Tryz.func131 tr131
 (zaa Tryz.func132 tr132
 (zaa Tryz.func133 tr133
 (zaa Tryz.func134 tr134
 (zaa Tryz.func135 tr135
 (zaa Tryz.func136 tr136
 (zaa Tryz.func137 tr137
 (zaa Tryz.func139 tr139
 (zaa Tryz.func140 tr140
 (zaa Tryz.func141 tr141
 (zaa Tryz.func142 tr142
 (zaa Tryz.func143 tr143
 (zaa Tryz.func144 tr144
 (zaa Tryz.func145 tr145
 (zaa Tryz.func147 tr147
 (zaa Tryz.func148 tr148
 (zaa Tryz.func149 tr149
 (zaa Tryz.func150 tr150
 (zaa Tryz.func151 tr151
 (zaa Tryz.func152 tr152
 (zaa Tryz.func155 tr155
 (zaa Tryz.func157 tr157 zpj)))))))))))))))))))))))))))))))))))))))))))))))))))))))))))))))))))))))))))))))))))))))))))))))))))))))))))))))))))))))))))))))))))))))))
attribute [go_sem] c8r0 c8r1 c8r2 c8r3 c8k4 c8r5 c8r6 c8k7 c8k8 c8r9 c8b10 c8k11 c8r12 c8r13 c8r14 c8k15 c8r16 c8r17 c8r18 c8k19 c8r20 c8r21 c8r22 c8k23 c8r24 c8r25 c8r26 c8k27 c8k28 c8r29 c8b30 c8k31 c8k32 c8r33 c8b34 c8k35 c8r36 c8r37 c8r38 c8r39 c8r40 c8r41 c8r42 c8r43 c8k44 c8k45 c8k46 c8k47 c8r48 c8r49 c8r50 c8k51 c8r52 c8r53 c8k54 c8b55 c8k56 c8r57 c8r58 c8r59 c8r60 c8k61 c8r62 c8 g8 c11r0 c11r1 c11r2 c11r3 c11r4 c11r5 c11r6 c11r7 c11r8 c11k9 c11k10 c11k11 c11k12 c11r13 c11 g11 c14r0 c14r1 c14r2 c14 g14 c17r0 c17r1 c17 g17 c18r0 c18r1 c18r2 c18 g18 c19r0 c19r1 c19 g19 c20r0 c20r1 c20r2 c20k3 c20r4 c20r5 c20k6 c20r7 c20r8 c20r9 c20r10 c20r11 c20k12 c20r13 c20r14 c20k15 c20r16 c20r17 c20k18 c20r19 c20r20 c20r21 c20k22 c20r23 c20k24 c20r25 c20b26 c20k27 c20r28 c20p29 c20 g20 c22r0 c22r1 c22 g22 c23r0 c23r1 c23 g23 c24r0 c24r1 c24 g24 c25r0 c25r1 c25r2 c25k3 c25r4 c25 g25 c26r0 c26r1 c26r2 c26k3 c26r4 c26 g26 c27r0 c27r1 c27r2 c27k3 c27r4 c27k5 c27r6 c27b7 c27k8 c27r9 c27 g27 c28r0 c28r1 c28 g28 c30r0 c30r1 c30 g30 c31r0 c31r1 c31r2 c31 g31 c33r0 c33r1 c33r2 c33k3 c33r4 c33r5 c33k6 c33r7 c33r8 c33k9 c33b10 c33k11 c33r12 c33 g33 c37r0 c37r1 c37r2 c37 g37 c39r0 c39r1 c39 g39 c40r0 c40r1 c40 g40 c41r0 c41r1 c41 g41 c43r0 c43r1 c43 g43 c45r0 c45r1 c45 g45 c46r0 c46r1 c46r2 c46k3 c46r4 c46r5 c46 g46 c47r0 c47r1 c47 g47 c48r0 c48r1 c48r2 c48r3 c48r4 c48k5 c48r6 c48k7 c48 g48 c49r0 c49r1 c49r2 c49k3 c49r4 c49r5 c49r6 c49r7 c49 g49 c50r0 c50r1 c50r2 c50r3 c50r4 c50k5 c50r6 c50r7 c50r8 c50k9 c50r10 c50r11 c50r12 c50r13 c50r14 c50r15 c50r16 c50k17 c50r18 c50r19 c50r20 c50r21 c50r22 c50r23 c50r24 c50r25 c50r26 c50r27 c50r28 c50r29 c50r30 c50r31 c50r32 c50k33 c50k34 c50k35 c50k36 c50k37 c50k38 c50k39 c50k40 c50k41 c50k42 c50r43 c50 g50 c51r0 c51r1 c51r2 c51k3 c51r4 c51 g51 c56r0 c56r1 c56 g56 c57r0 c57r1 c57r2 c57k3 c57r4 c57r5 c57k6 c57r7 c57r8 c57k9 c57k10 c57r11 c57b12 c57k13 c57r14 c57 g57 c58r0 c58r1 c58r2 c58r3 c58k4 c58r5 c58k6 c58r7 c58b8 c58k9 c58r10 c58 g58 c59r0 c59r1 c59r2 c59r3 c59k4 c59r5 c59r6 c59k7 c59r8 c59k9 c59r10 c59b11 c59k12 c59r13 c59 g59 c60r0 c60r1 c60r2 c60k3 c60r4 c60r5 c60k6 c60r7 c60k8 c60r9 c60r12 c60 g60 c61r0 c61r1 c61r2 c61k3 c61r4 c61r5 c61k6 c61r7 c61r8 c61k9 c61k10 c61r11 c61k13 c61r14 c61 g61 c62r0 c62r1 c62 g62 c63r0 c63r1 c63r2 c63r3 c63k4 c63r5 c63k6 c63r7 c63b8 c63k9 c63r10 c63 g63 c71r0 c71r1 c71 g71 c73r0 c73r1 c73 g73 c74r0 c74r1 c74 g74 c77r0 c77r1 c77r2 c77 g77 c85r0 c85r1 c85r2 c85k3 c85r4 c85r5 c85r6 c85k7 c85k8 c85r9 c85b10 c85k11 c85r12 c85 g85 c86r0 c86r1 c86r2 c86r3 c86r4 c86r5 c86 g86 c87r0 c87r1 c87r2 c87r3 c87r4 c87r5 c87r6 c87r7 c87r8 c87r9 c87r10 c87k11 c87k12 c87k13 c87k14 c87r16 c87r17 c87k18 c87r19 c87k20 c87r21 c87b22 c87k23 c87r24 c87 g87 c91r0 c91r1 c91r2 c91k3 c91r4 c91r5 c91k6 c91r7 c91r8 c91r9 c91k10 c91k11 c91r12 c91k14 c91r15 c91 g91 c92r0 c92r1 c92r2 c92k3 c92r4 c92r5 c92r6 c92k7 c92r8 c92r9 c92k10 c92r11 c92b12 c92k13 c92r14 c92 g92 c93r0 c93r1 c93r2 c93r3 c93r4 c93k5 c93r6 c93 g93 c94r0 c94r1 c94r2 c94r3 c94k4 c94r5 c94 g94 c95r0 c95r1 c95r2 c95k3 c95r4 c95 g95 c101r0 c101r1 c101r2 c101r3 c101r4 c101 g101 c104r0 c104r1 c104r2 c104r3 c104r4 c104r5 c104r6 c104k7 c104r8 c104r9 c104r10 c104k11 c104r12 c104r13 c104k14 c104r15 c104k16 c104r17 c104k18 c104b19 c104k20 c104r21 c104 g104 c107r0 c107r1 c107 g107 c111r0 c111r1 c111r2 c111r3 c111r4 c111r5 c111r6 c111r7 c111r8 c111r9 c111k10 c111k11 c111k12 c111k13 c111k14 c111r15 c111 g111 c112r0 c112r1 c112r2 c112k3 c112r4 c112r5 c112k6 c112k7 c112r8 c112b9 c112k10 c112r11 c112 g112 c114r0 c114r1 c114 g114 c115r0 c115r1 c115r2 c115k3 c115r4 c115r5 c115r6 c115k7 c115r8 c115r9 c115r10 c115k11 c115r12 c115k13 c115r14 c115b15 c115k16 c115r17 c115r18 c115k19 c115r20 c115 g115 c116r0 c116r1 c116r2 c116k3 c116r4 c116r5 c116k6 c116r7 c116r8 c116k9 c116b10 c116k11 c116r12 c116 g116 c117r0 c117r1 c117 g117 c118r0 c118r1 c118r2 c118r3 c118k4 c118r5 c118k6 c118r7 c118b8 c118k9 c118 g118 c122r0 c122r1 c122k2 c122 g122 c123r0 c123r1 c123 g123 c124r0 c124r1 c124 g124 c125r0 c125r1 c125 g125 c126r0 c126r1 c126 g126 c128r0 c128r1 c128r2 c128 g128 c130r0 c130r1 c130 g130 c131r0 c131r1 c131r2 c131p3 c131r4 c131r5 c131k6 c131q7 c131 g131 c132r0 c132r1 c132r2 c132 g132 c136r0 c136r1 c136r2 c136k3 c136r4 c136 g136 c137r0 c137r1 c137 g137 c140r0 c140r1 c140 g140 c141r0 c141r1 c141 g141 c143r0 c143r1 c143 g143 c150r0 c150r1 c150k2 c150r3 c150k4 c150k5 c150r6 c150b7 c150k8 c150 g150
end Go.Proofs.YtiifblpdlphchaaGreatRR
