/- The functions as the abstract machine has them,each proved to be what the translation gives. -/
import Derived.Test.YtffecaafklpmhaaAm4
import Derived.Test.YtffecaafklpmhaaProg
import Derived.KernelRfl
namespace Go.Proofs.Ytffecaafklpmhaa
open Go.Am
def oP(d:Nat)(p:AOp)(l:List AArg):AOper:=⟨some d,p,l,none⟩
def aZ:AOp:=.alloc (some 4) (.agg [(none,(.pv none (.int .i64 0))),(none,(.pv none (.int .i64 0))),(none,(.pv none (.str []))),(none,(.tsl (some 4) []))])
def bZ(l:List Nat):AOp:=.build [(none,(.pv none (.int .i64 0))),(none,(.pv none (.int .i64 0))),(none,(.pv none (.str []))),(none,(.tsl (some 4) []))] l
def oMv(d s:Nat):AOper:=⟨some d,.mv,[.t s],none⟩
def oLf(d s:Nat):AOper:=⟨some d,.load (some 4),[.t s],none⟩
def oLo(d s:Nat):AOper:=⟨some d,.load none,[.t s],none⟩
def oFa(d k s:Nat):AOper:=⟨some d,.faddr k,[.t s],none⟩
def oSf(r s:Nat):AOper:=⟨none,.store (some 4),[.t r,.t s],none⟩
def oSo(r s:Nat):AOper:=⟨none,.store none,[.t r,.t s],none⟩
def oUn(d:Nat)(p:AOp)(s:Nat):AOper:=⟨some d,p,[.t s],none⟩
def oBi(d:Nat)(p:BinOp)(a b:Nat):AOper:=⟨some d,.bin p,[.t a,.t b],none⟩
def oIa(d a b:Nat):AOper:=⟨some d,.iaddr (some 4),[.t a,.t b],none⟩
def oBx(d s:Nat):AOper:=⟨some d,.box (some 4),[.t s],none⟩
def oEx(d k s:Nat):AOper:=⟨some d,.extract k,[.t s],none⟩
def kRt(c:Nat)(r:List AOper)(l:List Nat):ACode:=.cond (.t c) (.seq (.region true r l) .ret) .skip
def kEx(c k:Nat):ACode:=.cond (.t c) .skip (.exit k)
def rT(r:List AOper)(l:List Nat):ACode:=.region true r l
def oG(d:Nat)(p:AOp)(l:List AArg)(g:Nat)(b:Bool):AOper:=⟨some d,p,l,some (g,b)⟩
def oCl(d f:Nat)(l:List AArg):AOper:=⟨some d,.call,.c (.pv none (.func (.func f)))::l,none⟩
def oBc(d:Nat)(p:BinOp)(a:Nat)(n:Int):AOper:=⟨some d,.bin p,[.t a,.c (.pv none (.int .i64 n))],none⟩
def cSt(l:List UInt8):AArg:=.c (.pv none (.str l))
def cIn(n:Int):AArg:=.c (.pv none (.int .i64 n))
def cFn(n:Nat):AArg:=.c (.pv none (.func (.func n)))
def cBo(b:Bool):AArg:=.c (.pv none (.bool b))
abbrev LO:=List AOper
attribute [go_sem] oBc cSt oG oCl oUn oBi oIa oBx oEx kRt kEx rT oP aZ bZ oMv oLf oLo oFa oSf oSo cIn cFn cBo
def c3r0:LO:=[oBx 3 0,oBx 4 1,oBx 5 2,oP 6 .mv [cBo false]]
def c3r1:LO:=[oLf 21 3,oLf 22 4,oLf 23 5,oP 24 (.bslice (some 4)) [.t 21,.t 22,.t 23],oCl 25 8 [cSt [36,98,97,103],.t 24],oCl 26 7 [.t 25],oCl 27 6 [.t 26],oMv 20 27,oEx 28 0 20,oEx 29 1 20,oEx 30 2 20,oP 8 aZ [],oMv 7 28,
 oSf 8 29,oMv 9 30]
def c3r2:LO:=[oLf 32 3,oLf 33 4,oLf 34 5,oP 35 (.bslice (some 4)) [.t 32,.t 33,.t 34],oCl 36 8 [cSt [36,115,101,116],.t 35],oCl 37 7 [.t 36],oCl 38 6 [.t 37],oMv 31 38,oEx 39 0 31,oEx 40 1 31,oEx 41 2 31,oP 11 aZ [],
 oMv 10 39,oSf 11 40,oMv 12 41]
def c3r3:LO:=[oMv 42 9,oBc 43 .eql 42 2,oMv 44 43,oG 45 .mv [.t 12] 44 false,oG 46 (.bin .eql) [.t 45,cIn 2] 44 false,oP 47 .pick [.t 44,cBo true,.t 46]]
def c3r4:LO:=[oCl 48 9 [],oMv 6 48]
def c3k5:ACode:=kRt 47 c3r4 [6]
def c3r6:LO:=[oMv 49 9,oMv 50 12,oBi 51 .neq 49 50,oMv 52 51,oG 53 .mv [.t 7] 52 false,oG 54 .len [.t 53] 52 false,oG 55 .mv [.t 10] 52 false,oG 56 .len [.t 55] 52 false,oG 57 (.bin .neq) [.t 54,.t 56] 52 false,oP 58 .pick [.t 52,cBo true,.t 57],
 oMv 59 58,oG 60 (.load (some 4)) [.t 8] 59 false,oG 61 (.load (some 4)) [.t 11] 59 false,oG 62 .call [cFn 10,.t 60,.t 61] 59 false,oG 63 .not [.t 62] 59 false,oP 64 .pick [.t 59,cBo true,.t 63]]
def c3r7:LO:=[oP 6 .mv [cBo false]]
def c3k8:ACode:=kRt 64 c3r7 [6]
def c3r9:LO:=[oP 13 .mv [cIn 0]]
def c3r10:LO:=[oMv 65 13,oMv 66 7,oUn 67 .len 66,oBi 68 .lss 65 67]
def c3k11:ACode:=kEx 68 0
def c3r12:LO:=[oMv 71 7,oMv 72 13,oIa 73 71 72,oFa 74 3 73,oLo 75 74,oUn 76 .len 75,oBc 77 .neq 76 3,oMv 78 77,oG 79 .mv [.t 10] 78 false,oG 80 .mv [.t 13] 78 false,oG 81 (.iaddr (some 4)) [.t 79,.t 80] 78 false,oG 82 (.faddr 3) [.t 81] 78 false,
 oG 83 (.load none) [.t 82] 78 false,oG 84 .len [.t 83] 78 false,oG 85 (.bin .neq) [.t 84,cIn 3] 78 false,oP 86 .pick [.t 78,cBo true,.t 85],oMv 87 86,oG 88 .mv [.t 7] 87 false,oG 89 .mv [.t 13] 87 false,oG 90 (.iaddr (some 4)) [.t 88,.t 89] 87 false,
 oG 91 (.faddr 2) [.t 90] 87 false,oG 92 (.load none) [.t 91] 87 false,oG 93 (.bin .neq) [.t 92,cSt [36,98,97,103]] 87 false,oP 94 .pick [.t 87,cBo true,.t 93],oMv 95 94,oG 96 .mv [.t 10] 95 false,oG 97 .mv [.t 13] 95 false,
 oG 98 (.iaddr (some 4)) [.t 96,.t 97] 95 false,oG 99 (.faddr 2) [.t 98] 95 false,oG 100 (.load none) [.t 99] 95 false,oG 101 (.bin .neq) [.t 100,cSt [36,115,101,116]] 95 false,oP 102 .pick [.t 95,cBo true,.t 101]]
def c3r13:LO:=[oP 6 .mv [cBo false]]
def c3k14:ACode:=kRt 102 c3r13 [6]
def c3r15:LO:=[oMv 104 7,oMv 105 13,oIa 106 104 105,oFa 107 3 106,oLo 108 107,oP 109 (.iaddr (some 4)) [.t 108,cIn 2],oLf 110 109,oCl 111 11 [.t 110],oMv 103 111,oEx 112 0 103,oEx 113 1 103,oP 15 aZ [],oMv 14 112,oSf 15 113]
def c3r16:LO:=[oMv 115 14,oCl 116 12 [.t 115],oMv 114 116,oEx 117 0 114,oEx 118 1 114,oMv 16 117,oMv 17 118]
def c3r17:LO:=[oMv 120 10,oMv 121 13,oIa 122 120 121,oFa 123 3 122,oLo 124 123,oP 125 (.iaddr (some 4)) [.t 124,cIn 2],oLf 126 125,oCl 127 11 [.t 126],oMv 119 127,oEx 128 0 119,oEx 129 1 119,oP 19 aZ [],oMv 18 128,oSf 19 129]
def c3r18:LO:=[oMv 130 7,oMv 131 13,oIa 132 130 131,oFa 133 3 132,oLo 134 133,oP 135 (.iaddr (some 4)) [.t 134,cIn 0],oLf 136 135,oMv 137 10,oMv 138 13,oIa 139 137 138,oFa 140 3 139,oLo 141 140,oP 142 (.iaddr (some 4)) [.t 141,cIn 0],
 oLf 143 142,oCl 144 13 [.t 136,.t 143],oUn 145 .not 144,oMv 146 145,oG 147 .mv [.t 7] 146 false,oG 148 .mv [.t 13] 146 false,oG 149 (.iaddr (some 4)) [.t 147,.t 148] 146 false,oG 150 (.faddr 3) [.t 149] 146 false,oG 151 (.load none) [.t 150] 146 false,
 oG 152 (.iaddr (some 4)) [.t 151,cIn 1] 146 false,oG 153 (.load (some 4)) [.t 152] 146 false,oG 154 .mv [.t 10] 146 false,oG 155 .mv [.t 13] 146 false,oG 156 (.iaddr (some 4)) [.t 154,.t 155] 146 false,oG 157 (.faddr 3) [.t 156] 146 false,
 oG 158 (.load none) [.t 157] 146 false,oG 159 (.iaddr (some 4)) [.t 158,cIn 1] 146 false,oG 160 (.load (some 4)) [.t 159] 146 false,oG 161 .call [cFn 13,.t 153,.t 160] 146 false,oG 162 .not [.t 161] 146 false,oP 163 .pick [.t 146,cBo true,.t 162],
 oMv 164 163,oG 165 .mv [.t 16] 164 false,oG 166 .mv [.t 18] 164 false,oG 167 .call [cFn 14,.t 165,.t 166] 164 false,oG 168 .not [.t 167] 164 false,oP 169 .pick [.t 164,cBo true,.t 168]]
def c3r19:LO:=[oP 6 .mv [cBo false]]
def c3k20:ACode:=kRt 169 c3r19 [6]
def c3k21:ACode:=.block 1 (.seq (.seq (rT c3r12 [7,10,13,102]) c3k14) (.seq (rT c3r15 [7,10,13,14]) (.seq (rT c3r16 [7,10,13,16]) (.seq (rT c3r17 [7,10,13,16,18]) (.seq (rT c3r18 [7,10,13,169]) c3k20)))))
def c3r22:LO:=[oMv 69 13,oBc 70 .add 69 1,oMv 13 70]
def c3b23:ACode:=.seq (.seq (rT c3r10 [7,10,13,68]) c3k11) (.seq c3k21 (rT c3r22 [7,10,13]))
def c3k24:ACode:=.block 0 (.loop [7,10,13] c3b23)
def c3r25:LO:=[oCl 170 9 [],oMv 6 170]
def c3:ACode:=.seq (rT c3r0 [3,4,5]) (.seq (rT c3r1 [3,4,5,7,8,9]) (.seq (rT c3r2 [7,8,9,10,11,12]) (.seq (.seq (rT c3r3 [7,8,9,10,11,12,47]) c3k5) (.seq (.seq (rT c3r6 [7,10,64]) c3k8) (.seq (.seq (rT c3r9 [7,10,13]) c3k24) (.seq (rT c3r25 [6]) .ret))))))
def g3:AFn:=⟨3,[(6,none)],c3,false,[],[],none⟩
theorem tr3:trFn Try.prog false 3 Try.f3=some g3:=by kernel_rfl
def c6r0:LO:=[oBx 1 0,oP 2 (.nilsl (some 4)) [],oP 3 aZ [],oP 4 .mv [cIn 0]]
def c6r1:LO:=[oLf 15 1,oP 16 .callp [cFn 16,.t 15],oUn 17 .not 16,oMv 18 17,oG 19 (.load (some 4)) [.t 1] 18 false,oG 20 (.load (some 4)) [.t 1] 18 false,oG 21 .callp [cFn 7,.t 20] 18 false,oG 22 .callp [cFn 13,.t 19,.t 21] 18 false,
 oG 23 .not [.t 22] 18 false,oP 24 .pick [.t 18,cBo true,.t 23]]
def c6r2:LO:=[oP 25 (bZ []) [],oP 2 (.nilsl (some 4)) [],oSf 3 25,oP 4 .mv [cIn 1]]
def c6k3:ACode:=kRt 24 c6r2 [2,3,4]
def c6r4:LO:=[oFa 26 0 1,oLo 27 26,oBc 28 .neq 27 3,oMv 29 28,oG 30 (.faddr 2) [.t 1] 29 false,oG 31 (.load none) [.t 30] 29 false,oG 32 (.faddr 3) [.t 1] 29 false,oG 33 (.load none) [.t 32] 29 false,oG 34 .len [.t 33] 29 false,
 oG 35 .call [cFn 24,.t 31,.t 34] 29 false,oG 36 .not [.t 35] 29 false,oP 37 .pick [.t 29,cBo true,.t 36]]
def c6r5:LO:=[oP 38 (bZ []) [],oP 2 (.nilsl (some 4)) [],oSf 3 38,oP 4 .mv [cIn 4]]
def c6k6:ACode:=kRt 37 c6r5 [2,3,4]
def c6r7:LO:=[oFa 40 3 1,oLo 41 40,oP 42 (.iaddr (some 4)) [.t 41,cIn 1],oLf 43 42,oCl 44 25 [.t 43],oMv 39 44,oEx 45 0 39,oEx 46 1 39,oEx 47 2 39,oMv 5 45,oSf 3 46,oMv 6 47]
def c6r8:LO:=[oMv 48 6,oUn 49 .not 48]
def c6r9:LO:=[oLf 50 3,oP 2 (.nilsl (some 4)) [],oSf 3 50,oP 4 .mv [cIn 8]]
def c6k10:ACode:=kRt 49 c6r9 [2,3,4]
def c6r11:LO:=[oMv 52 5,oCl 53 19 [.t 52],oMv 51 53,oEx 54 0 51,oEx 55 1 51,oMv 7 54,oMv 4 55]
def c6r12:LO:=[oMv 56 4,oBc 57 .neq 56 0]
def c6r13:LO:=[oP 58 (bZ []) [],oMv 59 4,oP 2 (.nilsl (some 4)) [],oSf 3 58,oMv 4 59]
def c6k14:ACode:=kRt 57 c6r13 [2,3,4]
def c6r15:LO:=[oCl 60 26 [],oUn 61 .len 60,oP 62 .mv [cIn 0]]
def c6r16:LO:=[oBi 63 .lss 62 61]
def c6k17:ACode:=kEx 63 0
def c6r18:LO:=[oP 64 (.iaddr (some 2)) [.t 60,.t 62],oUn 65 (.load (some 2)) 64,oP 9 (.alloc (some 2) (.pv (some 2) (.agg [(none,(.str [])),(none,.nilfunc)]))) [],⟨none,(.store (some 2)),[.t 9,.t 65],none⟩]
def c6r19:LO:=[oFa 66 0 9,oLo 67 66,oFa 68 2 1,oLo 69 68,oBi 70 .neq 67 69]
def c6k20:ACode:=.cond (.t 70) (.exit 1) .skip
def c6r21:LO:=[oMv 71 7,oUn 72 .len 71,oP 73 .mv [cIn 0]]
def c6r22:LO:=[oBi 74 .lss 73 72]
def c6k23:ACode:=kEx 74 2
def c6r24:LO:=[oIa 75 71 73,oLf 76 75,oP 11 aZ [],oSf 11 76]
def c6r25:LO:=[oFa 78 3 11,oLo 79 78,oP 80 (.iaddr (some 4)) [.t 79,cIn 1],oLf 81 80,oCl 82 11 [.t 81],oMv 77 82,oEx 83 0 77,oEx 84 1 77,oP 13 aZ [],oMv 12 83,oSf 13 84]
def c6r26:LO:=[oFa 85 2 1,oLo 86 85,oFa 87 3 11,oLo 88 87,oP 89 (.iaddr (some 4)) [.t 88,cIn 0],oLf 90 89,oFa 91 3 1,oLo 92 91,oP 93 (.iaddr (some 4)) [.t 92,cIn 1],oLf 94 93,oFa 95 1 9,oLo 96 95,oMv 97 12,oP 98 .callp [.t 96,.t 97],
 oP 99 .callp [cFn 28,.t 98],oP 100 (.bslicep (some 4)) [.t 90,.t 94,.t 99],oP 101 .callp [cFn 27,.t 86,.t 100],oP 14 aZ [],oSf 14 101]
def c6r27:LO:=[oLf 102 14,oCl 103 16 [.t 102],oUn 104 .not 103]
def c6r28:LO:=[oP 105 (bZ []) [],oP 2 (.nilsl (some 4)) [],oSf 3 105,oP 4 .mv [cIn 2]]
def c6k29:ACode:=kRt 104 c6r28 [2,3,4]
def c6r30:LO:=[oMv 106 2,oLf 107 14,oCl 108 29 [.t 107],oUn 109 (.bslice (some 4)) 108,oP 110 (.append (some 4)) [.t 106,.t 109],oMv 2 110]
def c6k31:ACode:=.block 3 (.seq (rT c6r24 [1,2,3,7,9,11,60,61,62,71,72,73]) (.seq (rT c6r25 [1,2,3,7,9,11,12,60,61,62,71,72,73]) (.seq (.seq (.settle [12]) (rT c6r26 [1,2,3,7,9,14,60,61,62,71,72,73])) (.seq (.seq (rT c6r27 [1,2,3,7,9,14,60,61,62,71,72,73,104]) c6k29) (rT c6r30 [1,2,3,7,9,60,61,62,71,72,73])))))
def c6r32:LO:=[oBc 111 .add 73 1,oMv 73 111]
def c6b33:ACode:=.seq (rT c6r22 [1,2,3,7,9,60,61,62,71,72,73,74]) (.seq c6k23 (.seq c6k31 (rT c6r32 [1,2,3,7,9,60,61,62,71,72,73])))
def c6k34:ACode:=.block 2 (.loop [1,2,3,7,9,60,61,62,71,72,73] c6b33)
def c6k35:ACode:=.block 1 (.seq (rT c6r18 [1,2,3,7,9,60,61,62]) (.seq (.seq (rT c6r19 [1,2,3,7,9,60,61,62,70]) c6k20) (.seq (rT c6r21 [1,2,3,7,9,60,61,62,71,72,73]) c6k34)))
def c6r36:LO:=[oBc 112 .add 62 1,oMv 62 112]
def c6b37:ACode:=.seq (rT c6r16 [1,2,3,7,60,61,62,63]) (.seq c6k17 (.seq c6k35 (rT c6r36 [1,2,3,7,60,61,62])))
def c6k38:ACode:=.block 0 (.loop [1,2,3,7,60,61,62] c6b37)
def c6r39:LO:=[oMv 113 2,oP 114 (bZ []) [],oMv 2 113,oSf 3 114,oP 4 .mv [cIn 0]]
def c6:ACode:=.seq (rT c6r0 [1,2,3]) (.seq (.seq (.seq (.settle [1]) (rT c6r1 [1,2,3,24])) c6k3) (.seq (.seq (rT c6r4 [1,2,3,37]) c6k6) (.seq (rT c6r7 [1,2,3,5,6]) (.seq (.seq (rT c6r8 [1,2,3,5,49]) c6k10) (.seq (rT c6r11 [1,2,3,4,7]) (.seq (.seq (rT c6r12 [1,2,3,4,7,57]) c6k14) (.seq (.seq (rT c6r15 [1,2,3,7,60,61,62]) c6k38) (.seq (rT c6r39 [2,3,4]) .ret))))))))
def g6:AFn:=⟨1,[(2,none),(3,some (some 4)),(4,none)],c6,false,[],[],none⟩
theorem tr6:trFn Try.prog false 6 Try.f6=some g6:=by kernel_rfl
def c7r0:LO:=[oBx 1 0,oP 2 aZ []]
def c7r1:LO:=[oLf 4 1,oCl 5 16 [.t 4],oUn 6 .not 5]
def c7r2:LO:=[oP 7 (bZ []) [],oSf 2 7]
def c7k3:ACode:=kRt 6 c7r2 [2]
def c7r4:LO:=[oP 8 (.mkmap none) [],oP 3 (.alloc none (.pv none .nilmap)) [],oSo 3 8]
def c7r5:LO:=[oLf 9 1,oUn 10 (.mkfunc (.func 31) 0) 3,oCl 11 30 [.t 9,.t 10],oSf 2 11]
def c7:ACode:=.seq (rT c7r0 [1,2]) (.seq (.seq (rT c7r1 [1,2,6]) c7k3) (.seq (rT c7r4 [1,2,3]) (.seq (rT c7r5 [2]) .ret)))
def g7:AFn:=⟨1,[(2,some (some 4))],c7,false,[],[],none⟩
theorem tr7:trFn Try.prog false 7 Try.f7=some g7:=by kernel_rfl
def c8r0:LO:=[oP 4 aZ []]
def c8r1:LO:=[oMv 5 1,oUn 6 .len 5,oBc 7 .eql 6 0]
def c8r2:LO:=[oMv 8 0,oCl 9 32 [.t 8],oSf 4 9]
def c8k3:ACode:=kRt 7 c8r2 [4]
def c8r4:LO:=[oMv 10 0,oMv 11 1,oP 12 (bZ [0,2,3]) [cIn 3,.t 10,.t 11],oCl 13 29 [.t 12],oSf 4 13]
def c8:ACode:=.seq (rT c8r0 [0,1,4]) (.seq (.seq (rT c8r1 [0,1,4,7]) c8k3) (.seq (rT c8r4 [4]) .ret))
def g8:AFn:=⟨2,[(4,some (some 4))],c8,false,[],[],none⟩
theorem tr8:trFn Try.prog false 8 Try.f8=some g8:=by kernel_rfl
def c9r0:LO:=[oP 0 .mv [cBo false]]
def c9r1:LO:=[oCl 10 33 [cIn 0],oCl 11 33 [cIn 1],oCl 12 33 [cIn 2],oP 13 (.bslice (some 4)) [.t 10,.t 11,.t 12],oCl 14 8 [cSt [112],.t 13],oP 1 aZ [],oSf 1 14]
def c9r2:LO:=[oCl 16 32 [cSt [98]],oCl 17 34 [cIn 1],oCl 18 15 [.t 16,.t 17],oCl 19 32 [cSt [97]],oCl 20 34 [cIn 2],oCl 21 15 [.t 19,.t 20],oCl 22 32 [cSt [98]],oCl 23 34 [cIn 3],oCl 24 15 [.t 22,.t 23],oP 25 (.bslice (some 4)) [.t 18,.t 21,.t 24],
 oCl 26 19 [.t 25],oMv 15 26,oEx 27 0 15,oEx 28 1 15,oMv 2 27,oMv 3 28]
def c9r3:LO:=[oCl 29 32 [cSt [97]],oCl 30 34 [cIn 2],oCl 31 15 [.t 29,.t 30],oCl 32 32 [cSt [97]],oCl 33 34 [cIn 1],oCl 34 15 [.t 32,.t 33],oCl 35 32 [cSt [97]],oCl 36 34 [cIn 2],oCl 37 15 [.t 35,.t 36],oP 38 (.bslice (some 4)) [.t 31,.t 34,.t 37],
 oCl 39 35 [.t 38],oP 4 aZ [],oSf 4 39]
def c9r4:LO:=[oP 41 .callp [cFn 33,cIn 0],oLf 42 4,oP 43 .callp [cFn 33,cIn 1],oP 44 (.bslicep (some 4)) [.t 41,.t 42,.t 43],oP 45 .callp [cFn 8,cSt [36,115,101,116],.t 44],oP 46 .callp [cFn 6,.t 45],oMv 40 46,oEx 47 0 40,
 oEx 48 1 40,oEx 49 2 40,oP 6 aZ [],oMv 5 47,oSf 6 48,oMv 7 49]
def c9r5:LO:=[oMv 50 3,oBc 51 .neq 50 0,oMv 52 51,oG 53 .mv [.t 2] 52 false,oG 54 .len [.t 53] 52 false,oG 55 (.bin .neq) [.t 54,cIn 2] 52 false,oP 56 .pick [.t 52,cBo true,.t 55],oMv 57 56,oG 58 .mv [.t 7] 57 false,
 oG 59 (.bin .neq) [.t 58,cIn 0] 57 false,oP 60 .pick [.t 57,cBo true,.t 59],oMv 61 60,oG 62 .mv [.t 5] 61 false,oG 63 .len [.t 62] 61 false,oG 64 (.bin .neq) [.t 63,cIn 1] 61 false,oP 65 .pick [.t 61,cBo true,.t 64]]
def c9r6:LO:=[oP 0 .mv [cBo false]]
def c9k7:ACode:=kRt 65 c9r6 [0]
def c9r8:LO:=[oMv 66 2,oP 67 (.iaddr (some 4)) [.t 66,cIn 0],oLf 68 67,oP 69 .callp [cFn 32,cSt [97]],oP 70 .callp [cFn 34,cIn 2],oUn 71 (.bslicep (some 4)) 70,oP 72 .callp [cFn 35,.t 71],oP 73 .callp [cFn 15,.t 69,.t 72],
 oP 74 .callp [cFn 36,.t 68,.t 73],oMv 75 74,oG 76 .mv [.t 2] 75 true,oG 77 (.iaddr (some 4)) [.t 76,cIn 1] 75 true,oG 78 (.load (some 4)) [.t 77] 75 true,oG 79 .callp [cFn 32,cSt [98]] 75 true,oG 80 .callp [cFn 34,cIn 1] 75 true,
 oG 81 .callp [cFn 34,cIn 3] 75 true,oG 82 (.bslicep (some 4)) [.t 80,.t 81] 75 true,oG 83 .callp [cFn 35,.t 82] 75 true,oG 84 .callp [cFn 15,.t 79,.t 83] 75 true,oG 85 .callp [cFn 36,.t 78,.t 84] 75 true,oP 86 .pick [.t 75,.t 85,cBo false],
 oMv 8 86]
def c9r9:LO:=[oMv 87 5,oP 88 (.iaddr (some 4)) [.t 87,cIn 0],oLf 89 88,oP 90 .callp [cFn 32,cSt [97]],oLf 91 4,oP 92 .callp [cFn 34,cIn 1],oP 93 .callp [cFn 34,cIn 2],oP 94 (.bslicep (some 4)) [.t 92,.t 93],oP 95 .callp [cFn 35,.t 94],
 oP 96 (.bslicep (some 4)) [.t 90,.t 91,.t 95],oP 97 .callp [cFn 8,cSt [36,115,101,116],.t 96],oP 98 .callp [cFn 36,.t 89,.t 97],oMv 9 98]
def c9r10:LO:=[oMv 99 8,oMv 100 99,oG 101 .mv [.t 9] 100 true,oP 102 .pick [.t 100,.t 101,cBo false],oMv 103 102,oG 104 .callp [cFn 33,cIn 0] 103 true,oG 105 .callp [cFn 33,cIn 1] 103 true,oG 106 (.load (some 4)) [.t 1] 103 true,
 oG 107 (.bslicep (some 4)) [.t 105,.t 106] 103 true,oG 108 .callp [cFn 8,cSt [94],.t 107] 103 true,oG 109 .callp [cFn 22,.t 104,.t 108] 103 true,oG 110 .callp [cFn 33,cIn 2] 103 true,oG 111 (.bslicep (some 4)) [.t 110] 103 true,
 oG 112 .callp [cFn 35,.t 111] 103 true,oG 113 .callp [cFn 36,.t 109,.t 112] 103 true,oP 114 .pick [.t 103,.t 113,cBo false],oMv 0 114]
def c9:ACode:=.seq (rT c9r0 []) (.seq (rT c9r1 [1]) (.seq (rT c9r2 [1,2,3]) (.seq (rT c9r3 [1,2,3,4]) (.seq (.seq (.settle [4]) (rT c9r4 [1,2,3,4,5,7])) (.seq (.seq (rT c9r5 [1,2,4,5,65]) c9k7) (.seq (.seq (.settle []) (rT c9r8 [1,4,5,8])) (.seq (.seq (.settle [4]) (rT c9r9 [1,8,9])) (.seq (.seq (.settle [1]) (rT c9r10 [0])) .ret))))))))
def g9:AFn:=⟨0,[(0,none)],c9,false,[],[],none⟩
theorem tr9:trFn Try.prog false 9 Try.f9=some g9:=by kernel_rfl
def c10r0:LO:=[oBx 2 0,oBx 3 1,oP 4 .mv [cBo false]]
def c10r1:LO:=[oLf 5 2,oLf 6 3,oCl 7 36 [.t 5,.t 6],oMv 4 7]
def c10:ACode:=.seq (rT c10r0 [2,3]) (.seq (rT c10r1 [4]) .ret)
def g10:AFn:=⟨2,[(4,none)],c10,false,[],[],none⟩
theorem tr10:trFn Try.prog false 10 Try.f10=some g10:=by kernel_rfl
def c11r0:LO:=[oBx 1 0,oP 2 (.nilsl (some 4)) [],oP 3 aZ []]
def c11r1:LO:=[oLf 5 1,oCl 6 16 [.t 5],oUn 7 .not 6]
def c11r2:LO:=[oP 8 (bZ []) [],oP 2 (.nilsl (some 4)) [],oSf 3 8]
def c11k3:ACode:=kRt 7 c11r2 [2,3]
def c11r4:LO:=[oP 4 (.nilsl (some 4)) []]
def c11r5:LO:=[oFa 9 0 1,oLo 10 9,oBc 11 .eql 10 3,oMv 12 11,oG 13 (.faddr 2) [.t 1] 12 true,oG 14 (.load none) [.t 13] 12 true,oG 15 (.bin .eql) [.t 14,cSt [46]] 12 true,oP 16 .pick [.t 12,.t 15,cBo false],oMv 17 16,
 oG 18 (.faddr 3) [.t 1] 17 true,oG 19 (.load none) [.t 18] 17 true,oG 20 .len [.t 19] 17 true,oG 21 (.bin .eql) [.t 20,cIn 2] 17 true,oP 22 .pick [.t 17,.t 21,cBo false]]
def c11k6:ACode:=kEx 22 0
def c11r7:LO:=[oMv 23 4,oFa 24 3 1,oLo 25 24,oP 26 (.iaddr (some 4)) [.t 25,cIn 0],oLf 27 26,oCl 28 29 [.t 27],oUn 29 (.bslice (some 4)) 28,oP 30 (.append (some 4)) [.t 23,.t 29],oMv 4 30]
def c11r8:LO:=[oFa 31 3 1,oLo 32 31,oP 33 (.iaddr (some 4)) [.t 32,cIn 1],oLf 34 33,oSf 1 34]
def c11k9:ACode:=.block 1 (.seq (rT c11r7 [1,3,4]) (rT c11r8 [1,3,4]))
def c11b10:ACode:=.seq (.seq (rT c11r5 [1,3,4,22]) c11k6) c11k9
def c11k11:ACode:=.block 0 (.loop [1,3,4] c11b10)
def c11r12:LO:=[oMv 35 4,oLf 36 1,oCl 37 29 [.t 36],oMv 2 35,oSf 3 37]
def c11:ACode:=.seq (rT c11r0 [1,3]) (.seq (.seq (rT c11r1 [1,3,7]) c11k3) (.seq (rT c11r4 [1,3,4]) (.seq c11k11 (.seq (rT c11r12 [2,3]) .ret))))
def g11:AFn:=⟨1,[(2,none),(3,some (some 4))],c11,false,[],[],none⟩
theorem tr11:trFn Try.prog false 11 Try.f11=some g11:=by kernel_rfl
def c12r0:LO:=[oP 2 (.nilsl (some 4)) [],oP 3 .mv [cIn 0]]
def c12r1:LO:=[oMv 5 0,oCl 6 37 [.t 5],oMv 4 6,oEx 7 0 4,oEx 8 1 4,oMv 2 7,oMv 3 8]
def c12r2:LO:=[oMv 9 3,oBc 10 .neq 9 0]
def c12r3:LO:=[oMv 11 3,oP 2 (.nilsl (some 4)) [],oMv 3 11]
def c12k4:ACode:=kRt 10 c12r3 [2,3]
def c12r5:LO:=[oMv 12 2,oCl 13 38 [.t 12,cFn 39],oMv 2 13,oP 3 .mv [cIn 0]]
def c12:ACode:=.seq (rT c12r0 [0]) (.seq (rT c12r1 [2,3]) (.seq (.seq (rT c12r2 [2,3,10]) c12k4) (.seq (rT c12r5 [2,3]) .ret)))
def g12:AFn:=⟨1,[(2,none),(3,none)],c12,true,[],[],none⟩
theorem tr12:trFn Try.prog true 12 Try.f12=some g12:=by kernel_rfl
def c13r0:LO:=[oBx 2 0,oBx 3 1,oP 4 .mv [cBo false]]
def c13r1:LO:=[oLf 5 2,oCl 6 16 [.t 5],oMv 7 6,oG 8 (.load (some 4)) [.t 3] 7 true,oG 9 .call [cFn 16,.t 8] 7 true,oP 10 .pick [.t 7,.t 9,cBo false],oMv 11 10,oG 12 (.load (some 4)) [.t 2] 11 true,oG 13 (.load (some 4)) [.t 3] 11 true,
 oG 14 .call [cFn 41,.t 12,.t 13] 11 true,oP 15 .pick [.t 11,.t 14,cBo false],oMv 4 15]
def c13:ACode:=.seq (rT c13r0 [2,3]) (.seq (rT c13r1 [4]) .ret)
def g13:AFn:=⟨2,[(4,none)],c13,false,[],[],none⟩
theorem tr13:trFn Try.prog false 13 Try.f13=some g13:=by kernel_rfl
def c14r0:LO:=[oP 4 .mv [cBo false]]
def c14r1:LO:=[oMv 6 0,oUn 7 .len 6,oMv 8 1,oUn 9 .len 8,oBi 10 .neq 7 9]
def c14r2:LO:=[oP 4 .mv [cBo false]]
def c14k3:ACode:=kRt 10 c14r2 [4]
def c14r4:LO:=[oP 5 .mv [cIn 0]]
def c14r5:LO:=[oMv 11 5,oMv 12 0,oUn 13 .len 12,oBi 14 .lss 11 13]
def c14k6:ACode:=kEx 14 0
def c14r7:LO:=[oMv 17 0,oMv 18 5,oIa 19 17 18,oLf 20 19,oMv 21 1,oMv 22 5,oIa 23 21 22,oLf 24 23,oCl 25 36 [.t 20,.t 24],oUn 26 .not 25]
def c14r8:LO:=[oP 4 .mv [cBo false]]
def c14k9:ACode:=kRt 26 c14r8 [4]
def c14k10:ACode:=.block 1 (.seq (rT c14r7 [0,1,5,26]) c14k9)
def c14r11:LO:=[oMv 15 5,oBc 16 .add 15 1,oMv 5 16]
def c14b12:ACode:=.seq (.seq (rT c14r5 [0,1,5,14]) c14k6) (.seq c14k10 (rT c14r11 [0,1,5]))
def c14k13:ACode:=.block 0 (.loop [0,1,5] c14b12)
def c14r14:LO:=[oP 4 .mv [cBo true]]
def c14:ACode:=.seq (rT c14r0 [0,1]) (.seq (.seq (rT c14r1 [0,1,10]) c14k3) (.seq (.seq (rT c14r4 [0,1,5]) c14k13) (.seq (rT c14r14 [4]) .ret)))
def g14:AFn:=⟨2,[(4,none)],c14,false,[],[],none⟩
theorem tr14:trFn Try.prog false 14 Try.f14=some g14:=by kernel_rfl
def c15r0:LO:=[oBx 2 0,oBx 3 1,oP 4 aZ []]
def c15r1:LO:=[oLf 5 2,oLf 6 3,oP 7 (.bslice (some 4)) [.t 5,.t 6],oCl 8 8 [cSt [45],.t 7],oSf 4 8]
def c15:ACode:=.seq (rT c15r0 [2,3,4]) (.seq (rT c15r1 [4]) .ret)
def g15:AFn:=⟨2,[(4,some (some 4))],c15,false,[],[],none⟩
theorem tr15:trFn Try.prog false 15 Try.f15=some g15:=by kernel_rfl
def c16r0:LO:=[oBx 1 0,oP 2 .mv [cBo false]]
def c16r1:LO:=[oLf 3 1,oCl 4 18 [.t 3],oBc 5 .leq 4 2000,oMv 6 5,oG 7 (.load (some 4)) [.t 1] 6 true,oG 8 .call [cFn 42,.t 7] 6 true,oP 9 .pick [.t 6,.t 8,cBo false],oMv 2 9]
def c16:ACode:=.seq (rT c16r0 [1]) (.seq (rT c16r1 [2]) .ret)
def g16:AFn:=⟨1,[(2,none)],c16,false,[],[],none⟩
theorem tr16:trFn Try.prog false 16 Try.f16=some g16:=by kernel_rfl
def c17r0:LO:=[oBx 1 0,oP 2 (.nilsl none) []]
def c17r1:LO:=[oLf 5 1,oCl 6 16 [.t 5],oUn 7 .not 6]
def c17r2:LO:=[oP 2 (.nilsl none) []]
def c17k3:ACode:=kRt 7 c17r2 [2]
def c17r4:LO:=[oP 3 (.alloc none (.tsl none [])) []]
def c17r5:LO:=[oP 8 (.mkmap none) [],oP 4 (.alloc none (.pv none .nilmap)) [],oSo 4 8]
def c17r6:LO:=[oLf 9 1,oP 10 (.mkfunc (.func 43) 0) [.t 4,.t 3],oCl 11 30 [.t 9,.t 10]]
def c17r7:LO:=[oLo 12 3,oMv 2 12]
def c17:ACode:=.seq (rT c17r0 [1]) (.seq (.seq (rT c17r1 [1,7]) c17k3) (.seq (rT c17r4 [1,3]) (.seq (rT c17r5 [1,3,4]) (.seq (rT c17r6 [3]) (.seq (rT c17r7 [2]) .ret)))))
def g17:AFn:=⟨1,[(2,none)],c17,false,[],[],none⟩
theorem tr17:trFn Try.prog false 17 Try.f17=some g17:=by kernel_rfl
def c18r0:LO:=[oBx 1 0,oP 2 .mv [cIn 0]]
def c18r1:LO:=[oP 3 (.alloc none (.pv none (.int .i64 0))) [],⟨none,(.store none),[.t 3,cIn 2001],none⟩]
def c18r2:LO:=[oP 4 (.alloc none (.pv none .nilfunc)) []]
def c18r3:LO:=[oP 5 (.mkfunc (.func 44) 0) [.t 3,.t 4],oSo 4 5]
def c18r4:LO:=[oLo 6 4,oLf 7 1,oP 8 .call [.t 6,.t 7]]
def c18r5:LO:=[oLo 9 3,oP 10 (.bin .sub) [cIn 2001,.t 9],oMv 2 10]
def c18:ACode:=.seq (rT c18r0 [1]) (.seq (rT c18r1 [1,3]) (.seq (rT c18r2 [1,3,4]) (.seq (rT c18r3 [1,3,4]) (.seq (rT c18r4 [3]) (.seq (rT c18r5 [2]) .ret)))))
def g18:AFn:=⟨1,[(2,none)],c18,false,[],[],none⟩
theorem tr18:trFn Try.prog false 18 Try.f18=some g18:=by kernel_rfl
def c19r0:LO:=[oP 2 (.nilsl (some 4)) [],oP 3 .mv [cIn 0]]
def c19r1:LO:=[oMv 14 0,oCl 15 45 [.t 14],oMv 13 15,oEx 16 0 13,oEx 17 1 13,oMv 4 16,oMv 3 17]
def c19r2:LO:=[oMv 18 3,oBc 19 .neq 18 0]
def c19r3:LO:=[oMv 20 3,oP 2 (.nilsl (some 4)) [],oMv 3 20]
def c19k4:ACode:=kRt 19 c19r3 [2,3]
def c19r5:LO:=[oMv 21 4,oUn 22 .len 21,oBc 23 .gtr 22 0]
def c19k6:ACode:=kEx 23 0
def c19r7:LO:=[oMv 24 4,oP 25 (.iaddr (some 4)) [.t 24,cIn 0],oFa 26 3 25,oLo 27 26,oP 28 (.iaddr (some 4)) [.t 27,cIn 0],oLf 29 28,oP 5 aZ [],oSf 5 29]
def c19r8:LO:=[oUn 30 (.mkfunc (.func 46) 0) 5,oMv 6 30]
def c19r9:LO:=[oP 7 (.nilsl (some 4)) [],oP 8 (.nilsl (some 4)) []]
def c19r10:LO:=[oMv 31 4,oUn 32 .len 31,oP 33 .mv [cIn 0]]
def c19r11:LO:=[oBi 34 .lss 33 32]
def c19k12:ACode:=kEx 34 2
def c19r13:LO:=[oIa 35 31 33,oLf 36 35,oP 10 aZ [],oSf 10 36]
def c19r14:LO:=[oMv 37 6,oLf 38 10,oP 39 .call [.t 37,.t 38]]
def c19r15:LO:=[oMv 40 7,oLf 41 10,oUn 42 (.bslice (some 4)) 41,oP 43 (.append (some 4)) [.t 40,.t 42],oMv 7 43]
def c19r16:LO:=[oMv 44 8,oLf 45 10,oUn 46 (.bslice (some 4)) 45,oP 47 (.append (some 4)) [.t 44,.t 46],oMv 8 47]
def c19k17:ACode:=.cond (.t 39) (rT c19r15 [2,6,7,8,31,32,33]) (rT c19r16 [2,6,7,8,31,32,33])
def c19k18:ACode:=.block 3 (.seq (rT c19r13 [2,6,7,8,10,31,32,33]) (.seq (rT c19r14 [2,6,7,8,10,31,32,33,39]) c19k17))
def c19r19:LO:=[oBc 48 .add 33 1,oMv 33 48]
def c19b20:ACode:=.seq (rT c19r11 [2,6,7,8,31,32,33,34]) (.seq c19k12 (.seq c19k18 (rT c19r19 [2,6,7,8,31,32,33])))
def c19k21:ACode:=.block 2 (.loop [2,6,7,8,31,32,33] c19b20)
def c19r22:LO:=[oMv 50 7,oCl 51 48 [.t 50],oMv 49 51,oEx 52 0 49,oEx 53 1 49,oP 11 aZ [],oSf 11 52,oMv 12 53]
def c19r23:LO:=[oMv 54 12,oBc 55 .neq 54 0]
def c19r24:LO:=[oP 2 (.nilsl (some 4)) [],oP 3 .mv [cIn 2]]
def c19k25:ACode:=kRt 55 c19r24 [2,3]
def c19r26:LO:=[oMv 56 2,oLf 57 11,oCl 58 29 [.t 57],oUn 59 (.bslice (some 4)) 58,oP 60 (.append (some 4)) [.t 56,.t 59],oMv 2 60]
def c19r27:LO:=[oMv 61 8,oMv 4 61]
def c19k28:ACode:=.block 1 (.seq (rT c19r7 [2,4,5]) (.seq (rT c19r8 [2,4,6]) (.seq (rT c19r9 [2,4,6,7,8]) (.seq (.seq (rT c19r10 [2,6,7,8,31,32,33]) c19k21) (.seq (rT c19r22 [2,8,11,12]) (.seq (.seq (rT c19r23 [2,8,11,55]) c19k25) (.seq (rT c19r26 [2,8]) (rT c19r27 [2,4]))))))))
def c19b29:ACode:=.seq (.seq (rT c19r5 [2,4,23]) c19k6) c19k28
def c19k30:ACode:=.block 0 (.loop [2,4] c19b29)
def c19r31:LO:=[oMv 62 2,oMv 2 62,oP 3 .mv [cIn 0]]
def c19:ACode:=.seq (rT c19r0 [0,2]) (.seq (rT c19r1 [2,3,4]) (.seq (.seq (rT c19r2 [2,3,4,19]) c19k4) (.seq c19k30 (.seq (rT c19r31 [2,3]) .ret))))
def g19:AFn:=⟨1,[(2,none),(3,none)],c19,false,[],[],none⟩
theorem tr19:trFn Try.prog false 19 Try.f19=some g19:=by kernel_rfl
def c22r0:LO:=[oBx 2 0,oBx 3 1,oP 4 aZ []]
def c22r1:LO:=[oLf 11 2,oCl 12 16 [.t 11],oUn 13 .not 12,oMv 14 13,oG 15 (.load (some 4)) [.t 3] 14 false,oG 16 .call [cFn 16,.t 15] 14 false,oG 17 .not [.t 16] 14 false,oP 18 .pick [.t 14,cBo true,.t 17]]
def c22r2:LO:=[oP 19 (bZ []) [],oSf 4 19]
def c22k3:ACode:=kRt 18 c22r2 [4]
def c22r4:LO:=[oP 20 (.mkmap none) [],oP 5 (.alloc none (.pv none .nilmap)) [],oSo 5 20]
def c22r5:LO:=[oUn 21 (.mkfunc (.func 50) 0) 5,oP 6 (.alloc none (.pv none .nilfunc)) [],oSo 6 21]
def c22r6:LO:=[oLo 22 6,oLf 23 2,oP 24 .call [.t 22,.t 23]]
def c22r7:LO:=[oLf 25 3,oCl 26 51 [.t 25]]
def c22r8:LO:=[oP 8 (.nilsl (some 4)) []]
def c22r9:LO:=[oLf 32 3,oCl 33 17 [.t 32],oUn 34 .len 33,oP 35 .mv [cIn 0]]
def c22r10:LO:=[oBi 36 .lss 35 34]
def c22k11:ACode:=kEx 36 2
def c22r12:LO:=[oP 37 (.iaddr none) [.t 33,.t 35],oLo 38 37,oMv 10 38]
def c22r13:LO:=[oLo 39 5,oMv 40 10,oP 41 (.lookup false none (.pv none (.bool false)) false) [.t 39,.t 40],oUn 42 .not 41]
def c22r14:LO:=[oMv 43 8,oMv 44 10,oCl 45 33 [.t 44],oUn 46 (.bslice (some 4)) 45,oP 47 (.append (some 4)) [.t 43,.t 46],oMv 8 47]
def c22k15:ACode:=.cond (.t 42) (rT c22r14 [4,5,8,33,34,35]) .skip
def c22k16:ACode:=.block 3 (.seq (rT c22r12 [4,5,8,10,33,34,35]) (.seq (rT c22r13 [4,5,8,10,33,34,35,42]) c22k15))
def c22r17:LO:=[oBc 48 .add 35 1,oMv 35 48]
def c22b18:ACode:=.seq (rT c22r10 [4,5,8,33,34,35,36]) (.seq c22k11 (.seq c22k16 (rT c22r17 [4,5,8,33,34,35])))
def c22k19:ACode:=.block 2 (.loop [4,5,8,33,34,35] c22b18)
def c22r20:LO:=[oMv 49 8,oCl 50 28 [.t 49],oSf 4 50]
def c22r21:LO:=[oLf 51 4,oCl 52 16 [.t 51],oUn 53 .not 52]
def c22r22:LO:=[oP 54 (bZ []) [],oSf 4 54]
def c22k23:ACode:=kRt 53 c22r22 [4]
def c22r24:LO:=[oLf 55 4,oSf 4 55]
def c22p25:ACode:=(.seq (rT c22r8 [3,4,5,8]) (.seq (rT c22r9 [4,5,8,33,34,35]) (.seq c22k19 (.seq (rT c22r20 [4]) (.seq (rT c22r21 [4,53]) (.seq c22k23 (.seq (rT c22r24 [4]) (.seq .ret .skip))))))))
def c22r26:LO:=[oP 7 aZ [],oSf 7 27]
def c22r27:LO:=[oLo 29 6,oLf 30 7,oP 31 .call [.t 29,.t 30]]
def c22k28:ACode:=.block 1 (rT c22r27 [])
def c22q29:ACode:=c22k28
def c22:ACode:=.seq (rT c22r0 [2,3,4]) (.seq (rT c22r1 [2,3,4,18]) (.seq c22k3 (.seq (rT c22r4 [2,3,4,5]) (.seq (rT c22r5 [2,3,4,5,6]) (.seq (rT c22r6 [3,4,5,6]) (.seq (rT c22r7 [3,4,5,6,26]) .skip))))))
def g22:AFn:=⟨2,[(4,some (some 4))],c22,false,[(.range 22 (.t 26) [27,28] [6],c22p25)],[⟨[27,28],(rT c22r26 [6,7]),c22q29⟩],none⟩
theorem tr22:trFn Try.prog false 22 Try.f22=some g22:=by kernel_rfl
def c24r0:LO:=[oP 4 .mv [cBo false]]
def c24r1:LO:=[oMv 5 1,oBc 6 .eql 5 3,oMv 7 6,oG 8 .mv [.t 0] 7 true,oG 9 (.bin .eql) [.t 8,cSt [36,98,97,103]] 7 true,oG 10 .mv [.t 9] 7 true,oG 11 .mv [.t 0] 10 false,oG 12 (.bin .eql) [.t 11,cSt [36,115,101,116]] 10 false,
 oG 13 .pick [.t 10,cBo true,.t 12] 7 true,oP 14 .pick [.t 7,.t 13,cBo false],oMv 4 14]
def c24:ACode:=.seq (rT c24r0 [0,1]) (.seq (rT c24r1 [4]) .ret)
def g24:AFn:=⟨2,[(4,none)],c24,false,[],[],none⟩
theorem tr24:trFn Try.prog false 24 Try.f24=some g24:=by kernel_rfl
def c25r0:LO:=[oBx 1 0,oP 2 (.nilsl (some 4)) [],oP 3 aZ [],oP 4 .mv [cBo false]]
def c25r1:LO:=[oLf 8 1,oCl 9 52 [.t 8],oMv 7 9,oEx 10 0 7,oEx 11 1 7,oEx 12 2 7,oMv 2 10,oSf 3 11,oMv 4 12]
def c25r2:LO:=[oMv 13 4,oUn 14 .not 13]
def c25r3:LO:=[oLf 15 3,oP 2 (.nilsl (some 4)) [],oSf 3 15,oP 4 .mv [cBo false]]
def c25k4:ACode:=kRt 14 c25r3 [2,3,4]
def c25r5:LO:=[oMv 16 2,oUn 17 .len 16,oP 18 .mv [cIn 0]]
def c25r6:LO:=[oBi 19 .lss 18 17]
def c25k7:ACode:=kEx 19 0
def c25r8:LO:=[oIa 20 16 18,oLf 21 20,oP 6 aZ [],oSf 6 21]
def c25r9:LO:=[oFa 22 0 6,oLo 23 22,oBc 24 .eql 23 0]
def c25r10:LO:=[oCl 25 53 [],oP 2 (.nilsl (some 4)) [],oSf 3 25,oP 4 .mv [cBo false]]
def c25k11:ACode:=kRt 24 c25r10 [2,3,4]
def c25r12:LO:=[oLf 26 6,oCl 27 54 [.t 26,cSt [45],cIn 2],oUn 28 .not 27]
def c25r13:LO:=[oLf 29 6,oCl 30 55 [cSt [112,97,105,114],.t 29],oP 2 (.nilsl (some 4)) [],oSf 3 30,oP 4 .mv [cBo false]]
def c25k14:ACode:=kRt 28 c25r13 [2,3,4]
def c25k15:ACode:=.block 1 (.seq (rT c25r8 [2,3,6,16,17,18]) (.seq (.seq (rT c25r9 [2,3,6,16,17,18,24]) c25k11) (.seq (rT c25r12 [2,3,6,16,17,18,28]) c25k14)))
def c25r16:LO:=[oBc 31 .add 18 1,oMv 18 31]
def c25b17:ACode:=.seq (rT c25r6 [2,3,16,17,18,19]) (.seq c25k7 (.seq c25k15 (rT c25r16 [2,3,16,17,18])))
def c25k18:ACode:=.block 0 (.loop [2,3,16,17,18] c25b17)
def c25r19:LO:=[oMv 32 2,oP 33 (bZ []) [],oMv 2 32,oSf 3 33,oP 4 .mv [cBo true]]
def c25:ACode:=.seq (rT c25r0 [1,3]) (.seq (rT c25r1 [2,3,4]) (.seq (.seq (rT c25r2 [2,3,14]) c25k4) (.seq (.seq (rT c25r5 [2,3,16,17,18]) c25k18) (.seq (rT c25r19 [2,3,4]) .ret))))
def g25:AFn:=⟨1,[(2,none),(3,some (some 4)),(4,none)],c25,false,[],[],none⟩
theorem tr25:trFn Try.prog false 25 Try.f25=some g25:=by kernel_rfl
def c26r0:LO:=[oP 0 (.nilsl (some 2)) []]
def c26r1:LO:=[oP 1 (.build [(none,(.pv none (.str []))),(none,(.pv none .nilfunc))] [0,1]) [cSt [36,98,97,103],cFn 56],oP 2 (.build [(none,(.pv none (.str []))),(none,(.pv none .nilfunc))] [0,1]) [cSt [36,115,101,116],cFn 57],
 oP 3 (.bslice (some 2)) [.t 1,.t 2],oMv 0 3]
def c26:ACode:=.seq (rT c26r0 []) (.seq (rT c26r1 [0]) .ret)
def g26:AFn:=⟨0,[(0,none)],c26,false,[],[],none⟩
theorem tr26:trFn Try.prog false 26 Try.f26=some g26:=by kernel_rfl
def c27r0:LO:=[oP 4 aZ []]
def c27r1:LO:=[oMv 5 0,oMv 6 1,oP 7 (bZ [0,2,3]) [cIn 3,.t 5,.t 6],oSf 4 7]
def c27:ACode:=.seq (rT c27r0 [0,1,4]) (.seq (rT c27r1 [4]) .ret)
def g27:AFn:=⟨2,[(4,some (some 4))],c27,false,[],[],none⟩
theorem tr27:trFn Try.prog false 27 Try.f27=some g27:=by kernel_rfl
def c28r0:LO:=[oP 2 aZ []]
def c28r1:LO:=[oP 5 (bZ [0,2]) [cIn 2,cSt [91,93]],oP 3 aZ [],oSf 3 5]
def c28r2:LO:=[oMv 6 0,oUn 7 .len 6,oBc 8 .sub 7 1,oMv 4 8]
def c28r3:LO:=[oMv 9 4,oBc 10 .geq 9 0]
def c28k4:ACode:=kEx 10 0
def c28r5:LO:=[oMv 13 0,oMv 14 4,oIa 15 13 14,oLf 16 15,oLf 17 3,oP 18 (.bslice (some 4)) [.t 16,.t 17],oCl 19 27 [cSt [46],.t 18],oSf 3 19]
def c28k6:ACode:=.block 1 (rT c28r5 [0,2,3,4])
def c28r7:LO:=[oMv 11 4,oBc 12 .sub 11 1,oMv 4 12]
def c28b8:ACode:=.seq (.seq (rT c28r3 [0,2,3,4,10]) c28k4) (.seq c28k6 (rT c28r7 [0,2,3,4]))
def c28k9:ACode:=.block 0 (.loop [0,2,3,4] c28b8)
def c28r10:LO:=[oLf 20 3,oSf 2 20]
def c28:ACode:=.seq (rT c28r0 [0,2]) (.seq (rT c28r1 [0,2,3]) (.seq (.seq (rT c28r2 [0,2,3,4]) c28k9) (.seq (rT c28r10 [2]) .ret)))
def g28:AFn:=⟨1,[(2,some (some 4))],c28,false,[],[],none⟩
theorem tr28:trFn Try.prog false 28 Try.f28=some g28:=by kernel_rfl
def c29r0:LO:=[oBx 1 0,oP 2 aZ []]
def c29r1:LO:=[oLf 3 1,oCl 4 16 [.t 3],oUn 5 .not 4]
def c29r2:LO:=[oP 6 (bZ []) [],oSf 2 6]
def c29k3:ACode:=kRt 5 c29r2 [2]
def c29r4:LO:=[oLf 7 1,oCl 8 30 [.t 7,cFn 58],oSf 2 8]
def c29:ACode:=.seq (rT c29r0 [1,2]) (.seq (.seq (rT c29r1 [1,2,5]) c29k3) (.seq (rT c29r4 [2]) .ret))
def g29:AFn:=⟨1,[(2,some (some 4))],c29,false,[],[],none⟩
theorem tr29:trFn Try.prog false 29 Try.f29=some g29:=by kernel_rfl
def c30r0:LO:=[oBx 2 0,oP 4 aZ []]
def c30r1:LO:=[oFa 8 0 2,oLo 9 8,oBc 10 .eql 9 0]
def c30r2:LO:=[oMv 11 1,oLf 12 2,oP 13 .call [.t 11,.t 12],oSf 4 13]
def c30k3:ACode:=kRt 10 c30r2 [4]
def c30r4:LO:=[oFa 14 0 2,oLo 15 14,oFa 16 1 2,oLo 17 16,oFa 18 2 2,oLo 19 18,oP 20 (bZ [0,1,2]) [.t 15,.t 17,.t 19],oP 5 aZ [],oSf 5 20]
def c30r5:LO:=[oFa 21 3 2,oLo 22 21,oUn 23 .len 22,oP 24 .mv [cIn 0]]
def c30r6:LO:=[oBi 25 .lss 24 23]
def c30k7:ACode:=kEx 25 0
def c30r8:LO:=[oIa 26 22 24,oLf 27 26,oP 7 aZ [],oSf 7 27]
def c30r9:LO:=[oFa 28 3 5,oLo 29 28,oLf 30 7,oMv 31 1,oP 32 (.calln 1) [.t 28,cFn 30,.t 30,.t 31],oP 33 (.bslicen (some 4) 1) [.t 28,.t 32],oP 34 (.append (some 4)) [.t 29,.t 33],oFa 35 3 5,oSo 35 34]
def c30k10:ACode:=.block 1 (.seq (rT c30r8 [1,4,5,7,22,23,24]) (.region false c30r9 [1,4,5,22,23,24]))
def c30r11:LO:=[oBc 36 .add 24 1,oMv 24 36]
def c30b12:ACode:=.seq (rT c30r6 [1,4,5,22,23,24,25]) (.seq c30k7 (.seq c30k10 (rT c30r11 [1,4,5,22,23,24])))
def c30k13:ACode:=.block 0 (.loop [1,4,5,22,23,24] c30b12)
def c30r14:LO:=[oLf 37 5,oSf 4 37]
def c30:ACode:=.seq (rT c30r0 [1,2,4]) (.seq (.seq (rT c30r1 [1,2,4,10]) c30k3) (.seq (rT c30r4 [1,2,4,5]) (.seq (.seq (rT c30r5 [1,4,5,22,23,24]) c30k13) (.seq (rT c30r14 [4]) .ret))))
def g30:AFn:=⟨2,[(4,some (some 4))],c30,true,[],[],none⟩
theorem tr30:trFn Try.prog true 30 Try.f30=some g30:=by kernel_rfl
def c31r0:LO:=[oBx 2 0,oP 3 aZ []]
def c31r1:LO:=[oLo 7 1,oFa 8 1 2,oLo 9 8,oP 10 (.lookup false none (.pv none (.int .i64 0)) true) [.t 7,.t 9],oMv 6 10,oEx 11 0 6,oEx 12 1 6,oMv 4 11,oMv 5 12]
def c31r2:LO:=[oMv 13 5,oUn 14 .not 13]
def c31r3:LO:=[oLo 15 1,oUn 16 .mlen 15,oMv 4 16]
def c31r4:LO:=[oLo 17 1,oFa 18 1 2,oLo 19 18,oMv 20 4,⟨none,(.mapset false none),[.t 17,.t 19,.t 20],none⟩]
def c31k5:ACode:=.cond (.t 14) (.seq (rT c31r3 [1,2,3,4]) (rT c31r4 [3,4])) .skip
def c31r6:LO:=[oMv 21 4,oP 22 (bZ [1]) [.t 21],oSf 3 22]
def c31:ACode:=.seq (rT c31r0 [1,2,3]) (.seq (rT c31r1 [1,2,3,4,5]) (.seq (.seq (rT c31r2 [1,2,3,4,14]) c31k5) (.seq (rT c31r6 [3]) .ret)))
def g31:AFn:=⟨2,[(3,some (some 4))],c31,true,[],[],none⟩
theorem tr31:trFn Try.prog true 31 Try.f31=some g31:=by kernel_rfl
def c32r0:LO:=[oP 2 aZ []]
def c32r1:LO:=[oMv 3 0,oP 4 (bZ [0,2]) [cIn 2,.t 3],oCl 5 29 [.t 4],oSf 2 5]
def c32:ACode:=.seq (rT c32r0 [0,2]) (.seq (rT c32r1 [2]) .ret)
def g32:AFn:=⟨1,[(2,some (some 4))],c32,false,[],[],none⟩
theorem tr32:trFn Try.prog false 32 Try.f32=some g32:=by kernel_rfl
def c33r0:LO:=[oP 2 aZ []]
def c33r1:LO:=[oMv 3 0,oCl 4 59 [.t 3],oUn 5 .not 4]
def c33r2:LO:=[oP 6 (bZ []) [],oSf 2 6]
def c33k3:ACode:=kRt 5 c33r2 [2]
def c33r4:LO:=[oMv 7 0,oP 8 (bZ [1]) [.t 7],oSf 2 8]
def c33:ACode:=.seq (rT c33r0 [0,2]) (.seq (.seq (rT c33r1 [0,2,5]) c33k3) (.seq (rT c33r4 [2]) .ret))
def g33:AFn:=⟨1,[(2,some (some 4))],c33,false,[],[],none⟩
theorem tr33:trFn Try.prog false 33 Try.f33=some g33:=by kernel_rfl
def c34r0:LO:=[oP 2 aZ []]
def c34r1:LO:=[oMv 3 0,oP 4 (bZ [0,1]) [cIn 1,.t 3],oSf 2 4]
def c34:ACode:=.seq (rT c34r0 [0,2]) (.seq (rT c34r1 [2]) .ret)
def g34:AFn:=⟨1,[(2,some (some 4))],c34,false,[],[],none⟩
theorem tr34:trFn Try.prog false 34 Try.f34=some g34:=by kernel_rfl
def c35r0:LO:=[oP 2 aZ []]
def c35r1:LO:=[oMv 3 0,oCl 4 32 [cSt [91,93]],oCl 5 60 [.t 3,.t 4],oSf 2 5]
def c35:ACode:=.seq (rT c35r0 [0,2]) (.seq (rT c35r1 [2]) .ret)
def g35:AFn:=⟨1,[(2,some (some 4))],c35,false,[],[],none⟩
theorem tr35:trFn Try.prog false 35 Try.f35=some g35:=by kernel_rfl
def c36r0:LO:=[oBx 2 0,oBx 3 1,oP 4 .mv [cBo false]]
def c36r1:LO:=[oLf 5 2,oCl 6 61 [.t 5],oMv 7 6,oG 8 (.load (some 4)) [.t 3] 7 true,oG 9 .call [cFn 61,.t 8] 7 true,oP 10 .pick [.t 7,.t 9,cBo false],oMv 11 10,oG 12 (.load (some 4)) [.t 2] 11 true,oG 13 (.load (some 4)) [.t 3] 11 true,
 oG 14 .call [cFn 62,.t 12,.t 13] 11 true,oP 15 .pick [.t 11,.t 14,cBo false],oMv 4 15]
def c36:ACode:=.seq (rT c36r0 [2,3]) (.seq (rT c36r1 [4]) .ret)
def g36:AFn:=⟨2,[(4,none)],c36,false,[],[],none⟩
theorem tr36:trFn Try.prog false 36 Try.f36=some g36:=by kernel_rfl
def c37r0:LO:=[oP 2 (.nilsl (some 4)) [],oP 3 .mv [cIn 0]]
def c37r1:LO:=[oMv 4 0,oCl 5 63 [.t 4],oUn 6 .not 5]
def c37r2:LO:=[oP 2 (.nilsl (some 4)) [],oP 3 .mv [cIn 1]]
def c37k3:ACode:=kRt 6 c37r2 [2,3]
def c37r4:LO:=[oMv 7 0,oCl 8 64 [.t 7,cFn 40],oMv 2 8,oP 3 .mv [cIn 0]]
def c37:ACode:=.seq (rT c37r0 [0]) (.seq (.seq (rT c37r1 [0,6]) c37k3) (.seq (rT c37r4 [2,3]) .ret))
def g37:AFn:=⟨1,[(2,none),(3,none)],c37,true,[],[],none⟩
theorem tr37:trFn Try.prog true 37 Try.f37=some g37:=by kernel_rfl
def c38r0:LO:=[oP 4 (.nilsl (some 4)) []]
def c38r1:LO:=[oMv 8 0,oUn 9 .len 8,oBc 10 .lss 9 2]
def c38r2:LO:=[oMv 11 0,oMv 4 11]
def c38k3:ACode:=kRt 10 c38r2 [4]
def c38r4:LO:=[oP 5 .mv [cIn 1]]
def c38r5:LO:=[oMv 12 5,oMv 13 0,oUn 14 .len 13,oBi 15 .lss 12 14]
def c38k6:ACode:=kEx 15 0
def c38r7:LO:=[oMv 18 1,oMv 19 0,oMv 20 5,oIa 21 19 20,oLf 22 21,oMv 23 0,oMv 24 5,oBc 25 .sub 24 1,oIa 26 23 25,oLf 27 26,oP 28 .call [.t 18,.t 22,.t 27]]
def c38r8:LO:=[oMv 29 0,oMv 30 5,oP 31 (.slice (some 4) true false) [.t 29,.t 30],oMv 6 31]
def c38r9:LO:=[oP 7 .mv [cIn 1]]
def c38r10:LO:=[oMv 32 7,oMv 33 6,oUn 34 .len 33,oBi 35 .lss 32 34]
def c38k11:ACode:=kEx 35 2
def c38r12:LO:=[oMv 38 1,oMv 39 6,oMv 40 7,oIa 41 39 40,oLf 42 41,oMv 43 6,oMv 44 7,oBc 45 .sub 44 1,oIa 46 43 45,oLf 47 46,oP 48 .call [.t 38,.t 42,.t 47],oUn 49 .not 48]
def c38r13:LO:=[oMv 50 0,oMv 51 5,oMv 52 6,oMv 53 7,oIa 54 52 53,oLf 55 54,oIa 56 50 51,oSf 56 55]
def c38r14:LO:=[oMv 57 5,oBc 58 .add 57 1,oMv 5 58]
def c38k15:ACode:=.cond (.t 49) (.seq (rT c38r13 [0,1,5,6,7]) (rT c38r14 [0,1,5,6,7])) .skip
def c38k16:ACode:=.block 3 (.seq (rT c38r12 [0,1,5,6,7,49]) c38k15)
def c38r17:LO:=[oMv 36 7,oBc 37 .add 36 1,oMv 7 37]
def c38b18:ACode:=.seq (.seq (rT c38r10 [0,1,5,6,7,35]) c38k11) (.seq c38k16 (rT c38r17 [0,1,5,6,7]))
def c38k19:ACode:=.block 2 (.loop [0,1,5,6,7] c38b18)
def c38r20:LO:=[oMv 59 0,oMv 60 5,oP 61 (.slice (some 4) true false) [.t 59,.t 60],⟨none,(.clear (some 4) (.agg [(none,(.int .i64 0)),(none,(.int .i64 0)),(none,(.str [])),(none,(.sl (some 4) []))])),[.t 61],none⟩]
def c38r21:LO:=[oMv 62 0,oMv 63 5,oP 64 (.slice (some 4) false true) [.t 62,.t 63],oMv 4 64]
def c38k22:ACode:=.cond (.t 28) (.seq (rT c38r8 [0,1,5,6]) (.seq (.seq (rT c38r9 [0,1,5,6,7]) c38k19) (.seq (rT c38r20 [0,5]) (.seq (rT c38r21 [4]) .ret)))) .skip
def c38k23:ACode:=.block 1 (.seq (rT c38r7 [0,1,5,28]) c38k22)
def c38r24:LO:=[oMv 16 5,oBc 17 .add 16 1,oMv 5 17]
def c38b25:ACode:=.seq (.seq (rT c38r5 [0,1,5,15]) c38k6) (.seq c38k23 (rT c38r24 [0,1,5]))
def c38k26:ACode:=.block 0 (.loop [0,1,5] c38b25)
def c38r27:LO:=[oMv 65 0,oMv 4 65]
def c38:ACode:=.seq (rT c38r0 [0,1]) (.seq (.seq (rT c38r1 [0,1,10]) c38k3) (.seq (.seq (rT c38r4 [0,1,5]) c38k26) (.seq (rT c38r27 [4]) .ret)))
def g38:AFn:=⟨2,[(4,none)],c38,true,[],[],none⟩
theorem tr38:trFn Try.prog true 38 Try.f38=some g38:=by kernel_rfl
def c39r0:LO:=[oBx 2 0,oBx 3 1,oP 4 .mv [cBo false]]
def c39r1:LO:=[oLf 5 2,oLf 6 3,oCl 7 40 [.t 5,.t 6],oBc 8 .eql 7 0,oMv 4 8]
def c39:ACode:=.seq (rT c39r0 [2,3]) (.seq (rT c39r1 [4]) .ret)
def g39:AFn:=⟨2,[(4,none)],c39,false,[],[],none⟩
theorem tr39:trFn Try.prog false 39 Try.f39=some g39:=by kernel_rfl
def c40r0:LO:=[oBx 2 0,oBx 3 1,oP 4 .mv [cIn 0]]
def c40r1:LO:=[oP 12 (.build [(none,(.pv none (.int .i64 0))),(none,(.pv none (.int .i64 0))),(none,(.pv none (.int .i64 0))),(none,(.pv none (.int .i64 0)))] [0,1,2,3]) [cIn 0,cIn 1,cIn 2,cIn 3],oP 5 (.alloc (some 4) (.pv (some 4) (.agg [(none,(.int .i64 0)),(none,(.int .i64 0)),(none,(.int .i64 0)),(none,(.int .i64 0))]))) [],
 oSf 5 12]
def c40r2:LO:=[oFa 13 0 2,oLo 14 13,oP 15 (.iaddrA none 4) [.t 5,.t 14],oLo 16 15,oFa 17 0 3,oLo 18 17,oP 19 (.iaddrA none 4) [.t 5,.t 18],oLo 20 19,oCl 21 65 [.t 16,.t 20],oMv 6 21]
def c40r3:LO:=[oMv 22 6,oBc 23 .neq 22 0]
def c40r4:LO:=[oMv 24 6,oMv 4 24]
def c40k5:ACode:=kRt 23 c40r4 [4]
def c40r6:LO:=[oFa 25 0 2,oLo 26 25,oBc 27 .eql 26 0,oMv 28 27,oG 29 (.faddr 0) [.t 2] 28 false,oG 30 (.load none) [.t 29] 28 false,oG 31 (.bin .eql) [.t 30,cIn 1] 28 false,oP 32 .pick [.t 28,cBo true,.t 31]]
def c40r7:LO:=[oFa 33 1 2,oLo 34 33,oFa 35 1 3,oLo 36 35,oCl 37 66 [.t 34,.t 36],oMv 4 37]
def c40k8:ACode:=kRt 32 c40r7 [4]
def c40r9:LO:=[oFa 38 3 2,oLo 39 38,oUn 40 .len 39,oFa 41 3 3,oLo 42 41,oUn 43 .len 42,oCl 44 65 [.t 40,.t 43],oMv 7 44]
def c40r10:LO:=[oMv 45 7,oBc 46 .neq 45 0]
def c40r11:LO:=[oMv 47 7,oMv 4 47]
def c40k12:ACode:=kRt 46 c40r11 [4]
def c40r13:LO:=[oFa 48 2 2,oLo 49 48,oFa 50 2 3,oLo 51 50,oCl 52 67 [.t 49,.t 51],oMv 8 52]
def c40r14:LO:=[oMv 53 8,oBc 54 .neq 53 0]
def c40r15:LO:=[oMv 55 8,oMv 4 55]
def c40k16:ACode:=kRt 54 c40r15 [4]
def c40r17:LO:=[oFa 56 3 2,oLo 57 56,oUn 58 .len 57,oP 59 .mv [cIn 0]]
def c40r18:LO:=[oBi 60 .lss 59 58]
def c40k19:ACode:=kEx 60 0
def c40r20:LO:=[oMv 61 59,oIa 62 57 59,oLf 63 62,oP 10 aZ [],oMv 9 61,oSf 10 63]
def c40r21:LO:=[oLf 64 10,oFa 65 3 3,oLo 66 65,oMv 67 9,oIa 68 66 67,oLf 69 68,oCl 70 40 [.t 64,.t 69],oMv 11 70]
def c40r22:LO:=[oMv 71 11,oBc 72 .neq 71 0]
def c40r23:LO:=[oMv 73 11,oMv 4 73]
def c40k24:ACode:=kRt 72 c40r23 [4]
def c40k25:ACode:=.block 1 (.seq (rT c40r20 [3,9,10,57,58,59]) (.seq (rT c40r21 [3,11,57,58,59]) (.seq (rT c40r22 [3,11,57,58,59,72]) c40k24)))
def c40r26:LO:=[oBc 74 .add 59 1,oMv 59 74]
def c40b27:ACode:=.seq (rT c40r18 [3,57,58,59,60]) (.seq c40k19 (.seq c40k25 (rT c40r26 [3,57,58,59])))
def c40k28:ACode:=.block 0 (.loop [3,57,58,59] c40b27)
def c40r29:LO:=[oP 4 .mv [cIn 0]]
def c40:ACode:=.seq (rT c40r0 [2,3]) (.seq (rT c40r1 [2,3,5]) (.seq (.seq (rT c40r2 [2,3,6]) (.seq (rT c40r3 [2,3,6,23]) c40k5)) (.seq (.seq (rT c40r6 [2,3,32]) c40k8) (.seq (.seq (rT c40r9 [2,3,7]) (.seq (rT c40r10 [2,3,7,46]) c40k12)) (.seq (.seq (rT c40r13 [2,3,8]) (.seq (rT c40r14 [2,3,8,54]) c40k16)) (.seq (.seq (rT c40r17 [3,57,58,59]) c40k28) (.seq (rT c40r29 [4]) .ret)))))))
def g40:AFn:=⟨2,[(4,none)],c40,false,[],[],none⟩
theorem tr40:trFn Try.prog false 40 Try.f40=some g40:=by kernel_rfl
def c41r0:LO:=[oBx 2 0,oBx 3 1,oP 4 .mv [cBo false]]
def c41r1:LO:=[oFa 7 0 2,oLo 8 7,oFa 9 0 3,oLo 10 9,oBi 11 .neq 8 10,oMv 12 11,oG 13 (.faddr 1) [.t 2] 12 false,oG 14 (.load none) [.t 13] 12 false,oG 15 (.faddr 1) [.t 3] 12 false,oG 16 (.load none) [.t 15] 12 false,
 oG 17 (.bin .neq) [.t 14,.t 16] 12 false,oP 18 .pick [.t 12,cBo true,.t 17],oMv 19 18,oG 20 (.faddr 2) [.t 2] 19 false,oG 21 (.load none) [.t 20] 19 false,oG 22 (.faddr 2) [.t 3] 19 false,oG 23 (.load none) [.t 22] 19 false,
 oG 24 (.bin .neq) [.t 21,.t 23] 19 false,oP 25 .pick [.t 19,cBo true,.t 24],oMv 26 25,oG 27 (.faddr 3) [.t 2] 26 false,oG 28 (.load none) [.t 27] 26 false,oG 29 .len [.t 28] 26 false,oG 30 (.faddr 3) [.t 3] 26 false,oG 31 (.load none) [.t 30] 26 false,
 oG 32 .len [.t 31] 26 false,oG 33 (.bin .neq) [.t 29,.t 32] 26 false,oP 34 .pick [.t 26,cBo true,.t 33]]
def c41r2:LO:=[oP 4 .mv [cBo false]]
def c41k3:ACode:=kRt 34 c41r2 [4]
def c41r4:LO:=[oFa 35 3 2,oLo 36 35,oUn 37 .len 36,oP 38 .mv [cIn 0]]
def c41r5:LO:=[oBi 39 .lss 38 37]
def c41k6:ACode:=kEx 39 0
def c41r7:LO:=[oMv 40 38,oIa 41 36 38,oLf 42 41,oP 6 aZ [],oMv 5 40,oSf 6 42]
def c41r8:LO:=[oLf 43 6,oFa 44 3 3,oLo 45 44,oMv 46 5,oIa 47 45 46,oLf 48 47,oCl 49 41 [.t 43,.t 48],oUn 50 .not 49]
def c41r9:LO:=[oP 4 .mv [cBo false]]
def c41k10:ACode:=kRt 50 c41r9 [4]
def c41k11:ACode:=.block 1 (.seq (rT c41r7 [3,5,6,36,37,38]) (.seq (rT c41r8 [3,36,37,38,50]) c41k10))
def c41r12:LO:=[oBc 51 .add 38 1,oMv 38 51]
def c41b13:ACode:=.seq (rT c41r5 [3,36,37,38,39]) (.seq c41k6 (.seq c41k11 (rT c41r12 [3,36,37,38])))
def c41k14:ACode:=.block 0 (.loop [3,36,37,38] c41b13)
def c41r15:LO:=[oP 4 .mv [cBo true]]
def c41:ACode:=.seq (rT c41r0 [2,3]) (.seq (.seq (rT c41r1 [2,3,34]) c41k3) (.seq (.seq (rT c41r4 [3,36,37,38]) c41k14) (.seq (rT c41r15 [4]) .ret)))
def g41:AFn:=⟨2,[(4,none)],c41,false,[],[],none⟩
theorem tr41:trFn Try.prog false 41 Try.f41=some g41:=by kernel_rfl
def c42r0:LO:=[oBx 1 0,oP 2 .mv [cBo false]]
def c42r1:LO:=[oP 3 .mv [cBo false]]
def c42r2:LO:=[oFa 5 0 1,oLo 6 5]
def c42r3:LO:=[oBc 8 .eql 6 0,oMv 7 8]
def c42r4:LO:=[oFa 9 1 1,oLo 10 9,oBc 11 .geq 10 0,oMv 12 11,oG 13 (.faddr 1) [.t 1] 12 true,oG 14 (.load none) [.t 13] 12 true,oG 15 (.bin .leq) [.t 14,cIn 1099511627776] 12 true,oP 16 .pick [.t 12,.t 15,cBo false],
 oMv 17 16,oG 18 (.faddr 2) [.t 1] 17 true,oG 19 (.load none) [.t 18] 17 true,oG 20 (.bin .eql) [.t 19,cSt []] 17 true,oP 21 .pick [.t 17,.t 20,cBo false],oMv 22 21,oG 23 (.faddr 3) [.t 1] 22 true,oG 24 (.load none) [.t 23] 22 true,
 oG 25 .len [.t 24] 22 true,oG 26 (.bin .eql) [.t 25,cIn 0] 22 true,oP 27 .pick [.t 22,.t 26,cBo false],oMv 3 27]
def c42r5:LO:=[oBc 29 .eql 6 1,oMv 28 29]
def c42r6:LO:=[oFa 30 2 1,oLo 31 30,oP 32 (.bin .eql) [.t 31,cSt []],oMv 33 32,oG 34 (.faddr 3) [.t 1] 33 true,oG 35 (.load none) [.t 34] 33 true,oG 36 .len [.t 35] 33 true,oG 37 (.bin .eql) [.t 36,cIn 0] 33 true,oP 38 .pick [.t 33,.t 37,cBo false],
 oMv 3 38]
def c42r7:LO:=[oBc 40 .eql 6 2,oMv 39 40]
def c42r8:LO:=[oFa 41 1 1,oLo 42 41,oBc 43 .eql 42 0,oMv 44 43,oG 45 (.faddr 2) [.t 1] 44 true,oG 46 (.load none) [.t 45] 44 true,oG 47 .slen [.t 46] 44 true,oG 48 (.bin .leq) [.t 47,cIn 100] 44 true,oP 49 .pick [.t 44,.t 48,cBo false],
 oMv 50 49,oG 51 (.faddr 3) [.t 1] 50 true,oG 52 (.load none) [.t 51] 50 true,oG 53 .len [.t 52] 50 true,oG 54 (.bin .eql) [.t 53,cIn 0] 50 true,oP 55 .pick [.t 50,.t 54,cBo false],oMv 3 55]
def c42r9:LO:=[oBc 57 .eql 6 3,oMv 56 57]
def c42r10:LO:=[oFa 58 1 1,oLo 59 58,oBc 60 .eql 59 0,oMv 61 60,oG 62 (.faddr 2) [.t 1] 61 true,oG 63 (.load none) [.t 62] 61 true,oG 64 .slen [.t 63] 61 true,oG 65 (.bin .leq) [.t 64,cIn 100] 61 true,oP 66 .pick [.t 61,.t 65,cBo false],
 oMv 67 66,oG 68 (.faddr 3) [.t 1] 67 true,oG 69 (.load none) [.t 68] 67 true,oG 70 .len [.t 69] 67 true,oG 71 (.bin .gtr) [.t 70,cIn 0] 67 true,oP 72 .pick [.t 67,.t 71,cBo false],oMv 73 72,oG 74 (.faddr 3) [.t 1] 73 true,
 oG 75 (.load none) [.t 74] 73 true,oG 76 .len [.t 75] 73 true,oG 77 (.bin .leq) [.t 76,cIn 8] 73 true,oP 78 .pick [.t 73,.t 77,cBo false],oMv 3 78]
def c42k11:ACode:=.cond (.t 56) (rT c42r10 [1,3]) .skip
def c42k12:ACode:=.cond (.t 39) (rT c42r8 [1,3]) (.seq (rT c42r9 [1,3,56]) c42k11)
def c42k13:ACode:=.cond (.t 28) (rT c42r6 [1,3]) (.seq (rT c42r7 [1,3,6,39]) c42k12)
def c42k14:ACode:=.cond (.t 7) (rT c42r4 [1,3]) (.seq (rT c42r5 [1,3,6,28]) c42k13)
def c42k15:ACode:=.block 0 (.seq (rT c42r3 [1,3,6,7]) c42k14)
def c42r16:LO:=[oP 4 .mv [cIn 0]]
def c42r17:LO:=[oMv 79 4,oFa 80 3 1,oLo 81 80,oUn 82 .len 81,oBi 83 .lss 79 82,oMv 84 83,oG 85 .mv [.t 3] 84 true,oP 86 .pick [.t 84,.t 85,cBo false]]
def c42k18:ACode:=kEx 86 1
def c42r19:LO:=[oFa 89 3 1,oLo 90 89,oMv 91 4,oIa 92 90 91,oLf 93 92,oCl 94 42 [.t 93],oMv 3 94]
def c42k20:ACode:=.block 2 (rT c42r19 [1,3,4])
def c42r21:LO:=[oMv 87 4,oBc 88 .add 87 1,oMv 4 88]
def c42b22:ACode:=.seq (.seq (rT c42r17 [1,3,4,86]) c42k18) (.seq c42k20 (rT c42r21 [1,3,4]))
def c42k23:ACode:=.block 1 (.loop [1,3,4] c42b22)
def c42r24:LO:=[oMv 95 3,oMv 2 95]
def c42:ACode:=.seq (rT c42r0 [1]) (.seq (rT c42r1 [1,3]) (.seq (.seq (rT c42r2 [1,3,6]) c42k15) (.seq (.seq (rT c42r16 [1,3,4]) c42k23) (.seq (rT c42r24 [2]) .ret))))
def g42:AFn:=⟨1,[(2,none)],c42,false,[],[],none⟩
theorem tr42:trFn Try.prog false 42 Try.f42=some g42:=by kernel_rfl
def c43r0:LO:=[oBx 3 0,oP 4 aZ []]
def c43r1:LO:=[oLo 5 1,oFa 6 1 3,oLo 7 6,oP 8 (.lookup false none (.pv none (.int .i64 0)) false) [.t 5,.t 7],oBc 9 .eql 8 0]
def c43r2:LO:=[oLo 10 1,oFa 11 1 3,oLo 12 11,⟨none,(.mapset false none),[.t 10,.t 12,cIn 1],none⟩]
def c43r3:LO:=[oLo 13 2,oFa 14 1 3,oLo 15 14,oUn 16 (.bslice none) 15,oP 17 (.append none) [.t 13,.t 16],oSo 2 17]
def c43k4:ACode:=.cond (.t 9) (.seq (rT c43r2 [2,3,4]) (rT c43r3 [3,4])) .skip
def c43r5:LO:=[oLf 18 3,oSf 4 18]
def c43:ACode:=.seq (rT c43r0 [1,2,3,4]) (.seq (.seq (rT c43r1 [1,2,3,4,9]) c43k4) (.seq (rT c43r5 [4]) .ret))
def g43:AFn:=⟨3,[(4,some (some 4))],c43,true,[],[],none⟩
theorem tr43:trFn Try.prog true 43 Try.f43=some g43:=by kernel_rfl
def c44r0:LO:=[oBx 3 0]
def c44r1:LO:=[oLo 5 1,oBc 6 .sub 5 1,oSo 1 6]
def c44r2:LO:=[oP 4 .mv [cIn 0]]
def c44r3:LO:=[oMv 7 4,oFa 8 3 3,oLo 9 8,oUn 10 .len 9,oBi 11 .lss 7 10,oMv 12 11,oG 13 (.load none) [.t 1] 12 true,oG 14 (.bin .gtr) [.t 13,cIn 0] 12 true,oP 15 .pick [.t 12,.t 14,cBo false]]
def c44k4:ACode:=kEx 15 0
def c44r5:LO:=[oLo 18 2,oFa 19 3 3,oLo 20 19,oMv 21 4,oIa 22 20 21,oLf 23 22,oP 24 .call [.t 18,.t 23]]
def c44k6:ACode:=.block 1 (rT c44r5 [1,2,3,4])
def c44r7:LO:=[oMv 16 4,oBc 17 .add 16 1,oMv 4 17]
def c44b8:ACode:=.seq (.seq (rT c44r3 [1,2,3,4,15]) c44k4) (.seq c44k6 (rT c44r7 [1,2,3,4]))
def c44k9:ACode:=.block 0 (.loop [1,2,3,4] c44b8)
def c44:ACode:=.seq (rT c44r0 [1,2,3]) (.seq (rT c44r1 [1,2,3]) (.seq (rT c44r2 [1,2,3,4]) c44k9))
def g44:AFn:=⟨3,[],c44,true,[],[],none⟩
theorem tr44:trFn Try.prog true 44 Try.f44=some g44:=by kernel_rfl
def c45r0:LO:=[oP 2 (.nilsl (some 4)) [],oP 3 .mv [cIn 0]]
def c45r1:LO:=[oMv 6 0,oCl 7 63 [.t 6],oUn 8 .not 7]
def c45r2:LO:=[oP 2 (.nilsl (some 4)) [],oP 3 .mv [cIn 1]]
def c45k3:ACode:=kRt 8 c45r2 [2,3]
def c45r4:LO:=[oMv 9 0,oUn 10 .len 9,oP 11 .mv [cIn 0]]
def c45r5:LO:=[oBi 12 .lss 11 10]
def c45k6:ACode:=kEx 12 0
def c45r7:LO:=[oIa 13 9 11,oLf 14 13,oP 5 aZ [],oSf 5 14]
def c45r8:LO:=[oFa 15 0 5,oLo 16 15,oBc 17 .neq 16 3,oMv 18 17,oG 19 (.faddr 2) [.t 5] 18 false,oG 20 (.load none) [.t 19] 18 false,oG 21 (.bin .neq) [.t 20,cSt [45]] 18 false,oP 22 .pick [.t 18,cBo true,.t 21],oMv 23 22,
 oG 24 (.faddr 3) [.t 5] 23 false,oG 25 (.load none) [.t 24] 23 false,oG 26 .len [.t 25] 23 false,oG 27 (.bin .neq) [.t 26,cIn 2] 23 false,oP 28 .pick [.t 23,cBo true,.t 27]]
def c45r9:LO:=[oP 2 (.nilsl (some 4)) [],oP 3 .mv [cIn 3]]
def c45k10:ACode:=kRt 28 c45r9 [2,3]
def c45k11:ACode:=.block 1 (.seq (rT c45r7 [0,5,9,10,11]) (.seq (rT c45r8 [0,9,10,11,28]) c45k10))
def c45r12:LO:=[oBc 29 .add 11 1,oMv 11 29]
def c45b13:ACode:=.seq (rT c45r5 [0,9,10,11,12]) (.seq c45k6 (.seq c45k11 (rT c45r12 [0,9,10,11])))
def c45k14:ACode:=.block 0 (.loop [0,9,10,11] c45b13)
def c45r15:LO:=[oMv 30 0,oCl 31 64 [.t 30,cFn 68],oMv 2 31,oP 3 .mv [cIn 0]]
def c45:ACode:=.seq (rT c45r0 [0]) (.seq (.seq (rT c45r1 [0,8]) c45k3) (.seq (.seq (rT c45r4 [0,9,10,11]) c45k14) (.seq (rT c45r15 [2,3]) .ret)))
def g45:AFn:=⟨1,[(2,none),(3,none)],c45,true,[],[],none⟩
theorem tr45:trFn Try.prog true 45 Try.f45=some g45:=by kernel_rfl
def c46r0:LO:=[oBx 2 0,oP 3 .mv [cBo false]]
def c46r1:LO:=[oFa 4 3 2,oLo 5 4,oP 6 (.iaddr (some 4)) [.t 5,cIn 0],oLf 7 6,oLf 8 1,oCl 9 47 [.t 7,.t 8],oMv 3 9]
def c46:ACode:=.seq (rT c46r0 [1,2]) (.seq (rT c46r1 [3]) .ret)
def g46:AFn:=⟨2,[(3,none)],c46,true,[],[],none⟩
theorem tr46:trFn Try.prog true 46 Try.f46=some g46:=by kernel_rfl
def c47r0:LO:=[oBx 2 0,oBx 3 1,oP 4 .mv [cBo false]]
def c47r1:LO:=[oLf 5 2,oP 6 .callp [cFn 16,.t 5],oMv 7 6,oG 8 (.load (some 4)) [.t 3] 7 true,oG 9 .callp [cFn 16,.t 8] 7 true,oP 10 .pick [.t 7,.t 9,cBo false],oMv 11 10,oG 12 (.load (some 4)) [.t 2] 11 true,oG 13 .callp [cFn 7,.t 12] 11 true,
 oG 14 (.load (some 4)) [.t 3] 11 true,oG 15 .callp [cFn 7,.t 14] 11 true,oG 16 .callp [cFn 41,.t 13,.t 15] 11 true,oP 17 .pick [.t 11,.t 16,cBo false],oMv 4 17]
def c47:ACode:=.seq (rT c47r0 [2,3]) (.seq (.seq (.settle [2,3]) (rT c47r1 [4])) .ret)
def g47:AFn:=⟨2,[(4,none)],c47,false,[],[],none⟩
theorem tr47:trFn Try.prog false 47 Try.f47=some g47:=by kernel_rfl
def c48r0:LO:=[oP 2 aZ [],oP 3 .mv [cIn 0]]
def c48r1:LO:=[oMv 19 0,oP 20 (.iaddr (some 4)) [.t 19,cIn 0],oFa 21 3 20,oLo 22 21,oP 23 (.iaddr (some 4)) [.t 22,cIn 0],oLf 24 23,oP 4 aZ [],oSf 4 24]
def c48r2:LO:=[oP 5 (.nilsl (some 5)) []]
def c48r3:LO:=[oP 6 (.nilsl (some 4)) []]
def c48r4:LO:=[oMv 25 0,oUn 26 .len 25,oP 27 .mv [cIn 0]]
def c48r5:LO:=[oBi 28 .lss 27 26]
def c48k6:ACode:=kEx 28 0
def c48r7:LO:=[oMv 29 27,oIa 30 25 27,oLf 31 30,oP 8 aZ [],oMv 7 29,oSf 8 31]
def c48r8:LO:=[oMv 32 6,oFa 33 3 8,oLo 34 33,oP 35 (.iaddr (some 4)) [.t 34,cIn 1],oLf 36 35,oUn 37 (.bslice (some 4)) 36,oP 38 (.append (some 4)) [.t 32,.t 37],oMv 6 38]
def c48r9:LO:=[oMv 39 7,oBc 40 .eql 39 0]
def c48k10:ACode:=.cond (.t 40) (.exit 1) .skip
def c48r11:LO:=[oMv 42 5,oFa 43 3 8,oLo 44 43,oP 45 (.iaddr (some 4)) [.t 44,cIn 0],oLf 46 45,oLf 47 4,oCl 48 69 [.t 42,.t 46,.t 47],oMv 41 48,oEx 49 0 41,oEx 50 1 41,oMv 9 49,oMv 10 50]
def c48r12:LO:=[oMv 51 10,oBc 52 .neq 51 0]
def c48r13:LO:=[oP 53 (bZ []) [],oMv 54 10,oSf 2 53,oMv 3 54]
def c48k14:ACode:=kRt 52 c48r13 [2,3]
def c48r15:LO:=[oMv 55 9,oMv 5 55]
def c48k16:ACode:=.block 1 (.seq (rT c48r7 [2,4,5,6,7,8,25,26,27]) (.seq (rT c48r8 [2,4,5,6,7,8,25,26,27]) (.seq (.seq (rT c48r9 [2,4,5,6,8,25,26,27,40]) c48k10) (.seq (rT c48r11 [2,4,6,9,10,25,26,27]) (.seq (.seq (rT c48r12 [2,4,6,9,10,25,26,27,52]) c48k14) (rT c48r15 [2,4,5,6,25,26,27]))))))
def c48r17:LO:=[oBc 56 .add 27 1,oMv 27 56]
def c48b18:ACode:=.seq (rT c48r5 [2,4,5,6,25,26,27,28]) (.seq c48k6 (.seq c48k16 (rT c48r17 [2,4,5,6,25,26,27])))
def c48k19:ACode:=.block 0 (.loop [2,4,5,6,25,26,27] c48b18)
def c48r20:LO:=[oMv 58 5,oLf 59 4,oCl 60 70 [.t 58,.t 59],oMv 57 60,oEx 61 0 57,oEx 62 1 57,oP 11 aZ [],oSf 11 61,oMv 12 62]
def c48r21:LO:=[oMv 63 12,oBc 64 .neq 63 0]
def c48r22:LO:=[oP 65 (bZ []) [],oMv 66 12,oSf 2 65,oMv 3 66]
def c48k23:ACode:=kRt 64 c48r22 [2,3]
def c48r24:LO:=[oP 13 (.nilsl (some 4)) []]
def c48r25:LO:=[oMv 67 6,oUn 68 .len 67,oP 69 .mv [cIn 0]]
def c48r26:LO:=[oBi 70 .lss 69 68]
def c48k27:ACode:=kEx 70 2
def c48r28:LO:=[oIa 71 67 69,oLf 72 71,oP 15 aZ [],oSf 15 72]
def c48r29:LO:=[oMv 74 5,oLf 75 15,oCl 76 70 [.t 74,.t 75],oMv 73 76,oEx 77 0 73,oEx 78 1 73,oP 16 aZ [],oSf 16 77,oMv 17 78]
def c48r30:LO:=[oMv 79 17,oBc 80 .neq 79 0]
def c48r31:LO:=[oP 81 (bZ []) [],oMv 82 17,oSf 2 81,oMv 3 82]
def c48k32:ACode:=kRt 80 c48r31 [2,3]
def c48r33:LO:=[oMv 83 13,oLf 84 16,oUn 85 (.bslice (some 4)) 84,oP 86 (.append (some 4)) [.t 83,.t 85],oMv 13 86]
def c48k34:ACode:=.block 3 (.seq (rT c48r28 [2,5,11,13,15,67,68,69]) (.seq (rT c48r29 [2,5,11,13,16,17,67,68,69]) (.seq (.seq (rT c48r30 [2,5,11,13,16,17,67,68,69,80]) c48k32) (rT c48r33 [2,5,11,13,67,68,69]))))
def c48r35:LO:=[oBc 87 .add 69 1,oMv 69 87]
def c48b36:ACode:=.seq (rT c48r26 [2,5,11,13,67,68,69,70]) (.seq c48k27 (.seq c48k34 (rT c48r35 [2,5,11,13,67,68,69])))
def c48k37:ACode:=.block 2 (.loop [2,5,11,13,67,68,69] c48b36)
def c48r38:LO:=[oLf 88 11,oMv 89 13,oP 90 .callp [cFn 28,.t 89],oP 91 (.bslicep (some 4)) [.t 88,.t 90],oP 92 .callp [cFn 27,cSt [45],.t 91],oP 18 aZ [],oSf 18 92]
def c48r39:LO:=[oLf 93 18,oCl 94 18 [.t 93],oBc 95 .gtr 94 2000]
def c48r40:LO:=[oP 96 (bZ []) [],oSf 2 96,oP 3 .mv [cIn 2]]
def c48k41:ACode:=kRt 95 c48r40 [2,3]
def c48r42:LO:=[oLf 97 18,oSf 2 97,oP 3 .mv [cIn 0]]
def c48:ACode:=.seq (rT c48r0 [0,2]) (.seq (rT c48r1 [0,2,4]) (.seq (rT c48r2 [0,2,4,5]) (.seq (rT c48r3 [0,2,4,5,6]) (.seq (.seq (rT c48r4 [2,4,5,6,25,26,27]) c48k19) (.seq (rT c48r20 [2,5,6,11,12]) (.seq (.seq (rT c48r21 [2,5,6,11,12,64]) c48k23) (.seq (rT c48r24 [2,5,6,11,13]) (.seq (.seq (rT c48r25 [2,5,11,13,67,68,69]) c48k37) (.seq (.seq (.settle [11,13]) (rT c48r38 [2,18])) (.seq (.seq (rT c48r39 [2,18,95]) c48k41) (.seq (rT c48r42 [2,3]) .ret)))))))))))
def g48:AFn:=⟨1,[(2,some (some 4)),(3,none)],c48,false,[],[],none⟩
theorem tr48:trFn Try.prog false 48 Try.f48=some g48:=by kernel_rfl
def c50r0:LO:=[oBx 2 0]
def c50r1:LO:=[oLf 5 2,oCl 6 17 [.t 5],oUn 7 .len 6,oP 8 .mv [cIn 0]]
def c50r2:LO:=[oBi 9 .lss 8 7]
def c50k3:ACode:=kEx 9 0
def c50r4:LO:=[oP 10 (.iaddr none) [.t 6,.t 8],oLo 11 10,oMv 4 11]
def c50r5:LO:=[oLo 12 1,oMv 13 4,⟨none,(.mapset false none),[.t 12,.t 13,cBo true],none⟩]
def c50k6:ACode:=.block 1 (.seq (rT c50r4 [1,4,6,7,8]) (rT c50r5 [1,6,7,8]))
def c50r7:LO:=[oBc 14 .add 8 1,oMv 8 14]
def c50b8:ACode:=.seq (rT c50r2 [1,6,7,8,9]) (.seq c50k3 (.seq c50k6 (rT c50r7 [1,6,7,8])))
def c50k9:ACode:=.block 0 (.loop [1,6,7,8] c50b8)
def c50:ACode:=.seq (rT c50r0 [1,2]) (.seq (rT c50r1 [1,6,7,8]) c50k9)
def g50:AFn:=⟨2,[],c50,true,[],[],none⟩
theorem tr50:trFn Try.prog true 50 Try.f50=some g50:=by kernel_rfl
def c51r0:LO:=[oBx 1 0,oP 2 .mv [.c (.pv none .nilfunc)]]
def c51r1:LO:=[oUn 3 (.mkfunc (.func 71) 0) 1,oMv 2 3]
def c51:ACode:=.seq (rT c51r0 [1]) (.seq (rT c51r1 [2]) .ret)
def g51:AFn:=⟨1,[(2,none)],c51,true,[],[],none⟩
theorem tr51:trFn Try.prog true 51 Try.f51=some g51:=by kernel_rfl
def c52r0:LO:=[oBx 1 0,oP 2 (.nilsl (some 4)) [],oP 3 aZ [],oP 4 .mv [cBo false]]
def c52r1:LO:=[oLf 6 1,oCl 7 16 [.t 6],oUn 8 .not 7]
def c52r2:LO:=[oP 9 (bZ []) [],oP 2 (.nilsl (some 4)) [],oSf 3 9,oP 4 .mv [cBo false]]
def c52k3:ACode:=kRt 8 c52r2 [2,3,4]
def c52r4:LO:=[oLf 10 1,oP 5 aZ [],oSf 5 10]
def c52r5:LO:=[oFa 12 0 5,oLo 13 12,oBc 14 .eql 13 3,oMv 15 14,oG 16 (.faddr 2) [.t 5] 15 true,oG 17 (.load none) [.t 16] 15 true,oG 18 (.bin .eql) [.t 17,cSt [46]] 15 true,oP 19 .pick [.t 15,.t 18,cBo false],oMv 20 19,
 oG 21 (.faddr 3) [.t 5] 20 true,oG 22 (.load none) [.t 21] 20 true,oG 23 .len [.t 22] 20 true,oG 24 (.bin .eql) [.t 23,cIn 2] 20 true,oP 25 .pick [.t 20,.t 24,cBo false],oMv 11 25]
def c52r6:LO:=[oMv 26 2,oFa 27 3 5,oLo 28 27,oP 29 (.iaddr (some 4)) [.t 28,cIn 0],oLf 30 29,oCl 31 29 [.t 30],oUn 32 (.bslice (some 4)) 31,oP 33 (.append (some 4)) [.t 26,.t 32],oMv 2 33]
def c52r7:LO:=[oFa 34 3 5,oLo 35 34,oP 36 (.iaddr (some 4)) [.t 35,cIn 1],oLf 37 36,oSf 5 37]
def c52k8:ACode:=.cond (.t 11) (.seq (rT c52r6 [1,2,3,5]) (rT c52r7 [1,2,3,5])) (.exit 0)
def c52k9:ACode:=.block 2 (.seq (rT c52r5 [1,2,3,5,11]) c52k8)
def c52k10:ACode:=.block 1 c52k9
def c52b11:ACode:=c52k10
def c52k12:ACode:=.block 0 (.loop [1,2,3,5] c52b11)
def c52r13:LO:=[oFa 39 0 5,oLo 40 39,oBc 41 .eql 40 0,oMv 38 41]
def c52r14:LO:=[oCl 42 53 [],oP 2 (.nilsl (some 4)) [],oSf 3 42,oP 4 .mv [cBo false]]
def c52r15:LO:=[oFa 44 0 5,oLo 45 44,oBc 46 .eql 45 2,oMv 47 46,oG 48 (.faddr 2) [.t 5] 47 true,oG 49 (.load none) [.t 48] 47 true,oG 50 (.bin .eql) [.t 49,cSt [91,93]] 47 true,oP 51 .pick [.t 47,.t 50,cBo false],oMv 43 51]
def c52r16:LO:=[oMv 52 2,oP 53 (bZ []) [],oMv 2 52,oSf 3 53,oP 4 .mv [cBo true]]
def c52k17:ACode:=kRt 43 c52r16 [2,3,4]
def c52k18:ACode:=.cond (.t 38) (.seq (rT c52r14 [2,3,4]) .ret) (.seq (rT c52r15 [1,2,3,43]) c52k17)
def c52k19:ACode:=.block 3 (.seq (rT c52r13 [1,2,3,5,38]) c52k18)
def c52r20:LO:=[oLf 54 1,oCl 55 55 [cSt [108,105,115,116],.t 54],oP 2 (.nilsl (some 4)) [],oSf 3 55,oP 4 .mv [cBo false]]
def c52:ACode:=.seq (rT c52r0 [1,2,3]) (.seq (.seq (rT c52r1 [1,2,3,8]) c52k3) (.seq (rT c52r4 [1,2,3,5]) (.seq .skip (.seq c52k12 (.seq c52k19 (.seq (rT c52r20 [2,3,4]) .ret))))))
def g52:AFn:=⟨1,[(2,none),(3,some (some 4)),(4,none)],c52,false,[],[],none⟩
theorem tr52:trFn Try.prog false 52 Try.f52=some g52:=by kernel_rfl
def c53r0:LO:=[oP 0 aZ []]
def c53r1:LO:=[oCl 1 72 [cSt [105,110,115,116,97,110,116,105,97,116,105,111,110,95,101,114,114,111,114],.c (.tsl (some 4) [])],oSf 0 1]
def c53:ACode:=.seq (rT c53r0 [0]) (.seq (rT c53r1 [0]) .ret)
def g53:AFn:=⟨0,[(0,some (some 4))],c53,false,[],[],none⟩
theorem tr53:trFn Try.prog false 53 Try.f53=some g53:=by kernel_rfl
def c54r0:LO:=[oBx 3 0,oP 6 .mv [cBo false]]
def c54r1:LO:=[oFa 7 0 3,oLo 8 7,oBc 9 .eql 8 3,oMv 10 9,oG 11 (.faddr 2) [.t 3] 10 true,oG 12 (.load none) [.t 11] 10 true,oG 13 .mv [.t 1] 10 true,oG 14 (.bin .eql) [.t 12,.t 13] 10 true,oP 15 .pick [.t 10,.t 14,cBo false],
 oMv 16 15,oG 17 (.faddr 3) [.t 3] 16 true,oG 18 (.load none) [.t 17] 16 true,oG 19 .len [.t 18] 16 true,oG 20 .mv [.t 2] 16 true,oG 21 (.bin .eql) [.t 19,.t 20] 16 true,oP 22 .pick [.t 16,.t 21,cBo false],oMv 6 22]
def c54:ACode:=.seq (rT c54r0 [1,2,3]) (.seq (rT c54r1 [6]) .ret)
def g54:AFn:=⟨3,[(6,none)],c54,false,[],[],none⟩
theorem tr54:trFn Try.prog false 54 Try.f54=some g54:=by kernel_rfl
def c55r0:LO:=[oBx 3 1,oP 4 aZ []]
def c55r1:LO:=[oLf 5 3,oMv 6 0,oUn 7 (.bslice none) 6,oCl 8 73 [.t 5,cSt [116,121,112,101,95,101,114,114,111,114],.t 7],oSf 4 8]
def c55:ACode:=.seq (rT c55r0 [0,3,4]) (.seq (rT c55r1 [4]) .ret)
def g55:AFn:=⟨2,[(4,some (some 4))],c55,false,[],[],none⟩
theorem tr55:trFn Try.prog false 55 Try.f55=some g55:=by kernel_rfl
def c56r0:LO:=[oP 2 (.nilsl (some 4)) []]
def c56r1:LO:=[oMv 3 0,oMv 2 3]
def c56:ACode:=.seq (rT c56r0 [0]) (.seq (rT c56r1 [2]) .ret)
def g56:AFn:=⟨1,[(2,none)],c56,false,[],[],none⟩
theorem tr56:trFn Try.prog false 56 Try.f56=some g56:=by kernel_rfl
def c57r0:LO:=[oP 2 (.nilsl (some 4)) []]
def c57r1:LO:=[oMv 6 0,oCl 7 12 [.t 6],oMv 5 7,oEx 8 0 5,oEx 9 1 5,oMv 3 8,oMv 4 9]
def c57r2:LO:=[oMv 10 3,oMv 2 10]
def c57:ACode:=.seq (rT c57r0 [0]) (.seq (rT c57r1 [3]) (.seq (rT c57r2 [2]) .ret))
def g57:AFn:=⟨1,[(2,none)],c57,false,[],[],none⟩
theorem tr57:trFn Try.prog false 57 Try.f57=some g57:=by kernel_rfl
def c58r0:LO:=[oBx 1 0,oP 2 aZ []]
def c58r1:LO:=[oLf 3 1,oSf 2 3]
def c58:ACode:=.seq (rT c58r0 [1,2]) (.seq (rT c58r1 [2]) .ret)
def g58:AFn:=⟨1,[(2,some (some 4))],c58,false,[],[],none⟩
theorem tr58:trFn Try.prog false 58 Try.f58=some g58:=by kernel_rfl
def c59r0:LO:=[oP 2 .mv [cBo false]]
def c59r1:LO:=[oMv 3 0,oBc 4 .geq 3 0,oMv 5 4,oG 6 .mv [.t 0] 5 true,oG 7 (.bin .leq) [.t 6,cIn 1099511627776] 5 true,oP 8 .pick [.t 5,.t 7,cBo false],oMv 2 8]
def c59:ACode:=.seq (rT c59r0 [0]) (.seq (rT c59r1 [2]) .ret)
def g59:AFn:=⟨1,[(2,none)],c59,false,[],[],none⟩
theorem tr59:trFn Try.prog false 59 Try.f59=some g59:=by kernel_rfl
def c60r0:LO:=[oBx 3 1,oP 4 aZ []]
def c60r1:LO:=[oMv 10 0,oUn 11 .len 10,oBc 12 .gtr 11 2000,oMv 13 12,oG 14 (.load (some 4)) [.t 3] 13 false,oG 15 .call [cFn 16,.t 14] 13 false,oG 16 .not [.t 15] 13 false,oP 17 .pick [.t 13,cBo true,.t 16]]
def c60r2:LO:=[oP 18 (bZ []) [],oSf 4 18]
def c60k3:ACode:=kRt 17 c60r2 [4]
def c60r4:LO:=[oLf 19 3,oCl 20 18 [.t 19],oMv 5 20]
def c60r5:LO:=[oMv 21 0,oUn 22 .len 21,oP 23 .mv [cIn 0]]
def c60r6:LO:=[oBi 24 .lss 23 22]
def c60k7:ACode:=kEx 24 0
def c60r8:LO:=[oIa 25 21 23,oLf 26 25,oP 7 aZ [],oSf 7 26]
def c60r9:LO:=[oMv 27 5,oLf 28 7,oCl 29 18 [.t 28],oP 30 (.bin .add) [cIn 1,.t 29],oBi 31 .add 27 30,oMv 5 31]
def c60r10:LO:=[oMv 32 5,oBc 33 .gtr 32 2000,oMv 34 33,oG 35 (.load (some 4)) [.t 7] 34 false,oG 36 .call [cFn 42,.t 35] 34 false,oG 37 .not [.t 36] 34 false,oP 38 .pick [.t 34,cBo true,.t 37]]
def c60r11:LO:=[oP 39 (bZ []) [],oSf 4 39]
def c60k12:ACode:=kRt 38 c60r11 [4]
def c60k13:ACode:=.block 1 (.seq (rT c60r8 [0,3,4,5,7,21,22,23]) (.seq (rT c60r9 [0,3,4,5,7,21,22,23]) (.seq (rT c60r10 [0,3,4,5,21,22,23,38]) c60k12)))
def c60r14:LO:=[oBc 40 .add 23 1,oMv 23 40]
def c60b15:ACode:=.seq (rT c60r6 [0,3,4,5,21,22,23,24]) (.seq c60k7 (.seq c60k13 (rT c60r14 [0,3,4,5,21,22,23])))
def c60k16:ACode:=.block 0 (.loop [0,3,4,5,21,22,23] c60b15)
def c60r17:LO:=[oLf 41 3,oCl 42 29 [.t 41],oP 8 aZ [],oSf 8 42]
def c60r18:LO:=[oMv 43 0,oUn 44 .len 43,oBc 45 .sub 44 1,oMv 9 45]
def c60r19:LO:=[oMv 46 9,oBc 47 .geq 46 0]
def c60k20:ACode:=kEx 47 2
def c60r21:LO:=[oMv 50 0,oMv 51 9,oIa 52 50 51,oLf 53 52,oP 54 .callp [cFn 29,.t 53],oLf 55 8,oP 56 (.bslicep (some 4)) [.t 54,.t 55],oP 57 (bZ [0,2,3]) [cIn 3,cSt [46],.t 56],oSf 8 57]
def c60k22:ACode:=.block 3 (.seq (.settle [8]) (rT c60r21 [0,4,8,9]))
def c60r23:LO:=[oMv 48 9,oBc 49 .sub 48 1,oMv 9 49]
def c60b24:ACode:=.seq (.seq (rT c60r19 [0,4,8,9,47]) c60k20) (.seq c60k22 (rT c60r23 [0,4,8,9]))
def c60k25:ACode:=.block 2 (.loop [0,4,8,9] c60b24)
def c60r26:LO:=[oLf 58 8,oSf 4 58]
def c60:ACode:=.seq (rT c60r0 [0,3,4]) (.seq (.seq (rT c60r1 [0,3,4,17]) c60k3) (.seq (rT c60r4 [0,3,4,5]) (.seq (.seq (rT c60r5 [0,3,4,5,21,22,23]) c60k16) (.seq (rT c60r17 [0,4,8]) (.seq (.seq (rT c60r18 [0,4,8,9]) c60k25) (.seq (rT c60r26 [4]) .ret))))))
def g60:AFn:=⟨2,[(4,some (some 4))],c60,false,[],[],none⟩
theorem tr60:trFn Try.prog false 60 Try.f60=some g60:=by kernel_rfl
def c61r0:LO:=[oBx 1 0,oP 2 .mv [cBo false]]
def c61r1:LO:=[oLf 3 1,oCl 4 74 [.t 3],oBc 5 .leq 4 2000,oMv 6 5,oG 7 (.load (some 4)) [.t 1] 6 true,oG 8 .call [cFn 75,.t 7] 6 true,oP 9 .pick [.t 6,.t 8,cBo false],oMv 2 9]
def c61:ACode:=.seq (rT c61r0 [1]) (.seq (rT c61r1 [2]) .ret)
def g61:AFn:=⟨1,[(2,none)],c61,false,[],[],none⟩
theorem tr61:trFn Try.prog false 61 Try.f61=some g61:=by kernel_rfl
def c62r0:LO:=[oBx 2 0,oBx 3 1,oP 4 .mv [cBo false]]
def c62r1:LO:=[oFa 6 0 2,oLo 7 6,oFa 8 0 3,oLo 9 8,oBi 10 .neq 7 9,oMv 11 10,oG 12 (.faddr 1) [.t 2] 11 false,oG 13 (.load none) [.t 12] 11 false,oG 14 (.faddr 1) [.t 3] 11 false,oG 15 (.load none) [.t 14] 11 false,oG 16 (.bin .neq) [.t 13,.t 15] 11 false,
 oP 17 .pick [.t 11,cBo true,.t 16],oMv 18 17,oG 19 (.faddr 2) [.t 2] 18 false,oG 20 (.load none) [.t 19] 18 false,oG 21 (.faddr 2) [.t 3] 18 false,oG 22 (.load none) [.t 21] 18 false,oG 23 (.bin .neq) [.t 20,.t 22] 18 false,
 oP 24 .pick [.t 18,cBo true,.t 23],oMv 25 24,oG 26 (.faddr 3) [.t 2] 25 false,oG 27 (.load none) [.t 26] 25 false,oG 28 .len [.t 27] 25 false,oG 29 (.faddr 3) [.t 3] 25 false,oG 30 (.load none) [.t 29] 25 false,oG 31 .len [.t 30] 25 false,
 oG 32 (.bin .neq) [.t 28,.t 31] 25 false,oP 33 .pick [.t 25,cBo true,.t 32]]
def c62r2:LO:=[oP 4 .mv [cBo false]]
def c62k3:ACode:=kRt 33 c62r2 [4]
def c62r4:LO:=[oP 5 .mv [cIn 0]]
def c62r5:LO:=[oMv 34 5,oFa 35 3 2,oLo 36 35,oUn 37 .len 36,oBi 38 .lss 34 37]
def c62k6:ACode:=kEx 38 0
def c62r7:LO:=[oFa 41 3 2,oLo 42 41,oMv 43 5,oIa 44 42 43,oLf 45 44,oFa 46 3 3,oLo 47 46,oMv 48 5,oIa 49 47 48,oLf 50 49,oCl 51 62 [.t 45,.t 50],oUn 52 .not 51]
def c62r8:LO:=[oP 4 .mv [cBo false]]
def c62k9:ACode:=kRt 52 c62r8 [4]
def c62k10:ACode:=.block 1 (.seq (rT c62r7 [2,3,5,52]) c62k9)
def c62r11:LO:=[oMv 39 5,oBc 40 .add 39 1,oMv 5 40]
def c62b12:ACode:=.seq (.seq (rT c62r5 [2,3,5,38]) c62k6) (.seq c62k10 (rT c62r11 [2,3,5]))
def c62k13:ACode:=.block 0 (.loop [2,3,5] c62b12)
def c62r14:LO:=[oP 4 .mv [cBo true]]
def c62:ACode:=.seq (rT c62r0 [2,3]) (.seq (.seq (rT c62r1 [2,3,33]) c62k3) (.seq (.seq (rT c62r4 [2,3,5]) c62k13) (.seq (rT c62r14 [4]) .ret)))
def g62:AFn:=⟨2,[(4,none)],c62,false,[],[],none⟩
theorem tr62:trFn Try.prog false 62 Try.f62=some g62:=by kernel_rfl
def c63r0:LO:=[oP 2 .mv [cBo false]]
def c63r1:LO:=[oMv 5 0,oUn 6 .len 5,oP 7 .mv [cIn 0]]
def c63r2:LO:=[oBi 8 .lss 7 6]
def c63k3:ACode:=kEx 8 0
def c63r4:LO:=[oIa 9 5 7,oLf 10 9,oP 4 aZ [],oSf 4 10]
def c63r5:LO:=[oLf 11 4,oCl 12 16 [.t 11],oUn 13 .not 12]
def c63r6:LO:=[oP 2 .mv [cBo false]]
def c63k7:ACode:=kRt 13 c63r6 [2]
def c63k8:ACode:=.block 1 (.seq (rT c63r4 [4,5,6,7]) (.seq (rT c63r5 [5,6,7,13]) c63k7))
def c63r9:LO:=[oBc 14 .add 7 1,oMv 7 14]
def c63b10:ACode:=.seq (rT c63r2 [5,6,7,8]) (.seq c63k3 (.seq c63k8 (rT c63r9 [5,6,7])))
def c63k11:ACode:=.block 0 (.loop [5,6,7] c63b10)
def c63r12:LO:=[oP 2 .mv [cBo true]]
def c63:ACode:=.seq (rT c63r0 [0]) (.seq (.seq (rT c63r1 [5,6,7]) c63k11) (.seq (rT c63r12 [2]) .ret))
def g63:AFn:=⟨1,[(2,none)],c63,false,[],[],none⟩
theorem tr63:trFn Try.prog false 63 Try.f63=some g63:=by kernel_rfl
def c64r0:LO:=[oP 4 (.nilsl (some 4)) []]
def c64r1:LO:=[oMv 8 0,oUn 9 .len 8,oP 10 (.mkslice (some 4) (.agg [(none,(.int .i64 0)),(none,(.int .i64 0)),(none,(.str [])),(none,(.sl (some 4) []))])) [cIn 0,.t 9],oMv 5 10]
def c64r2:LO:=[oMv 11 0,oUn 12 .len 11,oP 13 .mv [cIn 0]]
def c64r3:LO:=[oBi 14 .lss 13 12]
def c64k4:ACode:=kEx 14 0
def c64r5:LO:=[oIa 15 11 13,oLf 16 15,oP 7 aZ [],oSf 7 16]
def c64r6:LO:=[oMv 17 5,oLf 18 7,oCl 19 29 [.t 18],oUn 20 (.bslice (some 4)) 19,oP 21 (.append (some 4)) [.t 17,.t 20],oMv 5 21]
def c64k7:ACode:=.block 1 (.seq (rT c64r5 [1,5,7,11,12,13]) (rT c64r6 [1,5,11,12,13]))
def c64r8:LO:=[oBc 22 .add 13 1,oMv 13 22]
def c64b9:ACode:=.seq (rT c64r3 [1,5,11,12,13,14]) (.seq c64k4 (.seq c64k7 (rT c64r8 [1,5,11,12,13])))
def c64k10:ACode:=.block 0 (.loop [1,5,11,12,13] c64b9)
def c64r11:LO:=[oMv 23 5,oMv 24 1,oCl 25 76 [.t 23,.t 24]]
def c64r12:LO:=[oMv 26 5,oMv 4 26]
def c64:ACode:=.seq (rT c64r0 [0,1]) (.seq (rT c64r1 [0,1,5]) (.seq (.seq (rT c64r2 [1,5,11,12,13]) c64k10) (.seq (rT c64r11 [5]) (.seq (rT c64r12 [4]) .ret))))
def g64:AFn:=⟨2,[(4,none)],c64,true,[],[],none⟩
theorem tr64:trFn Try.prog true 64 Try.f64=some g64:=by kernel_rfl
def c65r0:LO:=[oP 4 .mv [cIn 0]]
def c65r1:LO:=[oMv 7 0,oCl 8 77 [.t 7],oMv 5 8]
def c65r2:LO:=[oMv 9 1,oCl 10 77 [.t 9],oMv 6 10]
def c65r3:LO:=[oMv 11 5]
def c65r4:LO:=[oMv 12 6]
def c65r5:LO:=[oP 4 .mv [cIn 0]]
def c65k6:ACode:=kRt 12 c65r5 [4]
def c65r7:LO:=[oP 4 .mv [.c (.pv none (.int .i64 (-1)))]]
def c65k8:ACode:=.cond (.t 11) (.seq (.seq (rT c65r4 [12]) c65k6) (.seq (rT c65r7 [4]) .ret)) .skip
def c65r9:LO:=[oMv 13 6]
def c65r10:LO:=[oP 4 .mv [cIn 1]]
def c65k11:ACode:=kRt 13 c65r10 [4]
def c65r12:LO:=[oMv 14 0,oMv 15 1,oBi 16 .lss 14 15]
def c65r13:LO:=[oP 4 .mv [.c (.pv none (.int .i64 (-1)))]]
def c65k14:ACode:=kRt 16 c65r13 [4]
def c65r15:LO:=[oMv 17 0,oMv 18 1,oBi 19 .gtr 17 18]
def c65r16:LO:=[oP 4 .mv [cIn 1]]
def c65k17:ACode:=kRt 19 c65r16 [4]
def c65r18:LO:=[oP 4 .mv [cIn 0]]
def c65:ACode:=.seq (rT c65r0 [0,1]) (.seq (rT c65r1 [0,1,5]) (.seq (rT c65r2 [0,1,5,6]) (.seq (.seq (rT c65r3 [0,1,6,11]) c65k8) (.seq (.seq (rT c65r9 [0,1,13]) c65k11) (.seq (.seq (rT c65r12 [0,1,16]) c65k14) (.seq (.seq (rT c65r15 [19]) c65k17) (.seq (rT c65r18 [4]) .ret)))))))
def g65:AFn:=⟨2,[(4,none)],c65,false,[],[],none⟩
theorem tr65:trFn Try.prog false 65 Try.f65=some g65:=by kernel_rfl
def c66r0:LO:=[oP 4 .mv [cIn 0]]
def c66r1:LO:=[oMv 7 0,oCl 8 78 [.t 7],oMv 5 8]
def c66r2:LO:=[oMv 9 1,oCl 10 78 [.t 9],oMv 6 10]
def c66r3:LO:=[oMv 11 5]
def c66r4:LO:=[oMv 12 6]
def c66r5:LO:=[oP 4 .mv [cIn 0]]
def c66k6:ACode:=kRt 12 c66r5 [4]
def c66r7:LO:=[oP 4 .mv [.c (.pv none (.int .i64 (-1)))]]
def c66k8:ACode:=.cond (.t 11) (.seq (.seq (rT c66r4 [12]) c66k6) (.seq (rT c66r7 [4]) .ret)) .skip
def c66r9:LO:=[oMv 13 6]
def c66r10:LO:=[oP 4 .mv [cIn 1]]
def c66k11:ACode:=kRt 13 c66r10 [4]
def c66r12:LO:=[oMv 14 0,oMv 15 1,oBi 16 .lss 14 15]
def c66r13:LO:=[oP 4 .mv [.c (.pv none (.int .i64 (-1)))]]
def c66k14:ACode:=kRt 16 c66r13 [4]
def c66r15:LO:=[oMv 17 0,oMv 18 1,oBi 19 .gtr 17 18]
def c66r16:LO:=[oP 4 .mv [cIn 1]]
def c66k17:ACode:=kRt 19 c66r16 [4]
def c66r18:LO:=[oP 4 .mv [cIn 0]]
def c66:ACode:=.seq (rT c66r0 [0,1]) (.seq (rT c66r1 [0,1,5]) (.seq (rT c66r2 [0,1,5,6]) (.seq (.seq (rT c66r3 [0,1,6,11]) c66k8) (.seq (.seq (rT c66r9 [0,1,13]) c66k11) (.seq (.seq (rT c66r12 [0,1,16]) c66k14) (.seq (.seq (rT c66r15 [19]) c66k17) (.seq (rT c66r18 [4]) .ret)))))))
def g66:AFn:=⟨2,[(4,none)],c66,false,[],[],none⟩
theorem tr66:trFn Try.prog false 66 Try.f66=some g66:=by kernel_rfl
def c67r0:LO:=[oP 4 .mv [cIn 0]]
def c67r1:LO:=[oMv 5 0,oMv 6 1,oCl 7 79 [.t 5,.t 6],oMv 4 7]
def c67:ACode:=.seq (rT c67r0 [0,1]) (.seq (rT c67r1 [4]) .ret)
def g67:AFn:=⟨2,[(4,none)],c67,false,[],[],none⟩
theorem tr67:trFn Try.prog false 67 Try.f67=some g67:=by kernel_rfl
def c68r0:LO:=[oBx 2 0,oBx 3 1,oP 4 .mv [cIn 0]]
def c68r1:LO:=[oFa 5 3 2,oLo 6 5,oP 7 (.iaddr (some 4)) [.t 6,cIn 0],oLf 8 7,oFa 9 3 3,oLo 10 9,oP 11 (.iaddr (some 4)) [.t 10,cIn 0],oLf 12 11,oCl 13 40 [.t 8,.t 12],oMv 4 13]
def c68:ACode:=.seq (rT c68r0 [2,3]) (.seq (rT c68r1 [4]) .ret)
def g68:AFn:=⟨2,[(4,none)],c68,false,[],[],none⟩
theorem tr68:trFn Try.prog false 68 Try.f68=some g68:=by kernel_rfl
def c69r0:LO:=[oBx 4 1,oBx 5 2,oP 6 (.alloc none (.tsl (some 5) [])) [],oP 7 (.alloc none (.pv none (.int .i64 0))) []]
def c69r1:LO:=[oMv 9 0,oCl 10 80 [.t 9],oUn 11 .not 10,oMv 12 11,oG 13 (.load (some 4)) [.t 4] 12 false,oG 14 .call [cFn 16,.t 13] 12 false,oG 15 .not [.t 14] 12 false,oP 16 .pick [.t 12,cBo true,.t 15],oMv 17 16,oG 18 (.load (some 4)) [.t 5] 17 false,
 oG 19 .call [cFn 16,.t 18] 17 false,oG 20 .not [.t 19] 17 false,oP 21 .pick [.t 17,cBo true,.t 20]]
def c69r2:LO:=[⟨none,(.store none),[.t 6,.c (.tsl (some 5) [])],none⟩,⟨none,(.store none),[.t 7,cIn 1],none⟩]
def c69k3:ACode:=kRt 21 c69r2 [6,7]
def c69r4:LO:=[oP 22 (.mkfunc (.func 81) 0) [.t 6,.t 7]]
def c69r5:LO:=[oMv 23 0,oCl 24 82 [.t 23],oP 25 (.build [(none,(.tsl (some 5) []))] [0]) [.t 24],oUn 26 (.box (some 1)) 25,oMv 8 26]
def c69r6:LO:=[oMv 27 8,oLf 28 4,oLf 29 5,oCl 30 83 [.t 27,.t 28,.t 29]]
def c69r7:LO:=[oMv 31 8,oUn 32 .nilcheck 31,oFa 33 0 32,oLo 34 33,oSo 6 34,⟨none,(.store none),[.t 7,cIn 0],none⟩]
def c69p8:ACode:=(.seq (rT c69r5 [4,5,6,7,8]) (.seq (rT c69r6 [6,7,8]) (.seq (rT c69r7 [6,7]) (.seq .ret .skip))))
def c69:ACode:=.seq (rT c69r0 [0,4,5,6,7]) (.seq (rT c69r1 [0,4,5,6,7,21]) (.seq c69k3 (rT c69r4 [0,4,5,6,7,22])))
def g69:AFn:=⟨3,[(6,some none),(7,some none)],c69,false,[(.dfr 22,c69p8)],[],none⟩
theorem tr69:trFn Try.prog false 69 Try.f69=some g69:=by kernel_rfl
def c70r0:LO:=[oBx 3 1,oP 4 aZ [],oP 5 .mv [cIn 0]]
def c70r1:LO:=[oMv 6 0,oCl 7 80 [.t 6],oUn 8 .not 7,oMv 9 8,oG 10 (.load (some 4)) [.t 3] 9 false,oG 11 .call [cFn 16,.t 10] 9 false,oG 12 .not [.t 11] 9 false,oP 13 .pick [.t 9,cBo true,.t 12]]
def c70r2:LO:=[oP 14 (bZ []) [],oSf 4 14,oP 5 .mv [cIn 1]]
def c70k3:ACode:=kRt 13 c70r2 [4,5]
def c70r4:LO:=[oMv 15 0,oLf 16 3,oP 17 (.mkmap none) [],oCl 18 84 [.t 15,.t 16,.t 17],oBc 19 .gtr 18 2000]
def c70r5:LO:=[oP 20 (bZ []) [],oSf 4 20,oP 5 .mv [cIn 2]]
def c70k6:ACode:=kRt 19 c70r5 [4,5]
def c70r7:LO:=[oMv 21 0,oLf 22 3,oCl 23 85 [.t 21,.t 22],oSf 4 23,oP 5 .mv [cIn 0]]
def c70:ACode:=.seq (rT c70r0 [0,3,4]) (.seq (.seq (rT c70r1 [0,3,4,13]) c70k3) (.seq (.seq (rT c70r4 [0,3,4,19]) c70k6) (.seq (rT c70r7 [4,5]) .ret)))
def g70:AFn:=⟨2,[(4,some (some 4)),(5,none)],c70,false,[],[],none⟩
theorem tr70:trFn Try.prog false 70 Try.f70=some g70:=by kernel_rfl
def c71r0:LO:=[oLf 4 1,oCl 5 54 [.t 4,cSt [94],cIn 2]]
def c71k1:ACode:=kEx 5 0
def c71r2:LO:=[oFa 6 3 1,oLo 7 6,oP 8 (.iaddr (some 4)) [.t 7,cIn 0],oLf 9 8,oP 3 aZ [],oSf 3 9]
def c71r3:LO:=[oFa 10 3 1,oLo 11 10,oP 12 (.iaddr (some 4)) [.t 11,cIn 1],oLf 13 12,oSf 1 13]
def c71r4:LO:=[oMv 14 0,oLf 15 3,oLf 16 1,oP 17 .call [.t 14,.t 15,.t 16],oUn 18 .not 17]
def c71k5:ACode:=.cond (.t 18) .ret .skip
def c71k6:ACode:=.block 1 (.seq (rT c71r2 [0,1,3]) (.seq (rT c71r3 [0,1,3]) (.seq (rT c71r4 [0,1,18]) c71k5)))
def c71b7:ACode:=.seq (.seq (rT c71r0 [0,1,5]) c71k1) c71k6
def c71k8:ACode:=.block 0 (.loop [0,1] c71b7)
def c71:ACode:=c71k8
def g71:AFn:=⟨2,[],c71,true,[],[],none⟩
theorem tr71:trFn Try.prog true 71 Try.f71=some g71:=by kernel_rfl
def c72r0:LO:=[oP 4 aZ []]
def c72r1:LO:=[oMv 5 0,oMv 6 1,oCl 7 8 [.t 5,.t 6],oCl 8 32 [cSt [91,93]],oP 9 (.bslice (some 4)) [.t 7,.t 8],oCl 10 8 [cSt [101,114,114,111,114],.t 9],oSf 4 10]
def c72:ACode:=.seq (rT c72r0 [0,1,4]) (.seq (rT c72r1 [4]) .ret)
def g72:AFn:=⟨2,[(4,some (some 4))],c72,false,[],[],none⟩
theorem tr72:trFn Try.prog false 72 Try.f72=some g72:=by kernel_rfl
def c73r0:LO:=[oBx 3 0,oP 6 aZ []]
def c73r1:LO:=[oLf 10 3,oCl 11 16 [.t 10],oUn 12 .not 11]
def c73r2:LO:=[oP 13 (bZ []) [],oSf 6 13]
def c73k3:ACode:=kRt 12 c73r2 [6]
def c73r4:LO:=[oP 7 (.nilsl (some 4)) []]
def c73r5:LO:=[oMv 14 2,oUn 15 .len 14,oP 16 .mv [cIn 0]]
def c73r6:LO:=[oBi 17 .lss 16 15]
def c73k7:ACode:=kEx 17 0
def c73r8:LO:=[oP 18 (.iaddr none) [.t 14,.t 16],oLo 19 18,oMv 9 19]
def c73r9:LO:=[oMv 20 9,oUn 21 .slen 20,oBc 22 .gtr 21 100]
def c73r10:LO:=[oP 23 (bZ []) [],oSf 6 23]
def c73k11:ACode:=kRt 22 c73r10 [6]
def c73r12:LO:=[oMv 24 7,oMv 25 9,oCl 26 32 [.t 25],oUn 27 (.bslice (some 4)) 26,oP 28 (.append (some 4)) [.t 24,.t 27],oMv 7 28]
def c73k13:ACode:=.block 1 (.seq (rT c73r8 [1,2,3,6,7,9,14,15,16]) (.seq (.seq (rT c73r9 [1,2,3,6,7,9,14,15,16,22]) c73k11) (rT c73r12 [1,2,3,6,7,14,15,16])))
def c73r14:LO:=[oBc 29 .add 16 1,oMv 16 29]
def c73b15:ACode:=.seq (rT c73r6 [1,2,3,6,7,14,15,16,17]) (.seq c73k7 (.seq c73k13 (rT c73r14 [1,2,3,6,7,14,15,16])))
def c73k16:ACode:=.block 0 (.loop [1,2,3,6,7,14,15,16] c73b15)
def c73r17:LO:=[oMv 30 2,oUn 31 .len 30,oP 32 (.bin .add) [cIn 3,.t 31],oLf 33 3,oCl 34 18 [.t 33],oBi 35 .add 32 34,oBc 36 .gtr 35 2000]
def c73r18:LO:=[oCl 37 32 [cSt [46,46,46]],oSf 3 37]
def c73k19:ACode:=.cond (.t 36) (rT c73r18 [1,3,6,7]) .skip
def c73r20:LO:=[oMv 38 1,oMv 39 7,oLf 40 3,oUn 41 (.bslice (some 4)) 40,oP 42 (.append (some 4)) [.t 39,.t 41],oCl 43 72 [.t 38,.t 42],oSf 6 43]
def c73:ACode:=.seq (rT c73r0 [1,2,3,6]) (.seq (.seq (rT c73r1 [1,2,3,6,12]) c73k3) (.seq (rT c73r4 [1,2,3,6,7]) (.seq (.seq (rT c73r5 [1,2,3,6,7,14,15,16]) c73k16) (.seq (.seq (rT c73r17 [1,3,6,7,36]) c73k19) (.seq (rT c73r20 [6]) .ret)))))
def g73:AFn:=⟨3,[(6,some (some 4))],c73,false,[],[],none⟩
theorem tr73:trFn Try.prog false 73 Try.f73=some g73:=by kernel_rfl
def c74r0:LO:=[oBx 1 0,oP 2 .mv [cIn 0]]
def c74r1:LO:=[oLf 3 1,oCl 4 86 [.t 3,cIn 2001],oMv 2 4]
def c74:ACode:=.seq (rT c74r0 [1]) (.seq (rT c74r1 [2]) .ret)
def g74:AFn:=⟨1,[(2,none)],c74,false,[],[],none⟩
theorem tr74:trFn Try.prog false 74 Try.f74=some g74:=by kernel_rfl
def c75r0:LO:=[oBx 1 0,oP 2 .mv [cBo false]]
def c75r1:LO:=[oLf 4 1,oCl 5 87 [.t 4],oUn 6 .not 5]
def c75r2:LO:=[oP 2 .mv [cBo false]]
def c75k3:ACode:=kRt 6 c75r2 [2]
def c75r4:LO:=[oP 3 .mv [cIn 0]]
def c75r5:LO:=[oMv 7 3,oFa 8 3 1,oLo 9 8,oUn 10 .len 9,oBi 11 .lss 7 10]
def c75k6:ACode:=kEx 11 0
def c75r7:LO:=[oFa 14 3 1,oLo 15 14,oMv 16 3,oIa 17 15 16,oLf 18 17,oCl 19 75 [.t 18],oUn 20 .not 19]
def c75r8:LO:=[oP 2 .mv [cBo false]]
def c75k9:ACode:=kRt 20 c75r8 [2]
def c75k10:ACode:=.block 1 (.seq (rT c75r7 [1,3,20]) c75k9)
def c75r11:LO:=[oMv 12 3,oBc 13 .add 12 1,oMv 3 13]
def c75b12:ACode:=.seq (.seq (rT c75r5 [1,3,11]) c75k6) (.seq c75k10 (rT c75r11 [1,3]))
def c75k13:ACode:=.block 0 (.loop [1,3] c75b12)
def c75r14:LO:=[oP 2 .mv [cBo true]]
def c75:ACode:=.seq (rT c75r0 [1]) (.seq (.seq (rT c75r1 [1,6]) c75k3) (.seq (.seq (rT c75r4 [1,3]) c75k13) (.seq (rT c75r14 [2]) .ret)))
def g75:AFn:=⟨1,[(2,none)],c75,false,[],[],none⟩
theorem tr75:trFn Try.prog false 75 Try.f75=some g75:=by kernel_rfl
def c76r0:LO:=[oMv 4 0,oMv 5 0,oUn 6 .len 5,oMv 7 1,oCl 8 88 [.t 4,.t 6,.t 7]]
def c76:ACode:=rT c76r0 []
def g76:AFn:=⟨2,[],c76,true,[],[],none⟩
theorem tr76:trFn Try.prog true 76 Try.f76=some g76:=by kernel_rfl
def c77r0:LO:=[oP 2 .mv [cBo false]]
def c77r1:LO:=[oMv 3 0,oMv 4 0,oBi 5 .neq 3 4,oMv 2 5]
def c77:ACode:=.seq (rT c77r0 [0]) (.seq (rT c77r1 [2]) .ret)
def g77:AFn:=⟨1,[(2,none)],c77,false,[],[],none⟩
theorem tr77:trFn Try.prog false 77 Try.f77=some g77:=by kernel_rfl
def c78r0:LO:=[oP 2 .mv [cBo false]]
def c78r1:LO:=[oMv 3 0,oMv 4 0,oBi 5 .neq 3 4,oMv 2 5]
def c78:ACode:=.seq (rT c78r0 [0]) (.seq (rT c78r1 [2]) .ret)
def g78:AFn:=⟨1,[(2,none)],c78,false,[],[],none⟩
theorem tr78:trFn Try.prog false 78 Try.f78=some g78:=by kernel_rfl
def c79r0:LO:=[oP 4 .mv [cIn 0]]
def c79r1:LO:=[oMv 5 0,oMv 6 1,oCl 7 89 [.t 5,.t 6],oMv 4 7]
def c79:ACode:=.seq (rT c79r0 [0,1]) (.seq (rT c79r1 [4]) .ret)
def g79:AFn:=⟨2,[(4,none)],c79,false,[],[],none⟩
theorem tr79:trFn Try.prog false 79 Try.f79=some g79:=by kernel_rfl
def c80r0:LO:=[oP 2 .mv [cBo false]]
def c80r1:LO:=[oMv 8 0,oUn 9 .len 8,oP 10 .mv [cIn 0]]
def c80r2:LO:=[oBi 11 .lss 10 9]
def c80k3:ACode:=kEx 11 0
def c80r4:LO:=[oMv 12 10,oP 13 (.iaddr (some 5)) [.t 8,.t 10],oUn 14 (.load (some 5)) 13,oP 4 (.alloc (some 5) (.agg [(none,(.pv none (.int .i64 0))),((some 4),(.agg [(none,(.pv none (.int .i64 0))),(none,(.pv none (.int .i64 0))),(none,(.pv none (.str []))),(none,(.tsl (some 4) []))]))])) [],
 oMv 3 12,⟨none,(.store (some 5)),[.t 4,.t 14],none⟩]
def c80r5:LO:=[oFa 15 0 4,oLo 16 15,oBc 17 .lss 16 0,oMv 18 17,oG 19 (.faddr 0) [.t 4] 18 false,oG 20 (.load none) [.t 19] 18 false,oG 21 (.bin .gtr) [.t 20,cIn 1099511627776] 18 false,oP 22 .pick [.t 18,cBo true,.t 21],
 oMv 23 22,oG 24 .mv [.t 3] 23 false,oG 25 (.bin .gtr) [.t 24,cIn 0] 23 false,oG 26 .mv [.t 25] 23 false,oG 27 .mv [.t 0] 26 true,oG 28 .mv [.t 3] 26 true,oG 29 (.bin .sub) [.t 28,cIn 1] 26 true,oG 30 (.iaddr (some 5)) [.t 27,.t 29] 26 true,
 oG 31 (.faddr 0) [.t 30] 26 true,oG 32 (.load none) [.t 31] 26 true,oG 33 (.faddr 0) [.t 4] 26 true,oG 34 (.load none) [.t 33] 26 true,oG 35 (.bin .geq) [.t 32,.t 34] 26 true,oG 36 .pick [.t 26,.t 35,cBo false] 23 false,
 oP 37 .pick [.t 23,cBo true,.t 36],oMv 38 37,oG 39 (.faddr 1) [.t 4] 38 false,oG 40 (.load (some 4)) [.t 39] 38 false,oG 41 .call [cFn 16,.t 40] 38 false,oG 42 .not [.t 41] 38 false,oP 43 .pick [.t 38,cBo true,.t 42]]
def c80r6:LO:=[oP 2 .mv [cBo false]]
def c80k7:ACode:=kRt 43 c80r6 [2]
def c80k8:ACode:=.block 1 (.seq (rT c80r4 [0,3,4,8,9,10]) (.seq (rT c80r5 [0,8,9,10,43]) c80k7))
def c80r9:LO:=[oBc 44 .add 10 1,oMv 10 44]
def c80b10:ACode:=.seq (rT c80r2 [0,8,9,10,11]) (.seq c80k3 (.seq c80k8 (rT c80r9 [0,8,9,10])))
def c80k11:ACode:=.block 0 (.loop [0,8,9,10] c80b10)
def c80r12:LO:=[oP 45 (.mkmap none) [],oMv 5 45]
def c80r13:LO:=[oMv 46 0,oUn 47 .len 46,oP 48 .mv [cIn 0]]
def c80r14:LO:=[oBi 49 .lss 48 47]
def c80k15:ACode:=kEx 49 2
def c80r16:LO:=[oP 50 (.iaddr (some 5)) [.t 46,.t 48],oUn 51 (.load (some 5)) 50,oP 7 (.alloc (some 5) (.agg [(none,(.pv none (.int .i64 0))),((some 4),(.agg [(none,(.pv none (.int .i64 0))),(none,(.pv none (.int .i64 0))),(none,(.pv none (.str []))),(none,(.tsl (some 4) []))]))])) [],
 ⟨none,(.store (some 5)),[.t 7,.t 51],none⟩]
def c80r17:LO:=[oMv 52 0,oFa 53 0 7,oLo 54 53,oMv 55 5,oCl 56 90 [.t 52,.t 54,.t 55]]
def c80r18:LO:=[oP 2 .mv [cBo false]]
def c80k19:ACode:=kRt 56 c80r18 [2]
def c80k20:ACode:=.block 3 (.seq (rT c80r16 [0,5,7,46,47,48]) (.seq (rT c80r17 [0,5,46,47,48,56]) c80k19))
def c80r21:LO:=[oBc 57 .add 48 1,oMv 48 57]
def c80b22:ACode:=.seq (rT c80r14 [0,5,46,47,48,49]) (.seq c80k15 (.seq c80k20 (rT c80r21 [0,5,46,47,48])))
def c80k23:ACode:=.block 2 (.loop [0,5,46,47,48] c80b22)
def c80r24:LO:=[oP 2 .mv [cBo true]]
def c80:ACode:=.seq (rT c80r0 [0]) (.seq (.seq (rT c80r1 [0,8,9,10]) c80k11) (.seq (rT c80r12 [0,5]) (.seq (.seq (rT c80r13 [0,5,46,47,48]) c80k23) (.seq (rT c80r24 [2]) .ret))))
def g80:AFn:=⟨1,[(2,none)],c80,false,[],[],none⟩
theorem tr80:trFn Try.prog false 80 Try.f80=some g80:=by kernel_rfl
def c81r0:LO:=[oMv 2 5]
def c81r1:LO:=[oMv 7 2,oP 8 (.assert 89 (some 1) (.pv (some 1) (.agg [(none,(.int .i64 0))])) true) [.t 7],oMv 6 8,oEx 9 0 6,oEx 10 1 6,oP 3 (.alloc (some 1) (.pv (some 1) (.agg [(none,(.int .i64 0))]))) [],⟨none,(.store (some 1)),[.t 3,.t 9],none⟩,
 oMv 4 10]
def c81r2:LO:=[oMv 11 4]
def c81r3:LO:=[oFa 12 0 3,oLo 13 12,⟨none,(.storen none),[.t 0,.c (.tsl (some 5) []),.t 12],none⟩,oSo 1 13]
def c81r4:LO:=[oMv 14 2,oUn 15 (.isnil true) 14]
def c81r5:LO:=[oMv 16 2,⟨none,.panic,[.t 16],none⟩]
def c81k6:ACode:=.cond (.t 15) (rT c81r5 []) .skip
def c81k7:ACode:=.cond (.t 11) (rT c81r3 []) (.seq (rT c81r4 [2,15]) c81k6)
def c81:ACode:=.seq (rT c81r0 [0,1,2]) (.seq (rT c81r1 [0,1,2,3,4]) (.seq (rT c81r2 [0,1,2,3,11]) (.seq c81k7 .skip)))
def g81:AFn:=⟨2,[],c81,true,[],[],some 5⟩
theorem tr81:trFn Try.prog true 81 Try.f81=some g81:=by kernel_rfl
def c82r0:LO:=[oP 2 (.nilsl (some 5)) []]
def c82r1:LO:=[oP 3 (.nilsl (some 5)) []]
def c82r2:LO:=[oMv 6 0,oUn 7 .len 6,oP 8 .mv [cIn 0]]
def c82r3:LO:=[oBi 9 .lss 8 7]
def c82k4:ACode:=kEx 9 0
def c82r5:LO:=[oP 10 (.iaddr (some 5)) [.t 6,.t 8],oUn 11 (.load (some 5)) 10,oP 5 (.alloc (some 5) (.agg [(none,(.pv none (.int .i64 0))),((some 4),(.agg [(none,(.pv none (.int .i64 0))),(none,(.pv none (.int .i64 0))),(none,(.pv none (.str []))),(none,(.tsl (some 4) []))]))])) [],
 ⟨none,(.store (some 5)),[.t 5,.t 11],none⟩]
def c82r6:LO:=[oMv 12 3,oFa 13 0 5,oLo 14 13,oFa 15 1 5,oLf 16 15,oP 17 .callh [cFn 29,.t 16],oP 18 (.build [(none,(.pv none (.int .i64 0))),((some 4),(.agg [(none,(.pv none (.int .i64 0))),(none,(.pv none (.int .i64 0))),(none,(.pv none (.str []))),(none,(.tsl (some 4) []))]))] [0,1]) [.t 14,.t 17],
 oUn 19 (.bslice (some 5)) 18,oP 20 (.append (some 5)) [.t 12,.t 19],oMv 3 20]
def c82k7:ACode:=.block 1 (.seq (rT c82r5 [3,5,6,7,8]) (rT c82r6 [3,6,7,8]))
def c82r8:LO:=[oBc 21 .add 8 1,oMv 8 21]
def c82b9:ACode:=.seq (rT c82r3 [3,6,7,8,9]) (.seq c82k4 (.seq c82k7 (rT c82r8 [3,6,7,8])))
def c82k10:ACode:=.block 0 (.loop [3,6,7,8] c82b9)
def c82r11:LO:=[oMv 22 3,oMv 2 22]
def c82:ACode:=.seq (rT c82r0 [0]) (.seq (rT c82r1 [0,3]) (.seq (.seq (rT c82r2 [3,6,7,8]) c82k10) (.seq (rT c82r11 [2]) .ret)))
def g82:AFn:=⟨1,[(2,none)],c82,true,[],[],none⟩
theorem tr82:trFn Try.prog true 82 Try.f82=some g82:=by kernel_rfl
def c83r0:LO:=[oBx 4 1,oBx 5 2]
def c83r1:LO:=[oLf 12 4,oLf 13 5,oP 14 (.build [((some 4),(.agg [(none,(.pv none (.int .i64 0))),(none,(.pv none (.int .i64 0))),(none,(.pv none (.str []))),(none,(.tsl (some 4) []))])),((some 4),(.agg [(none,(.pv none (.int .i64 0))),(none,(.pv none (.int .i64 0))),(none,(.pv none (.str []))),(none,(.tsl (some 4) []))]))] [0,1]) [.t 12,.t 13],
 oUn 15 (.bslo (some 8)) 14,oMv 6 15]
def c83r2:LO:=[oP 7 .mv [cIn 0]]
def c83r3:LO:=[oMv 16 6,oUn 17 .len 16,oBc 18 .gtr 17 0]
def c83k4:ACode:=kEx 18 0
def c83r5:LO:=[oMv 21 7,oBc 22 .eql 21 1048576]
def c83r6:LO:=[oP 23 (.build [(none,(.pv none (.int .i64 0)))] [0]) [cIn 2],oUn 24 (.mkiface 89) 23,⟨none,.panic,[.t 24],none⟩]
def c83k7:ACode:=.cond (.t 22) (rT c83r6 [0,6,7]) .skip
def c83r8:LO:=[oMv 25 6,oMv 26 6,oUn 27 .len 26,oBc 28 .sub 27 1,oP 29 (.iaddr (some 8)) [.t 25,.t 28],oUn 30 (.load (some 8)) 29,oP 8 (.alloc (some 8) (.agg [((some 4),(.agg [(none,(.pv none (.int .i64 0))),(none,(.pv none (.int .i64 0))),(none,(.pv none (.str []))),(none,(.tsl (some 4) []))])),((some 4),(.agg [(none,(.pv none (.int .i64 0))),(none,(.pv none (.int .i64 0))),(none,(.pv none (.str []))),(none,(.tsl (some 4) []))]))])) [],
 ⟨none,(.store (some 8)),[.t 8,.t 30],none⟩]
def c83r9:LO:=[oMv 31 6,oMv 32 6,oUn 33 .len 32,oBc 34 .sub 33 1,oP 35 (.slice (some 8) false true) [.t 31,.t 34],oMv 6 35]
def c83r10:LO:=[oMv 36 0,oUn 37 .nilcheck 36,oFa 38 0 37,oLo 39 38,oP 40 (.iaddrA (some 4) 2) [.t 8,cIn 0],oLf 41 40,oP 42 .callg [cFn 91,.t 39,.t 41],oMv 43 0,oUn 44 .nilcheck 43,oFa 45 0 44,oLo 46 45,oP 47 (.iaddrA (some 4) 2) [.t 8,cIn 1],
 oLf 48 47,oCl 49 91 [.t 46,.t 48],oP 9 aZ [],oP 10 aZ [],oSf 9 42,oSf 10 49]
def c83r11:LO:=[oMv 50 0,oLf 51 9,oLf 52 10,oCl 53 92 [.t 50,.t 51,.t 52]]
def c83r12:LO:=[oFa 54 3 9,oLo 55 54,oUn 56 .len 55,oBc 57 .sub 56 1,oMv 11 57]
def c83r13:LO:=[oMv 58 11,oBc 59 .geq 58 0]
def c83k14:ACode:=kEx 59 2
def c83r15:LO:=[oMv 62 6,oFa 63 3 9,oLo 64 63,oMv 65 11,oIa 66 64 65,oLf 67 66,oFa 68 3 10,oLo 69 68,oMv 70 11,oIa 71 69 70,oLf 72 71,oP 73 (.build [((some 4),(.agg [(none,(.pv none (.int .i64 0))),(none,(.pv none (.int .i64 0))),(none,(.pv none (.str []))),(none,(.tsl (some 4) []))])),((some 4),(.agg [(none,(.pv none (.int .i64 0))),(none,(.pv none (.int .i64 0))),(none,(.pv none (.str []))),(none,(.tsl (some 4) []))]))] [0,1]) [.t 67,.t 72],
 oUn 74 (.bslice (some 8)) 73,oP 75 (.append (some 8)) [.t 62,.t 74],oMv 6 75]
def c83k16:ACode:=.block 3 (rT c83r15 [0,6,7,9,10,11])
def c83r17:LO:=[oMv 60 11,oBc 61 .sub 60 1,oMv 11 61]
def c83b18:ACode:=.seq (.seq (rT c83r13 [0,6,7,9,10,11,59]) c83k14) (.seq c83k16 (rT c83r17 [0,6,7,9,10,11]))
def c83k19:ACode:=.block 2 (.loop [0,6,7,9,10,11] c83b18)
def c83k20:ACode:=.cond (.t 53) (.seq (rT c83r12 [0,6,7,9,10,11]) c83k19) .skip
def c83k21:ACode:=.block 1 (.seq (.seq (rT c83r5 [0,6,7,22]) c83k7) (.seq (rT c83r8 [0,6,7,8]) (.seq (rT c83r9 [0,6,7,8]) (.seq (.region false c83r10 [0,6,7,9,10]) (.seq (rT c83r11 [0,6,7,9,10,53]) c83k20)))))
def c83r22:LO:=[oMv 19 7,oBc 20 .add 19 1,oMv 7 20]
def c83b23:ACode:=.seq (.seq (rT c83r3 [0,6,7,18]) c83k4) (.seq c83k21 (rT c83r22 [0,6,7]))
def c83k24:ACode:=.block 0 (.loop [0,6,7] c83b23)
def c83:ACode:=.seq (rT c83r0 [0,4,5]) (.seq (rT c83r1 [0,6]) (.seq (rT c83r2 [0,6,7]) c83k24))
def g83:AFn:=⟨3,[],c83,true,[],[],none⟩
theorem tr83:trFn Try.prog true 83 Try.f83=some g83:=by kernel_rfl
def c84r0:LO:=[oBx 4 1,oP 6 .mv [cIn 0]]
def c84r1:LO:=[oMv 13 0,oLf 14 4,oCl 15 93 [.t 13,.t 14],oMv 12 15,oEx 16 0 12,oEx 17 1 12,oP 7 aZ [],oSf 7 16,oMv 8 17]
def c84r2:LO:=[oMv 18 8]
def c84r3:LO:=[oMv 19 2,oFa 20 1 4,oLo 21 20,oP 22 (.lookup false none (.pv none (.int .i64 0)) false) [.t 19,.t 21],oBc 23 .eql 22 0]
def c84r4:LO:=[oMv 24 2,oFa 25 1 4,oLo 26 25,oMv 27 0,oLf 28 7,oMv 29 2,oP 30 (.calln 1) [.t 25,cFn 84,.t 27,.t 28,.t 29],⟨none,(.mapset false none),[.t 24,.t 26,.t 30],none⟩]
def c84k5:ACode:=.cond (.t 23) (.region false c84r4 [2,4]) .skip
def c84r6:LO:=[oMv 31 2,oFa 32 1 4,oLo 33 32,oP 34 (.lookup false none (.pv none (.int .i64 0)) false) [.t 31,.t 33],oMv 6 34]
def c84k7:ACode:=.cond (.t 18) (.seq (.seq (rT c84r3 [0,2,4,7,23]) c84k5) (.seq (rT c84r6 [6]) .ret)) .skip
def c84r8:LO:=[oP 9 .mv [cIn 1]]
def c84r9:LO:=[oFa 35 3 4,oLo 36 35,oUn 37 .len 36,oP 38 .mv [cIn 0]]
def c84r10:LO:=[oBi 39 .lss 38 37]
def c84k11:ACode:=kEx 39 0
def c84r12:LO:=[oIa 40 36 38,oLf 41 40,oP 11 aZ [],oSf 11 41]
def c84r13:LO:=[oMv 42 9,oMv 43 0,oLf 44 11,oMv 45 2,oCl 46 84 [.t 43,.t 44,.t 45],oBi 47 .add 42 46,oP 48 .min [.t 47,cIn 2001],oMv 9 48]
def c84k14:ACode:=.block 1 (.seq (rT c84r12 [0,2,9,11,36,37,38]) (rT c84r13 [0,2,9,36,37,38]))
def c84r15:LO:=[oBc 49 .add 38 1,oMv 38 49]
def c84b16:ACode:=.seq (rT c84r10 [0,2,9,36,37,38,39]) (.seq c84k11 (.seq c84k14 (rT c84r15 [0,2,9,36,37,38])))
def c84k17:ACode:=.block 0 (.loop [0,2,9,36,37,38] c84b16)
def c84r18:LO:=[oMv 50 9,oMv 6 50]
def c84:ACode:=.seq (rT c84r0 [0,2,4]) (.seq (.seq (rT c84r1 [0,2,4,7,8]) (.seq (rT c84r2 [0,2,4,7,18]) c84k7)) (.seq (rT c84r8 [0,2,4,9]) (.seq (.seq (rT c84r9 [0,2,9,36,37,38]) c84k17) (.seq (rT c84r18 [6]) .ret))))
def g84:AFn:=⟨3,[(6,none)],c84,true,[],[],none⟩
theorem tr84:trFn Try.prog true 84 Try.f84=some g84:=by kernel_rfl
def c85r0:LO:=[oBx 3 1,oP 4 aZ []]
def c85r1:LO:=[oMv 11 0,oLf 12 3,oCl 13 93 [.t 11,.t 12],oMv 10 13,oEx 14 0 10,oEx 15 1 10,oP 5 aZ [],oSf 5 14,oMv 6 15]
def c85r2:LO:=[oMv 16 6]
def c85r3:LO:=[oMv 17 0,oLf 18 5,oCl 19 85 [.t 17,.t 18],oSf 4 19]
def c85k4:ACode:=kRt 16 c85r3 [4]
def c85r5:LO:=[oFa 20 0 3,oLo 21 20,oFa 22 1 3,oLo 23 22,oFa 24 2 3,oLo 25 24,oP 26 (bZ [0,1,2]) [.t 21,.t 23,.t 25],oP 7 aZ [],oSf 7 26]
def c85r6:LO:=[oFa 27 3 3,oLo 28 27,oUn 29 .len 28,oP 30 .mv [cIn 0]]
def c85r7:LO:=[oBi 31 .lss 30 29]
def c85k8:ACode:=kEx 31 0
def c85r9:LO:=[oIa 32 28 30,oLf 33 32,oP 9 aZ [],oSf 9 33]
def c85r10:LO:=[oFa 34 3 7,oLo 35 34,oMv 36 0,oLf 37 9,oP 38 .callp [cFn 85,.t 36,.t 37],oUn 39 (.bslicep (some 4)) 38,oP 40 (.append (some 4)) [.t 35,.t 39],oFa 41 3 7,oSo 41 40]
def c85k11:ACode:=.block 1 (.seq (rT c85r9 [0,4,7,9,28,29,30]) (.seq (.settle [0,9]) (rT c85r10 [0,4,7,28,29,30])))
def c85r12:LO:=[oBc 42 .add 30 1,oMv 30 42]
def c85b13:ACode:=.seq (rT c85r7 [0,4,7,28,29,30,31]) (.seq c85k8 (.seq c85k11 (rT c85r12 [0,4,7,28,29,30])))
def c85k14:ACode:=.block 0 (.loop [0,4,7,28,29,30] c85b13)
def c85r15:LO:=[oLf 43 7,oSf 4 43]
def c85:ACode:=.seq (rT c85r0 [0,3,4]) (.seq (.seq (rT c85r1 [0,3,4,5,6]) (.seq (rT c85r2 [0,3,4,5,16]) c85k4)) (.seq (rT c85r5 [0,3,4,7]) (.seq (.seq (rT c85r6 [0,4,7,28,29,30]) c85k14) (.seq (rT c85r15 [4]) .ret))))
def g85:AFn:=⟨2,[(4,some (some 4))],c85,false,[],[],none⟩
theorem tr85:trFn Try.prog false 85 Try.f85=some g85:=by kernel_rfl
def c86r0:LO:=[oBx 2 0,oP 4 .mv [cIn 0]]
def c86r1:LO:=[oP 5 .mv [cIn 1]]
def c86r2:LO:=[oP 6 .mv [cIn 0]]
def c86r3:LO:=[oMv 7 6,oFa 8 3 2,oLo 9 8,oUn 10 .len 9,oBi 11 .lss 7 10,oMv 12 11,oG 13 .mv [.t 5] 12 true,oG 14 .mv [.t 1] 12 true,oG 15 (.bin .lss) [.t 13,.t 14] 12 true,oP 16 .pick [.t 12,.t 15,cBo false]]
def c86k4:ACode:=kEx 16 0
def c86r5:LO:=[oMv 19 5,oFa 20 3 2,oLo 21 20,oMv 22 6,oIa 23 21 22,oLf 24 23,oMv 25 1,oMv 26 5,oBi 27 .sub 25 26,oCl 28 86 [.t 24,.t 27],oBi 29 .add 19 28,oMv 5 29]
def c86k6:ACode:=.block 1 (rT c86r5 [1,2,5,6])
def c86r7:LO:=[oMv 17 6,oBc 18 .add 17 1,oMv 6 18]
def c86b8:ACode:=.seq (.seq (rT c86r3 [1,2,5,6,16]) c86k4) (.seq c86k6 (rT c86r7 [1,2,5,6]))
def c86k9:ACode:=.block 0 (.loop [1,2,5,6] c86b8)
def c86r10:LO:=[oMv 30 5,oMv 4 30]
def c86:ACode:=.seq (rT c86r0 [1,2]) (.seq (rT c86r1 [1,2,5]) (.seq (.seq (rT c86r2 [1,2,5,6]) c86k9) (.seq (rT c86r10 [4]) .ret)))
def g86:AFn:=⟨2,[(4,none)],c86,false,[],[],none⟩
theorem tr86:trFn Try.prog false 86 Try.f86=some g86:=by kernel_rfl
def c87r0:LO:=[oBx 1 0,oP 2 .mv [cBo false]]
def c87r1:LO:=[oFa 3 0 1,oLo 4 3]
def c87r2:LO:=[oBc 6 .eql 4 0,oMv 5 6]
def c87r3:LO:=[oFa 7 1 1,oLo 8 7,oBc 9 .geq 8 0,oMv 10 9,oG 11 (.faddr 1) [.t 1] 10 true,oG 12 (.load none) [.t 11] 10 true,oG 13 (.bin .leq) [.t 12,cIn 1099511627776] 10 true,oP 14 .pick [.t 10,.t 13,cBo false],oMv 15 14,
 oG 16 (.faddr 2) [.t 1] 15 true,oG 17 (.load none) [.t 16] 15 true,oG 18 (.bin .eql) [.t 17,cSt []] 15 true,oP 19 .pick [.t 15,.t 18,cBo false],oMv 20 19,oG 21 (.faddr 3) [.t 1] 20 true,oG 22 (.load none) [.t 21] 20 true,
 oG 23 .len [.t 22] 20 true,oG 24 (.bin .eql) [.t 23,cIn 0] 20 true,oP 25 .pick [.t 20,.t 24,cBo false],oMv 2 25]
def c87r4:LO:=[oBc 27 .eql 4 1,oMv 26 27]
def c87r5:LO:=[oFa 28 2 1,oLo 29 28,oP 30 (.bin .eql) [.t 29,cSt []],oMv 31 30,oG 32 (.faddr 3) [.t 1] 31 true,oG 33 (.load none) [.t 32] 31 true,oG 34 .len [.t 33] 31 true,oG 35 (.bin .eql) [.t 34,cIn 0] 31 true,oP 36 .pick [.t 31,.t 35,cBo false],
 oMv 2 36]
def c87r6:LO:=[oBc 38 .eql 4 2,oMv 37 38]
def c87r7:LO:=[oFa 39 1 1,oLo 40 39,oBc 41 .eql 40 0,oMv 42 41,oG 43 (.faddr 2) [.t 1] 42 true,oG 44 (.load none) [.t 43] 42 true,oG 45 .slen [.t 44] 42 true,oG 46 (.bin .leq) [.t 45,cIn 100] 42 true,oP 47 .pick [.t 42,.t 46,cBo false],
 oMv 48 47,oG 49 (.faddr 3) [.t 1] 48 true,oG 50 (.load none) [.t 49] 48 true,oG 51 .len [.t 50] 48 true,oG 52 (.bin .eql) [.t 51,cIn 0] 48 true,oP 53 .pick [.t 48,.t 52,cBo false],oMv 2 53]
def c87r8:LO:=[oBc 55 .eql 4 3,oMv 54 55]
def c87r9:LO:=[oFa 56 1 1,oLo 57 56,oBc 58 .eql 57 0,oMv 59 58,oG 60 (.faddr 2) [.t 1] 59 true,oG 61 (.load none) [.t 60] 59 true,oG 62 .slen [.t 61] 59 true,oG 63 (.bin .leq) [.t 62,cIn 100] 59 true,oP 64 .pick [.t 59,.t 63,cBo false],
 oMv 65 64,oG 66 (.faddr 3) [.t 1] 65 true,oG 67 (.load none) [.t 66] 65 true,oG 68 .len [.t 67] 65 true,oG 69 (.bin .geq) [.t 68,cIn 1] 65 true,oP 70 .pick [.t 65,.t 69,cBo false],oMv 71 70,oG 72 (.faddr 3) [.t 1] 71 true,
 oG 73 (.load none) [.t 72] 71 true,oG 74 .len [.t 73] 71 true,oG 75 (.bin .leq) [.t 74,cIn 8] 71 true,oP 76 .pick [.t 71,.t 75,cBo false],oMv 2 76]
def c87k10:ACode:=kRt 54 c87r9 [2]
def c87k11:ACode:=.cond (.t 37) (.seq (rT c87r7 [2]) .ret) (.seq (rT c87r8 [1,54]) c87k10)
def c87k12:ACode:=.cond (.t 26) (.seq (rT c87r5 [2]) .ret) (.seq (rT c87r6 [1,4,37]) c87k11)
def c87k13:ACode:=.cond (.t 5) (.seq (rT c87r3 [2]) .ret) (.seq (rT c87r4 [1,4,26]) c87k12)
def c87k14:ACode:=.block 0 (.seq (rT c87r2 [1,4,5]) c87k13)
def c87r15:LO:=[oP 2 .mv [cBo false]]
def c87:ACode:=.seq (rT c87r0 [1]) (.seq (.seq (rT c87r1 [1,4]) c87k14) (.seq (rT c87r15 [2]) .ret))
def g87:AFn:=⟨1,[(2,none)],c87,false,[],[],none⟩
theorem tr87:trFn Try.prog false 87 Try.f87=some g87:=by kernel_rfl
def c88r0:LO:=[oP 6 .mv [cIn 20]]
def c88r1:LO:=[oMv 10 6,oP 7 .mv [cIn 0],oMv 8 10]
def c88r2:LO:=[oMv 11 8,oMv 12 1,oBi 13 .leq 11 12]
def c88k3:ACode:=kEx 13 0
def c88r4:LO:=[oMv 14 0,oMv 15 7,oMv 16 8,oMv 17 2,oCl 18 94 [.t 14,.t 15,.t 16,.t 17]]
def c88r5:LO:=[oMv 19 8,oMv 7 19]
def c88r6:LO:=[oMv 20 8,oMv 21 6,oBi 22 .add 20 21,oMv 8 22]
def c88k7:ACode:=.block 1 (.seq (rT c88r4 [0,1,2,6,8]) (.seq (rT c88r5 [0,1,2,6,7,8]) (rT c88r6 [0,1,2,6,7,8])))
def c88b8:ACode:=.seq (.seq (rT c88r2 [0,1,2,6,7,8,13]) c88k3) c88k7
def c88k9:ACode:=.block 0 (.loop [0,1,2,6,7,8] c88b8)
def c88r10:LO:=[oMv 23 0,oMv 24 7,oMv 25 1,oMv 26 2,oCl 27 94 [.t 23,.t 24,.t 25,.t 26]]
def c88r11:LO:=[oMv 28 6,oMv 29 1,oBi 30 .lss 28 29]
def c88k12:ACode:=kEx 30 2
def c88r13:LO:=[oMv 31 6,oP 32 (.bin .mul) [cIn 2,.t 31],oP 7 .mv [cIn 0],oMv 8 32]
def c88r14:LO:=[oMv 33 8,oMv 34 1,oBi 35 .leq 33 34]
def c88k15:ACode:=kEx 35 4
def c88r16:LO:=[oMv 36 0,oMv 37 7,oMv 38 7,oMv 39 6,oBi 40 .add 38 39,oMv 41 8,oMv 42 2,oCl 43 95 [.t 36,.t 37,.t 40,.t 41,.t 42]]
def c88r17:LO:=[oMv 44 8,oMv 7 44]
def c88r18:LO:=[oMv 45 8,oMv 46 6,oP 47 (.bin .mul) [cIn 2,.t 46],oBi 48 .add 45 47,oMv 8 48]
def c88k19:ACode:=.block 5 (.seq (rT c88r16 [0,1,2,6,8]) (.seq (rT c88r17 [0,1,2,6,7,8]) (rT c88r18 [0,1,2,6,7,8])))
def c88b20:ACode:=.seq (.seq (rT c88r14 [0,1,2,6,7,8,35]) c88k15) c88k19
def c88k21:ACode:=.block 4 (.loop [0,1,2,6,7,8] c88b20)
def c88r22:LO:=[oMv 49 7,oMv 50 6,oBi 51 .add 49 50,oMv 9 51]
def c88r23:LO:=[oMv 52 9,oMv 53 1,oBi 54 .lss 52 53]
def c88r24:LO:=[oMv 55 0,oMv 56 7,oMv 57 9,oMv 58 1,oMv 59 2,oCl 60 95 [.t 55,.t 56,.t 57,.t 58,.t 59]]
def c88k25:ACode:=.cond (.t 54) (rT c88r24 [0,1,2,6]) .skip
def c88r26:LO:=[oMv 61 6,oBc 62 .mul 61 2,oMv 6 62]
def c88k27:ACode:=.block 3 (.seq (rT c88r13 [0,1,2,6,7,8]) (.seq c88k21 (.seq (.seq (rT c88r22 [0,1,2,6,7,9]) (.seq (rT c88r23 [0,1,2,6,7,9,54]) c88k25)) (rT c88r26 [0,1,2,6]))))
def c88b28:ACode:=.seq (.seq (rT c88r11 [0,1,2,6,30]) c88k12) c88k27
def c88k29:ACode:=.block 2 (.loop [0,1,2,6] c88b28)
def c88:ACode:=.seq (rT c88r0 [0,1,2,6]) (.seq (rT c88r1 [0,1,2,6,7,8]) (.seq c88k9 (.seq (rT c88r10 [0,1,2,6]) c88k29)))
def g88:AFn:=⟨3,[],c88,true,[],[],none⟩
theorem tr88:trFn Try.prog true 88 Try.f88=some g88:=by kernel_rfl
def c90r0:LO:=[oP 6 .mv [cBo false]]
def c90r1:LO:=[oMv 11 2,oMv 12 1,oP 13 (.lookup false none (.pv none (.int .i64 0)) false) [.t 11,.t 12],oBc 14 .neq 13 0]
def c90r2:LO:=[oMv 15 2,oMv 16 1,oP 17 (.lookup false none (.pv none (.int .i64 0)) false) [.t 15,.t 16],oBc 18 .eql 17 1,oMv 6 18]
def c90k3:ACode:=kRt 14 c90r2 [6]
def c90r4:LO:=[oMv 20 0,oMv 21 1,oP 22 (bZ [1]) [.t 21],oCl 23 93 [.t 20,.t 22],oMv 19 23,oEx 24 0 19,oEx 25 1 19,oP 7 aZ [],oSf 7 24,oMv 8 25]
def c90r5:LO:=[oMv 26 8,oUn 27 .not 26]
def c90r6:LO:=[oP 6 .mv [cBo false]]
def c90k7:ACode:=kRt 27 c90r6 [6]
def c90r8:LO:=[oMv 28 2,oMv 29 1,⟨none,(.mapset false none),[.t 28,.t 29,cIn 1],none⟩]
def c90r9:LO:=[oLf 30 7,oCl 31 17 [.t 30],oUn 32 .len 31,oP 33 .mv [cIn 0]]
def c90r10:LO:=[oBi 34 .lss 33 32]
def c90k11:ACode:=kEx 34 0
def c90r12:LO:=[oP 35 (.iaddr none) [.t 31,.t 33],oLo 36 35,oMv 10 36]
def c90r13:LO:=[oMv 37 0,oMv 38 10,oMv 39 2,oCl 40 90 [.t 37,.t 38,.t 39]]
def c90r14:LO:=[oP 6 .mv [cBo true]]
def c90k15:ACode:=kRt 40 c90r14 [6]
def c90k16:ACode:=.block 1 (.seq (rT c90r12 [0,1,2,10,31,32,33]) (.seq (rT c90r13 [0,1,2,31,32,33,40]) c90k15))
def c90r17:LO:=[oBc 41 .add 33 1,oMv 33 41]
def c90b18:ACode:=.seq (rT c90r10 [0,1,2,31,32,33,34]) (.seq c90k11 (.seq c90k16 (rT c90r17 [0,1,2,31,32,33])))
def c90k19:ACode:=.block 0 (.loop [0,1,2,31,32,33] c90b18)
def c90r20:LO:=[oMv 42 2,oMv 43 1,⟨none,(.mapset false none),[.t 42,.t 43,cIn 2],none⟩]
def c90r21:LO:=[oP 6 .mv [cBo false]]
def c90:ACode:=.seq (rT c90r0 [0,1,2]) (.seq (.seq (rT c90r1 [0,1,2,14]) c90k3) (.seq (rT c90r4 [0,1,2,7,8]) (.seq (.seq (rT c90r5 [0,1,2,7,27]) c90k7) (.seq (rT c90r8 [0,1,2,7]) (.seq (.seq (rT c90r9 [0,1,2,31,32,33]) c90k19) (.seq (rT c90r20 []) (.seq (rT c90r21 [6]) .ret)))))))
def g90:AFn:=⟨3,[(6,none)],c90,true,[],[],none⟩
theorem tr90:trFn Try.prog true 90 Try.f90=some g90:=by kernel_rfl
def c91r0:LO:=[oBx 3 1,oP 4 aZ []]
def c91r1:LO:=[oMv 8 0,oLf 9 3,oCl 10 93 [.t 8,.t 9],oMv 7 10,oEx 11 0 7,oEx 12 1 7,oP 5 aZ [],oSf 5 11,oMv 6 12]
def c91r2:LO:=[oMv 13 6,oUn 14 .not 13]
def c91r3:LO:=[oLf 15 3,oSf 4 15]
def c91k4:ACode:=kRt 14 c91r3 [4]
def c91r5:LO:=[oLf 16 5,oSf 3 16]
def c91k6:ACode:=.block 1 (.seq (rT c91r1 [0,3,4,5,6]) (.seq (.seq (rT c91r2 [0,3,4,5,14]) c91k4) (rT c91r5 [0,3,4])))
def c91b7:ACode:=c91k6
def c91k8:ACode:=.block 0 (.loop [0,3,4] c91b7)
def c91:ACode:=.seq (rT c91r0 [0,3,4]) c91k8
def g91:AFn:=⟨2,[(4,some (some 4))],c91,true,[],[],none⟩
theorem tr91:trFn Try.prog true 91 Try.f91=some g91:=by kernel_rfl
def c92r0:LO:=[oBx 4 1,oBx 5 2,oP 6 .mv [cBo false]]
def c92r1:LO:=[oFa 8 0 4,oLo 9 8,oBc 10 .eql 9 0,oMv 11 10,oG 12 (.faddr 0) [.t 5] 11 true,oG 13 (.load none) [.t 12] 11 true,oG 14 (.bin .eql) [.t 13,cIn 0] 11 true,oP 15 .pick [.t 11,.t 14,cBo false],oMv 7 15]
def c92r2:LO:=[oFa 16 1 4,oLo 17 16,oFa 18 1 5,oLo 19 18,oBi 20 .neq 17 19]
def c92r3:LO:=[oMv 21 0,oFa 22 1 4,oLo 23 22,oFa 24 1 5,oLo 25 24,oP 26 .max [.t 23,.t 25],oFa 27 1 4,oLo 28 27,oFa 29 1 5,oLo 30 29,oP 31 .min [.t 28,.t 30],oP 32 (bZ [1]) [.t 31],oCl 33 96 [.t 21,.t 26,.t 32]]
def c92k4:ACode:=.cond (.t 20) (rT c92r3 []) .skip
def c92r5:LO:=[oFa 35 0 4,oLo 36 35,oBc 37 .eql 36 0,oMv 34 37]
def c92r6:LO:=[oMv 38 0,oFa 39 1 4,oLo 40 39,oLf 41 5,oCl 42 96 [.t 38,.t 40,.t 41]]
def c92r7:LO:=[oFa 44 0 5,oLo 45 44,oBc 46 .eql 45 0,oMv 43 46]
def c92r8:LO:=[oMv 47 0,oFa 48 1 5,oLo 49 48,oLf 50 4,oCl 51 96 [.t 47,.t 49,.t 50]]
def c92r9:LO:=[oFa 53 0 4,oLo 54 53,oFa 55 0 5,oLo 56 55,oBi 57 .neq 54 56,oMv 58 57,oG 59 (.faddr 1) [.t 4] 58 false,oG 60 (.load none) [.t 59] 58 false,oG 61 (.faddr 1) [.t 5] 58 false,oG 62 (.load none) [.t 61] 58 false,
 oG 63 (.bin .neq) [.t 60,.t 62] 58 false,oP 64 .pick [.t 58,cBo true,.t 63],oMv 65 64,oG 66 (.faddr 2) [.t 4] 65 false,oG 67 (.load none) [.t 66] 65 false,oG 68 (.faddr 2) [.t 5] 65 false,oG 69 (.load none) [.t 68] 65 false,
 oG 70 (.bin .neq) [.t 67,.t 69] 65 false,oP 71 .pick [.t 65,cBo true,.t 70],oMv 72 71,oG 73 (.faddr 3) [.t 4] 72 false,oG 74 (.load none) [.t 73] 72 false,oG 75 .len [.t 74] 72 false,oG 76 (.faddr 3) [.t 5] 72 false,oG 77 (.load none) [.t 76] 72 false,
 oG 78 .len [.t 77] 72 false,oG 79 (.bin .neq) [.t 75,.t 78] 72 false,oP 80 .pick [.t 72,cBo true,.t 79],oMv 52 80]
def c92r10:LO:=[oP 81 (.build [(none,(.pv none (.int .i64 0)))] [0]) [cIn 4],oUn 82 (.mkiface 89) 81,⟨none,.panic,[.t 82],none⟩]
def c92r11:LO:=[oP 6 .mv [cBo true]]
def c92k12:ACode:=.cond (.t 52) (rT c92r10 []) (.seq (rT c92r11 [6]) .ret)
def c92k13:ACode:=.cond (.t 43) (rT c92r8 []) (.seq (rT c92r9 [52]) c92k12)
def c92k14:ACode:=.cond (.t 34) (rT c92r6 []) (.seq (rT c92r7 [0,4,5,43]) c92k13)
def c92k15:ACode:=.cond (.t 7) (.seq (rT c92r2 [0,4,5,20]) c92k4) (.seq (rT c92r5 [0,4,5,34]) c92k14)
def c92k16:ACode:=.block 0 (.seq (rT c92r1 [0,4,5,7]) c92k15)
def c92r17:LO:=[oP 6 .mv [cBo false]]
def c92:ACode:=.seq (rT c92r0 [0,4,5]) (.seq c92k16 (.seq (rT c92r17 [6]) .ret))
def g92:AFn:=⟨3,[(6,none)],c92,true,[],[],none⟩
theorem tr92:trFn Try.prog true 92 Try.f92=some g92:=by kernel_rfl
def c93r0:LO:=[oBx 3 1,oP 4 aZ [],oP 5 .mv [cBo false]]
def c93r1:LO:=[oFa 8 0 3,oLo 9 8,oBc 10 .neq 9 0]
def c93r2:LO:=[oP 11 (bZ []) [],oSf 4 11,oP 5 .mv [cBo false]]
def c93k3:ACode:=kRt 10 c93r2 [4,5]
def c93r4:LO:=[oMv 13 0,oFa 14 1 3,oLo 15 14,oCl 16 97 [.t 13,.t 15],oMv 12 16,oEx 17 0 12,oEx 18 1 12,oMv 6 17,oMv 7 18]
def c93r5:LO:=[oMv 19 7,oUn 20 .not 19]
def c93r6:LO:=[oP 21 (bZ []) [],oSf 4 21,oP 5 .mv [cBo false]]
def c93k7:ACode:=kRt 20 c93r6 [4,5]
def c93r8:LO:=[oMv 22 0,oMv 23 6,oP 24 (.iaddr (some 5)) [.t 22,.t 23],oFa 25 1 24,oLf 26 25,oSf 4 26,oP 5 .mv [cBo true]]
def c93:ACode:=.seq (rT c93r0 [0,3,4]) (.seq (.seq (rT c93r1 [0,3,4,10]) c93k3) (.seq (rT c93r4 [0,4,6,7]) (.seq (.seq (rT c93r5 [0,4,6,20]) c93k7) (.seq (rT c93r8 [4,5]) .ret))))
def g93:AFn:=⟨2,[(4,some (some 4)),(5,none)],c93,true,[],[],none⟩
theorem tr93:trFn Try.prog true 93 Try.f93=some g93:=by kernel_rfl
def c94r0:LO:=[oMv 10 1,oBc 11 .add 10 1,oMv 8 11]
def c94r1:LO:=[oMv 12 8,oMv 13 2,oBi 14 .lss 12 13]
def c94k2:ACode:=kEx 14 0
def c94r3:LO:=[oMv 17 8,oMv 9 17]
def c94r4:LO:=[oMv 18 9,oMv 19 1,oBi 20 .gtr 18 19,oMv 21 20,oG 22 .mv [.t 3] 21 true,oG 23 .mv [.t 0] 21 true,oG 24 .mv [.t 9] 21 true,oG 25 (.iaddr (some 4)) [.t 23,.t 24] 21 true,oG 26 (.load (some 4)) [.t 25] 21 true,
 oG 27 .mv [.t 0] 21 true,oG 28 .mv [.t 9] 21 true,oG 29 (.bin .sub) [.t 28,cIn 1] 21 true,oG 30 (.iaddr (some 4)) [.t 27,.t 29] 21 true,oG 31 (.load (some 4)) [.t 30] 21 true,oG 32 .call [.t 22,.t 26,.t 31] 21 true,oG 33 (.bin .lss) [.t 32,cIn 0] 21 true,
 oP 34 .pick [.t 21,.t 33,cBo false]]
def c94k5:ACode:=kEx 34 2
def c94r6:LO:=[oMv 37 0,oMv 38 9,oMv 39 0,oMv 40 9,oBc 41 .sub 40 1,oMv 42 0,oMv 43 9,oBc 44 .sub 43 1,oIa 45 42 44,oLf 46 45,oMv 47 0,oMv 48 9,oIa 49 47 48,oLf 50 49,oIa 51 37 38,oSf 51 46,oIa 52 39 41,oSf 52 50]
def c94k7:ACode:=.block 3 (rT c94r6 [0,1,2,3,8,9])
def c94r8:LO:=[oMv 35 9,oBc 36 .sub 35 1,oMv 9 36]
def c94b9:ACode:=.seq (.seq (rT c94r4 [0,1,2,3,8,9,34]) c94k5) (.seq c94k7 (rT c94r8 [0,1,2,3,8,9]))
def c94k10:ACode:=.block 2 (.loop [0,1,2,3,8,9] c94b9)
def c94k11:ACode:=.block 1 (.seq (rT c94r3 [0,1,2,3,8,9]) c94k10)
def c94r12:LO:=[oMv 15 8,oBc 16 .add 15 1,oMv 8 16]
def c94b13:ACode:=.seq (.seq (rT c94r1 [0,1,2,3,8,14]) c94k2) (.seq c94k11 (rT c94r12 [0,1,2,3,8]))
def c94k14:ACode:=.block 0 (.loop [0,1,2,3,8] c94b13)
def c94:ACode:=.seq (rT c94r0 [0,1,2,3,8]) c94k14
def g94:AFn:=⟨4,[],c94,true,[],[],none⟩
theorem tr94:trFn Try.prog true 94 Try.f94=some g94:=by kernel_rfl
def c95r0:LO:=[oMv 25 2,oMv 26 1,oBi 27 .sub 25 26,oBc 28 .eql 27 1]
def c95r1:LO:=[oMv 29 2,oMv 10 29]
def c95r2:LO:=[oMv 30 3,oMv 11 30]
def c95r3:LO:=[oMv 31 10,oMv 32 11,oBi 33 .lss 31 32]
def c95k4:ACode:=kEx 33 0
def c95r5:LO:=[oMv 34 10,oMv 35 11,oBi 36 .add 34 35,oUn 37 (.conv .u64) 36,oP 38 (.bin .shr) [.t 37,.c (.pv none (.int .u64 1))],oUn 39 (.conv .i64) 38,oMv 12 39]
def c95r6:LO:=[oMv 40 4,oMv 41 0,oMv 42 12,oIa 43 41 42,oLf 44 43,oMv 45 0,oMv 46 1,oIa 47 45 46,oLf 48 47,oP 49 .call [.t 40,.t 44,.t 48],oBc 50 .lss 49 0]
def c95r7:LO:=[oMv 51 12,oBc 52 .add 51 1,oMv 10 52]
def c95r8:LO:=[oMv 53 12,oMv 11 53]
def c95k9:ACode:=.cond (.t 50) (rT c95r7 [0,1,4,10,11]) (rT c95r8 [0,1,4,10,11])
def c95k10:ACode:=.block 1 (.seq (rT c95r5 [0,1,4,10,11,12]) (.seq (rT c95r6 [0,1,4,10,11,12,50]) c95k9))
def c95b11:ACode:=.seq (.seq (rT c95r3 [0,1,4,10,11,33]) c95k4) c95k10
def c95k12:ACode:=.block 0 (.loop [0,1,4,10,11] c95b11)
def c95r13:LO:=[oMv 54 1,oMv 13 54]
def c95r14:LO:=[oMv 55 13,oMv 56 10,oBc 57 .sub 56 1,oBi 58 .lss 55 57]
def c95k15:ACode:=kEx 58 2
def c95r16:LO:=[oMv 61 0,oMv 62 13,oMv 63 0,oMv 64 13,oBc 65 .add 64 1,oMv 66 0,oMv 67 13,oBc 68 .add 67 1,oIa 69 66 68,oLf 70 69,oMv 71 0,oMv 72 13,oIa 73 71 72,oLf 74 73,oIa 75 61 62,oSf 75 70,oIa 76 63 65,oSf 76 74]
def c95k17:ACode:=.block 3 (rT c95r16 [0,10,13])
def c95r18:LO:=[oMv 59 13,oBc 60 .add 59 1,oMv 13 60]
def c95b19:ACode:=.seq (.seq (rT c95r14 [0,10,13,58]) c95k15) (.seq c95k17 (rT c95r18 [0,10,13]))
def c95k20:ACode:=.block 2 (.loop [0,10,13] c95b19)
def c95k21:ACode:=.cond (.t 28) (.seq (rT c95r1 [0,1,3,4,10]) (.seq (rT c95r2 [0,1,4,10,11]) (.seq c95k12 (.seq (.seq (rT c95r13 [0,10,13]) c95k20) .ret)))) .skip
def c95r22:LO:=[oMv 77 3,oMv 78 2,oBi 79 .sub 77 78,oBc 80 .eql 79 1]
def c95r23:LO:=[oMv 81 1,oMv 14 81]
def c95r24:LO:=[oMv 82 2,oMv 15 82]
def c95r25:LO:=[oMv 83 14,oMv 84 15,oBi 85 .lss 83 84]
def c95k26:ACode:=kEx 85 4
def c95r27:LO:=[oMv 86 14,oMv 87 15,oBi 88 .add 86 87,oUn 89 (.conv .u64) 88,oP 90 (.bin .shr) [.t 89,.c (.pv none (.int .u64 1))],oUn 91 (.conv .i64) 90,oMv 16 91]
def c95r28:LO:=[oMv 92 4,oMv 93 0,oMv 94 2,oIa 95 93 94,oLf 96 95,oMv 97 0,oMv 98 16,oIa 99 97 98,oLf 100 99,oP 101 .call [.t 92,.t 96,.t 100],oBc 102 .lss 101 0,oUn 103 .not 102]
def c95r29:LO:=[oMv 104 16,oBc 105 .add 104 1,oMv 14 105]
def c95r30:LO:=[oMv 106 16,oMv 15 106]
def c95k31:ACode:=.cond (.t 103) (rT c95r29 [0,2,4,14,15]) (rT c95r30 [0,2,4,14,15])
def c95k32:ACode:=.block 5 (.seq (rT c95r27 [0,2,4,14,15,16]) (.seq (rT c95r28 [0,2,4,14,15,16,103]) c95k31))
def c95b33:ACode:=.seq (.seq (rT c95r25 [0,2,4,14,15,85]) c95k26) c95k32
def c95k34:ACode:=.block 4 (.loop [0,2,4,14,15] c95b33)
def c95r35:LO:=[oMv 107 2,oMv 17 107]
def c95r36:LO:=[oMv 108 17,oMv 109 14,oBi 110 .gtr 108 109]
def c95k37:ACode:=kEx 110 6
def c95r38:LO:=[oMv 113 0,oMv 114 17,oMv 115 0,oMv 116 17,oBc 117 .sub 116 1,oMv 118 0,oMv 119 17,oBc 120 .sub 119 1,oIa 121 118 120,oLf 122 121,oMv 123 0,oMv 124 17,oIa 125 123 124,oLf 126 125,oIa 127 113 114,oSf 127 122,
 oIa 128 115 117,oSf 128 126]
def c95k39:ACode:=.block 7 (rT c95r38 [0,14,17])
def c95r40:LO:=[oMv 111 17,oBc 112 .sub 111 1,oMv 17 112]
def c95b41:ACode:=.seq (.seq (rT c95r36 [0,14,17,110]) c95k37) (.seq c95k39 (rT c95r40 [0,14,17]))
def c95k42:ACode:=.block 6 (.loop [0,14,17] c95b41)
def c95k43:ACode:=.cond (.t 80) (.seq (rT c95r23 [0,2,4,14]) (.seq (rT c95r24 [0,2,4,14,15]) (.seq c95k34 (.seq (.seq (rT c95r35 [0,14,17]) c95k42) .ret)))) .skip
def c95r44:LO:=[oMv 129 1,oMv 130 3,oBi 131 .add 129 130,oUn 132 (.conv .u64) 131,oP 133 (.bin .shr) [.t 132,.c (.pv none (.int .u64 1))],oUn 134 (.conv .i64) 133,oMv 18 134]
def c95r45:LO:=[oMv 135 18,oMv 136 2,oBi 137 .add 135 136,oMv 19 137]
def c95r46:LO:=[oP 20 .mv [cIn 0],oP 21 .mv [cIn 0]]
def c95r47:LO:=[oMv 138 2,oMv 139 18,oBi 140 .gtr 138 139]
def c95r48:LO:=[oMv 141 19,oMv 142 3,oBi 143 .sub 141 142,oMv 20 143]
def c95r49:LO:=[oMv 144 18,oMv 21 144]
def c95r50:LO:=[oMv 145 1,oMv 20 145]
def c95r51:LO:=[oMv 146 2,oMv 21 146]
def c95k52:ACode:=.cond (.t 140) (.seq (rT c95r48 [0,1,2,3,4,18,19,20]) (rT c95r49 [0,1,2,3,4,18,19,20,21])) (.seq (rT c95r50 [0,1,2,3,4,18,19,20]) (rT c95r51 [0,1,2,3,4,18,19,20,21]))
def c95r53:LO:=[oMv 147 19,oBc 148 .sub 147 1,oMv 22 148]
def c95r54:LO:=[oMv 149 20,oMv 150 21,oBi 151 .lss 149 150]
def c95k55:ACode:=kEx 151 8
def c95r56:LO:=[oMv 152 20,oMv 153 21,oBi 154 .add 152 153,oUn 155 (.conv .u64) 154,oP 156 (.bin .shr) [.t 155,.c (.pv none (.int .u64 1))],oUn 157 (.conv .i64) 156,oMv 23 157]
def c95r57:LO:=[oMv 158 4,oMv 159 0,oMv 160 22,oMv 161 23,oBi 162 .sub 160 161,oIa 163 159 162,oLf 164 163,oMv 165 0,oMv 166 23,oIa 167 165 166,oLf 168 167,oP 169 .call [.t 158,.t 164,.t 168],oBc 170 .lss 169 0,oUn 171 .not 170]
def c95r58:LO:=[oMv 172 23,oBc 173 .add 172 1,oMv 20 173]
def c95r59:LO:=[oMv 174 23,oMv 21 174]
def c95k60:ACode:=.cond (.t 171) (rT c95r58 [0,1,2,3,4,18,19,20,21,22]) (rT c95r59 [0,1,2,3,4,18,19,20,21,22])
def c95k61:ACode:=.block 9 (.seq (rT c95r56 [0,1,2,3,4,18,19,20,21,22,23]) (.seq (rT c95r57 [0,1,2,3,4,18,19,20,21,22,23,171]) c95k60))
def c95b62:ACode:=.seq (.seq (rT c95r54 [0,1,2,3,4,18,19,20,21,22,151]) c95k55) c95k61
def c95k63:ACode:=.block 8 (.loop [0,1,2,3,4,18,19,20,21,22] c95b62)
def c95r64:LO:=[oMv 175 19,oMv 176 20,oBi 177 .sub 175 176,oMv 24 177]
def c95r65:LO:=[oMv 178 20,oMv 179 2,oBi 180 .lss 178 179,oMv 181 180,oG 182 .mv [.t 2] 181 true,oG 183 .mv [.t 24] 181 true,oG 184 (.bin .lss) [.t 182,.t 183] 181 true,oP 185 .pick [.t 181,.t 184,cBo false]]
def c95r66:LO:=[oMv 186 0,oMv 187 20,oMv 188 2,oMv 189 24,oMv 190 4,oCl 191 98 [.t 186,.t 187,.t 188,.t 189,.t 190]]
def c95k67:ACode:=.cond (.t 185) (rT c95r66 [0,1,3,4,18,20,24]) .skip
def c95r68:LO:=[oMv 192 1,oMv 193 20,oBi 194 .lss 192 193,oMv 195 194,oG 196 .mv [.t 20] 195 true,oG 197 .mv [.t 18] 195 true,oG 198 (.bin .lss) [.t 196,.t 197] 195 true,oP 199 .pick [.t 195,.t 198,cBo false]]
def c95r69:LO:=[oMv 200 0,oMv 201 1,oMv 202 20,oMv 203 18,oMv 204 4,oCl 205 95 [.t 200,.t 201,.t 202,.t 203,.t 204]]
def c95k70:ACode:=.cond (.t 199) (rT c95r69 [0,3,4,18,24]) .skip
def c95r71:LO:=[oMv 206 18,oMv 207 24,oBi 208 .lss 206 207,oMv 209 208,oG 210 .mv [.t 24] 209 true,oG 211 .mv [.t 3] 209 true,oG 212 (.bin .lss) [.t 210,.t 211] 209 true,oP 213 .pick [.t 209,.t 212,cBo false]]
def c95r72:LO:=[oMv 214 0,oMv 215 18,oMv 216 24,oMv 217 3,oMv 218 4,oCl 219 95 [.t 214,.t 215,.t 216,.t 217,.t 218]]
def c95k73:ACode:=.cond (.t 213) (rT c95r72 []) .skip
def c95:ACode:=.seq (.seq (rT c95r0 [0,1,2,3,4,28]) c95k21) (.seq (.seq (rT c95r22 [0,1,2,3,4,80]) c95k43) (.seq (rT c95r44 [0,1,2,3,4,18]) (.seq (rT c95r45 [0,1,2,3,4,18,19]) (.seq (rT c95r46 [0,1,2,3,4,18,19]) (.seq (.seq (rT c95r47 [0,1,2,3,4,18,19,140]) c95k52) (.seq (rT c95r53 [0,1,2,3,4,18,19,20,21,22]) (.seq c95k63 (.seq (rT c95r64 [0,1,2,3,4,18,20,24]) (.seq (.seq (rT c95r65 [0,1,2,3,4,18,20,24,185]) c95k67) (.seq (.seq (rT c95r68 [0,1,3,4,18,20,24,199]) c95k70) (.seq (rT c95r71 [0,3,4,18,24,213]) c95k73)))))))))))
def g95:AFn:=⟨5,[],c95,true,[],[],none⟩
theorem tr95:trFn Try.prog true 95 Try.f95=some g95:=by kernel_rfl
def c96r0:LO:=[oBx 5 2]
def c96r1:LO:=[oMv 8 0,oUn 9 .nilcheck 8,oFa 10 0 9,oLo 11 10,oMv 12 1,oLf 13 5,oP 14 (.mkmap none) [],oCl 15 99 [.t 11,.t 12,.t 13,.t 14]]
def c96r2:LO:=[oP 16 (.build [(none,(.pv none (.int .i64 0)))] [0]) [cIn 9],oUn 17 (.mkiface 89) 16,⟨none,.panic,[.t 17],none⟩]
def c96k3:ACode:=.cond (.t 15) (rT c96r2 [0,1,5]) .skip
def c96r4:LO:=[oMv 19 0,oUn 20 .nilcheck 19,oFa 21 0 20,oLo 22 21,oMv 23 1,oCl 24 97 [.t 22,.t 23],oMv 18 24,oEx 25 0 18,oEx 26 1 18,oMv 6 25,oMv 7 26]
def c96r5:LO:=[oMv 27 0,oMv 28 0,oUn 29 .nilcheck 28,oFa 30 0 29,oLo 31 30,oMv 32 6,oMv 33 1,oLf 34 5,oP 35 (.calln 1) [.t 30,cFn 29,.t 34],oP 36 (.build [(none,(.pv none (.int .i64 0))),((some 4),(.agg [(none,(.pv none (.int .i64 0))),(none,(.pv none (.int .i64 0))),(none,(.pv none (.str []))),(none,(.tsl (some 4) []))]))] [0,1]) [.t 33,.t 35],
 oP 37 (.bslicen (some 5) 1) [.t 30,.t 36],oCl 38 100 [.t 31,.t 32,.t 37],oUn 39 .nilcheck 27,oFa 40 0 39,oSo 40 38]
def c96:ACode:=.seq (rT c96r0 [0,1,5]) (.seq (.seq (rT c96r1 [0,1,5,15]) c96k3) (.seq (rT c96r4 [0,1,5,6]) (.region false c96r5 [])))
def g96:AFn:=⟨3,[],c96,true,[],[],none⟩
theorem tr96:trFn Try.prog true 96 Try.f96=some g96:=by kernel_rfl
def c97r0:LO:=[oP 4 .mv [cIn 0],oP 5 .mv [cBo false]]
def c97r1:LO:=[oMv 6 0,oMv 7 1,oCl 8 101 [.t 6,.t 7,cFn 102],oEx 9 0 8,oEx 10 1 8,oMv 4 9,oMv 5 10]
def c97:ACode:=.seq (rT c97r0 [0,1]) (.seq (rT c97r1 [4,5]) .ret)
def g97:AFn:=⟨2,[(4,none),(5,none)],c97,false,[],[],none⟩
theorem tr97:trFn Try.prog false 97 Try.f97=some g97:=by kernel_rfl
def c98r0:LO:=[oMv 12 2,oMv 13 1,oBi 14 .sub 12 13,oMv 10 14]
def c98r1:LO:=[oMv 15 3,oMv 16 2,oBi 17 .sub 15 16,oMv 11 17]
def c98r2:LO:=[oMv 18 10,oMv 19 11,oBi 20 .neq 18 19]
def c98k3:ACode:=kEx 20 0
def c98r4:LO:=[oMv 21 10,oMv 22 11,oBi 23 .gtr 21 22]
def c98r5:LO:=[oMv 24 0,oMv 25 2,oMv 26 10,oBi 27 .sub 25 26,oMv 28 2,oMv 29 11,oMv 30 4,oCl 31 103 [.t 24,.t 27,.t 28,.t 29,.t 30]]
def c98r6:LO:=[oMv 32 10,oMv 33 11,oBi 34 .sub 32 33,oMv 10 34]
def c98r7:LO:=[oMv 35 0,oMv 36 2,oMv 37 10,oBi 38 .sub 36 37,oMv 39 2,oMv 40 11,oBi 41 .add 39 40,oMv 42 10,oBi 43 .sub 41 42,oMv 44 10,oMv 45 4,oCl 46 103 [.t 35,.t 38,.t 43,.t 44,.t 45]]
def c98r8:LO:=[oMv 47 11,oMv 48 10,oBi 49 .sub 47 48,oMv 11 49]
def c98k9:ACode:=.cond (.t 23) (.seq (rT c98r5 [0,2,4,10,11]) (rT c98r6 [0,2,4,10,11])) (.seq (rT c98r7 [0,2,4,10,11]) (rT c98r8 [0,2,4,10,11]))
def c98k10:ACode:=.block 1 (.seq (rT c98r4 [0,2,4,10,11,23]) c98k9)
def c98b11:ACode:=.seq (.seq (rT c98r2 [0,2,4,10,11,20]) c98k3) c98k10
def c98k12:ACode:=.block 0 (.loop [0,2,4,10,11] c98b11)
def c98r13:LO:=[oMv 50 0,oMv 51 2,oMv 52 10,oBi 53 .sub 51 52,oMv 54 2,oMv 55 10,oMv 56 4,oCl 57 103 [.t 50,.t 53,.t 54,.t 55,.t 56]]
def c98:ACode:=.seq (rT c98r0 [0,2,3,4,10]) (.seq (rT c98r1 [0,2,4,10,11]) (.seq c98k12 (rT c98r13 [])))
def g98:AFn:=⟨5,[],c98,true,[],[],none⟩
theorem tr98:trFn Try.prog true 98 Try.f98=some g98:=by kernel_rfl
def c99r0:LO:=[oBx 6 2,oP 8 .mv [cBo false]]
def c99r1:LO:=[oFa 13 0 6,oLo 14 13,oBc 15 .eql 14 0]
def c99r2:LO:=[oMv 17 0,oLf 18 6,oCl 19 93 [.t 17,.t 18],oMv 16 19,oEx 20 0 16,oEx 21 1 16,oP 9 aZ [],oSf 9 20,oMv 10 21]
def c99r3:LO:=[oMv 22 10,oUn 23 .not 22]
def c99r4:LO:=[oFa 24 1 6,oLo 25 24,oMv 26 1,oBi 27 .eql 25 26,oMv 8 27]
def c99k5:ACode:=kRt 23 c99r4 [8]
def c99r6:LO:=[oMv 28 3,oFa 29 1 6,oLo 30 29,oP 31 (.lookup false none (.pv none (.int .i64 0)) false) [.t 28,.t 30],oBc 32 .add 31 1,⟨none,(.mapset false none),[.t 28,.t 30,.t 32],none⟩]
def c99r7:LO:=[oMv 33 3,oFa 34 1 6,oLo 35 34,oP 36 (.lookup false none (.pv none (.int .i64 0)) false) [.t 33,.t 35],oBc 37 .eql 36 1,oMv 38 37,oG 39 .mv [.t 0] 38 true,oG 40 .mv [.t 1] 38 true,oG 41 (.load (some 4)) [.t 9] 38 true,
 oG 42 .mv [.t 3] 38 true,oG 43 .call [cFn 99,.t 39,.t 40,.t 41,.t 42] 38 true,oP 44 .pick [.t 38,.t 43,cBo false],oMv 8 44]
def c99k8:ACode:=.cond (.t 15) (.seq (rT c99r2 [0,1,3,6,9,10]) (.seq (.seq (rT c99r3 [0,1,3,6,9,23]) c99k5) (.seq (rT c99r6 [0,1,3,6,9]) (.seq (rT c99r7 [8]) .ret)))) .skip
def c99r9:LO:=[oFa 45 3 6,oLo 46 45,oUn 47 .len 46,oP 48 .mv [cIn 0]]
def c99r10:LO:=[oBi 49 .lss 48 47]
def c99k11:ACode:=kEx 49 0
def c99r12:LO:=[oIa 50 46 48,oLf 51 50,oP 12 aZ [],oSf 12 51]
def c99r13:LO:=[oMv 52 0,oMv 53 1,oLf 54 12,oMv 55 3,oCl 56 99 [.t 52,.t 53,.t 54,.t 55]]
def c99r14:LO:=[oP 8 .mv [cBo true]]
def c99k15:ACode:=kRt 56 c99r14 [8]
def c99k16:ACode:=.block 1 (.seq (rT c99r12 [0,1,3,12,46,47,48]) (.seq (rT c99r13 [0,1,3,46,47,48,56]) c99k15))
def c99r17:LO:=[oBc 57 .add 48 1,oMv 48 57]
def c99b18:ACode:=.seq (rT c99r10 [0,1,3,46,47,48,49]) (.seq c99k11 (.seq c99k16 (rT c99r17 [0,1,3,46,47,48])))
def c99k19:ACode:=.block 0 (.loop [0,1,3,46,47,48] c99b18)
def c99r20:LO:=[oP 8 .mv [cBo false]]
def c99:ACode:=.seq (rT c99r0 [0,1,3,6]) (.seq (.seq (rT c99r1 [0,1,3,6,15]) c99k8) (.seq (.seq (rT c99r9 [0,1,3,46,47,48]) c99k19) (.seq (rT c99r20 [8]) .ret)))
def g99:AFn:=⟨4,[(8,none)],c99,true,[],[],none⟩
theorem tr99:trFn Try.prog true 99 Try.f99=some g99:=by kernel_rfl
def c101r0:LO:=[oP 6 .mv [cIn 0],oP 7 .mv [cBo false]]
def c101r1:LO:=[oMv 12 0,oUn 13 .len 12,oMv 8 13]
def c101r2:LO:=[oMv 14 8,oP 9 .mv [cIn 0],oMv 10 14]
def c101r3:LO:=[oMv 15 9,oMv 16 10,oBi 17 .lss 15 16]
def c101k4:ACode:=kEx 17 0
def c101r5:LO:=[oMv 18 9,oMv 19 10,oBi 20 .add 18 19,oUn 21 (.conv .u64) 20,oP 22 (.bin .shr) [.t 21,.c (.pv none (.int .u64 1))],oUn 23 (.conv .i64) 22,oMv 11 23]
def c101r6:LO:=[oMv 24 2,oMv 25 0,oMv 26 11,oP 27 (.iaddr (some 5)) [.t 25,.t 26],oUn 28 (.load (some 5)) 27,oMv 29 1,oP 30 .call [.t 24,.t 28,.t 29],oBc 31 .lss 30 0]
def c101r7:LO:=[oMv 32 11,oBc 33 .add 32 1,oMv 9 33]
def c101r8:LO:=[oMv 34 11,oMv 10 34]
def c101k9:ACode:=.cond (.t 31) (rT c101r7 [0,1,2,8,9,10]) (rT c101r8 [0,1,2,8,9,10])
def c101k10:ACode:=.block 1 (.seq (rT c101r5 [0,1,2,8,9,10,11]) (.seq (rT c101r6 [0,1,2,8,9,10,11,31]) c101k9))
def c101b11:ACode:=.seq (.seq (rT c101r3 [0,1,2,8,9,10,17]) c101k4) c101k10
def c101k12:ACode:=.block 0 (.loop [0,1,2,8,9,10] c101b11)
def c101r13:LO:=[oMv 35 9,oMv 36 9,oMv 37 8,oBi 38 .lss 36 37,oMv 39 38,oG 40 .mv [.t 2] 39 true,oG 41 .mv [.t 0] 39 true,oG 42 .mv [.t 9] 39 true,oG 43 (.iaddr (some 5)) [.t 41,.t 42] 39 true,oG 44 (.load (some 5)) [.t 43] 39 true,
 oG 45 .mv [.t 1] 39 true,oG 46 .call [.t 40,.t 44,.t 45] 39 true,oG 47 (.bin .eql) [.t 46,cIn 0] 39 true,oP 48 .pick [.t 39,.t 47,cBo false],oMv 6 35,oMv 7 48]
def c101:ACode:=.seq (rT c101r0 [0,1,2]) (.seq (rT c101r1 [0,1,2,8]) (.seq (rT c101r2 [0,1,2,8,9,10]) (.seq c101k12 (.seq (rT c101r13 [6,7]) .ret))))
def g101:AFn:=⟨3,[(6,none),(7,none)],c101,false,[],[],none⟩
theorem tr101:trFn Try.prog false 101 Try.f101=some g101:=by kernel_rfl
def c102r0:LO:=[oUn 2 (.box (some 5)) 0,oP 4 .mv [cIn 0]]
def c102r1:LO:=[oFa 5 0 2,oLo 6 5,oMv 7 1,oCl 8 66 [.t 6,.t 7],oMv 4 8]
def c102:ACode:=.seq (rT c102r0 [1,2]) (.seq (rT c102r1 [4]) .ret)
def g102:AFn:=⟨2,[(4,none)],c102,false,[],[],none⟩
theorem tr102:trFn Try.prog false 102 Try.f102=some g102:=by kernel_rfl
def c103r0:LO:=[oP 10 .mv [cIn 0]]
def c103r1:LO:=[oMv 11 10,oMv 12 3,oBi 13 .lss 11 12]
def c103k2:ACode:=kEx 13 0
def c103r3:LO:=[oMv 16 0,oMv 17 1,oMv 18 10,oBi 19 .add 17 18,oMv 20 0,oMv 21 2,oMv 22 10,oBi 23 .add 21 22,oMv 24 0,oMv 25 2,oMv 26 10,oBi 27 .add 25 26,oIa 28 24 27,oLf 29 28,oMv 30 0,oMv 31 1,oMv 32 10,oBi 33 .add 31 32,
 oIa 34 30 33,oLf 35 34,oIa 36 16 19,oSf 36 29,oIa 37 20 23,oSf 37 35]
def c103k4:ACode:=.block 1 (rT c103r3 [0,1,2,3,10])
def c103r5:LO:=[oMv 14 10,oBc 15 .add 14 1,oMv 10 15]
def c103b6:ACode:=.seq (.seq (rT c103r1 [0,1,2,3,10,13]) c103k2) (.seq c103k4 (rT c103r5 [0,1,2,3,10]))
def c103k7:ACode:=.block 0 (.loop [0,1,2,3,10] c103b6)
def c103:ACode:=.seq (rT c103r0 [0,1,2,3,10]) c103k7
def g103:AFn:=⟨5,[],c103,true,[],[],none⟩
theorem tr103:trFn Try.prog true 103 Try.f103=some g103:=by kernel_rfl
def tab:List (Nat × AFn):=[(3,g3),(6,g6),(7,g7),(8,g8),(9,g9),(10,g10),(11,g11),(12,g12),(13,g13),(14,g14),(15,g15),(16,g16),(17,g17),(18,g18),(19,g19),(22,g22),(24,g24),(25,g25),(26,g26),(27,g27),(28,g28),(29,g29),(30,g30),(31,g31),(32,g32),(33,g33),(34,g34),(35,g35),(36,g36),(37,g37),(38,g38),(39,g39),(40,g40),(41,g41),(42,g42),(43,g43),(44,g44),(45,g45),(46,g46),(47,g47),(48,g48),(50,g50),(51,g51),(52,g52),(53,g53),(54,g54),(55,g55),(56,g56),(57,g57),(58,g58),(59,g59),(60,g60),(61,g61),(62,g62),(63,g63),(64,g64),(65,g65),(66,g66),(67,g67),(68,g68),(69,g69),(70,g70),(71,g71),(72,g72),(73,g73),(74,g74),(75,g75),(76,g76),(77,g77),(78,g78),(79,g79),(80,g80),(81,g81),(82,g82),(83,g83),(84,g84),(85,g85),(86,g86),(87,g87),(88,g88),(90,g90),(91,g91),(92,g92),(93,g93),(94,g94),(95,g95),(96,g96),(97,g97),(98,g98),(99,g99),(101,g101),(102,g102),(103,g103)]
theorem zvp:zp2 Try.prog tab:=
 (zaa Try.func3 tr3
 (zaa Try.func6 tr6
 (zaa Try.func7 tr7
 (zaa Try.func8 tr8
 (zaa Try.func9 tr9
 (zaa Try.func10 tr10
 (zaa Try.func11 tr11
 (zaa Try.func12 tr12
 (zaa Try.func13 tr13
 (zaa Try.func14 tr14
 (zaa Try.func15 tr15
 (zaa Try.func16 tr16
 (zaa Try.func17 tr17
 (zaa Try.func18 tr18
 (zaa Try.func19 tr19
 (zaa Try.func22 tr22
 (zaa Try.func24 tr24
 (zaa Try.func25 tr25
 (zaa Try.func26 tr26
 (zaa Try.func27 tr27
 (zaa Try.func28 tr28
 (zaa Try.func29 tr29
 (zaa Try.func30 tr30
 (zaa Try.func31 tr31
 (zaa Try.func32 tr32
 (zaa Try.func33 tr33
 (zaa Try.func34 tr34
 (zaa Try.func35 tr35
 (zaa Try.func36 tr36
 (zaa Try.func37 tr37
 (zaa Try.func38 tr38
 (zaa Try.func39 tr39
 (zaa Try.func40 tr40
 (zaa Try.func41 tr41
 (zaa Try.func42 tr42
 (zaa Try.func43 tr43
 (zaa Try.func44 tr44
 (zaa Try.func45 tr45
 (zaa Try.func46 tr46
 (zaa Try.func47 tr47
 (zaa Try.func48 tr48
 (zaa Try.func50 tr50
 (zaa Try.func51 tr51
 (zaa Try.func52 tr52
 (zaa Try.func53 tr53
 (zaa Try.func54 tr54
 (zaa Try.func55 tr55
 (zaa Try.func56 tr56
 (zaa Try.func57 tr57
 (zaa Try.func58 tr58
 (zaa Try.func59 tr59
 (zaa Try.func60 tr60
 (zaa Try.func61 tr61
 (zaa Try.func62 tr62
 (zaa Try.func63 tr63
 (zaa Try.func64 tr64
 (zaa Try.func65 tr65
 (zaa Try.func66 tr66
 (zaa Try.func67 tr67
 (zaa Try.func68 tr68
 (zaa Try.func69 tr69
 (zaa Try.func70 tr70
 (zaa Try.func71 tr71
 (zaa Try.func72 tr72
 (zaa Try.func73 tr73
 (zaa Try.func74 tr74
 (zaa Try.func75 tr75
 (zaa Try.func76 tr76
 (zaa Try.func77 tr77
 (zaa Try.func78 tr78
 (zaa Try.func79 tr79
 (zaa Try.func80 tr80
 (zaa Try.func81 tr81
 (zaa Try.func82 tr82
 (zaa Try.func83 tr83
 (zaa Try.func84 tr84
 (zaa Try.func85 tr85
 (zaa Try.func86 tr86
 (zaa Try.func87 tr87
 (zaa Try.func88 tr88
 (zaa Try.func90 tr90
 (zaa Try.func91 tr91
 (zaa Try.func92 tr92
 (zaa Try.func93 tr93
 (zaa Try.func94 tr94
 (zaa Try.func95 tr95
 (zaa Try.func96 tr96
 (zaa Try.func97 tr97
 (zaa Try.func98 tr98
 (zaa Try.func99 tr99
 (zaa Try.func101 tr101
 (zaa Try.func102 tr102
 (zaa Try.func103 tr103 zp3)))))))))))))))))))))))))))))))))))))))))))))))))))))))))))))))))))))))))))))))))))))))))))))
attribute [go_sem] c3r0 c3r1 c3r2 c3r3 c3r4 c3k5 c3r6 c3r7 c3k8 c3r9 c3r10 c3k11 c3r12 c3r13 c3k14 c3r15 c3r16 c3r17 c3r18 c3r19 c3k20 c3k21 c3r22 c3b23 c3k24 c3r25 c3 g3 c6r0 c6r1 c6r2 c6k3 c6r4 c6r5 c6k6 c6r7 c6r8 c6r9 c6k10 c6r11 c6r12 c6r13 c6k14 c6r15 c6r16 c6k17 c6r18 c6r19 c6k20 c6r21 c6r22 c6k23 c6r24 c6r25 c6r26 c6r27 c6r28 c6k29 c6r30 c6k31 c6r32 c6b33 c6k35 c6r36 c6b37 c6k38 c6r39 c6 g6 c7r0 c7r1 c7r2 c7k3 c7r4 c7r5 c7 g7 c8r0 c8r1 c8r2 c8k3 c8r4 c8 g8 c10r0 c10r1 c10 g10 c11r0 c11r1 c11r2 c11k3 c11r4 c11r5 c11k6 c11r7 c11r8 c11k9 c11b10 c11k11 c11r12 c11 g11 c12r0 c12r1 c12r2 c12r3 c12k4 c12r5 c12 g12 c13r0 c13r1 c13 g13 c14r0 c14r1 c14r2 c14k3 c14r4 c14r5 c14k6 c14r7 c14r8 c14k9 c14k10 c14r11 c14b12 c14k13 c14r14 c14 g14 c16r0 c16r1 c16 g16 c17r0 c17r1 c17r2 c17k3 c17r4 c17r5 c17r6 c17r7 c17 g17 c18r0 c18r1 c18r2 c18r3 c18r4 c18r5 c18 g18 c19r0 c19r1 c19r2 c19r3 c19k4 c19r5 c19k6 c19r7 c19r8 c19r9 c19r10 c19r11 c19k12 c19r13 c19r14 c19r15 c19r16 c19k17 c19k18 c19r19 c19b20 c19k21 c19r22 c19r23 c19r24 c19k25 c19r26 c19r27 c19k28 c19b29 c19k30 c19r31 c19 g19 c24r0 c24r1 c24 g24 c25r0 c25r1 c25r2 c25r3 c25k4 c25r5 c25r6 c25k7 c25r8 c25r9 c25r10 c25k11 c25r12 c25r13 c25k14 c25k15 c25r16 c25b17 c25k18 c25r19 c25 g25 c26r0 c26r1 c26 g26 c27r0 c27r1 c27 g27 c28r0 c28r1 c28r2 c28r3 c28k4 c28r5 c28k6 c28r7 c28b8 c28k9 c28r10 c28 g28 c29r0 c29r1 c29r2 c29k3 c29r4 c29 g29 c30r0 c30r1 c30r2 c30k3 c30r4 c30r5 c30r6 c30k7 c30r8 c30r9 c30k10 c30r11 c30b12 c30k13 c30r14 c30 g30 c31r0 c31r1 c31r2 c31r3 c31r4 c31k5 c31r6 c31 g31 c32r0 c32r1 c32 g32 c36r0 c36r1 c36 g36 c37r0 c37r1 c37r2 c37k3 c37r4 c37 g37 c38r0 c38r1 c38r2 c38k3 c38r4 c38r5 c38k6 c38r7 c38r8 c38r9 c38r10 c38k11 c38r12 c38r13 c38r14 c38k15 c38k16 c38r17 c38k19 c38r20 c38r21 c38k22 c38k23 c38r24 c38b25 c38k26 c38r27 c38 g38 c39r0 c39r1 c39 g39 c40r0 c40r1 c40r2 c40r3 c40r4 c40k5 c40r6 c40r7 c40k8 c40r9 c40r10 c40r11 c40k12 c40r13 c40r14 c40r15 c40k16 c40r17 c40r18 c40k19 c40r20 c40r21 c40r22 c40r23 c40k24 c40k25 c40r26 c40k28 c40r29 c40 g40 c41r0 c41r1 c41r2 c41k3 c41r4 c41r5 c41k6 c41r7 c41r8 c41r9 c41k10 c41k11 c41r12 c41k14 c41r15 c41 g41 c42r0 c42r1 c42r2 c42r3 c42r4 c42r5 c42r6 c42r7 c42r8 c42r9 c42r10 c42k11 c42k12 c42k13 c42k14 c42r16 c42r17 c42k18 c42r19 c42k20 c42r21 c42b22 c42k23 c42r24 c42 g42 c43r0 c43r1 c43r2 c43r3 c43k4 c43r5 c43 g43 c44r0 c44r1 c44r2 c44r3 c44k4 c44r5 c44k6 c44r7 c44b8 c44k9 c44 g44 c45r0 c45r1 c45r2 c45k3 c45r4 c45r5 c45k6 c45r7 c45r8 c45r9 c45k10 c45k11 c45r12 c45b13 c45k14 c45r15 c45 g45 c46r0 c46r1 c46 g46 c47r0 c47r1 c47 g47 c48r0 c48r1 c48r2 c48r3 c48r4 c48r5 c48k6 c48r7 c48r8 c48r9 c48k10 c48r11 c48r12 c48r13 c48k14 c48r15 c48k16 c48r17 c48b18 c48k19 c48r20 c48r21 c48r22 c48k23 c48r24 c48r25 c48r26 c48k27 c48r28 c48r29 c48r30 c48r31 c48k32 c48r33 c48k34 c48r35 c48b36 c48k37 c48r38 c48r39 c48r40 c48k41 c48r42 c48 g48 c52r0 c52r1 c52r2 c52k3 c52r4 c52r5 c52r6 c52r7 c52k8 c52k9 c52k10 c52b11 c52k12 c52r13 c52r14 c52r15 c52r16 c52k17 c52k18 c52k19 c52r20 c52 g52 c53r0 c53r1 c53 g53 c54r0 c54r1 c54 g54 c55r0 c55r1 c55 g55 c56r0 c56r1 c56 g56 c57r0 c57r1 c57r2 c57 g57 c58r0 c58r1 c58 g58 c61r0 c61r1 c61 g61 c62r0 c62r1 c62r2 c62k3 c62r4 c62r5 c62k6 c62r7 c62r8 c62k9 c62k10 c62r11 c62k13 c62r14 c62 g62 c63r0 c63r1 c63r2 c63k3 c63r4 c63r5 c63r6 c63k7 c63k8 c63r9 c63b10 c63k11 c63r12 c63 g63 c64r0 c64r1 c64r2 c64r3 c64k4 c64r5 c64r6 c64k7 c64r8 c64b9 c64k10 c64r11 c64r12 c64 g64 c65r0 c65r1 c65r2 c65r3 c65r4 c65r5 c65k6 c65r7 c65k8 c65r9 c65r10 c65k11 c65r12 c65r13 c65k14 c65r15 c65r16 c65k17 c65r18 c65 g65 c66r0 c66r1 c66r2 c66r3 c66r4 c66r5 c66k6 c66r7 c66k8 c66r9 c66r10 c66k11 c66r12 c66r13 c66k14 c66r15 c66r16 c66k17 c66r18 c66 g66 c67r0 c67r1 c67 g67 c68r0 c68r1 c68 g68 c69r0 c69r1 c69r2 c69k3 c69r4 c69r5 c69r6 c69r7 c69p8 c69 g69 c70r0 c70r1 c70r2 c70k3 c70r4 c70r5 c70k6 c70r7 c70 g70 c72r0 c72r1 c72 g72 c73r0 c73r1 c73r2 c73k3 c73r4 c73r5 c73r6 c73k7 c73r8 c73r9 c73r10 c73k11 c73r12 c73k13 c73r14 c73b15 c73k16 c73r17 c73r18 c73k19 c73r20 c73 g73 c74r0 c74r1 c74 g74 c75r0 c75r1 c75r2 c75k3 c75r4 c75r5 c75k6 c75r7 c75r8 c75k9 c75k10 c75r11 c75b12 c75k13 c75r14 c75 g75 c76r0 c76 g76 c77r0 c77r1 c77 g77 c78r0 c78r1 c78 g78 c79r0 c79r1 c79 g79 c80r0 c80r1 c80r2 c80k3 c80r4 c80r5 c80r6 c80k7 c80k8 c80r9 c80k11 c80r12 c80r13 c80r14 c80k15 c80r16 c80r17 c80r18 c80k19 c80k20 c80r21 c80r24 c80 g80 c81r0 c81r1 c81r2 c81r3 c81r4 c81r5 c81k6 c81k7 c81 g81 c82r0 c82r1 c82r2 c82r3 c82k4 c82r5 c82r6 c82k7 c82r8 c82b9 c82k10 c82r11 c82 g82 c83r0 c83r1 c83r2 c83r3 c83k4 c83r5 c83r6 c83k7 c83r8 c83r9 c83r10 c83r11 c83r12 c83r13 c83k14 c83r15 c83k16 c83r17 c83b18 c83k19 c83k20 c83k21 c83r22 c83b23 c83k24 c83 g83 c84r0 c84r1 c84r2 c84r3 c84r4 c84k5 c84r6 c84k7 c84r8 c84r9 c84r10 c84k11 c84r12 c84r13 c84k14 c84r15 c84k17 c84r18 c84 g84 c85r0 c85r1 c85r2 c85r3 c85k4 c85r5 c85r6 c85r7 c85k8 c85r9 c85r10 c85k11 c85r12 c85k14 c85r15 c85 g85 c86r0 c86r1 c86r2 c86r3 c86k4 c86r5 c86k6 c86r7 c86b8 c86k9 c86r10 c86 g86 c87r0 c87r1 c87r2 c87r3 c87r4 c87r5 c87r6 c87r7 c87r8 c87r9 c87k10 c87k11 c87k12 c87k13 c87k14 c87r15 c87 g87 c88r0 c88r1 c88r2 c88k3 c88r4 c88r5 c88r6 c88k7 c88b8 c88k9 c88r10 c88r11 c88k12 c88r13 c88r14 c88k15 c88r16 c88r17 c88r18 c88k19 c88b20 c88k21 c88r22 c88r23 c88r24 c88k25 c88r26 c88k27 c88b28 c88k29 c88 g88 c90r0 c90r1 c90r2 c90k3 c90r4 c90r5 c90r6 c90k7 c90r8 c90r9 c90r10 c90k11 c90r12 c90r13 c90r14 c90k15 c90k16 c90r17 c90k19 c90r20 c90r21 c90 g90 c91r0 c91r1 c91r2 c91r3 c91k4 c91r5 c91k6 c91b7 c91k8 c91 g91 c92r0 c92r1 c92r2 c92r3 c92k4 c92r5 c92r6 c92r7 c92r8 c92r9 c92r10 c92r11 c92k12 c92k13 c92k14 c92k15 c92k16 c92r17 c92 g92 c93r0 c93r1 c93r2 c93k3 c93r4 c93r5 c93r6 c93k7 c93r8 c93 g93 c94r0 c94r1 c94k2 c94r3 c94r4 c94k5 c94r6 c94k7 c94r8 c94k10 c94k11 c94r12 c94b13 c94k14 c94 g94 c95r0 c95r1 c95r2 c95r3 c95k4 c95r5 c95r6 c95r7 c95r8 c95k9 c95k10 c95k12 c95r13 c95r14 c95k15 c95r16 c95k17 c95r18 c95k20 c95k21 c95r22 c95r23 c95r24 c95r25 c95k26 c95r27 c95r28 c95r29 c95r30 c95k31 c95k32 c95k34 c95r35 c95r36 c95k37 c95r38 c95k39 c95r40 c95k42 c95k43 c95r44 c95r45 c95r46 c95r47 c95r48 c95r49 c95r50 c95r51 c95k52 c95r53 c95r54 c95k55 c95r56 c95r57 c95r58 c95r59 c95k60 c95k61 c95k63 c95r66 c95r69 c95r72 c95 g95 c96r0 c96r1 c96r2 c96k3 c96r4 c96r5 c96 g96 c97r0 c97r1 c97 g97 c98r0 c98r1 c98r2 c98k3 c98r4 c98r5 c98r6 c98r7 c98r8 c98k9 c98k10 c98b11 c98k12 c98r13 c98 g98 c99r0 c99r1 c99r2 c99r3 c99r4 c99k5 c99r6 c99r7 c99k8 c99r9 c99r10 c99k11 c99r12 c99r13 c99r14 c99k15 c99k16 c99r17 c99k19 c99r20 c99 g99 c101r0 c101r1 c101r2 c101r3 c101k4 c101r5 c101r6 c101r7 c101r8 c101k9 c101k10 c101b11 c101k12 c101r13 c101 g101 c102r0 c102r1 c102 g102 c103r0 c103r1 c103k2 c103r3 c103k4 c103r5 c103b6 c103k7 c103 g103
end Go.Proofs.Ytffecaafklpmhaa
