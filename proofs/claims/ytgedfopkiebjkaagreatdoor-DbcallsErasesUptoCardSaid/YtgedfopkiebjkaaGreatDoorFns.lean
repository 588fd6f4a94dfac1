/- The functions azs the abstract machine has them,each proved to be what the translation gives. -/
import Derived.Test.YtgedfopkiebjkaaGreatDoorAm4
import Derived.Test.YtgedfopkiebjkaaGreatDoorProg
import Derived.KernelRfl
namespace Go.Proofs.YtgedfopkiebjkaaGreatDoor
open Go.Am
abbrev P4(x:Int):AV:=.pv none (.int .i64 x)
abbrev P5(x:Bool):AV:=.pv none (.bool x)
abbrev P6(x:List UInt8):AV:=.pv none (.str x)
abbrev A0:List (Sh×AV):=[(none,.pv none (.int .i64 0)),(none,.pv none (.int .i64 0)),(none,.pv none (.str [])),(none,.tsl (some 4) [])]
abbrev A1:List (Sh×AV):=[(none,.pv none (.int .i64 0)),(none,.nilv (some 4))]
abbrev A2:List (Sh×AV):=[(none,.pv none (.str [])),(none,.pv none (.int .i64 0)),(none,.pv none (.bool false)),(none,.tsl (some 9) [])]
abbrev A3:List (Sh×AV):=[(none,.nilv (some 4))]
abbrev A4:List (Sh×AV):=[(none,.pv none (.int .i64 0)),(some 4,.agg A0)]
abbrev A5:List (Sh×AV):=[(none,.pv none (.int .i64 0))]
abbrev A6:List (Sh×AV):=[(some 4,.agg A0),(some 4,.agg A0)]
abbrev A7:List (Sh×AV):=[(some 2,.agg A1),(some 4,.agg A0),(none,.tsl (some 4) [])]
abbrev A8:List (Sh×AV):=[(none,.pv none (.str [])),(none,.pv none (.int .i64 0))]
def oP(d:Nat)(p:AOp)(l:List AArg):AOper:=⟨some d,p,l,none⟩
def aZ:AOp:=.alloc (some 4) (.agg A0)
def bZ(l:List Nat):AOp:=.build A0 l
def oMv(d s:Nat):AOper:=⟨some d,.mv,[.t s],none⟩
def oLf(d s:Nat):AOper:=⟨some d,.load (some 4),[.t s],none⟩
def oLo(d s:Nat):AOper:=⟨some d,.load none,[.t s],none⟩
def oFa(d k s:Nat):AOper:=⟨some d,.faddr k,[.t s],none⟩
def oSf(r s:Nat):AOper:=⟨none,.store (some 4),[.t r,.t s],none⟩
def oSo(r s:Nat):AOper:=⟨none,.store none,[.t r,.t s],none⟩
def oUn(d:Nat)(p:AOp)(s:Nat):AOper:=⟨some d,p,[.t s],none⟩
def oBi(d:Nat)(p:BinOp)(a b:Nat):AOper:=⟨some d,.bin p,[.t a,.t b],none⟩
def oIa(d a b:Nat):AOper:=⟨some d,.iaddr (some 4),[.t a,.t b],none⟩
def oBx(d s:Nat):AOper:=⟨some d,.box (some 4),[.t s],none⟩
def oEx(d k s:Nat):AOper:=⟨some d,.extract k,[.t s],none⟩
def kRt(c:Nat)(r:List AOper)(l:List Nat):ACode:=.cond (.t c) (.seq (.region true r l) .ret) .skip
def kEx(c k:Nat):ACode:=.cond (.t c) .skip (.exit k)
def rT(r:List AOper)(l:List Nat):ACode:=.region true r l
def oG(d:Nat)(p:AOp)(l:List AArg)(g:Nat)(b:Bool):AOper:=⟨some d,p,l,some (g,b)⟩
def oCl(d f:Nat)(l:List AArg):AOper:=⟨some d,.call,.c (.pv none (.func (.func f)))::l,none⟩
def oBc(d:Nat)(p:BinOp)(a:Nat)(n:Int):AOper:=⟨some d,.bin p,[.t a,.c (.pv none (.int .i64 n))],none⟩
def cSt(l:List UInt8):AArg:=.c (.pv none (.str l))
def cIn(n:Int):AArg:=.c (.pv none (.int .i64 n))
def cFn(n:Nat):AArg:=.c (.pv none (.func (.func n)))
def cBo(b:Bool):AArg:=.c (.pv none (.bool b))
abbrev LO:=List AOper
attribute [go_sem] oBc cSt oG oCl oUn oBi oIa oBx oEx kRt kEx rT oP aZ bZ oMv oLf oLo oFa oSf oSo cIn cFn cBo
def c4:ACode:=.seq (rT [oUn 3 (.box (some 2)) 0,oP 6 .mv [cBo false]] [1,2,3]) (.seq (.seq (rT [oUn 25 (.load (some 2)) 3,oCl 26 7 [.t 25],oUn 27 .not 26,oMv 28 27,oG 29 (.faddr 1) [.t 3] 28 false,oG 30 (.load none) [.t 29] 28 false,oG 31 .len [.t 30] 28 false,
 oG 32 (.bin .eql) [.t 31,cIn 0] 28 false,oP 33 .pick [.t 28,cBo true,.t 32]] [1,2,3,33]) (kRt 33 [oCl 34 9 [],oMv 6 34] [6])) (.seq (rT [oFa 35 1 3,oLo 36 35,oMv 37 1,oUn 38 (.conv .i64) 37,oFa 39 1 3,oLo 40 39,oUn 41 .len 40,oBi 42 .rem 38 41,
 oIa 43 36 42,oLf 44 43,oP 7 (.alloc (some 4) (.agg A2)) [],oSf 7 44] [2,3,7]) (.seq (rT [oFa 46 0 7,oLo 47 46,oFa 48 1 7,oLo 49 48,
 oCl 50 20 [.t 47,.t 49],oMv 45 50,oEx 51 0 45,oEx 52 1 45,oP 8 aZ [],oSf 8 51,oMv 9 52] [2,3,7,8,9]) (.seq (.seq (.settle [8,9]) (rT [oLf 53 8,oMv 54 9,oP 55 .callp [cFn 21,.t 54],oMv 56 9,oBc 57 .add 56 1,oP 58 .callp [cFn 21,.t 57],oP 59 (.bslicep (some 4)) [.t 53,
 .t 55,.t 58],oP 60 .callp [cFn 6,cSt [36,99,108,97,117,115,101],.t 59],oP 10 aZ [],oSf 10 60] [2,3,7,10])) (.seq (rT [oUn 62 (.load (some 2)) 3,oLf 63 10,oCl 64 11 [.t 62,.t 63],oMv 61 64,oEx 65 0 61,oEx 66 1 61,oEx 67 2 61,oEx 68 3 61,oP 11 (.alloc (some 2) (.agg [(none,
 (.pv none (.int .i64 0))),(none,.nilv (some 4))])) [],oP 13 aZ [],⟨none,(.store (some 2)),[.t 11,.t 65],none⟩,oMv 12 66,oSf 13 67,oMv 14 68] [2,3,7,10,12,13,14]) (.seq (.seq (rT [oFa 69 0 7,oLo 70 69,oFa 71 1 7,oLo 72 71,oCl 73 18 [.t 70,.t 72],
 oMv 74 73,oG 75 (.faddr 2) [.t 7] 74 false,oG 76 (.load none) [.t 75] 74 false,oG 77 .not [.t 76] 74 false,oP 78 .pick [.t 74,cBo true,.t 77]] [2,3,7,10,12,13,14,78]) (.cond (.t 78) (.seq (.seq (.settle [13]) (rT [oMv 79 14,oBc 80 .eql 79 8,
 oMv 81 80,oG 82 (.load (some 4)) [.t 13] 81 true,oG 83 .callp [cFn 23,cSt [109,111,100,105,102,121]] 81 true,oG 84 .callp [cFn 23,cSt [115,116,97,116,105,99,95,112,114,111,99,101,100,117,114,101]] 81 true,oG 85 (.faddr 0) [.t 7] 81 true,oG 86 (.load none) [.t 85] 81 true,
 oG 87 .callp [cFn 23,.t 86] 81 true,oG 88 (.faddr 1) [.t 7] 81 true,oG 89 (.load none) [.t 88] 81 true,oG 90 .callp [cFn 24,.t 89] 81 true,oG 91 (.bslicep (some 4)) [.t 87,.t 90] 81 true,oG 92 .callp [cFn 6,cSt [47],.t 91] 81 true,oG 93 (.bslicep (some 4)) [.t 83,
 .t 84,.t 92] 81 true,oG 94 .callp [cFn 6,cSt [112,101,114,109,105,115,115,105,111,110,95,101,114,114,111,114],.t 93] 81 true,oG 95 .callp [cFn 23,cSt [91,93]] 81 true,oG 96 (.bslicep (some 4)) [.t 94,.t 95] 81 true,oG 97 .callp [cFn 6,cSt [101,
 114,114,111,114],.t 96] 81 true,oG 98 .callp [cFn 13,.t 82,.t 97] 81 true,oP 99 .pick [.t 81,.t 98,cBo false],oMv 100 99,oG 101 .callp [cFn 9] 100 true,oP 102 .pick [.t 100,.t 101,cBo false],oMv 6 102] [6])) .ret) .skip)) (.seq (.seq (rT [oMv 103 14,
 oBc 104 .neq 103 0] [2,3,7,10,12,14,104]) (kRt 104 [oMv 105 14,oBc 106 .eql 105 2,oMv 107 106,oG 108 .call [cFn 9] 107 true,oP 109 .pick [.t 107,.t 108,cBo false],oMv 6 109] [6])) (.seq (.seq (rT [oMv 110 12,oUn 111 .len 110,oFa 112 3 7,oLo 113 112,
 oUn 114 .len 113,oBi 115 .neq 111 114] [2,3,7,10,12,115]) (kRt 115 [oP 6 .mv [cBo false]] [6])) (.seq (.seq (rT [oMv 116 12,oUn 117 .len 116,oP 118 .mv [cIn 0]] [2,3,7,10,12,117,118]) (.block 0 (.loop [2,3,7,10,12,117,118] (.seq (rT [oBi 119 .lss 118 117] [2,
 3,7,10,12,117,118,119]) (.seq (kEx 119 0) (.seq (.block 1 (.seq (rT [oMv 120 118,oMv 15 120] [2,3,7,10,12,15,117,118]) (.seq (.seq (.settle []) (rT [oMv 121 12,oMv 122 15,oIa 123 121 122,oFa 124 3 123,oLo 125 124,oUn 126 .len 125,oBc 127 .neq 126 3,
 oMv 128 127,oG 129 .mv [.t 12] 128 false,oG 130 .mv [.t 15] 128 false,oG 131 (.iaddr (some 4)) [.t 129,.t 130] 128 false,oG 132 (.faddr 3) [.t 131] 128 false,oG 133 (.load none) [.t 132] 128 false,oG 134 (.iaddr (some 4)) [.t 133,cIn 2] 128 false,
 oG 135 (.load (some 4)) [.t 134] 128 false,oG 136 (.faddr 3) [.t 7] 128 false,oG 137 (.load none) [.t 136] 128 false,oG 138 .mv [.t 15] 128 false,oG 139 (.iaddr (some 9)) [.t 137,.t 138] 128 false,oG 140 (.faddr 0) [.t 139] 128 false,oG 141 (.load none) [.t 140] 128 false,
 oG 142 .callp [cFn 24,.t 141] 128 false,oG 143 .callp [cFn 13,.t 135,.t 142] 128 false,oG 144 .not [.t 143] 128 false,oP 145 .pick [.t 128,cBo true,.t 144],oMv 146 145,oG 147 .mv [.t 12] 146 false,oG 148 .mv [.t 15] 146 false,oG 149 (.iaddr (some 4)) [.t 147,
 .t 148] 146 false,oG 150 (.faddr 3) [.t 149] 146 false,oG 151 (.load none) [.t 150] 146 false,oG 152 (.iaddr (some 4)) [.t 151,cIn 0] 146 false,oG 153 (.load (some 4)) [.t 152] 146 false,oG 154 .mv [.t 12] 146 false,oG 155 .mv [.t 15] 146 false,
 oG 156 (.iaddr (some 4)) [.t 154,.t 155] 146 false,oG 157 (.faddr 3) [.t 156] 146 false,oG 158 (.load none) [.t 157] 146 false,oG 159 (.iaddr (some 4)) [.t 158,cIn 1] 146 false,oG 160 (.load (some 4)) [.t 159] 146 false,oG 161 (.bslicep (some 4)) [.t 153,
 .t 160] 146 false,oG 162 .callp [cFn 6,cSt [99],.t 161] 146 false,oG 163 (.faddr 3) [.t 7] 146 false,oG 164 (.load none) [.t 163] 146 false,oG 165 .mv [.t 15] 146 false,oG 166 (.iaddr (some 9)) [.t 164,.t 165] 146 false,oG 167 (.faddr 1) [.t 166] 146 false,
 oG 168 (.faddr 0) [.t 167] 146 false,oG 169 (.load (some 4)) [.t 168] 146 false,oG 170 (.faddr 3) [.t 7] 146 false,oG 171 (.load none) [.t 170] 146 false,oG 172 .mv [.t 15] 146 false,oG 173 (.iaddr (some 9)) [.t 171,.t 172] 146 false,oG 174 (.faddr 1) [.t 173] 146 false,
 oG 175 (.faddr 4) [.t 174] 146 false,oG 176 (.load (some 4)) [.t 175] 146 false,oG 177 (.bslicep (some 4)) [.t 169,.t 176] 146 false,oG 178 .callp [cFn 6,cSt [99],.t 177] 146 false,oG 179 .callp [cFn 22,.t 162,.t 178] 146 false,oG 180 .not [.t 179] 146 false,
 oP 181 .pick [.t 146,cBo true,.t 180]] [2,3,7,10,12,117,118,181])) (kRt 181 [oP 6 .mv [cBo false]] [6])))) (rT [oBc 182 .add 118 1,oMv 118 182] [2,3,7,10,12,117,118]))))))) (.seq (.seq (rT [oMv 183 12,oUn 184 .len 183,oBc 185 .eql 184 0] [2,
 3,10,12,185]) (kRt 185 [oCl 186 9 [],oMv 6 186] [6])) (.seq (rT [oMv 187 2,oUn 188 (.conv .i64) 187,oMv 189 12,oUn 190 .len 189,oBi 191 .rem 188 190,oMv 16 191] [3,10,12,16]) (.seq (rT [oMv 192 12,oMv 193 16,oIa 194 192 193,oFa 195 3 194,oLo 196 195,
 oP 197 (.iaddr (some 4)) [.t 196,cIn 2],oLf 198 197,oUn 199 (.bslice (some 4)) 198,oCl 200 6 [cSt [36,101,114,97,115,101],.t 199],oP 17 aZ [],oSf 17 200] [3,10,12,16,17]) (.seq (rT [oUn 202 (.load (some 2)) 3,oLf 203 17,oLf 204 17,oUn 205 (.bslice (some 4)) 204,
 oCl 206 25 [.t 202,.t 203,.t 205],oMv 201 206,oEx 207 0 201,oEx 208 1 201,oP 18 (.alloc (some 2) (.agg A1)) [],⟨none,(.store (some 2)),[.t 18,.t 207],none⟩,oMv 19 208] [10,12,16,17,18,19]) (.seq (.seq (rT [oMv 209 19,
 oUn 210 .not 209,oMv 211 210,oG 212 (.load (some 2)) [.t 18] 211 false,oG 213 .call [cFn 15,.t 212] 211 false,oG 214 .not [.t 213] 211 false,oP 215 .pick [.t 211,cBo true,.t 214]] [10,12,16,17,18,215]) (kRt 215 [oP 6 .mv [cBo false]] [6])) (.seq (rT [oMv 216 12,
 oMv 217 16,oP 218 (.slice (some 4) false true) [.t 216,.t 217],oP 219 (.append (some 4)) [.c (.tsl (some 4) []),.t 218],oMv 220 12,oMv 221 16,oBc 222 .add 221 1,oP 223 (.slice (some 4) true false) [.t 220,.t 222],oP 224 (.append (some 4)) [.t 219,
 .t 223],oMv 20 224] [10,17,18,20]) (.seq (rT [oUn 226 (.load (some 2)) 18,oLf 227 10,oMv 228 20,oCl 229 25 [.t 226,.t 227,.t 228],oMv 225 229,oEx 230 0 225,oEx 231 1 225,oP 21 (.alloc (some 2) (.agg A1)) [],
 ⟨none,(.store (some 2)),[.t 21,.t 230],none⟩,oMv 22 231] [17,18,22]) (.seq (rT [oUn 233 (.load (some 2)) 18,oLf 234 17,oCl 235 25 [.t 233,.t 234,.c (.tsl (some 4) [])],oMv 232 235,oEx 236 0 232,oEx 237 1 232,oP 23 (.alloc (some 2) (.agg [(none,
 (.pv none (.int .i64 0))),(none,.nilv (some 4))])) [],⟨none,(.store (some 2)),[.t 23,.t 236],none⟩,oMv 24 237] [22,24]) (.seq (rT [oMv 238 22,oMv 239 238,oG 240 .mv [.t 24] 239 true,oP 241 .pick [.t 239,.t 240,cBo false],oMv 242 241,oG 243 .call [cFn 9] 242 true,
 oP 244 .pick [.t 242,.t 243,cBo false],oMv 6 244] [6]) .ret))))))))))))))))))
def g4:AFn:=⟨3,[(6,none)],c4,false,[],[],none⟩
theorem tr4:trFn Tryz.prog false 4 Tryz.f4=some g4:=by kernel_rfl
def c6:ACode:=.seq (rT [oP 4 aZ []] [0,1,4]) (.seq (rT [oMv 5 0,oMv 6 1,oP 7 (bZ [0,2,3]) [cIn 3,.t 5,.t 6],oSf 4 7] [4]) .ret)
def g6:AFn:=⟨2,[(4,some (some 4))],c6,true,[],[],none⟩
theorem tr6:trFn Tryz.prog true 6 Tryz.f6=some g6:=by kernel_rfl
def c7:ACode:=.seq (rT [oUn 1 (.box (some 2)) 0,oP 2 .mv [cBo false]] [1]) (.seq (.seq (rT [oFa 9 0 1,oLo 10 9,oBc 11 .lss 10 1,oMv 12 11,oG 13 (.faddr 0) [.t 1] 12 false,oG 14 (.load none) [.t 13] 12 false,oG 15 (.bin .gtr) [.t 14,cIn 4294967296] 12 false,
 oP 16 .pick [.t 12,cBo true,.t 15],oMv 17 16,oG 18 (.faddr 1) [.t 1] 17 false,oG 19 (.load none) [.t 18] 17 false,oG 20 .len [.t 19] 17 false,oG 21 (.bin .gtr) [.t 20,cIn 500] 17 false,oP 22 .pick [.t 17,cBo true,.t 21],oMv 23 22,oG 24 (.load (some 2)) [.t 1] 23 false,
 oG 25 .call [cFn 26,.t 24] 23 false,oG 26 (.bin .gtr) [.t 25,cIn 500] 23 false,oP 27 .pick [.t 23,cBo true,.t 26]] [1,27]) (kRt 27 [oP 2 .mv [cBo false]] [2])) (.seq (rT [oP 3 (.nilsl none) []] [1,3]) (.seq (.seq (rT [oP 4 .mv [cIn 0]] [1,3,
 4]) (.block 0 (.loop [1,3,4] (.seq (.seq (rT [oMv 28 4,oFa 29 1 1,oLo 30 29,oUn 31 .len 30,oBi 32 .lss 28 31] [1,3,4,32]) (kEx 32 0)) (.seq (.block 1 (.seq (rT [oFa 35 1 1,oLo 36 35,oMv 37 4,oIa 38 36 37,oLf 39 38,oP 5 (.alloc (some 4) (.agg [(none,
 (.pv none (.str []))),(none,.pv none (.int .i64 0)),(none,.pv none (.bool false)),(none,.tsl (some 9) [])])) [],oSf 5 39] [1,3,4,5]) (.seq (.seq (rT [oFa 40 0 5,oLo 41 40,oFa 42 1 5,oLo 43 42,oCl 44 27 [.t 41,.t 43],oUn 45 .not 44,oMv 46 45,
 oG 47 .mv [.t 4] 46 false,oG 48 (.bin .gtr) [.t 47,cIn 0] 46 false,oG 49 .mv [.t 48] 46 false,oG 50 (.faddr 1) [.t 1] 49 true,oG 51 (.load none) [.t 50] 49 true,oG 52 .mv [.t 4] 49 true,oG 53 (.bin .sub) [.t 52,cIn 1] 49 true,oG 54 (.iaddr (some 4)) [.t 51,
 .t 53] 49 true,oG 55 (.load (some 4)) [.t 54] 49 true,oG 56 (.load (some 4)) [.t 5] 49 true,oG 57 .call [cFn 28,.t 55,.t 56] 49 true,oG 58 .not [.t 57] 49 true,oG 59 .pick [.t 49,.t 58,cBo false] 46 false,oP 60 .pick [.t 46,cBo true,.t 59]] [1,
 3,4,5,60]) (kRt 60 [oP 2 .mv [cBo false]] [2])) (.seq (rT [oP 6 .mv [cIn 0]] [1,3,4,5,6]) (.block 2 (.loop [1,3,4,5,6] (.seq (.seq (rT [oMv 61 6,oFa 62 3 5,oLo 63 62,oUn 64 .len 63,oBi 65 .lss 61 64] [1,3,4,5,6,65]) (kEx 65 2)) (.seq (.block 3 (.seq (rT [oFa 68 3 5,
 oLo 69 68,oMv 70 6,oP 71 (.iaddr (some 9)) [.t 69,.t 70],oUn 72 (.load (some 9)) 71,oP 7 (.alloc (some 9) (.agg [(none,.pv none (.int .i64 0)),(some 8,.agg [(some 4,.agg [(none,.pv none (.int .i64 0)),(none,.pv none (.int .i64 0)),
 (none,.pv none (.str [])),(none,.tsl (some 4) [])]),(some 4,.agg A0)])])) [],⟨none,(.store (some 9)),[.t 7,.t 72],
 none⟩] [1,3,4,5,6,7]) (.seq (.seq (rT [oFa 73 0 7,oLo 74 73,oBc 75 .lss 74 1,oMv 76 75,oG 77 (.faddr 0) [.t 7] 76 false,oG 78 (.load none) [.t 77] 76 false,oG 79 (.faddr 0) [.t 1] 76 false,oG 80 (.load none) [.t 79] 76 false,oG 81 (.bin .geq) [.t 78,
 .t 80] 76 false,oP 82 .pick [.t 76,cBo true,.t 81],oMv 83 82,oG 84 (.faddr 1) [.t 7] 83 false,oG 85 (.load (some 8)) [.t 84] 83 false,oG 86 .call [cFn 29,.t 85] 83 false,oG 87 .not [.t 86] 83 false,oP 88 .pick [.t 83,cBo true,.t 87],oMv 89 88,
 oG 90 (.faddr 1) [.t 7] 89 false,oG 91 (.faddr 0) [.t 90] 89 false,oG 92 (.faddr 2) [.t 91] 89 false,oG 93 (.load none) [.t 92] 89 false,oG 94 (.faddr 0) [.t 5] 89 false,oG 95 (.load none) [.t 94] 89 false,oG 96 (.bin .neq) [.t 93,.t 95] 89 false,
 oP 97 .pick [.t 89,cBo true,.t 96],oMv 98 97,oG 99 (.faddr 1) [.t 7] 98 false,oG 100 (.faddr 0) [.t 99] 98 false,oG 101 (.faddr 3) [.t 100] 98 false,oG 102 (.load none) [.t 101] 98 false,oG 103 .len [.t 102] 98 false,oG 104 (.faddr 1) [.t 5] 98 false,
 oG 105 (.load none) [.t 104] 98 false,oG 106 (.bin .neq) [.t 103,.t 105] 98 false,oP 107 .pick [.t 98,cBo true,.t 106]] [1,3,4,5,6,7,107]) (kRt 107 [oP 2 .mv [cBo false]] [2])) (.seq (.seq (rT [oP 8 .mv [cIn 0]] [1,3,4,5,6,7,8]) (.block 4 (.loop [1,
 3,4,5,6,7,8] (.seq (.seq (rT [oMv 108 8,oMv 109 3,oUn 110 .len 109,oBi 111 .lss 108 110] [1,3,4,5,6,7,8,111]) (kEx 111 4)) (.seq (.block 5 (.seq (rT [oMv 114 3,oMv 115 8,oP 116 (.iaddr none) [.t 114,.t 115],oLo 117 116,oFa 118 0 7,oLo 119 118,
 oBi 120 .eql 117 119] [1,3,4,5,6,7,8,120]) (kRt 120 [oP 2 .mv [cBo false]] [2]))) (rT [oMv 112 8,oBc 113 .add 112 1,oMv 8 113] [1,3,4,5,6,7,8])))))) (rT [oMv 121 3,oFa 122 0 7,oLo 123 122,oUn 124 (.bslice none) 123,oP 125 (.append none) [.t 121,
 .t 124],oMv 3 125] [1,3,4,5,6]))))) (rT [oMv 66 6,oBc 67 .add 66 1,oMv 6 67] [1,3,4,5,6]))))))))) (rT [oMv 33 4,oBc 34 .add 33 1,oMv 4 34] [1,3,4])))))) (.seq (rT [oP 2 .mv [cBo true]] [2]) .ret))))
def g7:AFn:=⟨1,[(2,none)],c7,false,[],[],none⟩
theorem tr7:trFn Tryz.prog false 7 Tryz.f7=some g7:=by kernel_rfl
def c8:ACode:=.seq (rT [oBx 1 0,oP 2 .mv [cBo false]] [1]) (.seq (rT [oLf 3 1,oCl 4 30 [.t 3],oBc 5 .leq 4 2000,oMv 6 5,oG 7 (.load (some 4)) [.t 1] 6 true,oG 8 .call [cFn 31,.t 7] 6 true,oP 9 .pick [.t 6,.t 8,cBo false],oMv 2 9] [2]) .ret)
def g8:AFn:=⟨1,[(2,none)],c8,false,[],[],none⟩
theorem tr8:trFn Tryz.prog false 8 Tryz.f8=some g8:=by kernel_rfl
def c9:ACode:=.seq (rT [oP 0 .mv [cBo false]] []) (.seq (rT [oCl 14 32 [],oMv 13 14,oEx 15 0 13,oEx 16 1 13,oP 1 (.alloc (some 2) (.agg A1)) [],⟨none,(.store (some 2)),[.t 1,.t 15],none⟩,oMv 2 16] [1,
 2]) (.seq (rT [oUn 18 (.load (some 2)) 1,oCl 19 17 [.t 18,cSt [112],cIn 1],oMv 17 19,oEx 20 0 17,oEx 21 1 17,oP 3 (.alloc (some 4) (.agg A2)) [],
 oSf 3 20,oMv 4 21] [1,2,3,4]) (.seq (.seq (.settle [1]) (rT [oUn 23 (.load (some 2)) 1,oP 24 .callp [cFn 23,cSt [97]],oUn 25 (.bslicep (some 4)) 24,oP 26 .callp [cFn 6,cSt [112],.t 25],oP 27 .callp [cFn 21,cIn 0],oP 28 (.bslicep (some 4)) [.t 26,
 .t 27],oP 29 .callp [cFn 6,cSt [99,108,97,117,115,101],.t 28],oP 30 .callp [cFn 21,cIn 1],oUn 31 (.bslicep (some 4)) 30,oP 32 .callp [cFn 6,cSt [112],.t 31],oP 33 .callp [cFn 21,cIn 1],oP 34 .callp [cFn 21,cIn 2],oP 35 (.bslicep (some 4)) [.t 33,
 .t 34],oP 36 .callp [cFn 6,cSt [113],.t 35],oP 37 (.bslicep (some 4)) [.t 32,.t 36],oP 38 .callp [cFn 6,cSt [99,108,97,117,115,101],.t 37],oUn 39 (.bslicep (some 4)) 38,oP 40 .callp [cFn 25,.t 23,.t 29,.t 39],oMv 22 40,oEx 41 0 22,oEx 42 1 22,
 oP 5 (.alloc (some 2) (.agg A1)) [],⟨none,(.store (some 2)),[.t 5,.t 41],none⟩,oMv 6 42] [1,2,3,4,6])) (.seq (.seq (.settle [1]) (rT [oUn 44 (.load (some 2)) 1,oP 45 .callp [cFn 21,cIn 0],
 oUn 46 (.bslicep (some 4)) 45,oP 47 .callp [cFn 6,cSt [112],.t 46],oP 48 .callp [cFn 21,cIn 1],oP 49 .callp [cFn 21,cIn 2],oP 50 (.bslicep (some 4)) [.t 47,.t 48,.t 49],oP 51 .callp [cFn 6,cSt [36,99,108,97,117,115,101],.t 50],oP 52 .callp [cFn 21,
 cIn 3],oUn 53 (.bslicep (some 4)) 52,oP 54 .callp [cFn 6,cSt [112],.t 53],oP 55 .callp [cFn 21,cIn 3],oP 56 .callp [cFn 21,cIn 4],oP 57 (.bslicep (some 4)) [.t 55,.t 56],oP 58 .callp [cFn 6,cSt [113],.t 57],oP 59 .callp [cFn 24,cIn 1],oP 60 (.bslicep (some 4)) [.t 54,
 .t 58,.t 59],oP 61 .callp [cFn 6,cSt [36,99,108,97,117,115,101],.t 60],oUn 62 (.bslicep (some 4)) 61,oP 63 .callp [cFn 25,.t 44,.t 51,.t 62],oMv 43 63,oEx 64 0 43,oEx 65 1 43,oP 7 (.alloc (some 2) (.agg [(none,.pv none (.int .i64 0)),(none,
 (.nilv (some 4)))])) [],⟨none,(.store (some 2)),[.t 7,.t 64],none⟩,oMv 8 65] [1,2,3,4,6,8])) (.seq (.seq (.settle [1]) (rT [oUn 67 (.load (some 2)) 1,oP 68 .callp [cFn 24,cIn 1],oUn 69 (.bslicep (some 4)) 68,oP 70 .callp [cFn 6,cSt [36,101,114,
 97,115,101],.t 69],oP 71 .callp [cFn 24,cIn 1],oUn 72 (.bslicep (some 4)) 71,oP 73 .callp [cFn 6,cSt [36,101,114,97,115,101],.t 72],oUn 74 (.bslicep (some 4)) 73,oP 75 .callp [cFn 25,.t 67,.t 70,.t 74],oMv 66 75,oEx 76 0 66,oEx 77 1 66,oP 9 (.alloc (some 2) (.agg [(none,
 (.pv none (.int .i64 0))),(none,.nilv (some 4))])) [],⟨none,(.store (some 2)),[.t 9,.t 76],none⟩,oMv 10 77] [1,2,3,4,6,8,9,10])) (.seq (.seq (.settle [9]) (rT [oUn 79 (.load (some 2)) 9,oP 80 .callp [cFn 24,cIn 1],oUn 81 (.bslicep (some 4)) 80,
 oP 82 .callp [cFn 6,cSt [36,101,114,97,115,101],.t 81],oP 83 .callp [cFn 25,.t 79,.t 82,.c (.tsl (some 4) [])],oMv 78 83,oEx 84 0 78,oEx 85 1 78,oP 11 (.alloc (some 2) (.agg A1)) [],⟨none,
 (.store (some 2)),[.t 11,.t 84],none⟩,oMv 12 85] [1,2,3,4,6,8,9,10,12])) (.seq (.seq (.settle [1,9]) (rT [oMv 86 2,oMv 87 86,oG 88 .mv [.t 4] 87 true,oP 89 .pick [.t 87,.t 88,cBo false],oMv 90 89,oG 91 (.faddr 2) [.t 3] 90 true,oG 92 (.load none) [.t 91] 90 true,
 oP 93 .pick [.t 90,.t 92,cBo false],oMv 94 93,oG 95 (.faddr 3) [.t 3] 94 true,oG 96 (.load none) [.t 95] 94 true,oG 97 .len [.t 96] 94 true,oG 98 (.bin .eql) [.t 97,cIn 1] 94 true,oP 99 .pick [.t 94,.t 98,cBo false],oMv 100 99,oG 101 (.faddr 3) [.t 3] 100 true,
 oG 102 (.load none) [.t 101] 100 true,oG 103 (.iaddr (some 9)) [.t 102,cIn 0] 100 true,oG 104 (.faddr 0) [.t 103] 100 true,oG 105 (.load none) [.t 104] 100 true,oG 106 (.bin .eql) [.t 105,cIn 1] 100 true,oP 107 .pick [.t 100,.t 106,cBo false],
 oMv 108 107,oG 109 .mv [.t 6] 108 true,oP 110 .pick [.t 108,.t 109,cBo false],oMv 111 110,oG 112 .mv [.t 8] 111 true,oP 113 .pick [.t 111,.t 112,cBo false],oMv 114 113,oG 115 .mv [.t 10] 114 true,oP 116 .pick [.t 114,.t 115,cBo false],oMv 117 116,
 oG 118 .mv [.t 12] 117 true,oP 119 .pick [.t 117,.t 118,cBo false],oMv 120 119,oG 121 (.load (some 2)) [.t 9] 120 true,oG 122 .callp [cFn 16,.t 121] 120 true,oG 123 (.bin .eql) [.t 122,cIn 0] 120 true,oP 124 .pick [.t 120,.t 123,cBo false],oMv 125 124,
 oG 126 (.load (some 2)) [.t 1] 125 true,oG 127 .callp [cFn 23,cSt [97]] 125 true,oG 128 (.bslicep (some 4)) [.t 127] 125 true,oG 129 .callp [cFn 6,cSt [97,116,111,109],.t 128] 125 true,oG 130 (.bslicep (some 4)) [.t 129] 125 true,oG 131 .callp [cFn 6,
 cSt [97,115,115,101,114,116,122],.t 130] 125 true,oG 132 .callp [cFn 23,cSt [109,111,100,105,102,121]] 125 true,oG 133 .callp [cFn 23,cSt [115,116,97,116,105,99,95,112,114,111,99,101,100,117,114,101]] 125 true,oG 134 .callp [cFn 23,cSt [97,116,
 111,109]] 125 true,oG 135 .callp [cFn 24,cIn 1] 125 true,oG 136 (.bslicep (some 4)) [.t 134,.t 135] 125 true,oG 137 .callp [cFn 6,cSt [47],.t 136] 125 true,oG 138 (.bslicep (some 4)) [.t 132,.t 133,.t 137] 125 true,oG 139 .callp [cFn 6,cSt [112,
 101,114,109,105,115,115,105,111,110,95,101,114,114,111,114],.t 138] 125 true,oG 140 .callp [cFn 33,.t 126,.t 131,.t 139] 125 true,oP 141 .pick [.t 125,.t 140,cBo false],oMv 142 141,oG 143 .callp [cFn 18,cSt [105,115],cIn 2] 142 true,oP 144 .pick [.t 142,
 .t 143,cBo false],oMv 145 144,oG 146 .callp [cFn 18,cSt [112],cIn 1] 145 true,oG 147 .not [.t 146] 145 true,oP 148 .pick [.t 145,.t 147,cBo false],oMv 0 148] [0])) .ret)))))))
def g9:AFn:=⟨0,[(0,none)],c9,false,[],[],none⟩
theorem tr9:trFn Tryz.prog false 9 Tryz.f9=some g9:=by kernel_rfl
def c10:ACode:=.seq (rT [oBx 1 0,oP 2 aZ []] [1,2]) (.seq (.seq (rT [oLf 3 1,oCl 4 8 [.t 3],oUn 5 .not 4] [1,2,5]) (kRt 5 [oP 6 (bZ []) [],oSf 2 6] [2])) (.seq (.seq (.settle [1]) (rT [oLf 7 1,oP 8 .callp [cFn 35,.c (.tsl none []),.t 7],oLf 9 1,oP 10 .callp [cFn 34,
 .t 8,.t 9],oSf 2 10] [2])) .ret))
def g10:AFn:=⟨1,[(2,some (some 4))],c10,false,[],[],none⟩
theorem tr10:trFn Tryz.prog false 10 Tryz.f10=some g10:=by kernel_rfl
def c11:ACode:=.seq (rT [oUn 2 (.box (some 2)) 0,oBx 3 1,oP 4 (.alloc (some 2) (.agg A1)) [],oP 5 (.nilsl (some 4)) [],oP 6 aZ [],oP 7 .mv [cIn 0]] [2,3,4,5,6]) (.seq (.seq (.region false [oUn 13 (.load (some 2)) 2,
 oCl 14 15 [.t 13],oUn 15 .not 14,oMv 16 15,oG 17 (.load (some 4)) [.t 3] 16 false,oG 18 .call [cFn 36,.t 17] 16 false,oG 19 .not [.t 18] 16 false,oP 20 .pick [.t 16,cBo true,.t 19],oMv 21 20,oG 22 (.load (some 4)) [.t 3] 21 false,oG 23 (.load (some 4)) [.t 3] 21 false,
 oG 24 (.calln 1) [.t 3,cFn 38,.t 23] 21 false,oG 25 .call [cFn 37,.t 22,.t 24] 21 false,oG 26 .not [.t 25] 21 false,oP 27 .pick [.t 21,cBo true,.t 26]] [2,3,4,5,6,27]) (kRt 27 [oP 28 (.build A1 []) [],
 oP 29 (bZ []) [],⟨none,(.store (some 2)),[.t 4,.t 28],none⟩,oP 5 (.nilsl (some 4)) [],oSf 6 29,oP 7 .mv [cIn 1]] [4,5,6,7])) (.seq (rT [oP 31 .callg [cFn 39],oFa 32 2 3,oLo 33 32,oFa 34 3 3,oLo 35 34,oUn 36 .len 35,oP 37 (.build [(none,.pv none (.str [])),
 (none,.pv none (.int .i64 0))] [0,1]) [.t 33,.t 36],oP 38 (.lookupr [1,0] none (.pv none .nilfunc) true) [.t 31,.t 37],oMv 30 38,oEx 39 0 30,oEx 40 1 30,oMv 8 39,oMv 9 40] [2,3,4,5,6,8,9]) (.seq (.seq (rT [oMv 41 9,oUn 42 .not 41,oMv 43 42,
 oG 44 (.faddr 0) [.t 3] 43 false,oG 45 (.load none) [.t 44] 43 false,oG 46 (.bin .neq) [.t 45,cIn 3] 43 false,oP 47 .pick [.t 43,cBo true,.t 46]] [2,3,4,5,6,8,47]) (kRt 47 [oP 48 (.build A1 []) [],
 oP 49 (bZ []) [],⟨none,(.store (some 2)),[.t 4,.t 48],none⟩,oP 5 (.nilsl (some 4)) [],oSf 6 49,oP 7 .mv [cIn 4]] [4,5,6,7])) (.seq (rT [oUn 50 (.load (some 2)) 2,oLf 51 3,oP 52 (.build [(some 2,.agg [(none,.pv none (.int .i64 0)),(none,
 (.nilv (some 4)))]),(some 4,.agg A0),(none,.tsl (some 4) [])] [0,1]) [.t 50,.t 51],oUn 53 (.box (some 7)) 52,oMv 10 53] [4,
 5,6,8,10]) (.seq (.seq (rT [oMv 55 10,oMv 56 8,oCl 57 40 [.t 55,.t 56],oMv 54 57,oEx 58 0 54,oEx 59 1 54,oSf 6 58,oMv 7 59] [4,5,6,7,10]) (.seq (rT [oMv 60 7,oBc 61 .neq 60 0] [4,5,6,7,10,61]) (kRt 61 [oP 62 (.build [(none,.pv none (.int .i64 0)),
 (none,.nilv (some 4))] []) [],oLf 63 6,oMv 64 7,⟨none,(.storen (some 2)),[.t 4,.t 62,.t 6],none⟩,oP 5 (.nilsl (some 4)) [],oSf 6 63,oMv 7 64] [4,5,6,7]))) (.seq (.seq (rT [oMv 65 10,oUn 66 .nilcheck 65,oFa 67 6 66,oLo 68 67,oUn 69 .len 68,
 oP 70 .mv [cIn 0]] [4,5,6,10,68,69,70]) (.block 0 (.loop [4,5,6,10,68,69,70] (.seq (rT [oBi 71 .lss 70 69] [4,5,6,10,68,69,70,71]) (.seq (kEx 71 0) (.seq (.block 1 (.seq (rT [oIa 72 68 70,oLf 73 72,oP 12 aZ [],oSf 12 73] [4,5,6,10,12,68,69,70]) (.seq (.seq (rT [oLf 74 12,
 oCl 75 36 [.t 74],oUn 76 .not 75] [4,5,6,10,12,68,69,70,76]) (kRt 76 [oP 77 (.build A1 []) [],oP 78 (bZ []) [],⟨none,(.store (some 2)),[.t 4,.t 77],none⟩,oP 5 (.nilsl (some 4)) [],oSf 6 78,
 oP 7 .mv [cIn 2]] [4,5,6,7])) (rT [oMv 79 5,oLf 80 12,oCl 81 41 [.t 80],oUn 82 (.bslice (some 4)) 81,oP 83 (.append (some 4)) [.t 79,.t 82],oMv 5 83] [4,5,6,10,68,69,70])))) (rT [oBc 84 .add 70 1,oMv 70 84] [4,5,6,10,68,69,70]))))))) (.seq (rT [oMv 85 10,
 oUn 86 .nilcheck 85,oFa 87 0 86,oUn 88 (.load (some 2)) 87,oCl 89 42 [.t 88],oMv 90 5,oP 91 (bZ []) [],⟨none,(.store (some 2)),[.t 4,.t 89],none⟩,oMv 5 90,oSf 6 91,oP 7 .mv [cIn 0]] [4,5,6,7]) .ret)))))))
def g11:AFn:=⟨2,[(4,some (some 2)),(5,none),(6,some (some 4)),(7,none)],c11,true,[],[],none⟩
theorem tr11:trFn Tryz.prog true 11 Tryz.f11=some g11:=by kernel_rfl
def c12:ACode:=.seq (rT [oUn 2 (.box (some 2)) 0,oUn 3 (.box (some 2)) 1,oP 4 .mv [cBo false]] [2,3]) (.seq (.seq (rT [oFa 6 0 2,oLo 7 6,oFa 8 0 3,oLo 9 8,oBi 10 .neq 7 9,oMv 11 10,oG 12 (.faddr 1) [.t 2] 11 false,oG 13 (.load none) [.t 12] 11 false,oG 14 .len [.t 13] 11 false,
 oG 15 (.faddr 1) [.t 3] 11 false,oG 16 (.load none) [.t 15] 11 false,oG 17 .len [.t 16] 11 false,oG 18 (.bin .neq) [.t 14,.t 17] 11 false,oP 19 .pick [.t 11,cBo true,.t 18]] [2,3,19]) (kRt 19 [oP 4 .mv [cBo false]] [4])) (.seq (.seq (rT [oP 5 .mv [cIn 0]] [2,
 3,5]) (.block 0 (.loop [2,3,5] (.seq (.seq (rT [oMv 20 5,oFa 21 1 2,oLo 22 21,oUn 23 .len 22,oBi 24 .lss 20 23] [2,3,5,24]) (kEx 24 0)) (.seq (.block 1 (.seq (rT [oFa 27 1 2,oLo 28 27,oMv 29 5,oIa 30 28 29,oLf 31 30,oFa 32 1 3,oLo 33 32,oMv 34 5,
 oIa 35 33 34,oLf 36 35,oCl 37 43 [.t 31,.t 36],oUn 38 .not 37] [2,3,5,38]) (kRt 38 [oP 4 .mv [cBo false]] [4]))) (rT [oMv 25 5,oBc 26 .add 25 1,oMv 5 26] [2,3,5])))))) (.seq (rT [oP 4 .mv [cBo true]] [4]) .ret)))
def g12:AFn:=⟨2,[(4,none)],c12,false,[],[],none⟩
theorem tr12:trFn Tryz.prog false 12 Tryz.f12=some g12:=by kernel_rfl
def c13:ACode:=.seq (rT [oBx 2 0,oBx 3 1,oP 4 .mv [cBo false]] [2,3]) (.seq (rT [oLf 5 2,oLf 6 3,oCl 7 44 [.t 5,.t 6],oMv 4 7] [4]) .ret)
def g13:AFn:=⟨2,[(4,none)],c13,false,[],[],none⟩
theorem tr13:trFn Tryz.prog false 13 Tryz.f13=some g13:=by kernel_rfl
def c14:ACode:=.seq (rT [oBx 1 0,oP 2 (.alloc (some 8) (.agg [(some 4,.agg A0),(some 4,.agg [(none,.pv none (.int .i64 0)),(none,.pv none (.int .i64 0)),
 (none,.pv none (.str [])),(none,.tsl (some 4) [])])])) [],oP 3 aZ [],oP 4 .mv [cIn 0]] [1,2,3]) (.seq (.seq (rT [oLf 10 1,oCl 11 36 [.t 10],oUn 12 .not 11] [1,2,3,12]) (kRt 12 [oP 13 (.build [(some 4,.agg [(none,.pv none (.int .i64 0)),
 (none,.pv none (.int .i64 0)),(none,.pv none (.str [])),(none,.tsl (some 4) [])]),(some 4,.agg A0)] []) [],oP 14 (bZ []) [],
 ⟨none,(.store (some 8)),[.t 2,.t 13],none⟩,oSf 3 14,oP 4 .mv [cIn 1]] [2,3,4])) (.seq (.seq (.settle []) (rT [oLf 15 1,oP 16 .callp [cFn 45,cSt [116,114,117,101]],oP 5 aZ [],oP 6 aZ [],oSf 5 15,oSf 6 16] [1,2,3,5,6])) (.seq (.seq (rT [oFa 17 0 1,
 oLo 18 17,oBc 19 .eql 18 3,oMv 20 19,oG 21 (.faddr 2) [.t 1] 20 true,oG 22 (.load none) [.t 21] 20 true,oG 23 (.bin .eql) [.t 22,cSt [58,45]] 20 true,oP 24 .pick [.t 20,.t 23,cBo false],oMv 25 24,oG 26 (.faddr 3) [.t 1] 25 true,oG 27 (.load none) [.t 26] 25 true,
 oG 28 .len [.t 27] 25 true,oG 29 (.bin .eql) [.t 28,cIn 2] 25 true,oP 30 .pick [.t 25,.t 29,cBo false]] [1,2,3,5,6,30]) (.cond (.t 30) (rT [oFa 31 3 1,oLo 32 31,oP 33 (.iaddr (some 4)) [.t 32,cIn 0],oLf 34 33,oFa 35 3 1,oLo 36 35,oP 37 (.iaddr (some 4)) [.t 36,
 cIn 1],oLf 38 37,⟨none,(.storen (some 4)),[.t 5,.t 34,.t 35,.t 37],none⟩,oSf 6 38] [2,3,5,6]) .skip)) (.seq (.seq (rT [oFa 39 0 5,oLo 40 39,oBc 41 .eql 40 0] [2,3,5,6,41]) (kRt 41 [oP 42 (.build [(some 4,.agg [(none,.pv none (.int .i64 0)),
 (none,.pv none (.int .i64 0)),(none,.pv none (.str [])),(none,.tsl (some 4) [])]),(some 4,.agg A0)] []) [],oCl 43 46 [],
 ⟨none,(.store (some 8)),[.t 2,.t 42],none⟩,oSf 3 43,oP 4 .mv [cIn 8]] [2,3,4])) (.seq (.seq (rT [oLf 44 5,oCl 45 47 [.t 44],oUn 46 .not 45] [2,3,5,6,46]) (kRt 46 [oP 47 (.build [(some 4,.agg [(none,.pv none (.int .i64 0)),(none,.pv none (.int .i64 0)),
 (none,.pv none (.str [])),(none,.tsl (some 4) [])]),(some 4,.agg A0)] []) [],oLf 48 5,oCl 49 48 [cSt [99,97,108,108,
 97,98,108,101],.t 48],⟨none,(.store (some 8)),[.t 2,.t 47],none⟩,oSf 3 49,oP 4 .mv [cIn 8]] [2,3,4])) (.seq (rT [oLf 51 6,oCl 52 49 [.t 51],oMv 50 52,oEx 53 0 50,oEx 54 1 50,oP 7 aZ [],oSf 7 53,oMv 8 54] [2,3,5,6,7,8]) (.seq (.seq (rT [oMv 55 8,
 oUn 56 .not 55] [2,3,5,6,7,56]) (kRt 56 [oP 57 (.build [(some 4,.agg A0),(some 4,.agg [(none,.pv none (.int .i64 0)),
 (none,.pv none (.int .i64 0)),(none,.pv none (.str [])),(none,.tsl (some 4) [])])] []) [],oLf 58 6,oCl 59 48 [cSt [99,97,108,108,97,98,108,101],.t 58],⟨none,(.store (some 8)),[.t 2,.t 57],none⟩,oSf 3 59,oP 4 .mv [cIn 8]] [2,3,4])) (.seq (rT [oLf 60 5,
 oLf 61 7,oP 62 (.build [(some 4,.agg A0),(some 4,.agg [(none,.pv none (.int .i64 0)),(none,.pv none (.int .i64 0)),
 (none,.pv none (.str [])),(none,.tsl (some 4) [])])] [0,1]) [.t 60,.t 61],⟨none,(.store (some 8)),[.t 2,.t 62],none⟩] [2,3]) (.seq (.seq (rT [oUn 63 (.load (some 8)) 2,oCl 64 50 [.t 63],oUn 65 .not 64] [2,3,65]) (kRt 65 [oP 66 (.build [(some 4,
 (.agg A0)),(some 4,.agg [(none,.pv none (.int .i64 0)),(none,.pv none (.int .i64 0)),(none,.pv none (.str [])),(none,
 (.tsl (some 4) []))])] []) [],oP 67 (bZ []) [],⟨none,(.store (some 8)),[.t 2,.t 66],none⟩,oSf 3 67,oP 4 .mv [cIn 2]] [2,3,4])) (.seq (rT [oUn 69 (.load (some 8)) 2,oCl 70 51 [.t 69],oMv 68 70,oEx 71 0 68,oEx 72 1 68,⟨none,(.store (some 8)),
 [.t 2,.t 71],none⟩,oMv 9 72] [2,3,9]) (.seq (.seq (rT [oMv 73 9,oBc 74 .gtr 73 64] [2,3,74]) (kRt 74 [oP 75 (.build [(some 4,.agg A0),
 (some 4,.agg A0)] []) [],oP 76 (bZ []) [],⟨none,(.store (some 8)),[.t 2,.t 75],none⟩,oSf 3 76,oP 4 .mv [cIn 2]] [2,3,4])) (.seq (rT [oUn 77 (.load (some 8)) 2,
 oP 78 (bZ []) [],⟨none,(.store (some 8)),[.t 2,.t 77],none⟩,oSf 3 78,oP 4 .mv [cIn 0]] [2,3,4]) .ret))))))))))))
def g14:AFn:=⟨1,[(2,some (some 8)),(3,some (some 4)),(4,none)],c14,false,[],[],none⟩
theorem tr14:trFn Tryz.prog false 14 Tryz.f14=some g14:=by kernel_rfl
def c15:ACode:=.seq (rT [oUn 1 (.box (some 2)) 0,oP 2 .mv [cBo false]] [1]) (.seq (.seq (rT [oFa 9 0 1,oLo 10 9,oBc 11 .lss 10 1,oMv 12 11,oG 13 (.faddr 0) [.t 1] 12 false,oG 14 (.load none) [.t 13] 12 false,oG 15 (.bin .gtr) [.t 14,cIn 4294967296] 12 false,
 oP 16 .pick [.t 12,cBo true,.t 15],oMv 17 16,oG 18 (.faddr 1) [.t 1] 17 false,oG 19 (.load none) [.t 18] 17 false,oG 20 .len [.t 19] 17 false,oG 21 (.bin .gtr) [.t 20,cIn 500] 17 false,oP 22 .pick [.t 17,cBo true,.t 21],oMv 23 22,oG 24 (.load (some 2)) [.t 1] 23 false,
 oG 25 .call [cFn 52,.t 24] 23 false,oG 26 (.bin .gtr) [.t 25,cIn 500] 23 false,oP 27 .pick [.t 23,cBo true,.t 26]] [1,27]) (kRt 27 [oP 2 .mv [cBo false]] [2])) (.seq (rT [oP 28 (.mkmap none) [],oMv 3 28] [1,3]) (.seq (rT [oP 4 .mv [cBo true]] [1,
 3,4]) (.seq .skip (.seq (.seq (rT [oFa 29 1 1,oLo 30 29,oUn 31 .len 30,oP 32 .mv [cIn 0]] [1,3,4,30,31,32]) (.block 0 (.loop [1,3,4,30,31,32] (.seq (rT [oBi 33 .lss 32 31] [1,3,4,30,31,32,33]) (.seq (kEx 33 0) (.seq (.block 1 (.seq (rT [oMv 34 32,
 oIa 35 30 32,oLf 36 35,oP 6 (.alloc (some 4) (.agg A2)) [],oMv 5 34,oSf 6 36] [1,3,4,5,6,30,31,32]) (.seq (.seq (rT [oFa 37 0 6,
 oLo 38 37,oFa 39 1 6,oLo 40 39,oCl 41 53 [.t 38,.t 40],oUn 42 .not 41,oMv 43 42,oG 44 .mv [.t 5] 43 false,oG 45 (.bin .gtr) [.t 44,cIn 0] 43 false,oG 46 .mv [.t 45] 43 false,oG 47 (.faddr 1) [.t 1] 46 true,oG 48 (.load none) [.t 47] 46 true,
 oG 49 .mv [.t 5] 46 true,oG 50 (.bin .sub) [.t 49,cIn 1] 46 true,oG 51 (.iaddr (some 4)) [.t 48,.t 50] 46 true,oG 52 (.load (some 4)) [.t 51] 46 true,oG 53 (.load (some 4)) [.t 6] 46 true,oG 54 .call [cFn 54,.t 52,.t 53] 46 true,oG 55 (.bin .geq) [.t 54,
 cIn 0] 46 true,oG 56 .pick [.t 46,.t 55,cBo false] 43 false,oP 57 .pick [.t 43,cBo true,.t 56]] [1,3,4,6,30,31,32,57]) (.cond (.t 57) (.seq (rT [oP 4 .mv [cBo false]] [4]) (.exit 0)) .skip)) (.seq (rT [oFa 58 3 6,oLo 59 58,oUn 60 .len 59,oP 61 .mv [cIn 0]] [1,
 3,4,6,30,31,32,59,60,61]) (.block 2 (.loop [1,3,4,6,30,31,32,59,60,61] (.seq (rT [oBi 62 .lss 61 60] [1,3,4,6,30,31,32,59,60,61,62]) (.seq (kEx 62 2) (.seq (.block 3 (.seq (rT [oP 63 (.iaddr (some 9)) [.t 59,.t 61],oUn 64 (.load (some 9)) 63,
 oP 8 (.alloc (some 9) (.agg [(none,.pv none (.int .i64 0)),(some 8,.agg [(some 4,.agg A0),(some 4,.agg [(none,.pv none (.int .i64 0)),
 (none,.pv none (.int .i64 0)),(none,.pv none (.str [])),(none,.tsl (some 4) [])])])])) [],⟨none,(.store (some 9)),[.t 8,.t 64],none⟩] [1,3,4,6,8,30,31,32,59,60,61]) (.seq (rT [oMv 65 3,oFa 66 0 8,oLo 67 66,oP 68 (.lookup false none (.pv none (.int .i64 0)) false) [.t 65,
 .t 67],oBc 69 .add 68 1,⟨none,(.mapset false none),[.t 65,.t 67,.t 69],none⟩] [1,3,4,6,8,30,31,32,59,60,61]) (.seq (rT [oFa 70 0 8,oLo 71 70,oBc 72 .lss 71 1,oMv 73 72,oG 74 (.faddr 0) [.t 8] 73 false,oG 75 (.load none) [.t 74] 73 false,oG 76 (.faddr 0) [.t 1] 73 false,
 oG 77 (.load none) [.t 76] 73 false,oG 78 (.bin .geq) [.t 75,.t 77] 73 false,oP 79 .pick [.t 73,cBo true,.t 78],oMv 80 79,oG 81 .mv [.t 3] 80 false,oG 82 (.faddr 0) [.t 8] 80 false,oG 83 (.load none) [.t 82] 80 false,oG 84 (.lookup false none (.pv none (.int .i64 0)) false) [.t 81,
 .t 83] 80 false,oG 85 (.bin .gtr) [.t 84,cIn 1] 80 false,oP 86 .pick [.t 80,cBo true,.t 85],oMv 87 86,oG 88 (.faddr 1) [.t 8] 87 false,oG 89 (.load (some 8)) [.t 88] 87 false,oG 90 .call [cFn 55,.t 89] 87 false,oG 91 .not [.t 90] 87 false,oP 92 .pick [.t 87,
 cBo true,.t 91],oMv 93 92,oG 94 (.faddr 1) [.t 8] 93 false,oG 95 (.faddr 0) [.t 94] 93 false,oG 96 (.faddr 2) [.t 95] 93 false,oG 97 (.load none) [.t 96] 93 false,oG 98 (.faddr 0) [.t 6] 93 false,oG 99 (.load none) [.t 98] 93 false,oG 100 (.bin .neq) [.t 97,
 .t 99] 93 false,oP 101 .pick [.t 93,cBo true,.t 100],oMv 102 101,oG 103 (.faddr 1) [.t 8] 102 false,oG 104 (.faddr 0) [.t 103] 102 false,oG 105 (.faddr 3) [.t 104] 102 false,oG 106 (.load none) [.t 105] 102 false,oG 107 .len [.t 106] 102 false,
 oG 108 (.faddr 1) [.t 6] 102 false,oG 109 (.load none) [.t 108] 102 false,oG 110 (.bin .neq) [.t 107,.t 109] 102 false,oP 111 .pick [.t 102,cBo true,.t 110]] [1,3,4,6,30,31,32,59,60,61,111]) (.cond (.t 111) (.seq (rT [oP 4 .mv [cBo false]] [4]) (.exit 0)) .skip))))) (rT [oBc 112 .add 61 1,
 oMv 61 112] [1,3,4,6,30,31,32,59,60,61])))))))))) (rT [oBc 113 .add 32 1,oMv 32 113] [1,3,4,30,31,32]))))))) (.seq (rT [oMv 114 4,oMv 2 114] [2]) .ret))))))
def g15:AFn:=⟨1,[(2,none)],c15,false,[],[],none⟩
theorem tr15:trFn Tryz.prog false 15 Tryz.f15=some g15:=by kernel_rfl
def c16:ACode:=.seq (rT [oUn 1 (.box (some 2)) 0,oP 2 .mv [cIn 0]] [1]) (.seq (.seq (rT [oUn 3 (.load (some 2)) 1,oCl 4 15 [.t 3],oUn 5 .not 4] [1,5]) (kRt 5 [oP 2 .mv [cIn 0]] [2])) (.seq (rT [oUn 6 (.load (some 2)) 1,oCl 7 52 [.t 6],oMv 2 7] [2]) .ret))
def g16:AFn:=⟨1,[(2,none)],c16,false,[],[],none⟩
theorem tr16:trFn Tryz.prog false 16 Tryz.f16=some g16:=by kernel_rfl
def c17:ACode:=.seq (rT [oUn 3 (.box (some 2)) 0,oP 6 (.alloc (some 4) (.agg A2)) [],oP 7 .mv [cBo false]] [1,2,3,6]) (.seq (.seq (rT [oUn 9 (.load (some 2)) 3,
 oCl 10 15 [.t 9],oUn 11 .not 10] [1,2,3,6,11]) (kRt 11 [oP 12 (.build A2 []) [],oSf 6 12,oP 7 .mv [cBo false]] [6,7])) (.seq (rT [oUn 14 (.load (some 2)) 3,
 oMv 15 1,oMv 16 2,oCl 17 56 [.t 14,.t 15,.t 16],oMv 13 17,oEx 18 0 13,oEx 19 1 13,oMv 8 18,oMv 7 19] [3,6,7,8]) (.seq (.seq (rT [oMv 20 7,oUn 21 .not 20] [3,6,8,21]) (kRt 21 [oP 22 (.build [(none,.pv none (.str [])),(none,.pv none (.int .i64 0)),
 (none,.pv none (.bool false)),(none,.tsl (some 9) [])] []) [],oSf 6 22,oP 7 .mv [cBo false]] [6,7])) (.seq (rT [oFa 23 1 3,oLo 24 23,oMv 25 8,oIa 26 24 25,oLf 27 26,oCl 28 57 [.t 27],oSf 6 28,oP 7 .mv [cBo true]] [6,7]) .ret))))
def g17:AFn:=⟨3,[(6,some (some 4)),(7,none)],c17,false,[],[],none⟩
theorem tr17:trFn Tryz.prog false 17 Tryz.f17=some g17:=by kernel_rfl
def c18:ACode:=.seq (rT [oP 4 .mv [cBo false]] [0,1]) (.seq (.seq (rT [oMv 5 1,oBc 6 .lss 5 0,oMv 7 6,oG 8 .mv [.t 1] 7 false,oG 9 (.bin .gtr) [.t 8,cIn 8] 7 false,oP 10 .pick [.t 7,cBo true,.t 9]] [0,1,10]) (kRt 10 [oP 4 .mv [cBo false]] [4])) (.seq (rT [oCl 11 60 [],
 oMv 12 1,oP 13 (.aindex 9) [.t 11,.t 12],oCl 14 59 [.t 13],oMv 15 0,oCl 16 58 [.t 14,.t 15],oMv 4 16] [4]) .ret))
def g18:AFn:=⟨2,[(4,none)],c18,false,[],[],none⟩
theorem tr18:trFn Tryz.prog false 18 Tryz.f18=some g18:=by kernel_rfl
def c19:ACode:=.seq (rT [oUn 2 (.box (some 2)) 0,oP 4 (.alloc (some 2) (.agg A1)) [],oP 5 .mv [cBo false]] [1,2,4]) (.seq (.seq (rT [oUn 8 (.load (some 2)) 2,oCl 9 15 [.t 8],oUn 10 .not 9] [1,2,4,10]) (kRt 10 [oP 11 (.build [(none,
 (.pv none (.int .i64 0))),(none,.nilv (some 4))] []) [],⟨none,(.store (some 2)),[.t 4,.t 11],none⟩,oP 5 .mv [cBo false]] [4,5])) (.seq (rT [oUn 13 (.load (some 2)) 2,oMv 14 1,oCl 15 61 [.t 13,.t 14],oMv 12 15,oEx 16 0 12,oEx 17 1 12,oEx 18 2 12,
 oMv 6 16,oMv 7 17,oMv 5 18] [2,4,5,6,7]) (.seq (.seq (rT [oMv 19 5,oUn 20 .not 19] [2,4,6,7,20]) (kRt 20 [oP 21 (.build A1 []) [],⟨none,(.store (some 2)),[.t 4,.t 21],none⟩,oP 5 .mv [cBo false]] [4,
 5])) (.seq (rT [oUn 22 (.load (some 2)) 2,oCl 23 62 [.t 22],⟨none,(.store (some 2)),[.t 4,.t 23],none⟩] [4,6,7]) (.seq (.region false [oFa 24 1 4,oLo 25 24,oMv 26 6,oFa 27 1 4,oLo 28 27,oMv 29 6,oIa 30 28 29,oFa 31 3 30,oLo 32 31,oMv 33 7,oMv 34 7,
 oBc 35 .add 34 1,oP 36 (.calln 1) [.t 24,cFn 63,.t 32,.t 33,.t 35],oIa 37 25 26,oFa 38 3 37,oSo 38 36] [4]) (.seq (rT [oUn 39 (.load (some 2)) 4,⟨none,(.store (some 2)),[.t 4,.t 39],none⟩,oP 5 .mv [cBo true]] [4,5]) .ret))))))
def g19:AFn:=⟨2,[(4,some (some 2)),(5,none)],c19,false,[],[],none⟩
theorem tr19:trFn Tryz.prog false 19 Tryz.f19=some g19:=by kernel_rfl
def c20:ACode:=.seq (rT [oP 4 aZ [],oP 5 .mv [cIn 0]] [0,1,4]) (.seq (.seq (rT [oMv 8 1,oBc 9 .eql 8 0] [0,1,4,9]) (kRt 9 [oMv 10 0,oCl 11 23 [.t 10],oSf 4 11,oP 5 .mv [cIn 0]] [4,5])) (.seq (rT [oMv 12 0,oCl 13 6 [.t 12,.c (.tsl (some 4) [])],oP 6 aZ [],oSf 6 13] [1,
 4,6]) (.seq (.seq (rT [oMv 14 1,oP 15 .mv [cIn 0]] [1,4,6,14,15]) (.block 0 (.loop [1,4,6,14,15] (.seq (rT [oBi 16 .lss 15 14] [1,4,6,14,15,16]) (.seq (kEx 16 0) (.seq (.block 1 (.seq (rT [oMv 17 15,oMv 7 17] [1,4,6,7,14,15]) (.region false [oFa 18 3 6,
 oLo 19 18,oMv 20 7,oP 21 (.calln 1) [.t 18,cFn 21,.t 20],oP 22 (.bslicen (some 4) 1) [.t 18,.t 21],oP 23 (.append (some 4)) [.t 19,.t 22],oFa 24 3 6,oSo 24 23] [1,4,6,14,15]))) (rT [oBc 25 .add 15 1,oMv 15 25] [1,4,6,14,15]))))))) (.seq (rT [oLf 26 6,
 oMv 27 1,oSf 4 26,oMv 5 27] [4,5]) .ret))))
def g20:AFn:=⟨2,[(4,some (some 4)),(5,none)],c20,true,[],[],none⟩
theorem tr20:trFn Tryz.prog true 20 Tryz.f20=some g20:=by kernel_rfl
def c21:ACode:=.seq (rT [oP 2 aZ []] [0,2]) (.seq (rT [oMv 3 0,oP 4 (bZ [1]) [.t 3],oSf 2 4] [2]) .ret)
def g21:AFn:=⟨1,[(2,some (some 4))],c21,false,[],[],none⟩
theorem tr21:trFn Tryz.prog false 21 Tryz.f21=some g21:=by kernel_rfl
def c22:ACode:=.seq (rT [oBx 2 0,oBx 3 1,oP 4 .mv [cBo false]] [2,3]) (.seq (.seq (.settle [2,3]) (rT [oLf 5 2,oP 6 .callp [cFn 8,.t 5],oMv 7 6,oG 8 (.load (some 4)) [.t 3] 7 true,oG 9 .callp [cFn 8,.t 8] 7 true,oP 10 .pick [.t 7,.t 9,cBo false],oMv 11 10,
 oG 12 (.load (some 4)) [.t 2] 11 true,oG 13 .callp [cFn 10,.t 12] 11 true,oG 14 (.load (some 4)) [.t 3] 11 true,oG 15 .callp [cFn 10,.t 14] 11 true,oG 16 .callp [cFn 64,.t 13,.t 15] 11 true,oP 17 .pick [.t 11,.t 16,cBo false],oMv 4 17] [4])) .ret)
def g22:AFn:=⟨2,[(4,none)],c22,false,[],[],none⟩
theorem tr22:trFn Tryz.prog false 22 Tryz.f22=some g22:=by kernel_rfl
def c23:ACode:=.seq (rT [oP 2 aZ []] [0,2]) (.seq (rT [oMv 3 0,oP 4 (bZ [0,2]) [cIn 2,.t 3],oSf 2 4] [2]) .ret)
def g23:AFn:=⟨1,[(2,some (some 4))],c23,false,[],[],none⟩
theorem tr23:trFn Tryz.prog false 23 Tryz.f23=some g23:=by kernel_rfl
def c24:ACode:=.seq (rT [oP 2 aZ []] [0,2]) (.seq (rT [oMv 3 0,oP 4 (bZ [0,1]) [cIn 1,.t 3],oSf 2 4] [2]) .ret)
def g24:AFn:=⟨1,[(2,some (some 4))],c24,false,[],[],none⟩
theorem tr24:trFn Tryz.prog false 24 Tryz.f24=some g24:=by kernel_rfl
def c25:ACode:=.seq (rT [oUn 3 (.box (some 2)) 0,oBx 4 1,oP 6 (.alloc (some 2) (.agg A1)) [],oP 7 .mv [cBo false]] [2,3,4,6]) (.seq (rT [oUn 13 (.load (some 2)) 3,oLf 14 4,oCl 15 11 [.t 13,.t 14],oMv 12 15,
 oEx 16 0 12,oEx 17 1 12,oEx 18 2 12,oEx 19 3 12,oP 8 (.alloc (some 2) (.agg A1)) [],oP 10 aZ [],⟨none,(.store (some 2)),[.t 8,.t 16],none⟩,oMv 9 17,oSf 10 18,oMv 11 19] [2,6,8,9,10,11]) (.seq (.seq (.settle [2,
 9,10]) (rT [oUn 20 (.load (some 2)) 8,oMv 21 11,oBc 22 .eql 21 0,oMv 23 22,oG 24 .mv [.t 9] 23 true,oG 25 .mv [.t 2] 23 true,oG 26 .callp [cFn 65,.t 24,.t 25] 23 true,oP 27 .pick [.t 23,.t 26,cBo false],oMv 28 27,oG 29 (.load (some 4)) [.t 10] 28 true,
 oG 30 (bZ []) [] 28 true,oG 31 .callp [cFn 13,.t 29,.t 30] 28 true,oP 32 .pick [.t 28,.t 31,cBo false],⟨none,(.store (some 2)),[.t 6,.t 20],none⟩,oMv 7 32] [6,7])) .ret))
def g25:AFn:=⟨3,[(6,some (some 2)),(7,none)],c25,false,[],[],none⟩
theorem tr25:trFn Tryz.prog false 25 Tryz.f25=some g25:=by kernel_rfl
def c26:ACode:=.seq (rT [oUn 1 (.box (some 2)) 0,oP 2 .mv [cIn 0]] [1]) (.seq (rT [oP 3 .mv [cIn 0]] [1,3]) (.seq (.seq (rT [oP 4 .mv [cIn 0]] [1,3,4]) (.block 0 (.loop [1,3,4] (.seq (.seq (rT [oMv 5 4,oFa 6 1 1,oLo 7 6,oUn 8 .len 7,oBi 9 .lss 5 8] [1,3,4,
 9]) (kEx 9 0)) (.seq (.block 1 (.seq (.seq (rT [oFa 12 1 1,oLo 13 12,oMv 14 4,oIa 15 13 14,oFa 16 3 15,oLo 17 16,oUn 18 .len 17,oBc 19 .gtr 18 500,oMv 20 19,oG 21 .mv [.t 3] 20 false,oG 22 (.bin .gtr) [.t 21,cIn 500] 20 false,oP 23 .pick [.t 20,
 cBo true,.t 22]] [1,3,4,23]) (kRt 23 [oP 2 .mv [cIn 501]] [2])) (rT [oMv 24 3,oFa 25 1 1,oLo 26 25,oMv 27 4,oIa 28 26 27,oFa 29 3 28,oLo 30 29,oUn 31 .len 30,oBi 32 .add 24 31,oMv 3 32] [1,3,4]))) (rT [oMv 10 4,oBc 11 .add 10 1,oMv 4 11] [1,
 3,4])))))) (.seq (rT [oMv 33 3,oMv 2 33] [2]) .ret)))
def g26:AFn:=⟨1,[(2,none)],c26,false,[],[],none⟩
theorem tr26:trFn Tryz.prog false 26 Tryz.f26=some g26:=by kernel_rfl
def c27:ACode:=.seq (rT [oP 4 .mv [cBo false]] [0,1]) (.seq (rT [oMv 5 0,oUn 6 .slen 5,oBc 7 .leq 6 100,oMv 8 7,oG 9 .mv [.t 1] 8 true,oG 10 (.bin .geq) [.t 9,cIn 0] 8 true,oP 11 .pick [.t 8,.t 10,cBo false],oMv 12 11,oG 13 .mv [.t 1] 12 true,oG 14 (.bin .leq) [.t 13,
 cIn 8] 12 true,oP 15 .pick [.t 12,.t 14,cBo false],oMv 4 15] [4]) .ret)
def g27:AFn:=⟨2,[(4,none)],c27,false,[],[],none⟩
theorem tr27:trFn Tryz.prog false 27 Tryz.f27=some g27:=by kernel_rfl
def c28:ACode:=.seq (rT [oBx 2 0,oBx 3 1,oP 4 .mv [cBo false]] [2,3]) (.seq (rT [oFa 5 0 2,oLo 6 5,oFa 7 0 3,oLo 8 7,oBi 9 .lss 6 8,oMv 10 9,oG 11 (.faddr 0) [.t 2] 10 false,oG 12 (.load none) [.t 11] 10 false,oG 13 (.faddr 0) [.t 3] 10 false,oG 14 (.load none) [.t 13] 10 false,
 oG 15 (.bin .eql) [.t 12,.t 14] 10 false,oG 16 .mv [.t 15] 10 false,oG 17 (.faddr 1) [.t 2] 16 true,oG 18 (.load none) [.t 17] 16 true,oG 19 (.faddr 1) [.t 3] 16 true,oG 20 (.load none) [.t 19] 16 true,oG 21 (.bin .lss) [.t 18,.t 20] 16 true,
 oG 22 .pick [.t 16,.t 21,cBo false] 10 false,oP 23 .pick [.t 10,cBo true,.t 22],oMv 4 23] [4]) .ret)
def g28:AFn:=⟨2,[(4,none)],c28,false,[],[],none⟩
theorem tr28:trFn Tryz.prog false 28 Tryz.f28=some g28:=by kernel_rfl
def c29:ACode:=.seq (rT [oUn 1 (.box (some 8)) 0,oP 2 .mv [cBo false]] [1]) (.seq (.seq (rT [oFa 6 0 1,oLf 7 6,oCl 8 8 [.t 7],oUn 9 .not 8,oMv 10 9,oG 11 (.faddr 4) [.t 1] 10 false,oG 12 (.load (some 4)) [.t 11] 10 false,oG 13 .call [cFn 8,.t 12] 10 false,
 oG 14 .not [.t 13] 10 false,oP 15 .pick [.t 10,cBo true,.t 14],oMv 16 15,oG 17 (.faddr 0) [.t 1] 16 false,oG 18 (.faddr 0) [.t 17] 16 false,oG 19 (.load none) [.t 18] 16 false,oG 20 (.bin .neq) [.t 19,cIn 2] 16 false,oG 21 .mv [.t 20] 16 false,
 oG 22 (.faddr 0) [.t 1] 21 true,oG 23 (.faddr 0) [.t 22] 21 true,oG 24 (.load none) [.t 23] 21 true,oG 25 (.bin .neq) [.t 24,cIn 3] 21 true,oG 26 .pick [.t 21,.t 25,cBo false] 16 false,oP 27 .pick [.t 16,cBo true,.t 26]] [1,27]) (kRt 27 [oP 2 .mv [cBo false]] [2])) (.seq (rT [oFa 29 4 1,
 oLf 30 29,oCl 31 66 [.t 30],oMv 28 31,oEx 32 0 28,oEx 33 1 28,oP 3 aZ [],oSf 3 32,oMv 4 33] [1,3,4]) (.seq (.seq (.seq (.settle [3]) (rT [oMv 34 4,oUn 35 .not 34,oMv 36 35,oG 37 (.load (some 4)) [.t 3] 36 false,oG 38 (.faddr 4) [.t 1] 36 false,
 oG 39 (.load (some 4)) [.t 38] 36 false,oG 40 .callp [cFn 44,.t 37,.t 39] 36 false,oG 41 .not [.t 40] 36 false,oP 42 .pick [.t 36,cBo true,.t 41],oMv 43 42,oG 44 (.faddr 0) [.t 1] 43 false,oG 45 (.load (some 4)) [.t 44] 43 false,oG 46 .callp [cFn 30,
 .t 45] 43 false,oG 47 (.faddr 4) [.t 1] 43 false,oG 48 (.load (some 4)) [.t 47] 43 false,oG 49 .callp [cFn 30,.t 48] 43 false,oG 50 (.bin .add) [.t 46,.t 49] 43 false,oG 51 (.bin .gtr) [.t 50,cIn 2000] 43 false,oP 52 .pick [.t 43,cBo true,.t 51]] [1,
 52])) (kRt 52 [oP 2 .mv [cBo false]] [2])) (.seq (rT [oFa 53 0 1,oLf 54 53,oFa 55 4 1,oLf 56 55,oP 57 (.bslice (some 4)) [.t 54,.t 56],oMv 5 57] [5]) (.seq (rT [oMv 58 5,oCl 59 67 [.t 58],oUn 60 .len 59,oBc 61 .leq 60 64,oMv 62 61,oG 63 .mv [.t 5] 62 true,
 oG 64 .call [cFn 68,.t 63] 62 true,oG 65 .mv [.t 5] 62 true,oG 66 .call [cFn 65,.t 64,.t 65] 62 true,oP 67 .pick [.t 62,.t 66,cBo false],oMv 2 67] [2]) .ret)))))
def g29:AFn:=⟨1,[(2,none)],c29,false,[],[],none⟩
theorem tr29:trFn Tryz.prog false 29 Tryz.f29=some g29:=by kernel_rfl
def c30:ACode:=.seq (rT [oBx 1 0,oP 2 .mv [cIn 0]] [1]) (.seq (rT [oLf 3 1,oCl 4 69 [.t 3,cIn 2001],oMv 2 4] [2]) .ret)
def g30:AFn:=⟨1,[(2,none)],c30,false,[],[],none⟩
theorem tr30:trFn Tryz.prog false 30 Tryz.f30=some g30:=by kernel_rfl
def c31:ACode:=.seq (rT [oBx 1 0,oP 2 .mv [cBo false]] [1]) (.seq (.seq (rT [oLf 4 1,oCl 5 70 [.t 4],oUn 6 .not 5] [1,6]) (kRt 6 [oP 2 .mv [cBo false]] [2])) (.seq (.seq (rT [oP 3 .mv [cIn 0]] [1,3]) (.block 0 (.loop [1,3] (.seq (.seq (rT [oMv 7 3,oFa 8 3 1,
 oLo 9 8,oUn 10 .len 9,oBi 11 .lss 7 10] [1,3,11]) (kEx 11 0)) (.seq (.block 1 (.seq (rT [oFa 14 3 1,oLo 15 14,oMv 16 3,oIa 17 15 16,oLf 18 17,oCl 19 31 [.t 18],oUn 20 .not 19] [1,3,20]) (kRt 20 [oP 2 .mv [cBo false]] [2]))) (rT [oMv 12 3,oBc 13 .add 12 1,
 oMv 3 13] [1,3])))))) (.seq (rT [oP 2 .mv [cBo true]] [2]) .ret)))
def g31:AFn:=⟨1,[(2,none)],c31,false,[],[],none⟩
theorem tr31:trFn Tryz.prog false 31 Tryz.f31=some g31:=by kernel_rfl
def c32:ACode:=.seq (rT [oP 0 (.alloc (some 2) (.agg A1)) [],oP 1 .mv [cBo false]] [0]) (.seq (rT [oCl 3 21 [cIn 0],oUn 4 (.bslice (some 4)) 3,oCl 5 6 [cSt [112],.t 4],oCl 6 21 [cIn 0],oCl 7 21 [cIn 1],
 oP 8 (.bslice (some 4)) [.t 6,.t 7],oCl 9 6 [cSt [113],.t 8],oP 10 (.bslice (some 4)) [.t 5,.t 9],oCl 11 6 [cSt [58,45],.t 10],oUn 12 (.bslice (some 4)) 11,oCl 13 6 [cSt [97,115,115,101,114,116,122],.t 12],oP 2 aZ [],oSf 2 13] [0,2]) (.seq (.seq (.settle [2]) (rT [oP 14 .callp [cFn 71],
 oLf 15 2,oLf 16 2,oUn 17 (.bslicep (some 4)) 16,oP 18 .callp [cFn 25,.t 14,.t 15,.t 17],oEx 19 0 18,oEx 20 1 18,⟨none,(.store (some 2)),[.t 0,.t 19],none⟩,oMv 1 20] [0,1])) .ret))
def g32:AFn:=⟨0,[(0,some (some 2)),(1,none)],c32,false,[],[],none⟩
theorem tr32:trFn Tryz.prog false 32 Tryz.f32=some g32:=by kernel_rfl
def c33:ACode:=.seq (rT [oUn 3 (.box (some 2)) 0,oBx 4 1,oBx 5 2,oP 6 .mv [cBo false]] [3,4,5]) (.seq (rT [oUn 12 (.load (some 2)) 3,oLf 13 4,oCl 14 11 [.t 12,.t 13],oMv 11 14,oEx 15 0 11,oEx 16 1 11,oEx 17 2 11,oEx 18 3 11,oP 7 (.alloc (some 2) (.agg [(none,
 (.pv none (.int .i64 0))),(none,.nilv (some 4))])) [],oP 9 aZ [],⟨none,(.store (some 2)),[.t 7,.t 15],none⟩,oMv 8 16,oSf 9 17,oMv 10 18] [5,7,8,9,10]) (.seq (.seq (.settle [5,7,9]) (rT [oMv 19 10,oBc 20 .eql 19 8,oMv 21 20,oG 22 .mv [.t 8] 21 true,
 oG 23 .len [.t 22] 21 true,oG 24 (.bin .eql) [.t 23,cIn 0] 21 true,oP 25 .pick [.t 21,.t 24,cBo false],oMv 26 25,oG 27 (.load (some 2)) [.t 7] 26 true,oG 28 (.build A1 []) [] 26 true,oG 29 .callp [cFn 12,
 .t 27,.t 28] 26 true,oP 30 .pick [.t 26,.t 29,cBo false],oMv 31 30,oG 32 (.load (some 4)) [.t 9] 31 true,oG 33 (.load (some 4)) [.t 5] 31 true,oG 34 .callp [cFn 23,cSt [91,93]] 31 true,oG 35 (.bslicep (some 4)) [.t 33,.t 34] 31 true,oG 36 .callp [cFn 6,
 cSt [101,114,114,111,114],.t 35] 31 true,oG 37 .callp [cFn 13,.t 32,.t 36] 31 true,oP 38 .pick [.t 31,.t 37,cBo false],oMv 6 38] [6])) .ret))
def g33:AFn:=⟨3,[(6,none)],c33,false,[],[],none⟩
theorem tr33:trFn Tryz.prog false 33 Tryz.f33=some g33:=by kernel_rfl
def c34:ACode:=.seq (rT [oBx 3 1,oP 4 aZ []] [0,3,4]) (.seq (rT [oFa 7 0 3,oLo 8 7,oFa 9 1 3,oLo 10 9,oFa 11 2 3,oLo 12 11,oP 13 (bZ [0,1,2]) [.t 8,.t 10,.t 12],oP 5 aZ [],oSf 5 13] [0,3,4,5]) (.seq (.seq (rT [oFa 14 0 3,oLo 15 14,oBc 16 .eql 15 0] [0,3,4,
 5,16]) (.cond (.t 16) (rT [oMv 17 0,oFa 18 1 3,oLo 19 18,oCl 20 72 [.t 17,.t 19],oFa 21 1 5,oSo 21 20] [0,3,4,5]) .skip)) (.seq (.seq (rT [oP 6 .mv [cIn 0]] [0,3,4,5,6]) (.block 0 (.loop [0,3,4,5,6] (.seq (.seq (rT [oMv 22 6,oFa 23 3 3,oLo 24 23,
 oUn 25 .len 24,oBi 26 .lss 22 25] [0,3,4,5,6,26]) (kEx 26 0)) (.seq (.block 1 (.seq (.settle [0]) (rT [oFa 29 3 5,oLo 30 29,oMv 31 0,oFa 32 3 3,oLo 33 32,oMv 34 6,oIa 35 33 34,oLf 36 35,oP 37 .callp [cFn 34,.t 31,.t 36],oUn 38 (.bslicep (some 4)) 37,
 oP 39 (.append (some 4)) [.t 30,.t 38],oFa 40 3 5,oSo 40 39] [0,3,4,5,6]))) (rT [oMv 27 6,oBc 28 .add 27 1,oMv 6 28] [0,3,4,5,6])))))) (.seq (rT [oLf 41 5,oSf 4 41] [4]) .ret))))
def g34:AFn:=⟨2,[(4,some (some 4))],c34,false,[],[],none⟩
theorem tr34:trFn Tryz.prog false 34 Tryz.f34=some g34:=by kernel_rfl
def c35r0:LO:=[oBx 3 1,oP 4 (.nilsl none) []]
def c35r1:LO:=[oFa 6 0 3,oLo 7 6,oBc 8 .eql 7 0,oMv 9 8,oG 10 .mv [.t 0] 9 true,oG 11 (.faddr 1) [.t 3] 9 true,oG 12 (.load none) [.t 11] 9 true,oG 13 .call [cFn 72,.t 10,.t 12] 9 true,oG 14 (.bin .lss) [.t 13,cIn 0] 9 true,oP 15 .pick [.t 9,.t 14,cBo false]]
def c35r2:LO:=[oMv 16 0,oFa 17 1 3,oLo 18 17,oUn 19 (.bslice none) 18,oP 20 (.append none) [.t 16,.t 19],oMv 0 20]
def c35k3:ACode:=.cond (.t 15) (rT c35r2 [0,3]) .skip
def c35r4:LO:=[oP 5 .mv [cIn 0]]
def c35r5:LO:=[oMv 21 5,oFa 22 3 3,oLo 23 22,oUn 24 .len 23,oBi 25 .lss 21 24]
def c35k6:ACode:=kEx 25 0
def c35r7:LO:=[oMv 28 0,oFa 29 3 3,oLo 30 29,oMv 31 5,oIa 32 30 31,oLf 33 32,oCl 34 35 [.t 28,.t 33],oMv 0 34]
def c35k8:ACode:=.block 1 (rT c35r7 [0,3,5])
def c35r9:LO:=[oMv 26 5,oBc 27 .add 26 1,oMv 5 27]
def c35b10:ACode:=.seq (.seq (rT c35r5 [0,3,5,25]) c35k6) (.seq c35k8 (rT c35r9 [0,3,5]))
def c35k11:ACode:=.block 0 (.loop [0,3,5] c35b10)
def c35r12:LO:=[oMv 35 0,oMv 4 35]
def c35:ACode:=.seq (rT c35r0 [0,3]) (.seq (.seq (rT c35r1 [0,3,15]) c35k3) (.seq (.seq (rT c35r4 [0,3,5]) c35k11) (.seq (rT c35r12 [4]) .ret)))
def g35:AFn:=⟨2,[(4,none)],c35,true,[],[],none⟩
theorem tr35:trFn Tryz.prog true 35 Tryz.f35=some g35:=by kernel_rfl
def c36:ACode:=.seq (rT [oBx 1 0,oP 2 .mv [cBo false]] [1]) (.seq (rT [oLf 3 1,oCl 4 73 [.t 3],oBc 5 .leq 4 2000,oMv 6 5,oG 7 (.load (some 4)) [.t 1] 6 true,oG 8 .call [cFn 74,.t 7] 6 true,oP 9 .pick [.t 6,.t 8,cBo false],oMv 2 9] [2]) .ret)
def g36:AFn:=⟨1,[(2,none)],c36,false,[],[],none⟩
theorem tr36:trFn Tryz.prog false 36 Tryz.f36=some g36:=by kernel_rfl
def c37:ACode:=.seq (rT [oBx 2 0,oBx 3 1,oP 4 .mv [cBo false]] [2,3]) (.seq (rT [oLf 5 2,oCl 6 36 [.t 5],oMv 7 6,oG 8 (.load (some 4)) [.t 3] 7 true,oG 9 .call [cFn 36,.t 8] 7 true,oP 10 .pick [.t 7,.t 9,cBo false],oMv 11 10,oG 12 (.load (some 4)) [.t 2] 11 true,
 oG 13 (.load (some 4)) [.t 3] 11 true,oG 14 .call [cFn 75,.t 12,.t 13] 11 true,oP 15 .pick [.t 11,.t 14,cBo false],oMv 4 15] [4]) .ret)
def g37:AFn:=⟨2,[(4,none)],c37,false,[],[],none⟩
theorem tr37:trFn Tryz.prog false 37 Tryz.f37=some g37:=by kernel_rfl
def c38:ACode:=.seq (rT [oBx 1 0,oP 2 aZ []] [1,2]) (.seq (.seq (rT [oLf 4 1,oCl 5 36 [.t 4],oUn 6 .not 5] [1,2,6]) (kRt 6 [oP 7 (bZ []) [],oSf 2 7] [2])) (.seq (rT [oP 8 (.mkmap none) [],oP 3 (.alloc none (.pv none .nilmap)) [],oSo 3 8] [1,2,3]) (.seq (rT [oLf 9 1,
 oUn 10 (.mkfunc (.func 77) 0) 3,oCl 11 76 [.t 9,.t 10],oSf 2 11] [2]) .ret)))
def g38:AFn:=⟨1,[(2,some (some 4))],c38,false,[],[],none⟩
theorem tr38:trFn Tryz.prog false 38 Tryz.f38=some g38:=by kernel_rfl
def c40p4:ACode:=(.seq (rT [oMv 7 1,oMv 8 0,oP 9 .call [.t 7,.t 8]] [4,5]) (.seq (rT [oP 10 (bZ []) [],oSf 4 10,⟨none,(.store none),[.t 5,cIn 0],none⟩] [4,5]) (.seq .ret .skip)))
def c40:ACode:=.seq (rT [oP 4 aZ [],oP 5 (.alloc none (.pv none (.int .i64 0))) []] [0,1,4,5]) (rT [oP 6 (.mkfunc (.func 84) 0) [.t 4,.t 5]] [0,1,4,5,6])
def g40:AFn:=⟨2,[(4,some (some 4)),(5,some none)],c40,true,[(.dfr 6,c40p4)],[],none⟩
theorem tr40:trFn Tryz.prog true 40 Tryz.f40=some g40:=by kernel_rfl
def c41:ACode:=.seq (rT [oBx 1 0,oP 2 aZ []] [1,2]) (.seq (.seq (rT [oLf 3 1,oCl 4 36 [.t 3],oUn 5 .not 4] [1,2,5]) (kRt 5 [oP 6 (bZ []) [],oSf 2 6] [2])) (.seq (rT [oLf 7 1,oCl 8 76 [.t 7,cFn 85],oSf 2 8] [2]) .ret))
def g41:AFn:=⟨1,[(2,some (some 4))],c41,false,[],[],none⟩
theorem tr41:trFn Tryz.prog false 41 Tryz.f41=some g41:=by kernel_rfl
def c42r0:LO:=[oUn 1 (.box (some 2)) 0,oP 2 (.alloc (some 2) (.agg A1)) []]
def c42r1:LO:=[oFa 9 0 1,oLo 10 9,oP 11 (.build A1 [0]) [.t 10],oP 3 (.alloc (some 2) (.agg A1)) [],⟨none,(.store (some 2)),[.t 3,.t 11],none⟩]
def c42r2:LO:=[oFa 12 1 1,oLo 13 12,oUn 14 .len 13,oP 15 .mv [cIn 0]]
def c42r3:LO:=[oBi 16 .lss 15 14]
def c42k4:ACode:=kEx 16 0
def c42r5:LO:=[oIa 17 13 15,oLf 18 17,oP 5 (.alloc (some 4) (.agg A2)) [],oSf 5 18]
def c42r6:LO:=[oFa 19 3 5,oLo 20 19,oMv 6 20]
def c42r7:LO:=[oFa 21 3 5,⟨none,(.store none),[.t 21,.c (.tsl (some 9) [])],none⟩]
def c42r8:LO:=[oMv 22 6,oUn 23 .len 22,oP 24 .mv [cIn 0]]
def c42r9:LO:=[oBi 25 .lss 24 23]
def c42k10:ACode:=kEx 25 2
def c42r11:LO:=[oP 26 (.iaddr (some 9)) [.t 22,.t 24],oUn 27 (.load (some 9)) 26,oP 8 (.alloc (some 9) (.agg [(none,.pv none (.int .i64 0)),(some 8,.agg [(some 4,.agg [(none,.pv none (.int .i64 0)),(none,.pv none (.int .i64 0)),(none,.pv none (.str [])),
 (none,.tsl (some 4) [])]),(some 4,.agg A0)])])) [],⟨none,(.store (some 9)),[.t 8,.t 27],none⟩]
def c42r12:LO:=[oFa 28 3 5,oLo 29 28,oFa 30 0 8,oLo 31 30,oFa 32 1 8,oFa 33 0 32,oLf 34 33,oP 35 .callp [cFn 41,.t 34],oFa 36 1 8,oFa 37 4 36,oLf 38 37,oP 39 .callp [cFn 41,.t 38],oP 40 (.build [(some 4,.agg [(none,.pv none (.int .i64 0)),(none,.pv none (.int .i64 0)),
 (none,.pv none (.str [])),(none,.tsl (some 4) [])]),(some 4,.agg A0)] [0,1]) [.t 35,.t 39],oP 41 (.build [(none,.pv none (.int .i64 0)),
 (some 8,.agg [(some 4,.agg A0),(some 4,.agg [(none,.pv none (.int .i64 0)),(none,.pv none (.int .i64 0)),(none,
 (.pv none (.str []))),(none,.tsl (some 4) [])])])] [0,1]) [.t 31,.t 40],oUn 42 (.bslicep (some 9)) 41,oP 43 (.append (some 9)) [.t 29,.t 42],oFa 44 3 5,oSo 44 43]
def c42k13:ACode:=.block 3 (.seq (rT c42r11 [2,3,5,8,13,14,15,22,23,24]) (.seq (.settle []) (rT c42r12 [2,3,5,13,14,15,22,23,24])))
def c42r14:LO:=[oBc 45 .add 24 1,oMv 24 45]
def c42b15:ACode:=.seq (rT c42r9 [2,3,5,13,14,15,22,23,24,25]) (.seq c42k10 (.seq c42k13 (rT c42r14 [2,3,5,13,14,15,22,23,24])))
def c42k16:ACode:=.block 2 (.loop [2,3,5,13,14,15,22,23,24] c42b15)
def c42r17:LO:=[oFa 46 1 3,oLo 47 46,oLf 48 5,oUn 49 (.bslov (some 4)) 48,oP 50 (.appendv (some 4)) [.t 47,.t 49],oFa 51 1 3,oSo 51 50]
def c42k18:ACode:=.block 1 (.seq (rT c42r5 [2,3,5,13,14,15]) (.seq (rT c42r6 [2,3,5,6,13,14,15]) (.seq (rT c42r7 [2,3,5,6,13,14,15]) (.seq (.seq (rT c42r8 [2,3,5,13,14,15,22,23,24]) c42k16) (rT c42r17 [2,3,13,14,15])))))
def c42r19:LO:=[oBc 52 .add 15 1,oMv 15 52]
def c42b20:ACode:=.seq (rT c42r3 [2,3,13,14,15,16]) (.seq c42k4 (.seq c42k18 (rT c42r19 [2,3,13,14,15])))
def c42k21:ACode:=.block 0 (.loop [2,3,13,14,15] c42b20)
def c42r22:LO:=[oUn 53 (.load (some 2)) 3,⟨none,(.store (some 2)),[.t 2,.t 53],none⟩]
def c42:ACode:=.seq (rT c42r0 [1,2]) (.seq (rT c42r1 [1,2,3]) (.seq (.seq (rT c42r2 [2,3,13,14,15]) c42k21) (.seq (rT c42r22 [2]) .ret)))
def g42:AFn:=⟨1,[(2,some (some 2))],c42,false,[],[],none⟩
theorem tr42:trFn Tryz.prog false 42 Tryz.f42=some g42:=by kernel_rfl
def c43:ACode:=.seq (rT [oBx 2 0,oBx 3 1,oP 4 .mv [cBo false]] [2,3]) (.seq (.seq (rT [oFa 6 0 2,oLo 7 6,oFa 8 0 3,oLo 9 8,oBi 10 .neq 7 9,oMv 11 10,oG 12 (.faddr 1) [.t 2] 11 false,oG 13 (.load none) [.t 12] 11 false,oG 14 (.faddr 1) [.t 3] 11 false,oG 15 (.load none) [.t 14] 11 false,
 oG 16 (.bin .neq) [.t 13,.t 15] 11 false,oP 17 .pick [.t 11,cBo true,.t 16],oMv 18 17,oG 19 (.faddr 2) [.t 2] 18 false,oG 20 (.load none) [.t 19] 18 false,oG 21 (.faddr 2) [.t 3] 18 false,oG 22 (.load none) [.t 21] 18 false,oG 23 (.binb .neq) [.t 20,
 .t 22] 18 false,oP 24 .pick [.t 18,cBo true,.t 23],oMv 25 24,oG 26 (.faddr 3) [.t 2] 25 false,oG 27 (.load none) [.t 26] 25 false,oG 28 .len [.t 27] 25 false,oG 29 (.faddr 3) [.t 3] 25 false,oG 30 (.load none) [.t 29] 25 false,oG 31 .len [.t 30] 25 false,
 oG 32 (.bin .neq) [.t 28,.t 31] 25 false,oP 33 .pick [.t 25,cBo true,.t 32]] [2,3,33]) (kRt 33 [oP 4 .mv [cBo false]] [4])) (.seq (.seq (rT [oP 5 .mv [cIn 0]] [2,3,5]) (.block 0 (.loop [2,3,5] (.seq (.seq (rT [oMv 34 5,oFa 35 3 2,oLo 36 35,oUn 37 .len 36,
 oBi 38 .lss 34 37] [2,3,5,38]) (kEx 38 0)) (.seq (.block 1 (.seq (rT [oFa 41 3 2,oLo 42 41,oMv 43 5,oP 44 (.iaddr (some 9)) [.t 42,.t 43],oUn 45 (.load (some 9)) 44,oFa 46 3 3,oLo 47 46,oMv 48 5,oP 49 (.iaddr (some 9)) [.t 47,.t 48],oUn 50 (.load (some 9)) 49,
 oCl 51 86 [.t 45,.t 50],oUn 52 .not 51] [2,3,5,52]) (kRt 52 [oP 4 .mv [cBo false]] [4]))) (rT [oMv 39 5,oBc 40 .add 39 1,oMv 5 40] [2,3,5])))))) (.seq (rT [oP 4 .mv [cBo true]] [4]) .ret)))
def g43:AFn:=⟨2,[(4,none)],c43,false,[],[],none⟩
theorem tr43:trFn Tryz.prog false 43 Tryz.f43=some g43:=by kernel_rfl
def c44:ACode:=.seq (rT [oBx 2 0,oBx 3 1,oP 4 .mv [cBo false]] [2,3]) (.seq (rT [oLf 5 2,oCl 6 8 [.t 5],oMv 7 6,oG 8 (.load (some 4)) [.t 3] 7 true,oG 9 .call [cFn 8,.t 8] 7 true,oP 10 .pick [.t 7,.t 9,cBo false],oMv 11 10,oG 12 (.load (some 4)) [.t 2] 11 true,
 oG 13 (.load (some 4)) [.t 3] 11 true,oG 14 .call [cFn 64,.t 12,.t 13] 11 true,oP 15 .pick [.t 11,.t 14,cBo false],oMv 4 15] [4]) .ret)
def g44:AFn:=⟨2,[(4,none)],c44,false,[],[],none⟩
theorem tr44:trFn Tryz.prog false 44 Tryz.f44=some g44:=by kernel_rfl
def c45:ACode:=.seq (rT [oP 2 aZ []] [0,2]) (.seq (rT [oMv 3 0,oP 4 (bZ [0,2]) [cIn 2,.t 3],oCl 5 41 [.t 4],oSf 2 5] [2]) .ret)
def g45:AFn:=⟨1,[(2,some (some 4))],c45,false,[],[],none⟩
theorem tr45:trFn Tryz.prog false 45 Tryz.f45=some g45:=by kernel_rfl
def c46:ACode:=.seq (rT [oP 0 aZ []] [0]) (.seq (rT [oCl 1 87 [cSt [105,110,115,116,97,110,116,105,97,116,105,111,110,95,101,114,114,111,114],.c (.tsl (some 4) [])],oSf 0 1] [0]) .ret)
def g46:AFn:=⟨0,[(0,some (some 4))],c46,false,[],[],none⟩
theorem tr46:trFn Tryz.prog false 46 Tryz.f46=some g46:=by kernel_rfl
def c47:ACode:=.seq (rT [oBx 1 0,oP 2 .mv [cBo false]] [1]) (.seq (rT [oFa 3 0 1,oLo 4 3,oBc 5 .eql 4 2,oMv 6 5,oG 7 (.faddr 0) [.t 1] 6 false,oG 8 (.load none) [.t 7] 6 false,oG 9 (.bin .eql) [.t 8,cIn 3] 6 false,oP 10 .pick [.t 6,cBo true,.t 9],oMv 2 10] [2]) .ret)
def g47:AFn:=⟨1,[(2,none)],c47,false,[],[],none⟩
theorem tr47:trFn Tryz.prog false 47 Tryz.f47=some g47:=by kernel_rfl
def c48:ACode:=.seq (rT [oBx 3 1,oP 4 aZ []] [0,3,4]) (.seq (rT [oLf 5 3,oMv 6 0,oUn 7 (.bslice none) 6,oCl 8 88 [.t 5,cSt [116,121,112,101,95,101,114,114,111,114],.t 7],oSf 4 8] [4]) .ret)
def g48:AFn:=⟨2,[(4,some (some 4))],c48,false,[],[],none⟩
theorem tr48:trFn Tryz.prog false 48 Tryz.f48=some g48:=by kernel_rfl
def c49p3:ACode:=(.seq (rT [oLf 5 1,oCl 6 90 [.t 5],oSf 2 6,⟨none,(.store none),[.t 3,cBo true],none⟩] [2,3]) (.seq .ret .skip))
def c49:ACode:=.seq (rT [oBx 1 0,oP 2 aZ [],oP 3 (.alloc none (.pv none (.bool false))) []] [1,2,3]) (rT [oP 4 (.mkfunc (.func 89) 0) [.t 2,.t 3]] [1,2,3,4])
def g49:AFn:=⟨1,[(2,some (some 4)),(3,some none)],c49,false,[(.dfr 4,c49p3)],[],none⟩
theorem tr49:trFn Tryz.prog false 49 Tryz.f49=some g49:=by kernel_rfl
def c50:ACode:=.seq (rT [oUn 1 (.box (some 8)) 0,oP 2 .mv [cBo false]] [1]) (.seq (.seq (.settle []) (rT [oFa 3 0 1,oLf 4 3,oP 5 .callp [cFn 73,.t 4],oFa 6 4 1,oLf 7 6,oP 8 .callp [cFn 73,.t 7],oBi 9 .add 5 8,oBc 10 .leq 9 2000,oMv 2 10] [2])) .ret)
def g50:AFn:=⟨1,[(2,none)],c50,false,[],[],none⟩
theorem tr50:trFn Tryz.prog false 50 Tryz.f50=some g50:=by kernel_rfl
def c51:ACode:=.seq (rT [oUn 1 (.box (some 8)) 0,oP 2 (.alloc (some 8) (.agg [(some 4,.agg A0),(some 4,.agg [(none,.pv none (.int .i64 0)),
 (none,.pv none (.int .i64 0)),(none,.pv none (.str [])),(none,.tsl (some 4) [])])])) [],oP 3 .mv [cIn 0]] [1,2]) (.seq (rT [oP 5 (.mkmap none) [],oMv 4 5] [1,2,4]) (.seq (rT [oFa 6 0 1,oLf 7 6,oMv 8 4,oCl 9 91 [.t 7,.t 8],oFa 10 0 2,oSf 10 9] [1,
 2,4]) (.seq (rT [oFa 11 4 1,oLf 12 11,oMv 13 4,oCl 14 91 [.t 12,.t 13],oFa 15 4 2,oSf 15 14] [2,4]) (.seq (rT [oUn 16 (.load (some 8)) 2,oMv 17 4,oUn 18 .mlen 17,⟨none,(.store (some 8)),[.t 2,.t 16],none⟩,oMv 3 18] [2,3]) .ret))))
def g51:AFn:=⟨1,[(2,some (some 8)),(3,none)],c51,false,[],[],none⟩
theorem tr51:trFn Tryz.prog false 51 Tryz.f51=some g51:=by kernel_rfl
def c52:ACode:=.seq (rT [oUn 1 (.box (some 2)) 0,oP 2 .mv [cIn 0]] [1]) (.seq (rT [oP 3 .mv [cIn 0]] [1,3]) (.seq (.seq (rT [oFa 6 1 1,oLo 7 6,oUn 8 .len 7,oP 9 .mv [cIn 0]] [3,7,8,9]) (.block 0 (.loop [3,7,8,9] (.seq (rT [oBi 10 .lss 9 8] [3,7,8,9,10]) (.seq (kEx 10 0) (.seq (.block 1 (.seq (rT [oIa 11 7 9,
 oLf 12 11,oP 5 (.alloc (some 4) (.agg A2)) [],oSf 5 12] [3,5,7,8,9]) (rT [oMv 13 3,oFa 14 3 5,oLo 15 14,oUn 16 .len 15,oBi 17 .add 13 16,
 oMv 3 17] [3,7,8,9]))) (rT [oBc 18 .add 9 1,oMv 9 18] [3,7,8,9]))))))) (.seq (rT [oMv 19 3,oMv 2 19] [2]) .ret)))
def g52:AFn:=⟨1,[(2,none)],c52,false,[],[],none⟩
theorem tr52:trFn Tryz.prog false 52 Tryz.f52=some g52:=by kernel_rfl
def c53:ACode:=.seq (rT [oP 4 .mv [cBo false]] [0,1]) (.seq (rT [oMv 5 0,oUn 6 .slen 5,oBc 7 .leq 6 100,oMv 8 7,oG 9 .mv [.t 1] 8 true,oG 10 (.bin .geq) [.t 9,cIn 0] 8 true,oP 11 .pick [.t 8,.t 10,cBo false],oMv 12 11,oG 13 .mv [.t 1] 12 true,oG 14 (.bin .leq) [.t 13,
 cIn 8] 12 true,oP 15 .pick [.t 12,.t 14,cBo false],oMv 4 15] [4]) .ret)
def g53:AFn:=⟨2,[(4,none)],c53,false,[],[],none⟩
theorem tr53:trFn Tryz.prog false 53 Tryz.f53=some g53:=by kernel_rfl
def c54:ACode:=.seq (rT [oBx 2 0,oBx 3 1,oP 4 .mv [cIn 0]] [2,3]) (.seq (.seq (.settle []) (rT [oFa 5 0 2,oLo 6 5,oFa 7 0 3,oLo 8 7,oP 9 .callp [cFn 93,.t 6,.t 8],oFa 10 1 2,oLo 11 10,oFa 12 1 3,oLo 13 12,oP 14 .callp [cFn 94,.t 11,.t 13],oP 15 (.bslicep none) [.t 9,
 .t 14],oP 16 .callp [cFn 92,.t 15],oMv 4 16] [4])) .ret)
def g54:AFn:=⟨2,[(4,none)],c54,false,[],[],none⟩
theorem tr54:trFn Tryz.prog false 54 Tryz.f54=some g54:=by kernel_rfl
def c55:ACode:=.seq (rT [oUn 1 (.box (some 8)) 0,oP 2 .mv [cBo false]] [1]) (.seq (.seq (rT [oFa 6 0 1,oLf 7 6,oCl 8 36 [.t 7],oUn 9 .not 8,oMv 10 9,oG 11 (.faddr 0) [.t 1] 10 false,oG 12 (.load (some 4)) [.t 11] 10 false,oG 13 .call [cFn 47,.t 12] 10 false,
 oG 14 .not [.t 13] 10 false,oP 15 .pick [.t 10,cBo true,.t 14],oMv 16 15,oG 17 (.load (some 8)) [.t 1] 16 false,oG 18 .call [cFn 50,.t 17] 16 false,oG 19 .not [.t 18] 16 false,oP 20 .pick [.t 16,cBo true,.t 19]] [1,20]) (kRt 20 [oP 2 .mv [cBo false]] [2])) (.seq (rT [oFa 22 4 1,
 oLf 23 22,oCl 24 95 [.t 23],oMv 21 24,oEx 25 0 21,oEx 26 1 21,oP 3 aZ [],oSf 3 25,oMv 2 26] [1,2,3]) (.seq (.seq (rT [oMv 27 2,oUn 28 .not 27,oMv 29 28,oG 30 (.load (some 4)) [.t 3] 29 false,oG 31 (.faddr 4) [.t 1] 29 false,oG 32 (.load (some 4)) [.t 31] 29 false,
 oG 33 .call [cFn 37,.t 30,.t 32] 29 false,oG 34 .not [.t 33] 29 false,oP 35 .pick [.t 29,cBo true,.t 34]] [1,35]) (kRt 35 [oP 2 .mv [cBo false]] [2])) (.seq (rT [oUn 37 (.load (some 8)) 1,oCl 38 51 [.t 37],oMv 36 38,oEx 39 0 36,oEx 40 1 36,oP 4 (.alloc (some 8) (.agg [(some 4,
 (.agg A0)),(some 4,.agg [(none,.pv none (.int .i64 0)),(none,.pv none (.int .i64 0)),(none,.pv none (.str [])),(none,
 (.tsl (some 4) []))])])) [],⟨none,(.store (some 8)),[.t 4,.t 39],none⟩,oMv 5 40] [1,4,5]) (.seq (rT [oMv 41 5,oBc 42 .leq 41 64,oMv 43 42,oG 44 (.faddr 0) [.t 4] 43 true,oG 45 (.load (some 4)) [.t 44] 43 true,oG 46 (.faddr 0) [.t 1] 43 true,
 oG 47 (.load (some 4)) [.t 46] 43 true,oG 48 .call [cFn 37,.t 45,.t 47] 43 true,oP 49 .pick [.t 43,.t 48,cBo false],oMv 50 49,oG 51 (.faddr 4) [.t 4] 50 true,oG 52 (.load (some 4)) [.t 51] 50 true,oG 53 (.faddr 4) [.t 1] 50 true,oG 54 (.load (some 4)) [.t 53] 50 true,
 oG 55 .call [cFn 37,.t 52,.t 54] 50 true,oP 56 .pick [.t 50,.t 55,cBo false],oMv 2 56] [2]) .ret)))))
def g55:AFn:=⟨1,[(2,none)],c55,false,[],[],none⟩
theorem tr55:trFn Tryz.prog false 55 Tryz.f55=some g55:=by kernel_rfl
def c56:ACode:=.seq (rT [oUn 3 (.box (some 2)) 0,oP 6 .mv [cIn 0],oP 7 .mv [cBo false]] [1,2,3]) (.seq (rT [oFa 8 1 3,oLo 9 8,oMv 10 1,oMv 11 2,oP 12 (.build [(none,.pv none (.str [])),(none,.pv none (.int .i64 0)),(none,.pv none (.bool false)),(none,
 (.tsl (some 9) []))] [0,1]) [.t 10,.t 11],oCl 13 96 [.t 9,.t 12,cFn 97],oEx 14 0 13,oEx 15 1 13,oMv 6 14,oMv 7 15] [6,7]) .ret)
def g56:AFn:=⟨3,[(6,none),(7,none)],c56,false,[],[],none⟩
theorem tr56:trFn Tryz.prog false 56 Tryz.f56=some g56:=by kernel_rfl
def c57:ACode:=.seq (rT [oBx 1 0,oP 2 (.alloc (some 4) (.agg A2)) []] [1,2]) (.seq (rT [oFa 6 3 1,oLo 7 6,oUn 8 .len 7,oP 9 (.mkslice (some 9) (.agg [(none,
 (.int .i64 0)),(some 8,.agg [(some 4,.agg [(none,.int .i64 0),(none,.int .i64 0),(none,.str []),(none,.sl (some 4) [])]),(some 4,.agg [(none,.int .i64 0),(none,.int .i64 0),(none,.str []),(none,.sl (some 4) [])])])])) [.t 8,
 .t 8],oMv 3 9] [1,2,3]) (.seq (rT [oMv 10 3,oFa 11 3 1,oLo 12 11,oP 13 (.copy (some 9)) [.t 10,.t 12]] [1,2,3]) (.seq (.seq (rT [oMv 14 3,oUn 15 .len 14,oP 16 .mv [cIn 0]] [1,2,3,14,15,16]) (.block 0 (.loop [1,2,3,14,15,16] (.seq (rT [oBi 17 .lss 16 15] [1,
 2,3,14,15,16,17]) (.seq (kEx 17 0) (.seq (.block 1 (.seq (rT [oMv 18 16,oP 19 (.iaddr (some 9)) [.t 14,.t 16],oUn 20 (.load (some 9)) 19,oP 5 (.alloc (some 9) (.agg [(none,.pv none (.int .i64 0)),(some 8,.agg [(some 4,.agg [(none,.pv none (.int .i64 0)),
 (none,.pv none (.int .i64 0)),(none,.pv none (.str [])),(none,.tsl (some 4) [])]),(some 4,.agg A0)])])) [],oMv 4 18,
 ⟨none,(.store (some 9)),[.t 5,.t 20],none⟩] [1,2,3,4,5,14,15,16]) (rT [oMv 21 3,oMv 22 4,oUn 23 (.load (some 9)) 5,oCl 24 98 [.t 23],oP 25 (.iaddr (some 9)) [.t 21,.t 22],⟨none,(.store (some 9)),[.t 25,.t 24],none⟩] [1,2,3,14,15,16]))) (rT [oBc 26 .add 16 1,
 oMv 16 26] [1,2,3,14,15,16]))))))) (.seq (rT [oMv 27 3,oFa 28 3 1,oSo 28 27] [1,2]) (.seq (rT [oLf 29 1,oSf 2 29] [2]) .ret)))))
def g57:AFn:=⟨1,[(2,some (some 4))],c57,true,[],[],none⟩
theorem tr57:trFn Tryz.prog true 57 Tryz.f57=some g57:=by kernel_rfl
def c58:ACode:=.seq (rT [oP 4 .mv [cBo false]] [0,1]) (.seq (rT [oMv 5 0,oMv 6 1,oCl 7 99 [.t 5,.t 6],oBc 8 .geq 7 0,oMv 4 8] [4]) .ret)
def g58:AFn:=⟨2,[(4,none)],c58,false,[],[],none⟩
theorem tr58:trFn Tryz.prog false 58 Tryz.f58=some g58:=by kernel_rfl
def c60:ACode:=.seq (rT [oP 0 (.alloc (some 9) (.pv (some 9) (.agg [(none,.str []),(none,.str []),(none,.str []),(none,.str []),(none,.str []),(none,.str []),(none,.str []),(none,.str []),(none,.str [])]))) []] [0]) (.seq (rT [oP 1 (.build [(none,
 (.pv none (.str []))),(none,.pv none (.str [])),(none,.pv none (.str [])),(none,.pv none (.str [])),(none,.pv none (.str [])),(none,.pv none (.str [])),(none,.pv none (.str [])),(none,.pv none (.str [])),(none,.pv none (.str []))] [0,
 1,2,3,4,5,6,7,8]) [cSt [116,114,117,101,32,102,97,105,108,32,33,32,104,97,108,116,32,110,108,32,102,108,117,115,104,95,111,117,116,112,117,116,32,97,116,95,101,110,100,95,111,102,95,115,116,114,101,97,109],cSt [92,43,32,111,110,99,101,32,99,
 97,108,108,32,116,104,114,111,119,32,114,101,116,114,97,99,116,32,118,97,114,32,110,111,110,118,97,114,32,97,116,111,109,32,105,110,116,101,103,101,114,32,97,116,111,109,105,99,32,99,111,109,112,111,117,110,100,32,99,97,108,108,97,98,108,101,
 32,105,115,95,108,105,115,116,32,103,114,111,117,110,100,32,97,115,115,101,114,116,97,32,97,115,115,101,114,116,122,32,97,98,111,108,105,115,104,32,100,121,110,97,109,105,99,32,99,117,114,114,101,110,116,95,112,114,101,100,105,99,97,116,101,
 32,36,101,114,97,115,101,32,99,117,114,114,101,110,116,95,105,110,112,117,116,32,99,117,114,114,101,110,116,95,111,117,116,112,117,116,32,115,101,116,95,105,110,112,117,116,32,115,101,116,95,111,117,116,112,117,116,32,99,108,111,115,101,32,102,
 108,117,115,104,95,111,117,116,112,117,116,32,97,116,95,101,110,100,95,111,102,95,115,116,114,101,97,109,32,103,101,116,95,99,104,97,114,32,112,101,101,107,95,99,104,97,114,32,112,117,116,95,99,104,97,114,32,103,101,116,95,99,111,100,101,32,
 112,101,101,107,95,99,111,100,101,32,112,117,116,95,99,111,100,101,32,110,108,32,114,101,97,100,32,119,114,105,116,101,32,119,114,105,116,101,113,32,119,114,105,116,101,95,99,97,110,111,110,105,99,97,108],cSt [44,32,59,32,45,62,32,61,32,100,
 101,108,95,97,116,116,114,32,99,97,108,108,32,99,117,114,114,101,110,116,95,99,104,97,114,95,99,111,110,118,101,114,115,105,111,110,32,99,104,97,114,95,99,111,110,118,101,114,115,105,111,110,32,115,101,116,95,112,114,111,108,111,103,95,102,108,
 97,103,32,99,117,114,114,101,110,116,95,112,114,111,108,111,103,95,102,108,97,103,32,105,115,32,61,58,61,32,61,92,61,32,60,32,62,32,61,60,32,62,61,32,61,61,32,92,61,61,32,64,60,32,64,61,60,32,64,62,32,64,62,61,32,92,61,32,61,46,46,32,99,111,
 112,121,95,116,101,114,109,32,116,101,114,109,95,118,97,114,105,97,98,108,101,115,32,108,101,110,103,116,104,32,109,115,111,114,116,32,115,111,114,116,32,107,101,121,115,111,114,116,32,97,116,111,109,95,108,101,110,103,116,104,32,97,116,111,
 109,95,99,104,97,114,115,32,97,116,111,109,95,99,111,100,101,115,32,99,104,97,114,95,99,111,100,101,32,110,117,109,98,101,114,95,99,104,97,114,115,32,110,117,109,98,101,114,95,99,111,100,101,115,32,99,108,97,117,115,101,32,99,108,111,115,101,
 32,103,101,116,95,99,104,97,114,32,112,101,101,107,95,99,104,97,114,32,112,117,116,95,99,104,97,114,32,103,101,116,95,99,111,100,101,32,112,101,101,107,95,99,111,100,101,32,112,117,116,95,99,111,100,101,32,114,101,97,100,32,114,101,97,100,95,
 116,101,114,109,32,119,114,105,116,101,32,119,114,105,116,101,113,32,119,114,105,116,101,95,99,97,110,111,110,105,99,97,108,32,119,114,105,116,101,95,116,101,114,109],cSt [99,97,108,108,32,99,97,116,99,104,32,102,105,110,100,97,108,108,32,98,
 97,103,111,102,32,115,101,116,111,102,32,112,117,116,95,97,116,116,114,32,103,101,116,95,97,116,116,114,32,111,112,32,99,117,114,114,101,110,116,95,111,112,32,99,111,109,112,97,114,101,32,102,117,110,99,116,111,114,32,97,114,103,32,98,101,116,
 119,101,101,110,32,97,116,111,109,95,99,111,110,99,97,116,32,36,99,108,97,117,115,101,32,36,98,97,103,32,36,115,101,116,32,111,112,101,110,32,114,101,97,100,95,116,101,114,109,32,119,114,105,116,101,95,116,101,114,109],cSt [99,97,108,108,32,
 111,112,101,110],cSt [99,97,108,108,32,115,117,98,95,97,116,111,109],cSt [99,97,108,108],cSt [99,97,108,108],cSt [99,97,108,108]],⟨none,(.store (some 9)),[.t 0,.t 1],none⟩] [0]) .ret)
def g60:AFn:=⟨0,[(0,some (some 9))],c60,false,[],[],none⟩
theorem tr60:trFn Tryz.prog false 60 Tryz.f60=some g60:=by kernel_rfl
def c61:ACode:=.seq (rT [oUn 2 (.box (some 2)) 0,oUn 3 (.box none) 1,oP 4 .mv [cIn 0],oP 5 .mv [cIn 0],oP 6 .mv [cBo false]] [2,3]) (.seq (.seq (rT [oFa 10 1 2,oLo 11 10,oUn 12 .len 11,oP 13 .mv [cIn 0]] [3,11,12,13]) (.block 0 (.loop [3,11,12,13] (.seq (rT [oBi 14 .lss 13 12] [3,
 11,12,13,14]) (.seq (kEx 14 0) (.seq (.block 1 (.seq (rT [oMv 15 13,oIa 16 11 13,oLf 17 16,oP 8 (.alloc (some 4) (.agg A2)) [],
 oMv 7 15,oSf 8 17] [3,7,8,11,12,13]) (.seq (rT [oFa 18 3 8,oLo 19 18,oUn 20 (.mkfunc (.func 103) 0) 3,oCl 21 102 [.t 19,.t 20],oMv 9 21] [3,7,9,11,12,13]) (.seq (rT [oMv 22 9,oBc 23 .geq 22 0] [3,7,9,11,12,13,23]) (kRt 23 [oMv 24 7,oMv 25 9,
 oMv 4 24,oMv 5 25,oP 6 .mv [cBo true]] [4,5,6]))))) (rT [oBc 26 .add 13 1,oMv 13 26] [3,11,12,13]))))))) (.seq (rT [oP 4 .mv [cIn 0],oP 5 .mv [cIn 0],oP 6 .mv [cBo false]] [4,5,6]) .ret))
def g61:AFn:=⟨2,[(4,none),(5,none),(6,none)],c61,false,[],[],none⟩
theorem tr61:trFn Tryz.prog false 61 Tryz.f61=some g61:=by kernel_rfl
def c62:ACode:=.seq (rT [oUn 1 (.box (some 2)) 0,oP 2 (.alloc (some 2) (.agg A1)) []] [1,2]) (.seq (rT [oFa 6 1 1,oLo 7 6,oUn 8 .len 7,oP 9 (.mkslicev (some 4) (.agg [(none,.pv none (.str [])),(none,
 (.pv none (.int .i64 0))),(none,.pv none (.bool false)),(none,.tsl (some 9) [])])) [.t 8,.t 8],oMv 3 9] [1,2,3]) (.seq (.seq (rT [oFa 10 1 1,oLo 11 10,oUn 12 .len 11,oP 13 .mv [cIn 0]] [1,2,3,11,12,13]) (.block 0 (.loop [1,2,3,11,12,13] (.seq (rT [oBi 14 .lss 13 12] [1,
 2,3,11,12,13,14]) (.seq (kEx 14 0) (.seq (.block 1 (.seq (rT [oMv 15 13,oIa 16 11 13,oLf 17 16,oP 5 (.alloc (some 4) (.agg A2)) [],
 oMv 4 15,oSf 5 17] [1,2,3,4,5,11,12,13]) (rT [oMv 18 3,oMv 19 4,oLf 20 5,oCl 21 57 [.t 20],oIa 22 18 19,oSf 22 21] [1,2,3,11,12,13]))) (rT [oBc 23 .add 13 1,oMv 13 23] [1,2,3,11,12,13]))))))) (.seq (rT [oMv 24 3,oFa 25 1 1,oSo 25 24] [1,2]) (.seq (rT [oUn 26 (.load (some 2)) 1,
 ⟨none,(.store (some 2)),[.t 2,.t 26],none⟩] [2]) .ret))))
def g62:AFn:=⟨1,[(2,some (some 2))],c62,true,[],[],none⟩
theorem tr62:trFn Tryz.prog true 62 Tryz.f62=some g62:=by kernel_rfl
def c63:ACode:=.seq (rT [oP 6 (.nilsl (some 9)) []] [0,1,2]) (.seq (rT [oMv 8 0,oMv 9 1,oMv 10 2,oMv 11 0,oUn 12 .len 11,oP 13 (.slice3 (some 9) true) [.t 8,.t 9,.t 10,.t 12]] [0,1,2]) (.seq (.seq (rT [oMv 14 1,oMv 15 2,oBi 16 .eql 14 15] [0,1,2,16]) (kRt 16 [oMv 17 0,
 oMv 6 17] [6])) (.seq (rT [oMv 18 0,oUn 19 .len 18,oMv 7 19] [0,1,2,7]) (.seq (rT [oMv 20 0,oMv 21 1,oP 22 (.slice (some 9) false true) [.t 20,.t 21],oMv 23 0,oMv 24 2,oP 25 (.slice (some 9) true false) [.t 23,.t 24],oP 26 (.append (some 9)) [.t 22,
 .t 25],oMv 0 26] [0,7]) (.seq (rT [oMv 27 0,oMv 28 0,oUn 29 .len 28,oMv 30 7,oP 31 (.slice (some 9) true true) [.t 27,.t 29,.t 30],⟨none,(.clear (some 9) (.agg [(none,.int .i64 0),(some 8,.agg [(some 4,.agg [(none,.int .i64 0),(none,
 (.int .i64 0)),(none,.str []),(none,.sl (some 4) [])]),(some 4,.agg [(none,.int .i64 0),(none,.int .i64 0),(none,.str []),(none,.sl (some 4) [])])])])),[.t 31],none⟩] [0]) (.seq (rT [oMv 32 0,oMv 6 32] [6]) .ret))))))
def g63:AFn:=⟨3,[(6,none)],c63,true,[],[],none⟩
theorem tr63:trFn Tryz.prog true 63 Tryz.f63=some g63:=by kernel_rfl
def c64r0:LO:=[oBx 2 0,oBx 3 1,oP 4 .mv [cBo false]]
def c64r1:LO:=[oFa 6 0 2,oLo 7 6,oFa 8 0 3,oLo 9 8,oBi 10 .neq 7 9,oMv 11 10,oG 12 (.faddr 1) [.t 2] 11 false,oG 13 (.load none) [.t 12] 11 false,oG 14 (.faddr 1) [.t 3] 11 false,oG 15 (.load none) [.t 14] 11 false,oG 16 (.bin .neq) [.t 13,.t 15] 11 false,
 oP 17 .pick [.t 11,cBo true,.t 16],oMv 18 17,oG 19 (.faddr 2) [.t 2] 18 false,oG 20 (.load none) [.t 19] 18 false,oG 21 (.faddr 2) [.t 3] 18 false,oG 22 (.load none) [.t 21] 18 false,oG 23 (.bin .neq) [.t 20,.t 22] 18 false,oP 24 .pick [.t 18,
 cBo true,.t 23],oMv 25 24,oG 26 (.faddr 3) [.t 2] 25 false,oG 27 (.load none) [.t 26] 25 false,oG 28 .len [.t 27] 25 false,oG 29 (.faddr 3) [.t 3] 25 false,oG 30 (.load none) [.t 29] 25 false,oG 31 .len [.t 30] 25 false,oG 32 (.bin .neq) [.t 28,
 .t 31] 25 false,oP 33 .pick [.t 25,cBo true,.t 32]]
def c64r2:LO:=[oP 4 .mv [cBo false]]
def c64k3:ACode:=kRt 33 c64r2 [4]
def c64r4:LO:=[oP 5 .mv [cIn 0]]
def c64r5:LO:=[oMv 34 5,oFa 35 3 2,oLo 36 35,oUn 37 .len 36,oBi 38 .lss 34 37]
def c64k6:ACode:=kEx 38 0
def c64r7:LO:=[oFa 41 3 2,oLo 42 41,oMv 43 5,oIa 44 42 43,oLf 45 44,oFa 46 3 3,oLo 47 46,oMv 48 5,oIa 49 47 48,oLf 50 49,oCl 51 64 [.t 45,.t 50],oUn 52 .not 51]
def c64r8:LO:=[oP 4 .mv [cBo false]]
def c64k9:ACode:=kRt 52 c64r8 [4]
def c64k10:ACode:=.block 1 (.seq (rT c64r7 [2,3,5,52]) c64k9)
def c64r11:LO:=[oMv 39 5,oBc 40 .add 39 1,oMv 5 40]
def c64b12:ACode:=.seq (.seq (rT c64r5 [2,3,5,38]) c64k6) (.seq c64k10 (rT c64r11 [2,3,5]))
def c64k13:ACode:=.block 0 (.loop [2,3,5] c64b12)
def c64r14:LO:=[oP 4 .mv [cBo true]]
def c64:ACode:=.seq (rT c64r0 [2,3]) (.seq (.seq (rT c64r1 [2,3,33]) c64k3) (.seq (.seq (rT c64r4 [2,3,5]) c64k13) (.seq (rT c64r14 [4]) .ret)))
def g64:AFn:=⟨2,[(4,none)],c64,false,[],[],none⟩
theorem tr64:trFn Tryz.prog false 64 Tryz.f64=some g64:=by kernel_rfl
def c65:ACode:=.seq (rT [oP 4 .mv [cBo false]] [0,1]) (.seq (.seq (rT [oMv 6 0,oUn 7 .len 6,oMv 8 1,oUn 9 .len 8,oBi 10 .neq 7 9] [0,1,10]) (kRt 10 [oP 4 .mv [cBo false]] [4])) (.seq (.seq (rT [oP 5 .mv [cIn 0]] [0,1,5]) (.block 0 (.loop [0,1,5] (.seq (.seq (rT [oMv 11 5,
 oMv 12 0,oUn 13 .len 12,oBi 14 .lss 11 13] [0,1,5,14]) (kEx 14 0)) (.seq (.block 1 (.seq (rT [oMv 17 0,oMv 18 5,oIa 19 17 18,oLf 20 19,oMv 21 1,oMv 22 5,oIa 23 21 22,oLf 24 23,oCl 25 44 [.t 20,.t 24],oUn 26 .not 25] [0,1,5,26]) (kRt 26 [oP 4 .mv [cBo false]] [4]))) (rT [oMv 15 5,
 oBc 16 .add 15 1,oMv 5 16] [0,1,5])))))) (.seq (rT [oP 4 .mv [cBo true]] [4]) .ret)))
def g65:AFn:=⟨2,[(4,none)],c65,false,[],[],none⟩
theorem tr65:trFn Tryz.prog false 65 Tryz.f65=some g65:=by kernel_rfl
def c66:ACode:=.seq (rT [oBx 1 0,oP 2 aZ [],oP 3 .mv [cBo false]] [1,2]) (.seq (.seq (rT [oFa 8 0 1,oLo 9 8,oBc 10 .eql 9 0] [1,2,10]) (kRt 10 [oLf 11 1,oUn 12 (.bslice (some 4)) 11,oP 13 (bZ [0,2,3]) [cIn 3,cSt [99,97,108,108],.t 12],oSf 2 13,oP 3 .mv [cBo true]] [2,
 3])) (.seq (.seq (rT [oFa 14 0 1,oLo 15 14,oBc 16 .eql 15 1] [1,2,16]) (kRt 16 [oP 17 (bZ []) [],oSf 2 17,oP 3 .mv [cBo false]] [2,3])) (.seq (.seq (rT [oLf 18 1,oCl 19 104 [.t 18],oUn 20 .not 19] [1,2,20]) (kRt 20 [oLf 21 1,oCl 22 105 [.t 21],
 oSf 2 22,oP 3 .mv [cBo true]] [2,3])) (.seq (rT [oFa 24 3 1,oLo 25 24,oP 26 (.iaddr (some 4)) [.t 25,cIn 0],oLf 27 26,oCl 28 66 [.t 27],oMv 23 28,oEx 29 0 23,oEx 30 1 23,oP 4 aZ [],oSf 4 29,oMv 5 30] [1,2,4,5]) (.seq (rT [oFa 32 3 1,oLo 33 32,
 oP 34 (.iaddr (some 4)) [.t 33,cIn 1],oLf 35 34,oCl 36 66 [.t 35],oMv 31 36,oEx 37 0 31,oEx 38 1 31,oP 6 aZ [],oSf 6 37,oMv 7 38] [1,2,4,5,6,7]) (.seq (rT [oFa 39 2 1,oLo 40 39,oLf 41 4,oLf 42 6,oP 43 (.bslice (some 4)) [.t 41,.t 42],oP 44 (bZ [0,
 2,3]) [cIn 3,.t 40,.t 43],oMv 45 5,oMv 46 45,oG 47 .mv [.t 7] 46 true,oP 48 .pick [.t 46,.t 47,cBo false],oSf 2 44,oMv 3 48] [2,3]) .ret))))))
def g66:AFn:=⟨1,[(2,some (some 4)),(3,none)],c66,false,[],[],none⟩
theorem tr66:trFn Tryz.prog false 66 Tryz.f66=some g66:=by kernel_rfl
def c67:ACode:=.seq (rT [oP 2 (.nilsl none) []] [0]) (.seq (rT [oP 3 (.nilsl none) []] [0,3]) (.seq (.seq (rT [oP 4 .mv [cIn 0]] [0,3,4]) (.block 0 (.loop [0,3,4] (.seq (.seq (rT [oMv 5 4,oMv 6 0,oUn 7 .len 6,oBi 8 .lss 5 7] [0,3,4,8]) (kEx 8 0)) (.seq (.block 1 (rT [oMv 11 3,
 oMv 12 0,oMv 13 4,oIa 14 12 13,oLf 15 14,oCl 16 35 [.t 11,.t 15],oMv 3 16] [0,3,4])) (rT [oMv 9 4,oBc 10 .add 9 1,oMv 4 10] [0,3,4])))))) (.seq (rT [oMv 17 3,oMv 2 17] [2]) .ret)))
def g67:AFn:=⟨1,[(2,none)],c67,false,[],[],none⟩
theorem tr67:trFn Tryz.prog false 67 Tryz.f67=some g67:=by kernel_rfl
def c68:ACode:=.seq (rT [oP 2 (.nilsl (some 4)) []] [0]) (.seq (rT [oMv 6 0,oCl 7 67 [.t 6],oMv 3 7] [0,3]) (.seq (rT [oP 4 (.nilsl (some 4)) []] [0,3,4]) (.seq (.seq (rT [oP 5 .mv [cIn 0]] [0,3,4,5]) (.block 0 (.loop [0,3,4,5] (.seq (.seq (rT [oMv 8 5,oMv 9 0,
 oUn 10 .len 9,oBi 11 .lss 8 10] [0,3,4,5,11]) (kEx 11 0)) (.seq (.block 1 (rT [oMv 14 4,oMv 15 3,oMv 16 0,oMv 17 5,oIa 18 16 17,oLf 19 18,oCl 20 34 [.t 15,.t 19],oUn 21 (.bslice (some 4)) 20,oP 22 (.append (some 4)) [.t 14,.t 21],oMv 4 22] [0,
 3,4,5])) (rT [oMv 12 5,oBc 13 .add 12 1,oMv 5 13] [0,3,4,5])))))) (.seq (rT [oMv 23 4,oMv 2 23] [2]) .ret))))
def g68:AFn:=⟨1,[(2,none)],c68,false,[],[],none⟩
theorem tr68:trFn Tryz.prog false 68 Tryz.f68=some g68:=by kernel_rfl
def c69:ACode:=.seq (rT [oBx 2 0,oP 4 .mv [cIn 0]] [1,2]) (.seq (rT [oP 5 .mv [cIn 1]] [1,2,5]) (.seq (.seq (rT [oP 6 .mv [cIn 0]] [1,2,5,6]) (.block 0 (.loop [1,2,5,6] (.seq (.seq (rT [oMv 7 6,oFa 8 3 2,oLo 9 8,oUn 10 .len 9,oBi 11 .lss 7 10,oMv 12 11,oG 13 .mv [.t 5] 12 true,
 oG 14 .mv [.t 1] 12 true,oG 15 (.bin .lss) [.t 13,.t 14] 12 true,oP 16 .pick [.t 12,.t 15,cBo false]] [1,2,5,6,16]) (kEx 16 0)) (.seq (.block 1 (rT [oMv 19 5,oFa 20 3 2,oLo 21 20,oMv 22 6,oIa 23 21 22,oLf 24 23,oMv 25 1,oMv 26 5,oBi 27 .sub 25 26,
 oCl 28 69 [.t 24,.t 27],oBi 29 .add 19 28,oMv 5 29] [1,2,5,6])) (rT [oMv 17 6,oBc 18 .add 17 1,oMv 6 18] [1,2,5,6])))))) (.seq (rT [oMv 30 5,oMv 4 30] [4]) .ret)))
def g69:AFn:=⟨2,[(4,none)],c69,false,[],[],none⟩
theorem tr69:trFn Tryz.prog false 69 Tryz.f69=some g69:=by kernel_rfl
def c70:ACode:=.seq (rT [oBx 1 0,oP 2 .mv [cBo false]] [1]) (.seq (.seq (rT [oFa 3 0 1,oLo 4 3] [1,4]) (.block 0 (.seq (rT [oBc 6 .eql 4 0,oMv 5 6] [1,4,5]) (.cond (.t 5) (.seq (rT [oFa 7 1 1,oLo 8 7,oBc 9 .geq 8 0,oMv 10 9,oG 11 (.faddr 1) [.t 1] 10 true,
 oG 12 (.load none) [.t 11] 10 true,oG 13 (.bin .leq) [.t 12,cIn 1099511627776] 10 true,oP 14 .pick [.t 10,.t 13,cBo false],oMv 15 14,oG 16 (.faddr 2) [.t 1] 15 true,oG 17 (.load none) [.t 16] 15 true,oG 18 (.bin .eql) [.t 17,cSt []] 15 true,
 oP 19 .pick [.t 15,.t 18,cBo false],oMv 20 19,oG 21 (.faddr 3) [.t 1] 20 true,oG 22 (.load none) [.t 21] 20 true,oG 23 .len [.t 22] 20 true,oG 24 (.bin .eql) [.t 23,cIn 0] 20 true,oP 25 .pick [.t 20,.t 24,cBo false],oMv 2 25] [2]) .ret) (.seq (rT [oBc 27 .eql 4 1,
 oMv 26 27] [1,4,26]) (.cond (.t 26) (.seq (rT [oFa 28 2 1,oLo 29 28,oP 30 (.bin .eql) [.t 29,cSt []],oMv 31 30,oG 32 (.faddr 3) [.t 1] 31 true,oG 33 (.load none) [.t 32] 31 true,oG 34 .len [.t 33] 31 true,oG 35 (.bin .eql) [.t 34,cIn 0] 31 true,
 oP 36 .pick [.t 31,.t 35,cBo false],oMv 2 36] [2]) .ret) (.seq (rT [oBc 38 .eql 4 2,oMv 37 38] [1,4,37]) (.cond (.t 37) (.seq (rT [oFa 39 1 1,oLo 40 39,oBc 41 .eql 40 0,oMv 42 41,oG 43 (.faddr 2) [.t 1] 42 true,oG 44 (.load none) [.t 43] 42 true,
 oG 45 .slen [.t 44] 42 true,oG 46 (.bin .leq) [.t 45,cIn 100] 42 true,oP 47 .pick [.t 42,.t 46,cBo false],oMv 48 47,oG 49 (.faddr 3) [.t 1] 48 true,oG 50 (.load none) [.t 49] 48 true,oG 51 .len [.t 50] 48 true,oG 52 (.bin .eql) [.t 51,cIn 0] 48 true,
 oP 53 .pick [.t 48,.t 52,cBo false],oMv 2 53] [2]) .ret) (.seq (rT [oBc 55 .eql 4 3,oMv 54 55] [1,54]) (kRt 54 [oFa 56 1 1,oLo 57 56,oBc 58 .eql 57 0,oMv 59 58,oG 60 (.faddr 2) [.t 1] 59 true,oG 61 (.load none) [.t 60] 59 true,oG 62 .slen [.t 61] 59 true,
 oG 63 (.bin .leq) [.t 62,cIn 100] 59 true,oP 64 .pick [.t 59,.t 63,cBo false],oMv 65 64,oG 66 (.faddr 3) [.t 1] 65 true,oG 67 (.load none) [.t 66] 65 true,oG 68 .len [.t 67] 65 true,oG 69 (.bin .geq) [.t 68,cIn 1] 65 true,oP 70 .pick [.t 65,
 .t 69,cBo false],oMv 71 70,oG 72 (.faddr 3) [.t 1] 71 true,oG 73 (.load none) [.t 72] 71 true,oG 74 .len [.t 73] 71 true,oG 75 (.bin .leq) [.t 74,cIn 8] 71 true,oP 76 .pick [.t 71,.t 75,cBo false],oMv 2 76] [2])))))))))) (.seq (rT [oP 2 .mv [cBo false]] [2]) .ret))
def g70:AFn:=⟨1,[(2,none)],c70,false,[],[],none⟩
theorem tr70:trFn Tryz.prog false 70 Tryz.f70=some g70:=by kernel_rfl
def c71:ACode:=.seq (rT [oP 0 (.alloc (some 2) (.agg A1)) []] [0]) (.seq (rT [oP 1 (.build A1 [0]) [cIn 1],⟨none,(.store (some 2)),[.t 0,.t 1],none⟩] [0]) .ret)
def g71:AFn:=⟨0,[(0,some (some 2))],c71,false,[],[],none⟩
theorem tr71:trFn Tryz.prog false 71 Tryz.f71=some g71:=by kernel_rfl
def c72:ACode:=.seq (rT [oP 4 .mv [cIn 0]] [0,1]) (.seq (.seq (rT [oP 5 .mv [cIn 0]] [0,1,5]) (.block 0 (.loop [0,1,5] (.seq (.seq (rT [oMv 6 5,oMv 7 0,oUn 8 .len 7,oBi 9 .lss 6 8] [0,1,5,9]) (kEx 9 0)) (.seq (.block 1 (.seq (rT [oMv 12 0,oMv 13 5,oP 14 (.iaddr none) [.t 12,
 .t 13],oLo 15 14,oMv 16 1,oBi 17 .eql 15 16] [0,1,5,17]) (kRt 17 [oMv 18 5,oMv 4 18] [4]))) (rT [oMv 10 5,oBc 11 .add 10 1,oMv 5 11] [0,1,5])))))) (.seq (rT [oP 4 .mv [.c (.pv none (.int .i64 (-1)))]] [4]) .ret))
def g72:AFn:=⟨2,[(4,none)],c72,false,[],[],none⟩
theorem tr72:trFn Tryz.prog false 72 Tryz.f72=some g72:=by kernel_rfl
def c73:ACode:=.seq (rT [oBx 1 0,oP 2 .mv [cIn 0]] [1]) (.seq (rT [oP 3 (.alloc none (.pv none (.int .i64 0))) [],⟨none,(.store none),[.t 3,cIn 2001],none⟩] [1,3]) (.seq (rT [oP 4 (.alloc none (.pv none .nilfunc)) []] [1,3,4]) (.seq (rT [oP 5 (.mkfunc (.func 106) 0) [.t 3,
 .t 4],oSo 4 5] [1,3,4]) (.seq (rT [oLo 6 4,oLf 7 1,oP 8 .call [.t 6,.t 7]] [3]) (.seq (rT [oLo 9 3,oP 10 (.bin .sub) [cIn 2001,.t 9],oMv 2 10] [2]) .ret)))))
def g73:AFn:=⟨1,[(2,none)],c73,false,[],[],none⟩
theorem tr73:trFn Tryz.prog false 73 Tryz.f73=some g73:=by kernel_rfl
def c74r0:LO:=[oBx 1 0,oP 2 .mv [cBo false]]
def c74r1:LO:=[oP 3 .mv [cBo false]]
def c74r2:LO:=[oFa 5 0 1,oLo 6 5]
def c74r3:LO:=[oBc 8 .eql 6 0,oMv 7 8]
def c74r4:LO:=[oFa 9 1 1,oLo 10 9,oBc 11 .geq 10 0,oMv 12 11,oG 13 (.faddr 1) [.t 1] 12 true,oG 14 (.load none) [.t 13] 12 true,oG 15 (.bin .leq) [.t 14,cIn 1099511627776] 12 true,oP 16 .pick [.t 12,.t 15,cBo false],oMv 17 16,oG 18 (.faddr 2) [.t 1] 17 true,
 oG 19 (.load none) [.t 18] 17 true,oG 20 (.bin .eql) [.t 19,cSt []] 17 true,oP 21 .pick [.t 17,.t 20,cBo false],oMv 22 21,oG 23 (.faddr 3) [.t 1] 22 true,oG 24 (.load none) [.t 23] 22 true,oG 25 .len [.t 24] 22 true,oG 26 (.bin .eql) [.t 25,
 cIn 0] 22 true,oP 27 .pick [.t 22,.t 26,cBo false],oMv 3 27]
def c74r5:LO:=[oBc 29 .eql 6 1,oMv 28 29]
def c74r6:LO:=[oFa 30 2 1,oLo 31 30,oP 32 (.bin .eql) [.t 31,cSt []],oMv 33 32,oG 34 (.faddr 3) [.t 1] 33 true,oG 35 (.load none) [.t 34] 33 true,oG 36 .len [.t 35] 33 true,oG 37 (.bin .eql) [.t 36,cIn 0] 33 true,oP 38 .pick [.t 33,.t 37,cBo false],oMv 3 38]
def c74r7:LO:=[oBc 40 .eql 6 2,oMv 39 40]
def c74r8:LO:=[oFa 41 1 1,oLo 42 41,oBc 43 .eql 42 0,oMv 44 43,oG 45 (.faddr 2) [.t 1] 44 true,oG 46 (.load none) [.t 45] 44 true,oG 47 .slen [.t 46] 44 true,oG 48 (.bin .leq) [.t 47,cIn 100] 44 true,oP 49 .pick [.t 44,.t 48,cBo false],oMv 50 49,oG 51 (.faddr 3) [.t 1] 50 true,
 oG 52 (.load none) [.t 51] 50 true,oG 53 .len [.t 52] 50 true,oG 54 (.bin .eql) [.t 53,cIn 0] 50 true,oP 55 .pick [.t 50,.t 54,cBo false],oMv 3 55]
def c74r9:LO:=[oBc 57 .eql 6 3,oMv 56 57]
def c74r10:LO:=[oFa 58 1 1,oLo 59 58,oBc 60 .eql 59 0,oMv 61 60,oG 62 (.faddr 2) [.t 1] 61 true,oG 63 (.load none) [.t 62] 61 true,oG 64 .slen [.t 63] 61 true,oG 65 (.bin .leq) [.t 64,cIn 100] 61 true,oP 66 .pick [.t 61,.t 65,cBo false],oMv 67 66,oG 68 (.faddr 3) [.t 1] 67 true,
 oG 69 (.load none) [.t 68] 67 true,oG 70 .len [.t 69] 67 true,oG 71 (.bin .gtr) [.t 70,cIn 0] 67 true,oP 72 .pick [.t 67,.t 71,cBo false],oMv 73 72,oG 74 (.faddr 3) [.t 1] 73 true,oG 75 (.load none) [.t 74] 73 true,oG 76 .len [.t 75] 73 true,
 oG 77 (.bin .leq) [.t 76,cIn 8] 73 true,oP 78 .pick [.t 73,.t 77,cBo false],oMv 3 78]
def c74k11:ACode:=.cond (.t 56) (rT c74r10 [1,3]) .skip
def c74k12:ACode:=.cond (.t 39) (rT c74r8 [1,3]) (.seq (rT c74r9 [1,3,56]) c74k11)
def c74k13:ACode:=.cond (.t 28) (rT c74r6 [1,3]) (.seq (rT c74r7 [1,3,6,39]) c74k12)
def c74k14:ACode:=.cond (.t 7) (rT c74r4 [1,3]) (.seq (rT c74r5 [1,3,6,28]) c74k13)
def c74k15:ACode:=.block 0 (.seq (rT c74r3 [1,3,6,7]) c74k14)
def c74r16:LO:=[oP 4 .mv [cIn 0]]
def c74r17:LO:=[oMv 79 4,oFa 80 3 1,oLo 81 80,oUn 82 .len 81,oBi 83 .lss 79 82,oMv 84 83,oG 85 .mv [.t 3] 84 true,oP 86 .pick [.t 84,.t 85,cBo false]]
def c74k18:ACode:=kEx 86 1
def c74r19:LO:=[oFa 89 3 1,oLo 90 89,oMv 91 4,oIa 92 90 91,oLf 93 92,oCl 94 74 [.t 93],oMv 3 94]
def c74k20:ACode:=.block 2 (rT c74r19 [1,3,4])
def c74r21:LO:=[oMv 87 4,oBc 88 .add 87 1,oMv 4 88]
def c74b22:ACode:=.seq (.seq (rT c74r17 [1,3,4,86]) c74k18) (.seq c74k20 (rT c74r21 [1,3,4]))
def c74k23:ACode:=.block 1 (.loop [1,3,4] c74b22)
def c74r24:LO:=[oMv 95 3,oMv 2 95]
def c74:ACode:=.seq (rT c74r0 [1]) (.seq (rT c74r1 [1,3]) (.seq (.seq (rT c74r2 [1,3,6]) c74k15) (.seq (.seq (rT c74r16 [1,3,4]) c74k23) (.seq (rT c74r24 [2]) .ret))))
def g74:AFn:=⟨1,[(2,none)],c74,false,[],[],none⟩
theorem tr74:trFn Tryz.prog false 74 Tryz.f74=some g74:=by kernel_rfl
def c75r0:LO:=[oBx 2 0,oBx 3 1,oP 4 .mv [cBo false]]
def c75r1:LO:=[oFa 7 0 2,oLo 8 7,oFa 9 0 3,oLo 10 9,oBi 11 .neq 8 10,oMv 12 11,oG 13 (.faddr 1) [.t 2] 12 false,oG 14 (.load none) [.t 13] 12 false,oG 15 (.faddr 1) [.t 3] 12 false,oG 16 (.load none) [.t 15] 12 false,oG 17 (.bin .neq) [.t 14,.t 16] 12 false,
 oP 18 .pick [.t 12,cBo true,.t 17],oMv 19 18,oG 20 (.faddr 2) [.t 2] 19 false,oG 21 (.load none) [.t 20] 19 false,oG 22 (.faddr 2) [.t 3] 19 false,oG 23 (.load none) [.t 22] 19 false,oG 24 (.bin .neq) [.t 21,.t 23] 19 false,oP 25 .pick [.t 19,
 cBo true,.t 24],oMv 26 25,oG 27 (.faddr 3) [.t 2] 26 false,oG 28 (.load none) [.t 27] 26 false,oG 29 .len [.t 28] 26 false,oG 30 (.faddr 3) [.t 3] 26 false,oG 31 (.load none) [.t 30] 26 false,oG 32 .len [.t 31] 26 false,oG 33 (.bin .neq) [.t 29,
 .t 32] 26 false,oP 34 .pick [.t 26,cBo true,.t 33]]
def c75r2:LO:=[oP 4 .mv [cBo false]]
def c75k3:ACode:=kRt 34 c75r2 [4]
def c75r4:LO:=[oFa 35 3 2,oLo 36 35,oUn 37 .len 36,oP 38 .mv [cIn 0]]
def c75r5:LO:=[oBi 39 .lss 38 37]
def c75k6:ACode:=kEx 39 0
def c75r7:LO:=[oMv 40 38,oIa 41 36 38,oLf 42 41,oP 6 aZ [],oMv 5 40,oSf 6 42]
def c75r8:LO:=[oLf 43 6,oFa 44 3 3,oLo 45 44,oMv 46 5,oIa 47 45 46,oLf 48 47,oCl 49 75 [.t 43,.t 48],oUn 50 .not 49]
def c75r9:LO:=[oP 4 .mv [cBo false]]
def c75k10:ACode:=kRt 50 c75r9 [4]
def c75k11:ACode:=.block 1 (.seq (rT c75r7 [3,5,6,36,37,38]) (.seq (rT c75r8 [3,36,37,38,50]) c75k10))
def c75r12:LO:=[oBc 51 .add 38 1,oMv 38 51]
def c75b13:ACode:=.seq (rT c75r5 [3,36,37,38,39]) (.seq c75k6 (.seq c75k11 (rT c75r12 [3,36,37,38])))
def c75k14:ACode:=.block 0 (.loop [3,36,37,38] c75b13)
def c75r15:LO:=[oP 4 .mv [cBo true]]
def c75:ACode:=.seq (rT c75r0 [2,3]) (.seq (.seq (rT c75r1 [2,3,34]) c75k3) (.seq (.seq (rT c75r4 [3,36,37,38]) c75k14) (.seq (rT c75r15 [4]) .ret)))
def g75:AFn:=⟨2,[(4,none)],c75,false,[],[],none⟩
theorem tr75:trFn Tryz.prog false 75 Tryz.f75=some g75:=by kernel_rfl
def c76:ACode:=.seq (rT [oBx 2 0,oP 4 aZ []] [1,2,4]) (.seq (.seq (rT [oFa 8 0 2,oLo 9 8,oBc 10 .eql 9 0] [1,2,4,10]) (kRt 10 [oMv 11 1,oLf 12 2,oP 13 .call [.t 11,.t 12],oSf 4 13] [4])) (.seq (rT [oFa 14 0 2,oLo 15 14,oFa 16 1 2,oLo 17 16,oFa 18 2 2,oLo 19 18,
 oP 20 (bZ [0,1,2]) [.t 15,.t 17,.t 19],oP 5 aZ [],oSf 5 20] [1,2,4,5]) (.seq (.seq (rT [oFa 21 3 2,oLo 22 21,oUn 23 .len 22,oP 24 .mv [cIn 0]] [1,4,5,22,23,24]) (.block 0 (.loop [1,4,5,22,23,24] (.seq (rT [oBi 25 .lss 24 23] [1,4,5,22,23,24,
 25]) (.seq (kEx 25 0) (.seq (.block 1 (.seq (rT [oIa 26 22 24,oLf 27 26,oP 7 aZ [],oSf 7 27] [1,4,5,7,22,23,24]) (.region false [oFa 28 3 5,oLo 29 28,oLf 30 7,oMv 31 1,oP 32 (.calln 1) [.t 28,cFn 76,.t 30,.t 31],oP 33 (.bslicen (some 4) 1) [.t 28,
 .t 32],oP 34 (.append (some 4)) [.t 29,.t 33],oFa 35 3 5,oSo 35 34] [1,4,5,22,23,24]))) (rT [oBc 36 .add 24 1,oMv 24 36] [1,4,5,22,23,24]))))))) (.seq (rT [oLf 37 5,oSf 4 37] [4]) .ret))))
def g76:AFn:=⟨2,[(4,some (some 4))],c76,true,[],[],none⟩
theorem tr76:trFn Tryz.prog true 76 Tryz.f76=some g76:=by kernel_rfl
def c77:ACode:=.seq (rT [oBx 2 0,oP 3 aZ []] [1,2,3]) (.seq (rT [oLo 7 1,oFa 8 1 2,oLo 9 8,oP 10 (.lookup false none (.pv none (.int .i64 0)) true) [.t 7,.t 9],oMv 6 10,oEx 11 0 6,oEx 12 1 6,oMv 4 11,oMv 5 12] [1,2,3,4,5]) (.seq (.seq (rT [oMv 13 5,oUn 14 .not 13] [1,
 2,3,4,14]) (.cond (.t 14) (.seq (rT [oLo 15 1,oUn 16 .mlen 15,oMv 4 16] [1,2,3,4]) (rT [oLo 17 1,oFa 18 1 2,oLo 19 18,oMv 20 4,⟨none,(.mapset false none),[.t 17,.t 19,.t 20],none⟩] [3,4])) .skip)) (.seq (rT [oMv 21 4,oP 22 (bZ [1]) [.t 21],oSf 3 22] [3]) .ret)))
def g77:AFn:=⟨2,[(3,some (some 4))],c77,true,[],[],none⟩
theorem tr77:trFn Tryz.prog true 77 Tryz.f77=some g77:=by kernel_rfl
def c78:ACode:=.seq (rT [oMv 9 0,oUn 10 .nilcheck 9,oFa 11 2 10,oFa 12 3 11,oLo 13 12,oP 14 (.iaddr (some 4)) [.t 13,cIn 0],oLf 15 14,oCl 16 14 [.t 15],oMv 8 16,oEx 17 0 8,oEx 18 1 8,oEx 19 2 8,oP 2 (.alloc (some 8) (.agg [(some 4,.agg [(none,.pv none (.int .i64 0)),
 (none,.pv none (.int .i64 0)),(none,.pv none (.str [])),(none,.tsl (some 4) [])]),(some 4,.agg A0)])) [],oP 3 aZ [],
 ⟨none,(.store (some 8)),[.t 2,.t 17],none⟩,oSf 3 18,oMv 4 19] [0,2,3,4]) (.seq (.seq (rT [oMv 20 4,oBc 21 .eql 20 8] [0,2,3,4,21]) (.cond (.t 21) (rT [oLf 22 3,oCl 23 107 [.t 22]] [0,2,4]) .skip)) (.seq (rT [oMv 24 4,oCl 25 108 [.t 24]] [0,2]) (.seq (rT [oFa 26 0 2,
 oFa 27 2 26,oLo 28 27,oFa 29 0 2,oFa 30 3 29,oLo 31 30,oUn 32 .len 31,oMv 5 28,oMv 6 32] [0,2,5,6]) (.seq (rT [oMv 33 0,oMv 34 5,oMv 35 6,oMv 36 5,oMv 37 6,oCl 38 110 [.t 36,.t 37],oCl 39 109 [.t 33,.t 34,.t 35,.t 38]] [0,2]) (.seq (.region false [oMv 41 0,
 oUn 42 .nilcheck 41,oFa 43 0 42,oUn 44 (.load (some 2)) 43,oUn 45 (.load (some 8)) 2,oMv 46 0,oUn 47 .nilcheck 46,oFa 48 2 47,oFa 49 2 48,oLo 50 49,oP 51 (.bin .eql) [.t 50,cSt [97,115,115,101,114,116,97]],oCl 52 111 [.t 44,.t 45,.t 51,cBo true],
 oMv 40 52,oEx 53 0 40,oEx 54 1 40,oP 7 (.alloc (some 2) (.agg A1)) [],⟨none,(.store (some 2)),[.t 7,.t 53],none⟩,oMv 4 54] [0,4,7]) (.seq (rT [oMv 55 4,oCl 56 108 [.t 55]] [0,7]) (.seq (rT [oMv 57 0,
 oUn 58 (.load (some 2)) 7,oUn 59 .nilcheck 57,oFa 60 0 59,⟨none,(.store (some 2)),[.t 60,.t 58],none⟩] [0]) (rT [oMv 61 0,oCl 62 112 [.t 61]] []))))))))
def g78:AFn:=⟨1,[],c78,true,[],[],none⟩
theorem tr78:trFn Tryz.prog true 78 Tryz.f78=some g78:=by kernel_rfl
def c82:ACode:=.seq (rT [oMv 23 0,oUn 24 .nilcheck 23,oFa 25 2 24,oFa 26 3 25,oLo 27 26,oP 28 (.iaddr (some 4)) [.t 27,cIn 0],oLf 29 28,oMv 30 0,oUn 31 .nilcheck 30,oFa 32 2 31,oFa 33 3 32,oLo 34 33,oP 35 (.iaddr (some 4)) [.t 34,cIn 1],oLf 36 35,oP 2 aZ [],
 oP 3 aZ [],⟨none,(.storen (some 4)),[.t 2,.t 29,.t 33,.t 35],none⟩,oSf 3 36] [0,2,3]) (.seq (.seq (rT [oLf 38 2,oCl 39 118 [.t 38],oMv 37 39,oEx 40 0 37,oEx 41 1 37,oP 4 aZ [],oSf 4 40,oMv 5 41] [0,2,3,4,5]) (.seq (rT [oMv 42 5,oUn 43 .not 42] [0,
 2,3,4,43]) (.cond (.t 43) (rT [oLf 44 4,oCl 45 107 [.t 44]] [0,2,3]) .skip))) (.seq (.seq (rT [oFa 46 0 3,oLo 47 46,oBc 48 .eql 47 1] [0,2,3,48]) (.cond (.t 48) (rT [oLf 49 3,oCl 50 48 [cSt [99,97,108,108,97,98,108,101],.t 49],oCl 51 107 [.t 50]] [0,
 2]) .skip)) (.seq (rT [oFa 52 2 2,oLo 53 52,oFa 54 3 2,oLo 55 54,oUn 56 .len 55,oMv 6 53,oMv 7 56] [0,6,7]) (.seq (rT [oMv 57 0,oUn 58 .nilcheck 57,oFa 59 2 58,oFa 60 3 59,oLo 61 60,oUn 62 .len 61,oBc 63 .eql 62 3,oMv 8 63] [0,6,7,8]) (.seq (.seq (rT [oMv 64 8] [0,
 6,7,8,64]) (.cond (.t 64) (.seq (rT [oMv 65 0,oMv 66 6,oMv 67 7,oMv 68 6,oMv 69 7,oCl 70 110 [.t 68,.t 69],oCl 71 109 [.t 65,.t 66,.t 67,.t 70]] [0,6,7,8]) (.seq (rT [oMv 72 0,oUn 73 .nilcheck 72,oFa 74 2 73,oFa 75 3 74,oLo 76 75,oP 77 (.iaddr (some 4)) [.t 76,
 cIn 2],oLf 78 77,oP 9 aZ [],oSf 9 78] [0,6,7,8,9]) (.seq (rT [oFa 79 0 9,oLo 80 79,oBc 81 .neq 80 0,oMv 82 81,oG 83 (.faddr 0) [.t 9] 82 true,oG 84 (.load none) [.t 83] 82 true,oG 85 (.bin .neq) [.t 84,cIn 1] 82 true,oP 86 .pick [.t 82,.t 85,
 cBo false]] [0,6,7,8,9,86]) (.cond (.t 86) (rT [oLf 87 9,oCl 88 48 [cSt [105,110,116,101,103,101,114],.t 87],oCl 89 107 [.t 88]] [0,6,7,8]) .skip)))) (.seq (rT [oMv 90 0,oMv 91 6,oMv 92 7,oCl 93 119 [.t 90,.t 91,.t 92]] [0,6,7,8,93]) (.cond (.t 93) (rT [oMv 94 6,
 oMv 95 7,oCl 96 110 [.t 94,.t 95],oCl 97 120 [cSt [97,99,99,101,115,115],cSt [112,114,105,118,97,116,101,95,112,114,111,99,101,100,117,114,101],.t 96],oCl 98 107 [.t 97]] [0,6,7,8]) .skip)))) (.seq (rT [oMv 100 0,oUn 101 .nilcheck 100,oFa 102 0 101,
 oUn 103 (.load (some 2)) 102,oMv 104 6,oMv 105 7,oCl 106 17 [.t 103,.t 104,.t 105],oMv 99 106,oEx 107 0 99,oEx 108 1 99,oP 10 (.alloc (some 4) (.agg [(none,.pv none (.str [])),(none,.pv none (.int .i64 0)),(none,.pv none (.bool false)),
 (none,.tsl (some 9) [])])) [],oSf 10 107,oMv 11 108] [0,8,10]) (.seq (rT [oMv 109 0,oUn 110 .nilcheck 109,oFa 111 2 110,oLf 112 111,oCl 113 121 [.t 112],oUn 114 .len 113,oMv 12 114] [0,8,10,12]) (.seq (rT [oFa 115 3 10,oLo 116 115,oUn 117 .len 116,
 oP 118 .mv [cIn 0]] [0,8,12,116,117,118]) (.block 0 (.loop [0,8,12,116,117,118] (.seq (rT [oBi 119 .lss 118 117] [0,8,12,116,117,118,119]) (.seq (kEx 119 0) (.seq (.block 1 (.seq (rT [oP 120 (.iaddr (some 9)) [.t 116,.t 118],oUn 121 (.load (some 9)) 120,
 oP 14 (.alloc (some 9) (.agg [(none,.pv none (.int .i64 0)),(some 8,.agg [(some 4,.agg A0),(some 4,.agg [(none,.pv none (.int .i64 0)),
 (none,.pv none (.int .i64 0)),(none,.pv none (.str [])),(none,.tsl (some 4) [])])])])) [],⟨none,(.store (some 9)),[.t 14,.t 121],none⟩] [0,8,12,14,116,117,118]) (.seq (rT [oFa 123 1 14,oFa 124 0 123,oLf 125 124,oMv 126 12,oCl 127 122 [.t 125,
 .t 126],oMv 122 127,oEx 128 0 122,oEx 129 1 122,oP 15 aZ [],oSf 15 128,oMv 16 129] [0,8,12,14,15,116,117,118]) (.seq (rT [oFa 131 1 14,oFa 132 4 131,oLf 133 132,oMv 134 12,oCl 135 122 [.t 133,.t 134],oMv 130 135,oEx 136 0 130,oEx 137 1 130,oP 17 aZ [],
 oSf 17 136,oMv 18 137] [0,8,12,14,15,17,116,117,118]) (.seq (rT [oLf 138 15,oLf 139 17,oP 140 (.bslo (some 4)) [.t 138,.t 139],oMv 19 140] [0,8,12,14,19,116,117,118]) (.seq (.seq (rT [oMv 141 8] [0,8,12,14,19,116,117,118,141]) (.cond (.t 141) (rT [oMv 142 19,
 oFa 143 0 14,oLo 144 143,oCl 145 123 [.t 144],oUn 146 (.bslice (some 4)) 145,oP 147 (.append (some 4)) [.t 142,.t 146],oMv 19 147] [0,8,12,19,116,117,118]) .skip)) (.seq (rT [oMv 148 0,oMv 149 19,oCl 150 117 [.t 148,.t 149]] [0,8,12,116,117,
 118]) (.seq (rT [oMv 151 0,oUn 152 .nilcheck 151,oFa 153 6 152,oLo 154 153,oUn 155 .len 154,oBc 156 .sub 155 1,oMv 20 156] [0,8,12,20,116,117,118]) (.seq (.seq (rT [oMv 157 0,oUn 158 .nilcheck 157,oFa 159 6 158,oLo 160 159,oMv 161 20,oIa 162 160 161,
 oLf 163 162,oCl 164 36 [.t 163],oUn 165 .not 164] [0,8,12,20,116,117,118,165]) (.cond (.t 165) (rT [oCl 166 108 [cIn 2]] [0,8,12,20,116,117,118]) .skip)) (.seq (rT [oMv 168 0,oUn 169 .nilcheck 168,oFa 170 2 169,oLf 171 170,oMv 172 0,oUn 173 .nilcheck 172,
 oFa 174 6 173,oLo 175 174,oMv 176 20,oIa 177 175 176,oLf 178 177,oCl 179 124 [.c (.tsl (some 5) []),.t 171,.t 178],oMv 167 179,oEx 180 0 167,oEx 181 1 167,oMv 21 180,oMv 22 181] [0,8,12,20,22,116,117,118]) (.seq (rT [oMv 182 22,oBc 183 .eql 182 4] [0,
 8,12,20,116,117,118,183]) (.cond (.t 183) (rT [oMv 184 0,oMv 185 0,oUn 186 .nilcheck 185,oFa 187 6 186,oLo 188 187,oMv 189 20,oP 190 (.slice (some 4) false true) [.t 188,.t 189],oUn 191 .nilcheck 184,oFa 192 6 191,oSo 192 190] [0,8,12,116,117,
 118]) .skip)))))))))))) (rT [oBc 193 .add 118 1,oMv 118 193] [0,8,12,116,117,118]))))))))))))))
def g82:AFn:=⟨1,[],c82,true,[],[],none⟩
theorem tr82:trFn Tryz.prog true 82 Tryz.f82=some g82:=by kernel_rfl
def c83:ACode:=.seq (rT [oMv 8 0,oUn 9 .nilcheck 8,oFa 10 2 9,oFa 11 3 10,oLo 12 11,oP 13 (.iaddr (some 4)) [.t 12,cIn 0],oLf 14 13,oCl 15 125 [.t 14],oMv 7 15,oEx 16 0 7,oEx 17 1 7,oEx 18 2 7,oP 3 aZ [],oMv 2 16,oSf 3 17,oMv 4 18] [0,2,3,4]) (.seq (.seq (rT [oMv 19 4,
 oUn 20 .not 19] [0,2,3,20]) (.cond (.t 20) (rT [oLf 21 3,oCl 22 107 [.t 21]] [0,2]) .skip)) (.seq (rT [oMv 24 0,oUn 25 .nilcheck 24,oFa 26 0 25,oUn 27 (.load (some 2)) 26,oMv 28 2,oCl 29 19 [.t 27,.t 28],oMv 23 29,oEx 30 0 23,oEx 31 1 23,oP 5 (.alloc (some 2) (.agg [(none,
 (.pv none (.int .i64 0))),(none,.nilv (some 4))])) [],⟨none,(.store (some 2)),[.t 5,.t 30],none⟩,oMv 6 31] [0,5,6]) (.seq (rT [oMv 32 6] [0,5,32]) (.cond (.t 32) (.seq (rT [oMv 33 0,oUn 34 (.load (some 2)) 5,oUn 35 .nilcheck 33,oFa 36 0 35,
 ⟨none,(.store (some 2)),[.t 36,.t 34],none⟩] [0]) (rT [oMv 37 0,oCl 38 112 [.t 37]] [])) .skip))))
def g83:AFn:=⟨1,[],c83,true,[],[],none⟩
theorem tr83:trFn Tryz.prog true 83 Tryz.f83=some g83:=by kernel_rfl
def c84:ACode:=.seq (rT [] [0,1,4]) (.seq (.block 0 (.seq (rT [oP 5 (.assert 110 (some 4) (.agg [(some 4,.agg A0)]) true) [.t 4],oEx 6 1 5,
 oEx 7 0 5] [0,1,4,6,7]) (.cond (.t 6) (.seq (rT [oP 2 (.alloc (some 4) (.agg [(some 4,.agg A0)])) [],oSf 2 7] [0,1,2]) (rT [oFa 8 0 2,
 oLf 9 8,oSf 0 9,⟨none,(.store none),[.t 1,cIn 8],none⟩] [])) (.seq (rT [oP 10 (.assert 112 (some 1) (.pv (some 1) (.agg [(none,.int .i64 0)])) true) [.t 4],oEx 11 1 10,oEx 12 0 10] [1,11,12]) (.cond (.t 11) (.seq (rT [oP 3 (.alloc (some 1) (.pv (some 1) (.agg [(none,
 (.int .i64 0))]))) [],⟨none,(.store (some 1)),[.t 3,.t 12],none⟩] [1,3]) (rT [oFa 13 0 3,oLo 14 13,oSo 1 14] [])) .skip))))) .skip)
def g84:AFn:=⟨2,[],c84,true,[],[],some 4⟩
theorem tr84:trFn Tryz.prog true 84 Tryz.f84=some g84:=by kernel_rfl
def c85:ACode:=.seq (rT [oBx 1 0,oP 2 aZ []] [1,2]) (.seq (rT [oLf 3 1,oSf 2 3] [2]) .ret)
def g85:AFn:=⟨1,[(2,some (some 4))],c85,false,[],[],none⟩
theorem tr85:trFn Tryz.prog false 85 Tryz.f85=some g85:=by kernel_rfl
def c86:ACode:=.seq (rT [oUn 2 (.box (some 9)) 0,oUn 3 (.box (some 9)) 1,oP 4 .mv [cBo false]] [2,3]) (.seq (rT [oFa 5 0 2,oLo 6 5,oFa 7 0 3,oLo 8 7,oBi 9 .eql 6 8,oMv 10 9,oG 11 (.faddr 1) [.t 2] 10 true,oG 12 (.faddr 0) [.t 11] 10 true,oG 13 (.load (some 4)) [.t 12] 10 true,
 oG 14 (.faddr 1) [.t 3] 10 true,oG 15 (.faddr 0) [.t 14] 10 true,oG 16 (.load (some 4)) [.t 15] 10 true,oG 17 .call [cFn 44,.t 13,.t 16] 10 true,oP 18 .pick [.t 10,.t 17,cBo false],oMv 19 18,oG 20 (.faddr 1) [.t 2] 19 true,oG 21 (.faddr 4) [.t 20] 19 true,
 oG 22 (.load (some 4)) [.t 21] 19 true,oG 23 (.faddr 1) [.t 3] 19 true,oG 24 (.faddr 4) [.t 23] 19 true,oG 25 (.load (some 4)) [.t 24] 19 true,oG 26 .call [cFn 44,.t 22,.t 25] 19 true,oP 27 .pick [.t 19,.t 26,cBo false],oMv 4 27] [4]) .ret)
def g86:AFn:=⟨2,[(4,none)],c86,false,[],[],none⟩
theorem tr86:trFn Tryz.prog false 86 Tryz.f86=some g86:=by kernel_rfl
def c87:ACode:=.seq (rT [oP 4 aZ []] [0,1,4]) (.seq (rT [oMv 5 0,oMv 6 1,oCl 7 126 [.t 5,.t 6],oCl 8 45 [cSt [91,93]],oP 9 (.bslice (some 4)) [.t 7,.t 8],oCl 10 126 [cSt [101,114,114,111,114],.t 9],oSf 4 10] [4]) .ret)
def g87:AFn:=⟨2,[(4,some (some 4))],c87,false,[],[],none⟩
theorem tr87:trFn Tryz.prog false 87 Tryz.f87=some g87:=by kernel_rfl
def c88:ACode:=.seq (rT [oBx 3 0,oP 6 aZ []] [1,2,3,6]) (.seq (.seq (rT [oLf 10 3,oCl 11 36 [.t 10],oUn 12 .not 11] [1,2,3,6,12]) (kRt 12 [oP 13 (bZ []) [],oSf 6 13] [6])) (.seq (rT [oP 7 (.nilsl (some 4)) []] [1,2,3,6,7]) (.seq (.seq (rT [oMv 14 2,oUn 15 .len 14,
 oP 16 .mv [cIn 0]] [1,2,3,6,7,14,15,16]) (.block 0 (.loop [1,2,3,6,7,14,15,16] (.seq (rT [oBi 17 .lss 16 15] [1,2,3,6,7,14,15,16,17]) (.seq (kEx 17 0) (.seq (.block 1 (.seq (rT [oP 18 (.iaddr none) [.t 14,.t 16],oLo 19 18,oMv 9 19] [1,2,3,6,
 7,9,14,15,16]) (.seq (.seq (rT [oMv 20 9,oUn 21 .slen 20,oBc 22 .gtr 21 100] [1,2,3,6,7,9,14,15,16,22]) (kRt 22 [oP 23 (bZ []) [],oSf 6 23] [6])) (rT [oMv 24 7,oMv 25 9,oCl 26 45 [.t 25],oUn 27 (.bslice (some 4)) 26,oP 28 (.append (some 4)) [.t 24,
 .t 27],oMv 7 28] [1,2,3,6,7,14,15,16])))) (rT [oBc 29 .add 16 1,oMv 16 29] [1,2,3,6,7,14,15,16]))))))) (.seq (.seq (rT [oMv 30 2,oUn 31 .len 30,oP 32 (.bin .add) [cIn 3,.t 31],oLf 33 3,oCl 34 73 [.t 33],oBi 35 .add 32 34,oBc 36 .gtr 35 2000] [1,
 3,6,7,36]) (.cond (.t 36) (rT [oCl 37 45 [cSt [46,46,46]],oSf 3 37] [1,3,6,7]) .skip)) (.seq (rT [oMv 38 1,oMv 39 7,oLf 40 3,oUn 41 (.bslice (some 4)) 40,oP 42 (.append (some 4)) [.t 39,.t 41],oCl 43 87 [.t 38,.t 42],oSf 6 43] [6]) .ret)))))
def g88:AFn:=⟨3,[(6,some (some 4))],c88,false,[],[],none⟩
theorem tr88:trFn Tryz.prog false 88 Tryz.f88=some g88:=by kernel_rfl
def c89:ACode:=.seq (rT [oMv 2 5] [0,1,2]) (.seq (rT [oMv 6 2,oUn 7 (.isnil true) 6] [0,1,2,7]) (.seq (.cond (.t 7) (.seq (.seq (rT [oMv 9 2,oP 10 (.assert 116 (some 0) (.pv (some 0) (.agg [])) true) [.t 9],oMv 8 10,oEx 11 0 8,oEx 12 1 8,oP 3 (.alloc (some 0) (.pv (some 0) (.agg []))) [],
 ⟨none,(.store (some 0)),[.t 3,.t 11],none⟩,oMv 4 12] [0,1,2,4]) (.seq (rT [oMv 13 4,oUn 14 .not 13] [0,1,2,14]) (.cond (.t 14) (rT [oMv 15 2,⟨none,.panic,[.t 15],none⟩] [0,1]) .skip))) (rT [oP 16 (bZ []) [],oSf 0 16,⟨none,(.store none),[.t 1,
 cBo false],none⟩] [])) .skip) .skip))
def g89:AFn:=⟨2,[],c89,true,[],[],some 5⟩
theorem tr89:trFn Tryz.prog true 89 Tryz.f89=some g89:=by kernel_rfl
def c90r4:List (AOper × Option (List AOper)):=[
 (⟨some 13,(.faddr 2),[.t 1],none⟩,none),
 (⟨some 14,(.load none),[.t 13],none⟩,none),
 (⟨some 15,(.faddr 3),[.t 1],none⟩,none),
 (⟨some 16,(.load none),[.t 15],none⟩,none),
 (⟨some 17,(.iaddr (some 4)),[.t 16,cIn 0],none⟩,none),
 (⟨some 18,(.load (some 4)),[.t 17],none⟩,none),
 (⟨some 19,.callp,[cFn 90,.t 18],none⟩,some [⟨some 20,(.faddr 3),[.t 1],none⟩,⟨some 21,(.load none),[.t 20],none⟩,⟨some 22,(.iaddr (some 4)),[.t 21,cIn 1],none⟩,⟨some 23,(.load (some 4)),[.t 22],none⟩,⟨none,.mv,[cBo true],none⟩,⟨none,.mv,[cBo true],none⟩,⟨none,.mv,[cBo true],none⟩,⟨none,.mv,[cBo true],none⟩]),
 (⟨some 20,(.faddr 3),[.t 1],none⟩,none),
 (⟨some 21,(.load none),[.t 20],none⟩,none),
 (⟨some 22,(.iaddr (some 4)),[.t 21,cIn 1],none⟩,none),
 (⟨some 23,(.load (some 4)),[.t 22],none⟩,none),
 (⟨some 24,.callp,[cFn 90,.t 23],none⟩,some [⟨none,.mv,[cBo true],none⟩,⟨none,.mv,[cBo true],none⟩,⟨none,.mv,[cBo true],none⟩]),
 (⟨some 25,(.bslicep (some 4)),[.t 19,.t 24],none⟩,none),
 (⟨some 26,(bZ [0,2,3]),[cIn 3,.t 14,.t 25],none⟩,none),
 (oSf 2 26,none)]
def c90:ACode:=.seq (rT [oBx 1 0,oP 2 aZ []] [1,2]) (.seq (.block 0 (.seq (rT [oFa 4 0 1,oLo 5 4,oBc 6 .eql 5 0,oMv 3 6] [1,2,3]) (.cond (.t 3) (.seq (rT [oLf 7 1,oUn 8 (.bslice (some 4)) 7,oP 9 (bZ [0,2,3]) [cIn 3,cSt [99,97,108,108],.t 8],oSf 2 9] [2]) .ret) (.seq (rT [oLf 11 1,
 oCl 12 127 [.t 11],oMv 10 12] [1,2,10]) (.cond (.t 10) (.seq (.seq (.settle []) (.doom c90r4 [2])) .ret) (.seq (rT [oLf 28 1,oCl 29 47 [.t 28],oMv 27 29] [1,2,27]) (kRt 27 [oLf 30 1,oCl 31 41 [.t 30],oSf 2 31] [2]))))))) (rT [oP 32 (.build [] []) [],
 oUn 33 (.mkiface 116) 32,⟨none,.panic,[.t 33],none⟩] [2]))
def g90:AFn:=⟨1,[(2,some (some 4))],c90,false,[],[],none⟩
theorem tr90:trFn Tryz.prog false 90 Tryz.f90=some g90:=by kernel_rfl
def c91:ACode:=.seq (rT [oBx 2 0,oP 4 aZ []] [1,2,4]) (.seq (rT [oFa 10 0 2,oLo 11 10,oFa 12 1 2,oLo 13 12,oFa 14 2 2,oLo 15 14,oP 16 (bZ [0,1,2]) [.t 11,.t 13,.t 15],oP 5 aZ [],oSf 5 16] [1,2,4,5]) (.seq (.seq (rT [oFa 17 0 2,oLo 18 17,oBc 19 .eql 18 0] [1,
 2,4,5,19]) (.cond (.t 19) (.seq (rT [oMv 21 1,oFa 22 1 2,oLo 23 22,oP 24 (.lookup false none (.pv none (.int .i64 0)) true) [.t 21,.t 23],oMv 20 24,oEx 25 0 20,oEx 26 1 20,oMv 6 25,oMv 7 26] [1,2,4,5,6,7]) (.seq (.seq (rT [oMv 27 7,oUn 28 .not 27] [1,
 2,4,5,6,28]) (.cond (.t 28) (.seq (rT [oMv 29 1,oUn 30 .mlen 29,oMv 6 30] [1,2,4,5,6]) (rT [oMv 31 1,oFa 32 1 2,oLo 33 32,oMv 34 6,⟨none,(.mapset false none),[.t 31,.t 33,.t 34],none⟩] [1,2,4,5,6])) .skip)) (rT [oMv 35 6,oFa 36 1 5,oSo 36 35] [1,
 2,4,5]))) .skip)) (.seq (.seq (rT [oFa 37 3 2,oLo 38 37,oUn 39 .len 38,oP 40 .mv [cIn 0]] [1,4,5,38,39,40]) (.block 0 (.loop [1,4,5,38,39,40] (.seq (rT [oBi 41 .lss 40 39] [1,4,5,38,39,40,41]) (.seq (kEx 41 0) (.seq (.block 1 (.seq (rT [oIa 42 38 40,
 oLf 43 42,oP 9 aZ [],oSf 9 43] [1,4,5,9,38,39,40]) (.region false [oFa 44 3 5,oLo 45 44,oLf 46 9,oMv 47 1,oP 48 (.calln 1) [.t 44,cFn 91,.t 46,.t 47],oP 49 (.bslicen (some 4) 1) [.t 44,.t 48],oP 50 (.append (some 4)) [.t 45,.t 49],oFa 51 3 5,
 oSo 51 50] [1,4,5,38,39,40]))) (rT [oBc 52 .add 40 1,oMv 40 52] [1,4,5,38,39,40]))))))) (.seq (rT [oLf 53 5,oSf 4 53] [4]) .ret))))
def g91:AFn:=⟨2,[(4,some (some 4))],c91,true,[],[],none⟩
theorem tr91:trFn Tryz.prog true 91 Tryz.f91=some g91:=by kernel_rfl
def c92:ACode:=.seq (rT [oP 2 .mv [cIn 0]] [0]) (.seq (rT [oP 3 .mv [cIn 0]] [0,3]) (.seq (.seq (rT [oMv 6 0,oUn 7 .len 6,oP 8 .mv [cIn 0]] [3,6,7,8]) (.block 0 (.loop [3,6,7,8] (.seq (rT [oBi 9 .lss 8 7] [3,6,7,8,9]) (.seq (kEx 9 0) (.seq (.block 1 (.seq (rT [oP 10 (.iaddr none) [.t 6,
 .t 8],oLo 11 10,oMv 5 11] [3,5,6,7,8]) (.seq (rT [oMv 12 5,oMv 13 3,oBi 14 .neq 12 13] [3,5,6,7,8,14]) (kRt 14 [oMv 15 5,oMv 2 15] [2])))) (rT [oBc 16 .add 8 1,oMv 8 16] [3,6,7,8]))))))) (.seq (rT [oMv 17 3,oMv 2 17] [2]) .ret)))
def g92:AFn:=⟨1,[(2,none)],c92,false,[],[],none⟩
theorem tr92:trFn Tryz.prog false 92 Tryz.f92=some g92:=by kernel_rfl
def c93:ACode:=.seq (rT [oP 4 .mv [cIn 0]] [0,1]) (.seq (rT [oMv 7 0,oCl 8 128 [.t 7],oMv 5 8] [0,1,5]) (.seq (rT [oMv 9 1,oCl 10 128 [.t 9],oMv 6 10] [0,1,5,6]) (.seq (.seq (rT [oMv 11 5] [0,1,6,11]) (.cond (.t 11) (.seq (.seq (rT [oMv 12 6] [12]) (kRt 12 [oP 4 .mv [cIn 0]] [4])) (.seq (rT [oP 4 .mv [.c (.pv none (.int .i64 (-1)))]] [4]) .ret)) .skip)) (.seq (.seq (rT [oMv 13 6] [0,
 1,13]) (kRt 13 [oP 4 .mv [cIn 1]] [4])) (.seq (.seq (rT [oMv 14 0,oMv 15 1,oBi 16 .lss 14 15] [0,1,16]) (kRt 16 [oP 4 .mv [.c (.pv none (.int .i64 (-1)))]] [4])) (.seq (.seq (rT [oMv 17 0,oMv 18 1,oBi 19 .gtr 17 18] [19]) (kRt 19 [oP 4 .mv [cIn 1]] [4])) (.seq (rT [oP 4 .mv [cIn 0]] [4]) .ret)))))))
def g93:AFn:=⟨2,[(4,none)],c93,false,[],[],none⟩
theorem tr93:trFn Tryz.prog false 93 Tryz.f93=some g93:=by kernel_rfl
def c94:ACode:=.seq (rT [oP 4 .mv [cIn 0]] [0,1]) (.seq (rT [oMv 7 0,oCl 8 129 [.t 7],oMv 5 8] [0,1,5]) (.seq (rT [oMv 9 1,oCl 10 129 [.t 9],oMv 6 10] [0,1,5,6]) (.seq (.seq (rT [oMv 11 5] [0,1,6,11]) (.cond (.t 11) (.seq (.seq (rT [oMv 12 6] [12]) (kRt 12 [oP 4 .mv [cIn 0]] [4])) (.seq (rT [oP 4 .mv [.c (.pv none (.int .i64 (-1)))]] [4]) .ret)) .skip)) (.seq (.seq (rT [oMv 13 6] [0,
 1,13]) (kRt 13 [oP 4 .mv [cIn 1]] [4])) (.seq (.seq (rT [oMv 14 0,oMv 15 1,oBi 16 .lss 14 15] [0,1,16]) (kRt 16 [oP 4 .mv [.c (.pv none (.int .i64 (-1)))]] [4])) (.seq (.seq (rT [oMv 17 0,oMv 18 1,oBi 19 .gtr 17 18] [19]) (kRt 19 [oP 4 .mv [cIn 1]] [4])) (.seq (rT [oP 4 .mv [cIn 0]] [4]) .ret)))))))
def g94:AFn:=⟨2,[(4,none)],c94,false,[],[],none⟩
theorem tr94:trFn Tryz.prog false 94 Tryz.f94=some g94:=by kernel_rfl
def c95:ACode:=.seq (rT [oBx 1 0,oP 2 aZ [],oP 3 .mv [cBo false]] [1,2]) (.seq (.seq (rT [oLf 4 1,oCl 5 36 [.t 4],oUn 6 .not 5] [1,2,6]) (kRt 6 [oP 7 (bZ []) [],oSf 2 7,oP 3 .mv [cBo false]] [2,3])) (.seq (rT [oLf 9 1,oCl 10 49 [.t 9],oMv 8 10,oEx 11 0 8,oEx 12 1 8,
 oSf 2 11,oMv 3 12] [2,3]) (.seq (.seq (rT [oMv 13 3,oUn 14 .not 13,oMv 15 14,oG 16 (.load (some 4)) [.t 2] 15 false,oG 17 .call [cFn 73,.t 16] 15 false,oG 18 (.bin .gtr) [.t 17,cIn 2000] 15 false,oP 19 .pick [.t 15,cBo true,.t 18]] [2,19]) (kRt 19 [oP 20 (bZ []) [],
 oSf 2 20,oP 3 .mv [cBo false]] [2,3])) (.seq (rT [oLf 21 2,oSf 2 21,oP 3 .mv [cBo true]] [2,3]) .ret))))
def g95:AFn:=⟨1,[(2,some (some 4)),(3,none)],c95,false,[],[],none⟩
theorem tr95:trFn Tryz.prog false 95 Tryz.f95=some g95:=by kernel_rfl
def c96:ACode:=.seq (rT [oBx 4 1,oP 6 .mv [cIn 0],oP 7 .mv [cBo false]] [0,2,4]) (.seq (rT [oMv 12 0,oUn 13 .len 12,oMv 8 13] [0,2,4,8]) (.seq (rT [oMv 14 8,oP 9 .mv [cIn 0],oMv 10 14] [0,2,4,8,9,10]) (.seq (.block 0 (.loop [0,2,4,8,9,10] (.seq (.seq (rT [oMv 15 9,
 oMv 16 10,oBi 17 .lss 15 16] [0,2,4,8,9,10,17]) (kEx 17 0)) (.block 1 (.seq (rT [oMv 18 9,oMv 19 10,oBi 20 .add 18 19,oUn 21 (.conv .u64) 20,oP 22 (.bin .shr) [.t 21,.c (.pv none (.int .u64 1))],oUn 23 (.conv .i64) 22,oMv 11 23] [0,2,4,8,9,10,
 11]) (.seq (rT [oMv 24 2,oMv 25 0,oMv 26 11,oIa 27 25 26,oLf 28 27,oLf 29 4,oP 30 .call [.t 24,.t 28,.t 29],oBc 31 .lss 30 0] [0,2,4,8,9,10,11,31]) (.cond (.t 31) (rT [oMv 32 11,oBc 33 .add 32 1,oMv 9 33] [0,2,4,8,9,10]) (rT [oMv 34 11,oMv 10 34] [0,
 2,4,8,9,10])))))))) (.seq (.region false [oMv 35 9,oMv 36 9,oMv 37 8,oBi 38 .lss 36 37,oMv 39 38,oG 40 .mv [.t 2] 39 true,oG 41 .mv [.t 0] 39 true,oG 42 .mv [.t 9] 39 true,oG 43 (.iaddr (some 4)) [.t 41,.t 42] 39 true,oG 44 (.load (some 4)) [.t 43] 39 true,
 oG 45 (.load (some 4)) [.t 4] 39 true,oG 46 .call [.t 40,.t 44,.t 45] 39 true,oG 47 (.bin .eql) [.t 46,cIn 0] 39 true,oP 48 .pick [.t 39,.t 47,cBo false],oMv 6 35,oMv 7 48] [6,7]) .ret))))
def g96:AFn:=⟨3,[(6,none),(7,none)],c96,false,[],[],none⟩
theorem tr96:trFn Tryz.prog false 96 Tryz.f96=some g96:=by kernel_rfl
def c97:ACode:=.seq (rT [oBx 2 0,oBx 3 1,oP 4 .mv [cIn 0]] [2,3]) (.seq (rT [oLf 5 2,oLf 6 3,oCl 7 54 [.t 5,.t 6],oMv 4 7] [4]) .ret)
def g97:AFn:=⟨2,[(4,none)],c97,false,[],[],none⟩
theorem tr97:trFn Tryz.prog false 97 Tryz.f97=some g97:=by kernel_rfl
def c98r0:LO:=[oUn 1 (.box (some 9)) 0,oP 2 (.alloc (some 9) (.agg [(none,.pv none (.int .i64 0)),(some 8,.agg [(some 4,.agg A0),
 (some 4,.agg A0)])])) []]
def c98r1:LO:=[oFa 3 0 1,oLo 4 3,oFa 5 1 1,oFa 6 0 5,oLf 7 6,oP 8 .callp [cFn 41,.t 7],oFa 9 1 1,oFa 10 4 9,oLf 11 10,oP 12 .callp [cFn 41,.t 11],oP 13 (.build [(some 4,.agg [(none,.pv none (.int .i64 0)),(none,.pv none (.int .i64 0)),(none,.pv none (.str [])),
 (none,.tsl (some 4) [])]),(some 4,.agg A0)] [0,1]) [.t 8,.t 12],oP 14 (.build [(none,.pv none (.int .i64 0)),(some 8,
 (.agg [(some 4,.agg A0),(some 4,.agg [(none,.pv none (.int .i64 0)),(none,.pv none (.int .i64 0)),(none,.pv none (.str [])),
 (none,.tsl (some 4) [])])]))] [0,1]) [.t 4,.t 13],⟨none,(.store (some 9)),[.t 2,.t 14],none⟩]
def c98:ACode:=.seq (rT c98r0 [1,2]) (.seq (.seq (.settle []) (rT c98r1 [2])) .ret)
def g98:AFn:=⟨1,[(2,some (some 9))],c98,false,[],[],none⟩
theorem tr98:trFn Tryz.prog false 98 Tryz.f98=some g98:=by kernel_rfl
def c99:ACode:=.seq (rT [oP 4 .mv [cIn 0]] [0,1]) (.seq (.seq (rT [oMv 6 0,oUn 7 .len 6,oP 8 .mv [cIn 0]] [0,1,7,8]) (.block 0 (.loop [0,1,7,8] (.seq (rT [oBi 9 .lss 8 7] [0,1,7,8,9]) (.seq (kEx 9 0) (.seq (.block 1 (.seq (rT [oMv 10 8,oMv 5 10] [0,1,5,7,8]) (.seq (rT [oMv 11 1,
 oMv 12 0,oMv 13 5,oP 14 (.iaddr none) [.t 12,.t 13],oLo 15 14,oBi 16 .eql 11 15] [0,1,5,7,8,16]) (kRt 16 [oMv 17 5,oMv 4 17] [4])))) (rT [oBc 18 .add 8 1,oMv 8 18] [0,1,7,8]))))))) (.seq (rT [oP 4 .mv [.c (.pv none (.int .i64 (-1)))]] [4]) .ret))
def g99:AFn:=⟨2,[(4,none)],c99,false,[],[],none⟩
theorem tr99:trFn Tryz.prog false 99 Tryz.f99=some g99:=by kernel_rfl
def c102:ACode:=.seq (rT [oP 4 .mv [cIn 0]] [0,1]) (.seq (.seq (rT [oMv 6 0,oUn 7 .len 6,oP 8 .mv [cIn 0]] [0,1,7,8]) (.block 0 (.loop [0,1,7,8] (.seq (rT [oBi 9 .lss 8 7] [0,1,7,8,9]) (.seq (kEx 9 0) (.seq (.block 1 (.seq (rT [oMv 10 8,oMv 5 10] [0,1,5,7,8]) (.seq (rT [oMv 11 1,
 oMv 12 0,oMv 13 5,oP 14 (.iaddr (some 9)) [.t 12,.t 13],oUn 15 (.load (some 9)) 14,oP 16 .call [.t 11,.t 15]] [0,1,5,7,8,16]) (kRt 16 [oMv 17 5,oMv 4 17] [4])))) (rT [oBc 18 .add 8 1,oMv 8 18] [0,1,7,8]))))))) (.seq (rT [oP 4 .mv [.c (.pv none (.int .i64 (-1)))]] [4]) .ret))
def g102:AFn:=⟨2,[(4,none)],c102,true,[],[],none⟩
theorem tr102:trFn Tryz.prog true 102 Tryz.f102=some g102:=by kernel_rfl
def c103:ACode:=.seq (rT [oUn 2 (.box (some 9)) 0,oP 3 .mv [cBo false]] [1,2]) (.seq (rT [oFa 4 0 2,oLo 5 4,oLo 6 1,oBi 7 .eql 5 6,oMv 3 7] [3]) .ret)
def g103:AFn:=⟨2,[(3,none)],c103,true,[],[],none⟩
theorem tr103:trFn Tryz.prog true 103 Tryz.f103=some g103:=by kernel_rfl
def c104:ACode:=.seq (rT [oBx 1 0,oP 2 .mv [cBo false]] [1]) (.seq (rT [oLf 3 1,oCl 4 131 [.t 3,cSt [44],cIn 2],oMv 5 4,oG 6 (.load (some 4)) [.t 1] 5 false,oG 7 .call [cFn 131,.t 6,cSt [59],cIn 2] 5 false,oP 8 .pick [.t 5,cBo true,.t 7],oMv 9 8,oG 10 (.load (some 4)) [.t 1] 9 false,
 oG 11 .call [cFn 131,.t 10,cSt [45,62],cIn 2] 9 false,oP 12 .pick [.t 9,cBo true,.t 11],oMv 2 12] [2]) .ret)
def g104:AFn:=⟨1,[(2,none)],c104,false,[],[],none⟩
theorem tr104:trFn Tryz.prog false 104 Tryz.f104=some g104:=by kernel_rfl
def c105:ACode:=.seq (rT [oBx 1 0,oP 2 aZ []] [1,2]) (.seq (.seq (rT [oLf 3 1,oCl 4 8 [.t 3],oUn 5 .not 4] [1,2,5]) (kRt 5 [oP 6 (bZ []) [],oSf 2 6] [2])) (.seq (rT [oLf 7 1,oCl 8 132 [.t 7],oSf 2 8] [2]) .ret))
def g105:AFn:=⟨1,[(2,some (some 4))],c105,false,[],[],none⟩
theorem tr105:trFn Tryz.prog false 105 Tryz.f105=some g105:=by kernel_rfl
def c106:ACode:=.seq (rT [oBx 3 0] [1,2,3]) (.seq (rT [oLo 5 1,oBc 6 .sub 5 1,oSo 1 6] [1,2,3]) (.seq (rT [oP 4 .mv [cIn 0]] [1,2,3,4]) (.block 0 (.loop [1,2,3,4] (.seq (.seq (rT [oMv 7 4,oFa 8 3 3,oLo 9 8,oUn 10 .len 9,oBi 11 .lss 7 10,oMv 12 11,oG 13 (.load none) [.t 1] 12 true,
 oG 14 (.bin .gtr) [.t 13,cIn 0] 12 true,oP 15 .pick [.t 12,.t 14,cBo false]] [1,2,3,4,15]) (kEx 15 0)) (.seq (.block 1 (rT [oLo 18 2,oFa 19 3 3,oLo 20 19,oMv 21 4,oIa 22 20 21,oLf 23 22,oP 24 .call [.t 18,.t 23]] [1,2,3,4])) (rT [oMv 16 4,oBc 17 .add 16 1,
 oMv 4 17] [1,2,3,4])))))))
def g106:AFn:=⟨3,[],c106,true,[],[],none⟩
theorem tr106:trFn Tryz.prog true 106 Tryz.f106=some g106:=by kernel_rfl
def c107:ACode:=.seq (rT [oBx 1 0] [1]) (rT [oLf 2 1,oP 3 (.build [(some 4,.agg A0)] [0]) [.t 2],oUn 4 (.mkiface 110) 3,⟨none,.panic,[.t 4],
 none⟩] [])
def g107:AFn:=⟨1,[],c107,false,[],[],none⟩
theorem tr107:trFn Tryz.prog false 107 Tryz.f107=some g107:=by kernel_rfl
def c108:ACode:=.seq (rT [oMv 2 0,oBc 3 .neq 2 0] [0,3]) (.cond (.t 3) (rT [oMv 4 0,oP 5 (.build A5 [0]) [.t 4],oUn 6 (.mkiface 112) 5,⟨none,.panic,[.t 6],none⟩] []) .skip)
def g108:AFn:=⟨1,[],c108,false,[],[],none⟩
theorem tr108:trFn Tryz.prog false 108 Tryz.f108=some g108:=by kernel_rfl
def c109:ACode:=.seq (rT [oBx 7 3] [0,1,2,7]) (.seq (rT [oMv 8 0,oMv 9 1,oMv 10 2,oCl 11 119 [.t 8,.t 9,.t 10]] [7,11]) (.cond (.t 11) (rT [oLf 12 7,oCl 13 120 [cSt [109,111,100,105,102,121],cSt [115,116,97,116,105,99,95,112,114,111,99,101,100,117,114,101],
 .t 12],oCl 14 107 [.t 13]] []) .skip))
def g109:AFn:=⟨4,[],c109,true,[],[],none⟩
theorem tr109:trFn Tryz.prog true 109 Tryz.f109=some g109:=by kernel_rfl
def c110:ACode:=.seq (rT [oP 4 aZ []] [0,1,4]) (.seq (.seq (rT [oMv 5 0,oUn 6 .slen 5,oBc 7 .gtr 6 100,oMv 8 7,oG 9 .mv [.t 1] 8 false,oG 10 (.bin .lss) [.t 9,cIn 0] 8 false,oP 11 .pick [.t 8,cBo true,.t 10],oMv 12 11,oG 13 .mv [.t 1] 12 false,oG 14 (.bin .gtr) [.t 13,
 cIn 8] 12 false,oP 15 .pick [.t 12,cBo true,.t 14]] [0,1,4,15]) (kRt 15 [oP 16 (bZ []) [],oSf 4 16] [4])) (.seq (rT [oMv 17 0,oCl 18 45 [.t 17],oMv 19 1,oCl 20 123 [.t 19],oP 21 (.bslice (some 4)) [.t 18,.t 20],oCl 22 126 [cSt [47],.t 21],oSf 4 22] [4]) .ret))
def g110:AFn:=⟨2,[(4,some (some 4))],c110,false,[],[],none⟩
theorem tr110:trFn Tryz.prog false 110 Tryz.f110=some g110:=by kernel_rfl
def c111:ACode:=.seq (rT [oUn 4 (.box (some 2)) 0,oUn 5 (.box (some 8)) 1,oP 8 (.alloc (some 2) (.agg A1)) [],oP 9 .mv [cIn 0]] [2,3,4,5,8]) (.seq (.seq (rT [oUn 14 (.load (some 2)) 4,oCl 15 15 [.t 14],
 oUn 16 .not 15,oMv 17 16,oG 18 (.load (some 8)) [.t 5] 17 false,oG 19 .call [cFn 55,.t 18] 17 false,oG 20 .not [.t 19] 17 false,oP 21 .pick [.t 17,cBo true,.t 20]] [2,3,4,5,8,21]) (kRt 21 [oP 22 (.build [(none,.pv none (.int .i64 0)),(none,
 (.nilv (some 4)))] []) [],⟨none,(.store (some 2)),[.t 8,.t 22],none⟩,oP 9 .mv [cIn 1]] [8,9])) (.seq (rT [oUn 24 (.load (some 2)) 4,oFa 25 0 5,oFa 26 2 25,oLo 27 26,oFa 28 0 5,oFa 29 3 28,oLo 30 29,oUn 31 .len 30,oCl 32 56 [.t 24,.t 27,.t 31],
 oMv 23 32,oEx 33 0 23,oEx 34 1 23,oMv 10 33,oMv 11 34] [2,3,4,5,8,10,11]) (.seq (.seq (rT [oUn 35 (.load (some 2)) 4,oCl 36 52 [.t 35],oBc 37 .eql 36 500,oMv 38 37,oG 39 (.faddr 0) [.t 4] 38 false,oG 40 (.load none) [.t 39] 38 false,oG 41 (.bin .eql) [.t 40,
 cIn 4294967296] 38 false,oP 42 .pick [.t 38,cBo true,.t 41],oMv 43 42,oG 44 .mv [.t 11] 43 false,oG 45 .not [.t 44] 43 false,oG 46 .mv [.t 45] 43 false,oG 47 (.faddr 1) [.t 4] 46 true,oG 48 (.load none) [.t 47] 46 true,oG 49 .len [.t 48] 46 true,
 oG 50 (.bin .eql) [.t 49,cIn 500] 46 true,oG 51 .pick [.t 46,.t 50,cBo false] 43 false,oP 52 .pick [.t 43,cBo true,.t 51]] [2,3,4,5,8,10,11,52]) (kRt 52 [oP 53 (.build A1 []) [],⟨none,(.store (some 2)),
 [.t 8,.t 53],none⟩,oP 9 .mv [cIn 13]] [8,9])) (.seq (rT [oUn 54 (.load (some 2)) 4,oCl 55 62 [.t 54],⟨none,(.store (some 2)),[.t 8,.t 55],none⟩] [2,3,4,5,8,10,11]) (.seq (.seq (rT [oMv 56 11,oUn 57 .not 56] [2,3,4,5,8,10,57]) (.cond (.t 57) (rT [oFa 58 1 8,
 oLo 59 58,oMv 60 10,oFa 61 0 5,oFa 62 2 61,oLo 63 62,oFa 64 0 5,oFa 65 3 64,oLo 66 65,oUn 67 .len 66,oMv 68 3,oP 69 (.build A2 [0,
 1,2]) [.t 63,.t 67,.t 68],oUn 70 (.bslov (some 4)) 69,oCl 71 133 [.t 59,.t 60,.t 70],oFa 72 1 8,oSo 72 71] [2,4,5,8,10]) .skip)) (.seq (rT [oFa 73 1 8,oLo 74 73,oMv 75 10,oIa 76 74 75,oMv 12 76] [2,4,5,8,12]) (.seq (rT [oMv 77 12,oUn 78 .nilcheck 77,
 oFa 79 3 78,oLo 80 79,oUn 81 .len 80,oMv 13 81] [2,4,5,8,12,13]) (.seq (.seq (rT [oMv 82 2] [4,5,8,12,13,82]) (.cond (.t 82) (rT [oP 13 .mv [cIn 0]] [4,5,8,12,13]) .skip)) (.seq (.seq (.settle []) (.region false [oMv 83 12,oMv 84 12,oUn 85 .nilcheck 84,
 oFa 86 3 85,oLo 87 86,oMv 88 13,oFa 89 0 4,oLo 90 89,oUn 91 (.load (some 8)) 5,oP 92 (.build [(none,.pv none (.int .i64 0)),(some 8,.agg [(some 4,.agg [(none,.pv none (.int .i64 0)),(none,.pv none (.int .i64 0)),(none,.pv none (.str [])),
 (none,.tsl (some 4) [])]),(some 4,.agg A0)])] [0,1]) [.t 90,.t 91],oP 93 .callp [cFn 98,.t 92],oUn 94 (.bslicep (some 9)) 93,
 oCl 95 134 [.t 87,.t 88,.t 94],oUn 96 .nilcheck 83,oFa 97 3 96,oSo 97 95] [8])) (.seq (rT [oFa 98 0 8,oLo 99 98,oBc 100 .add 99 1,oFa 101 0 8,oSo 101 100] [8]) (.seq (rT [oUn 102 (.load (some 2)) 8,⟨none,(.store (some 2)),[.t 8,.t 102],none⟩,
 oP 9 .mv [cIn 0]] [8,9]) .ret)))))))))))
def g111:AFn:=⟨4,[(8,some (some 2)),(9,none)],c111,false,[],[],none⟩
theorem tr111:trFn Tryz.prog false 111 Tryz.f111=some g111:=by kernel_rfl
def c112:ACode:=rT [oMv 2 0,oMv 3 0,oUn 4 .nilcheck 3,oFa 5 2 4,oLf 6 5,oUn 7 (.bslice (some 4)) 6,oUn 8 .nilcheck 2,oFa 9 6 8,oSo 9 7] []
def g112:AFn:=⟨1,[],c112,true,[],[],none⟩
theorem tr112:trFn Tryz.prog true 112 Tryz.f112=some g112:=by kernel_rfl
def c117:ACode:=.seq (.region false [oMv 5 0,oUn 6 .nilcheck 5,oFa 7 2 6,oFa 8 0 7,oLo 9 8,oMv 10 0,oUn 11 .nilcheck 10,oFa 12 2 11,oFa 13 2 12,oLo 14 13,oMv 15 0,oUn 16 .nilcheck 15,oFa 17 2 16,oFa 18 3 17,oLo 19 18,oP 20 (.calln 2) [.t 8,.t 13,cFn 138,.t 19],
 oP 21 (bZ [0,2,3]) [.t 9,.t 14,.t 20],oP 4 aZ [],oSf 4 21] [0,1,4]) (.seq (rT [oFa 22 3 4,oLo 23 22,oMv 24 1,oP 25 (.copy (some 4)) [.t 23,.t 24]] [0,4]) (.seq (.settle [4]) (.region false [oMv 26 0,oUn 27 .nilcheck 26,oFa 28 6 27,oLo 29 28,
 oLf 30 4,oUn 31 .len 29,oP 32 (.bslicen (some 4) 2) [.t 28,.t 4,.c (.agg A0)],oP 33 (.append (some 4)) [.t 29,.t 32],oUn 35 .nilcheck 26,
 oFa 36 6 35,oIa 34 33 31,oSf 34 30,⟨none,(.storex none),[.t 36,.t 33,.t 34,.t 30],none⟩] [])))
def g117:AFn:=⟨2,[],c117,true,[],[],none⟩
theorem tr117:trFn Tryz.prog true 117 Tryz.f117=some g117:=by kernel_rfl
def c118:ACode:=.seq (rT [oBx 1 0,oP 2 aZ [],oP 3 .mv [cBo false]] [1,2]) (.seq (.seq (rT [oLf 5 1,oCl 6 139 [.t 5],oMv 4 6,oEx 7 0 4,oEx 8 1 4,oSf 2 7,oMv 3 8] [1,2,3]) (.seq (rT [oMv 9 3,oUn 10 .not 9] [1,2,10]) (kRt 10 [oLf 11 2,oSf 2 11,oP 3 .mv [cBo false]] [2,
 3]))) (.seq (.seq (rT [oFa 12 0 1,oLo 13 12,oBc 14 .eql 13 1] [1,2,14]) (kRt 14 [oLf 15 1,oCl 16 48 [cSt [99,97,108,108,97,98,108,101],.t 15],oSf 2 16,oP 3 .mv [cBo false]] [2,3])) (.seq (rT [oP 17 (bZ []) [],oSf 2 17,oP 3 .mv [cBo true]] [2,
 3]) .ret)))
def g118:AFn:=⟨1,[(2,some (some 4)),(3,none)],c118,false,[],[],none⟩
theorem tr118:trFn Tryz.prog false 118 Tryz.f118=some g118:=by kernel_rfl
def c119:ACode:=.seq (rT [oP 6 .mv [cBo false]] [0,1,2]) (.seq (rT [oMv 10 0,oUn 11 .nilcheck 10,oFa 12 0 11,oUn 13 (.load (some 2)) 12,oMv 14 1,oMv 15 2,oCl 16 17 [.t 13,.t 14,.t 15],oMv 9 16,oEx 17 0 9,oEx 18 1 9,oP 7 (.alloc (some 4) (.agg [(none,.pv none (.str [])),
 (none,.pv none (.int .i64 0)),(none,.pv none (.bool false)),(none,.tsl (some 9) [])])) [],oSf 7 17,oMv 8 18] [1,2,7,8]) (.seq (rT [oMv 19 1,oMv 20 2,oCl 21 18 [.t 19,.t 20],oMv 22 21,oG 23 .mv [.t 8] 22 false,oG 24 .mv [.t 23] 22 false,
 oG 25 (.faddr 2) [.t 7] 24 true,oG 26 (.load none) [.t 25] 24 true,oG 27 .not [.t 26] 24 true,oG 28 .pick [.t 24,.t 27,cBo false] 22 false,oP 29 .pick [.t 22,cBo true,.t 28],oMv 6 29] [6]) .ret))
def g119:AFn:=⟨3,[(6,none)],c119,true,[],[],none⟩
theorem tr119:trFn Tryz.prog true 119 Tryz.f119=some g119:=by kernel_rfl
def c120:ACode:=.seq (rT [oBx 5 2,oP 6 aZ []] [0,1,5,6]) (.seq (rT [oLf 7 5,oMv 8 0,oMv 9 1,oP 10 (.bslice none) [.t 8,.t 9],oCl 11 88 [.t 7,cSt [112,101,114,109,105,115,115,105,111,110,95,101,114,114,111,114],.t 10],oSf 6 11] [6]) .ret)
def g120:AFn:=⟨3,[(6,some (some 4))],c120,false,[],[],none⟩
theorem tr120:trFn Tryz.prog false 120 Tryz.f120=some g120:=by kernel_rfl
def c121:ACode:=.seq (rT [oBx 1 0,oP 2 (.nilsl none) []] [1]) (.seq (.seq (rT [oLf 5 1,oCl 6 36 [.t 5],oUn 7 .not 6] [1,7]) (kRt 7 [oP 2 (.nilsl none) []] [2])) (.seq (rT [oP 3 (.alloc none (.tsl none [])) []] [1,3]) (.seq (rT [oP 8 (.mkmap none) [],oP 4 (.alloc none (.pv none .nilmap)) [],
 oSo 4 8] [1,3,4]) (.seq (rT [oLf 9 1,oP 10 (.mkfunc (.func 140) 0) [.t 4,.t 3],oCl 11 76 [.t 9,.t 10]] [3]) (.seq (rT [oLo 12 3,oMv 2 12] [2]) .ret)))))
def g121:AFn:=⟨1,[(2,none)],c121,false,[],[],none⟩
theorem tr121:trFn Tryz.prog false 121 Tryz.f121=some g121:=by kernel_rfl
def c122:ACode:=.seq (rT [oBx 2 0,oUn 3 (.box none) 1,oP 4 aZ [],oP 5 .mv [cIn 0]] [2,3,4]) (.seq (.seq (rT [oLf 8 2,oCl 9 36 [.t 8],oUn 10 .not 9,oMv 11 10,oG 12 (.load none) [.t 3] 11 false,oG 13 .call [cFn 141,.t 12] 11 false,oG 14 .not [.t 13] 11 false,
 oP 15 .pick [.t 11,cBo true,.t 14]] [2,3,4,15]) (kRt 15 [oP 16 (bZ []) [],oSf 4 16,oP 5 .mv [cIn 1]] [4,5])) (.seq (.seq (rT [oLf 17 2,oCl 18 121 [.t 17],oUn 19 .len 18,oP 20 .mv [cIn 0]] [2,3,4,18,19,20]) (.block 0 (.loop [2,3,4,18,19,20] (.seq (rT [oBi 21 .lss 20 19] [2,
 3,4,18,19,20,21]) (.seq (kEx 21 0) (.seq (.block 1 (.seq (rT [oP 22 (.iaddr none) [.t 18,.t 20],oLo 23 22,oMv 7 23] [2,3,4,7,18,19,20]) (.seq (rT [oMv 24 7,oLo 25 3,oP 26 (.bin .sub) [cIn 1099511627776,.t 25],oBi 27 .gtr 24 26] [2,3,4,18,19,
 20,27]) (kRt 27 [oP 28 (bZ []) [],oSf 4 28,oP 5 .mv [cIn 2]] [4,5])))) (rT [oBc 29 .add 20 1,oMv 20 29] [2,3,4,18,19,20]))))))) (.seq (rT [oLf 30 2,oUn 31 (.mkfunc (.func 142) 0) 3,oCl 32 76 [.t 30,.t 31],oSf 4 32,oP 5 .mv [cIn 0]] [4,5]) .ret)))
def g122:AFn:=⟨2,[(4,some (some 4)),(5,none)],c122,false,[],[],none⟩
theorem tr122:trFn Tryz.prog false 122 Tryz.f122=some g122:=by kernel_rfl
def c123:ACode:=.seq (rT [oP 2 aZ []] [0,2]) (.seq (rT [oMv 3 0,oP 4 (bZ [0,1]) [cIn 1,.t 3],oSf 2 4] [2]) .ret)
def g123:AFn:=⟨1,[(2,some (some 4))],c123,false,[],[],none⟩
theorem tr123:trFn Tryz.prog false 123 Tryz.f123=some g123:=by kernel_rfl
def c124p8:ACode:=(.seq (rT [oMv 23 0,oCl 24 145 [.t 23],oP 25 (.build [(none,.tsl (some 5) [])] [0]) [.t 24],oUn 26 (.box (some 1)) 25,oMv 8 26] [4,5,6,7,8]) (.seq (rT [oMv 27 8,oLf 28 4,oLf 29 5,oCl 30 146 [.t 27,.t 28,.t 29]] [6,7,8]) (.seq (rT [oMv 31 8,
 oUn 32 .nilcheck 31,oFa 33 0 32,oLo 34 33,oSo 6 34,⟨none,(.store none),[.t 7,cIn 0],none⟩] [6,7]) (.seq .ret .skip))))
def c124:ACode:=.seq (rT [oBx 4 1,oBx 5 2,oP 6 (.alloc none (.tsl (some 5) [])) [],oP 7 (.alloc none (.pv none (.int .i64 0))) []] [0,4,5,6,7]) (.seq (rT [oMv 9 0,oCl 10 143 [.t 9],oUn 11 .not 10,oMv 12 11,oG 13 (.load (some 4)) [.t 4] 12 false,oG 14 .call [cFn 36,
 .t 13] 12 false,oG 15 .not [.t 14] 12 false,oP 16 .pick [.t 12,cBo true,.t 15],oMv 17 16,oG 18 (.load (some 4)) [.t 5] 17 false,oG 19 .call [cFn 36,.t 18] 17 false,oG 20 .not [.t 19] 17 false,oP 21 .pick [.t 17,cBo true,.t 20]] [0,4,5,6,7,21]) (.seq (kRt 21 [⟨none,
 (.store none),[.t 6,.c (.tsl (some 5) [])],none⟩,⟨none,(.store none),[.t 7,cIn 1],none⟩] [6,7]) (rT [oP 22 (.mkfunc (.func 144) 0) [.t 6,.t 7]] [0,4,5,6,7,22])))
def g124:AFn:=⟨3,[(6,some none),(7,some none)],c124,false,[(.dfr 22,c124p8)],[],none⟩
theorem tr124:trFn Tryz.prog false 124 Tryz.f124=some g124:=by kernel_rfl
def c125:ACode:=.seq (rT [oBx 1 0,oP 2 .mv [cIn 0],oP 3 aZ [],oP 4 .mv [cBo false]] [1,3]) (.seq (.seq (rT [oLf 6 1,oCl 7 139 [.t 6],oMv 5 7,oEx 8 0 5,oEx 9 1 5,oSf 3 8,oMv 4 9] [1,3,4]) (.seq (rT [oMv 10 4,oUn 11 .not 10] [1,3,11]) (kRt 11 [oLf 12 3,oP 2 .mv [cIn 0],
 oSf 3 12,oP 4 .mv [cBo false]] [2,3,4]))) (.seq (.seq (rT [oFa 13 0 1,oLo 14 13,oBc 15 .neq 14 1] [1,3,15]) (kRt 15 [oLf 16 1,oCl 17 48 [cSt [105,110,116,101,103,101,114],.t 16],oP 2 .mv [cIn 0],oSf 3 17,oP 4 .mv [cBo false]] [2,3,4])) (.seq (rT [oFa 18 1 1,
 oLo 19 18,oP 20 (bZ []) [],oMv 2 19,oSf 3 20,oP 4 .mv [cBo true]] [2,3,4]) .ret)))
def g125:AFn:=⟨1,[(2,none),(3,some (some 4)),(4,none)],c125,false,[],[],none⟩
theorem tr125:trFn Tryz.prog false 125 Tryz.f125=some g125:=by kernel_rfl
def c126:ACode:=.seq (rT [oP 4 aZ []] [0,1,4]) (.seq (.seq (rT [oMv 5 1,oUn 6 .len 5,oBc 7 .eql 6 0] [0,1,4,7]) (kRt 7 [oMv 8 0,oCl 9 45 [.t 8],oSf 4 9] [4])) (.seq (rT [oMv 10 0,oMv 11 1,oP 12 (bZ [0,2,3]) [cIn 3,.t 10,.t 11],oCl 13 41 [.t 12],oSf 4 13] [4]) .ret))
def g126:AFn:=⟨2,[(4,some (some 4))],c126,false,[],[],none⟩
theorem tr126:trFn Tryz.prog false 126 Tryz.f126=some g126:=by kernel_rfl
def c127:ACode:=.seq (rT [oBx 1 0,oP 2 .mv [cBo false]] [1]) (.seq (rT [oFa 3 0 1,oLo 4 3,oBc 5 .eql 4 3,oMv 6 5,oG 7 (.faddr 3) [.t 1] 6 true,oG 8 (.load none) [.t 7] 6 true,oG 9 .len [.t 8] 6 true,oG 10 (.bin .eql) [.t 9,cIn 2] 6 true,oP 11 .pick [.t 6,.t 10,
 cBo false],oMv 12 11,oG 13 (.faddr 2) [.t 1] 12 true,oG 14 (.load none) [.t 13] 12 true,oG 15 (.bin .eql) [.t 14,cSt [44]] 12 true,oG 16 .mv [.t 15] 12 true,oG 17 (.faddr 2) [.t 1] 16 false,oG 18 (.load none) [.t 17] 16 false,oG 19 (.bin .eql) [.t 18,
 cSt [59]] 16 false,oG 20 .pick [.t 16,cBo true,.t 19] 12 true,oG 21 .mv [.t 20] 12 true,oG 22 (.faddr 2) [.t 1] 21 false,oG 23 (.load none) [.t 22] 21 false,oG 24 (.bin .eql) [.t 23,cSt [45,62]] 21 false,oG 25 .pick [.t 21,cBo true,.t 24] 12 true,
 oP 26 .pick [.t 12,.t 25,cBo false],oMv 2 26] [2]) .ret)
def g127:AFn:=⟨1,[(2,none)],c127,false,[],[],none⟩
theorem tr127:trFn Tryz.prog false 127 Tryz.f127=some g127:=by kernel_rfl
def c128:ACode:=.seq (rT [oP 2 .mv [cBo false]] [0]) (.seq (rT [oMv 3 0,oMv 4 0,oBi 5 .neq 3 4,oMv 2 5] [2]) .ret)
def g128:AFn:=⟨1,[(2,none)],c128,false,[],[],none⟩
theorem tr128:trFn Tryz.prog false 128 Tryz.f128=some g128:=by kernel_rfl
def c129:ACode:=.seq (rT [oP 2 .mv [cBo false]] [0]) (.seq (rT [oMv 3 0,oMv 4 0,oBi 5 .neq 3 4,oMv 2 5] [2]) .ret)
def g129:AFn:=⟨1,[(2,none)],c129,false,[],[],none⟩
theorem tr129:trFn Tryz.prog false 129 Tryz.f129=some g129:=by kernel_rfl
def c131:ACode:=.seq (rT [oBx 3 0,oP 6 .mv [cBo false]] [1,2,3]) (.seq (rT [oFa 7 0 3,oLo 8 7,oBc 9 .eql 8 2,oMv 10 9,oG 11 (.faddr 0) [.t 3] 10 false,oG 12 (.load none) [.t 11] 10 false,oG 13 (.bin .eql) [.t 12,cIn 3] 10 false,oP 14 .pick [.t 10,cBo true,.t 13],
 oMv 15 14,oG 16 (.faddr 2) [.t 3] 15 true,oG 17 (.load none) [.t 16] 15 true,oG 18 .mv [.t 1] 15 true,oG 19 (.bin .eql) [.t 17,.t 18] 15 true,oP 20 .pick [.t 15,.t 19,cBo false],oMv 21 20,oG 22 (.faddr 3) [.t 3] 21 true,oG 23 (.load none) [.t 22] 21 true,
 oG 24 .len [.t 23] 21 true,oG 25 .mv [.t 2] 21 true,oG 26 (.bin .eql) [.t 24,.t 25] 21 true,oP 27 .pick [.t 21,.t 26,cBo false],oMv 6 27] [6]) .ret)
def g131:AFn:=⟨3,[(6,none)],c131,false,[],[],none⟩
theorem tr131:trFn Tryz.prog false 131 Tryz.f131=some g131:=by kernel_rfl
def c132:ACode:=.seq (rT [oBx 1 0,oP 2 aZ []] [1,2]) (.seq (rT [oFa 5 0 1,oLo 6 5,oFa 7 1 1,oLo 8 7,oFa 9 2 1,oLo 10 9,oP 11 (bZ [0,1,2]) [.t 6,.t 8,.t 10],oP 3 aZ [],oSf 3 11] [1,2,3]) (.seq (.seq (rT [oP 4 .mv [cIn 0]] [1,2,3,4]) (.block 0 (.loop [1,2,3,4] (.seq (.seq (rT [oMv 12 4,
 oFa 13 3 1,oLo 14 13,oUn 15 .len 14,oBi 16 .lss 12 15] [1,2,3,4,16]) (kEx 16 0)) (.seq (.block 1 (.seq (.settle []) (rT [oFa 19 3 3,oLo 20 19,oFa 21 3 1,oLo 22 21,oMv 23 4,oIa 24 22 23,oLf 25 24,oP 26 .callp [cFn 132,.t 25],oUn 27 (.bslicep (some 4)) 26,
 oP 28 (.append (some 4)) [.t 20,.t 27],oFa 29 3 3,oSo 29 28] [1,2,3,4]))) (rT [oMv 17 4,oBc 18 .add 17 1,oMv 4 18] [1,2,3,4])))))) (.seq (rT [oLf 30 3,oSf 2 30] [2]) .ret)))
def g132:AFn:=⟨1,[(2,some (some 4))],c132,false,[],[],none⟩
theorem tr132:trFn Tryz.prog false 132 Tryz.f132=some g132:=by kernel_rfl
def c138:ACode:=.seq (rT [oP 2 (.nilsl (some 4)) []] [0]) (.seq (.seq (rT [oMv 3 0,oUn 4 (.slnil false) 3] [0,4]) (kRt 4 [oP 2 (.nilsl (some 4)) []] [2])) (.seq (rT [oP 5 (.bslice (some 4)) [],oMv 6 0,oP 7 (.append (some 4)) [.t 5,.t 6],oMv 2 7] [2]) .ret))
def g138:AFn:=⟨1,[(2,none)],c138,true,[],[],none⟩
theorem tr138:trFn Tryz.prog true 138 Tryz.f138=some g138:=by kernel_rfl
def c139:ACode:=.seq (rT [oBx 1 0,oP 2 aZ [],oP 3 .mv [cBo false]] [1,2]) (.seq (.seq (rT [oLf 4 1,oCl 5 36 [.t 4],oUn 6 .not 5] [1,2,6]) (kRt 6 [oP 7 (bZ []) [],oSf 2 7,oP 3 .mv [cBo false]] [2,3])) (.seq (.seq (rT [oFa 8 0 1,oLo 9 8,oBc 10 .eql 9 0] [2,10]) (kRt 10 [oCl 11 46 [],
 oSf 2 11,oP 3 .mv [cBo false]] [2,3])) (.seq (rT [oP 12 (bZ []) [],oSf 2 12,oP 3 .mv [cBo true]] [2,3]) .ret)))
def g139:AFn:=⟨1,[(2,some (some 4)),(3,none)],c139,false,[],[],none⟩
theorem tr139:trFn Tryz.prog false 139 Tryz.f139=some g139:=by kernel_rfl
def c140:ACode:=.seq (rT [oBx 3 0,oP 4 aZ []] [1,2,3,4]) (.seq (.seq (rT [oLo 5 1,oFa 6 1 3,oLo 7 6,oP 8 (.lookup false none (.pv none (.int .i64 0)) false) [.t 5,.t 7],oBc 9 .eql 8 0] [1,2,3,4,9]) (.cond (.t 9) (.seq (rT [oLo 10 1,oFa 11 1 3,oLo 12 11,⟨none,
 (.mapset false none),[.t 10,.t 12,cIn 1],none⟩] [2,3,4]) (rT [oLo 13 2,oFa 14 1 3,oLo 15 14,oUn 16 (.bslice none) 15,oP 17 (.append none) [.t 13,.t 16],oSo 2 17] [3,4])) .skip)) (.seq (rT [oLf 18 3,oSf 4 18] [4]) .ret))
def g140:AFn:=⟨3,[(4,some (some 4))],c140,true,[],[],none⟩
theorem tr140:trFn Tryz.prog true 140 Tryz.f140=some g140:=by kernel_rfl
def c141:ACode:=.seq (rT [oP 2 .mv [cBo false]] [0]) (.seq (rT [oMv 3 0,oBc 4 .geq 3 0,oMv 5 4,oG 6 .mv [.t 0] 5 true,oG 7 (.bin .leq) [.t 6,cIn 1099511627776] 5 true,oP 8 .pick [.t 5,.t 7,cBo false],oMv 2 8] [2]) .ret)
def g141:AFn:=⟨1,[(2,none)],c141,false,[],[],none⟩
theorem tr141:trFn Tryz.prog false 141 Tryz.f141=some g141:=by kernel_rfl
def c142:ACode:=.seq (rT [oBx 2 0,oP 3 aZ []] [1,2,3]) (.seq (rT [oFa 4 1 2,oLo 5 4,oLo 6 1,oBi 7 .add 5 6,oP 8 (bZ [1]) [.t 7],oSf 3 8] [3]) .ret)
def g142:AFn:=⟨2,[(3,some (some 4))],c142,true,[],[],none⟩
theorem tr142:trFn Tryz.prog true 142 Tryz.f142=some g142:=by kernel_rfl
def c143:ACode:=.seq (rT [oP 2 .mv [cBo false]] [0]) (.seq (.seq (rT [oMv 8 0,oUn 9 .len 8,oP 10 .mv [cIn 0]] [0,8,9,10]) (.block 0 (.loop [0,8,9,10] (.seq (rT [oBi 11 .lss 10 9] [0,8,9,10,11]) (.seq (kEx 11 0) (.seq (.block 1 (.seq (rT [oMv 12 10,oP 13 (.iaddr (some 5)) [.t 8,
 .t 10],oUn 14 (.load (some 5)) 13,oP 4 (.alloc (some 5) (.agg A4)) [],oMv 3 12,
 ⟨none,(.store (some 5)),[.t 4,.t 14],none⟩] [0,3,4,8,9,10]) (.seq (rT [oFa 15 0 4,oLo 16 15,oBc 17 .lss 16 0,oMv 18 17,oG 19 (.faddr 0) [.t 4] 18 false,oG 20 (.load none) [.t 19] 18 false,oG 21 (.bin .gtr) [.t 20,cIn 1099511627776] 18 false,
 oP 22 .pick [.t 18,cBo true,.t 21],oMv 23 22,oG 24 .mv [.t 3] 23 false,oG 25 (.bin .gtr) [.t 24,cIn 0] 23 false,oG 26 .mv [.t 25] 23 false,oG 27 .mv [.t 0] 26 true,oG 28 .mv [.t 3] 26 true,oG 29 (.bin .sub) [.t 28,cIn 1] 26 true,oG 30 (.iaddr (some 5)) [.t 27,
 .t 29] 26 true,oG 31 (.faddr 0) [.t 30] 26 true,oG 32 (.load none) [.t 31] 26 true,oG 33 (.faddr 0) [.t 4] 26 true,oG 34 (.load none) [.t 33] 26 true,oG 35 (.bin .geq) [.t 32,.t 34] 26 true,oG 36 .pick [.t 26,.t 35,cBo false] 23 false,oP 37 .pick [.t 23,
 cBo true,.t 36],oMv 38 37,oG 39 (.faddr 1) [.t 4] 38 false,oG 40 (.load (some 4)) [.t 39] 38 false,oG 41 .call [cFn 36,.t 40] 38 false,oG 42 .not [.t 41] 38 false,oP 43 .pick [.t 38,cBo true,.t 42]] [0,8,9,10,43]) (kRt 43 [oP 2 .mv [cBo false]] [2])))) (rT [oBc 44 .add 10 1,
 oMv 10 44] [0,8,9,10]))))))) (.seq (rT [oP 45 (.mkmap none) [],oMv 5 45] [0,5]) (.seq (.seq (rT [oMv 46 0,oUn 47 .len 46,oP 48 .mv [cIn 0]] [0,5,46,47,48]) (.block 2 (.loop [0,5,46,47,48] (.seq (rT [oBi 49 .lss 48 47] [0,5,46,47,48,49]) (.seq (kEx 49 2) (.seq (.block 3 (.seq (rT [oP 50 (.iaddr (some 5)) [.t 46,
 .t 48],oUn 51 (.load (some 5)) 50,oP 7 (.alloc (some 5) (.agg A4)) [],⟨none,
 (.store (some 5)),[.t 7,.t 51],none⟩] [0,5,7,46,47,48]) (.seq (rT [oMv 52 0,oFa 53 0 7,oLo 54 53,oMv 55 5,oCl 56 156 [.t 52,.t 54,.t 55]] [0,5,46,47,48,56]) (kRt 56 [oP 2 .mv [cBo false]] [2])))) (rT [oBc 57 .add 48 1,oMv 48 57] [0,5,46,47,48]))))))) (.seq (rT [oP 2 .mv [cBo true]] [2]) .ret))))
def g143:AFn:=⟨1,[(2,none)],c143,false,[],[],none⟩
theorem tr143:trFn Tryz.prog false 143 Tryz.f143=some g143:=by kernel_rfl
def c144:ACode:=.seq (rT [oMv 2 5] [0,1,2]) (.seq (rT [oMv 7 2,oP 8 (.assert 172 (some 1) (.pv (some 1) (.agg [(none,.int .i64 0)])) true) [.t 7],oMv 6 8,oEx 9 0 6,oEx 10 1 6,oP 3 (.alloc (some 1) (.pv (some 1) (.agg [(none,.int .i64 0)]))) [],⟨none,(.store (some 1)),
 [.t 3,.t 9],none⟩,oMv 4 10] [0,1,2,3,4]) (.seq (rT [oMv 11 4] [0,1,2,3,11]) (.seq (.cond (.t 11) (rT [oFa 12 0 3,oLo 13 12,⟨none,(.storen none),[.t 0,.c (.tsl (some 5) []),.t 12],none⟩,oSo 1 13] []) (.seq (rT [oMv 14 2,oUn 15 (.isnil true) 14] [2,
 15]) (.cond (.t 15) (rT [oMv 16 2,⟨none,.panic,[.t 16],none⟩] []) .skip))) .skip)))
def g144:AFn:=⟨2,[],c144,true,[],[],some 5⟩
theorem tr144:trFn Tryz.prog true 144 Tryz.f144=some g144:=by kernel_rfl
def c145:ACode:=.seq (rT [oP 2 (.nilsl (some 5)) []] [0]) (.seq (rT [oP 3 (.nilsl (some 5)) []] [0,3]) (.seq (.seq (rT [oMv 6 0,oUn 7 .len 6,oP 8 .mv [cIn 0]] [3,6,7,8]) (.block 0 (.loop [3,6,7,8] (.seq (rT [oBi 9 .lss 8 7] [3,6,7,8,9]) (.seq (kEx 9 0) (.seq (.block 1 (.seq (rT [oP 10 (.iaddr (some 5)) [.t 6,
 .t 8],oUn 11 (.load (some 5)) 10,oP 5 (.alloc (some 5) (.agg A4)) [],⟨none,
 (.store (some 5)),[.t 5,.t 11],none⟩] [3,5,6,7,8]) (.region false [oMv 12 3,oFa 13 0 5,oLo 14 13,oFa 15 1 5,oLf 16 15,oP 17 (.calln 1) [.t 13,cFn 41,.t 16],oP 18 (.build [(none,.pv none (.int .i64 0)),(some 4,.agg [(none,.pv none (.int .i64 0)),
 (none,.pv none (.int .i64 0)),(none,.pv none (.str [])),(none,.tsl (some 4) [])])] [0,1]) [.t 14,.t 17],oUn 19 (.bslice (some 5)) 18,oP 20 (.append (some 5)) [.t 12,.t 19],oMv 3 20] [3,6,7,8]))) (rT [oBc 21 .add 8 1,oMv 8 21] [3,6,7,8]))))))) (.seq (rT [oMv 22 3,
 oMv 2 22] [2]) .ret)))
def g145:AFn:=⟨1,[(2,none)],c145,true,[],[],none⟩
theorem tr145:trFn Tryz.prog true 145 Tryz.f145=some g145:=by kernel_rfl
def c146:ACode:=.seq (rT [oBx 4 1,oBx 5 2] [0,4,5]) (.seq (rT [oLf 12 4,oLf 13 5,oP 14 (.build [(some 4,.agg A0),(some 4,.agg [(none,
 (.pv none (.int .i64 0))),(none,.pv none (.int .i64 0)),(none,.pv none (.str [])),(none,.tsl (some 4) [])])] [0,1]) [.t 12,.t 13],oUn 15 (.bslo (some 8)) 14,oMv 6 15] [0,6]) (.seq (rT [oP 7 .mv [cIn 0]] [0,6,7]) (.block 0 (.loop [0,6,
 7] (.seq (.seq (rT [oMv 16 6,oUn 17 .len 16,oBc 18 .gtr 17 0] [0,6,7,18]) (kEx 18 0)) (.seq (.block 1 (.seq (.seq (rT [oMv 21 7,oBc 22 .eql 21 1048576] [0,6,7,22]) (.cond (.t 22) (rT [oP 23 (.build A5 [0]) [cIn 2],
 oUn 24 (.mkiface 172) 23,⟨none,.panic,[.t 24],none⟩] [0,6,7]) .skip)) (.seq (rT [oMv 25 6,oMv 26 6,oUn 27 .len 26,oBc 28 .sub 27 1,oP 29 (.iaddr (some 8)) [.t 25,.t 28],oUn 30 (.load (some 8)) 29,oP 8 (.alloc (some 8) (.agg [(some 4,.agg [(none,
 (.pv none (.int .i64 0))),(none,.pv none (.int .i64 0)),(none,.pv none (.str [])),(none,.tsl (some 4) [])]),(some 4,.agg A0)])) [],
 ⟨none,(.store (some 8)),[.t 8,.t 30],none⟩] [0,6,7,8]) (.seq (rT [oMv 31 6,oMv 32 6,oUn 33 .len 32,oBc 34 .sub 33 1,oP 35 (.slice (some 8) false true) [.t 31,.t 34],oMv 6 35] [0,6,7,8]) (.seq (.region false [oMv 36 0,oUn 37 .nilcheck 36,oFa 38 0 37,
 oLo 39 38,oP 40 (.iaddrA (some 4) 2) [.t 8,cIn 0],oLf 41 40,oP 42 .callg [cFn 157,.t 39,.t 41],oMv 43 0,oUn 44 .nilcheck 43,oFa 45 0 44,oLo 46 45,oP 47 (.iaddrA (some 4) 2) [.t 8,cIn 1],oLf 48 47,oCl 49 157 [.t 46,.t 48],oP 9 aZ [],oP 10 aZ [],
 oSf 9 42,oSf 10 49] [0,6,7,9,10]) (.seq (rT [oMv 50 0,oLf 51 9,oLf 52 10,oCl 53 158 [.t 50,.t 51,.t 52]] [0,6,7,9,10,53]) (.cond (.t 53) (.seq (rT [oFa 54 3 9,oLo 55 54,oUn 56 .len 55,oBc 57 .sub 56 1,oMv 11 57] [0,6,7,9,10,11]) (.block 2 (.loop [0,
 6,7,9,10,11] (.seq (.seq (rT [oMv 58 11,oBc 59 .geq 58 0] [0,6,7,9,10,11,59]) (kEx 59 2)) (.seq (.block 3 (rT [oMv 62 6,oFa 63 3 9,oLo 64 63,oMv 65 11,oIa 66 64 65,oLf 67 66,oFa 68 3 10,oLo 69 68,oMv 70 11,oIa 71 69 70,oLf 72 71,oP 73 (.build [(some 4,
 (.agg A0)),(some 4,.agg [(none,.pv none (.int .i64 0)),(none,.pv none (.int .i64 0)),(none,.pv none (.str [])),(none,
 (.tsl (some 4) []))])] [0,1]) [.t 67,.t 72],oUn 74 (.bslice (some 8)) 73,oP 75 (.append (some 8)) [.t 62,.t 74],oMv 6 75] [0,6,7,9,10,11])) (rT [oMv 60 11,oBc 61 .sub 60 1,oMv 11 61] [0,6,7,9,10,11])))))) .skip))))))) (rT [oMv 19 7,oBc 20 .add 19 1,
 oMv 7 20] [0,6,7])))))))
def g146:AFn:=⟨3,[],c146,true,[],[],none⟩
theorem tr146:trFn Tryz.prog true 146 Tryz.f146=some g146:=by kernel_rfl
def c156:ACode:=.seq (rT [oP 6 .mv [cBo false]] [0,1,2]) (.seq (.seq (rT [oMv 11 2,oMv 12 1,oP 13 (.lookup false none (.pv none (.int .i64 0)) false) [.t 11,.t 12],oBc 14 .neq 13 0] [0,1,2,14]) (kRt 14 [oMv 15 2,oMv 16 1,oP 17 (.lookup false none (.pv none (.int .i64 0)) false) [.t 15,
 .t 16],oBc 18 .eql 17 1,oMv 6 18] [6])) (.seq (rT [oMv 20 0,oMv 21 1,oP 22 (bZ [1]) [.t 21],oCl 23 162 [.t 20,.t 22],oMv 19 23,oEx 24 0 19,oEx 25 1 19,oP 7 aZ [],oSf 7 24,oMv 8 25] [0,1,2,7,8]) (.seq (.seq (rT [oMv 26 8,oUn 27 .not 26] [0,1,
 2,7,27]) (kRt 27 [oP 6 .mv [cBo false]] [6])) (.seq (rT [oMv 28 2,oMv 29 1,⟨none,(.mapset false none),[.t 28,.t 29,cIn 1],none⟩] [0,1,2,7]) (.seq (.seq (rT [oLf 30 7,oCl 31 121 [.t 30],oUn 32 .len 31,oP 33 .mv [cIn 0]] [0,1,2,31,32,33]) (.block 0 (.loop [0,
 1,2,31,32,33] (.seq (rT [oBi 34 .lss 33 32] [0,1,2,31,32,33,34]) (.seq (kEx 34 0) (.seq (.block 1 (.seq (rT [oP 35 (.iaddr none) [.t 31,.t 33],oLo 36 35,oMv 10 36] [0,1,2,10,31,32,33]) (.seq (rT [oMv 37 0,oMv 38 10,oMv 39 2,oCl 40 156 [.t 37,
 .t 38,.t 39]] [0,1,2,31,32,33,40]) (kRt 40 [oP 6 .mv [cBo true]] [6])))) (rT [oBc 41 .add 33 1,oMv 33 41] [0,1,2,31,32,33]))))))) (.seq (rT [oMv 42 2,oMv 43 1,⟨none,(.mapset false none),[.t 42,.t 43,cIn 2],none⟩] []) (.seq (rT [oP 6 .mv [cBo false]] [6]) .ret)))))))
def g156:AFn:=⟨3,[(6,none)],c156,true,[],[],none⟩
theorem tr156:trFn Tryz.prog true 156 Tryz.f156=some g156:=by kernel_rfl
def c157:ACode:=.seq (rT [oBx 3 1,oP 4 aZ []] [0,3,4]) (.block 0 (.loop [0,3,4] ((.block 1 (.seq (rT [oMv 8 0,oLf 9 3,oCl 10 162 [.t 8,.t 9],oMv 7 10,oEx 11 0 7,oEx 12 1 7,oP 5 aZ [],oSf 5 11,oMv 6 12] [0,3,4,5,6]) (.seq (.seq (rT [oMv 13 6,oUn 14 .not 13] [0,
 3,4,5,14]) (kRt 14 [oLf 15 3,oSf 4 15] [4])) (rT [oLf 16 5,oSf 3 16] [0,3,4])))))))
def g157:AFn:=⟨2,[(4,some (some 4))],c157,true,[],[],none⟩
theorem tr157:trFn Tryz.prog true 157 Tryz.f157=some g157:=by kernel_rfl
def c158:ACode:=.seq (rT [oBx 4 1,oBx 5 2,oP 6 .mv [cBo false]] [0,4,5]) (.seq (.block 0 (.seq (rT [oFa 8 0 4,oLo 9 8,oBc 10 .eql 9 0,oMv 11 10,oG 12 (.faddr 0) [.t 5] 11 true,oG 13 (.load none) [.t 12] 11 true,oG 14 (.bin .eql) [.t 13,cIn 0] 11 true,oP 15 .pick [.t 11,
 .t 14,cBo false],oMv 7 15] [0,4,5,7]) (.cond (.t 7) (.seq (rT [oFa 16 1 4,oLo 17 16,oFa 18 1 5,oLo 19 18,oBi 20 .neq 17 19] [0,4,5,20]) (.cond (.t 20) (rT [oMv 21 0,oFa 22 1 4,oLo 23 22,oFa 24 1 5,oLo 25 24,oP 26 .max [.t 23,.t 25],oFa 27 1 4,
 oLo 28 27,oFa 29 1 5,oLo 30 29,oP 31 .min [.t 28,.t 30],oP 32 (bZ [1]) [.t 31],oCl 33 163 [.t 21,.t 26,.t 32]] []) .skip)) (.seq (rT [oFa 35 0 4,oLo 36 35,oBc 37 .eql 36 0,oMv 34 37] [0,4,5,34]) (.cond (.t 34) (rT [oMv 38 0,oFa 39 1 4,oLo 40 39,
 oLf 41 5,oCl 42 163 [.t 38,.t 40,.t 41]] []) (.seq (rT [oFa 44 0 5,oLo 45 44,oBc 46 .eql 45 0,oMv 43 46] [0,4,5,43]) (.cond (.t 43) (rT [oMv 47 0,oFa 48 1 5,oLo 49 48,oLf 50 4,oCl 51 163 [.t 47,.t 49,.t 50]] []) (.seq (rT [oFa 53 0 4,oLo 54 53,
 oFa 55 0 5,oLo 56 55,oBi 57 .neq 54 56,oMv 58 57,oG 59 (.faddr 1) [.t 4] 58 false,oG 60 (.load none) [.t 59] 58 false,oG 61 (.faddr 1) [.t 5] 58 false,oG 62 (.load none) [.t 61] 58 false,oG 63 (.bin .neq) [.t 60,.t 62] 58 false,oP 64 .pick [.t 58,
 cBo true,.t 63],oMv 65 64,oG 66 (.faddr 2) [.t 4] 65 false,oG 67 (.load none) [.t 66] 65 false,oG 68 (.faddr 2) [.t 5] 65 false,oG 69 (.load none) [.t 68] 65 false,oG 70 (.bin .neq) [.t 67,.t 69] 65 false,oP 71 .pick [.t 65,cBo true,.t 70],oMv 72 71,
 oG 73 (.faddr 3) [.t 4] 72 false,oG 74 (.load none) [.t 73] 72 false,oG 75 .len [.t 74] 72 false,oG 76 (.faddr 3) [.t 5] 72 false,oG 77 (.load none) [.t 76] 72 false,oG 78 .len [.t 77] 72 false,oG 79 (.bin .neq) [.t 75,.t 78] 72 false,oP 80 .pick [.t 72,
 cBo true,.t 79],oMv 52 80] [52]) (.cond (.t 52) (rT [oP 81 (.build A5 [0]) [cIn 4],oUn 82 (.mkiface 172) 81,⟨none,.panic,[.t 82],none⟩] []) (.seq (rT [oP 6 .mv [cBo true]] [6]) .ret)))))))))) (.seq (rT [oP 6 .mv [cBo false]] [6]) .ret))
def g158:AFn:=⟨3,[(6,none)],c158,true,[],[],none⟩
theorem tr158:trFn Tryz.prog true 158 Tryz.f158=some g158:=by kernel_rfl
def c162:ACode:=.seq (rT [oBx 3 1,oP 4 aZ [],oP 5 .mv [cBo false]] [0,3,4]) (.seq (.seq (rT [oFa 8 0 3,oLo 9 8,oBc 10 .neq 9 0] [0,3,4,10]) (kRt 10 [oP 11 (bZ []) [],oSf 4 11,oP 5 .mv [cBo false]] [4,5])) (.seq (rT [oMv 13 0,oFa 14 1 3,oLo 15 14,oCl 16 166 [.t 13,
 .t 15],oMv 12 16,oEx 17 0 12,oEx 18 1 12,oMv 6 17,oMv 7 18] [0,4,6,7]) (.seq (.seq (rT [oMv 19 7,oUn 20 .not 19] [0,4,6,20]) (kRt 20 [oP 21 (bZ []) [],oSf 4 21,oP 5 .mv [cBo false]] [4,5])) (.seq (rT [oMv 22 0,oMv 23 6,oP 24 (.iaddr (some 5)) [.t 22,
 .t 23],oFa 25 1 24,oLf 26 25,oSf 4 26,oP 5 .mv [cBo true]] [4,5]) .ret))))
def g162:AFn:=⟨2,[(4,some (some 4)),(5,none)],c162,true,[],[],none⟩
theorem tr162:trFn Tryz.prog true 162 Tryz.f162=some g162:=by kernel_rfl
def c163:ACode:=.seq (rT [oBx 5 2] [0,1,5]) (.seq (.seq (rT [oMv 8 0,oUn 9 .nilcheck 8,oFa 10 0 9,oLo 11 10,oMv 12 1,oLf 13 5,oP 14 (.mkmap none) [],oCl 15 167 [.t 11,.t 12,.t 13,.t 14]] [0,1,5,15]) (.cond (.t 15) (rT [oP 16 (.build A5 [0]) [cIn 9],
 oUn 17 (.mkiface 172) 16,⟨none,.panic,[.t 17],none⟩] [0,1,5]) .skip)) (.seq (rT [oMv 19 0,oUn 20 .nilcheck 19,oFa 21 0 20,oLo 22 21,oMv 23 1,oCl 24 166 [.t 22,.t 23],oMv 18 24,oEx 25 0 18,oEx 26 1 18,oMv 6 25,oMv 7 26] [0,1,5,6]) (.region false [oMv 27 0,
 oMv 28 0,oUn 29 .nilcheck 28,oFa 30 0 29,oLo 31 30,oMv 32 6,oMv 33 1,oLf 34 5,oP 35 (.calln 1) [.t 30,cFn 41,.t 34],oP 36 (.build [(none,.pv none (.int .i64 0)),(some 4,.agg [(none,.pv none (.int .i64 0)),(none,.pv none (.int .i64 0)),
 (none,.pv none (.str [])),(none,.tsl (some 4) [])])] [0,1]) [.t 33,.t 35],oP 37 (.bslicen (some 5) 1) [.t 30,.t 36],oCl 38 168 [.t 31,.t 32,.t 37],oUn 39 .nilcheck 27,oFa 40 0 39,oSo 40 38] [])))
def g163:AFn:=⟨3,[],c163,true,[],[],none⟩
theorem tr163:trFn Tryz.prog true 163 Tryz.f163=some g163:=by kernel_rfl
def c166:ACode:=.seq (rT [oP 4 .mv [cIn 0],oP 5 .mv [cBo false]] [0,1]) (.seq (rT [oMv 6 0,oMv 7 1,oCl 8 169 [.t 6,.t 7,cFn 170],oEx 9 0 8,oEx 10 1 8,oMv 4 9,oMv 5 10] [4,5]) .ret)
def g166:AFn:=⟨2,[(4,none),(5,none)],c166,false,[],[],none⟩
theorem tr166:trFn Tryz.prog false 166 Tryz.f166=some g166:=by kernel_rfl
def c167r0:LO:=[oBx 6 2,oP 8 .mv [cBo false]]
def c167r1:LO:=[oFa 13 0 6,oLo 14 13,oBc 15 .eql 14 0]
def c167r2:LO:=[oMv 17 0,oLf 18 6,oCl 19 162 [.t 17,.t 18],oMv 16 19,oEx 20 0 16,oEx 21 1 16,oP 9 aZ [],oSf 9 20,oMv 10 21]
def c167r3:LO:=[oMv 22 10,oUn 23 .not 22]
def c167r4:LO:=[oFa 24 1 6,oLo 25 24,oMv 26 1,oBi 27 .eql 25 26,oMv 8 27]
def c167k5:ACode:=kRt 23 c167r4 [8]
def c167r6:LO:=[oMv 28 3,oFa 29 1 6,oLo 30 29,oP 31 (.lookup false none (.pv none (.int .i64 0)) false) [.t 28,.t 30],oBc 32 .add 31 1,⟨none,(.mapset false none),[.t 28,.t 30,.t 32],none⟩]
def c167r7:LO:=[oMv 33 3,oFa 34 1 6,oLo 35 34,oP 36 (.lookup false none (.pv none (.int .i64 0)) false) [.t 33,.t 35],oBc 37 .eql 36 1,oMv 38 37,oG 39 .mv [.t 0] 38 true,oG 40 .mv [.t 1] 38 true,oG 41 (.load (some 4)) [.t 9] 38 true,oG 42 .mv [.t 3] 38 true,
 oG 43 .call [cFn 167,.t 39,.t 40,.t 41,.t 42] 38 true,oP 44 .pick [.t 38,.t 43,cBo false],oMv 8 44]
def c167k8:ACode:=.cond (.t 15) (.seq (rT c167r2 [0,1,3,6,9,10]) (.seq (.seq (rT c167r3 [0,1,3,6,9,23]) c167k5) (.seq (rT c167r6 [0,1,3,6,9]) (.seq (rT c167r7 [8]) .ret)))) .skip
def c167r9:LO:=[oFa 45 3 6,oLo 46 45,oUn 47 .len 46,oP 48 .mv [cIn 0]]
def c167r10:LO:=[oBi 49 .lss 48 47]
def c167k11:ACode:=kEx 49 0
def c167r12:LO:=[oIa 50 46 48,oLf 51 50,oP 12 aZ [],oSf 12 51]
def c167r13:LO:=[oMv 52 0,oMv 53 1,oLf 54 12,oMv 55 3,oCl 56 167 [.t 52,.t 53,.t 54,.t 55]]
def c167r14:LO:=[oP 8 .mv [cBo true]]
def c167k15:ACode:=kRt 56 c167r14 [8]
def c167k16:ACode:=.block 1 (.seq (rT c167r12 [0,1,3,12,46,47,48]) (.seq (rT c167r13 [0,1,3,46,47,48,56]) c167k15))
def c167r17:LO:=[oBc 57 .add 48 1,oMv 48 57]
def c167b18:ACode:=.seq (rT c167r10 [0,1,3,46,47,48,49]) (.seq c167k11 (.seq c167k16 (rT c167r17 [0,1,3,46,47,48])))
def c167k19:ACode:=.block 0 (.loop [0,1,3,46,47,48] c167b18)
def c167r20:LO:=[oP 8 .mv [cBo false]]
def c167:ACode:=.seq (rT c167r0 [0,1,3,6]) (.seq (.seq (rT c167r1 [0,1,3,6,15]) c167k8) (.seq (.seq (rT c167r9 [0,1,3,46,47,48]) c167k19) (.seq (rT c167r20 [8]) .ret)))
def g167:AFn:=⟨4,[(8,none)],c167,true,[],[],none⟩
theorem tr167:trFn Tryz.prog true 167 Tryz.f167=some g167:=by kernel_rfl
def c169:ACode:=.seq (rT [oP 6 .mv [cIn 0],oP 7 .mv [cBo false]] [0,1,2]) (.seq (rT [oMv 12 0,oUn 13 .len 12,oMv 8 13] [0,1,2,8]) (.seq (rT [oMv 14 8,oP 9 .mv [cIn 0],oMv 10 14] [0,1,2,8,9,10]) (.seq (.block 0 (.loop [0,1,2,8,9,10] (.seq (.seq (rT [oMv 15 9,
 oMv 16 10,oBi 17 .lss 15 16] [0,1,2,8,9,10,17]) (kEx 17 0)) (.block 1 (.seq (rT [oMv 18 9,oMv 19 10,oBi 20 .add 18 19,oUn 21 (.conv .u64) 20,oP 22 (.bin .shr) [.t 21,.c (.pv none (.int .u64 1))],oUn 23 (.conv .i64) 22,oMv 11 23] [0,1,2,8,9,10,
 11]) (.seq (rT [oMv 24 2,oMv 25 0,oMv 26 11,oP 27 (.iaddr (some 5)) [.t 25,.t 26],oUn 28 (.load (some 5)) 27,oMv 29 1,oP 30 .call [.t 24,.t 28,.t 29],oBc 31 .lss 30 0] [0,1,2,8,9,10,11,31]) (.cond (.t 31) (rT [oMv 32 11,oBc 33 .add 32 1,oMv 9 33] [0,
 1,2,8,9,10]) (rT [oMv 34 11,oMv 10 34] [0,1,2,8,9,10])))))))) (.seq (rT [oMv 35 9,oMv 36 9,oMv 37 8,oBi 38 .lss 36 37,oMv 39 38,oG 40 .mv [.t 2] 39 true,oG 41 .mv [.t 0] 39 true,oG 42 .mv [.t 9] 39 true,oG 43 (.iaddr (some 5)) [.t 41,.t 42] 39 true,
 oG 44 (.load (some 5)) [.t 43] 39 true,oG 45 .mv [.t 1] 39 true,oG 46 .call [.t 40,.t 44,.t 45] 39 true,oG 47 (.bin .eql) [.t 46,cIn 0] 39 true,oP 48 .pick [.t 39,.t 47,cBo false],oMv 6 35,oMv 7 48] [6,7]) .ret))))
def g169:AFn:=⟨3,[(6,none),(7,none)],c169,false,[],[],none⟩
theorem tr169:trFn Tryz.prog false 169 Tryz.f169=some g169:=by kernel_rfl
def c170:ACode:=.seq (rT [oUn 2 (.box (some 5)) 0,oP 4 .mv [cIn 0]] [1,2]) (.seq (rT [oFa 5 0 2,oLo 6 5,oMv 7 1,oCl 8 171 [.t 6,.t 7],oMv 4 8] [4]) .ret)
def g170:AFn:=⟨2,[(4,none)],c170,false,[],[],none⟩
theorem tr170:trFn Tryz.prog false 170 Tryz.f170=some g170:=by kernel_rfl
def c171:ACode:=.seq (rT [oP 4 .mv [cIn 0]] [0,1]) (.seq (rT [oMv 7 0,oCl 8 174 [.t 7],oMv 5 8] [0,1,5]) (.seq (rT [oMv 9 1,oCl 10 174 [.t 9],oMv 6 10] [0,1,5,6]) (.seq (.seq (rT [oMv 11 5] [0,1,6,11]) (.cond (.t 11) (.seq (.seq (rT [oMv 12 6] [12]) (kRt 12 [oP 4 .mv [cIn 0]] [4])) (.seq (rT [oP 4 .mv [.c (.pv none (.int .i64 (-1)))]] [4]) .ret)) .skip)) (.seq (.seq (rT [oMv 13 6] [0,
 1,13]) (kRt 13 [oP 4 .mv [cIn 1]] [4])) (.seq (.seq (rT [oMv 14 0,oMv 15 1,oBi 16 .lss 14 15] [0,1,16]) (kRt 16 [oP 4 .mv [.c (.pv none (.int .i64 (-1)))]] [4])) (.seq (.seq (rT [oMv 17 0,oMv 18 1,oBi 19 .gtr 17 18] [19]) (kRt 19 [oP 4 .mv [cIn 1]] [4])) (.seq (rT [oP 4 .mv [cIn 0]] [4]) .ret)))))))
def g171:AFn:=⟨2,[(4,none)],c171,false,[],[],none⟩
theorem tr171:trFn Tryz.prog false 171 Tryz.f171=some g171:=by kernel_rfl
def c174:ACode:=.seq (rT [oP 2 .mv [cBo false]] [0]) (.seq (rT [oMv 3 0,oMv 4 0,oBi 5 .neq 3 4,oMv 2 5] [2]) .ret)
def g174:AFn:=⟨1,[(2,none)],c174,false,[],[],none⟩
theorem tr174:trFn Tryz.prog false 174 Tryz.f174=some g174:=by kernel_rfl
def tab:List (Nat × AFn):=[(4,g4),(6,g6),(7,g7),(8,g8),(9,g9),(10,g10),(11,g11),(12,g12),(13,g13),(14,g14),(15,g15),(16,g16),(17,g17),(18,g18),(19,g19),(20,g20),(21,g21),(22,g22),(23,g23),(24,g24),(25,g25),(26,g26),(27,g27),(28,g28),(29,g29),(30,g30),(31,g31),(32,g32),(33,g33),(34,g34),(35,g35),(36,g36),(37,g37),(38,g38),(40,g40),(41,g41),(42,g42),(43,g43),(44,g44),(45,g45),(46,g46),(47,g47),(48,g48),(49,g49),(50,g50),(51,g51),(52,g52),(53,g53),(54,g54),(55,g55),(56,g56),(57,g57),(58,g58),(60,g60),(61,g61),(62,g62),(63,g63),(64,g64),(65,g65),(66,g66),(67,g67),(68,g68),(69,g69),(70,g70),(71,g71),(72,g72),(73,g73),(74,g74),(75,g75),(76,g76),(77,g77),(78,g78),(82,g82),(83,g83),(84,g84),(85,g85),(86,g86),(87,g87),(88,g88),(89,g89),(90,g90),(91,g91),(92,g92),(93,g93),(94,g94),(95,g95),(96,g96),(97,g97),(98,g98),(99,g99),(102,g102),(103,g103),(104,g104),(105,g105),(106,g106),(107,g107),(108,g108),(109,g109),(110,g110),(111,g111),(112,g112),(117,g117),(118,g118),(119,g119),(120,g120),(121,g121),(122,g122),(123,g123),(124,g124),(125,g125),(126,g126),(127,g127),(128,g128),(129,g129),(131,g131),(132,g132),(138,g138),(139,g139),(140,g140),(141,g141),(142,g142),(143,g143),(144,g144),(145,g145),(146,g146),(156,g156),(157,g157),(158,g158),(162,g162),(163,g163),(166,g166),(167,g167),(169,g169),(170,g170),(171,g171),(174,g174)]
theorem mn:qF Tryz.prog tab:=
 (zI Tryz.func4 tr4
 (zI Tryz.func6 tr6
 (zI Tryz.func7 tr7
 (zI Tryz.func8 tr8
 (zI Tryz.func9 tr9
 (zI Tryz.func10 tr10
 (zI Tryz.func11 tr11
 (zI Tryz.func12 tr12
 (zI Tryz.func13 tr13
 (zI Tryz.func14 tr14
 (zI Tryz.func15 tr15
 (zI Tryz.func16 tr16
 (zI Tryz.func17 tr17
 (zI Tryz.func18 tr18
 (zI Tryz.func19 tr19
 (zI Tryz.func20 tr20
 (zI Tryz.func21 tr21
 (zI Tryz.func22 tr22
 (zI Tryz.func23 tr23
 (zI Tryz.func24 tr24
 (zI Tryz.func25 tr25
 (zI Tryz.func26 tr26
 (zI Tryz.func27 tr27
 (zI Tryz.func28 tr28
 (zI Tryz.func29 tr29
 (zI Tryz.func30 tr30
 (zI Tryz.func31 tr31
 (zI Tryz.func32 tr32
 (zI Tryz.func33 tr33
 (zI Tryz.func34 tr34
 (zI Tryz.func35 tr35
 (zI Tryz.func36 tr36
 (zI Tryz.func37 tr37
 (zI Tryz.func38 tr38
 (zI Tryz.func40 tr40
 (zI Tryz.func41 tr41
 (zI Tryz.func42 tr42
 (zI Tryz.func43 tr43
 (zI Tryz.func44 tr44
 (zI Tryz.func45 tr45
 (zI Tryz.func46 tr46
 (zI Tryz.func47 tr47
 (zI Tryz.func48 tr48
 (zI Tryz.func49 tr49
 (zI Tryz.func50 tr50
 (zI Tryz.func51 tr51
 (zI Tryz.func52 tr52
 (zI Tryz.func53 tr53
 (zI Tryz.func54 tr54
 (zI Tryz.func55 tr55
 (zI Tryz.func56 tr56
 (zI Tryz.func57 tr57
 (zI Tryz.func58 tr58
 (zI Tryz.func60 tr60
 (zI Tryz.func61 tr61
 (zI Tryz.func62 tr62
 (zI Tryz.func63 tr63
 (zI Tryz.func64 tr64
 (zI Tryz.func65 tr65
 (zI Tryz.func66 tr66
 (zI Tryz.func67 tr67
 (zI Tryz.func68 tr68
 (zI Tryz.func69 tr69
 (zI Tryz.func70 tr70
 (zI Tryz.func71 tr71
 (zI Tryz.func72 tr72
 (zI Tryz.func73 tr73
 (zI Tryz.func74 tr74
 (zI Tryz.func75 tr75
 (zI Tryz.func76 tr76
 (zI Tryz.func77 tr77
 (zI Tryz.func78 tr78
 (zI Tryz.func82 tr82
 (zI Tryz.func83 tr83
 (zI Tryz.func84 tr84
 (zI Tryz.func85 tr85
 (zI Tryz.func86 tr86
 (zI Tryz.func87 tr87
 (zI Tryz.func88 tr88
 (zI Tryz.func89 tr89
 (zI Tryz.func90 tr90
 (zI Tryz.func91 tr91
 (zI Tryz.func92 tr92
 (zI Tryz.func93 tr93
 (zI Tryz.func94 tr94
 (zI Tryz.func95 tr95
 (zI Tryz.func96 tr96
 (zI Tryz.func97 tr97
 (zI Tryz.func98 tr98
 (zI Tryz.func99 tr99
 (zI Tryz.func102 tr102
 (zI Tryz.func103 tr103
 (zI Tryz.func104 tr104
 (zI Tryz.func105 tr105
 (zI Tryz.func106 tr106
 (zI Tryz.func107 tr107
 (zI Tryz.func108 tr108
 (zI Tryz.func109 tr109
 (zI Tryz.func110 tr110
 (zI Tryz.func111 tr111
 (zI Tryz.func112 tr112
 (zI Tryz.func117 tr117
 (zI Tryz.func118 tr118
 (zI Tryz.func119 tr119
 (zI Tryz.func120 tr120
 (zI Tryz.func121 tr121
 (zI Tryz.func122 tr122
 (zI Tryz.func123 tr123
 (zI Tryz.func124 tr124
 (zI Tryz.func125 tr125
 (zI Tryz.func126 tr126
 (zI Tryz.func127 tr127
 (zI Tryz.func128 tr128
 (zI Tryz.func129 tr129
 (zI Tryz.func131 tr131
 (zI Tryz.func132 tr132
 (zI Tryz.func138 tr138
 (zI Tryz.func139 tr139
 (zI Tryz.func140 tr140
 (zI Tryz.func141 tr141
 (zI Tryz.func142 tr142
 (zI Tryz.func143 tr143
 (zI Tryz.func144 tr144
 (zI Tryz.func145 tr145
 (zI Tryz.func146 tr146
 (zI Tryz.func156 tr156
 (zI Tryz.func157 tr157
 (zI Tryz.func158 tr158
 (zI Tryz.func162 tr162
 (zI Tryz.func163 tr163
 (zI Tryz.func166 tr166
 (zI Tryz.func167 tr167
 (zI Tryz.func169 tr169
 (zI Tryz.func170 tr170
 (zI Tryz.func171 tr171
 (zI Tryz.func174 tr174 eQ))))))))))))))))))))))))))))))))))))))))))))))))))))))))))))))))))))))))))))))))))))))))))))))))))))))))))))))))))))))))))))))))))))))))
attribute [go_sem] c4 g4 c6 g6 c7 g7 c8 g8 c10 g10 c11 g11 c13 g13 c15 g15 c17 g17 c18 g18 c19 g19 c20 g20 c21 g21 c22 g22 c23 g23 c24 g24 c25 g25 c26 g26 c27 g27 c28 g28 c29 g29 c30 g30 c31 g31 c34 g34 c35r0 c35r1 c35r2 c35k3 c35r4 c35r5 c35k6 c35r7 c35k8 c35r9 c35r12 c35 g35 c36 g36 c37 g37 c38 g38 c40p4 c40 g40 c41 g41 c42r0 c42r1 c42r2 c42r3 c42k4 c42r5 c42r6 c42r7 c42r8 c42r9 c42k10 c42r11 c42r12 c42k13 c42r14 c42b15 c42k16 c42r17 c42k18 c42r19 c42b20 c42k21 c42r22 c42 g42 c44 g44 c45 g45 c47 g47 c49p3 c49 g49 c50 g50 c51 g51 c52 g52 c53 g53 c54 g54 c55 g55 c56 g56 c57 g57 c58 g58 c61 g61 c62 g62 c63 g63 c64r0 c64r1 c64r2 c64k3 c64r4 c64r5 c64k6 c64r7 c64r8 c64k9 c64k10 c64r11 c64k13 c64r14 c64 g64 c65 g65 c66 g66 c67 g67 c68 g68 c69 g69 c70 g70 c72 g72 c73 g73 c74r0 c74r1 c74r2 c74r3 c74r4 c74r5 c74r6 c74r7 c74r8 c74r9 c74r10 c74k11 c74k12 c74k13 c74k14 c74r16 c74r17 c74k18 c74r19 c74k20 c74r21 c74b22 c74k23 c74r24 c74 g74 c75r0 c75r1 c75r2 c75k3 c75r4 c75r5 c75k6 c75r7 c75r8 c75r9 c75k10 c75k11 c75r12 c75k14 c75r15 c75 g75 c76 g76 c77 g77 c82 g82 c83 g83 c84 g84 c85 g85 c87 g87 c88 g88 c89 g89 c90r4 c90 g90 c91 g91 c92 g92 c93 g93 c94 g94 c95 g95 c96 g96 c97 g97 c99 g99 c102 g102 c103 g103 c104 g104 c105 g105 c106 g106 c107 g107 c108 g108 c109 g109 c110 g110 c112 g112 c117 g117 c118 g118 c119 g119 c120 g120 c121 g121 c122 g122 c123 g123 c124p8 c124 g124 c125 g125 c126 g126 c127 g127 c128 g128 c129 g129 c131 g131 c132 g132 c138 g138 c139 g139 c140 g140 c141 g141 c142 g142 c144 g144 c145 g145 c146 g146 c157 g157 c158 g158 c162 g162 c163 g163 c166 g166 c167r0 c167r1 c167r2 c167r3 c167r4 c167k5 c167r6 c167r7 c167k8 c167r9 c167r10 c167k11 c167r12 c167r13 c167r14 c167k15 c167k16 c167r17 c167k19 c167r20 c167 g167 c169 g169 c170 g170 c171 g171 c174 g174
end Go.Proofs.YtgedfopkiebjkaaGreatDoor
