/- The functions as the abstract machine has them,each proved to be what the translation gives. -/
import Derived.Test.YtffecaafklpmhaaGreatAm4
import Derived.Test.YtffecaafklpmhaaGreatProg
import Derived.KernelRfl
namespace Go.Proofs.YtffecaafklpmhaaGreat
open Go.Am
abbrev O8(x:Int):AV:=.pv none (.int .i64 x)
abbrev O9(x:Bool):AV:=.pv none (.bool x)
abbrev Oh(x:List UInt8):AV:=.pv none (.str x)
abbrev A0:List (Sh×AV):=[(none,.pv none (.int .i64 0)),(none,.pv none (.int .i64 0)),(none,.pv none (.str [])),(none,.tsl (some 4) [])]
abbrev A3:List (Sh×AV):=[(none,.pv none (.int .i64 0)),(some 4,.agg A0)]
abbrev A4:List (Sh×AV):=[(none,.pv none (.int .i64 0))]
abbrev A5:List (Sh×AV):=[(none,.pv none (.int .i64 2)),(none,.pv none (.int .i64 0)),(none,.pv none (.str [91,93])),(none,.tsl (some 4) [])]
def oP(d:Nat)(p:AOp)(l:List AArg):AOper:=⟨some d,p,l,none⟩
def aZ:AOp:=.alloc (some 4) (.agg A0)
def bZ(l:List Nat):AOp:=.build A0 l
def oMv(d s:Nat):AOper:=⟨some d,.mv,[.t s],none⟩
def oLf(d s:Nat):AOper:=⟨some d,.load (some 4),[.t s],none⟩
def oLo(d s:Nat):AOper:=⟨some d,.load none,[.t s],none⟩
def oFa(d k s:Nat):AOper:=⟨some d,.faddr k,[.t s],none⟩
def oSf(r s:Nat):AOper:=⟨none,.store (some 4),[.t r,.t s],none⟩
def oSo(r s:Nat):AOper:=⟨none,.store none,[.t r,.t s],none⟩
def oUn(d:Nat)(p:AOp)(s:Nat):AOper:=⟨some d,p,[.t s],none⟩
def oBi(d:Nat)(p:BinOp)(a b:Nat):AOper:=⟨some d,.bin p,[.t a,.t b],none⟩
def oIa(d a b:Nat):AOper:=⟨some d,.iaddr (some 4),[.t a,.t b],none⟩
def oBx(d s:Nat):AOper:=⟨some d,.box (some 4),[.t s],none⟩
def oEx(d k s:Nat):AOper:=⟨some d,.extract k,[.t s],none⟩
def kRt(c:Nat)(r:List AOper)(l:List Nat):ACode:=.cond (.t c) (.seq (.region true r l) .ret) .skip
def kEx(c k:Nat):ACode:=.cond (.t c) .skip (.exit k)
def rT(r:List AOper)(l:List Nat):ACode:=.region true r l
def oG(d:Nat)(p:AOp)(l:List AArg)(g:Nat)(b:Bool):AOper:=⟨some d,p,l,some (g,b)⟩
def oCl(d f:Nat)(l:List AArg):AOper:=⟨some d,.call,.c (.pv none (.func (.func f)))::l,none⟩
def oBc(d:Nat)(p:BinOp)(a:Nat)(n:Int):AOper:=⟨some d,.bin p,[.t a,.c (.pv none (.int .i64 n))],none⟩
def cSt(l:List UInt8):AArg:=.c (.pv none (.str l))
def cIn(n:Int):AArg:=.c (.pv none (.int .i64 n))
def cFn(n:Nat):AArg:=.c (.pv none (.func (.func n)))
def cBo(b:Bool):AArg:=.c (.pv none (.bool b))
abbrev LO:=List AOper
attribute [go_sem] oBc cSt oG oCl oUn oBi oIa oBx oEx kRt kEx rT oP aZ bZ oMv oLf oLo oFa oSf oSo cIn cFn cBo
def c4:ACode:=.seq (rT [oBx 3 0,oP 6 .mv [cBo false]] [1,2,3]) (.seq (rT [oLf 14 3,oCl 15 13 [.t 14],oMv 13 15,oEx 16 0 13,oEx 17 1 13,oEx 18 2 13,oP 8 aZ [],oMv 7 16,oSf 8 17,oMv 9 18] [1,2,3,7,8,9]) (.seq (rT [oLf 20 3,oCl 21 14 [.t 20],oMv 19 21,oEx 22 0 19,
 oEx 23 1 19,oEx 24 2 19,oP 11 aZ [],oMv 10 22,oSf 11 23,oMv 12 24] [1,2,7,8,9,10,11,12]) (.seq (rT [oMv 25 7,oMv 26 10,oCl 27 12 [.t 25,.t 26],oMv 28 27,oG 29 (.load (some 4)) [.t 8] 28 true,oG 30 (.load (some 4)) [.t 11] 28 true,oG 31 .call [cFn 15,
 .t 29,.t 30] 28 true,oP 32 .pick [.t 28,.t 31,cBo false],oMv 33 32,oG 34 .mv [.t 9] 33 true,oG 35 .mv [.t 12] 33 true,oG 36 (.bin .eql) [.t 34,.t 35] 33 true,oP 37 .pick [.t 33,.t 36,cBo false],oMv 38 37,oG 39 .mv [.t 1] 38 true,oG 40 .mv [.t 2] 38 true,
 oG 41 .call [cFn 16,.t 39,.t 40] 38 true,oG 42 .mv [.t 1] 38 true,oG 43 .mv [.t 2] 38 true,oG 44 .call [cFn 17,.t 42,.t 43] 38 true,oG 45 (.binb .eql) [.t 41,.t 44] 38 true,oP 46 .pick [.t 38,.t 45,cBo false],oMv 47 46,oG 48 .call [cFn 9] 47 true,
 oP 49 .pick [.t 47,.t 48,cBo false],oMv 6 49] [6]) .ret)))
def g4:AFn:=⟨3,[(6,none)],c4,false,[],[],none⟩
theorem tr4:trFn Tryz.prog false 4 Tryz.f4=some g4:=by kernel_rfl
def c9:ACode:=.seq (rT [oP 0 .mv [cBo false]] []) (.seq (rT [oCl 10 25 [cIn 0],oCl 11 25 [cIn 1],oCl 12 25 [cIn 2],oP 13 (.bslice (some 4)) [.t 10,.t 11,.t 12],oCl 14 26 [cSt [112],.t 13],oP 1 aZ [],oSf 1 14] [1]) (.seq (rT [oCl 16 28 [cSt [98]],oCl 17 30 [cIn 1],
 oCl 18 29 [.t 16,.t 17],oCl 19 28 [cSt [97]],oCl 20 30 [cIn 2],oCl 21 29 [.t 19,.t 20],oCl 22 28 [cSt [98]],oCl 23 30 [cIn 3],oCl 24 29 [.t 22,.t 23],oP 25 (.bslice (some 4)) [.t 18,.t 21,.t 24],oCl 26 10 [.t 25],oMv 15 26,oEx 27 0 15,oEx 28 1 15,
 oMv 2 27,oMv 3 28] [1,2,3]) (.seq (rT [oCl 29 28 [cSt [97]],oCl 30 30 [cIn 2],oCl 31 29 [.t 29,.t 30],oCl 32 28 [cSt [97]],oCl 33 30 [cIn 1],oCl 34 29 [.t 32,.t 33],oCl 35 28 [cSt [97]],oCl 36 30 [cIn 2],oCl 37 29 [.t 35,.t 36],oP 38 (.bslice (some 4)) [.t 31,
 .t 34,.t 37],oCl 39 31 [.t 38],oP 4 aZ [],oSf 4 39] [1,2,3,4]) (.seq (.seq (.settle [4]) (rT [oP 41 .callp [cFn 25,cIn 0],oLf 42 4,oP 43 .callp [cFn 25,cIn 1],oP 44 (.bslicep (some 4)) [.t 41,.t 42,.t 43],oP 45 .callp [cFn 26,cSt [36,115,101,
 116],.t 44],oP 46 .callp [cFn 13,.t 45],oMv 40 46,oEx 47 0 40,oEx 48 1 40,oEx 49 2 40,oP 6 aZ [],oMv 5 47,oSf 6 48,oMv 7 49] [1,2,3,4,5,7])) (.seq (.seq (rT [oMv 50 3,oBc 51 .neq 50 0,oMv 52 51,oG 53 .mv [.t 2] 52 false,oG 54 .len [.t 53] 52 false,
 oG 55 (.bin .neq) [.t 54,cIn 2] 52 false,oP 56 .pick [.t 52,cBo true,.t 55],oMv 57 56,oG 58 .mv [.t 7] 57 false,oG 59 (.bin .neq) [.t 58,cIn 0] 57 false,oP 60 .pick [.t 57,cBo true,.t 59],oMv 61 60,oG 62 .mv [.t 5] 61 false,oG 63 .len [.t 62] 61 false,
 oG 64 (.bin .neq) [.t 63,cIn 1] 61 false,oP 65 .pick [.t 61,cBo true,.t 64]] [1,2,4,5,65]) (kRt 65 [oP 0 .mv [cBo false]] [0])) (.seq (.seq (.settle []) (rT [oMv 66 2,oP 67 (.iaddr (some 4)) [.t 66,cIn 0],oLf 68 67,oP 69 .callp [cFn 28,cSt [97]],
 oP 70 .callp [cFn 30,cIn 2],oUn 71 (.bslicep (some 4)) 70,oP 72 .callp [cFn 31,.t 71],oP 73 .callp [cFn 29,.t 69,.t 72],oP 74 .callp [cFn 27,.t 68,.t 73],oMv 75 74,oG 76 .mv [.t 2] 75 true,oG 77 (.iaddr (some 4)) [.t 76,cIn 1] 75 true,oG 78 (.load (some 4)) [.t 77] 75 true,
 oG 79 .callp [cFn 28,cSt [98]] 75 true,oG 80 .callp [cFn 30,cIn 1] 75 true,oG 81 .callp [cFn 30,cIn 3] 75 true,oG 82 (.bslicep (some 4)) [.t 80,.t 81] 75 true,oG 83 .callp [cFn 31,.t 82] 75 true,oG 84 .callp [cFn 29,.t 79,.t 83] 75 true,oG 85 .callp [cFn 27,
 .t 78,.t 84] 75 true,oP 86 .pick [.t 75,.t 85,cBo false],oMv 8 86] [1,4,5,8])) (.seq (.seq (.settle [4]) (rT [oMv 87 5,oP 88 (.iaddr (some 4)) [.t 87,cIn 0],oLf 89 88,oP 90 .callp [cFn 28,cSt [97]],oLf 91 4,oP 92 .callp [cFn 30,cIn 1],oP 93 .callp [cFn 30,
 cIn 2],oP 94 (.bslicep (some 4)) [.t 92,.t 93],oP 95 .callp [cFn 31,.t 94],oP 96 (.bslicep (some 4)) [.t 90,.t 91,.t 95],oP 97 .callp [cFn 26,cSt [36,115,101,116],.t 96],oP 98 .callp [cFn 27,.t 89,.t 97],oMv 9 98] [1,8,9])) (.seq (.seq (.settle [1]) (rT [oMv 99 8,
 oMv 100 99,oG 101 .mv [.t 9] 100 true,oP 102 .pick [.t 100,.t 101,cBo false],oMv 103 102,oG 104 .callp [cFn 25,cIn 0] 103 true,oG 105 .callp [cFn 25,cIn 1] 103 true,oG 106 (.load (some 4)) [.t 1] 103 true,oG 107 (.bslicep (some 4)) [.t 105,.t 106] 103 true,
 oG 108 .callp [cFn 26,cSt [94],.t 107] 103 true,oG 109 .callp [cFn 21,.t 104,.t 108] 103 true,oG 110 .callp [cFn 25,cIn 2] 103 true,oG 111 (.bslicep (some 4)) [.t 110] 103 true,oG 112 .callp [cFn 31,.t 111] 103 true,oG 113 .callp [cFn 27,.t 109,
 .t 112] 103 true,oP 114 .pick [.t 103,.t 113,cBo false],oMv 0 114] [0])) .ret))))))))
def g9:AFn:=⟨0,[(0,none)],c9,false,[],[],none⟩
theorem tr9:trFn Tryz.prog false 9 Tryz.f9=some g9:=by kernel_rfl
def c10:ACode:=.seq (rT [oP 2 (.nilsl (some 4)) [],oP 3 .mv [cIn 0]] [0,2]) (.seq (rT [oMv 14 0,oCl 15 34 [.t 14],oMv 13 15,oEx 16 0 13,oEx 17 1 13,oMv 4 16,oMv 3 17] [2,3,4]) (.seq (.seq (rT [oMv 18 3,oBc 19 .neq 18 0] [2,3,4,19]) (kRt 19 [oMv 20 3,oP 2 (.nilsl (some 4)) [],
 oMv 3 20] [2,3])) (.seq (.block 0 (.loop [2,4] (.seq (.seq (rT [oMv 21 4,oUn 22 .len 21,oBc 23 .gtr 22 0] [2,4,23]) (kEx 23 0)) (.block 1 (.seq (rT [oMv 24 4,oP 25 (.iaddr (some 4)) [.t 24,cIn 0],oFa 26 3 25,oLo 27 26,oP 28 (.iaddr (some 4)) [.t 27,
 cIn 0],oLf 29 28,oP 5 aZ [],oSf 5 29] [2,4,5]) (.seq (rT [oUn 30 (.mkfunc (.func 35) 0) 5,oMv 6 30] [2,4,6]) (.seq (rT [oP 7 (.nilsl (some 4)) [],oP 8 (.nilsl (some 4)) []] [2,4,6,7,8]) (.seq (.seq (rT [oMv 31 4,oUn 32 .len 31,oP 33 .mv [cIn 0]] [2,
 6,7,8,31,32,33]) (.block 2 (.loop [2,6,7,8,31,32,33] (.seq (rT [oBi 34 .lss 33 32] [2,6,7,8,31,32,33,34]) (.seq (kEx 34 2) (.seq (.block 3 (.seq (rT [oIa 35 31 33,oLf 36 35,oP 10 aZ [],oSf 10 36] [2,6,7,8,10,31,32,33]) (.seq (rT [oMv 37 6,oLf 38 10,
 oP 39 .call [.t 37,.t 38]] [2,6,7,8,10,31,32,33,39]) (.cond (.t 39) (rT [oMv 40 7,oLf 41 10,oUn 42 (.bslice (some 4)) 41,oP 43 (.append (some 4)) [.t 40,.t 42],oMv 7 43] [2,6,7,8,31,32,33]) (rT [oMv 44 8,oLf 45 10,oUn 46 (.bslice (some 4)) 45,
 oP 47 (.append (some 4)) [.t 44,.t 46],oMv 8 47] [2,6,7,8,31,32,33]))))) (rT [oBc 48 .add 33 1,oMv 33 48] [2,6,7,8,31,32,33]))))))) (.seq (rT [oMv 50 7,oCl 51 37 [.t 50],oMv 49 51,oEx 52 0 49,oEx 53 1 49,oP 11 aZ [],oSf 11 52,oMv 12 53] [2,8,
 11,12]) (.seq (.seq (rT [oMv 54 12,oBc 55 .neq 54 0] [2,8,11,55]) (kRt 55 [oP 2 (.nilsl (some 4)) [],oP 3 .mv [cIn 2]] [2,3])) (.seq (rT [oMv 56 2,oLf 57 11,oCl 58 38 [.t 57],oUn 59 (.bslice (some 4)) 58,oP 60 (.append (some 4)) [.t 56,.t 59],
 oMv 2 60] [2,8]) (rT [oMv 61 8,oMv 4 61] [2,4])))))))))))) (.seq (rT [oMv 62 2,oMv 2 62,oP 3 .mv [cIn 0]] [2,3]) .ret))))
def g10:AFn:=⟨1,[(2,none),(3,none)],c10,false,[],[],none⟩
theorem tr10:trFn Tryz.prog false 10 Tryz.f10=some g10:=by kernel_rfl
def c11:ACode:=.seq (rT [oP 2 (.nilsl (some 4)) [],oP 3 .mv [cIn 0]] [0]) (.seq (rT [oMv 17 0,oCl 18 18 [.t 17],oMv 16 18,oEx 19 0 16,oEx 20 1 16,oMv 4 19,oMv 5 20] [4,5]) (.seq (.seq (rT [oMv 21 5,oBc 22 .neq 21 0] [4,5,22]) (kRt 22 [oMv 23 5,oP 2 (.nilsl (some 4)) [],
 oMv 3 23] [2,3])) (.seq (rT [oP 6 (.nilsl (some 4)) []] [4,6]) (.seq (rT [oMv 24 4,oUn 25 .len 24,oP 26 (.mkslice none (.bool false)) [.t 25,.t 25],oMv 7 26] [4,6,7]) (.seq (.seq (rT [oP 8 .mv [cIn 0]] [4,6,7,8]) (.block 0 (.loop [4,6,7,8] (.seq (.seq (rT [oMv 27 8,
 oMv 28 4,oUn 29 .len 28,oBi 30 .lss 27 29] [4,6,7,8,30]) (kEx 30 0)) (.seq (.block 1 (.seq (.seq (rT [oMv 33 7,oMv 34 8,oP 35 (.iaddr none) [.t 33,.t 34],oLo 36 35] [4,6,7,8,36]) (.cond (.t 36) (.exit 1) .skip)) (.seq (rT [oMv 37 4,oMv 38 8,
 oIa 39 37 38,oFa 40 3 39,oLo 41 40,oP 42 (.iaddr (some 4)) [.t 41,cIn 0],oLf 43 42,oP 9 aZ [],oSf 9 43] [4,6,7,8,9]) (.seq (rT [oP 10 (.nilsl (some 5)) []] [4,6,7,8,9,10]) (.seq (rT [oP 11 (.nilsl (some 4)) []] [4,6,7,8,9,10,11]) (.seq (.seq (rT [oMv 44 8,
 oMv 12 44] [4,6,7,8,9,10,11,12]) (.block 2 (.loop [4,6,7,8,9,10,11,12] (.seq (.seq (rT [oMv 45 12,oMv 46 4,oUn 47 .len 46,oBi 48 .lss 45 47] [4,6,7,8,9,10,11,12,48]) (kEx 48 2)) (.seq (.block 3 (.seq (.seq (rT [oMv 51 7,oMv 52 12,oP 53 (.iaddr none) [.t 51,
 .t 52],oLo 54 53,oMv 55 54,oG 56 (.load (some 4)) [.t 9] 55 false,oG 57 .mv [.t 4] 55 false,oG 58 .mv [.t 12] 55 false,oG 59 (.iaddr (some 4)) [.t 57,.t 58] 55 false,oG 60 (.faddr 3) [.t 59] 55 false,oG 61 (.load none) [.t 60] 55 false,oG 62 (.iaddr (some 4)) [.t 61,
 cIn 0] 55 false,oG 63 (.load (some 4)) [.t 62] 55 false,oG 64 .call [cFn 39,.t 56,.t 63] 55 false,oG 65 .not [.t 64] 55 false,oP 66 .pick [.t 55,cBo true,.t 65]] [4,6,7,8,9,10,11,12,66]) (.cond (.t 66) (.exit 3) .skip)) (.seq (rT [oMv 67 7,oMv 68 12,
 oP 69 (.iaddr none) [.t 67,.t 68],⟨none,(.store none),[.t 69,cBo true],none⟩] [4,6,7,8,9,10,11,12]) (.seq (rT [oMv 70 11,oMv 71 4,oMv 72 12,oIa 73 71 72,oFa 74 3 73,oLo 75 74,oP 76 (.iaddr (some 4)) [.t 75,cIn 1],oLf 77 76,oUn 78 (.bslice (some 4)) 77,
 oP 79 (.append (some 4)) [.t 70,.t 78],oMv 11 79] [4,6,7,8,9,10,11,12]) (.seq (rT [oMv 80 12,oMv 81 8,oBi 82 .gtr 80 81] [4,6,7,8,9,10,11,12,82]) (.cond (.t 82) (rT [oMv 84 10,oLf 85 9,oMv 86 4,oMv 87 12,oIa 88 86 87,oFa 89 3 88,oLo 90 89,oP 91 (.iaddr (some 4)) [.t 90,
 cIn 0],oLf 92 91,oCl 93 40 [.t 84,.t 85,.t 92],oMv 83 93,oEx 94 0 83,oEx 95 1 83,oMv 10 94] [4,6,7,8,9,10,11,12]) .skip)))))) (rT [oMv 49 12,oBc 50 .add 49 1,oMv 12 50] [4,6,7,8,9,10,11,12])))))) (.seq (.seq (.settle [9,11]) (rT [oLf 96 9,oMv 97 11,
 oP 98 .callp [cFn 42,.t 97],oP 99 (.bslicep (some 4)) [.t 96,.t 98],oP 100 .callp [cFn 41,cSt [45],.t 99],oP 13 aZ [],oSf 13 100] [4,6,7,8,10,13])) (.seq (.seq (rT [oLf 101 13,oCl 102 43 [.t 101],oUn 103 .not 102] [4,6,7,8,10,13,103]) (kRt 103 [oP 2 (.nilsl (some 4)) [],
 oP 3 .mv [cIn 2]] [2,3])) (.seq (rT [oMv 105 10,oLf 106 13,oCl 107 44 [.t 105,.t 106],oMv 104 107,oEx 108 0 104,oEx 109 1 104,oP 14 aZ [],oSf 14 108,oMv 15 109] [4,6,7,8,14,15]) (.seq (.seq (rT [oMv 110 15,oBc 111 .neq 110 0] [4,6,7,8,14,15,
 111]) (kRt 111 [oMv 112 15,oP 2 (.nilsl (some 4)) [],oMv 3 112] [2,3])) (rT [oMv 113 6,oLf 114 14,oUn 115 (.bslice (some 4)) 114,oP 116 (.append (some 4)) [.t 113,.t 115],oMv 6 116] [4,6,7,8]))))))))))) (rT [oMv 31 8,oBc 32 .add 31 1,oMv 8 32] [4,
 6,7,8])))))) (.seq (rT [oMv 117 6,oMv 2 117,oP 3 .mv [cIn 0]] [2,3]) .ret))))))
def g11:AFn:=⟨1,[(2,none),(3,none)],c11,false,[],[],none⟩
theorem tr11:trFn Tryz.prog false 11 Tryz.f11=some g11:=by kernel_rfl
def c12:ACode:=.seq (rT [oP 4 .mv [cBo false]] [0,1]) (.seq (.seq (rT [oMv 6 0,oUn 7 .len 6,oMv 8 1,oUn 9 .len 8,oBi 10 .neq 7 9] [0,1,10]) (kRt 10 [oP 4 .mv [cBo false]] [4])) (.seq (.seq (rT [oP 5 .mv [cIn 0]] [0,1,5]) (.block 0 (.loop [0,1,5] (.seq (.seq (rT [oMv 11 5,
 oMv 12 0,oUn 13 .len 12,oBi 14 .lss 11 13] [0,1,5,14]) (kEx 14 0)) (.seq (.block 1 (.seq (rT [oMv 17 0,oMv 18 5,oIa 19 17 18,oLf 20 19,oMv 21 1,oMv 22 5,oIa 23 21 22,oLf 24 23,oCl 25 27 [.t 20,.t 24],oUn 26 .not 25] [0,1,5,26]) (kRt 26 [oP 4 .mv [cBo false]] [4]))) (rT [oMv 15 5,
 oBc 16 .add 15 1,oMv 5 16] [0,1,5])))))) (.seq (rT [oP 4 .mv [cBo true]] [4]) .ret)))
def g12:AFn:=⟨2,[(4,none)],c12,false,[],[],none⟩
theorem tr12:trFn Tryz.prog false 12 Tryz.f12=some g12:=by kernel_rfl
def c13r0:LO:=[oBx 1 0,oP 2 (.nilsl (some 4)) [],oP 3 aZ [],oP 4 .mv [cIn 0]]
def c13r1:LO:=[oLf 15 1,oP 16 .callp [cFn 45,.t 15],oUn 17 .not 16,oMv 18 17,oG 19 (.load (some 4)) [.t 1] 18 false,oG 20 (.load (some 4)) [.t 1] 18 false,oG 21 .callp [cFn 47,.t 20] 18 false,oG 22 .callp [cFn 46,.t 19,.t 21] 18 false,oG 23 .not [.t 22] 18 false,
 oP 24 .pick [.t 18,cBo true,.t 23]]
def c13r2:LO:=[oP 25 (bZ []) [],oP 2 (.nilsl (some 4)) [],oSf 3 25,oP 4 .mv [cIn 1]]
def c13k3:ACode:=kRt 24 c13r2 [2,3,4]
def c13r4:LO:=[oFa 26 0 1,oLo 27 26,oBc 28 .neq 27 3,oMv 29 28,oG 30 (.faddr 2) [.t 1] 29 false,oG 31 (.load none) [.t 30] 29 false,oG 32 (.faddr 3) [.t 1] 29 false,oG 33 (.load none) [.t 32] 29 false,oG 34 .len [.t 33] 29 false,oG 35 .call [cFn 16,.t 31,
 .t 34] 29 false,oG 36 .not [.t 35] 29 false,oP 37 .pick [.t 29,cBo true,.t 36]]
def c13r5:LO:=[oP 38 (bZ []) [],oP 2 (.nilsl (some 4)) [],oSf 3 38,oP 4 .mv [cIn 4]]
def c13k6:ACode:=kRt 37 c13r5 [2,3,4]
def c13r7:LO:=[oFa 40 3 1,oLo 41 40,oP 42 (.iaddr (some 4)) [.t 41,cIn 1],oLf 43 42,oCl 44 48 [.t 43],oMv 39 44,oEx 45 0 39,oEx 46 1 39,oEx 47 2 39,oMv 5 45,oSf 3 46,oMv 6 47]
def c13r8:LO:=[oMv 48 6,oUn 49 .not 48]
def c13r9:LO:=[oLf 50 3,oP 2 (.nilsl (some 4)) [],oSf 3 50,oP 4 .mv [cIn 8]]
def c13k10:ACode:=kRt 49 c13r9 [2,3,4]
def c13r11:LO:=[oMv 52 5,oCl 53 10 [.t 52],oMv 51 53,oEx 54 0 51,oEx 55 1 51,oMv 7 54,oMv 4 55]
def c13r12:LO:=[oMv 56 4,oBc 57 .neq 56 0]
def c13r13:LO:=[oP 58 (bZ []) [],oMv 59 4,oP 2 (.nilsl (some 4)) [],oSf 3 58,oMv 4 59]
def c13k14:ACode:=kRt 57 c13r13 [2,3,4]
def c13r15:LO:=[oCl 60 49 [],oUn 61 .len 60,oP 62 .mv [cIn 0]]
def c13r16:LO:=[oBi 63 .lss 62 61]
def c13k17:ACode:=kEx 63 0
def c13r18:LO:=[oP 64 (.iaddr (some 2)) [.t 60,.t 62],oUn 65 (.load (some 2)) 64,oP 9 (.alloc (some 2) (.pv (some 2) (.agg [(none,.str []),(none,.nilfunc)]))) [],⟨none,(.store (some 2)),[.t 9,.t 65],none⟩]
def c13r19:LO:=[oFa 66 0 9,oLo 67 66,oFa 68 2 1,oLo 69 68,oBi 70 .neq 67 69]
def c13k20:ACode:=.cond (.t 70) (.exit 1) .skip
def c13r21:LO:=[oMv 71 7,oUn 72 .len 71,oP 73 .mv [cIn 0]]
def c13r22:LO:=[oBi 74 .lss 73 72]
def c13k23:ACode:=kEx 74 2
def c13r24:LO:=[oIa 75 71 73,oLf 76 75,oP 11 aZ [],oSf 11 76]
def c13r25:LO:=[oFa 78 3 11,oLo 79 78,oP 80 (.iaddr (some 4)) [.t 79,cIn 1],oLf 81 80,oCl 82 50 [.t 81],oMv 77 82,oEx 83 0 77,oEx 84 1 77,oP 13 aZ [],oMv 12 83,oSf 13 84]
def c13r26:LO:=[oFa 85 2 1,oLo 86 85,oFa 87 3 11,oLo 88 87,oP 89 (.iaddr (some 4)) [.t 88,cIn 0],oLf 90 89,oFa 91 3 1,oLo 92 91,oP 93 (.iaddr (some 4)) [.t 92,cIn 1],oLf 94 93,oFa 95 1 9,oLo 96 95,oMv 97 12,oP 98 .callp [.t 96,.t 97],oP 99 .callp [cFn 52,.t 98],
 oP 100 (.bslicep (some 4)) [.t 90,.t 94,.t 99],oP 101 .callp [cFn 51,.t 86,.t 100],oP 14 aZ [],oSf 14 101]
def c13r27:LO:=[oLf 102 14,oCl 103 45 [.t 102],oUn 104 .not 103]
def c13r28:LO:=[oP 105 (bZ []) [],oP 2 (.nilsl (some 4)) [],oSf 3 105,oP 4 .mv [cIn 2]]
def c13k29:ACode:=kRt 104 c13r28 [2,3,4]
def c13r30:LO:=[oMv 106 2,oLf 107 14,oCl 108 38 [.t 107],oUn 109 (.bslice (some 4)) 108,oP 110 (.append (some 4)) [.t 106,.t 109],oMv 2 110]
def c13k31:ACode:=.block 3 (.seq (rT c13r24 [1,2,3,7,9,11,60,61,62,71,72,73]) (.seq (rT c13r25 [1,2,3,7,9,11,12,60,61,62,71,72,73]) (.seq (.seq (.settle [12]) (rT c13r26 [1,2,3,7,9,14,60,61,62,71,72,73])) (.seq (.seq (rT c13r27 [1,2,3,7,9,14,60,61,62,71,72,73,
 104]) c13k29) (rT c13r30 [1,2,3,7,9,60,61,62,71,72,73])))))
def c13r32:LO:=[oBc 111 .add 73 1,oMv 73 111]
def c13b33:ACode:=.seq (rT c13r22 [1,2,3,7,9,60,61,62,71,72,73,74]) (.seq c13k23 (.seq c13k31 (rT c13r32 [1,2,3,7,9,60,61,62,71,72,73])))
def c13k34:ACode:=.block 2 (.loop [1,2,3,7,9,60,61,62,71,72,73] c13b33)
def c13k35:ACode:=.block 1 (.seq (rT c13r18 [1,2,3,7,9,60,61,62]) (.seq (.seq (rT c13r19 [1,2,3,7,9,60,61,62,70]) c13k20) (.seq (rT c13r21 [1,2,3,7,9,60,61,62,71,72,73]) c13k34)))
def c13r36:LO:=[oBc 112 .add 62 1,oMv 62 112]
def c13b37:ACode:=.seq (rT c13r16 [1,2,3,7,60,61,62,63]) (.seq c13k17 (.seq c13k35 (rT c13r36 [1,2,3,7,60,61,62])))
def c13k38:ACode:=.block 0 (.loop [1,2,3,7,60,61,62] c13b37)
def c13r39:LO:=[oMv 113 2,oP 114 (bZ []) [],oMv 2 113,oSf 3 114,oP 4 .mv [cIn 0]]
def c13:ACode:=.seq (rT c13r0 [1,2,3]) (.seq (.seq (.seq (.settle [1]) (rT c13r1 [1,2,3,24])) c13k3) (.seq (.seq (rT c13r4 [1,2,3,37]) c13k6) (.seq (rT c13r7 [1,2,3,5,6]) (.seq (.seq (rT c13r8 [1,2,3,5,49]) c13k10) (.seq (rT c13r11 [1,2,3,4,7]) (.seq (.seq (rT c13r12 [1,
 2,3,4,7,57]) c13k14) (.seq (.seq (rT c13r15 [1,2,3,7,60,61,62]) c13k38) (.seq (rT c13r39 [2,3,4]) .ret))))))))
def g13:AFn:=⟨1,[(2,none),(3,some (some 4)),(4,none)],c13,false,[],[],none⟩
theorem tr13:trFn Tryz.prog false 13 Tryz.f13=some g13:=by kernel_rfl
def c14r0:LO:=[oBx 1 0,oP 2 (.nilsl (some 4)) [],oP 3 aZ [],oP 4 .mv [cIn 0]]
def c14r1:LO:=[oLf 16 1,oCl 17 53 [.t 16],oUn 18 .not 17]
def c14r2:LO:=[oP 19 (bZ []) [],oP 2 (.nilsl (some 4)) [],oSf 3 19,oP 4 .mv [cIn 1]]
def c14k3:ACode:=kRt 18 c14r2 [2,3,4]
def c14r4:LO:=[oFa 20 0 1,oLo 21 20,oBc 22 .neq 21 3,oMv 23 22,oG 24 (.faddr 2) [.t 1] 23 false,oG 25 (.load none) [.t 24] 23 false,oG 26 (.faddr 3) [.t 1] 23 false,oG 27 (.load none) [.t 26] 23 false,oG 28 .len [.t 27] 23 false,oG 29 .call [cFn 17,.t 25,
 .t 28] 23 false,oG 30 .not [.t 29] 23 false,oP 31 .pick [.t 23,cBo true,.t 30]]
def c14r5:LO:=[oP 32 (bZ []) [],oP 2 (.nilsl (some 4)) [],oSf 3 32,oP 4 .mv [cIn 4]]
def c14k6:ACode:=kRt 31 c14r5 [2,3,4]
def c14r7:LO:=[oFa 34 3 1,oLo 35 34,oP 36 (.iaddr (some 4)) [.t 35,cIn 1],oLf 37 36,oCl 38 54 [.t 37],oMv 33 38,oEx 39 0 33,oEx 40 1 33,oEx 41 2 33,oP 6 aZ [],oMv 5 39,oSf 6 40,oMv 7 41]
def c14r8:LO:=[oMv 42 7,oUn 43 .not 42]
def c14r9:LO:=[oLf 44 6,oP 2 (.nilsl (some 4)) [],oSf 3 44,oP 4 .mv [cIn 8]]
def c14k10:ACode:=kRt 43 c14r9 [2,3,4]
def c14r11:LO:=[oP 8 .mv [cIn 0]]
def c14r12:LO:=[oMv 45 8,oMv 46 5,oUn 47 .len 46,oBi 48 .lss 45 47]
def c14k13:ACode:=kEx 48 0
def c14r14:LO:=[oMv 51 5,oMv 52 8,oIa 53 51 52,oFa 54 0 53,oLo 55 54,oBc 56 .eql 55 0]
def c14r15:LO:=[oCl 57 32 [],oP 2 (.nilsl (some 4)) [],oSf 3 57,oP 4 .mv [cIn 8]]
def c14k16:ACode:=kRt 56 c14r15 [2,3,4]
def c14r17:LO:=[oMv 58 5,oMv 59 8,oIa 60 58 59,oLf 61 60,oCl 62 55 [.t 61],oUn 63 .not 62]
def c14r18:LO:=[oMv 64 5,oMv 65 8,oIa 66 64 65,oLf 67 66,oCl 68 33 [cSt [112,97,105,114],.t 67],oP 2 (.nilsl (some 4)) [],oSf 3 68,oP 4 .mv [cIn 8]]
def c14k19:ACode:=kRt 63 c14r18 [2,3,4]
def c14k20:ACode:=.block 1 (.seq (.seq (rT c14r14 [1,3,5,8,56]) c14k16) (.seq (rT c14r17 [1,3,5,8,63]) c14k19))
def c14r21:LO:=[oMv 49 8,oBc 50 .add 49 1,oMv 8 50]
def c14b22:ACode:=.seq (.seq (rT c14r12 [1,3,5,8,48]) c14k13) (.seq c14k20 (rT c14r21 [1,3,5,8]))
def c14k23:ACode:=.block 0 (.loop [1,3,5,8] c14b22)
def c14r24:LO:=[oMv 70 5,oCl 71 11 [.t 70],oMv 69 71,oEx 72 0 69,oEx 73 1 69,oMv 9 72,oMv 10 73]
def c14r25:LO:=[oMv 74 10,oBc 75 .neq 74 0]
def c14r26:LO:=[oP 76 (bZ []) [],oMv 77 10,oP 2 (.nilsl (some 4)) [],oSf 3 76,oMv 4 77]
def c14k27:ACode:=kRt 75 c14r26 [2,3,4]
def c14r28:LO:=[oP 11 (.nilsl (some 4)) []]
def c14r29:LO:=[oP 12 .mv [cIn 0]]
def c14r30:LO:=[oMv 78 12,oMv 79 9,oUn 80 .len 79,oBi 81 .lss 78 80]
def c14k31:ACode:=kEx 81 2
def c14r32:LO:=[oMv 85 9,oMv 86 12,oIa 87 85 86,oFa 88 3 87,oLo 89 88,oP 90 (.iaddr (some 4)) [.t 89,cIn 1],oLf 91 90,oCl 92 56 [.t 91],oMv 84 92,oEx 93 0 84,oEx 94 1 84,oP 14 aZ [],oMv 13 93,oSf 14 94]
def c14r33:LO:=[oFa 95 2 1,oLo 96 95,oP 97 (.bin .eql) [.t 96,cSt [36,115,101,116]]]
def c14r34:LO:=[oMv 99 13,oCl 100 57 [.t 99],oMv 98 100,oEx 101 0 98,oEx 102 1 98,oMv 13 101]
def c14k35:ACode:=.cond (.t 97) (rT c14r34 [1,3,9,11,12,13]) .skip
def c14r36:LO:=[oFa 103 2 1,oLo 104 103,oMv 105 9,oMv 106 12,oIa 107 105 106,oFa 108 3 107,oLo 109 108,oP 110 (.iaddr (some 4)) [.t 109,cIn 0],oLf 111 110,oFa 112 3 1,oLo 113 112,oP 114 (.iaddr (some 4)) [.t 113,cIn 1],oLf 115 114,oMv 116 13,oP 117 .callp [cFn 42,
 .t 116],oP 118 (.bslicep (some 4)) [.t 111,.t 115,.t 117],oP 119 .callp [cFn 41,.t 104,.t 118],oP 15 aZ [],oSf 15 119]
def c14r37:LO:=[oLf 120 15,oCl 121 43 [.t 120],oUn 122 .not 121]
def c14r38:LO:=[oP 123 (bZ []) [],oP 2 (.nilsl (some 4)) [],oSf 3 123,oP 4 .mv [cIn 2]]
def c14k39:ACode:=kRt 122 c14r38 [2,3,4]
def c14r40:LO:=[oMv 124 11,oLf 125 15,oCl 126 58 [.t 125],oUn 127 (.bslice (some 4)) 126,oP 128 (.append (some 4)) [.t 124,.t 127],oMv 11 128]
def c14k41:ACode:=.block 3 (.seq (rT c14r32 [1,3,9,11,12,13]) (.seq (.seq (rT c14r33 [1,3,9,11,12,13,97]) c14k35) (.seq (.seq (.settle [13]) (rT c14r36 [1,3,9,11,12,15])) (.seq (.seq (rT c14r37 [1,3,9,11,12,15,122]) c14k39) (rT c14r40 [1,3,9,11,12])))))
def c14r42:LO:=[oMv 82 12,oBc 83 .add 82 1,oMv 12 83]
def c14b43:ACode:=.seq (.seq (rT c14r30 [1,3,9,11,12,81]) c14k31) (.seq c14k41 (rT c14r42 [1,3,9,11,12]))
def c14k44:ACode:=.block 2 (.loop [1,3,9,11,12] c14b43)
def c14r45:LO:=[oMv 129 11,oP 130 (bZ []) [],oMv 2 129,oSf 3 130,oP 4 .mv [cIn 0]]
def c14:ACode:=.seq (rT c14r0 [1,3]) (.seq (.seq (rT c14r1 [1,3,18]) c14k3) (.seq (.seq (rT c14r4 [1,3,31]) c14k6) (.seq (rT c14r7 [1,3,5,6,7]) (.seq (.seq (rT c14r8 [1,3,5,6,43]) c14k10) (.seq (.seq (rT c14r11 [1,3,5,8]) c14k23) (.seq (rT c14r24 [1,3,9,10]) (.seq (.seq (rT c14r25 [1,
 3,9,10,75]) c14k27) (.seq (rT c14r28 [1,3,9,11]) (.seq (.seq (rT c14r29 [1,3,9,11,12]) c14k44) (.seq (rT c14r45 [2,3,4]) .ret))))))))))
def g14:AFn:=⟨1,[(2,none),(3,some (some 4)),(4,none)],c14,false,[],[],none⟩
theorem tr14:trFn Tryz.prog false 14 Tryz.f14=some g14:=by kernel_rfl
def c15:ACode:=.seq (rT [oBx 2 0,oBx 3 1,oP 4 .mv [cBo false]] [2,3]) (.seq (rT [oLf 5 2,oLf 6 3,oCl 7 27 [.t 5,.t 6],oMv 4 7] [4]) .ret)
def g15:AFn:=⟨2,[(4,none)],c15,false,[],[],none⟩
theorem tr15:trFn Tryz.prog false 15 Tryz.f15=some g15:=by kernel_rfl
def c16:ACode:=.seq (rT [oP 4 .mv [cBo false]] [0,1]) (.seq (rT [oMv 5 1,oBc 6 .eql 5 3,oMv 7 6,oG 8 .mv [.t 0] 7 true,oG 9 (.bin .eql) [.t 8,cSt [36,98,97,103]] 7 true,oG 10 .mv [.t 9] 7 true,oG 11 .mv [.t 0] 10 false,oG 12 (.bin .eql) [.t 11,cSt [36,115,
 101,116]] 10 false,oG 13 .pick [.t 10,cBo true,.t 12] 7 true,oP 14 .pick [.t 7,.t 13,cBo false],oMv 4 14] [4]) .ret)
def g16:AFn:=⟨2,[(4,none)],c16,false,[],[],none⟩
theorem tr16:trFn Tryz.prog false 16 Tryz.f16=some g16:=by kernel_rfl
def c17:ACode:=.seq (rT [oP 4 .mv [cBo false]] [0,1]) (.seq (rT [oMv 5 0,oP 6 (.bin .eql) [.t 5,cSt [36,98,97,103]],oMv 7 6,oG 8 .mv [.t 0] 7 false,oG 9 (.bin .eql) [.t 8,cSt [36,115,101,116]] 7 false,oP 10 .pick [.t 7,cBo true,.t 9],oMv 11 10,oG 12 .mv [.t 1] 11 true,
 oG 13 (.bin .eql) [.t 12,cIn 3] 11 true,oP 14 .pick [.t 11,.t 13,cBo false],oMv 4 14] [4]) .ret)
def g17:AFn:=⟨2,[(4,none)],c17,false,[],[],none⟩
theorem tr17:trFn Tryz.prog false 17 Tryz.f17=some g17:=by kernel_rfl
def c18:ACode:=.seq (rT [oP 2 (.nilsl (some 4)) [],oP 3 .mv [cIn 0]] [0]) (.seq (.seq (rT [oMv 7 0,oCl 8 59 [.t 7],oUn 9 .not 8] [0,9]) (kRt 9 [oP 2 (.nilsl (some 4)) [],oP 3 .mv [cIn 1]] [2,3])) (.seq (.seq (rT [oP 4 .mv [cIn 0]] [0,4]) (.block 0 (.loop [0,
 4] (.seq (.seq (rT [oMv 10 4,oMv 11 0,oUn 12 .len 11,oBi 13 .lss 10 12] [0,4,13]) (kEx 13 0)) (.seq (.block 1 (.seq (rT [oMv 16 0,oMv 17 4,oIa 18 16 17,oLf 19 18,oCl 20 55 [.t 19],oUn 21 .not 20] [0,4,21]) (kRt 21 [oP 2 (.nilsl (some 4)) [],
 oP 3 .mv [cIn 3]] [2,3]))) (rT [oMv 14 4,oBc 15 .add 14 1,oMv 4 15] [0,4])))))) (.seq (rT [oP 5 (.nilsl (some 4)) []] [0,5]) (.seq (.seq (rT [oP 6 .mv [cIn 0]] [0,5,6]) (.block 2 (.loop [0,5,6] (.seq (.seq (rT [oMv 22 6,oMv 23 0,oUn 24 .len 23,
 oBi 25 .lss 22 24] [0,5,6,25]) (kEx 25 2)) (.seq (.block 3 (rT [oMv 28 5,oMv 29 0,oMv 30 6,oIa 31 29 30,oLf 32 31,oCl 33 60 [.t 28,.t 32,cBo true],oMv 5 33] [0,5,6])) (rT [oMv 26 6,oBc 27 .add 26 1,oMv 6 27] [0,5,6])))))) (.seq (rT [oMv 34 5,
 oMv 2 34,oP 3 .mv [cIn 0]] [2,3]) .ret)))))
def g18:AFn:=⟨1,[(2,none),(3,none)],c18,false,[],[],none⟩
theorem tr18:trFn Tryz.prog false 18 Tryz.f18=some g18:=by kernel_rfl
def c21p25:ACode:=(.seq (rT [oP 8 (.nilsl (some 4)) []] [3,4,5,8]) (.seq (rT [oLf 32 3,oCl 33 64 [.t 32],oUn 34 .len 33,oP 35 .mv [cIn 0]] [4,5,8,33,34,35]) (.seq (.block 2 (.loop [4,5,8,33,34,35] (.seq (rT [oBi 36 .lss 35 34] [4,5,8,33,34,35,36]) (.seq (kEx 36 2) (.seq (.block 3 (.seq (rT [oP 37 (.iaddr none) [.t 33,
 .t 35],oLo 38 37,oMv 10 38] [4,5,8,10,33,34,35]) (.seq (rT [oLo 39 5,oMv 40 10,oP 41 (.lookup false none (.pv none (.bool false)) false) [.t 39,.t 40],oUn 42 .not 41] [4,5,8,10,33,34,35,42]) (.cond (.t 42) (rT [oMv 43 8,oMv 44 10,oCl 45 25 [.t 44],
 oUn 46 (.bslice (some 4)) 45,oP 47 (.append (some 4)) [.t 43,.t 46],oMv 8 47] [4,5,8,33,34,35]) .skip)))) (rT [oBc 48 .add 35 1,oMv 35 48] [4,5,8,33,34,35])))))) (.seq (rT [oMv 49 8,oCl 50 52 [.t 49],oSf 4 50] [4]) (.seq (rT [oLf 51 4,oCl 52 45 [.t 51],
 oUn 53 .not 52] [4,53]) (.seq (kRt 53 [oP 54 (bZ []) [],oSf 4 54] [4]) (.seq (rT [oLf 55 4,oSf 4 55] [4]) (.seq .ret .skip))))))))
def c21r26:LO:=[oP 7 aZ [],oSf 7 27]
def c21q29:ACode:=(.block 1 (rT [oLo 29 6,oLf 30 7,oP 31 .call [.t 29,.t 30]] []))
def c21:ACode:=.seq (rT [oBx 2 0,oBx 3 1,oP 4 aZ []] [2,3,4]) (.seq (rT [oLf 11 2,oCl 12 45 [.t 11],oUn 13 .not 12,oMv 14 13,oG 15 (.load (some 4)) [.t 3] 14 false,oG 16 .call [cFn 45,.t 15] 14 false,oG 17 .not [.t 16] 14 false,oP 18 .pick [.t 14,cBo true,
 .t 17]] [2,3,4,18]) (.seq (kRt 18 [oP 19 (bZ []) [],oSf 4 19] [4]) (.seq (rT [oP 20 (.mkmap none) [],oP 5 (.alloc none (.pv none .nilmap)) [],oSo 5 20] [2,3,4,5]) (.seq (rT [oUn 21 (.mkfunc (.func 63) 0) 5,oP 6 (.alloc none (.pv none .nilfunc)) [],
 oSo 6 21] [2,3,4,5,6]) (.seq (rT [oLo 22 6,oLf 23 2,oP 24 .call [.t 22,.t 23]] [3,4,5,6]) (.seq (rT [oLf 25 3,oCl 26 65 [.t 25]] [3,4,5,6,26]) .skip))))))
def g21:AFn:=⟨2,[(4,some (some 4))],c21,false,[(.range 21 (.t 26) [27,28] [6],c21p25)],[⟨[27,28],(rT c21r26 [6,7]),c21q29⟩],none⟩
theorem tr21:trFn Tryz.prog false 21 Tryz.f21=some g21:=by kernel_rfl
def c25:ACode:=.seq (rT [oP 2 aZ []] [0,2]) (.seq (.seq (rT [oMv 3 0,oCl 4 74 [.t 3],oUn 5 .not 4] [0,2,5]) (kRt 5 [oP 6 (bZ []) [],oSf 2 6] [2])) (.seq (rT [oMv 7 0,oP 8 (bZ [1]) [.t 7],oSf 2 8] [2]) .ret))
def g25:AFn:=⟨1,[(2,some (some 4))],c25,false,[],[],none⟩
theorem tr25:trFn Tryz.prog false 25 Tryz.f25=some g25:=by kernel_rfl
def c26:ACode:=.seq (rT [oP 4 aZ []] [0,1,4]) (.seq (.seq (rT [oMv 5 1,oUn 6 .len 5,oBc 7 .eql 6 0] [0,1,4,7]) (kRt 7 [oMv 8 0,oCl 9 28 [.t 8],oSf 4 9] [4])) (.seq (rT [oMv 10 0,oMv 11 1,oP 12 (bZ [0,2,3]) [cIn 3,.t 10,.t 11],oCl 13 38 [.t 12],oSf 4 13] [4]) .ret))
def g26:AFn:=⟨2,[(4,some (some 4))],c26,false,[],[],none⟩
theorem tr26:trFn Tryz.prog false 26 Tryz.f26=some g26:=by kernel_rfl
def c27:ACode:=.seq (rT [oBx 2 0,oBx 3 1,oP 4 .mv [cBo false]] [2,3]) (.seq (rT [oLf 5 2,oCl 6 43 [.t 5],oMv 7 6,oG 8 (.load (some 4)) [.t 3] 7 true,oG 9 .call [cFn 43,.t 8] 7 true,oP 10 .pick [.t 7,.t 9,cBo false],oMv 11 10,oG 12 (.load (some 4)) [.t 2] 11 true,
 oG 13 (.load (some 4)) [.t 3] 11 true,oG 14 .call [cFn 75,.t 12,.t 13] 11 true,oP 15 .pick [.t 11,.t 14,cBo false],oMv 4 15] [4]) .ret)
def g27:AFn:=⟨2,[(4,none)],c27,false,[],[],none⟩
theorem tr27:trFn Tryz.prog false 27 Tryz.f27=some g27:=by kernel_rfl
def c28:ACode:=.seq (rT [oP 2 aZ []] [0,2]) (.seq (rT [oMv 3 0,oP 4 (bZ [0,2]) [cIn 2,.t 3],oCl 5 38 [.t 4],oSf 2 5] [2]) .ret)
def g28:AFn:=⟨1,[(2,some (some 4))],c28,false,[],[],none⟩
theorem tr28:trFn Tryz.prog false 28 Tryz.f28=some g28:=by kernel_rfl
def c29:ACode:=.seq (rT [oBx 2 0,oBx 3 1,oP 4 aZ []] [2,3,4]) (.seq (rT [oLf 5 2,oLf 6 3,oP 7 (.bslice (some 4)) [.t 5,.t 6],oCl 8 26 [cSt [45],.t 7],oSf 4 8] [4]) .ret)
def g29:AFn:=⟨2,[(4,some (some 4))],c29,false,[],[],none⟩
theorem tr29:trFn Tryz.prog false 29 Tryz.f29=some g29:=by kernel_rfl
def c30:ACode:=.seq (rT [oP 2 aZ []] [0,2]) (.seq (rT [oMv 3 0,oP 4 (bZ [0,1]) [cIn 1,.t 3],oSf 2 4] [2]) .ret)
def g30:AFn:=⟨1,[(2,some (some 4))],c30,false,[],[],none⟩
theorem tr30:trFn Tryz.prog false 30 Tryz.f30=some g30:=by kernel_rfl
def c31:ACode:=.seq (rT [oP 2 aZ []] [0,2]) (.seq (rT [oMv 3 0,oCl 4 28 [cSt [91,93]],oCl 5 76 [.t 3,.t 4],oSf 2 5] [2]) .ret)
def g31:AFn:=⟨1,[(2,some (some 4))],c31,false,[],[],none⟩
theorem tr31:trFn Tryz.prog false 31 Tryz.f31=some g31:=by kernel_rfl
def c32:ACode:=.seq (rT [oP 0 aZ []] [0]) (.seq (rT [oCl 1 78 [cSt [105,110,115,116,97,110,116,105,97,116,105,111,110,95,101,114,114,111,114]],oCl 2 77 [.t 1],oSf 0 2] [0]) .ret)
def g32:AFn:=⟨0,[(0,some (some 4))],c32,false,[],[],none⟩
theorem tr32:trFn Tryz.prog false 32 Tryz.f32=some g32:=by kernel_rfl
def c33:ACode:=.seq (rT [oBx 3 1,oP 4 aZ []] [0,3,4]) (.seq (rT [oLf 5 3,oMv 6 0,oUn 7 (.bslice none) 6,oCl 8 79 [.t 5,cSt [116,121,112,101,95,101,114,114,111,114],.t 7],oSf 4 8] [4]) .ret)
def g33:AFn:=⟨2,[(4,some (some 4))],c33,false,[],[],none⟩
theorem tr33:trFn Tryz.prog false 33 Tryz.f33=some g33:=by kernel_rfl
def c34:ACode:=.seq (rT [oP 2 (.nilsl (some 4)) [],oP 3 .mv [cIn 0]] [0]) (.seq (.seq (rT [oMv 6 0,oCl 7 80 [.t 6],oUn 8 .not 7] [0,8]) (kRt 8 [oP 2 (.nilsl (some 4)) [],oP 3 .mv [cIn 1]] [2,3])) (.seq (.seq (rT [oMv 9 0,oUn 10 .len 9,oP 11 .mv [cIn 0]] [0,
 9,10,11]) (.block 0 (.loop [0,9,10,11] (.seq (rT [oBi 12 .lss 11 10] [0,9,10,11,12]) (.seq (kEx 12 0) (.seq (.block 1 (.seq (rT [oIa 13 9 11,oLf 14 13,oP 5 aZ [],oSf 5 14] [0,5,9,10,11]) (.seq (rT [oFa 15 0 5,oLo 16 15,oBc 17 .neq 16 3,oMv 18 17,
 oG 19 (.faddr 2) [.t 5] 18 false,oG 20 (.load none) [.t 19] 18 false,oG 21 (.bin .neq) [.t 20,cSt [45]] 18 false,oP 22 .pick [.t 18,cBo true,.t 21],oMv 23 22,oG 24 (.faddr 3) [.t 5] 23 false,oG 25 (.load none) [.t 24] 23 false,oG 26 .len [.t 25] 23 false,
 oG 27 (.bin .neq) [.t 26,cIn 2] 23 false,oP 28 .pick [.t 23,cBo true,.t 27]] [0,9,10,11,28]) (kRt 28 [oP 2 (.nilsl (some 4)) [],oP 3 .mv [cIn 3]] [2,3])))) (rT [oBc 29 .add 11 1,oMv 11 29] [0,9,10,11]))))))) (.seq (rT [oMv 30 0,oCl 31 81 [.t 30,
 cFn 82],oMv 2 31,oP 3 .mv [cIn 0]] [2,3]) .ret)))
def g34:AFn:=⟨1,[(2,none),(3,none)],c34,true,[],[],none⟩
theorem tr34:trFn Tryz.prog true 34 Tryz.f34=some g34:=by kernel_rfl
def c35:ACode:=.seq (rT [oBx 2 0,oP 3 .mv [cBo false]] [1,2]) (.seq (rT [oFa 4 3 2,oLo 5 4,oP 6 (.iaddr (some 4)) [.t 5,cIn 0],oLf 7 6,oLf 8 1,oCl 9 36 [.t 7,.t 8],oMv 3 9] [3]) .ret)
def g35:AFn:=⟨2,[(3,none)],c35,true,[],[],none⟩
theorem tr35:trFn Tryz.prog true 35 Tryz.f35=some g35:=by kernel_rfl
def c36:ACode:=.seq (rT [oBx 2 0,oBx 3 1,oP 4 .mv [cBo false]] [2,3]) (.seq (.seq (.settle [2,3]) (rT [oLf 5 2,oP 6 .callp [cFn 45,.t 5],oMv 7 6,oG 8 (.load (some 4)) [.t 3] 7 true,oG 9 .callp [cFn 45,.t 8] 7 true,oP 10 .pick [.t 7,.t 9,cBo false],oMv 11 10,
 oG 12 (.load (some 4)) [.t 2] 11 true,oG 13 .callp [cFn 47,.t 12] 11 true,oG 14 (.load (some 4)) [.t 3] 11 true,oG 15 .callp [cFn 47,.t 14] 11 true,oG 16 .callp [cFn 84,.t 13,.t 15] 11 true,oP 17 .pick [.t 11,.t 16,cBo false],oMv 4 17] [4])) .ret)
def g36:AFn:=⟨2,[(4,none)],c36,false,[],[],none⟩
theorem tr36:trFn Tryz.prog false 36 Tryz.f36=some g36:=by kernel_rfl
def c37:ACode:=.seq (rT [oP 2 aZ [],oP 3 .mv [cIn 0]] [0,2]) (.seq (rT [oMv 19 0,oP 20 (.iaddr (some 4)) [.t 19,cIn 0],oFa 21 3 20,oLo 22 21,oP 23 (.iaddr (some 4)) [.t 22,cIn 0],oLf 24 23,oP 4 aZ [],oSf 4 24] [0,2,4]) (.seq (rT [oP 5 (.nilsl (some 5)) []] [0,
 2,4,5]) (.seq (rT [oP 6 (.nilsl (some 4)) []] [0,2,4,5,6]) (.seq (.seq (rT [oMv 25 0,oUn 26 .len 25,oP 27 .mv [cIn 0]] [2,4,5,6,25,26,27]) (.block 0 (.loop [2,4,5,6,25,26,27] (.seq (rT [oBi 28 .lss 27 26] [2,4,5,6,25,26,27,28]) (.seq (kEx 28 0) (.seq (.block 1 (.seq (rT [oMv 29 27,
 oIa 30 25 27,oLf 31 30,oP 8 aZ [],oMv 7 29,oSf 8 31] [2,4,5,6,7,8,25,26,27]) (.seq (rT [oMv 32 6,oFa 33 3 8,oLo 34 33,oP 35 (.iaddr (some 4)) [.t 34,cIn 1],oLf 36 35,oUn 37 (.bslice (some 4)) 36,oP 38 (.append (some 4)) [.t 32,.t 37],oMv 6 38] [2,
 4,5,6,7,8,25,26,27]) (.seq (.seq (rT [oMv 39 7,oBc 40 .eql 39 0] [2,4,5,6,8,25,26,27,40]) (.cond (.t 40) (.exit 1) .skip)) (.seq (rT [oMv 42 5,oFa 43 3 8,oLo 44 43,oP 45 (.iaddr (some 4)) [.t 44,cIn 0],oLf 46 45,oLf 47 4,oCl 48 85 [.t 42,.t 46,
 .t 47],oMv 41 48,oEx 49 0 41,oEx 50 1 41,oMv 9 49,oMv 10 50] [2,4,6,9,10,25,26,27]) (.seq (.seq (rT [oMv 51 10,oBc 52 .neq 51 0] [2,4,6,9,10,25,26,27,52]) (kRt 52 [oP 53 (bZ []) [],oMv 54 10,oSf 2 53,oMv 3 54] [2,3])) (rT [oMv 55 9,oMv 5 55] [2,
 4,5,6,25,26,27]))))))) (rT [oBc 56 .add 27 1,oMv 27 56] [2,4,5,6,25,26,27]))))))) (.seq (rT [oMv 58 5,oLf 59 4,oCl 60 86 [.t 58,.t 59],oMv 57 60,oEx 61 0 57,oEx 62 1 57,oP 11 aZ [],oSf 11 61,oMv 12 62] [2,5,6,11,12]) (.seq (.seq (rT [oMv 63 12,
 oBc 64 .neq 63 0] [2,5,6,11,12,64]) (kRt 64 [oP 65 (bZ []) [],oMv 66 12,oSf 2 65,oMv 3 66] [2,3])) (.seq (rT [oP 13 (.nilsl (some 4)) []] [2,5,6,11,13]) (.seq (.seq (rT [oMv 67 6,oUn 68 .len 67,oP 69 .mv [cIn 0]] [2,5,11,13,67,68,69]) (.block 2 (.loop [2,
 5,11,13,67,68,69] (.seq (rT [oBi 70 .lss 69 68] [2,5,11,13,67,68,69,70]) (.seq (kEx 70 2) (.seq (.block 3 (.seq (rT [oIa 71 67 69,oLf 72 71,oP 15 aZ [],oSf 15 72] [2,5,11,13,15,67,68,69]) (.seq (rT [oMv 74 5,oLf 75 15,oCl 76 86 [.t 74,.t 75],
 oMv 73 76,oEx 77 0 73,oEx 78 1 73,oP 16 aZ [],oSf 16 77,oMv 17 78] [2,5,11,13,16,17,67,68,69]) (.seq (.seq (rT [oMv 79 17,oBc 80 .neq 79 0] [2,5,11,13,16,17,67,68,69,80]) (kRt 80 [oP 81 (bZ []) [],oMv 82 17,oSf 2 81,oMv 3 82] [2,3])) (rT [oMv 83 13,
 oLf 84 16,oUn 85 (.bslice (some 4)) 84,oP 86 (.append (some 4)) [.t 83,.t 85],oMv 13 86] [2,5,11,13,67,68,69]))))) (rT [oBc 87 .add 69 1,oMv 69 87] [2,5,11,13,67,68,69]))))))) (.seq (.seq (.settle [11,13]) (rT [oLf 88 11,oMv 89 13,oP 90 .callp [cFn 52,
 .t 89],oP 91 (.bslicep (some 4)) [.t 88,.t 90],oP 92 .callp [cFn 51,cSt [45],.t 91],oP 18 aZ [],oSf 18 92] [2,18])) (.seq (.seq (rT [oLf 93 18,oCl 94 87 [.t 93],oBc 95 .gtr 94 2000] [2,18,95]) (kRt 95 [oP 96 (bZ []) [],oSf 2 96,oP 3 .mv [cIn 2]] [2,
 3])) (.seq (rT [oLf 97 18,oSf 2 97,oP 3 .mv [cIn 0]] [2,3]) .ret)))))))))))
def g37:AFn:=⟨1,[(2,some (some 4)),(3,none)],c37,false,[],[],none⟩
theorem tr37:trFn Tryz.prog false 37 Tryz.f37=some g37:=by kernel_rfl
def c38:ACode:=.seq (rT [oBx 1 0,oP 2 aZ []] [1,2]) (.seq (.seq (rT [oLf 3 1,oCl 4 45 [.t 3],oUn 5 .not 4] [1,2,5]) (kRt 5 [oP 6 (bZ []) [],oSf 2 6] [2])) (.seq (rT [oLf 7 1,oCl 8 88 [.t 7,cFn 89],oSf 2 8] [2]) .ret))
def g38:AFn:=⟨1,[(2,some (some 4))],c38,false,[],[],none⟩
theorem tr38:trFn Tryz.prog false 38 Tryz.f38=some g38:=by kernel_rfl
def c39:ACode:=.seq (rT [oBx 2 0,oBx 3 1,oP 4 .mv [cBo false]] [2,3]) (.seq (.seq (.settle [2,3]) (rT [oLf 5 2,oP 6 .callp [cFn 43,.t 5],oMv 7 6,oG 8 (.load (some 4)) [.t 3] 7 true,oG 9 .callp [cFn 43,.t 8] 7 true,oP 10 .pick [.t 7,.t 9,cBo false],oMv 11 10,
 oG 12 (.load (some 4)) [.t 2] 11 true,oG 13 .callp [cFn 90,.t 12] 11 true,oG 14 (.load (some 4)) [.t 3] 11 true,oG 15 .callp [cFn 90,.t 14] 11 true,oG 16 .callp [cFn 75,.t 13,.t 15] 11 true,oP 17 .pick [.t 11,.t 16,cBo false],oMv 4 17] [4])) .ret)
def g39:AFn:=⟨2,[(4,none)],c39,false,[],[],none⟩
theorem tr39:trFn Tryz.prog false 39 Tryz.f39=some g39:=by kernel_rfl
def c40:ACode:=.seq (rT [oBx 4 1,oBx 5 2,oP 6 (.nilsl (some 5)) [],oP 7 .mv [cIn 0]] [0,4,5]) (.seq (.seq (rT [oMv 11 0,oCl 12 91 [.t 11],oUn 13 .not 12,oMv 14 13,oG 15 (.load (some 4)) [.t 4] 14 false,oG 16 .call [cFn 43,.t 15] 14 false,oG 17 .not [.t 16] 14 false,
 oP 18 .pick [.t 14,cBo true,.t 17],oMv 19 18,oG 20 (.load (some 4)) [.t 5] 19 false,oG 21 .call [cFn 43,.t 20] 19 false,oG 22 .not [.t 21] 19 false,oP 23 .pick [.t 19,cBo true,.t 22]] [0,4,5,23]) (kRt 23 [oP 6 (.nilsl (some 5)) [],oP 7 .mv [cIn 1]] [6,
 7])) (.seq (rT [oMv 25 0,oLf 26 4,oLf 27 5,oCl 28 92 [.t 25,.t 26,.t 27],oMv 24 28,oEx 29 0 24,oEx 30 1 24,oEx 31 2 24,oMv 8 29,oMv 9 30,oMv 10 31] [8,10]) (.seq (rT [oMv 32 8,oMv 33 10,oMv 6 32,oMv 7 33] [6,7]) .ret)))
def g40:AFn:=⟨3,[(6,none),(7,none)],c40,false,[],[],none⟩
theorem tr40:trFn Tryz.prog false 40 Tryz.f40=some g40:=by kernel_rfl
def c41:ACode:=.seq (rT [oP 4 aZ []] [0,1,4]) (.seq (rT [oMv 5 0,oMv 6 1,oP 7 (bZ [0,2,3]) [cIn 3,.t 5,.t 6],oSf 4 7] [4]) .ret)
def g41:AFn:=⟨2,[(4,some (some 4))],c41,false,[],[],none⟩
theorem tr41:trFn Tryz.prog false 41 Tryz.f41=some g41:=by kernel_rfl
def c42:ACode:=.seq (rT [oP 2 aZ []] [0,2]) (.seq (rT [oP 5 (bZ [0,2]) [cIn 2,cSt [91,93]],oP 3 aZ [],oSf 3 5] [0,2,3]) (.seq (.seq (rT [oMv 6 0,oUn 7 .len 6,oBc 8 .sub 7 1,oMv 4 8] [0,2,3,4]) (.block 0 (.loop [0,2,3,4] (.seq (.seq (rT [oMv 9 4,oBc 10 .geq 9 0] [0,
 2,3,4,10]) (kEx 10 0)) (.seq (.block 1 (rT [oMv 13 0,oMv 14 4,oIa 15 13 14,oLf 16 15,oLf 17 3,oP 18 (.bslice (some 4)) [.t 16,.t 17],oCl 19 41 [cSt [46],.t 18],oSf 3 19] [0,2,3,4])) (rT [oMv 11 4,oBc 12 .sub 11 1,oMv 4 12] [0,2,3,4])))))) (.seq (rT [oLf 20 3,
 oSf 2 20] [2]) .ret)))
def g42:AFn:=⟨1,[(2,some (some 4))],c42,false,[],[],none⟩
theorem tr42:trFn Tryz.prog false 42 Tryz.f42=some g42:=by kernel_rfl
def c43:ACode:=.seq (rT [oBx 1 0,oP 2 .mv [cBo false]] [1]) (.seq (rT [oLf 3 1,oCl 4 93 [.t 3],oBc 5 .leq 4 2000,oMv 6 5,oG 7 (.load (some 4)) [.t 1] 6 true,oG 8 .call [cFn 94,.t 7] 6 true,oP 9 .pick [.t 6,.t 8,cBo false],oMv 2 9] [2]) .ret)
def g43:AFn:=⟨1,[(2,none)],c43,false,[],[],none⟩
theorem tr43:trFn Tryz.prog false 43 Tryz.f43=some g43:=by kernel_rfl
def c44:ACode:=.seq (rT [oBx 3 1,oP 4 aZ [],oP 5 .mv [cIn 0]] [0,3,4]) (.seq (.seq (rT [oMv 8 0,oCl 9 91 [.t 8],oUn 10 .not 9,oMv 11 10,oG 12 (.load (some 4)) [.t 3] 11 false,oG 13 .call [cFn 43,.t 12] 11 false,oG 14 .not [.t 13] 11 false,oP 15 .pick [.t 11,
 cBo true,.t 14]] [0,3,4,15]) (kRt 15 [oP 16 (bZ []) [],oSf 4 16,oP 5 .mv [cIn 1]] [4,5])) (.seq (rT [oMv 18 0,oLf 19 3,oCl 20 95 [.t 18,.t 19],oMv 17 20,oEx 21 0 17,oEx 22 1 17,oP 6 aZ [],oSf 6 21,oMv 7 22] [4,6,7]) (.seq (.seq (rT [oMv 23 7,
 oUn 24 .not 23] [4,6,24]) (kRt 24 [oP 25 (bZ []) [],oSf 4 25,oP 5 .mv [cIn 2]] [4,5])) (.seq (rT [oLf 26 6,oSf 4 26,oP 5 .mv [cIn 0]] [4,5]) .ret))))
def g44:AFn:=⟨2,[(4,some (some 4)),(5,none)],c44,false,[],[],none⟩
theorem tr44:trFn Tryz.prog false 44 Tryz.f44=some g44:=by kernel_rfl
def c45:ACode:=.seq (rT [oBx 1 0,oP 2 .mv [cBo false]] [1]) (.seq (rT [oLf 3 1,oCl 4 87 [.t 3],oBc 5 .leq 4 2000,oMv 6 5,oG 7 (.load (some 4)) [.t 1] 6 true,oG 8 .call [cFn 96,.t 7] 6 true,oP 9 .pick [.t 6,.t 8,cBo false],oMv 2 9] [2]) .ret)
def g45:AFn:=⟨1,[(2,none)],c45,false,[],[],none⟩
theorem tr45:trFn Tryz.prog false 45 Tryz.f45=some g45:=by kernel_rfl
def c46:ACode:=.seq (rT [oBx 2 0,oBx 3 1,oP 4 .mv [cBo false]] [2,3]) (.seq (rT [oLf 5 2,oCl 6 45 [.t 5],oMv 7 6,oG 8 (.load (some 4)) [.t 3] 7 true,oG 9 .call [cFn 45,.t 8] 7 true,oP 10 .pick [.t 7,.t 9,cBo false],oMv 11 10,oG 12 (.load (some 4)) [.t 2] 11 true,
 oG 13 (.load (some 4)) [.t 3] 11 true,oG 14 .call [cFn 84,.t 12,.t 13] 11 true,oP 15 .pick [.t 11,.t 14,cBo false],oMv 4 15] [4]) .ret)
def g46:AFn:=⟨2,[(4,none)],c46,false,[],[],none⟩
theorem tr46:trFn Tryz.prog false 46 Tryz.f46=some g46:=by kernel_rfl
def c47:ACode:=.seq (rT [oBx 1 0,oP 2 aZ []] [1,2]) (.seq (.seq (rT [oLf 4 1,oCl 5 45 [.t 4],oUn 6 .not 5] [1,2,6]) (kRt 6 [oP 7 (bZ []) [],oSf 2 7] [2])) (.seq (rT [oP 8 (.mkmap none) [],oP 3 (.alloc none (.pv none .nilmap)) [],oSo 3 8] [1,2,3]) (.seq (rT [oLf 9 1,
 oUn 10 (.mkfunc (.func 97) 0) 3,oCl 11 88 [.t 9,.t 10],oSf 2 11] [2]) .ret)))
def g47:AFn:=⟨1,[(2,some (some 4))],c47,false,[],[],none⟩
theorem tr47:trFn Tryz.prog false 47 Tryz.f47=some g47:=by kernel_rfl
def c48:ACode:=.seq (rT [oBx 1 0,oP 2 (.nilsl (some 4)) [],oP 3 aZ [],oP 4 .mv [cBo false]] [1,3]) (.seq (rT [oLf 8 1,oCl 9 98 [.t 8],oMv 7 9,oEx 10 0 7,oEx 11 1 7,oEx 12 2 7,oMv 2 10,oSf 3 11,oMv 4 12] [2,3,4]) (.seq (.seq (rT [oMv 13 4,oUn 14 .not 13] [2,
 3,14]) (kRt 14 [oLf 15 3,oP 2 (.nilsl (some 4)) [],oSf 3 15,oP 4 .mv [cBo false]] [2,3,4])) (.seq (.seq (rT [oMv 16 2,oUn 17 .len 16,oP 18 .mv [cIn 0]] [2,3,16,17,18]) (.block 0 (.loop [2,3,16,17,18] (.seq (rT [oBi 19 .lss 18 17] [2,3,16,17,
 18,19]) (.seq (kEx 19 0) (.seq (.block 1 (.seq (rT [oIa 20 16 18,oLf 21 20,oP 6 aZ [],oSf 6 21] [2,3,6,16,17,18]) (.seq (.seq (rT [oFa 22 0 6,oLo 23 22,oBc 24 .eql 23 0] [2,3,6,16,17,18,24]) (kRt 24 [oCl 25 68 [],oP 2 (.nilsl (some 4)) [],oSf 3 25,
 oP 4 .mv [cBo false]] [2,3,4])) (.seq (rT [oLf 26 6,oCl 27 67 [.t 26,cSt [45],cIn 2],oUn 28 .not 27] [2,3,6,16,17,18,28]) (kRt 28 [oLf 29 6,oCl 30 69 [cSt [112,97,105,114],.t 29],oP 2 (.nilsl (some 4)) [],oSf 3 30,oP 4 .mv [cBo false]] [2,3,
 4]))))) (rT [oBc 31 .add 18 1,oMv 18 31] [2,3,16,17,18]))))))) (.seq (rT [oMv 32 2,oP 33 (bZ []) [],oMv 2 32,oSf 3 33,oP 4 .mv [cBo true]] [2,3,4]) .ret))))
def g48:AFn:=⟨1,[(2,none),(3,some (some 4)),(4,none)],c48,false,[],[],none⟩
theorem tr48:trFn Tryz.prog false 48 Tryz.f48=some g48:=by kernel_rfl
def c49:ACode:=.seq (rT [oP 0 (.nilsl (some 2)) []] []) (.seq (rT [oP 1 (.build [(none,.pv none (.str [])),(none,.pv none .nilfunc)] [0,1]) [cSt [36,98,97,103],cFn 99],oP 2 (.build [(none,.pv none (.str [])),(none,.pv none .nilfunc)] [0,1]) [cSt [36,
 115,101,116],cFn 100],oP 3 (.bslice (some 2)) [.t 1,.t 2],oMv 0 3] [0]) .ret)
def g49:AFn:=⟨0,[(0,none)],c49,false,[],[],none⟩
theorem tr49:trFn Tryz.prog false 49 Tryz.f49=some g49:=by kernel_rfl
def c50:ACode:=.seq (rT [oBx 1 0,oP 2 (.nilsl (some 4)) [],oP 3 aZ []] [1,3]) (.seq (.seq (rT [oLf 5 1,oCl 6 45 [.t 5],oUn 7 .not 6] [1,3,7]) (kRt 7 [oP 8 (bZ []) [],oP 2 (.nilsl (some 4)) [],oSf 3 8] [2,3])) (.seq (rT [oP 4 (.nilsl (some 4)) []] [1,3,4]) (.seq (.block 0 (.loop [1,
 3,4] (.seq (.seq (rT [oFa 9 0 1,oLo 10 9,oBc 11 .eql 10 3,oMv 12 11,oG 13 (.faddr 2) [.t 1] 12 true,oG 14 (.load none) [.t 13] 12 true,oG 15 (.bin .eql) [.t 14,cSt [46]] 12 true,oP 16 .pick [.t 12,.t 15,cBo false],oMv 17 16,oG 18 (.faddr 3) [.t 1] 17 true,
 oG 19 (.load none) [.t 18] 17 true,oG 20 .len [.t 19] 17 true,oG 21 (.bin .eql) [.t 20,cIn 2] 17 true,oP 22 .pick [.t 17,.t 21,cBo false]] [1,3,4,22]) (kEx 22 0)) (.block 1 (.seq (rT [oMv 23 4,oFa 24 3 1,oLo 25 24,oP 26 (.iaddr (some 4)) [.t 25,
 cIn 0],oLf 27 26,oCl 28 38 [.t 27],oUn 29 (.bslice (some 4)) 28,oP 30 (.append (some 4)) [.t 23,.t 29],oMv 4 30] [1,3,4]) (rT [oFa 31 3 1,oLo 32 31,oP 33 (.iaddr (some 4)) [.t 32,cIn 1],oLf 34 33,oSf 1 34] [1,3,4])))))) (.seq (rT [oMv 35 4,oLf 36 1,
 oCl 37 38 [.t 36],oMv 2 35,oSf 3 37] [2,3]) .ret))))
def g50:AFn:=⟨1,[(2,none),(3,some (some 4))],c50,false,[],[],none⟩
theorem tr50:trFn Tryz.prog false 50 Tryz.f50=some g50:=by kernel_rfl
def c51:ACode:=.seq (rT [oP 4 aZ []] [0,1,4]) (.seq (rT [oMv 5 0,oMv 6 1,oP 7 (bZ [0,2,3]) [cIn 3,.t 5,.t 6],oSf 4 7] [4]) .ret)
def g51:AFn:=⟨2,[(4,some (some 4))],c51,false,[],[],none⟩
theorem tr51:trFn Tryz.prog false 51 Tryz.f51=some g51:=by kernel_rfl
def c52:ACode:=.seq (rT [oP 2 aZ []] [0,2]) (.seq (rT [oP 5 (bZ [0,2]) [cIn 2,cSt [91,93]],oP 3 aZ [],oSf 3 5] [0,2,3]) (.seq (.seq (rT [oMv 6 0,oUn 7 .len 6,oBc 8 .sub 7 1,oMv 4 8] [0,2,3,4]) (.block 0 (.loop [0,2,3,4] (.seq (.seq (rT [oMv 9 4,oBc 10 .geq 9 0] [0,
 2,3,4,10]) (kEx 10 0)) (.seq (.block 1 (rT [oMv 13 0,oMv 14 4,oIa 15 13 14,oLf 16 15,oLf 17 3,oP 18 (.bslice (some 4)) [.t 16,.t 17],oCl 19 51 [cSt [46],.t 18],oSf 3 19] [0,2,3,4])) (rT [oMv 11 4,oBc 12 .sub 11 1,oMv 4 12] [0,2,3,4])))))) (.seq (rT [oLf 20 3,
 oSf 2 20] [2]) .ret)))
def g52:AFn:=⟨1,[(2,some (some 4))],c52,false,[],[],none⟩
theorem tr52:trFn Tryz.prog false 52 Tryz.f52=some g52:=by kernel_rfl
def c53:ACode:=.seq (rT [oBx 1 0,oP 2 .mv [cBo false]] [1]) (.seq (.seq (.settle [1]) (rT [oLf 3 1,oP 4 .callp [cFn 43,.t 3],oMv 5 4,oG 6 (.load (some 4)) [.t 1] 5 true,oG 7 (.load (some 4)) [.t 1] 5 true,oG 8 .callp [cFn 90,.t 7] 5 true,oG 9 .callp [cFn 75,
 .t 6,.t 8] 5 true,oP 10 .pick [.t 5,.t 9,cBo false],oMv 2 10] [2])) .ret)
def g53:AFn:=⟨1,[(2,none)],c53,false,[],[],none⟩
theorem tr53:trFn Tryz.prog false 53 Tryz.f53=some g53:=by kernel_rfl
def c54:ACode:=.seq (rT [oBx 1 0,oP 2 (.nilsl (some 4)) [],oP 3 aZ [],oP 4 .mv [cBo false]] [1,3]) (.seq (.seq (rT [oLf 7 1,oCl 8 43 [.t 7],oUn 9 .not 8] [1,3,9]) (kRt 9 [oP 10 (bZ []) [],oP 2 (.nilsl (some 4)) [],oSf 3 10,oP 4 .mv [cBo false]] [2,3,4])) (.seq (rT [oLf 12 1,
 oCl 13 56 [.t 12],oMv 11 13,oEx 14 0 11,oEx 15 1 11,oP 6 aZ [],oMv 5 14,oSf 6 15] [1,3,5,6]) (.seq (.seq (rT [oFa 16 0 6,oLo 17 16,oBc 18 .eql 17 0] [1,3,5,6,18]) (kRt 18 [oCl 19 32 [],oP 2 (.nilsl (some 4)) [],oSf 3 19,oP 4 .mv [cBo false]] [2,
 3,4])) (.seq (.seq (rT [oFa 20 0 6,oLo 21 20,oBc 22 .neq 21 2,oMv 23 22,oG 24 (.faddr 2) [.t 6] 23 false,oG 25 (.load none) [.t 24] 23 false,oG 26 (.bin .neq) [.t 25,cSt [91,93]] 23 false,oP 27 .pick [.t 23,cBo true,.t 26]] [1,3,5,27]) (kRt 27 [oLf 28 1,
 oCl 29 33 [cSt [108,105,115,116],.t 28],oP 2 (.nilsl (some 4)) [],oSf 3 29,oP 4 .mv [cBo false]] [2,3,4])) (.seq (rT [oMv 30 5,oP 31 (bZ []) [],oMv 2 30,oSf 3 31,oP 4 .mv [cBo true]] [2,3,4]) .ret)))))
def g54:AFn:=⟨1,[(2,none),(3,some (some 4)),(4,none)],c54,false,[],[],none⟩
theorem tr54:trFn Tryz.prog false 54 Tryz.f54=some g54:=by kernel_rfl
def c55:ACode:=.seq (rT [oBx 1 0,oP 2 .mv [cBo false]] [1]) (.seq (rT [oFa 3 0 1,oLo 4 3,oBc 5 .eql 4 3,oMv 6 5,oG 7 (.faddr 2) [.t 1] 6 true,oG 8 (.load none) [.t 7] 6 true,oG 9 (.bin .eql) [.t 8,cSt [45]] 6 true,oP 10 .pick [.t 6,.t 9,cBo false],oMv 11 10,
 oG 12 (.faddr 3) [.t 1] 11 true,oG 13 (.load none) [.t 12] 11 true,oG 14 .len [.t 13] 11 true,oG 15 (.bin .eql) [.t 14,cIn 2] 11 true,oP 16 .pick [.t 11,.t 15,cBo false],oMv 2 16] [2]) .ret)
def g55:AFn:=⟨1,[(2,none)],c55,false,[],[],none⟩
theorem tr55:trFn Tryz.prog false 55 Tryz.f55=some g55:=by kernel_rfl
def c56:ACode:=.seq (rT [oBx 1 0,oP 2 (.nilsl (some 4)) [],oP 3 aZ []] [1,3]) (.seq (.seq (rT [oLf 5 1,oCl 6 43 [.t 5],oUn 7 .not 6] [1,3,7]) (kRt 7 [oP 8 (bZ []) [],oP 2 (.nilsl (some 4)) [],oSf 3 8] [2,3])) (.seq (rT [oP 4 (.nilsl (some 4)) []] [1,3,4]) (.seq (.block 0 (.loop [1,
 3,4] (.seq (.seq (rT [oLf 9 1,oCl 10 102 [.t 9]] [1,3,4,10]) (kEx 10 0)) (.block 1 (.seq (rT [oMv 11 4,oFa 12 3 1,oLo 13 12,oP 14 (.iaddr (some 4)) [.t 13,cIn 0],oLf 15 14,oCl 16 103 [.t 15],oUn 17 (.bslice (some 4)) 16,oP 18 (.append (some 4)) [.t 11,
 .t 17],oMv 4 18] [1,3,4]) (rT [oFa 19 3 1,oLo 20 19,oP 21 (.iaddr (some 4)) [.t 20,cIn 1],oLf 22 21,oSf 1 22] [1,3,4])))))) (.seq (rT [oMv 23 4,oLf 24 1,oCl 25 103 [.t 24],oMv 2 23,oSf 3 25] [2,3]) .ret))))
def g56:AFn:=⟨1,[(2,none),(3,some (some 4))],c56,false,[],[],none⟩
theorem tr56:trFn Tryz.prog false 56 Tryz.f56=some g56:=by kernel_rfl
def c57:ACode:=.seq (rT [oP 2 (.nilsl (some 4)) [],oP 3 .mv [cIn 0]] [0]) (.seq (rT [oMv 9 0,oCl 10 104 [.t 9],oMv 8 10,oEx 11 0 8,oEx 12 1 8,oMv 4 11,oMv 5 12] [4,5]) (.seq (rT [oP 6 (.nilsl (some 4)) []] [4,5,6]) (.seq (.seq (rT [oP 7 .mv [cIn 0]] [4,5,6,
 7]) (.block 0 (.loop [4,5,6,7] (.seq (.seq (rT [oMv 13 7,oMv 14 4,oUn 15 .len 14,oBi 16 .lss 13 15] [4,5,6,7,16]) (kEx 16 0)) (.seq (.block 1 (.seq (rT [oMv 19 7,oBc 20 .eql 19 0,oMv 21 20,oG 22 .mv [.t 4] 21 false,oG 23 .mv [.t 7] 21 false,
 oG 24 (.bin .sub) [.t 23,cIn 1] 21 false,oG 25 (.iaddr (some 4)) [.t 22,.t 24] 21 false,oG 26 (.load (some 4)) [.t 25] 21 false,oG 27 .mv [.t 4] 21 false,oG 28 .mv [.t 7] 21 false,oG 29 (.iaddr (some 4)) [.t 27,.t 28] 21 false,oG 30 (.load (some 4)) [.t 29] 21 false,
 oG 31 .call [cFn 105,.t 26,.t 30] 21 false,oG 32 (.bin .neq) [.t 31,cIn 0] 21 false,oP 33 .pick [.t 21,cBo true,.t 32]] [4,5,6,7,33]) (.cond (.t 33) (rT [oMv 34 6,oMv 35 4,oMv 36 7,oIa 37 35 36,oLf 38 37,oUn 39 (.bslice (some 4)) 38,oP 40 (.append (some 4)) [.t 34,
 .t 39],oMv 6 40] [4,5,6,7]) .skip))) (rT [oMv 17 7,oBc 18 .add 17 1,oMv 7 18] [4,5,6,7])))))) (.seq (rT [oMv 41 6,oMv 42 5,oMv 2 41,oMv 3 42] [2,3]) .ret))))
def g57:AFn:=⟨1,[(2,none),(3,none)],c57,false,[],[],none⟩
theorem tr57:trFn Tryz.prog false 57 Tryz.f57=some g57:=by kernel_rfl
def c58:ACode:=.seq (rT [oBx 1 0,oP 2 aZ []] [1,2]) (.seq (.seq (rT [oLf 3 1,oCl 4 43 [.t 3],oUn 5 .not 4] [1,2,5]) (kRt 5 [oP 6 (bZ []) [],oSf 2 6] [2])) (.seq (rT [oLf 7 1,oCl 8 103 [.t 7],oSf 2 8] [2]) .ret))
def g58:AFn:=⟨1,[(2,some (some 4))],c58,false,[],[],none⟩
theorem tr58:trFn Tryz.prog false 58 Tryz.f58=some g58:=by kernel_rfl
def c59:ACode:=.seq (rT [oP 2 .mv [cBo false]] [0]) (.seq (.seq (rT [oP 3 .mv [cIn 0]] [0,3]) (.block 0 (.loop [0,3] (.seq (.seq (rT [oMv 4 3,oMv 5 0,oUn 6 .len 5,oBi 7 .lss 4 6] [0,3,7]) (kEx 7 0)) (.seq (.block 1 (.seq (rT [oMv 10 0,oMv 11 3,oIa 12 10 11,
 oLf 13 12,oCl 14 43 [.t 13],oUn 15 .not 14] [0,3,15]) (kRt 15 [oP 2 .mv [cBo false]] [2]))) (rT [oMv 8 3,oBc 9 .add 8 1,oMv 3 9] [0,3])))))) (.seq (rT [oP 2 .mv [cBo true]] [2]) .ret))
def g59:AFn:=⟨1,[(2,none)],c59,false,[],[],none⟩
theorem tr59:trFn Tryz.prog false 59 Tryz.f59=some g59:=by kernel_rfl
def c60:ACode:=.seq (rT [oBx 4 1,oP 6 (.nilsl (some 4)) []] [0,2,4]) (.seq (rT [oMv 9 0,oUn 10 .len 9,oMv 7 10] [0,2,4,7]) (.seq (.block 0 (.loop [0,2,4,7] (.seq (.seq (.seq (.settle [2,4]) (rT [oMv 11 7,oBc 12 .gtr 11 0,oMv 13 12,oG 14 .mv [.t 0] 13 true,
 oG 15 .mv [.t 7] 13 true,oG 16 (.bin .sub) [.t 15,cIn 1] 13 true,oG 17 (.iaddr (some 4)) [.t 14,.t 16] 13 true,oG 18 (.load (some 4)) [.t 17] 13 true,oG 19 .mv [.t 2] 13 true,oG 20 .callp [cFn 106,.t 18,.t 19] 13 true,oG 21 (.load (some 4)) [.t 4] 13 true,
 oG 22 .mv [.t 2] 13 true,oG 23 .callp [cFn 106,.t 21,.t 22] 13 true,oG 24 .callp [cFn 105,.t 20,.t 23] 13 true,oG 25 (.bin .gtr) [.t 24,cIn 0] 13 true,oP 26 .pick [.t 13,.t 25,cBo false]] [0,2,4,7,26])) (kEx 26 0)) (.block 1 (rT [oMv 27 7,oBc 28 .sub 27 1,
 oMv 7 28] [0,2,4,7]))))) (.seq (rT [oP 8 (.nilsl (some 4)) []] [0,4,7,8]) (.seq (rT [oMv 29 8,oMv 30 0,oMv 31 7,oP 32 (.slice (some 4) false true) [.t 30,.t 31],oP 33 (.append (some 4)) [.t 29,.t 32],oMv 8 33] [0,4,7,8]) (.seq (rT [oMv 34 8,
 oLf 35 4,oUn 36 (.bslice (some 4)) 35,oP 37 (.append (some 4)) [.t 34,.t 36],oMv 8 37] [0,7,8]) (.seq (rT [oMv 38 8,oMv 39 0,oMv 40 7,oP 41 (.slice (some 4) true false) [.t 39,.t 40],oP 42 (.append (some 4)) [.t 38,.t 41],oMv 6 42] [6]) .ret))))))
def g60:AFn:=⟨3,[(6,none)],c60,false,[],[],none⟩
theorem tr60:trFn Tryz.prog false 60 Tryz.f60=some g60:=by kernel_rfl
def c63:ACode:=.seq (rT [oBx 2 0] [1,2]) (.seq (rT [oLf 5 2,oCl 6 64 [.t 5],oUn 7 .len 6,oP 8 .mv [cIn 0]] [1,6,7,8]) (.block 0 (.loop [1,6,7,8] (.seq (rT [oBi 9 .lss 8 7] [1,6,7,8,9]) (.seq (kEx 9 0) (.seq (.block 1 (.seq (rT [oP 10 (.iaddr none) [.t 6,.t 8],
 oLo 11 10,oMv 4 11] [1,4,6,7,8]) (rT [oLo 12 1,oMv 13 4,⟨none,(.mapset false none),[.t 12,.t 13,cBo true],none⟩] [1,6,7,8]))) (rT [oBc 14 .add 8 1,oMv 8 14] [1,6,7,8])))))))
def g63:AFn:=⟨2,[],c63,true,[],[],none⟩
theorem tr63:trFn Tryz.prog true 63 Tryz.f63=some g63:=by kernel_rfl
def c64:ACode:=.seq (rT [oBx 1 0,oP 2 (.nilsl none) []] [1]) (.seq (.seq (rT [oLf 5 1,oCl 6 45 [.t 5],oUn 7 .not 6] [1,7]) (kRt 7 [oP 2 (.nilsl none) []] [2])) (.seq (rT [oP 3 (.alloc none (.tsl none [])) []] [1,3]) (.seq (rT [oP 8 (.mkmap none) [],oP 4 (.alloc none (.pv none .nilmap)) [],
 oSo 4 8] [1,3,4]) (.seq (rT [oLf 9 1,oP 10 (.mkfunc (.func 108) 0) [.t 4,.t 3],oCl 11 88 [.t 9,.t 10]] [3]) (.seq (rT [oLo 12 3,oMv 2 12] [2]) .ret)))))
def g64:AFn:=⟨1,[(2,none)],c64,false,[],[],none⟩
theorem tr64:trFn Tryz.prog false 64 Tryz.f64=some g64:=by kernel_rfl
def c65:ACode:=.seq (rT [oBx 1 0,oP 2 .mv [.c (.pv none .nilfunc)]] [1]) (.seq (rT [oUn 3 (.mkfunc (.func 109) 0) 1,oMv 2 3] [2]) .ret)
def g65:AFn:=⟨1,[(2,none)],c65,true,[],[],none⟩
theorem tr65:trFn Tryz.prog true 65 Tryz.f65=some g65:=by kernel_rfl
def c67:ACode:=.seq (rT [oBx 3 0,oP 6 .mv [cBo false]] [1,2,3]) (.seq (rT [oFa 7 0 3,oLo 8 7,oBc 9 .eql 8 3,oMv 10 9,oG 11 (.faddr 2) [.t 3] 10 true,oG 12 (.load none) [.t 11] 10 true,oG 13 .mv [.t 1] 10 true,oG 14 (.bin .eql) [.t 12,.t 13] 10 true,oP 15 .pick [.t 10,
 .t 14,cBo false],oMv 16 15,oG 17 (.faddr 3) [.t 3] 16 true,oG 18 (.load none) [.t 17] 16 true,oG 19 .len [.t 18] 16 true,oG 20 .mv [.t 2] 16 true,oG 21 (.bin .eql) [.t 19,.t 20] 16 true,oP 22 .pick [.t 16,.t 21,cBo false],oMv 6 22] [6]) .ret)
def g67:AFn:=⟨3,[(6,none)],c67,false,[],[],none⟩
theorem tr67:trFn Tryz.prog false 67 Tryz.f67=some g67:=by kernel_rfl
def c68:ACode:=.seq (rT [oP 0 aZ []] [0]) (.seq (rT [oCl 1 111 [cSt [105,110,115,116,97,110,116,105,97,116,105,111,110,95,101,114,114,111,114],.c (.tsl (some 4) [])],oSf 0 1] [0]) .ret)
def g68:AFn:=⟨0,[(0,some (some 4))],c68,false,[],[],none⟩
theorem tr68:trFn Tryz.prog false 68 Tryz.f68=some g68:=by kernel_rfl
def c69:ACode:=.seq (rT [oBx 3 1,oP 4 aZ []] [0,3,4]) (.seq (rT [oLf 5 3,oMv 6 0,oUn 7 (.bslice none) 6,oCl 8 112 [.t 5,cSt [116,121,112,101,95,101,114,114,111,114],.t 7],oSf 4 8] [4]) .ret)
def g69:AFn:=⟨2,[(4,some (some 4))],c69,false,[],[],none⟩
theorem tr69:trFn Tryz.prog false 69 Tryz.f69=some g69:=by kernel_rfl
def c74:ACode:=.seq (rT [oP 2 .mv [cBo false]] [0]) (.seq (rT [oMv 3 0,oBc 4 .geq 3 0,oMv 5 4,oG 6 .mv [.t 0] 5 true,oG 7 (.bin .leq) [.t 6,cIn 1099511627776] 5 true,oP 8 .pick [.t 5,.t 7,cBo false],oMv 2 8] [2]) .ret)
def g74:AFn:=⟨1,[(2,none)],c74,false,[],[],none⟩
theorem tr74:trFn Tryz.prog false 74 Tryz.f74=some g74:=by kernel_rfl
def c75r0:LO:=[oBx 2 0,oBx 3 1,oP 4 .mv [cBo false]]
def c75r1:LO:=[oFa 6 0 2,oLo 7 6,oFa 8 0 3,oLo 9 8,oBi 10 .neq 7 9,oMv 11 10,oG 12 (.faddr 1) [.t 2] 11 false,oG 13 (.load none) [.t 12] 11 false,oG 14 (.faddr 1) [.t 3] 11 false,oG 15 (.load none) [.t 14] 11 false,oG 16 (.bin .neq) [.t 13,.t 15] 11 false,
 oP 17 .pick [.t 11,cBo true,.t 16],oMv 18 17,oG 19 (.faddr 2) [.t 2] 18 false,oG 20 (.load none) [.t 19] 18 false,oG 21 (.faddr 2) [.t 3] 18 false,oG 22 (.load none) [.t 21] 18 false,oG 23 (.bin .neq) [.t 20,.t 22] 18 false,oP 24 .pick [.t 18,
 cBo true,.t 23],oMv 25 24,oG 26 (.faddr 3) [.t 2] 25 false,oG 27 (.load none) [.t 26] 25 false,oG 28 .len [.t 27] 25 false,oG 29 (.faddr 3) [.t 3] 25 false,oG 30 (.load none) [.t 29] 25 false,oG 31 .len [.t 30] 25 false,oG 32 (.bin .neq) [.t 28,
 .t 31] 25 false,oP 33 .pick [.t 25,cBo true,.t 32]]
def c75r2:LO:=[oP 4 .mv [cBo false]]
def c75k3:ACode:=kRt 33 c75r2 [4]
def c75r4:LO:=[oP 5 .mv [cIn 0]]
def c75r5:LO:=[oMv 34 5,oFa 35 3 2,oLo 36 35,oUn 37 .len 36,oBi 38 .lss 34 37]
def c75k6:ACode:=kEx 38 0
def c75r7:LO:=[oFa 41 3 2,oLo 42 41,oMv 43 5,oIa 44 42 43,oLf 45 44,oFa 46 3 3,oLo 47 46,oMv 48 5,oIa 49 47 48,oLf 50 49,oCl 51 75 [.t 45,.t 50],oUn 52 .not 51]
def c75r8:LO:=[oP 4 .mv [cBo false]]
def c75k9:ACode:=kRt 52 c75r8 [4]
def c75k10:ACode:=.block 1 (.seq (rT c75r7 [2,3,5,52]) c75k9)
def c75r11:LO:=[oMv 39 5,oBc 40 .add 39 1,oMv 5 40]
def c75b12:ACode:=.seq (.seq (rT c75r5 [2,3,5,38]) c75k6) (.seq c75k10 (rT c75r11 [2,3,5]))
def c75k13:ACode:=.block 0 (.loop [2,3,5] c75b12)
def c75r14:LO:=[oP 4 .mv [cBo true]]
def c75:ACode:=.seq (rT c75r0 [2,3]) (.seq (.seq (rT c75r1 [2,3,33]) c75k3) (.seq (.seq (rT c75r4 [2,3,5]) c75k13) (.seq (rT c75r14 [4]) .ret)))
def g75:AFn:=⟨2,[(4,none)],c75,false,[],[],none⟩
theorem tr75:trFn Tryz.prog false 75 Tryz.f75=some g75:=by kernel_rfl
def c76:ACode:=.seq (rT [oBx 3 1,oP 4 aZ []] [0,3,4]) (.seq (.seq (rT [oMv 10 0,oUn 11 .len 10,oBc 12 .gtr 11 2000,oMv 13 12,oG 14 (.load (some 4)) [.t 3] 13 false,oG 15 .call [cFn 45,.t 14] 13 false,oG 16 .not [.t 15] 13 false,oP 17 .pick [.t 13,cBo true,
 .t 16]] [0,3,4,17]) (kRt 17 [oP 18 (bZ []) [],oSf 4 18] [4])) (.seq (rT [oLf 19 3,oCl 20 87 [.t 19],oMv 5 20] [0,3,4,5]) (.seq (.seq (rT [oMv 21 0,oUn 22 .len 21,oP 23 .mv [cIn 0]] [0,3,4,5,21,22,23]) (.block 0 (.loop [0,3,4,5,21,22,23] (.seq (rT [oBi 24 .lss 23 22] [0,
 3,4,5,21,22,23,24]) (.seq (kEx 24 0) (.seq (.block 1 (.seq (rT [oIa 25 21 23,oLf 26 25,oP 7 aZ [],oSf 7 26] [0,3,4,5,7,21,22,23]) (.seq (rT [oMv 27 5,oLf 28 7,oCl 29 87 [.t 28],oP 30 (.bin .add) [cIn 1,.t 29],oBi 31 .add 27 30,oMv 5 31] [0,3,
 4,5,7,21,22,23]) (.seq (rT [oMv 32 5,oBc 33 .gtr 32 2000,oMv 34 33,oG 35 (.load (some 4)) [.t 7] 34 false,oG 36 .call [cFn 96,.t 35] 34 false,oG 37 .not [.t 36] 34 false,oP 38 .pick [.t 34,cBo true,.t 37]] [0,3,4,5,21,22,23,38]) (kRt 38 [oP 39 (bZ []) [],
 oSf 4 39] [4]))))) (rT [oBc 40 .add 23 1,oMv 23 40] [0,3,4,5,21,22,23]))))))) (.seq (rT [oLf 41 3,oCl 42 38 [.t 41],oP 8 aZ [],oSf 8 42] [0,4,8]) (.seq (.seq (rT [oMv 43 0,oUn 44 .len 43,oBc 45 .sub 44 1,oMv 9 45] [0,4,8,9]) (.block 2 (.loop [0,
 4,8,9] (.seq (.seq (rT [oMv 46 9,oBc 47 .geq 46 0] [0,4,8,9,47]) (kEx 47 2)) (.seq (.block 3 (.seq (.settle [8]) (rT [oMv 50 0,oMv 51 9,oIa 52 50 51,oLf 53 52,oP 54 .callp [cFn 38,.t 53],oLf 55 8,oP 56 (.bslicep (some 4)) [.t 54,.t 55],oP 57 (bZ [0,
 2,3]) [cIn 3,cSt [46],.t 56],oSf 8 57] [0,4,8,9]))) (rT [oMv 48 9,oBc 49 .sub 48 1,oMv 9 49] [0,4,8,9])))))) (.seq (rT [oLf 58 8,oSf 4 58] [4]) .ret))))))
def g76:AFn:=⟨2,[(4,some (some 4))],c76,false,[],[],none⟩
theorem tr76:trFn Tryz.prog false 76 Tryz.f76=some g76:=by kernel_rfl
def c77:ACode:=.seq (rT [oBx 1 0,oP 2 aZ []] [1,2]) (.seq (.seq (.settle [1]) (rT [oLf 3 1,oP 4 .callp [cFn 78,cSt [91,93]],oP 5 (.bslicep (some 4)) [.t 3,.t 4],oP 6 .callp [cFn 114,cSt [101,114,114,111,114],.t 5],oP 7 .callp [cFn 58,.t 6],oSf 2 7] [2])) .ret)
def g77:AFn:=⟨1,[(2,some (some 4))],c77,false,[],[],none⟩
theorem tr77:trFn Tryz.prog false 77 Tryz.f77=some g77:=by kernel_rfl
def c78:ACode:=.seq (rT [oP 2 aZ []] [0,2]) (.seq (rT [oMv 3 0,oP 4 (bZ [0,2]) [cIn 2,.t 3],oSf 2 4] [2]) .ret)
def g78:AFn:=⟨1,[(2,some (some 4))],c78,false,[],[],none⟩
theorem tr78:trFn Tryz.prog false 78 Tryz.f78=some g78:=by kernel_rfl
def c79:ACode:=.seq (rT [oBx 3 0,oP 6 aZ []] [1,2,3,6]) (.seq (.seq (rT [oLf 9 3,oCl 10 43 [.t 9],oUn 11 .not 10] [1,2,3,6,11]) (kRt 11 [oP 12 (bZ []) [],oSf 6 12] [6])) (.seq (rT [oP 7 (.nilsl (some 4)) []] [1,2,3,6,7]) (.seq (.seq (rT [oP 8 .mv [cIn 0]] [1,
 2,3,6,7,8]) (.block 0 (.loop [1,2,3,6,7,8] (.seq (.seq (rT [oMv 13 8,oMv 14 2,oUn 15 .len 14,oBi 16 .lss 13 15] [1,2,3,6,7,8,16]) (kEx 16 0)) (.seq (.block 1 (rT [oMv 19 7,oMv 20 2,oMv 21 8,oP 22 (.iaddr none) [.t 20,.t 21],oLo 23 22,oCl 24 78 [.t 23],
 oUn 25 (.bslice (some 4)) 24,oP 26 (.append (some 4)) [.t 19,.t 25],oMv 7 26] [1,2,3,6,7,8])) (rT [oMv 17 8,oBc 18 .add 17 1,oMv 8 18] [1,2,3,6,7,8])))))) (.seq (.seq (rT [oMv 27 2,oUn 28 .len 27,oP 29 (.bin .add) [cIn 2,.t 28],oLf 30 3,oCl 31 93 [.t 30],
 oBi 32 .add 29 31,oBc 33 .add 32 1,oBc 34 .gtr 33 2000] [1,3,6,7,34]) (.cond (.t 34) (rT [oCl 35 78 [cSt [46,46,46]],oSf 3 35] [1,3,6,7]) .skip)) (.seq (rT [oMv 36 1,oMv 37 7,oLf 38 3,oUn 39 (.bslice (some 4)) 38,oP 40 (.append (some 4)) [.t 37,
 .t 39],oCl 41 114 [.t 36,.t 40],oCl 42 77 [.t 41],oSf 6 42] [6]) .ret)))))
def g79:AFn:=⟨3,[(6,some (some 4))],c79,false,[],[],none⟩
theorem tr79:trFn Tryz.prog false 79 Tryz.f79=some g79:=by kernel_rfl
def c80:ACode:=.seq (rT [oP 2 .mv [cBo false]] [0]) (.seq (.seq (rT [oMv 5 0,oUn 6 .len 5,oP 7 .mv [cIn 0]] [5,6,7]) (.block 0 (.loop [5,6,7] (.seq (rT [oBi 8 .lss 7 6] [5,6,7,8]) (.seq (kEx 8 0) (.seq (.block 1 (.seq (rT [oIa 9 5 7,oLf 10 9,oP 4 aZ [],oSf 4 10] [4,
 5,6,7]) (.seq (rT [oLf 11 4,oCl 12 45 [.t 11],oUn 13 .not 12] [5,6,7,13]) (kRt 13 [oP 2 .mv [cBo false]] [2])))) (rT [oBc 14 .add 7 1,oMv 7 14] [5,6,7]))))))) (.seq (rT [oP 2 .mv [cBo true]] [2]) .ret))
def g80:AFn:=⟨1,[(2,none)],c80,false,[],[],none⟩
theorem tr80:trFn Tryz.prog false 80 Tryz.f80=some g80:=by kernel_rfl
def c81:ACode:=.seq (rT [oP 4 (.nilsl (some 4)) []] [0,1]) (.seq (rT [oMv 8 0,oUn 9 .len 8,oP 10 (.mkslice (some 4) (.agg [(none,.int .i64 0),(none,.int .i64 0),(none,.str []),(none,.sl (some 4) [])])) [cIn 0,.t 9],oMv 5 10] [0,1,5]) (.seq (.seq (rT [oMv 11 0,
 oUn 12 .len 11,oP 13 .mv [cIn 0]] [1,5,11,12,13]) (.block 0 (.loop [1,5,11,12,13] (.seq (rT [oBi 14 .lss 13 12] [1,5,11,12,13,14]) (.seq (kEx 14 0) (.seq (.block 1 (.seq (rT [oIa 15 11 13,oLf 16 15,oP 7 aZ [],oSf 7 16] [1,5,7,11,12,13]) (rT [oMv 17 5,
 oLf 18 7,oCl 19 38 [.t 18],oUn 20 (.bslice (some 4)) 19,oP 21 (.append (some 4)) [.t 17,.t 20],oMv 5 21] [1,5,11,12,13]))) (rT [oBc 22 .add 13 1,oMv 13 22] [1,5,11,12,13]))))))) (.seq (rT [oMv 23 5,oMv 24 1,oCl 25 115 [.t 23,.t 24]] [5]) (.seq (rT [oMv 26 5,
 oMv 4 26] [4]) .ret))))
def g81:AFn:=⟨2,[(4,none)],c81,true,[],[],none⟩
theorem tr81:trFn Tryz.prog true 81 Tryz.f81=some g81:=by kernel_rfl
def c82:ACode:=.seq (rT [oBx 2 0,oBx 3 1,oP 4 .mv [cIn 0]] [2,3]) (.seq (rT [oFa 5 3 2,oLo 6 5,oP 7 (.iaddr (some 4)) [.t 6,cIn 0],oLf 8 7,oFa 9 3 3,oLo 10 9,oP 11 (.iaddr (some 4)) [.t 10,cIn 0],oLf 12 11,oCl 13 83 [.t 8,.t 12],oMv 4 13] [4]) .ret)
def g82:AFn:=⟨2,[(4,none)],c82,false,[],[],none⟩
theorem tr82:trFn Tryz.prog false 82 Tryz.f82=some g82:=by kernel_rfl
def c83r0:LO:=[oBx 2 0,oBx 3 1,oP 4 .mv [cIn 0]]
def c83r1:LO:=[oP 12 (.build [(none,.pv none (.int .i64 0)),(none,.pv none (.int .i64 0)),(none,.pv none (.int .i64 0)),(none,.pv none (.int .i64 0))] [0,1,2,3]) [cIn 0,cIn 1,cIn 2,cIn 3],oP 5 (.alloc (some 4) (.pv (some 4) (.agg [(none,.int .i64 0),
 (none,.int .i64 0),(none,.int .i64 0),(none,.int .i64 0)]))) [],oSf 5 12]
def c83r2:LO:=[oFa 13 0 2,oLo 14 13,oP 15 (.iaddrA none 4) [.t 5,.t 14],oLo 16 15,oFa 17 0 3,oLo 18 17,oP 19 (.iaddrA none 4) [.t 5,.t 18],oLo 20 19,oCl 21 116 [.t 16,.t 20],oMv 6 21]
def c83r3:LO:=[oMv 22 6,oBc 23 .neq 22 0]
def c83r4:LO:=[oMv 24 6,oMv 4 24]
def c83k5:ACode:=kRt 23 c83r4 [4]
def c83r6:LO:=[oFa 25 0 2,oLo 26 25,oBc 27 .eql 26 0,oMv 28 27,oG 29 (.faddr 0) [.t 2] 28 false,oG 30 (.load none) [.t 29] 28 false,oG 31 (.bin .eql) [.t 30,cIn 1] 28 false,oP 32 .pick [.t 28,cBo true,.t 31]]
def c83r7:LO:=[oFa 33 1 2,oLo 34 33,oFa 35 1 3,oLo 36 35,oCl 37 117 [.t 34,.t 36],oMv 4 37]
def c83k8:ACode:=kRt 32 c83r7 [4]
def c83r9:LO:=[oFa 38 3 2,oLo 39 38,oUn 40 .len 39,oFa 41 3 3,oLo 42 41,oUn 43 .len 42,oCl 44 116 [.t 40,.t 43],oMv 7 44]
def c83r10:LO:=[oMv 45 7,oBc 46 .neq 45 0]
def c83r11:LO:=[oMv 47 7,oMv 4 47]
def c83k12:ACode:=kRt 46 c83r11 [4]
def c83r13:LO:=[oFa 48 2 2,oLo 49 48,oFa 50 2 3,oLo 51 50,oCl 52 118 [.t 49,.t 51],oMv 8 52]
def c83r14:LO:=[oMv 53 8,oBc 54 .neq 53 0]
def c83r15:LO:=[oMv 55 8,oMv 4 55]
def c83k16:ACode:=kRt 54 c83r15 [4]
def c83r17:LO:=[oFa 56 3 2,oLo 57 56,oUn 58 .len 57,oP 59 .mv [cIn 0]]
def c83r18:LO:=[oBi 60 .lss 59 58]
def c83k19:ACode:=kEx 60 0
def c83r20:LO:=[oMv 61 59,oIa 62 57 59,oLf 63 62,oP 10 aZ [],oMv 9 61,oSf 10 63]
def c83r21:LO:=[oLf 64 10,oFa 65 3 3,oLo 66 65,oMv 67 9,oIa 68 66 67,oLf 69 68,oCl 70 83 [.t 64,.t 69],oMv 11 70]
def c83r22:LO:=[oMv 71 11,oBc 72 .neq 71 0]
def c83r23:LO:=[oMv 73 11,oMv 4 73]
def c83k24:ACode:=kRt 72 c83r23 [4]
def c83k25:ACode:=.block 1 (.seq (rT c83r20 [3,9,10,57,58,59]) (.seq (rT c83r21 [3,11,57,58,59]) (.seq (rT c83r22 [3,11,57,58,59,72]) c83k24)))
def c83r26:LO:=[oBc 74 .add 59 1,oMv 59 74]
def c83b27:ACode:=.seq (rT c83r18 [3,57,58,59,60]) (.seq c83k19 (.seq c83k25 (rT c83r26 [3,57,58,59])))
def c83k28:ACode:=.block 0 (.loop [3,57,58,59] c83b27)
def c83r29:LO:=[oP 4 .mv [cIn 0]]
def c83:ACode:=.seq (rT c83r0 [2,3]) (.seq (rT c83r1 [2,3,5]) (.seq (.seq (rT c83r2 [2,3,6]) (.seq (rT c83r3 [2,3,6,23]) c83k5)) (.seq (.seq (rT c83r6 [2,3,32]) c83k8) (.seq (.seq (rT c83r9 [2,3,7]) (.seq (rT c83r10 [2,3,7,46]) c83k12)) (.seq (.seq (rT c83r13 [2,
 3,8]) (.seq (rT c83r14 [2,3,8,54]) c83k16)) (.seq (.seq (rT c83r17 [3,57,58,59]) c83k28) (.seq (rT c83r29 [4]) .ret)))))))
def g83:AFn:=⟨2,[(4,none)],c83,false,[],[],none⟩
theorem tr83:trFn Tryz.prog false 83 Tryz.f83=some g83:=by kernel_rfl
def c84r0:LO:=[oBx 2 0,oBx 3 1,oP 4 .mv [cBo false]]
def c84r1:LO:=[oFa 7 0 2,oLo 8 7,oFa 9 0 3,oLo 10 9,oBi 11 .neq 8 10,oMv 12 11,oG 13 (.faddr 1) [.t 2] 12 false,oG 14 (.load none) [.t 13] 12 false,oG 15 (.faddr 1) [.t 3] 12 false,oG 16 (.load none) [.t 15] 12 false,oG 17 (.bin .neq) [.t 14,.t 16] 12 false,
 oP 18 .pick [.t 12,cBo true,.t 17],oMv 19 18,oG 20 (.faddr 2) [.t 2] 19 false,oG 21 (.load none) [.t 20] 19 false,oG 22 (.faddr 2) [.t 3] 19 false,oG 23 (.load none) [.t 22] 19 false,oG 24 (.bin .neq) [.t 21,.t 23] 19 false,oP 25 .pick [.t 19,
 cBo true,.t 24],oMv 26 25,oG 27 (.faddr 3) [.t 2] 26 false,oG 28 (.load none) [.t 27] 26 false,oG 29 .len [.t 28] 26 false,oG 30 (.faddr 3) [.t 3] 26 false,oG 31 (.load none) [.t 30] 26 false,oG 32 .len [.t 31] 26 false,oG 33 (.bin .neq) [.t 29,
 .t 32] 26 false,oP 34 .pick [.t 26,cBo true,.t 33]]
def c84r2:LO:=[oP 4 .mv [cBo false]]
def c84k3:ACode:=kRt 34 c84r2 [4]
def c84r4:LO:=[oFa 35 3 2,oLo 36 35,oUn 37 .len 36,oP 38 .mv [cIn 0]]
def c84r5:LO:=[oBi 39 .lss 38 37]
def c84k6:ACode:=kEx 39 0
def c84r7:LO:=[oMv 40 38,oIa 41 36 38,oLf 42 41,oP 6 aZ [],oMv 5 40,oSf 6 42]
def c84r8:LO:=[oLf 43 6,oFa 44 3 3,oLo 45 44,oMv 46 5,oIa 47 45 46,oLf 48 47,oCl 49 84 [.t 43,.t 48],oUn 50 .not 49]
def c84r9:LO:=[oP 4 .mv [cBo false]]
def c84k10:ACode:=kRt 50 c84r9 [4]
def c84k11:ACode:=.block 1 (.seq (rT c84r7 [3,5,6,36,37,38]) (.seq (rT c84r8 [3,36,37,38,50]) c84k10))
def c84r12:LO:=[oBc 51 .add 38 1,oMv 38 51]
def c84b13:ACode:=.seq (rT c84r5 [3,36,37,38,39]) (.seq c84k6 (.seq c84k11 (rT c84r12 [3,36,37,38])))
def c84k14:ACode:=.block 0 (.loop [3,36,37,38] c84b13)
def c84r15:LO:=[oP 4 .mv [cBo true]]
def c84:ACode:=.seq (rT c84r0 [2,3]) (.seq (.seq (rT c84r1 [2,3,34]) c84k3) (.seq (.seq (rT c84r4 [3,36,37,38]) c84k14) (.seq (rT c84r15 [4]) .ret)))
def g84:AFn:=⟨2,[(4,none)],c84,false,[],[],none⟩
theorem tr84:trFn Tryz.prog false 84 Tryz.f84=some g84:=by kernel_rfl
def c85p8:ACode:=(.seq (rT [oMv 23 0,oCl 24 121 [.t 23],oP 25 (.build [(none,.tsl (some 5) [])] [0]) [.t 24],oUn 26 (.box (some 1)) 25,oMv 8 26] [4,5,6,7,8]) (.seq (rT [oMv 27 8,oLf 28 4,oLf 29 5,oCl 30 122 [.t 27,.t 28,.t 29]] [6,7,8]) (.seq (rT [oMv 31 8,
 oUn 32 .nilcheck 31,oFa 33 0 32,oLo 34 33,oSo 6 34,⟨none,(.store none),[.t 7,cIn 0],none⟩] [6,7]) (.seq .ret .skip))))
def c85:ACode:=.seq (rT [oBx 4 1,oBx 5 2,oP 6 (.alloc none (.tsl (some 5) [])) [],oP 7 (.alloc none (.pv none (.int .i64 0))) []] [0,4,5,6,7]) (.seq (rT [oMv 9 0,oCl 10 119 [.t 9],oUn 11 .not 10,oMv 12 11,oG 13 (.load (some 4)) [.t 4] 12 false,oG 14 .call [cFn 45,
 .t 13] 12 false,oG 15 .not [.t 14] 12 false,oP 16 .pick [.t 12,cBo true,.t 15],oMv 17 16,oG 18 (.load (some 4)) [.t 5] 17 false,oG 19 .call [cFn 45,.t 18] 17 false,oG 20 .not [.t 19] 17 false,oP 21 .pick [.t 17,cBo true,.t 20]] [0,4,5,6,7,21]) (.seq (kRt 21 [⟨none,
 (.store none),[.t 6,.c (.tsl (some 5) [])],none⟩,⟨none,(.store none),[.t 7,cIn 1],none⟩] [6,7]) (rT [oP 22 (.mkfunc (.func 120) 0) [.t 6,.t 7]] [0,4,5,6,7,22])))
def g85:AFn:=⟨3,[(6,some none),(7,some none)],c85,false,[(.dfr 22,c85p8)],[],none⟩
theorem tr85:trFn Tryz.prog false 85 Tryz.f85=some g85:=by kernel_rfl
def c86:ACode:=.seq (rT [oBx 3 1,oP 4 aZ [],oP 5 .mv [cIn 0]] [0,3,4]) (.seq (.seq (rT [oMv 6 0,oCl 7 119 [.t 6],oUn 8 .not 7,oMv 9 8,oG 10 (.load (some 4)) [.t 3] 9 false,oG 11 .call [cFn 45,.t 10] 9 false,oG 12 .not [.t 11] 9 false,oP 13 .pick [.t 9,cBo true,
 .t 12]] [0,3,4,13]) (kRt 13 [oP 14 (bZ []) [],oSf 4 14,oP 5 .mv [cIn 1]] [4,5])) (.seq (.seq (rT [oMv 15 0,oLf 16 3,oP 17 (.mkmap none) [],oCl 18 123 [.t 15,.t 16,.t 17],oBc 19 .gtr 18 2000] [0,3,4,19]) (kRt 19 [oP 20 (bZ []) [],oSf 4 20,oP 5 .mv [cIn 2]] [4,
 5])) (.seq (rT [oMv 21 0,oLf 22 3,oCl 23 124 [.t 21,.t 22],oSf 4 23,oP 5 .mv [cIn 0]] [4,5]) .ret)))
def g86:AFn:=⟨2,[(4,some (some 4)),(5,none)],c86,false,[],[],none⟩
theorem tr86:trFn Tryz.prog false 86 Tryz.f86=some g86:=by kernel_rfl
def c87:ACode:=.seq (rT [oBx 1 0,oP 2 .mv [cIn 0]] [1]) (.seq (rT [oP 3 (.alloc none (.pv none (.int .i64 0))) [],⟨none,(.store none),[.t 3,cIn 2001],none⟩] [1,3]) (.seq (rT [oP 4 (.alloc none (.pv none .nilfunc)) []] [1,3,4]) (.seq (rT [oP 5 (.mkfunc (.func 125) 0) [.t 3,
 .t 4],oSo 4 5] [1,3,4]) (.seq (rT [oLo 6 4,oLf 7 1,oP 8 .call [.t 6,.t 7]] [3]) (.seq (rT [oLo 9 3,oP 10 (.bin .sub) [cIn 2001,.t 9],oMv 2 10] [2]) .ret)))))
def g87:AFn:=⟨1,[(2,none)],c87,false,[],[],none⟩
theorem tr87:trFn Tryz.prog false 87 Tryz.f87=some g87:=by kernel_rfl
def c88:ACode:=.seq (rT [oBx 2 0,oP 4 aZ []] [1,2,4]) (.seq (.seq (rT [oFa 8 0 2,oLo 9 8,oBc 10 .eql 9 0] [1,2,4,10]) (kRt 10 [oMv 11 1,oLf 12 2,oP 13 .call [.t 11,.t 12],oSf 4 13] [4])) (.seq (rT [oFa 14 0 2,oLo 15 14,oFa 16 1 2,oLo 17 16,oFa 18 2 2,oLo 19 18,
 oP 20 (bZ [0,1,2]) [.t 15,.t 17,.t 19],oP 5 aZ [],oSf 5 20] [1,2,4,5]) (.seq (.seq (rT [oFa 21 3 2,oLo 22 21,oUn 23 .len 22,oP 24 .mv [cIn 0]] [1,4,5,22,23,24]) (.block 0 (.loop [1,4,5,22,23,24] (.seq (rT [oBi 25 .lss 24 23] [1,4,5,22,23,24,
 25]) (.seq (kEx 25 0) (.seq (.block 1 (.seq (rT [oIa 26 22 24,oLf 27 26,oP 7 aZ [],oSf 7 27] [1,4,5,7,22,23,24]) (.region false [oFa 28 3 5,oLo 29 28,oLf 30 7,oMv 31 1,oP 32 (.calln 1) [.t 28,cFn 88,.t 30,.t 31],oP 33 (.bslicen (some 4) 1) [.t 28,
 .t 32],oP 34 (.append (some 4)) [.t 29,.t 33],oFa 35 3 5,oSo 35 34] [1,4,5,22,23,24]))) (rT [oBc 36 .add 24 1,oMv 24 36] [1,4,5,22,23,24]))))))) (.seq (rT [oLf 37 5,oSf 4 37] [4]) .ret))))
def g88:AFn:=⟨2,[(4,some (some 4))],c88,true,[],[],none⟩
theorem tr88:trFn Tryz.prog true 88 Tryz.f88=some g88:=by kernel_rfl
def c89:ACode:=.seq (rT [oBx 1 0,oP 2 aZ []] [1,2]) (.seq (rT [oLf 3 1,oSf 2 3] [2]) .ret)
def g89:AFn:=⟨1,[(2,some (some 4))],c89,false,[],[],none⟩
theorem tr89:trFn Tryz.prog false 89 Tryz.f89=some g89:=by kernel_rfl
def c90:ACode:=.seq (rT [oBx 1 0,oP 2 aZ []] [1,2]) (.seq (.seq (rT [oLf 3 1,oCl 4 43 [.t 3],oUn 5 .not 4] [1,2,5]) (kRt 5 [oP 6 (bZ []) [],oSf 2 6] [2])) (.seq (.seq (.settle [1]) (rT [oLf 7 1,oP 8 .callp [cFn 113,.c (.tsl none []),.t 7],oLf 9 1,oP 10 .callp [cFn 126,
 .t 8,.t 9],oSf 2 10] [2])) .ret))
def g90:AFn:=⟨1,[(2,some (some 4))],c90,false,[],[],none⟩
theorem tr90:trFn Tryz.prog false 90 Tryz.f90=some g90:=by kernel_rfl
def c91r0:LO:=[oP 2 .mv [cBo false]]
def c91r1:LO:=[oP 3 .mv [cIn 0]]
def c91r2:LO:=[oMv 8 3,oMv 9 0,oUn 10 .len 9,oBi 11 .lss 8 10]
def c91k3:ACode:=kEx 11 0
def c91r4:LO:=[oMv 14 0,oMv 15 3,oP 16 (.iaddr (some 5)) [.t 14,.t 15],oFa 17 0 16,oLo 18 17,oBc 19 .lss 18 0,oMv 20 19,oG 21 .mv [.t 0] 20 false,oG 22 .mv [.t 3] 20 false,oG 23 (.iaddr (some 5)) [.t 21,.t 22] 20 false,oG 24 (.faddr 0) [.t 23] 20 false,oG 25 (.load none) [.t 24] 20 false,
 oG 26 (.bin .gtr) [.t 25,cIn 1099511627776] 20 false,oP 27 .pick [.t 20,cBo true,.t 26],oMv 28 27,oG 29 .mv [.t 3] 28 false,oG 30 (.bin .gtr) [.t 29,cIn 0] 28 false,oG 31 .mv [.t 30] 28 false,oG 32 .mv [.t 0] 31 true,oG 33 .mv [.t 3] 31 true,
 oG 34 (.bin .sub) [.t 33,cIn 1] 31 true,oG 35 (.iaddr (some 5)) [.t 32,.t 34] 31 true,oG 36 (.faddr 0) [.t 35] 31 true,oG 37 (.load none) [.t 36] 31 true,oG 38 .mv [.t 0] 31 true,oG 39 .mv [.t 3] 31 true,oG 40 (.iaddr (some 5)) [.t 38,.t 39] 31 true,
 oG 41 (.faddr 0) [.t 40] 31 true,oG 42 (.load none) [.t 41] 31 true,oG 43 (.bin .geq) [.t 37,.t 42] 31 true,oG 44 .pick [.t 31,.t 43,cBo false] 28 false,oP 45 .pick [.t 28,cBo true,.t 44],oMv 46 45,oG 47 .mv [.t 0] 46 false,oG 48 .mv [.t 3] 46 false,
 oG 49 (.iaddr (some 5)) [.t 47,.t 48] 46 false,oG 50 (.faddr 1) [.t 49] 46 false,oG 51 (.load (some 4)) [.t 50] 46 false,oG 52 .call [cFn 43,.t 51] 46 false,oG 53 .not [.t 52] 46 false,oP 54 .pick [.t 46,cBo true,.t 53]]
def c91r5:LO:=[oP 2 .mv [cBo false]]
def c91k6:ACode:=kRt 54 c91r5 [2]
def c91k7:ACode:=.block 1 (.seq (rT c91r4 [0,3,54]) c91k6)
def c91r8:LO:=[oMv 12 3,oBc 13 .add 12 1,oMv 3 13]
def c91b9:ACode:=.seq (.seq (rT c91r2 [0,3,11]) c91k3) (.seq c91k7 (rT c91r8 [0,3]))
def c91k10:ACode:=.block 0 (.loop [0,3] c91b9)
def c91r11:LO:=[oMv 55 0,oUn 56 .len 55,oP 57 (.mkslice none (.bool false)) [.t 56,.t 56],oMv 4 57]
def c91r12:LO:=[oMv 58 0,oUn 59 .len 58,oMv 5 59]
def c91r13:LO:=[oMv 60 5,oBc 61 .gtr 60 0]
def c91k14:ACode:=kEx 61 2
def c91r15:LO:=[oMv 62 5,oMv 6 62]
def c91r16:LO:=[oP 7 .mv [cIn 0]]
def c91r17:LO:=[oMv 63 7,oMv 64 0,oUn 65 .len 64,oBi 66 .lss 63 65]
def c91k18:ACode:=kEx 66 4
def c91r19:LO:=[oMv 69 4,oMv 70 7,oP 71 (.iaddr none) [.t 69,.t 70],oLo 72 71,oUn 73 .not 72,oMv 74 73,oG 75 .mv [.t 0] 74 true,oG 76 .mv [.t 4] 74 true,oG 77 .mv [.t 0] 74 true,oG 78 .mv [.t 7] 74 true,oG 79 (.iaddr (some 5)) [.t 77,.t 78] 74 true,oG 80 (.faddr 1) [.t 79] 74 true,
 oG 81 (.load (some 4)) [.t 80] 74 true,oG 82 .call [cFn 127,.t 75,.t 76,.t 81] 74 true,oP 83 .pick [.t 74,.t 82,cBo false]]
def c91r20:LO:=[oMv 84 4,oMv 85 7,oP 86 (.iaddr none) [.t 84,.t 85],⟨none,(.store none),[.t 86,cBo true],none⟩]
def c91r21:LO:=[oMv 87 5,oBc 88 .sub 87 1,oMv 5 88]
def c91k22:ACode:=.cond (.t 83) (.seq (rT c91r20 [0,4,5,6,7]) (rT c91r21 [0,4,5,6,7])) .skip
def c91k23:ACode:=.block 5 (.seq (rT c91r19 [0,4,5,6,7,83]) c91k22)
def c91r24:LO:=[oMv 67 7,oBc 68 .add 67 1,oMv 7 68]
def c91b25:ACode:=.seq (.seq (rT c91r17 [0,4,5,6,7,66]) c91k18) (.seq c91k23 (rT c91r24 [0,4,5,6,7]))
def c91k26:ACode:=.block 4 (.loop [0,4,5,6,7] c91b25)
def c91r27:LO:=[oMv 89 5,oMv 90 6,oBi 91 .eql 89 90]
def c91r28:LO:=[oP 2 .mv [cBo false]]
def c91k29:ACode:=kRt 91 c91r28 [2]
def c91k30:ACode:=.block 3 (.seq (rT c91r15 [0,4,5,6]) (.seq (.seq (rT c91r16 [0,4,5,6,7]) c91k26) (.seq (rT c91r27 [0,4,5,91]) c91k29)))
def c91b31:ACode:=.seq (.seq (rT c91r13 [0,4,5,61]) c91k14) c91k30
def c91k32:ACode:=.block 2 (.loop [0,4,5] c91b31)
def c91r33:LO:=[oP 2 .mv [cBo true]]
def c91:ACode:=.seq (rT c91r0 [0]) (.seq (.seq (rT c91r1 [0,3]) c91k10) (.seq (rT c91r11 [0,4]) (.seq (rT c91r12 [0,4,5]) (.seq c91k32 (.seq (rT c91r33 [2]) .ret)))))
def g91:AFn:=⟨1,[(2,none)],c91,false,[],[],none⟩
theorem tr91:trFn Tryz.prog false 91 Tryz.f91=some g91:=by kernel_rfl
def c92:ACode:=.seq (rT [oBx 4 1,oBx 5 2,oP 6 (.nilsl (some 5)) [],oP 7 .mv [cIn 0],oP 8 .mv [cIn 0]] [0,4,5]) (.seq (rT [oMv 11 0,oP 12 (.build [(none,.tsl (some 5) []),(none,.pv none (.int .i64 0))] [0]) [.t 11],oUn 13 (.box (some 2)) 12,oMv 9 13] [4,
 5,9]) (.seq (rT [oMv 14 9,oLf 15 4,oLf 16 5,oCl 17 128 [.t 14,.t 15,.t 16],oMv 10 17] [9,10]) (.seq (.seq (rT [oMv 18 10,oBc 19 .neq 18 0] [9,10,19]) (kRt 19 [oMv 20 9,oUn 21 .nilcheck 20,oFa 22 1 21,oLo 23 22,oMv 24 10,oP 6 (.nilsl (some 5)) [],
 oMv 7 23,oMv 8 24] [6,7,8])) (.seq (rT [oMv 25 9,oUn 26 .nilcheck 25,oFa 27 0 26,oLo 28 27,oMv 29 9,oUn 30 .nilcheck 29,oFa 31 1 30,oLo 32 31,oMv 6 28,oMv 7 32,oP 8 .mv [cIn 0]] [6,7,8]) .ret))))
def g92:AFn:=⟨3,[(6,none),(7,none),(8,none)],c92,false,[],[],none⟩
theorem tr92:trFn Tryz.prog false 92 Tryz.f92=some g92:=by kernel_rfl
def c93:ACode:=.seq (rT [oBx 1 0,oP 2 .mv [cIn 0]] [1]) (.seq (rT [oLf 3 1,oCl 4 129 [.t 3,cIn 2001],oMv 2 4] [2]) .ret)
def g93:AFn:=⟨1,[(2,none)],c93,false,[],[],none⟩
theorem tr93:trFn Tryz.prog false 93 Tryz.f93=some g93:=by kernel_rfl
def c94:ACode:=.seq (rT [oBx 1 0,oP 2 .mv [cBo false]] [1]) (.seq (.seq (rT [oLf 4 1,oCl 5 130 [.t 4],oUn 6 .not 5] [1,6]) (kRt 6 [oP 2 .mv [cBo false]] [2])) (.seq (.seq (rT [oP 3 .mv [cIn 0]] [1,3]) (.block 0 (.loop [1,3] (.seq (.seq (rT [oMv 7 3,oFa 8 3 1,
 oLo 9 8,oUn 10 .len 9,oBi 11 .lss 7 10] [1,3,11]) (kEx 11 0)) (.seq (.block 1 (.seq (rT [oFa 14 3 1,oLo 15 14,oMv 16 3,oIa 17 15 16,oLf 18 17,oCl 19 94 [.t 18],oUn 20 .not 19] [1,3,20]) (kRt 20 [oP 2 .mv [cBo false]] [2]))) (rT [oMv 12 3,oBc 13 .add 12 1,
 oMv 3 13] [1,3])))))) (.seq (rT [oP 2 .mv [cBo true]] [2]) .ret)))
def g94:AFn:=⟨1,[(2,none)],c94,false,[],[],none⟩
theorem tr94:trFn Tryz.prog false 94 Tryz.f94=some g94:=by kernel_rfl
def c95:ACode:=.seq (rT [oBx 3 1,oP 4 aZ [],oP 5 .mv [cBo false]] [0,3,4]) (.seq (rT [oMv 9 0,oLf 10 3,oCl 11 131 [.t 9,.t 10,cIn 2000],oMv 8 11,oEx 12 0 8,oEx 13 1 8,oP 6 aZ [],oSf 6 12,oMv 7 13] [4,6,7]) (.seq (.seq (rT [oMv 14 7,oBc 15 .lss 14 0] [4,6,15]) (kRt 15 [oP 16 (bZ []) [],
 oSf 4 16,oP 5 .mv [cBo false]] [4,5])) (.seq (rT [oLf 17 6,oSf 4 17,oP 5 .mv [cBo true]] [4,5]) .ret)))
def g95:AFn:=⟨2,[(4,some (some 4)),(5,none)],c95,false,[],[],none⟩
theorem tr95:trFn Tryz.prog false 95 Tryz.f95=some g95:=by kernel_rfl
def c96r0:LO:=[oBx 1 0,oP 2 .mv [cBo false]]
def c96r1:LO:=[oP 3 .mv [cBo false]]
def c96r2:LO:=[oFa 5 0 1,oLo 6 5]
def c96r3:LO:=[oBc 8 .eql 6 0,oMv 7 8]
def c96r4:LO:=[oFa 9 1 1,oLo 10 9,oBc 11 .geq 10 0,oMv 12 11,oG 13 (.faddr 1) [.t 1] 12 true,oG 14 (.load none) [.t 13] 12 true,oG 15 (.bin .leq) [.t 14,cIn 1099511627776] 12 true,oP 16 .pick [.t 12,.t 15,cBo false],oMv 17 16,oG 18 (.faddr 2) [.t 1] 17 true,
 oG 19 (.load none) [.t 18] 17 true,oG 20 (.bin .eql) [.t 19,cSt []] 17 true,oP 21 .pick [.t 17,.t 20,cBo false],oMv 22 21,oG 23 (.faddr 3) [.t 1] 22 true,oG 24 (.load none) [.t 23] 22 true,oG 25 .len [.t 24] 22 true,oG 26 (.bin .eql) [.t 25,
 cIn 0] 22 true,oP 27 .pick [.t 22,.t 26,cBo false],oMv 3 27]
def c96r5:LO:=[oBc 29 .eql 6 1,oMv 28 29]
def c96r6:LO:=[oFa 30 2 1,oLo 31 30,oP 32 (.bin .eql) [.t 31,cSt []],oMv 33 32,oG 34 (.faddr 3) [.t 1] 33 true,oG 35 (.load none) [.t 34] 33 true,oG 36 .len [.t 35] 33 true,oG 37 (.bin .eql) [.t 36,cIn 0] 33 true,oP 38 .pick [.t 33,.t 37,cBo false],oMv 3 38]
def c96r7:LO:=[oBc 40 .eql 6 2,oMv 39 40]
def c96r8:LO:=[oFa 41 1 1,oLo 42 41,oBc 43 .eql 42 0,oMv 44 43,oG 45 (.faddr 2) [.t 1] 44 true,oG 46 (.load none) [.t 45] 44 true,oG 47 .slen [.t 46] 44 true,oG 48 (.bin .leq) [.t 47,cIn 100] 44 true,oP 49 .pick [.t 44,.t 48,cBo false],oMv 50 49,oG 51 (.faddr 3) [.t 1] 50 true,
 oG 52 (.load none) [.t 51] 50 true,oG 53 .len [.t 52] 50 true,oG 54 (.bin .eql) [.t 53,cIn 0] 50 true,oP 55 .pick [.t 50,.t 54,cBo false],oMv 3 55]
def c96r9:LO:=[oBc 57 .eql 6 3,oMv 56 57]
def c96r10:LO:=[oFa 58 1 1,oLo 59 58,oBc 60 .eql 59 0,oMv 61 60,oG 62 (.faddr 2) [.t 1] 61 true,oG 63 (.load none) [.t 62] 61 true,oG 64 .slen [.t 63] 61 true,oG 65 (.bin .leq) [.t 64,cIn 100] 61 true,oP 66 .pick [.t 61,.t 65,cBo false],oMv 67 66,oG 68 (.faddr 3) [.t 1] 67 true,
 oG 69 (.load none) [.t 68] 67 true,oG 70 .len [.t 69] 67 true,oG 71 (.bin .gtr) [.t 70,cIn 0] 67 true,oP 72 .pick [.t 67,.t 71,cBo false],oMv 73 72,oG 74 (.faddr 3) [.t 1] 73 true,oG 75 (.load none) [.t 74] 73 true,oG 76 .len [.t 75] 73 true,
 oG 77 (.bin .leq) [.t 76,cIn 8] 73 true,oP 78 .pick [.t 73,.t 77,cBo false],oMv 3 78]
def c96k11:ACode:=.cond (.t 56) (rT c96r10 [1,3]) .skip
def c96k12:ACode:=.cond (.t 39) (rT c96r8 [1,3]) (.seq (rT c96r9 [1,3,56]) c96k11)
def c96k13:ACode:=.cond (.t 28) (rT c96r6 [1,3]) (.seq (rT c96r7 [1,3,6,39]) c96k12)
def c96k14:ACode:=.cond (.t 7) (rT c96r4 [1,3]) (.seq (rT c96r5 [1,3,6,28]) c96k13)
def c96k15:ACode:=.block 0 (.seq (rT c96r3 [1,3,6,7]) c96k14)
def c96r16:LO:=[oP 4 .mv [cIn 0]]
def c96r17:LO:=[oMv 79 4,oFa 80 3 1,oLo 81 80,oUn 82 .len 81,oBi 83 .lss 79 82,oMv 84 83,oG 85 .mv [.t 3] 84 true,oP 86 .pick [.t 84,.t 85,cBo false]]
def c96k18:ACode:=kEx 86 1
def c96r19:LO:=[oFa 89 3 1,oLo 90 89,oMv 91 4,oIa 92 90 91,oLf 93 92,oCl 94 96 [.t 93],oMv 3 94]
def c96k20:ACode:=.block 2 (rT c96r19 [1,3,4])
def c96r21:LO:=[oMv 87 4,oBc 88 .add 87 1,oMv 4 88]
def c96b22:ACode:=.seq (.seq (rT c96r17 [1,3,4,86]) c96k18) (.seq c96k20 (rT c96r21 [1,3,4]))
def c96k23:ACode:=.block 1 (.loop [1,3,4] c96b22)
def c96r24:LO:=[oMv 95 3,oMv 2 95]
def c96:ACode:=.seq (rT c96r0 [1]) (.seq (rT c96r1 [1,3]) (.seq (.seq (rT c96r2 [1,3,6]) c96k15) (.seq (.seq (rT c96r16 [1,3,4]) c96k23) (.seq (rT c96r24 [2]) .ret))))
def g96:AFn:=⟨1,[(2,none)],c96,false,[],[],none⟩
theorem tr96:trFn Tryz.prog false 96 Tryz.f96=some g96:=by kernel_rfl
def c97:ACode:=.seq (rT [oBx 2 0,oP 3 aZ []] [1,2,3]) (.seq (rT [oLo 7 1,oFa 8 1 2,oLo 9 8,oP 10 (.lookup false none (.pv none (.int .i64 0)) true) [.t 7,.t 9],oMv 6 10,oEx 11 0 6,oEx 12 1 6,oMv 4 11,oMv 5 12] [1,2,3,4,5]) (.seq (.seq (rT [oMv 13 5,oUn 14 .not 13] [1,
 2,3,4,14]) (.cond (.t 14) (.seq (rT [oLo 15 1,oUn 16 .mlen 15,oMv 4 16] [1,2,3,4]) (rT [oLo 17 1,oFa 18 1 2,oLo 19 18,oMv 20 4,⟨none,(.mapset false none),[.t 17,.t 19,.t 20],none⟩] [3,4])) .skip)) (.seq (rT [oMv 21 4,oP 22 (bZ [1]) [.t 21],oSf 3 22] [3]) .ret)))
def g97:AFn:=⟨2,[(3,some (some 4))],c97,true,[],[],none⟩
theorem tr97:trFn Tryz.prog true 97 Tryz.f97=some g97:=by kernel_rfl
def c98:ACode:=.seq (rT [oBx 1 0,oP 2 (.nilsl (some 4)) [],oP 3 aZ [],oP 4 .mv [cBo false]] [1,2,3]) (.seq (.seq (rT [oLf 6 1,oCl 7 45 [.t 6],oUn 8 .not 7] [1,2,3,8]) (kRt 8 [oP 9 (bZ []) [],oP 2 (.nilsl (some 4)) [],oSf 3 9,oP 4 .mv [cBo false]] [2,3,4])) (.seq (rT [oLf 10 1,
 oP 5 aZ [],oSf 5 10] [1,2,3,5]) (.seq .skip (.seq (.block 0 (.loop [1,2,3,5] ((.block 1 (.block 2 (.seq (rT [oFa 12 0 5,oLo 13 12,oBc 14 .eql 13 3,oMv 15 14,oG 16 (.faddr 2) [.t 5] 15 true,oG 17 (.load none) [.t 16] 15 true,oG 18 (.bin .eql) [.t 17,
 cSt [46]] 15 true,oP 19 .pick [.t 15,.t 18,cBo false],oMv 20 19,oG 21 (.faddr 3) [.t 5] 20 true,oG 22 (.load none) [.t 21] 20 true,oG 23 .len [.t 22] 20 true,oG 24 (.bin .eql) [.t 23,cIn 2] 20 true,oP 25 .pick [.t 20,.t 24,cBo false],oMv 11 25] [1,
 2,3,5,11]) (.cond (.t 11) (.seq (rT [oMv 26 2,oFa 27 3 5,oLo 28 27,oP 29 (.iaddr (some 4)) [.t 28,cIn 0],oLf 30 29,oCl 31 38 [.t 30],oUn 32 (.bslice (some 4)) 31,oP 33 (.append (some 4)) [.t 26,.t 32],oMv 2 33] [1,2,3,5]) (rT [oFa 34 3 5,oLo 35 34,
 oP 36 (.iaddr (some 4)) [.t 35,cIn 1],oLf 37 36,oSf 5 37] [1,2,3,5])) (.exit 0)))))))) (.seq (.block 3 (.seq (rT [oFa 39 0 5,oLo 40 39,oBc 41 .eql 40 0,oMv 38 41] [1,2,3,5,38]) (.cond (.t 38) (.seq (rT [oCl 42 68 [],oP 2 (.nilsl (some 4)) [],
 oSf 3 42,oP 4 .mv [cBo false]] [2,3,4]) .ret) (.seq (rT [oFa 44 0 5,oLo 45 44,oBc 46 .eql 45 2,oMv 47 46,oG 48 (.faddr 2) [.t 5] 47 true,oG 49 (.load none) [.t 48] 47 true,oG 50 (.bin .eql) [.t 49,cSt [91,93]] 47 true,oP 51 .pick [.t 47,.t 50,
 cBo false],oMv 43 51] [1,2,3,43]) (kRt 43 [oMv 52 2,oP 53 (bZ []) [],oMv 2 52,oSf 3 53,oP 4 .mv [cBo true]] [2,3,4]))))) (.seq (rT [oLf 54 1,oCl 55 69 [cSt [108,105,115,116],.t 54],oP 2 (.nilsl (some 4)) [],oSf 3 55,oP 4 .mv [cBo false]] [2,
 3,4]) .ret))))))
def g98:AFn:=⟨1,[(2,none),(3,some (some 4)),(4,none)],c98,false,[],[],none⟩
theorem tr98:trFn Tryz.prog false 98 Tryz.f98=some g98:=by kernel_rfl
def c99:ACode:=.seq (rT [oP 2 (.nilsl (some 4)) []] [0]) (.seq (rT [oMv 3 0,oMv 2 3] [2]) .ret)
def g99:AFn:=⟨1,[(2,none)],c99,false,[],[],none⟩
theorem tr99:trFn Tryz.prog false 99 Tryz.f99=some g99:=by kernel_rfl
def c100:ACode:=.seq (rT [oP 2 (.nilsl (some 4)) []] [0]) (.seq (rT [oMv 6 0,oCl 7 101 [.t 6],oMv 5 7,oEx 8 0 5,oEx 9 1 5,oMv 3 8,oMv 4 9] [3]) (.seq (rT [oMv 10 3,oMv 2 10] [2]) .ret))
def g100:AFn:=⟨1,[(2,none)],c100,false,[],[],none⟩
theorem tr100:trFn Tryz.prog false 100 Tryz.f100=some g100:=by kernel_rfl
def c101:ACode:=.seq (rT [oP 2 (.nilsl (some 4)) [],oP 3 .mv [cIn 0]] [0]) (.seq (rT [oMv 5 0,oCl 6 132 [.t 5],oMv 4 6,oEx 7 0 4,oEx 8 1 4,oMv 2 7,oMv 3 8] [2,3]) (.seq (.seq (rT [oMv 9 3,oBc 10 .neq 9 0] [2,3,10]) (kRt 10 [oMv 11 3,oP 2 (.nilsl (some 4)) [],
 oMv 3 11] [2,3])) (.seq (rT [oMv 12 2,oCl 13 133 [.t 12,cFn 134],oMv 2 13,oP 3 .mv [cIn 0]] [2,3]) .ret)))
def g101:AFn:=⟨1,[(2,none),(3,none)],c101,true,[],[],none⟩
theorem tr101:trFn Tryz.prog true 101 Tryz.f101=some g101:=by kernel_rfl
def c102:ACode:=.seq (rT [oBx 1 0,oP 2 .mv [cBo false]] [1]) (.seq (rT [oFa 3 0 1,oLo 4 3,oBc 5 .eql 4 3,oMv 6 5,oG 7 (.faddr 2) [.t 1] 6 true,oG 8 (.load none) [.t 7] 6 true,oG 9 (.bin .eql) [.t 8,cSt [46]] 6 true,oP 10 .pick [.t 6,.t 9,cBo false],oMv 11 10,
 oG 12 (.faddr 3) [.t 1] 11 true,oG 13 (.load none) [.t 12] 11 true,oG 14 .len [.t 13] 11 true,oG 15 (.bin .eql) [.t 14,cIn 2] 11 true,oP 16 .pick [.t 11,.t 15,cBo false],oMv 2 16] [2]) .ret)
def g102:AFn:=⟨1,[(2,none)],c102,false,[],[],none⟩
theorem tr102:trFn Tryz.prog false 102 Tryz.f102=some g102:=by kernel_rfl
def c103:ACode:=.seq (rT [oBx 1 0,oP 2 aZ []] [1,2]) (.seq (rT [oFa 5 0 1,oLo 6 5,oFa 7 1 1,oLo 8 7,oFa 9 2 1,oLo 10 9,oP 11 (bZ [0,1,2]) [.t 6,.t 8,.t 10],oP 3 aZ [],oSf 3 11] [1,2,3]) (.seq (.seq (rT [oP 4 .mv [cIn 0]] [1,2,3,4]) (.block 0 (.loop [1,2,3,4] (.seq (.seq (rT [oMv 12 4,
 oFa 13 3 1,oLo 14 13,oUn 15 .len 14,oBi 16 .lss 12 15] [1,2,3,4,16]) (kEx 16 0)) (.seq (.block 1 (.seq (.settle []) (rT [oFa 19 3 3,oLo 20 19,oFa 21 3 1,oLo 22 21,oMv 23 4,oIa 24 22 23,oLf 25 24,oP 26 .callp [cFn 103,.t 25],oUn 27 (.bslicep (some 4)) 26,
 oP 28 (.append (some 4)) [.t 20,.t 27],oFa 29 3 3,oSo 29 28] [1,2,3,4]))) (rT [oMv 17 4,oBc 18 .add 17 1,oMv 4 18] [1,2,3,4])))))) (.seq (rT [oLf 30 3,oSf 2 30] [2]) .ret)))
def g103:AFn:=⟨1,[(2,some (some 4))],c103,false,[],[],none⟩
theorem tr103:trFn Tryz.prog false 103 Tryz.f103=some g103:=by kernel_rfl
def c104:ACode:=.seq (rT [oP 2 (.nilsl (some 4)) [],oP 3 .mv [cIn 0]] [0]) (.seq (.seq (rT [oMv 6 0,oCl 7 59 [.t 6],oUn 8 .not 7] [0,8]) (kRt 8 [oP 2 (.nilsl (some 4)) [],oP 3 .mv [cIn 1]] [2,3])) (.seq (rT [oP 4 (.nilsl (some 4)) []] [0,4]) (.seq (.seq (rT [oP 5 .mv [cIn 0]] [0,
 4,5]) (.block 0 (.loop [0,4,5] (.seq (.seq (rT [oMv 9 5,oMv 10 0,oUn 11 .len 10,oBi 12 .lss 9 11] [0,4,5,12]) (kEx 12 0)) (.seq (.block 1 (rT [oMv 15 4,oMv 16 0,oMv 17 5,oIa 18 16 17,oLf 19 18,oCl 20 60 [.t 15,.t 19,cBo false],oMv 4 20] [0,4,
 5])) (rT [oMv 13 5,oBc 14 .add 13 1,oMv 5 14] [0,4,5])))))) (.seq (rT [oMv 21 4,oMv 2 21,oP 3 .mv [cIn 0]] [2,3]) .ret))))
def g104:AFn:=⟨1,[(2,none),(3,none)],c104,false,[],[],none⟩
theorem tr104:trFn Tryz.prog false 104 Tryz.f104=some g104:=by kernel_rfl
def c105r0:LO:=[oBx 2 0,oBx 3 1,oP 4 .mv [cIn 0]]
def c105r1:LO:=[oFa 7 0 2,oLo 8 7,oFa 9 0 3,oLo 10 9,oBi 11 .neq 8 10]
def c105r2:LO:=[oFa 12 0 2,oLo 13 12,oFa 14 0 3,oLo 15 14,oCl 16 135 [.t 13,.t 15],oMv 4 16]
def c105k3:ACode:=kRt 11 c105r2 [4]
def c105r4:LO:=[oFa 17 1 2,oLo 18 17,oFa 19 1 3,oLo 20 19,oCl 21 135 [.t 18,.t 20],oMv 5 21]
def c105r5:LO:=[oMv 22 5,oBc 23 .eql 22 0]
def c105r6:LO:=[oFa 24 3 2,oLo 25 24,oUn 26 .len 25,oFa 27 3 3,oLo 28 27,oUn 29 .len 28,oCl 30 135 [.t 26,.t 29],oMv 5 30]
def c105k7:ACode:=.cond (.t 23) (rT c105r6 [2,3,5]) .skip
def c105r8:LO:=[oMv 31 5,oBc 32 .eql 31 0]
def c105r9:LO:=[oFa 33 2 2,oLo 34 33,oFa 35 2 3,oLo 36 35,oCl 37 136 [.t 34,.t 36],oMv 5 37]
def c105k10:ACode:=.cond (.t 32) (rT c105r9 [2,3,5]) .skip
def c105r11:LO:=[oP 6 .mv [cIn 0]]
def c105r12:LO:=[oMv 38 6,oFa 39 3 2,oLo 40 39,oUn 41 .len 40,oBi 42 .lss 38 41,oMv 43 42,oG 44 .mv [.t 5] 43 true,oG 45 (.bin .eql) [.t 44,cIn 0] 43 true,oP 46 .pick [.t 43,.t 45,cBo false]]
def c105k13:ACode:=kEx 46 0
def c105r14:LO:=[oFa 49 3 2,oLo 50 49,oMv 51 6,oIa 52 50 51,oLf 53 52,oFa 54 3 3,oLo 55 54,oMv 56 6,oIa 57 55 56,oLf 58 57,oCl 59 105 [.t 53,.t 58],oMv 5 59]
def c105k15:ACode:=.block 1 (rT c105r14 [2,3,5,6])
def c105r16:LO:=[oMv 47 6,oBc 48 .add 47 1,oMv 6 48]
def c105b17:ACode:=.seq (.seq (rT c105r12 [2,3,5,6,46]) c105k13) (.seq c105k15 (rT c105r16 [2,3,5,6]))
def c105k18:ACode:=.block 0 (.loop [2,3,5,6] c105b17)
def c105r19:LO:=[oMv 60 5,oMv 4 60]
def c105:ACode:=.seq (rT c105r0 [2,3]) (.seq (.seq (rT c105r1 [2,3,11]) c105k3) (.seq (rT c105r4 [2,3,5]) (.seq (.seq (rT c105r5 [2,3,5,23]) c105k7) (.seq (.seq (rT c105r8 [2,3,5,32]) c105k10) (.seq (.seq (rT c105r11 [2,3,5,6]) c105k18) (.seq (rT c105r19 [4]) .ret))))))
def g105:AFn:=⟨2,[(4,none)],c105,false,[],[],none⟩
theorem tr105:trFn Tryz.prog false 105 Tryz.f105=some g105:=by kernel_rfl
def c106:ACode:=.seq (rT [oBx 2 0,oP 4 aZ []] [1,2,4]) (.seq (.seq (rT [oMv 5 1] [2,4,5]) (kRt 5 [oFa 6 3 2,oLo 7 6,oP 8 (.iaddr (some 4)) [.t 7,cIn 0],oLf 9 8,oSf 4 9] [4])) (.seq (rT [oLf 10 2,oSf 4 10] [4]) .ret))
def g106:AFn:=⟨2,[(4,some (some 4))],c106,false,[],[],none⟩
theorem tr106:trFn Tryz.prog false 106 Tryz.f106=some g106:=by kernel_rfl
def c108:ACode:=.seq (rT [oBx 3 0,oP 4 aZ []] [1,2,3,4]) (.seq (.seq (rT [oLo 5 1,oFa 6 1 3,oLo 7 6,oP 8 (.lookup false none (.pv none (.int .i64 0)) false) [.t 5,.t 7],oBc 9 .eql 8 0] [1,2,3,4,9]) (.cond (.t 9) (.seq (rT [oLo 10 1,oFa 11 1 3,oLo 12 11,⟨none,
 (.mapset false none),[.t 10,.t 12,cIn 1],none⟩] [2,3,4]) (rT [oLo 13 2,oFa 14 1 3,oLo 15 14,oUn 16 (.bslice none) 15,oP 17 (.append none) [.t 13,.t 16],oSo 2 17] [3,4])) .skip)) (.seq (rT [oLf 18 3,oSf 4 18] [4]) .ret))
def g108:AFn:=⟨3,[(4,some (some 4))],c108,true,[],[],none⟩
theorem tr108:trFn Tryz.prog true 108 Tryz.f108=some g108:=by kernel_rfl
def c109:ACode:=(.block 0 (.loop [0,1] (.seq (.seq (rT [oLf 4 1,oCl 5 67 [.t 4,cSt [94],cIn 2]] [0,1,5]) (kEx 5 0)) (.block 1 (.seq (rT [oFa 6 3 1,oLo 7 6,oP 8 (.iaddr (some 4)) [.t 7,cIn 0],oLf 9 8,oP 3 aZ [],oSf 3 9] [0,1,3]) (.seq (rT [oFa 10 3 1,oLo 11 10,
 oP 12 (.iaddr (some 4)) [.t 11,cIn 1],oLf 13 12,oSf 1 13] [0,1,3]) (.seq (rT [oMv 14 0,oLf 15 3,oLf 16 1,oP 17 .call [.t 14,.t 15,.t 16],oUn 18 .not 17] [0,1,18]) (.cond (.t 18) .ret .skip))))))))
def g109:AFn:=⟨2,[],c109,true,[],[],none⟩
theorem tr109:trFn Tryz.prog true 109 Tryz.f109=some g109:=by kernel_rfl
def c111:ACode:=.seq (rT [oP 4 aZ []] [0,1,4]) (.seq (rT [oMv 5 0,oMv 6 1,oCl 7 26 [.t 5,.t 6],oCl 8 28 [cSt [91,93]],oP 9 (.bslice (some 4)) [.t 7,.t 8],oCl 10 26 [cSt [101,114,114,111,114],.t 9],oSf 4 10] [4]) .ret)
def g111:AFn:=⟨2,[(4,some (some 4))],c111,false,[],[],none⟩
theorem tr111:trFn Tryz.prog false 111 Tryz.f111=some g111:=by kernel_rfl
def c112:ACode:=.seq (rT [oBx 3 0,oP 6 aZ []] [1,2,3,6]) (.seq (.seq (rT [oLf 10 3,oCl 11 45 [.t 10],oUn 12 .not 11] [1,2,3,6,12]) (kRt 12 [oP 13 (bZ []) [],oSf 6 13] [6])) (.seq (rT [oP 7 (.nilsl (some 4)) []] [1,2,3,6,7]) (.seq (.seq (rT [oMv 14 2,oUn 15 .len 14,
 oP 16 .mv [cIn 0]] [1,2,3,6,7,14,15,16]) (.block 0 (.loop [1,2,3,6,7,14,15,16] (.seq (rT [oBi 17 .lss 16 15] [1,2,3,6,7,14,15,16,17]) (.seq (kEx 17 0) (.seq (.block 1 (.seq (rT [oP 18 (.iaddr none) [.t 14,.t 16],oLo 19 18,oMv 9 19] [1,2,3,6,
 7,9,14,15,16]) (.seq (.seq (rT [oMv 20 9,oUn 21 .slen 20,oBc 22 .gtr 21 100] [1,2,3,6,7,9,14,15,16,22]) (kRt 22 [oP 23 (bZ []) [],oSf 6 23] [6])) (rT [oMv 24 7,oMv 25 9,oCl 26 28 [.t 25],oUn 27 (.bslice (some 4)) 26,oP 28 (.append (some 4)) [.t 24,
 .t 27],oMv 7 28] [1,2,3,6,7,14,15,16])))) (rT [oBc 29 .add 16 1,oMv 16 29] [1,2,3,6,7,14,15,16]))))))) (.seq (.seq (rT [oMv 30 2,oUn 31 .len 30,oP 32 (.bin .add) [cIn 3,.t 31],oLf 33 3,oCl 34 87 [.t 33],oBi 35 .add 32 34,oBc 36 .gtr 35 2000] [1,
 3,6,7,36]) (.cond (.t 36) (rT [oCl 37 28 [cSt [46,46,46]],oSf 3 37] [1,3,6,7]) .skip)) (.seq (rT [oMv 38 1,oMv 39 7,oLf 40 3,oUn 41 (.bslice (some 4)) 40,oP 42 (.append (some 4)) [.t 39,.t 41],oCl 43 111 [.t 38,.t 42],oSf 6 43] [6]) .ret)))))
def g112:AFn:=⟨3,[(6,some (some 4))],c112,false,[],[],none⟩
theorem tr112:trFn Tryz.prog false 112 Tryz.f112=some g112:=by kernel_rfl
def c113r0:LO:=[oBx 3 1,oP 4 (.nilsl none) []]
def c113r1:LO:=[oFa 6 0 3,oLo 7 6,oBc 8 .eql 7 0,oMv 9 8,oG 10 .mv [.t 0] 9 true,oG 11 (.faddr 1) [.t 3] 9 true,oG 12 (.load none) [.t 11] 9 true,oG 13 .call [cFn 137,.t 10,.t 12] 9 true,oG 14 (.bin .lss) [.t 13,cIn 0] 9 true,oP 15 .pick [.t 9,.t 14,cBo false]]
def c113r2:LO:=[oMv 16 0,oFa 17 1 3,oLo 18 17,oUn 19 (.bslice none) 18,oP 20 (.append none) [.t 16,.t 19],oMv 0 20]
def c113k3:ACode:=.cond (.t 15) (rT c113r2 [0,3]) .skip
def c113r4:LO:=[oP 5 .mv [cIn 0]]
def c113r5:LO:=[oMv 21 5,oFa 22 3 3,oLo 23 22,oUn 24 .len 23,oBi 25 .lss 21 24]
def c113k6:ACode:=kEx 25 0
def c113r7:LO:=[oMv 28 0,oFa 29 3 3,oLo 30 29,oMv 31 5,oIa 32 30 31,oLf 33 32,oCl 34 113 [.t 28,.t 33],oMv 0 34]
def c113k8:ACode:=.block 1 (rT c113r7 [0,3,5])
def c113r9:LO:=[oMv 26 5,oBc 27 .add 26 1,oMv 5 27]
def c113b10:ACode:=.seq (.seq (rT c113r5 [0,3,5,25]) c113k6) (.seq c113k8 (rT c113r9 [0,3,5]))
def c113k11:ACode:=.block 0 (.loop [0,3,5] c113b10)
def c113r12:LO:=[oMv 35 0,oMv 4 35]
def c113:ACode:=.seq (rT c113r0 [0,3]) (.seq (.seq (rT c113r1 [0,3,15]) c113k3) (.seq (.seq (rT c113r4 [0,3,5]) c113k11) (.seq (rT c113r12 [4]) .ret)))
def g113:AFn:=⟨2,[(4,none)],c113,true,[],[],none⟩
theorem tr113:trFn Tryz.prog true 113 Tryz.f113=some g113:=by kernel_rfl
def c114:ACode:=.seq (rT [oP 4 aZ []] [0,1,4]) (.seq (rT [oMv 5 0,oMv 6 1,oP 7 (bZ [0,2,3]) [cIn 3,.t 5,.t 6],oSf 4 7] [4]) .ret)
def g114:AFn:=⟨2,[(4,some (some 4))],c114,false,[],[],none⟩
theorem tr114:trFn Tryz.prog false 114 Tryz.f114=some g114:=by kernel_rfl
def c115:ACode:=rT [oMv 4 0,oMv 5 0,oUn 6 .len 5,oMv 7 1,oCl 8 138 [.t 4,.t 6,.t 7]] []
def g115:AFn:=⟨2,[],c115,true,[],[],none⟩
theorem tr115:trFn Tryz.prog true 115 Tryz.f115=some g115:=by kernel_rfl
def c116:ACode:=.seq (rT [oP 4 .mv [cIn 0]] [0,1]) (.seq (rT [oMv 7 0,oCl 8 139 [.t 7],oMv 5 8] [0,1,5]) (.seq (rT [oMv 9 1,oCl 10 139 [.t 9],oMv 6 10] [0,1,5,6]) (.seq (.seq (rT [oMv 11 5] [0,1,6,11]) (.cond (.t 11) (.seq (.seq (rT [oMv 12 6] [12]) (kRt 12 [oP 4 .mv [cIn 0]] [4])) (.seq (rT [oP 4 .mv [.c (.pv none (.int .i64 (-1)))]] [4]) .ret)) .skip)) (.seq (.seq (rT [oMv 13 6] [0,
 1,13]) (kRt 13 [oP 4 .mv [cIn 1]] [4])) (.seq (.seq (rT [oMv 14 0,oMv 15 1,oBi 16 .lss 14 15] [0,1,16]) (kRt 16 [oP 4 .mv [.c (.pv none (.int .i64 (-1)))]] [4])) (.seq (.seq (rT [oMv 17 0,oMv 18 1,oBi 19 .gtr 17 18] [19]) (kRt 19 [oP 4 .mv [cIn 1]] [4])) (.seq (rT [oP 4 .mv [cIn 0]] [4]) .ret)))))))
def g116:AFn:=⟨2,[(4,none)],c116,false,[],[],none⟩
theorem tr116:trFn Tryz.prog false 116 Tryz.f116=some g116:=by kernel_rfl
def c117:ACode:=.seq (rT [oP 4 .mv [cIn 0]] [0,1]) (.seq (rT [oMv 7 0,oCl 8 140 [.t 7],oMv 5 8] [0,1,5]) (.seq (rT [oMv 9 1,oCl 10 140 [.t 9],oMv 6 10] [0,1,5,6]) (.seq (.seq (rT [oMv 11 5] [0,1,6,11]) (.cond (.t 11) (.seq (.seq (rT [oMv 12 6] [12]) (kRt 12 [oP 4 .mv [cIn 0]] [4])) (.seq (rT [oP 4 .mv [.c (.pv none (.int .i64 (-1)))]] [4]) .ret)) .skip)) (.seq (.seq (rT [oMv 13 6] [0,
 1,13]) (kRt 13 [oP 4 .mv [cIn 1]] [4])) (.seq (.seq (rT [oMv 14 0,oMv 15 1,oBi 16 .lss 14 15] [0,1,16]) (kRt 16 [oP 4 .mv [.c (.pv none (.int .i64 (-1)))]] [4])) (.seq (.seq (rT [oMv 17 0,oMv 18 1,oBi 19 .gtr 17 18] [19]) (kRt 19 [oP 4 .mv [cIn 1]] [4])) (.seq (rT [oP 4 .mv [cIn 0]] [4]) .ret)))))))
def g117:AFn:=⟨2,[(4,none)],c117,false,[],[],none⟩
theorem tr117:trFn Tryz.prog false 117 Tryz.f117=some g117:=by kernel_rfl
def c118:ACode:=.seq (rT [oP 4 .mv [cIn 0]] [0,1]) (.seq (rT [oMv 5 0,oMv 6 1,oCl 7 141 [.t 5,.t 6],oMv 4 7] [4]) .ret)
def g118:AFn:=⟨2,[(4,none)],c118,false,[],[],none⟩
theorem tr118:trFn Tryz.prog false 118 Tryz.f118=some g118:=by kernel_rfl
def c119r0:LO:=[oP 2 .mv [cBo false]]
def c119r1:LO:=[oMv 8 0,oUn 9 .len 8,oP 10 .mv [cIn 0]]
def c119r2:LO:=[oBi 11 .lss 10 9]
def c119k3:ACode:=kEx 11 0
def c119r4:LO:=[oMv 12 10,oP 13 (.iaddr (some 5)) [.t 8,.t 10],oUn 14 (.load (some 5)) 13,oP 4 (.alloc (some 5) (.agg [(none,.pv none (.int .i64 0)),(some 4,.agg [(none,.pv none (.int .i64 0)),(none,.pv none (.int .i64 0)),(none,.pv none (.str [])),
 (none,.tsl (some 4) [])])])) [],oMv 3 12,⟨none,(.store (some 5)),[.t 4,.t 14],none⟩]
def c119r5:LO:=[oFa 15 0 4,oLo 16 15,oBc 17 .lss 16 0,oMv 18 17,oG 19 (.faddr 0) [.t 4] 18 false,oG 20 (.load none) [.t 19] 18 false,oG 21 (.bin .gtr) [.t 20,cIn 1099511627776] 18 false,oP 22 .pick [.t 18,cBo true,.t 21],oMv 23 22,oG 24 .mv [.t 3] 23 false,
 oG 25 (.bin .gtr) [.t 24,cIn 0] 23 false,oG 26 .mv [.t 25] 23 false,oG 27 .mv [.t 0] 26 true,oG 28 .mv [.t 3] 26 true,oG 29 (.bin .sub) [.t 28,cIn 1] 26 true,oG 30 (.iaddr (some 5)) [.t 27,.t 29] 26 true,oG 31 (.faddr 0) [.t 30] 26 true,oG 32 (.load none) [.t 31] 26 true,
 oG 33 (.faddr 0) [.t 4] 26 true,oG 34 (.load none) [.t 33] 26 true,oG 35 (.bin .geq) [.t 32,.t 34] 26 true,oG 36 .pick [.t 26,.t 35,cBo false] 23 false,oP 37 .pick [.t 23,cBo true,.t 36],oMv 38 37,oG 39 (.faddr 1) [.t 4] 38 false,oG 40 (.load (some 4)) [.t 39] 38 false,
 oG 41 .call [cFn 45,.t 40] 38 false,oG 42 .not [.t 41] 38 false,oP 43 .pick [.t 38,cBo true,.t 42]]
def c119r6:LO:=[oP 2 .mv [cBo false]]
def c119k7:ACode:=kRt 43 c119r6 [2]
def c119k8:ACode:=.block 1 (.seq (rT c119r4 [0,3,4,8,9,10]) (.seq (rT c119r5 [0,8,9,10,43]) c119k7))
def c119r9:LO:=[oBc 44 .add 10 1,oMv 10 44]
def c119b10:ACode:=.seq (rT c119r2 [0,8,9,10,11]) (.seq c119k3 (.seq c119k8 (rT c119r9 [0,8,9,10])))
def c119k11:ACode:=.block 0 (.loop [0,8,9,10] c119b10)
def c119r12:LO:=[oP 45 (.mkmap none) [],oMv 5 45]
def c119r13:LO:=[oMv 46 0,oUn 47 .len 46,oP 48 .mv [cIn 0]]
def c119r14:LO:=[oBi 49 .lss 48 47]
def c119k15:ACode:=kEx 49 2
def c119r16:LO:=[oP 50 (.iaddr (some 5)) [.t 46,.t 48],oUn 51 (.load (some 5)) 50,oP 7 (.alloc (some 5) (.agg [(none,.pv none (.int .i64 0)),(some 4,.agg [(none,.pv none (.int .i64 0)),(none,.pv none (.int .i64 0)),(none,.pv none (.str [])),(none,
 (.tsl (some 4) []))])])) [],⟨none,(.store (some 5)),[.t 7,.t 51],none⟩]
def c119r17:LO:=[oMv 52 0,oFa 53 0 7,oLo 54 53,oMv 55 5,oCl 56 142 [.t 52,.t 54,.t 55]]
def c119r18:LO:=[oP 2 .mv [cBo false]]
def c119k19:ACode:=kRt 56 c119r18 [2]
def c119k20:ACode:=.block 3 (.seq (rT c119r16 [0,5,7,46,47,48]) (.seq (rT c119r17 [0,5,46,47,48,56]) c119k19))
def c119r21:LO:=[oBc 57 .add 48 1,oMv 48 57]
def c119b22:ACode:=.seq (rT c119r14 [0,5,46,47,48,49]) (.seq c119k15 (.seq c119k20 (rT c119r21 [0,5,46,47,48])))
def c119k23:ACode:=.block 2 (.loop [0,5,46,47,48] c119b22)
def c119r24:LO:=[oP 2 .mv [cBo true]]
def c119:ACode:=.seq (rT c119r0 [0]) (.seq (.seq (rT c119r1 [0,8,9,10]) c119k11) (.seq (rT c119r12 [0,5]) (.seq (.seq (rT c119r13 [0,5,46,47,48]) c119k23) (.seq (rT c119r24 [2]) .ret))))
def g119:AFn:=⟨1,[(2,none)],c119,false,[],[],none⟩
theorem tr119:trFn Tryz.prog false 119 Tryz.f119=some g119:=by kernel_rfl
def c120:ACode:=.seq (rT [oMv 2 5] [0,1,2]) (.seq (rT [oMv 7 2,oP 8 (.assert 100 (some 1) (.pv (some 1) (.agg [(none,.int .i64 0)])) true) [.t 7],oMv 6 8,oEx 9 0 6,oEx 10 1 6,oP 3 (.alloc (some 1) (.pv (some 1) (.agg [(none,.int .i64 0)]))) [],⟨none,(.store (some 1)),
 [.t 3,.t 9],none⟩,oMv 4 10] [0,1,2,3,4]) (.seq (rT [oMv 11 4] [0,1,2,3,11]) (.seq (.cond (.t 11) (rT [oFa 12 0 3,oLo 13 12,⟨none,(.storen none),[.t 0,.c (.tsl (some 5) []),.t 12],none⟩,oSo 1 13] []) (.seq (rT [oMv 14 2,oUn 15 (.isnil true) 14] [2,
 15]) (.cond (.t 15) (rT [oMv 16 2,⟨none,.panic,[.t 16],none⟩] []) .skip))) .skip)))
def g120:AFn:=⟨2,[],c120,true,[],[],some 5⟩
theorem tr120:trFn Tryz.prog true 120 Tryz.f120=some g120:=by kernel_rfl
def c121:ACode:=.seq (rT [oP 2 (.nilsl (some 5)) []] [0]) (.seq (rT [oP 3 (.nilsl (some 5)) []] [0,3]) (.seq (.seq (rT [oMv 6 0,oUn 7 .len 6,oP 8 .mv [cIn 0]] [3,6,7,8]) (.block 0 (.loop [3,6,7,8] (.seq (rT [oBi 9 .lss 8 7] [3,6,7,8,9]) (.seq (kEx 9 0) (.seq (.block 1 (.seq (rT [oP 10 (.iaddr (some 5)) [.t 6,
 .t 8],oUn 11 (.load (some 5)) 10,oP 5 (.alloc (some 5) (.agg A3)) [],⟨none,
 (.store (some 5)),[.t 5,.t 11],none⟩] [3,5,6,7,8]) (rT [oMv 12 3,oFa 13 0 5,oLo 14 13,oFa 15 1 5,oLf 16 15,oP 17 .callh [cFn 38,.t 16],oP 18 (.build [(none,.pv none (.int .i64 0)),(some 4,.agg [(none,.pv none (.int .i64 0)),(none,.pv none (.int .i64 0)),
 (none,.pv none (.str [])),(none,.tsl (some 4) [])])] [0,1]) [.t 14,.t 17],oUn 19 (.bslice (some 5)) 18,oP 20 (.append (some 5)) [.t 12,.t 19],oMv 3 20] [3,6,7,8]))) (rT [oBc 21 .add 8 1,oMv 8 21] [3,6,7,8]))))))) (.seq (rT [oMv 22 3,oMv 2 22] [2]) .ret)))
def g121:AFn:=⟨1,[(2,none)],c121,true,[],[],none⟩
theorem tr121:trFn Tryz.prog true 121 Tryz.f121=some g121:=by kernel_rfl
def c122:ACode:=.seq (rT [oBx 4 1,oBx 5 2] [0,4,5]) (.seq (rT [oLf 12 4,oLf 13 5,oP 14 (.build [(some 4,.agg A0),(some 4,.agg [(none,
 (.pv none (.int .i64 0))),(none,.pv none (.int .i64 0)),(none,.pv none (.str [])),(none,.tsl (some 4) [])])] [0,1]) [.t 12,.t 13],oUn 15 (.bslo (some 8)) 14,oMv 6 15] [0,6]) (.seq (rT [oP 7 .mv [cIn 0]] [0,6,7]) (.block 0 (.loop [0,6,
 7] (.seq (.seq (rT [oMv 16 6,oUn 17 .len 16,oBc 18 .gtr 17 0] [0,6,7,18]) (kEx 18 0)) (.seq (.block 1 (.seq (.seq (rT [oMv 21 7,oBc 22 .eql 21 1048576] [0,6,7,22]) (.cond (.t 22) (rT [oP 23 (.build A4 [0]) [cIn 2],
 oUn 24 (.mkiface 100) 23,⟨none,.panic,[.t 24],none⟩] [0,6,7]) .skip)) (.seq (rT [oMv 25 6,oMv 26 6,oUn 27 .len 26,oBc 28 .sub 27 1,oP 29 (.iaddr (some 8)) [.t 25,.t 28],oUn 30 (.load (some 8)) 29,oP 8 (.alloc (some 8) (.agg [(some 4,.agg [(none,
 (.pv none (.int .i64 0))),(none,.pv none (.int .i64 0)),(none,.pv none (.str [])),(none,.tsl (some 4) [])]),(some 4,.agg A0)])) [],
 ⟨none,(.store (some 8)),[.t 8,.t 30],none⟩] [0,6,7,8]) (.seq (rT [oMv 31 6,oMv 32 6,oUn 33 .len 32,oBc 34 .sub 33 1,oP 35 (.slice (some 8) false true) [.t 31,.t 34],oMv 6 35] [0,6,7,8]) (.seq (.region false [oMv 36 0,oUn 37 .nilcheck 36,oFa 38 0 37,
 oLo 39 38,oP 40 (.iaddrA (some 4) 2) [.t 8,cIn 0],oLf 41 40,oP 42 .callg [cFn 143,.t 39,.t 41],oMv 43 0,oUn 44 .nilcheck 43,oFa 45 0 44,oLo 46 45,oP 47 (.iaddrA (some 4) 2) [.t 8,cIn 1],oLf 48 47,oCl 49 143 [.t 46,.t 48],oP 9 aZ [],oP 10 aZ [],
 oSf 9 42,oSf 10 49] [0,6,7,9,10]) (.seq (rT [oMv 50 0,oLf 51 9,oLf 52 10,oCl 53 144 [.t 50,.t 51,.t 52]] [0,6,7,9,10,53]) (.cond (.t 53) (.seq (rT [oFa 54 3 9,oLo 55 54,oUn 56 .len 55,oBc 57 .sub 56 1,oMv 11 57] [0,6,7,9,10,11]) (.block 2 (.loop [0,
 6,7,9,10,11] (.seq (.seq (rT [oMv 58 11,oBc 59 .geq 58 0] [0,6,7,9,10,11,59]) (kEx 59 2)) (.seq (.block 3 (rT [oMv 62 6,oFa 63 3 9,oLo 64 63,oMv 65 11,oIa 66 64 65,oLf 67 66,oFa 68 3 10,oLo 69 68,oMv 70 11,oIa 71 69 70,oLf 72 71,oP 73 (.build [(some 4,
 (.agg A0)),(some 4,.agg [(none,.pv none (.int .i64 0)),(none,.pv none (.int .i64 0)),(none,.pv none (.str [])),(none,
 (.tsl (some 4) []))])] [0,1]) [.t 67,.t 72],oUn 74 (.bslice (some 8)) 73,oP 75 (.append (some 8)) [.t 62,.t 74],oMv 6 75] [0,6,7,9,10,11])) (rT [oMv 60 11,oBc 61 .sub 60 1,oMv 11 61] [0,6,7,9,10,11])))))) .skip))))))) (rT [oMv 19 7,oBc 20 .add 19 1,
 oMv 7 20] [0,6,7])))))))
def g122:AFn:=⟨3,[],c122,true,[],[],none⟩
theorem tr122:trFn Tryz.prog true 122 Tryz.f122=some g122:=by kernel_rfl
def c123r0:LO:=[oBx 4 1,oP 6 .mv [cIn 0]]
def c123r1:LO:=[oMv 13 0,oLf 14 4,oCl 15 145 [.t 13,.t 14],oMv 12 15,oEx 16 0 12,oEx 17 1 12,oP 7 aZ [],oSf 7 16,oMv 8 17]
def c123r2:LO:=[oMv 18 8]
def c123r3:LO:=[oMv 19 2,oFa 20 1 4,oLo 21 20,oP 22 (.lookup false none (.pv none (.int .i64 0)) false) [.t 19,.t 21],oBc 23 .eql 22 0]
def c123r4:LO:=[oMv 24 2,oFa 25 1 4,oLo 26 25,oMv 27 0,oLf 28 7,oMv 29 2,oP 30 (.calln 1) [.t 25,cFn 123,.t 27,.t 28,.t 29],⟨none,(.mapset false none),[.t 24,.t 26,.t 30],none⟩]
def c123k5:ACode:=.cond (.t 23) (.region false c123r4 [2,4]) .skip
def c123r6:LO:=[oMv 31 2,oFa 32 1 4,oLo 33 32,oP 34 (.lookup false none (.pv none (.int .i64 0)) false) [.t 31,.t 33],oMv 6 34]
def c123k7:ACode:=.cond (.t 18) (.seq (.seq (rT c123r3 [0,2,4,7,23]) c123k5) (.seq (rT c123r6 [6]) .ret)) .skip
def c123r8:LO:=[oP 9 .mv [cIn 1]]
def c123r9:LO:=[oFa 35 3 4,oLo 36 35,oUn 37 .len 36,oP 38 .mv [cIn 0]]
def c123r10:LO:=[oBi 39 .lss 38 37]
def c123k11:ACode:=kEx 39 0
def c123r12:LO:=[oIa 40 36 38,oLf 41 40,oP 11 aZ [],oSf 11 41]
def c123r13:LO:=[oMv 42 9,oMv 43 0,oLf 44 11,oMv 45 2,oCl 46 123 [.t 43,.t 44,.t 45],oBi 47 .add 42 46,oP 48 .min [.t 47,cIn 2001],oMv 9 48]
def c123k14:ACode:=.block 1 (.seq (rT c123r12 [0,2,9,11,36,37,38]) (rT c123r13 [0,2,9,36,37,38]))
def c123r15:LO:=[oBc 49 .add 38 1,oMv 38 49]
def c123b16:ACode:=.seq (rT c123r10 [0,2,9,36,37,38,39]) (.seq c123k11 (.seq c123k14 (rT c123r15 [0,2,9,36,37,38])))
def c123k17:ACode:=.block 0 (.loop [0,2,9,36,37,38] c123b16)
def c123r18:LO:=[oMv 50 9,oMv 6 50]
def c123:ACode:=.seq (rT c123r0 [0,2,4]) (.seq (.seq (rT c123r1 [0,2,4,7,8]) (.seq (rT c123r2 [0,2,4,7,18]) c123k7)) (.seq (rT c123r8 [0,2,4,9]) (.seq (.seq (rT c123r9 [0,2,9,36,37,38]) c123k17) (.seq (rT c123r18 [6]) .ret))))
def g123:AFn:=⟨3,[(6,none)],c123,true,[],[],none⟩
theorem tr123:trFn Tryz.prog true 123 Tryz.f123=some g123:=by kernel_rfl
def c124r0:LO:=[oBx 3 1,oP 4 aZ []]
def c124r1:LO:=[oMv 11 0,oLf 12 3,oCl 13 145 [.t 11,.t 12],oMv 10 13,oEx 14 0 10,oEx 15 1 10,oP 5 aZ [],oSf 5 14,oMv 6 15]
def c124r2:LO:=[oMv 16 6]
def c124r3:LO:=[oMv 17 0,oLf 18 5,oCl 19 124 [.t 17,.t 18],oSf 4 19]
def c124k4:ACode:=kRt 16 c124r3 [4]
def c124r5:LO:=[oFa 20 0 3,oLo 21 20,oFa 22 1 3,oLo 23 22,oFa 24 2 3,oLo 25 24,oP 26 (bZ [0,1,2]) [.t 21,.t 23,.t 25],oP 7 aZ [],oSf 7 26]
def c124r6:LO:=[oFa 27 3 3,oLo 28 27,oUn 29 .len 28,oP 30 .mv [cIn 0]]
def c124r7:LO:=[oBi 31 .lss 30 29]
def c124k8:ACode:=kEx 31 0
def c124r9:LO:=[oIa 32 28 30,oLf 33 32,oP 9 aZ [],oSf 9 33]
def c124r10:LO:=[oFa 34 3 7,oLo 35 34,oMv 36 0,oLf 37 9,oP 38 .callp [cFn 124,.t 36,.t 37],oUn 39 (.bslicep (some 4)) 38,oP 40 (.append (some 4)) [.t 35,.t 39],oFa 41 3 7,oSo 41 40]
def c124k11:ACode:=.block 1 (.seq (rT c124r9 [0,4,7,9,28,29,30]) (.seq (.settle [0,9]) (rT c124r10 [0,4,7,28,29,30])))
def c124r12:LO:=[oBc 42 .add 30 1,oMv 30 42]
def c124b13:ACode:=.seq (rT c124r7 [0,4,7,28,29,30,31]) (.seq c124k8 (.seq c124k11 (rT c124r12 [0,4,7,28,29,30])))
def c124k14:ACode:=.block 0 (.loop [0,4,7,28,29,30] c124b13)
def c124r15:LO:=[oLf 43 7,oSf 4 43]
def c124:ACode:=.seq (rT c124r0 [0,3,4]) (.seq (.seq (rT c124r1 [0,3,4,5,6]) (.seq (rT c124r2 [0,3,4,5,16]) c124k4)) (.seq (rT c124r5 [0,3,4,7]) (.seq (.seq (rT c124r6 [0,4,7,28,29,30]) c124k14) (.seq (rT c124r15 [4]) .ret))))
def g124:AFn:=⟨2,[(4,some (some 4))],c124,false,[],[],none⟩
theorem tr124:trFn Tryz.prog false 124 Tryz.f124=some g124:=by kernel_rfl
def c125:ACode:=.seq (rT [oBx 3 0] [1,2,3]) (.seq (rT [oLo 5 1,oBc 6 .sub 5 1,oSo 1 6] [1,2,3]) (.seq (rT [oP 4 .mv [cIn 0]] [1,2,3,4]) (.block 0 (.loop [1,2,3,4] (.seq (.seq (rT [oMv 7 4,oFa 8 3 3,oLo 9 8,oUn 10 .len 9,oBi 11 .lss 7 10,oMv 12 11,oG 13 (.load none) [.t 1] 12 true,
 oG 14 (.bin .gtr) [.t 13,cIn 0] 12 true,oP 15 .pick [.t 12,.t 14,cBo false]] [1,2,3,4,15]) (kEx 15 0)) (.seq (.block 1 (rT [oLo 18 2,oFa 19 3 3,oLo 20 19,oMv 21 4,oIa 22 20 21,oLf 23 22,oP 24 .call [.t 18,.t 23]] [1,2,3,4])) (rT [oMv 16 4,oBc 17 .add 16 1,
 oMv 4 17] [1,2,3,4])))))))
def g125:AFn:=⟨3,[],c125,true,[],[],none⟩
theorem tr125:trFn Tryz.prog true 125 Tryz.f125=some g125:=by kernel_rfl
def c126:ACode:=.seq (rT [oBx 3 1,oP 4 aZ []] [0,3,4]) (.seq (rT [oFa 7 0 3,oLo 8 7,oFa 9 1 3,oLo 10 9,oFa 11 2 3,oLo 12 11,oP 13 (bZ [0,1,2]) [.t 8,.t 10,.t 12],oP 5 aZ [],oSf 5 13] [0,3,4,5]) (.seq (.seq (rT [oFa 14 0 3,oLo 15 14,oBc 16 .eql 15 0] [0,3,4,
 5,16]) (.cond (.t 16) (rT [oMv 17 0,oFa 18 1 3,oLo 19 18,oCl 20 137 [.t 17,.t 19],oFa 21 1 5,oSo 21 20] [0,3,4,5]) .skip)) (.seq (.seq (rT [oP 6 .mv [cIn 0]] [0,3,4,5,6]) (.block 0 (.loop [0,3,4,5,6] (.seq (.seq (rT [oMv 22 6,oFa 23 3 3,oLo 24 23,
 oUn 25 .len 24,oBi 26 .lss 22 25] [0,3,4,5,6,26]) (kEx 26 0)) (.seq (.block 1 (.seq (.settle [0]) (rT [oFa 29 3 5,oLo 30 29,oMv 31 0,oFa 32 3 3,oLo 33 32,oMv 34 6,oIa 35 33 34,oLf 36 35,oP 37 .callp [cFn 126,.t 31,.t 36],oUn 38 (.bslicep (some 4)) 37,
 oP 39 (.append (some 4)) [.t 30,.t 38],oFa 40 3 5,oSo 40 39] [0,3,4,5,6]))) (rT [oMv 27 6,oBc 28 .add 27 1,oMv 6 28] [0,3,4,5,6])))))) (.seq (rT [oLf 41 5,oSf 4 41] [4]) .ret))))
def g126:AFn:=⟨2,[(4,some (some 4))],c126,false,[],[],none⟩
theorem tr126:trFn Tryz.prog false 126 Tryz.f126=some g126:=by kernel_rfl
def c127:ACode:=.seq (rT [oBx 5 2,oP 6 .mv [cBo false]] [0,1,5]) (.seq (.seq (rT [oFa 9 0 5,oLo 10 9,oBc 11 .eql 10 0] [0,1,5,11]) (.cond (.t 11) (.seq (rT [oMv 12 0,oFa 13 1 5,oLo 14 13,oCl 15 146 [.t 12,.t 14],oMv 7 15] [1,7]) (.seq (rT [oMv 16 7,oBc 17 .lss 16 0,
 oMv 18 17,oG 19 .mv [.t 1] 18 false,oG 20 .mv [.t 7] 18 false,oG 21 (.iaddr none) [.t 19,.t 20] 18 false,oG 22 (.load none) [.t 21] 18 false,oP 23 .pick [.t 18,cBo true,.t 22],oMv 6 23] [6]) .ret)) .skip)) (.seq (.seq (rT [oP 8 .mv [cIn 0]] [0,
 1,5,8]) (.block 0 (.loop [0,1,5,8] (.seq (.seq (rT [oMv 24 8,oFa 25 3 5,oLo 26 25,oUn 27 .len 26,oBi 28 .lss 24 27] [0,1,5,8,28]) (kEx 28 0)) (.seq (.block 1 (.seq (rT [oMv 31 0,oMv 32 1,oFa 33 3 5,oLo 34 33,oMv 35 8,oIa 36 34 35,oLf 37 36,oCl 38 127 [.t 31,
 .t 32,.t 37],oUn 39 .not 38] [0,1,5,8,39]) (kRt 39 [oP 6 .mv [cBo false]] [6]))) (rT [oMv 29 8,oBc 30 .add 29 1,oMv 8 30] [0,1,5,8])))))) (.seq (rT [oP 6 .mv [cBo true]] [6]) .ret)))
def g127:AFn:=⟨3,[(6,none)],c127,false,[],[],none⟩
theorem tr127:trFn Tryz.prog false 127 Tryz.f127=some g127:=by kernel_rfl
def c128:ACode:=.seq (rT [oBx 4 1,oBx 5 2,oP 6 .mv [cIn 0]] [0,4,5]) (.seq (.seq (rT [oMv 9 0,oUn 10 .nilcheck 9,oFa 11 1 10,oLo 12 11,oBc 13 .geq 12 1048576] [0,4,5,13]) (kRt 13 [oP 6 .mv [cIn 2]] [6])) (.seq (rT [oMv 14 0,oUn 15 .nilcheck 14,oFa 16 1 15,oLo 17 16,
 oBc 18 .add 17 1,oUn 19 .nilcheck 14,oFa 20 1 19,oSo 20 18] [0,4,5]) (.seq (rT [oMv 21 0,oUn 22 .nilcheck 21,oFa 23 0 22,oLo 24 23,oLf 25 4,oCl 26 147 [.t 24,.t 25],oSf 4 26] [0,4,5]) (.seq (rT [oMv 27 0,oUn 28 .nilcheck 27,oFa 29 0 28,oLo 30 29,
 oLf 31 5,oCl 32 147 [.t 30,.t 31],oSf 5 32] [0,4,5]) (.seq (.seq (rT [oFa 33 0 4,oLo 34 33,oBc 35 .eql 34 0,oMv 36 35,oG 37 (.faddr 0) [.t 5] 36 true,oG 38 (.load none) [.t 37] 36 true,oG 39 (.bin .eql) [.t 38,cIn 0] 36 true,oP 40 .pick [.t 36,
 .t 39,cBo false]] [0,4,5,40]) (.cond (.t 40) (.seq (.block 0 (.seq (rT [oFa 42 1 4,oLo 43 42,oFa 44 1 5,oLo 45 44,oBi 46 .gtr 43 45,oMv 41 46] [0,4,5,41]) (.cond (.t 41) (.region false [oMv 47 0,oMv 48 0,oUn 49 .nilcheck 48,oFa 50 0 49,oLo 51 50,
 oFa 52 1 4,oLo 53 52,oLf 54 5,oCl 55 148 [.t 51,.t 53,.t 54],oUn 56 .nilcheck 47,oFa 57 0 56,oSo 57 55] []) (.seq (rT [oFa 59 1 4,oLo 60 59,oFa 61 1 5,oLo 62 61,oBi 63 .lss 60 62,oMv 58 63] [0,4,5,58]) (.cond (.t 58) (.region false [oMv 64 0,
 oMv 65 0,oUn 66 .nilcheck 65,oFa 67 0 66,oLo 68 67,oFa 69 1 5,oLo 70 69,oLf 71 4,oCl 72 148 [.t 68,.t 70,.t 71],oUn 73 .nilcheck 64,oFa 74 0 73,oSo 74 72] []) .skip))))) (.seq (rT [oP 6 .mv [cIn 0]] [6]) .ret)) .skip)) (.seq (.seq (rT [oFa 75 0 5,
 oLo 76 75,oBc 77 .eql 76 0] [0,4,5,77]) (.cond (.t 77) (rT [oLf 78 5,oLf 79 4,oSf 4 78,oSf 5 79] [0,4,5]) .skip)) (.seq (.seq (rT [oFa 80 0 4,oLo 81 80,oBc 82 .eql 81 0] [0,4,5,82]) (.cond (.t 82) (.seq (.seq (rT [oMv 83 0,oUn 84 .nilcheck 83,
 oFa 85 0 84,oLo 86 85,oFa 87 1 4,oLo 88 87,oLf 89 5,oCl 90 149 [.t 86,.t 88,.t 89]] [0,4,5,90]) (kRt 90 [oP 6 .mv [cIn 9]] [6])) (.seq (.region false [oMv 91 0,oMv 92 0,oUn 93 .nilcheck 92,oFa 94 0 93,oLo 95 94,oFa 96 1 4,oLo 97 96,oLf 98 5,
 oCl 99 148 [.t 95,.t 97,.t 98],oUn 100 .nilcheck 91,oFa 101 0 100,oSo 101 99] []) (.seq (rT [oP 6 .mv [cIn 0]] [6]) .ret))) .skip)) (.seq (.seq (rT [oFa 102 0 4,oLo 103 102,oFa 104 0 5,oLo 105 104,oBi 106 .neq 103 105,oMv 107 106,oG 108 (.faddr 1) [.t 4] 107 false,
 oG 109 (.load none) [.t 108] 107 false,oG 110 (.faddr 1) [.t 5] 107 false,oG 111 (.load none) [.t 110] 107 false,oG 112 (.bin .neq) [.t 109,.t 111] 107 false,oP 113 .pick [.t 107,cBo true,.t 112],oMv 114 113,oG 115 (.faddr 2) [.t 4] 114 false,
 oG 116 (.load none) [.t 115] 114 false,oG 117 (.faddr 2) [.t 5] 114 false,oG 118 (.load none) [.t 117] 114 false,oG 119 (.bin .neq) [.t 116,.t 118] 114 false,oP 120 .pick [.t 114,cBo true,.t 119],oMv 121 120,oG 122 (.faddr 3) [.t 4] 121 false,
 oG 123 (.load none) [.t 122] 121 false,oG 124 .len [.t 123] 121 false,oG 125 (.faddr 3) [.t 5] 121 false,oG 126 (.load none) [.t 125] 121 false,oG 127 .len [.t 126] 121 false,oG 128 (.bin .neq) [.t 124,.t 127] 121 false,oP 129 .pick [.t 121,
 cBo true,.t 128]] [0,4,5,129]) (kRt 129 [oP 6 .mv [cIn 4]] [6])) (.seq (.seq (rT [oP 7 .mv [cIn 0]] [0,4,5,7]) (.block 1 (.loop [0,4,5,7] (.seq (.seq (rT [oMv 130 7,oFa 131 3 4,oLo 132 131,oUn 133 .len 132,oBi 134 .lss 130 133] [0,4,5,7,134]) (kEx 134 1)) (.seq (.block 2 (.seq (rT [oMv 137 0,
 oFa 138 3 4,oLo 139 138,oMv 140 7,oIa 141 139 140,oLf 142 141,oFa 143 3 5,oLo 144 143,oMv 145 7,oIa 146 144 145,oLf 147 146,oCl 148 128 [.t 137,.t 142,.t 147],oMv 8 148] [0,4,5,7,8]) (.seq (rT [oMv 149 8,oBc 150 .neq 149 0] [0,4,5,7,8,150]) (kRt 150 [oMv 151 8,
 oMv 6 151] [6])))) (rT [oMv 135 7,oBc 136 .add 135 1,oMv 7 136] [0,4,5,7])))))) (.seq (rT [oP 6 .mv [cIn 0]] [6]) .ret))))))))))
def g128:AFn:=⟨3,[(6,none)],c128,true,[],[],none⟩
theorem tr128:trFn Tryz.prog true 128 Tryz.f128=some g128:=by kernel_rfl
def c129:ACode:=.seq (rT [oBx 2 0,oP 4 .mv [cIn 0]] [1,2]) (.seq (rT [oP 5 .mv [cIn 1]] [1,2,5]) (.seq (.seq (rT [oP 6 .mv [cIn 0]] [1,2,5,6]) (.block 0 (.loop [1,2,5,6] (.seq (.seq (rT [oMv 7 6,oFa 8 3 2,oLo 9 8,oUn 10 .len 9,oBi 11 .lss 7 10,oMv 12 11,oG 13 .mv [.t 5] 12 true,
 oG 14 .mv [.t 1] 12 true,oG 15 (.bin .lss) [.t 13,.t 14] 12 true,oP 16 .pick [.t 12,.t 15,cBo false]] [1,2,5,6,16]) (kEx 16 0)) (.seq (.block 1 (rT [oMv 19 5,oFa 20 3 2,oLo 21 20,oMv 22 6,oIa 23 21 22,oLf 24 23,oMv 25 1,oMv 26 5,oBi 27 .sub 25 26,
 oCl 28 129 [.t 24,.t 27],oBi 29 .add 19 28,oMv 5 29] [1,2,5,6])) (rT [oMv 17 6,oBc 18 .add 17 1,oMv 6 18] [1,2,5,6])))))) (.seq (rT [oMv 30 5,oMv 4 30] [4]) .ret)))
def g129:AFn:=⟨2,[(4,none)],c129,false,[],[],none⟩
theorem tr129:trFn Tryz.prog false 129 Tryz.f129=some g129:=by kernel_rfl
def c130:ACode:=.seq (rT [oBx 1 0,oP 2 .mv [cBo false]] [1]) (.seq (.seq (rT [oFa 3 0 1,oLo 4 3] [1,4]) (.block 0 (.seq (rT [oBc 6 .eql 4 0,oMv 5 6] [1,4,5]) (.cond (.t 5) (.seq (rT [oFa 7 1 1,oLo 8 7,oBc 9 .geq 8 0,oMv 10 9,oG 11 (.faddr 1) [.t 1] 10 true,
 oG 12 (.load none) [.t 11] 10 true,oG 13 (.bin .leq) [.t 12,cIn 1099511627776] 10 true,oP 14 .pick [.t 10,.t 13,cBo false],oMv 15 14,oG 16 (.faddr 2) [.t 1] 15 true,oG 17 (.load none) [.t 16] 15 true,oG 18 (.bin .eql) [.t 17,cSt []] 15 true,
 oP 19 .pick [.t 15,.t 18,cBo false],oMv 20 19,oG 21 (.faddr 3) [.t 1] 20 true,oG 22 (.load none) [.t 21] 20 true,oG 23 .len [.t 22] 20 true,oG 24 (.bin .eql) [.t 23,cIn 0] 20 true,oP 25 .pick [.t 20,.t 24,cBo false],oMv 2 25] [2]) .ret) (.seq (rT [oBc 27 .eql 4 1,
 oMv 26 27] [1,4,26]) (.cond (.t 26) (.seq (rT [oFa 28 2 1,oLo 29 28,oP 30 (.bin .eql) [.t 29,cSt []],oMv 31 30,oG 32 (.faddr 3) [.t 1] 31 true,oG 33 (.load none) [.t 32] 31 true,oG 34 .len [.t 33] 31 true,oG 35 (.bin .eql) [.t 34,cIn 0] 31 true,
 oP 36 .pick [.t 31,.t 35,cBo false],oMv 2 36] [2]) .ret) (.seq (rT [oBc 38 .eql 4 2,oMv 37 38] [1,4,37]) (.cond (.t 37) (.seq (rT [oFa 39 1 1,oLo 40 39,oBc 41 .eql 40 0,oMv 42 41,oG 43 (.faddr 2) [.t 1] 42 true,oG 44 (.load none) [.t 43] 42 true,
 oG 45 .slen [.t 44] 42 true,oG 46 (.bin .leq) [.t 45,cIn 100] 42 true,oP 47 .pick [.t 42,.t 46,cBo false],oMv 48 47,oG 49 (.faddr 3) [.t 1] 48 true,oG 50 (.load none) [.t 49] 48 true,oG 51 .len [.t 50] 48 true,oG 52 (.bin .eql) [.t 51,cIn 0] 48 true,
 oP 53 .pick [.t 48,.t 52,cBo false],oMv 2 53] [2]) .ret) (.seq (rT [oBc 55 .eql 4 3,oMv 54 55] [1,54]) (kRt 54 [oFa 56 1 1,oLo 57 56,oBc 58 .eql 57 0,oMv 59 58,oG 60 (.faddr 2) [.t 1] 59 true,oG 61 (.load none) [.t 60] 59 true,oG 62 .slen [.t 61] 59 true,
 oG 63 (.bin .leq) [.t 62,cIn 100] 59 true,oP 64 .pick [.t 59,.t 63,cBo false],oMv 65 64,oG 66 (.faddr 3) [.t 1] 65 true,oG 67 (.load none) [.t 66] 65 true,oG 68 .len [.t 67] 65 true,oG 69 (.bin .geq) [.t 68,cIn 1] 65 true,oP 70 .pick [.t 65,
 .t 69,cBo false],oMv 71 70,oG 72 (.faddr 3) [.t 1] 71 true,oG 73 (.load none) [.t 72] 71 true,oG 74 .len [.t 73] 71 true,oG 75 (.bin .leq) [.t 74,cIn 8] 71 true,oP 76 .pick [.t 71,.t 75,cBo false],oMv 2 76] [2])))))))))) (.seq (rT [oP 2 .mv [cBo false]] [2]) .ret))
def g130:AFn:=⟨1,[(2,none)],c130,false,[],[],none⟩
theorem tr130:trFn Tryz.prog false 130 Tryz.f130=some g130:=by kernel_rfl
def c131:ACode:=.seq (rT [oBx 4 1,oP 6 aZ [],oP 7 .mv [cIn 0]] [0,2,4,6]) (.seq (rT [oMv 12 0,oLf 13 4,oCl 14 147 [.t 12,.t 13],oSf 4 14] [0,2,4,6]) (.seq (rT [oFa 15 0 4,oLo 16 15,oFa 17 1 4,oLo 18 17,oFa 19 2 4,oLo 20 19,oP 21 (bZ [0,1,2]) [.t 16,.t 18,.t 20],
 oP 8 aZ [],oSf 8 21] [0,2,4,6,8]) (.seq (rT [oMv 22 2,oBc 23 .sub 22 1,oMv 2 23] [0,2,4,6,8]) (.seq (.seq (rT [oP 9 .mv [cIn 0]] [0,2,4,6,8,9]) (.block 0 (.loop [0,2,4,6,8,9] (.seq (.seq (rT [oMv 24 9,oFa 25 3 4,oLo 26 25,oUn 27 .len 26,oBi 28 .lss 24 27,
 oMv 29 28,oG 30 .mv [.t 2] 29 true,oG 31 (.bin .geq) [.t 30,cIn 0] 29 true,oP 32 .pick [.t 29,.t 31,cBo false]] [0,2,4,6,8,9,32]) (kEx 32 0)) (.seq (.block 1 (.seq (rT [oMv 36 0,oFa 37 3 4,oLo 38 37,oMv 39 9,oIa 40 38 39,oLf 41 40,oMv 42 2,oCl 43 131 [.t 36,
 .t 41,.t 42],oMv 35 43,oEx 44 0 35,oEx 45 1 35,oP 10 aZ [],oSf 10 44,oMv 11 45] [0,4,6,8,9,10,11]) (.seq (rT [oFa 46 3 8,oLo 47 46,oLf 48 10,oUn 49 (.bslice (some 4)) 48,oP 50 (.append (some 4)) [.t 47,.t 49],oFa 51 3 8,oSo 51 50] [0,4,6,8,9,
 11]) (rT [oMv 52 11,oMv 2 52] [0,2,4,6,8,9])))) (rT [oMv 33 9,oBc 34 .add 33 1,oMv 9 34] [0,2,4,6,8,9])))))) (.seq (rT [oLf 53 8,oMv 54 2,oSf 6 53,oMv 7 54] [6,7]) .ret)))))
def g131:AFn:=⟨3,[(6,some (some 4)),(7,none)],c131,false,[],[],none⟩
theorem tr131:trFn Tryz.prog false 131 Tryz.f131=some g131:=by kernel_rfl
def c132:ACode:=.seq (rT [oP 2 (.nilsl (some 4)) [],oP 3 .mv [cIn 0]] [0]) (.seq (.seq (rT [oMv 4 0,oCl 5 80 [.t 4],oUn 6 .not 5] [0,6]) (kRt 6 [oP 2 (.nilsl (some 4)) [],oP 3 .mv [cIn 1]] [2,3])) (.seq (rT [oMv 7 0,oCl 8 81 [.t 7,cFn 83],oMv 2 8,oP 3 .mv [cIn 0]] [2,
 3]) .ret))
def g132:AFn:=⟨1,[(2,none),(3,none)],c132,true,[],[],none⟩
theorem tr132:trFn Tryz.prog true 132 Tryz.f132=some g132:=by kernel_rfl
def c133r0:LO:=[oP 4 (.nilsl (some 4)) []]
def c133r1:LO:=[oMv 8 0,oUn 9 .len 8,oBc 10 .lss 9 2]
def c133r2:LO:=[oMv 11 0,oMv 4 11]
def c133k3:ACode:=kRt 10 c133r2 [4]
def c133r4:LO:=[oP 5 .mv [cIn 1]]
def c133r5:LO:=[oMv 12 5,oMv 13 0,oUn 14 .len 13,oBi 15 .lss 12 14]
def c133k6:ACode:=kEx 15 0
def c133r7:LO:=[oMv 18 1,oMv 19 0,oMv 20 5,oIa 21 19 20,oLf 22 21,oMv 23 0,oMv 24 5,oBc 25 .sub 24 1,oIa 26 23 25,oLf 27 26,oP 28 .call [.t 18,.t 22,.t 27]]
def c133r8:LO:=[oMv 29 0,oMv 30 5,oP 31 (.slice (some 4) true false) [.t 29,.t 30],oMv 6 31]
def c133r9:LO:=[oP 7 .mv [cIn 1]]
def c133r10:LO:=[oMv 32 7,oMv 33 6,oUn 34 .len 33,oBi 35 .lss 32 34]
def c133k11:ACode:=kEx 35 2
def c133r12:LO:=[oMv 38 1,oMv 39 6,oMv 40 7,oIa 41 39 40,oLf 42 41,oMv 43 6,oMv 44 7,oBc 45 .sub 44 1,oIa 46 43 45,oLf 47 46,oP 48 .call [.t 38,.t 42,.t 47],oUn 49 .not 48]
def c133r13:LO:=[oMv 50 0,oMv 51 5,oMv 52 6,oMv 53 7,oIa 54 52 53,oLf 55 54,oIa 56 50 51,oSf 56 55]
def c133r14:LO:=[oMv 57 5,oBc 58 .add 57 1,oMv 5 58]
def c133k15:ACode:=.cond (.t 49) (.seq (rT c133r13 [0,1,5,6,7]) (rT c133r14 [0,1,5,6,7])) .skip
def c133k16:ACode:=.block 3 (.seq (rT c133r12 [0,1,5,6,7,49]) c133k15)
def c133r17:LO:=[oMv 36 7,oBc 37 .add 36 1,oMv 7 37]
def c133b18:ACode:=.seq (.seq (rT c133r10 [0,1,5,6,7,35]) c133k11) (.seq c133k16 (rT c133r17 [0,1,5,6,7]))
def c133k19:ACode:=.block 2 (.loop [0,1,5,6,7] c133b18)
def c133r20:LO:=[oMv 59 0,oMv 60 5,oP 61 (.slice (some 4) true false) [.t 59,.t 60],⟨none,(.clear (some 4) (.agg [(none,.int .i64 0),(none,.int .i64 0),(none,.str []),(none,.sl (some 4) [])])),[.t 61],none⟩]
def c133r21:LO:=[oMv 62 0,oMv 63 5,oP 64 (.slice (some 4) false true) [.t 62,.t 63],oMv 4 64]
def c133k22:ACode:=.cond (.t 28) (.seq (rT c133r8 [0,1,5,6]) (.seq (.seq (rT c133r9 [0,1,5,6,7]) c133k19) (.seq (rT c133r20 [0,5]) (.seq (rT c133r21 [4]) .ret)))) .skip
def c133k23:ACode:=.block 1 (.seq (rT c133r7 [0,1,5,28]) c133k22)
def c133r24:LO:=[oMv 16 5,oBc 17 .add 16 1,oMv 5 17]
def c133b25:ACode:=.seq (.seq (rT c133r5 [0,1,5,15]) c133k6) (.seq c133k23 (rT c133r24 [0,1,5]))
def c133k26:ACode:=.block 0 (.loop [0,1,5] c133b25)
def c133r27:LO:=[oMv 65 0,oMv 4 65]
def c133:ACode:=.seq (rT c133r0 [0,1]) (.seq (.seq (rT c133r1 [0,1,10]) c133k3) (.seq (.seq (rT c133r4 [0,1,5]) c133k26) (.seq (rT c133r27 [4]) .ret)))
def g133:AFn:=⟨2,[(4,none)],c133,true,[],[],none⟩
theorem tr133:trFn Tryz.prog true 133 Tryz.f133=some g133:=by kernel_rfl
def c134:ACode:=.seq (rT [oBx 2 0,oBx 3 1,oP 4 .mv [cBo false]] [2,3]) (.seq (rT [oLf 5 2,oLf 6 3,oCl 7 83 [.t 5,.t 6],oBc 8 .eql 7 0,oMv 4 8] [4]) .ret)
def g134:AFn:=⟨2,[(4,none)],c134,false,[],[],none⟩
theorem tr134:trFn Tryz.prog false 134 Tryz.f134=some g134:=by kernel_rfl
def c135:ACode:=.seq (rT [oP 4 .mv [cIn 0]] [0,1]) (.seq (.seq (rT [oMv 5 0,oMv 6 1,oBi 7 .lss 5 6] [0,1,7]) (kRt 7 [oP 4 .mv [.c (.pv none (.int .i64 (-1)))]] [4])) (.seq (.seq (rT [oMv 8 0,oMv 9 1,oBi 10 .gtr 8 9] [10]) (kRt 10 [oP 4 .mv [cIn 1]] [4])) (.seq (rT [oP 4 .mv [cIn 0]] [4]) .ret)))
def g135:AFn:=⟨2,[(4,none)],c135,false,[],[],none⟩
theorem tr135:trFn Tryz.prog false 135 Tryz.f135=some g135:=by kernel_rfl
def c136:ACode:=.seq (rT [oP 4 .mv [cIn 0]] [0,1]) (.seq (.seq (rT [oP 5 .mv [cIn 0]] [0,1,5]) (.block 0 (.loop [0,1,5] (.seq (.seq (rT [oMv 6 5,oMv 7 0,oUn 8 .slen 7,oBi 9 .lss 6 8,oMv 10 9,oG 11 .mv [.t 5] 10 true,oG 12 .mv [.t 1] 10 true,oG 13 .slen [.t 12] 10 true,
 oG 14 (.bin .lss) [.t 11,.t 13] 10 true,oP 15 .pick [.t 10,.t 14,cBo false]] [0,1,5,15]) (kEx 15 0)) (.seq (.block 1 (.seq (.seq (rT [oMv 18 0,oMv 19 5,oP 20 .sindex [.t 18,.t 19],oMv 21 1,oMv 22 5,oP 23 .sindex [.t 21,.t 22],oBi 24 .lss 20 23] [0,
 1,5,24]) (kRt 24 [oP 4 .mv [.c (.pv none (.int .i64 (-1)))]] [4])) (.seq (rT [oMv 25 0,oMv 26 5,oP 27 .sindex [.t 25,.t 26],oMv 28 1,oMv 29 5,oP 30 .sindex [.t 28,.t 29],oBi 31 .gtr 27 30] [0,1,5,31]) (kRt 31 [oP 4 .mv [cIn 1]] [4])))) (rT [oMv 16 5,
 oBc 17 .add 16 1,oMv 5 17] [0,1,5])))))) (.seq (rT [oMv 32 0,oUn 33 .slen 32,oMv 34 1,oUn 35 .slen 34,oCl 36 135 [.t 33,.t 35],oMv 4 36] [4]) .ret))
def g136:AFn:=⟨2,[(4,none)],c136,false,[],[],none⟩
theorem tr136:trFn Tryz.prog false 136 Tryz.f136=some g136:=by kernel_rfl
def c137:ACode:=.seq (rT [oP 4 .mv [cIn 0]] [0,1]) (.seq (.seq (rT [oP 5 .mv [cIn 0]] [0,1,5]) (.block 0 (.loop [0,1,5] (.seq (.seq (rT [oMv 6 5,oMv 7 0,oUn 8 .len 7,oBi 9 .lss 6 8] [0,1,5,9]) (kEx 9 0)) (.seq (.block 1 (.seq (rT [oMv 12 0,oMv 13 5,oP 14 (.iaddr none) [.t 12,
 .t 13],oLo 15 14,oMv 16 1,oBi 17 .eql 15 16] [0,1,5,17]) (kRt 17 [oMv 18 5,oMv 4 18] [4]))) (rT [oMv 10 5,oBc 11 .add 10 1,oMv 5 11] [0,1,5])))))) (.seq (rT [oP 4 .mv [.c (.pv none (.int .i64 (-1)))]] [4]) .ret))
def g137:AFn:=⟨2,[(4,none)],c137,false,[],[],none⟩
theorem tr137:trFn Tryz.prog false 137 Tryz.f137=some g137:=by kernel_rfl
def c138:ACode:=.seq (rT [oP 6 .mv [cIn 20]] [0,1,2,6]) (.seq (rT [oMv 10 6,oP 7 .mv [cIn 0],oMv 8 10] [0,1,2,6,7,8]) (.seq (.block 0 (.loop [0,1,2,6,7,8] (.seq (.seq (rT [oMv 11 8,oMv 12 1,oBi 13 .leq 11 12] [0,1,2,6,7,8,13]) (kEx 13 0)) (.block 1 (.seq (rT [oMv 14 0,
 oMv 15 7,oMv 16 8,oMv 17 2,oCl 18 150 [.t 14,.t 15,.t 16,.t 17]] [0,1,2,6,8]) (.seq (rT [oMv 19 8,oMv 7 19] [0,1,2,6,7,8]) (rT [oMv 20 8,oMv 21 6,oBi 22 .add 20 21,oMv 8 22] [0,1,2,6,7,8]))))))) (.seq (rT [oMv 23 0,oMv 24 7,oMv 25 1,oMv 26 2,
 oCl 27 150 [.t 23,.t 24,.t 25,.t 26]] [0,1,2,6]) (.block 2 (.loop [0,1,2,6] (.seq (.seq (rT [oMv 28 6,oMv 29 1,oBi 30 .lss 28 29] [0,1,2,6,30]) (kEx 30 2)) (.block 3 (.seq (rT [oMv 31 6,oP 32 (.bin .mul) [cIn 2,.t 31],oP 7 .mv [cIn 0],oMv 8 32] [0,
 1,2,6,7,8]) (.seq (.block 4 (.loop [0,1,2,6,7,8] (.seq (.seq (rT [oMv 33 8,oMv 34 1,oBi 35 .leq 33 34] [0,1,2,6,7,8,35]) (kEx 35 4)) (.block 5 (.seq (rT [oMv 36 0,oMv 37 7,oMv 38 7,oMv 39 6,oBi 40 .add 38 39,oMv 41 8,oMv 42 2,oCl 43 151 [.t 36,
 .t 37,.t 40,.t 41,.t 42]] [0,1,2,6,8]) (.seq (rT [oMv 44 8,oMv 7 44] [0,1,2,6,7,8]) (rT [oMv 45 8,oMv 46 6,oP 47 (.bin .mul) [cIn 2,.t 46],oBi 48 .add 45 47,oMv 8 48] [0,1,2,6,7,8]))))))) (.seq (.seq (rT [oMv 49 7,oMv 50 6,oBi 51 .add 49 50,
 oMv 9 51] [0,1,2,6,7,9]) (.seq (rT [oMv 52 9,oMv 53 1,oBi 54 .lss 52 53] [0,1,2,6,7,9,54]) (.cond (.t 54) (rT [oMv 55 0,oMv 56 7,oMv 57 9,oMv 58 1,oMv 59 2,oCl 60 151 [.t 55,.t 56,.t 57,.t 58,.t 59]] [0,1,2,6]) .skip))) (rT [oMv 61 6,oBc 62 .mul 61 2,
 oMv 6 62] [0,1,2,6])))))))))))
def g138:AFn:=⟨3,[],c138,true,[],[],none⟩
theorem tr138:trFn Tryz.prog true 138 Tryz.f138=some g138:=by kernel_rfl
def c139:ACode:=.seq (rT [oP 2 .mv [cBo false]] [0]) (.seq (rT [oMv 3 0,oMv 4 0,oBi 5 .neq 3 4,oMv 2 5] [2]) .ret)
def g139:AFn:=⟨1,[(2,none)],c139,false,[],[],none⟩
theorem tr139:trFn Tryz.prog false 139 Tryz.f139=some g139:=by kernel_rfl
def c140:ACode:=.seq (rT [oP 2 .mv [cBo false]] [0]) (.seq (rT [oMv 3 0,oMv 4 0,oBi 5 .neq 3 4,oMv 2 5] [2]) .ret)
def g140:AFn:=⟨1,[(2,none)],c140,false,[],[],none⟩
theorem tr140:trFn Tryz.prog false 140 Tryz.f140=some g140:=by kernel_rfl
def c141:ACode:=.seq (rT [oP 4 .mv [cIn 0]] [0,1]) (.seq (rT [oMv 5 0,oMv 6 1,oCl 7 152 [.t 5,.t 6],oMv 4 7] [4]) .ret)
def g141:AFn:=⟨2,[(4,none)],c141,false,[],[],none⟩
theorem tr141:trFn Tryz.prog false 141 Tryz.f141=some g141:=by kernel_rfl
def c142r0:LO:=[oP 6 .mv [cBo false]]
def c142r1:LO:=[oMv 11 2,oMv 12 1,oP 13 (.lookup false none (.pv none (.int .i64 0)) false) [.t 11,.t 12],oBc 14 .neq 13 0]
def c142r2:LO:=[oMv 15 2,oMv 16 1,oP 17 (.lookup false none (.pv none (.int .i64 0)) false) [.t 15,.t 16],oBc 18 .eql 17 1,oMv 6 18]
def c142k3:ACode:=kRt 14 c142r2 [6]
def c142r4:LO:=[oMv 20 0,oMv 21 1,oP 22 (bZ [1]) [.t 21],oCl 23 145 [.t 20,.t 22],oMv 19 23,oEx 24 0 19,oEx 25 1 19,oP 7 aZ [],oSf 7 24,oMv 8 25]
def c142r5:LO:=[oMv 26 8,oUn 27 .not 26]
def c142r6:LO:=[oP 6 .mv [cBo false]]
def c142k7:ACode:=kRt 27 c142r6 [6]
def c142r8:LO:=[oMv 28 2,oMv 29 1,⟨none,(.mapset false none),[.t 28,.t 29,cIn 1],none⟩]
def c142r9:LO:=[oLf 30 7,oCl 31 64 [.t 30],oUn 32 .len 31,oP 33 .mv [cIn 0]]
def c142r10:LO:=[oBi 34 .lss 33 32]
def c142k11:ACode:=kEx 34 0
def c142r12:LO:=[oP 35 (.iaddr none) [.t 31,.t 33],oLo 36 35,oMv 10 36]
def c142r13:LO:=[oMv 37 0,oMv 38 10,oMv 39 2,oCl 40 142 [.t 37,.t 38,.t 39]]
def c142r14:LO:=[oP 6 .mv [cBo true]]
def c142k15:ACode:=kRt 40 c142r14 [6]
def c142k16:ACode:=.block 1 (.seq (rT c142r12 [0,1,2,10,31,32,33]) (.seq (rT c142r13 [0,1,2,31,32,33,40]) c142k15))
def c142r17:LO:=[oBc 41 .add 33 1,oMv 33 41]
def c142b18:ACode:=.seq (rT c142r10 [0,1,2,31,32,33,34]) (.seq c142k11 (.seq c142k16 (rT c142r17 [0,1,2,31,32,33])))
def c142k19:ACode:=.block 0 (.loop [0,1,2,31,32,33] c142b18)
def c142r20:LO:=[oMv 42 2,oMv 43 1,⟨none,(.mapset false none),[.t 42,.t 43,cIn 2],none⟩]
def c142r21:LO:=[oP 6 .mv [cBo false]]
def c142:ACode:=.seq (rT c142r0 [0,1,2]) (.seq (.seq (rT c142r1 [0,1,2,14]) c142k3) (.seq (rT c142r4 [0,1,2,7,8]) (.seq (.seq (rT c142r5 [0,1,2,7,27]) c142k7) (.seq (rT c142r8 [0,1,2,7]) (.seq (.seq (rT c142r9 [0,1,2,31,32,33]) c142k19) (.seq (rT c142r20 []) (.seq (rT c142r21 [6]) .ret)))))))
def g142:AFn:=⟨3,[(6,none)],c142,true,[],[],none⟩
theorem tr142:trFn Tryz.prog true 142 Tryz.f142=some g142:=by kernel_rfl
def c143:ACode:=.seq (rT [oBx 3 1,oP 4 aZ []] [0,3,4]) (.block 0 (.loop [0,3,4] ((.block 1 (.seq (rT [oMv 8 0,oLf 9 3,oCl 10 145 [.t 8,.t 9],oMv 7 10,oEx 11 0 7,oEx 12 1 7,oP 5 aZ [],oSf 5 11,oMv 6 12] [0,3,4,5,6]) (.seq (.seq (rT [oMv 13 6,oUn 14 .not 13] [0,
 3,4,5,14]) (kRt 14 [oLf 15 3,oSf 4 15] [4])) (rT [oLf 16 5,oSf 3 16] [0,3,4])))))))
def g143:AFn:=⟨2,[(4,some (some 4))],c143,true,[],[],none⟩
theorem tr143:trFn Tryz.prog true 143 Tryz.f143=some g143:=by kernel_rfl
def c144:ACode:=.seq (rT [oBx 4 1,oBx 5 2,oP 6 .mv [cBo false]] [0,4,5]) (.seq (.block 0 (.seq (rT [oFa 8 0 4,oLo 9 8,oBc 10 .eql 9 0,oMv 11 10,oG 12 (.faddr 0) [.t 5] 11 true,oG 13 (.load none) [.t 12] 11 true,oG 14 (.bin .eql) [.t 13,cIn 0] 11 true,oP 15 .pick [.t 11,
 .t 14,cBo false],oMv 7 15] [0,4,5,7]) (.cond (.t 7) (.seq (rT [oFa 16 1 4,oLo 17 16,oFa 18 1 5,oLo 19 18,oBi 20 .neq 17 19] [0,4,5,20]) (.cond (.t 20) (rT [oMv 21 0,oFa 22 1 4,oLo 23 22,oFa 24 1 5,oLo 25 24,oP 26 .max [.t 23,.t 25],oFa 27 1 4,
 oLo 28 27,oFa 29 1 5,oLo 30 29,oP 31 .min [.t 28,.t 30],oP 32 (bZ [1]) [.t 31],oCl 33 153 [.t 21,.t 26,.t 32]] []) .skip)) (.seq (rT [oFa 35 0 4,oLo 36 35,oBc 37 .eql 36 0,oMv 34 37] [0,4,5,34]) (.cond (.t 34) (rT [oMv 38 0,oFa 39 1 4,oLo 40 39,
 oLf 41 5,oCl 42 153 [.t 38,.t 40,.t 41]] []) (.seq (rT [oFa 44 0 5,oLo 45 44,oBc 46 .eql 45 0,oMv 43 46] [0,4,5,43]) (.cond (.t 43) (rT [oMv 47 0,oFa 48 1 5,oLo 49 48,oLf 50 4,oCl 51 153 [.t 47,.t 49,.t 50]] []) (.seq (rT [oFa 53 0 4,oLo 54 53,
 oFa 55 0 5,oLo 56 55,oBi 57 .neq 54 56,oMv 58 57,oG 59 (.faddr 1) [.t 4] 58 false,oG 60 (.load none) [.t 59] 58 false,oG 61 (.faddr 1) [.t 5] 58 false,oG 62 (.load none) [.t 61] 58 false,oG 63 (.bin .neq) [.t 60,.t 62] 58 false,oP 64 .pick [.t 58,
 cBo true,.t 63],oMv 65 64,oG 66 (.faddr 2) [.t 4] 65 false,oG 67 (.load none) [.t 66] 65 false,oG 68 (.faddr 2) [.t 5] 65 false,oG 69 (.load none) [.t 68] 65 false,oG 70 (.bin .neq) [.t 67,.t 69] 65 false,oP 71 .pick [.t 65,cBo true,.t 70],oMv 72 71,
 oG 73 (.faddr 3) [.t 4] 72 false,oG 74 (.load none) [.t 73] 72 false,oG 75 .len [.t 74] 72 false,oG 76 (.faddr 3) [.t 5] 72 false,oG 77 (.load none) [.t 76] 72 false,oG 78 .len [.t 77] 72 false,oG 79 (.bin .neq) [.t 75,.t 78] 72 false,oP 80 .pick [.t 72,
 cBo true,.t 79],oMv 52 80] [52]) (.cond (.t 52) (rT [oP 81 (.build A4 [0]) [cIn 4],oUn 82 (.mkiface 100) 81,⟨none,.panic,[.t 82],none⟩] []) (.seq (rT [oP 6 .mv [cBo true]] [6]) .ret)))))))))) (.seq (rT [oP 6 .mv [cBo false]] [6]) .ret))
def g144:AFn:=⟨3,[(6,none)],c144,true,[],[],none⟩
theorem tr144:trFn Tryz.prog true 144 Tryz.f144=some g144:=by kernel_rfl
def c145:ACode:=.seq (rT [oBx 3 1,oP 4 aZ [],oP 5 .mv [cBo false]] [0,3,4]) (.seq (.seq (rT [oFa 8 0 3,oLo 9 8,oBc 10 .neq 9 0] [0,3,4,10]) (kRt 10 [oP 11 (bZ []) [],oSf 4 11,oP 5 .mv [cBo false]] [4,5])) (.seq (rT [oMv 13 0,oFa 14 1 3,oLo 15 14,oCl 16 154 [.t 13,
 .t 15],oMv 12 16,oEx 17 0 12,oEx 18 1 12,oMv 6 17,oMv 7 18] [0,4,6,7]) (.seq (.seq (rT [oMv 19 7,oUn 20 .not 19] [0,4,6,20]) (kRt 20 [oP 21 (bZ []) [],oSf 4 21,oP 5 .mv [cBo false]] [4,5])) (.seq (rT [oMv 22 0,oMv 23 6,oP 24 (.iaddr (some 5)) [.t 22,
 .t 23],oFa 25 1 24,oLf 26 25,oSf 4 26,oP 5 .mv [cBo true]] [4,5]) .ret))))
def g145:AFn:=⟨2,[(4,some (some 4)),(5,none)],c145,true,[],[],none⟩
theorem tr145:trFn Tryz.prog true 145 Tryz.f145=some g145:=by kernel_rfl
def c146:ACode:=.seq (rT [oP 4 .mv [cIn 0]] [0,1]) (.seq (rT [oMv 8 0,oUn 9 .len 8,oP 5 .mv [cIn 0],oMv 6 9] [0,1,5,6]) (.seq (.block 0 (.loop [0,1,5,6] (.seq (.seq (rT [oMv 10 5,oMv 11 6,oBi 12 .lss 10 11] [0,1,5,6,12]) (kEx 12 0)) (.block 1 (.seq (rT [oMv 13 5,
 oMv 14 6,oBi 15 .add 13 14,oBc 16 .quo 15 2,oMv 7 16] [0,1,5,6,7]) (.seq (rT [oMv 17 0,oMv 18 7,oP 19 (.iaddr (some 5)) [.t 17,.t 18],oFa 20 0 19,oLo 21 20,oMv 22 1,oBi 23 .lss 21 22] [0,1,5,6,7,23]) (.cond (.t 23) (rT [oMv 24 7,oBc 25 .add 24 1,
 oMv 5 25] [0,1,5,6]) (rT [oMv 26 7,oMv 6 26] [0,1,5,6])))))))) (.seq (.seq (rT [oMv 27 5,oMv 28 0,oUn 29 .len 28,oBi 30 .lss 27 29,oMv 31 30,oG 32 .mv [.t 0] 31 true,oG 33 .mv [.t 5] 31 true,oG 34 (.iaddr (some 5)) [.t 32,.t 33] 31 true,oG 35 (.faddr 0) [.t 34] 31 true,
 oG 36 (.load none) [.t 35] 31 true,oG 37 .mv [.t 1] 31 true,oG 38 (.bin .eql) [.t 36,.t 37] 31 true,oP 39 .pick [.t 31,.t 38,cBo false]] [5,39]) (kRt 39 [oMv 40 5,oMv 4 40] [4])) (.seq (rT [oP 4 .mv [.c (.pv none (.int .i64 (-1)))]] [4]) .ret))))
def g146:AFn:=⟨2,[(4,none)],c146,false,[],[],none⟩
theorem tr146:trFn Tryz.prog false 146 Tryz.f146=some g146:=by kernel_rfl
def c147:ACode:=.seq (rT [oBx 3 1,oP 4 aZ []] [0,3,4]) (.seq (.block 0 (.loop [0,3,4] (.seq (.seq (rT [oFa 6 0 3,oLo 7 6,oBc 8 .eql 7 0] [0,3,4,8]) (kEx 8 0)) (.block 1 (.seq (rT [oMv 9 0,oFa 10 1 3,oLo 11 10,oCl 12 146 [.t 9,.t 11],oMv 5 12] [0,3,4,5]) (.seq (.seq (rT [oMv 13 5,
 oBc 14 .lss 13 0] [0,3,4,5,14]) (kRt 14 [oLf 15 3,oSf 4 15] [4])) (rT [oMv 16 0,oMv 17 5,oP 18 (.iaddr (some 5)) [.t 16,.t 17],oFa 19 1 18,oLf 20 19,oSf 3 20] [0,3,4]))))))) (.seq (rT [oLf 21 3,oSf 4 21] [4]) .ret))
def g147:AFn:=⟨2,[(4,some (some 4))],c147,false,[],[],none⟩
theorem tr147:trFn Tryz.prog false 147 Tryz.f147=some g147:=by kernel_rfl
def c148:ACode:=.seq (rT [oBx 5 2,oP 6 (.nilsl (some 5)) []] [0,1,5]) (.seq (rT [oP 7 (.nilsl (some 5)) []] [0,1,5,7]) (.seq (rT [oP 8 .mv [cBo false]] [0,1,5,7,8]) (.seq (.seq (rT [oP 9 .mv [cIn 0]] [0,1,5,7,8,9]) (.block 0 (.loop [0,1,5,7,8,9] (.seq (.seq (rT [oMv 10 9,
 oMv 11 0,oUn 12 .len 11,oBi 13 .lss 10 12] [0,1,5,7,8,9,13]) (kEx 13 0)) (.seq (.block 1 (.seq (.seq (rT [oMv 16 8,oUn 17 .not 16,oMv 18 17,oG 19 .mv [.t 0] 18 true,oG 20 .mv [.t 9] 18 true,oG 21 (.iaddr (some 5)) [.t 19,.t 20] 18 true,oG 22 (.faddr 0) [.t 21] 18 true,
 oG 23 (.load none) [.t 22] 18 true,oG 24 .mv [.t 1] 18 true,oG 25 (.bin .gtr) [.t 23,.t 24] 18 true,oP 26 .pick [.t 18,.t 25,cBo false]] [0,1,5,7,8,9,26]) (.cond (.t 26) (.seq (rT [oMv 27 7,oMv 28 1,oLf 29 5,oP 30 (.build [(none,.pv none (.int .i64 0)),
 (some 4,.agg A0)] [0,1]) [.t 28,.t 29],oUn 31 (.bslice (some 5)) 30,oP 32 (.append (some 5)) [.t 27,.t 31],oMv 7 32] [0,
 1,5,7,9]) (rT [oP 8 .mv [cBo true]] [0,1,5,7,8,9])) .skip)) (rT [oMv 33 7,oMv 34 0,oMv 35 9,oP 36 (.iaddr (some 5)) [.t 34,.t 35],oUn 37 (.load (some 5)) 36,oUn 38 (.bslice (some 5)) 37,oP 39 (.append (some 5)) [.t 33,.t 38],oMv 7 39] [0,1,5,
 7,8,9]))) (rT [oMv 14 9,oBc 15 .add 14 1,oMv 9 15] [0,1,5,7,8,9])))))) (.seq (.seq (rT [oMv 40 8,oUn 41 .not 40] [1,5,7,41]) (.cond (.t 41) (rT [oMv 42 7,oMv 43 1,oLf 44 5,oP 45 (.build [(none,.pv none (.int .i64 0)),(some 4,.agg [(none,
 (.pv none (.int .i64 0))),(none,.pv none (.int .i64 0)),(none,.pv none (.str [])),(none,.tsl (some 4) [])])] [0,1]) [.t 43,.t 44],oUn 46 (.bslice (some 5)) 45,oP 47 (.append (some 5)) [.t 42,.t 46],oMv 7 47] [7]) .skip)) (.seq (rT [oMv 48 7,
 oMv 6 48] [6]) .ret)))))
def g148:AFn:=⟨3,[(6,none)],c148,false,[],[],none⟩
theorem tr148:trFn Tryz.prog false 148 Tryz.f148=some g148:=by kernel_rfl
def c149:ACode:=.seq (rT [oBx 5 2,oP 6 .mv [cBo false]] [0,1,5]) (.seq (rT [oP 7 (.alloc none (.tsl none [])) []] [0,1,5,7]) (.seq (rT [oMv 8 0,oMv 9 1,oLf 10 5,oCl 11 155 [.t 8,.t 9,.t 10,.t 7],oMv 6 11] [6]) .ret))
def g149:AFn:=⟨3,[(6,none)],c149,false,[],[],none⟩
theorem tr149:trFn Tryz.prog false 149 Tryz.f149=some g149:=by kernel_rfl
def c150r0:LO:=[oMv 10 1,oBc 11 .add 10 1,oMv 8 11]
def c150r1:LO:=[oMv 12 8,oMv 13 2,oBi 14 .lss 12 13]
def c150k2:ACode:=kEx 14 0
def c150r3:LO:=[oMv 17 8,oMv 9 17]
def c150r4:LO:=[oMv 18 9,oMv 19 1,oBi 20 .gtr 18 19,oMv 21 20,oG 22 .mv [.t 3] 21 true,oG 23 .mv [.t 0] 21 true,oG 24 .mv [.t 9] 21 true,oG 25 (.iaddr (some 4)) [.t 23,.t 24] 21 true,oG 26 (.load (some 4)) [.t 25] 21 true,oG 27 .mv [.t 0] 21 true,oG 28 .mv [.t 9] 21 true,
 oG 29 (.bin .sub) [.t 28,cIn 1] 21 true,oG 30 (.iaddr (some 4)) [.t 27,.t 29] 21 true,oG 31 (.load (some 4)) [.t 30] 21 true,oG 32 .call [.t 22,.t 26,.t 31] 21 true,oG 33 (.bin .lss) [.t 32,cIn 0] 21 true,oP 34 .pick [.t 21,.t 33,cBo false]]
def c150k5:ACode:=kEx 34 2
def c150r6:LO:=[oMv 37 0,oMv 38 9,oMv 39 0,oMv 40 9,oBc 41 .sub 40 1,oMv 42 0,oMv 43 9,oBc 44 .sub 43 1,oIa 45 42 44,oLf 46 45,oMv 47 0,oMv 48 9,oIa 49 47 48,oLf 50 49,oIa 51 37 38,oSf 51 46,oIa 52 39 41,oSf 52 50]
def c150k7:ACode:=.block 3 (rT c150r6 [0,1,2,3,8,9])
def c150r8:LO:=[oMv 35 9,oBc 36 .sub 35 1,oMv 9 36]
def c150b9:ACode:=.seq (.seq (rT c150r4 [0,1,2,3,8,9,34]) c150k5) (.seq c150k7 (rT c150r8 [0,1,2,3,8,9]))
def c150k10:ACode:=.block 2 (.loop [0,1,2,3,8,9] c150b9)
def c150k11:ACode:=.block 1 (.seq (rT c150r3 [0,1,2,3,8,9]) c150k10)
def c150r12:LO:=[oMv 15 8,oBc 16 .add 15 1,oMv 8 16]
def c150b13:ACode:=.seq (.seq (rT c150r1 [0,1,2,3,8,14]) c150k2) (.seq c150k11 (rT c150r12 [0,1,2,3,8]))
def c150k14:ACode:=.block 0 (.loop [0,1,2,3,8] c150b13)
def c150:ACode:=.seq (rT c150r0 [0,1,2,3,8]) c150k14
def g150:AFn:=⟨4,[],c150,true,[],[],none⟩
theorem tr150:trFn Tryz.prog true 150 Tryz.f150=some g150:=by kernel_rfl
def c151r0:LO:=[oMv 25 2,oMv 26 1,oBi 27 .sub 25 26,oBc 28 .eql 27 1]
def c151r1:LO:=[oMv 29 2,oMv 10 29]
def c151r2:LO:=[oMv 30 3,oMv 11 30]
def c151r3:LO:=[oMv 31 10,oMv 32 11,oBi 33 .lss 31 32]
def c151k4:ACode:=kEx 33 0
def c151r5:LO:=[oMv 34 10,oMv 35 11,oBi 36 .add 34 35,oUn 37 (.conv .u64) 36,oP 38 (.bin .shr) [.t 37,.c (.pv none (.int .u64 1))],oUn 39 (.conv .i64) 38,oMv 12 39]
def c151r6:LO:=[oMv 40 4,oMv 41 0,oMv 42 12,oIa 43 41 42,oLf 44 43,oMv 45 0,oMv 46 1,oIa 47 45 46,oLf 48 47,oP 49 .call [.t 40,.t 44,.t 48],oBc 50 .lss 49 0]
def c151r7:LO:=[oMv 51 12,oBc 52 .add 51 1,oMv 10 52]
def c151r8:LO:=[oMv 53 12,oMv 11 53]
def c151k9:ACode:=.cond (.t 50) (rT c151r7 [0,1,4,10,11]) (rT c151r8 [0,1,4,10,11])
def c151k10:ACode:=.block 1 (.seq (rT c151r5 [0,1,4,10,11,12]) (.seq (rT c151r6 [0,1,4,10,11,12,50]) c151k9))
def c151b11:ACode:=.seq (.seq (rT c151r3 [0,1,4,10,11,33]) c151k4) c151k10
def c151k12:ACode:=.block 0 (.loop [0,1,4,10,11] c151b11)
def c151r13:LO:=[oMv 54 1,oMv 13 54]
def c151r14:LO:=[oMv 55 13,oMv 56 10,oBc 57 .sub 56 1,oBi 58 .lss 55 57]
def c151k15:ACode:=kEx 58 2
def c151r16:LO:=[oMv 61 0,oMv 62 13,oMv 63 0,oMv 64 13,oBc 65 .add 64 1,oMv 66 0,oMv 67 13,oBc 68 .add 67 1,oIa 69 66 68,oLf 70 69,oMv 71 0,oMv 72 13,oIa 73 71 72,oLf 74 73,oIa 75 61 62,oSf 75 70,oIa 76 63 65,oSf 76 74]
def c151k17:ACode:=.block 3 (rT c151r16 [0,10,13])
def c151r18:LO:=[oMv 59 13,oBc 60 .add 59 1,oMv 13 60]
def c151b19:ACode:=.seq (.seq (rT c151r14 [0,10,13,58]) c151k15) (.seq c151k17 (rT c151r18 [0,10,13]))
def c151k20:ACode:=.block 2 (.loop [0,10,13] c151b19)
def c151k21:ACode:=.cond (.t 28) (.seq (rT c151r1 [0,1,3,4,10]) (.seq (rT c151r2 [0,1,4,10,11]) (.seq c151k12 (.seq (.seq (rT c151r13 [0,10,13]) c151k20) .ret)))) .skip
def c151r22:LO:=[oMv 77 3,oMv 78 2,oBi 79 .sub 77 78,oBc 80 .eql 79 1]
def c151r23:LO:=[oMv 81 1,oMv 14 81]
def c151r24:LO:=[oMv 82 2,oMv 15 82]
def c151r25:LO:=[oMv 83 14,oMv 84 15,oBi 85 .lss 83 84]
def c151k26:ACode:=kEx 85 4
def c151r27:LO:=[oMv 86 14,oMv 87 15,oBi 88 .add 86 87,oUn 89 (.conv .u64) 88,oP 90 (.bin .shr) [.t 89,.c (.pv none (.int .u64 1))],oUn 91 (.conv .i64) 90,oMv 16 91]
def c151r28:LO:=[oMv 92 4,oMv 93 0,oMv 94 2,oIa 95 93 94,oLf 96 95,oMv 97 0,oMv 98 16,oIa 99 97 98,oLf 100 99,oP 101 .call [.t 92,.t 96,.t 100],oBc 102 .lss 101 0,oUn 103 .not 102]
def c151r29:LO:=[oMv 104 16,oBc 105 .add 104 1,oMv 14 105]
def c151r30:LO:=[oMv 106 16,oMv 15 106]
def c151k31:ACode:=.cond (.t 103) (rT c151r29 [0,2,4,14,15]) (rT c151r30 [0,2,4,14,15])
def c151k32:ACode:=.block 5 (.seq (rT c151r27 [0,2,4,14,15,16]) (.seq (rT c151r28 [0,2,4,14,15,16,103]) c151k31))
def c151b33:ACode:=.seq (.seq (rT c151r25 [0,2,4,14,15,85]) c151k26) c151k32
def c151k34:ACode:=.block 4 (.loop [0,2,4,14,15] c151b33)
def c151r35:LO:=[oMv 107 2,oMv 17 107]
def c151r36:LO:=[oMv 108 17,oMv 109 14,oBi 110 .gtr 108 109]
def c151k37:ACode:=kEx 110 6
def c151r38:LO:=[oMv 113 0,oMv 114 17,oMv 115 0,oMv 116 17,oBc 117 .sub 116 1,oMv 118 0,oMv 119 17,oBc 120 .sub 119 1,oIa 121 118 120,oLf 122 121,oMv 123 0,oMv 124 17,oIa 125 123 124,oLf 126 125,oIa 127 113 114,oSf 127 122,oIa 128 115 117,oSf 128 126]
def c151k39:ACode:=.block 7 (rT c151r38 [0,14,17])
def c151r40:LO:=[oMv 111 17,oBc 112 .sub 111 1,oMv 17 112]
def c151b41:ACode:=.seq (.seq (rT c151r36 [0,14,17,110]) c151k37) (.seq c151k39 (rT c151r40 [0,14,17]))
def c151k42:ACode:=.block 6 (.loop [0,14,17] c151b41)
def c151k43:ACode:=.cond (.t 80) (.seq (rT c151r23 [0,2,4,14]) (.seq (rT c151r24 [0,2,4,14,15]) (.seq c151k34 (.seq (.seq (rT c151r35 [0,14,17]) c151k42) .ret)))) .skip
def c151r44:LO:=[oMv 129 1,oMv 130 3,oBi 131 .add 129 130,oUn 132 (.conv .u64) 131,oP 133 (.bin .shr) [.t 132,.c (.pv none (.int .u64 1))],oUn 134 (.conv .i64) 133,oMv 18 134]
def c151r45:LO:=[oMv 135 18,oMv 136 2,oBi 137 .add 135 136,oMv 19 137]
def c151r46:LO:=[oP 20 .mv [cIn 0],oP 21 .mv [cIn 0]]
def c151r47:LO:=[oMv 138 2,oMv 139 18,oBi 140 .gtr 138 139]
def c151r48:LO:=[oMv 141 19,oMv 142 3,oBi 143 .sub 141 142,oMv 20 143]
def c151r49:LO:=[oMv 144 18,oMv 21 144]
def c151r50:LO:=[oMv 145 1,oMv 20 145]
def c151r51:LO:=[oMv 146 2,oMv 21 146]
def c151k52:ACode:=.cond (.t 140) (.seq (rT c151r48 [0,1,2,3,4,18,19,20]) (rT c151r49 [0,1,2,3,4,18,19,20,21])) (.seq (rT c151r50 [0,1,2,3,4,18,19,20]) (rT c151r51 [0,1,2,3,4,18,19,20,21]))
def c151r53:LO:=[oMv 147 19,oBc 148 .sub 147 1,oMv 22 148]
def c151r54:LO:=[oMv 149 20,oMv 150 21,oBi 151 .lss 149 150]
def c151k55:ACode:=kEx 151 8
def c151r56:LO:=[oMv 152 20,oMv 153 21,oBi 154 .add 152 153,oUn 155 (.conv .u64) 154,oP 156 (.bin .shr) [.t 155,.c (.pv none (.int .u64 1))],oUn 157 (.conv .i64) 156,oMv 23 157]
def c151r57:LO:=[oMv 158 4,oMv 159 0,oMv 160 22,oMv 161 23,oBi 162 .sub 160 161,oIa 163 159 162,oLf 164 163,oMv 165 0,oMv 166 23,oIa 167 165 166,oLf 168 167,oP 169 .call [.t 158,.t 164,.t 168],oBc 170 .lss 169 0,oUn 171 .not 170]
def c151r58:LO:=[oMv 172 23,oBc 173 .add 172 1,oMv 20 173]
def c151r59:LO:=[oMv 174 23,oMv 21 174]
def c151k60:ACode:=.cond (.t 171) (rT c151r58 [0,1,2,3,4,18,19,20,21,22]) (rT c151r59 [0,1,2,3,4,18,19,20,21,22])
def c151k61:ACode:=.block 9 (.seq (rT c151r56 [0,1,2,3,4,18,19,20,21,22,23]) (.seq (rT c151r57 [0,1,2,3,4,18,19,20,21,22,23,171]) c151k60))
def c151b62:ACode:=.seq (.seq (rT c151r54 [0,1,2,3,4,18,19,20,21,22,151]) c151k55) c151k61
def c151k63:ACode:=.block 8 (.loop [0,1,2,3,4,18,19,20,21,22] c151b62)
def c151r64:LO:=[oMv 175 19,oMv 176 20,oBi 177 .sub 175 176,oMv 24 177]
def c151r65:LO:=[oMv 178 20,oMv 179 2,oBi 180 .lss 178 179,oMv 181 180,oG 182 .mv [.t 2] 181 true,oG 183 .mv [.t 24] 181 true,oG 184 (.bin .lss) [.t 182,.t 183] 181 true,oP 185 .pick [.t 181,.t 184,cBo false]]
def c151r66:LO:=[oMv 186 0,oMv 187 20,oMv 188 2,oMv 189 24,oMv 190 4,oCl 191 156 [.t 186,.t 187,.t 188,.t 189,.t 190]]
def c151k67:ACode:=.cond (.t 185) (rT c151r66 [0,1,3,4,18,20,24]) .skip
def c151r68:LO:=[oMv 192 1,oMv 193 20,oBi 194 .lss 192 193,oMv 195 194,oG 196 .mv [.t 20] 195 true,oG 197 .mv [.t 18] 195 true,oG 198 (.bin .lss) [.t 196,.t 197] 195 true,oP 199 .pick [.t 195,.t 198,cBo false]]
def c151r69:LO:=[oMv 200 0,oMv 201 1,oMv 202 20,oMv 203 18,oMv 204 4,oCl 205 151 [.t 200,.t 201,.t 202,.t 203,.t 204]]
def c151k70:ACode:=.cond (.t 199) (rT c151r69 [0,3,4,18,24]) .skip
def c151r71:LO:=[oMv 206 18,oMv 207 24,oBi 208 .lss 206 207,oMv 209 208,oG 210 .mv [.t 24] 209 true,oG 211 .mv [.t 3] 209 true,oG 212 (.bin .lss) [.t 210,.t 211] 209 true,oP 213 .pick [.t 209,.t 212,cBo false]]
def c151r72:LO:=[oMv 214 0,oMv 215 18,oMv 216 24,oMv 217 3,oMv 218 4,oCl 219 151 [.t 214,.t 215,.t 216,.t 217,.t 218]]
def c151k73:ACode:=.cond (.t 213) (rT c151r72 []) .skip
def c151:ACode:=.seq (.seq (rT c151r0 [0,1,2,3,4,28]) c151k21) (.seq (.seq (rT c151r22 [0,1,2,3,4,80]) c151k43) (.seq (rT c151r44 [0,1,2,3,4,18]) (.seq (rT c151r45 [0,1,2,3,4,18,19]) (.seq (rT c151r46 [0,1,2,3,4,18,19]) (.seq (.seq (rT c151r47 [0,1,2,3,4,18,
 19,140]) c151k52) (.seq (rT c151r53 [0,1,2,3,4,18,19,20,21,22]) (.seq c151k63 (.seq (rT c151r64 [0,1,2,3,4,18,20,24]) (.seq (.seq (rT c151r65 [0,1,2,3,4,18,20,24,185]) c151k67) (.seq (.seq (rT c151r68 [0,1,3,4,18,20,24,199]) c151k70) (.seq (rT c151r71 [0,
 3,4,18,24,213]) c151k73)))))))))))
def g151:AFn:=⟨5,[],c151,true,[],[],none⟩
theorem tr151:trFn Tryz.prog true 151 Tryz.f151=some g151:=by kernel_rfl
def c153:ACode:=.seq (rT [oBx 5 2] [0,1,5]) (.seq (.seq (rT [oMv 8 0,oUn 9 .nilcheck 8,oFa 10 0 9,oLo 11 10,oMv 12 1,oLf 13 5,oP 14 (.mkmap none) [],oCl 15 157 [.t 11,.t 12,.t 13,.t 14]] [0,1,5,15]) (.cond (.t 15) (rT [oP 16 (.build A4 [0]) [cIn 9],
 oUn 17 (.mkiface 100) 16,⟨none,.panic,[.t 17],none⟩] [0,1,5]) .skip)) (.seq (rT [oMv 19 0,oUn 20 .nilcheck 19,oFa 21 0 20,oLo 22 21,oMv 23 1,oCl 24 154 [.t 22,.t 23],oMv 18 24,oEx 25 0 18,oEx 26 1 18,oMv 6 25,oMv 7 26] [0,1,5,6]) (.region false [oMv 27 0,
 oMv 28 0,oUn 29 .nilcheck 28,oFa 30 0 29,oLo 31 30,oMv 32 6,oMv 33 1,oLf 34 5,oP 35 (.calln 1) [.t 30,cFn 38,.t 34],oP 36 (.build [(none,.pv none (.int .i64 0)),(some 4,.agg [(none,.pv none (.int .i64 0)),(none,.pv none (.int .i64 0)),
 (none,.pv none (.str [])),(none,.tsl (some 4) [])])] [0,1]) [.t 33,.t 35],oP 37 (.bslicen (some 5) 1) [.t 30,.t 36],oCl 38 158 [.t 31,.t 32,.t 37],oUn 39 .nilcheck 27,oFa 40 0 39,oSo 40 38] [])))
def g153:AFn:=⟨3,[],c153,true,[],[],none⟩
theorem tr153:trFn Tryz.prog true 153 Tryz.f153=some g153:=by kernel_rfl
def c154:ACode:=.seq (rT [oP 4 .mv [cIn 0],oP 5 .mv [cBo false]] [0,1]) (.seq (rT [oMv 6 0,oMv 7 1,oCl 8 159 [.t 6,.t 7,cFn 160],oEx 9 0 8,oEx 10 1 8,oMv 4 9,oMv 5 10] [4,5]) .ret)
def g154:AFn:=⟨2,[(4,none),(5,none)],c154,false,[],[],none⟩
theorem tr154:trFn Tryz.prog false 154 Tryz.f154=some g154:=by kernel_rfl
def c155:ACode:=.seq (rT [oBx 6 2,oP 8 .mv [cBo false]] [0,1,3,6]) (.seq (.seq (rT [oFa 12 0 6,oLo 13 12,oBc 14 .eql 13 0] [0,1,3,6,14]) (.cond (.t 14) (.seq (rT [oMv 15 0,oFa 16 1 6,oLo 17 16,oCl 18 146 [.t 15,.t 17],oMv 9 18] [0,1,3,6,9]) (.seq (.seq (rT [oMv 19 9,
 oBc 20 .lss 19 0] [0,1,3,6,9,20]) (kRt 20 [oFa 21 1 6,oLo 22 21,oMv 23 1,oBi 24 .eql 22 23,oMv 8 24] [8])) (.seq (.seq (rT [oP 10 .mv [cIn 0]] [0,1,3,6,9,10]) (.block 0 (.loop [0,1,3,6,9,10] (.seq (.seq (rT [oMv 25 10,oMv 26 3,oUn 27 .nilcheck 26,
 oLo 28 27,oUn 29 .len 28,oBi 30 .lss 25 29] [0,1,3,6,9,10,30]) (kEx 30 0)) (.seq (.block 1 (.seq (rT [oMv 33 3,oUn 34 .nilcheck 33,oLo 35 34,oMv 36 10,oP 37 (.iaddr none) [.t 35,.t 36],oLo 38 37,oFa 39 1 6,oLo 40 39,oBi 41 .eql 38 40] [0,1,3,
 6,9,10,41]) (kRt 41 [oP 8 .mv [cBo false]] [8]))) (rT [oMv 31 10,oBc 32 .add 31 1,oMv 10 32] [0,1,3,6,9,10])))))) (.seq (rT [oMv 42 3,oMv 43 3,oUn 44 .nilcheck 43,oLo 45 44,oFa 46 1 6,oLo 47 46,oP 48 (.bslicen none 1) [.t 44,.t 47],oP 49 (.append none) [.t 45,
 .t 48],oUn 50 .nilcheck 42,oSo 50 49] [0,1,3,9]) (.seq (rT [oMv 51 0,oMv 52 1,oMv 53 0,oMv 54 9,oP 55 (.iaddr (some 5)) [.t 53,.t 54],oFa 56 1 55,oLf 57 56,oMv 58 3,oCl 59 155 [.t 51,.t 52,.t 57,.t 58],oMv 8 59] [8]) .ret))))) .skip)) (.seq (.seq (rT [oP 11 .mv [cIn 0]] [0,
 1,3,6,11]) (.block 2 (.loop [0,1,3,6,11] (.seq (.seq (rT [oMv 60 11,oFa 61 3 6,oLo 62 61,oUn 63 .len 62,oBi 64 .lss 60 63] [0,1,3,6,11,64]) (kEx 64 2)) (.seq (.block 3 (.seq (rT [oMv 67 0,oMv 68 1,oFa 69 3 6,oLo 70 69,oMv 71 11,oIa 72 70 71,
 oLf 73 72,oMv 74 3,oCl 75 155 [.t 67,.t 68,.t 73,.t 74]] [0,1,3,6,11,75]) (kRt 75 [oP 8 .mv [cBo true]] [8]))) (rT [oMv 65 11,oBc 66 .add 65 1,oMv 11 66] [0,1,3,6,11])))))) (.seq (rT [oP 8 .mv [cBo false]] [8]) .ret)))
def g155:AFn:=⟨4,[(8,none)],c155,true,[],[],none⟩
theorem tr155:trFn Tryz.prog true 155 Tryz.f155=some g155:=by kernel_rfl
def c156:ACode:=.seq (rT [oMv 12 2,oMv 13 1,oBi 14 .sub 12 13,oMv 10 14] [0,2,3,4,10]) (.seq (rT [oMv 15 3,oMv 16 2,oBi 17 .sub 15 16,oMv 11 17] [0,2,4,10,11]) (.seq (.block 0 (.loop [0,2,4,10,11] (.seq (.seq (rT [oMv 18 10,oMv 19 11,oBi 20 .neq 18 19] [0,2,
 4,10,11,20]) (kEx 20 0)) (.block 1 (.seq (rT [oMv 21 10,oMv 22 11,oBi 23 .gtr 21 22] [0,2,4,10,11,23]) (.cond (.t 23) (.seq (rT [oMv 24 0,oMv 25 2,oMv 26 10,oBi 27 .sub 25 26,oMv 28 2,oMv 29 11,oMv 30 4,oCl 31 161 [.t 24,.t 27,.t 28,.t 29,.t 30]] [0,
 2,4,10,11]) (rT [oMv 32 10,oMv 33 11,oBi 34 .sub 32 33,oMv 10 34] [0,2,4,10,11])) (.seq (rT [oMv 35 0,oMv 36 2,oMv 37 10,oBi 38 .sub 36 37,oMv 39 2,oMv 40 11,oBi 41 .add 39 40,oMv 42 10,oBi 43 .sub 41 42,oMv 44 10,oMv 45 4,oCl 46 161 [.t 35,
 .t 38,.t 43,.t 44,.t 45]] [0,2,4,10,11]) (rT [oMv 47 11,oMv 48 10,oBi 49 .sub 47 48,oMv 11 49] [0,2,4,10,11])))))))) (rT [oMv 50 0,oMv 51 2,oMv 52 10,oBi 53 .sub 51 52,oMv 54 2,oMv 55 10,oMv 56 4,oCl 57 161 [.t 50,.t 53,.t 54,.t 55,.t 56]] [])))
def g156:AFn:=⟨5,[],c156,true,[],[],none⟩
theorem tr156:trFn Tryz.prog true 156 Tryz.f156=some g156:=by kernel_rfl
def c157r0:LO:=[oBx 6 2,oP 8 .mv [cBo false]]
def c157r1:LO:=[oFa 13 0 6,oLo 14 13,oBc 15 .eql 14 0]
def c157r2:LO:=[oMv 17 0,oLf 18 6,oCl 19 145 [.t 17,.t 18],oMv 16 19,oEx 20 0 16,oEx 21 1 16,oP 9 aZ [],oSf 9 20,oMv 10 21]
def c157r3:LO:=[oMv 22 10,oUn 23 .not 22]
def c157r4:LO:=[oFa 24 1 6,oLo 25 24,oMv 26 1,oBi 27 .eql 25 26,oMv 8 27]
def c157k5:ACode:=kRt 23 c157r4 [8]
def c157r6:LO:=[oMv 28 3,oFa 29 1 6,oLo 30 29,oP 31 (.lookup false none (.pv none (.int .i64 0)) false) [.t 28,.t 30],oBc 32 .add 31 1,⟨none,(.mapset false none),[.t 28,.t 30,.t 32],none⟩]
def c157r7:LO:=[oMv 33 3,oFa 34 1 6,oLo 35 34,oP 36 (.lookup false none (.pv none (.int .i64 0)) false) [.t 33,.t 35],oBc 37 .eql 36 1,oMv 38 37,oG 39 .mv [.t 0] 38 true,oG 40 .mv [.t 1] 38 true,oG 41 (.load (some 4)) [.t 9] 38 true,oG 42 .mv [.t 3] 38 true,
 oG 43 .call [cFn 157,.t 39,.t 40,.t 41,.t 42] 38 true,oP 44 .pick [.t 38,.t 43,cBo false],oMv 8 44]
def c157k8:ACode:=.cond (.t 15) (.seq (rT c157r2 [0,1,3,6,9,10]) (.seq (.seq (rT c157r3 [0,1,3,6,9,23]) c157k5) (.seq (rT c157r6 [0,1,3,6,9]) (.seq (rT c157r7 [8]) .ret)))) .skip
def c157r9:LO:=[oFa 45 3 6,oLo 46 45,oUn 47 .len 46,oP 48 .mv [cIn 0]]
def c157r10:LO:=[oBi 49 .lss 48 47]
def c157k11:ACode:=kEx 49 0
def c157r12:LO:=[oIa 50 46 48,oLf 51 50,oP 12 aZ [],oSf 12 51]
def c157r13:LO:=[oMv 52 0,oMv 53 1,oLf 54 12,oMv 55 3,oCl 56 157 [.t 52,.t 53,.t 54,.t 55]]
def c157r14:LO:=[oP 8 .mv [cBo true]]
def c157k15:ACode:=kRt 56 c157r14 [8]
def c157k16:ACode:=.block 1 (.seq (rT c157r12 [0,1,3,12,46,47,48]) (.seq (rT c157r13 [0,1,3,46,47,48,56]) c157k15))
def c157r17:LO:=[oBc 57 .add 48 1,oMv 48 57]
def c157b18:ACode:=.seq (rT c157r10 [0,1,3,46,47,48,49]) (.seq c157k11 (.seq c157k16 (rT c157r17 [0,1,3,46,47,48])))
def c157k19:ACode:=.block 0 (.loop [0,1,3,46,47,48] c157b18)
def c157r20:LO:=[oP 8 .mv [cBo false]]
def c157:ACode:=.seq (rT c157r0 [0,1,3,6]) (.seq (.seq (rT c157r1 [0,1,3,6,15]) c157k8) (.seq (.seq (rT c157r9 [0,1,3,46,47,48]) c157k19) (.seq (rT c157r20 [8]) .ret)))
def g157:AFn:=⟨4,[(8,none)],c157,true,[],[],none⟩
theorem tr157:trFn Tryz.prog true 157 Tryz.f157=some g157:=by kernel_rfl
def c159:ACode:=.seq (rT [oP 6 .mv [cIn 0],oP 7 .mv [cBo false]] [0,1,2]) (.seq (rT [oMv 12 0,oUn 13 .len 12,oMv 8 13] [0,1,2,8]) (.seq (rT [oMv 14 8,oP 9 .mv [cIn 0],oMv 10 14] [0,1,2,8,9,10]) (.seq (.block 0 (.loop [0,1,2,8,9,10] (.seq (.seq (rT [oMv 15 9,
 oMv 16 10,oBi 17 .lss 15 16] [0,1,2,8,9,10,17]) (kEx 17 0)) (.block 1 (.seq (rT [oMv 18 9,oMv 19 10,oBi 20 .add 18 19,oUn 21 (.conv .u64) 20,oP 22 (.bin .shr) [.t 21,.c (.pv none (.int .u64 1))],oUn 23 (.conv .i64) 22,oMv 11 23] [0,1,2,8,9,10,
 11]) (.seq (rT [oMv 24 2,oMv 25 0,oMv 26 11,oP 27 (.iaddr (some 5)) [.t 25,.t 26],oUn 28 (.load (some 5)) 27,oMv 29 1,oP 30 .call [.t 24,.t 28,.t 29],oBc 31 .lss 30 0] [0,1,2,8,9,10,11,31]) (.cond (.t 31) (rT [oMv 32 11,oBc 33 .add 32 1,oMv 9 33] [0,
 1,2,8,9,10]) (rT [oMv 34 11,oMv 10 34] [0,1,2,8,9,10])))))))) (.seq (rT [oMv 35 9,oMv 36 9,oMv 37 8,oBi 38 .lss 36 37,oMv 39 38,oG 40 .mv [.t 2] 39 true,oG 41 .mv [.t 0] 39 true,oG 42 .mv [.t 9] 39 true,oG 43 (.iaddr (some 5)) [.t 41,.t 42] 39 true,
 oG 44 (.load (some 5)) [.t 43] 39 true,oG 45 .mv [.t 1] 39 true,oG 46 .call [.t 40,.t 44,.t 45] 39 true,oG 47 (.bin .eql) [.t 46,cIn 0] 39 true,oP 48 .pick [.t 39,.t 47,cBo false],oMv 6 35,oMv 7 48] [6,7]) .ret))))
def g159:AFn:=⟨3,[(6,none),(7,none)],c159,false,[],[],none⟩
theorem tr159:trFn Tryz.prog false 159 Tryz.f159=some g159:=by kernel_rfl
def c160:ACode:=.seq (rT [oUn 2 (.box (some 5)) 0,oP 4 .mv [cIn 0]] [1,2]) (.seq (rT [oFa 5 0 2,oLo 6 5,oMv 7 1,oCl 8 117 [.t 6,.t 7],oMv 4 8] [4]) .ret)
def g160:AFn:=⟨2,[(4,none)],c160,false,[],[],none⟩
theorem tr160:trFn Tryz.prog false 160 Tryz.f160=some g160:=by kernel_rfl
def c161:ACode:=.seq (rT [oP 10 .mv [cIn 0]] [0,1,2,3,10]) (.block 0 (.loop [0,1,2,3,10] (.seq (.seq (rT [oMv 11 10,oMv 12 3,oBi 13 .lss 11 12] [0,1,2,3,10,13]) (kEx 13 0)) (.seq (.block 1 (rT [oMv 16 0,oMv 17 1,oMv 18 10,oBi 19 .add 17 18,oMv 20 0,oMv 21 2,
 oMv 22 10,oBi 23 .add 21 22,oMv 24 0,oMv 25 2,oMv 26 10,oBi 27 .add 25 26,oIa 28 24 27,oLf 29 28,oMv 30 0,oMv 31 1,oMv 32 10,oBi 33 .add 31 32,oIa 34 30 33,oLf 35 34,oIa 36 16 19,oSf 36 29,oIa 37 20 23,oSf 37 35] [0,1,2,3,10])) (rT [oMv 14 10,
 oBc 15 .add 14 1,oMv 10 15] [0,1,2,3,10])))))
def g161:AFn:=⟨5,[],c161,true,[],[],none⟩
theorem tr161:trFn Tryz.prog true 161 Tryz.f161=some g161:=by kernel_rfl
def tab:List (Nat × AFn):=[(4,g4),(9,g9),(10,g10),(11,g11),(12,g12),(13,g13),(14,g14),(15,g15),(16,g16),(17,g17),(18,g18),(21,g21),(25,g25),(26,g26),(27,g27),(28,g28),(29,g29),(30,g30),(31,g31),(32,g32),(33,g33),(34,g34),(35,g35),(36,g36),(37,g37),(38,g38),(39,g39),(40,g40),(41,g41),(42,g42),(43,g43),(44,g44),(45,g45),(46,g46),(47,g47),(48,g48),(49,g49),(50,g50),(51,g51),(52,g52),(53,g53),(54,g54),(55,g55),(56,g56),(57,g57),(58,g58),(59,g59),(60,g60),(63,g63),(64,g64),(65,g65),(67,g67),(68,g68),(69,g69),(74,g74),(75,g75),(76,g76),(77,g77),(78,g78),(79,g79),(80,g80),(81,g81),(82,g82),(83,g83),(84,g84),(85,g85),(86,g86),(87,g87),(88,g88),(89,g89),(90,g90),(91,g91),(92,g92),(93,g93),(94,g94),(95,g95),(96,g96),(97,g97),(98,g98),(99,g99),(100,g100),(101,g101),(102,g102),(103,g103),(104,g104),(105,g105),(106,g106),(108,g108),(109,g109),(111,g111),(112,g112),(113,g113),(114,g114),(115,g115),(116,g116),(117,g117),(118,g118),(119,g119),(120,g120),(121,g121),(122,g122),(123,g123),(124,g124),(125,g125),(126,g126),(127,g127),(128,g128),(129,g129),(130,g130),(131,g131),(132,g132),(133,g133),(134,g134),(135,g135),(136,g136),(137,g137),(138,g138),(139,g139),(140,g140),(141,g141),(142,g142),(143,g143),(144,g144),(145,g145),(146,g146),(147,g147),(148,g148),(149,g149),(150,g150),(151,g151),(153,g153),(154,g154),(155,g155),(156,g156),(157,g157),(159,g159),(160,g160),(161,g161)]
theorem Mi:qW Tryz.prog tab:=
 (zX Tryz.func4 tr4
 (zX Tryz.func9 tr9
 (zX Tryz.func10 tr10
 (zX Tryz.func11 tr11
 (zX Tryz.func12 tr12
 (zX Tryz.func13 tr13
 (zX Tryz.func14 tr14
 (zX Tryz.func15 tr15
 (zX Tryz.func16 tr16
 (zX Tryz.func17 tr17
 (zX Tryz.func18 tr18
 (zX Tryz.func21 tr21
 (zX Tryz.func25 tr25
 (zX Tryz.func26 tr26
 (zX Tryz.func27 tr27
 (zX Tryz.func28 tr28
 (zX Tryz.func29 tr29
 (zX Tryz.func30 tr30
 (zX Tryz.func31 tr31
 (zX Tryz.func32 tr32
 (zX Tryz.func33 tr33
 (zX Tryz.func34 tr34
 (zX Tryz.func35 tr35
 (zX Tryz.func36 tr36
 (zX Tryz.func37 tr37
 (zX Tryz.func38 tr38
 (zX Tryz.func39 tr39
 (zX Tryz.func40 tr40
 (zX Tryz.func41 tr41
 (zX Tryz.func42 tr42
 (zX Tryz.func43 tr43
 (zX Tryz.func44 tr44
 (zX Tryz.func45 tr45
 (zX Tryz.func46 tr46
 (zX Tryz.func47 tr47
 (zX Tryz.func48 tr48
 (zX Tryz.func49 tr49
 (zX Tryz.func50 tr50
 (zX Tryz.func51 tr51
 (zX Tryz.func52 tr52
 (zX Tryz.func53 tr53
 (zX Tryz.func54 tr54
 (zX Tryz.func55 tr55
 (zX Tryz.func56 tr56
 (zX Tryz.func57 tr57
 (zX Tryz.func58 tr58
 (zX Tryz.func59 tr59
 (zX Tryz.func60 tr60
 (zX Tryz.func63 tr63
 (zX Tryz.func64 tr64
 (zX Tryz.func65 tr65
 (zX Tryz.func67 tr67
 (zX Tryz.func68 tr68
 (zX Tryz.func69 tr69
 (zX Tryz.func74 tr74
 (zX Tryz.func75 tr75
 (zX Tryz.func76 tr76
 (zX Tryz.func77 tr77
 (zX Tryz.func78 tr78
 (zX Tryz.func79 tr79
 (zX Tryz.func80 tr80
 (zX Tryz.func81 tr81
 (zX Tryz.func82 tr82
 (zX Tryz.func83 tr83
 (zX Tryz.func84 tr84
 (zX Tryz.func85 tr85
 (zX Tryz.func86 tr86
 (zX Tryz.func87 tr87
 (zX Tryz.func88 tr88
 (zX Tryz.func89 tr89
 (zX Tryz.func90 tr90
 (zX Tryz.func91 tr91
 (zX Tryz.func92 tr92
 (zX Tryz.func93 tr93
 (zX Tryz.func94 tr94
 (zX Tryz.func95 tr95
 (zX Tryz.func96 tr96
 (zX Tryz.func97 tr97
 (zX Tryz.func98 tr98
 (zX Tryz.func99 tr99
 (zX Tryz.func100 tr100
 (zX Tryz.func101 tr101
 (zX Tryz.func102 tr102
 (zX Tryz.func103 tr103
 (zX Tryz.func104 tr104
 (zX Tryz.func105 tr105
 (zX Tryz.func106 tr106
 (zX Tryz.func108 tr108
 (zX Tryz.func109 tr109
 (zX Tryz.func111 tr111
 (zX Tryz.func112 tr112
 (zX Tryz.func113 tr113
 (zX Tryz.func114 tr114
 (zX Tryz.func115 tr115
 (zX Tryz.func116 tr116
 (zX Tryz.func117 tr117
 (zX Tryz.func118 tr118
 (zX Tryz.func119 tr119
 (zX Tryz.func120 tr120
 (zX Tryz.func121 tr121
 (zX Tryz.func122 tr122
 (zX Tryz.func123 tr123
 (zX Tryz.func124 tr124
 (zX Tryz.func125 tr125
 (zX Tryz.func126 tr126
 (zX Tryz.func127 tr127
 (zX Tryz.func128 tr128
 (zX Tryz.func129 tr129
 (zX Tryz.func130 tr130
 (zX Tryz.func131 tr131
 (zX Tryz.func132 tr132
 (zX Tryz.func133 tr133
 (zX Tryz.func134 tr134
 (zX Tryz.func135 tr135
 (zX Tryz.func136 tr136
 (zX Tryz.func137 tr137
 (zX Tryz.func138 tr138
 (zX Tryz.func139 tr139
 (zX Tryz.func140 tr140
 (zX Tryz.func141 tr141
 (zX Tryz.func142 tr142
 (zX Tryz.func143 tr143
 (zX Tryz.func144 tr144
 (zX Tryz.func145 tr145
 (zX Tryz.func146 tr146
 (zX Tryz.func147 tr147
 (zX Tryz.func148 tr148
 (zX Tryz.func149 tr149
 (zX Tryz.func150 tr150
 (zX Tryz.func151 tr151
 (zX Tryz.func153 tr153
 (zX Tryz.func154 tr154
 (zX Tryz.func155 tr155
 (zX Tryz.func156 tr156
 (zX Tryz.func157 tr157
 (zX Tryz.func159 tr159
 (zX Tryz.func160 tr160
 (zX Tryz.func161 tr161 Er))))))))))))))))))))))))))))))))))))))))))))))))))))))))))))))))))))))))))))))))))))))))))))))))))))))))))))))))))))))))))))))))))))))))))
attribute [go_sem] c4 g4 c10 g10 c11 g11 c12 g12 c13r0 c13r1 c13r2 c13k3 c13r4 c13r5 c13k6 c13r7 c13r8 c13r9 c13k10 c13r11 c13r12 c13r13 c13k14 c13r15 c13r16 c13k17 c13r18 c13r19 c13k20 c13r21 c13r22 c13k23 c13r24 c13r25 c13r26 c13r27 c13r28 c13k29 c13r30 c13k31 c13r32 c13b33 c13k35 c13r36 c13b37 c13k38 c13r39 c13 g13 c14r0 c14r1 c14r2 c14k3 c14r4 c14r5 c14k6 c14r7 c14r8 c14r9 c14k10 c14r11 c14r12 c14k13 c14r14 c14r15 c14k16 c14r17 c14r18 c14k19 c14k20 c14r21 c14b22 c14r24 c14r25 c14r26 c14k27 c14r28 c14r29 c14r30 c14k31 c14r32 c14r33 c14r34 c14k35 c14r36 c14r37 c14r38 c14k39 c14r40 c14k41 c14r42 c14b43 c14r45 c14 g14 c15 g15 c16 g16 c17 g17 c18 g18 c26 g26 c27 g27 c28 g28 c32 g32 c33 g33 c34 g34 c35 g35 c36 g36 c37 g37 c38 g38 c39 g39 c40 g40 c41 g41 c42 g42 c43 g43 c44 g44 c45 g45 c46 g46 c47 g47 c48 g48 c49 g49 c50 g50 c51 g51 c52 g52 c53 g53 c54 g54 c55 g55 c56 g56 c57 g57 c58 g58 c59 g59 c60 g60 c64 g64 c67 g67 c68 g68 c69 g69 c75r0 c75r1 c75r2 c75k3 c75r4 c75r5 c75k6 c75r7 c75r8 c75k9 c75k10 c75r11 c75k13 c75r14 c75 g75 c77 g77 c78 g78 c79 g79 c80 g80 c81 g81 c82 g82 c83r0 c83r1 c83r2 c83r3 c83r4 c83k5 c83r6 c83r7 c83k8 c83r9 c83r10 c83r11 c83k12 c83r13 c83r14 c83r15 c83k16 c83r17 c83r18 c83k19 c83r20 c83r21 c83r22 c83r23 c83k24 c83k25 c83r26 c83k28 c83r29 c83 g83 c84r0 c84r1 c84r2 c84k3 c84r4 c84r5 c84k6 c84r7 c84r8 c84r9 c84k10 c84k11 c84r12 c84k14 c84r15 c84 g84 c85p8 c85 g85 c86 g86 c87 g87 c88 g88 c89 g89 c90 g90 c91r0 c91r1 c91r2 c91k3 c91r4 c91r5 c91k6 c91k7 c91r8 c91b9 c91k10 c91r11 c91r12 c91r13 c91k14 c91r15 c91r16 c91r17 c91k18 c91r19 c91r20 c91r21 c91k22 c91k23 c91r24 c91b25 c91k26 c91r27 c91r28 c91k29 c91k30 c91r33 c91 g91 c92 g92 c93 g93 c94 g94 c95 g95 c96r0 c96r1 c96r2 c96r3 c96r4 c96r5 c96r6 c96r7 c96r8 c96r9 c96r10 c96k11 c96k12 c96k13 c96k14 c96r16 c96r17 c96k18 c96r19 c96k20 c96r21 c96b22 c96k23 c96r24 c96 g96 c97 g97 c98 g98 c99 g99 c100 g100 c101 g101 c102 g102 c103 g103 c104 g104 c105r0 c105r1 c105r2 c105k3 c105r4 c105r5 c105r6 c105k7 c105r8 c105r9 c105k10 c105r11 c105r12 c105k13 c105r14 c105k15 c105r16 c105k18 c105r19 c105 g105 c106 g106 c108 g108 c111 g111 c112 g112 c113r0 c113r1 c113r2 c113k3 c113r4 c113r5 c113k6 c113r7 c113k8 c113r9 c113r12 c113 g113 c114 g114 c115 g115 c116 g116 c117 g117 c118 g118 c119r0 c119r1 c119r2 c119k3 c119r4 c119r5 c119r6 c119k7 c119k8 c119r9 c119k11 c119r12 c119r13 c119r14 c119k15 c119r16 c119r17 c119r18 c119k19 c119k20 c119r21 c119r24 c119 g119 c120 g120 c121 g121 c122 g122 c123r0 c123r1 c123r2 c123r3 c123r4 c123k5 c123r6 c123k7 c123r8 c123r9 c123r10 c123k11 c123r12 c123r13 c123k14 c123r15 c123k17 c123r18 c123 g123 c124r0 c124r1 c124r2 c124r3 c124k4 c124r5 c124r6 c124r7 c124k8 c124r9 c124r10 c124k11 c124r12 c124k14 c124r15 c124 g124 c125 g125 c126 g126 c127 g127 c128 g128 c129 g129 c130 g130 c131 g131 c132 g132 c133r0 c133r1 c133r2 c133k3 c133r4 c133r5 c133k6 c133r7 c133r8 c133r9 c133r10 c133k11 c133r12 c133r13 c133r14 c133k15 c133k16 c133r17 c133k19 c133r20 c133r21 c133k22 c133k23 c133r24 c133b25 c133k26 c133r27 c133 g133 c134 g134 c135 g135 c136 g136 c137 g137 c138 g138 c139 g139 c140 g140 c141 g141 c142r0 c142r1 c142r2 c142k3 c142r4 c142r5 c142r6 c142k7 c142r8 c142r9 c142r10 c142k11 c142r12 c142r13 c142r14 c142k15 c142k16 c142r17 c142k19 c142r20 c142r21 c142 g142 c143 g143 c144 g144 c145 g145 c146 g146 c147 g147 c148 g148 c149 g149 c150r0 c150r1 c150k2 c150r3 c150r4 c150k5 c150r6 c150k7 c150r8 c150k10 c150k11 c150r12 c150b13 c150k14 c150 g150 c151r0 c151r1 c151r2 c151r3 c151k4 c151r5 c151r6 c151r7 c151r8 c151k9 c151k10 c151k12 c151r13 c151r14 c151k15 c151r16 c151k17 c151r18 c151k20 c151k21 c151r22 c151r23 c151r24 c151r25 c151k26 c151r27 c151r28 c151r29 c151r30 c151k31 c151k32 c151k34 c151r35 c151r36 c151k37 c151r38 c151k39 c151r40 c151k42 c151k43 c151r44 c151r45 c151r46 c151r47 c151r48 c151r49 c151r50 c151r51 c151k52 c151r53 c151r54 c151k55 c151r56 c151r57 c151r58 c151r59 c151k60 c151k61 c151k63 c151r66 c151r69 c151r72 c151 g151 c153 g153 c154 g154 c155 g155 c156 g156 c157r0 c157r1 c157r2 c157r3 c157r4 c157k5 c157r6 c157r7 c157k8 c157r9 c157r10 c157k11 c157r12 c157r13 c157r14 c157k15 c157k16 c157r17 c157k19 c157r20 c157 g157 c159 g159 c160 g160 c161 g161
end Go.Proofs.YtffecaafklpmhaaGreat
