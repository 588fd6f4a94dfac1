/- The functions as the abstract machine has them,each proved to be what the translation gives. -/
import Derived.Test.YtligpohiokpnhaaGreatAm5
import Derived.Test.YtligpohiokpnhaaGreatProg
import Derived.KernelRfl
namespace Go.Proofs.YtligpohiokpnhaaGreat
open Go.Am
abbrev A0:List (Sh×AV):=[(none,.pv none (.int .i64 0)),(none,.pv none (.int .i64 0)),(none,.pv none (.str [])),(none,.tsl (some 4) [])]
abbrev A1:List (Sh×AV):=[(none,.pv none (.int .i64 0)),(none,.nilv (some 4))]
abbrev A2:List (Sh×AV):=[(none,.pv none (.str [])),(none,.pv none (.int .i64 0)),(none,.pv none (.bool false)),(none,.tsl (some 9) [])]
abbrev A3:List (Sh×AV):=[(none,.nilv (some 4))]
abbrev A4:List (Sh×AV):=[(none,.pv none (.int .i64 0)),(some 8,.agg [(some 4,.agg A0),(some 4,.agg A0)])]
abbrev A5:List (Sh×AV):=[(none,.pv none (.int .i64 2)),(none,.pv none (.int .i64 0)),(none,.pv none (.str [116,114,117,101])),(none,.tsl (some 4) [])]
def oP(d:Nat)(p:AOp)(l:List AArg):AOper:=⟨some d,p,l,none⟩
def aZ:AOp:=.alloc (some 4) (.agg A0)
def bZ(l:List Nat):AOp:=.build A0 l
def oMv(d s:Nat):AOper:=⟨some d,.mv,[.t s],none⟩
def oLf(d s:Nat):AOper:=⟨some d,.load (some 4),[.t s],none⟩
def oLo(d s:Nat):AOper:=⟨some d,.load none,[.t s],none⟩
def oFa(d k s:Nat):AOper:=⟨some d,.faddr k,[.t s],none⟩
def oSf(r s:Nat):AOper:=⟨none,.store (some 4),[.t r,.t s],none⟩
def oSo(r s:Nat):AOper:=⟨none,.store none,[.t r,.t s],none⟩
def oUn(d:Nat)(p:AOp)(s:Nat):AOper:=⟨some d,p,[.t s],none⟩
def oBi(d:Nat)(p:BinOp)(a b:Nat):AOper:=⟨some d,.bin p,[.t a,.t b],none⟩
def oIa(d a b:Nat):AOper:=⟨some d,.iaddr (some 4),[.t a,.t b],none⟩
def oBx(d s:Nat):AOper:=⟨some d,.box (some 4),[.t s],none⟩
def oEx(d k s:Nat):AOper:=⟨some d,.extract k,[.t s],none⟩
def kRt(c:Nat)(r:List AOper)(l:List Nat):ACode:=.cond (.t c) (.seq (.region true r l) .ret) .skip
def kEx(c k:Nat):ACode:=.cond (.t c) .skip (.exit k)
def rT(r:List AOper)(l:List Nat):ACode:=.region true r l
def oG(d:Nat)(p:AOp)(l:List AArg)(g:Nat)(b:Bool):AOper:=⟨some d,p,l,some (g,b)⟩
def oCl(d f:Nat)(l:List AArg):AOper:=⟨some d,.call,.c (.pv none (.func (.func f)))::l,none⟩
def oBc(d:Nat)(p:BinOp)(a:Nat)(n:Int):AOper:=⟨some d,.bin p,[.t a,.c (.pv none (.int .i64 n))],none⟩
def cSt(l:List UInt8):AArg:=.c (.pv none (.str l))
def cIn(n:Int):AArg:=.c (.pv none (.int .i64 n))
def cFn(n:Nat):AArg:=.c (.pv none (.func (.func n)))
def cBo(b:Bool):AArg:=.c (.pv none (.bool b))
abbrev LO:=List AOper
attribute [go_sem] oBc cSt oG oCl oUn oBi oIa oBx oEx kRt kEx rT oP aZ bZ oMv oLf oLo oFa oSf oSo cIn cFn cBo
def c3:ACode:=.seq (rT [oUn 2 (.box (some 2)) 0,oUn 3 (.box (some 14)) 1,oP 4 .mv [cBo false]] [2,3]) (.seq (rT [oUn 13 (.load (some 2)) 2,oCl 14 5 [.t 13],oP 5 (.alloc (some 2) (.agg A1)) [],⟨none,(.store (some 2)),
 [.t 5,.t 14],none⟩] [2,3,5]) (.seq (rT [oUn 15 (.load (some 2)) 2,oCl 16 6 [.t 15],oMv 6 16] [2,3,5,6]) (.seq (rT [oUn 18 (.load (some 2)) 2,oUn 19 (.load (some 14)) 3,oCl 20 7 [.t 18,.t 19],oMv 17 20,oEx 21 0 17,oEx 22 1 17,oEx 23 2 17,oP 7 (.alloc (some 2) (.agg [(none,
 (.pv none (.int .i64 0))),(none,.nilv (some 4))])) [],⟨none,(.store (some 2)),[.t 7,.t 21],none⟩,oMv 8 22,oMv 9 23] [2,3,5,6,7,8,9]) (.seq (rT [oUn 25 (.load (some 2)) 5,oUn 26 (.load (some 14)) 3,oCl 27 8 [.t 25,.t 26],oMv 24 27,oEx 28 0 24,
 oEx 29 1 24,oEx 30 2 24,oP 10 (.alloc (some 2) (.agg A1)) [],⟨none,(.store (some 2)),[.t 10,.t 28],none⟩,oMv 11 29,oMv 12 30] [2,3,5,6,7,8,9,10,11,12]) (.seq (.seq (rT [oMv 31 8,oMv 32 11,
 oP 33 (.binb .neq) [.t 31,.t 32],oMv 34 33,oG 35 .mv [.t 9] 34 false,oG 36 .mv [.t 12] 34 false,oG 37 (.bin .neq) [.t 35,.t 36] 34 false,oP 38 .pick [.t 34,cBo true,.t 37],oMv 39 38,oG 40 .mv [.t 6] 39 false,oG 41 .mv [.t 40] 39 false,oG 42 (.load (some 2)) [.t 2] 41 true,
 oG 43 (.load (some 2)) [.t 5] 41 true,oG 44 .call [cFn 9,.t 42,.t 43] 41 true,oG 45 .not [.t 44] 41 true,oG 46 .pick [.t 41,.t 45,cBo false] 39 false,oP 47 .pick [.t 39,cBo true,.t 46]] [2,3,7,10,47]) (kRt 47 [oP 4 .mv [cBo false]] [4])) (.seq (.seq (rT [oFa 48 0 3,
 oLo 49 48,oBc 50 .geq 49 0,oMv 51 50,oG 52 (.faddr 0) [.t 3] 51 true,oG 53 (.load none) [.t 52] 51 true,oG 54 (.bin .leq) [.t 53,cIn 3] 51 true,oP 55 .pick [.t 51,.t 54,cBo false],oMv 56 55,oG 57 (.load (some 2)) [.t 7] 56 true,oG 58 (.load (some 2)) [.t 10] 56 true,
 oG 59 .call [cFn 9,.t 57,.t 58] 56 true,oG 60 .not [.t 59] 56 true,oP 61 .pick [.t 56,.t 60,cBo false]] [2,3,61]) (kRt 61 [oP 4 .mv [cBo false]] [4])) (.seq (rT [oUn 62 (.load (some 2)) 2,oFa 63 1 3,oLo 64 63,oFa 65 2 3,oLo 66 65,oFa 67 3 3,
 oLo 68 67,oCl 69 10 [.t 62,.t 64,.t 66,.t 68],oMv 70 69,oG 71 .call [cFn 11] 70 true,oP 72 .pick [.t 70,.t 71,cBo false],oMv 4 72] [4]) .ret)))))))
def g3:AFn:=⟨2,[(4,none)],c3,false,[],[],none⟩
theorem tr3:trFn Tryz.prog false 3 Tryz.f3=some g3:=by kernel_rfl
def c5:ACode:=.seq (rT [oUn 1 (.box (some 2)) 0,oP 2 (.alloc (some 2) (.agg A1)) []] [1,2]) (.seq (rT [oFa 5 0 1,oLo 6 5,oP 7 (.build A1 [0]) [.t 6],
 oP 3 (.alloc (some 2) (.agg A1)) [],⟨none,(.store (some 2)),[.t 3,.t 7],none⟩] [1,2,3]) (.seq (.seq (rT [oP 4 .mv [cIn 0]] [1,2,3,4]) (.block 0 (.loop [1,2,3,4] (.seq (.seq (rT [oMv 8 4,
 oFa 9 1 1,oLo 10 9,oUn 11 .len 10,oBi 12 .lss 8 11] [1,2,3,4,12]) (kEx 12 0)) (.seq (.block 1 (.region false [oFa 15 1 3,oLo 16 15,oFa 17 1 1,oLo 18 17,oMv 19 4,oIa 20 18 19,oLf 21 20,oP 22 (.calln 1) [.t 15,cFn 15,.t 21],oP 23 (.bslovn (some 4) 1) [.t 15,
 .t 22],oP 24 (.appendv (some 4)) [.t 16,.t 23],oFa 25 1 3,oSo 25 24] [1,2,3,4])) (rT [oMv 13 4,oBc 14 .add 13 1,oMv 4 14] [1,2,3,4])))))) (.seq (rT [oUn 26 (.load (some 2)) 3,⟨none,(.store (some 2)),[.t 2,.t 26],none⟩] [2]) .ret)))
def g5:AFn:=⟨1,[(2,some (some 2))],c5,true,[],[],none⟩
theorem tr5:trFn Tryz.prog true 5 Tryz.f5=some g5:=by kernel_rfl
def c6:ACode:=.seq (rT [oUn 1 (.box (some 2)) 0,oP 2 .mv [cBo false]] [1]) (.seq (.seq (rT [oFa 9 0 1,oLo 10 9,oBc 11 .lss 10 1,oMv 12 11,oG 13 (.faddr 0) [.t 1] 12 false,oG 14 (.load none) [.t 13] 12 false,oG 15 (.bin .gtr) [.t 14,cIn 4294967296] 12 false,
 oP 16 .pick [.t 12,cBo true,.t 15],oMv 17 16,oG 18 (.faddr 1) [.t 1] 17 false,oG 19 (.load none) [.t 18] 17 false,oG 20 .len [.t 19] 17 false,oG 21 (.bin .gtr) [.t 20,cIn 500] 17 false,oP 22 .pick [.t 17,cBo true,.t 21],oMv 23 22,oG 24 (.load (some 2)) [.t 1] 23 false,
 oG 25 .call [cFn 16,.t 24] 23 false,oG 26 (.bin .gtr) [.t 25,cIn 500] 23 false,oP 27 .pick [.t 23,cBo true,.t 26]] [1,27]) (kRt 27 [oP 2 .mv [cBo false]] [2])) (.seq (rT [oP 3 (.nilsl none) []] [1,3]) (.seq (.seq (rT [oP 4 .mv [cIn 0]] [1,3,
 4]) (.block 0 (.loop [1,3,4] (.seq (.seq (rT [oMv 28 4,oFa 29 1 1,oLo 30 29,oUn 31 .len 30,oBi 32 .lss 28 31] [1,3,4,32]) (kEx 32 0)) (.seq (.block 1 (.seq (rT [oFa 35 1 1,oLo 36 35,oMv 37 4,oIa 38 36 37,oLf 39 38,oP 5 (.alloc (some 4) (.agg [(none,
 (.pv none (.str []))),(none,.pv none (.int .i64 0)),(none,.pv none (.bool false)),(none,.tsl (some 9) [])])) [],oSf 5 39] [1,3,4,5]) (.seq (.seq (rT [oFa 40 0 5,oLo 41 40,oFa 42 1 5,oLo 43 42,oCl 44 17 [.t 41,.t 43],oUn 45 .not 44,oMv 46 45,
 oG 47 .mv [.t 4] 46 false,oG 48 (.bin .gtr) [.t 47,cIn 0] 46 false,oG 49 .mv [.t 48] 46 false,oG 50 (.faddr 1) [.t 1] 49 true,oG 51 (.load none) [.t 50] 49 true,oG 52 .mv [.t 4] 49 true,oG 53 (.bin .sub) [.t 52,cIn 1] 49 true,oG 54 (.iaddr (some 4)) [.t 51,
 .t 53] 49 true,oG 55 (.load (some 4)) [.t 54] 49 true,oG 56 (.load (some 4)) [.t 5] 49 true,oG 57 .call [cFn 18,.t 55,.t 56] 49 true,oG 58 .not [.t 57] 49 true,oG 59 .pick [.t 49,.t 58,cBo false] 46 false,oP 60 .pick [.t 46,cBo true,.t 59]] [1,
 3,4,5,60]) (kRt 60 [oP 2 .mv [cBo false]] [2])) (.seq (rT [oP 6 .mv [cIn 0]] [1,3,4,5,6]) (.block 2 (.loop [1,3,4,5,6] (.seq (.seq (rT [oMv 61 6,oFa 62 3 5,oLo 63 62,oUn 64 .len 63,oBi 65 .lss 61 64] [1,3,4,5,6,65]) (kEx 65 2)) (.seq (.block 3 (.seq (rT [oFa 68 3 5,
 oLo 69 68,oMv 70 6,oP 71 (.iaddr (some 9)) [.t 69,.t 70],oUn 72 (.load (some 9)) 71,oP 7 (.alloc (some 9) (.agg [(none,.pv none (.int .i64 0)),(some 8,.agg [(some 4,.agg [(none,.pv none (.int .i64 0)),(none,.pv none (.int .i64 0)),
 (none,.pv none (.str [])),(none,.tsl (some 4) [])]),(some 4,.agg A0)])])) [],⟨none,(.store (some 9)),[.t 7,.t 72],
 none⟩] [1,3,4,5,6,7]) (.seq (.seq (rT [oFa 73 0 7,oLo 74 73,oBc 75 .lss 74 1,oMv 76 75,oG 77 (.faddr 0) [.t 7] 76 false,oG 78 (.load none) [.t 77] 76 false,oG 79 (.faddr 0) [.t 1] 76 false,oG 80 (.load none) [.t 79] 76 false,oG 81 (.bin .geq) [.t 78,
 .t 80] 76 false,oP 82 .pick [.t 76,cBo true,.t 81],oMv 83 82,oG 84 (.faddr 1) [.t 7] 83 false,oG 85 (.load (some 8)) [.t 84] 83 false,oG 86 .call [cFn 19,.t 85] 83 false,oG 87 .not [.t 86] 83 false,oP 88 .pick [.t 83,cBo true,.t 87],oMv 89 88,
 oG 90 (.faddr 1) [.t 7] 89 false,oG 91 (.faddr 0) [.t 90] 89 false,oG 92 (.faddr 2) [.t 91] 89 false,oG 93 (.load none) [.t 92] 89 false,oG 94 (.faddr 0) [.t 5] 89 false,oG 95 (.load none) [.t 94] 89 false,oG 96 (.bin .neq) [.t 93,.t 95] 89 false,
 oP 97 .pick [.t 89,cBo true,.t 96],oMv 98 97,oG 99 (.faddr 1) [.t 7] 98 false,oG 100 (.faddr 0) [.t 99] 98 false,oG 101 (.faddr 3) [.t 100] 98 false,oG 102 (.load none) [.t 101] 98 false,oG 103 .len [.t 102] 98 false,oG 104 (.faddr 1) [.t 5] 98 false,
 oG 105 (.load none) [.t 104] 98 false,oG 106 (.bin .neq) [.t 103,.t 105] 98 false,oP 107 .pick [.t 98,cBo true,.t 106]] [1,3,4,5,6,7,107]) (kRt 107 [oP 2 .mv [cBo false]] [2])) (.seq (.seq (rT [oP 8 .mv [cIn 0]] [1,3,4,5,6,7,8]) (.block 4 (.loop [1,
 3,4,5,6,7,8] (.seq (.seq (rT [oMv 108 8,oMv 109 3,oUn 110 .len 109,oBi 111 .lss 108 110] [1,3,4,5,6,7,8,111]) (kEx 111 4)) (.seq (.block 5 (.seq (rT [oMv 114 3,oMv 115 8,oP 116 (.iaddr none) [.t 114,.t 115],oLo 117 116,oFa 118 0 7,oLo 119 118,
 oBi 120 .eql 117 119] [1,3,4,5,6,7,8,120]) (kRt 120 [oP 2 .mv [cBo false]] [2]))) (rT [oMv 112 8,oBc 113 .add 112 1,oMv 8 113] [1,3,4,5,6,7,8])))))) (rT [oMv 121 3,oFa 122 0 7,oLo 123 122,oUn 124 (.bslice none) 123,oP 125 (.append none) [.t 121,
 .t 124],oMv 3 125] [1,3,4,5,6]))))) (rT [oMv 66 6,oBc 67 .add 66 1,oMv 6 67] [1,3,4,5,6]))))))))) (rT [oMv 33 4,oBc 34 .add 33 1,oMv 4 34] [1,3,4])))))) (.seq (rT [oP 2 .mv [cBo true]] [2]) .ret))))
def g6:AFn:=⟨1,[(2,none)],c6,false,[],[],none⟩
theorem tr6:trFn Tryz.prog false 6 Tryz.f6=some g6:=by kernel_rfl
def c7:ACode:=.seq (rT [oUn 2 (.box (some 2)) 0,oUn 3 (.box (some 14)) 1,oP 4 (.alloc (some 2) (.agg A1)) [],oP 5 .mv [cBo false],oP 6 .mv [cIn 0]] [2,3,4]) (.seq (.seq (rT [oFa 15 0 3,oLo 16 15] [2,3,
 4,16]) (.block 0 (.seq (rT [oBc 18 .eql 16 0,oMv 17 18] [2,3,4,16,17]) (.cond (.t 17) (.seq (rT [oUn 20 (.load (some 2)) 2,oFa 21 1 3,oLo 22 21,oFa 23 2 3,oLo 24 23,oFa 25 13 3,oLo 26 25,oCl 27 20 [.t 20,.t 22,.t 24,.t 26],oMv 19 27,oEx 28 0 19,
 oEx 29 1 19,oP 7 (.alloc (some 2) (.agg A1)) [],⟨none,(.store (some 2)),[.t 7,.t 28],none⟩,oMv 8 29] [4,7,8]) (.seq (rT [oUn 30 (.load (some 2)) 7,oMv 31 8,oBc 32 .eql 31 0,oMv 33 8,⟨none,
 (.store (some 2)),[.t 4,.t 30],none⟩,oMv 5 32,oMv 6 33] [4,5,6]) .ret)) (.seq (rT [oBc 35 .eql 16 1,oMv 34 35] [2,3,4,16,34]) (.cond (.t 34) (.seq (rT [oUn 37 (.load (some 2)) 2,oFa 38 4 3,oUn 39 (.load (some 8)) 38,oFa 40 12 3,oLo 41 40,oFa 42 13 3,
 oLo 43 42,oCl 44 21 [.t 37,.t 39,.t 41,.t 43],oMv 36 44,oEx 45 0 36,oEx 46 1 36,oP 9 (.alloc (some 2) (.agg A1)) [],⟨none,(.store (some 2)),[.t 9,.t 45],none⟩,oMv 10 46] [4,9,10]) (.seq (rT [oUn 47 (.load (some 2)) 9,
 oMv 48 10,oBc 49 .eql 48 0,oMv 50 10,⟨none,(.store (some 2)),[.t 4,.t 47],none⟩,oMv 5 49,oMv 6 50] [4,5,6]) .ret)) (.seq (rT [oBc 52 .eql 16 2,oMv 51 52] [2,3,4,16,51]) (.cond (.t 51) (.seq (rT [oUn 54 (.load (some 2)) 2,oFa 55 3 3,oLo 56 55,
 oCl 57 22 [.t 54,.t 56],oMv 53 57,oEx 58 0 53,oEx 59 1 53,oP 11 (.alloc (some 2) (.agg A1)) [],⟨none,(.store (some 2)),[.t 11,.t 58],none⟩,oMv 12 59] [4,11,12]) (.seq (rT [oUn 60 (.load (some 2)) 11,
 oMv 61 12,⟨none,(.store (some 2)),[.t 4,.t 60],none⟩,oMv 5 61,oP 6 .mv [cIn 0]] [4,5,6]) .ret)) (.seq (rT [oBc 63 .eql 16 3,oMv 62 63] [2,3,4,62]) (.cond (.t 62) (.seq (rT [oUn 65 (.load (some 2)) 2,oFa 66 1 3,oLo 67 66,oFa 68 2 3,oLo 69 68,
 oCl 70 23 [.t 65,.t 67,.t 69],oMv 64 70,oEx 71 0 64,oEx 72 1 64,oP 13 (.alloc (some 2) (.agg A1)) [],⟨none,(.store (some 2)),[.t 13,.t 71],none⟩,oMv 14 72] [4,13,14]) (.seq (rT [oUn 73 (.load (some 2)) 13,
 oMv 74 14,⟨none,(.store (some 2)),[.t 4,.t 73],none⟩,oMv 5 74,oP 6 .mv [cIn 0]] [4,5,6]) .ret)) .skip)))))))))) (.seq (rT [oUn 75 (.load (some 2)) 2,⟨none,(.store (some 2)),[.t 4,.t 75],none⟩,oP 5 .mv [cBo true],oP 6 .mv [cIn 0]] [4,5,6]) .ret))
def g7:AFn:=⟨2,[(4,some (some 2)),(5,none),(6,none)],c7,false,[],[],none⟩
theorem tr7:trFn Tryz.prog false 7 Tryz.f7=some g7:=by kernel_rfl
def c8:ACode:=.seq (rT [oUn 2 (.box (some 2)) 0,oUn 3 (.box (some 14)) 1,oP 4 (.alloc (some 2) (.agg A1)) [],oP 5 .mv [cBo false],oP 6 .mv [cIn 0]] [2,3,4]) (.seq (.seq (rT [oFa 15 0 3,oLo 16 15] [2,3,
 4,16]) (.block 0 (.seq (rT [oBc 18 .eql 16 0,oMv 17 18] [2,3,4,16,17]) (.cond (.t 17) (.seq (rT [oUn 20 (.load (some 2)) 2,oFa 21 1 3,oLo 22 21,oFa 23 2 3,oLo 24 23,oFa 25 13 3,oLo 26 25,oCl 27 24 [.t 20,.t 22,.t 24,.t 26],oMv 19 27,oEx 28 0 19,
 oEx 29 1 19,oP 7 (.alloc (some 2) (.agg A1)) [],⟨none,(.store (some 2)),[.t 7,.t 28],none⟩,oMv 8 29] [4,7,8]) (.seq (rT [oUn 30 (.load (some 2)) 7,oMv 31 8,oBc 32 .eql 31 0,oMv 33 8,⟨none,
 (.store (some 2)),[.t 4,.t 30],none⟩,oMv 5 32,oMv 6 33] [4,5,6]) .ret)) (.seq (rT [oBc 35 .eql 16 1,oMv 34 35] [2,3,4,16,34]) (.cond (.t 34) (.seq (rT [oUn 37 (.load (some 2)) 2,oFa 38 4 3,oUn 39 (.load (some 8)) 38,oFa 40 12 3,oLo 41 40,oFa 42 13 3,
 oLo 43 42,oCl 44 25 [.t 37,.t 39,.t 41,.t 43],oMv 36 44,oEx 45 0 36,oEx 46 1 36,oP 9 (.alloc (some 2) (.agg A1)) [],⟨none,(.store (some 2)),[.t 9,.t 45],none⟩,oMv 10 46] [4,9,10]) (.seq (rT [oUn 47 (.load (some 2)) 9,
 oMv 48 10,oBc 49 .eql 48 0,oMv 50 10,⟨none,(.store (some 2)),[.t 4,.t 47],none⟩,oMv 5 49,oMv 6 50] [4,5,6]) .ret)) (.seq (rT [oBc 52 .eql 16 2,oMv 51 52] [2,3,4,16,51]) (.cond (.t 51) (.seq (rT [oUn 54 (.load (some 2)) 2,oFa 55 3 3,oLo 56 55,
 oCl 57 26 [.t 54,.t 56],oMv 53 57,oEx 58 0 53,oEx 59 1 53,oP 11 (.alloc (some 2) (.agg A1)) [],⟨none,(.store (some 2)),[.t 11,.t 58],none⟩,oMv 12 59] [4,11,12]) (.seq (rT [oUn 60 (.load (some 2)) 11,
 oMv 61 12,⟨none,(.store (some 2)),[.t 4,.t 60],none⟩,oMv 5 61,oP 6 .mv [cIn 0]] [4,5,6]) .ret)) (.seq (rT [oBc 63 .eql 16 3,oMv 62 63] [2,3,4,62]) (.cond (.t 62) (.seq (rT [oUn 65 (.load (some 2)) 2,oFa 66 1 3,oLo 67 66,oFa 68 2 3,oLo 69 68,
 oCl 70 27 [.t 65,.t 67,.t 69],oMv 64 70,oEx 71 0 64,oEx 72 1 64,oP 13 (.alloc (some 2) (.agg A1)) [],⟨none,(.store (some 2)),[.t 13,.t 71],none⟩,oMv 14 72] [4,13,14]) (.seq (rT [oUn 73 (.load (some 2)) 13,
 oMv 74 14,⟨none,(.store (some 2)),[.t 4,.t 73],none⟩,oMv 5 74,oP 6 .mv [cIn 0]] [4,5,6]) .ret)) .skip)))))))))) (.seq (rT [oUn 75 (.load (some 2)) 2,⟨none,(.store (some 2)),[.t 4,.t 75],none⟩,oP 5 .mv [cBo true],oP 6 .mv [cIn 0]] [4,5,6]) .ret))
def g8:AFn:=⟨2,[(4,some (some 2)),(5,none),(6,none)],c8,false,[],[],none⟩
theorem tr8:trFn Tryz.prog false 8 Tryz.f8=some g8:=by kernel_rfl
def c9:ACode:=.seq (rT [oUn 2 (.box (some 2)) 0,oUn 3 (.box (some 2)) 1,oP 4 .mv [cBo false]] [2,3]) (.seq (rT [oUn 5 (.load (some 2)) 2,oUn 6 (.load (some 2)) 3,oCl 7 28 [.t 5,.t 6],oMv 4 7] [4]) .ret)
def g9:AFn:=⟨2,[(4,none)],c9,false,[],[],none⟩
theorem tr9:trFn Tryz.prog false 9 Tryz.f9=some g9:=by kernel_rfl
def c10:ACode:=.seq (rT [oUn 4 (.box (some 2)) 0,oP 8 .mv [cBo false]] [1,2,3,4]) (.seq (rT [oUn 18 (.load (some 2)) 4,oMv 19 1,oMv 20 2,oCl 21 29 [.t 18,.t 19,.t 20],oMv 17 21,oEx 22 0 17,oEx 23 1 17,oP 9 (.alloc (some 4) (.agg [(none,.pv none (.str [])),
 (none,.pv none (.int .i64 0)),(none,.pv none (.bool false)),(none,.tsl (some 9) [])])) [],oSf 9 22,oMv 10 23] [1,2,3,4,9,10]) (.seq (rT [oUn 25 (.load (some 2)) 4,oMv 26 1,oMv 27 2,oCl 28 30 [.t 25,.t 26,.t 27],oMv 24 28,oEx 29 0 24,oEx 30 1 24,
 oP 11 (.alloc (some 4) (.agg A2)) [],oSf 11 29,oMv 12 30] [3,4,9,10,11,12]) (.seq (rT [oUn 32 (.load (some 2)) 4,oMv 33 3,oCl 34 31 [.t 32,
 .t 33],oMv 31 34,oEx 35 0 31,oEx 36 1 31,oP 13 (.alloc (some 9) (.agg [(none,.pv none (.int .i64 0)),(some 8,.agg [(some 4,.agg A0),
 (some 4,.agg A0)])])) [],⟨none,(.store (some 9)),[.t 13,.t 35],none⟩,oMv 14 36] [3,4,9,10,11,12,13,14]) (.seq (rT [oUn 38 (.load (some 2)) 4,
 oMv 39 3,oCl 40 32 [.t 38,.t 39],oMv 37 40,oEx 41 0 37,oEx 42 1 37,oP 15 (.alloc (some 9) (.agg [(none,.pv none (.int .i64 0)),(some 8,.agg [(some 4,.agg [(none,.pv none (.int .i64 0)),(none,.pv none (.int .i64 0)),(none,.pv none (.str [])),
 (none,.tsl (some 4) [])]),(some 4,.agg A0)])])) [],⟨none,(.store (some 9)),[.t 15,.t 41],none⟩,oMv 16 42] [4,9,10,11,
 12,13,14,15,16]) (.seq (.seq (.seq (.settle [4]) (rT [oMv 43 10,oMv 44 12,oP 45 (.binb .neq) [.t 43,.t 44],oMv 46 45,oG 47 .mv [.t 14] 46 false,oG 48 .mv [.t 16] 46 false,oG 49 (.binb .neq) [.t 47,.t 48] 46 false,oP 50 .pick [.t 46,cBo true,
 .t 49],oMv 51 50,oG 52 (.load (some 2)) [.t 4] 51 false,oG 53 .callp [cFn 33,.t 52] 51 false,oG 54 (.load (some 2)) [.t 4] 51 false,oG 55 .callp [cFn 34,.t 54] 51 false,oG 56 (.bin .neq) [.t 53,.t 55] 51 false,oP 57 .pick [.t 51,cBo true,.t 56],
 oMv 58 57,oG 59 (.load (some 2)) [.t 4] 58 false,oG 60 .callp [cFn 14,.t 59] 58 false,oG 61 (.load (some 2)) [.t 4] 58 false,oG 62 .callp [cFn 6,.t 61] 58 false,oG 63 (.binb .neq) [.t 60,.t 62] 58 false,oP 64 .pick [.t 58,cBo true,.t 63]] [9,
 10,11,13,14,15,64])) (kRt 64 [oP 8 .mv [cBo false]] [8])) (.seq (.seq (rT [oMv 65 10,oMv 66 65,oG 67 (.load (some 4)) [.t 9] 66 true,oG 68 (.load (some 4)) [.t 11] 66 true,oG 69 .call [cFn 35,.t 67,.t 68] 66 true,oG 70 .not [.t 69] 66 true,oP 71 .pick [.t 66,
 .t 70,cBo false],oMv 72 71,oG 73 .mv [.t 14] 72 false,oG 74 .mv [.t 73] 72 false,oG 75 (.load (some 9)) [.t 13] 74 true,oG 76 (.load (some 9)) [.t 15] 74 true,oG 77 .call [cFn 36,.t 75,.t 76] 74 true,oG 78 .not [.t 77] 74 true,oG 79 .pick [.t 74,
 .t 78,cBo false] 72 false,oP 80 .pick [.t 72,cBo true,.t 79]] [9,10,13,14,80]) (kRt 80 [oP 8 .mv [cBo false]] [8])) (.seq (rT [oMv 81 10,oMv 82 81,oG 83 (.faddr 0) [.t 9] 82 false,oG 84 (.load none) [.t 83] 82 false,oG 85 (.bin .eql) [.t 84,
 cSt []] 82 false,oG 86 .mv [.t 85] 82 false,oG 87 (.faddr 1) [.t 9] 86 true,oG 88 (.load none) [.t 87] 86 true,oG 89 (.bin .eql) [.t 88,cIn 0] 86 true,oG 90 .pick [.t 86,.t 89,cBo false] 82 false,oG 91 .mv [.t 90] 82 false,oG 92 (.faddr 2) [.t 9] 91 true,
 oG 93 (.load none) [.t 92] 91 true,oG 94 .not [.t 93] 91 true,oG 95 .pick [.t 91,.t 94,cBo false] 82 false,oG 96 .mv [.t 95] 82 false,oG 97 (.faddr 3) [.t 9] 96 true,oG 98 (.load none) [.t 97] 96 true,oG 99 .len [.t 98] 96 true,oG 100 (.bin .eql) [.t 99,
 cIn 0] 96 true,oG 101 .pick [.t 96,.t 100,cBo false] 82 false,oP 102 .pick [.t 82,cBo true,.t 101],oMv 103 102,oG 104 .mv [.t 14] 103 true,oG 105 .mv [.t 104] 103 true,oG 106 (.faddr 0) [.t 13] 105 false,oG 107 (.load none) [.t 106] 105 false,
 oG 108 (.bin .eql) [.t 107,cIn 0] 105 false,oG 109 .mv [.t 108] 105 false,oG 110 (.faddr 1) [.t 13] 109 true,oG 111 (.faddr 0) [.t 110] 109 true,oG 112 (.faddr 0) [.t 111] 109 true,oG 113 (.load none) [.t 112] 109 true,oG 114 (.bin .eql) [.t 113,
 cIn 0] 109 true,oG 115 .pick [.t 109,.t 114,cBo false] 105 false,oG 116 .mv [.t 115] 105 false,oG 117 (.faddr 1) [.t 13] 116 true,oG 118 (.faddr 4) [.t 117] 116 true,oG 119 (.faddr 0) [.t 118] 116 true,oG 120 (.load none) [.t 119] 116 true,oG 121 (.bin .eql) [.t 120,
 cIn 0] 116 true,oG 122 .pick [.t 116,.t 121,cBo false] 105 false,oG 123 .pick [.t 105,cBo true,.t 122] 103 true,oP 124 .pick [.t 103,.t 123,cBo false],oMv 8 124] [8]) .ret)))))))
def g10:AFn:=⟨4,[(8,none)],c10,false,[],[],none⟩
theorem tr10:trFn Tryz.prog false 10 Tryz.f10=some g10:=by kernel_rfl
def c11:ACode:=.seq (rT [oP 0 .mv [cBo false]] []) (.seq (rT [oCl 9 12 [],oCl 10 37 [cSt [97]],oCl 11 21 [.t 9,.t 10,cBo false,cBo false],oMv 8 11,oEx 12 0 8,oEx 13 1 8,oP 1 (.alloc (some 2) (.agg A1)) [],
 ⟨none,(.store (some 2)),[.t 1,.t 12],none⟩,oMv 2 13] [1,2]) (.seq (.seq (.settle [1]) (rT [oUn 15 (.load (some 2)) 1,oP 16 .callp [cFn 37,cSt [97]],oP 17 .callp [cFn 21,.t 15,.t 16,cBo true,cBo true],oMv 14 17,oEx 18 0 14,oEx 19 1 14,⟨none,(.store (some 2)),
 [.t 1,.t 18],none⟩,oMv 3 19] [1,2,3])) (.seq (rT [oUn 21 (.load (some 2)) 1,oCl 22 29 [.t 21,cSt [97],cIn 0],oMv 20 22,oEx 23 0 20,oEx 24 1 20,oP 4 (.alloc (some 4) (.agg [(none,.pv none (.str [])),(none,.pv none (.int .i64 0)),(none,.pv none (.bool false)),
 (none,.tsl (some 9) [])])) [],oSf 4 23,oMv 5 24] [1,2,3,4,5]) (.seq (rT [oUn 26 (.load (some 2)) 1,oCl 27 22 [.t 26,cIn 1],oMv 25 27,oEx 28 0 25,oEx 29 1 25,oP 6 (.alloc (some 2) (.agg A1)) [],
 ⟨none,(.store (some 2)),[.t 6,.t 28],none⟩,oMv 7 29] [1,2,3,4,5,6,7]) (.seq (rT [oMv 30 2,oBc 31 .eql 30 0,oMv 32 31,oG 33 .mv [.t 3] 32 true,oG 34 (.bin .eql) [.t 33,cIn 0] 32 true,oP 35 .pick [.t 32,.t 34,cBo false],oMv 36 35,oG 37 .mv [.t 5] 36 true,
 oP 38 .pick [.t 36,.t 37,cBo false],oMv 39 38,oG 40 .mv [.t 7] 39 true,oP 41 .pick [.t 39,.t 40,cBo false],oMv 42 41,oG 43 (.faddr 2) [.t 4] 42 true,oG 44 (.load none) [.t 43] 42 true,oG 45 .not [.t 44] 42 true,oP 46 .pick [.t 42,.t 45,cBo false],
 oMv 47 46,oG 48 (.faddr 3) [.t 4] 47 true,oG 49 (.load none) [.t 48] 47 true,oG 50 .len [.t 49] 47 true,oG 51 (.bin .eql) [.t 50,cIn 2] 47 true,oP 52 .pick [.t 47,.t 51,cBo false],oMv 53 52,oG 54 (.faddr 3) [.t 4] 53 true,oG 55 (.load none) [.t 54] 53 true,
 oG 56 (.iaddr (some 9)) [.t 55,cIn 0] 53 true,oG 57 (.faddr 0) [.t 56] 53 true,oG 58 (.load none) [.t 57] 53 true,oG 59 (.bin .eql) [.t 58,cIn 2] 53 true,oP 60 .pick [.t 53,.t 59,cBo false],oMv 61 60,oG 62 (.load (some 2)) [.t 1] 61 true,oG 63 .call [cFn 33,
 .t 62] 61 true,oG 64 (.bin .eql) [.t 63,cIn 2] 61 true,oP 65 .pick [.t 61,.t 64,cBo false],oMv 66 65,oG 67 (.load (some 2)) [.t 6] 66 true,oG 68 .call [cFn 33,.t 67] 66 true,oG 69 (.bin .eql) [.t 68,cIn 1] 66 true,oP 70 .pick [.t 66,.t 69,cBo false],
 oMv 71 70,oG 72 (.faddr 0) [.t 6] 71 true,oG 73 (.load none) [.t 72] 71 true,oG 74 (.bin .eql) [.t 73,cIn 3] 71 true,oP 75 .pick [.t 71,.t 74,cBo false],oMv 0 75] [0]) .ret)))))
def g11:AFn:=⟨0,[(0,none)],c11,false,[],[],none⟩
theorem tr11:trFn Tryz.prog false 11 Tryz.f11=some g11:=by kernel_rfl
def c12:ACode:=.seq (rT [oP 0 (.alloc (some 2) (.agg A1)) []] [0]) (.seq (rT [oP 1 (.build A1 [0]) [cIn 1],⟨none,(.store (some 2)),[.t 0,.t 1],none⟩] [0]) .ret)
def g12:AFn:=⟨0,[(0,some (some 2))],c12,false,[],[],none⟩
theorem tr12:trFn Tryz.prog false 12 Tryz.f12=some g12:=by kernel_rfl
def c14:ACode:=.seq (rT [oUn 1 (.box (some 2)) 0,oP 2 .mv [cBo false]] [1]) (.seq (.seq (rT [oFa 9 0 1,oLo 10 9,oBc 11 .lss 10 1,oMv 12 11,oG 13 (.faddr 0) [.t 1] 12 false,oG 14 (.load none) [.t 13] 12 false,oG 15 (.bin .gtr) [.t 14,cIn 4294967296] 12 false,
 oP 16 .pick [.t 12,cBo true,.t 15],oMv 17 16,oG 18 (.faddr 1) [.t 1] 17 false,oG 19 (.load none) [.t 18] 17 false,oG 20 .len [.t 19] 17 false,oG 21 (.bin .gtr) [.t 20,cIn 500] 17 false,oP 22 .pick [.t 17,cBo true,.t 21],oMv 23 22,oG 24 (.load (some 2)) [.t 1] 23 false,
 oG 25 .call [cFn 38,.t 24] 23 false,oG 26 (.bin .gtr) [.t 25,cIn 500] 23 false,oP 27 .pick [.t 23,cBo true,.t 26]] [1,27]) (kRt 27 [oP 2 .mv [cBo false]] [2])) (.seq (rT [oP 28 (.mkmap none) [],oMv 3 28] [1,3]) (.seq (rT [oP 4 .mv [cBo true]] [1,
 3,4]) (.seq .skip (.seq (.seq (rT [oFa 29 1 1,oLo 30 29,oUn 31 .len 30,oP 32 .mv [cIn 0]] [1,3,4,30,31,32]) (.block 0 (.loop [1,3,4,30,31,32] (.seq (rT [oBi 33 .lss 32 31] [1,3,4,30,31,32,33]) (.seq (kEx 33 0) (.seq (.block 1 (.seq (rT [oMv 34 32,
 oIa 35 30 32,oLf 36 35,oP 6 (.alloc (some 4) (.agg A2)) [],oMv 5 34,oSf 6 36] [1,3,4,5,6,30,31,32]) (.seq (.seq (rT [oFa 37 0 6,
 oLo 38 37,oFa 39 1 6,oLo 40 39,oCl 41 39 [.t 38,.t 40],oUn 42 .not 41,oMv 43 42,oG 44 .mv [.t 5] 43 false,oG 45 (.bin .gtr) [.t 44,cIn 0] 43 false,oG 46 .mv [.t 45] 43 false,oG 47 (.faddr 1) [.t 1] 46 true,oG 48 (.load none) [.t 47] 46 true,
 oG 49 .mv [.t 5] 46 true,oG 50 (.bin .sub) [.t 49,cIn 1] 46 true,oG 51 (.iaddr (some 4)) [.t 48,.t 50] 46 true,oG 52 (.load (some 4)) [.t 51] 46 true,oG 53 (.load (some 4)) [.t 6] 46 true,oG 54 .call [cFn 40,.t 52,.t 53] 46 true,oG 55 (.bin .geq) [.t 54,
 cIn 0] 46 true,oG 56 .pick [.t 46,.t 55,cBo false] 43 false,oP 57 .pick [.t 43,cBo true,.t 56]] [1,3,4,6,30,31,32,57]) (.cond (.t 57) (.seq (rT [oP 4 .mv [cBo false]] [4]) (.exit 0)) .skip)) (.seq (rT [oFa 58 3 6,oLo 59 58,oUn 60 .len 59,oP 61 .mv [cIn 0]] [1,
 3,4,6,30,31,32,59,60,61]) (.block 2 (.loop [1,3,4,6,30,31,32,59,60,61] (.seq (rT [oBi 62 .lss 61 60] [1,3,4,6,30,31,32,59,60,61,62]) (.seq (kEx 62 2) (.seq (.block 3 (.seq (rT [oP 63 (.iaddr (some 9)) [.t 59,.t 61],oUn 64 (.load (some 9)) 63,
 oP 8 (.alloc (some 9) (.agg [(none,.pv none (.int .i64 0)),(some 8,.agg [(some 4,.agg A0),(some 4,.agg [(none,.pv none (.int .i64 0)),
 (none,.pv none (.int .i64 0)),(none,.pv none (.str [])),(none,.tsl (some 4) [])])])])) [],⟨none,(.store (some 9)),[.t 8,.t 64],none⟩] [1,3,4,6,8,30,31,32,59,60,61]) (.seq (rT [oMv 65 3,oFa 66 0 8,oLo 67 66,oP 68 (.lookup false none (.pv none (.int .i64 0)) false) [.t 65,
 .t 67],oBc 69 .add 68 1,⟨none,(.mapset false none),[.t 65,.t 67,.t 69],none⟩] [1,3,4,6,8,30,31,32,59,60,61]) (.seq (rT [oFa 70 0 8,oLo 71 70,oBc 72 .lss 71 1,oMv 73 72,oG 74 (.faddr 0) [.t 8] 73 false,oG 75 (.load none) [.t 74] 73 false,oG 76 (.faddr 0) [.t 1] 73 false,
 oG 77 (.load none) [.t 76] 73 false,oG 78 (.bin .geq) [.t 75,.t 77] 73 false,oP 79 .pick [.t 73,cBo true,.t 78],oMv 80 79,oG 81 .mv [.t 3] 80 false,oG 82 (.faddr 0) [.t 8] 80 false,oG 83 (.load none) [.t 82] 80 false,oG 84 (.lookup false none (.pv none (.int .i64 0)) false) [.t 81,
 .t 83] 80 false,oG 85 (.bin .gtr) [.t 84,cIn 1] 80 false,oP 86 .pick [.t 80,cBo true,.t 85],oMv 87 86,oG 88 (.faddr 1) [.t 8] 87 false,oG 89 (.load (some 8)) [.t 88] 87 false,oG 90 .call [cFn 41,.t 89] 87 false,oG 91 .not [.t 90] 87 false,oP 92 .pick [.t 87,
 cBo true,.t 91],oMv 93 92,oG 94 (.faddr 1) [.t 8] 93 false,oG 95 (.faddr 0) [.t 94] 93 false,oG 96 (.faddr 2) [.t 95] 93 false,oG 97 (.load none) [.t 96] 93 false,oG 98 (.faddr 0) [.t 6] 93 false,oG 99 (.load none) [.t 98] 93 false,oG 100 (.bin .neq) [.t 97,
 .t 99] 93 false,oP 101 .pick [.t 93,cBo true,.t 100],oMv 102 101,oG 103 (.faddr 1) [.t 8] 102 false,oG 104 (.faddr 0) [.t 103] 102 false,oG 105 (.faddr 3) [.t 104] 102 false,oG 106 (.load none) [.t 105] 102 false,oG 107 .len [.t 106] 102 false,
 oG 108 (.faddr 1) [.t 6] 102 false,oG 109 (.load none) [.t 108] 102 false,oG 110 (.bin .neq) [.t 107,.t 109] 102 false,oP 111 .pick [.t 102,cBo true,.t 110]] [1,3,4,6,30,31,32,59,60,61,111]) (.cond (.t 111) (.seq (rT [oP 4 .mv [cBo false]] [4]) (.exit 0)) .skip))))) (rT [oBc 112 .add 61 1,
 oMv 61 112] [1,3,4,6,30,31,32,59,60,61])))))))))) (rT [oBc 113 .add 32 1,oMv 32 113] [1,3,4,30,31,32]))))))) (.seq (rT [oMv 114 4,oMv 2 114] [2]) .ret))))))
def g14:AFn:=⟨1,[(2,none)],c14,false,[],[],none⟩
theorem tr14:trFn Tryz.prog false 14 Tryz.f14=some g14:=by kernel_rfl
def c15:ACode:=.seq (rT [oBx 1 0,oP 2 (.alloc (some 4) (.agg A2)) []] [1,2]) (.seq (rT [oFa 5 0 1,oLo 6 5,oFa 7 1 1,oLo 8 7,oFa 9 2 1,oLo 10 9,
 oP 11 (.build A2 [0,1,2]) [.t 6,.t 8,.t 10],oP 3 (.alloc (some 4) (.agg [(none,.pv none (.str [])),(none,.pv none (.int .i64 0)),
 (none,.pv none (.bool false)),(none,.tsl (some 9) [])])) [],oSf 3 11] [1,2,3]) (.seq (.seq (rT [oP 4 .mv [cIn 0]] [1,2,3,4]) (.block 0 (.loop [1,2,3,4] (.seq (.seq (rT [oMv 12 4,oFa 13 3 1,oLo 14 13,oUn 15 .len 14,oBi 16 .lss 12 15] [1,2,
 3,4,16]) (kEx 16 0)) (.seq (.block 1 (.region false [oFa 19 3 3,oLo 20 19,oFa 21 3 1,oLo 22 21,oMv 23 4,oP 24 (.iaddr (some 9)) [.t 22,.t 23],oUn 25 (.load (some 9)) 24,oP 26 (.calln 1) [.t 19,cFn 42,.t 25],oP 27 (.bslicen (some 9) 1) [.t 19,
 .t 26],oP 28 (.append (some 9)) [.t 20,.t 27],oFa 29 3 3,oSo 29 28] [1,2,3,4])) (rT [oMv 17 4,oBc 18 .add 17 1,oMv 4 18] [1,2,3,4])))))) (.seq (rT [oLf 30 3,oSf 2 30] [2]) .ret)))
def g15:AFn:=⟨1,[(2,some (some 4))],c15,true,[],[],none⟩
theorem tr15:trFn Tryz.prog true 15 Tryz.f15=some g15:=by kernel_rfl
def c16:ACode:=.seq (rT [oUn 1 (.box (some 2)) 0,oP 2 .mv [cIn 0]] [1]) (.seq (rT [oP 3 .mv [cIn 0]] [1,3]) (.seq (.seq (rT [oP 4 .mv [cIn 0]] [1,3,4]) (.block 0 (.loop [1,3,4] (.seq (.seq (rT [oMv 5 4,oFa 6 1 1,oLo 7 6,oUn 8 .len 7,oBi 9 .lss 5 8] [1,3,4,
 9]) (kEx 9 0)) (.seq (.block 1 (.seq (.seq (rT [oFa 12 1 1,oLo 13 12,oMv 14 4,oIa 15 13 14,oFa 16 3 15,oLo 17 16,oUn 18 .len 17,oBc 19 .gtr 18 500,oMv 20 19,oG 21 .mv [.t 3] 20 false,oG 22 (.bin .gtr) [.t 21,cIn 500] 20 false,oP 23 .pick [.t 20,
 cBo true,.t 22]] [1,3,4,23]) (kRt 23 [oP 2 .mv [cIn 501]] [2])) (rT [oMv 24 3,oFa 25 1 1,oLo 26 25,oMv 27 4,oIa 28 26 27,oFa 29 3 28,oLo 30 29,oUn 31 .len 30,oBi 32 .add 24 31,oMv 3 32] [1,3,4]))) (rT [oMv 10 4,oBc 11 .add 10 1,oMv 4 11] [1,
 3,4])))))) (.seq (rT [oMv 33 3,oMv 2 33] [2]) .ret)))
def g16:AFn:=⟨1,[(2,none)],c16,false,[],[],none⟩
theorem tr16:trFn Tryz.prog false 16 Tryz.f16=some g16:=by kernel_rfl
def c17:ACode:=.seq (rT [oP 4 .mv [cBo false]] [0,1]) (.seq (rT [oMv 5 0,oUn 6 .slen 5,oBc 7 .leq 6 100,oMv 8 7,oG 9 .mv [.t 1] 8 true,oG 10 (.bin .geq) [.t 9,cIn 0] 8 true,oP 11 .pick [.t 8,.t 10,cBo false],oMv 12 11,oG 13 .mv [.t 1] 12 true,oG 14 (.bin .leq) [.t 13,
 cIn 8] 12 true,oP 15 .pick [.t 12,.t 14,cBo false],oMv 4 15] [4]) .ret)
def g17:AFn:=⟨2,[(4,none)],c17,false,[],[],none⟩
theorem tr17:trFn Tryz.prog false 17 Tryz.f17=some g17:=by kernel_rfl
def c18:ACode:=.seq (rT [oBx 2 0,oBx 3 1,oP 4 .mv [cBo false]] [2,3]) (.seq (rT [oFa 5 0 2,oLo 6 5,oFa 7 0 3,oLo 8 7,oBi 9 .lss 6 8,oMv 10 9,oG 11 (.faddr 0) [.t 2] 10 false,oG 12 (.load none) [.t 11] 10 false,oG 13 (.faddr 0) [.t 3] 10 false,oG 14 (.load none) [.t 13] 10 false,
 oG 15 (.bin .eql) [.t 12,.t 14] 10 false,oG 16 .mv [.t 15] 10 false,oG 17 (.faddr 1) [.t 2] 16 true,oG 18 (.load none) [.t 17] 16 true,oG 19 (.faddr 1) [.t 3] 16 true,oG 20 (.load none) [.t 19] 16 true,oG 21 (.bin .lss) [.t 18,.t 20] 16 true,
 oG 22 .pick [.t 16,.t 21,cBo false] 10 false,oP 23 .pick [.t 10,cBo true,.t 22],oMv 4 23] [4]) .ret)
def g18:AFn:=⟨2,[(4,none)],c18,false,[],[],none⟩
theorem tr18:trFn Tryz.prog false 18 Tryz.f18=some g18:=by kernel_rfl
def c19:ACode:=.seq (rT [oUn 1 (.box (some 8)) 0,oP 2 .mv [cBo false]] [1]) (.seq (.seq (rT [oFa 6 0 1,oLf 7 6,oCl 8 43 [.t 7],oUn 9 .not 8,oMv 10 9,oG 11 (.faddr 4) [.t 1] 10 false,oG 12 (.load (some 4)) [.t 11] 10 false,oG 13 .call [cFn 43,.t 12] 10 false,
 oG 14 .not [.t 13] 10 false,oP 15 .pick [.t 10,cBo true,.t 14],oMv 16 15,oG 17 (.faddr 0) [.t 1] 16 false,oG 18 (.faddr 0) [.t 17] 16 false,oG 19 (.load none) [.t 18] 16 false,oG 20 (.bin .neq) [.t 19,cIn 2] 16 false,oG 21 .mv [.t 20] 16 false,
 oG 22 (.faddr 0) [.t 1] 21 true,oG 23 (.faddr 0) [.t 22] 21 true,oG 24 (.load none) [.t 23] 21 true,oG 25 (.bin .neq) [.t 24,cIn 3] 21 true,oG 26 .pick [.t 21,.t 25,cBo false] 16 false,oP 27 .pick [.t 16,cBo true,.t 26]] [1,27]) (kRt 27 [oP 2 .mv [cBo false]] [2])) (.seq (rT [oFa 29 4 1,
 oLf 30 29,oCl 31 44 [.t 30],oMv 28 31,oEx 32 0 28,oEx 33 1 28,oP 3 aZ [],oSf 3 32,oMv 4 33] [1,3,4]) (.seq (.seq (.seq (.settle [3]) (rT [oMv 34 4,oUn 35 .not 34,oMv 36 35,oG 37 (.load (some 4)) [.t 3] 36 false,oG 38 (.faddr 4) [.t 1] 36 false,
 oG 39 (.load (some 4)) [.t 38] 36 false,oG 40 .callp [cFn 45,.t 37,.t 39] 36 false,oG 41 .not [.t 40] 36 false,oP 42 .pick [.t 36,cBo true,.t 41],oMv 43 42,oG 44 (.faddr 0) [.t 1] 43 false,oG 45 (.load (some 4)) [.t 44] 43 false,oG 46 .callp [cFn 46,
 .t 45] 43 false,oG 47 (.faddr 4) [.t 1] 43 false,oG 48 (.load (some 4)) [.t 47] 43 false,oG 49 .callp [cFn 46,.t 48] 43 false,oG 50 (.bin .add) [.t 46,.t 49] 43 false,oG 51 (.bin .gtr) [.t 50,cIn 2000] 43 false,oP 52 .pick [.t 43,cBo true,.t 51]] [1,
 52])) (kRt 52 [oP 2 .mv [cBo false]] [2])) (.seq (rT [oFa 53 0 1,oLf 54 53,oFa 55 4 1,oLf 56 55,oP 57 (.bslice (some 4)) [.t 54,.t 56],oMv 5 57] [5]) (.seq (rT [oMv 58 5,oCl 59 47 [.t 58],oUn 60 .len 59,oBc 61 .leq 60 64,oMv 62 61,oG 63 .mv [.t 5] 62 true,
 oG 64 .call [cFn 49,.t 63] 62 true,oG 65 .mv [.t 5] 62 true,oG 66 .call [cFn 48,.t 64,.t 65] 62 true,oP 67 .pick [.t 62,.t 66,cBo false],oMv 2 67] [2]) .ret)))))
def g19:AFn:=⟨1,[(2,none)],c19,false,[],[],none⟩
theorem tr19:trFn Tryz.prog false 19 Tryz.f19=some g19:=by kernel_rfl
def c20:ACode:=.seq (rT [oUn 4 (.box (some 2)) 0,oP 8 (.alloc (some 2) (.agg A1)) [],oP 9 .mv [cIn 0]] [1,2,3,4,8]) (.seq (.seq (rT [oUn 12 (.load (some 2)) 4,oCl 13 14 [.t 12],oUn 14 .not 13,oMv 15 14,
 oG 16 .mv [.t 1] 15 false,oG 17 .mv [.t 2] 15 false,oG 18 .call [cFn 39,.t 16,.t 17] 15 false,oG 19 .not [.t 18] 15 false,oP 20 .pick [.t 15,cBo true,.t 19]] [1,2,3,4,8,20]) (kRt 20 [oP 21 (.build A1 []) [],
 ⟨none,(.store (some 2)),[.t 8,.t 21],none⟩,oP 9 .mv [cIn 1]] [8,9])) (.seq (rT [oUn 23 (.load (some 2)) 4,oMv 24 1,oMv 25 2,oCl 26 50 [.t 23,.t 24,.t 25],oMv 22 26,oEx 27 0 22,oEx 28 1 22,oMv 10 27,oMv 11 28] [1,2,3,4,8,10,11]) (.seq (.seq (rT [oMv 29 11,
 oUn 30 .not 29,oMv 31 30,oG 32 (.faddr 1) [.t 4] 31 true,oG 33 (.load none) [.t 32] 31 true,oG 34 .len [.t 33] 31 true,oG 35 (.bin .eql) [.t 34,cIn 500] 31 true,oP 36 .pick [.t 31,.t 35,cBo false]] [1,2,3,4,8,10,11,36]) (kRt 36 [oP 37 (.build [(none,
 (.pv none (.int .i64 0))),(none,.nilv (some 4))] []) [],⟨none,(.store (some 2)),[.t 8,.t 37],none⟩,oP 9 .mv [cIn 13]] [8,9])) (.seq (rT [oUn 38 (.load (some 2)) 4,oCl 39 51 [.t 38],⟨none,(.store (some 2)),[.t 8,.t 39],none⟩] [1,2,3,8,10,11]) (.seq (.seq (rT [oMv 40 11,
 oUn 41 .not 40] [1,2,3,8,10,41]) (.cond (.t 41) (rT [oFa 42 1 8,oLo 43 42,oMv 44 10,oMv 45 1,oMv 46 2,oP 47 (.build A2 [0,1]) [.t 45,
 .t 46],oUn 48 (.bslov (some 4)) 47,oCl 49 52 [.t 43,.t 44,.t 48],oFa 50 1 8,oSo 50 49] [3,8,10]) .skip)) (.seq (rT [oFa 51 1 8,oLo 52 51,oMv 53 10,oFa 54 1 8,oLo 55 54,oMv 56 10,oIa 57 55 56,oFa 58 2 57,oLo 59 58,oMv 60 59,oG 61 .mv [.t 3] 60 false,
 oP 62 .pick [.t 60,cBo true,.t 61],oIa 63 52 53,oFa 64 2 63,oSo 64 62] [8]) (.seq (rT [oUn 65 (.load (some 2)) 8,⟨none,(.store (some 2)),[.t 8,.t 65],none⟩,oP 9 .mv [cIn 0]] [8,9]) .ret)))))))
def g20:AFn:=⟨4,[(8,some (some 2)),(9,none)],c20,false,[],[],none⟩
theorem tr20:trFn Tryz.prog false 20 Tryz.f20=some g20:=by kernel_rfl
def c21r0:LO:=[oUn 4 (.box (some 2)) 0,oUn 5 (.box (some 8)) 1,oP 8 (.alloc (some 2) (.agg A1)) [],oP 9 .mv [cIn 0]]
def c21r1:LO:=[oUn 14 (.load (some 2)) 4,oCl 15 14 [.t 14],oUn 16 .not 15,oMv 17 16,oG 18 (.load (some 8)) [.t 5] 17 false,oG 19 .call [cFn 41,.t 18] 17 false,oG 20 .not [.t 19] 17 false,oP 21 .pick [.t 17,cBo true,.t 20]]
def c21r2:LO:=[oP 22 (.build A1 []) [],⟨none,(.store (some 2)),[.t 8,.t 22],none⟩,oP 9 .mv [cIn 1]]
def c21k3:ACode:=kRt 21 c21r2 [8,9]
def c21r4:LO:=[oUn 24 (.load (some 2)) 4,oFa 25 0 5,oFa 26 2 25,oLo 27 26,oFa 28 0 5,oFa 29 3 28,oLo 30 29,oUn 31 .len 30,oCl 32 50 [.t 24,.t 27,.t 31],oMv 23 32,oEx 33 0 23,oEx 34 1 23,oMv 10 33,oMv 11 34]
def c21r5:LO:=[oUn 35 (.load (some 2)) 4,oCl 36 38 [.t 35],oBc 37 .eql 36 500,oMv 38 37,oG 39 (.faddr 0) [.t 4] 38 false,oG 40 (.load none) [.t 39] 38 false,oG 41 (.bin .eql) [.t 40,cIn 4294967296] 38 false,oP 42 .pick [.t 38,cBo true,.t 41],oMv 43 42,oG 44 .mv [.t 11] 43 false,
 oG 45 .not [.t 44] 43 false,oG 46 .mv [.t 45] 43 false,oG 47 (.faddr 1) [.t 4] 46 true,oG 48 (.load none) [.t 47] 46 true,oG 49 .len [.t 48] 46 true,oG 50 (.bin .eql) [.t 49,cIn 500] 46 true,oG 51 .pick [.t 46,.t 50,cBo false] 43 false,oP 52 .pick [.t 43,
 cBo true,.t 51]]
def c21r6:LO:=[oP 53 (.build A1 []) [],⟨none,(.store (some 2)),[.t 8,.t 53],none⟩,oP 9 .mv [cIn 13]]
def c21k7:ACode:=kRt 52 c21r6 [8,9]
def c21r8:LO:=[oUn 54 (.load (some 2)) 4,oCl 55 51 [.t 54],⟨none,(.store (some 2)),[.t 8,.t 55],none⟩]
def c21r9:LO:=[oMv 56 11,oUn 57 .not 56]
def c21r10:LO:=[oFa 58 1 8,oLo 59 58,oMv 60 10,oFa 61 0 5,oFa 62 2 61,oLo 63 62,oFa 64 0 5,oFa 65 3 64,oLo 66 65,oUn 67 .len 66,oMv 68 3,oP 69 (.build A2 [0,
 1,2]) [.t 63,.t 67,.t 68],oUn 70 (.bslov (some 4)) 69,oCl 71 52 [.t 59,.t 60,.t 70],oFa 72 1 8,oSo 72 71]
def c21k11:ACode:=.cond (.t 57) (rT c21r10 [2,4,5,8,10]) .skip
def c21r12:LO:=[oFa 73 1 8,oLo 74 73,oMv 75 10,oIa 76 74 75,oMv 12 76]
def c21r13:LO:=[oMv 77 12,oUn 78 .nilcheck 77,oFa 79 3 78,oLo 80 79,oUn 81 .len 80,oMv 13 81]
def c21r14:LO:=[oMv 82 2]
def c21r15:LO:=[oP 13 .mv [cIn 0]]
def c21k16:ACode:=.cond (.t 82) (rT c21r15 [4,5,8,12,13]) .skip
def c21r17:LO:=[oMv 83 12,oMv 84 12,oUn 85 .nilcheck 84,oFa 86 3 85,oLo 87 86,oMv 88 13,oFa 89 0 4,oLo 90 89,oUn 91 (.load (some 8)) 5,oP 92 (.build [(none,.pv none (.int .i64 0)),(some 8,.agg [(some 4,.agg [(none,.pv none (.int .i64 0)),(none,.pv none (.int .i64 0)),
 (none,.pv none (.str [])),(none,.tsl (some 4) [])]),(some 4,.agg A0)])] [0,1]) [.t 90,.t 91],oP 93 .callp [cFn 54,
 .t 92],oUn 94 (.bslicep (some 9)) 93,oCl 95 53 [.t 87,.t 88,.t 94],oUn 96 .nilcheck 83,oFa 97 3 96,oSo 97 95]
def c21r18:LO:=[oFa 98 0 8,oLo 99 98,oBc 100 .add 99 1,oFa 101 0 8,oSo 101 100]
def c21r19:LO:=[oUn 102 (.load (some 2)) 8,⟨none,(.store (some 2)),[.t 8,.t 102],none⟩,oP 9 .mv [cIn 0]]
def c21:ACode:=.seq (rT c21r0 [2,3,4,5,8]) (.seq (.seq (rT c21r1 [2,3,4,5,8,21]) c21k3) (.seq (rT c21r4 [2,3,4,5,8,10,11]) (.seq (.seq (rT c21r5 [2,3,4,5,8,10,11,52]) c21k7) (.seq (rT c21r8 [2,3,4,5,8,10,11]) (.seq (.seq (rT c21r9 [2,3,4,5,8,10,57]) c21k11) (.seq (rT c21r12 [2,
 4,5,8,12]) (.seq (rT c21r13 [2,4,5,8,12,13]) (.seq (.seq (rT c21r14 [4,5,8,12,13,82]) c21k16) (.seq (.seq (.settle []) (.region false c21r17 [8])) (.seq (rT c21r18 [8]) (.seq (rT c21r19 [8,9]) .ret)))))))))))
def g21:AFn:=⟨4,[(8,some (some 2)),(9,none)],c21,false,[],[],none⟩
theorem tr21:trFn Tryz.prog false 21 Tryz.f21=some g21:=by kernel_rfl
def c22:ACode:=.seq (rT [oUn 2 (.box (some 2)) 0,oP 4 (.alloc (some 2) (.agg A1)) [],oP 5 .mv [cBo false]] [1,2,4]) (.seq (.seq (rT [oUn 8 (.load (some 2)) 2,oCl 9 14 [.t 8],oUn 10 .not 9] [1,2,4,10]) (kRt 10 [oP 11 (.build [(none,
 (.pv none (.int .i64 0))),(none,.nilv (some 4))] []) [],⟨none,(.store (some 2)),[.t 4,.t 11],none⟩,oP 5 .mv [cBo false]] [4,5])) (.seq (rT [oUn 13 (.load (some 2)) 2,oMv 14 1,oCl 15 55 [.t 13,.t 14],oMv 12 15,oEx 16 0 12,oEx 17 1 12,oEx 18 2 12,
 oMv 6 16,oMv 7 17,oMv 5 18] [2,4,5,6,7]) (.seq (.seq (rT [oMv 19 5,oUn 20 .not 19] [2,4,6,7,20]) (kRt 20 [oP 21 (.build A1 []) [],⟨none,(.store (some 2)),[.t 4,.t 21],none⟩,oP 5 .mv [cBo false]] [4,
 5])) (.seq (rT [oUn 22 (.load (some 2)) 2,oCl 23 51 [.t 22],⟨none,(.store (some 2)),[.t 4,.t 23],none⟩] [4,6,7]) (.seq (.region false [oFa 24 1 4,oLo 25 24,oMv 26 6,oFa 27 1 4,oLo 28 27,oMv 29 6,oIa 30 28 29,oFa 31 3 30,oLo 32 31,oMv 33 7,oMv 34 7,
 oBc 35 .add 34 1,oP 36 (.calln 1) [.t 24,cFn 56,.t 32,.t 33,.t 35],oIa 37 25 26,oFa 38 3 37,oSo 38 36] [4]) (.seq (rT [oUn 39 (.load (some 2)) 4,⟨none,(.store (some 2)),[.t 4,.t 39],none⟩,oP 5 .mv [cBo true]] [4,5]) .ret))))))
def g22:AFn:=⟨2,[(4,some (some 2)),(5,none)],c22,false,[],[],none⟩
theorem tr22:trFn Tryz.prog false 22 Tryz.f22=some g22:=by kernel_rfl
def c23:ACode:=.seq (rT [oUn 3 (.box (some 2)) 0,oP 6 (.alloc (some 2) (.agg A1)) [],oP 7 .mv [cBo false]] [1,2,3,6]) (.seq (.seq (rT [oUn 9 (.load (some 2)) 3,oCl 10 14 [.t 9],oUn 11 .not 10] [1,2,3,6,
 11]) (kRt 11 [oP 12 (.build A1 []) [],⟨none,(.store (some 2)),[.t 6,.t 12],none⟩,oP 7 .mv [cBo false]] [6,7])) (.seq (rT [oUn 14 (.load (some 2)) 3,oMv 15 1,oMv 16 2,oCl 17 50 [.t 14,.t 15,
 .t 16],oMv 13 17,oEx 18 0 13,oEx 19 1 13,oMv 8 18,oMv 7 19] [3,6,7,8]) (.seq (.seq (rT [oMv 20 7,oUn 21 .not 20] [3,6,8,21]) (kRt 21 [oP 22 (.build A1 []) [],⟨none,(.store (some 2)),[.t 6,
 .t 22],none⟩,oP 7 .mv [cBo false]] [6,7])) (.seq (rT [oUn 23 (.load (some 2)) 3,oCl 24 51 [.t 23],⟨none,(.store (some 2)),[.t 6,.t 24],none⟩] [6,8]) (.seq (rT [oFa 25 1 6,oLo 26 25,oMv 27 8,oMv 28 8,oBc 29 .add 28 1,oCl 30 57 [.t 26,.t 27,.t 29],
 oFa 31 1 6,oSo 31 30] [6]) (.seq (rT [oUn 32 (.load (some 2)) 6,⟨none,(.store (some 2)),[.t 6,.t 32],none⟩,oP 7 .mv [cBo true]] [6,7]) .ret))))))
def g23:AFn:=⟨3,[(6,some (some 2)),(7,none)],c23,false,[],[],none⟩
theorem tr23:trFn Tryz.prog false 23 Tryz.f23=some g23:=by kernel_rfl
def c24:ACode:=.seq (rT [oUn 4 (.box (some 2)) 0,oP 8 (.alloc (some 2) (.agg A1)) [],oP 9 .mv [cIn 0]] [1,2,3,4,8]) (.seq (.seq (rT [oUn 12 (.load (some 2)) 4,oCl 13 6 [.t 12],oUn 14 .not 13,oMv 15 14,
 oG 16 .mv [.t 1] 15 false,oG 17 .mv [.t 2] 15 false,oG 18 .call [cFn 17,.t 16,.t 17] 15 false,oG 19 .not [.t 18] 15 false,oP 20 .pick [.t 15,cBo true,.t 19]] [1,2,3,4,8,20]) (kRt 20 [oP 21 (.build A1 []) [],
 ⟨none,(.store (some 2)),[.t 8,.t 21],none⟩,oP 9 .mv [cIn 1]] [8,9])) (.seq (rT [oUn 22 (.load (some 2)) 4,oCl 23 5 [.t 22],oP 10 (.alloc (some 2) (.agg A1)) [],⟨none,(.store (some 2)),[.t 10,
 .t 23],none⟩] [1,2,3,8,10]) (.seq (rT [oUn 24 (.load (some 2)) 10,oMv 25 1,oMv 26 2,oCl 27 58 [.t 24,.t 25,.t 26],oMv 11 27] [1,2,3,8,10,11]) (.seq (.seq (rT [oMv 28 11,oBc 29 .geq 28 0] [1,2,3,8,10,11,29]) (.cond (.t 29) (.seq (rT [oFa 30 1 10,
 oLo 31 30,oMv 32 11,oFa 33 1 10,oLo 34 33,oMv 35 11,oIa 36 34 35,oFa 37 2 36,oLo 38 37,oMv 39 38,oG 40 .mv [.t 3] 39 false,oP 41 .pick [.t 39,cBo true,.t 40],oIa 42 31 32,oFa 43 2 42,oSo 43 41] [8,10]) (.seq (rT [oUn 44 (.load (some 2)) 10,⟨none,
 (.store (some 2)),[.t 8,.t 44],none⟩,oP 9 .mv [cIn 0]] [8,9]) .ret)) .skip)) (.seq (.seq (rT [oFa 45 1 10,oLo 46 45,oUn 47 .len 46,oBc 48 .geq 47 500] [1,2,3,8,10,48]) (kRt 48 [oP 49 (.build A1 []) [],
 ⟨none,(.store (some 2)),[.t 8,.t 49],none⟩,oP 9 .mv [cIn 13]] [8,9])) (.seq (rT [oUn 50 (.load (some 2)) 10,oMv 51 1,oMv 52 2,oMv 53 3,oP 54 (.build [(none,.pv none (.str [])),(none,.pv none (.int .i64 0)),(none,.pv none (.bool false)),
 (none,.tsl (some 9) [])] [0,1,2]) [.t 51,.t 52,.t 53],oCl 55 59 [.t 50,.t 54],⟨none,(.store (some 2)),[.t 8,.t 55],none⟩,oP 9 .mv [cIn 0]] [8,9]) .ret))))))
def g24:AFn:=⟨4,[(8,some (some 2)),(9,none)],c24,false,[],[],none⟩
theorem tr24:trFn Tryz.prog false 24 Tryz.f24=some g24:=by kernel_rfl
def c25r0:LO:=[oUn 4 (.box (some 2)) 0,oUn 5 (.box (some 8)) 1,oP 8 (.alloc (some 2) (.agg A1)) [],oP 9 .mv [cIn 0]]
def c25r1:LO:=[oUn 16 (.load (some 2)) 4,oCl 17 6 [.t 16],oUn 18 .not 17,oMv 19 18,oG 20 (.load (some 8)) [.t 5] 19 false,oG 21 .call [cFn 19,.t 20] 19 false,oG 22 .not [.t 21] 19 false,oP 23 .pick [.t 19,cBo true,.t 22]]
def c25r2:LO:=[oP 24 (.build A1 []) [],⟨none,(.store (some 2)),[.t 8,.t 24],none⟩,oP 9 .mv [cIn 1]]
def c25k3:ACode:=kRt 23 c25r2 [8,9]
def c25r4:LO:=[oFa 25 0 5,oFa 26 2 25,oLo 27 26,oFa 28 0 5,oFa 29 3 28,oLo 30 29,oUn 31 .len 30,oMv 10 27,oMv 11 31]
def c25r5:LO:=[oUn 32 (.load (some 2)) 4,oMv 33 10,oMv 34 11,oCl 35 58 [.t 32,.t 33,.t 34],oBc 36 .geq 35 0,oMv 12 36]
def c25r6:LO:=[oUn 37 (.load (some 2)) 4,oCl 38 16 [.t 37],oBc 39 .geq 38 500,oMv 40 39,oG 41 (.faddr 0) [.t 4] 40 false,oG 42 (.load none) [.t 41] 40 false,oG 43 (.bin .geq) [.t 42,cIn 4294967296] 40 false,oP 44 .pick [.t 40,cBo true,.t 43],oMv 45 44,oG 46 .mv [.t 12] 45 false,
 oG 47 .not [.t 46] 45 false,oG 48 .mv [.t 47] 45 false,oG 49 (.faddr 1) [.t 4] 48 true,oG 50 (.load none) [.t 49] 48 true,oG 51 .len [.t 50] 48 true,oG 52 (.bin .geq) [.t 51,cIn 500] 48 true,oG 53 .pick [.t 48,.t 52,cBo false] 45 false,oP 54 .pick [.t 45,
 cBo true,.t 53]]
def c25r7:LO:=[oP 55 (.build A1 []) [],⟨none,(.store (some 2)),[.t 8,.t 55],none⟩,oP 9 .mv [cIn 13]]
def c25k8:ACode:=kRt 54 c25r7 [8,9]
def c25r9:LO:=[oUn 56 (.load (some 2)) 4,oCl 57 5 [.t 56],oP 13 (.alloc (some 2) (.agg A1)) [],⟨none,(.store (some 2)),[.t 13,.t 57],none⟩]
def c25r10:LO:=[oMv 58 12,oUn 59 .not 58]
def c25r11:LO:=[oUn 60 (.load (some 2)) 13,oMv 61 10,oMv 62 11,oMv 63 3,oP 64 (.build A2 [0,1,2]) [.t 61,.t 62,.t 63],oCl 65 59 [.t 60,.t 64],
 ⟨none,(.store (some 2)),[.t 13,.t 65],none⟩]
def c25k12:ACode:=.cond (.t 59) (rT c25r11 [2,4,5,8,10,11,13]) .skip
def c25r13:LO:=[oUn 66 (.load (some 2)) 13,oMv 67 10,oMv 68 11,oCl 69 58 [.t 66,.t 67,.t 68],oMv 14 69]
def c25r14:LO:=[oFa 70 0 4,oLo 71 70,oUn 72 (.load (some 8)) 5,oP 73 (.build [(none,.pv none (.int .i64 0)),(some 8,.agg [(some 4,.agg A0),
 (some 4,.agg A0)])] [0,1]) [.t 71,.t 72],oCl 74 42 [.t 73],oUn 75 (.bslice (some 9)) 74,oMv 15 75]
def c25r15:LO:=[oMv 76 2]
def c25r16:LO:=[oFa 77 1 13,oLo 78 77,oMv 79 14,oMv 80 15,oFa 81 1 13,oLo 82 81,oMv 83 14,oIa 84 82 83,oFa 85 3 84,oLo 86 85,oP 87 (.appendn (some 9) 1) [.t 77,.t 80,.t 86],oIa 88 78 79,oFa 89 3 88,oSo 89 87]
def c25r17:LO:=[oFa 90 1 13,oLo 91 90,oMv 92 14,oFa 93 1 13,oLo 94 93,oMv 95 14,oIa 96 94 95,oFa 97 3 96,oLo 98 97,oMv 99 15,oP 100 (.appendn (some 9) 1) [.t 90,.t 98,.t 99],oIa 101 91 92,oFa 102 3 101,oSo 102 100]
def c25k18:ACode:=.cond (.t 76) (rT c25r16 [4,8,13]) (rT c25r17 [4,8,13])
def c25r19:LO:=[oFa 103 0 4,oLo 104 103,oBc 105 .add 104 1,oFa 106 0 13,oSo 106 105]
def c25r20:LO:=[oUn 107 (.load (some 2)) 13,⟨none,(.store (some 2)),[.t 8,.t 107],none⟩,oP 9 .mv [cIn 0]]
def c25:ACode:=.seq (rT c25r0 [2,3,4,5,8]) (.seq (.seq (rT c25r1 [2,3,4,5,8,23]) c25k3) (.seq (rT c25r4 [2,3,4,5,8,10,11]) (.seq (rT c25r5 [2,3,4,5,8,10,11,12]) (.seq (.seq (rT c25r6 [2,3,4,5,8,10,11,12,54]) c25k8) (.seq (rT c25r9 [2,3,4,5,8,10,11,12,13]) (.seq (.seq (rT c25r10 [2,
 3,4,5,8,10,11,13,59]) c25k12) (.seq (rT c25r13 [2,4,5,8,13,14]) (.seq (rT c25r14 [2,4,8,13,14,15]) (.seq (.seq (rT c25r15 [4,8,13,14,15,76]) c25k18) (.seq (rT c25r19 [8,13]) (.seq (rT c25r20 [8,9]) .ret)))))))))))
def g25:AFn:=⟨4,[(8,some (some 2)),(9,none)],c25,false,[],[],none⟩
theorem tr25:trFn Tryz.prog false 25 Tryz.f25=some g25:=by kernel_rfl
def c26:ACode:=.seq (rT [oUn 2 (.box (some 2)) 0,oP 4 (.alloc (some 2) (.agg A1)) [],oP 5 .mv [cBo false]] [1,2,4]) (.seq (.seq (rT [oUn 10 (.load (some 2)) 2,oCl 11 6 [.t 10],oUn 12 .not 11] [1,2,4,12]) (kRt 12 [oP 13 (.build [(none,
 (.pv none (.int .i64 0))),(none,.nilv (some 4))] []) [],⟨none,(.store (some 2)),[.t 4,.t 13],none⟩,oP 5 .mv [cBo false]] [4,5])) (.seq (rT [oUn 14 (.load (some 2)) 2,oCl 15 5 [.t 14],oP 6 (.alloc (some 2) (.agg [(none,.pv none (.int .i64 0)),
 (none,.nilv (some 4))])) [],⟨none,(.store (some 2)),[.t 6,.t 15],none⟩] [1,4,6]) (.seq (.seq (rT [oP 7 .mv [cIn 0]] [1,4,6,7]) (.block 0 (.loop [1,4,6,7] (.seq (.seq (rT [oMv 16 7,oFa 17 1 6,oLo 18 17,oUn 19 .len 18,oBi 20 .lss 16 19] [1,4,
 6,7,20]) (kEx 20 0)) (.seq (.block 1 (.seq (rT [oFa 23 1 6,oLo 24 23,oMv 25 7,oIa 26 24 25,oFa 27 3 26,oLo 28 27,oMv 8 28] [1,4,6,7,8]) (.seq (rT [oP 9 .mv [cIn 0]] [1,4,6,7,8,9]) (.block 2 (.loop [1,4,6,7,8,9] (.seq (.seq (rT [oMv 29 9,oMv 30 8,
 oUn 31 .len 30,oBi 32 .lss 29 31] [1,4,6,7,8,9,32]) (kEx 32 2)) (.seq (.block 3 (.seq (rT [oMv 35 8,oMv 36 9,oP 37 (.iaddr (some 9)) [.t 35,.t 36],oFa 38 0 37,oLo 39 38,oMv 40 1,oBi 41 .eql 39 40] [1,4,6,7,8,9,41]) (.cond (.t 41) (.seq (.seq (.settle [8]) (rT [oFa 42 1 6,
 oLo 43 42,oMv 44 7,oMv 45 8,oMv 46 9,oMv 47 9,oP 48 (.slice3 (some 9) false) [.t 45,.t 46,.t 47],oMv 49 8,oMv 50 9,oBc 51 .add 50 1,oP 52 (.slice (some 9) true false) [.t 49,.t 51],oP 53 (.appendn (some 9) 1) [.t 42,.t 48,.t 52],oIa 54 43 44,
 oFa 55 3 54,oSo 55 53] [4,6])) (.seq (rT [oUn 56 (.load (some 2)) 6,⟨none,(.store (some 2)),[.t 4,.t 56],none⟩,oP 5 .mv [cBo true]] [4,5]) .ret)) .skip))) (rT [oMv 33 9,oBc 34 .add 33 1,oMv 9 34] [1,4,6,7,8,9])))))))) (rT [oMv 21 7,oBc 22 .add 21 1,
 oMv 7 22] [1,4,6,7])))))) (.seq (rT [oP 57 (.build A1 []) [],⟨none,(.store (some 2)),[.t 4,.t 57],none⟩,oP 5 .mv [cBo false]] [4,5]) .ret))))
def g26:AFn:=⟨2,[(4,some (some 2)),(5,none)],c26,false,[],[],none⟩
theorem tr26:trFn Tryz.prog false 26 Tryz.f26=some g26:=by kernel_rfl
def c27:ACode:=.seq (rT [oUn 3 (.box (some 2)) 0,oP 6 (.alloc (some 2) (.agg A1)) [],oP 7 .mv [cBo false]] [1,2,3,6]) (.seq (.seq (rT [oUn 10 (.load (some 2)) 3,oCl 11 6 [.t 10],oUn 12 .not 11,oMv 13 12,
 oG 14 (.load (some 2)) [.t 3] 13 false,oG 15 .mv [.t 1] 13 false,oG 16 .mv [.t 2] 13 false,oG 17 .call [cFn 58,.t 14,.t 15,.t 16] 13 false,oG 18 (.bin .lss) [.t 17,cIn 0] 13 false,oP 19 .pick [.t 13,cBo true,.t 18]] [1,2,3,6,19]) (kRt 19 [oP 20 (.build [(none,
 (.pv none (.int .i64 0))),(none,.nilv (some 4))] []) [],⟨none,(.store (some 2)),[.t 6,.t 20],none⟩,oP 7 .mv [cBo false]] [6,7])) (.seq (rT [oUn 21 (.load (some 2)) 3,oCl 22 5 [.t 21],oP 8 (.alloc (some 2) (.agg [(none,.pv none (.int .i64 0)),
 (none,.nilv (some 4))])) [],⟨none,(.store (some 2)),[.t 8,.t 22],none⟩] [1,2,6,8]) (.seq (rT [oUn 23 (.load (some 2)) 8,oMv 24 1,oMv 25 2,oCl 26 58 [.t 23,.t 24,.t 25],oMv 9 26] [6,8,9]) (.seq (.seq (.settle [8]) (rT [oFa 27 1 8,oLo 28 27,
 oMv 29 9,oMv 30 9,oP 31 (.slice3 (some 4) false) [.t 28,.t 29,.t 30],oFa 32 1 8,oLo 33 32,oMv 34 9,oBc 35 .add 34 1,oP 36 (.slice (some 4) true false) [.t 33,.t 35],oP 37 (.appendv (some 4)) [.t 31,.t 36],oFa 38 1 8,oSo 38 37] [6,8])) (.seq (rT [oUn 39 (.load (some 2)) 8,
 ⟨none,(.store (some 2)),[.t 6,.t 39],none⟩,oP 7 .mv [cBo true]] [6,7]) .ret)))))
def g27:AFn:=⟨3,[(6,some (some 2)),(7,none)],c27,false,[],[],none⟩
theorem tr27:trFn Tryz.prog false 27 Tryz.f27=some g27:=by kernel_rfl
def c28:ACode:=.seq (rT [oUn 2 (.box (some 2)) 0,oUn 3 (.box (some 2)) 1,oP 4 .mv [cBo false]] [2,3]) (.seq (.seq (rT [oFa 6 0 2,oLo 7 6,oFa 8 0 3,oLo 9 8,oBi 10 .neq 7 9,oMv 11 10,oG 12 (.faddr 1) [.t 2] 11 false,oG 13 (.load none) [.t 12] 11 false,oG 14 .len [.t 13] 11 false,
 oG 15 (.faddr 1) [.t 3] 11 false,oG 16 (.load none) [.t 15] 11 false,oG 17 .len [.t 16] 11 false,oG 18 (.bin .neq) [.t 14,.t 17] 11 false,oP 19 .pick [.t 11,cBo true,.t 18]] [2,3,19]) (kRt 19 [oP 4 .mv [cBo false]] [4])) (.seq (.seq (rT [oP 5 .mv [cIn 0]] [2,
 3,5]) (.block 0 (.loop [2,3,5] (.seq (.seq (rT [oMv 20 5,oFa 21 1 2,oLo 22 21,oUn 23 .len 22,oBi 24 .lss 20 23] [2,3,5,24]) (kEx 24 0)) (.seq (.block 1 (.seq (rT [oFa 27 1 2,oLo 28 27,oMv 29 5,oIa 30 28 29,oLf 31 30,oFa 32 1 3,oLo 33 32,oMv 34 5,
 oIa 35 33 34,oLf 36 35,oCl 37 35 [.t 31,.t 36],oUn 38 .not 37] [2,3,5,38]) (kRt 38 [oP 4 .mv [cBo false]] [4]))) (rT [oMv 25 5,oBc 26 .add 25 1,oMv 5 26] [2,3,5])))))) (.seq (rT [oP 4 .mv [cBo true]] [4]) .ret)))
def g28:AFn:=⟨2,[(4,none)],c28,false,[],[],none⟩
theorem tr28:trFn Tryz.prog false 28 Tryz.f28=some g28:=by kernel_rfl
def c29:ACode:=.seq (rT [oUn 3 (.box (some 2)) 0,oP 6 (.alloc (some 4) (.agg A2)) [],oP 7 .mv [cBo false]] [1,2,3,6]) (.seq (.seq (rT [oUn 9 (.load (some 2)) 3,
 oCl 10 14 [.t 9],oUn 11 .not 10] [1,2,3,6,11]) (kRt 11 [oP 12 (.build A2 []) [],oSf 6 12,oP 7 .mv [cBo false]] [6,7])) (.seq (rT [oUn 14 (.load (some 2)) 3,
 oMv 15 1,oMv 16 2,oCl 17 50 [.t 14,.t 15,.t 16],oMv 13 17,oEx 18 0 13,oEx 19 1 13,oMv 8 18,oMv 7 19] [3,6,7,8]) (.seq (.seq (rT [oMv 20 7,oUn 21 .not 20] [3,6,8,21]) (kRt 21 [oP 22 (.build [(none,.pv none (.str [])),(none,.pv none (.int .i64 0)),
 (none,.pv none (.bool false)),(none,.tsl (some 9) [])] []) [],oSf 6 22,oP 7 .mv [cBo false]] [6,7])) (.seq (rT [oFa 23 1 3,oLo 24 23,oMv 25 8,oIa 26 24 25,oLf 27 26,oCl 28 60 [.t 27],oSf 6 28,oP 7 .mv [cBo true]] [6,7]) .ret))))
def g29:AFn:=⟨3,[(6,some (some 4)),(7,none)],c29,false,[],[],none⟩
theorem tr29:trFn Tryz.prog false 29 Tryz.f29=some g29:=by kernel_rfl
def c30:ACode:=.seq (rT [oUn 3 (.box (some 2)) 0,oP 6 (.alloc (some 4) (.agg A2)) [],oP 7 .mv [cBo false]] [1,2,3,6]) (.seq (.seq (rT [oUn 8 (.load (some 2)) 3,
 oCl 9 6 [.t 8],oUn 10 .not 9,oMv 11 10,oG 12 (.load (some 2)) [.t 3] 11 false,oG 13 .mv [.t 1] 11 false,oG 14 .mv [.t 2] 11 false,oG 15 .call [cFn 58,.t 12,.t 13,.t 14] 11 false,oG 16 (.bin .lss) [.t 15,cIn 0] 11 false,oP 17 .pick [.t 11,cBo true,
 .t 16]] [1,2,3,6,17]) (kRt 17 [oP 18 (.build A2 []) [],oSf 6 18,oP 7 .mv [cBo false]] [6,7])) (.seq (.seq (.settle [1,2,3]) (rT [oFa 19 1 3,
 oLo 20 19,oUn 21 (.load (some 2)) 3,oMv 22 1,oMv 23 2,oP 24 .callp [cFn 58,.t 21,.t 22,.t 23],oIa 25 20 24,oLf 26 25,oP 27 .callp [cFn 15,.t 26],oSf 6 27,oP 7 .mv [cBo true]] [6,7])) .ret))
def g30:AFn:=⟨3,[(6,some (some 4)),(7,none)],c30,false,[],[],none⟩
theorem tr30:trFn Tryz.prog false 30 Tryz.f30=some g30:=by kernel_rfl
def c31:ACode:=.seq (rT [oUn 2 (.box (some 2)) 0,oP 4 (.alloc (some 9) (.agg [(none,.pv none (.int .i64 0)),(some 8,.agg [(some 4,.agg A0),
 (some 4,.agg A0)])])) [],oP 5 .mv [cBo false]] [1,2,4]) (.seq (.seq (rT [oUn 8 (.load (some 2)) 2,oCl 9 14 [.t 8],oUn 10 .not 9] [1,
 2,4,10]) (kRt 10 [oP 11 (.build [(none,.pv none (.int .i64 0)),(some 8,.agg [(some 4,.agg A0),(some 4,.agg [(none,
 (.pv none (.int .i64 0))),(none,.pv none (.int .i64 0)),(none,.pv none (.str [])),(none,.tsl (some 4) [])])])] []) [],⟨none,(.store (some 9)),[.t 4,.t 11],none⟩,oP 5 .mv [cBo false]] [4,5])) (.seq (rT [oUn 13 (.load (some 2)) 2,oMv 14 1,
 oCl 15 55 [.t 13,.t 14],oMv 12 15,oEx 16 0 12,oEx 17 1 12,oEx 18 2 12,oMv 6 16,oMv 7 17,oMv 5 18] [2,4,5,6,7]) (.seq (.seq (rT [oMv 19 5,oUn 20 .not 19] [2,4,6,7,20]) (kRt 20 [oP 21 (.build [(none,.pv none (.int .i64 0)),(some 8,.agg [(some 4,
 (.agg A0)),(some 4,.agg [(none,.pv none (.int .i64 0)),(none,.pv none (.int .i64 0)),(none,.pv none (.str [])),(none,
 (.tsl (some 4) []))])])] []) [],⟨none,(.store (some 9)),[.t 4,.t 21],none⟩,oP 5 .mv [cBo false]] [4,5])) (.seq (rT [oFa 22 1 2,oLo 23 22,oMv 24 6,oIa 25 23 24,oFa 26 3 25,oLo 27 26,oMv 28 7,oP 29 (.iaddr (some 9)) [.t 27,.t 28],oUn 30 (.load (some 9)) 29,
 oCl 31 54 [.t 30],⟨none,(.store (some 9)),[.t 4,.t 31],none⟩,oP 5 .mv [cBo true]] [4,5]) .ret))))
def g31:AFn:=⟨2,[(4,some (some 9)),(5,none)],c31,false,[],[],none⟩
theorem tr31:trFn Tryz.prog false 31 Tryz.f31=some g31:=by kernel_rfl
def c32:ACode:=.seq (rT [oUn 2 (.box (some 2)) 0,oP 4 (.alloc (some 9) (.agg [(none,.pv none (.int .i64 0)),(some 8,.agg [(some 4,.agg A0),
 (some 4,.agg A0)])])) [],oP 5 .mv [cBo false]] [1,2,4]) (.seq (.seq (rT [oUn 8 (.load (some 2)) 2,oCl 9 6 [.t 8],oUn 10 .not 9] [1,
 2,4,10]) (kRt 10 [oP 11 (.build [(none,.pv none (.int .i64 0)),(some 8,.agg [(some 4,.agg A0),(some 4,.agg [(none,
 (.pv none (.int .i64 0))),(none,.pv none (.int .i64 0)),(none,.pv none (.str [])),(none,.tsl (some 4) [])])])] []) [],⟨none,(.store (some 9)),[.t 4,.t 11],none⟩,oP 5 .mv [cBo false]] [4,5])) (.seq (.seq (rT [oP 6 .mv [cIn 0]] [1,2,4,
 6]) (.block 0 (.loop [1,2,4,6] (.seq (.seq (rT [oMv 12 6,oFa 13 1 2,oLo 14 13,oUn 15 .len 14,oBi 16 .lss 12 15] [1,2,4,6,16]) (kEx 16 0)) (.seq (.block 1 (.seq (rT [oP 7 .mv [cIn 0]] [1,2,4,6,7]) (.block 2 (.loop [1,2,4,6,7] (.seq (.seq (rT [oMv 19 7,
 oFa 20 1 2,oLo 21 20,oMv 22 6,oIa 23 21 22,oFa 24 3 23,oLo 25 24,oUn 26 .len 25,oBi 27 .lss 19 26] [1,2,4,6,7,27]) (kEx 27 2)) (.seq (.block 3 (.seq (rT [oFa 30 1 2,oLo 31 30,oMv 32 6,oIa 33 31 32,oFa 34 3 33,oLo 35 34,oMv 36 7,oP 37 (.iaddr (some 9)) [.t 35,
 .t 36],oFa 38 0 37,oLo 39 38,oMv 40 1,oBi 41 .eql 39 40] [1,2,4,6,7,41]) (kRt 41 [oFa 42 1 2,oLo 43 42,oMv 44 6,oIa 45 43 44,oFa 46 3 45,oLo 47 46,oMv 48 7,oP 49 (.iaddr (some 9)) [.t 47,.t 48],oUn 50 (.load (some 9)) 49,oCl 51 42 [.t 50],⟨none,
 (.store (some 9)),[.t 4,.t 51],none⟩,oP 5 .mv [cBo true]] [4,5]))) (rT [oMv 28 7,oBc 29 .add 28 1,oMv 7 29] [1,2,4,6,7]))))))) (rT [oMv 17 6,oBc 18 .add 17 1,oMv 6 18] [1,2,4,6])))))) (.seq (rT [oP 52 (.build [(none,.pv none (.int .i64 0)),
 (some 8,.agg [(some 4,.agg A0),(some 4,.agg [(none,.pv none (.int .i64 0)),(none,.pv none (.int .i64 0)),(none,
 (.pv none (.str []))),(none,.tsl (some 4) [])])])] []) [],⟨none,(.store (some 9)),[.t 4,.t 52],none⟩,oP 5 .mv [cBo false]] [4,5]) .ret)))
def g32:AFn:=⟨2,[(4,some (some 9)),(5,none)],c32,false,[],[],none⟩
theorem tr32:trFn Tryz.prog false 32 Tryz.f32=some g32:=by kernel_rfl
def c33:ACode:=.seq (rT [oUn 1 (.box (some 2)) 0,oP 2 .mv [cIn 0]] [1]) (.seq (.seq (rT [oUn 3 (.load (some 2)) 1,oCl 4 14 [.t 3],oUn 5 .not 4] [1,5]) (kRt 5 [oP 2 .mv [cIn 0]] [2])) (.seq (rT [oUn 6 (.load (some 2)) 1,oCl 7 38 [.t 6],oMv 2 7] [2]) .ret))
def g33:AFn:=⟨1,[(2,none)],c33,false,[],[],none⟩
theorem tr33:trFn Tryz.prog false 33 Tryz.f33=some g33:=by kernel_rfl
def c34:ACode:=.seq (rT [oUn 1 (.box (some 2)) 0,oP 2 .mv [cIn 0]] [1]) (.seq (.seq (rT [oUn 3 (.load (some 2)) 1,oCl 4 6 [.t 3],oUn 5 .not 4] [1,5]) (kRt 5 [oP 2 .mv [cIn 0]] [2])) (.seq (rT [oUn 6 (.load (some 2)) 1,oCl 7 16 [.t 6],oMv 2 7] [2]) .ret))
def g34:AFn:=⟨1,[(2,none)],c34,false,[],[],none⟩
theorem tr34:trFn Tryz.prog false 34 Tryz.f34=some g34:=by kernel_rfl
def c35:ACode:=.seq (rT [oBx 2 0,oBx 3 1,oP 4 .mv [cBo false]] [2,3]) (.seq (.seq (rT [oFa 6 0 2,oLo 7 6,oFa 8 0 3,oLo 9 8,oBi 10 .neq 7 9,oMv 11 10,oG 12 (.faddr 1) [.t 2] 11 false,oG 13 (.load none) [.t 12] 11 false,oG 14 (.faddr 1) [.t 3] 11 false,oG 15 (.load none) [.t 14] 11 false,
 oG 16 (.bin .neq) [.t 13,.t 15] 11 false,oP 17 .pick [.t 11,cBo true,.t 16],oMv 18 17,oG 19 (.faddr 2) [.t 2] 18 false,oG 20 (.load none) [.t 19] 18 false,oG 21 (.faddr 2) [.t 3] 18 false,oG 22 (.load none) [.t 21] 18 false,oG 23 (.binb .neq) [.t 20,
 .t 22] 18 false,oP 24 .pick [.t 18,cBo true,.t 23],oMv 25 24,oG 26 (.faddr 3) [.t 2] 25 false,oG 27 (.load none) [.t 26] 25 false,oG 28 .len [.t 27] 25 false,oG 29 (.faddr 3) [.t 3] 25 false,oG 30 (.load none) [.t 29] 25 false,oG 31 .len [.t 30] 25 false,
 oG 32 (.bin .neq) [.t 28,.t 31] 25 false,oP 33 .pick [.t 25,cBo true,.t 32]] [2,3,33]) (kRt 33 [oP 4 .mv [cBo false]] [4])) (.seq (.seq (rT [oP 5 .mv [cIn 0]] [2,3,5]) (.block 0 (.loop [2,3,5] (.seq (.seq (rT [oMv 34 5,oFa 35 3 2,oLo 36 35,oUn 37 .len 36,
 oBi 38 .lss 34 37] [2,3,5,38]) (kEx 38 0)) (.seq (.block 1 (.seq (rT [oFa 41 3 2,oLo 42 41,oMv 43 5,oP 44 (.iaddr (some 9)) [.t 42,.t 43],oUn 45 (.load (some 9)) 44,oFa 46 3 3,oLo 47 46,oMv 48 5,oP 49 (.iaddr (some 9)) [.t 47,.t 48],oUn 50 (.load (some 9)) 49,
 oCl 51 36 [.t 45,.t 50],oUn 52 .not 51] [2,3,5,52]) (kRt 52 [oP 4 .mv [cBo false]] [4]))) (rT [oMv 39 5,oBc 40 .add 39 1,oMv 5 40] [2,3,5])))))) (.seq (rT [oP 4 .mv [cBo true]] [4]) .ret)))
def g35:AFn:=⟨2,[(4,none)],c35,false,[],[],none⟩
theorem tr35:trFn Tryz.prog false 35 Tryz.f35=some g35:=by kernel_rfl
def c36:ACode:=.seq (rT [oUn 2 (.box (some 9)) 0,oUn 3 (.box (some 9)) 1,oP 4 .mv [cBo false]] [2,3]) (.seq (rT [oFa 5 0 2,oLo 6 5,oFa 7 0 3,oLo 8 7,oBi 9 .eql 6 8,oMv 10 9,oG 11 (.faddr 1) [.t 2] 10 true,oG 12 (.faddr 0) [.t 11] 10 true,oG 13 (.load (some 4)) [.t 12] 10 true,
 oG 14 (.faddr 1) [.t 3] 10 true,oG 15 (.faddr 0) [.t 14] 10 true,oG 16 (.load (some 4)) [.t 15] 10 true,oG 17 .call [cFn 45,.t 13,.t 16] 10 true,oP 18 .pick [.t 10,.t 17,cBo false],oMv 19 18,oG 20 (.faddr 1) [.t 2] 19 true,oG 21 (.faddr 4) [.t 20] 19 true,
 oG 22 (.load (some 4)) [.t 21] 19 true,oG 23 (.faddr 1) [.t 3] 19 true,oG 24 (.faddr 4) [.t 23] 19 true,oG 25 (.load (some 4)) [.t 24] 19 true,oG 26 .call [cFn 45,.t 22,.t 25] 19 true,oP 27 .pick [.t 19,.t 26,cBo false],oMv 4 27] [4]) .ret)
def g36:AFn:=⟨2,[(4,none)],c36,false,[],[],none⟩
theorem tr36:trFn Tryz.prog false 36 Tryz.f36=some g36:=by kernel_rfl
def c37:ACode:=.seq (rT [oP 2 (.alloc (some 8) (.agg [(some 4,.agg A0),(some 4,.agg [(none,.pv none (.int .i64 0)),(none,.pv none (.int .i64 0)),
 (none,.pv none (.str [])),(none,.tsl (some 4) [])])])) []] [0,2]) (.seq (rT [oMv 3 0,oP 4 (bZ [0,2]) [cIn 2,.t 3],oP 5 (bZ [0,2]) [cIn 2,cSt [116,114,117,101]],oP 6 (.build [(some 4,.agg [(none,.pv none (.int .i64 0)),(none,.pv none (.int .i64 0)),
 (none,.pv none (.str [])),(none,.tsl (some 4) [])]),(some 4,.agg A0)] [0,1]) [.t 4,.t 5],⟨none,(.store (some 8)),[.t 2,
 .t 6],none⟩] [2]) .ret)
def g37:AFn:=⟨1,[(2,some (some 8))],c37,false,[],[],none⟩
theorem tr37:trFn Tryz.prog false 37 Tryz.f37=some g37:=by kernel_rfl
def c38:ACode:=.seq (rT [oUn 1 (.box (some 2)) 0,oP 2 .mv [cIn 0]] [1]) (.seq (rT [oP 3 .mv [cIn 0]] [1,3]) (.seq (.seq (rT [oFa 6 1 1,oLo 7 6,oUn 8 .len 7,oP 9 .mv [cIn 0]] [3,7,8,9]) (.block 0 (.loop [3,7,8,9] (.seq (rT [oBi 10 .lss 9 8] [3,7,8,9,10]) (.seq (kEx 10 0) (.seq (.block 1 (.seq (rT [oIa 11 7 9,
 oLf 12 11,oP 5 (.alloc (some 4) (.agg A2)) [],oSf 5 12] [3,5,7,8,9]) (rT [oMv 13 3,oFa 14 3 5,oLo 15 14,oUn 16 .len 15,oBi 17 .add 13 16,
 oMv 3 17] [3,7,8,9]))) (rT [oBc 18 .add 9 1,oMv 9 18] [3,7,8,9]))))))) (.seq (rT [oMv 19 3,oMv 2 19] [2]) .ret)))
def g38:AFn:=⟨1,[(2,none)],c38,false,[],[],none⟩
theorem tr38:trFn Tryz.prog false 38 Tryz.f38=some g38:=by kernel_rfl
def c39:ACode:=.seq (rT [oP 4 .mv [cBo false]] [0,1]) (.seq (rT [oMv 5 0,oUn 6 .slen 5,oBc 7 .leq 6 100,oMv 8 7,oG 9 .mv [.t 1] 8 true,oG 10 (.bin .geq) [.t 9,cIn 0] 8 true,oP 11 .pick [.t 8,.t 10,cBo false],oMv 12 11,oG 13 .mv [.t 1] 12 true,oG 14 (.bin .leq) [.t 13,
 cIn 8] 12 true,oP 15 .pick [.t 12,.t 14,cBo false],oMv 4 15] [4]) .ret)
def g39:AFn:=⟨2,[(4,none)],c39,false,[],[],none⟩
theorem tr39:trFn Tryz.prog false 39 Tryz.f39=some g39:=by kernel_rfl
def c40:ACode:=.seq (rT [oBx 2 0,oBx 3 1,oP 4 .mv [cIn 0]] [2,3]) (.seq (.seq (.settle []) (rT [oFa 5 0 2,oLo 6 5,oFa 7 0 3,oLo 8 7,oP 9 .callp [cFn 62,.t 6,.t 8],oFa 10 1 2,oLo 11 10,oFa 12 1 3,oLo 13 12,oP 14 .callp [cFn 63,.t 11,.t 13],oP 15 (.bslicep none) [.t 9,
 .t 14],oP 16 .callp [cFn 61,.t 15],oMv 4 16] [4])) .ret)
def g40:AFn:=⟨2,[(4,none)],c40,false,[],[],none⟩
theorem tr40:trFn Tryz.prog false 40 Tryz.f40=some g40:=by kernel_rfl
def c41:ACode:=.seq (rT [oUn 1 (.box (some 8)) 0,oP 2 .mv [cBo false]] [1]) (.seq (.seq (rT [oFa 6 0 1,oLf 7 6,oCl 8 64 [.t 7],oUn 9 .not 8,oMv 10 9,oG 11 (.faddr 0) [.t 1] 10 false,oG 12 (.load (some 4)) [.t 11] 10 false,oG 13 .call [cFn 65,.t 12] 10 false,
 oG 14 .not [.t 13] 10 false,oP 15 .pick [.t 10,cBo true,.t 14],oMv 16 15,oG 17 (.load (some 8)) [.t 1] 16 false,oG 18 .call [cFn 66,.t 17] 16 false,oG 19 .not [.t 18] 16 false,oP 20 .pick [.t 16,cBo true,.t 19]] [1,20]) (kRt 20 [oP 2 .mv [cBo false]] [2])) (.seq (rT [oFa 22 4 1,
 oLf 23 22,oCl 24 67 [.t 23],oMv 21 24,oEx 25 0 21,oEx 26 1 21,oP 3 aZ [],oSf 3 25,oMv 2 26] [1,2,3]) (.seq (.seq (rT [oMv 27 2,oUn 28 .not 27,oMv 29 28,oG 30 (.load (some 4)) [.t 3] 29 false,oG 31 (.faddr 4) [.t 1] 29 false,oG 32 (.load (some 4)) [.t 31] 29 false,
 oG 33 .call [cFn 68,.t 30,.t 32] 29 false,oG 34 .not [.t 33] 29 false,oP 35 .pick [.t 29,cBo true,.t 34]] [1,35]) (kRt 35 [oP 2 .mv [cBo false]] [2])) (.seq (rT [oUn 37 (.load (some 8)) 1,oCl 38 69 [.t 37],oMv 36 38,oEx 39 0 36,oEx 40 1 36,oP 4 (.alloc (some 8) (.agg [(some 4,
 (.agg A0)),(some 4,.agg [(none,.pv none (.int .i64 0)),(none,.pv none (.int .i64 0)),(none,.pv none (.str [])),(none,
 (.tsl (some 4) []))])])) [],⟨none,(.store (some 8)),[.t 4,.t 39],none⟩,oMv 5 40] [1,4,5]) (.seq (rT [oMv 41 5,oBc 42 .leq 41 64,oMv 43 42,oG 44 (.faddr 0) [.t 4] 43 true,oG 45 (.load (some 4)) [.t 44] 43 true,oG 46 (.faddr 0) [.t 1] 43 true,
 oG 47 (.load (some 4)) [.t 46] 43 true,oG 48 .call [cFn 68,.t 45,.t 47] 43 true,oP 49 .pick [.t 43,.t 48,cBo false],oMv 50 49,oG 51 (.faddr 4) [.t 4] 50 true,oG 52 (.load (some 4)) [.t 51] 50 true,oG 53 (.faddr 4) [.t 1] 50 true,oG 54 (.load (some 4)) [.t 53] 50 true,
 oG 55 .call [cFn 68,.t 52,.t 54] 50 true,oP 56 .pick [.t 50,.t 55,cBo false],oMv 2 56] [2]) .ret)))))
def g41:AFn:=⟨1,[(2,none)],c41,false,[],[],none⟩
theorem tr41:trFn Tryz.prog false 41 Tryz.f41=some g41:=by kernel_rfl
def c42:ACode:=.seq (rT [oUn 1 (.box (some 9)) 0,oP 2 (.alloc (some 9) (.agg [(none,.pv none (.int .i64 0)),(some 8,.agg [(some 4,.agg A0),
 (some 4,.agg A0)])])) []] [1,2]) (.seq (.seq (.settle []) (rT [oFa 3 0 1,oLo 4 3,oFa 5 1 1,oFa 6 0 5,oLf 7 6,oP 8 .callp [cFn 70,
 .t 7],oFa 9 1 1,oFa 10 4 9,oLf 11 10,oP 12 .callp [cFn 70,.t 11],oP 13 (.build [(some 4,.agg A0),(some 4,.agg [(none,
 (.pv none (.int .i64 0))),(none,.pv none (.int .i64 0)),(none,.pv none (.str [])),(none,.tsl (some 4) [])])] [0,1]) [.t 8,.t 12],oP 14 (.build [(none,.pv none (.int .i64 0)),(some 8,.agg [(some 4,.agg [(none,.pv none (.int .i64 0)),
 (none,.pv none (.int .i64 0)),(none,.pv none (.str [])),(none,.tsl (some 4) [])]),(some 4,.agg A0)])] [0,1]) [.t 4,
 .t 13],⟨none,(.store (some 9)),[.t 2,.t 14],none⟩] [2])) .ret)
def g42:AFn:=⟨1,[(2,some (some 9))],c42,false,[],[],none⟩
theorem tr42:trFn Tryz.prog false 42 Tryz.f42=some g42:=by kernel_rfl
def c43:ACode:=.seq (rT [oBx 1 0,oP 2 .mv [cBo false]] [1]) (.seq (rT [oLf 3 1,oCl 4 46 [.t 3],oBc 5 .leq 4 2000,oMv 6 5,oG 7 (.load (some 4)) [.t 1] 6 true,oG 8 .call [cFn 71,.t 7] 6 true,oP 9 .pick [.t 6,.t 8,cBo false],oMv 2 9] [2]) .ret)
def g43:AFn:=⟨1,[(2,none)],c43,false,[],[],none⟩
theorem tr43:trFn Tryz.prog false 43 Tryz.f43=some g43:=by kernel_rfl
def c44:ACode:=.seq (rT [oBx 1 0,oP 2 aZ [],oP 3 .mv [cBo false]] [1,2]) (.seq (.seq (rT [oFa 8 0 1,oLo 9 8,oBc 10 .eql 9 0] [1,2,10]) (kRt 10 [oLf 11 1,oUn 12 (.bslice (some 4)) 11,oP 13 (bZ [0,2,3]) [cIn 3,cSt [99,97,108,108],.t 12],oSf 2 13,oP 3 .mv [cBo true]] [2,
 3])) (.seq (.seq (rT [oFa 14 0 1,oLo 15 14,oBc 16 .eql 15 1] [1,2,16]) (kRt 16 [oP 17 (bZ []) [],oSf 2 17,oP 3 .mv [cBo false]] [2,3])) (.seq (.seq (rT [oLf 18 1,oCl 19 72 [.t 18],oUn 20 .not 19] [1,2,20]) (kRt 20 [oLf 21 1,oCl 22 70 [.t 21],
 oSf 2 22,oP 3 .mv [cBo true]] [2,3])) (.seq (rT [oFa 24 3 1,oLo 25 24,oP 26 (.iaddr (some 4)) [.t 25,cIn 0],oLf 27 26,oCl 28 44 [.t 27],oMv 23 28,oEx 29 0 23,oEx 30 1 23,oP 4 aZ [],oSf 4 29,oMv 5 30] [1,2,4,5]) (.seq (rT [oFa 32 3 1,oLo 33 32,
 oP 34 (.iaddr (some 4)) [.t 33,cIn 1],oLf 35 34,oCl 36 44 [.t 35],oMv 31 36,oEx 37 0 31,oEx 38 1 31,oP 6 aZ [],oSf 6 37,oMv 7 38] [1,2,4,5,6,7]) (.seq (rT [oFa 39 2 1,oLo 40 39,oLf 41 4,oLf 42 6,oP 43 (.bslice (some 4)) [.t 41,.t 42],oP 44 (bZ [0,
 2,3]) [cIn 3,.t 40,.t 43],oMv 45 5,oMv 46 45,oG 47 .mv [.t 7] 46 true,oP 48 .pick [.t 46,.t 47,cBo false],oSf 2 44,oMv 3 48] [2,3]) .ret))))))
def g44:AFn:=⟨1,[(2,some (some 4)),(3,none)],c44,false,[],[],none⟩
theorem tr44:trFn Tryz.prog false 44 Tryz.f44=some g44:=by kernel_rfl
def c45:ACode:=.seq (rT [oBx 2 0,oBx 3 1,oP 4 .mv [cBo false]] [2,3]) (.seq (rT [oLf 5 2,oCl 6 43 [.t 5],oMv 7 6,oG 8 (.load (some 4)) [.t 3] 7 true,oG 9 .call [cFn 43,.t 8] 7 true,oP 10 .pick [.t 7,.t 9,cBo false],oMv 11 10,oG 12 (.load (some 4)) [.t 2] 11 true,
 oG 13 (.load (some 4)) [.t 3] 11 true,oG 14 .call [cFn 73,.t 12,.t 13] 11 true,oP 15 .pick [.t 11,.t 14,cBo false],oMv 4 15] [4]) .ret)
def g45:AFn:=⟨2,[(4,none)],c45,false,[],[],none⟩
theorem tr45:trFn Tryz.prog false 45 Tryz.f45=some g45:=by kernel_rfl
def c46:ACode:=.seq (rT [oBx 1 0,oP 2 .mv [cIn 0]] [1]) (.seq (rT [oLf 3 1,oCl 4 74 [.t 3,cIn 2001],oMv 2 4] [2]) .ret)
def g46:AFn:=⟨1,[(2,none)],c46,false,[],[],none⟩
theorem tr46:trFn Tryz.prog false 46 Tryz.f46=some g46:=by kernel_rfl
def c47:ACode:=.seq (rT [oP 2 (.nilsl none) []] [0]) (.seq (rT [oP 3 (.nilsl none) []] [0,3]) (.seq (.seq (rT [oP 4 .mv [cIn 0]] [0,3,4]) (.block 0 (.loop [0,3,4] (.seq (.seq (rT [oMv 5 4,oMv 6 0,oUn 7 .len 6,oBi 8 .lss 5 7] [0,3,4,8]) (kEx 8 0)) (.seq (.block 1 (rT [oMv 11 3,
 oMv 12 0,oMv 13 4,oIa 14 12 13,oLf 15 14,oCl 16 75 [.t 11,.t 15],oMv 3 16] [0,3,4])) (rT [oMv 9 4,oBc 10 .add 9 1,oMv 4 10] [0,3,4])))))) (.seq (rT [oMv 17 3,oMv 2 17] [2]) .ret)))
def g47:AFn:=⟨1,[(2,none)],c47,false,[],[],none⟩
theorem tr47:trFn Tryz.prog false 47 Tryz.f47=some g47:=by kernel_rfl
def c48:ACode:=.seq (rT [oP 4 .mv [cBo false]] [0,1]) (.seq (.seq (rT [oMv 6 0,oUn 7 .len 6,oMv 8 1,oUn 9 .len 8,oBi 10 .neq 7 9] [0,1,10]) (kRt 10 [oP 4 .mv [cBo false]] [4])) (.seq (.seq (rT [oP 5 .mv [cIn 0]] [0,1,5]) (.block 0 (.loop [0,1,5] (.seq (.seq (rT [oMv 11 5,
 oMv 12 0,oUn 13 .len 12,oBi 14 .lss 11 13] [0,1,5,14]) (kEx 14 0)) (.seq (.block 1 (.seq (rT [oMv 17 0,oMv 18 5,oIa 19 17 18,oLf 20 19,oMv 21 1,oMv 22 5,oIa 23 21 22,oLf 24 23,oCl 25 45 [.t 20,.t 24],oUn 26 .not 25] [0,1,5,26]) (kRt 26 [oP 4 .mv [cBo false]] [4]))) (rT [oMv 15 5,
 oBc 16 .add 15 1,oMv 5 16] [0,1,5])))))) (.seq (rT [oP 4 .mv [cBo true]] [4]) .ret)))
def g48:AFn:=⟨2,[(4,none)],c48,false,[],[],none⟩
theorem tr48:trFn Tryz.prog false 48 Tryz.f48=some g48:=by kernel_rfl
def c49:ACode:=.seq (rT [oP 2 (.nilsl (some 4)) []] [0]) (.seq (rT [oMv 6 0,oCl 7 47 [.t 6],oMv 3 7] [0,3]) (.seq (rT [oP 4 (.nilsl (some 4)) []] [0,3,4]) (.seq (.seq (rT [oP 5 .mv [cIn 0]] [0,3,4,5]) (.block 0 (.loop [0,3,4,5] (.seq (.seq (rT [oMv 8 5,oMv 9 0,
 oUn 10 .len 9,oBi 11 .lss 8 10] [0,3,4,5,11]) (kEx 11 0)) (.seq (.block 1 (rT [oMv 14 4,oMv 15 3,oMv 16 0,oMv 17 5,oIa 18 16 17,oLf 19 18,oCl 20 76 [.t 15,.t 19],oUn 21 (.bslice (some 4)) 20,oP 22 (.append (some 4)) [.t 14,.t 21],oMv 4 22] [0,
 3,4,5])) (rT [oMv 12 5,oBc 13 .add 12 1,oMv 5 13] [0,3,4,5])))))) (.seq (rT [oMv 23 4,oMv 2 23] [2]) .ret))))
def g49:AFn:=⟨1,[(2,none)],c49,false,[],[],none⟩
theorem tr49:trFn Tryz.prog false 49 Tryz.f49=some g49:=by kernel_rfl
def c50:ACode:=.seq (rT [oUn 3 (.box (some 2)) 0,oP 6 .mv [cIn 0],oP 7 .mv [cBo false]] [1,2,3]) (.seq (rT [oFa 8 1 3,oLo 9 8,oMv 10 1,oMv 11 2,oP 12 (.build [(none,.pv none (.str [])),(none,.pv none (.int .i64 0)),(none,.pv none (.bool false)),(none,
 (.tsl (some 9) []))] [0,1]) [.t 10,.t 11],oCl 13 77 [.t 9,.t 12,cFn 78],oEx 14 0 13,oEx 15 1 13,oMv 6 14,oMv 7 15] [6,7]) .ret)
def g50:AFn:=⟨3,[(6,none),(7,none)],c50,false,[],[],none⟩
theorem tr50:trFn Tryz.prog false 50 Tryz.f50=some g50:=by kernel_rfl
def c51:ACode:=.seq (rT [oUn 1 (.box (some 2)) 0,oP 2 (.alloc (some 2) (.agg A1)) []] [1,2]) (.seq (rT [oFa 6 1 1,oLo 7 6,oUn 8 .len 7,oP 9 (.mkslicev (some 4) (.agg [(none,.pv none (.str [])),(none,
 (.pv none (.int .i64 0))),(none,.pv none (.bool false)),(none,.tsl (some 9) [])])) [.t 8,.t 8],oMv 3 9] [1,2,3]) (.seq (.seq (rT [oFa 10 1 1,oLo 11 10,oUn 12 .len 11,oP 13 .mv [cIn 0]] [1,2,3,11,12,13]) (.block 0 (.loop [1,2,3,11,12,13] (.seq (rT [oBi 14 .lss 13 12] [1,
 2,3,11,12,13,14]) (.seq (kEx 14 0) (.seq (.block 1 (.seq (rT [oMv 15 13,oIa 16 11 13,oLf 17 16,oP 5 (.alloc (some 4) (.agg A2)) [],
 oMv 4 15,oSf 5 17] [1,2,3,4,5,11,12,13]) (rT [oMv 18 3,oMv 19 4,oLf 20 5,oCl 21 60 [.t 20],oIa 22 18 19,oSf 22 21] [1,2,3,11,12,13]))) (rT [oBc 23 .add 13 1,oMv 13 23] [1,2,3,11,12,13]))))))) (.seq (rT [oMv 24 3,oFa 25 1 1,oSo 25 24] [1,2]) (.seq (rT [oUn 26 (.load (some 2)) 1,
 ⟨none,(.store (some 2)),[.t 2,.t 26],none⟩] [2]) .ret))))
def g51:AFn:=⟨1,[(2,some (some 2))],c51,true,[],[],none⟩
theorem tr51:trFn Tryz.prog true 51 Tryz.f51=some g51:=by kernel_rfl
def c54r0:LO:=[oUn 1 (.box (some 9)) 0,oP 2 (.alloc (some 9) (.agg [(none,.pv none (.int .i64 0)),(some 8,.agg [(some 4,.agg A0),
 (some 4,.agg A0)])])) []]
def c54r1:LO:=[oFa 3 0 1,oLo 4 3,oFa 5 1 1,oFa 6 0 5,oLf 7 6,oP 8 .callp [cFn 83,.t 7],oFa 9 1 1,oFa 10 4 9,oLf 11 10,oP 12 .callp [cFn 83,.t 11],oP 13 (.build [(some 4,.agg [(none,.pv none (.int .i64 0)),(none,.pv none (.int .i64 0)),(none,.pv none (.str [])),
 (none,.tsl (some 4) [])]),(some 4,.agg A0)] [0,1]) [.t 8,.t 12],oP 14 (.build [(none,.pv none (.int .i64 0)),(some 8,
 (.agg [(some 4,.agg A0),(some 4,.agg [(none,.pv none (.int .i64 0)),(none,.pv none (.int .i64 0)),(none,.pv none (.str [])),
 (none,.tsl (some 4) [])])]))] [0,1]) [.t 4,.t 13],⟨none,(.store (some 9)),[.t 2,.t 14],none⟩]
def c54:ACode:=.seq (rT c54r0 [1,2]) (.seq (.seq (.settle []) (rT c54r1 [2])) .ret)
def g54:AFn:=⟨1,[(2,some (some 9))],c54,false,[],[],none⟩
theorem tr54:trFn Tryz.prog false 54 Tryz.f54=some g54:=by kernel_rfl
def c55:ACode:=.seq (rT [oUn 2 (.box (some 2)) 0,oUn 3 (.box none) 1,oP 4 .mv [cIn 0],oP 5 .mv [cIn 0],oP 6 .mv [cBo false]] [2,3]) (.seq (.seq (rT [oFa 10 1 2,oLo 11 10,oUn 12 .len 11,oP 13 .mv [cIn 0]] [3,11,12,13]) (.block 0 (.loop [3,11,12,13] (.seq (rT [oBi 14 .lss 13 12] [3,
 11,12,13,14]) (.seq (kEx 14 0) (.seq (.block 1 (.seq (rT [oMv 15 13,oIa 16 11 13,oLf 17 16,oP 8 (.alloc (some 4) (.agg A2)) [],
 oMv 7 15,oSf 8 17] [3,7,8,11,12,13]) (.seq (rT [oFa 18 3 8,oLo 19 18,oUn 20 (.mkfunc (.func 85) 0) 3,oCl 21 84 [.t 19,.t 20],oMv 9 21] [3,7,9,11,12,13]) (.seq (rT [oMv 22 9,oBc 23 .geq 22 0] [3,7,9,11,12,13,23]) (kRt 23 [oMv 24 7,oMv 25 9,oMv 4 24,
 oMv 5 25,oP 6 .mv [cBo true]] [4,5,6]))))) (rT [oBc 26 .add 13 1,oMv 13 26] [3,11,12,13]))))))) (.seq (rT [oP 4 .mv [cIn 0],oP 5 .mv [cIn 0],oP 6 .mv [cBo false]] [4,5,6]) .ret))
def g55:AFn:=⟨2,[(4,none),(5,none),(6,none)],c55,false,[],[],none⟩
theorem tr55:trFn Tryz.prog false 55 Tryz.f55=some g55:=by kernel_rfl
def c56:ACode:=.seq (rT [oP 6 (.nilsl (some 9)) []] [0,1,2]) (.seq (rT [oMv 8 0,oMv 9 1,oMv 10 2,oMv 11 0,oUn 12 .len 11,oP 13 (.slice3 (some 9) true) [.t 8,.t 9,.t 10,.t 12]] [0,1,2]) (.seq (.seq (rT [oMv 14 1,oMv 15 2,oBi 16 .eql 14 15] [0,1,2,16]) (kRt 16 [oMv 17 0,
 oMv 6 17] [6])) (.seq (rT [oMv 18 0,oUn 19 .len 18,oMv 7 19] [0,1,2,7]) (.seq (rT [oMv 20 0,oMv 21 1,oP 22 (.slice (some 9) false true) [.t 20,.t 21],oMv 23 0,oMv 24 2,oP 25 (.slice (some 9) true false) [.t 23,.t 24],oP 26 (.append (some 9)) [.t 22,
 .t 25],oMv 0 26] [0,7]) (.seq (rT [oMv 27 0,oMv 28 0,oUn 29 .len 28,oMv 30 7,oP 31 (.slice (some 9) true true) [.t 27,.t 29,.t 30],⟨none,(.clear (some 9) (.agg [(none,.int .i64 0),(some 8,.agg [(some 4,.agg [(none,.int .i64 0),(none,
 (.int .i64 0)),(none,.str []),(none,.sl (some 4) [])]),(some 4,.agg [(none,.int .i64 0),(none,.int .i64 0),(none,.str []),(none,.sl (some 4) [])])])])),[.t 31],none⟩] [0]) (.seq (rT [oMv 32 0,oMv 6 32] [6]) .ret))))))
def g56:AFn:=⟨3,[(6,none)],c56,true,[],[],none⟩
theorem tr56:trFn Tryz.prog true 56 Tryz.f56=some g56:=by kernel_rfl
def c57:ACode:=.seq (rT [oP 6 .mv [.c (.nilv (some 4))]] [0,1,2]) (.seq (rT [oMv 8 0,oMv 9 1,oMv 10 2,oMv 11 0,oUn 12 .len 11,oP 13 (.slice3 (some 4) true) [.t 8,.t 9,.t 10,.t 12]] [0,1,2]) (.seq (.seq (rT [oMv 14 1,oMv 15 2,oBi 16 .eql 14 15] [0,1,2,16]) (kRt 16 [oMv 17 0,
 oMv 6 17] [6])) (.seq (rT [oMv 18 0,oUn 19 .len 18,oMv 7 19] [0,1,2,7]) (.seq (rT [oMv 20 0,oMv 21 1,oP 22 (.slice (some 4) false true) [.t 20,.t 21],oMv 23 0,oMv 24 2,oP 25 (.slice (some 4) true false) [.t 23,.t 24],oP 26 (.appendv (some 4)) [.t 22,
 .t 25],oMv 0 26] [0,7]) (.seq (rT [oMv 27 0,oMv 28 0,oUn 29 .len 28,oMv 30 7,oP 31 (.slice (some 4) true true) [.t 27,.t 29,.t 30],⟨none,(.clear (some 4) (.agg [(none,.str []),(none,.int .i64 0),(none,.bool false),(none,.sl (some 9) [])])),
 [.t 31],none⟩] [0]) (.seq (rT [oMv 32 0,oMv 6 32] [6]) .ret))))))
def g57:AFn:=⟨3,[(6,none)],c57,true,[],[],none⟩
theorem tr57:trFn Tryz.prog true 57 Tryz.f57=some g57:=by kernel_rfl
def c58:ACode:=.seq (rT [oUn 3 (.box (some 2)) 0,oP 6 .mv [cIn 0]] [1,2,3]) (.seq (.seq (rT [oP 7 .mv [cIn 0]] [1,2,3,7]) (.block 0 (.loop [1,2,3,7] (.seq (.seq (rT [oMv 8 7,oFa 9 1 3,oLo 10 9,oUn 11 .len 10,oBi 12 .lss 8 11] [1,2,3,7,12]) (kEx 12 0)) (.seq (.block 1 (.seq (rT [oFa 15 1 3,
 oLo 16 15,oMv 17 7,oIa 18 16 17,oFa 19 0 18,oLo 20 19,oMv 21 1,oBi 22 .eql 20 21,oMv 23 22,oG 24 (.faddr 1) [.t 3] 23 true,oG 25 (.load none) [.t 24] 23 true,oG 26 .mv [.t 7] 23 true,oG 27 (.iaddr (some 4)) [.t 25,.t 26] 23 true,oG 28 (.faddr 1) [.t 27] 23 true,
 oG 29 (.load none) [.t 28] 23 true,oG 30 .mv [.t 2] 23 true,oG 31 (.bin .eql) [.t 29,.t 30] 23 true,oP 32 .pick [.t 23,.t 31,cBo false]] [1,2,3,7,32]) (kRt 32 [oMv 33 7,oMv 6 33] [6]))) (rT [oMv 13 7,oBc 14 .add 13 1,oMv 7 14] [1,2,3,7])))))) (.seq (rT [oP 6 .mv [.c (.pv none (.int .i64 (-1)))]] [6]) .ret))
def g58:AFn:=⟨3,[(6,none)],c58,false,[],[],none⟩
theorem tr58:trFn Tryz.prog false 58 Tryz.f58=some g58:=by kernel_rfl
def c59:ACode:=.seq (rT [oUn 2 (.box (some 2)) 0,oBx 3 1,oP 4 (.alloc (some 2) (.agg A1)) []] [2,3,4]) (.seq (rT [oFa 8 0 2,oLo 9 8,oP 10 (.build A1 [0]) [.t 9],
 oP 5 (.alloc (some 2) (.agg A1)) [],⟨none,(.store (some 2)),[.t 5,.t 10],none⟩] [2,3,4,5]) (.seq (rT [oP 6 .mv [cBo false]] [2,3,4,5,6]) (.seq (.seq (rT [oP 7 .mv [cIn 0]] [2,3,4,5,6,7]) (.block 0 (.loop [2,
 3,4,5,6,7] (.seq (.seq (rT [oMv 11 7,oFa 12 1 2,oLo 13 12,oUn 14 .len 13,oBi 15 .lss 11 14] [2,3,4,5,6,7,15]) (kEx 15 0)) (.seq (.block 1 (.seq (.seq (rT [oMv 18 6,oUn 19 .not 18,oMv 20 19,oG 21 (.load (some 4)) [.t 3] 20 true,oG 22 (.faddr 1) [.t 2] 20 true,
 oG 23 (.load none) [.t 22] 20 true,oG 24 .mv [.t 7] 20 true,oG 25 (.iaddr (some 4)) [.t 23,.t 24] 20 true,oG 26 (.load (some 4)) [.t 25] 20 true,oG 27 .call [cFn 18,.t 21,.t 26] 20 true,oP 28 .pick [.t 20,.t 27,cBo false]] [2,3,4,5,6,7,28]) (.cond (.t 28) (.seq (rT [oFa 29 1 5,
 oLo 30 29,oLf 31 3,oUn 32 (.bslov (some 4)) 31,oP 33 (.appendv (some 4)) [.t 30,.t 32],oFa 34 1 5,oSo 34 33] [2,3,4,5,7]) (rT [oP 6 .mv [cBo true]] [2,3,4,5,6,7])) .skip)) (rT [oFa 35 1 5,oLo 36 35,oFa 37 1 2,oLo 38 37,oMv 39 7,oIa 40 38 39,
 oLf 41 40,oP 42 (.bslovn (some 4) 1) [.t 35,.t 41],oP 43 (.appendv (some 4)) [.t 36,.t 42],oFa 44 1 5,oSo 44 43] [2,3,4,5,6,7]))) (rT [oMv 16 7,oBc 17 .add 16 1,oMv 7 17] [2,3,4,5,6,7])))))) (.seq (.seq (rT [oMv 45 6,oUn 46 .not 45] [3,4,5,46]) (.cond (.t 46) (rT [oFa 47 1 5,
 oLo 48 47,oLf 49 3,oUn 50 (.bslov (some 4)) 49,oP 51 (.appendv (some 4)) [.t 48,.t 50],oFa 52 1 5,oSo 52 51] [4,5]) .skip)) (.seq (rT [oUn 53 (.load (some 2)) 5,⟨none,(.store (some 2)),[.t 4,.t 53],none⟩] [4]) .ret)))))
def g59:AFn:=⟨2,[(4,some (some 2))],c59,true,[],[],none⟩
theorem tr59:trFn Tryz.prog true 59 Tryz.f59=some g59:=by kernel_rfl
def c60:ACode:=.seq (rT [oBx 1 0,oP 2 (.alloc (some 4) (.agg A2)) []] [1,2]) (.seq (rT [oFa 6 3 1,oLo 7 6,oUn 8 .len 7,oP 9 (.mkslice (some 9) (.agg [(none,
 (.int .i64 0)),(some 8,.agg [(some 4,.agg [(none,.int .i64 0),(none,.int .i64 0),(none,.str []),(none,.sl (some 4) [])]),(some 4,.agg [(none,.int .i64 0),(none,.int .i64 0),(none,.str []),(none,.sl (some 4) [])])])])) [.t 8,
 .t 8],oMv 3 9] [1,2,3]) (.seq (rT [oMv 10 3,oFa 11 3 1,oLo 12 11,oP 13 (.copy (some 9)) [.t 10,.t 12]] [1,2,3]) (.seq (.seq (rT [oMv 14 3,oUn 15 .len 14,oP 16 .mv [cIn 0]] [1,2,3,14,15,16]) (.block 0 (.loop [1,2,3,14,15,16] (.seq (rT [oBi 17 .lss 16 15] [1,
 2,3,14,15,16,17]) (.seq (kEx 17 0) (.seq (.block 1 (.seq (rT [oMv 18 16,oP 19 (.iaddr (some 9)) [.t 14,.t 16],oUn 20 (.load (some 9)) 19,oP 5 (.alloc (some 9) (.agg [(none,.pv none (.int .i64 0)),(some 8,.agg [(some 4,.agg [(none,.pv none (.int .i64 0)),
 (none,.pv none (.int .i64 0)),(none,.pv none (.str [])),(none,.tsl (some 4) [])]),(some 4,.agg A0)])])) [],oMv 4 18,
 ⟨none,(.store (some 9)),[.t 5,.t 20],none⟩] [1,2,3,4,5,14,15,16]) (rT [oMv 21 3,oMv 22 4,oUn 23 (.load (some 9)) 5,oCl 24 54 [.t 23],oP 25 (.iaddr (some 9)) [.t 21,.t 22],⟨none,(.store (some 9)),[.t 25,.t 24],none⟩] [1,2,3,14,15,16]))) (rT [oBc 26 .add 16 1,
 oMv 16 26] [1,2,3,14,15,16]))))))) (.seq (rT [oMv 27 3,oFa 28 3 1,oSo 28 27] [1,2]) (.seq (rT [oLf 29 1,oSf 2 29] [2]) .ret)))))
def g60:AFn:=⟨1,[(2,some (some 4))],c60,true,[],[],none⟩
theorem tr60:trFn Tryz.prog true 60 Tryz.f60=some g60:=by kernel_rfl
def c61:ACode:=.seq (rT [oP 2 .mv [cIn 0]] [0]) (.seq (rT [oP 3 .mv [cIn 0]] [0,3]) (.seq (.seq (rT [oMv 6 0,oUn 7 .len 6,oP 8 .mv [cIn 0]] [3,6,7,8]) (.block 0 (.loop [3,6,7,8] (.seq (rT [oBi 9 .lss 8 7] [3,6,7,8,9]) (.seq (kEx 9 0) (.seq (.block 1 (.seq (rT [oP 10 (.iaddr none) [.t 6,
 .t 8],oLo 11 10,oMv 5 11] [3,5,6,7,8]) (.seq (rT [oMv 12 5,oMv 13 3,oBi 14 .neq 12 13] [3,5,6,7,8,14]) (kRt 14 [oMv 15 5,oMv 2 15] [2])))) (rT [oBc 16 .add 8 1,oMv 8 16] [3,6,7,8]))))))) (.seq (rT [oMv 17 3,oMv 2 17] [2]) .ret)))
def g61:AFn:=⟨1,[(2,none)],c61,false,[],[],none⟩
theorem tr61:trFn Tryz.prog false 61 Tryz.f61=some g61:=by kernel_rfl
def c62:ACode:=.seq (rT [oP 4 .mv [cIn 0]] [0,1]) (.seq (rT [oMv 7 0,oCl 8 86 [.t 7],oMv 5 8] [0,1,5]) (.seq (rT [oMv 9 1,oCl 10 86 [.t 9],oMv 6 10] [0,1,5,6]) (.seq (.seq (rT [oMv 11 5] [0,1,6,11]) (.cond (.t 11) (.seq (.seq (rT [oMv 12 6] [12]) (kRt 12 [oP 4 .mv [cIn 0]] [4])) (.seq (rT [oP 4 .mv [.c (.pv none (.int .i64 (-1)))]] [4]) .ret)) .skip)) (.seq (.seq (rT [oMv 13 6] [0,
 1,13]) (kRt 13 [oP 4 .mv [cIn 1]] [4])) (.seq (.seq (rT [oMv 14 0,oMv 15 1,oBi 16 .lss 14 15] [0,1,16]) (kRt 16 [oP 4 .mv [.c (.pv none (.int .i64 (-1)))]] [4])) (.seq (.seq (rT [oMv 17 0,oMv 18 1,oBi 19 .gtr 17 18] [19]) (kRt 19 [oP 4 .mv [cIn 1]] [4])) (.seq (rT [oP 4 .mv [cIn 0]] [4]) .ret)))))))
def g62:AFn:=⟨2,[(4,none)],c62,false,[],[],none⟩
theorem tr62:trFn Tryz.prog false 62 Tryz.f62=some g62:=by kernel_rfl
def c63:ACode:=.seq (rT [oP 4 .mv [cIn 0]] [0,1]) (.seq (rT [oMv 7 0,oCl 8 87 [.t 7],oMv 5 8] [0,1,5]) (.seq (rT [oMv 9 1,oCl 10 87 [.t 9],oMv 6 10] [0,1,5,6]) (.seq (.seq (rT [oMv 11 5] [0,1,6,11]) (.cond (.t 11) (.seq (.seq (rT [oMv 12 6] [12]) (kRt 12 [oP 4 .mv [cIn 0]] [4])) (.seq (rT [oP 4 .mv [.c (.pv none (.int .i64 (-1)))]] [4]) .ret)) .skip)) (.seq (.seq (rT [oMv 13 6] [0,
 1,13]) (kRt 13 [oP 4 .mv [cIn 1]] [4])) (.seq (.seq (rT [oMv 14 0,oMv 15 1,oBi 16 .lss 14 15] [0,1,16]) (kRt 16 [oP 4 .mv [.c (.pv none (.int .i64 (-1)))]] [4])) (.seq (.seq (rT [oMv 17 0,oMv 18 1,oBi 19 .gtr 17 18] [19]) (kRt 19 [oP 4 .mv [cIn 1]] [4])) (.seq (rT [oP 4 .mv [cIn 0]] [4]) .ret)))))))
def g63:AFn:=⟨2,[(4,none)],c63,false,[],[],none⟩
theorem tr63:trFn Tryz.prog false 63 Tryz.f63=some g63:=by kernel_rfl
def c64:ACode:=.seq (rT [oBx 1 0,oP 2 .mv [cBo false]] [1]) (.seq (rT [oLf 3 1,oCl 4 88 [.t 3],oBc 5 .leq 4 2000,oMv 6 5,oG 7 (.load (some 4)) [.t 1] 6 true,oG 8 .call [cFn 89,.t 7] 6 true,oP 9 .pick [.t 6,.t 8,cBo false],oMv 2 9] [2]) .ret)
def g64:AFn:=⟨1,[(2,none)],c64,false,[],[],none⟩
theorem tr64:trFn Tryz.prog false 64 Tryz.f64=some g64:=by kernel_rfl
def c65:ACode:=.seq (rT [oBx 1 0,oP 2 .mv [cBo false]] [1]) (.seq (rT [oFa 3 0 1,oLo 4 3,oBc 5 .eql 4 2,oMv 6 5,oG 7 (.faddr 0) [.t 1] 6 false,oG 8 (.load none) [.t 7] 6 false,oG 9 (.bin .eql) [.t 8,cIn 3] 6 false,oP 10 .pick [.t 6,cBo true,.t 9],oMv 2 10] [2]) .ret)
def g65:AFn:=⟨1,[(2,none)],c65,false,[],[],none⟩
theorem tr65:trFn Tryz.prog false 65 Tryz.f65=some g65:=by kernel_rfl
def c66:ACode:=.seq (rT [oUn 1 (.box (some 8)) 0,oP 2 .mv [cBo false]] [1]) (.seq (.seq (.settle []) (rT [oFa 3 0 1,oLf 4 3,oP 5 .callp [cFn 88,.t 4],oFa 6 4 1,oLf 7 6,oP 8 .callp [cFn 88,.t 7],oBi 9 .add 5 8,oBc 10 .leq 9 2000,oMv 2 10] [2])) .ret)
def g66:AFn:=⟨1,[(2,none)],c66,false,[],[],none⟩
theorem tr66:trFn Tryz.prog false 66 Tryz.f66=some g66:=by kernel_rfl
def c67:ACode:=.seq (rT [oBx 1 0,oP 2 aZ [],oP 3 .mv [cBo false]] [1,2]) (.seq (.seq (rT [oLf 4 1,oCl 5 64 [.t 4],oUn 6 .not 5] [1,2,6]) (kRt 6 [oP 7 (bZ []) [],oSf 2 7,oP 3 .mv [cBo false]] [2,3])) (.seq (rT [oLf 9 1,oCl 10 90 [.t 9],oMv 8 10,oEx 11 0 8,oEx 12 1 8,
 oSf 2 11,oMv 3 12] [2,3]) (.seq (.seq (rT [oMv 13 3,oUn 14 .not 13,oMv 15 14,oG 16 (.load (some 4)) [.t 2] 15 false,oG 17 .call [cFn 88,.t 16] 15 false,oG 18 (.bin .gtr) [.t 17,cIn 2000] 15 false,oP 19 .pick [.t 15,cBo true,.t 18]] [2,19]) (kRt 19 [oP 20 (bZ []) [],
 oSf 2 20,oP 3 .mv [cBo false]] [2,3])) (.seq (rT [oLf 21 2,oSf 2 21,oP 3 .mv [cBo true]] [2,3]) .ret))))
def g67:AFn:=⟨1,[(2,some (some 4)),(3,none)],c67,false,[],[],none⟩
theorem tr67:trFn Tryz.prog false 67 Tryz.f67=some g67:=by kernel_rfl
def c68:ACode:=.seq (rT [oBx 2 0,oBx 3 1,oP 4 .mv [cBo false]] [2,3]) (.seq (rT [oLf 5 2,oCl 6 64 [.t 5],oMv 7 6,oG 8 (.load (some 4)) [.t 3] 7 true,oG 9 .call [cFn 64,.t 8] 7 true,oP 10 .pick [.t 7,.t 9,cBo false],oMv 11 10,oG 12 (.load (some 4)) [.t 2] 11 true,
 oG 13 (.load (some 4)) [.t 3] 11 true,oG 14 .call [cFn 91,.t 12,.t 13] 11 true,oP 15 .pick [.t 11,.t 14,cBo false],oMv 4 15] [4]) .ret)
def g68:AFn:=⟨2,[(4,none)],c68,false,[],[],none⟩
theorem tr68:trFn Tryz.prog false 68 Tryz.f68=some g68:=by kernel_rfl
def c69:ACode:=.seq (rT [oUn 1 (.box (some 8)) 0,oP 2 (.alloc (some 8) (.agg [(some 4,.agg A0),(some 4,.agg [(none,.pv none (.int .i64 0)),
 (none,.pv none (.int .i64 0)),(none,.pv none (.str [])),(none,.tsl (some 4) [])])])) [],oP 3 .mv [cIn 0]] [1,2]) (.seq (rT [oP 5 (.mkmap none) [],oMv 4 5] [1,2,4]) (.seq (rT [oFa 6 0 1,oLf 7 6,oMv 8 4,oCl 9 92 [.t 7,.t 8],oFa 10 0 2,oSf 10 9] [1,
 2,4]) (.seq (rT [oFa 11 4 1,oLf 12 11,oMv 13 4,oCl 14 92 [.t 12,.t 13],oFa 15 4 2,oSf 15 14] [2,4]) (.seq (rT [oUn 16 (.load (some 8)) 2,oMv 17 4,oUn 18 .mlen 17,⟨none,(.store (some 8)),[.t 2,.t 16],none⟩,oMv 3 18] [2,3]) .ret))))
def g69:AFn:=⟨1,[(2,some (some 8)),(3,none)],c69,false,[],[],none⟩
theorem tr69:trFn Tryz.prog false 69 Tryz.f69=some g69:=by kernel_rfl
def c70:ACode:=.seq (rT [oBx 1 0,oP 2 aZ []] [1,2]) (.seq (.seq (rT [oLf 3 1,oCl 4 43 [.t 3],oUn 5 .not 4] [1,2,5]) (kRt 5 [oP 6 (bZ []) [],oSf 2 6] [2])) (.seq (rT [oLf 7 1,oCl 8 93 [.t 7],oSf 2 8] [2]) .ret))
def g70:AFn:=⟨1,[(2,some (some 4))],c70,false,[],[],none⟩
theorem tr70:trFn Tryz.prog false 70 Tryz.f70=some g70:=by kernel_rfl
def c71:ACode:=.seq (rT [oBx 1 0,oP 2 .mv [cBo false]] [1]) (.seq (.seq (rT [oLf 4 1,oCl 5 94 [.t 4],oUn 6 .not 5] [1,6]) (kRt 6 [oP 2 .mv [cBo false]] [2])) (.seq (.seq (rT [oP 3 .mv [cIn 0]] [1,3]) (.block 0 (.loop [1,3] (.seq (.seq (rT [oMv 7 3,oFa 8 3 1,
 oLo 9 8,oUn 10 .len 9,oBi 11 .lss 7 10] [1,3,11]) (kEx 11 0)) (.seq (.block 1 (.seq (rT [oFa 14 3 1,oLo 15 14,oMv 16 3,oIa 17 15 16,oLf 18 17,oCl 19 71 [.t 18],oUn 20 .not 19] [1,3,20]) (kRt 20 [oP 2 .mv [cBo false]] [2]))) (rT [oMv 12 3,oBc 13 .add 12 1,
 oMv 3 13] [1,3])))))) (.seq (rT [oP 2 .mv [cBo true]] [2]) .ret)))
def g71:AFn:=⟨1,[(2,none)],c71,false,[],[],none⟩
theorem tr71:trFn Tryz.prog false 71 Tryz.f71=some g71:=by kernel_rfl
def c72:ACode:=.seq (rT [oBx 1 0,oP 2 .mv [cBo false]] [1]) (.seq (rT [oLf 3 1,oCl 4 95 [.t 3,cSt [44],cIn 2],oMv 5 4,oG 6 (.load (some 4)) [.t 1] 5 false,oG 7 .call [cFn 95,.t 6,cSt [59],cIn 2] 5 false,oP 8 .pick [.t 5,cBo true,.t 7],oMv 9 8,oG 10 (.load (some 4)) [.t 1] 9 false,
 oG 11 .call [cFn 95,.t 10,cSt [45,62],cIn 2] 9 false,oP 12 .pick [.t 9,cBo true,.t 11],oMv 2 12] [2]) .ret)
def g72:AFn:=⟨1,[(2,none)],c72,false,[],[],none⟩
theorem tr72:trFn Tryz.prog false 72 Tryz.f72=some g72:=by kernel_rfl
def c73r0:LO:=[oBx 2 0,oBx 3 1,oP 4 .mv [cBo false]]
def c73r1:LO:=[oFa 6 0 2,oLo 7 6,oFa 8 0 3,oLo 9 8,oBi 10 .neq 7 9,oMv 11 10,oG 12 (.faddr 1) [.t 2] 11 false,oG 13 (.load none) [.t 12] 11 false,oG 14 (.faddr 1) [.t 3] 11 false,oG 15 (.load none) [.t 14] 11 false,oG 16 (.bin .neq) [.t 13,.t 15] 11 false,
 oP 17 .pick [.t 11,cBo true,.t 16],oMv 18 17,oG 19 (.faddr 2) [.t 2] 18 false,oG 20 (.load none) [.t 19] 18 false,oG 21 (.faddr 2) [.t 3] 18 false,oG 22 (.load none) [.t 21] 18 false,oG 23 (.bin .neq) [.t 20,.t 22] 18 false,oP 24 .pick [.t 18,
 cBo true,.t 23],oMv 25 24,oG 26 (.faddr 3) [.t 2] 25 false,oG 27 (.load none) [.t 26] 25 false,oG 28 .len [.t 27] 25 false,oG 29 (.faddr 3) [.t 3] 25 false,oG 30 (.load none) [.t 29] 25 false,oG 31 .len [.t 30] 25 false,oG 32 (.bin .neq) [.t 28,
 .t 31] 25 false,oP 33 .pick [.t 25,cBo true,.t 32]]
def c73r2:LO:=[oP 4 .mv [cBo false]]
def c73k3:ACode:=kRt 33 c73r2 [4]
def c73r4:LO:=[oP 5 .mv [cIn 0]]
def c73r5:LO:=[oMv 34 5,oFa 35 3 2,oLo 36 35,oUn 37 .len 36,oBi 38 .lss 34 37]
def c73k6:ACode:=kEx 38 0
def c73r7:LO:=[oFa 41 3 2,oLo 42 41,oMv 43 5,oIa 44 42 43,oLf 45 44,oFa 46 3 3,oLo 47 46,oMv 48 5,oIa 49 47 48,oLf 50 49,oCl 51 73 [.t 45,.t 50],oUn 52 .not 51]
def c73r8:LO:=[oP 4 .mv [cBo false]]
def c73k9:ACode:=kRt 52 c73r8 [4]
def c73k10:ACode:=.block 1 (.seq (rT c73r7 [2,3,5,52]) c73k9)
def c73r11:LO:=[oMv 39 5,oBc 40 .add 39 1,oMv 5 40]
def c73b12:ACode:=.seq (.seq (rT c73r5 [2,3,5,38]) c73k6) (.seq c73k10 (rT c73r11 [2,3,5]))
def c73k13:ACode:=.block 0 (.loop [2,3,5] c73b12)
def c73r14:LO:=[oP 4 .mv [cBo true]]
def c73:ACode:=.seq (rT c73r0 [2,3]) (.seq (.seq (rT c73r1 [2,3,33]) c73k3) (.seq (.seq (rT c73r4 [2,3,5]) c73k13) (.seq (rT c73r14 [4]) .ret)))
def g73:AFn:=⟨2,[(4,none)],c73,false,[],[],none⟩
theorem tr73:trFn Tryz.prog false 73 Tryz.f73=some g73:=by kernel_rfl
def c74:ACode:=.seq (rT [oBx 2 0,oP 4 .mv [cIn 0]] [1,2]) (.seq (rT [oP 5 .mv [cIn 1]] [1,2,5]) (.seq (.seq (rT [oP 6 .mv [cIn 0]] [1,2,5,6]) (.block 0 (.loop [1,2,5,6] (.seq (.seq (rT [oMv 7 6,oFa 8 3 2,oLo 9 8,oUn 10 .len 9,oBi 11 .lss 7 10,oMv 12 11,oG 13 .mv [.t 5] 12 true,
 oG 14 .mv [.t 1] 12 true,oG 15 (.bin .lss) [.t 13,.t 14] 12 true,oP 16 .pick [.t 12,.t 15,cBo false]] [1,2,5,6,16]) (kEx 16 0)) (.seq (.block 1 (rT [oMv 19 5,oFa 20 3 2,oLo 21 20,oMv 22 6,oIa 23 21 22,oLf 24 23,oMv 25 1,oMv 26 5,oBi 27 .sub 25 26,
 oCl 28 74 [.t 24,.t 27],oBi 29 .add 19 28,oMv 5 29] [1,2,5,6])) (rT [oMv 17 6,oBc 18 .add 17 1,oMv 6 18] [1,2,5,6])))))) (.seq (rT [oMv 30 5,oMv 4 30] [4]) .ret)))
def g74:AFn:=⟨2,[(4,none)],c74,false,[],[],none⟩
theorem tr74:trFn Tryz.prog false 74 Tryz.f74=some g74:=by kernel_rfl
def c75r0:LO:=[oBx 3 1,oP 4 (.nilsl none) []]
def c75r1:LO:=[oFa 6 0 3,oLo 7 6,oBc 8 .eql 7 0,oMv 9 8,oG 10 .mv [.t 0] 9 true,oG 11 (.faddr 1) [.t 3] 9 true,oG 12 (.load none) [.t 11] 9 true,oG 13 .call [cFn 96,.t 10,.t 12] 9 true,oG 14 (.bin .lss) [.t 13,cIn 0] 9 true,oP 15 .pick [.t 9,.t 14,cBo false]]
def c75r2:LO:=[oMv 16 0,oFa 17 1 3,oLo 18 17,oUn 19 (.bslice none) 18,oP 20 (.append none) [.t 16,.t 19],oMv 0 20]
def c75k3:ACode:=.cond (.t 15) (rT c75r2 [0,3]) .skip
def c75r4:LO:=[oP 5 .mv [cIn 0]]
def c75r5:LO:=[oMv 21 5,oFa 22 3 3,oLo 23 22,oUn 24 .len 23,oBi 25 .lss 21 24]
def c75k6:ACode:=kEx 25 0
def c75r7:LO:=[oMv 28 0,oFa 29 3 3,oLo 30 29,oMv 31 5,oIa 32 30 31,oLf 33 32,oCl 34 75 [.t 28,.t 33],oMv 0 34]
def c75k8:ACode:=.block 1 (rT c75r7 [0,3,5])
def c75r9:LO:=[oMv 26 5,oBc 27 .add 26 1,oMv 5 27]
def c75b10:ACode:=.seq (.seq (rT c75r5 [0,3,5,25]) c75k6) (.seq c75k8 (rT c75r9 [0,3,5]))
def c75k11:ACode:=.block 0 (.loop [0,3,5] c75b10)
def c75r12:LO:=[oMv 35 0,oMv 4 35]
def c75:ACode:=.seq (rT c75r0 [0,3]) (.seq (.seq (rT c75r1 [0,3,15]) c75k3) (.seq (.seq (rT c75r4 [0,3,5]) c75k11) (.seq (rT c75r12 [4]) .ret)))
def g75:AFn:=⟨2,[(4,none)],c75,true,[],[],none⟩
theorem tr75:trFn Tryz.prog true 75 Tryz.f75=some g75:=by kernel_rfl
def c76:ACode:=.seq (rT [oBx 3 1,oP 4 aZ []] [0,3,4]) (.seq (rT [oFa 7 0 3,oLo 8 7,oFa 9 1 3,oLo 10 9,oFa 11 2 3,oLo 12 11,oP 13 (bZ [0,1,2]) [.t 8,.t 10,.t 12],oP 5 aZ [],oSf 5 13] [0,3,4,5]) (.seq (.seq (rT [oFa 14 0 3,oLo 15 14,oBc 16 .eql 15 0] [0,3,4,
 5,16]) (.cond (.t 16) (rT [oMv 17 0,oFa 18 1 3,oLo 19 18,oCl 20 96 [.t 17,.t 19],oFa 21 1 5,oSo 21 20] [0,3,4,5]) .skip)) (.seq (.seq (rT [oP 6 .mv [cIn 0]] [0,3,4,5,6]) (.block 0 (.loop [0,3,4,5,6] (.seq (.seq (rT [oMv 22 6,oFa 23 3 3,oLo 24 23,
 oUn 25 .len 24,oBi 26 .lss 22 25] [0,3,4,5,6,26]) (kEx 26 0)) (.seq (.block 1 (.seq (.settle [0]) (rT [oFa 29 3 5,oLo 30 29,oMv 31 0,oFa 32 3 3,oLo 33 32,oMv 34 6,oIa 35 33 34,oLf 36 35,oP 37 .callp [cFn 76,.t 31,.t 36],oUn 38 (.bslicep (some 4)) 37,
 oP 39 (.append (some 4)) [.t 30,.t 38],oFa 40 3 5,oSo 40 39] [0,3,4,5,6]))) (rT [oMv 27 6,oBc 28 .add 27 1,oMv 6 28] [0,3,4,5,6])))))) (.seq (rT [oLf 41 5,oSf 4 41] [4]) .ret))))
def g76:AFn:=⟨2,[(4,some (some 4))],c76,false,[],[],none⟩
theorem tr76:trFn Tryz.prog false 76 Tryz.f76=some g76:=by kernel_rfl
def c77:ACode:=.seq (rT [oBx 4 1,oP 6 .mv [cIn 0],oP 7 .mv [cBo false]] [0,2,4]) (.seq (rT [oMv 12 0,oUn 13 .len 12,oMv 8 13] [0,2,4,8]) (.seq (rT [oMv 14 8,oP 9 .mv [cIn 0],oMv 10 14] [0,2,4,8,9,10]) (.seq (.block 0 (.loop [0,2,4,8,9,10] (.seq (.seq (rT [oMv 15 9,
 oMv 16 10,oBi 17 .lss 15 16] [0,2,4,8,9,10,17]) (kEx 17 0)) (.block 1 (.seq (rT [oMv 18 9,oMv 19 10,oBi 20 .add 18 19,oUn 21 (.conv .u64) 20,oP 22 (.bin .shr) [.t 21,.c (.pv none (.int .u64 1))],oUn 23 (.conv .i64) 22,oMv 11 23] [0,2,4,8,9,10,
 11]) (.seq (rT [oMv 24 2,oMv 25 0,oMv 26 11,oIa 27 25 26,oLf 28 27,oLf 29 4,oP 30 .call [.t 24,.t 28,.t 29],oBc 31 .lss 30 0] [0,2,4,8,9,10,11,31]) (.cond (.t 31) (rT [oMv 32 11,oBc 33 .add 32 1,oMv 9 33] [0,2,4,8,9,10]) (rT [oMv 34 11,oMv 10 34] [0,
 2,4,8,9,10])))))))) (.seq (.region false [oMv 35 9,oMv 36 9,oMv 37 8,oBi 38 .lss 36 37,oMv 39 38,oG 40 .mv [.t 2] 39 true,oG 41 .mv [.t 0] 39 true,oG 42 .mv [.t 9] 39 true,oG 43 (.iaddr (some 4)) [.t 41,.t 42] 39 true,oG 44 (.load (some 4)) [.t 43] 39 true,
 oG 45 (.load (some 4)) [.t 4] 39 true,oG 46 .call [.t 40,.t 44,.t 45] 39 true,oG 47 (.bin .eql) [.t 46,cIn 0] 39 true,oP 48 .pick [.t 39,.t 47,cBo false],oMv 6 35,oMv 7 48] [6,7]) .ret))))
def g77:AFn:=⟨3,[(6,none),(7,none)],c77,false,[],[],none⟩
theorem tr77:trFn Tryz.prog false 77 Tryz.f77=some g77:=by kernel_rfl
def c78:ACode:=.seq (rT [oBx 2 0,oBx 3 1,oP 4 .mv [cIn 0]] [2,3]) (.seq (rT [oLf 5 2,oLf 6 3,oCl 7 40 [.t 5,.t 6],oMv 4 7] [4]) .ret)
def g78:AFn:=⟨2,[(4,none)],c78,false,[],[],none⟩
theorem tr78:trFn Tryz.prog false 78 Tryz.f78=some g78:=by kernel_rfl
def c83:ACode:=.seq (rT [oBx 1 0,oP 2 aZ []] [1,2]) (.seq (.seq (rT [oLf 3 1,oCl 4 64 [.t 3],oUn 5 .not 4] [1,2,5]) (kRt 5 [oP 6 (bZ []) [],oSf 2 6] [2])) (.seq (rT [oLf 7 1,oCl 8 99 [.t 7,cFn 100],oSf 2 8] [2]) .ret))
def g83:AFn:=⟨1,[(2,some (some 4))],c83,false,[],[],none⟩
theorem tr83:trFn Tryz.prog false 83 Tryz.f83=some g83:=by kernel_rfl
def c84:ACode:=.seq (rT [oP 4 .mv [cIn 0]] [0,1]) (.seq (.seq (rT [oMv 6 0,oUn 7 .len 6,oP 8 .mv [cIn 0]] [0,1,7,8]) (.block 0 (.loop [0,1,7,8] (.seq (rT [oBi 9 .lss 8 7] [0,1,7,8,9]) (.seq (kEx 9 0) (.seq (.block 1 (.seq (rT [oMv 10 8,oMv 5 10] [0,1,5,7,8]) (.seq (rT [oMv 11 1,
 oMv 12 0,oMv 13 5,oP 14 (.iaddr (some 9)) [.t 12,.t 13],oUn 15 (.load (some 9)) 14,oP 16 .call [.t 11,.t 15]] [0,1,5,7,8,16]) (kRt 16 [oMv 17 5,oMv 4 17] [4])))) (rT [oBc 18 .add 8 1,oMv 8 18] [0,1,7,8]))))))) (.seq (rT [oP 4 .mv [.c (.pv none (.int .i64 (-1)))]] [4]) .ret))
def g84:AFn:=⟨2,[(4,none)],c84,true,[],[],none⟩
theorem tr84:trFn Tryz.prog true 84 Tryz.f84=some g84:=by kernel_rfl
def c85:ACode:=.seq (rT [oUn 2 (.box (some 9)) 0,oP 3 .mv [cBo false]] [1,2]) (.seq (rT [oFa 4 0 2,oLo 5 4,oLo 6 1,oBi 7 .eql 5 6,oMv 3 7] [3]) .ret)
def g85:AFn:=⟨2,[(3,none)],c85,true,[],[],none⟩
theorem tr85:trFn Tryz.prog true 85 Tryz.f85=some g85:=by kernel_rfl
def c86:ACode:=.seq (rT [oP 2 .mv [cBo false]] [0]) (.seq (rT [oMv 3 0,oMv 4 0,oBi 5 .neq 3 4,oMv 2 5] [2]) .ret)
def g86:AFn:=⟨1,[(2,none)],c86,false,[],[],none⟩
theorem tr86:trFn Tryz.prog false 86 Tryz.f86=some g86:=by kernel_rfl
def c87:ACode:=.seq (rT [oP 2 .mv [cBo false]] [0]) (.seq (rT [oMv 3 0,oMv 4 0,oBi 5 .neq 3 4,oMv 2 5] [2]) .ret)
def g87:AFn:=⟨1,[(2,none)],c87,false,[],[],none⟩
theorem tr87:trFn Tryz.prog false 87 Tryz.f87=some g87:=by kernel_rfl
def c88:ACode:=.seq (rT [oBx 1 0,oP 2 .mv [cIn 0]] [1]) (.seq (rT [oP 3 (.alloc none (.pv none (.int .i64 0))) [],⟨none,(.store none),[.t 3,cIn 2001],none⟩] [1,3]) (.seq (rT [oP 4 (.alloc none (.pv none .nilfunc)) []] [1,3,4]) (.seq (rT [oP 5 (.mkfunc (.func 101) 0) [.t 3,
 .t 4],oSo 4 5] [1,3,4]) (.seq (rT [oLo 6 4,oLf 7 1,oP 8 .call [.t 6,.t 7]] [3]) (.seq (rT [oLo 9 3,oP 10 (.bin .sub) [cIn 2001,.t 9],oMv 2 10] [2]) .ret)))))
def g88:AFn:=⟨1,[(2,none)],c88,false,[],[],none⟩
theorem tr88:trFn Tryz.prog false 88 Tryz.f88=some g88:=by kernel_rfl
def c89r0:LO:=[oBx 1 0,oP 2 .mv [cBo false]]
def c89r1:LO:=[oP 3 .mv [cBo false]]
def c89r2:LO:=[oFa 5 0 1,oLo 6 5]
def c89r3:LO:=[oBc 8 .eql 6 0,oMv 7 8]
def c89r4:LO:=[oFa 9 1 1,oLo 10 9,oBc 11 .geq 10 0,oMv 12 11,oG 13 (.faddr 1) [.t 1] 12 true,oG 14 (.load none) [.t 13] 12 true,oG 15 (.bin .leq) [.t 14,cIn 1099511627776] 12 true,oP 16 .pick [.t 12,.t 15,cBo false],oMv 17 16,oG 18 (.faddr 2) [.t 1] 17 true,
 oG 19 (.load none) [.t 18] 17 true,oG 20 (.bin .eql) [.t 19,cSt []] 17 true,oP 21 .pick [.t 17,.t 20,cBo false],oMv 22 21,oG 23 (.faddr 3) [.t 1] 22 true,oG 24 (.load none) [.t 23] 22 true,oG 25 .len [.t 24] 22 true,oG 26 (.bin .eql) [.t 25,
 cIn 0] 22 true,oP 27 .pick [.t 22,.t 26,cBo false],oMv 3 27]
def c89r5:LO:=[oBc 29 .eql 6 1,oMv 28 29]
def c89r6:LO:=[oFa 30 2 1,oLo 31 30,oP 32 (.bin .eql) [.t 31,cSt []],oMv 33 32,oG 34 (.faddr 3) [.t 1] 33 true,oG 35 (.load none) [.t 34] 33 true,oG 36 .len [.t 35] 33 true,oG 37 (.bin .eql) [.t 36,cIn 0] 33 true,oP 38 .pick [.t 33,.t 37,cBo false],oMv 3 38]
def c89r7:LO:=[oBc 40 .eql 6 2,oMv 39 40]
def c89r8:LO:=[oFa 41 1 1,oLo 42 41,oBc 43 .eql 42 0,oMv 44 43,oG 45 (.faddr 2) [.t 1] 44 true,oG 46 (.load none) [.t 45] 44 true,oG 47 .slen [.t 46] 44 true,oG 48 (.bin .leq) [.t 47,cIn 100] 44 true,oP 49 .pick [.t 44,.t 48,cBo false],oMv 50 49,oG 51 (.faddr 3) [.t 1] 50 true,
 oG 52 (.load none) [.t 51] 50 true,oG 53 .len [.t 52] 50 true,oG 54 (.bin .eql) [.t 53,cIn 0] 50 true,oP 55 .pick [.t 50,.t 54,cBo false],oMv 3 55]
def c89r9:LO:=[oBc 57 .eql 6 3,oMv 56 57]
def c89r10:LO:=[oFa 58 1 1,oLo 59 58,oBc 60 .eql 59 0,oMv 61 60,oG 62 (.faddr 2) [.t 1] 61 true,oG 63 (.load none) [.t 62] 61 true,oG 64 .slen [.t 63] 61 true,oG 65 (.bin .leq) [.t 64,cIn 100] 61 true,oP 66 .pick [.t 61,.t 65,cBo false],oMv 67 66,oG 68 (.faddr 3) [.t 1] 67 true,
 oG 69 (.load none) [.t 68] 67 true,oG 70 .len [.t 69] 67 true,oG 71 (.bin .gtr) [.t 70,cIn 0] 67 true,oP 72 .pick [.t 67,.t 71,cBo false],oMv 73 72,oG 74 (.faddr 3) [.t 1] 73 true,oG 75 (.load none) [.t 74] 73 true,oG 76 .len [.t 75] 73 true,
 oG 77 (.bin .leq) [.t 76,cIn 8] 73 true,oP 78 .pick [.t 73,.t 77,cBo false],oMv 3 78]
def c89k11:ACode:=.cond (.t 56) (rT c89r10 [1,3]) .skip
def c89k12:ACode:=.cond (.t 39) (rT c89r8 [1,3]) (.seq (rT c89r9 [1,3,56]) c89k11)
def c89k13:ACode:=.cond (.t 28) (rT c89r6 [1,3]) (.seq (rT c89r7 [1,3,6,39]) c89k12)
def c89k14:ACode:=.cond (.t 7) (rT c89r4 [1,3]) (.seq (rT c89r5 [1,3,6,28]) c89k13)
def c89k15:ACode:=.block 0 (.seq (rT c89r3 [1,3,6,7]) c89k14)
def c89r16:LO:=[oP 4 .mv [cIn 0]]
def c89r17:LO:=[oMv 79 4,oFa 80 3 1,oLo 81 80,oUn 82 .len 81,oBi 83 .lss 79 82,oMv 84 83,oG 85 .mv [.t 3] 84 true,oP 86 .pick [.t 84,.t 85,cBo false]]
def c89k18:ACode:=kEx 86 1
def c89r19:LO:=[oFa 89 3 1,oLo 90 89,oMv 91 4,oIa 92 90 91,oLf 93 92,oCl 94 89 [.t 93],oMv 3 94]
def c89k20:ACode:=.block 2 (rT c89r19 [1,3,4])
def c89r21:LO:=[oMv 87 4,oBc 88 .add 87 1,oMv 4 88]
def c89b22:ACode:=.seq (.seq (rT c89r17 [1,3,4,86]) c89k18) (.seq c89k20 (rT c89r21 [1,3,4]))
def c89k23:ACode:=.block 1 (.loop [1,3,4] c89b22)
def c89r24:LO:=[oMv 95 3,oMv 2 95]
def c89:ACode:=.seq (rT c89r0 [1]) (.seq (rT c89r1 [1,3]) (.seq (.seq (rT c89r2 [1,3,6]) c89k15) (.seq (.seq (rT c89r16 [1,3,4]) c89k23) (.seq (rT c89r24 [2]) .ret))))
def g89:AFn:=⟨1,[(2,none)],c89,false,[],[],none⟩
theorem tr89:trFn Tryz.prog false 89 Tryz.f89=some g89:=by kernel_rfl
def c90p3:ACode:=(.seq (rT [oLf 5 1,oCl 6 103 [.t 5],oSf 2 6,⟨none,(.store none),[.t 3,cBo true],none⟩] [2,3]) (.seq .ret .skip))
def c90:ACode:=.seq (rT [oBx 1 0,oP 2 aZ [],oP 3 (.alloc none (.pv none (.bool false))) []] [1,2,3]) (rT [oP 4 (.mkfunc (.func 102) 0) [.t 2,.t 3]] [1,2,3,4])
def g90:AFn:=⟨1,[(2,some (some 4)),(3,some none)],c90,false,[(.dfr 4,c90p3)],[],none⟩
theorem tr90:trFn Tryz.prog false 90 Tryz.f90=some g90:=by kernel_rfl
def c91r0:LO:=[oBx 2 0,oBx 3 1,oP 4 .mv [cBo false]]
def c91r1:LO:=[oFa 7 0 2,oLo 8 7,oFa 9 0 3,oLo 10 9,oBi 11 .neq 8 10,oMv 12 11,oG 13 (.faddr 1) [.t 2] 12 false,oG 14 (.load none) [.t 13] 12 false,oG 15 (.faddr 1) [.t 3] 12 false,oG 16 (.load none) [.t 15] 12 false,oG 17 (.bin .neq) [.t 14,.t 16] 12 false,
 oP 18 .pick [.t 12,cBo true,.t 17],oMv 19 18,oG 20 (.faddr 2) [.t 2] 19 false,oG 21 (.load none) [.t 20] 19 false,oG 22 (.faddr 2) [.t 3] 19 false,oG 23 (.load none) [.t 22] 19 false,oG 24 (.bin .neq) [.t 21,.t 23] 19 false,oP 25 .pick [.t 19,
 cBo true,.t 24],oMv 26 25,oG 27 (.faddr 3) [.t 2] 26 false,oG 28 (.load none) [.t 27] 26 false,oG 29 .len [.t 28] 26 false,oG 30 (.faddr 3) [.t 3] 26 false,oG 31 (.load none) [.t 30] 26 false,oG 32 .len [.t 31] 26 false,oG 33 (.bin .neq) [.t 29,
 .t 32] 26 false,oP 34 .pick [.t 26,cBo true,.t 33]]
def c91r2:LO:=[oP 4 .mv [cBo false]]
def c91k3:ACode:=kRt 34 c91r2 [4]
def c91r4:LO:=[oFa 35 3 2,oLo 36 35,oUn 37 .len 36,oP 38 .mv [cIn 0]]
def c91r5:LO:=[oBi 39 .lss 38 37]
def c91k6:ACode:=kEx 39 0
def c91r7:LO:=[oMv 40 38,oIa 41 36 38,oLf 42 41,oP 6 aZ [],oMv 5 40,oSf 6 42]
def c91r8:LO:=[oLf 43 6,oFa 44 3 3,oLo 45 44,oMv 46 5,oIa 47 45 46,oLf 48 47,oCl 49 91 [.t 43,.t 48],oUn 50 .not 49]
def c91r9:LO:=[oP 4 .mv [cBo false]]
def c91k10:ACode:=kRt 50 c91r9 [4]
def c91k11:ACode:=.block 1 (.seq (rT c91r7 [3,5,6,36,37,38]) (.seq (rT c91r8 [3,36,37,38,50]) c91k10))
def c91r12:LO:=[oBc 51 .add 38 1,oMv 38 51]
def c91b13:ACode:=.seq (rT c91r5 [3,36,37,38,39]) (.seq c91k6 (.seq c91k11 (rT c91r12 [3,36,37,38])))
def c91k14:ACode:=.block 0 (.loop [3,36,37,38] c91b13)
def c91r15:LO:=[oP 4 .mv [cBo true]]
def c91:ACode:=.seq (rT c91r0 [2,3]) (.seq (.seq (rT c91r1 [2,3,34]) c91k3) (.seq (.seq (rT c91r4 [3,36,37,38]) c91k14) (.seq (rT c91r15 [4]) .ret)))
def g91:AFn:=⟨2,[(4,none)],c91,false,[],[],none⟩
theorem tr91:trFn Tryz.prog false 91 Tryz.f91=some g91:=by kernel_rfl
def c92:ACode:=.seq (rT [oBx 2 0,oP 4 aZ []] [1,2,4]) (.seq (rT [oFa 10 0 2,oLo 11 10,oFa 12 1 2,oLo 13 12,oFa 14 2 2,oLo 15 14,oP 16 (bZ [0,1,2]) [.t 11,.t 13,.t 15],oP 5 aZ [],oSf 5 16] [1,2,4,5]) (.seq (.seq (rT [oFa 17 0 2,oLo 18 17,oBc 19 .eql 18 0] [1,
 2,4,5,19]) (.cond (.t 19) (.seq (rT [oMv 21 1,oFa 22 1 2,oLo 23 22,oP 24 (.lookup false none (.pv none (.int .i64 0)) true) [.t 21,.t 23],oMv 20 24,oEx 25 0 20,oEx 26 1 20,oMv 6 25,oMv 7 26] [1,2,4,5,6,7]) (.seq (.seq (rT [oMv 27 7,oUn 28 .not 27] [1,
 2,4,5,6,28]) (.cond (.t 28) (.seq (rT [oMv 29 1,oUn 30 .mlen 29,oMv 6 30] [1,2,4,5,6]) (rT [oMv 31 1,oFa 32 1 2,oLo 33 32,oMv 34 6,⟨none,(.mapset false none),[.t 31,.t 33,.t 34],none⟩] [1,2,4,5,6])) .skip)) (rT [oMv 35 6,oFa 36 1 5,oSo 36 35] [1,
 2,4,5]))) .skip)) (.seq (.seq (rT [oFa 37 3 2,oLo 38 37,oUn 39 .len 38,oP 40 .mv [cIn 0]] [1,4,5,38,39,40]) (.block 0 (.loop [1,4,5,38,39,40] (.seq (rT [oBi 41 .lss 40 39] [1,4,5,38,39,40,41]) (.seq (kEx 41 0) (.seq (.block 1 (.seq (rT [oIa 42 38 40,
 oLf 43 42,oP 9 aZ [],oSf 9 43] [1,4,5,9,38,39,40]) (.region false [oFa 44 3 5,oLo 45 44,oLf 46 9,oMv 47 1,oP 48 (.calln 1) [.t 44,cFn 92,.t 46,.t 47],oP 49 (.bslicen (some 4) 1) [.t 44,.t 48],oP 50 (.append (some 4)) [.t 45,.t 49],oFa 51 3 5,
 oSo 51 50] [1,4,5,38,39,40]))) (rT [oBc 52 .add 40 1,oMv 40 52] [1,4,5,38,39,40]))))))) (.seq (rT [oLf 53 5,oSf 4 53] [4]) .ret))))
def g92:AFn:=⟨2,[(4,some (some 4))],c92,true,[],[],none⟩
theorem tr92:trFn Tryz.prog true 92 Tryz.f92=some g92:=by kernel_rfl
def c93:ACode:=.seq (rT [oBx 1 0,oP 2 aZ []] [1,2]) (.seq (rT [oFa 5 0 1,oLo 6 5,oFa 7 1 1,oLo 8 7,oFa 9 2 1,oLo 10 9,oP 11 (bZ [0,1,2]) [.t 6,.t 8,.t 10],oP 3 aZ [],oSf 3 11] [1,2,3]) (.seq (.seq (rT [oP 4 .mv [cIn 0]] [1,2,3,4]) (.block 0 (.loop [1,2,3,4] (.seq (.seq (rT [oMv 12 4,
 oFa 13 3 1,oLo 14 13,oUn 15 .len 14,oBi 16 .lss 12 15] [1,2,3,4,16]) (kEx 16 0)) (.seq (.block 1 (.seq (.settle []) (rT [oFa 19 3 3,oLo 20 19,oFa 21 3 1,oLo 22 21,oMv 23 4,oIa 24 22 23,oLf 25 24,oP 26 .callp [cFn 93,.t 25],oUn 27 (.bslicep (some 4)) 26,
 oP 28 (.append (some 4)) [.t 20,.t 27],oFa 29 3 3,oSo 29 28] [1,2,3,4]))) (rT [oMv 17 4,oBc 18 .add 17 1,oMv 4 18] [1,2,3,4])))))) (.seq (rT [oLf 30 3,oSf 2 30] [2]) .ret)))
def g93:AFn:=⟨1,[(2,some (some 4))],c93,false,[],[],none⟩
theorem tr93:trFn Tryz.prog false 93 Tryz.f93=some g93:=by kernel_rfl
def c94:ACode:=.seq (rT [oBx 1 0,oP 2 .mv [cBo false]] [1]) (.seq (.seq (rT [oFa 3 0 1,oLo 4 3] [1,4]) (.block 0 (.seq (rT [oBc 6 .eql 4 0,oMv 5 6] [1,4,5]) (.cond (.t 5) (.seq (rT [oFa 7 1 1,oLo 8 7,oBc 9 .geq 8 0,oMv 10 9,oG 11 (.faddr 1) [.t 1] 10 true,
 oG 12 (.load none) [.t 11] 10 true,oG 13 (.bin .leq) [.t 12,cIn 1099511627776] 10 true,oP 14 .pick [.t 10,.t 13,cBo false],oMv 15 14,oG 16 (.faddr 2) [.t 1] 15 true,oG 17 (.load none) [.t 16] 15 true,oG 18 (.bin .eql) [.t 17,cSt []] 15 true,
 oP 19 .pick [.t 15,.t 18,cBo false],oMv 20 19,oG 21 (.faddr 3) [.t 1] 20 true,oG 22 (.load none) [.t 21] 20 true,oG 23 .len [.t 22] 20 true,oG 24 (.bin .eql) [.t 23,cIn 0] 20 true,oP 25 .pick [.t 20,.t 24,cBo false],oMv 2 25] [2]) .ret) (.seq (rT [oBc 27 .eql 4 1,
 oMv 26 27] [1,4,26]) (.cond (.t 26) (.seq (rT [oFa 28 2 1,oLo 29 28,oP 30 (.bin .eql) [.t 29,cSt []],oMv 31 30,oG 32 (.faddr 3) [.t 1] 31 true,oG 33 (.load none) [.t 32] 31 true,oG 34 .len [.t 33] 31 true,oG 35 (.bin .eql) [.t 34,cIn 0] 31 true,
 oP 36 .pick [.t 31,.t 35,cBo false],oMv 2 36] [2]) .ret) (.seq (rT [oBc 38 .eql 4 2,oMv 37 38] [1,4,37]) (.cond (.t 37) (.seq (rT [oFa 39 1 1,oLo 40 39,oBc 41 .eql 40 0,oMv 42 41,oG 43 (.faddr 2) [.t 1] 42 true,oG 44 (.load none) [.t 43] 42 true,
 oG 45 .slen [.t 44] 42 true,oG 46 (.bin .leq) [.t 45,cIn 100] 42 true,oP 47 .pick [.t 42,.t 46,cBo false],oMv 48 47,oG 49 (.faddr 3) [.t 1] 48 true,oG 50 (.load none) [.t 49] 48 true,oG 51 .len [.t 50] 48 true,oG 52 (.bin .eql) [.t 51,cIn 0] 48 true,
 oP 53 .pick [.t 48,.t 52,cBo false],oMv 2 53] [2]) .ret) (.seq (rT [oBc 55 .eql 4 3,oMv 54 55] [1,54]) (kRt 54 [oFa 56 1 1,oLo 57 56,oBc 58 .eql 57 0,oMv 59 58,oG 60 (.faddr 2) [.t 1] 59 true,oG 61 (.load none) [.t 60] 59 true,oG 62 .slen [.t 61] 59 true,
 oG 63 (.bin .leq) [.t 62,cIn 100] 59 true,oP 64 .pick [.t 59,.t 63,cBo false],oMv 65 64,oG 66 (.faddr 3) [.t 1] 65 true,oG 67 (.load none) [.t 66] 65 true,oG 68 .len [.t 67] 65 true,oG 69 (.bin .geq) [.t 68,cIn 1] 65 true,oP 70 .pick [.t 65,
 .t 69,cBo false],oMv 71 70,oG 72 (.faddr 3) [.t 1] 71 true,oG 73 (.load none) [.t 72] 71 true,oG 74 .len [.t 73] 71 true,oG 75 (.bin .leq) [.t 74,cIn 8] 71 true,oP 76 .pick [.t 71,.t 75,cBo false],oMv 2 76] [2])))))))))) (.seq (rT [oP 2 .mv [cBo false]] [2]) .ret))
def g94:AFn:=⟨1,[(2,none)],c94,false,[],[],none⟩
theorem tr94:trFn Tryz.prog false 94 Tryz.f94=some g94:=by kernel_rfl
def c95:ACode:=.seq (rT [oBx 3 0,oP 6 .mv [cBo false]] [1,2,3]) (.seq (rT [oFa 7 0 3,oLo 8 7,oBc 9 .eql 8 2,oMv 10 9,oG 11 (.faddr 0) [.t 3] 10 false,oG 12 (.load none) [.t 11] 10 false,oG 13 (.bin .eql) [.t 12,cIn 3] 10 false,oP 14 .pick [.t 10,cBo true,.t 13],
 oMv 15 14,oG 16 (.faddr 2) [.t 3] 15 true,oG 17 (.load none) [.t 16] 15 true,oG 18 .mv [.t 1] 15 true,oG 19 (.bin .eql) [.t 17,.t 18] 15 true,oP 20 .pick [.t 15,.t 19,cBo false],oMv 21 20,oG 22 (.faddr 3) [.t 3] 21 true,oG 23 (.load none) [.t 22] 21 true,
 oG 24 .len [.t 23] 21 true,oG 25 .mv [.t 2] 21 true,oG 26 (.bin .eql) [.t 24,.t 25] 21 true,oP 27 .pick [.t 21,.t 26,cBo false],oMv 6 27] [6]) .ret)
def g95:AFn:=⟨3,[(6,none)],c95,false,[],[],none⟩
theorem tr95:trFn Tryz.prog false 95 Tryz.f95=some g95:=by kernel_rfl
def c96:ACode:=.seq (rT [oP 4 .mv [cIn 0]] [0,1]) (.seq (.seq (rT [oP 5 .mv [cIn 0]] [0,1,5]) (.block 0 (.loop [0,1,5] (.seq (.seq (rT [oMv 6 5,oMv 7 0,oUn 8 .len 7,oBi 9 .lss 6 8] [0,1,5,9]) (kEx 9 0)) (.seq (.block 1 (.seq (rT [oMv 12 0,oMv 13 5,oP 14 (.iaddr none) [.t 12,
 .t 13],oLo 15 14,oMv 16 1,oBi 17 .eql 15 16] [0,1,5,17]) (kRt 17 [oMv 18 5,oMv 4 18] [4]))) (rT [oMv 10 5,oBc 11 .add 10 1,oMv 5 11] [0,1,5])))))) (.seq (rT [oP 4 .mv [.c (.pv none (.int .i64 (-1)))]] [4]) .ret))
def g96:AFn:=⟨2,[(4,none)],c96,false,[],[],none⟩
theorem tr96:trFn Tryz.prog false 96 Tryz.f96=some g96:=by kernel_rfl
def c99:ACode:=.seq (rT [oBx 2 0,oP 4 aZ []] [1,2,4]) (.seq (.seq (rT [oFa 8 0 2,oLo 9 8,oBc 10 .eql 9 0] [1,2,4,10]) (kRt 10 [oMv 11 1,oLf 12 2,oP 13 .call [.t 11,.t 12],oSf 4 13] [4])) (.seq (rT [oFa 14 0 2,oLo 15 14,oFa 16 1 2,oLo 17 16,oFa 18 2 2,oLo 19 18,
 oP 20 (bZ [0,1,2]) [.t 15,.t 17,.t 19],oP 5 aZ [],oSf 5 20] [1,2,4,5]) (.seq (.seq (rT [oFa 21 3 2,oLo 22 21,oUn 23 .len 22,oP 24 .mv [cIn 0]] [1,4,5,22,23,24]) (.block 0 (.loop [1,4,5,22,23,24] (.seq (rT [oBi 25 .lss 24 23] [1,4,5,22,23,24,
 25]) (.seq (kEx 25 0) (.seq (.block 1 (.seq (rT [oIa 26 22 24,oLf 27 26,oP 7 aZ [],oSf 7 27] [1,4,5,7,22,23,24]) (.region false [oFa 28 3 5,oLo 29 28,oLf 30 7,oMv 31 1,oP 32 (.calln 1) [.t 28,cFn 99,.t 30,.t 31],oP 33 (.bslicen (some 4) 1) [.t 28,
 .t 32],oP 34 (.append (some 4)) [.t 29,.t 33],oFa 35 3 5,oSo 35 34] [1,4,5,22,23,24]))) (rT [oBc 36 .add 24 1,oMv 24 36] [1,4,5,22,23,24]))))))) (.seq (rT [oLf 37 5,oSf 4 37] [4]) .ret))))
def g99:AFn:=⟨2,[(4,some (some 4))],c99,true,[],[],none⟩
theorem tr99:trFn Tryz.prog true 99 Tryz.f99=some g99:=by kernel_rfl
def c100:ACode:=.seq (rT [oBx 1 0,oP 2 aZ []] [1,2]) (.seq (rT [oLf 3 1,oSf 2 3] [2]) .ret)
def g100:AFn:=⟨1,[(2,some (some 4))],c100,false,[],[],none⟩
theorem tr100:trFn Tryz.prog false 100 Tryz.f100=some g100:=by kernel_rfl
def c101:ACode:=.seq (rT [oBx 3 0] [1,2,3]) (.seq (rT [oLo 5 1,oBc 6 .sub 5 1,oSo 1 6] [1,2,3]) (.seq (rT [oP 4 .mv [cIn 0]] [1,2,3,4]) (.block 0 (.loop [1,2,3,4] (.seq (.seq (rT [oMv 7 4,oFa 8 3 3,oLo 9 8,oUn 10 .len 9,oBi 11 .lss 7 10,oMv 12 11,oG 13 (.load none) [.t 1] 12 true,
 oG 14 (.bin .gtr) [.t 13,cIn 0] 12 true,oP 15 .pick [.t 12,.t 14,cBo false]] [1,2,3,4,15]) (kEx 15 0)) (.seq (.block 1 (rT [oLo 18 2,oFa 19 3 3,oLo 20 19,oMv 21 4,oIa 22 20 21,oLf 23 22,oP 24 .call [.t 18,.t 23]] [1,2,3,4])) (rT [oMv 16 4,oBc 17 .add 16 1,
 oMv 4 17] [1,2,3,4])))))))
def g101:AFn:=⟨3,[],c101,true,[],[],none⟩
theorem tr101:trFn Tryz.prog true 101 Tryz.f101=some g101:=by kernel_rfl
def c102:ACode:=.seq (rT [oMv 2 5] [0,1,2]) (.seq (rT [oMv 6 2,oUn 7 (.isnil true) 6] [0,1,2,7]) (.seq (.cond (.t 7) (.seq (.seq (rT [oMv 9 2,oP 10 (.assert 116 (some 0) (.pv (some 0) (.agg [])) true) [.t 9],oMv 8 10,oEx 11 0 8,oEx 12 1 8,oP 3 (.alloc (some 0) (.pv (some 0) (.agg []))) [],
 ⟨none,(.store (some 0)),[.t 3,.t 11],none⟩,oMv 4 12] [0,1,2,4]) (.seq (rT [oMv 13 4,oUn 14 .not 13] [0,1,2,14]) (.cond (.t 14) (rT [oMv 15 2,⟨none,.panic,[.t 15],none⟩] [0,1]) .skip))) (rT [oP 16 (bZ []) [],oSf 0 16,⟨none,(.store none),[.t 1,
 cBo false],none⟩] [])) .skip) .skip))
def g102:AFn:=⟨2,[],c102,true,[],[],some 5⟩
theorem tr102:trFn Tryz.prog true 102 Tryz.f102=some g102:=by kernel_rfl
def c103r4:List (AOper × Option (List AOper)):=[
 (⟨some 13,(.faddr 2),[.t 1],none⟩,none),
 (⟨some 14,(.load none),[.t 13],none⟩,none),
 (⟨some 15,(.faddr 3),[.t 1],none⟩,none),
 (⟨some 16,(.load none),[.t 15],none⟩,none),
 (⟨some 17,(.iaddr (some 4)),[.t 16,cIn 0],none⟩,none),
 (⟨some 18,(.load (some 4)),[.t 17],none⟩,none),
 (⟨some 19,.callp,[cFn 103,.t 18],none⟩,some [⟨some 20,(.faddr 3),[.t 1],none⟩,⟨some 21,(.load none),[.t 20],none⟩,⟨some 22,(.iaddr (some 4)),[.t 21,cIn 1],none⟩,⟨some 23,(.load (some 4)),[.t 22],none⟩,⟨none,.mv,[cBo true],none⟩,⟨none,.mv,[cBo true],none⟩,⟨none,.mv,[cBo true],none⟩,⟨none,.mv,[cBo true],none⟩]),
 (⟨some 20,(.faddr 3),[.t 1],none⟩,none),
 (⟨some 21,(.load none),[.t 20],none⟩,none),
 (⟨some 22,(.iaddr (some 4)),[.t 21,cIn 1],none⟩,none),
 (⟨some 23,(.load (some 4)),[.t 22],none⟩,none),
 (⟨some 24,.callp,[cFn 103,.t 23],none⟩,some [⟨none,.mv,[cBo true],none⟩,⟨none,.mv,[cBo true],none⟩,⟨none,.mv,[cBo true],none⟩]),
 (⟨some 25,(.bslicep (some 4)),[.t 19,.t 24],none⟩,none),
 (⟨some 26,(bZ [0,2,3]),[cIn 3,.t 14,.t 25],none⟩,none),
 (oSf 2 26,none)]
def c103:ACode:=.seq (rT [oBx 1 0,oP 2 aZ []] [1,2]) (.seq (.block 0 (.seq (rT [oFa 4 0 1,oLo 5 4,oBc 6 .eql 5 0,oMv 3 6] [1,2,3]) (.cond (.t 3) (.seq (rT [oLf 7 1,oUn 8 (.bslice (some 4)) 7,oP 9 (bZ [0,2,3]) [cIn 3,cSt [99,97,108,108],.t 8],oSf 2 9] [2]) .ret) (.seq (rT [oLf 11 1,
 oCl 12 106 [.t 11],oMv 10 12] [1,2,10]) (.cond (.t 10) (.seq (.seq (.settle []) (.doom c103r4 [2])) .ret) (.seq (rT [oLf 28 1,oCl 29 65 [.t 28],oMv 27 29] [1,2,27]) (kRt 27 [oLf 30 1,oCl 31 83 [.t 30],oSf 2 31] [2]))))))) (rT [oP 32 (.build [] []) [],
 oUn 33 (.mkiface 116) 32,⟨none,.panic,[.t 33],none⟩] [2]))
def g103:AFn:=⟨1,[(2,some (some 4))],c103,false,[],[],none⟩
theorem tr103:trFn Tryz.prog false 103 Tryz.f103=some g103:=by kernel_rfl
def c106:ACode:=.seq (rT [oBx 1 0,oP 2 .mv [cBo false]] [1]) (.seq (rT [oFa 3 0 1,oLo 4 3,oBc 5 .eql 4 3,oMv 6 5,oG 7 (.faddr 3) [.t 1] 6 true,oG 8 (.load none) [.t 7] 6 true,oG 9 .len [.t 8] 6 true,oG 10 (.bin .eql) [.t 9,cIn 2] 6 true,oP 11 .pick [.t 6,.t 10,
 cBo false],oMv 12 11,oG 13 (.faddr 2) [.t 1] 12 true,oG 14 (.load none) [.t 13] 12 true,oG 15 (.bin .eql) [.t 14,cSt [44]] 12 true,oG 16 .mv [.t 15] 12 true,oG 17 (.faddr 2) [.t 1] 16 false,oG 18 (.load none) [.t 17] 16 false,oG 19 (.bin .eql) [.t 18,
 cSt [59]] 16 false,oG 20 .pick [.t 16,cBo true,.t 19] 12 true,oG 21 .mv [.t 20] 12 true,oG 22 (.faddr 2) [.t 1] 21 false,oG 23 (.load none) [.t 22] 21 false,oG 24 (.bin .eql) [.t 23,cSt [45,62]] 21 false,oG 25 .pick [.t 21,cBo true,.t 24] 12 true,
 oP 26 .pick [.t 12,.t 25,cBo false],oMv 2 26] [2]) .ret)
def g106:AFn:=⟨1,[(2,none)],c106,false,[],[],none⟩
theorem tr106:trFn Tryz.prog false 106 Tryz.f106=some g106:=by kernel_rfl
def tab:List (Nat × AFn):=[(3,g3),(5,g5),(6,g6),(7,g7),(8,g8),(9,g9),(10,g10),(11,g11),(12,g12),(14,g14),(15,g15),(16,g16),(17,g17),(18,g18),(19,g19),(20,g20),(21,g21),(22,g22),(23,g23),(24,g24),(25,g25),(26,g26),(27,g27),(28,g28),(29,g29),(30,g30),(31,g31),(32,g32),(33,g33),(34,g34),(35,g35),(36,g36),(37,g37),(38,g38),(39,g39),(40,g40),(41,g41),(42,g42),(43,g43),(44,g44),(45,g45),(46,g46),(47,g47),(48,g48),(49,g49),(50,g50),(51,g51),(54,g54),(55,g55),(56,g56),(57,g57),(58,g58),(59,g59),(60,g60),(61,g61),(62,g62),(63,g63),(64,g64),(65,g65),(66,g66),(67,g67),(68,g68),(69,g69),(70,g70),(71,g71),(72,g72),(73,g73),(74,g74),(75,g75),(76,g76),(77,g77),(78,g78),(83,g83),(84,g84),(85,g85),(86,g86),(87,g87),(88,g88),(89,g89),(90,g90),(91,g91),(92,g92),(93,g93),(94,g94),(95,g95),(96,g96),(99,g99),(100,g100),(101,g101),(102,g102),(103,g103),(106,g106)]
theorem LD:qH Tryz.prog tab:=
 (Yc Tryz.func3 tr3
 (Yc Tryz.func5 tr5
 (Yc Tryz.func6 tr6
 (Yc Tryz.func7 tr7
 (Yc Tryz.func8 tr8
 (Yc Tryz.func9 tr9
 (Yc Tryz.func10 tr10
 (Yc Tryz.func11 tr11
 (Yc Tryz.func12 tr12
 (Yc Tryz.func14 tr14
 (Yc Tryz.func15 tr15
 (Yc Tryz.func16 tr16
 (Yc Tryz.func17 tr17
 (Yc Tryz.func18 tr18
 (Yc Tryz.func19 tr19
 (Yc Tryz.func20 tr20
 (Yc Tryz.func21 tr21
 (Yc Tryz.func22 tr22
 (Yc Tryz.func23 tr23
 (Yc Tryz.func24 tr24
 (Yc Tryz.func25 tr25
 (Yc Tryz.func26 tr26
 (Yc Tryz.func27 tr27
 (Yc Tryz.func28 tr28
 (Yc Tryz.func29 tr29
 (Yc Tryz.func30 tr30
 (Yc Tryz.func31 tr31
 (Yc Tryz.func32 tr32
 (Yc Tryz.func33 tr33
 (Yc Tryz.func34 tr34
 (Yc Tryz.func35 tr35
 (Yc Tryz.func36 tr36
 (Yc Tryz.func37 tr37
 (Yc Tryz.func38 tr38
 (Yc Tryz.func39 tr39
 (Yc Tryz.func40 tr40
 (Yc Tryz.func41 tr41
 (Yc Tryz.func42 tr42
 (Yc Tryz.func43 tr43
 (Yc Tryz.func44 tr44
 (Yc Tryz.func45 tr45
 (Yc Tryz.func46 tr46
 (Yc Tryz.func47 tr47
 (Yc Tryz.func48 tr48
 (Yc Tryz.func49 tr49
 (Yc Tryz.func50 tr50
 (Yc Tryz.func51 tr51
 (Yc Tryz.func54 tr54
 (Yc Tryz.func55 tr55
 (Yc Tryz.func56 tr56
 (Yc Tryz.func57 tr57
 (Yc Tryz.func58 tr58
 (Yc Tryz.func59 tr59
 (Yc Tryz.func60 tr60
 (Yc Tryz.func61 tr61
 (Yc Tryz.func62 tr62
 (Yc Tryz.func63 tr63
 (Yc Tryz.func64 tr64
 (Yc Tryz.func65 tr65
 (Yc Tryz.func66 tr66
 (Yc Tryz.func67 tr67
 (Yc Tryz.func68 tr68
 (Yc Tryz.func69 tr69
 (Yc Tryz.func70 tr70
 (Yc Tryz.func71 tr71
 (Yc Tryz.func72 tr72
 (Yc Tryz.func73 tr73
 (Yc Tryz.func74 tr74
 (Yc Tryz.func75 tr75
 (Yc Tryz.func76 tr76
 (Yc Tryz.func77 tr77
 (Yc Tryz.func78 tr78
 (Yc Tryz.func83 tr83
 (Yc Tryz.func84 tr84
 (Yc Tryz.func85 tr85
 (Yc Tryz.func86 tr86
 (Yc Tryz.func87 tr87
 (Yc Tryz.func88 tr88
 (Yc Tryz.func89 tr89
 (Yc Tryz.func90 tr90
 (Yc Tryz.func91 tr91
 (Yc Tryz.func92 tr92
 (Yc Tryz.func93 tr93
 (Yc Tryz.func94 tr94
 (Yc Tryz.func95 tr95
 (Yc Tryz.func96 tr96
 (Yc Tryz.func99 tr99
 (Yc Tryz.func100 tr100
 (Yc Tryz.func101 tr101
 (Yc Tryz.func102 tr102
 (Yc Tryz.func103 tr103
 (Yc Tryz.func106 tr106 df))))))))))))))))))))))))))))))))))))))))))))))))))))))))))))))))))))))))))))))))))))))))))))
attribute [go_sem] c3 g3 c5 g5 c6 g6 c7 g7 c8 g8 c9 g9 c10 g10 c11 g11 c12 g12 c14 g14 c15 g15 c16 g16 c17 g17 c18 g18 c19 g19 c20 g20 c21r0 c21r1 c21r2 c21k3 c21r4 c21r5 c21r6 c21k7 c21r8 c21r9 c21r10 c21k11 c21r12 c21r13 c21r14 c21r15 c21k16 c21r17 c21r18 c21r19 c21 g21 c22 g22 c23 g23 c24 g24 c25r0 c25r1 c25r2 c25k3 c25r4 c25r5 c25r6 c25r7 c25k8 c25r9 c25r10 c25r11 c25k12 c25r13 c25r14 c25r15 c25r16 c25r17 c25k18 c25r19 c25r20 g25 c26 g26 c27 g27 c28 g28 c29 g29 c30 g30 c31 g31 c32 g32 c33 g33 c34 g34 c35 g35 c36 g36 c37 g37 c38 g38 c39 g39 c40 g40 c41 g41 c42 g42 c43 g43 c44 g44 c45 g45 c46 g46 c47 g47 c48 g48 c49 g49 c50 g50 c51 g51 c55 g55 c56 g56 c57 g57 c58 g58 c59 g59 c60 g60 c61 g61 c62 g62 c63 g63 c64 g64 c65 g65 c66 g66 c67 g67 c68 g68 c69 g69 c70 g70 c71 g71 c72 g72 c73r0 c73r1 c73r2 c73k3 c73r4 c73r5 c73k6 c73r7 c73r8 c73k9 c73k10 c73r11 c73k13 c73r14 c73 g73 c74 g74 c75r0 c75r1 c75r2 c75k3 c75r4 c75r5 c75k6 c75r7 c75k8 c75r9 c75r12 c75 g75 c76 g76 c77 g77 c78 g78 c83 g83 c84 g84 c85 g85 c86 g86 c87 g87 c88 g88 c89r0 c89r1 c89r2 c89r3 c89r4 c89r5 c89r6 c89r7 c89r8 c89r9 c89r10 c89k11 c89k12 c89k13 c89k14 c89r16 c89r17 c89k18 c89r19 c89k20 c89r21 c89b22 c89k23 c89r24 c89 g89 c90p3 c90 g90 c91r0 c91r1 c91r2 c91k3 c91r4 c91r5 c91k6 c91r7 c91r8 c91r9 c91k10 c91k11 c91r12 c91k14 c91r15 c91 g91 c92 g92 c93 g93 c94 g94 c95 g95 c96 g96 c99 g99 c100 g100 c101 g101 c102 g102 c103r4 c103 g103 c106 g106
end Go.Proofs.YtligpohiokpnhaaGreat
