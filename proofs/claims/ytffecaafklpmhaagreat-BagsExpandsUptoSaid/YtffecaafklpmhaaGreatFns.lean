/- The functions as the abstract machine has them,each proved to be what the translation gives. -/
import Derived.Test.YtffecaafklpmhaaGreatAm4
import Derived.Test.YtffecaafklpmhaaGreatProg
import Derived.KernelRfl
namespace Go.Proofs.YtffecaafklpmhaaGreat
open Go.Am
def oP (d : Nat) (p : AOp) (l : List AArg) : AOper := ⟨some d, p, l, none⟩
def aZ : AOp := .alloc (some 4) (.agg [(none,(.pv none (.int .i64 0))),(none,(.pv none (.int .i64 0))),(none,(.pv none (.str []))),(none,(.tsl (some 4) []))])
def bZ (l : List Nat) : AOp := .build [(none,(.pv none (.int .i64 0))),(none,(.pv none (.int .i64 0))),(none,(.pv none (.str []))),(none,(.tsl (some 4) []))] l
attribute [go_sem] oP aZ bZ
def c5r0 : List AOper := [
 oP 2 .mv [.c (.pv none (.bool false))]]
def c5r1 : List AOper := [
 oP 9 .mv [.t 0],
 oP 10 .len [.t 9],
 oP 11 (.bin .gtr) [.t 10,.c (.pv none (.int .i64 60))]]
def c5r2 : List AOper := [
 oP 12 .call [.c (.pv none (.func (.func 9)))],
 oP 2 .mv [.t 12]]
def c5k3 : ACode := (.cond (.t 11) (.seq (.region true c5r2 [2]) .ret) .skip)
def c5r4 : List AOper := [
 oP 14 .mv [.t 0],
 oP 15 .call [.c (.pv none (.func (.func 18))),.t 14],
 oP 13 .mv [.t 15],
 oP 16 (.extract 0) [.t 13],
 oP 17 (.extract 1) [.t 13],
 oP 3 .mv [.t 16],
 oP 4 .mv [.t 17]]
def c5r5 : List AOper := [
 oP 19 .mv [.t 0],
 oP 20 .call [.c (.pv none (.func (.func 10))),.t 19],
 oP 18 .mv [.t 20],
 oP 21 (.extract 0) [.t 18],
 oP 22 (.extract 1) [.t 18],
 oP 5 .mv [.t 21],
 oP 6 .mv [.t 22]]
def c5r6 : List AOper := [
 oP 23 .mv [.t 4],
 oP 24 (.bin .neq) [.t 23,.c (.pv none (.int .i64 0))]]
def c5r7 : List AOper := [
 oP 25 .mv [.t 6],
 oP 26 .mv [.t 4],
 oP 27 (.bin .eql) [.t 25,.t 26],
 oP 28 .mv [.t 27],
 ⟨some 29,.mv,[.t 5],some (28,true)⟩,
 ⟨some 30,.len,[.t 29],some (28,true)⟩,
 ⟨some 31,(.bin .eql),[.t 30,.c (.pv none (.int .i64 0))],some (28,true)⟩,
 oP 32 .pick [.t 28,.t 31,.c (.pv none (.bool false))],
 oP 33 .mv [.t 32],
 ⟨some 34,.call,[.c (.pv none (.func (.func 9)))],some (33,true)⟩,
 oP 35 .pick [.t 33,.t 34,.c (.pv none (.bool false))],
 oP 2 .mv [.t 35]]
def c5k8 : ACode := (.cond (.t 24) (.seq (.region true c5r7 [2]) .ret) .skip)
def c5r9 : List AOper := [
 oP 37 .mv [.t 3],
 oP 38 .call [.c (.pv none (.func (.func 10))),.t 37],
 oP 36 .mv [.t 38],
 oP 39 (.extract 0) [.t 36],
 oP 40 (.extract 1) [.t 36],
 oP 7 .mv [.t 39],
 oP 8 .mv [.t 40]]
def c5r10 : List AOper := [
 oP 41 .mv [.t 6],
 oP 42 .mv [.t 8],
 oP 43 (.bin .eql) [.t 41,.t 42],
 oP 44 .mv [.t 43],
 ⟨some 45,.mv,[.t 5],some (44,true)⟩,
 ⟨some 46,.mv,[.t 7],some (44,true)⟩,
 ⟨some 47,.call,[.c (.pv none (.func (.func 12))),.t 45,.t 46],some (44,true)⟩,
 oP 48 .pick [.t 44,.t 47,.c (.pv none (.bool false))],
 oP 49 .mv [.t 48],
 ⟨some 50,.call,[.c (.pv none (.func (.func 9)))],some (49,true)⟩,
 oP 51 .pick [.t 49,.t 50,.c (.pv none (.bool false))],
 oP 2 .mv [.t 51]]
def c5 : ACode := (.seq (.region true c5r0 [0]) (.seq (.seq (.region true c5r1 [0,11]) c5k3) (.seq (.region true c5r4 [0,3,4]) (.seq (.region true c5r5 [3,4,5,6]) (.seq (.seq (.region true c5r6 [3,4,5,6,24]) c5k8) (.seq (.region true c5r9 [5,6,7,8]) (.seq (.region true c5r10 [2]) .ret)))))))
def g5 : AFn := ⟨1,[(2,none)],c5,false,[],[],none⟩
theorem tr5 : trFn Tryz.prog false 5 Tryz.f5 = some g5 := by kernel_rfl
def c7r0 : List AOper := [
 oP 1 (.box (some 4)) [.t 0],
 oP 2 .mv [.c (.pv none (.bool false))]]
def c7r1 : List AOper := [
 oP 10 (.load (some 4)) [.t 1],
 oP 11 .call [.c (.pv none (.func (.func 23))),.t 10],
 oP 9 .mv [.t 11],
 oP 12 (.extract 0) [.t 9],
 oP 13 (.extract 1) [.t 9],
 oP 14 (.extract 2) [.t 9],
 oP 3 aZ [],
 oP 4 aZ [],
 ⟨none,(.store (some 4)),[.t 3,.t 12],none⟩,
 ⟨none,(.store (some 4)),[.t 4,.t 13],none⟩,
 oP 5 .mv [.t 14]]
def c7r2 : List AOper := [
 oP 16 (.load (some 4)) [.t 1],
 oP 17 .call [.c (.pv none (.func (.func 24))),.t 16],
 oP 15 .mv [.t 17],
 oP 18 (.extract 0) [.t 15],
 oP 19 (.extract 1) [.t 15],
 oP 20 (.extract 2) [.t 15],
 oP 6 aZ [],
 oP 7 aZ [],
 ⟨none,(.store (some 4)),[.t 6,.t 18],none⟩,
 ⟨none,(.store (some 4)),[.t 7,.t 19],none⟩,
 oP 8 .mv [.t 20]]
def c7r3 : List AOper := [
 oP 21 (.load (some 4)) [.t 3],
 oP 22 (.load (some 4)) [.t 6],
 oP 23 .call [.c (.pv none (.func (.func 15))),.t 21,.t 22],
 oP 24 .mv [.t 23],
 ⟨some 25,(.load (some 4)),[.t 4],some (24,true)⟩,
 ⟨some 26,(.load (some 4)),[.t 7],some (24,true)⟩,
 ⟨some 27,.call,[.c (.pv none (.func (.func 15))),.t 25,.t 26],some (24,true)⟩,
 oP 28 .pick [.t 24,.t 27,.c (.pv none (.bool false))],
 oP 29 .mv [.t 28],
 ⟨some 30,.mv,[.t 5],some (29,true)⟩,
 ⟨some 31,.mv,[.t 8],some (29,true)⟩,
 ⟨some 32,(.bin .eql),[.t 30,.t 31],some (29,true)⟩,
 oP 33 .pick [.t 29,.t 32,.c (.pv none (.bool false))],
 oP 34 .mv [.t 33],
 ⟨some 35,.call,[.c (.pv none (.func (.func 9)))],some (34,true)⟩,
 oP 36 .pick [.t 34,.t 35,.c (.pv none (.bool false))],
 oP 2 .mv [.t 36]]
def c7 : ACode := (.seq (.region true c7r0 [1]) (.seq (.region true c7r1 [1,3,4,5]) (.seq (.region true c7r2 [3,4,5,6,7,8]) (.seq (.region true c7r3 [2]) .ret))))
def g7 : AFn := ⟨1,[(2,none)],c7,false,[],[],none⟩
theorem tr7 : trFn Tryz.prog false 7 Tryz.f7 = some g7 := by kernel_rfl
def c8r0 : List AOper := [
 oP 0 .mv [.c (.pv none (.bool false))]]
def c8r1 : List AOper := [
 oP 34 .call [.c (.pv none (.func (.func 9)))],
 oP 35 .not [.t 34]]
def c8r2 : List AOper := [
 oP 0 .mv [.c (.pv none (.bool false))]]
def c8k3 : ACode := (.cond (.t 35) (.seq (.region true c8r2 [0]) .ret) .skip)
def c8r4 : List AOper := [
 oP 36 .call [.c (.pv none (.func (.func 25))),.c (.pv none (.int .i64 0))],
 oP 37 .call [.c (.pv none (.func (.func 25))),.c (.pv none (.int .i64 1))],
 oP 38 .call [.c (.pv none (.func (.func 25))),.c (.pv none (.int .i64 2))],
 oP 1 aZ [],
 oP 2 aZ [],
 oP 3 aZ [],
 ⟨none,(.store (some 4)),[.t 1,.t 36],none⟩,
 ⟨none,(.store (some 4)),[.t 2,.t 37],none⟩,
 ⟨none,(.store (some 4)),[.t 3,.t 38],none⟩]
def c8r5 : List AOper := [
 oP 39 (.load (some 4)) [.t 1],
 oP 40 (.bslice (some 4)) [.t 39],
 oP 41 .call [.c (.pv none (.func (.func 26))),.c (.pv none (.str [112])),.t 40],
 oP 4 aZ [],
 ⟨none,(.store (some 4)),[.t 4,.t 41],none⟩]
def c8r6 : List AOper := [
 oP 42 (.load (some 4)) [.t 1],
 oP 43 (.load (some 4)) [.t 2],
 oP 44 (.load (some 4)) [.t 4],
 oP 45 (.bslicep (some 4)) [.t 43,.t 44],
 oP 46 .callp [.c (.pv none (.func (.func 26))),.c (.pv none (.str [94])),.t 45],
 oP 47 (.bslicep (some 4)) [.t 42,.t 46],
 oP 48 .callp [.c (.pv none (.func (.func 26))),.c (.pv none (.str [94])),.t 47],
 oP 49 .callp [.c (.pv none (.func (.func 19))),.t 48],
 oP 50 (.load (some 4)) [.t 4],
 oP 51 .callp [.c (.pv none (.func (.func 27))),.t 49,.t 50],
 oP 52 .mv [.t 51],
 ⟨some 53,.callp,[.c (.pv none (.func (.func 28))),.c (.pv none (.str [97]))],some (52,true)⟩,
 ⟨some 54,.callp,[.c (.pv none (.func (.func 19))),.t 53],some (52,true)⟩,
 ⟨some 55,.callp,[.c (.pv none (.func (.func 28))),.c (.pv none (.str [97]))],some (52,true)⟩,
 ⟨some 56,.callp,[.c (.pv none (.func (.func 27))),.t 54,.t 55],some (52,true)⟩,
 oP 57 .pick [.t 52,.t 56,.c (.pv none (.bool false))],
 oP 5 .mv [.t 57]]
def c8r7 : List AOper := [
 oP 59 (.load (some 4)) [.t 1],
 oP 60 (.bslicep (some 4)) [.t 59],
 oP 61 .callp [.c (.pv none (.func (.func 26))),.c (.pv none (.str [102])),.t 60],
 oP 62 (.load (some 4)) [.t 1],
 oP 63 .callp [.c (.pv none (.func (.func 29))),.t 61,.t 62],
 oP 64 (.load (some 4)) [.t 2],
 oP 65 (.bslicep (some 4)) [.t 64],
 oP 66 .callp [.c (.pv none (.func (.func 26))),.c (.pv none (.str [102])),.t 65],
 oP 67 (.load (some 4)) [.t 2],
 oP 68 .callp [.c (.pv none (.func (.func 29))),.t 66,.t 67],
 oP 69 (.bslicep (some 4)) [.t 63,.t 68],
 oP 70 .callp [.c (.pv none (.func (.func 10))),.t 69],
 oP 58 .mv [.t 70],
 oP 71 (.extract 0) [.t 58],
 oP 72 (.extract 1) [.t 58],
 oP 6 .mv [.t 71],
 oP 7 .mv [.t 72]]
def c8r8 : List AOper := [
 oP 74 .call [.c (.pv none (.func (.func 28))),.c (.pv none (.str [97]))],
 oP 75 .call [.c (.pv none (.func (.func 30))),.c (.pv none (.int .i64 1))],
 oP 76 .call [.c (.pv none (.func (.func 29))),.t 74,.t 75],
 oP 77 .call [.c (.pv none (.func (.func 28))),.c (.pv none (.str [98]))],
 oP 78 (.bslice (some 4)) [.t 76,.t 77],
 oP 79 .call [.c (.pv none (.func (.func 10))),.t 78],
 oP 73 .mv [.t 79],
 oP 80 (.extract 0) [.t 73],
 oP 81 (.extract 1) [.t 73],
 oP 8 .mv [.t 80],
 oP 9 .mv [.t 81]]
def c8r9 : List AOper := [
 oP 83 (.load (some 4)) [.t 1],
 oP 84 (.load (some 4)) [.t 2],
 oP 85 (.load (some 4)) [.t 3],
 oP 86 (.bslice (some 4)) [.t 83,.t 84,.t 85],
 oP 87 .call [.c (.pv none (.func (.func 26))),.c (.pv none (.str [98,97,103,111,102])),.t 86],
 oP 88 .call [.c (.pv none (.func (.func 23))),.t 87],
 oP 82 .mv [.t 88],
 oP 89 (.extract 0) [.t 82],
 oP 90 (.extract 1) [.t 82],
 oP 91 (.extract 2) [.t 82],
 oP 10 aZ [],
 oP 11 aZ [],
 ⟨none,(.store (some 4)),[.t 10,.t 89],none⟩,
 ⟨none,(.store (some 4)),[.t 11,.t 90],none⟩,
 oP 12 .mv [.t 91]]
def c8r10 : List AOper := [
 oP 93 (.load (some 4)) [.t 1],
 oP 94 .callp [.c (.pv none (.func (.func 28))),.c (.pv none (.str [112]))],
 oP 95 .callp [.c (.pv none (.func (.func 28))),.c (.pv none (.str [97]))],
 oP 96 (.bslicep (some 4)) [.t 93,.t 94,.t 95],
 oP 97 .callp [.c (.pv none (.func (.func 26))),.c (.pv none (.str [115,101,116,111,102])),.t 96],
 oP 98 .callp [.c (.pv none (.func (.func 23))),.t 97],
 oP 92 .mv [.t 98],
 oP 99 (.extract 0) [.t 92],
 oP 100 (.extract 1) [.t 92],
 oP 101 (.extract 2) [.t 92],
 oP 13 aZ [],
 oP 14 aZ [],
 ⟨none,(.store (some 4)),[.t 13,.t 99],none⟩,
 ⟨none,(.store (some 4)),[.t 14,.t 100],none⟩,
 oP 15 .mv [.t 101]]
def c8r11 : List AOper := [
 oP 103 .call [.c (.pv none (.func (.func 28))),.c (.pv none (.str [112]))],
 oP 104 .call [.c (.pv none (.func (.func 23))),.t 103],
 oP 102 .mv [.t 104],
 oP 105 (.extract 0) [.t 102],
 oP 106 (.extract 1) [.t 102],
 oP 107 (.extract 2) [.t 102],
 oP 16 aZ [],
 oP 17 aZ [],
 ⟨none,(.store (some 4)),[.t 16,.t 105],none⟩,
 ⟨none,(.store (some 4)),[.t 17,.t 106],none⟩,
 oP 18 .mv [.t 107]]
def c8r12 : List AOper := [
 oP 108 (.load (some 4)) [.t 1],
 oP 109 (.load (some 4)) [.t 2],
 oP 110 (.bslice (some 4)) [.t 108,.t 109],
 oP 111 .call [.c (.pv none (.func (.func 26))),.c (.pv none (.str [112])),.t 110],
 oP 19 aZ [],
 ⟨none,(.store (some 4)),[.t 19,.t 111],none⟩]
def c8r13 : List AOper := [
 oP 113 (.load (some 4)) [.t 1],
 oP 114 (.load (some 4)) [.t 19],
 oP 115 (.load (some 4)) [.t 3],
 oP 116 (.bslice (some 4)) [.t 113,.t 114,.t 115],
 oP 117 .call [.c (.pv none (.func (.func 26))),.c (.pv none (.str [98,97,103,111,102])),.t 116],
 oP 118 .call [.c (.pv none (.func (.func 23))),.t 117],
 oP 112 .mv [.t 118],
 oP 119 (.extract 0) [.t 112],
 oP 120 (.extract 1) [.t 112],
 oP 121 (.extract 2) [.t 112],
 oP 20 aZ [],
 oP 21 aZ [],
 ⟨none,(.store (some 4)),[.t 20,.t 119],none⟩,
 ⟨none,(.store (some 4)),[.t 21,.t 120],none⟩,
 oP 22 .mv [.t 121]]
def c8r14 : List AOper := [
 oP 122 (.load (some 4)) [.t 2],
 oP 123 (.bslice (some 4)) [.t 122],
 oP 124 .call [.c (.pv none (.func (.func 31))),.t 123],
 oP 125 .call [.c (.pv none (.func (.func 25))),.c (.pv none (.int .i64 3))],
 oP 23 aZ [],
 oP 24 aZ [],
 ⟨none,(.store (some 4)),[.t 23,.t 124],none⟩,
 ⟨none,(.store (some 4)),[.t 24,.t 125],none⟩]
def c8r15 : List AOper := [
 oP 126 (.load (some 4)) [.t 23],
 oP 127 (.load (some 4)) [.t 1],
 oP 128 .callp [.c (.pv none (.func (.func 29))),.t 126,.t 127],
 oP 129 (.load (some 4)) [.t 19],
 oP 130 (.load (some 4)) [.t 24],
 oP 131 (.bslicep (some 4)) [.t 128,.t 129,.t 130],
 oP 132 .callp [.c (.pv none (.func (.func 26))),.c (.pv none (.str [102,105,110,100,97,108,108])),.t 131],
 oP 133 (.load (some 4)) [.t 23],
 oP 134 (.load (some 4)) [.t 24],
 oP 135 (.load (some 4)) [.t 3],
 oP 136 (.bslicep (some 4)) [.t 133,.t 134,.t 135],
 oP 137 .callp [.c (.pv none (.func (.func 26))),.c (.pv none (.str [36,98,97,103])),.t 136],
 oP 138 (.bslicep (some 4)) [.t 132,.t 137],
 oP 139 .callp [.c (.pv none (.func (.func 26))),.c (.pv none (.str [44])),.t 138],
 oP 25 aZ [],
 ⟨none,(.store (some 4)),[.t 25,.t 139],none⟩]
def c8r16 : List AOper := [
 oP 141 (.load (some 4)) [.t 1],
 oP 142 .callp [.c (.pv none (.func (.func 28))),.c (.pv none (.str [91,93]))],
 oP 143 (.load (some 4)) [.t 2],
 oP 144 (.bslicep (some 4)) [.t 141,.t 142,.t 143],
 oP 145 .callp [.c (.pv none (.func (.func 26))),.c (.pv none (.str [36,98,97,103])),.t 144],
 oP 146 .callp [.c (.pv none (.func (.func 13))),.t 145],
 oP 140 .mv [.t 146],
 oP 147 (.extract 0) [.t 140],
 oP 148 (.extract 1) [.t 140],
 oP 149 (.extract 2) [.t 140],
 oP 27 aZ [],
 oP 26 .mv [.t 147],
 ⟨none,(.store (some 4)),[.t 27,.t 148],none⟩,
 oP 28 .mv [.t 149]]
def c8r17 : List AOper := [
 oP 151 (.load (some 4)) [.t 1],
 oP 152 (.load (some 4)) [.t 2],
 oP 153 (.load (some 4)) [.t 3],
 oP 154 (.bslice (some 4)) [.t 151,.t 152,.t 153],
 oP 155 .call [.c (.pv none (.func (.func 26))),.c (.pv none (.str [36,98,97,103])),.t 154],
 oP 156 .call [.c (.pv none (.func (.func 13))),.t 155],
 oP 150 .mv [.t 156],
 oP 157 (.extract 0) [.t 150],
 oP 158 (.extract 1) [.t 150],
 oP 159 (.extract 2) [.t 150],
 oP 30 aZ [],
 oP 29 .mv [.t 157],
 ⟨none,(.store (some 4)),[.t 30,.t 158],none⟩,
 oP 31 .mv [.t 159]]
def c8r18 : List AOper := [
 oP 160 .mv [.t 7],
 oP 161 (.bin .neq) [.t 160,.c (.pv none (.int .i64 0))],
 oP 162 .mv [.t 161],
 ⟨some 163,.mv,[.t 6],some (162,false)⟩,
 ⟨some 164,.len,[.t 163],some (162,false)⟩,
 ⟨some 165,(.bin .neq),[.t 164,.c (.pv none (.int .i64 1))],some (162,false)⟩,
 oP 166 .pick [.t 162,.c (.pv none (.bool true)),.t 165]]
def c8r19 : List AOper := [
 oP 0 .mv [.c (.pv none (.bool false))]]
def c8k20 : ACode := (.cond (.t 166) (.seq (.region true c8r19 [0]) .ret) .skip)
def c8r21 : List AOper := [
 oP 167 .mv [.t 5],
 oP 168 .mv [.t 167],
 ⟨some 169,.mv,[.t 6],some (168,true)⟩,
 ⟨some 170,(.iaddr (some 4)),[.t 169,.c (.pv none (.int .i64 0))],some (168,true)⟩,
 ⟨some 171,(.load (some 4)),[.t 170],some (168,true)⟩,
 ⟨some 172,(.load (some 4)),[.t 1],some (168,true)⟩,
 ⟨some 173,(.bslicep (some 4)),[.t 172],some (168,true)⟩,
 ⟨some 174,.callp,[.c (.pv none (.func (.func 26))),.c (.pv none (.str [102])),.t 173],some (168,true)⟩,
 ⟨some 175,(.load (some 4)),[.t 1],some (168,true)⟩,
 ⟨some 176,(.load (some 4)),[.t 1],some (168,true)⟩,
 ⟨some 177,(.bslicep (some 4)),[.t 175,.t 176],some (168,true)⟩,
 ⟨some 178,.callp,[.c (.pv none (.func (.func 31))),.t 177],some (168,true)⟩,
 ⟨some 179,.callp,[.c (.pv none (.func (.func 29))),.t 174,.t 178],some (168,true)⟩,
 ⟨some 180,.callp,[.c (.pv none (.func (.func 27))),.t 171,.t 179],some (168,true)⟩,
 oP 181 .pick [.t 168,.t 180,.c (.pv none (.bool false))],
 oP 182 .mv [.t 181],
 ⟨some 183,.mv,[.t 9],some (182,true)⟩,
 ⟨some 184,(.bin .eql),[.t 183,.c (.pv none (.int .i64 3))],some (182,true)⟩,
 oP 185 .pick [.t 182,.t 184,.c (.pv none (.bool false))],
 oP 186 .mv [.t 185],
 ⟨some 187,.mv,[.t 12],some (186,true)⟩,
 ⟨some 188,(.bin .eql),[.t 187,.c (.pv none (.int .i64 8))],some (186,true)⟩,
 oP 189 .pick [.t 186,.t 188,.c (.pv none (.bool false))],
 oP 190 .mv [.t 189],
 ⟨some 191,(.load (some 4)),[.t 11],some (190,true)⟩,
 ⟨some 192,.callp,[.c (.pv none (.func (.func 32)))],some (190,true)⟩,
 ⟨some 193,.callp,[.c (.pv none (.func (.func 27))),.t 191,.t 192],some (190,true)⟩,
 oP 194 .pick [.t 190,.t 193,.c (.pv none (.bool false))],
 oP 32 .mv [.t 194]]
def c8r22 : List AOper := [
 oP 195 .mv [.t 15],
 oP 196 (.bin .eql) [.t 195,.c (.pv none (.int .i64 8))],
 oP 197 .mv [.t 196],
 ⟨some 198,(.load (some 4)),[.t 14],some (197,true)⟩,
 ⟨some 199,.callp,[.c (.pv none (.func (.func 28))),.c (.pv none (.str [97]))],some (197,true)⟩,
 ⟨some 200,.callp,[.c (.pv none (.func (.func 33))),.c (.pv none (.str [108,105,115,116])),.t 199],some (197,true)⟩,
 ⟨some 201,.callp,[.c (.pv none (.func (.func 27))),.t 198,.t 200],some (197,true)⟩,
 oP 202 .pick [.t 197,.t 201,.c (.pv none (.bool false))],
 oP 203 .mv [.t 202],
 ⟨some 204,.mv,[.t 18],some (203,true)⟩,
 ⟨some 205,(.bin .eql),[.t 204,.c (.pv none (.int .i64 4))],some (203,true)⟩,
 oP 206 .pick [.t 203,.t 205,.c (.pv none (.bool false))],
 oP 207 .mv [.t 206],
 ⟨some 208,.mv,[.t 22],some (207,true)⟩,
 ⟨some 209,(.bin .eql),[.t 208,.c (.pv none (.int .i64 0))],some (207,true)⟩,
 oP 210 .pick [.t 207,.t 209,.c (.pv none (.bool false))],
 oP 211 .mv [.t 210],
 ⟨some 212,(.load (some 4)),[.t 20],some (211,true)⟩,
 ⟨some 213,(.load (some 4)),[.t 25],some (211,true)⟩,
 ⟨some 214,.callp,[.c (.pv none (.func (.func 27))),.t 212,.t 213],some (211,true)⟩,
 oP 215 .pick [.t 211,.t 214,.c (.pv none (.bool false))],
 oP 33 .mv [.t 215]]
def c8r23 : List AOper := [
 oP 216 .mv [.t 32],
 oP 217 .mv [.t 216],
 ⟨some 218,.mv,[.t 33],some (217,true)⟩,
 oP 219 .pick [.t 217,.t 218,.c (.pv none (.bool false))],
 oP 220 .mv [.t 219],
 ⟨some 221,.mv,[.t 28],some (220,true)⟩,
 ⟨some 222,(.bin .eql),[.t 221,.c (.pv none (.int .i64 0))],some (220,true)⟩,
 oP 223 .pick [.t 220,.t 222,.c (.pv none (.bool false))],
 oP 224 .mv [.t 223],
 ⟨some 225,.mv,[.t 26],some (224,true)⟩,
 ⟨some 226,.len,[.t 225],some (224,true)⟩,
 ⟨some 227,(.bin .eql),[.t 226,.c (.pv none (.int .i64 0))],some (224,true)⟩,
 oP 228 .pick [.t 224,.t 227,.c (.pv none (.bool false))],
 oP 229 .mv [.t 228],
 ⟨some 230,.mv,[.t 31],some (229,true)⟩,
 ⟨some 231,(.bin .eql),[.t 230,.c (.pv none (.int .i64 8))],some (229,true)⟩,
 oP 232 .pick [.t 229,.t 231,.c (.pv none (.bool false))],
 oP 233 .mv [.t 232],
 ⟨some 234,(.load (some 4)),[.t 30],some (233,true)⟩,
 ⟨some 235,.callp,[.c (.pv none (.func (.func 32)))],some (233,true)⟩,
 ⟨some 236,.callp,[.c (.pv none (.func (.func 27))),.t 234,.t 235],some (233,true)⟩,
 oP 237 .pick [.t 233,.t 236,.c (.pv none (.bool false))],
 oP 238 .mv [.t 237],
 ⟨some 239,(.load (some 4)),[.t 1],some (238,true)⟩,
 ⟨some 240,(.bslicep (some 4)),[.t 239],some (238,true)⟩,
 ⟨some 241,.callp,[.c (.pv none (.func (.func 26))),.c (.pv none (.str [102])),.t 240],some (238,true)⟩,
 ⟨some 242,(.load (some 4)),[.t 4],some (238,true)⟩,
 ⟨some 243,.callp,[.c (.pv none (.func (.func 21))),.t 241,.t 242],some (238,true)⟩,
 ⟨some 244,.callp,[.c (.pv none (.func (.func 28))),.c (.pv none (.str [91,93]))],some (238,true)⟩,
 ⟨some 245,.callp,[.c (.pv none (.func (.func 27))),.t 243,.t 244],some (238,true)⟩,
 oP 246 .pick [.t 238,.t 245,.c (.pv none (.bool false))],
 oP 0 .mv [.t 246]]
def c8 : ACode := (.seq (.region true c8r0 []) (.seq (.seq (.region true c8r1 [35]) c8k3) (.seq (.region true c8r4 [1,2,3]) (.seq (.region true c8r5 [1,2,3,4]) (.seq (.seq (.settle [1,2,4]) (.region true c8r6 [1,2,3,4,5])) (.seq (.seq (.settle [1,2]) (.region true c8r7 [1,2,3,4,5,6,7])) (.seq (.region true c8r8 [1,2,3,4,5,6,7,9]) (.seq (.region true c8r9 [1,2,3,4,5,6,7,9,11,12]) (.seq (.seq (.settle [1]) (.region true c8r10 [1,2,3,4,5,6,7,9,11,12,14,15])) (.seq (.region true c8r11 [1,2,3,4,5,6,7,9,11,12,14,15,18]) (.seq (.region true c8r12 [1,2,3,4,5,6,7,9,11,12,14,15,18,19]) (.seq (.region true c8r13 [1,2,3,4,5,6,7,9,11,12,14,15,18,19,20,22]) (.seq (.region true c8r14 [1,2,3,4,5,6,7,9,11,12,14,15,18,19,20,22,23,24]) (.seq (.seq (.settle [1,3,19,23,24]) (.region true c8r15 [1,2,3,4,5,6,7,9,11,12,14,15,18,20,22,25])) (.seq (.seq (.settle [1,2]) (.region true c8r16 [1,2,3,4,5,6,7,9,11,12,14,15,18,20,22,25,26,28])) (.seq (.region true c8r17 [1,4,5,6,7,9,11,12,14,15,18,20,22,25,26,28,30,31]) (.seq (.seq (.region true c8r18 [1,4,5,6,9,11,12,14,15,18,20,22,25,26,28,30,31,166]) c8k20) (.seq (.seq (.settle [1,11]) (.region true c8r21 [1,4,14,15,18,20,22,25,26,28,30,31,32])) (.seq (.seq (.settle [14,20,25]) (.region true c8r22 [1,4,26,28,30,31,32,33])) (.seq (.seq (.settle [1,4,30]) (.region true c8r23 [0])) .ret))))))))))))))))))))
def g8 : AFn := ⟨0,[(0,none)],c8,false,[],[],none⟩
theorem tr8 : trFn Tryz.prog false 8 Tryz.f8 = some g8 := by kernel_rfl
def c9r0 : List AOper := [
 oP 0 .mv [.c (.pv none (.bool false))]]
def c9r1 : List AOper := [
 oP 10 .call [.c (.pv none (.func (.func 25))),.c (.pv none (.int .i64 0))],
 oP 11 .call [.c (.pv none (.func (.func 25))),.c (.pv none (.int .i64 1))],
 oP 12 .call [.c (.pv none (.func (.func 25))),.c (.pv none (.int .i64 2))],
 oP 13 (.bslice (some 4)) [.t 10,.t 11,.t 12],
 oP 14 .call [.c (.pv none (.func (.func 26))),.c (.pv none (.str [112])),.t 13],
 oP 1 aZ [],
 ⟨none,(.store (some 4)),[.t 1,.t 14],none⟩]
def c9r2 : List AOper := [
 oP 16 .call [.c (.pv none (.func (.func 28))),.c (.pv none (.str [98]))],
 oP 17 .call [.c (.pv none (.func (.func 30))),.c (.pv none (.int .i64 1))],
 oP 18 .call [.c (.pv none (.func (.func 29))),.t 16,.t 17],
 oP 19 .call [.c (.pv none (.func (.func 28))),.c (.pv none (.str [97]))],
 oP 20 .call [.c (.pv none (.func (.func 30))),.c (.pv none (.int .i64 2))],
 oP 21 .call [.c (.pv none (.func (.func 29))),.t 19,.t 20],
 oP 22 .call [.c (.pv none (.func (.func 28))),.c (.pv none (.str [98]))],
 oP 23 .call [.c (.pv none (.func (.func 30))),.c (.pv none (.int .i64 3))],
 oP 24 .call [.c (.pv none (.func (.func 29))),.t 22,.t 23],
 oP 25 (.bslice (some 4)) [.t 18,.t 21,.t 24],
 oP 26 .call [.c (.pv none (.func (.func 10))),.t 25],
 oP 15 .mv [.t 26],
 oP 27 (.extract 0) [.t 15],
 oP 28 (.extract 1) [.t 15],
 oP 2 .mv [.t 27],
 oP 3 .mv [.t 28]]
def c9r3 : List AOper := [
 oP 29 .call [.c (.pv none (.func (.func 28))),.c (.pv none (.str [97]))],
 oP 30 .call [.c (.pv none (.func (.func 30))),.c (.pv none (.int .i64 2))],
 oP 31 .call [.c (.pv none (.func (.func 29))),.t 29,.t 30],
 oP 32 .call [.c (.pv none (.func (.func 28))),.c (.pv none (.str [97]))],
 oP 33 .call [.c (.pv none (.func (.func 30))),.c (.pv none (.int .i64 1))],
 oP 34 .call [.c (.pv none (.func (.func 29))),.t 32,.t 33],
 oP 35 .call [.c (.pv none (.func (.func 28))),.c (.pv none (.str [97]))],
 oP 36 .call [.c (.pv none (.func (.func 30))),.c (.pv none (.int .i64 2))],
 oP 37 .call [.c (.pv none (.func (.func 29))),.t 35,.t 36],
 oP 38 (.bslice (some 4)) [.t 31,.t 34,.t 37],
 oP 39 .call [.c (.pv none (.func (.func 31))),.t 38],
 oP 4 aZ [],
 ⟨none,(.store (some 4)),[.t 4,.t 39],none⟩]
def c9r4 : List AOper := [
 oP 41 .callp [.c (.pv none (.func (.func 25))),.c (.pv none (.int .i64 0))],
 oP 42 (.load (some 4)) [.t 4],
 oP 43 .callp [.c (.pv none (.func (.func 25))),.c (.pv none (.int .i64 1))],
 oP 44 (.bslicep (some 4)) [.t 41,.t 42,.t 43],
 oP 45 .callp [.c (.pv none (.func (.func 26))),.c (.pv none (.str [36,115,101,116])),.t 44],
 oP 46 .callp [.c (.pv none (.func (.func 13))),.t 45],
 oP 40 .mv [.t 46],
 oP 47 (.extract 0) [.t 40],
 oP 48 (.extract 1) [.t 40],
 oP 49 (.extract 2) [.t 40],
 oP 6 aZ [],
 oP 5 .mv [.t 47],
 ⟨none,(.store (some 4)),[.t 6,.t 48],none⟩,
 oP 7 .mv [.t 49]]
def c9r5 : List AOper := [
 oP 50 .mv [.t 3],
 oP 51 (.bin .neq) [.t 50,.c (.pv none (.int .i64 0))],
 oP 52 .mv [.t 51],
 ⟨some 53,.mv,[.t 2],some (52,false)⟩,
 ⟨some 54,.len,[.t 53],some (52,false)⟩,
 ⟨some 55,(.bin .neq),[.t 54,.c (.pv none (.int .i64 2))],some (52,false)⟩,
 oP 56 .pick [.t 52,.c (.pv none (.bool true)),.t 55],
 oP 57 .mv [.t 56],
 ⟨some 58,.mv,[.t 7],some (57,false)⟩,
 ⟨some 59,(.bin .neq),[.t 58,.c (.pv none (.int .i64 0))],some (57,false)⟩,
 oP 60 .pick [.t 57,.c (.pv none (.bool true)),.t 59],
 oP 61 .mv [.t 60],
 ⟨some 62,.mv,[.t 5],some (61,false)⟩,
 ⟨some 63,.len,[.t 62],some (61,false)⟩,
 ⟨some 64,(.bin .neq),[.t 63,.c (.pv none (.int .i64 1))],some (61,false)⟩,
 oP 65 .pick [.t 61,.c (.pv none (.bool true)),.t 64]]
def c9r6 : List AOper := [
 oP 0 .mv [.c (.pv none (.bool false))]]
def c9k7 : ACode := (.cond (.t 65) (.seq (.region true c9r6 [0]) .ret) .skip)
def c9r8 : List AOper := [
 oP 66 .mv [.t 2],
 oP 67 (.iaddr (some 4)) [.t 66,.c (.pv none (.int .i64 0))],
 oP 68 (.load (some 4)) [.t 67],
 oP 69 .callp [.c (.pv none (.func (.func 28))),.c (.pv none (.str [97]))],
 oP 70 .callp [.c (.pv none (.func (.func 30))),.c (.pv none (.int .i64 2))],
 oP 71 (.bslicep (some 4)) [.t 70],
 oP 72 .callp [.c (.pv none (.func (.func 31))),.t 71],
 oP 73 .callp [.c (.pv none (.func (.func 29))),.t 69,.t 72],
 oP 74 .callp [.c (.pv none (.func (.func 27))),.t 68,.t 73],
 oP 75 .mv [.t 74],
 ⟨some 76,.mv,[.t 2],some (75,true)⟩,
 ⟨some 77,(.iaddr (some 4)),[.t 76,.c (.pv none (.int .i64 1))],some (75,true)⟩,
 ⟨some 78,(.load (some 4)),[.t 77],some (75,true)⟩,
 ⟨some 79,.callp,[.c (.pv none (.func (.func 28))),.c (.pv none (.str [98]))],some (75,true)⟩,
 ⟨some 80,.callp,[.c (.pv none (.func (.func 30))),.c (.pv none (.int .i64 1))],some (75,true)⟩,
 ⟨some 81,.callp,[.c (.pv none (.func (.func 30))),.c (.pv none (.int .i64 3))],some (75,true)⟩,
 ⟨some 82,(.bslicep (some 4)),[.t 80,.t 81],some (75,true)⟩,
 ⟨some 83,.callp,[.c (.pv none (.func (.func 31))),.t 82],some (75,true)⟩,
 ⟨some 84,.callp,[.c (.pv none (.func (.func 29))),.t 79,.t 83],some (75,true)⟩,
 ⟨some 85,.callp,[.c (.pv none (.func (.func 27))),.t 78,.t 84],some (75,true)⟩,
 oP 86 .pick [.t 75,.t 85,.c (.pv none (.bool false))],
 oP 8 .mv [.t 86]]
def c9r9 : List AOper := [
 oP 87 .mv [.t 5],
 oP 88 (.iaddr (some 4)) [.t 87,.c (.pv none (.int .i64 0))],
 oP 89 (.load (some 4)) [.t 88],
 oP 90 .callp [.c (.pv none (.func (.func 28))),.c (.pv none (.str [97]))],
 oP 91 (.load (some 4)) [.t 4],
 oP 92 .callp [.c (.pv none (.func (.func 30))),.c (.pv none (.int .i64 1))],
 oP 93 .callp [.c (.pv none (.func (.func 30))),.c (.pv none (.int .i64 2))],
 oP 94 (.bslicep (some 4)) [.t 92,.t 93],
 oP 95 .callp [.c (.pv none (.func (.func 31))),.t 94],
 oP 96 (.bslicep (some 4)) [.t 90,.t 91,.t 95],
 oP 97 .callp [.c (.pv none (.func (.func 26))),.c (.pv none (.str [36,115,101,116])),.t 96],
 oP 98 .callp [.c (.pv none (.func (.func 27))),.t 89,.t 97],
 oP 9 .mv [.t 98]]
def c9r10 : List AOper := [
 oP 99 .mv [.t 8],
 oP 100 .mv [.t 99],
 ⟨some 101,.mv,[.t 9],some (100,true)⟩,
 oP 102 .pick [.t 100,.t 101,.c (.pv none (.bool false))],
 oP 103 .mv [.t 102],
 ⟨some 104,.callp,[.c (.pv none (.func (.func 25))),.c (.pv none (.int .i64 0))],some (103,true)⟩,
 ⟨some 105,.callp,[.c (.pv none (.func (.func 25))),.c (.pv none (.int .i64 1))],some (103,true)⟩,
 ⟨some 106,(.load (some 4)),[.t 1],some (103,true)⟩,
 ⟨some 107,(.bslicep (some 4)),[.t 105,.t 106],some (103,true)⟩,
 ⟨some 108,.callp,[.c (.pv none (.func (.func 26))),.c (.pv none (.str [94])),.t 107],some (103,true)⟩,
 ⟨some 109,.callp,[.c (.pv none (.func (.func 21))),.t 104,.t 108],some (103,true)⟩,
 ⟨some 110,.callp,[.c (.pv none (.func (.func 25))),.c (.pv none (.int .i64 2))],some (103,true)⟩,
 ⟨some 111,(.bslicep (some 4)),[.t 110],some (103,true)⟩,
 ⟨some 112,.callp,[.c (.pv none (.func (.func 31))),.t 111],some (103,true)⟩,
 ⟨some 113,.callp,[.c (.pv none (.func (.func 27))),.t 109,.t 112],some (103,true)⟩,
 oP 114 .pick [.t 103,.t 113,.c (.pv none (.bool false))],
 oP 0 .mv [.t 114]]
def c9 : ACode := (.seq (.region true c9r0 []) (.seq (.region true c9r1 [1]) (.seq (.region true c9r2 [1,2,3]) (.seq (.region true c9r3 [1,2,3,4]) (.seq (.seq (.settle [4]) (.region true c9r4 [1,2,3,4,5,7])) (.seq (.seq (.region true c9r5 [1,2,4,5,65]) c9k7) (.seq (.seq (.settle []) (.region true c9r8 [1,4,5,8])) (.seq (.seq (.settle [4]) (.region true c9r9 [1,8,9])) (.seq (.seq (.settle [1]) (.region true c9r10 [0])) .ret)))))))))
def g9 : AFn := ⟨0,[(0,none)],c9,false,[],[],none⟩
theorem tr9 : trFn Tryz.prog false 9 Tryz.f9 = some g9 := by kernel_rfl
def c10r0 : List AOper := [
 oP 2 (.nilsl (some 4)) [],
 oP 3 .mv [.c (.pv none (.int .i64 0))]]
def c10r1 : List AOper := [
 oP 14 .mv [.t 0],
 oP 15 .call [.c (.pv none (.func (.func 34))),.t 14],
 oP 13 .mv [.t 15],
 oP 16 (.extract 0) [.t 13],
 oP 17 (.extract 1) [.t 13],
 oP 4 .mv [.t 16],
 oP 3 .mv [.t 17]]
def c10r2 : List AOper := [
 oP 18 .mv [.t 3],
 oP 19 (.bin .neq) [.t 18,.c (.pv none (.int .i64 0))]]
def c10r3 : List AOper := [
 oP 20 .mv [.t 3],
 oP 2 (.nilsl (some 4)) [],
 oP 3 .mv [.t 20]]
def c10k4 : ACode := (.cond (.t 19) (.seq (.region true c10r3 [2,3]) .ret) .skip)
def c10r5 : List AOper := [
 oP 21 .mv [.t 4],
 oP 22 .len [.t 21],
 oP 23 (.bin .gtr) [.t 22,.c (.pv none (.int .i64 0))]]
def c10k6 : ACode := (.cond (.t 23) .skip (.exit 0))
def c10r7 : List AOper := [
 oP 24 .mv [.t 4],
 oP 25 (.iaddr (some 4)) [.t 24,.c (.pv none (.int .i64 0))],
 oP 26 (.faddr 3) [.t 25],
 oP 27 (.load none) [.t 26],
 oP 28 (.iaddr (some 4)) [.t 27,.c (.pv none (.int .i64 0))],
 oP 29 (.load (some 4)) [.t 28],
 oP 5 aZ [],
 ⟨none,(.store (some 4)),[.t 5,.t 29],none⟩]
def c10r8 : List AOper := [
 oP 30 (.mkfunc (.func 35) 0) [.t 5],
 oP 6 .mv [.t 30]]
def c10r9 : List AOper := [
 oP 7 (.nilsl (some 4)) [],
 oP 8 (.nilsl (some 4)) []]
def c10r10 : List AOper := [
 oP 31 .mv [.t 4],
 oP 32 .len [.t 31],
 oP 33 .mv [.c (.pv none (.int .i64 0))]]
def c10r11 : List AOper := [
 oP 34 (.bin .lss) [.t 33,.t 32]]
def c10k12 : ACode := (.cond (.t 34) .skip (.exit 2))
def c10r13 : List AOper := [
 oP 35 (.iaddr (some 4)) [.t 31,.t 33],
 oP 36 (.load (some 4)) [.t 35],
 oP 10 aZ [],
 ⟨none,(.store (some 4)),[.t 10,.t 36],none⟩]
def c10r14 : List AOper := [
 oP 37 .mv [.t 6],
 oP 38 (.load (some 4)) [.t 10],
 oP 39 .call [.t 37,.t 38]]
def c10r15 : List AOper := [
 oP 40 .mv [.t 7],
 oP 41 (.load (some 4)) [.t 10],
 oP 42 (.bslice (some 4)) [.t 41],
 oP 43 (.append (some 4)) [.t 40,.t 42],
 oP 7 .mv [.t 43]]
def c10r16 : List AOper := [
 oP 44 .mv [.t 8],
 oP 45 (.load (some 4)) [.t 10],
 oP 46 (.bslice (some 4)) [.t 45],
 oP 47 (.append (some 4)) [.t 44,.t 46],
 oP 8 .mv [.t 47]]
def c10k17 : ACode := (.cond (.t 39) (.region true c10r15 [2,6,7,8,31,32,33]) (.region true c10r16 [2,6,7,8,31,32,33]))
def c10k18 : ACode := (.block 3 (.seq (.region true c10r13 [2,6,7,8,10,31,32,33]) (.seq (.region true c10r14 [2,6,7,8,10,31,32,33,39]) c10k17)))
def c10r19 : List AOper := [
 oP 48 (.bin .add) [.t 33,.c (.pv none (.int .i64 1))],
 oP 33 .mv [.t 48]]
def c10b20 : ACode := (.seq (.region true c10r11 [2,6,7,8,31,32,33,34]) (.seq c10k12 (.seq c10k18 (.region true c10r19 [2,6,7,8,31,32,33]))))
def c10k21 : ACode := (.block 2 (.loop [2,6,7,8,31,32,33] c10b20))
def c10r22 : List AOper := [
 oP 50 .mv [.t 7],
 oP 51 .call [.c (.pv none (.func (.func 37))),.t 50],
 oP 49 .mv [.t 51],
 oP 52 (.extract 0) [.t 49],
 oP 53 (.extract 1) [.t 49],
 oP 11 aZ [],
 ⟨none,(.store (some 4)),[.t 11,.t 52],none⟩,
 oP 12 .mv [.t 53]]
def c10r23 : List AOper := [
 oP 54 .mv [.t 12],
 oP 55 (.bin .neq) [.t 54,.c (.pv none (.int .i64 0))]]
def c10r24 : List AOper := [
 oP 2 (.nilsl (some 4)) [],
 oP 3 .mv [.c (.pv none (.int .i64 2))]]
def c10k25 : ACode := (.cond (.t 55) (.seq (.region true c10r24 [2,3]) .ret) .skip)
def c10r26 : List AOper := [
 oP 56 .mv [.t 2],
 oP 57 (.load (some 4)) [.t 11],
 oP 58 .call [.c (.pv none (.func (.func 38))),.t 57],
 oP 59 (.bslice (some 4)) [.t 58],
 oP 60 (.append (some 4)) [.t 56,.t 59],
 oP 2 .mv [.t 60]]
def c10r27 : List AOper := [
 oP 61 .mv [.t 8],
 oP 4 .mv [.t 61]]
def c10k28 : ACode := (.block 1 (.seq (.region true c10r7 [2,4,5]) (.seq (.region true c10r8 [2,4,6]) (.seq (.region true c10r9 [2,4,6,7,8]) (.seq (.seq (.region true c10r10 [2,6,7,8,31,32,33]) c10k21) (.seq (.region true c10r22 [2,8,11,12]) (.seq (.seq (.region true c10r23 [2,8,11,55]) c10k25) (.seq (.region true c10r26 [2,8]) (.region true c10r27 [2,4])))))))))
def c10b29 : ACode := (.seq (.seq (.region true c10r5 [2,4,23]) c10k6) c10k28)
def c10k30 : ACode := (.block 0 (.loop [2,4] c10b29))
def c10r31 : List AOper := [
 oP 62 .mv [.t 2],
 oP 2 .mv [.t 62],
 oP 3 .mv [.c (.pv none (.int .i64 0))]]
def c10 : ACode := (.seq (.region true c10r0 [0,2]) (.seq (.region true c10r1 [2,3,4]) (.seq (.seq (.region true c10r2 [2,3,4,19]) c10k4) (.seq c10k30 (.seq (.region true c10r31 [2,3]) .ret)))))
def g10 : AFn := ⟨1,[(2,none),(3,none)],c10,false,[],[],none⟩
theorem tr10 : trFn Tryz.prog false 10 Tryz.f10 = some g10 := by kernel_rfl
def c12r0 : List AOper := [
 oP 4 .mv [.c (.pv none (.bool false))]]
def c12r1 : List AOper := [
 oP 6 .mv [.t 0],
 oP 7 .len [.t 6],
 oP 8 .mv [.t 1],
 oP 9 .len [.t 8],
 oP 10 (.bin .neq) [.t 7,.t 9]]
def c12r2 : List AOper := [
 oP 4 .mv [.c (.pv none (.bool false))]]
def c12k3 : ACode := (.cond (.t 10) (.seq (.region true c12r2 [4]) .ret) .skip)
def c12r4 : List AOper := [
 oP 5 .mv [.c (.pv none (.int .i64 0))]]
def c12r5 : List AOper := [
 oP 11 .mv [.t 5],
 oP 12 .mv [.t 0],
 oP 13 .len [.t 12],
 oP 14 (.bin .lss) [.t 11,.t 13]]
def c12k6 : ACode := (.cond (.t 14) .skip (.exit 0))
def c12r7 : List AOper := [
 oP 17 .mv [.t 0],
 oP 18 .mv [.t 5],
 oP 19 (.iaddr (some 4)) [.t 17,.t 18],
 oP 20 (.load (some 4)) [.t 19],
 oP 21 .mv [.t 1],
 oP 22 .mv [.t 5],
 oP 23 (.iaddr (some 4)) [.t 21,.t 22],
 oP 24 (.load (some 4)) [.t 23],
 oP 25 .call [.c (.pv none (.func (.func 27))),.t 20,.t 24],
 oP 26 .not [.t 25]]
def c12r8 : List AOper := [
 oP 4 .mv [.c (.pv none (.bool false))]]
def c12k9 : ACode := (.cond (.t 26) (.seq (.region true c12r8 [4]) .ret) .skip)
def c12k10 : ACode := (.block 1 (.seq (.region true c12r7 [0,1,5,26]) c12k9))
def c12r11 : List AOper := [
 oP 15 .mv [.t 5],
 oP 16 (.bin .add) [.t 15,.c (.pv none (.int .i64 1))],
 oP 5 .mv [.t 16]]
def c12b12 : ACode := (.seq (.seq (.region true c12r5 [0,1,5,14]) c12k6) (.seq c12k10 (.region true c12r11 [0,1,5])))
def c12k13 : ACode := (.block 0 (.loop [0,1,5] c12b12))
def c12r14 : List AOper := [
 oP 4 .mv [.c (.pv none (.bool true))]]
def c12 : ACode := (.seq (.region true c12r0 [0,1]) (.seq (.seq (.region true c12r1 [0,1,10]) c12k3) (.seq (.seq (.region true c12r4 [0,1,5]) c12k13) (.seq (.region true c12r14 [4]) .ret))))
def g12 : AFn := ⟨2,[(4,none)],c12,false,[],[],none⟩
theorem tr12 : trFn Tryz.prog false 12 Tryz.f12 = some g12 := by kernel_rfl
def c13r0 : List AOper := [
 oP 1 (.box (some 4)) [.t 0],
 oP 2 (.nilsl (some 4)) [],
 oP 3 aZ [],
 oP 4 .mv [.c (.pv none (.int .i64 0))]]
def c13r1 : List AOper := [
 oP 15 (.load (some 4)) [.t 1],
 oP 16 .callp [.c (.pv none (.func (.func 45))),.t 15],
 oP 17 .not [.t 16],
 oP 18 .mv [.t 17],
 ⟨some 19,(.load (some 4)),[.t 1],some (18,false)⟩,
 ⟨some 20,(.load (some 4)),[.t 1],some (18,false)⟩,
 ⟨some 21,.callp,[.c (.pv none (.func (.func 47))),.t 20],some (18,false)⟩,
 ⟨some 22,.callp,[.c (.pv none (.func (.func 46))),.t 19,.t 21],some (18,false)⟩,
 ⟨some 23,.not,[.t 22],some (18,false)⟩,
 oP 24 .pick [.t 18,.c (.pv none (.bool true)),.t 23]]
def c13r2 : List AOper := [
 oP 25 (bZ []) [],
 oP 2 (.nilsl (some 4)) [],
 ⟨none,(.store (some 4)),[.t 3,.t 25],none⟩,
 oP 4 .mv [.c (.pv none (.int .i64 1))]]
def c13k3 : ACode := (.cond (.t 24) (.seq (.region true c13r2 [2,3,4]) .ret) .skip)
def c13r4 : List AOper := [
 oP 26 (.faddr 0) [.t 1],
 oP 27 (.load none) [.t 26],
 oP 28 (.bin .neq) [.t 27,.c (.pv none (.int .i64 3))],
 oP 29 .mv [.t 28],
 ⟨some 30,(.faddr 2),[.t 1],some (29,false)⟩,
 ⟨some 31,(.load none),[.t 30],some (29,false)⟩,
 ⟨some 32,(.faddr 3),[.t 1],some (29,false)⟩,
 ⟨some 33,(.load none),[.t 32],some (29,false)⟩,
 ⟨some 34,.len,[.t 33],some (29,false)⟩,
 ⟨some 35,.call,[.c (.pv none (.func (.func 16))),.t 31,.t 34],some (29,false)⟩,
 ⟨some 36,.not,[.t 35],some (29,false)⟩,
 oP 37 .pick [.t 29,.c (.pv none (.bool true)),.t 36]]
def c13r5 : List AOper := [
 oP 38 (bZ []) [],
 oP 2 (.nilsl (some 4)) [],
 ⟨none,(.store (some 4)),[.t 3,.t 38],none⟩,
 oP 4 .mv [.c (.pv none (.int .i64 4))]]
def c13k6 : ACode := (.cond (.t 37) (.seq (.region true c13r5 [2,3,4]) .ret) .skip)
def c13r7 : List AOper := [
 oP 40 (.faddr 3) [.t 1],
 oP 41 (.load none) [.t 40],
 oP 42 (.iaddr (some 4)) [.t 41,.c (.pv none (.int .i64 1))],
 oP 43 (.load (some 4)) [.t 42],
 oP 44 .call [.c (.pv none (.func (.func 48))),.t 43],
 oP 39 .mv [.t 44],
 oP 45 (.extract 0) [.t 39],
 oP 46 (.extract 1) [.t 39],
 oP 47 (.extract 2) [.t 39],
 oP 5 .mv [.t 45],
 ⟨none,(.store (some 4)),[.t 3,.t 46],none⟩,
 oP 6 .mv [.t 47]]
def c13r8 : List AOper := [
 oP 48 .mv [.t 6],
 oP 49 .not [.t 48]]
def c13r9 : List AOper := [
 oP 50 (.load (some 4)) [.t 3],
 oP 2 (.nilsl (some 4)) [],
 ⟨none,(.store (some 4)),[.t 3,.t 50],none⟩,
 oP 4 .mv [.c (.pv none (.int .i64 8))]]
def c13k10 : ACode := (.cond (.t 49) (.seq (.region true c13r9 [2,3,4]) .ret) .skip)
def c13r11 : List AOper := [
 oP 52 .mv [.t 5],
 oP 53 .call [.c (.pv none (.func (.func 10))),.t 52],
 oP 51 .mv [.t 53],
 oP 54 (.extract 0) [.t 51],
 oP 55 (.extract 1) [.t 51],
 oP 7 .mv [.t 54],
 oP 4 .mv [.t 55]]
def c13r12 : List AOper := [
 oP 56 .mv [.t 4],
 oP 57 (.bin .neq) [.t 56,.c (.pv none (.int .i64 0))]]
def c13r13 : List AOper := [
 oP 58 (bZ []) [],
 oP 59 .mv [.t 4],
 oP 2 (.nilsl (some 4)) [],
 ⟨none,(.store (some 4)),[.t 3,.t 58],none⟩,
 oP 4 .mv [.t 59]]
def c13k14 : ACode := (.cond (.t 57) (.seq (.region true c13r13 [2,3,4]) .ret) .skip)
def c13r15 : List AOper := [
 oP 60 .call [.c (.pv none (.func (.func 49)))],
 oP 61 .len [.t 60],
 oP 62 .mv [.c (.pv none (.int .i64 0))]]
def c13r16 : List AOper := [
 oP 63 (.bin .lss) [.t 62,.t 61]]
def c13k17 : ACode := (.cond (.t 63) .skip (.exit 0))
def c13r18 : List AOper := [
 oP 64 (.iaddr (some 2)) [.t 60,.t 62],
 oP 65 (.load (some 2)) [.t 64],
 oP 9 (.alloc (some 2) (.pv (some 2) (.agg [(none,(.str [])),(none,.nilfunc)]))) [],
 ⟨none,(.store (some 2)),[.t 9,.t 65],none⟩]
def c13r19 : List AOper := [
 oP 66 (.faddr 0) [.t 9],
 oP 67 (.load none) [.t 66],
 oP 68 (.faddr 2) [.t 1],
 oP 69 (.load none) [.t 68],
 oP 70 (.bin .neq) [.t 67,.t 69]]
def c13k20 : ACode := (.cond (.t 70) (.exit 1) .skip)
def c13r21 : List AOper := [
 oP 71 .mv [.t 7],
 oP 72 .len [.t 71],
 oP 73 .mv [.c (.pv none (.int .i64 0))]]
def c13r22 : List AOper := [
 oP 74 (.bin .lss) [.t 73,.t 72]]
def c13k23 : ACode := (.cond (.t 74) .skip (.exit 2))
def c13r24 : List AOper := [
 oP 75 (.iaddr (some 4)) [.t 71,.t 73],
 oP 76 (.load (some 4)) [.t 75],
 oP 11 aZ [],
 ⟨none,(.store (some 4)),[.t 11,.t 76],none⟩]
def c13r25 : List AOper := [
 oP 78 (.faddr 3) [.t 11],
 oP 79 (.load none) [.t 78],
 oP 80 (.iaddr (some 4)) [.t 79,.c (.pv none (.int .i64 1))],
 oP 81 (.load (some 4)) [.t 80],
 oP 82 .call [.c (.pv none (.func (.func 50))),.t 81],
 oP 77 .mv [.t 82],
 oP 83 (.extract 0) [.t 77],
 oP 84 (.extract 1) [.t 77],
 oP 13 aZ [],
 oP 12 .mv [.t 83],
 ⟨none,(.store (some 4)),[.t 13,.t 84],none⟩]
def c13r26 : List AOper := [
 oP 85 (.faddr 2) [.t 1],
 oP 86 (.load none) [.t 85],
 oP 87 (.faddr 3) [.t 11],
 oP 88 (.load none) [.t 87],
 oP 89 (.iaddr (some 4)) [.t 88,.c (.pv none (.int .i64 0))],
 oP 90 (.load (some 4)) [.t 89],
 oP 91 (.faddr 3) [.t 1],
 oP 92 (.load none) [.t 91],
 oP 93 (.iaddr (some 4)) [.t 92,.c (.pv none (.int .i64 1))],
 oP 94 (.load (some 4)) [.t 93],
 oP 95 (.faddr 1) [.t 9],
 oP 96 (.load none) [.t 95],
 oP 97 .mv [.t 12],
 oP 98 .callp [.t 96,.t 97],
 oP 99 .callp [.c (.pv none (.func (.func 52))),.t 98],
 oP 100 (.bslicep (some 4)) [.t 90,.t 94,.t 99],
 oP 101 .callp [.c (.pv none (.func (.func 51))),.t 86,.t 100],
 oP 14 aZ [],
 ⟨none,(.store (some 4)),[.t 14,.t 101],none⟩]
def c13r27 : List AOper := [
 oP 102 (.load (some 4)) [.t 14],
 oP 103 .call [.c (.pv none (.func (.func 45))),.t 102],
 oP 104 .not [.t 103]]
def c13r28 : List AOper := [
 oP 105 (bZ []) [],
 oP 2 (.nilsl (some 4)) [],
 ⟨none,(.store (some 4)),[.t 3,.t 105],none⟩,
 oP 4 .mv [.c (.pv none (.int .i64 2))]]
def c13k29 : ACode := (.cond (.t 104) (.seq (.region true c13r28 [2,3,4]) .ret) .skip)
def c13r30 : List AOper := [
 oP 106 .mv [.t 2],
 oP 107 (.load (some 4)) [.t 14],
 oP 108 .call [.c (.pv none (.func (.func 38))),.t 107],
 oP 109 (.bslice (some 4)) [.t 108],
 oP 110 (.append (some 4)) [.t 106,.t 109],
 oP 2 .mv [.t 110]]
def c13k31 : ACode := (.block 3 (.seq (.region true c13r24 [1,2,3,7,9,11,60,61,62,71,72,73]) (.seq (.region true c13r25 [1,2,3,7,9,11,12,60,61,62,71,72,73]) (.seq (.seq (.settle [12]) (.region true c13r26 [1,2,3,7,9,14,60,61,62,71,72,73])) (.seq (.seq (.region true c13r27 [1,2,3,7,9,14,60,61,62,71,72,73,104]) c13k29) (.region true c13r30 [1,2,3,7,9,60,61,62,71,72,73]))))))
def c13r32 : List AOper := [
 oP 111 (.bin .add) [.t 73,.c (.pv none (.int .i64 1))],
 oP 73 .mv [.t 111]]
def c13b33 : ACode := (.seq (.region true c13r22 [1,2,3,7,9,60,61,62,71,72,73,74]) (.seq c13k23 (.seq c13k31 (.region true c13r32 [1,2,3,7,9,60,61,62,71,72,73]))))
def c13k34 : ACode := (.block 2 (.loop [1,2,3,7,9,60,61,62,71,72,73] c13b33))
def c13k35 : ACode := (.block 1 (.seq (.region true c13r18 [1,2,3,7,9,60,61,62]) (.seq (.seq (.region true c13r19 [1,2,3,7,9,60,61,62,70]) c13k20) (.seq (.region true c13r21 [1,2,3,7,9,60,61,62,71,72,73]) c13k34))))
def c13r36 : List AOper := [
 oP 112 (.bin .add) [.t 62,.c (.pv none (.int .i64 1))],
 oP 62 .mv [.t 112]]
def c13b37 : ACode := (.seq (.region true c13r16 [1,2,3,7,60,61,62,63]) (.seq c13k17 (.seq c13k35 (.region true c13r36 [1,2,3,7,60,61,62]))))
def c13k38 : ACode := (.block 0 (.loop [1,2,3,7,60,61,62] c13b37))
def c13r39 : List AOper := [
 oP 113 .mv [.t 2],
 oP 114 (bZ []) [],
 oP 2 .mv [.t 113],
 ⟨none,(.store (some 4)),[.t 3,.t 114],none⟩,
 oP 4 .mv [.c (.pv none (.int .i64 0))]]
def c13 : ACode := (.seq (.region true c13r0 [1,2,3]) (.seq (.seq (.seq (.settle [1]) (.region true c13r1 [1,2,3,24])) c13k3) (.seq (.seq (.region true c13r4 [1,2,3,37]) c13k6) (.seq (.region true c13r7 [1,2,3,5,6]) (.seq (.seq (.region true c13r8 [1,2,3,5,49]) c13k10) (.seq (.region true c13r11 [1,2,3,4,7]) (.seq (.seq (.region true c13r12 [1,2,3,4,7,57]) c13k14) (.seq (.seq (.region true c13r15 [1,2,3,7,60,61,62]) c13k38) (.seq (.region true c13r39 [2,3,4]) .ret)))))))))
def g13 : AFn := ⟨1,[(2,none),(3,some (some 4)),(4,none)],c13,false,[],[],none⟩
theorem tr13 : trFn Tryz.prog false 13 Tryz.f13 = some g13 := by kernel_rfl
def c15r0 : List AOper := [
 oP 2 (.box (some 4)) [.t 0],
 oP 3 (.box (some 4)) [.t 1],
 oP 4 .mv [.c (.pv none (.bool false))]]
def c15r1 : List AOper := [
 oP 5 (.load (some 4)) [.t 2],
 oP 6 (.load (some 4)) [.t 3],
 oP 7 .call [.c (.pv none (.func (.func 27))),.t 5,.t 6],
 oP 4 .mv [.t 7]]
def c15 : ACode := (.seq (.region true c15r0 [2,3]) (.seq (.region true c15r1 [4]) .ret))
def g15 : AFn := ⟨2,[(4,none)],c15,false,[],[],none⟩
theorem tr15 : trFn Tryz.prog false 15 Tryz.f15 = some g15 := by kernel_rfl
def c16r0 : List AOper := [
 oP 4 .mv [.c (.pv none (.bool false))]]
def c16r1 : List AOper := [
 oP 5 .mv [.t 1],
 oP 6 (.bin .eql) [.t 5,.c (.pv none (.int .i64 3))],
 oP 7 .mv [.t 6],
 ⟨some 8,.mv,[.t 0],some (7,true)⟩,
 ⟨some 9,(.bin .eql),[.t 8,.c (.pv none (.str [36,98,97,103]))],some (7,true)⟩,
 ⟨some 10,.mv,[.t 9],some (7,true)⟩,
 ⟨some 11,.mv,[.t 0],some (10,false)⟩,
 ⟨some 12,(.bin .eql),[.t 11,.c (.pv none (.str [36,115,101,116]))],some (10,false)⟩,
 ⟨some 13,.pick,[.t 10,.c (.pv none (.bool true)),.t 12],some (7,true)⟩,
 oP 14 .pick [.t 7,.t 13,.c (.pv none (.bool false))],
 oP 4 .mv [.t 14]]
def c16 : ACode := (.seq (.region true c16r0 [0,1]) (.seq (.region true c16r1 [4]) .ret))
def g16 : AFn := ⟨2,[(4,none)],c16,false,[],[],none⟩
theorem tr16 : trFn Tryz.prog false 16 Tryz.f16 = some g16 := by kernel_rfl
def c18r0 : List AOper := [
 oP 2 (.nilsl (some 4)) [],
 oP 3 .mv [.c (.pv none (.int .i64 0))]]
def c18r1 : List AOper := [
 oP 7 .mv [.t 0],
 oP 8 .call [.c (.pv none (.func (.func 59))),.t 7],
 oP 9 .not [.t 8]]
def c18r2 : List AOper := [
 oP 2 (.nilsl (some 4)) [],
 oP 3 .mv [.c (.pv none (.int .i64 1))]]
def c18k3 : ACode := (.cond (.t 9) (.seq (.region true c18r2 [2,3]) .ret) .skip)
def c18r4 : List AOper := [
 oP 4 .mv [.c (.pv none (.int .i64 0))]]
def c18r5 : List AOper := [
 oP 10 .mv [.t 4],
 oP 11 .mv [.t 0],
 oP 12 .len [.t 11],
 oP 13 (.bin .lss) [.t 10,.t 12]]
def c18k6 : ACode := (.cond (.t 13) .skip (.exit 0))
def c18r7 : List AOper := [
 oP 16 .mv [.t 0],
 oP 17 .mv [.t 4],
 oP 18 (.iaddr (some 4)) [.t 16,.t 17],
 oP 19 (.load (some 4)) [.t 18],
 oP 20 .call [.c (.pv none (.func (.func 55))),.t 19],
 oP 21 .not [.t 20]]
def c18r8 : List AOper := [
 oP 2 (.nilsl (some 4)) [],
 oP 3 .mv [.c (.pv none (.int .i64 3))]]
def c18k9 : ACode := (.cond (.t 21) (.seq (.region true c18r8 [2,3]) .ret) .skip)
def c18k10 : ACode := (.block 1 (.seq (.region true c18r7 [0,4,21]) c18k9))
def c18r11 : List AOper := [
 oP 14 .mv [.t 4],
 oP 15 (.bin .add) [.t 14,.c (.pv none (.int .i64 1))],
 oP 4 .mv [.t 15]]
def c18b12 : ACode := (.seq (.seq (.region true c18r5 [0,4,13]) c18k6) (.seq c18k10 (.region true c18r11 [0,4])))
def c18k13 : ACode := (.block 0 (.loop [0,4] c18b12))
def c18r14 : List AOper := [
 oP 5 (.nilsl (some 4)) []]
def c18r15 : List AOper := [
 oP 6 .mv [.c (.pv none (.int .i64 0))]]
def c18r16 : List AOper := [
 oP 22 .mv [.t 6],
 oP 23 .mv [.t 0],
 oP 24 .len [.t 23],
 oP 25 (.bin .lss) [.t 22,.t 24]]
def c18k17 : ACode := (.cond (.t 25) .skip (.exit 2))
def c18r18 : List AOper := [
 oP 28 .mv [.t 5],
 oP 29 .mv [.t 0],
 oP 30 .mv [.t 6],
 oP 31 (.iaddr (some 4)) [.t 29,.t 30],
 oP 32 (.load (some 4)) [.t 31],
 oP 33 .call [.c (.pv none (.func (.func 60))),.t 28,.t 32,.c (.pv none (.bool true))],
 oP 5 .mv [.t 33]]
def c18k19 : ACode := (.block 3 (.region true c18r18 [0,5,6]))
def c18r20 : List AOper := [
 oP 26 .mv [.t 6],
 oP 27 (.bin .add) [.t 26,.c (.pv none (.int .i64 1))],
 oP 6 .mv [.t 27]]
def c18b21 : ACode := (.seq (.seq (.region true c18r16 [0,5,6,25]) c18k17) (.seq c18k19 (.region true c18r20 [0,5,6])))
def c18k22 : ACode := (.block 2 (.loop [0,5,6] c18b21))
def c18r23 : List AOper := [
 oP 34 .mv [.t 5],
 oP 2 .mv [.t 34],
 oP 3 .mv [.c (.pv none (.int .i64 0))]]
def c18 : ACode := (.seq (.region true c18r0 [0]) (.seq (.seq (.region true c18r1 [0,9]) c18k3) (.seq (.seq (.region true c18r4 [0,4]) c18k13) (.seq (.region true c18r14 [0,5]) (.seq (.seq (.region true c18r15 [0,5,6]) c18k22) (.seq (.region true c18r23 [2,3]) .ret))))))
def g18 : AFn := ⟨1,[(2,none),(3,none)],c18,false,[],[],none⟩
theorem tr18 : trFn Tryz.prog false 18 Tryz.f18 = some g18 := by kernel_rfl
def c19r0 : List AOper := [
 oP 1 (.box (some 4)) [.t 0],
 oP 2 aZ []]
def c19r1 : List AOper := [
 oP 3 (.load (some 4)) [.t 1],
 oP 4 .call [.c (.pv none (.func (.func 45))),.t 3],
 oP 5 .not [.t 4]]
def c19r2 : List AOper := [
 oP 6 (bZ []) [],
 ⟨none,(.store (some 4)),[.t 2,.t 6],none⟩]
def c19k3 : ACode := (.cond (.t 5) (.seq (.region true c19r2 [2]) .ret) .skip)
def c19r4 : List AOper := [
 oP 7 (.load (some 4)) [.t 1],
 oP 8 .call [.c (.pv none (.func (.func 61))),.t 7],
 oP 9 .call [.c (.pv none (.func (.func 38))),.t 8],
 ⟨none,(.store (some 4)),[.t 2,.t 9],none⟩]
def c19 : ACode := (.seq (.region true c19r0 [1,2]) (.seq (.seq (.region true c19r1 [1,2,5]) c19k3) (.seq (.region true c19r4 [2]) .ret)))
def g19 : AFn := ⟨1,[(2,some (some 4))],c19,false,[],[],none⟩
theorem tr19 : trFn Tryz.prog false 19 Tryz.f19 = some g19 := by kernel_rfl
def c20r0 : List AOper := [
 oP 1 (.box (some 4)) [.t 0],
 oP 2 aZ []]
def c20r1 : List AOper := [
 oP 3 (.load (some 4)) [.t 1],
 oP 4 .call [.c (.pv none (.func (.func 43))),.t 3],
 oP 5 .not [.t 4]]
def c20r2 : List AOper := [
 oP 6 (bZ []) [],
 ⟨none,(.store (some 4)),[.t 2,.t 6],none⟩]
def c20k3 : ACode := (.cond (.t 5) (.seq (.region true c20r2 [2]) .ret) .skip)
def c20r4 : List AOper := [
 oP 7 (.load (some 4)) [.t 1],
 oP 8 .call [.c (.pv none (.func (.func 62))),.t 7],
 oP 9 .call [.c (.pv none (.func (.func 58))),.t 8],
 ⟨none,(.store (some 4)),[.t 2,.t 9],none⟩]
def c20 : ACode := (.seq (.region true c20r0 [1,2]) (.seq (.seq (.region true c20r1 [1,2,5]) c20k3) (.seq (.region true c20r4 [2]) .ret)))
def g20 : AFn := ⟨1,[(2,some (some 4))],c20,false,[],[],none⟩
theorem tr20 : trFn Tryz.prog false 20 Tryz.f20 = some g20 := by kernel_rfl
def c21r0 : List AOper := [
 oP 2 (.box (some 4)) [.t 0],
 oP 3 (.box (some 4)) [.t 1],
 oP 4 aZ []]
def c21r1 : List AOper := [
 oP 11 (.load (some 4)) [.t 2],
 oP 12 .call [.c (.pv none (.func (.func 45))),.t 11],
 oP 13 .not [.t 12],
 oP 14 .mv [.t 13],
 ⟨some 15,(.load (some 4)),[.t 3],some (14,false)⟩,
 ⟨some 16,.call,[.c (.pv none (.func (.func 45))),.t 15],some (14,false)⟩,
 ⟨some 17,.not,[.t 16],some (14,false)⟩,
 oP 18 .pick [.t 14,.c (.pv none (.bool true)),.t 17]]
def c21r2 : List AOper := [
 oP 19 (bZ []) [],
 ⟨none,(.store (some 4)),[.t 4,.t 19],none⟩]
def c21k3 : ACode := (.cond (.t 18) (.seq (.region true c21r2 [4]) .ret) .skip)
def c21r4 : List AOper := [
 oP 20 (.mkmap none) [],
 oP 5 (.alloc none (.pv none .nilmap)) [],
 ⟨none,(.store none),[.t 5,.t 20],none⟩]
def c21r5 : List AOper := [
 oP 21 (.mkfunc (.func 63) 0) [.t 5],
 oP 6 (.alloc none (.pv none .nilfunc)) [],
 ⟨none,(.store none),[.t 6,.t 21],none⟩]
def c21r6 : List AOper := [
 oP 22 (.load none) [.t 6],
 oP 23 (.load (some 4)) [.t 2],
 oP 24 .call [.t 22,.t 23]]
def c21r7 : List AOper := [
 oP 25 (.load (some 4)) [.t 3],
 oP 26 .call [.c (.pv none (.func (.func 65))),.t 25]]
def c21r8 : List AOper := [
 oP 8 (.nilsl (some 4)) []]
def c21r9 : List AOper := [
 oP 32 (.load (some 4)) [.t 3],
 oP 33 .call [.c (.pv none (.func (.func 64))),.t 32],
 oP 34 .len [.t 33],
 oP 35 .mv [.c (.pv none (.int .i64 0))]]
def c21r10 : List AOper := [
 oP 36 (.bin .lss) [.t 35,.t 34]]
def c21k11 : ACode := (.cond (.t 36) .skip (.exit 2))
def c21r12 : List AOper := [
 oP 37 (.iaddr none) [.t 33,.t 35],
 oP 38 (.load none) [.t 37],
 oP 10 .mv [.t 38]]
def c21r13 : List AOper := [
 oP 39 (.load none) [.t 5],
 oP 40 .mv [.t 10],
 oP 41 (.lookup false none (.pv none (.bool false)) false) [.t 39,.t 40],
 oP 42 .not [.t 41]]
def c21r14 : List AOper := [
 oP 43 .mv [.t 8],
 oP 44 .mv [.t 10],
 oP 45 .call [.c (.pv none (.func (.func 25))),.t 44],
 oP 46 (.bslice (some 4)) [.t 45],
 oP 47 (.append (some 4)) [.t 43,.t 46],
 oP 8 .mv [.t 47]]
def c21k15 : ACode := (.cond (.t 42) (.region true c21r14 [4,5,8,33,34,35]) .skip)
def c21k16 : ACode := (.block 3 (.seq (.region true c21r12 [4,5,8,10,33,34,35]) (.seq (.region true c21r13 [4,5,8,10,33,34,35,42]) c21k15)))
def c21r17 : List AOper := [
 oP 48 (.bin .add) [.t 35,.c (.pv none (.int .i64 1))],
 oP 35 .mv [.t 48]]
def c21b18 : ACode := (.seq (.region true c21r10 [4,5,8,33,34,35,36]) (.seq c21k11 (.seq c21k16 (.region true c21r17 [4,5,8,33,34,35]))))
def c21k19 : ACode := (.block 2 (.loop [4,5,8,33,34,35] c21b18))
def c21r20 : List AOper := [
 oP 49 .mv [.t 8],
 oP 50 .call [.c (.pv none (.func (.func 52))),.t 49],
 ⟨none,(.store (some 4)),[.t 4,.t 50],none⟩]
def c21r21 : List AOper := [
 oP 51 (.load (some 4)) [.t 4],
 oP 52 .call [.c (.pv none (.func (.func 45))),.t 51],
 oP 53 .not [.t 52]]
def c21r22 : List AOper := [
 oP 54 (bZ []) [],
 ⟨none,(.store (some 4)),[.t 4,.t 54],none⟩]
def c21k23 : ACode := (.cond (.t 53) (.seq (.region true c21r22 [4]) .ret) .skip)
def c21r24 : List AOper := [
 oP 55 (.load (some 4)) [.t 4],
 ⟨none,(.store (some 4)),[.t 4,.t 55],none⟩]
def c21p25 : ACode := (.seq (.region true c21r8 [3,4,5,8]) (.seq (.region true c21r9 [4,5,8,33,34,35]) (.seq c21k19 (.seq (.region true c21r20 [4]) (.seq (.region true c21r21 [4,53]) (.seq c21k23 (.seq (.region true c21r24 [4]) (.seq .ret .skip))))))))
def c21r26 : List AOper := [
 oP 7 aZ [],
 ⟨none,(.store (some 4)),[.t 7,.t 27],none⟩]
def c21r27 : List AOper := [
 oP 29 (.load none) [.t 6],
 oP 30 (.load (some 4)) [.t 7],
 oP 31 .call [.t 29,.t 30]]
def c21k28 : ACode := (.block 1 (.region true c21r27 []))
def c21q29 : ACode := c21k28
def c21 : ACode := (.seq (.region true c21r0 [2,3,4]) (.seq (.region true c21r1 [2,3,4,18]) (.seq c21k3 (.seq (.region true c21r4 [2,3,4,5]) (.seq (.region true c21r5 [2,3,4,5,6]) (.seq (.region true c21r6 [3,4,5,6]) (.seq (.region true c21r7 [3,4,5,6,26]) .skip)))))))
def g21 : AFn := ⟨2,[(4,some (some 4))],c21,false,[(.range 21 (.t 26) [27,28] [6],c21p25)],[⟨[27,28],(.region true c21r26 [6,7]),c21q29⟩],none⟩
theorem tr21 : trFn Tryz.prog false 21 Tryz.f21 = some g21 := by kernel_rfl
def c22r0 : List AOper := [
 oP 2 (.box (some 4)) [.t 0],
 oP 3 (.box (some 4)) [.t 1],
 oP 4 aZ []]
def c22r1 : List AOper := [
 oP 5 (.load (some 4)) [.t 2],
 oP 6 .call [.c (.pv none (.func (.func 43))),.t 5],
 oP 7 .not [.t 6],
 oP 8 .mv [.t 7],
 ⟨some 9,(.load (some 4)),[.t 3],some (8,false)⟩,
 ⟨some 10,.call,[.c (.pv none (.func (.func 43))),.t 9],some (8,false)⟩,
 ⟨some 11,.not,[.t 10],some (8,false)⟩,
 oP 12 .pick [.t 8,.c (.pv none (.bool true)),.t 11]]
def c22r2 : List AOper := [
 oP 13 (bZ []) [],
 ⟨none,(.store (some 4)),[.t 4,.t 13],none⟩]
def c22k3 : ACode := (.cond (.t 12) (.seq (.region true c22r2 [4]) .ret) .skip)
def c22r4 : List AOper := [
 oP 14 (.load (some 4)) [.t 2],
 oP 15 (.load (some 4)) [.t 3],
 oP 16 .call [.c (.pv none (.func (.func 66))),.t 14,.t 15],
 oP 17 .call [.c (.pv none (.func (.func 42))),.t 16],
 oP 18 .call [.c (.pv none (.func (.func 58))),.t 17],
 ⟨none,(.store (some 4)),[.t 4,.t 18],none⟩]
def c22 : ACode := (.seq (.region true c22r0 [2,3,4]) (.seq (.seq (.region true c22r1 [2,3,4,12]) c22k3) (.seq (.region true c22r4 [4]) .ret)))
def g22 : AFn := ⟨2,[(4,some (some 4))],c22,false,[],[],none⟩
theorem tr22 : trFn Tryz.prog false 22 Tryz.f22 = some g22 := by kernel_rfl
def c23r0 : List AOper := [
 oP 1 (.box (some 4)) [.t 0],
 oP 2 aZ [],
 oP 3 aZ [],
 oP 4 .mv [.c (.pv none (.int .i64 0))]]
def c23r1 : List AOper := [
 oP 14 (.load (some 4)) [.t 1],
 oP 15 .call [.c (.pv none (.func (.func 45))),.t 14],
 oP 16 .not [.t 15]]
def c23r2 : List AOper := [
 oP 17 (bZ []) [],
 oP 18 (bZ []) [],
 ⟨none,(.store (some 4)),[.t 2,.t 17],none⟩,
 ⟨none,(.store (some 4)),[.t 3,.t 18],none⟩,
 oP 4 .mv [.c (.pv none (.int .i64 1))]]
def c23k3 : ACode := (.cond (.t 16) (.seq (.region true c23r2 [2,3,4]) .ret) .skip)
def c23r4 : List AOper := [
 oP 5 .mv [.c (.pv none (.str [36,98,97,103]))]]
def c23r5 : List AOper := [
 oP 20 (.load (some 4)) [.t 1],
 oP 21 .call [.c (.pv none (.func (.func 67))),.t 20,.c (.pv none (.str [115,101,116,111,102])),.c (.pv none (.int .i64 3))],
 oP 19 .mv [.t 21]]
def c23r6 : List AOper := [
 oP 5 .mv [.c (.pv none (.str [36,115,101,116]))]]
def c23r7 : List AOper := [
 oP 23 (.load (some 4)) [.t 1],
 oP 24 .call [.c (.pv none (.func (.func 67))),.t 23,.c (.pv none (.str [98,97,103,111,102])),.c (.pv none (.int .i64 3))],
 oP 25 .not [.t 24],
 oP 22 .mv [.t 25]]
def c23r8 : List AOper := [
 oP 26 (bZ []) [],
 oP 27 (bZ []) [],
 ⟨none,(.store (some 4)),[.t 2,.t 26],none⟩,
 ⟨none,(.store (some 4)),[.t 3,.t 27],none⟩,
 oP 4 .mv [.c (.pv none (.int .i64 4))]]
def c23k9 : ACode := (.cond (.t 22) (.seq (.region true c23r8 [2,3,4]) .ret) .skip)
def c23k10 : ACode := (.cond (.t 19) (.region true c23r6 [1,2,3,5]) (.seq (.region true c23r7 [1,2,3,5,22]) c23k9))
def c23k11 : ACode := (.block 0 (.seq (.region true c23r5 [1,2,3,5,19]) c23k10))
def c23r12 : List AOper := [
 oP 28 (.faddr 3) [.t 1],
 oP 29 (.load none) [.t 28],
 oP 30 (.iaddr (some 4)) [.t 29,.c (.pv none (.int .i64 0))],
 oP 31 (.load (some 4)) [.t 30],
 oP 32 (.faddr 3) [.t 1],
 oP 33 (.load none) [.t 32],
 oP 34 (.iaddr (some 4)) [.t 33,.c (.pv none (.int .i64 1))],
 oP 35 (.load (some 4)) [.t 34],
 oP 36 (.faddr 3) [.t 1],
 oP 37 (.load none) [.t 36],
 oP 38 (.iaddr (some 4)) [.t 37,.c (.pv none (.int .i64 2))],
 oP 39 (.load (some 4)) [.t 38],
 oP 6 aZ [],
 oP 7 aZ [],
 oP 8 aZ [],
 ⟨none,(.storen (some 4)),[.t 6,.t 31,.t 32,.t 34,.t 36,.t 38],none⟩,
 ⟨none,(.storen (some 4)),[.t 7,.t 35,.t 36,.t 38],none⟩,
 ⟨none,(.store (some 4)),[.t 8,.t 39],none⟩]
def c23r13 : List AOper := [
 oP 40 (.load (some 4)) [.t 7],
 oP 41 .call [.c (.pv none (.func (.func 61))),.t 40],
 oP 9 aZ [],
 ⟨none,(.store (some 4)),[.t 9,.t 41],none⟩]
def c23r14 : List AOper := [
 oP 43 (.faddr 0) [.t 9],
 oP 44 (.load none) [.t 43],
 oP 45 (.bin .eql) [.t 44,.c (.pv none (.int .i64 0))],
 oP 42 .mv [.t 45]]
def c23r15 : List AOper := [
 oP 46 (bZ []) [],
 oP 47 .call [.c (.pv none (.func (.func 68)))],
 ⟨none,(.store (some 4)),[.t 2,.t 46],none⟩,
 ⟨none,(.store (some 4)),[.t 3,.t 47],none⟩,
 oP 4 .mv [.c (.pv none (.int .i64 8))]]
def c23r16 : List AOper := [
 oP 49 (.faddr 0) [.t 9],
 oP 50 (.load none) [.t 49],
 oP 51 (.bin .eql) [.t 50,.c (.pv none (.int .i64 1))],
 oP 48 .mv [.t 51]]
def c23r17 : List AOper := [
 oP 52 (bZ []) [],
 oP 53 (.load (some 4)) [.t 9],
 oP 54 .call [.c (.pv none (.func (.func 69))),.c (.pv none (.str [99,97,108,108,97,98,108,101])),.t 53],
 ⟨none,(.store (some 4)),[.t 2,.t 52],none⟩,
 ⟨none,(.store (some 4)),[.t 3,.t 54],none⟩,
 oP 4 .mv [.c (.pv none (.int .i64 8))]]
def c23r18 : List AOper := [
 oP 56 (.load (some 4)) [.t 8],
 oP 57 .call [.c (.pv none (.func (.func 70))),.t 56],
 oP 58 .not [.t 57],
 oP 55 .mv [.t 58]]
def c23r19 : List AOper := [
 oP 59 (bZ []) [],
 oP 60 (.load (some 4)) [.t 8],
 oP 61 .call [.c (.pv none (.func (.func 69))),.c (.pv none (.str [108,105,115,116])),.t 60],
 ⟨none,(.store (some 4)),[.t 2,.t 59],none⟩,
 ⟨none,(.store (some 4)),[.t 3,.t 61],none⟩,
 oP 4 .mv [.c (.pv none (.int .i64 8))]]
def c23k20 : ACode := (.cond (.t 55) (.seq (.region true c23r19 [2,3,4]) .ret) .skip)
def c23k21 : ACode := (.cond (.t 48) (.seq (.region true c23r17 [2,3,4]) .ret) (.seq (.region true c23r18 [1,2,3,5,6,7,8,9,55]) c23k20))
def c23k22 : ACode := (.cond (.t 42) (.seq (.region true c23r15 [2,3,4]) .ret) (.seq (.region true c23r16 [1,2,3,5,6,7,8,9,48]) c23k21))
def c23k23 : ACode := (.block 1 (.seq (.region true c23r14 [1,2,3,5,6,7,8,9,42]) c23k22))
def c23r24 : List AOper := [
 oP 62 (.load (some 4)) [.t 6],
 oP 63 (.load (some 4)) [.t 7],
 oP 64 .call [.c (.pv none (.func (.func 21))),.t 62,.t 63],
 oP 10 aZ [],
 ⟨none,(.store (some 4)),[.t 10,.t 64],none⟩]
def c23r25 : List AOper := [
 oP 65 (.load (some 4)) [.t 1],
 oP 66 .call [.c (.pv none (.func (.func 71))),.t 65],
 oP 11 .mv [.t 66]]
def c23r26 : List AOper := [
 oP 67 .mv [.t 11],
 oP 68 (.bin .gtr) [.t 67,.c (.pv none (.int .i64 1099511627776))],
 oP 69 .mv [.t 68],
 ⟨some 70,(.faddr 0),[.t 10],some (69,false)⟩,
 ⟨some 71,(.load none),[.t 70],some (69,false)⟩,
 ⟨some 72,(.bin .eql),[.t 71,.c (.pv none (.int .i64 0))],some (69,false)⟩,
 oP 73 .pick [.t 69,.c (.pv none (.bool true)),.t 72]]
def c23r27 : List AOper := [
 oP 74 (bZ []) [],
 oP 75 (bZ []) [],
 ⟨none,(.store (some 4)),[.t 2,.t 74],none⟩,
 ⟨none,(.store (some 4)),[.t 3,.t 75],none⟩,
 oP 4 .mv [.c (.pv none (.int .i64 2))]]
def c23k28 : ACode := (.cond (.t 73) (.seq (.region true c23r27 [2,3,4]) .ret) .skip)
def c23r29 : List AOper := [
 oP 76 .mv [.t 11],
 oP 77 .call [.c (.pv none (.func (.func 25))),.t 76],
 oP 12 aZ [],
 ⟨none,(.store (some 4)),[.t 12,.t 77],none⟩]
def c23r30 : List AOper := [
 oP 78 (.load (some 4)) [.t 10],
 oP 79 (.load (some 4)) [.t 6],
 oP 80 (.bslicep (some 4)) [.t 78,.t 79],
 oP 81 .callp [.c (.pv none (.func (.func 51))),.c (.pv none (.str [45])),.t 80],
 oP 82 (.load (some 4)) [.t 9],
 oP 83 (.load (some 4)) [.t 12],
 oP 84 (.bslicep (some 4)) [.t 81,.t 82,.t 83],
 oP 85 .callp [.c (.pv none (.func (.func 51))),.c (.pv none (.str [102,105,110,100,97,108,108])),.t 84],
 oP 13 aZ [],
 ⟨none,(.store (some 4)),[.t 13,.t 85],none⟩]
def c23r31 : List AOper := [
 oP 86 (.load (some 4)) [.t 13],
 oP 87 .mv [.t 5],
 oP 88 (.load (some 4)) [.t 10],
 oP 89 (.load (some 4)) [.t 12],
 oP 90 (.load (some 4)) [.t 8],
 oP 91 (.bslicep (some 4)) [.t 88,.t 89,.t 90],
 oP 92 .callp [.c (.pv none (.func (.func 51))),.t 87,.t 91],
 oP 93 (.bslicep (some 4)) [.t 86,.t 92],
 oP 94 .callp [.c (.pv none (.func (.func 51))),.c (.pv none (.str [44])),.t 93],
 ⟨none,(.store (some 4)),[.t 2,.t 94],none⟩]
def c23r32 : List AOper := [
 oP 95 (.load (some 4)) [.t 2],
 oP 96 .call [.c (.pv none (.func (.func 45))),.t 95],
 oP 97 .not [.t 96]]
def c23r33 : List AOper := [
 oP 98 (bZ []) [],
 oP 99 (bZ []) [],
 ⟨none,(.store (some 4)),[.t 2,.t 98],none⟩,
 ⟨none,(.store (some 4)),[.t 3,.t 99],none⟩,
 oP 4 .mv [.c (.pv none (.int .i64 2))]]
def c23k34 : ACode := (.cond (.t 97) (.seq (.region true c23r33 [2,3,4]) .ret) .skip)
def c23r35 : List AOper := [
 oP 100 (.load (some 4)) [.t 2],
 oP 101 .call [.c (.pv none (.func (.func 38))),.t 100],
 oP 102 (bZ []) [],
 ⟨none,(.store (some 4)),[.t 2,.t 101],none⟩,
 ⟨none,(.store (some 4)),[.t 3,.t 102],none⟩,
 oP 4 .mv [.c (.pv none (.int .i64 0))]]
def c23 : ACode := (.seq (.region true c23r0 [1,2,3]) (.seq (.seq (.region true c23r1 [1,2,3,16]) c23k3) (.seq (.region true c23r4 [1,2,3,5]) (.seq c23k11 (.seq (.region true c23r12 [1,2,3,5,6,7,8]) (.seq (.region true c23r13 [1,2,3,5,6,7,8,9]) (.seq c23k23 (.seq (.region true c23r24 [1,2,3,5,6,8,9,10]) (.seq (.region true c23r25 [2,3,5,6,8,9,10,11]) (.seq (.seq (.region true c23r26 [2,3,5,6,8,9,10,11,73]) c23k28) (.seq (.region true c23r29 [2,3,5,6,8,9,10,12]) (.seq (.seq (.settle [6,9,10,12]) (.region true c23r30 [2,3,5,8,10,12,13])) (.seq (.seq (.settle [5,8,10,12,13]) (.region true c23r31 [2,3])) (.seq (.seq (.region true c23r32 [2,3,97]) c23k34) (.seq (.region true c23r35 [2,3,4]) .ret)))))))))))))))
def g23 : AFn := ⟨1,[(2,some (some 4)),(3,some (some 4)),(4,none)],c23,false,[],[],none⟩
theorem tr23 : trFn Tryz.prog false 23 Tryz.f23 = some g23 := by kernel_rfl
def c24r0 : List AOper := [
 oP 1 (.box (some 4)) [.t 0],
 oP 2 aZ [],
 oP 3 aZ [],
 oP 4 .mv [.c (.pv none (.int .i64 0))]]
def c24r1 : List AOper := [
 oP 17 (.load (some 4)) [.t 1],
 oP 18 .call [.c (.pv none (.func (.func 43))),.t 17],
 oP 19 .not [.t 18]]
def c24r2 : List AOper := [
 oP 20 (bZ []) [],
 oP 21 (bZ []) [],
 ⟨none,(.store (some 4)),[.t 2,.t 20],none⟩,
 ⟨none,(.store (some 4)),[.t 3,.t 21],none⟩,
 oP 4 .mv [.c (.pv none (.int .i64 1))]]
def c24k3 : ACode := (.cond (.t 19) (.seq (.region true c24r2 [2,3,4]) .ret) .skip)
def c24r4 : List AOper := [
 oP 22 (.faddr 0) [.t 1],
 oP 23 (.load none) [.t 22],
 oP 24 (.bin .neq) [.t 23,.c (.pv none (.int .i64 3))],
 oP 25 .mv [.t 24],
 ⟨some 26,(.faddr 3),[.t 1],some (25,false)⟩,
 ⟨some 27,(.load none),[.t 26],some (25,false)⟩,
 ⟨some 28,.len,[.t 27],some (25,false)⟩,
 ⟨some 29,(.bin .neq),[.t 28,.c (.pv none (.int .i64 3))],some (25,false)⟩,
 oP 30 .pick [.t 25,.c (.pv none (.bool true)),.t 29],
 oP 31 .mv [.t 30],
 ⟨some 32,(.faddr 2),[.t 1],some (31,false)⟩,
 ⟨some 33,(.load none),[.t 32],some (31,false)⟩,
 ⟨some 34,(.bin .neq),[.t 33,.c (.pv none (.str [98,97,103,111,102]))],some (31,false)⟩,
 ⟨some 35,.mv,[.t 34],some (31,false)⟩,
 ⟨some 36,(.faddr 2),[.t 1],some (35,true)⟩,
 ⟨some 37,(.load none),[.t 36],some (35,true)⟩,
 ⟨some 38,(.bin .neq),[.t 37,.c (.pv none (.str [115,101,116,111,102]))],some (35,true)⟩,
 ⟨some 39,.pick,[.t 35,.t 38,.c (.pv none (.bool false))],some (31,false)⟩,
 oP 40 .pick [.t 31,.c (.pv none (.bool true)),.t 39]]
def c24r5 : List AOper := [
 oP 41 (bZ []) [],
 oP 42 (bZ []) [],
 ⟨none,(.store (some 4)),[.t 2,.t 41],none⟩,
 ⟨none,(.store (some 4)),[.t 3,.t 42],none⟩,
 oP 4 .mv [.c (.pv none (.int .i64 4))]]
def c24k6 : ACode := (.cond (.t 40) (.seq (.region true c24r5 [2,3,4]) .ret) .skip)
def c24r7 : List AOper := [
 oP 43 (.faddr 3) [.t 1],
 oP 44 (.load none) [.t 43],
 oP 45 (.iaddr (some 4)) [.t 44,.c (.pv none (.int .i64 1))],
 oP 46 (.load (some 4)) [.t 45],
 oP 47 .call [.c (.pv none (.func (.func 62))),.t 46],
 oP 5 aZ [],
 ⟨none,(.store (some 4)),[.t 5,.t 47],none⟩]
def c24r8 : List AOper := [
 oP 49 (.load (some 4)) [.t 5],
 oP 50 .call [.c (.pv none (.func (.func 72))),.t 49],
 oP 48 .mv [.t 50],
 oP 51 (.extract 0) [.t 48],
 oP 52 (.extract 1) [.t 48],
 oP 6 aZ [],
 ⟨none,(.store (some 4)),[.t 6,.t 51],none⟩,
 oP 7 .mv [.t 52]]
def c24r9 : List AOper := [
 oP 53 .mv [.t 7],
 oP 54 .not [.t 53]]
def c24r10 : List AOper := [
 oP 55 (bZ []) [],
 oP 56 (.load (some 4)) [.t 6],
 ⟨none,(.storen (some 4)),[.t 2,.t 55,.t 6],none⟩,
 ⟨none,(.store (some 4)),[.t 3,.t 56],none⟩,
 oP 4 .mv [.c (.pv none (.int .i64 8))]]
def c24k11 : ACode := (.cond (.t 54) (.seq (.region true c24r10 [2,3,4]) .ret) .skip)
def c24r12 : List AOper := [
 oP 58 (.faddr 3) [.t 1],
 oP 59 (.load none) [.t 58],
 oP 60 (.iaddr (some 4)) [.t 59,.c (.pv none (.int .i64 2))],
 oP 61 (.load (some 4)) [.t 60],
 oP 62 .call [.c (.pv none (.func (.func 56))),.t 61],
 oP 57 .mv [.t 62],
 oP 63 (.extract 0) [.t 57],
 oP 64 (.extract 1) [.t 57],
 oP 9 aZ [],
 oP 8 .mv [.t 63],
 ⟨none,(.store (some 4)),[.t 9,.t 64],none⟩]
def c24r13 : List AOper := [
 oP 65 (.faddr 0) [.t 9],
 oP 66 (.load none) [.t 65],
 oP 67 (.bin .neq) [.t 66,.c (.pv none (.int .i64 0))],
 oP 68 .mv [.t 67],
 ⟨some 69,(.faddr 0),[.t 9],some (68,true)⟩,
 ⟨some 70,(.load none),[.t 69],some (68,true)⟩,
 ⟨some 71,(.bin .neq),[.t 70,.c (.pv none (.int .i64 2))],some (68,true)⟩,
 ⟨some 72,.mv,[.t 71],some (68,true)⟩,
 ⟨some 73,(.faddr 2),[.t 9],some (72,false)⟩,
 ⟨some 74,(.load none),[.t 73],some (72,false)⟩,
 ⟨some 75,(.bin .neq),[.t 74,.c (.pv none (.str [91,93]))],some (72,false)⟩,
 ⟨some 76,.pick,[.t 72,.c (.pv none (.bool true)),.t 75],some (68,true)⟩,
 oP 77 .pick [.t 68,.t 76,.c (.pv none (.bool false))]]
def c24r14 : List AOper := [
 oP 78 (bZ []) [],
 oP 79 (.faddr 3) [.t 1],
 oP 80 (.load none) [.t 79],
 oP 81 (.iaddr (some 4)) [.t 80,.c (.pv none (.int .i64 2))],
 oP 82 (.load (some 4)) [.t 81],
 oP 83 .call [.c (.pv none (.func (.func 33))),.c (.pv none (.str [108,105,115,116])),.t 82],
 ⟨none,(.store (some 4)),[.t 2,.t 78],none⟩,
 ⟨none,(.store (some 4)),[.t 3,.t 83],none⟩,
 oP 4 .mv [.c (.pv none (.int .i64 8))]]
def c24k15 : ACode := (.cond (.t 77) (.seq (.region true c24r14 [2,3,4]) .ret) .skip)
def c24r16 : List AOper := [
 oP 10 .mv [.c (.pv none (.int .i64 0))]]
def c24r17 : List AOper := [
 oP 84 (.load (some 4)) [.t 1],
 oP 85 .call [.c (.pv none (.func (.func 73))),.t 84],
 oP 11 .mv [.t 85]]
def c24r18 : List AOper := [
 oP 12 .mv [.c (.pv none (.int .i64 0))]]
def c24r19 : List AOper := [
 oP 86 .mv [.t 12],
 oP 87 .mv [.t 11],
 oP 88 .len [.t 87],
 oP 89 (.bin .lss) [.t 86,.t 88]]
def c24k20 : ACode := (.cond (.t 89) .skip (.exit 0))
def c24r21 : List AOper := [
 oP 92 .mv [.t 10],
 oP 93 .mv [.t 11],
 oP 94 .mv [.t 12],
 oP 95 (.iaddr none) [.t 93,.t 94],
 oP 96 (.load none) [.t 95],
 oP 97 (.bin .add) [.t 96,.c (.pv none (.int .i64 1))],
 oP 98 .max [.t 92,.t 97],
 oP 10 .mv [.t 98]]
def c24k22 : ACode := (.block 1 (.region true c24r21 [1,2,3,5,10,11,12]))
def c24r23 : List AOper := [
 oP 90 .mv [.t 12],
 oP 91 (.bin .add) [.t 90,.c (.pv none (.int .i64 1))],
 oP 12 .mv [.t 91]]
def c24b24 : ACode := (.seq (.seq (.region true c24r19 [1,2,3,5,10,11,12,89]) c24k20) (.seq c24k22 (.region true c24r23 [1,2,3,5,10,11,12])))
def c24k25 : ACode := (.block 0 (.loop [1,2,3,5,10,11,12] c24b24))
def c24r26 : List AOper := [
 oP 13 .mv [.c (.pv none (.str [36,98,97,103]))]]
def c24r27 : List AOper := [
 oP 99 (.faddr 2) [.t 1],
 oP 100 (.load none) [.t 99],
 oP 101 (.bin .eql) [.t 100,.c (.pv none (.str [115,101,116,111,102]))]]
def c24r28 : List AOper := [
 oP 13 .mv [.c (.pv none (.str [36,115,101,116]))]]
def c24k29 : ACode := (.cond (.t 101) (.region true c24r28 [1,2,3,5,10,13]) .skip)
def c24r30 : List AOper := [
 oP 102 (.faddr 3) [.t 1],
 oP 103 (.load none) [.t 102],
 oP 104 (.iaddr (some 4)) [.t 103,.c (.pv none (.int .i64 0))],
 oP 105 (.load (some 4)) [.t 104],
 oP 106 (.faddr 3) [.t 1],
 oP 107 (.load none) [.t 106],
 oP 108 (.iaddr (some 4)) [.t 107,.c (.pv none (.int .i64 1))],
 oP 109 (.load (some 4)) [.t 108],
 oP 110 .call [.c (.pv none (.func (.func 66))),.t 105,.t 109],
 oP 111 .call [.c (.pv none (.func (.func 42))),.t 110],
 oP 14 aZ [],
 ⟨none,(.store (some 4)),[.t 14,.t 111],none⟩]
def c24r31 : List AOper := [
 oP 112 .mv [.t 10],
 oP 113 (bZ [0,1]) [.c (.pv none (.int .i64 0)),.t 112],
 oP 15 aZ [],
 ⟨none,(.store (some 4)),[.t 15,.t 113],none⟩]
def c24r32 : List AOper := [
 oP 114 (.load (some 4)) [.t 14],
 oP 115 (.faddr 3) [.t 1],
 oP 116 (.load none) [.t 115],
 oP 117 (.iaddr (some 4)) [.t 116,.c (.pv none (.int .i64 0))],
 oP 118 (.load (some 4)) [.t 117],
 oP 119 (.bslicep (some 4)) [.t 114,.t 118],
 oP 120 .callp [.c (.pv none (.func (.func 41))),.c (.pv none (.str [45])),.t 119],
 oP 121 (.load (some 4)) [.t 5],
 oP 122 (.load (some 4)) [.t 15],
 oP 123 (.bslicep (some 4)) [.t 120,.t 121,.t 122],
 oP 124 .callp [.c (.pv none (.func (.func 41))),.c (.pv none (.str [102,105,110,100,97,108,108])),.t 123],
 oP 125 .mv [.t 13],
 oP 126 (.load (some 4)) [.t 14],
 oP 127 (.load (some 4)) [.t 15],
 oP 128 (.faddr 3) [.t 1],
 oP 129 (.load none) [.t 128],
 oP 130 (.iaddr (some 4)) [.t 129,.c (.pv none (.int .i64 2))],
 oP 131 (.load (some 4)) [.t 130],
 oP 132 (.bslicep (some 4)) [.t 126,.t 127,.t 131],
 oP 133 .callp [.c (.pv none (.func (.func 41))),.t 125,.t 132],
 oP 134 (.bslicep (some 4)) [.t 124,.t 133],
 oP 135 .callp [.c (.pv none (.func (.func 41))),.c (.pv none (.str [44])),.t 134],
 oP 16 aZ [],
 ⟨none,(.store (some 4)),[.t 16,.t 135],none⟩]
def c24r33 : List AOper := [
 oP 136 .mv [.t 10],
 oP 137 (.bin .gtr) [.t 136,.c (.pv none (.int .i64 1099511627776))],
 oP 138 .mv [.t 137],
 ⟨some 139,(.load (some 4)),[.t 16],some (138,false)⟩,
 ⟨some 140,.call,[.c (.pv none (.func (.func 43))),.t 139],some (138,false)⟩,
 ⟨some 141,.not,[.t 140],some (138,false)⟩,
 oP 142 .pick [.t 138,.c (.pv none (.bool true)),.t 141]]
def c24r34 : List AOper := [
 oP 143 (bZ []) [],
 oP 144 (bZ []) [],
 ⟨none,(.store (some 4)),[.t 2,.t 143],none⟩,
 ⟨none,(.store (some 4)),[.t 3,.t 144],none⟩,
 oP 4 .mv [.c (.pv none (.int .i64 2))]]
def c24k35 : ACode := (.cond (.t 142) (.seq (.region true c24r34 [2,3,4]) .ret) .skip)
def c24r36 : List AOper := [
 oP 145 (.load (some 4)) [.t 16],
 oP 146 .call [.c (.pv none (.func (.func 58))),.t 145],
 oP 147 (bZ []) [],
 ⟨none,(.store (some 4)),[.t 2,.t 146],none⟩,
 ⟨none,(.store (some 4)),[.t 3,.t 147],none⟩,
 oP 4 .mv [.c (.pv none (.int .i64 0))]]
def c24 : ACode := (.seq (.region true c24r0 [1,2,3]) (.seq (.seq (.region true c24r1 [1,2,3,19]) c24k3) (.seq (.seq (.region true c24r4 [1,2,3,40]) c24k6) (.seq (.region true c24r7 [1,2,3,5]) (.seq (.seq (.region true c24r8 [1,2,3,5,6,7]) (.seq (.region true c24r9 [1,2,3,5,6,54]) c24k11)) (.seq (.region true c24r12 [1,2,3,5,9]) (.seq (.seq (.region true c24r13 [1,2,3,5,77]) c24k15) (.seq (.region true c24r16 [1,2,3,5,10]) (.seq (.region true c24r17 [1,2,3,5,10,11]) (.seq (.seq (.region true c24r18 [1,2,3,5,10,11,12]) c24k25) (.seq (.region true c24r26 [1,2,3,5,10,13]) (.seq (.seq (.region true c24r27 [1,2,3,5,10,13,101]) c24k29) (.seq (.region false c24r30 [1,2,3,5,10,13,14]) (.seq (.region true c24r31 [1,2,3,5,10,13,14,15]) (.seq (.seq (.settle [5,13,14,15]) (.region true c24r32 [2,3,10,16])) (.seq (.seq (.region true c24r33 [2,3,16,142]) c24k35) (.seq (.region true c24r36 [2,3,4]) .ret)))))))))))))))))
def g24 : AFn := ⟨1,[(2,some (some 4)),(3,some (some 4)),(4,none)],c24,false,[],[],none⟩
theorem tr24 : trFn Tryz.prog false 24 Tryz.f24 = some g24 := by kernel_rfl
def c25r0 : List AOper := [
 oP 2 aZ []]
def c25r1 : List AOper := [
 oP 3 .mv [.t 0],
 oP 4 .call [.c (.pv none (.func (.func 74))),.t 3],
 oP 5 .not [.t 4]]
def c25r2 : List AOper := [
 oP 6 (bZ []) [],
 ⟨none,(.store (some 4)),[.t 2,.t 6],none⟩]
def c25k3 : ACode := (.cond (.t 5) (.seq (.region true c25r2 [2]) .ret) .skip)
def c25r4 : List AOper := [
 oP 7 .mv [.t 0],
 oP 8 (bZ [1]) [.t 7],
 ⟨none,(.store (some 4)),[.t 2,.t 8],none⟩]
def c25 : ACode := (.seq (.region true c25r0 [0,2]) (.seq (.seq (.region true c25r1 [0,2,5]) c25k3) (.seq (.region true c25r4 [2]) .ret)))
def g25 : AFn := ⟨1,[(2,some (some 4))],c25,false,[],[],none⟩
theorem tr25 : trFn Tryz.prog false 25 Tryz.f25 = some g25 := by kernel_rfl
def c26r0 : List AOper := [
 oP 4 aZ []]
def c26r1 : List AOper := [
 oP 5 .mv [.t 1],
 oP 6 .len [.t 5],
 oP 7 (.bin .eql) [.t 6,.c (.pv none (.int .i64 0))]]
def c26r2 : List AOper := [
 oP 8 .mv [.t 0],
 oP 9 .call [.c (.pv none (.func (.func 28))),.t 8],
 ⟨none,(.store (some 4)),[.t 4,.t 9],none⟩]
def c26k3 : ACode := (.cond (.t 7) (.seq (.region true c26r2 [4]) .ret) .skip)
def c26r4 : List AOper := [
 oP 10 .mv [.t 0],
 oP 11 .mv [.t 1],
 oP 12 (bZ [0,2,3]) [.c (.pv none (.int .i64 3)),.t 10,.t 11],
 oP 13 .call [.c (.pv none (.func (.func 38))),.t 12],
 ⟨none,(.store (some 4)),[.t 4,.t 13],none⟩]
def c26 : ACode := (.seq (.region true c26r0 [0,1,4]) (.seq (.seq (.region true c26r1 [0,1,4,7]) c26k3) (.seq (.region true c26r4 [4]) .ret)))
def g26 : AFn := ⟨2,[(4,some (some 4))],c26,false,[],[],none⟩
theorem tr26 : trFn Tryz.prog false 26 Tryz.f26 = some g26 := by kernel_rfl
def c27r0 : List AOper := [
 oP 2 (.box (some 4)) [.t 0],
 oP 3 (.box (some 4)) [.t 1],
 oP 4 .mv [.c (.pv none (.bool false))]]
def c27r1 : List AOper := [
 oP 5 (.load (some 4)) [.t 2],
 oP 6 .call [.c (.pv none (.func (.func 43))),.t 5],
 oP 7 .mv [.t 6],
 ⟨some 8,(.load (some 4)),[.t 3],some (7,true)⟩,
 ⟨some 9,.call,[.c (.pv none (.func (.func 43))),.t 8],some (7,true)⟩,
 oP 10 .pick [.t 7,.t 9,.c (.pv none (.bool false))],
 oP 11 .mv [.t 10],
 ⟨some 12,(.load (some 4)),[.t 2],some (11,true)⟩,
 ⟨some 13,(.load (some 4)),[.t 3],some (11,true)⟩,
 ⟨some 14,.call,[.c (.pv none (.func (.func 75))),.t 12,.t 13],some (11,true)⟩,
 oP 15 .pick [.t 11,.t 14,.c (.pv none (.bool false))],
 oP 4 .mv [.t 15]]
def c27 : ACode := (.seq (.region true c27r0 [2,3]) (.seq (.region true c27r1 [4]) .ret))
def g27 : AFn := ⟨2,[(4,none)],c27,false,[],[],none⟩
theorem tr27 : trFn Tryz.prog false 27 Tryz.f27 = some g27 := by kernel_rfl
def c28r0 : List AOper := [
 oP 2 aZ []]
def c28r1 : List AOper := [
 oP 3 .mv [.t 0],
 oP 4 (bZ [0,2]) [.c (.pv none (.int .i64 2)),.t 3],
 oP 5 .call [.c (.pv none (.func (.func 38))),.t 4],
 ⟨none,(.store (some 4)),[.t 2,.t 5],none⟩]
def c28 : ACode := (.seq (.region true c28r0 [0,2]) (.seq (.region true c28r1 [2]) .ret))
def g28 : AFn := ⟨1,[(2,some (some 4))],c28,false,[],[],none⟩
theorem tr28 : trFn Tryz.prog false 28 Tryz.f28 = some g28 := by kernel_rfl
def c29r0 : List AOper := [
 oP 2 (.box (some 4)) [.t 0],
 oP 3 (.box (some 4)) [.t 1],
 oP 4 aZ []]
def c29r1 : List AOper := [
 oP 5 (.load (some 4)) [.t 2],
 oP 6 (.load (some 4)) [.t 3],
 oP 7 (.bslice (some 4)) [.t 5,.t 6],
 oP 8 .call [.c (.pv none (.func (.func 26))),.c (.pv none (.str [45])),.t 7],
 ⟨none,(.store (some 4)),[.t 4,.t 8],none⟩]
def c29 : ACode := (.seq (.region true c29r0 [2,3,4]) (.seq (.region true c29r1 [4]) .ret))
def g29 : AFn := ⟨2,[(4,some (some 4))],c29,false,[],[],none⟩
theorem tr29 : trFn Tryz.prog false 29 Tryz.f29 = some g29 := by kernel_rfl
def c30r0 : List AOper := [
 oP 2 aZ []]
def c30r1 : List AOper := [
 oP 3 .mv [.t 0],
 oP 4 (bZ [0,1]) [.c (.pv none (.int .i64 1)),.t 3],
 ⟨none,(.store (some 4)),[.t 2,.t 4],none⟩]
def c30 : ACode := (.seq (.region true c30r0 [0,2]) (.seq (.region true c30r1 [2]) .ret))
def g30 : AFn := ⟨1,[(2,some (some 4))],c30,false,[],[],none⟩
theorem tr30 : trFn Tryz.prog false 30 Tryz.f30 = some g30 := by kernel_rfl
def c31r0 : List AOper := [
 oP 2 aZ []]
def c31r1 : List AOper := [
 oP 3 .mv [.t 0],
 oP 4 .call [.c (.pv none (.func (.func 28))),.c (.pv none (.str [91,93]))],
 oP 5 .call [.c (.pv none (.func (.func 76))),.t 3,.t 4],
 ⟨none,(.store (some 4)),[.t 2,.t 5],none⟩]
def c31 : ACode := (.seq (.region true c31r0 [0,2]) (.seq (.region true c31r1 [2]) .ret))
def g31 : AFn := ⟨1,[(2,some (some 4))],c31,false,[],[],none⟩
theorem tr31 : trFn Tryz.prog false 31 Tryz.f31 = some g31 := by kernel_rfl
def c32r0 : List AOper := [
 oP 0 aZ []]
def c32r1 : List AOper := [
 oP 1 .call [.c (.pv none (.func (.func 78))),.c (.pv none (.str [105,110,115,116,97,110,116,105,97,116,105,111,110,95,101,114,114,111,114]))],
 oP 2 .call [.c (.pv none (.func (.func 77))),.t 1],
 ⟨none,(.store (some 4)),[.t 0,.t 2],none⟩]
def c32 : ACode := (.seq (.region true c32r0 [0]) (.seq (.region true c32r1 [0]) .ret))
def g32 : AFn := ⟨0,[(0,some (some 4))],c32,false,[],[],none⟩
theorem tr32 : trFn Tryz.prog false 32 Tryz.f32 = some g32 := by kernel_rfl
def c33r0 : List AOper := [
 oP 3 (.box (some 4)) [.t 1],
 oP 4 aZ []]
def c33r1 : List AOper := [
 oP 5 (.load (some 4)) [.t 3],
 oP 6 .mv [.t 0],
 oP 7 (.bslice none) [.t 6],
 oP 8 .call [.c (.pv none (.func (.func 79))),.t 5,.c (.pv none (.str [116,121,112,101,95,101,114,114,111,114])),.t 7],
 ⟨none,(.store (some 4)),[.t 4,.t 8],none⟩]
def c33 : ACode := (.seq (.region true c33r0 [0,3,4]) (.seq (.region true c33r1 [4]) .ret))
def g33 : AFn := ⟨2,[(4,some (some 4))],c33,false,[],[],none⟩
theorem tr33 : trFn Tryz.prog false 33 Tryz.f33 = some g33 := by kernel_rfl
def c34r0 : List AOper := [
 oP 2 (.nilsl (some 4)) [],
 oP 3 .mv [.c (.pv none (.int .i64 0))]]
def c34r1 : List AOper := [
 oP 6 .mv [.t 0],
 oP 7 .call [.c (.pv none (.func (.func 80))),.t 6],
 oP 8 .not [.t 7]]
def c34r2 : List AOper := [
 oP 2 (.nilsl (some 4)) [],
 oP 3 .mv [.c (.pv none (.int .i64 1))]]
def c34k3 : ACode := (.cond (.t 8) (.seq (.region true c34r2 [2,3]) .ret) .skip)
def c34r4 : List AOper := [
 oP 9 .mv [.t 0],
 oP 10 .len [.t 9],
 oP 11 .mv [.c (.pv none (.int .i64 0))]]
def c34r5 : List AOper := [
 oP 12 (.bin .lss) [.t 11,.t 10]]
def c34k6 : ACode := (.cond (.t 12) .skip (.exit 0))
def c34r7 : List AOper := [
 oP 13 (.iaddr (some 4)) [.t 9,.t 11],
 oP 14 (.load (some 4)) [.t 13],
 oP 5 aZ [],
 ⟨none,(.store (some 4)),[.t 5,.t 14],none⟩]
def c34r8 : List AOper := [
 oP 15 (.faddr 0) [.t 5],
 oP 16 (.load none) [.t 15],
 oP 17 (.bin .neq) [.t 16,.c (.pv none (.int .i64 3))],
 oP 18 .mv [.t 17],
 ⟨some 19,(.faddr 2),[.t 5],some (18,false)⟩,
 ⟨some 20,(.load none),[.t 19],some (18,false)⟩,
 ⟨some 21,(.bin .neq),[.t 20,.c (.pv none (.str [45]))],some (18,false)⟩,
 oP 22 .pick [.t 18,.c (.pv none (.bool true)),.t 21],
 oP 23 .mv [.t 22],
 ⟨some 24,(.faddr 3),[.t 5],some (23,false)⟩,
 ⟨some 25,(.load none),[.t 24],some (23,false)⟩,
 ⟨some 26,.len,[.t 25],some (23,false)⟩,
 ⟨some 27,(.bin .neq),[.t 26,.c (.pv none (.int .i64 2))],some (23,false)⟩,
 oP 28 .pick [.t 23,.c (.pv none (.bool true)),.t 27]]
def c34r9 : List AOper := [
 oP 2 (.nilsl (some 4)) [],
 oP 3 .mv [.c (.pv none (.int .i64 3))]]
def c34k10 : ACode := (.cond (.t 28) (.seq (.region true c34r9 [2,3]) .ret) .skip)
def c34k11 : ACode := (.block 1 (.seq (.region true c34r7 [0,5,9,10,11]) (.seq (.region true c34r8 [0,9,10,11,28]) c34k10)))
def c34r12 : List AOper := [
 oP 29 (.bin .add) [.t 11,.c (.pv none (.int .i64 1))],
 oP 11 .mv [.t 29]]
def c34b13 : ACode := (.seq (.region true c34r5 [0,9,10,11,12]) (.seq c34k6 (.seq c34k11 (.region true c34r12 [0,9,10,11]))))
def c34k14 : ACode := (.block 0 (.loop [0,9,10,11] c34b13))
def c34r15 : List AOper := [
 oP 30 .mv [.t 0],
 oP 31 .call [.c (.pv none (.func (.func 81))),.t 30,.c (.pv none (.func (.func 82)))],
 oP 2 .mv [.t 31],
 oP 3 .mv [.c (.pv none (.int .i64 0))]]
def c34 : ACode := (.seq (.region true c34r0 [0]) (.seq (.seq (.region true c34r1 [0,8]) c34k3) (.seq (.seq (.region true c34r4 [0,9,10,11]) c34k14) (.seq (.region true c34r15 [2,3]) .ret))))
def g34 : AFn := ⟨1,[(2,none),(3,none)],c34,true,[],[],none⟩
theorem tr34 : trFn Tryz.prog true 34 Tryz.f34 = some g34 := by kernel_rfl
def c35r0 : List AOper := [
 oP 2 (.box (some 4)) [.t 0],
 oP 3 .mv [.c (.pv none (.bool false))]]
def c35r1 : List AOper := [
 oP 4 (.faddr 3) [.t 2],
 oP 5 (.load none) [.t 4],
 oP 6 (.iaddr (some 4)) [.t 5,.c (.pv none (.int .i64 0))],
 oP 7 (.load (some 4)) [.t 6],
 oP 8 (.load (some 4)) [.t 1],
 oP 9 .call [.c (.pv none (.func (.func 36))),.t 7,.t 8],
 oP 3 .mv [.t 9]]
def c35 : ACode := (.seq (.region true c35r0 [1,2]) (.seq (.region true c35r1 [3]) .ret))
def g35 : AFn := ⟨2,[(3,none)],c35,true,[],[],none⟩
theorem tr35 : trFn Tryz.prog true 35 Tryz.f35 = some g35 := by kernel_rfl
def c36r0 : List AOper := [
 oP 2 (.box (some 4)) [.t 0],
 oP 3 (.box (some 4)) [.t 1],
 oP 4 .mv [.c (.pv none (.bool false))]]
def c36r1 : List AOper := [
 oP 5 (.load (some 4)) [.t 2],
 oP 6 .callp [.c (.pv none (.func (.func 45))),.t 5],
 oP 7 .mv [.t 6],
 ⟨some 8,(.load (some 4)),[.t 3],some (7,true)⟩,
 ⟨some 9,.callp,[.c (.pv none (.func (.func 45))),.t 8],some (7,true)⟩,
 oP 10 .pick [.t 7,.t 9,.c (.pv none (.bool false))],
 oP 11 .mv [.t 10],
 ⟨some 12,(.load (some 4)),[.t 2],some (11,true)⟩,
 ⟨some 13,.callp,[.c (.pv none (.func (.func 47))),.t 12],some (11,true)⟩,
 ⟨some 14,(.load (some 4)),[.t 3],some (11,true)⟩,
 ⟨some 15,.callp,[.c (.pv none (.func (.func 47))),.t 14],some (11,true)⟩,
 ⟨some 16,.callp,[.c (.pv none (.func (.func 84))),.t 13,.t 15],some (11,true)⟩,
 oP 17 .pick [.t 11,.t 16,.c (.pv none (.bool false))],
 oP 4 .mv [.t 17]]
def c36 : ACode := (.seq (.region true c36r0 [2,3]) (.seq (.seq (.settle [2,3]) (.region true c36r1 [4])) .ret))
def g36 : AFn := ⟨2,[(4,none)],c36,false,[],[],none⟩
theorem tr36 : trFn Tryz.prog false 36 Tryz.f36 = some g36 := by kernel_rfl
def c37r0 : List AOper := [
 oP 2 aZ [],
 oP 3 .mv [.c (.pv none (.int .i64 0))]]
def c37r1 : List AOper := [
 oP 19 .mv [.t 0],
 oP 20 (.iaddr (some 4)) [.t 19,.c (.pv none (.int .i64 0))],
 oP 21 (.faddr 3) [.t 20],
 oP 22 (.load none) [.t 21],
 oP 23 (.iaddr (some 4)) [.t 22,.c (.pv none (.int .i64 0))],
 oP 24 (.load (some 4)) [.t 23],
 oP 4 aZ [],
 ⟨none,(.store (some 4)),[.t 4,.t 24],none⟩]
def c37r2 : List AOper := [
 oP 5 (.nilsl (some 5)) []]
def c37r3 : List AOper := [
 oP 6 (.nilsl (some 4)) []]
def c37r4 : List AOper := [
 oP 25 .mv [.t 0],
 oP 26 .len [.t 25],
 oP 27 .mv [.c (.pv none (.int .i64 0))]]
def c37r5 : List AOper := [
 oP 28 (.bin .lss) [.t 27,.t 26]]
def c37k6 : ACode := (.cond (.t 28) .skip (.exit 0))
def c37r7 : List AOper := [
 oP 29 .mv [.t 27],
 oP 30 (.iaddr (some 4)) [.t 25,.t 27],
 oP 31 (.load (some 4)) [.t 30],
 oP 8 aZ [],
 oP 7 .mv [.t 29],
 ⟨none,(.store (some 4)),[.t 8,.t 31],none⟩]
def c37r8 : List AOper := [
 oP 32 .mv [.t 6],
 oP 33 (.faddr 3) [.t 8],
 oP 34 (.load none) [.t 33],
 oP 35 (.iaddr (some 4)) [.t 34,.c (.pv none (.int .i64 1))],
 oP 36 (.load (some 4)) [.t 35],
 oP 37 (.bslice (some 4)) [.t 36],
 oP 38 (.append (some 4)) [.t 32,.t 37],
 oP 6 .mv [.t 38]]
def c37r9 : List AOper := [
 oP 39 .mv [.t 7],
 oP 40 (.bin .eql) [.t 39,.c (.pv none (.int .i64 0))]]
def c37k10 : ACode := (.cond (.t 40) (.exit 1) .skip)
def c37r11 : List AOper := [
 oP 42 .mv [.t 5],
 oP 43 (.faddr 3) [.t 8],
 oP 44 (.load none) [.t 43],
 oP 45 (.iaddr (some 4)) [.t 44,.c (.pv none (.int .i64 0))],
 oP 46 (.load (some 4)) [.t 45],
 oP 47 (.load (some 4)) [.t 4],
 oP 48 .call [.c (.pv none (.func (.func 85))),.t 42,.t 46,.t 47],
 oP 41 .mv [.t 48],
 oP 49 (.extract 0) [.t 41],
 oP 50 (.extract 1) [.t 41],
 oP 9 .mv [.t 49],
 oP 10 .mv [.t 50]]
def c37r12 : List AOper := [
 oP 51 .mv [.t 10],
 oP 52 (.bin .neq) [.t 51,.c (.pv none (.int .i64 0))]]
def c37r13 : List AOper := [
 oP 53 (bZ []) [],
 oP 54 .mv [.t 10],
 ⟨none,(.store (some 4)),[.t 2,.t 53],none⟩,
 oP 3 .mv [.t 54]]
def c37k14 : ACode := (.cond (.t 52) (.seq (.region true c37r13 [2,3]) .ret) .skip)
def c37r15 : List AOper := [
 oP 55 .mv [.t 9],
 oP 5 .mv [.t 55]]
def c37k16 : ACode := (.block 1 (.seq (.region true c37r7 [2,4,5,6,7,8,25,26,27]) (.seq (.region true c37r8 [2,4,5,6,7,8,25,26,27]) (.seq (.seq (.region true c37r9 [2,4,5,6,8,25,26,27,40]) c37k10) (.seq (.region true c37r11 [2,4,6,9,10,25,26,27]) (.seq (.seq (.region true c37r12 [2,4,6,9,10,25,26,27,52]) c37k14) (.region true c37r15 [2,4,5,6,25,26,27])))))))
def c37r17 : List AOper := [
 oP 56 (.bin .add) [.t 27,.c (.pv none (.int .i64 1))],
 oP 27 .mv [.t 56]]
def c37b18 : ACode := (.seq (.region true c37r5 [2,4,5,6,25,26,27,28]) (.seq c37k6 (.seq c37k16 (.region true c37r17 [2,4,5,6,25,26,27]))))
def c37k19 : ACode := (.block 0 (.loop [2,4,5,6,25,26,27] c37b18))
def c37r20 : List AOper := [
 oP 58 .mv [.t 5],
 oP 59 (.load (some 4)) [.t 4],
 oP 60 .call [.c (.pv none (.func (.func 86))),.t 58,.t 59],
 oP 57 .mv [.t 60],
 oP 61 (.extract 0) [.t 57],
 oP 62 (.extract 1) [.t 57],
 oP 11 aZ [],
 ⟨none,(.store (some 4)),[.t 11,.t 61],none⟩,
 oP 12 .mv [.t 62]]
def c37r21 : List AOper := [
 oP 63 .mv [.t 12],
 oP 64 (.bin .neq) [.t 63,.c (.pv none (.int .i64 0))]]
def c37r22 : List AOper := [
 oP 65 (bZ []) [],
 oP 66 .mv [.t 12],
 ⟨none,(.store (some 4)),[.t 2,.t 65],none⟩,
 oP 3 .mv [.t 66]]
def c37k23 : ACode := (.cond (.t 64) (.seq (.region true c37r22 [2,3]) .ret) .skip)
def c37r24 : List AOper := [
 oP 13 (.nilsl (some 4)) []]
def c37r25 : List AOper := [
 oP 67 .mv [.t 6],
 oP 68 .len [.t 67],
 oP 69 .mv [.c (.pv none (.int .i64 0))]]
def c37r26 : List AOper := [
 oP 70 (.bin .lss) [.t 69,.t 68]]
def c37k27 : ACode := (.cond (.t 70) .skip (.exit 2))
def c37r28 : List AOper := [
 oP 71 (.iaddr (some 4)) [.t 67,.t 69],
 oP 72 (.load (some 4)) [.t 71],
 oP 15 aZ [],
 ⟨none,(.store (some 4)),[.t 15,.t 72],none⟩]
def c37r29 : List AOper := [
 oP 74 .mv [.t 5],
 oP 75 (.load (some 4)) [.t 15],
 oP 76 .call [.c (.pv none (.func (.func 86))),.t 74,.t 75],
 oP 73 .mv [.t 76],
 oP 77 (.extract 0) [.t 73],
 oP 78 (.extract 1) [.t 73],
 oP 16 aZ [],
 ⟨none,(.store (some 4)),[.t 16,.t 77],none⟩,
 oP 17 .mv [.t 78]]
def c37r30 : List AOper := [
 oP 79 .mv [.t 17],
 oP 80 (.bin .neq) [.t 79,.c (.pv none (.int .i64 0))]]
def c37r31 : List AOper := [
 oP 81 (bZ []) [],
 oP 82 .mv [.t 17],
 ⟨none,(.store (some 4)),[.t 2,.t 81],none⟩,
 oP 3 .mv [.t 82]]
def c37k32 : ACode := (.cond (.t 80) (.seq (.region true c37r31 [2,3]) .ret) .skip)
def c37r33 : List AOper := [
 oP 83 .mv [.t 13],
 oP 84 (.load (some 4)) [.t 16],
 oP 85 (.bslice (some 4)) [.t 84],
 oP 86 (.append (some 4)) [.t 83,.t 85],
 oP 13 .mv [.t 86]]
def c37k34 : ACode := (.block 3 (.seq (.region true c37r28 [2,5,11,13,15,67,68,69]) (.seq (.region true c37r29 [2,5,11,13,16,17,67,68,69]) (.seq (.seq (.region true c37r30 [2,5,11,13,16,17,67,68,69,80]) c37k32) (.region true c37r33 [2,5,11,13,67,68,69])))))
def c37r35 : List AOper := [
 oP 87 (.bin .add) [.t 69,.c (.pv none (.int .i64 1))],
 oP 69 .mv [.t 87]]
def c37b36 : ACode := (.seq (.region true c37r26 [2,5,11,13,67,68,69,70]) (.seq c37k27 (.seq c37k34 (.region true c37r35 [2,5,11,13,67,68,69]))))
def c37k37 : ACode := (.block 2 (.loop [2,5,11,13,67,68,69] c37b36))
def c37r38 : List AOper := [
 oP 88 (.load (some 4)) [.t 11],
 oP 89 .mv [.t 13],
 oP 90 .callp [.c (.pv none (.func (.func 52))),.t 89],
 oP 91 (.bslicep (some 4)) [.t 88,.t 90],
 oP 92 .callp [.c (.pv none (.func (.func 51))),.c (.pv none (.str [45])),.t 91],
 oP 18 aZ [],
 ⟨none,(.store (some 4)),[.t 18,.t 92],none⟩]
def c37r39 : List AOper := [
 oP 93 (.load (some 4)) [.t 18],
 oP 94 .call [.c (.pv none (.func (.func 87))),.t 93],
 oP 95 (.bin .gtr) [.t 94,.c (.pv none (.int .i64 2000))]]
def c37r40 : List AOper := [
 oP 96 (bZ []) [],
 ⟨none,(.store (some 4)),[.t 2,.t 96],none⟩,
 oP 3 .mv [.c (.pv none (.int .i64 2))]]
def c37k41 : ACode := (.cond (.t 95) (.seq (.region true c37r40 [2,3]) .ret) .skip)
def c37r42 : List AOper := [
 oP 97 (.load (some 4)) [.t 18],
 ⟨none,(.store (some 4)),[.t 2,.t 97],none⟩,
 oP 3 .mv [.c (.pv none (.int .i64 0))]]
def c37 : ACode := (.seq (.region true c37r0 [0,2]) (.seq (.region true c37r1 [0,2,4]) (.seq (.region true c37r2 [0,2,4,5]) (.seq (.region true c37r3 [0,2,4,5,6]) (.seq (.seq (.region true c37r4 [2,4,5,6,25,26,27]) c37k19) (.seq (.region true c37r20 [2,5,6,11,12]) (.seq (.seq (.region true c37r21 [2,5,6,11,12,64]) c37k23) (.seq (.region true c37r24 [2,5,6,11,13]) (.seq (.seq (.region true c37r25 [2,5,11,13,67,68,69]) c37k37) (.seq (.seq (.settle [11,13]) (.region true c37r38 [2,18])) (.seq (.seq (.region true c37r39 [2,18,95]) c37k41) (.seq (.region true c37r42 [2,3]) .ret))))))))))))
def g37 : AFn := ⟨1,[(2,some (some 4)),(3,none)],c37,false,[],[],none⟩
theorem tr37 : trFn Tryz.prog false 37 Tryz.f37 = some g37 := by kernel_rfl
def c38r0 : List AOper := [
 oP 1 (.box (some 4)) [.t 0],
 oP 2 aZ []]
def c38r1 : List AOper := [
 oP 3 (.load (some 4)) [.t 1],
 oP 4 .call [.c (.pv none (.func (.func 45))),.t 3],
 oP 5 .not [.t 4]]
def c38r2 : List AOper := [
 oP 6 (bZ []) [],
 ⟨none,(.store (some 4)),[.t 2,.t 6],none⟩]
def c38k3 : ACode := (.cond (.t 5) (.seq (.region true c38r2 [2]) .ret) .skip)
def c38r4 : List AOper := [
 oP 7 (.load (some 4)) [.t 1],
 oP 8 .call [.c (.pv none (.func (.func 88))),.t 7,.c (.pv none (.func (.func 89)))],
 ⟨none,(.store (some 4)),[.t 2,.t 8],none⟩]
def c38 : ACode := (.seq (.region true c38r0 [1,2]) (.seq (.seq (.region true c38r1 [1,2,5]) c38k3) (.seq (.region true c38r4 [2]) .ret)))
def g38 : AFn := ⟨1,[(2,some (some 4))],c38,false,[],[],none⟩
theorem tr38 : trFn Tryz.prog false 38 Tryz.f38 = some g38 := by kernel_rfl
def c41r0 : List AOper := [
 oP 4 aZ []]
def c41r1 : List AOper := [
 oP 5 .mv [.t 0],
 oP 6 .mv [.t 1],
 oP 7 (bZ [0,2,3]) [.c (.pv none (.int .i64 3)),.t 5,.t 6],
 ⟨none,(.store (some 4)),[.t 4,.t 7],none⟩]
def c41 : ACode := (.seq (.region true c41r0 [0,1,4]) (.seq (.region true c41r1 [4]) .ret))
def g41 : AFn := ⟨2,[(4,some (some 4))],c41,false,[],[],none⟩
theorem tr41 : trFn Tryz.prog false 41 Tryz.f41 = some g41 := by kernel_rfl
def c42r0 : List AOper := [
 oP 2 aZ []]
def c42r1 : List AOper := [
 oP 5 (bZ [0,2]) [.c (.pv none (.int .i64 2)),.c (.pv none (.str [91,93]))],
 oP 3 aZ [],
 ⟨none,(.store (some 4)),[.t 3,.t 5],none⟩]
def c42r2 : List AOper := [
 oP 6 .mv [.t 0],
 oP 7 .len [.t 6],
 oP 8 (.bin .sub) [.t 7,.c (.pv none (.int .i64 1))],
 oP 4 .mv [.t 8]]
def c42r3 : List AOper := [
 oP 9 .mv [.t 4],
 oP 10 (.bin .geq) [.t 9,.c (.pv none (.int .i64 0))]]
def c42k4 : ACode := (.cond (.t 10) .skip (.exit 0))
def c42r5 : List AOper := [
 oP 13 .mv [.t 0],
 oP 14 .mv [.t 4],
 oP 15 (.iaddr (some 4)) [.t 13,.t 14],
 oP 16 (.load (some 4)) [.t 15],
 oP 17 (.load (some 4)) [.t 3],
 oP 18 (.bslice (some 4)) [.t 16,.t 17],
 oP 19 .call [.c (.pv none (.func (.func 41))),.c (.pv none (.str [46])),.t 18],
 ⟨none,(.store (some 4)),[.t 3,.t 19],none⟩]
def c42k6 : ACode := (.block 1 (.region true c42r5 [0,2,3,4]))
def c42r7 : List AOper := [
 oP 11 .mv [.t 4],
 oP 12 (.bin .sub) [.t 11,.c (.pv none (.int .i64 1))],
 oP 4 .mv [.t 12]]
def c42b8 : ACode := (.seq (.seq (.region true c42r3 [0,2,3,4,10]) c42k4) (.seq c42k6 (.region true c42r7 [0,2,3,4])))
def c42k9 : ACode := (.block 0 (.loop [0,2,3,4] c42b8))
def c42r10 : List AOper := [
 oP 20 (.load (some 4)) [.t 3],
 ⟨none,(.store (some 4)),[.t 2,.t 20],none⟩]
def c42 : ACode := (.seq (.region true c42r0 [0,2]) (.seq (.region true c42r1 [0,2,3]) (.seq (.seq (.region true c42r2 [0,2,3,4]) c42k9) (.seq (.region true c42r10 [2]) .ret))))
def g42 : AFn := ⟨1,[(2,some (some 4))],c42,false,[],[],none⟩
theorem tr42 : trFn Tryz.prog false 42 Tryz.f42 = some g42 := by kernel_rfl
def c43r0 : List AOper := [
 oP 1 (.box (some 4)) [.t 0],
 oP 2 .mv [.c (.pv none (.bool false))]]
def c43r1 : List AOper := [
 oP 3 (.load (some 4)) [.t 1],
 oP 4 .call [.c (.pv none (.func (.func 93))),.t 3],
 oP 5 (.bin .leq) [.t 4,.c (.pv none (.int .i64 2000))],
 oP 6 .mv [.t 5],
 ⟨some 7,(.load (some 4)),[.t 1],some (6,true)⟩,
 ⟨some 8,.call,[.c (.pv none (.func (.func 94))),.t 7],some (6,true)⟩,
 oP 9 .pick [.t 6,.t 8,.c (.pv none (.bool false))],
 oP 2 .mv [.t 9]]
def c43 : ACode := (.seq (.region true c43r0 [1]) (.seq (.region true c43r1 [2]) .ret))
def g43 : AFn := ⟨1,[(2,none)],c43,false,[],[],none⟩
theorem tr43 : trFn Tryz.prog false 43 Tryz.f43 = some g43 := by kernel_rfl
def c45r0 : List AOper := [
 oP 1 (.box (some 4)) [.t 0],
 oP 2 .mv [.c (.pv none (.bool false))]]
def c45r1 : List AOper := [
 oP 3 (.load (some 4)) [.t 1],
 oP 4 .call [.c (.pv none (.func (.func 87))),.t 3],
 oP 5 (.bin .leq) [.t 4,.c (.pv none (.int .i64 2000))],
 oP 6 .mv [.t 5],
 ⟨some 7,(.load (some 4)),[.t 1],some (6,true)⟩,
 ⟨some 8,.call,[.c (.pv none (.func (.func 96))),.t 7],some (6,true)⟩,
 oP 9 .pick [.t 6,.t 8,.c (.pv none (.bool false))],
 oP 2 .mv [.t 9]]
def c45 : ACode := (.seq (.region true c45r0 [1]) (.seq (.region true c45r1 [2]) .ret))
def g45 : AFn := ⟨1,[(2,none)],c45,false,[],[],none⟩
theorem tr45 : trFn Tryz.prog false 45 Tryz.f45 = some g45 := by kernel_rfl
def c46r0 : List AOper := [
 oP 2 (.box (some 4)) [.t 0],
 oP 3 (.box (some 4)) [.t 1],
 oP 4 .mv [.c (.pv none (.bool false))]]
def c46r1 : List AOper := [
 oP 5 (.load (some 4)) [.t 2],
 oP 6 .call [.c (.pv none (.func (.func 45))),.t 5],
 oP 7 .mv [.t 6],
 ⟨some 8,(.load (some 4)),[.t 3],some (7,true)⟩,
 ⟨some 9,.call,[.c (.pv none (.func (.func 45))),.t 8],some (7,true)⟩,
 oP 10 .pick [.t 7,.t 9,.c (.pv none (.bool false))],
 oP 11 .mv [.t 10],
 ⟨some 12,(.load (some 4)),[.t 2],some (11,true)⟩,
 ⟨some 13,(.load (some 4)),[.t 3],some (11,true)⟩,
 ⟨some 14,.call,[.c (.pv none (.func (.func 84))),.t 12,.t 13],some (11,true)⟩,
 oP 15 .pick [.t 11,.t 14,.c (.pv none (.bool false))],
 oP 4 .mv [.t 15]]
def c46 : ACode := (.seq (.region true c46r0 [2,3]) (.seq (.region true c46r1 [4]) .ret))
def g46 : AFn := ⟨2,[(4,none)],c46,false,[],[],none⟩
theorem tr46 : trFn Tryz.prog false 46 Tryz.f46 = some g46 := by kernel_rfl
def c47r0 : List AOper := [
 oP 1 (.box (some 4)) [.t 0],
 oP 2 aZ []]
def c47r1 : List AOper := [
 oP 4 (.load (some 4)) [.t 1],
 oP 5 .call [.c (.pv none (.func (.func 45))),.t 4],
 oP 6 .not [.t 5]]
def c47r2 : List AOper := [
 oP 7 (bZ []) [],
 ⟨none,(.store (some 4)),[.t 2,.t 7],none⟩]
def c47k3 : ACode := (.cond (.t 6) (.seq (.region true c47r2 [2]) .ret) .skip)
def c47r4 : List AOper := [
 oP 8 (.mkmap none) [],
 oP 3 (.alloc none (.pv none .nilmap)) [],
 ⟨none,(.store none),[.t 3,.t 8],none⟩]
def c47r5 : List AOper := [
 oP 9 (.load (some 4)) [.t 1],
 oP 10 (.mkfunc (.func 97) 0) [.t 3],
 oP 11 .call [.c (.pv none (.func (.func 88))),.t 9,.t 10],
 ⟨none,(.store (some 4)),[.t 2,.t 11],none⟩]
def c47 : ACode := (.seq (.region true c47r0 [1,2]) (.seq (.seq (.region true c47r1 [1,2,6]) c47k3) (.seq (.region true c47r4 [1,2,3]) (.seq (.region true c47r5 [2]) .ret))))
def g47 : AFn := ⟨1,[(2,some (some 4))],c47,false,[],[],none⟩
theorem tr47 : trFn Tryz.prog false 47 Tryz.f47 = some g47 := by kernel_rfl
def c48r0 : List AOper := [
 oP 1 (.box (some 4)) [.t 0],
 oP 2 (.nilsl (some 4)) [],
 oP 3 aZ [],
 oP 4 .mv [.c (.pv none (.bool false))]]
def c48r1 : List AOper := [
 oP 8 (.load (some 4)) [.t 1],
 oP 9 .call [.c (.pv none (.func (.func 98))),.t 8],
 oP 7 .mv [.t 9],
 oP 10 (.extract 0) [.t 7],
 oP 11 (.extract 1) [.t 7],
 oP 12 (.extract 2) [.t 7],
 oP 2 .mv [.t 10],
 ⟨none,(.store (some 4)),[.t 3,.t 11],none⟩,
 oP 4 .mv [.t 12]]
def c48r2 : List AOper := [
 oP 13 .mv [.t 4],
 oP 14 .not [.t 13]]
def c48r3 : List AOper := [
 oP 15 (.load (some 4)) [.t 3],
 oP 2 (.nilsl (some 4)) [],
 ⟨none,(.store (some 4)),[.t 3,.t 15],none⟩,
 oP 4 .mv [.c (.pv none (.bool false))]]
def c48k4 : ACode := (.cond (.t 14) (.seq (.region true c48r3 [2,3,4]) .ret) .skip)
def c48r5 : List AOper := [
 oP 16 .mv [.t 2],
 oP 17 .len [.t 16],
 oP 18 .mv [.c (.pv none (.int .i64 0))]]
def c48r6 : List AOper := [
 oP 19 (.bin .lss) [.t 18,.t 17]]
def c48k7 : ACode := (.cond (.t 19) .skip (.exit 0))
def c48r8 : List AOper := [
 oP 20 (.iaddr (some 4)) [.t 16,.t 18],
 oP 21 (.load (some 4)) [.t 20],
 oP 6 aZ [],
 ⟨none,(.store (some 4)),[.t 6,.t 21],none⟩]
def c48r9 : List AOper := [
 oP 22 (.faddr 0) [.t 6],
 oP 23 (.load none) [.t 22],
 oP 24 (.bin .eql) [.t 23,.c (.pv none (.int .i64 0))]]
def c48r10 : List AOper := [
 oP 25 .call [.c (.pv none (.func (.func 68)))],
 oP 2 (.nilsl (some 4)) [],
 ⟨none,(.store (some 4)),[.t 3,.t 25],none⟩,
 oP 4 .mv [.c (.pv none (.bool false))]]
def c48k11 : ACode := (.cond (.t 24) (.seq (.region true c48r10 [2,3,4]) .ret) .skip)
def c48r12 : List AOper := [
 oP 26 (.load (some 4)) [.t 6],
 oP 27 .call [.c (.pv none (.func (.func 67))),.t 26,.c (.pv none (.str [45])),.c (.pv none (.int .i64 2))],
 oP 28 .not [.t 27]]
def c48r13 : List AOper := [
 oP 29 (.load (some 4)) [.t 6],
 oP 30 .call [.c (.pv none (.func (.func 69))),.c (.pv none (.str [112,97,105,114])),.t 29],
 oP 2 (.nilsl (some 4)) [],
 ⟨none,(.store (some 4)),[.t 3,.t 30],none⟩,
 oP 4 .mv [.c (.pv none (.bool false))]]
def c48k14 : ACode := (.cond (.t 28) (.seq (.region true c48r13 [2,3,4]) .ret) .skip)
def c48k15 : ACode := (.block 1 (.seq (.region true c48r8 [2,3,6,16,17,18]) (.seq (.seq (.region true c48r9 [2,3,6,16,17,18,24]) c48k11) (.seq (.region true c48r12 [2,3,6,16,17,18,28]) c48k14))))
def c48r16 : List AOper := [
 oP 31 (.bin .add) [.t 18,.c (.pv none (.int .i64 1))],
 oP 18 .mv [.t 31]]
def c48b17 : ACode := (.seq (.region true c48r6 [2,3,16,17,18,19]) (.seq c48k7 (.seq c48k15 (.region true c48r16 [2,3,16,17,18]))))
def c48k18 : ACode := (.block 0 (.loop [2,3,16,17,18] c48b17))
def c48r19 : List AOper := [
 oP 32 .mv [.t 2],
 oP 33 (bZ []) [],
 oP 2 .mv [.t 32],
 ⟨none,(.store (some 4)),[.t 3,.t 33],none⟩,
 oP 4 .mv [.c (.pv none (.bool true))]]
def c48 : ACode := (.seq (.region true c48r0 [1,3]) (.seq (.region true c48r1 [2,3,4]) (.seq (.seq (.region true c48r2 [2,3,14]) c48k4) (.seq (.seq (.region true c48r5 [2,3,16,17,18]) c48k18) (.seq (.region true c48r19 [2,3,4]) .ret)))))
def g48 : AFn := ⟨1,[(2,none),(3,some (some 4)),(4,none)],c48,false,[],[],none⟩
theorem tr48 : trFn Tryz.prog false 48 Tryz.f48 = some g48 := by kernel_rfl
def c49r0 : List AOper := [
 oP 0 (.nilsl (some 2)) []]
def c49r1 : List AOper := [
 oP 1 (.build [(none,(.pv none (.str []))),(none,(.pv none .nilfunc))] [0,1]) [.c (.pv none (.str [36,98,97,103])),.c (.pv none (.func (.func 99)))],
 oP 2 (.build [(none,(.pv none (.str []))),(none,(.pv none .nilfunc))] [0,1]) [.c (.pv none (.str [36,115,101,116])),.c (.pv none (.func (.func 100)))],
 oP 3 (.bslice (some 2)) [.t 1,.t 2],
 oP 0 .mv [.t 3]]
def c49 : ACode := (.seq (.region true c49r0 []) (.seq (.region true c49r1 [0]) .ret))
def g49 : AFn := ⟨0,[(0,none)],c49,false,[],[],none⟩
theorem tr49 : trFn Tryz.prog false 49 Tryz.f49 = some g49 := by kernel_rfl
def c50r0 : List AOper := [
 oP 1 (.box (some 4)) [.t 0],
 oP 2 (.nilsl (some 4)) [],
 oP 3 aZ []]
def c50r1 : List AOper := [
 oP 5 (.load (some 4)) [.t 1],
 oP 6 .call [.c (.pv none (.func (.func 45))),.t 5],
 oP 7 .not [.t 6]]
def c50r2 : List AOper := [
 oP 8 (bZ []) [],
 oP 2 (.nilsl (some 4)) [],
 ⟨none,(.store (some 4)),[.t 3,.t 8],none⟩]
def c50k3 : ACode := (.cond (.t 7) (.seq (.region true c50r2 [2,3]) .ret) .skip)
def c50r4 : List AOper := [
 oP 4 (.nilsl (some 4)) []]
def c50r5 : List AOper := [
 oP 9 (.faddr 0) [.t 1],
 oP 10 (.load none) [.t 9],
 oP 11 (.bin .eql) [.t 10,.c (.pv none (.int .i64 3))],
 oP 12 .mv [.t 11],
 ⟨some 13,(.faddr 2),[.t 1],some (12,true)⟩,
 ⟨some 14,(.load none),[.t 13],some (12,true)⟩,
 ⟨some 15,(.bin .eql),[.t 14,.c (.pv none (.str [46]))],some (12,true)⟩,
 oP 16 .pick [.t 12,.t 15,.c (.pv none (.bool false))],
 oP 17 .mv [.t 16],
 ⟨some 18,(.faddr 3),[.t 1],some (17,true)⟩,
 ⟨some 19,(.load none),[.t 18],some (17,true)⟩,
 ⟨some 20,.len,[.t 19],some (17,true)⟩,
 ⟨some 21,(.bin .eql),[.t 20,.c (.pv none (.int .i64 2))],some (17,true)⟩,
 oP 22 .pick [.t 17,.t 21,.c (.pv none (.bool false))]]
def c50k6 : ACode := (.cond (.t 22) .skip (.exit 0))
def c50r7 : List AOper := [
 oP 23 .mv [.t 4],
 oP 24 (.faddr 3) [.t 1],
 oP 25 (.load none) [.t 24],
 oP 26 (.iaddr (some 4)) [.t 25,.c (.pv none (.int .i64 0))],
 oP 27 (.load (some 4)) [.t 26],
 oP 28 .call [.c (.pv none (.func (.func 38))),.t 27],
 oP 29 (.bslice (some 4)) [.t 28],
 oP 30 (.append (some 4)) [.t 23,.t 29],
 oP 4 .mv [.t 30]]
def c50r8 : List AOper := [
 oP 31 (.faddr 3) [.t 1],
 oP 32 (.load none) [.t 31],
 oP 33 (.iaddr (some 4)) [.t 32,.c (.pv none (.int .i64 1))],
 oP 34 (.load (some 4)) [.t 33],
 ⟨none,(.store (some 4)),[.t 1,.t 34],none⟩]
def c50k9 : ACode := (.block 1 (.seq (.region true c50r7 [1,3,4]) (.region true c50r8 [1,3,4])))
def c50b10 : ACode := (.seq (.seq (.region true c50r5 [1,3,4,22]) c50k6) c50k9)
def c50k11 : ACode := (.block 0 (.loop [1,3,4] c50b10))
def c50r12 : List AOper := [
 oP 35 .mv [.t 4],
 oP 36 (.load (some 4)) [.t 1],
 oP 37 .call [.c (.pv none (.func (.func 38))),.t 36],
 oP 2 .mv [.t 35],
 ⟨none,(.store (some 4)),[.t 3,.t 37],none⟩]
def c50 : ACode := (.seq (.region true c50r0 [1,3]) (.seq (.seq (.region true c50r1 [1,3,7]) c50k3) (.seq (.region true c50r4 [1,3,4]) (.seq c50k11 (.seq (.region true c50r12 [2,3]) .ret)))))
def g50 : AFn := ⟨1,[(2,none),(3,some (some 4))],c50,false,[],[],none⟩
theorem tr50 : trFn Tryz.prog false 50 Tryz.f50 = some g50 := by kernel_rfl
def c51r0 : List AOper := [
 oP 4 aZ []]
def c51r1 : List AOper := [
 oP 5 .mv [.t 0],
 oP 6 .mv [.t 1],
 oP 7 (bZ [0,2,3]) [.c (.pv none (.int .i64 3)),.t 5,.t 6],
 ⟨none,(.store (some 4)),[.t 4,.t 7],none⟩]
def c51 : ACode := (.seq (.region true c51r0 [0,1,4]) (.seq (.region true c51r1 [4]) .ret))
def g51 : AFn := ⟨2,[(4,some (some 4))],c51,false,[],[],none⟩
theorem tr51 : trFn Tryz.prog false 51 Tryz.f51 = some g51 := by kernel_rfl
def c52r0 : List AOper := [
 oP 2 aZ []]
def c52r1 : List AOper := [
 oP 5 (bZ [0,2]) [.c (.pv none (.int .i64 2)),.c (.pv none (.str [91,93]))],
 oP 3 aZ [],
 ⟨none,(.store (some 4)),[.t 3,.t 5],none⟩]
def c52r2 : List AOper := [
 oP 6 .mv [.t 0],
 oP 7 .len [.t 6],
 oP 8 (.bin .sub) [.t 7,.c (.pv none (.int .i64 1))],
 oP 4 .mv [.t 8]]
def c52r3 : List AOper := [
 oP 9 .mv [.t 4],
 oP 10 (.bin .geq) [.t 9,.c (.pv none (.int .i64 0))]]
def c52k4 : ACode := (.cond (.t 10) .skip (.exit 0))
def c52r5 : List AOper := [
 oP 13 .mv [.t 0],
 oP 14 .mv [.t 4],
 oP 15 (.iaddr (some 4)) [.t 13,.t 14],
 oP 16 (.load (some 4)) [.t 15],
 oP 17 (.load (some 4)) [.t 3],
 oP 18 (.bslice (some 4)) [.t 16,.t 17],
 oP 19 .call [.c (.pv none (.func (.func 51))),.c (.pv none (.str [46])),.t 18],
 ⟨none,(.store (some 4)),[.t 3,.t 19],none⟩]
def c52k6 : ACode := (.block 1 (.region true c52r5 [0,2,3,4]))
def c52r7 : List AOper := [
 oP 11 .mv [.t 4],
 oP 12 (.bin .sub) [.t 11,.c (.pv none (.int .i64 1))],
 oP 4 .mv [.t 12]]
def c52b8 : ACode := (.seq (.seq (.region true c52r3 [0,2,3,4,10]) c52k4) (.seq c52k6 (.region true c52r7 [0,2,3,4])))
def c52k9 : ACode := (.block 0 (.loop [0,2,3,4] c52b8))
def c52r10 : List AOper := [
 oP 20 (.load (some 4)) [.t 3],
 ⟨none,(.store (some 4)),[.t 2,.t 20],none⟩]
def c52 : ACode := (.seq (.region true c52r0 [0,2]) (.seq (.region true c52r1 [0,2,3]) (.seq (.seq (.region true c52r2 [0,2,3,4]) c52k9) (.seq (.region true c52r10 [2]) .ret))))
def g52 : AFn := ⟨1,[(2,some (some 4))],c52,false,[],[],none⟩
theorem tr52 : trFn Tryz.prog false 52 Tryz.f52 = some g52 := by kernel_rfl
def c55r0 : List AOper := [
 oP 1 (.box (some 4)) [.t 0],
 oP 2 .mv [.c (.pv none (.bool false))]]
def c55r1 : List AOper := [
 oP 3 (.faddr 0) [.t 1],
 oP 4 (.load none) [.t 3],
 oP 5 (.bin .eql) [.t 4,.c (.pv none (.int .i64 3))],
 oP 6 .mv [.t 5],
 ⟨some 7,(.faddr 2),[.t 1],some (6,true)⟩,
 ⟨some 8,(.load none),[.t 7],some (6,true)⟩,
 ⟨some 9,(.bin .eql),[.t 8,.c (.pv none (.str [45]))],some (6,true)⟩,
 oP 10 .pick [.t 6,.t 9,.c (.pv none (.bool false))],
 oP 11 .mv [.t 10],
 ⟨some 12,(.faddr 3),[.t 1],some (11,true)⟩,
 ⟨some 13,(.load none),[.t 12],some (11,true)⟩,
 ⟨some 14,.len,[.t 13],some (11,true)⟩,
 ⟨some 15,(.bin .eql),[.t 14,.c (.pv none (.int .i64 2))],some (11,true)⟩,
 oP 16 .pick [.t 11,.t 15,.c (.pv none (.bool false))],
 oP 2 .mv [.t 16]]
def c55 : ACode := (.seq (.region true c55r0 [1]) (.seq (.region true c55r1 [2]) .ret))
def g55 : AFn := ⟨1,[(2,none)],c55,false,[],[],none⟩
theorem tr55 : trFn Tryz.prog false 55 Tryz.f55 = some g55 := by kernel_rfl
def c56r0 : List AOper := [
 oP 1 (.box (some 4)) [.t 0],
 oP 2 (.nilsl (some 4)) [],
 oP 3 aZ []]
def c56r1 : List AOper := [
 oP 5 (.load (some 4)) [.t 1],
 oP 6 .call [.c (.pv none (.func (.func 43))),.t 5],
 oP 7 .not [.t 6]]
def c56r2 : List AOper := [
 oP 8 (bZ []) [],
 oP 2 (.nilsl (some 4)) [],
 ⟨none,(.store (some 4)),[.t 3,.t 8],none⟩]
def c56k3 : ACode := (.cond (.t 7) (.seq (.region true c56r2 [2,3]) .ret) .skip)
def c56r4 : List AOper := [
 oP 4 (.nilsl (some 4)) []]
def c56r5 : List AOper := [
 oP 9 (.load (some 4)) [.t 1],
 oP 10 .call [.c (.pv none (.func (.func 102))),.t 9]]
def c56k6 : ACode := (.cond (.t 10) .skip (.exit 0))
def c56r7 : List AOper := [
 oP 11 .mv [.t 4],
 oP 12 (.faddr 3) [.t 1],
 oP 13 (.load none) [.t 12],
 oP 14 (.iaddr (some 4)) [.t 13,.c (.pv none (.int .i64 0))],
 oP 15 (.load (some 4)) [.t 14],
 oP 16 .call [.c (.pv none (.func (.func 103))),.t 15],
 oP 17 (.bslice (some 4)) [.t 16],
 oP 18 (.append (some 4)) [.t 11,.t 17],
 oP 4 .mv [.t 18]]
def c56r8 : List AOper := [
 oP 19 (.faddr 3) [.t 1],
 oP 20 (.load none) [.t 19],
 oP 21 (.iaddr (some 4)) [.t 20,.c (.pv none (.int .i64 1))],
 oP 22 (.load (some 4)) [.t 21],
 ⟨none,(.store (some 4)),[.t 1,.t 22],none⟩]
def c56k9 : ACode := (.block 1 (.seq (.region true c56r7 [1,3,4]) (.region true c56r8 [1,3,4])))
def c56b10 : ACode := (.seq (.seq (.region true c56r5 [1,3,4,10]) c56k6) c56k9)
def c56k11 : ACode := (.block 0 (.loop [1,3,4] c56b10))
def c56r12 : List AOper := [
 oP 23 .mv [.t 4],
 oP 24 (.load (some 4)) [.t 1],
 oP 25 .call [.c (.pv none (.func (.func 103))),.t 24],
 oP 2 .mv [.t 23],
 ⟨none,(.store (some 4)),[.t 3,.t 25],none⟩]
def c56 : ACode := (.seq (.region true c56r0 [1,3]) (.seq (.seq (.region true c56r1 [1,3,7]) c56k3) (.seq (.region true c56r4 [1,3,4]) (.seq c56k11 (.seq (.region true c56r12 [2,3]) .ret)))))
def g56 : AFn := ⟨1,[(2,none),(3,some (some 4))],c56,false,[],[],none⟩
theorem tr56 : trFn Tryz.prog false 56 Tryz.f56 = some g56 := by kernel_rfl
def c58r0 : List AOper := [
 oP 1 (.box (some 4)) [.t 0],
 oP 2 aZ []]
def c58r1 : List AOper := [
 oP 3 (.load (some 4)) [.t 1],
 oP 4 .call [.c (.pv none (.func (.func 43))),.t 3],
 oP 5 .not [.t 4]]
def c58r2 : List AOper := [
 oP 6 (bZ []) [],
 ⟨none,(.store (some 4)),[.t 2,.t 6],none⟩]
def c58k3 : ACode := (.cond (.t 5) (.seq (.region true c58r2 [2]) .ret) .skip)
def c58r4 : List AOper := [
 oP 7 (.load (some 4)) [.t 1],
 oP 8 .call [.c (.pv none (.func (.func 103))),.t 7],
 ⟨none,(.store (some 4)),[.t 2,.t 8],none⟩]
def c58 : ACode := (.seq (.region true c58r0 [1,2]) (.seq (.seq (.region true c58r1 [1,2,5]) c58k3) (.seq (.region true c58r4 [2]) .ret)))
def g58 : AFn := ⟨1,[(2,some (some 4))],c58,false,[],[],none⟩
theorem tr58 : trFn Tryz.prog false 58 Tryz.f58 = some g58 := by kernel_rfl
def c59r0 : List AOper := [
 oP 2 .mv [.c (.pv none (.bool false))]]
def c59r1 : List AOper := [
 oP 3 .mv [.c (.pv none (.int .i64 0))]]
def c59r2 : List AOper := [
 oP 4 .mv [.t 3],
 oP 5 .mv [.t 0],
 oP 6 .len [.t 5],
 oP 7 (.bin .lss) [.t 4,.t 6]]
def c59k3 : ACode := (.cond (.t 7) .skip (.exit 0))
def c59r4 : List AOper := [
 oP 10 .mv [.t 0],
 oP 11 .mv [.t 3],
 oP 12 (.iaddr (some 4)) [.t 10,.t 11],
 oP 13 (.load (some 4)) [.t 12],
 oP 14 .call [.c (.pv none (.func (.func 43))),.t 13],
 oP 15 .not [.t 14]]
def c59r5 : List AOper := [
 oP 2 .mv [.c (.pv none (.bool false))]]
def c59k6 : ACode := (.cond (.t 15) (.seq (.region true c59r5 [2]) .ret) .skip)
def c59k7 : ACode := (.block 1 (.seq (.region true c59r4 [0,3,15]) c59k6))
def c59r8 : List AOper := [
 oP 8 .mv [.t 3],
 oP 9 (.bin .add) [.t 8,.c (.pv none (.int .i64 1))],
 oP 3 .mv [.t 9]]
def c59b9 : ACode := (.seq (.seq (.region true c59r2 [0,3,7]) c59k3) (.seq c59k7 (.region true c59r8 [0,3])))
def c59k10 : ACode := (.block 0 (.loop [0,3] c59b9))
def c59r11 : List AOper := [
 oP 2 .mv [.c (.pv none (.bool true))]]
def c59 : ACode := (.seq (.region true c59r0 [0]) (.seq (.seq (.region true c59r1 [0,3]) c59k10) (.seq (.region true c59r11 [2]) .ret)))
def g59 : AFn := ⟨1,[(2,none)],c59,false,[],[],none⟩
theorem tr59 : trFn Tryz.prog false 59 Tryz.f59 = some g59 := by kernel_rfl
def c60r0 : List AOper := [
 oP 4 (.box (some 4)) [.t 1],
 oP 6 (.nilsl (some 4)) []]
def c60r1 : List AOper := [
 oP 9 .mv [.t 0],
 oP 10 .len [.t 9],
 oP 7 .mv [.t 10]]
def c60r2 : List AOper := [
 oP 11 .mv [.t 7],
 oP 12 (.bin .gtr) [.t 11,.c (.pv none (.int .i64 0))],
 oP 13 .mv [.t 12],
 ⟨some 14,.mv,[.t 0],some (13,true)⟩,
 ⟨some 15,.mv,[.t 7],some (13,true)⟩,
 ⟨some 16,(.bin .sub),[.t 15,.c (.pv none (.int .i64 1))],some (13,true)⟩,
 ⟨some 17,(.iaddr (some 4)),[.t 14,.t 16],some (13,true)⟩,
 ⟨some 18,(.load (some 4)),[.t 17],some (13,true)⟩,
 ⟨some 19,.mv,[.t 2],some (13,true)⟩,
 ⟨some 20,.callp,[.c (.pv none (.func (.func 106))),.t 18,.t 19],some (13,true)⟩,
 ⟨some 21,(.load (some 4)),[.t 4],some (13,true)⟩,
 ⟨some 22,.mv,[.t 2],some (13,true)⟩,
 ⟨some 23,.callp,[.c (.pv none (.func (.func 106))),.t 21,.t 22],some (13,true)⟩,
 ⟨some 24,.callp,[.c (.pv none (.func (.func 105))),.t 20,.t 23],some (13,true)⟩,
 ⟨some 25,(.bin .gtr),[.t 24,.c (.pv none (.int .i64 0))],some (13,true)⟩,
 oP 26 .pick [.t 13,.t 25,.c (.pv none (.bool false))]]
def c60k3 : ACode := (.cond (.t 26) .skip (.exit 0))
def c60r4 : List AOper := [
 oP 27 .mv [.t 7],
 oP 28 (.bin .sub) [.t 27,.c (.pv none (.int .i64 1))],
 oP 7 .mv [.t 28]]
def c60k5 : ACode := (.block 1 (.region true c60r4 [0,2,4,7]))
def c60b6 : ACode := (.seq (.seq (.seq (.settle [2,4]) (.region true c60r2 [0,2,4,7,26])) c60k3) c60k5)
def c60k7 : ACode := (.block 0 (.loop [0,2,4,7] c60b6))
def c60r8 : List AOper := [
 oP 8 (.nilsl (some 4)) []]
def c60r9 : List AOper := [
 oP 29 .mv [.t 8],
 oP 30 .mv [.t 0],
 oP 31 .mv [.t 7],
 oP 32 (.slice (some 4) false true) [.t 30,.t 31],
 oP 33 (.append (some 4)) [.t 29,.t 32],
 oP 8 .mv [.t 33]]
def c60r10 : List AOper := [
 oP 34 .mv [.t 8],
 oP 35 (.load (some 4)) [.t 4],
 oP 36 (.bslice (some 4)) [.t 35],
 oP 37 (.append (some 4)) [.t 34,.t 36],
 oP 8 .mv [.t 37]]
def c60r11 : List AOper := [
 oP 38 .mv [.t 8],
 oP 39 .mv [.t 0],
 oP 40 .mv [.t 7],
 oP 41 (.slice (some 4) true false) [.t 39,.t 40],
 oP 42 (.append (some 4)) [.t 38,.t 41],
 oP 6 .mv [.t 42]]
def c60 : ACode := (.seq (.region true c60r0 [0,2,4]) (.seq (.region true c60r1 [0,2,4,7]) (.seq c60k7 (.seq (.region true c60r8 [0,4,7,8]) (.seq (.region true c60r9 [0,4,7,8]) (.seq (.region true c60r10 [0,7,8]) (.seq (.region true c60r11 [6]) .ret)))))))
def g60 : AFn := ⟨3,[(6,none)],c60,false,[],[],none⟩
theorem tr60 : trFn Tryz.prog false 60 Tryz.f60 = some g60 := by kernel_rfl
def c61r0 : List AOper := [
 oP 1 (.box (some 4)) [.t 0],
 oP 2 aZ []]
def c61r1 : List AOper := [
 oP 6 (.load (some 4)) [.t 1],
 oP 3 aZ [],
 ⟨none,(.store (some 4)),[.t 3,.t 6],none⟩]
def c61r2 : List AOper := [
 oP 7 (.load (some 4)) [.t 1],
 oP 8 .call [.c (.pv none (.func (.func 65))),.t 7]]
def c61r3 : List AOper := [
 oP 12 (.load (some 4)) [.t 3],
 ⟨none,(.store (some 4)),[.t 2,.t 12],none⟩]
def c61p4 : ACode := (.seq (.region true c61r3 [2]) (.seq .ret .skip))
def c61r5 : List AOper := [
 oP 5 aZ [],
 ⟨none,(.store (some 4)),[.t 5,.t 10],none⟩]
def c61r6 : List AOper := [
 oP 11 (.load (some 4)) [.t 5],
 ⟨none,(.store (some 4)),[.t 3,.t 11],none⟩]
def c61k7 : ACode := (.block 1 (.region true c61r6 []))
def c61q8 : ACode := c61k7
def c61 : ACode := (.seq (.region true c61r0 [1,2]) (.seq (.region true c61r1 [1,2,3]) (.seq (.region true c61r2 [2,3,8]) .skip)))
def g61 : AFn := ⟨1,[(2,some (some 4))],c61,false,[(.range 61 (.t 8) [9,10] [3],c61p4)],[⟨[9,10],(.region true c61r5 [3,5]),c61q8⟩],none⟩
theorem tr61 : trFn Tryz.prog false 61 Tryz.f61 = some g61 := by kernel_rfl
def c62r0 : List AOper := [
 oP 1 (.box (some 4)) [.t 0],
 oP 2 aZ []]
def c62r1 : List AOper := [
 oP 3 (.load (some 4)) [.t 1],
 oP 4 .call [.c (.pv none (.func (.func 107))),.t 3]]
def c62k2 : ACode := (.cond (.t 4) .skip (.exit 0))
def c62r3 : List AOper := [
 oP 5 (.faddr 3) [.t 1],
 oP 6 (.load none) [.t 5],
 oP 7 (.iaddr (some 4)) [.t 6,.c (.pv none (.int .i64 1))],
 oP 8 (.load (some 4)) [.t 7],
 ⟨none,(.store (some 4)),[.t 1,.t 8],none⟩]
def c62k4 : ACode := (.block 1 (.region true c62r3 [1,2]))
def c62b5 : ACode := (.seq (.seq (.region true c62r1 [1,2,4]) c62k2) c62k4)
def c62k6 : ACode := (.block 0 (.loop [1,2] c62b5))
def c62r7 : List AOper := [
 oP 9 (.load (some 4)) [.t 1],
 ⟨none,(.store (some 4)),[.t 2,.t 9],none⟩]
def c62 : ACode := (.seq (.region true c62r0 [1,2]) (.seq c62k6 (.seq (.region true c62r7 [2]) .ret)))
def g62 : AFn := ⟨1,[(2,some (some 4))],c62,false,[],[],none⟩
theorem tr62 : trFn Tryz.prog false 62 Tryz.f62 = some g62 := by kernel_rfl
def c63r0 : List AOper := [
 oP 2 (.box (some 4)) [.t 0]]
def c63r1 : List AOper := [
 oP 5 (.load (some 4)) [.t 2],
 oP 6 .call [.c (.pv none (.func (.func 64))),.t 5],
 oP 7 .len [.t 6],
 oP 8 .mv [.c (.pv none (.int .i64 0))]]
def c63r2 : List AOper := [
 oP 9 (.bin .lss) [.t 8,.t 7]]
def c63k3 : ACode := (.cond (.t 9) .skip (.exit 0))
def c63r4 : List AOper := [
 oP 10 (.iaddr none) [.t 6,.t 8],
 oP 11 (.load none) [.t 10],
 oP 4 .mv [.t 11]]
def c63r5 : List AOper := [
 oP 12 (.load none) [.t 1],
 oP 13 .mv [.t 4],
 ⟨none,(.mapset false none),[.t 12,.t 13,.c (.pv none (.bool true))],none⟩]
def c63k6 : ACode := (.block 1 (.seq (.region true c63r4 [1,4,6,7,8]) (.region true c63r5 [1,6,7,8])))
def c63r7 : List AOper := [
 oP 14 (.bin .add) [.t 8,.c (.pv none (.int .i64 1))],
 oP 8 .mv [.t 14]]
def c63b8 : ACode := (.seq (.region true c63r2 [1,6,7,8,9]) (.seq c63k3 (.seq c63k6 (.region true c63r7 [1,6,7,8]))))
def c63k9 : ACode := (.block 0 (.loop [1,6,7,8] c63b8))
def c63 : ACode := (.seq (.region true c63r0 [1,2]) (.seq (.region true c63r1 [1,6,7,8]) c63k9))
def g63 : AFn := ⟨2,[],c63,true,[],[],none⟩
theorem tr63 : trFn Tryz.prog true 63 Tryz.f63 = some g63 := by kernel_rfl
def c64r0 : List AOper := [
 oP 1 (.box (some 4)) [.t 0],
 oP 2 (.nilsl none) []]
def c64r1 : List AOper := [
 oP 5 (.load (some 4)) [.t 1],
 oP 6 .call [.c (.pv none (.func (.func 45))),.t 5],
 oP 7 .not [.t 6]]
def c64r2 : List AOper := [
 oP 2 (.nilsl none) []]
def c64k3 : ACode := (.cond (.t 7) (.seq (.region true c64r2 [2]) .ret) .skip)
def c64r4 : List AOper := [
 oP 3 (.alloc none (.tsl none [])) []]
def c64r5 : List AOper := [
 oP 8 (.mkmap none) [],
 oP 4 (.alloc none (.pv none .nilmap)) [],
 ⟨none,(.store none),[.t 4,.t 8],none⟩]
def c64r6 : List AOper := [
 oP 9 (.load (some 4)) [.t 1],
 oP 10 (.mkfunc (.func 108) 0) [.t 4,.t 3],
 oP 11 .call [.c (.pv none (.func (.func 88))),.t 9,.t 10]]
def c64r7 : List AOper := [
 oP 12 (.load none) [.t 3],
 oP 2 .mv [.t 12]]
def c64 : ACode := (.seq (.region true c64r0 [1]) (.seq (.seq (.region true c64r1 [1,7]) c64k3) (.seq (.region true c64r4 [1,3]) (.seq (.region true c64r5 [1,3,4]) (.seq (.region true c64r6 [3]) (.seq (.region true c64r7 [2]) .ret))))))
def g64 : AFn := ⟨1,[(2,none)],c64,false,[],[],none⟩
theorem tr64 : trFn Tryz.prog false 64 Tryz.f64 = some g64 := by kernel_rfl
def c65r0 : List AOper := [
 oP 1 (.box (some 4)) [.t 0],
 oP 2 .mv [.c (.pv none .nilfunc)]]
def c65r1 : List AOper := [
 oP 3 (.mkfunc (.func 109) 0) [.t 1],
 oP 2 .mv [.t 3]]
def c65 : ACode := (.seq (.region true c65r0 [1]) (.seq (.region true c65r1 [2]) .ret))
def g65 : AFn := ⟨1,[(2,none)],c65,true,[],[],none⟩
theorem tr65 : trFn Tryz.prog true 65 Tryz.f65 = some g65 := by kernel_rfl
def c66r0 : List AOper := [
 oP 2 (.box (some 4)) [.t 0],
 oP 3 (.box (some 4)) [.t 1],
 oP 4 (.nilsl (some 4)) []]
def c66r1 : List AOper := [
 oP 10 (.load (some 4)) [.t 2],
 oP 11 .call [.c (.pv none (.func (.func 73))),.t 10],
 oP 5 .mv [.t 11]]
def c66r2 : List AOper := [
 oP 12 (.load (some 4)) [.t 3],
 oP 6 aZ [],
 ⟨none,(.store (some 4)),[.t 6,.t 12],none⟩]
def c66r3 : List AOper := [
 oP 13 (.load (some 4)) [.t 6],
 oP 14 .call [.c (.pv none (.func (.func 107))),.t 13]]
def c66k4 : ACode := (.cond (.t 14) .skip (.exit 0))
def c66r5 : List AOper := [
 oP 19 .mv [.t 5],
 oP 20 (.faddr 3) [.t 6],
 oP 21 (.load none) [.t 20],
 oP 22 (.iaddr (some 4)) [.t 21,.c (.pv none (.int .i64 0))],
 oP 23 (.load (some 4)) [.t 22],
 oP 24 .call [.c (.pv none (.func (.func 73))),.t 23],
 oP 25 (.append none) [.t 19,.t 24],
 oP 5 .mv [.t 25]]
def c66k6 : ACode := (.block 1 (.region true c66r5 [3,5,6]))
def c66r7 : List AOper := [
 oP 26 (.load (some 4)) [.t 6]]
def c66r8 : List AOper := [
 oP 6 aZ [],
 ⟨none,(.store (some 4)),[.t 6,.t 26],none⟩]
def c66r9 : List AOper := [
 oP 15 (.faddr 3) [.t 6],
 oP 16 (.load none) [.t 15],
 oP 17 (.iaddr (some 4)) [.t 16,.c (.pv none (.int .i64 1))],
 oP 18 (.load (some 4)) [.t 17],
 ⟨none,(.store (some 4)),[.t 6,.t 18],none⟩]
def c66b10 : ACode := (.seq (.seq (.region true c66r3 [3,5,6,14]) c66k4) (.seq c66k6 (.seq (.seq (.region true c66r7 [3,5,26]) (.region true c66r8 [3,5,6])) (.region true c66r9 [3,5,6]))))
def c66k11 : ACode := (.block 0 (.loop [3,5,6] c66b10))
def c66r12 : List AOper := [
 oP 7 (.nilsl (some 4)) []]
def c66r13 : List AOper := [
 oP 27 (.load (some 4)) [.t 3],
 oP 28 .call [.c (.pv none (.func (.func 73))),.t 27],
 oP 8 .mv [.t 28]]
def c66r14 : List AOper := [
 oP 9 .mv [.c (.pv none (.int .i64 0))]]
def c66r15 : List AOper := [
 oP 29 .mv [.t 9],
 oP 30 .mv [.t 8],
 oP 31 .len [.t 30],
 oP 32 (.bin .lss) [.t 29,.t 31]]
def c66k16 : ACode := (.cond (.t 32) .skip (.exit 2))
def c66r17 : List AOper := [
 oP 35 .mv [.t 5],
 oP 36 .mv [.t 8],
 oP 37 .mv [.t 9],
 oP 38 (.iaddr none) [.t 36,.t 37],
 oP 39 (.load none) [.t 38],
 oP 40 .call [.c (.pv none (.func (.func 110))),.t 35,.t 39],
 oP 41 .not [.t 40]]
def c66r18 : List AOper := [
 oP 42 .mv [.t 7],
 oP 43 .mv [.t 8],
 oP 44 .mv [.t 9],
 oP 45 (.iaddr none) [.t 43,.t 44],
 oP 46 (.load none) [.t 45],
 oP 47 (bZ [0,1]) [.c (.pv none (.int .i64 0)),.t 46],
 oP 48 (.bslice (some 4)) [.t 47],
 oP 49 (.append (some 4)) [.t 42,.t 48],
 oP 7 .mv [.t 49]]
def c66k19 : ACode := (.cond (.t 41) (.region true c66r18 [5,7,8,9]) .skip)
def c66k20 : ACode := (.block 3 (.seq (.region true c66r17 [5,7,8,9,41]) c66k19))
def c66r21 : List AOper := [
 oP 33 .mv [.t 9],
 oP 34 (.bin .add) [.t 33,.c (.pv none (.int .i64 1))],
 oP 9 .mv [.t 34]]
def c66b22 : ACode := (.seq (.seq (.region true c66r15 [5,7,8,9,32]) c66k16) (.seq c66k20 (.region true c66r21 [5,7,8,9])))
def c66k23 : ACode := (.block 2 (.loop [5,7,8,9] c66b22))
def c66r24 : List AOper := [
 oP 50 .mv [.t 7],
 oP 4 .mv [.t 50]]
def c66 : ACode := (.seq (.region true c66r0 [2,3]) (.seq (.region true c66r1 [3,5]) (.seq (.seq (.region true c66r2 [3,5,6]) c66k11) (.seq (.region true c66r12 [3,5,7]) (.seq (.region true c66r13 [5,7,8]) (.seq (.seq (.region true c66r14 [5,7,8,9]) c66k23) (.seq (.region true c66r24 [4]) .ret)))))))
def g66 : AFn := ⟨2,[(4,none)],c66,false,[],[],none⟩
theorem tr66 : trFn Tryz.prog false 66 Tryz.f66 = some g66 := by kernel_rfl
def c67r0 : List AOper := [
 oP 3 (.box (some 4)) [.t 0],
 oP 6 .mv [.c (.pv none (.bool false))]]
def c67r1 : List AOper := [
 oP 7 (.faddr 0) [.t 3],
 oP 8 (.load none) [.t 7],
 oP 9 (.bin .eql) [.t 8,.c (.pv none (.int .i64 3))],
 oP 10 .mv [.t 9],
 ⟨some 11,(.faddr 2),[.t 3],some (10,true)⟩,
 ⟨some 12,(.load none),[.t 11],some (10,true)⟩,
 ⟨some 13,.mv,[.t 1],some (10,true)⟩,
 ⟨some 14,(.bin .eql),[.t 12,.t 13],some (10,true)⟩,
 oP 15 .pick [.t 10,.t 14,.c (.pv none (.bool false))],
 oP 16 .mv [.t 15],
 ⟨some 17,(.faddr 3),[.t 3],some (16,true)⟩,
 ⟨some 18,(.load none),[.t 17],some (16,true)⟩,
 ⟨some 19,.len,[.t 18],some (16,true)⟩,
 ⟨some 20,.mv,[.t 2],some (16,true)⟩,
 ⟨some 21,(.bin .eql),[.t 19,.t 20],some (16,true)⟩,
 oP 22 .pick [.t 16,.t 21,.c (.pv none (.bool false))],
 oP 6 .mv [.t 22]]
def c67 : ACode := (.seq (.region true c67r0 [1,2,3]) (.seq (.region true c67r1 [6]) .ret))
def g67 : AFn := ⟨3,[(6,none)],c67,false,[],[],none⟩
theorem tr67 : trFn Tryz.prog false 67 Tryz.f67 = some g67 := by kernel_rfl
def c68r0 : List AOper := [
 oP 0 aZ []]
def c68r1 : List AOper := [
 oP 1 .call [.c (.pv none (.func (.func 111))),.c (.pv none (.str [105,110,115,116,97,110,116,105,97,116,105,111,110,95,101,114,114,111,114])),.c (.tsl (some 4) [])],
 ⟨none,(.store (some 4)),[.t 0,.t 1],none⟩]
def c68 : ACode := (.seq (.region true c68r0 [0]) (.seq (.region true c68r1 [0]) .ret))
def g68 : AFn := ⟨0,[(0,some (some 4))],c68,false,[],[],none⟩
theorem tr68 : trFn Tryz.prog false 68 Tryz.f68 = some g68 := by kernel_rfl
def c69r0 : List AOper := [
 oP 3 (.box (some 4)) [.t 1],
 oP 4 aZ []]
def c69r1 : List AOper := [
 oP 5 (.load (some 4)) [.t 3],
 oP 6 .mv [.t 0],
 oP 7 (.bslice none) [.t 6],
 oP 8 .call [.c (.pv none (.func (.func 112))),.t 5,.c (.pv none (.str [116,121,112,101,95,101,114,114,111,114])),.t 7],
 ⟨none,(.store (some 4)),[.t 4,.t 8],none⟩]
def c69 : ACode := (.seq (.region true c69r0 [0,3,4]) (.seq (.region true c69r1 [4]) .ret))
def g69 : AFn := ⟨2,[(4,some (some 4))],c69,false,[],[],none⟩
theorem tr69 : trFn Tryz.prog false 69 Tryz.f69 = some g69 := by kernel_rfl
def c70r0 : List AOper := [
 oP 1 (.box (some 4)) [.t 0],
 oP 2 .mv [.c (.pv none (.bool false))]]
def c70r1 : List AOper := [
 oP 6 (.load (some 4)) [.t 1],
 oP 7 .call [.c (.pv none (.func (.func 50))),.t 6],
 oP 5 .mv [.t 7],
 oP 8 (.extract 0) [.t 5],
 oP 9 (.extract 1) [.t 5],
 oP 4 aZ [],
 oP 3 .mv [.t 8],
 ⟨none,(.store (some 4)),[.t 4,.t 9],none⟩]
def c70r2 : List AOper := [
 oP 10 (.faddr 0) [.t 4],
 oP 11 (.load none) [.t 10],
 oP 12 (.bin .eql) [.t 11,.c (.pv none (.int .i64 0))],
 oP 13 .mv [.t 12],
 ⟨some 14,(.faddr 0),[.t 4],some (13,false)⟩,
 ⟨some 15,(.load none),[.t 14],some (13,false)⟩,
 ⟨some 16,(.bin .eql),[.t 15,.c (.pv none (.int .i64 2))],some (13,false)⟩,
 ⟨some 17,.mv,[.t 16],some (13,false)⟩,
 ⟨some 18,(.faddr 2),[.t 4],some (17,true)⟩,
 ⟨some 19,(.load none),[.t 18],some (17,true)⟩,
 ⟨some 20,(.bin .eql),[.t 19,.c (.pv none (.str [91,93]))],some (17,true)⟩,
 ⟨some 21,.pick,[.t 17,.t 20,.c (.pv none (.bool false))],some (13,false)⟩,
 oP 22 .pick [.t 13,.c (.pv none (.bool true)),.t 21],
 oP 2 .mv [.t 22]]
def c70 : ACode := (.seq (.region true c70r0 [1]) (.seq (.region true c70r1 [4]) (.seq (.region true c70r2 [2]) .ret)))
def g70 : AFn := ⟨1,[(2,none)],c70,false,[],[],none⟩
theorem tr70 : trFn Tryz.prog false 70 Tryz.f70 = some g70 := by kernel_rfl
def c71r0 : List AOper := [
 oP 1 (.box (some 4)) [.t 0],
 oP 2 .mv [.c (.pv none (.int .i64 0))]]
def c71r1 : List AOper := [
 oP 3 .mv [.c (.pv none (.int .i64 0))]]
def c71r2 : List AOper := [
 oP 6 (.load (some 4)) [.t 1],
 oP 7 .call [.c (.pv none (.func (.func 64))),.t 6],
 oP 8 .len [.t 7],
 oP 9 .mv [.c (.pv none (.int .i64 0))]]
def c71r3 : List AOper := [
 oP 10 (.bin .lss) [.t 9,.t 8]]
def c71k4 : ACode := (.cond (.t 10) .skip (.exit 0))
def c71r5 : List AOper := [
 oP 11 (.iaddr none) [.t 7,.t 9],
 oP 12 (.load none) [.t 11],
 oP 5 .mv [.t 12]]
def c71r6 : List AOper := [
 oP 13 .mv [.t 3],
 oP 14 .mv [.t 5],
 oP 15 (.bin .add) [.t 14,.c (.pv none (.int .i64 1))],
 oP 16 .max [.t 13,.t 15],
 oP 3 .mv [.t 16]]
def c71k7 : ACode := (.block 1 (.seq (.region true c71r5 [3,5,7,8,9]) (.region true c71r6 [3,7,8,9])))
def c71r8 : List AOper := [
 oP 17 (.bin .add) [.t 9,.c (.pv none (.int .i64 1))],
 oP 9 .mv [.t 17]]
def c71b9 : ACode := (.seq (.region true c71r3 [3,7,8,9,10]) (.seq c71k4 (.seq c71k7 (.region true c71r8 [3,7,8,9]))))
def c71k10 : ACode := (.block 0 (.loop [3,7,8,9] c71b9))
def c71r11 : List AOper := [
 oP 18 .mv [.t 3],
 oP 2 .mv [.t 18]]
def c71 : ACode := (.seq (.region true c71r0 [1]) (.seq (.region true c71r1 [1,3]) (.seq (.seq (.region true c71r2 [3,7,8,9]) c71k10) (.seq (.region true c71r11 [2]) .ret))))
def g71 : AFn := ⟨1,[(2,none)],c71,false,[],[],none⟩
theorem tr71 : trFn Tryz.prog false 71 Tryz.f71 = some g71 := by kernel_rfl
def c72r0 : List AOper := [
 oP 1 (.box (some 4)) [.t 0],
 oP 2 aZ [],
 oP 3 .mv [.c (.pv none (.bool false))]]
def c72r1 : List AOper := [
 oP 4 (.load (some 4)) [.t 1],
 oP 5 .call [.c (.pv none (.func (.func 43))),.t 4],
 oP 6 .not [.t 5]]
def c72r2 : List AOper := [
 oP 7 (bZ []) [],
 ⟨none,(.store (some 4)),[.t 2,.t 7],none⟩,
 oP 3 .mv [.c (.pv none (.bool false))]]
def c72k3 : ACode := (.cond (.t 6) (.seq (.region true c72r2 [2,3]) .ret) .skip)
def c72r4 : List AOper := [
 oP 8 (.faddr 0) [.t 1],
 oP 9 (.load none) [.t 8],
 oP 10 (.bin .eql) [.t 9,.c (.pv none (.int .i64 0))]]
def c72r5 : List AOper := [
 oP 11 .call [.c (.pv none (.func (.func 32)))],
 ⟨none,(.store (some 4)),[.t 2,.t 11],none⟩,
 oP 3 .mv [.c (.pv none (.bool false))]]
def c72k6 : ACode := (.cond (.t 10) (.seq (.region true c72r5 [2,3]) .ret) .skip)
def c72r7 : List AOper := [
 oP 12 (.faddr 0) [.t 1],
 oP 13 (.load none) [.t 12],
 oP 14 (.bin .eql) [.t 13,.c (.pv none (.int .i64 1))]]
def c72r8 : List AOper := [
 oP 15 (.load (some 4)) [.t 1],
 oP 16 .call [.c (.pv none (.func (.func 33))),.c (.pv none (.str [99,97,108,108,97,98,108,101])),.t 15],
 ⟨none,(.store (some 4)),[.t 2,.t 16],none⟩,
 oP 3 .mv [.c (.pv none (.bool false))]]
def c72k9 : ACode := (.cond (.t 14) (.seq (.region true c72r8 [2,3]) .ret) .skip)
def c72r10 : List AOper := [
 oP 17 (bZ []) [],
 ⟨none,(.store (some 4)),[.t 2,.t 17],none⟩,
 oP 3 .mv [.c (.pv none (.bool true))]]
def c72 : ACode := (.seq (.region true c72r0 [1,2]) (.seq (.seq (.region true c72r1 [1,2,6]) c72k3) (.seq (.seq (.region true c72r4 [1,2,10]) c72k6) (.seq (.seq (.region true c72r7 [1,2,14]) c72k9) (.seq (.region true c72r10 [2,3]) .ret)))))
def g72 : AFn := ⟨1,[(2,some (some 4)),(3,none)],c72,false,[],[],none⟩
theorem tr72 : trFn Tryz.prog false 72 Tryz.f72 = some g72 := by kernel_rfl
def c73r0 : List AOper := [
 oP 1 (.box (some 4)) [.t 0],
 oP 2 (.nilsl none) []]
def c73r1 : List AOper := [
 oP 3 (.load (some 4)) [.t 1],
 oP 4 .call [.c (.pv none (.func (.func 43))),.t 3],
 oP 5 .not [.t 4]]
def c73r2 : List AOper := [
 oP 2 (.nilsl none) []]
def c73k3 : ACode := (.cond (.t 5) (.seq (.region true c73r2 [2]) .ret) .skip)
def c73r4 : List AOper := [
 oP 6 (.load (some 4)) [.t 1],
 oP 7 .call [.c (.pv none (.func (.func 113))),.c (.tsl none []),.t 6],
 oP 2 .mv [.t 7]]
def c73 : ACode := (.seq (.region true c73r0 [1]) (.seq (.seq (.region true c73r1 [1,5]) c73k3) (.seq (.region true c73r4 [2]) .ret)))
def g73 : AFn := ⟨1,[(2,none)],c73,true,[],[],none⟩
theorem tr73 : trFn Tryz.prog true 73 Tryz.f73 = some g73 := by kernel_rfl
def c74r0 : List AOper := [
 oP 2 .mv [.c (.pv none (.bool false))]]
def c74r1 : List AOper := [
 oP 3 .mv [.t 0],
 oP 4 (.bin .geq) [.t 3,.c (.pv none (.int .i64 0))],
 oP 5 .mv [.t 4],
 ⟨some 6,.mv,[.t 0],some (5,true)⟩,
 ⟨some 7,(.bin .leq),[.t 6,.c (.pv none (.int .i64 1099511627776))],some (5,true)⟩,
 oP 8 .pick [.t 5,.t 7,.c (.pv none (.bool false))],
 oP 2 .mv [.t 8]]
def c74 : ACode := (.seq (.region true c74r0 [0]) (.seq (.region true c74r1 [2]) .ret))
def g74 : AFn := ⟨1,[(2,none)],c74,false,[],[],none⟩
theorem tr74 : trFn Tryz.prog false 74 Tryz.f74 = some g74 := by kernel_rfl
def c75r0 : List AOper := [
 oP 2 (.box (some 4)) [.t 0],
 oP 3 (.box (some 4)) [.t 1],
 oP 4 .mv [.c (.pv none (.bool false))]]
def c75r1 : List AOper := [
 oP 6 (.faddr 0) [.t 2],
 oP 7 (.load none) [.t 6],
 oP 8 (.faddr 0) [.t 3],
 oP 9 (.load none) [.t 8],
 oP 10 (.bin .neq) [.t 7,.t 9],
 oP 11 .mv [.t 10],
 ⟨some 12,(.faddr 1),[.t 2],some (11,false)⟩,
 ⟨some 13,(.load none),[.t 12],some (11,false)⟩,
 ⟨some 14,(.faddr 1),[.t 3],some (11,false)⟩,
 ⟨some 15,(.load none),[.t 14],some (11,false)⟩,
 ⟨some 16,(.bin .neq),[.t 13,.t 15],some (11,false)⟩,
 oP 17 .pick [.t 11,.c (.pv none (.bool true)),.t 16],
 oP 18 .mv [.t 17],
 ⟨some 19,(.faddr 2),[.t 2],some (18,false)⟩,
 ⟨some 20,(.load none),[.t 19],some (18,false)⟩,
 ⟨some 21,(.faddr 2),[.t 3],some (18,false)⟩,
 ⟨some 22,(.load none),[.t 21],some (18,false)⟩,
 ⟨some 23,(.bin .neq),[.t 20,.t 22],some (18,false)⟩,
 oP 24 .pick [.t 18,.c (.pv none (.bool true)),.t 23],
 oP 25 .mv [.t 24],
 ⟨some 26,(.faddr 3),[.t 2],some (25,false)⟩,
 ⟨some 27,(.load none),[.t 26],some (25,false)⟩,
 ⟨some 28,.len,[.t 27],some (25,false)⟩,
 ⟨some 29,(.faddr 3),[.t 3],some (25,false)⟩,
 ⟨some 30,(.load none),[.t 29],some (25,false)⟩,
 ⟨some 31,.len,[.t 30],some (25,false)⟩,
 ⟨some 32,(.bin .neq),[.t 28,.t 31],some (25,false)⟩,
 oP 33 .pick [.t 25,.c (.pv none (.bool true)),.t 32]]
def c75r2 : List AOper := [
 oP 4 .mv [.c (.pv none (.bool false))]]
def c75k3 : ACode := (.cond (.t 33) (.seq (.region true c75r2 [4]) .ret) .skip)
def c75r4 : List AOper := [
 oP 5 .mv [.c (.pv none (.int .i64 0))]]
def c75r5 : List AOper := [
 oP 34 .mv [.t 5],
 oP 35 (.faddr 3) [.t 2],
 oP 36 (.load none) [.t 35],
 oP 37 .len [.t 36],
 oP 38 (.bin .lss) [.t 34,.t 37]]
def c75k6 : ACode := (.cond (.t 38) .skip (.exit 0))
def c75r7 : List AOper := [
 oP 41 (.faddr 3) [.t 2],
 oP 42 (.load none) [.t 41],
 oP 43 .mv [.t 5],
 oP 44 (.iaddr (some 4)) [.t 42,.t 43],
 oP 45 (.load (some 4)) [.t 44],
 oP 46 (.faddr 3) [.t 3],
 oP 47 (.load none) [.t 46],
 oP 48 .mv [.t 5],
 oP 49 (.iaddr (some 4)) [.t 47,.t 48],
 oP 50 (.load (some 4)) [.t 49],
 oP 51 .call [.c (.pv none (.func (.func 75))),.t 45,.t 50],
 oP 52 .not [.t 51]]
def c75r8 : List AOper := [
 oP 4 .mv [.c (.pv none (.bool false))]]
def c75k9 : ACode := (.cond (.t 52) (.seq (.region true c75r8 [4]) .ret) .skip)
def c75k10 : ACode := (.block 1 (.seq (.region true c75r7 [2,3,5,52]) c75k9))
def c75r11 : List AOper := [
 oP 39 .mv [.t 5],
 oP 40 (.bin .add) [.t 39,.c (.pv none (.int .i64 1))],
 oP 5 .mv [.t 40]]
def c75b12 : ACode := (.seq (.seq (.region true c75r5 [2,3,5,38]) c75k6) (.seq c75k10 (.region true c75r11 [2,3,5])))
def c75k13 : ACode := (.block 0 (.loop [2,3,5] c75b12))
def c75r14 : List AOper := [
 oP 4 .mv [.c (.pv none (.bool true))]]
def c75 : ACode := (.seq (.region true c75r0 [2,3]) (.seq (.seq (.region true c75r1 [2,3,33]) c75k3) (.seq (.seq (.region true c75r4 [2,3,5]) c75k13) (.seq (.region true c75r14 [4]) .ret))))
def g75 : AFn := ⟨2,[(4,none)],c75,false,[],[],none⟩
theorem tr75 : trFn Tryz.prog false 75 Tryz.f75 = some g75 := by kernel_rfl
def c76r0 : List AOper := [
 oP 3 (.box (some 4)) [.t 1],
 oP 4 aZ []]
def c76r1 : List AOper := [
 oP 10 .mv [.t 0],
 oP 11 .len [.t 10],
 oP 12 (.bin .gtr) [.t 11,.c (.pv none (.int .i64 2000))],
 oP 13 .mv [.t 12],
 ⟨some 14,(.load (some 4)),[.t 3],some (13,false)⟩,
 ⟨some 15,.call,[.c (.pv none (.func (.func 45))),.t 14],some (13,false)⟩,
 ⟨some 16,.not,[.t 15],some (13,false)⟩,
 oP 17 .pick [.t 13,.c (.pv none (.bool true)),.t 16]]
def c76r2 : List AOper := [
 oP 18 (bZ []) [],
 ⟨none,(.store (some 4)),[.t 4,.t 18],none⟩]
def c76k3 : ACode := (.cond (.t 17) (.seq (.region true c76r2 [4]) .ret) .skip)
def c76r4 : List AOper := [
 oP 19 (.load (some 4)) [.t 3],
 oP 20 .call [.c (.pv none (.func (.func 87))),.t 19],
 oP 5 .mv [.t 20]]
def c76r5 : List AOper := [
 oP 21 .mv [.t 0],
 oP 22 .len [.t 21],
 oP 23 .mv [.c (.pv none (.int .i64 0))]]
def c76r6 : List AOper := [
 oP 24 (.bin .lss) [.t 23,.t 22]]
def c76k7 : ACode := (.cond (.t 24) .skip (.exit 0))
def c76r8 : List AOper := [
 oP 25 (.iaddr (some 4)) [.t 21,.t 23],
 oP 26 (.load (some 4)) [.t 25],
 oP 7 aZ [],
 ⟨none,(.store (some 4)),[.t 7,.t 26],none⟩]
def c76r9 : List AOper := [
 oP 27 .mv [.t 5],
 oP 28 (.load (some 4)) [.t 7],
 oP 29 .call [.c (.pv none (.func (.func 87))),.t 28],
 oP 30 (.bin .add) [.c (.pv none (.int .i64 1)),.t 29],
 oP 31 (.bin .add) [.t 27,.t 30],
 oP 5 .mv [.t 31]]
def c76r10 : List AOper := [
 oP 32 .mv [.t 5],
 oP 33 (.bin .gtr) [.t 32,.c (.pv none (.int .i64 2000))],
 oP 34 .mv [.t 33],
 ⟨some 35,(.load (some 4)),[.t 7],some (34,false)⟩,
 ⟨some 36,.call,[.c (.pv none (.func (.func 96))),.t 35],some (34,false)⟩,
 ⟨some 37,.not,[.t 36],some (34,false)⟩,
 oP 38 .pick [.t 34,.c (.pv none (.bool true)),.t 37]]
def c76r11 : List AOper := [
 oP 39 (bZ []) [],
 ⟨none,(.store (some 4)),[.t 4,.t 39],none⟩]
def c76k12 : ACode := (.cond (.t 38) (.seq (.region true c76r11 [4]) .ret) .skip)
def c76k13 : ACode := (.block 1 (.seq (.region true c76r8 [0,3,4,5,7,21,22,23]) (.seq (.region true c76r9 [0,3,4,5,7,21,22,23]) (.seq (.region true c76r10 [0,3,4,5,21,22,23,38]) c76k12))))
def c76r14 : List AOper := [
 oP 40 (.bin .add) [.t 23,.c (.pv none (.int .i64 1))],
 oP 23 .mv [.t 40]]
def c76b15 : ACode := (.seq (.region true c76r6 [0,3,4,5,21,22,23,24]) (.seq c76k7 (.seq c76k13 (.region true c76r14 [0,3,4,5,21,22,23]))))
def c76k16 : ACode := (.block 0 (.loop [0,3,4,5,21,22,23] c76b15))
def c76r17 : List AOper := [
 oP 41 (.load (some 4)) [.t 3],
 oP 42 .call [.c (.pv none (.func (.func 38))),.t 41],
 oP 8 aZ [],
 ⟨none,(.store (some 4)),[.t 8,.t 42],none⟩]
def c76r18 : List AOper := [
 oP 43 .mv [.t 0],
 oP 44 .len [.t 43],
 oP 45 (.bin .sub) [.t 44,.c (.pv none (.int .i64 1))],
 oP 9 .mv [.t 45]]
def c76r19 : List AOper := [
 oP 46 .mv [.t 9],
 oP 47 (.bin .geq) [.t 46,.c (.pv none (.int .i64 0))]]
def c76k20 : ACode := (.cond (.t 47) .skip (.exit 2))
def c76r21 : List AOper := [
 oP 50 .mv [.t 0],
 oP 51 .mv [.t 9],
 oP 52 (.iaddr (some 4)) [.t 50,.t 51],
 oP 53 (.load (some 4)) [.t 52],
 oP 54 .callp [.c (.pv none (.func (.func 38))),.t 53],
 oP 55 (.load (some 4)) [.t 8],
 oP 56 (.bslicep (some 4)) [.t 54,.t 55],
 oP 57 (bZ [0,2,3]) [.c (.pv none (.int .i64 3)),.c (.pv none (.str [46])),.t 56],
 ⟨none,(.store (some 4)),[.t 8,.t 57],none⟩]
def c76k22 : ACode := (.block 3 (.seq (.settle [8]) (.region true c76r21 [0,4,8,9])))
def c76r23 : List AOper := [
 oP 48 .mv [.t 9],
 oP 49 (.bin .sub) [.t 48,.c (.pv none (.int .i64 1))],
 oP 9 .mv [.t 49]]
def c76b24 : ACode := (.seq (.seq (.region true c76r19 [0,4,8,9,47]) c76k20) (.seq c76k22 (.region true c76r23 [0,4,8,9])))
def c76k25 : ACode := (.block 2 (.loop [0,4,8,9] c76b24))
def c76r26 : List AOper := [
 oP 58 (.load (some 4)) [.t 8],
 ⟨none,(.store (some 4)),[.t 4,.t 58],none⟩]
def c76 : ACode := (.seq (.region true c76r0 [0,3,4]) (.seq (.seq (.region true c76r1 [0,3,4,17]) c76k3) (.seq (.region true c76r4 [0,3,4,5]) (.seq (.seq (.region true c76r5 [0,3,4,5,21,22,23]) c76k16) (.seq (.region true c76r17 [0,4,8]) (.seq (.seq (.region true c76r18 [0,4,8,9]) c76k25) (.seq (.region true c76r26 [4]) .ret)))))))
def g76 : AFn := ⟨2,[(4,some (some 4))],c76,false,[],[],none⟩
theorem tr76 : trFn Tryz.prog false 76 Tryz.f76 = some g76 := by kernel_rfl
def c77r0 : List AOper := [
 oP 1 (.box (some 4)) [.t 0],
 oP 2 aZ []]
def c77r1 : List AOper := [
 oP 3 (.load (some 4)) [.t 1],
 oP 4 .callp [.c (.pv none (.func (.func 78))),.c (.pv none (.str [91,93]))],
 oP 5 (.bslicep (some 4)) [.t 3,.t 4],
 oP 6 .callp [.c (.pv none (.func (.func 114))),.c (.pv none (.str [101,114,114,111,114])),.t 5],
 oP 7 .callp [.c (.pv none (.func (.func 58))),.t 6],
 ⟨none,(.store (some 4)),[.t 2,.t 7],none⟩]
def c77 : ACode := (.seq (.region true c77r0 [1,2]) (.seq (.seq (.settle [1]) (.region true c77r1 [2])) .ret))
def g77 : AFn := ⟨1,[(2,some (some 4))],c77,false,[],[],none⟩
theorem tr77 : trFn Tryz.prog false 77 Tryz.f77 = some g77 := by kernel_rfl
def c78r0 : List AOper := [
 oP 2 aZ []]
def c78r1 : List AOper := [
 oP 3 .mv [.t 0],
 oP 4 (bZ [0,2]) [.c (.pv none (.int .i64 2)),.t 3],
 ⟨none,(.store (some 4)),[.t 2,.t 4],none⟩]
def c78 : ACode := (.seq (.region true c78r0 [0,2]) (.seq (.region true c78r1 [2]) .ret))
def g78 : AFn := ⟨1,[(2,some (some 4))],c78,false,[],[],none⟩
theorem tr78 : trFn Tryz.prog false 78 Tryz.f78 = some g78 := by kernel_rfl
def c79r0 : List AOper := [
 oP 3 (.box (some 4)) [.t 0],
 oP 6 aZ []]
def c79r1 : List AOper := [
 oP 9 (.load (some 4)) [.t 3],
 oP 10 .call [.c (.pv none (.func (.func 43))),.t 9],
 oP 11 .not [.t 10]]
def c79r2 : List AOper := [
 oP 12 (bZ []) [],
 ⟨none,(.store (some 4)),[.t 6,.t 12],none⟩]
def c79k3 : ACode := (.cond (.t 11) (.seq (.region true c79r2 [6]) .ret) .skip)
def c79r4 : List AOper := [
 oP 7 (.nilsl (some 4)) []]
def c79r5 : List AOper := [
 oP 8 .mv [.c (.pv none (.int .i64 0))]]
def c79r6 : List AOper := [
 oP 13 .mv [.t 8],
 oP 14 .mv [.t 2],
 oP 15 .len [.t 14],
 oP 16 (.bin .lss) [.t 13,.t 15]]
def c79k7 : ACode := (.cond (.t 16) .skip (.exit 0))
def c79r8 : List AOper := [
 oP 19 .mv [.t 7],
 oP 20 .mv [.t 2],
 oP 21 .mv [.t 8],
 oP 22 (.iaddr none) [.t 20,.t 21],
 oP 23 (.load none) [.t 22],
 oP 24 .call [.c (.pv none (.func (.func 78))),.t 23],
 oP 25 (.bslice (some 4)) [.t 24],
 oP 26 (.append (some 4)) [.t 19,.t 25],
 oP 7 .mv [.t 26]]
def c79k9 : ACode := (.block 1 (.region true c79r8 [1,2,3,6,7,8]))
def c79r10 : List AOper := [
 oP 17 .mv [.t 8],
 oP 18 (.bin .add) [.t 17,.c (.pv none (.int .i64 1))],
 oP 8 .mv [.t 18]]
def c79b11 : ACode := (.seq (.seq (.region true c79r6 [1,2,3,6,7,8,16]) c79k7) (.seq c79k9 (.region true c79r10 [1,2,3,6,7,8])))
def c79k12 : ACode := (.block 0 (.loop [1,2,3,6,7,8] c79b11))
def c79r13 : List AOper := [
 oP 27 .mv [.t 2],
 oP 28 .len [.t 27],
 oP 29 (.bin .add) [.c (.pv none (.int .i64 2)),.t 28],
 oP 30 (.load (some 4)) [.t 3],
 oP 31 .call [.c (.pv none (.func (.func 93))),.t 30],
 oP 32 (.bin .add) [.t 29,.t 31],
 oP 33 (.bin .add) [.t 32,.c (.pv none (.int .i64 1))],
 oP 34 (.bin .gtr) [.t 33,.c (.pv none (.int .i64 2000))]]
def c79r14 : List AOper := [
 oP 35 .call [.c (.pv none (.func (.func 78))),.c (.pv none (.str [46,46,46]))],
 ⟨none,(.store (some 4)),[.t 3,.t 35],none⟩]
def c79k15 : ACode := (.cond (.t 34) (.region true c79r14 [1,3,6,7]) .skip)
def c79r16 : List AOper := [
 oP 36 .mv [.t 1],
 oP 37 .mv [.t 7],
 oP 38 (.load (some 4)) [.t 3],
 oP 39 (.bslice (some 4)) [.t 38],
 oP 40 (.append (some 4)) [.t 37,.t 39],
 oP 41 .call [.c (.pv none (.func (.func 114))),.t 36,.t 40],
 oP 42 .call [.c (.pv none (.func (.func 77))),.t 41],
 ⟨none,(.store (some 4)),[.t 6,.t 42],none⟩]
def c79 : ACode := (.seq (.region true c79r0 [1,2,3,6]) (.seq (.seq (.region true c79r1 [1,2,3,6,11]) c79k3) (.seq (.region true c79r4 [1,2,3,6,7]) (.seq (.seq (.region true c79r5 [1,2,3,6,7,8]) c79k12) (.seq (.seq (.region true c79r13 [1,3,6,7,34]) c79k15) (.seq (.region true c79r16 [6]) .ret))))))
def g79 : AFn := ⟨3,[(6,some (some 4))],c79,false,[],[],none⟩
theorem tr79 : trFn Tryz.prog false 79 Tryz.f79 = some g79 := by kernel_rfl
def c80r0 : List AOper := [
 oP 2 .mv [.c (.pv none (.bool false))]]
def c80r1 : List AOper := [
 oP 5 .mv [.t 0],
 oP 6 .len [.t 5],
 oP 7 .mv [.c (.pv none (.int .i64 0))]]
def c80r2 : List AOper := [
 oP 8 (.bin .lss) [.t 7,.t 6]]
def c80k3 : ACode := (.cond (.t 8) .skip (.exit 0))
def c80r4 : List AOper := [
 oP 9 (.iaddr (some 4)) [.t 5,.t 7],
 oP 10 (.load (some 4)) [.t 9],
 oP 4 aZ [],
 ⟨none,(.store (some 4)),[.t 4,.t 10],none⟩]
def c80r5 : List AOper := [
 oP 11 (.load (some 4)) [.t 4],
 oP 12 .call [.c (.pv none (.func (.func 45))),.t 11],
 oP 13 .not [.t 12]]
def c80r6 : List AOper := [
 oP 2 .mv [.c (.pv none (.bool false))]]
def c80k7 : ACode := (.cond (.t 13) (.seq (.region true c80r6 [2]) .ret) .skip)
def c80k8 : ACode := (.block 1 (.seq (.region true c80r4 [4,5,6,7]) (.seq (.region true c80r5 [5,6,7,13]) c80k7)))
def c80r9 : List AOper := [
 oP 14 (.bin .add) [.t 7,.c (.pv none (.int .i64 1))],
 oP 7 .mv [.t 14]]
def c80b10 : ACode := (.seq (.region true c80r2 [5,6,7,8]) (.seq c80k3 (.seq c80k8 (.region true c80r9 [5,6,7]))))
def c80k11 : ACode := (.block 0 (.loop [5,6,7] c80b10))
def c80r12 : List AOper := [
 oP 2 .mv [.c (.pv none (.bool true))]]
def c80 : ACode := (.seq (.region true c80r0 [0]) (.seq (.seq (.region true c80r1 [5,6,7]) c80k11) (.seq (.region true c80r12 [2]) .ret)))
def g80 : AFn := ⟨1,[(2,none)],c80,false,[],[],none⟩
theorem tr80 : trFn Tryz.prog false 80 Tryz.f80 = some g80 := by kernel_rfl
def c81r0 : List AOper := [
 oP 4 (.nilsl (some 4)) []]
def c81r1 : List AOper := [
 oP 8 .mv [.t 0],
 oP 9 .len [.t 8],
 oP 10 (.mkslice (some 4) (.agg [(none,(.int .i64 0)),(none,(.int .i64 0)),(none,(.str [])),(none,(.sl (some 4) []))])) [.c (.pv none (.int .i64 0)),.t 9],
 oP 5 .mv [.t 10]]
def c81r2 : List AOper := [
 oP 11 .mv [.t 0],
 oP 12 .len [.t 11],
 oP 13 .mv [.c (.pv none (.int .i64 0))]]
def c81r3 : List AOper := [
 oP 14 (.bin .lss) [.t 13,.t 12]]
def c81k4 : ACode := (.cond (.t 14) .skip (.exit 0))
def c81r5 : List AOper := [
 oP 15 (.iaddr (some 4)) [.t 11,.t 13],
 oP 16 (.load (some 4)) [.t 15],
 oP 7 aZ [],
 ⟨none,(.store (some 4)),[.t 7,.t 16],none⟩]
def c81r6 : List AOper := [
 oP 17 .mv [.t 5],
 oP 18 (.load (some 4)) [.t 7],
 oP 19 .call [.c (.pv none (.func (.func 38))),.t 18],
 oP 20 (.bslice (some 4)) [.t 19],
 oP 21 (.append (some 4)) [.t 17,.t 20],
 oP 5 .mv [.t 21]]
def c81k7 : ACode := (.block 1 (.seq (.region true c81r5 [1,5,7,11,12,13]) (.region true c81r6 [1,5,11,12,13])))
def c81r8 : List AOper := [
 oP 22 (.bin .add) [.t 13,.c (.pv none (.int .i64 1))],
 oP 13 .mv [.t 22]]
def c81b9 : ACode := (.seq (.region true c81r3 [1,5,11,12,13,14]) (.seq c81k4 (.seq c81k7 (.region true c81r8 [1,5,11,12,13]))))
def c81k10 : ACode := (.block 0 (.loop [1,5,11,12,13] c81b9))
def c81r11 : List AOper := [
 oP 23 .mv [.t 5],
 oP 24 .mv [.t 1],
 oP 25 .call [.c (.pv none (.func (.func 115))),.t 23,.t 24]]
def c81r12 : List AOper := [
 oP 26 .mv [.t 5],
 oP 4 .mv [.t 26]]
def c81 : ACode := (.seq (.region true c81r0 [0,1]) (.seq (.region true c81r1 [0,1,5]) (.seq (.seq (.region true c81r2 [1,5,11,12,13]) c81k10) (.seq (.region true c81r11 [5]) (.seq (.region true c81r12 [4]) .ret)))))
def g81 : AFn := ⟨2,[(4,none)],c81,true,[],[],none⟩
theorem tr81 : trFn Tryz.prog true 81 Tryz.f81 = some g81 := by kernel_rfl
def c82r0 : List AOper := [
 oP 2 (.box (some 4)) [.t 0],
 oP 3 (.box (some 4)) [.t 1],
 oP 4 .mv [.c (.pv none (.int .i64 0))]]
def c82r1 : List AOper := [
 oP 5 (.faddr 3) [.t 2],
 oP 6 (.load none) [.t 5],
 oP 7 (.iaddr (some 4)) [.t 6,.c (.pv none (.int .i64 0))],
 oP 8 (.load (some 4)) [.t 7],
 oP 9 (.faddr 3) [.t 3],
 oP 10 (.load none) [.t 9],
 oP 11 (.iaddr (some 4)) [.t 10,.c (.pv none (.int .i64 0))],
 oP 12 (.load (some 4)) [.t 11],
 oP 13 .call [.c (.pv none (.func (.func 83))),.t 8,.t 12],
 oP 4 .mv [.t 13]]
def c82 : ACode := (.seq (.region true c82r0 [2,3]) (.seq (.region true c82r1 [4]) .ret))
def g82 : AFn := ⟨2,[(4,none)],c82,false,[],[],none⟩
theorem tr82 : trFn Tryz.prog false 82 Tryz.f82 = some g82 := by kernel_rfl
def c83r0 : List AOper := [
 oP 2 (.box (some 4)) [.t 0],
 oP 3 (.box (some 4)) [.t 1],
 oP 4 .mv [.c (.pv none (.int .i64 0))]]
def c83r1 : List AOper := [
 oP 12 (.build [(none,(.pv none (.int .i64 0))),(none,(.pv none (.int .i64 0))),(none,(.pv none (.int .i64 0))),(none,(.pv none (.int .i64 0)))] [0,1,2,3]) [.c (.pv none (.int .i64 0)),.c (.pv none (.int .i64 1)),.c (.pv none (.int .i64 2)),.c (.pv none (.int .i64 3))],
 oP 5 (.alloc (some 4) (.pv (some 4) (.agg [(none,(.int .i64 0)),(none,(.int .i64 0)),(none,(.int .i64 0)),(none,(.int .i64 0))]))) [],
 ⟨none,(.store (some 4)),[.t 5,.t 12],none⟩]
def c83r2 : List AOper := [
 oP 13 (.faddr 0) [.t 2],
 oP 14 (.load none) [.t 13],
 oP 15 (.iaddrA none 4) [.t 5,.t 14],
 oP 16 (.load none) [.t 15],
 oP 17 (.faddr 0) [.t 3],
 oP 18 (.load none) [.t 17],
 oP 19 (.iaddrA none 4) [.t 5,.t 18],
 oP 20 (.load none) [.t 19],
 oP 21 .call [.c (.pv none (.func (.func 116))),.t 16,.t 20],
 oP 6 .mv [.t 21]]
def c83r3 : List AOper := [
 oP 22 .mv [.t 6],
 oP 23 (.bin .neq) [.t 22,.c (.pv none (.int .i64 0))]]
def c83r4 : List AOper := [
 oP 24 .mv [.t 6],
 oP 4 .mv [.t 24]]
def c83k5 : ACode := (.cond (.t 23) (.seq (.region true c83r4 [4]) .ret) .skip)
def c83r6 : List AOper := [
 oP 25 (.faddr 0) [.t 2],
 oP 26 (.load none) [.t 25],
 oP 27 (.bin .eql) [.t 26,.c (.pv none (.int .i64 0))],
 oP 28 .mv [.t 27],
 ⟨some 29,(.faddr 0),[.t 2],some (28,false)⟩,
 ⟨some 30,(.load none),[.t 29],some (28,false)⟩,
 ⟨some 31,(.bin .eql),[.t 30,.c (.pv none (.int .i64 1))],some (28,false)⟩,
 oP 32 .pick [.t 28,.c (.pv none (.bool true)),.t 31]]
def c83r7 : List AOper := [
 oP 33 (.faddr 1) [.t 2],
 oP 34 (.load none) [.t 33],
 oP 35 (.faddr 1) [.t 3],
 oP 36 (.load none) [.t 35],
 oP 37 .call [.c (.pv none (.func (.func 117))),.t 34,.t 36],
 oP 4 .mv [.t 37]]
def c83k8 : ACode := (.cond (.t 32) (.seq (.region true c83r7 [4]) .ret) .skip)
def c83r9 : List AOper := [
 oP 38 (.faddr 3) [.t 2],
 oP 39 (.load none) [.t 38],
 oP 40 .len [.t 39],
 oP 41 (.faddr 3) [.t 3],
 oP 42 (.load none) [.t 41],
 oP 43 .len [.t 42],
 oP 44 .call [.c (.pv none (.func (.func 116))),.t 40,.t 43],
 oP 7 .mv [.t 44]]
def c83r10 : List AOper := [
 oP 45 .mv [.t 7],
 oP 46 (.bin .neq) [.t 45,.c (.pv none (.int .i64 0))]]
def c83r11 : List AOper := [
 oP 47 .mv [.t 7],
 oP 4 .mv [.t 47]]
def c83k12 : ACode := (.cond (.t 46) (.seq (.region true c83r11 [4]) .ret) .skip)
def c83r13 : List AOper := [
 oP 48 (.faddr 2) [.t 2],
 oP 49 (.load none) [.t 48],
 oP 50 (.faddr 2) [.t 3],
 oP 51 (.load none) [.t 50],
 oP 52 .call [.c (.pv none (.func (.func 118))),.t 49,.t 51],
 oP 8 .mv [.t 52]]
def c83r14 : List AOper := [
 oP 53 .mv [.t 8],
 oP 54 (.bin .neq) [.t 53,.c (.pv none (.int .i64 0))]]
def c83r15 : List AOper := [
 oP 55 .mv [.t 8],
 oP 4 .mv [.t 55]]
def c83k16 : ACode := (.cond (.t 54) (.seq (.region true c83r15 [4]) .ret) .skip)
def c83r17 : List AOper := [
 oP 56 (.faddr 3) [.t 2],
 oP 57 (.load none) [.t 56],
 oP 58 .len [.t 57],
 oP 59 .mv [.c (.pv none (.int .i64 0))]]
def c83r18 : List AOper := [
 oP 60 (.bin .lss) [.t 59,.t 58]]
def c83k19 : ACode := (.cond (.t 60) .skip (.exit 0))
def c83r20 : List AOper := [
 oP 61 .mv [.t 59],
 oP 62 (.iaddr (some 4)) [.t 57,.t 59],
 oP 63 (.load (some 4)) [.t 62],
 oP 10 aZ [],
 oP 9 .mv [.t 61],
 ⟨none,(.store (some 4)),[.t 10,.t 63],none⟩]
def c83r21 : List AOper := [
 oP 64 (.load (some 4)) [.t 10],
 oP 65 (.faddr 3) [.t 3],
 oP 66 (.load none) [.t 65],
 oP 67 .mv [.t 9],
 oP 68 (.iaddr (some 4)) [.t 66,.t 67],
 oP 69 (.load (some 4)) [.t 68],
 oP 70 .call [.c (.pv none (.func (.func 83))),.t 64,.t 69],
 oP 11 .mv [.t 70]]
def c83r22 : List AOper := [
 oP 71 .mv [.t 11],
 oP 72 (.bin .neq) [.t 71,.c (.pv none (.int .i64 0))]]
def c83r23 : List AOper := [
 oP 73 .mv [.t 11],
 oP 4 .mv [.t 73]]
def c83k24 : ACode := (.cond (.t 72) (.seq (.region true c83r23 [4]) .ret) .skip)
def c83k25 : ACode := (.block 1 (.seq (.region true c83r20 [3,9,10,57,58,59]) (.seq (.region true c83r21 [3,11,57,58,59]) (.seq (.region true c83r22 [3,11,57,58,59,72]) c83k24))))
def c83r26 : List AOper := [
 oP 74 (.bin .add) [.t 59,.c (.pv none (.int .i64 1))],
 oP 59 .mv [.t 74]]
def c83b27 : ACode := (.seq (.region true c83r18 [3,57,58,59,60]) (.seq c83k19 (.seq c83k25 (.region true c83r26 [3,57,58,59]))))
def c83k28 : ACode := (.block 0 (.loop [3,57,58,59] c83b27))
def c83r29 : List AOper := [
 oP 4 .mv [.c (.pv none (.int .i64 0))]]
def c83 : ACode := (.seq (.region true c83r0 [2,3]) (.seq (.region true c83r1 [2,3,5]) (.seq (.seq (.region true c83r2 [2,3,6]) (.seq (.region true c83r3 [2,3,6,23]) c83k5)) (.seq (.seq (.region true c83r6 [2,3,32]) c83k8) (.seq (.seq (.region true c83r9 [2,3,7]) (.seq (.region true c83r10 [2,3,7,46]) c83k12)) (.seq (.seq (.region true c83r13 [2,3,8]) (.seq (.region true c83r14 [2,3,8,54]) c83k16)) (.seq (.seq (.region true c83r17 [3,57,58,59]) c83k28) (.seq (.region true c83r29 [4]) .ret))))))))
def g83 : AFn := ⟨2,[(4,none)],c83,false,[],[],none⟩
theorem tr83 : trFn Tryz.prog false 83 Tryz.f83 = some g83 := by kernel_rfl
def c84r0 : List AOper := [
 oP 2 (.box (some 4)) [.t 0],
 oP 3 (.box (some 4)) [.t 1],
 oP 4 .mv [.c (.pv none (.bool false))]]
def c84r1 : List AOper := [
 oP 7 (.faddr 0) [.t 2],
 oP 8 (.load none) [.t 7],
 oP 9 (.faddr 0) [.t 3],
 oP 10 (.load none) [.t 9],
 oP 11 (.bin .neq) [.t 8,.t 10],
 oP 12 .mv [.t 11],
 ⟨some 13,(.faddr 1),[.t 2],some (12,false)⟩,
 ⟨some 14,(.load none),[.t 13],some (12,false)⟩,
 ⟨some 15,(.faddr 1),[.t 3],some (12,false)⟩,
 ⟨some 16,(.load none),[.t 15],some (12,false)⟩,
 ⟨some 17,(.bin .neq),[.t 14,.t 16],some (12,false)⟩,
 oP 18 .pick [.t 12,.c (.pv none (.bool true)),.t 17],
 oP 19 .mv [.t 18],
 ⟨some 20,(.faddr 2),[.t 2],some (19,false)⟩,
 ⟨some 21,(.load none),[.t 20],some (19,false)⟩,
 ⟨some 22,(.faddr 2),[.t 3],some (19,false)⟩,
 ⟨some 23,(.load none),[.t 22],some (19,false)⟩,
 ⟨some 24,(.bin .neq),[.t 21,.t 23],some (19,false)⟩,
 oP 25 .pick [.t 19,.c (.pv none (.bool true)),.t 24],
 oP 26 .mv [.t 25],
 ⟨some 27,(.faddr 3),[.t 2],some (26,false)⟩,
 ⟨some 28,(.load none),[.t 27],some (26,false)⟩,
 ⟨some 29,.len,[.t 28],some (26,false)⟩,
 ⟨some 30,(.faddr 3),[.t 3],some (26,false)⟩,
 ⟨some 31,(.load none),[.t 30],some (26,false)⟩,
 ⟨some 32,.len,[.t 31],some (26,false)⟩,
 ⟨some 33,(.bin .neq),[.t 29,.t 32],some (26,false)⟩,
 oP 34 .pick [.t 26,.c (.pv none (.bool true)),.t 33]]
def c84r2 : List AOper := [
 oP 4 .mv [.c (.pv none (.bool false))]]
def c84k3 : ACode := (.cond (.t 34) (.seq (.region true c84r2 [4]) .ret) .skip)
def c84r4 : List AOper := [
 oP 35 (.faddr 3) [.t 2],
 oP 36 (.load none) [.t 35],
 oP 37 .len [.t 36],
 oP 38 .mv [.c (.pv none (.int .i64 0))]]
def c84r5 : List AOper := [
 oP 39 (.bin .lss) [.t 38,.t 37]]
def c84k6 : ACode := (.cond (.t 39) .skip (.exit 0))
def c84r7 : List AOper := [
 oP 40 .mv [.t 38],
 oP 41 (.iaddr (some 4)) [.t 36,.t 38],
 oP 42 (.load (some 4)) [.t 41],
 oP 6 aZ [],
 oP 5 .mv [.t 40],
 ⟨none,(.store (some 4)),[.t 6,.t 42],none⟩]
def c84r8 : List AOper := [
 oP 43 (.load (some 4)) [.t 6],
 oP 44 (.faddr 3) [.t 3],
 oP 45 (.load none) [.t 44],
 oP 46 .mv [.t 5],
 oP 47 (.iaddr (some 4)) [.t 45,.t 46],
 oP 48 (.load (some 4)) [.t 47],
 oP 49 .call [.c (.pv none (.func (.func 84))),.t 43,.t 48],
 oP 50 .not [.t 49]]
def c84r9 : List AOper := [
 oP 4 .mv [.c (.pv none (.bool false))]]
def c84k10 : ACode := (.cond (.t 50) (.seq (.region true c84r9 [4]) .ret) .skip)
def c84k11 : ACode := (.block 1 (.seq (.region true c84r7 [3,5,6,36,37,38]) (.seq (.region true c84r8 [3,36,37,38,50]) c84k10)))
def c84r12 : List AOper := [
 oP 51 (.bin .add) [.t 38,.c (.pv none (.int .i64 1))],
 oP 38 .mv [.t 51]]
def c84b13 : ACode := (.seq (.region true c84r5 [3,36,37,38,39]) (.seq c84k6 (.seq c84k11 (.region true c84r12 [3,36,37,38]))))
def c84k14 : ACode := (.block 0 (.loop [3,36,37,38] c84b13))
def c84r15 : List AOper := [
 oP 4 .mv [.c (.pv none (.bool true))]]
def c84 : ACode := (.seq (.region true c84r0 [2,3]) (.seq (.seq (.region true c84r1 [2,3,34]) c84k3) (.seq (.seq (.region true c84r4 [3,36,37,38]) c84k14) (.seq (.region true c84r15 [4]) .ret))))
def g84 : AFn := ⟨2,[(4,none)],c84,false,[],[],none⟩
theorem tr84 : trFn Tryz.prog false 84 Tryz.f84 = some g84 := by kernel_rfl
def c85r0 : List AOper := [
 oP 4 (.box (some 4)) [.t 1],
 oP 5 (.box (some 4)) [.t 2],
 oP 6 (.alloc none (.tsl (some 5) [])) [],
 oP 7 (.alloc none (.pv none (.int .i64 0))) []]
def c85r1 : List AOper := [
 oP 9 .mv [.t 0],
 oP 10 .call [.c (.pv none (.func (.func 119))),.t 9],
 oP 11 .not [.t 10],
 oP 12 .mv [.t 11],
 ⟨some 13,(.load (some 4)),[.t 4],some (12,false)⟩,
 ⟨some 14,.call,[.c (.pv none (.func (.func 45))),.t 13],some (12,false)⟩,
 ⟨some 15,.not,[.t 14],some (12,false)⟩,
 oP 16 .pick [.t 12,.c (.pv none (.bool true)),.t 15],
 oP 17 .mv [.t 16],
 ⟨some 18,(.load (some 4)),[.t 5],some (17,false)⟩,
 ⟨some 19,.call,[.c (.pv none (.func (.func 45))),.t 18],some (17,false)⟩,
 ⟨some 20,.not,[.t 19],some (17,false)⟩,
 oP 21 .pick [.t 17,.c (.pv none (.bool true)),.t 20]]
def c85r2 : List AOper := [
 ⟨none,(.store none),[.t 6,.c (.tsl (some 5) [])],none⟩,
 ⟨none,(.store none),[.t 7,.c (.pv none (.int .i64 1))],none⟩]
def c85k3 : ACode := (.cond (.t 21) (.seq (.region true c85r2 [6,7]) .ret) .skip)
def c85r4 : List AOper := [
 oP 22 (.mkfunc (.func 120) 0) [.t 6,.t 7]]
def c85r5 : List AOper := [
 oP 23 .mv [.t 0],
 oP 24 .call [.c (.pv none (.func (.func 121))),.t 23],
 oP 25 (.build [(none,(.tsl (some 5) []))] [0]) [.t 24],
 oP 26 (.box (some 1)) [.t 25],
 oP 8 .mv [.t 26]]
def c85r6 : List AOper := [
 oP 27 .mv [.t 8],
 oP 28 (.load (some 4)) [.t 4],
 oP 29 (.load (some 4)) [.t 5],
 oP 30 .call [.c (.pv none (.func (.func 122))),.t 27,.t 28,.t 29]]
def c85r7 : List AOper := [
 oP 31 .mv [.t 8],
 oP 32 .nilcheck [.t 31],
 oP 33 (.faddr 0) [.t 32],
 oP 34 (.load none) [.t 33],
 ⟨none,(.store none),[.t 6,.t 34],none⟩,
 ⟨none,(.store none),[.t 7,.c (.pv none (.int .i64 0))],none⟩]
def c85p8 : ACode := (.seq (.region true c85r5 [4,5,6,7,8]) (.seq (.region true c85r6 [6,7,8]) (.seq (.region true c85r7 [6,7]) (.seq .ret .skip))))
def c85 : ACode := (.seq (.region true c85r0 [0,4,5,6,7]) (.seq (.region true c85r1 [0,4,5,6,7,21]) (.seq c85k3 (.region true c85r4 [0,4,5,6,7,22]))))
def g85 : AFn := ⟨3,[(6,some none),(7,some none)],c85,false,[(.dfr 22,c85p8)],[],none⟩
theorem tr85 : trFn Tryz.prog false 85 Tryz.f85 = some g85 := by kernel_rfl
def c86r0 : List AOper := [
 oP 3 (.box (some 4)) [.t 1],
 oP 4 aZ [],
 oP 5 .mv [.c (.pv none (.int .i64 0))]]
def c86r1 : List AOper := [
 oP 6 .mv [.t 0],
 oP 7 .call [.c (.pv none (.func (.func 119))),.t 6],
 oP 8 .not [.t 7],
 oP 9 .mv [.t 8],
 ⟨some 10,(.load (some 4)),[.t 3],some (9,false)⟩,
 ⟨some 11,.call,[.c (.pv none (.func (.func 45))),.t 10],some (9,false)⟩,
 ⟨some 12,.not,[.t 11],some (9,false)⟩,
 oP 13 .pick [.t 9,.c (.pv none (.bool true)),.t 12]]
def c86r2 : List AOper := [
 oP 14 (bZ []) [],
 ⟨none,(.store (some 4)),[.t 4,.t 14],none⟩,
 oP 5 .mv [.c (.pv none (.int .i64 1))]]
def c86k3 : ACode := (.cond (.t 13) (.seq (.region true c86r2 [4,5]) .ret) .skip)
def c86r4 : List AOper := [
 oP 15 .mv [.t 0],
 oP 16 (.load (some 4)) [.t 3],
 oP 17 (.mkmap none) [],
 oP 18 .call [.c (.pv none (.func (.func 123))),.t 15,.t 16,.t 17],
 oP 19 (.bin .gtr) [.t 18,.c (.pv none (.int .i64 2000))]]
def c86r5 : List AOper := [
 oP 20 (bZ []) [],
 ⟨none,(.store (some 4)),[.t 4,.t 20],none⟩,
 oP 5 .mv [.c (.pv none (.int .i64 2))]]
def c86k6 : ACode := (.cond (.t 19) (.seq (.region true c86r5 [4,5]) .ret) .skip)
def c86r7 : List AOper := [
 oP 21 .mv [.t 0],
 oP 22 (.load (some 4)) [.t 3],
 oP 23 .call [.c (.pv none (.func (.func 124))),.t 21,.t 22],
 ⟨none,(.store (some 4)),[.t 4,.t 23],none⟩,
 oP 5 .mv [.c (.pv none (.int .i64 0))]]
def c86 : ACode := (.seq (.region true c86r0 [0,3,4]) (.seq (.seq (.region true c86r1 [0,3,4,13]) c86k3) (.seq (.seq (.region true c86r4 [0,3,4,19]) c86k6) (.seq (.region true c86r7 [4,5]) .ret))))
def g86 : AFn := ⟨2,[(4,some (some 4)),(5,none)],c86,false,[],[],none⟩
theorem tr86 : trFn Tryz.prog false 86 Tryz.f86 = some g86 := by kernel_rfl
def c87r0 : List AOper := [
 oP 1 (.box (some 4)) [.t 0],
 oP 2 .mv [.c (.pv none (.int .i64 0))]]
def c87r1 : List AOper := [
 oP 3 (.alloc none (.pv none (.int .i64 0))) [],
 ⟨none,(.store none),[.t 3,.c (.pv none (.int .i64 2001))],none⟩]
def c87r2 : List AOper := [
 oP 4 (.alloc none (.pv none .nilfunc)) []]
def c87r3 : List AOper := [
 oP 5 (.mkfunc (.func 125) 0) [.t 3,.t 4],
 ⟨none,(.store none),[.t 4,.t 5],none⟩]
def c87r4 : List AOper := [
 oP 6 (.load none) [.t 4],
 oP 7 (.load (some 4)) [.t 1],
 oP 8 .call [.t 6,.t 7]]
def c87r5 : List AOper := [
 oP 9 (.load none) [.t 3],
 oP 10 (.bin .sub) [.c (.pv none (.int .i64 2001)),.t 9],
 oP 2 .mv [.t 10]]
def c87 : ACode := (.seq (.region true c87r0 [1]) (.seq (.region true c87r1 [1,3]) (.seq (.region true c87r2 [1,3,4]) (.seq (.region true c87r3 [1,3,4]) (.seq (.region true c87r4 [3]) (.seq (.region true c87r5 [2]) .ret))))))
def g87 : AFn := ⟨1,[(2,none)],c87,false,[],[],none⟩
theorem tr87 : trFn Tryz.prog false 87 Tryz.f87 = some g87 := by kernel_rfl
def c88r0 : List AOper := [
 oP 2 (.box (some 4)) [.t 0],
 oP 4 aZ []]
def c88r1 : List AOper := [
 oP 8 (.faddr 0) [.t 2],
 oP 9 (.load none) [.t 8],
 oP 10 (.bin .eql) [.t 9,.c (.pv none (.int .i64 0))]]
def c88r2 : List AOper := [
 oP 11 .mv [.t 1],
 oP 12 (.load (some 4)) [.t 2],
 oP 13 .call [.t 11,.t 12],
 ⟨none,(.store (some 4)),[.t 4,.t 13],none⟩]
def c88k3 : ACode := (.cond (.t 10) (.seq (.region true c88r2 [4]) .ret) .skip)
def c88r4 : List AOper := [
 oP 14 (.faddr 0) [.t 2],
 oP 15 (.load none) [.t 14],
 oP 16 (.faddr 1) [.t 2],
 oP 17 (.load none) [.t 16],
 oP 18 (.faddr 2) [.t 2],
 oP 19 (.load none) [.t 18],
 oP 20 (bZ [0,1,2]) [.t 15,.t 17,.t 19],
 oP 5 aZ [],
 ⟨none,(.store (some 4)),[.t 5,.t 20],none⟩]
def c88r5 : List AOper := [
 oP 21 (.faddr 3) [.t 2],
 oP 22 (.load none) [.t 21],
 oP 23 .len [.t 22],
 oP 24 .mv [.c (.pv none (.int .i64 0))]]
def c88r6 : List AOper := [
 oP 25 (.bin .lss) [.t 24,.t 23]]
def c88k7 : ACode := (.cond (.t 25) .skip (.exit 0))
def c88r8 : List AOper := [
 oP 26 (.iaddr (some 4)) [.t 22,.t 24],
 oP 27 (.load (some 4)) [.t 26],
 oP 7 aZ [],
 ⟨none,(.store (some 4)),[.t 7,.t 27],none⟩]
def c88r9 : List AOper := [
 oP 28 (.faddr 3) [.t 5],
 oP 29 (.load none) [.t 28],
 oP 30 (.load (some 4)) [.t 7],
 oP 31 .mv [.t 1],
 oP 32 (.calln 1) [.t 28,.c (.pv none (.func (.func 88))),.t 30,.t 31],
 oP 33 (.bslicen (some 4) 1) [.t 28,.t 32],
 oP 34 (.append (some 4)) [.t 29,.t 33],
 oP 35 (.faddr 3) [.t 5],
 ⟨none,(.store none),[.t 35,.t 34],none⟩]
def c88k10 : ACode := (.block 1 (.seq (.region true c88r8 [1,4,5,7,22,23,24]) (.region false c88r9 [1,4,5,22,23,24])))
def c88r11 : List AOper := [
 oP 36 (.bin .add) [.t 24,.c (.pv none (.int .i64 1))],
 oP 24 .mv [.t 36]]
def c88b12 : ACode := (.seq (.region true c88r6 [1,4,5,22,23,24,25]) (.seq c88k7 (.seq c88k10 (.region true c88r11 [1,4,5,22,23,24]))))
def c88k13 : ACode := (.block 0 (.loop [1,4,5,22,23,24] c88b12))
def c88r14 : List AOper := [
 oP 37 (.load (some 4)) [.t 5],
 ⟨none,(.store (some 4)),[.t 4,.t 37],none⟩]
def c88 : ACode := (.seq (.region true c88r0 [1,2,4]) (.seq (.seq (.region true c88r1 [1,2,4,10]) c88k3) (.seq (.region true c88r4 [1,2,4,5]) (.seq (.seq (.region true c88r5 [1,4,5,22,23,24]) c88k13) (.seq (.region true c88r14 [4]) .ret)))))
def g88 : AFn := ⟨2,[(4,some (some 4))],c88,true,[],[],none⟩
theorem tr88 : trFn Tryz.prog true 88 Tryz.f88 = some g88 := by kernel_rfl
def c89r0 : List AOper := [
 oP 1 (.box (some 4)) [.t 0],
 oP 2 aZ []]
def c89r1 : List AOper := [
 oP 3 (.load (some 4)) [.t 1],
 ⟨none,(.store (some 4)),[.t 2,.t 3],none⟩]
def c89 : ACode := (.seq (.region true c89r0 [1,2]) (.seq (.region true c89r1 [2]) .ret))
def g89 : AFn := ⟨1,[(2,some (some 4))],c89,false,[],[],none⟩
theorem tr89 : trFn Tryz.prog false 89 Tryz.f89 = some g89 := by kernel_rfl
def c93r0 : List AOper := [
 oP 1 (.box (some 4)) [.t 0],
 oP 2 .mv [.c (.pv none (.int .i64 0))]]
def c93r1 : List AOper := [
 oP 3 (.load (some 4)) [.t 1],
 oP 4 .call [.c (.pv none (.func (.func 129))),.t 3,.c (.pv none (.int .i64 2001))],
 oP 2 .mv [.t 4]]
def c93 : ACode := (.seq (.region true c93r0 [1]) (.seq (.region true c93r1 [2]) .ret))
def g93 : AFn := ⟨1,[(2,none)],c93,false,[],[],none⟩
theorem tr93 : trFn Tryz.prog false 93 Tryz.f93 = some g93 := by kernel_rfl
def c94r0 : List AOper := [
 oP 1 (.box (some 4)) [.t 0],
 oP 2 .mv [.c (.pv none (.bool false))]]
def c94r1 : List AOper := [
 oP 4 (.load (some 4)) [.t 1],
 oP 5 .call [.c (.pv none (.func (.func 130))),.t 4],
 oP 6 .not [.t 5]]
def c94r2 : List AOper := [
 oP 2 .mv [.c (.pv none (.bool false))]]
def c94k3 : ACode := (.cond (.t 6) (.seq (.region true c94r2 [2]) .ret) .skip)
def c94r4 : List AOper := [
 oP 3 .mv [.c (.pv none (.int .i64 0))]]
def c94r5 : List AOper := [
 oP 7 .mv [.t 3],
 oP 8 (.faddr 3) [.t 1],
 oP 9 (.load none) [.t 8],
 oP 10 .len [.t 9],
 oP 11 (.bin .lss) [.t 7,.t 10]]
def c94k6 : ACode := (.cond (.t 11) .skip (.exit 0))
def c94r7 : List AOper := [
 oP 14 (.faddr 3) [.t 1],
 oP 15 (.load none) [.t 14],
 oP 16 .mv [.t 3],
 oP 17 (.iaddr (some 4)) [.t 15,.t 16],
 oP 18 (.load (some 4)) [.t 17],
 oP 19 .call [.c (.pv none (.func (.func 94))),.t 18],
 oP 20 .not [.t 19]]
def c94r8 : List AOper := [
 oP 2 .mv [.c (.pv none (.bool false))]]
def c94k9 : ACode := (.cond (.t 20) (.seq (.region true c94r8 [2]) .ret) .skip)
def c94k10 : ACode := (.block 1 (.seq (.region true c94r7 [1,3,20]) c94k9))
def c94r11 : List AOper := [
 oP 12 .mv [.t 3],
 oP 13 (.bin .add) [.t 12,.c (.pv none (.int .i64 1))],
 oP 3 .mv [.t 13]]
def c94b12 : ACode := (.seq (.seq (.region true c94r5 [1,3,11]) c94k6) (.seq c94k10 (.region true c94r11 [1,3])))
def c94k13 : ACode := (.block 0 (.loop [1,3] c94b12))
def c94r14 : List AOper := [
 oP 2 .mv [.c (.pv none (.bool true))]]
def c94 : ACode := (.seq (.region true c94r0 [1]) (.seq (.seq (.region true c94r1 [1,6]) c94k3) (.seq (.seq (.region true c94r4 [1,3]) c94k13) (.seq (.region true c94r14 [2]) .ret))))
def g94 : AFn := ⟨1,[(2,none)],c94,false,[],[],none⟩
theorem tr94 : trFn Tryz.prog false 94 Tryz.f94 = some g94 := by kernel_rfl
def c96r0 : List AOper := [
 oP 1 (.box (some 4)) [.t 0],
 oP 2 .mv [.c (.pv none (.bool false))]]
def c96r1 : List AOper := [
 oP 3 .mv [.c (.pv none (.bool false))]]
def c96r2 : List AOper := [
 oP 5 (.faddr 0) [.t 1],
 oP 6 (.load none) [.t 5]]
def c96r3 : List AOper := [
 oP 8 (.bin .eql) [.t 6,.c (.pv none (.int .i64 0))],
 oP 7 .mv [.t 8]]
def c96r4 : List AOper := [
 oP 9 (.faddr 1) [.t 1],
 oP 10 (.load none) [.t 9],
 oP 11 (.bin .geq) [.t 10,.c (.pv none (.int .i64 0))],
 oP 12 .mv [.t 11],
 ⟨some 13,(.faddr 1),[.t 1],some (12,true)⟩,
 ⟨some 14,(.load none),[.t 13],some (12,true)⟩,
 ⟨some 15,(.bin .leq),[.t 14,.c (.pv none (.int .i64 1099511627776))],some (12,true)⟩,
 oP 16 .pick [.t 12,.t 15,.c (.pv none (.bool false))],
 oP 17 .mv [.t 16],
 ⟨some 18,(.faddr 2),[.t 1],some (17,true)⟩,
 ⟨some 19,(.load none),[.t 18],some (17,true)⟩,
 ⟨some 20,(.bin .eql),[.t 19,.c (.pv none (.str []))],some (17,true)⟩,
 oP 21 .pick [.t 17,.t 20,.c (.pv none (.bool false))],
 oP 22 .mv [.t 21],
 ⟨some 23,(.faddr 3),[.t 1],some (22,true)⟩,
 ⟨some 24,(.load none),[.t 23],some (22,true)⟩,
 ⟨some 25,.len,[.t 24],some (22,true)⟩,
 ⟨some 26,(.bin .eql),[.t 25,.c (.pv none (.int .i64 0))],some (22,true)⟩,
 oP 27 .pick [.t 22,.t 26,.c (.pv none (.bool false))],
 oP 3 .mv [.t 27]]
def c96r5 : List AOper := [
 oP 29 (.bin .eql) [.t 6,.c (.pv none (.int .i64 1))],
 oP 28 .mv [.t 29]]
def c96r6 : List AOper := [
 oP 30 (.faddr 2) [.t 1],
 oP 31 (.load none) [.t 30],
 oP 32 (.bin .eql) [.t 31,.c (.pv none (.str []))],
 oP 33 .mv [.t 32],
 ⟨some 34,(.faddr 3),[.t 1],some (33,true)⟩,
 ⟨some 35,(.load none),[.t 34],some (33,true)⟩,
 ⟨some 36,.len,[.t 35],some (33,true)⟩,
 ⟨some 37,(.bin .eql),[.t 36,.c (.pv none (.int .i64 0))],some (33,true)⟩,
 oP 38 .pick [.t 33,.t 37,.c (.pv none (.bool false))],
 oP 3 .mv [.t 38]]
def c96r7 : List AOper := [
 oP 40 (.bin .eql) [.t 6,.c (.pv none (.int .i64 2))],
 oP 39 .mv [.t 40]]
def c96r8 : List AOper := [
 oP 41 (.faddr 1) [.t 1],
 oP 42 (.load none) [.t 41],
 oP 43 (.bin .eql) [.t 42,.c (.pv none (.int .i64 0))],
 oP 44 .mv [.t 43],
 ⟨some 45,(.faddr 2),[.t 1],some (44,true)⟩,
 ⟨some 46,(.load none),[.t 45],some (44,true)⟩,
 ⟨some 47,.slen,[.t 46],some (44,true)⟩,
 ⟨some 48,(.bin .leq),[.t 47,.c (.pv none (.int .i64 100))],some (44,true)⟩,
 oP 49 .pick [.t 44,.t 48,.c (.pv none (.bool false))],
 oP 50 .mv [.t 49],
 ⟨some 51,(.faddr 3),[.t 1],some (50,true)⟩,
 ⟨some 52,(.load none),[.t 51],some (50,true)⟩,
 ⟨some 53,.len,[.t 52],some (50,true)⟩,
 ⟨some 54,(.bin .eql),[.t 53,.c (.pv none (.int .i64 0))],some (50,true)⟩,
 oP 55 .pick [.t 50,.t 54,.c (.pv none (.bool false))],
 oP 3 .mv [.t 55]]
def c96r9 : List AOper := [
 oP 57 (.bin .eql) [.t 6,.c (.pv none (.int .i64 3))],
 oP 56 .mv [.t 57]]
def c96r10 : List AOper := [
 oP 58 (.faddr 1) [.t 1],
 oP 59 (.load none) [.t 58],
 oP 60 (.bin .eql) [.t 59,.c (.pv none (.int .i64 0))],
 oP 61 .mv [.t 60],
 ⟨some 62,(.faddr 2),[.t 1],some (61,true)⟩,
 ⟨some 63,(.load none),[.t 62],some (61,true)⟩,
 ⟨some 64,.slen,[.t 63],some (61,true)⟩,
 ⟨some 65,(.bin .leq),[.t 64,.c (.pv none (.int .i64 100))],some (61,true)⟩,
 oP 66 .pick [.t 61,.t 65,.c (.pv none (.bool false))],
 oP 67 .mv [.t 66],
 ⟨some 68,(.faddr 3),[.t 1],some (67,true)⟩,
 ⟨some 69,(.load none),[.t 68],some (67,true)⟩,
 ⟨some 70,.len,[.t 69],some (67,true)⟩,
 ⟨some 71,(.bin .gtr),[.t 70,.c (.pv none (.int .i64 0))],some (67,true)⟩,
 oP 72 .pick [.t 67,.t 71,.c (.pv none (.bool false))],
 oP 73 .mv [.t 72],
 ⟨some 74,(.faddr 3),[.t 1],some (73,true)⟩,
 ⟨some 75,(.load none),[.t 74],some (73,true)⟩,
 ⟨some 76,.len,[.t 75],some (73,true)⟩,
 ⟨some 77,(.bin .leq),[.t 76,.c (.pv none (.int .i64 8))],some (73,true)⟩,
 oP 78 .pick [.t 73,.t 77,.c (.pv none (.bool false))],
 oP 3 .mv [.t 78]]
def c96k11 : ACode := (.cond (.t 56) (.region true c96r10 [1,3]) .skip)
def c96k12 : ACode := (.cond (.t 39) (.region true c96r8 [1,3]) (.seq (.region true c96r9 [1,3,56]) c96k11))
def c96k13 : ACode := (.cond (.t 28) (.region true c96r6 [1,3]) (.seq (.region true c96r7 [1,3,6,39]) c96k12))
def c96k14 : ACode := (.cond (.t 7) (.region true c96r4 [1,3]) (.seq (.region true c96r5 [1,3,6,28]) c96k13))
def c96k15 : ACode := (.block 0 (.seq (.region true c96r3 [1,3,6,7]) c96k14))
def c96r16 : List AOper := [
 oP 4 .mv [.c (.pv none (.int .i64 0))]]
def c96r17 : List AOper := [
 oP 79 .mv [.t 4],
 oP 80 (.faddr 3) [.t 1],
 oP 81 (.load none) [.t 80],
 oP 82 .len [.t 81],
 oP 83 (.bin .lss) [.t 79,.t 82],
 oP 84 .mv [.t 83],
 ⟨some 85,.mv,[.t 3],some (84,true)⟩,
 oP 86 .pick [.t 84,.t 85,.c (.pv none (.bool false))]]
def c96k18 : ACode := (.cond (.t 86) .skip (.exit 1))
def c96r19 : List AOper := [
 oP 89 (.faddr 3) [.t 1],
 oP 90 (.load none) [.t 89],
 oP 91 .mv [.t 4],
 oP 92 (.iaddr (some 4)) [.t 90,.t 91],
 oP 93 (.load (some 4)) [.t 92],
 oP 94 .call [.c (.pv none (.func (.func 96))),.t 93],
 oP 3 .mv [.t 94]]
def c96k20 : ACode := (.block 2 (.region true c96r19 [1,3,4]))
def c96r21 : List AOper := [
 oP 87 .mv [.t 4],
 oP 88 (.bin .add) [.t 87,.c (.pv none (.int .i64 1))],
 oP 4 .mv [.t 88]]
def c96b22 : ACode := (.seq (.seq (.region true c96r17 [1,3,4,86]) c96k18) (.seq c96k20 (.region true c96r21 [1,3,4])))
def c96k23 : ACode := (.block 1 (.loop [1,3,4] c96b22))
def c96r24 : List AOper := [
 oP 95 .mv [.t 3],
 oP 2 .mv [.t 95]]
def c96 : ACode := (.seq (.region true c96r0 [1]) (.seq (.region true c96r1 [1,3]) (.seq (.seq (.region true c96r2 [1,3,6]) c96k15) (.seq (.seq (.region true c96r16 [1,3,4]) c96k23) (.seq (.region true c96r24 [2]) .ret)))))
def g96 : AFn := ⟨1,[(2,none)],c96,false,[],[],none⟩
theorem tr96 : trFn Tryz.prog false 96 Tryz.f96 = some g96 := by kernel_rfl
def c97r0 : List AOper := [
 oP 2 (.box (some 4)) [.t 0],
 oP 3 aZ []]
def c97r1 : List AOper := [
 oP 7 (.load none) [.t 1],
 oP 8 (.faddr 1) [.t 2],
 oP 9 (.load none) [.t 8],
 oP 10 (.lookup false none (.pv none (.int .i64 0)) true) [.t 7,.t 9],
 oP 6 .mv [.t 10],
 oP 11 (.extract 0) [.t 6],
 oP 12 (.extract 1) [.t 6],
 oP 4 .mv [.t 11],
 oP 5 .mv [.t 12]]
def c97r2 : List AOper := [
 oP 13 .mv [.t 5],
 oP 14 .not [.t 13]]
def c97r3 : List AOper := [
 oP 15 (.load none) [.t 1],
 oP 16 .mlen [.t 15],
 oP 4 .mv [.t 16]]
def c97r4 : List AOper := [
 oP 17 (.load none) [.t 1],
 oP 18 (.faddr 1) [.t 2],
 oP 19 (.load none) [.t 18],
 oP 20 .mv [.t 4],
 ⟨none,(.mapset false none),[.t 17,.t 19,.t 20],none⟩]
def c97k5 : ACode := (.cond (.t 14) (.seq (.region true c97r3 [1,2,3,4]) (.region true c97r4 [3,4])) .skip)
def c97r6 : List AOper := [
 oP 21 .mv [.t 4],
 oP 22 (bZ [1]) [.t 21],
 ⟨none,(.store (some 4)),[.t 3,.t 22],none⟩]
def c97 : ACode := (.seq (.region true c97r0 [1,2,3]) (.seq (.region true c97r1 [1,2,3,4,5]) (.seq (.seq (.region true c97r2 [1,2,3,4,14]) c97k5) (.seq (.region true c97r6 [3]) .ret))))
def g97 : AFn := ⟨2,[(3,some (some 4))],c97,true,[],[],none⟩
theorem tr97 : trFn Tryz.prog true 97 Tryz.f97 = some g97 := by kernel_rfl
def c98r0 : List AOper := [
 oP 1 (.box (some 4)) [.t 0],
 oP 2 (.nilsl (some 4)) [],
 oP 3 aZ [],
 oP 4 .mv [.c (.pv none (.bool false))]]
def c98r1 : List AOper := [
 oP 6 (.load (some 4)) [.t 1],
 oP 7 .call [.c (.pv none (.func (.func 45))),.t 6],
 oP 8 .not [.t 7]]
def c98r2 : List AOper := [
 oP 9 (bZ []) [],
 oP 2 (.nilsl (some 4)) [],
 ⟨none,(.store (some 4)),[.t 3,.t 9],none⟩,
 oP 4 .mv [.c (.pv none (.bool false))]]
def c98k3 : ACode := (.cond (.t 8) (.seq (.region true c98r2 [2,3,4]) .ret) .skip)
def c98r4 : List AOper := [
 oP 10 (.load (some 4)) [.t 1],
 oP 5 aZ [],
 ⟨none,(.store (some 4)),[.t 5,.t 10],none⟩]
def c98r5 : List AOper := [
 oP 12 (.faddr 0) [.t 5],
 oP 13 (.load none) [.t 12],
 oP 14 (.bin .eql) [.t 13,.c (.pv none (.int .i64 3))],
 oP 15 .mv [.t 14],
 ⟨some 16,(.faddr 2),[.t 5],some (15,true)⟩,
 ⟨some 17,(.load none),[.t 16],some (15,true)⟩,
 ⟨some 18,(.bin .eql),[.t 17,.c (.pv none (.str [46]))],some (15,true)⟩,
 oP 19 .pick [.t 15,.t 18,.c (.pv none (.bool false))],
 oP 20 .mv [.t 19],
 ⟨some 21,(.faddr 3),[.t 5],some (20,true)⟩,
 ⟨some 22,(.load none),[.t 21],some (20,true)⟩,
 ⟨some 23,.len,[.t 22],some (20,true)⟩,
 ⟨some 24,(.bin .eql),[.t 23,.c (.pv none (.int .i64 2))],some (20,true)⟩,
 oP 25 .pick [.t 20,.t 24,.c (.pv none (.bool false))],
 oP 11 .mv [.t 25]]
def c98r6 : List AOper := [
 oP 26 .mv [.t 2],
 oP 27 (.faddr 3) [.t 5],
 oP 28 (.load none) [.t 27],
 oP 29 (.iaddr (some 4)) [.t 28,.c (.pv none (.int .i64 0))],
 oP 30 (.load (some 4)) [.t 29],
 oP 31 .call [.c (.pv none (.func (.func 38))),.t 30],
 oP 32 (.bslice (some 4)) [.t 31],
 oP 33 (.append (some 4)) [.t 26,.t 32],
 oP 2 .mv [.t 33]]
def c98r7 : List AOper := [
 oP 34 (.faddr 3) [.t 5],
 oP 35 (.load none) [.t 34],
 oP 36 (.iaddr (some 4)) [.t 35,.c (.pv none (.int .i64 1))],
 oP 37 (.load (some 4)) [.t 36],
 ⟨none,(.store (some 4)),[.t 5,.t 37],none⟩]
def c98k8 : ACode := (.cond (.t 11) (.seq (.region true c98r6 [1,2,3,5]) (.region true c98r7 [1,2,3,5])) (.exit 0))
def c98k9 : ACode := (.block 2 (.seq (.region true c98r5 [1,2,3,5,11]) c98k8))
def c98k10 : ACode := (.block 1 c98k9)
def c98b11 : ACode := c98k10
def c98k12 : ACode := (.block 0 (.loop [1,2,3,5] c98b11))
def c98r13 : List AOper := [
 oP 39 (.faddr 0) [.t 5],
 oP 40 (.load none) [.t 39],
 oP 41 (.bin .eql) [.t 40,.c (.pv none (.int .i64 0))],
 oP 38 .mv [.t 41]]
def c98r14 : List AOper := [
 oP 42 .call [.c (.pv none (.func (.func 68)))],
 oP 2 (.nilsl (some 4)) [],
 ⟨none,(.store (some 4)),[.t 3,.t 42],none⟩,
 oP 4 .mv [.c (.pv none (.bool false))]]
def c98r15 : List AOper := [
 oP 44 (.faddr 0) [.t 5],
 oP 45 (.load none) [.t 44],
 oP 46 (.bin .eql) [.t 45,.c (.pv none (.int .i64 2))],
 oP 47 .mv [.t 46],
 ⟨some 48,(.faddr 2),[.t 5],some (47,true)⟩,
 ⟨some 49,(.load none),[.t 48],some (47,true)⟩,
 ⟨some 50,(.bin .eql),[.t 49,.c (.pv none (.str [91,93]))],some (47,true)⟩,
 oP 51 .pick [.t 47,.t 50,.c (.pv none (.bool false))],
 oP 43 .mv [.t 51]]
def c98r16 : List AOper := [
 oP 52 .mv [.t 2],
 oP 53 (bZ []) [],
 oP 2 .mv [.t 52],
 ⟨none,(.store (some 4)),[.t 3,.t 53],none⟩,
 oP 4 .mv [.c (.pv none (.bool true))]]
def c98k17 : ACode := (.cond (.t 43) (.seq (.region true c98r16 [2,3,4]) .ret) .skip)
def c98k18 : ACode := (.cond (.t 38) (.seq (.region true c98r14 [2,3,4]) .ret) (.seq (.region true c98r15 [1,2,3,43]) c98k17))
def c98k19 : ACode := (.block 3 (.seq (.region true c98r13 [1,2,3,5,38]) c98k18))
def c98r20 : List AOper := [
 oP 54 (.load (some 4)) [.t 1],
 oP 55 .call [.c (.pv none (.func (.func 69))),.c (.pv none (.str [108,105,115,116])),.t 54],
 oP 2 (.nilsl (some 4)) [],
 ⟨none,(.store (some 4)),[.t 3,.t 55],none⟩,
 oP 4 .mv [.c (.pv none (.bool false))]]
def c98 : ACode := (.seq (.region true c98r0 [1,2,3]) (.seq (.seq (.region true c98r1 [1,2,3,8]) c98k3) (.seq (.region true c98r4 [1,2,3,5]) (.seq .skip (.seq c98k12 (.seq c98k19 (.seq (.region true c98r20 [2,3,4]) .ret)))))))
def g98 : AFn := ⟨1,[(2,none),(3,some (some 4)),(4,none)],c98,false,[],[],none⟩
theorem tr98 : trFn Tryz.prog false 98 Tryz.f98 = some g98 := by kernel_rfl
def c99r0 : List AOper := [
 oP 2 (.nilsl (some 4)) []]
def c99r1 : List AOper := [
 oP 3 .mv [.t 0],
 oP 2 .mv [.t 3]]
def c99 : ACode := (.seq (.region true c99r0 [0]) (.seq (.region true c99r1 [2]) .ret))
def g99 : AFn := ⟨1,[(2,none)],c99,false,[],[],none⟩
theorem tr99 : trFn Tryz.prog false 99 Tryz.f99 = some g99 := by kernel_rfl
def c100r0 : List AOper := [
 oP 2 (.nilsl (some 4)) []]
def c100r1 : List AOper := [
 oP 6 .mv [.t 0],
 oP 7 .call [.c (.pv none (.func (.func 101))),.t 6],
 oP 5 .mv [.t 7],
 oP 8 (.extract 0) [.t 5],
 oP 9 (.extract 1) [.t 5],
 oP 3 .mv [.t 8],
 oP 4 .mv [.t 9]]
def c100r2 : List AOper := [
 oP 10 .mv [.t 3],
 oP 2 .mv [.t 10]]
def c100 : ACode := (.seq (.region true c100r0 [0]) (.seq (.region true c100r1 [3]) (.seq (.region true c100r2 [2]) .ret)))
def g100 : AFn := ⟨1,[(2,none)],c100,false,[],[],none⟩
theorem tr100 : trFn Tryz.prog false 100 Tryz.f100 = some g100 := by kernel_rfl
def c101r0 : List AOper := [
 oP 2 (.nilsl (some 4)) [],
 oP 3 .mv [.c (.pv none (.int .i64 0))]]
def c101r1 : List AOper := [
 oP 5 .mv [.t 0],
 oP 6 .call [.c (.pv none (.func (.func 132))),.t 5],
 oP 4 .mv [.t 6],
 oP 7 (.extract 0) [.t 4],
 oP 8 (.extract 1) [.t 4],
 oP 2 .mv [.t 7],
 oP 3 .mv [.t 8]]
def c101r2 : List AOper := [
 oP 9 .mv [.t 3],
 oP 10 (.bin .neq) [.t 9,.c (.pv none (.int .i64 0))]]
def c101r3 : List AOper := [
 oP 11 .mv [.t 3],
 oP 2 (.nilsl (some 4)) [],
 oP 3 .mv [.t 11]]
def c101k4 : ACode := (.cond (.t 10) (.seq (.region true c101r3 [2,3]) .ret) .skip)
def c101r5 : List AOper := [
 oP 12 .mv [.t 2],
 oP 13 .call [.c (.pv none (.func (.func 133))),.t 12,.c (.pv none (.func (.func 134)))],
 oP 2 .mv [.t 13],
 oP 3 .mv [.c (.pv none (.int .i64 0))]]
def c101 : ACode := (.seq (.region true c101r0 [0]) (.seq (.region true c101r1 [2,3]) (.seq (.seq (.region true c101r2 [2,3,10]) c101k4) (.seq (.region true c101r5 [2,3]) .ret))))
def g101 : AFn := ⟨1,[(2,none),(3,none)],c101,true,[],[],none⟩
theorem tr101 : trFn Tryz.prog true 101 Tryz.f101 = some g101 := by kernel_rfl
def c102r0 : List AOper := [
 oP 1 (.box (some 4)) [.t 0],
 oP 2 .mv [.c (.pv none (.bool false))]]
def c102r1 : List AOper := [
 oP 3 (.faddr 0) [.t 1],
 oP 4 (.load none) [.t 3],
 oP 5 (.bin .eql) [.t 4,.c (.pv none (.int .i64 3))],
 oP 6 .mv [.t 5],
 ⟨some 7,(.faddr 2),[.t 1],some (6,true)⟩,
 ⟨some 8,(.load none),[.t 7],some (6,true)⟩,
 ⟨some 9,(.bin .eql),[.t 8,.c (.pv none (.str [46]))],some (6,true)⟩,
 oP 10 .pick [.t 6,.t 9,.c (.pv none (.bool false))],
 oP 11 .mv [.t 10],
 ⟨some 12,(.faddr 3),[.t 1],some (11,true)⟩,
 ⟨some 13,(.load none),[.t 12],some (11,true)⟩,
 ⟨some 14,.len,[.t 13],some (11,true)⟩,
 ⟨some 15,(.bin .eql),[.t 14,.c (.pv none (.int .i64 2))],some (11,true)⟩,
 oP 16 .pick [.t 11,.t 15,.c (.pv none (.bool false))],
 oP 2 .mv [.t 16]]
def c102 : ACode := (.seq (.region true c102r0 [1]) (.seq (.region true c102r1 [2]) .ret))
def g102 : AFn := ⟨1,[(2,none)],c102,false,[],[],none⟩
theorem tr102 : trFn Tryz.prog false 102 Tryz.f102 = some g102 := by kernel_rfl
def c103r0 : List AOper := [
 oP 1 (.box (some 4)) [.t 0],
 oP 2 aZ []]
def c103r1 : List AOper := [
 oP 5 (.faddr 0) [.t 1],
 oP 6 (.load none) [.t 5],
 oP 7 (.faddr 1) [.t 1],
 oP 8 (.load none) [.t 7],
 oP 9 (.faddr 2) [.t 1],
 oP 10 (.load none) [.t 9],
 oP 11 (bZ [0,1,2]) [.t 6,.t 8,.t 10],
 oP 3 aZ [],
 ⟨none,(.store (some 4)),[.t 3,.t 11],none⟩]
def c103r2 : List AOper := [
 oP 4 .mv [.c (.pv none (.int .i64 0))]]
def c103r3 : List AOper := [
 oP 12 .mv [.t 4],
 oP 13 (.faddr 3) [.t 1],
 oP 14 (.load none) [.t 13],
 oP 15 .len [.t 14],
 oP 16 (.bin .lss) [.t 12,.t 15]]
def c103k4 : ACode := (.cond (.t 16) .skip (.exit 0))
def c103r5 : List AOper := [
 oP 19 (.faddr 3) [.t 3],
 oP 20 (.load none) [.t 19],
 oP 21 (.faddr 3) [.t 1],
 oP 22 (.load none) [.t 21],
 oP 23 .mv [.t 4],
 oP 24 (.iaddr (some 4)) [.t 22,.t 23],
 oP 25 (.load (some 4)) [.t 24],
 oP 26 .callp [.c (.pv none (.func (.func 103))),.t 25],
 oP 27 (.bslicep (some 4)) [.t 26],
 oP 28 (.append (some 4)) [.t 20,.t 27],
 oP 29 (.faddr 3) [.t 3],
 ⟨none,(.store none),[.t 29,.t 28],none⟩]
def c103k6 : ACode := (.block 1 (.seq (.settle []) (.region true c103r5 [1,2,3,4])))
def c103r7 : List AOper := [
 oP 17 .mv [.t 4],
 oP 18 (.bin .add) [.t 17,.c (.pv none (.int .i64 1))],
 oP 4 .mv [.t 18]]
def c103b8 : ACode := (.seq (.seq (.region true c103r3 [1,2,3,4,16]) c103k4) (.seq c103k6 (.region true c103r7 [1,2,3,4])))
def c103k9 : ACode := (.block 0 (.loop [1,2,3,4] c103b8))
def c103r10 : List AOper := [
 oP 30 (.load (some 4)) [.t 3],
 ⟨none,(.store (some 4)),[.t 2,.t 30],none⟩]
def c103 : ACode := (.seq (.region true c103r0 [1,2]) (.seq (.region true c103r1 [1,2,3]) (.seq (.seq (.region true c103r2 [1,2,3,4]) c103k9) (.seq (.region true c103r10 [2]) .ret))))
def g103 : AFn := ⟨1,[(2,some (some 4))],c103,false,[],[],none⟩
theorem tr103 : trFn Tryz.prog false 103 Tryz.f103 = some g103 := by kernel_rfl
def c105r0 : List AOper := [
 oP 2 (.box (some 4)) [.t 0],
 oP 3 (.box (some 4)) [.t 1],
 oP 4 .mv [.c (.pv none (.int .i64 0))]]
def c105r1 : List AOper := [
 oP 7 (.faddr 0) [.t 2],
 oP 8 (.load none) [.t 7],
 oP 9 (.faddr 0) [.t 3],
 oP 10 (.load none) [.t 9],
 oP 11 (.bin .neq) [.t 8,.t 10]]
def c105r2 : List AOper := [
 oP 12 (.faddr 0) [.t 2],
 oP 13 (.load none) [.t 12],
 oP 14 (.faddr 0) [.t 3],
 oP 15 (.load none) [.t 14],
 oP 16 .call [.c (.pv none (.func (.func 135))),.t 13,.t 15],
 oP 4 .mv [.t 16]]
def c105k3 : ACode := (.cond (.t 11) (.seq (.region true c105r2 [4]) .ret) .skip)
def c105r4 : List AOper := [
 oP 17 (.faddr 1) [.t 2],
 oP 18 (.load none) [.t 17],
 oP 19 (.faddr 1) [.t 3],
 oP 20 (.load none) [.t 19],
 oP 21 .call [.c (.pv none (.func (.func 135))),.t 18,.t 20],
 oP 5 .mv [.t 21]]
def c105r5 : List AOper := [
 oP 22 .mv [.t 5],
 oP 23 (.bin .eql) [.t 22,.c (.pv none (.int .i64 0))]]
def c105r6 : List AOper := [
 oP 24 (.faddr 3) [.t 2],
 oP 25 (.load none) [.t 24],
 oP 26 .len [.t 25],
 oP 27 (.faddr 3) [.t 3],
 oP 28 (.load none) [.t 27],
 oP 29 .len [.t 28],
 oP 30 .call [.c (.pv none (.func (.func 135))),.t 26,.t 29],
 oP 5 .mv [.t 30]]
def c105k7 : ACode := (.cond (.t 23) (.region true c105r6 [2,3,5]) .skip)
def c105r8 : List AOper := [
 oP 31 .mv [.t 5],
 oP 32 (.bin .eql) [.t 31,.c (.pv none (.int .i64 0))]]
def c105r9 : List AOper := [
 oP 33 (.faddr 2) [.t 2],
 oP 34 (.load none) [.t 33],
 oP 35 (.faddr 2) [.t 3],
 oP 36 (.load none) [.t 35],
 oP 37 .call [.c (.pv none (.func (.func 136))),.t 34,.t 36],
 oP 5 .mv [.t 37]]
def c105k10 : ACode := (.cond (.t 32) (.region true c105r9 [2,3,5]) .skip)
def c105r11 : List AOper := [
 oP 6 .mv [.c (.pv none (.int .i64 0))]]
def c105r12 : List AOper := [
 oP 38 .mv [.t 6],
 oP 39 (.faddr 3) [.t 2],
 oP 40 (.load none) [.t 39],
 oP 41 .len [.t 40],
 oP 42 (.bin .lss) [.t 38,.t 41],
 oP 43 .mv [.t 42],
 ⟨some 44,.mv,[.t 5],some (43,true)⟩,
 ⟨some 45,(.bin .eql),[.t 44,.c (.pv none (.int .i64 0))],some (43,true)⟩,
 oP 46 .pick [.t 43,.t 45,.c (.pv none (.bool false))]]
def c105k13 : ACode := (.cond (.t 46) .skip (.exit 0))
def c105r14 : List AOper := [
 oP 49 (.faddr 3) [.t 2],
 oP 50 (.load none) [.t 49],
 oP 51 .mv [.t 6],
 oP 52 (.iaddr (some 4)) [.t 50,.t 51],
 oP 53 (.load (some 4)) [.t 52],
 oP 54 (.faddr 3) [.t 3],
 oP 55 (.load none) [.t 54],
 oP 56 .mv [.t 6],
 oP 57 (.iaddr (some 4)) [.t 55,.t 56],
 oP 58 (.load (some 4)) [.t 57],
 oP 59 .call [.c (.pv none (.func (.func 105))),.t 53,.t 58],
 oP 5 .mv [.t 59]]
def c105k15 : ACode := (.block 1 (.region true c105r14 [2,3,5,6]))
def c105r16 : List AOper := [
 oP 47 .mv [.t 6],
 oP 48 (.bin .add) [.t 47,.c (.pv none (.int .i64 1))],
 oP 6 .mv [.t 48]]
def c105b17 : ACode := (.seq (.seq (.region true c105r12 [2,3,5,6,46]) c105k13) (.seq c105k15 (.region true c105r16 [2,3,5,6])))
def c105k18 : ACode := (.block 0 (.loop [2,3,5,6] c105b17))
def c105r19 : List AOper := [
 oP 60 .mv [.t 5],
 oP 4 .mv [.t 60]]
def c105 : ACode := (.seq (.region true c105r0 [2,3]) (.seq (.seq (.region true c105r1 [2,3,11]) c105k3) (.seq (.region true c105r4 [2,3,5]) (.seq (.seq (.region true c105r5 [2,3,5,23]) c105k7) (.seq (.seq (.region true c105r8 [2,3,5,32]) c105k10) (.seq (.seq (.region true c105r11 [2,3,5,6]) c105k18) (.seq (.region true c105r19 [4]) .ret)))))))
def g105 : AFn := ⟨2,[(4,none)],c105,false,[],[],none⟩
theorem tr105 : trFn Tryz.prog false 105 Tryz.f105 = some g105 := by kernel_rfl
def c106r0 : List AOper := [
 oP 2 (.box (some 4)) [.t 0],
 oP 4 aZ []]
def c106r1 : List AOper := [
 oP 5 .mv [.t 1]]
def c106r2 : List AOper := [
 oP 6 (.faddr 3) [.t 2],
 oP 7 (.load none) [.t 6],
 oP 8 (.iaddr (some 4)) [.t 7,.c (.pv none (.int .i64 0))],
 oP 9 (.load (some 4)) [.t 8],
 ⟨none,(.store (some 4)),[.t 4,.t 9],none⟩]
def c106k3 : ACode := (.cond (.t 5) (.seq (.region true c106r2 [4]) .ret) .skip)
def c106r4 : List AOper := [
 oP 10 (.load (some 4)) [.t 2],
 ⟨none,(.store (some 4)),[.t 4,.t 10],none⟩]
def c106 : ACode := (.seq (.region true c106r0 [1,2,4]) (.seq (.seq (.region true c106r1 [2,4,5]) c106k3) (.seq (.region true c106r4 [4]) .ret)))
def g106 : AFn := ⟨2,[(4,some (some 4))],c106,false,[],[],none⟩
theorem tr106 : trFn Tryz.prog false 106 Tryz.f106 = some g106 := by kernel_rfl
def c107r0 : List AOper := [
 oP 1 (.box (some 4)) [.t 0],
 oP 2 .mv [.c (.pv none (.bool false))]]
def c107r1 : List AOper := [
 oP 3 (.faddr 0) [.t 1],
 oP 4 (.load none) [.t 3],
 oP 5 (.bin .eql) [.t 4,.c (.pv none (.int .i64 3))],
 oP 6 .mv [.t 5],
 ⟨some 7,(.faddr 2),[.t 1],some (6,true)⟩,
 ⟨some 8,(.load none),[.t 7],some (6,true)⟩,
 ⟨some 9,(.bin .eql),[.t 8,.c (.pv none (.str [94]))],some (6,true)⟩,
 oP 10 .pick [.t 6,.t 9,.c (.pv none (.bool false))],
 oP 11 .mv [.t 10],
 ⟨some 12,(.faddr 3),[.t 1],some (11,true)⟩,
 ⟨some 13,(.load none),[.t 12],some (11,true)⟩,
 ⟨some 14,.len,[.t 13],some (11,true)⟩,
 ⟨some 15,(.bin .eql),[.t 14,.c (.pv none (.int .i64 2))],some (11,true)⟩,
 oP 16 .pick [.t 11,.t 15,.c (.pv none (.bool false))],
 oP 2 .mv [.t 16]]
def c107 : ACode := (.seq (.region true c107r0 [1]) (.seq (.region true c107r1 [2]) .ret))
def g107 : AFn := ⟨1,[(2,none)],c107,false,[],[],none⟩
theorem tr107 : trFn Tryz.prog false 107 Tryz.f107 = some g107 := by kernel_rfl
def c108r0 : List AOper := [
 oP 3 (.box (some 4)) [.t 0],
 oP 4 aZ []]
def c108r1 : List AOper := [
 oP 5 (.load none) [.t 1],
 oP 6 (.faddr 1) [.t 3],
 oP 7 (.load none) [.t 6],
 oP 8 (.lookup false none (.pv none (.int .i64 0)) false) [.t 5,.t 7],
 oP 9 (.bin .eql) [.t 8,.c (.pv none (.int .i64 0))]]
def c108r2 : List AOper := [
 oP 10 (.load none) [.t 1],
 oP 11 (.faddr 1) [.t 3],
 oP 12 (.load none) [.t 11],
 ⟨none,(.mapset false none),[.t 10,.t 12,.c (.pv none (.int .i64 1))],none⟩]
def c108r3 : List AOper := [
 oP 13 (.load none) [.t 2],
 oP 14 (.faddr 1) [.t 3],
 oP 15 (.load none) [.t 14],
 oP 16 (.bslice none) [.t 15],
 oP 17 (.append none) [.t 13,.t 16],
 ⟨none,(.store none),[.t 2,.t 17],none⟩]
def c108k4 : ACode := (.cond (.t 9) (.seq (.region true c108r2 [2,3,4]) (.region true c108r3 [3,4])) .skip)
def c108r5 : List AOper := [
 oP 18 (.load (some 4)) [.t 3],
 ⟨none,(.store (some 4)),[.t 4,.t 18],none⟩]
def c108 : ACode := (.seq (.region true c108r0 [1,2,3,4]) (.seq (.seq (.region true c108r1 [1,2,3,4,9]) c108k4) (.seq (.region true c108r5 [4]) .ret)))
def g108 : AFn := ⟨3,[(4,some (some 4))],c108,true,[],[],none⟩
theorem tr108 : trFn Tryz.prog true 108 Tryz.f108 = some g108 := by kernel_rfl
def c109r0 : List AOper := [
 oP 4 (.load (some 4)) [.t 1],
 oP 5 .call [.c (.pv none (.func (.func 67))),.t 4,.c (.pv none (.str [94])),.c (.pv none (.int .i64 2))]]
def c109k1 : ACode := (.cond (.t 5) .skip (.exit 0))
def c109r2 : List AOper := [
 oP 6 (.faddr 3) [.t 1],
 oP 7 (.load none) [.t 6],
 oP 8 (.iaddr (some 4)) [.t 7,.c (.pv none (.int .i64 0))],
 oP 9 (.load (some 4)) [.t 8],
 oP 3 aZ [],
 ⟨none,(.store (some 4)),[.t 3,.t 9],none⟩]
def c109r3 : List AOper := [
 oP 10 (.faddr 3) [.t 1],
 oP 11 (.load none) [.t 10],
 oP 12 (.iaddr (some 4)) [.t 11,.c (.pv none (.int .i64 1))],
 oP 13 (.load (some 4)) [.t 12],
 ⟨none,(.store (some 4)),[.t 1,.t 13],none⟩]
def c109r4 : List AOper := [
 oP 14 .mv [.t 0],
 oP 15 (.load (some 4)) [.t 3],
 oP 16 (.load (some 4)) [.t 1],
 oP 17 .call [.t 14,.t 15,.t 16],
 oP 18 .not [.t 17]]
def c109k5 : ACode := (.cond (.t 18) .ret .skip)
def c109k6 : ACode := (.block 1 (.seq (.region true c109r2 [0,1,3]) (.seq (.region true c109r3 [0,1,3]) (.seq (.region true c109r4 [0,1,18]) c109k5))))
def c109b7 : ACode := (.seq (.seq (.region true c109r0 [0,1,5]) c109k1) c109k6)
def c109k8 : ACode := (.block 0 (.loop [0,1] c109b7))
def c109 : ACode := c109k8
def g109 : AFn := ⟨2,[],c109,true,[],[],none⟩
theorem tr109 : trFn Tryz.prog true 109 Tryz.f109 = some g109 := by kernel_rfl
def c110r0 : List AOper := [
 oP 4 .mv [.c (.pv none (.bool false))]]
def c110r1 : List AOper := [
 oP 5 .mv [.c (.pv none (.int .i64 0))]]
def c110r2 : List AOper := [
 oP 6 .mv [.t 5],
 oP 7 .mv [.t 0],
 oP 8 .len [.t 7],
 oP 9 (.bin .lss) [.t 6,.t 8]]
def c110k3 : ACode := (.cond (.t 9) .skip (.exit 0))
def c110r4 : List AOper := [
 oP 12 .mv [.t 0],
 oP 13 .mv [.t 5],
 oP 14 (.iaddr none) [.t 12,.t 13],
 oP 15 (.load none) [.t 14],
 oP 16 .mv [.t 1],
 oP 17 (.bin .eql) [.t 15,.t 16]]
def c110r5 : List AOper := [
 oP 4 .mv [.c (.pv none (.bool true))]]
def c110k6 : ACode := (.cond (.t 17) (.seq (.region true c110r5 [4]) .ret) .skip)
def c110k7 : ACode := (.block 1 (.seq (.region true c110r4 [0,1,5,17]) c110k6))
def c110r8 : List AOper := [
 oP 10 .mv [.t 5],
 oP 11 (.bin .add) [.t 10,.c (.pv none (.int .i64 1))],
 oP 5 .mv [.t 11]]
def c110b9 : ACode := (.seq (.seq (.region true c110r2 [0,1,5,9]) c110k3) (.seq c110k7 (.region true c110r8 [0,1,5])))
def c110k10 : ACode := (.block 0 (.loop [0,1,5] c110b9))
def c110r11 : List AOper := [
 oP 4 .mv [.c (.pv none (.bool false))]]
def c110 : ACode := (.seq (.region true c110r0 [0,1]) (.seq (.seq (.region true c110r1 [0,1,5]) c110k10) (.seq (.region true c110r11 [4]) .ret)))
def g110 : AFn := ⟨2,[(4,none)],c110,false,[],[],none⟩
theorem tr110 : trFn Tryz.prog false 110 Tryz.f110 = some g110 := by kernel_rfl
def c111r0 : List AOper := [
 oP 4 aZ []]
def c111r1 : List AOper := [
 oP 5 .mv [.t 0],
 oP 6 .mv [.t 1],
 oP 7 .call [.c (.pv none (.func (.func 26))),.t 5,.t 6],
 oP 8 .call [.c (.pv none (.func (.func 28))),.c (.pv none (.str [91,93]))],
 oP 9 (.bslice (some 4)) [.t 7,.t 8],
 oP 10 .call [.c (.pv none (.func (.func 26))),.c (.pv none (.str [101,114,114,111,114])),.t 9],
 ⟨none,(.store (some 4)),[.t 4,.t 10],none⟩]
def c111 : ACode := (.seq (.region true c111r0 [0,1,4]) (.seq (.region true c111r1 [4]) .ret))
def g111 : AFn := ⟨2,[(4,some (some 4))],c111,false,[],[],none⟩
theorem tr111 : trFn Tryz.prog false 111 Tryz.f111 = some g111 := by kernel_rfl
def c112r0 : List AOper := [
 oP 3 (.box (some 4)) [.t 0],
 oP 6 aZ []]
def c112r1 : List AOper := [
 oP 10 (.load (some 4)) [.t 3],
 oP 11 .call [.c (.pv none (.func (.func 45))),.t 10],
 oP 12 .not [.t 11]]
def c112r2 : List AOper := [
 oP 13 (bZ []) [],
 ⟨none,(.store (some 4)),[.t 6,.t 13],none⟩]
def c112k3 : ACode := (.cond (.t 12) (.seq (.region true c112r2 [6]) .ret) .skip)
def c112r4 : List AOper := [
 oP 7 (.nilsl (some 4)) []]
def c112r5 : List AOper := [
 oP 14 .mv [.t 2],
 oP 15 .len [.t 14],
 oP 16 .mv [.c (.pv none (.int .i64 0))]]
def c112r6 : List AOper := [
 oP 17 (.bin .lss) [.t 16,.t 15]]
def c112k7 : ACode := (.cond (.t 17) .skip (.exit 0))
def c112r8 : List AOper := [
 oP 18 (.iaddr none) [.t 14,.t 16],
 oP 19 (.load none) [.t 18],
 oP 9 .mv [.t 19]]
def c112r9 : List AOper := [
 oP 20 .mv [.t 9],
 oP 21 .slen [.t 20],
 oP 22 (.bin .gtr) [.t 21,.c (.pv none (.int .i64 100))]]
def c112r10 : List AOper := [
 oP 23 (bZ []) [],
 ⟨none,(.store (some 4)),[.t 6,.t 23],none⟩]
def c112k11 : ACode := (.cond (.t 22) (.seq (.region true c112r10 [6]) .ret) .skip)
def c112r12 : List AOper := [
 oP 24 .mv [.t 7],
 oP 25 .mv [.t 9],
 oP 26 .call [.c (.pv none (.func (.func 28))),.t 25],
 oP 27 (.bslice (some 4)) [.t 26],
 oP 28 (.append (some 4)) [.t 24,.t 27],
 oP 7 .mv [.t 28]]
def c112k13 : ACode := (.block 1 (.seq (.region true c112r8 [1,2,3,6,7,9,14,15,16]) (.seq (.seq (.region true c112r9 [1,2,3,6,7,9,14,15,16,22]) c112k11) (.region true c112r12 [1,2,3,6,7,14,15,16]))))
def c112r14 : List AOper := [
 oP 29 (.bin .add) [.t 16,.c (.pv none (.int .i64 1))],
 oP 16 .mv [.t 29]]
def c112b15 : ACode := (.seq (.region true c112r6 [1,2,3,6,7,14,15,16,17]) (.seq c112k7 (.seq c112k13 (.region true c112r14 [1,2,3,6,7,14,15,16]))))
def c112k16 : ACode := (.block 0 (.loop [1,2,3,6,7,14,15,16] c112b15))
def c112r17 : List AOper := [
 oP 30 .mv [.t 2],
 oP 31 .len [.t 30],
 oP 32 (.bin .add) [.c (.pv none (.int .i64 3)),.t 31],
 oP 33 (.load (some 4)) [.t 3],
 oP 34 .call [.c (.pv none (.func (.func 87))),.t 33],
 oP 35 (.bin .add) [.t 32,.t 34],
 oP 36 (.bin .gtr) [.t 35,.c (.pv none (.int .i64 2000))]]
def c112r18 : List AOper := [
 oP 37 .call [.c (.pv none (.func (.func 28))),.c (.pv none (.str [46,46,46]))],
 ⟨none,(.store (some 4)),[.t 3,.t 37],none⟩]
def c112k19 : ACode := (.cond (.t 36) (.region true c112r18 [1,3,6,7]) .skip)
def c112r20 : List AOper := [
 oP 38 .mv [.t 1],
 oP 39 .mv [.t 7],
 oP 40 (.load (some 4)) [.t 3],
 oP 41 (.bslice (some 4)) [.t 40],
 oP 42 (.append (some 4)) [.t 39,.t 41],
 oP 43 .call [.c (.pv none (.func (.func 111))),.t 38,.t 42],
 ⟨none,(.store (some 4)),[.t 6,.t 43],none⟩]
def c112 : ACode := (.seq (.region true c112r0 [1,2,3,6]) (.seq (.seq (.region true c112r1 [1,2,3,6,12]) c112k3) (.seq (.region true c112r4 [1,2,3,6,7]) (.seq (.seq (.region true c112r5 [1,2,3,6,7,14,15,16]) c112k16) (.seq (.seq (.region true c112r17 [1,3,6,7,36]) c112k19) (.seq (.region true c112r20 [6]) .ret))))))
def g112 : AFn := ⟨3,[(6,some (some 4))],c112,false,[],[],none⟩
theorem tr112 : trFn Tryz.prog false 112 Tryz.f112 = some g112 := by kernel_rfl
def c113r0 : List AOper := [
 oP 3 (.box (some 4)) [.t 1],
 oP 4 (.nilsl none) []]
def c113r1 : List AOper := [
 oP 6 (.faddr 0) [.t 3],
 oP 7 (.load none) [.t 6],
 oP 8 (.bin .eql) [.t 7,.c (.pv none (.int .i64 0))],
 oP 9 .mv [.t 8],
 ⟨some 10,.mv,[.t 0],some (9,true)⟩,
 ⟨some 11,(.faddr 1),[.t 3],some (9,true)⟩,
 ⟨some 12,(.load none),[.t 11],some (9,true)⟩,
 ⟨some 13,.call,[.c (.pv none (.func (.func 137))),.t 10,.t 12],some (9,true)⟩,
 ⟨some 14,(.bin .lss),[.t 13,.c (.pv none (.int .i64 0))],some (9,true)⟩,
 oP 15 .pick [.t 9,.t 14,.c (.pv none (.bool false))]]
def c113r2 : List AOper := [
 oP 16 .mv [.t 0],
 oP 17 (.faddr 1) [.t 3],
 oP 18 (.load none) [.t 17],
 oP 19 (.bslice none) [.t 18],
 oP 20 (.append none) [.t 16,.t 19],
 oP 0 .mv [.t 20]]
def c113k3 : ACode := (.cond (.t 15) (.region true c113r2 [0,3]) .skip)
def c113r4 : List AOper := [
 oP 5 .mv [.c (.pv none (.int .i64 0))]]
def c113r5 : List AOper := [
 oP 21 .mv [.t 5],
 oP 22 (.faddr 3) [.t 3],
 oP 23 (.load none) [.t 22],
 oP 24 .len [.t 23],
 oP 25 (.bin .lss) [.t 21,.t 24]]
def c113k6 : ACode := (.cond (.t 25) .skip (.exit 0))
def c113r7 : List AOper := [
 oP 28 .mv [.t 0],
 oP 29 (.faddr 3) [.t 3],
 oP 30 (.load none) [.t 29],
 oP 31 .mv [.t 5],
 oP 32 (.iaddr (some 4)) [.t 30,.t 31],
 oP 33 (.load (some 4)) [.t 32],
 oP 34 .call [.c (.pv none (.func (.func 113))),.t 28,.t 33],
 oP 0 .mv [.t 34]]
def c113k8 : ACode := (.block 1 (.region true c113r7 [0,3,5]))
def c113r9 : List AOper := [
 oP 26 .mv [.t 5],
 oP 27 (.bin .add) [.t 26,.c (.pv none (.int .i64 1))],
 oP 5 .mv [.t 27]]
def c113b10 : ACode := (.seq (.seq (.region true c113r5 [0,3,5,25]) c113k6) (.seq c113k8 (.region true c113r9 [0,3,5])))
def c113k11 : ACode := (.block 0 (.loop [0,3,5] c113b10))
def c113r12 : List AOper := [
 oP 35 .mv [.t 0],
 oP 4 .mv [.t 35]]
def c113 : ACode := (.seq (.region true c113r0 [0,3]) (.seq (.seq (.region true c113r1 [0,3,15]) c113k3) (.seq (.seq (.region true c113r4 [0,3,5]) c113k11) (.seq (.region true c113r12 [4]) .ret))))
def g113 : AFn := ⟨2,[(4,none)],c113,true,[],[],none⟩
theorem tr113 : trFn Tryz.prog true 113 Tryz.f113 = some g113 := by kernel_rfl
def c114r0 : List AOper := [
 oP 4 aZ []]
def c114r1 : List AOper := [
 oP 5 .mv [.t 0],
 oP 6 .mv [.t 1],
 oP 7 (bZ [0,2,3]) [.c (.pv none (.int .i64 3)),.t 5,.t 6],
 ⟨none,(.store (some 4)),[.t 4,.t 7],none⟩]
def c114 : ACode := (.seq (.region true c114r0 [0,1,4]) (.seq (.region true c114r1 [4]) .ret))
def g114 : AFn := ⟨2,[(4,some (some 4))],c114,false,[],[],none⟩
theorem tr114 : trFn Tryz.prog false 114 Tryz.f114 = some g114 := by kernel_rfl
def c115r0 : List AOper := [
 oP 4 .mv [.t 0],
 oP 5 .mv [.t 0],
 oP 6 .len [.t 5],
 oP 7 .mv [.t 1],
 oP 8 .call [.c (.pv none (.func (.func 138))),.t 4,.t 6,.t 7]]
def c115 : ACode := (.region true c115r0 [])
def g115 : AFn := ⟨2,[],c115,true,[],[],none⟩
theorem tr115 : trFn Tryz.prog true 115 Tryz.f115 = some g115 := by kernel_rfl
def c116r0 : List AOper := [
 oP 4 .mv [.c (.pv none (.int .i64 0))]]
def c116r1 : List AOper := [
 oP 7 .mv [.t 0],
 oP 8 .call [.c (.pv none (.func (.func 139))),.t 7],
 oP 5 .mv [.t 8]]
def c116r2 : List AOper := [
 oP 9 .mv [.t 1],
 oP 10 .call [.c (.pv none (.func (.func 139))),.t 9],
 oP 6 .mv [.t 10]]
def c116r3 : List AOper := [
 oP 11 .mv [.t 5]]
def c116r4 : List AOper := [
 oP 12 .mv [.t 6]]
def c116r5 : List AOper := [
 oP 4 .mv [.c (.pv none (.int .i64 0))]]
def c116k6 : ACode := (.cond (.t 12) (.seq (.region true c116r5 [4]) .ret) .skip)
def c116r7 : List AOper := [
 oP 4 .mv [.c (.pv none (.int .i64 (-1)))]]
def c116k8 : ACode := (.cond (.t 11) (.seq (.seq (.region true c116r4 [12]) c116k6) (.seq (.region true c116r7 [4]) .ret)) .skip)
def c116r9 : List AOper := [
 oP 13 .mv [.t 6]]
def c116r10 : List AOper := [
 oP 4 .mv [.c (.pv none (.int .i64 1))]]
def c116k11 : ACode := (.cond (.t 13) (.seq (.region true c116r10 [4]) .ret) .skip)
def c116r12 : List AOper := [
 oP 14 .mv [.t 0],
 oP 15 .mv [.t 1],
 oP 16 (.bin .lss) [.t 14,.t 15]]
def c116r13 : List AOper := [
 oP 4 .mv [.c (.pv none (.int .i64 (-1)))]]
def c116k14 : ACode := (.cond (.t 16) (.seq (.region true c116r13 [4]) .ret) .skip)
def c116r15 : List AOper := [
 oP 17 .mv [.t 0],
 oP 18 .mv [.t 1],
 oP 19 (.bin .gtr) [.t 17,.t 18]]
def c116r16 : List AOper := [
 oP 4 .mv [.c (.pv none (.int .i64 1))]]
def c116k17 : ACode := (.cond (.t 19) (.seq (.region true c116r16 [4]) .ret) .skip)
def c116r18 : List AOper := [
 oP 4 .mv [.c (.pv none (.int .i64 0))]]
def c116 : ACode := (.seq (.region true c116r0 [0,1]) (.seq (.region true c116r1 [0,1,5]) (.seq (.region true c116r2 [0,1,5,6]) (.seq (.seq (.region true c116r3 [0,1,6,11]) c116k8) (.seq (.seq (.region true c116r9 [0,1,13]) c116k11) (.seq (.seq (.region true c116r12 [0,1,16]) c116k14) (.seq (.seq (.region true c116r15 [19]) c116k17) (.seq (.region true c116r18 [4]) .ret))))))))
def g116 : AFn := ⟨2,[(4,none)],c116,false,[],[],none⟩
theorem tr116 : trFn Tryz.prog false 116 Tryz.f116 = some g116 := by kernel_rfl
def c117r0 : List AOper := [
 oP 4 .mv [.c (.pv none (.int .i64 0))]]
def c117r1 : List AOper := [
 oP 7 .mv [.t 0],
 oP 8 .call [.c (.pv none (.func (.func 140))),.t 7],
 oP 5 .mv [.t 8]]
def c117r2 : List AOper := [
 oP 9 .mv [.t 1],
 oP 10 .call [.c (.pv none (.func (.func 140))),.t 9],
 oP 6 .mv [.t 10]]
def c117r3 : List AOper := [
 oP 11 .mv [.t 5]]
def c117r4 : List AOper := [
 oP 12 .mv [.t 6]]
def c117r5 : List AOper := [
 oP 4 .mv [.c (.pv none (.int .i64 0))]]
def c117k6 : ACode := (.cond (.t 12) (.seq (.region true c117r5 [4]) .ret) .skip)
def c117r7 : List AOper := [
 oP 4 .mv [.c (.pv none (.int .i64 (-1)))]]
def c117k8 : ACode := (.cond (.t 11) (.seq (.seq (.region true c117r4 [12]) c117k6) (.seq (.region true c117r7 [4]) .ret)) .skip)
def c117r9 : List AOper := [
 oP 13 .mv [.t 6]]
def c117r10 : List AOper := [
 oP 4 .mv [.c (.pv none (.int .i64 1))]]
def c117k11 : ACode := (.cond (.t 13) (.seq (.region true c117r10 [4]) .ret) .skip)
def c117r12 : List AOper := [
 oP 14 .mv [.t 0],
 oP 15 .mv [.t 1],
 oP 16 (.bin .lss) [.t 14,.t 15]]
def c117r13 : List AOper := [
 oP 4 .mv [.c (.pv none (.int .i64 (-1)))]]
def c117k14 : ACode := (.cond (.t 16) (.seq (.region true c117r13 [4]) .ret) .skip)
def c117r15 : List AOper := [
 oP 17 .mv [.t 0],
 oP 18 .mv [.t 1],
 oP 19 (.bin .gtr) [.t 17,.t 18]]
def c117r16 : List AOper := [
 oP 4 .mv [.c (.pv none (.int .i64 1))]]
def c117k17 : ACode := (.cond (.t 19) (.seq (.region true c117r16 [4]) .ret) .skip)
def c117r18 : List AOper := [
 oP 4 .mv [.c (.pv none (.int .i64 0))]]
def c117 : ACode := (.seq (.region true c117r0 [0,1]) (.seq (.region true c117r1 [0,1,5]) (.seq (.region true c117r2 [0,1,5,6]) (.seq (.seq (.region true c117r3 [0,1,6,11]) c117k8) (.seq (.seq (.region true c117r9 [0,1,13]) c117k11) (.seq (.seq (.region true c117r12 [0,1,16]) c117k14) (.seq (.seq (.region true c117r15 [19]) c117k17) (.seq (.region true c117r18 [4]) .ret))))))))
def g117 : AFn := ⟨2,[(4,none)],c117,false,[],[],none⟩
theorem tr117 : trFn Tryz.prog false 117 Tryz.f117 = some g117 := by kernel_rfl
def c118r0 : List AOper := [
 oP 4 .mv [.c (.pv none (.int .i64 0))]]
def c118r1 : List AOper := [
 oP 5 .mv [.t 0],
 oP 6 .mv [.t 1],
 oP 7 .call [.c (.pv none (.func (.func 141))),.t 5,.t 6],
 oP 4 .mv [.t 7]]
def c118 : ACode := (.seq (.region true c118r0 [0,1]) (.seq (.region true c118r1 [4]) .ret))
def g118 : AFn := ⟨2,[(4,none)],c118,false,[],[],none⟩
theorem tr118 : trFn Tryz.prog false 118 Tryz.f118 = some g118 := by kernel_rfl
def c119r0 : List AOper := [
 oP 2 .mv [.c (.pv none (.bool false))]]
def c119r1 : List AOper := [
 oP 8 .mv [.t 0],
 oP 9 .len [.t 8],
 oP 10 .mv [.c (.pv none (.int .i64 0))]]
def c119r2 : List AOper := [
 oP 11 (.bin .lss) [.t 10,.t 9]]
def c119k3 : ACode := (.cond (.t 11) .skip (.exit 0))
def c119r4 : List AOper := [
 oP 12 .mv [.t 10],
 oP 13 (.iaddr (some 5)) [.t 8,.t 10],
 oP 14 (.load (some 5)) [.t 13],
 oP 4 (.alloc (some 5) (.agg [(none,(.pv none (.int .i64 0))),((some 4),(.agg [(none,(.pv none (.int .i64 0))),(none,(.pv none (.int .i64 0))),(none,(.pv none (.str []))),(none,(.tsl (some 4) []))]))])) [],
 oP 3 .mv [.t 12],
 ⟨none,(.store (some 5)),[.t 4,.t 14],none⟩]
def c119r5 : List AOper := [
 oP 15 (.faddr 0) [.t 4],
 oP 16 (.load none) [.t 15],
 oP 17 (.bin .lss) [.t 16,.c (.pv none (.int .i64 0))],
 oP 18 .mv [.t 17],
 ⟨some 19,(.faddr 0),[.t 4],some (18,false)⟩,
 ⟨some 20,(.load none),[.t 19],some (18,false)⟩,
 ⟨some 21,(.bin .gtr),[.t 20,.c (.pv none (.int .i64 1099511627776))],some (18,false)⟩,
 oP 22 .pick [.t 18,.c (.pv none (.bool true)),.t 21],
 oP 23 .mv [.t 22],
 ⟨some 24,.mv,[.t 3],some (23,false)⟩,
 ⟨some 25,(.bin .gtr),[.t 24,.c (.pv none (.int .i64 0))],some (23,false)⟩,
 ⟨some 26,.mv,[.t 25],some (23,false)⟩,
 ⟨some 27,.mv,[.t 0],some (26,true)⟩,
 ⟨some 28,.mv,[.t 3],some (26,true)⟩,
 ⟨some 29,(.bin .sub),[.t 28,.c (.pv none (.int .i64 1))],some (26,true)⟩,
 ⟨some 30,(.iaddr (some 5)),[.t 27,.t 29],some (26,true)⟩,
 ⟨some 31,(.faddr 0),[.t 30],some (26,true)⟩,
 ⟨some 32,(.load none),[.t 31],some (26,true)⟩,
 ⟨some 33,(.faddr 0),[.t 4],some (26,true)⟩,
 ⟨some 34,(.load none),[.t 33],some (26,true)⟩,
 ⟨some 35,(.bin .geq),[.t 32,.t 34],some (26,true)⟩,
 ⟨some 36,.pick,[.t 26,.t 35,.c (.pv none (.bool false))],some (23,false)⟩,
 oP 37 .pick [.t 23,.c (.pv none (.bool true)),.t 36],
 oP 38 .mv [.t 37],
 ⟨some 39,(.faddr 1),[.t 4],some (38,false)⟩,
 ⟨some 40,(.load (some 4)),[.t 39],some (38,false)⟩,
 ⟨some 41,.call,[.c (.pv none (.func (.func 45))),.t 40],some (38,false)⟩,
 ⟨some 42,.not,[.t 41],some (38,false)⟩,
 oP 43 .pick [.t 38,.c (.pv none (.bool true)),.t 42]]
def c119r6 : List AOper := [
 oP 2 .mv [.c (.pv none (.bool false))]]
def c119k7 : ACode := (.cond (.t 43) (.seq (.region true c119r6 [2]) .ret) .skip)
def c119k8 : ACode := (.block 1 (.seq (.region true c119r4 [0,3,4,8,9,10]) (.seq (.region true c119r5 [0,8,9,10,43]) c119k7)))
def c119r9 : List AOper := [
 oP 44 (.bin .add) [.t 10,.c (.pv none (.int .i64 1))],
 oP 10 .mv [.t 44]]
def c119b10 : ACode := (.seq (.region true c119r2 [0,8,9,10,11]) (.seq c119k3 (.seq c119k8 (.region true c119r9 [0,8,9,10]))))
def c119k11 : ACode := (.block 0 (.loop [0,8,9,10] c119b10))
def c119r12 : List AOper := [
 oP 45 (.mkmap none) [],
 oP 5 .mv [.t 45]]
def c119r13 : List AOper := [
 oP 46 .mv [.t 0],
 oP 47 .len [.t 46],
 oP 48 .mv [.c (.pv none (.int .i64 0))]]
def c119r14 : List AOper := [
 oP 49 (.bin .lss) [.t 48,.t 47]]
def c119k15 : ACode := (.cond (.t 49) .skip (.exit 2))
def c119r16 : List AOper := [
 oP 50 (.iaddr (some 5)) [.t 46,.t 48],
 oP 51 (.load (some 5)) [.t 50],
 oP 7 (.alloc (some 5) (.agg [(none,(.pv none (.int .i64 0))),((some 4),(.agg [(none,(.pv none (.int .i64 0))),(none,(.pv none (.int .i64 0))),(none,(.pv none (.str []))),(none,(.tsl (some 4) []))]))])) [],
 ⟨none,(.store (some 5)),[.t 7,.t 51],none⟩]
def c119r17 : List AOper := [
 oP 52 .mv [.t 0],
 oP 53 (.faddr 0) [.t 7],
 oP 54 (.load none) [.t 53],
 oP 55 .mv [.t 5],
 oP 56 .call [.c (.pv none (.func (.func 142))),.t 52,.t 54,.t 55]]
def c119r18 : List AOper := [
 oP 2 .mv [.c (.pv none (.bool false))]]
def c119k19 : ACode := (.cond (.t 56) (.seq (.region true c119r18 [2]) .ret) .skip)
def c119k20 : ACode := (.block 3 (.seq (.region true c119r16 [0,5,7,46,47,48]) (.seq (.region true c119r17 [0,5,46,47,48,56]) c119k19)))
def c119r21 : List AOper := [
 oP 57 (.bin .add) [.t 48,.c (.pv none (.int .i64 1))],
 oP 48 .mv [.t 57]]
def c119b22 : ACode := (.seq (.region true c119r14 [0,5,46,47,48,49]) (.seq c119k15 (.seq c119k20 (.region true c119r21 [0,5,46,47,48]))))
def c119k23 : ACode := (.block 2 (.loop [0,5,46,47,48] c119b22))
def c119r24 : List AOper := [
 oP 2 .mv [.c (.pv none (.bool true))]]
def c119 : ACode := (.seq (.region true c119r0 [0]) (.seq (.seq (.region true c119r1 [0,8,9,10]) c119k11) (.seq (.region true c119r12 [0,5]) (.seq (.seq (.region true c119r13 [0,5,46,47,48]) c119k23) (.seq (.region true c119r24 [2]) .ret)))))
def g119 : AFn := ⟨1,[(2,none)],c119,false,[],[],none⟩
theorem tr119 : trFn Tryz.prog false 119 Tryz.f119 = some g119 := by kernel_rfl
def c120r0 : List AOper := [
 oP 2 .mv [.t 5]]
def c120r1 : List AOper := [
 oP 7 .mv [.t 2],
 oP 8 (.assert 100 (some 1) (.pv (some 1) (.agg [(none,(.int .i64 0))])) true) [.t 7],
 oP 6 .mv [.t 8],
 oP 9 (.extract 0) [.t 6],
 oP 10 (.extract 1) [.t 6],
 oP 3 (.alloc (some 1) (.pv (some 1) (.agg [(none,(.int .i64 0))]))) [],
 ⟨none,(.store (some 1)),[.t 3,.t 9],none⟩,
 oP 4 .mv [.t 10]]
def c120r2 : List AOper := [
 oP 11 .mv [.t 4]]
def c120r3 : List AOper := [
 oP 12 (.faddr 0) [.t 3],
 oP 13 (.load none) [.t 12],
 ⟨none,(.storen none),[.t 0,.c (.tsl (some 5) []),.t 12],none⟩,
 ⟨none,(.store none),[.t 1,.t 13],none⟩]
def c120r4 : List AOper := [
 oP 14 .mv [.t 2],
 oP 15 (.isnil true) [.t 14]]
def c120r5 : List AOper := [
 oP 16 .mv [.t 2],
 ⟨none,.panic,[.t 16],none⟩]
def c120k6 : ACode := (.cond (.t 15) (.region true c120r5 []) .skip)
def c120k7 : ACode := (.cond (.t 11) (.region true c120r3 []) (.seq (.region true c120r4 [2,15]) c120k6))
def c120 : ACode := (.seq (.region true c120r0 [0,1,2]) (.seq (.region true c120r1 [0,1,2,3,4]) (.seq (.region true c120r2 [0,1,2,3,11]) (.seq c120k7 .skip))))
def g120 : AFn := ⟨2,[],c120,true,[],[],some 5⟩
theorem tr120 : trFn Tryz.prog true 120 Tryz.f120 = some g120 := by kernel_rfl
def c121r0 : List AOper := [
 oP 2 (.nilsl (some 5)) []]
def c121r1 : List AOper := [
 oP 3 (.nilsl (some 5)) []]
def c121r2 : List AOper := [
 oP 6 .mv [.t 0],
 oP 7 .len [.t 6],
 oP 8 .mv [.c (.pv none (.int .i64 0))]]
def c121r3 : List AOper := [
 oP 9 (.bin .lss) [.t 8,.t 7]]
def c121k4 : ACode := (.cond (.t 9) .skip (.exit 0))
def c121r5 : List AOper := [
 oP 10 (.iaddr (some 5)) [.t 6,.t 8],
 oP 11 (.load (some 5)) [.t 10],
 oP 5 (.alloc (some 5) (.agg [(none,(.pv none (.int .i64 0))),((some 4),(.agg [(none,(.pv none (.int .i64 0))),(none,(.pv none (.int .i64 0))),(none,(.pv none (.str []))),(none,(.tsl (some 4) []))]))])) [],
 ⟨none,(.store (some 5)),[.t 5,.t 11],none⟩]
def c121r6 : List AOper := [
 oP 12 .mv [.t 3],
 oP 13 (.faddr 0) [.t 5],
 oP 14 (.load none) [.t 13],
 oP 15 (.faddr 1) [.t 5],
 oP 16 (.load (some 4)) [.t 15],
 oP 17 .callh [.c (.pv none (.func (.func 38))),.t 16],
 oP 18 (.build [(none,(.pv none (.int .i64 0))),((some 4),(.agg [(none,(.pv none (.int .i64 0))),(none,(.pv none (.int .i64 0))),(none,(.pv none (.str []))),(none,(.tsl (some 4) []))]))] [0,1]) [.t 14,.t 17],
 oP 19 (.bslice (some 5)) [.t 18],
 oP 20 (.append (some 5)) [.t 12,.t 19],
 oP 3 .mv [.t 20]]
def c121k7 : ACode := (.block 1 (.seq (.region true c121r5 [3,5,6,7,8]) (.region true c121r6 [3,6,7,8])))
def c121r8 : List AOper := [
 oP 21 (.bin .add) [.t 8,.c (.pv none (.int .i64 1))],
 oP 8 .mv [.t 21]]
def c121b9 : ACode := (.seq (.region true c121r3 [3,6,7,8,9]) (.seq c121k4 (.seq c121k7 (.region true c121r8 [3,6,7,8]))))
def c121k10 : ACode := (.block 0 (.loop [3,6,7,8] c121b9))
def c121r11 : List AOper := [
 oP 22 .mv [.t 3],
 oP 2 .mv [.t 22]]
def c121 : ACode := (.seq (.region true c121r0 [0]) (.seq (.region true c121r1 [0,3]) (.seq (.seq (.region true c121r2 [3,6,7,8]) c121k10) (.seq (.region true c121r11 [2]) .ret))))
def g121 : AFn := ⟨1,[(2,none)],c121,true,[],[],none⟩
theorem tr121 : trFn Tryz.prog true 121 Tryz.f121 = some g121 := by kernel_rfl
def c122r0 : List AOper := [
 oP 4 (.box (some 4)) [.t 1],
 oP 5 (.box (some 4)) [.t 2]]
def c122r1 : List AOper := [
 oP 12 (.load (some 4)) [.t 4],
 oP 13 (.load (some 4)) [.t 5],
 oP 14 (.build [((some 4),(.agg [(none,(.pv none (.int .i64 0))),(none,(.pv none (.int .i64 0))),(none,(.pv none (.str []))),(none,(.tsl (some 4) []))])),((some 4),(.agg [(none,(.pv none (.int .i64 0))),(none,(.pv none (.int .i64 0))),(none,(.pv none (.str []))),(none,(.tsl (some 4) []))]))] [0,1]) [.t 12,.t 13],
 oP 15 (.bslo (some 8)) [.t 14],
 oP 6 .mv [.t 15]]
def c122r2 : List AOper := [
 oP 7 .mv [.c (.pv none (.int .i64 0))]]
def c122r3 : List AOper := [
 oP 16 .mv [.t 6],
 oP 17 .len [.t 16],
 oP 18 (.bin .gtr) [.t 17,.c (.pv none (.int .i64 0))]]
def c122k4 : ACode := (.cond (.t 18) .skip (.exit 0))
def c122r5 : List AOper := [
 oP 21 .mv [.t 7],
 oP 22 (.bin .eql) [.t 21,.c (.pv none (.int .i64 1048576))]]
def c122r6 : List AOper := [
 oP 23 (.build [(none,(.pv none (.int .i64 0)))] [0]) [.c (.pv none (.int .i64 2))],
 oP 24 (.mkiface 100) [.t 23],
 ⟨none,.panic,[.t 24],none⟩]
def c122k7 : ACode := (.cond (.t 22) (.region true c122r6 [0,6,7]) .skip)
def c122r8 : List AOper := [
 oP 25 .mv [.t 6],
 oP 26 .mv [.t 6],
 oP 27 .len [.t 26],
 oP 28 (.bin .sub) [.t 27,.c (.pv none (.int .i64 1))],
 oP 29 (.iaddr (some 8)) [.t 25,.t 28],
 oP 30 (.load (some 8)) [.t 29],
 oP 8 (.alloc (some 8) (.agg [((some 4),(.agg [(none,(.pv none (.int .i64 0))),(none,(.pv none (.int .i64 0))),(none,(.pv none (.str []))),(none,(.tsl (some 4) []))])),((some 4),(.agg [(none,(.pv none (.int .i64 0))),(none,(.pv none (.int .i64 0))),(none,(.pv none (.str []))),(none,(.tsl (some 4) []))]))])) [],
 ⟨none,(.store (some 8)),[.t 8,.t 30],none⟩]
def c122r9 : List AOper := [
 oP 31 .mv [.t 6],
 oP 32 .mv [.t 6],
 oP 33 .len [.t 32],
 oP 34 (.bin .sub) [.t 33,.c (.pv none (.int .i64 1))],
 oP 35 (.slice (some 8) false true) [.t 31,.t 34],
 oP 6 .mv [.t 35]]
def c122r10 : List AOper := [
 oP 36 .mv [.t 0],
 oP 37 .nilcheck [.t 36],
 oP 38 (.faddr 0) [.t 37],
 oP 39 (.load none) [.t 38],
 oP 40 (.iaddrA (some 4) 2) [.t 8,.c (.pv none (.int .i64 0))],
 oP 41 (.load (some 4)) [.t 40],
 oP 42 .callg [.c (.pv none (.func (.func 143))),.t 39,.t 41],
 oP 43 .mv [.t 0],
 oP 44 .nilcheck [.t 43],
 oP 45 (.faddr 0) [.t 44],
 oP 46 (.load none) [.t 45],
 oP 47 (.iaddrA (some 4) 2) [.t 8,.c (.pv none (.int .i64 1))],
 oP 48 (.load (some 4)) [.t 47],
 oP 49 .call [.c (.pv none (.func (.func 143))),.t 46,.t 48],
 oP 9 aZ [],
 oP 10 aZ [],
 ⟨none,(.store (some 4)),[.t 9,.t 42],none⟩,
 ⟨none,(.store (some 4)),[.t 10,.t 49],none⟩]
def c122r11 : List AOper := [
 oP 50 .mv [.t 0],
 oP 51 (.load (some 4)) [.t 9],
 oP 52 (.load (some 4)) [.t 10],
 oP 53 .call [.c (.pv none (.func (.func 144))),.t 50,.t 51,.t 52]]
def c122r12 : List AOper := [
 oP 54 (.faddr 3) [.t 9],
 oP 55 (.load none) [.t 54],
 oP 56 .len [.t 55],
 oP 57 (.bin .sub) [.t 56,.c (.pv none (.int .i64 1))],
 oP 11 .mv [.t 57]]
def c122r13 : List AOper := [
 oP 58 .mv [.t 11],
 oP 59 (.bin .geq) [.t 58,.c (.pv none (.int .i64 0))]]
def c122k14 : ACode := (.cond (.t 59) .skip (.exit 2))
def c122r15 : List AOper := [
 oP 62 .mv [.t 6],
 oP 63 (.faddr 3) [.t 9],
 oP 64 (.load none) [.t 63],
 oP 65 .mv [.t 11],
 oP 66 (.iaddr (some 4)) [.t 64,.t 65],
 oP 67 (.load (some 4)) [.t 66],
 oP 68 (.faddr 3) [.t 10],
 oP 69 (.load none) [.t 68],
 oP 70 .mv [.t 11],
 oP 71 (.iaddr (some 4)) [.t 69,.t 70],
 oP 72 (.load (some 4)) [.t 71],
 oP 73 (.build [((some 4),(.agg [(none,(.pv none (.int .i64 0))),(none,(.pv none (.int .i64 0))),(none,(.pv none (.str []))),(none,(.tsl (some 4) []))])),((some 4),(.agg [(none,(.pv none (.int .i64 0))),(none,(.pv none (.int .i64 0))),(none,(.pv none (.str []))),(none,(.tsl (some 4) []))]))] [0,1]) [.t 67,.t 72],
 oP 74 (.bslice (some 8)) [.t 73],
 oP 75 (.append (some 8)) [.t 62,.t 74],
 oP 6 .mv [.t 75]]
def c122k16 : ACode := (.block 3 (.region true c122r15 [0,6,7,9,10,11]))
def c122r17 : List AOper := [
 oP 60 .mv [.t 11],
 oP 61 (.bin .sub) [.t 60,.c (.pv none (.int .i64 1))],
 oP 11 .mv [.t 61]]
def c122b18 : ACode := (.seq (.seq (.region true c122r13 [0,6,7,9,10,11,59]) c122k14) (.seq c122k16 (.region true c122r17 [0,6,7,9,10,11])))
def c122k19 : ACode := (.block 2 (.loop [0,6,7,9,10,11] c122b18))
def c122k20 : ACode := (.cond (.t 53) (.seq (.region true c122r12 [0,6,7,9,10,11]) c122k19) .skip)
def c122k21 : ACode := (.block 1 (.seq (.seq (.region true c122r5 [0,6,7,22]) c122k7) (.seq (.region true c122r8 [0,6,7,8]) (.seq (.region true c122r9 [0,6,7,8]) (.seq (.region false c122r10 [0,6,7,9,10]) (.seq (.region true c122r11 [0,6,7,9,10,53]) c122k20))))))
def c122r22 : List AOper := [
 oP 19 .mv [.t 7],
 oP 20 (.bin .add) [.t 19,.c (.pv none (.int .i64 1))],
 oP 7 .mv [.t 20]]
def c122b23 : ACode := (.seq (.seq (.region true c122r3 [0,6,7,18]) c122k4) (.seq c122k21 (.region true c122r22 [0,6,7])))
def c122k24 : ACode := (.block 0 (.loop [0,6,7] c122b23))
def c122 : ACode := (.seq (.region true c122r0 [0,4,5]) (.seq (.region true c122r1 [0,6]) (.seq (.region true c122r2 [0,6,7]) c122k24)))
def g122 : AFn := ⟨3,[],c122,true,[],[],none⟩
theorem tr122 : trFn Tryz.prog true 122 Tryz.f122 = some g122 := by kernel_rfl
def c123r0 : List AOper := [
 oP 4 (.box (some 4)) [.t 1],
 oP 6 .mv [.c (.pv none (.int .i64 0))]]
def c123r1 : List AOper := [
 oP 13 .mv [.t 0],
 oP 14 (.load (some 4)) [.t 4],
 oP 15 .call [.c (.pv none (.func (.func 145))),.t 13,.t 14],
 oP 12 .mv [.t 15],
 oP 16 (.extract 0) [.t 12],
 oP 17 (.extract 1) [.t 12],
 oP 7 aZ [],
 ⟨none,(.store (some 4)),[.t 7,.t 16],none⟩,
 oP 8 .mv [.t 17]]
def c123r2 : List AOper := [
 oP 18 .mv [.t 8]]
def c123r3 : List AOper := [
 oP 19 .mv [.t 2],
 oP 20 (.faddr 1) [.t 4],
 oP 21 (.load none) [.t 20],
 oP 22 (.lookup false none (.pv none (.int .i64 0)) false) [.t 19,.t 21],
 oP 23 (.bin .eql) [.t 22,.c (.pv none (.int .i64 0))]]
def c123r4 : List AOper := [
 oP 24 .mv [.t 2],
 oP 25 (.faddr 1) [.t 4],
 oP 26 (.load none) [.t 25],
 oP 27 .mv [.t 0],
 oP 28 (.load (some 4)) [.t 7],
 oP 29 .mv [.t 2],
 oP 30 (.calln 1) [.t 25,.c (.pv none (.func (.func 123))),.t 27,.t 28,.t 29],
 ⟨none,(.mapset false none),[.t 24,.t 26,.t 30],none⟩]
def c123k5 : ACode := (.cond (.t 23) (.region false c123r4 [2,4]) .skip)
def c123r6 : List AOper := [
 oP 31 .mv [.t 2],
 oP 32 (.faddr 1) [.t 4],
 oP 33 (.load none) [.t 32],
 oP 34 (.lookup false none (.pv none (.int .i64 0)) false) [.t 31,.t 33],
 oP 6 .mv [.t 34]]
def c123k7 : ACode := (.cond (.t 18) (.seq (.seq (.region true c123r3 [0,2,4,7,23]) c123k5) (.seq (.region true c123r6 [6]) .ret)) .skip)
def c123r8 : List AOper := [
 oP 9 .mv [.c (.pv none (.int .i64 1))]]
def c123r9 : List AOper := [
 oP 35 (.faddr 3) [.t 4],
 oP 36 (.load none) [.t 35],
 oP 37 .len [.t 36],
 oP 38 .mv [.c (.pv none (.int .i64 0))]]
def c123r10 : List AOper := [
 oP 39 (.bin .lss) [.t 38,.t 37]]
def c123k11 : ACode := (.cond (.t 39) .skip (.exit 0))
def c123r12 : List AOper := [
 oP 40 (.iaddr (some 4)) [.t 36,.t 38],
 oP 41 (.load (some 4)) [.t 40],
 oP 11 aZ [],
 ⟨none,(.store (some 4)),[.t 11,.t 41],none⟩]
def c123r13 : List AOper := [
 oP 42 .mv [.t 9],
 oP 43 .mv [.t 0],
 oP 44 (.load (some 4)) [.t 11],
 oP 45 .mv [.t 2],
 oP 46 .call [.c (.pv none (.func (.func 123))),.t 43,.t 44,.t 45],
 oP 47 (.bin .add) [.t 42,.t 46],
 oP 48 .min [.t 47,.c (.pv none (.int .i64 2001))],
 oP 9 .mv [.t 48]]
def c123k14 : ACode := (.block 1 (.seq (.region true c123r12 [0,2,9,11,36,37,38]) (.region true c123r13 [0,2,9,36,37,38])))
def c123r15 : List AOper := [
 oP 49 (.bin .add) [.t 38,.c (.pv none (.int .i64 1))],
 oP 38 .mv [.t 49]]
def c123b16 : ACode := (.seq (.region true c123r10 [0,2,9,36,37,38,39]) (.seq c123k11 (.seq c123k14 (.region true c123r15 [0,2,9,36,37,38]))))
def c123k17 : ACode := (.block 0 (.loop [0,2,9,36,37,38] c123b16))
def c123r18 : List AOper := [
 oP 50 .mv [.t 9],
 oP 6 .mv [.t 50]]
def c123 : ACode := (.seq (.region true c123r0 [0,2,4]) (.seq (.seq (.region true c123r1 [0,2,4,7,8]) (.seq (.region true c123r2 [0,2,4,7,18]) c123k7)) (.seq (.region true c123r8 [0,2,4,9]) (.seq (.seq (.region true c123r9 [0,2,9,36,37,38]) c123k17) (.seq (.region true c123r18 [6]) .ret)))))
def g123 : AFn := ⟨3,[(6,none)],c123,true,[],[],none⟩
theorem tr123 : trFn Tryz.prog true 123 Tryz.f123 = some g123 := by kernel_rfl
def c124r0 : List AOper := [
 oP 3 (.box (some 4)) [.t 1],
 oP 4 aZ []]
def c124r1 : List AOper := [
 oP 11 .mv [.t 0],
 oP 12 (.load (some 4)) [.t 3],
 oP 13 .call [.c (.pv none (.func (.func 145))),.t 11,.t 12],
 oP 10 .mv [.t 13],
 oP 14 (.extract 0) [.t 10],
 oP 15 (.extract 1) [.t 10],
 oP 5 aZ [],
 ⟨none,(.store (some 4)),[.t 5,.t 14],none⟩,
 oP 6 .mv [.t 15]]
def c124r2 : List AOper := [
 oP 16 .mv [.t 6]]
def c124r3 : List AOper := [
 oP 17 .mv [.t 0],
 oP 18 (.load (some 4)) [.t 5],
 oP 19 .call [.c (.pv none (.func (.func 124))),.t 17,.t 18],
 ⟨none,(.store (some 4)),[.t 4,.t 19],none⟩]
def c124k4 : ACode := (.cond (.t 16) (.seq (.region true c124r3 [4]) .ret) .skip)
def c124r5 : List AOper := [
 oP 20 (.faddr 0) [.t 3],
 oP 21 (.load none) [.t 20],
 oP 22 (.faddr 1) [.t 3],
 oP 23 (.load none) [.t 22],
 oP 24 (.faddr 2) [.t 3],
 oP 25 (.load none) [.t 24],
 oP 26 (bZ [0,1,2]) [.t 21,.t 23,.t 25],
 oP 7 aZ [],
 ⟨none,(.store (some 4)),[.t 7,.t 26],none⟩]
def c124r6 : List AOper := [
 oP 27 (.faddr 3) [.t 3],
 oP 28 (.load none) [.t 27],
 oP 29 .len [.t 28],
 oP 30 .mv [.c (.pv none (.int .i64 0))]]
def c124r7 : List AOper := [
 oP 31 (.bin .lss) [.t 30,.t 29]]
def c124k8 : ACode := (.cond (.t 31) .skip (.exit 0))
def c124r9 : List AOper := [
 oP 32 (.iaddr (some 4)) [.t 28,.t 30],
 oP 33 (.load (some 4)) [.t 32],
 oP 9 aZ [],
 ⟨none,(.store (some 4)),[.t 9,.t 33],none⟩]
def c124r10 : List AOper := [
 oP 34 (.faddr 3) [.t 7],
 oP 35 (.load none) [.t 34],
 oP 36 .mv [.t 0],
 oP 37 (.load (some 4)) [.t 9],
 oP 38 .callp [.c (.pv none (.func (.func 124))),.t 36,.t 37],
 oP 39 (.bslicep (some 4)) [.t 38],
 oP 40 (.append (some 4)) [.t 35,.t 39],
 oP 41 (.faddr 3) [.t 7],
 ⟨none,(.store none),[.t 41,.t 40],none⟩]
def c124k11 : ACode := (.block 1 (.seq (.region true c124r9 [0,4,7,9,28,29,30]) (.seq (.settle [0,9]) (.region true c124r10 [0,4,7,28,29,30]))))
def c124r12 : List AOper := [
 oP 42 (.bin .add) [.t 30,.c (.pv none (.int .i64 1))],
 oP 30 .mv [.t 42]]
def c124b13 : ACode := (.seq (.region true c124r7 [0,4,7,28,29,30,31]) (.seq c124k8 (.seq c124k11 (.region true c124r12 [0,4,7,28,29,30]))))
def c124k14 : ACode := (.block 0 (.loop [0,4,7,28,29,30] c124b13))
def c124r15 : List AOper := [
 oP 43 (.load (some 4)) [.t 7],
 ⟨none,(.store (some 4)),[.t 4,.t 43],none⟩]
def c124 : ACode := (.seq (.region true c124r0 [0,3,4]) (.seq (.seq (.region true c124r1 [0,3,4,5,6]) (.seq (.region true c124r2 [0,3,4,5,16]) c124k4)) (.seq (.region true c124r5 [0,3,4,7]) (.seq (.seq (.region true c124r6 [0,4,7,28,29,30]) c124k14) (.seq (.region true c124r15 [4]) .ret)))))
def g124 : AFn := ⟨2,[(4,some (some 4))],c124,false,[],[],none⟩
theorem tr124 : trFn Tryz.prog false 124 Tryz.f124 = some g124 := by kernel_rfl
def c125r0 : List AOper := [
 oP 3 (.box (some 4)) [.t 0]]
def c125r1 : List AOper := [
 oP 5 (.load none) [.t 1],
 oP 6 (.bin .sub) [.t 5,.c (.pv none (.int .i64 1))],
 ⟨none,(.store none),[.t 1,.t 6],none⟩]
def c125r2 : List AOper := [
 oP 4 .mv [.c (.pv none (.int .i64 0))]]
def c125r3 : List AOper := [
 oP 7 .mv [.t 4],
 oP 8 (.faddr 3) [.t 3],
 oP 9 (.load none) [.t 8],
 oP 10 .len [.t 9],
 oP 11 (.bin .lss) [.t 7,.t 10],
 oP 12 .mv [.t 11],
 ⟨some 13,(.load none),[.t 1],some (12,true)⟩,
 ⟨some 14,(.bin .gtr),[.t 13,.c (.pv none (.int .i64 0))],some (12,true)⟩,
 oP 15 .pick [.t 12,.t 14,.c (.pv none (.bool false))]]
def c125k4 : ACode := (.cond (.t 15) .skip (.exit 0))
def c125r5 : List AOper := [
 oP 18 (.load none) [.t 2],
 oP 19 (.faddr 3) [.t 3],
 oP 20 (.load none) [.t 19],
 oP 21 .mv [.t 4],
 oP 22 (.iaddr (some 4)) [.t 20,.t 21],
 oP 23 (.load (some 4)) [.t 22],
 oP 24 .call [.t 18,.t 23]]
def c125k6 : ACode := (.block 1 (.region true c125r5 [1,2,3,4]))
def c125r7 : List AOper := [
 oP 16 .mv [.t 4],
 oP 17 (.bin .add) [.t 16,.c (.pv none (.int .i64 1))],
 oP 4 .mv [.t 17]]
def c125b8 : ACode := (.seq (.seq (.region true c125r3 [1,2,3,4,15]) c125k4) (.seq c125k6 (.region true c125r7 [1,2,3,4])))
def c125k9 : ACode := (.block 0 (.loop [1,2,3,4] c125b8))
def c125 : ACode := (.seq (.region true c125r0 [1,2,3]) (.seq (.region true c125r1 [1,2,3]) (.seq (.region true c125r2 [1,2,3,4]) c125k9)))
def g125 : AFn := ⟨3,[],c125,true,[],[],none⟩
theorem tr125 : trFn Tryz.prog true 125 Tryz.f125 = some g125 := by kernel_rfl
def c129r0 : List AOper := [
 oP 2 (.box (some 4)) [.t 0],
 oP 4 .mv [.c (.pv none (.int .i64 0))]]
def c129r1 : List AOper := [
 oP 5 .mv [.c (.pv none (.int .i64 1))]]
def c129r2 : List AOper := [
 oP 6 .mv [.c (.pv none (.int .i64 0))]]
def c129r3 : List AOper := [
 oP 7 .mv [.t 6],
 oP 8 (.faddr 3) [.t 2],
 oP 9 (.load none) [.t 8],
 oP 10 .len [.t 9],
 oP 11 (.bin .lss) [.t 7,.t 10],
 oP 12 .mv [.t 11],
 ⟨some 13,.mv,[.t 5],some (12,true)⟩,
 ⟨some 14,.mv,[.t 1],some (12,true)⟩,
 ⟨some 15,(.bin .lss),[.t 13,.t 14],some (12,true)⟩,
 oP 16 .pick [.t 12,.t 15,.c (.pv none (.bool false))]]
def c129k4 : ACode := (.cond (.t 16) .skip (.exit 0))
def c129r5 : List AOper := [
 oP 19 .mv [.t 5],
 oP 20 (.faddr 3) [.t 2],
 oP 21 (.load none) [.t 20],
 oP 22 .mv [.t 6],
 oP 23 (.iaddr (some 4)) [.t 21,.t 22],
 oP 24 (.load (some 4)) [.t 23],
 oP 25 .mv [.t 1],
 oP 26 .mv [.t 5],
 oP 27 (.bin .sub) [.t 25,.t 26],
 oP 28 .call [.c (.pv none (.func (.func 129))),.t 24,.t 27],
 oP 29 (.bin .add) [.t 19,.t 28],
 oP 5 .mv [.t 29]]
def c129k6 : ACode := (.block 1 (.region true c129r5 [1,2,5,6]))
def c129r7 : List AOper := [
 oP 17 .mv [.t 6],
 oP 18 (.bin .add) [.t 17,.c (.pv none (.int .i64 1))],
 oP 6 .mv [.t 18]]
def c129b8 : ACode := (.seq (.seq (.region true c129r3 [1,2,5,6,16]) c129k4) (.seq c129k6 (.region true c129r7 [1,2,5,6])))
def c129k9 : ACode := (.block 0 (.loop [1,2,5,6] c129b8))
def c129r10 : List AOper := [
 oP 30 .mv [.t 5],
 oP 4 .mv [.t 30]]
def c129 : ACode := (.seq (.region true c129r0 [1,2]) (.seq (.region true c129r1 [1,2,5]) (.seq (.seq (.region true c129r2 [1,2,5,6]) c129k9) (.seq (.region true c129r10 [4]) .ret))))
def g129 : AFn := ⟨2,[(4,none)],c129,false,[],[],none⟩
theorem tr129 : trFn Tryz.prog false 129 Tryz.f129 = some g129 := by kernel_rfl
def c130r0 : List AOper := [
 oP 1 (.box (some 4)) [.t 0],
 oP 2 .mv [.c (.pv none (.bool false))]]
def c130r1 : List AOper := [
 oP 3 (.faddr 0) [.t 1],
 oP 4 (.load none) [.t 3]]
def c130r2 : List AOper := [
 oP 6 (.bin .eql) [.t 4,.c (.pv none (.int .i64 0))],
 oP 5 .mv [.t 6]]
def c130r3 : List AOper := [
 oP 7 (.faddr 1) [.t 1],
 oP 8 (.load none) [.t 7],
 oP 9 (.bin .geq) [.t 8,.c (.pv none (.int .i64 0))],
 oP 10 .mv [.t 9],
 ⟨some 11,(.faddr 1),[.t 1],some (10,true)⟩,
 ⟨some 12,(.load none),[.t 11],some (10,true)⟩,
 ⟨some 13,(.bin .leq),[.t 12,.c (.pv none (.int .i64 1099511627776))],some (10,true)⟩,
 oP 14 .pick [.t 10,.t 13,.c (.pv none (.bool false))],
 oP 15 .mv [.t 14],
 ⟨some 16,(.faddr 2),[.t 1],some (15,true)⟩,
 ⟨some 17,(.load none),[.t 16],some (15,true)⟩,
 ⟨some 18,(.bin .eql),[.t 17,.c (.pv none (.str []))],some (15,true)⟩,
 oP 19 .pick [.t 15,.t 18,.c (.pv none (.bool false))],
 oP 20 .mv [.t 19],
 ⟨some 21,(.faddr 3),[.t 1],some (20,true)⟩,
 ⟨some 22,(.load none),[.t 21],some (20,true)⟩,
 ⟨some 23,.len,[.t 22],some (20,true)⟩,
 ⟨some 24,(.bin .eql),[.t 23,.c (.pv none (.int .i64 0))],some (20,true)⟩,
 oP 25 .pick [.t 20,.t 24,.c (.pv none (.bool false))],
 oP 2 .mv [.t 25]]
def c130r4 : List AOper := [
 oP 27 (.bin .eql) [.t 4,.c (.pv none (.int .i64 1))],
 oP 26 .mv [.t 27]]
def c130r5 : List AOper := [
 oP 28 (.faddr 2) [.t 1],
 oP 29 (.load none) [.t 28],
 oP 30 (.bin .eql) [.t 29,.c (.pv none (.str []))],
 oP 31 .mv [.t 30],
 ⟨some 32,(.faddr 3),[.t 1],some (31,true)⟩,
 ⟨some 33,(.load none),[.t 32],some (31,true)⟩,
 ⟨some 34,.len,[.t 33],some (31,true)⟩,
 ⟨some 35,(.bin .eql),[.t 34,.c (.pv none (.int .i64 0))],some (31,true)⟩,
 oP 36 .pick [.t 31,.t 35,.c (.pv none (.bool false))],
 oP 2 .mv [.t 36]]
def c130r6 : List AOper := [
 oP 38 (.bin .eql) [.t 4,.c (.pv none (.int .i64 2))],
 oP 37 .mv [.t 38]]
def c130r7 : List AOper := [
 oP 39 (.faddr 1) [.t 1],
 oP 40 (.load none) [.t 39],
 oP 41 (.bin .eql) [.t 40,.c (.pv none (.int .i64 0))],
 oP 42 .mv [.t 41],
 ⟨some 43,(.faddr 2),[.t 1],some (42,true)⟩,
 ⟨some 44,(.load none),[.t 43],some (42,true)⟩,
 ⟨some 45,.slen,[.t 44],some (42,true)⟩,
 ⟨some 46,(.bin .leq),[.t 45,.c (.pv none (.int .i64 100))],some (42,true)⟩,
 oP 47 .pick [.t 42,.t 46,.c (.pv none (.bool false))],
 oP 48 .mv [.t 47],
 ⟨some 49,(.faddr 3),[.t 1],some (48,true)⟩,
 ⟨some 50,(.load none),[.t 49],some (48,true)⟩,
 ⟨some 51,.len,[.t 50],some (48,true)⟩,
 ⟨some 52,(.bin .eql),[.t 51,.c (.pv none (.int .i64 0))],some (48,true)⟩,
 oP 53 .pick [.t 48,.t 52,.c (.pv none (.bool false))],
 oP 2 .mv [.t 53]]
def c130r8 : List AOper := [
 oP 55 (.bin .eql) [.t 4,.c (.pv none (.int .i64 3))],
 oP 54 .mv [.t 55]]
def c130r9 : List AOper := [
 oP 56 (.faddr 1) [.t 1],
 oP 57 (.load none) [.t 56],
 oP 58 (.bin .eql) [.t 57,.c (.pv none (.int .i64 0))],
 oP 59 .mv [.t 58],
 ⟨some 60,(.faddr 2),[.t 1],some (59,true)⟩,
 ⟨some 61,(.load none),[.t 60],some (59,true)⟩,
 ⟨some 62,.slen,[.t 61],some (59,true)⟩,
 ⟨some 63,(.bin .leq),[.t 62,.c (.pv none (.int .i64 100))],some (59,true)⟩,
 oP 64 .pick [.t 59,.t 63,.c (.pv none (.bool false))],
 oP 65 .mv [.t 64],
 ⟨some 66,(.faddr 3),[.t 1],some (65,true)⟩,
 ⟨some 67,(.load none),[.t 66],some (65,true)⟩,
 ⟨some 68,.len,[.t 67],some (65,true)⟩,
 ⟨some 69,(.bin .geq),[.t 68,.c (.pv none (.int .i64 1))],some (65,true)⟩,
 oP 70 .pick [.t 65,.t 69,.c (.pv none (.bool false))],
 oP 71 .mv [.t 70],
 ⟨some 72,(.faddr 3),[.t 1],some (71,true)⟩,
 ⟨some 73,(.load none),[.t 72],some (71,true)⟩,
 ⟨some 74,.len,[.t 73],some (71,true)⟩,
 ⟨some 75,(.bin .leq),[.t 74,.c (.pv none (.int .i64 8))],some (71,true)⟩,
 oP 76 .pick [.t 71,.t 75,.c (.pv none (.bool false))],
 oP 2 .mv [.t 76]]
def c130k10 : ACode := (.cond (.t 54) (.seq (.region true c130r9 [2]) .ret) .skip)
def c130k11 : ACode := (.cond (.t 37) (.seq (.region true c130r7 [2]) .ret) (.seq (.region true c130r8 [1,54]) c130k10))
def c130k12 : ACode := (.cond (.t 26) (.seq (.region true c130r5 [2]) .ret) (.seq (.region true c130r6 [1,4,37]) c130k11))
def c130k13 : ACode := (.cond (.t 5) (.seq (.region true c130r3 [2]) .ret) (.seq (.region true c130r4 [1,4,26]) c130k12))
def c130k14 : ACode := (.block 0 (.seq (.region true c130r2 [1,4,5]) c130k13))
def c130r15 : List AOper := [
 oP 2 .mv [.c (.pv none (.bool false))]]
def c130 : ACode := (.seq (.region true c130r0 [1]) (.seq (.seq (.region true c130r1 [1,4]) c130k14) (.seq (.region true c130r15 [2]) .ret)))
def g130 : AFn := ⟨1,[(2,none)],c130,false,[],[],none⟩
theorem tr130 : trFn Tryz.prog false 130 Tryz.f130 = some g130 := by kernel_rfl
def c132r0 : List AOper := [
 oP 2 (.nilsl (some 4)) [],
 oP 3 .mv [.c (.pv none (.int .i64 0))]]
def c132r1 : List AOper := [
 oP 4 .mv [.t 0],
 oP 5 .call [.c (.pv none (.func (.func 80))),.t 4],
 oP 6 .not [.t 5]]
def c132r2 : List AOper := [
 oP 2 (.nilsl (some 4)) [],
 oP 3 .mv [.c (.pv none (.int .i64 1))]]
def c132k3 : ACode := (.cond (.t 6) (.seq (.region true c132r2 [2,3]) .ret) .skip)
def c132r4 : List AOper := [
 oP 7 .mv [.t 0],
 oP 8 .call [.c (.pv none (.func (.func 81))),.t 7,.c (.pv none (.func (.func 83)))],
 oP 2 .mv [.t 8],
 oP 3 .mv [.c (.pv none (.int .i64 0))]]
def c132 : ACode := (.seq (.region true c132r0 [0]) (.seq (.seq (.region true c132r1 [0,6]) c132k3) (.seq (.region true c132r4 [2,3]) .ret)))
def g132 : AFn := ⟨1,[(2,none),(3,none)],c132,true,[],[],none⟩
theorem tr132 : trFn Tryz.prog true 132 Tryz.f132 = some g132 := by kernel_rfl
def c133r0 : List AOper := [
 oP 4 (.nilsl (some 4)) []]
def c133r1 : List AOper := [
 oP 8 .mv [.t 0],
 oP 9 .len [.t 8],
 oP 10 (.bin .lss) [.t 9,.c (.pv none (.int .i64 2))]]
def c133r2 : List AOper := [
 oP 11 .mv [.t 0],
 oP 4 .mv [.t 11]]
def c133k3 : ACode := (.cond (.t 10) (.seq (.region true c133r2 [4]) .ret) .skip)
def c133r4 : List AOper := [
 oP 5 .mv [.c (.pv none (.int .i64 1))]]
def c133r5 : List AOper := [
 oP 12 .mv [.t 5],
 oP 13 .mv [.t 0],
 oP 14 .len [.t 13],
 oP 15 (.bin .lss) [.t 12,.t 14]]
def c133k6 : ACode := (.cond (.t 15) .skip (.exit 0))
def c133r7 : List AOper := [
 oP 18 .mv [.t 1],
 oP 19 .mv [.t 0],
 oP 20 .mv [.t 5],
 oP 21 (.iaddr (some 4)) [.t 19,.t 20],
 oP 22 (.load (some 4)) [.t 21],
 oP 23 .mv [.t 0],
 oP 24 .mv [.t 5],
 oP 25 (.bin .sub) [.t 24,.c (.pv none (.int .i64 1))],
 oP 26 (.iaddr (some 4)) [.t 23,.t 25],
 oP 27 (.load (some 4)) [.t 26],
 oP 28 .call [.t 18,.t 22,.t 27]]
def c133r8 : List AOper := [
 oP 29 .mv [.t 0],
 oP 30 .mv [.t 5],
 oP 31 (.slice (some 4) true false) [.t 29,.t 30],
 oP 6 .mv [.t 31]]
def c133r9 : List AOper := [
 oP 7 .mv [.c (.pv none (.int .i64 1))]]
def c133r10 : List AOper := [
 oP 32 .mv [.t 7],
 oP 33 .mv [.t 6],
 oP 34 .len [.t 33],
 oP 35 (.bin .lss) [.t 32,.t 34]]
def c133k11 : ACode := (.cond (.t 35) .skip (.exit 2))
def c133r12 : List AOper := [
 oP 38 .mv [.t 1],
 oP 39 .mv [.t 6],
 oP 40 .mv [.t 7],
 oP 41 (.iaddr (some 4)) [.t 39,.t 40],
 oP 42 (.load (some 4)) [.t 41],
 oP 43 .mv [.t 6],
 oP 44 .mv [.t 7],
 oP 45 (.bin .sub) [.t 44,.c (.pv none (.int .i64 1))],
 oP 46 (.iaddr (some 4)) [.t 43,.t 45],
 oP 47 (.load (some 4)) [.t 46],
 oP 48 .call [.t 38,.t 42,.t 47],
 oP 49 .not [.t 48]]
def c133r13 : List AOper := [
 oP 50 .mv [.t 0],
 oP 51 .mv [.t 5],
 oP 52 .mv [.t 6],
 oP 53 .mv [.t 7],
 oP 54 (.iaddr (some 4)) [.t 52,.t 53],
 oP 55 (.load (some 4)) [.t 54],
 oP 56 (.iaddr (some 4)) [.t 50,.t 51],
 ⟨none,(.store (some 4)),[.t 56,.t 55],none⟩]
def c133r14 : List AOper := [
 oP 57 .mv [.t 5],
 oP 58 (.bin .add) [.t 57,.c (.pv none (.int .i64 1))],
 oP 5 .mv [.t 58]]
def c133k15 : ACode := (.cond (.t 49) (.seq (.region true c133r13 [0,1,5,6,7]) (.region true c133r14 [0,1,5,6,7])) .skip)
def c133k16 : ACode := (.block 3 (.seq (.region true c133r12 [0,1,5,6,7,49]) c133k15))
def c133r17 : List AOper := [
 oP 36 .mv [.t 7],
 oP 37 (.bin .add) [.t 36,.c (.pv none (.int .i64 1))],
 oP 7 .mv [.t 37]]
def c133b18 : ACode := (.seq (.seq (.region true c133r10 [0,1,5,6,7,35]) c133k11) (.seq c133k16 (.region true c133r17 [0,1,5,6,7])))
def c133k19 : ACode := (.block 2 (.loop [0,1,5,6,7] c133b18))
def c133r20 : List AOper := [
 oP 59 .mv [.t 0],
 oP 60 .mv [.t 5],
 oP 61 (.slice (some 4) true false) [.t 59,.t 60],
 ⟨none,(.clear (some 4) (.agg [(none,(.int .i64 0)),(none,(.int .i64 0)),(none,(.str [])),(none,(.sl (some 4) []))])),[.t 61],none⟩]
def c133r21 : List AOper := [
 oP 62 .mv [.t 0],
 oP 63 .mv [.t 5],
 oP 64 (.slice (some 4) false true) [.t 62,.t 63],
 oP 4 .mv [.t 64]]
def c133k22 : ACode := (.cond (.t 28) (.seq (.region true c133r8 [0,1,5,6]) (.seq (.seq (.region true c133r9 [0,1,5,6,7]) c133k19) (.seq (.region true c133r20 [0,5]) (.seq (.region true c133r21 [4]) .ret)))) .skip)
def c133k23 : ACode := (.block 1 (.seq (.region true c133r7 [0,1,5,28]) c133k22))
def c133r24 : List AOper := [
 oP 16 .mv [.t 5],
 oP 17 (.bin .add) [.t 16,.c (.pv none (.int .i64 1))],
 oP 5 .mv [.t 17]]
def c133b25 : ACode := (.seq (.seq (.region true c133r5 [0,1,5,15]) c133k6) (.seq c133k23 (.region true c133r24 [0,1,5])))
def c133k26 : ACode := (.block 0 (.loop [0,1,5] c133b25))
def c133r27 : List AOper := [
 oP 65 .mv [.t 0],
 oP 4 .mv [.t 65]]
def c133 : ACode := (.seq (.region true c133r0 [0,1]) (.seq (.seq (.region true c133r1 [0,1,10]) c133k3) (.seq (.seq (.region true c133r4 [0,1,5]) c133k26) (.seq (.region true c133r27 [4]) .ret))))
def g133 : AFn := ⟨2,[(4,none)],c133,true,[],[],none⟩
theorem tr133 : trFn Tryz.prog true 133 Tryz.f133 = some g133 := by kernel_rfl
def c134r0 : List AOper := [
 oP 2 (.box (some 4)) [.t 0],
 oP 3 (.box (some 4)) [.t 1],
 oP 4 .mv [.c (.pv none (.bool false))]]
def c134r1 : List AOper := [
 oP 5 (.load (some 4)) [.t 2],
 oP 6 (.load (some 4)) [.t 3],
 oP 7 .call [.c (.pv none (.func (.func 83))),.t 5,.t 6],
 oP 8 (.bin .eql) [.t 7,.c (.pv none (.int .i64 0))],
 oP 4 .mv [.t 8]]
def c134 : ACode := (.seq (.region true c134r0 [2,3]) (.seq (.region true c134r1 [4]) .ret))
def g134 : AFn := ⟨2,[(4,none)],c134,false,[],[],none⟩
theorem tr134 : trFn Tryz.prog false 134 Tryz.f134 = some g134 := by kernel_rfl
def c135r0 : List AOper := [
 oP 4 .mv [.c (.pv none (.int .i64 0))]]
def c135r1 : List AOper := [
 oP 5 .mv [.t 0],
 oP 6 .mv [.t 1],
 oP 7 (.bin .lss) [.t 5,.t 6]]
def c135r2 : List AOper := [
 oP 4 .mv [.c (.pv none (.int .i64 (-1)))]]
def c135k3 : ACode := (.cond (.t 7) (.seq (.region true c135r2 [4]) .ret) .skip)
def c135r4 : List AOper := [
 oP 8 .mv [.t 0],
 oP 9 .mv [.t 1],
 oP 10 (.bin .gtr) [.t 8,.t 9]]
def c135r5 : List AOper := [
 oP 4 .mv [.c (.pv none (.int .i64 1))]]
def c135k6 : ACode := (.cond (.t 10) (.seq (.region true c135r5 [4]) .ret) .skip)
def c135r7 : List AOper := [
 oP 4 .mv [.c (.pv none (.int .i64 0))]]
def c135 : ACode := (.seq (.region true c135r0 [0,1]) (.seq (.seq (.region true c135r1 [0,1,7]) c135k3) (.seq (.seq (.region true c135r4 [10]) c135k6) (.seq (.region true c135r7 [4]) .ret))))
def g135 : AFn := ⟨2,[(4,none)],c135,false,[],[],none⟩
theorem tr135 : trFn Tryz.prog false 135 Tryz.f135 = some g135 := by kernel_rfl
def c136r0 : List AOper := [
 oP 4 .mv [.c (.pv none (.int .i64 0))]]
def c136r1 : List AOper := [
 oP 5 .mv [.c (.pv none (.int .i64 0))]]
def c136r2 : List AOper := [
 oP 6 .mv [.t 5],
 oP 7 .mv [.t 0],
 oP 8 .slen [.t 7],
 oP 9 (.bin .lss) [.t 6,.t 8],
 oP 10 .mv [.t 9],
 ⟨some 11,.mv,[.t 5],some (10,true)⟩,
 ⟨some 12,.mv,[.t 1],some (10,true)⟩,
 ⟨some 13,.slen,[.t 12],some (10,true)⟩,
 ⟨some 14,(.bin .lss),[.t 11,.t 13],some (10,true)⟩,
 oP 15 .pick [.t 10,.t 14,.c (.pv none (.bool false))]]
def c136k3 : ACode := (.cond (.t 15) .skip (.exit 0))
def c136r4 : List AOper := [
 oP 18 .mv [.t 0],
 oP 19 .mv [.t 5],
 oP 20 .sindex [.t 18,.t 19],
 oP 21 .mv [.t 1],
 oP 22 .mv [.t 5],
 oP 23 .sindex [.t 21,.t 22],
 oP 24 (.bin .lss) [.t 20,.t 23]]
def c136r5 : List AOper := [
 oP 4 .mv [.c (.pv none (.int .i64 (-1)))]]
def c136k6 : ACode := (.cond (.t 24) (.seq (.region true c136r5 [4]) .ret) .skip)
def c136r7 : List AOper := [
 oP 25 .mv [.t 0],
 oP 26 .mv [.t 5],
 oP 27 .sindex [.t 25,.t 26],
 oP 28 .mv [.t 1],
 oP 29 .mv [.t 5],
 oP 30 .sindex [.t 28,.t 29],
 oP 31 (.bin .gtr) [.t 27,.t 30]]
def c136r8 : List AOper := [
 oP 4 .mv [.c (.pv none (.int .i64 1))]]
def c136k9 : ACode := (.cond (.t 31) (.seq (.region true c136r8 [4]) .ret) .skip)
def c136k10 : ACode := (.block 1 (.seq (.seq (.region true c136r4 [0,1,5,24]) c136k6) (.seq (.region true c136r7 [0,1,5,31]) c136k9)))
def c136r11 : List AOper := [
 oP 16 .mv [.t 5],
 oP 17 (.bin .add) [.t 16,.c (.pv none (.int .i64 1))],
 oP 5 .mv [.t 17]]
def c136b12 : ACode := (.seq (.seq (.region true c136r2 [0,1,5,15]) c136k3) (.seq c136k10 (.region true c136r11 [0,1,5])))
def c136k13 : ACode := (.block 0 (.loop [0,1,5] c136b12))
def c136r14 : List AOper := [
 oP 32 .mv [.t 0],
 oP 33 .slen [.t 32],
 oP 34 .mv [.t 1],
 oP 35 .slen [.t 34],
 oP 36 .call [.c (.pv none (.func (.func 135))),.t 33,.t 35],
 oP 4 .mv [.t 36]]
def c136 : ACode := (.seq (.region true c136r0 [0,1]) (.seq (.seq (.region true c136r1 [0,1,5]) c136k13) (.seq (.region true c136r14 [4]) .ret)))
def g136 : AFn := ⟨2,[(4,none)],c136,false,[],[],none⟩
theorem tr136 : trFn Tryz.prog false 136 Tryz.f136 = some g136 := by kernel_rfl
def c137r0 : List AOper := [
 oP 4 .mv [.c (.pv none (.int .i64 0))]]
def c137r1 : List AOper := [
 oP 5 .mv [.c (.pv none (.int .i64 0))]]
def c137r2 : List AOper := [
 oP 6 .mv [.t 5],
 oP 7 .mv [.t 0],
 oP 8 .len [.t 7],
 oP 9 (.bin .lss) [.t 6,.t 8]]
def c137k3 : ACode := (.cond (.t 9) .skip (.exit 0))
def c137r4 : List AOper := [
 oP 12 .mv [.t 0],
 oP 13 .mv [.t 5],
 oP 14 (.iaddr none) [.t 12,.t 13],
 oP 15 (.load none) [.t 14],
 oP 16 .mv [.t 1],
 oP 17 (.bin .eql) [.t 15,.t 16]]
def c137r5 : List AOper := [
 oP 18 .mv [.t 5],
 oP 4 .mv [.t 18]]
def c137k6 : ACode := (.cond (.t 17) (.seq (.region true c137r5 [4]) .ret) .skip)
def c137k7 : ACode := (.block 1 (.seq (.region true c137r4 [0,1,5,17]) c137k6))
def c137r8 : List AOper := [
 oP 10 .mv [.t 5],
 oP 11 (.bin .add) [.t 10,.c (.pv none (.int .i64 1))],
 oP 5 .mv [.t 11]]
def c137b9 : ACode := (.seq (.seq (.region true c137r2 [0,1,5,9]) c137k3) (.seq c137k7 (.region true c137r8 [0,1,5])))
def c137k10 : ACode := (.block 0 (.loop [0,1,5] c137b9))
def c137r11 : List AOper := [
 oP 4 .mv [.c (.pv none (.int .i64 (-1)))]]
def c137 : ACode := (.seq (.region true c137r0 [0,1]) (.seq (.seq (.region true c137r1 [0,1,5]) c137k10) (.seq (.region true c137r11 [4]) .ret)))
def g137 : AFn := ⟨2,[(4,none)],c137,false,[],[],none⟩
theorem tr137 : trFn Tryz.prog false 137 Tryz.f137 = some g137 := by kernel_rfl
def c138r0 : List AOper := [
 oP 6 .mv [.c (.pv none (.int .i64 20))]]
def c138r1 : List AOper := [
 oP 10 .mv [.t 6],
 oP 7 .mv [.c (.pv none (.int .i64 0))],
 oP 8 .mv [.t 10]]
def c138r2 : List AOper := [
 oP 11 .mv [.t 8],
 oP 12 .mv [.t 1],
 oP 13 (.bin .leq) [.t 11,.t 12]]
def c138k3 : ACode := (.cond (.t 13) .skip (.exit 0))
def c138r4 : List AOper := [
 oP 14 .mv [.t 0],
 oP 15 .mv [.t 7],
 oP 16 .mv [.t 8],
 oP 17 .mv [.t 2],
 oP 18 .call [.c (.pv none (.func (.func 150))),.t 14,.t 15,.t 16,.t 17]]
def c138r5 : List AOper := [
 oP 19 .mv [.t 8],
 oP 7 .mv [.t 19]]
def c138r6 : List AOper := [
 oP 20 .mv [.t 8],
 oP 21 .mv [.t 6],
 oP 22 (.bin .add) [.t 20,.t 21],
 oP 8 .mv [.t 22]]
def c138k7 : ACode := (.block 1 (.seq (.region true c138r4 [0,1,2,6,8]) (.seq (.region true c138r5 [0,1,2,6,7,8]) (.region true c138r6 [0,1,2,6,7,8]))))
def c138b8 : ACode := (.seq (.seq (.region true c138r2 [0,1,2,6,7,8,13]) c138k3) c138k7)
def c138k9 : ACode := (.block 0 (.loop [0,1,2,6,7,8] c138b8))
def c138r10 : List AOper := [
 oP 23 .mv [.t 0],
 oP 24 .mv [.t 7],
 oP 25 .mv [.t 1],
 oP 26 .mv [.t 2],
 oP 27 .call [.c (.pv none (.func (.func 150))),.t 23,.t 24,.t 25,.t 26]]
def c138r11 : List AOper := [
 oP 28 .mv [.t 6],
 oP 29 .mv [.t 1],
 oP 30 (.bin .lss) [.t 28,.t 29]]
def c138k12 : ACode := (.cond (.t 30) .skip (.exit 2))
def c138r13 : List AOper := [
 oP 31 .mv [.t 6],
 oP 32 (.bin .mul) [.c (.pv none (.int .i64 2)),.t 31],
 oP 7 .mv [.c (.pv none (.int .i64 0))],
 oP 8 .mv [.t 32]]
def c138r14 : List AOper := [
 oP 33 .mv [.t 8],
 oP 34 .mv [.t 1],
 oP 35 (.bin .leq) [.t 33,.t 34]]
def c138k15 : ACode := (.cond (.t 35) .skip (.exit 4))
def c138r16 : List AOper := [
 oP 36 .mv [.t 0],
 oP 37 .mv [.t 7],
 oP 38 .mv [.t 7],
 oP 39 .mv [.t 6],
 oP 40 (.bin .add) [.t 38,.t 39],
 oP 41 .mv [.t 8],
 oP 42 .mv [.t 2],
 oP 43 .call [.c (.pv none (.func (.func 151))),.t 36,.t 37,.t 40,.t 41,.t 42]]
def c138r17 : List AOper := [
 oP 44 .mv [.t 8],
 oP 7 .mv [.t 44]]
def c138r18 : List AOper := [
 oP 45 .mv [.t 8],
 oP 46 .mv [.t 6],
 oP 47 (.bin .mul) [.c (.pv none (.int .i64 2)),.t 46],
 oP 48 (.bin .add) [.t 45,.t 47],
 oP 8 .mv [.t 48]]
def c138k19 : ACode := (.block 5 (.seq (.region true c138r16 [0,1,2,6,8]) (.seq (.region true c138r17 [0,1,2,6,7,8]) (.region true c138r18 [0,1,2,6,7,8]))))
def c138b20 : ACode := (.seq (.seq (.region true c138r14 [0,1,2,6,7,8,35]) c138k15) c138k19)
def c138k21 : ACode := (.block 4 (.loop [0,1,2,6,7,8] c138b20))
def c138r22 : List AOper := [
 oP 49 .mv [.t 7],
 oP 50 .mv [.t 6],
 oP 51 (.bin .add) [.t 49,.t 50],
 oP 9 .mv [.t 51]]
def c138r23 : List AOper := [
 oP 52 .mv [.t 9],
 oP 53 .mv [.t 1],
 oP 54 (.bin .lss) [.t 52,.t 53]]
def c138r24 : List AOper := [
 oP 55 .mv [.t 0],
 oP 56 .mv [.t 7],
 oP 57 .mv [.t 9],
 oP 58 .mv [.t 1],
 oP 59 .mv [.t 2],
 oP 60 .call [.c (.pv none (.func (.func 151))),.t 55,.t 56,.t 57,.t 58,.t 59]]
def c138k25 : ACode := (.cond (.t 54) (.region true c138r24 [0,1,2,6]) .skip)
def c138r26 : List AOper := [
 oP 61 .mv [.t 6],
 oP 62 (.bin .mul) [.t 61,.c (.pv none (.int .i64 2))],
 oP 6 .mv [.t 62]]
def c138k27 : ACode := (.block 3 (.seq (.region true c138r13 [0,1,2,6,7,8]) (.seq c138k21 (.seq (.seq (.region true c138r22 [0,1,2,6,7,9]) (.seq (.region true c138r23 [0,1,2,6,7,9,54]) c138k25)) (.region true c138r26 [0,1,2,6])))))
def c138b28 : ACode := (.seq (.seq (.region true c138r11 [0,1,2,6,30]) c138k12) c138k27)
def c138k29 : ACode := (.block 2 (.loop [0,1,2,6] c138b28))
def c138 : ACode := (.seq (.region true c138r0 [0,1,2,6]) (.seq (.region true c138r1 [0,1,2,6,7,8]) (.seq c138k9 (.seq (.region true c138r10 [0,1,2,6]) c138k29))))
def g138 : AFn := ⟨3,[],c138,true,[],[],none⟩
theorem tr138 : trFn Tryz.prog true 138 Tryz.f138 = some g138 := by kernel_rfl
def c139r0 : List AOper := [
 oP 2 .mv [.c (.pv none (.bool false))]]
def c139r1 : List AOper := [
 oP 3 .mv [.t 0],
 oP 4 .mv [.t 0],
 oP 5 (.bin .neq) [.t 3,.t 4],
 oP 2 .mv [.t 5]]
def c139 : ACode := (.seq (.region true c139r0 [0]) (.seq (.region true c139r1 [2]) .ret))
def g139 : AFn := ⟨1,[(2,none)],c139,false,[],[],none⟩
theorem tr139 : trFn Tryz.prog false 139 Tryz.f139 = some g139 := by kernel_rfl
def c140r0 : List AOper := [
 oP 2 .mv [.c (.pv none (.bool false))]]
def c140r1 : List AOper := [
 oP 3 .mv [.t 0],
 oP 4 .mv [.t 0],
 oP 5 (.bin .neq) [.t 3,.t 4],
 oP 2 .mv [.t 5]]
def c140 : ACode := (.seq (.region true c140r0 [0]) (.seq (.region true c140r1 [2]) .ret))
def g140 : AFn := ⟨1,[(2,none)],c140,false,[],[],none⟩
theorem tr140 : trFn Tryz.prog false 140 Tryz.f140 = some g140 := by kernel_rfl
def c141r0 : List AOper := [
 oP 4 .mv [.c (.pv none (.int .i64 0))]]
def c141r1 : List AOper := [
 oP 5 .mv [.t 0],
 oP 6 .mv [.t 1],
 oP 7 .call [.c (.pv none (.func (.func 152))),.t 5,.t 6],
 oP 4 .mv [.t 7]]
def c141 : ACode := (.seq (.region true c141r0 [0,1]) (.seq (.region true c141r1 [4]) .ret))
def g141 : AFn := ⟨2,[(4,none)],c141,false,[],[],none⟩
theorem tr141 : trFn Tryz.prog false 141 Tryz.f141 = some g141 := by kernel_rfl
def c142r0 : List AOper := [
 oP 6 .mv [.c (.pv none (.bool false))]]
def c142r1 : List AOper := [
 oP 11 .mv [.t 2],
 oP 12 .mv [.t 1],
 oP 13 (.lookup false none (.pv none (.int .i64 0)) false) [.t 11,.t 12],
 oP 14 (.bin .neq) [.t 13,.c (.pv none (.int .i64 0))]]
def c142r2 : List AOper := [
 oP 15 .mv [.t 2],
 oP 16 .mv [.t 1],
 oP 17 (.lookup false none (.pv none (.int .i64 0)) false) [.t 15,.t 16],
 oP 18 (.bin .eql) [.t 17,.c (.pv none (.int .i64 1))],
 oP 6 .mv [.t 18]]
def c142k3 : ACode := (.cond (.t 14) (.seq (.region true c142r2 [6]) .ret) .skip)
def c142r4 : List AOper := [
 oP 20 .mv [.t 0],
 oP 21 .mv [.t 1],
 oP 22 (bZ [1]) [.t 21],
 oP 23 .call [.c (.pv none (.func (.func 145))),.t 20,.t 22],
 oP 19 .mv [.t 23],
 oP 24 (.extract 0) [.t 19],
 oP 25 (.extract 1) [.t 19],
 oP 7 aZ [],
 ⟨none,(.store (some 4)),[.t 7,.t 24],none⟩,
 oP 8 .mv [.t 25]]
def c142r5 : List AOper := [
 oP 26 .mv [.t 8],
 oP 27 .not [.t 26]]
def c142r6 : List AOper := [
 oP 6 .mv [.c (.pv none (.bool false))]]
def c142k7 : ACode := (.cond (.t 27) (.seq (.region true c142r6 [6]) .ret) .skip)
def c142r8 : List AOper := [
 oP 28 .mv [.t 2],
 oP 29 .mv [.t 1],
 ⟨none,(.mapset false none),[.t 28,.t 29,.c (.pv none (.int .i64 1))],none⟩]
def c142r9 : List AOper := [
 oP 30 (.load (some 4)) [.t 7],
 oP 31 .call [.c (.pv none (.func (.func 64))),.t 30],
 oP 32 .len [.t 31],
 oP 33 .mv [.c (.pv none (.int .i64 0))]]
def c142r10 : List AOper := [
 oP 34 (.bin .lss) [.t 33,.t 32]]
def c142k11 : ACode := (.cond (.t 34) .skip (.exit 0))
def c142r12 : List AOper := [
 oP 35 (.iaddr none) [.t 31,.t 33],
 oP 36 (.load none) [.t 35],
 oP 10 .mv [.t 36]]
def c142r13 : List AOper := [
 oP 37 .mv [.t 0],
 oP 38 .mv [.t 10],
 oP 39 .mv [.t 2],
 oP 40 .call [.c (.pv none (.func (.func 142))),.t 37,.t 38,.t 39]]
def c142r14 : List AOper := [
 oP 6 .mv [.c (.pv none (.bool true))]]
def c142k15 : ACode := (.cond (.t 40) (.seq (.region true c142r14 [6]) .ret) .skip)
def c142k16 : ACode := (.block 1 (.seq (.region true c142r12 [0,1,2,10,31,32,33]) (.seq (.region true c142r13 [0,1,2,31,32,33,40]) c142k15)))
def c142r17 : List AOper := [
 oP 41 (.bin .add) [.t 33,.c (.pv none (.int .i64 1))],
 oP 33 .mv [.t 41]]
def c142b18 : ACode := (.seq (.region true c142r10 [0,1,2,31,32,33,34]) (.seq c142k11 (.seq c142k16 (.region true c142r17 [0,1,2,31,32,33]))))
def c142k19 : ACode := (.block 0 (.loop [0,1,2,31,32,33] c142b18))
def c142r20 : List AOper := [
 oP 42 .mv [.t 2],
 oP 43 .mv [.t 1],
 ⟨none,(.mapset false none),[.t 42,.t 43,.c (.pv none (.int .i64 2))],none⟩]
def c142r21 : List AOper := [
 oP 6 .mv [.c (.pv none (.bool false))]]
def c142 : ACode := (.seq (.region true c142r0 [0,1,2]) (.seq (.seq (.region true c142r1 [0,1,2,14]) c142k3) (.seq (.region true c142r4 [0,1,2,7,8]) (.seq (.seq (.region true c142r5 [0,1,2,7,27]) c142k7) (.seq (.region true c142r8 [0,1,2,7]) (.seq (.seq (.region true c142r9 [0,1,2,31,32,33]) c142k19) (.seq (.region true c142r20 []) (.seq (.region true c142r21 [6]) .ret))))))))
def g142 : AFn := ⟨3,[(6,none)],c142,true,[],[],none⟩
theorem tr142 : trFn Tryz.prog true 142 Tryz.f142 = some g142 := by kernel_rfl
def c143r0 : List AOper := [
 oP 3 (.box (some 4)) [.t 1],
 oP 4 aZ []]
def c143r1 : List AOper := [
 oP 8 .mv [.t 0],
 oP 9 (.load (some 4)) [.t 3],
 oP 10 .call [.c (.pv none (.func (.func 145))),.t 8,.t 9],
 oP 7 .mv [.t 10],
 oP 11 (.extract 0) [.t 7],
 oP 12 (.extract 1) [.t 7],
 oP 5 aZ [],
 ⟨none,(.store (some 4)),[.t 5,.t 11],none⟩,
 oP 6 .mv [.t 12]]
def c143r2 : List AOper := [
 oP 13 .mv [.t 6],
 oP 14 .not [.t 13]]
def c143r3 : List AOper := [
 oP 15 (.load (some 4)) [.t 3],
 ⟨none,(.store (some 4)),[.t 4,.t 15],none⟩]
def c143k4 : ACode := (.cond (.t 14) (.seq (.region true c143r3 [4]) .ret) .skip)
def c143r5 : List AOper := [
 oP 16 (.load (some 4)) [.t 5],
 ⟨none,(.store (some 4)),[.t 3,.t 16],none⟩]
def c143k6 : ACode := (.block 1 (.seq (.region true c143r1 [0,3,4,5,6]) (.seq (.seq (.region true c143r2 [0,3,4,5,14]) c143k4) (.region true c143r5 [0,3,4]))))
def c143b7 : ACode := c143k6
def c143k8 : ACode := (.block 0 (.loop [0,3,4] c143b7))
def c143 : ACode := (.seq (.region true c143r0 [0,3,4]) c143k8)
def g143 : AFn := ⟨2,[(4,some (some 4))],c143,true,[],[],none⟩
theorem tr143 : trFn Tryz.prog true 143 Tryz.f143 = some g143 := by kernel_rfl
def c144r0 : List AOper := [
 oP 4 (.box (some 4)) [.t 1],
 oP 5 (.box (some 4)) [.t 2],
 oP 6 .mv [.c (.pv none (.bool false))]]
def c144r1 : List AOper := [
 oP 8 (.faddr 0) [.t 4],
 oP 9 (.load none) [.t 8],
 oP 10 (.bin .eql) [.t 9,.c (.pv none (.int .i64 0))],
 oP 11 .mv [.t 10],
 ⟨some 12,(.faddr 0),[.t 5],some (11,true)⟩,
 ⟨some 13,(.load none),[.t 12],some (11,true)⟩,
 ⟨some 14,(.bin .eql),[.t 13,.c (.pv none (.int .i64 0))],some (11,true)⟩,
 oP 15 .pick [.t 11,.t 14,.c (.pv none (.bool false))],
 oP 7 .mv [.t 15]]
def c144r2 : List AOper := [
 oP 16 (.faddr 1) [.t 4],
 oP 17 (.load none) [.t 16],
 oP 18 (.faddr 1) [.t 5],
 oP 19 (.load none) [.t 18],
 oP 20 (.bin .neq) [.t 17,.t 19]]
def c144r3 : List AOper := [
 oP 21 .mv [.t 0],
 oP 22 (.faddr 1) [.t 4],
 oP 23 (.load none) [.t 22],
 oP 24 (.faddr 1) [.t 5],
 oP 25 (.load none) [.t 24],
 oP 26 .max [.t 23,.t 25],
 oP 27 (.faddr 1) [.t 4],
 oP 28 (.load none) [.t 27],
 oP 29 (.faddr 1) [.t 5],
 oP 30 (.load none) [.t 29],
 oP 31 .min [.t 28,.t 30],
 oP 32 (bZ [1]) [.t 31],
 oP 33 .call [.c (.pv none (.func (.func 153))),.t 21,.t 26,.t 32]]
def c144k4 : ACode := (.cond (.t 20) (.region true c144r3 []) .skip)
def c144r5 : List AOper := [
 oP 35 (.faddr 0) [.t 4],
 oP 36 (.load none) [.t 35],
 oP 37 (.bin .eql) [.t 36,.c (.pv none (.int .i64 0))],
 oP 34 .mv [.t 37]]
def c144r6 : List AOper := [
 oP 38 .mv [.t 0],
 oP 39 (.faddr 1) [.t 4],
 oP 40 (.load none) [.t 39],
 oP 41 (.load (some 4)) [.t 5],
 oP 42 .call [.c (.pv none (.func (.func 153))),.t 38,.t 40,.t 41]]
def c144r7 : List AOper := [
 oP 44 (.faddr 0) [.t 5],
 oP 45 (.load none) [.t 44],
 oP 46 (.bin .eql) [.t 45,.c (.pv none (.int .i64 0))],
 oP 43 .mv [.t 46]]
def c144r8 : List AOper := [
 oP 47 .mv [.t 0],
 oP 48 (.faddr 1) [.t 5],
 oP 49 (.load none) [.t 48],
 oP 50 (.load (some 4)) [.t 4],
 oP 51 .call [.c (.pv none (.func (.func 153))),.t 47,.t 49,.t 50]]
def c144r9 : List AOper := [
 oP 53 (.faddr 0) [.t 4],
 oP 54 (.load none) [.t 53],
 oP 55 (.faddr 0) [.t 5],
 oP 56 (.load none) [.t 55],
 oP 57 (.bin .neq) [.t 54,.t 56],
 oP 58 .mv [.t 57],
 ⟨some 59,(.faddr 1),[.t 4],some (58,false)⟩,
 ⟨some 60,(.load none),[.t 59],some (58,false)⟩,
 ⟨some 61,(.faddr 1),[.t 5],some (58,false)⟩,
 ⟨some 62,(.load none),[.t 61],some (58,false)⟩,
 ⟨some 63,(.bin .neq),[.t 60,.t 62],some (58,false)⟩,
 oP 64 .pick [.t 58,.c (.pv none (.bool true)),.t 63],
 oP 65 .mv [.t 64],
 ⟨some 66,(.faddr 2),[.t 4],some (65,false)⟩,
 ⟨some 67,(.load none),[.t 66],some (65,false)⟩,
 ⟨some 68,(.faddr 2),[.t 5],some (65,false)⟩,
 ⟨some 69,(.load none),[.t 68],some (65,false)⟩,
 ⟨some 70,(.bin .neq),[.t 67,.t 69],some (65,false)⟩,
 oP 71 .pick [.t 65,.c (.pv none (.bool true)),.t 70],
 oP 72 .mv [.t 71],
 ⟨some 73,(.faddr 3),[.t 4],some (72,false)⟩,
 ⟨some 74,(.load none),[.t 73],some (72,false)⟩,
 ⟨some 75,.len,[.t 74],some (72,false)⟩,
 ⟨some 76,(.faddr 3),[.t 5],some (72,false)⟩,
 ⟨some 77,(.load none),[.t 76],some (72,false)⟩,
 ⟨some 78,.len,[.t 77],some (72,false)⟩,
 ⟨some 79,(.bin .neq),[.t 75,.t 78],some (72,false)⟩,
 oP 80 .pick [.t 72,.c (.pv none (.bool true)),.t 79],
 oP 52 .mv [.t 80]]
def c144r10 : List AOper := [
 oP 81 (.build [(none,(.pv none (.int .i64 0)))] [0]) [.c (.pv none (.int .i64 4))],
 oP 82 (.mkiface 100) [.t 81],
 ⟨none,.panic,[.t 82],none⟩]
def c144r11 : List AOper := [
 oP 6 .mv [.c (.pv none (.bool true))]]
def c144k12 : ACode := (.cond (.t 52) (.region true c144r10 []) (.seq (.region true c144r11 [6]) .ret))
def c144k13 : ACode := (.cond (.t 43) (.region true c144r8 []) (.seq (.region true c144r9 [52]) c144k12))
def c144k14 : ACode := (.cond (.t 34) (.region true c144r6 []) (.seq (.region true c144r7 [0,4,5,43]) c144k13))
def c144k15 : ACode := (.cond (.t 7) (.seq (.region true c144r2 [0,4,5,20]) c144k4) (.seq (.region true c144r5 [0,4,5,34]) c144k14))
def c144k16 : ACode := (.block 0 (.seq (.region true c144r1 [0,4,5,7]) c144k15))
def c144r17 : List AOper := [
 oP 6 .mv [.c (.pv none (.bool false))]]
def c144 : ACode := (.seq (.region true c144r0 [0,4,5]) (.seq c144k16 (.seq (.region true c144r17 [6]) .ret)))
def g144 : AFn := ⟨3,[(6,none)],c144,true,[],[],none⟩
theorem tr144 : trFn Tryz.prog true 144 Tryz.f144 = some g144 := by kernel_rfl
def c145r0 : List AOper := [
 oP 3 (.box (some 4)) [.t 1],
 oP 4 aZ [],
 oP 5 .mv [.c (.pv none (.bool false))]]
def c145r1 : List AOper := [
 oP 8 (.faddr 0) [.t 3],
 oP 9 (.load none) [.t 8],
 oP 10 (.bin .neq) [.t 9,.c (.pv none (.int .i64 0))]]
def c145r2 : List AOper := [
 oP 11 (bZ []) [],
 ⟨none,(.store (some 4)),[.t 4,.t 11],none⟩,
 oP 5 .mv [.c (.pv none (.bool false))]]
def c145k3 : ACode := (.cond (.t 10) (.seq (.region true c145r2 [4,5]) .ret) .skip)
def c145r4 : List AOper := [
 oP 13 .mv [.t 0],
 oP 14 (.faddr 1) [.t 3],
 oP 15 (.load none) [.t 14],
 oP 16 .call [.c (.pv none (.func (.func 154))),.t 13,.t 15],
 oP 12 .mv [.t 16],
 oP 17 (.extract 0) [.t 12],
 oP 18 (.extract 1) [.t 12],
 oP 6 .mv [.t 17],
 oP 7 .mv [.t 18]]
def c145r5 : List AOper := [
 oP 19 .mv [.t 7],
 oP 20 .not [.t 19]]
def c145r6 : List AOper := [
 oP 21 (bZ []) [],
 ⟨none,(.store (some 4)),[.t 4,.t 21],none⟩,
 oP 5 .mv [.c (.pv none (.bool false))]]
def c145k7 : ACode := (.cond (.t 20) (.seq (.region true c145r6 [4,5]) .ret) .skip)
def c145r8 : List AOper := [
 oP 22 .mv [.t 0],
 oP 23 .mv [.t 6],
 oP 24 (.iaddr (some 5)) [.t 22,.t 23],
 oP 25 (.faddr 1) [.t 24],
 oP 26 (.load (some 4)) [.t 25],
 ⟨none,(.store (some 4)),[.t 4,.t 26],none⟩,
 oP 5 .mv [.c (.pv none (.bool true))]]
def c145 : ACode := (.seq (.region true c145r0 [0,3,4]) (.seq (.seq (.region true c145r1 [0,3,4,10]) c145k3) (.seq (.region true c145r4 [0,4,6,7]) (.seq (.seq (.region true c145r5 [0,4,6,20]) c145k7) (.seq (.region true c145r8 [4,5]) .ret)))))
def g145 : AFn := ⟨2,[(4,some (some 4)),(5,none)],c145,true,[],[],none⟩
theorem tr145 : trFn Tryz.prog true 145 Tryz.f145 = some g145 := by kernel_rfl
def c150r0 : List AOper := [
 oP 10 .mv [.t 1],
 oP 11 (.bin .add) [.t 10,.c (.pv none (.int .i64 1))],
 oP 8 .mv [.t 11]]
def c150r1 : List AOper := [
 oP 12 .mv [.t 8],
 oP 13 .mv [.t 2],
 oP 14 (.bin .lss) [.t 12,.t 13]]
def c150k2 : ACode := (.cond (.t 14) .skip (.exit 0))
def c150r3 : List AOper := [
 oP 17 .mv [.t 8],
 oP 9 .mv [.t 17]]
def c150r4 : List AOper := [
 oP 18 .mv [.t 9],
 oP 19 .mv [.t 1],
 oP 20 (.bin .gtr) [.t 18,.t 19],
 oP 21 .mv [.t 20],
 ⟨some 22,.mv,[.t 3],some (21,true)⟩,
 ⟨some 23,.mv,[.t 0],some (21,true)⟩,
 ⟨some 24,.mv,[.t 9],some (21,true)⟩,
 ⟨some 25,(.iaddr (some 4)),[.t 23,.t 24],some (21,true)⟩,
 ⟨some 26,(.load (some 4)),[.t 25],some (21,true)⟩,
 ⟨some 27,.mv,[.t 0],some (21,true)⟩,
 ⟨some 28,.mv,[.t 9],some (21,true)⟩,
 ⟨some 29,(.bin .sub),[.t 28,.c (.pv none (.int .i64 1))],some (21,true)⟩,
 ⟨some 30,(.iaddr (some 4)),[.t 27,.t 29],some (21,true)⟩,
 ⟨some 31,(.load (some 4)),[.t 30],some (21,true)⟩,
 ⟨some 32,.call,[.t 22,.t 26,.t 31],some (21,true)⟩,
 ⟨some 33,(.bin .lss),[.t 32,.c (.pv none (.int .i64 0))],some (21,true)⟩,
 oP 34 .pick [.t 21,.t 33,.c (.pv none (.bool false))]]
def c150k5 : ACode := (.cond (.t 34) .skip (.exit 2))
def c150r6 : List AOper := [
 oP 37 .mv [.t 0],
 oP 38 .mv [.t 9],
 oP 39 .mv [.t 0],
 oP 40 .mv [.t 9],
 oP 41 (.bin .sub) [.t 40,.c (.pv none (.int .i64 1))],
 oP 42 .mv [.t 0],
 oP 43 .mv [.t 9],
 oP 44 (.bin .sub) [.t 43,.c (.pv none (.int .i64 1))],
 oP 45 (.iaddr (some 4)) [.t 42,.t 44],
 oP 46 (.load (some 4)) [.t 45],
 oP 47 .mv [.t 0],
 oP 48 .mv [.t 9],
 oP 49 (.iaddr (some 4)) [.t 47,.t 48],
 oP 50 (.load (some 4)) [.t 49],
 oP 51 (.iaddr (some 4)) [.t 37,.t 38],
 ⟨none,(.store (some 4)),[.t 51,.t 46],none⟩,
 oP 52 (.iaddr (some 4)) [.t 39,.t 41],
 ⟨none,(.store (some 4)),[.t 52,.t 50],none⟩]
def c150k7 : ACode := (.block 3 (.region true c150r6 [0,1,2,3,8,9]))
def c150r8 : List AOper := [
 oP 35 .mv [.t 9],
 oP 36 (.bin .sub) [.t 35,.c (.pv none (.int .i64 1))],
 oP 9 .mv [.t 36]]
def c150b9 : ACode := (.seq (.seq (.region true c150r4 [0,1,2,3,8,9,34]) c150k5) (.seq c150k7 (.region true c150r8 [0,1,2,3,8,9])))
def c150k10 : ACode := (.block 2 (.loop [0,1,2,3,8,9] c150b9))
def c150k11 : ACode := (.block 1 (.seq (.region true c150r3 [0,1,2,3,8,9]) c150k10))
def c150r12 : List AOper := [
 oP 15 .mv [.t 8],
 oP 16 (.bin .add) [.t 15,.c (.pv none (.int .i64 1))],
 oP 8 .mv [.t 16]]
def c150b13 : ACode := (.seq (.seq (.region true c150r1 [0,1,2,3,8,14]) c150k2) (.seq c150k11 (.region true c150r12 [0,1,2,3,8])))
def c150k14 : ACode := (.block 0 (.loop [0,1,2,3,8] c150b13))
def c150 : ACode := (.seq (.region true c150r0 [0,1,2,3,8]) c150k14)
def g150 : AFn := ⟨4,[],c150,true,[],[],none⟩
theorem tr150 : trFn Tryz.prog true 150 Tryz.f150 = some g150 := by kernel_rfl
def c151r0 : List AOper := [
 oP 25 .mv [.t 2],
 oP 26 .mv [.t 1],
 oP 27 (.bin .sub) [.t 25,.t 26],
 oP 28 (.bin .eql) [.t 27,.c (.pv none (.int .i64 1))]]
def c151r1 : List AOper := [
 oP 29 .mv [.t 2],
 oP 10 .mv [.t 29]]
def c151r2 : List AOper := [
 oP 30 .mv [.t 3],
 oP 11 .mv [.t 30]]
def c151r3 : List AOper := [
 oP 31 .mv [.t 10],
 oP 32 .mv [.t 11],
 oP 33 (.bin .lss) [.t 31,.t 32]]
def c151k4 : ACode := (.cond (.t 33) .skip (.exit 0))
def c151r5 : List AOper := [
 oP 34 .mv [.t 10],
 oP 35 .mv [.t 11],
 oP 36 (.bin .add) [.t 34,.t 35],
 oP 37 (.conv .u64) [.t 36],
 oP 38 (.bin .shr) [.t 37,.c (.pv none (.int .u64 1))],
 oP 39 (.conv .i64) [.t 38],
 oP 12 .mv [.t 39]]
def c151r6 : List AOper := [
 oP 40 .mv [.t 4],
 oP 41 .mv [.t 0],
 oP 42 .mv [.t 12],
 oP 43 (.iaddr (some 4)) [.t 41,.t 42],
 oP 44 (.load (some 4)) [.t 43],
 oP 45 .mv [.t 0],
 oP 46 .mv [.t 1],
 oP 47 (.iaddr (some 4)) [.t 45,.t 46],
 oP 48 (.load (some 4)) [.t 47],
 oP 49 .call [.t 40,.t 44,.t 48],
 oP 50 (.bin .lss) [.t 49,.c (.pv none (.int .i64 0))]]
def c151r7 : List AOper := [
 oP 51 .mv [.t 12],
 oP 52 (.bin .add) [.t 51,.c (.pv none (.int .i64 1))],
 oP 10 .mv [.t 52]]
def c151r8 : List AOper := [
 oP 53 .mv [.t 12],
 oP 11 .mv [.t 53]]
def c151k9 : ACode := (.cond (.t 50) (.region true c151r7 [0,1,4,10,11]) (.region true c151r8 [0,1,4,10,11]))
def c151k10 : ACode := (.block 1 (.seq (.region true c151r5 [0,1,4,10,11,12]) (.seq (.region true c151r6 [0,1,4,10,11,12,50]) c151k9)))
def c151b11 : ACode := (.seq (.seq (.region true c151r3 [0,1,4,10,11,33]) c151k4) c151k10)
def c151k12 : ACode := (.block 0 (.loop [0,1,4,10,11] c151b11))
def c151r13 : List AOper := [
 oP 54 .mv [.t 1],
 oP 13 .mv [.t 54]]
def c151r14 : List AOper := [
 oP 55 .mv [.t 13],
 oP 56 .mv [.t 10],
 oP 57 (.bin .sub) [.t 56,.c (.pv none (.int .i64 1))],
 oP 58 (.bin .lss) [.t 55,.t 57]]
def c151k15 : ACode := (.cond (.t 58) .skip (.exit 2))
def c151r16 : List AOper := [
 oP 61 .mv [.t 0],
 oP 62 .mv [.t 13],
 oP 63 .mv [.t 0],
 oP 64 .mv [.t 13],
 oP 65 (.bin .add) [.t 64,.c (.pv none (.int .i64 1))],
 oP 66 .mv [.t 0],
 oP 67 .mv [.t 13],
 oP 68 (.bin .add) [.t 67,.c (.pv none (.int .i64 1))],
 oP 69 (.iaddr (some 4)) [.t 66,.t 68],
 oP 70 (.load (some 4)) [.t 69],
 oP 71 .mv [.t 0],
 oP 72 .mv [.t 13],
 oP 73 (.iaddr (some 4)) [.t 71,.t 72],
 oP 74 (.load (some 4)) [.t 73],
 oP 75 (.iaddr (some 4)) [.t 61,.t 62],
 ⟨none,(.store (some 4)),[.t 75,.t 70],none⟩,
 oP 76 (.iaddr (some 4)) [.t 63,.t 65],
 ⟨none,(.store (some 4)),[.t 76,.t 74],none⟩]
def c151k17 : ACode := (.block 3 (.region true c151r16 [0,10,13]))
def c151r18 : List AOper := [
 oP 59 .mv [.t 13],
 oP 60 (.bin .add) [.t 59,.c (.pv none (.int .i64 1))],
 oP 13 .mv [.t 60]]
def c151b19 : ACode := (.seq (.seq (.region true c151r14 [0,10,13,58]) c151k15) (.seq c151k17 (.region true c151r18 [0,10,13])))
def c151k20 : ACode := (.block 2 (.loop [0,10,13] c151b19))
def c151k21 : ACode := (.cond (.t 28) (.seq (.region true c151r1 [0,1,3,4,10]) (.seq (.region true c151r2 [0,1,4,10,11]) (.seq c151k12 (.seq (.seq (.region true c151r13 [0,10,13]) c151k20) .ret)))) .skip)
def c151r22 : List AOper := [
 oP 77 .mv [.t 3],
 oP 78 .mv [.t 2],
 oP 79 (.bin .sub) [.t 77,.t 78],
 oP 80 (.bin .eql) [.t 79,.c (.pv none (.int .i64 1))]]
def c151r23 : List AOper := [
 oP 81 .mv [.t 1],
 oP 14 .mv [.t 81]]
def c151r24 : List AOper := [
 oP 82 .mv [.t 2],
 oP 15 .mv [.t 82]]
def c151r25 : List AOper := [
 oP 83 .mv [.t 14],
 oP 84 .mv [.t 15],
 oP 85 (.bin .lss) [.t 83,.t 84]]
def c151k26 : ACode := (.cond (.t 85) .skip (.exit 4))
def c151r27 : List AOper := [
 oP 86 .mv [.t 14],
 oP 87 .mv [.t 15],
 oP 88 (.bin .add) [.t 86,.t 87],
 oP 89 (.conv .u64) [.t 88],
 oP 90 (.bin .shr) [.t 89,.c (.pv none (.int .u64 1))],
 oP 91 (.conv .i64) [.t 90],
 oP 16 .mv [.t 91]]
def c151r28 : List AOper := [
 oP 92 .mv [.t 4],
 oP 93 .mv [.t 0],
 oP 94 .mv [.t 2],
 oP 95 (.iaddr (some 4)) [.t 93,.t 94],
 oP 96 (.load (some 4)) [.t 95],
 oP 97 .mv [.t 0],
 oP 98 .mv [.t 16],
 oP 99 (.iaddr (some 4)) [.t 97,.t 98],
 oP 100 (.load (some 4)) [.t 99],
 oP 101 .call [.t 92,.t 96,.t 100],
 oP 102 (.bin .lss) [.t 101,.c (.pv none (.int .i64 0))],
 oP 103 .not [.t 102]]
def c151r29 : List AOper := [
 oP 104 .mv [.t 16],
 oP 105 (.bin .add) [.t 104,.c (.pv none (.int .i64 1))],
 oP 14 .mv [.t 105]]
def c151r30 : List AOper := [
 oP 106 .mv [.t 16],
 oP 15 .mv [.t 106]]
def c151k31 : ACode := (.cond (.t 103) (.region true c151r29 [0,2,4,14,15]) (.region true c151r30 [0,2,4,14,15]))
def c151k32 : ACode := (.block 5 (.seq (.region true c151r27 [0,2,4,14,15,16]) (.seq (.region true c151r28 [0,2,4,14,15,16,103]) c151k31)))
def c151b33 : ACode := (.seq (.seq (.region true c151r25 [0,2,4,14,15,85]) c151k26) c151k32)
def c151k34 : ACode := (.block 4 (.loop [0,2,4,14,15] c151b33))
def c151r35 : List AOper := [
 oP 107 .mv [.t 2],
 oP 17 .mv [.t 107]]
def c151r36 : List AOper := [
 oP 108 .mv [.t 17],
 oP 109 .mv [.t 14],
 oP 110 (.bin .gtr) [.t 108,.t 109]]
def c151k37 : ACode := (.cond (.t 110) .skip (.exit 6))
def c151r38 : List AOper := [
 oP 113 .mv [.t 0],
 oP 114 .mv [.t 17],
 oP 115 .mv [.t 0],
 oP 116 .mv [.t 17],
 oP 117 (.bin .sub) [.t 116,.c (.pv none (.int .i64 1))],
 oP 118 .mv [.t 0],
 oP 119 .mv [.t 17],
 oP 120 (.bin .sub) [.t 119,.c (.pv none (.int .i64 1))],
 oP 121 (.iaddr (some 4)) [.t 118,.t 120],
 oP 122 (.load (some 4)) [.t 121],
 oP 123 .mv [.t 0],
 oP 124 .mv [.t 17],
 oP 125 (.iaddr (some 4)) [.t 123,.t 124],
 oP 126 (.load (some 4)) [.t 125],
 oP 127 (.iaddr (some 4)) [.t 113,.t 114],
 ⟨none,(.store (some 4)),[.t 127,.t 122],none⟩,
 oP 128 (.iaddr (some 4)) [.t 115,.t 117],
 ⟨none,(.store (some 4)),[.t 128,.t 126],none⟩]
def c151k39 : ACode := (.block 7 (.region true c151r38 [0,14,17]))
def c151r40 : List AOper := [
 oP 111 .mv [.t 17],
 oP 112 (.bin .sub) [.t 111,.c (.pv none (.int .i64 1))],
 oP 17 .mv [.t 112]]
def c151b41 : ACode := (.seq (.seq (.region true c151r36 [0,14,17,110]) c151k37) (.seq c151k39 (.region true c151r40 [0,14,17])))
def c151k42 : ACode := (.block 6 (.loop [0,14,17] c151b41))
def c151k43 : ACode := (.cond (.t 80) (.seq (.region true c151r23 [0,2,4,14]) (.seq (.region true c151r24 [0,2,4,14,15]) (.seq c151k34 (.seq (.seq (.region true c151r35 [0,14,17]) c151k42) .ret)))) .skip)
def c151r44 : List AOper := [
 oP 129 .mv [.t 1],
 oP 130 .mv [.t 3],
 oP 131 (.bin .add) [.t 129,.t 130],
 oP 132 (.conv .u64) [.t 131],
 oP 133 (.bin .shr) [.t 132,.c (.pv none (.int .u64 1))],
 oP 134 (.conv .i64) [.t 133],
 oP 18 .mv [.t 134]]
def c151r45 : List AOper := [
 oP 135 .mv [.t 18],
 oP 136 .mv [.t 2],
 oP 137 (.bin .add) [.t 135,.t 136],
 oP 19 .mv [.t 137]]
def c151r46 : List AOper := [
 oP 20 .mv [.c (.pv none (.int .i64 0))],
 oP 21 .mv [.c (.pv none (.int .i64 0))]]
def c151r47 : List AOper := [
 oP 138 .mv [.t 2],
 oP 139 .mv [.t 18],
 oP 140 (.bin .gtr) [.t 138,.t 139]]
def c151r48 : List AOper := [
 oP 141 .mv [.t 19],
 oP 142 .mv [.t 3],
 oP 143 (.bin .sub) [.t 141,.t 142],
 oP 20 .mv [.t 143]]
def c151r49 : List AOper := [
 oP 144 .mv [.t 18],
 oP 21 .mv [.t 144]]
def c151r50 : List AOper := [
 oP 145 .mv [.t 1],
 oP 20 .mv [.t 145]]
def c151r51 : List AOper := [
 oP 146 .mv [.t 2],
 oP 21 .mv [.t 146]]
def c151k52 : ACode := (.cond (.t 140) (.seq (.region true c151r48 [0,1,2,3,4,18,19,20]) (.region true c151r49 [0,1,2,3,4,18,19,20,21])) (.seq (.region true c151r50 [0,1,2,3,4,18,19,20]) (.region true c151r51 [0,1,2,3,4,18,19,20,21])))
def c151r53 : List AOper := [
 oP 147 .mv [.t 19],
 oP 148 (.bin .sub) [.t 147,.c (.pv none (.int .i64 1))],
 oP 22 .mv [.t 148]]
def c151r54 : List AOper := [
 oP 149 .mv [.t 20],
 oP 150 .mv [.t 21],
 oP 151 (.bin .lss) [.t 149,.t 150]]
def c151k55 : ACode := (.cond (.t 151) .skip (.exit 8))
def c151r56 : List AOper := [
 oP 152 .mv [.t 20],
 oP 153 .mv [.t 21],
 oP 154 (.bin .add) [.t 152,.t 153],
 oP 155 (.conv .u64) [.t 154],
 oP 156 (.bin .shr) [.t 155,.c (.pv none (.int .u64 1))],
 oP 157 (.conv .i64) [.t 156],
 oP 23 .mv [.t 157]]
def c151r57 : List AOper := [
 oP 158 .mv [.t 4],
 oP 159 .mv [.t 0],
 oP 160 .mv [.t 22],
 oP 161 .mv [.t 23],
 oP 162 (.bin .sub) [.t 160,.t 161],
 oP 163 (.iaddr (some 4)) [.t 159,.t 162],
 oP 164 (.load (some 4)) [.t 163],
 oP 165 .mv [.t 0],
 oP 166 .mv [.t 23],
 oP 167 (.iaddr (some 4)) [.t 165,.t 166],
 oP 168 (.load (some 4)) [.t 167],
 oP 169 .call [.t 158,.t 164,.t 168],
 oP 170 (.bin .lss) [.t 169,.c (.pv none (.int .i64 0))],
 oP 171 .not [.t 170]]
def c151r58 : List AOper := [
 oP 172 .mv [.t 23],
 oP 173 (.bin .add) [.t 172,.c (.pv none (.int .i64 1))],
 oP 20 .mv [.t 173]]
def c151r59 : List AOper := [
 oP 174 .mv [.t 23],
 oP 21 .mv [.t 174]]
def c151k60 : ACode := (.cond (.t 171) (.region true c151r58 [0,1,2,3,4,18,19,20,21,22]) (.region true c151r59 [0,1,2,3,4,18,19,20,21,22]))
def c151k61 : ACode := (.block 9 (.seq (.region true c151r56 [0,1,2,3,4,18,19,20,21,22,23]) (.seq (.region true c151r57 [0,1,2,3,4,18,19,20,21,22,23,171]) c151k60)))
def c151b62 : ACode := (.seq (.seq (.region true c151r54 [0,1,2,3,4,18,19,20,21,22,151]) c151k55) c151k61)
def c151k63 : ACode := (.block 8 (.loop [0,1,2,3,4,18,19,20,21,22] c151b62))
def c151r64 : List AOper := [
 oP 175 .mv [.t 19],
 oP 176 .mv [.t 20],
 oP 177 (.bin .sub) [.t 175,.t 176],
 oP 24 .mv [.t 177]]
def c151r65 : List AOper := [
 oP 178 .mv [.t 20],
 oP 179 .mv [.t 2],
 oP 180 (.bin .lss) [.t 178,.t 179],
 oP 181 .mv [.t 180],
 ⟨some 182,.mv,[.t 2],some (181,true)⟩,
 ⟨some 183,.mv,[.t 24],some (181,true)⟩,
 ⟨some 184,(.bin .lss),[.t 182,.t 183],some (181,true)⟩,
 oP 185 .pick [.t 181,.t 184,.c (.pv none (.bool false))]]
def c151r66 : List AOper := [
 oP 186 .mv [.t 0],
 oP 187 .mv [.t 20],
 oP 188 .mv [.t 2],
 oP 189 .mv [.t 24],
 oP 190 .mv [.t 4],
 oP 191 .call [.c (.pv none (.func (.func 156))),.t 186,.t 187,.t 188,.t 189,.t 190]]
def c151k67 : ACode := (.cond (.t 185) (.region true c151r66 [0,1,3,4,18,20,24]) .skip)
def c151r68 : List AOper := [
 oP 192 .mv [.t 1],
 oP 193 .mv [.t 20],
 oP 194 (.bin .lss) [.t 192,.t 193],
 oP 195 .mv [.t 194],
 ⟨some 196,.mv,[.t 20],some (195,true)⟩,
 ⟨some 197,.mv,[.t 18],some (195,true)⟩,
 ⟨some 198,(.bin .lss),[.t 196,.t 197],some (195,true)⟩,
 oP 199 .pick [.t 195,.t 198,.c (.pv none (.bool false))]]
def c151r69 : List AOper := [
 oP 200 .mv [.t 0],
 oP 201 .mv [.t 1],
 oP 202 .mv [.t 20],
 oP 203 .mv [.t 18],
 oP 204 .mv [.t 4],
 oP 205 .call [.c (.pv none (.func (.func 151))),.t 200,.t 201,.t 202,.t 203,.t 204]]
def c151k70 : ACode := (.cond (.t 199) (.region true c151r69 [0,3,4,18,24]) .skip)
def c151r71 : List AOper := [
 oP 206 .mv [.t 18],
 oP 207 .mv [.t 24],
 oP 208 (.bin .lss) [.t 206,.t 207],
 oP 209 .mv [.t 208],
 ⟨some 210,.mv,[.t 24],some (209,true)⟩,
 ⟨some 211,.mv,[.t 3],some (209,true)⟩,
 ⟨some 212,(.bin .lss),[.t 210,.t 211],some (209,true)⟩,
 oP 213 .pick [.t 209,.t 212,.c (.pv none (.bool false))]]
def c151r72 : List AOper := [
 oP 214 .mv [.t 0],
 oP 215 .mv [.t 18],
 oP 216 .mv [.t 24],
 oP 217 .mv [.t 3],
 oP 218 .mv [.t 4],
 oP 219 .call [.c (.pv none (.func (.func 151))),.t 214,.t 215,.t 216,.t 217,.t 218]]
def c151k73 : ACode := (.cond (.t 213) (.region true c151r72 []) .skip)
def c151 : ACode := (.seq (.seq (.region true c151r0 [0,1,2,3,4,28]) c151k21) (.seq (.seq (.region true c151r22 [0,1,2,3,4,80]) c151k43) (.seq (.region true c151r44 [0,1,2,3,4,18]) (.seq (.region true c151r45 [0,1,2,3,4,18,19]) (.seq (.region true c151r46 [0,1,2,3,4,18,19]) (.seq (.seq (.region true c151r47 [0,1,2,3,4,18,19,140]) c151k52) (.seq (.region true c151r53 [0,1,2,3,4,18,19,20,21,22]) (.seq c151k63 (.seq (.region true c151r64 [0,1,2,3,4,18,20,24]) (.seq (.seq (.region true c151r65 [0,1,2,3,4,18,20,24,185]) c151k67) (.seq (.seq (.region true c151r68 [0,1,3,4,18,20,24,199]) c151k70) (.seq (.region true c151r71 [0,3,4,18,24,213]) c151k73))))))))))))
def g151 : AFn := ⟨5,[],c151,true,[],[],none⟩
theorem tr151 : trFn Tryz.prog true 151 Tryz.f151 = some g151 := by kernel_rfl
def c153r0 : List AOper := [
 oP 5 (.box (some 4)) [.t 2]]
def c153r1 : List AOper := [
 oP 8 .mv [.t 0],
 oP 9 .nilcheck [.t 8],
 oP 10 (.faddr 0) [.t 9],
 oP 11 (.load none) [.t 10],
 oP 12 .mv [.t 1],
 oP 13 (.load (some 4)) [.t 5],
 oP 14 (.mkmap none) [],
 oP 15 .call [.c (.pv none (.func (.func 157))),.t 11,.t 12,.t 13,.t 14]]
def c153r2 : List AOper := [
 oP 16 (.build [(none,(.pv none (.int .i64 0)))] [0]) [.c (.pv none (.int .i64 9))],
 oP 17 (.mkiface 100) [.t 16],
 ⟨none,.panic,[.t 17],none⟩]
def c153k3 : ACode := (.cond (.t 15) (.region true c153r2 [0,1,5]) .skip)
def c153r4 : List AOper := [
 oP 19 .mv [.t 0],
 oP 20 .nilcheck [.t 19],
 oP 21 (.faddr 0) [.t 20],
 oP 22 (.load none) [.t 21],
 oP 23 .mv [.t 1],
 oP 24 .call [.c (.pv none (.func (.func 154))),.t 22,.t 23],
 oP 18 .mv [.t 24],
 oP 25 (.extract 0) [.t 18],
 oP 26 (.extract 1) [.t 18],
 oP 6 .mv [.t 25],
 oP 7 .mv [.t 26]]
def c153r5 : List AOper := [
 oP 27 .mv [.t 0],
 oP 28 .mv [.t 0],
 oP 29 .nilcheck [.t 28],
 oP 30 (.faddr 0) [.t 29],
 oP 31 (.load none) [.t 30],
 oP 32 .mv [.t 6],
 oP 33 .mv [.t 1],
 oP 34 (.load (some 4)) [.t 5],
 oP 35 (.calln 1) [.t 30,.c (.pv none (.func (.func 38))),.t 34],
 oP 36 (.build [(none,(.pv none (.int .i64 0))),((some 4),(.agg [(none,(.pv none (.int .i64 0))),(none,(.pv none (.int .i64 0))),(none,(.pv none (.str []))),(none,(.tsl (some 4) []))]))] [0,1]) [.t 33,.t 35],
 oP 37 (.bslicen (some 5) 1) [.t 30,.t 36],
 oP 38 .call [.c (.pv none (.func (.func 158))),.t 31,.t 32,.t 37],
 oP 39 .nilcheck [.t 27],
 oP 40 (.faddr 0) [.t 39],
 ⟨none,(.store none),[.t 40,.t 38],none⟩]
def c153 : ACode := (.seq (.region true c153r0 [0,1,5]) (.seq (.seq (.region true c153r1 [0,1,5,15]) c153k3) (.seq (.region true c153r4 [0,1,5,6]) (.region false c153r5 []))))
def g153 : AFn := ⟨3,[],c153,true,[],[],none⟩
theorem tr153 : trFn Tryz.prog true 153 Tryz.f153 = some g153 := by kernel_rfl
def c154r0 : List AOper := [
 oP 4 .mv [.c (.pv none (.int .i64 0))],
 oP 5 .mv [.c (.pv none (.bool false))]]
def c154r1 : List AOper := [
 oP 6 .mv [.t 0],
 oP 7 .mv [.t 1],
 oP 8 .call [.c (.pv none (.func (.func 159))),.t 6,.t 7,.c (.pv none (.func (.func 160)))],
 oP 9 (.extract 0) [.t 8],
 oP 10 (.extract 1) [.t 8],
 oP 4 .mv [.t 9],
 oP 5 .mv [.t 10]]
def c154 : ACode := (.seq (.region true c154r0 [0,1]) (.seq (.region true c154r1 [4,5]) .ret))
def g154 : AFn := ⟨2,[(4,none),(5,none)],c154,false,[],[],none⟩
theorem tr154 : trFn Tryz.prog false 154 Tryz.f154 = some g154 := by kernel_rfl
def c156r0 : List AOper := [
 oP 12 .mv [.t 2],
 oP 13 .mv [.t 1],
 oP 14 (.bin .sub) [.t 12,.t 13],
 oP 10 .mv [.t 14]]
def c156r1 : List AOper := [
 oP 15 .mv [.t 3],
 oP 16 .mv [.t 2],
 oP 17 (.bin .sub) [.t 15,.t 16],
 oP 11 .mv [.t 17]]
def c156r2 : List AOper := [
 oP 18 .mv [.t 10],
 oP 19 .mv [.t 11],
 oP 20 (.bin .neq) [.t 18,.t 19]]
def c156k3 : ACode := (.cond (.t 20) .skip (.exit 0))
def c156r4 : List AOper := [
 oP 21 .mv [.t 10],
 oP 22 .mv [.t 11],
 oP 23 (.bin .gtr) [.t 21,.t 22]]
def c156r5 : List AOper := [
 oP 24 .mv [.t 0],
 oP 25 .mv [.t 2],
 oP 26 .mv [.t 10],
 oP 27 (.bin .sub) [.t 25,.t 26],
 oP 28 .mv [.t 2],
 oP 29 .mv [.t 11],
 oP 30 .mv [.t 4],
 oP 31 .call [.c (.pv none (.func (.func 161))),.t 24,.t 27,.t 28,.t 29,.t 30]]
def c156r6 : List AOper := [
 oP 32 .mv [.t 10],
 oP 33 .mv [.t 11],
 oP 34 (.bin .sub) [.t 32,.t 33],
 oP 10 .mv [.t 34]]
def c156r7 : List AOper := [
 oP 35 .mv [.t 0],
 oP 36 .mv [.t 2],
 oP 37 .mv [.t 10],
 oP 38 (.bin .sub) [.t 36,.t 37],
 oP 39 .mv [.t 2],
 oP 40 .mv [.t 11],
 oP 41 (.bin .add) [.t 39,.t 40],
 oP 42 .mv [.t 10],
 oP 43 (.bin .sub) [.t 41,.t 42],
 oP 44 .mv [.t 10],
 oP 45 .mv [.t 4],
 oP 46 .call [.c (.pv none (.func (.func 161))),.t 35,.t 38,.t 43,.t 44,.t 45]]
def c156r8 : List AOper := [
 oP 47 .mv [.t 11],
 oP 48 .mv [.t 10],
 oP 49 (.bin .sub) [.t 47,.t 48],
 oP 11 .mv [.t 49]]
def c156k9 : ACode := (.cond (.t 23) (.seq (.region true c156r5 [0,2,4,10,11]) (.region true c156r6 [0,2,4,10,11])) (.seq (.region true c156r7 [0,2,4,10,11]) (.region true c156r8 [0,2,4,10,11])))
def c156k10 : ACode := (.block 1 (.seq (.region true c156r4 [0,2,4,10,11,23]) c156k9))
def c156b11 : ACode := (.seq (.seq (.region true c156r2 [0,2,4,10,11,20]) c156k3) c156k10)
def c156k12 : ACode := (.block 0 (.loop [0,2,4,10,11] c156b11))
def c156r13 : List AOper := [
 oP 50 .mv [.t 0],
 oP 51 .mv [.t 2],
 oP 52 .mv [.t 10],
 oP 53 (.bin .sub) [.t 51,.t 52],
 oP 54 .mv [.t 2],
 oP 55 .mv [.t 10],
 oP 56 .mv [.t 4],
 oP 57 .call [.c (.pv none (.func (.func 161))),.t 50,.t 53,.t 54,.t 55,.t 56]]
def c156 : ACode := (.seq (.region true c156r0 [0,2,3,4,10]) (.seq (.region true c156r1 [0,2,4,10,11]) (.seq c156k12 (.region true c156r13 []))))
def g156 : AFn := ⟨5,[],c156,true,[],[],none⟩
theorem tr156 : trFn Tryz.prog true 156 Tryz.f156 = some g156 := by kernel_rfl
def c157r0 : List AOper := [
 oP 6 (.box (some 4)) [.t 2],
 oP 8 .mv [.c (.pv none (.bool false))]]
def c157r1 : List AOper := [
 oP 13 (.faddr 0) [.t 6],
 oP 14 (.load none) [.t 13],
 oP 15 (.bin .eql) [.t 14,.c (.pv none (.int .i64 0))]]
def c157r2 : List AOper := [
 oP 17 .mv [.t 0],
 oP 18 (.load (some 4)) [.t 6],
 oP 19 .call [.c (.pv none (.func (.func 145))),.t 17,.t 18],
 oP 16 .mv [.t 19],
 oP 20 (.extract 0) [.t 16],
 oP 21 (.extract 1) [.t 16],
 oP 9 aZ [],
 ⟨none,(.store (some 4)),[.t 9,.t 20],none⟩,
 oP 10 .mv [.t 21]]
def c157r3 : List AOper := [
 oP 22 .mv [.t 10],
 oP 23 .not [.t 22]]
def c157r4 : List AOper := [
 oP 24 (.faddr 1) [.t 6],
 oP 25 (.load none) [.t 24],
 oP 26 .mv [.t 1],
 oP 27 (.bin .eql) [.t 25,.t 26],
 oP 8 .mv [.t 27]]
def c157k5 : ACode := (.cond (.t 23) (.seq (.region true c157r4 [8]) .ret) .skip)
def c157r6 : List AOper := [
 oP 28 .mv [.t 3],
 oP 29 (.faddr 1) [.t 6],
 oP 30 (.load none) [.t 29],
 oP 31 (.lookup false none (.pv none (.int .i64 0)) false) [.t 28,.t 30],
 oP 32 (.bin .add) [.t 31,.c (.pv none (.int .i64 1))],
 ⟨none,(.mapset false none),[.t 28,.t 30,.t 32],none⟩]
def c157r7 : List AOper := [
 oP 33 .mv [.t 3],
 oP 34 (.faddr 1) [.t 6],
 oP 35 (.load none) [.t 34],
 oP 36 (.lookup false none (.pv none (.int .i64 0)) false) [.t 33,.t 35],
 oP 37 (.bin .eql) [.t 36,.c (.pv none (.int .i64 1))],
 oP 38 .mv [.t 37],
 ⟨some 39,.mv,[.t 0],some (38,true)⟩,
 ⟨some 40,.mv,[.t 1],some (38,true)⟩,
 ⟨some 41,(.load (some 4)),[.t 9],some (38,true)⟩,
 ⟨some 42,.mv,[.t 3],some (38,true)⟩,
 ⟨some 43,.call,[.c (.pv none (.func (.func 157))),.t 39,.t 40,.t 41,.t 42],some (38,true)⟩,
 oP 44 .pick [.t 38,.t 43,.c (.pv none (.bool false))],
 oP 8 .mv [.t 44]]
def c157k8 : ACode := (.cond (.t 15) (.seq (.region true c157r2 [0,1,3,6,9,10]) (.seq (.seq (.region true c157r3 [0,1,3,6,9,23]) c157k5) (.seq (.region true c157r6 [0,1,3,6,9]) (.seq (.region true c157r7 [8]) .ret)))) .skip)
def c157r9 : List AOper := [
 oP 45 (.faddr 3) [.t 6],
 oP 46 (.load none) [.t 45],
 oP 47 .len [.t 46],
 oP 48 .mv [.c (.pv none (.int .i64 0))]]
def c157r10 : List AOper := [
 oP 49 (.bin .lss) [.t 48,.t 47]]
def c157k11 : ACode := (.cond (.t 49) .skip (.exit 0))
def c157r12 : List AOper := [
 oP 50 (.iaddr (some 4)) [.t 46,.t 48],
 oP 51 (.load (some 4)) [.t 50],
 oP 12 aZ [],
 ⟨none,(.store (some 4)),[.t 12,.t 51],none⟩]
def c157r13 : List AOper := [
 oP 52 .mv [.t 0],
 oP 53 .mv [.t 1],
 oP 54 (.load (some 4)) [.t 12],
 oP 55 .mv [.t 3],
 oP 56 .call [.c (.pv none (.func (.func 157))),.t 52,.t 53,.t 54,.t 55]]
def c157r14 : List AOper := [
 oP 8 .mv [.c (.pv none (.bool true))]]
def c157k15 : ACode := (.cond (.t 56) (.seq (.region true c157r14 [8]) .ret) .skip)
def c157k16 : ACode := (.block 1 (.seq (.region true c157r12 [0,1,3,12,46,47,48]) (.seq (.region true c157r13 [0,1,3,46,47,48,56]) c157k15)))
def c157r17 : List AOper := [
 oP 57 (.bin .add) [.t 48,.c (.pv none (.int .i64 1))],
 oP 48 .mv [.t 57]]
def c157b18 : ACode := (.seq (.region true c157r10 [0,1,3,46,47,48,49]) (.seq c157k11 (.seq c157k16 (.region true c157r17 [0,1,3,46,47,48]))))
def c157k19 : ACode := (.block 0 (.loop [0,1,3,46,47,48] c157b18))
def c157r20 : List AOper := [
 oP 8 .mv [.c (.pv none (.bool false))]]
def c157 : ACode := (.seq (.region true c157r0 [0,1,3,6]) (.seq (.seq (.region true c157r1 [0,1,3,6,15]) c157k8) (.seq (.seq (.region true c157r9 [0,1,3,46,47,48]) c157k19) (.seq (.region true c157r20 [8]) .ret))))
def g157 : AFn := ⟨4,[(8,none)],c157,true,[],[],none⟩
theorem tr157 : trFn Tryz.prog true 157 Tryz.f157 = some g157 := by kernel_rfl
def c159r0 : List AOper := [
 oP 6 .mv [.c (.pv none (.int .i64 0))],
 oP 7 .mv [.c (.pv none (.bool false))]]
def c159r1 : List AOper := [
 oP 12 .mv [.t 0],
 oP 13 .len [.t 12],
 oP 8 .mv [.t 13]]
def c159r2 : List AOper := [
 oP 14 .mv [.t 8],
 oP 9 .mv [.c (.pv none (.int .i64 0))],
 oP 10 .mv [.t 14]]
def c159r3 : List AOper := [
 oP 15 .mv [.t 9],
 oP 16 .mv [.t 10],
 oP 17 (.bin .lss) [.t 15,.t 16]]
def c159k4 : ACode := (.cond (.t 17) .skip (.exit 0))
def c159r5 : List AOper := [
 oP 18 .mv [.t 9],
 oP 19 .mv [.t 10],
 oP 20 (.bin .add) [.t 18,.t 19],
 oP 21 (.conv .u64) [.t 20],
 oP 22 (.bin .shr) [.t 21,.c (.pv none (.int .u64 1))],
 oP 23 (.conv .i64) [.t 22],
 oP 11 .mv [.t 23]]
def c159r6 : List AOper := [
 oP 24 .mv [.t 2],
 oP 25 .mv [.t 0],
 oP 26 .mv [.t 11],
 oP 27 (.iaddr (some 5)) [.t 25,.t 26],
 oP 28 (.load (some 5)) [.t 27],
 oP 29 .mv [.t 1],
 oP 30 .call [.t 24,.t 28,.t 29],
 oP 31 (.bin .lss) [.t 30,.c (.pv none (.int .i64 0))]]
def c159r7 : List AOper := [
 oP 32 .mv [.t 11],
 oP 33 (.bin .add) [.t 32,.c (.pv none (.int .i64 1))],
 oP 9 .mv [.t 33]]
def c159r8 : List AOper := [
 oP 34 .mv [.t 11],
 oP 10 .mv [.t 34]]
def c159k9 : ACode := (.cond (.t 31) (.region true c159r7 [0,1,2,8,9,10]) (.region true c159r8 [0,1,2,8,9,10]))
def c159k10 : ACode := (.block 1 (.seq (.region true c159r5 [0,1,2,8,9,10,11]) (.seq (.region true c159r6 [0,1,2,8,9,10,11,31]) c159k9)))
def c159b11 : ACode := (.seq (.seq (.region true c159r3 [0,1,2,8,9,10,17]) c159k4) c159k10)
def c159k12 : ACode := (.block 0 (.loop [0,1,2,8,9,10] c159b11))
def c159r13 : List AOper := [
 oP 35 .mv [.t 9],
 oP 36 .mv [.t 9],
 oP 37 .mv [.t 8],
 oP 38 (.bin .lss) [.t 36,.t 37],
 oP 39 .mv [.t 38],
 ⟨some 40,.mv,[.t 2],some (39,true)⟩,
 ⟨some 41,.mv,[.t 0],some (39,true)⟩,
 ⟨some 42,.mv,[.t 9],some (39,true)⟩,
 ⟨some 43,(.iaddr (some 5)),[.t 41,.t 42],some (39,true)⟩,
 ⟨some 44,(.load (some 5)),[.t 43],some (39,true)⟩,
 ⟨some 45,.mv,[.t 1],some (39,true)⟩,
 ⟨some 46,.call,[.t 40,.t 44,.t 45],some (39,true)⟩,
 ⟨some 47,(.bin .eql),[.t 46,.c (.pv none (.int .i64 0))],some (39,true)⟩,
 oP 48 .pick [.t 39,.t 47,.c (.pv none (.bool false))],
 oP 6 .mv [.t 35],
 oP 7 .mv [.t 48]]
def c159 : ACode := (.seq (.region true c159r0 [0,1,2]) (.seq (.region true c159r1 [0,1,2,8]) (.seq (.region true c159r2 [0,1,2,8,9,10]) (.seq c159k12 (.seq (.region true c159r13 [6,7]) .ret)))))
def g159 : AFn := ⟨3,[(6,none),(7,none)],c159,false,[],[],none⟩
theorem tr159 : trFn Tryz.prog false 159 Tryz.f159 = some g159 := by kernel_rfl
def c160r0 : List AOper := [
 oP 2 (.box (some 5)) [.t 0],
 oP 4 .mv [.c (.pv none (.int .i64 0))]]
def c160r1 : List AOper := [
 oP 5 (.faddr 0) [.t 2],
 oP 6 (.load none) [.t 5],
 oP 7 .mv [.t 1],
 oP 8 .call [.c (.pv none (.func (.func 117))),.t 6,.t 7],
 oP 4 .mv [.t 8]]
def c160 : ACode := (.seq (.region true c160r0 [1,2]) (.seq (.region true c160r1 [4]) .ret))
def g160 : AFn := ⟨2,[(4,none)],c160,false,[],[],none⟩
theorem tr160 : trFn Tryz.prog false 160 Tryz.f160 = some g160 := by kernel_rfl
def c161r0 : List AOper := [
 oP 10 .mv [.c (.pv none (.int .i64 0))]]
def c161r1 : List AOper := [
 oP 11 .mv [.t 10],
 oP 12 .mv [.t 3],
 oP 13 (.bin .lss) [.t 11,.t 12]]
def c161k2 : ACode := (.cond (.t 13) .skip (.exit 0))
def c161r3 : List AOper := [
 oP 16 .mv [.t 0],
 oP 17 .mv [.t 1],
 oP 18 .mv [.t 10],
 oP 19 (.bin .add) [.t 17,.t 18],
 oP 20 .mv [.t 0],
 oP 21 .mv [.t 2],
 oP 22 .mv [.t 10],
 oP 23 (.bin .add) [.t 21,.t 22],
 oP 24 .mv [.t 0],
 oP 25 .mv [.t 2],
 oP 26 .mv [.t 10],
 oP 27 (.bin .add) [.t 25,.t 26],
 oP 28 (.iaddr (some 4)) [.t 24,.t 27],
 oP 29 (.load (some 4)) [.t 28],
 oP 30 .mv [.t 0],
 oP 31 .mv [.t 1],
 oP 32 .mv [.t 10],
 oP 33 (.bin .add) [.t 31,.t 32],
 oP 34 (.iaddr (some 4)) [.t 30,.t 33],
 oP 35 (.load (some 4)) [.t 34],
 oP 36 (.iaddr (some 4)) [.t 16,.t 19],
 ⟨none,(.store (some 4)),[.t 36,.t 29],none⟩,
 oP 37 (.iaddr (some 4)) [.t 20,.t 23],
 ⟨none,(.store (some 4)),[.t 37,.t 35],none⟩]
def c161k4 : ACode := (.block 1 (.region true c161r3 [0,1,2,3,10]))
def c161r5 : List AOper := [
 oP 14 .mv [.t 10],
 oP 15 (.bin .add) [.t 14,.c (.pv none (.int .i64 1))],
 oP 10 .mv [.t 15]]
def c161b6 : ACode := (.seq (.seq (.region true c161r1 [0,1,2,3,10,13]) c161k2) (.seq c161k4 (.region true c161r5 [0,1,2,3,10])))
def c161k7 : ACode := (.block 0 (.loop [0,1,2,3,10] c161b6))
def c161 : ACode := (.seq (.region true c161r0 [0,1,2,3,10]) c161k7)
def g161 : AFn := ⟨5,[],c161,true,[],[],none⟩
theorem tr161 : trFn Tryz.prog true 161 Tryz.f161 = some g161 := by kernel_rfl
def tab : List (Nat × AFn) := [(5,g5),(7,g7),(8,g8),(9,g9),(10,g10),(12,g12),(13,g13),(15,g15),(16,g16),(18,g18),(19,g19),(20,g20),(21,g21),(22,g22),(23,g23),(24,g24),(25,g25),(26,g26),(27,g27),(28,g28),(29,g29),(30,g30),(31,g31),(32,g32),(33,g33),(34,g34),(35,g35),(36,g36),(37,g37),(38,g38),(41,g41),(42,g42),(43,g43),(45,g45),(46,g46),(47,g47),(48,g48),(49,g49),(50,g50),(51,g51),(52,g52),(55,g55),(56,g56),(58,g58),(59,g59),(60,g60),(61,g61),(62,g62),(63,g63),(64,g64),(65,g65),(66,g66),(67,g67),(68,g68),(69,g69),(70,g70),(71,g71),(72,g72),(73,g73),(74,g74),(75,g75),(76,g76),(77,g77),(78,g78),(79,g79),(80,g80),(81,g81),(82,g82),(83,g83),(84,g84),(85,g85),(86,g86),(87,g87),(88,g88),(89,g89),(93,g93),(94,g94),(96,g96),(97,g97),(98,g98),(99,g99),(100,g100),(101,g101),(102,g102),(103,g103),(105,g105),(106,g106),(107,g107),(108,g108),(109,g109),(110,g110),(111,g111),(112,g112),(113,g113),(114,g114),(115,g115),(116,g116),(117,g117),(118,g118),(119,g119),(120,g120),(121,g121),(122,g122),(123,g123),(124,g124),(125,g125),(129,g129),(130,g130),(132,g132),(133,g133),(134,g134),(135,g135),(136,g136),(137,g137),(138,g138),(139,g139),(140,g140),(141,g141),(142,g142),(143,g143),(144,g144),(145,g145),(150,g150),(151,g151),(153,g153),(154,g154),(156,g156),(157,g157),(159,g159),(160,g160),(161,g161)]
theorem tab_ok : TabOk Tryz.prog tab :=
 (tabOk_cons Tryz.func5 tr5
 (tabOk_cons Tryz.func7 tr7
 (tabOk_cons Tryz.func8 tr8
 (tabOk_cons Tryz.func9 tr9
 (tabOk_cons Tryz.func10 tr10
 (tabOk_cons Tryz.func12 tr12
 (tabOk_cons Tryz.func13 tr13
 (tabOk_cons Tryz.func15 tr15
 (tabOk_cons Tryz.func16 tr16
 (tabOk_cons Tryz.func18 tr18
 (tabOk_cons Tryz.func19 tr19
 (tabOk_cons Tryz.func20 tr20
 (tabOk_cons Tryz.func21 tr21
 (tabOk_cons Tryz.func22 tr22
 (tabOk_cons Tryz.func23 tr23
 (tabOk_cons Tryz.func24 tr24
 (tabOk_cons Tryz.func25 tr25
 (tabOk_cons Tryz.func26 tr26
 (tabOk_cons Tryz.func27 tr27
 (tabOk_cons Tryz.func28 tr28
 (tabOk_cons Tryz.func29 tr29
 (tabOk_cons Tryz.func30 tr30
 (tabOk_cons Tryz.func31 tr31
 (tabOk_cons Tryz.func32 tr32
 (tabOk_cons Tryz.func33 tr33
 (tabOk_cons Tryz.func34 tr34
 (tabOk_cons Tryz.func35 tr35
 (tabOk_cons Tryz.func36 tr36
 (tabOk_cons Tryz.func37 tr37
 (tabOk_cons Tryz.func38 tr38
 (tabOk_cons Tryz.func41 tr41
 (tabOk_cons Tryz.func42 tr42
 (tabOk_cons Tryz.func43 tr43
 (tabOk_cons Tryz.func45 tr45
 (tabOk_cons Tryz.func46 tr46
 (tabOk_cons Tryz.func47 tr47
 (tabOk_cons Tryz.func48 tr48
 (tabOk_cons Tryz.func49 tr49
 (tabOk_cons Tryz.func50 tr50
 (tabOk_cons Tryz.func51 tr51
 (tabOk_cons Tryz.func52 tr52
 (tabOk_cons Tryz.func55 tr55
 (tabOk_cons Tryz.func56 tr56
 (tabOk_cons Tryz.func58 tr58
 (tabOk_cons Tryz.func59 tr59
 (tabOk_cons Tryz.func60 tr60
 (tabOk_cons Tryz.func61 tr61
 (tabOk_cons Tryz.func62 tr62
 (tabOk_cons Tryz.func63 tr63
 (tabOk_cons Tryz.func64 tr64
 (tabOk_cons Tryz.func65 tr65
 (tabOk_cons Tryz.func66 tr66
 (tabOk_cons Tryz.func67 tr67
 (tabOk_cons Tryz.func68 tr68
 (tabOk_cons Tryz.func69 tr69
 (tabOk_cons Tryz.func70 tr70
 (tabOk_cons Tryz.func71 tr71
 (tabOk_cons Tryz.func72 tr72
 (tabOk_cons Tryz.func73 tr73
 (tabOk_cons Tryz.func74 tr74
 (tabOk_cons Tryz.func75 tr75
 (tabOk_cons Tryz.func76 tr76
 (tabOk_cons Tryz.func77 tr77
 (tabOk_cons Tryz.func78 tr78
 (tabOk_cons Tryz.func79 tr79
 (tabOk_cons Tryz.func80 tr80
 (tabOk_cons Tryz.func81 tr81
 (tabOk_cons Tryz.func82 tr82
 (tabOk_cons Tryz.func83 tr83
 (tabOk_cons Tryz.func84 tr84
 (tabOk_cons Tryz.func85 tr85
 (tabOk_cons Tryz.func86 tr86
 (tabOk_cons Tryz.func87 tr87
 (tabOk_cons Tryz.func88 tr88
 (tabOk_cons Tryz.func89 tr89
 (tabOk_cons Tryz.func93 tr93
 (tabOk_cons Tryz.func94 tr94
 (tabOk_cons Tryz.func96 tr96
 (tabOk_cons Tryz.func97 tr97
 (tabOk_cons Tryz.func98 tr98
 (tabOk_cons Tryz.func99 tr99
 (tabOk_cons Tryz.func100 tr100
 (tabOk_cons Tryz.func101 tr101
 (tabOk_cons Tryz.func102 tr102
 (tabOk_cons Tryz.func103 tr103
 (tabOk_cons Tryz.func105 tr105
 (tabOk_cons Tryz.func106 tr106
 (tabOk_cons Tryz.func107 tr107
 (tabOk_cons Tryz.func108 tr108
 (tabOk_cons Tryz.func109 tr109
 (tabOk_cons Tryz.func110 tr110
 (tabOk_cons Tryz.func111 tr111
 (tabOk_cons Tryz.func112 tr112
 (tabOk_cons Tryz.func113 tr113
 (tabOk_cons Tryz.func114 tr114
 (tabOk_cons Tryz.func115 tr115
 (tabOk_cons Tryz.func116 tr116
 (tabOk_cons Tryz.func117 tr117
 (tabOk_cons Tryz.func118 tr118
 (tabOk_cons Tryz.func119 tr119
 (tabOk_cons Tryz.func120 tr120
 (tabOk_cons Tryz.func121 tr121
 (tabOk_cons Tryz.func122 tr122
 (tabOk_cons Tryz.func123 tr123
 (tabOk_cons Tryz.func124 tr124
 (tabOk_cons Tryz.func125 tr125
 (tabOk_cons Tryz.func129 tr129
 (tabOk_cons Tryz.func130 tr130
 (tabOk_cons Tryz.func132 tr132
 (tabOk_cons Tryz.func133 tr133
 (tabOk_cons Tryz.func134 tr134
 (tabOk_cons Tryz.func135 tr135
 (tabOk_cons Tryz.func136 tr136
 (tabOk_cons Tryz.func137 tr137
 (tabOk_cons Tryz.func138 tr138
 (tabOk_cons Tryz.func139 tr139
 (tabOk_cons Tryz.func140 tr140
 (tabOk_cons Tryz.func141 tr141
 (tabOk_cons Tryz.func142 tr142
 (tabOk_cons Tryz.func143 tr143
 (tabOk_cons Tryz.func144 tr144
 (tabOk_cons Tryz.func145 tr145
 (tabOk_cons Tryz.func150 tr150
 (tabOk_cons Tryz.func151 tr151
 (tabOk_cons Tryz.func153 tr153
 (tabOk_cons Tryz.func154 tr154
 (tabOk_cons Tryz.func156 tr156
 (tabOk_cons Tryz.func157 tr157
 (tabOk_cons Tryz.func159 tr159
 (tabOk_cons Tryz.func160 tr160
 (tabOk_cons Tryz.func161 tr161 tabOk_nil)))))))))))))))))))))))))))))))))))))))))))))))))))))))))))))))))))))))))))))))))))))))))))))))))))))))))))))))))))))))))))))))))))
end Go.Proofs.YtffecaafklpmhaaGreat
