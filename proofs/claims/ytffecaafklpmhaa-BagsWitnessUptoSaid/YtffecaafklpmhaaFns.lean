/- The functions as the abstract machine has them,each proved to be what the translation gives. -/
import Derived.Test.YtffecaafklpmhaaAm4
import Derived.Test.YtffecaafklpmhaaProg
import Derived.KernelRfl
namespace Go.Proofs.Ytffecaafklpmhaa
open Go.Am
def oP (d : Nat) (p : AOp) (l : List AArg) : AOper := ⟨some d, p, l, none⟩
def aZ : AOp := .alloc (some 4) (.agg [(none,(.pv none (.int .i64 0))),(none,(.pv none (.int .i64 0))),(none,(.pv none (.str []))),(none,(.tsl (some 4) []))])
def bZ (l : List Nat) : AOp := .build [(none,(.pv none (.int .i64 0))),(none,(.pv none (.int .i64 0))),(none,(.pv none (.str []))),(none,(.tsl (some 4) []))] l
attribute [go_sem] oP aZ bZ
def c5r0 : List AOper := [
 oP 2 (.box (some 4)) [.t 0],
 oP 3 (.box (some 4)) [.t 1],
 oP 4 .mv [.c (.pv none (.bool false))]]
def c5r1 : List AOper := [
 oP 16 (.load (some 4)) [.t 2],
 oP 17 .call [.c (.pv none (.func (.func 16))),.t 16],
 oP 18 .not [.t 17],
 oP 19 .mv [.t 18],
 ⟨some 20,(.load (some 4)),[.t 3],some (19,false)⟩,
 ⟨some 21,.call,[.c (.pv none (.func (.func 16))),.t 20],some (19,false)⟩,
 ⟨some 22,.not,[.t 21],some (19,false)⟩,
 oP 23 .pick [.t 19,.c (.pv none (.bool true)),.t 22]]
def c5r2 : List AOper := [
 oP 24 .call [.c (.pv none (.func (.func 9)))],
 oP 4 .mv [.t 24]]
def c5k3 : ACode := (.cond (.t 23) (.seq (.region true c5r2 [4]) .ret) .skip)
def c5r4 : List AOper := [
 oP 25 (.load (some 4)) [.t 3],
 oP 26 .callp [.c (.pv none (.func (.func 21))),.t 25],
 oP 27 (.load (some 4)) [.t 2],
 oP 28 (.load (some 4)) [.t 3],
 oP 29 .callp [.c (.pv none (.func (.func 22))),.t 27,.t 28],
 oP 5 aZ [],
 oP 6 aZ [],
 ⟨none,(.store (some 4)),[.t 5,.t 26],none⟩,
 ⟨none,(.store (some 4)),[.t 6,.t 29],none⟩]
def c5r5 : List AOper := [
 oP 31 (.load (some 4)) [.t 6],
 oP 32 .call [.c (.pv none (.func (.func 11))),.t 31],
 oP 30 .mv [.t 32],
 oP 33 (.extract 0) [.t 30],
 oP 34 (.extract 1) [.t 30],
 oP 8 aZ [],
 oP 7 .mv [.t 33],
 ⟨none,(.store (some 4)),[.t 8,.t 34],none⟩]
def c5r6 : List AOper := [
 oP 35 (.faddr 0) [.t 6],
 oP 36 (.load none) [.t 35],
 oP 37 (.bin .eql) [.t 36,.c (.pv none (.int .i64 0))]]
def c5r7 : List AOper := [
 oP 38 (.load (some 4)) [.t 3],
 oP 39 .call [.c (.pv none (.func (.func 17))),.t 38],
 oP 40 .len [.t 39],
 oP 41 (.bin .gtr) [.t 40,.c (.pv none (.int .i64 900))],
 oP 42 .mv [.t 41],
 ⟨some 43,.call,[.c (.pv none (.func (.func 9)))],some (42,true)⟩,
 oP 44 .pick [.t 42,.t 43,.c (.pv none (.bool false))],
 oP 4 .mv [.t 44]]
def c5k8 : ACode := (.cond (.t 37) (.seq (.region true c5r7 [4]) .ret) .skip)
def c5r9 : List AOper := [
 oP 9 (.nilsl none) []]
def c5r10 : List AOper := [
 oP 10 .mv [.c (.pv none (.int .i64 0))]]
def c5r11 : List AOper := [
 oP 45 .mv [.t 10],
 oP 46 .mv [.t 7],
 oP 47 .len [.t 46],
 oP 48 (.bin .lss) [.t 45,.t 47]]
def c5k12 : ACode := (.cond (.t 48) .skip (.exit 0))
def c5r13 : List AOper := [
 oP 51 .mv [.t 7],
 oP 52 .mv [.t 10],
 oP 53 (.iaddr (some 4)) [.t 51,.t 52],
 oP 54 (.faddr 0) [.t 53],
 oP 55 (.load none) [.t 54],
 oP 56 (.bin .neq) [.t 55,.c (.pv none (.int .i64 0))],
 oP 57 .mv [.t 56],
 ⟨some 58,.mv,[.t 9],some (57,false)⟩,
 ⟨some 59,.mv,[.t 7],some (57,false)⟩,
 ⟨some 60,.mv,[.t 10],some (57,false)⟩,
 ⟨some 61,(.iaddr (some 4)),[.t 59,.t 60],some (57,false)⟩,
 ⟨some 62,(.faddr 1),[.t 61],some (57,false)⟩,
 ⟨some 63,(.load none),[.t 62],some (57,false)⟩,
 ⟨some 64,.call,[.c (.pv none (.func (.func 23))),.t 58,.t 63],some (57,false)⟩,
 oP 65 .pick [.t 57,.c (.pv none (.bool true)),.t 64]]
def c5r14 : List AOper := [
 oP 4 .mv [.c (.pv none (.bool false))]]
def c5k15 : ACode := (.cond (.t 65) (.seq (.region true c5r14 [4]) .ret) .skip)
def c5r16 : List AOper := [
 oP 66 .mv [.t 9],
 oP 67 .mv [.t 7],
 oP 68 .mv [.t 10],
 oP 69 (.iaddr (some 4)) [.t 67,.t 68],
 oP 70 (.faddr 1) [.t 69],
 oP 71 (.load none) [.t 70],
 oP 72 (.bslice none) [.t 71],
 oP 73 (.append none) [.t 66,.t 72],
 oP 9 .mv [.t 73]]
def c5k17 : ACode := (.block 1 (.seq (.seq (.region true c5r13 [2,3,5,7,8,9,10,65]) c5k15) (.region true c5r16 [2,3,5,7,8,9,10])))
def c5r18 : List AOper := [
 oP 49 .mv [.t 10],
 oP 50 (.bin .add) [.t 49,.c (.pv none (.int .i64 1))],
 oP 10 .mv [.t 50]]
def c5b19 : ACode := (.seq (.seq (.region true c5r11 [2,3,5,7,8,9,10,48]) c5k12) (.seq c5k17 (.region true c5r18 [2,3,5,7,8,9,10])))
def c5k20 : ACode := (.block 0 (.loop [2,3,5,7,8,9,10] c5b19))
def c5r21 : List AOper := [
 oP 74 (.load (some 4)) [.t 2],
 oP 75 .call [.c (.pv none (.func (.func 17))),.t 74],
 oP 11 .mv [.t 75]]
def c5r22 : List AOper := [
 oP 76 (.load (some 4)) [.t 3],
 oP 12 aZ [],
 ⟨none,(.store (some 4)),[.t 12,.t 76],none⟩]
def c5r23 : List AOper := [
 oP 77 (.faddr 0) [.t 12],
 oP 78 (.load none) [.t 77],
 oP 79 (.bin .eql) [.t 78,.c (.pv none (.int .i64 3))],
 oP 80 .mv [.t 79],
 ⟨some 81,(.faddr 2),[.t 12],some (80,true)⟩,
 ⟨some 82,(.load none),[.t 81],some (80,true)⟩,
 ⟨some 83,(.bin .eql),[.t 82,.c (.pv none (.str [94]))],some (80,true)⟩,
 oP 84 .pick [.t 80,.t 83,.c (.pv none (.bool false))],
 oP 85 .mv [.t 84],
 ⟨some 86,(.faddr 3),[.t 12],some (85,true)⟩,
 ⟨some 87,(.load none),[.t 86],some (85,true)⟩,
 ⟨some 88,.len,[.t 87],some (85,true)⟩,
 ⟨some 89,(.bin .eql),[.t 88,.c (.pv none (.int .i64 2))],some (85,true)⟩,
 oP 90 .pick [.t 85,.t 89,.c (.pv none (.bool false))]]
def c5k24 : ACode := (.cond (.t 90) .skip (.exit 2))
def c5r25 : List AOper := [
 oP 95 .mv [.t 11],
 oP 96 (.faddr 3) [.t 12],
 oP 97 (.load none) [.t 96],
 oP 98 (.iaddr (some 4)) [.t 97,.c (.pv none (.int .i64 0))],
 oP 99 (.load (some 4)) [.t 98],
 oP 100 .call [.c (.pv none (.func (.func 17))),.t 99],
 oP 101 (.append none) [.t 95,.t 100],
 oP 11 .mv [.t 101]]
def c5k26 : ACode := (.block 3 (.region true c5r25 [3,5,8,9,11,12]))
def c5r27 : List AOper := [
 oP 102 (.load (some 4)) [.t 12]]
def c5r28 : List AOper := [
 oP 12 aZ [],
 ⟨none,(.store (some 4)),[.t 12,.t 102],none⟩]
def c5r29 : List AOper := [
 oP 91 (.faddr 3) [.t 12],
 oP 92 (.load none) [.t 91],
 oP 93 (.iaddr (some 4)) [.t 92,.c (.pv none (.int .i64 1))],
 oP 94 (.load (some 4)) [.t 93],
 ⟨none,(.store (some 4)),[.t 12,.t 94],none⟩]
def c5b30 : ACode := (.seq (.seq (.region true c5r23 [3,5,8,9,11,12,90]) c5k24) (.seq c5k26 (.seq (.seq (.region true c5r27 [3,5,8,9,11,102]) (.region true c5r28 [3,5,8,9,11,12])) (.region true c5r29 [3,5,8,9,11,12]))))
def c5k31 : ACode := (.block 2 (.loop [3,5,8,9,11,12] c5b30))
def c5r32 : List AOper := [
 oP 103 (.load (some 4)) [.t 3],
 oP 104 .call [.c (.pv none (.func (.func 17))),.t 103],
 oP 13 .mv [.t 104]]
def c5r33 : List AOper := [
 oP 14 .mv [.c (.pv none (.int .i64 0))]]
def c5r34 : List AOper := [
 oP 105 .mv [.t 14],
 oP 106 .mv [.t 13],
 oP 107 .len [.t 106],
 oP 108 (.bin .lss) [.t 105,.t 107]]
def c5k35 : ACode := (.cond (.t 108) .skip (.exit 4))
def c5r36 : List AOper := [
 oP 111 .mv [.t 9],
 oP 112 .mv [.t 13],
 oP 113 .mv [.t 14],
 oP 114 (.iaddr none) [.t 112,.t 113],
 oP 115 (.load none) [.t 114],
 oP 116 .callp [.c (.pv none (.func (.func 23))),.t 111,.t 115],
 oP 117 .mv [.t 11],
 oP 118 .mv [.t 13],
 oP 119 .mv [.t 14],
 oP 120 (.iaddr none) [.t 118,.t 119],
 oP 121 (.load none) [.t 120],
 oP 122 .callp [.c (.pv none (.func (.func 23))),.t 117,.t 121],
 oP 123 (.binb .eql) [.t 116,.t 122]]
def c5r37 : List AOper := [
 oP 4 .mv [.c (.pv none (.bool false))]]
def c5k38 : ACode := (.cond (.t 123) (.seq (.region true c5r37 [4]) .ret) .skip)
def c5k39 : ACode := (.block 5 (.seq (.seq (.settle [9,11]) (.region true c5r36 [5,8,9,11,13,14,123])) c5k38))
def c5r40 : List AOper := [
 oP 109 .mv [.t 14],
 oP 110 (.bin .add) [.t 109,.c (.pv none (.int .i64 1))],
 oP 14 .mv [.t 110]]
def c5b41 : ACode := (.seq (.seq (.region true c5r34 [5,8,9,11,13,14,108]) c5k35) (.seq c5k39 (.region true c5r40 [5,8,9,11,13,14])))
def c5k42 : ACode := (.block 4 (.loop [5,8,9,11,13,14] c5b41))
def c5r43 : List AOper := [
 oP 15 .mv [.c (.pv none (.int .i64 0))]]
def c5r44 : List AOper := [
 oP 124 .mv [.t 15],
 oP 125 .mv [.t 9],
 oP 126 .len [.t 125],
 oP 127 (.bin .lss) [.t 124,.t 126]]
def c5k45 : ACode := (.cond (.t 127) .skip (.exit 6))
def c5r46 : List AOper := [
 oP 130 .mv [.t 13],
 oP 131 .mv [.t 9],
 oP 132 .mv [.t 15],
 oP 133 (.iaddr none) [.t 131,.t 132],
 oP 134 (.load none) [.t 133],
 oP 135 .callp [.c (.pv none (.func (.func 23))),.t 130,.t 134],
 oP 136 .not [.t 135],
 oP 137 .mv [.t 136],
 ⟨some 138,(.load (some 4)),[.t 5],some (137,false)⟩,
 ⟨some 139,.callp,[.c (.pv none (.func (.func 17))),.t 138],some (137,false)⟩,
 ⟨some 140,.mv,[.t 9],some (137,false)⟩,
 ⟨some 141,.mv,[.t 15],some (137,false)⟩,
 ⟨some 142,(.iaddr none),[.t 140,.t 141],some (137,false)⟩,
 ⟨some 143,(.load none),[.t 142],some (137,false)⟩,
 ⟨some 144,.callp,[.c (.pv none (.func (.func 23))),.t 139,.t 143],some (137,false)⟩,
 ⟨some 145,.not,[.t 144],some (137,false)⟩,
 oP 146 .pick [.t 137,.c (.pv none (.bool true)),.t 145]]
def c5r47 : List AOper := [
 oP 4 .mv [.c (.pv none (.bool false))]]
def c5k48 : ACode := (.cond (.t 146) (.seq (.region true c5r47 [4]) .ret) .skip)
def c5k49 : ACode := (.block 7 (.seq (.seq (.settle [5,13]) (.region true c5r46 [5,8,9,13,15,146])) c5k48))
def c5r50 : List AOper := [
 oP 128 .mv [.t 15],
 oP 129 (.bin .add) [.t 128,.c (.pv none (.int .i64 1))],
 oP 15 .mv [.t 129]]
def c5b51 : ACode := (.seq (.seq (.region true c5r44 [5,8,9,13,15,127]) c5k45) (.seq c5k49 (.region true c5r50 [5,8,9,13,15])))
def c5k52 : ACode := (.block 6 (.loop [5,8,9,13,15] c5b51))
def c5r53 : List AOper := [
 oP 147 (.faddr 0) [.t 8],
 oP 148 (.load none) [.t 147],
 oP 149 (.bin .eql) [.t 148,.c (.pv none (.int .i64 2))],
 oP 150 .mv [.t 149],
 ⟨some 151,(.faddr 2),[.t 8],some (150,true)⟩,
 ⟨some 152,(.load none),[.t 151],some (150,true)⟩,
 ⟨some 153,(.bin .eql),[.t 152,.c (.pv none (.str [91,93]))],some (150,true)⟩,
 oP 154 .pick [.t 150,.t 153,.c (.pv none (.bool false))],
 oP 155 .mv [.t 154],
 ⟨some 156,.call,[.c (.pv none (.func (.func 9)))],some (155,true)⟩,
 oP 157 .pick [.t 155,.t 156,.c (.pv none (.bool false))],
 oP 4 .mv [.t 157]]
def c5 : ACode := (.seq (.region true c5r0 [2,3]) (.seq (.seq (.region true c5r1 [2,3,23]) c5k3) (.seq (.seq (.settle [2,3]) (.region true c5r4 [2,3,5,6])) (.seq (.region true c5r5 [2,3,5,6,7,8]) (.seq (.seq (.region true c5r6 [2,3,5,7,8,37]) c5k8) (.seq (.region true c5r9 [2,3,5,7,8,9]) (.seq (.seq (.region true c5r10 [2,3,5,7,8,9,10]) c5k20) (.seq (.region true c5r21 [3,5,8,9,11]) (.seq (.seq (.region true c5r22 [3,5,8,9,11,12]) c5k31) (.seq (.region true c5r32 [5,8,9,11,13]) (.seq (.seq (.region true c5r33 [5,8,9,11,13,14]) c5k42) (.seq (.seq (.region true c5r43 [5,8,9,13,15]) c5k52) (.seq (.region true c5r53 [4]) .ret)))))))))))))
def g5 : AFn := ⟨2,[(4,none)],c5,false,[],[],none⟩
theorem tr5 : trFn Try.prog false 5 Try.f5 = some g5 := by kernel_rfl
def c6r0 : List AOper := [
 oP 1 (.box (some 4)) [.t 0],
 oP 2 (.nilsl (some 4)) [],
 oP 3 aZ [],
 oP 4 .mv [.c (.pv none (.int .i64 0))]]
def c6r1 : List AOper := [
 oP 15 (.load (some 4)) [.t 1],
 oP 16 .callp [.c (.pv none (.func (.func 16))),.t 15],
 oP 17 .not [.t 16],
 oP 18 .mv [.t 17],
 ⟨some 19,(.load (some 4)),[.t 1],some (18,false)⟩,
 ⟨some 20,(.load (some 4)),[.t 1],some (18,false)⟩,
 ⟨some 21,.callp,[.c (.pv none (.func (.func 7))),.t 20],some (18,false)⟩,
 ⟨some 22,.callp,[.c (.pv none (.func (.func 13))),.t 19,.t 21],some (18,false)⟩,
 ⟨some 23,.not,[.t 22],some (18,false)⟩,
 oP 24 .pick [.t 18,.c (.pv none (.bool true)),.t 23]]
def c6r2 : List AOper := [
 oP 25 (bZ []) [],
 oP 2 (.nilsl (some 4)) [],
 ⟨none,(.store (some 4)),[.t 3,.t 25],none⟩,
 oP 4 .mv [.c (.pv none (.int .i64 1))]]
def c6k3 : ACode := (.cond (.t 24) (.seq (.region true c6r2 [2,3,4]) .ret) .skip)
def c6r4 : List AOper := [
 oP 26 (.faddr 0) [.t 1],
 oP 27 (.load none) [.t 26],
 oP 28 (.bin .neq) [.t 27,.c (.pv none (.int .i64 3))],
 oP 29 .mv [.t 28],
 ⟨some 30,(.faddr 2),[.t 1],some (29,false)⟩,
 ⟨some 31,(.load none),[.t 30],some (29,false)⟩,
 ⟨some 32,(.faddr 3),[.t 1],some (29,false)⟩,
 ⟨some 33,(.load none),[.t 32],some (29,false)⟩,
 ⟨some 34,.len,[.t 33],some (29,false)⟩,
 ⟨some 35,.call,[.c (.pv none (.func (.func 24))),.t 31,.t 34],some (29,false)⟩,
 ⟨some 36,.not,[.t 35],some (29,false)⟩,
 oP 37 .pick [.t 29,.c (.pv none (.bool true)),.t 36]]
def c6r5 : List AOper := [
 oP 38 (bZ []) [],
 oP 2 (.nilsl (some 4)) [],
 ⟨none,(.store (some 4)),[.t 3,.t 38],none⟩,
 oP 4 .mv [.c (.pv none (.int .i64 4))]]
def c6k6 : ACode := (.cond (.t 37) (.seq (.region true c6r5 [2,3,4]) .ret) .skip)
def c6r7 : List AOper := [
 oP 40 (.faddr 3) [.t 1],
 oP 41 (.load none) [.t 40],
 oP 42 (.iaddr (some 4)) [.t 41,.c (.pv none (.int .i64 1))],
 oP 43 (.load (some 4)) [.t 42],
 oP 44 .call [.c (.pv none (.func (.func 25))),.t 43],
 oP 39 .mv [.t 44],
 oP 45 (.extract 0) [.t 39],
 oP 46 (.extract 1) [.t 39],
 oP 47 (.extract 2) [.t 39],
 oP 5 .mv [.t 45],
 ⟨none,(.store (some 4)),[.t 3,.t 46],none⟩,
 oP 6 .mv [.t 47]]
def c6r8 : List AOper := [
 oP 48 .mv [.t 6],
 oP 49 .not [.t 48]]
def c6r9 : List AOper := [
 oP 50 (.load (some 4)) [.t 3],
 oP 2 (.nilsl (some 4)) [],
 ⟨none,(.store (some 4)),[.t 3,.t 50],none⟩,
 oP 4 .mv [.c (.pv none (.int .i64 8))]]
def c6k10 : ACode := (.cond (.t 49) (.seq (.region true c6r9 [2,3,4]) .ret) .skip)
def c6r11 : List AOper := [
 oP 52 .mv [.t 5],
 oP 53 .call [.c (.pv none (.func (.func 19))),.t 52],
 oP 51 .mv [.t 53],
 oP 54 (.extract 0) [.t 51],
 oP 55 (.extract 1) [.t 51],
 oP 7 .mv [.t 54],
 oP 4 .mv [.t 55]]
def c6r12 : List AOper := [
 oP 56 .mv [.t 4],
 oP 57 (.bin .neq) [.t 56,.c (.pv none (.int .i64 0))]]
def c6r13 : List AOper := [
 oP 58 (bZ []) [],
 oP 59 .mv [.t 4],
 oP 2 (.nilsl (some 4)) [],
 ⟨none,(.store (some 4)),[.t 3,.t 58],none⟩,
 oP 4 .mv [.t 59]]
def c6k14 : ACode := (.cond (.t 57) (.seq (.region true c6r13 [2,3,4]) .ret) .skip)
def c6r15 : List AOper := [
 oP 60 .call [.c (.pv none (.func (.func 26)))],
 oP 61 .len [.t 60],
 oP 62 .mv [.c (.pv none (.int .i64 0))]]
def c6r16 : List AOper := [
 oP 63 (.bin .lss) [.t 62,.t 61]]
def c6k17 : ACode := (.cond (.t 63) .skip (.exit 0))
def c6r18 : List AOper := [
 oP 64 (.iaddr (some 2)) [.t 60,.t 62],
 oP 65 (.load (some 2)) [.t 64],
 oP 9 (.alloc (some 2) (.pv (some 2) (.agg [(none,(.str [])),(none,.nilfunc)]))) [],
 ⟨none,(.store (some 2)),[.t 9,.t 65],none⟩]
def c6r19 : List AOper := [
 oP 66 (.faddr 0) [.t 9],
 oP 67 (.load none) [.t 66],
 oP 68 (.faddr 2) [.t 1],
 oP 69 (.load none) [.t 68],
 oP 70 (.bin .neq) [.t 67,.t 69]]
def c6k20 : ACode := (.cond (.t 70) (.exit 1) .skip)
def c6r21 : List AOper := [
 oP 71 .mv [.t 7],
 oP 72 .len [.t 71],
 oP 73 .mv [.c (.pv none (.int .i64 0))]]
def c6r22 : List AOper := [
 oP 74 (.bin .lss) [.t 73,.t 72]]
def c6k23 : ACode := (.cond (.t 74) .skip (.exit 2))
def c6r24 : List AOper := [
 oP 75 (.iaddr (some 4)) [.t 71,.t 73],
 oP 76 (.load (some 4)) [.t 75],
 oP 11 aZ [],
 ⟨none,(.store (some 4)),[.t 11,.t 76],none⟩]
def c6r25 : List AOper := [
 oP 78 (.faddr 3) [.t 11],
 oP 79 (.load none) [.t 78],
 oP 80 (.iaddr (some 4)) [.t 79,.c (.pv none (.int .i64 1))],
 oP 81 (.load (some 4)) [.t 80],
 oP 82 .call [.c (.pv none (.func (.func 11))),.t 81],
 oP 77 .mv [.t 82],
 oP 83 (.extract 0) [.t 77],
 oP 84 (.extract 1) [.t 77],
 oP 13 aZ [],
 oP 12 .mv [.t 83],
 ⟨none,(.store (some 4)),[.t 13,.t 84],none⟩]
def c6r26 : List AOper := [
 oP 85 (.faddr 2) [.t 1],
 oP 86 (.load none) [.t 85],
 oP 87 (.faddr 3) [.t 11],
 oP 88 (.load none) [.t 87],
 oP 89 (.iaddr (some 4)) [.t 88,.c (.pv none (.int .i64 0))],
 oP 90 (.load (some 4)) [.t 89],
 oP 91 (.faddr 3) [.t 1],
 oP 92 (.load none) [.t 91],
 oP 93 (.iaddr (some 4)) [.t 92,.c (.pv none (.int .i64 1))],
 oP 94 (.load (some 4)) [.t 93],
 oP 95 (.faddr 1) [.t 9],
 oP 96 (.load none) [.t 95],
 oP 97 .mv [.t 12],
 oP 98 .callp [.t 96,.t 97],
 oP 99 .callp [.c (.pv none (.func (.func 28))),.t 98],
 oP 100 (.bslicep (some 4)) [.t 90,.t 94,.t 99],
 oP 101 .callp [.c (.pv none (.func (.func 27))),.t 86,.t 100],
 oP 14 aZ [],
 ⟨none,(.store (some 4)),[.t 14,.t 101],none⟩]
def c6r27 : List AOper := [
 oP 102 (.load (some 4)) [.t 14],
 oP 103 .call [.c (.pv none (.func (.func 16))),.t 102],
 oP 104 .not [.t 103]]
def c6r28 : List AOper := [
 oP 105 (bZ []) [],
 oP 2 (.nilsl (some 4)) [],
 ⟨none,(.store (some 4)),[.t 3,.t 105],none⟩,
 oP 4 .mv [.c (.pv none (.int .i64 2))]]
def c6k29 : ACode := (.cond (.t 104) (.seq (.region true c6r28 [2,3,4]) .ret) .skip)
def c6r30 : List AOper := [
 oP 106 .mv [.t 2],
 oP 107 (.load (some 4)) [.t 14],
 oP 108 .call [.c (.pv none (.func (.func 29))),.t 107],
 oP 109 (.bslice (some 4)) [.t 108],
 oP 110 (.append (some 4)) [.t 106,.t 109],
 oP 2 .mv [.t 110]]
def c6k31 : ACode := (.block 3 (.seq (.region true c6r24 [1,2,3,7,9,11,60,61,62,71,72,73]) (.seq (.region true c6r25 [1,2,3,7,9,11,12,60,61,62,71,72,73]) (.seq (.seq (.settle [12]) (.region true c6r26 [1,2,3,7,9,14,60,61,62,71,72,73])) (.seq (.seq (.region true c6r27 [1,2,3,7,9,14,60,61,62,71,72,73,104]) c6k29) (.region true c6r30 [1,2,3,7,9,60,61,62,71,72,73]))))))
def c6r32 : List AOper := [
 oP 111 (.bin .add) [.t 73,.c (.pv none (.int .i64 1))],
 oP 73 .mv [.t 111]]
def c6b33 : ACode := (.seq (.region true c6r22 [1,2,3,7,9,60,61,62,71,72,73,74]) (.seq c6k23 (.seq c6k31 (.region true c6r32 [1,2,3,7,9,60,61,62,71,72,73]))))
def c6k34 : ACode := (.block 2 (.loop [1,2,3,7,9,60,61,62,71,72,73] c6b33))
def c6k35 : ACode := (.block 1 (.seq (.region true c6r18 [1,2,3,7,9,60,61,62]) (.seq (.seq (.region true c6r19 [1,2,3,7,9,60,61,62,70]) c6k20) (.seq (.region true c6r21 [1,2,3,7,9,60,61,62,71,72,73]) c6k34))))
def c6r36 : List AOper := [
 oP 112 (.bin .add) [.t 62,.c (.pv none (.int .i64 1))],
 oP 62 .mv [.t 112]]
def c6b37 : ACode := (.seq (.region true c6r16 [1,2,3,7,60,61,62,63]) (.seq c6k17 (.seq c6k35 (.region true c6r36 [1,2,3,7,60,61,62]))))
def c6k38 : ACode := (.block 0 (.loop [1,2,3,7,60,61,62] c6b37))
def c6r39 : List AOper := [
 oP 113 .mv [.t 2],
 oP 114 (bZ []) [],
 oP 2 .mv [.t 113],
 ⟨none,(.store (some 4)),[.t 3,.t 114],none⟩,
 oP 4 .mv [.c (.pv none (.int .i64 0))]]
def c6 : ACode := (.seq (.region true c6r0 [1,2,3]) (.seq (.seq (.seq (.settle [1]) (.region true c6r1 [1,2,3,24])) c6k3) (.seq (.seq (.region true c6r4 [1,2,3,37]) c6k6) (.seq (.region true c6r7 [1,2,3,5,6]) (.seq (.seq (.region true c6r8 [1,2,3,5,49]) c6k10) (.seq (.region true c6r11 [1,2,3,4,7]) (.seq (.seq (.region true c6r12 [1,2,3,4,7,57]) c6k14) (.seq (.seq (.region true c6r15 [1,2,3,7,60,61,62]) c6k38) (.seq (.region true c6r39 [2,3,4]) .ret)))))))))
def g6 : AFn := ⟨1,[(2,none),(3,some (some 4)),(4,none)],c6,false,[],[],none⟩
theorem tr6 : trFn Try.prog false 6 Try.f6 = some g6 := by kernel_rfl
def c7r0 : List AOper := [
 oP 1 (.box (some 4)) [.t 0],
 oP 2 aZ []]
def c7r1 : List AOper := [
 oP 4 (.load (some 4)) [.t 1],
 oP 5 .call [.c (.pv none (.func (.func 16))),.t 4],
 oP 6 .not [.t 5]]
def c7r2 : List AOper := [
 oP 7 (bZ []) [],
 ⟨none,(.store (some 4)),[.t 2,.t 7],none⟩]
def c7k3 : ACode := (.cond (.t 6) (.seq (.region true c7r2 [2]) .ret) .skip)
def c7r4 : List AOper := [
 oP 8 (.mkmap none) [],
 oP 3 (.alloc none (.pv none .nilmap)) [],
 ⟨none,(.store none),[.t 3,.t 8],none⟩]
def c7r5 : List AOper := [
 oP 9 (.load (some 4)) [.t 1],
 oP 10 (.mkfunc (.func 31) 0) [.t 3],
 oP 11 .call [.c (.pv none (.func (.func 30))),.t 9,.t 10],
 ⟨none,(.store (some 4)),[.t 2,.t 11],none⟩]
def c7 : ACode := (.seq (.region true c7r0 [1,2]) (.seq (.seq (.region true c7r1 [1,2,6]) c7k3) (.seq (.region true c7r4 [1,2,3]) (.seq (.region true c7r5 [2]) .ret))))
def g7 : AFn := ⟨1,[(2,some (some 4))],c7,false,[],[],none⟩
theorem tr7 : trFn Try.prog false 7 Try.f7 = some g7 := by kernel_rfl
def c8r0 : List AOper := [
 oP 4 aZ []]
def c8r1 : List AOper := [
 oP 5 .mv [.t 1],
 oP 6 .len [.t 5],
 oP 7 (.bin .eql) [.t 6,.c (.pv none (.int .i64 0))]]
def c8r2 : List AOper := [
 oP 8 .mv [.t 0],
 oP 9 .call [.c (.pv none (.func (.func 32))),.t 8],
 ⟨none,(.store (some 4)),[.t 4,.t 9],none⟩]
def c8k3 : ACode := (.cond (.t 7) (.seq (.region true c8r2 [4]) .ret) .skip)
def c8r4 : List AOper := [
 oP 10 .mv [.t 0],
 oP 11 .mv [.t 1],
 oP 12 (bZ [0,2,3]) [.c (.pv none (.int .i64 3)),.t 10,.t 11],
 oP 13 .call [.c (.pv none (.func (.func 29))),.t 12],
 ⟨none,(.store (some 4)),[.t 4,.t 13],none⟩]
def c8 : ACode := (.seq (.region true c8r0 [0,1,4]) (.seq (.seq (.region true c8r1 [0,1,4,7]) c8k3) (.seq (.region true c8r4 [4]) .ret)))
def g8 : AFn := ⟨2,[(4,some (some 4))],c8,false,[],[],none⟩
theorem tr8 : trFn Try.prog false 8 Try.f8 = some g8 := by kernel_rfl
def c9r0 : List AOper := [
 oP 0 .mv [.c (.pv none (.bool false))]]
def c9r1 : List AOper := [
 oP 10 .call [.c (.pv none (.func (.func 33))),.c (.pv none (.int .i64 0))],
 oP 11 .call [.c (.pv none (.func (.func 33))),.c (.pv none (.int .i64 1))],
 oP 12 .call [.c (.pv none (.func (.func 33))),.c (.pv none (.int .i64 2))],
 oP 13 (.bslice (some 4)) [.t 10,.t 11,.t 12],
 oP 14 .call [.c (.pv none (.func (.func 8))),.c (.pv none (.str [112])),.t 13],
 oP 1 aZ [],
 ⟨none,(.store (some 4)),[.t 1,.t 14],none⟩]
def c9r2 : List AOper := [
 oP 16 .call [.c (.pv none (.func (.func 32))),.c (.pv none (.str [98]))],
 oP 17 .call [.c (.pv none (.func (.func 34))),.c (.pv none (.int .i64 1))],
 oP 18 .call [.c (.pv none (.func (.func 15))),.t 16,.t 17],
 oP 19 .call [.c (.pv none (.func (.func 32))),.c (.pv none (.str [97]))],
 oP 20 .call [.c (.pv none (.func (.func 34))),.c (.pv none (.int .i64 2))],
 oP 21 .call [.c (.pv none (.func (.func 15))),.t 19,.t 20],
 oP 22 .call [.c (.pv none (.func (.func 32))),.c (.pv none (.str [98]))],
 oP 23 .call [.c (.pv none (.func (.func 34))),.c (.pv none (.int .i64 3))],
 oP 24 .call [.c (.pv none (.func (.func 15))),.t 22,.t 23],
 oP 25 (.bslice (some 4)) [.t 18,.t 21,.t 24],
 oP 26 .call [.c (.pv none (.func (.func 19))),.t 25],
 oP 15 .mv [.t 26],
 oP 27 (.extract 0) [.t 15],
 oP 28 (.extract 1) [.t 15],
 oP 2 .mv [.t 27],
 oP 3 .mv [.t 28]]
def c9r3 : List AOper := [
 oP 29 .call [.c (.pv none (.func (.func 32))),.c (.pv none (.str [97]))],
 oP 30 .call [.c (.pv none (.func (.func 34))),.c (.pv none (.int .i64 2))],
 oP 31 .call [.c (.pv none (.func (.func 15))),.t 29,.t 30],
 oP 32 .call [.c (.pv none (.func (.func 32))),.c (.pv none (.str [97]))],
 oP 33 .call [.c (.pv none (.func (.func 34))),.c (.pv none (.int .i64 1))],
 oP 34 .call [.c (.pv none (.func (.func 15))),.t 32,.t 33],
 oP 35 .call [.c (.pv none (.func (.func 32))),.c (.pv none (.str [97]))],
 oP 36 .call [.c (.pv none (.func (.func 34))),.c (.pv none (.int .i64 2))],
 oP 37 .call [.c (.pv none (.func (.func 15))),.t 35,.t 36],
 oP 38 (.bslice (some 4)) [.t 31,.t 34,.t 37],
 oP 39 .call [.c (.pv none (.func (.func 35))),.t 38],
 oP 4 aZ [],
 ⟨none,(.store (some 4)),[.t 4,.t 39],none⟩]
def c9r4 : List AOper := [
 oP 41 .callp [.c (.pv none (.func (.func 33))),.c (.pv none (.int .i64 0))],
 oP 42 (.load (some 4)) [.t 4],
 oP 43 .callp [.c (.pv none (.func (.func 33))),.c (.pv none (.int .i64 1))],
 oP 44 (.bslicep (some 4)) [.t 41,.t 42,.t 43],
 oP 45 .callp [.c (.pv none (.func (.func 8))),.c (.pv none (.str [36,115,101,116])),.t 44],
 oP 46 .callp [.c (.pv none (.func (.func 6))),.t 45],
 oP 40 .mv [.t 46],
 oP 47 (.extract 0) [.t 40],
 oP 48 (.extract 1) [.t 40],
 oP 49 (.extract 2) [.t 40],
 oP 6 aZ [],
 oP 5 .mv [.t 47],
 ⟨none,(.store (some 4)),[.t 6,.t 48],none⟩,
 oP 7 .mv [.t 49]]
def c9r5 : List AOper := [
 oP 50 .mv [.t 3],
 oP 51 (.bin .neq) [.t 50,.c (.pv none (.int .i64 0))],
 oP 52 .mv [.t 51],
 ⟨some 53,.mv,[.t 2],some (52,false)⟩,
 ⟨some 54,.len,[.t 53],some (52,false)⟩,
 ⟨some 55,(.bin .neq),[.t 54,.c (.pv none (.int .i64 2))],some (52,false)⟩,
 oP 56 .pick [.t 52,.c (.pv none (.bool true)),.t 55],
 oP 57 .mv [.t 56],
 ⟨some 58,.mv,[.t 7],some (57,false)⟩,
 ⟨some 59,(.bin .neq),[.t 58,.c (.pv none (.int .i64 0))],some (57,false)⟩,
 oP 60 .pick [.t 57,.c (.pv none (.bool true)),.t 59],
 oP 61 .mv [.t 60],
 ⟨some 62,.mv,[.t 5],some (61,false)⟩,
 ⟨some 63,.len,[.t 62],some (61,false)⟩,
 ⟨some 64,(.bin .neq),[.t 63,.c (.pv none (.int .i64 1))],some (61,false)⟩,
 oP 65 .pick [.t 61,.c (.pv none (.bool true)),.t 64]]
def c9r6 : List AOper := [
 oP 0 .mv [.c (.pv none (.bool false))]]
def c9k7 : ACode := (.cond (.t 65) (.seq (.region true c9r6 [0]) .ret) .skip)
def c9r8 : List AOper := [
 oP 66 .mv [.t 2],
 oP 67 (.iaddr (some 4)) [.t 66,.c (.pv none (.int .i64 0))],
 oP 68 (.load (some 4)) [.t 67],
 oP 69 .callp [.c (.pv none (.func (.func 32))),.c (.pv none (.str [97]))],
 oP 70 .callp [.c (.pv none (.func (.func 34))),.c (.pv none (.int .i64 2))],
 oP 71 (.bslicep (some 4)) [.t 70],
 oP 72 .callp [.c (.pv none (.func (.func 35))),.t 71],
 oP 73 .callp [.c (.pv none (.func (.func 15))),.t 69,.t 72],
 oP 74 .callp [.c (.pv none (.func (.func 36))),.t 68,.t 73],
 oP 75 .mv [.t 74],
 ⟨some 76,.mv,[.t 2],some (75,true)⟩,
 ⟨some 77,(.iaddr (some 4)),[.t 76,.c (.pv none (.int .i64 1))],some (75,true)⟩,
 ⟨some 78,(.load (some 4)),[.t 77],some (75,true)⟩,
 ⟨some 79,.callp,[.c (.pv none (.func (.func 32))),.c (.pv none (.str [98]))],some (75,true)⟩,
 ⟨some 80,.callp,[.c (.pv none (.func (.func 34))),.c (.pv none (.int .i64 1))],some (75,true)⟩,
 ⟨some 81,.callp,[.c (.pv none (.func (.func 34))),.c (.pv none (.int .i64 3))],some (75,true)⟩,
 ⟨some 82,(.bslicep (some 4)),[.t 80,.t 81],some (75,true)⟩,
 ⟨some 83,.callp,[.c (.pv none (.func (.func 35))),.t 82],some (75,true)⟩,
 ⟨some 84,.callp,[.c (.pv none (.func (.func 15))),.t 79,.t 83],some (75,true)⟩,
 ⟨some 85,.callp,[.c (.pv none (.func (.func 36))),.t 78,.t 84],some (75,true)⟩,
 oP 86 .pick [.t 75,.t 85,.c (.pv none (.bool false))],
 oP 8 .mv [.t 86]]
def c9r9 : List AOper := [
 oP 87 .mv [.t 5],
 oP 88 (.iaddr (some 4)) [.t 87,.c (.pv none (.int .i64 0))],
 oP 89 (.load (some 4)) [.t 88],
 oP 90 .callp [.c (.pv none (.func (.func 32))),.c (.pv none (.str [97]))],
 oP 91 (.load (some 4)) [.t 4],
 oP 92 .callp [.c (.pv none (.func (.func 34))),.c (.pv none (.int .i64 1))],
 oP 93 .callp [.c (.pv none (.func (.func 34))),.c (.pv none (.int .i64 2))],
 oP 94 (.bslicep (some 4)) [.t 92,.t 93],
 oP 95 .callp [.c (.pv none (.func (.func 35))),.t 94],
 oP 96 (.bslicep (some 4)) [.t 90,.t 91,.t 95],
 oP 97 .callp [.c (.pv none (.func (.func 8))),.c (.pv none (.str [36,115,101,116])),.t 96],
 oP 98 .callp [.c (.pv none (.func (.func 36))),.t 89,.t 97],
 oP 9 .mv [.t 98]]
def c9r10 : List AOper := [
 oP 99 .mv [.t 8],
 oP 100 .mv [.t 99],
 ⟨some 101,.mv,[.t 9],some (100,true)⟩,
 oP 102 .pick [.t 100,.t 101,.c (.pv none (.bool false))],
 oP 103 .mv [.t 102],
 ⟨some 104,.callp,[.c (.pv none (.func (.func 33))),.c (.pv none (.int .i64 0))],some (103,true)⟩,
 ⟨some 105,.callp,[.c (.pv none (.func (.func 33))),.c (.pv none (.int .i64 1))],some (103,true)⟩,
 ⟨some 106,(.load (some 4)),[.t 1],some (103,true)⟩,
 ⟨some 107,(.bslicep (some 4)),[.t 105,.t 106],some (103,true)⟩,
 ⟨some 108,.callp,[.c (.pv none (.func (.func 8))),.c (.pv none (.str [94])),.t 107],some (103,true)⟩,
 ⟨some 109,.callp,[.c (.pv none (.func (.func 22))),.t 104,.t 108],some (103,true)⟩,
 ⟨some 110,.callp,[.c (.pv none (.func (.func 33))),.c (.pv none (.int .i64 2))],some (103,true)⟩,
 ⟨some 111,(.bslicep (some 4)),[.t 110],some (103,true)⟩,
 ⟨some 112,.callp,[.c (.pv none (.func (.func 35))),.t 111],some (103,true)⟩,
 ⟨some 113,.callp,[.c (.pv none (.func (.func 36))),.t 109,.t 112],some (103,true)⟩,
 oP 114 .pick [.t 103,.t 113,.c (.pv none (.bool false))],
 oP 0 .mv [.t 114]]
def c9 : ACode := (.seq (.region true c9r0 []) (.seq (.region true c9r1 [1]) (.seq (.region true c9r2 [1,2,3]) (.seq (.region true c9r3 [1,2,3,4]) (.seq (.seq (.settle [4]) (.region true c9r4 [1,2,3,4,5,7])) (.seq (.seq (.region true c9r5 [1,2,4,5,65]) c9k7) (.seq (.seq (.settle []) (.region true c9r8 [1,4,5,8])) (.seq (.seq (.settle [4]) (.region true c9r9 [1,8,9])) (.seq (.seq (.settle [1]) (.region true c9r10 [0])) .ret)))))))))
def g9 : AFn := ⟨0,[(0,none)],c9,false,[],[],none⟩
theorem tr9 : trFn Try.prog false 9 Try.f9 = some g9 := by kernel_rfl
def c11r0 : List AOper := [
 oP 1 (.box (some 4)) [.t 0],
 oP 2 (.nilsl (some 4)) [],
 oP 3 aZ []]
def c11r1 : List AOper := [
 oP 5 (.load (some 4)) [.t 1],
 oP 6 .call [.c (.pv none (.func (.func 16))),.t 5],
 oP 7 .not [.t 6]]
def c11r2 : List AOper := [
 oP 8 (bZ []) [],
 oP 2 (.nilsl (some 4)) [],
 ⟨none,(.store (some 4)),[.t 3,.t 8],none⟩]
def c11k3 : ACode := (.cond (.t 7) (.seq (.region true c11r2 [2,3]) .ret) .skip)
def c11r4 : List AOper := [
 oP 4 (.nilsl (some 4)) []]
def c11r5 : List AOper := [
 oP 9 (.faddr 0) [.t 1],
 oP 10 (.load none) [.t 9],
 oP 11 (.bin .eql) [.t 10,.c (.pv none (.int .i64 3))],
 oP 12 .mv [.t 11],
 ⟨some 13,(.faddr 2),[.t 1],some (12,true)⟩,
 ⟨some 14,(.load none),[.t 13],some (12,true)⟩,
 ⟨some 15,(.bin .eql),[.t 14,.c (.pv none (.str [46]))],some (12,true)⟩,
 oP 16 .pick [.t 12,.t 15,.c (.pv none (.bool false))],
 oP 17 .mv [.t 16],
 ⟨some 18,(.faddr 3),[.t 1],some (17,true)⟩,
 ⟨some 19,(.load none),[.t 18],some (17,true)⟩,
 ⟨some 20,.len,[.t 19],some (17,true)⟩,
 ⟨some 21,(.bin .eql),[.t 20,.c (.pv none (.int .i64 2))],some (17,true)⟩,
 oP 22 .pick [.t 17,.t 21,.c (.pv none (.bool false))]]
def c11k6 : ACode := (.cond (.t 22) .skip (.exit 0))
def c11r7 : List AOper := [
 oP 23 .mv [.t 4],
 oP 24 (.faddr 3) [.t 1],
 oP 25 (.load none) [.t 24],
 oP 26 (.iaddr (some 4)) [.t 25,.c (.pv none (.int .i64 0))],
 oP 27 (.load (some 4)) [.t 26],
 oP 28 .call [.c (.pv none (.func (.func 29))),.t 27],
 oP 29 (.bslice (some 4)) [.t 28],
 oP 30 (.append (some 4)) [.t 23,.t 29],
 oP 4 .mv [.t 30]]
def c11r8 : List AOper := [
 oP 31 (.faddr 3) [.t 1],
 oP 32 (.load none) [.t 31],
 oP 33 (.iaddr (some 4)) [.t 32,.c (.pv none (.int .i64 1))],
 oP 34 (.load (some 4)) [.t 33],
 ⟨none,(.store (some 4)),[.t 1,.t 34],none⟩]
def c11k9 : ACode := (.block 1 (.seq (.region true c11r7 [1,3,4]) (.region true c11r8 [1,3,4])))
def c11b10 : ACode := (.seq (.seq (.region true c11r5 [1,3,4,22]) c11k6) c11k9)
def c11k11 : ACode := (.block 0 (.loop [1,3,4] c11b10))
def c11r12 : List AOper := [
 oP 35 .mv [.t 4],
 oP 36 (.load (some 4)) [.t 1],
 oP 37 .call [.c (.pv none (.func (.func 29))),.t 36],
 oP 2 .mv [.t 35],
 ⟨none,(.store (some 4)),[.t 3,.t 37],none⟩]
def c11 : ACode := (.seq (.region true c11r0 [1,3]) (.seq (.seq (.region true c11r1 [1,3,7]) c11k3) (.seq (.region true c11r4 [1,3,4]) (.seq c11k11 (.seq (.region true c11r12 [2,3]) .ret)))))
def g11 : AFn := ⟨1,[(2,none),(3,some (some 4))],c11,false,[],[],none⟩
theorem tr11 : trFn Try.prog false 11 Try.f11 = some g11 := by kernel_rfl
def c12r0 : List AOper := [
 oP 2 (.nilsl (some 4)) [],
 oP 3 .mv [.c (.pv none (.int .i64 0))]]
def c12r1 : List AOper := [
 oP 5 .mv [.t 0],
 oP 6 .call [.c (.pv none (.func (.func 37))),.t 5],
 oP 4 .mv [.t 6],
 oP 7 (.extract 0) [.t 4],
 oP 8 (.extract 1) [.t 4],
 oP 2 .mv [.t 7],
 oP 3 .mv [.t 8]]
def c12r2 : List AOper := [
 oP 9 .mv [.t 3],
 oP 10 (.bin .neq) [.t 9,.c (.pv none (.int .i64 0))]]
def c12r3 : List AOper := [
 oP 11 .mv [.t 3],
 oP 2 (.nilsl (some 4)) [],
 oP 3 .mv [.t 11]]
def c12k4 : ACode := (.cond (.t 10) (.seq (.region true c12r3 [2,3]) .ret) .skip)
def c12r5 : List AOper := [
 oP 12 .mv [.t 2],
 oP 13 .call [.c (.pv none (.func (.func 38))),.t 12,.c (.pv none (.func (.func 39)))],
 oP 2 .mv [.t 13],
 oP 3 .mv [.c (.pv none (.int .i64 0))]]
def c12 : ACode := (.seq (.region true c12r0 [0]) (.seq (.region true c12r1 [2,3]) (.seq (.seq (.region true c12r2 [2,3,10]) c12k4) (.seq (.region true c12r5 [2,3]) .ret))))
def g12 : AFn := ⟨1,[(2,none),(3,none)],c12,true,[],[],none⟩
theorem tr12 : trFn Try.prog true 12 Try.f12 = some g12 := by kernel_rfl
def c13r0 : List AOper := [
 oP 2 (.box (some 4)) [.t 0],
 oP 3 (.box (some 4)) [.t 1],
 oP 4 .mv [.c (.pv none (.bool false))]]
def c13r1 : List AOper := [
 oP 5 (.load (some 4)) [.t 2],
 oP 6 .call [.c (.pv none (.func (.func 16))),.t 5],
 oP 7 .mv [.t 6],
 ⟨some 8,(.load (some 4)),[.t 3],some (7,true)⟩,
 ⟨some 9,.call,[.c (.pv none (.func (.func 16))),.t 8],some (7,true)⟩,
 oP 10 .pick [.t 7,.t 9,.c (.pv none (.bool false))],
 oP 11 .mv [.t 10],
 ⟨some 12,(.load (some 4)),[.t 2],some (11,true)⟩,
 ⟨some 13,(.load (some 4)),[.t 3],some (11,true)⟩,
 ⟨some 14,.call,[.c (.pv none (.func (.func 41))),.t 12,.t 13],some (11,true)⟩,
 oP 15 .pick [.t 11,.t 14,.c (.pv none (.bool false))],
 oP 4 .mv [.t 15]]
def c13 : ACode := (.seq (.region true c13r0 [2,3]) (.seq (.region true c13r1 [4]) .ret))
def g13 : AFn := ⟨2,[(4,none)],c13,false,[],[],none⟩
theorem tr13 : trFn Try.prog false 13 Try.f13 = some g13 := by kernel_rfl
def c15r0 : List AOper := [
 oP 2 (.box (some 4)) [.t 0],
 oP 3 (.box (some 4)) [.t 1],
 oP 4 aZ []]
def c15r1 : List AOper := [
 oP 5 (.load (some 4)) [.t 2],
 oP 6 (.load (some 4)) [.t 3],
 oP 7 (.bslice (some 4)) [.t 5,.t 6],
 oP 8 .call [.c (.pv none (.func (.func 8))),.c (.pv none (.str [45])),.t 7],
 ⟨none,(.store (some 4)),[.t 4,.t 8],none⟩]
def c15 : ACode := (.seq (.region true c15r0 [2,3,4]) (.seq (.region true c15r1 [4]) .ret))
def g15 : AFn := ⟨2,[(4,some (some 4))],c15,false,[],[],none⟩
theorem tr15 : trFn Try.prog false 15 Try.f15 = some g15 := by kernel_rfl
def c16r0 : List AOper := [
 oP 1 (.box (some 4)) [.t 0],
 oP 2 .mv [.c (.pv none (.bool false))]]
def c16r1 : List AOper := [
 oP 3 (.load (some 4)) [.t 1],
 oP 4 .call [.c (.pv none (.func (.func 18))),.t 3],
 oP 5 (.bin .leq) [.t 4,.c (.pv none (.int .i64 2000))],
 oP 6 .mv [.t 5],
 ⟨some 7,(.load (some 4)),[.t 1],some (6,true)⟩,
 ⟨some 8,.call,[.c (.pv none (.func (.func 42))),.t 7],some (6,true)⟩,
 oP 9 .pick [.t 6,.t 8,.c (.pv none (.bool false))],
 oP 2 .mv [.t 9]]
def c16 : ACode := (.seq (.region true c16r0 [1]) (.seq (.region true c16r1 [2]) .ret))
def g16 : AFn := ⟨1,[(2,none)],c16,false,[],[],none⟩
theorem tr16 : trFn Try.prog false 16 Try.f16 = some g16 := by kernel_rfl
def c17r0 : List AOper := [
 oP 1 (.box (some 4)) [.t 0],
 oP 2 (.nilsl none) []]
def c17r1 : List AOper := [
 oP 5 (.load (some 4)) [.t 1],
 oP 6 .call [.c (.pv none (.func (.func 16))),.t 5],
 oP 7 .not [.t 6]]
def c17r2 : List AOper := [
 oP 2 (.nilsl none) []]
def c17k3 : ACode := (.cond (.t 7) (.seq (.region true c17r2 [2]) .ret) .skip)
def c17r4 : List AOper := [
 oP 3 (.alloc none (.tsl none [])) []]
def c17r5 : List AOper := [
 oP 8 (.mkmap none) [],
 oP 4 (.alloc none (.pv none .nilmap)) [],
 ⟨none,(.store none),[.t 4,.t 8],none⟩]
def c17r6 : List AOper := [
 oP 9 (.load (some 4)) [.t 1],
 oP 10 (.mkfunc (.func 43) 0) [.t 4,.t 3],
 oP 11 .call [.c (.pv none (.func (.func 30))),.t 9,.t 10]]
def c17r7 : List AOper := [
 oP 12 (.load none) [.t 3],
 oP 2 .mv [.t 12]]
def c17 : ACode := (.seq (.region true c17r0 [1]) (.seq (.seq (.region true c17r1 [1,7]) c17k3) (.seq (.region true c17r4 [1,3]) (.seq (.region true c17r5 [1,3,4]) (.seq (.region true c17r6 [3]) (.seq (.region true c17r7 [2]) .ret))))))
def g17 : AFn := ⟨1,[(2,none)],c17,false,[],[],none⟩
theorem tr17 : trFn Try.prog false 17 Try.f17 = some g17 := by kernel_rfl
def c18r0 : List AOper := [
 oP 1 (.box (some 4)) [.t 0],
 oP 2 .mv [.c (.pv none (.int .i64 0))]]
def c18r1 : List AOper := [
 oP 3 (.alloc none (.pv none (.int .i64 0))) [],
 ⟨none,(.store none),[.t 3,.c (.pv none (.int .i64 2001))],none⟩]
def c18r2 : List AOper := [
 oP 4 (.alloc none (.pv none .nilfunc)) []]
def c18r3 : List AOper := [
 oP 5 (.mkfunc (.func 44) 0) [.t 3,.t 4],
 ⟨none,(.store none),[.t 4,.t 5],none⟩]
def c18r4 : List AOper := [
 oP 6 (.load none) [.t 4],
 oP 7 (.load (some 4)) [.t 1],
 oP 8 .call [.t 6,.t 7]]
def c18r5 : List AOper := [
 oP 9 (.load none) [.t 3],
 oP 10 (.bin .sub) [.c (.pv none (.int .i64 2001)),.t 9],
 oP 2 .mv [.t 10]]
def c18 : ACode := (.seq (.region true c18r0 [1]) (.seq (.region true c18r1 [1,3]) (.seq (.region true c18r2 [1,3,4]) (.seq (.region true c18r3 [1,3,4]) (.seq (.region true c18r4 [3]) (.seq (.region true c18r5 [2]) .ret))))))
def g18 : AFn := ⟨1,[(2,none)],c18,false,[],[],none⟩
theorem tr18 : trFn Try.prog false 18 Try.f18 = some g18 := by kernel_rfl
def c19r0 : List AOper := [
 oP 2 (.nilsl (some 4)) [],
 oP 3 .mv [.c (.pv none (.int .i64 0))]]
def c19r1 : List AOper := [
 oP 14 .mv [.t 0],
 oP 15 .call [.c (.pv none (.func (.func 45))),.t 14],
 oP 13 .mv [.t 15],
 oP 16 (.extract 0) [.t 13],
 oP 17 (.extract 1) [.t 13],
 oP 4 .mv [.t 16],
 oP 3 .mv [.t 17]]
def c19r2 : List AOper := [
 oP 18 .mv [.t 3],
 oP 19 (.bin .neq) [.t 18,.c (.pv none (.int .i64 0))]]
def c19r3 : List AOper := [
 oP 20 .mv [.t 3],
 oP 2 (.nilsl (some 4)) [],
 oP 3 .mv [.t 20]]
def c19k4 : ACode := (.cond (.t 19) (.seq (.region true c19r3 [2,3]) .ret) .skip)
def c19r5 : List AOper := [
 oP 21 .mv [.t 4],
 oP 22 .len [.t 21],
 oP 23 (.bin .gtr) [.t 22,.c (.pv none (.int .i64 0))]]
def c19k6 : ACode := (.cond (.t 23) .skip (.exit 0))
def c19r7 : List AOper := [
 oP 24 .mv [.t 4],
 oP 25 (.iaddr (some 4)) [.t 24,.c (.pv none (.int .i64 0))],
 oP 26 (.faddr 3) [.t 25],
 oP 27 (.load none) [.t 26],
 oP 28 (.iaddr (some 4)) [.t 27,.c (.pv none (.int .i64 0))],
 oP 29 (.load (some 4)) [.t 28],
 oP 5 aZ [],
 ⟨none,(.store (some 4)),[.t 5,.t 29],none⟩]
def c19r8 : List AOper := [
 oP 30 (.mkfunc (.func 46) 0) [.t 5],
 oP 6 .mv [.t 30]]
def c19r9 : List AOper := [
 oP 7 (.nilsl (some 4)) [],
 oP 8 (.nilsl (some 4)) []]
def c19r10 : List AOper := [
 oP 31 .mv [.t 4],
 oP 32 .len [.t 31],
 oP 33 .mv [.c (.pv none (.int .i64 0))]]
def c19r11 : List AOper := [
 oP 34 (.bin .lss) [.t 33,.t 32]]
def c19k12 : ACode := (.cond (.t 34) .skip (.exit 2))
def c19r13 : List AOper := [
 oP 35 (.iaddr (some 4)) [.t 31,.t 33],
 oP 36 (.load (some 4)) [.t 35],
 oP 10 aZ [],
 ⟨none,(.store (some 4)),[.t 10,.t 36],none⟩]
def c19r14 : List AOper := [
 oP 37 .mv [.t 6],
 oP 38 (.load (some 4)) [.t 10],
 oP 39 .call [.t 37,.t 38]]
def c19r15 : List AOper := [
 oP 40 .mv [.t 7],
 oP 41 (.load (some 4)) [.t 10],
 oP 42 (.bslice (some 4)) [.t 41],
 oP 43 (.append (some 4)) [.t 40,.t 42],
 oP 7 .mv [.t 43]]
def c19r16 : List AOper := [
 oP 44 .mv [.t 8],
 oP 45 (.load (some 4)) [.t 10],
 oP 46 (.bslice (some 4)) [.t 45],
 oP 47 (.append (some 4)) [.t 44,.t 46],
 oP 8 .mv [.t 47]]
def c19k17 : ACode := (.cond (.t 39) (.region true c19r15 [2,6,7,8,31,32,33]) (.region true c19r16 [2,6,7,8,31,32,33]))
def c19k18 : ACode := (.block 3 (.seq (.region true c19r13 [2,6,7,8,10,31,32,33]) (.seq (.region true c19r14 [2,6,7,8,10,31,32,33,39]) c19k17)))
def c19r19 : List AOper := [
 oP 48 (.bin .add) [.t 33,.c (.pv none (.int .i64 1))],
 oP 33 .mv [.t 48]]
def c19b20 : ACode := (.seq (.region true c19r11 [2,6,7,8,31,32,33,34]) (.seq c19k12 (.seq c19k18 (.region true c19r19 [2,6,7,8,31,32,33]))))
def c19k21 : ACode := (.block 2 (.loop [2,6,7,8,31,32,33] c19b20))
def c19r22 : List AOper := [
 oP 50 .mv [.t 7],
 oP 51 .call [.c (.pv none (.func (.func 48))),.t 50],
 oP 49 .mv [.t 51],
 oP 52 (.extract 0) [.t 49],
 oP 53 (.extract 1) [.t 49],
 oP 11 aZ [],
 ⟨none,(.store (some 4)),[.t 11,.t 52],none⟩,
 oP 12 .mv [.t 53]]
def c19r23 : List AOper := [
 oP 54 .mv [.t 12],
 oP 55 (.bin .neq) [.t 54,.c (.pv none (.int .i64 0))]]
def c19r24 : List AOper := [
 oP 2 (.nilsl (some 4)) [],
 oP 3 .mv [.c (.pv none (.int .i64 2))]]
def c19k25 : ACode := (.cond (.t 55) (.seq (.region true c19r24 [2,3]) .ret) .skip)
def c19r26 : List AOper := [
 oP 56 .mv [.t 2],
 oP 57 (.load (some 4)) [.t 11],
 oP 58 .call [.c (.pv none (.func (.func 29))),.t 57],
 oP 59 (.bslice (some 4)) [.t 58],
 oP 60 (.append (some 4)) [.t 56,.t 59],
 oP 2 .mv [.t 60]]
def c19r27 : List AOper := [
 oP 61 .mv [.t 8],
 oP 4 .mv [.t 61]]
def c19k28 : ACode := (.block 1 (.seq (.region true c19r7 [2,4,5]) (.seq (.region true c19r8 [2,4,6]) (.seq (.region true c19r9 [2,4,6,7,8]) (.seq (.seq (.region true c19r10 [2,6,7,8,31,32,33]) c19k21) (.seq (.region true c19r22 [2,8,11,12]) (.seq (.seq (.region true c19r23 [2,8,11,55]) c19k25) (.seq (.region true c19r26 [2,8]) (.region true c19r27 [2,4])))))))))
def c19b29 : ACode := (.seq (.seq (.region true c19r5 [2,4,23]) c19k6) c19k28)
def c19k30 : ACode := (.block 0 (.loop [2,4] c19b29))
def c19r31 : List AOper := [
 oP 62 .mv [.t 2],
 oP 2 .mv [.t 62],
 oP 3 .mv [.c (.pv none (.int .i64 0))]]
def c19 : ACode := (.seq (.region true c19r0 [0,2]) (.seq (.region true c19r1 [2,3,4]) (.seq (.seq (.region true c19r2 [2,3,4,19]) c19k4) (.seq c19k30 (.seq (.region true c19r31 [2,3]) .ret)))))
def g19 : AFn := ⟨1,[(2,none),(3,none)],c19,false,[],[],none⟩
theorem tr19 : trFn Try.prog false 19 Try.f19 = some g19 := by kernel_rfl
def c21r0 : List AOper := [
 oP 1 (.box (some 4)) [.t 0],
 oP 2 aZ []]
def c21r1 : List AOper := [
 oP 3 (.load (some 4)) [.t 1],
 oP 4 .call [.c (.pv none (.func (.func 16))),.t 3],
 oP 5 .not [.t 4]]
def c21r2 : List AOper := [
 oP 6 (bZ []) [],
 ⟨none,(.store (some 4)),[.t 2,.t 6],none⟩]
def c21k3 : ACode := (.cond (.t 5) (.seq (.region true c21r2 [2]) .ret) .skip)
def c21r4 : List AOper := [
 oP 7 (.load (some 4)) [.t 1],
 oP 8 .call [.c (.pv none (.func (.func 49))),.t 7],
 oP 9 .call [.c (.pv none (.func (.func 29))),.t 8],
 ⟨none,(.store (some 4)),[.t 2,.t 9],none⟩]
def c21 : ACode := (.seq (.region true c21r0 [1,2]) (.seq (.seq (.region true c21r1 [1,2,5]) c21k3) (.seq (.region true c21r4 [2]) .ret)))
def g21 : AFn := ⟨1,[(2,some (some 4))],c21,false,[],[],none⟩
theorem tr21 : trFn Try.prog false 21 Try.f21 = some g21 := by kernel_rfl
def c22r0 : List AOper := [
 oP 2 (.box (some 4)) [.t 0],
 oP 3 (.box (some 4)) [.t 1],
 oP 4 aZ []]
def c22r1 : List AOper := [
 oP 11 (.load (some 4)) [.t 2],
 oP 12 .call [.c (.pv none (.func (.func 16))),.t 11],
 oP 13 .not [.t 12],
 oP 14 .mv [.t 13],
 ⟨some 15,(.load (some 4)),[.t 3],some (14,false)⟩,
 ⟨some 16,.call,[.c (.pv none (.func (.func 16))),.t 15],some (14,false)⟩,
 ⟨some 17,.not,[.t 16],some (14,false)⟩,
 oP 18 .pick [.t 14,.c (.pv none (.bool true)),.t 17]]
def c22r2 : List AOper := [
 oP 19 (bZ []) [],
 ⟨none,(.store (some 4)),[.t 4,.t 19],none⟩]
def c22k3 : ACode := (.cond (.t 18) (.seq (.region true c22r2 [4]) .ret) .skip)
def c22r4 : List AOper := [
 oP 20 (.mkmap none) [],
 oP 5 (.alloc none (.pv none .nilmap)) [],
 ⟨none,(.store none),[.t 5,.t 20],none⟩]
def c22r5 : List AOper := [
 oP 21 (.mkfunc (.func 50) 0) [.t 5],
 oP 6 (.alloc none (.pv none .nilfunc)) [],
 ⟨none,(.store none),[.t 6,.t 21],none⟩]
def c22r6 : List AOper := [
 oP 22 (.load none) [.t 6],
 oP 23 (.load (some 4)) [.t 2],
 oP 24 .call [.t 22,.t 23]]
def c22r7 : List AOper := [
 oP 25 (.load (some 4)) [.t 3],
 oP 26 .call [.c (.pv none (.func (.func 51))),.t 25]]
def c22r8 : List AOper := [
 oP 8 (.nilsl (some 4)) []]
def c22r9 : List AOper := [
 oP 32 (.load (some 4)) [.t 3],
 oP 33 .call [.c (.pv none (.func (.func 17))),.t 32],
 oP 34 .len [.t 33],
 oP 35 .mv [.c (.pv none (.int .i64 0))]]
def c22r10 : List AOper := [
 oP 36 (.bin .lss) [.t 35,.t 34]]
def c22k11 : ACode := (.cond (.t 36) .skip (.exit 2))
def c22r12 : List AOper := [
 oP 37 (.iaddr none) [.t 33,.t 35],
 oP 38 (.load none) [.t 37],
 oP 10 .mv [.t 38]]
def c22r13 : List AOper := [
 oP 39 (.load none) [.t 5],
 oP 40 .mv [.t 10],
 oP 41 (.lookup false none (.pv none (.bool false)) false) [.t 39,.t 40],
 oP 42 .not [.t 41]]
def c22r14 : List AOper := [
 oP 43 .mv [.t 8],
 oP 44 .mv [.t 10],
 oP 45 .call [.c (.pv none (.func (.func 33))),.t 44],
 oP 46 (.bslice (some 4)) [.t 45],
 oP 47 (.append (some 4)) [.t 43,.t 46],
 oP 8 .mv [.t 47]]
def c22k15 : ACode := (.cond (.t 42) (.region true c22r14 [4,5,8,33,34,35]) .skip)
def c22k16 : ACode := (.block 3 (.seq (.region true c22r12 [4,5,8,10,33,34,35]) (.seq (.region true c22r13 [4,5,8,10,33,34,35,42]) c22k15)))
def c22r17 : List AOper := [
 oP 48 (.bin .add) [.t 35,.c (.pv none (.int .i64 1))],
 oP 35 .mv [.t 48]]
def c22b18 : ACode := (.seq (.region true c22r10 [4,5,8,33,34,35,36]) (.seq c22k11 (.seq c22k16 (.region true c22r17 [4,5,8,33,34,35]))))
def c22k19 : ACode := (.block 2 (.loop [4,5,8,33,34,35] c22b18))
def c22r20 : List AOper := [
 oP 49 .mv [.t 8],
 oP 50 .call [.c (.pv none (.func (.func 28))),.t 49],
 ⟨none,(.store (some 4)),[.t 4,.t 50],none⟩]
def c22r21 : List AOper := [
 oP 51 (.load (some 4)) [.t 4],
 oP 52 .call [.c (.pv none (.func (.func 16))),.t 51],
 oP 53 .not [.t 52]]
def c22r22 : List AOper := [
 oP 54 (bZ []) [],
 ⟨none,(.store (some 4)),[.t 4,.t 54],none⟩]
def c22k23 : ACode := (.cond (.t 53) (.seq (.region true c22r22 [4]) .ret) .skip)
def c22r24 : List AOper := [
 oP 55 (.load (some 4)) [.t 4],
 ⟨none,(.store (some 4)),[.t 4,.t 55],none⟩]
def c22p25 : ACode := (.seq (.region true c22r8 [3,4,5,8]) (.seq (.region true c22r9 [4,5,8,33,34,35]) (.seq c22k19 (.seq (.region true c22r20 [4]) (.seq (.region true c22r21 [4,53]) (.seq c22k23 (.seq (.region true c22r24 [4]) (.seq .ret .skip))))))))
def c22r26 : List AOper := [
 oP 7 aZ [],
 ⟨none,(.store (some 4)),[.t 7,.t 27],none⟩]
def c22r27 : List AOper := [
 oP 29 (.load none) [.t 6],
 oP 30 (.load (some 4)) [.t 7],
 oP 31 .call [.t 29,.t 30]]
def c22k28 : ACode := (.block 1 (.region true c22r27 []))
def c22q29 : ACode := c22k28
def c22 : ACode := (.seq (.region true c22r0 [2,3,4]) (.seq (.region true c22r1 [2,3,4,18]) (.seq c22k3 (.seq (.region true c22r4 [2,3,4,5]) (.seq (.region true c22r5 [2,3,4,5,6]) (.seq (.region true c22r6 [3,4,5,6]) (.seq (.region true c22r7 [3,4,5,6,26]) .skip)))))))
def g22 : AFn := ⟨2,[(4,some (some 4))],c22,false,[(.range 22 (.t 26) [27,28] [6],c22p25)],[⟨[27,28],(.region true c22r26 [6,7]),c22q29⟩],none⟩
theorem tr22 : trFn Try.prog false 22 Try.f22 = some g22 := by kernel_rfl
def c23r0 : List AOper := [
 oP 4 .mv [.c (.pv none (.bool false))]]
def c23r1 : List AOper := [
 oP 5 .mv [.c (.pv none (.int .i64 0))]]
def c23r2 : List AOper := [
 oP 6 .mv [.t 5],
 oP 7 .mv [.t 0],
 oP 8 .len [.t 7],
 oP 9 (.bin .lss) [.t 6,.t 8]]
def c23k3 : ACode := (.cond (.t 9) .skip (.exit 0))
def c23r4 : List AOper := [
 oP 12 .mv [.t 0],
 oP 13 .mv [.t 5],
 oP 14 (.iaddr none) [.t 12,.t 13],
 oP 15 (.load none) [.t 14],
 oP 16 .mv [.t 1],
 oP 17 (.bin .eql) [.t 15,.t 16]]
def c23r5 : List AOper := [
 oP 4 .mv [.c (.pv none (.bool true))]]
def c23k6 : ACode := (.cond (.t 17) (.seq (.region true c23r5 [4]) .ret) .skip)
def c23k7 : ACode := (.block 1 (.seq (.region true c23r4 [0,1,5,17]) c23k6))
def c23r8 : List AOper := [
 oP 10 .mv [.t 5],
 oP 11 (.bin .add) [.t 10,.c (.pv none (.int .i64 1))],
 oP 5 .mv [.t 11]]
def c23b9 : ACode := (.seq (.seq (.region true c23r2 [0,1,5,9]) c23k3) (.seq c23k7 (.region true c23r8 [0,1,5])))
def c23k10 : ACode := (.block 0 (.loop [0,1,5] c23b9))
def c23r11 : List AOper := [
 oP 4 .mv [.c (.pv none (.bool false))]]
def c23 : ACode := (.seq (.region true c23r0 [0,1]) (.seq (.seq (.region true c23r1 [0,1,5]) c23k10) (.seq (.region true c23r11 [4]) .ret)))
def g23 : AFn := ⟨2,[(4,none)],c23,false,[],[],none⟩
theorem tr23 : trFn Try.prog false 23 Try.f23 = some g23 := by kernel_rfl
def c24r0 : List AOper := [
 oP 4 .mv [.c (.pv none (.bool false))]]
def c24r1 : List AOper := [
 oP 5 .mv [.t 1],
 oP 6 (.bin .eql) [.t 5,.c (.pv none (.int .i64 3))],
 oP 7 .mv [.t 6],
 ⟨some 8,.mv,[.t 0],some (7,true)⟩,
 ⟨some 9,(.bin .eql),[.t 8,.c (.pv none (.str [36,98,97,103]))],some (7,true)⟩,
 ⟨some 10,.mv,[.t 9],some (7,true)⟩,
 ⟨some 11,.mv,[.t 0],some (10,false)⟩,
 ⟨some 12,(.bin .eql),[.t 11,.c (.pv none (.str [36,115,101,116]))],some (10,false)⟩,
 ⟨some 13,.pick,[.t 10,.c (.pv none (.bool true)),.t 12],some (7,true)⟩,
 oP 14 .pick [.t 7,.t 13,.c (.pv none (.bool false))],
 oP 4 .mv [.t 14]]
def c24 : ACode := (.seq (.region true c24r0 [0,1]) (.seq (.region true c24r1 [4]) .ret))
def g24 : AFn := ⟨2,[(4,none)],c24,false,[],[],none⟩
theorem tr24 : trFn Try.prog false 24 Try.f24 = some g24 := by kernel_rfl
def c25r0 : List AOper := [
 oP 1 (.box (some 4)) [.t 0],
 oP 2 (.nilsl (some 4)) [],
 oP 3 aZ [],
 oP 4 .mv [.c (.pv none (.bool false))]]
def c25r1 : List AOper := [
 oP 8 (.load (some 4)) [.t 1],
 oP 9 .call [.c (.pv none (.func (.func 52))),.t 8],
 oP 7 .mv [.t 9],
 oP 10 (.extract 0) [.t 7],
 oP 11 (.extract 1) [.t 7],
 oP 12 (.extract 2) [.t 7],
 oP 2 .mv [.t 10],
 ⟨none,(.store (some 4)),[.t 3,.t 11],none⟩,
 oP 4 .mv [.t 12]]
def c25r2 : List AOper := [
 oP 13 .mv [.t 4],
 oP 14 .not [.t 13]]
def c25r3 : List AOper := [
 oP 15 (.load (some 4)) [.t 3],
 oP 2 (.nilsl (some 4)) [],
 ⟨none,(.store (some 4)),[.t 3,.t 15],none⟩,
 oP 4 .mv [.c (.pv none (.bool false))]]
def c25k4 : ACode := (.cond (.t 14) (.seq (.region true c25r3 [2,3,4]) .ret) .skip)
def c25r5 : List AOper := [
 oP 16 .mv [.t 2],
 oP 17 .len [.t 16],
 oP 18 .mv [.c (.pv none (.int .i64 0))]]
def c25r6 : List AOper := [
 oP 19 (.bin .lss) [.t 18,.t 17]]
def c25k7 : ACode := (.cond (.t 19) .skip (.exit 0))
def c25r8 : List AOper := [
 oP 20 (.iaddr (some 4)) [.t 16,.t 18],
 oP 21 (.load (some 4)) [.t 20],
 oP 6 aZ [],
 ⟨none,(.store (some 4)),[.t 6,.t 21],none⟩]
def c25r9 : List AOper := [
 oP 22 (.faddr 0) [.t 6],
 oP 23 (.load none) [.t 22],
 oP 24 (.bin .eql) [.t 23,.c (.pv none (.int .i64 0))]]
def c25r10 : List AOper := [
 oP 25 .call [.c (.pv none (.func (.func 53)))],
 oP 2 (.nilsl (some 4)) [],
 ⟨none,(.store (some 4)),[.t 3,.t 25],none⟩,
 oP 4 .mv [.c (.pv none (.bool false))]]
def c25k11 : ACode := (.cond (.t 24) (.seq (.region true c25r10 [2,3,4]) .ret) .skip)
def c25r12 : List AOper := [
 oP 26 (.load (some 4)) [.t 6],
 oP 27 .call [.c (.pv none (.func (.func 54))),.t 26,.c (.pv none (.str [45])),.c (.pv none (.int .i64 2))],
 oP 28 .not [.t 27]]
def c25r13 : List AOper := [
 oP 29 (.load (some 4)) [.t 6],
 oP 30 .call [.c (.pv none (.func (.func 55))),.c (.pv none (.str [112,97,105,114])),.t 29],
 oP 2 (.nilsl (some 4)) [],
 ⟨none,(.store (some 4)),[.t 3,.t 30],none⟩,
 oP 4 .mv [.c (.pv none (.bool false))]]
def c25k14 : ACode := (.cond (.t 28) (.seq (.region true c25r13 [2,3,4]) .ret) .skip)
def c25k15 : ACode := (.block 1 (.seq (.region true c25r8 [2,3,6,16,17,18]) (.seq (.seq (.region true c25r9 [2,3,6,16,17,18,24]) c25k11) (.seq (.region true c25r12 [2,3,6,16,17,18,28]) c25k14))))
def c25r16 : List AOper := [
 oP 31 (.bin .add) [.t 18,.c (.pv none (.int .i64 1))],
 oP 18 .mv [.t 31]]
def c25b17 : ACode := (.seq (.region true c25r6 [2,3,16,17,18,19]) (.seq c25k7 (.seq c25k15 (.region true c25r16 [2,3,16,17,18]))))
def c25k18 : ACode := (.block 0 (.loop [2,3,16,17,18] c25b17))
def c25r19 : List AOper := [
 oP 32 .mv [.t 2],
 oP 33 (bZ []) [],
 oP 2 .mv [.t 32],
 ⟨none,(.store (some 4)),[.t 3,.t 33],none⟩,
 oP 4 .mv [.c (.pv none (.bool true))]]
def c25 : ACode := (.seq (.region true c25r0 [1,3]) (.seq (.region true c25r1 [2,3,4]) (.seq (.seq (.region true c25r2 [2,3,14]) c25k4) (.seq (.seq (.region true c25r5 [2,3,16,17,18]) c25k18) (.seq (.region true c25r19 [2,3,4]) .ret)))))
def g25 : AFn := ⟨1,[(2,none),(3,some (some 4)),(4,none)],c25,false,[],[],none⟩
theorem tr25 : trFn Try.prog false 25 Try.f25 = some g25 := by kernel_rfl
def c26r0 : List AOper := [
 oP 0 (.nilsl (some 2)) []]
def c26r1 : List AOper := [
 oP 1 (.build [(none,(.pv none (.str []))),(none,(.pv none .nilfunc))] [0,1]) [.c (.pv none (.str [36,98,97,103])),.c (.pv none (.func (.func 56)))],
 oP 2 (.build [(none,(.pv none (.str []))),(none,(.pv none .nilfunc))] [0,1]) [.c (.pv none (.str [36,115,101,116])),.c (.pv none (.func (.func 57)))],
 oP 3 (.bslice (some 2)) [.t 1,.t 2],
 oP 0 .mv [.t 3]]
def c26 : ACode := (.seq (.region true c26r0 []) (.seq (.region true c26r1 [0]) .ret))
def g26 : AFn := ⟨0,[(0,none)],c26,false,[],[],none⟩
theorem tr26 : trFn Try.prog false 26 Try.f26 = some g26 := by kernel_rfl
def c27r0 : List AOper := [
 oP 4 aZ []]
def c27r1 : List AOper := [
 oP 5 .mv [.t 0],
 oP 6 .mv [.t 1],
 oP 7 (bZ [0,2,3]) [.c (.pv none (.int .i64 3)),.t 5,.t 6],
 ⟨none,(.store (some 4)),[.t 4,.t 7],none⟩]
def c27 : ACode := (.seq (.region true c27r0 [0,1,4]) (.seq (.region true c27r1 [4]) .ret))
def g27 : AFn := ⟨2,[(4,some (some 4))],c27,false,[],[],none⟩
theorem tr27 : trFn Try.prog false 27 Try.f27 = some g27 := by kernel_rfl
def c28r0 : List AOper := [
 oP 2 aZ []]
def c28r1 : List AOper := [
 oP 5 (bZ [0,2]) [.c (.pv none (.int .i64 2)),.c (.pv none (.str [91,93]))],
 oP 3 aZ [],
 ⟨none,(.store (some 4)),[.t 3,.t 5],none⟩]
def c28r2 : List AOper := [
 oP 6 .mv [.t 0],
 oP 7 .len [.t 6],
 oP 8 (.bin .sub) [.t 7,.c (.pv none (.int .i64 1))],
 oP 4 .mv [.t 8]]
def c28r3 : List AOper := [
 oP 9 .mv [.t 4],
 oP 10 (.bin .geq) [.t 9,.c (.pv none (.int .i64 0))]]
def c28k4 : ACode := (.cond (.t 10) .skip (.exit 0))
def c28r5 : List AOper := [
 oP 13 .mv [.t 0],
 oP 14 .mv [.t 4],
 oP 15 (.iaddr (some 4)) [.t 13,.t 14],
 oP 16 (.load (some 4)) [.t 15],
 oP 17 (.load (some 4)) [.t 3],
 oP 18 (.bslice (some 4)) [.t 16,.t 17],
 oP 19 .call [.c (.pv none (.func (.func 27))),.c (.pv none (.str [46])),.t 18],
 ⟨none,(.store (some 4)),[.t 3,.t 19],none⟩]
def c28k6 : ACode := (.block 1 (.region true c28r5 [0,2,3,4]))
def c28r7 : List AOper := [
 oP 11 .mv [.t 4],
 oP 12 (.bin .sub) [.t 11,.c (.pv none (.int .i64 1))],
 oP 4 .mv [.t 12]]
def c28b8 : ACode := (.seq (.seq (.region true c28r3 [0,2,3,4,10]) c28k4) (.seq c28k6 (.region true c28r7 [0,2,3,4])))
def c28k9 : ACode := (.block 0 (.loop [0,2,3,4] c28b8))
def c28r10 : List AOper := [
 oP 20 (.load (some 4)) [.t 3],
 ⟨none,(.store (some 4)),[.t 2,.t 20],none⟩]
def c28 : ACode := (.seq (.region true c28r0 [0,2]) (.seq (.region true c28r1 [0,2,3]) (.seq (.seq (.region true c28r2 [0,2,3,4]) c28k9) (.seq (.region true c28r10 [2]) .ret))))
def g28 : AFn := ⟨1,[(2,some (some 4))],c28,false,[],[],none⟩
theorem tr28 : trFn Try.prog false 28 Try.f28 = some g28 := by kernel_rfl
def c29r0 : List AOper := [
 oP 1 (.box (some 4)) [.t 0],
 oP 2 aZ []]
def c29r1 : List AOper := [
 oP 3 (.load (some 4)) [.t 1],
 oP 4 .call [.c (.pv none (.func (.func 16))),.t 3],
 oP 5 .not [.t 4]]
def c29r2 : List AOper := [
 oP 6 (bZ []) [],
 ⟨none,(.store (some 4)),[.t 2,.t 6],none⟩]
def c29k3 : ACode := (.cond (.t 5) (.seq (.region true c29r2 [2]) .ret) .skip)
def c29r4 : List AOper := [
 oP 7 (.load (some 4)) [.t 1],
 oP 8 .call [.c (.pv none (.func (.func 30))),.t 7,.c (.pv none (.func (.func 58)))],
 ⟨none,(.store (some 4)),[.t 2,.t 8],none⟩]
def c29 : ACode := (.seq (.region true c29r0 [1,2]) (.seq (.seq (.region true c29r1 [1,2,5]) c29k3) (.seq (.region true c29r4 [2]) .ret)))
def g29 : AFn := ⟨1,[(2,some (some 4))],c29,false,[],[],none⟩
theorem tr29 : trFn Try.prog false 29 Try.f29 = some g29 := by kernel_rfl
def c30r0 : List AOper := [
 oP 2 (.box (some 4)) [.t 0],
 oP 4 aZ []]
def c30r1 : List AOper := [
 oP 8 (.faddr 0) [.t 2],
 oP 9 (.load none) [.t 8],
 oP 10 (.bin .eql) [.t 9,.c (.pv none (.int .i64 0))]]
def c30r2 : List AOper := [
 oP 11 .mv [.t 1],
 oP 12 (.load (some 4)) [.t 2],
 oP 13 .call [.t 11,.t 12],
 ⟨none,(.store (some 4)),[.t 4,.t 13],none⟩]
def c30k3 : ACode := (.cond (.t 10) (.seq (.region true c30r2 [4]) .ret) .skip)
def c30r4 : List AOper := [
 oP 14 (.faddr 0) [.t 2],
 oP 15 (.load none) [.t 14],
 oP 16 (.faddr 1) [.t 2],
 oP 17 (.load none) [.t 16],
 oP 18 (.faddr 2) [.t 2],
 oP 19 (.load none) [.t 18],
 oP 20 (bZ [0,1,2]) [.t 15,.t 17,.t 19],
 oP 5 aZ [],
 ⟨none,(.store (some 4)),[.t 5,.t 20],none⟩]
def c30r5 : List AOper := [
 oP 21 (.faddr 3) [.t 2],
 oP 22 (.load none) [.t 21],
 oP 23 .len [.t 22],
 oP 24 .mv [.c (.pv none (.int .i64 0))]]
def c30r6 : List AOper := [
 oP 25 (.bin .lss) [.t 24,.t 23]]
def c30k7 : ACode := (.cond (.t 25) .skip (.exit 0))
def c30r8 : List AOper := [
 oP 26 (.iaddr (some 4)) [.t 22,.t 24],
 oP 27 (.load (some 4)) [.t 26],
 oP 7 aZ [],
 ⟨none,(.store (some 4)),[.t 7,.t 27],none⟩]
def c30r9 : List AOper := [
 oP 28 (.faddr 3) [.t 5],
 oP 29 (.load none) [.t 28],
 oP 30 (.load (some 4)) [.t 7],
 oP 31 .mv [.t 1],
 oP 32 (.calln 1) [.t 28,.c (.pv none (.func (.func 30))),.t 30,.t 31],
 oP 33 (.bslicen (some 4) 1) [.t 28,.t 32],
 oP 34 (.append (some 4)) [.t 29,.t 33],
 oP 35 (.faddr 3) [.t 5],
 ⟨none,(.store none),[.t 35,.t 34],none⟩]
def c30k10 : ACode := (.block 1 (.seq (.region true c30r8 [1,4,5,7,22,23,24]) (.region false c30r9 [1,4,5,22,23,24])))
def c30r11 : List AOper := [
 oP 36 (.bin .add) [.t 24,.c (.pv none (.int .i64 1))],
 oP 24 .mv [.t 36]]
def c30b12 : ACode := (.seq (.region true c30r6 [1,4,5,22,23,24,25]) (.seq c30k7 (.seq c30k10 (.region true c30r11 [1,4,5,22,23,24]))))
def c30k13 : ACode := (.block 0 (.loop [1,4,5,22,23,24] c30b12))
def c30r14 : List AOper := [
 oP 37 (.load (some 4)) [.t 5],
 ⟨none,(.store (some 4)),[.t 4,.t 37],none⟩]
def c30 : ACode := (.seq (.region true c30r0 [1,2,4]) (.seq (.seq (.region true c30r1 [1,2,4,10]) c30k3) (.seq (.region true c30r4 [1,2,4,5]) (.seq (.seq (.region true c30r5 [1,4,5,22,23,24]) c30k13) (.seq (.region true c30r14 [4]) .ret)))))
def g30 : AFn := ⟨2,[(4,some (some 4))],c30,true,[],[],none⟩
theorem tr30 : trFn Try.prog true 30 Try.f30 = some g30 := by kernel_rfl
def c31r0 : List AOper := [
 oP 2 (.box (some 4)) [.t 0],
 oP 3 aZ []]
def c31r1 : List AOper := [
 oP 7 (.load none) [.t 1],
 oP 8 (.faddr 1) [.t 2],
 oP 9 (.load none) [.t 8],
 oP 10 (.lookup false none (.pv none (.int .i64 0)) true) [.t 7,.t 9],
 oP 6 .mv [.t 10],
 oP 11 (.extract 0) [.t 6],
 oP 12 (.extract 1) [.t 6],
 oP 4 .mv [.t 11],
 oP 5 .mv [.t 12]]
def c31r2 : List AOper := [
 oP 13 .mv [.t 5],
 oP 14 .not [.t 13]]
def c31r3 : List AOper := [
 oP 15 (.load none) [.t 1],
 oP 16 .mlen [.t 15],
 oP 4 .mv [.t 16]]
def c31r4 : List AOper := [
 oP 17 (.load none) [.t 1],
 oP 18 (.faddr 1) [.t 2],
 oP 19 (.load none) [.t 18],
 oP 20 .mv [.t 4],
 ⟨none,(.mapset false none),[.t 17,.t 19,.t 20],none⟩]
def c31k5 : ACode := (.cond (.t 14) (.seq (.region true c31r3 [1,2,3,4]) (.region true c31r4 [3,4])) .skip)
def c31r6 : List AOper := [
 oP 21 .mv [.t 4],
 oP 22 (bZ [1]) [.t 21],
 ⟨none,(.store (some 4)),[.t 3,.t 22],none⟩]
def c31 : ACode := (.seq (.region true c31r0 [1,2,3]) (.seq (.region true c31r1 [1,2,3,4,5]) (.seq (.seq (.region true c31r2 [1,2,3,4,14]) c31k5) (.seq (.region true c31r6 [3]) .ret))))
def g31 : AFn := ⟨2,[(3,some (some 4))],c31,true,[],[],none⟩
theorem tr31 : trFn Try.prog true 31 Try.f31 = some g31 := by kernel_rfl
def c32r0 : List AOper := [
 oP 2 aZ []]
def c32r1 : List AOper := [
 oP 3 .mv [.t 0],
 oP 4 (bZ [0,2]) [.c (.pv none (.int .i64 2)),.t 3],
 oP 5 .call [.c (.pv none (.func (.func 29))),.t 4],
 ⟨none,(.store (some 4)),[.t 2,.t 5],none⟩]
def c32 : ACode := (.seq (.region true c32r0 [0,2]) (.seq (.region true c32r1 [2]) .ret))
def g32 : AFn := ⟨1,[(2,some (some 4))],c32,false,[],[],none⟩
theorem tr32 : trFn Try.prog false 32 Try.f32 = some g32 := by kernel_rfl
def c33r0 : List AOper := [
 oP 2 aZ []]
def c33r1 : List AOper := [
 oP 3 .mv [.t 0],
 oP 4 .call [.c (.pv none (.func (.func 59))),.t 3],
 oP 5 .not [.t 4]]
def c33r2 : List AOper := [
 oP 6 (bZ []) [],
 ⟨none,(.store (some 4)),[.t 2,.t 6],none⟩]
def c33k3 : ACode := (.cond (.t 5) (.seq (.region true c33r2 [2]) .ret) .skip)
def c33r4 : List AOper := [
 oP 7 .mv [.t 0],
 oP 8 (bZ [1]) [.t 7],
 ⟨none,(.store (some 4)),[.t 2,.t 8],none⟩]
def c33 : ACode := (.seq (.region true c33r0 [0,2]) (.seq (.seq (.region true c33r1 [0,2,5]) c33k3) (.seq (.region true c33r4 [2]) .ret)))
def g33 : AFn := ⟨1,[(2,some (some 4))],c33,false,[],[],none⟩
theorem tr33 : trFn Try.prog false 33 Try.f33 = some g33 := by kernel_rfl
def c34r0 : List AOper := [
 oP 2 aZ []]
def c34r1 : List AOper := [
 oP 3 .mv [.t 0],
 oP 4 (bZ [0,1]) [.c (.pv none (.int .i64 1)),.t 3],
 ⟨none,(.store (some 4)),[.t 2,.t 4],none⟩]
def c34 : ACode := (.seq (.region true c34r0 [0,2]) (.seq (.region true c34r1 [2]) .ret))
def g34 : AFn := ⟨1,[(2,some (some 4))],c34,false,[],[],none⟩
theorem tr34 : trFn Try.prog false 34 Try.f34 = some g34 := by kernel_rfl
def c35r0 : List AOper := [
 oP 2 aZ []]
def c35r1 : List AOper := [
 oP 3 .mv [.t 0],
 oP 4 .call [.c (.pv none (.func (.func 32))),.c (.pv none (.str [91,93]))],
 oP 5 .call [.c (.pv none (.func (.func 60))),.t 3,.t 4],
 ⟨none,(.store (some 4)),[.t 2,.t 5],none⟩]
def c35 : ACode := (.seq (.region true c35r0 [0,2]) (.seq (.region true c35r1 [2]) .ret))
def g35 : AFn := ⟨1,[(2,some (some 4))],c35,false,[],[],none⟩
theorem tr35 : trFn Try.prog false 35 Try.f35 = some g35 := by kernel_rfl
def c36r0 : List AOper := [
 oP 2 (.box (some 4)) [.t 0],
 oP 3 (.box (some 4)) [.t 1],
 oP 4 .mv [.c (.pv none (.bool false))]]
def c36r1 : List AOper := [
 oP 5 (.load (some 4)) [.t 2],
 oP 6 .call [.c (.pv none (.func (.func 61))),.t 5],
 oP 7 .mv [.t 6],
 ⟨some 8,(.load (some 4)),[.t 3],some (7,true)⟩,
 ⟨some 9,.call,[.c (.pv none (.func (.func 61))),.t 8],some (7,true)⟩,
 oP 10 .pick [.t 7,.t 9,.c (.pv none (.bool false))],
 oP 11 .mv [.t 10],
 ⟨some 12,(.load (some 4)),[.t 2],some (11,true)⟩,
 ⟨some 13,(.load (some 4)),[.t 3],some (11,true)⟩,
 ⟨some 14,.call,[.c (.pv none (.func (.func 62))),.t 12,.t 13],some (11,true)⟩,
 oP 15 .pick [.t 11,.t 14,.c (.pv none (.bool false))],
 oP 4 .mv [.t 15]]
def c36 : ACode := (.seq (.region true c36r0 [2,3]) (.seq (.region true c36r1 [4]) .ret))
def g36 : AFn := ⟨2,[(4,none)],c36,false,[],[],none⟩
theorem tr36 : trFn Try.prog false 36 Try.f36 = some g36 := by kernel_rfl
def c37r0 : List AOper := [
 oP 2 (.nilsl (some 4)) [],
 oP 3 .mv [.c (.pv none (.int .i64 0))]]
def c37r1 : List AOper := [
 oP 4 .mv [.t 0],
 oP 5 .call [.c (.pv none (.func (.func 63))),.t 4],
 oP 6 .not [.t 5]]
def c37r2 : List AOper := [
 oP 2 (.nilsl (some 4)) [],
 oP 3 .mv [.c (.pv none (.int .i64 1))]]
def c37k3 : ACode := (.cond (.t 6) (.seq (.region true c37r2 [2,3]) .ret) .skip)
def c37r4 : List AOper := [
 oP 7 .mv [.t 0],
 oP 8 .call [.c (.pv none (.func (.func 64))),.t 7,.c (.pv none (.func (.func 40)))],
 oP 2 .mv [.t 8],
 oP 3 .mv [.c (.pv none (.int .i64 0))]]
def c37 : ACode := (.seq (.region true c37r0 [0]) (.seq (.seq (.region true c37r1 [0,6]) c37k3) (.seq (.region true c37r4 [2,3]) .ret)))
def g37 : AFn := ⟨1,[(2,none),(3,none)],c37,true,[],[],none⟩
theorem tr37 : trFn Try.prog true 37 Try.f37 = some g37 := by kernel_rfl
def c38r0 : List AOper := [
 oP 4 (.nilsl (some 4)) []]
def c38r1 : List AOper := [
 oP 8 .mv [.t 0],
 oP 9 .len [.t 8],
 oP 10 (.bin .lss) [.t 9,.c (.pv none (.int .i64 2))]]
def c38r2 : List AOper := [
 oP 11 .mv [.t 0],
 oP 4 .mv [.t 11]]
def c38k3 : ACode := (.cond (.t 10) (.seq (.region true c38r2 [4]) .ret) .skip)
def c38r4 : List AOper := [
 oP 5 .mv [.c (.pv none (.int .i64 1))]]
def c38r5 : List AOper := [
 oP 12 .mv [.t 5],
 oP 13 .mv [.t 0],
 oP 14 .len [.t 13],
 oP 15 (.bin .lss) [.t 12,.t 14]]
def c38k6 : ACode := (.cond (.t 15) .skip (.exit 0))
def c38r7 : List AOper := [
 oP 18 .mv [.t 1],
 oP 19 .mv [.t 0],
 oP 20 .mv [.t 5],
 oP 21 (.iaddr (some 4)) [.t 19,.t 20],
 oP 22 (.load (some 4)) [.t 21],
 oP 23 .mv [.t 0],
 oP 24 .mv [.t 5],
 oP 25 (.bin .sub) [.t 24,.c (.pv none (.int .i64 1))],
 oP 26 (.iaddr (some 4)) [.t 23,.t 25],
 oP 27 (.load (some 4)) [.t 26],
 oP 28 .call [.t 18,.t 22,.t 27]]
def c38r8 : List AOper := [
 oP 29 .mv [.t 0],
 oP 30 .mv [.t 5],
 oP 31 (.slice (some 4) true false) [.t 29,.t 30],
 oP 6 .mv [.t 31]]
def c38r9 : List AOper := [
 oP 7 .mv [.c (.pv none (.int .i64 1))]]
def c38r10 : List AOper := [
 oP 32 .mv [.t 7],
 oP 33 .mv [.t 6],
 oP 34 .len [.t 33],
 oP 35 (.bin .lss) [.t 32,.t 34]]
def c38k11 : ACode := (.cond (.t 35) .skip (.exit 2))
def c38r12 : List AOper := [
 oP 38 .mv [.t 1],
 oP 39 .mv [.t 6],
 oP 40 .mv [.t 7],
 oP 41 (.iaddr (some 4)) [.t 39,.t 40],
 oP 42 (.load (some 4)) [.t 41],
 oP 43 .mv [.t 6],
 oP 44 .mv [.t 7],
 oP 45 (.bin .sub) [.t 44,.c (.pv none (.int .i64 1))],
 oP 46 (.iaddr (some 4)) [.t 43,.t 45],
 oP 47 (.load (some 4)) [.t 46],
 oP 48 .call [.t 38,.t 42,.t 47],
 oP 49 .not [.t 48]]
def c38r13 : List AOper := [
 oP 50 .mv [.t 0],
 oP 51 .mv [.t 5],
 oP 52 .mv [.t 6],
 oP 53 .mv [.t 7],
 oP 54 (.iaddr (some 4)) [.t 52,.t 53],
 oP 55 (.load (some 4)) [.t 54],
 oP 56 (.iaddr (some 4)) [.t 50,.t 51],
 ⟨none,(.store (some 4)),[.t 56,.t 55],none⟩]
def c38r14 : List AOper := [
 oP 57 .mv [.t 5],
 oP 58 (.bin .add) [.t 57,.c (.pv none (.int .i64 1))],
 oP 5 .mv [.t 58]]
def c38k15 : ACode := (.cond (.t 49) (.seq (.region true c38r13 [0,1,5,6,7]) (.region true c38r14 [0,1,5,6,7])) .skip)
def c38k16 : ACode := (.block 3 (.seq (.region true c38r12 [0,1,5,6,7,49]) c38k15))
def c38r17 : List AOper := [
 oP 36 .mv [.t 7],
 oP 37 (.bin .add) [.t 36,.c (.pv none (.int .i64 1))],
 oP 7 .mv [.t 37]]
def c38b18 : ACode := (.seq (.seq (.region true c38r10 [0,1,5,6,7,35]) c38k11) (.seq c38k16 (.region true c38r17 [0,1,5,6,7])))
def c38k19 : ACode := (.block 2 (.loop [0,1,5,6,7] c38b18))
def c38r20 : List AOper := [
 oP 59 .mv [.t 0],
 oP 60 .mv [.t 5],
 oP 61 (.slice (some 4) true false) [.t 59,.t 60],
 ⟨none,(.clear (some 4) (.agg [(none,(.int .i64 0)),(none,(.int .i64 0)),(none,(.str [])),(none,(.sl (some 4) []))])),[.t 61],none⟩]
def c38r21 : List AOper := [
 oP 62 .mv [.t 0],
 oP 63 .mv [.t 5],
 oP 64 (.slice (some 4) false true) [.t 62,.t 63],
 oP 4 .mv [.t 64]]
def c38k22 : ACode := (.cond (.t 28) (.seq (.region true c38r8 [0,1,5,6]) (.seq (.seq (.region true c38r9 [0,1,5,6,7]) c38k19) (.seq (.region true c38r20 [0,5]) (.seq (.region true c38r21 [4]) .ret)))) .skip)
def c38k23 : ACode := (.block 1 (.seq (.region true c38r7 [0,1,5,28]) c38k22))
def c38r24 : List AOper := [
 oP 16 .mv [.t 5],
 oP 17 (.bin .add) [.t 16,.c (.pv none (.int .i64 1))],
 oP 5 .mv [.t 17]]
def c38b25 : ACode := (.seq (.seq (.region true c38r5 [0,1,5,15]) c38k6) (.seq c38k23 (.region true c38r24 [0,1,5])))
def c38k26 : ACode := (.block 0 (.loop [0,1,5] c38b25))
def c38r27 : List AOper := [
 oP 65 .mv [.t 0],
 oP 4 .mv [.t 65]]
def c38 : ACode := (.seq (.region true c38r0 [0,1]) (.seq (.seq (.region true c38r1 [0,1,10]) c38k3) (.seq (.seq (.region true c38r4 [0,1,5]) c38k26) (.seq (.region true c38r27 [4]) .ret))))
def g38 : AFn := ⟨2,[(4,none)],c38,true,[],[],none⟩
theorem tr38 : trFn Try.prog true 38 Try.f38 = some g38 := by kernel_rfl
def c39r0 : List AOper := [
 oP 2 (.box (some 4)) [.t 0],
 oP 3 (.box (some 4)) [.t 1],
 oP 4 .mv [.c (.pv none (.bool false))]]
def c39r1 : List AOper := [
 oP 5 (.load (some 4)) [.t 2],
 oP 6 (.load (some 4)) [.t 3],
 oP 7 .call [.c (.pv none (.func (.func 40))),.t 5,.t 6],
 oP 8 (.bin .eql) [.t 7,.c (.pv none (.int .i64 0))],
 oP 4 .mv [.t 8]]
def c39 : ACode := (.seq (.region true c39r0 [2,3]) (.seq (.region true c39r1 [4]) .ret))
def g39 : AFn := ⟨2,[(4,none)],c39,false,[],[],none⟩
theorem tr39 : trFn Try.prog false 39 Try.f39 = some g39 := by kernel_rfl
def c40r0 : List AOper := [
 oP 2 (.box (some 4)) [.t 0],
 oP 3 (.box (some 4)) [.t 1],
 oP 4 .mv [.c (.pv none (.int .i64 0))]]
def c40r1 : List AOper := [
 oP 12 (.build [(none,(.pv none (.int .i64 0))),(none,(.pv none (.int .i64 0))),(none,(.pv none (.int .i64 0))),(none,(.pv none (.int .i64 0)))] [0,1,2,3]) [.c (.pv none (.int .i64 0)),.c (.pv none (.int .i64 1)),.c (.pv none (.int .i64 2)),.c (.pv none (.int .i64 3))],
 oP 5 (.alloc (some 4) (.pv (some 4) (.agg [(none,(.int .i64 0)),(none,(.int .i64 0)),(none,(.int .i64 0)),(none,(.int .i64 0))]))) [],
 ⟨none,(.store (some 4)),[.t 5,.t 12],none⟩]
def c40r2 : List AOper := [
 oP 13 (.faddr 0) [.t 2],
 oP 14 (.load none) [.t 13],
 oP 15 (.iaddrA none 4) [.t 5,.t 14],
 oP 16 (.load none) [.t 15],
 oP 17 (.faddr 0) [.t 3],
 oP 18 (.load none) [.t 17],
 oP 19 (.iaddrA none 4) [.t 5,.t 18],
 oP 20 (.load none) [.t 19],
 oP 21 .call [.c (.pv none (.func (.func 65))),.t 16,.t 20],
 oP 6 .mv [.t 21]]
def c40r3 : List AOper := [
 oP 22 .mv [.t 6],
 oP 23 (.bin .neq) [.t 22,.c (.pv none (.int .i64 0))]]
def c40r4 : List AOper := [
 oP 24 .mv [.t 6],
 oP 4 .mv [.t 24]]
def c40k5 : ACode := (.cond (.t 23) (.seq (.region true c40r4 [4]) .ret) .skip)
def c40r6 : List AOper := [
 oP 25 (.faddr 0) [.t 2],
 oP 26 (.load none) [.t 25],
 oP 27 (.bin .eql) [.t 26,.c (.pv none (.int .i64 0))],
 oP 28 .mv [.t 27],
 ⟨some 29,(.faddr 0),[.t 2],some (28,false)⟩,
 ⟨some 30,(.load none),[.t 29],some (28,false)⟩,
 ⟨some 31,(.bin .eql),[.t 30,.c (.pv none (.int .i64 1))],some (28,false)⟩,
 oP 32 .pick [.t 28,.c (.pv none (.bool true)),.t 31]]
def c40r7 : List AOper := [
 oP 33 (.faddr 1) [.t 2],
 oP 34 (.load none) [.t 33],
 oP 35 (.faddr 1) [.t 3],
 oP 36 (.load none) [.t 35],
 oP 37 .call [.c (.pv none (.func (.func 66))),.t 34,.t 36],
 oP 4 .mv [.t 37]]
def c40k8 : ACode := (.cond (.t 32) (.seq (.region true c40r7 [4]) .ret) .skip)
def c40r9 : List AOper := [
 oP 38 (.faddr 3) [.t 2],
 oP 39 (.load none) [.t 38],
 oP 40 .len [.t 39],
 oP 41 (.faddr 3) [.t 3],
 oP 42 (.load none) [.t 41],
 oP 43 .len [.t 42],
 oP 44 .call [.c (.pv none (.func (.func 65))),.t 40,.t 43],
 oP 7 .mv [.t 44]]
def c40r10 : List AOper := [
 oP 45 .mv [.t 7],
 oP 46 (.bin .neq) [.t 45,.c (.pv none (.int .i64 0))]]
def c40r11 : List AOper := [
 oP 47 .mv [.t 7],
 oP 4 .mv [.t 47]]
def c40k12 : ACode := (.cond (.t 46) (.seq (.region true c40r11 [4]) .ret) .skip)
def c40r13 : List AOper := [
 oP 48 (.faddr 2) [.t 2],
 oP 49 (.load none) [.t 48],
 oP 50 (.faddr 2) [.t 3],
 oP 51 (.load none) [.t 50],
 oP 52 .call [.c (.pv none (.func (.func 67))),.t 49,.t 51],
 oP 8 .mv [.t 52]]
def c40r14 : List AOper := [
 oP 53 .mv [.t 8],
 oP 54 (.bin .neq) [.t 53,.c (.pv none (.int .i64 0))]]
def c40r15 : List AOper := [
 oP 55 .mv [.t 8],
 oP 4 .mv [.t 55]]
def c40k16 : ACode := (.cond (.t 54) (.seq (.region true c40r15 [4]) .ret) .skip)
def c40r17 : List AOper := [
 oP 56 (.faddr 3) [.t 2],
 oP 57 (.load none) [.t 56],
 oP 58 .len [.t 57],
 oP 59 .mv [.c (.pv none (.int .i64 0))]]
def c40r18 : List AOper := [
 oP 60 (.bin .lss) [.t 59,.t 58]]
def c40k19 : ACode := (.cond (.t 60) .skip (.exit 0))
def c40r20 : List AOper := [
 oP 61 .mv [.t 59],
 oP 62 (.iaddr (some 4)) [.t 57,.t 59],
 oP 63 (.load (some 4)) [.t 62],
 oP 10 aZ [],
 oP 9 .mv [.t 61],
 ⟨none,(.store (some 4)),[.t 10,.t 63],none⟩]
def c40r21 : List AOper := [
 oP 64 (.load (some 4)) [.t 10],
 oP 65 (.faddr 3) [.t 3],
 oP 66 (.load none) [.t 65],
 oP 67 .mv [.t 9],
 oP 68 (.iaddr (some 4)) [.t 66,.t 67],
 oP 69 (.load (some 4)) [.t 68],
 oP 70 .call [.c (.pv none (.func (.func 40))),.t 64,.t 69],
 oP 11 .mv [.t 70]]
def c40r22 : List AOper := [
 oP 71 .mv [.t 11],
 oP 72 (.bin .neq) [.t 71,.c (.pv none (.int .i64 0))]]
def c40r23 : List AOper := [
 oP 73 .mv [.t 11],
 oP 4 .mv [.t 73]]
def c40k24 : ACode := (.cond (.t 72) (.seq (.region true c40r23 [4]) .ret) .skip)
def c40k25 : ACode := (.block 1 (.seq (.region true c40r20 [3,9,10,57,58,59]) (.seq (.region true c40r21 [3,11,57,58,59]) (.seq (.region true c40r22 [3,11,57,58,59,72]) c40k24))))
def c40r26 : List AOper := [
 oP 74 (.bin .add) [.t 59,.c (.pv none (.int .i64 1))],
 oP 59 .mv [.t 74]]
def c40b27 : ACode := (.seq (.region true c40r18 [3,57,58,59,60]) (.seq c40k19 (.seq c40k25 (.region true c40r26 [3,57,58,59]))))
def c40k28 : ACode := (.block 0 (.loop [3,57,58,59] c40b27))
def c40r29 : List AOper := [
 oP 4 .mv [.c (.pv none (.int .i64 0))]]
def c40 : ACode := (.seq (.region true c40r0 [2,3]) (.seq (.region true c40r1 [2,3,5]) (.seq (.seq (.region true c40r2 [2,3,6]) (.seq (.region true c40r3 [2,3,6,23]) c40k5)) (.seq (.seq (.region true c40r6 [2,3,32]) c40k8) (.seq (.seq (.region true c40r9 [2,3,7]) (.seq (.region true c40r10 [2,3,7,46]) c40k12)) (.seq (.seq (.region true c40r13 [2,3,8]) (.seq (.region true c40r14 [2,3,8,54]) c40k16)) (.seq (.seq (.region true c40r17 [3,57,58,59]) c40k28) (.seq (.region true c40r29 [4]) .ret))))))))
def g40 : AFn := ⟨2,[(4,none)],c40,false,[],[],none⟩
theorem tr40 : trFn Try.prog false 40 Try.f40 = some g40 := by kernel_rfl
def c41r0 : List AOper := [
 oP 2 (.box (some 4)) [.t 0],
 oP 3 (.box (some 4)) [.t 1],
 oP 4 .mv [.c (.pv none (.bool false))]]
def c41r1 : List AOper := [
 oP 7 (.faddr 0) [.t 2],
 oP 8 (.load none) [.t 7],
 oP 9 (.faddr 0) [.t 3],
 oP 10 (.load none) [.t 9],
 oP 11 (.bin .neq) [.t 8,.t 10],
 oP 12 .mv [.t 11],
 ⟨some 13,(.faddr 1),[.t 2],some (12,false)⟩,
 ⟨some 14,(.load none),[.t 13],some (12,false)⟩,
 ⟨some 15,(.faddr 1),[.t 3],some (12,false)⟩,
 ⟨some 16,(.load none),[.t 15],some (12,false)⟩,
 ⟨some 17,(.bin .neq),[.t 14,.t 16],some (12,false)⟩,
 oP 18 .pick [.t 12,.c (.pv none (.bool true)),.t 17],
 oP 19 .mv [.t 18],
 ⟨some 20,(.faddr 2),[.t 2],some (19,false)⟩,
 ⟨some 21,(.load none),[.t 20],some (19,false)⟩,
 ⟨some 22,(.faddr 2),[.t 3],some (19,false)⟩,
 ⟨some 23,(.load none),[.t 22],some (19,false)⟩,
 ⟨some 24,(.bin .neq),[.t 21,.t 23],some (19,false)⟩,
 oP 25 .pick [.t 19,.c (.pv none (.bool true)),.t 24],
 oP 26 .mv [.t 25],
 ⟨some 27,(.faddr 3),[.t 2],some (26,false)⟩,
 ⟨some 28,(.load none),[.t 27],some (26,false)⟩,
 ⟨some 29,.len,[.t 28],some (26,false)⟩,
 ⟨some 30,(.faddr 3),[.t 3],some (26,false)⟩,
 ⟨some 31,(.load none),[.t 30],some (26,false)⟩,
 ⟨some 32,.len,[.t 31],some (26,false)⟩,
 ⟨some 33,(.bin .neq),[.t 29,.t 32],some (26,false)⟩,
 oP 34 .pick [.t 26,.c (.pv none (.bool true)),.t 33]]
def c41r2 : List AOper := [
 oP 4 .mv [.c (.pv none (.bool false))]]
def c41k3 : ACode := (.cond (.t 34) (.seq (.region true c41r2 [4]) .ret) .skip)
def c41r4 : List AOper := [
 oP 35 (.faddr 3) [.t 2],
 oP 36 (.load none) [.t 35],
 oP 37 .len [.t 36],
 oP 38 .mv [.c (.pv none (.int .i64 0))]]
def c41r5 : List AOper := [
 oP 39 (.bin .lss) [.t 38,.t 37]]
def c41k6 : ACode := (.cond (.t 39) .skip (.exit 0))
def c41r7 : List AOper := [
 oP 40 .mv [.t 38],
 oP 41 (.iaddr (some 4)) [.t 36,.t 38],
 oP 42 (.load (some 4)) [.t 41],
 oP 6 aZ [],
 oP 5 .mv [.t 40],
 ⟨none,(.store (some 4)),[.t 6,.t 42],none⟩]
def c41r8 : List AOper := [
 oP 43 (.load (some 4)) [.t 6],
 oP 44 (.faddr 3) [.t 3],
 oP 45 (.load none) [.t 44],
 oP 46 .mv [.t 5],
 oP 47 (.iaddr (some 4)) [.t 45,.t 46],
 oP 48 (.load (some 4)) [.t 47],
 oP 49 .call [.c (.pv none (.func (.func 41))),.t 43,.t 48],
 oP 50 .not [.t 49]]
def c41r9 : List AOper := [
 oP 4 .mv [.c (.pv none (.bool false))]]
def c41k10 : ACode := (.cond (.t 50) (.seq (.region true c41r9 [4]) .ret) .skip)
def c41k11 : ACode := (.block 1 (.seq (.region true c41r7 [3,5,6,36,37,38]) (.seq (.region true c41r8 [3,36,37,38,50]) c41k10)))
def c41r12 : List AOper := [
 oP 51 (.bin .add) [.t 38,.c (.pv none (.int .i64 1))],
 oP 38 .mv [.t 51]]
def c41b13 : ACode := (.seq (.region true c41r5 [3,36,37,38,39]) (.seq c41k6 (.seq c41k11 (.region true c41r12 [3,36,37,38]))))
def c41k14 : ACode := (.block 0 (.loop [3,36,37,38] c41b13))
def c41r15 : List AOper := [
 oP 4 .mv [.c (.pv none (.bool true))]]
def c41 : ACode := (.seq (.region true c41r0 [2,3]) (.seq (.seq (.region true c41r1 [2,3,34]) c41k3) (.seq (.seq (.region true c41r4 [3,36,37,38]) c41k14) (.seq (.region true c41r15 [4]) .ret))))
def g41 : AFn := ⟨2,[(4,none)],c41,false,[],[],none⟩
theorem tr41 : trFn Try.prog false 41 Try.f41 = some g41 := by kernel_rfl
def c42r0 : List AOper := [
 oP 1 (.box (some 4)) [.t 0],
 oP 2 .mv [.c (.pv none (.bool false))]]
def c42r1 : List AOper := [
 oP 3 .mv [.c (.pv none (.bool false))]]
def c42r2 : List AOper := [
 oP 5 (.faddr 0) [.t 1],
 oP 6 (.load none) [.t 5]]
def c42r3 : List AOper := [
 oP 8 (.bin .eql) [.t 6,.c (.pv none (.int .i64 0))],
 oP 7 .mv [.t 8]]
def c42r4 : List AOper := [
 oP 9 (.faddr 1) [.t 1],
 oP 10 (.load none) [.t 9],
 oP 11 (.bin .geq) [.t 10,.c (.pv none (.int .i64 0))],
 oP 12 .mv [.t 11],
 ⟨some 13,(.faddr 1),[.t 1],some (12,true)⟩,
 ⟨some 14,(.load none),[.t 13],some (12,true)⟩,
 ⟨some 15,(.bin .leq),[.t 14,.c (.pv none (.int .i64 1099511627776))],some (12,true)⟩,
 oP 16 .pick [.t 12,.t 15,.c (.pv none (.bool false))],
 oP 17 .mv [.t 16],
 ⟨some 18,(.faddr 2),[.t 1],some (17,true)⟩,
 ⟨some 19,(.load none),[.t 18],some (17,true)⟩,
 ⟨some 20,(.bin .eql),[.t 19,.c (.pv none (.str []))],some (17,true)⟩,
 oP 21 .pick [.t 17,.t 20,.c (.pv none (.bool false))],
 oP 22 .mv [.t 21],
 ⟨some 23,(.faddr 3),[.t 1],some (22,true)⟩,
 ⟨some 24,(.load none),[.t 23],some (22,true)⟩,
 ⟨some 25,.len,[.t 24],some (22,true)⟩,
 ⟨some 26,(.bin .eql),[.t 25,.c (.pv none (.int .i64 0))],some (22,true)⟩,
 oP 27 .pick [.t 22,.t 26,.c (.pv none (.bool false))],
 oP 3 .mv [.t 27]]
def c42r5 : List AOper := [
 oP 29 (.bin .eql) [.t 6,.c (.pv none (.int .i64 1))],
 oP 28 .mv [.t 29]]
def c42r6 : List AOper := [
 oP 30 (.faddr 2) [.t 1],
 oP 31 (.load none) [.t 30],
 oP 32 (.bin .eql) [.t 31,.c (.pv none (.str []))],
 oP 33 .mv [.t 32],
 ⟨some 34,(.faddr 3),[.t 1],some (33,true)⟩,
 ⟨some 35,(.load none),[.t 34],some (33,true)⟩,
 ⟨some 36,.len,[.t 35],some (33,true)⟩,
 ⟨some 37,(.bin .eql),[.t 36,.c (.pv none (.int .i64 0))],some (33,true)⟩,
 oP 38 .pick [.t 33,.t 37,.c (.pv none (.bool false))],
 oP 3 .mv [.t 38]]
def c42r7 : List AOper := [
 oP 40 (.bin .eql) [.t 6,.c (.pv none (.int .i64 2))],
 oP 39 .mv [.t 40]]
def c42r8 : List AOper := [
 oP 41 (.faddr 1) [.t 1],
 oP 42 (.load none) [.t 41],
 oP 43 (.bin .eql) [.t 42,.c (.pv none (.int .i64 0))],
 oP 44 .mv [.t 43],
 ⟨some 45,(.faddr 2),[.t 1],some (44,true)⟩,
 ⟨some 46,(.load none),[.t 45],some (44,true)⟩,
 ⟨some 47,.slen,[.t 46],some (44,true)⟩,
 ⟨some 48,(.bin .leq),[.t 47,.c (.pv none (.int .i64 100))],some (44,true)⟩,
 oP 49 .pick [.t 44,.t 48,.c (.pv none (.bool false))],
 oP 50 .mv [.t 49],
 ⟨some 51,(.faddr 3),[.t 1],some (50,true)⟩,
 ⟨some 52,(.load none),[.t 51],some (50,true)⟩,
 ⟨some 53,.len,[.t 52],some (50,true)⟩,
 ⟨some 54,(.bin .eql),[.t 53,.c (.pv none (.int .i64 0))],some (50,true)⟩,
 oP 55 .pick [.t 50,.t 54,.c (.pv none (.bool false))],
 oP 3 .mv [.t 55]]
def c42r9 : List AOper := [
 oP 57 (.bin .eql) [.t 6,.c (.pv none (.int .i64 3))],
 oP 56 .mv [.t 57]]
def c42r10 : List AOper := [
 oP 58 (.faddr 1) [.t 1],
 oP 59 (.load none) [.t 58],
 oP 60 (.bin .eql) [.t 59,.c (.pv none (.int .i64 0))],
 oP 61 .mv [.t 60],
 ⟨some 62,(.faddr 2),[.t 1],some (61,true)⟩,
 ⟨some 63,(.load none),[.t 62],some (61,true)⟩,
 ⟨some 64,.slen,[.t 63],some (61,true)⟩,
 ⟨some 65,(.bin .leq),[.t 64,.c (.pv none (.int .i64 100))],some (61,true)⟩,
 oP 66 .pick [.t 61,.t 65,.c (.pv none (.bool false))],
 oP 67 .mv [.t 66],
 ⟨some 68,(.faddr 3),[.t 1],some (67,true)⟩,
 ⟨some 69,(.load none),[.t 68],some (67,true)⟩,
 ⟨some 70,.len,[.t 69],some (67,true)⟩,
 ⟨some 71,(.bin .gtr),[.t 70,.c (.pv none (.int .i64 0))],some (67,true)⟩,
 oP 72 .pick [.t 67,.t 71,.c (.pv none (.bool false))],
 oP 73 .mv [.t 72],
 ⟨some 74,(.faddr 3),[.t 1],some (73,true)⟩,
 ⟨some 75,(.load none),[.t 74],some (73,true)⟩,
 ⟨some 76,.len,[.t 75],some (73,true)⟩,
 ⟨some 77,(.bin .leq),[.t 76,.c (.pv none (.int .i64 8))],some (73,true)⟩,
 oP 78 .pick [.t 73,.t 77,.c (.pv none (.bool false))],
 oP 3 .mv [.t 78]]
def c42k11 : ACode := (.cond (.t 56) (.region true c42r10 [1,3]) .skip)
def c42k12 : ACode := (.cond (.t 39) (.region true c42r8 [1,3]) (.seq (.region true c42r9 [1,3,56]) c42k11))
def c42k13 : ACode := (.cond (.t 28) (.region true c42r6 [1,3]) (.seq (.region true c42r7 [1,3,6,39]) c42k12))
def c42k14 : ACode := (.cond (.t 7) (.region true c42r4 [1,3]) (.seq (.region true c42r5 [1,3,6,28]) c42k13))
def c42k15 : ACode := (.block 0 (.seq (.region true c42r3 [1,3,6,7]) c42k14))
def c42r16 : List AOper := [
 oP 4 .mv [.c (.pv none (.int .i64 0))]]
def c42r17 : List AOper := [
 oP 79 .mv [.t 4],
 oP 80 (.faddr 3) [.t 1],
 oP 81 (.load none) [.t 80],
 oP 82 .len [.t 81],
 oP 83 (.bin .lss) [.t 79,.t 82],
 oP 84 .mv [.t 83],
 ⟨some 85,.mv,[.t 3],some (84,true)⟩,
 oP 86 .pick [.t 84,.t 85,.c (.pv none (.bool false))]]
def c42k18 : ACode := (.cond (.t 86) .skip (.exit 1))
def c42r19 : List AOper := [
 oP 89 (.faddr 3) [.t 1],
 oP 90 (.load none) [.t 89],
 oP 91 .mv [.t 4],
 oP 92 (.iaddr (some 4)) [.t 90,.t 91],
 oP 93 (.load (some 4)) [.t 92],
 oP 94 .call [.c (.pv none (.func (.func 42))),.t 93],
 oP 3 .mv [.t 94]]
def c42k20 : ACode := (.block 2 (.region true c42r19 [1,3,4]))
def c42r21 : List AOper := [
 oP 87 .mv [.t 4],
 oP 88 (.bin .add) [.t 87,.c (.pv none (.int .i64 1))],
 oP 4 .mv [.t 88]]
def c42b22 : ACode := (.seq (.seq (.region true c42r17 [1,3,4,86]) c42k18) (.seq c42k20 (.region true c42r21 [1,3,4])))
def c42k23 : ACode := (.block 1 (.loop [1,3,4] c42b22))
def c42r24 : List AOper := [
 oP 95 .mv [.t 3],
 oP 2 .mv [.t 95]]
def c42 : ACode := (.seq (.region true c42r0 [1]) (.seq (.region true c42r1 [1,3]) (.seq (.seq (.region true c42r2 [1,3,6]) c42k15) (.seq (.seq (.region true c42r16 [1,3,4]) c42k23) (.seq (.region true c42r24 [2]) .ret)))))
def g42 : AFn := ⟨1,[(2,none)],c42,false,[],[],none⟩
theorem tr42 : trFn Try.prog false 42 Try.f42 = some g42 := by kernel_rfl
def c43r0 : List AOper := [
 oP 3 (.box (some 4)) [.t 0],
 oP 4 aZ []]
def c43r1 : List AOper := [
 oP 5 (.load none) [.t 1],
 oP 6 (.faddr 1) [.t 3],
 oP 7 (.load none) [.t 6],
 oP 8 (.lookup false none (.pv none (.int .i64 0)) false) [.t 5,.t 7],
 oP 9 (.bin .eql) [.t 8,.c (.pv none (.int .i64 0))]]
def c43r2 : List AOper := [
 oP 10 (.load none) [.t 1],
 oP 11 (.faddr 1) [.t 3],
 oP 12 (.load none) [.t 11],
 ⟨none,(.mapset false none),[.t 10,.t 12,.c (.pv none (.int .i64 1))],none⟩]
def c43r3 : List AOper := [
 oP 13 (.load none) [.t 2],
 oP 14 (.faddr 1) [.t 3],
 oP 15 (.load none) [.t 14],
 oP 16 (.bslice none) [.t 15],
 oP 17 (.append none) [.t 13,.t 16],
 ⟨none,(.store none),[.t 2,.t 17],none⟩]
def c43k4 : ACode := (.cond (.t 9) (.seq (.region true c43r2 [2,3,4]) (.region true c43r3 [3,4])) .skip)
def c43r5 : List AOper := [
 oP 18 (.load (some 4)) [.t 3],
 ⟨none,(.store (some 4)),[.t 4,.t 18],none⟩]
def c43 : ACode := (.seq (.region true c43r0 [1,2,3,4]) (.seq (.seq (.region true c43r1 [1,2,3,4,9]) c43k4) (.seq (.region true c43r5 [4]) .ret)))
def g43 : AFn := ⟨3,[(4,some (some 4))],c43,true,[],[],none⟩
theorem tr43 : trFn Try.prog true 43 Try.f43 = some g43 := by kernel_rfl
def c44r0 : List AOper := [
 oP 3 (.box (some 4)) [.t 0]]
def c44r1 : List AOper := [
 oP 5 (.load none) [.t 1],
 oP 6 (.bin .sub) [.t 5,.c (.pv none (.int .i64 1))],
 ⟨none,(.store none),[.t 1,.t 6],none⟩]
def c44r2 : List AOper := [
 oP 4 .mv [.c (.pv none (.int .i64 0))]]
def c44r3 : List AOper := [
 oP 7 .mv [.t 4],
 oP 8 (.faddr 3) [.t 3],
 oP 9 (.load none) [.t 8],
 oP 10 .len [.t 9],
 oP 11 (.bin .lss) [.t 7,.t 10],
 oP 12 .mv [.t 11],
 ⟨some 13,(.load none),[.t 1],some (12,true)⟩,
 ⟨some 14,(.bin .gtr),[.t 13,.c (.pv none (.int .i64 0))],some (12,true)⟩,
 oP 15 .pick [.t 12,.t 14,.c (.pv none (.bool false))]]
def c44k4 : ACode := (.cond (.t 15) .skip (.exit 0))
def c44r5 : List AOper := [
 oP 18 (.load none) [.t 2],
 oP 19 (.faddr 3) [.t 3],
 oP 20 (.load none) [.t 19],
 oP 21 .mv [.t 4],
 oP 22 (.iaddr (some 4)) [.t 20,.t 21],
 oP 23 (.load (some 4)) [.t 22],
 oP 24 .call [.t 18,.t 23]]
def c44k6 : ACode := (.block 1 (.region true c44r5 [1,2,3,4]))
def c44r7 : List AOper := [
 oP 16 .mv [.t 4],
 oP 17 (.bin .add) [.t 16,.c (.pv none (.int .i64 1))],
 oP 4 .mv [.t 17]]
def c44b8 : ACode := (.seq (.seq (.region true c44r3 [1,2,3,4,15]) c44k4) (.seq c44k6 (.region true c44r7 [1,2,3,4])))
def c44k9 : ACode := (.block 0 (.loop [1,2,3,4] c44b8))
def c44 : ACode := (.seq (.region true c44r0 [1,2,3]) (.seq (.region true c44r1 [1,2,3]) (.seq (.region true c44r2 [1,2,3,4]) c44k9)))
def g44 : AFn := ⟨3,[],c44,true,[],[],none⟩
theorem tr44 : trFn Try.prog true 44 Try.f44 = some g44 := by kernel_rfl
def c45r0 : List AOper := [
 oP 2 (.nilsl (some 4)) [],
 oP 3 .mv [.c (.pv none (.int .i64 0))]]
def c45r1 : List AOper := [
 oP 6 .mv [.t 0],
 oP 7 .call [.c (.pv none (.func (.func 63))),.t 6],
 oP 8 .not [.t 7]]
def c45r2 : List AOper := [
 oP 2 (.nilsl (some 4)) [],
 oP 3 .mv [.c (.pv none (.int .i64 1))]]
def c45k3 : ACode := (.cond (.t 8) (.seq (.region true c45r2 [2,3]) .ret) .skip)
def c45r4 : List AOper := [
 oP 9 .mv [.t 0],
 oP 10 .len [.t 9],
 oP 11 .mv [.c (.pv none (.int .i64 0))]]
def c45r5 : List AOper := [
 oP 12 (.bin .lss) [.t 11,.t 10]]
def c45k6 : ACode := (.cond (.t 12) .skip (.exit 0))
def c45r7 : List AOper := [
 oP 13 (.iaddr (some 4)) [.t 9,.t 11],
 oP 14 (.load (some 4)) [.t 13],
 oP 5 aZ [],
 ⟨none,(.store (some 4)),[.t 5,.t 14],none⟩]
def c45r8 : List AOper := [
 oP 15 (.faddr 0) [.t 5],
 oP 16 (.load none) [.t 15],
 oP 17 (.bin .neq) [.t 16,.c (.pv none (.int .i64 3))],
 oP 18 .mv [.t 17],
 ⟨some 19,(.faddr 2),[.t 5],some (18,false)⟩,
 ⟨some 20,(.load none),[.t 19],some (18,false)⟩,
 ⟨some 21,(.bin .neq),[.t 20,.c (.pv none (.str [45]))],some (18,false)⟩,
 oP 22 .pick [.t 18,.c (.pv none (.bool true)),.t 21],
 oP 23 .mv [.t 22],
 ⟨some 24,(.faddr 3),[.t 5],some (23,false)⟩,
 ⟨some 25,(.load none),[.t 24],some (23,false)⟩,
 ⟨some 26,.len,[.t 25],some (23,false)⟩,
 ⟨some 27,(.bin .neq),[.t 26,.c (.pv none (.int .i64 2))],some (23,false)⟩,
 oP 28 .pick [.t 23,.c (.pv none (.bool true)),.t 27]]
def c45r9 : List AOper := [
 oP 2 (.nilsl (some 4)) [],
 oP 3 .mv [.c (.pv none (.int .i64 3))]]
def c45k10 : ACode := (.cond (.t 28) (.seq (.region true c45r9 [2,3]) .ret) .skip)
def c45k11 : ACode := (.block 1 (.seq (.region true c45r7 [0,5,9,10,11]) (.seq (.region true c45r8 [0,9,10,11,28]) c45k10)))
def c45r12 : List AOper := [
 oP 29 (.bin .add) [.t 11,.c (.pv none (.int .i64 1))],
 oP 11 .mv [.t 29]]
def c45b13 : ACode := (.seq (.region true c45r5 [0,9,10,11,12]) (.seq c45k6 (.seq c45k11 (.region true c45r12 [0,9,10,11]))))
def c45k14 : ACode := (.block 0 (.loop [0,9,10,11] c45b13))
def c45r15 : List AOper := [
 oP 30 .mv [.t 0],
 oP 31 .call [.c (.pv none (.func (.func 64))),.t 30,.c (.pv none (.func (.func 68)))],
 oP 2 .mv [.t 31],
 oP 3 .mv [.c (.pv none (.int .i64 0))]]
def c45 : ACode := (.seq (.region true c45r0 [0]) (.seq (.seq (.region true c45r1 [0,8]) c45k3) (.seq (.seq (.region true c45r4 [0,9,10,11]) c45k14) (.seq (.region true c45r15 [2,3]) .ret))))
def g45 : AFn := ⟨1,[(2,none),(3,none)],c45,true,[],[],none⟩
theorem tr45 : trFn Try.prog true 45 Try.f45 = some g45 := by kernel_rfl
def c46r0 : List AOper := [
 oP 2 (.box (some 4)) [.t 0],
 oP 3 .mv [.c (.pv none (.bool false))]]
def c46r1 : List AOper := [
 oP 4 (.faddr 3) [.t 2],
 oP 5 (.load none) [.t 4],
 oP 6 (.iaddr (some 4)) [.t 5,.c (.pv none (.int .i64 0))],
 oP 7 (.load (some 4)) [.t 6],
 oP 8 (.load (some 4)) [.t 1],
 oP 9 .call [.c (.pv none (.func (.func 47))),.t 7,.t 8],
 oP 3 .mv [.t 9]]
def c46 : ACode := (.seq (.region true c46r0 [1,2]) (.seq (.region true c46r1 [3]) .ret))
def g46 : AFn := ⟨2,[(3,none)],c46,true,[],[],none⟩
theorem tr46 : trFn Try.prog true 46 Try.f46 = some g46 := by kernel_rfl
def c47r0 : List AOper := [
 oP 2 (.box (some 4)) [.t 0],
 oP 3 (.box (some 4)) [.t 1],
 oP 4 .mv [.c (.pv none (.bool false))]]
def c47r1 : List AOper := [
 oP 5 (.load (some 4)) [.t 2],
 oP 6 .callp [.c (.pv none (.func (.func 16))),.t 5],
 oP 7 .mv [.t 6],
 ⟨some 8,(.load (some 4)),[.t 3],some (7,true)⟩,
 ⟨some 9,.callp,[.c (.pv none (.func (.func 16))),.t 8],some (7,true)⟩,
 oP 10 .pick [.t 7,.t 9,.c (.pv none (.bool false))],
 oP 11 .mv [.t 10],
 ⟨some 12,(.load (some 4)),[.t 2],some (11,true)⟩,
 ⟨some 13,.callp,[.c (.pv none (.func (.func 7))),.t 12],some (11,true)⟩,
 ⟨some 14,(.load (some 4)),[.t 3],some (11,true)⟩,
 ⟨some 15,.callp,[.c (.pv none (.func (.func 7))),.t 14],some (11,true)⟩,
 ⟨some 16,.callp,[.c (.pv none (.func (.func 41))),.t 13,.t 15],some (11,true)⟩,
 oP 17 .pick [.t 11,.t 16,.c (.pv none (.bool false))],
 oP 4 .mv [.t 17]]
def c47 : ACode := (.seq (.region true c47r0 [2,3]) (.seq (.seq (.settle [2,3]) (.region true c47r1 [4])) .ret))
def g47 : AFn := ⟨2,[(4,none)],c47,false,[],[],none⟩
theorem tr47 : trFn Try.prog false 47 Try.f47 = some g47 := by kernel_rfl
def c48r0 : List AOper := [
 oP 2 aZ [],
 oP 3 .mv [.c (.pv none (.int .i64 0))]]
def c48r1 : List AOper := [
 oP 19 .mv [.t 0],
 oP 20 (.iaddr (some 4)) [.t 19,.c (.pv none (.int .i64 0))],
 oP 21 (.faddr 3) [.t 20],
 oP 22 (.load none) [.t 21],
 oP 23 (.iaddr (some 4)) [.t 22,.c (.pv none (.int .i64 0))],
 oP 24 (.load (some 4)) [.t 23],
 oP 4 aZ [],
 ⟨none,(.store (some 4)),[.t 4,.t 24],none⟩]
def c48r2 : List AOper := [
 oP 5 (.nilsl (some 5)) []]
def c48r3 : List AOper := [
 oP 6 (.nilsl (some 4)) []]
def c48r4 : List AOper := [
 oP 25 .mv [.t 0],
 oP 26 .len [.t 25],
 oP 27 .mv [.c (.pv none (.int .i64 0))]]
def c48r5 : List AOper := [
 oP 28 (.bin .lss) [.t 27,.t 26]]
def c48k6 : ACode := (.cond (.t 28) .skip (.exit 0))
def c48r7 : List AOper := [
 oP 29 .mv [.t 27],
 oP 30 (.iaddr (some 4)) [.t 25,.t 27],
 oP 31 (.load (some 4)) [.t 30],
 oP 8 aZ [],
 oP 7 .mv [.t 29],
 ⟨none,(.store (some 4)),[.t 8,.t 31],none⟩]
def c48r8 : List AOper := [
 oP 32 .mv [.t 6],
 oP 33 (.faddr 3) [.t 8],
 oP 34 (.load none) [.t 33],
 oP 35 (.iaddr (some 4)) [.t 34,.c (.pv none (.int .i64 1))],
 oP 36 (.load (some 4)) [.t 35],
 oP 37 (.bslice (some 4)) [.t 36],
 oP 38 (.append (some 4)) [.t 32,.t 37],
 oP 6 .mv [.t 38]]
def c48r9 : List AOper := [
 oP 39 .mv [.t 7],
 oP 40 (.bin .eql) [.t 39,.c (.pv none (.int .i64 0))]]
def c48k10 : ACode := (.cond (.t 40) (.exit 1) .skip)
def c48r11 : List AOper := [
 oP 42 .mv [.t 5],
 oP 43 (.faddr 3) [.t 8],
 oP 44 (.load none) [.t 43],
 oP 45 (.iaddr (some 4)) [.t 44,.c (.pv none (.int .i64 0))],
 oP 46 (.load (some 4)) [.t 45],
 oP 47 (.load (some 4)) [.t 4],
 oP 48 .call [.c (.pv none (.func (.func 69))),.t 42,.t 46,.t 47],
 oP 41 .mv [.t 48],
 oP 49 (.extract 0) [.t 41],
 oP 50 (.extract 1) [.t 41],
 oP 9 .mv [.t 49],
 oP 10 .mv [.t 50]]
def c48r12 : List AOper := [
 oP 51 .mv [.t 10],
 oP 52 (.bin .neq) [.t 51,.c (.pv none (.int .i64 0))]]
def c48r13 : List AOper := [
 oP 53 (bZ []) [],
 oP 54 .mv [.t 10],
 ⟨none,(.store (some 4)),[.t 2,.t 53],none⟩,
 oP 3 .mv [.t 54]]
def c48k14 : ACode := (.cond (.t 52) (.seq (.region true c48r13 [2,3]) .ret) .skip)
def c48r15 : List AOper := [
 oP 55 .mv [.t 9],
 oP 5 .mv [.t 55]]
def c48k16 : ACode := (.block 1 (.seq (.region true c48r7 [2,4,5,6,7,8,25,26,27]) (.seq (.region true c48r8 [2,4,5,6,7,8,25,26,27]) (.seq (.seq (.region true c48r9 [2,4,5,6,8,25,26,27,40]) c48k10) (.seq (.region true c48r11 [2,4,6,9,10,25,26,27]) (.seq (.seq (.region true c48r12 [2,4,6,9,10,25,26,27,52]) c48k14) (.region true c48r15 [2,4,5,6,25,26,27])))))))
def c48r17 : List AOper := [
 oP 56 (.bin .add) [.t 27,.c (.pv none (.int .i64 1))],
 oP 27 .mv [.t 56]]
def c48b18 : ACode := (.seq (.region true c48r5 [2,4,5,6,25,26,27,28]) (.seq c48k6 (.seq c48k16 (.region true c48r17 [2,4,5,6,25,26,27]))))
def c48k19 : ACode := (.block 0 (.loop [2,4,5,6,25,26,27] c48b18))
def c48r20 : List AOper := [
 oP 58 .mv [.t 5],
 oP 59 (.load (some 4)) [.t 4],
 oP 60 .call [.c (.pv none (.func (.func 70))),.t 58,.t 59],
 oP 57 .mv [.t 60],
 oP 61 (.extract 0) [.t 57],
 oP 62 (.extract 1) [.t 57],
 oP 11 aZ [],
 ⟨none,(.store (some 4)),[.t 11,.t 61],none⟩,
 oP 12 .mv [.t 62]]
def c48r21 : List AOper := [
 oP 63 .mv [.t 12],
 oP 64 (.bin .neq) [.t 63,.c (.pv none (.int .i64 0))]]
def c48r22 : List AOper := [
 oP 65 (bZ []) [],
 oP 66 .mv [.t 12],
 ⟨none,(.store (some 4)),[.t 2,.t 65],none⟩,
 oP 3 .mv [.t 66]]
def c48k23 : ACode := (.cond (.t 64) (.seq (.region true c48r22 [2,3]) .ret) .skip)
def c48r24 : List AOper := [
 oP 13 (.nilsl (some 4)) []]
def c48r25 : List AOper := [
 oP 67 .mv [.t 6],
 oP 68 .len [.t 67],
 oP 69 .mv [.c (.pv none (.int .i64 0))]]
def c48r26 : List AOper := [
 oP 70 (.bin .lss) [.t 69,.t 68]]
def c48k27 : ACode := (.cond (.t 70) .skip (.exit 2))
def c48r28 : List AOper := [
 oP 71 (.iaddr (some 4)) [.t 67,.t 69],
 oP 72 (.load (some 4)) [.t 71],
 oP 15 aZ [],
 ⟨none,(.store (some 4)),[.t 15,.t 72],none⟩]
def c48r29 : List AOper := [
 oP 74 .mv [.t 5],
 oP 75 (.load (some 4)) [.t 15],
 oP 76 .call [.c (.pv none (.func (.func 70))),.t 74,.t 75],
 oP 73 .mv [.t 76],
 oP 77 (.extract 0) [.t 73],
 oP 78 (.extract 1) [.t 73],
 oP 16 aZ [],
 ⟨none,(.store (some 4)),[.t 16,.t 77],none⟩,
 oP 17 .mv [.t 78]]
def c48r30 : List AOper := [
 oP 79 .mv [.t 17],
 oP 80 (.bin .neq) [.t 79,.c (.pv none (.int .i64 0))]]
def c48r31 : List AOper := [
 oP 81 (bZ []) [],
 oP 82 .mv [.t 17],
 ⟨none,(.store (some 4)),[.t 2,.t 81],none⟩,
 oP 3 .mv [.t 82]]
def c48k32 : ACode := (.cond (.t 80) (.seq (.region true c48r31 [2,3]) .ret) .skip)
def c48r33 : List AOper := [
 oP 83 .mv [.t 13],
 oP 84 (.load (some 4)) [.t 16],
 oP 85 (.bslice (some 4)) [.t 84],
 oP 86 (.append (some 4)) [.t 83,.t 85],
 oP 13 .mv [.t 86]]
def c48k34 : ACode := (.block 3 (.seq (.region true c48r28 [2,5,11,13,15,67,68,69]) (.seq (.region true c48r29 [2,5,11,13,16,17,67,68,69]) (.seq (.seq (.region true c48r30 [2,5,11,13,16,17,67,68,69,80]) c48k32) (.region true c48r33 [2,5,11,13,67,68,69])))))
def c48r35 : List AOper := [
 oP 87 (.bin .add) [.t 69,.c (.pv none (.int .i64 1))],
 oP 69 .mv [.t 87]]
def c48b36 : ACode := (.seq (.region true c48r26 [2,5,11,13,67,68,69,70]) (.seq c48k27 (.seq c48k34 (.region true c48r35 [2,5,11,13,67,68,69]))))
def c48k37 : ACode := (.block 2 (.loop [2,5,11,13,67,68,69] c48b36))
def c48r38 : List AOper := [
 oP 88 (.load (some 4)) [.t 11],
 oP 89 .mv [.t 13],
 oP 90 .callp [.c (.pv none (.func (.func 28))),.t 89],
 oP 91 (.bslicep (some 4)) [.t 88,.t 90],
 oP 92 .callp [.c (.pv none (.func (.func 27))),.c (.pv none (.str [45])),.t 91],
 oP 18 aZ [],
 ⟨none,(.store (some 4)),[.t 18,.t 92],none⟩]
def c48r39 : List AOper := [
 oP 93 (.load (some 4)) [.t 18],
 oP 94 .call [.c (.pv none (.func (.func 18))),.t 93],
 oP 95 (.bin .gtr) [.t 94,.c (.pv none (.int .i64 2000))]]
def c48r40 : List AOper := [
 oP 96 (bZ []) [],
 ⟨none,(.store (some 4)),[.t 2,.t 96],none⟩,
 oP 3 .mv [.c (.pv none (.int .i64 2))]]
def c48k41 : ACode := (.cond (.t 95) (.seq (.region true c48r40 [2,3]) .ret) .skip)
def c48r42 : List AOper := [
 oP 97 (.load (some 4)) [.t 18],
 ⟨none,(.store (some 4)),[.t 2,.t 97],none⟩,
 oP 3 .mv [.c (.pv none (.int .i64 0))]]
def c48 : ACode := (.seq (.region true c48r0 [0,2]) (.seq (.region true c48r1 [0,2,4]) (.seq (.region true c48r2 [0,2,4,5]) (.seq (.region true c48r3 [0,2,4,5,6]) (.seq (.seq (.region true c48r4 [2,4,5,6,25,26,27]) c48k19) (.seq (.region true c48r20 [2,5,6,11,12]) (.seq (.seq (.region true c48r21 [2,5,6,11,12,64]) c48k23) (.seq (.region true c48r24 [2,5,6,11,13]) (.seq (.seq (.region true c48r25 [2,5,11,13,67,68,69]) c48k37) (.seq (.seq (.settle [11,13]) (.region true c48r38 [2,18])) (.seq (.seq (.region true c48r39 [2,18,95]) c48k41) (.seq (.region true c48r42 [2,3]) .ret))))))))))))
def g48 : AFn := ⟨1,[(2,some (some 4)),(3,none)],c48,false,[],[],none⟩
theorem tr48 : trFn Try.prog false 48 Try.f48 = some g48 := by kernel_rfl
def c49r0 : List AOper := [
 oP 1 (.box (some 4)) [.t 0],
 oP 2 aZ []]
def c49r1 : List AOper := [
 oP 6 (.load (some 4)) [.t 1],
 oP 3 aZ [],
 ⟨none,(.store (some 4)),[.t 3,.t 6],none⟩]
def c49r2 : List AOper := [
 oP 7 (.load (some 4)) [.t 1],
 oP 8 .call [.c (.pv none (.func (.func 51))),.t 7]]
def c49r3 : List AOper := [
 oP 12 (.load (some 4)) [.t 3],
 ⟨none,(.store (some 4)),[.t 2,.t 12],none⟩]
def c49p4 : ACode := (.seq (.region true c49r3 [2]) (.seq .ret .skip))
def c49r5 : List AOper := [
 oP 5 aZ [],
 ⟨none,(.store (some 4)),[.t 5,.t 10],none⟩]
def c49r6 : List AOper := [
 oP 11 (.load (some 4)) [.t 5],
 ⟨none,(.store (some 4)),[.t 3,.t 11],none⟩]
def c49k7 : ACode := (.block 1 (.region true c49r6 []))
def c49q8 : ACode := c49k7
def c49 : ACode := (.seq (.region true c49r0 [1,2]) (.seq (.region true c49r1 [1,2,3]) (.seq (.region true c49r2 [2,3,8]) .skip)))
def g49 : AFn := ⟨1,[(2,some (some 4))],c49,false,[(.range 49 (.t 8) [9,10] [3],c49p4)],[⟨[9,10],(.region true c49r5 [3,5]),c49q8⟩],none⟩
theorem tr49 : trFn Try.prog false 49 Try.f49 = some g49 := by kernel_rfl
def c50r0 : List AOper := [
 oP 2 (.box (some 4)) [.t 0]]
def c50r1 : List AOper := [
 oP 5 (.load (some 4)) [.t 2],
 oP 6 .call [.c (.pv none (.func (.func 17))),.t 5],
 oP 7 .len [.t 6],
 oP 8 .mv [.c (.pv none (.int .i64 0))]]
def c50r2 : List AOper := [
 oP 9 (.bin .lss) [.t 8,.t 7]]
def c50k3 : ACode := (.cond (.t 9) .skip (.exit 0))
def c50r4 : List AOper := [
 oP 10 (.iaddr none) [.t 6,.t 8],
 oP 11 (.load none) [.t 10],
 oP 4 .mv [.t 11]]
def c50r5 : List AOper := [
 oP 12 (.load none) [.t 1],
 oP 13 .mv [.t 4],
 ⟨none,(.mapset false none),[.t 12,.t 13,.c (.pv none (.bool true))],none⟩]
def c50k6 : ACode := (.block 1 (.seq (.region true c50r4 [1,4,6,7,8]) (.region true c50r5 [1,6,7,8])))
def c50r7 : List AOper := [
 oP 14 (.bin .add) [.t 8,.c (.pv none (.int .i64 1))],
 oP 8 .mv [.t 14]]
def c50b8 : ACode := (.seq (.region true c50r2 [1,6,7,8,9]) (.seq c50k3 (.seq c50k6 (.region true c50r7 [1,6,7,8]))))
def c50k9 : ACode := (.block 0 (.loop [1,6,7,8] c50b8))
def c50 : ACode := (.seq (.region true c50r0 [1,2]) (.seq (.region true c50r1 [1,6,7,8]) c50k9))
def g50 : AFn := ⟨2,[],c50,true,[],[],none⟩
theorem tr50 : trFn Try.prog true 50 Try.f50 = some g50 := by kernel_rfl
def c51r0 : List AOper := [
 oP 1 (.box (some 4)) [.t 0],
 oP 2 .mv [.c (.pv none .nilfunc)]]
def c51r1 : List AOper := [
 oP 3 (.mkfunc (.func 71) 0) [.t 1],
 oP 2 .mv [.t 3]]
def c51 : ACode := (.seq (.region true c51r0 [1]) (.seq (.region true c51r1 [2]) .ret))
def g51 : AFn := ⟨1,[(2,none)],c51,true,[],[],none⟩
theorem tr51 : trFn Try.prog true 51 Try.f51 = some g51 := by kernel_rfl
def c52r0 : List AOper := [
 oP 1 (.box (some 4)) [.t 0],
 oP 2 (.nilsl (some 4)) [],
 oP 3 aZ [],
 oP 4 .mv [.c (.pv none (.bool false))]]
def c52r1 : List AOper := [
 oP 6 (.load (some 4)) [.t 1],
 oP 7 .call [.c (.pv none (.func (.func 16))),.t 6],
 oP 8 .not [.t 7]]
def c52r2 : List AOper := [
 oP 9 (bZ []) [],
 oP 2 (.nilsl (some 4)) [],
 ⟨none,(.store (some 4)),[.t 3,.t 9],none⟩,
 oP 4 .mv [.c (.pv none (.bool false))]]
def c52k3 : ACode := (.cond (.t 8) (.seq (.region true c52r2 [2,3,4]) .ret) .skip)
def c52r4 : List AOper := [
 oP 10 (.load (some 4)) [.t 1],
 oP 5 aZ [],
 ⟨none,(.store (some 4)),[.t 5,.t 10],none⟩]
def c52r5 : List AOper := [
 oP 12 (.faddr 0) [.t 5],
 oP 13 (.load none) [.t 12],
 oP 14 (.bin .eql) [.t 13,.c (.pv none (.int .i64 3))],
 oP 15 .mv [.t 14],
 ⟨some 16,(.faddr 2),[.t 5],some (15,true)⟩,
 ⟨some 17,(.load none),[.t 16],some (15,true)⟩,
 ⟨some 18,(.bin .eql),[.t 17,.c (.pv none (.str [46]))],some (15,true)⟩,
 oP 19 .pick [.t 15,.t 18,.c (.pv none (.bool false))],
 oP 20 .mv [.t 19],
 ⟨some 21,(.faddr 3),[.t 5],some (20,true)⟩,
 ⟨some 22,(.load none),[.t 21],some (20,true)⟩,
 ⟨some 23,.len,[.t 22],some (20,true)⟩,
 ⟨some 24,(.bin .eql),[.t 23,.c (.pv none (.int .i64 2))],some (20,true)⟩,
 oP 25 .pick [.t 20,.t 24,.c (.pv none (.bool false))],
 oP 11 .mv [.t 25]]
def c52r6 : List AOper := [
 oP 26 .mv [.t 2],
 oP 27 (.faddr 3) [.t 5],
 oP 28 (.load none) [.t 27],
 oP 29 (.iaddr (some 4)) [.t 28,.c (.pv none (.int .i64 0))],
 oP 30 (.load (some 4)) [.t 29],
 oP 31 .call [.c (.pv none (.func (.func 29))),.t 30],
 oP 32 (.bslice (some 4)) [.t 31],
 oP 33 (.append (some 4)) [.t 26,.t 32],
 oP 2 .mv [.t 33]]
def c52r7 : List AOper := [
 oP 34 (.faddr 3) [.t 5],
 oP 35 (.load none) [.t 34],
 oP 36 (.iaddr (some 4)) [.t 35,.c (.pv none (.int .i64 1))],
 oP 37 (.load (some 4)) [.t 36],
 ⟨none,(.store (some 4)),[.t 5,.t 37],none⟩]
def c52k8 : ACode := (.cond (.t 11) (.seq (.region true c52r6 [1,2,3,5]) (.region true c52r7 [1,2,3,5])) (.exit 0))
def c52k9 : ACode := (.block 2 (.seq (.region true c52r5 [1,2,3,5,11]) c52k8))
def c52k10 : ACode := (.block 1 c52k9)
def c52b11 : ACode := c52k10
def c52k12 : ACode := (.block 0 (.loop [1,2,3,5] c52b11))
def c52r13 : List AOper := [
 oP 39 (.faddr 0) [.t 5],
 oP 40 (.load none) [.t 39],
 oP 41 (.bin .eql) [.t 40,.c (.pv none (.int .i64 0))],
 oP 38 .mv [.t 41]]
def c52r14 : List AOper := [
 oP 42 .call [.c (.pv none (.func (.func 53)))],
 oP 2 (.nilsl (some 4)) [],
 ⟨none,(.store (some 4)),[.t 3,.t 42],none⟩,
 oP 4 .mv [.c (.pv none (.bool false))]]
def c52r15 : List AOper := [
 oP 44 (.faddr 0) [.t 5],
 oP 45 (.load none) [.t 44],
 oP 46 (.bin .eql) [.t 45,.c (.pv none (.int .i64 2))],
 oP 47 .mv [.t 46],
 ⟨some 48,(.faddr 2),[.t 5],some (47,true)⟩,
 ⟨some 49,(.load none),[.t 48],some (47,true)⟩,
 ⟨some 50,(.bin .eql),[.t 49,.c (.pv none (.str [91,93]))],some (47,true)⟩,
 oP 51 .pick [.t 47,.t 50,.c (.pv none (.bool false))],
 oP 43 .mv [.t 51]]
def c52r16 : List AOper := [
 oP 52 .mv [.t 2],
 oP 53 (bZ []) [],
 oP 2 .mv [.t 52],
 ⟨none,(.store (some 4)),[.t 3,.t 53],none⟩,
 oP 4 .mv [.c (.pv none (.bool true))]]
def c52k17 : ACode := (.cond (.t 43) (.seq (.region true c52r16 [2,3,4]) .ret) .skip)
def c52k18 : ACode := (.cond (.t 38) (.seq (.region true c52r14 [2,3,4]) .ret) (.seq (.region true c52r15 [1,2,3,43]) c52k17))
def c52k19 : ACode := (.block 3 (.seq (.region true c52r13 [1,2,3,5,38]) c52k18))
def c52r20 : List AOper := [
 oP 54 (.load (some 4)) [.t 1],
 oP 55 .call [.c (.pv none (.func (.func 55))),.c (.pv none (.str [108,105,115,116])),.t 54],
 oP 2 (.nilsl (some 4)) [],
 ⟨none,(.store (some 4)),[.t 3,.t 55],none⟩,
 oP 4 .mv [.c (.pv none (.bool false))]]
def c52 : ACode := (.seq (.region true c52r0 [1,2,3]) (.seq (.seq (.region true c52r1 [1,2,3,8]) c52k3) (.seq (.region true c52r4 [1,2,3,5]) (.seq .skip (.seq c52k12 (.seq c52k19 (.seq (.region true c52r20 [2,3,4]) .ret)))))))
def g52 : AFn := ⟨1,[(2,none),(3,some (some 4)),(4,none)],c52,false,[],[],none⟩
theorem tr52 : trFn Try.prog false 52 Try.f52 = some g52 := by kernel_rfl
def c53r0 : List AOper := [
 oP 0 aZ []]
def c53r1 : List AOper := [
 oP 1 .call [.c (.pv none (.func (.func 72))),.c (.pv none (.str [105,110,115,116,97,110,116,105,97,116,105,111,110,95,101,114,114,111,114])),.c (.tsl (some 4) [])],
 ⟨none,(.store (some 4)),[.t 0,.t 1],none⟩]
def c53 : ACode := (.seq (.region true c53r0 [0]) (.seq (.region true c53r1 [0]) .ret))
def g53 : AFn := ⟨0,[(0,some (some 4))],c53,false,[],[],none⟩
theorem tr53 : trFn Try.prog false 53 Try.f53 = some g53 := by kernel_rfl
def c54r0 : List AOper := [
 oP 3 (.box (some 4)) [.t 0],
 oP 6 .mv [.c (.pv none (.bool false))]]
def c54r1 : List AOper := [
 oP 7 (.faddr 0) [.t 3],
 oP 8 (.load none) [.t 7],
 oP 9 (.bin .eql) [.t 8,.c (.pv none (.int .i64 3))],
 oP 10 .mv [.t 9],
 ⟨some 11,(.faddr 2),[.t 3],some (10,true)⟩,
 ⟨some 12,(.load none),[.t 11],some (10,true)⟩,
 ⟨some 13,.mv,[.t 1],some (10,true)⟩,
 ⟨some 14,(.bin .eql),[.t 12,.t 13],some (10,true)⟩,
 oP 15 .pick [.t 10,.t 14,.c (.pv none (.bool false))],
 oP 16 .mv [.t 15],
 ⟨some 17,(.faddr 3),[.t 3],some (16,true)⟩,
 ⟨some 18,(.load none),[.t 17],some (16,true)⟩,
 ⟨some 19,.len,[.t 18],some (16,true)⟩,
 ⟨some 20,.mv,[.t 2],some (16,true)⟩,
 ⟨some 21,(.bin .eql),[.t 19,.t 20],some (16,true)⟩,
 oP 22 .pick [.t 16,.t 21,.c (.pv none (.bool false))],
 oP 6 .mv [.t 22]]
def c54 : ACode := (.seq (.region true c54r0 [1,2,3]) (.seq (.region true c54r1 [6]) .ret))
def g54 : AFn := ⟨3,[(6,none)],c54,false,[],[],none⟩
theorem tr54 : trFn Try.prog false 54 Try.f54 = some g54 := by kernel_rfl
def c55r0 : List AOper := [
 oP 3 (.box (some 4)) [.t 1],
 oP 4 aZ []]
def c55r1 : List AOper := [
 oP 5 (.load (some 4)) [.t 3],
 oP 6 .mv [.t 0],
 oP 7 (.bslice none) [.t 6],
 oP 8 .call [.c (.pv none (.func (.func 73))),.t 5,.c (.pv none (.str [116,121,112,101,95,101,114,114,111,114])),.t 7],
 ⟨none,(.store (some 4)),[.t 4,.t 8],none⟩]
def c55 : ACode := (.seq (.region true c55r0 [0,3,4]) (.seq (.region true c55r1 [4]) .ret))
def g55 : AFn := ⟨2,[(4,some (some 4))],c55,false,[],[],none⟩
theorem tr55 : trFn Try.prog false 55 Try.f55 = some g55 := by kernel_rfl
def c56r0 : List AOper := [
 oP 2 (.nilsl (some 4)) []]
def c56r1 : List AOper := [
 oP 3 .mv [.t 0],
 oP 2 .mv [.t 3]]
def c56 : ACode := (.seq (.region true c56r0 [0]) (.seq (.region true c56r1 [2]) .ret))
def g56 : AFn := ⟨1,[(2,none)],c56,false,[],[],none⟩
theorem tr56 : trFn Try.prog false 56 Try.f56 = some g56 := by kernel_rfl
def c57r0 : List AOper := [
 oP 2 (.nilsl (some 4)) []]
def c57r1 : List AOper := [
 oP 6 .mv [.t 0],
 oP 7 .call [.c (.pv none (.func (.func 12))),.t 6],
 oP 5 .mv [.t 7],
 oP 8 (.extract 0) [.t 5],
 oP 9 (.extract 1) [.t 5],
 oP 3 .mv [.t 8],
 oP 4 .mv [.t 9]]
def c57r2 : List AOper := [
 oP 10 .mv [.t 3],
 oP 2 .mv [.t 10]]
def c57 : ACode := (.seq (.region true c57r0 [0]) (.seq (.region true c57r1 [3]) (.seq (.region true c57r2 [2]) .ret)))
def g57 : AFn := ⟨1,[(2,none)],c57,false,[],[],none⟩
theorem tr57 : trFn Try.prog false 57 Try.f57 = some g57 := by kernel_rfl
def c58r0 : List AOper := [
 oP 1 (.box (some 4)) [.t 0],
 oP 2 aZ []]
def c58r1 : List AOper := [
 oP 3 (.load (some 4)) [.t 1],
 ⟨none,(.store (some 4)),[.t 2,.t 3],none⟩]
def c58 : ACode := (.seq (.region true c58r0 [1,2]) (.seq (.region true c58r1 [2]) .ret))
def g58 : AFn := ⟨1,[(2,some (some 4))],c58,false,[],[],none⟩
theorem tr58 : trFn Try.prog false 58 Try.f58 = some g58 := by kernel_rfl
def c59r0 : List AOper := [
 oP 2 .mv [.c (.pv none (.bool false))]]
def c59r1 : List AOper := [
 oP 3 .mv [.t 0],
 oP 4 (.bin .geq) [.t 3,.c (.pv none (.int .i64 0))],
 oP 5 .mv [.t 4],
 ⟨some 6,.mv,[.t 0],some (5,true)⟩,
 ⟨some 7,(.bin .leq),[.t 6,.c (.pv none (.int .i64 1099511627776))],some (5,true)⟩,
 oP 8 .pick [.t 5,.t 7,.c (.pv none (.bool false))],
 oP 2 .mv [.t 8]]
def c59 : ACode := (.seq (.region true c59r0 [0]) (.seq (.region true c59r1 [2]) .ret))
def g59 : AFn := ⟨1,[(2,none)],c59,false,[],[],none⟩
theorem tr59 : trFn Try.prog false 59 Try.f59 = some g59 := by kernel_rfl
def c60r0 : List AOper := [
 oP 3 (.box (some 4)) [.t 1],
 oP 4 aZ []]
def c60r1 : List AOper := [
 oP 10 .mv [.t 0],
 oP 11 .len [.t 10],
 oP 12 (.bin .gtr) [.t 11,.c (.pv none (.int .i64 2000))],
 oP 13 .mv [.t 12],
 ⟨some 14,(.load (some 4)),[.t 3],some (13,false)⟩,
 ⟨some 15,.call,[.c (.pv none (.func (.func 16))),.t 14],some (13,false)⟩,
 ⟨some 16,.not,[.t 15],some (13,false)⟩,
 oP 17 .pick [.t 13,.c (.pv none (.bool true)),.t 16]]
def c60r2 : List AOper := [
 oP 18 (bZ []) [],
 ⟨none,(.store (some 4)),[.t 4,.t 18],none⟩]
def c60k3 : ACode := (.cond (.t 17) (.seq (.region true c60r2 [4]) .ret) .skip)
def c60r4 : List AOper := [
 oP 19 (.load (some 4)) [.t 3],
 oP 20 .call [.c (.pv none (.func (.func 18))),.t 19],
 oP 5 .mv [.t 20]]
def c60r5 : List AOper := [
 oP 21 .mv [.t 0],
 oP 22 .len [.t 21],
 oP 23 .mv [.c (.pv none (.int .i64 0))]]
def c60r6 : List AOper := [
 oP 24 (.bin .lss) [.t 23,.t 22]]
def c60k7 : ACode := (.cond (.t 24) .skip (.exit 0))
def c60r8 : List AOper := [
 oP 25 (.iaddr (some 4)) [.t 21,.t 23],
 oP 26 (.load (some 4)) [.t 25],
 oP 7 aZ [],
 ⟨none,(.store (some 4)),[.t 7,.t 26],none⟩]
def c60r9 : List AOper := [
 oP 27 .mv [.t 5],
 oP 28 (.load (some 4)) [.t 7],
 oP 29 .call [.c (.pv none (.func (.func 18))),.t 28],
 oP 30 (.bin .add) [.c (.pv none (.int .i64 1)),.t 29],
 oP 31 (.bin .add) [.t 27,.t 30],
 oP 5 .mv [.t 31]]
def c60r10 : List AOper := [
 oP 32 .mv [.t 5],
 oP 33 (.bin .gtr) [.t 32,.c (.pv none (.int .i64 2000))],
 oP 34 .mv [.t 33],
 ⟨some 35,(.load (some 4)),[.t 7],some (34,false)⟩,
 ⟨some 36,.call,[.c (.pv none (.func (.func 42))),.t 35],some (34,false)⟩,
 ⟨some 37,.not,[.t 36],some (34,false)⟩,
 oP 38 .pick [.t 34,.c (.pv none (.bool true)),.t 37]]
def c60r11 : List AOper := [
 oP 39 (bZ []) [],
 ⟨none,(.store (some 4)),[.t 4,.t 39],none⟩]
def c60k12 : ACode := (.cond (.t 38) (.seq (.region true c60r11 [4]) .ret) .skip)
def c60k13 : ACode := (.block 1 (.seq (.region true c60r8 [0,3,4,5,7,21,22,23]) (.seq (.region true c60r9 [0,3,4,5,7,21,22,23]) (.seq (.region true c60r10 [0,3,4,5,21,22,23,38]) c60k12))))
def c60r14 : List AOper := [
 oP 40 (.bin .add) [.t 23,.c (.pv none (.int .i64 1))],
 oP 23 .mv [.t 40]]
def c60b15 : ACode := (.seq (.region true c60r6 [0,3,4,5,21,22,23,24]) (.seq c60k7 (.seq c60k13 (.region true c60r14 [0,3,4,5,21,22,23]))))
def c60k16 : ACode := (.block 0 (.loop [0,3,4,5,21,22,23] c60b15))
def c60r17 : List AOper := [
 oP 41 (.load (some 4)) [.t 3],
 oP 42 .call [.c (.pv none (.func (.func 29))),.t 41],
 oP 8 aZ [],
 ⟨none,(.store (some 4)),[.t 8,.t 42],none⟩]
def c60r18 : List AOper := [
 oP 43 .mv [.t 0],
 oP 44 .len [.t 43],
 oP 45 (.bin .sub) [.t 44,.c (.pv none (.int .i64 1))],
 oP 9 .mv [.t 45]]
def c60r19 : List AOper := [
 oP 46 .mv [.t 9],
 oP 47 (.bin .geq) [.t 46,.c (.pv none (.int .i64 0))]]
def c60k20 : ACode := (.cond (.t 47) .skip (.exit 2))
def c60r21 : List AOper := [
 oP 50 .mv [.t 0],
 oP 51 .mv [.t 9],
 oP 52 (.iaddr (some 4)) [.t 50,.t 51],
 oP 53 (.load (some 4)) [.t 52],
 oP 54 .callp [.c (.pv none (.func (.func 29))),.t 53],
 oP 55 (.load (some 4)) [.t 8],
 oP 56 (.bslicep (some 4)) [.t 54,.t 55],
 oP 57 (bZ [0,2,3]) [.c (.pv none (.int .i64 3)),.c (.pv none (.str [46])),.t 56],
 ⟨none,(.store (some 4)),[.t 8,.t 57],none⟩]
def c60k22 : ACode := (.block 3 (.seq (.settle [8]) (.region true c60r21 [0,4,8,9])))
def c60r23 : List AOper := [
 oP 48 .mv [.t 9],
 oP 49 (.bin .sub) [.t 48,.c (.pv none (.int .i64 1))],
 oP 9 .mv [.t 49]]
def c60b24 : ACode := (.seq (.seq (.region true c60r19 [0,4,8,9,47]) c60k20) (.seq c60k22 (.region true c60r23 [0,4,8,9])))
def c60k25 : ACode := (.block 2 (.loop [0,4,8,9] c60b24))
def c60r26 : List AOper := [
 oP 58 (.load (some 4)) [.t 8],
 ⟨none,(.store (some 4)),[.t 4,.t 58],none⟩]
def c60 : ACode := (.seq (.region true c60r0 [0,3,4]) (.seq (.seq (.region true c60r1 [0,3,4,17]) c60k3) (.seq (.region true c60r4 [0,3,4,5]) (.seq (.seq (.region true c60r5 [0,3,4,5,21,22,23]) c60k16) (.seq (.region true c60r17 [0,4,8]) (.seq (.seq (.region true c60r18 [0,4,8,9]) c60k25) (.seq (.region true c60r26 [4]) .ret)))))))
def g60 : AFn := ⟨2,[(4,some (some 4))],c60,false,[],[],none⟩
theorem tr60 : trFn Try.prog false 60 Try.f60 = some g60 := by kernel_rfl
def c61r0 : List AOper := [
 oP 1 (.box (some 4)) [.t 0],
 oP 2 .mv [.c (.pv none (.bool false))]]
def c61r1 : List AOper := [
 oP 3 (.load (some 4)) [.t 1],
 oP 4 .call [.c (.pv none (.func (.func 74))),.t 3],
 oP 5 (.bin .leq) [.t 4,.c (.pv none (.int .i64 2000))],
 oP 6 .mv [.t 5],
 ⟨some 7,(.load (some 4)),[.t 1],some (6,true)⟩,
 ⟨some 8,.call,[.c (.pv none (.func (.func 75))),.t 7],some (6,true)⟩,
 oP 9 .pick [.t 6,.t 8,.c (.pv none (.bool false))],
 oP 2 .mv [.t 9]]
def c61 : ACode := (.seq (.region true c61r0 [1]) (.seq (.region true c61r1 [2]) .ret))
def g61 : AFn := ⟨1,[(2,none)],c61,false,[],[],none⟩
theorem tr61 : trFn Try.prog false 61 Try.f61 = some g61 := by kernel_rfl
def c62r0 : List AOper := [
 oP 2 (.box (some 4)) [.t 0],
 oP 3 (.box (some 4)) [.t 1],
 oP 4 .mv [.c (.pv none (.bool false))]]
def c62r1 : List AOper := [
 oP 6 (.faddr 0) [.t 2],
 oP 7 (.load none) [.t 6],
 oP 8 (.faddr 0) [.t 3],
 oP 9 (.load none) [.t 8],
 oP 10 (.bin .neq) [.t 7,.t 9],
 oP 11 .mv [.t 10],
 ⟨some 12,(.faddr 1),[.t 2],some (11,false)⟩,
 ⟨some 13,(.load none),[.t 12],some (11,false)⟩,
 ⟨some 14,(.faddr 1),[.t 3],some (11,false)⟩,
 ⟨some 15,(.load none),[.t 14],some (11,false)⟩,
 ⟨some 16,(.bin .neq),[.t 13,.t 15],some (11,false)⟩,
 oP 17 .pick [.t 11,.c (.pv none (.bool true)),.t 16],
 oP 18 .mv [.t 17],
 ⟨some 19,(.faddr 2),[.t 2],some (18,false)⟩,
 ⟨some 20,(.load none),[.t 19],some (18,false)⟩,
 ⟨some 21,(.faddr 2),[.t 3],some (18,false)⟩,
 ⟨some 22,(.load none),[.t 21],some (18,false)⟩,
 ⟨some 23,(.bin .neq),[.t 20,.t 22],some (18,false)⟩,
 oP 24 .pick [.t 18,.c (.pv none (.bool true)),.t 23],
 oP 25 .mv [.t 24],
 ⟨some 26,(.faddr 3),[.t 2],some (25,false)⟩,
 ⟨some 27,(.load none),[.t 26],some (25,false)⟩,
 ⟨some 28,.len,[.t 27],some (25,false)⟩,
 ⟨some 29,(.faddr 3),[.t 3],some (25,false)⟩,
 ⟨some 30,(.load none),[.t 29],some (25,false)⟩,
 ⟨some 31,.len,[.t 30],some (25,false)⟩,
 ⟨some 32,(.bin .neq),[.t 28,.t 31],some (25,false)⟩,
 oP 33 .pick [.t 25,.c (.pv none (.bool true)),.t 32]]
def c62r2 : List AOper := [
 oP 4 .mv [.c (.pv none (.bool false))]]
def c62k3 : ACode := (.cond (.t 33) (.seq (.region true c62r2 [4]) .ret) .skip)
def c62r4 : List AOper := [
 oP 5 .mv [.c (.pv none (.int .i64 0))]]
def c62r5 : List AOper := [
 oP 34 .mv [.t 5],
 oP 35 (.faddr 3) [.t 2],
 oP 36 (.load none) [.t 35],
 oP 37 .len [.t 36],
 oP 38 (.bin .lss) [.t 34,.t 37]]
def c62k6 : ACode := (.cond (.t 38) .skip (.exit 0))
def c62r7 : List AOper := [
 oP 41 (.faddr 3) [.t 2],
 oP 42 (.load none) [.t 41],
 oP 43 .mv [.t 5],
 oP 44 (.iaddr (some 4)) [.t 42,.t 43],
 oP 45 (.load (some 4)) [.t 44],
 oP 46 (.faddr 3) [.t 3],
 oP 47 (.load none) [.t 46],
 oP 48 .mv [.t 5],
 oP 49 (.iaddr (some 4)) [.t 47,.t 48],
 oP 50 (.load (some 4)) [.t 49],
 oP 51 .call [.c (.pv none (.func (.func 62))),.t 45,.t 50],
 oP 52 .not [.t 51]]
def c62r8 : List AOper := [
 oP 4 .mv [.c (.pv none (.bool false))]]
def c62k9 : ACode := (.cond (.t 52) (.seq (.region true c62r8 [4]) .ret) .skip)
def c62k10 : ACode := (.block 1 (.seq (.region true c62r7 [2,3,5,52]) c62k9))
def c62r11 : List AOper := [
 oP 39 .mv [.t 5],
 oP 40 (.bin .add) [.t 39,.c (.pv none (.int .i64 1))],
 oP 5 .mv [.t 40]]
def c62b12 : ACode := (.seq (.seq (.region true c62r5 [2,3,5,38]) c62k6) (.seq c62k10 (.region true c62r11 [2,3,5])))
def c62k13 : ACode := (.block 0 (.loop [2,3,5] c62b12))
def c62r14 : List AOper := [
 oP 4 .mv [.c (.pv none (.bool true))]]
def c62 : ACode := (.seq (.region true c62r0 [2,3]) (.seq (.seq (.region true c62r1 [2,3,33]) c62k3) (.seq (.seq (.region true c62r4 [2,3,5]) c62k13) (.seq (.region true c62r14 [4]) .ret))))
def g62 : AFn := ⟨2,[(4,none)],c62,false,[],[],none⟩
theorem tr62 : trFn Try.prog false 62 Try.f62 = some g62 := by kernel_rfl
def c63r0 : List AOper := [
 oP 2 .mv [.c (.pv none (.bool false))]]
def c63r1 : List AOper := [
 oP 5 .mv [.t 0],
 oP 6 .len [.t 5],
 oP 7 .mv [.c (.pv none (.int .i64 0))]]
def c63r2 : List AOper := [
 oP 8 (.bin .lss) [.t 7,.t 6]]
def c63k3 : ACode := (.cond (.t 8) .skip (.exit 0))
def c63r4 : List AOper := [
 oP 9 (.iaddr (some 4)) [.t 5,.t 7],
 oP 10 (.load (some 4)) [.t 9],
 oP 4 aZ [],
 ⟨none,(.store (some 4)),[.t 4,.t 10],none⟩]
def c63r5 : List AOper := [
 oP 11 (.load (some 4)) [.t 4],
 oP 12 .call [.c (.pv none (.func (.func 16))),.t 11],
 oP 13 .not [.t 12]]
def c63r6 : List AOper := [
 oP 2 .mv [.c (.pv none (.bool false))]]
def c63k7 : ACode := (.cond (.t 13) (.seq (.region true c63r6 [2]) .ret) .skip)
def c63k8 : ACode := (.block 1 (.seq (.region true c63r4 [4,5,6,7]) (.seq (.region true c63r5 [5,6,7,13]) c63k7)))
def c63r9 : List AOper := [
 oP 14 (.bin .add) [.t 7,.c (.pv none (.int .i64 1))],
 oP 7 .mv [.t 14]]
def c63b10 : ACode := (.seq (.region true c63r2 [5,6,7,8]) (.seq c63k3 (.seq c63k8 (.region true c63r9 [5,6,7]))))
def c63k11 : ACode := (.block 0 (.loop [5,6,7] c63b10))
def c63r12 : List AOper := [
 oP 2 .mv [.c (.pv none (.bool true))]]
def c63 : ACode := (.seq (.region true c63r0 [0]) (.seq (.seq (.region true c63r1 [5,6,7]) c63k11) (.seq (.region true c63r12 [2]) .ret)))
def g63 : AFn := ⟨1,[(2,none)],c63,false,[],[],none⟩
theorem tr63 : trFn Try.prog false 63 Try.f63 = some g63 := by kernel_rfl
def c64r0 : List AOper := [
 oP 4 (.nilsl (some 4)) []]
def c64r1 : List AOper := [
 oP 8 .mv [.t 0],
 oP 9 .len [.t 8],
 oP 10 (.mkslice (some 4) (.agg [(none,(.int .i64 0)),(none,(.int .i64 0)),(none,(.str [])),(none,(.sl (some 4) []))])) [.c (.pv none (.int .i64 0)),.t 9],
 oP 5 .mv [.t 10]]
def c64r2 : List AOper := [
 oP 11 .mv [.t 0],
 oP 12 .len [.t 11],
 oP 13 .mv [.c (.pv none (.int .i64 0))]]
def c64r3 : List AOper := [
 oP 14 (.bin .lss) [.t 13,.t 12]]
def c64k4 : ACode := (.cond (.t 14) .skip (.exit 0))
def c64r5 : List AOper := [
 oP 15 (.iaddr (some 4)) [.t 11,.t 13],
 oP 16 (.load (some 4)) [.t 15],
 oP 7 aZ [],
 ⟨none,(.store (some 4)),[.t 7,.t 16],none⟩]
def c64r6 : List AOper := [
 oP 17 .mv [.t 5],
 oP 18 (.load (some 4)) [.t 7],
 oP 19 .call [.c (.pv none (.func (.func 29))),.t 18],
 oP 20 (.bslice (some 4)) [.t 19],
 oP 21 (.append (some 4)) [.t 17,.t 20],
 oP 5 .mv [.t 21]]
def c64k7 : ACode := (.block 1 (.seq (.region true c64r5 [1,5,7,11,12,13]) (.region true c64r6 [1,5,11,12,13])))
def c64r8 : List AOper := [
 oP 22 (.bin .add) [.t 13,.c (.pv none (.int .i64 1))],
 oP 13 .mv [.t 22]]
def c64b9 : ACode := (.seq (.region true c64r3 [1,5,11,12,13,14]) (.seq c64k4 (.seq c64k7 (.region true c64r8 [1,5,11,12,13]))))
def c64k10 : ACode := (.block 0 (.loop [1,5,11,12,13] c64b9))
def c64r11 : List AOper := [
 oP 23 .mv [.t 5],
 oP 24 .mv [.t 1],
 oP 25 .call [.c (.pv none (.func (.func 76))),.t 23,.t 24]]
def c64r12 : List AOper := [
 oP 26 .mv [.t 5],
 oP 4 .mv [.t 26]]
def c64 : ACode := (.seq (.region true c64r0 [0,1]) (.seq (.region true c64r1 [0,1,5]) (.seq (.seq (.region true c64r2 [1,5,11,12,13]) c64k10) (.seq (.region true c64r11 [5]) (.seq (.region true c64r12 [4]) .ret)))))
def g64 : AFn := ⟨2,[(4,none)],c64,true,[],[],none⟩
theorem tr64 : trFn Try.prog true 64 Try.f64 = some g64 := by kernel_rfl
def c65r0 : List AOper := [
 oP 4 .mv [.c (.pv none (.int .i64 0))]]
def c65r1 : List AOper := [
 oP 7 .mv [.t 0],
 oP 8 .call [.c (.pv none (.func (.func 77))),.t 7],
 oP 5 .mv [.t 8]]
def c65r2 : List AOper := [
 oP 9 .mv [.t 1],
 oP 10 .call [.c (.pv none (.func (.func 77))),.t 9],
 oP 6 .mv [.t 10]]
def c65r3 : List AOper := [
 oP 11 .mv [.t 5]]
def c65r4 : List AOper := [
 oP 12 .mv [.t 6]]
def c65r5 : List AOper := [
 oP 4 .mv [.c (.pv none (.int .i64 0))]]
def c65k6 : ACode := (.cond (.t 12) (.seq (.region true c65r5 [4]) .ret) .skip)
def c65r7 : List AOper := [
 oP 4 .mv [.c (.pv none (.int .i64 (-1)))]]
def c65k8 : ACode := (.cond (.t 11) (.seq (.seq (.region true c65r4 [12]) c65k6) (.seq (.region true c65r7 [4]) .ret)) .skip)
def c65r9 : List AOper := [
 oP 13 .mv [.t 6]]
def c65r10 : List AOper := [
 oP 4 .mv [.c (.pv none (.int .i64 1))]]
def c65k11 : ACode := (.cond (.t 13) (.seq (.region true c65r10 [4]) .ret) .skip)
def c65r12 : List AOper := [
 oP 14 .mv [.t 0],
 oP 15 .mv [.t 1],
 oP 16 (.bin .lss) [.t 14,.t 15]]
def c65r13 : List AOper := [
 oP 4 .mv [.c (.pv none (.int .i64 (-1)))]]
def c65k14 : ACode := (.cond (.t 16) (.seq (.region true c65r13 [4]) .ret) .skip)
def c65r15 : List AOper := [
 oP 17 .mv [.t 0],
 oP 18 .mv [.t 1],
 oP 19 (.bin .gtr) [.t 17,.t 18]]
def c65r16 : List AOper := [
 oP 4 .mv [.c (.pv none (.int .i64 1))]]
def c65k17 : ACode := (.cond (.t 19) (.seq (.region true c65r16 [4]) .ret) .skip)
def c65r18 : List AOper := [
 oP 4 .mv [.c (.pv none (.int .i64 0))]]
def c65 : ACode := (.seq (.region true c65r0 [0,1]) (.seq (.region true c65r1 [0,1,5]) (.seq (.region true c65r2 [0,1,5,6]) (.seq (.seq (.region true c65r3 [0,1,6,11]) c65k8) (.seq (.seq (.region true c65r9 [0,1,13]) c65k11) (.seq (.seq (.region true c65r12 [0,1,16]) c65k14) (.seq (.seq (.region true c65r15 [19]) c65k17) (.seq (.region true c65r18 [4]) .ret))))))))
def g65 : AFn := ⟨2,[(4,none)],c65,false,[],[],none⟩
theorem tr65 : trFn Try.prog false 65 Try.f65 = some g65 := by kernel_rfl
def c66r0 : List AOper := [
 oP 4 .mv [.c (.pv none (.int .i64 0))]]
def c66r1 : List AOper := [
 oP 7 .mv [.t 0],
 oP 8 .call [.c (.pv none (.func (.func 78))),.t 7],
 oP 5 .mv [.t 8]]
def c66r2 : List AOper := [
 oP 9 .mv [.t 1],
 oP 10 .call [.c (.pv none (.func (.func 78))),.t 9],
 oP 6 .mv [.t 10]]
def c66r3 : List AOper := [
 oP 11 .mv [.t 5]]
def c66r4 : List AOper := [
 oP 12 .mv [.t 6]]
def c66r5 : List AOper := [
 oP 4 .mv [.c (.pv none (.int .i64 0))]]
def c66k6 : ACode := (.cond (.t 12) (.seq (.region true c66r5 [4]) .ret) .skip)
def c66r7 : List AOper := [
 oP 4 .mv [.c (.pv none (.int .i64 (-1)))]]
def c66k8 : ACode := (.cond (.t 11) (.seq (.seq (.region true c66r4 [12]) c66k6) (.seq (.region true c66r7 [4]) .ret)) .skip)
def c66r9 : List AOper := [
 oP 13 .mv [.t 6]]
def c66r10 : List AOper := [
 oP 4 .mv [.c (.pv none (.int .i64 1))]]
def c66k11 : ACode := (.cond (.t 13) (.seq (.region true c66r10 [4]) .ret) .skip)
def c66r12 : List AOper := [
 oP 14 .mv [.t 0],
 oP 15 .mv [.t 1],
 oP 16 (.bin .lss) [.t 14,.t 15]]
def c66r13 : List AOper := [
 oP 4 .mv [.c (.pv none (.int .i64 (-1)))]]
def c66k14 : ACode := (.cond (.t 16) (.seq (.region true c66r13 [4]) .ret) .skip)
def c66r15 : List AOper := [
 oP 17 .mv [.t 0],
 oP 18 .mv [.t 1],
 oP 19 (.bin .gtr) [.t 17,.t 18]]
def c66r16 : List AOper := [
 oP 4 .mv [.c (.pv none (.int .i64 1))]]
def c66k17 : ACode := (.cond (.t 19) (.seq (.region true c66r16 [4]) .ret) .skip)
def c66r18 : List AOper := [
 oP 4 .mv [.c (.pv none (.int .i64 0))]]
def c66 : ACode := (.seq (.region true c66r0 [0,1]) (.seq (.region true c66r1 [0,1,5]) (.seq (.region true c66r2 [0,1,5,6]) (.seq (.seq (.region true c66r3 [0,1,6,11]) c66k8) (.seq (.seq (.region true c66r9 [0,1,13]) c66k11) (.seq (.seq (.region true c66r12 [0,1,16]) c66k14) (.seq (.seq (.region true c66r15 [19]) c66k17) (.seq (.region true c66r18 [4]) .ret))))))))
def g66 : AFn := ⟨2,[(4,none)],c66,false,[],[],none⟩
theorem tr66 : trFn Try.prog false 66 Try.f66 = some g66 := by kernel_rfl
def c67r0 : List AOper := [
 oP 4 .mv [.c (.pv none (.int .i64 0))]]
def c67r1 : List AOper := [
 oP 5 .mv [.t 0],
 oP 6 .mv [.t 1],
 oP 7 .call [.c (.pv none (.func (.func 79))),.t 5,.t 6],
 oP 4 .mv [.t 7]]
def c67 : ACode := (.seq (.region true c67r0 [0,1]) (.seq (.region true c67r1 [4]) .ret))
def g67 : AFn := ⟨2,[(4,none)],c67,false,[],[],none⟩
theorem tr67 : trFn Try.prog false 67 Try.f67 = some g67 := by kernel_rfl
def c68r0 : List AOper := [
 oP 2 (.box (some 4)) [.t 0],
 oP 3 (.box (some 4)) [.t 1],
 oP 4 .mv [.c (.pv none (.int .i64 0))]]
def c68r1 : List AOper := [
 oP 5 (.faddr 3) [.t 2],
 oP 6 (.load none) [.t 5],
 oP 7 (.iaddr (some 4)) [.t 6,.c (.pv none (.int .i64 0))],
 oP 8 (.load (some 4)) [.t 7],
 oP 9 (.faddr 3) [.t 3],
 oP 10 (.load none) [.t 9],
 oP 11 (.iaddr (some 4)) [.t 10,.c (.pv none (.int .i64 0))],
 oP 12 (.load (some 4)) [.t 11],
 oP 13 .call [.c (.pv none (.func (.func 40))),.t 8,.t 12],
 oP 4 .mv [.t 13]]
def c68 : ACode := (.seq (.region true c68r0 [2,3]) (.seq (.region true c68r1 [4]) .ret))
def g68 : AFn := ⟨2,[(4,none)],c68,false,[],[],none⟩
theorem tr68 : trFn Try.prog false 68 Try.f68 = some g68 := by kernel_rfl
def c69r0 : List AOper := [
 oP 4 (.box (some 4)) [.t 1],
 oP 5 (.box (some 4)) [.t 2],
 oP 6 (.alloc none (.tsl (some 5) [])) [],
 oP 7 (.alloc none (.pv none (.int .i64 0))) []]
def c69r1 : List AOper := [
 oP 9 .mv [.t 0],
 oP 10 .call [.c (.pv none (.func (.func 80))),.t 9],
 oP 11 .not [.t 10],
 oP 12 .mv [.t 11],
 ⟨some 13,(.load (some 4)),[.t 4],some (12,false)⟩,
 ⟨some 14,.call,[.c (.pv none (.func (.func 16))),.t 13],some (12,false)⟩,
 ⟨some 15,.not,[.t 14],some (12,false)⟩,
 oP 16 .pick [.t 12,.c (.pv none (.bool true)),.t 15],
 oP 17 .mv [.t 16],
 ⟨some 18,(.load (some 4)),[.t 5],some (17,false)⟩,
 ⟨some 19,.call,[.c (.pv none (.func (.func 16))),.t 18],some (17,false)⟩,
 ⟨some 20,.not,[.t 19],some (17,false)⟩,
 oP 21 .pick [.t 17,.c (.pv none (.bool true)),.t 20]]
def c69r2 : List AOper := [
 ⟨none,(.store none),[.t 6,.c (.tsl (some 5) [])],none⟩,
 ⟨none,(.store none),[.t 7,.c (.pv none (.int .i64 1))],none⟩]
def c69k3 : ACode := (.cond (.t 21) (.seq (.region true c69r2 [6,7]) .ret) .skip)
def c69r4 : List AOper := [
 oP 22 (.mkfunc (.func 81) 0) [.t 6,.t 7]]
def c69r5 : List AOper := [
 oP 23 .mv [.t 0],
 oP 24 .call [.c (.pv none (.func (.func 82))),.t 23],
 oP 25 (.build [(none,(.tsl (some 5) []))] [0]) [.t 24],
 oP 26 (.box (some 1)) [.t 25],
 oP 8 .mv [.t 26]]
def c69r6 : List AOper := [
 oP 27 .mv [.t 8],
 oP 28 (.load (some 4)) [.t 4],
 oP 29 (.load (some 4)) [.t 5],
 oP 30 .call [.c (.pv none (.func (.func 83))),.t 27,.t 28,.t 29]]
def c69r7 : List AOper := [
 oP 31 .mv [.t 8],
 oP 32 .nilcheck [.t 31],
 oP 33 (.faddr 0) [.t 32],
 oP 34 (.load none) [.t 33],
 ⟨none,(.store none),[.t 6,.t 34],none⟩,
 ⟨none,(.store none),[.t 7,.c (.pv none (.int .i64 0))],none⟩]
def c69p8 : ACode := (.seq (.region true c69r5 [4,5,6,7,8]) (.seq (.region true c69r6 [6,7,8]) (.seq (.region true c69r7 [6,7]) (.seq .ret .skip))))
def c69 : ACode := (.seq (.region true c69r0 [0,4,5,6,7]) (.seq (.region true c69r1 [0,4,5,6,7,21]) (.seq c69k3 (.region true c69r4 [0,4,5,6,7,22]))))
def g69 : AFn := ⟨3,[(6,some none),(7,some none)],c69,false,[(.dfr 22,c69p8)],[],none⟩
theorem tr69 : trFn Try.prog false 69 Try.f69 = some g69 := by kernel_rfl
def c70r0 : List AOper := [
 oP 3 (.box (some 4)) [.t 1],
 oP 4 aZ [],
 oP 5 .mv [.c (.pv none (.int .i64 0))]]
def c70r1 : List AOper := [
 oP 6 .mv [.t 0],
 oP 7 .call [.c (.pv none (.func (.func 80))),.t 6],
 oP 8 .not [.t 7],
 oP 9 .mv [.t 8],
 ⟨some 10,(.load (some 4)),[.t 3],some (9,false)⟩,
 ⟨some 11,.call,[.c (.pv none (.func (.func 16))),.t 10],some (9,false)⟩,
 ⟨some 12,.not,[.t 11],some (9,false)⟩,
 oP 13 .pick [.t 9,.c (.pv none (.bool true)),.t 12]]
def c70r2 : List AOper := [
 oP 14 (bZ []) [],
 ⟨none,(.store (some 4)),[.t 4,.t 14],none⟩,
 oP 5 .mv [.c (.pv none (.int .i64 1))]]
def c70k3 : ACode := (.cond (.t 13) (.seq (.region true c70r2 [4,5]) .ret) .skip)
def c70r4 : List AOper := [
 oP 15 .mv [.t 0],
 oP 16 (.load (some 4)) [.t 3],
 oP 17 (.mkmap none) [],
 oP 18 .call [.c (.pv none (.func (.func 84))),.t 15,.t 16,.t 17],
 oP 19 (.bin .gtr) [.t 18,.c (.pv none (.int .i64 2000))]]
def c70r5 : List AOper := [
 oP 20 (bZ []) [],
 ⟨none,(.store (some 4)),[.t 4,.t 20],none⟩,
 oP 5 .mv [.c (.pv none (.int .i64 2))]]
def c70k6 : ACode := (.cond (.t 19) (.seq (.region true c70r5 [4,5]) .ret) .skip)
def c70r7 : List AOper := [
 oP 21 .mv [.t 0],
 oP 22 (.load (some 4)) [.t 3],
 oP 23 .call [.c (.pv none (.func (.func 85))),.t 21,.t 22],
 ⟨none,(.store (some 4)),[.t 4,.t 23],none⟩,
 oP 5 .mv [.c (.pv none (.int .i64 0))]]
def c70 : ACode := (.seq (.region true c70r0 [0,3,4]) (.seq (.seq (.region true c70r1 [0,3,4,13]) c70k3) (.seq (.seq (.region true c70r4 [0,3,4,19]) c70k6) (.seq (.region true c70r7 [4,5]) .ret))))
def g70 : AFn := ⟨2,[(4,some (some 4)),(5,none)],c70,false,[],[],none⟩
theorem tr70 : trFn Try.prog false 70 Try.f70 = some g70 := by kernel_rfl
def c71r0 : List AOper := [
 oP 4 (.load (some 4)) [.t 1],
 oP 5 .call [.c (.pv none (.func (.func 54))),.t 4,.c (.pv none (.str [94])),.c (.pv none (.int .i64 2))]]
def c71k1 : ACode := (.cond (.t 5) .skip (.exit 0))
def c71r2 : List AOper := [
 oP 6 (.faddr 3) [.t 1],
 oP 7 (.load none) [.t 6],
 oP 8 (.iaddr (some 4)) [.t 7,.c (.pv none (.int .i64 0))],
 oP 9 (.load (some 4)) [.t 8],
 oP 3 aZ [],
 ⟨none,(.store (some 4)),[.t 3,.t 9],none⟩]
def c71r3 : List AOper := [
 oP 10 (.faddr 3) [.t 1],
 oP 11 (.load none) [.t 10],
 oP 12 (.iaddr (some 4)) [.t 11,.c (.pv none (.int .i64 1))],
 oP 13 (.load (some 4)) [.t 12],
 ⟨none,(.store (some 4)),[.t 1,.t 13],none⟩]
def c71r4 : List AOper := [
 oP 14 .mv [.t 0],
 oP 15 (.load (some 4)) [.t 3],
 oP 16 (.load (some 4)) [.t 1],
 oP 17 .call [.t 14,.t 15,.t 16],
 oP 18 .not [.t 17]]
def c71k5 : ACode := (.cond (.t 18) .ret .skip)
def c71k6 : ACode := (.block 1 (.seq (.region true c71r2 [0,1,3]) (.seq (.region true c71r3 [0,1,3]) (.seq (.region true c71r4 [0,1,18]) c71k5))))
def c71b7 : ACode := (.seq (.seq (.region true c71r0 [0,1,5]) c71k1) c71k6)
def c71k8 : ACode := (.block 0 (.loop [0,1] c71b7))
def c71 : ACode := c71k8
def g71 : AFn := ⟨2,[],c71,true,[],[],none⟩
theorem tr71 : trFn Try.prog true 71 Try.f71 = some g71 := by kernel_rfl
def c72r0 : List AOper := [
 oP 4 aZ []]
def c72r1 : List AOper := [
 oP 5 .mv [.t 0],
 oP 6 .mv [.t 1],
 oP 7 .call [.c (.pv none (.func (.func 8))),.t 5,.t 6],
 oP 8 .call [.c (.pv none (.func (.func 32))),.c (.pv none (.str [91,93]))],
 oP 9 (.bslice (some 4)) [.t 7,.t 8],
 oP 10 .call [.c (.pv none (.func (.func 8))),.c (.pv none (.str [101,114,114,111,114])),.t 9],
 ⟨none,(.store (some 4)),[.t 4,.t 10],none⟩]
def c72 : ACode := (.seq (.region true c72r0 [0,1,4]) (.seq (.region true c72r1 [4]) .ret))
def g72 : AFn := ⟨2,[(4,some (some 4))],c72,false,[],[],none⟩
theorem tr72 : trFn Try.prog false 72 Try.f72 = some g72 := by kernel_rfl
def c73r0 : List AOper := [
 oP 3 (.box (some 4)) [.t 0],
 oP 6 aZ []]
def c73r1 : List AOper := [
 oP 10 (.load (some 4)) [.t 3],
 oP 11 .call [.c (.pv none (.func (.func 16))),.t 10],
 oP 12 .not [.t 11]]
def c73r2 : List AOper := [
 oP 13 (bZ []) [],
 ⟨none,(.store (some 4)),[.t 6,.t 13],none⟩]
def c73k3 : ACode := (.cond (.t 12) (.seq (.region true c73r2 [6]) .ret) .skip)
def c73r4 : List AOper := [
 oP 7 (.nilsl (some 4)) []]
def c73r5 : List AOper := [
 oP 14 .mv [.t 2],
 oP 15 .len [.t 14],
 oP 16 .mv [.c (.pv none (.int .i64 0))]]
def c73r6 : List AOper := [
 oP 17 (.bin .lss) [.t 16,.t 15]]
def c73k7 : ACode := (.cond (.t 17) .skip (.exit 0))
def c73r8 : List AOper := [
 oP 18 (.iaddr none) [.t 14,.t 16],
 oP 19 (.load none) [.t 18],
 oP 9 .mv [.t 19]]
def c73r9 : List AOper := [
 oP 20 .mv [.t 9],
 oP 21 .slen [.t 20],
 oP 22 (.bin .gtr) [.t 21,.c (.pv none (.int .i64 100))]]
def c73r10 : List AOper := [
 oP 23 (bZ []) [],
 ⟨none,(.store (some 4)),[.t 6,.t 23],none⟩]
def c73k11 : ACode := (.cond (.t 22) (.seq (.region true c73r10 [6]) .ret) .skip)
def c73r12 : List AOper := [
 oP 24 .mv [.t 7],
 oP 25 .mv [.t 9],
 oP 26 .call [.c (.pv none (.func (.func 32))),.t 25],
 oP 27 (.bslice (some 4)) [.t 26],
 oP 28 (.append (some 4)) [.t 24,.t 27],
 oP 7 .mv [.t 28]]
def c73k13 : ACode := (.block 1 (.seq (.region true c73r8 [1,2,3,6,7,9,14,15,16]) (.seq (.seq (.region true c73r9 [1,2,3,6,7,9,14,15,16,22]) c73k11) (.region true c73r12 [1,2,3,6,7,14,15,16]))))
def c73r14 : List AOper := [
 oP 29 (.bin .add) [.t 16,.c (.pv none (.int .i64 1))],
 oP 16 .mv [.t 29]]
def c73b15 : ACode := (.seq (.region true c73r6 [1,2,3,6,7,14,15,16,17]) (.seq c73k7 (.seq c73k13 (.region true c73r14 [1,2,3,6,7,14,15,16]))))
def c73k16 : ACode := (.block 0 (.loop [1,2,3,6,7,14,15,16] c73b15))
def c73r17 : List AOper := [
 oP 30 .mv [.t 2],
 oP 31 .len [.t 30],
 oP 32 (.bin .add) [.c (.pv none (.int .i64 3)),.t 31],
 oP 33 (.load (some 4)) [.t 3],
 oP 34 .call [.c (.pv none (.func (.func 18))),.t 33],
 oP 35 (.bin .add) [.t 32,.t 34],
 oP 36 (.bin .gtr) [.t 35,.c (.pv none (.int .i64 2000))]]
def c73r18 : List AOper := [
 oP 37 .call [.c (.pv none (.func (.func 32))),.c (.pv none (.str [46,46,46]))],
 ⟨none,(.store (some 4)),[.t 3,.t 37],none⟩]
def c73k19 : ACode := (.cond (.t 36) (.region true c73r18 [1,3,6,7]) .skip)
def c73r20 : List AOper := [
 oP 38 .mv [.t 1],
 oP 39 .mv [.t 7],
 oP 40 (.load (some 4)) [.t 3],
 oP 41 (.bslice (some 4)) [.t 40],
 oP 42 (.append (some 4)) [.t 39,.t 41],
 oP 43 .call [.c (.pv none (.func (.func 72))),.t 38,.t 42],
 ⟨none,(.store (some 4)),[.t 6,.t 43],none⟩]
def c73 : ACode := (.seq (.region true c73r0 [1,2,3,6]) (.seq (.seq (.region true c73r1 [1,2,3,6,12]) c73k3) (.seq (.region true c73r4 [1,2,3,6,7]) (.seq (.seq (.region true c73r5 [1,2,3,6,7,14,15,16]) c73k16) (.seq (.seq (.region true c73r17 [1,3,6,7,36]) c73k19) (.seq (.region true c73r20 [6]) .ret))))))
def g73 : AFn := ⟨3,[(6,some (some 4))],c73,false,[],[],none⟩
theorem tr73 : trFn Try.prog false 73 Try.f73 = some g73 := by kernel_rfl
def c74r0 : List AOper := [
 oP 1 (.box (some 4)) [.t 0],
 oP 2 .mv [.c (.pv none (.int .i64 0))]]
def c74r1 : List AOper := [
 oP 3 (.load (some 4)) [.t 1],
 oP 4 .call [.c (.pv none (.func (.func 86))),.t 3,.c (.pv none (.int .i64 2001))],
 oP 2 .mv [.t 4]]
def c74 : ACode := (.seq (.region true c74r0 [1]) (.seq (.region true c74r1 [2]) .ret))
def g74 : AFn := ⟨1,[(2,none)],c74,false,[],[],none⟩
theorem tr74 : trFn Try.prog false 74 Try.f74 = some g74 := by kernel_rfl
def c75r0 : List AOper := [
 oP 1 (.box (some 4)) [.t 0],
 oP 2 .mv [.c (.pv none (.bool false))]]
def c75r1 : List AOper := [
 oP 4 (.load (some 4)) [.t 1],
 oP 5 .call [.c (.pv none (.func (.func 87))),.t 4],
 oP 6 .not [.t 5]]
def c75r2 : List AOper := [
 oP 2 .mv [.c (.pv none (.bool false))]]
def c75k3 : ACode := (.cond (.t 6) (.seq (.region true c75r2 [2]) .ret) .skip)
def c75r4 : List AOper := [
 oP 3 .mv [.c (.pv none (.int .i64 0))]]
def c75r5 : List AOper := [
 oP 7 .mv [.t 3],
 oP 8 (.faddr 3) [.t 1],
 oP 9 (.load none) [.t 8],
 oP 10 .len [.t 9],
 oP 11 (.bin .lss) [.t 7,.t 10]]
def c75k6 : ACode := (.cond (.t 11) .skip (.exit 0))
def c75r7 : List AOper := [
 oP 14 (.faddr 3) [.t 1],
 oP 15 (.load none) [.t 14],
 oP 16 .mv [.t 3],
 oP 17 (.iaddr (some 4)) [.t 15,.t 16],
 oP 18 (.load (some 4)) [.t 17],
 oP 19 .call [.c (.pv none (.func (.func 75))),.t 18],
 oP 20 .not [.t 19]]
def c75r8 : List AOper := [
 oP 2 .mv [.c (.pv none (.bool false))]]
def c75k9 : ACode := (.cond (.t 20) (.seq (.region true c75r8 [2]) .ret) .skip)
def c75k10 : ACode := (.block 1 (.seq (.region true c75r7 [1,3,20]) c75k9))
def c75r11 : List AOper := [
 oP 12 .mv [.t 3],
 oP 13 (.bin .add) [.t 12,.c (.pv none (.int .i64 1))],
 oP 3 .mv [.t 13]]
def c75b12 : ACode := (.seq (.seq (.region true c75r5 [1,3,11]) c75k6) (.seq c75k10 (.region true c75r11 [1,3])))
def c75k13 : ACode := (.block 0 (.loop [1,3] c75b12))
def c75r14 : List AOper := [
 oP 2 .mv [.c (.pv none (.bool true))]]
def c75 : ACode := (.seq (.region true c75r0 [1]) (.seq (.seq (.region true c75r1 [1,6]) c75k3) (.seq (.seq (.region true c75r4 [1,3]) c75k13) (.seq (.region true c75r14 [2]) .ret))))
def g75 : AFn := ⟨1,[(2,none)],c75,false,[],[],none⟩
theorem tr75 : trFn Try.prog false 75 Try.f75 = some g75 := by kernel_rfl
def c76r0 : List AOper := [
 oP 4 .mv [.t 0],
 oP 5 .mv [.t 0],
 oP 6 .len [.t 5],
 oP 7 .mv [.t 1],
 oP 8 .call [.c (.pv none (.func (.func 88))),.t 4,.t 6,.t 7]]
def c76 : ACode := (.region true c76r0 [])
def g76 : AFn := ⟨2,[],c76,true,[],[],none⟩
theorem tr76 : trFn Try.prog true 76 Try.f76 = some g76 := by kernel_rfl
def c77r0 : List AOper := [
 oP 2 .mv [.c (.pv none (.bool false))]]
def c77r1 : List AOper := [
 oP 3 .mv [.t 0],
 oP 4 .mv [.t 0],
 oP 5 (.bin .neq) [.t 3,.t 4],
 oP 2 .mv [.t 5]]
def c77 : ACode := (.seq (.region true c77r0 [0]) (.seq (.region true c77r1 [2]) .ret))
def g77 : AFn := ⟨1,[(2,none)],c77,false,[],[],none⟩
theorem tr77 : trFn Try.prog false 77 Try.f77 = some g77 := by kernel_rfl
def c78r0 : List AOper := [
 oP 2 .mv [.c (.pv none (.bool false))]]
def c78r1 : List AOper := [
 oP 3 .mv [.t 0],
 oP 4 .mv [.t 0],
 oP 5 (.bin .neq) [.t 3,.t 4],
 oP 2 .mv [.t 5]]
def c78 : ACode := (.seq (.region true c78r0 [0]) (.seq (.region true c78r1 [2]) .ret))
def g78 : AFn := ⟨1,[(2,none)],c78,false,[],[],none⟩
theorem tr78 : trFn Try.prog false 78 Try.f78 = some g78 := by kernel_rfl
def c79r0 : List AOper := [
 oP 4 .mv [.c (.pv none (.int .i64 0))]]
def c79r1 : List AOper := [
 oP 5 .mv [.t 0],
 oP 6 .mv [.t 1],
 oP 7 .call [.c (.pv none (.func (.func 89))),.t 5,.t 6],
 oP 4 .mv [.t 7]]
def c79 : ACode := (.seq (.region true c79r0 [0,1]) (.seq (.region true c79r1 [4]) .ret))
def g79 : AFn := ⟨2,[(4,none)],c79,false,[],[],none⟩
theorem tr79 : trFn Try.prog false 79 Try.f79 = some g79 := by kernel_rfl
def c80r0 : List AOper := [
 oP 2 .mv [.c (.pv none (.bool false))]]
def c80r1 : List AOper := [
 oP 8 .mv [.t 0],
 oP 9 .len [.t 8],
 oP 10 .mv [.c (.pv none (.int .i64 0))]]
def c80r2 : List AOper := [
 oP 11 (.bin .lss) [.t 10,.t 9]]
def c80k3 : ACode := (.cond (.t 11) .skip (.exit 0))
def c80r4 : List AOper := [
 oP 12 .mv [.t 10],
 oP 13 (.iaddr (some 5)) [.t 8,.t 10],
 oP 14 (.load (some 5)) [.t 13],
 oP 4 (.alloc (some 5) (.agg [(none,(.pv none (.int .i64 0))),((some 4),(.agg [(none,(.pv none (.int .i64 0))),(none,(.pv none (.int .i64 0))),(none,(.pv none (.str []))),(none,(.tsl (some 4) []))]))])) [],
 oP 3 .mv [.t 12],
 ⟨none,(.store (some 5)),[.t 4,.t 14],none⟩]
def c80r5 : List AOper := [
 oP 15 (.faddr 0) [.t 4],
 oP 16 (.load none) [.t 15],
 oP 17 (.bin .lss) [.t 16,.c (.pv none (.int .i64 0))],
 oP 18 .mv [.t 17],
 ⟨some 19,(.faddr 0),[.t 4],some (18,false)⟩,
 ⟨some 20,(.load none),[.t 19],some (18,false)⟩,
 ⟨some 21,(.bin .gtr),[.t 20,.c (.pv none (.int .i64 1099511627776))],some (18,false)⟩,
 oP 22 .pick [.t 18,.c (.pv none (.bool true)),.t 21],
 oP 23 .mv [.t 22],
 ⟨some 24,.mv,[.t 3],some (23,false)⟩,
 ⟨some 25,(.bin .gtr),[.t 24,.c (.pv none (.int .i64 0))],some (23,false)⟩,
 ⟨some 26,.mv,[.t 25],some (23,false)⟩,
 ⟨some 27,.mv,[.t 0],some (26,true)⟩,
 ⟨some 28,.mv,[.t 3],some (26,true)⟩,
 ⟨some 29,(.bin .sub),[.t 28,.c (.pv none (.int .i64 1))],some (26,true)⟩,
 ⟨some 30,(.iaddr (some 5)),[.t 27,.t 29],some (26,true)⟩,
 ⟨some 31,(.faddr 0),[.t 30],some (26,true)⟩,
 ⟨some 32,(.load none),[.t 31],some (26,true)⟩,
 ⟨some 33,(.faddr 0),[.t 4],some (26,true)⟩,
 ⟨some 34,(.load none),[.t 33],some (26,true)⟩,
 ⟨some 35,(.bin .geq),[.t 32,.t 34],some (26,true)⟩,
 ⟨some 36,.pick,[.t 26,.t 35,.c (.pv none (.bool false))],some (23,false)⟩,
 oP 37 .pick [.t 23,.c (.pv none (.bool true)),.t 36],
 oP 38 .mv [.t 37],
 ⟨some 39,(.faddr 1),[.t 4],some (38,false)⟩,
 ⟨some 40,(.load (some 4)),[.t 39],some (38,false)⟩,
 ⟨some 41,.call,[.c (.pv none (.func (.func 16))),.t 40],some (38,false)⟩,
 ⟨some 42,.not,[.t 41],some (38,false)⟩,
 oP 43 .pick [.t 38,.c (.pv none (.bool true)),.t 42]]
def c80r6 : List AOper := [
 oP 2 .mv [.c (.pv none (.bool false))]]
def c80k7 : ACode := (.cond (.t 43) (.seq (.region true c80r6 [2]) .ret) .skip)
def c80k8 : ACode := (.block 1 (.seq (.region true c80r4 [0,3,4,8,9,10]) (.seq (.region true c80r5 [0,8,9,10,43]) c80k7)))
def c80r9 : List AOper := [
 oP 44 (.bin .add) [.t 10,.c (.pv none (.int .i64 1))],
 oP 10 .mv [.t 44]]
def c80b10 : ACode := (.seq (.region true c80r2 [0,8,9,10,11]) (.seq c80k3 (.seq c80k8 (.region true c80r9 [0,8,9,10]))))
def c80k11 : ACode := (.block 0 (.loop [0,8,9,10] c80b10))
def c80r12 : List AOper := [
 oP 45 (.mkmap none) [],
 oP 5 .mv [.t 45]]
def c80r13 : List AOper := [
 oP 46 .mv [.t 0],
 oP 47 .len [.t 46],
 oP 48 .mv [.c (.pv none (.int .i64 0))]]
def c80r14 : List AOper := [
 oP 49 (.bin .lss) [.t 48,.t 47]]
def c80k15 : ACode := (.cond (.t 49) .skip (.exit 2))
def c80r16 : List AOper := [
 oP 50 (.iaddr (some 5)) [.t 46,.t 48],
 oP 51 (.load (some 5)) [.t 50],
 oP 7 (.alloc (some 5) (.agg [(none,(.pv none (.int .i64 0))),((some 4),(.agg [(none,(.pv none (.int .i64 0))),(none,(.pv none (.int .i64 0))),(none,(.pv none (.str []))),(none,(.tsl (some 4) []))]))])) [],
 ⟨none,(.store (some 5)),[.t 7,.t 51],none⟩]
def c80r17 : List AOper := [
 oP 52 .mv [.t 0],
 oP 53 (.faddr 0) [.t 7],
 oP 54 (.load none) [.t 53],
 oP 55 .mv [.t 5],
 oP 56 .call [.c (.pv none (.func (.func 90))),.t 52,.t 54,.t 55]]
def c80r18 : List AOper := [
 oP 2 .mv [.c (.pv none (.bool false))]]
def c80k19 : ACode := (.cond (.t 56) (.seq (.region true c80r18 [2]) .ret) .skip)
def c80k20 : ACode := (.block 3 (.seq (.region true c80r16 [0,5,7,46,47,48]) (.seq (.region true c80r17 [0,5,46,47,48,56]) c80k19)))
def c80r21 : List AOper := [
 oP 57 (.bin .add) [.t 48,.c (.pv none (.int .i64 1))],
 oP 48 .mv [.t 57]]
def c80b22 : ACode := (.seq (.region true c80r14 [0,5,46,47,48,49]) (.seq c80k15 (.seq c80k20 (.region true c80r21 [0,5,46,47,48]))))
def c80k23 : ACode := (.block 2 (.loop [0,5,46,47,48] c80b22))
def c80r24 : List AOper := [
 oP 2 .mv [.c (.pv none (.bool true))]]
def c80 : ACode := (.seq (.region true c80r0 [0]) (.seq (.seq (.region true c80r1 [0,8,9,10]) c80k11) (.seq (.region true c80r12 [0,5]) (.seq (.seq (.region true c80r13 [0,5,46,47,48]) c80k23) (.seq (.region true c80r24 [2]) .ret)))))
def g80 : AFn := ⟨1,[(2,none)],c80,false,[],[],none⟩
theorem tr80 : trFn Try.prog false 80 Try.f80 = some g80 := by kernel_rfl
def c81r0 : List AOper := [
 oP 2 .mv [.t 5]]
def c81r1 : List AOper := [
 oP 7 .mv [.t 2],
 oP 8 (.assert 89 (some 1) (.pv (some 1) (.agg [(none,(.int .i64 0))])) true) [.t 7],
 oP 6 .mv [.t 8],
 oP 9 (.extract 0) [.t 6],
 oP 10 (.extract 1) [.t 6],
 oP 3 (.alloc (some 1) (.pv (some 1) (.agg [(none,(.int .i64 0))]))) [],
 ⟨none,(.store (some 1)),[.t 3,.t 9],none⟩,
 oP 4 .mv [.t 10]]
def c81r2 : List AOper := [
 oP 11 .mv [.t 4]]
def c81r3 : List AOper := [
 oP 12 (.faddr 0) [.t 3],
 oP 13 (.load none) [.t 12],
 ⟨none,(.storen none),[.t 0,.c (.tsl (some 5) []),.t 12],none⟩,
 ⟨none,(.store none),[.t 1,.t 13],none⟩]
def c81r4 : List AOper := [
 oP 14 .mv [.t 2],
 oP 15 (.isnil true) [.t 14]]
def c81r5 : List AOper := [
 oP 16 .mv [.t 2],
 ⟨none,.panic,[.t 16],none⟩]
def c81k6 : ACode := (.cond (.t 15) (.region true c81r5 []) .skip)
def c81k7 : ACode := (.cond (.t 11) (.region true c81r3 []) (.seq (.region true c81r4 [2,15]) c81k6))
def c81 : ACode := (.seq (.region true c81r0 [0,1,2]) (.seq (.region true c81r1 [0,1,2,3,4]) (.seq (.region true c81r2 [0,1,2,3,11]) (.seq c81k7 .skip))))
def g81 : AFn := ⟨2,[],c81,true,[],[],some 5⟩
theorem tr81 : trFn Try.prog true 81 Try.f81 = some g81 := by kernel_rfl
def c82r0 : List AOper := [
 oP 2 (.nilsl (some 5)) []]
def c82r1 : List AOper := [
 oP 3 (.nilsl (some 5)) []]
def c82r2 : List AOper := [
 oP 6 .mv [.t 0],
 oP 7 .len [.t 6],
 oP 8 .mv [.c (.pv none (.int .i64 0))]]
def c82r3 : List AOper := [
 oP 9 (.bin .lss) [.t 8,.t 7]]
def c82k4 : ACode := (.cond (.t 9) .skip (.exit 0))
def c82r5 : List AOper := [
 oP 10 (.iaddr (some 5)) [.t 6,.t 8],
 oP 11 (.load (some 5)) [.t 10],
 oP 5 (.alloc (some 5) (.agg [(none,(.pv none (.int .i64 0))),((some 4),(.agg [(none,(.pv none (.int .i64 0))),(none,(.pv none (.int .i64 0))),(none,(.pv none (.str []))),(none,(.tsl (some 4) []))]))])) [],
 ⟨none,(.store (some 5)),[.t 5,.t 11],none⟩]
def c82r6 : List AOper := [
 oP 12 .mv [.t 3],
 oP 13 (.faddr 0) [.t 5],
 oP 14 (.load none) [.t 13],
 oP 15 (.faddr 1) [.t 5],
 oP 16 (.load (some 4)) [.t 15],
 oP 17 .callh [.c (.pv none (.func (.func 29))),.t 16],
 oP 18 (.build [(none,(.pv none (.int .i64 0))),((some 4),(.agg [(none,(.pv none (.int .i64 0))),(none,(.pv none (.int .i64 0))),(none,(.pv none (.str []))),(none,(.tsl (some 4) []))]))] [0,1]) [.t 14,.t 17],
 oP 19 (.bslice (some 5)) [.t 18],
 oP 20 (.append (some 5)) [.t 12,.t 19],
 oP 3 .mv [.t 20]]
def c82k7 : ACode := (.block 1 (.seq (.region true c82r5 [3,5,6,7,8]) (.region true c82r6 [3,6,7,8])))
def c82r8 : List AOper := [
 oP 21 (.bin .add) [.t 8,.c (.pv none (.int .i64 1))],
 oP 8 .mv [.t 21]]
def c82b9 : ACode := (.seq (.region true c82r3 [3,6,7,8,9]) (.seq c82k4 (.seq c82k7 (.region true c82r8 [3,6,7,8]))))
def c82k10 : ACode := (.block 0 (.loop [3,6,7,8] c82b9))
def c82r11 : List AOper := [
 oP 22 .mv [.t 3],
 oP 2 .mv [.t 22]]
def c82 : ACode := (.seq (.region true c82r0 [0]) (.seq (.region true c82r1 [0,3]) (.seq (.seq (.region true c82r2 [3,6,7,8]) c82k10) (.seq (.region true c82r11 [2]) .ret))))
def g82 : AFn := ⟨1,[(2,none)],c82,true,[],[],none⟩
theorem tr82 : trFn Try.prog true 82 Try.f82 = some g82 := by kernel_rfl
def c83r0 : List AOper := [
 oP 4 (.box (some 4)) [.t 1],
 oP 5 (.box (some 4)) [.t 2]]
def c83r1 : List AOper := [
 oP 12 (.load (some 4)) [.t 4],
 oP 13 (.load (some 4)) [.t 5],
 oP 14 (.build [((some 4),(.agg [(none,(.pv none (.int .i64 0))),(none,(.pv none (.int .i64 0))),(none,(.pv none (.str []))),(none,(.tsl (some 4) []))])),((some 4),(.agg [(none,(.pv none (.int .i64 0))),(none,(.pv none (.int .i64 0))),(none,(.pv none (.str []))),(none,(.tsl (some 4) []))]))] [0,1]) [.t 12,.t 13],
 oP 15 (.bslo (some 8)) [.t 14],
 oP 6 .mv [.t 15]]
def c83r2 : List AOper := [
 oP 7 .mv [.c (.pv none (.int .i64 0))]]
def c83r3 : List AOper := [
 oP 16 .mv [.t 6],
 oP 17 .len [.t 16],
 oP 18 (.bin .gtr) [.t 17,.c (.pv none (.int .i64 0))]]
def c83k4 : ACode := (.cond (.t 18) .skip (.exit 0))
def c83r5 : List AOper := [
 oP 21 .mv [.t 7],
 oP 22 (.bin .eql) [.t 21,.c (.pv none (.int .i64 1048576))]]
def c83r6 : List AOper := [
 oP 23 (.build [(none,(.pv none (.int .i64 0)))] [0]) [.c (.pv none (.int .i64 2))],
 oP 24 (.mkiface 89) [.t 23],
 ⟨none,.panic,[.t 24],none⟩]
def c83k7 : ACode := (.cond (.t 22) (.region true c83r6 [0,6,7]) .skip)
def c83r8 : List AOper := [
 oP 25 .mv [.t 6],
 oP 26 .mv [.t 6],
 oP 27 .len [.t 26],
 oP 28 (.bin .sub) [.t 27,.c (.pv none (.int .i64 1))],
 oP 29 (.iaddr (some 8)) [.t 25,.t 28],
 oP 30 (.load (some 8)) [.t 29],
 oP 8 (.alloc (some 8) (.agg [((some 4),(.agg [(none,(.pv none (.int .i64 0))),(none,(.pv none (.int .i64 0))),(none,(.pv none (.str []))),(none,(.tsl (some 4) []))])),((some 4),(.agg [(none,(.pv none (.int .i64 0))),(none,(.pv none (.int .i64 0))),(none,(.pv none (.str []))),(none,(.tsl (some 4) []))]))])) [],
 ⟨none,(.store (some 8)),[.t 8,.t 30],none⟩]
def c83r9 : List AOper := [
 oP 31 .mv [.t 6],
 oP 32 .mv [.t 6],
 oP 33 .len [.t 32],
 oP 34 (.bin .sub) [.t 33,.c (.pv none (.int .i64 1))],
 oP 35 (.slice (some 8) false true) [.t 31,.t 34],
 oP 6 .mv [.t 35]]
def c83r10 : List AOper := [
 oP 36 .mv [.t 0],
 oP 37 .nilcheck [.t 36],
 oP 38 (.faddr 0) [.t 37],
 oP 39 (.load none) [.t 38],
 oP 40 (.iaddrA (some 4) 2) [.t 8,.c (.pv none (.int .i64 0))],
 oP 41 (.load (some 4)) [.t 40],
 oP 42 .callg [.c (.pv none (.func (.func 91))),.t 39,.t 41],
 oP 43 .mv [.t 0],
 oP 44 .nilcheck [.t 43],
 oP 45 (.faddr 0) [.t 44],
 oP 46 (.load none) [.t 45],
 oP 47 (.iaddrA (some 4) 2) [.t 8,.c (.pv none (.int .i64 1))],
 oP 48 (.load (some 4)) [.t 47],
 oP 49 .call [.c (.pv none (.func (.func 91))),.t 46,.t 48],
 oP 9 aZ [],
 oP 10 aZ [],
 ⟨none,(.store (some 4)),[.t 9,.t 42],none⟩,
 ⟨none,(.store (some 4)),[.t 10,.t 49],none⟩]
def c83r11 : List AOper := [
 oP 50 .mv [.t 0],
 oP 51 (.load (some 4)) [.t 9],
 oP 52 (.load (some 4)) [.t 10],
 oP 53 .call [.c (.pv none (.func (.func 92))),.t 50,.t 51,.t 52]]
def c83r12 : List AOper := [
 oP 54 (.faddr 3) [.t 9],
 oP 55 (.load none) [.t 54],
 oP 56 .len [.t 55],
 oP 57 (.bin .sub) [.t 56,.c (.pv none (.int .i64 1))],
 oP 11 .mv [.t 57]]
def c83r13 : List AOper := [
 oP 58 .mv [.t 11],
 oP 59 (.bin .geq) [.t 58,.c (.pv none (.int .i64 0))]]
def c83k14 : ACode := (.cond (.t 59) .skip (.exit 2))
def c83r15 : List AOper := [
 oP 62 .mv [.t 6],
 oP 63 (.faddr 3) [.t 9],
 oP 64 (.load none) [.t 63],
 oP 65 .mv [.t 11],
 oP 66 (.iaddr (some 4)) [.t 64,.t 65],
 oP 67 (.load (some 4)) [.t 66],
 oP 68 (.faddr 3) [.t 10],
 oP 69 (.load none) [.t 68],
 oP 70 .mv [.t 11],
 oP 71 (.iaddr (some 4)) [.t 69,.t 70],
 oP 72 (.load (some 4)) [.t 71],
 oP 73 (.build [((some 4),(.agg [(none,(.pv none (.int .i64 0))),(none,(.pv none (.int .i64 0))),(none,(.pv none (.str []))),(none,(.tsl (some 4) []))])),((some 4),(.agg [(none,(.pv none (.int .i64 0))),(none,(.pv none (.int .i64 0))),(none,(.pv none (.str []))),(none,(.tsl (some 4) []))]))] [0,1]) [.t 67,.t 72],
 oP 74 (.bslice (some 8)) [.t 73],
 oP 75 (.append (some 8)) [.t 62,.t 74],
 oP 6 .mv [.t 75]]
def c83k16 : ACode := (.block 3 (.region true c83r15 [0,6,7,9,10,11]))
def c83r17 : List AOper := [
 oP 60 .mv [.t 11],
 oP 61 (.bin .sub) [.t 60,.c (.pv none (.int .i64 1))],
 oP 11 .mv [.t 61]]
def c83b18 : ACode := (.seq (.seq (.region true c83r13 [0,6,7,9,10,11,59]) c83k14) (.seq c83k16 (.region true c83r17 [0,6,7,9,10,11])))
def c83k19 : ACode := (.block 2 (.loop [0,6,7,9,10,11] c83b18))
def c83k20 : ACode := (.cond (.t 53) (.seq (.region true c83r12 [0,6,7,9,10,11]) c83k19) .skip)
def c83k21 : ACode := (.block 1 (.seq (.seq (.region true c83r5 [0,6,7,22]) c83k7) (.seq (.region true c83r8 [0,6,7,8]) (.seq (.region true c83r9 [0,6,7,8]) (.seq (.region false c83r10 [0,6,7,9,10]) (.seq (.region true c83r11 [0,6,7,9,10,53]) c83k20))))))
def c83r22 : List AOper := [
 oP 19 .mv [.t 7],
 oP 20 (.bin .add) [.t 19,.c (.pv none (.int .i64 1))],
 oP 7 .mv [.t 20]]
def c83b23 : ACode := (.seq (.seq (.region true c83r3 [0,6,7,18]) c83k4) (.seq c83k21 (.region true c83r22 [0,6,7])))
def c83k24 : ACode := (.block 0 (.loop [0,6,7] c83b23))
def c83 : ACode := (.seq (.region true c83r0 [0,4,5]) (.seq (.region true c83r1 [0,6]) (.seq (.region true c83r2 [0,6,7]) c83k24)))
def g83 : AFn := ⟨3,[],c83,true,[],[],none⟩
theorem tr83 : trFn Try.prog true 83 Try.f83 = some g83 := by kernel_rfl
def c84r0 : List AOper := [
 oP 4 (.box (some 4)) [.t 1],
 oP 6 .mv [.c (.pv none (.int .i64 0))]]
def c84r1 : List AOper := [
 oP 13 .mv [.t 0],
 oP 14 (.load (some 4)) [.t 4],
 oP 15 .call [.c (.pv none (.func (.func 93))),.t 13,.t 14],
 oP 12 .mv [.t 15],
 oP 16 (.extract 0) [.t 12],
 oP 17 (.extract 1) [.t 12],
 oP 7 aZ [],
 ⟨none,(.store (some 4)),[.t 7,.t 16],none⟩,
 oP 8 .mv [.t 17]]
def c84r2 : List AOper := [
 oP 18 .mv [.t 8]]
def c84r3 : List AOper := [
 oP 19 .mv [.t 2],
 oP 20 (.faddr 1) [.t 4],
 oP 21 (.load none) [.t 20],
 oP 22 (.lookup false none (.pv none (.int .i64 0)) false) [.t 19,.t 21],
 oP 23 (.bin .eql) [.t 22,.c (.pv none (.int .i64 0))]]
def c84r4 : List AOper := [
 oP 24 .mv [.t 2],
 oP 25 (.faddr 1) [.t 4],
 oP 26 (.load none) [.t 25],
 oP 27 .mv [.t 0],
 oP 28 (.load (some 4)) [.t 7],
 oP 29 .mv [.t 2],
 oP 30 (.calln 1) [.t 25,.c (.pv none (.func (.func 84))),.t 27,.t 28,.t 29],
 ⟨none,(.mapset false none),[.t 24,.t 26,.t 30],none⟩]
def c84k5 : ACode := (.cond (.t 23) (.region false c84r4 [2,4]) .skip)
def c84r6 : List AOper := [
 oP 31 .mv [.t 2],
 oP 32 (.faddr 1) [.t 4],
 oP 33 (.load none) [.t 32],
 oP 34 (.lookup false none (.pv none (.int .i64 0)) false) [.t 31,.t 33],
 oP 6 .mv [.t 34]]
def c84k7 : ACode := (.cond (.t 18) (.seq (.seq (.region true c84r3 [0,2,4,7,23]) c84k5) (.seq (.region true c84r6 [6]) .ret)) .skip)
def c84r8 : List AOper := [
 oP 9 .mv [.c (.pv none (.int .i64 1))]]
def c84r9 : List AOper := [
 oP 35 (.faddr 3) [.t 4],
 oP 36 (.load none) [.t 35],
 oP 37 .len [.t 36],
 oP 38 .mv [.c (.pv none (.int .i64 0))]]
def c84r10 : List AOper := [
 oP 39 (.bin .lss) [.t 38,.t 37]]
def c84k11 : ACode := (.cond (.t 39) .skip (.exit 0))
def c84r12 : List AOper := [
 oP 40 (.iaddr (some 4)) [.t 36,.t 38],
 oP 41 (.load (some 4)) [.t 40],
 oP 11 aZ [],
 ⟨none,(.store (some 4)),[.t 11,.t 41],none⟩]
def c84r13 : List AOper := [
 oP 42 .mv [.t 9],
 oP 43 .mv [.t 0],
 oP 44 (.load (some 4)) [.t 11],
 oP 45 .mv [.t 2],
 oP 46 .call [.c (.pv none (.func (.func 84))),.t 43,.t 44,.t 45],
 oP 47 (.bin .add) [.t 42,.t 46],
 oP 48 .min [.t 47,.c (.pv none (.int .i64 2001))],
 oP 9 .mv [.t 48]]
def c84k14 : ACode := (.block 1 (.seq (.region true c84r12 [0,2,9,11,36,37,38]) (.region true c84r13 [0,2,9,36,37,38])))
def c84r15 : List AOper := [
 oP 49 (.bin .add) [.t 38,.c (.pv none (.int .i64 1))],
 oP 38 .mv [.t 49]]
def c84b16 : ACode := (.seq (.region true c84r10 [0,2,9,36,37,38,39]) (.seq c84k11 (.seq c84k14 (.region true c84r15 [0,2,9,36,37,38]))))
def c84k17 : ACode := (.block 0 (.loop [0,2,9,36,37,38] c84b16))
def c84r18 : List AOper := [
 oP 50 .mv [.t 9],
 oP 6 .mv [.t 50]]
def c84 : ACode := (.seq (.region true c84r0 [0,2,4]) (.seq (.seq (.region true c84r1 [0,2,4,7,8]) (.seq (.region true c84r2 [0,2,4,7,18]) c84k7)) (.seq (.region true c84r8 [0,2,4,9]) (.seq (.seq (.region true c84r9 [0,2,9,36,37,38]) c84k17) (.seq (.region true c84r18 [6]) .ret)))))
def g84 : AFn := ⟨3,[(6,none)],c84,true,[],[],none⟩
theorem tr84 : trFn Try.prog true 84 Try.f84 = some g84 := by kernel_rfl
def c85r0 : List AOper := [
 oP 3 (.box (some 4)) [.t 1],
 oP 4 aZ []]
def c85r1 : List AOper := [
 oP 11 .mv [.t 0],
 oP 12 (.load (some 4)) [.t 3],
 oP 13 .call [.c (.pv none (.func (.func 93))),.t 11,.t 12],
 oP 10 .mv [.t 13],
 oP 14 (.extract 0) [.t 10],
 oP 15 (.extract 1) [.t 10],
 oP 5 aZ [],
 ⟨none,(.store (some 4)),[.t 5,.t 14],none⟩,
 oP 6 .mv [.t 15]]
def c85r2 : List AOper := [
 oP 16 .mv [.t 6]]
def c85r3 : List AOper := [
 oP 17 .mv [.t 0],
 oP 18 (.load (some 4)) [.t 5],
 oP 19 .call [.c (.pv none (.func (.func 85))),.t 17,.t 18],
 ⟨none,(.store (some 4)),[.t 4,.t 19],none⟩]
def c85k4 : ACode := (.cond (.t 16) (.seq (.region true c85r3 [4]) .ret) .skip)
def c85r5 : List AOper := [
 oP 20 (.faddr 0) [.t 3],
 oP 21 (.load none) [.t 20],
 oP 22 (.faddr 1) [.t 3],
 oP 23 (.load none) [.t 22],
 oP 24 (.faddr 2) [.t 3],
 oP 25 (.load none) [.t 24],
 oP 26 (bZ [0,1,2]) [.t 21,.t 23,.t 25],
 oP 7 aZ [],
 ⟨none,(.store (some 4)),[.t 7,.t 26],none⟩]
def c85r6 : List AOper := [
 oP 27 (.faddr 3) [.t 3],
 oP 28 (.load none) [.t 27],
 oP 29 .len [.t 28],
 oP 30 .mv [.c (.pv none (.int .i64 0))]]
def c85r7 : List AOper := [
 oP 31 (.bin .lss) [.t 30,.t 29]]
def c85k8 : ACode := (.cond (.t 31) .skip (.exit 0))
def c85r9 : List AOper := [
 oP 32 (.iaddr (some 4)) [.t 28,.t 30],
 oP 33 (.load (some 4)) [.t 32],
 oP 9 aZ [],
 ⟨none,(.store (some 4)),[.t 9,.t 33],none⟩]
def c85r10 : List AOper := [
 oP 34 (.faddr 3) [.t 7],
 oP 35 (.load none) [.t 34],
 oP 36 .mv [.t 0],
 oP 37 (.load (some 4)) [.t 9],
 oP 38 .callp [.c (.pv none (.func (.func 85))),.t 36,.t 37],
 oP 39 (.bslicep (some 4)) [.t 38],
 oP 40 (.append (some 4)) [.t 35,.t 39],
 oP 41 (.faddr 3) [.t 7],
 ⟨none,(.store none),[.t 41,.t 40],none⟩]
def c85k11 : ACode := (.block 1 (.seq (.region true c85r9 [0,4,7,9,28,29,30]) (.seq (.settle [0,9]) (.region true c85r10 [0,4,7,28,29,30]))))
def c85r12 : List AOper := [
 oP 42 (.bin .add) [.t 30,.c (.pv none (.int .i64 1))],
 oP 30 .mv [.t 42]]
def c85b13 : ACode := (.seq (.region true c85r7 [0,4,7,28,29,30,31]) (.seq c85k8 (.seq c85k11 (.region true c85r12 [0,4,7,28,29,30]))))
def c85k14 : ACode := (.block 0 (.loop [0,4,7,28,29,30] c85b13))
def c85r15 : List AOper := [
 oP 43 (.load (some 4)) [.t 7],
 ⟨none,(.store (some 4)),[.t 4,.t 43],none⟩]
def c85 : ACode := (.seq (.region true c85r0 [0,3,4]) (.seq (.seq (.region true c85r1 [0,3,4,5,6]) (.seq (.region true c85r2 [0,3,4,5,16]) c85k4)) (.seq (.region true c85r5 [0,3,4,7]) (.seq (.seq (.region true c85r6 [0,4,7,28,29,30]) c85k14) (.seq (.region true c85r15 [4]) .ret)))))
def g85 : AFn := ⟨2,[(4,some (some 4))],c85,false,[],[],none⟩
theorem tr85 : trFn Try.prog false 85 Try.f85 = some g85 := by kernel_rfl
def c86r0 : List AOper := [
 oP 2 (.box (some 4)) [.t 0],
 oP 4 .mv [.c (.pv none (.int .i64 0))]]
def c86r1 : List AOper := [
 oP 5 .mv [.c (.pv none (.int .i64 1))]]
def c86r2 : List AOper := [
 oP 6 .mv [.c (.pv none (.int .i64 0))]]
def c86r3 : List AOper := [
 oP 7 .mv [.t 6],
 oP 8 (.faddr 3) [.t 2],
 oP 9 (.load none) [.t 8],
 oP 10 .len [.t 9],
 oP 11 (.bin .lss) [.t 7,.t 10],
 oP 12 .mv [.t 11],
 ⟨some 13,.mv,[.t 5],some (12,true)⟩,
 ⟨some 14,.mv,[.t 1],some (12,true)⟩,
 ⟨some 15,(.bin .lss),[.t 13,.t 14],some (12,true)⟩,
 oP 16 .pick [.t 12,.t 15,.c (.pv none (.bool false))]]
def c86k4 : ACode := (.cond (.t 16) .skip (.exit 0))
def c86r5 : List AOper := [
 oP 19 .mv [.t 5],
 oP 20 (.faddr 3) [.t 2],
 oP 21 (.load none) [.t 20],
 oP 22 .mv [.t 6],
 oP 23 (.iaddr (some 4)) [.t 21,.t 22],
 oP 24 (.load (some 4)) [.t 23],
 oP 25 .mv [.t 1],
 oP 26 .mv [.t 5],
 oP 27 (.bin .sub) [.t 25,.t 26],
 oP 28 .call [.c (.pv none (.func (.func 86))),.t 24,.t 27],
 oP 29 (.bin .add) [.t 19,.t 28],
 oP 5 .mv [.t 29]]
def c86k6 : ACode := (.block 1 (.region true c86r5 [1,2,5,6]))
def c86r7 : List AOper := [
 oP 17 .mv [.t 6],
 oP 18 (.bin .add) [.t 17,.c (.pv none (.int .i64 1))],
 oP 6 .mv [.t 18]]
def c86b8 : ACode := (.seq (.seq (.region true c86r3 [1,2,5,6,16]) c86k4) (.seq c86k6 (.region true c86r7 [1,2,5,6])))
def c86k9 : ACode := (.block 0 (.loop [1,2,5,6] c86b8))
def c86r10 : List AOper := [
 oP 30 .mv [.t 5],
 oP 4 .mv [.t 30]]
def c86 : ACode := (.seq (.region true c86r0 [1,2]) (.seq (.region true c86r1 [1,2,5]) (.seq (.seq (.region true c86r2 [1,2,5,6]) c86k9) (.seq (.region true c86r10 [4]) .ret))))
def g86 : AFn := ⟨2,[(4,none)],c86,false,[],[],none⟩
theorem tr86 : trFn Try.prog false 86 Try.f86 = some g86 := by kernel_rfl
def c87r0 : List AOper := [
 oP 1 (.box (some 4)) [.t 0],
 oP 2 .mv [.c (.pv none (.bool false))]]
def c87r1 : List AOper := [
 oP 3 (.faddr 0) [.t 1],
 oP 4 (.load none) [.t 3]]
def c87r2 : List AOper := [
 oP 6 (.bin .eql) [.t 4,.c (.pv none (.int .i64 0))],
 oP 5 .mv [.t 6]]
def c87r3 : List AOper := [
 oP 7 (.faddr 1) [.t 1],
 oP 8 (.load none) [.t 7],
 oP 9 (.bin .geq) [.t 8,.c (.pv none (.int .i64 0))],
 oP 10 .mv [.t 9],
 ⟨some 11,(.faddr 1),[.t 1],some (10,true)⟩,
 ⟨some 12,(.load none),[.t 11],some (10,true)⟩,
 ⟨some 13,(.bin .leq),[.t 12,.c (.pv none (.int .i64 1099511627776))],some (10,true)⟩,
 oP 14 .pick [.t 10,.t 13,.c (.pv none (.bool false))],
 oP 15 .mv [.t 14],
 ⟨some 16,(.faddr 2),[.t 1],some (15,true)⟩,
 ⟨some 17,(.load none),[.t 16],some (15,true)⟩,
 ⟨some 18,(.bin .eql),[.t 17,.c (.pv none (.str []))],some (15,true)⟩,
 oP 19 .pick [.t 15,.t 18,.c (.pv none (.bool false))],
 oP 20 .mv [.t 19],
 ⟨some 21,(.faddr 3),[.t 1],some (20,true)⟩,
 ⟨some 22,(.load none),[.t 21],some (20,true)⟩,
 ⟨some 23,.len,[.t 22],some (20,true)⟩,
 ⟨some 24,(.bin .eql),[.t 23,.c (.pv none (.int .i64 0))],some (20,true)⟩,
 oP 25 .pick [.t 20,.t 24,.c (.pv none (.bool false))],
 oP 2 .mv [.t 25]]
def c87r4 : List AOper := [
 oP 27 (.bin .eql) [.t 4,.c (.pv none (.int .i64 1))],
 oP 26 .mv [.t 27]]
def c87r5 : List AOper := [
 oP 28 (.faddr 2) [.t 1],
 oP 29 (.load none) [.t 28],
 oP 30 (.bin .eql) [.t 29,.c (.pv none (.str []))],
 oP 31 .mv [.t 30],
 ⟨some 32,(.faddr 3),[.t 1],some (31,true)⟩,
 ⟨some 33,(.load none),[.t 32],some (31,true)⟩,
 ⟨some 34,.len,[.t 33],some (31,true)⟩,
 ⟨some 35,(.bin .eql),[.t 34,.c (.pv none (.int .i64 0))],some (31,true)⟩,
 oP 36 .pick [.t 31,.t 35,.c (.pv none (.bool false))],
 oP 2 .mv [.t 36]]
def c87r6 : List AOper := [
 oP 38 (.bin .eql) [.t 4,.c (.pv none (.int .i64 2))],
 oP 37 .mv [.t 38]]
def c87r7 : List AOper := [
 oP 39 (.faddr 1) [.t 1],
 oP 40 (.load none) [.t 39],
 oP 41 (.bin .eql) [.t 40,.c (.pv none (.int .i64 0))],
 oP 42 .mv [.t 41],
 ⟨some 43,(.faddr 2),[.t 1],some (42,true)⟩,
 ⟨some 44,(.load none),[.t 43],some (42,true)⟩,
 ⟨some 45,.slen,[.t 44],some (42,true)⟩,
 ⟨some 46,(.bin .leq),[.t 45,.c (.pv none (.int .i64 100))],some (42,true)⟩,
 oP 47 .pick [.t 42,.t 46,.c (.pv none (.bool false))],
 oP 48 .mv [.t 47],
 ⟨some 49,(.faddr 3),[.t 1],some (48,true)⟩,
 ⟨some 50,(.load none),[.t 49],some (48,true)⟩,
 ⟨some 51,.len,[.t 50],some (48,true)⟩,
 ⟨some 52,(.bin .eql),[.t 51,.c (.pv none (.int .i64 0))],some (48,true)⟩,
 oP 53 .pick [.t 48,.t 52,.c (.pv none (.bool false))],
 oP 2 .mv [.t 53]]
def c87r8 : List AOper := [
 oP 55 (.bin .eql) [.t 4,.c (.pv none (.int .i64 3))],
 oP 54 .mv [.t 55]]
def c87r9 : List AOper := [
 oP 56 (.faddr 1) [.t 1],
 oP 57 (.load none) [.t 56],
 oP 58 (.bin .eql) [.t 57,.c (.pv none (.int .i64 0))],
 oP 59 .mv [.t 58],
 ⟨some 60,(.faddr 2),[.t 1],some (59,true)⟩,
 ⟨some 61,(.load none),[.t 60],some (59,true)⟩,
 ⟨some 62,.slen,[.t 61],some (59,true)⟩,
 ⟨some 63,(.bin .leq),[.t 62,.c (.pv none (.int .i64 100))],some (59,true)⟩,
 oP 64 .pick [.t 59,.t 63,.c (.pv none (.bool false))],
 oP 65 .mv [.t 64],
 ⟨some 66,(.faddr 3),[.t 1],some (65,true)⟩,
 ⟨some 67,(.load none),[.t 66],some (65,true)⟩,
 ⟨some 68,.len,[.t 67],some (65,true)⟩,
 ⟨some 69,(.bin .geq),[.t 68,.c (.pv none (.int .i64 1))],some (65,true)⟩,
 oP 70 .pick [.t 65,.t 69,.c (.pv none (.bool false))],
 oP 71 .mv [.t 70],
 ⟨some 72,(.faddr 3),[.t 1],some (71,true)⟩,
 ⟨some 73,(.load none),[.t 72],some (71,true)⟩,
 ⟨some 74,.len,[.t 73],some (71,true)⟩,
 ⟨some 75,(.bin .leq),[.t 74,.c (.pv none (.int .i64 8))],some (71,true)⟩,
 oP 76 .pick [.t 71,.t 75,.c (.pv none (.bool false))],
 oP 2 .mv [.t 76]]
def c87k10 : ACode := (.cond (.t 54) (.seq (.region true c87r9 [2]) .ret) .skip)
def c87k11 : ACode := (.cond (.t 37) (.seq (.region true c87r7 [2]) .ret) (.seq (.region true c87r8 [1,54]) c87k10))
def c87k12 : ACode := (.cond (.t 26) (.seq (.region true c87r5 [2]) .ret) (.seq (.region true c87r6 [1,4,37]) c87k11))
def c87k13 : ACode := (.cond (.t 5) (.seq (.region true c87r3 [2]) .ret) (.seq (.region true c87r4 [1,4,26]) c87k12))
def c87k14 : ACode := (.block 0 (.seq (.region true c87r2 [1,4,5]) c87k13))
def c87r15 : List AOper := [
 oP 2 .mv [.c (.pv none (.bool false))]]
def c87 : ACode := (.seq (.region true c87r0 [1]) (.seq (.seq (.region true c87r1 [1,4]) c87k14) (.seq (.region true c87r15 [2]) .ret)))
def g87 : AFn := ⟨1,[(2,none)],c87,false,[],[],none⟩
theorem tr87 : trFn Try.prog false 87 Try.f87 = some g87 := by kernel_rfl
def c88r0 : List AOper := [
 oP 6 .mv [.c (.pv none (.int .i64 20))]]
def c88r1 : List AOper := [
 oP 10 .mv [.t 6],
 oP 7 .mv [.c (.pv none (.int .i64 0))],
 oP 8 .mv [.t 10]]
def c88r2 : List AOper := [
 oP 11 .mv [.t 8],
 oP 12 .mv [.t 1],
 oP 13 (.bin .leq) [.t 11,.t 12]]
def c88k3 : ACode := (.cond (.t 13) .skip (.exit 0))
def c88r4 : List AOper := [
 oP 14 .mv [.t 0],
 oP 15 .mv [.t 7],
 oP 16 .mv [.t 8],
 oP 17 .mv [.t 2],
 oP 18 .call [.c (.pv none (.func (.func 94))),.t 14,.t 15,.t 16,.t 17]]
def c88r5 : List AOper := [
 oP 19 .mv [.t 8],
 oP 7 .mv [.t 19]]
def c88r6 : List AOper := [
 oP 20 .mv [.t 8],
 oP 21 .mv [.t 6],
 oP 22 (.bin .add) [.t 20,.t 21],
 oP 8 .mv [.t 22]]
def c88k7 : ACode := (.block 1 (.seq (.region true c88r4 [0,1,2,6,8]) (.seq (.region true c88r5 [0,1,2,6,7,8]) (.region true c88r6 [0,1,2,6,7,8]))))
def c88b8 : ACode := (.seq (.seq (.region true c88r2 [0,1,2,6,7,8,13]) c88k3) c88k7)
def c88k9 : ACode := (.block 0 (.loop [0,1,2,6,7,8] c88b8))
def c88r10 : List AOper := [
 oP 23 .mv [.t 0],
 oP 24 .mv [.t 7],
 oP 25 .mv [.t 1],
 oP 26 .mv [.t 2],
 oP 27 .call [.c (.pv none (.func (.func 94))),.t 23,.t 24,.t 25,.t 26]]
def c88r11 : List AOper := [
 oP 28 .mv [.t 6],
 oP 29 .mv [.t 1],
 oP 30 (.bin .lss) [.t 28,.t 29]]
def c88k12 : ACode := (.cond (.t 30) .skip (.exit 2))
def c88r13 : List AOper := [
 oP 31 .mv [.t 6],
 oP 32 (.bin .mul) [.c (.pv none (.int .i64 2)),.t 31],
 oP 7 .mv [.c (.pv none (.int .i64 0))],
 oP 8 .mv [.t 32]]
def c88r14 : List AOper := [
 oP 33 .mv [.t 8],
 oP 34 .mv [.t 1],
 oP 35 (.bin .leq) [.t 33,.t 34]]
def c88k15 : ACode := (.cond (.t 35) .skip (.exit 4))
def c88r16 : List AOper := [
 oP 36 .mv [.t 0],
 oP 37 .mv [.t 7],
 oP 38 .mv [.t 7],
 oP 39 .mv [.t 6],
 oP 40 (.bin .add) [.t 38,.t 39],
 oP 41 .mv [.t 8],
 oP 42 .mv [.t 2],
 oP 43 .call [.c (.pv none (.func (.func 95))),.t 36,.t 37,.t 40,.t 41,.t 42]]
def c88r17 : List AOper := [
 oP 44 .mv [.t 8],
 oP 7 .mv [.t 44]]
def c88r18 : List AOper := [
 oP 45 .mv [.t 8],
 oP 46 .mv [.t 6],
 oP 47 (.bin .mul) [.c (.pv none (.int .i64 2)),.t 46],
 oP 48 (.bin .add) [.t 45,.t 47],
 oP 8 .mv [.t 48]]
def c88k19 : ACode := (.block 5 (.seq (.region true c88r16 [0,1,2,6,8]) (.seq (.region true c88r17 [0,1,2,6,7,8]) (.region true c88r18 [0,1,2,6,7,8]))))
def c88b20 : ACode := (.seq (.seq (.region true c88r14 [0,1,2,6,7,8,35]) c88k15) c88k19)
def c88k21 : ACode := (.block 4 (.loop [0,1,2,6,7,8] c88b20))
def c88r22 : List AOper := [
 oP 49 .mv [.t 7],
 oP 50 .mv [.t 6],
 oP 51 (.bin .add) [.t 49,.t 50],
 oP 9 .mv [.t 51]]
def c88r23 : List AOper := [
 oP 52 .mv [.t 9],
 oP 53 .mv [.t 1],
 oP 54 (.bin .lss) [.t 52,.t 53]]
def c88r24 : List AOper := [
 oP 55 .mv [.t 0],
 oP 56 .mv [.t 7],
 oP 57 .mv [.t 9],
 oP 58 .mv [.t 1],
 oP 59 .mv [.t 2],
 oP 60 .call [.c (.pv none (.func (.func 95))),.t 55,.t 56,.t 57,.t 58,.t 59]]
def c88k25 : ACode := (.cond (.t 54) (.region true c88r24 [0,1,2,6]) .skip)
def c88r26 : List AOper := [
 oP 61 .mv [.t 6],
 oP 62 (.bin .mul) [.t 61,.c (.pv none (.int .i64 2))],
 oP 6 .mv [.t 62]]
def c88k27 : ACode := (.block 3 (.seq (.region true c88r13 [0,1,2,6,7,8]) (.seq c88k21 (.seq (.seq (.region true c88r22 [0,1,2,6,7,9]) (.seq (.region true c88r23 [0,1,2,6,7,9,54]) c88k25)) (.region true c88r26 [0,1,2,6])))))
def c88b28 : ACode := (.seq (.seq (.region true c88r11 [0,1,2,6,30]) c88k12) c88k27)
def c88k29 : ACode := (.block 2 (.loop [0,1,2,6] c88b28))
def c88 : ACode := (.seq (.region true c88r0 [0,1,2,6]) (.seq (.region true c88r1 [0,1,2,6,7,8]) (.seq c88k9 (.seq (.region true c88r10 [0,1,2,6]) c88k29))))
def g88 : AFn := ⟨3,[],c88,true,[],[],none⟩
theorem tr88 : trFn Try.prog true 88 Try.f88 = some g88 := by kernel_rfl
def c90r0 : List AOper := [
 oP 6 .mv [.c (.pv none (.bool false))]]
def c90r1 : List AOper := [
 oP 11 .mv [.t 2],
 oP 12 .mv [.t 1],
 oP 13 (.lookup false none (.pv none (.int .i64 0)) false) [.t 11,.t 12],
 oP 14 (.bin .neq) [.t 13,.c (.pv none (.int .i64 0))]]
def c90r2 : List AOper := [
 oP 15 .mv [.t 2],
 oP 16 .mv [.t 1],
 oP 17 (.lookup false none (.pv none (.int .i64 0)) false) [.t 15,.t 16],
 oP 18 (.bin .eql) [.t 17,.c (.pv none (.int .i64 1))],
 oP 6 .mv [.t 18]]
def c90k3 : ACode := (.cond (.t 14) (.seq (.region true c90r2 [6]) .ret) .skip)
def c90r4 : List AOper := [
 oP 20 .mv [.t 0],
 oP 21 .mv [.t 1],
 oP 22 (bZ [1]) [.t 21],
 oP 23 .call [.c (.pv none (.func (.func 93))),.t 20,.t 22],
 oP 19 .mv [.t 23],
 oP 24 (.extract 0) [.t 19],
 oP 25 (.extract 1) [.t 19],
 oP 7 aZ [],
 ⟨none,(.store (some 4)),[.t 7,.t 24],none⟩,
 oP 8 .mv [.t 25]]
def c90r5 : List AOper := [
 oP 26 .mv [.t 8],
 oP 27 .not [.t 26]]
def c90r6 : List AOper := [
 oP 6 .mv [.c (.pv none (.bool false))]]
def c90k7 : ACode := (.cond (.t 27) (.seq (.region true c90r6 [6]) .ret) .skip)
def c90r8 : List AOper := [
 oP 28 .mv [.t 2],
 oP 29 .mv [.t 1],
 ⟨none,(.mapset false none),[.t 28,.t 29,.c (.pv none (.int .i64 1))],none⟩]
def c90r9 : List AOper := [
 oP 30 (.load (some 4)) [.t 7],
 oP 31 .call [.c (.pv none (.func (.func 17))),.t 30],
 oP 32 .len [.t 31],
 oP 33 .mv [.c (.pv none (.int .i64 0))]]
def c90r10 : List AOper := [
 oP 34 (.bin .lss) [.t 33,.t 32]]
def c90k11 : ACode := (.cond (.t 34) .skip (.exit 0))
def c90r12 : List AOper := [
 oP 35 (.iaddr none) [.t 31,.t 33],
 oP 36 (.load none) [.t 35],
 oP 10 .mv [.t 36]]
def c90r13 : List AOper := [
 oP 37 .mv [.t 0],
 oP 38 .mv [.t 10],
 oP 39 .mv [.t 2],
 oP 40 .call [.c (.pv none (.func (.func 90))),.t 37,.t 38,.t 39]]
def c90r14 : List AOper := [
 oP 6 .mv [.c (.pv none (.bool true))]]
def c90k15 : ACode := (.cond (.t 40) (.seq (.region true c90r14 [6]) .ret) .skip)
def c90k16 : ACode := (.block 1 (.seq (.region true c90r12 [0,1,2,10,31,32,33]) (.seq (.region true c90r13 [0,1,2,31,32,33,40]) c90k15)))
def c90r17 : List AOper := [
 oP 41 (.bin .add) [.t 33,.c (.pv none (.int .i64 1))],
 oP 33 .mv [.t 41]]
def c90b18 : ACode := (.seq (.region true c90r10 [0,1,2,31,32,33,34]) (.seq c90k11 (.seq c90k16 (.region true c90r17 [0,1,2,31,32,33]))))
def c90k19 : ACode := (.block 0 (.loop [0,1,2,31,32,33] c90b18))
def c90r20 : List AOper := [
 oP 42 .mv [.t 2],
 oP 43 .mv [.t 1],
 ⟨none,(.mapset false none),[.t 42,.t 43,.c (.pv none (.int .i64 2))],none⟩]
def c90r21 : List AOper := [
 oP 6 .mv [.c (.pv none (.bool false))]]
def c90 : ACode := (.seq (.region true c90r0 [0,1,2]) (.seq (.seq (.region true c90r1 [0,1,2,14]) c90k3) (.seq (.region true c90r4 [0,1,2,7,8]) (.seq (.seq (.region true c90r5 [0,1,2,7,27]) c90k7) (.seq (.region true c90r8 [0,1,2,7]) (.seq (.seq (.region true c90r9 [0,1,2,31,32,33]) c90k19) (.seq (.region true c90r20 []) (.seq (.region true c90r21 [6]) .ret))))))))
def g90 : AFn := ⟨3,[(6,none)],c90,true,[],[],none⟩
theorem tr90 : trFn Try.prog true 90 Try.f90 = some g90 := by kernel_rfl
def c91r0 : List AOper := [
 oP 3 (.box (some 4)) [.t 1],
 oP 4 aZ []]
def c91r1 : List AOper := [
 oP 8 .mv [.t 0],
 oP 9 (.load (some 4)) [.t 3],
 oP 10 .call [.c (.pv none (.func (.func 93))),.t 8,.t 9],
 oP 7 .mv [.t 10],
 oP 11 (.extract 0) [.t 7],
 oP 12 (.extract 1) [.t 7],
 oP 5 aZ [],
 ⟨none,(.store (some 4)),[.t 5,.t 11],none⟩,
 oP 6 .mv [.t 12]]
def c91r2 : List AOper := [
 oP 13 .mv [.t 6],
 oP 14 .not [.t 13]]
def c91r3 : List AOper := [
 oP 15 (.load (some 4)) [.t 3],
 ⟨none,(.store (some 4)),[.t 4,.t 15],none⟩]
def c91k4 : ACode := (.cond (.t 14) (.seq (.region true c91r3 [4]) .ret) .skip)
def c91r5 : List AOper := [
 oP 16 (.load (some 4)) [.t 5],
 ⟨none,(.store (some 4)),[.t 3,.t 16],none⟩]
def c91k6 : ACode := (.block 1 (.seq (.region true c91r1 [0,3,4,5,6]) (.seq (.seq (.region true c91r2 [0,3,4,5,14]) c91k4) (.region true c91r5 [0,3,4]))))
def c91b7 : ACode := c91k6
def c91k8 : ACode := (.block 0 (.loop [0,3,4] c91b7))
def c91 : ACode := (.seq (.region true c91r0 [0,3,4]) c91k8)
def g91 : AFn := ⟨2,[(4,some (some 4))],c91,true,[],[],none⟩
theorem tr91 : trFn Try.prog true 91 Try.f91 = some g91 := by kernel_rfl
def c92r0 : List AOper := [
 oP 4 (.box (some 4)) [.t 1],
 oP 5 (.box (some 4)) [.t 2],
 oP 6 .mv [.c (.pv none (.bool false))]]
def c92r1 : List AOper := [
 oP 8 (.faddr 0) [.t 4],
 oP 9 (.load none) [.t 8],
 oP 10 (.bin .eql) [.t 9,.c (.pv none (.int .i64 0))],
 oP 11 .mv [.t 10],
 ⟨some 12,(.faddr 0),[.t 5],some (11,true)⟩,
 ⟨some 13,(.load none),[.t 12],some (11,true)⟩,
 ⟨some 14,(.bin .eql),[.t 13,.c (.pv none (.int .i64 0))],some (11,true)⟩,
 oP 15 .pick [.t 11,.t 14,.c (.pv none (.bool false))],
 oP 7 .mv [.t 15]]
def c92r2 : List AOper := [
 oP 16 (.faddr 1) [.t 4],
 oP 17 (.load none) [.t 16],
 oP 18 (.faddr 1) [.t 5],
 oP 19 (.load none) [.t 18],
 oP 20 (.bin .neq) [.t 17,.t 19]]
def c92r3 : List AOper := [
 oP 21 .mv [.t 0],
 oP 22 (.faddr 1) [.t 4],
 oP 23 (.load none) [.t 22],
 oP 24 (.faddr 1) [.t 5],
 oP 25 (.load none) [.t 24],
 oP 26 .max [.t 23,.t 25],
 oP 27 (.faddr 1) [.t 4],
 oP 28 (.load none) [.t 27],
 oP 29 (.faddr 1) [.t 5],
 oP 30 (.load none) [.t 29],
 oP 31 .min [.t 28,.t 30],
 oP 32 (bZ [1]) [.t 31],
 oP 33 .call [.c (.pv none (.func (.func 96))),.t 21,.t 26,.t 32]]
def c92k4 : ACode := (.cond (.t 20) (.region true c92r3 []) .skip)
def c92r5 : List AOper := [
 oP 35 (.faddr 0) [.t 4],
 oP 36 (.load none) [.t 35],
 oP 37 (.bin .eql) [.t 36,.c (.pv none (.int .i64 0))],
 oP 34 .mv [.t 37]]
def c92r6 : List AOper := [
 oP 38 .mv [.t 0],
 oP 39 (.faddr 1) [.t 4],
 oP 40 (.load none) [.t 39],
 oP 41 (.load (some 4)) [.t 5],
 oP 42 .call [.c (.pv none (.func (.func 96))),.t 38,.t 40,.t 41]]
def c92r7 : List AOper := [
 oP 44 (.faddr 0) [.t 5],
 oP 45 (.load none) [.t 44],
 oP 46 (.bin .eql) [.t 45,.c (.pv none (.int .i64 0))],
 oP 43 .mv [.t 46]]
def c92r8 : List AOper := [
 oP 47 .mv [.t 0],
 oP 48 (.faddr 1) [.t 5],
 oP 49 (.load none) [.t 48],
 oP 50 (.load (some 4)) [.t 4],
 oP 51 .call [.c (.pv none (.func (.func 96))),.t 47,.t 49,.t 50]]
def c92r9 : List AOper := [
 oP 53 (.faddr 0) [.t 4],
 oP 54 (.load none) [.t 53],
 oP 55 (.faddr 0) [.t 5],
 oP 56 (.load none) [.t 55],
 oP 57 (.bin .neq) [.t 54,.t 56],
 oP 58 .mv [.t 57],
 ⟨some 59,(.faddr 1),[.t 4],some (58,false)⟩,
 ⟨some 60,(.load none),[.t 59],some (58,false)⟩,
 ⟨some 61,(.faddr 1),[.t 5],some (58,false)⟩,
 ⟨some 62,(.load none),[.t 61],some (58,false)⟩,
 ⟨some 63,(.bin .neq),[.t 60,.t 62],some (58,false)⟩,
 oP 64 .pick [.t 58,.c (.pv none (.bool true)),.t 63],
 oP 65 .mv [.t 64],
 ⟨some 66,(.faddr 2),[.t 4],some (65,false)⟩,
 ⟨some 67,(.load none),[.t 66],some (65,false)⟩,
 ⟨some 68,(.faddr 2),[.t 5],some (65,false)⟩,
 ⟨some 69,(.load none),[.t 68],some (65,false)⟩,
 ⟨some 70,(.bin .neq),[.t 67,.t 69],some (65,false)⟩,
 oP 71 .pick [.t 65,.c (.pv none (.bool true)),.t 70],
 oP 72 .mv [.t 71],
 ⟨some 73,(.faddr 3),[.t 4],some (72,false)⟩,
 ⟨some 74,(.load none),[.t 73],some (72,false)⟩,
 ⟨some 75,.len,[.t 74],some (72,false)⟩,
 ⟨some 76,(.faddr 3),[.t 5],some (72,false)⟩,
 ⟨some 77,(.load none),[.t 76],some (72,false)⟩,
 ⟨some 78,.len,[.t 77],some (72,false)⟩,
 ⟨some 79,(.bin .neq),[.t 75,.t 78],some (72,false)⟩,
 oP 80 .pick [.t 72,.c (.pv none (.bool true)),.t 79],
 oP 52 .mv [.t 80]]
def c92r10 : List AOper := [
 oP 81 (.build [(none,(.pv none (.int .i64 0)))] [0]) [.c (.pv none (.int .i64 4))],
 oP 82 (.mkiface 89) [.t 81],
 ⟨none,.panic,[.t 82],none⟩]
def c92r11 : List AOper := [
 oP 6 .mv [.c (.pv none (.bool true))]]
def c92k12 : ACode := (.cond (.t 52) (.region true c92r10 []) (.seq (.region true c92r11 [6]) .ret))
def c92k13 : ACode := (.cond (.t 43) (.region true c92r8 []) (.seq (.region true c92r9 [52]) c92k12))
def c92k14 : ACode := (.cond (.t 34) (.region true c92r6 []) (.seq (.region true c92r7 [0,4,5,43]) c92k13))
def c92k15 : ACode := (.cond (.t 7) (.seq (.region true c92r2 [0,4,5,20]) c92k4) (.seq (.region true c92r5 [0,4,5,34]) c92k14))
def c92k16 : ACode := (.block 0 (.seq (.region true c92r1 [0,4,5,7]) c92k15))
def c92r17 : List AOper := [
 oP 6 .mv [.c (.pv none (.bool false))]]
def c92 : ACode := (.seq (.region true c92r0 [0,4,5]) (.seq c92k16 (.seq (.region true c92r17 [6]) .ret)))
def g92 : AFn := ⟨3,[(6,none)],c92,true,[],[],none⟩
theorem tr92 : trFn Try.prog true 92 Try.f92 = some g92 := by kernel_rfl
def c93r0 : List AOper := [
 oP 3 (.box (some 4)) [.t 1],
 oP 4 aZ [],
 oP 5 .mv [.c (.pv none (.bool false))]]
def c93r1 : List AOper := [
 oP 8 (.faddr 0) [.t 3],
 oP 9 (.load none) [.t 8],
 oP 10 (.bin .neq) [.t 9,.c (.pv none (.int .i64 0))]]
def c93r2 : List AOper := [
 oP 11 (bZ []) [],
 ⟨none,(.store (some 4)),[.t 4,.t 11],none⟩,
 oP 5 .mv [.c (.pv none (.bool false))]]
def c93k3 : ACode := (.cond (.t 10) (.seq (.region true c93r2 [4,5]) .ret) .skip)
def c93r4 : List AOper := [
 oP 13 .mv [.t 0],
 oP 14 (.faddr 1) [.t 3],
 oP 15 (.load none) [.t 14],
 oP 16 .call [.c (.pv none (.func (.func 97))),.t 13,.t 15],
 oP 12 .mv [.t 16],
 oP 17 (.extract 0) [.t 12],
 oP 18 (.extract 1) [.t 12],
 oP 6 .mv [.t 17],
 oP 7 .mv [.t 18]]
def c93r5 : List AOper := [
 oP 19 .mv [.t 7],
 oP 20 .not [.t 19]]
def c93r6 : List AOper := [
 oP 21 (bZ []) [],
 ⟨none,(.store (some 4)),[.t 4,.t 21],none⟩,
 oP 5 .mv [.c (.pv none (.bool false))]]
def c93k7 : ACode := (.cond (.t 20) (.seq (.region true c93r6 [4,5]) .ret) .skip)
def c93r8 : List AOper := [
 oP 22 .mv [.t 0],
 oP 23 .mv [.t 6],
 oP 24 (.iaddr (some 5)) [.t 22,.t 23],
 oP 25 (.faddr 1) [.t 24],
 oP 26 (.load (some 4)) [.t 25],
 ⟨none,(.store (some 4)),[.t 4,.t 26],none⟩,
 oP 5 .mv [.c (.pv none (.bool true))]]
def c93 : ACode := (.seq (.region true c93r0 [0,3,4]) (.seq (.seq (.region true c93r1 [0,3,4,10]) c93k3) (.seq (.region true c93r4 [0,4,6,7]) (.seq (.seq (.region true c93r5 [0,4,6,20]) c93k7) (.seq (.region true c93r8 [4,5]) .ret)))))
def g93 : AFn := ⟨2,[(4,some (some 4)),(5,none)],c93,true,[],[],none⟩
theorem tr93 : trFn Try.prog true 93 Try.f93 = some g93 := by kernel_rfl
def c94r0 : List AOper := [
 oP 10 .mv [.t 1],
 oP 11 (.bin .add) [.t 10,.c (.pv none (.int .i64 1))],
 oP 8 .mv [.t 11]]
def c94r1 : List AOper := [
 oP 12 .mv [.t 8],
 oP 13 .mv [.t 2],
 oP 14 (.bin .lss) [.t 12,.t 13]]
def c94k2 : ACode := (.cond (.t 14) .skip (.exit 0))
def c94r3 : List AOper := [
 oP 17 .mv [.t 8],
 oP 9 .mv [.t 17]]
def c94r4 : List AOper := [
 oP 18 .mv [.t 9],
 oP 19 .mv [.t 1],
 oP 20 (.bin .gtr) [.t 18,.t 19],
 oP 21 .mv [.t 20],
 ⟨some 22,.mv,[.t 3],some (21,true)⟩,
 ⟨some 23,.mv,[.t 0],some (21,true)⟩,
 ⟨some 24,.mv,[.t 9],some (21,true)⟩,
 ⟨some 25,(.iaddr (some 4)),[.t 23,.t 24],some (21,true)⟩,
 ⟨some 26,(.load (some 4)),[.t 25],some (21,true)⟩,
 ⟨some 27,.mv,[.t 0],some (21,true)⟩,
 ⟨some 28,.mv,[.t 9],some (21,true)⟩,
 ⟨some 29,(.bin .sub),[.t 28,.c (.pv none (.int .i64 1))],some (21,true)⟩,
 ⟨some 30,(.iaddr (some 4)),[.t 27,.t 29],some (21,true)⟩,
 ⟨some 31,(.load (some 4)),[.t 30],some (21,true)⟩,
 ⟨some 32,.call,[.t 22,.t 26,.t 31],some (21,true)⟩,
 ⟨some 33,(.bin .lss),[.t 32,.c (.pv none (.int .i64 0))],some (21,true)⟩,
 oP 34 .pick [.t 21,.t 33,.c (.pv none (.bool false))]]
def c94k5 : ACode := (.cond (.t 34) .skip (.exit 2))
def c94r6 : List AOper := [
 oP 37 .mv [.t 0],
 oP 38 .mv [.t 9],
 oP 39 .mv [.t 0],
 oP 40 .mv [.t 9],
 oP 41 (.bin .sub) [.t 40,.c (.pv none (.int .i64 1))],
 oP 42 .mv [.t 0],
 oP 43 .mv [.t 9],
 oP 44 (.bin .sub) [.t 43,.c (.pv none (.int .i64 1))],
 oP 45 (.iaddr (some 4)) [.t 42,.t 44],
 oP 46 (.load (some 4)) [.t 45],
 oP 47 .mv [.t 0],
 oP 48 .mv [.t 9],
 oP 49 (.iaddr (some 4)) [.t 47,.t 48],
 oP 50 (.load (some 4)) [.t 49],
 oP 51 (.iaddr (some 4)) [.t 37,.t 38],
 ⟨none,(.store (some 4)),[.t 51,.t 46],none⟩,
 oP 52 (.iaddr (some 4)) [.t 39,.t 41],
 ⟨none,(.store (some 4)),[.t 52,.t 50],none⟩]
def c94k7 : ACode := (.block 3 (.region true c94r6 [0,1,2,3,8,9]))
def c94r8 : List AOper := [
 oP 35 .mv [.t 9],
 oP 36 (.bin .sub) [.t 35,.c (.pv none (.int .i64 1))],
 oP 9 .mv [.t 36]]
def c94b9 : ACode := (.seq (.seq (.region true c94r4 [0,1,2,3,8,9,34]) c94k5) (.seq c94k7 (.region true c94r8 [0,1,2,3,8,9])))
def c94k10 : ACode := (.block 2 (.loop [0,1,2,3,8,9] c94b9))
def c94k11 : ACode := (.block 1 (.seq (.region true c94r3 [0,1,2,3,8,9]) c94k10))
def c94r12 : List AOper := [
 oP 15 .mv [.t 8],
 oP 16 (.bin .add) [.t 15,.c (.pv none (.int .i64 1))],
 oP 8 .mv [.t 16]]
def c94b13 : ACode := (.seq (.seq (.region true c94r1 [0,1,2,3,8,14]) c94k2) (.seq c94k11 (.region true c94r12 [0,1,2,3,8])))
def c94k14 : ACode := (.block 0 (.loop [0,1,2,3,8] c94b13))
def c94 : ACode := (.seq (.region true c94r0 [0,1,2,3,8]) c94k14)
def g94 : AFn := ⟨4,[],c94,true,[],[],none⟩
theorem tr94 : trFn Try.prog true 94 Try.f94 = some g94 := by kernel_rfl
def c95r0 : List AOper := [
 oP 25 .mv [.t 2],
 oP 26 .mv [.t 1],
 oP 27 (.bin .sub) [.t 25,.t 26],
 oP 28 (.bin .eql) [.t 27,.c (.pv none (.int .i64 1))]]
def c95r1 : List AOper := [
 oP 29 .mv [.t 2],
 oP 10 .mv [.t 29]]
def c95r2 : List AOper := [
 oP 30 .mv [.t 3],
 oP 11 .mv [.t 30]]
def c95r3 : List AOper := [
 oP 31 .mv [.t 10],
 oP 32 .mv [.t 11],
 oP 33 (.bin .lss) [.t 31,.t 32]]
def c95k4 : ACode := (.cond (.t 33) .skip (.exit 0))
def c95r5 : List AOper := [
 oP 34 .mv [.t 10],
 oP 35 .mv [.t 11],
 oP 36 (.bin .add) [.t 34,.t 35],
 oP 37 (.conv .u64) [.t 36],
 oP 38 (.bin .shr) [.t 37,.c (.pv none (.int .u64 1))],
 oP 39 (.conv .i64) [.t 38],
 oP 12 .mv [.t 39]]
def c95r6 : List AOper := [
 oP 40 .mv [.t 4],
 oP 41 .mv [.t 0],
 oP 42 .mv [.t 12],
 oP 43 (.iaddr (some 4)) [.t 41,.t 42],
 oP 44 (.load (some 4)) [.t 43],
 oP 45 .mv [.t 0],
 oP 46 .mv [.t 1],
 oP 47 (.iaddr (some 4)) [.t 45,.t 46],
 oP 48 (.load (some 4)) [.t 47],
 oP 49 .call [.t 40,.t 44,.t 48],
 oP 50 (.bin .lss) [.t 49,.c (.pv none (.int .i64 0))]]
def c95r7 : List AOper := [
 oP 51 .mv [.t 12],
 oP 52 (.bin .add) [.t 51,.c (.pv none (.int .i64 1))],
 oP 10 .mv [.t 52]]
def c95r8 : List AOper := [
 oP 53 .mv [.t 12],
 oP 11 .mv [.t 53]]
def c95k9 : ACode := (.cond (.t 50) (.region true c95r7 [0,1,4,10,11]) (.region true c95r8 [0,1,4,10,11]))
def c95k10 : ACode := (.block 1 (.seq (.region true c95r5 [0,1,4,10,11,12]) (.seq (.region true c95r6 [0,1,4,10,11,12,50]) c95k9)))
def c95b11 : ACode := (.seq (.seq (.region true c95r3 [0,1,4,10,11,33]) c95k4) c95k10)
def c95k12 : ACode := (.block 0 (.loop [0,1,4,10,11] c95b11))
def c95r13 : List AOper := [
 oP 54 .mv [.t 1],
 oP 13 .mv [.t 54]]
def c95r14 : List AOper := [
 oP 55 .mv [.t 13],
 oP 56 .mv [.t 10],
 oP 57 (.bin .sub) [.t 56,.c (.pv none (.int .i64 1))],
 oP 58 (.bin .lss) [.t 55,.t 57]]
def c95k15 : ACode := (.cond (.t 58) .skip (.exit 2))
def c95r16 : List AOper := [
 oP 61 .mv [.t 0],
 oP 62 .mv [.t 13],
 oP 63 .mv [.t 0],
 oP 64 .mv [.t 13],
 oP 65 (.bin .add) [.t 64,.c (.pv none (.int .i64 1))],
 oP 66 .mv [.t 0],
 oP 67 .mv [.t 13],
 oP 68 (.bin .add) [.t 67,.c (.pv none (.int .i64 1))],
 oP 69 (.iaddr (some 4)) [.t 66,.t 68],
 oP 70 (.load (some 4)) [.t 69],
 oP 71 .mv [.t 0],
 oP 72 .mv [.t 13],
 oP 73 (.iaddr (some 4)) [.t 71,.t 72],
 oP 74 (.load (some 4)) [.t 73],
 oP 75 (.iaddr (some 4)) [.t 61,.t 62],
 ⟨none,(.store (some 4)),[.t 75,.t 70],none⟩,
 oP 76 (.iaddr (some 4)) [.t 63,.t 65],
 ⟨none,(.store (some 4)),[.t 76,.t 74],none⟩]
def c95k17 : ACode := (.block 3 (.region true c95r16 [0,10,13]))
def c95r18 : List AOper := [
 oP 59 .mv [.t 13],
 oP 60 (.bin .add) [.t 59,.c (.pv none (.int .i64 1))],
 oP 13 .mv [.t 60]]
def c95b19 : ACode := (.seq (.seq (.region true c95r14 [0,10,13,58]) c95k15) (.seq c95k17 (.region true c95r18 [0,10,13])))
def c95k20 : ACode := (.block 2 (.loop [0,10,13] c95b19))
def c95k21 : ACode := (.cond (.t 28) (.seq (.region true c95r1 [0,1,3,4,10]) (.seq (.region true c95r2 [0,1,4,10,11]) (.seq c95k12 (.seq (.seq (.region true c95r13 [0,10,13]) c95k20) .ret)))) .skip)
def c95r22 : List AOper := [
 oP 77 .mv [.t 3],
 oP 78 .mv [.t 2],
 oP 79 (.bin .sub) [.t 77,.t 78],
 oP 80 (.bin .eql) [.t 79,.c (.pv none (.int .i64 1))]]
def c95r23 : List AOper := [
 oP 81 .mv [.t 1],
 oP 14 .mv [.t 81]]
def c95r24 : List AOper := [
 oP 82 .mv [.t 2],
 oP 15 .mv [.t 82]]
def c95r25 : List AOper := [
 oP 83 .mv [.t 14],
 oP 84 .mv [.t 15],
 oP 85 (.bin .lss) [.t 83,.t 84]]
def c95k26 : ACode := (.cond (.t 85) .skip (.exit 4))
def c95r27 : List AOper := [
 oP 86 .mv [.t 14],
 oP 87 .mv [.t 15],
 oP 88 (.bin .add) [.t 86,.t 87],
 oP 89 (.conv .u64) [.t 88],
 oP 90 (.bin .shr) [.t 89,.c (.pv none (.int .u64 1))],
 oP 91 (.conv .i64) [.t 90],
 oP 16 .mv [.t 91]]
def c95r28 : List AOper := [
 oP 92 .mv [.t 4],
 oP 93 .mv [.t 0],
 oP 94 .mv [.t 2],
 oP 95 (.iaddr (some 4)) [.t 93,.t 94],
 oP 96 (.load (some 4)) [.t 95],
 oP 97 .mv [.t 0],
 oP 98 .mv [.t 16],
 oP 99 (.iaddr (some 4)) [.t 97,.t 98],
 oP 100 (.load (some 4)) [.t 99],
 oP 101 .call [.t 92,.t 96,.t 100],
 oP 102 (.bin .lss) [.t 101,.c (.pv none (.int .i64 0))],
 oP 103 .not [.t 102]]
def c95r29 : List AOper := [
 oP 104 .mv [.t 16],
 oP 105 (.bin .add) [.t 104,.c (.pv none (.int .i64 1))],
 oP 14 .mv [.t 105]]
def c95r30 : List AOper := [
 oP 106 .mv [.t 16],
 oP 15 .mv [.t 106]]
def c95k31 : ACode := (.cond (.t 103) (.region true c95r29 [0,2,4,14,15]) (.region true c95r30 [0,2,4,14,15]))
def c95k32 : ACode := (.block 5 (.seq (.region true c95r27 [0,2,4,14,15,16]) (.seq (.region true c95r28 [0,2,4,14,15,16,103]) c95k31)))
def c95b33 : ACode := (.seq (.seq (.region true c95r25 [0,2,4,14,15,85]) c95k26) c95k32)
def c95k34 : ACode := (.block 4 (.loop [0,2,4,14,15] c95b33))
def c95r35 : List AOper := [
 oP 107 .mv [.t 2],
 oP 17 .mv [.t 107]]
def c95r36 : List AOper := [
 oP 108 .mv [.t 17],
 oP 109 .mv [.t 14],
 oP 110 (.bin .gtr) [.t 108,.t 109]]
def c95k37 : ACode := (.cond (.t 110) .skip (.exit 6))
def c95r38 : List AOper := [
 oP 113 .mv [.t 0],
 oP 114 .mv [.t 17],
 oP 115 .mv [.t 0],
 oP 116 .mv [.t 17],
 oP 117 (.bin .sub) [.t 116,.c (.pv none (.int .i64 1))],
 oP 118 .mv [.t 0],
 oP 119 .mv [.t 17],
 oP 120 (.bin .sub) [.t 119,.c (.pv none (.int .i64 1))],
 oP 121 (.iaddr (some 4)) [.t 118,.t 120],
 oP 122 (.load (some 4)) [.t 121],
 oP 123 .mv [.t 0],
 oP 124 .mv [.t 17],
 oP 125 (.iaddr (some 4)) [.t 123,.t 124],
 oP 126 (.load (some 4)) [.t 125],
 oP 127 (.iaddr (some 4)) [.t 113,.t 114],
 ⟨none,(.store (some 4)),[.t 127,.t 122],none⟩,
 oP 128 (.iaddr (some 4)) [.t 115,.t 117],
 ⟨none,(.store (some 4)),[.t 128,.t 126],none⟩]
def c95k39 : ACode := (.block 7 (.region true c95r38 [0,14,17]))
def c95r40 : List AOper := [
 oP 111 .mv [.t 17],
 oP 112 (.bin .sub) [.t 111,.c (.pv none (.int .i64 1))],
 oP 17 .mv [.t 112]]
def c95b41 : ACode := (.seq (.seq (.region true c95r36 [0,14,17,110]) c95k37) (.seq c95k39 (.region true c95r40 [0,14,17])))
def c95k42 : ACode := (.block 6 (.loop [0,14,17] c95b41))
def c95k43 : ACode := (.cond (.t 80) (.seq (.region true c95r23 [0,2,4,14]) (.seq (.region true c95r24 [0,2,4,14,15]) (.seq c95k34 (.seq (.seq (.region true c95r35 [0,14,17]) c95k42) .ret)))) .skip)
def c95r44 : List AOper := [
 oP 129 .mv [.t 1],
 oP 130 .mv [.t 3],
 oP 131 (.bin .add) [.t 129,.t 130],
 oP 132 (.conv .u64) [.t 131],
 oP 133 (.bin .shr) [.t 132,.c (.pv none (.int .u64 1))],
 oP 134 (.conv .i64) [.t 133],
 oP 18 .mv [.t 134]]
def c95r45 : List AOper := [
 oP 135 .mv [.t 18],
 oP 136 .mv [.t 2],
 oP 137 (.bin .add) [.t 135,.t 136],
 oP 19 .mv [.t 137]]
def c95r46 : List AOper := [
 oP 20 .mv [.c (.pv none (.int .i64 0))],
 oP 21 .mv [.c (.pv none (.int .i64 0))]]
def c95r47 : List AOper := [
 oP 138 .mv [.t 2],
 oP 139 .mv [.t 18],
 oP 140 (.bin .gtr) [.t 138,.t 139]]
def c95r48 : List AOper := [
 oP 141 .mv [.t 19],
 oP 142 .mv [.t 3],
 oP 143 (.bin .sub) [.t 141,.t 142],
 oP 20 .mv [.t 143]]
def c95r49 : List AOper := [
 oP 144 .mv [.t 18],
 oP 21 .mv [.t 144]]
def c95r50 : List AOper := [
 oP 145 .mv [.t 1],
 oP 20 .mv [.t 145]]
def c95r51 : List AOper := [
 oP 146 .mv [.t 2],
 oP 21 .mv [.t 146]]
def c95k52 : ACode := (.cond (.t 140) (.seq (.region true c95r48 [0,1,2,3,4,18,19,20]) (.region true c95r49 [0,1,2,3,4,18,19,20,21])) (.seq (.region true c95r50 [0,1,2,3,4,18,19,20]) (.region true c95r51 [0,1,2,3,4,18,19,20,21])))
def c95r53 : List AOper := [
 oP 147 .mv [.t 19],
 oP 148 (.bin .sub) [.t 147,.c (.pv none (.int .i64 1))],
 oP 22 .mv [.t 148]]
def c95r54 : List AOper := [
 oP 149 .mv [.t 20],
 oP 150 .mv [.t 21],
 oP 151 (.bin .lss) [.t 149,.t 150]]
def c95k55 : ACode := (.cond (.t 151) .skip (.exit 8))
def c95r56 : List AOper := [
 oP 152 .mv [.t 20],
 oP 153 .mv [.t 21],
 oP 154 (.bin .add) [.t 152,.t 153],
 oP 155 (.conv .u64) [.t 154],
 oP 156 (.bin .shr) [.t 155,.c (.pv none (.int .u64 1))],
 oP 157 (.conv .i64) [.t 156],
 oP 23 .mv [.t 157]]
def c95r57 : List AOper := [
 oP 158 .mv [.t 4],
 oP 159 .mv [.t 0],
 oP 160 .mv [.t 22],
 oP 161 .mv [.t 23],
 oP 162 (.bin .sub) [.t 160,.t 161],
 oP 163 (.iaddr (some 4)) [.t 159,.t 162],
 oP 164 (.load (some 4)) [.t 163],
 oP 165 .mv [.t 0],
 oP 166 .mv [.t 23],
 oP 167 (.iaddr (some 4)) [.t 165,.t 166],
 oP 168 (.load (some 4)) [.t 167],
 oP 169 .call [.t 158,.t 164,.t 168],
 oP 170 (.bin .lss) [.t 169,.c (.pv none (.int .i64 0))],
 oP 171 .not [.t 170]]
def c95r58 : List AOper := [
 oP 172 .mv [.t 23],
 oP 173 (.bin .add) [.t 172,.c (.pv none (.int .i64 1))],
 oP 20 .mv [.t 173]]
def c95r59 : List AOper := [
 oP 174 .mv [.t 23],
 oP 21 .mv [.t 174]]
def c95k60 : ACode := (.cond (.t 171) (.region true c95r58 [0,1,2,3,4,18,19,20,21,22]) (.region true c95r59 [0,1,2,3,4,18,19,20,21,22]))
def c95k61 : ACode := (.block 9 (.seq (.region true c95r56 [0,1,2,3,4,18,19,20,21,22,23]) (.seq (.region true c95r57 [0,1,2,3,4,18,19,20,21,22,23,171]) c95k60)))
def c95b62 : ACode := (.seq (.seq (.region true c95r54 [0,1,2,3,4,18,19,20,21,22,151]) c95k55) c95k61)
def c95k63 : ACode := (.block 8 (.loop [0,1,2,3,4,18,19,20,21,22] c95b62))
def c95r64 : List AOper := [
 oP 175 .mv [.t 19],
 oP 176 .mv [.t 20],
 oP 177 (.bin .sub) [.t 175,.t 176],
 oP 24 .mv [.t 177]]
def c95r65 : List AOper := [
 oP 178 .mv [.t 20],
 oP 179 .mv [.t 2],
 oP 180 (.bin .lss) [.t 178,.t 179],
 oP 181 .mv [.t 180],
 ⟨some 182,.mv,[.t 2],some (181,true)⟩,
 ⟨some 183,.mv,[.t 24],some (181,true)⟩,
 ⟨some 184,(.bin .lss),[.t 182,.t 183],some (181,true)⟩,
 oP 185 .pick [.t 181,.t 184,.c (.pv none (.bool false))]]
def c95r66 : List AOper := [
 oP 186 .mv [.t 0],
 oP 187 .mv [.t 20],
 oP 188 .mv [.t 2],
 oP 189 .mv [.t 24],
 oP 190 .mv [.t 4],
 oP 191 .call [.c (.pv none (.func (.func 98))),.t 186,.t 187,.t 188,.t 189,.t 190]]
def c95k67 : ACode := (.cond (.t 185) (.region true c95r66 [0,1,3,4,18,20,24]) .skip)
def c95r68 : List AOper := [
 oP 192 .mv [.t 1],
 oP 193 .mv [.t 20],
 oP 194 (.bin .lss) [.t 192,.t 193],
 oP 195 .mv [.t 194],
 ⟨some 196,.mv,[.t 20],some (195,true)⟩,
 ⟨some 197,.mv,[.t 18],some (195,true)⟩,
 ⟨some 198,(.bin .lss),[.t 196,.t 197],some (195,true)⟩,
 oP 199 .pick [.t 195,.t 198,.c (.pv none (.bool false))]]
def c95r69 : List AOper := [
 oP 200 .mv [.t 0],
 oP 201 .mv [.t 1],
 oP 202 .mv [.t 20],
 oP 203 .mv [.t 18],
 oP 204 .mv [.t 4],
 oP 205 .call [.c (.pv none (.func (.func 95))),.t 200,.t 201,.t 202,.t 203,.t 204]]
def c95k70 : ACode := (.cond (.t 199) (.region true c95r69 [0,3,4,18,24]) .skip)
def c95r71 : List AOper := [
 oP 206 .mv [.t 18],
 oP 207 .mv [.t 24],
 oP 208 (.bin .lss) [.t 206,.t 207],
 oP 209 .mv [.t 208],
 ⟨some 210,.mv,[.t 24],some (209,true)⟩,
 ⟨some 211,.mv,[.t 3],some (209,true)⟩,
 ⟨some 212,(.bin .lss),[.t 210,.t 211],some (209,true)⟩,
 oP 213 .pick [.t 209,.t 212,.c (.pv none (.bool false))]]
def c95r72 : List AOper := [
 oP 214 .mv [.t 0],
 oP 215 .mv [.t 18],
 oP 216 .mv [.t 24],
 oP 217 .mv [.t 3],
 oP 218 .mv [.t 4],
 oP 219 .call [.c (.pv none (.func (.func 95))),.t 214,.t 215,.t 216,.t 217,.t 218]]
def c95k73 : ACode := (.cond (.t 213) (.region true c95r72 []) .skip)
def c95 : ACode := (.seq (.seq (.region true c95r0 [0,1,2,3,4,28]) c95k21) (.seq (.seq (.region true c95r22 [0,1,2,3,4,80]) c95k43) (.seq (.region true c95r44 [0,1,2,3,4,18]) (.seq (.region true c95r45 [0,1,2,3,4,18,19]) (.seq (.region true c95r46 [0,1,2,3,4,18,19]) (.seq (.seq (.region true c95r47 [0,1,2,3,4,18,19,140]) c95k52) (.seq (.region true c95r53 [0,1,2,3,4,18,19,20,21,22]) (.seq c95k63 (.seq (.region true c95r64 [0,1,2,3,4,18,20,24]) (.seq (.seq (.region true c95r65 [0,1,2,3,4,18,20,24,185]) c95k67) (.seq (.seq (.region true c95r68 [0,1,3,4,18,20,24,199]) c95k70) (.seq (.region true c95r71 [0,3,4,18,24,213]) c95k73))))))))))))
def g95 : AFn := ⟨5,[],c95,true,[],[],none⟩
theorem tr95 : trFn Try.prog true 95 Try.f95 = some g95 := by kernel_rfl
def c96r0 : List AOper := [
 oP 5 (.box (some 4)) [.t 2]]
def c96r1 : List AOper := [
 oP 8 .mv [.t 0],
 oP 9 .nilcheck [.t 8],
 oP 10 (.faddr 0) [.t 9],
 oP 11 (.load none) [.t 10],
 oP 12 .mv [.t 1],
 oP 13 (.load (some 4)) [.t 5],
 oP 14 (.mkmap none) [],
 oP 15 .call [.c (.pv none (.func (.func 99))),.t 11,.t 12,.t 13,.t 14]]
def c96r2 : List AOper := [
 oP 16 (.build [(none,(.pv none (.int .i64 0)))] [0]) [.c (.pv none (.int .i64 9))],
 oP 17 (.mkiface 89) [.t 16],
 ⟨none,.panic,[.t 17],none⟩]
def c96k3 : ACode := (.cond (.t 15) (.region true c96r2 [0,1,5]) .skip)
def c96r4 : List AOper := [
 oP 19 .mv [.t 0],
 oP 20 .nilcheck [.t 19],
 oP 21 (.faddr 0) [.t 20],
 oP 22 (.load none) [.t 21],
 oP 23 .mv [.t 1],
 oP 24 .call [.c (.pv none (.func (.func 97))),.t 22,.t 23],
 oP 18 .mv [.t 24],
 oP 25 (.extract 0) [.t 18],
 oP 26 (.extract 1) [.t 18],
 oP 6 .mv [.t 25],
 oP 7 .mv [.t 26]]
def c96r5 : List AOper := [
 oP 27 .mv [.t 0],
 oP 28 .mv [.t 0],
 oP 29 .nilcheck [.t 28],
 oP 30 (.faddr 0) [.t 29],
 oP 31 (.load none) [.t 30],
 oP 32 .mv [.t 6],
 oP 33 .mv [.t 1],
 oP 34 (.load (some 4)) [.t 5],
 oP 35 (.calln 1) [.t 30,.c (.pv none (.func (.func 29))),.t 34],
 oP 36 (.build [(none,(.pv none (.int .i64 0))),((some 4),(.agg [(none,(.pv none (.int .i64 0))),(none,(.pv none (.int .i64 0))),(none,(.pv none (.str []))),(none,(.tsl (some 4) []))]))] [0,1]) [.t 33,.t 35],
 oP 37 (.bslicen (some 5) 1) [.t 30,.t 36],
 oP 38 .call [.c (.pv none (.func (.func 100))),.t 31,.t 32,.t 37],
 oP 39 .nilcheck [.t 27],
 oP 40 (.faddr 0) [.t 39],
 ⟨none,(.store none),[.t 40,.t 38],none⟩]
def c96 : ACode := (.seq (.region true c96r0 [0,1,5]) (.seq (.seq (.region true c96r1 [0,1,5,15]) c96k3) (.seq (.region true c96r4 [0,1,5,6]) (.region false c96r5 []))))
def g96 : AFn := ⟨3,[],c96,true,[],[],none⟩
theorem tr96 : trFn Try.prog true 96 Try.f96 = some g96 := by kernel_rfl
def c97r0 : List AOper := [
 oP 4 .mv [.c (.pv none (.int .i64 0))],
 oP 5 .mv [.c (.pv none (.bool false))]]
def c97r1 : List AOper := [
 oP 6 .mv [.t 0],
 oP 7 .mv [.t 1],
 oP 8 .call [.c (.pv none (.func (.func 101))),.t 6,.t 7,.c (.pv none (.func (.func 102)))],
 oP 9 (.extract 0) [.t 8],
 oP 10 (.extract 1) [.t 8],
 oP 4 .mv [.t 9],
 oP 5 .mv [.t 10]]
def c97 : ACode := (.seq (.region true c97r0 [0,1]) (.seq (.region true c97r1 [4,5]) .ret))
def g97 : AFn := ⟨2,[(4,none),(5,none)],c97,false,[],[],none⟩
theorem tr97 : trFn Try.prog false 97 Try.f97 = some g97 := by kernel_rfl
def c98r0 : List AOper := [
 oP 12 .mv [.t 2],
 oP 13 .mv [.t 1],
 oP 14 (.bin .sub) [.t 12,.t 13],
 oP 10 .mv [.t 14]]
def c98r1 : List AOper := [
 oP 15 .mv [.t 3],
 oP 16 .mv [.t 2],
 oP 17 (.bin .sub) [.t 15,.t 16],
 oP 11 .mv [.t 17]]
def c98r2 : List AOper := [
 oP 18 .mv [.t 10],
 oP 19 .mv [.t 11],
 oP 20 (.bin .neq) [.t 18,.t 19]]
def c98k3 : ACode := (.cond (.t 20) .skip (.exit 0))
def c98r4 : List AOper := [
 oP 21 .mv [.t 10],
 oP 22 .mv [.t 11],
 oP 23 (.bin .gtr) [.t 21,.t 22]]
def c98r5 : List AOper := [
 oP 24 .mv [.t 0],
 oP 25 .mv [.t 2],
 oP 26 .mv [.t 10],
 oP 27 (.bin .sub) [.t 25,.t 26],
 oP 28 .mv [.t 2],
 oP 29 .mv [.t 11],
 oP 30 .mv [.t 4],
 oP 31 .call [.c (.pv none (.func (.func 103))),.t 24,.t 27,.t 28,.t 29,.t 30]]
def c98r6 : List AOper := [
 oP 32 .mv [.t 10],
 oP 33 .mv [.t 11],
 oP 34 (.bin .sub) [.t 32,.t 33],
 oP 10 .mv [.t 34]]
def c98r7 : List AOper := [
 oP 35 .mv [.t 0],
 oP 36 .mv [.t 2],
 oP 37 .mv [.t 10],
 oP 38 (.bin .sub) [.t 36,.t 37],
 oP 39 .mv [.t 2],
 oP 40 .mv [.t 11],
 oP 41 (.bin .add) [.t 39,.t 40],
 oP 42 .mv [.t 10],
 oP 43 (.bin .sub) [.t 41,.t 42],
 oP 44 .mv [.t 10],
 oP 45 .mv [.t 4],
 oP 46 .call [.c (.pv none (.func (.func 103))),.t 35,.t 38,.t 43,.t 44,.t 45]]
def c98r8 : List AOper := [
 oP 47 .mv [.t 11],
 oP 48 .mv [.t 10],
 oP 49 (.bin .sub) [.t 47,.t 48],
 oP 11 .mv [.t 49]]
def c98k9 : ACode := (.cond (.t 23) (.seq (.region true c98r5 [0,2,4,10,11]) (.region true c98r6 [0,2,4,10,11])) (.seq (.region true c98r7 [0,2,4,10,11]) (.region true c98r8 [0,2,4,10,11])))
def c98k10 : ACode := (.block 1 (.seq (.region true c98r4 [0,2,4,10,11,23]) c98k9))
def c98b11 : ACode := (.seq (.seq (.region true c98r2 [0,2,4,10,11,20]) c98k3) c98k10)
def c98k12 : ACode := (.block 0 (.loop [0,2,4,10,11] c98b11))
def c98r13 : List AOper := [
 oP 50 .mv [.t 0],
 oP 51 .mv [.t 2],
 oP 52 .mv [.t 10],
 oP 53 (.bin .sub) [.t 51,.t 52],
 oP 54 .mv [.t 2],
 oP 55 .mv [.t 10],
 oP 56 .mv [.t 4],
 oP 57 .call [.c (.pv none (.func (.func 103))),.t 50,.t 53,.t 54,.t 55,.t 56]]
def c98 : ACode := (.seq (.region true c98r0 [0,2,3,4,10]) (.seq (.region true c98r1 [0,2,4,10,11]) (.seq c98k12 (.region true c98r13 []))))
def g98 : AFn := ⟨5,[],c98,true,[],[],none⟩
theorem tr98 : trFn Try.prog true 98 Try.f98 = some g98 := by kernel_rfl
def c99r0 : List AOper := [
 oP 6 (.box (some 4)) [.t 2],
 oP 8 .mv [.c (.pv none (.bool false))]]
def c99r1 : List AOper := [
 oP 13 (.faddr 0) [.t 6],
 oP 14 (.load none) [.t 13],
 oP 15 (.bin .eql) [.t 14,.c (.pv none (.int .i64 0))]]
def c99r2 : List AOper := [
 oP 17 .mv [.t 0],
 oP 18 (.load (some 4)) [.t 6],
 oP 19 .call [.c (.pv none (.func (.func 93))),.t 17,.t 18],
 oP 16 .mv [.t 19],
 oP 20 (.extract 0) [.t 16],
 oP 21 (.extract 1) [.t 16],
 oP 9 aZ [],
 ⟨none,(.store (some 4)),[.t 9,.t 20],none⟩,
 oP 10 .mv [.t 21]]
def c99r3 : List AOper := [
 oP 22 .mv [.t 10],
 oP 23 .not [.t 22]]
def c99r4 : List AOper := [
 oP 24 (.faddr 1) [.t 6],
 oP 25 (.load none) [.t 24],
 oP 26 .mv [.t 1],
 oP 27 (.bin .eql) [.t 25,.t 26],
 oP 8 .mv [.t 27]]
def c99k5 : ACode := (.cond (.t 23) (.seq (.region true c99r4 [8]) .ret) .skip)
def c99r6 : List AOper := [
 oP 28 .mv [.t 3],
 oP 29 (.faddr 1) [.t 6],
 oP 30 (.load none) [.t 29],
 oP 31 (.lookup false none (.pv none (.int .i64 0)) false) [.t 28,.t 30],
 oP 32 (.bin .add) [.t 31,.c (.pv none (.int .i64 1))],
 ⟨none,(.mapset false none),[.t 28,.t 30,.t 32],none⟩]
def c99r7 : List AOper := [
 oP 33 .mv [.t 3],
 oP 34 (.faddr 1) [.t 6],
 oP 35 (.load none) [.t 34],
 oP 36 (.lookup false none (.pv none (.int .i64 0)) false) [.t 33,.t 35],
 oP 37 (.bin .eql) [.t 36,.c (.pv none (.int .i64 1))],
 oP 38 .mv [.t 37],
 ⟨some 39,.mv,[.t 0],some (38,true)⟩,
 ⟨some 40,.mv,[.t 1],some (38,true)⟩,
 ⟨some 41,(.load (some 4)),[.t 9],some (38,true)⟩,
 ⟨some 42,.mv,[.t 3],some (38,true)⟩,
 ⟨some 43,.call,[.c (.pv none (.func (.func 99))),.t 39,.t 40,.t 41,.t 42],some (38,true)⟩,
 oP 44 .pick [.t 38,.t 43,.c (.pv none (.bool false))],
 oP 8 .mv [.t 44]]
def c99k8 : ACode := (.cond (.t 15) (.seq (.region true c99r2 [0,1,3,6,9,10]) (.seq (.seq (.region true c99r3 [0,1,3,6,9,23]) c99k5) (.seq (.region true c99r6 [0,1,3,6,9]) (.seq (.region true c99r7 [8]) .ret)))) .skip)
def c99r9 : List AOper := [
 oP 45 (.faddr 3) [.t 6],
 oP 46 (.load none) [.t 45],
 oP 47 .len [.t 46],
 oP 48 .mv [.c (.pv none (.int .i64 0))]]
def c99r10 : List AOper := [
 oP 49 (.bin .lss) [.t 48,.t 47]]
def c99k11 : ACode := (.cond (.t 49) .skip (.exit 0))
def c99r12 : List AOper := [
 oP 50 (.iaddr (some 4)) [.t 46,.t 48],
 oP 51 (.load (some 4)) [.t 50],
 oP 12 aZ [],
 ⟨none,(.store (some 4)),[.t 12,.t 51],none⟩]
def c99r13 : List AOper := [
 oP 52 .mv [.t 0],
 oP 53 .mv [.t 1],
 oP 54 (.load (some 4)) [.t 12],
 oP 55 .mv [.t 3],
 oP 56 .call [.c (.pv none (.func (.func 99))),.t 52,.t 53,.t 54,.t 55]]
def c99r14 : List AOper := [
 oP 8 .mv [.c (.pv none (.bool true))]]
def c99k15 : ACode := (.cond (.t 56) (.seq (.region true c99r14 [8]) .ret) .skip)
def c99k16 : ACode := (.block 1 (.seq (.region true c99r12 [0,1,3,12,46,47,48]) (.seq (.region true c99r13 [0,1,3,46,47,48,56]) c99k15)))
def c99r17 : List AOper := [
 oP 57 (.bin .add) [.t 48,.c (.pv none (.int .i64 1))],
 oP 48 .mv [.t 57]]
def c99b18 : ACode := (.seq (.region true c99r10 [0,1,3,46,47,48,49]) (.seq c99k11 (.seq c99k16 (.region true c99r17 [0,1,3,46,47,48]))))
def c99k19 : ACode := (.block 0 (.loop [0,1,3,46,47,48] c99b18))
def c99r20 : List AOper := [
 oP 8 .mv [.c (.pv none (.bool false))]]
def c99 : ACode := (.seq (.region true c99r0 [0,1,3,6]) (.seq (.seq (.region true c99r1 [0,1,3,6,15]) c99k8) (.seq (.seq (.region true c99r9 [0,1,3,46,47,48]) c99k19) (.seq (.region true c99r20 [8]) .ret))))
def g99 : AFn := ⟨4,[(8,none)],c99,true,[],[],none⟩
theorem tr99 : trFn Try.prog true 99 Try.f99 = some g99 := by kernel_rfl
def c101r0 : List AOper := [
 oP 6 .mv [.c (.pv none (.int .i64 0))],
 oP 7 .mv [.c (.pv none (.bool false))]]
def c101r1 : List AOper := [
 oP 12 .mv [.t 0],
 oP 13 .len [.t 12],
 oP 8 .mv [.t 13]]
def c101r2 : List AOper := [
 oP 14 .mv [.t 8],
 oP 9 .mv [.c (.pv none (.int .i64 0))],
 oP 10 .mv [.t 14]]
def c101r3 : List AOper := [
 oP 15 .mv [.t 9],
 oP 16 .mv [.t 10],
 oP 17 (.bin .lss) [.t 15,.t 16]]
def c101k4 : ACode := (.cond (.t 17) .skip (.exit 0))
def c101r5 : List AOper := [
 oP 18 .mv [.t 9],
 oP 19 .mv [.t 10],
 oP 20 (.bin .add) [.t 18,.t 19],
 oP 21 (.conv .u64) [.t 20],
 oP 22 (.bin .shr) [.t 21,.c (.pv none (.int .u64 1))],
 oP 23 (.conv .i64) [.t 22],
 oP 11 .mv [.t 23]]
def c101r6 : List AOper := [
 oP 24 .mv [.t 2],
 oP 25 .mv [.t 0],
 oP 26 .mv [.t 11],
 oP 27 (.iaddr (some 5)) [.t 25,.t 26],
 oP 28 (.load (some 5)) [.t 27],
 oP 29 .mv [.t 1],
 oP 30 .call [.t 24,.t 28,.t 29],
 oP 31 (.bin .lss) [.t 30,.c (.pv none (.int .i64 0))]]
def c101r7 : List AOper := [
 oP 32 .mv [.t 11],
 oP 33 (.bin .add) [.t 32,.c (.pv none (.int .i64 1))],
 oP 9 .mv [.t 33]]
def c101r8 : List AOper := [
 oP 34 .mv [.t 11],
 oP 10 .mv [.t 34]]
def c101k9 : ACode := (.cond (.t 31) (.region true c101r7 [0,1,2,8,9,10]) (.region true c101r8 [0,1,2,8,9,10]))
def c101k10 : ACode := (.block 1 (.seq (.region true c101r5 [0,1,2,8,9,10,11]) (.seq (.region true c101r6 [0,1,2,8,9,10,11,31]) c101k9)))
def c101b11 : ACode := (.seq (.seq (.region true c101r3 [0,1,2,8,9,10,17]) c101k4) c101k10)
def c101k12 : ACode := (.block 0 (.loop [0,1,2,8,9,10] c101b11))
def c101r13 : List AOper := [
 oP 35 .mv [.t 9],
 oP 36 .mv [.t 9],
 oP 37 .mv [.t 8],
 oP 38 (.bin .lss) [.t 36,.t 37],
 oP 39 .mv [.t 38],
 ⟨some 40,.mv,[.t 2],some (39,true)⟩,
 ⟨some 41,.mv,[.t 0],some (39,true)⟩,
 ⟨some 42,.mv,[.t 9],some (39,true)⟩,
 ⟨some 43,(.iaddr (some 5)),[.t 41,.t 42],some (39,true)⟩,
 ⟨some 44,(.load (some 5)),[.t 43],some (39,true)⟩,
 ⟨some 45,.mv,[.t 1],some (39,true)⟩,
 ⟨some 46,.call,[.t 40,.t 44,.t 45],some (39,true)⟩,
 ⟨some 47,(.bin .eql),[.t 46,.c (.pv none (.int .i64 0))],some (39,true)⟩,
 oP 48 .pick [.t 39,.t 47,.c (.pv none (.bool false))],
 oP 6 .mv [.t 35],
 oP 7 .mv [.t 48]]
def c101 : ACode := (.seq (.region true c101r0 [0,1,2]) (.seq (.region true c101r1 [0,1,2,8]) (.seq (.region true c101r2 [0,1,2,8,9,10]) (.seq c101k12 (.seq (.region true c101r13 [6,7]) .ret)))))
def g101 : AFn := ⟨3,[(6,none),(7,none)],c101,false,[],[],none⟩
theorem tr101 : trFn Try.prog false 101 Try.f101 = some g101 := by kernel_rfl
def c102r0 : List AOper := [
 oP 2 (.box (some 5)) [.t 0],
 oP 4 .mv [.c (.pv none (.int .i64 0))]]
def c102r1 : List AOper := [
 oP 5 (.faddr 0) [.t 2],
 oP 6 (.load none) [.t 5],
 oP 7 .mv [.t 1],
 oP 8 .call [.c (.pv none (.func (.func 66))),.t 6,.t 7],
 oP 4 .mv [.t 8]]
def c102 : ACode := (.seq (.region true c102r0 [1,2]) (.seq (.region true c102r1 [4]) .ret))
def g102 : AFn := ⟨2,[(4,none)],c102,false,[],[],none⟩
theorem tr102 : trFn Try.prog false 102 Try.f102 = some g102 := by kernel_rfl
def c103r0 : List AOper := [
 oP 10 .mv [.c (.pv none (.int .i64 0))]]
def c103r1 : List AOper := [
 oP 11 .mv [.t 10],
 oP 12 .mv [.t 3],
 oP 13 (.bin .lss) [.t 11,.t 12]]
def c103k2 : ACode := (.cond (.t 13) .skip (.exit 0))
def c103r3 : List AOper := [
 oP 16 .mv [.t 0],
 oP 17 .mv [.t 1],
 oP 18 .mv [.t 10],
 oP 19 (.bin .add) [.t 17,.t 18],
 oP 20 .mv [.t 0],
 oP 21 .mv [.t 2],
 oP 22 .mv [.t 10],
 oP 23 (.bin .add) [.t 21,.t 22],
 oP 24 .mv [.t 0],
 oP 25 .mv [.t 2],
 oP 26 .mv [.t 10],
 oP 27 (.bin .add) [.t 25,.t 26],
 oP 28 (.iaddr (some 4)) [.t 24,.t 27],
 oP 29 (.load (some 4)) [.t 28],
 oP 30 .mv [.t 0],
 oP 31 .mv [.t 1],
 oP 32 .mv [.t 10],
 oP 33 (.bin .add) [.t 31,.t 32],
 oP 34 (.iaddr (some 4)) [.t 30,.t 33],
 oP 35 (.load (some 4)) [.t 34],
 oP 36 (.iaddr (some 4)) [.t 16,.t 19],
 ⟨none,(.store (some 4)),[.t 36,.t 29],none⟩,
 oP 37 (.iaddr (some 4)) [.t 20,.t 23],
 ⟨none,(.store (some 4)),[.t 37,.t 35],none⟩]
def c103k4 : ACode := (.block 1 (.region true c103r3 [0,1,2,3,10]))
def c103r5 : List AOper := [
 oP 14 .mv [.t 10],
 oP 15 (.bin .add) [.t 14,.c (.pv none (.int .i64 1))],
 oP 10 .mv [.t 15]]
def c103b6 : ACode := (.seq (.seq (.region true c103r1 [0,1,2,3,10,13]) c103k2) (.seq c103k4 (.region true c103r5 [0,1,2,3,10])))
def c103k7 : ACode := (.block 0 (.loop [0,1,2,3,10] c103b6))
def c103 : ACode := (.seq (.region true c103r0 [0,1,2,3,10]) c103k7)
def g103 : AFn := ⟨5,[],c103,true,[],[],none⟩
theorem tr103 : trFn Try.prog true 103 Try.f103 = some g103 := by kernel_rfl
def tab : List (Nat × AFn) := [(5,g5),(6,g6),(7,g7),(8,g8),(9,g9),(11,g11),(12,g12),(13,g13),(15,g15),(16,g16),(17,g17),(18,g18),(19,g19),(21,g21),(22,g22),(23,g23),(24,g24),(25,g25),(26,g26),(27,g27),(28,g28),(29,g29),(30,g30),(31,g31),(32,g32),(33,g33),(34,g34),(35,g35),(36,g36),(37,g37),(38,g38),(39,g39),(40,g40),(41,g41),(42,g42),(43,g43),(44,g44),(45,g45),(46,g46),(47,g47),(48,g48),(49,g49),(50,g50),(51,g51),(52,g52),(53,g53),(54,g54),(55,g55),(56,g56),(57,g57),(58,g58),(59,g59),(60,g60),(61,g61),(62,g62),(63,g63),(64,g64),(65,g65),(66,g66),(67,g67),(68,g68),(69,g69),(70,g70),(71,g71),(72,g72),(73,g73),(74,g74),(75,g75),(76,g76),(77,g77),(78,g78),(79,g79),(80,g80),(81,g81),(82,g82),(83,g83),(84,g84),(85,g85),(86,g86),(87,g87),(88,g88),(90,g90),(91,g91),(92,g92),(93,g93),(94,g94),(95,g95),(96,g96),(97,g97),(98,g98),(99,g99),(101,g101),(102,g102),(103,g103)]
theorem tab_ok : TabOk Try.prog tab :=
 (tabOk_cons Try.func5 tr5
 (tabOk_cons Try.func6 tr6
 (tabOk_cons Try.func7 tr7
 (tabOk_cons Try.func8 tr8
 (tabOk_cons Try.func9 tr9
 (tabOk_cons Try.func11 tr11
 (tabOk_cons Try.func12 tr12
 (tabOk_cons Try.func13 tr13
 (tabOk_cons Try.func15 tr15
 (tabOk_cons Try.func16 tr16
 (tabOk_cons Try.func17 tr17
 (tabOk_cons Try.func18 tr18
 (tabOk_cons Try.func19 tr19
 (tabOk_cons Try.func21 tr21
 (tabOk_cons Try.func22 tr22
 (tabOk_cons Try.func23 tr23
 (tabOk_cons Try.func24 tr24
 (tabOk_cons Try.func25 tr25
 (tabOk_cons Try.func26 tr26
 (tabOk_cons Try.func27 tr27
 (tabOk_cons Try.func28 tr28
 (tabOk_cons Try.func29 tr29
 (tabOk_cons Try.func30 tr30
 (tabOk_cons Try.func31 tr31
 (tabOk_cons Try.func32 tr32
 (tabOk_cons Try.func33 tr33
 (tabOk_cons Try.func34 tr34
 (tabOk_cons Try.func35 tr35
 (tabOk_cons Try.func36 tr36
 (tabOk_cons Try.func37 tr37
 (tabOk_cons Try.func38 tr38
 (tabOk_cons Try.func39 tr39
 (tabOk_cons Try.func40 tr40
 (tabOk_cons Try.func41 tr41
 (tabOk_cons Try.func42 tr42
 (tabOk_cons Try.func43 tr43
 (tabOk_cons Try.func44 tr44
 (tabOk_cons Try.func45 tr45
 (tabOk_cons Try.func46 tr46
 (tabOk_cons Try.func47 tr47
 (tabOk_cons Try.func48 tr48
 (tabOk_cons Try.func49 tr49
 (tabOk_cons Try.func50 tr50
 (tabOk_cons Try.func51 tr51
 (tabOk_cons Try.func52 tr52
 (tabOk_cons Try.func53 tr53
 (tabOk_cons Try.func54 tr54
 (tabOk_cons Try.func55 tr55
 (tabOk_cons Try.func56 tr56
 (tabOk_cons Try.func57 tr57
 (tabOk_cons Try.func58 tr58
 (tabOk_cons Try.func59 tr59
 (tabOk_cons Try.func60 tr60
 (tabOk_cons Try.func61 tr61
 (tabOk_cons Try.func62 tr62
 (tabOk_cons Try.func63 tr63
 (tabOk_cons Try.func64 tr64
 (tabOk_cons Try.func65 tr65
 (tabOk_cons Try.func66 tr66
 (tabOk_cons Try.func67 tr67
 (tabOk_cons Try.func68 tr68
 (tabOk_cons Try.func69 tr69
 (tabOk_cons Try.func70 tr70
 (tabOk_cons Try.func71 tr71
 (tabOk_cons Try.func72 tr72
 (tabOk_cons Try.func73 tr73
 (tabOk_cons Try.func74 tr74
 (tabOk_cons Try.func75 tr75
 (tabOk_cons Try.func76 tr76
 (tabOk_cons Try.func77 tr77
 (tabOk_cons Try.func78 tr78
 (tabOk_cons Try.func79 tr79
 (tabOk_cons Try.func80 tr80
 (tabOk_cons Try.func81 tr81
 (tabOk_cons Try.func82 tr82
 (tabOk_cons Try.func83 tr83
 (tabOk_cons Try.func84 tr84
 (tabOk_cons Try.func85 tr85
 (tabOk_cons Try.func86 tr86
 (tabOk_cons Try.func87 tr87
 (tabOk_cons Try.func88 tr88
 (tabOk_cons Try.func90 tr90
 (tabOk_cons Try.func91 tr91
 (tabOk_cons Try.func92 tr92
 (tabOk_cons Try.func93 tr93
 (tabOk_cons Try.func94 tr94
 (tabOk_cons Try.func95 tr95
 (tabOk_cons Try.func96 tr96
 (tabOk_cons Try.func97 tr97
 (tabOk_cons Try.func98 tr98
 (tabOk_cons Try.func99 tr99
 (tabOk_cons Try.func101 tr101
 (tabOk_cons Try.func102 tr102
 (tabOk_cons Try.func103 tr103 tabOk_nil))))))))))))))))))))))))))))))))))))))))))))))))))))))))))))))))))))))))))))))))))))))))))))))
end Go.Proofs.Ytffecaafklpmhaa
