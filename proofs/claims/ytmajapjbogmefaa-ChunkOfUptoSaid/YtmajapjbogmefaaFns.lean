/- The functions as the abstract machine has them,each proved to be what the translation gives. -/
import Derived.Test.YtmajapjbogmefaaAm3
import Derived.Test.YtmajapjbogmefaaProg
import Derived.KernelRfl
namespace Go.Proofs.Ytmajapjbogmefaa
open Go.Am
def c3r0 : List AOper := [
  ⟨some 1,(.box (some 5)),[.t 0],none⟩,
  ⟨some 2,.mv,[.c (.pv none (.bool false))],none⟩]
def c3r1 : List AOper := [
  ⟨some 7,(.load (some 5)),[.t 1],none⟩,
  ⟨some 8,.call,[.c (.pv none (.func (.func 10))),.t 7],none⟩,
  ⟨some 9,.not,[.t 8],none⟩]
def c3r2 : List AOper := [
  ⟨some 10,.call,[.c (.pv none (.func (.func 11)))],none⟩,
  ⟨some 2,.mv,[.t 10],none⟩]
def c3k3 : ACode := (.cond (.t 9) (.seq (.region true c3r2 [2]) .ret) .skip)
def c3r4 : List AOper := [
  ⟨some 12,(.load (some 5)),[.t 1],none⟩,
  ⟨some 13,.call,[.c (.pv none (.func (.func 12))),.t 12],none⟩,
  ⟨some 11,.mv,[.t 13],none⟩,
  ⟨some 14,(.extract 0),[.t 11],none⟩,
  ⟨some 15,(.extract 1),[.t 11],none⟩,
  ⟨some 3,(.alloc (some 3) (.agg [(none,(.tsl none [])),(none,(.tsl none [])),(none,(.tsl none []))])),[],none⟩,
  ⟨none,(.store (some 3)),[.t 3,.t 14],none⟩,
  ⟨some 4,.mv,[.t 15],none⟩]
def c3r5 : List AOper := [
  ⟨some 17,(.load (some 5)),[.t 1],none⟩,
  ⟨some 18,.call,[.c (.pv none (.func (.func 13))),.t 17],none⟩,
  ⟨some 16,.mv,[.t 18],none⟩,
  ⟨some 19,(.extract 0),[.t 16],none⟩,
  ⟨some 20,(.extract 1),[.t 16],none⟩,
  ⟨some 5,(.alloc (some 3) (.agg [(none,(.tsl none [])),(none,(.tsl none [])),(none,(.tsl none []))])),[],none⟩,
  ⟨none,(.store (some 3)),[.t 5,.t 19],none⟩,
  ⟨some 6,.mv,[.t 20],none⟩]
def c3r6 : List AOper := [
  ⟨some 21,(.load (some 3)),[.t 3],none⟩,
  ⟨some 22,(.load (some 3)),[.t 5],none⟩,
  ⟨some 23,.call,[.c (.pv none (.func (.func 14))),.t 21,.t 22],none⟩,
  ⟨some 24,.mv,[.t 23],none⟩,
  ⟨some 25,.mv,[.t 4],some (24,true)⟩,
  ⟨some 26,.mv,[.t 6],some (24,true)⟩,
  ⟨some 27,(.bin .eql),[.t 25,.t 26],some (24,true)⟩,
  ⟨some 28,.pick,[.t 24,.t 27,.c (.pv none (.bool false))],none⟩,
  ⟨some 29,.mv,[.t 28],none⟩,
  ⟨some 30,.call,[.c (.pv none (.func (.func 11)))],some (29,true)⟩,
  ⟨some 31,.pick,[.t 29,.t 30,.c (.pv none (.bool false))],none⟩,
  ⟨some 2,.mv,[.t 31],none⟩]
def c3 : ACode := (.seq (.region true c3r0 [1]) (.seq (.seq (.region true c3r1 [1,9]) c3k3) (.seq (.region true c3r4 [1,3,4]) (.seq (.region true c3r5 [3,4,5,6]) (.seq (.region true c3r6 [2]) .ret)))))
def g3 : AFn := ⟨1,[(2,none)],c3,false,[],[],none⟩
theorem tr3 : trFn Try.prog false 3 Try.f3 = some g3 := by kernel_rfl
def c4r0 : List AOper := [
  ⟨some 2,(.box (some 5)),[.t 0],none⟩,
  ⟨some 4,.mv,[.c (.pv none (.bool false))],none⟩]
def c4r1 : List AOper := [
  ⟨some 13,(.load (some 5)),[.t 2],none⟩,
  ⟨some 14,.call,[.c (.pv none (.func (.func 10))),.t 13],none⟩,
  ⟨some 15,.not,[.t 14],none⟩]
def c4r2 : List AOper := [
  ⟨some 16,.call,[.c (.pv none (.func (.func 11)))],none⟩,
  ⟨some 4,.mv,[.t 16],none⟩]
def c4k3 : ACode := (.cond (.t 15) (.seq (.region true c4r2 [4]) .ret) .skip)
def c4r4 : List AOper := [
  ⟨some 18,(.load (some 5)),[.t 2],none⟩,
  ⟨some 19,.call,[.c (.pv none (.func (.func 12))),.t 18],none⟩,
  ⟨some 17,.mv,[.t 19],none⟩,
  ⟨some 20,(.extract 0),[.t 17],none⟩,
  ⟨some 21,(.extract 1),[.t 17],none⟩,
  ⟨some 5,(.alloc (some 3) (.agg [(none,(.tsl none [])),(none,(.tsl none [])),(none,(.tsl none []))])),[],none⟩,
  ⟨none,(.store (some 3)),[.t 5,.t 20],none⟩,
  ⟨some 6,.mv,[.t 21],none⟩]
def c4r5 : List AOper := [
  ⟨some 22,(.load (some 5)),[.t 2],none⟩,
  ⟨some 23,.call,[.c (.pv none (.func (.func 15))),.t 22],none⟩,
  ⟨some 24,.not,[.t 23],none⟩]
def c4r6 : List AOper := [
  ⟨some 25,.mv,[.t 6],none⟩,
  ⟨some 26,(.bin .eql),[.t 25,.c (.pv none (.int .i64 1))],none⟩,
  ⟨some 27,.mv,[.t 26],none⟩,
  ⟨some 28,(.faddr 0),[.t 5],some (27,true)⟩,
  ⟨some 29,(.load none),[.t 28],some (27,true)⟩,
  ⟨some 30,.len,[.t 29],some (27,true)⟩,
  ⟨some 31,(.bin .eql),[.t 30,.c (.pv none (.int .i64 0))],some (27,true)⟩,
  ⟨some 32,.pick,[.t 27,.t 31,.c (.pv none (.bool false))],none⟩,
  ⟨some 33,.mv,[.t 32],none⟩,
  ⟨some 34,(.faddr 1),[.t 5],some (33,true)⟩,
  ⟨some 35,(.load none),[.t 34],some (33,true)⟩,
  ⟨some 36,.len,[.t 35],some (33,true)⟩,
  ⟨some 37,(.bin .eql),[.t 36,.c (.pv none (.int .i64 0))],some (33,true)⟩,
  ⟨some 38,.pick,[.t 33,.t 37,.c (.pv none (.bool false))],none⟩,
  ⟨some 39,.mv,[.t 38],none⟩,
  ⟨some 40,(.faddr 2),[.t 5],some (39,true)⟩,
  ⟨some 41,(.load none),[.t 40],some (39,true)⟩,
  ⟨some 42,.len,[.t 41],some (39,true)⟩,
  ⟨some 43,(.bin .eql),[.t 42,.c (.pv none (.int .i64 0))],some (39,true)⟩,
  ⟨some 44,.pick,[.t 39,.t 43,.c (.pv none (.bool false))],none⟩,
  ⟨some 45,.mv,[.t 44],none⟩,
  ⟨some 46,.call,[.c (.pv none (.func (.func 11)))],some (45,true)⟩,
  ⟨some 47,.pick,[.t 45,.t 46,.c (.pv none (.bool false))],none⟩,
  ⟨some 4,.mv,[.t 47],none⟩]
def c4k7 : ACode := (.cond (.t 24) (.seq (.region true c4r6 [4]) .ret) .skip)
def c4r8 : List AOper := [
  ⟨some 48,.mv,[.t 6],none⟩,
  ⟨some 49,(.bin .neq),[.t 48,.c (.pv none (.int .i64 0))],none⟩,
  ⟨some 50,.mv,[.t 49],none⟩,
  ⟨some 51,(.faddr 0),[.t 5],some (50,false)⟩,
  ⟨some 52,(.load none),[.t 51],some (50,false)⟩,
  ⟨some 53,.len,[.t 52],some (50,false)⟩,
  ⟨some 54,(.faddr 4),[.t 2],some (50,false)⟩,
  ⟨some 55,(.load none),[.t 54],some (50,false)⟩,
  ⟨some 56,.len,[.t 55],some (50,false)⟩,
  ⟨some 57,(.bin .neq),[.t 53,.t 56],some (50,false)⟩,
  ⟨some 58,.pick,[.t 50,.c (.pv none (.bool true)),.t 57],none⟩]
def c4r9 : List AOper := [
  ⟨some 4,.mv,[.c (.pv none (.bool false))],none⟩]
def c4k10 : ACode := (.cond (.t 58) (.seq (.region true c4r9 [4]) .ret) .skip)
def c4r11 : List AOper := [
  ⟨some 7,.mv,[.c (.pv none (.int .i64 0))],none⟩]
def c4r12 : List AOper := [
  ⟨some 8,.mv,[.c (.pv none (.int .i64 0))],none⟩]
def c4r13 : List AOper := [
  ⟨some 59,.mv,[.t 8],none⟩,
  ⟨some 60,(.faddr 4),[.t 2],none⟩,
  ⟨some 61,(.load none),[.t 60],none⟩,
  ⟨some 62,.len,[.t 61],none⟩,
  ⟨some 63,(.bin .lss),[.t 59,.t 62],none⟩]
def c4k14 : ACode := (.cond (.t 63) .skip (.exit 0))
def c4r15 : List AOper := [
  ⟨some 66,(.faddr 0),[.t 5],none⟩,
  ⟨some 67,(.load none),[.t 66],none⟩,
  ⟨some 68,.mv,[.t 8],none⟩,
  ⟨some 69,(.iaddr none),[.t 67,.t 68],none⟩,
  ⟨some 70,(.load none),[.t 69],none⟩,
  ⟨some 71,.mv,[.t 7],none⟩,
  ⟨some 72,(.bin .neq),[.t 70,.t 71],none⟩]
def c4r16 : List AOper := [
  ⟨some 4,.mv,[.c (.pv none (.bool false))],none⟩]
def c4k17 : ACode := (.cond (.t 72) (.seq (.region true c4r16 [4]) .ret) .skip)
def c4r18 : List AOper := [
  ⟨some 73,(.faddr 4),[.t 2],none⟩,
  ⟨some 74,(.load none),[.t 73],none⟩,
  ⟨some 75,.mv,[.t 8],none⟩,
  ⟨some 76,(.iaddr (some 6)),[.t 74,.t 75],none⟩,
  ⟨some 77,(.faddr 0),[.t 76],none⟩,
  ⟨some 78,(.load none),[.t 77],none⟩,
  ⟨some 79,(.bin .eql),[.t 78,.c (.pv none (.int .i64 1))],none⟩]
def c4r19 : List AOper := [
  ⟨some 80,.mv,[.t 7],none⟩,
  ⟨some 81,(.bin .add),[.t 80,.c (.pv none (.int .i64 1))],none⟩,
  ⟨some 7,.mv,[.t 81],none⟩]
def c4k20 : ACode := (.cond (.t 79) (.region true c4r19 [1,2,5,7,8]) .skip)
def c4k21 : ACode := (.block 1 (.seq (.seq (.region true c4r15 [1,2,5,7,8,72]) c4k17) (.seq (.region true c4r18 [1,2,5,7,8,79]) c4k20)))
def c4r22 : List AOper := [
  ⟨some 64,.mv,[.t 8],none⟩,
  ⟨some 65,(.bin .add),[.t 64,.c (.pv none (.int .i64 1))],none⟩,
  ⟨some 8,.mv,[.t 65],none⟩]
def c4b23 : ACode := (.seq (.seq (.region true c4r13 [1,2,5,7,8,63]) c4k14) (.seq c4k21 (.region true c4r22 [1,2,5,7,8])))
def c4k24 : ACode := (.block 0 (.loop [1,2,5,7,8] c4b23))
def c4r25 : List AOper := [
  ⟨some 9,.mv,[.c (.pv none (.int .i64 0))],none⟩]
def c4r26 : List AOper := [
  ⟨some 10,.mv,[.c (.pv none (.int .i64 0))],none⟩]
def c4r27 : List AOper := [
  ⟨some 82,.mv,[.t 10],none⟩,
  ⟨some 83,(.faddr 1),[.t 5],none⟩,
  ⟨some 84,(.load none),[.t 83],none⟩,
  ⟨some 85,.len,[.t 84],none⟩,
  ⟨some 86,(.bin .lss),[.t 82,.t 85],none⟩]
def c4k28 : ACode := (.cond (.t 86) .skip (.exit 2))
def c4r29 : List AOper := [
  ⟨some 89,(.faddr 1),[.t 5],none⟩,
  ⟨some 90,(.load none),[.t 89],none⟩,
  ⟨some 91,.mv,[.t 10],none⟩,
  ⟨some 92,(.iaddr none),[.t 90,.t 91],none⟩,
  ⟨some 93,(.load none),[.t 92],none⟩,
  ⟨some 94,.mv,[.t 1],none⟩,
  ⟨some 95,(.bin .eql),[.t 93,.t 94],none⟩]
def c4r30 : List AOper := [
  ⟨some 96,.mv,[.t 9],none⟩,
  ⟨some 97,(.bin .add),[.t 96,.c (.pv none (.int .i64 1))],none⟩,
  ⟨some 9,.mv,[.t 97],none⟩]
def c4k31 : ACode := (.cond (.t 95) (.region true c4r30 [1,2,5,9,10]) .skip)
def c4k32 : ACode := (.block 3 (.seq (.region true c4r29 [1,2,5,9,10,95]) c4k31))
def c4r33 : List AOper := [
  ⟨some 87,.mv,[.t 10],none⟩,
  ⟨some 88,(.bin .add),[.t 87,.c (.pv none (.int .i64 1))],none⟩,
  ⟨some 10,.mv,[.t 88],none⟩]
def c4b34 : ACode := (.seq (.seq (.region true c4r27 [1,2,5,9,10,86]) c4k28) (.seq c4k32 (.region true c4r33 [1,2,5,9,10])))
def c4k35 : ACode := (.block 2 (.loop [1,2,5,9,10] c4b34))
def c4r36 : List AOper := [
  ⟨some 99,(.load (some 5)),[.t 2],none⟩,
  ⟨some 100,(.faddr 0),[.t 5],none⟩,
  ⟨some 101,(.load none),[.t 100],none⟩,
  ⟨some 102,.mv,[.t 1],none⟩,
  ⟨some 103,.call,[.c (.pv none (.func (.func 16))),.t 99,.t 101,.t 102],none⟩,
  ⟨some 98,.mv,[.t 103],none⟩,
  ⟨some 104,(.extract 0),[.t 98],none⟩,
  ⟨some 105,(.extract 1),[.t 98],none⟩,
  ⟨some 11,.mv,[.t 104],none⟩,
  ⟨some 12,.mv,[.t 105],none⟩]
def c4r37 : List AOper := [
  ⟨some 106,.mv,[.t 9],none⟩,
  ⟨some 107,(.bin .eql),[.t 106,.c (.pv none (.int .i64 1))],none⟩,
  ⟨some 108,.mv,[.t 11],none⟩,
  ⟨some 109,.mv,[.t 12],none⟩,
  ⟨some 110,(.bin .neq),[.t 108,.t 109],none⟩,
  ⟨some 111,(.binb .eql),[.t 107,.t 110],none⟩,
  ⟨some 112,.mv,[.t 111],none⟩,
  ⟨some 113,.mv,[.t 9],some (112,true)⟩,
  ⟨some 114,(.bin .leq),[.t 113,.c (.pv none (.int .i64 1))],some (112,true)⟩,
  ⟨some 115,.pick,[.t 112,.t 114,.c (.pv none (.bool false))],none⟩,
  ⟨some 116,.mv,[.t 115],none⟩,
  ⟨some 117,.call,[.c (.pv none (.func (.func 11)))],some (116,true)⟩,
  ⟨some 118,.pick,[.t 116,.t 117,.c (.pv none (.bool false))],none⟩,
  ⟨some 4,.mv,[.t 118],none⟩]
def c4 : ACode := (.seq (.region true c4r0 [1,2]) (.seq (.seq (.region true c4r1 [1,2,15]) c4k3) (.seq (.region true c4r4 [1,2,5,6]) (.seq (.seq (.region true c4r5 [1,2,5,6,24]) c4k7) (.seq (.seq (.region true c4r8 [1,2,5,58]) c4k10) (.seq (.region true c4r11 [1,2,5,7]) (.seq (.seq (.region true c4r12 [1,2,5,7,8]) c4k24) (.seq (.region true c4r25 [1,2,5,9]) (.seq (.seq (.region true c4r26 [1,2,5,9,10]) c4k35) (.seq (.region true c4r36 [9,11,12]) (.seq (.region true c4r37 [4]) .ret)))))))))))
def g4 : AFn := ⟨2,[(4,none)],c4,false,[],[],none⟩
theorem tr4 : trFn Try.prog false 4 Try.f4 = some g4 := by kernel_rfl
def c5r0 : List AOper := [
  ⟨some 1,(.box (some 5)),[.t 0],none⟩,
  ⟨some 2,.mv,[.c (.pv none (.bool false))],none⟩]
def c5r1 : List AOper := [
  ⟨some 10,(.load (some 5)),[.t 1],none⟩,
  ⟨some 11,.call,[.c (.pv none (.func (.func 10))),.t 10],none⟩,
  ⟨some 12,.not,[.t 11],none⟩]
def c5r2 : List AOper := [
  ⟨some 13,.call,[.c (.pv none (.func (.func 11)))],none⟩,
  ⟨some 2,.mv,[.t 13],none⟩]
def c5k3 : ACode := (.cond (.t 12) (.seq (.region true c5r2 [2]) .ret) .skip)
def c5r4 : List AOper := [
  ⟨some 15,(.load (some 5)),[.t 1],none⟩,
  ⟨some 16,.call,[.c (.pv none (.func (.func 12))),.t 15],none⟩,
  ⟨some 14,.mv,[.t 16],none⟩,
  ⟨some 17,(.extract 0),[.t 14],none⟩,
  ⟨some 18,(.extract 1),[.t 14],none⟩,
  ⟨some 3,(.alloc (some 3) (.agg [(none,(.tsl none [])),(none,(.tsl none [])),(none,(.tsl none []))])),[],none⟩,
  ⟨none,(.store (some 3)),[.t 3,.t 17],none⟩,
  ⟨some 4,.mv,[.t 18],none⟩]
def c5r5 : List AOper := [
  ⟨some 19,.mv,[.t 4],none⟩,
  ⟨some 20,(.bin .neq),[.t 19,.c (.pv none (.int .i64 0))],none⟩]
def c5r6 : List AOper := [
  ⟨some 21,.call,[.c (.pv none (.func (.func 11)))],none⟩,
  ⟨some 2,.mv,[.t 21],none⟩]
def c5k7 : ACode := (.cond (.t 20) (.seq (.region true c5r6 [2]) .ret) .skip)
def c5r8 : List AOper := [
  ⟨some 22,(.faddr 2),[.t 3],none⟩,
  ⟨some 23,(.load none),[.t 22],none⟩,
  ⟨some 24,.len,[.t 23],none⟩,
  ⟨some 25,(.faddr 4),[.t 1],none⟩,
  ⟨some 26,(.load none),[.t 25],none⟩,
  ⟨some 27,.len,[.t 26],none⟩,
  ⟨some 28,(.bin .neq),[.t 24,.t 27],none⟩,
  ⟨some 29,.mv,[.t 28],none⟩,
  ⟨some 30,(.faddr 0),[.t 3],some (29,false)⟩,
  ⟨some 31,(.load none),[.t 30],some (29,false)⟩,
  ⟨some 32,.len,[.t 31],some (29,false)⟩,
  ⟨some 33,(.faddr 4),[.t 1],some (29,false)⟩,
  ⟨some 34,(.load none),[.t 33],some (29,false)⟩,
  ⟨some 35,.len,[.t 34],some (29,false)⟩,
  ⟨some 36,(.bin .neq),[.t 32,.t 35],some (29,false)⟩,
  ⟨some 37,.pick,[.t 29,.c (.pv none (.bool true)),.t 36],none⟩]
def c5r9 : List AOper := [
  ⟨some 2,.mv,[.c (.pv none (.bool false))],none⟩]
def c5k10 : ACode := (.cond (.t 37) (.seq (.region true c5r9 [2]) .ret) .skip)
def c5r11 : List AOper := [
  ⟨some 38,(.faddr 1),[.t 3],none⟩,
  ⟨some 39,(.load none),[.t 38],none⟩,
  ⟨some 40,.len,[.t 39],none⟩,
  ⟨some 5,.mv,[.t 40],none⟩]
def c5r12 : List AOper := [
  ⟨some 6,.mv,[.c (.pv none (.int .i64 0))],none⟩]
def c5r13 : List AOper := [
  ⟨some 41,.mv,[.t 6],none⟩,
  ⟨some 42,(.faddr 4),[.t 1],none⟩,
  ⟨some 43,(.load none),[.t 42],none⟩,
  ⟨some 44,.len,[.t 43],none⟩,
  ⟨some 45,(.bin .lss),[.t 41,.t 44],none⟩]
def c5k14 : ACode := (.cond (.t 45) .skip (.exit 0))
def c5r15 : List AOper := [
  ⟨some 48,(.faddr 4),[.t 1],none⟩,
  ⟨some 49,(.load none),[.t 48],none⟩,
  ⟨some 50,.mv,[.t 6],none⟩,
  ⟨some 51,(.iaddr (some 6)),[.t 49,.t 50],none⟩,
  ⟨some 52,(.faddr 0),[.t 51],none⟩,
  ⟨some 53,(.load none),[.t 52],none⟩,
  ⟨some 54,(.bin .neq),[.t 53,.c (.pv none (.int .i64 1))],none⟩]
def c5r16 : List AOper := [
  ⟨some 55,(.faddr 2),[.t 3],none⟩,
  ⟨some 56,(.load none),[.t 55],none⟩,
  ⟨some 57,.mv,[.t 6],none⟩,
  ⟨some 58,(.iaddr none),[.t 56,.t 57],none⟩,
  ⟨some 59,(.load none),[.t 58],none⟩,
  ⟨some 60,(.bin .neq),[.t 59,.c (.pv none (.int .i64 0))],none⟩]
def c5r17 : List AOper := [
  ⟨some 2,.mv,[.c (.pv none (.bool false))],none⟩]
def c5k18 : ACode := (.cond (.t 60) (.seq (.region true c5r17 [2]) .ret) .skip)
def c5k19 : ACode := (.cond (.t 54) (.seq (.seq (.region true c5r16 [1,3,5,6,60]) c5k18) (.exit 1)) .skip)
def c5r20 : List AOper := [
  ⟨some 61,(.faddr 2),[.t 3],none⟩,
  ⟨some 62,(.load none),[.t 61],none⟩,
  ⟨some 63,.mv,[.t 6],none⟩,
  ⟨some 64,(.iaddr none),[.t 62,.t 63],none⟩,
  ⟨some 65,(.load none),[.t 64],none⟩,
  ⟨some 66,(.bin .lss),[.t 65,.c (.pv none (.int .i64 0))],none⟩,
  ⟨some 67,.mv,[.t 66],none⟩,
  ⟨some 68,(.faddr 2),[.t 3],some (67,false)⟩,
  ⟨some 69,(.load none),[.t 68],some (67,false)⟩,
  ⟨some 70,.mv,[.t 6],some (67,false)⟩,
  ⟨some 71,(.iaddr none),[.t 69,.t 70],some (67,false)⟩,
  ⟨some 72,(.load none),[.t 71],some (67,false)⟩,
  ⟨some 73,.mv,[.t 5],some (67,false)⟩,
  ⟨some 74,(.bin .gtr),[.t 72,.t 73],some (67,false)⟩,
  ⟨some 75,.pick,[.t 67,.c (.pv none (.bool true)),.t 74],none⟩,
  ⟨some 76,.mv,[.t 75],none⟩,
  ⟨some 77,.mv,[.t 6],some (76,false)⟩,
  ⟨some 78,(.faddr 4),[.t 1],some (76,false)⟩,
  ⟨some 79,(.load none),[.t 78],some (76,false)⟩,
  ⟨some 80,.len,[.t 79],some (76,false)⟩,
  ⟨some 81,(.bin .sub),[.t 80,.c (.pv none (.int .i64 1))],some (76,false)⟩,
  ⟨some 82,(.bin .eql),[.t 77,.t 81],some (76,false)⟩,
  ⟨some 83,.mv,[.t 82],some (76,false)⟩,
  ⟨some 84,(.faddr 2),[.t 3],some (83,true)⟩,
  ⟨some 85,(.load none),[.t 84],some (83,true)⟩,
  ⟨some 86,.mv,[.t 6],some (83,true)⟩,
  ⟨some 87,(.iaddr none),[.t 85,.t 86],some (83,true)⟩,
  ⟨some 88,(.load none),[.t 87],some (83,true)⟩,
  ⟨some 89,(.bin .neq),[.t 88,.c (.pv none (.int .i64 0))],some (83,true)⟩,
  ⟨some 90,.pick,[.t 83,.t 89,.c (.pv none (.bool false))],some (76,false)⟩,
  ⟨some 91,.pick,[.t 76,.c (.pv none (.bool true)),.t 90],none⟩]
def c5r21 : List AOper := [
  ⟨some 2,.mv,[.c (.pv none (.bool false))],none⟩]
def c5k22 : ACode := (.cond (.t 91) (.seq (.region true c5r21 [2]) .ret) .skip)
def c5r23 : List AOper := [
  ⟨some 92,(.faddr 2),[.t 3],none⟩,
  ⟨some 93,(.load none),[.t 92],none⟩,
  ⟨some 94,.mv,[.t 6],none⟩,
  ⟨some 95,(.iaddr none),[.t 93,.t 94],none⟩,
  ⟨some 96,(.load none),[.t 95],none⟩,
  ⟨some 5,.mv,[.t 96],none⟩]
def c5r24 : List AOper := [
  ⟨some 7,.mv,[.c (.pv none (.int .i64 0))],none⟩]
def c5r25 : List AOper := [
  ⟨some 97,.mv,[.t 7],none⟩,
  ⟨some 98,(.faddr 1),[.t 3],none⟩,
  ⟨some 99,(.load none),[.t 98],none⟩,
  ⟨some 100,.len,[.t 99],none⟩,
  ⟨some 101,(.bin .lss),[.t 97,.t 100],none⟩]
def c5k26 : ACode := (.cond (.t 101) .skip (.exit 2))
def c5r27 : List AOper := [
  ⟨some 105,(.load (some 5)),[.t 1],none⟩,
  ⟨some 106,(.faddr 0),[.t 3],none⟩,
  ⟨some 107,(.load none),[.t 106],none⟩,
  ⟨some 108,(.faddr 1),[.t 3],none⟩,
  ⟨some 109,(.load none),[.t 108],none⟩,
  ⟨some 110,.mv,[.t 7],none⟩,
  ⟨some 111,(.iaddr none),[.t 109,.t 110],none⟩,
  ⟨some 112,(.load none),[.t 111],none⟩,
  ⟨some 113,.call,[.c (.pv none (.func (.func 16))),.t 105,.t 107,.t 112],none⟩,
  ⟨some 104,.mv,[.t 113],none⟩,
  ⟨some 114,(.extract 0),[.t 104],none⟩,
  ⟨some 115,(.extract 1),[.t 104],none⟩,
  ⟨some 8,.mv,[.t 114],none⟩,
  ⟨some 9,.mv,[.t 115],none⟩]
def c5r28 : List AOper := [
  ⟨some 116,.mv,[.t 9],none⟩,
  ⟨some 117,(.faddr 0),[.t 3],none⟩,
  ⟨some 118,(.load none),[.t 117],none⟩,
  ⟨some 119,.mv,[.t 6],none⟩,
  ⟨some 120,(.iaddr none),[.t 118,.t 119],none⟩,
  ⟨some 121,(.load none),[.t 120],none⟩,
  ⟨some 122,(.bin .gtr),[.t 116,.t 121],none⟩,
  ⟨some 123,.mv,[.t 7],none⟩,
  ⟨some 124,(.faddr 2),[.t 3],none⟩,
  ⟨some 125,(.load none),[.t 124],none⟩,
  ⟨some 126,.mv,[.t 6],none⟩,
  ⟨some 127,(.iaddr none),[.t 125,.t 126],none⟩,
  ⟨some 128,(.load none),[.t 127],none⟩,
  ⟨some 129,(.bin .lss),[.t 123,.t 128],none⟩,
  ⟨some 130,(.binb .neq),[.t 122,.t 129],none⟩]
def c5r29 : List AOper := [
  ⟨some 2,.mv,[.c (.pv none (.bool false))],none⟩]
def c5k30 : ACode := (.cond (.t 130) (.seq (.region true c5r29 [2]) .ret) .skip)
def c5k31 : ACode := (.block 3 (.seq (.region true c5r27 [1,3,5,6,7,9]) (.seq (.region true c5r28 [1,3,5,6,7,130]) c5k30)))
def c5r32 : List AOper := [
  ⟨some 102,.mv,[.t 7],none⟩,
  ⟨some 103,(.bin .add),[.t 102,.c (.pv none (.int .i64 1))],none⟩,
  ⟨some 7,.mv,[.t 103],none⟩]
def c5b33 : ACode := (.seq (.seq (.region true c5r25 [1,3,5,6,7,101]) c5k26) (.seq c5k31 (.region true c5r32 [1,3,5,6,7])))
def c5k34 : ACode := (.block 2 (.loop [1,3,5,6,7] c5b33))
def c5k35 : ACode := (.block 1 (.seq (.seq (.region true c5r15 [1,3,5,6,54]) c5k19) (.seq (.seq (.region true c5r20 [1,3,6,91]) c5k22) (.seq (.region true c5r23 [1,3,5,6]) (.seq (.region true c5r24 [1,3,5,6,7]) c5k34)))))
def c5r36 : List AOper := [
  ⟨some 46,.mv,[.t 6],none⟩,
  ⟨some 47,(.bin .add),[.t 46,.c (.pv none (.int .i64 1))],none⟩,
  ⟨some 6,.mv,[.t 47],none⟩]
def c5b37 : ACode := (.seq (.seq (.region true c5r13 [1,3,5,6,45]) c5k14) (.seq c5k35 (.region true c5r36 [1,3,5,6])))
def c5k38 : ACode := (.block 0 (.loop [1,3,5,6] c5b37))
def c5r39 : List AOper := [
  ⟨some 131,.call,[.c (.pv none (.func (.func 11)))],none⟩,
  ⟨some 2,.mv,[.t 131],none⟩]
def c5 : ACode := (.seq (.region true c5r0 [1]) (.seq (.seq (.region true c5r1 [1,12]) c5k3) (.seq (.region true c5r4 [1,3,4]) (.seq (.seq (.region true c5r5 [1,3,20]) c5k7) (.seq (.seq (.region true c5r8 [1,3,37]) c5k10) (.seq (.region true c5r11 [1,3,5]) (.seq (.seq (.region true c5r12 [1,3,5,6]) c5k38) (.seq (.region true c5r39 [2]) .ret))))))))
def g5 : AFn := ⟨1,[(2,none)],c5,false,[],[],none⟩
theorem tr5 : trFn Try.prog false 5 Try.f5 = some g5 := by kernel_rfl
def c7r0 : List AOper := [
  ⟨some 2,(.box (some 5)),[.t 0],none⟩,
  ⟨some 4,.mv,[.c (.pv none (.bool false))],none⟩]
def c7r1 : List AOper := [
  ⟨some 5,(.load (some 5)),[.t 2],none⟩,
  ⟨some 6,.call,[.c (.pv none (.func (.func 10))),.t 5],none⟩,
  ⟨some 7,.not,[.t 6],none⟩]
def c7r2 : List AOper := [
  ⟨some 8,.call,[.c (.pv none (.func (.func 11)))],none⟩,
  ⟨some 4,.mv,[.t 8],none⟩]
def c7k3 : ACode := (.cond (.t 7) (.seq (.region true c7r2 [4]) .ret) .skip)
def c7r4 : List AOper := [
  ⟨some 9,(.load (some 5)),[.t 2],none⟩,
  ⟨some 10,.mv,[.t 1],none⟩,
  ⟨some 11,.callp,[.c (.pv none (.func (.func 17))),.t 9,.t 10],none⟩,
  ⟨some 12,(.load (some 5)),[.t 2],none⟩,
  ⟨some 13,.mv,[.t 1],none⟩,
  ⟨some 14,.callp,[.c (.pv none (.func (.func 18))),.t 12,.t 13],none⟩,
  ⟨some 15,(.bin .eql),[.t 11,.t 14],none⟩,
  ⟨some 16,.mv,[.t 15],none⟩,
  ⟨some 17,.callp,[.c (.pv none (.func (.func 11)))],some (16,true)⟩,
  ⟨some 18,.pick,[.t 16,.t 17,.c (.pv none (.bool false))],none⟩,
  ⟨some 4,.mv,[.t 18],none⟩]
def c7 : ACode := (.seq (.region true c7r0 [1,2]) (.seq (.seq (.region true c7r1 [1,2,7]) c7k3) (.seq (.seq (.settle [1,2]) (.region true c7r4 [4])) .ret)))
def g7 : AFn := ⟨2,[(4,none)],c7,false,[],[],none⟩
theorem tr7 : trFn Try.prog false 7 Try.f7 = some g7 := by kernel_rfl
def c8r0 : List AOper := [
  ⟨some 0,.mv,[.c (.pv none (.bool false))],none⟩]
def c8r1 : List AOper := [
  ⟨some 10,.call,[.c (.pv none (.func (.func 19))),.c (.pv none (.int .i64 0))],none⟩,
  ⟨some 11,.call,[.c (.pv none (.func (.func 19))),.c (.pv none (.int .i64 1))],none⟩,
  ⟨some 1,(.alloc (some 4) (.agg [(none,(.pv none (.int .i64 0))),(none,(.pv none (.int .i64 0))),(none,(.pv none (.str []))),(none,(.tsl (some 4) []))])),[],none⟩,
  ⟨some 2,(.alloc (some 4) (.agg [(none,(.pv none (.int .i64 0))),(none,(.pv none (.int .i64 0))),(none,(.pv none (.str []))),(none,(.tsl (some 4) []))])),[],none⟩,
  ⟨none,(.store (some 4)),[.t 1,.t 10],none⟩,
  ⟨none,(.store (some 4)),[.t 2,.t 11],none⟩]
def c8r2 : List AOper := [
  ⟨some 13,(.load (some 4)),[.t 1],none⟩,
  ⟨some 14,(.load (some 4)),[.t 2],none⟩,
  ⟨some 15,(.bslicep (some 4)),[.t 13,.t 14],none⟩,
  ⟨some 16,(.build [(none,(.pv none (.int .i64 0))),((some 3),(.pv (some 3) (.agg [(none,(.str [])),(none,(.int .i64 0)),(none,(.int .i64 0))]))),(none,(.tsl (some 4) [])),(none,(.pv none (.int .i64 0)))] [0,3]),[.c (.pv none (.int .i64 2)),.c (.pv none (.int .i64 2))],none⟩,
  ⟨some 17,(.bslicep none),[.c (.pv none (.int .i64 0))],none⟩,
  ⟨some 18,.callp,[.c (.pv none (.func (.func 21))),.c (.pv none (.str [113])),.t 17],none⟩,
  ⟨some 19,(.build [(none,(.pv none (.int .i64 0))),((some 3),(.pv (some 3) (.agg [(none,(.str [])),(none,(.int .i64 0)),(none,(.int .i64 0))]))),(none,(.tsl (some 4) [])),(none,(.pv none (.int .i64 0)))] [0,3]),[.c (.pv none (.int .i64 4)),.c (.pv none (.int .i64 2))],none⟩,
  ⟨some 20,(.bslicep none),[.c (.pv none (.int .i64 1)),.c (.pv none (.int .i64 0))],none⟩,
  ⟨some 21,.callp,[.c (.pv none (.func (.func 21))),.c (.pv none (.str [114])),.t 20],none⟩,
  ⟨some 22,(.bslicep (some 6)),[.t 16,.t 18,.t 19,.t 21],none⟩,
  ⟨some 23,.callp,[.c (.pv none (.func (.func 20))),.t 15,.t 22],none⟩,
  ⟨some 24,.callp,[.c (.pv none (.func (.func 12))),.t 23],none⟩,
  ⟨some 12,.mv,[.t 24],none⟩,
  ⟨some 25,(.extract 0),[.t 12],none⟩,
  ⟨some 26,(.extract 1),[.t 12],none⟩,
  ⟨some 3,(.alloc (some 3) (.agg [(none,(.tsl none [])),(none,(.tsl none [])),(none,(.tsl none []))])),[],none⟩,
  ⟨none,(.store (some 3)),[.t 3,.t 25],none⟩,
  ⟨some 4,.mv,[.t 26],none⟩]
def c8r3 : List AOper := [
  ⟨some 28,(.bslice none),[.c (.pv none (.int .i64 0)),.c (.pv none (.int .i64 1))],none⟩,
  ⟨some 29,.call,[.c (.pv none (.func (.func 21))),.c (.pv none (.str [113])),.t 28],none⟩,
  ⟨some 30,(.bslice none),[.c (.pv none (.int .i64 0))],none⟩,
  ⟨some 31,.call,[.c (.pv none (.func (.func 21))),.c (.pv none (.str [114])),.t 30],none⟩,
  ⟨some 32,(.bslice none),[.c (.pv none (.int .i64 1))],none⟩,
  ⟨some 33,.call,[.c (.pv none (.func (.func 21))),.c (.pv none (.str [115])),.t 32],none⟩,
  ⟨some 34,.call,[.c (.pv none (.func (.func 21))),.c (.pv none (.str [116])),.c (.tsl none [])],none⟩,
  ⟨some 35,(.bslice (some 6)),[.t 29,.t 31,.t 33,.t 34],none⟩,
  ⟨some 36,.call,[.c (.pv none (.func (.func 20))),.c (.tsl (some 4) []),.t 35],none⟩,
  ⟨some 37,.call,[.c (.pv none (.func (.func 12))),.t 36],none⟩,
  ⟨some 27,.mv,[.t 37],none⟩,
  ⟨some 38,(.extract 0),[.t 27],none⟩,
  ⟨some 39,(.extract 1),[.t 27],none⟩,
  ⟨some 5,(.alloc (some 3) (.agg [(none,(.tsl none [])),(none,(.tsl none [])),(none,(.tsl none []))])),[],none⟩,
  ⟨none,(.store (some 3)),[.t 5,.t 38],none⟩,
  ⟨some 6,.mv,[.t 39],none⟩]
def c8r4 : List AOper := [
  ⟨some 40,(.load (some 4)),[.t 1],none⟩,
  ⟨some 41,(.bslicep (some 4)),[.t 40],none⟩,
  ⟨some 42,.callp,[.c (.pv none (.func (.func 22))),.c (.pv none (.str [102])),.t 41],none⟩,
  ⟨some 43,(.load (some 4)),[.t 1],none⟩,
  ⟨some 44,(.bslicep (some 4)),[.t 42,.t 43],none⟩,
  ⟨some 45,(.bslicep none),[.c (.pv none (.int .i64 0))],none⟩,
  ⟨some 46,.callp,[.c (.pv none (.func (.func 21))),.c (.pv none (.str [113])),.t 45],none⟩,
  ⟨some 47,(.bslicep (some 6)),[.t 46],none⟩,
  ⟨some 48,.callp,[.c (.pv none (.func (.func 20))),.t 44,.t 47],none⟩,
  ⟨some 7,(.alloc (some 5) (.agg [((some 3),(.pv (some 3) (.agg [(none,(.str [])),(none,(.int .i64 0)),(none,(.int .i64 0))]))),(none,(.tsl (some 4) [])),(none,(.tsl (some 6) []))])),[],none⟩,
  ⟨none,(.store (some 5)),[.t 7,.t 48],none⟩]
def c8r5 : List AOper := [
  ⟨some 49,.mv,[.t 4],none⟩,
  ⟨some 50,(.bin .eql),[.t 49,.c (.pv none (.int .i64 0))],none⟩,
  ⟨some 51,.mv,[.t 50],none⟩,
  ⟨some 52,(.load (some 3)),[.t 3],some (51,true)⟩,
  ⟨some 53,(.bslice none),[.c (.pv none (.int .i64 0)),.c (.pv none (.int .i64 0)),.c (.pv none (.int .i64 1)),.c (.pv none (.int .i64 1))],some (51,true)⟩,
  ⟨some 54,(.bslice none),[.c (.pv none (.int .i64 0)),.c (.pv none (.int .i64 1)),.c (.pv none (.int .i64 2))],some (51,true)⟩,
  ⟨some 55,(.bslice none),[.c (.pv none (.int .i64 0)),.c (.pv none (.int .i64 3)),.c (.pv none (.int .i64 0)),.c (.pv none (.int .i64 0))],some (51,true)⟩,
  ⟨some 56,(.build [(none,(.tsl none [])),(none,(.tsl none [])),(none,(.tsl none []))] [0,1,2]),[.t 53,.t 54,.t 55],some (51,true)⟩,
  ⟨some 57,.call,[.c (.pv none (.func (.func 14))),.t 52,.t 56],some (51,true)⟩,
  ⟨some 58,.pick,[.t 51,.t 57,.c (.pv none (.bool false))],none⟩,
  ⟨some 8,.mv,[.t 58],none⟩]
def c8r6 : List AOper := [
  ⟨some 59,.mv,[.t 6],none⟩,
  ⟨some 60,(.bin .eql),[.t 59,.c (.pv none (.int .i64 0))],none⟩,
  ⟨some 61,.mv,[.t 60],none⟩,
  ⟨some 62,(.load (some 3)),[.t 5],some (61,true)⟩,
  ⟨some 63,(.bslice none),[.c (.pv none (.int .i64 0)),.c (.pv none (.int .i64 1)),.c (.pv none (.int .i64 2)),.c (.pv none (.int .i64 3))],some (61,true)⟩,
  ⟨some 64,(.bslice none),[.c (.pv none (.int .i64 1)),.c (.pv none (.int .i64 0))],some (61,true)⟩,
  ⟨some 65,(.bslice none),[.c (.pv none (.int .i64 2)),.c (.pv none (.int .i64 1)),.c (.pv none (.int .i64 0)),.c (.pv none (.int .i64 0))],some (61,true)⟩,
  ⟨some 66,(.build [(none,(.tsl none [])),(none,(.tsl none [])),(none,(.tsl none []))] [0,1,2]),[.t 63,.t 64,.t 65],some (61,true)⟩,
  ⟨some 67,.call,[.c (.pv none (.func (.func 14))),.t 62,.t 66],some (61,true)⟩,
  ⟨some 68,.pick,[.t 61,.t 67,.c (.pv none (.bool false))],none⟩,
  ⟨some 9,.mv,[.t 68],none⟩]
def c8r7 : List AOper := [
  ⟨some 69,.mv,[.t 8],none⟩,
  ⟨some 70,.mv,[.t 69],none⟩,
  ⟨some 71,.mv,[.t 9],some (70,true)⟩,
  ⟨some 72,.pick,[.t 70,.t 71,.c (.pv none (.bool false))],none⟩,
  ⟨some 73,.mv,[.t 72],none⟩,
  ⟨some 74,(.load (some 5)),[.t 7],some (73,true)⟩,
  ⟨some 75,.call,[.c (.pv none (.func (.func 17))),.t 74,.c (.pv none (.int .i64 0))],some (73,true)⟩,
  ⟨some 76,(.bin .eql),[.t 75,.c (.pv none (.int .i64 3))],some (73,true)⟩,
  ⟨some 77,.pick,[.t 73,.t 76,.c (.pv none (.bool false))],none⟩,
  ⟨some 78,.mv,[.t 77],none⟩,
  ⟨some 79,(.load (some 5)),[.t 7],some (78,true)⟩,
  ⟨some 80,.call,[.c (.pv none (.func (.func 17))),.t 79,.c (.pv none (.int .i64 1))],some (78,true)⟩,
  ⟨some 81,(.bin .eql),[.t 80,.c (.pv none (.int .i64 0))],some (78,true)⟩,
  ⟨some 82,.pick,[.t 78,.t 81,.c (.pv none (.bool false))],none⟩,
  ⟨some 83,.mv,[.t 82],none⟩,
  ⟨some 84,.call,[.c (.pv none (.func (.func 11)))],some (83,true)⟩,
  ⟨some 85,.pick,[.t 83,.t 84,.c (.pv none (.bool false))],none⟩,
  ⟨some 0,.mv,[.t 85],none⟩]
def c8 : ACode := (.seq (.region true c8r0 []) (.seq (.region true c8r1 [1,2]) (.seq (.seq (.settle []) (.region true c8r2 [1,3,4])) (.seq (.region true c8r3 [1,3,4,5,6]) (.seq (.seq (.settle []) (.region true c8r4 [3,4,5,6,7])) (.seq (.region true c8r5 [5,6,7,8]) (.seq (.region true c8r6 [7,8,9]) (.seq (.region true c8r7 [0]) .ret))))))))
def g8 : AFn := ⟨0,[(0,none)],c8,false,[],[],none⟩
theorem tr8 : trFn Try.prog false 8 Try.f8 = some g8 := by kernel_rfl
def c10r0 : List AOper := [
  ⟨some 1,(.box (some 5)),[.t 0],none⟩,
  ⟨some 2,.mv,[.c (.pv none (.bool false))],none⟩]
def c10r1 : List AOper := [
  ⟨some 3,(.faddr 3),[.t 1],none⟩,
  ⟨some 4,(.load none),[.t 3],none⟩,
  ⟨some 5,.len,[.t 4],none⟩,
  ⟨some 6,(.bin .leq),[.t 5,.c (.pv none (.int .i64 20))],none⟩,
  ⟨some 7,.mv,[.t 6],none⟩,
  ⟨some 8,(.faddr 4),[.t 1],some (7,true)⟩,
  ⟨some 9,(.load none),[.t 8],some (7,true)⟩,
  ⟨some 10,.len,[.t 9],some (7,true)⟩,
  ⟨some 11,(.bin .leq),[.t 10,.c (.pv none (.int .i64 100))],some (7,true)⟩,
  ⟨some 12,.pick,[.t 7,.t 11,.c (.pv none (.bool false))],none⟩,
  ⟨some 2,.mv,[.t 12],none⟩]
def c10 : ACode := (.seq (.region true c10r0 [1]) (.seq (.region true c10r1 [2]) .ret))
def g10 : AFn := ⟨1,[(2,none)],c10,false,[],[],none⟩
theorem tr10 : trFn Try.prog false 10 Try.f10 = some g10 := by kernel_rfl
def c11r0 : List AOper := [
  ⟨some 0,.mv,[.c (.pv none (.bool false))],none⟩]
def c11r1 : List AOper := [
  ⟨some 4,.call,[.c (.pv none (.func (.func 19))),.c (.pv none (.int .i64 0))],none⟩,
  ⟨some 5,(.bslice (some 4)),[.t 4],none⟩,
  ⟨some 6,(.bslice none),[.c (.pv none (.int .i64 0)),.c (.pv none (.int .i64 1))],none⟩,
  ⟨some 7,.call,[.c (.pv none (.func (.func 21))),.c (.pv none (.str [113])),.t 6],none⟩,
  ⟨some 8,(.bslice none),[.c (.pv none (.int .i64 1))],none⟩,
  ⟨some 9,.call,[.c (.pv none (.func (.func 21))),.c (.pv none (.str [114])),.t 8],none⟩,
  ⟨some 10,(.bslice (some 6)),[.t 7,.t 9],none⟩,
  ⟨some 11,.call,[.c (.pv none (.func (.func 20))),.t 5,.t 10],none⟩,
  ⟨some 12,.call,[.c (.pv none (.func (.func 12))),.t 11],none⟩,
  ⟨some 3,.mv,[.t 12],none⟩,
  ⟨some 13,(.extract 0),[.t 3],none⟩,
  ⟨some 14,(.extract 1),[.t 3],none⟩,
  ⟨some 1,(.alloc (some 3) (.agg [(none,(.tsl none [])),(none,(.tsl none [])),(none,(.tsl none []))])),[],none⟩,
  ⟨none,(.store (some 3)),[.t 1,.t 13],none⟩,
  ⟨some 2,.mv,[.t 14],none⟩]
def c11r2 : List AOper := [
  ⟨some 15,.mv,[.t 2],none⟩,
  ⟨some 16,(.bin .eql),[.t 15,.c (.pv none (.int .i64 0))],none⟩,
  ⟨some 17,.mv,[.t 16],none⟩,
  ⟨some 18,(.load (some 3)),[.t 1],some (17,true)⟩,
  ⟨some 19,(.bslice none),[.c (.pv none (.int .i64 0)),.c (.pv none (.int .i64 1))],some (17,true)⟩,
  ⟨some 20,(.bslice none),[.c (.pv none (.int .i64 1))],some (17,true)⟩,
  ⟨some 21,(.bslice none),[.c (.pv none (.int .i64 1)),.c (.pv none (.int .i64 0))],some (17,true)⟩,
  ⟨some 22,(.build [(none,(.tsl none [])),(none,(.tsl none [])),(none,(.tsl none []))] [0,1,2]),[.t 19,.t 20,.t 21],some (17,true)⟩,
  ⟨some 23,.call,[.c (.pv none (.func (.func 14))),.t 18,.t 22],some (17,true)⟩,
  ⟨some 24,.pick,[.t 17,.t 23,.c (.pv none (.bool false))],none⟩,
  ⟨some 0,.mv,[.t 24],none⟩]
def c11 : ACode := (.seq (.region true c11r0 []) (.seq (.region true c11r1 [1,2]) (.seq (.region true c11r2 [0]) .ret)))
def g11 : AFn := ⟨0,[(0,none)],c11,false,[],[],none⟩
theorem tr11 : trFn Try.prog false 11 Try.f11 = some g11 := by kernel_rfl
def c12r0 : List AOper := [
  ⟨some 1,(.box (some 5)),[.t 0],none⟩,
  ⟨some 2,(.alloc (some 3) (.agg [(none,(.tsl none [])),(none,(.tsl none [])),(none,(.tsl none []))])),[],none⟩,
  ⟨some 3,.mv,[.c (.pv none (.int .i64 0))],none⟩]
def c12r1 : List AOper := [
  ⟨some 15,(.load (some 5)),[.t 1],none⟩,
  ⟨some 16,.call,[.c (.pv none (.func (.func 15))),.t 15],none⟩,
  ⟨some 17,.not,[.t 16],none⟩]
def c12r2 : List AOper := [
  ⟨some 18,(.build [(none,(.tsl none [])),(none,(.tsl none [])),(none,(.tsl none []))] []),[],none⟩,
  ⟨none,(.store (some 3)),[.t 2,.t 18],none⟩,
  ⟨some 3,.mv,[.c (.pv none (.int .i64 1))],none⟩]
def c12k3 : ACode := (.cond (.t 17) (.seq (.region true c12r2 [2,3]) .ret) .skip)
def c12r4 : List AOper := [
  ⟨some 19,(.mkmap (some 3)),[],none⟩,
  ⟨some 4,(.alloc none (.pv none .nilmap)),[],none⟩,
  ⟨none,(.store none),[.t 4,.t 19],none⟩]
def c12r5 : List AOper := [
  ⟨some 5,(.alloc none (.tsl none [])),[],none⟩]
def c12r6 : List AOper := [
  ⟨some 20,(.load (some 5)),[.t 1],none⟩,
  ⟨some 21,.call,[.c (.pv none (.func (.func 24))),.t 20],none⟩]
def c12r7 : List AOper := [
  ⟨some 49,(.load none),[.t 5],none⟩,
  ⟨some 50,.len,[.t 49],none⟩,
  ⟨some 51,.mv,[.c (.pv none (.int .i64 0))],none⟩]
def c12r8 : List AOper := [
  ⟨some 52,(.bin .lss),[.t 51,.t 50],none⟩]
def c12k9 : ACode := (.cond (.t 52) .skip (.exit 2))
def c12r10 : List AOper := [
  ⟨some 53,(.iaddr none),[.t 49,.t 51],none⟩,
  ⟨some 54,(.load none),[.t 53],none⟩,
  ⟨some 10,.mv,[.t 54],none⟩]
def c12r11 : List AOper := [
  ⟨some 55,(.load none),[.t 4],none⟩,
  ⟨some 56,.mv,[.t 10],none⟩,
  ⟨some 57,(.lookup false (some 3) (.pv (some 3) (.agg [(none,(.int .i64 0)),(none,(.int .i64 0)),(none,(.int .i64 0))])) false),[.t 55,.t 56],none⟩,
  ⟨some 58,(.field 1 none),[.t 57],none⟩,
  ⟨some 59,(.load none),[.t 4],none⟩,
  ⟨some 60,.mv,[.t 10],none⟩,
  ⟨some 61,(.lookup false (some 3) (.pv (some 3) (.agg [(none,(.int .i64 0)),(none,(.int .i64 0)),(none,(.int .i64 0))])) false),[.t 59,.t 60],none⟩,
  ⟨some 62,(.field 2 none),[.t 61],none⟩,
  ⟨some 63,(.bin .lss),[.t 58,.t 62],none⟩]
def c12r12 : List AOper := [
  ⟨some 64,(.faddr 1),[.t 2],none⟩,
  ⟨some 65,(.load none),[.t 64],none⟩,
  ⟨some 66,.mv,[.t 10],none⟩,
  ⟨some 67,(.bslice none),[.t 66],none⟩,
  ⟨some 68,(.append none),[.t 65,.t 67],none⟩,
  ⟨some 69,(.faddr 1),[.t 2],none⟩,
  ⟨none,(.store none),[.t 69,.t 68],none⟩]
def c12k13 : ACode := (.cond (.t 63) (.region true c12r12 [1,2,4,49,50,51]) .skip)
def c12k14 : ACode := (.block 3 (.seq (.region true c12r10 [1,2,4,10,49,50,51]) (.seq (.region true c12r11 [1,2,4,10,49,50,51,63]) c12k13)))
def c12r15 : List AOper := [
  ⟨some 70,(.bin .add),[.t 51,.c (.pv none (.int .i64 1))],none⟩,
  ⟨some 51,.mv,[.t 70],none⟩]
def c12b16 : ACode := (.seq (.region true c12r8 [1,2,4,49,50,51,52]) (.seq c12k9 (.seq c12k14 (.region true c12r15 [1,2,4,49,50,51]))))
def c12k17 : ACode := (.block 2 (.loop [1,2,4,49,50,51] c12b16))
def c12r18 : List AOper := [
  ⟨some 71,(.faddr 1),[.t 2],none⟩,
  ⟨some 72,(.load none),[.t 71],none⟩,
  ⟨some 73,(.mkfunc (.func 26) 0),[.t 4],none⟩,
  ⟨some 74,.call,[.c (.pv none (.func (.func 25))),.t 72,.t 73],none⟩]
def c12r19 : List AOper := [
  ⟨some 11,.mv,[.c (.pv none (.int .i64 0))],none⟩]
def c12r20 : List AOper := [
  ⟨some 75,(.faddr 4),[.t 1],none⟩,
  ⟨some 76,(.load none),[.t 75],none⟩,
  ⟨some 77,.len,[.t 76],none⟩,
  ⟨some 78,.mv,[.c (.pv none (.int .i64 0))],none⟩]
def c12r21 : List AOper := [
  ⟨some 79,(.bin .lss),[.t 78,.t 77],none⟩]
def c12k22 : ACode := (.cond (.t 79) .skip (.exit 4))
def c12r23 : List AOper := [
  ⟨some 80,(.iaddr (some 6)),[.t 76,.t 78],none⟩,
  ⟨some 81,(.load (some 6)),[.t 80],none⟩,
  ⟨some 13,(.alloc (some 6) (.agg [(none,(.pv none (.int .i64 0))),((some 3),(.pv (some 3) (.agg [(none,(.str [])),(none,(.int .i64 0)),(none,(.int .i64 0))]))),(none,(.tsl (some 4) [])),(none,(.pv none (.int .i64 0)))])),[],none⟩,
  ⟨none,(.store (some 6)),[.t 13,.t 81],none⟩]
def c12r24 : List AOper := [
  ⟨some 82,(.faddr 0),[.t 2],none⟩,
  ⟨some 83,(.load none),[.t 82],none⟩,
  ⟨some 84,.mv,[.t 11],none⟩,
  ⟨some 85,(.bslice none),[.t 84],none⟩,
  ⟨some 86,(.append none),[.t 83,.t 85],none⟩,
  ⟨some 87,(.faddr 0),[.t 2],none⟩,
  ⟨none,(.store none),[.t 87,.t 86],none⟩]
def c12r25 : List AOper := [
  ⟨some 14,.mv,[.c (.pv none (.int .i64 0))],none⟩]
def c12r26 : List AOper := [
  ⟨some 88,(.faddr 0),[.t 13],none⟩,
  ⟨some 89,(.load none),[.t 88],none⟩,
  ⟨some 90,(.bin .eql),[.t 89,.c (.pv none (.int .i64 1))],none⟩]
def c12r27 : List AOper := [
  ⟨some 91,.mv,[.t 14],none⟩,
  ⟨some 92,(.faddr 1),[.t 2],none⟩,
  ⟨some 93,(.load none),[.t 92],none⟩,
  ⟨some 94,.len,[.t 93],none⟩,
  ⟨some 95,(.bin .lss),[.t 91,.t 94],none⟩,
  ⟨some 96,.mv,[.t 95],none⟩,
  ⟨some 97,(.load none),[.t 4],some (96,true)⟩,
  ⟨some 98,(.faddr 1),[.t 2],some (96,true)⟩,
  ⟨some 99,(.load none),[.t 98],some (96,true)⟩,
  ⟨some 100,.mv,[.t 14],some (96,true)⟩,
  ⟨some 101,(.iaddr none),[.t 99,.t 100],some (96,true)⟩,
  ⟨some 102,(.load none),[.t 101],some (96,true)⟩,
  ⟨some 103,(.lookup false (some 3) (.pv (some 3) (.agg [(none,(.int .i64 0)),(none,(.int .i64 0)),(none,(.int .i64 0))])) false),[.t 97,.t 102],some (96,true)⟩,
  ⟨some 104,(.field 2 none),[.t 103],some (96,true)⟩,
  ⟨some 105,.mv,[.t 11],some (96,true)⟩,
  ⟨some 106,(.bin .gtr),[.t 104,.t 105],some (96,true)⟩,
  ⟨some 107,.pick,[.t 96,.t 106,.c (.pv none (.bool false))],none⟩]
def c12k28 : ACode := (.cond (.t 107) .skip (.exit 6))
def c12r29 : List AOper := [
  ⟨some 108,.mv,[.t 14],none⟩,
  ⟨some 109,(.bin .add),[.t 108,.c (.pv none (.int .i64 1))],none⟩,
  ⟨some 14,.mv,[.t 109],none⟩]
def c12k30 : ACode := (.block 7 (.region true c12r29 [2,4,11,14,76,77,78]))
def c12b31 : ACode := (.seq (.seq (.region true c12r27 [2,4,11,14,76,77,78,107]) c12k28) c12k30)
def c12k32 : ACode := (.block 6 (.loop [2,4,11,14,76,77,78] c12b31))
def c12r33 : List AOper := [
  ⟨some 110,.mv,[.t 11],none⟩,
  ⟨some 111,(.bin .add),[.t 110,.c (.pv none (.int .i64 1))],none⟩,
  ⟨some 11,.mv,[.t 111],none⟩]
def c12k34 : ACode := (.cond (.t 90) (.seq c12k32 (.region true c12r33 [2,4,11,14,76,77,78])) .skip)
def c12r35 : List AOper := [
  ⟨some 112,(.faddr 2),[.t 2],none⟩,
  ⟨some 113,(.load none),[.t 112],none⟩,
  ⟨some 114,.mv,[.t 14],none⟩,
  ⟨some 115,(.bslice none),[.t 114],none⟩,
  ⟨some 116,(.append none),[.t 113,.t 115],none⟩,
  ⟨some 117,(.faddr 2),[.t 2],none⟩,
  ⟨none,(.store none),[.t 117,.t 116],none⟩]
def c12k36 : ACode := (.block 5 (.seq (.region true c12r23 [2,4,11,13,76,77,78]) (.seq (.region true c12r24 [2,4,11,13,76,77,78]) (.seq (.region true c12r25 [2,4,11,13,14,76,77,78]) (.seq (.seq (.region true c12r26 [2,4,11,14,76,77,78,90]) c12k34) (.region true c12r35 [2,4,11,76,77,78]))))))
def c12r37 : List AOper := [
  ⟨some 118,(.bin .add),[.t 78,.c (.pv none (.int .i64 1))],none⟩,
  ⟨some 78,.mv,[.t 118],none⟩]
def c12b38 : ACode := (.seq (.region true c12r21 [2,4,11,76,77,78,79]) (.seq c12k22 (.seq c12k36 (.region true c12r37 [2,4,11,76,77,78]))))
def c12k39 : ACode := (.block 4 (.loop [2,4,11,76,77,78] c12b38))
def c12r40 : List AOper := [
  ⟨some 119,(.load (some 3)),[.t 2],none⟩,
  ⟨none,(.store (some 3)),[.t 2,.t 119],none⟩,
  ⟨some 3,.mv,[.c (.pv none (.int .i64 0))],none⟩]
def c12p41 : ACode := (.seq (.region true c12r7 [1,2,4,49,50,51]) (.seq c12k17 (.seq (.region true c12r18 [1,2,4]) (.seq (.region true c12r19 [1,2,4,11]) (.seq (.region true c12r20 [2,4,11,76,77,78]) (.seq c12k39 (.seq (.region true c12r40 [2,3]) (.seq .ret .skip))))))))
def c12r42 : List AOper := [
  ⟨some 6,(.alloc (some 2) (.pv (some 2) (.agg [(none,(.int .i64 0)),(none,(.int .i64 0))]))),[],none⟩,
  ⟨none,(.store (some 2)),[.t 6,.t 22],none⟩]
def c12r43 : List AOper := [
  ⟨some 24,(.load none),[.t 4],none⟩,
  ⟨some 25,(.faddr 0),[.t 6],none⟩,
  ⟨some 26,(.load none),[.t 25],none⟩,
  ⟨some 27,(.lookup false (some 3) (.pv (some 3) (.agg [(none,(.int .i64 0)),(none,(.int .i64 0)),(none,(.int .i64 0))])) true),[.t 24,.t 26],none⟩,
  ⟨some 23,.mv,[.t 27],none⟩,
  ⟨some 28,(.extract 0),[.t 23],none⟩,
  ⟨some 29,(.extract 1),[.t 23],none⟩,
  ⟨some 7,(.alloc (some 3) (.pv (some 3) (.agg [(none,(.int .i64 0)),(none,(.int .i64 0)),(none,(.int .i64 0))]))),[],none⟩,
  ⟨none,(.store (some 3)),[.t 7,.t 28],none⟩,
  ⟨some 8,.mv,[.t 29],none⟩]
def c12r44 : List AOper := [
  ⟨some 30,.mv,[.t 8],none⟩,
  ⟨some 31,.not,[.t 30],none⟩]
def c12r45 : List AOper := [
  ⟨some 32,(.load none),[.t 5],none⟩,
  ⟨some 33,.len,[.t 32],none⟩,
  ⟨some 34,(.faddr 1),[.t 6],none⟩,
  ⟨some 35,(.load none),[.t 34],none⟩,
  ⟨some 36,(.build [(none,(.pv none (.int .i64 0))),(none,(.pv none (.int .i64 0))),(none,(.pv none (.int .i64 0)))] [0,1]),[.t 33,.t 35],none⟩,
  ⟨none,(.store (some 3)),[.t 7,.t 36],none⟩]
def c12r46 : List AOper := [
  ⟨some 37,(.load none),[.t 5],none⟩,
  ⟨some 38,(.faddr 0),[.t 6],none⟩,
  ⟨some 39,(.load none),[.t 38],none⟩,
  ⟨some 40,(.bslice none),[.t 39],none⟩,
  ⟨some 41,(.append none),[.t 37,.t 40],none⟩,
  ⟨none,(.store none),[.t 5,.t 41],none⟩]
def c12k47 : ACode := (.cond (.t 31) (.seq (.region true c12r45 [4,5,6,7]) (.region true c12r46 [4,6,7])) .skip)
def c12r48 : List AOper := [
  ⟨some 42,(.faddr 1),[.t 6],none⟩,
  ⟨some 43,(.load none),[.t 42],none⟩,
  ⟨some 44,(.faddr 2),[.t 7],none⟩,
  ⟨none,(.store none),[.t 44,.t 43],none⟩]
def c12r49 : List AOper := [
  ⟨some 45,(.load none),[.t 4],none⟩,
  ⟨some 46,(.faddr 0),[.t 6],none⟩,
  ⟨some 47,(.load none),[.t 46],none⟩,
  ⟨some 48,(.load (some 3)),[.t 7],none⟩,
  ⟨none,(.mapset false (some 3)),[.t 45,.t 47,.t 48],none⟩]
def c12k50 : ACode := (.block 1 (.seq (.region true c12r43 [4,5,6,7,8]) (.seq (.seq (.region true c12r44 [4,5,6,7,31]) c12k47) (.seq (.region true c12r48 [4,6,7]) (.region true c12r49 [])))))
def c12q51 : ACode := c12k50
def c12 : ACode := (.seq (.region true c12r0 [1,2]) (.seq (.region true c12r1 [1,2,17]) (.seq c12k3 (.seq (.region true c12r4 [1,2,4]) (.seq (.region true c12r5 [1,2,4,5]) (.seq (.region true c12r6 [1,2,4,5,21]) .skip))))))
def g12 : AFn := ⟨1,[(2,some (some 3)),(3,none)],c12,false,[(.range 12 (.t 21) [22] [4,5],c12p41)],[⟨[22],(.region true c12r42 [4,5,6]),c12q51⟩],none⟩
theorem tr12 : trFn Try.prog false 12 Try.f12 = some g12 := by kernel_rfl
def c13r0 : List AOper := [
  ⟨some 1,(.box (some 5)),[.t 0],none⟩,
  ⟨some 2,(.alloc (some 3) (.agg [(none,(.tsl none [])),(none,(.tsl none [])),(none,(.tsl none []))])),[],none⟩,
  ⟨some 3,.mv,[.c (.pv none (.int .i64 0))],none⟩]
def c13r1 : List AOper := [
  ⟨some 20,(.load (some 5)),[.t 1],none⟩,
  ⟨some 21,.call,[.c (.pv none (.func (.func 28))),.t 20],none⟩,
  ⟨some 22,.not,[.t 21],none⟩]
def c13r2 : List AOper := [
  ⟨some 23,(.build [(none,(.tsl none [])),(none,(.tsl none [])),(none,(.tsl none []))] []),[],none⟩,
  ⟨none,(.store (some 3)),[.t 2,.t 23],none⟩,
  ⟨some 3,.mv,[.c (.pv none (.int .i64 1))],none⟩]
def c13k3 : ACode := (.cond (.t 22) (.seq (.region true c13r2 [2,3]) .ret) .skip)
def c13r4 : List AOper := [
  ⟨some 4,(.alloc (some 3) (.agg [(none,(.tsl none [])),(none,(.tsl none [])),(none,(.tsl none []))])),[],none⟩]
def c13r5 : List AOper := [
  ⟨some 5,.mv,[.c (.pv none (.int .i64 0))],none⟩]
def c13r6 : List AOper := [
  ⟨some 6,.mv,[.c (.pv none (.int .i64 0))],none⟩]
def c13r7 : List AOper := [
  ⟨some 24,.mv,[.t 6],none⟩,
  ⟨some 25,(.faddr 4),[.t 1],none⟩,
  ⟨some 26,(.load none),[.t 25],none⟩,
  ⟨some 27,.len,[.t 26],none⟩,
  ⟨some 28,(.bin .lss),[.t 24,.t 27],none⟩]
def c13k8 : ACode := (.cond (.t 28) .skip (.exit 0))
def c13r9 : List AOper := [
  ⟨some 31,(.faddr 0),[.t 4],none⟩,
  ⟨some 32,(.load none),[.t 31],none⟩,
  ⟨some 33,.mv,[.t 5],none⟩,
  ⟨some 34,(.bslice none),[.t 33],none⟩,
  ⟨some 35,(.append none),[.t 32,.t 34],none⟩,
  ⟨some 36,(.faddr 0),[.t 4],none⟩,
  ⟨none,(.store none),[.t 36,.t 35],none⟩]
def c13r10 : List AOper := [
  ⟨some 37,(.faddr 4),[.t 1],none⟩,
  ⟨some 38,(.load none),[.t 37],none⟩,
  ⟨some 39,.mv,[.t 6],none⟩,
  ⟨some 40,(.iaddr (some 6)),[.t 38,.t 39],none⟩,
  ⟨some 41,(.faddr 0),[.t 40],none⟩,
  ⟨some 42,(.load none),[.t 41],none⟩,
  ⟨some 43,(.bin .eql),[.t 42,.c (.pv none (.int .i64 1))],none⟩]
def c13r11 : List AOper := [
  ⟨some 44,.mv,[.t 5],none⟩,
  ⟨some 45,(.bin .add),[.t 44,.c (.pv none (.int .i64 1))],none⟩,
  ⟨some 5,.mv,[.t 45],none⟩]
def c13k12 : ACode := (.cond (.t 43) (.region true c13r11 [1,2,4,5,6]) .skip)
def c13k13 : ACode := (.block 1 (.seq (.region true c13r9 [1,2,4,5,6]) (.seq (.region true c13r10 [1,2,4,5,6,43]) c13k12)))
def c13r14 : List AOper := [
  ⟨some 29,.mv,[.t 6],none⟩,
  ⟨some 30,(.bin .add),[.t 29,.c (.pv none (.int .i64 1))],none⟩,
  ⟨some 6,.mv,[.t 30],none⟩]
def c13b15 : ACode := (.seq (.seq (.region true c13r7 [1,2,4,5,6,28]) c13k8) (.seq c13k13 (.region true c13r14 [1,2,4,5,6])))
def c13k16 : ACode := (.block 0 (.loop [1,2,4,5,6] c13b15))
def c13r17 : List AOper := [
  ⟨some 46,(.load (some 5)),[.t 1],none⟩,
  ⟨some 47,.call,[.c (.pv none (.func (.func 29))),.t 46],none⟩,
  ⟨some 7,.mv,[.t 47],none⟩]
def c13r18 : List AOper := [
  ⟨some 48,(.mkmap none),[],none⟩,
  ⟨some 8,.mv,[.t 48],none⟩]
def c13r19 : List AOper := [
  ⟨some 9,.mv,[.c (.pv none (.int .i64 0))],none⟩]
def c13r20 : List AOper := [
  ⟨some 49,.mv,[.t 9],none⟩,
  ⟨some 50,.mv,[.t 7],none⟩,
  ⟨some 51,.len,[.t 50],none⟩,
  ⟨some 52,(.bin .lss),[.t 49,.t 51],none⟩]
def c13k21 : ACode := (.cond (.t 52) .skip (.exit 2))
def c13r22 : List AOper := [
  ⟨some 55,.mv,[.t 8],none⟩,
  ⟨some 56,.mv,[.t 7],none⟩,
  ⟨some 57,.mv,[.t 9],none⟩,
  ⟨some 58,(.iaddr (some 2)),[.t 56,.t 57],none⟩,
  ⟨some 59,(.faddr 0),[.t 58],none⟩,
  ⟨some 60,(.load none),[.t 59],none⟩,
  ⟨some 61,.mv,[.t 8],none⟩,
  ⟨some 62,.mv,[.t 7],none⟩,
  ⟨some 63,.mv,[.t 9],none⟩,
  ⟨some 64,(.iaddr (some 2)),[.t 62,.t 63],none⟩,
  ⟨some 65,(.faddr 0),[.t 64],none⟩,
  ⟨some 66,(.load none),[.t 65],none⟩,
  ⟨some 67,(.lookup false none (.pv none (.int .i64 0)) false),[.t 61,.t 66],none⟩,
  ⟨some 68,.mv,[.t 7],none⟩,
  ⟨some 69,.mv,[.t 9],none⟩,
  ⟨some 70,(.iaddr (some 2)),[.t 68,.t 69],none⟩,
  ⟨some 71,(.faddr 1),[.t 70],none⟩,
  ⟨some 72,(.load none),[.t 71],none⟩,
  ⟨some 73,.max,[.t 67,.t 72],none⟩,
  ⟨none,(.mapset false none),[.t 55,.t 60,.t 73],none⟩]
def c13k23 : ACode := (.block 3 (.region true c13r22 [1,2,4,5,7,8,9]))
def c13r24 : List AOper := [
  ⟨some 53,.mv,[.t 9],none⟩,
  ⟨some 54,(.bin .add),[.t 53,.c (.pv none (.int .i64 1))],none⟩,
  ⟨some 9,.mv,[.t 54],none⟩]
def c13b25 : ACode := (.seq (.seq (.region true c13r20 [1,2,4,5,7,8,9,52]) c13k21) (.seq c13k23 (.region true c13r24 [1,2,4,5,7,8,9])))
def c13k26 : ACode := (.block 2 (.loop [1,2,4,5,7,8,9] c13b25))
def c13r27 : List AOper := [
  ⟨some 74,(.mkmap none),[],none⟩,
  ⟨some 10,.mv,[.t 74],none⟩]
def c13r28 : List AOper := [
  ⟨some 11,(.nilsl none),[],none⟩]
def c13r29 : List AOper := [
  ⟨some 12,(.nilsl none),[],none⟩,
  ⟨some 13,(.nilsl none),[],none⟩]
def c13r30 : List AOper := [
  ⟨some 14,.mv,[.c (.pv none (.int .i64 0))],none⟩]
def c13r31 : List AOper := [
  ⟨some 75,.mv,[.t 14],none⟩,
  ⟨some 76,.mv,[.t 7],none⟩,
  ⟨some 77,.len,[.t 76],none⟩,
  ⟨some 78,(.bin .lss),[.t 75,.t 77],none⟩]
def c13k32 : ACode := (.cond (.t 78) .skip (.exit 4))
def c13r33 : List AOper := [
  ⟨some 81,.mv,[.t 11],none⟩,
  ⟨some 82,.mv,[.t 10],none⟩,
  ⟨some 83,.mv,[.t 7],none⟩,
  ⟨some 84,.mv,[.t 14],none⟩,
  ⟨some 85,(.iaddr (some 2)),[.t 83,.t 84],none⟩,
  ⟨some 86,(.faddr 0),[.t 85],none⟩,
  ⟨some 87,(.load none),[.t 86],none⟩,
  ⟨some 88,(.lookup false none (.pv none (.bool false)) false),[.t 82,.t 87],none⟩,
  ⟨some 89,(.bslice none),[.t 88],none⟩,
  ⟨some 90,(.append none),[.t 81,.t 89],none⟩,
  ⟨some 11,.mv,[.t 90],none⟩]
def c13r34 : List AOper := [
  ⟨some 91,.mv,[.t 12],none⟩,
  ⟨some 92,.mv,[.t 8],none⟩,
  ⟨some 93,.mv,[.t 7],none⟩,
  ⟨some 94,.mv,[.t 14],none⟩,
  ⟨some 95,(.iaddr (some 2)),[.t 93,.t 94],none⟩,
  ⟨some 96,(.faddr 0),[.t 95],none⟩,
  ⟨some 97,(.load none),[.t 96],none⟩,
  ⟨some 98,(.lookup false none (.pv none (.int .i64 0)) false),[.t 92,.t 97],none⟩,
  ⟨some 99,(.bslice none),[.t 98],none⟩,
  ⟨some 100,(.append none),[.t 91,.t 99],none⟩,
  ⟨some 12,.mv,[.t 100],none⟩]
def c13r35 : List AOper := [
  ⟨some 101,.mv,[.t 10],none⟩,
  ⟨some 102,.mv,[.t 7],none⟩,
  ⟨some 103,.mv,[.t 14],none⟩,
  ⟨some 104,(.iaddr (some 2)),[.t 102,.t 103],none⟩,
  ⟨some 105,(.faddr 0),[.t 104],none⟩,
  ⟨some 106,(.load none),[.t 105],none⟩,
  ⟨none,(.mapset false none),[.t 101,.t 106,.c (.pv none (.bool true))],none⟩]
def c13k36 : ACode := (.block 5 (.seq (.region true c13r33 [1,2,4,5,7,8,10,11,12,13,14]) (.seq (.region true c13r34 [1,2,4,5,7,8,10,11,12,13,14]) (.region true c13r35 [1,2,4,5,7,8,10,11,12,13,14]))))
def c13r37 : List AOper := [
  ⟨some 79,.mv,[.t 14],none⟩,
  ⟨some 80,(.bin .add),[.t 79,.c (.pv none (.int .i64 1))],none⟩,
  ⟨some 14,.mv,[.t 80],none⟩]
def c13b38 : ACode := (.seq (.seq (.region true c13r31 [1,2,4,5,7,8,10,11,12,13,14,78]) c13k32) (.seq c13k36 (.region true c13r37 [1,2,4,5,7,8,10,11,12,13,14])))
def c13k39 : ACode := (.block 4 (.loop [1,2,4,5,7,8,10,11,12,13,14] c13b38))
def c13r40 : List AOper := [
  ⟨some 107,.mv,[.t 5],none⟩,
  ⟨some 15,.mv,[.t 107],none⟩]
def c13r41 : List AOper := [
  ⟨some 108,.mv,[.t 15],none⟩,
  ⟨some 109,(.bin .gtr),[.t 108,.c (.pv none (.int .i64 0))],none⟩]
def c13k42 : ACode := (.cond (.t 109) .skip (.exit 6))
def c13r43 : List AOper := [
  ⟨some 16,.mv,[.c (.pv none (.int .i64 0))],none⟩]
def c13r44 : List AOper := [
  ⟨some 112,.mv,[.t 16],none⟩,
  ⟨some 113,.mv,[.t 7],none⟩,
  ⟨some 114,.len,[.t 113],none⟩,
  ⟨some 115,(.bin .lss),[.t 112,.t 114],none⟩]
def c13k45 : ACode := (.cond (.t 115) .skip (.exit 8))
def c13r46 : List AOper := [
  ⟨some 118,.mv,[.t 11],none⟩,
  ⟨some 119,.mv,[.t 16],none⟩,
  ⟨some 120,(.iaddr none),[.t 118,.t 119],none⟩,
  ⟨some 121,(.load none),[.t 120],none⟩,
  ⟨some 122,.mv,[.t 121],none⟩,
  ⟨some 123,.mv,[.t 7],some (122,false)⟩,
  ⟨some 124,.mv,[.t 16],some (122,false)⟩,
  ⟨some 125,(.iaddr (some 2)),[.t 123,.t 124],some (122,false)⟩,
  ⟨some 126,(.faddr 1),[.t 125],some (122,false)⟩,
  ⟨some 127,(.load none),[.t 126],some (122,false)⟩,
  ⟨some 128,.mv,[.t 15],some (122,false)⟩,
  ⟨some 129,(.bin .eql),[.t 127,.t 128],some (122,false)⟩,
  ⟨some 130,.pick,[.t 122,.c (.pv none (.bool true)),.t 129],none⟩,
  ⟨some 131,.mv,[.t 130],none⟩,
  ⟨some 132,.mv,[.t 12],some (131,false)⟩,
  ⟨some 133,.mv,[.t 16],some (131,false)⟩,
  ⟨some 134,(.iaddr none),[.t 132,.t 133],some (131,false)⟩,
  ⟨some 135,(.load none),[.t 134],some (131,false)⟩,
  ⟨some 136,.mv,[.t 15],some (131,false)⟩,
  ⟨some 137,(.bin .neq),[.t 135,.t 136],some (131,false)⟩,
  ⟨some 138,.pick,[.t 131,.c (.pv none (.bool true)),.t 137],none⟩]
def c13k47 : ACode := (.cond (.t 138) (.exit 9) .skip)
def c13r48 : List AOper := [
  ⟨some 139,(.faddr 1),[.t 4],none⟩,
  ⟨some 140,(.load none),[.t 139],none⟩,
  ⟨some 141,.mv,[.t 7],none⟩,
  ⟨some 142,.mv,[.t 16],none⟩,
  ⟨some 143,(.iaddr (some 2)),[.t 141,.t 142],none⟩,
  ⟨some 144,(.faddr 0),[.t 143],none⟩,
  ⟨some 145,(.load none),[.t 144],none⟩,
  ⟨some 146,(.bslicep none),[.t 145],none⟩,
  ⟨some 147,(.append none),[.t 140,.t 146],none⟩,
  ⟨some 148,(.faddr 1),[.t 4],none⟩,
  ⟨none,(.store none),[.t 148,.t 147],none⟩]
def c13r49 : List AOper := [
  ⟨some 149,.mv,[.t 13],none⟩,
  ⟨some 150,.mv,[.t 15],none⟩,
  ⟨some 151,(.bslice none),[.t 150],none⟩,
  ⟨some 152,(.append none),[.t 149,.t 151],none⟩,
  ⟨some 13,.mv,[.t 152],none⟩]
def c13k50 : ACode := (.block 9 (.seq (.seq (.region true c13r46 [1,2,4,7,11,12,13,15,16,138]) c13k47) (.seq (.seq (.settle []) (.region true c13r48 [1,2,4,7,11,12,13,15,16])) (.region true c13r49 [1,2,4,7,11,12,13,15,16]))))
def c13r51 : List AOper := [
  ⟨some 116,.mv,[.t 16],none⟩,
  ⟨some 117,(.bin .add),[.t 116,.c (.pv none (.int .i64 1))],none⟩,
  ⟨some 16,.mv,[.t 117],none⟩]
def c13b52 : ACode := (.seq (.seq (.region true c13r44 [1,2,4,7,11,12,13,15,16,115]) c13k45) (.seq c13k50 (.region true c13r51 [1,2,4,7,11,12,13,15,16])))
def c13k53 : ACode := (.block 8 (.loop [1,2,4,7,11,12,13,15,16] c13b52))
def c13k54 : ACode := (.block 7 (.seq (.region true c13r43 [1,2,4,7,11,12,13,15,16]) c13k53))
def c13r55 : List AOper := [
  ⟨some 110,.mv,[.t 15],none⟩,
  ⟨some 111,(.bin .sub),[.t 110,.c (.pv none (.int .i64 1))],none⟩,
  ⟨some 15,.mv,[.t 111],none⟩]
def c13b56 : ACode := (.seq (.seq (.region true c13r41 [1,2,4,7,11,12,13,15,109]) c13k42) (.seq c13k54 (.region true c13r55 [1,2,4,7,11,12,13,15])))
def c13k57 : ACode := (.block 6 (.loop [1,2,4,7,11,12,13,15] c13b56))
def c13r58 : List AOper := [
  ⟨some 17,.mv,[.c (.pv none (.int .i64 0))],none⟩]
def c13r59 : List AOper := [
  ⟨some 153,.mv,[.t 17],none⟩,
  ⟨some 154,(.faddr 4),[.t 1],none⟩,
  ⟨some 155,(.load none),[.t 154],none⟩,
  ⟨some 156,.len,[.t 155],none⟩,
  ⟨some 157,(.bin .lss),[.t 153,.t 156],none⟩]
def c13k60 : ACode := (.cond (.t 157) .skip (.exit 10))
def c13r61 : List AOper := [
  ⟨some 18,.mv,[.c (.pv none (.int .i64 0))],none⟩]
def c13r62 : List AOper := [
  ⟨some 19,.mv,[.c (.pv none (.int .i64 0))],none⟩]
def c13r63 : List AOper := [
  ⟨some 160,.mv,[.t 19],none⟩,
  ⟨some 161,(.faddr 1),[.t 4],none⟩,
  ⟨some 162,(.load none),[.t 161],none⟩,
  ⟨some 163,.len,[.t 162],none⟩,
  ⟨some 164,(.bin .lss),[.t 160,.t 163],none⟩]
def c13k64 : ACode := (.cond (.t 164) .skip (.exit 12))
def c13r65 : List AOper := [
  ⟨some 167,(.faddr 4),[.t 1],none⟩,
  ⟨some 168,(.load none),[.t 167],none⟩,
  ⟨some 169,.mv,[.t 17],none⟩,
  ⟨some 170,(.iaddr (some 6)),[.t 168,.t 169],none⟩,
  ⟨some 171,(.faddr 0),[.t 170],none⟩,
  ⟨some 172,(.load none),[.t 171],none⟩,
  ⟨some 173,(.bin .eql),[.t 172,.c (.pv none (.int .i64 1))],none⟩,
  ⟨some 174,.mv,[.t 173],none⟩,
  ⟨some 175,.mv,[.t 13],some (174,true)⟩,
  ⟨some 176,.mv,[.t 19],some (174,true)⟩,
  ⟨some 177,(.iaddr none),[.t 175,.t 176],some (174,true)⟩,
  ⟨some 178,(.load none),[.t 177],some (174,true)⟩,
  ⟨some 179,(.faddr 0),[.t 4],some (174,true)⟩,
  ⟨some 180,(.load none),[.t 179],some (174,true)⟩,
  ⟨some 181,.mv,[.t 17],some (174,true)⟩,
  ⟨some 182,(.iaddr none),[.t 180,.t 181],some (174,true)⟩,
  ⟨some 183,(.load none),[.t 182],some (174,true)⟩,
  ⟨some 184,(.bin .gtr),[.t 178,.t 183],some (174,true)⟩,
  ⟨some 185,.pick,[.t 174,.t 184,.c (.pv none (.bool false))],none⟩]
def c13r66 : List AOper := [
  ⟨some 186,.mv,[.t 18],none⟩,
  ⟨some 187,(.bin .add),[.t 186,.c (.pv none (.int .i64 1))],none⟩,
  ⟨some 18,.mv,[.t 187],none⟩]
def c13k67 : ACode := (.cond (.t 185) (.region true c13r66 [1,2,4,13,17,18,19]) .skip)
def c13k68 : ACode := (.block 13 (.seq (.region true c13r65 [1,2,4,13,17,18,19,185]) c13k67))
def c13r69 : List AOper := [
  ⟨some 165,.mv,[.t 19],none⟩,
  ⟨some 166,(.bin .add),[.t 165,.c (.pv none (.int .i64 1))],none⟩,
  ⟨some 19,.mv,[.t 166],none⟩]
def c13b70 : ACode := (.seq (.seq (.region true c13r63 [1,2,4,13,17,18,19,164]) c13k64) (.seq c13k68 (.region true c13r69 [1,2,4,13,17,18,19])))
def c13k71 : ACode := (.block 12 (.loop [1,2,4,13,17,18,19] c13b70))
def c13r72 : List AOper := [
  ⟨some 188,(.faddr 2),[.t 4],none⟩,
  ⟨some 189,(.load none),[.t 188],none⟩,
  ⟨some 190,.mv,[.t 18],none⟩,
  ⟨some 191,(.bslice none),[.t 190],none⟩,
  ⟨some 192,(.append none),[.t 189,.t 191],none⟩,
  ⟨some 193,(.faddr 2),[.t 4],none⟩,
  ⟨none,(.store none),[.t 193,.t 192],none⟩]
def c13k73 : ACode := (.block 11 (.seq (.region true c13r61 [1,2,4,13,17,18]) (.seq (.seq (.region true c13r62 [1,2,4,13,17,18,19]) c13k71) (.region true c13r72 [1,2,4,13,17]))))
def c13r74 : List AOper := [
  ⟨some 158,.mv,[.t 17],none⟩,
  ⟨some 159,(.bin .add),[.t 158,.c (.pv none (.int .i64 1))],none⟩,
  ⟨some 17,.mv,[.t 159],none⟩]
def c13b75 : ACode := (.seq (.seq (.region true c13r59 [1,2,4,13,17,157]) c13k60) (.seq c13k73 (.region true c13r74 [1,2,4,13,17])))
def c13k76 : ACode := (.block 10 (.loop [1,2,4,13,17] c13b75))
def c13r77 : List AOper := [
  ⟨some 194,(.load (some 3)),[.t 4],none⟩,
  ⟨none,(.store (some 3)),[.t 2,.t 194],none⟩,
  ⟨some 3,.mv,[.c (.pv none (.int .i64 0))],none⟩]
def c13 : ACode := (.seq (.region true c13r0 [1,2]) (.seq (.seq (.region true c13r1 [1,2,22]) c13k3) (.seq (.region true c13r4 [1,2,4]) (.seq (.region true c13r5 [1,2,4,5]) (.seq (.seq (.region true c13r6 [1,2,4,5,6]) c13k16) (.seq (.region true c13r17 [1,2,4,5,7]) (.seq (.region true c13r18 [1,2,4,5,7,8]) (.seq (.seq (.region true c13r19 [1,2,4,5,7,8,9]) c13k26) (.seq (.region true c13r27 [1,2,4,5,7,8,10]) (.seq (.region true c13r28 [1,2,4,5,7,8,10,11]) (.seq (.region true c13r29 [1,2,4,5,7,8,10,11,12,13]) (.seq (.seq (.region true c13r30 [1,2,4,5,7,8,10,11,12,13,14]) c13k39) (.seq (.seq (.region true c13r40 [1,2,4,7,11,12,13,15]) c13k57) (.seq (.seq (.region true c13r58 [1,2,4,13,17]) c13k76) (.seq (.region true c13r77 [2,3]) .ret)))))))))))))))
def g13 : AFn := ⟨1,[(2,some (some 3)),(3,none)],c13,false,[],[],none⟩
theorem tr13 : trFn Try.prog false 13 Try.f13 = some g13 := by kernel_rfl
def c14r0 : List AOper := [
  ⟨some 2,(.box (some 3)),[.t 0],none⟩,
  ⟨some 3,(.box (some 3)),[.t 1],none⟩,
  ⟨some 4,.mv,[.c (.pv none (.bool false))],none⟩]
def c14r1 : List AOper := [
  ⟨some 5,(.faddr 0),[.t 2],none⟩,
  ⟨some 6,(.load none),[.t 5],none⟩,
  ⟨some 7,(.faddr 0),[.t 3],none⟩,
  ⟨some 8,(.load none),[.t 7],none⟩,
  ⟨some 9,.call,[.c (.pv none (.func (.func 30))),.t 6,.t 8],none⟩,
  ⟨some 10,.mv,[.t 9],none⟩,
  ⟨some 11,(.faddr 1),[.t 2],some (10,true)⟩,
  ⟨some 12,(.load none),[.t 11],some (10,true)⟩,
  ⟨some 13,(.faddr 1),[.t 3],some (10,true)⟩,
  ⟨some 14,(.load none),[.t 13],some (10,true)⟩,
  ⟨some 15,.call,[.c (.pv none (.func (.func 31))),.t 12,.t 14],some (10,true)⟩,
  ⟨some 16,.pick,[.t 10,.t 15,.c (.pv none (.bool false))],none⟩,
  ⟨some 17,.mv,[.t 16],none⟩,
  ⟨some 18,(.faddr 2),[.t 2],some (17,true)⟩,
  ⟨some 19,(.load none),[.t 18],some (17,true)⟩,
  ⟨some 20,(.faddr 2),[.t 3],some (17,true)⟩,
  ⟨some 21,(.load none),[.t 20],some (17,true)⟩,
  ⟨some 22,.call,[.c (.pv none (.func (.func 30))),.t 19,.t 21],some (17,true)⟩,
  ⟨some 23,.pick,[.t 17,.t 22,.c (.pv none (.bool false))],none⟩,
  ⟨some 4,.mv,[.t 23],none⟩]
def c14 : ACode := (.seq (.region true c14r0 [2,3]) (.seq (.region true c14r1 [4]) .ret))
def g14 : AFn := ⟨2,[(4,none)],c14,false,[],[],none⟩
theorem tr14 : trFn Try.prog false 14 Try.f14 = some g14 := by kernel_rfl
def c15r0 : List AOper := [
  ⟨some 1,(.box (some 5)),[.t 0],none⟩,
  ⟨some 2,.mv,[.c (.pv none (.bool false))],none⟩]
def c15r1 : List AOper := [
  ⟨some 3,(.alloc none (.pv none (.int .i64 0))),[],none⟩,
  ⟨none,(.store none),[.t 3,.c (.pv none (.int .i64 131072))],none⟩]
def c15r2 : List AOper := [
  ⟨some 9,(.faddr 0),[.t 1],none⟩,
  ⟨some 10,(.load (some 3)),[.t 9],none⟩,
  ⟨some 11,.call,[.c (.pv none (.func (.func 32))),.t 10],none⟩,
  ⟨some 12,.not,[.t 11],none⟩,
  ⟨some 13,.mv,[.t 12],none⟩,
  ⟨some 14,(.faddr 3),[.t 1],some (13,false)⟩,
  ⟨some 15,(.load none),[.t 14],some (13,false)⟩,
  ⟨some 16,.len,[.t 15],some (13,false)⟩,
  ⟨some 17,(.faddr 0),[.t 1],some (13,false)⟩,
  ⟨some 18,(.faddr 1),[.t 17],some (13,false)⟩,
  ⟨some 19,(.load none),[.t 18],some (13,false)⟩,
  ⟨some 20,(.bin .neq),[.t 16,.t 19],some (13,false)⟩,
  ⟨some 21,.pick,[.t 13,.c (.pv none (.bool true)),.t 20],none⟩,
  ⟨some 22,.mv,[.t 21],none⟩,
  ⟨some 23,(.faddr 3),[.t 1],some (22,false)⟩,
  ⟨some 24,(.load none),[.t 23],some (22,false)⟩,
  ⟨some 25,.call,[.c (.pv none (.func (.func 33))),.t 3,.t 24],some (22,false)⟩,
  ⟨some 26,.not,[.t 25],some (22,false)⟩,
  ⟨some 27,.pick,[.t 22,.c (.pv none (.bool true)),.t 26],none⟩]
def c15r3 : List AOper := [
  ⟨some 2,.mv,[.c (.pv none (.bool false))],none⟩]
def c15k4 : ACode := (.cond (.t 27) (.seq (.region true c15r3 [2]) .ret) .skip)
def c15r5 : List AOper := [
  ⟨some 4,.mv,[.c (.pv none (.bool false))],none⟩]
def c15r6 : List AOper := [
  ⟨some 28,(.faddr 4),[.t 1],none⟩,
  ⟨some 29,(.load none),[.t 28],none⟩,
  ⟨some 30,.len,[.t 29],none⟩,
  ⟨some 31,.mv,[.c (.pv none (.int .i64 0))],none⟩]
def c15r7 : List AOper := [
  ⟨some 32,(.bin .lss),[.t 31,.t 30],none⟩]
def c15k8 : ACode := (.cond (.t 32) .skip (.exit 0))
def c15r9 : List AOper := [
  ⟨some 33,(.iaddr (some 6)),[.t 29,.t 31],none⟩,
  ⟨some 34,(.load (some 6)),[.t 33],none⟩,
  ⟨some 6,(.alloc (some 6) (.agg [(none,(.pv none (.int .i64 0))),((some 3),(.pv (some 3) (.agg [(none,(.str [])),(none,(.int .i64 0)),(none,(.int .i64 0))]))),(none,(.tsl (some 4) [])),(none,(.pv none (.int .i64 0)))])),[],none⟩,
  ⟨none,(.store (some 6)),[.t 6,.t 34],none⟩]
def c15r10 : List AOper := [
  ⟨some 35,(.faddr 1),[.t 6],none⟩,
  ⟨some 36,(.load (some 3)),[.t 35],none⟩,
  ⟨some 37,(.build [(none,(.pv none (.str []))),(none,(.pv none (.int .i64 0))),(none,(.pv none (.int .i64 0)))] []),[],none⟩,
  ⟨some 38,(.eqs false [1,0,0]),[.t 36,.t 37],none⟩,
  ⟨some 39,.mv,[.t 38],none⟩,
  ⟨some 40,(.faddr 4),[.t 6],some (39,true)⟩,
  ⟨some 41,(.load none),[.t 40],some (39,true)⟩,
  ⟨some 42,.len,[.t 41],some (39,true)⟩,
  ⟨some 43,(.bin .eql),[.t 42,.c (.pv none (.int .i64 0))],some (39,true)⟩,
  ⟨some 44,.pick,[.t 39,.t 43,.c (.pv none (.bool false))],none⟩,
  ⟨some 7,.mv,[.t 44],none⟩]
def c15r11 : List AOper := [
  ⟨some 8,.mv,[.c (.pv none (.bool false))],none⟩]
def c15r12 : List AOper := [
  ⟨some 45,(.faddr 0),[.t 6],none⟩,
  ⟨some 46,(.load none),[.t 45],none⟩]
def c15r13 : List AOper := [
  ⟨some 48,(.bin .eql),[.t 46,.c (.pv none (.int .i64 1))],none⟩,
  ⟨some 47,.mv,[.t 48],none⟩]
def c15r14 : List AOper := [
  ⟨some 49,(.faddr 1),[.t 6],none⟩,
  ⟨some 50,(.load (some 3)),[.t 49],none⟩,
  ⟨some 51,.call,[.c (.pv none (.func (.func 32))),.t 50],none⟩,
  ⟨some 52,.mv,[.t 51],none⟩,
  ⟨some 53,(.faddr 4),[.t 6],some (52,true)⟩,
  ⟨some 54,(.load none),[.t 53],some (52,true)⟩,
  ⟨some 55,.len,[.t 54],some (52,true)⟩,
  ⟨some 56,(.faddr 1),[.t 6],some (52,true)⟩,
  ⟨some 57,(.faddr 1),[.t 56],some (52,true)⟩,
  ⟨some 58,(.load none),[.t 57],some (52,true)⟩,
  ⟨some 59,(.bin .eql),[.t 55,.t 58],some (52,true)⟩,
  ⟨some 60,.pick,[.t 52,.t 59,.c (.pv none (.bool false))],none⟩,
  ⟨some 61,.mv,[.t 60],none⟩,
  ⟨some 62,(.faddr 5),[.t 6],some (61,true)⟩,
  ⟨some 63,(.load none),[.t 62],some (61,true)⟩,
  ⟨some 64,(.bin .eql),[.t 63,.c (.pv none (.int .i64 0))],some (61,true)⟩,
  ⟨some 65,.pick,[.t 61,.t 64,.c (.pv none (.bool false))],none⟩,
  ⟨some 66,.mv,[.t 65],none⟩,
  ⟨some 67,(.faddr 4),[.t 6],some (66,true)⟩,
  ⟨some 68,(.load none),[.t 67],some (66,true)⟩,
  ⟨some 69,.call,[.c (.pv none (.func (.func 33))),.t 3,.t 68],some (66,true)⟩,
  ⟨some 70,.pick,[.t 66,.t 69,.c (.pv none (.bool false))],none⟩,
  ⟨some 8,.mv,[.t 70],none⟩]
def c15r15 : List AOper := [
  ⟨some 4,.mv,[.c (.pv none (.bool true))],none⟩]
def c15r16 : List AOper := [
  ⟨some 72,(.bin .eql),[.t 46,.c (.pv none (.int .i64 2))],none⟩,
  ⟨some 71,.mv,[.t 72],none⟩]
def c15r17 : List AOper := [
  ⟨some 73,.mv,[.t 7],none⟩,
  ⟨some 74,.mv,[.t 73],none⟩,
  ⟨some 75,(.faddr 5),[.t 6],some (74,true)⟩,
  ⟨some 76,(.load none),[.t 75],some (74,true)⟩,
  ⟨some 77,(.bin .geq),[.t 76,.c (.pv none (.int .i64 0))],some (74,true)⟩,
  ⟨some 78,.pick,[.t 74,.t 77,.c (.pv none (.bool false))],none⟩,
  ⟨some 79,.mv,[.t 78],none⟩,
  ⟨some 80,(.faddr 5),[.t 6],some (79,true)⟩,
  ⟨some 81,(.load none),[.t 80],some (79,true)⟩,
  ⟨some 82,(.bin .leq),[.t 81,.c (.pv none (.int .i64 1099511627776))],some (79,true)⟩,
  ⟨some 83,.pick,[.t 79,.t 82,.c (.pv none (.bool false))],none⟩,
  ⟨some 84,.mv,[.t 83],none⟩,
  ⟨some 85,.mv,[.t 4],some (84,true)⟩,
  ⟨some 86,.not,[.t 85],some (84,true)⟩,
  ⟨some 87,.pick,[.t 84,.t 86,.c (.pv none (.bool false))],none⟩,
  ⟨some 8,.mv,[.t 87],none⟩]
def c15r18 : List AOper := [
  ⟨some 89,(.bin .eql),[.t 46,.c (.pv none (.int .i64 3))],none⟩,
  ⟨some 88,.mv,[.t 89],none⟩]
def c15r19 : List AOper := [
  ⟨some 90,(.bin .eql),[.t 46,.c (.pv none (.int .i64 4))],none⟩,
  ⟨some 88,.mv,[.t 90],none⟩]
def c15k20 : ACode := (.cond (.t 88) .skip (.region true c15r19 [3,4,6,7,8,29,30,31,46,88]))
def c15r21 : List AOper := [
  ⟨some 91,.mv,[.t 7],none⟩,
  ⟨some 92,.mv,[.t 91],none⟩,
  ⟨some 93,(.faddr 5),[.t 6],some (92,true)⟩,
  ⟨some 94,(.load none),[.t 93],some (92,true)⟩,
  ⟨some 95,(.bin .geq),[.t 94,.c (.pv none (.int .i64 0))],some (92,true)⟩,
  ⟨some 96,.pick,[.t 92,.t 95,.c (.pv none (.bool false))],none⟩,
  ⟨some 97,.mv,[.t 96],none⟩,
  ⟨some 98,(.faddr 5),[.t 6],some (97,true)⟩,
  ⟨some 99,(.load none),[.t 98],some (97,true)⟩,
  ⟨some 100,(.bin .leq),[.t 99,.c (.pv none (.int .i64 1099511627776))],some (97,true)⟩,
  ⟨some 101,.pick,[.t 97,.t 100,.c (.pv none (.bool false))],none⟩,
  ⟨some 8,.mv,[.t 101],none⟩]
def c15r22 : List AOper := [
  ⟨some 103,(.bin .eql),[.t 46,.c (.pv none (.int .i64 5))],none⟩,
  ⟨some 102,.mv,[.t 103],none⟩]
def c15r23 : List AOper := [
  ⟨some 104,.mv,[.t 7],none⟩,
  ⟨some 105,.mv,[.t 104],none⟩,
  ⟨some 106,(.faddr 5),[.t 6],some (105,true)⟩,
  ⟨some 107,(.load none),[.t 106],some (105,true)⟩,
  ⟨some 108,(.bin .eql),[.t 107,.c (.pv none (.int .i64 0))],some (105,true)⟩,
  ⟨some 109,.pick,[.t 105,.t 108,.c (.pv none (.bool false))],none⟩,
  ⟨some 8,.mv,[.t 109],none⟩]
def c15k24 : ACode := (.cond (.t 102) (.region true c15r23 [3,4,8,29,30,31]) .skip)
def c15k25 : ACode := (.cond (.t 88) (.region true c15r21 [3,4,8,29,30,31]) (.seq (.region true c15r22 [3,4,6,7,8,29,30,31,102]) c15k24))
def c15k26 : ACode := (.cond (.t 71) (.region true c15r17 [3,4,8,29,30,31]) (.seq (.seq (.region true c15r18 [3,4,6,7,8,29,30,31,46,88]) c15k20) c15k25))
def c15k27 : ACode := (.cond (.t 47) (.seq (.region true c15r14 [3,8,29,30,31]) (.region true c15r15 [3,4,8,29,30,31])) (.seq (.region true c15r16 [3,4,6,7,8,29,30,31,46,71]) c15k26))
def c15k28 : ACode := (.block 2 (.seq (.region true c15r13 [3,4,6,7,8,29,30,31,46,47]) c15k27))
def c15r29 : List AOper := [
  ⟨some 110,.mv,[.t 8],none⟩,
  ⟨some 111,.not,[.t 110],none⟩]
def c15r30 : List AOper := [
  ⟨some 2,.mv,[.c (.pv none (.bool false))],none⟩]
def c15k31 : ACode := (.cond (.t 111) (.seq (.region true c15r30 [2]) .ret) .skip)
def c15k32 : ACode := (.block 1 (.seq (.region true c15r9 [3,4,6,29,30,31]) (.seq (.region true c15r10 [3,4,6,7,29,30,31]) (.seq (.region true c15r11 [3,4,6,7,8,29,30,31]) (.seq (.seq (.region true c15r12 [3,4,6,7,8,29,30,31,46]) c15k28) (.seq (.region true c15r29 [3,4,29,30,31,111]) c15k31))))))
def c15r33 : List AOper := [
  ⟨some 112,(.bin .add),[.t 31,.c (.pv none (.int .i64 1))],none⟩,
  ⟨some 31,.mv,[.t 112],none⟩]
def c15b34 : ACode := (.seq (.region true c15r7 [3,4,29,30,31,32]) (.seq c15k8 (.seq c15k32 (.region true c15r33 [3,4,29,30,31]))))
def c15k35 : ACode := (.block 0 (.loop [3,4,29,30,31] c15b34))
def c15r36 : List AOper := [
  ⟨some 2,.mv,[.c (.pv none (.bool true))],none⟩]
def c15 : ACode := (.seq (.region true c15r0 [1]) (.seq (.region true c15r1 [1,3]) (.seq (.seq (.region true c15r2 [1,3,27]) c15k4) (.seq (.region true c15r5 [1,3,4]) (.seq (.seq (.region true c15r6 [3,4,29,30,31]) c15k35) (.seq (.region true c15r36 [2]) .ret))))))
def g15 : AFn := ⟨1,[(2,none)],c15,false,[],[],none⟩
theorem tr15 : trFn Try.prog false 15 Try.f15 = some g15 := by kernel_rfl
def c16r0 : List AOper := [
  ⟨some 3,(.box (some 5)),[.t 0],none⟩,
  ⟨some 6,.mv,[.c (.pv none (.int .i64 0))],none⟩,
  ⟨some 7,.mv,[.c (.pv none (.int .i64 0))],none⟩]
def c16r1 : List AOper := [
  ⟨some 6,.mv,[.c (.pv none (.int .i64 (-1)))],none⟩,
  ⟨some 7,.mv,[.c (.pv none (.int .i64 (-1)))],none⟩]
def c16r2 : List AOper := [
  ⟨some 11,(.faddr 3),[.t 3],none⟩,
  ⟨some 12,(.load none),[.t 11],none⟩,
  ⟨some 13,.mv,[.t 2],none⟩,
  ⟨some 14,.call,[.c (.pv none (.func (.func 34))),.t 12,.t 13],none⟩]
def c16r3 : List AOper := [
  ⟨some 6,.mv,[.c (.pv none (.int .i64 0))],none⟩,
  ⟨some 7,.mv,[.c (.pv none (.int .i64 0))],none⟩]
def c16k4 : ACode := (.cond (.t 14) (.region true c16r3 [1,2,3,6,7]) .skip)
def c16r5 : List AOper := [
  ⟨some 8,.mv,[.c (.pv none (.int .i64 0))],none⟩]
def c16r6 : List AOper := [
  ⟨some 15,.mv,[.t 8],none⟩,
  ⟨some 16,(.faddr 4),[.t 3],none⟩,
  ⟨some 17,(.load none),[.t 16],none⟩,
  ⟨some 18,.len,[.t 17],none⟩,
  ⟨some 19,(.bin .lss),[.t 15,.t 18],none⟩,
  ⟨some 20,.mv,[.t 19],none⟩,
  ⟨some 21,.mv,[.t 8],some (20,true)⟩,
  ⟨some 22,.mv,[.t 1],some (20,true)⟩,
  ⟨some 23,.len,[.t 22],some (20,true)⟩,
  ⟨some 24,(.bin .lss),[.t 21,.t 23],some (20,true)⟩,
  ⟨some 25,.pick,[.t 20,.t 24,.c (.pv none (.bool false))],none⟩]
def c16k7 : ACode := (.cond (.t 25) .skip (.exit 0))
def c16r8 : List AOper := [
  ⟨some 28,(.faddr 4),[.t 3],none⟩,
  ⟨some 29,(.load none),[.t 28],none⟩,
  ⟨some 30,.mv,[.t 8],none⟩,
  ⟨some 31,(.iaddr (some 6)),[.t 29,.t 30],none⟩,
  ⟨some 32,(.load (some 6)),[.t 31],none⟩,
  ⟨some 9,(.alloc (some 6) (.agg [(none,(.pv none (.int .i64 0))),((some 3),(.pv (some 3) (.agg [(none,(.str [])),(none,(.int .i64 0)),(none,(.int .i64 0))]))),(none,(.tsl (some 4) [])),(none,(.pv none (.int .i64 0)))])),[],none⟩,
  ⟨none,(.store (some 6)),[.t 9,.t 32],none⟩]
def c16r9 : List AOper := [
  ⟨some 33,(.faddr 0),[.t 9],none⟩,
  ⟨some 34,(.load none),[.t 33],none⟩,
  ⟨some 35,(.bin .eql),[.t 34,.c (.pv none (.int .i64 2))],none⟩,
  ⟨some 36,.mv,[.t 35],none⟩,
  ⟨some 37,(.faddr 0),[.t 9],some (36,false)⟩,
  ⟨some 38,(.load none),[.t 37],some (36,false)⟩,
  ⟨some 39,(.bin .eql),[.t 38,.c (.pv none (.int .i64 3))],some (36,false)⟩,
  ⟨some 40,.pick,[.t 36,.c (.pv none (.bool true)),.t 39],none⟩,
  ⟨some 41,.mv,[.t 40],none⟩,
  ⟨some 42,(.faddr 0),[.t 9],some (41,false)⟩,
  ⟨some 43,(.load none),[.t 42],some (41,false)⟩,
  ⟨some 44,(.bin .eql),[.t 43,.c (.pv none (.int .i64 4))],some (41,false)⟩,
  ⟨some 45,.pick,[.t 41,.c (.pv none (.bool true)),.t 44],none⟩,
  ⟨some 10,.mv,[.t 45],none⟩]
def c16r10 : List AOper := [
  ⟨some 46,(.faddr 4),[.t 9],none⟩,
  ⟨some 47,(.load none),[.t 46],none⟩,
  ⟨some 48,.mv,[.t 2],none⟩,
  ⟨some 49,.call,[.c (.pv none (.func (.func 34))),.t 47,.t 48],none⟩,
  ⟨some 50,.not,[.t 49],none⟩,
  ⟨some 51,.mv,[.t 50],none⟩,
  ⟨some 52,.mv,[.t 10],some (51,true)⟩,
  ⟨some 53,.not,[.t 52],some (51,true)⟩,
  ⟨some 54,.mv,[.t 53],some (51,true)⟩,
  ⟨some 55,(.faddr 5),[.t 9],some (54,false)⟩,
  ⟨some 56,(.load none),[.t 55],some (54,false)⟩,
  ⟨some 57,.mv,[.t 2],some (54,false)⟩,
  ⟨some 58,(.bin .neq),[.t 56,.t 57],some (54,false)⟩,
  ⟨some 59,.pick,[.t 54,.c (.pv none (.bool true)),.t 58],some (51,true)⟩,
  ⟨some 60,.pick,[.t 51,.t 59,.c (.pv none (.bool false))],none⟩]
def c16k11 : ACode := (.cond (.t 60) (.exit 1) .skip)
def c16r12 : List AOper := [
  ⟨some 61,.mv,[.t 6],none⟩,
  ⟨some 62,(.bin .lss),[.t 61,.c (.pv none (.int .i64 0))],none⟩]
def c16r13 : List AOper := [
  ⟨some 63,.mv,[.t 1],none⟩,
  ⟨some 64,.mv,[.t 8],none⟩,
  ⟨some 65,(.iaddr none),[.t 63,.t 64],none⟩,
  ⟨some 66,(.load none),[.t 65],none⟩,
  ⟨some 6,.mv,[.t 66],none⟩]
def c16k14 : ACode := (.cond (.t 62) (.region true c16r13 [1,2,3,6,7,8]) .skip)
def c16r15 : List AOper := [
  ⟨some 67,.mv,[.t 7],none⟩,
  ⟨some 68,.mv,[.t 1],none⟩,
  ⟨some 69,.mv,[.t 8],none⟩,
  ⟨some 70,(.iaddr none),[.t 68,.t 69],none⟩,
  ⟨some 71,(.load none),[.t 70],none⟩,
  ⟨some 72,.max,[.t 67,.t 71],none⟩,
  ⟨some 7,.mv,[.t 72],none⟩]
def c16k16 : ACode := (.block 1 (.seq (.region true c16r8 [1,2,3,6,7,8,9]) (.seq (.region true c16r9 [1,2,3,6,7,8,9,10]) (.seq (.seq (.region true c16r10 [1,2,3,6,7,8,60]) c16k11) (.seq (.seq (.region true c16r12 [1,2,3,6,7,8,62]) c16k14) (.region true c16r15 [1,2,3,6,7,8]))))))
def c16r17 : List AOper := [
  ⟨some 26,.mv,[.t 8],none⟩,
  ⟨some 27,(.bin .add),[.t 26,.c (.pv none (.int .i64 1))],none⟩,
  ⟨some 8,.mv,[.t 27],none⟩]
def c16b18 : ACode := (.seq (.seq (.region true c16r6 [1,2,3,6,7,8,25]) c16k7) (.seq c16k16 (.region true c16r17 [1,2,3,6,7,8])))
def c16k19 : ACode := (.block 0 (.loop [1,2,3,6,7,8] c16b18))
def c16r20 : List AOper := [
  ⟨some 73,.mv,[.t 6],none⟩,
  ⟨some 74,.mv,[.t 7],none⟩,
  ⟨some 6,.mv,[.t 73],none⟩,
  ⟨some 7,.mv,[.t 74],none⟩]
def c16 : ACode := (.seq (.region true c16r0 [1,2,3]) (.seq (.region true c16r1 [1,2,3,6,7]) (.seq (.seq (.region true c16r2 [1,2,3,6,7,14]) c16k4) (.seq (.seq (.region true c16r5 [1,2,3,6,7,8]) c16k19) (.seq (.region true c16r20 [6,7]) .ret)))))
def g16 : AFn := ⟨3,[(6,none),(7,none)],c16,false,[],[],none⟩
theorem tr16 : trFn Try.prog false 16 Try.f16 = some g16 := by kernel_rfl
def c17r0 : List AOper := [
  ⟨some 2,(.box (some 5)),[.t 0],none⟩,
  ⟨some 3,(.box none),[.t 1],none⟩,
  ⟨some 4,.mv,[.c (.pv none (.int .i64 0))],none⟩]
def c17r1 : List AOper := [
  ⟨some 7,(.load (some 5)),[.t 2],none⟩,
  ⟨some 8,.call,[.c (.pv none (.func (.func 15))),.t 7],none⟩,
  ⟨some 9,.not,[.t 8],none⟩]
def c17r2 : List AOper := [
  ⟨some 4,.mv,[.c (.pv none (.int .i64 0))],none⟩]
def c17k3 : ACode := (.cond (.t 9) (.seq (.region true c17r2 [4]) .ret) .skip)
def c17r4 : List AOper := [
  ⟨some 5,(.alloc none (.pv none (.int .i64 0))),[],none⟩,
  ⟨none,(.store none),[.t 5,.c (.pv none (.int .i64 0))],none⟩]
def c17r5 : List AOper := [
  ⟨some 10,(.load (some 5)),[.t 2],none⟩,
  ⟨some 11,.call,[.c (.pv none (.func (.func 24))),.t 10],none⟩]
def c17r6 : List AOper := [
  ⟨some 19,(.load none),[.t 5],none⟩,
  ⟨some 4,.mv,[.t 19],none⟩]
def c17p7 : ACode := (.seq (.region true c17r6 [4]) (.seq .ret .skip))
def c17r8 : List AOper := [
  ⟨some 6,(.alloc (some 2) (.pv (some 2) (.agg [(none,(.int .i64 0)),(none,(.int .i64 0))]))),[],none⟩,
  ⟨none,(.store (some 2)),[.t 6,.t 12],none⟩]
def c17r9 : List AOper := [
  ⟨some 13,(.faddr 0),[.t 6],none⟩,
  ⟨some 14,(.load none),[.t 13],none⟩,
  ⟨some 15,(.load none),[.t 3],none⟩,
  ⟨some 16,(.bin .eql),[.t 14,.t 15],none⟩]
def c17r10 : List AOper := [
  ⟨some 17,(.load none),[.t 5],none⟩,
  ⟨some 18,(.bin .add),[.t 17,.c (.pv none (.int .i64 1))],none⟩,
  ⟨none,(.store none),[.t 5,.t 18],none⟩]
def c17k11 : ACode := (.cond (.t 16) (.region true c17r10 []) .skip)
def c17k12 : ACode := (.block 1 (.seq (.region true c17r9 [5,16]) c17k11))
def c17q13 : ACode := c17k12
def c17 : ACode := (.seq (.region true c17r0 [2,3]) (.seq (.region true c17r1 [2,3,9]) (.seq c17k3 (.seq (.region true c17r4 [2,3,5]) (.seq (.region true c17r5 [3,5,11]) .skip)))))
def g17 : AFn := ⟨2,[(4,none)],c17,false,[(.range 17 (.t 11) [12] [3,5],c17p7)],[⟨[12],(.region true c17r8 [3,5,6]),c17q13⟩],none⟩
theorem tr17 : trFn Try.prog false 17 Try.f17 = some g17 := by kernel_rfl
def c18r0 : List AOper := [
  ⟨some 2,(.box (some 5)),[.t 0],none⟩,
  ⟨some 4,.mv,[.c (.pv none (.int .i64 0))],none⟩]
def c18r1 : List AOper := [
  ⟨some 8,(.load (some 5)),[.t 2],none⟩,
  ⟨some 9,.call,[.c (.pv none (.func (.func 28))),.t 8],none⟩,
  ⟨some 10,.not,[.t 9],none⟩]
def c18r2 : List AOper := [
  ⟨some 4,.mv,[.c (.pv none (.int .i64 0))],none⟩]
def c18k3 : ACode := (.cond (.t 10) (.seq (.region true c18r2 [4]) .ret) .skip)
def c18r4 : List AOper := [
  ⟨some 11,(.load (some 5)),[.t 2],none⟩,
  ⟨some 12,.call,[.c (.pv none (.func (.func 29))),.t 11],none⟩,
  ⟨some 5,.mv,[.t 12],none⟩]
def c18r5 : List AOper := [
  ⟨some 6,.mv,[.c (.pv none (.int .i64 0))],none⟩]
def c18r6 : List AOper := [
  ⟨some 7,.mv,[.c (.pv none (.int .i64 0))],none⟩]
def c18r7 : List AOper := [
  ⟨some 13,.mv,[.t 7],none⟩,
  ⟨some 14,.mv,[.t 5],none⟩,
  ⟨some 15,.len,[.t 14],none⟩,
  ⟨some 16,(.bin .lss),[.t 13,.t 15],none⟩]
def c18k8 : ACode := (.cond (.t 16) .skip (.exit 0))
def c18r9 : List AOper := [
  ⟨some 19,.mv,[.t 5],none⟩,
  ⟨some 20,.mv,[.t 7],none⟩,
  ⟨some 21,(.iaddr (some 2)),[.t 19,.t 20],none⟩,
  ⟨some 22,(.faddr 0),[.t 21],none⟩,
  ⟨some 23,(.load none),[.t 22],none⟩,
  ⟨some 24,.mv,[.t 1],none⟩,
  ⟨some 25,(.bin .eql),[.t 23,.t 24],none⟩]
def c18r10 : List AOper := [
  ⟨some 26,.mv,[.t 6],none⟩,
  ⟨some 27,(.bin .add),[.t 26,.c (.pv none (.int .i64 1))],none⟩,
  ⟨some 6,.mv,[.t 27],none⟩]
def c18k11 : ACode := (.cond (.t 25) (.region true c18r10 [1,5,6,7]) .skip)
def c18k12 : ACode := (.block 1 (.seq (.region true c18r9 [1,5,6,7,25]) c18k11))
def c18r13 : List AOper := [
  ⟨some 17,.mv,[.t 7],none⟩,
  ⟨some 18,(.bin .add),[.t 17,.c (.pv none (.int .i64 1))],none⟩,
  ⟨some 7,.mv,[.t 18],none⟩]
def c18b14 : ACode := (.seq (.seq (.region true c18r7 [1,5,6,7,16]) c18k8) (.seq c18k12 (.region true c18r13 [1,5,6,7])))
def c18k15 : ACode := (.block 0 (.loop [1,5,6,7] c18b14))
def c18r16 : List AOper := [
  ⟨some 28,.mv,[.t 6],none⟩,
  ⟨some 4,.mv,[.t 28],none⟩]
def c18 : ACode := (.seq (.region true c18r0 [1,2]) (.seq (.seq (.region true c18r1 [1,2,10]) c18k3) (.seq (.region true c18r4 [1,5]) (.seq (.region true c18r5 [1,5,6]) (.seq (.seq (.region true c18r6 [1,5,6,7]) c18k15) (.seq (.region true c18r16 [4]) .ret))))))
def g18 : AFn := ⟨2,[(4,none)],c18,false,[],[],none⟩
theorem tr18 : trFn Try.prog false 18 Try.f18 = some g18 := by kernel_rfl
def c19r0 : List AOper := [
  ⟨some 2,(.alloc (some 4) (.agg [(none,(.pv none (.int .i64 0))),(none,(.pv none (.int .i64 0))),(none,(.pv none (.str []))),(none,(.tsl (some 4) []))])),[],none⟩]
def c19r1 : List AOper := [
  ⟨some 3,.mv,[.t 0],none⟩,
  ⟨some 4,.call,[.c (.pv none (.func (.func 35))),.t 3],none⟩,
  ⟨some 5,.not,[.t 4],none⟩]
def c19r2 : List AOper := [
  ⟨some 6,(.build [(none,(.pv none (.int .i64 0))),(none,(.pv none (.int .i64 0))),(none,(.pv none (.str []))),(none,(.tsl (some 4) []))] []),[],none⟩,
  ⟨none,(.store (some 4)),[.t 2,.t 6],none⟩]
def c19k3 : ACode := (.cond (.t 5) (.seq (.region true c19r2 [2]) .ret) .skip)
def c19r4 : List AOper := [
  ⟨some 7,.mv,[.t 0],none⟩,
  ⟨some 8,(.build [(none,(.pv none (.int .i64 0))),(none,(.pv none (.int .i64 0))),(none,(.pv none (.str []))),(none,(.tsl (some 4) []))] [1]),[.t 7],none⟩,
  ⟨none,(.store (some 4)),[.t 2,.t 8],none⟩]
def c19 : ACode := (.seq (.region true c19r0 [0,2]) (.seq (.seq (.region true c19r1 [0,2,5]) c19k3) (.seq (.region true c19r4 [2]) .ret)))
def g19 : AFn := ⟨1,[(2,some (some 4))],c19,false,[],[],none⟩
theorem tr19 : trFn Try.prog false 19 Try.f19 = some g19 := by kernel_rfl
def c20r0 : List AOper := [
  ⟨some 4,(.alloc (some 5) (.agg [((some 3),(.pv (some 3) (.agg [(none,(.str [])),(none,(.int .i64 0)),(none,(.int .i64 0))]))),(none,(.tsl (some 4) [])),(none,(.tsl (some 6) []))])),[],none⟩]
def c20r1 : List AOper := [
  ⟨some 5,.mv,[.t 0],none⟩,
  ⟨some 6,.len,[.t 5],none⟩,
  ⟨some 7,(.build [(none,(.pv none (.str []))),(none,(.pv none (.int .i64 0))),(none,(.pv none (.int .i64 0)))] [0,1]),[.c (.pv none (.str [112])),.t 6],none⟩,
  ⟨some 8,.mv,[.t 0],none⟩,
  ⟨some 9,.mv,[.t 1],none⟩,
  ⟨some 10,(.build [((some 3),(.pv (some 3) (.agg [(none,(.str [])),(none,(.int .i64 0)),(none,(.int .i64 0))]))),(none,(.tsl (some 4) [])),(none,(.tsl (some 6) []))] [0,1,2]),[.t 7,.t 8,.t 9],none⟩,
  ⟨none,(.store (some 5)),[.t 4,.t 10],none⟩]
def c20 : ACode := (.seq (.region true c20r0 [0,1,4]) (.seq (.region true c20r1 [4]) .ret))
def g20 : AFn := ⟨2,[(4,some (some 5))],c20,false,[],[],none⟩
theorem tr20 : trFn Try.prog false 20 Try.f20 = some g20 := by kernel_rfl
def c21r0 : List AOper := [
  ⟨some 4,(.alloc (some 6) (.agg [(none,(.pv none (.int .i64 0))),((some 3),(.pv (some 3) (.agg [(none,(.str [])),(none,(.int .i64 0)),(none,(.int .i64 0))]))),(none,(.tsl (some 4) [])),(none,(.pv none (.int .i64 0)))])),[],none⟩]
def c21r1 : List AOper := [
  ⟨some 7,.mv,[.t 0],none⟩,
  ⟨some 8,.mv,[.t 1],none⟩,
  ⟨some 9,.len,[.t 8],none⟩,
  ⟨some 10,(.build [(none,(.pv none (.str []))),(none,(.pv none (.int .i64 0))),(none,(.pv none (.int .i64 0)))] [0,1]),[.t 7,.t 9],none⟩,
  ⟨some 11,(.build [(none,(.pv none (.int .i64 0))),((some 3),(.pv (some 3) (.agg [(none,(.str [])),(none,(.int .i64 0)),(none,(.int .i64 0))]))),(none,(.tsl (some 4) [])),(none,(.pv none (.int .i64 0)))] [0,1]),[.c (.pv none (.int .i64 1)),.t 10],none⟩,
  ⟨some 5,(.alloc (some 6) (.agg [(none,(.pv none (.int .i64 0))),((some 3),(.pv (some 3) (.agg [(none,(.str [])),(none,(.int .i64 0)),(none,(.int .i64 0))]))),(none,(.tsl (some 4) [])),(none,(.pv none (.int .i64 0)))])),[],none⟩,
  ⟨none,(.store (some 6)),[.t 5,.t 11],none⟩]
def c21r2 : List AOper := [
  ⟨some 6,.mv,[.c (.pv none (.int .i64 0))],none⟩]
def c21r3 : List AOper := [
  ⟨some 12,.mv,[.t 6],none⟩,
  ⟨some 13,.mv,[.t 1],none⟩,
  ⟨some 14,.len,[.t 13],none⟩,
  ⟨some 15,(.bin .lss),[.t 12,.t 14],none⟩]
def c21k4 : ACode := (.cond (.t 15) .skip (.exit 0))
def c21r5 : List AOper := [
  ⟨some 18,(.faddr 4),[.t 5],none⟩,
  ⟨some 19,(.load none),[.t 18],none⟩,
  ⟨some 20,.mv,[.t 1],none⟩,
  ⟨some 21,.mv,[.t 6],none⟩,
  ⟨some 22,(.iaddr none),[.t 20,.t 21],none⟩,
  ⟨some 23,(.load none),[.t 22],none⟩,
  ⟨some 24,.callp,[.c (.pv none (.func (.func 19))),.t 23],none⟩,
  ⟨some 25,(.bslicep (some 4)),[.t 24],none⟩,
  ⟨some 26,(.append (some 4)),[.t 19,.t 25],none⟩,
  ⟨some 27,(.faddr 4),[.t 5],none⟩,
  ⟨none,(.store none),[.t 27,.t 26],none⟩]
def c21k6 : ACode := (.block 1 (.seq (.settle []) (.region true c21r5 [1,4,5,6])))
def c21r7 : List AOper := [
  ⟨some 16,.mv,[.t 6],none⟩,
  ⟨some 17,(.bin .add),[.t 16,.c (.pv none (.int .i64 1))],none⟩,
  ⟨some 6,.mv,[.t 17],none⟩]
def c21b8 : ACode := (.seq (.seq (.region true c21r3 [1,4,5,6,15]) c21k4) (.seq c21k6 (.region true c21r7 [1,4,5,6])))
def c21k9 : ACode := (.block 0 (.loop [1,4,5,6] c21b8))
def c21r10 : List AOper := [
  ⟨some 28,(.load (some 6)),[.t 5],none⟩,
  ⟨none,(.store (some 6)),[.t 4,.t 28],none⟩]
def c21 : ACode := (.seq (.region true c21r0 [0,1,4]) (.seq (.region true c21r1 [1,4,5]) (.seq (.seq (.region true c21r2 [1,4,5,6]) c21k9) (.seq (.region true c21r10 [4]) .ret))))
def g21 : AFn := ⟨2,[(4,some (some 6))],c21,false,[],[],none⟩
theorem tr21 : trFn Try.prog false 21 Try.f21 = some g21 := by kernel_rfl
def c22r0 : List AOper := [
  ⟨some 4,(.alloc (some 4) (.agg [(none,(.pv none (.int .i64 0))),(none,(.pv none (.int .i64 0))),(none,(.pv none (.str []))),(none,(.tsl (some 4) []))])),[],none⟩]
def c22r1 : List AOper := [
  ⟨some 5,.mv,[.t 1],none⟩,
  ⟨some 6,.len,[.t 5],none⟩,
  ⟨some 7,(.bin .eql),[.t 6,.c (.pv none (.int .i64 0))],none⟩]
def c22r2 : List AOper := [
  ⟨some 8,.mv,[.t 0],none⟩,
  ⟨some 9,.call,[.c (.pv none (.func (.func 36))),.t 8],none⟩,
  ⟨none,(.store (some 4)),[.t 4,.t 9],none⟩]
def c22k3 : ACode := (.cond (.t 7) (.seq (.region true c22r2 [4]) .ret) .skip)
def c22r4 : List AOper := [
  ⟨some 10,.mv,[.t 0],none⟩,
  ⟨some 11,.mv,[.t 1],none⟩,
  ⟨some 12,(.build [(none,(.pv none (.int .i64 0))),(none,(.pv none (.int .i64 0))),(none,(.pv none (.str []))),(none,(.tsl (some 4) []))] [0,2,3]),[.c (.pv none (.int .i64 3)),.t 10,.t 11],none⟩,
  ⟨some 13,.call,[.c (.pv none (.func (.func 37))),.t 12],none⟩,
  ⟨none,(.store (some 4)),[.t 4,.t 13],none⟩]
def c22 : ACode := (.seq (.region true c22r0 [0,1,4]) (.seq (.seq (.region true c22r1 [0,1,4,7]) c22k3) (.seq (.region true c22r4 [4]) .ret)))
def g22 : AFn := ⟨2,[(4,some (some 4))],c22,false,[],[],none⟩
theorem tr22 : trFn Try.prog false 22 Try.f22 = some g22 := by kernel_rfl
def c24r0 : List AOper := [
  ⟨some 1,(.box (some 5)),[.t 0],none⟩,
  ⟨some 2,.mv,[.c (.pv none .nilfunc)],none⟩]
def c24r1 : List AOper := [
  ⟨some 3,(.mkfunc (.func 39) 0),[.t 1],none⟩,
  ⟨some 2,.mv,[.t 3],none⟩]
def c24 : ACode := (.seq (.region true c24r0 [1]) (.seq (.region true c24r1 [2]) .ret))
def g24 : AFn := ⟨1,[(2,none)],c24,true,[],[],none⟩
theorem tr24 : trFn Try.prog true 24 Try.f24 = some g24 := by kernel_rfl
def c25r0 : List AOper := [
  ⟨some 4,.mv,[.t 0],none⟩,
  ⟨some 5,.mv,[.t 0],none⟩,
  ⟨some 6,.len,[.t 5],none⟩,
  ⟨some 7,.mv,[.t 1],none⟩,
  ⟨some 8,.call,[.c (.pv none (.func (.func 44))),.t 4,.t 6,.t 7],none⟩]
def c25 : ACode := (.region true c25r0 [])
def g25 : AFn := ⟨2,[],c25,true,[],[],none⟩
theorem tr25 : trFn Try.prog true 25 Try.f25 = some g25 := by kernel_rfl
def c26r0 : List AOper := [
  ⟨some 5,.mv,[.c (.pv none (.int .i64 0))],none⟩]
def c26r1 : List AOper := [
  ⟨some 6,(.load none),[.t 2],none⟩,
  ⟨some 7,.mv,[.t 1],none⟩,
  ⟨some 8,(.lookup false (some 3) (.pv (some 3) (.agg [(none,(.int .i64 0)),(none,(.int .i64 0)),(none,(.int .i64 0))])) false),[.t 6,.t 7],none⟩,
  ⟨some 9,(.field 2 none),[.t 8],none⟩,
  ⟨some 10,(.load none),[.t 2],none⟩,
  ⟨some 11,.mv,[.t 0],none⟩,
  ⟨some 12,(.lookup false (some 3) (.pv (some 3) (.agg [(none,(.int .i64 0)),(none,(.int .i64 0)),(none,(.int .i64 0))])) false),[.t 10,.t 11],none⟩,
  ⟨some 13,(.field 2 none),[.t 12],none⟩,
  ⟨some 14,.call,[.c (.pv none (.func (.func 27))),.t 9,.t 13],none⟩,
  ⟨some 5,.mv,[.t 14],none⟩]
def c26 : ACode := (.seq (.region true c26r0 [0,1,2]) (.seq (.region true c26r1 [5]) .ret))
def g26 : AFn := ⟨3,[(5,none)],c26,true,[],[],none⟩
theorem tr26 : trFn Try.prog true 26 Try.f26 = some g26 := by kernel_rfl
def c27r0 : List AOper := [
  ⟨some 4,.mv,[.c (.pv none (.int .i64 0))],none⟩]
def c27r1 : List AOper := [
  ⟨some 7,.mv,[.t 0],none⟩,
  ⟨some 8,.call,[.c (.pv none (.func (.func 45))),.t 7],none⟩,
  ⟨some 5,.mv,[.t 8],none⟩]
def c27r2 : List AOper := [
  ⟨some 9,.mv,[.t 1],none⟩,
  ⟨some 10,.call,[.c (.pv none (.func (.func 45))),.t 9],none⟩,
  ⟨some 6,.mv,[.t 10],none⟩]
def c27r3 : List AOper := [
  ⟨some 11,.mv,[.t 5],none⟩]
def c27r4 : List AOper := [
  ⟨some 12,.mv,[.t 6],none⟩]
def c27r5 : List AOper := [
  ⟨some 4,.mv,[.c (.pv none (.int .i64 0))],none⟩]
def c27k6 : ACode := (.cond (.t 12) (.seq (.region true c27r5 [4]) .ret) .skip)
def c27r7 : List AOper := [
  ⟨some 4,.mv,[.c (.pv none (.int .i64 (-1)))],none⟩]
def c27k8 : ACode := (.cond (.t 11) (.seq (.seq (.region true c27r4 [12]) c27k6) (.seq (.region true c27r7 [4]) .ret)) .skip)
def c27r9 : List AOper := [
  ⟨some 13,.mv,[.t 6],none⟩]
def c27r10 : List AOper := [
  ⟨some 4,.mv,[.c (.pv none (.int .i64 1))],none⟩]
def c27k11 : ACode := (.cond (.t 13) (.seq (.region true c27r10 [4]) .ret) .skip)
def c27r12 : List AOper := [
  ⟨some 14,.mv,[.t 0],none⟩,
  ⟨some 15,.mv,[.t 1],none⟩,
  ⟨some 16,(.bin .lss),[.t 14,.t 15],none⟩]
def c27r13 : List AOper := [
  ⟨some 4,.mv,[.c (.pv none (.int .i64 (-1)))],none⟩]
def c27k14 : ACode := (.cond (.t 16) (.seq (.region true c27r13 [4]) .ret) .skip)
def c27r15 : List AOper := [
  ⟨some 17,.mv,[.t 0],none⟩,
  ⟨some 18,.mv,[.t 1],none⟩,
  ⟨some 19,(.bin .gtr),[.t 17,.t 18],none⟩]
def c27r16 : List AOper := [
  ⟨some 4,.mv,[.c (.pv none (.int .i64 1))],none⟩]
def c27k17 : ACode := (.cond (.t 19) (.seq (.region true c27r16 [4]) .ret) .skip)
def c27r18 : List AOper := [
  ⟨some 4,.mv,[.c (.pv none (.int .i64 0))],none⟩]
def c27 : ACode := (.seq (.region true c27r0 [0,1]) (.seq (.region true c27r1 [0,1,5]) (.seq (.region true c27r2 [0,1,5,6]) (.seq (.seq (.region true c27r3 [0,1,6,11]) c27k8) (.seq (.seq (.region true c27r9 [0,1,13]) c27k11) (.seq (.seq (.region true c27r12 [0,1,16]) c27k14) (.seq (.seq (.region true c27r15 [19]) c27k17) (.seq (.region true c27r18 [4]) .ret))))))))
def g27 : AFn := ⟨2,[(4,none)],c27,false,[],[],none⟩
theorem tr27 : trFn Try.prog false 27 Try.f27 = some g27 := by kernel_rfl
def c28r0 : List AOper := [
  ⟨some 1,(.box (some 5)),[.t 0],none⟩,
  ⟨some 2,.mv,[.c (.pv none (.bool false))],none⟩]
def c28r1 : List AOper := [
  ⟨some 9,(.faddr 3),[.t 1],none⟩,
  ⟨some 10,(.load none),[.t 9],none⟩,
  ⟨some 11,.call,[.c (.pv none (.func (.func 46))),.t 10,.c (.pv none (.int .i64 0))],none⟩,
  ⟨some 8,.mv,[.t 11],none⟩,
  ⟨some 12,(.extract 0),[.t 8],none⟩,
  ⟨some 13,(.extract 1),[.t 8],none⟩,
  ⟨some 3,.mv,[.t 12],none⟩,
  ⟨some 4,.mv,[.t 13],none⟩]
def c28r2 : List AOper := [
  ⟨some 14,.mv,[.t 4],none⟩,
  ⟨some 15,.not,[.t 14],none⟩,
  ⟨some 16,.mv,[.t 15],none⟩,
  ⟨some 17,(.faddr 0),[.t 1],some (16,false)⟩,
  ⟨some 18,(.load (some 3)),[.t 17],some (16,false)⟩,
  ⟨some 19,.call,[.c (.pv none (.func (.func 47))),.t 18],some (16,false)⟩,
  ⟨some 20,.not,[.t 19],some (16,false)⟩,
  ⟨some 21,.pick,[.t 16,.c (.pv none (.bool true)),.t 20],none⟩,
  ⟨some 22,.mv,[.t 21],none⟩,
  ⟨some 23,(.faddr 3),[.t 1],some (22,false)⟩,
  ⟨some 24,(.load none),[.t 23],some (22,false)⟩,
  ⟨some 25,.len,[.t 24],some (22,false)⟩,
  ⟨some 26,(.faddr 0),[.t 1],some (22,false)⟩,
  ⟨some 27,(.faddr 1),[.t 26],some (22,false)⟩,
  ⟨some 28,(.load none),[.t 27],some (22,false)⟩,
  ⟨some 29,(.bin .neq),[.t 25,.t 28],some (22,false)⟩,
  ⟨some 30,.pick,[.t 22,.c (.pv none (.bool true)),.t 29],none⟩]
def c28r3 : List AOper := [
  ⟨some 2,.mv,[.c (.pv none (.bool false))],none⟩]
def c28k4 : ACode := (.cond (.t 30) (.seq (.region true c28r3 [2]) .ret) .skip)
def c28r5 : List AOper := [
  ⟨some 5,.mv,[.c (.pv none (.bool false))],none⟩]
def c28r6 : List AOper := [
  ⟨some 6,.mv,[.c (.pv none (.int .i64 0))],none⟩]
def c28r7 : List AOper := [
  ⟨some 31,.mv,[.t 6],none⟩,
  ⟨some 32,(.faddr 4),[.t 1],none⟩,
  ⟨some 33,(.load none),[.t 32],none⟩,
  ⟨some 34,.len,[.t 33],none⟩,
  ⟨some 35,(.bin .lss),[.t 31,.t 34],none⟩]
def c28k8 : ACode := (.cond (.t 35) .skip (.exit 0))
def c28r9 : List AOper := [
  ⟨some 38,(.faddr 4),[.t 1],none⟩,
  ⟨some 39,(.load none),[.t 38],none⟩,
  ⟨some 40,.mv,[.t 6],none⟩,
  ⟨some 41,(.iaddr (some 6)),[.t 39,.t 40],none⟩,
  ⟨some 42,(.load (some 6)),[.t 41],none⟩,
  ⟨some 7,(.alloc (some 6) (.agg [(none,(.pv none (.int .i64 0))),((some 3),(.pv (some 3) (.agg [(none,(.str [])),(none,(.int .i64 0)),(none,(.int .i64 0))]))),(none,(.tsl (some 4) [])),(none,(.pv none (.int .i64 0)))])),[],none⟩,
  ⟨none,(.store (some 6)),[.t 7,.t 42],none⟩]
def c28r10 : List AOper := [
  ⟨some 43,(.faddr 0),[.t 7],none⟩,
  ⟨some 44,(.load none),[.t 43],none⟩]
def c28r11 : List AOper := [
  ⟨some 46,(.bin .eql),[.t 44,.c (.pv none (.int .i64 1))],none⟩,
  ⟨some 45,.mv,[.t 46],none⟩]
def c28r12 : List AOper := [
  ⟨some 47,(.faddr 1),[.t 7],none⟩,
  ⟨some 48,(.load (some 3)),[.t 47],none⟩,
  ⟨some 49,.call,[.c (.pv none (.func (.func 47))),.t 48],none⟩,
  ⟨some 50,.not,[.t 49],none⟩,
  ⟨some 51,.mv,[.t 50],none⟩,
  ⟨some 52,(.faddr 4),[.t 7],some (51,false)⟩,
  ⟨some 53,(.load none),[.t 52],some (51,false)⟩,
  ⟨some 54,.len,[.t 53],some (51,false)⟩,
  ⟨some 55,(.faddr 1),[.t 7],some (51,false)⟩,
  ⟨some 56,(.faddr 1),[.t 55],some (51,false)⟩,
  ⟨some 57,(.load none),[.t 56],some (51,false)⟩,
  ⟨some 58,(.bin .neq),[.t 54,.t 57],some (51,false)⟩,
  ⟨some 59,.pick,[.t 51,.c (.pv none (.bool true)),.t 58],none⟩,
  ⟨some 60,.mv,[.t 59],none⟩,
  ⟨some 61,(.faddr 5),[.t 7],some (60,false)⟩,
  ⟨some 62,(.load none),[.t 61],some (60,false)⟩,
  ⟨some 63,(.bin .neq),[.t 62,.c (.pv none (.int .i64 0))],some (60,false)⟩,
  ⟨some 64,.pick,[.t 60,.c (.pv none (.bool true)),.t 63],none⟩]
def c28r13 : List AOper := [
  ⟨some 2,.mv,[.c (.pv none (.bool false))],none⟩]
def c28k14 : ACode := (.cond (.t 64) (.seq (.region true c28r13 [2]) .ret) .skip)
def c28r15 : List AOper := [
  ⟨some 66,(.faddr 4),[.t 7],none⟩,
  ⟨some 67,(.load none),[.t 66],none⟩,
  ⟨some 68,.mv,[.t 3],none⟩,
  ⟨some 69,.call,[.c (.pv none (.func (.func 46))),.t 67,.t 68],none⟩,
  ⟨some 65,.mv,[.t 69],none⟩,
  ⟨some 70,(.extract 0),[.t 65],none⟩,
  ⟨some 71,(.extract 1),[.t 65],none⟩,
  ⟨some 3,.mv,[.t 70],none⟩,
  ⟨some 4,.mv,[.t 71],none⟩]
def c28r16 : List AOper := [
  ⟨some 72,.mv,[.t 4],none⟩,
  ⟨some 73,.not,[.t 72],none⟩]
def c28r17 : List AOper := [
  ⟨some 2,.mv,[.c (.pv none (.bool false))],none⟩]
def c28k18 : ACode := (.cond (.t 73) (.seq (.region true c28r17 [2]) .ret) .skip)
def c28r19 : List AOper := [
  ⟨some 5,.mv,[.c (.pv none (.bool true))],none⟩]
def c28r20 : List AOper := [
  ⟨some 75,(.bin .eql),[.t 44,.c (.pv none (.int .i64 2))],none⟩,
  ⟨some 74,.mv,[.t 75],none⟩]
def c28r21 : List AOper := [
  ⟨some 76,(.bin .eql),[.t 44,.c (.pv none (.int .i64 3))],none⟩,
  ⟨some 74,.mv,[.t 76],none⟩]
def c28r22 : List AOper := [
  ⟨some 77,(.bin .eql),[.t 44,.c (.pv none (.int .i64 4))],none⟩,
  ⟨some 74,.mv,[.t 77],none⟩]
def c28k23 : ACode := (.cond (.t 74) .skip (.region true c28r22 [1,3,5,6,7,44,74]))
def c28k24 : ACode := (.cond (.t 74) .skip (.seq (.region true c28r21 [1,3,5,6,7,44,74]) c28k23))
def c28r25 : List AOper := [
  ⟨some 78,(.faddr 5),[.t 7],none⟩,
  ⟨some 79,(.load none),[.t 78],none⟩,
  ⟨some 80,(.bin .lss),[.t 79,.c (.pv none (.int .i64 0))],none⟩,
  ⟨some 81,.mv,[.t 80],none⟩,
  ⟨some 82,(.faddr 5),[.t 7],some (81,false)⟩,
  ⟨some 83,(.load none),[.t 82],some (81,false)⟩,
  ⟨some 84,(.bin .gtr),[.t 83,.c (.pv none (.int .i64 1099511627776))],some (81,false)⟩,
  ⟨some 85,.pick,[.t 81,.c (.pv none (.bool true)),.t 84],none⟩,
  ⟨some 86,.mv,[.t 85],none⟩,
  ⟨some 87,(.faddr 1),[.t 7],some (86,false)⟩,
  ⟨some 88,(.load (some 3)),[.t 87],some (86,false)⟩,
  ⟨some 89,(.build [(none,(.pv none (.str []))),(none,(.pv none (.int .i64 0))),(none,(.pv none (.int .i64 0)))] []),[],some (86,false)⟩,
  ⟨some 90,(.eqs true [1,0,0]),[.t 88,.t 89],some (86,false)⟩,
  ⟨some 91,.pick,[.t 86,.c (.pv none (.bool true)),.t 90],none⟩,
  ⟨some 92,.mv,[.t 91],none⟩,
  ⟨some 93,(.faddr 4),[.t 7],some (92,false)⟩,
  ⟨some 94,(.load none),[.t 93],some (92,false)⟩,
  ⟨some 95,.len,[.t 94],some (92,false)⟩,
  ⟨some 96,(.bin .neq),[.t 95,.c (.pv none (.int .i64 0))],some (92,false)⟩,
  ⟨some 97,.pick,[.t 92,.c (.pv none (.bool true)),.t 96],none⟩,
  ⟨some 98,.mv,[.t 97],none⟩,
  ⟨some 99,(.faddr 0),[.t 7],some (98,false)⟩,
  ⟨some 100,(.load none),[.t 99],some (98,false)⟩,
  ⟨some 101,(.bin .eql),[.t 100,.c (.pv none (.int .i64 2))],some (98,false)⟩,
  ⟨some 102,.mv,[.t 101],some (98,false)⟩,
  ⟨some 103,.mv,[.t 5],some (102,true)⟩,
  ⟨some 104,.pick,[.t 102,.t 103,.c (.pv none (.bool false))],some (98,false)⟩,
  ⟨some 105,.pick,[.t 98,.c (.pv none (.bool true)),.t 104],none⟩]
def c28r26 : List AOper := [
  ⟨some 2,.mv,[.c (.pv none (.bool false))],none⟩]
def c28k27 : ACode := (.cond (.t 105) (.seq (.region true c28r26 [2]) .ret) .skip)
def c28r28 : List AOper := [
  ⟨some 107,(.bin .eql),[.t 44,.c (.pv none (.int .i64 5))],none⟩,
  ⟨some 106,.mv,[.t 107],none⟩]
def c28r29 : List AOper := [
  ⟨some 108,(.faddr 5),[.t 7],none⟩,
  ⟨some 109,(.load none),[.t 108],none⟩,
  ⟨some 110,(.bin .neq),[.t 109,.c (.pv none (.int .i64 0))],none⟩,
  ⟨some 111,.mv,[.t 110],none⟩,
  ⟨some 112,(.faddr 1),[.t 7],some (111,false)⟩,
  ⟨some 113,(.load (some 3)),[.t 112],some (111,false)⟩,
  ⟨some 114,(.build [(none,(.pv none (.str []))),(none,(.pv none (.int .i64 0))),(none,(.pv none (.int .i64 0)))] []),[],some (111,false)⟩,
  ⟨some 115,(.eqs true [1,0,0]),[.t 113,.t 114],some (111,false)⟩,
  ⟨some 116,.pick,[.t 111,.c (.pv none (.bool true)),.t 115],none⟩,
  ⟨some 117,.mv,[.t 116],none⟩,
  ⟨some 118,(.faddr 4),[.t 7],some (117,false)⟩,
  ⟨some 119,(.load none),[.t 118],some (117,false)⟩,
  ⟨some 120,.len,[.t 119],some (117,false)⟩,
  ⟨some 121,(.bin .neq),[.t 120,.c (.pv none (.int .i64 0))],some (117,false)⟩,
  ⟨some 122,.pick,[.t 117,.c (.pv none (.bool true)),.t 121],none⟩]
def c28r30 : List AOper := [
  ⟨some 2,.mv,[.c (.pv none (.bool false))],none⟩]
def c28k31 : ACode := (.cond (.t 122) (.seq (.region true c28r30 [2]) .ret) .skip)
def c28r32 : List AOper := [
  ⟨some 2,.mv,[.c (.pv none (.bool false))],none⟩]
def c28k33 : ACode := (.cond (.t 106) (.seq (.region true c28r29 [1,3,5,6,122]) c28k31) (.seq (.region true c28r32 [2]) .ret))
def c28k34 : ACode := (.cond (.t 74) (.seq (.region true c28r25 [1,3,5,6,105]) c28k27) (.seq (.region true c28r28 [1,3,5,6,7,106]) c28k33))
def c28k35 : ACode := (.cond (.t 45) (.seq (.seq (.region true c28r12 [1,3,6,7,64]) c28k14) (.seq (.region true c28r15 [1,3,4,6]) (.seq (.seq (.region true c28r16 [1,3,6,73]) c28k18) (.region true c28r19 [1,3,5,6])))) (.seq (.seq (.region true c28r20 [1,3,5,6,7,44,74]) c28k24) c28k34))
def c28k36 : ACode := (.block 2 (.seq (.region true c28r11 [1,3,5,6,7,44,45]) c28k35))
def c28k37 : ACode := (.block 1 (.seq (.region true c28r9 [1,3,5,6,7]) (.seq (.region true c28r10 [1,3,5,6,7,44]) c28k36)))
def c28r38 : List AOper := [
  ⟨some 36,.mv,[.t 6],none⟩,
  ⟨some 37,(.bin .add),[.t 36,.c (.pv none (.int .i64 1))],none⟩,
  ⟨some 6,.mv,[.t 37],none⟩]
def c28b39 : ACode := (.seq (.seq (.region true c28r7 [1,3,5,6,35]) c28k8) (.seq c28k37 (.region true c28r38 [1,3,5,6])))
def c28k40 : ACode := (.block 0 (.loop [1,3,5,6] c28b39))
def c28r41 : List AOper := [
  ⟨some 2,.mv,[.c (.pv none (.bool true))],none⟩]
def c28 : ACode := (.seq (.region true c28r0 [1]) (.seq (.region true c28r1 [1,3,4]) (.seq (.seq (.region true c28r2 [1,3,30]) c28k4) (.seq (.region true c28r5 [1,3,5]) (.seq (.seq (.region true c28r6 [1,3,5,6]) c28k40) (.seq (.region true c28r41 [2]) .ret))))))
def g28 : AFn := ⟨1,[(2,none)],c28,false,[],[],none⟩
theorem tr28 : trFn Try.prog false 28 Try.f28 = some g28 := by kernel_rfl
def c29r0 : List AOper := [
  ⟨some 1,(.box (some 5)),[.t 0],none⟩,
  ⟨some 2,(.nilsl (some 2)),[],none⟩]
def c29r1 : List AOper := [
  ⟨some 3,(.nilsl (some 2)),[],none⟩]
def c29r2 : List AOper := [
  ⟨some 4,.mv,[.c (.pv none (.int .i64 0))],none⟩]
def c29r3 : List AOper := [
  ⟨some 9,.mv,[.t 4],none⟩,
  ⟨some 10,(.faddr 3),[.t 1],none⟩,
  ⟨some 11,(.load none),[.t 10],none⟩,
  ⟨some 12,.len,[.t 11],none⟩,
  ⟨some 13,(.bin .lss),[.t 9,.t 12],none⟩]
def c29k4 : ACode := (.cond (.t 13) .skip (.exit 0))
def c29r5 : List AOper := [
  ⟨some 16,.mv,[.t 3],none⟩,
  ⟨some 17,(.faddr 3),[.t 1],none⟩,
  ⟨some 18,(.load none),[.t 17],none⟩,
  ⟨some 19,.mv,[.t 4],none⟩,
  ⟨some 20,(.iaddr (some 4)),[.t 18,.t 19],none⟩,
  ⟨some 21,(.load (some 4)),[.t 20],none⟩,
  ⟨some 22,.call,[.c (.pv none (.func (.func 48))),.t 16,.t 21,.c (.pv none (.int .i64 0))],none⟩,
  ⟨some 3,.mv,[.t 22],none⟩]
def c29k6 : ACode := (.block 1 (.region true c29r5 [1,3,4]))
def c29r7 : List AOper := [
  ⟨some 14,.mv,[.t 4],none⟩,
  ⟨some 15,(.bin .add),[.t 14,.c (.pv none (.int .i64 1))],none⟩,
  ⟨some 4,.mv,[.t 15],none⟩]
def c29b8 : ACode := (.seq (.seq (.region true c29r3 [1,3,4,13]) c29k4) (.seq c29k6 (.region true c29r7 [1,3,4])))
def c29k9 : ACode := (.block 0 (.loop [1,3,4] c29b8))
def c29r10 : List AOper := [
  ⟨some 5,.mv,[.c (.pv none (.int .i64 0))],none⟩]
def c29r11 : List AOper := [
  ⟨some 6,.mv,[.c (.pv none (.int .i64 0))],none⟩]
def c29r12 : List AOper := [
  ⟨some 23,.mv,[.t 6],none⟩,
  ⟨some 24,(.faddr 4),[.t 1],none⟩,
  ⟨some 25,(.load none),[.t 24],none⟩,
  ⟨some 26,.len,[.t 25],none⟩,
  ⟨some 27,(.bin .lss),[.t 23,.t 26],none⟩]
def c29k13 : ACode := (.cond (.t 27) .skip (.exit 2))
def c29r14 : List AOper := [
  ⟨some 30,(.faddr 4),[.t 1],none⟩,
  ⟨some 31,(.load none),[.t 30],none⟩,
  ⟨some 32,.mv,[.t 6],none⟩,
  ⟨some 33,(.iaddr (some 6)),[.t 31,.t 32],none⟩,
  ⟨some 34,(.load (some 6)),[.t 33],none⟩,
  ⟨some 7,(.alloc (some 6) (.agg [(none,(.pv none (.int .i64 0))),((some 3),(.pv (some 3) (.agg [(none,(.str [])),(none,(.int .i64 0)),(none,(.int .i64 0))]))),(none,(.tsl (some 4) [])),(none,(.pv none (.int .i64 0)))])),[],none⟩,
  ⟨none,(.store (some 6)),[.t 7,.t 34],none⟩]
def c29r15 : List AOper := [
  ⟨some 8,.mv,[.c (.pv none (.int .i64 0))],none⟩]
def c29r16 : List AOper := [
  ⟨some 35,.mv,[.t 8],none⟩,
  ⟨some 36,(.faddr 4),[.t 7],none⟩,
  ⟨some 37,(.load none),[.t 36],none⟩,
  ⟨some 38,.len,[.t 37],none⟩,
  ⟨some 39,(.bin .lss),[.t 35,.t 38],none⟩]
def c29k17 : ACode := (.cond (.t 39) .skip (.exit 4))
def c29r18 : List AOper := [
  ⟨some 42,.mv,[.t 3],none⟩,
  ⟨some 43,(.faddr 4),[.t 7],none⟩,
  ⟨some 44,(.load none),[.t 43],none⟩,
  ⟨some 45,.mv,[.t 8],none⟩,
  ⟨some 46,(.iaddr (some 4)),[.t 44,.t 45],none⟩,
  ⟨some 47,(.load (some 4)),[.t 46],none⟩,
  ⟨some 48,.mv,[.t 5],none⟩,
  ⟨some 49,.call,[.c (.pv none (.func (.func 48))),.t 42,.t 47,.t 48],none⟩,
  ⟨some 3,.mv,[.t 49],none⟩]
def c29k19 : ACode := (.block 5 (.region true c29r18 [1,3,5,6,7,8]))
def c29r20 : List AOper := [
  ⟨some 40,.mv,[.t 8],none⟩,
  ⟨some 41,(.bin .add),[.t 40,.c (.pv none (.int .i64 1))],none⟩,
  ⟨some 8,.mv,[.t 41],none⟩]
def c29b21 : ACode := (.seq (.seq (.region true c29r16 [1,3,5,6,7,8,39]) c29k17) (.seq c29k19 (.region true c29r20 [1,3,5,6,7,8])))
def c29k22 : ACode := (.block 4 (.loop [1,3,5,6,7,8] c29b21))
def c29r23 : List AOper := [
  ⟨some 50,(.faddr 0),[.t 7],none⟩,
  ⟨some 51,(.load none),[.t 50],none⟩,
  ⟨some 52,(.bin .eql),[.t 51,.c (.pv none (.int .i64 2))],none⟩,
  ⟨some 53,.mv,[.t 52],none⟩,
  ⟨some 54,(.faddr 0),[.t 7],some (53,false)⟩,
  ⟨some 55,(.load none),[.t 54],some (53,false)⟩,
  ⟨some 56,(.bin .eql),[.t 55,.c (.pv none (.int .i64 3))],some (53,false)⟩,
  ⟨some 57,.pick,[.t 53,.c (.pv none (.bool true)),.t 56],none⟩,
  ⟨some 58,.mv,[.t 57],none⟩,
  ⟨some 59,(.faddr 0),[.t 7],some (58,false)⟩,
  ⟨some 60,(.load none),[.t 59],some (58,false)⟩,
  ⟨some 61,(.bin .eql),[.t 60,.c (.pv none (.int .i64 4))],some (58,false)⟩,
  ⟨some 62,.pick,[.t 58,.c (.pv none (.bool true)),.t 61],none⟩]
def c29r24 : List AOper := [
  ⟨some 63,.mv,[.t 3],none⟩,
  ⟨some 64,(.faddr 5),[.t 7],none⟩,
  ⟨some 65,(.load none),[.t 64],none⟩,
  ⟨some 66,.mv,[.t 5],none⟩,
  ⟨some 67,(.build [(none,(.pv none (.int .i64 0))),(none,(.pv none (.int .i64 0)))] [0,1]),[.t 65,.t 66],none⟩,
  ⟨some 68,(.bslice (some 2)),[.t 67],none⟩,
  ⟨some 69,(.append (some 2)),[.t 63,.t 68],none⟩,
  ⟨some 3,.mv,[.t 69],none⟩]
def c29k25 : ACode := (.cond (.t 62) (.region true c29r24 [1,3,5,6,7]) .skip)
def c29r26 : List AOper := [
  ⟨some 70,(.faddr 0),[.t 7],none⟩,
  ⟨some 71,(.load none),[.t 70],none⟩,
  ⟨some 72,(.bin .eql),[.t 71,.c (.pv none (.int .i64 1))],none⟩]
def c29r27 : List AOper := [
  ⟨some 73,.mv,[.t 5],none⟩,
  ⟨some 74,(.bin .add),[.t 73,.c (.pv none (.int .i64 1))],none⟩,
  ⟨some 5,.mv,[.t 74],none⟩]
def c29k28 : ACode := (.cond (.t 72) (.region true c29r27 [1,3,5,6]) .skip)
def c29k29 : ACode := (.block 3 (.seq (.region true c29r14 [1,3,5,6,7]) (.seq (.seq (.region true c29r15 [1,3,5,6,7,8]) c29k22) (.seq (.seq (.region true c29r23 [1,3,5,6,7,62]) c29k25) (.seq (.region true c29r26 [1,3,5,6,72]) c29k28)))))
def c29r30 : List AOper := [
  ⟨some 28,.mv,[.t 6],none⟩,
  ⟨some 29,(.bin .add),[.t 28,.c (.pv none (.int .i64 1))],none⟩,
  ⟨some 6,.mv,[.t 29],none⟩]
def c29b31 : ACode := (.seq (.seq (.region true c29r12 [1,3,5,6,27]) c29k13) (.seq c29k29 (.region true c29r30 [1,3,5,6])))
def c29k32 : ACode := (.block 2 (.loop [1,3,5,6] c29b31))
def c29r33 : List AOper := [
  ⟨some 75,.mv,[.t 3],none⟩,
  ⟨some 2,.mv,[.t 75],none⟩]
def c29 : ACode := (.seq (.region true c29r0 [1]) (.seq (.region true c29r1 [1,3]) (.seq (.seq (.region true c29r2 [1,3,4]) c29k9) (.seq (.region true c29r10 [1,3,5]) (.seq (.seq (.region true c29r11 [1,3,5,6]) c29k32) (.seq (.region true c29r33 [2]) .ret))))))
def g29 : AFn := ⟨1,[(2,none)],c29,false,[],[],none⟩
theorem tr29 : trFn Try.prog false 29 Try.f29 = some g29 := by kernel_rfl
def c30r0 : List AOper := [
  ⟨some 4,.mv,[.c (.pv none (.bool false))],none⟩]
def c30r1 : List AOper := [
  ⟨some 6,.mv,[.t 0],none⟩,
  ⟨some 7,.len,[.t 6],none⟩,
  ⟨some 8,.mv,[.t 1],none⟩,
  ⟨some 9,.len,[.t 8],none⟩,
  ⟨some 10,(.bin .neq),[.t 7,.t 9],none⟩]
def c30r2 : List AOper := [
  ⟨some 4,.mv,[.c (.pv none (.bool false))],none⟩]
def c30k3 : ACode := (.cond (.t 10) (.seq (.region true c30r2 [4]) .ret) .skip)
def c30r4 : List AOper := [
  ⟨some 5,.mv,[.c (.pv none (.int .i64 0))],none⟩]
def c30r5 : List AOper := [
  ⟨some 11,.mv,[.t 5],none⟩,
  ⟨some 12,.mv,[.t 0],none⟩,
  ⟨some 13,.len,[.t 12],none⟩,
  ⟨some 14,(.bin .lss),[.t 11,.t 13],none⟩]
def c30k6 : ACode := (.cond (.t 14) .skip (.exit 0))
def c30r7 : List AOper := [
  ⟨some 17,.mv,[.t 0],none⟩,
  ⟨some 18,.mv,[.t 5],none⟩,
  ⟨some 19,(.iaddr none),[.t 17,.t 18],none⟩,
  ⟨some 20,(.load none),[.t 19],none⟩,
  ⟨some 21,.mv,[.t 1],none⟩,
  ⟨some 22,.mv,[.t 5],none⟩,
  ⟨some 23,(.iaddr none),[.t 21,.t 22],none⟩,
  ⟨some 24,(.load none),[.t 23],none⟩,
  ⟨some 25,(.bin .neq),[.t 20,.t 24],none⟩]
def c30r8 : List AOper := [
  ⟨some 4,.mv,[.c (.pv none (.bool false))],none⟩]
def c30k9 : ACode := (.cond (.t 25) (.seq (.region true c30r8 [4]) .ret) .skip)
def c30k10 : ACode := (.block 1 (.seq (.region true c30r7 [0,1,5,25]) c30k9))
def c30r11 : List AOper := [
  ⟨some 15,.mv,[.t 5],none⟩,
  ⟨some 16,(.bin .add),[.t 15,.c (.pv none (.int .i64 1))],none⟩,
  ⟨some 5,.mv,[.t 16],none⟩]
def c30b12 : ACode := (.seq (.seq (.region true c30r5 [0,1,5,14]) c30k6) (.seq c30k10 (.region true c30r11 [0,1,5])))
def c30k13 : ACode := (.block 0 (.loop [0,1,5] c30b12))
def c30r14 : List AOper := [
  ⟨some 4,.mv,[.c (.pv none (.bool true))],none⟩]
def c30 : ACode := (.seq (.region true c30r0 [0,1]) (.seq (.seq (.region true c30r1 [0,1,10]) c30k3) (.seq (.seq (.region true c30r4 [0,1,5]) c30k13) (.seq (.region true c30r14 [4]) .ret))))
def g30 : AFn := ⟨2,[(4,none)],c30,false,[],[],none⟩
theorem tr30 : trFn Try.prog false 30 Try.f30 = some g30 := by kernel_rfl
def c31r0 : List AOper := [
  ⟨some 4,.mv,[.c (.pv none (.bool false))],none⟩]
def c31r1 : List AOper := [
  ⟨some 6,.mv,[.t 0],none⟩,
  ⟨some 7,.len,[.t 6],none⟩,
  ⟨some 8,.mv,[.t 1],none⟩,
  ⟨some 9,.len,[.t 8],none⟩,
  ⟨some 10,(.bin .neq),[.t 7,.t 9],none⟩]
def c31r2 : List AOper := [
  ⟨some 4,.mv,[.c (.pv none (.bool false))],none⟩]
def c31k3 : ACode := (.cond (.t 10) (.seq (.region true c31r2 [4]) .ret) .skip)
def c31r4 : List AOper := [
  ⟨some 5,.mv,[.c (.pv none (.int .i64 0))],none⟩]
def c31r5 : List AOper := [
  ⟨some 11,.mv,[.t 5],none⟩,
  ⟨some 12,.mv,[.t 0],none⟩,
  ⟨some 13,.len,[.t 12],none⟩,
  ⟨some 14,(.bin .lss),[.t 11,.t 13],none⟩]
def c31k6 : ACode := (.cond (.t 14) .skip (.exit 0))
def c31r7 : List AOper := [
  ⟨some 17,.mv,[.t 0],none⟩,
  ⟨some 18,.mv,[.t 5],none⟩,
  ⟨some 19,(.iaddr none),[.t 17,.t 18],none⟩,
  ⟨some 20,(.load none),[.t 19],none⟩,
  ⟨some 21,.mv,[.t 1],none⟩,
  ⟨some 22,.mv,[.t 5],none⟩,
  ⟨some 23,(.iaddr none),[.t 21,.t 22],none⟩,
  ⟨some 24,(.load none),[.t 23],none⟩,
  ⟨some 25,(.bin .neq),[.t 20,.t 24],none⟩]
def c31r8 : List AOper := [
  ⟨some 4,.mv,[.c (.pv none (.bool false))],none⟩]
def c31k9 : ACode := (.cond (.t 25) (.seq (.region true c31r8 [4]) .ret) .skip)
def c31k10 : ACode := (.block 1 (.seq (.region true c31r7 [0,1,5,25]) c31k9))
def c31r11 : List AOper := [
  ⟨some 15,.mv,[.t 5],none⟩,
  ⟨some 16,(.bin .add),[.t 15,.c (.pv none (.int .i64 1))],none⟩,
  ⟨some 5,.mv,[.t 16],none⟩]
def c31b12 : ACode := (.seq (.seq (.region true c31r5 [0,1,5,14]) c31k6) (.seq c31k10 (.region true c31r11 [0,1,5])))
def c31k13 : ACode := (.block 0 (.loop [0,1,5] c31b12))
def c31r14 : List AOper := [
  ⟨some 4,.mv,[.c (.pv none (.bool true))],none⟩]
def c31 : ACode := (.seq (.region true c31r0 [0,1]) (.seq (.seq (.region true c31r1 [0,1,10]) c31k3) (.seq (.seq (.region true c31r4 [0,1,5]) c31k13) (.seq (.region true c31r14 [4]) .ret))))
def g31 : AFn := ⟨2,[(4,none)],c31,false,[],[],none⟩
theorem tr31 : trFn Try.prog false 31 Try.f31 = some g31 := by kernel_rfl
def c32r0 : List AOper := [
  ⟨some 1,(.box (some 3)),[.t 0],none⟩,
  ⟨some 2,.mv,[.c (.pv none (.bool false))],none⟩]
def c32r1 : List AOper := [
  ⟨some 3,(.faddr 2),[.t 1],none⟩,
  ⟨some 4,(.load none),[.t 3],none⟩,
  ⟨some 5,(.bin .eql),[.t 4,.c (.pv none (.int .i64 0))],none⟩]
def c32r2 : List AOper := [
  ⟨some 6,(.faddr 0),[.t 1],none⟩,
  ⟨some 7,(.load none),[.t 6],none⟩,
  ⟨some 8,.slen,[.t 7],none⟩,
  ⟨some 9,(.bin .leq),[.t 8,.c (.pv none (.int .i64 100))],none⟩,
  ⟨some 10,.mv,[.t 9],none⟩,
  ⟨some 11,(.faddr 1),[.t 1],some (10,true)⟩,
  ⟨some 12,(.load none),[.t 11],some (10,true)⟩,
  ⟨some 13,(.bin .geq),[.t 12,.c (.pv none (.int .i64 0))],some (10,true)⟩,
  ⟨some 14,.pick,[.t 10,.t 13,.c (.pv none (.bool false))],none⟩,
  ⟨some 15,.mv,[.t 14],none⟩,
  ⟨some 16,(.faddr 1),[.t 1],some (15,true)⟩,
  ⟨some 17,(.load none),[.t 16],some (15,true)⟩,
  ⟨some 18,(.bin .leq),[.t 17,.c (.pv none (.int .i64 8))],some (15,true)⟩,
  ⟨some 19,.pick,[.t 15,.t 18,.c (.pv none (.bool false))],none⟩,
  ⟨some 2,.mv,[.t 19],none⟩]
def c32k3 : ACode := (.cond (.t 5) (.seq (.region true c32r2 [2]) .ret) .skip)
def c32r4 : List AOper := [
  ⟨some 20,(.faddr 0),[.t 1],none⟩,
  ⟨some 21,(.load none),[.t 20],none⟩,
  ⟨some 22,(.bin .eql),[.t 21,.c (.pv none (.str []))],none⟩,
  ⟨some 23,.mv,[.t 22],none⟩,
  ⟨some 24,(.faddr 2),[.t 1],some (23,true)⟩,
  ⟨some 25,(.load none),[.t 24],some (23,true)⟩,
  ⟨some 26,(.bin .geq),[.t 25,.c (.pv none (.int .i64 1))],some (23,true)⟩,
  ⟨some 27,.pick,[.t 23,.t 26,.c (.pv none (.bool false))],none⟩,
  ⟨some 28,.mv,[.t 27],none⟩,
  ⟨some 29,(.faddr 2),[.t 1],some (28,true)⟩,
  ⟨some 30,(.load none),[.t 29],some (28,true)⟩,
  ⟨some 31,(.bin .leq),[.t 30,.c (.pv none (.int .i64 1099511627776))],some (28,true)⟩,
  ⟨some 32,.pick,[.t 28,.t 31,.c (.pv none (.bool false))],none⟩,
  ⟨some 33,.mv,[.t 32],none⟩,
  ⟨some 34,(.faddr 1),[.t 1],some (33,true)⟩,
  ⟨some 35,(.load none),[.t 34],some (33,true)⟩,
  ⟨some 36,(.bin .geq),[.t 35,.c (.pv none (.int .i64 0))],some (33,true)⟩,
  ⟨some 37,.pick,[.t 33,.t 36,.c (.pv none (.bool false))],none⟩,
  ⟨some 38,.mv,[.t 37],none⟩,
  ⟨some 39,(.faddr 1),[.t 1],some (38,true)⟩,
  ⟨some 40,(.load none),[.t 39],some (38,true)⟩,
  ⟨some 41,(.bin .leq),[.t 40,.c (.pv none (.int .i64 4096))],some (38,true)⟩,
  ⟨some 42,.pick,[.t 38,.t 41,.c (.pv none (.bool false))],none⟩,
  ⟨some 2,.mv,[.t 42],none⟩]
def c32 : ACode := (.seq (.region true c32r0 [1]) (.seq (.seq (.region true c32r1 [1,5]) c32k3) (.seq (.region true c32r4 [2]) .ret)))
def g32 : AFn := ⟨1,[(2,none)],c32,false,[],[],none⟩
theorem tr32 : trFn Try.prog false 32 Try.f32 = some g32 := by kernel_rfl
def c33r0 : List AOper := [
  ⟨some 4,.mv,[.c (.pv none (.bool false))],none⟩]
def c33r1 : List AOper := [
  ⟨some 7,.mv,[.t 1],none⟩,
  ⟨some 8,.len,[.t 7],none⟩,
  ⟨some 9,.mv,[.c (.pv none (.int .i64 0))],none⟩]
def c33r2 : List AOper := [
  ⟨some 10,(.bin .lss),[.t 9,.t 8],none⟩]
def c33k3 : ACode := (.cond (.t 10) .skip (.exit 0))
def c33r4 : List AOper := [
  ⟨some 11,(.iaddr (some 4)),[.t 7,.t 9],none⟩,
  ⟨some 12,(.load (some 4)),[.t 11],none⟩,
  ⟨some 6,(.alloc (some 4) (.agg [(none,(.pv none (.int .i64 0))),(none,(.pv none (.int .i64 0))),(none,(.pv none (.str []))),(none,(.tsl (some 4) []))])),[],none⟩,
  ⟨none,(.store (some 4)),[.t 6,.t 12],none⟩]
def c33r5 : List AOper := [
  ⟨some 13,(.load (some 4)),[.t 6],none⟩,
  ⟨some 14,.call,[.c (.pv none (.func (.func 49))),.t 13],none⟩,
  ⟨some 15,.not,[.t 14],none⟩]
def c33r6 : List AOper := [
  ⟨some 4,.mv,[.c (.pv none (.bool false))],none⟩]
def c33k7 : ACode := (.cond (.t 15) (.seq (.region true c33r6 [4]) .ret) .skip)
def c33r8 : List AOper := [
  ⟨some 16,.mv,[.t 0],none⟩,
  ⟨some 17,.nilcheck,[.t 16],none⟩,
  ⟨some 18,(.load none),[.t 17],none⟩,
  ⟨some 19,(.load (some 4)),[.t 6],none⟩,
  ⟨some 20,(.calln 1),[.t 17,.c (.pv none (.func (.func 50))),.t 19],none⟩,
  ⟨some 21,(.bin .sub),[.t 18,.t 20],none⟩,
  ⟨some 22,.nilcheck,[.t 16],none⟩,
  ⟨none,(.store none),[.t 22,.t 21],none⟩]
def c33r9 : List AOper := [
  ⟨some 23,.mv,[.t 0],none⟩,
  ⟨some 24,.nilcheck,[.t 23],none⟩,
  ⟨some 25,(.load none),[.t 24],none⟩,
  ⟨some 26,(.bin .lss),[.t 25,.c (.pv none (.int .i64 0))],none⟩]
def c33r10 : List AOper := [
  ⟨some 4,.mv,[.c (.pv none (.bool false))],none⟩]
def c33k11 : ACode := (.cond (.t 26) (.seq (.region true c33r10 [4]) .ret) .skip)
def c33k12 : ACode := (.block 1 (.seq (.region true c33r4 [0,6,7,8,9]) (.seq (.seq (.region true c33r5 [0,6,7,8,9,15]) c33k7) (.seq (.region false c33r8 [0,7,8,9]) (.seq (.region true c33r9 [0,7,8,9,26]) c33k11)))))
def c33r13 : List AOper := [
  ⟨some 27,(.bin .add),[.t 9,.c (.pv none (.int .i64 1))],none⟩,
  ⟨some 9,.mv,[.t 27],none⟩]
def c33b14 : ACode := (.seq (.region true c33r2 [0,7,8,9,10]) (.seq c33k3 (.seq c33k12 (.region true c33r13 [0,7,8,9]))))
def c33k15 : ACode := (.block 0 (.loop [0,7,8,9] c33b14))
def c33r16 : List AOper := [
  ⟨some 4,.mv,[.c (.pv none (.bool true))],none⟩]
def c33 : ACode := (.seq (.region true c33r0 [0,1]) (.seq (.seq (.region true c33r1 [0,7,8,9]) c33k15) (.seq (.region true c33r16 [4]) .ret)))
def g33 : AFn := ⟨2,[(4,none)],c33,true,[],[],none⟩
theorem tr33 : trFn Try.prog true 33 Try.f33 = some g33 := by kernel_rfl
def c34r0 : List AOper := [
  ⟨some 4,.mv,[.c (.pv none (.bool false))],none⟩]
def c34r1 : List AOper := [
  ⟨some 5,.mv,[.c (.pv none (.int .i64 0))],none⟩]
def c34r2 : List AOper := [
  ⟨some 6,.mv,[.t 5],none⟩,
  ⟨some 7,.mv,[.t 0],none⟩,
  ⟨some 8,.len,[.t 7],none⟩,
  ⟨some 9,(.bin .lss),[.t 6,.t 8],none⟩]
def c34k3 : ACode := (.cond (.t 9) .skip (.exit 0))
def c34r4 : List AOper := [
  ⟨some 12,.mv,[.t 0],none⟩,
  ⟨some 13,.mv,[.t 5],none⟩,
  ⟨some 14,(.iaddr (some 4)),[.t 12,.t 13],none⟩,
  ⟨some 15,(.faddr 0),[.t 14],none⟩,
  ⟨some 16,(.load none),[.t 15],none⟩,
  ⟨some 17,(.bin .eql),[.t 16,.c (.pv none (.int .i64 0))],none⟩,
  ⟨some 18,.mv,[.t 17],none⟩,
  ⟨some 19,.mv,[.t 0],some (18,true)⟩,
  ⟨some 20,.mv,[.t 5],some (18,true)⟩,
  ⟨some 21,(.iaddr (some 4)),[.t 19,.t 20],some (18,true)⟩,
  ⟨some 22,(.faddr 1),[.t 21],some (18,true)⟩,
  ⟨some 23,(.load none),[.t 22],some (18,true)⟩,
  ⟨some 24,.mv,[.t 1],some (18,true)⟩,
  ⟨some 25,(.bin .eql),[.t 23,.t 24],some (18,true)⟩,
  ⟨some 26,.pick,[.t 18,.t 25,.c (.pv none (.bool false))],none⟩,
  ⟨some 27,.mv,[.t 26],none⟩,
  ⟨some 28,.mv,[.t 0],some (27,false)⟩,
  ⟨some 29,.mv,[.t 5],some (27,false)⟩,
  ⟨some 30,(.iaddr (some 4)),[.t 28,.t 29],some (27,false)⟩,
  ⟨some 31,(.faddr 3),[.t 30],some (27,false)⟩,
  ⟨some 32,(.load none),[.t 31],some (27,false)⟩,
  ⟨some 33,.mv,[.t 1],some (27,false)⟩,
  ⟨some 34,.call,[.c (.pv none (.func (.func 34))),.t 32,.t 33],some (27,false)⟩,
  ⟨some 35,.pick,[.t 27,.c (.pv none (.bool true)),.t 34],none⟩]
def c34r5 : List AOper := [
  ⟨some 4,.mv,[.c (.pv none (.bool true))],none⟩]
def c34k6 : ACode := (.cond (.t 35) (.seq (.region true c34r5 [4]) .ret) .skip)
def c34k7 : ACode := (.block 1 (.seq (.region true c34r4 [0,1,5,35]) c34k6))
def c34r8 : List AOper := [
  ⟨some 10,.mv,[.t 5],none⟩,
  ⟨some 11,(.bin .add),[.t 10,.c (.pv none (.int .i64 1))],none⟩,
  ⟨some 5,.mv,[.t 11],none⟩]
def c34b9 : ACode := (.seq (.seq (.region true c34r2 [0,1,5,9]) c34k3) (.seq c34k7 (.region true c34r8 [0,1,5])))
def c34k10 : ACode := (.block 0 (.loop [0,1,5] c34b9))
def c34r11 : List AOper := [
  ⟨some 4,.mv,[.c (.pv none (.bool false))],none⟩]
def c34 : ACode := (.seq (.region true c34r0 [0,1]) (.seq (.seq (.region true c34r1 [0,1,5]) c34k10) (.seq (.region true c34r11 [4]) .ret)))
def g34 : AFn := ⟨2,[(4,none)],c34,false,[],[],none⟩
theorem tr34 : trFn Try.prog false 34 Try.f34 = some g34 := by kernel_rfl
def c35r0 : List AOper := [
  ⟨some 2,.mv,[.c (.pv none (.bool false))],none⟩]
def c35r1 : List AOper := [
  ⟨some 3,.mv,[.t 0],none⟩,
  ⟨some 4,(.bin .geq),[.t 3,.c (.pv none (.int .i64 0))],none⟩,
  ⟨some 5,.mv,[.t 4],none⟩,
  ⟨some 6,.mv,[.t 0],some (5,true)⟩,
  ⟨some 7,(.bin .leq),[.t 6,.c (.pv none (.int .i64 1099511627776))],some (5,true)⟩,
  ⟨some 8,.pick,[.t 5,.t 7,.c (.pv none (.bool false))],none⟩,
  ⟨some 2,.mv,[.t 8],none⟩]
def c35 : ACode := (.seq (.region true c35r0 [0]) (.seq (.region true c35r1 [2]) .ret))
def g35 : AFn := ⟨1,[(2,none)],c35,false,[],[],none⟩
theorem tr35 : trFn Try.prog false 35 Try.f35 = some g35 := by kernel_rfl
def c36r0 : List AOper := [
  ⟨some 2,(.alloc (some 4) (.agg [(none,(.pv none (.int .i64 0))),(none,(.pv none (.int .i64 0))),(none,(.pv none (.str []))),(none,(.tsl (some 4) []))])),[],none⟩]
def c36r1 : List AOper := [
  ⟨some 3,.mv,[.t 0],none⟩,
  ⟨some 4,(.build [(none,(.pv none (.int .i64 0))),(none,(.pv none (.int .i64 0))),(none,(.pv none (.str []))),(none,(.tsl (some 4) []))] [0,2]),[.c (.pv none (.int .i64 2)),.t 3],none⟩,
  ⟨some 5,.call,[.c (.pv none (.func (.func 37))),.t 4],none⟩,
  ⟨none,(.store (some 4)),[.t 2,.t 5],none⟩]
def c36 : ACode := (.seq (.region true c36r0 [0,2]) (.seq (.region true c36r1 [2]) .ret))
def g36 : AFn := ⟨1,[(2,some (some 4))],c36,false,[],[],none⟩
theorem tr36 : trFn Try.prog false 36 Try.f36 = some g36 := by kernel_rfl
def c37r0 : List AOper := [
  ⟨some 1,(.box (some 4)),[.t 0],none⟩,
  ⟨some 2,(.alloc (some 4) (.agg [(none,(.pv none (.int .i64 0))),(none,(.pv none (.int .i64 0))),(none,(.pv none (.str []))),(none,(.tsl (some 4) []))])),[],none⟩]
def c37r1 : List AOper := [
  ⟨some 3,(.load (some 4)),[.t 1],none⟩,
  ⟨some 4,.call,[.c (.pv none (.func (.func 49))),.t 3],none⟩,
  ⟨some 5,.not,[.t 4],none⟩]
def c37r2 : List AOper := [
  ⟨some 6,(.build [(none,(.pv none (.int .i64 0))),(none,(.pv none (.int .i64 0))),(none,(.pv none (.str []))),(none,(.tsl (some 4) []))] []),[],none⟩,
  ⟨none,(.store (some 4)),[.t 2,.t 6],none⟩]
def c37k3 : ACode := (.cond (.t 5) (.seq (.region true c37r2 [2]) .ret) .skip)
def c37r4 : List AOper := [
  ⟨some 7,(.load (some 4)),[.t 1],none⟩,
  ⟨some 8,.call,[.c (.pv none (.func (.func 51))),.t 7,.c (.pv none (.func (.func 52)))],none⟩,
  ⟨none,(.store (some 4)),[.t 2,.t 8],none⟩]
def c37 : ACode := (.seq (.region true c37r0 [1,2]) (.seq (.seq (.region true c37r1 [1,2,5]) c37k3) (.seq (.region true c37r4 [2]) .ret)))
def g37 : AFn := ⟨1,[(2,some (some 4))],c37,false,[],[],none⟩
theorem tr37 : trFn Try.prog false 37 Try.f37 = some g37 := by kernel_rfl
def c39r0 : List AOper := [
  ⟨some 2,(.box none),[.t 0],none⟩]
def c39r1 : List AOper := [
  ⟨some 3,(.alloc none (.pv none (.int .i64 0))),[],none⟩,
  ⟨none,(.store none),[.t 3,.c (.pv none (.int .i64 0))],none⟩]
def c39r2 : List AOper := [
  ⟨some 7,(.mkfunc (.func 40) 0),[.t 2,.t 3],none⟩,
  ⟨some 4,.mv,[.t 7],none⟩]
def c39r3 : List AOper := [
  ⟨some 8,.mv,[.t 4],none⟩,
  ⟨some 9,(.faddr 3),[.t 1],none⟩,
  ⟨some 10,(.load none),[.t 9],none⟩,
  ⟨some 11,.call,[.t 8,.t 10],none⟩,
  ⟨some 12,.not,[.t 11],none⟩]
def c39k4 : ACode := (.cond (.t 12) .ret .skip)
def c39r5 : List AOper := [
  ⟨some 13,(.faddr 4),[.t 1],none⟩,
  ⟨some 14,(.load none),[.t 13],none⟩,
  ⟨some 15,.len,[.t 14],none⟩,
  ⟨some 16,.mv,[.c (.pv none (.int .i64 0))],none⟩]
def c39r6 : List AOper := [
  ⟨some 17,(.bin .lss),[.t 16,.t 15],none⟩]
def c39k7 : ACode := (.cond (.t 17) .skip (.exit 0))
def c39r8 : List AOper := [
  ⟨some 18,(.iaddr (some 6)),[.t 14,.t 16],none⟩,
  ⟨some 19,(.load (some 6)),[.t 18],none⟩,
  ⟨some 6,(.alloc (some 6) (.agg [(none,(.pv none (.int .i64 0))),((some 3),(.pv (some 3) (.agg [(none,(.str [])),(none,(.int .i64 0)),(none,(.int .i64 0))]))),(none,(.tsl (some 4) [])),(none,(.pv none (.int .i64 0)))])),[],none⟩,
  ⟨none,(.store (some 6)),[.t 6,.t 19],none⟩]
def c39r9 : List AOper := [
  ⟨some 20,.mv,[.t 4],none⟩,
  ⟨some 21,(.faddr 4),[.t 6],none⟩,
  ⟨some 22,(.load none),[.t 21],none⟩,
  ⟨some 23,.call,[.t 20,.t 22],none⟩,
  ⟨some 24,.not,[.t 23],none⟩,
  ⟨some 25,.mv,[.t 24],none⟩,
  ⟨some 26,(.load (some 6)),[.t 6],some (25,false)⟩,
  ⟨some 27,.call,[.c (.pv none (.func (.func 43))),.t 26],some (25,false)⟩,
  ⟨some 28,.mv,[.t 27],some (25,false)⟩,
  ⟨some 29,(.load none),[.t 2],some (28,true)⟩,
  ⟨some 30,(.faddr 5),[.t 6],some (28,true)⟩,
  ⟨some 31,(.load none),[.t 30],some (28,true)⟩,
  ⟨some 32,(.load none),[.t 3],some (28,true)⟩,
  ⟨some 33,(.build [(none,(.pv none (.int .i64 0))),(none,(.pv none (.int .i64 0)))] [0,1]),[.t 31,.t 32],some (28,true)⟩,
  ⟨some 34,.call,[.t 29,.t 33],some (28,true)⟩,
  ⟨some 35,.not,[.t 34],some (28,true)⟩,
  ⟨some 36,.pick,[.t 28,.t 35,.c (.pv none (.bool false))],some (25,false)⟩,
  ⟨some 37,.pick,[.t 25,.c (.pv none (.bool true)),.t 36],none⟩]
def c39k10 : ACode := (.cond (.t 37) .ret .skip)
def c39r11 : List AOper := [
  ⟨some 38,(.faddr 0),[.t 6],none⟩,
  ⟨some 39,(.load none),[.t 38],none⟩,
  ⟨some 40,(.bin .eql),[.t 39,.c (.pv none (.int .i64 1))],none⟩]
def c39r12 : List AOper := [
  ⟨some 41,(.load none),[.t 3],none⟩,
  ⟨some 42,(.bin .add),[.t 41,.c (.pv none (.int .i64 1))],none⟩,
  ⟨none,(.store none),[.t 3,.t 42],none⟩]
def c39k13 : ACode := (.cond (.t 40) (.region true c39r12 [2,3,4,14,15,16]) .skip)
def c39k14 : ACode := (.block 1 (.seq (.region true c39r8 [2,3,4,6,14,15,16]) (.seq (.seq (.region true c39r9 [2,3,4,6,14,15,16,37]) c39k10) (.seq (.region true c39r11 [2,3,4,14,15,16,40]) c39k13))))
def c39r15 : List AOper := [
  ⟨some 43,(.bin .add),[.t 16,.c (.pv none (.int .i64 1))],none⟩,
  ⟨some 16,.mv,[.t 43],none⟩]
def c39b16 : ACode := (.seq (.region true c39r6 [2,3,4,14,15,16,17]) (.seq c39k7 (.seq c39k14 (.region true c39r15 [2,3,4,14,15,16]))))
def c39k17 : ACode := (.block 0 (.loop [2,3,4,14,15,16] c39b16))
def c39 : ACode := (.seq (.region true c39r0 [1,2]) (.seq (.region true c39r1 [1,2,3]) (.seq (.region true c39r2 [1,2,3,4]) (.seq (.seq (.region true c39r3 [1,2,3,4,12]) c39k4) (.seq (.region true c39r5 [2,3,4,14,15,16]) c39k17)))))
def g39 : AFn := ⟨2,[],c39,true,[],[],none⟩
theorem tr39 : trFn Try.prog true 39 Try.f39 = some g39 := by kernel_rfl
def c40r0 : List AOper := [
  ⟨some 4,.mv,[.c (.pv none (.bool false))],none⟩]
def c40r1 : List AOper := [
  ⟨some 7,.mv,[.t 0],none⟩,
  ⟨some 8,.len,[.t 7],none⟩,
  ⟨some 9,.mv,[.c (.pv none (.int .i64 0))],none⟩]
def c40r2 : List AOper := [
  ⟨some 10,(.bin .lss),[.t 9,.t 8],none⟩]
def c40k3 : ACode := (.cond (.t 10) .skip (.exit 0))
def c40r4 : List AOper := [
  ⟨some 11,(.iaddr (some 4)),[.t 7,.t 9],none⟩,
  ⟨some 12,(.load (some 4)),[.t 11],none⟩,
  ⟨some 6,(.alloc (some 4) (.agg [(none,(.pv none (.int .i64 0))),(none,(.pv none (.int .i64 0))),(none,(.pv none (.str []))),(none,(.tsl (some 4) []))])),[],none⟩,
  ⟨none,(.store (some 4)),[.t 6,.t 12],none⟩]
def c40r5 : List AOper := [
  ⟨some 13,(.load (some 4)),[.t 6],none⟩,
  ⟨some 14,(.mkfunc (.func 42) 0),[.t 1,.t 2],none⟩,
  ⟨some 15,.call,[.c (.pv none (.func (.func 41))),.t 13,.t 14],none⟩,
  ⟨some 16,.not,[.t 15],none⟩]
def c40r6 : List AOper := [
  ⟨some 4,.mv,[.c (.pv none (.bool false))],none⟩]
def c40k7 : ACode := (.cond (.t 16) (.seq (.region true c40r6 [4]) .ret) .skip)
def c40k8 : ACode := (.block 1 (.seq (.region true c40r4 [1,2,6,7,8,9]) (.seq (.region true c40r5 [1,2,7,8,9,16]) c40k7)))
def c40r9 : List AOper := [
  ⟨some 17,(.bin .add),[.t 9,.c (.pv none (.int .i64 1))],none⟩,
  ⟨some 9,.mv,[.t 17],none⟩]
def c40b10 : ACode := (.seq (.region true c40r2 [1,2,7,8,9,10]) (.seq c40k3 (.seq c40k8 (.region true c40r9 [1,2,7,8,9]))))
def c40k11 : ACode := (.block 0 (.loop [1,2,7,8,9] c40b10))
def c40r12 : List AOper := [
  ⟨some 4,.mv,[.c (.pv none (.bool true))],none⟩]
def c40 : ACode := (.seq (.region true c40r0 [0,1,2]) (.seq (.seq (.region true c40r1 [1,2,7,8,9]) c40k11) (.seq (.region true c40r12 [4]) .ret)))
def g40 : AFn := ⟨3,[(4,none)],c40,true,[],[],none⟩
theorem tr40 : trFn Try.prog true 40 Try.f40 = some g40 := by kernel_rfl
def c41r0 : List AOper := [
  ⟨some 2,(.box (some 4)),[.t 0],none⟩,
  ⟨some 4,.mv,[.c (.pv none (.bool false))],none⟩]
def c41r1 : List AOper := [
  ⟨some 7,(.faddr 0),[.t 2],none⟩,
  ⟨some 8,(.load none),[.t 7],none⟩,
  ⟨some 9,(.bin .eql),[.t 8,.c (.pv none (.int .i64 0))],none⟩]
def c41r2 : List AOper := [
  ⟨some 10,.mv,[.t 1],none⟩,
  ⟨some 11,(.faddr 1),[.t 2],none⟩,
  ⟨some 12,(.load none),[.t 11],none⟩,
  ⟨some 13,.call,[.t 10,.t 12],none⟩,
  ⟨some 4,.mv,[.t 13],none⟩]
def c41k3 : ACode := (.cond (.t 9) (.seq (.region true c41r2 [4]) .ret) .skip)
def c41r4 : List AOper := [
  ⟨some 14,(.faddr 3),[.t 2],none⟩,
  ⟨some 15,(.load none),[.t 14],none⟩,
  ⟨some 16,.len,[.t 15],none⟩,
  ⟨some 17,.mv,[.c (.pv none (.int .i64 0))],none⟩]
def c41r5 : List AOper := [
  ⟨some 18,(.bin .lss),[.t 17,.t 16],none⟩]
def c41k6 : ACode := (.cond (.t 18) .skip (.exit 0))
def c41r7 : List AOper := [
  ⟨some 19,(.iaddr (some 4)),[.t 15,.t 17],none⟩,
  ⟨some 20,(.load (some 4)),[.t 19],none⟩,
  ⟨some 6,(.alloc (some 4) (.agg [(none,(.pv none (.int .i64 0))),(none,(.pv none (.int .i64 0))),(none,(.pv none (.str []))),(none,(.tsl (some 4) []))])),[],none⟩,
  ⟨none,(.store (some 4)),[.t 6,.t 20],none⟩]
def c41r8 : List AOper := [
  ⟨some 21,(.load (some 4)),[.t 6],none⟩,
  ⟨some 22,.mv,[.t 1],none⟩,
  ⟨some 23,.call,[.c (.pv none (.func (.func 41))),.t 21,.t 22],none⟩,
  ⟨some 24,.not,[.t 23],none⟩]
def c41r9 : List AOper := [
  ⟨some 4,.mv,[.c (.pv none (.bool false))],none⟩]
def c41k10 : ACode := (.cond (.t 24) (.seq (.region true c41r9 [4]) .ret) .skip)
def c41k11 : ACode := (.block 1 (.seq (.region true c41r7 [1,6,15,16,17]) (.seq (.region true c41r8 [1,15,16,17,24]) c41k10)))
def c41r12 : List AOper := [
  ⟨some 25,(.bin .add),[.t 17,.c (.pv none (.int .i64 1))],none⟩,
  ⟨some 17,.mv,[.t 25],none⟩]
def c41b13 : ACode := (.seq (.region true c41r5 [1,15,16,17,18]) (.seq c41k6 (.seq c41k11 (.region true c41r12 [1,15,16,17]))))
def c41k14 : ACode := (.block 0 (.loop [1,15,16,17] c41b13))
def c41r15 : List AOper := [
  ⟨some 4,.mv,[.c (.pv none (.bool true))],none⟩]
def c41 : ACode := (.seq (.region true c41r0 [1,2]) (.seq (.seq (.region true c41r1 [1,2,9]) c41k3) (.seq (.seq (.region true c41r4 [1,15,16,17]) c41k14) (.seq (.region true c41r15 [4]) .ret))))
def g41 : AFn := ⟨2,[(4,none)],c41,true,[],[],none⟩
theorem tr41 : trFn Try.prog true 41 Try.f41 = some g41 := by kernel_rfl
def c42r0 : List AOper := [
  ⟨some 4,.mv,[.c (.pv none (.bool false))],none⟩]
def c42r1 : List AOper := [
  ⟨some 5,(.load none),[.t 1],none⟩,
  ⟨some 6,.mv,[.t 0],none⟩,
  ⟨some 7,(.load none),[.t 2],none⟩,
  ⟨some 8,(.build [(none,(.pv none (.int .i64 0))),(none,(.pv none (.int .i64 0)))] [0,1]),[.t 6,.t 7],none⟩,
  ⟨some 9,.call,[.t 5,.t 8],none⟩,
  ⟨some 4,.mv,[.t 9],none⟩]
def c42 : ACode := (.seq (.region true c42r0 [0,1,2]) (.seq (.region true c42r1 [4]) .ret))
def g42 : AFn := ⟨3,[(4,none)],c42,true,[],[],none⟩
theorem tr42 : trFn Try.prog true 42 Try.f42 = some g42 := by kernel_rfl
def c43r0 : List AOper := [
  ⟨some 1,(.box (some 6)),[.t 0],none⟩,
  ⟨some 2,.mv,[.c (.pv none (.bool false))],none⟩]
def c43r1 : List AOper := [
  ⟨some 3,(.faddr 0),[.t 1],none⟩,
  ⟨some 4,(.load none),[.t 3],none⟩,
  ⟨some 5,(.bin .eql),[.t 4,.c (.pv none (.int .i64 2))],none⟩,
  ⟨some 6,.mv,[.t 5],none⟩,
  ⟨some 7,(.faddr 0),[.t 1],some (6,false)⟩,
  ⟨some 8,(.load none),[.t 7],some (6,false)⟩,
  ⟨some 9,(.bin .eql),[.t 8,.c (.pv none (.int .i64 3))],some (6,false)⟩,
  ⟨some 10,.pick,[.t 6,.c (.pv none (.bool true)),.t 9],none⟩,
  ⟨some 11,.mv,[.t 10],none⟩,
  ⟨some 12,(.faddr 0),[.t 1],some (11,false)⟩,
  ⟨some 13,(.load none),[.t 12],some (11,false)⟩,
  ⟨some 14,(.bin .eql),[.t 13,.c (.pv none (.int .i64 4))],some (11,false)⟩,
  ⟨some 15,.pick,[.t 11,.c (.pv none (.bool true)),.t 14],none⟩,
  ⟨some 2,.mv,[.t 15],none⟩]
def c43 : ACode := (.seq (.region true c43r0 [1]) (.seq (.region true c43r1 [2]) .ret))
def g43 : AFn := ⟨1,[(2,none)],c43,false,[],[],none⟩
theorem tr43 : trFn Try.prog false 43 Try.f43 = some g43 := by kernel_rfl
def c44r0 : List AOper := [
  ⟨some 6,.mv,[.c (.pv none (.int .i64 20))],none⟩]
def c44r1 : List AOper := [
  ⟨some 10,.mv,[.t 6],none⟩,
  ⟨some 7,.mv,[.c (.pv none (.int .i64 0))],none⟩,
  ⟨some 8,.mv,[.t 10],none⟩]
def c44r2 : List AOper := [
  ⟨some 11,.mv,[.t 8],none⟩,
  ⟨some 12,.mv,[.t 1],none⟩,
  ⟨some 13,(.bin .leq),[.t 11,.t 12],none⟩]
def c44k3 : ACode := (.cond (.t 13) .skip (.exit 0))
def c44r4 : List AOper := [
  ⟨some 14,.mv,[.t 0],none⟩,
  ⟨some 15,.mv,[.t 7],none⟩,
  ⟨some 16,.mv,[.t 8],none⟩,
  ⟨some 17,.mv,[.t 2],none⟩,
  ⟨some 18,.call,[.c (.pv none (.func (.func 55))),.t 14,.t 15,.t 16,.t 17],none⟩]
def c44r5 : List AOper := [
  ⟨some 19,.mv,[.t 8],none⟩,
  ⟨some 7,.mv,[.t 19],none⟩]
def c44r6 : List AOper := [
  ⟨some 20,.mv,[.t 8],none⟩,
  ⟨some 21,.mv,[.t 6],none⟩,
  ⟨some 22,(.bin .add),[.t 20,.t 21],none⟩,
  ⟨some 8,.mv,[.t 22],none⟩]
def c44k7 : ACode := (.block 1 (.seq (.region true c44r4 [0,1,2,6,8]) (.seq (.region true c44r5 [0,1,2,6,7,8]) (.region true c44r6 [0,1,2,6,7,8]))))
def c44b8 : ACode := (.seq (.seq (.region true c44r2 [0,1,2,6,7,8,13]) c44k3) c44k7)
def c44k9 : ACode := (.block 0 (.loop [0,1,2,6,7,8] c44b8))
def c44r10 : List AOper := [
  ⟨some 23,.mv,[.t 0],none⟩,
  ⟨some 24,.mv,[.t 7],none⟩,
  ⟨some 25,.mv,[.t 1],none⟩,
  ⟨some 26,.mv,[.t 2],none⟩,
  ⟨some 27,.call,[.c (.pv none (.func (.func 55))),.t 23,.t 24,.t 25,.t 26],none⟩]
def c44r11 : List AOper := [
  ⟨some 28,.mv,[.t 6],none⟩,
  ⟨some 29,.mv,[.t 1],none⟩,
  ⟨some 30,(.bin .lss),[.t 28,.t 29],none⟩]
def c44k12 : ACode := (.cond (.t 30) .skip (.exit 2))
def c44r13 : List AOper := [
  ⟨some 31,.mv,[.t 6],none⟩,
  ⟨some 32,(.bin .mul),[.c (.pv none (.int .i64 2)),.t 31],none⟩,
  ⟨some 7,.mv,[.c (.pv none (.int .i64 0))],none⟩,
  ⟨some 8,.mv,[.t 32],none⟩]
def c44r14 : List AOper := [
  ⟨some 33,.mv,[.t 8],none⟩,
  ⟨some 34,.mv,[.t 1],none⟩,
  ⟨some 35,(.bin .leq),[.t 33,.t 34],none⟩]
def c44k15 : ACode := (.cond (.t 35) .skip (.exit 4))
def c44r16 : List AOper := [
  ⟨some 36,.mv,[.t 0],none⟩,
  ⟨some 37,.mv,[.t 7],none⟩,
  ⟨some 38,.mv,[.t 7],none⟩,
  ⟨some 39,.mv,[.t 6],none⟩,
  ⟨some 40,(.bin .add),[.t 38,.t 39],none⟩,
  ⟨some 41,.mv,[.t 8],none⟩,
  ⟨some 42,.mv,[.t 2],none⟩,
  ⟨some 43,.call,[.c (.pv none (.func (.func 56))),.t 36,.t 37,.t 40,.t 41,.t 42],none⟩]
def c44r17 : List AOper := [
  ⟨some 44,.mv,[.t 8],none⟩,
  ⟨some 7,.mv,[.t 44],none⟩]
def c44r18 : List AOper := [
  ⟨some 45,.mv,[.t 8],none⟩,
  ⟨some 46,.mv,[.t 6],none⟩,
  ⟨some 47,(.bin .mul),[.c (.pv none (.int .i64 2)),.t 46],none⟩,
  ⟨some 48,(.bin .add),[.t 45,.t 47],none⟩,
  ⟨some 8,.mv,[.t 48],none⟩]
def c44k19 : ACode := (.block 5 (.seq (.region true c44r16 [0,1,2,6,8]) (.seq (.region true c44r17 [0,1,2,6,7,8]) (.region true c44r18 [0,1,2,6,7,8]))))
def c44b20 : ACode := (.seq (.seq (.region true c44r14 [0,1,2,6,7,8,35]) c44k15) c44k19)
def c44k21 : ACode := (.block 4 (.loop [0,1,2,6,7,8] c44b20))
def c44r22 : List AOper := [
  ⟨some 49,.mv,[.t 7],none⟩,
  ⟨some 50,.mv,[.t 6],none⟩,
  ⟨some 51,(.bin .add),[.t 49,.t 50],none⟩,
  ⟨some 9,.mv,[.t 51],none⟩]
def c44r23 : List AOper := [
  ⟨some 52,.mv,[.t 9],none⟩,
  ⟨some 53,.mv,[.t 1],none⟩,
  ⟨some 54,(.bin .lss),[.t 52,.t 53],none⟩]
def c44r24 : List AOper := [
  ⟨some 55,.mv,[.t 0],none⟩,
  ⟨some 56,.mv,[.t 7],none⟩,
  ⟨some 57,.mv,[.t 9],none⟩,
  ⟨some 58,.mv,[.t 1],none⟩,
  ⟨some 59,.mv,[.t 2],none⟩,
  ⟨some 60,.call,[.c (.pv none (.func (.func 56))),.t 55,.t 56,.t 57,.t 58,.t 59],none⟩]
def c44k25 : ACode := (.cond (.t 54) (.region true c44r24 [0,1,2,6]) .skip)
def c44r26 : List AOper := [
  ⟨some 61,.mv,[.t 6],none⟩,
  ⟨some 62,(.bin .mul),[.t 61,.c (.pv none (.int .i64 2))],none⟩,
  ⟨some 6,.mv,[.t 62],none⟩]
def c44k27 : ACode := (.block 3 (.seq (.region true c44r13 [0,1,2,6,7,8]) (.seq c44k21 (.seq (.seq (.region true c44r22 [0,1,2,6,7,9]) (.seq (.region true c44r23 [0,1,2,6,7,9,54]) c44k25)) (.region true c44r26 [0,1,2,6])))))
def c44b28 : ACode := (.seq (.seq (.region true c44r11 [0,1,2,6,30]) c44k12) c44k27)
def c44k29 : ACode := (.block 2 (.loop [0,1,2,6] c44b28))
def c44 : ACode := (.seq (.region true c44r0 [0,1,2,6]) (.seq (.region true c44r1 [0,1,2,6,7,8]) (.seq c44k9 (.seq (.region true c44r10 [0,1,2,6]) c44k29))))
def g44 : AFn := ⟨3,[],c44,true,[],[],none⟩
theorem tr44 : trFn Try.prog true 44 Try.f44 = some g44 := by kernel_rfl
def c45r0 : List AOper := [
  ⟨some 2,.mv,[.c (.pv none (.bool false))],none⟩]
def c45r1 : List AOper := [
  ⟨some 3,.mv,[.t 0],none⟩,
  ⟨some 4,.mv,[.t 0],none⟩,
  ⟨some 5,(.bin .neq),[.t 3,.t 4],none⟩,
  ⟨some 2,.mv,[.t 5],none⟩]
def c45 : ACode := (.seq (.region true c45r0 [0]) (.seq (.region true c45r1 [2]) .ret))
def g45 : AFn := ⟨1,[(2,none)],c45,false,[],[],none⟩
theorem tr45 : trFn Try.prog false 45 Try.f45 = some g45 := by kernel_rfl
def c46r0 : List AOper := [
  ⟨some 4,.mv,[.c (.pv none (.int .i64 0))],none⟩,
  ⟨some 5,.mv,[.c (.pv none (.bool false))],none⟩]
def c46r1 : List AOper := [
  ⟨some 6,.mv,[.c (.pv none (.int .i64 0))],none⟩]
def c46r2 : List AOper := [
  ⟨some 7,.mv,[.t 6],none⟩,
  ⟨some 8,.mv,[.t 0],none⟩,
  ⟨some 9,.len,[.t 8],none⟩,
  ⟨some 10,(.bin .lss),[.t 7,.t 9],none⟩]
def c46k3 : ACode := (.cond (.t 10) .skip (.exit 0))
def c46r4 : List AOper := [
  ⟨some 13,.mv,[.t 0],none⟩,
  ⟨some 14,.mv,[.t 6],none⟩,
  ⟨some 15,(.iaddr (some 4)),[.t 13,.t 14],none⟩,
  ⟨some 16,(.load (some 4)),[.t 15],none⟩,
  ⟨some 17,.call,[.c (.pv none (.func (.func 57))),.t 16],none⟩,
  ⟨some 18,.not,[.t 17],none⟩]
def c46r5 : List AOper := [
  ⟨some 19,.mv,[.t 1],none⟩,
  ⟨some 4,.mv,[.t 19],none⟩,
  ⟨some 5,.mv,[.c (.pv none (.bool false))],none⟩]
def c46k6 : ACode := (.cond (.t 18) (.seq (.region true c46r5 [4,5]) .ret) .skip)
def c46r7 : List AOper := [
  ⟨some 20,.mv,[.t 1],none⟩,
  ⟨some 21,.mv,[.t 0],none⟩,
  ⟨some 22,.mv,[.t 6],none⟩,
  ⟨some 23,(.iaddr (some 4)),[.t 21,.t 22],none⟩,
  ⟨some 24,(.load (some 4)),[.t 23],none⟩,
  ⟨some 25,.call,[.c (.pv none (.func (.func 58))),.t 24],none⟩,
  ⟨some 26,(.bin .add),[.t 20,.t 25],none⟩,
  ⟨some 1,.mv,[.t 26],none⟩]
def c46r8 : List AOper := [
  ⟨some 27,.mv,[.t 1],none⟩,
  ⟨some 28,(.bin .gtr),[.t 27,.c (.pv none (.int .i64 131072))],none⟩]
def c46r9 : List AOper := [
  ⟨some 29,.mv,[.t 1],none⟩,
  ⟨some 4,.mv,[.t 29],none⟩,
  ⟨some 5,.mv,[.c (.pv none (.bool false))],none⟩]
def c46k10 : ACode := (.cond (.t 28) (.seq (.region true c46r9 [4,5]) .ret) .skip)
def c46k11 : ACode := (.block 1 (.seq (.seq (.region true c46r4 [0,1,6,18]) c46k6) (.seq (.region true c46r7 [0,1,6]) (.seq (.region true c46r8 [0,1,6,28]) c46k10))))
def c46r12 : List AOper := [
  ⟨some 11,.mv,[.t 6],none⟩,
  ⟨some 12,(.bin .add),[.t 11,.c (.pv none (.int .i64 1))],none⟩,
  ⟨some 6,.mv,[.t 12],none⟩]
def c46b13 : ACode := (.seq (.seq (.region true c46r2 [0,1,6,10]) c46k3) (.seq c46k11 (.region true c46r12 [0,1,6])))
def c46k14 : ACode := (.block 0 (.loop [0,1,6] c46b13))
def c46r15 : List AOper := [
  ⟨some 30,.mv,[.t 1],none⟩,
  ⟨some 4,.mv,[.t 30],none⟩,
  ⟨some 5,.mv,[.c (.pv none (.bool true))],none⟩]
def c46 : ACode := (.seq (.region true c46r0 [0,1]) (.seq (.seq (.region true c46r1 [0,1,6]) c46k14) (.seq (.region true c46r15 [4,5]) .ret)))
def g46 : AFn := ⟨2,[(4,none),(5,none)],c46,false,[],[],none⟩
theorem tr46 : trFn Try.prog false 46 Try.f46 = some g46 := by kernel_rfl
def c47r0 : List AOper := [
  ⟨some 1,(.box (some 3)),[.t 0],none⟩,
  ⟨some 2,.mv,[.c (.pv none (.bool false))],none⟩]
def c47r1 : List AOper := [
  ⟨some 3,(.faddr 2),[.t 1],none⟩,
  ⟨some 4,(.load none),[.t 3],none⟩,
  ⟨some 5,(.bin .eql),[.t 4,.c (.pv none (.int .i64 0))],none⟩]
def c47r2 : List AOper := [
  ⟨some 6,(.faddr 0),[.t 1],none⟩,
  ⟨some 7,(.load none),[.t 6],none⟩,
  ⟨some 8,.slen,[.t 7],none⟩,
  ⟨some 9,(.bin .leq),[.t 8,.c (.pv none (.int .i64 100))],none⟩,
  ⟨some 10,.mv,[.t 9],none⟩,
  ⟨some 11,(.faddr 1),[.t 1],some (10,true)⟩,
  ⟨some 12,(.load none),[.t 11],some (10,true)⟩,
  ⟨some 13,(.bin .geq),[.t 12,.c (.pv none (.int .i64 0))],some (10,true)⟩,
  ⟨some 14,.pick,[.t 10,.t 13,.c (.pv none (.bool false))],none⟩,
  ⟨some 15,.mv,[.t 14],none⟩,
  ⟨some 16,(.faddr 1),[.t 1],some (15,true)⟩,
  ⟨some 17,(.load none),[.t 16],some (15,true)⟩,
  ⟨some 18,(.bin .leq),[.t 17,.c (.pv none (.int .i64 8))],some (15,true)⟩,
  ⟨some 19,.pick,[.t 15,.t 18,.c (.pv none (.bool false))],none⟩,
  ⟨some 2,.mv,[.t 19],none⟩]
def c47k3 : ACode := (.cond (.t 5) (.seq (.region true c47r2 [2]) .ret) .skip)
def c47r4 : List AOper := [
  ⟨some 20,(.faddr 0),[.t 1],none⟩,
  ⟨some 21,(.load none),[.t 20],none⟩,
  ⟨some 22,(.bin .eql),[.t 21,.c (.pv none (.str []))],none⟩,
  ⟨some 23,.mv,[.t 22],none⟩,
  ⟨some 24,(.faddr 2),[.t 1],some (23,true)⟩,
  ⟨some 25,(.load none),[.t 24],some (23,true)⟩,
  ⟨some 26,(.bin .geq),[.t 25,.c (.pv none (.int .i64 1))],some (23,true)⟩,
  ⟨some 27,.pick,[.t 23,.t 26,.c (.pv none (.bool false))],none⟩,
  ⟨some 28,.mv,[.t 27],none⟩,
  ⟨some 29,(.faddr 2),[.t 1],some (28,true)⟩,
  ⟨some 30,(.load none),[.t 29],some (28,true)⟩,
  ⟨some 31,(.bin .leq),[.t 30,.c (.pv none (.int .i64 1099511627776))],some (28,true)⟩,
  ⟨some 32,.pick,[.t 28,.t 31,.c (.pv none (.bool false))],none⟩,
  ⟨some 33,.mv,[.t 32],none⟩,
  ⟨some 34,(.faddr 1),[.t 1],some (33,true)⟩,
  ⟨some 35,(.load none),[.t 34],some (33,true)⟩,
  ⟨some 36,(.bin .geq),[.t 35,.c (.pv none (.int .i64 0))],some (33,true)⟩,
  ⟨some 37,.pick,[.t 33,.t 36,.c (.pv none (.bool false))],none⟩,
  ⟨some 38,.mv,[.t 37],none⟩,
  ⟨some 39,(.faddr 1),[.t 1],some (38,true)⟩,
  ⟨some 40,(.load none),[.t 39],some (38,true)⟩,
  ⟨some 41,(.bin .leq),[.t 40,.c (.pv none (.int .i64 4096))],some (38,true)⟩,
  ⟨some 42,.pick,[.t 38,.t 41,.c (.pv none (.bool false))],none⟩,
  ⟨some 2,.mv,[.t 42],none⟩]
def c47 : ACode := (.seq (.region true c47r0 [1]) (.seq (.seq (.region true c47r1 [1,5]) c47k3) (.seq (.region true c47r4 [2]) .ret)))
def g47 : AFn := ⟨1,[(2,none)],c47,false,[],[],none⟩
theorem tr47 : trFn Try.prog false 47 Try.f47 = some g47 := by kernel_rfl
def c48r0 : List AOper := [
  ⟨some 4,(.box (some 4)),[.t 1],none⟩,
  ⟨some 6,(.nilsl (some 2)),[],none⟩]
def c48r1 : List AOper := [
  ⟨some 8,(.faddr 0),[.t 4],none⟩,
  ⟨some 9,(.load none),[.t 8],none⟩,
  ⟨some 10,(.bin .eql),[.t 9,.c (.pv none (.int .i64 0))],none⟩]
def c48r2 : List AOper := [
  ⟨some 11,.mv,[.t 0],none⟩,
  ⟨some 12,(.faddr 1),[.t 4],none⟩,
  ⟨some 13,(.load none),[.t 12],none⟩,
  ⟨some 14,.mv,[.t 2],none⟩,
  ⟨some 15,(.build [(none,(.pv none (.int .i64 0))),(none,(.pv none (.int .i64 0)))] [0,1]),[.t 13,.t 14],none⟩,
  ⟨some 16,(.bslice (some 2)),[.t 15],none⟩,
  ⟨some 17,(.append (some 2)),[.t 11,.t 16],none⟩,
  ⟨some 6,.mv,[.t 17],none⟩]
def c48k3 : ACode := (.cond (.t 10) (.seq (.region true c48r2 [6]) .ret) .skip)
def c48r4 : List AOper := [
  ⟨some 7,.mv,[.c (.pv none (.int .i64 0))],none⟩]
def c48r5 : List AOper := [
  ⟨some 18,.mv,[.t 7],none⟩,
  ⟨some 19,(.faddr 3),[.t 4],none⟩,
  ⟨some 20,(.load none),[.t 19],none⟩,
  ⟨some 21,.len,[.t 20],none⟩,
  ⟨some 22,(.bin .lss),[.t 18,.t 21],none⟩]
def c48k6 : ACode := (.cond (.t 22) .skip (.exit 0))
def c48r7 : List AOper := [
  ⟨some 25,.mv,[.t 0],none⟩,
  ⟨some 26,(.faddr 3),[.t 4],none⟩,
  ⟨some 27,(.load none),[.t 26],none⟩,
  ⟨some 28,.mv,[.t 7],none⟩,
  ⟨some 29,(.iaddr (some 4)),[.t 27,.t 28],none⟩,
  ⟨some 30,(.load (some 4)),[.t 29],none⟩,
  ⟨some 31,.mv,[.t 2],none⟩,
  ⟨some 32,.call,[.c (.pv none (.func (.func 48))),.t 25,.t 30,.t 31],none⟩,
  ⟨some 0,.mv,[.t 32],none⟩]
def c48k8 : ACode := (.block 1 (.region true c48r7 [0,2,4,7]))
def c48r9 : List AOper := [
  ⟨some 23,.mv,[.t 7],none⟩,
  ⟨some 24,(.bin .add),[.t 23,.c (.pv none (.int .i64 1))],none⟩,
  ⟨some 7,.mv,[.t 24],none⟩]
def c48b10 : ACode := (.seq (.seq (.region true c48r5 [0,2,4,7,22]) c48k6) (.seq c48k8 (.region true c48r9 [0,2,4,7])))
def c48k11 : ACode := (.block 0 (.loop [0,2,4,7] c48b10))
def c48r12 : List AOper := [
  ⟨some 33,.mv,[.t 0],none⟩,
  ⟨some 6,.mv,[.t 33],none⟩]
def c48 : ACode := (.seq (.region true c48r0 [0,2,4]) (.seq (.seq (.region true c48r1 [0,2,4,10]) c48k3) (.seq (.seq (.region true c48r4 [0,2,4,7]) c48k11) (.seq (.region true c48r12 [6]) .ret))))
def g48 : AFn := ⟨3,[(6,none)],c48,true,[],[],none⟩
theorem tr48 : trFn Try.prog true 48 Try.f48 = some g48 := by kernel_rfl
def c49r0 : List AOper := [
  ⟨some 1,(.box (some 4)),[.t 0],none⟩,
  ⟨some 2,.mv,[.c (.pv none (.bool false))],none⟩]
def c49r1 : List AOper := [
  ⟨some 3,(.load (some 4)),[.t 1],none⟩,
  ⟨some 4,.call,[.c (.pv none (.func (.func 50))),.t 3],none⟩,
  ⟨some 5,(.bin .leq),[.t 4,.c (.pv none (.int .i64 2000))],none⟩,
  ⟨some 6,.mv,[.t 5],none⟩,
  ⟨some 7,(.load (some 4)),[.t 1],some (6,true)⟩,
  ⟨some 8,.call,[.c (.pv none (.func (.func 59))),.t 7],some (6,true)⟩,
  ⟨some 9,.pick,[.t 6,.t 8,.c (.pv none (.bool false))],none⟩,
  ⟨some 2,.mv,[.t 9],none⟩]
def c49 : ACode := (.seq (.region true c49r0 [1]) (.seq (.region true c49r1 [2]) .ret))
def g49 : AFn := ⟨1,[(2,none)],c49,false,[],[],none⟩
theorem tr49 : trFn Try.prog false 49 Try.f49 = some g49 := by kernel_rfl
def c50r0 : List AOper := [
  ⟨some 1,(.box (some 4)),[.t 0],none⟩,
  ⟨some 2,.mv,[.c (.pv none (.int .i64 0))],none⟩]
def c50r1 : List AOper := [
  ⟨some 3,(.alloc none (.pv none (.int .i64 0))),[],none⟩,
  ⟨none,(.store none),[.t 3,.c (.pv none (.int .i64 2001))],none⟩]
def c50r2 : List AOper := [
  ⟨some 4,(.alloc none (.pv none .nilfunc)),[],none⟩]
def c50r3 : List AOper := [
  ⟨some 5,(.mkfunc (.func 60) 0),[.t 3,.t 4],none⟩,
  ⟨none,(.store none),[.t 4,.t 5],none⟩]
def c50r4 : List AOper := [
  ⟨some 6,(.load none),[.t 4],none⟩,
  ⟨some 7,(.load (some 4)),[.t 1],none⟩,
  ⟨some 8,.call,[.t 6,.t 7],none⟩]
def c50r5 : List AOper := [
  ⟨some 9,(.load none),[.t 3],none⟩,
  ⟨some 10,(.bin .sub),[.c (.pv none (.int .i64 2001)),.t 9],none⟩,
  ⟨some 2,.mv,[.t 10],none⟩]
def c50 : ACode := (.seq (.region true c50r0 [1]) (.seq (.region true c50r1 [1,3]) (.seq (.region true c50r2 [1,3,4]) (.seq (.region true c50r3 [1,3,4]) (.seq (.region true c50r4 [3]) (.seq (.region true c50r5 [2]) .ret))))))
def g50 : AFn := ⟨1,[(2,none)],c50,false,[],[],none⟩
theorem tr50 : trFn Try.prog false 50 Try.f50 = some g50 := by kernel_rfl
def c51r0 : List AOper := [
  ⟨some 2,(.box (some 4)),[.t 0],none⟩,
  ⟨some 4,(.alloc (some 4) (.agg [(none,(.pv none (.int .i64 0))),(none,(.pv none (.int .i64 0))),(none,(.pv none (.str []))),(none,(.tsl (some 4) []))])),[],none⟩]
def c51r1 : List AOper := [
  ⟨some 8,(.faddr 0),[.t 2],none⟩,
  ⟨some 9,(.load none),[.t 8],none⟩,
  ⟨some 10,(.bin .eql),[.t 9,.c (.pv none (.int .i64 0))],none⟩]
def c51r2 : List AOper := [
  ⟨some 11,.mv,[.t 1],none⟩,
  ⟨some 12,(.load (some 4)),[.t 2],none⟩,
  ⟨some 13,.call,[.t 11,.t 12],none⟩,
  ⟨none,(.store (some 4)),[.t 4,.t 13],none⟩]
def c51k3 : ACode := (.cond (.t 10) (.seq (.region true c51r2 [4]) .ret) .skip)
def c51r4 : List AOper := [
  ⟨some 14,(.faddr 0),[.t 2],none⟩,
  ⟨some 15,(.load none),[.t 14],none⟩,
  ⟨some 16,(.faddr 1),[.t 2],none⟩,
  ⟨some 17,(.load none),[.t 16],none⟩,
  ⟨some 18,(.faddr 2),[.t 2],none⟩,
  ⟨some 19,(.load none),[.t 18],none⟩,
  ⟨some 20,(.build [(none,(.pv none (.int .i64 0))),(none,(.pv none (.int .i64 0))),(none,(.pv none (.str []))),(none,(.tsl (some 4) []))] [0,1,2]),[.t 15,.t 17,.t 19],none⟩,
  ⟨some 5,(.alloc (some 4) (.agg [(none,(.pv none (.int .i64 0))),(none,(.pv none (.int .i64 0))),(none,(.pv none (.str []))),(none,(.tsl (some 4) []))])),[],none⟩,
  ⟨none,(.store (some 4)),[.t 5,.t 20],none⟩]
def c51r5 : List AOper := [
  ⟨some 21,(.faddr 3),[.t 2],none⟩,
  ⟨some 22,(.load none),[.t 21],none⟩,
  ⟨some 23,.len,[.t 22],none⟩,
  ⟨some 24,.mv,[.c (.pv none (.int .i64 0))],none⟩]
def c51r6 : List AOper := [
  ⟨some 25,(.bin .lss),[.t 24,.t 23],none⟩]
def c51k7 : ACode := (.cond (.t 25) .skip (.exit 0))
def c51r8 : List AOper := [
  ⟨some 26,(.iaddr (some 4)),[.t 22,.t 24],none⟩,
  ⟨some 27,(.load (some 4)),[.t 26],none⟩,
  ⟨some 7,(.alloc (some 4) (.agg [(none,(.pv none (.int .i64 0))),(none,(.pv none (.int .i64 0))),(none,(.pv none (.str []))),(none,(.tsl (some 4) []))])),[],none⟩,
  ⟨none,(.store (some 4)),[.t 7,.t 27],none⟩]
def c51r9 : List AOper := [
  ⟨some 28,(.faddr 3),[.t 5],none⟩,
  ⟨some 29,(.load none),[.t 28],none⟩,
  ⟨some 30,(.load (some 4)),[.t 7],none⟩,
  ⟨some 31,.mv,[.t 1],none⟩,
  ⟨some 32,(.calln 1),[.t 28,.c (.pv none (.func (.func 51))),.t 30,.t 31],none⟩,
  ⟨some 33,(.bslicen (some 4) 1),[.t 28,.t 32],none⟩,
  ⟨some 34,(.append (some 4)),[.t 29,.t 33],none⟩,
  ⟨some 35,(.faddr 3),[.t 5],none⟩,
  ⟨none,(.store none),[.t 35,.t 34],none⟩]
def c51k10 : ACode := (.block 1 (.seq (.region true c51r8 [1,4,5,7,22,23,24]) (.region false c51r9 [1,4,5,22,23,24])))
def c51r11 : List AOper := [
  ⟨some 36,(.bin .add),[.t 24,.c (.pv none (.int .i64 1))],none⟩,
  ⟨some 24,.mv,[.t 36],none⟩]
def c51b12 : ACode := (.seq (.region true c51r6 [1,4,5,22,23,24,25]) (.seq c51k7 (.seq c51k10 (.region true c51r11 [1,4,5,22,23,24]))))
def c51k13 : ACode := (.block 0 (.loop [1,4,5,22,23,24] c51b12))
def c51r14 : List AOper := [
  ⟨some 37,(.load (some 4)),[.t 5],none⟩,
  ⟨none,(.store (some 4)),[.t 4,.t 37],none⟩]
def c51 : ACode := (.seq (.region true c51r0 [1,2,4]) (.seq (.seq (.region true c51r1 [1,2,4,10]) c51k3) (.seq (.region true c51r4 [1,2,4,5]) (.seq (.seq (.region true c51r5 [1,4,5,22,23,24]) c51k13) (.seq (.region true c51r14 [4]) .ret)))))
def g51 : AFn := ⟨2,[(4,some (some 4))],c51,true,[],[],none⟩
theorem tr51 : trFn Try.prog true 51 Try.f51 = some g51 := by kernel_rfl
def c52r0 : List AOper := [
  ⟨some 1,(.box (some 4)),[.t 0],none⟩,
  ⟨some 2,(.alloc (some 4) (.agg [(none,(.pv none (.int .i64 0))),(none,(.pv none (.int .i64 0))),(none,(.pv none (.str []))),(none,(.tsl (some 4) []))])),[],none⟩]
def c52r1 : List AOper := [
  ⟨some 3,(.load (some 4)),[.t 1],none⟩,
  ⟨none,(.store (some 4)),[.t 2,.t 3],none⟩]
def c52 : ACode := (.seq (.region true c52r0 [1,2]) (.seq (.region true c52r1 [2]) .ret))
def g52 : AFn := ⟨1,[(2,some (some 4))],c52,true,[],[],none⟩
theorem tr52 : trFn Try.prog true 52 Try.f52 = some g52 := by kernel_rfl
def c55r0 : List AOper := [
  ⟨some 10,.mv,[.t 1],none⟩,
  ⟨some 11,(.bin .add),[.t 10,.c (.pv none (.int .i64 1))],none⟩,
  ⟨some 8,.mv,[.t 11],none⟩]
def c55r1 : List AOper := [
  ⟨some 12,.mv,[.t 8],none⟩,
  ⟨some 13,.mv,[.t 2],none⟩,
  ⟨some 14,(.bin .lss),[.t 12,.t 13],none⟩]
def c55k2 : ACode := (.cond (.t 14) .skip (.exit 0))
def c55r3 : List AOper := [
  ⟨some 17,.mv,[.t 8],none⟩,
  ⟨some 9,.mv,[.t 17],none⟩]
def c55r4 : List AOper := [
  ⟨some 18,.mv,[.t 9],none⟩,
  ⟨some 19,.mv,[.t 1],none⟩,
  ⟨some 20,(.bin .gtr),[.t 18,.t 19],none⟩,
  ⟨some 21,.mv,[.t 20],none⟩,
  ⟨some 22,.mv,[.t 3],some (21,true)⟩,
  ⟨some 23,.mv,[.t 0],some (21,true)⟩,
  ⟨some 24,.mv,[.t 9],some (21,true)⟩,
  ⟨some 25,(.iaddr none),[.t 23,.t 24],some (21,true)⟩,
  ⟨some 26,(.load none),[.t 25],some (21,true)⟩,
  ⟨some 27,.mv,[.t 0],some (21,true)⟩,
  ⟨some 28,.mv,[.t 9],some (21,true)⟩,
  ⟨some 29,(.bin .sub),[.t 28,.c (.pv none (.int .i64 1))],some (21,true)⟩,
  ⟨some 30,(.iaddr none),[.t 27,.t 29],some (21,true)⟩,
  ⟨some 31,(.load none),[.t 30],some (21,true)⟩,
  ⟨some 32,.call,[.t 22,.t 26,.t 31],some (21,true)⟩,
  ⟨some 33,(.bin .lss),[.t 32,.c (.pv none (.int .i64 0))],some (21,true)⟩,
  ⟨some 34,.pick,[.t 21,.t 33,.c (.pv none (.bool false))],none⟩]
def c55k5 : ACode := (.cond (.t 34) .skip (.exit 2))
def c55r6 : List AOper := [
  ⟨some 37,.mv,[.t 0],none⟩,
  ⟨some 38,.mv,[.t 9],none⟩,
  ⟨some 39,.mv,[.t 0],none⟩,
  ⟨some 40,.mv,[.t 9],none⟩,
  ⟨some 41,(.bin .sub),[.t 40,.c (.pv none (.int .i64 1))],none⟩,
  ⟨some 42,.mv,[.t 0],none⟩,
  ⟨some 43,.mv,[.t 9],none⟩,
  ⟨some 44,(.bin .sub),[.t 43,.c (.pv none (.int .i64 1))],none⟩,
  ⟨some 45,(.iaddr none),[.t 42,.t 44],none⟩,
  ⟨some 46,(.load none),[.t 45],none⟩,
  ⟨some 47,.mv,[.t 0],none⟩,
  ⟨some 48,.mv,[.t 9],none⟩,
  ⟨some 49,(.iaddr none),[.t 47,.t 48],none⟩,
  ⟨some 50,(.load none),[.t 49],none⟩,
  ⟨some 51,(.iaddr none),[.t 37,.t 38],none⟩,
  ⟨none,(.store none),[.t 51,.t 46],none⟩,
  ⟨some 52,(.iaddr none),[.t 39,.t 41],none⟩,
  ⟨none,(.store none),[.t 52,.t 50],none⟩]
def c55k7 : ACode := (.block 3 (.region true c55r6 [0,1,2,3,8,9]))
def c55r8 : List AOper := [
  ⟨some 35,.mv,[.t 9],none⟩,
  ⟨some 36,(.bin .sub),[.t 35,.c (.pv none (.int .i64 1))],none⟩,
  ⟨some 9,.mv,[.t 36],none⟩]
def c55b9 : ACode := (.seq (.seq (.region true c55r4 [0,1,2,3,8,9,34]) c55k5) (.seq c55k7 (.region true c55r8 [0,1,2,3,8,9])))
def c55k10 : ACode := (.block 2 (.loop [0,1,2,3,8,9] c55b9))
def c55k11 : ACode := (.block 1 (.seq (.region true c55r3 [0,1,2,3,8,9]) c55k10))
def c55r12 : List AOper := [
  ⟨some 15,.mv,[.t 8],none⟩,
  ⟨some 16,(.bin .add),[.t 15,.c (.pv none (.int .i64 1))],none⟩,
  ⟨some 8,.mv,[.t 16],none⟩]
def c55b13 : ACode := (.seq (.seq (.region true c55r1 [0,1,2,3,8,14]) c55k2) (.seq c55k11 (.region true c55r12 [0,1,2,3,8])))
def c55k14 : ACode := (.block 0 (.loop [0,1,2,3,8] c55b13))
def c55 : ACode := (.seq (.region true c55r0 [0,1,2,3,8]) c55k14)
def g55 : AFn := ⟨4,[],c55,true,[],[],none⟩
theorem tr55 : trFn Try.prog true 55 Try.f55 = some g55 := by kernel_rfl
def c56r0 : List AOper := [
  ⟨some 25,.mv,[.t 2],none⟩,
  ⟨some 26,.mv,[.t 1],none⟩,
  ⟨some 27,(.bin .sub),[.t 25,.t 26],none⟩,
  ⟨some 28,(.bin .eql),[.t 27,.c (.pv none (.int .i64 1))],none⟩]
def c56r1 : List AOper := [
  ⟨some 29,.mv,[.t 2],none⟩,
  ⟨some 10,.mv,[.t 29],none⟩]
def c56r2 : List AOper := [
  ⟨some 30,.mv,[.t 3],none⟩,
  ⟨some 11,.mv,[.t 30],none⟩]
def c56r3 : List AOper := [
  ⟨some 31,.mv,[.t 10],none⟩,
  ⟨some 32,.mv,[.t 11],none⟩,
  ⟨some 33,(.bin .lss),[.t 31,.t 32],none⟩]
def c56k4 : ACode := (.cond (.t 33) .skip (.exit 0))
def c56r5 : List AOper := [
  ⟨some 34,.mv,[.t 10],none⟩,
  ⟨some 35,.mv,[.t 11],none⟩,
  ⟨some 36,(.bin .add),[.t 34,.t 35],none⟩,
  ⟨some 37,(.conv .u64),[.t 36],none⟩,
  ⟨some 38,(.bin .shr),[.t 37,.c (.pv none (.int .u64 1))],none⟩,
  ⟨some 39,(.conv .i64),[.t 38],none⟩,
  ⟨some 12,.mv,[.t 39],none⟩]
def c56r6 : List AOper := [
  ⟨some 40,.mv,[.t 4],none⟩,
  ⟨some 41,.mv,[.t 0],none⟩,
  ⟨some 42,.mv,[.t 12],none⟩,
  ⟨some 43,(.iaddr none),[.t 41,.t 42],none⟩,
  ⟨some 44,(.load none),[.t 43],none⟩,
  ⟨some 45,.mv,[.t 0],none⟩,
  ⟨some 46,.mv,[.t 1],none⟩,
  ⟨some 47,(.iaddr none),[.t 45,.t 46],none⟩,
  ⟨some 48,(.load none),[.t 47],none⟩,
  ⟨some 49,.call,[.t 40,.t 44,.t 48],none⟩,
  ⟨some 50,(.bin .lss),[.t 49,.c (.pv none (.int .i64 0))],none⟩]
def c56r7 : List AOper := [
  ⟨some 51,.mv,[.t 12],none⟩,
  ⟨some 52,(.bin .add),[.t 51,.c (.pv none (.int .i64 1))],none⟩,
  ⟨some 10,.mv,[.t 52],none⟩]
def c56r8 : List AOper := [
  ⟨some 53,.mv,[.t 12],none⟩,
  ⟨some 11,.mv,[.t 53],none⟩]
def c56k9 : ACode := (.cond (.t 50) (.region true c56r7 [0,1,4,10,11]) (.region true c56r8 [0,1,4,10,11]))
def c56k10 : ACode := (.block 1 (.seq (.region true c56r5 [0,1,4,10,11,12]) (.seq (.region true c56r6 [0,1,4,10,11,12,50]) c56k9)))
def c56b11 : ACode := (.seq (.seq (.region true c56r3 [0,1,4,10,11,33]) c56k4) c56k10)
def c56k12 : ACode := (.block 0 (.loop [0,1,4,10,11] c56b11))
def c56r13 : List AOper := [
  ⟨some 54,.mv,[.t 1],none⟩,
  ⟨some 13,.mv,[.t 54],none⟩]
def c56r14 : List AOper := [
  ⟨some 55,.mv,[.t 13],none⟩,
  ⟨some 56,.mv,[.t 10],none⟩,
  ⟨some 57,(.bin .sub),[.t 56,.c (.pv none (.int .i64 1))],none⟩,
  ⟨some 58,(.bin .lss),[.t 55,.t 57],none⟩]
def c56k15 : ACode := (.cond (.t 58) .skip (.exit 2))
def c56r16 : List AOper := [
  ⟨some 61,.mv,[.t 0],none⟩,
  ⟨some 62,.mv,[.t 13],none⟩,
  ⟨some 63,.mv,[.t 0],none⟩,
  ⟨some 64,.mv,[.t 13],none⟩,
  ⟨some 65,(.bin .add),[.t 64,.c (.pv none (.int .i64 1))],none⟩,
  ⟨some 66,.mv,[.t 0],none⟩,
  ⟨some 67,.mv,[.t 13],none⟩,
  ⟨some 68,(.bin .add),[.t 67,.c (.pv none (.int .i64 1))],none⟩,
  ⟨some 69,(.iaddr none),[.t 66,.t 68],none⟩,
  ⟨some 70,(.load none),[.t 69],none⟩,
  ⟨some 71,.mv,[.t 0],none⟩,
  ⟨some 72,.mv,[.t 13],none⟩,
  ⟨some 73,(.iaddr none),[.t 71,.t 72],none⟩,
  ⟨some 74,(.load none),[.t 73],none⟩,
  ⟨some 75,(.iaddr none),[.t 61,.t 62],none⟩,
  ⟨none,(.store none),[.t 75,.t 70],none⟩,
  ⟨some 76,(.iaddr none),[.t 63,.t 65],none⟩,
  ⟨none,(.store none),[.t 76,.t 74],none⟩]
def c56k17 : ACode := (.block 3 (.region true c56r16 [0,10,13]))
def c56r18 : List AOper := [
  ⟨some 59,.mv,[.t 13],none⟩,
  ⟨some 60,(.bin .add),[.t 59,.c (.pv none (.int .i64 1))],none⟩,
  ⟨some 13,.mv,[.t 60],none⟩]
def c56b19 : ACode := (.seq (.seq (.region true c56r14 [0,10,13,58]) c56k15) (.seq c56k17 (.region true c56r18 [0,10,13])))
def c56k20 : ACode := (.block 2 (.loop [0,10,13] c56b19))
def c56k21 : ACode := (.cond (.t 28) (.seq (.region true c56r1 [0,1,3,4,10]) (.seq (.region true c56r2 [0,1,4,10,11]) (.seq c56k12 (.seq (.seq (.region true c56r13 [0,10,13]) c56k20) .ret)))) .skip)
def c56r22 : List AOper := [
  ⟨some 77,.mv,[.t 3],none⟩,
  ⟨some 78,.mv,[.t 2],none⟩,
  ⟨some 79,(.bin .sub),[.t 77,.t 78],none⟩,
  ⟨some 80,(.bin .eql),[.t 79,.c (.pv none (.int .i64 1))],none⟩]
def c56r23 : List AOper := [
  ⟨some 81,.mv,[.t 1],none⟩,
  ⟨some 14,.mv,[.t 81],none⟩]
def c56r24 : List AOper := [
  ⟨some 82,.mv,[.t 2],none⟩,
  ⟨some 15,.mv,[.t 82],none⟩]
def c56r25 : List AOper := [
  ⟨some 83,.mv,[.t 14],none⟩,
  ⟨some 84,.mv,[.t 15],none⟩,
  ⟨some 85,(.bin .lss),[.t 83,.t 84],none⟩]
def c56k26 : ACode := (.cond (.t 85) .skip (.exit 4))
def c56r27 : List AOper := [
  ⟨some 86,.mv,[.t 14],none⟩,
  ⟨some 87,.mv,[.t 15],none⟩,
  ⟨some 88,(.bin .add),[.t 86,.t 87],none⟩,
  ⟨some 89,(.conv .u64),[.t 88],none⟩,
  ⟨some 90,(.bin .shr),[.t 89,.c (.pv none (.int .u64 1))],none⟩,
  ⟨some 91,(.conv .i64),[.t 90],none⟩,
  ⟨some 16,.mv,[.t 91],none⟩]
def c56r28 : List AOper := [
  ⟨some 92,.mv,[.t 4],none⟩,
  ⟨some 93,.mv,[.t 0],none⟩,
  ⟨some 94,.mv,[.t 2],none⟩,
  ⟨some 95,(.iaddr none),[.t 93,.t 94],none⟩,
  ⟨some 96,(.load none),[.t 95],none⟩,
  ⟨some 97,.mv,[.t 0],none⟩,
  ⟨some 98,.mv,[.t 16],none⟩,
  ⟨some 99,(.iaddr none),[.t 97,.t 98],none⟩,
  ⟨some 100,(.load none),[.t 99],none⟩,
  ⟨some 101,.call,[.t 92,.t 96,.t 100],none⟩,
  ⟨some 102,(.bin .lss),[.t 101,.c (.pv none (.int .i64 0))],none⟩,
  ⟨some 103,.not,[.t 102],none⟩]
def c56r29 : List AOper := [
  ⟨some 104,.mv,[.t 16],none⟩,
  ⟨some 105,(.bin .add),[.t 104,.c (.pv none (.int .i64 1))],none⟩,
  ⟨some 14,.mv,[.t 105],none⟩]
def c56r30 : List AOper := [
  ⟨some 106,.mv,[.t 16],none⟩,
  ⟨some 15,.mv,[.t 106],none⟩]
def c56k31 : ACode := (.cond (.t 103) (.region true c56r29 [0,2,4,14,15]) (.region true c56r30 [0,2,4,14,15]))
def c56k32 : ACode := (.block 5 (.seq (.region true c56r27 [0,2,4,14,15,16]) (.seq (.region true c56r28 [0,2,4,14,15,16,103]) c56k31)))
def c56b33 : ACode := (.seq (.seq (.region true c56r25 [0,2,4,14,15,85]) c56k26) c56k32)
def c56k34 : ACode := (.block 4 (.loop [0,2,4,14,15] c56b33))
def c56r35 : List AOper := [
  ⟨some 107,.mv,[.t 2],none⟩,
  ⟨some 17,.mv,[.t 107],none⟩]
def c56r36 : List AOper := [
  ⟨some 108,.mv,[.t 17],none⟩,
  ⟨some 109,.mv,[.t 14],none⟩,
  ⟨some 110,(.bin .gtr),[.t 108,.t 109],none⟩]
def c56k37 : ACode := (.cond (.t 110) .skip (.exit 6))
def c56r38 : List AOper := [
  ⟨some 113,.mv,[.t 0],none⟩,
  ⟨some 114,.mv,[.t 17],none⟩,
  ⟨some 115,.mv,[.t 0],none⟩,
  ⟨some 116,.mv,[.t 17],none⟩,
  ⟨some 117,(.bin .sub),[.t 116,.c (.pv none (.int .i64 1))],none⟩,
  ⟨some 118,.mv,[.t 0],none⟩,
  ⟨some 119,.mv,[.t 17],none⟩,
  ⟨some 120,(.bin .sub),[.t 119,.c (.pv none (.int .i64 1))],none⟩,
  ⟨some 121,(.iaddr none),[.t 118,.t 120],none⟩,
  ⟨some 122,(.load none),[.t 121],none⟩,
  ⟨some 123,.mv,[.t 0],none⟩,
  ⟨some 124,.mv,[.t 17],none⟩,
  ⟨some 125,(.iaddr none),[.t 123,.t 124],none⟩,
  ⟨some 126,(.load none),[.t 125],none⟩,
  ⟨some 127,(.iaddr none),[.t 113,.t 114],none⟩,
  ⟨none,(.store none),[.t 127,.t 122],none⟩,
  ⟨some 128,(.iaddr none),[.t 115,.t 117],none⟩,
  ⟨none,(.store none),[.t 128,.t 126],none⟩]
def c56k39 : ACode := (.block 7 (.region true c56r38 [0,14,17]))
def c56r40 : List AOper := [
  ⟨some 111,.mv,[.t 17],none⟩,
  ⟨some 112,(.bin .sub),[.t 111,.c (.pv none (.int .i64 1))],none⟩,
  ⟨some 17,.mv,[.t 112],none⟩]
def c56b41 : ACode := (.seq (.seq (.region true c56r36 [0,14,17,110]) c56k37) (.seq c56k39 (.region true c56r40 [0,14,17])))
def c56k42 : ACode := (.block 6 (.loop [0,14,17] c56b41))
def c56k43 : ACode := (.cond (.t 80) (.seq (.region true c56r23 [0,2,4,14]) (.seq (.region true c56r24 [0,2,4,14,15]) (.seq c56k34 (.seq (.seq (.region true c56r35 [0,14,17]) c56k42) .ret)))) .skip)
def c56r44 : List AOper := [
  ⟨some 129,.mv,[.t 1],none⟩,
  ⟨some 130,.mv,[.t 3],none⟩,
  ⟨some 131,(.bin .add),[.t 129,.t 130],none⟩,
  ⟨some 132,(.conv .u64),[.t 131],none⟩,
  ⟨some 133,(.bin .shr),[.t 132,.c (.pv none (.int .u64 1))],none⟩,
  ⟨some 134,(.conv .i64),[.t 133],none⟩,
  ⟨some 18,.mv,[.t 134],none⟩]
def c56r45 : List AOper := [
  ⟨some 135,.mv,[.t 18],none⟩,
  ⟨some 136,.mv,[.t 2],none⟩,
  ⟨some 137,(.bin .add),[.t 135,.t 136],none⟩,
  ⟨some 19,.mv,[.t 137],none⟩]
def c56r46 : List AOper := [
  ⟨some 20,.mv,[.c (.pv none (.int .i64 0))],none⟩,
  ⟨some 21,.mv,[.c (.pv none (.int .i64 0))],none⟩]
def c56r47 : List AOper := [
  ⟨some 138,.mv,[.t 2],none⟩,
  ⟨some 139,.mv,[.t 18],none⟩,
  ⟨some 140,(.bin .gtr),[.t 138,.t 139],none⟩]
def c56r48 : List AOper := [
  ⟨some 141,.mv,[.t 19],none⟩,
  ⟨some 142,.mv,[.t 3],none⟩,
  ⟨some 143,(.bin .sub),[.t 141,.t 142],none⟩,
  ⟨some 20,.mv,[.t 143],none⟩]
def c56r49 : List AOper := [
  ⟨some 144,.mv,[.t 18],none⟩,
  ⟨some 21,.mv,[.t 144],none⟩]
def c56r50 : List AOper := [
  ⟨some 145,.mv,[.t 1],none⟩,
  ⟨some 20,.mv,[.t 145],none⟩]
def c56r51 : List AOper := [
  ⟨some 146,.mv,[.t 2],none⟩,
  ⟨some 21,.mv,[.t 146],none⟩]
def c56k52 : ACode := (.cond (.t 140) (.seq (.region true c56r48 [0,1,2,3,4,18,19,20]) (.region true c56r49 [0,1,2,3,4,18,19,20,21])) (.seq (.region true c56r50 [0,1,2,3,4,18,19,20]) (.region true c56r51 [0,1,2,3,4,18,19,20,21])))
def c56r53 : List AOper := [
  ⟨some 147,.mv,[.t 19],none⟩,
  ⟨some 148,(.bin .sub),[.t 147,.c (.pv none (.int .i64 1))],none⟩,
  ⟨some 22,.mv,[.t 148],none⟩]
def c56r54 : List AOper := [
  ⟨some 149,.mv,[.t 20],none⟩,
  ⟨some 150,.mv,[.t 21],none⟩,
  ⟨some 151,(.bin .lss),[.t 149,.t 150],none⟩]
def c56k55 : ACode := (.cond (.t 151) .skip (.exit 8))
def c56r56 : List AOper := [
  ⟨some 152,.mv,[.t 20],none⟩,
  ⟨some 153,.mv,[.t 21],none⟩,
  ⟨some 154,(.bin .add),[.t 152,.t 153],none⟩,
  ⟨some 155,(.conv .u64),[.t 154],none⟩,
  ⟨some 156,(.bin .shr),[.t 155,.c (.pv none (.int .u64 1))],none⟩,
  ⟨some 157,(.conv .i64),[.t 156],none⟩,
  ⟨some 23,.mv,[.t 157],none⟩]
def c56r57 : List AOper := [
  ⟨some 158,.mv,[.t 4],none⟩,
  ⟨some 159,.mv,[.t 0],none⟩,
  ⟨some 160,.mv,[.t 22],none⟩,
  ⟨some 161,.mv,[.t 23],none⟩,
  ⟨some 162,(.bin .sub),[.t 160,.t 161],none⟩,
  ⟨some 163,(.iaddr none),[.t 159,.t 162],none⟩,
  ⟨some 164,(.load none),[.t 163],none⟩,
  ⟨some 165,.mv,[.t 0],none⟩,
  ⟨some 166,.mv,[.t 23],none⟩,
  ⟨some 167,(.iaddr none),[.t 165,.t 166],none⟩,
  ⟨some 168,(.load none),[.t 167],none⟩,
  ⟨some 169,.call,[.t 158,.t 164,.t 168],none⟩,
  ⟨some 170,(.bin .lss),[.t 169,.c (.pv none (.int .i64 0))],none⟩,
  ⟨some 171,.not,[.t 170],none⟩]
def c56r58 : List AOper := [
  ⟨some 172,.mv,[.t 23],none⟩,
  ⟨some 173,(.bin .add),[.t 172,.c (.pv none (.int .i64 1))],none⟩,
  ⟨some 20,.mv,[.t 173],none⟩]
def c56r59 : List AOper := [
  ⟨some 174,.mv,[.t 23],none⟩,
  ⟨some 21,.mv,[.t 174],none⟩]
def c56k60 : ACode := (.cond (.t 171) (.region true c56r58 [0,1,2,3,4,18,19,20,21,22]) (.region true c56r59 [0,1,2,3,4,18,19,20,21,22]))
def c56k61 : ACode := (.block 9 (.seq (.region true c56r56 [0,1,2,3,4,18,19,20,21,22,23]) (.seq (.region true c56r57 [0,1,2,3,4,18,19,20,21,22,23,171]) c56k60)))
def c56b62 : ACode := (.seq (.seq (.region true c56r54 [0,1,2,3,4,18,19,20,21,22,151]) c56k55) c56k61)
def c56k63 : ACode := (.block 8 (.loop [0,1,2,3,4,18,19,20,21,22] c56b62))
def c56r64 : List AOper := [
  ⟨some 175,.mv,[.t 19],none⟩,
  ⟨some 176,.mv,[.t 20],none⟩,
  ⟨some 177,(.bin .sub),[.t 175,.t 176],none⟩,
  ⟨some 24,.mv,[.t 177],none⟩]
def c56r65 : List AOper := [
  ⟨some 178,.mv,[.t 20],none⟩,
  ⟨some 179,.mv,[.t 2],none⟩,
  ⟨some 180,(.bin .lss),[.t 178,.t 179],none⟩,
  ⟨some 181,.mv,[.t 180],none⟩,
  ⟨some 182,.mv,[.t 2],some (181,true)⟩,
  ⟨some 183,.mv,[.t 24],some (181,true)⟩,
  ⟨some 184,(.bin .lss),[.t 182,.t 183],some (181,true)⟩,
  ⟨some 185,.pick,[.t 181,.t 184,.c (.pv none (.bool false))],none⟩]
def c56r66 : List AOper := [
  ⟨some 186,.mv,[.t 0],none⟩,
  ⟨some 187,.mv,[.t 20],none⟩,
  ⟨some 188,.mv,[.t 2],none⟩,
  ⟨some 189,.mv,[.t 24],none⟩,
  ⟨some 190,.mv,[.t 4],none⟩,
  ⟨some 191,.call,[.c (.pv none (.func (.func 62))),.t 186,.t 187,.t 188,.t 189,.t 190],none⟩]
def c56k67 : ACode := (.cond (.t 185) (.region true c56r66 [0,1,3,4,18,20,24]) .skip)
def c56r68 : List AOper := [
  ⟨some 192,.mv,[.t 1],none⟩,
  ⟨some 193,.mv,[.t 20],none⟩,
  ⟨some 194,(.bin .lss),[.t 192,.t 193],none⟩,
  ⟨some 195,.mv,[.t 194],none⟩,
  ⟨some 196,.mv,[.t 20],some (195,true)⟩,
  ⟨some 197,.mv,[.t 18],some (195,true)⟩,
  ⟨some 198,(.bin .lss),[.t 196,.t 197],some (195,true)⟩,
  ⟨some 199,.pick,[.t 195,.t 198,.c (.pv none (.bool false))],none⟩]
def c56r69 : List AOper := [
  ⟨some 200,.mv,[.t 0],none⟩,
  ⟨some 201,.mv,[.t 1],none⟩,
  ⟨some 202,.mv,[.t 20],none⟩,
  ⟨some 203,.mv,[.t 18],none⟩,
  ⟨some 204,.mv,[.t 4],none⟩,
  ⟨some 205,.call,[.c (.pv none (.func (.func 56))),.t 200,.t 201,.t 202,.t 203,.t 204],none⟩]
def c56k70 : ACode := (.cond (.t 199) (.region true c56r69 [0,3,4,18,24]) .skip)
def c56r71 : List AOper := [
  ⟨some 206,.mv,[.t 18],none⟩,
  ⟨some 207,.mv,[.t 24],none⟩,
  ⟨some 208,(.bin .lss),[.t 206,.t 207],none⟩,
  ⟨some 209,.mv,[.t 208],none⟩,
  ⟨some 210,.mv,[.t 24],some (209,true)⟩,
  ⟨some 211,.mv,[.t 3],some (209,true)⟩,
  ⟨some 212,(.bin .lss),[.t 210,.t 211],some (209,true)⟩,
  ⟨some 213,.pick,[.t 209,.t 212,.c (.pv none (.bool false))],none⟩]
def c56r72 : List AOper := [
  ⟨some 214,.mv,[.t 0],none⟩,
  ⟨some 215,.mv,[.t 18],none⟩,
  ⟨some 216,.mv,[.t 24],none⟩,
  ⟨some 217,.mv,[.t 3],none⟩,
  ⟨some 218,.mv,[.t 4],none⟩,
  ⟨some 219,.call,[.c (.pv none (.func (.func 56))),.t 214,.t 215,.t 216,.t 217,.t 218],none⟩]
def c56k73 : ACode := (.cond (.t 213) (.region true c56r72 []) .skip)
def c56 : ACode := (.seq (.seq (.region true c56r0 [0,1,2,3,4,28]) c56k21) (.seq (.seq (.region true c56r22 [0,1,2,3,4,80]) c56k43) (.seq (.region true c56r44 [0,1,2,3,4,18]) (.seq (.region true c56r45 [0,1,2,3,4,18,19]) (.seq (.region true c56r46 [0,1,2,3,4,18,19]) (.seq (.seq (.region true c56r47 [0,1,2,3,4,18,19,140]) c56k52) (.seq (.region true c56r53 [0,1,2,3,4,18,19,20,21,22]) (.seq c56k63 (.seq (.region true c56r64 [0,1,2,3,4,18,20,24]) (.seq (.seq (.region true c56r65 [0,1,2,3,4,18,20,24,185]) c56k67) (.seq (.seq (.region true c56r68 [0,1,3,4,18,20,24,199]) c56k70) (.seq (.region true c56r71 [0,3,4,18,24,213]) c56k73))))))))))))
def g56 : AFn := ⟨5,[],c56,true,[],[],none⟩
theorem tr56 : trFn Try.prog true 56 Try.f56 = some g56 := by kernel_rfl
def c57r0 : List AOper := [
  ⟨some 1,(.box (some 4)),[.t 0],none⟩,
  ⟨some 2,.mv,[.c (.pv none (.bool false))],none⟩]
def c57r1 : List AOper := [
  ⟨some 3,(.load (some 4)),[.t 1],none⟩,
  ⟨some 4,.call,[.c (.pv none (.func (.func 58))),.t 3],none⟩,
  ⟨some 5,(.bin .leq),[.t 4,.c (.pv none (.int .i64 2000))],none⟩,
  ⟨some 6,.mv,[.t 5],none⟩,
  ⟨some 7,(.load (some 4)),[.t 1],some (6,true)⟩,
  ⟨some 8,.call,[.c (.pv none (.func (.func 63))),.t 7],some (6,true)⟩,
  ⟨some 9,.pick,[.t 6,.t 8,.c (.pv none (.bool false))],none⟩,
  ⟨some 2,.mv,[.t 9],none⟩]
def c57 : ACode := (.seq (.region true c57r0 [1]) (.seq (.region true c57r1 [2]) .ret))
def g57 : AFn := ⟨1,[(2,none)],c57,false,[],[],none⟩
theorem tr57 : trFn Try.prog false 57 Try.f57 = some g57 := by kernel_rfl
def c58r0 : List AOper := [
  ⟨some 1,(.box (some 4)),[.t 0],none⟩,
  ⟨some 2,.mv,[.c (.pv none (.int .i64 0))],none⟩]
def c58r1 : List AOper := [
  ⟨some 3,(.load (some 4)),[.t 1],none⟩,
  ⟨some 4,.call,[.c (.pv none (.func (.func 64))),.t 3,.c (.pv none (.int .i64 2001))],none⟩,
  ⟨some 2,.mv,[.t 4],none⟩]
def c58 : ACode := (.seq (.region true c58r0 [1]) (.seq (.region true c58r1 [2]) .ret))
def g58 : AFn := ⟨1,[(2,none)],c58,false,[],[],none⟩
theorem tr58 : trFn Try.prog false 58 Try.f58 = some g58 := by kernel_rfl
def c59r0 : List AOper := [
  ⟨some 1,(.box (some 4)),[.t 0],none⟩,
  ⟨some 2,.mv,[.c (.pv none (.bool false))],none⟩]
def c59r1 : List AOper := [
  ⟨some 3,.mv,[.c (.pv none (.bool false))],none⟩]
def c59r2 : List AOper := [
  ⟨some 5,(.faddr 0),[.t 1],none⟩,
  ⟨some 6,(.load none),[.t 5],none⟩]
def c59r3 : List AOper := [
  ⟨some 8,(.bin .eql),[.t 6,.c (.pv none (.int .i64 0))],none⟩,
  ⟨some 7,.mv,[.t 8],none⟩]
def c59r4 : List AOper := [
  ⟨some 9,(.faddr 1),[.t 1],none⟩,
  ⟨some 10,(.load none),[.t 9],none⟩,
  ⟨some 11,(.bin .geq),[.t 10,.c (.pv none (.int .i64 0))],none⟩,
  ⟨some 12,.mv,[.t 11],none⟩,
  ⟨some 13,(.faddr 1),[.t 1],some (12,true)⟩,
  ⟨some 14,(.load none),[.t 13],some (12,true)⟩,
  ⟨some 15,(.bin .leq),[.t 14,.c (.pv none (.int .i64 1099511627776))],some (12,true)⟩,
  ⟨some 16,.pick,[.t 12,.t 15,.c (.pv none (.bool false))],none⟩,
  ⟨some 17,.mv,[.t 16],none⟩,
  ⟨some 18,(.faddr 2),[.t 1],some (17,true)⟩,
  ⟨some 19,(.load none),[.t 18],some (17,true)⟩,
  ⟨some 20,(.bin .eql),[.t 19,.c (.pv none (.str []))],some (17,true)⟩,
  ⟨some 21,.pick,[.t 17,.t 20,.c (.pv none (.bool false))],none⟩,
  ⟨some 22,.mv,[.t 21],none⟩,
  ⟨some 23,(.faddr 3),[.t 1],some (22,true)⟩,
  ⟨some 24,(.load none),[.t 23],some (22,true)⟩,
  ⟨some 25,.len,[.t 24],some (22,true)⟩,
  ⟨some 26,(.bin .eql),[.t 25,.c (.pv none (.int .i64 0))],some (22,true)⟩,
  ⟨some 27,.pick,[.t 22,.t 26,.c (.pv none (.bool false))],none⟩,
  ⟨some 3,.mv,[.t 27],none⟩]
def c59r5 : List AOper := [
  ⟨some 29,(.bin .eql),[.t 6,.c (.pv none (.int .i64 1))],none⟩,
  ⟨some 28,.mv,[.t 29],none⟩]
def c59r6 : List AOper := [
  ⟨some 30,(.faddr 2),[.t 1],none⟩,
  ⟨some 31,(.load none),[.t 30],none⟩,
  ⟨some 32,(.bin .eql),[.t 31,.c (.pv none (.str []))],none⟩,
  ⟨some 33,.mv,[.t 32],none⟩,
  ⟨some 34,(.faddr 3),[.t 1],some (33,true)⟩,
  ⟨some 35,(.load none),[.t 34],some (33,true)⟩,
  ⟨some 36,.len,[.t 35],some (33,true)⟩,
  ⟨some 37,(.bin .eql),[.t 36,.c (.pv none (.int .i64 0))],some (33,true)⟩,
  ⟨some 38,.pick,[.t 33,.t 37,.c (.pv none (.bool false))],none⟩,
  ⟨some 3,.mv,[.t 38],none⟩]
def c59r7 : List AOper := [
  ⟨some 40,(.bin .eql),[.t 6,.c (.pv none (.int .i64 2))],none⟩,
  ⟨some 39,.mv,[.t 40],none⟩]
def c59r8 : List AOper := [
  ⟨some 41,(.faddr 1),[.t 1],none⟩,
  ⟨some 42,(.load none),[.t 41],none⟩,
  ⟨some 43,(.bin .eql),[.t 42,.c (.pv none (.int .i64 0))],none⟩,
  ⟨some 44,.mv,[.t 43],none⟩,
  ⟨some 45,(.faddr 2),[.t 1],some (44,true)⟩,
  ⟨some 46,(.load none),[.t 45],some (44,true)⟩,
  ⟨some 47,.slen,[.t 46],some (44,true)⟩,
  ⟨some 48,(.bin .leq),[.t 47,.c (.pv none (.int .i64 100))],some (44,true)⟩,
  ⟨some 49,.pick,[.t 44,.t 48,.c (.pv none (.bool false))],none⟩,
  ⟨some 50,.mv,[.t 49],none⟩,
  ⟨some 51,(.faddr 3),[.t 1],some (50,true)⟩,
  ⟨some 52,(.load none),[.t 51],some (50,true)⟩,
  ⟨some 53,.len,[.t 52],some (50,true)⟩,
  ⟨some 54,(.bin .eql),[.t 53,.c (.pv none (.int .i64 0))],some (50,true)⟩,
  ⟨some 55,.pick,[.t 50,.t 54,.c (.pv none (.bool false))],none⟩,
  ⟨some 3,.mv,[.t 55],none⟩]
def c59r9 : List AOper := [
  ⟨some 57,(.bin .eql),[.t 6,.c (.pv none (.int .i64 3))],none⟩,
  ⟨some 56,.mv,[.t 57],none⟩]
def c59r10 : List AOper := [
  ⟨some 58,(.faddr 1),[.t 1],none⟩,
  ⟨some 59,(.load none),[.t 58],none⟩,
  ⟨some 60,(.bin .eql),[.t 59,.c (.pv none (.int .i64 0))],none⟩,
  ⟨some 61,.mv,[.t 60],none⟩,
  ⟨some 62,(.faddr 2),[.t 1],some (61,true)⟩,
  ⟨some 63,(.load none),[.t 62],some (61,true)⟩,
  ⟨some 64,.slen,[.t 63],some (61,true)⟩,
  ⟨some 65,(.bin .leq),[.t 64,.c (.pv none (.int .i64 100))],some (61,true)⟩,
  ⟨some 66,.pick,[.t 61,.t 65,.c (.pv none (.bool false))],none⟩,
  ⟨some 67,.mv,[.t 66],none⟩,
  ⟨some 68,(.faddr 3),[.t 1],some (67,true)⟩,
  ⟨some 69,(.load none),[.t 68],some (67,true)⟩,
  ⟨some 70,.len,[.t 69],some (67,true)⟩,
  ⟨some 71,(.bin .gtr),[.t 70,.c (.pv none (.int .i64 0))],some (67,true)⟩,
  ⟨some 72,.pick,[.t 67,.t 71,.c (.pv none (.bool false))],none⟩,
  ⟨some 73,.mv,[.t 72],none⟩,
  ⟨some 74,(.faddr 3),[.t 1],some (73,true)⟩,
  ⟨some 75,(.load none),[.t 74],some (73,true)⟩,
  ⟨some 76,.len,[.t 75],some (73,true)⟩,
  ⟨some 77,(.bin .leq),[.t 76,.c (.pv none (.int .i64 8))],some (73,true)⟩,
  ⟨some 78,.pick,[.t 73,.t 77,.c (.pv none (.bool false))],none⟩,
  ⟨some 3,.mv,[.t 78],none⟩]
def c59k11 : ACode := (.cond (.t 56) (.region true c59r10 [1,3]) .skip)
def c59k12 : ACode := (.cond (.t 39) (.region true c59r8 [1,3]) (.seq (.region true c59r9 [1,3,56]) c59k11))
def c59k13 : ACode := (.cond (.t 28) (.region true c59r6 [1,3]) (.seq (.region true c59r7 [1,3,6,39]) c59k12))
def c59k14 : ACode := (.cond (.t 7) (.region true c59r4 [1,3]) (.seq (.region true c59r5 [1,3,6,28]) c59k13))
def c59k15 : ACode := (.block 0 (.seq (.region true c59r3 [1,3,6,7]) c59k14))
def c59r16 : List AOper := [
  ⟨some 4,.mv,[.c (.pv none (.int .i64 0))],none⟩]
def c59r17 : List AOper := [
  ⟨some 79,.mv,[.t 4],none⟩,
  ⟨some 80,(.faddr 3),[.t 1],none⟩,
  ⟨some 81,(.load none),[.t 80],none⟩,
  ⟨some 82,.len,[.t 81],none⟩,
  ⟨some 83,(.bin .lss),[.t 79,.t 82],none⟩,
  ⟨some 84,.mv,[.t 83],none⟩,
  ⟨some 85,.mv,[.t 3],some (84,true)⟩,
  ⟨some 86,.pick,[.t 84,.t 85,.c (.pv none (.bool false))],none⟩]
def c59k18 : ACode := (.cond (.t 86) .skip (.exit 1))
def c59r19 : List AOper := [
  ⟨some 89,(.faddr 3),[.t 1],none⟩,
  ⟨some 90,(.load none),[.t 89],none⟩,
  ⟨some 91,.mv,[.t 4],none⟩,
  ⟨some 92,(.iaddr (some 4)),[.t 90,.t 91],none⟩,
  ⟨some 93,(.load (some 4)),[.t 92],none⟩,
  ⟨some 94,.call,[.c (.pv none (.func (.func 59))),.t 93],none⟩,
  ⟨some 3,.mv,[.t 94],none⟩]
def c59k20 : ACode := (.block 2 (.region true c59r19 [1,3,4]))
def c59r21 : List AOper := [
  ⟨some 87,.mv,[.t 4],none⟩,
  ⟨some 88,(.bin .add),[.t 87,.c (.pv none (.int .i64 1))],none⟩,
  ⟨some 4,.mv,[.t 88],none⟩]
def c59b22 : ACode := (.seq (.seq (.region true c59r17 [1,3,4,86]) c59k18) (.seq c59k20 (.region true c59r21 [1,3,4])))
def c59k23 : ACode := (.block 1 (.loop [1,3,4] c59b22))
def c59r24 : List AOper := [
  ⟨some 95,.mv,[.t 3],none⟩,
  ⟨some 2,.mv,[.t 95],none⟩]
def c59 : ACode := (.seq (.region true c59r0 [1]) (.seq (.region true c59r1 [1,3]) (.seq (.seq (.region true c59r2 [1,3,6]) c59k15) (.seq (.seq (.region true c59r16 [1,3,4]) c59k23) (.seq (.region true c59r24 [2]) .ret)))))
def g59 : AFn := ⟨1,[(2,none)],c59,false,[],[],none⟩
theorem tr59 : trFn Try.prog false 59 Try.f59 = some g59 := by kernel_rfl
def c60r0 : List AOper := [
  ⟨some 3,(.box (some 4)),[.t 0],none⟩]
def c60r1 : List AOper := [
  ⟨some 5,(.load none),[.t 1],none⟩,
  ⟨some 6,(.bin .sub),[.t 5,.c (.pv none (.int .i64 1))],none⟩,
  ⟨none,(.store none),[.t 1,.t 6],none⟩]
def c60r2 : List AOper := [
  ⟨some 4,.mv,[.c (.pv none (.int .i64 0))],none⟩]
def c60r3 : List AOper := [
  ⟨some 7,.mv,[.t 4],none⟩,
  ⟨some 8,(.faddr 3),[.t 3],none⟩,
  ⟨some 9,(.load none),[.t 8],none⟩,
  ⟨some 10,.len,[.t 9],none⟩,
  ⟨some 11,(.bin .lss),[.t 7,.t 10],none⟩,
  ⟨some 12,.mv,[.t 11],none⟩,
  ⟨some 13,(.load none),[.t 1],some (12,true)⟩,
  ⟨some 14,(.bin .gtr),[.t 13,.c (.pv none (.int .i64 0))],some (12,true)⟩,
  ⟨some 15,.pick,[.t 12,.t 14,.c (.pv none (.bool false))],none⟩]
def c60k4 : ACode := (.cond (.t 15) .skip (.exit 0))
def c60r5 : List AOper := [
  ⟨some 18,(.load none),[.t 2],none⟩,
  ⟨some 19,(.faddr 3),[.t 3],none⟩,
  ⟨some 20,(.load none),[.t 19],none⟩,
  ⟨some 21,.mv,[.t 4],none⟩,
  ⟨some 22,(.iaddr (some 4)),[.t 20,.t 21],none⟩,
  ⟨some 23,(.load (some 4)),[.t 22],none⟩,
  ⟨some 24,.call,[.t 18,.t 23],none⟩]
def c60k6 : ACode := (.block 1 (.region true c60r5 [1,2,3,4]))
def c60r7 : List AOper := [
  ⟨some 16,.mv,[.t 4],none⟩,
  ⟨some 17,(.bin .add),[.t 16,.c (.pv none (.int .i64 1))],none⟩,
  ⟨some 4,.mv,[.t 17],none⟩]
def c60b8 : ACode := (.seq (.seq (.region true c60r3 [1,2,3,4,15]) c60k4) (.seq c60k6 (.region true c60r7 [1,2,3,4])))
def c60k9 : ACode := (.block 0 (.loop [1,2,3,4] c60b8))
def c60 : ACode := (.seq (.region true c60r0 [1,2,3]) (.seq (.region true c60r1 [1,2,3]) (.seq (.region true c60r2 [1,2,3,4]) c60k9)))
def g60 : AFn := ⟨3,[],c60,true,[],[],none⟩
theorem tr60 : trFn Try.prog true 60 Try.f60 = some g60 := by kernel_rfl
def c62r0 : List AOper := [
  ⟨some 12,.mv,[.t 2],none⟩,
  ⟨some 13,.mv,[.t 1],none⟩,
  ⟨some 14,(.bin .sub),[.t 12,.t 13],none⟩,
  ⟨some 10,.mv,[.t 14],none⟩]
def c62r1 : List AOper := [
  ⟨some 15,.mv,[.t 3],none⟩,
  ⟨some 16,.mv,[.t 2],none⟩,
  ⟨some 17,(.bin .sub),[.t 15,.t 16],none⟩,
  ⟨some 11,.mv,[.t 17],none⟩]
def c62r2 : List AOper := [
  ⟨some 18,.mv,[.t 10],none⟩,
  ⟨some 19,.mv,[.t 11],none⟩,
  ⟨some 20,(.bin .neq),[.t 18,.t 19],none⟩]
def c62k3 : ACode := (.cond (.t 20) .skip (.exit 0))
def c62r4 : List AOper := [
  ⟨some 21,.mv,[.t 10],none⟩,
  ⟨some 22,.mv,[.t 11],none⟩,
  ⟨some 23,(.bin .gtr),[.t 21,.t 22],none⟩]
def c62r5 : List AOper := [
  ⟨some 24,.mv,[.t 0],none⟩,
  ⟨some 25,.mv,[.t 2],none⟩,
  ⟨some 26,.mv,[.t 10],none⟩,
  ⟨some 27,(.bin .sub),[.t 25,.t 26],none⟩,
  ⟨some 28,.mv,[.t 2],none⟩,
  ⟨some 29,.mv,[.t 11],none⟩,
  ⟨some 30,.mv,[.t 4],none⟩,
  ⟨some 31,.call,[.c (.pv none (.func (.func 65))),.t 24,.t 27,.t 28,.t 29,.t 30],none⟩]
def c62r6 : List AOper := [
  ⟨some 32,.mv,[.t 10],none⟩,
  ⟨some 33,.mv,[.t 11],none⟩,
  ⟨some 34,(.bin .sub),[.t 32,.t 33],none⟩,
  ⟨some 10,.mv,[.t 34],none⟩]
def c62r7 : List AOper := [
  ⟨some 35,.mv,[.t 0],none⟩,
  ⟨some 36,.mv,[.t 2],none⟩,
  ⟨some 37,.mv,[.t 10],none⟩,
  ⟨some 38,(.bin .sub),[.t 36,.t 37],none⟩,
  ⟨some 39,.mv,[.t 2],none⟩,
  ⟨some 40,.mv,[.t 11],none⟩,
  ⟨some 41,(.bin .add),[.t 39,.t 40],none⟩,
  ⟨some 42,.mv,[.t 10],none⟩,
  ⟨some 43,(.bin .sub),[.t 41,.t 42],none⟩,
  ⟨some 44,.mv,[.t 10],none⟩,
  ⟨some 45,.mv,[.t 4],none⟩,
  ⟨some 46,.call,[.c (.pv none (.func (.func 65))),.t 35,.t 38,.t 43,.t 44,.t 45],none⟩]
def c62r8 : List AOper := [
  ⟨some 47,.mv,[.t 11],none⟩,
  ⟨some 48,.mv,[.t 10],none⟩,
  ⟨some 49,(.bin .sub),[.t 47,.t 48],none⟩,
  ⟨some 11,.mv,[.t 49],none⟩]
def c62k9 : ACode := (.cond (.t 23) (.seq (.region true c62r5 [0,2,4,10,11]) (.region true c62r6 [0,2,4,10,11])) (.seq (.region true c62r7 [0,2,4,10,11]) (.region true c62r8 [0,2,4,10,11])))
def c62k10 : ACode := (.block 1 (.seq (.region true c62r4 [0,2,4,10,11,23]) c62k9))
def c62b11 : ACode := (.seq (.seq (.region true c62r2 [0,2,4,10,11,20]) c62k3) c62k10)
def c62k12 : ACode := (.block 0 (.loop [0,2,4,10,11] c62b11))
def c62r13 : List AOper := [
  ⟨some 50,.mv,[.t 0],none⟩,
  ⟨some 51,.mv,[.t 2],none⟩,
  ⟨some 52,.mv,[.t 10],none⟩,
  ⟨some 53,(.bin .sub),[.t 51,.t 52],none⟩,
  ⟨some 54,.mv,[.t 2],none⟩,
  ⟨some 55,.mv,[.t 10],none⟩,
  ⟨some 56,.mv,[.t 4],none⟩,
  ⟨some 57,.call,[.c (.pv none (.func (.func 65))),.t 50,.t 53,.t 54,.t 55,.t 56],none⟩]
def c62 : ACode := (.seq (.region true c62r0 [0,2,3,4,10]) (.seq (.region true c62r1 [0,2,4,10,11]) (.seq c62k12 (.region true c62r13 []))))
def g62 : AFn := ⟨5,[],c62,true,[],[],none⟩
theorem tr62 : trFn Try.prog true 62 Try.f62 = some g62 := by kernel_rfl
def c63r0 : List AOper := [
  ⟨some 1,(.box (some 4)),[.t 0],none⟩,
  ⟨some 2,.mv,[.c (.pv none (.bool false))],none⟩]
def c63r1 : List AOper := [
  ⟨some 4,(.load (some 4)),[.t 1],none⟩,
  ⟨some 5,.call,[.c (.pv none (.func (.func 66))),.t 4],none⟩,
  ⟨some 6,.not,[.t 5],none⟩]
def c63r2 : List AOper := [
  ⟨some 2,.mv,[.c (.pv none (.bool false))],none⟩]
def c63k3 : ACode := (.cond (.t 6) (.seq (.region true c63r2 [2]) .ret) .skip)
def c63r4 : List AOper := [
  ⟨some 3,.mv,[.c (.pv none (.int .i64 0))],none⟩]
def c63r5 : List AOper := [
  ⟨some 7,.mv,[.t 3],none⟩,
  ⟨some 8,(.faddr 3),[.t 1],none⟩,
  ⟨some 9,(.load none),[.t 8],none⟩,
  ⟨some 10,.len,[.t 9],none⟩,
  ⟨some 11,(.bin .lss),[.t 7,.t 10],none⟩]
def c63k6 : ACode := (.cond (.t 11) .skip (.exit 0))
def c63r7 : List AOper := [
  ⟨some 14,(.faddr 3),[.t 1],none⟩,
  ⟨some 15,(.load none),[.t 14],none⟩,
  ⟨some 16,.mv,[.t 3],none⟩,
  ⟨some 17,(.iaddr (some 4)),[.t 15,.t 16],none⟩,
  ⟨some 18,(.load (some 4)),[.t 17],none⟩,
  ⟨some 19,.call,[.c (.pv none (.func (.func 63))),.t 18],none⟩,
  ⟨some 20,.not,[.t 19],none⟩]
def c63r8 : List AOper := [
  ⟨some 2,.mv,[.c (.pv none (.bool false))],none⟩]
def c63k9 : ACode := (.cond (.t 20) (.seq (.region true c63r8 [2]) .ret) .skip)
def c63k10 : ACode := (.block 1 (.seq (.region true c63r7 [1,3,20]) c63k9))
def c63r11 : List AOper := [
  ⟨some 12,.mv,[.t 3],none⟩,
  ⟨some 13,(.bin .add),[.t 12,.c (.pv none (.int .i64 1))],none⟩,
  ⟨some 3,.mv,[.t 13],none⟩]
def c63b12 : ACode := (.seq (.seq (.region true c63r5 [1,3,11]) c63k6) (.seq c63k10 (.region true c63r11 [1,3])))
def c63k13 : ACode := (.block 0 (.loop [1,3] c63b12))
def c63r14 : List AOper := [
  ⟨some 2,.mv,[.c (.pv none (.bool true))],none⟩]
def c63 : ACode := (.seq (.region true c63r0 [1]) (.seq (.seq (.region true c63r1 [1,6]) c63k3) (.seq (.seq (.region true c63r4 [1,3]) c63k13) (.seq (.region true c63r14 [2]) .ret))))
def g63 : AFn := ⟨1,[(2,none)],c63,false,[],[],none⟩
theorem tr63 : trFn Try.prog false 63 Try.f63 = some g63 := by kernel_rfl
def c64r0 : List AOper := [
  ⟨some 2,(.box (some 4)),[.t 0],none⟩,
  ⟨some 4,.mv,[.c (.pv none (.int .i64 0))],none⟩]
def c64r1 : List AOper := [
  ⟨some 5,.mv,[.c (.pv none (.int .i64 1))],none⟩]
def c64r2 : List AOper := [
  ⟨some 6,.mv,[.c (.pv none (.int .i64 0))],none⟩]
def c64r3 : List AOper := [
  ⟨some 7,.mv,[.t 6],none⟩,
  ⟨some 8,(.faddr 3),[.t 2],none⟩,
  ⟨some 9,(.load none),[.t 8],none⟩,
  ⟨some 10,.len,[.t 9],none⟩,
  ⟨some 11,(.bin .lss),[.t 7,.t 10],none⟩,
  ⟨some 12,.mv,[.t 11],none⟩,
  ⟨some 13,.mv,[.t 5],some (12,true)⟩,
  ⟨some 14,.mv,[.t 1],some (12,true)⟩,
  ⟨some 15,(.bin .lss),[.t 13,.t 14],some (12,true)⟩,
  ⟨some 16,.pick,[.t 12,.t 15,.c (.pv none (.bool false))],none⟩]
def c64k4 : ACode := (.cond (.t 16) .skip (.exit 0))
def c64r5 : List AOper := [
  ⟨some 19,.mv,[.t 5],none⟩,
  ⟨some 20,(.faddr 3),[.t 2],none⟩,
  ⟨some 21,(.load none),[.t 20],none⟩,
  ⟨some 22,.mv,[.t 6],none⟩,
  ⟨some 23,(.iaddr (some 4)),[.t 21,.t 22],none⟩,
  ⟨some 24,(.load (some 4)),[.t 23],none⟩,
  ⟨some 25,.mv,[.t 1],none⟩,
  ⟨some 26,.mv,[.t 5],none⟩,
  ⟨some 27,(.bin .sub),[.t 25,.t 26],none⟩,
  ⟨some 28,.call,[.c (.pv none (.func (.func 64))),.t 24,.t 27],none⟩,
  ⟨some 29,(.bin .add),[.t 19,.t 28],none⟩,
  ⟨some 5,.mv,[.t 29],none⟩]
def c64k6 : ACode := (.block 1 (.region true c64r5 [1,2,5,6]))
def c64r7 : List AOper := [
  ⟨some 17,.mv,[.t 6],none⟩,
  ⟨some 18,(.bin .add),[.t 17,.c (.pv none (.int .i64 1))],none⟩,
  ⟨some 6,.mv,[.t 18],none⟩]
def c64b8 : ACode := (.seq (.seq (.region true c64r3 [1,2,5,6,16]) c64k4) (.seq c64k6 (.region true c64r7 [1,2,5,6])))
def c64k9 : ACode := (.block 0 (.loop [1,2,5,6] c64b8))
def c64r10 : List AOper := [
  ⟨some 30,.mv,[.t 5],none⟩,
  ⟨some 4,.mv,[.t 30],none⟩]
def c64 : ACode := (.seq (.region true c64r0 [1,2]) (.seq (.region true c64r1 [1,2,5]) (.seq (.seq (.region true c64r2 [1,2,5,6]) c64k9) (.seq (.region true c64r10 [4]) .ret))))
def g64 : AFn := ⟨2,[(4,none)],c64,false,[],[],none⟩
theorem tr64 : trFn Try.prog false 64 Try.f64 = some g64 := by kernel_rfl
def c65r0 : List AOper := [
  ⟨some 10,.mv,[.c (.pv none (.int .i64 0))],none⟩]
def c65r1 : List AOper := [
  ⟨some 11,.mv,[.t 10],none⟩,
  ⟨some 12,.mv,[.t 3],none⟩,
  ⟨some 13,(.bin .lss),[.t 11,.t 12],none⟩]
def c65k2 : ACode := (.cond (.t 13) .skip (.exit 0))
def c65r3 : List AOper := [
  ⟨some 16,.mv,[.t 0],none⟩,
  ⟨some 17,.mv,[.t 1],none⟩,
  ⟨some 18,.mv,[.t 10],none⟩,
  ⟨some 19,(.bin .add),[.t 17,.t 18],none⟩,
  ⟨some 20,.mv,[.t 0],none⟩,
  ⟨some 21,.mv,[.t 2],none⟩,
  ⟨some 22,.mv,[.t 10],none⟩,
  ⟨some 23,(.bin .add),[.t 21,.t 22],none⟩,
  ⟨some 24,.mv,[.t 0],none⟩,
  ⟨some 25,.mv,[.t 2],none⟩,
  ⟨some 26,.mv,[.t 10],none⟩,
  ⟨some 27,(.bin .add),[.t 25,.t 26],none⟩,
  ⟨some 28,(.iaddr none),[.t 24,.t 27],none⟩,
  ⟨some 29,(.load none),[.t 28],none⟩,
  ⟨some 30,.mv,[.t 0],none⟩,
  ⟨some 31,.mv,[.t 1],none⟩,
  ⟨some 32,.mv,[.t 10],none⟩,
  ⟨some 33,(.bin .add),[.t 31,.t 32],none⟩,
  ⟨some 34,(.iaddr none),[.t 30,.t 33],none⟩,
  ⟨some 35,(.load none),[.t 34],none⟩,
  ⟨some 36,(.iaddr none),[.t 16,.t 19],none⟩,
  ⟨none,(.store none),[.t 36,.t 29],none⟩,
  ⟨some 37,(.iaddr none),[.t 20,.t 23],none⟩,
  ⟨none,(.store none),[.t 37,.t 35],none⟩]
def c65k4 : ACode := (.block 1 (.region true c65r3 [0,1,2,3,10]))
def c65r5 : List AOper := [
  ⟨some 14,.mv,[.t 10],none⟩,
  ⟨some 15,(.bin .add),[.t 14,.c (.pv none (.int .i64 1))],none⟩,
  ⟨some 10,.mv,[.t 15],none⟩]
def c65b6 : ACode := (.seq (.seq (.region true c65r1 [0,1,2,3,10,13]) c65k2) (.seq c65k4 (.region true c65r5 [0,1,2,3,10])))
def c65k7 : ACode := (.block 0 (.loop [0,1,2,3,10] c65b6))
def c65 : ACode := (.seq (.region true c65r0 [0,1,2,3,10]) c65k7)
def g65 : AFn := ⟨5,[],c65,true,[],[],none⟩
theorem tr65 : trFn Try.prog true 65 Try.f65 = some g65 := by kernel_rfl
def c66r0 : List AOper := [
  ⟨some 1,(.box (some 4)),[.t 0],none⟩,
  ⟨some 2,.mv,[.c (.pv none (.bool false))],none⟩]
def c66r1 : List AOper := [
  ⟨some 3,(.faddr 0),[.t 1],none⟩,
  ⟨some 4,(.load none),[.t 3],none⟩]
def c66r2 : List AOper := [
  ⟨some 6,(.bin .eql),[.t 4,.c (.pv none (.int .i64 0))],none⟩,
  ⟨some 5,.mv,[.t 6],none⟩]
def c66r3 : List AOper := [
  ⟨some 7,(.faddr 1),[.t 1],none⟩,
  ⟨some 8,(.load none),[.t 7],none⟩,
  ⟨some 9,(.bin .geq),[.t 8,.c (.pv none (.int .i64 0))],none⟩,
  ⟨some 10,.mv,[.t 9],none⟩,
  ⟨some 11,(.faddr 1),[.t 1],some (10,true)⟩,
  ⟨some 12,(.load none),[.t 11],some (10,true)⟩,
  ⟨some 13,(.bin .leq),[.t 12,.c (.pv none (.int .i64 1099511627776))],some (10,true)⟩,
  ⟨some 14,.pick,[.t 10,.t 13,.c (.pv none (.bool false))],none⟩,
  ⟨some 15,.mv,[.t 14],none⟩,
  ⟨some 16,(.faddr 2),[.t 1],some (15,true)⟩,
  ⟨some 17,(.load none),[.t 16],some (15,true)⟩,
  ⟨some 18,(.bin .eql),[.t 17,.c (.pv none (.str []))],some (15,true)⟩,
  ⟨some 19,.pick,[.t 15,.t 18,.c (.pv none (.bool false))],none⟩,
  ⟨some 20,.mv,[.t 19],none⟩,
  ⟨some 21,(.faddr 3),[.t 1],some (20,true)⟩,
  ⟨some 22,(.load none),[.t 21],some (20,true)⟩,
  ⟨some 23,.len,[.t 22],some (20,true)⟩,
  ⟨some 24,(.bin .eql),[.t 23,.c (.pv none (.int .i64 0))],some (20,true)⟩,
  ⟨some 25,.pick,[.t 20,.t 24,.c (.pv none (.bool false))],none⟩,
  ⟨some 2,.mv,[.t 25],none⟩]
def c66r4 : List AOper := [
  ⟨some 27,(.bin .eql),[.t 4,.c (.pv none (.int .i64 1))],none⟩,
  ⟨some 26,.mv,[.t 27],none⟩]
def c66r5 : List AOper := [
  ⟨some 28,(.faddr 2),[.t 1],none⟩,
  ⟨some 29,(.load none),[.t 28],none⟩,
  ⟨some 30,(.bin .eql),[.t 29,.c (.pv none (.str []))],none⟩,
  ⟨some 31,.mv,[.t 30],none⟩,
  ⟨some 32,(.faddr 3),[.t 1],some (31,true)⟩,
  ⟨some 33,(.load none),[.t 32],some (31,true)⟩,
  ⟨some 34,.len,[.t 33],some (31,true)⟩,
  ⟨some 35,(.bin .eql),[.t 34,.c (.pv none (.int .i64 0))],some (31,true)⟩,
  ⟨some 36,.pick,[.t 31,.t 35,.c (.pv none (.bool false))],none⟩,
  ⟨some 2,.mv,[.t 36],none⟩]
def c66r6 : List AOper := [
  ⟨some 38,(.bin .eql),[.t 4,.c (.pv none (.int .i64 2))],none⟩,
  ⟨some 37,.mv,[.t 38],none⟩]
def c66r7 : List AOper := [
  ⟨some 39,(.faddr 1),[.t 1],none⟩,
  ⟨some 40,(.load none),[.t 39],none⟩,
  ⟨some 41,(.bin .eql),[.t 40,.c (.pv none (.int .i64 0))],none⟩,
  ⟨some 42,.mv,[.t 41],none⟩,
  ⟨some 43,(.faddr 2),[.t 1],some (42,true)⟩,
  ⟨some 44,(.load none),[.t 43],some (42,true)⟩,
  ⟨some 45,.slen,[.t 44],some (42,true)⟩,
  ⟨some 46,(.bin .leq),[.t 45,.c (.pv none (.int .i64 100))],some (42,true)⟩,
  ⟨some 47,.pick,[.t 42,.t 46,.c (.pv none (.bool false))],none⟩,
  ⟨some 48,.mv,[.t 47],none⟩,
  ⟨some 49,(.faddr 3),[.t 1],some (48,true)⟩,
  ⟨some 50,(.load none),[.t 49],some (48,true)⟩,
  ⟨some 51,.len,[.t 50],some (48,true)⟩,
  ⟨some 52,(.bin .eql),[.t 51,.c (.pv none (.int .i64 0))],some (48,true)⟩,
  ⟨some 53,.pick,[.t 48,.t 52,.c (.pv none (.bool false))],none⟩,
  ⟨some 2,.mv,[.t 53],none⟩]
def c66r8 : List AOper := [
  ⟨some 55,(.bin .eql),[.t 4,.c (.pv none (.int .i64 3))],none⟩,
  ⟨some 54,.mv,[.t 55],none⟩]
def c66r9 : List AOper := [
  ⟨some 56,(.faddr 1),[.t 1],none⟩,
  ⟨some 57,(.load none),[.t 56],none⟩,
  ⟨some 58,(.bin .eql),[.t 57,.c (.pv none (.int .i64 0))],none⟩,
  ⟨some 59,.mv,[.t 58],none⟩,
  ⟨some 60,(.faddr 2),[.t 1],some (59,true)⟩,
  ⟨some 61,(.load none),[.t 60],some (59,true)⟩,
  ⟨some 62,.slen,[.t 61],some (59,true)⟩,
  ⟨some 63,(.bin .leq),[.t 62,.c (.pv none (.int .i64 100))],some (59,true)⟩,
  ⟨some 64,.pick,[.t 59,.t 63,.c (.pv none (.bool false))],none⟩,
  ⟨some 65,.mv,[.t 64],none⟩,
  ⟨some 66,(.faddr 3),[.t 1],some (65,true)⟩,
  ⟨some 67,(.load none),[.t 66],some (65,true)⟩,
  ⟨some 68,.len,[.t 67],some (65,true)⟩,
  ⟨some 69,(.bin .geq),[.t 68,.c (.pv none (.int .i64 1))],some (65,true)⟩,
  ⟨some 70,.pick,[.t 65,.t 69,.c (.pv none (.bool false))],none⟩,
  ⟨some 71,.mv,[.t 70],none⟩,
  ⟨some 72,(.faddr 3),[.t 1],some (71,true)⟩,
  ⟨some 73,(.load none),[.t 72],some (71,true)⟩,
  ⟨some 74,.len,[.t 73],some (71,true)⟩,
  ⟨some 75,(.bin .leq),[.t 74,.c (.pv none (.int .i64 8))],some (71,true)⟩,
  ⟨some 76,.pick,[.t 71,.t 75,.c (.pv none (.bool false))],none⟩,
  ⟨some 2,.mv,[.t 76],none⟩]
def c66k10 : ACode := (.cond (.t 54) (.seq (.region true c66r9 [2]) .ret) .skip)
def c66k11 : ACode := (.cond (.t 37) (.seq (.region true c66r7 [2]) .ret) (.seq (.region true c66r8 [1,54]) c66k10))
def c66k12 : ACode := (.cond (.t 26) (.seq (.region true c66r5 [2]) .ret) (.seq (.region true c66r6 [1,4,37]) c66k11))
def c66k13 : ACode := (.cond (.t 5) (.seq (.region true c66r3 [2]) .ret) (.seq (.region true c66r4 [1,4,26]) c66k12))
def c66k14 : ACode := (.block 0 (.seq (.region true c66r2 [1,4,5]) c66k13))
def c66r15 : List AOper := [
  ⟨some 2,.mv,[.c (.pv none (.bool false))],none⟩]
def c66 : ACode := (.seq (.region true c66r0 [1]) (.seq (.seq (.region true c66r1 [1,4]) c66k14) (.seq (.region true c66r15 [2]) .ret)))
def g66 : AFn := ⟨1,[(2,none)],c66,false,[],[],none⟩
theorem tr66 : trFn Try.prog false 66 Try.f66 = some g66 := by kernel_rfl
def tab : List (Nat × AFn) := [(3,g3),(4,g4),(5,g5),(7,g7),(8,g8),(10,g10),(11,g11),(12,g12),(13,g13),(14,g14),(15,g15),(16,g16),(17,g17),(18,g18),(19,g19),(20,g20),(21,g21),(22,g22),(24,g24),(25,g25),(26,g26),(27,g27),(28,g28),(29,g29),(30,g30),(31,g31),(32,g32),(33,g33),(34,g34),(35,g35),(36,g36),(37,g37),(39,g39),(40,g40),(41,g41),(42,g42),(43,g43),(44,g44),(45,g45),(46,g46),(47,g47),(48,g48),(49,g49),(50,g50),(51,g51),(52,g52),(55,g55),(56,g56),(57,g57),(58,g58),(59,g59),(60,g60),(62,g62),(63,g63),(64,g64),(65,g65),(66,g66)]
theorem tab_ok : TabOk Try.prog tab :=
  (tabOk_cons Try.func3 tr3
  (tabOk_cons Try.func4 tr4
  (tabOk_cons Try.func5 tr5
  (tabOk_cons Try.func7 tr7
  (tabOk_cons Try.func8 tr8
  (tabOk_cons Try.func10 tr10
  (tabOk_cons Try.func11 tr11
  (tabOk_cons Try.func12 tr12
  (tabOk_cons Try.func13 tr13
  (tabOk_cons Try.func14 tr14
  (tabOk_cons Try.func15 tr15
  (tabOk_cons Try.func16 tr16
  (tabOk_cons Try.func17 tr17
  (tabOk_cons Try.func18 tr18
  (tabOk_cons Try.func19 tr19
  (tabOk_cons Try.func20 tr20
  (tabOk_cons Try.func21 tr21
  (tabOk_cons Try.func22 tr22
  (tabOk_cons Try.func24 tr24
  (tabOk_cons Try.func25 tr25
  (tabOk_cons Try.func26 tr26
  (tabOk_cons Try.func27 tr27
  (tabOk_cons Try.func28 tr28
  (tabOk_cons Try.func29 tr29
  (tabOk_cons Try.func30 tr30
  (tabOk_cons Try.func31 tr31
  (tabOk_cons Try.func32 tr32
  (tabOk_cons Try.func33 tr33
  (tabOk_cons Try.func34 tr34
  (tabOk_cons Try.func35 tr35
  (tabOk_cons Try.func36 tr36
  (tabOk_cons Try.func37 tr37
  (tabOk_cons Try.func39 tr39
  (tabOk_cons Try.func40 tr40
  (tabOk_cons Try.func41 tr41
  (tabOk_cons Try.func42 tr42
  (tabOk_cons Try.func43 tr43
  (tabOk_cons Try.func44 tr44
  (tabOk_cons Try.func45 tr45
  (tabOk_cons Try.func46 tr46
  (tabOk_cons Try.func47 tr47
  (tabOk_cons Try.func48 tr48
  (tabOk_cons Try.func49 tr49
  (tabOk_cons Try.func50 tr50
  (tabOk_cons Try.func51 tr51
  (tabOk_cons Try.func52 tr52
  (tabOk_cons Try.func55 tr55
  (tabOk_cons Try.func56 tr56
  (tabOk_cons Try.func57 tr57
  (tabOk_cons Try.func58 tr58
  (tabOk_cons Try.func59 tr59
  (tabOk_cons Try.func60 tr60
  (tabOk_cons Try.func62 tr62
  (tabOk_cons Try.func63 tr63
  (tabOk_cons Try.func64 tr64
  (tabOk_cons Try.func65 tr65
  (tabOk_cons Try.func66 tr66 tabOk_nil)))))))))))))))))))))))))))))))))))))))))))))))))))))))))
end Go.Proofs.Ytmajapjbogmefaa
