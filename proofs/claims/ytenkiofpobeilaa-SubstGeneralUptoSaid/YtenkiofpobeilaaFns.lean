/- The functions as the abstract machine has them,each proved to be what the translation gives. -/
import Derived.Test.YtenkiofpobeilaaAm4
import Derived.Test.YtenkiofpobeilaaProg
import Derived.KernelRfl
namespace Go.Proofs.Ytenkiofpobeilaa
open Go.Am
def c3r0 : List AOper := [
 ⟨some 4,(.box (some 4)),[.t 1],none⟩,
 ⟨some 5,(.box (some 4)),[.t 2],none⟩,
 ⟨some 6,.mv,[.c (.pv none (.bool false))],none⟩]
def c3r1 : List AOper := [
 ⟨some 11,.mv,[.t 0],none⟩,
 ⟨some 12,.call,[.c (.pv none (.func (.func 10))),.t 11],none⟩]
def c3r2 : List AOper := [
 ⟨some 13,.call,[.c (.pv none (.func (.func 11)))],none⟩,
 ⟨some 6,.mv,[.t 13],none⟩]
def c3k3 : ACode := (.cond (.t 12) (.seq (.region true c3r2 [6]) .ret) .skip)
def c3r4 : List AOper := [
 ⟨some 15,.mv,[.t 0],none⟩,
 ⟨some 16,(.load (some 4)),[.t 4],none⟩,
 ⟨some 17,(.load (some 4)),[.t 5],none⟩,
 ⟨some 18,.call,[.c (.pv none (.func (.func 12))),.t 15,.t 16,.t 17],none⟩,
 ⟨some 14,.mv,[.t 18],none⟩,
 ⟨some 19,(.extract 0),[.t 14],none⟩,
 ⟨some 20,(.extract 1),[.t 14],none⟩,
 ⟨some 7,.mv,[.t 19],none⟩,
 ⟨some 8,.mv,[.t 20],none⟩]
def c3r5 : List AOper := [
 ⟨some 22,.mv,[.t 0],none⟩,
 ⟨some 23,(.load (some 4)),[.t 4],none⟩,
 ⟨some 24,(.load (some 4)),[.t 5],none⟩,
 ⟨some 25,.call,[.c (.pv none (.func (.func 13))),.t 22,.t 23,.t 24],none⟩,
 ⟨some 21,.mv,[.t 25],none⟩,
 ⟨some 26,(.extract 0),[.t 21],none⟩,
 ⟨some 27,(.extract 1),[.t 21],none⟩,
 ⟨some 9,.mv,[.t 26],none⟩,
 ⟨some 10,.mv,[.t 27],none⟩]
def c3r6 : List AOper := [
 ⟨some 28,.mv,[.t 8],none⟩,
 ⟨some 29,.mv,[.t 10],none⟩,
 ⟨some 30,(.bin .eql),[.t 28,.t 29],none⟩,
 ⟨some 31,.mv,[.t 30],none⟩,
 ⟨some 32,.mv,[.t 7],some (31,true)⟩,
 ⟨some 33,.mv,[.t 9],some (31,true)⟩,
 ⟨some 34,.call,[.c (.pv none (.func (.func 14))),.t 32,.t 33],some (31,true)⟩,
 ⟨some 35,.pick,[.t 31,.t 34,.c (.pv none (.bool false))],none⟩,
 ⟨some 36,.mv,[.t 35],none⟩,
 ⟨some 37,.call,[.c (.pv none (.func (.func 11)))],some (36,true)⟩,
 ⟨some 38,.pick,[.t 36,.t 37,.c (.pv none (.bool false))],none⟩,
 ⟨some 6,.mv,[.t 38],none⟩]
def c3 : ACode := (.seq (.region true c3r0 [0,4,5]) (.seq (.seq (.region true c3r1 [0,4,5,12]) c3k3) (.seq (.region true c3r4 [0,4,5,7,8]) (.seq (.region true c3r5 [7,8,9,10]) (.seq (.region true c3r6 [6]) .ret)))))
def g3 : AFn := ⟨3,[(6,none)],c3,false,[],[],none⟩
theorem tr3 : trFn Try.prog false 3 Try.f3 = some g3 := by kernel_rfl
def c4r0 : List AOper := [
 ⟨some 2,(.box (some 4)),[.t 0],none⟩,
 ⟨some 3,(.box (some 4)),[.t 1],none⟩,
 ⟨some 4,.mv,[.c (.pv none (.bool false))],none⟩]
def c4r1 : List AOper := [
 ⟨some 10,(.load (some 4)),[.t 2],none⟩,
 ⟨some 11,(.load (some 4)),[.t 3],none⟩,
 ⟨some 12,.call,[.c (.pv none (.func (.func 15))),.t 10,.t 11],none⟩,
 ⟨some 9,.mv,[.t 12],none⟩,
 ⟨some 13,(.extract 0),[.t 9],none⟩,
 ⟨some 14,(.extract 1),[.t 9],none⟩,
 ⟨some 5,.mv,[.t 13],none⟩,
 ⟨some 6,.mv,[.t 14],none⟩]
def c4r2 : List AOper := [
 ⟨some 16,(.load (some 4)),[.t 2],none⟩,
 ⟨some 17,(.load (some 4)),[.t 3],none⟩,
 ⟨some 18,.call,[.c (.pv none (.func (.func 16))),.t 16,.t 17],none⟩,
 ⟨some 15,.mv,[.t 18],none⟩,
 ⟨some 19,(.extract 0),[.t 15],none⟩,
 ⟨some 20,(.extract 1),[.t 15],none⟩,
 ⟨some 7,.mv,[.t 19],none⟩,
 ⟨some 8,.mv,[.t 20],none⟩]
def c4r3 : List AOper := [
 ⟨some 21,.mv,[.t 6],none⟩,
 ⟨some 22,.mv,[.t 8],none⟩,
 ⟨some 23,(.binb .eql),[.t 21,.t 22],none⟩,
 ⟨some 24,.mv,[.t 23],none⟩,
 ⟨some 25,.mv,[.t 5],some (24,true)⟩,
 ⟨some 26,.mv,[.t 7],some (24,true)⟩,
 ⟨some 27,.call,[.c (.pv none (.func (.func 14))),.t 25,.t 26],some (24,true)⟩,
 ⟨some 28,.pick,[.t 24,.t 27,.c (.pv none (.bool false))],none⟩,
 ⟨some 29,.mv,[.t 28],none⟩,
 ⟨some 30,.call,[.c (.pv none (.func (.func 11)))],some (29,true)⟩,
 ⟨some 31,.pick,[.t 29,.t 30,.c (.pv none (.bool false))],none⟩,
 ⟨some 4,.mv,[.t 31],none⟩]
def c4 : ACode := (.seq (.region true c4r0 [2,3]) (.seq (.region true c4r1 [2,3,5,6]) (.seq (.region true c4r2 [5,6,7,8]) (.seq (.region true c4r3 [4]) .ret))))
def g4 : AFn := ⟨2,[(4,none)],c4,false,[],[],none⟩
theorem tr4 : trFn Try.prog false 4 Try.f4 = some g4 := by kernel_rfl
def c6r0 : List AOper := [
 ⟨some 4,(.box (some 4)),[.t 1],none⟩,
 ⟨some 5,(.box (some 4)),[.t 2],none⟩,
 ⟨some 6,.mv,[.c (.pv none (.bool false))],none⟩]
def c6r1 : List AOper := [
 ⟨some 17,.mv,[.t 0],none⟩,
 ⟨some 18,.call,[.c (.pv none (.func (.func 10))),.t 17],none⟩,
 ⟨some 19,.mv,[.t 18],none⟩,
 ⟨some 20,.mv,[.t 0],some (19,false)⟩,
 ⟨some 21,.call,[.c (.pv none (.func (.func 17))),.t 20],some (19,false)⟩,
 ⟨some 22,.not,[.t 21],some (19,false)⟩,
 ⟨some 23,.pick,[.t 19,.c (.pv none (.bool true)),.t 22],none⟩,
 ⟨some 24,.mv,[.t 23],none⟩,
 ⟨some 25,(.load (some 4)),[.t 4],some (24,false)⟩,
 ⟨some 26,.call,[.c (.pv none (.func (.func 18))),.t 25],some (24,false)⟩,
 ⟨some 27,.not,[.t 26],some (24,false)⟩,
 ⟨some 28,.pick,[.t 24,.c (.pv none (.bool true)),.t 27],none⟩,
 ⟨some 29,.mv,[.t 28],none⟩,
 ⟨some 30,(.load (some 4)),[.t 5],some (29,false)⟩,
 ⟨some 31,.call,[.c (.pv none (.func (.func 18))),.t 30],some (29,false)⟩,
 ⟨some 32,.not,[.t 31],some (29,false)⟩,
 ⟨some 33,.pick,[.t 29,.c (.pv none (.bool true)),.t 32],none⟩]
def c6r2 : List AOper := [
 ⟨some 34,.call,[.c (.pv none (.func (.func 11)))],none⟩,
 ⟨some 6,.mv,[.t 34],none⟩]
def c6k3 : ACode := (.cond (.t 33) (.seq (.region true c6r2 [6]) .ret) .skip)
def c6r4 : List AOper := [
 ⟨some 36,.mv,[.t 0],none⟩,
 ⟨some 37,(.load (some 4)),[.t 4],none⟩,
 ⟨some 38,.call,[.c (.pv none (.func (.func 22))),.t 36,.t 37],none⟩,
 ⟨some 35,.mv,[.t 38],none⟩,
 ⟨some 39,(.extract 0),[.t 35],none⟩,
 ⟨some 40,(.extract 1),[.t 35],none⟩,
 ⟨some 7,(.alloc (some 4) (.agg [(none,(.pv none (.int .i64 0))),(none,(.pv none (.int .i64 0))),(none,(.pv none (.str []))),(none,(.tsl (some 4) []))])),[],none⟩,
 ⟨none,(.store (some 4)),[.t 7,.t 39],none⟩,
 ⟨some 8,.mv,[.t 40],none⟩]
def c6r5 : List AOper := [
 ⟨some 42,.mv,[.t 0],none⟩,
 ⟨some 43,(.load (some 4)),[.t 5],none⟩,
 ⟨some 44,.call,[.c (.pv none (.func (.func 22))),.t 42,.t 43],none⟩,
 ⟨some 41,.mv,[.t 44],none⟩,
 ⟨some 45,(.extract 0),[.t 41],none⟩,
 ⟨some 46,(.extract 1),[.t 41],none⟩,
 ⟨some 9,(.alloc (some 4) (.agg [(none,(.pv none (.int .i64 0))),(none,(.pv none (.int .i64 0))),(none,(.pv none (.str []))),(none,(.tsl (some 4) []))])),[],none⟩,
 ⟨none,(.store (some 4)),[.t 9,.t 45],none⟩,
 ⟨some 10,.mv,[.t 46],none⟩]
def c6r6 : List AOper := [
 ⟨some 47,.mv,[.t 8],none⟩,
 ⟨some 48,(.bin .neq),[.t 47,.c (.pv none (.int .i64 0))],none⟩,
 ⟨some 49,.mv,[.t 48],none⟩,
 ⟨some 50,.mv,[.t 10],some (49,false)⟩,
 ⟨some 51,(.bin .neq),[.t 50,.c (.pv none (.int .i64 0))],some (49,false)⟩,
 ⟨some 52,.pick,[.t 49,.c (.pv none (.bool true)),.t 51],none⟩,
 ⟨some 53,.mv,[.t 52],none⟩,
 ⟨some 54,(.load (some 4)),[.t 7],some (53,false)⟩,
 ⟨some 55,(.load (some 4)),[.t 9],some (53,false)⟩,
 ⟨some 56,.call,[.c (.pv none (.func (.func 20))),.t 54,.t 55],some (53,false)⟩,
 ⟨some 57,.not,[.t 56],some (53,false)⟩,
 ⟨some 58,.pick,[.t 53,.c (.pv none (.bool true)),.t 57],none⟩]
def c6r7 : List AOper := [
 ⟨some 59,.call,[.c (.pv none (.func (.func 11)))],none⟩,
 ⟨some 6,.mv,[.t 59],none⟩]
def c6k8 : ACode := (.cond (.t 58) (.seq (.region true c6r7 [6]) .ret) .skip)
def c6r9 : List AOper := [
 ⟨some 61,(.load (some 4)),[.t 4],none⟩,
 ⟨some 62,(.load (some 4)),[.t 5],none⟩,
 ⟨some 63,.call,[.c (.pv none (.func (.func 12))),.c (.tsl (some 5) []),.t 61,.t 62],none⟩,
 ⟨some 60,.mv,[.t 63],none⟩,
 ⟨some 64,(.extract 0),[.t 60],none⟩,
 ⟨some 65,(.extract 1),[.t 60],none⟩,
 ⟨some 11,.mv,[.t 64],none⟩,
 ⟨some 12,.mv,[.t 65],none⟩]
def c6r10 : List AOper := [
 ⟨some 66,.mv,[.t 12],none⟩,
 ⟨some 67,(.bin .eql),[.t 66,.c (.pv none (.int .i64 2))],none⟩]
def c6r11 : List AOper := [
 ⟨some 68,.call,[.c (.pv none (.func (.func 11)))],none⟩,
 ⟨some 6,.mv,[.t 68],none⟩]
def c6k12 : ACode := (.cond (.t 67) (.seq (.region true c6r11 [6]) .ret) .skip)
def c6r13 : List AOper := [
 ⟨some 69,.mv,[.t 12],none⟩,
 ⟨some 70,(.bin .neq),[.t 69,.c (.pv none (.int .i64 0))],none⟩]
def c6r14 : List AOper := [
 ⟨some 6,.mv,[.c (.pv none (.bool false))],none⟩]
def c6k15 : ACode := (.cond (.t 70) (.seq (.region true c6r14 [6]) .ret) .skip)
def c6r16 : List AOper := [
 ⟨some 72,.mv,[.t 11],none⟩,
 ⟨some 73,(.load (some 4)),[.t 4],none⟩,
 ⟨some 74,.call,[.c (.pv none (.func (.func 21))),.t 72,.t 73],none⟩,
 ⟨some 71,.mv,[.t 74],none⟩,
 ⟨some 75,(.extract 0),[.t 71],none⟩,
 ⟨some 76,(.extract 1),[.t 71],none⟩,
 ⟨some 13,(.alloc (some 4) (.agg [(none,(.pv none (.int .i64 0))),(none,(.pv none (.int .i64 0))),(none,(.pv none (.str []))),(none,(.tsl (some 4) []))])),[],none⟩,
 ⟨none,(.store (some 4)),[.t 13,.t 75],none⟩,
 ⟨some 14,.mv,[.t 76],none⟩]
def c6r17 : List AOper := [
 ⟨some 77,.mv,[.t 14],none⟩,
 ⟨some 78,(.bin .neq),[.t 77,.c (.pv none (.int .i64 0))],none⟩]
def c6r18 : List AOper := [
 ⟨some 6,.mv,[.c (.pv none (.bool false))],none⟩]
def c6k19 : ACode := (.cond (.t 78) (.seq (.region true c6r18 [6]) .ret) .skip)
def c6r20 : List AOper := [
 ⟨some 80,.mv,[.t 0],none⟩,
 ⟨some 81,(.load (some 4)),[.t 13],none⟩,
 ⟨some 82,.call,[.c (.pv none (.func (.func 22))),.t 80,.t 81],none⟩,
 ⟨some 79,.mv,[.t 82],none⟩,
 ⟨some 83,(.extract 0),[.t 79],none⟩,
 ⟨some 84,(.extract 1),[.t 79],none⟩,
 ⟨some 15,(.alloc (some 4) (.agg [(none,(.pv none (.int .i64 0))),(none,(.pv none (.int .i64 0))),(none,(.pv none (.str []))),(none,(.tsl (some 4) []))])),[],none⟩,
 ⟨none,(.store (some 4)),[.t 15,.t 83],none⟩,
 ⟨some 16,.mv,[.t 84],none⟩]
def c6r21 : List AOper := [
 ⟨some 85,.mv,[.t 16],none⟩,
 ⟨some 86,(.bin .eql),[.t 85,.c (.pv none (.int .i64 0))],none⟩,
 ⟨some 87,.mv,[.t 86],none⟩,
 ⟨some 88,(.load (some 4)),[.t 15],some (87,true)⟩,
 ⟨some 89,(.load (some 4)),[.t 7],some (87,true)⟩,
 ⟨some 90,.call,[.c (.pv none (.func (.func 20))),.t 88,.t 89],some (87,true)⟩,
 ⟨some 91,.pick,[.t 87,.t 90,.c (.pv none (.bool false))],none⟩,
 ⟨some 92,.mv,[.t 91],none⟩,
 ⟨some 93,.call,[.c (.pv none (.func (.func 11)))],some (92,true)⟩,
 ⟨some 94,.pick,[.t 92,.t 93,.c (.pv none (.bool false))],none⟩,
 ⟨some 6,.mv,[.t 94],none⟩]
def c6 : ACode := (.seq (.region true c6r0 [0,4,5]) (.seq (.seq (.region true c6r1 [0,4,5,33]) c6k3) (.seq (.region true c6r4 [0,4,5,7,8]) (.seq (.region true c6r5 [0,4,5,7,8,9,10]) (.seq (.seq (.region true c6r6 [0,4,5,7,58]) c6k8) (.seq (.region true c6r9 [0,4,7,11,12]) (.seq (.seq (.region true c6r10 [0,4,7,11,12,67]) c6k12) (.seq (.seq (.region true c6r13 [0,4,7,11,70]) c6k15) (.seq (.region true c6r16 [0,7,13,14]) (.seq (.seq (.region true c6r17 [0,7,13,78]) c6k19) (.seq (.region true c6r20 [7,15,16]) (.seq (.region true c6r21 [6]) .ret))))))))))))
def g6 : AFn := ⟨3,[(6,none)],c6,false,[],[],none⟩
theorem tr6 : trFn Try.prog false 6 Try.f6 = some g6 := by kernel_rfl
def c10r0 : List AOper := [
 ⟨some 2,.mv,[.c (.pv none (.bool false))],none⟩]
def c10r1 : List AOper := [
 ⟨some 5,.mv,[.t 0],none⟩,
 ⟨some 6,.len,[.t 5],none⟩,
 ⟨some 7,(.bin .gtr),[.t 6,.c (.pv none (.int .i64 60))],none⟩]
def c10r2 : List AOper := [
 ⟨some 2,.mv,[.c (.pv none (.bool true))],none⟩]
def c10k3 : ACode := (.cond (.t 7) (.seq (.region true c10r2 [2]) .ret) .skip)
def c10r4 : List AOper := [
 ⟨some 3,.mv,[.c (.pv none (.int .i64 0))],none⟩]
def c10r5 : List AOper := [
 ⟨some 4,.mv,[.c (.pv none (.int .i64 0))],none⟩]
def c10r6 : List AOper := [
 ⟨some 8,.mv,[.t 4],none⟩,
 ⟨some 9,.mv,[.t 0],none⟩,
 ⟨some 10,.len,[.t 9],none⟩,
 ⟨some 11,(.bin .lss),[.t 8,.t 10],none⟩]
def c10k7 : ACode := (.cond (.t 11) .skip (.exit 0))
def c10r8 : List AOper := [
 ⟨some 14,.mv,[.t 3],none⟩,
 ⟨some 15,.mv,[.t 0],none⟩,
 ⟨some 16,.mv,[.t 4],none⟩,
 ⟨some 17,(.iaddr (some 5)),[.t 15,.t 16],none⟩,
 ⟨some 18,(.faddr 1),[.t 17],none⟩,
 ⟨some 19,(.load (some 4)),[.t 18],none⟩,
 ⟨some 20,.call,[.c (.pv none (.func (.func 30))),.t 19],none⟩,
 ⟨some 21,(.bin .add),[.t 14,.t 20],none⟩,
 ⟨some 3,.mv,[.t 21],none⟩]
def c10k9 : ACode := (.block 1 (.region true c10r8 [0,3,4]))
def c10r10 : List AOper := [
 ⟨some 12,.mv,[.t 4],none⟩,
 ⟨some 13,(.bin .add),[.t 12,.c (.pv none (.int .i64 1))],none⟩,
 ⟨some 4,.mv,[.t 13],none⟩]
def c10b11 : ACode := (.seq (.seq (.region true c10r6 [0,3,4,11]) c10k7) (.seq c10k9 (.region true c10r10 [0,3,4])))
def c10k12 : ACode := (.block 0 (.loop [0,3,4] c10b11))
def c10r13 : List AOper := [
 ⟨some 22,.mv,[.t 3],none⟩,
 ⟨some 23,(.bin .gtr),[.t 22,.c (.pv none (.int .i64 6000))],none⟩,
 ⟨some 2,.mv,[.t 23],none⟩]
def c10 : ACode := (.seq (.region true c10r0 [0]) (.seq (.seq (.region true c10r1 [0,7]) c10k3) (.seq (.region true c10r4 [0,3]) (.seq (.seq (.region true c10r5 [0,3,4]) c10k12) (.seq (.region true c10r13 [2]) .ret)))))
def g10 : AFn := ⟨1,[(2,none)],c10,false,[],[],none⟩
theorem tr10 : trFn Try.prog false 10 Try.f10 = some g10 := by kernel_rfl
def c11r0 : List AOper := [
 ⟨some 0,.mv,[.c (.pv none (.bool false))],none⟩]
def c11r1 : List AOper := [
 ⟨some 16,.call,[.c (.pv none (.func (.func 32))),.c (.pv none (.int .i64 0))],none⟩,
 ⟨some 17,.call,[.c (.pv none (.func (.func 32))),.c (.pv none (.int .i64 0))],none⟩,
 ⟨some 18,(.bslice (some 4)),[.t 16,.t 17],none⟩,
 ⟨some 19,.call,[.c (.pv none (.func (.func 31))),.c (.pv none (.str [102])),.t 18],none⟩,
 ⟨some 20,.call,[.c (.pv none (.func (.func 32))),.c (.pv none (.int .i64 1))],none⟩,
 ⟨some 21,.call,[.c (.pv none (.func (.func 33))),.c (.pv none (.str [97]))],none⟩,
 ⟨some 22,(.bslice (some 4)),[.t 20,.t 21],none⟩,
 ⟨some 23,.call,[.c (.pv none (.func (.func 31))),.c (.pv none (.str [102])),.t 22],none⟩,
 ⟨some 24,.call,[.c (.pv none (.func (.func 12))),.c (.tsl (some 5) []),.t 19,.t 23],none⟩,
 ⟨some 15,.mv,[.t 24],none⟩,
 ⟨some 25,(.extract 0),[.t 15],none⟩,
 ⟨some 26,(.extract 1),[.t 15],none⟩,
 ⟨some 1,.mv,[.t 25],none⟩,
 ⟨some 2,.mv,[.t 26],none⟩]
def c11r2 : List AOper := [
 ⟨some 28,.call,[.c (.pv none (.func (.func 32))),.c (.pv none (.int .i64 3))],none⟩,
 ⟨some 29,.call,[.c (.pv none (.func (.func 32))),.c (.pv none (.int .i64 3))],none⟩,
 ⟨some 30,(.bslice (some 4)),[.t 29],none⟩,
 ⟨some 31,.call,[.c (.pv none (.func (.func 31))),.c (.pv none (.str [102])),.t 30],none⟩,
 ⟨some 32,.call,[.c (.pv none (.func (.func 12))),.c (.tsl (some 5) []),.t 28,.t 31],none⟩,
 ⟨some 27,.mv,[.t 32],none⟩,
 ⟨some 33,(.extract 0),[.t 27],none⟩,
 ⟨some 34,(.extract 1),[.t 27],none⟩,
 ⟨some 3,.mv,[.t 33],none⟩,
 ⟨some 4,.mv,[.t 34],none⟩]
def c11r3 : List AOper := [
 ⟨some 36,.call,[.c (.pv none (.func (.func 32))),.c (.pv none (.int .i64 0))],none⟩,
 ⟨some 37,.call,[.c (.pv none (.func (.func 33))),.c (.pv none (.str [98]))],none⟩,
 ⟨some 38,(.bslice (some 4)),[.t 36,.t 37],none⟩,
 ⟨some 39,.call,[.c (.pv none (.func (.func 31))),.c (.pv none (.str [102])),.t 38],none⟩,
 ⟨some 40,.call,[.c (.pv none (.func (.func 33))),.c (.pv none (.str [97]))],none⟩,
 ⟨some 41,.call,[.c (.pv none (.func (.func 33))),.c (.pv none (.str [99]))],none⟩,
 ⟨some 42,(.bslice (some 4)),[.t 40,.t 41],none⟩,
 ⟨some 43,.call,[.c (.pv none (.func (.func 31))),.c (.pv none (.str [102])),.t 42],none⟩,
 ⟨some 44,.call,[.c (.pv none (.func (.func 12))),.c (.tsl (some 5) []),.t 39,.t 43],none⟩,
 ⟨some 35,.mv,[.t 44],none⟩,
 ⟨some 45,(.extract 0),[.t 35],none⟩,
 ⟨some 46,(.extract 1),[.t 35],none⟩,
 ⟨some 5,.mv,[.t 45],none⟩,
 ⟨some 6,.mv,[.t 46],none⟩]
def c11r4 : List AOper := [
 ⟨some 48,.call,[.c (.pv none (.func (.func 32))),.c (.pv none (.int .i64 2))],none⟩,
 ⟨some 49,.call,[.c (.pv none (.func (.func 32))),.c (.pv none (.int .i64 1))],none⟩,
 ⟨some 50,.call,[.c (.pv none (.func (.func 12))),.c (.tsl (some 5) []),.t 48,.t 49],none⟩,
 ⟨some 47,.mv,[.t 50],none⟩,
 ⟨some 51,(.extract 0),[.t 47],none⟩,
 ⟨some 52,(.extract 1),[.t 47],none⟩,
 ⟨some 7,.mv,[.t 51],none⟩,
 ⟨some 8,.mv,[.t 52],none⟩]
def c11r5 : List AOper := [
 ⟨some 54,.call,[.c (.pv none (.func (.func 32))),.c (.pv none (.int .i64 1))],none⟩,
 ⟨some 55,(.bslice (some 4)),[.t 54],none⟩,
 ⟨some 56,.call,[.c (.pv none (.func (.func 31))),.c (.pv none (.str [102])),.t 55],none⟩,
 ⟨some 57,(.build [(none,(.pv none (.int .i64 0))),((some 4),(.agg [(none,(.pv none (.int .i64 0))),(none,(.pv none (.int .i64 0))),(none,(.pv none (.str []))),(none,(.tsl (some 4) []))]))] [0,1]),[.c (.pv none (.int .i64 0)),.t 56],none⟩,
 ⟨some 58,.call,[.c (.pv none (.func (.func 33))),.c (.pv none (.str [98]))],none⟩,
 ⟨some 59,(.build [(none,(.pv none (.int .i64 0))),((some 4),(.agg [(none,(.pv none (.int .i64 0))),(none,(.pv none (.int .i64 0))),(none,(.pv none (.str []))),(none,(.tsl (some 4) []))]))] [0,1]),[.c (.pv none (.int .i64 1)),.t 58],none⟩,
 ⟨some 60,(.bslice (some 5)),[.t 57,.t 59],none⟩,
 ⟨some 61,.call,[.c (.pv none (.func (.func 32))),.c (.pv none (.int .i64 0))],none⟩,
 ⟨some 62,.call,[.c (.pv none (.func (.func 21))),.t 60,.t 61],none⟩,
 ⟨some 53,.mv,[.t 62],none⟩,
 ⟨some 63,(.extract 0),[.t 53],none⟩,
 ⟨some 64,(.extract 1),[.t 53],none⟩,
 ⟨some 9,(.alloc (some 4) (.agg [(none,(.pv none (.int .i64 0))),(none,(.pv none (.int .i64 0))),(none,(.pv none (.str []))),(none,(.tsl (some 4) []))])),[],none⟩,
 ⟨none,(.store (some 4)),[.t 9,.t 63],none⟩,
 ⟨some 10,.mv,[.t 64],none⟩]
def c11r6 : List AOper := [
 ⟨some 66,.call,[.c (.pv none (.func (.func 32))),.c (.pv none (.int .i64 0))],none⟩,
 ⟨some 67,.call,[.c (.pv none (.func (.func 32))),.c (.pv none (.int .i64 1))],none⟩,
 ⟨some 68,(.bslice (some 4)),[.t 66,.t 67],none⟩,
 ⟨some 69,.call,[.c (.pv none (.func (.func 31))),.c (.pv none (.str [102])),.t 68],none⟩,
 ⟨some 70,.call,[.c (.pv none (.func (.func 33))),.c (.pv none (.str [97]))],none⟩,
 ⟨some 71,.call,[.c (.pv none (.func (.func 32))),.c (.pv none (.int .i64 0))],none⟩,
 ⟨some 72,(.bslice (some 4)),[.t 70,.t 71],none⟩,
 ⟨some 73,.call,[.c (.pv none (.func (.func 31))),.c (.pv none (.str [102])),.t 72],none⟩,
 ⟨some 74,.call,[.c (.pv none (.func (.func 15))),.t 69,.t 73],none⟩,
 ⟨some 65,.mv,[.t 74],none⟩,
 ⟨some 75,(.extract 0),[.t 65],none⟩,
 ⟨some 76,(.extract 1),[.t 65],none⟩,
 ⟨some 11,.mv,[.t 75],none⟩,
 ⟨some 12,.mv,[.t 76],none⟩]
def c11r7 : List AOper := [
 ⟨some 78,.call,[.c (.pv none (.func (.func 32))),.c (.pv none (.int .i64 0))],none⟩,
 ⟨some 79,.call,[.c (.pv none (.func (.func 32))),.c (.pv none (.int .i64 0))],none⟩,
 ⟨some 80,(.bslice (some 4)),[.t 78,.t 79],none⟩,
 ⟨some 81,.call,[.c (.pv none (.func (.func 31))),.c (.pv none (.str [102])),.t 80],none⟩,
 ⟨some 82,.call,[.c (.pv none (.func (.func 33))),.c (.pv none (.str [97]))],none⟩,
 ⟨some 83,.call,[.c (.pv none (.func (.func 33))),.c (.pv none (.str [98]))],none⟩,
 ⟨some 84,(.bslice (some 4)),[.t 82,.t 83],none⟩,
 ⟨some 85,.call,[.c (.pv none (.func (.func 31))),.c (.pv none (.str [102])),.t 84],none⟩,
 ⟨some 86,.call,[.c (.pv none (.func (.func 15))),.t 81,.t 85],none⟩,
 ⟨some 77,.mv,[.t 86],none⟩,
 ⟨some 87,(.extract 0),[.t 77],none⟩,
 ⟨some 88,(.extract 1),[.t 77],none⟩,
 ⟨some 13,.mv,[.t 87],none⟩,
 ⟨some 14,.mv,[.t 88],none⟩]
def c11r8 : List AOper := [
 ⟨some 89,.mv,[.t 2],none⟩,
 ⟨some 90,(.bin .eql),[.t 89,.c (.pv none (.int .i64 0))],none⟩,
 ⟨some 91,.mv,[.t 90],none⟩,
 ⟨some 92,.mv,[.t 1],some (91,true)⟩,
 ⟨some 93,.len,[.t 92],some (91,true)⟩,
 ⟨some 94,(.bin .eql),[.t 93,.c (.pv none (.int .i64 2))],some (91,true)⟩,
 ⟨some 95,.pick,[.t 91,.t 94,.c (.pv none (.bool false))],none⟩,
 ⟨some 96,.mv,[.t 95],none⟩,
 ⟨some 97,.mv,[.t 1],some (96,true)⟩,
 ⟨some 98,(.iaddr (some 5)),[.t 97,.c (.pv none (.int .i64 0))],some (96,true)⟩,
 ⟨some 99,(.faddr 0),[.t 98],some (96,true)⟩,
 ⟨some 100,(.load none),[.t 99],some (96,true)⟩,
 ⟨some 101,(.bin .eql),[.t 100,.c (.pv none (.int .i64 0))],some (96,true)⟩,
 ⟨some 102,.pick,[.t 96,.t 101,.c (.pv none (.bool false))],none⟩,
 ⟨some 103,.mv,[.t 102],none⟩,
 ⟨some 104,.mv,[.t 1],some (103,true)⟩,
 ⟨some 105,(.iaddr (some 5)),[.t 104,.c (.pv none (.int .i64 0))],some (103,true)⟩,
 ⟨some 106,(.faddr 1),[.t 105],some (103,true)⟩,
 ⟨some 107,(.load (some 4)),[.t 106],some (103,true)⟩,
 ⟨some 108,.callp,[.c (.pv none (.func (.func 33))),.c (.pv none (.str [97]))],some (103,true)⟩,
 ⟨some 109,.callp,[.c (.pv none (.func (.func 20))),.t 107,.t 108],some (103,true)⟩,
 ⟨some 110,.pick,[.t 103,.t 109,.c (.pv none (.bool false))],none⟩,
 ⟨some 111,.mv,[.t 110],none⟩,
 ⟨some 112,.mv,[.t 1],some (111,true)⟩,
 ⟨some 113,(.iaddr (some 5)),[.t 112,.c (.pv none (.int .i64 1))],some (111,true)⟩,
 ⟨some 114,(.faddr 0),[.t 113],some (111,true)⟩,
 ⟨some 115,(.load none),[.t 114],some (111,true)⟩,
 ⟨some 116,(.bin .eql),[.t 115,.c (.pv none (.int .i64 1))],some (111,true)⟩,
 ⟨some 117,.pick,[.t 111,.t 116,.c (.pv none (.bool false))],none⟩,
 ⟨some 118,.mv,[.t 117],none⟩,
 ⟨some 119,.mv,[.t 1],some (118,true)⟩,
 ⟨some 120,(.iaddr (some 5)),[.t 119,.c (.pv none (.int .i64 1))],some (118,true)⟩,
 ⟨some 121,(.faddr 1),[.t 120],some (118,true)⟩,
 ⟨some 122,(.load (some 4)),[.t 121],some (118,true)⟩,
 ⟨some 123,.callp,[.c (.pv none (.func (.func 32))),.c (.pv none (.int .i64 0))],some (118,true)⟩,
 ⟨some 124,.callp,[.c (.pv none (.func (.func 20))),.t 122,.t 123],some (118,true)⟩,
 ⟨some 125,.pick,[.t 118,.t 124,.c (.pv none (.bool false))],none⟩,
 ⟨some 126,.mv,[.t 125],none⟩,
 ⟨some 127,.mv,[.t 4],some (126,true)⟩,
 ⟨some 128,(.bin .eql),[.t 127,.c (.pv none (.int .i64 9))],some (126,true)⟩,
 ⟨some 129,.pick,[.t 126,.t 128,.c (.pv none (.bool false))],none⟩,
 ⟨some 130,.mv,[.t 129],none⟩,
 ⟨some 131,.mv,[.t 6],some (130,true)⟩,
 ⟨some 132,(.bin .eql),[.t 131,.c (.pv none (.int .i64 4))],some (130,true)⟩,
 ⟨some 133,.pick,[.t 130,.t 132,.c (.pv none (.bool false))],none⟩,
 ⟨some 134,.mv,[.t 133],none⟩,
 ⟨some 135,.mv,[.t 8],some (134,true)⟩,
 ⟨some 136,(.bin .eql),[.t 135,.c (.pv none (.int .i64 0))],some (134,true)⟩,
 ⟨some 137,.pick,[.t 134,.t 136,.c (.pv none (.bool false))],none⟩,
 ⟨some 138,.mv,[.t 137],none⟩,
 ⟨some 139,.mv,[.t 7],some (138,true)⟩,
 ⟨some 140,.len,[.t 139],some (138,true)⟩,
 ⟨some 141,(.bin .eql),[.t 140,.c (.pv none (.int .i64 1))],some (138,true)⟩,
 ⟨some 142,.pick,[.t 138,.t 141,.c (.pv none (.bool false))],none⟩,
 ⟨some 143,.mv,[.t 142],none⟩,
 ⟨some 144,.mv,[.t 7],some (143,true)⟩,
 ⟨some 145,(.iaddr (some 5)),[.t 144,.c (.pv none (.int .i64 0))],some (143,true)⟩,
 ⟨some 146,(.faddr 0),[.t 145],some (143,true)⟩,
 ⟨some 147,(.load none),[.t 146],some (143,true)⟩,
 ⟨some 148,(.bin .eql),[.t 147,.c (.pv none (.int .i64 2))],some (143,true)⟩,
 ⟨some 149,.pick,[.t 143,.t 148,.c (.pv none (.bool false))],none⟩,
 ⟨some 150,.mv,[.t 149],none⟩,
 ⟨some 151,.mv,[.t 7],some (150,true)⟩,
 ⟨some 152,(.iaddr (some 5)),[.t 151,.c (.pv none (.int .i64 0))],some (150,true)⟩,
 ⟨some 153,(.faddr 1),[.t 152],some (150,true)⟩,
 ⟨some 154,(.load (some 4)),[.t 153],some (150,true)⟩,
 ⟨some 155,.callp,[.c (.pv none (.func (.func 32))),.c (.pv none (.int .i64 1))],some (150,true)⟩,
 ⟨some 156,.callp,[.c (.pv none (.func (.func 20))),.t 154,.t 155],some (150,true)⟩,
 ⟨some 157,.pick,[.t 150,.t 156,.c (.pv none (.bool false))],none⟩,
 ⟨some 158,.mv,[.t 157],none⟩,
 ⟨some 159,.mv,[.t 10],some (158,true)⟩,
 ⟨some 160,(.bin .eql),[.t 159,.c (.pv none (.int .i64 0))],some (158,true)⟩,
 ⟨some 161,.pick,[.t 158,.t 160,.c (.pv none (.bool false))],none⟩,
 ⟨some 162,.mv,[.t 161],none⟩,
 ⟨some 163,(.load (some 4)),[.t 9],some (162,true)⟩,
 ⟨some 164,.callp,[.c (.pv none (.func (.func 33))),.c (.pv none (.str [98]))],some (162,true)⟩,
 ⟨some 165,(.bslicep (some 4)),[.t 164],some (162,true)⟩,
 ⟨some 166,.callp,[.c (.pv none (.func (.func 31))),.c (.pv none (.str [102])),.t 165],some (162,true)⟩,
 ⟨some 167,.callp,[.c (.pv none (.func (.func 20))),.t 163,.t 166],some (162,true)⟩,
 ⟨some 168,.pick,[.t 162,.t 167,.c (.pv none (.bool false))],none⟩,
 ⟨some 169,.mv,[.t 168],none⟩,
 ⟨some 170,.callp,[.c (.pv none (.func (.func 32))),.c (.pv none (.int .i64 1))],some (169,true)⟩,
 ⟨some 171,(.bslicep (some 4)),[.t 170],some (169,true)⟩,
 ⟨some 172,.callp,[.c (.pv none (.func (.func 31))),.c (.pv none (.str [102])),.t 171],some (169,true)⟩,
 ⟨some 173,(.build [(none,(.pv none (.int .i64 0))),((some 4),(.agg [(none,(.pv none (.int .i64 0))),(none,(.pv none (.int .i64 0))),(none,(.pv none (.str []))),(none,(.tsl (some 4) []))]))] [0,1]),[.c (.pv none (.int .i64 0)),.t 172],some (169,true)⟩,
 ⟨some 174,.callp,[.c (.pv none (.func (.func 32))),.c (.pv none (.int .i64 0))],some (169,true)⟩,
 ⟨some 175,(.bslicep (some 4)),[.t 174],some (169,true)⟩,
 ⟨some 176,.callp,[.c (.pv none (.func (.func 31))),.c (.pv none (.str [103])),.t 175],some (169,true)⟩,
 ⟨some 177,(.build [(none,(.pv none (.int .i64 0))),((some 4),(.agg [(none,(.pv none (.int .i64 0))),(none,(.pv none (.int .i64 0))),(none,(.pv none (.str []))),(none,(.tsl (some 4) []))]))] [0,1]),[.c (.pv none (.int .i64 1)),.t 176],some (169,true)⟩,
 ⟨some 178,(.bslicep (some 5)),[.t 173,.t 177],some (169,true)⟩,
 ⟨some 179,.callp,[.c (.pv none (.func (.func 26))),.t 178],some (169,true)⟩,
 ⟨some 180,.not,[.t 179],some (169,true)⟩,
 ⟨some 181,.pick,[.t 169,.t 180,.c (.pv none (.bool false))],none⟩,
 ⟨some 182,.mv,[.t 181],none⟩,
 ⟨some 183,.callp,[.c (.pv none (.func (.func 32))),.c (.pv none (.int .i64 0))],some (182,true)⟩,
 ⟨some 184,(.build [(none,(.pv none (.int .i64 0))),((some 4),(.agg [(none,(.pv none (.int .i64 0))),(none,(.pv none (.int .i64 0))),(none,(.pv none (.str []))),(none,(.tsl (some 4) []))]))] [0,1]),[.c (.pv none (.int .i64 0)),.t 183],some (182,true)⟩,
 ⟨some 185,(.bslicep (some 5)),[.t 184],some (182,true)⟩,
 ⟨some 186,.callp,[.c (.pv none (.func (.func 26))),.t 185],some (182,true)⟩,
 ⟨some 187,.not,[.t 186],some (182,true)⟩,
 ⟨some 188,.pick,[.t 182,.t 187,.c (.pv none (.bool false))],none⟩,
 ⟨some 189,.mv,[.t 188],none⟩,
 ⟨some 190,.mv,[.t 12],some (189,true)⟩,
 ⟨some 191,.pick,[.t 189,.t 190,.c (.pv none (.bool false))],none⟩,
 ⟨some 192,.mv,[.t 191],none⟩,
 ⟨some 193,.mv,[.t 11],some (192,true)⟩,
 ⟨some 194,.len,[.t 193],some (192,true)⟩,
 ⟨some 195,(.bin .eql),[.t 194,.c (.pv none (.int .i64 2))],some (192,true)⟩,
 ⟨some 196,.pick,[.t 192,.t 195,.c (.pv none (.bool false))],none⟩,
 ⟨some 197,.mv,[.t 196],none⟩,
 ⟨some 198,.mv,[.t 11],some (197,true)⟩,
 ⟨some 199,(.iaddr (some 5)),[.t 198,.c (.pv none (.int .i64 0))],some (197,true)⟩,
 ⟨some 200,(.faddr 1),[.t 199],some (197,true)⟩,
 ⟨some 201,(.load (some 4)),[.t 200],some (197,true)⟩,
 ⟨some 202,.callp,[.c (.pv none (.func (.func 33))),.c (.pv none (.str [97]))],some (197,true)⟩,
 ⟨some 203,.callp,[.c (.pv none (.func (.func 20))),.t 201,.t 202],some (197,true)⟩,
 ⟨some 204,.pick,[.t 197,.t 203,.c (.pv none (.bool false))],none⟩,
 ⟨some 205,.mv,[.t 204],none⟩,
 ⟨some 206,.mv,[.t 11],some (205,true)⟩,
 ⟨some 207,(.iaddr (some 5)),[.t 206,.c (.pv none (.int .i64 1))],some (205,true)⟩,
 ⟨some 208,(.faddr 1),[.t 207],some (205,true)⟩,
 ⟨some 209,(.load (some 4)),[.t 208],some (205,true)⟩,
 ⟨some 210,.callp,[.c (.pv none (.func (.func 32))),.c (.pv none (.int .i64 0))],some (205,true)⟩,
 ⟨some 211,.callp,[.c (.pv none (.func (.func 20))),.t 209,.t 210],some (205,true)⟩,
 ⟨some 212,.pick,[.t 205,.t 211,.c (.pv none (.bool false))],none⟩,
 ⟨some 213,.mv,[.t 212],none⟩,
 ⟨some 214,.mv,[.t 14],some (213,true)⟩,
 ⟨some 215,.not,[.t 214],some (213,true)⟩,
 ⟨some 216,.pick,[.t 213,.t 215,.c (.pv none (.bool false))],none⟩,
 ⟨some 0,.mv,[.t 216],none⟩]
def c11 : ACode := (.seq (.region true c11r0 []) (.seq (.region true c11r1 [1,2]) (.seq (.region true c11r2 [1,2,4]) (.seq (.region true c11r3 [1,2,4,6]) (.seq (.region true c11r4 [1,2,4,6,7,8]) (.seq (.region true c11r5 [1,2,4,6,7,8,9,10]) (.seq (.region true c11r6 [1,2,4,6,7,8,9,10,11,12]) (.seq (.region true c11r7 [1,2,4,6,7,8,9,10,11,12,14]) (.seq (.seq (.settle [9]) (.region true c11r8 [0])) .ret)))))))))
def g11 : AFn := ⟨0,[(0,none)],c11,false,[],[],none⟩
set_option maxRecDepth 100000 in
theorem tr11 : trFn Try.prog false 11 Try.f11 = some g11 := by kernel_rfl
def c12r0 : List AOper := [
 ⟨some 4,(.box (some 4)),[.t 1],none⟩,
 ⟨some 5,(.box (some 4)),[.t 2],none⟩,
 ⟨some 6,(.alloc none (.tsl (some 5) [])),[],none⟩,
 ⟨some 7,(.alloc none (.pv none (.int .i64 0))),[],none⟩]
def c12r1 : List AOper := [
 ⟨some 9,.mv,[.t 0],none⟩,
 ⟨some 10,.call,[.c (.pv none (.func (.func 26))),.t 9],none⟩,
 ⟨some 11,.not,[.t 10],none⟩,
 ⟨some 12,.mv,[.t 11],none⟩,
 ⟨some 13,(.load (some 4)),[.t 4],some (12,false)⟩,
 ⟨some 14,.call,[.c (.pv none (.func (.func 34))),.t 13],some (12,false)⟩,
 ⟨some 15,.not,[.t 14],some (12,false)⟩,
 ⟨some 16,.pick,[.t 12,.c (.pv none (.bool true)),.t 15],none⟩,
 ⟨some 17,.mv,[.t 16],none⟩,
 ⟨some 18,(.load (some 4)),[.t 5],some (17,false)⟩,
 ⟨some 19,.call,[.c (.pv none (.func (.func 34))),.t 18],some (17,false)⟩,
 ⟨some 20,.not,[.t 19],some (17,false)⟩,
 ⟨some 21,.pick,[.t 17,.c (.pv none (.bool true)),.t 20],none⟩]
def c12r2 : List AOper := [
 ⟨none,(.store none),[.t 6,.c (.tsl (some 5) [])],none⟩,
 ⟨none,(.store none),[.t 7,.c (.pv none (.int .i64 1))],none⟩]
def c12k3 : ACode := (.cond (.t 21) (.seq (.region true c12r2 [6,7]) .ret) .skip)
def c12r4 : List AOper := [
 ⟨some 22,(.mkfunc (.func 35) 0),[.t 6,.t 7],none⟩]
def c12r5 : List AOper := [
 ⟨some 23,.mv,[.t 0],none⟩,
 ⟨some 24,.call,[.c (.pv none (.func (.func 36))),.t 23],none⟩,
 ⟨some 25,(.build [(none,(.tsl (some 5) []))] [0]),[.t 24],none⟩,
 ⟨some 26,(.box (some 1)),[.t 25],none⟩,
 ⟨some 8,.mv,[.t 26],none⟩]
def c12r6 : List AOper := [
 ⟨some 27,.mv,[.t 8],none⟩,
 ⟨some 28,(.load (some 4)),[.t 4],none⟩,
 ⟨some 29,(.load (some 4)),[.t 5],none⟩,
 ⟨some 30,.call,[.c (.pv none (.func (.func 37))),.t 27,.t 28,.t 29],none⟩]
def c12r7 : List AOper := [
 ⟨some 31,.mv,[.t 8],none⟩,
 ⟨some 32,.nilcheck,[.t 31],none⟩,
 ⟨some 33,(.faddr 0),[.t 32],none⟩,
 ⟨some 34,(.load none),[.t 33],none⟩,
 ⟨none,(.store none),[.t 6,.t 34],none⟩,
 ⟨none,(.store none),[.t 7,.c (.pv none (.int .i64 0))],none⟩]
def c12p8 : ACode := (.seq (.region true c12r5 [4,5,6,7,8]) (.seq (.region true c12r6 [6,7,8]) (.seq (.region true c12r7 [6,7]) (.seq .ret .skip))))
def c12 : ACode := (.seq (.region true c12r0 [0,4,5,6,7]) (.seq (.region true c12r1 [0,4,5,6,7,21]) (.seq c12k3 (.region true c12r4 [0,4,5,6,7,22]))))
def g12 : AFn := ⟨3,[(6,some none),(7,some none)],c12,false,[(.dfr 22,c12p8)],[],none⟩
theorem tr12 : trFn Try.prog false 12 Try.f12 = some g12 := by kernel_rfl
def c13r0 : List AOper := [
 ⟨some 4,(.box (some 4)),[.t 1],none⟩,
 ⟨some 5,(.box (some 4)),[.t 2],none⟩,
 ⟨some 6,(.nilsl (some 5)),[],none⟩,
 ⟨some 7,.mv,[.c (.pv none (.int .i64 0))],none⟩]
def c13r1 : List AOper := [
 ⟨some 11,.mv,[.t 0],none⟩,
 ⟨some 12,.call,[.c (.pv none (.func (.func 17))),.t 11],none⟩,
 ⟨some 13,.not,[.t 12],none⟩,
 ⟨some 14,.mv,[.t 13],none⟩,
 ⟨some 15,(.load (some 4)),[.t 4],some (14,false)⟩,
 ⟨some 16,.call,[.c (.pv none (.func (.func 18))),.t 15],some (14,false)⟩,
 ⟨some 17,.not,[.t 16],some (14,false)⟩,
 ⟨some 18,.pick,[.t 14,.c (.pv none (.bool true)),.t 17],none⟩,
 ⟨some 19,.mv,[.t 18],none⟩,
 ⟨some 20,(.load (some 4)),[.t 5],some (19,false)⟩,
 ⟨some 21,.call,[.c (.pv none (.func (.func 18))),.t 20],some (19,false)⟩,
 ⟨some 22,.not,[.t 21],some (19,false)⟩,
 ⟨some 23,.pick,[.t 19,.c (.pv none (.bool true)),.t 22],none⟩]
def c13r2 : List AOper := [
 ⟨some 6,(.nilsl (some 5)),[],none⟩,
 ⟨some 7,.mv,[.c (.pv none (.int .i64 1))],none⟩]
def c13k3 : ACode := (.cond (.t 23) (.seq (.region true c13r2 [6,7]) .ret) .skip)
def c13r4 : List AOper := [
 ⟨some 25,.mv,[.t 0],none⟩,
 ⟨some 26,(.load (some 4)),[.t 4],none⟩,
 ⟨some 27,(.load (some 4)),[.t 5],none⟩,
 ⟨some 28,.call,[.c (.pv none (.func (.func 38))),.t 25,.t 26,.t 27],none⟩,
 ⟨some 24,.mv,[.t 28],none⟩,
 ⟨some 29,(.extract 0),[.t 24],none⟩,
 ⟨some 30,(.extract 1),[.t 24],none⟩,
 ⟨some 31,(.extract 2),[.t 24],none⟩,
 ⟨some 8,.mv,[.t 29],none⟩,
 ⟨some 9,.mv,[.t 30],none⟩,
 ⟨some 10,.mv,[.t 31],none⟩]
def c13r5 : List AOper := [
 ⟨some 32,.mv,[.t 8],none⟩,
 ⟨some 33,.mv,[.t 10],none⟩,
 ⟨some 6,.mv,[.t 32],none⟩,
 ⟨some 7,.mv,[.t 33],none⟩]
def c13 : ACode := (.seq (.region true c13r0 [0,4,5]) (.seq (.seq (.region true c13r1 [0,4,5,23]) c13k3) (.seq (.region true c13r4 [8,10]) (.seq (.region true c13r5 [6,7]) .ret))))
def g13 : AFn := ⟨3,[(6,none),(7,none)],c13,false,[],[],none⟩
theorem tr13 : trFn Try.prog false 13 Try.f13 = some g13 := by kernel_rfl
def c14r0 : List AOper := [
 ⟨some 4,.mv,[.c (.pv none (.bool false))],none⟩]
def c14r1 : List AOper := [
 ⟨some 6,.mv,[.t 0],none⟩,
 ⟨some 7,.len,[.t 6],none⟩,
 ⟨some 8,.mv,[.t 1],none⟩,
 ⟨some 9,.len,[.t 8],none⟩,
 ⟨some 10,(.bin .neq),[.t 7,.t 9],none⟩]
def c14r2 : List AOper := [
 ⟨some 4,.mv,[.c (.pv none (.bool false))],none⟩]
def c14k3 : ACode := (.cond (.t 10) (.seq (.region true c14r2 [4]) .ret) .skip)
def c14r4 : List AOper := [
 ⟨some 5,.mv,[.c (.pv none (.int .i64 0))],none⟩]
def c14r5 : List AOper := [
 ⟨some 11,.mv,[.t 5],none⟩,
 ⟨some 12,.mv,[.t 0],none⟩,
 ⟨some 13,.len,[.t 12],none⟩,
 ⟨some 14,(.bin .lss),[.t 11,.t 13],none⟩]
def c14k6 : ACode := (.cond (.t 14) .skip (.exit 0))
def c14r7 : List AOper := [
 ⟨some 17,.mv,[.t 0],none⟩,
 ⟨some 18,.mv,[.t 5],none⟩,
 ⟨some 19,(.iaddr (some 5)),[.t 17,.t 18],none⟩,
 ⟨some 20,(.faddr 0),[.t 19],none⟩,
 ⟨some 21,(.load none),[.t 20],none⟩,
 ⟨some 22,.mv,[.t 1],none⟩,
 ⟨some 23,.mv,[.t 5],none⟩,
 ⟨some 24,(.iaddr (some 5)),[.t 22,.t 23],none⟩,
 ⟨some 25,(.faddr 0),[.t 24],none⟩,
 ⟨some 26,(.load none),[.t 25],none⟩,
 ⟨some 27,(.bin .neq),[.t 21,.t 26],none⟩,
 ⟨some 28,.mv,[.t 27],none⟩,
 ⟨some 29,.mv,[.t 0],some (28,false)⟩,
 ⟨some 30,.mv,[.t 5],some (28,false)⟩,
 ⟨some 31,(.iaddr (some 5)),[.t 29,.t 30],some (28,false)⟩,
 ⟨some 32,(.faddr 1),[.t 31],some (28,false)⟩,
 ⟨some 33,(.load (some 4)),[.t 32],some (28,false)⟩,
 ⟨some 34,.mv,[.t 1],some (28,false)⟩,
 ⟨some 35,.mv,[.t 5],some (28,false)⟩,
 ⟨some 36,(.iaddr (some 5)),[.t 34,.t 35],some (28,false)⟩,
 ⟨some 37,(.faddr 1),[.t 36],some (28,false)⟩,
 ⟨some 38,(.load (some 4)),[.t 37],some (28,false)⟩,
 ⟨some 39,.call,[.c (.pv none (.func (.func 20))),.t 33,.t 38],some (28,false)⟩,
 ⟨some 40,.not,[.t 39],some (28,false)⟩,
 ⟨some 41,.pick,[.t 28,.c (.pv none (.bool true)),.t 40],none⟩]
def c14r8 : List AOper := [
 ⟨some 4,.mv,[.c (.pv none (.bool false))],none⟩]
def c14k9 : ACode := (.cond (.t 41) (.seq (.region true c14r8 [4]) .ret) .skip)
def c14k10 : ACode := (.block 1 (.seq (.region true c14r7 [0,1,5,41]) c14k9))
def c14r11 : List AOper := [
 ⟨some 15,.mv,[.t 5],none⟩,
 ⟨some 16,(.bin .add),[.t 15,.c (.pv none (.int .i64 1))],none⟩,
 ⟨some 5,.mv,[.t 16],none⟩]
def c14b12 : ACode := (.seq (.seq (.region true c14r5 [0,1,5,14]) c14k6) (.seq c14k10 (.region true c14r11 [0,1,5])))
def c14k13 : ACode := (.block 0 (.loop [0,1,5] c14b12))
def c14r14 : List AOper := [
 ⟨some 4,.mv,[.c (.pv none (.bool true))],none⟩]
def c14 : ACode := (.seq (.region true c14r0 [0,1]) (.seq (.seq (.region true c14r1 [0,1,10]) c14k3) (.seq (.seq (.region true c14r4 [0,1,5]) c14k13) (.seq (.region true c14r14 [4]) .ret))))
def g14 : AFn := ⟨2,[(4,none)],c14,false,[],[],none⟩
theorem tr14 : trFn Try.prog false 14 Try.f14 = some g14 := by kernel_rfl
def c15r0 : List AOper := [
 ⟨some 2,(.box (some 4)),[.t 0],none⟩,
 ⟨some 3,(.box (some 4)),[.t 1],none⟩,
 ⟨some 4,(.nilsl (some 5)),[],none⟩,
 ⟨some 5,.mv,[.c (.pv none (.bool false))],none⟩]
def c15r1 : List AOper := [
 ⟨some 8,(.load (some 4)),[.t 2],none⟩,
 ⟨some 9,.call,[.c (.pv none (.func (.func 34))),.t 8],none⟩,
 ⟨some 10,.not,[.t 9],none⟩,
 ⟨some 11,.mv,[.t 10],none⟩,
 ⟨some 12,(.load (some 4)),[.t 3],some (11,false)⟩,
 ⟨some 13,.call,[.c (.pv none (.func (.func 34))),.t 12],some (11,false)⟩,
 ⟨some 14,.not,[.t 13],some (11,false)⟩,
 ⟨some 15,.pick,[.t 11,.c (.pv none (.bool true)),.t 14],none⟩]
def c15r2 : List AOper := [
 ⟨some 4,(.nilsl (some 5)),[],none⟩,
 ⟨some 5,.mv,[.c (.pv none (.bool false))],none⟩]
def c15k3 : ACode := (.cond (.t 15) (.seq (.region true c15r2 [4,5]) .ret) .skip)
def c15r4 : List AOper := [
 ⟨some 17,(.load (some 4)),[.t 2],none⟩,
 ⟨some 18,(.load (some 4)),[.t 3],none⟩,
 ⟨some 19,.call,[.c (.pv none (.func (.func 39))),.c (.tsl (some 5) []),.t 17,.t 18],none⟩,
 ⟨some 16,.mv,[.t 19],none⟩,
 ⟨some 20,(.extract 0),[.t 16],none⟩,
 ⟨some 21,(.extract 1),[.t 16],none⟩,
 ⟨some 6,.mv,[.t 20],none⟩,
 ⟨some 7,.mv,[.t 21],none⟩]
def c15r5 : List AOper := [
 ⟨some 22,.mv,[.t 7],none⟩,
 ⟨some 23,.not,[.t 22],none⟩]
def c15r6 : List AOper := [
 ⟨some 4,(.nilsl (some 5)),[],none⟩,
 ⟨some 5,.mv,[.c (.pv none (.bool false))],none⟩]
def c15k7 : ACode := (.cond (.t 23) (.seq (.region true c15r6 [4,5]) .ret) .skip)
def c15r8 : List AOper := [
 ⟨some 24,.mv,[.t 6],none⟩,
 ⟨some 4,.mv,[.t 24],none⟩,
 ⟨some 5,.mv,[.c (.pv none (.bool true))],none⟩]
def c15 : ACode := (.seq (.region true c15r0 [2,3]) (.seq (.seq (.region true c15r1 [2,3,15]) c15k3) (.seq (.region true c15r4 [6,7]) (.seq (.seq (.region true c15r5 [6,23]) c15k7) (.seq (.region true c15r8 [4,5]) .ret)))))
def g15 : AFn := ⟨2,[(4,none),(5,none)],c15,false,[],[],none⟩
theorem tr15 : trFn Try.prog false 15 Try.f15 = some g15 := by kernel_rfl
def c16r0 : List AOper := [
 ⟨some 2,(.box (some 4)),[.t 0],none⟩,
 ⟨some 3,(.box (some 4)),[.t 1],none⟩,
 ⟨some 4,(.nilsl (some 5)),[],none⟩,
 ⟨some 5,.mv,[.c (.pv none (.bool false))],none⟩]
def c16r1 : List AOper := [
 ⟨some 8,(.load (some 4)),[.t 2],none⟩,
 ⟨some 9,.call,[.c (.pv none (.func (.func 18))),.t 8],none⟩,
 ⟨some 10,.not,[.t 9],none⟩,
 ⟨some 11,.mv,[.t 10],none⟩,
 ⟨some 12,(.load (some 4)),[.t 3],some (11,false)⟩,
 ⟨some 13,.call,[.c (.pv none (.func (.func 18))),.t 12],some (11,false)⟩,
 ⟨some 14,.not,[.t 13],some (11,false)⟩,
 ⟨some 15,.pick,[.t 11,.c (.pv none (.bool true)),.t 14],none⟩]
def c16r2 : List AOper := [
 ⟨some 4,(.nilsl (some 5)),[],none⟩,
 ⟨some 5,.mv,[.c (.pv none (.bool false))],none⟩]
def c16k3 : ACode := (.cond (.t 15) (.seq (.region true c16r2 [4,5]) .ret) .skip)
def c16r4 : List AOper := [
 ⟨some 17,(.load (some 4)),[.t 2],none⟩,
 ⟨some 18,(.load (some 4)),[.t 3],none⟩,
 ⟨some 19,.call,[.c (.pv none (.func (.func 40))),.c (.tsl (some 5) []),.t 17,.t 18],none⟩,
 ⟨some 16,.mv,[.t 19],none⟩,
 ⟨some 20,(.extract 0),[.t 16],none⟩,
 ⟨some 21,(.extract 1),[.t 16],none⟩,
 ⟨some 6,.mv,[.t 20],none⟩,
 ⟨some 7,.mv,[.t 21],none⟩]
def c16r5 : List AOper := [
 ⟨some 22,.mv,[.t 7],none⟩,
 ⟨some 23,.not,[.t 22],none⟩]
def c16r6 : List AOper := [
 ⟨some 4,(.nilsl (some 5)),[],none⟩,
 ⟨some 5,.mv,[.c (.pv none (.bool false))],none⟩]
def c16k7 : ACode := (.cond (.t 23) (.seq (.region true c16r6 [4,5]) .ret) .skip)
def c16r8 : List AOper := [
 ⟨some 24,.mv,[.t 6],none⟩,
 ⟨some 4,.mv,[.t 24],none⟩,
 ⟨some 5,.mv,[.c (.pv none (.bool true))],none⟩]
def c16 : ACode := (.seq (.region true c16r0 [2,3]) (.seq (.seq (.region true c16r1 [2,3,15]) c16k3) (.seq (.region true c16r4 [6,7]) (.seq (.seq (.region true c16r5 [6,23]) c16k7) (.seq (.region true c16r8 [4,5]) .ret)))))
def g16 : AFn := ⟨2,[(4,none),(5,none)],c16,false,[],[],none⟩
theorem tr16 : trFn Try.prog false 16 Try.f16 = some g16 := by kernel_rfl
def c17r0 : List AOper := [
 ⟨some 2,.mv,[.c (.pv none (.bool false))],none⟩]
def c17r1 : List AOper := [
 ⟨some 3,.mv,[.c (.pv none (.int .i64 0))],none⟩]
def c17r2 : List AOper := [
 ⟨some 8,.mv,[.t 3],none⟩,
 ⟨some 9,.mv,[.t 0],none⟩,
 ⟨some 10,.len,[.t 9],none⟩,
 ⟨some 11,(.bin .lss),[.t 8,.t 10],none⟩]
def c17k3 : ACode := (.cond (.t 11) .skip (.exit 0))
def c17r4 : List AOper := [
 ⟨some 14,.mv,[.t 0],none⟩,
 ⟨some 15,.mv,[.t 3],none⟩,
 ⟨some 16,(.iaddr (some 5)),[.t 14,.t 15],none⟩,
 ⟨some 17,(.faddr 0),[.t 16],none⟩,
 ⟨some 18,(.load none),[.t 17],none⟩,
 ⟨some 19,(.bin .lss),[.t 18,.c (.pv none (.int .i64 0))],none⟩,
 ⟨some 20,.mv,[.t 19],none⟩,
 ⟨some 21,.mv,[.t 0],some (20,false)⟩,
 ⟨some 22,.mv,[.t 3],some (20,false)⟩,
 ⟨some 23,(.iaddr (some 5)),[.t 21,.t 22],some (20,false)⟩,
 ⟨some 24,(.faddr 0),[.t 23],some (20,false)⟩,
 ⟨some 25,(.load none),[.t 24],some (20,false)⟩,
 ⟨some 26,(.bin .gtr),[.t 25,.c (.pv none (.int .i64 1099511627776))],some (20,false)⟩,
 ⟨some 27,.pick,[.t 20,.c (.pv none (.bool true)),.t 26],none⟩,
 ⟨some 28,.mv,[.t 27],none⟩,
 ⟨some 29,.mv,[.t 3],some (28,false)⟩,
 ⟨some 30,(.bin .gtr),[.t 29,.c (.pv none (.int .i64 0))],some (28,false)⟩,
 ⟨some 31,.mv,[.t 30],some (28,false)⟩,
 ⟨some 32,.mv,[.t 0],some (31,true)⟩,
 ⟨some 33,.mv,[.t 3],some (31,true)⟩,
 ⟨some 34,(.bin .sub),[.t 33,.c (.pv none (.int .i64 1))],some (31,true)⟩,
 ⟨some 35,(.iaddr (some 5)),[.t 32,.t 34],some (31,true)⟩,
 ⟨some 36,(.faddr 0),[.t 35],some (31,true)⟩,
 ⟨some 37,(.load none),[.t 36],some (31,true)⟩,
 ⟨some 38,.mv,[.t 0],some (31,true)⟩,
 ⟨some 39,.mv,[.t 3],some (31,true)⟩,
 ⟨some 40,(.iaddr (some 5)),[.t 38,.t 39],some (31,true)⟩,
 ⟨some 41,(.faddr 0),[.t 40],some (31,true)⟩,
 ⟨some 42,(.load none),[.t 41],some (31,true)⟩,
 ⟨some 43,(.bin .geq),[.t 37,.t 42],some (31,true)⟩,
 ⟨some 44,.pick,[.t 31,.t 43,.c (.pv none (.bool false))],some (28,false)⟩,
 ⟨some 45,.pick,[.t 28,.c (.pv none (.bool true)),.t 44],none⟩,
 ⟨some 46,.mv,[.t 45],none⟩,
 ⟨some 47,.mv,[.t 0],some (46,false)⟩,
 ⟨some 48,.mv,[.t 3],some (46,false)⟩,
 ⟨some 49,(.iaddr (some 5)),[.t 47,.t 48],some (46,false)⟩,
 ⟨some 50,(.faddr 1),[.t 49],some (46,false)⟩,
 ⟨some 51,(.load (some 4)),[.t 50],some (46,false)⟩,
 ⟨some 52,.call,[.c (.pv none (.func (.func 18))),.t 51],some (46,false)⟩,
 ⟨some 53,.not,[.t 52],some (46,false)⟩,
 ⟨some 54,.pick,[.t 46,.c (.pv none (.bool true)),.t 53],none⟩]
def c17r5 : List AOper := [
 ⟨some 2,.mv,[.c (.pv none (.bool false))],none⟩]
def c17k6 : ACode := (.cond (.t 54) (.seq (.region true c17r5 [2]) .ret) .skip)
def c17k7 : ACode := (.block 1 (.seq (.region true c17r4 [0,3,54]) c17k6))
def c17r8 : List AOper := [
 ⟨some 12,.mv,[.t 3],none⟩,
 ⟨some 13,(.bin .add),[.t 12,.c (.pv none (.int .i64 1))],none⟩,
 ⟨some 3,.mv,[.t 13],none⟩]
def c17b9 : ACode := (.seq (.seq (.region true c17r2 [0,3,11]) c17k3) (.seq c17k7 (.region true c17r8 [0,3])))
def c17k10 : ACode := (.block 0 (.loop [0,3] c17b9))
def c17r11 : List AOper := [
 ⟨some 55,.mv,[.t 0],none⟩,
 ⟨some 56,.len,[.t 55],none⟩,
 ⟨some 57,(.mkslice none (.bool false)),[.t 56,.t 56],none⟩,
 ⟨some 4,.mv,[.t 57],none⟩]
def c17r12 : List AOper := [
 ⟨some 58,.mv,[.t 0],none⟩,
 ⟨some 59,.len,[.t 58],none⟩,
 ⟨some 5,.mv,[.t 59],none⟩]
def c17r13 : List AOper := [
 ⟨some 60,.mv,[.t 5],none⟩,
 ⟨some 61,(.bin .gtr),[.t 60,.c (.pv none (.int .i64 0))],none⟩]
def c17k14 : ACode := (.cond (.t 61) .skip (.exit 2))
def c17r15 : List AOper := [
 ⟨some 62,.mv,[.t 5],none⟩,
 ⟨some 6,.mv,[.t 62],none⟩]
def c17r16 : List AOper := [
 ⟨some 7,.mv,[.c (.pv none (.int .i64 0))],none⟩]
def c17r17 : List AOper := [
 ⟨some 63,.mv,[.t 7],none⟩,
 ⟨some 64,.mv,[.t 0],none⟩,
 ⟨some 65,.len,[.t 64],none⟩,
 ⟨some 66,(.bin .lss),[.t 63,.t 65],none⟩]
def c17k18 : ACode := (.cond (.t 66) .skip (.exit 4))
def c17r19 : List AOper := [
 ⟨some 69,.mv,[.t 4],none⟩,
 ⟨some 70,.mv,[.t 7],none⟩,
 ⟨some 71,(.iaddr none),[.t 69,.t 70],none⟩,
 ⟨some 72,(.load none),[.t 71],none⟩,
 ⟨some 73,.not,[.t 72],none⟩,
 ⟨some 74,.mv,[.t 73],none⟩,
 ⟨some 75,.mv,[.t 0],some (74,true)⟩,
 ⟨some 76,.mv,[.t 4],some (74,true)⟩,
 ⟨some 77,.mv,[.t 0],some (74,true)⟩,
 ⟨some 78,.mv,[.t 7],some (74,true)⟩,
 ⟨some 79,(.iaddr (some 5)),[.t 77,.t 78],some (74,true)⟩,
 ⟨some 80,(.faddr 1),[.t 79],some (74,true)⟩,
 ⟨some 81,(.load (some 4)),[.t 80],some (74,true)⟩,
 ⟨some 82,.call,[.c (.pv none (.func (.func 41))),.t 75,.t 76,.t 81],some (74,true)⟩,
 ⟨some 83,.pick,[.t 74,.t 82,.c (.pv none (.bool false))],none⟩]
def c17r20 : List AOper := [
 ⟨some 84,.mv,[.t 4],none⟩,
 ⟨some 85,.mv,[.t 7],none⟩,
 ⟨some 86,(.iaddr none),[.t 84,.t 85],none⟩,
 ⟨none,(.store none),[.t 86,.c (.pv none (.bool true))],none⟩]
def c17r21 : List AOper := [
 ⟨some 87,.mv,[.t 5],none⟩,
 ⟨some 88,(.bin .sub),[.t 87,.c (.pv none (.int .i64 1))],none⟩,
 ⟨some 5,.mv,[.t 88],none⟩]
def c17k22 : ACode := (.cond (.t 83) (.seq (.region true c17r20 [0,4,5,6,7]) (.region true c17r21 [0,4,5,6,7])) .skip)
def c17k23 : ACode := (.block 5 (.seq (.region true c17r19 [0,4,5,6,7,83]) c17k22))
def c17r24 : List AOper := [
 ⟨some 67,.mv,[.t 7],none⟩,
 ⟨some 68,(.bin .add),[.t 67,.c (.pv none (.int .i64 1))],none⟩,
 ⟨some 7,.mv,[.t 68],none⟩]
def c17b25 : ACode := (.seq (.seq (.region true c17r17 [0,4,5,6,7,66]) c17k18) (.seq c17k23 (.region true c17r24 [0,4,5,6,7])))
def c17k26 : ACode := (.block 4 (.loop [0,4,5,6,7] c17b25))
def c17r27 : List AOper := [
 ⟨some 89,.mv,[.t 5],none⟩,
 ⟨some 90,.mv,[.t 6],none⟩,
 ⟨some 91,(.bin .eql),[.t 89,.t 90],none⟩]
def c17r28 : List AOper := [
 ⟨some 2,.mv,[.c (.pv none (.bool false))],none⟩]
def c17k29 : ACode := (.cond (.t 91) (.seq (.region true c17r28 [2]) .ret) .skip)
def c17k30 : ACode := (.block 3 (.seq (.region true c17r15 [0,4,5,6]) (.seq (.seq (.region true c17r16 [0,4,5,6,7]) c17k26) (.seq (.region true c17r27 [0,4,5,91]) c17k29))))
def c17b31 : ACode := (.seq (.seq (.region true c17r13 [0,4,5,61]) c17k14) c17k30)
def c17k32 : ACode := (.block 2 (.loop [0,4,5] c17b31))
def c17r33 : List AOper := [
 ⟨some 2,.mv,[.c (.pv none (.bool true))],none⟩]
def c17 : ACode := (.seq (.region true c17r0 [0]) (.seq (.seq (.region true c17r1 [0,3]) c17k10) (.seq (.region true c17r11 [0,4]) (.seq (.region true c17r12 [0,4,5]) (.seq c17k32 (.seq (.region true c17r33 [2]) .ret))))))
def g17 : AFn := ⟨1,[(2,none)],c17,false,[],[],none⟩
theorem tr17 : trFn Try.prog false 17 Try.f17 = some g17 := by kernel_rfl
def c18r0 : List AOper := [
 ⟨some 1,(.box (some 4)),[.t 0],none⟩,
 ⟨some 2,.mv,[.c (.pv none (.bool false))],none⟩]
def c18r1 : List AOper := [
 ⟨some 3,(.load (some 4)),[.t 1],none⟩,
 ⟨some 4,.call,[.c (.pv none (.func (.func 30))),.t 3],none⟩,
 ⟨some 5,(.bin .leq),[.t 4,.c (.pv none (.int .i64 2000))],none⟩,
 ⟨some 6,.mv,[.t 5],none⟩,
 ⟨some 7,(.load (some 4)),[.t 1],some (6,true)⟩,
 ⟨some 8,.call,[.c (.pv none (.func (.func 42))),.t 7],some (6,true)⟩,
 ⟨some 9,.pick,[.t 6,.t 8,.c (.pv none (.bool false))],none⟩,
 ⟨some 2,.mv,[.t 9],none⟩]
def c18 : ACode := (.seq (.region true c18r0 [1]) (.seq (.region true c18r1 [2]) .ret))
def g18 : AFn := ⟨1,[(2,none)],c18,false,[],[],none⟩
theorem tr18 : trFn Try.prog false 18 Try.f18 = some g18 := by kernel_rfl
def c19r0 : List AOper := [
 ⟨some 4,.mv,[.c (.pv none (.int .i64 0))],none⟩]
def c19r1 : List AOper := [
 ⟨some 8,.mv,[.t 0],none⟩,
 ⟨some 9,.len,[.t 8],none⟩,
 ⟨some 5,.mv,[.c (.pv none (.int .i64 0))],none⟩,
 ⟨some 6,.mv,[.t 9],none⟩]
def c19r2 : List AOper := [
 ⟨some 10,.mv,[.t 5],none⟩,
 ⟨some 11,.mv,[.t 6],none⟩,
 ⟨some 12,(.bin .lss),[.t 10,.t 11],none⟩]
def c19k3 : ACode := (.cond (.t 12) .skip (.exit 0))
def c19r4 : List AOper := [
 ⟨some 13,.mv,[.t 5],none⟩,
 ⟨some 14,.mv,[.t 6],none⟩,
 ⟨some 15,(.bin .add),[.t 13,.t 14],none⟩,
 ⟨some 16,(.bin .quo),[.t 15,.c (.pv none (.int .i64 2))],none⟩,
 ⟨some 7,.mv,[.t 16],none⟩]
def c19r5 : List AOper := [
 ⟨some 17,.mv,[.t 0],none⟩,
 ⟨some 18,.mv,[.t 7],none⟩,
 ⟨some 19,(.iaddr (some 5)),[.t 17,.t 18],none⟩,
 ⟨some 20,(.faddr 0),[.t 19],none⟩,
 ⟨some 21,(.load none),[.t 20],none⟩,
 ⟨some 22,.mv,[.t 1],none⟩,
 ⟨some 23,(.bin .lss),[.t 21,.t 22],none⟩]
def c19r6 : List AOper := [
 ⟨some 24,.mv,[.t 7],none⟩,
 ⟨some 25,(.bin .add),[.t 24,.c (.pv none (.int .i64 1))],none⟩,
 ⟨some 5,.mv,[.t 25],none⟩]
def c19r7 : List AOper := [
 ⟨some 26,.mv,[.t 7],none⟩,
 ⟨some 6,.mv,[.t 26],none⟩]
def c19k8 : ACode := (.cond (.t 23) (.region true c19r6 [0,1,5,6]) (.region true c19r7 [0,1,5,6]))
def c19k9 : ACode := (.block 1 (.seq (.region true c19r4 [0,1,5,6,7]) (.seq (.region true c19r5 [0,1,5,6,7,23]) c19k8)))
def c19b10 : ACode := (.seq (.seq (.region true c19r2 [0,1,5,6,12]) c19k3) c19k9)
def c19k11 : ACode := (.block 0 (.loop [0,1,5,6] c19b10))
def c19r12 : List AOper := [
 ⟨some 27,.mv,[.t 5],none⟩,
 ⟨some 28,.mv,[.t 0],none⟩,
 ⟨some 29,.len,[.t 28],none⟩,
 ⟨some 30,(.bin .lss),[.t 27,.t 29],none⟩,
 ⟨some 31,.mv,[.t 30],none⟩,
 ⟨some 32,.mv,[.t 0],some (31,true)⟩,
 ⟨some 33,.mv,[.t 5],some (31,true)⟩,
 ⟨some 34,(.iaddr (some 5)),[.t 32,.t 33],some (31,true)⟩,
 ⟨some 35,(.faddr 0),[.t 34],some (31,true)⟩,
 ⟨some 36,(.load none),[.t 35],some (31,true)⟩,
 ⟨some 37,.mv,[.t 1],some (31,true)⟩,
 ⟨some 38,(.bin .eql),[.t 36,.t 37],some (31,true)⟩,
 ⟨some 39,.pick,[.t 31,.t 38,.c (.pv none (.bool false))],none⟩]
def c19r13 : List AOper := [
 ⟨some 40,.mv,[.t 5],none⟩,
 ⟨some 4,.mv,[.t 40],none⟩]
def c19k14 : ACode := (.cond (.t 39) (.seq (.region true c19r13 [4]) .ret) .skip)
def c19r15 : List AOper := [
 ⟨some 4,.mv,[.c (.pv none (.int .i64 (-1)))],none⟩]
def c19 : ACode := (.seq (.region true c19r0 [0,1]) (.seq (.region true c19r1 [0,1,5,6]) (.seq c19k11 (.seq (.seq (.region true c19r12 [5,39]) c19k14) (.seq (.region true c19r15 [4]) .ret)))))
def g19 : AFn := ⟨2,[(4,none)],c19,false,[],[],none⟩
theorem tr19 : trFn Try.prog false 19 Try.f19 = some g19 := by kernel_rfl
def c20r0 : List AOper := [
 ⟨some 2,(.box (some 4)),[.t 0],none⟩,
 ⟨some 3,(.box (some 4)),[.t 1],none⟩,
 ⟨some 4,.mv,[.c (.pv none (.bool false))],none⟩]
def c20r1 : List AOper := [
 ⟨some 5,(.load (some 4)),[.t 2],none⟩,
 ⟨some 6,.call,[.c (.pv none (.func (.func 18))),.t 5],none⟩,
 ⟨some 7,.mv,[.t 6],none⟩,
 ⟨some 8,(.load (some 4)),[.t 3],some (7,true)⟩,
 ⟨some 9,.call,[.c (.pv none (.func (.func 18))),.t 8],some (7,true)⟩,
 ⟨some 10,.pick,[.t 7,.t 9,.c (.pv none (.bool false))],none⟩,
 ⟨some 11,.mv,[.t 10],none⟩,
 ⟨some 12,(.load (some 4)),[.t 2],some (11,true)⟩,
 ⟨some 13,(.load (some 4)),[.t 3],some (11,true)⟩,
 ⟨some 14,.call,[.c (.pv none (.func (.func 43))),.t 12,.t 13],some (11,true)⟩,
 ⟨some 15,.pick,[.t 11,.t 14,.c (.pv none (.bool false))],none⟩,
 ⟨some 4,.mv,[.t 15],none⟩]
def c20 : ACode := (.seq (.region true c20r0 [2,3]) (.seq (.region true c20r1 [4]) .ret))
def g20 : AFn := ⟨2,[(4,none)],c20,false,[],[],none⟩
theorem tr20 : trFn Try.prog false 20 Try.f20 = some g20 := by kernel_rfl
def c21r0 : List AOper := [
 ⟨some 3,(.box (some 4)),[.t 1],none⟩,
 ⟨some 4,(.alloc (some 4) (.agg [(none,(.pv none (.int .i64 0))),(none,(.pv none (.int .i64 0))),(none,(.pv none (.str []))),(none,(.tsl (some 4) []))])),[],none⟩,
 ⟨some 5,.mv,[.c (.pv none (.int .i64 0))],none⟩]
def c21r1 : List AOper := [
 ⟨some 6,.mv,[.t 0],none⟩,
 ⟨some 7,.call,[.c (.pv none (.func (.func 26))),.t 6],none⟩,
 ⟨some 8,.not,[.t 7],none⟩,
 ⟨some 9,.mv,[.t 8],none⟩,
 ⟨some 10,(.load (some 4)),[.t 3],some (9,false)⟩,
 ⟨some 11,.call,[.c (.pv none (.func (.func 34))),.t 10],some (9,false)⟩,
 ⟨some 12,.not,[.t 11],some (9,false)⟩,
 ⟨some 13,.pick,[.t 9,.c (.pv none (.bool true)),.t 12],none⟩]
def c21r2 : List AOper := [
 ⟨some 14,(.build [(none,(.pv none (.int .i64 0))),(none,(.pv none (.int .i64 0))),(none,(.pv none (.str []))),(none,(.tsl (some 4) []))] []),[],none⟩,
 ⟨none,(.store (some 4)),[.t 4,.t 14],none⟩,
 ⟨some 5,.mv,[.c (.pv none (.int .i64 1))],none⟩]
def c21k3 : ACode := (.cond (.t 13) (.seq (.region true c21r2 [4,5]) .ret) .skip)
def c21r4 : List AOper := [
 ⟨some 15,.mv,[.t 0],none⟩,
 ⟨some 16,(.load (some 4)),[.t 3],none⟩,
 ⟨some 17,(.mkmap none),[],none⟩,
 ⟨some 18,.call,[.c (.pv none (.func (.func 44))),.t 15,.t 16,.t 17],none⟩,
 ⟨some 19,(.bin .gtr),[.t 18,.c (.pv none (.int .i64 2000))],none⟩]
def c21r5 : List AOper := [
 ⟨some 20,(.build [(none,(.pv none (.int .i64 0))),(none,(.pv none (.int .i64 0))),(none,(.pv none (.str []))),(none,(.tsl (some 4) []))] []),[],none⟩,
 ⟨none,(.store (some 4)),[.t 4,.t 20],none⟩,
 ⟨some 5,.mv,[.c (.pv none (.int .i64 2))],none⟩]
def c21k6 : ACode := (.cond (.t 19) (.seq (.region true c21r5 [4,5]) .ret) .skip)
def c21r7 : List AOper := [
 ⟨some 21,.mv,[.t 0],none⟩,
 ⟨some 22,(.load (some 4)),[.t 3],none⟩,
 ⟨some 23,.call,[.c (.pv none (.func (.func 45))),.t 21,.t 22],none⟩,
 ⟨none,(.store (some 4)),[.t 4,.t 23],none⟩,
 ⟨some 5,.mv,[.c (.pv none (.int .i64 0))],none⟩]
def c21 : ACode := (.seq (.region true c21r0 [0,3,4]) (.seq (.seq (.region true c21r1 [0,3,4,13]) c21k3) (.seq (.seq (.region true c21r4 [0,3,4,19]) c21k6) (.seq (.region true c21r7 [4,5]) .ret))))
def g21 : AFn := ⟨2,[(4,some (some 4)),(5,none)],c21,false,[],[],none⟩
theorem tr21 : trFn Try.prog false 21 Try.f21 = some g21 := by kernel_rfl
def c22r0 : List AOper := [
 ⟨some 3,(.box (some 4)),[.t 1],none⟩,
 ⟨some 4,(.alloc (some 4) (.agg [(none,(.pv none (.int .i64 0))),(none,(.pv none (.int .i64 0))),(none,(.pv none (.str []))),(none,(.tsl (some 4) []))])),[],none⟩,
 ⟨some 5,.mv,[.c (.pv none (.int .i64 0))],none⟩]
def c22r1 : List AOper := [
 ⟨some 8,.mv,[.t 0],none⟩,
 ⟨some 9,.call,[.c (.pv none (.func (.func 17))),.t 8],none⟩,
 ⟨some 10,.not,[.t 9],none⟩,
 ⟨some 11,.mv,[.t 10],none⟩,
 ⟨some 12,(.load (some 4)),[.t 3],some (11,false)⟩,
 ⟨some 13,.call,[.c (.pv none (.func (.func 18))),.t 12],some (11,false)⟩,
 ⟨some 14,.not,[.t 13],some (11,false)⟩,
 ⟨some 15,.pick,[.t 11,.c (.pv none (.bool true)),.t 14],none⟩]
def c22r2 : List AOper := [
 ⟨some 16,(.build [(none,(.pv none (.int .i64 0))),(none,(.pv none (.int .i64 0))),(none,(.pv none (.str []))),(none,(.tsl (some 4) []))] []),[],none⟩,
 ⟨none,(.store (some 4)),[.t 4,.t 16],none⟩,
 ⟨some 5,.mv,[.c (.pv none (.int .i64 1))],none⟩]
def c22k3 : ACode := (.cond (.t 15) (.seq (.region true c22r2 [4,5]) .ret) .skip)
def c22r4 : List AOper := [
 ⟨some 18,.mv,[.t 0],none⟩,
 ⟨some 19,(.load (some 4)),[.t 3],none⟩,
 ⟨some 20,.call,[.c (.pv none (.func (.func 46))),.t 18,.t 19],none⟩,
 ⟨some 17,.mv,[.t 20],none⟩,
 ⟨some 21,(.extract 0),[.t 17],none⟩,
 ⟨some 22,(.extract 1),[.t 17],none⟩,
 ⟨some 6,(.alloc (some 4) (.agg [(none,(.pv none (.int .i64 0))),(none,(.pv none (.int .i64 0))),(none,(.pv none (.str []))),(none,(.tsl (some 4) []))])),[],none⟩,
 ⟨none,(.store (some 4)),[.t 6,.t 21],none⟩,
 ⟨some 7,.mv,[.t 22],none⟩]
def c22r5 : List AOper := [
 ⟨some 23,.mv,[.t 7],none⟩,
 ⟨some 24,.not,[.t 23],none⟩]
def c22r6 : List AOper := [
 ⟨some 25,(.build [(none,(.pv none (.int .i64 0))),(none,(.pv none (.int .i64 0))),(none,(.pv none (.str []))),(none,(.tsl (some 4) []))] []),[],none⟩,
 ⟨none,(.store (some 4)),[.t 4,.t 25],none⟩,
 ⟨some 5,.mv,[.c (.pv none (.int .i64 2))],none⟩]
def c22k7 : ACode := (.cond (.t 24) (.seq (.region true c22r6 [4,5]) .ret) .skip)
def c22r8 : List AOper := [
 ⟨some 26,(.load (some 4)),[.t 6],none⟩,
 ⟨none,(.store (some 4)),[.t 4,.t 26],none⟩,
 ⟨some 5,.mv,[.c (.pv none (.int .i64 0))],none⟩]
def c22 : ACode := (.seq (.region true c22r0 [0,3,4]) (.seq (.seq (.region true c22r1 [0,3,4,15]) c22k3) (.seq (.region true c22r4 [4,6,7]) (.seq (.seq (.region true c22r5 [4,6,24]) c22k7) (.seq (.region true c22r8 [4,5]) .ret)))))
def g22 : AFn := ⟨2,[(4,some (some 4)),(5,none)],c22,false,[],[],none⟩
theorem tr22 : trFn Try.prog false 22 Try.f22 = some g22 := by kernel_rfl
def c23r0 : List AOper := [
 ⟨some 2,(.box (some 4)),[.t 0],none⟩,
 ⟨some 4,(.alloc (some 4) (.agg [(none,(.pv none (.int .i64 0))),(none,(.pv none (.int .i64 0))),(none,(.pv none (.str []))),(none,(.tsl (some 4) []))])),[],none⟩,
 ⟨some 5,.mv,[.c (.pv none (.int .i64 0))],none⟩]
def c23r1 : List AOper := [
 ⟨some 8,(.load (some 4)),[.t 2],none⟩,
 ⟨some 9,.call,[.c (.pv none (.func (.func 18))),.t 8],none⟩,
 ⟨some 10,.not,[.t 9],none⟩,
 ⟨some 11,.mv,[.t 10],none⟩,
 ⟨some 12,.mv,[.t 1],some (11,false)⟩,
 ⟨some 13,(.bin .lss),[.t 12,.c (.pv none (.int .i64 0))],some (11,false)⟩,
 ⟨some 14,.pick,[.t 11,.c (.pv none (.bool true)),.t 13],none⟩,
 ⟨some 15,.mv,[.t 14],none⟩,
 ⟨some 16,.mv,[.t 1],some (15,false)⟩,
 ⟨some 17,(.bin .gtr),[.t 16,.c (.pv none (.int .i64 1099511627776))],some (15,false)⟩,
 ⟨some 18,.pick,[.t 15,.c (.pv none (.bool true)),.t 17],none⟩]
def c23r2 : List AOper := [
 ⟨some 19,(.build [(none,(.pv none (.int .i64 0))),(none,(.pv none (.int .i64 0))),(none,(.pv none (.str []))),(none,(.tsl (some 4) []))] []),[],none⟩,
 ⟨none,(.store (some 4)),[.t 4,.t 19],none⟩,
 ⟨some 5,.mv,[.c (.pv none (.int .i64 1))],none⟩]
def c23k3 : ACode := (.cond (.t 18) (.seq (.region true c23r2 [4,5]) .ret) .skip)
def c23r4 : List AOper := [
 ⟨some 20,(.load (some 4)),[.t 2],none⟩,
 ⟨some 21,.call,[.c (.pv none (.func (.func 47))),.c (.tsl none []),.t 20],none⟩,
 ⟨some 6,.mv,[.t 21],none⟩]
def c23r5 : List AOper := [
 ⟨some 7,.mv,[.c (.pv none (.int .i64 0))],none⟩]
def c23r6 : List AOper := [
 ⟨some 22,.mv,[.t 7],none⟩,
 ⟨some 23,.mv,[.t 6],none⟩,
 ⟨some 24,.len,[.t 23],none⟩,
 ⟨some 25,(.bin .lss),[.t 22,.t 24],none⟩]
def c23k7 : ACode := (.cond (.t 25) .skip (.exit 0))
def c23r8 : List AOper := [
 ⟨some 28,.mv,[.t 6],none⟩,
 ⟨some 29,.mv,[.t 7],none⟩,
 ⟨some 30,(.iaddr none),[.t 28,.t 29],none⟩,
 ⟨some 31,(.load none),[.t 30],none⟩,
 ⟨some 32,.mv,[.t 1],none⟩,
 ⟨some 33,(.bin .add),[.t 31,.t 32],none⟩,
 ⟨some 34,(.bin .gtr),[.t 33,.c (.pv none (.int .i64 1099511627776))],none⟩]
def c23r9 : List AOper := [
 ⟨some 35,(.build [(none,(.pv none (.int .i64 0))),(none,(.pv none (.int .i64 0))),(none,(.pv none (.str []))),(none,(.tsl (some 4) []))] []),[],none⟩,
 ⟨none,(.store (some 4)),[.t 4,.t 35],none⟩,
 ⟨some 5,.mv,[.c (.pv none (.int .i64 2))],none⟩]
def c23k10 : ACode := (.cond (.t 34) (.seq (.region true c23r9 [4,5]) .ret) .skip)
def c23k11 : ACode := (.block 1 (.seq (.region true c23r8 [1,2,4,6,7,34]) c23k10))
def c23r12 : List AOper := [
 ⟨some 26,.mv,[.t 7],none⟩,
 ⟨some 27,(.bin .add),[.t 26,.c (.pv none (.int .i64 1))],none⟩,
 ⟨some 7,.mv,[.t 27],none⟩]
def c23b13 : ACode := (.seq (.seq (.region true c23r6 [1,2,4,6,7,25]) c23k7) (.seq c23k11 (.region true c23r12 [1,2,4,6,7])))
def c23k14 : ACode := (.block 0 (.loop [1,2,4,6,7] c23b13))
def c23r15 : List AOper := [
 ⟨some 36,(.load (some 4)),[.t 2],none⟩,
 ⟨some 37,.mv,[.t 1],none⟩,
 ⟨some 38,.call,[.c (.pv none (.func (.func 48))),.t 36,.t 37],none⟩,
 ⟨none,(.store (some 4)),[.t 4,.t 38],none⟩,
 ⟨some 5,.mv,[.c (.pv none (.int .i64 0))],none⟩]
def c23 : ACode := (.seq (.region true c23r0 [1,2,4]) (.seq (.seq (.region true c23r1 [1,2,4,18]) c23k3) (.seq (.region true c23r4 [1,2,4,6]) (.seq (.seq (.region true c23r5 [1,2,4,6,7]) c23k14) (.seq (.region true c23r15 [4,5]) .ret)))))
def g23 : AFn := ⟨2,[(4,some (some 4)),(5,none)],c23,false,[],[],none⟩
theorem tr23 : trFn Try.prog false 23 Try.f23 = some g23 := by kernel_rfl
def c24r0 : List AOper := [
 ⟨some 1,(.box (some 4)),[.t 0],none⟩,
 ⟨some 2,(.nilsl none),[],none⟩]
def c24r1 : List AOper := [
 ⟨some 3,(.load (some 4)),[.t 1],none⟩,
 ⟨some 4,.call,[.c (.pv none (.func (.func 18))),.t 3],none⟩,
 ⟨some 5,.not,[.t 4],none⟩]
def c24r2 : List AOper := [
 ⟨some 2,(.nilsl none),[],none⟩]
def c24k3 : ACode := (.cond (.t 5) (.seq (.region true c24r2 [2]) .ret) .skip)
def c24r4 : List AOper := [
 ⟨some 6,(.load (some 4)),[.t 1],none⟩,
 ⟨some 7,.call,[.c (.pv none (.func (.func 47))),.c (.tsl none []),.t 6],none⟩,
 ⟨some 2,.mv,[.t 7],none⟩]
def c24 : ACode := (.seq (.region true c24r0 [1]) (.seq (.seq (.region true c24r1 [1,5]) c24k3) (.seq (.region true c24r4 [2]) .ret)))
def g24 : AFn := ⟨1,[(2,none)],c24,false,[],[],none⟩
theorem tr24 : trFn Try.prog false 24 Try.f24 = some g24 := by kernel_rfl
def c25r0 : List AOper := [
 ⟨some 5,(.box (some 4)),[.t 2],none⟩,
 ⟨some 6,.mv,[.c (.pv none (.bool false))],none⟩]
def c25r1 : List AOper := [
 ⟨some 7,.mv,[.t 0],none⟩,
 ⟨some 8,.call,[.c (.pv none (.func (.func 26))),.t 7],none⟩,
 ⟨some 9,.mv,[.t 8],none⟩,
 ⟨some 10,(.load (some 4)),[.t 5],some (9,true)⟩,
 ⟨some 11,.call,[.c (.pv none (.func (.func 34))),.t 10],some (9,true)⟩,
 ⟨some 12,.pick,[.t 9,.t 11,.c (.pv none (.bool false))],none⟩,
 ⟨some 13,.mv,[.t 12],none⟩,
 ⟨some 14,.mv,[.t 0],some (13,true)⟩,
 ⟨some 15,.mv,[.t 1],some (13,true)⟩,
 ⟨some 16,(.load (some 4)),[.t 5],some (13,true)⟩,
 ⟨some 17,(.mkmap none),[],some (13,true)⟩,
 ⟨some 18,.call,[.c (.pv none (.func (.func 49))),.t 14,.t 15,.t 16,.t 17],some (13,true)⟩,
 ⟨some 19,.pick,[.t 13,.t 18,.c (.pv none (.bool false))],none⟩,
 ⟨some 6,.mv,[.t 19],none⟩]
def c25 : ACode := (.seq (.region true c25r0 [0,1,5]) (.seq (.region true c25r1 [6]) .ret))
def g25 : AFn := ⟨3,[(6,none)],c25,false,[],[],none⟩
theorem tr25 : trFn Try.prog false 25 Try.f25 = some g25 := by kernel_rfl
def c26r0 : List AOper := [
 ⟨some 2,.mv,[.c (.pv none (.bool false))],none⟩]
def c26r1 : List AOper := [
 ⟨some 8,.mv,[.t 0],none⟩,
 ⟨some 9,.len,[.t 8],none⟩,
 ⟨some 10,.mv,[.c (.pv none (.int .i64 0))],none⟩]
def c26r2 : List AOper := [
 ⟨some 11,(.bin .lss),[.t 10,.t 9],none⟩]
def c26k3 : ACode := (.cond (.t 11) .skip (.exit 0))
def c26r4 : List AOper := [
 ⟨some 12,.mv,[.t 10],none⟩,
 ⟨some 13,(.iaddr (some 5)),[.t 8,.t 10],none⟩,
 ⟨some 14,(.load (some 5)),[.t 13],none⟩,
 ⟨some 4,(.alloc (some 5) (.agg [(none,(.pv none (.int .i64 0))),((some 4),(.agg [(none,(.pv none (.int .i64 0))),(none,(.pv none (.int .i64 0))),(none,(.pv none (.str []))),(none,(.tsl (some 4) []))]))])),[],none⟩,
 ⟨some 3,.mv,[.t 12],none⟩,
 ⟨none,(.store (some 5)),[.t 4,.t 14],none⟩]
def c26r5 : List AOper := [
 ⟨some 15,(.faddr 0),[.t 4],none⟩,
 ⟨some 16,(.load none),[.t 15],none⟩,
 ⟨some 17,(.bin .lss),[.t 16,.c (.pv none (.int .i64 0))],none⟩,
 ⟨some 18,.mv,[.t 17],none⟩,
 ⟨some 19,(.faddr 0),[.t 4],some (18,false)⟩,
 ⟨some 20,(.load none),[.t 19],some (18,false)⟩,
 ⟨some 21,(.bin .gtr),[.t 20,.c (.pv none (.int .i64 1099511627776))],some (18,false)⟩,
 ⟨some 22,.pick,[.t 18,.c (.pv none (.bool true)),.t 21],none⟩,
 ⟨some 23,.mv,[.t 22],none⟩,
 ⟨some 24,.mv,[.t 3],some (23,false)⟩,
 ⟨some 25,(.bin .gtr),[.t 24,.c (.pv none (.int .i64 0))],some (23,false)⟩,
 ⟨some 26,.mv,[.t 25],some (23,false)⟩,
 ⟨some 27,.mv,[.t 0],some (26,true)⟩,
 ⟨some 28,.mv,[.t 3],some (26,true)⟩,
 ⟨some 29,(.bin .sub),[.t 28,.c (.pv none (.int .i64 1))],some (26,true)⟩,
 ⟨some 30,(.iaddr (some 5)),[.t 27,.t 29],some (26,true)⟩,
 ⟨some 31,(.faddr 0),[.t 30],some (26,true)⟩,
 ⟨some 32,(.load none),[.t 31],some (26,true)⟩,
 ⟨some 33,(.faddr 0),[.t 4],some (26,true)⟩,
 ⟨some 34,(.load none),[.t 33],some (26,true)⟩,
 ⟨some 35,(.bin .geq),[.t 32,.t 34],some (26,true)⟩,
 ⟨some 36,.pick,[.t 26,.t 35,.c (.pv none (.bool false))],some (23,false)⟩,
 ⟨some 37,.pick,[.t 23,.c (.pv none (.bool true)),.t 36],none⟩,
 ⟨some 38,.mv,[.t 37],none⟩,
 ⟨some 39,(.faddr 1),[.t 4],some (38,false)⟩,
 ⟨some 40,(.load (some 4)),[.t 39],some (38,false)⟩,
 ⟨some 41,.call,[.c (.pv none (.func (.func 34))),.t 40],some (38,false)⟩,
 ⟨some 42,.not,[.t 41],some (38,false)⟩,
 ⟨some 43,.pick,[.t 38,.c (.pv none (.bool true)),.t 42],none⟩]
def c26r6 : List AOper := [
 ⟨some 2,.mv,[.c (.pv none (.bool false))],none⟩]
def c26k7 : ACode := (.cond (.t 43) (.seq (.region true c26r6 [2]) .ret) .skip)
def c26k8 : ACode := (.block 1 (.seq (.region true c26r4 [0,3,4,8,9,10]) (.seq (.region true c26r5 [0,8,9,10,43]) c26k7)))
def c26r9 : List AOper := [
 ⟨some 44,(.bin .add),[.t 10,.c (.pv none (.int .i64 1))],none⟩,
 ⟨some 10,.mv,[.t 44],none⟩]
def c26b10 : ACode := (.seq (.region true c26r2 [0,8,9,10,11]) (.seq c26k3 (.seq c26k8 (.region true c26r9 [0,8,9,10]))))
def c26k11 : ACode := (.block 0 (.loop [0,8,9,10] c26b10))
def c26r12 : List AOper := [
 ⟨some 45,(.mkmap none),[],none⟩,
 ⟨some 5,.mv,[.t 45],none⟩]
def c26r13 : List AOper := [
 ⟨some 46,.mv,[.t 0],none⟩,
 ⟨some 47,.len,[.t 46],none⟩,
 ⟨some 48,.mv,[.c (.pv none (.int .i64 0))],none⟩]
def c26r14 : List AOper := [
 ⟨some 49,(.bin .lss),[.t 48,.t 47],none⟩]
def c26k15 : ACode := (.cond (.t 49) .skip (.exit 2))
def c26r16 : List AOper := [
 ⟨some 50,(.iaddr (some 5)),[.t 46,.t 48],none⟩,
 ⟨some 51,(.load (some 5)),[.t 50],none⟩,
 ⟨some 7,(.alloc (some 5) (.agg [(none,(.pv none (.int .i64 0))),((some 4),(.agg [(none,(.pv none (.int .i64 0))),(none,(.pv none (.int .i64 0))),(none,(.pv none (.str []))),(none,(.tsl (some 4) []))]))])),[],none⟩,
 ⟨none,(.store (some 5)),[.t 7,.t 51],none⟩]
def c26r17 : List AOper := [
 ⟨some 52,.mv,[.t 0],none⟩,
 ⟨some 53,(.faddr 0),[.t 7],none⟩,
 ⟨some 54,(.load none),[.t 53],none⟩,
 ⟨some 55,.mv,[.t 5],none⟩,
 ⟨some 56,.call,[.c (.pv none (.func (.func 50))),.t 52,.t 54,.t 55],none⟩]
def c26r18 : List AOper := [
 ⟨some 2,.mv,[.c (.pv none (.bool false))],none⟩]
def c26k19 : ACode := (.cond (.t 56) (.seq (.region true c26r18 [2]) .ret) .skip)
def c26k20 : ACode := (.block 3 (.seq (.region true c26r16 [0,5,7,46,47,48]) (.seq (.region true c26r17 [0,5,46,47,48,56]) c26k19)))
def c26r21 : List AOper := [
 ⟨some 57,(.bin .add),[.t 48,.c (.pv none (.int .i64 1))],none⟩,
 ⟨some 48,.mv,[.t 57],none⟩]
def c26b22 : ACode := (.seq (.region true c26r14 [0,5,46,47,48,49]) (.seq c26k15 (.seq c26k20 (.region true c26r21 [0,5,46,47,48]))))
def c26k23 : ACode := (.block 2 (.loop [0,5,46,47,48] c26b22))
def c26r24 : List AOper := [
 ⟨some 2,.mv,[.c (.pv none (.bool true))],none⟩]
def c26 : ACode := (.seq (.region true c26r0 [0]) (.seq (.seq (.region true c26r1 [0,8,9,10]) c26k11) (.seq (.region true c26r12 [0,5]) (.seq (.seq (.region true c26r13 [0,5,46,47,48]) c26k23) (.seq (.region true c26r24 [2]) .ret)))))
def g26 : AFn := ⟨1,[(2,none)],c26,false,[],[],none⟩
theorem tr26 : trFn Try.prog false 26 Try.f26 = some g26 := by kernel_rfl
def c27r0 : List AOper := [
 ⟨some 3,(.box (some 4)),[.t 1],none⟩,
 ⟨some 4,(.alloc (some 4) (.agg [(none,(.pv none (.int .i64 0))),(none,(.pv none (.int .i64 0))),(none,(.pv none (.str []))),(none,(.tsl (some 4) []))])),[],none⟩]
def c27r1 : List AOper := [
 ⟨some 5,.mv,[.t 0],none⟩,
 ⟨some 6,.call,[.c (.pv none (.func (.func 26))),.t 5],none⟩,
 ⟨some 7,.not,[.t 6],none⟩,
 ⟨some 8,.mv,[.t 7],none⟩,
 ⟨some 9,(.load (some 4)),[.t 3],some (8,false)⟩,
 ⟨some 10,.call,[.c (.pv none (.func (.func 34))),.t 9],some (8,false)⟩,
 ⟨some 11,.not,[.t 10],some (8,false)⟩,
 ⟨some 12,.pick,[.t 8,.c (.pv none (.bool true)),.t 11],none⟩]
def c27r2 : List AOper := [
 ⟨some 13,(.build [(none,(.pv none (.int .i64 0))),(none,(.pv none (.int .i64 0))),(none,(.pv none (.str []))),(none,(.tsl (some 4) []))] []),[],none⟩,
 ⟨none,(.store (some 4)),[.t 4,.t 13],none⟩]
def c27k3 : ACode := (.cond (.t 12) (.seq (.region true c27r2 [4]) .ret) .skip)
def c27r4 : List AOper := [
 ⟨some 14,.mv,[.t 0],none⟩,
 ⟨some 15,(.load (some 4)),[.t 3],none⟩,
 ⟨some 16,.call,[.c (.pv none (.func (.func 52))),.t 14,.t 15],none⟩,
 ⟨some 17,.call,[.c (.pv none (.func (.func 51))),.t 16],none⟩,
 ⟨none,(.store (some 4)),[.t 4,.t 17],none⟩]
def c27 : ACode := (.seq (.region true c27r0 [0,3,4]) (.seq (.seq (.region true c27r1 [0,3,4,12]) c27k3) (.seq (.region true c27r4 [4]) .ret)))
def g27 : AFn := ⟨2,[(4,some (some 4))],c27,false,[],[],none⟩
theorem tr27 : trFn Try.prog false 27 Try.f27 = some g27 := by kernel_rfl
def c28r0 : List AOper := [
 ⟨some 3,(.box (some 4)),[.t 1],none⟩,
 ⟨some 4,(.alloc (some 4) (.agg [(none,(.pv none (.int .i64 0))),(none,(.pv none (.int .i64 0))),(none,(.pv none (.str []))),(none,(.tsl (some 4) []))])),[],none⟩]
def c28r1 : List AOper := [
 ⟨some 5,.mv,[.t 0],none⟩,
 ⟨some 6,.call,[.c (.pv none (.func (.func 17))),.t 5],none⟩,
 ⟨some 7,.not,[.t 6],none⟩,
 ⟨some 8,.mv,[.t 7],none⟩,
 ⟨some 9,(.load (some 4)),[.t 3],some (8,false)⟩,
 ⟨some 10,.call,[.c (.pv none (.func (.func 18))),.t 9],some (8,false)⟩,
 ⟨some 11,.not,[.t 10],some (8,false)⟩,
 ⟨some 12,.pick,[.t 8,.c (.pv none (.bool true)),.t 11],none⟩]
def c28r2 : List AOper := [
 ⟨some 13,(.build [(none,(.pv none (.int .i64 0))),(none,(.pv none (.int .i64 0))),(none,(.pv none (.str []))),(none,(.tsl (some 4) []))] []),[],none⟩,
 ⟨none,(.store (some 4)),[.t 4,.t 13],none⟩]
def c28k3 : ACode := (.cond (.t 12) (.seq (.region true c28r2 [4]) .ret) .skip)
def c28r4 : List AOper := [
 ⟨some 14,.mv,[.t 0],none⟩,
 ⟨some 15,(.load (some 4)),[.t 3],none⟩,
 ⟨some 16,.call,[.c (.pv none (.func (.func 54))),.t 14,.t 15],none⟩,
 ⟨some 17,.call,[.c (.pv none (.func (.func 53))),.t 16],none⟩,
 ⟨none,(.store (some 4)),[.t 4,.t 17],none⟩]
def c28 : ACode := (.seq (.region true c28r0 [0,3,4]) (.seq (.seq (.region true c28r1 [0,3,4,12]) c28k3) (.seq (.region true c28r4 [4]) .ret)))
def g28 : AFn := ⟨2,[(4,some (some 4))],c28,false,[],[],none⟩
theorem tr28 : trFn Try.prog false 28 Try.f28 = some g28 := by kernel_rfl
def c29r0 : List AOper := [
 ⟨some 5,(.box (some 4)),[.t 2],none⟩,
 ⟨some 6,.mv,[.c (.pv none (.bool false))],none⟩]
def c29r1 : List AOper := [
 ⟨some 7,.mv,[.t 0],none⟩,
 ⟨some 8,.call,[.c (.pv none (.func (.func 17))),.t 7],none⟩,
 ⟨some 9,.mv,[.t 8],none⟩,
 ⟨some 10,(.load (some 4)),[.t 5],some (9,true)⟩,
 ⟨some 11,.call,[.c (.pv none (.func (.func 18))),.t 10],some (9,true)⟩,
 ⟨some 12,.pick,[.t 9,.t 11,.c (.pv none (.bool false))],none⟩,
 ⟨some 13,.mv,[.t 12],none⟩,
 ⟨some 14,.mv,[.t 0],some (13,true)⟩,
 ⟨some 15,.mv,[.t 1],some (13,true)⟩,
 ⟨some 16,(.load (some 4)),[.t 5],some (13,true)⟩,
 ⟨some 17,.call,[.c (.pv none (.func (.func 55))),.t 14,.t 15,.t 16],some (13,true)⟩,
 ⟨some 18,.pick,[.t 13,.t 17,.c (.pv none (.bool false))],none⟩,
 ⟨some 6,.mv,[.t 18],none⟩]
def c29 : ACode := (.seq (.region true c29r0 [0,1,5]) (.seq (.region true c29r1 [6]) .ret))
def g29 : AFn := ⟨3,[(6,none)],c29,false,[],[],none⟩
theorem tr29 : trFn Try.prog false 29 Try.f29 = some g29 := by kernel_rfl
def c30r0 : List AOper := [
 ⟨some 1,(.box (some 4)),[.t 0],none⟩,
 ⟨some 2,.mv,[.c (.pv none (.int .i64 0))],none⟩]
def c30r1 : List AOper := [
 ⟨some 3,(.load (some 4)),[.t 1],none⟩,
 ⟨some 4,.call,[.c (.pv none (.func (.func 56))),.t 3,.c (.pv none (.int .i64 2001))],none⟩,
 ⟨some 2,.mv,[.t 4],none⟩]
def c30 : ACode := (.seq (.region true c30r0 [1]) (.seq (.region true c30r1 [2]) .ret))
def g30 : AFn := ⟨1,[(2,none)],c30,false,[],[],none⟩
theorem tr30 : trFn Try.prog false 30 Try.f30 = some g30 := by kernel_rfl
def c31r0 : List AOper := [
 ⟨some 4,(.alloc (some 4) (.agg [(none,(.pv none (.int .i64 0))),(none,(.pv none (.int .i64 0))),(none,(.pv none (.str []))),(none,(.tsl (some 4) []))])),[],none⟩]
def c31r1 : List AOper := [
 ⟨some 5,.mv,[.t 0],none⟩,
 ⟨some 6,.mv,[.t 1],none⟩,
 ⟨some 7,(.build [(none,(.pv none (.int .i64 0))),(none,(.pv none (.int .i64 0))),(none,(.pv none (.str []))),(none,(.tsl (some 4) []))] [0,2,3]),[.c (.pv none (.int .i64 3)),.t 5,.t 6],none⟩,
 ⟨none,(.store (some 4)),[.t 4,.t 7],none⟩]
def c31 : ACode := (.seq (.region true c31r0 [0,1,4]) (.seq (.region true c31r1 [4]) .ret))
def g31 : AFn := ⟨2,[(4,some (some 4))],c31,false,[],[],none⟩
theorem tr31 : trFn Try.prog false 31 Try.f31 = some g31 := by kernel_rfl
def c32r0 : List AOper := [
 ⟨some 2,(.alloc (some 4) (.agg [(none,(.pv none (.int .i64 0))),(none,(.pv none (.int .i64 0))),(none,(.pv none (.str []))),(none,(.tsl (some 4) []))])),[],none⟩]
def c32r1 : List AOper := [
 ⟨some 3,.mv,[.t 0],none⟩,
 ⟨some 4,(.build [(none,(.pv none (.int .i64 0))),(none,(.pv none (.int .i64 0))),(none,(.pv none (.str []))),(none,(.tsl (some 4) []))] [1]),[.t 3],none⟩,
 ⟨none,(.store (some 4)),[.t 2,.t 4],none⟩]
def c32 : ACode := (.seq (.region true c32r0 [0,2]) (.seq (.region true c32r1 [2]) .ret))
def g32 : AFn := ⟨1,[(2,some (some 4))],c32,false,[],[],none⟩
theorem tr32 : trFn Try.prog false 32 Try.f32 = some g32 := by kernel_rfl
def c33r0 : List AOper := [
 ⟨some 2,(.alloc (some 4) (.agg [(none,(.pv none (.int .i64 0))),(none,(.pv none (.int .i64 0))),(none,(.pv none (.str []))),(none,(.tsl (some 4) []))])),[],none⟩]
def c33r1 : List AOper := [
 ⟨some 3,.mv,[.t 0],none⟩,
 ⟨some 4,(.build [(none,(.pv none (.int .i64 0))),(none,(.pv none (.int .i64 0))),(none,(.pv none (.str []))),(none,(.tsl (some 4) []))] [0,2]),[.c (.pv none (.int .i64 2)),.t 3],none⟩,
 ⟨none,(.store (some 4)),[.t 2,.t 4],none⟩]
def c33 : ACode := (.seq (.region true c33r0 [0,2]) (.seq (.region true c33r1 [2]) .ret))
def g33 : AFn := ⟨1,[(2,some (some 4))],c33,false,[],[],none⟩
theorem tr33 : trFn Try.prog false 33 Try.f33 = some g33 := by kernel_rfl
def c34r0 : List AOper := [
 ⟨some 1,(.box (some 4)),[.t 0],none⟩,
 ⟨some 2,.mv,[.c (.pv none (.bool false))],none⟩]
def c34r1 : List AOper := [
 ⟨some 3,(.load (some 4)),[.t 1],none⟩,
 ⟨some 4,.call,[.c (.pv none (.func (.func 57))),.t 3],none⟩,
 ⟨some 5,(.bin .leq),[.t 4,.c (.pv none (.int .i64 2000))],none⟩,
 ⟨some 6,.mv,[.t 5],none⟩,
 ⟨some 7,(.load (some 4)),[.t 1],some (6,true)⟩,
 ⟨some 8,.call,[.c (.pv none (.func (.func 58))),.t 7],some (6,true)⟩,
 ⟨some 9,.pick,[.t 6,.t 8,.c (.pv none (.bool false))],none⟩,
 ⟨some 2,.mv,[.t 9],none⟩]
def c34 : ACode := (.seq (.region true c34r0 [1]) (.seq (.region true c34r1 [2]) .ret))
def g34 : AFn := ⟨1,[(2,none)],c34,false,[],[],none⟩
theorem tr34 : trFn Try.prog false 34 Try.f34 = some g34 := by kernel_rfl
def c35r0 : List AOper := [
 ⟨some 2,.mv,[.t 5],none⟩]
def c35r1 : List AOper := [
 ⟨some 7,.mv,[.t 2],none⟩,
 ⟨some 8,(.assert 53 (some 1) (.pv (some 1) (.agg [(none,(.int .i64 0))])) true),[.t 7],none⟩,
 ⟨some 6,.mv,[.t 8],none⟩,
 ⟨some 9,(.extract 0),[.t 6],none⟩,
 ⟨some 10,(.extract 1),[.t 6],none⟩,
 ⟨some 3,(.alloc (some 1) (.pv (some 1) (.agg [(none,(.int .i64 0))]))),[],none⟩,
 ⟨none,(.store (some 1)),[.t 3,.t 9],none⟩,
 ⟨some 4,.mv,[.t 10],none⟩]
def c35r2 : List AOper := [
 ⟨some 11,.mv,[.t 4],none⟩]
def c35r3 : List AOper := [
 ⟨some 12,(.faddr 0),[.t 3],none⟩,
 ⟨some 13,(.load none),[.t 12],none⟩,
 ⟨none,(.storen none),[.t 0,.c (.tsl (some 5) []),.t 12],none⟩,
 ⟨none,(.store none),[.t 1,.t 13],none⟩]
def c35r4 : List AOper := [
 ⟨some 14,.mv,[.t 2],none⟩,
 ⟨some 15,(.isnil true),[.t 14],none⟩]
def c35r5 : List AOper := [
 ⟨some 16,.mv,[.t 2],none⟩,
 ⟨none,.panic,[.t 16],none⟩]
def c35k6 : ACode := (.cond (.t 15) (.region true c35r5 []) .skip)
def c35k7 : ACode := (.cond (.t 11) (.region true c35r3 []) (.seq (.region true c35r4 [2,15]) c35k6))
def c35 : ACode := (.seq (.region true c35r0 [0,1,2]) (.seq (.region true c35r1 [0,1,2,3,4]) (.seq (.region true c35r2 [0,1,2,3,11]) (.seq c35k7 .skip))))
def g35 : AFn := ⟨2,[],c35,true,[],[],some 5⟩
theorem tr35 : trFn Try.prog true 35 Try.f35 = some g35 := by kernel_rfl
def c36r0 : List AOper := [
 ⟨some 2,(.nilsl (some 5)),[],none⟩]
def c36r1 : List AOper := [
 ⟨some 3,(.nilsl (some 5)),[],none⟩]
def c36r2 : List AOper := [
 ⟨some 6,.mv,[.t 0],none⟩,
 ⟨some 7,.len,[.t 6],none⟩,
 ⟨some 8,.mv,[.c (.pv none (.int .i64 0))],none⟩]
def c36r3 : List AOper := [
 ⟨some 9,(.bin .lss),[.t 8,.t 7],none⟩]
def c36k4 : ACode := (.cond (.t 9) .skip (.exit 0))
def c36r5 : List AOper := [
 ⟨some 10,(.iaddr (some 5)),[.t 6,.t 8],none⟩,
 ⟨some 11,(.load (some 5)),[.t 10],none⟩,
 ⟨some 5,(.alloc (some 5) (.agg [(none,(.pv none (.int .i64 0))),((some 4),(.agg [(none,(.pv none (.int .i64 0))),(none,(.pv none (.int .i64 0))),(none,(.pv none (.str []))),(none,(.tsl (some 4) []))]))])),[],none⟩,
 ⟨none,(.store (some 5)),[.t 5,.t 11],none⟩]
def c36r6 : List AOper := [
 ⟨some 12,.mv,[.t 3],none⟩,
 ⟨some 13,(.faddr 0),[.t 5],none⟩,
 ⟨some 14,(.load none),[.t 13],none⟩,
 ⟨some 15,(.faddr 1),[.t 5],none⟩,
 ⟨some 16,(.load (some 4)),[.t 15],none⟩,
 ⟨some 17,.callh,[.c (.pv none (.func (.func 51))),.t 16],none⟩,
 ⟨some 18,(.build [(none,(.pv none (.int .i64 0))),((some 4),(.agg [(none,(.pv none (.int .i64 0))),(none,(.pv none (.int .i64 0))),(none,(.pv none (.str []))),(none,(.tsl (some 4) []))]))] [0,1]),[.t 14,.t 17],none⟩,
 ⟨some 19,(.bslice (some 5)),[.t 18],none⟩,
 ⟨some 20,(.append (some 5)),[.t 12,.t 19],none⟩,
 ⟨some 3,.mv,[.t 20],none⟩]
def c36k7 : ACode := (.block 1 (.seq (.region true c36r5 [3,5,6,7,8]) (.region true c36r6 [3,6,7,8])))
def c36r8 : List AOper := [
 ⟨some 21,(.bin .add),[.t 8,.c (.pv none (.int .i64 1))],none⟩,
 ⟨some 8,.mv,[.t 21],none⟩]
def c36b9 : ACode := (.seq (.region true c36r3 [3,6,7,8,9]) (.seq c36k4 (.seq c36k7 (.region true c36r8 [3,6,7,8]))))
def c36k10 : ACode := (.block 0 (.loop [3,6,7,8] c36b9))
def c36r11 : List AOper := [
 ⟨some 22,.mv,[.t 3],none⟩,
 ⟨some 2,.mv,[.t 22],none⟩]
def c36 : ACode := (.seq (.region true c36r0 [0]) (.seq (.region true c36r1 [0,3]) (.seq (.seq (.region true c36r2 [3,6,7,8]) c36k10) (.seq (.region true c36r11 [2]) .ret))))
def g36 : AFn := ⟨1,[(2,none)],c36,true,[],[],none⟩
theorem tr36 : trFn Try.prog true 36 Try.f36 = some g36 := by kernel_rfl
def c37r0 : List AOper := [
 ⟨some 4,(.box (some 4)),[.t 1],none⟩,
 ⟨some 5,(.box (some 4)),[.t 2],none⟩]
def c37r1 : List AOper := [
 ⟨some 12,(.load (some 4)),[.t 4],none⟩,
 ⟨some 13,(.load (some 4)),[.t 5],none⟩,
 ⟨some 14,(.build [((some 4),(.agg [(none,(.pv none (.int .i64 0))),(none,(.pv none (.int .i64 0))),(none,(.pv none (.str []))),(none,(.tsl (some 4) []))])),((some 4),(.agg [(none,(.pv none (.int .i64 0))),(none,(.pv none (.int .i64 0))),(none,(.pv none (.str []))),(none,(.tsl (some 4) []))]))] [0,1]),[.t 12,.t 13],none⟩,
 ⟨some 15,(.bslo (some 8)),[.t 14],none⟩,
 ⟨some 6,.mv,[.t 15],none⟩]
def c37r2 : List AOper := [
 ⟨some 7,.mv,[.c (.pv none (.int .i64 0))],none⟩]
def c37r3 : List AOper := [
 ⟨some 16,.mv,[.t 6],none⟩,
 ⟨some 17,.len,[.t 16],none⟩,
 ⟨some 18,(.bin .gtr),[.t 17,.c (.pv none (.int .i64 0))],none⟩]
def c37k4 : ACode := (.cond (.t 18) .skip (.exit 0))
def c37r5 : List AOper := [
 ⟨some 21,.mv,[.t 7],none⟩,
 ⟨some 22,(.bin .eql),[.t 21,.c (.pv none (.int .i64 1048576))],none⟩]
def c37r6 : List AOper := [
 ⟨some 23,(.build [(none,(.pv none (.int .i64 0)))] [0]),[.c (.pv none (.int .i64 2))],none⟩,
 ⟨some 24,(.mkiface 53),[.t 23],none⟩,
 ⟨none,.panic,[.t 24],none⟩]
def c37k7 : ACode := (.cond (.t 22) (.region true c37r6 [0,6,7]) .skip)
def c37r8 : List AOper := [
 ⟨some 25,.mv,[.t 6],none⟩,
 ⟨some 26,.mv,[.t 6],none⟩,
 ⟨some 27,.len,[.t 26],none⟩,
 ⟨some 28,(.bin .sub),[.t 27,.c (.pv none (.int .i64 1))],none⟩,
 ⟨some 29,(.iaddr (some 8)),[.t 25,.t 28],none⟩,
 ⟨some 30,(.load (some 8)),[.t 29],none⟩,
 ⟨some 8,(.alloc (some 8) (.agg [((some 4),(.agg [(none,(.pv none (.int .i64 0))),(none,(.pv none (.int .i64 0))),(none,(.pv none (.str []))),(none,(.tsl (some 4) []))])),((some 4),(.agg [(none,(.pv none (.int .i64 0))),(none,(.pv none (.int .i64 0))),(none,(.pv none (.str []))),(none,(.tsl (some 4) []))]))])),[],none⟩,
 ⟨none,(.store (some 8)),[.t 8,.t 30],none⟩]
def c37r9 : List AOper := [
 ⟨some 31,.mv,[.t 6],none⟩,
 ⟨some 32,.mv,[.t 6],none⟩,
 ⟨some 33,.len,[.t 32],none⟩,
 ⟨some 34,(.bin .sub),[.t 33,.c (.pv none (.int .i64 1))],none⟩,
 ⟨some 35,(.slice (some 8) false true),[.t 31,.t 34],none⟩,
 ⟨some 6,.mv,[.t 35],none⟩]
def c37r10 : List AOper := [
 ⟨some 36,.mv,[.t 0],none⟩,
 ⟨some 37,.nilcheck,[.t 36],none⟩,
 ⟨some 38,(.faddr 0),[.t 37],none⟩,
 ⟨some 39,(.load none),[.t 38],none⟩,
 ⟨some 40,(.iaddrA (some 4) 2),[.t 8,.c (.pv none (.int .i64 0))],none⟩,
 ⟨some 41,(.load (some 4)),[.t 40],none⟩,
 ⟨some 42,.callg,[.c (.pv none (.func (.func 52))),.t 39,.t 41],none⟩,
 ⟨some 43,.mv,[.t 0],none⟩,
 ⟨some 44,.nilcheck,[.t 43],none⟩,
 ⟨some 45,(.faddr 0),[.t 44],none⟩,
 ⟨some 46,(.load none),[.t 45],none⟩,
 ⟨some 47,(.iaddrA (some 4) 2),[.t 8,.c (.pv none (.int .i64 1))],none⟩,
 ⟨some 48,(.load (some 4)),[.t 47],none⟩,
 ⟨some 49,.call,[.c (.pv none (.func (.func 52))),.t 46,.t 48],none⟩,
 ⟨some 9,(.alloc (some 4) (.agg [(none,(.pv none (.int .i64 0))),(none,(.pv none (.int .i64 0))),(none,(.pv none (.str []))),(none,(.tsl (some 4) []))])),[],none⟩,
 ⟨some 10,(.alloc (some 4) (.agg [(none,(.pv none (.int .i64 0))),(none,(.pv none (.int .i64 0))),(none,(.pv none (.str []))),(none,(.tsl (some 4) []))])),[],none⟩,
 ⟨none,(.store (some 4)),[.t 9,.t 42],none⟩,
 ⟨none,(.store (some 4)),[.t 10,.t 49],none⟩]
def c37r11 : List AOper := [
 ⟨some 50,.mv,[.t 0],none⟩,
 ⟨some 51,(.load (some 4)),[.t 9],none⟩,
 ⟨some 52,(.load (some 4)),[.t 10],none⟩,
 ⟨some 53,.call,[.c (.pv none (.func (.func 59))),.t 50,.t 51,.t 52],none⟩]
def c37r12 : List AOper := [
 ⟨some 54,(.faddr 3),[.t 9],none⟩,
 ⟨some 55,(.load none),[.t 54],none⟩,
 ⟨some 56,.len,[.t 55],none⟩,
 ⟨some 57,(.bin .sub),[.t 56,.c (.pv none (.int .i64 1))],none⟩,
 ⟨some 11,.mv,[.t 57],none⟩]
def c37r13 : List AOper := [
 ⟨some 58,.mv,[.t 11],none⟩,
 ⟨some 59,(.bin .geq),[.t 58,.c (.pv none (.int .i64 0))],none⟩]
def c37k14 : ACode := (.cond (.t 59) .skip (.exit 2))
def c37r15 : List AOper := [
 ⟨some 62,.mv,[.t 6],none⟩,
 ⟨some 63,(.faddr 3),[.t 9],none⟩,
 ⟨some 64,(.load none),[.t 63],none⟩,
 ⟨some 65,.mv,[.t 11],none⟩,
 ⟨some 66,(.iaddr (some 4)),[.t 64,.t 65],none⟩,
 ⟨some 67,(.load (some 4)),[.t 66],none⟩,
 ⟨some 68,(.faddr 3),[.t 10],none⟩,
 ⟨some 69,(.load none),[.t 68],none⟩,
 ⟨some 70,.mv,[.t 11],none⟩,
 ⟨some 71,(.iaddr (some 4)),[.t 69,.t 70],none⟩,
 ⟨some 72,(.load (some 4)),[.t 71],none⟩,
 ⟨some 73,(.build [((some 4),(.agg [(none,(.pv none (.int .i64 0))),(none,(.pv none (.int .i64 0))),(none,(.pv none (.str []))),(none,(.tsl (some 4) []))])),((some 4),(.agg [(none,(.pv none (.int .i64 0))),(none,(.pv none (.int .i64 0))),(none,(.pv none (.str []))),(none,(.tsl (some 4) []))]))] [0,1]),[.t 67,.t 72],none⟩,
 ⟨some 74,(.bslice (some 8)),[.t 73],none⟩,
 ⟨some 75,(.append (some 8)),[.t 62,.t 74],none⟩,
 ⟨some 6,.mv,[.t 75],none⟩]
def c37k16 : ACode := (.block 3 (.region true c37r15 [0,6,7,9,10,11]))
def c37r17 : List AOper := [
 ⟨some 60,.mv,[.t 11],none⟩,
 ⟨some 61,(.bin .sub),[.t 60,.c (.pv none (.int .i64 1))],none⟩,
 ⟨some 11,.mv,[.t 61],none⟩]
def c37b18 : ACode := (.seq (.seq (.region true c37r13 [0,6,7,9,10,11,59]) c37k14) (.seq c37k16 (.region true c37r17 [0,6,7,9,10,11])))
def c37k19 : ACode := (.block 2 (.loop [0,6,7,9,10,11] c37b18))
def c37k20 : ACode := (.cond (.t 53) (.seq (.region true c37r12 [0,6,7,9,10,11]) c37k19) .skip)
def c37k21 : ACode := (.block 1 (.seq (.seq (.region true c37r5 [0,6,7,22]) c37k7) (.seq (.region true c37r8 [0,6,7,8]) (.seq (.region true c37r9 [0,6,7,8]) (.seq (.region false c37r10 [0,6,7,9,10]) (.seq (.region true c37r11 [0,6,7,9,10,53]) c37k20))))))
def c37r22 : List AOper := [
 ⟨some 19,.mv,[.t 7],none⟩,
 ⟨some 20,(.bin .add),[.t 19,.c (.pv none (.int .i64 1))],none⟩,
 ⟨some 7,.mv,[.t 20],none⟩]
def c37b23 : ACode := (.seq (.seq (.region true c37r3 [0,6,7,18]) c37k4) (.seq c37k21 (.region true c37r22 [0,6,7])))
def c37k24 : ACode := (.block 0 (.loop [0,6,7] c37b23))
def c37 : ACode := (.seq (.region true c37r0 [0,4,5]) (.seq (.region true c37r1 [0,6]) (.seq (.region true c37r2 [0,6,7]) c37k24)))
def g37 : AFn := ⟨3,[],c37,true,[],[],none⟩
theorem tr37 : trFn Try.prog true 37 Try.f37 = some g37 := by kernel_rfl
def c38r0 : List AOper := [
 ⟨some 4,(.box (some 4)),[.t 1],none⟩,
 ⟨some 5,(.box (some 4)),[.t 2],none⟩,
 ⟨some 6,(.nilsl (some 5)),[],none⟩,
 ⟨some 7,.mv,[.c (.pv none (.int .i64 0))],none⟩,
 ⟨some 8,.mv,[.c (.pv none (.int .i64 0))],none⟩]
def c38r1 : List AOper := [
 ⟨some 11,.mv,[.t 0],none⟩,
 ⟨some 12,(.build [(none,(.tsl (some 5) [])),(none,(.pv none (.int .i64 0)))] [0]),[.t 11],none⟩,
 ⟨some 13,(.box (some 2)),[.t 12],none⟩,
 ⟨some 9,.mv,[.t 13],none⟩]
def c38r2 : List AOper := [
 ⟨some 14,.mv,[.t 9],none⟩,
 ⟨some 15,(.load (some 4)),[.t 4],none⟩,
 ⟨some 16,(.load (some 4)),[.t 5],none⟩,
 ⟨some 17,.call,[.c (.pv none (.func (.func 60))),.t 14,.t 15,.t 16],none⟩,
 ⟨some 10,.mv,[.t 17],none⟩]
def c38r3 : List AOper := [
 ⟨some 18,.mv,[.t 10],none⟩,
 ⟨some 19,(.bin .neq),[.t 18,.c (.pv none (.int .i64 0))],none⟩]
def c38r4 : List AOper := [
 ⟨some 20,.mv,[.t 9],none⟩,
 ⟨some 21,.nilcheck,[.t 20],none⟩,
 ⟨some 22,(.faddr 1),[.t 21],none⟩,
 ⟨some 23,(.load none),[.t 22],none⟩,
 ⟨some 24,.mv,[.t 10],none⟩,
 ⟨some 6,(.nilsl (some 5)),[],none⟩,
 ⟨some 7,.mv,[.t 23],none⟩,
 ⟨some 8,.mv,[.t 24],none⟩]
def c38k5 : ACode := (.cond (.t 19) (.seq (.region true c38r4 [6,7,8]) .ret) .skip)
def c38r6 : List AOper := [
 ⟨some 25,.mv,[.t 9],none⟩,
 ⟨some 26,.nilcheck,[.t 25],none⟩,
 ⟨some 27,(.faddr 0),[.t 26],none⟩,
 ⟨some 28,(.load none),[.t 27],none⟩,
 ⟨some 29,.mv,[.t 9],none⟩,
 ⟨some 30,.nilcheck,[.t 29],none⟩,
 ⟨some 31,(.faddr 1),[.t 30],none⟩,
 ⟨some 32,(.load none),[.t 31],none⟩,
 ⟨some 6,.mv,[.t 28],none⟩,
 ⟨some 7,.mv,[.t 32],none⟩,
 ⟨some 8,.mv,[.c (.pv none (.int .i64 0))],none⟩]
def c38 : ACode := (.seq (.region true c38r0 [0,4,5]) (.seq (.region true c38r1 [4,5,9]) (.seq (.region true c38r2 [9,10]) (.seq (.seq (.region true c38r3 [9,10,19]) c38k5) (.seq (.region true c38r6 [6,7,8]) .ret)))))
def g38 : AFn := ⟨3,[(6,none),(7,none),(8,none)],c38,false,[],[],none⟩
theorem tr38 : trFn Try.prog false 38 Try.f38 = some g38 := by kernel_rfl
def c39r0 : List AOper := [
 ⟨some 4,(.box (some 4)),[.t 1],none⟩,
 ⟨some 5,(.box (some 4)),[.t 2],none⟩,
 ⟨some 6,(.nilsl (some 5)),[],none⟩,
 ⟨some 7,.mv,[.c (.pv none (.bool false))],none⟩]
def c39r1 : List AOper := [
 ⟨some 12,(.faddr 0),[.t 4],none⟩,
 ⟨some 13,(.load none),[.t 12],none⟩,
 ⟨some 14,(.bin .eql),[.t 13,.c (.pv none (.int .i64 0))],none⟩]
def c39r2 : List AOper := [
 ⟨some 16,.mv,[.t 0],none⟩,
 ⟨some 17,(.faddr 1),[.t 4],none⟩,
 ⟨some 18,(.load none),[.t 17],none⟩,
 ⟨some 19,.call,[.c (.pv none (.func (.func 61))),.t 16,.t 18],none⟩,
 ⟨some 15,.mv,[.t 19],none⟩,
 ⟨some 20,(.extract 0),[.t 15],none⟩,
 ⟨some 21,(.extract 1),[.t 15],none⟩,
 ⟨some 8,.mv,[.t 20],none⟩,
 ⟨some 9,.mv,[.t 21],none⟩]
def c39r3 : List AOper := [
 ⟨some 22,.mv,[.t 9],none⟩]
def c39r4 : List AOper := [
 ⟨some 23,.mv,[.t 0],none⟩,
 ⟨some 24,.mv,[.t 0],none⟩,
 ⟨some 25,.mv,[.t 8],none⟩,
 ⟨some 26,(.iaddr (some 5)),[.t 24,.t 25],none⟩,
 ⟨some 27,(.faddr 1),[.t 26],none⟩,
 ⟨some 28,(.load (some 4)),[.t 27],none⟩,
 ⟨some 29,(.load (some 4)),[.t 5],none⟩,
 ⟨some 30,.call,[.c (.pv none (.func (.func 62))),.t 28,.t 29],none⟩,
 ⟨some 6,.mv,[.t 23],none⟩,
 ⟨some 7,.mv,[.t 30],none⟩]
def c39k5 : ACode := (.cond (.t 22) (.seq (.region false c39r4 [6,7]) .ret) .skip)
def c39r6 : List AOper := [
 ⟨some 31,.mv,[.t 0],none⟩,
 ⟨some 32,.mv,[.t 8],none⟩,
 ⟨some 33,(.faddr 1),[.t 4],none⟩,
 ⟨some 34,(.load none),[.t 33],none⟩,
 ⟨some 35,(.load (some 4)),[.t 5],none⟩,
 ⟨some 36,(.calln 1),[.t 33,.c (.pv none (.func (.func 51))),.t 35],none⟩,
 ⟨some 37,(.build [(none,(.pv none (.int .i64 0))),((some 4),(.agg [(none,(.pv none (.int .i64 0))),(none,(.pv none (.int .i64 0))),(none,(.pv none (.str []))),(none,(.tsl (some 4) []))]))] [0,1]),[.t 34,.t 36],none⟩,
 ⟨some 38,(.bslice (some 5)),[.t 37],none⟩,
 ⟨some 39,.call,[.c (.pv none (.func (.func 63))),.t 31,.t 32,.t 38],none⟩,
 ⟨some 6,.mv,[.t 39],none⟩,
 ⟨some 7,.mv,[.c (.pv none (.bool true))],none⟩]
def c39k7 : ACode := (.cond (.t 14) (.seq (.region true c39r2 [0,4,5,8,9]) (.seq (.seq (.region true c39r3 [0,4,5,8,22]) c39k5) (.seq (.region false c39r6 [6,7]) .ret))) .skip)
def c39r8 : List AOper := [
 ⟨some 40,(.faddr 0),[.t 4],none⟩,
 ⟨some 41,(.load none),[.t 40],none⟩,
 ⟨some 42,(.faddr 0),[.t 5],none⟩,
 ⟨some 43,(.load none),[.t 42],none⟩,
 ⟨some 44,(.bin .eql),[.t 41,.t 43],none⟩,
 ⟨some 45,.mv,[.t 44],none⟩,
 ⟨some 46,(.faddr 1),[.t 4],some (45,true)⟩,
 ⟨some 47,(.load none),[.t 46],some (45,true)⟩,
 ⟨some 48,(.faddr 1),[.t 5],some (45,true)⟩,
 ⟨some 49,(.load none),[.t 48],some (45,true)⟩,
 ⟨some 50,(.bin .eql),[.t 47,.t 49],some (45,true)⟩,
 ⟨some 51,.pick,[.t 45,.t 50,.c (.pv none (.bool false))],none⟩,
 ⟨some 52,.mv,[.t 51],none⟩,
 ⟨some 53,(.faddr 2),[.t 4],some (52,true)⟩,
 ⟨some 54,(.load none),[.t 53],some (52,true)⟩,
 ⟨some 55,(.faddr 2),[.t 5],some (52,true)⟩,
 ⟨some 56,(.load none),[.t 55],some (52,true)⟩,
 ⟨some 57,(.bin .eql),[.t 54,.t 56],some (52,true)⟩,
 ⟨some 58,.pick,[.t 52,.t 57,.c (.pv none (.bool false))],none⟩,
 ⟨some 59,.mv,[.t 58],none⟩,
 ⟨some 60,(.faddr 3),[.t 4],some (59,true)⟩,
 ⟨some 61,(.load none),[.t 60],some (59,true)⟩,
 ⟨some 62,.len,[.t 61],some (59,true)⟩,
 ⟨some 63,(.faddr 3),[.t 5],some (59,true)⟩,
 ⟨some 64,(.load none),[.t 63],some (59,true)⟩,
 ⟨some 65,.len,[.t 64],some (59,true)⟩,
 ⟨some 66,(.bin .eql),[.t 62,.t 65],some (59,true)⟩,
 ⟨some 67,.pick,[.t 59,.t 66,.c (.pv none (.bool false))],none⟩,
 ⟨some 10,.mv,[.t 67],none⟩]
def c39r9 : List AOper := [
 ⟨some 11,.mv,[.c (.pv none (.int .i64 0))],none⟩]
def c39r10 : List AOper := [
 ⟨some 68,.mv,[.t 11],none⟩,
 ⟨some 69,(.faddr 3),[.t 4],none⟩,
 ⟨some 70,(.load none),[.t 69],none⟩,
 ⟨some 71,.len,[.t 70],none⟩,
 ⟨some 72,(.bin .lss),[.t 68,.t 71],none⟩,
 ⟨some 73,.mv,[.t 72],none⟩,
 ⟨some 74,.mv,[.t 10],some (73,true)⟩,
 ⟨some 75,.pick,[.t 73,.t 74,.c (.pv none (.bool false))],none⟩]
def c39k11 : ACode := (.cond (.t 75) .skip (.exit 0))
def c39r12 : List AOper := [
 ⟨some 79,.mv,[.t 0],none⟩,
 ⟨some 80,(.faddr 3),[.t 4],none⟩,
 ⟨some 81,(.load none),[.t 80],none⟩,
 ⟨some 82,.mv,[.t 11],none⟩,
 ⟨some 83,(.iaddr (some 4)),[.t 81,.t 82],none⟩,
 ⟨some 84,(.load (some 4)),[.t 83],none⟩,
 ⟨some 85,(.faddr 3),[.t 5],none⟩,
 ⟨some 86,(.load none),[.t 85],none⟩,
 ⟨some 87,.mv,[.t 11],none⟩,
 ⟨some 88,(.iaddr (some 4)),[.t 86,.t 87],none⟩,
 ⟨some 89,(.load (some 4)),[.t 88],none⟩,
 ⟨some 90,.call,[.c (.pv none (.func (.func 39))),.t 79,.t 84,.t 89],none⟩,
 ⟨some 78,.mv,[.t 90],none⟩,
 ⟨some 91,(.extract 0),[.t 78],none⟩,
 ⟨some 92,(.extract 1),[.t 78],none⟩,
 ⟨some 0,.mv,[.t 91],none⟩,
 ⟨some 10,.mv,[.t 92],none⟩]
def c39k13 : ACode := (.block 1 (.region true c39r12 [0,4,5,10,11]))
def c39r14 : List AOper := [
 ⟨some 76,.mv,[.t 11],none⟩,
 ⟨some 77,(.bin .add),[.t 76,.c (.pv none (.int .i64 1))],none⟩,
 ⟨some 11,.mv,[.t 77],none⟩]
def c39b15 : ACode := (.seq (.seq (.region true c39r10 [0,4,5,10,11,75]) c39k11) (.seq c39k13 (.region true c39r14 [0,4,5,10,11])))
def c39k16 : ACode := (.block 0 (.loop [0,4,5,10,11] c39b15))
def c39r17 : List AOper := [
 ⟨some 93,.mv,[.t 0],none⟩,
 ⟨some 94,.mv,[.t 10],none⟩,
 ⟨some 6,.mv,[.t 93],none⟩,
 ⟨some 7,.mv,[.t 94],none⟩]
def c39 : ACode := (.seq (.region true c39r0 [0,4,5]) (.seq (.seq (.region true c39r1 [0,4,5,14]) c39k7) (.seq (.region true c39r8 [0,4,5,10]) (.seq (.seq (.region true c39r9 [0,4,5,10,11]) c39k16) (.seq (.region true c39r17 [6,7]) .ret)))))
def g39 : AFn := ⟨3,[(6,none),(7,none)],c39,true,[],[],none⟩
theorem tr39 : trFn Try.prog true 39 Try.f39 = some g39 := by kernel_rfl
def c40r0 : List AOper := [
 ⟨some 4,(.box (some 4)),[.t 1],none⟩,
 ⟨some 5,(.box (some 4)),[.t 2],none⟩,
 ⟨some 6,(.nilsl (some 5)),[],none⟩,
 ⟨some 7,.mv,[.c (.pv none (.bool false))],none⟩]
def c40r1 : List AOper := [
 ⟨some 12,(.faddr 0),[.t 4],none⟩,
 ⟨some 13,(.load none),[.t 12],none⟩,
 ⟨some 14,(.bin .eql),[.t 13,.c (.pv none (.int .i64 0))],none⟩]
def c40r2 : List AOper := [
 ⟨some 15,.mv,[.t 0],none⟩,
 ⟨some 16,(.faddr 1),[.t 4],none⟩,
 ⟨some 17,(.load none),[.t 16],none⟩,
 ⟨some 18,.call,[.c (.pv none (.func (.func 19))),.t 15,.t 17],none⟩,
 ⟨some 8,.mv,[.t 18],none⟩]
def c40r3 : List AOper := [
 ⟨some 19,.mv,[.t 8],none⟩,
 ⟨some 20,(.bin .lss),[.t 19,.c (.pv none (.int .i64 0))],none⟩]
def c40r4 : List AOper := [
 ⟨some 21,.mv,[.t 0],none⟩,
 ⟨some 22,(.faddr 1),[.t 4],none⟩,
 ⟨some 23,(.load none),[.t 22],none⟩,
 ⟨some 24,(.load (some 4)),[.t 5],none⟩,
 ⟨some 25,.callp,[.c (.pv none (.func (.func 53))),.t 24],none⟩,
 ⟨some 26,.callp,[.c (.pv none (.func (.func 64))),.t 21,.t 23,.t 25],none⟩,
 ⟨some 6,.mv,[.t 26],none⟩,
 ⟨some 7,.mv,[.c (.pv none (.bool true))],none⟩]
def c40k5 : ACode := (.cond (.t 20) (.seq (.seq (.settle [0,5]) (.region true c40r4 [6,7])) .ret) .skip)
def c40r6 : List AOper := [
 ⟨some 27,.mv,[.t 0],none⟩,
 ⟨some 28,.mv,[.t 0],none⟩,
 ⟨some 29,.mv,[.t 8],none⟩,
 ⟨some 30,(.iaddr (some 5)),[.t 28,.t 29],none⟩,
 ⟨some 31,(.faddr 1),[.t 30],none⟩,
 ⟨some 32,(.load (some 4)),[.t 31],none⟩,
 ⟨some 33,(.load (some 4)),[.t 5],none⟩,
 ⟨some 34,.call,[.c (.pv none (.func (.func 20))),.t 32,.t 33],none⟩,
 ⟨some 6,.mv,[.t 27],none⟩,
 ⟨some 7,.mv,[.t 34],none⟩]
def c40k7 : ACode := (.cond (.t 14) (.seq (.region true c40r2 [0,4,5,8]) (.seq (.seq (.region true c40r3 [0,4,5,8,20]) c40k5) (.seq (.region false c40r6 [6,7]) .ret))) .skip)
def c40r8 : List AOper := [
 ⟨some 35,(.faddr 0),[.t 4],none⟩,
 ⟨some 36,(.load none),[.t 35],none⟩,
 ⟨some 37,(.faddr 0),[.t 5],none⟩,
 ⟨some 38,(.load none),[.t 37],none⟩,
 ⟨some 39,(.bin .neq),[.t 36,.t 38],none⟩,
 ⟨some 40,.mv,[.t 39],none⟩,
 ⟨some 41,(.faddr 1),[.t 4],some (40,false)⟩,
 ⟨some 42,(.load none),[.t 41],some (40,false)⟩,
 ⟨some 43,(.faddr 1),[.t 5],some (40,false)⟩,
 ⟨some 44,(.load none),[.t 43],some (40,false)⟩,
 ⟨some 45,(.bin .neq),[.t 42,.t 44],some (40,false)⟩,
 ⟨some 46,.pick,[.t 40,.c (.pv none (.bool true)),.t 45],none⟩,
 ⟨some 47,.mv,[.t 46],none⟩,
 ⟨some 48,(.faddr 2),[.t 4],some (47,false)⟩,
 ⟨some 49,(.load none),[.t 48],some (47,false)⟩,
 ⟨some 50,(.faddr 2),[.t 5],some (47,false)⟩,
 ⟨some 51,(.load none),[.t 50],some (47,false)⟩,
 ⟨some 52,(.bin .neq),[.t 49,.t 51],some (47,false)⟩,
 ⟨some 53,.pick,[.t 47,.c (.pv none (.bool true)),.t 52],none⟩,
 ⟨some 54,.mv,[.t 53],none⟩,
 ⟨some 55,(.faddr 3),[.t 4],some (54,false)⟩,
 ⟨some 56,(.load none),[.t 55],some (54,false)⟩,
 ⟨some 57,.len,[.t 56],some (54,false)⟩,
 ⟨some 58,(.faddr 3),[.t 5],some (54,false)⟩,
 ⟨some 59,(.load none),[.t 58],some (54,false)⟩,
 ⟨some 60,.len,[.t 59],some (54,false)⟩,
 ⟨some 61,(.bin .neq),[.t 57,.t 60],some (54,false)⟩,
 ⟨some 62,.pick,[.t 54,.c (.pv none (.bool true)),.t 61],none⟩]
def c40r9 : List AOper := [
 ⟨some 6,(.nilsl (some 5)),[],none⟩,
 ⟨some 7,.mv,[.c (.pv none (.bool false))],none⟩]
def c40k10 : ACode := (.cond (.t 62) (.seq (.region true c40r9 [6,7]) .ret) .skip)
def c40r11 : List AOper := [
 ⟨some 9,.mv,[.c (.pv none (.int .i64 0))],none⟩]
def c40r12 : List AOper := [
 ⟨some 63,.mv,[.t 9],none⟩,
 ⟨some 64,(.faddr 3),[.t 4],none⟩,
 ⟨some 65,(.load none),[.t 64],none⟩,
 ⟨some 66,.len,[.t 65],none⟩,
 ⟨some 67,(.bin .lss),[.t 63,.t 66],none⟩]
def c40k13 : ACode := (.cond (.t 67) .skip (.exit 0))
def c40r14 : List AOper := [
 ⟨some 71,.mv,[.t 0],none⟩,
 ⟨some 72,(.faddr 3),[.t 4],none⟩,
 ⟨some 73,(.load none),[.t 72],none⟩,
 ⟨some 74,.mv,[.t 9],none⟩,
 ⟨some 75,(.iaddr (some 4)),[.t 73,.t 74],none⟩,
 ⟨some 76,(.load (some 4)),[.t 75],none⟩,
 ⟨some 77,(.faddr 3),[.t 5],none⟩,
 ⟨some 78,(.load none),[.t 77],none⟩,
 ⟨some 79,.mv,[.t 9],none⟩,
 ⟨some 80,(.iaddr (some 4)),[.t 78,.t 79],none⟩,
 ⟨some 81,(.load (some 4)),[.t 80],none⟩,
 ⟨some 82,.call,[.c (.pv none (.func (.func 40))),.t 71,.t 76,.t 81],none⟩,
 ⟨some 70,.mv,[.t 82],none⟩,
 ⟨some 83,(.extract 0),[.t 70],none⟩,
 ⟨some 84,(.extract 1),[.t 70],none⟩,
 ⟨some 10,.mv,[.t 83],none⟩,
 ⟨some 11,.mv,[.t 84],none⟩]
def c40r15 : List AOper := [
 ⟨some 85,.mv,[.t 11],none⟩,
 ⟨some 86,.not,[.t 85],none⟩]
def c40r16 : List AOper := [
 ⟨some 6,(.nilsl (some 5)),[],none⟩,
 ⟨some 7,.mv,[.c (.pv none (.bool false))],none⟩]
def c40k17 : ACode := (.cond (.t 86) (.seq (.region true c40r16 [6,7]) .ret) .skip)
def c40r18 : List AOper := [
 ⟨some 87,.mv,[.t 10],none⟩,
 ⟨some 0,.mv,[.t 87],none⟩]
def c40k19 : ACode := (.block 1 (.seq (.region true c40r14 [4,5,9,10,11]) (.seq (.seq (.region true c40r15 [4,5,9,10,86]) c40k17) (.region true c40r18 [0,4,5,9]))))
def c40r20 : List AOper := [
 ⟨some 68,.mv,[.t 9],none⟩,
 ⟨some 69,(.bin .add),[.t 68,.c (.pv none (.int .i64 1))],none⟩,
 ⟨some 9,.mv,[.t 69],none⟩]
def c40b21 : ACode := (.seq (.seq (.region true c40r12 [0,4,5,9,67]) c40k13) (.seq c40k19 (.region true c40r20 [0,4,5,9])))
def c40k22 : ACode := (.block 0 (.loop [0,4,5,9] c40b21))
def c40r23 : List AOper := [
 ⟨some 88,.mv,[.t 0],none⟩,
 ⟨some 6,.mv,[.t 88],none⟩,
 ⟨some 7,.mv,[.c (.pv none (.bool true))],none⟩]
def c40 : ACode := (.seq (.region true c40r0 [0,4,5]) (.seq (.seq (.region true c40r1 [0,4,5,14]) c40k7) (.seq (.seq (.region true c40r8 [0,4,5,62]) c40k10) (.seq (.seq (.region true c40r11 [0,4,5,9]) c40k22) (.seq (.region true c40r23 [6,7]) .ret)))))
def g40 : AFn := ⟨3,[(6,none),(7,none)],c40,false,[],[],none⟩
theorem tr40 : trFn Try.prog false 40 Try.f40 = some g40 := by kernel_rfl
def c41r0 : List AOper := [
 ⟨some 5,(.box (some 4)),[.t 2],none⟩,
 ⟨some 6,.mv,[.c (.pv none (.bool false))],none⟩]
def c41r1 : List AOper := [
 ⟨some 9,(.faddr 0),[.t 5],none⟩,
 ⟨some 10,(.load none),[.t 9],none⟩,
 ⟨some 11,(.bin .eql),[.t 10,.c (.pv none (.int .i64 0))],none⟩]
def c41r2 : List AOper := [
 ⟨some 12,.mv,[.t 0],none⟩,
 ⟨some 13,(.faddr 1),[.t 5],none⟩,
 ⟨some 14,(.load none),[.t 13],none⟩,
 ⟨some 15,.call,[.c (.pv none (.func (.func 19))),.t 12,.t 14],none⟩,
 ⟨some 7,.mv,[.t 15],none⟩]
def c41r3 : List AOper := [
 ⟨some 16,.mv,[.t 7],none⟩,
 ⟨some 17,(.bin .lss),[.t 16,.c (.pv none (.int .i64 0))],none⟩,
 ⟨some 18,.mv,[.t 17],none⟩,
 ⟨some 19,.mv,[.t 1],some (18,false)⟩,
 ⟨some 20,.mv,[.t 7],some (18,false)⟩,
 ⟨some 21,(.iaddr none),[.t 19,.t 20],some (18,false)⟩,
 ⟨some 22,(.load none),[.t 21],some (18,false)⟩,
 ⟨some 23,.pick,[.t 18,.c (.pv none (.bool true)),.t 22],none⟩,
 ⟨some 6,.mv,[.t 23],none⟩]
def c41k4 : ACode := (.cond (.t 11) (.seq (.region true c41r2 [1,7]) (.seq (.region true c41r3 [6]) .ret)) .skip)
def c41r5 : List AOper := [
 ⟨some 8,.mv,[.c (.pv none (.int .i64 0))],none⟩]
def c41r6 : List AOper := [
 ⟨some 24,.mv,[.t 8],none⟩,
 ⟨some 25,(.faddr 3),[.t 5],none⟩,
 ⟨some 26,(.load none),[.t 25],none⟩,
 ⟨some 27,.len,[.t 26],none⟩,
 ⟨some 28,(.bin .lss),[.t 24,.t 27],none⟩]
def c41k7 : ACode := (.cond (.t 28) .skip (.exit 0))
def c41r8 : List AOper := [
 ⟨some 31,.mv,[.t 0],none⟩,
 ⟨some 32,.mv,[.t 1],none⟩,
 ⟨some 33,(.faddr 3),[.t 5],none⟩,
 ⟨some 34,(.load none),[.t 33],none⟩,
 ⟨some 35,.mv,[.t 8],none⟩,
 ⟨some 36,(.iaddr (some 4)),[.t 34,.t 35],none⟩,
 ⟨some 37,(.load (some 4)),[.t 36],none⟩,
 ⟨some 38,.call,[.c (.pv none (.func (.func 41))),.t 31,.t 32,.t 37],none⟩,
 ⟨some 39,.not,[.t 38],none⟩]
def c41r9 : List AOper := [
 ⟨some 6,.mv,[.c (.pv none (.bool false))],none⟩]
def c41k10 : ACode := (.cond (.t 39) (.seq (.region true c41r9 [6]) .ret) .skip)
def c41k11 : ACode := (.block 1 (.seq (.region true c41r8 [0,1,5,8,39]) c41k10))
def c41r12 : List AOper := [
 ⟨some 29,.mv,[.t 8],none⟩,
 ⟨some 30,(.bin .add),[.t 29,.c (.pv none (.int .i64 1))],none⟩,
 ⟨some 8,.mv,[.t 30],none⟩]
def c41b13 : ACode := (.seq (.seq (.region true c41r6 [0,1,5,8,28]) c41k7) (.seq c41k11 (.region true c41r12 [0,1,5,8])))
def c41k14 : ACode := (.block 0 (.loop [0,1,5,8] c41b13))
def c41r15 : List AOper := [
 ⟨some 6,.mv,[.c (.pv none (.bool true))],none⟩]
def c41 : ACode := (.seq (.region true c41r0 [0,1,5]) (.seq (.seq (.region true c41r1 [0,1,5,11]) c41k4) (.seq (.seq (.region true c41r5 [0,1,5,8]) c41k14) (.seq (.region true c41r15 [6]) .ret))))
def g41 : AFn := ⟨3,[(6,none)],c41,false,[],[],none⟩
theorem tr41 : trFn Try.prog false 41 Try.f41 = some g41 := by kernel_rfl
def c42r0 : List AOper := [
 ⟨some 1,(.box (some 4)),[.t 0],none⟩,
 ⟨some 2,.mv,[.c (.pv none (.bool false))],none⟩]
def c42r1 : List AOper := [
 ⟨some 4,(.load (some 4)),[.t 1],none⟩,
 ⟨some 5,.call,[.c (.pv none (.func (.func 65))),.t 4],none⟩,
 ⟨some 6,.not,[.t 5],none⟩]
def c42r2 : List AOper := [
 ⟨some 2,.mv,[.c (.pv none (.bool false))],none⟩]
def c42k3 : ACode := (.cond (.t 6) (.seq (.region true c42r2 [2]) .ret) .skip)
def c42r4 : List AOper := [
 ⟨some 3,.mv,[.c (.pv none (.int .i64 0))],none⟩]
def c42r5 : List AOper := [
 ⟨some 7,.mv,[.t 3],none⟩,
 ⟨some 8,(.faddr 3),[.t 1],none⟩,
 ⟨some 9,(.load none),[.t 8],none⟩,
 ⟨some 10,.len,[.t 9],none⟩,
 ⟨some 11,(.bin .lss),[.t 7,.t 10],none⟩]
def c42k6 : ACode := (.cond (.t 11) .skip (.exit 0))
def c42r7 : List AOper := [
 ⟨some 14,(.faddr 3),[.t 1],none⟩,
 ⟨some 15,(.load none),[.t 14],none⟩,
 ⟨some 16,.mv,[.t 3],none⟩,
 ⟨some 17,(.iaddr (some 4)),[.t 15,.t 16],none⟩,
 ⟨some 18,(.load (some 4)),[.t 17],none⟩,
 ⟨some 19,.call,[.c (.pv none (.func (.func 42))),.t 18],none⟩,
 ⟨some 20,.not,[.t 19],none⟩]
def c42r8 : List AOper := [
 ⟨some 2,.mv,[.c (.pv none (.bool false))],none⟩]
def c42k9 : ACode := (.cond (.t 20) (.seq (.region true c42r8 [2]) .ret) .skip)
def c42k10 : ACode := (.block 1 (.seq (.region true c42r7 [1,3,20]) c42k9))
def c42r11 : List AOper := [
 ⟨some 12,.mv,[.t 3],none⟩,
 ⟨some 13,(.bin .add),[.t 12,.c (.pv none (.int .i64 1))],none⟩,
 ⟨some 3,.mv,[.t 13],none⟩]
def c42b12 : ACode := (.seq (.seq (.region true c42r5 [1,3,11]) c42k6) (.seq c42k10 (.region true c42r11 [1,3])))
def c42k13 : ACode := (.block 0 (.loop [1,3] c42b12))
def c42r14 : List AOper := [
 ⟨some 2,.mv,[.c (.pv none (.bool true))],none⟩]
def c42 : ACode := (.seq (.region true c42r0 [1]) (.seq (.seq (.region true c42r1 [1,6]) c42k3) (.seq (.seq (.region true c42r4 [1,3]) c42k13) (.seq (.region true c42r14 [2]) .ret))))
def g42 : AFn := ⟨1,[(2,none)],c42,false,[],[],none⟩
theorem tr42 : trFn Try.prog false 42 Try.f42 = some g42 := by kernel_rfl
def c43r0 : List AOper := [
 ⟨some 2,(.box (some 4)),[.t 0],none⟩,
 ⟨some 3,(.box (some 4)),[.t 1],none⟩,
 ⟨some 4,.mv,[.c (.pv none (.bool false))],none⟩]
def c43r1 : List AOper := [
 ⟨some 6,(.faddr 0),[.t 2],none⟩,
 ⟨some 7,(.load none),[.t 6],none⟩,
 ⟨some 8,(.faddr 0),[.t 3],none⟩,
 ⟨some 9,(.load none),[.t 8],none⟩,
 ⟨some 10,(.bin .neq),[.t 7,.t 9],none⟩,
 ⟨some 11,.mv,[.t 10],none⟩,
 ⟨some 12,(.faddr 1),[.t 2],some (11,false)⟩,
 ⟨some 13,(.load none),[.t 12],some (11,false)⟩,
 ⟨some 14,(.faddr 1),[.t 3],some (11,false)⟩,
 ⟨some 15,(.load none),[.t 14],some (11,false)⟩,
 ⟨some 16,(.bin .neq),[.t 13,.t 15],some (11,false)⟩,
 ⟨some 17,.pick,[.t 11,.c (.pv none (.bool true)),.t 16],none⟩,
 ⟨some 18,.mv,[.t 17],none⟩,
 ⟨some 19,(.faddr 2),[.t 2],some (18,false)⟩,
 ⟨some 20,(.load none),[.t 19],some (18,false)⟩,
 ⟨some 21,(.faddr 2),[.t 3],some (18,false)⟩,
 ⟨some 22,(.load none),[.t 21],some (18,false)⟩,
 ⟨some 23,(.bin .neq),[.t 20,.t 22],some (18,false)⟩,
 ⟨some 24,.pick,[.t 18,.c (.pv none (.bool true)),.t 23],none⟩,
 ⟨some 25,.mv,[.t 24],none⟩,
 ⟨some 26,(.faddr 3),[.t 2],some (25,false)⟩,
 ⟨some 27,(.load none),[.t 26],some (25,false)⟩,
 ⟨some 28,.len,[.t 27],some (25,false)⟩,
 ⟨some 29,(.faddr 3),[.t 3],some (25,false)⟩,
 ⟨some 30,(.load none),[.t 29],some (25,false)⟩,
 ⟨some 31,.len,[.t 30],some (25,false)⟩,
 ⟨some 32,(.bin .neq),[.t 28,.t 31],some (25,false)⟩,
 ⟨some 33,.pick,[.t 25,.c (.pv none (.bool true)),.t 32],none⟩]
def c43r2 : List AOper := [
 ⟨some 4,.mv,[.c (.pv none (.bool false))],none⟩]
def c43k3 : ACode := (.cond (.t 33) (.seq (.region true c43r2 [4]) .ret) .skip)
def c43r4 : List AOper := [
 ⟨some 5,.mv,[.c (.pv none (.int .i64 0))],none⟩]
def c43r5 : List AOper := [
 ⟨some 34,.mv,[.t 5],none⟩,
 ⟨some 35,(.faddr 3),[.t 2],none⟩,
 ⟨some 36,(.load none),[.t 35],none⟩,
 ⟨some 37,.len,[.t 36],none⟩,
 ⟨some 38,(.bin .lss),[.t 34,.t 37],none⟩]
def c43k6 : ACode := (.cond (.t 38) .skip (.exit 0))
def c43r7 : List AOper := [
 ⟨some 41,(.faddr 3),[.t 2],none⟩,
 ⟨some 42,(.load none),[.t 41],none⟩,
 ⟨some 43,.mv,[.t 5],none⟩,
 ⟨some 44,(.iaddr (some 4)),[.t 42,.t 43],none⟩,
 ⟨some 45,(.load (some 4)),[.t 44],none⟩,
 ⟨some 46,(.faddr 3),[.t 3],none⟩,
 ⟨some 47,(.load none),[.t 46],none⟩,
 ⟨some 48,.mv,[.t 5],none⟩,
 ⟨some 49,(.iaddr (some 4)),[.t 47,.t 48],none⟩,
 ⟨some 50,(.load (some 4)),[.t 49],none⟩,
 ⟨some 51,.call,[.c (.pv none (.func (.func 43))),.t 45,.t 50],none⟩,
 ⟨some 52,.not,[.t 51],none⟩]
def c43r8 : List AOper := [
 ⟨some 4,.mv,[.c (.pv none (.bool false))],none⟩]
def c43k9 : ACode := (.cond (.t 52) (.seq (.region true c43r8 [4]) .ret) .skip)
def c43k10 : ACode := (.block 1 (.seq (.region true c43r7 [2,3,5,52]) c43k9))
def c43r11 : List AOper := [
 ⟨some 39,.mv,[.t 5],none⟩,
 ⟨some 40,(.bin .add),[.t 39,.c (.pv none (.int .i64 1))],none⟩,
 ⟨some 5,.mv,[.t 40],none⟩]
def c43b12 : ACode := (.seq (.seq (.region true c43r5 [2,3,5,38]) c43k6) (.seq c43k10 (.region true c43r11 [2,3,5])))
def c43k13 : ACode := (.block 0 (.loop [2,3,5] c43b12))
def c43r14 : List AOper := [
 ⟨some 4,.mv,[.c (.pv none (.bool true))],none⟩]
def c43 : ACode := (.seq (.region true c43r0 [2,3]) (.seq (.seq (.region true c43r1 [2,3,33]) c43k3) (.seq (.seq (.region true c43r4 [2,3,5]) c43k13) (.seq (.region true c43r14 [4]) .ret))))
def g43 : AFn := ⟨2,[(4,none)],c43,false,[],[],none⟩
theorem tr43 : trFn Try.prog false 43 Try.f43 = some g43 := by kernel_rfl
def c44r0 : List AOper := [
 ⟨some 4,(.box (some 4)),[.t 1],none⟩,
 ⟨some 6,.mv,[.c (.pv none (.int .i64 0))],none⟩]
def c44r1 : List AOper := [
 ⟨some 13,.mv,[.t 0],none⟩,
 ⟨some 14,(.load (some 4)),[.t 4],none⟩,
 ⟨some 15,.call,[.c (.pv none (.func (.func 66))),.t 13,.t 14],none⟩,
 ⟨some 12,.mv,[.t 15],none⟩,
 ⟨some 16,(.extract 0),[.t 12],none⟩,
 ⟨some 17,(.extract 1),[.t 12],none⟩,
 ⟨some 7,(.alloc (some 4) (.agg [(none,(.pv none (.int .i64 0))),(none,(.pv none (.int .i64 0))),(none,(.pv none (.str []))),(none,(.tsl (some 4) []))])),[],none⟩,
 ⟨none,(.store (some 4)),[.t 7,.t 16],none⟩,
 ⟨some 8,.mv,[.t 17],none⟩]
def c44r2 : List AOper := [
 ⟨some 18,.mv,[.t 8],none⟩]
def c44r3 : List AOper := [
 ⟨some 19,.mv,[.t 2],none⟩,
 ⟨some 20,(.faddr 1),[.t 4],none⟩,
 ⟨some 21,(.load none),[.t 20],none⟩,
 ⟨some 22,(.lookup false none (.pv none (.int .i64 0)) false),[.t 19,.t 21],none⟩,
 ⟨some 23,(.bin .eql),[.t 22,.c (.pv none (.int .i64 0))],none⟩]
def c44r4 : List AOper := [
 ⟨some 24,.mv,[.t 2],none⟩,
 ⟨some 25,(.faddr 1),[.t 4],none⟩,
 ⟨some 26,(.load none),[.t 25],none⟩,
 ⟨some 27,.mv,[.t 0],none⟩,
 ⟨some 28,(.load (some 4)),[.t 7],none⟩,
 ⟨some 29,.mv,[.t 2],none⟩,
 ⟨some 30,(.calln 1),[.t 25,.c (.pv none (.func (.func 44))),.t 27,.t 28,.t 29],none⟩,
 ⟨none,(.mapset false none),[.t 24,.t 26,.t 30],none⟩]
def c44k5 : ACode := (.cond (.t 23) (.region false c44r4 [2,4]) .skip)
def c44r6 : List AOper := [
 ⟨some 31,.mv,[.t 2],none⟩,
 ⟨some 32,(.faddr 1),[.t 4],none⟩,
 ⟨some 33,(.load none),[.t 32],none⟩,
 ⟨some 34,(.lookup false none (.pv none (.int .i64 0)) false),[.t 31,.t 33],none⟩,
 ⟨some 6,.mv,[.t 34],none⟩]
def c44k7 : ACode := (.cond (.t 18) (.seq (.seq (.region true c44r3 [0,2,4,7,23]) c44k5) (.seq (.region true c44r6 [6]) .ret)) .skip)
def c44r8 : List AOper := [
 ⟨some 9,.mv,[.c (.pv none (.int .i64 1))],none⟩]
def c44r9 : List AOper := [
 ⟨some 35,(.faddr 3),[.t 4],none⟩,
 ⟨some 36,(.load none),[.t 35],none⟩,
 ⟨some 37,.len,[.t 36],none⟩,
 ⟨some 38,.mv,[.c (.pv none (.int .i64 0))],none⟩]
def c44r10 : List AOper := [
 ⟨some 39,(.bin .lss),[.t 38,.t 37],none⟩]
def c44k11 : ACode := (.cond (.t 39) .skip (.exit 0))
def c44r12 : List AOper := [
 ⟨some 40,(.iaddr (some 4)),[.t 36,.t 38],none⟩,
 ⟨some 41,(.load (some 4)),[.t 40],none⟩,
 ⟨some 11,(.alloc (some 4) (.agg [(none,(.pv none (.int .i64 0))),(none,(.pv none (.int .i64 0))),(none,(.pv none (.str []))),(none,(.tsl (some 4) []))])),[],none⟩,
 ⟨none,(.store (some 4)),[.t 11,.t 41],none⟩]
def c44r13 : List AOper := [
 ⟨some 42,.mv,[.t 9],none⟩,
 ⟨some 43,.mv,[.t 0],none⟩,
 ⟨some 44,(.load (some 4)),[.t 11],none⟩,
 ⟨some 45,.mv,[.t 2],none⟩,
 ⟨some 46,.call,[.c (.pv none (.func (.func 44))),.t 43,.t 44,.t 45],none⟩,
 ⟨some 47,(.bin .add),[.t 42,.t 46],none⟩,
 ⟨some 48,.min,[.t 47,.c (.pv none (.int .i64 2001))],none⟩,
 ⟨some 9,.mv,[.t 48],none⟩]
def c44k14 : ACode := (.block 1 (.seq (.region true c44r12 [0,2,9,11,36,37,38]) (.region true c44r13 [0,2,9,36,37,38])))
def c44r15 : List AOper := [
 ⟨some 49,(.bin .add),[.t 38,.c (.pv none (.int .i64 1))],none⟩,
 ⟨some 38,.mv,[.t 49],none⟩]
def c44b16 : ACode := (.seq (.region true c44r10 [0,2,9,36,37,38,39]) (.seq c44k11 (.seq c44k14 (.region true c44r15 [0,2,9,36,37,38]))))
def c44k17 : ACode := (.block 0 (.loop [0,2,9,36,37,38] c44b16))
def c44r18 : List AOper := [
 ⟨some 50,.mv,[.t 9],none⟩,
 ⟨some 6,.mv,[.t 50],none⟩]
def c44 : ACode := (.seq (.region true c44r0 [0,2,4]) (.seq (.seq (.region true c44r1 [0,2,4,7,8]) (.seq (.region true c44r2 [0,2,4,7,18]) c44k7)) (.seq (.region true c44r8 [0,2,4,9]) (.seq (.seq (.region true c44r9 [0,2,9,36,37,38]) c44k17) (.seq (.region true c44r18 [6]) .ret)))))
def g44 : AFn := ⟨3,[(6,none)],c44,true,[],[],none⟩
theorem tr44 : trFn Try.prog true 44 Try.f44 = some g44 := by kernel_rfl
def c45r0 : List AOper := [
 ⟨some 3,(.box (some 4)),[.t 1],none⟩,
 ⟨some 4,(.alloc (some 4) (.agg [(none,(.pv none (.int .i64 0))),(none,(.pv none (.int .i64 0))),(none,(.pv none (.str []))),(none,(.tsl (some 4) []))])),[],none⟩]
def c45r1 : List AOper := [
 ⟨some 11,.mv,[.t 0],none⟩,
 ⟨some 12,(.load (some 4)),[.t 3],none⟩,
 ⟨some 13,.call,[.c (.pv none (.func (.func 66))),.t 11,.t 12],none⟩,
 ⟨some 10,.mv,[.t 13],none⟩,
 ⟨some 14,(.extract 0),[.t 10],none⟩,
 ⟨some 15,(.extract 1),[.t 10],none⟩,
 ⟨some 5,(.alloc (some 4) (.agg [(none,(.pv none (.int .i64 0))),(none,(.pv none (.int .i64 0))),(none,(.pv none (.str []))),(none,(.tsl (some 4) []))])),[],none⟩,
 ⟨none,(.store (some 4)),[.t 5,.t 14],none⟩,
 ⟨some 6,.mv,[.t 15],none⟩]
def c45r2 : List AOper := [
 ⟨some 16,.mv,[.t 6],none⟩]
def c45r3 : List AOper := [
 ⟨some 17,.mv,[.t 0],none⟩,
 ⟨some 18,(.load (some 4)),[.t 5],none⟩,
 ⟨some 19,.call,[.c (.pv none (.func (.func 45))),.t 17,.t 18],none⟩,
 ⟨none,(.store (some 4)),[.t 4,.t 19],none⟩]
def c45k4 : ACode := (.cond (.t 16) (.seq (.region true c45r3 [4]) .ret) .skip)
def c45r5 : List AOper := [
 ⟨some 20,(.faddr 0),[.t 3],none⟩,
 ⟨some 21,(.load none),[.t 20],none⟩,
 ⟨some 22,(.faddr 1),[.t 3],none⟩,
 ⟨some 23,(.load none),[.t 22],none⟩,
 ⟨some 24,(.faddr 2),[.t 3],none⟩,
 ⟨some 25,(.load none),[.t 24],none⟩,
 ⟨some 26,(.build [(none,(.pv none (.int .i64 0))),(none,(.pv none (.int .i64 0))),(none,(.pv none (.str []))),(none,(.tsl (some 4) []))] [0,1,2]),[.t 21,.t 23,.t 25],none⟩,
 ⟨some 7,(.alloc (some 4) (.agg [(none,(.pv none (.int .i64 0))),(none,(.pv none (.int .i64 0))),(none,(.pv none (.str []))),(none,(.tsl (some 4) []))])),[],none⟩,
 ⟨none,(.store (some 4)),[.t 7,.t 26],none⟩]
def c45r6 : List AOper := [
 ⟨some 27,(.faddr 3),[.t 3],none⟩,
 ⟨some 28,(.load none),[.t 27],none⟩,
 ⟨some 29,.len,[.t 28],none⟩,
 ⟨some 30,.mv,[.c (.pv none (.int .i64 0))],none⟩]
def c45r7 : List AOper := [
 ⟨some 31,(.bin .lss),[.t 30,.t 29],none⟩]
def c45k8 : ACode := (.cond (.t 31) .skip (.exit 0))
def c45r9 : List AOper := [
 ⟨some 32,(.iaddr (some 4)),[.t 28,.t 30],none⟩,
 ⟨some 33,(.load (some 4)),[.t 32],none⟩,
 ⟨some 9,(.alloc (some 4) (.agg [(none,(.pv none (.int .i64 0))),(none,(.pv none (.int .i64 0))),(none,(.pv none (.str []))),(none,(.tsl (some 4) []))])),[],none⟩,
 ⟨none,(.store (some 4)),[.t 9,.t 33],none⟩]
def c45r10 : List AOper := [
 ⟨some 34,(.faddr 3),[.t 7],none⟩,
 ⟨some 35,(.load none),[.t 34],none⟩,
 ⟨some 36,.mv,[.t 0],none⟩,
 ⟨some 37,(.load (some 4)),[.t 9],none⟩,
 ⟨some 38,.callp,[.c (.pv none (.func (.func 45))),.t 36,.t 37],none⟩,
 ⟨some 39,(.bslicep (some 4)),[.t 38],none⟩,
 ⟨some 40,(.append (some 4)),[.t 35,.t 39],none⟩,
 ⟨some 41,(.faddr 3),[.t 7],none⟩,
 ⟨none,(.store none),[.t 41,.t 40],none⟩]
def c45k11 : ACode := (.block 1 (.seq (.region true c45r9 [0,4,7,9,28,29,30]) (.seq (.settle [0,9]) (.region true c45r10 [0,4,7,28,29,30]))))
def c45r12 : List AOper := [
 ⟨some 42,(.bin .add),[.t 30,.c (.pv none (.int .i64 1))],none⟩,
 ⟨some 30,.mv,[.t 42],none⟩]
def c45b13 : ACode := (.seq (.region true c45r7 [0,4,7,28,29,30,31]) (.seq c45k8 (.seq c45k11 (.region true c45r12 [0,4,7,28,29,30]))))
def c45k14 : ACode := (.block 0 (.loop [0,4,7,28,29,30] c45b13))
def c45r15 : List AOper := [
 ⟨some 43,(.load (some 4)),[.t 7],none⟩,
 ⟨none,(.store (some 4)),[.t 4,.t 43],none⟩]
def c45 : ACode := (.seq (.region true c45r0 [0,3,4]) (.seq (.seq (.region true c45r1 [0,3,4,5,6]) (.seq (.region true c45r2 [0,3,4,5,16]) c45k4)) (.seq (.region true c45r5 [0,3,4,7]) (.seq (.seq (.region true c45r6 [0,4,7,28,29,30]) c45k14) (.seq (.region true c45r15 [4]) .ret)))))
def g45 : AFn := ⟨2,[(4,some (some 4))],c45,false,[],[],none⟩
theorem tr45 : trFn Try.prog false 45 Try.f45 = some g45 := by kernel_rfl
def c46r0 : List AOper := [
 ⟨some 3,(.box (some 4)),[.t 1],none⟩,
 ⟨some 4,(.alloc (some 4) (.agg [(none,(.pv none (.int .i64 0))),(none,(.pv none (.int .i64 0))),(none,(.pv none (.str []))),(none,(.tsl (some 4) []))])),[],none⟩,
 ⟨some 5,.mv,[.c (.pv none (.bool false))],none⟩]
def c46r1 : List AOper := [
 ⟨some 9,.mv,[.t 0],none⟩,
 ⟨some 10,(.load (some 4)),[.t 3],none⟩,
 ⟨some 11,.call,[.c (.pv none (.func (.func 67))),.t 9,.t 10,.c (.pv none (.int .i64 2000))],none⟩,
 ⟨some 8,.mv,[.t 11],none⟩,
 ⟨some 12,(.extract 0),[.t 8],none⟩,
 ⟨some 13,(.extract 1),[.t 8],none⟩,
 ⟨some 6,(.alloc (some 4) (.agg [(none,(.pv none (.int .i64 0))),(none,(.pv none (.int .i64 0))),(none,(.pv none (.str []))),(none,(.tsl (some 4) []))])),[],none⟩,
 ⟨none,(.store (some 4)),[.t 6,.t 12],none⟩,
 ⟨some 7,.mv,[.t 13],none⟩]
def c46r2 : List AOper := [
 ⟨some 14,.mv,[.t 7],none⟩,
 ⟨some 15,(.bin .lss),[.t 14,.c (.pv none (.int .i64 0))],none⟩]
def c46r3 : List AOper := [
 ⟨some 16,(.build [(none,(.pv none (.int .i64 0))),(none,(.pv none (.int .i64 0))),(none,(.pv none (.str []))),(none,(.tsl (some 4) []))] []),[],none⟩,
 ⟨none,(.store (some 4)),[.t 4,.t 16],none⟩,
 ⟨some 5,.mv,[.c (.pv none (.bool false))],none⟩]
def c46k4 : ACode := (.cond (.t 15) (.seq (.region true c46r3 [4,5]) .ret) .skip)
def c46r5 : List AOper := [
 ⟨some 17,(.load (some 4)),[.t 6],none⟩,
 ⟨none,(.store (some 4)),[.t 4,.t 17],none⟩,
 ⟨some 5,.mv,[.c (.pv none (.bool true))],none⟩]
def c46 : ACode := (.seq (.region true c46r0 [0,3,4]) (.seq (.region true c46r1 [4,6,7]) (.seq (.seq (.region true c46r2 [4,6,15]) c46k4) (.seq (.region true c46r5 [4,5]) .ret))))
def g46 : AFn := ⟨2,[(4,some (some 4)),(5,none)],c46,false,[],[],none⟩
theorem tr46 : trFn Try.prog false 46 Try.f46 = some g46 := by kernel_rfl
def c47r0 : List AOper := [
 ⟨some 3,(.box (some 4)),[.t 1],none⟩,
 ⟨some 4,(.nilsl none),[],none⟩]
def c47r1 : List AOper := [
 ⟨some 6,(.faddr 0),[.t 3],none⟩,
 ⟨some 7,(.load none),[.t 6],none⟩,
 ⟨some 8,(.bin .eql),[.t 7,.c (.pv none (.int .i64 0))],none⟩,
 ⟨some 9,.mv,[.t 8],none⟩,
 ⟨some 10,.mv,[.t 0],some (9,true)⟩,
 ⟨some 11,(.faddr 1),[.t 3],some (9,true)⟩,
 ⟨some 12,(.load none),[.t 11],some (9,true)⟩,
 ⟨some 13,.call,[.c (.pv none (.func (.func 68))),.t 10,.t 12],some (9,true)⟩,
 ⟨some 14,(.bin .lss),[.t 13,.c (.pv none (.int .i64 0))],some (9,true)⟩,
 ⟨some 15,.pick,[.t 9,.t 14,.c (.pv none (.bool false))],none⟩]
def c47r2 : List AOper := [
 ⟨some 16,.mv,[.t 0],none⟩,
 ⟨some 17,(.faddr 1),[.t 3],none⟩,
 ⟨some 18,(.load none),[.t 17],none⟩,
 ⟨some 19,(.bslice none),[.t 18],none⟩,
 ⟨some 20,(.append none),[.t 16,.t 19],none⟩,
 ⟨some 0,.mv,[.t 20],none⟩]
def c47k3 : ACode := (.cond (.t 15) (.region true c47r2 [0,3]) .skip)
def c47r4 : List AOper := [
 ⟨some 5,.mv,[.c (.pv none (.int .i64 0))],none⟩]
def c47r5 : List AOper := [
 ⟨some 21,.mv,[.t 5],none⟩,
 ⟨some 22,(.faddr 3),[.t 3],none⟩,
 ⟨some 23,(.load none),[.t 22],none⟩,
 ⟨some 24,.len,[.t 23],none⟩,
 ⟨some 25,(.bin .lss),[.t 21,.t 24],none⟩]
def c47k6 : ACode := (.cond (.t 25) .skip (.exit 0))
def c47r7 : List AOper := [
 ⟨some 28,.mv,[.t 0],none⟩,
 ⟨some 29,(.faddr 3),[.t 3],none⟩,
 ⟨some 30,(.load none),[.t 29],none⟩,
 ⟨some 31,.mv,[.t 5],none⟩,
 ⟨some 32,(.iaddr (some 4)),[.t 30,.t 31],none⟩,
 ⟨some 33,(.load (some 4)),[.t 32],none⟩,
 ⟨some 34,.call,[.c (.pv none (.func (.func 47))),.t 28,.t 33],none⟩,
 ⟨some 0,.mv,[.t 34],none⟩]
def c47k8 : ACode := (.block 1 (.region true c47r7 [0,3,5]))
def c47r9 : List AOper := [
 ⟨some 26,.mv,[.t 5],none⟩,
 ⟨some 27,(.bin .add),[.t 26,.c (.pv none (.int .i64 1))],none⟩,
 ⟨some 5,.mv,[.t 27],none⟩]
def c47b10 : ACode := (.seq (.seq (.region true c47r5 [0,3,5,25]) c47k6) (.seq c47k8 (.region true c47r9 [0,3,5])))
def c47k11 : ACode := (.block 0 (.loop [0,3,5] c47b10))
def c47r12 : List AOper := [
 ⟨some 35,.mv,[.t 0],none⟩,
 ⟨some 4,.mv,[.t 35],none⟩]
def c47 : ACode := (.seq (.region true c47r0 [0,3]) (.seq (.seq (.region true c47r1 [0,3,15]) c47k3) (.seq (.seq (.region true c47r4 [0,3,5]) c47k11) (.seq (.region true c47r12 [4]) .ret))))
def g47 : AFn := ⟨2,[(4,none)],c47,true,[],[],none⟩
theorem tr47 : trFn Try.prog true 47 Try.f47 = some g47 := by kernel_rfl
def c48r0 : List AOper := [
 ⟨some 2,(.box (some 4)),[.t 0],none⟩,
 ⟨some 4,(.alloc (some 4) (.agg [(none,(.pv none (.int .i64 0))),(none,(.pv none (.int .i64 0))),(none,(.pv none (.str []))),(none,(.tsl (some 4) []))])),[],none⟩]
def c48r1 : List AOper := [
 ⟨some 7,(.faddr 0),[.t 2],none⟩,
 ⟨some 8,(.load none),[.t 7],none⟩,
 ⟨some 9,(.faddr 1),[.t 2],none⟩,
 ⟨some 10,(.load none),[.t 9],none⟩,
 ⟨some 11,(.faddr 2),[.t 2],none⟩,
 ⟨some 12,(.load none),[.t 11],none⟩,
 ⟨some 13,(.build [(none,(.pv none (.int .i64 0))),(none,(.pv none (.int .i64 0))),(none,(.pv none (.str []))),(none,(.tsl (some 4) []))] [0,1,2]),[.t 8,.t 10,.t 12],none⟩,
 ⟨some 5,(.alloc (some 4) (.agg [(none,(.pv none (.int .i64 0))),(none,(.pv none (.int .i64 0))),(none,(.pv none (.str []))),(none,(.tsl (some 4) []))])),[],none⟩,
 ⟨none,(.store (some 4)),[.t 5,.t 13],none⟩]
def c48r2 : List AOper := [
 ⟨some 14,(.faddr 0),[.t 2],none⟩,
 ⟨some 15,(.load none),[.t 14],none⟩,
 ⟨some 16,(.bin .eql),[.t 15,.c (.pv none (.int .i64 0))],none⟩]
def c48r3 : List AOper := [
 ⟨some 17,(.faddr 1),[.t 2],none⟩,
 ⟨some 18,(.load none),[.t 17],none⟩,
 ⟨some 19,.mv,[.t 1],none⟩,
 ⟨some 20,(.bin .add),[.t 18,.t 19],none⟩,
 ⟨some 21,(.faddr 1),[.t 5],none⟩,
 ⟨none,(.store none),[.t 21,.t 20],none⟩]
def c48k4 : ACode := (.cond (.t 16) (.region true c48r3 [1,2,4,5]) .skip)
def c48r5 : List AOper := [
 ⟨some 6,.mv,[.c (.pv none (.int .i64 0))],none⟩]
def c48r6 : List AOper := [
 ⟨some 22,.mv,[.t 6],none⟩,
 ⟨some 23,(.faddr 3),[.t 2],none⟩,
 ⟨some 24,(.load none),[.t 23],none⟩,
 ⟨some 25,.len,[.t 24],none⟩,
 ⟨some 26,(.bin .lss),[.t 22,.t 25],none⟩]
def c48k7 : ACode := (.cond (.t 26) .skip (.exit 0))
def c48r8 : List AOper := [
 ⟨some 29,(.faddr 3),[.t 5],none⟩,
 ⟨some 30,(.load none),[.t 29],none⟩,
 ⟨some 31,(.faddr 3),[.t 2],none⟩,
 ⟨some 32,(.load none),[.t 31],none⟩,
 ⟨some 33,.mv,[.t 6],none⟩,
 ⟨some 34,(.iaddr (some 4)),[.t 32,.t 33],none⟩,
 ⟨some 35,(.load (some 4)),[.t 34],none⟩,
 ⟨some 36,.mv,[.t 1],none⟩,
 ⟨some 37,.callp,[.c (.pv none (.func (.func 48))),.t 35,.t 36],none⟩,
 ⟨some 38,(.bslicep (some 4)),[.t 37],none⟩,
 ⟨some 39,(.append (some 4)),[.t 30,.t 38],none⟩,
 ⟨some 40,(.faddr 3),[.t 5],none⟩,
 ⟨none,(.store none),[.t 40,.t 39],none⟩]
def c48k9 : ACode := (.block 1 (.seq (.settle [1]) (.region true c48r8 [1,2,4,5,6])))
def c48r10 : List AOper := [
 ⟨some 27,.mv,[.t 6],none⟩,
 ⟨some 28,(.bin .add),[.t 27,.c (.pv none (.int .i64 1))],none⟩,
 ⟨some 6,.mv,[.t 28],none⟩]
def c48b11 : ACode := (.seq (.seq (.region true c48r6 [1,2,4,5,6,26]) c48k7) (.seq c48k9 (.region true c48r10 [1,2,4,5,6])))
def c48k12 : ACode := (.block 0 (.loop [1,2,4,5,6] c48b11))
def c48r13 : List AOper := [
 ⟨some 41,(.load (some 4)),[.t 5],none⟩,
 ⟨none,(.store (some 4)),[.t 4,.t 41],none⟩]
def c48 : ACode := (.seq (.region true c48r0 [1,2,4]) (.seq (.region true c48r1 [1,2,4,5]) (.seq (.seq (.region true c48r2 [1,2,4,5,16]) c48k4) (.seq (.seq (.region true c48r5 [1,2,4,5,6]) c48k12) (.seq (.region true c48r13 [4]) .ret)))))
def g48 : AFn := ⟨2,[(4,some (some 4))],c48,false,[],[],none⟩
theorem tr48 : trFn Try.prog false 48 Try.f48 = some g48 := by kernel_rfl
def c49r0 : List AOper := [
 ⟨some 6,(.box (some 4)),[.t 2],none⟩,
 ⟨some 8,.mv,[.c (.pv none (.bool false))],none⟩]
def c49r1 : List AOper := [
 ⟨some 13,(.faddr 0),[.t 6],none⟩,
 ⟨some 14,(.load none),[.t 13],none⟩,
 ⟨some 15,(.bin .eql),[.t 14,.c (.pv none (.int .i64 0))],none⟩]
def c49r2 : List AOper := [
 ⟨some 17,.mv,[.t 0],none⟩,
 ⟨some 18,(.load (some 4)),[.t 6],none⟩,
 ⟨some 19,.call,[.c (.pv none (.func (.func 66))),.t 17,.t 18],none⟩,
 ⟨some 16,.mv,[.t 19],none⟩,
 ⟨some 20,(.extract 0),[.t 16],none⟩,
 ⟨some 21,(.extract 1),[.t 16],none⟩,
 ⟨some 9,(.alloc (some 4) (.agg [(none,(.pv none (.int .i64 0))),(none,(.pv none (.int .i64 0))),(none,(.pv none (.str []))),(none,(.tsl (some 4) []))])),[],none⟩,
 ⟨none,(.store (some 4)),[.t 9,.t 20],none⟩,
 ⟨some 10,.mv,[.t 21],none⟩]
def c49r3 : List AOper := [
 ⟨some 22,.mv,[.t 10],none⟩,
 ⟨some 23,.not,[.t 22],none⟩]
def c49r4 : List AOper := [
 ⟨some 24,(.faddr 1),[.t 6],none⟩,
 ⟨some 25,(.load none),[.t 24],none⟩,
 ⟨some 26,.mv,[.t 1],none⟩,
 ⟨some 27,(.bin .eql),[.t 25,.t 26],none⟩,
 ⟨some 8,.mv,[.t 27],none⟩]
def c49k5 : ACode := (.cond (.t 23) (.seq (.region true c49r4 [8]) .ret) .skip)
def c49r6 : List AOper := [
 ⟨some 28,.mv,[.t 3],none⟩,
 ⟨some 29,(.faddr 1),[.t 6],none⟩,
 ⟨some 30,(.load none),[.t 29],none⟩,
 ⟨some 31,(.lookup false none (.pv none (.int .i64 0)) false),[.t 28,.t 30],none⟩,
 ⟨some 32,(.bin .add),[.t 31,.c (.pv none (.int .i64 1))],none⟩,
 ⟨none,(.mapset false none),[.t 28,.t 30,.t 32],none⟩]
def c49r7 : List AOper := [
 ⟨some 33,.mv,[.t 3],none⟩,
 ⟨some 34,(.faddr 1),[.t 6],none⟩,
 ⟨some 35,(.load none),[.t 34],none⟩,
 ⟨some 36,(.lookup false none (.pv none (.int .i64 0)) false),[.t 33,.t 35],none⟩,
 ⟨some 37,(.bin .eql),[.t 36,.c (.pv none (.int .i64 1))],none⟩,
 ⟨some 38,.mv,[.t 37],none⟩,
 ⟨some 39,.mv,[.t 0],some (38,true)⟩,
 ⟨some 40,.mv,[.t 1],some (38,true)⟩,
 ⟨some 41,(.load (some 4)),[.t 9],some (38,true)⟩,
 ⟨some 42,.mv,[.t 3],some (38,true)⟩,
 ⟨some 43,.call,[.c (.pv none (.func (.func 49))),.t 39,.t 40,.t 41,.t 42],some (38,true)⟩,
 ⟨some 44,.pick,[.t 38,.t 43,.c (.pv none (.bool false))],none⟩,
 ⟨some 8,.mv,[.t 44],none⟩]
def c49k8 : ACode := (.cond (.t 15) (.seq (.region true c49r2 [0,1,3,6,9,10]) (.seq (.seq (.region true c49r3 [0,1,3,6,9,23]) c49k5) (.seq (.region true c49r6 [0,1,3,6,9]) (.seq (.region true c49r7 [8]) .ret)))) .skip)
def c49r9 : List AOper := [
 ⟨some 45,(.faddr 3),[.t 6],none⟩,
 ⟨some 46,(.load none),[.t 45],none⟩,
 ⟨some 47,.len,[.t 46],none⟩,
 ⟨some 48,.mv,[.c (.pv none (.int .i64 0))],none⟩]
def c49r10 : List AOper := [
 ⟨some 49,(.bin .lss),[.t 48,.t 47],none⟩]
def c49k11 : ACode := (.cond (.t 49) .skip (.exit 0))
def c49r12 : List AOper := [
 ⟨some 50,(.iaddr (some 4)),[.t 46,.t 48],none⟩,
 ⟨some 51,(.load (some 4)),[.t 50],none⟩,
 ⟨some 12,(.alloc (some 4) (.agg [(none,(.pv none (.int .i64 0))),(none,(.pv none (.int .i64 0))),(none,(.pv none (.str []))),(none,(.tsl (some 4) []))])),[],none⟩,
 ⟨none,(.store (some 4)),[.t 12,.t 51],none⟩]
def c49r13 : List AOper := [
 ⟨some 52,.mv,[.t 0],none⟩,
 ⟨some 53,.mv,[.t 1],none⟩,
 ⟨some 54,(.load (some 4)),[.t 12],none⟩,
 ⟨some 55,.mv,[.t 3],none⟩,
 ⟨some 56,.call,[.c (.pv none (.func (.func 49))),.t 52,.t 53,.t 54,.t 55],none⟩]
def c49r14 : List AOper := [
 ⟨some 8,.mv,[.c (.pv none (.bool true))],none⟩]
def c49k15 : ACode := (.cond (.t 56) (.seq (.region true c49r14 [8]) .ret) .skip)
def c49k16 : ACode := (.block 1 (.seq (.region true c49r12 [0,1,3,12,46,47,48]) (.seq (.region true c49r13 [0,1,3,46,47,48,56]) c49k15)))
def c49r17 : List AOper := [
 ⟨some 57,(.bin .add),[.t 48,.c (.pv none (.int .i64 1))],none⟩,
 ⟨some 48,.mv,[.t 57],none⟩]
def c49b18 : ACode := (.seq (.region true c49r10 [0,1,3,46,47,48,49]) (.seq c49k11 (.seq c49k16 (.region true c49r17 [0,1,3,46,47,48]))))
def c49k19 : ACode := (.block 0 (.loop [0,1,3,46,47,48] c49b18))
def c49r20 : List AOper := [
 ⟨some 8,.mv,[.c (.pv none (.bool false))],none⟩]
def c49 : ACode := (.seq (.region true c49r0 [0,1,3,6]) (.seq (.seq (.region true c49r1 [0,1,3,6,15]) c49k8) (.seq (.seq (.region true c49r9 [0,1,3,46,47,48]) c49k19) (.seq (.region true c49r20 [8]) .ret))))
def g49 : AFn := ⟨4,[(8,none)],c49,true,[],[],none⟩
theorem tr49 : trFn Try.prog true 49 Try.f49 = some g49 := by kernel_rfl
def c50r0 : List AOper := [
 ⟨some 6,.mv,[.c (.pv none (.bool false))],none⟩]
def c50r1 : List AOper := [
 ⟨some 11,.mv,[.t 2],none⟩,
 ⟨some 12,.mv,[.t 1],none⟩,
 ⟨some 13,(.lookup false none (.pv none (.int .i64 0)) false),[.t 11,.t 12],none⟩,
 ⟨some 14,(.bin .neq),[.t 13,.c (.pv none (.int .i64 0))],none⟩]
def c50r2 : List AOper := [
 ⟨some 15,.mv,[.t 2],none⟩,
 ⟨some 16,.mv,[.t 1],none⟩,
 ⟨some 17,(.lookup false none (.pv none (.int .i64 0)) false),[.t 15,.t 16],none⟩,
 ⟨some 18,(.bin .eql),[.t 17,.c (.pv none (.int .i64 1))],none⟩,
 ⟨some 6,.mv,[.t 18],none⟩]
def c50k3 : ACode := (.cond (.t 14) (.seq (.region true c50r2 [6]) .ret) .skip)
def c50r4 : List AOper := [
 ⟨some 20,.mv,[.t 0],none⟩,
 ⟨some 21,.mv,[.t 1],none⟩,
 ⟨some 22,(.build [(none,(.pv none (.int .i64 0))),(none,(.pv none (.int .i64 0))),(none,(.pv none (.str []))),(none,(.tsl (some 4) []))] [1]),[.t 21],none⟩,
 ⟨some 23,.call,[.c (.pv none (.func (.func 66))),.t 20,.t 22],none⟩,
 ⟨some 19,.mv,[.t 23],none⟩,
 ⟨some 24,(.extract 0),[.t 19],none⟩,
 ⟨some 25,(.extract 1),[.t 19],none⟩,
 ⟨some 7,(.alloc (some 4) (.agg [(none,(.pv none (.int .i64 0))),(none,(.pv none (.int .i64 0))),(none,(.pv none (.str []))),(none,(.tsl (some 4) []))])),[],none⟩,
 ⟨none,(.store (some 4)),[.t 7,.t 24],none⟩,
 ⟨some 8,.mv,[.t 25],none⟩]
def c50r5 : List AOper := [
 ⟨some 26,.mv,[.t 8],none⟩,
 ⟨some 27,.not,[.t 26],none⟩]
def c50r6 : List AOper := [
 ⟨some 6,.mv,[.c (.pv none (.bool false))],none⟩]
def c50k7 : ACode := (.cond (.t 27) (.seq (.region true c50r6 [6]) .ret) .skip)
def c50r8 : List AOper := [
 ⟨some 28,.mv,[.t 2],none⟩,
 ⟨some 29,.mv,[.t 1],none⟩,
 ⟨none,(.mapset false none),[.t 28,.t 29,.c (.pv none (.int .i64 1))],none⟩]
def c50r9 : List AOper := [
 ⟨some 30,(.load (some 4)),[.t 7],none⟩,
 ⟨some 31,.call,[.c (.pv none (.func (.func 69))),.t 30],none⟩,
 ⟨some 32,.len,[.t 31],none⟩,
 ⟨some 33,.mv,[.c (.pv none (.int .i64 0))],none⟩]
def c50r10 : List AOper := [
 ⟨some 34,(.bin .lss),[.t 33,.t 32],none⟩]
def c50k11 : ACode := (.cond (.t 34) .skip (.exit 0))
def c50r12 : List AOper := [
 ⟨some 35,(.iaddr none),[.t 31,.t 33],none⟩,
 ⟨some 36,(.load none),[.t 35],none⟩,
 ⟨some 10,.mv,[.t 36],none⟩]
def c50r13 : List AOper := [
 ⟨some 37,.mv,[.t 0],none⟩,
 ⟨some 38,.mv,[.t 10],none⟩,
 ⟨some 39,.mv,[.t 2],none⟩,
 ⟨some 40,.call,[.c (.pv none (.func (.func 50))),.t 37,.t 38,.t 39],none⟩]
def c50r14 : List AOper := [
 ⟨some 6,.mv,[.c (.pv none (.bool true))],none⟩]
def c50k15 : ACode := (.cond (.t 40) (.seq (.region true c50r14 [6]) .ret) .skip)
def c50k16 : ACode := (.block 1 (.seq (.region true c50r12 [0,1,2,10,31,32,33]) (.seq (.region true c50r13 [0,1,2,31,32,33,40]) c50k15)))
def c50r17 : List AOper := [
 ⟨some 41,(.bin .add),[.t 33,.c (.pv none (.int .i64 1))],none⟩,
 ⟨some 33,.mv,[.t 41],none⟩]
def c50b18 : ACode := (.seq (.region true c50r10 [0,1,2,31,32,33,34]) (.seq c50k11 (.seq c50k16 (.region true c50r17 [0,1,2,31,32,33]))))
def c50k19 : ACode := (.block 0 (.loop [0,1,2,31,32,33] c50b18))
def c50r20 : List AOper := [
 ⟨some 42,.mv,[.t 2],none⟩,
 ⟨some 43,.mv,[.t 1],none⟩,
 ⟨none,(.mapset false none),[.t 42,.t 43,.c (.pv none (.int .i64 2))],none⟩]
def c50r21 : List AOper := [
 ⟨some 6,.mv,[.c (.pv none (.bool false))],none⟩]
def c50 : ACode := (.seq (.region true c50r0 [0,1,2]) (.seq (.seq (.region true c50r1 [0,1,2,14]) c50k3) (.seq (.region true c50r4 [0,1,2,7,8]) (.seq (.seq (.region true c50r5 [0,1,2,7,27]) c50k7) (.seq (.region true c50r8 [0,1,2,7]) (.seq (.seq (.region true c50r9 [0,1,2,31,32,33]) c50k19) (.seq (.region true c50r20 []) (.seq (.region true c50r21 [6]) .ret))))))))
def g50 : AFn := ⟨3,[(6,none)],c50,true,[],[],none⟩
theorem tr50 : trFn Try.prog true 50 Try.f50 = some g50 := by kernel_rfl
def c51r0 : List AOper := [
 ⟨some 1,(.box (some 4)),[.t 0],none⟩,
 ⟨some 2,(.alloc (some 4) (.agg [(none,(.pv none (.int .i64 0))),(none,(.pv none (.int .i64 0))),(none,(.pv none (.str []))),(none,(.tsl (some 4) []))])),[],none⟩]
def c51r1 : List AOper := [
 ⟨some 3,(.load (some 4)),[.t 1],none⟩,
 ⟨some 4,.call,[.c (.pv none (.func (.func 34))),.t 3],none⟩,
 ⟨some 5,.not,[.t 4],none⟩]
def c51r2 : List AOper := [
 ⟨some 6,(.build [(none,(.pv none (.int .i64 0))),(none,(.pv none (.int .i64 0))),(none,(.pv none (.str []))),(none,(.tsl (some 4) []))] []),[],none⟩,
 ⟨none,(.store (some 4)),[.t 2,.t 6],none⟩]
def c51k3 : ACode := (.cond (.t 5) (.seq (.region true c51r2 [2]) .ret) .skip)
def c51r4 : List AOper := [
 ⟨some 7,(.load (some 4)),[.t 1],none⟩,
 ⟨some 8,.call,[.c (.pv none (.func (.func 70))),.t 7,.c (.pv none (.func (.func 71)))],none⟩,
 ⟨none,(.store (some 4)),[.t 2,.t 8],none⟩]
def c51 : ACode := (.seq (.region true c51r0 [1,2]) (.seq (.seq (.region true c51r1 [1,2,5]) c51k3) (.seq (.region true c51r4 [2]) .ret)))
def g51 : AFn := ⟨1,[(2,some (some 4))],c51,false,[],[],none⟩
theorem tr51 : trFn Try.prog false 51 Try.f51 = some g51 := by kernel_rfl
def c52r0 : List AOper := [
 ⟨some 3,(.box (some 4)),[.t 1],none⟩,
 ⟨some 4,(.alloc (some 4) (.agg [(none,(.pv none (.int .i64 0))),(none,(.pv none (.int .i64 0))),(none,(.pv none (.str []))),(none,(.tsl (some 4) []))])),[],none⟩]
def c52r1 : List AOper := [
 ⟨some 8,.mv,[.t 0],none⟩,
 ⟨some 9,(.load (some 4)),[.t 3],none⟩,
 ⟨some 10,.call,[.c (.pv none (.func (.func 66))),.t 8,.t 9],none⟩,
 ⟨some 7,.mv,[.t 10],none⟩,
 ⟨some 11,(.extract 0),[.t 7],none⟩,
 ⟨some 12,(.extract 1),[.t 7],none⟩,
 ⟨some 5,(.alloc (some 4) (.agg [(none,(.pv none (.int .i64 0))),(none,(.pv none (.int .i64 0))),(none,(.pv none (.str []))),(none,(.tsl (some 4) []))])),[],none⟩,
 ⟨none,(.store (some 4)),[.t 5,.t 11],none⟩,
 ⟨some 6,.mv,[.t 12],none⟩]
def c52r2 : List AOper := [
 ⟨some 13,.mv,[.t 6],none⟩,
 ⟨some 14,.not,[.t 13],none⟩]
def c52r3 : List AOper := [
 ⟨some 15,(.load (some 4)),[.t 3],none⟩,
 ⟨none,(.store (some 4)),[.t 4,.t 15],none⟩]
def c52k4 : ACode := (.cond (.t 14) (.seq (.region true c52r3 [4]) .ret) .skip)
def c52r5 : List AOper := [
 ⟨some 16,(.load (some 4)),[.t 5],none⟩,
 ⟨none,(.store (some 4)),[.t 3,.t 16],none⟩]
def c52k6 : ACode := (.block 1 (.seq (.region true c52r1 [0,3,4,5,6]) (.seq (.seq (.region true c52r2 [0,3,4,5,14]) c52k4) (.region true c52r5 [0,3,4]))))
def c52b7 : ACode := c52k6
def c52k8 : ACode := (.block 0 (.loop [0,3,4] c52b7))
def c52 : ACode := (.seq (.region true c52r0 [0,3,4]) c52k8)
def g52 : AFn := ⟨2,[(4,some (some 4))],c52,true,[],[],none⟩
theorem tr52 : trFn Try.prog true 52 Try.f52 = some g52 := by kernel_rfl
def c53r0 : List AOper := [
 ⟨some 1,(.box (some 4)),[.t 0],none⟩,
 ⟨some 2,(.alloc (some 4) (.agg [(none,(.pv none (.int .i64 0))),(none,(.pv none (.int .i64 0))),(none,(.pv none (.str []))),(none,(.tsl (some 4) []))])),[],none⟩]
def c53r1 : List AOper := [
 ⟨some 3,(.load (some 4)),[.t 1],none⟩,
 ⟨some 4,.call,[.c (.pv none (.func (.func 18))),.t 3],none⟩,
 ⟨some 5,.not,[.t 4],none⟩]
def c53r2 : List AOper := [
 ⟨some 6,(.build [(none,(.pv none (.int .i64 0))),(none,(.pv none (.int .i64 0))),(none,(.pv none (.str []))),(none,(.tsl (some 4) []))] []),[],none⟩,
 ⟨none,(.store (some 4)),[.t 2,.t 6],none⟩]
def c53k3 : ACode := (.cond (.t 5) (.seq (.region true c53r2 [2]) .ret) .skip)
def c53r4 : List AOper := [
 ⟨some 7,(.load (some 4)),[.t 1],none⟩,
 ⟨some 8,.call,[.c (.pv none (.func (.func 72))),.t 7],none⟩,
 ⟨none,(.store (some 4)),[.t 2,.t 8],none⟩]
def c53 : ACode := (.seq (.region true c53r0 [1,2]) (.seq (.seq (.region true c53r1 [1,2,5]) c53k3) (.seq (.region true c53r4 [2]) .ret)))
def g53 : AFn := ⟨1,[(2,some (some 4))],c53,false,[],[],none⟩
theorem tr53 : trFn Try.prog false 53 Try.f53 = some g53 := by kernel_rfl
def c54r0 : List AOper := [
 ⟨some 3,(.box (some 4)),[.t 1],none⟩,
 ⟨some 4,(.alloc (some 4) (.agg [(none,(.pv none (.int .i64 0))),(none,(.pv none (.int .i64 0))),(none,(.pv none (.str []))),(none,(.tsl (some 4) []))])),[],none⟩]
def c54r1 : List AOper := [
 ⟨some 6,(.faddr 0),[.t 3],none⟩,
 ⟨some 7,(.load none),[.t 6],none⟩,
 ⟨some 8,(.bin .eql),[.t 7,.c (.pv none (.int .i64 0))],none⟩]
def c54k2 : ACode := (.cond (.t 8) .skip (.exit 0))
def c54r3 : List AOper := [
 ⟨some 9,.mv,[.t 0],none⟩,
 ⟨some 10,(.faddr 1),[.t 3],none⟩,
 ⟨some 11,(.load none),[.t 10],none⟩,
 ⟨some 12,.call,[.c (.pv none (.func (.func 19))),.t 9,.t 11],none⟩,
 ⟨some 5,.mv,[.t 12],none⟩]
def c54r4 : List AOper := [
 ⟨some 13,.mv,[.t 5],none⟩,
 ⟨some 14,(.bin .lss),[.t 13,.c (.pv none (.int .i64 0))],none⟩]
def c54r5 : List AOper := [
 ⟨some 15,(.load (some 4)),[.t 3],none⟩,
 ⟨none,(.store (some 4)),[.t 4,.t 15],none⟩]
def c54k6 : ACode := (.cond (.t 14) (.seq (.region true c54r5 [4]) .ret) .skip)
def c54r7 : List AOper := [
 ⟨some 16,.mv,[.t 0],none⟩,
 ⟨some 17,.mv,[.t 5],none⟩,
 ⟨some 18,(.iaddr (some 5)),[.t 16,.t 17],none⟩,
 ⟨some 19,(.faddr 1),[.t 18],none⟩,
 ⟨some 20,(.load (some 4)),[.t 19],none⟩,
 ⟨none,(.store (some 4)),[.t 3,.t 20],none⟩]
def c54k8 : ACode := (.block 1 (.seq (.region true c54r3 [0,3,4,5]) (.seq (.seq (.region true c54r4 [0,3,4,5,14]) c54k6) (.region true c54r7 [0,3,4]))))
def c54b9 : ACode := (.seq (.seq (.region true c54r1 [0,3,4,8]) c54k2) c54k8)
def c54k10 : ACode := (.block 0 (.loop [0,3,4] c54b9))
def c54r11 : List AOper := [
 ⟨some 21,(.load (some 4)),[.t 3],none⟩,
 ⟨none,(.store (some 4)),[.t 4,.t 21],none⟩]
def c54 : ACode := (.seq (.region true c54r0 [0,3,4]) (.seq c54k10 (.seq (.region true c54r11 [4]) .ret)))
def g54 : AFn := ⟨2,[(4,some (some 4))],c54,false,[],[],none⟩
theorem tr54 : trFn Try.prog false 54 Try.f54 = some g54 := by kernel_rfl
def c55r0 : List AOper := [
 ⟨some 5,(.box (some 4)),[.t 2],none⟩,
 ⟨some 6,.mv,[.c (.pv none (.bool false))],none⟩]
def c55r1 : List AOper := [
 ⟨some 7,(.alloc none (.tsl none [])),[],none⟩]
def c55r2 : List AOper := [
 ⟨some 8,.mv,[.t 0],none⟩,
 ⟨some 9,.mv,[.t 1],none⟩,
 ⟨some 10,(.load (some 4)),[.t 5],none⟩,
 ⟨some 11,.call,[.c (.pv none (.func (.func 73))),.t 8,.t 9,.t 10,.t 7],none⟩,
 ⟨some 6,.mv,[.t 11],none⟩]
def c55 : ACode := (.seq (.region true c55r0 [0,1,5]) (.seq (.region true c55r1 [0,1,5,7]) (.seq (.region true c55r2 [6]) .ret)))
def g55 : AFn := ⟨3,[(6,none)],c55,false,[],[],none⟩
theorem tr55 : trFn Try.prog false 55 Try.f55 = some g55 := by kernel_rfl
def c56r0 : List AOper := [
 ⟨some 2,(.box (some 4)),[.t 0],none⟩,
 ⟨some 4,.mv,[.c (.pv none (.int .i64 0))],none⟩]
def c56r1 : List AOper := [
 ⟨some 5,.mv,[.c (.pv none (.int .i64 1))],none⟩]
def c56r2 : List AOper := [
 ⟨some 6,.mv,[.c (.pv none (.int .i64 0))],none⟩]
def c56r3 : List AOper := [
 ⟨some 7,.mv,[.t 6],none⟩,
 ⟨some 8,(.faddr 3),[.t 2],none⟩,
 ⟨some 9,(.load none),[.t 8],none⟩,
 ⟨some 10,.len,[.t 9],none⟩,
 ⟨some 11,(.bin .lss),[.t 7,.t 10],none⟩,
 ⟨some 12,.mv,[.t 11],none⟩,
 ⟨some 13,.mv,[.t 5],some (12,true)⟩,
 ⟨some 14,.mv,[.t 1],some (12,true)⟩,
 ⟨some 15,(.bin .lss),[.t 13,.t 14],some (12,true)⟩,
 ⟨some 16,.pick,[.t 12,.t 15,.c (.pv none (.bool false))],none⟩]
def c56k4 : ACode := (.cond (.t 16) .skip (.exit 0))
def c56r5 : List AOper := [
 ⟨some 19,.mv,[.t 5],none⟩,
 ⟨some 20,(.faddr 3),[.t 2],none⟩,
 ⟨some 21,(.load none),[.t 20],none⟩,
 ⟨some 22,.mv,[.t 6],none⟩,
 ⟨some 23,(.iaddr (some 4)),[.t 21,.t 22],none⟩,
 ⟨some 24,(.load (some 4)),[.t 23],none⟩,
 ⟨some 25,.mv,[.t 1],none⟩,
 ⟨some 26,.mv,[.t 5],none⟩,
 ⟨some 27,(.bin .sub),[.t 25,.t 26],none⟩,
 ⟨some 28,.call,[.c (.pv none (.func (.func 56))),.t 24,.t 27],none⟩,
 ⟨some 29,(.bin .add),[.t 19,.t 28],none⟩,
 ⟨some 5,.mv,[.t 29],none⟩]
def c56k6 : ACode := (.block 1 (.region true c56r5 [1,2,5,6]))
def c56r7 : List AOper := [
 ⟨some 17,.mv,[.t 6],none⟩,
 ⟨some 18,(.bin .add),[.t 17,.c (.pv none (.int .i64 1))],none⟩,
 ⟨some 6,.mv,[.t 18],none⟩]
def c56b8 : ACode := (.seq (.seq (.region true c56r3 [1,2,5,6,16]) c56k4) (.seq c56k6 (.region true c56r7 [1,2,5,6])))
def c56k9 : ACode := (.block 0 (.loop [1,2,5,6] c56b8))
def c56r10 : List AOper := [
 ⟨some 30,.mv,[.t 5],none⟩,
 ⟨some 4,.mv,[.t 30],none⟩]
def c56 : ACode := (.seq (.region true c56r0 [1,2]) (.seq (.region true c56r1 [1,2,5]) (.seq (.seq (.region true c56r2 [1,2,5,6]) c56k9) (.seq (.region true c56r10 [4]) .ret))))
def g56 : AFn := ⟨2,[(4,none)],c56,false,[],[],none⟩
theorem tr56 : trFn Try.prog false 56 Try.f56 = some g56 := by kernel_rfl
def c57r0 : List AOper := [
 ⟨some 1,(.box (some 4)),[.t 0],none⟩,
 ⟨some 2,.mv,[.c (.pv none (.int .i64 0))],none⟩]
def c57r1 : List AOper := [
 ⟨some 3,(.alloc none (.pv none (.int .i64 0))),[],none⟩,
 ⟨none,(.store none),[.t 3,.c (.pv none (.int .i64 2001))],none⟩]
def c57r2 : List AOper := [
 ⟨some 4,(.alloc none (.pv none .nilfunc)),[],none⟩]
def c57r3 : List AOper := [
 ⟨some 5,(.mkfunc (.func 74) 0),[.t 3,.t 4],none⟩,
 ⟨none,(.store none),[.t 4,.t 5],none⟩]
def c57r4 : List AOper := [
 ⟨some 6,(.load none),[.t 4],none⟩,
 ⟨some 7,(.load (some 4)),[.t 1],none⟩,
 ⟨some 8,.call,[.t 6,.t 7],none⟩]
def c57r5 : List AOper := [
 ⟨some 9,(.load none),[.t 3],none⟩,
 ⟨some 10,(.bin .sub),[.c (.pv none (.int .i64 2001)),.t 9],none⟩,
 ⟨some 2,.mv,[.t 10],none⟩]
def c57 : ACode := (.seq (.region true c57r0 [1]) (.seq (.region true c57r1 [1,3]) (.seq (.region true c57r2 [1,3,4]) (.seq (.region true c57r3 [1,3,4]) (.seq (.region true c57r4 [3]) (.seq (.region true c57r5 [2]) .ret))))))
def g57 : AFn := ⟨1,[(2,none)],c57,false,[],[],none⟩
theorem tr57 : trFn Try.prog false 57 Try.f57 = some g57 := by kernel_rfl
def c58r0 : List AOper := [
 ⟨some 1,(.box (some 4)),[.t 0],none⟩,
 ⟨some 2,.mv,[.c (.pv none (.bool false))],none⟩]
def c58r1 : List AOper := [
 ⟨some 3,.mv,[.c (.pv none (.bool false))],none⟩]
def c58r2 : List AOper := [
 ⟨some 5,(.faddr 0),[.t 1],none⟩,
 ⟨some 6,(.load none),[.t 5],none⟩]
def c58r3 : List AOper := [
 ⟨some 8,(.bin .eql),[.t 6,.c (.pv none (.int .i64 0))],none⟩,
 ⟨some 7,.mv,[.t 8],none⟩]
def c58r4 : List AOper := [
 ⟨some 9,(.faddr 1),[.t 1],none⟩,
 ⟨some 10,(.load none),[.t 9],none⟩,
 ⟨some 11,(.bin .geq),[.t 10,.c (.pv none (.int .i64 0))],none⟩,
 ⟨some 12,.mv,[.t 11],none⟩,
 ⟨some 13,(.faddr 1),[.t 1],some (12,true)⟩,
 ⟨some 14,(.load none),[.t 13],some (12,true)⟩,
 ⟨some 15,(.bin .leq),[.t 14,.c (.pv none (.int .i64 1099511627776))],some (12,true)⟩,
 ⟨some 16,.pick,[.t 12,.t 15,.c (.pv none (.bool false))],none⟩,
 ⟨some 17,.mv,[.t 16],none⟩,
 ⟨some 18,(.faddr 2),[.t 1],some (17,true)⟩,
 ⟨some 19,(.load none),[.t 18],some (17,true)⟩,
 ⟨some 20,(.bin .eql),[.t 19,.c (.pv none (.str []))],some (17,true)⟩,
 ⟨some 21,.pick,[.t 17,.t 20,.c (.pv none (.bool false))],none⟩,
 ⟨some 22,.mv,[.t 21],none⟩,
 ⟨some 23,(.faddr 3),[.t 1],some (22,true)⟩,
 ⟨some 24,(.load none),[.t 23],some (22,true)⟩,
 ⟨some 25,.len,[.t 24],some (22,true)⟩,
 ⟨some 26,(.bin .eql),[.t 25,.c (.pv none (.int .i64 0))],some (22,true)⟩,
 ⟨some 27,.pick,[.t 22,.t 26,.c (.pv none (.bool false))],none⟩,
 ⟨some 3,.mv,[.t 27],none⟩]
def c58r5 : List AOper := [
 ⟨some 29,(.bin .eql),[.t 6,.c (.pv none (.int .i64 1))],none⟩,
 ⟨some 28,.mv,[.t 29],none⟩]
def c58r6 : List AOper := [
 ⟨some 30,(.faddr 2),[.t 1],none⟩,
 ⟨some 31,(.load none),[.t 30],none⟩,
 ⟨some 32,(.bin .eql),[.t 31,.c (.pv none (.str []))],none⟩,
 ⟨some 33,.mv,[.t 32],none⟩,
 ⟨some 34,(.faddr 3),[.t 1],some (33,true)⟩,
 ⟨some 35,(.load none),[.t 34],some (33,true)⟩,
 ⟨some 36,.len,[.t 35],some (33,true)⟩,
 ⟨some 37,(.bin .eql),[.t 36,.c (.pv none (.int .i64 0))],some (33,true)⟩,
 ⟨some 38,.pick,[.t 33,.t 37,.c (.pv none (.bool false))],none⟩,
 ⟨some 3,.mv,[.t 38],none⟩]
def c58r7 : List AOper := [
 ⟨some 40,(.bin .eql),[.t 6,.c (.pv none (.int .i64 2))],none⟩,
 ⟨some 39,.mv,[.t 40],none⟩]
def c58r8 : List AOper := [
 ⟨some 41,(.faddr 1),[.t 1],none⟩,
 ⟨some 42,(.load none),[.t 41],none⟩,
 ⟨some 43,(.bin .eql),[.t 42,.c (.pv none (.int .i64 0))],none⟩,
 ⟨some 44,.mv,[.t 43],none⟩,
 ⟨some 45,(.faddr 2),[.t 1],some (44,true)⟩,
 ⟨some 46,(.load none),[.t 45],some (44,true)⟩,
 ⟨some 47,.slen,[.t 46],some (44,true)⟩,
 ⟨some 48,(.bin .leq),[.t 47,.c (.pv none (.int .i64 100))],some (44,true)⟩,
 ⟨some 49,.pick,[.t 44,.t 48,.c (.pv none (.bool false))],none⟩,
 ⟨some 50,.mv,[.t 49],none⟩,
 ⟨some 51,(.faddr 3),[.t 1],some (50,true)⟩,
 ⟨some 52,(.load none),[.t 51],some (50,true)⟩,
 ⟨some 53,.len,[.t 52],some (50,true)⟩,
 ⟨some 54,(.bin .eql),[.t 53,.c (.pv none (.int .i64 0))],some (50,true)⟩,
 ⟨some 55,.pick,[.t 50,.t 54,.c (.pv none (.bool false))],none⟩,
 ⟨some 3,.mv,[.t 55],none⟩]
def c58r9 : List AOper := [
 ⟨some 57,(.bin .eql),[.t 6,.c (.pv none (.int .i64 3))],none⟩,
 ⟨some 56,.mv,[.t 57],none⟩]
def c58r10 : List AOper := [
 ⟨some 58,(.faddr 1),[.t 1],none⟩,
 ⟨some 59,(.load none),[.t 58],none⟩,
 ⟨some 60,(.bin .eql),[.t 59,.c (.pv none (.int .i64 0))],none⟩,
 ⟨some 61,.mv,[.t 60],none⟩,
 ⟨some 62,(.faddr 2),[.t 1],some (61,true)⟩,
 ⟨some 63,(.load none),[.t 62],some (61,true)⟩,
 ⟨some 64,.slen,[.t 63],some (61,true)⟩,
 ⟨some 65,(.bin .leq),[.t 64,.c (.pv none (.int .i64 100))],some (61,true)⟩,
 ⟨some 66,.pick,[.t 61,.t 65,.c (.pv none (.bool false))],none⟩,
 ⟨some 67,.mv,[.t 66],none⟩,
 ⟨some 68,(.faddr 3),[.t 1],some (67,true)⟩,
 ⟨some 69,(.load none),[.t 68],some (67,true)⟩,
 ⟨some 70,.len,[.t 69],some (67,true)⟩,
 ⟨some 71,(.bin .gtr),[.t 70,.c (.pv none (.int .i64 0))],some (67,true)⟩,
 ⟨some 72,.pick,[.t 67,.t 71,.c (.pv none (.bool false))],none⟩,
 ⟨some 73,.mv,[.t 72],none⟩,
 ⟨some 74,(.faddr 3),[.t 1],some (73,true)⟩,
 ⟨some 75,(.load none),[.t 74],some (73,true)⟩,
 ⟨some 76,.len,[.t 75],some (73,true)⟩,
 ⟨some 77,(.bin .leq),[.t 76,.c (.pv none (.int .i64 8))],some (73,true)⟩,
 ⟨some 78,.pick,[.t 73,.t 77,.c (.pv none (.bool false))],none⟩,
 ⟨some 3,.mv,[.t 78],none⟩]
def c58k11 : ACode := (.cond (.t 56) (.region true c58r10 [1,3]) .skip)
def c58k12 : ACode := (.cond (.t 39) (.region true c58r8 [1,3]) (.seq (.region true c58r9 [1,3,56]) c58k11))
def c58k13 : ACode := (.cond (.t 28) (.region true c58r6 [1,3]) (.seq (.region true c58r7 [1,3,6,39]) c58k12))
def c58k14 : ACode := (.cond (.t 7) (.region true c58r4 [1,3]) (.seq (.region true c58r5 [1,3,6,28]) c58k13))
def c58k15 : ACode := (.block 0 (.seq (.region true c58r3 [1,3,6,7]) c58k14))
def c58r16 : List AOper := [
 ⟨some 4,.mv,[.c (.pv none (.int .i64 0))],none⟩]
def c58r17 : List AOper := [
 ⟨some 79,.mv,[.t 4],none⟩,
 ⟨some 80,(.faddr 3),[.t 1],none⟩,
 ⟨some 81,(.load none),[.t 80],none⟩,
 ⟨some 82,.len,[.t 81],none⟩,
 ⟨some 83,(.bin .lss),[.t 79,.t 82],none⟩,
 ⟨some 84,.mv,[.t 83],none⟩,
 ⟨some 85,.mv,[.t 3],some (84,true)⟩,
 ⟨some 86,.pick,[.t 84,.t 85,.c (.pv none (.bool false))],none⟩]
def c58k18 : ACode := (.cond (.t 86) .skip (.exit 1))
def c58r19 : List AOper := [
 ⟨some 89,(.faddr 3),[.t 1],none⟩,
 ⟨some 90,(.load none),[.t 89],none⟩,
 ⟨some 91,.mv,[.t 4],none⟩,
 ⟨some 92,(.iaddr (some 4)),[.t 90,.t 91],none⟩,
 ⟨some 93,(.load (some 4)),[.t 92],none⟩,
 ⟨some 94,.call,[.c (.pv none (.func (.func 58))),.t 93],none⟩,
 ⟨some 3,.mv,[.t 94],none⟩]
def c58k20 : ACode := (.block 2 (.region true c58r19 [1,3,4]))
def c58r21 : List AOper := [
 ⟨some 87,.mv,[.t 4],none⟩,
 ⟨some 88,(.bin .add),[.t 87,.c (.pv none (.int .i64 1))],none⟩,
 ⟨some 4,.mv,[.t 88],none⟩]
def c58b22 : ACode := (.seq (.seq (.region true c58r17 [1,3,4,86]) c58k18) (.seq c58k20 (.region true c58r21 [1,3,4])))
def c58k23 : ACode := (.block 1 (.loop [1,3,4] c58b22))
def c58r24 : List AOper := [
 ⟨some 95,.mv,[.t 3],none⟩,
 ⟨some 2,.mv,[.t 95],none⟩]
def c58 : ACode := (.seq (.region true c58r0 [1]) (.seq (.region true c58r1 [1,3]) (.seq (.seq (.region true c58r2 [1,3,6]) c58k15) (.seq (.seq (.region true c58r16 [1,3,4]) c58k23) (.seq (.region true c58r24 [2]) .ret)))))
def g58 : AFn := ⟨1,[(2,none)],c58,false,[],[],none⟩
theorem tr58 : trFn Try.prog false 58 Try.f58 = some g58 := by kernel_rfl
def c59r0 : List AOper := [
 ⟨some 4,(.box (some 4)),[.t 1],none⟩,
 ⟨some 5,(.box (some 4)),[.t 2],none⟩,
 ⟨some 6,.mv,[.c (.pv none (.bool false))],none⟩]
def c59r1 : List AOper := [
 ⟨some 8,(.faddr 0),[.t 4],none⟩,
 ⟨some 9,(.load none),[.t 8],none⟩,
 ⟨some 10,(.bin .eql),[.t 9,.c (.pv none (.int .i64 0))],none⟩,
 ⟨some 11,.mv,[.t 10],none⟩,
 ⟨some 12,(.faddr 0),[.t 5],some (11,true)⟩,
 ⟨some 13,(.load none),[.t 12],some (11,true)⟩,
 ⟨some 14,(.bin .eql),[.t 13,.c (.pv none (.int .i64 0))],some (11,true)⟩,
 ⟨some 15,.pick,[.t 11,.t 14,.c (.pv none (.bool false))],none⟩,
 ⟨some 7,.mv,[.t 15],none⟩]
def c59r2 : List AOper := [
 ⟨some 16,(.faddr 1),[.t 4],none⟩,
 ⟨some 17,(.load none),[.t 16],none⟩,
 ⟨some 18,(.faddr 1),[.t 5],none⟩,
 ⟨some 19,(.load none),[.t 18],none⟩,
 ⟨some 20,(.bin .neq),[.t 17,.t 19],none⟩]
def c59r3 : List AOper := [
 ⟨some 21,.mv,[.t 0],none⟩,
 ⟨some 22,(.faddr 1),[.t 4],none⟩,
 ⟨some 23,(.load none),[.t 22],none⟩,
 ⟨some 24,(.faddr 1),[.t 5],none⟩,
 ⟨some 25,(.load none),[.t 24],none⟩,
 ⟨some 26,.max,[.t 23,.t 25],none⟩,
 ⟨some 27,(.faddr 1),[.t 4],none⟩,
 ⟨some 28,(.load none),[.t 27],none⟩,
 ⟨some 29,(.faddr 1),[.t 5],none⟩,
 ⟨some 30,(.load none),[.t 29],none⟩,
 ⟨some 31,.min,[.t 28,.t 30],none⟩,
 ⟨some 32,(.build [(none,(.pv none (.int .i64 0))),(none,(.pv none (.int .i64 0))),(none,(.pv none (.str []))),(none,(.tsl (some 4) []))] [1]),[.t 31],none⟩,
 ⟨some 33,.call,[.c (.pv none (.func (.func 75))),.t 21,.t 26,.t 32],none⟩]
def c59k4 : ACode := (.cond (.t 20) (.region true c59r3 []) .skip)
def c59r5 : List AOper := [
 ⟨some 35,(.faddr 0),[.t 4],none⟩,
 ⟨some 36,(.load none),[.t 35],none⟩,
 ⟨some 37,(.bin .eql),[.t 36,.c (.pv none (.int .i64 0))],none⟩,
 ⟨some 34,.mv,[.t 37],none⟩]
def c59r6 : List AOper := [
 ⟨some 38,.mv,[.t 0],none⟩,
 ⟨some 39,(.faddr 1),[.t 4],none⟩,
 ⟨some 40,(.load none),[.t 39],none⟩,
 ⟨some 41,(.load (some 4)),[.t 5],none⟩,
 ⟨some 42,.call,[.c (.pv none (.func (.func 75))),.t 38,.t 40,.t 41],none⟩]
def c59r7 : List AOper := [
 ⟨some 44,(.faddr 0),[.t 5],none⟩,
 ⟨some 45,(.load none),[.t 44],none⟩,
 ⟨some 46,(.bin .eql),[.t 45,.c (.pv none (.int .i64 0))],none⟩,
 ⟨some 43,.mv,[.t 46],none⟩]
def c59r8 : List AOper := [
 ⟨some 47,.mv,[.t 0],none⟩,
 ⟨some 48,(.faddr 1),[.t 5],none⟩,
 ⟨some 49,(.load none),[.t 48],none⟩,
 ⟨some 50,(.load (some 4)),[.t 4],none⟩,
 ⟨some 51,.call,[.c (.pv none (.func (.func 75))),.t 47,.t 49,.t 50],none⟩]
def c59r9 : List AOper := [
 ⟨some 53,(.faddr 0),[.t 4],none⟩,
 ⟨some 54,(.load none),[.t 53],none⟩,
 ⟨some 55,(.faddr 0),[.t 5],none⟩,
 ⟨some 56,(.load none),[.t 55],none⟩,
 ⟨some 57,(.bin .neq),[.t 54,.t 56],none⟩,
 ⟨some 58,.mv,[.t 57],none⟩,
 ⟨some 59,(.faddr 1),[.t 4],some (58,false)⟩,
 ⟨some 60,(.load none),[.t 59],some (58,false)⟩,
 ⟨some 61,(.faddr 1),[.t 5],some (58,false)⟩,
 ⟨some 62,(.load none),[.t 61],some (58,false)⟩,
 ⟨some 63,(.bin .neq),[.t 60,.t 62],some (58,false)⟩,
 ⟨some 64,.pick,[.t 58,.c (.pv none (.bool true)),.t 63],none⟩,
 ⟨some 65,.mv,[.t 64],none⟩,
 ⟨some 66,(.faddr 2),[.t 4],some (65,false)⟩,
 ⟨some 67,(.load none),[.t 66],some (65,false)⟩,
 ⟨some 68,(.faddr 2),[.t 5],some (65,false)⟩,
 ⟨some 69,(.load none),[.t 68],some (65,false)⟩,
 ⟨some 70,(.bin .neq),[.t 67,.t 69],some (65,false)⟩,
 ⟨some 71,.pick,[.t 65,.c (.pv none (.bool true)),.t 70],none⟩,
 ⟨some 72,.mv,[.t 71],none⟩,
 ⟨some 73,(.faddr 3),[.t 4],some (72,false)⟩,
 ⟨some 74,(.load none),[.t 73],some (72,false)⟩,
 ⟨some 75,.len,[.t 74],some (72,false)⟩,
 ⟨some 76,(.faddr 3),[.t 5],some (72,false)⟩,
 ⟨some 77,(.load none),[.t 76],some (72,false)⟩,
 ⟨some 78,.len,[.t 77],some (72,false)⟩,
 ⟨some 79,(.bin .neq),[.t 75,.t 78],some (72,false)⟩,
 ⟨some 80,.pick,[.t 72,.c (.pv none (.bool true)),.t 79],none⟩,
 ⟨some 52,.mv,[.t 80],none⟩]
def c59r10 : List AOper := [
 ⟨some 81,(.build [(none,(.pv none (.int .i64 0)))] [0]),[.c (.pv none (.int .i64 4))],none⟩,
 ⟨some 82,(.mkiface 53),[.t 81],none⟩,
 ⟨none,.panic,[.t 82],none⟩]
def c59r11 : List AOper := [
 ⟨some 6,.mv,[.c (.pv none (.bool true))],none⟩]
def c59k12 : ACode := (.cond (.t 52) (.region true c59r10 []) (.seq (.region true c59r11 [6]) .ret))
def c59k13 : ACode := (.cond (.t 43) (.region true c59r8 []) (.seq (.region true c59r9 [52]) c59k12))
def c59k14 : ACode := (.cond (.t 34) (.region true c59r6 []) (.seq (.region true c59r7 [0,4,5,43]) c59k13))
def c59k15 : ACode := (.cond (.t 7) (.seq (.region true c59r2 [0,4,5,20]) c59k4) (.seq (.region true c59r5 [0,4,5,34]) c59k14))
def c59k16 : ACode := (.block 0 (.seq (.region true c59r1 [0,4,5,7]) c59k15))
def c59r17 : List AOper := [
 ⟨some 6,.mv,[.c (.pv none (.bool false))],none⟩]
def c59 : ACode := (.seq (.region true c59r0 [0,4,5]) (.seq c59k16 (.seq (.region true c59r17 [6]) .ret)))
def g59 : AFn := ⟨3,[(6,none)],c59,true,[],[],none⟩
theorem tr59 : trFn Try.prog true 59 Try.f59 = some g59 := by kernel_rfl
def c60r0 : List AOper := [
 ⟨some 4,(.box (some 4)),[.t 1],none⟩,
 ⟨some 5,(.box (some 4)),[.t 2],none⟩,
 ⟨some 6,.mv,[.c (.pv none (.int .i64 0))],none⟩]
def c60r1 : List AOper := [
 ⟨some 9,.mv,[.t 0],none⟩,
 ⟨some 10,.nilcheck,[.t 9],none⟩,
 ⟨some 11,(.faddr 1),[.t 10],none⟩,
 ⟨some 12,(.load none),[.t 11],none⟩,
 ⟨some 13,(.bin .geq),[.t 12,.c (.pv none (.int .i64 1048576))],none⟩]
def c60r2 : List AOper := [
 ⟨some 6,.mv,[.c (.pv none (.int .i64 2))],none⟩]
def c60k3 : ACode := (.cond (.t 13) (.seq (.region true c60r2 [6]) .ret) .skip)
def c60r4 : List AOper := [
 ⟨some 14,.mv,[.t 0],none⟩,
 ⟨some 15,.nilcheck,[.t 14],none⟩,
 ⟨some 16,(.faddr 1),[.t 15],none⟩,
 ⟨some 17,(.load none),[.t 16],none⟩,
 ⟨some 18,(.bin .add),[.t 17,.c (.pv none (.int .i64 1))],none⟩,
 ⟨some 19,.nilcheck,[.t 14],none⟩,
 ⟨some 20,(.faddr 1),[.t 19],none⟩,
 ⟨none,(.store none),[.t 20,.t 18],none⟩]
def c60r5 : List AOper := [
 ⟨some 21,.mv,[.t 0],none⟩,
 ⟨some 22,.nilcheck,[.t 21],none⟩,
 ⟨some 23,(.faddr 0),[.t 22],none⟩,
 ⟨some 24,(.load none),[.t 23],none⟩,
 ⟨some 25,(.load (some 4)),[.t 4],none⟩,
 ⟨some 26,.call,[.c (.pv none (.func (.func 54))),.t 24,.t 25],none⟩,
 ⟨none,(.store (some 4)),[.t 4,.t 26],none⟩]
def c60r6 : List AOper := [
 ⟨some 27,.mv,[.t 0],none⟩,
 ⟨some 28,.nilcheck,[.t 27],none⟩,
 ⟨some 29,(.faddr 0),[.t 28],none⟩,
 ⟨some 30,(.load none),[.t 29],none⟩,
 ⟨some 31,(.load (some 4)),[.t 5],none⟩,
 ⟨some 32,.call,[.c (.pv none (.func (.func 54))),.t 30,.t 31],none⟩,
 ⟨none,(.store (some 4)),[.t 5,.t 32],none⟩]
def c60r7 : List AOper := [
 ⟨some 33,(.faddr 0),[.t 4],none⟩,
 ⟨some 34,(.load none),[.t 33],none⟩,
 ⟨some 35,(.bin .eql),[.t 34,.c (.pv none (.int .i64 0))],none⟩,
 ⟨some 36,.mv,[.t 35],none⟩,
 ⟨some 37,(.faddr 0),[.t 5],some (36,true)⟩,
 ⟨some 38,(.load none),[.t 37],some (36,true)⟩,
 ⟨some 39,(.bin .eql),[.t 38,.c (.pv none (.int .i64 0))],some (36,true)⟩,
 ⟨some 40,.pick,[.t 36,.t 39,.c (.pv none (.bool false))],none⟩]
def c60r8 : List AOper := [
 ⟨some 42,(.faddr 1),[.t 4],none⟩,
 ⟨some 43,(.load none),[.t 42],none⟩,
 ⟨some 44,(.faddr 1),[.t 5],none⟩,
 ⟨some 45,(.load none),[.t 44],none⟩,
 ⟨some 46,(.bin .gtr),[.t 43,.t 45],none⟩,
 ⟨some 41,.mv,[.t 46],none⟩]
def c60r9 : List AOper := [
 ⟨some 47,.mv,[.t 0],none⟩,
 ⟨some 48,.mv,[.t 0],none⟩,
 ⟨some 49,.nilcheck,[.t 48],none⟩,
 ⟨some 50,(.faddr 0),[.t 49],none⟩,
 ⟨some 51,(.load none),[.t 50],none⟩,
 ⟨some 52,(.faddr 1),[.t 4],none⟩,
 ⟨some 53,(.load none),[.t 52],none⟩,
 ⟨some 54,(.load (some 4)),[.t 5],none⟩,
 ⟨some 55,.call,[.c (.pv none (.func (.func 64))),.t 51,.t 53,.t 54],none⟩,
 ⟨some 56,.nilcheck,[.t 47],none⟩,
 ⟨some 57,(.faddr 0),[.t 56],none⟩,
 ⟨none,(.store none),[.t 57,.t 55],none⟩]
def c60r10 : List AOper := [
 ⟨some 59,(.faddr 1),[.t 4],none⟩,
 ⟨some 60,(.load none),[.t 59],none⟩,
 ⟨some 61,(.faddr 1),[.t 5],none⟩,
 ⟨some 62,(.load none),[.t 61],none⟩,
 ⟨some 63,(.bin .lss),[.t 60,.t 62],none⟩,
 ⟨some 58,.mv,[.t 63],none⟩]
def c60r11 : List AOper := [
 ⟨some 64,.mv,[.t 0],none⟩,
 ⟨some 65,.mv,[.t 0],none⟩,
 ⟨some 66,.nilcheck,[.t 65],none⟩,
 ⟨some 67,(.faddr 0),[.t 66],none⟩,
 ⟨some 68,(.load none),[.t 67],none⟩,
 ⟨some 69,(.faddr 1),[.t 5],none⟩,
 ⟨some 70,(.load none),[.t 69],none⟩,
 ⟨some 71,(.load (some 4)),[.t 4],none⟩,
 ⟨some 72,.call,[.c (.pv none (.func (.func 64))),.t 68,.t 70,.t 71],none⟩,
 ⟨some 73,.nilcheck,[.t 64],none⟩,
 ⟨some 74,(.faddr 0),[.t 73],none⟩,
 ⟨none,(.store none),[.t 74,.t 72],none⟩]
def c60k12 : ACode := (.cond (.t 58) (.region false c60r11 []) .skip)
def c60k13 : ACode := (.cond (.t 41) (.region false c60r9 []) (.seq (.region true c60r10 [0,4,5,58]) c60k12))
def c60k14 : ACode := (.block 0 (.seq (.region true c60r8 [0,4,5,41]) c60k13))
def c60r15 : List AOper := [
 ⟨some 6,.mv,[.c (.pv none (.int .i64 0))],none⟩]
def c60k16 : ACode := (.cond (.t 40) (.seq c60k14 (.seq (.region true c60r15 [6]) .ret)) .skip)
def c60r17 : List AOper := [
 ⟨some 75,(.faddr 0),[.t 5],none⟩,
 ⟨some 76,(.load none),[.t 75],none⟩,
 ⟨some 77,(.bin .eql),[.t 76,.c (.pv none (.int .i64 0))],none⟩]
def c60r18 : List AOper := [
 ⟨some 78,(.load (some 4)),[.t 5],none⟩,
 ⟨some 79,(.load (some 4)),[.t 4],none⟩,
 ⟨none,(.store (some 4)),[.t 4,.t 78],none⟩,
 ⟨none,(.store (some 4)),[.t 5,.t 79],none⟩]
def c60k19 : ACode := (.cond (.t 77) (.region true c60r18 [0,4,5]) .skip)
def c60r20 : List AOper := [
 ⟨some 80,(.faddr 0),[.t 4],none⟩,
 ⟨some 81,(.load none),[.t 80],none⟩,
 ⟨some 82,(.bin .eql),[.t 81,.c (.pv none (.int .i64 0))],none⟩]
def c60r21 : List AOper := [
 ⟨some 83,.mv,[.t 0],none⟩,
 ⟨some 84,.nilcheck,[.t 83],none⟩,
 ⟨some 85,(.faddr 0),[.t 84],none⟩,
 ⟨some 86,(.load none),[.t 85],none⟩,
 ⟨some 87,(.faddr 1),[.t 4],none⟩,
 ⟨some 88,(.load none),[.t 87],none⟩,
 ⟨some 89,(.load (some 4)),[.t 5],none⟩,
 ⟨some 90,.call,[.c (.pv none (.func (.func 55))),.t 86,.t 88,.t 89],none⟩]
def c60r22 : List AOper := [
 ⟨some 6,.mv,[.c (.pv none (.int .i64 9))],none⟩]
def c60k23 : ACode := (.cond (.t 90) (.seq (.region true c60r22 [6]) .ret) .skip)
def c60r24 : List AOper := [
 ⟨some 91,.mv,[.t 0],none⟩,
 ⟨some 92,.mv,[.t 0],none⟩,
 ⟨some 93,.nilcheck,[.t 92],none⟩,
 ⟨some 94,(.faddr 0),[.t 93],none⟩,
 ⟨some 95,(.load none),[.t 94],none⟩,
 ⟨some 96,(.faddr 1),[.t 4],none⟩,
 ⟨some 97,(.load none),[.t 96],none⟩,
 ⟨some 98,(.load (some 4)),[.t 5],none⟩,
 ⟨some 99,.call,[.c (.pv none (.func (.func 64))),.t 95,.t 97,.t 98],none⟩,
 ⟨some 100,.nilcheck,[.t 91],none⟩,
 ⟨some 101,(.faddr 0),[.t 100],none⟩,
 ⟨none,(.store none),[.t 101,.t 99],none⟩]
def c60r25 : List AOper := [
 ⟨some 6,.mv,[.c (.pv none (.int .i64 0))],none⟩]
def c60k26 : ACode := (.cond (.t 82) (.seq (.seq (.region true c60r21 [0,4,5,90]) c60k23) (.seq (.region false c60r24 []) (.seq (.region true c60r25 [6]) .ret))) .skip)
def c60r27 : List AOper := [
 ⟨some 102,(.faddr 0),[.t 4],none⟩,
 ⟨some 103,(.load none),[.t 102],none⟩,
 ⟨some 104,(.faddr 0),[.t 5],none⟩,
 ⟨some 105,(.load none),[.t 104],none⟩,
 ⟨some 106,(.bin .neq),[.t 103,.t 105],none⟩,
 ⟨some 107,.mv,[.t 106],none⟩,
 ⟨some 108,(.faddr 1),[.t 4],some (107,false)⟩,
 ⟨some 109,(.load none),[.t 108],some (107,false)⟩,
 ⟨some 110,(.faddr 1),[.t 5],some (107,false)⟩,
 ⟨some 111,(.load none),[.t 110],some (107,false)⟩,
 ⟨some 112,(.bin .neq),[.t 109,.t 111],some (107,false)⟩,
 ⟨some 113,.pick,[.t 107,.c (.pv none (.bool true)),.t 112],none⟩,
 ⟨some 114,.mv,[.t 113],none⟩,
 ⟨some 115,(.faddr 2),[.t 4],some (114,false)⟩,
 ⟨some 116,(.load none),[.t 115],some (114,false)⟩,
 ⟨some 117,(.faddr 2),[.t 5],some (114,false)⟩,
 ⟨some 118,(.load none),[.t 117],some (114,false)⟩,
 ⟨some 119,(.bin .neq),[.t 116,.t 118],some (114,false)⟩,
 ⟨some 120,.pick,[.t 114,.c (.pv none (.bool true)),.t 119],none⟩,
 ⟨some 121,.mv,[.t 120],none⟩,
 ⟨some 122,(.faddr 3),[.t 4],some (121,false)⟩,
 ⟨some 123,(.load none),[.t 122],some (121,false)⟩,
 ⟨some 124,.len,[.t 123],some (121,false)⟩,
 ⟨some 125,(.faddr 3),[.t 5],some (121,false)⟩,
 ⟨some 126,(.load none),[.t 125],some (121,false)⟩,
 ⟨some 127,.len,[.t 126],some (121,false)⟩,
 ⟨some 128,(.bin .neq),[.t 124,.t 127],some (121,false)⟩,
 ⟨some 129,.pick,[.t 121,.c (.pv none (.bool true)),.t 128],none⟩]
def c60r28 : List AOper := [
 ⟨some 6,.mv,[.c (.pv none (.int .i64 4))],none⟩]
def c60k29 : ACode := (.cond (.t 129) (.seq (.region true c60r28 [6]) .ret) .skip)
def c60r30 : List AOper := [
 ⟨some 7,.mv,[.c (.pv none (.int .i64 0))],none⟩]
def c60r31 : List AOper := [
 ⟨some 130,.mv,[.t 7],none⟩,
 ⟨some 131,(.faddr 3),[.t 4],none⟩,
 ⟨some 132,(.load none),[.t 131],none⟩,
 ⟨some 133,.len,[.t 132],none⟩,
 ⟨some 134,(.bin .lss),[.t 130,.t 133],none⟩]
def c60k32 : ACode := (.cond (.t 134) .skip (.exit 1))
def c60r33 : List AOper := [
 ⟨some 137,.mv,[.t 0],none⟩,
 ⟨some 138,(.faddr 3),[.t 4],none⟩,
 ⟨some 139,(.load none),[.t 138],none⟩,
 ⟨some 140,.mv,[.t 7],none⟩,
 ⟨some 141,(.iaddr (some 4)),[.t 139,.t 140],none⟩,
 ⟨some 142,(.load (some 4)),[.t 141],none⟩,
 ⟨some 143,(.faddr 3),[.t 5],none⟩,
 ⟨some 144,(.load none),[.t 143],none⟩,
 ⟨some 145,.mv,[.t 7],none⟩,
 ⟨some 146,(.iaddr (some 4)),[.t 144,.t 145],none⟩,
 ⟨some 147,(.load (some 4)),[.t 146],none⟩,
 ⟨some 148,.call,[.c (.pv none (.func (.func 60))),.t 137,.t 142,.t 147],none⟩,
 ⟨some 8,.mv,[.t 148],none⟩]
def c60r34 : List AOper := [
 ⟨some 149,.mv,[.t 8],none⟩,
 ⟨some 150,(.bin .neq),[.t 149,.c (.pv none (.int .i64 0))],none⟩]
def c60r35 : List AOper := [
 ⟨some 151,.mv,[.t 8],none⟩,
 ⟨some 6,.mv,[.t 151],none⟩]
def c60k36 : ACode := (.cond (.t 150) (.seq (.region true c60r35 [6]) .ret) .skip)
def c60k37 : ACode := (.block 2 (.seq (.region true c60r33 [0,4,5,7,8]) (.seq (.region true c60r34 [0,4,5,7,8,150]) c60k36)))
def c60r38 : List AOper := [
 ⟨some 135,.mv,[.t 7],none⟩,
 ⟨some 136,(.bin .add),[.t 135,.c (.pv none (.int .i64 1))],none⟩,
 ⟨some 7,.mv,[.t 136],none⟩]
def c60b39 : ACode := (.seq (.seq (.region true c60r31 [0,4,5,7,134]) c60k32) (.seq c60k37 (.region true c60r38 [0,4,5,7])))
def c60k40 : ACode := (.block 1 (.loop [0,4,5,7] c60b39))
def c60r41 : List AOper := [
 ⟨some 6,.mv,[.c (.pv none (.int .i64 0))],none⟩]
def c60 : ACode := (.seq (.region true c60r0 [0,4,5]) (.seq (.seq (.region true c60r1 [0,4,5,13]) c60k3) (.seq (.region true c60r4 [0,4,5]) (.seq (.region true c60r5 [0,4,5]) (.seq (.region true c60r6 [0,4,5]) (.seq (.seq (.region true c60r7 [0,4,5,40]) c60k16) (.seq (.seq (.region true c60r17 [0,4,5,77]) c60k19) (.seq (.seq (.region true c60r20 [0,4,5,82]) c60k26) (.seq (.seq (.region true c60r27 [0,4,5,129]) c60k29) (.seq (.seq (.region true c60r30 [0,4,5,7]) c60k40) (.seq (.region true c60r41 [6]) .ret)))))))))))
def g60 : AFn := ⟨3,[(6,none)],c60,true,[],[],none⟩
theorem tr60 : trFn Try.prog true 60 Try.f60 = some g60 := by kernel_rfl
def c61r0 : List AOper := [
 ⟨some 4,.mv,[.c (.pv none (.int .i64 0))],none⟩,
 ⟨some 5,.mv,[.c (.pv none (.bool false))],none⟩]
def c61r1 : List AOper := [
 ⟨some 6,.mv,[.t 0],none⟩,
 ⟨some 7,.mv,[.t 1],none⟩,
 ⟨some 8,.call,[.c (.pv none (.func (.func 76))),.t 6,.t 7,.c (.pv none (.func (.func 77)))],none⟩,
 ⟨some 9,(.extract 0),[.t 8],none⟩,
 ⟨some 10,(.extract 1),[.t 8],none⟩,
 ⟨some 4,.mv,[.t 9],none⟩,
 ⟨some 5,.mv,[.t 10],none⟩]
def c61 : ACode := (.seq (.region true c61r0 [0,1]) (.seq (.region true c61r1 [4,5]) .ret))
def g61 : AFn := ⟨2,[(4,none),(5,none)],c61,false,[],[],none⟩
theorem tr61 : trFn Try.prog false 61 Try.f61 = some g61 := by kernel_rfl
def c62r0 : List AOper := [
 ⟨some 2,(.box (some 4)),[.t 0],none⟩,
 ⟨some 3,(.box (some 4)),[.t 1],none⟩,
 ⟨some 4,.mv,[.c (.pv none (.bool false))],none⟩]
def c62r1 : List AOper := [
 ⟨some 5,(.load (some 4)),[.t 2],none⟩,
 ⟨some 6,.call,[.c (.pv none (.func (.func 34))),.t 5],none⟩,
 ⟨some 7,.mv,[.t 6],none⟩,
 ⟨some 8,(.load (some 4)),[.t 3],some (7,true)⟩,
 ⟨some 9,.call,[.c (.pv none (.func (.func 34))),.t 8],some (7,true)⟩,
 ⟨some 10,.pick,[.t 7,.t 9,.c (.pv none (.bool false))],none⟩,
 ⟨some 11,.mv,[.t 10],none⟩,
 ⟨some 12,(.load (some 4)),[.t 2],some (11,true)⟩,
 ⟨some 13,(.load (some 4)),[.t 3],some (11,true)⟩,
 ⟨some 14,.call,[.c (.pv none (.func (.func 79))),.t 12,.t 13],some (11,true)⟩,
 ⟨some 15,.pick,[.t 11,.t 14,.c (.pv none (.bool false))],none⟩,
 ⟨some 4,.mv,[.t 15],none⟩]
def c62 : ACode := (.seq (.region true c62r0 [2,3]) (.seq (.region true c62r1 [4]) .ret))
def g62 : AFn := ⟨2,[(4,none)],c62,false,[],[],none⟩
theorem tr62 : trFn Try.prog false 62 Try.f62 = some g62 := by kernel_rfl
def c64r0 : List AOper := [
 ⟨some 5,(.box (some 4)),[.t 2],none⟩,
 ⟨some 6,(.nilsl (some 5)),[],none⟩]
def c64r1 : List AOper := [
 ⟨some 7,(.nilsl (some 5)),[],none⟩]
def c64r2 : List AOper := [
 ⟨some 8,.mv,[.c (.pv none (.bool false))],none⟩]
def c64r3 : List AOper := [
 ⟨some 9,.mv,[.c (.pv none (.int .i64 0))],none⟩]
def c64r4 : List AOper := [
 ⟨some 10,.mv,[.t 9],none⟩,
 ⟨some 11,.mv,[.t 0],none⟩,
 ⟨some 12,.len,[.t 11],none⟩,
 ⟨some 13,(.bin .lss),[.t 10,.t 12],none⟩]
def c64k5 : ACode := (.cond (.t 13) .skip (.exit 0))
def c64r6 : List AOper := [
 ⟨some 16,.mv,[.t 8],none⟩,
 ⟨some 17,.not,[.t 16],none⟩,
 ⟨some 18,.mv,[.t 17],none⟩,
 ⟨some 19,.mv,[.t 0],some (18,true)⟩,
 ⟨some 20,.mv,[.t 9],some (18,true)⟩,
 ⟨some 21,(.iaddr (some 5)),[.t 19,.t 20],some (18,true)⟩,
 ⟨some 22,(.faddr 0),[.t 21],some (18,true)⟩,
 ⟨some 23,(.load none),[.t 22],some (18,true)⟩,
 ⟨some 24,.mv,[.t 1],some (18,true)⟩,
 ⟨some 25,(.bin .gtr),[.t 23,.t 24],some (18,true)⟩,
 ⟨some 26,.pick,[.t 18,.t 25,.c (.pv none (.bool false))],none⟩]
def c64r7 : List AOper := [
 ⟨some 27,.mv,[.t 7],none⟩,
 ⟨some 28,.mv,[.t 1],none⟩,
 ⟨some 29,(.load (some 4)),[.t 5],none⟩,
 ⟨some 30,(.build [(none,(.pv none (.int .i64 0))),((some 4),(.agg [(none,(.pv none (.int .i64 0))),(none,(.pv none (.int .i64 0))),(none,(.pv none (.str []))),(none,(.tsl (some 4) []))]))] [0,1]),[.t 28,.t 29],none⟩,
 ⟨some 31,(.bslice (some 5)),[.t 30],none⟩,
 ⟨some 32,(.append (some 5)),[.t 27,.t 31],none⟩,
 ⟨some 7,.mv,[.t 32],none⟩]
def c64r8 : List AOper := [
 ⟨some 8,.mv,[.c (.pv none (.bool true))],none⟩]
def c64k9 : ACode := (.cond (.t 26) (.seq (.region true c64r7 [0,1,5,7,9]) (.region true c64r8 [0,1,5,7,8,9])) .skip)
def c64r10 : List AOper := [
 ⟨some 33,.mv,[.t 7],none⟩,
 ⟨some 34,.mv,[.t 0],none⟩,
 ⟨some 35,.mv,[.t 9],none⟩,
 ⟨some 36,(.iaddr (some 5)),[.t 34,.t 35],none⟩,
 ⟨some 37,(.load (some 5)),[.t 36],none⟩,
 ⟨some 38,(.bslice (some 5)),[.t 37],none⟩,
 ⟨some 39,(.append (some 5)),[.t 33,.t 38],none⟩,
 ⟨some 7,.mv,[.t 39],none⟩]
def c64k11 : ACode := (.block 1 (.seq (.seq (.region true c64r6 [0,1,5,7,8,9,26]) c64k9) (.region true c64r10 [0,1,5,7,8,9])))
def c64r12 : List AOper := [
 ⟨some 14,.mv,[.t 9],none⟩,
 ⟨some 15,(.bin .add),[.t 14,.c (.pv none (.int .i64 1))],none⟩,
 ⟨some 9,.mv,[.t 15],none⟩]
def c64b13 : ACode := (.seq (.seq (.region true c64r4 [0,1,5,7,8,9,13]) c64k5) (.seq c64k11 (.region true c64r12 [0,1,5,7,8,9])))
def c64k14 : ACode := (.block 0 (.loop [0,1,5,7,8,9] c64b13))
def c64r15 : List AOper := [
 ⟨some 40,.mv,[.t 8],none⟩,
 ⟨some 41,.not,[.t 40],none⟩]
def c64r16 : List AOper := [
 ⟨some 42,.mv,[.t 7],none⟩,
 ⟨some 43,.mv,[.t 1],none⟩,
 ⟨some 44,(.load (some 4)),[.t 5],none⟩,
 ⟨some 45,(.build [(none,(.pv none (.int .i64 0))),((some 4),(.agg [(none,(.pv none (.int .i64 0))),(none,(.pv none (.int .i64 0))),(none,(.pv none (.str []))),(none,(.tsl (some 4) []))]))] [0,1]),[.t 43,.t 44],none⟩,
 ⟨some 46,(.bslice (some 5)),[.t 45],none⟩,
 ⟨some 47,(.append (some 5)),[.t 42,.t 46],none⟩,
 ⟨some 7,.mv,[.t 47],none⟩]
def c64k17 : ACode := (.cond (.t 41) (.region true c64r16 [7]) .skip)
def c64r18 : List AOper := [
 ⟨some 48,.mv,[.t 7],none⟩,
 ⟨some 6,.mv,[.t 48],none⟩]
def c64 : ACode := (.seq (.region true c64r0 [0,1,5]) (.seq (.region true c64r1 [0,1,5,7]) (.seq (.region true c64r2 [0,1,5,7,8]) (.seq (.seq (.region true c64r3 [0,1,5,7,8,9]) c64k14) (.seq (.seq (.region true c64r15 [1,5,7,41]) c64k17) (.seq (.region true c64r18 [6]) .ret))))))
def g64 : AFn := ⟨3,[(6,none)],c64,false,[],[],none⟩
theorem tr64 : trFn Try.prog false 64 Try.f64 = some g64 := by kernel_rfl
def c65r0 : List AOper := [
 ⟨some 1,(.box (some 4)),[.t 0],none⟩,
 ⟨some 2,.mv,[.c (.pv none (.bool false))],none⟩]
def c65r1 : List AOper := [
 ⟨some 3,(.faddr 0),[.t 1],none⟩,
 ⟨some 4,(.load none),[.t 3],none⟩]
def c65r2 : List AOper := [
 ⟨some 6,(.bin .eql),[.t 4,.c (.pv none (.int .i64 0))],none⟩,
 ⟨some 5,.mv,[.t 6],none⟩]
def c65r3 : List AOper := [
 ⟨some 7,(.faddr 1),[.t 1],none⟩,
 ⟨some 8,(.load none),[.t 7],none⟩,
 ⟨some 9,(.bin .geq),[.t 8,.c (.pv none (.int .i64 0))],none⟩,
 ⟨some 10,.mv,[.t 9],none⟩,
 ⟨some 11,(.faddr 1),[.t 1],some (10,true)⟩,
 ⟨some 12,(.load none),[.t 11],some (10,true)⟩,
 ⟨some 13,(.bin .leq),[.t 12,.c (.pv none (.int .i64 1099511627776))],some (10,true)⟩,
 ⟨some 14,.pick,[.t 10,.t 13,.c (.pv none (.bool false))],none⟩,
 ⟨some 15,.mv,[.t 14],none⟩,
 ⟨some 16,(.faddr 2),[.t 1],some (15,true)⟩,
 ⟨some 17,(.load none),[.t 16],some (15,true)⟩,
 ⟨some 18,(.bin .eql),[.t 17,.c (.pv none (.str []))],some (15,true)⟩,
 ⟨some 19,.pick,[.t 15,.t 18,.c (.pv none (.bool false))],none⟩,
 ⟨some 20,.mv,[.t 19],none⟩,
 ⟨some 21,(.faddr 3),[.t 1],some (20,true)⟩,
 ⟨some 22,(.load none),[.t 21],some (20,true)⟩,
 ⟨some 23,.len,[.t 22],some (20,true)⟩,
 ⟨some 24,(.bin .eql),[.t 23,.c (.pv none (.int .i64 0))],some (20,true)⟩,
 ⟨some 25,.pick,[.t 20,.t 24,.c (.pv none (.bool false))],none⟩,
 ⟨some 2,.mv,[.t 25],none⟩]
def c65r4 : List AOper := [
 ⟨some 27,(.bin .eql),[.t 4,.c (.pv none (.int .i64 1))],none⟩,
 ⟨some 26,.mv,[.t 27],none⟩]
def c65r5 : List AOper := [
 ⟨some 28,(.faddr 2),[.t 1],none⟩,
 ⟨some 29,(.load none),[.t 28],none⟩,
 ⟨some 30,(.bin .eql),[.t 29,.c (.pv none (.str []))],none⟩,
 ⟨some 31,.mv,[.t 30],none⟩,
 ⟨some 32,(.faddr 3),[.t 1],some (31,true)⟩,
 ⟨some 33,(.load none),[.t 32],some (31,true)⟩,
 ⟨some 34,.len,[.t 33],some (31,true)⟩,
 ⟨some 35,(.bin .eql),[.t 34,.c (.pv none (.int .i64 0))],some (31,true)⟩,
 ⟨some 36,.pick,[.t 31,.t 35,.c (.pv none (.bool false))],none⟩,
 ⟨some 2,.mv,[.t 36],none⟩]
def c65r6 : List AOper := [
 ⟨some 38,(.bin .eql),[.t 4,.c (.pv none (.int .i64 2))],none⟩,
 ⟨some 37,.mv,[.t 38],none⟩]
def c65r7 : List AOper := [
 ⟨some 39,(.faddr 1),[.t 1],none⟩,
 ⟨some 40,(.load none),[.t 39],none⟩,
 ⟨some 41,(.bin .eql),[.t 40,.c (.pv none (.int .i64 0))],none⟩,
 ⟨some 42,.mv,[.t 41],none⟩,
 ⟨some 43,(.faddr 2),[.t 1],some (42,true)⟩,
 ⟨some 44,(.load none),[.t 43],some (42,true)⟩,
 ⟨some 45,.slen,[.t 44],some (42,true)⟩,
 ⟨some 46,(.bin .leq),[.t 45,.c (.pv none (.int .i64 100))],some (42,true)⟩,
 ⟨some 47,.pick,[.t 42,.t 46,.c (.pv none (.bool false))],none⟩,
 ⟨some 48,.mv,[.t 47],none⟩,
 ⟨some 49,(.faddr 3),[.t 1],some (48,true)⟩,
 ⟨some 50,(.load none),[.t 49],some (48,true)⟩,
 ⟨some 51,.len,[.t 50],some (48,true)⟩,
 ⟨some 52,(.bin .eql),[.t 51,.c (.pv none (.int .i64 0))],some (48,true)⟩,
 ⟨some 53,.pick,[.t 48,.t 52,.c (.pv none (.bool false))],none⟩,
 ⟨some 2,.mv,[.t 53],none⟩]
def c65r8 : List AOper := [
 ⟨some 55,(.bin .eql),[.t 4,.c (.pv none (.int .i64 3))],none⟩,
 ⟨some 54,.mv,[.t 55],none⟩]
def c65r9 : List AOper := [
 ⟨some 56,(.faddr 1),[.t 1],none⟩,
 ⟨some 57,(.load none),[.t 56],none⟩,
 ⟨some 58,(.bin .eql),[.t 57,.c (.pv none (.int .i64 0))],none⟩,
 ⟨some 59,.mv,[.t 58],none⟩,
 ⟨some 60,(.faddr 2),[.t 1],some (59,true)⟩,
 ⟨some 61,(.load none),[.t 60],some (59,true)⟩,
 ⟨some 62,.slen,[.t 61],some (59,true)⟩,
 ⟨some 63,(.bin .leq),[.t 62,.c (.pv none (.int .i64 100))],some (59,true)⟩,
 ⟨some 64,.pick,[.t 59,.t 63,.c (.pv none (.bool false))],none⟩,
 ⟨some 65,.mv,[.t 64],none⟩,
 ⟨some 66,(.faddr 3),[.t 1],some (65,true)⟩,
 ⟨some 67,(.load none),[.t 66],some (65,true)⟩,
 ⟨some 68,.len,[.t 67],some (65,true)⟩,
 ⟨some 69,(.bin .geq),[.t 68,.c (.pv none (.int .i64 1))],some (65,true)⟩,
 ⟨some 70,.pick,[.t 65,.t 69,.c (.pv none (.bool false))],none⟩,
 ⟨some 71,.mv,[.t 70],none⟩,
 ⟨some 72,(.faddr 3),[.t 1],some (71,true)⟩,
 ⟨some 73,(.load none),[.t 72],some (71,true)⟩,
 ⟨some 74,.len,[.t 73],some (71,true)⟩,
 ⟨some 75,(.bin .leq),[.t 74,.c (.pv none (.int .i64 8))],some (71,true)⟩,
 ⟨some 76,.pick,[.t 71,.t 75,.c (.pv none (.bool false))],none⟩,
 ⟨some 2,.mv,[.t 76],none⟩]
def c65k10 : ACode := (.cond (.t 54) (.seq (.region true c65r9 [2]) .ret) .skip)
def c65k11 : ACode := (.cond (.t 37) (.seq (.region true c65r7 [2]) .ret) (.seq (.region true c65r8 [1,54]) c65k10))
def c65k12 : ACode := (.cond (.t 26) (.seq (.region true c65r5 [2]) .ret) (.seq (.region true c65r6 [1,4,37]) c65k11))
def c65k13 : ACode := (.cond (.t 5) (.seq (.region true c65r3 [2]) .ret) (.seq (.region true c65r4 [1,4,26]) c65k12))
def c65k14 : ACode := (.block 0 (.seq (.region true c65r2 [1,4,5]) c65k13))
def c65r15 : List AOper := [
 ⟨some 2,.mv,[.c (.pv none (.bool false))],none⟩]
def c65 : ACode := (.seq (.region true c65r0 [1]) (.seq (.seq (.region true c65r1 [1,4]) c65k14) (.seq (.region true c65r15 [2]) .ret)))
def g65 : AFn := ⟨1,[(2,none)],c65,false,[],[],none⟩
theorem tr65 : trFn Try.prog false 65 Try.f65 = some g65 := by kernel_rfl
def c66r0 : List AOper := [
 ⟨some 3,(.box (some 4)),[.t 1],none⟩,
 ⟨some 4,(.alloc (some 4) (.agg [(none,(.pv none (.int .i64 0))),(none,(.pv none (.int .i64 0))),(none,(.pv none (.str []))),(none,(.tsl (some 4) []))])),[],none⟩,
 ⟨some 5,.mv,[.c (.pv none (.bool false))],none⟩]
def c66r1 : List AOper := [
 ⟨some 8,(.faddr 0),[.t 3],none⟩,
 ⟨some 9,(.load none),[.t 8],none⟩,
 ⟨some 10,(.bin .neq),[.t 9,.c (.pv none (.int .i64 0))],none⟩]
def c66r2 : List AOper := [
 ⟨some 11,(.build [(none,(.pv none (.int .i64 0))),(none,(.pv none (.int .i64 0))),(none,(.pv none (.str []))),(none,(.tsl (some 4) []))] []),[],none⟩,
 ⟨none,(.store (some 4)),[.t 4,.t 11],none⟩,
 ⟨some 5,.mv,[.c (.pv none (.bool false))],none⟩]
def c66k3 : ACode := (.cond (.t 10) (.seq (.region true c66r2 [4,5]) .ret) .skip)
def c66r4 : List AOper := [
 ⟨some 13,.mv,[.t 0],none⟩,
 ⟨some 14,(.faddr 1),[.t 3],none⟩,
 ⟨some 15,(.load none),[.t 14],none⟩,
 ⟨some 16,.call,[.c (.pv none (.func (.func 61))),.t 13,.t 15],none⟩,
 ⟨some 12,.mv,[.t 16],none⟩,
 ⟨some 17,(.extract 0),[.t 12],none⟩,
 ⟨some 18,(.extract 1),[.t 12],none⟩,
 ⟨some 6,.mv,[.t 17],none⟩,
 ⟨some 7,.mv,[.t 18],none⟩]
def c66r5 : List AOper := [
 ⟨some 19,.mv,[.t 7],none⟩,
 ⟨some 20,.not,[.t 19],none⟩]
def c66r6 : List AOper := [
 ⟨some 21,(.build [(none,(.pv none (.int .i64 0))),(none,(.pv none (.int .i64 0))),(none,(.pv none (.str []))),(none,(.tsl (some 4) []))] []),[],none⟩,
 ⟨none,(.store (some 4)),[.t 4,.t 21],none⟩,
 ⟨some 5,.mv,[.c (.pv none (.bool false))],none⟩]
def c66k7 : ACode := (.cond (.t 20) (.seq (.region true c66r6 [4,5]) .ret) .skip)
def c66r8 : List AOper := [
 ⟨some 22,.mv,[.t 0],none⟩,
 ⟨some 23,.mv,[.t 6],none⟩,
 ⟨some 24,(.iaddr (some 5)),[.t 22,.t 23],none⟩,
 ⟨some 25,(.faddr 1),[.t 24],none⟩,
 ⟨some 26,(.load (some 4)),[.t 25],none⟩,
 ⟨none,(.store (some 4)),[.t 4,.t 26],none⟩,
 ⟨some 5,.mv,[.c (.pv none (.bool true))],none⟩]
def c66 : ACode := (.seq (.region true c66r0 [0,3,4]) (.seq (.seq (.region true c66r1 [0,3,4,10]) c66k3) (.seq (.region true c66r4 [0,4,6,7]) (.seq (.seq (.region true c66r5 [0,4,6,20]) c66k7) (.seq (.region true c66r8 [4,5]) .ret)))))
def g66 : AFn := ⟨2,[(4,some (some 4)),(5,none)],c66,true,[],[],none⟩
theorem tr66 : trFn Try.prog true 66 Try.f66 = some g66 := by kernel_rfl
def c67r0 : List AOper := [
 ⟨some 4,(.box (some 4)),[.t 1],none⟩,
 ⟨some 6,(.alloc (some 4) (.agg [(none,(.pv none (.int .i64 0))),(none,(.pv none (.int .i64 0))),(none,(.pv none (.str []))),(none,(.tsl (some 4) []))])),[],none⟩,
 ⟨some 7,.mv,[.c (.pv none (.int .i64 0))],none⟩]
def c67r1 : List AOper := [
 ⟨some 12,.mv,[.t 0],none⟩,
 ⟨some 13,(.load (some 4)),[.t 4],none⟩,
 ⟨some 14,.call,[.c (.pv none (.func (.func 54))),.t 12,.t 13],none⟩,
 ⟨none,(.store (some 4)),[.t 4,.t 14],none⟩]
def c67r2 : List AOper := [
 ⟨some 15,(.faddr 0),[.t 4],none⟩,
 ⟨some 16,(.load none),[.t 15],none⟩,
 ⟨some 17,(.faddr 1),[.t 4],none⟩,
 ⟨some 18,(.load none),[.t 17],none⟩,
 ⟨some 19,(.faddr 2),[.t 4],none⟩,
 ⟨some 20,(.load none),[.t 19],none⟩,
 ⟨some 21,(.build [(none,(.pv none (.int .i64 0))),(none,(.pv none (.int .i64 0))),(none,(.pv none (.str []))),(none,(.tsl (some 4) []))] [0,1,2]),[.t 16,.t 18,.t 20],none⟩,
 ⟨some 8,(.alloc (some 4) (.agg [(none,(.pv none (.int .i64 0))),(none,(.pv none (.int .i64 0))),(none,(.pv none (.str []))),(none,(.tsl (some 4) []))])),[],none⟩,
 ⟨none,(.store (some 4)),[.t 8,.t 21],none⟩]
def c67r3 : List AOper := [
 ⟨some 22,.mv,[.t 2],none⟩,
 ⟨some 23,(.bin .sub),[.t 22,.c (.pv none (.int .i64 1))],none⟩,
 ⟨some 2,.mv,[.t 23],none⟩]
def c67r4 : List AOper := [
 ⟨some 9,.mv,[.c (.pv none (.int .i64 0))],none⟩]
def c67r5 : List AOper := [
 ⟨some 24,.mv,[.t 9],none⟩,
 ⟨some 25,(.faddr 3),[.t 4],none⟩,
 ⟨some 26,(.load none),[.t 25],none⟩,
 ⟨some 27,.len,[.t 26],none⟩,
 ⟨some 28,(.bin .lss),[.t 24,.t 27],none⟩,
 ⟨some 29,.mv,[.t 28],none⟩,
 ⟨some 30,.mv,[.t 2],some (29,true)⟩,
 ⟨some 31,(.bin .geq),[.t 30,.c (.pv none (.int .i64 0))],some (29,true)⟩,
 ⟨some 32,.pick,[.t 29,.t 31,.c (.pv none (.bool false))],none⟩]
def c67k6 : ACode := (.cond (.t 32) .skip (.exit 0))
def c67r7 : List AOper := [
 ⟨some 36,.mv,[.t 0],none⟩,
 ⟨some 37,(.faddr 3),[.t 4],none⟩,
 ⟨some 38,(.load none),[.t 37],none⟩,
 ⟨some 39,.mv,[.t 9],none⟩,
 ⟨some 40,(.iaddr (some 4)),[.t 38,.t 39],none⟩,
 ⟨some 41,(.load (some 4)),[.t 40],none⟩,
 ⟨some 42,.mv,[.t 2],none⟩,
 ⟨some 43,.call,[.c (.pv none (.func (.func 67))),.t 36,.t 41,.t 42],none⟩,
 ⟨some 35,.mv,[.t 43],none⟩,
 ⟨some 44,(.extract 0),[.t 35],none⟩,
 ⟨some 45,(.extract 1),[.t 35],none⟩,
 ⟨some 10,(.alloc (some 4) (.agg [(none,(.pv none (.int .i64 0))),(none,(.pv none (.int .i64 0))),(none,(.pv none (.str []))),(none,(.tsl (some 4) []))])),[],none⟩,
 ⟨none,(.store (some 4)),[.t 10,.t 44],none⟩,
 ⟨some 11,.mv,[.t 45],none⟩]
def c67r8 : List AOper := [
 ⟨some 46,(.faddr 3),[.t 8],none⟩,
 ⟨some 47,(.load none),[.t 46],none⟩,
 ⟨some 48,(.load (some 4)),[.t 10],none⟩,
 ⟨some 49,(.bslice (some 4)),[.t 48],none⟩,
 ⟨some 50,(.append (some 4)),[.t 47,.t 49],none⟩,
 ⟨some 51,(.faddr 3),[.t 8],none⟩,
 ⟨none,(.store none),[.t 51,.t 50],none⟩]
def c67r9 : List AOper := [
 ⟨some 52,.mv,[.t 11],none⟩,
 ⟨some 2,.mv,[.t 52],none⟩]
def c67k10 : ACode := (.block 1 (.seq (.region true c67r7 [0,4,6,8,9,10,11]) (.seq (.region true c67r8 [0,4,6,8,9,11]) (.region true c67r9 [0,2,4,6,8,9]))))
def c67r11 : List AOper := [
 ⟨some 33,.mv,[.t 9],none⟩,
 ⟨some 34,(.bin .add),[.t 33,.c (.pv none (.int .i64 1))],none⟩,
 ⟨some 9,.mv,[.t 34],none⟩]
def c67b12 : ACode := (.seq (.seq (.region true c67r5 [0,2,4,6,8,9,32]) c67k6) (.seq c67k10 (.region true c67r11 [0,2,4,6,8,9])))
def c67k13 : ACode := (.block 0 (.loop [0,2,4,6,8,9] c67b12))
def c67r14 : List AOper := [
 ⟨some 53,(.load (some 4)),[.t 8],none⟩,
 ⟨some 54,.mv,[.t 2],none⟩,
 ⟨none,(.store (some 4)),[.t 6,.t 53],none⟩,
 ⟨some 7,.mv,[.t 54],none⟩]
def c67 : ACode := (.seq (.region true c67r0 [0,2,4,6]) (.seq (.region true c67r1 [0,2,4,6]) (.seq (.region true c67r2 [0,2,4,6,8]) (.seq (.region true c67r3 [0,2,4,6,8]) (.seq (.seq (.region true c67r4 [0,2,4,6,8,9]) c67k13) (.seq (.region true c67r14 [6,7]) .ret))))))
def g67 : AFn := ⟨3,[(6,some (some 4)),(7,none)],c67,false,[],[],none⟩
theorem tr67 : trFn Try.prog false 67 Try.f67 = some g67 := by kernel_rfl
def c68r0 : List AOper := [
 ⟨some 4,.mv,[.c (.pv none (.int .i64 0))],none⟩]
def c68r1 : List AOper := [
 ⟨some 5,.mv,[.c (.pv none (.int .i64 0))],none⟩]
def c68r2 : List AOper := [
 ⟨some 6,.mv,[.t 5],none⟩,
 ⟨some 7,.mv,[.t 0],none⟩,
 ⟨some 8,.len,[.t 7],none⟩,
 ⟨some 9,(.bin .lss),[.t 6,.t 8],none⟩]
def c68k3 : ACode := (.cond (.t 9) .skip (.exit 0))
def c68r4 : List AOper := [
 ⟨some 12,.mv,[.t 0],none⟩,
 ⟨some 13,.mv,[.t 5],none⟩,
 ⟨some 14,(.iaddr none),[.t 12,.t 13],none⟩,
 ⟨some 15,(.load none),[.t 14],none⟩,
 ⟨some 16,.mv,[.t 1],none⟩,
 ⟨some 17,(.bin .eql),[.t 15,.t 16],none⟩]
def c68r5 : List AOper := [
 ⟨some 18,.mv,[.t 5],none⟩,
 ⟨some 4,.mv,[.t 18],none⟩]
def c68k6 : ACode := (.cond (.t 17) (.seq (.region true c68r5 [4]) .ret) .skip)
def c68k7 : ACode := (.block 1 (.seq (.region true c68r4 [0,1,5,17]) c68k6))
def c68r8 : List AOper := [
 ⟨some 10,.mv,[.t 5],none⟩,
 ⟨some 11,(.bin .add),[.t 10,.c (.pv none (.int .i64 1))],none⟩,
 ⟨some 5,.mv,[.t 11],none⟩]
def c68b9 : ACode := (.seq (.seq (.region true c68r2 [0,1,5,9]) c68k3) (.seq c68k7 (.region true c68r8 [0,1,5])))
def c68k10 : ACode := (.block 0 (.loop [0,1,5] c68b9))
def c68r11 : List AOper := [
 ⟨some 4,.mv,[.c (.pv none (.int .i64 (-1)))],none⟩]
def c68 : ACode := (.seq (.region true c68r0 [0,1]) (.seq (.seq (.region true c68r1 [0,1,5]) c68k10) (.seq (.region true c68r11 [4]) .ret)))
def g68 : AFn := ⟨2,[(4,none)],c68,false,[],[],none⟩
theorem tr68 : trFn Try.prog false 68 Try.f68 = some g68 := by kernel_rfl
def c69r0 : List AOper := [
 ⟨some 1,(.box (some 4)),[.t 0],none⟩,
 ⟨some 2,(.nilsl none),[],none⟩]
def c69r1 : List AOper := [
 ⟨some 5,(.load (some 4)),[.t 1],none⟩,
 ⟨some 6,.call,[.c (.pv none (.func (.func 34))),.t 5],none⟩,
 ⟨some 7,.not,[.t 6],none⟩]
def c69r2 : List AOper := [
 ⟨some 2,(.nilsl none),[],none⟩]
def c69k3 : ACode := (.cond (.t 7) (.seq (.region true c69r2 [2]) .ret) .skip)
def c69r4 : List AOper := [
 ⟨some 3,(.alloc none (.tsl none [])),[],none⟩]
def c69r5 : List AOper := [
 ⟨some 8,(.mkmap none),[],none⟩,
 ⟨some 4,(.alloc none (.pv none .nilmap)),[],none⟩,
 ⟨none,(.store none),[.t 4,.t 8],none⟩]
def c69r6 : List AOper := [
 ⟨some 9,(.load (some 4)),[.t 1],none⟩,
 ⟨some 10,(.mkfunc (.func 82) 0),[.t 4,.t 3],none⟩,
 ⟨some 11,.call,[.c (.pv none (.func (.func 70))),.t 9,.t 10],none⟩]
def c69r7 : List AOper := [
 ⟨some 12,(.load none),[.t 3],none⟩,
 ⟨some 2,.mv,[.t 12],none⟩]
def c69 : ACode := (.seq (.region true c69r0 [1]) (.seq (.seq (.region true c69r1 [1,7]) c69k3) (.seq (.region true c69r4 [1,3]) (.seq (.region true c69r5 [1,3,4]) (.seq (.region true c69r6 [3]) (.seq (.region true c69r7 [2]) .ret))))))
def g69 : AFn := ⟨1,[(2,none)],c69,false,[],[],none⟩
theorem tr69 : trFn Try.prog false 69 Try.f69 = some g69 := by kernel_rfl
def c70r0 : List AOper := [
 ⟨some 2,(.box (some 4)),[.t 0],none⟩,
 ⟨some 4,(.alloc (some 4) (.agg [(none,(.pv none (.int .i64 0))),(none,(.pv none (.int .i64 0))),(none,(.pv none (.str []))),(none,(.tsl (some 4) []))])),[],none⟩]
def c70r1 : List AOper := [
 ⟨some 8,(.faddr 0),[.t 2],none⟩,
 ⟨some 9,(.load none),[.t 8],none⟩,
 ⟨some 10,(.bin .eql),[.t 9,.c (.pv none (.int .i64 0))],none⟩]
def c70r2 : List AOper := [
 ⟨some 11,.mv,[.t 1],none⟩,
 ⟨some 12,(.load (some 4)),[.t 2],none⟩,
 ⟨some 13,.call,[.t 11,.t 12],none⟩,
 ⟨none,(.store (some 4)),[.t 4,.t 13],none⟩]
def c70k3 : ACode := (.cond (.t 10) (.seq (.region true c70r2 [4]) .ret) .skip)
def c70r4 : List AOper := [
 ⟨some 14,(.faddr 0),[.t 2],none⟩,
 ⟨some 15,(.load none),[.t 14],none⟩,
 ⟨some 16,(.faddr 1),[.t 2],none⟩,
 ⟨some 17,(.load none),[.t 16],none⟩,
 ⟨some 18,(.faddr 2),[.t 2],none⟩,
 ⟨some 19,(.load none),[.t 18],none⟩,
 ⟨some 20,(.build [(none,(.pv none (.int .i64 0))),(none,(.pv none (.int .i64 0))),(none,(.pv none (.str []))),(none,(.tsl (some 4) []))] [0,1,2]),[.t 15,.t 17,.t 19],none⟩,
 ⟨some 5,(.alloc (some 4) (.agg [(none,(.pv none (.int .i64 0))),(none,(.pv none (.int .i64 0))),(none,(.pv none (.str []))),(none,(.tsl (some 4) []))])),[],none⟩,
 ⟨none,(.store (some 4)),[.t 5,.t 20],none⟩]
def c70r5 : List AOper := [
 ⟨some 21,(.faddr 3),[.t 2],none⟩,
 ⟨some 22,(.load none),[.t 21],none⟩,
 ⟨some 23,.len,[.t 22],none⟩,
 ⟨some 24,.mv,[.c (.pv none (.int .i64 0))],none⟩]
def c70r6 : List AOper := [
 ⟨some 25,(.bin .lss),[.t 24,.t 23],none⟩]
def c70k7 : ACode := (.cond (.t 25) .skip (.exit 0))
def c70r8 : List AOper := [
 ⟨some 26,(.iaddr (some 4)),[.t 22,.t 24],none⟩,
 ⟨some 27,(.load (some 4)),[.t 26],none⟩,
 ⟨some 7,(.alloc (some 4) (.agg [(none,(.pv none (.int .i64 0))),(none,(.pv none (.int .i64 0))),(none,(.pv none (.str []))),(none,(.tsl (some 4) []))])),[],none⟩,
 ⟨none,(.store (some 4)),[.t 7,.t 27],none⟩]
def c70r9 : List AOper := [
 ⟨some 28,(.faddr 3),[.t 5],none⟩,
 ⟨some 29,(.load none),[.t 28],none⟩,
 ⟨some 30,(.load (some 4)),[.t 7],none⟩,
 ⟨some 31,.mv,[.t 1],none⟩,
 ⟨some 32,(.calln 1),[.t 28,.c (.pv none (.func (.func 70))),.t 30,.t 31],none⟩,
 ⟨some 33,(.bslicen (some 4) 1),[.t 28,.t 32],none⟩,
 ⟨some 34,(.append (some 4)),[.t 29,.t 33],none⟩,
 ⟨some 35,(.faddr 3),[.t 5],none⟩,
 ⟨none,(.store none),[.t 35,.t 34],none⟩]
def c70k10 : ACode := (.block 1 (.seq (.region true c70r8 [1,4,5,7,22,23,24]) (.region false c70r9 [1,4,5,22,23,24])))
def c70r11 : List AOper := [
 ⟨some 36,(.bin .add),[.t 24,.c (.pv none (.int .i64 1))],none⟩,
 ⟨some 24,.mv,[.t 36],none⟩]
def c70b12 : ACode := (.seq (.region true c70r6 [1,4,5,22,23,24,25]) (.seq c70k7 (.seq c70k10 (.region true c70r11 [1,4,5,22,23,24]))))
def c70k13 : ACode := (.block 0 (.loop [1,4,5,22,23,24] c70b12))
def c70r14 : List AOper := [
 ⟨some 37,(.load (some 4)),[.t 5],none⟩,
 ⟨none,(.store (some 4)),[.t 4,.t 37],none⟩]
def c70 : ACode := (.seq (.region true c70r0 [1,2,4]) (.seq (.seq (.region true c70r1 [1,2,4,10]) c70k3) (.seq (.region true c70r4 [1,2,4,5]) (.seq (.seq (.region true c70r5 [1,4,5,22,23,24]) c70k13) (.seq (.region true c70r14 [4]) .ret)))))
def g70 : AFn := ⟨2,[(4,some (some 4))],c70,true,[],[],none⟩
theorem tr70 : trFn Try.prog true 70 Try.f70 = some g70 := by kernel_rfl
def c71r0 : List AOper := [
 ⟨some 1,(.box (some 4)),[.t 0],none⟩,
 ⟨some 2,(.alloc (some 4) (.agg [(none,(.pv none (.int .i64 0))),(none,(.pv none (.int .i64 0))),(none,(.pv none (.str []))),(none,(.tsl (some 4) []))])),[],none⟩]
def c71r1 : List AOper := [
 ⟨some 3,(.load (some 4)),[.t 1],none⟩,
 ⟨none,(.store (some 4)),[.t 2,.t 3],none⟩]
def c71 : ACode := (.seq (.region true c71r0 [1,2]) (.seq (.region true c71r1 [2]) .ret))
def g71 : AFn := ⟨1,[(2,some (some 4))],c71,false,[],[],none⟩
theorem tr71 : trFn Try.prog false 71 Try.f71 = some g71 := by kernel_rfl
def c72r0 : List AOper := [
 ⟨some 1,(.box (some 4)),[.t 0],none⟩,
 ⟨some 2,(.alloc (some 4) (.agg [(none,(.pv none (.int .i64 0))),(none,(.pv none (.int .i64 0))),(none,(.pv none (.str []))),(none,(.tsl (some 4) []))])),[],none⟩]
def c72r1 : List AOper := [
 ⟨some 5,(.faddr 0),[.t 1],none⟩,
 ⟨some 6,(.load none),[.t 5],none⟩,
 ⟨some 7,(.faddr 1),[.t 1],none⟩,
 ⟨some 8,(.load none),[.t 7],none⟩,
 ⟨some 9,(.faddr 2),[.t 1],none⟩,
 ⟨some 10,(.load none),[.t 9],none⟩,
 ⟨some 11,(.build [(none,(.pv none (.int .i64 0))),(none,(.pv none (.int .i64 0))),(none,(.pv none (.str []))),(none,(.tsl (some 4) []))] [0,1,2]),[.t 6,.t 8,.t 10],none⟩,
 ⟨some 3,(.alloc (some 4) (.agg [(none,(.pv none (.int .i64 0))),(none,(.pv none (.int .i64 0))),(none,(.pv none (.str []))),(none,(.tsl (some 4) []))])),[],none⟩,
 ⟨none,(.store (some 4)),[.t 3,.t 11],none⟩]
def c72r2 : List AOper := [
 ⟨some 4,.mv,[.c (.pv none (.int .i64 0))],none⟩]
def c72r3 : List AOper := [
 ⟨some 12,.mv,[.t 4],none⟩,
 ⟨some 13,(.faddr 3),[.t 1],none⟩,
 ⟨some 14,(.load none),[.t 13],none⟩,
 ⟨some 15,.len,[.t 14],none⟩,
 ⟨some 16,(.bin .lss),[.t 12,.t 15],none⟩]
def c72k4 : ACode := (.cond (.t 16) .skip (.exit 0))
def c72r5 : List AOper := [
 ⟨some 19,(.faddr 3),[.t 3],none⟩,
 ⟨some 20,(.load none),[.t 19],none⟩,
 ⟨some 21,(.faddr 3),[.t 1],none⟩,
 ⟨some 22,(.load none),[.t 21],none⟩,
 ⟨some 23,.mv,[.t 4],none⟩,
 ⟨some 24,(.iaddr (some 4)),[.t 22,.t 23],none⟩,
 ⟨some 25,(.load (some 4)),[.t 24],none⟩,
 ⟨some 26,.callp,[.c (.pv none (.func (.func 72))),.t 25],none⟩,
 ⟨some 27,(.bslicep (some 4)),[.t 26],none⟩,
 ⟨some 28,(.append (some 4)),[.t 20,.t 27],none⟩,
 ⟨some 29,(.faddr 3),[.t 3],none⟩,
 ⟨none,(.store none),[.t 29,.t 28],none⟩]
def c72k6 : ACode := (.block 1 (.seq (.settle []) (.region true c72r5 [1,2,3,4])))
def c72r7 : List AOper := [
 ⟨some 17,.mv,[.t 4],none⟩,
 ⟨some 18,(.bin .add),[.t 17,.c (.pv none (.int .i64 1))],none⟩,
 ⟨some 4,.mv,[.t 18],none⟩]
def c72b8 : ACode := (.seq (.seq (.region true c72r3 [1,2,3,4,16]) c72k4) (.seq c72k6 (.region true c72r7 [1,2,3,4])))
def c72k9 : ACode := (.block 0 (.loop [1,2,3,4] c72b8))
def c72r10 : List AOper := [
 ⟨some 30,(.load (some 4)),[.t 3],none⟩,
 ⟨none,(.store (some 4)),[.t 2,.t 30],none⟩]
def c72 : ACode := (.seq (.region true c72r0 [1,2]) (.seq (.region true c72r1 [1,2,3]) (.seq (.seq (.region true c72r2 [1,2,3,4]) c72k9) (.seq (.region true c72r10 [2]) .ret))))
def g72 : AFn := ⟨1,[(2,some (some 4))],c72,false,[],[],none⟩
theorem tr72 : trFn Try.prog false 72 Try.f72 = some g72 := by kernel_rfl
def c73r0 : List AOper := [
 ⟨some 6,(.box (some 4)),[.t 2],none⟩,
 ⟨some 8,.mv,[.c (.pv none (.bool false))],none⟩]
def c73r1 : List AOper := [
 ⟨some 12,(.faddr 0),[.t 6],none⟩,
 ⟨some 13,(.load none),[.t 12],none⟩,
 ⟨some 14,(.bin .eql),[.t 13,.c (.pv none (.int .i64 0))],none⟩]
def c73r2 : List AOper := [
 ⟨some 15,.mv,[.t 0],none⟩,
 ⟨some 16,(.faddr 1),[.t 6],none⟩,
 ⟨some 17,(.load none),[.t 16],none⟩,
 ⟨some 18,.call,[.c (.pv none (.func (.func 19))),.t 15,.t 17],none⟩,
 ⟨some 9,.mv,[.t 18],none⟩]
def c73r3 : List AOper := [
 ⟨some 19,.mv,[.t 9],none⟩,
 ⟨some 20,(.bin .lss),[.t 19,.c (.pv none (.int .i64 0))],none⟩]
def c73r4 : List AOper := [
 ⟨some 21,(.faddr 1),[.t 6],none⟩,
 ⟨some 22,(.load none),[.t 21],none⟩,
 ⟨some 23,.mv,[.t 1],none⟩,
 ⟨some 24,(.bin .eql),[.t 22,.t 23],none⟩,
 ⟨some 8,.mv,[.t 24],none⟩]
def c73k5 : ACode := (.cond (.t 20) (.seq (.region true c73r4 [8]) .ret) .skip)
def c73r6 : List AOper := [
 ⟨some 10,.mv,[.c (.pv none (.int .i64 0))],none⟩]
def c73r7 : List AOper := [
 ⟨some 25,.mv,[.t 10],none⟩,
 ⟨some 26,.mv,[.t 3],none⟩,
 ⟨some 27,.nilcheck,[.t 26],none⟩,
 ⟨some 28,(.load none),[.t 27],none⟩,
 ⟨some 29,.len,[.t 28],none⟩,
 ⟨some 30,(.bin .lss),[.t 25,.t 29],none⟩]
def c73k8 : ACode := (.cond (.t 30) .skip (.exit 0))
def c73r9 : List AOper := [
 ⟨some 33,.mv,[.t 3],none⟩,
 ⟨some 34,.nilcheck,[.t 33],none⟩,
 ⟨some 35,(.load none),[.t 34],none⟩,
 ⟨some 36,.mv,[.t 10],none⟩,
 ⟨some 37,(.iaddr none),[.t 35,.t 36],none⟩,
 ⟨some 38,(.load none),[.t 37],none⟩,
 ⟨some 39,(.faddr 1),[.t 6],none⟩,
 ⟨some 40,(.load none),[.t 39],none⟩,
 ⟨some 41,(.bin .eql),[.t 38,.t 40],none⟩]
def c73r10 : List AOper := [
 ⟨some 8,.mv,[.c (.pv none (.bool false))],none⟩]
def c73k11 : ACode := (.cond (.t 41) (.seq (.region true c73r10 [8]) .ret) .skip)
def c73k12 : ACode := (.block 1 (.seq (.region true c73r9 [0,1,3,6,9,10,41]) c73k11))
def c73r13 : List AOper := [
 ⟨some 31,.mv,[.t 10],none⟩,
 ⟨some 32,(.bin .add),[.t 31,.c (.pv none (.int .i64 1))],none⟩,
 ⟨some 10,.mv,[.t 32],none⟩]
def c73b14 : ACode := (.seq (.seq (.region true c73r7 [0,1,3,6,9,10,30]) c73k8) (.seq c73k12 (.region true c73r13 [0,1,3,6,9,10])))
def c73k15 : ACode := (.block 0 (.loop [0,1,3,6,9,10] c73b14))
def c73r16 : List AOper := [
 ⟨some 42,.mv,[.t 3],none⟩,
 ⟨some 43,.mv,[.t 3],none⟩,
 ⟨some 44,.nilcheck,[.t 43],none⟩,
 ⟨some 45,(.load none),[.t 44],none⟩,
 ⟨some 46,(.faddr 1),[.t 6],none⟩,
 ⟨some 47,(.load none),[.t 46],none⟩,
 ⟨some 48,(.bslicen none 1),[.t 44,.t 47],none⟩,
 ⟨some 49,(.append none),[.t 45,.t 48],none⟩,
 ⟨some 50,.nilcheck,[.t 42],none⟩,
 ⟨none,(.store none),[.t 50,.t 49],none⟩]
def c73r17 : List AOper := [
 ⟨some 51,.mv,[.t 0],none⟩,
 ⟨some 52,.mv,[.t 1],none⟩,
 ⟨some 53,.mv,[.t 0],none⟩,
 ⟨some 54,.mv,[.t 9],none⟩,
 ⟨some 55,(.iaddr (some 5)),[.t 53,.t 54],none⟩,
 ⟨some 56,(.faddr 1),[.t 55],none⟩,
 ⟨some 57,(.load (some 4)),[.t 56],none⟩,
 ⟨some 58,.mv,[.t 3],none⟩,
 ⟨some 59,.call,[.c (.pv none (.func (.func 73))),.t 51,.t 52,.t 57,.t 58],none⟩,
 ⟨some 8,.mv,[.t 59],none⟩]
def c73k18 : ACode := (.cond (.t 14) (.seq (.region true c73r2 [0,1,3,6,9]) (.seq (.seq (.region true c73r3 [0,1,3,6,9,20]) c73k5) (.seq (.seq (.region true c73r6 [0,1,3,6,9,10]) c73k15) (.seq (.region true c73r16 [0,1,3,9]) (.seq (.region true c73r17 [8]) .ret))))) .skip)
def c73r19 : List AOper := [
 ⟨some 11,.mv,[.c (.pv none (.int .i64 0))],none⟩]
def c73r20 : List AOper := [
 ⟨some 60,.mv,[.t 11],none⟩,
 ⟨some 61,(.faddr 3),[.t 6],none⟩,
 ⟨some 62,(.load none),[.t 61],none⟩,
 ⟨some 63,.len,[.t 62],none⟩,
 ⟨some 64,(.bin .lss),[.t 60,.t 63],none⟩]
def c73k21 : ACode := (.cond (.t 64) .skip (.exit 2))
def c73r22 : List AOper := [
 ⟨some 67,.mv,[.t 0],none⟩,
 ⟨some 68,.mv,[.t 1],none⟩,
 ⟨some 69,(.faddr 3),[.t 6],none⟩,
 ⟨some 70,(.load none),[.t 69],none⟩,
 ⟨some 71,.mv,[.t 11],none⟩,
 ⟨some 72,(.iaddr (some 4)),[.t 70,.t 71],none⟩,
 ⟨some 73,(.load (some 4)),[.t 72],none⟩,
 ⟨some 74,.mv,[.t 3],none⟩,
 ⟨some 75,.call,[.c (.pv none (.func (.func 73))),.t 67,.t 68,.t 73,.t 74],none⟩]
def c73r23 : List AOper := [
 ⟨some 8,.mv,[.c (.pv none (.bool true))],none⟩]
def c73k24 : ACode := (.cond (.t 75) (.seq (.region true c73r23 [8]) .ret) .skip)
def c73k25 : ACode := (.block 3 (.seq (.region true c73r22 [0,1,3,6,11,75]) c73k24))
def c73r26 : List AOper := [
 ⟨some 65,.mv,[.t 11],none⟩,
 ⟨some 66,(.bin .add),[.t 65,.c (.pv none (.int .i64 1))],none⟩,
 ⟨some 11,.mv,[.t 66],none⟩]
def c73b27 : ACode := (.seq (.seq (.region true c73r20 [0,1,3,6,11,64]) c73k21) (.seq c73k25 (.region true c73r26 [0,1,3,6,11])))
def c73k28 : ACode := (.block 2 (.loop [0,1,3,6,11] c73b27))
def c73r29 : List AOper := [
 ⟨some 8,.mv,[.c (.pv none (.bool false))],none⟩]
def c73 : ACode := (.seq (.region true c73r0 [0,1,3,6]) (.seq (.seq (.region true c73r1 [0,1,3,6,14]) c73k18) (.seq (.seq (.region true c73r19 [0,1,3,6,11]) c73k28) (.seq (.region true c73r29 [8]) .ret))))
def g73 : AFn := ⟨4,[(8,none)],c73,true,[],[],none⟩
theorem tr73 : trFn Try.prog true 73 Try.f73 = some g73 := by kernel_rfl
def c74r0 : List AOper := [
 ⟨some 3,(.box (some 4)),[.t 0],none⟩]
def c74r1 : List AOper := [
 ⟨some 5,(.load none),[.t 1],none⟩,
 ⟨some 6,(.bin .sub),[.t 5,.c (.pv none (.int .i64 1))],none⟩,
 ⟨none,(.store none),[.t 1,.t 6],none⟩]
def c74r2 : List AOper := [
 ⟨some 4,.mv,[.c (.pv none (.int .i64 0))],none⟩]
def c74r3 : List AOper := [
 ⟨some 7,.mv,[.t 4],none⟩,
 ⟨some 8,(.faddr 3),[.t 3],none⟩,
 ⟨some 9,(.load none),[.t 8],none⟩,
 ⟨some 10,.len,[.t 9],none⟩,
 ⟨some 11,(.bin .lss),[.t 7,.t 10],none⟩,
 ⟨some 12,.mv,[.t 11],none⟩,
 ⟨some 13,(.load none),[.t 1],some (12,true)⟩,
 ⟨some 14,(.bin .gtr),[.t 13,.c (.pv none (.int .i64 0))],some (12,true)⟩,
 ⟨some 15,.pick,[.t 12,.t 14,.c (.pv none (.bool false))],none⟩]
def c74k4 : ACode := (.cond (.t 15) .skip (.exit 0))
def c74r5 : List AOper := [
 ⟨some 18,(.load none),[.t 2],none⟩,
 ⟨some 19,(.faddr 3),[.t 3],none⟩,
 ⟨some 20,(.load none),[.t 19],none⟩,
 ⟨some 21,.mv,[.t 4],none⟩,
 ⟨some 22,(.iaddr (some 4)),[.t 20,.t 21],none⟩,
 ⟨some 23,(.load (some 4)),[.t 22],none⟩,
 ⟨some 24,.call,[.t 18,.t 23],none⟩]
def c74k6 : ACode := (.block 1 (.region true c74r5 [1,2,3,4]))
def c74r7 : List AOper := [
 ⟨some 16,.mv,[.t 4],none⟩,
 ⟨some 17,(.bin .add),[.t 16,.c (.pv none (.int .i64 1))],none⟩,
 ⟨some 4,.mv,[.t 17],none⟩]
def c74b8 : ACode := (.seq (.seq (.region true c74r3 [1,2,3,4,15]) c74k4) (.seq c74k6 (.region true c74r7 [1,2,3,4])))
def c74k9 : ACode := (.block 0 (.loop [1,2,3,4] c74b8))
def c74 : ACode := (.seq (.region true c74r0 [1,2,3]) (.seq (.region true c74r1 [1,2,3]) (.seq (.region true c74r2 [1,2,3,4]) c74k9)))
def g74 : AFn := ⟨3,[],c74,true,[],[],none⟩
theorem tr74 : trFn Try.prog true 74 Try.f74 = some g74 := by kernel_rfl
def c75r0 : List AOper := [
 ⟨some 5,(.box (some 4)),[.t 2],none⟩]
def c75r1 : List AOper := [
 ⟨some 8,.mv,[.t 0],none⟩,
 ⟨some 9,.nilcheck,[.t 8],none⟩,
 ⟨some 10,(.faddr 0),[.t 9],none⟩,
 ⟨some 11,(.load none),[.t 10],none⟩,
 ⟨some 12,.mv,[.t 1],none⟩,
 ⟨some 13,(.load (some 4)),[.t 5],none⟩,
 ⟨some 14,(.mkmap none),[],none⟩,
 ⟨some 15,.call,[.c (.pv none (.func (.func 49))),.t 11,.t 12,.t 13,.t 14],none⟩]
def c75r2 : List AOper := [
 ⟨some 16,(.build [(none,(.pv none (.int .i64 0)))] [0]),[.c (.pv none (.int .i64 9))],none⟩,
 ⟨some 17,(.mkiface 53),[.t 16],none⟩,
 ⟨none,.panic,[.t 17],none⟩]
def c75k3 : ACode := (.cond (.t 15) (.region true c75r2 [0,1,5]) .skip)
def c75r4 : List AOper := [
 ⟨some 19,.mv,[.t 0],none⟩,
 ⟨some 20,.nilcheck,[.t 19],none⟩,
 ⟨some 21,(.faddr 0),[.t 20],none⟩,
 ⟨some 22,(.load none),[.t 21],none⟩,
 ⟨some 23,.mv,[.t 1],none⟩,
 ⟨some 24,.call,[.c (.pv none (.func (.func 61))),.t 22,.t 23],none⟩,
 ⟨some 18,.mv,[.t 24],none⟩,
 ⟨some 25,(.extract 0),[.t 18],none⟩,
 ⟨some 26,(.extract 1),[.t 18],none⟩,
 ⟨some 6,.mv,[.t 25],none⟩,
 ⟨some 7,.mv,[.t 26],none⟩]
def c75r5 : List AOper := [
 ⟨some 27,.mv,[.t 0],none⟩,
 ⟨some 28,.mv,[.t 0],none⟩,
 ⟨some 29,.nilcheck,[.t 28],none⟩,
 ⟨some 30,(.faddr 0),[.t 29],none⟩,
 ⟨some 31,(.load none),[.t 30],none⟩,
 ⟨some 32,.mv,[.t 6],none⟩,
 ⟨some 33,.mv,[.t 1],none⟩,
 ⟨some 34,(.load (some 4)),[.t 5],none⟩,
 ⟨some 35,(.calln 1),[.t 30,.c (.pv none (.func (.func 51))),.t 34],none⟩,
 ⟨some 36,(.build [(none,(.pv none (.int .i64 0))),((some 4),(.agg [(none,(.pv none (.int .i64 0))),(none,(.pv none (.int .i64 0))),(none,(.pv none (.str []))),(none,(.tsl (some 4) []))]))] [0,1]),[.t 33,.t 35],none⟩,
 ⟨some 37,(.bslicen (some 5) 1),[.t 30,.t 36],none⟩,
 ⟨some 38,.call,[.c (.pv none (.func (.func 63))),.t 31,.t 32,.t 37],none⟩,
 ⟨some 39,.nilcheck,[.t 27],none⟩,
 ⟨some 40,(.faddr 0),[.t 39],none⟩,
 ⟨none,(.store none),[.t 40,.t 38],none⟩]
def c75 : ACode := (.seq (.region true c75r0 [0,1,5]) (.seq (.seq (.region true c75r1 [0,1,5,15]) c75k3) (.seq (.region true c75r4 [0,1,5,6]) (.region false c75r5 []))))
def g75 : AFn := ⟨3,[],c75,true,[],[],none⟩
theorem tr75 : trFn Try.prog true 75 Try.f75 = some g75 := by kernel_rfl
def c76r0 : List AOper := [
 ⟨some 6,.mv,[.c (.pv none (.int .i64 0))],none⟩,
 ⟨some 7,.mv,[.c (.pv none (.bool false))],none⟩]
def c76r1 : List AOper := [
 ⟨some 12,.mv,[.t 0],none⟩,
 ⟨some 13,.len,[.t 12],none⟩,
 ⟨some 8,.mv,[.t 13],none⟩]
def c76r2 : List AOper := [
 ⟨some 14,.mv,[.t 8],none⟩,
 ⟨some 9,.mv,[.c (.pv none (.int .i64 0))],none⟩,
 ⟨some 10,.mv,[.t 14],none⟩]
def c76r3 : List AOper := [
 ⟨some 15,.mv,[.t 9],none⟩,
 ⟨some 16,.mv,[.t 10],none⟩,
 ⟨some 17,(.bin .lss),[.t 15,.t 16],none⟩]
def c76k4 : ACode := (.cond (.t 17) .skip (.exit 0))
def c76r5 : List AOper := [
 ⟨some 18,.mv,[.t 9],none⟩,
 ⟨some 19,.mv,[.t 10],none⟩,
 ⟨some 20,(.bin .add),[.t 18,.t 19],none⟩,
 ⟨some 21,(.conv .u64),[.t 20],none⟩,
 ⟨some 22,(.bin .shr),[.t 21,.c (.pv none (.int .u64 1))],none⟩,
 ⟨some 23,(.conv .i64),[.t 22],none⟩,
 ⟨some 11,.mv,[.t 23],none⟩]
def c76r6 : List AOper := [
 ⟨some 24,.mv,[.t 2],none⟩,
 ⟨some 25,.mv,[.t 0],none⟩,
 ⟨some 26,.mv,[.t 11],none⟩,
 ⟨some 27,(.iaddr (some 5)),[.t 25,.t 26],none⟩,
 ⟨some 28,(.load (some 5)),[.t 27],none⟩,
 ⟨some 29,.mv,[.t 1],none⟩,
 ⟨some 30,.call,[.t 24,.t 28,.t 29],none⟩,
 ⟨some 31,(.bin .lss),[.t 30,.c (.pv none (.int .i64 0))],none⟩]
def c76r7 : List AOper := [
 ⟨some 32,.mv,[.t 11],none⟩,
 ⟨some 33,(.bin .add),[.t 32,.c (.pv none (.int .i64 1))],none⟩,
 ⟨some 9,.mv,[.t 33],none⟩]
def c76r8 : List AOper := [
 ⟨some 34,.mv,[.t 11],none⟩,
 ⟨some 10,.mv,[.t 34],none⟩]
def c76k9 : ACode := (.cond (.t 31) (.region true c76r7 [0,1,2,8,9,10]) (.region true c76r8 [0,1,2,8,9,10]))
def c76k10 : ACode := (.block 1 (.seq (.region true c76r5 [0,1,2,8,9,10,11]) (.seq (.region true c76r6 [0,1,2,8,9,10,11,31]) c76k9)))
def c76b11 : ACode := (.seq (.seq (.region true c76r3 [0,1,2,8,9,10,17]) c76k4) c76k10)
def c76k12 : ACode := (.block 0 (.loop [0,1,2,8,9,10] c76b11))
def c76r13 : List AOper := [
 ⟨some 35,.mv,[.t 9],none⟩,
 ⟨some 36,.mv,[.t 9],none⟩,
 ⟨some 37,.mv,[.t 8],none⟩,
 ⟨some 38,(.bin .lss),[.t 36,.t 37],none⟩,
 ⟨some 39,.mv,[.t 38],none⟩,
 ⟨some 40,.mv,[.t 2],some (39,true)⟩,
 ⟨some 41,.mv,[.t 0],some (39,true)⟩,
 ⟨some 42,.mv,[.t 9],some (39,true)⟩,
 ⟨some 43,(.iaddr (some 5)),[.t 41,.t 42],some (39,true)⟩,
 ⟨some 44,(.load (some 5)),[.t 43],some (39,true)⟩,
 ⟨some 45,.mv,[.t 1],some (39,true)⟩,
 ⟨some 46,.call,[.t 40,.t 44,.t 45],some (39,true)⟩,
 ⟨some 47,(.bin .eql),[.t 46,.c (.pv none (.int .i64 0))],some (39,true)⟩,
 ⟨some 48,.pick,[.t 39,.t 47,.c (.pv none (.bool false))],none⟩,
 ⟨some 6,.mv,[.t 35],none⟩,
 ⟨some 7,.mv,[.t 48],none⟩]
def c76 : ACode := (.seq (.region true c76r0 [0,1,2]) (.seq (.region true c76r1 [0,1,2,8]) (.seq (.region true c76r2 [0,1,2,8,9,10]) (.seq c76k12 (.seq (.region true c76r13 [6,7]) .ret)))))
def g76 : AFn := ⟨3,[(6,none),(7,none)],c76,false,[],[],none⟩
theorem tr76 : trFn Try.prog false 76 Try.f76 = some g76 := by kernel_rfl
def c77r0 : List AOper := [
 ⟨some 2,(.box (some 5)),[.t 0],none⟩,
 ⟨some 4,.mv,[.c (.pv none (.int .i64 0))],none⟩]
def c77r1 : List AOper := [
 ⟨some 5,(.faddr 0),[.t 2],none⟩,
 ⟨some 6,(.load none),[.t 5],none⟩,
 ⟨some 7,.mv,[.t 1],none⟩,
 ⟨some 8,.call,[.c (.pv none (.func (.func 78))),.t 6,.t 7],none⟩,
 ⟨some 4,.mv,[.t 8],none⟩]
def c77 : ACode := (.seq (.region true c77r0 [1,2]) (.seq (.region true c77r1 [4]) .ret))
def g77 : AFn := ⟨2,[(4,none)],c77,false,[],[],none⟩
theorem tr77 : trFn Try.prog false 77 Try.f77 = some g77 := by kernel_rfl
def c78r0 : List AOper := [
 ⟨some 4,.mv,[.c (.pv none (.int .i64 0))],none⟩]
def c78r1 : List AOper := [
 ⟨some 7,.mv,[.t 0],none⟩,
 ⟨some 8,.call,[.c (.pv none (.func (.func 83))),.t 7],none⟩,
 ⟨some 5,.mv,[.t 8],none⟩]
def c78r2 : List AOper := [
 ⟨some 9,.mv,[.t 1],none⟩,
 ⟨some 10,.call,[.c (.pv none (.func (.func 83))),.t 9],none⟩,
 ⟨some 6,.mv,[.t 10],none⟩]
def c78r3 : List AOper := [
 ⟨some 11,.mv,[.t 5],none⟩]
def c78r4 : List AOper := [
 ⟨some 12,.mv,[.t 6],none⟩]
def c78r5 : List AOper := [
 ⟨some 4,.mv,[.c (.pv none (.int .i64 0))],none⟩]
def c78k6 : ACode := (.cond (.t 12) (.seq (.region true c78r5 [4]) .ret) .skip)
def c78r7 : List AOper := [
 ⟨some 4,.mv,[.c (.pv none (.int .i64 (-1)))],none⟩]
def c78k8 : ACode := (.cond (.t 11) (.seq (.seq (.region true c78r4 [12]) c78k6) (.seq (.region true c78r7 [4]) .ret)) .skip)
def c78r9 : List AOper := [
 ⟨some 13,.mv,[.t 6],none⟩]
def c78r10 : List AOper := [
 ⟨some 4,.mv,[.c (.pv none (.int .i64 1))],none⟩]
def c78k11 : ACode := (.cond (.t 13) (.seq (.region true c78r10 [4]) .ret) .skip)
def c78r12 : List AOper := [
 ⟨some 14,.mv,[.t 0],none⟩,
 ⟨some 15,.mv,[.t 1],none⟩,
 ⟨some 16,(.bin .lss),[.t 14,.t 15],none⟩]
def c78r13 : List AOper := [
 ⟨some 4,.mv,[.c (.pv none (.int .i64 (-1)))],none⟩]
def c78k14 : ACode := (.cond (.t 16) (.seq (.region true c78r13 [4]) .ret) .skip)
def c78r15 : List AOper := [
 ⟨some 17,.mv,[.t 0],none⟩,
 ⟨some 18,.mv,[.t 1],none⟩,
 ⟨some 19,(.bin .gtr),[.t 17,.t 18],none⟩]
def c78r16 : List AOper := [
 ⟨some 4,.mv,[.c (.pv none (.int .i64 1))],none⟩]
def c78k17 : ACode := (.cond (.t 19) (.seq (.region true c78r16 [4]) .ret) .skip)
def c78r18 : List AOper := [
 ⟨some 4,.mv,[.c (.pv none (.int .i64 0))],none⟩]
def c78 : ACode := (.seq (.region true c78r0 [0,1]) (.seq (.region true c78r1 [0,1,5]) (.seq (.region true c78r2 [0,1,5,6]) (.seq (.seq (.region true c78r3 [0,1,6,11]) c78k8) (.seq (.seq (.region true c78r9 [0,1,13]) c78k11) (.seq (.seq (.region true c78r12 [0,1,16]) c78k14) (.seq (.seq (.region true c78r15 [19]) c78k17) (.seq (.region true c78r18 [4]) .ret))))))))
def g78 : AFn := ⟨2,[(4,none)],c78,false,[],[],none⟩
theorem tr78 : trFn Try.prog false 78 Try.f78 = some g78 := by kernel_rfl
def c79r0 : List AOper := [
 ⟨some 2,(.box (some 4)),[.t 0],none⟩,
 ⟨some 3,(.box (some 4)),[.t 1],none⟩,
 ⟨some 4,.mv,[.c (.pv none (.bool false))],none⟩]
def c79r1 : List AOper := [
 ⟨some 7,(.faddr 0),[.t 2],none⟩,
 ⟨some 8,(.load none),[.t 7],none⟩,
 ⟨some 9,(.faddr 0),[.t 3],none⟩,
 ⟨some 10,(.load none),[.t 9],none⟩,
 ⟨some 11,(.bin .neq),[.t 8,.t 10],none⟩,
 ⟨some 12,.mv,[.t 11],none⟩,
 ⟨some 13,(.faddr 1),[.t 2],some (12,false)⟩,
 ⟨some 14,(.load none),[.t 13],some (12,false)⟩,
 ⟨some 15,(.faddr 1),[.t 3],some (12,false)⟩,
 ⟨some 16,(.load none),[.t 15],some (12,false)⟩,
 ⟨some 17,(.bin .neq),[.t 14,.t 16],some (12,false)⟩,
 ⟨some 18,.pick,[.t 12,.c (.pv none (.bool true)),.t 17],none⟩,
 ⟨some 19,.mv,[.t 18],none⟩,
 ⟨some 20,(.faddr 2),[.t 2],some (19,false)⟩,
 ⟨some 21,(.load none),[.t 20],some (19,false)⟩,
 ⟨some 22,(.faddr 2),[.t 3],some (19,false)⟩,
 ⟨some 23,(.load none),[.t 22],some (19,false)⟩,
 ⟨some 24,(.bin .neq),[.t 21,.t 23],some (19,false)⟩,
 ⟨some 25,.pick,[.t 19,.c (.pv none (.bool true)),.t 24],none⟩,
 ⟨some 26,.mv,[.t 25],none⟩,
 ⟨some 27,(.faddr 3),[.t 2],some (26,false)⟩,
 ⟨some 28,(.load none),[.t 27],some (26,false)⟩,
 ⟨some 29,.len,[.t 28],some (26,false)⟩,
 ⟨some 30,(.faddr 3),[.t 3],some (26,false)⟩,
 ⟨some 31,(.load none),[.t 30],some (26,false)⟩,
 ⟨some 32,.len,[.t 31],some (26,false)⟩,
 ⟨some 33,(.bin .neq),[.t 29,.t 32],some (26,false)⟩,
 ⟨some 34,.pick,[.t 26,.c (.pv none (.bool true)),.t 33],none⟩]
def c79r2 : List AOper := [
 ⟨some 4,.mv,[.c (.pv none (.bool false))],none⟩]
def c79k3 : ACode := (.cond (.t 34) (.seq (.region true c79r2 [4]) .ret) .skip)
def c79r4 : List AOper := [
 ⟨some 35,(.faddr 3),[.t 2],none⟩,
 ⟨some 36,(.load none),[.t 35],none⟩,
 ⟨some 37,.len,[.t 36],none⟩,
 ⟨some 38,.mv,[.c (.pv none (.int .i64 0))],none⟩]
def c79r5 : List AOper := [
 ⟨some 39,(.bin .lss),[.t 38,.t 37],none⟩]
def c79k6 : ACode := (.cond (.t 39) .skip (.exit 0))
def c79r7 : List AOper := [
 ⟨some 40,.mv,[.t 38],none⟩,
 ⟨some 41,(.iaddr (some 4)),[.t 36,.t 38],none⟩,
 ⟨some 42,(.load (some 4)),[.t 41],none⟩,
 ⟨some 6,(.alloc (some 4) (.agg [(none,(.pv none (.int .i64 0))),(none,(.pv none (.int .i64 0))),(none,(.pv none (.str []))),(none,(.tsl (some 4) []))])),[],none⟩,
 ⟨some 5,.mv,[.t 40],none⟩,
 ⟨none,(.store (some 4)),[.t 6,.t 42],none⟩]
def c79r8 : List AOper := [
 ⟨some 43,(.load (some 4)),[.t 6],none⟩,
 ⟨some 44,(.faddr 3),[.t 3],none⟩,
 ⟨some 45,(.load none),[.t 44],none⟩,
 ⟨some 46,.mv,[.t 5],none⟩,
 ⟨some 47,(.iaddr (some 4)),[.t 45,.t 46],none⟩,
 ⟨some 48,(.load (some 4)),[.t 47],none⟩,
 ⟨some 49,.call,[.c (.pv none (.func (.func 79))),.t 43,.t 48],none⟩,
 ⟨some 50,.not,[.t 49],none⟩]
def c79r9 : List AOper := [
 ⟨some 4,.mv,[.c (.pv none (.bool false))],none⟩]
def c79k10 : ACode := (.cond (.t 50) (.seq (.region true c79r9 [4]) .ret) .skip)
def c79k11 : ACode := (.block 1 (.seq (.region true c79r7 [3,5,6,36,37,38]) (.seq (.region true c79r8 [3,36,37,38,50]) c79k10)))
def c79r12 : List AOper := [
 ⟨some 51,(.bin .add),[.t 38,.c (.pv none (.int .i64 1))],none⟩,
 ⟨some 38,.mv,[.t 51],none⟩]
def c79b13 : ACode := (.seq (.region true c79r5 [3,36,37,38,39]) (.seq c79k6 (.seq c79k11 (.region true c79r12 [3,36,37,38]))))
def c79k14 : ACode := (.block 0 (.loop [3,36,37,38] c79b13))
def c79r15 : List AOper := [
 ⟨some 4,.mv,[.c (.pv none (.bool true))],none⟩]
def c79 : ACode := (.seq (.region true c79r0 [2,3]) (.seq (.seq (.region true c79r1 [2,3,34]) c79k3) (.seq (.seq (.region true c79r4 [3,36,37,38]) c79k14) (.seq (.region true c79r15 [4]) .ret))))
def g79 : AFn := ⟨2,[(4,none)],c79,false,[],[],none⟩
theorem tr79 : trFn Try.prog false 79 Try.f79 = some g79 := by kernel_rfl
def c82r0 : List AOper := [
 ⟨some 3,(.box (some 4)),[.t 0],none⟩,
 ⟨some 4,(.alloc (some 4) (.agg [(none,(.pv none (.int .i64 0))),(none,(.pv none (.int .i64 0))),(none,(.pv none (.str []))),(none,(.tsl (some 4) []))])),[],none⟩]
def c82r1 : List AOper := [
 ⟨some 5,(.load none),[.t 1],none⟩,
 ⟨some 6,(.faddr 1),[.t 3],none⟩,
 ⟨some 7,(.load none),[.t 6],none⟩,
 ⟨some 8,(.lookup false none (.pv none (.int .i64 0)) false),[.t 5,.t 7],none⟩,
 ⟨some 9,(.bin .eql),[.t 8,.c (.pv none (.int .i64 0))],none⟩]
def c82r2 : List AOper := [
 ⟨some 10,(.load none),[.t 1],none⟩,
 ⟨some 11,(.faddr 1),[.t 3],none⟩,
 ⟨some 12,(.load none),[.t 11],none⟩,
 ⟨none,(.mapset false none),[.t 10,.t 12,.c (.pv none (.int .i64 1))],none⟩]
def c82r3 : List AOper := [
 ⟨some 13,(.load none),[.t 2],none⟩,
 ⟨some 14,(.faddr 1),[.t 3],none⟩,
 ⟨some 15,(.load none),[.t 14],none⟩,
 ⟨some 16,(.bslice none),[.t 15],none⟩,
 ⟨some 17,(.append none),[.t 13,.t 16],none⟩,
 ⟨none,(.store none),[.t 2,.t 17],none⟩]
def c82k4 : ACode := (.cond (.t 9) (.seq (.region true c82r2 [2,3,4]) (.region true c82r3 [3,4])) .skip)
def c82r5 : List AOper := [
 ⟨some 18,(.load (some 4)),[.t 3],none⟩,
 ⟨none,(.store (some 4)),[.t 4,.t 18],none⟩]
def c82 : ACode := (.seq (.region true c82r0 [1,2,3,4]) (.seq (.seq (.region true c82r1 [1,2,3,4,9]) c82k4) (.seq (.region true c82r5 [4]) .ret)))
def g82 : AFn := ⟨3,[(4,some (some 4))],c82,true,[],[],none⟩
theorem tr82 : trFn Try.prog true 82 Try.f82 = some g82 := by kernel_rfl
def c83r0 : List AOper := [
 ⟨some 2,.mv,[.c (.pv none (.bool false))],none⟩]
def c83r1 : List AOper := [
 ⟨some 3,.mv,[.t 0],none⟩,
 ⟨some 4,.mv,[.t 0],none⟩,
 ⟨some 5,(.bin .neq),[.t 3,.t 4],none⟩,
 ⟨some 2,.mv,[.t 5],none⟩]
def c83 : ACode := (.seq (.region true c83r0 [0]) (.seq (.region true c83r1 [2]) .ret))
def g83 : AFn := ⟨1,[(2,none)],c83,false,[],[],none⟩
theorem tr83 : trFn Try.prog false 83 Try.f83 = some g83 := by kernel_rfl
def tab : List (Nat × AFn) := [(3,g3),(4,g4),(6,g6),(10,g10),(11,g11),(12,g12),(13,g13),(14,g14),(15,g15),(16,g16),(17,g17),(18,g18),(19,g19),(20,g20),(21,g21),(22,g22),(23,g23),(24,g24),(25,g25),(26,g26),(27,g27),(28,g28),(29,g29),(30,g30),(31,g31),(32,g32),(33,g33),(34,g34),(35,g35),(36,g36),(37,g37),(38,g38),(39,g39),(40,g40),(41,g41),(42,g42),(43,g43),(44,g44),(45,g45),(46,g46),(47,g47),(48,g48),(49,g49),(50,g50),(51,g51),(52,g52),(53,g53),(54,g54),(55,g55),(56,g56),(57,g57),(58,g58),(59,g59),(60,g60),(61,g61),(62,g62),(64,g64),(65,g65),(66,g66),(67,g67),(68,g68),(69,g69),(70,g70),(71,g71),(72,g72),(73,g73),(74,g74),(75,g75),(76,g76),(77,g77),(78,g78),(79,g79),(82,g82),(83,g83)]
theorem tab_ok : TabOk Try.prog tab :=
 (tabOk_cons Try.func3 tr3
 (tabOk_cons Try.func4 tr4
 (tabOk_cons Try.func6 tr6
 (tabOk_cons Try.func10 tr10
 (tabOk_cons Try.func11 tr11
 (tabOk_cons Try.func12 tr12
 (tabOk_cons Try.func13 tr13
 (tabOk_cons Try.func14 tr14
 (tabOk_cons Try.func15 tr15
 (tabOk_cons Try.func16 tr16
 (tabOk_cons Try.func17 tr17
 (tabOk_cons Try.func18 tr18
 (tabOk_cons Try.func19 tr19
 (tabOk_cons Try.func20 tr20
 (tabOk_cons Try.func21 tr21
 (tabOk_cons Try.func22 tr22
 (tabOk_cons Try.func23 tr23
 (tabOk_cons Try.func24 tr24
 (tabOk_cons Try.func25 tr25
 (tabOk_cons Try.func26 tr26
 (tabOk_cons Try.func27 tr27
 (tabOk_cons Try.func28 tr28
 (tabOk_cons Try.func29 tr29
 (tabOk_cons Try.func30 tr30
 (tabOk_cons Try.func31 tr31
 (tabOk_cons Try.func32 tr32
 (tabOk_cons Try.func33 tr33
 (tabOk_cons Try.func34 tr34
 (tabOk_cons Try.func35 tr35
 (tabOk_cons Try.func36 tr36
 (tabOk_cons Try.func37 tr37
 (tabOk_cons Try.func38 tr38
 (tabOk_cons Try.func39 tr39
 (tabOk_cons Try.func40 tr40
 (tabOk_cons Try.func41 tr41
 (tabOk_cons Try.func42 tr42
 (tabOk_cons Try.func43 tr43
 (tabOk_cons Try.func44 tr44
 (tabOk_cons Try.func45 tr45
 (tabOk_cons Try.func46 tr46
 (tabOk_cons Try.func47 tr47
 (tabOk_cons Try.func48 tr48
 (tabOk_cons Try.func49 tr49
 (tabOk_cons Try.func50 tr50
 (tabOk_cons Try.func51 tr51
 (tabOk_cons Try.func52 tr52
 (tabOk_cons Try.func53 tr53
 (tabOk_cons Try.func54 tr54
 (tabOk_cons Try.func55 tr55
 (tabOk_cons Try.func56 tr56
 (tabOk_cons Try.func57 tr57
 (tabOk_cons Try.func58 tr58
 (tabOk_cons Try.func59 tr59
 (tabOk_cons Try.func60 tr60
 (tabOk_cons Try.func61 tr61
 (tabOk_cons Try.func62 tr62
 (tabOk_cons Try.func64 tr64
 (tabOk_cons Try.func65 tr65
 (tabOk_cons Try.func66 tr66
 (tabOk_cons Try.func67 tr67
 (tabOk_cons Try.func68 tr68
 (tabOk_cons Try.func69 tr69
 (tabOk_cons Try.func70 tr70
 (tabOk_cons Try.func71 tr71
 (tabOk_cons Try.func72 tr72
 (tabOk_cons Try.func73 tr73
 (tabOk_cons Try.func74 tr74
 (tabOk_cons Try.func75 tr75
 (tabOk_cons Try.func76 tr76
 (tabOk_cons Try.func77 tr77
 (tabOk_cons Try.func78 tr78
 (tabOk_cons Try.func79 tr79
 (tabOk_cons Try.func82 tr82
 (tabOk_cons Try.func83 tr83 tabOk_nil))))))))))))))))))))))))))))))))))))))))))))))))))))))))))))))))))))))))))
end Go.Proofs.Ytenkiofpobeilaa
