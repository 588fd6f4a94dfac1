/- The functions as the abstract machine has them,each proved to be what the translation gives. -/
import Derived.Test.YtiifblpdlphchaaGreatRRAm4
import Derived.Test.YtiifblpdlphchaaGreatRRProg
import Derived.KernelRfl
namespace Go.Proofs.YtiifblpdlphchaaGreatRR
open Go.Am
def c3r0 : List AOper := [
 ⟨some 4,.mv,[.c (.pv none (.bool false))],none⟩]
def c3r1 : List AOper := [
 ⟨some 5,.mv,[.t 0],none⟩,
 ⟨some 6,.mv,[.t 1],none⟩,
 ⟨some 7,.call,[.c (.pv none (.func (.func 11))),.t 5,.t 6],none⟩,
 ⟨some 8,.mv,[.t 0],none⟩,
 ⟨some 9,.mv,[.t 1],none⟩,
 ⟨some 10,.call,[.c (.pv none (.func (.func 12))),.t 8,.t 9],none⟩,
 ⟨some 11,(.binb .eql),[.t 7,.t 10],none⟩,
 ⟨some 12,.mv,[.t 11],none⟩,
 ⟨some 13,.call,[.c (.pv none (.func (.func 13)))],some (12,true)⟩,
 ⟨some 14,.pick,[.t 12,.t 13,.c (.pv none (.bool false))],none⟩,
 ⟨some 4,.mv,[.t 14],none⟩]
def c3 : ACode := (.seq (.region true c3r0 [0,1]) (.seq (.region true c3r1 [4]) .ret))
def g3 : AFn := ⟨2,[(4,none)],c3,false,[],[],none⟩
theorem tr3 : trFn Tryz.prog false 3 Tryz.f3 = some g3 := by kernel_rfl
def c11r0 : List AOper := [
 ⟨some 4,.mv,[.c (.pv none (.bool false))],none⟩]
def c11r1 : List AOper := [
 ⟨some 5,.mv,[.t 1],none⟩]
def c11r2 : List AOper := [
 ⟨some 7,(.bin .eql),[.t 5,.c (.pv none (.int .i64 1))],none⟩,
 ⟨some 6,.mv,[.t 7],none⟩]
def c11r3 : List AOper := [
 ⟨some 9,.call,[.c (.pv none (.func (.func 39)))],none⟩,
 ⟨some 10,.mv,[.t 0],none⟩,
 ⟨some 11,(.lookup true none (.pv none .nilfunc) true),[.t 9,.t 10],none⟩,
 ⟨some 8,.mv,[.t 11],none⟩,
 ⟨some 12,(.extract 0),[.t 8],none⟩,
 ⟨some 13,(.extract 1),[.t 8],none⟩,
 ⟨some 4,.mv,[.t 13],none⟩]
def c11r4 : List AOper := [
 ⟨some 15,(.bin .eql),[.t 5,.c (.pv none (.int .i64 2))],none⟩,
 ⟨some 14,.mv,[.t 15],none⟩]
def c11r5 : List AOper := [
 ⟨some 17,.call,[.c (.pv none (.func (.func 40)))],none⟩,
 ⟨some 18,.mv,[.t 0],none⟩,
 ⟨some 19,(.lookup true none (.pv none .nilfunc) true),[.t 17,.t 18],none⟩,
 ⟨some 16,.mv,[.t 19],none⟩,
 ⟨some 20,(.extract 0),[.t 16],none⟩,
 ⟨some 21,(.extract 1),[.t 16],none⟩,
 ⟨some 4,.mv,[.t 21],none⟩]
def c11r6 : List AOper := [
 ⟨some 22,.mv,[.t 4],none⟩,
 ⟨some 23,.mv,[.t 22],none⟩,
 ⟨some 24,(.bslice none),[.c (.pv none (.str [92,61])),.c (.pv none (.str [61,46,46])),.c (.pv none (.str [99,111,112,121,95,116,101,114,109])),.c (.pv none (.str [116,101,114,109,95,118,97,114,105,97,98,108,101,115])),.c (.pv none (.str [108,101,110,103,116,104])),.c (.pv none (.str [109,115,111,114,116])),.c (.pv none (.str [115,111,114,116])),.c (.pv none (.str [107,101,121,115,111,114,116]))],some (23,false)⟩,
 ⟨some 25,.mv,[.t 0],some (23,false)⟩,
 ⟨some 26,.call,[.c (.pv none (.func (.func 41))),.t 24,.t 25],some (23,false)⟩,
 ⟨some 27,.pick,[.t 23,.c (.pv none (.bool true)),.t 26],none⟩,
 ⟨some 4,.mv,[.t 27],none⟩]
def c11r7 : List AOper := [
 ⟨some 29,(.bin .eql),[.t 5,.c (.pv none (.int .i64 3))],none⟩,
 ⟨some 28,.mv,[.t 29],none⟩]
def c11r8 : List AOper := [
 ⟨some 30,(.bslice none),[.c (.pv none (.str [99,111,109,112,97,114,101])),.c (.pv none (.str [102,117,110,99,116,111,114])),.c (.pv none (.str [97,114,103])),.c (.pv none (.str [98,101,116,119,101,101,110]))],none⟩,
 ⟨some 31,.mv,[.t 0],none⟩,
 ⟨some 32,.call,[.c (.pv none (.func (.func 41))),.t 30,.t 31],none⟩,
 ⟨some 4,.mv,[.t 32],none⟩]
def c11k9 : ACode := (.cond (.t 28) (.region true c11r8 [4]) .skip)
def c11k10 : ACode := (.cond (.t 14) (.seq (.region true c11r5 [0,4]) (.region true c11r6 [4])) (.seq (.region true c11r7 [0,4,28]) c11k9))
def c11k11 : ACode := (.cond (.t 6) (.region true c11r3 [4]) (.seq (.region true c11r4 [0,4,5,14]) c11k10))
def c11k12 : ACode := (.block 0 (.seq (.region true c11r2 [0,4,5,6]) c11k11))
def c11r13 : List AOper := [
 ⟨some 33,.mv,[.t 4],none⟩,
 ⟨some 4,.mv,[.t 33],none⟩]
def c11 : ACode := (.seq (.region true c11r0 [0,1,4]) (.seq (.seq (.region true c11r1 [0,4,5]) c11k12) (.seq (.region true c11r13 [4]) .ret)))
def g11 : AFn := ⟨2,[(4,none)],c11,false,[],[],none⟩
theorem tr11 : trFn Tryz.prog false 11 Tryz.f11 = some g11 := by kernel_rfl
def c12r0 : List AOper := [
 ⟨some 4,.mv,[.c (.pv none (.bool false))],none⟩]
def c12r1 : List AOper := [
 ⟨some 7,.mv,[.t 1],none⟩,
 ⟨some 8,.call,[.c (.pv none (.func (.func 42))),.t 7],none⟩,
 ⟨some 5,.mv,[.t 8],none⟩]
def c12r2 : List AOper := [
 ⟨some 6,.mv,[.c (.pv none (.int .i64 0))],none⟩]
def c12r3 : List AOper := [
 ⟨some 9,.mv,[.t 6],none⟩,
 ⟨some 10,.mv,[.t 5],none⟩,
 ⟨some 11,.len,[.t 10],none⟩,
 ⟨some 12,(.bin .lss),[.t 9,.t 11],none⟩]
def c12k4 : ACode := (.cond (.t 12) .skip (.exit 0))
def c12r5 : List AOper := [
 ⟨some 15,.mv,[.t 5],none⟩,
 ⟨some 16,.mv,[.t 6],none⟩,
 ⟨some 17,(.iaddr none),[.t 15,.t 16],none⟩,
 ⟨some 18,(.load none),[.t 17],none⟩,
 ⟨some 19,.mv,[.t 0],none⟩,
 ⟨some 20,(.bin .eql),[.t 18,.t 19],none⟩]
def c12r6 : List AOper := [
 ⟨some 4,.mv,[.c (.pv none (.bool true))],none⟩]
def c12k7 : ACode := (.cond (.t 20) (.seq (.region true c12r6 [4]) .ret) .skip)
def c12k8 : ACode := (.block 1 (.seq (.region true c12r5 [0,5,6,20]) c12k7))
def c12r9 : List AOper := [
 ⟨some 13,.mv,[.t 6],none⟩,
 ⟨some 14,(.bin .add),[.t 13,.c (.pv none (.int .i64 1))],none⟩,
 ⟨some 6,.mv,[.t 14],none⟩]
def c12b10 : ACode := (.seq (.seq (.region true c12r3 [0,5,6,12]) c12k4) (.seq c12k8 (.region true c12r9 [0,5,6])))
def c12k11 : ACode := (.block 0 (.loop [0,5,6] c12b10))
def c12r12 : List AOper := [
 ⟨some 4,.mv,[.c (.pv none (.bool false))],none⟩]
def c12 : ACode := (.seq (.region true c12r0 [0,1]) (.seq (.region true c12r1 [0,5]) (.seq (.seq (.region true c12r2 [0,5,6]) c12k11) (.seq (.region true c12r12 [4]) .ret))))
def g12 : AFn := ⟨2,[(4,none)],c12,false,[],[],none⟩
theorem tr12 : trFn Tryz.prog false 12 Tryz.f12 = some g12 := by kernel_rfl
def c13r0 : List AOper := [
 ⟨some 0,.mv,[.c (.pv none (.bool false))],none⟩]
def c13r1 : List AOper := [
 ⟨some 1,.call,[.c (.pv none (.func (.func 17))),.c (.pv none (.str [102,111,111]))],none⟩,
 ⟨some 2,(.bslice (some 4)),[.t 1],none⟩,
 ⟨some 3,.call,[.c (.pv none (.func (.func 19))),.c (.pv none (.str [97,116,111,109])),.t 2],none⟩,
 ⟨some 4,.call,[.c (.pv none (.func (.func 17))),.c (.pv none (.str [102,111,111]))],none⟩,
 ⟨some 5,(.bslice (some 4)),[.t 4],none⟩,
 ⟨some 6,.call,[.c (.pv none (.func (.func 19))),.c (.pv none (.str [97,116,111,109])),.t 5],none⟩,
 ⟨some 7,.call,[.c (.pv none (.func (.func 18))),.t 3,.t 6],none⟩,
 ⟨some 8,.mv,[.t 7],none⟩,
 ⟨some 9,.call,[.c (.pv none (.func (.func 28))),.c (.pv none (.int .i64 0))],some (8,true)⟩,
 ⟨some 10,(.bslice (some 4)),[.t 9],some (8,true)⟩,
 ⟨some 11,.call,[.c (.pv none (.func (.func 19))),.c (.pv none (.str [97,116,111,109])),.t 10],some (8,true)⟩,
 ⟨some 12,.call,[.c (.pv none (.func (.func 31))),.t 11],some (8,true)⟩,
 ⟨some 13,.pick,[.t 8,.t 12,.c (.pv none (.bool false))],none⟩,
 ⟨some 14,.mv,[.t 13],none⟩,
 ⟨some 15,.call,[.c (.pv none (.func (.func 28))),.c (.pv none (.int .i64 0))],some (14,true)⟩,
 ⟨some 16,.call,[.c (.pv none (.func (.func 28))),.c (.pv none (.int .i64 1))],some (14,true)⟩,
 ⟨some 17,(.bslice (some 4)),[.t 16],some (14,true)⟩,
 ⟨some 18,.call,[.c (.pv none (.func (.func 19))),.c (.pv none (.str [102])),.t 17],some (14,true)⟩,
 ⟨some 19,.call,[.c (.pv none (.func (.func 30))),.c (.pv none (.int .i64 3))],some (14,true)⟩,
 ⟨some 20,(.bslice (some 4)),[.t 15,.t 18,.t 19],some (14,true)⟩,
 ⟨some 21,.call,[.c (.pv none (.func (.func 19))),.c (.pv none (.str [99,111,109,112,97,114,101])),.t 20],some (14,true)⟩,
 ⟨some 22,.call,[.c (.pv none (.func (.func 17))),.c (.pv none (.str [62]))],some (14,true)⟩,
 ⟨some 23,.call,[.c (.pv none (.func (.func 28))),.c (.pv none (.int .i64 1))],some (14,true)⟩,
 ⟨some 24,(.bslice (some 4)),[.t 23],some (14,true)⟩,
 ⟨some 25,.call,[.c (.pv none (.func (.func 19))),.c (.pv none (.str [102])),.t 24],some (14,true)⟩,
 ⟨some 26,.call,[.c (.pv none (.func (.func 30))),.c (.pv none (.int .i64 3))],some (14,true)⟩,
 ⟨some 27,(.bslice (some 4)),[.t 22,.t 25,.t 26],some (14,true)⟩,
 ⟨some 28,.call,[.c (.pv none (.func (.func 19))),.c (.pv none (.str [99,111,109,112,97,114,101])),.t 27],some (14,true)⟩,
 ⟨some 29,.call,[.c (.pv none (.func (.func 18))),.t 21,.t 28],some (14,true)⟩,
 ⟨some 30,.pick,[.t 14,.t 29,.c (.pv none (.bool false))],none⟩,
 ⟨some 31,.mv,[.t 30],none⟩,
 ⟨some 32,.call,[.c (.pv none (.func (.func 28))),.c (.pv none (.int .i64 0))],some (31,true)⟩,
 ⟨some 33,.call,[.c (.pv none (.func (.func 17))),.c (.pv none (.str [102]))],some (31,true)⟩,
 ⟨some 34,.call,[.c (.pv none (.func (.func 30))),.c (.pv none (.int .i64 2))],some (31,true)⟩,
 ⟨some 35,(.bslice (some 4)),[.t 32,.t 33,.t 34],some (31,true)⟩,
 ⟨some 36,.call,[.c (.pv none (.func (.func 19))),.c (.pv none (.str [102,117,110,99,116,111,114])),.t 35],some (31,true)⟩,
 ⟨some 37,.call,[.c (.pv none (.func (.func 28))),.c (.pv none (.int .i64 1))],some (31,true)⟩,
 ⟨some 38,.call,[.c (.pv none (.func (.func 28))),.c (.pv none (.int .i64 2))],some (31,true)⟩,
 ⟨some 39,(.bslice (some 4)),[.t 37,.t 38],some (31,true)⟩,
 ⟨some 40,.call,[.c (.pv none (.func (.func 19))),.c (.pv none (.str [102])),.t 39],some (31,true)⟩,
 ⟨some 41,.call,[.c (.pv none (.func (.func 17))),.c (.pv none (.str [102]))],some (31,true)⟩,
 ⟨some 42,.call,[.c (.pv none (.func (.func 30))),.c (.pv none (.int .i64 2))],some (31,true)⟩,
 ⟨some 43,(.bslice (some 4)),[.t 40,.t 41,.t 42],some (31,true)⟩,
 ⟨some 44,.call,[.c (.pv none (.func (.func 19))),.c (.pv none (.str [102,117,110,99,116,111,114])),.t 43],some (31,true)⟩,
 ⟨some 45,.call,[.c (.pv none (.func (.func 18))),.t 36,.t 44],some (31,true)⟩,
 ⟨some 46,.pick,[.t 31,.t 45,.c (.pv none (.bool false))],none⟩,
 ⟨some 47,.mv,[.t 46],none⟩,
 ⟨some 48,.call,[.c (.pv none (.func (.func 28))),.c (.pv none (.int .i64 0))],some (47,true)⟩,
 ⟨some 49,.call,[.c (.pv none (.func (.func 17))),.c (.pv none (.str [102]))],some (47,true)⟩,
 ⟨some 50,.call,[.c (.pv none (.func (.func 30))),.c (.pv none (.int .i64 (-1)))],some (47,true)⟩,
 ⟨some 51,(.bslice (some 4)),[.t 48,.t 49,.t 50],some (47,true)⟩,
 ⟨some 52,.call,[.c (.pv none (.func (.func 19))),.c (.pv none (.str [102,117,110,99,116,111,114])),.t 51],some (47,true)⟩,
 ⟨some 53,.call,[.c (.pv none (.func (.func 17))),.c (.pv none (.str [110,111,116,95,108,101,115,115,95,116,104,97,110,95,122,101,114,111]))],some (47,true)⟩,
 ⟨some 54,.call,[.c (.pv none (.func (.func 30))),.c (.pv none (.int .i64 (-1)))],some (47,true)⟩,
 ⟨some 55,(.bslice (some 4)),[.t 53,.t 54],some (47,true)⟩,
 ⟨some 56,.call,[.c (.pv none (.func (.func 19))),.c (.pv none (.str [100,111,109,97,105,110,95,101,114,114,111,114])),.t 55],some (47,true)⟩,
 ⟨some 57,.call,[.c (.pv none (.func (.func 37))),.t 52,.t 56],some (47,true)⟩,
 ⟨some 58,.pick,[.t 47,.t 57,.c (.pv none (.bool false))],none⟩,
 ⟨some 59,.mv,[.t 58],none⟩,
 ⟨some 60,.call,[.c (.pv none (.func (.func 28))),.c (.pv none (.int .i64 0))],some (59,true)⟩,
 ⟨some 61,.call,[.c (.pv none (.func (.func 28))),.c (.pv none (.int .i64 1))],some (59,true)⟩,
 ⟨some 62,.call,[.c (.pv none (.func (.func 28))),.c (.pv none (.int .i64 0))],some (59,true)⟩,
 ⟨some 63,(.bslice (some 4)),[.t 60,.t 61,.t 62],some (59,true)⟩,
 ⟨some 64,.call,[.c (.pv none (.func (.func 19))),.c (.pv none (.str [102])),.t 63],some (59,true)⟩,
 ⟨some 65,.call,[.c (.pv none (.func (.func 28))),.c (.pv none (.int .i64 2))],some (59,true)⟩,
 ⟨some 66,(.bslice (some 4)),[.t 64,.t 65],some (59,true)⟩,
 ⟨some 67,.call,[.c (.pv none (.func (.func 19))),.c (.pv none (.str [99,111,112,121,95,116,101,114,109])),.t 66],some (59,true)⟩,
 ⟨some 68,.call,[.c (.pv none (.func (.func 28))),.c (.pv none (.int .i64 0))],some (59,true)⟩,
 ⟨some 69,.call,[.c (.pv none (.func (.func 28))),.c (.pv none (.int .i64 1))],some (59,true)⟩,
 ⟨some 70,.call,[.c (.pv none (.func (.func 28))),.c (.pv none (.int .i64 0))],some (59,true)⟩,
 ⟨some 71,(.bslice (some 4)),[.t 68,.t 69,.t 70],some (59,true)⟩,
 ⟨some 72,.call,[.c (.pv none (.func (.func 19))),.c (.pv none (.str [102])),.t 71],some (59,true)⟩,
 ⟨some 73,.call,[.c (.pv none (.func (.func 28))),.c (.pv none (.int .i64 3))],some (59,true)⟩,
 ⟨some 74,.call,[.c (.pv none (.func (.func 28))),.c (.pv none (.int .i64 4))],some (59,true)⟩,
 ⟨some 75,.call,[.c (.pv none (.func (.func 28))),.c (.pv none (.int .i64 3))],some (59,true)⟩,
 ⟨some 76,(.bslice (some 4)),[.t 73,.t 74,.t 75],some (59,true)⟩,
 ⟨some 77,.call,[.c (.pv none (.func (.func 19))),.c (.pv none (.str [102])),.t 76],some (59,true)⟩,
 ⟨some 78,(.bslice (some 4)),[.t 72,.t 77],some (59,true)⟩,
 ⟨some 79,.call,[.c (.pv none (.func (.func 19))),.c (.pv none (.str [99,111,112,121,95,116,101,114,109])),.t 78],some (59,true)⟩,
 ⟨some 80,.call,[.c (.pv none (.func (.func 18))),.t 67,.t 79],some (59,true)⟩,
 ⟨some 81,.pick,[.t 59,.t 80,.c (.pv none (.bool false))],none⟩,
 ⟨some 82,.mv,[.t 81],none⟩,
 ⟨some 83,.call,[.c (.pv none (.func (.func 17))),.c (.pv none (.str [91,93]))],some (82,true)⟩,
 ⟨some 84,.call,[.c (.pv none (.func (.func 17))),.c (.pv none (.str [99]))],some (82,true)⟩,
 ⟨some 85,.call,[.c (.pv none (.func (.func 30))),.c (.pv none (.int .i64 1))],some (82,true)⟩,
 ⟨some 86,.call,[.c (.pv none (.func (.func 17))),.c (.pv none (.str [98]))],some (82,true)⟩,
 ⟨some 87,.call,[.c (.pv none (.func (.func 30))),.c (.pv none (.int .i64 1))],some (82,true)⟩,
 ⟨some 88,(.bslice (some 4)),[.t 84,.t 85,.t 86,.t 87],some (82,true)⟩,
 ⟨some 89,.call,[.c (.pv none (.func (.func 27))),.t 83,.t 88],some (82,true)⟩,
 ⟨some 90,.call,[.c (.pv none (.func (.func 28))),.c (.pv none (.int .i64 0))],some (82,true)⟩,
 ⟨some 91,(.bslice (some 4)),[.t 89,.t 90],some (82,true)⟩,
 ⟨some 92,.call,[.c (.pv none (.func (.func 19))),.c (.pv none (.str [115,111,114,116])),.t 91],some (82,true)⟩,
 ⟨some 93,.call,[.c (.pv none (.func (.func 17))),.c (.pv none (.str [91,93]))],some (82,true)⟩,
 ⟨some 94,.call,[.c (.pv none (.func (.func 17))),.c (.pv none (.str [99]))],some (82,true)⟩,
 ⟨some 95,.call,[.c (.pv none (.func (.func 30))),.c (.pv none (.int .i64 1))],some (82,true)⟩,
 ⟨some 96,.call,[.c (.pv none (.func (.func 17))),.c (.pv none (.str [98]))],some (82,true)⟩,
 ⟨some 97,.call,[.c (.pv none (.func (.func 30))),.c (.pv none (.int .i64 1))],some (82,true)⟩,
 ⟨some 98,(.bslice (some 4)),[.t 94,.t 95,.t 96,.t 97],some (82,true)⟩,
 ⟨some 99,.call,[.c (.pv none (.func (.func 27))),.t 93,.t 98],some (82,true)⟩,
 ⟨some 100,.call,[.c (.pv none (.func (.func 17))),.c (.pv none (.str [91,93]))],some (82,true)⟩,
 ⟨some 101,.call,[.c (.pv none (.func (.func 30))),.c (.pv none (.int .i64 1))],some (82,true)⟩,
 ⟨some 102,.call,[.c (.pv none (.func (.func 17))),.c (.pv none (.str [98]))],some (82,true)⟩,
 ⟨some 103,.call,[.c (.pv none (.func (.func 17))),.c (.pv none (.str [99]))],some (82,true)⟩,
 ⟨some 104,(.bslice (some 4)),[.t 101,.t 102,.t 103],some (82,true)⟩,
 ⟨some 105,.call,[.c (.pv none (.func (.func 27))),.t 100,.t 104],some (82,true)⟩,
 ⟨some 106,(.bslice (some 4)),[.t 99,.t 105],some (82,true)⟩,
 ⟨some 107,.call,[.c (.pv none (.func (.func 19))),.c (.pv none (.str [115,111,114,116])),.t 106],some (82,true)⟩,
 ⟨some 108,.call,[.c (.pv none (.func (.func 18))),.t 92,.t 107],some (82,true)⟩,
 ⟨some 109,.pick,[.t 82,.t 108,.c (.pv none (.bool false))],none⟩,
 ⟨some 110,.mv,[.t 109],none⟩,
 ⟨some 111,.call,[.c (.pv none (.func (.func 28))),.c (.pv none (.int .i64 0))],some (110,true)⟩,
 ⟨some 112,.call,[.c (.pv none (.func (.func 28))),.c (.pv none (.int .i64 1))],some (110,true)⟩,
 ⟨some 113,(.bslice (some 4)),[.t 111,.t 112],some (110,true)⟩,
 ⟨some 114,.call,[.c (.pv none (.func (.func 19))),.c (.pv none (.str [108,101,110,103,116,104])),.t 113],some (110,true)⟩,
 ⟨some 115,.call,[.c (.pv none (.func (.func 17))),.c (.pv none (.str [105,110,115,116,97,110,116,105,97,116,105,111,110,95,101,114,114,111,114]))],some (110,true)⟩,
 ⟨some 116,.call,[.c (.pv none (.func (.func 37))),.t 114,.t 115],some (110,true)⟩,
 ⟨some 117,.pick,[.t 110,.t 116,.c (.pv none (.bool false))],none⟩,
 ⟨some 0,.mv,[.t 117],none⟩]
def c13 : ACode := (.seq (.region true c13r0 []) (.seq (.region true c13r1 [0]) .ret))
def g13 : AFn := ⟨0,[(0,none)],c13,false,[],[],none⟩
theorem tr13 : trFn Tryz.prog false 13 Tryz.f13 = some g13 := by kernel_rfl
def c15r0 : List AOper := [
 ⟨some 2,(.box (some 4)),[.t 0],none⟩,
 ⟨some 3,(.box (some 4)),[.t 1],none⟩,
 ⟨some 4,.mv,[.c (.pv none (.int .i64 0))],none⟩]
def c15r1 : List AOper := [
 ⟨some 5,(.load (some 4)),[.t 2],none⟩,
 ⟨some 6,.call,[.c (.pv none (.func (.func 43))),.t 5],none⟩,
 ⟨some 7,.not,[.t 6],none⟩,
 ⟨some 8,.mv,[.t 7],none⟩,
 ⟨some 9,(.load (some 4)),[.t 3],some (8,false)⟩,
 ⟨some 10,.call,[.c (.pv none (.func (.func 43))),.t 9],some (8,false)⟩,
 ⟨some 11,.not,[.t 10],some (8,false)⟩,
 ⟨some 12,.pick,[.t 8,.c (.pv none (.bool true)),.t 11],none⟩]
def c15r2 : List AOper := [
 ⟨some 4,.mv,[.c (.pv none (.int .i64 0))],none⟩]
def c15k3 : ACode := (.cond (.t 12) (.seq (.region true c15r2 [4]) .ret) .skip)
def c15r4 : List AOper := [
 ⟨some 13,(.load (some 4)),[.t 2],none⟩,
 ⟨some 14,(.load (some 4)),[.t 3],none⟩,
 ⟨some 15,.call,[.c (.pv none (.func (.func 44))),.t 13,.t 14],none⟩,
 ⟨some 4,.mv,[.t 15],none⟩]
def c15 : ACode := (.seq (.region true c15r0 [2,3]) (.seq (.seq (.region true c15r1 [2,3,12]) c15k3) (.seq (.region true c15r4 [4]) .ret)))
def g15 : AFn := ⟨2,[(4,none)],c15,false,[],[],none⟩
theorem tr15 : trFn Tryz.prog false 15 Tryz.f15 = some g15 := by kernel_rfl
def c17r0 : List AOper := [
 ⟨some 2,(.alloc (some 4) (.agg [(none,(.pv none (.int .i64 0))),(none,(.pv none (.int .i64 0))),(none,(.pv none (.str []))),(none,(.tsl (some 4) []))])),[],none⟩]
def c17r1 : List AOper := [
 ⟨some 3,.mv,[.t 0],none⟩,
 ⟨some 4,(.build [(none,(.pv none (.int .i64 0))),(none,(.pv none (.int .i64 0))),(none,(.pv none (.str []))),(none,(.tsl (some 4) []))] [0,2]),[.c (.pv none (.int .i64 2)),.t 3],none⟩,
 ⟨none,(.store (some 4)),[.t 2,.t 4],none⟩]
def c17 : ACode := (.seq (.region true c17r0 [0,2]) (.seq (.region true c17r1 [2]) .ret))
def g17 : AFn := ⟨1,[(2,some (some 4))],c17,false,[],[],none⟩
theorem tr17 : trFn Tryz.prog false 17 Tryz.f17 = some g17 := by kernel_rfl
def c18r0 : List AOper := [
 ⟨some 2,(.box (some 4)),[.t 0],none⟩,
 ⟨some 3,(.box (some 4)),[.t 1],none⟩,
 ⟨some 4,.mv,[.c (.pv none (.bool false))],none⟩]
def c18r1 : List AOper := [
 ⟨some 9,(.load (some 4)),[.t 2],none⟩,
 ⟨some 10,.call,[.c (.pv none (.func (.func 20))),.t 9],none⟩,
 ⟨some 8,.mv,[.t 10],none⟩,
 ⟨some 11,(.extract 0),[.t 8],none⟩,
 ⟨some 12,(.extract 1),[.t 8],none⟩,
 ⟨some 13,(.extract 2),[.t 8],none⟩,
 ⟨some 6,(.alloc (some 4) (.agg [(none,(.pv none (.int .i64 0))),(none,(.pv none (.int .i64 0))),(none,(.pv none (.str []))),(none,(.tsl (some 4) []))])),[],none⟩,
 ⟨some 5,.mv,[.t 11],none⟩,
 ⟨none,(.store (some 4)),[.t 6,.t 12],none⟩,
 ⟨some 7,.mv,[.t 13],none⟩]
def c18r2 : List AOper := [
 ⟨some 14,.mv,[.t 7],none⟩,
 ⟨some 15,(.bin .eql),[.t 14,.c (.pv none (.int .i64 0))],none⟩,
 ⟨some 16,.mv,[.t 15],none⟩,
 ⟨some 17,.mv,[.t 5],some (16,true)⟩,
 ⟨some 18,.len,[.t 17],some (16,true)⟩,
 ⟨some 19,(.bin .eql),[.t 18,.c (.pv none (.int .i64 1))],some (16,true)⟩,
 ⟨some 20,.pick,[.t 16,.t 19,.c (.pv none (.bool false))],none⟩,
 ⟨some 21,.mv,[.t 20],none⟩,
 ⟨some 22,.mv,[.t 5],some (21,true)⟩,
 ⟨some 23,(.iaddr (some 4)),[.t 22,.c (.pv none (.int .i64 0))],some (21,true)⟩,
 ⟨some 24,(.load (some 4)),[.t 23],some (21,true)⟩,
 ⟨some 25,(.load (some 4)),[.t 3],some (21,true)⟩,
 ⟨some 26,.call,[.c (.pv none (.func (.func 22))),.t 24,.t 25],some (21,true)⟩,
 ⟨some 27,.pick,[.t 21,.t 26,.c (.pv none (.bool false))],none⟩,
 ⟨some 28,.mv,[.t 27],none⟩,
 ⟨some 29,(.load (some 4)),[.t 6],some (28,true)⟩,
 ⟨some 30,(.build [(none,(.pv none (.int .i64 0))),(none,(.pv none (.int .i64 0))),(none,(.pv none (.str []))),(none,(.tsl (some 4) []))] []),[],some (28,true)⟩,
 ⟨some 31,.call,[.c (.pv none (.func (.func 22))),.t 29,.t 30],some (28,true)⟩,
 ⟨some 32,.pick,[.t 28,.t 31,.c (.pv none (.bool false))],none⟩,
 ⟨some 4,.mv,[.t 32],none⟩]
def c18 : ACode := (.seq (.region true c18r0 [2,3]) (.seq (.region true c18r1 [3,5,6,7]) (.seq (.region true c18r2 [4]) .ret)))
def g18 : AFn := ⟨2,[(4,none)],c18,false,[],[],none⟩
theorem tr18 : trFn Tryz.prog false 18 Tryz.f18 = some g18 := by kernel_rfl
def c19r0 : List AOper := [
 ⟨some 4,(.alloc (some 4) (.agg [(none,(.pv none (.int .i64 0))),(none,(.pv none (.int .i64 0))),(none,(.pv none (.str []))),(none,(.tsl (some 4) []))])),[],none⟩]
def c19r1 : List AOper := [
 ⟨some 5,.mv,[.t 0],none⟩,
 ⟨some 6,.mv,[.t 1],none⟩,
 ⟨some 7,(.build [(none,(.pv none (.int .i64 0))),(none,(.pv none (.int .i64 0))),(none,(.pv none (.str []))),(none,(.tsl (some 4) []))] [0,2,3]),[.c (.pv none (.int .i64 3)),.t 5,.t 6],none⟩,
 ⟨none,(.store (some 4)),[.t 4,.t 7],none⟩]
def c19 : ACode := (.seq (.region true c19r0 [0,1,4]) (.seq (.region true c19r1 [4]) .ret))
def g19 : AFn := ⟨2,[(4,some (some 4))],c19,false,[],[],none⟩
theorem tr19 : trFn Tryz.prog false 19 Tryz.f19 = some g19 := by kernel_rfl
def c20r0 : List AOper := [
 ⟨some 1,(.box (some 4)),[.t 0],none⟩,
 ⟨some 2,(.alloc none (.tsl (some 4) [])),[],none⟩,
 ⟨some 3,(.alloc (some 4) (.agg [(none,(.pv none (.int .i64 0))),(none,(.pv none (.int .i64 0))),(none,(.pv none (.str []))),(none,(.tsl (some 4) []))])),[],none⟩,
 ⟨some 4,(.alloc none (.pv none (.int .i64 0))),[],none⟩]
def c20r1 : List AOper := [
 ⟨some 9,(.load (some 4)),[.t 1],none⟩,
 ⟨some 10,.callp,[.c (.pv none (.func (.func 43))),.t 9],none⟩,
 ⟨some 11,.not,[.t 10],none⟩,
 ⟨some 12,.mv,[.t 11],none⟩,
 ⟨some 13,(.load (some 4)),[.t 1],some (12,false)⟩,
 ⟨some 14,(.load (some 4)),[.t 1],some (12,false)⟩,
 ⟨some 15,.callp,[.c (.pv none (.func (.func 46))),.t 14],some (12,false)⟩,
 ⟨some 16,.callp,[.c (.pv none (.func (.func 45))),.t 13,.t 15],some (12,false)⟩,
 ⟨some 17,.not,[.t 16],some (12,false)⟩,
 ⟨some 18,.pick,[.t 12,.c (.pv none (.bool true)),.t 17],none⟩]
def c20r2 : List AOper := [
 ⟨some 19,(.build [(none,(.pv none (.int .i64 0))),(none,(.pv none (.int .i64 0))),(none,(.pv none (.str []))),(none,(.tsl (some 4) []))] []),[],none⟩,
 ⟨none,(.store none),[.t 2,.c (.tsl (some 4) [])],none⟩,
 ⟨none,(.store (some 4)),[.t 3,.t 19],none⟩,
 ⟨none,(.store none),[.t 4,.c (.pv none (.int .i64 1))],none⟩]
def c20k3 : ACode := (.cond (.t 18) (.seq (.region true c20r2 [2,3,4]) .ret) .skip)
def c20r4 : List AOper := [
 ⟨some 20,(.load (some 4)),[.t 1],none⟩,
 ⟨some 21,.call,[.c (.pv none (.func (.func 47))),.t 20],none⟩,
 ⟨some 22,.not,[.t 21],none⟩,
 ⟨some 23,.mv,[.t 22],none⟩,
 ⟨some 24,(.faddr 2),[.t 1],some (23,false)⟩,
 ⟨some 25,(.load none),[.t 24],some (23,false)⟩,
 ⟨some 26,(.faddr 3),[.t 1],some (23,false)⟩,
 ⟨some 27,(.load none),[.t 26],some (23,false)⟩,
 ⟨some 28,.len,[.t 27],some (23,false)⟩,
 ⟨some 29,.call,[.c (.pv none (.func (.func 11))),.t 25,.t 28],some (23,false)⟩,
 ⟨some 30,.not,[.t 29],some (23,false)⟩,
 ⟨some 31,.pick,[.t 23,.c (.pv none (.bool true)),.t 30],none⟩]
def c20r5 : List AOper := [
 ⟨some 32,(.build [(none,(.pv none (.int .i64 0))),(none,(.pv none (.int .i64 0))),(none,(.pv none (.str []))),(none,(.tsl (some 4) []))] []),[],none⟩,
 ⟨none,(.store none),[.t 2,.c (.tsl (some 4) [])],none⟩,
 ⟨none,(.store (some 4)),[.t 3,.t 32],none⟩,
 ⟨none,(.store none),[.t 4,.c (.pv none (.int .i64 4))],none⟩]
def c20k6 : ACode := (.cond (.t 31) (.seq (.region true c20r5 [2,3,4]) .ret) .skip)
def c20r7 : List AOper := [
 ⟨some 33,(.mkfunc (.func 48) 0),[.t 2,.t 3,.t 4],none⟩]
def c20r8 : List AOper := [
 ⟨some 34,(.load (some 4)),[.t 1],none⟩,
 ⟨some 35,(.load (some 4)),[.t 1],none⟩,
 ⟨some 36,.callp,[.c (.pv none (.func (.func 49))),.t 35],none⟩,
 ⟨some 37,.len,[.t 36],none⟩,
 ⟨some 38,(.build [((some 4),(.agg [(none,(.pv none (.int .i64 0))),(none,(.pv none (.int .i64 0))),(none,(.pv none (.str []))),(none,(.tsl (some 4) []))])),(none,(.pv none (.int .i64 0)))] [0,1]),[.t 34,.t 37],none⟩,
 ⟨some 39,(.box (some 5)),[.t 38],none⟩,
 ⟨some 5,.mv,[.t 39],none⟩]
def c20r9 : List AOper := [
 ⟨some 41,.mv,[.t 5],none⟩,
 ⟨some 42,.call,[.c (.pv none (.func (.func 50))),.t 41],none⟩,
 ⟨some 40,.mv,[.t 42],none⟩,
 ⟨some 43,(.extract 0),[.t 40],none⟩,
 ⟨some 44,(.extract 1),[.t 40],none⟩,
 ⟨some 6,.mv,[.t 43],none⟩,
 ⟨none,(.store none),[.t 4,.t 44],none⟩]
def c20r10 : List AOper := [
 ⟨some 45,(.load none),[.t 4],none⟩,
 ⟨some 46,(.bin .neq),[.t 45,.c (.pv none (.int .i64 0))],none⟩]
def c20r11 : List AOper := [
 ⟨some 47,(.build [(none,(.pv none (.int .i64 0))),(none,(.pv none (.int .i64 0))),(none,(.pv none (.str []))),(none,(.tsl (some 4) []))] []),[],none⟩,
 ⟨some 48,(.load none),[.t 4],none⟩,
 ⟨none,(.storen none),[.t 2,.c (.tsl (some 4) []),.t 4],none⟩,
 ⟨none,(.storen (some 4)),[.t 3,.t 47,.t 4],none⟩,
 ⟨none,(.store none),[.t 4,.t 48],none⟩]
def c20k12 : ACode := (.cond (.t 46) (.seq (.region true c20r11 [2,3,4]) .ret) .skip)
def c20r13 : List AOper := [
 ⟨some 49,.mv,[.t 6],none⟩,
 ⟨some 50,.len,[.t 49],none⟩,
 ⟨some 51,(.bin .gtr),[.t 50,.c (.pv none (.int .i64 1000))],none⟩]
def c20r14 : List AOper := [
 ⟨some 52,(.build [(none,(.pv none (.int .i64 0))),(none,(.pv none (.int .i64 0))),(none,(.pv none (.str []))),(none,(.tsl (some 4) []))] []),[],none⟩,
 ⟨none,(.store none),[.t 2,.c (.tsl (some 4) [])],none⟩,
 ⟨none,(.store (some 4)),[.t 3,.t 52],none⟩,
 ⟨none,(.store none),[.t 4,.c (.pv none (.int .i64 2))],none⟩]
def c20k15 : ACode := (.cond (.t 51) (.seq (.region true c20r14 [2,3,4]) .ret) .skip)
def c20r16 : List AOper := [
 ⟨some 53,.mv,[.t 6],none⟩,
 ⟨some 54,.len,[.t 53],none⟩,
 ⟨some 55,.mv,[.c (.pv none (.int .i64 0))],none⟩]
def c20r17 : List AOper := [
 ⟨some 56,(.bin .lss),[.t 55,.t 54],none⟩]
def c20k18 : ACode := (.cond (.t 56) .skip (.exit 0))
def c20r19 : List AOper := [
 ⟨some 57,(.iaddr (some 4)),[.t 53,.t 55],none⟩,
 ⟨some 58,(.load (some 4)),[.t 57],none⟩,
 ⟨some 8,(.alloc (some 4) (.agg [(none,(.pv none (.int .i64 0))),(none,(.pv none (.int .i64 0))),(none,(.pv none (.str []))),(none,(.tsl (some 4) []))])),[],none⟩,
 ⟨none,(.store (some 4)),[.t 8,.t 58],none⟩]
def c20r20 : List AOper := [
 ⟨some 59,(.load (some 4)),[.t 8],none⟩,
 ⟨some 60,.call,[.c (.pv none (.func (.func 43))),.t 59],none⟩,
 ⟨some 61,.not,[.t 60],none⟩]
def c20r21 : List AOper := [
 ⟨some 62,(.build [(none,(.pv none (.int .i64 0))),(none,(.pv none (.int .i64 0))),(none,(.pv none (.str []))),(none,(.tsl (some 4) []))] []),[],none⟩,
 ⟨none,(.store none),[.t 2,.c (.tsl (some 4) [])],none⟩,
 ⟨none,(.store (some 4)),[.t 3,.t 62],none⟩,
 ⟨none,(.store none),[.t 4,.c (.pv none (.int .i64 2))],none⟩]
def c20k22 : ACode := (.cond (.t 61) (.seq (.region true c20r21 [2,3,4]) .ret) .skip)
def c20r23 : List AOper := [
 ⟨some 63,(.load none),[.t 2],none⟩,
 ⟨some 64,(.load (some 4)),[.t 8],none⟩,
 ⟨some 65,.callp,[.c (.pv none (.func (.func 51))),.t 64],none⟩,
 ⟨some 66,.len,[.t 63],none⟩,
 ⟨some 67,(.bslicep (some 4)),[.c (.agg [(none,(.pv none (.int .i64 0))),(none,(.pv none (.int .i64 0))),(none,(.pv none (.str []))),(none,(.tsl (some 4) []))])],none⟩,
 ⟨some 68,(.append (some 4)),[.t 63,.t 67],none⟩,
 ⟨some 69,(.iaddr (some 4)),[.t 68,.t 66],none⟩,
 ⟨none,(.store (some 4)),[.t 69,.t 65],none⟩,
 ⟨none,(.storex none),[.t 2,.t 68,.t 69,.t 65],none⟩]
def c20k24 : ACode := (.block 1 (.seq (.region true c20r19 [2,3,4,8,53,54,55]) (.seq (.seq (.region true c20r20 [2,3,4,8,53,54,55,61]) c20k22) (.seq (.settle [8]) (.region false c20r23 [2,3,4,53,54,55])))))
def c20r25 : List AOper := [
 ⟨some 70,(.bin .add),[.t 55,.c (.pv none (.int .i64 1))],none⟩,
 ⟨some 55,.mv,[.t 70],none⟩]
def c20b26 : ACode := (.seq (.region true c20r17 [2,3,4,53,54,55,56]) (.seq c20k18 (.seq c20k24 (.region true c20r25 [2,3,4,53,54,55]))))
def c20k27 : ACode := (.block 0 (.loop [2,3,4,53,54,55] c20b26))
def c20r28 : List AOper := [
 ⟨some 71,(.load none),[.t 2],none⟩,
 ⟨some 72,(.build [(none,(.pv none (.int .i64 0))),(none,(.pv none (.int .i64 0))),(none,(.pv none (.str []))),(none,(.tsl (some 4) []))] []),[],none⟩,
 ⟨none,(.store none),[.t 2,.t 71],none⟩,
 ⟨none,(.store (some 4)),[.t 3,.t 72],none⟩,
 ⟨none,(.store none),[.t 4,.c (.pv none (.int .i64 0))],none⟩]
def c20p29 : ACode := (.seq (.seq (.settle [1]) (.region true c20r8 [2,3,4,5])) (.seq (.region true c20r9 [2,3,4,6]) (.seq (.region true c20r10 [2,3,4,6,46]) (.seq c20k12 (.seq (.region true c20r13 [2,3,4,6,51]) (.seq c20k15 (.seq (.region true c20r16 [2,3,4,53,54,55]) (.seq c20k27 (.seq (.region true c20r28 [2,3,4]) (.seq .ret .skip))))))))))
def c20 : ACode := (.seq (.region true c20r0 [1,2,3,4]) (.seq (.seq (.settle [1]) (.region true c20r1 [1,2,3,4,18])) (.seq c20k3 (.seq (.region true c20r4 [1,2,3,4,31]) (.seq c20k6 (.region true c20r7 [1,2,3,4,33]))))))
def g20 : AFn := ⟨1,[(2,some none),(3,some (some 4)),(4,some none)],c20,false,[(.dfr 33,c20p29)],[],none⟩
theorem tr20 : trFn Tryz.prog false 20 Tryz.f20 = some g20 := by kernel_rfl
def c21r0 : List AOper := [
 ⟨some 4,(.box (some 4)),[.t 1],none⟩,
 ⟨some 5,(.box (some 4)),[.t 2],none⟩,
 ⟨some 6,(.alloc none (.tsl (some 5) [])),[],none⟩,
 ⟨some 7,(.alloc none (.pv none (.int .i64 0))),[],none⟩]
def c21r1 : List AOper := [
 ⟨some 9,.mv,[.t 0],none⟩,
 ⟨some 10,.call,[.c (.pv none (.func (.func 52))),.t 9],none⟩,
 ⟨some 11,.not,[.t 10],none⟩,
 ⟨some 12,.mv,[.t 11],none⟩,
 ⟨some 13,(.load (some 4)),[.t 4],some (12,false)⟩,
 ⟨some 14,.call,[.c (.pv none (.func (.func 43))),.t 13],some (12,false)⟩,
 ⟨some 15,.not,[.t 14],some (12,false)⟩,
 ⟨some 16,.pick,[.t 12,.c (.pv none (.bool true)),.t 15],none⟩,
 ⟨some 17,.mv,[.t 16],none⟩,
 ⟨some 18,(.load (some 4)),[.t 5],some (17,false)⟩,
 ⟨some 19,.call,[.c (.pv none (.func (.func 43))),.t 18],some (17,false)⟩,
 ⟨some 20,.not,[.t 19],some (17,false)⟩,
 ⟨some 21,.pick,[.t 17,.c (.pv none (.bool true)),.t 20],none⟩]
def c21r2 : List AOper := [
 ⟨none,(.store none),[.t 6,.c (.tsl (some 5) [])],none⟩,
 ⟨none,(.store none),[.t 7,.c (.pv none (.int .i64 1))],none⟩]
def c21k3 : ACode := (.cond (.t 21) (.seq (.region true c21r2 [6,7]) .ret) .skip)
def c21r4 : List AOper := [
 ⟨some 22,(.mkfunc (.func 53) 0),[.t 6,.t 7],none⟩]
def c21r5 : List AOper := [
 ⟨some 23,.mv,[.t 0],none⟩,
 ⟨some 24,.call,[.c (.pv none (.func (.func 54))),.t 23],none⟩,
 ⟨some 25,(.build [(none,(.tsl (some 5) []))] [0]),[.t 24],none⟩,
 ⟨some 26,(.box (some 1)),[.t 25],none⟩,
 ⟨some 8,.mv,[.t 26],none⟩]
def c21r6 : List AOper := [
 ⟨some 27,.mv,[.t 8],none⟩,
 ⟨some 28,(.load (some 4)),[.t 4],none⟩,
 ⟨some 29,(.load (some 4)),[.t 5],none⟩,
 ⟨some 30,.call,[.c (.pv none (.func (.func 55))),.t 27,.t 28,.t 29],none⟩]
def c21r7 : List AOper := [
 ⟨some 31,.mv,[.t 8],none⟩,
 ⟨some 32,.nilcheck,[.t 31],none⟩,
 ⟨some 33,(.faddr 0),[.t 32],none⟩,
 ⟨some 34,(.load none),[.t 33],none⟩,
 ⟨none,(.store none),[.t 6,.t 34],none⟩,
 ⟨none,(.store none),[.t 7,.c (.pv none (.int .i64 0))],none⟩]
def c21p8 : ACode := (.seq (.region true c21r5 [4,5,6,7,8]) (.seq (.region true c21r6 [6,7,8]) (.seq (.region true c21r7 [6,7]) (.seq .ret .skip))))
def c21 : ACode := (.seq (.region true c21r0 [0,4,5,6,7]) (.seq (.region true c21r1 [0,4,5,6,7,21]) (.seq c21k3 (.region true c21r4 [0,4,5,6,7,22]))))
def g21 : AFn := ⟨3,[(6,some none),(7,some none)],c21,false,[(.dfr 22,c21p8)],[],none⟩
theorem tr21 : trFn Tryz.prog false 21 Tryz.f21 = some g21 := by kernel_rfl
def c22r0 : List AOper := [
 ⟨some 2,(.box (some 4)),[.t 0],none⟩,
 ⟨some 3,(.box (some 4)),[.t 1],none⟩,
 ⟨some 4,.mv,[.c (.pv none (.bool false))],none⟩]
def c22r1 : List AOper := [
 ⟨some 5,(.load (some 4)),[.t 2],none⟩,
 ⟨some 6,(.load (some 4)),[.t 3],none⟩,
 ⟨some 7,.call,[.c (.pv none (.func (.func 56))),.t 5,.t 6],none⟩,
 ⟨some 4,.mv,[.t 7],none⟩]
def c22 : ACode := (.seq (.region true c22r0 [2,3]) (.seq (.region true c22r1 [4]) .ret))
def g22 : AFn := ⟨2,[(4,none)],c22,false,[],[],none⟩
theorem tr22 : trFn Tryz.prog false 22 Tryz.f22 = some g22 := by kernel_rfl
def c23r0 : List AOper := [
 ⟨some 1,(.box (some 4)),[.t 0],none⟩,
 ⟨some 2,.mv,[.c (.pv none (.bool false))],none⟩]
def c23r1 : List AOper := [
 ⟨some 3,(.load (some 4)),[.t 1],none⟩,
 ⟨some 4,.call,[.c (.pv none (.func (.func 24))),.t 3],none⟩,
 ⟨some 5,(.bin .leq),[.t 4,.c (.pv none (.int .i64 2000))],none⟩,
 ⟨some 6,.mv,[.t 5],none⟩,
 ⟨some 7,(.load (some 4)),[.t 1],some (6,true)⟩,
 ⟨some 8,.call,[.c (.pv none (.func (.func 57))),.t 7],some (6,true)⟩,
 ⟨some 9,.pick,[.t 6,.t 8,.c (.pv none (.bool false))],none⟩,
 ⟨some 2,.mv,[.t 9],none⟩]
def c23 : ACode := (.seq (.region true c23r0 [1]) (.seq (.region true c23r1 [2]) .ret))
def g23 : AFn := ⟨1,[(2,none)],c23,false,[],[],none⟩
theorem tr23 : trFn Tryz.prog false 23 Tryz.f23 = some g23 := by kernel_rfl
def c24r0 : List AOper := [
 ⟨some 1,(.box (some 4)),[.t 0],none⟩,
 ⟨some 2,.mv,[.c (.pv none (.int .i64 0))],none⟩]
def c24r1 : List AOper := [
 ⟨some 3,(.load (some 4)),[.t 1],none⟩,
 ⟨some 4,.call,[.c (.pv none (.func (.func 58))),.t 3,.c (.pv none (.int .i64 2001))],none⟩,
 ⟨some 2,.mv,[.t 4],none⟩]
def c24 : ACode := (.seq (.region true c24r0 [1]) (.seq (.region true c24r1 [2]) .ret))
def g24 : AFn := ⟨1,[(2,none)],c24,false,[],[],none⟩
theorem tr24 : trFn Tryz.prog false 24 Tryz.f24 = some g24 := by kernel_rfl
def c27r0 : List AOper := [
 ⟨some 2,(.box (some 4)),[.t 0],none⟩,
 ⟨some 4,(.alloc (some 4) (.agg [(none,(.pv none (.int .i64 0))),(none,(.pv none (.int .i64 0))),(none,(.pv none (.str []))),(none,(.tsl (some 4) []))])),[],none⟩]
def c27r1 : List AOper := [
 ⟨some 6,.mv,[.t 1],none⟩,
 ⟨some 7,.len,[.t 6],none⟩,
 ⟨some 8,(.bin .sub),[.t 7,.c (.pv none (.int .i64 1))],none⟩,
 ⟨some 5,.mv,[.t 8],none⟩]
def c27r2 : List AOper := [
 ⟨some 9,.mv,[.t 5],none⟩,
 ⟨some 10,(.bin .geq),[.t 9,.c (.pv none (.int .i64 0))],none⟩]
def c27k3 : ACode := (.cond (.t 10) .skip (.exit 0))
def c27r4 : List AOper := [
 ⟨some 13,.mv,[.t 1],none⟩,
 ⟨some 14,.mv,[.t 5],none⟩,
 ⟨some 15,(.iaddr (some 4)),[.t 13,.t 14],none⟩,
 ⟨some 16,(.load (some 4)),[.t 15],none⟩,
 ⟨some 17,(.load (some 4)),[.t 2],none⟩,
 ⟨some 18,(.bslice (some 4)),[.t 16,.t 17],none⟩,
 ⟨some 19,.call,[.c (.pv none (.func (.func 19))),.c (.pv none (.str [46])),.t 18],none⟩,
 ⟨none,(.store (some 4)),[.t 2,.t 19],none⟩]
def c27k5 : ACode := (.block 1 (.region true c27r4 [1,2,4,5]))
def c27r6 : List AOper := [
 ⟨some 11,.mv,[.t 5],none⟩,
 ⟨some 12,(.bin .sub),[.t 11,.c (.pv none (.int .i64 1))],none⟩,
 ⟨some 5,.mv,[.t 12],none⟩]
def c27b7 : ACode := (.seq (.seq (.region true c27r2 [1,2,4,5,10]) c27k3) (.seq c27k5 (.region true c27r6 [1,2,4,5])))
def c27k8 : ACode := (.block 0 (.loop [1,2,4,5] c27b7))
def c27r9 : List AOper := [
 ⟨some 20,(.load (some 4)),[.t 2],none⟩,
 ⟨none,(.store (some 4)),[.t 4,.t 20],none⟩]
def c27 : ACode := (.seq (.region true c27r0 [1,2,4]) (.seq (.seq (.region true c27r1 [1,2,4,5]) c27k8) (.seq (.region true c27r9 [4]) .ret)))
def g27 : AFn := ⟨2,[(4,some (some 4))],c27,false,[],[],none⟩
theorem tr27 : trFn Tryz.prog false 27 Tryz.f27 = some g27 := by kernel_rfl
def c28r0 : List AOper := [
 ⟨some 2,(.alloc (some 4) (.agg [(none,(.pv none (.int .i64 0))),(none,(.pv none (.int .i64 0))),(none,(.pv none (.str []))),(none,(.tsl (some 4) []))])),[],none⟩]
def c28r1 : List AOper := [
 ⟨some 3,.mv,[.t 0],none⟩,
 ⟨some 4,(.build [(none,(.pv none (.int .i64 0))),(none,(.pv none (.int .i64 0))),(none,(.pv none (.str []))),(none,(.tsl (some 4) []))] [1]),[.t 3],none⟩,
 ⟨none,(.store (some 4)),[.t 2,.t 4],none⟩]
def c28 : ACode := (.seq (.region true c28r0 [0,2]) (.seq (.region true c28r1 [2]) .ret))
def g28 : AFn := ⟨1,[(2,some (some 4))],c28,false,[],[],none⟩
theorem tr28 : trFn Tryz.prog false 28 Tryz.f28 = some g28 := by kernel_rfl
def c30r0 : List AOper := [
 ⟨some 2,(.alloc (some 4) (.agg [(none,(.pv none (.int .i64 0))),(none,(.pv none (.int .i64 0))),(none,(.pv none (.str []))),(none,(.tsl (some 4) []))])),[],none⟩]
def c30r1 : List AOper := [
 ⟨some 3,.mv,[.t 0],none⟩,
 ⟨some 4,(.build [(none,(.pv none (.int .i64 0))),(none,(.pv none (.int .i64 0))),(none,(.pv none (.str []))),(none,(.tsl (some 4) []))] [0,1]),[.c (.pv none (.int .i64 1)),.t 3],none⟩,
 ⟨none,(.store (some 4)),[.t 2,.t 4],none⟩]
def c30 : ACode := (.seq (.region true c30r0 [0,2]) (.seq (.region true c30r1 [2]) .ret))
def g30 : AFn := ⟨1,[(2,some (some 4))],c30,false,[],[],none⟩
theorem tr30 : trFn Tryz.prog false 30 Tryz.f30 = some g30 := by kernel_rfl
def c31r0 : List AOper := [
 ⟨some 1,(.box (some 4)),[.t 0],none⟩,
 ⟨some 2,.mv,[.c (.pv none (.bool false))],none⟩]
def c31r1 : List AOper := [
 ⟨some 7,(.load (some 4)),[.t 1],none⟩,
 ⟨some 8,.call,[.c (.pv none (.func (.func 20))),.t 7],none⟩,
 ⟨some 6,.mv,[.t 8],none⟩,
 ⟨some 9,(.extract 0),[.t 6],none⟩,
 ⟨some 10,(.extract 1),[.t 6],none⟩,
 ⟨some 11,(.extract 2),[.t 6],none⟩,
 ⟨some 4,(.alloc (some 4) (.agg [(none,(.pv none (.int .i64 0))),(none,(.pv none (.int .i64 0))),(none,(.pv none (.str []))),(none,(.tsl (some 4) []))])),[],none⟩,
 ⟨some 3,.mv,[.t 9],none⟩,
 ⟨none,(.store (some 4)),[.t 4,.t 10],none⟩,
 ⟨some 5,.mv,[.t 11],none⟩]
def c31r2 : List AOper := [
 ⟨some 12,.mv,[.t 5],none⟩,
 ⟨some 13,(.bin .eql),[.t 12,.c (.pv none (.int .i64 0))],none⟩,
 ⟨some 14,.mv,[.t 13],none⟩,
 ⟨some 15,.mv,[.t 3],some (14,true)⟩,
 ⟨some 16,.len,[.t 15],some (14,true)⟩,
 ⟨some 17,(.bin .eql),[.t 16,.c (.pv none (.int .i64 0))],some (14,true)⟩,
 ⟨some 18,.pick,[.t 14,.t 17,.c (.pv none (.bool false))],none⟩,
 ⟨some 19,.mv,[.t 18],none⟩,
 ⟨some 20,(.load (some 4)),[.t 4],some (19,true)⟩,
 ⟨some 21,(.build [(none,(.pv none (.int .i64 0))),(none,(.pv none (.int .i64 0))),(none,(.pv none (.str []))),(none,(.tsl (some 4) []))] []),[],some (19,true)⟩,
 ⟨some 22,.call,[.c (.pv none (.func (.func 22))),.t 20,.t 21],some (19,true)⟩,
 ⟨some 23,.pick,[.t 19,.t 22,.c (.pv none (.bool false))],none⟩,
 ⟨some 2,.mv,[.t 23],none⟩]
def c31 : ACode := (.seq (.region true c31r0 [1]) (.seq (.region true c31r1 [3,4,5]) (.seq (.region true c31r2 [2]) .ret)))
def g31 : AFn := ⟨1,[(2,none)],c31,false,[],[],none⟩
theorem tr31 : trFn Tryz.prog false 31 Tryz.f31 = some g31 := by kernel_rfl
def c34r0 : List AOper := [
 ⟨some 2,(.nilsl (some 4)),[],none⟩,
 ⟨some 3,.mv,[.c (.pv none (.int .i64 0))],none⟩]
def c34r1 : List AOper := [
 ⟨some 4,.mv,[.t 0],none⟩,
 ⟨some 5,.call,[.c (.pv none (.func (.func 64))),.t 4],none⟩,
 ⟨some 6,.not,[.t 5],none⟩]
def c34r2 : List AOper := [
 ⟨some 2,(.nilsl (some 4)),[],none⟩,
 ⟨some 3,.mv,[.c (.pv none (.int .i64 1))],none⟩]
def c34k3 : ACode := (.cond (.t 6) (.seq (.region true c34r2 [2,3]) .ret) .skip)
def c34r4 : List AOper := [
 ⟨some 7,.mv,[.t 0],none⟩,
 ⟨some 8,.call,[.c (.pv none (.func (.func 65))),.t 7,.c (.pv none (.func (.func 44)))],none⟩,
 ⟨some 2,.mv,[.t 8],none⟩,
 ⟨some 3,.mv,[.c (.pv none (.int .i64 0))],none⟩]
def c34 : ACode := (.seq (.region true c34r0 [0]) (.seq (.seq (.region true c34r1 [0,6]) c34k3) (.seq (.region true c34r4 [2,3]) .ret)))
def g34 : AFn := ⟨1,[(2,none),(3,none)],c34,true,[],[],none⟩
theorem tr34 : trFn Tryz.prog true 34 Tryz.f34 = some g34 := by kernel_rfl
def c35r0 : List AOper := [
 ⟨some 2,(.nilsl (some 4)),[],none⟩,
 ⟨some 3,.mv,[.c (.pv none (.int .i64 0))],none⟩]
def c35r1 : List AOper := [
 ⟨some 5,.mv,[.t 0],none⟩,
 ⟨some 6,.call,[.c (.pv none (.func (.func 34))),.t 5],none⟩,
 ⟨some 4,.mv,[.t 6],none⟩,
 ⟨some 7,(.extract 0),[.t 4],none⟩,
 ⟨some 8,(.extract 1),[.t 4],none⟩,
 ⟨some 2,.mv,[.t 7],none⟩,
 ⟨some 3,.mv,[.t 8],none⟩]
def c35r2 : List AOper := [
 ⟨some 9,.mv,[.t 3],none⟩,
 ⟨some 10,(.bin .neq),[.t 9,.c (.pv none (.int .i64 0))],none⟩]
def c35r3 : List AOper := [
 ⟨some 11,.mv,[.t 3],none⟩,
 ⟨some 2,(.nilsl (some 4)),[],none⟩,
 ⟨some 3,.mv,[.t 11],none⟩]
def c35k4 : ACode := (.cond (.t 10) (.seq (.region true c35r3 [2,3]) .ret) .skip)
def c35r5 : List AOper := [
 ⟨some 12,.mv,[.t 2],none⟩,
 ⟨some 13,.call,[.c (.pv none (.func (.func 66))),.t 12,.c (.pv none (.func (.func 67)))],none⟩,
 ⟨some 2,.mv,[.t 13],none⟩,
 ⟨some 3,.mv,[.c (.pv none (.int .i64 0))],none⟩]
def c35 : ACode := (.seq (.region true c35r0 [0]) (.seq (.region true c35r1 [2,3]) (.seq (.seq (.region true c35r2 [2,3,10]) c35k4) (.seq (.region true c35r5 [2,3]) .ret))))
def g35 : AFn := ⟨1,[(2,none),(3,none)],c35,false,[],[],none⟩
theorem tr35 : trFn Tryz.prog false 35 Tryz.f35 = some g35 := by kernel_rfl
def c36r0 : List AOper := [
 ⟨some 2,(.nilsl (some 4)),[],none⟩,
 ⟨some 3,.mv,[.c (.pv none (.int .i64 0))],none⟩]
def c36r1 : List AOper := [
 ⟨some 6,.mv,[.t 0],none⟩,
 ⟨some 7,.call,[.c (.pv none (.func (.func 64))),.t 6],none⟩,
 ⟨some 8,.not,[.t 7],none⟩]
def c36r2 : List AOper := [
 ⟨some 2,(.nilsl (some 4)),[],none⟩,
 ⟨some 3,.mv,[.c (.pv none (.int .i64 1))],none⟩]
def c36k3 : ACode := (.cond (.t 8) (.seq (.region true c36r2 [2,3]) .ret) .skip)
def c36r4 : List AOper := [
 ⟨some 9,.mv,[.t 0],none⟩,
 ⟨some 10,.len,[.t 9],none⟩,
 ⟨some 11,.mv,[.c (.pv none (.int .i64 0))],none⟩]
def c36r5 : List AOper := [
 ⟨some 12,(.bin .lss),[.t 11,.t 10],none⟩]
def c36k6 : ACode := (.cond (.t 12) .skip (.exit 0))
def c36r7 : List AOper := [
 ⟨some 13,(.iaddr (some 4)),[.t 9,.t 11],none⟩,
 ⟨some 14,(.load (some 4)),[.t 13],none⟩,
 ⟨some 5,(.alloc (some 4) (.agg [(none,(.pv none (.int .i64 0))),(none,(.pv none (.int .i64 0))),(none,(.pv none (.str []))),(none,(.tsl (some 4) []))])),[],none⟩,
 ⟨none,(.store (some 4)),[.t 5,.t 14],none⟩]
def c36r8 : List AOper := [
 ⟨some 15,(.faddr 0),[.t 5],none⟩,
 ⟨some 16,(.load none),[.t 15],none⟩,
 ⟨some 17,(.bin .neq),[.t 16,.c (.pv none (.int .i64 3))],none⟩,
 ⟨some 18,.mv,[.t 17],none⟩,
 ⟨some 19,(.faddr 2),[.t 5],some (18,false)⟩,
 ⟨some 20,(.load none),[.t 19],some (18,false)⟩,
 ⟨some 21,(.bin .neq),[.t 20,.c (.pv none (.str [45]))],some (18,false)⟩,
 ⟨some 22,.pick,[.t 18,.c (.pv none (.bool true)),.t 21],none⟩,
 ⟨some 23,.mv,[.t 22],none⟩,
 ⟨some 24,(.faddr 3),[.t 5],some (23,false)⟩,
 ⟨some 25,(.load none),[.t 24],some (23,false)⟩,
 ⟨some 26,.len,[.t 25],some (23,false)⟩,
 ⟨some 27,(.bin .neq),[.t 26,.c (.pv none (.int .i64 2))],some (23,false)⟩,
 ⟨some 28,.pick,[.t 23,.c (.pv none (.bool true)),.t 27],none⟩]
def c36r9 : List AOper := [
 ⟨some 2,(.nilsl (some 4)),[],none⟩,
 ⟨some 3,.mv,[.c (.pv none (.int .i64 3))],none⟩]
def c36k10 : ACode := (.cond (.t 28) (.seq (.region true c36r9 [2,3]) .ret) .skip)
def c36k11 : ACode := (.block 1 (.seq (.region true c36r7 [0,5,9,10,11]) (.seq (.region true c36r8 [0,9,10,11,28]) c36k10)))
def c36r12 : List AOper := [
 ⟨some 29,(.bin .add),[.t 11,.c (.pv none (.int .i64 1))],none⟩,
 ⟨some 11,.mv,[.t 29],none⟩]
def c36b13 : ACode := (.seq (.region true c36r5 [0,9,10,11,12]) (.seq c36k6 (.seq c36k11 (.region true c36r12 [0,9,10,11]))))
def c36k14 : ACode := (.block 0 (.loop [0,9,10,11] c36b13))
def c36r15 : List AOper := [
 ⟨some 30,.mv,[.t 0],none⟩,
 ⟨some 31,.call,[.c (.pv none (.func (.func 65))),.t 30,.c (.pv none (.func (.func 68)))],none⟩,
 ⟨some 2,.mv,[.t 31],none⟩,
 ⟨some 3,.mv,[.c (.pv none (.int .i64 0))],none⟩]
def c36 : ACode := (.seq (.region true c36r0 [0]) (.seq (.seq (.region true c36r1 [0,8]) c36k3) (.seq (.seq (.region true c36r4 [0,9,10,11]) c36k14) (.seq (.region true c36r15 [2,3]) .ret))))
def g36 : AFn := ⟨1,[(2,none),(3,none)],c36,false,[],[],none⟩
theorem tr36 : trFn Tryz.prog false 36 Tryz.f36 = some g36 := by kernel_rfl
def c37r0 : List AOper := [
 ⟨some 2,(.box (some 4)),[.t 0],none⟩,
 ⟨some 3,(.box (some 4)),[.t 1],none⟩,
 ⟨some 4,.mv,[.c (.pv none (.bool false))],none⟩]
def c37r1 : List AOper := [
 ⟨some 9,(.load (some 4)),[.t 2],none⟩,
 ⟨some 10,.call,[.c (.pv none (.func (.func 20))),.t 9],none⟩,
 ⟨some 8,.mv,[.t 10],none⟩,
 ⟨some 11,(.extract 0),[.t 8],none⟩,
 ⟨some 12,(.extract 1),[.t 8],none⟩,
 ⟨some 13,(.extract 2),[.t 8],none⟩,
 ⟨some 6,(.alloc (some 4) (.agg [(none,(.pv none (.int .i64 0))),(none,(.pv none (.int .i64 0))),(none,(.pv none (.str []))),(none,(.tsl (some 4) []))])),[],none⟩,
 ⟨some 5,.mv,[.t 11],none⟩,
 ⟨none,(.store (some 4)),[.t 6,.t 12],none⟩,
 ⟨some 7,.mv,[.t 13],none⟩]
def c37r2 : List AOper := [
 ⟨some 14,.mv,[.t 7],none⟩,
 ⟨some 15,(.bin .eql),[.t 14,.c (.pv none (.int .i64 8))],none⟩,
 ⟨some 16,.mv,[.t 15],none⟩,
 ⟨some 17,.mv,[.t 5],some (16,true)⟩,
 ⟨some 18,.len,[.t 17],some (16,true)⟩,
 ⟨some 19,(.bin .eql),[.t 18,.c (.pv none (.int .i64 0))],some (16,true)⟩,
 ⟨some 20,.pick,[.t 16,.t 19,.c (.pv none (.bool false))],none⟩,
 ⟨some 21,.mv,[.t 20],none⟩,
 ⟨some 22,(.load (some 4)),[.t 6],some (21,true)⟩,
 ⟨some 23,(.load (some 4)),[.t 3],some (21,true)⟩,
 ⟨some 24,.callp,[.c (.pv none (.func (.func 17))),.c (.pv none (.str [91,93]))],some (21,true)⟩,
 ⟨some 25,(.bslicep (some 4)),[.t 23,.t 24],some (21,true)⟩,
 ⟨some 26,.callp,[.c (.pv none (.func (.func 19))),.c (.pv none (.str [101,114,114,111,114])),.t 25],some (21,true)⟩,
 ⟨some 27,.callp,[.c (.pv none (.func (.func 22))),.t 22,.t 26],some (21,true)⟩,
 ⟨some 28,.pick,[.t 21,.t 27,.c (.pv none (.bool false))],none⟩,
 ⟨some 4,.mv,[.t 28],none⟩]
def c37 : ACode := (.seq (.region true c37r0 [2,3]) (.seq (.region true c37r1 [3,5,6,7]) (.seq (.seq (.settle [6]) (.region true c37r2 [4])) .ret)))
def g37 : AFn := ⟨2,[(4,none)],c37,false,[],[],none⟩
theorem tr37 : trFn Tryz.prog false 37 Tryz.f37 = some g37 := by kernel_rfl
def c39r0 : List AOper := [
 ⟨some 0,.mv,[.c (.pv none .nilmap)],none⟩]
def c39r1 : List AOper := [
 ⟨some 1,(.mkmap none),[],none⟩,
 ⟨none,(.mapset true none),[.t 1,.c (.pv none (.str [118,97,114])),.c (.pv none (.func (.func 71)))],none⟩,
 ⟨none,(.mapset true none),[.t 1,.c (.pv none (.str [110,111,110,118,97,114])),.c (.pv none (.func (.func 72)))],none⟩,
 ⟨none,(.mapset true none),[.t 1,.c (.pv none (.str [97,116,111,109])),.c (.pv none (.func (.func 73)))],none⟩,
 ⟨none,(.mapset true none),[.t 1,.c (.pv none (.str [105,110,116,101,103,101,114])),.c (.pv none (.func (.func 74)))],none⟩,
 ⟨none,(.mapset true none),[.t 1,.c (.pv none (.str [97,116,111,109,105,99])),.c (.pv none (.func (.func 75)))],none⟩,
 ⟨none,(.mapset true none),[.t 1,.c (.pv none (.str [99,111,109,112,111,117,110,100])),.c (.pv none (.func (.func 47)))],none⟩,
 ⟨none,(.mapset true none),[.t 1,.c (.pv none (.str [99,97,108,108,97,98,108,101])),.c (.pv none (.func (.func 76)))],none⟩,
 ⟨none,(.mapset true none),[.t 1,.c (.pv none (.str [105,115,95,108,105,115,116])),.c (.pv none (.func (.func 77)))],none⟩,
 ⟨none,(.mapset true none),[.t 1,.c (.pv none (.str [103,114,111,117,110,100])),.c (.pv none (.func (.func 78)))],none⟩,
 ⟨some 2,.mv,[.t 1],none⟩,
 ⟨some 0,.mv,[.t 2],none⟩]
def c39 : ACode := (.seq (.region true c39r0 []) (.seq (.region true c39r1 [0]) .ret))
def g39 : AFn := ⟨0,[(0,none)],c39,true,[],[],none⟩
theorem tr39 : trFn Tryz.prog true 39 Tryz.f39 = some g39 := by kernel_rfl
def c40r0 : List AOper := [
 ⟨some 0,.mv,[.c (.pv none .nilmap)],none⟩]
def c40r1 : List AOper := [
 ⟨some 1,(.mkmap none),[],none⟩,
 ⟨none,(.mapset true none),[.t 1,.c (.pv none (.str [61,61])),.c (.pv none (.func (.func 79)))],none⟩,
 ⟨none,(.mapset true none),[.t 1,.c (.pv none (.str [92,61,61])),.c (.pv none (.func (.func 80)))],none⟩,
 ⟨none,(.mapset true none),[.t 1,.c (.pv none (.str [64,60])),.c (.pv none (.func (.func 81)))],none⟩,
 ⟨none,(.mapset true none),[.t 1,.c (.pv none (.str [64,61,60])),.c (.pv none (.func (.func 82)))],none⟩,
 ⟨none,(.mapset true none),[.t 1,.c (.pv none (.str [64,62])),.c (.pv none (.func (.func 83)))],none⟩,
 ⟨none,(.mapset true none),[.t 1,.c (.pv none (.str [64,62,61])),.c (.pv none (.func (.func 84)))],none⟩,
 ⟨some 2,.mv,[.t 1],none⟩,
 ⟨some 0,.mv,[.t 2],none⟩]
def c40 : ACode := (.seq (.region true c40r0 []) (.seq (.region true c40r1 [0]) .ret))
def g40 : AFn := ⟨0,[(0,none)],c40,true,[],[],none⟩
theorem tr40 : trFn Tryz.prog true 40 Tryz.f40 = some g40 := by kernel_rfl
def c41r0 : List AOper := [
 ⟨some 4,.mv,[.c (.pv none (.bool false))],none⟩]
def c41r1 : List AOper := [
 ⟨some 5,.mv,[.t 0],none⟩,
 ⟨some 6,.mv,[.t 1],none⟩,
 ⟨some 7,.call,[.c (.pv none (.func (.func 85))),.t 5,.t 6],none⟩,
 ⟨some 8,(.bin .geq),[.t 7,.c (.pv none (.int .i64 0))],none⟩,
 ⟨some 4,.mv,[.t 8],none⟩]
def c41 : ACode := (.seq (.region true c41r0 [0,1]) (.seq (.region true c41r1 [4]) .ret))
def g41 : AFn := ⟨2,[(4,none)],c41,false,[],[],none⟩
theorem tr41 : trFn Tryz.prog false 41 Tryz.f41 = some g41 := by kernel_rfl
def c42r0 : List AOper := [
 ⟨some 2,(.nilsl none),[],none⟩]
def c42r1 : List AOper := [
 ⟨some 3,.mv,[.t 0],none⟩]
def c42r2 : List AOper := [
 ⟨some 5,(.bin .eql),[.t 3,.c (.pv none (.int .i64 1))],none⟩,
 ⟨some 4,.mv,[.t 5],none⟩]
def c42r3 : List AOper := [
 ⟨some 6,(.bslice none),[.c (.pv none (.str [118,97,114])),.c (.pv none (.str [110,111,110,118,97,114])),.c (.pv none (.str [97,116,111,109])),.c (.pv none (.str [105,110,116,101,103,101,114])),.c (.pv none (.str [97,116,111,109,105,99])),.c (.pv none (.str [99,111,109,112,111,117,110,100])),.c (.pv none (.str [99,97,108,108,97,98,108,101])),.c (.pv none (.str [105,115,95,108,105,115,116])),.c (.pv none (.str [103,114,111,117,110,100]))],none⟩,
 ⟨some 2,.mv,[.t 6],none⟩]
def c42r4 : List AOper := [
 ⟨some 8,(.bin .eql),[.t 3,.c (.pv none (.int .i64 2))],none⟩,
 ⟨some 7,.mv,[.t 8],none⟩]
def c42r5 : List AOper := [
 ⟨some 9,(.bslice none),[.c (.pv none (.str [61,61])),.c (.pv none (.str [92,61,61])),.c (.pv none (.str [64,60])),.c (.pv none (.str [64,61,60])),.c (.pv none (.str [64,62])),.c (.pv none (.str [64,62,61])),.c (.pv none (.str [92,61])),.c (.pv none (.str [61,46,46])),.c (.pv none (.str [99,111,112,121,95,116,101,114,109])),.c (.pv none (.str [116,101,114,109,95,118,97,114,105,97,98,108,101,115])),.c (.pv none (.str [108,101,110,103,116,104])),.c (.pv none (.str [109,115,111,114,116])),.c (.pv none (.str [115,111,114,116])),.c (.pv none (.str [107,101,121,115,111,114,116]))],none⟩,
 ⟨some 2,.mv,[.t 9],none⟩]
def c42r6 : List AOper := [
 ⟨some 11,(.bin .eql),[.t 3,.c (.pv none (.int .i64 3))],none⟩,
 ⟨some 10,.mv,[.t 11],none⟩]
def c42r7 : List AOper := [
 ⟨some 12,(.bslice none),[.c (.pv none (.str [99,111,109,112,97,114,101])),.c (.pv none (.str [102,117,110,99,116,111,114])),.c (.pv none (.str [97,114,103])),.c (.pv none (.str [98,101,116,119,101,101,110]))],none⟩,
 ⟨some 2,.mv,[.t 12],none⟩]
def c42k8 : ACode := (.cond (.t 10) (.seq (.region true c42r7 [2]) .ret) .skip)
def c42k9 : ACode := (.cond (.t 7) (.seq (.region true c42r5 [2]) .ret) (.seq (.region true c42r6 [10]) c42k8))
def c42k10 : ACode := (.cond (.t 4) (.seq (.region true c42r3 [2]) .ret) (.seq (.region true c42r4 [3,7]) c42k9))
def c42k11 : ACode := (.block 0 (.seq (.region true c42r2 [3,4]) c42k10))
def c42r12 : List AOper := [
 ⟨some 2,(.nilsl none),[],none⟩]
def c42 : ACode := (.seq (.region true c42r0 [0]) (.seq (.seq (.region true c42r1 [3]) c42k11) (.seq (.region true c42r12 [2]) .ret)))
def g42 : AFn := ⟨1,[(2,none)],c42,false,[],[],none⟩
theorem tr42 : trFn Tryz.prog false 42 Tryz.f42 = some g42 := by kernel_rfl
def c43r0 : List AOper := [
 ⟨some 1,(.box (some 4)),[.t 0],none⟩,
 ⟨some 2,.mv,[.c (.pv none (.bool false))],none⟩]
def c43r1 : List AOper := [
 ⟨some 3,(.load (some 4)),[.t 1],none⟩,
 ⟨some 4,.call,[.c (.pv none (.func (.func 86))),.t 3],none⟩,
 ⟨some 5,(.bin .leq),[.t 4,.c (.pv none (.int .i64 2000))],none⟩,
 ⟨some 6,.mv,[.t 5],none⟩,
 ⟨some 7,(.load (some 4)),[.t 1],some (6,true)⟩,
 ⟨some 8,.call,[.c (.pv none (.func (.func 87))),.t 7],some (6,true)⟩,
 ⟨some 9,.pick,[.t 6,.t 8,.c (.pv none (.bool false))],none⟩,
 ⟨some 2,.mv,[.t 9],none⟩]
def c43 : ACode := (.seq (.region true c43r0 [1]) (.seq (.region true c43r1 [2]) .ret))
def g43 : AFn := ⟨1,[(2,none)],c43,false,[],[],none⟩
theorem tr43 : trFn Tryz.prog false 43 Tryz.f43 = some g43 := by kernel_rfl
def c44r0 : List AOper := [
 ⟨some 2,(.box (some 4)),[.t 0],none⟩,
 ⟨some 3,(.box (some 4)),[.t 1],none⟩,
 ⟨some 4,.mv,[.c (.pv none (.int .i64 0))],none⟩]
def c44r1 : List AOper := [
 ⟨some 12,(.build [(none,(.pv none (.int .i64 0))),(none,(.pv none (.int .i64 0))),(none,(.pv none (.int .i64 0))),(none,(.pv none (.int .i64 0)))] [0,1,2,3]),[.c (.pv none (.int .i64 0)),.c (.pv none (.int .i64 1)),.c (.pv none (.int .i64 2)),.c (.pv none (.int .i64 3))],none⟩,
 ⟨some 5,(.alloc (some 4) (.pv (some 4) (.agg [(none,(.int .i64 0)),(none,(.int .i64 0)),(none,(.int .i64 0)),(none,(.int .i64 0))]))),[],none⟩,
 ⟨none,(.store (some 4)),[.t 5,.t 12],none⟩]
def c44r2 : List AOper := [
 ⟨some 13,(.faddr 0),[.t 2],none⟩,
 ⟨some 14,(.load none),[.t 13],none⟩,
 ⟨some 15,(.iaddrA none 4),[.t 5,.t 14],none⟩,
 ⟨some 16,(.load none),[.t 15],none⟩,
 ⟨some 17,(.faddr 0),[.t 3],none⟩,
 ⟨some 18,(.load none),[.t 17],none⟩,
 ⟨some 19,(.iaddrA none 4),[.t 5,.t 18],none⟩,
 ⟨some 20,(.load none),[.t 19],none⟩,
 ⟨some 21,.call,[.c (.pv none (.func (.func 88))),.t 16,.t 20],none⟩,
 ⟨some 6,.mv,[.t 21],none⟩]
def c44r3 : List AOper := [
 ⟨some 22,.mv,[.t 6],none⟩,
 ⟨some 23,(.bin .neq),[.t 22,.c (.pv none (.int .i64 0))],none⟩]
def c44r4 : List AOper := [
 ⟨some 24,.mv,[.t 6],none⟩,
 ⟨some 4,.mv,[.t 24],none⟩]
def c44k5 : ACode := (.cond (.t 23) (.seq (.region true c44r4 [4]) .ret) .skip)
def c44r6 : List AOper := [
 ⟨some 25,(.faddr 0),[.t 2],none⟩,
 ⟨some 26,(.load none),[.t 25],none⟩,
 ⟨some 27,(.bin .eql),[.t 26,.c (.pv none (.int .i64 0))],none⟩,
 ⟨some 28,.mv,[.t 27],none⟩,
 ⟨some 29,(.faddr 0),[.t 2],some (28,false)⟩,
 ⟨some 30,(.load none),[.t 29],some (28,false)⟩,
 ⟨some 31,(.bin .eql),[.t 30,.c (.pv none (.int .i64 1))],some (28,false)⟩,
 ⟨some 32,.pick,[.t 28,.c (.pv none (.bool true)),.t 31],none⟩]
def c44r7 : List AOper := [
 ⟨some 33,(.faddr 1),[.t 2],none⟩,
 ⟨some 34,(.load none),[.t 33],none⟩,
 ⟨some 35,(.faddr 1),[.t 3],none⟩,
 ⟨some 36,(.load none),[.t 35],none⟩,
 ⟨some 37,.call,[.c (.pv none (.func (.func 89))),.t 34,.t 36],none⟩,
 ⟨some 4,.mv,[.t 37],none⟩]
def c44k8 : ACode := (.cond (.t 32) (.seq (.region true c44r7 [4]) .ret) .skip)
def c44r9 : List AOper := [
 ⟨some 38,(.faddr 3),[.t 2],none⟩,
 ⟨some 39,(.load none),[.t 38],none⟩,
 ⟨some 40,.len,[.t 39],none⟩,
 ⟨some 41,(.faddr 3),[.t 3],none⟩,
 ⟨some 42,(.load none),[.t 41],none⟩,
 ⟨some 43,.len,[.t 42],none⟩,
 ⟨some 44,.call,[.c (.pv none (.func (.func 88))),.t 40,.t 43],none⟩,
 ⟨some 7,.mv,[.t 44],none⟩]
def c44r10 : List AOper := [
 ⟨some 45,.mv,[.t 7],none⟩,
 ⟨some 46,(.bin .neq),[.t 45,.c (.pv none (.int .i64 0))],none⟩]
def c44r11 : List AOper := [
 ⟨some 47,.mv,[.t 7],none⟩,
 ⟨some 4,.mv,[.t 47],none⟩]
def c44k12 : ACode := (.cond (.t 46) (.seq (.region true c44r11 [4]) .ret) .skip)
def c44r13 : List AOper := [
 ⟨some 48,(.faddr 2),[.t 2],none⟩,
 ⟨some 49,(.load none),[.t 48],none⟩,
 ⟨some 50,(.faddr 2),[.t 3],none⟩,
 ⟨some 51,(.load none),[.t 50],none⟩,
 ⟨some 52,.call,[.c (.pv none (.func (.func 90))),.t 49,.t 51],none⟩,
 ⟨some 8,.mv,[.t 52],none⟩]
def c44r14 : List AOper := [
 ⟨some 53,.mv,[.t 8],none⟩,
 ⟨some 54,(.bin .neq),[.t 53,.c (.pv none (.int .i64 0))],none⟩]
def c44r15 : List AOper := [
 ⟨some 55,.mv,[.t 8],none⟩,
 ⟨some 4,.mv,[.t 55],none⟩]
def c44k16 : ACode := (.cond (.t 54) (.seq (.region true c44r15 [4]) .ret) .skip)
def c44r17 : List AOper := [
 ⟨some 56,(.faddr 3),[.t 2],none⟩,
 ⟨some 57,(.load none),[.t 56],none⟩,
 ⟨some 58,.len,[.t 57],none⟩,
 ⟨some 59,.mv,[.c (.pv none (.int .i64 0))],none⟩]
def c44r18 : List AOper := [
 ⟨some 60,(.bin .lss),[.t 59,.t 58],none⟩]
def c44k19 : ACode := (.cond (.t 60) .skip (.exit 0))
def c44r20 : List AOper := [
 ⟨some 61,.mv,[.t 59],none⟩,
 ⟨some 62,(.iaddr (some 4)),[.t 57,.t 59],none⟩,
 ⟨some 63,(.load (some 4)),[.t 62],none⟩,
 ⟨some 10,(.alloc (some 4) (.agg [(none,(.pv none (.int .i64 0))),(none,(.pv none (.int .i64 0))),(none,(.pv none (.str []))),(none,(.tsl (some 4) []))])),[],none⟩,
 ⟨some 9,.mv,[.t 61],none⟩,
 ⟨none,(.store (some 4)),[.t 10,.t 63],none⟩]
def c44r21 : List AOper := [
 ⟨some 64,(.load (some 4)),[.t 10],none⟩,
 ⟨some 65,(.faddr 3),[.t 3],none⟩,
 ⟨some 66,(.load none),[.t 65],none⟩,
 ⟨some 67,.mv,[.t 9],none⟩,
 ⟨some 68,(.iaddr (some 4)),[.t 66,.t 67],none⟩,
 ⟨some 69,(.load (some 4)),[.t 68],none⟩,
 ⟨some 70,.call,[.c (.pv none (.func (.func 44))),.t 64,.t 69],none⟩,
 ⟨some 11,.mv,[.t 70],none⟩]
def c44r22 : List AOper := [
 ⟨some 71,.mv,[.t 11],none⟩,
 ⟨some 72,(.bin .neq),[.t 71,.c (.pv none (.int .i64 0))],none⟩]
def c44r23 : List AOper := [
 ⟨some 73,.mv,[.t 11],none⟩,
 ⟨some 4,.mv,[.t 73],none⟩]
def c44k24 : ACode := (.cond (.t 72) (.seq (.region true c44r23 [4]) .ret) .skip)
def c44k25 : ACode := (.block 1 (.seq (.region true c44r20 [3,9,10,57,58,59]) (.seq (.region true c44r21 [3,11,57,58,59]) (.seq (.region true c44r22 [3,11,57,58,59,72]) c44k24))))
def c44r26 : List AOper := [
 ⟨some 74,(.bin .add),[.t 59,.c (.pv none (.int .i64 1))],none⟩,
 ⟨some 59,.mv,[.t 74],none⟩]
def c44b27 : ACode := (.seq (.region true c44r18 [3,57,58,59,60]) (.seq c44k19 (.seq c44k25 (.region true c44r26 [3,57,58,59]))))
def c44k28 : ACode := (.block 0 (.loop [3,57,58,59] c44b27))
def c44r29 : List AOper := [
 ⟨some 4,.mv,[.c (.pv none (.int .i64 0))],none⟩]
def c44 : ACode := (.seq (.region true c44r0 [2,3]) (.seq (.region true c44r1 [2,3,5]) (.seq (.seq (.region true c44r2 [2,3,6]) (.seq (.region true c44r3 [2,3,6,23]) c44k5)) (.seq (.seq (.region true c44r6 [2,3,32]) c44k8) (.seq (.seq (.region true c44r9 [2,3,7]) (.seq (.region true c44r10 [2,3,7,46]) c44k12)) (.seq (.seq (.region true c44r13 [2,3,8]) (.seq (.region true c44r14 [2,3,8,54]) c44k16)) (.seq (.seq (.region true c44r17 [3,57,58,59]) c44k28) (.seq (.region true c44r29 [4]) .ret))))))))
def g44 : AFn := ⟨2,[(4,none)],c44,false,[],[],none⟩
theorem tr44 : trFn Tryz.prog false 44 Tryz.f44 = some g44 := by kernel_rfl
def c45r0 : List AOper := [
 ⟨some 2,(.box (some 4)),[.t 0],none⟩,
 ⟨some 3,(.box (some 4)),[.t 1],none⟩,
 ⟨some 4,.mv,[.c (.pv none (.bool false))],none⟩]
def c45r1 : List AOper := [
 ⟨some 5,(.load (some 4)),[.t 2],none⟩,
 ⟨some 6,.call,[.c (.pv none (.func (.func 43))),.t 5],none⟩,
 ⟨some 7,.mv,[.t 6],none⟩,
 ⟨some 8,(.load (some 4)),[.t 3],some (7,true)⟩,
 ⟨some 9,.call,[.c (.pv none (.func (.func 43))),.t 8],some (7,true)⟩,
 ⟨some 10,.pick,[.t 7,.t 9,.c (.pv none (.bool false))],none⟩,
 ⟨some 11,.mv,[.t 10],none⟩,
 ⟨some 12,(.load (some 4)),[.t 2],some (11,true)⟩,
 ⟨some 13,(.load (some 4)),[.t 3],some (11,true)⟩,
 ⟨some 14,.call,[.c (.pv none (.func (.func 91))),.t 12,.t 13],some (11,true)⟩,
 ⟨some 15,.pick,[.t 11,.t 14,.c (.pv none (.bool false))],none⟩,
 ⟨some 4,.mv,[.t 15],none⟩]
def c45 : ACode := (.seq (.region true c45r0 [2,3]) (.seq (.region true c45r1 [4]) .ret))
def g45 : AFn := ⟨2,[(4,none)],c45,false,[],[],none⟩
theorem tr45 : trFn Tryz.prog false 45 Tryz.f45 = some g45 := by kernel_rfl
def c46r0 : List AOper := [
 ⟨some 1,(.box (some 4)),[.t 0],none⟩,
 ⟨some 2,(.alloc (some 4) (.agg [(none,(.pv none (.int .i64 0))),(none,(.pv none (.int .i64 0))),(none,(.pv none (.str []))),(none,(.tsl (some 4) []))])),[],none⟩]
def c46r1 : List AOper := [
 ⟨some 4,(.load (some 4)),[.t 1],none⟩,
 ⟨some 5,.call,[.c (.pv none (.func (.func 43))),.t 4],none⟩,
 ⟨some 6,.not,[.t 5],none⟩]
def c46r2 : List AOper := [
 ⟨some 7,(.build [(none,(.pv none (.int .i64 0))),(none,(.pv none (.int .i64 0))),(none,(.pv none (.str []))),(none,(.tsl (some 4) []))] []),[],none⟩,
 ⟨none,(.store (some 4)),[.t 2,.t 7],none⟩]
def c46k3 : ACode := (.cond (.t 6) (.seq (.region true c46r2 [2]) .ret) .skip)
def c46r4 : List AOper := [
 ⟨some 8,(.mkmap none),[],none⟩,
 ⟨some 3,(.alloc none (.pv none .nilmap)),[],none⟩,
 ⟨none,(.store none),[.t 3,.t 8],none⟩]
def c46r5 : List AOper := [
 ⟨some 9,(.load (some 4)),[.t 1],none⟩,
 ⟨some 10,(.mkfunc (.func 93) 0),[.t 3],none⟩,
 ⟨some 11,.call,[.c (.pv none (.func (.func 92))),.t 9,.t 10],none⟩,
 ⟨none,(.store (some 4)),[.t 2,.t 11],none⟩]
def c46 : ACode := (.seq (.region true c46r0 [1,2]) (.seq (.seq (.region true c46r1 [1,2,6]) c46k3) (.seq (.region true c46r4 [1,2,3]) (.seq (.region true c46r5 [2]) .ret))))
def g46 : AFn := ⟨1,[(2,some (some 4))],c46,false,[],[],none⟩
theorem tr46 : trFn Tryz.prog false 46 Tryz.f46 = some g46 := by kernel_rfl
def c47r0 : List AOper := [
 ⟨some 1,(.box (some 4)),[.t 0],none⟩,
 ⟨some 2,.mv,[.c (.pv none (.bool false))],none⟩]
def c47r1 : List AOper := [
 ⟨some 3,(.faddr 0),[.t 1],none⟩,
 ⟨some 4,(.load none),[.t 3],none⟩,
 ⟨some 5,(.bin .eql),[.t 4,.c (.pv none (.int .i64 3))],none⟩,
 ⟨some 2,.mv,[.t 5],none⟩]
def c47 : ACode := (.seq (.region true c47r0 [1]) (.seq (.region true c47r1 [2]) .ret))
def g47 : AFn := ⟨1,[(2,none)],c47,false,[],[],none⟩
theorem tr47 : trFn Tryz.prog false 47 Tryz.f47 = some g47 := by kernel_rfl
def c48r0 : List AOper := [
 ⟨some 3,.mv,[.t 6],none⟩]
def c48r1 : List AOper := [
 ⟨some 7,.mv,[.t 3],none⟩,
 ⟨some 8,(.isnil true),[.t 7],none⟩]
def c48r2 : List AOper := [
 ⟨some 10,.mv,[.t 3],none⟩,
 ⟨some 11,(.assert 74 (some 4) (.agg [((some 4),(.agg [(none,(.pv none (.int .i64 0))),(none,(.pv none (.int .i64 0))),(none,(.pv none (.str []))),(none,(.tsl (some 4) []))]))]) true),[.t 10],none⟩,
 ⟨some 9,.mv,[.t 11],none⟩,
 ⟨some 12,(.extract 0),[.t 9],none⟩,
 ⟨some 13,(.extract 1),[.t 9],none⟩,
 ⟨some 4,(.alloc (some 4) (.agg [((some 4),(.agg [(none,(.pv none (.int .i64 0))),(none,(.pv none (.int .i64 0))),(none,(.pv none (.str []))),(none,(.tsl (some 4) []))]))])),[],none⟩,
 ⟨none,(.store (some 4)),[.t 4,.t 12],none⟩,
 ⟨some 5,.mv,[.t 13],none⟩]
def c48r3 : List AOper := [
 ⟨some 14,.mv,[.t 5],none⟩,
 ⟨some 15,.not,[.t 14],none⟩]
def c48r4 : List AOper := [
 ⟨some 16,.mv,[.t 3],none⟩,
 ⟨none,.panic,[.t 16],none⟩]
def c48k5 : ACode := (.cond (.t 15) (.region true c48r4 [0,1,2,4]) .skip)
def c48r6 : List AOper := [
 ⟨some 17,(.faddr 0),[.t 4],none⟩,
 ⟨some 18,(.load (some 4)),[.t 17],none⟩,
 ⟨none,(.storen none),[.t 0,.c (.tsl (some 4) []),.t 17],none⟩,
 ⟨none,(.store (some 4)),[.t 1,.t 18],none⟩,
 ⟨none,(.store none),[.t 2,.c (.pv none (.int .i64 8))],none⟩]
def c48k7 : ACode := (.cond (.t 8) (.seq (.region true c48r2 [0,1,2,3,4,5]) (.seq (.seq (.region true c48r3 [0,1,2,3,4,15]) c48k5) (.region true c48r6 []))) .skip)
def c48 : ACode := (.seq (.region true c48r0 [0,1,2,3]) (.seq (.region true c48r1 [0,1,2,3,8]) (.seq c48k7 .skip)))
def g48 : AFn := ⟨3,[],c48,true,[],[],some 6⟩
theorem tr48 : trFn Tryz.prog true 48 Tryz.f48 = some g48 := by kernel_rfl
def c49r0 : List AOper := [
 ⟨some 1,(.box (some 4)),[.t 0],none⟩,
 ⟨some 2,(.nilsl none),[],none⟩]
def c49r1 : List AOper := [
 ⟨some 5,(.load (some 4)),[.t 1],none⟩,
 ⟨some 6,.call,[.c (.pv none (.func (.func 43))),.t 5],none⟩,
 ⟨some 7,.not,[.t 6],none⟩]
def c49r2 : List AOper := [
 ⟨some 2,(.nilsl none),[],none⟩]
def c49k3 : ACode := (.cond (.t 7) (.seq (.region true c49r2 [2]) .ret) .skip)
def c49r4 : List AOper := [
 ⟨some 3,(.alloc none (.tsl none [])),[],none⟩]
def c49r5 : List AOper := [
 ⟨some 8,(.mkmap none),[],none⟩,
 ⟨some 4,(.alloc none (.pv none .nilmap)),[],none⟩,
 ⟨none,(.store none),[.t 4,.t 8],none⟩]
def c49r6 : List AOper := [
 ⟨some 9,(.load (some 4)),[.t 1],none⟩,
 ⟨some 10,(.mkfunc (.func 94) 0),[.t 4,.t 3],none⟩,
 ⟨some 11,.call,[.c (.pv none (.func (.func 92))),.t 9,.t 10],none⟩]
def c49r7 : List AOper := [
 ⟨some 12,(.load none),[.t 3],none⟩,
 ⟨some 2,.mv,[.t 12],none⟩]
def c49 : ACode := (.seq (.region true c49r0 [1]) (.seq (.seq (.region true c49r1 [1,7]) c49k3) (.seq (.region true c49r4 [1,3]) (.seq (.region true c49r5 [1,3,4]) (.seq (.region true c49r6 [3]) (.seq (.region true c49r7 [2]) .ret))))))
def g49 : AFn := ⟨1,[(2,none)],c49,false,[],[],none⟩
theorem tr49 : trFn Tryz.prog false 49 Tryz.f49 = some g49 := by kernel_rfl
def c50r0 : List AOper := [
 ⟨some 2,(.nilsl (some 4)),[],none⟩,
 ⟨some 3,.mv,[.c (.pv none (.int .i64 0))],none⟩]
def c50r1 : List AOper := [
 ⟨some 11,.mv,[.t 0],none⟩,
 ⟨some 12,.nilcheck,[.t 11],none⟩,
 ⟨some 13,(.faddr 0),[.t 12],none⟩,
 ⟨some 14,(.faddr 3),[.t 13],none⟩,
 ⟨some 15,(.load none),[.t 14],none⟩,
 ⟨some 16,.call,[.c (.pv none (.func (.func 95))),.t 15],none⟩,
 ⟨some 17,(.build [(none,(.pv none (.int .i64 0))),(none,(.pv none (.int .i64 0))),(none,(.pv none (.str []))),(none,(.tsl (some 4) []))] []),[],none⟩,
 ⟨some 18,(.build [(none,(.pv none (.int .i64 0))),(none,(.pv none (.int .i64 0))),(none,(.pv none (.str []))),(none,(.tsl (some 4) []))] []),[],none⟩,
 ⟨some 19,(.bslice (some 4)),[.t 17,.t 18],none⟩,
 ⟨some 20,(.append (some 4)),[.t 16,.t 19],none⟩,
 ⟨some 4,.mv,[.t 20],none⟩]
def c50r2 : List AOper := [
 ⟨some 22,.callg,[.c (.pv none (.func (.func 39)))],none⟩,
 ⟨some 23,.mv,[.t 0],none⟩,
 ⟨some 24,.nilcheck,[.t 23],none⟩,
 ⟨some 25,(.faddr 0),[.t 24],none⟩,
 ⟨some 26,(.faddr 2),[.t 25],none⟩,
 ⟨some 27,(.load none),[.t 26],none⟩,
 ⟨some 28,(.lookup true none (.pv none .nilfunc) true),[.t 22,.t 27],none⟩,
 ⟨some 21,.mv,[.t 28],none⟩,
 ⟨some 29,(.extract 0),[.t 21],none⟩,
 ⟨some 30,(.extract 1),[.t 21],none⟩,
 ⟨some 5,.mv,[.t 29],none⟩,
 ⟨some 6,.mv,[.t 30],none⟩]
def c50r3 : List AOper := [
 ⟨some 31,.mv,[.t 6],none⟩]
def c50r4 : List AOper := [
 ⟨some 32,.mv,[.t 0],none⟩,
 ⟨some 33,.mv,[.t 5],none⟩,
 ⟨some 34,.mv,[.t 4],none⟩,
 ⟨some 35,(.iaddr (some 4)),[.t 34,.c (.pv none (.int .i64 0))],none⟩,
 ⟨some 36,(.load (some 4)),[.t 35],none⟩,
 ⟨some 37,.call,[.t 33,.t 36],none⟩,
 ⟨some 38,.call,[.c (.pv none (.func (.func 96))),.t 32,.t 37],none⟩,
 ⟨some 2,.mv,[.t 38],none⟩,
 ⟨some 3,.mv,[.c (.pv none (.int .i64 0))],none⟩]
def c50k5 : ACode := (.cond (.t 31) (.seq (.region true c50r4 [2,3]) .ret) .skip)
def c50r6 : List AOper := [
 ⟨some 40,.callg,[.c (.pv none (.func (.func 40)))],none⟩,
 ⟨some 41,.mv,[.t 0],none⟩,
 ⟨some 42,.nilcheck,[.t 41],none⟩,
 ⟨some 43,(.faddr 0),[.t 42],none⟩,
 ⟨some 44,(.faddr 2),[.t 43],none⟩,
 ⟨some 45,(.load none),[.t 44],none⟩,
 ⟨some 46,(.lookup true none (.pv none .nilfunc) true),[.t 40,.t 45],none⟩,
 ⟨some 39,.mv,[.t 46],none⟩,
 ⟨some 47,(.extract 0),[.t 39],none⟩,
 ⟨some 48,(.extract 1),[.t 39],none⟩,
 ⟨some 7,.mv,[.t 47],none⟩,
 ⟨some 8,.mv,[.t 48],none⟩]
def c50r7 : List AOper := [
 ⟨some 49,.mv,[.t 8],none⟩]
def c50r8 : List AOper := [
 ⟨some 50,.mv,[.t 0],none⟩,
 ⟨some 51,.mv,[.t 7],none⟩,
 ⟨some 52,.mv,[.t 4],none⟩,
 ⟨some 53,(.iaddr (some 4)),[.t 52,.c (.pv none (.int .i64 0))],none⟩,
 ⟨some 54,(.load (some 4)),[.t 53],none⟩,
 ⟨some 55,.mv,[.t 4],none⟩,
 ⟨some 56,(.iaddr (some 4)),[.t 55,.c (.pv none (.int .i64 1))],none⟩,
 ⟨some 57,(.load (some 4)),[.t 56],none⟩,
 ⟨some 58,.callg,[.c (.pv none (.func (.func 15))),.t 54,.t 57],none⟩,
 ⟨some 59,.callg,[.t 51,.t 58],none⟩,
 ⟨some 60,.call,[.c (.pv none (.func (.func 96))),.t 50,.t 59],none⟩,
 ⟨some 2,.mv,[.t 60],none⟩,
 ⟨some 3,.mv,[.c (.pv none (.int .i64 0))],none⟩]
def c50k9 : ACode := (.cond (.t 49) (.seq (.region true c50r8 [2,3]) .ret) .skip)
def c50r10 : List AOper := [
 ⟨some 61,.mv,[.t 0],none⟩,
 ⟨some 62,.nilcheck,[.t 61],none⟩,
 ⟨some 63,(.faddr 0),[.t 62],none⟩,
 ⟨some 64,(.faddr 2),[.t 63],none⟩,
 ⟨some 65,(.load none),[.t 64],none⟩]
def c50r11 : List AOper := [
 ⟨some 67,(.bin .eql),[.t 65,.c (.pv none (.str [99,111,109,112,97,114,101]))],none⟩,
 ⟨some 66,.mv,[.t 67],none⟩]
def c50r12 : List AOper := [
 ⟨some 68,.mv,[.t 0],none⟩,
 ⟨some 69,.mv,[.t 4],none⟩,
 ⟨some 70,(.iaddr (some 4)),[.t 69,.c (.pv none (.int .i64 0))],none⟩,
 ⟨some 71,(.load (some 4)),[.t 70],none⟩,
 ⟨some 72,.mv,[.t 4],none⟩,
 ⟨some 73,(.iaddr (some 4)),[.t 72,.c (.pv none (.int .i64 1))],none⟩,
 ⟨some 74,(.load (some 4)),[.t 73],none⟩,
 ⟨some 75,.mv,[.t 4],none⟩,
 ⟨some 76,(.iaddr (some 4)),[.t 75,.c (.pv none (.int .i64 2))],none⟩,
 ⟨some 77,(.load (some 4)),[.t 76],none⟩,
 ⟨some 78,.call,[.c (.pv none (.func (.func 97))),.t 68,.t 71,.t 74,.t 77],none⟩,
 ⟨some 2,.mv,[.t 78],none⟩,
 ⟨some 3,.mv,[.c (.pv none (.int .i64 0))],none⟩]
def c50r13 : List AOper := [
 ⟨some 80,(.bin .eql),[.t 65,.c (.pv none (.str [92,61]))],none⟩,
 ⟨some 79,.mv,[.t 80],none⟩]
def c50r14 : List AOper := [
 ⟨some 82,.mv,[.t 4],none⟩,
 ⟨some 83,(.iaddr (some 4)),[.t 82,.c (.pv none (.int .i64 0))],none⟩,
 ⟨some 84,(.load (some 4)),[.t 83],none⟩,
 ⟨some 85,.mv,[.t 4],none⟩,
 ⟨some 86,(.iaddr (some 4)),[.t 85,.c (.pv none (.int .i64 1))],none⟩,
 ⟨some 87,(.load (some 4)),[.t 86],none⟩,
 ⟨some 88,.call,[.c (.pv none (.func (.func 21))),.c (.tsl (some 5) []),.t 84,.t 87],none⟩,
 ⟨some 81,.mv,[.t 88],none⟩,
 ⟨some 89,(.extract 0),[.t 81],none⟩,
 ⟨some 90,(.extract 1),[.t 81],none⟩,
 ⟨some 9,.mv,[.t 89],none⟩,
 ⟨some 10,.mv,[.t 90],none⟩]
def c50r15 : List AOper := [
 ⟨some 91,.mv,[.t 10],none⟩,
 ⟨some 92,(.bin .neq),[.t 91,.c (.pv none (.int .i64 0))],none⟩,
 ⟨some 93,.mv,[.t 92],none⟩,
 ⟨some 94,.mv,[.t 10],some (93,true)⟩,
 ⟨some 95,(.bin .neq),[.t 94,.c (.pv none (.int .i64 4))],some (93,true)⟩,
 ⟨some 96,.pick,[.t 93,.t 95,.c (.pv none (.bool false))],none⟩]
def c50r16 : List AOper := [
 ⟨some 97,.mv,[.t 10],none⟩,
 ⟨some 2,(.nilsl (some 4)),[],none⟩,
 ⟨some 3,.mv,[.t 97],none⟩]
def c50k17 : ACode := (.cond (.t 96) (.seq (.region true c50r16 [2,3]) .ret) .skip)
def c50r18 : List AOper := [
 ⟨some 98,.mv,[.t 0],none⟩,
 ⟨some 99,.mv,[.t 10],none⟩,
 ⟨some 100,(.bin .eql),[.t 99,.c (.pv none (.int .i64 4))],none⟩,
 ⟨some 101,.call,[.c (.pv none (.func (.func 96))),.t 98,.t 100],none⟩,
 ⟨some 2,.mv,[.t 101],none⟩,
 ⟨some 3,.mv,[.c (.pv none (.int .i64 0))],none⟩]
def c50r19 : List AOper := [
 ⟨some 103,(.bin .eql),[.t 65,.c (.pv none (.str [102,117,110,99,116,111,114]))],none⟩,
 ⟨some 102,.mv,[.t 103],none⟩]
def c50r20 : List AOper := [
 ⟨some 104,.mv,[.t 0],none⟩,
 ⟨some 105,.mv,[.t 4],none⟩,
 ⟨some 106,(.iaddr (some 4)),[.t 105,.c (.pv none (.int .i64 0))],none⟩,
 ⟨some 107,(.load (some 4)),[.t 106],none⟩,
 ⟨some 108,.mv,[.t 4],none⟩,
 ⟨some 109,(.iaddr (some 4)),[.t 108,.c (.pv none (.int .i64 1))],none⟩,
 ⟨some 110,(.load (some 4)),[.t 109],none⟩,
 ⟨some 111,.mv,[.t 4],none⟩,
 ⟨some 112,(.iaddr (some 4)),[.t 111,.c (.pv none (.int .i64 2))],none⟩,
 ⟨some 113,(.load (some 4)),[.t 112],none⟩,
 ⟨some 114,.call,[.c (.pv none (.func (.func 98))),.t 104,.t 107,.t 110,.t 113],none⟩,
 ⟨some 2,.mv,[.t 114],none⟩,
 ⟨some 3,.mv,[.c (.pv none (.int .i64 0))],none⟩]
def c50r21 : List AOper := [
 ⟨some 116,(.bin .eql),[.t 65,.c (.pv none (.str [97,114,103]))],none⟩,
 ⟨some 115,.mv,[.t 116],none⟩]
def c50r22 : List AOper := [
 ⟨some 117,.mv,[.t 0],none⟩,
 ⟨some 118,.mv,[.t 4],none⟩,
 ⟨some 119,(.iaddr (some 4)),[.t 118,.c (.pv none (.int .i64 0))],none⟩,
 ⟨some 120,(.load (some 4)),[.t 119],none⟩,
 ⟨some 121,.mv,[.t 4],none⟩,
 ⟨some 122,(.iaddr (some 4)),[.t 121,.c (.pv none (.int .i64 1))],none⟩,
 ⟨some 123,(.load (some 4)),[.t 122],none⟩,
 ⟨some 124,.call,[.c (.pv none (.func (.func 99))),.t 117,.t 120,.t 123],none⟩,
 ⟨some 2,.mv,[.t 124],none⟩,
 ⟨some 3,.mv,[.c (.pv none (.int .i64 0))],none⟩]
def c50r23 : List AOper := [
 ⟨some 126,(.bin .eql),[.t 65,.c (.pv none (.str [61,46,46]))],none⟩,
 ⟨some 125,.mv,[.t 126],none⟩]
def c50r24 : List AOper := [
 ⟨some 127,.mv,[.t 0],none⟩,
 ⟨some 128,.mv,[.t 4],none⟩,
 ⟨some 129,(.iaddr (some 4)),[.t 128,.c (.pv none (.int .i64 0))],none⟩,
 ⟨some 130,(.load (some 4)),[.t 129],none⟩,
 ⟨some 131,.mv,[.t 4],none⟩,
 ⟨some 132,(.iaddr (some 4)),[.t 131,.c (.pv none (.int .i64 1))],none⟩,
 ⟨some 133,(.load (some 4)),[.t 132],none⟩,
 ⟨some 134,.call,[.c (.pv none (.func (.func 100))),.t 127,.t 130,.t 133],none⟩,
 ⟨some 2,.mv,[.t 134],none⟩,
 ⟨some 3,.mv,[.c (.pv none (.int .i64 0))],none⟩]
def c50r25 : List AOper := [
 ⟨some 136,(.bin .eql),[.t 65,.c (.pv none (.str [99,111,112,121,95,116,101,114,109]))],none⟩,
 ⟨some 135,.mv,[.t 136],none⟩]
def c50r26 : List AOper := [
 ⟨some 137,.mv,[.t 0],none⟩,
 ⟨some 138,.mv,[.t 0],none⟩,
 ⟨some 139,.mv,[.t 4],none⟩,
 ⟨some 140,(.iaddr (some 4)),[.t 139,.c (.pv none (.int .i64 0))],none⟩,
 ⟨some 141,(.load (some 4)),[.t 140],none⟩,
 ⟨some 142,(.mkmap (some 4)),[],none⟩,
 ⟨some 143,.call,[.c (.pv none (.func (.func 102))),.t 138,.t 141,.t 142],none⟩,
 ⟨some 144,.call,[.c (.pv none (.func (.func 101))),.t 137,.c (.pv none (.int .i64 1)),.t 143],none⟩,
 ⟨some 2,.mv,[.t 144],none⟩,
 ⟨some 3,.mv,[.c (.pv none (.int .i64 0))],none⟩]
def c50r27 : List AOper := [
 ⟨some 146,(.bin .eql),[.t 65,.c (.pv none (.str [116,101,114,109,95,118,97,114,105,97,98,108,101,115]))],none⟩,
 ⟨some 145,.mv,[.t 146],none⟩]
def c50r28 : List AOper := [
 ⟨some 147,.mv,[.t 0],none⟩,
 ⟨some 148,.mv,[.t 4],none⟩,
 ⟨some 149,(.iaddr (some 4)),[.t 148,.c (.pv none (.int .i64 0))],none⟩,
 ⟨some 150,(.load (some 4)),[.t 149],none⟩,
 ⟨some 151,.mv,[.t 4],none⟩,
 ⟨some 152,(.iaddr (some 4)),[.t 151,.c (.pv none (.int .i64 1))],none⟩,
 ⟨some 153,(.load (some 4)),[.t 152],none⟩,
 ⟨some 154,.call,[.c (.pv none (.func (.func 103))),.t 147,.t 150,.t 153],none⟩,
 ⟨some 2,.mv,[.t 154],none⟩,
 ⟨some 3,.mv,[.c (.pv none (.int .i64 0))],none⟩]
def c50r29 : List AOper := [
 ⟨some 156,(.bin .eql),[.t 65,.c (.pv none (.str [108,101,110,103,116,104]))],none⟩,
 ⟨some 155,.mv,[.t 156],none⟩]
def c50r30 : List AOper := [
 ⟨some 157,.mv,[.t 0],none⟩,
 ⟨some 158,.mv,[.t 4],none⟩,
 ⟨some 159,(.iaddr (some 4)),[.t 158,.c (.pv none (.int .i64 0))],none⟩,
 ⟨some 160,(.load (some 4)),[.t 159],none⟩,
 ⟨some 161,.mv,[.t 4],none⟩,
 ⟨some 162,(.iaddr (some 4)),[.t 161,.c (.pv none (.int .i64 1))],none⟩,
 ⟨some 163,(.load (some 4)),[.t 162],none⟩,
 ⟨some 164,.call,[.c (.pv none (.func (.func 104))),.t 157,.t 160,.t 163],none⟩,
 ⟨some 165,(.extract 0),[.t 164],none⟩,
 ⟨some 166,(.extract 1),[.t 164],none⟩,
 ⟨some 2,.mv,[.t 165],none⟩,
 ⟨some 3,.mv,[.t 166],none⟩]
def c50r31 : List AOper := [
 ⟨some 168,(.bin .eql),[.t 65,.c (.pv none (.str [98,101,116,119,101,101,110]))],none⟩,
 ⟨some 167,.mv,[.t 168],none⟩]
def c50r32 : List AOper := [
 ⟨some 169,.mv,[.t 0],none⟩,
 ⟨some 170,.mv,[.t 4],none⟩,
 ⟨some 171,(.iaddr (some 4)),[.t 170,.c (.pv none (.int .i64 0))],none⟩,
 ⟨some 172,(.load (some 4)),[.t 171],none⟩,
 ⟨some 173,.mv,[.t 4],none⟩,
 ⟨some 174,(.iaddr (some 4)),[.t 173,.c (.pv none (.int .i64 1))],none⟩,
 ⟨some 175,(.load (some 4)),[.t 174],none⟩,
 ⟨some 176,.mv,[.t 4],none⟩,
 ⟨some 177,(.iaddr (some 4)),[.t 176,.c (.pv none (.int .i64 2))],none⟩,
 ⟨some 178,(.load (some 4)),[.t 177],none⟩,
 ⟨some 179,.call,[.c (.pv none (.func (.func 105))),.t 169,.t 172,.t 175,.t 178],none⟩,
 ⟨some 180,(.extract 0),[.t 179],none⟩,
 ⟨some 181,(.extract 1),[.t 179],none⟩,
 ⟨some 2,.mv,[.t 180],none⟩,
 ⟨some 3,.mv,[.t 181],none⟩]
def c50k33 : ACode := (.cond (.t 167) (.seq (.region true c50r32 [2,3]) .ret) .skip)
def c50k34 : ACode := (.cond (.t 155) (.seq (.region true c50r30 [2,3]) .ret) (.seq (.region true c50r31 [0,4,167]) c50k33))
def c50k35 : ACode := (.cond (.t 145) (.seq (.region true c50r28 [2,3]) .ret) (.seq (.region true c50r29 [0,4,65,155]) c50k34))
def c50k36 : ACode := (.cond (.t 135) (.seq (.region true c50r26 [2,3]) .ret) (.seq (.region true c50r27 [0,4,65,145]) c50k35))
def c50k37 : ACode := (.cond (.t 125) (.seq (.region true c50r24 [2,3]) .ret) (.seq (.region true c50r25 [0,4,65,135]) c50k36))
def c50k38 : ACode := (.cond (.t 115) (.seq (.region true c50r22 [2,3]) .ret) (.seq (.region true c50r23 [0,4,65,125]) c50k37))
def c50k39 : ACode := (.cond (.t 102) (.seq (.region true c50r20 [2,3]) .ret) (.seq (.region true c50r21 [0,4,65,115]) c50k38))
def c50k40 : ACode := (.cond (.t 79) (.seq (.region true c50r14 [0,10]) (.seq (.seq (.region true c50r15 [0,10,96]) c50k17) (.seq (.region true c50r18 [2,3]) .ret))) (.seq (.region true c50r19 [0,4,65,102]) c50k39))
def c50k41 : ACode := (.cond (.t 66) (.seq (.region true c50r12 [2,3]) .ret) (.seq (.region true c50r13 [0,4,65,79]) c50k40))
def c50k42 : ACode := (.block 0 (.seq (.region true c50r11 [0,4,65,66]) c50k41))
def c50r43 : List AOper := [
 ⟨some 182,.mv,[.t 0],none⟩,
 ⟨some 183,.mv,[.t 4],none⟩,
 ⟨some 184,(.iaddr (some 4)),[.t 183,.c (.pv none (.int .i64 0))],none⟩,
 ⟨some 185,(.load (some 4)),[.t 184],none⟩,
 ⟨some 186,.mv,[.t 4],none⟩,
 ⟨some 187,(.iaddr (some 4)),[.t 186,.c (.pv none (.int .i64 1))],none⟩,
 ⟨some 188,(.load (some 4)),[.t 187],none⟩,
 ⟨some 189,.call,[.c (.pv none (.func (.func 106))),.t 182,.t 185,.t 188],none⟩,
 ⟨some 2,.mv,[.t 189],none⟩,
 ⟨some 3,.mv,[.c (.pv none (.int .i64 0))],none⟩]
def c50 : ACode := (.seq (.region true c50r0 [0]) (.seq (.region true c50r1 [0,4]) (.seq (.seq (.region true c50r2 [0,4,5,6]) (.seq (.region true c50r3 [0,4,5,31]) c50k5)) (.seq (.seq (.region true c50r6 [0,4,7,8]) (.seq (.region true c50r7 [0,4,7,49]) c50k9)) (.seq (.seq (.region true c50r10 [0,4,65]) c50k42) (.seq (.region true c50r43 [2,3]) .ret))))))
def g50 : AFn := ⟨1,[(2,none),(3,none)],c50,true,[],[],none⟩
theorem tr50 : trFn Tryz.prog true 50 Tryz.f50 = some g50 := by kernel_rfl
def c51r0 : List AOper := [
 ⟨some 1,(.box (some 4)),[.t 0],none⟩,
 ⟨some 2,(.alloc (some 4) (.agg [(none,(.pv none (.int .i64 0))),(none,(.pv none (.int .i64 0))),(none,(.pv none (.str []))),(none,(.tsl (some 4) []))])),[],none⟩]
def c51r1 : List AOper := [
 ⟨some 3,(.load (some 4)),[.t 1],none⟩,
 ⟨some 4,.call,[.c (.pv none (.func (.func 43))),.t 3],none⟩,
 ⟨some 5,.not,[.t 4],none⟩]
def c51r2 : List AOper := [
 ⟨some 6,(.build [(none,(.pv none (.int .i64 0))),(none,(.pv none (.int .i64 0))),(none,(.pv none (.str []))),(none,(.tsl (some 4) []))] []),[],none⟩,
 ⟨none,(.store (some 4)),[.t 2,.t 6],none⟩]
def c51k3 : ACode := (.cond (.t 5) (.seq (.region true c51r2 [2]) .ret) .skip)
def c51r4 : List AOper := [
 ⟨some 7,(.load (some 4)),[.t 1],none⟩,
 ⟨some 8,.call,[.c (.pv none (.func (.func 92))),.t 7,.c (.pv none (.func (.func 107)))],none⟩,
 ⟨none,(.store (some 4)),[.t 2,.t 8],none⟩]
def c51 : ACode := (.seq (.region true c51r0 [1,2]) (.seq (.seq (.region true c51r1 [1,2,5]) c51k3) (.seq (.region true c51r4 [2]) .ret)))
def g51 : AFn := ⟨1,[(2,some (some 4))],c51,false,[],[],none⟩
theorem tr51 : trFn Tryz.prog false 51 Tryz.f51 = some g51 := by kernel_rfl
def c52r0 : List AOper := [
 ⟨some 2,.mv,[.c (.pv none (.bool false))],none⟩]
def c52r1 : List AOper := [
 ⟨some 8,.mv,[.t 0],none⟩,
 ⟨some 9,.len,[.t 8],none⟩,
 ⟨some 10,.mv,[.c (.pv none (.int .i64 0))],none⟩]
def c52r2 : List AOper := [
 ⟨some 11,(.bin .lss),[.t 10,.t 9],none⟩]
def c52k3 : ACode := (.cond (.t 11) .skip (.exit 0))
def c52r4 : List AOper := [
 ⟨some 12,.mv,[.t 10],none⟩,
 ⟨some 13,(.iaddr (some 5)),[.t 8,.t 10],none⟩,
 ⟨some 14,(.load (some 5)),[.t 13],none⟩,
 ⟨some 4,(.alloc (some 5) (.agg [(none,(.pv none (.int .i64 0))),((some 4),(.agg [(none,(.pv none (.int .i64 0))),(none,(.pv none (.int .i64 0))),(none,(.pv none (.str []))),(none,(.tsl (some 4) []))]))])),[],none⟩,
 ⟨some 3,.mv,[.t 12],none⟩,
 ⟨none,(.store (some 5)),[.t 4,.t 14],none⟩]
def c52r5 : List AOper := [
 ⟨some 15,(.faddr 0),[.t 4],none⟩,
 ⟨some 16,(.load none),[.t 15],none⟩,
 ⟨some 17,(.bin .lss),[.t 16,.c (.pv none (.int .i64 0))],none⟩,
 ⟨some 18,.mv,[.t 17],none⟩,
 ⟨some 19,(.faddr 0),[.t 4],some (18,false)⟩,
 ⟨some 20,(.load none),[.t 19],some (18,false)⟩,
 ⟨some 21,(.bin .gtr),[.t 20,.c (.pv none (.int .i64 1099511627776))],some (18,false)⟩,
 ⟨some 22,.pick,[.t 18,.c (.pv none (.bool true)),.t 21],none⟩,
 ⟨some 23,.mv,[.t 22],none⟩,
 ⟨some 24,.mv,[.t 3],some (23,false)⟩,
 ⟨some 25,(.bin .gtr),[.t 24,.c (.pv none (.int .i64 0))],some (23,false)⟩,
 ⟨some 26,.mv,[.t 25],some (23,false)⟩,
 ⟨some 27,.mv,[.t 0],some (26,true)⟩,
 ⟨some 28,.mv,[.t 3],some (26,true)⟩,
 ⟨some 29,(.bin .sub),[.t 28,.c (.pv none (.int .i64 1))],some (26,true)⟩,
 ⟨some 30,(.iaddr (some 5)),[.t 27,.t 29],some (26,true)⟩,
 ⟨some 31,(.faddr 0),[.t 30],some (26,true)⟩,
 ⟨some 32,(.load none),[.t 31],some (26,true)⟩,
 ⟨some 33,(.faddr 0),[.t 4],some (26,true)⟩,
 ⟨some 34,(.load none),[.t 33],some (26,true)⟩,
 ⟨some 35,(.bin .geq),[.t 32,.t 34],some (26,true)⟩,
 ⟨some 36,.pick,[.t 26,.t 35,.c (.pv none (.bool false))],some (23,false)⟩,
 ⟨some 37,.pick,[.t 23,.c (.pv none (.bool true)),.t 36],none⟩,
 ⟨some 38,.mv,[.t 37],none⟩,
 ⟨some 39,(.faddr 1),[.t 4],some (38,false)⟩,
 ⟨some 40,(.load (some 4)),[.t 39],some (38,false)⟩,
 ⟨some 41,.call,[.c (.pv none (.func (.func 43))),.t 40],some (38,false)⟩,
 ⟨some 42,.not,[.t 41],some (38,false)⟩,
 ⟨some 43,.pick,[.t 38,.c (.pv none (.bool true)),.t 42],none⟩]
def c52r6 : List AOper := [
 ⟨some 2,.mv,[.c (.pv none (.bool false))],none⟩]
def c52k7 : ACode := (.cond (.t 43) (.seq (.region true c52r6 [2]) .ret) .skip)
def c52k8 : ACode := (.block 1 (.seq (.region true c52r4 [0,3,4,8,9,10]) (.seq (.region true c52r5 [0,8,9,10,43]) c52k7)))
def c52r9 : List AOper := [
 ⟨some 44,(.bin .add),[.t 10,.c (.pv none (.int .i64 1))],none⟩,
 ⟨some 10,.mv,[.t 44],none⟩]
def c52b10 : ACode := (.seq (.region true c52r2 [0,8,9,10,11]) (.seq c52k3 (.seq c52k8 (.region true c52r9 [0,8,9,10]))))
def c52k11 : ACode := (.block 0 (.loop [0,8,9,10] c52b10))
def c52r12 : List AOper := [
 ⟨some 45,(.mkmap none),[],none⟩,
 ⟨some 5,.mv,[.t 45],none⟩]
def c52r13 : List AOper := [
 ⟨some 46,.mv,[.t 0],none⟩,
 ⟨some 47,.len,[.t 46],none⟩,
 ⟨some 48,.mv,[.c (.pv none (.int .i64 0))],none⟩]
def c52r14 : List AOper := [
 ⟨some 49,(.bin .lss),[.t 48,.t 47],none⟩]
def c52k15 : ACode := (.cond (.t 49) .skip (.exit 2))
def c52r16 : List AOper := [
 ⟨some 50,(.iaddr (some 5)),[.t 46,.t 48],none⟩,
 ⟨some 51,(.load (some 5)),[.t 50],none⟩,
 ⟨some 7,(.alloc (some 5) (.agg [(none,(.pv none (.int .i64 0))),((some 4),(.agg [(none,(.pv none (.int .i64 0))),(none,(.pv none (.int .i64 0))),(none,(.pv none (.str []))),(none,(.tsl (some 4) []))]))])),[],none⟩,
 ⟨none,(.store (some 5)),[.t 7,.t 51],none⟩]
def c52r17 : List AOper := [
 ⟨some 52,.mv,[.t 0],none⟩,
 ⟨some 53,(.faddr 0),[.t 7],none⟩,
 ⟨some 54,(.load none),[.t 53],none⟩,
 ⟨some 55,.mv,[.t 5],none⟩,
 ⟨some 56,.call,[.c (.pv none (.func (.func 108))),.t 52,.t 54,.t 55],none⟩]
def c52r18 : List AOper := [
 ⟨some 2,.mv,[.c (.pv none (.bool false))],none⟩]
def c52k19 : ACode := (.cond (.t 56) (.seq (.region true c52r18 [2]) .ret) .skip)
def c52k20 : ACode := (.block 3 (.seq (.region true c52r16 [0,5,7,46,47,48]) (.seq (.region true c52r17 [0,5,46,47,48,56]) c52k19)))
def c52r21 : List AOper := [
 ⟨some 57,(.bin .add),[.t 48,.c (.pv none (.int .i64 1))],none⟩,
 ⟨some 48,.mv,[.t 57],none⟩]
def c52b22 : ACode := (.seq (.region true c52r14 [0,5,46,47,48,49]) (.seq c52k15 (.seq c52k20 (.region true c52r21 [0,5,46,47,48]))))
def c52k23 : ACode := (.block 2 (.loop [0,5,46,47,48] c52b22))
def c52r24 : List AOper := [
 ⟨some 2,.mv,[.c (.pv none (.bool true))],none⟩]
def c52 : ACode := (.seq (.region true c52r0 [0]) (.seq (.seq (.region true c52r1 [0,8,9,10]) c52k11) (.seq (.region true c52r12 [0,5]) (.seq (.seq (.region true c52r13 [0,5,46,47,48]) c52k23) (.seq (.region true c52r24 [2]) .ret)))))
def g52 : AFn := ⟨1,[(2,none)],c52,false,[],[],none⟩
theorem tr52 : trFn Tryz.prog false 52 Tryz.f52 = some g52 := by kernel_rfl
def c53r0 : List AOper := [
 ⟨some 2,.mv,[.t 5],none⟩]
def c53r1 : List AOper := [
 ⟨some 7,.mv,[.t 2],none⟩,
 ⟨some 8,(.assert 82 (some 1) (.pv (some 1) (.agg [(none,(.int .i64 0))])) true),[.t 7],none⟩,
 ⟨some 6,.mv,[.t 8],none⟩,
 ⟨some 9,(.extract 0),[.t 6],none⟩,
 ⟨some 10,(.extract 1),[.t 6],none⟩,
 ⟨some 3,(.alloc (some 1) (.pv (some 1) (.agg [(none,(.int .i64 0))]))),[],none⟩,
 ⟨none,(.store (some 1)),[.t 3,.t 9],none⟩,
 ⟨some 4,.mv,[.t 10],none⟩]
def c53r2 : List AOper := [
 ⟨some 11,.mv,[.t 4],none⟩]
def c53r3 : List AOper := [
 ⟨some 12,(.faddr 0),[.t 3],none⟩,
 ⟨some 13,(.load none),[.t 12],none⟩,
 ⟨none,(.storen none),[.t 0,.c (.tsl (some 5) []),.t 12],none⟩,
 ⟨none,(.store none),[.t 1,.t 13],none⟩]
def c53r4 : List AOper := [
 ⟨some 14,.mv,[.t 2],none⟩,
 ⟨some 15,(.isnil true),[.t 14],none⟩]
def c53r5 : List AOper := [
 ⟨some 16,.mv,[.t 2],none⟩,
 ⟨none,.panic,[.t 16],none⟩]
def c53k6 : ACode := (.cond (.t 15) (.region true c53r5 []) .skip)
def c53k7 : ACode := (.cond (.t 11) (.region true c53r3 []) (.seq (.region true c53r4 [2,15]) c53k6))
def c53 : ACode := (.seq (.region true c53r0 [0,1,2]) (.seq (.region true c53r1 [0,1,2,3,4]) (.seq (.region true c53r2 [0,1,2,3,11]) (.seq c53k7 .skip))))
def g53 : AFn := ⟨2,[],c53,true,[],[],some 5⟩
theorem tr53 : trFn Tryz.prog true 53 Tryz.f53 = some g53 := by kernel_rfl
def c54r0 : List AOper := [
 ⟨some 2,(.nilsl (some 5)),[],none⟩]
def c54r1 : List AOper := [
 ⟨some 3,(.nilsl (some 5)),[],none⟩]
def c54r2 : List AOper := [
 ⟨some 6,.mv,[.t 0],none⟩,
 ⟨some 7,.len,[.t 6],none⟩,
 ⟨some 8,.mv,[.c (.pv none (.int .i64 0))],none⟩]
def c54r3 : List AOper := [
 ⟨some 9,(.bin .lss),[.t 8,.t 7],none⟩]
def c54k4 : ACode := (.cond (.t 9) .skip (.exit 0))
def c54r5 : List AOper := [
 ⟨some 10,(.iaddr (some 5)),[.t 6,.t 8],none⟩,
 ⟨some 11,(.load (some 5)),[.t 10],none⟩,
 ⟨some 5,(.alloc (some 5) (.agg [(none,(.pv none (.int .i64 0))),((some 4),(.agg [(none,(.pv none (.int .i64 0))),(none,(.pv none (.int .i64 0))),(none,(.pv none (.str []))),(none,(.tsl (some 4) []))]))])),[],none⟩,
 ⟨none,(.store (some 5)),[.t 5,.t 11],none⟩]
def c54r6 : List AOper := [
 ⟨some 12,.mv,[.t 3],none⟩,
 ⟨some 13,(.faddr 0),[.t 5],none⟩,
 ⟨some 14,(.load none),[.t 13],none⟩,
 ⟨some 15,(.faddr 1),[.t 5],none⟩,
 ⟨some 16,(.load (some 4)),[.t 15],none⟩,
 ⟨some 17,.callp,[.c (.pv none (.func (.func 51))),.t 16],none⟩,
 ⟨some 18,(.build [(none,(.pv none (.int .i64 0))),((some 4),(.agg [(none,(.pv none (.int .i64 0))),(none,(.pv none (.int .i64 0))),(none,(.pv none (.str []))),(none,(.tsl (some 4) []))]))] [0,1]),[.t 14,.t 17],none⟩,
 ⟨some 19,(.bslicep (some 5)),[.t 18],none⟩,
 ⟨some 20,(.append (some 5)),[.t 12,.t 19],none⟩,
 ⟨some 3,.mv,[.t 20],none⟩]
def c54k7 : ACode := (.block 1 (.seq (.region true c54r5 [3,5,6,7,8]) (.seq (.settle []) (.region true c54r6 [3,6,7,8]))))
def c54r8 : List AOper := [
 ⟨some 21,(.bin .add),[.t 8,.c (.pv none (.int .i64 1))],none⟩,
 ⟨some 8,.mv,[.t 21],none⟩]
def c54b9 : ACode := (.seq (.region true c54r3 [3,6,7,8,9]) (.seq c54k4 (.seq c54k7 (.region true c54r8 [3,6,7,8]))))
def c54k10 : ACode := (.block 0 (.loop [3,6,7,8] c54b9))
def c54r11 : List AOper := [
 ⟨some 22,.mv,[.t 3],none⟩,
 ⟨some 2,.mv,[.t 22],none⟩]
def c54 : ACode := (.seq (.region true c54r0 [0]) (.seq (.region true c54r1 [0,3]) (.seq (.seq (.region true c54r2 [3,6,7,8]) c54k10) (.seq (.region true c54r11 [2]) .ret))))
def g54 : AFn := ⟨1,[(2,none)],c54,false,[],[],none⟩
theorem tr54 : trFn Tryz.prog false 54 Tryz.f54 = some g54 := by kernel_rfl
def c55r0 : List AOper := [
 ⟨some 4,(.box (some 4)),[.t 1],none⟩,
 ⟨some 5,(.box (some 4)),[.t 2],none⟩]
def c55r1 : List AOper := [
 ⟨some 12,(.load (some 4)),[.t 4],none⟩,
 ⟨some 13,(.load (some 4)),[.t 5],none⟩,
 ⟨some 14,(.build [((some 4),(.agg [(none,(.pv none (.int .i64 0))),(none,(.pv none (.int .i64 0))),(none,(.pv none (.str []))),(none,(.tsl (some 4) []))])),((some 4),(.agg [(none,(.pv none (.int .i64 0))),(none,(.pv none (.int .i64 0))),(none,(.pv none (.str []))),(none,(.tsl (some 4) []))]))] [0,1]),[.t 12,.t 13],none⟩,
 ⟨some 15,(.bslice (some 8)),[.t 14],none⟩,
 ⟨some 6,.mv,[.t 15],none⟩]
def c55r2 : List AOper := [
 ⟨some 7,.mv,[.c (.pv none (.int .i64 0))],none⟩]
def c55r3 : List AOper := [
 ⟨some 16,.mv,[.t 6],none⟩,
 ⟨some 17,.len,[.t 16],none⟩,
 ⟨some 18,(.bin .gtr),[.t 17,.c (.pv none (.int .i64 0))],none⟩]
def c55k4 : ACode := (.cond (.t 18) .skip (.exit 0))
def c55r5 : List AOper := [
 ⟨some 21,.mv,[.t 7],none⟩,
 ⟨some 22,(.bin .eql),[.t 21,.c (.pv none (.int .i64 1048576))],none⟩]
def c55r6 : List AOper := [
 ⟨some 23,(.build [(none,(.pv none (.int .i64 0)))] [0]),[.c (.pv none (.int .i64 2))],none⟩,
 ⟨some 24,(.mkiface 82),[.t 23],none⟩,
 ⟨none,.panic,[.t 24],none⟩]
def c55k7 : ACode := (.cond (.t 22) (.region true c55r6 [0,6,7]) .skip)
def c55r8 : List AOper := [
 ⟨some 25,.mv,[.t 6],none⟩,
 ⟨some 26,.mv,[.t 6],none⟩,
 ⟨some 27,.len,[.t 26],none⟩,
 ⟨some 28,(.bin .sub),[.t 27,.c (.pv none (.int .i64 1))],none⟩,
 ⟨some 29,(.iaddr (some 8)),[.t 25,.t 28],none⟩,
 ⟨some 30,(.load (some 8)),[.t 29],none⟩,
 ⟨some 8,(.alloc (some 8) (.agg [((some 4),(.agg [(none,(.pv none (.int .i64 0))),(none,(.pv none (.int .i64 0))),(none,(.pv none (.str []))),(none,(.tsl (some 4) []))])),((some 4),(.agg [(none,(.pv none (.int .i64 0))),(none,(.pv none (.int .i64 0))),(none,(.pv none (.str []))),(none,(.tsl (some 4) []))]))])),[],none⟩,
 ⟨none,(.store (some 8)),[.t 8,.t 30],none⟩]
def c55r9 : List AOper := [
 ⟨some 31,.mv,[.t 6],none⟩,
 ⟨some 32,.mv,[.t 6],none⟩,
 ⟨some 33,.len,[.t 32],none⟩,
 ⟨some 34,(.bin .sub),[.t 33,.c (.pv none (.int .i64 1))],none⟩,
 ⟨some 35,(.slice (some 8) false true),[.t 31,.t 34],none⟩,
 ⟨some 6,.mv,[.t 35],none⟩]
def c55r10 : List AOper := [
 ⟨some 36,.mv,[.t 0],none⟩,
 ⟨some 37,.nilcheck,[.t 36],none⟩,
 ⟨some 38,(.faddr 0),[.t 37],none⟩,
 ⟨some 39,(.load none),[.t 38],none⟩,
 ⟨some 40,(.iaddrA (some 4) 2),[.t 8,.c (.pv none (.int .i64 0))],none⟩,
 ⟨some 41,(.load (some 4)),[.t 40],none⟩,
 ⟨some 42,.callp,[.c (.pv none (.func (.func 109))),.t 39,.t 41],none⟩,
 ⟨some 43,.mv,[.t 0],none⟩,
 ⟨some 44,.nilcheck,[.t 43],none⟩,
 ⟨some 45,(.faddr 0),[.t 44],none⟩,
 ⟨some 46,(.load none),[.t 45],none⟩,
 ⟨some 47,(.iaddrA (some 4) 2),[.t 8,.c (.pv none (.int .i64 1))],none⟩,
 ⟨some 48,(.load (some 4)),[.t 47],none⟩,
 ⟨some 49,.callp,[.c (.pv none (.func (.func 109))),.t 46,.t 48],none⟩,
 ⟨some 9,(.alloc (some 4) (.agg [(none,(.pv none (.int .i64 0))),(none,(.pv none (.int .i64 0))),(none,(.pv none (.str []))),(none,(.tsl (some 4) []))])),[],none⟩,
 ⟨some 10,(.alloc (some 4) (.agg [(none,(.pv none (.int .i64 0))),(none,(.pv none (.int .i64 0))),(none,(.pv none (.str []))),(none,(.tsl (some 4) []))])),[],none⟩,
 ⟨none,(.store (some 4)),[.t 9,.t 42],none⟩,
 ⟨none,(.store (some 4)),[.t 10,.t 49],none⟩]
def c55r11 : List AOper := [
 ⟨some 50,.mv,[.t 0],none⟩,
 ⟨some 51,(.load (some 4)),[.t 9],none⟩,
 ⟨some 52,(.load (some 4)),[.t 10],none⟩,
 ⟨some 53,.call,[.c (.pv none (.func (.func 110))),.t 50,.t 51,.t 52],none⟩]
def c55r12 : List AOper := [
 ⟨some 54,(.faddr 3),[.t 9],none⟩,
 ⟨some 55,(.load none),[.t 54],none⟩,
 ⟨some 56,.len,[.t 55],none⟩,
 ⟨some 57,(.bin .sub),[.t 56,.c (.pv none (.int .i64 1))],none⟩,
 ⟨some 11,.mv,[.t 57],none⟩]
def c55r13 : List AOper := [
 ⟨some 58,.mv,[.t 11],none⟩,
 ⟨some 59,(.bin .geq),[.t 58,.c (.pv none (.int .i64 0))],none⟩]
def c55k14 : ACode := (.cond (.t 59) .skip (.exit 2))
def c55r15 : List AOper := [
 ⟨some 62,.mv,[.t 6],none⟩,
 ⟨some 63,(.faddr 3),[.t 9],none⟩,
 ⟨some 64,(.load none),[.t 63],none⟩,
 ⟨some 65,.mv,[.t 11],none⟩,
 ⟨some 66,(.iaddr (some 4)),[.t 64,.t 65],none⟩,
 ⟨some 67,(.load (some 4)),[.t 66],none⟩,
 ⟨some 68,(.faddr 3),[.t 10],none⟩,
 ⟨some 69,(.load none),[.t 68],none⟩,
 ⟨some 70,.mv,[.t 11],none⟩,
 ⟨some 71,(.iaddr (some 4)),[.t 69,.t 70],none⟩,
 ⟨some 72,(.load (some 4)),[.t 71],none⟩,
 ⟨some 73,(.build [((some 4),(.agg [(none,(.pv none (.int .i64 0))),(none,(.pv none (.int .i64 0))),(none,(.pv none (.str []))),(none,(.tsl (some 4) []))])),((some 4),(.agg [(none,(.pv none (.int .i64 0))),(none,(.pv none (.int .i64 0))),(none,(.pv none (.str []))),(none,(.tsl (some 4) []))]))] [0,1]),[.t 67,.t 72],none⟩,
 ⟨some 74,(.bslice (some 8)),[.t 73],none⟩,
 ⟨some 75,(.append (some 8)),[.t 62,.t 74],none⟩,
 ⟨some 6,.mv,[.t 75],none⟩]
def c55k16 : ACode := (.block 3 (.region true c55r15 [0,6,7,9,10,11]))
def c55r17 : List AOper := [
 ⟨some 60,.mv,[.t 11],none⟩,
 ⟨some 61,(.bin .sub),[.t 60,.c (.pv none (.int .i64 1))],none⟩,
 ⟨some 11,.mv,[.t 61],none⟩]
def c55b18 : ACode := (.seq (.seq (.region true c55r13 [0,6,7,9,10,11,59]) c55k14) (.seq c55k16 (.region true c55r17 [0,6,7,9,10,11])))
def c55k19 : ACode := (.block 2 (.loop [0,6,7,9,10,11] c55b18))
def c55k20 : ACode := (.cond (.t 53) (.seq (.region true c55r12 [0,6,7,9,10,11]) c55k19) .skip)
def c55k21 : ACode := (.block 1 (.seq (.seq (.region true c55r5 [0,6,7,22]) c55k7) (.seq (.region true c55r8 [0,6,7,8]) (.seq (.region true c55r9 [0,6,7,8]) (.seq (.seq (.settle []) (.region true c55r10 [0,6,7,9,10])) (.seq (.region true c55r11 [0,6,7,9,10,53]) c55k20))))))
def c55r22 : List AOper := [
 ⟨some 19,.mv,[.t 7],none⟩,
 ⟨some 20,(.bin .add),[.t 19,.c (.pv none (.int .i64 1))],none⟩,
 ⟨some 7,.mv,[.t 20],none⟩]
def c55b23 : ACode := (.seq (.seq (.region true c55r3 [0,6,7,18]) c55k4) (.seq c55k21 (.region true c55r22 [0,6,7])))
def c55k24 : ACode := (.block 0 (.loop [0,6,7] c55b23))
def c55 : ACode := (.seq (.region true c55r0 [0,4,5]) (.seq (.region true c55r1 [0,6]) (.seq (.region true c55r2 [0,6,7]) c55k24)))
def g55 : AFn := ⟨3,[],c55,false,[],[],none⟩
theorem tr55 : trFn Tryz.prog false 55 Tryz.f55 = some g55 := by kernel_rfl
def c56r0 : List AOper := [
 ⟨some 2,(.box (some 4)),[.t 0],none⟩,
 ⟨some 3,(.box (some 4)),[.t 1],none⟩,
 ⟨some 4,.mv,[.c (.pv none (.bool false))],none⟩]
def c56r1 : List AOper := [
 ⟨some 5,(.load (some 4)),[.t 2],none⟩,
 ⟨some 6,.call,[.c (.pv none (.func (.func 23))),.t 5],none⟩,
 ⟨some 7,.mv,[.t 6],none⟩,
 ⟨some 8,(.load (some 4)),[.t 3],some (7,true)⟩,
 ⟨some 9,.call,[.c (.pv none (.func (.func 23))),.t 8],some (7,true)⟩,
 ⟨some 10,.pick,[.t 7,.t 9,.c (.pv none (.bool false))],none⟩,
 ⟨some 11,.mv,[.t 10],none⟩,
 ⟨some 12,(.load (some 4)),[.t 2],some (11,true)⟩,
 ⟨some 13,(.load (some 4)),[.t 3],some (11,true)⟩,
 ⟨some 14,.call,[.c (.pv none (.func (.func 61))),.t 12,.t 13],some (11,true)⟩,
 ⟨some 15,.pick,[.t 11,.t 14,.c (.pv none (.bool false))],none⟩,
 ⟨some 4,.mv,[.t 15],none⟩]
def c56 : ACode := (.seq (.region true c56r0 [2,3]) (.seq (.region true c56r1 [4]) .ret))
def g56 : AFn := ⟨2,[(4,none)],c56,false,[],[],none⟩
theorem tr56 : trFn Tryz.prog false 56 Tryz.f56 = some g56 := by kernel_rfl
def c57r0 : List AOper := [
 ⟨some 1,(.box (some 4)),[.t 0],none⟩,
 ⟨some 2,.mv,[.c (.pv none (.bool false))],none⟩]
def c57r1 : List AOper := [
 ⟨some 4,(.load (some 4)),[.t 1],none⟩,
 ⟨some 5,.call,[.c (.pv none (.func (.func 111))),.t 4],none⟩,
 ⟨some 6,.not,[.t 5],none⟩]
def c57r2 : List AOper := [
 ⟨some 2,.mv,[.c (.pv none (.bool false))],none⟩]
def c57k3 : ACode := (.cond (.t 6) (.seq (.region true c57r2 [2]) .ret) .skip)
def c57r4 : List AOper := [
 ⟨some 3,.mv,[.c (.pv none (.int .i64 0))],none⟩]
def c57r5 : List AOper := [
 ⟨some 7,.mv,[.t 3],none⟩,
 ⟨some 8,(.faddr 3),[.t 1],none⟩,
 ⟨some 9,(.load none),[.t 8],none⟩,
 ⟨some 10,.len,[.t 9],none⟩,
 ⟨some 11,(.bin .lss),[.t 7,.t 10],none⟩]
def c57k6 : ACode := (.cond (.t 11) .skip (.exit 0))
def c57r7 : List AOper := [
 ⟨some 14,(.faddr 3),[.t 1],none⟩,
 ⟨some 15,(.load none),[.t 14],none⟩,
 ⟨some 16,.mv,[.t 3],none⟩,
 ⟨some 17,(.iaddr (some 4)),[.t 15,.t 16],none⟩,
 ⟨some 18,(.load (some 4)),[.t 17],none⟩,
 ⟨some 19,.call,[.c (.pv none (.func (.func 57))),.t 18],none⟩,
 ⟨some 20,.not,[.t 19],none⟩]
def c57r8 : List AOper := [
 ⟨some 2,.mv,[.c (.pv none (.bool false))],none⟩]
def c57k9 : ACode := (.cond (.t 20) (.seq (.region true c57r8 [2]) .ret) .skip)
def c57k10 : ACode := (.block 1 (.seq (.region true c57r7 [1,3,20]) c57k9))
def c57r11 : List AOper := [
 ⟨some 12,.mv,[.t 3],none⟩,
 ⟨some 13,(.bin .add),[.t 12,.c (.pv none (.int .i64 1))],none⟩,
 ⟨some 3,.mv,[.t 13],none⟩]
def c57b12 : ACode := (.seq (.seq (.region true c57r5 [1,3,11]) c57k6) (.seq c57k10 (.region true c57r11 [1,3])))
def c57k13 : ACode := (.block 0 (.loop [1,3] c57b12))
def c57r14 : List AOper := [
 ⟨some 2,.mv,[.c (.pv none (.bool true))],none⟩]
def c57 : ACode := (.seq (.region true c57r0 [1]) (.seq (.seq (.region true c57r1 [1,6]) c57k3) (.seq (.seq (.region true c57r4 [1,3]) c57k13) (.seq (.region true c57r14 [2]) .ret))))
def g57 : AFn := ⟨1,[(2,none)],c57,false,[],[],none⟩
theorem tr57 : trFn Tryz.prog false 57 Tryz.f57 = some g57 := by kernel_rfl
def c58r0 : List AOper := [
 ⟨some 2,(.box (some 4)),[.t 0],none⟩,
 ⟨some 4,.mv,[.c (.pv none (.int .i64 0))],none⟩]
def c58r1 : List AOper := [
 ⟨some 5,.mv,[.c (.pv none (.int .i64 1))],none⟩]
def c58r2 : List AOper := [
 ⟨some 6,.mv,[.c (.pv none (.int .i64 0))],none⟩]
def c58r3 : List AOper := [
 ⟨some 7,.mv,[.t 6],none⟩,
 ⟨some 8,(.faddr 3),[.t 2],none⟩,
 ⟨some 9,(.load none),[.t 8],none⟩,
 ⟨some 10,.len,[.t 9],none⟩,
 ⟨some 11,(.bin .lss),[.t 7,.t 10],none⟩,
 ⟨some 12,.mv,[.t 11],none⟩,
 ⟨some 13,.mv,[.t 5],some (12,true)⟩,
 ⟨some 14,.mv,[.t 1],some (12,true)⟩,
 ⟨some 15,(.bin .lss),[.t 13,.t 14],some (12,true)⟩,
 ⟨some 16,.pick,[.t 12,.t 15,.c (.pv none (.bool false))],none⟩]
def c58k4 : ACode := (.cond (.t 16) .skip (.exit 0))
def c58r5 : List AOper := [
 ⟨some 19,.mv,[.t 5],none⟩,
 ⟨some 20,(.faddr 3),[.t 2],none⟩,
 ⟨some 21,(.load none),[.t 20],none⟩,
 ⟨some 22,.mv,[.t 6],none⟩,
 ⟨some 23,(.iaddr (some 4)),[.t 21,.t 22],none⟩,
 ⟨some 24,(.load (some 4)),[.t 23],none⟩,
 ⟨some 25,.mv,[.t 1],none⟩,
 ⟨some 26,.mv,[.t 5],none⟩,
 ⟨some 27,(.bin .sub),[.t 25,.t 26],none⟩,
 ⟨some 28,.call,[.c (.pv none (.func (.func 58))),.t 24,.t 27],none⟩,
 ⟨some 29,(.bin .add),[.t 19,.t 28],none⟩,
 ⟨some 5,.mv,[.t 29],none⟩]
def c58k6 : ACode := (.block 1 (.region true c58r5 [1,2,5,6]))
def c58r7 : List AOper := [
 ⟨some 17,.mv,[.t 6],none⟩,
 ⟨some 18,(.bin .add),[.t 17,.c (.pv none (.int .i64 1))],none⟩,
 ⟨some 6,.mv,[.t 18],none⟩]
def c58b8 : ACode := (.seq (.seq (.region true c58r3 [1,2,5,6,16]) c58k4) (.seq c58k6 (.region true c58r7 [1,2,5,6])))
def c58k9 : ACode := (.block 0 (.loop [1,2,5,6] c58b8))
def c58r10 : List AOper := [
 ⟨some 30,.mv,[.t 5],none⟩,
 ⟨some 4,.mv,[.t 30],none⟩]
def c58 : ACode := (.seq (.region true c58r0 [1,2]) (.seq (.region true c58r1 [1,2,5]) (.seq (.seq (.region true c58r2 [1,2,5,6]) c58k9) (.seq (.region true c58r10 [4]) .ret))))
def g58 : AFn := ⟨2,[(4,none)],c58,false,[],[],none⟩
theorem tr58 : trFn Tryz.prog false 58 Tryz.f58 = some g58 := by kernel_rfl
def c61r0 : List AOper := [
 ⟨some 2,(.box (some 4)),[.t 0],none⟩,
 ⟨some 3,(.box (some 4)),[.t 1],none⟩,
 ⟨some 4,.mv,[.c (.pv none (.bool false))],none⟩]
def c61r1 : List AOper := [
 ⟨some 6,(.faddr 0),[.t 2],none⟩,
 ⟨some 7,(.load none),[.t 6],none⟩,
 ⟨some 8,(.faddr 0),[.t 3],none⟩,
 ⟨some 9,(.load none),[.t 8],none⟩,
 ⟨some 10,(.bin .neq),[.t 7,.t 9],none⟩,
 ⟨some 11,.mv,[.t 10],none⟩,
 ⟨some 12,(.faddr 1),[.t 2],some (11,false)⟩,
 ⟨some 13,(.load none),[.t 12],some (11,false)⟩,
 ⟨some 14,(.faddr 1),[.t 3],some (11,false)⟩,
 ⟨some 15,(.load none),[.t 14],some (11,false)⟩,
 ⟨some 16,(.bin .neq),[.t 13,.t 15],some (11,false)⟩,
 ⟨some 17,.pick,[.t 11,.c (.pv none (.bool true)),.t 16],none⟩,
 ⟨some 18,.mv,[.t 17],none⟩,
 ⟨some 19,(.faddr 2),[.t 2],some (18,false)⟩,
 ⟨some 20,(.load none),[.t 19],some (18,false)⟩,
 ⟨some 21,(.faddr 2),[.t 3],some (18,false)⟩,
 ⟨some 22,(.load none),[.t 21],some (18,false)⟩,
 ⟨some 23,(.bin .neq),[.t 20,.t 22],some (18,false)⟩,
 ⟨some 24,.pick,[.t 18,.c (.pv none (.bool true)),.t 23],none⟩,
 ⟨some 25,.mv,[.t 24],none⟩,
 ⟨some 26,(.faddr 3),[.t 2],some (25,false)⟩,
 ⟨some 27,(.load none),[.t 26],some (25,false)⟩,
 ⟨some 28,.len,[.t 27],some (25,false)⟩,
 ⟨some 29,(.faddr 3),[.t 3],some (25,false)⟩,
 ⟨some 30,(.load none),[.t 29],some (25,false)⟩,
 ⟨some 31,.len,[.t 30],some (25,false)⟩,
 ⟨some 32,(.bin .neq),[.t 28,.t 31],some (25,false)⟩,
 ⟨some 33,.pick,[.t 25,.c (.pv none (.bool true)),.t 32],none⟩]
def c61r2 : List AOper := [
 ⟨some 4,.mv,[.c (.pv none (.bool false))],none⟩]
def c61k3 : ACode := (.cond (.t 33) (.seq (.region true c61r2 [4]) .ret) .skip)
def c61r4 : List AOper := [
 ⟨some 5,.mv,[.c (.pv none (.int .i64 0))],none⟩]
def c61r5 : List AOper := [
 ⟨some 34,.mv,[.t 5],none⟩,
 ⟨some 35,(.faddr 3),[.t 2],none⟩,
 ⟨some 36,(.load none),[.t 35],none⟩,
 ⟨some 37,.len,[.t 36],none⟩,
 ⟨some 38,(.bin .lss),[.t 34,.t 37],none⟩]
def c61k6 : ACode := (.cond (.t 38) .skip (.exit 0))
def c61r7 : List AOper := [
 ⟨some 41,(.faddr 3),[.t 2],none⟩,
 ⟨some 42,(.load none),[.t 41],none⟩,
 ⟨some 43,.mv,[.t 5],none⟩,
 ⟨some 44,(.iaddr (some 4)),[.t 42,.t 43],none⟩,
 ⟨some 45,(.load (some 4)),[.t 44],none⟩,
 ⟨some 46,(.faddr 3),[.t 3],none⟩,
 ⟨some 47,(.load none),[.t 46],none⟩,
 ⟨some 48,.mv,[.t 5],none⟩,
 ⟨some 49,(.iaddr (some 4)),[.t 47,.t 48],none⟩,
 ⟨some 50,(.load (some 4)),[.t 49],none⟩,
 ⟨some 51,.call,[.c (.pv none (.func (.func 61))),.t 45,.t 50],none⟩,
 ⟨some 52,.not,[.t 51],none⟩]
def c61r8 : List AOper := [
 ⟨some 4,.mv,[.c (.pv none (.bool false))],none⟩]
def c61k9 : ACode := (.cond (.t 52) (.seq (.region true c61r8 [4]) .ret) .skip)
def c61k10 : ACode := (.block 1 (.seq (.region true c61r7 [2,3,5,52]) c61k9))
def c61r11 : List AOper := [
 ⟨some 39,.mv,[.t 5],none⟩,
 ⟨some 40,(.bin .add),[.t 39,.c (.pv none (.int .i64 1))],none⟩,
 ⟨some 5,.mv,[.t 40],none⟩]
def c61b12 : ACode := (.seq (.seq (.region true c61r5 [2,3,5,38]) c61k6) (.seq c61k10 (.region true c61r11 [2,3,5])))
def c61k13 : ACode := (.block 0 (.loop [2,3,5] c61b12))
def c61r14 : List AOper := [
 ⟨some 4,.mv,[.c (.pv none (.bool true))],none⟩]
def c61 : ACode := (.seq (.region true c61r0 [2,3]) (.seq (.seq (.region true c61r1 [2,3,33]) c61k3) (.seq (.seq (.region true c61r4 [2,3,5]) c61k13) (.seq (.region true c61r14 [4]) .ret))))
def g61 : AFn := ⟨2,[(4,none)],c61,false,[],[],none⟩
theorem tr61 : trFn Tryz.prog false 61 Tryz.f61 = some g61 := by kernel_rfl
def c64r0 : List AOper := [
 ⟨some 2,.mv,[.c (.pv none (.bool false))],none⟩]
def c64r1 : List AOper := [
 ⟨some 5,.mv,[.t 0],none⟩,
 ⟨some 6,.len,[.t 5],none⟩,
 ⟨some 7,.mv,[.c (.pv none (.int .i64 0))],none⟩]
def c64r2 : List AOper := [
 ⟨some 8,(.bin .lss),[.t 7,.t 6],none⟩]
def c64k3 : ACode := (.cond (.t 8) .skip (.exit 0))
def c64r4 : List AOper := [
 ⟨some 9,(.iaddr (some 4)),[.t 5,.t 7],none⟩,
 ⟨some 10,(.load (some 4)),[.t 9],none⟩,
 ⟨some 4,(.alloc (some 4) (.agg [(none,(.pv none (.int .i64 0))),(none,(.pv none (.int .i64 0))),(none,(.pv none (.str []))),(none,(.tsl (some 4) []))])),[],none⟩,
 ⟨none,(.store (some 4)),[.t 4,.t 10],none⟩]
def c64r5 : List AOper := [
 ⟨some 11,(.load (some 4)),[.t 4],none⟩,
 ⟨some 12,.call,[.c (.pv none (.func (.func 43))),.t 11],none⟩,
 ⟨some 13,.not,[.t 12],none⟩]
def c64r6 : List AOper := [
 ⟨some 2,.mv,[.c (.pv none (.bool false))],none⟩]
def c64k7 : ACode := (.cond (.t 13) (.seq (.region true c64r6 [2]) .ret) .skip)
def c64k8 : ACode := (.block 1 (.seq (.region true c64r4 [4,5,6,7]) (.seq (.region true c64r5 [5,6,7,13]) c64k7)))
def c64r9 : List AOper := [
 ⟨some 14,(.bin .add),[.t 7,.c (.pv none (.int .i64 1))],none⟩,
 ⟨some 7,.mv,[.t 14],none⟩]
def c64b10 : ACode := (.seq (.region true c64r2 [5,6,7,8]) (.seq c64k3 (.seq c64k8 (.region true c64r9 [5,6,7]))))
def c64k11 : ACode := (.block 0 (.loop [5,6,7] c64b10))
def c64r12 : List AOper := [
 ⟨some 2,.mv,[.c (.pv none (.bool true))],none⟩]
def c64 : ACode := (.seq (.region true c64r0 [0]) (.seq (.seq (.region true c64r1 [5,6,7]) c64k11) (.seq (.region true c64r12 [2]) .ret)))
def g64 : AFn := ⟨1,[(2,none)],c64,false,[],[],none⟩
theorem tr64 : trFn Tryz.prog false 64 Tryz.f64 = some g64 := by kernel_rfl
def c65r0 : List AOper := [
 ⟨some 4,(.nilsl (some 4)),[],none⟩]
def c65r1 : List AOper := [
 ⟨some 8,.mv,[.t 0],none⟩,
 ⟨some 9,.len,[.t 8],none⟩,
 ⟨some 10,(.mkslice (some 4) (.agg [(none,(.int .i64 0)),(none,(.int .i64 0)),(none,(.str [])),(none,(.sl (some 4) []))])),[.c (.pv none (.int .i64 0)),.t 9],none⟩,
 ⟨some 5,.mv,[.t 10],none⟩]
def c65r2 : List AOper := [
 ⟨some 11,.mv,[.t 0],none⟩,
 ⟨some 12,.len,[.t 11],none⟩,
 ⟨some 13,.mv,[.c (.pv none (.int .i64 0))],none⟩]
def c65r3 : List AOper := [
 ⟨some 14,(.bin .lss),[.t 13,.t 12],none⟩]
def c65k4 : ACode := (.cond (.t 14) .skip (.exit 0))
def c65r5 : List AOper := [
 ⟨some 15,(.iaddr (some 4)),[.t 11,.t 13],none⟩,
 ⟨some 16,(.load (some 4)),[.t 15],none⟩,
 ⟨some 7,(.alloc (some 4) (.agg [(none,(.pv none (.int .i64 0))),(none,(.pv none (.int .i64 0))),(none,(.pv none (.str []))),(none,(.tsl (some 4) []))])),[],none⟩,
 ⟨none,(.store (some 4)),[.t 7,.t 16],none⟩]
def c65r6 : List AOper := [
 ⟨some 17,.mv,[.t 5],none⟩,
 ⟨some 18,(.load (some 4)),[.t 7],none⟩,
 ⟨some 19,.call,[.c (.pv none (.func (.func 51))),.t 18],none⟩,
 ⟨some 20,(.bslice (some 4)),[.t 19],none⟩,
 ⟨some 21,(.append (some 4)),[.t 17,.t 20],none⟩,
 ⟨some 5,.mv,[.t 21],none⟩]
def c65k7 : ACode := (.block 1 (.seq (.region true c65r5 [1,5,7,11,12,13]) (.region true c65r6 [1,5,11,12,13])))
def c65r8 : List AOper := [
 ⟨some 22,(.bin .add),[.t 13,.c (.pv none (.int .i64 1))],none⟩,
 ⟨some 13,.mv,[.t 22],none⟩]
def c65b9 : ACode := (.seq (.region true c65r3 [1,5,11,12,13,14]) (.seq c65k4 (.seq c65k7 (.region true c65r8 [1,5,11,12,13]))))
def c65k10 : ACode := (.block 0 (.loop [1,5,11,12,13] c65b9))
def c65r11 : List AOper := [
 ⟨some 23,.mv,[.t 5],none⟩,
 ⟨some 24,.mv,[.t 1],none⟩,
 ⟨some 25,.call,[.c (.pv none (.func (.func 113))),.t 23,.t 24],none⟩]
def c65r12 : List AOper := [
 ⟨some 26,.mv,[.t 5],none⟩,
 ⟨some 4,.mv,[.t 26],none⟩]
def c65 : ACode := (.seq (.region true c65r0 [0,1]) (.seq (.region true c65r1 [0,1,5]) (.seq (.seq (.region true c65r2 [1,5,11,12,13]) c65k10) (.seq (.region true c65r11 [5]) (.seq (.region true c65r12 [4]) .ret)))))
def g65 : AFn := ⟨2,[(4,none)],c65,true,[],[],none⟩
theorem tr65 : trFn Tryz.prog true 65 Tryz.f65 = some g65 := by kernel_rfl
def c66r0 : List AOper := [
 ⟨some 4,(.nilsl (some 4)),[],none⟩]
def c66r1 : List AOper := [
 ⟨some 8,.mv,[.t 0],none⟩,
 ⟨some 9,.len,[.t 8],none⟩,
 ⟨some 10,(.bin .lss),[.t 9,.c (.pv none (.int .i64 2))],none⟩]
def c66r2 : List AOper := [
 ⟨some 11,.mv,[.t 0],none⟩,
 ⟨some 4,.mv,[.t 11],none⟩]
def c66k3 : ACode := (.cond (.t 10) (.seq (.region true c66r2 [4]) .ret) .skip)
def c66r4 : List AOper := [
 ⟨some 5,.mv,[.c (.pv none (.int .i64 1))],none⟩]
def c66r5 : List AOper := [
 ⟨some 12,.mv,[.t 5],none⟩,
 ⟨some 13,.mv,[.t 0],none⟩,
 ⟨some 14,.len,[.t 13],none⟩,
 ⟨some 15,(.bin .lss),[.t 12,.t 14],none⟩]
def c66k6 : ACode := (.cond (.t 15) .skip (.exit 0))
def c66r7 : List AOper := [
 ⟨some 18,.mv,[.t 1],none⟩,
 ⟨some 19,.mv,[.t 0],none⟩,
 ⟨some 20,.mv,[.t 5],none⟩,
 ⟨some 21,(.iaddr (some 4)),[.t 19,.t 20],none⟩,
 ⟨some 22,(.load (some 4)),[.t 21],none⟩,
 ⟨some 23,.mv,[.t 0],none⟩,
 ⟨some 24,.mv,[.t 5],none⟩,
 ⟨some 25,(.bin .sub),[.t 24,.c (.pv none (.int .i64 1))],none⟩,
 ⟨some 26,(.iaddr (some 4)),[.t 23,.t 25],none⟩,
 ⟨some 27,(.load (some 4)),[.t 26],none⟩,
 ⟨some 28,.call,[.t 18,.t 22,.t 27],none⟩]
def c66r8 : List AOper := [
 ⟨some 29,.mv,[.t 0],none⟩,
 ⟨some 30,.mv,[.t 5],none⟩,
 ⟨some 31,(.slice (some 4) true false),[.t 29,.t 30],none⟩,
 ⟨some 6,.mv,[.t 31],none⟩]
def c66r9 : List AOper := [
 ⟨some 7,.mv,[.c (.pv none (.int .i64 1))],none⟩]
def c66r10 : List AOper := [
 ⟨some 32,.mv,[.t 7],none⟩,
 ⟨some 33,.mv,[.t 6],none⟩,
 ⟨some 34,.len,[.t 33],none⟩,
 ⟨some 35,(.bin .lss),[.t 32,.t 34],none⟩]
def c66k11 : ACode := (.cond (.t 35) .skip (.exit 2))
def c66r12 : List AOper := [
 ⟨some 38,.mv,[.t 1],none⟩,
 ⟨some 39,.mv,[.t 6],none⟩,
 ⟨some 40,.mv,[.t 7],none⟩,
 ⟨some 41,(.iaddr (some 4)),[.t 39,.t 40],none⟩,
 ⟨some 42,(.load (some 4)),[.t 41],none⟩,
 ⟨some 43,.mv,[.t 6],none⟩,
 ⟨some 44,.mv,[.t 7],none⟩,
 ⟨some 45,(.bin .sub),[.t 44,.c (.pv none (.int .i64 1))],none⟩,
 ⟨some 46,(.iaddr (some 4)),[.t 43,.t 45],none⟩,
 ⟨some 47,(.load (some 4)),[.t 46],none⟩,
 ⟨some 48,.call,[.t 38,.t 42,.t 47],none⟩,
 ⟨some 49,.not,[.t 48],none⟩]
def c66r13 : List AOper := [
 ⟨some 50,.mv,[.t 0],none⟩,
 ⟨some 51,.mv,[.t 5],none⟩,
 ⟨some 52,.mv,[.t 6],none⟩,
 ⟨some 53,.mv,[.t 7],none⟩,
 ⟨some 54,(.iaddr (some 4)),[.t 52,.t 53],none⟩,
 ⟨some 55,(.load (some 4)),[.t 54],none⟩,
 ⟨some 56,(.iaddr (some 4)),[.t 50,.t 51],none⟩,
 ⟨none,(.store (some 4)),[.t 56,.t 55],none⟩]
def c66r14 : List AOper := [
 ⟨some 57,.mv,[.t 5],none⟩,
 ⟨some 58,(.bin .add),[.t 57,.c (.pv none (.int .i64 1))],none⟩,
 ⟨some 5,.mv,[.t 58],none⟩]
def c66k15 : ACode := (.cond (.t 49) (.seq (.region true c66r13 [0,1,5,6,7]) (.region true c66r14 [0,1,5,6,7])) .skip)
def c66k16 : ACode := (.block 3 (.seq (.region true c66r12 [0,1,5,6,7,49]) c66k15))
def c66r17 : List AOper := [
 ⟨some 36,.mv,[.t 7],none⟩,
 ⟨some 37,(.bin .add),[.t 36,.c (.pv none (.int .i64 1))],none⟩,
 ⟨some 7,.mv,[.t 37],none⟩]
def c66b18 : ACode := (.seq (.seq (.region true c66r10 [0,1,5,6,7,35]) c66k11) (.seq c66k16 (.region true c66r17 [0,1,5,6,7])))
def c66k19 : ACode := (.block 2 (.loop [0,1,5,6,7] c66b18))
def c66r20 : List AOper := [
 ⟨some 59,.mv,[.t 0],none⟩,
 ⟨some 60,.mv,[.t 5],none⟩,
 ⟨some 61,(.slice (some 4) true false),[.t 59,.t 60],none⟩,
 ⟨none,(.clear (some 4) (.agg [(none,(.int .i64 0)),(none,(.int .i64 0)),(none,(.str [])),(none,(.sl (some 4) []))])),[.t 61],none⟩]
def c66r21 : List AOper := [
 ⟨some 62,.mv,[.t 0],none⟩,
 ⟨some 63,.mv,[.t 5],none⟩,
 ⟨some 64,(.slice (some 4) false true),[.t 62,.t 63],none⟩,
 ⟨some 4,.mv,[.t 64],none⟩]
def c66k22 : ACode := (.cond (.t 28) (.seq (.region true c66r8 [0,1,5,6]) (.seq (.seq (.region true c66r9 [0,1,5,6,7]) c66k19) (.seq (.region true c66r20 [0,5]) (.seq (.region true c66r21 [4]) .ret)))) .skip)
def c66k23 : ACode := (.block 1 (.seq (.region true c66r7 [0,1,5,28]) c66k22))
def c66r24 : List AOper := [
 ⟨some 16,.mv,[.t 5],none⟩,
 ⟨some 17,(.bin .add),[.t 16,.c (.pv none (.int .i64 1))],none⟩,
 ⟨some 5,.mv,[.t 17],none⟩]
def c66b25 : ACode := (.seq (.seq (.region true c66r5 [0,1,5,15]) c66k6) (.seq c66k23 (.region true c66r24 [0,1,5])))
def c66k26 : ACode := (.block 0 (.loop [0,1,5] c66b25))
def c66r27 : List AOper := [
 ⟨some 65,.mv,[.t 0],none⟩,
 ⟨some 4,.mv,[.t 65],none⟩]
def c66 : ACode := (.seq (.region true c66r0 [0,1]) (.seq (.seq (.region true c66r1 [0,1,10]) c66k3) (.seq (.seq (.region true c66r4 [0,1,5]) c66k26) (.seq (.region true c66r27 [4]) .ret))))
def g66 : AFn := ⟨2,[(4,none)],c66,true,[],[],none⟩
theorem tr66 : trFn Tryz.prog true 66 Tryz.f66 = some g66 := by kernel_rfl
def c67r0 : List AOper := [
 ⟨some 2,(.box (some 4)),[.t 0],none⟩,
 ⟨some 3,(.box (some 4)),[.t 1],none⟩,
 ⟨some 4,.mv,[.c (.pv none (.bool false))],none⟩]
def c67r1 : List AOper := [
 ⟨some 5,(.load (some 4)),[.t 2],none⟩,
 ⟨some 6,(.load (some 4)),[.t 3],none⟩,
 ⟨some 7,.call,[.c (.pv none (.func (.func 44))),.t 5,.t 6],none⟩,
 ⟨some 8,(.bin .eql),[.t 7,.c (.pv none (.int .i64 0))],none⟩,
 ⟨some 4,.mv,[.t 8],none⟩]
def c67 : ACode := (.seq (.region true c67r0 [2,3]) (.seq (.region true c67r1 [4]) .ret))
def g67 : AFn := ⟨2,[(4,none)],c67,false,[],[],none⟩
theorem tr67 : trFn Tryz.prog false 67 Tryz.f67 = some g67 := by kernel_rfl
def c68r0 : List AOper := [
 ⟨some 2,(.box (some 4)),[.t 0],none⟩,
 ⟨some 3,(.box (some 4)),[.t 1],none⟩,
 ⟨some 4,.mv,[.c (.pv none (.int .i64 0))],none⟩]
def c68r1 : List AOper := [
 ⟨some 5,(.faddr 3),[.t 2],none⟩,
 ⟨some 6,(.load none),[.t 5],none⟩,
 ⟨some 7,(.iaddr (some 4)),[.t 6,.c (.pv none (.int .i64 0))],none⟩,
 ⟨some 8,(.load (some 4)),[.t 7],none⟩,
 ⟨some 9,(.faddr 3),[.t 3],none⟩,
 ⟨some 10,(.load none),[.t 9],none⟩,
 ⟨some 11,(.iaddr (some 4)),[.t 10,.c (.pv none (.int .i64 0))],none⟩,
 ⟨some 12,(.load (some 4)),[.t 11],none⟩,
 ⟨some 13,.call,[.c (.pv none (.func (.func 44))),.t 8,.t 12],none⟩,
 ⟨some 4,.mv,[.t 13],none⟩]
def c68 : ACode := (.seq (.region true c68r0 [2,3]) (.seq (.region true c68r1 [4]) .ret))
def g68 : AFn := ⟨2,[(4,none)],c68,false,[],[],none⟩
theorem tr68 : trFn Tryz.prog false 68 Tryz.f68 = some g68 := by kernel_rfl
def c69r0 : List AOper := [
 ⟨some 0,(.alloc (some 4) (.agg [(none,(.pv none (.int .i64 0))),(none,(.pv none (.int .i64 0))),(none,(.pv none (.str []))),(none,(.tsl (some 4) []))])),[],none⟩]
def c69r1 : List AOper := [
 ⟨some 1,.call,[.c (.pv none (.func (.func 114))),.c (.pv none (.str [105,110,115,116,97,110,116,105,97,116,105,111,110,95,101,114,114,111,114])),.c (.tsl (some 4) [])],none⟩,
 ⟨none,(.store (some 4)),[.t 0,.t 1],none⟩]
def c69 : ACode := (.seq (.region true c69r0 [0]) (.seq (.region true c69r1 [0]) .ret))
def g69 : AFn := ⟨0,[(0,some (some 4))],c69,false,[],[],none⟩
theorem tr69 : trFn Tryz.prog false 69 Tryz.f69 = some g69 := by kernel_rfl
def c70r0 : List AOper := [
 ⟨some 3,(.box (some 4)),[.t 1],none⟩,
 ⟨some 4,(.alloc (some 4) (.agg [(none,(.pv none (.int .i64 0))),(none,(.pv none (.int .i64 0))),(none,(.pv none (.str []))),(none,(.tsl (some 4) []))])),[],none⟩]
def c70r1 : List AOper := [
 ⟨some 5,(.load (some 4)),[.t 3],none⟩,
 ⟨some 6,.mv,[.t 0],none⟩,
 ⟨some 7,(.bslice none),[.t 6],none⟩,
 ⟨some 8,.call,[.c (.pv none (.func (.func 115))),.t 5,.c (.pv none (.str [116,121,112,101,95,101,114,114,111,114])),.t 7],none⟩,
 ⟨none,(.store (some 4)),[.t 4,.t 8],none⟩]
def c70 : ACode := (.seq (.region true c70r0 [0,3,4]) (.seq (.region true c70r1 [4]) .ret))
def g70 : AFn := ⟨2,[(4,some (some 4))],c70,false,[],[],none⟩
theorem tr70 : trFn Tryz.prog false 70 Tryz.f70 = some g70 := by kernel_rfl
def c71r0 : List AOper := [
 ⟨some 1,(.box (some 4)),[.t 0],none⟩,
 ⟨some 2,.mv,[.c (.pv none (.bool false))],none⟩]
def c71r1 : List AOper := [
 ⟨some 3,(.faddr 0),[.t 1],none⟩,
 ⟨some 4,(.load none),[.t 3],none⟩,
 ⟨some 5,(.bin .eql),[.t 4,.c (.pv none (.int .i64 0))],none⟩,
 ⟨some 2,.mv,[.t 5],none⟩]
def c71 : ACode := (.seq (.region true c71r0 [1]) (.seq (.region true c71r1 [2]) .ret))
def g71 : AFn := ⟨1,[(2,none)],c71,false,[],[],none⟩
theorem tr71 : trFn Tryz.prog false 71 Tryz.f71 = some g71 := by kernel_rfl
def c72r0 : List AOper := [
 ⟨some 1,(.box (some 4)),[.t 0],none⟩,
 ⟨some 2,.mv,[.c (.pv none (.bool false))],none⟩]
def c72r1 : List AOper := [
 ⟨some 3,(.load (some 4)),[.t 1],none⟩,
 ⟨some 4,.call,[.c (.pv none (.func (.func 71))),.t 3],none⟩,
 ⟨some 5,.not,[.t 4],none⟩,
 ⟨some 2,.mv,[.t 5],none⟩]
def c72 : ACode := (.seq (.region true c72r0 [1]) (.seq (.region true c72r1 [2]) .ret))
def g72 : AFn := ⟨1,[(2,none)],c72,false,[],[],none⟩
theorem tr72 : trFn Tryz.prog false 72 Tryz.f72 = some g72 := by kernel_rfl
def c73r0 : List AOper := [
 ⟨some 1,(.box (some 4)),[.t 0],none⟩,
 ⟨some 2,.mv,[.c (.pv none (.bool false))],none⟩]
def c73r1 : List AOper := [
 ⟨some 3,(.faddr 0),[.t 1],none⟩,
 ⟨some 4,(.load none),[.t 3],none⟩,
 ⟨some 5,(.bin .eql),[.t 4,.c (.pv none (.int .i64 2))],none⟩,
 ⟨some 2,.mv,[.t 5],none⟩]
def c73 : ACode := (.seq (.region true c73r0 [1]) (.seq (.region true c73r1 [2]) .ret))
def g73 : AFn := ⟨1,[(2,none)],c73,false,[],[],none⟩
theorem tr73 : trFn Tryz.prog false 73 Tryz.f73 = some g73 := by kernel_rfl
def c74r0 : List AOper := [
 ⟨some 1,(.box (some 4)),[.t 0],none⟩,
 ⟨some 2,.mv,[.c (.pv none (.bool false))],none⟩]
def c74r1 : List AOper := [
 ⟨some 3,(.faddr 0),[.t 1],none⟩,
 ⟨some 4,(.load none),[.t 3],none⟩,
 ⟨some 5,(.bin .eql),[.t 4,.c (.pv none (.int .i64 1))],none⟩,
 ⟨some 2,.mv,[.t 5],none⟩]
def c74 : ACode := (.seq (.region true c74r0 [1]) (.seq (.region true c74r1 [2]) .ret))
def g74 : AFn := ⟨1,[(2,none)],c74,false,[],[],none⟩
theorem tr74 : trFn Tryz.prog false 74 Tryz.f74 = some g74 := by kernel_rfl
def c75r0 : List AOper := [
 ⟨some 1,(.box (some 4)),[.t 0],none⟩,
 ⟨some 2,.mv,[.c (.pv none (.bool false))],none⟩]
def c75r1 : List AOper := [
 ⟨some 3,(.load (some 4)),[.t 1],none⟩,
 ⟨some 4,.call,[.c (.pv none (.func (.func 73))),.t 3],none⟩,
 ⟨some 5,.mv,[.t 4],none⟩,
 ⟨some 6,(.load (some 4)),[.t 1],some (5,false)⟩,
 ⟨some 7,.call,[.c (.pv none (.func (.func 74))),.t 6],some (5,false)⟩,
 ⟨some 8,.pick,[.t 5,.c (.pv none (.bool true)),.t 7],none⟩,
 ⟨some 2,.mv,[.t 8],none⟩]
def c75 : ACode := (.seq (.region true c75r0 [1]) (.seq (.region true c75r1 [2]) .ret))
def g75 : AFn := ⟨1,[(2,none)],c75,false,[],[],none⟩
theorem tr75 : trFn Tryz.prog false 75 Tryz.f75 = some g75 := by kernel_rfl
def c76r0 : List AOper := [
 ⟨some 1,(.box (some 4)),[.t 0],none⟩,
 ⟨some 2,.mv,[.c (.pv none (.bool false))],none⟩]
def c76r1 : List AOper := [
 ⟨some 3,(.load (some 4)),[.t 1],none⟩,
 ⟨some 4,.call,[.c (.pv none (.func (.func 73))),.t 3],none⟩,
 ⟨some 5,.mv,[.t 4],none⟩,
 ⟨some 6,(.load (some 4)),[.t 1],some (5,false)⟩,
 ⟨some 7,.call,[.c (.pv none (.func (.func 47))),.t 6],some (5,false)⟩,
 ⟨some 8,.pick,[.t 5,.c (.pv none (.bool true)),.t 7],none⟩,
 ⟨some 2,.mv,[.t 8],none⟩]
def c76 : ACode := (.seq (.region true c76r0 [1]) (.seq (.region true c76r1 [2]) .ret))
def g76 : AFn := ⟨1,[(2,none)],c76,false,[],[],none⟩
theorem tr76 : trFn Tryz.prog false 76 Tryz.f76 = some g76 := by kernel_rfl
def c77r0 : List AOper := [
 ⟨some 1,(.box (some 4)),[.t 0],none⟩,
 ⟨some 2,.mv,[.c (.pv none (.bool false))],none⟩]
def c77r1 : List AOper := [
 ⟨some 6,(.load (some 4)),[.t 1],none⟩,
 ⟨some 7,.call,[.c (.pv none (.func (.func 116))),.t 6],none⟩,
 ⟨some 5,.mv,[.t 7],none⟩,
 ⟨some 8,(.extract 0),[.t 5],none⟩,
 ⟨some 9,(.extract 1),[.t 5],none⟩,
 ⟨some 4,(.alloc (some 4) (.agg [(none,(.pv none (.int .i64 0))),(none,(.pv none (.int .i64 0))),(none,(.pv none (.str []))),(none,(.tsl (some 4) []))])),[],none⟩,
 ⟨some 3,.mv,[.t 8],none⟩,
 ⟨none,(.store (some 4)),[.t 4,.t 9],none⟩]
def c77r2 : List AOper := [
 ⟨some 10,(.load (some 4)),[.t 4],none⟩,
 ⟨some 11,.call,[.c (.pv none (.func (.func 117))),.t 10],none⟩,
 ⟨some 2,.mv,[.t 11],none⟩]
def c77 : ACode := (.seq (.region true c77r0 [1]) (.seq (.region true c77r1 [4]) (.seq (.region true c77r2 [2]) .ret)))
def g77 : AFn := ⟨1,[(2,none)],c77,false,[],[],none⟩
theorem tr77 : trFn Tryz.prog false 77 Tryz.f77 = some g77 := by kernel_rfl
def c78r0 : List AOper := [
 ⟨some 1,(.box (some 4)),[.t 0],none⟩,
 ⟨some 2,.mv,[.c (.pv none (.bool false))],none⟩]
def c78r1 : List AOper := [
 ⟨some 3,(.load (some 4)),[.t 1],none⟩,
 ⟨some 4,.call,[.c (.pv none (.func (.func 49))),.t 3],none⟩,
 ⟨some 5,.len,[.t 4],none⟩,
 ⟨some 6,(.bin .eql),[.t 5,.c (.pv none (.int .i64 0))],none⟩,
 ⟨some 2,.mv,[.t 6],none⟩]
def c78 : ACode := (.seq (.region true c78r0 [1]) (.seq (.region true c78r1 [2]) .ret))
def g78 : AFn := ⟨1,[(2,none)],c78,false,[],[],none⟩
theorem tr78 : trFn Tryz.prog false 78 Tryz.f78 = some g78 := by kernel_rfl
def c79r0 : List AOper := [
 ⟨some 2,.mv,[.c (.pv none (.bool false))],none⟩]
def c79r1 : List AOper := [
 ⟨some 3,.mv,[.t 0],none⟩,
 ⟨some 4,(.bin .eql),[.t 3,.c (.pv none (.int .i64 0))],none⟩,
 ⟨some 2,.mv,[.t 4],none⟩]
def c79 : ACode := (.seq (.region true c79r0 [0]) (.seq (.region true c79r1 [2]) .ret))
def g79 : AFn := ⟨1,[(2,none)],c79,false,[],[],none⟩
theorem tr79 : trFn Tryz.prog false 79 Tryz.f79 = some g79 := by kernel_rfl
def c80r0 : List AOper := [
 ⟨some 2,.mv,[.c (.pv none (.bool false))],none⟩]
def c80r1 : List AOper := [
 ⟨some 3,.mv,[.t 0],none⟩,
 ⟨some 4,(.bin .neq),[.t 3,.c (.pv none (.int .i64 0))],none⟩,
 ⟨some 2,.mv,[.t 4],none⟩]
def c80 : ACode := (.seq (.region true c80r0 [0]) (.seq (.region true c80r1 [2]) .ret))
def g80 : AFn := ⟨1,[(2,none)],c80,false,[],[],none⟩
theorem tr80 : trFn Tryz.prog false 80 Tryz.f80 = some g80 := by kernel_rfl
def c81r0 : List AOper := [
 ⟨some 2,.mv,[.c (.pv none (.bool false))],none⟩]
def c81r1 : List AOper := [
 ⟨some 3,.mv,[.t 0],none⟩,
 ⟨some 4,(.bin .lss),[.t 3,.c (.pv none (.int .i64 0))],none⟩,
 ⟨some 2,.mv,[.t 4],none⟩]
def c81 : ACode := (.seq (.region true c81r0 [0]) (.seq (.region true c81r1 [2]) .ret))
def g81 : AFn := ⟨1,[(2,none)],c81,false,[],[],none⟩
theorem tr81 : trFn Tryz.prog false 81 Tryz.f81 = some g81 := by kernel_rfl
def c82r0 : List AOper := [
 ⟨some 2,.mv,[.c (.pv none (.bool false))],none⟩]
def c82r1 : List AOper := [
 ⟨some 3,.mv,[.t 0],none⟩,
 ⟨some 4,(.bin .leq),[.t 3,.c (.pv none (.int .i64 0))],none⟩,
 ⟨some 2,.mv,[.t 4],none⟩]
def c82 : ACode := (.seq (.region true c82r0 [0]) (.seq (.region true c82r1 [2]) .ret))
def g82 : AFn := ⟨1,[(2,none)],c82,false,[],[],none⟩
theorem tr82 : trFn Tryz.prog false 82 Tryz.f82 = some g82 := by kernel_rfl
def c83r0 : List AOper := [
 ⟨some 2,.mv,[.c (.pv none (.bool false))],none⟩]
def c83r1 : List AOper := [
 ⟨some 3,.mv,[.t 0],none⟩,
 ⟨some 4,(.bin .gtr),[.t 3,.c (.pv none (.int .i64 0))],none⟩,
 ⟨some 2,.mv,[.t 4],none⟩]
def c83 : ACode := (.seq (.region true c83r0 [0]) (.seq (.region true c83r1 [2]) .ret))
def g83 : AFn := ⟨1,[(2,none)],c83,false,[],[],none⟩
theorem tr83 : trFn Tryz.prog false 83 Tryz.f83 = some g83 := by kernel_rfl
def c84r0 : List AOper := [
 ⟨some 2,.mv,[.c (.pv none (.bool false))],none⟩]
def c84r1 : List AOper := [
 ⟨some 3,.mv,[.t 0],none⟩,
 ⟨some 4,(.bin .geq),[.t 3,.c (.pv none (.int .i64 0))],none⟩,
 ⟨some 2,.mv,[.t 4],none⟩]
def c84 : ACode := (.seq (.region true c84r0 [0]) (.seq (.region true c84r1 [2]) .ret))
def g84 : AFn := ⟨1,[(2,none)],c84,false,[],[],none⟩
theorem tr84 : trFn Tryz.prog false 84 Tryz.f84 = some g84 := by kernel_rfl
def c85r0 : List AOper := [
 ⟨some 4,.mv,[.c (.pv none (.int .i64 0))],none⟩]
def c85r1 : List AOper := [
 ⟨some 6,.mv,[.t 0],none⟩,
 ⟨some 7,.len,[.t 6],none⟩,
 ⟨some 8,.mv,[.c (.pv none (.int .i64 0))],none⟩]
def c85r2 : List AOper := [
 ⟨some 9,(.bin .lss),[.t 8,.t 7],none⟩]
def c85k3 : ACode := (.cond (.t 9) .skip (.exit 0))
def c85r4 : List AOper := [
 ⟨some 10,.mv,[.t 8],none⟩,
 ⟨some 5,.mv,[.t 10],none⟩]
def c85r5 : List AOper := [
 ⟨some 11,.mv,[.t 1],none⟩,
 ⟨some 12,.mv,[.t 0],none⟩,
 ⟨some 13,.mv,[.t 5],none⟩,
 ⟨some 14,(.iaddr none),[.t 12,.t 13],none⟩,
 ⟨some 15,(.load none),[.t 14],none⟩,
 ⟨some 16,(.bin .eql),[.t 11,.t 15],none⟩]
def c85r6 : List AOper := [
 ⟨some 17,.mv,[.t 5],none⟩,
 ⟨some 4,.mv,[.t 17],none⟩]
def c85k7 : ACode := (.cond (.t 16) (.seq (.region true c85r6 [4]) .ret) .skip)
def c85k8 : ACode := (.block 1 (.seq (.region true c85r4 [0,1,5,7,8]) (.seq (.region true c85r5 [0,1,5,7,8,16]) c85k7)))
def c85r9 : List AOper := [
 ⟨some 18,(.bin .add),[.t 8,.c (.pv none (.int .i64 1))],none⟩,
 ⟨some 8,.mv,[.t 18],none⟩]
def c85b10 : ACode := (.seq (.region true c85r2 [0,1,7,8,9]) (.seq c85k3 (.seq c85k8 (.region true c85r9 [0,1,7,8]))))
def c85k11 : ACode := (.block 0 (.loop [0,1,7,8] c85b10))
def c85r12 : List AOper := [
 ⟨some 4,.mv,[.c (.pv none (.int .i64 (-1)))],none⟩]
def c85 : ACode := (.seq (.region true c85r0 [0,1]) (.seq (.seq (.region true c85r1 [0,1,7,8]) c85k11) (.seq (.region true c85r12 [4]) .ret)))
def g85 : AFn := ⟨2,[(4,none)],c85,false,[],[],none⟩
theorem tr85 : trFn Tryz.prog false 85 Tryz.f85 = some g85 := by kernel_rfl
def c86r0 : List AOper := [
 ⟨some 1,(.box (some 4)),[.t 0],none⟩,
 ⟨some 2,.mv,[.c (.pv none (.int .i64 0))],none⟩]
def c86r1 : List AOper := [
 ⟨some 3,(.alloc none (.pv none (.int .i64 0))),[],none⟩,
 ⟨none,(.store none),[.t 3,.c (.pv none (.int .i64 2001))],none⟩]
def c86r2 : List AOper := [
 ⟨some 4,(.alloc none (.pv none .nilfunc)),[],none⟩]
def c86r3 : List AOper := [
 ⟨some 5,(.mkfunc (.func 118) 0),[.t 3,.t 4],none⟩,
 ⟨none,(.store none),[.t 4,.t 5],none⟩]
def c86r4 : List AOper := [
 ⟨some 6,(.load none),[.t 4],none⟩,
 ⟨some 7,(.load (some 4)),[.t 1],none⟩,
 ⟨some 8,.call,[.t 6,.t 7],none⟩]
def c86r5 : List AOper := [
 ⟨some 9,(.load none),[.t 3],none⟩,
 ⟨some 10,(.bin .sub),[.c (.pv none (.int .i64 2001)),.t 9],none⟩,
 ⟨some 2,.mv,[.t 10],none⟩]
def c86 : ACode := (.seq (.region true c86r0 [1]) (.seq (.region true c86r1 [1,3]) (.seq (.region true c86r2 [1,3,4]) (.seq (.region true c86r3 [1,3,4]) (.seq (.region true c86r4 [3]) (.seq (.region true c86r5 [2]) .ret))))))
def g86 : AFn := ⟨1,[(2,none)],c86,false,[],[],none⟩
theorem tr86 : trFn Tryz.prog false 86 Tryz.f86 = some g86 := by kernel_rfl
def c87r0 : List AOper := [
 ⟨some 1,(.box (some 4)),[.t 0],none⟩,
 ⟨some 2,.mv,[.c (.pv none (.bool false))],none⟩]
def c87r1 : List AOper := [
 ⟨some 3,.mv,[.c (.pv none (.bool false))],none⟩]
def c87r2 : List AOper := [
 ⟨some 5,(.faddr 0),[.t 1],none⟩,
 ⟨some 6,(.load none),[.t 5],none⟩]
def c87r3 : List AOper := [
 ⟨some 8,(.bin .eql),[.t 6,.c (.pv none (.int .i64 0))],none⟩,
 ⟨some 7,.mv,[.t 8],none⟩]
def c87r4 : List AOper := [
 ⟨some 9,(.faddr 1),[.t 1],none⟩,
 ⟨some 10,(.load none),[.t 9],none⟩,
 ⟨some 11,(.bin .geq),[.t 10,.c (.pv none (.int .i64 0))],none⟩,
 ⟨some 12,.mv,[.t 11],none⟩,
 ⟨some 13,(.faddr 1),[.t 1],some (12,true)⟩,
 ⟨some 14,(.load none),[.t 13],some (12,true)⟩,
 ⟨some 15,(.bin .leq),[.t 14,.c (.pv none (.int .i64 1099511627776))],some (12,true)⟩,
 ⟨some 16,.pick,[.t 12,.t 15,.c (.pv none (.bool false))],none⟩,
 ⟨some 17,.mv,[.t 16],none⟩,
 ⟨some 18,(.faddr 2),[.t 1],some (17,true)⟩,
 ⟨some 19,(.load none),[.t 18],some (17,true)⟩,
 ⟨some 20,(.bin .eql),[.t 19,.c (.pv none (.str []))],some (17,true)⟩,
 ⟨some 21,.pick,[.t 17,.t 20,.c (.pv none (.bool false))],none⟩,
 ⟨some 22,.mv,[.t 21],none⟩,
 ⟨some 23,(.faddr 3),[.t 1],some (22,true)⟩,
 ⟨some 24,(.load none),[.t 23],some (22,true)⟩,
 ⟨some 25,.len,[.t 24],some (22,true)⟩,
 ⟨some 26,(.bin .eql),[.t 25,.c (.pv none (.int .i64 0))],some (22,true)⟩,
 ⟨some 27,.pick,[.t 22,.t 26,.c (.pv none (.bool false))],none⟩,
 ⟨some 3,.mv,[.t 27],none⟩]
def c87r5 : List AOper := [
 ⟨some 29,(.bin .eql),[.t 6,.c (.pv none (.int .i64 1))],none⟩,
 ⟨some 28,.mv,[.t 29],none⟩]
def c87r6 : List AOper := [
 ⟨some 30,(.faddr 2),[.t 1],none⟩,
 ⟨some 31,(.load none),[.t 30],none⟩,
 ⟨some 32,(.bin .eql),[.t 31,.c (.pv none (.str []))],none⟩,
 ⟨some 33,.mv,[.t 32],none⟩,
 ⟨some 34,(.faddr 3),[.t 1],some (33,true)⟩,
 ⟨some 35,(.load none),[.t 34],some (33,true)⟩,
 ⟨some 36,.len,[.t 35],some (33,true)⟩,
 ⟨some 37,(.bin .eql),[.t 36,.c (.pv none (.int .i64 0))],some (33,true)⟩,
 ⟨some 38,.pick,[.t 33,.t 37,.c (.pv none (.bool false))],none⟩,
 ⟨some 3,.mv,[.t 38],none⟩]
def c87r7 : List AOper := [
 ⟨some 40,(.bin .eql),[.t 6,.c (.pv none (.int .i64 2))],none⟩,
 ⟨some 39,.mv,[.t 40],none⟩]
def c87r8 : List AOper := [
 ⟨some 41,(.faddr 1),[.t 1],none⟩,
 ⟨some 42,(.load none),[.t 41],none⟩,
 ⟨some 43,(.bin .eql),[.t 42,.c (.pv none (.int .i64 0))],none⟩,
 ⟨some 44,.mv,[.t 43],none⟩,
 ⟨some 45,(.faddr 2),[.t 1],some (44,true)⟩,
 ⟨some 46,(.load none),[.t 45],some (44,true)⟩,
 ⟨some 47,.slen,[.t 46],some (44,true)⟩,
 ⟨some 48,(.bin .leq),[.t 47,.c (.pv none (.int .i64 100))],some (44,true)⟩,
 ⟨some 49,.pick,[.t 44,.t 48,.c (.pv none (.bool false))],none⟩,
 ⟨some 50,.mv,[.t 49],none⟩,
 ⟨some 51,(.faddr 3),[.t 1],some (50,true)⟩,
 ⟨some 52,(.load none),[.t 51],some (50,true)⟩,
 ⟨some 53,.len,[.t 52],some (50,true)⟩,
 ⟨some 54,(.bin .eql),[.t 53,.c (.pv none (.int .i64 0))],some (50,true)⟩,
 ⟨some 55,.pick,[.t 50,.t 54,.c (.pv none (.bool false))],none⟩,
 ⟨some 3,.mv,[.t 55],none⟩]
def c87r9 : List AOper := [
 ⟨some 57,(.bin .eql),[.t 6,.c (.pv none (.int .i64 3))],none⟩,
 ⟨some 56,.mv,[.t 57],none⟩]
def c87r10 : List AOper := [
 ⟨some 58,(.faddr 1),[.t 1],none⟩,
 ⟨some 59,(.load none),[.t 58],none⟩,
 ⟨some 60,(.bin .eql),[.t 59,.c (.pv none (.int .i64 0))],none⟩,
 ⟨some 61,.mv,[.t 60],none⟩,
 ⟨some 62,(.faddr 2),[.t 1],some (61,true)⟩,
 ⟨some 63,(.load none),[.t 62],some (61,true)⟩,
 ⟨some 64,.slen,[.t 63],some (61,true)⟩,
 ⟨some 65,(.bin .leq),[.t 64,.c (.pv none (.int .i64 100))],some (61,true)⟩,
 ⟨some 66,.pick,[.t 61,.t 65,.c (.pv none (.bool false))],none⟩,
 ⟨some 67,.mv,[.t 66],none⟩,
 ⟨some 68,(.faddr 3),[.t 1],some (67,true)⟩,
 ⟨some 69,(.load none),[.t 68],some (67,true)⟩,
 ⟨some 70,.len,[.t 69],some (67,true)⟩,
 ⟨some 71,(.bin .gtr),[.t 70,.c (.pv none (.int .i64 0))],some (67,true)⟩,
 ⟨some 72,.pick,[.t 67,.t 71,.c (.pv none (.bool false))],none⟩,
 ⟨some 73,.mv,[.t 72],none⟩,
 ⟨some 74,(.faddr 3),[.t 1],some (73,true)⟩,
 ⟨some 75,(.load none),[.t 74],some (73,true)⟩,
 ⟨some 76,.len,[.t 75],some (73,true)⟩,
 ⟨some 77,(.bin .leq),[.t 76,.c (.pv none (.int .i64 8))],some (73,true)⟩,
 ⟨some 78,.pick,[.t 73,.t 77,.c (.pv none (.bool false))],none⟩,
 ⟨some 3,.mv,[.t 78],none⟩]
def c87k11 : ACode := (.cond (.t 56) (.region true c87r10 [1,3]) .skip)
def c87k12 : ACode := (.cond (.t 39) (.region true c87r8 [1,3]) (.seq (.region true c87r9 [1,3,56]) c87k11))
def c87k13 : ACode := (.cond (.t 28) (.region true c87r6 [1,3]) (.seq (.region true c87r7 [1,3,6,39]) c87k12))
def c87k14 : ACode := (.cond (.t 7) (.region true c87r4 [1,3]) (.seq (.region true c87r5 [1,3,6,28]) c87k13))
def c87k15 : ACode := (.block 0 (.seq (.region true c87r3 [1,3,6,7]) c87k14))
def c87r16 : List AOper := [
 ⟨some 4,.mv,[.c (.pv none (.int .i64 0))],none⟩]
def c87r17 : List AOper := [
 ⟨some 79,.mv,[.t 4],none⟩,
 ⟨some 80,(.faddr 3),[.t 1],none⟩,
 ⟨some 81,(.load none),[.t 80],none⟩,
 ⟨some 82,.len,[.t 81],none⟩,
 ⟨some 83,(.bin .lss),[.t 79,.t 82],none⟩,
 ⟨some 84,.mv,[.t 83],none⟩,
 ⟨some 85,.mv,[.t 3],some (84,true)⟩,
 ⟨some 86,.pick,[.t 84,.t 85,.c (.pv none (.bool false))],none⟩]
def c87k18 : ACode := (.cond (.t 86) .skip (.exit 1))
def c87r19 : List AOper := [
 ⟨some 89,(.faddr 3),[.t 1],none⟩,
 ⟨some 90,(.load none),[.t 89],none⟩,
 ⟨some 91,.mv,[.t 4],none⟩,
 ⟨some 92,(.iaddr (some 4)),[.t 90,.t 91],none⟩,
 ⟨some 93,(.load (some 4)),[.t 92],none⟩,
 ⟨some 94,.call,[.c (.pv none (.func (.func 87))),.t 93],none⟩,
 ⟨some 3,.mv,[.t 94],none⟩]
def c87k20 : ACode := (.block 2 (.region true c87r19 [1,3,4]))
def c87r21 : List AOper := [
 ⟨some 87,.mv,[.t 4],none⟩,
 ⟨some 88,(.bin .add),[.t 87,.c (.pv none (.int .i64 1))],none⟩,
 ⟨some 4,.mv,[.t 88],none⟩]
def c87b22 : ACode := (.seq (.seq (.region true c87r17 [1,3,4,86]) c87k18) (.seq c87k20 (.region true c87r21 [1,3,4])))
def c87k23 : ACode := (.block 1 (.loop [1,3,4] c87b22))
def c87r24 : List AOper := [
 ⟨some 95,.mv,[.t 3],none⟩,
 ⟨some 2,.mv,[.t 95],none⟩]
def c87 : ACode := (.seq (.region true c87r0 [1]) (.seq (.region true c87r1 [1,3]) (.seq (.seq (.region true c87r2 [1,3,6]) c87k15) (.seq (.seq (.region true c87r16 [1,3,4]) c87k23) (.seq (.region true c87r24 [2]) .ret)))))
def g87 : AFn := ⟨1,[(2,none)],c87,false,[],[],none⟩
theorem tr87 : trFn Tryz.prog false 87 Tryz.f87 = some g87 := by kernel_rfl
def c88r0 : List AOper := [
 ⟨some 4,.mv,[.c (.pv none (.int .i64 0))],none⟩]
def c88r1 : List AOper := [
 ⟨some 7,.mv,[.t 0],none⟩,
 ⟨some 8,.call,[.c (.pv none (.func (.func 119))),.t 7],none⟩,
 ⟨some 5,.mv,[.t 8],none⟩]
def c88r2 : List AOper := [
 ⟨some 9,.mv,[.t 1],none⟩,
 ⟨some 10,.call,[.c (.pv none (.func (.func 119))),.t 9],none⟩,
 ⟨some 6,.mv,[.t 10],none⟩]
def c88r3 : List AOper := [
 ⟨some 11,.mv,[.t 5],none⟩]
def c88r4 : List AOper := [
 ⟨some 12,.mv,[.t 6],none⟩]
def c88r5 : List AOper := [
 ⟨some 4,.mv,[.c (.pv none (.int .i64 0))],none⟩]
def c88k6 : ACode := (.cond (.t 12) (.seq (.region true c88r5 [4]) .ret) .skip)
def c88r7 : List AOper := [
 ⟨some 4,.mv,[.c (.pv none (.int .i64 (-1)))],none⟩]
def c88k8 : ACode := (.cond (.t 11) (.seq (.seq (.region true c88r4 [12]) c88k6) (.seq (.region true c88r7 [4]) .ret)) .skip)
def c88r9 : List AOper := [
 ⟨some 13,.mv,[.t 6],none⟩]
def c88r10 : List AOper := [
 ⟨some 4,.mv,[.c (.pv none (.int .i64 1))],none⟩]
def c88k11 : ACode := (.cond (.t 13) (.seq (.region true c88r10 [4]) .ret) .skip)
def c88r12 : List AOper := [
 ⟨some 14,.mv,[.t 0],none⟩,
 ⟨some 15,.mv,[.t 1],none⟩,
 ⟨some 16,(.bin .lss),[.t 14,.t 15],none⟩]
def c88r13 : List AOper := [
 ⟨some 4,.mv,[.c (.pv none (.int .i64 (-1)))],none⟩]
def c88k14 : ACode := (.cond (.t 16) (.seq (.region true c88r13 [4]) .ret) .skip)
def c88r15 : List AOper := [
 ⟨some 17,.mv,[.t 0],none⟩,
 ⟨some 18,.mv,[.t 1],none⟩,
 ⟨some 19,(.bin .gtr),[.t 17,.t 18],none⟩]
def c88r16 : List AOper := [
 ⟨some 4,.mv,[.c (.pv none (.int .i64 1))],none⟩]
def c88k17 : ACode := (.cond (.t 19) (.seq (.region true c88r16 [4]) .ret) .skip)
def c88r18 : List AOper := [
 ⟨some 4,.mv,[.c (.pv none (.int .i64 0))],none⟩]
def c88 : ACode := (.seq (.region true c88r0 [0,1]) (.seq (.region true c88r1 [0,1,5]) (.seq (.region true c88r2 [0,1,5,6]) (.seq (.seq (.region true c88r3 [0,1,6,11]) c88k8) (.seq (.seq (.region true c88r9 [0,1,13]) c88k11) (.seq (.seq (.region true c88r12 [0,1,16]) c88k14) (.seq (.seq (.region true c88r15 [19]) c88k17) (.seq (.region true c88r18 [4]) .ret))))))))
def g88 : AFn := ⟨2,[(4,none)],c88,false,[],[],none⟩
theorem tr88 : trFn Tryz.prog false 88 Tryz.f88 = some g88 := by kernel_rfl
def c89r0 : List AOper := [
 ⟨some 4,.mv,[.c (.pv none (.int .i64 0))],none⟩]
def c89r1 : List AOper := [
 ⟨some 7,.mv,[.t 0],none⟩,
 ⟨some 8,.call,[.c (.pv none (.func (.func 120))),.t 7],none⟩,
 ⟨some 5,.mv,[.t 8],none⟩]
def c89r2 : List AOper := [
 ⟨some 9,.mv,[.t 1],none⟩,
 ⟨some 10,.call,[.c (.pv none (.func (.func 120))),.t 9],none⟩,
 ⟨some 6,.mv,[.t 10],none⟩]
def c89r3 : List AOper := [
 ⟨some 11,.mv,[.t 5],none⟩]
def c89r4 : List AOper := [
 ⟨some 12,.mv,[.t 6],none⟩]
def c89r5 : List AOper := [
 ⟨some 4,.mv,[.c (.pv none (.int .i64 0))],none⟩]
def c89k6 : ACode := (.cond (.t 12) (.seq (.region true c89r5 [4]) .ret) .skip)
def c89r7 : List AOper := [
 ⟨some 4,.mv,[.c (.pv none (.int .i64 (-1)))],none⟩]
def c89k8 : ACode := (.cond (.t 11) (.seq (.seq (.region true c89r4 [12]) c89k6) (.seq (.region true c89r7 [4]) .ret)) .skip)
def c89r9 : List AOper := [
 ⟨some 13,.mv,[.t 6],none⟩]
def c89r10 : List AOper := [
 ⟨some 4,.mv,[.c (.pv none (.int .i64 1))],none⟩]
def c89k11 : ACode := (.cond (.t 13) (.seq (.region true c89r10 [4]) .ret) .skip)
def c89r12 : List AOper := [
 ⟨some 14,.mv,[.t 0],none⟩,
 ⟨some 15,.mv,[.t 1],none⟩,
 ⟨some 16,(.bin .lss),[.t 14,.t 15],none⟩]
def c89r13 : List AOper := [
 ⟨some 4,.mv,[.c (.pv none (.int .i64 (-1)))],none⟩]
def c89k14 : ACode := (.cond (.t 16) (.seq (.region true c89r13 [4]) .ret) .skip)
def c89r15 : List AOper := [
 ⟨some 17,.mv,[.t 0],none⟩,
 ⟨some 18,.mv,[.t 1],none⟩,
 ⟨some 19,(.bin .gtr),[.t 17,.t 18],none⟩]
def c89r16 : List AOper := [
 ⟨some 4,.mv,[.c (.pv none (.int .i64 1))],none⟩]
def c89k17 : ACode := (.cond (.t 19) (.seq (.region true c89r16 [4]) .ret) .skip)
def c89r18 : List AOper := [
 ⟨some 4,.mv,[.c (.pv none (.int .i64 0))],none⟩]
def c89 : ACode := (.seq (.region true c89r0 [0,1]) (.seq (.region true c89r1 [0,1,5]) (.seq (.region true c89r2 [0,1,5,6]) (.seq (.seq (.region true c89r3 [0,1,6,11]) c89k8) (.seq (.seq (.region true c89r9 [0,1,13]) c89k11) (.seq (.seq (.region true c89r12 [0,1,16]) c89k14) (.seq (.seq (.region true c89r15 [19]) c89k17) (.seq (.region true c89r18 [4]) .ret))))))))
def g89 : AFn := ⟨2,[(4,none)],c89,false,[],[],none⟩
theorem tr89 : trFn Tryz.prog false 89 Tryz.f89 = some g89 := by kernel_rfl
def c90r0 : List AOper := [
 ⟨some 4,.mv,[.c (.pv none (.int .i64 0))],none⟩]
def c90r1 : List AOper := [
 ⟨some 5,.mv,[.t 0],none⟩,
 ⟨some 6,.mv,[.t 1],none⟩,
 ⟨some 7,.call,[.c (.pv none (.func (.func 121))),.t 5,.t 6],none⟩,
 ⟨some 4,.mv,[.t 7],none⟩]
def c90 : ACode := (.seq (.region true c90r0 [0,1]) (.seq (.region true c90r1 [4]) .ret))
def g90 : AFn := ⟨2,[(4,none)],c90,false,[],[],none⟩
theorem tr90 : trFn Tryz.prog false 90 Tryz.f90 = some g90 := by kernel_rfl
def c91r0 : List AOper := [
 ⟨some 2,(.box (some 4)),[.t 0],none⟩,
 ⟨some 3,(.box (some 4)),[.t 1],none⟩,
 ⟨some 4,.mv,[.c (.pv none (.bool false))],none⟩]
def c91r1 : List AOper := [
 ⟨some 7,(.faddr 0),[.t 2],none⟩,
 ⟨some 8,(.load none),[.t 7],none⟩,
 ⟨some 9,(.faddr 0),[.t 3],none⟩,
 ⟨some 10,(.load none),[.t 9],none⟩,
 ⟨some 11,(.bin .neq),[.t 8,.t 10],none⟩,
 ⟨some 12,.mv,[.t 11],none⟩,
 ⟨some 13,(.faddr 1),[.t 2],some (12,false)⟩,
 ⟨some 14,(.load none),[.t 13],some (12,false)⟩,
 ⟨some 15,(.faddr 1),[.t 3],some (12,false)⟩,
 ⟨some 16,(.load none),[.t 15],some (12,false)⟩,
 ⟨some 17,(.bin .neq),[.t 14,.t 16],some (12,false)⟩,
 ⟨some 18,.pick,[.t 12,.c (.pv none (.bool true)),.t 17],none⟩,
 ⟨some 19,.mv,[.t 18],none⟩,
 ⟨some 20,(.faddr 2),[.t 2],some (19,false)⟩,
 ⟨some 21,(.load none),[.t 20],some (19,false)⟩,
 ⟨some 22,(.faddr 2),[.t 3],some (19,false)⟩,
 ⟨some 23,(.load none),[.t 22],some (19,false)⟩,
 ⟨some 24,(.bin .neq),[.t 21,.t 23],some (19,false)⟩,
 ⟨some 25,.pick,[.t 19,.c (.pv none (.bool true)),.t 24],none⟩,
 ⟨some 26,.mv,[.t 25],none⟩,
 ⟨some 27,(.faddr 3),[.t 2],some (26,false)⟩,
 ⟨some 28,(.load none),[.t 27],some (26,false)⟩,
 ⟨some 29,.len,[.t 28],some (26,false)⟩,
 ⟨some 30,(.faddr 3),[.t 3],some (26,false)⟩,
 ⟨some 31,(.load none),[.t 30],some (26,false)⟩,
 ⟨some 32,.len,[.t 31],some (26,false)⟩,
 ⟨some 33,(.bin .neq),[.t 29,.t 32],some (26,false)⟩,
 ⟨some 34,.pick,[.t 26,.c (.pv none (.bool true)),.t 33],none⟩]
def c91r2 : List AOper := [
 ⟨some 4,.mv,[.c (.pv none (.bool false))],none⟩]
def c91k3 : ACode := (.cond (.t 34) (.seq (.region true c91r2 [4]) .ret) .skip)
def c91r4 : List AOper := [
 ⟨some 35,(.faddr 3),[.t 2],none⟩,
 ⟨some 36,(.load none),[.t 35],none⟩,
 ⟨some 37,.len,[.t 36],none⟩,
 ⟨some 38,.mv,[.c (.pv none (.int .i64 0))],none⟩]
def c91r5 : List AOper := [
 ⟨some 39,(.bin .lss),[.t 38,.t 37],none⟩]
def c91k6 : ACode := (.cond (.t 39) .skip (.exit 0))
def c91r7 : List AOper := [
 ⟨some 40,.mv,[.t 38],none⟩,
 ⟨some 41,(.iaddr (some 4)),[.t 36,.t 38],none⟩,
 ⟨some 42,(.load (some 4)),[.t 41],none⟩,
 ⟨some 6,(.alloc (some 4) (.agg [(none,(.pv none (.int .i64 0))),(none,(.pv none (.int .i64 0))),(none,(.pv none (.str []))),(none,(.tsl (some 4) []))])),[],none⟩,
 ⟨some 5,.mv,[.t 40],none⟩,
 ⟨none,(.store (some 4)),[.t 6,.t 42],none⟩]
def c91r8 : List AOper := [
 ⟨some 43,(.load (some 4)),[.t 6],none⟩,
 ⟨some 44,(.faddr 3),[.t 3],none⟩,
 ⟨some 45,(.load none),[.t 44],none⟩,
 ⟨some 46,.mv,[.t 5],none⟩,
 ⟨some 47,(.iaddr (some 4)),[.t 45,.t 46],none⟩,
 ⟨some 48,(.load (some 4)),[.t 47],none⟩,
 ⟨some 49,.call,[.c (.pv none (.func (.func 91))),.t 43,.t 48],none⟩,
 ⟨some 50,.not,[.t 49],none⟩]
def c91r9 : List AOper := [
 ⟨some 4,.mv,[.c (.pv none (.bool false))],none⟩]
def c91k10 : ACode := (.cond (.t 50) (.seq (.region true c91r9 [4]) .ret) .skip)
def c91k11 : ACode := (.block 1 (.seq (.region true c91r7 [3,5,6,36,37,38]) (.seq (.region true c91r8 [3,36,37,38,50]) c91k10)))
def c91r12 : List AOper := [
 ⟨some 51,(.bin .add),[.t 38,.c (.pv none (.int .i64 1))],none⟩,
 ⟨some 38,.mv,[.t 51],none⟩]
def c91b13 : ACode := (.seq (.region true c91r5 [3,36,37,38,39]) (.seq c91k6 (.seq c91k11 (.region true c91r12 [3,36,37,38]))))
def c91k14 : ACode := (.block 0 (.loop [3,36,37,38] c91b13))
def c91r15 : List AOper := [
 ⟨some 4,.mv,[.c (.pv none (.bool true))],none⟩]
def c91 : ACode := (.seq (.region true c91r0 [2,3]) (.seq (.seq (.region true c91r1 [2,3,34]) c91k3) (.seq (.seq (.region true c91r4 [3,36,37,38]) c91k14) (.seq (.region true c91r15 [4]) .ret))))
def g91 : AFn := ⟨2,[(4,none)],c91,false,[],[],none⟩
theorem tr91 : trFn Tryz.prog false 91 Tryz.f91 = some g91 := by kernel_rfl
def c92r0 : List AOper := [
 ⟨some 2,(.box (some 4)),[.t 0],none⟩,
 ⟨some 4,(.alloc (some 4) (.agg [(none,(.pv none (.int .i64 0))),(none,(.pv none (.int .i64 0))),(none,(.pv none (.str []))),(none,(.tsl (some 4) []))])),[],none⟩]
def c92r1 : List AOper := [
 ⟨some 8,(.faddr 0),[.t 2],none⟩,
 ⟨some 9,(.load none),[.t 8],none⟩,
 ⟨some 10,(.bin .eql),[.t 9,.c (.pv none (.int .i64 0))],none⟩]
def c92r2 : List AOper := [
 ⟨some 11,.mv,[.t 1],none⟩,
 ⟨some 12,(.load (some 4)),[.t 2],none⟩,
 ⟨some 13,.call,[.t 11,.t 12],none⟩,
 ⟨none,(.store (some 4)),[.t 4,.t 13],none⟩]
def c92k3 : ACode := (.cond (.t 10) (.seq (.region true c92r2 [4]) .ret) .skip)
def c92r4 : List AOper := [
 ⟨some 14,(.faddr 0),[.t 2],none⟩,
 ⟨some 15,(.load none),[.t 14],none⟩,
 ⟨some 16,(.faddr 1),[.t 2],none⟩,
 ⟨some 17,(.load none),[.t 16],none⟩,
 ⟨some 18,(.faddr 2),[.t 2],none⟩,
 ⟨some 19,(.load none),[.t 18],none⟩,
 ⟨some 20,(.build [(none,(.pv none (.int .i64 0))),(none,(.pv none (.int .i64 0))),(none,(.pv none (.str []))),(none,(.tsl (some 4) []))] [0,1,2]),[.t 15,.t 17,.t 19],none⟩,
 ⟨some 5,(.alloc (some 4) (.agg [(none,(.pv none (.int .i64 0))),(none,(.pv none (.int .i64 0))),(none,(.pv none (.str []))),(none,(.tsl (some 4) []))])),[],none⟩,
 ⟨none,(.store (some 4)),[.t 5,.t 20],none⟩]
def c92r5 : List AOper := [
 ⟨some 21,(.faddr 3),[.t 2],none⟩,
 ⟨some 22,(.load none),[.t 21],none⟩,
 ⟨some 23,.len,[.t 22],none⟩,
 ⟨some 24,.mv,[.c (.pv none (.int .i64 0))],none⟩]
def c92r6 : List AOper := [
 ⟨some 25,(.bin .lss),[.t 24,.t 23],none⟩]
def c92k7 : ACode := (.cond (.t 25) .skip (.exit 0))
def c92r8 : List AOper := [
 ⟨some 26,(.iaddr (some 4)),[.t 22,.t 24],none⟩,
 ⟨some 27,(.load (some 4)),[.t 26],none⟩,
 ⟨some 7,(.alloc (some 4) (.agg [(none,(.pv none (.int .i64 0))),(none,(.pv none (.int .i64 0))),(none,(.pv none (.str []))),(none,(.tsl (some 4) []))])),[],none⟩,
 ⟨none,(.store (some 4)),[.t 7,.t 27],none⟩]
def c92r9 : List AOper := [
 ⟨some 28,(.faddr 3),[.t 5],none⟩,
 ⟨some 29,(.load none),[.t 28],none⟩,
 ⟨some 30,(.load (some 4)),[.t 7],none⟩,
 ⟨some 31,.mv,[.t 1],none⟩,
 ⟨some 32,(.calln 1),[.t 28,.c (.pv none (.func (.func 92))),.t 30,.t 31],none⟩,
 ⟨some 33,(.bslicen (some 4) 1),[.t 28,.t 32],none⟩,
 ⟨some 34,(.append (some 4)),[.t 29,.t 33],none⟩,
 ⟨some 35,(.faddr 3),[.t 5],none⟩,
 ⟨none,(.store none),[.t 35,.t 34],none⟩]
def c92k10 : ACode := (.block 1 (.seq (.region true c92r8 [1,4,5,7,22,23,24]) (.region false c92r9 [1,4,5,22,23,24])))
def c92r11 : List AOper := [
 ⟨some 36,(.bin .add),[.t 24,.c (.pv none (.int .i64 1))],none⟩,
 ⟨some 24,.mv,[.t 36],none⟩]
def c92b12 : ACode := (.seq (.region true c92r6 [1,4,5,22,23,24,25]) (.seq c92k7 (.seq c92k10 (.region true c92r11 [1,4,5,22,23,24]))))
def c92k13 : ACode := (.block 0 (.loop [1,4,5,22,23,24] c92b12))
def c92r14 : List AOper := [
 ⟨some 37,(.load (some 4)),[.t 5],none⟩,
 ⟨none,(.store (some 4)),[.t 4,.t 37],none⟩]
def c92 : ACode := (.seq (.region true c92r0 [1,2,4]) (.seq (.seq (.region true c92r1 [1,2,4,10]) c92k3) (.seq (.region true c92r4 [1,2,4,5]) (.seq (.seq (.region true c92r5 [1,4,5,22,23,24]) c92k13) (.seq (.region true c92r14 [4]) .ret)))))
def g92 : AFn := ⟨2,[(4,some (some 4))],c92,true,[],[],none⟩
theorem tr92 : trFn Tryz.prog true 92 Tryz.f92 = some g92 := by kernel_rfl
def c93r0 : List AOper := [
 ⟨some 2,(.box (some 4)),[.t 0],none⟩,
 ⟨some 3,(.alloc (some 4) (.agg [(none,(.pv none (.int .i64 0))),(none,(.pv none (.int .i64 0))),(none,(.pv none (.str []))),(none,(.tsl (some 4) []))])),[],none⟩]
def c93r1 : List AOper := [
 ⟨some 7,(.load none),[.t 1],none⟩,
 ⟨some 8,(.faddr 1),[.t 2],none⟩,
 ⟨some 9,(.load none),[.t 8],none⟩,
 ⟨some 10,(.lookup false none (.pv none (.int .i64 0)) true),[.t 7,.t 9],none⟩,
 ⟨some 6,.mv,[.t 10],none⟩,
 ⟨some 11,(.extract 0),[.t 6],none⟩,
 ⟨some 12,(.extract 1),[.t 6],none⟩,
 ⟨some 4,.mv,[.t 11],none⟩,
 ⟨some 5,.mv,[.t 12],none⟩]
def c93r2 : List AOper := [
 ⟨some 13,.mv,[.t 5],none⟩,
 ⟨some 14,.not,[.t 13],none⟩]
def c93r3 : List AOper := [
 ⟨some 15,(.load none),[.t 1],none⟩,
 ⟨some 16,.mlen,[.t 15],none⟩,
 ⟨some 4,.mv,[.t 16],none⟩]
def c93r4 : List AOper := [
 ⟨some 17,(.load none),[.t 1],none⟩,
 ⟨some 18,(.faddr 1),[.t 2],none⟩,
 ⟨some 19,(.load none),[.t 18],none⟩,
 ⟨some 20,.mv,[.t 4],none⟩,
 ⟨none,(.mapset false none),[.t 17,.t 19,.t 20],none⟩]
def c93k5 : ACode := (.cond (.t 14) (.seq (.region true c93r3 [1,2,3,4]) (.region true c93r4 [3,4])) .skip)
def c93r6 : List AOper := [
 ⟨some 21,.mv,[.t 4],none⟩,
 ⟨some 22,(.build [(none,(.pv none (.int .i64 0))),(none,(.pv none (.int .i64 0))),(none,(.pv none (.str []))),(none,(.tsl (some 4) []))] [1]),[.t 21],none⟩,
 ⟨none,(.store (some 4)),[.t 3,.t 22],none⟩]
def c93 : ACode := (.seq (.region true c93r0 [1,2,3]) (.seq (.region true c93r1 [1,2,3,4,5]) (.seq (.seq (.region true c93r2 [1,2,3,4,14]) c93k5) (.seq (.region true c93r6 [3]) .ret))))
def g93 : AFn := ⟨2,[(3,some (some 4))],c93,true,[],[],none⟩
theorem tr93 : trFn Tryz.prog true 93 Tryz.f93 = some g93 := by kernel_rfl
def c94r0 : List AOper := [
 ⟨some 3,(.box (some 4)),[.t 0],none⟩,
 ⟨some 4,(.alloc (some 4) (.agg [(none,(.pv none (.int .i64 0))),(none,(.pv none (.int .i64 0))),(none,(.pv none (.str []))),(none,(.tsl (some 4) []))])),[],none⟩]
def c94r1 : List AOper := [
 ⟨some 5,(.load none),[.t 1],none⟩,
 ⟨some 6,(.faddr 1),[.t 3],none⟩,
 ⟨some 7,(.load none),[.t 6],none⟩,
 ⟨some 8,(.lookup false none (.pv none (.int .i64 0)) false),[.t 5,.t 7],none⟩,
 ⟨some 9,(.bin .eql),[.t 8,.c (.pv none (.int .i64 0))],none⟩]
def c94r2 : List AOper := [
 ⟨some 10,(.load none),[.t 1],none⟩,
 ⟨some 11,(.faddr 1),[.t 3],none⟩,
 ⟨some 12,(.load none),[.t 11],none⟩,
 ⟨none,(.mapset false none),[.t 10,.t 12,.c (.pv none (.int .i64 1))],none⟩]
def c94r3 : List AOper := [
 ⟨some 13,(.load none),[.t 2],none⟩,
 ⟨some 14,(.faddr 1),[.t 3],none⟩,
 ⟨some 15,(.load none),[.t 14],none⟩,
 ⟨some 16,(.bslice none),[.t 15],none⟩,
 ⟨some 17,(.append none),[.t 13,.t 16],none⟩,
 ⟨none,(.store none),[.t 2,.t 17],none⟩]
def c94k4 : ACode := (.cond (.t 9) (.seq (.region true c94r2 [2,3,4]) (.region true c94r3 [3,4])) .skip)
def c94r5 : List AOper := [
 ⟨some 18,(.load (some 4)),[.t 3],none⟩,
 ⟨none,(.store (some 4)),[.t 4,.t 18],none⟩]
def c94 : ACode := (.seq (.region true c94r0 [1,2,3,4]) (.seq (.seq (.region true c94r1 [1,2,3,4,9]) c94k4) (.seq (.region true c94r5 [4]) .ret)))
def g94 : AFn := ⟨3,[(4,some (some 4))],c94,true,[],[],none⟩
theorem tr94 : trFn Tryz.prog true 94 Tryz.f94 = some g94 := by kernel_rfl
def c95r0 : List AOper := [
 ⟨some 2,(.nilsl (some 4)),[],none⟩]
def c95r1 : List AOper := [
 ⟨some 3,.mv,[.t 0],none⟩,
 ⟨some 4,(.slnil false),[.t 3],none⟩]
def c95r2 : List AOper := [
 ⟨some 2,(.nilsl (some 4)),[],none⟩]
def c95k3 : ACode := (.cond (.t 4) (.seq (.region true c95r2 [2]) .ret) .skip)
def c95r4 : List AOper := [
 ⟨some 5,(.bslice (some 4)),[],none⟩,
 ⟨some 6,.mv,[.t 0],none⟩,
 ⟨some 7,(.append (some 4)),[.t 5,.t 6],none⟩,
 ⟨some 2,.mv,[.t 7],none⟩]
def c95 : ACode := (.seq (.region true c95r0 [0]) (.seq (.seq (.region true c95r1 [0,4]) c95k3) (.seq (.region true c95r4 [2]) .ret)))
def g95 : AFn := ⟨1,[(2,none)],c95,true,[],[],none⟩
theorem tr95 : trFn Tryz.prog true 95 Tryz.f95 = some g95 := by kernel_rfl
def c96r0 : List AOper := [
 ⟨some 4,(.nilsl (some 4)),[],none⟩]
def c96r1 : List AOper := [
 ⟨some 5,.mv,[.t 1],none⟩]
def c96r2 : List AOper := [
 ⟨some 6,.mv,[.t 0],none⟩,
 ⟨some 7,.nilcheck,[.t 6],none⟩,
 ⟨some 8,(.faddr 0),[.t 7],none⟩,
 ⟨some 9,(.load (some 4)),[.t 8],none⟩,
 ⟨some 10,(.bslo (some 4)),[.t 9],none⟩,
 ⟨some 4,.mv,[.t 10],none⟩]
def c96k3 : ACode := (.cond (.t 5) (.seq (.region true c96r2 [4]) .ret) .skip)
def c96r4 : List AOper := [
 ⟨some 4,(.nilsl (some 4)),[],none⟩]
def c96 : ACode := (.seq (.region true c96r0 [0,1]) (.seq (.seq (.region true c96r1 [0,5]) c96k3) (.seq (.region true c96r4 [4]) .ret)))
def g96 : AFn := ⟨2,[(4,none)],c96,true,[],[],none⟩
theorem tr96 : trFn Tryz.prog true 96 Tryz.f96 = some g96 := by kernel_rfl
def c97r0 : List AOper := [
 ⟨some 5,(.box (some 4)),[.t 1],none⟩,
 ⟨some 6,(.box (some 4)),[.t 2],none⟩,
 ⟨some 7,(.box (some 4)),[.t 3],none⟩,
 ⟨some 8,(.nilsl (some 4)),[],none⟩]
def c97r1 : List AOper := [
 ⟨some 10,(.load (some 4)),[.t 5],none⟩,
 ⟨some 11,.callg,[.c (.pv none (.func (.func 71))),.t 10],none⟩,
 ⟨some 12,.not,[.t 11],none⟩,
 ⟨some 13,.mv,[.t 12],none⟩,
 ⟨some 14,(.load (some 4)),[.t 5],some (13,true)⟩,
 ⟨some 15,.callg,[.c (.pv none (.func (.func 73))),.t 14],some (13,true)⟩,
 ⟨some 16,.not,[.t 15],some (13,true)⟩,
 ⟨some 17,.pick,[.t 13,.t 16,.c (.pv none (.bool false))],none⟩,
 ⟨some 18,(.load (some 4)),[.t 5],none⟩,
 ⟨some 19,.callg,[.c (.pv none (.func (.func 123))),.c (.pv none (.str [97,116,111,109])),.t 18],none⟩,
 ⟨some 20,.call,[.c (.pv none (.func (.func 122))),.t 17,.t 19],none⟩]
def c97r2 : List AOper := [
 ⟨some 21,(.bslo none),[.c (.pv none (.str [60])),.c (.pv none (.str [61])),.c (.pv none (.str [62]))],none⟩,
 ⟨some 9,.mv,[.t 21],none⟩]
def c97r3 : List AOper := [
 ⟨some 22,(.load (some 4)),[.t 5],none⟩,
 ⟨some 23,.callg,[.c (.pv none (.func (.func 73))),.t 22],none⟩,
 ⟨some 24,.mv,[.t 23],none⟩,
 ⟨some 25,.mv,[.t 9],some (24,true)⟩,
 ⟨some 26,(.faddr 2),[.t 5],some (24,true)⟩,
 ⟨some 27,(.load none),[.t 26],some (24,true)⟩,
 ⟨some 28,.callg,[.c (.pv none (.func (.func 41))),.t 25,.t 27],some (24,true)⟩,
 ⟨some 29,.not,[.t 28],some (24,true)⟩,
 ⟨some 30,.pick,[.t 24,.t 29,.c (.pv none (.bool false))],none⟩,
 ⟨some 31,(.load (some 4)),[.t 5],none⟩,
 ⟨some 32,.callg,[.c (.pv none (.func (.func 124))),.c (.pv none (.str [111,114,100,101,114])),.t 31],none⟩,
 ⟨some 33,.call,[.c (.pv none (.func (.func 122))),.t 30,.t 32],none⟩]
def c97r4 : List AOper := [
 ⟨some 34,.mv,[.t 0],none⟩,
 ⟨some 35,.mv,[.t 9],none⟩,
 ⟨some 36,(.load (some 4)),[.t 6],none⟩,
 ⟨some 37,(.load (some 4)),[.t 7],none⟩,
 ⟨some 38,.call,[.c (.pv none (.func (.func 15))),.t 36,.t 37],none⟩,
 ⟨some 39,(.bin .add),[.t 38,.c (.pv none (.int .i64 1))],none⟩,
 ⟨some 40,(.iaddr none),[.t 35,.t 39],none⟩,
 ⟨some 41,(.load none),[.t 40],none⟩,
 ⟨some 42,.call,[.c (.pv none (.func (.func 125))),.t 41],none⟩,
 ⟨some 43,.call,[.c (.pv none (.func (.func 101))),.t 34,.c (.pv none (.int .i64 0)),.t 42],none⟩,
 ⟨some 8,.mv,[.t 43],none⟩]
def c97 : ACode := (.seq (.region true c97r0 [0,5,6,7]) (.seq (.region true c97r1 [0,5,6,7]) (.seq (.region true c97r2 [0,5,6,7,9]) (.seq (.region true c97r3 [0,6,7,9]) (.seq (.region true c97r4 [8]) .ret)))))
def g97 : AFn := ⟨4,[(8,none)],c97,true,[],[],none⟩
theorem tr97 : trFn Tryz.prog true 97 Tryz.f97 = some g97 := by kernel_rfl
def c98r0 : List AOper := [
 ⟨some 5,(.box (some 4)),[.t 1],none⟩,
 ⟨some 6,(.box (some 4)),[.t 2],none⟩,
 ⟨some 7,(.box (some 4)),[.t 3],none⟩,
 ⟨some 8,(.nilsl (some 4)),[],none⟩]
def c98r1 : List AOper := [
 ⟨some 12,(.load (some 4)),[.t 5],none⟩,
 ⟨some 13,.call,[.c (.pv none (.func (.func 71))),.t 12],none⟩,
 ⟨some 14,.not,[.t 13],none⟩]
def c98r2 : List AOper := [
 ⟨some 15,.mv,[.t 0],none⟩,
 ⟨some 16,.nilcheck,[.t 15],none⟩,
 ⟨some 17,(.faddr 0),[.t 16],none⟩,
 ⟨some 18,(.load (some 4)),[.t 17],none⟩,
 ⟨some 9,(.alloc (some 4) (.agg [(none,(.pv none (.int .i64 0))),(none,(.pv none (.int .i64 0))),(none,(.pv none (.str []))),(none,(.tsl (some 4) []))])),[],none⟩,
 ⟨none,(.store (some 4)),[.t 9,.t 18],none⟩]
def c98r3 : List AOper := [
 ⟨some 19,(.load (some 4)),[.t 5],none⟩,
 ⟨some 10,(.alloc (some 4) (.agg [(none,(.pv none (.int .i64 0))),(none,(.pv none (.int .i64 0))),(none,(.pv none (.str []))),(none,(.tsl (some 4) []))])),[],none⟩,
 ⟨none,(.store (some 4)),[.t 10,.t 19],none⟩]
def c98r4 : List AOper := [
 ⟨some 20,(.load (some 4)),[.t 5],none⟩,
 ⟨some 21,.call,[.c (.pv none (.func (.func 47))),.t 20],none⟩]
def c98r5 : List AOper := [
 ⟨some 22,(.faddr 2),[.t 5],none⟩,
 ⟨some 23,(.load none),[.t 22],none⟩,
 ⟨some 24,.call,[.c (.pv none (.func (.func 125))),.t 23],none⟩,
 ⟨none,(.store (some 4)),[.t 10,.t 24],none⟩]
def c98k6 : ACode := (.cond (.t 21) (.region true c98r5 [5,9,10]) .skip)
def c98r7 : List AOper := [
 ⟨some 25,(.load (some 4)),[.t 5],none⟩,
 ⟨some 26,(.load (some 4)),[.t 10],none⟩,
 ⟨some 27,(.faddr 3),[.t 5],none⟩,
 ⟨some 28,(.load none),[.t 27],none⟩,
 ⟨some 29,.len,[.t 28],none⟩,
 ⟨some 30,.callg,[.c (.pv none (.func (.func 126))),.t 29],none⟩,
 ⟨some 31,(.bslice (some 4)),[.t 25,.t 26,.t 30],none⟩,
 ⟨some 32,(.faddr 3),[.t 9],none⟩,
 ⟨none,(.store none),[.t 32,.t 31],none⟩]
def c98r8 : List AOper := [
 ⟨some 33,(.load (some 4)),[.t 9],none⟩,
 ⟨some 34,(.bslo (some 4)),[.t 33],none⟩,
 ⟨some 8,.mv,[.t 34],none⟩]
def c98k9 : ACode := (.cond (.t 14) (.seq (.region true c98r2 [5,9]) (.seq (.region true c98r3 [5,9,10]) (.seq (.seq (.region true c98r4 [5,9,10,21]) c98k6) (.seq (.region true c98r7 [9]) (.seq (.region true c98r8 [8]) .ret))))) .skip)
def c98r10 : List AOper := [
 ⟨some 35,(.load (some 4)),[.t 6],none⟩,
 ⟨some 36,.call,[.c (.pv none (.func (.func 71))),.t 35],none⟩,
 ⟨some 37,.mv,[.t 36],none⟩,
 ⟨some 38,(.load (some 4)),[.t 7],some (37,false)⟩,
 ⟨some 39,.call,[.c (.pv none (.func (.func 71))),.t 38],some (37,false)⟩,
 ⟨some 40,.pick,[.t 37,.c (.pv none (.bool true)),.t 39],none⟩,
 ⟨some 41,.call,[.c (.pv none (.func (.func 122))),.t 40,.c (.pv none (.func (.func 69)))],none⟩]
def c98r11 : List AOper := [
 ⟨some 42,(.load (some 4)),[.t 6],none⟩,
 ⟨some 43,.callg,[.c (.pv none (.func (.func 47))),.t 42],none⟩,
 ⟨some 44,(.load (some 4)),[.t 6],none⟩,
 ⟨some 45,.call,[.c (.pv none (.func (.func 123))),.c (.pv none (.str [97,116,111,109,105,99])),.t 44],none⟩,
 ⟨some 46,.call,[.c (.pv none (.func (.func 122))),.t 43,.t 45],none⟩]
def c98r12 : List AOper := [
 ⟨some 47,(.load (some 4)),[.t 7],none⟩,
 ⟨some 48,.callg,[.c (.pv none (.func (.func 74))),.t 47],none⟩,
 ⟨some 49,.not,[.t 48],none⟩,
 ⟨some 50,(.load (some 4)),[.t 7],none⟩,
 ⟨some 51,.callg,[.c (.pv none (.func (.func 123))),.c (.pv none (.str [105,110,116,101,103,101,114])),.t 50],none⟩,
 ⟨some 52,.call,[.c (.pv none (.func (.func 122))),.t 49,.t 51],none⟩]
def c98r13 : List AOper := [
 ⟨some 53,(.faddr 1),[.t 7],none⟩,
 ⟨some 54,(.load none),[.t 53],none⟩,
 ⟨some 55,(.bin .lss),[.t 54,.c (.pv none (.int .i64 0))],none⟩,
 ⟨some 56,(.load (some 4)),[.t 7],none⟩,
 ⟨some 57,.callg,[.c (.pv none (.func (.func 124))),.c (.pv none (.str [110,111,116,95,108,101,115,115,95,116,104,97,110,95,122,101,114,111])),.t 56],none⟩,
 ⟨some 58,.call,[.c (.pv none (.func (.func 122))),.t 55,.t 57],none⟩]
def c98r14 : List AOper := [
 ⟨some 59,(.faddr 1),[.t 7],none⟩,
 ⟨some 60,(.load none),[.t 59],none⟩,
 ⟨some 61,(.bin .gtr),[.t 60,.c (.pv none (.int .i64 8))],none⟩,
 ⟨some 62,.call,[.c (.pv none (.func (.func 122))),.t 61,.c (.pv none (.func (.func 127)))],none⟩]
def c98r15 : List AOper := [
 ⟨some 63,(.faddr 1),[.t 7],none⟩,
 ⟨some 64,(.load none),[.t 63],none⟩,
 ⟨some 65,(.bin .gtr),[.t 64,.c (.pv none (.int .i64 0))],none⟩,
 ⟨some 66,.mv,[.t 65],none⟩,
 ⟨some 67,(.load (some 4)),[.t 6],some (66,true)⟩,
 ⟨some 68,.callg,[.c (.pv none (.func (.func 73))),.t 67],some (66,true)⟩,
 ⟨some 69,.not,[.t 68],some (66,true)⟩,
 ⟨some 70,.pick,[.t 66,.t 69,.c (.pv none (.bool false))],none⟩,
 ⟨some 71,(.load (some 4)),[.t 6],none⟩,
 ⟨some 72,.callg,[.c (.pv none (.func (.func 123))),.c (.pv none (.str [97,116,111,109])),.t 71],none⟩,
 ⟨some 73,.call,[.c (.pv none (.func (.func 122))),.t 70,.t 72],none⟩]
def c98r16 : List AOper := [
 ⟨some 74,(.faddr 1),[.t 7],none⟩,
 ⟨some 75,(.load none),[.t 74],none⟩,
 ⟨some 76,(.bin .eql),[.t 75,.c (.pv none (.int .i64 0))],none⟩]
def c98r17 : List AOper := [
 ⟨some 77,.mv,[.t 0],none⟩,
 ⟨some 78,(.load (some 4)),[.t 6],none⟩,
 ⟨some 79,.call,[.c (.pv none (.func (.func 101))),.t 77,.c (.pv none (.int .i64 0)),.t 78],none⟩,
 ⟨some 8,.mv,[.t 79],none⟩]
def c98k18 : ACode := (.cond (.t 76) (.seq (.region true c98r17 [8]) .ret) .skip)
def c98r19 : List AOper := [
 ⟨some 11,(.nilsl (some 4)),[],none⟩]
def c98r20 : List AOper := [
 ⟨some 80,(.faddr 1),[.t 7],none⟩,
 ⟨some 81,(.load none),[.t 80],none⟩,
 ⟨some 82,.mv,[.c (.pv none (.int .i64 0))],none⟩]
def c98r21 : List AOper := [
 ⟨some 83,(.bin .lss),[.t 82,.t 81],none⟩]
def c98k22 : ACode := (.cond (.t 83) .skip (.exit 0))
def c98r23 : List AOper := [
 ⟨some 84,.mv,[.t 11],none⟩,
 ⟨some 85,.mv,[.t 0],none⟩,
 ⟨some 86,.call,[.c (.pv none (.func (.func 128))),.t 85],none⟩,
 ⟨some 87,(.bslice (some 4)),[.t 86],none⟩,
 ⟨some 88,(.append (some 4)),[.t 84,.t 87],none⟩,
 ⟨some 11,.mv,[.t 88],none⟩]
def c98k24 : ACode := (.block 1 (.region true c98r23 [0,6,11,81,82]))
def c98r25 : List AOper := [
 ⟨some 89,(.bin .add),[.t 82,.c (.pv none (.int .i64 1))],none⟩,
 ⟨some 82,.mv,[.t 89],none⟩]
def c98b26 : ACode := (.seq (.region true c98r21 [0,6,11,81,82,83]) (.seq c98k22 (.seq c98k24 (.region true c98r25 [0,6,11,81,82]))))
def c98k27 : ACode := (.block 0 (.loop [0,6,11,81,82] c98b26))
def c98r28 : List AOper := [
 ⟨some 90,.mv,[.t 0],none⟩,
 ⟨some 91,(.faddr 2),[.t 6],none⟩,
 ⟨some 92,(.load none),[.t 91],none⟩,
 ⟨some 93,.mv,[.t 11],none⟩,
 ⟨some 94,.call,[.c (.pv none (.func (.func 129))),.t 92,.t 93],none⟩,
 ⟨some 95,.call,[.c (.pv none (.func (.func 101))),.t 90,.c (.pv none (.int .i64 0)),.t 94],none⟩,
 ⟨some 8,.mv,[.t 95],none⟩]
def c98 : ACode := (.seq (.region true c98r0 [0,5,6,7]) (.seq (.seq (.region true c98r1 [0,5,6,7,14]) c98k9) (.seq (.region true c98r10 [0,6,7]) (.seq (.region true c98r11 [0,6,7]) (.seq (.region true c98r12 [0,6,7]) (.seq (.region true c98r13 [0,6,7]) (.seq (.region true c98r14 [0,6,7]) (.seq (.region true c98r15 [0,6,7]) (.seq (.seq (.region true c98r16 [0,6,7,76]) c98k18) (.seq (.region true c98r19 [0,6,7,11]) (.seq (.seq (.region true c98r20 [0,6,11,81,82]) c98k27) (.seq (.region true c98r28 [8]) .ret))))))))))))
def g98 : AFn := ⟨4,[(8,none)],c98,true,[],[],none⟩
theorem tr98 : trFn Tryz.prog true 98 Tryz.f98 = some g98 := by kernel_rfl
def c99r0 : List AOper := [
 ⟨some 4,(.box (some 4)),[.t 1],none⟩,
 ⟨some 5,(.box (some 4)),[.t 2],none⟩,
 ⟨some 6,(.nilsl (some 4)),[],none⟩]
def c99r1 : List AOper := [
 ⟨some 7,(.load (some 4)),[.t 4],none⟩,
 ⟨some 8,.call,[.c (.pv none (.func (.func 71))),.t 7],none⟩,
 ⟨some 9,.mv,[.t 8],none⟩,
 ⟨some 10,(.load (some 4)),[.t 5],some (9,false)⟩,
 ⟨some 11,.call,[.c (.pv none (.func (.func 71))),.t 10],some (9,false)⟩,
 ⟨some 12,.pick,[.t 9,.c (.pv none (.bool true)),.t 11],none⟩,
 ⟨some 13,.call,[.c (.pv none (.func (.func 122))),.t 12,.c (.pv none (.func (.func 69)))],none⟩]
def c99r2 : List AOper := [
 ⟨some 14,(.load (some 4)),[.t 4],none⟩,
 ⟨some 15,.callp,[.c (.pv none (.func (.func 74))),.t 14],none⟩,
 ⟨some 16,.not,[.t 15],none⟩,
 ⟨some 17,(.load (some 4)),[.t 4],none⟩,
 ⟨some 18,.callp,[.c (.pv none (.func (.func 123))),.c (.pv none (.str [105,110,116,101,103,101,114])),.t 17],none⟩,
 ⟨some 19,.callp,[.c (.pv none (.func (.func 122))),.t 16,.t 18],none⟩]
def c99r3 : List AOper := [
 ⟨some 20,(.load (some 4)),[.t 5],none⟩,
 ⟨some 21,.callp,[.c (.pv none (.func (.func 47))),.t 20],none⟩,
 ⟨some 22,.not,[.t 21],none⟩,
 ⟨some 23,(.load (some 4)),[.t 5],none⟩,
 ⟨some 24,.callp,[.c (.pv none (.func (.func 123))),.c (.pv none (.str [99,111,109,112,111,117,110,100])),.t 23],none⟩,
 ⟨some 25,.callp,[.c (.pv none (.func (.func 122))),.t 22,.t 24],none⟩]
def c99r4 : List AOper := [
 ⟨some 26,(.faddr 1),[.t 4],none⟩,
 ⟨some 27,(.load none),[.t 26],none⟩,
 ⟨some 28,(.bin .lss),[.t 27,.c (.pv none (.int .i64 0))],none⟩,
 ⟨some 29,(.load (some 4)),[.t 4],none⟩,
 ⟨some 30,.callp,[.c (.pv none (.func (.func 124))),.c (.pv none (.str [110,111,116,95,108,101,115,115,95,116,104,97,110,95,122,101,114,111])),.t 29],none⟩,
 ⟨some 31,.callp,[.c (.pv none (.func (.func 122))),.t 28,.t 30],none⟩]
def c99r5 : List AOper := [
 ⟨some 32,(.faddr 1),[.t 4],none⟩,
 ⟨some 33,(.load none),[.t 32],none⟩,
 ⟨some 34,(.bin .eql),[.t 33,.c (.pv none (.int .i64 0))],none⟩,
 ⟨some 35,.mv,[.t 34],none⟩,
 ⟨some 36,(.faddr 1),[.t 4],some (35,false)⟩,
 ⟨some 37,(.load none),[.t 36],some (35,false)⟩,
 ⟨some 38,(.faddr 3),[.t 5],some (35,false)⟩,
 ⟨some 39,(.load none),[.t 38],some (35,false)⟩,
 ⟨some 40,.len,[.t 39],some (35,false)⟩,
 ⟨some 41,(.bin .gtr),[.t 37,.t 40],some (35,false)⟩,
 ⟨some 42,.pick,[.t 35,.c (.pv none (.bool true)),.t 41],none⟩]
def c99r6 : List AOper := [
 ⟨some 6,(.nilsl (some 4)),[],none⟩]
def c99k7 : ACode := (.cond (.t 42) (.seq (.region true c99r6 [6]) .ret) .skip)
def c99r8 : List AOper := [
 ⟨some 43,.mv,[.t 0],none⟩,
 ⟨some 44,(.faddr 3),[.t 5],none⟩,
 ⟨some 45,(.load none),[.t 44],none⟩,
 ⟨some 46,(.faddr 1),[.t 4],none⟩,
 ⟨some 47,(.load none),[.t 46],none⟩,
 ⟨some 48,(.bin .sub),[.t 47,.c (.pv none (.int .i64 1))],none⟩,
 ⟨some 49,(.iaddr (some 4)),[.t 45,.t 48],none⟩,
 ⟨some 50,(.load (some 4)),[.t 49],none⟩,
 ⟨some 51,.call,[.c (.pv none (.func (.func 101))),.t 43,.c (.pv none (.int .i64 2)),.t 50],none⟩,
 ⟨some 6,.mv,[.t 51],none⟩]
def c99 : ACode := (.seq (.region true c99r0 [0,4,5]) (.seq (.region true c99r1 [0,4,5]) (.seq (.seq (.settle [4]) (.region true c99r2 [0,4,5])) (.seq (.seq (.settle [5]) (.region true c99r3 [0,4,5])) (.seq (.seq (.settle [4]) (.region true c99r4 [0,4,5])) (.seq (.seq (.region true c99r5 [0,4,5,42]) c99k7) (.seq (.region true c99r8 [6]) .ret)))))))
def g99 : AFn := ⟨3,[(6,none)],c99,false,[],[],none⟩
theorem tr99 : trFn Tryz.prog false 99 Tryz.f99 = some g99 := by kernel_rfl
def c100r0 : List AOper := [
 ⟨some 4,(.box (some 4)),[.t 1],none⟩,
 ⟨some 5,(.box (some 4)),[.t 2],none⟩,
 ⟨some 6,(.nilsl (some 4)),[],none⟩]
def c100r1 : List AOper := [
 ⟨some 11,(.load (some 4)),[.t 5],none⟩,
 ⟨some 12,.callp,[.c (.pv none (.func (.func 130))),.t 11],none⟩,
 ⟨some 13,.not,[.t 12],none⟩,
 ⟨some 14,(.load (some 4)),[.t 5],none⟩,
 ⟨some 15,.callp,[.c (.pv none (.func (.func 123))),.c (.pv none (.str [108,105,115,116])),.t 14],none⟩,
 ⟨some 16,.callp,[.c (.pv none (.func (.func 122))),.t 13,.t 15],none⟩]
def c100r2 : List AOper := [
 ⟨some 17,(.load (some 4)),[.t 4],none⟩,
 ⟨some 18,.call,[.c (.pv none (.func (.func 47))),.t 17],none⟩]
def c100r3 : List AOper := [
 ⟨some 19,.mv,[.t 0],none⟩,
 ⟨some 20,(.faddr 2),[.t 4],none⟩,
 ⟨some 21,(.load none),[.t 20],none⟩,
 ⟨some 22,.callp,[.c (.pv none (.func (.func 125))),.t 21],none⟩,
 ⟨some 23,(.bslicep (some 4)),[.t 22],none⟩,
 ⟨some 24,(.faddr 3),[.t 4],none⟩,
 ⟨some 25,(.load none),[.t 24],none⟩,
 ⟨some 26,(.append (some 4)),[.t 23,.t 25],none⟩,
 ⟨some 27,.callp,[.c (.pv none (.func (.func 125))),.c (.pv none (.str [91,93]))],none⟩,
 ⟨some 28,.callp,[.c (.pv none (.func (.func 131))),.t 26,.t 27],none⟩,
 ⟨some 29,.callp,[.c (.pv none (.func (.func 101))),.t 19,.c (.pv none (.int .i64 1)),.t 28],none⟩,
 ⟨some 6,.mv,[.t 29],none⟩]
def c100k4 : ACode := (.cond (.t 18) (.seq (.seq (.settle [0]) (.region true c100r3 [6])) .ret) .skip)
def c100r5 : List AOper := [
 ⟨some 30,(.load (some 4)),[.t 4],none⟩,
 ⟨some 31,.call,[.c (.pv none (.func (.func 71))),.t 30],none⟩,
 ⟨some 32,.not,[.t 31],none⟩]
def c100r6 : List AOper := [
 ⟨some 33,.mv,[.t 0],none⟩,
 ⟨some 34,(.load (some 4)),[.t 4],none⟩,
 ⟨some 35,(.bslicep (some 4)),[.t 34],none⟩,
 ⟨some 36,.callp,[.c (.pv none (.func (.func 125))),.c (.pv none (.str [91,93]))],none⟩,
 ⟨some 37,.callp,[.c (.pv none (.func (.func 131))),.t 35,.t 36],none⟩,
 ⟨some 38,.callp,[.c (.pv none (.func (.func 101))),.t 33,.c (.pv none (.int .i64 1)),.t 37],none⟩,
 ⟨some 6,.mv,[.t 38],none⟩]
def c100k7 : ACode := (.cond (.t 32) (.seq (.seq (.settle [0]) (.region true c100r6 [6])) .ret) .skip)
def c100r8 : List AOper := [
 ⟨some 39,(.load (some 4)),[.t 5],none⟩,
 ⟨some 40,.call,[.c (.pv none (.func (.func 132))),.t 39],none⟩,
 ⟨some 41,.call,[.c (.pv none (.func (.func 122))),.t 40,.c (.pv none (.func (.func 69)))],none⟩]
def c100r9 : List AOper := [
 ⟨some 42,(.load (some 4)),[.t 5],none⟩,
 ⟨some 43,.callp,[.c (.pv none (.func (.func 117))),.t 42],none⟩,
 ⟨some 44,(.load (some 4)),[.t 5],none⟩,
 ⟨some 45,.callp,[.c (.pv none (.func (.func 124))),.c (.pv none (.str [110,111,110,95,101,109,112,116,121,95,108,105,115,116])),.t 44],none⟩,
 ⟨some 46,.callp,[.c (.pv none (.func (.func 122))),.t 43,.t 45],none⟩]
def c100r10 : List AOper := [
 ⟨some 48,(.load (some 4)),[.t 5],none⟩,
 ⟨some 49,.call,[.c (.pv none (.func (.func 116))),.t 48],none⟩,
 ⟨some 47,.mv,[.t 49],none⟩,
 ⟨some 50,(.extract 0),[.t 47],none⟩,
 ⟨some 51,(.extract 1),[.t 47],none⟩,
 ⟨some 8,(.alloc (some 4) (.agg [(none,(.pv none (.int .i64 0))),(none,(.pv none (.int .i64 0))),(none,(.pv none (.str []))),(none,(.tsl (some 4) []))])),[],none⟩,
 ⟨some 7,.mv,[.t 50],none⟩,
 ⟨none,(.store (some 4)),[.t 8,.t 51],none⟩]
def c100r11 : List AOper := [
 ⟨some 52,.mv,[.t 7],none⟩,
 ⟨some 53,(.iaddr (some 4)),[.t 52,.c (.pv none (.int .i64 0))],none⟩,
 ⟨some 54,(.load (some 4)),[.t 53],none⟩,
 ⟨some 55,.mv,[.t 7],none⟩,
 ⟨some 56,(.slice (some 4) true false),[.t 55,.c (.pv none (.int .i64 1))],none⟩,
 ⟨some 9,(.alloc (some 4) (.agg [(none,(.pv none (.int .i64 0))),(none,(.pv none (.int .i64 0))),(none,(.pv none (.str []))),(none,(.tsl (some 4) []))])),[],none⟩,
 ⟨none,(.store (some 4)),[.t 9,.t 54],none⟩,
 ⟨some 10,.mv,[.t 56],none⟩]
def c100r12 : List AOper := [
 ⟨some 57,(.load (some 4)),[.t 9],none⟩,
 ⟨some 58,.call,[.c (.pv none (.func (.func 71))),.t 57],none⟩,
 ⟨some 59,.call,[.c (.pv none (.func (.func 122))),.t 58,.c (.pv none (.func (.func 69)))],none⟩]
def c100r13 : List AOper := [
 ⟨some 60,.mv,[.t 10],none⟩,
 ⟨some 61,.len,[.t 60],none⟩,
 ⟨some 62,(.bin .eql),[.t 61,.c (.pv none (.int .i64 0))],none⟩]
def c100r14 : List AOper := [
 ⟨some 63,(.load (some 4)),[.t 9],none⟩,
 ⟨some 64,.callp,[.c (.pv none (.func (.func 47))),.t 63],none⟩,
 ⟨some 65,(.load (some 4)),[.t 9],none⟩,
 ⟨some 66,.callp,[.c (.pv none (.func (.func 123))),.c (.pv none (.str [97,116,111,109,105,99])),.t 65],none⟩,
 ⟨some 67,.callp,[.c (.pv none (.func (.func 122))),.t 64,.t 66],none⟩]
def c100r15 : List AOper := [
 ⟨some 68,.mv,[.t 0],none⟩,
 ⟨some 69,(.load (some 4)),[.t 9],none⟩,
 ⟨some 70,.call,[.c (.pv none (.func (.func 101))),.t 68,.c (.pv none (.int .i64 0)),.t 69],none⟩,
 ⟨some 6,.mv,[.t 70],none⟩]
def c100k16 : ACode := (.cond (.t 62) (.seq (.seq (.settle [9]) (.region true c100r14 [0,9])) (.seq (.region true c100r15 [6]) .ret)) .skip)
def c100r17 : List AOper := [
 ⟨some 71,(.load (some 4)),[.t 9],none⟩,
 ⟨some 72,.callp,[.c (.pv none (.func (.func 73))),.t 71],none⟩,
 ⟨some 73,.not,[.t 72],none⟩,
 ⟨some 74,(.load (some 4)),[.t 9],none⟩,
 ⟨some 75,.callp,[.c (.pv none (.func (.func 123))),.c (.pv none (.str [97,116,111,109])),.t 74],none⟩,
 ⟨some 76,.callp,[.c (.pv none (.func (.func 122))),.t 73,.t 75],none⟩]
def c100r18 : List AOper := [
 ⟨some 77,.mv,[.t 10],none⟩,
 ⟨some 78,.len,[.t 77],none⟩,
 ⟨some 79,(.bin .gtr),[.t 78,.c (.pv none (.int .i64 8))],none⟩,
 ⟨some 80,.call,[.c (.pv none (.func (.func 122))),.t 79,.c (.pv none (.func (.func 127)))],none⟩]
def c100r19 : List AOper := [
 ⟨some 81,.mv,[.t 0],none⟩,
 ⟨some 82,(.faddr 2),[.t 9],none⟩,
 ⟨some 83,(.load none),[.t 82],none⟩,
 ⟨some 84,.mv,[.t 10],none⟩,
 ⟨some 85,.call,[.c (.pv none (.func (.func 129))),.t 83,.t 84],none⟩,
 ⟨some 86,.call,[.c (.pv none (.func (.func 101))),.t 81,.c (.pv none (.int .i64 0)),.t 85],none⟩,
 ⟨some 6,.mv,[.t 86],none⟩]
def c100 : ACode := (.seq (.region true c100r0 [0,4,5]) (.seq (.seq (.settle [5]) (.region true c100r1 [0,4,5])) (.seq (.seq (.region true c100r2 [0,4,5,18]) c100k4) (.seq (.seq (.region true c100r5 [0,4,5,32]) c100k7) (.seq (.region true c100r8 [0,5]) (.seq (.seq (.settle [5]) (.region true c100r9 [0,5])) (.seq (.region true c100r10 [0,7]) (.seq (.region true c100r11 [0,9,10]) (.seq (.region true c100r12 [0,9,10]) (.seq (.seq (.region true c100r13 [0,9,10,62]) c100k16) (.seq (.seq (.settle [9]) (.region true c100r17 [0,9,10])) (.seq (.region true c100r18 [0,9,10]) (.seq (.region true c100r19 [6]) .ret)))))))))))))
def g100 : AFn := ⟨3,[(6,none)],c100,false,[],[],none⟩
theorem tr100 : trFn Tryz.prog false 100 Tryz.f100 = some g100 := by kernel_rfl
def c101r0 : List AOper := [
 ⟨some 5,(.box (some 4)),[.t 2],none⟩,
 ⟨some 6,(.nilsl (some 4)),[],none⟩]
def c101r1 : List AOper := [
 ⟨some 8,.mv,[.t 0],none⟩,
 ⟨some 9,.nilcheck,[.t 8],none⟩,
 ⟨some 10,(.faddr 0),[.t 9],none⟩,
 ⟨some 11,(.load (some 4)),[.t 10],none⟩,
 ⟨some 7,(.alloc (some 4) (.agg [(none,(.pv none (.int .i64 0))),(none,(.pv none (.int .i64 0))),(none,(.pv none (.str []))),(none,(.tsl (some 4) []))])),[],none⟩,
 ⟨none,(.store (some 4)),[.t 7,.t 11],none⟩]
def c101r2 : List AOper := [
 ⟨some 12,(.faddr 3),[.t 7],none⟩,
 ⟨some 13,(.load none),[.t 12],none⟩,
 ⟨some 14,.call,[.c (.pv none (.func (.func 95))),.t 13],none⟩,
 ⟨some 15,(.faddr 3),[.t 7],none⟩,
 ⟨none,(.store none),[.t 15,.t 14],none⟩]
def c101r3 : List AOper := [
 ⟨some 16,(.faddr 3),[.t 7],none⟩,
 ⟨some 17,(.load none),[.t 16],none⟩,
 ⟨some 18,.mv,[.t 1],none⟩,
 ⟨some 19,(.load (some 4)),[.t 5],none⟩,
 ⟨some 20,(.iaddr (some 4)),[.t 17,.t 18],none⟩,
 ⟨none,(.store (some 4)),[.t 20,.t 19],none⟩]
def c101r4 : List AOper := [
 ⟨some 21,(.load (some 4)),[.t 7],none⟩,
 ⟨some 22,(.bslo (some 4)),[.t 21],none⟩,
 ⟨some 6,.mv,[.t 22],none⟩]
def c101 : ACode := (.seq (.region true c101r0 [0,1,5]) (.seq (.region true c101r1 [1,5,7]) (.seq (.region true c101r2 [1,5,7]) (.seq (.region true c101r3 [7]) (.seq (.region true c101r4 [6]) .ret)))))
def g101 : AFn := ⟨3,[(6,none)],c101,true,[],[],none⟩
theorem tr101 : trFn Tryz.prog true 101 Tryz.f101 = some g101 := by kernel_rfl
def c102r0 : List AOper := [
 ⟨some 4,(.box (some 4)),[.t 1],none⟩,
 ⟨some 6,(.alloc (some 4) (.agg [(none,(.pv none (.int .i64 0))),(none,(.pv none (.int .i64 0))),(none,(.pv none (.str []))),(none,(.tsl (some 4) []))])),[],none⟩]
def c102r1 : List AOper := [
 ⟨some 12,(.load (some 4)),[.t 4],none⟩,
 ⟨some 13,.call,[.c (.pv none (.func (.func 71))),.t 12],none⟩]
def c102r2 : List AOper := [
 ⟨some 15,.mv,[.t 2],none⟩,
 ⟨some 16,(.faddr 1),[.t 4],none⟩,
 ⟨some 17,(.load none),[.t 16],none⟩,
 ⟨some 18,(.lookup false (some 4) (.agg [(none,(.pv none (.int .i64 0))),(none,(.pv none (.int .i64 0))),(none,(.pv none (.str []))),(none,(.tsl (some 4) []))]) true),[.t 15,.t 17],none⟩,
 ⟨some 14,.mv,[.t 18],none⟩,
 ⟨some 19,(.extract 0),[.t 14],none⟩,
 ⟨some 20,(.extract 1),[.t 14],none⟩,
 ⟨some 7,(.alloc (some 4) (.agg [(none,(.pv none (.int .i64 0))),(none,(.pv none (.int .i64 0))),(none,(.pv none (.str []))),(none,(.tsl (some 4) []))])),[],none⟩,
 ⟨none,(.store (some 4)),[.t 7,.t 19],none⟩,
 ⟨some 8,.mv,[.t 20],none⟩]
def c102r3 : List AOper := [
 ⟨some 21,.mv,[.t 8],none⟩,
 ⟨some 22,.not,[.t 21],none⟩]
def c102r4 : List AOper := [
 ⟨some 23,.mv,[.t 0],none⟩,
 ⟨some 24,.call,[.c (.pv none (.func (.func 128))),.t 23],none⟩,
 ⟨none,(.store (some 4)),[.t 7,.t 24],none⟩]
def c102r5 : List AOper := [
 ⟨some 25,.mv,[.t 2],none⟩,
 ⟨some 26,(.faddr 1),[.t 4],none⟩,
 ⟨some 27,(.load none),[.t 26],none⟩,
 ⟨some 28,(.load (some 4)),[.t 7],none⟩,
 ⟨none,(.mapset false (some 4)),[.t 25,.t 27,.t 28],none⟩]
def c102k6 : ACode := (.cond (.t 22) (.seq (.region true c102r4 [2,4,6,7]) (.region true c102r5 [6,7])) .skip)
def c102r7 : List AOper := [
 ⟨some 29,(.load (some 4)),[.t 7],none⟩,
 ⟨none,(.store (some 4)),[.t 6,.t 29],none⟩]
def c102k8 : ACode := (.cond (.t 13) (.seq (.region true c102r2 [0,2,4,6,7,8]) (.seq (.seq (.region true c102r3 [0,2,4,6,7,22]) c102k6) (.seq (.region true c102r7 [6]) .ret))) .skip)
def c102r9 : List AOper := [
 ⟨some 30,(.load (some 4)),[.t 4],none⟩,
 ⟨some 9,(.alloc (some 4) (.agg [(none,(.pv none (.int .i64 0))),(none,(.pv none (.int .i64 0))),(none,(.pv none (.str []))),(none,(.tsl (some 4) []))])),[],none⟩,
 ⟨none,(.store (some 4)),[.t 9,.t 30],none⟩]
def c102r10 : List AOper := [
 ⟨some 31,(.faddr 3),[.t 9],none⟩,
 ⟨none,(.store none),[.t 31,.c (.tsl (some 4) [])],none⟩]
def c102r11 : List AOper := [
 ⟨some 32,(.faddr 3),[.t 4],none⟩,
 ⟨some 33,(.load none),[.t 32],none⟩,
 ⟨some 34,.len,[.t 33],none⟩,
 ⟨some 35,.mv,[.c (.pv none (.int .i64 0))],none⟩]
def c102r12 : List AOper := [
 ⟨some 36,(.bin .lss),[.t 35,.t 34],none⟩]
def c102k13 : ACode := (.cond (.t 36) .skip (.exit 0))
def c102r14 : List AOper := [
 ⟨some 37,(.iaddr (some 4)),[.t 33,.t 35],none⟩,
 ⟨some 38,(.load (some 4)),[.t 37],none⟩,
 ⟨some 11,(.alloc (some 4) (.agg [(none,(.pv none (.int .i64 0))),(none,(.pv none (.int .i64 0))),(none,(.pv none (.str []))),(none,(.tsl (some 4) []))])),[],none⟩,
 ⟨none,(.store (some 4)),[.t 11,.t 38],none⟩]
def c102r15 : List AOper := [
 ⟨some 39,(.faddr 3),[.t 9],none⟩,
 ⟨some 40,(.load none),[.t 39],none⟩,
 ⟨some 41,.mv,[.t 0],none⟩,
 ⟨some 42,(.load (some 4)),[.t 11],none⟩,
 ⟨some 43,.mv,[.t 2],none⟩,
 ⟨some 44,(.calln 1),[.t 39,.c (.pv none (.func (.func 102))),.t 41,.t 42,.t 43],none⟩,
 ⟨some 45,(.bslicen (some 4) 1),[.t 39,.t 44],none⟩,
 ⟨some 46,(.append (some 4)),[.t 40,.t 45],none⟩,
 ⟨some 47,(.faddr 3),[.t 9],none⟩,
 ⟨none,(.store none),[.t 47,.t 46],none⟩]
def c102k16 : ACode := (.block 1 (.seq (.region true c102r14 [0,2,6,9,11,33,34,35]) (.region false c102r15 [0,2,6,9,33,34,35])))
def c102r17 : List AOper := [
 ⟨some 48,(.bin .add),[.t 35,.c (.pv none (.int .i64 1))],none⟩,
 ⟨some 35,.mv,[.t 48],none⟩]
def c102b18 : ACode := (.seq (.region true c102r12 [0,2,6,9,33,34,35,36]) (.seq c102k13 (.seq c102k16 (.region true c102r17 [0,2,6,9,33,34,35]))))
def c102k19 : ACode := (.block 0 (.loop [0,2,6,9,33,34,35] c102b18))
def c102r20 : List AOper := [
 ⟨some 49,(.load (some 4)),[.t 9],none⟩,
 ⟨none,(.store (some 4)),[.t 6,.t 49],none⟩]
def c102 : ACode := (.seq (.region true c102r0 [0,2,4,6]) (.seq (.seq (.region true c102r1 [0,2,4,6,13]) c102k8) (.seq (.region true c102r9 [0,2,4,6,9]) (.seq (.region true c102r10 [0,2,4,6,9]) (.seq (.seq (.region true c102r11 [0,2,6,9,33,34,35]) c102k19) (.seq (.region true c102r20 [6]) .ret))))))
def g102 : AFn := ⟨3,[(6,some (some 4))],c102,true,[],[],none⟩
theorem tr102 : trFn Tryz.prog true 102 Tryz.f102 = some g102 := by kernel_rfl
def c103r0 : List AOper := [
 ⟨some 4,(.box (some 4)),[.t 1],none⟩,
 ⟨some 5,(.box (some 4)),[.t 2],none⟩,
 ⟨some 6,(.nilsl (some 4)),[],none⟩]
def c103r1 : List AOper := [
 ⟨some 10,(.load (some 4)),[.t 5],none⟩,
 ⟨some 11,.callp,[.c (.pv none (.func (.func 130))),.t 10],none⟩,
 ⟨some 12,.not,[.t 11],none⟩,
 ⟨some 13,(.load (some 4)),[.t 5],none⟩,
 ⟨some 14,.callp,[.c (.pv none (.func (.func 123))),.c (.pv none (.str [108,105,115,116])),.t 13],none⟩,
 ⟨some 15,.callp,[.c (.pv none (.func (.func 122))),.t 12,.t 14],none⟩]
def c103r2 : List AOper := [
 ⟨some 7,(.nilsl (some 4)),[],none⟩]
def c103r3 : List AOper := [
 ⟨some 16,(.load (some 4)),[.t 4],none⟩,
 ⟨some 17,.call,[.c (.pv none (.func (.func 49))),.t 16],none⟩,
 ⟨some 18,.len,[.t 17],none⟩,
 ⟨some 19,.mv,[.c (.pv none (.int .i64 0))],none⟩]
def c103r4 : List AOper := [
 ⟨some 20,(.bin .lss),[.t 19,.t 18],none⟩]
def c103k5 : ACode := (.cond (.t 20) .skip (.exit 0))
def c103r6 : List AOper := [
 ⟨some 21,(.iaddr none),[.t 17,.t 19],none⟩,
 ⟨some 22,(.load none),[.t 21],none⟩,
 ⟨some 9,.mv,[.t 22],none⟩]
def c103r7 : List AOper := [
 ⟨some 23,.mv,[.t 7],none⟩,
 ⟨some 24,.mv,[.t 9],none⟩,
 ⟨some 25,(.build [(none,(.pv none (.int .i64 0))),(none,(.pv none (.int .i64 0))),(none,(.pv none (.str []))),(none,(.tsl (some 4) []))] [0,1]),[.c (.pv none (.int .i64 0)),.t 24],none⟩,
 ⟨some 26,(.bslice (some 4)),[.t 25],none⟩,
 ⟨some 27,(.append (some 4)),[.t 23,.t 26],none⟩,
 ⟨some 7,.mv,[.t 27],none⟩]
def c103k8 : ACode := (.block 1 (.seq (.region true c103r6 [0,7,9,17,18,19]) (.region true c103r7 [0,7,17,18,19])))
def c103r9 : List AOper := [
 ⟨some 28,(.bin .add),[.t 19,.c (.pv none (.int .i64 1))],none⟩,
 ⟨some 19,.mv,[.t 28],none⟩]
def c103b10 : ACode := (.seq (.region true c103r4 [0,7,17,18,19,20]) (.seq c103k5 (.seq c103k8 (.region true c103r9 [0,7,17,18,19]))))
def c103k11 : ACode := (.block 0 (.loop [0,7,17,18,19] c103b10))
def c103r12 : List AOper := [
 ⟨some 29,.mv,[.t 0],none⟩,
 ⟨some 30,.mv,[.t 7],none⟩,
 ⟨some 31,.call,[.c (.pv none (.func (.func 125))),.c (.pv none (.str [91,93]))],none⟩,
 ⟨some 32,.call,[.c (.pv none (.func (.func 131))),.t 30,.t 31],none⟩,
 ⟨some 33,.call,[.c (.pv none (.func (.func 101))),.t 29,.c (.pv none (.int .i64 1)),.t 32],none⟩,
 ⟨some 6,.mv,[.t 33],none⟩]
def c103 : ACode := (.seq (.region true c103r0 [0,4,5]) (.seq (.seq (.settle [5]) (.region true c103r1 [0,4])) (.seq (.region true c103r2 [0,4,7]) (.seq (.seq (.region true c103r3 [0,7,17,18,19]) c103k11) (.seq (.region true c103r12 [6]) .ret)))))
def g103 : AFn := ⟨3,[(6,none)],c103,false,[],[],none⟩
theorem tr103 : trFn Tryz.prog false 103 Tryz.f103 = some g103 := by kernel_rfl
def c104r0 : List AOper := [
 ⟨some 4,(.box (some 4)),[.t 1],none⟩,
 ⟨some 5,(.box (some 4)),[.t 2],none⟩,
 ⟨some 6,(.nilsl (some 4)),[],none⟩,
 ⟨some 7,.mv,[.c (.pv none (.int .i64 0))],none⟩]
def c104r1 : List AOper := [
 ⟨some 10,(.load (some 4)),[.t 5],none⟩,
 ⟨some 11,.callg,[.c (.pv none (.func (.func 71))),.t 10],none⟩,
 ⟨some 12,.not,[.t 11],none⟩,
 ⟨some 13,.mv,[.t 12],none⟩,
 ⟨some 14,(.load (some 4)),[.t 5],some (13,true)⟩,
 ⟨some 15,.callg,[.c (.pv none (.func (.func 74))),.t 14],some (13,true)⟩,
 ⟨some 16,.not,[.t 15],some (13,true)⟩,
 ⟨some 17,.pick,[.t 13,.t 16,.c (.pv none (.bool false))],none⟩,
 ⟨some 18,(.load (some 4)),[.t 5],none⟩,
 ⟨some 19,.callg,[.c (.pv none (.func (.func 123))),.c (.pv none (.str [105,110,116,101,103,101,114])),.t 18],none⟩,
 ⟨some 20,.call,[.c (.pv none (.func (.func 122))),.t 17,.t 19],none⟩]
def c104r2 : List AOper := [
 ⟨some 21,(.load (some 4)),[.t 5],none⟩,
 ⟨some 22,.callg,[.c (.pv none (.func (.func 74))),.t 21],none⟩,
 ⟨some 23,.mv,[.t 22],none⟩,
 ⟨some 24,(.faddr 1),[.t 5],some (23,true)⟩,
 ⟨some 25,(.load none),[.t 24],some (23,true)⟩,
 ⟨some 26,(.bin .lss),[.t 25,.c (.pv none (.int .i64 0))],some (23,true)⟩,
 ⟨some 27,.pick,[.t 23,.t 26,.c (.pv none (.bool false))],none⟩,
 ⟨some 28,(.load (some 4)),[.t 5],none⟩,
 ⟨some 29,.callg,[.c (.pv none (.func (.func 124))),.c (.pv none (.str [110,111,116,95,108,101,115,115,95,116,104,97,110,95,122,101,114,111])),.t 28],none⟩,
 ⟨some 30,.call,[.c (.pv none (.func (.func 122))),.t 27,.t 29],none⟩]
def c104r3 : List AOper := [
 ⟨some 31,(.load (some 4)),[.t 4],none⟩,
 ⟨some 32,.callg,[.c (.pv none (.func (.func 130))),.t 31],none⟩,
 ⟨some 33,.not,[.t 32],none⟩,
 ⟨some 34,(.load (some 4)),[.t 4],none⟩,
 ⟨some 35,.callg,[.c (.pv none (.func (.func 123))),.c (.pv none (.str [108,105,115,116])),.t 34],none⟩,
 ⟨some 36,.call,[.c (.pv none (.func (.func 122))),.t 33,.t 35],none⟩]
def c104r4 : List AOper := [
 ⟨some 38,(.load (some 4)),[.t 4],none⟩,
 ⟨some 39,.call,[.c (.pv none (.func (.func 116))),.t 38],none⟩,
 ⟨some 37,.mv,[.t 39],none⟩,
 ⟨some 40,(.extract 0),[.t 37],none⟩,
 ⟨some 41,(.extract 1),[.t 37],none⟩,
 ⟨some 9,(.alloc (some 4) (.agg [(none,(.pv none (.int .i64 0))),(none,(.pv none (.int .i64 0))),(none,(.pv none (.str []))),(none,(.tsl (some 4) []))])),[],none⟩,
 ⟨some 8,.mv,[.t 40],none⟩,
 ⟨none,(.store (some 4)),[.t 9,.t 41],none⟩]
def c104r5 : List AOper := [
 ⟨some 42,(.load (some 4)),[.t 9],none⟩,
 ⟨some 43,.call,[.c (.pv none (.func (.func 117))),.t 42],none⟩]
def c104r6 : List AOper := [
 ⟨some 44,.mv,[.t 0],none⟩,
 ⟨some 45,.mv,[.t 8],none⟩,
 ⟨some 46,.len,[.t 45],none⟩,
 ⟨some 47,.call,[.c (.pv none (.func (.func 126))),.t 46],none⟩,
 ⟨some 48,.call,[.c (.pv none (.func (.func 101))),.t 44,.c (.pv none (.int .i64 1)),.t 47],none⟩,
 ⟨some 6,.mv,[.t 48],none⟩,
 ⟨some 7,.mv,[.c (.pv none (.int .i64 0))],none⟩]
def c104k7 : ACode := (.cond (.t 43) (.seq (.region true c104r6 [6,7]) .ret) .skip)
def c104r8 : List AOper := [
 ⟨some 49,(.load (some 4)),[.t 5],none⟩,
 ⟨some 50,.call,[.c (.pv none (.func (.func 71))),.t 49],none⟩,
 ⟨some 51,.call,[.c (.pv none (.func (.func 122))),.t 50,.c (.pv none (.func (.func 69)))],none⟩]
def c104r9 : List AOper := [
 ⟨some 52,(.faddr 1),[.t 5],none⟩,
 ⟨some 53,(.load none),[.t 52],none⟩,
 ⟨some 54,.mv,[.t 8],none⟩,
 ⟨some 55,.len,[.t 54],none⟩,
 ⟨some 56,(.bin .lss),[.t 53,.t 55],none⟩]
def c104r10 : List AOper := [
 ⟨some 6,(.nilsl (some 4)),[],none⟩,
 ⟨some 7,.mv,[.c (.pv none (.int .i64 0))],none⟩]
def c104k11 : ACode := (.cond (.t 56) (.seq (.region true c104r10 [6,7]) .ret) .skip)
def c104r12 : List AOper := [
 ⟨some 57,(.faddr 1),[.t 5],none⟩,
 ⟨some 58,(.load none),[.t 57],none⟩,
 ⟨some 59,(.bin .gtr),[.t 58,.c (.pv none (.int .i64 2000))],none⟩]
def c104r13 : List AOper := [
 ⟨some 6,(.nilsl (some 4)),[],none⟩,
 ⟨some 7,.mv,[.c (.pv none (.int .i64 2))],none⟩]
def c104k14 : ACode := (.cond (.t 59) (.seq (.region true c104r13 [6,7]) .ret) .skip)
def c104r15 : List AOper := [
 ⟨some 60,.mv,[.t 8],none⟩,
 ⟨some 61,.len,[.t 60],none⟩,
 ⟨some 62,(.faddr 1),[.t 5],none⟩,
 ⟨some 63,(.load none),[.t 62],none⟩,
 ⟨some 64,(.bin .lss),[.t 61,.t 63],none⟩]
def c104k16 : ACode := (.cond (.t 64) .skip (.exit 0))
def c104r17 : List AOper := [
 ⟨some 65,.mv,[.t 8],none⟩,
 ⟨some 66,.mv,[.t 0],none⟩,
 ⟨some 67,.call,[.c (.pv none (.func (.func 128))),.t 66],none⟩,
 ⟨some 68,(.bslice (some 4)),[.t 67],none⟩,
 ⟨some 69,(.append (some 4)),[.t 65,.t 68],none⟩,
 ⟨some 8,.mv,[.t 69],none⟩]
def c104k18 : ACode := (.block 1 (.region true c104r17 [0,5,8]))
def c104b19 : ACode := (.seq (.seq (.region true c104r15 [0,5,8,64]) c104k16) c104k18)
def c104k20 : ACode := (.block 0 (.loop [0,5,8] c104b19))
def c104r21 : List AOper := [
 ⟨some 70,.mv,[.t 0],none⟩,
 ⟨some 71,.mv,[.t 8],none⟩,
 ⟨some 72,.call,[.c (.pv none (.func (.func 125))),.c (.pv none (.str [91,93]))],none⟩,
 ⟨some 73,.call,[.c (.pv none (.func (.func 131))),.t 71,.t 72],none⟩,
 ⟨some 74,.call,[.c (.pv none (.func (.func 101))),.t 70,.c (.pv none (.int .i64 0)),.t 73],none⟩,
 ⟨some 6,.mv,[.t 74],none⟩,
 ⟨some 7,.mv,[.c (.pv none (.int .i64 0))],none⟩]
def c104 : ACode := (.seq (.region true c104r0 [0,4,5]) (.seq (.region true c104r1 [0,4,5]) (.seq (.region true c104r2 [0,4,5]) (.seq (.region true c104r3 [0,4,5]) (.seq (.region true c104r4 [0,5,8,9]) (.seq (.seq (.region true c104r5 [0,5,8,43]) c104k7) (.seq (.region true c104r8 [0,5,8]) (.seq (.seq (.region true c104r9 [0,5,8,56]) c104k11) (.seq (.seq (.region true c104r12 [0,5,8,59]) c104k14) (.seq c104k20 (.seq (.region true c104r21 [6,7]) .ret)))))))))))
def g104 : AFn := ⟨3,[(6,none),(7,none)],c104,true,[],[],none⟩
theorem tr104 : trFn Tryz.prog true 104 Tryz.f104 = some g104 := by kernel_rfl
def c105r0 : List AOper := [
 ⟨some 5,(.box (some 4)),[.t 1],none⟩,
 ⟨some 6,(.box (some 4)),[.t 2],none⟩,
 ⟨some 7,(.box (some 4)),[.t 3],none⟩,
 ⟨some 8,(.nilsl (some 4)),[],none⟩,
 ⟨some 9,.mv,[.c (.pv none (.int .i64 0))],none⟩]
def c105r1 : List AOper := [
 ⟨some 12,(.load (some 4)),[.t 5],none⟩,
 ⟨some 13,.call,[.c (.pv none (.func (.func 71))),.t 12],none⟩,
 ⟨some 14,.mv,[.t 13],none⟩,
 ⟨some 15,(.load (some 4)),[.t 6],some (14,false)⟩,
 ⟨some 16,.call,[.c (.pv none (.func (.func 71))),.t 15],some (14,false)⟩,
 ⟨some 17,.pick,[.t 14,.c (.pv none (.bool true)),.t 16],none⟩,
 ⟨some 18,.call,[.c (.pv none (.func (.func 122))),.t 17,.c (.pv none (.func (.func 69)))],none⟩]
def c105r2 : List AOper := [
 ⟨some 19,(.load (some 4)),[.t 5],none⟩,
 ⟨some 20,.callp,[.c (.pv none (.func (.func 74))),.t 19],none⟩,
 ⟨some 21,.not,[.t 20],none⟩,
 ⟨some 22,(.load (some 4)),[.t 5],none⟩,
 ⟨some 23,.callp,[.c (.pv none (.func (.func 123))),.c (.pv none (.str [105,110,116,101,103,101,114])),.t 22],none⟩,
 ⟨some 24,.callp,[.c (.pv none (.func (.func 122))),.t 21,.t 23],none⟩]
def c105r3 : List AOper := [
 ⟨some 25,(.load (some 4)),[.t 6],none⟩,
 ⟨some 26,.callp,[.c (.pv none (.func (.func 74))),.t 25],none⟩,
 ⟨some 27,.not,[.t 26],none⟩,
 ⟨some 28,(.load (some 4)),[.t 6],none⟩,
 ⟨some 29,.callp,[.c (.pv none (.func (.func 123))),.c (.pv none (.str [105,110,116,101,103,101,114])),.t 28],none⟩,
 ⟨some 30,.callp,[.c (.pv none (.func (.func 122))),.t 27,.t 29],none⟩]
def c105r4 : List AOper := [
 ⟨some 31,(.load (some 4)),[.t 7],none⟩,
 ⟨some 32,.callp,[.c (.pv none (.func (.func 71))),.t 31],none⟩,
 ⟨some 33,.not,[.t 32],none⟩,
 ⟨some 34,.mv,[.t 33],none⟩,
 ⟨some 35,(.load (some 4)),[.t 7],some (34,true)⟩,
 ⟨some 36,.callp,[.c (.pv none (.func (.func 74))),.t 35],some (34,true)⟩,
 ⟨some 37,.not,[.t 36],some (34,true)⟩,
 ⟨some 38,.pick,[.t 34,.t 37,.c (.pv none (.bool false))],none⟩,
 ⟨some 39,(.load (some 4)),[.t 7],none⟩,
 ⟨some 40,.callp,[.c (.pv none (.func (.func 123))),.c (.pv none (.str [105,110,116,101,103,101,114])),.t 39],none⟩,
 ⟨some 41,.callp,[.c (.pv none (.func (.func 122))),.t 38,.t 40],none⟩]
def c105r5 : List AOper := [
 ⟨some 42,(.load (some 4)),[.t 7],none⟩,
 ⟨some 43,.call,[.c (.pv none (.func (.func 74))),.t 42],none⟩]
def c105r6 : List AOper := [
 ⟨some 44,.mv,[.t 0],none⟩,
 ⟨some 45,(.faddr 1),[.t 5],none⟩,
 ⟨some 46,(.load none),[.t 45],none⟩,
 ⟨some 47,(.faddr 1),[.t 7],none⟩,
 ⟨some 48,(.load none),[.t 47],none⟩,
 ⟨some 49,(.bin .leq),[.t 46,.t 48],none⟩,
 ⟨some 50,.mv,[.t 49],none⟩,
 ⟨some 51,(.faddr 1),[.t 7],some (50,true)⟩,
 ⟨some 52,(.load none),[.t 51],some (50,true)⟩,
 ⟨some 53,(.faddr 1),[.t 6],some (50,true)⟩,
 ⟨some 54,(.load none),[.t 53],some (50,true)⟩,
 ⟨some 55,(.bin .leq),[.t 52,.t 54],some (50,true)⟩,
 ⟨some 56,.pick,[.t 50,.t 55,.c (.pv none (.bool false))],none⟩,
 ⟨some 57,.call,[.c (.pv none (.func (.func 96))),.t 44,.t 56],none⟩,
 ⟨some 8,.mv,[.t 57],none⟩,
 ⟨some 9,.mv,[.c (.pv none (.int .i64 0))],none⟩]
def c105k7 : ACode := (.cond (.t 43) (.seq (.region true c105r6 [8,9]) .ret) .skip)
def c105r8 : List AOper := [
 ⟨some 58,(.faddr 1),[.t 5],none⟩,
 ⟨some 59,(.load none),[.t 58],none⟩,
 ⟨some 60,(.faddr 1),[.t 6],none⟩,
 ⟨some 61,(.load none),[.t 60],none⟩,
 ⟨some 62,(.bin .gtr),[.t 59,.t 61],none⟩]
def c105r9 : List AOper := [
 ⟨some 8,(.nilsl (some 4)),[],none⟩,
 ⟨some 9,.mv,[.c (.pv none (.int .i64 0))],none⟩]
def c105k10 : ACode := (.cond (.t 62) (.seq (.region true c105r9 [8,9]) .ret) .skip)
def c105r11 : List AOper := [
 ⟨some 63,(.faddr 1),[.t 6],none⟩,
 ⟨some 64,(.load none),[.t 63],none⟩,
 ⟨some 65,(.conv .u64),[.t 64],none⟩,
 ⟨some 66,(.faddr 1),[.t 5],none⟩,
 ⟨some 67,(.load none),[.t 66],none⟩,
 ⟨some 68,(.conv .u64),[.t 67],none⟩,
 ⟨some 69,(.bin .sub),[.t 65,.t 68],none⟩,
 ⟨some 70,(.bin .geq),[.t 69,.c (.pv none (.int .u64 1000))],none⟩]
def c105r12 : List AOper := [
 ⟨some 8,(.nilsl (some 4)),[],none⟩,
 ⟨some 9,.mv,[.c (.pv none (.int .i64 2))],none⟩]
def c105k13 : ACode := (.cond (.t 70) (.seq (.region true c105r12 [8,9]) .ret) .skip)
def c105r14 : List AOper := [
 ⟨some 10,(.nilsl (some 4)),[],none⟩]
def c105r15 : List AOper := [
 ⟨some 71,(.faddr 1),[.t 6],none⟩,
 ⟨some 72,(.load none),[.t 71],none⟩,
 ⟨some 73,(.faddr 1),[.t 5],none⟩,
 ⟨some 74,(.load none),[.t 73],none⟩,
 ⟨some 75,(.bin .sub),[.t 72,.t 74],none⟩,
 ⟨some 76,(.bin .add),[.t 75,.c (.pv none (.int .i64 1))],none⟩,
 ⟨some 77,.mv,[.c (.pv none (.int .i64 0))],none⟩]
def c105r16 : List AOper := [
 ⟨some 78,(.bin .lss),[.t 77,.t 76],none⟩]
def c105k17 : ACode := (.cond (.t 78) .skip (.exit 0))
def c105r18 : List AOper := [
 ⟨some 79,.mv,[.t 77],none⟩,
 ⟨some 11,.mv,[.t 79],none⟩]
def c105r19 : List AOper := [
 ⟨some 80,.mv,[.t 10],none⟩,
 ⟨some 81,.mv,[.t 0],none⟩,
 ⟨some 82,(.faddr 1),[.t 5],none⟩,
 ⟨some 83,(.load none),[.t 82],none⟩,
 ⟨some 84,.mv,[.t 11],none⟩,
 ⟨some 85,(.bin .add),[.t 83,.t 84],none⟩,
 ⟨some 86,(.build [(none,(.pv none (.int .i64 0))),(none,(.pv none (.int .i64 0))),(none,(.pv none (.str []))),(none,(.tsl (some 4) []))] [0,1]),[.c (.pv none (.int .i64 1)),.t 85],none⟩,
 ⟨some 87,.call,[.c (.pv none (.func (.func 101))),.t 81,.c (.pv none (.int .i64 2)),.t 86],none⟩,
 ⟨some 88,(.append (some 4)),[.t 80,.t 87],none⟩,
 ⟨some 10,.mv,[.t 88],none⟩]
def c105k20 : ACode := (.block 1 (.seq (.region true c105r18 [0,5,10,11,76,77]) (.region true c105r19 [0,5,10,76,77])))
def c105r21 : List AOper := [
 ⟨some 89,(.bin .add),[.t 77,.c (.pv none (.int .i64 1))],none⟩,
 ⟨some 77,.mv,[.t 89],none⟩]
def c105b22 : ACode := (.seq (.region true c105r16 [0,5,10,76,77,78]) (.seq c105k17 (.seq c105k20 (.region true c105r21 [0,5,10,76,77]))))
def c105k23 : ACode := (.block 0 (.loop [0,5,10,76,77] c105b22))
def c105r24 : List AOper := [
 ⟨some 90,.mv,[.t 10],none⟩,
 ⟨some 8,.mv,[.t 90],none⟩,
 ⟨some 9,.mv,[.c (.pv none (.int .i64 0))],none⟩]
def c105 : ACode := (.seq (.region true c105r0 [0,5,6,7]) (.seq (.region true c105r1 [0,5,6,7]) (.seq (.seq (.settle [5]) (.region true c105r2 [0,5,6,7])) (.seq (.seq (.settle [6]) (.region true c105r3 [0,5,6,7])) (.seq (.seq (.settle [7]) (.region true c105r4 [0,5,6,7])) (.seq (.seq (.region true c105r5 [0,5,6,7,43]) c105k7) (.seq (.seq (.region true c105r8 [0,5,6,62]) c105k10) (.seq (.seq (.region true c105r11 [0,5,6,70]) c105k13) (.seq (.region true c105r14 [0,5,6,10]) (.seq (.seq (.region true c105r15 [0,5,10,76,77]) c105k23) (.seq (.region true c105r24 [8,9]) .ret)))))))))))
def g105 : AFn := ⟨4,[(8,none),(9,none)],c105,false,[],[],none⟩
theorem tr105 : trFn Tryz.prog false 105 Tryz.f105 = some g105 := by kernel_rfl
def c106r0 : List AOper := [
 ⟨some 4,(.box (some 4)),[.t 1],none⟩,
 ⟨some 5,(.box (some 4)),[.t 2],none⟩,
 ⟨some 6,(.nilsl (some 4)),[],none⟩]
def c106r1 : List AOper := [
 ⟨some 12,(.load (some 4)),[.t 4],none⟩,
 ⟨some 13,.call,[.c (.pv none (.func (.func 132))),.t 12],none⟩,
 ⟨some 14,.call,[.c (.pv none (.func (.func 122))),.t 13,.c (.pv none (.func (.func 69)))],none⟩]
def c106r2 : List AOper := [
 ⟨some 15,(.load (some 4)),[.t 4],none⟩,
 ⟨some 16,.callg,[.c (.pv none (.func (.func 77))),.t 15],none⟩,
 ⟨some 17,.not,[.t 16],none⟩,
 ⟨some 18,(.load (some 4)),[.t 4],none⟩,
 ⟨some 19,.callg,[.c (.pv none (.func (.func 123))),.c (.pv none (.str [108,105,115,116])),.t 18],none⟩,
 ⟨some 20,.call,[.c (.pv none (.func (.func 122))),.t 17,.t 19],none⟩]
def c106r3 : List AOper := [
 ⟨some 22,(.load (some 4)),[.t 4],none⟩,
 ⟨some 23,.call,[.c (.pv none (.func (.func 116))),.t 22],none⟩,
 ⟨some 21,.mv,[.t 23],none⟩,
 ⟨some 24,(.extract 0),[.t 21],none⟩,
 ⟨some 25,(.extract 1),[.t 21],none⟩,
 ⟨some 8,(.alloc (some 4) (.agg [(none,(.pv none (.int .i64 0))),(none,(.pv none (.int .i64 0))),(none,(.pv none (.str []))),(none,(.tsl (some 4) []))])),[],none⟩,
 ⟨some 7,.mv,[.t 24],none⟩,
 ⟨none,(.store (some 4)),[.t 8,.t 25],none⟩]
def c106r4 : List AOper := [
 ⟨some 9,.mv,[.c (.pv none (.func (.func 34)))],none⟩]
def c106r5 : List AOper := [
 ⟨some 26,.mv,[.t 0],none⟩,
 ⟨some 27,.nilcheck,[.t 26],none⟩,
 ⟨some 28,(.faddr 0),[.t 27],none⟩,
 ⟨some 29,(.faddr 2),[.t 28],none⟩,
 ⟨some 30,(.load none),[.t 29],none⟩]
def c106r6 : List AOper := [
 ⟨some 32,(.bin .eql),[.t 30,.c (.pv none (.str [115,111,114,116]))],none⟩,
 ⟨some 31,.mv,[.t 32],none⟩]
def c106r7 : List AOper := [
 ⟨some 9,.mv,[.c (.pv none (.func (.func 35)))],none⟩]
def c106r8 : List AOper := [
 ⟨some 34,(.bin .eql),[.t 30,.c (.pv none (.str [107,101,121,115,111,114,116]))],none⟩,
 ⟨some 33,.mv,[.t 34],none⟩]
def c106r9 : List AOper := [
 ⟨some 9,.mv,[.c (.pv none (.func (.func 36)))],none⟩]
def c106r10 : List AOper := [
 ⟨some 35,.mv,[.t 7],none⟩,
 ⟨some 36,.len,[.t 35],none⟩,
 ⟨some 37,.mv,[.c (.pv none (.int .i64 0))],none⟩]
def c106r11 : List AOper := [
 ⟨some 38,(.bin .lss),[.t 37,.t 36],none⟩]
def c106k12 : ACode := (.cond (.t 38) .skip (.exit 1))
def c106r13 : List AOper := [
 ⟨some 39,(.iaddr (some 4)),[.t 35,.t 37],none⟩,
 ⟨some 40,(.load (some 4)),[.t 39],none⟩,
 ⟨some 11,(.alloc (some 4) (.agg [(none,(.pv none (.int .i64 0))),(none,(.pv none (.int .i64 0))),(none,(.pv none (.str []))),(none,(.tsl (some 4) []))])),[],none⟩,
 ⟨none,(.store (some 4)),[.t 11,.t 40],none⟩]
def c106r14 : List AOper := [
 ⟨some 41,(.load (some 4)),[.t 11],none⟩,
 ⟨some 42,.call,[.c (.pv none (.func (.func 71))),.t 41],none⟩,
 ⟨some 43,.call,[.c (.pv none (.func (.func 122))),.t 42,.c (.pv none (.func (.func 69)))],none⟩]
def c106r15 : List AOper := [
 ⟨some 44,(.load (some 4)),[.t 11],none⟩,
 ⟨some 45,.callg,[.c (.pv none (.func (.func 47))),.t 44],none⟩,
 ⟨some 46,.not,[.t 45],none⟩,
 ⟨some 47,.mv,[.t 46],none⟩,
 ⟨some 48,(.faddr 2),[.t 11],some (47,false)⟩,
 ⟨some 49,(.load none),[.t 48],some (47,false)⟩,
 ⟨some 50,(.bin .neq),[.t 49,.c (.pv none (.str [45]))],some (47,false)⟩,
 ⟨some 51,.pick,[.t 47,.c (.pv none (.bool true)),.t 50],none⟩,
 ⟨some 52,.mv,[.t 51],none⟩,
 ⟨some 53,(.faddr 3),[.t 11],some (52,false)⟩,
 ⟨some 54,(.load none),[.t 53],some (52,false)⟩,
 ⟨some 55,.len,[.t 54],some (52,false)⟩,
 ⟨some 56,(.bin .neq),[.t 55,.c (.pv none (.int .i64 2))],some (52,false)⟩,
 ⟨some 57,.pick,[.t 52,.c (.pv none (.bool true)),.t 56],none⟩,
 ⟨some 58,(.load (some 4)),[.t 11],none⟩,
 ⟨some 59,.callg,[.c (.pv none (.func (.func 123))),.c (.pv none (.str [112,97,105,114])),.t 58],none⟩,
 ⟨some 60,.call,[.c (.pv none (.func (.func 122))),.t 57,.t 59],none⟩]
def c106k16 : ACode := (.block 2 (.seq (.region true c106r13 [0,5,7,9,11,35,36,37]) (.seq (.region true c106r14 [0,5,7,9,11,35,36,37]) (.region true c106r15 [0,5,7,9,35,36,37]))))
def c106r17 : List AOper := [
 ⟨some 61,(.bin .add),[.t 37,.c (.pv none (.int .i64 1))],none⟩,
 ⟨some 37,.mv,[.t 61],none⟩]
def c106b18 : ACode := (.seq (.region true c106r11 [0,5,7,9,35,36,37,38]) (.seq c106k12 (.seq c106k16 (.region true c106r17 [0,5,7,9,35,36,37]))))
def c106k19 : ACode := (.block 1 (.loop [0,5,7,9,35,36,37] c106b18))
def c106k20 : ACode := (.cond (.t 33) (.seq (.region true c106r9 [0,5,7,9]) (.seq (.region true c106r10 [0,5,7,9,35,36,37]) c106k19)) .skip)
def c106k21 : ACode := (.cond (.t 31) (.region true c106r7 [0,5,7,9]) (.seq (.region true c106r8 [0,5,7,9,33]) c106k20))
def c106k22 : ACode := (.block 0 (.seq (.region true c106r6 [0,5,7,9,30,31]) c106k21))
def c106r23 : List AOper := [
 ⟨some 62,(.load (some 4)),[.t 5],none⟩,
 ⟨some 63,.callg,[.c (.pv none (.func (.func 130))),.t 62],none⟩,
 ⟨some 64,.not,[.t 63],none⟩,
 ⟨some 65,(.load (some 4)),[.t 5],none⟩,
 ⟨some 66,.callg,[.c (.pv none (.func (.func 123))),.c (.pv none (.str [108,105,115,116])),.t 65],none⟩,
 ⟨some 67,.call,[.c (.pv none (.func (.func 122))),.t 64,.t 66],none⟩]
def c106r24 : List AOper := [
 ⟨some 69,.mv,[.t 9],none⟩,
 ⟨some 70,.mv,[.t 7],none⟩,
 ⟨some 71,.call,[.t 69,.t 70],none⟩,
 ⟨some 68,.mv,[.t 71],none⟩,
 ⟨some 72,(.extract 0),[.t 68],none⟩,
 ⟨some 73,(.extract 1),[.t 68],none⟩,
 ⟨some 7,.mv,[.t 72],none⟩]
def c106r25 : List AOper := [
 ⟨some 74,.mv,[.t 0],none⟩,
 ⟨some 75,.mv,[.t 7],none⟩,
 ⟨some 76,.call,[.c (.pv none (.func (.func 125))),.c (.pv none (.str [91,93]))],none⟩,
 ⟨some 77,.call,[.c (.pv none (.func (.func 131))),.t 75,.t 76],none⟩,
 ⟨some 78,.call,[.c (.pv none (.func (.func 101))),.t 74,.c (.pv none (.int .i64 1)),.t 77],none⟩,
 ⟨some 6,.mv,[.t 78],none⟩]
def c106 : ACode := (.seq (.region true c106r0 [0,4,5]) (.seq (.region true c106r1 [0,4,5]) (.seq (.region true c106r2 [0,4,5]) (.seq (.region true c106r3 [0,5,7]) (.seq (.region true c106r4 [0,5,7,9]) (.seq (.seq (.region true c106r5 [0,5,7,9,30]) c106k22) (.seq (.region true c106r23 [0,7,9]) (.seq (.region true c106r24 [0,7]) (.seq (.region true c106r25 [6]) .ret)))))))))
def g106 : AFn := ⟨3,[(6,none)],c106,true,[],[],none⟩
theorem tr106 : trFn Tryz.prog true 106 Tryz.f106 = some g106 := by kernel_rfl
def c107r0 : List AOper := [
 ⟨some 1,(.box (some 4)),[.t 0],none⟩,
 ⟨some 2,(.alloc (some 4) (.agg [(none,(.pv none (.int .i64 0))),(none,(.pv none (.int .i64 0))),(none,(.pv none (.str []))),(none,(.tsl (some 4) []))])),[],none⟩]
def c107r1 : List AOper := [
 ⟨some 3,(.load (some 4)),[.t 1],none⟩,
 ⟨none,(.store (some 4)),[.t 2,.t 3],none⟩]
def c107 : ACode := (.seq (.region true c107r0 [1,2]) (.seq (.region true c107r1 [2]) .ret))
def g107 : AFn := ⟨1,[(2,some (some 4))],c107,false,[],[],none⟩
theorem tr107 : trFn Tryz.prog false 107 Tryz.f107 = some g107 := by kernel_rfl
def c108r0 : List AOper := [
 ⟨some 6,.mv,[.c (.pv none (.bool false))],none⟩]
def c108r1 : List AOper := [
 ⟨some 11,.mv,[.t 2],none⟩,
 ⟨some 12,.mv,[.t 1],none⟩,
 ⟨some 13,(.lookup false none (.pv none (.int .i64 0)) false),[.t 11,.t 12],none⟩,
 ⟨some 14,(.bin .neq),[.t 13,.c (.pv none (.int .i64 0))],none⟩]
def c108r2 : List AOper := [
 ⟨some 15,.mv,[.t 2],none⟩,
 ⟨some 16,.mv,[.t 1],none⟩,
 ⟨some 17,(.lookup false none (.pv none (.int .i64 0)) false),[.t 15,.t 16],none⟩,
 ⟨some 18,(.bin .eql),[.t 17,.c (.pv none (.int .i64 1))],none⟩,
 ⟨some 6,.mv,[.t 18],none⟩]
def c108k3 : ACode := (.cond (.t 14) (.seq (.region true c108r2 [6]) .ret) .skip)
def c108r4 : List AOper := [
 ⟨some 20,.mv,[.t 0],none⟩,
 ⟨some 21,.mv,[.t 1],none⟩,
 ⟨some 22,(.build [(none,(.pv none (.int .i64 0))),(none,(.pv none (.int .i64 0))),(none,(.pv none (.str []))),(none,(.tsl (some 4) []))] [1]),[.t 21],none⟩,
 ⟨some 23,.call,[.c (.pv none (.func (.func 133))),.t 20,.t 22],none⟩,
 ⟨some 19,.mv,[.t 23],none⟩,
 ⟨some 24,(.extract 0),[.t 19],none⟩,
 ⟨some 25,(.extract 1),[.t 19],none⟩,
 ⟨some 7,(.alloc (some 4) (.agg [(none,(.pv none (.int .i64 0))),(none,(.pv none (.int .i64 0))),(none,(.pv none (.str []))),(none,(.tsl (some 4) []))])),[],none⟩,
 ⟨none,(.store (some 4)),[.t 7,.t 24],none⟩,
 ⟨some 8,.mv,[.t 25],none⟩]
def c108r5 : List AOper := [
 ⟨some 26,.mv,[.t 8],none⟩,
 ⟨some 27,.not,[.t 26],none⟩]
def c108r6 : List AOper := [
 ⟨some 6,.mv,[.c (.pv none (.bool false))],none⟩]
def c108k7 : ACode := (.cond (.t 27) (.seq (.region true c108r6 [6]) .ret) .skip)
def c108r8 : List AOper := [
 ⟨some 28,.mv,[.t 2],none⟩,
 ⟨some 29,.mv,[.t 1],none⟩,
 ⟨none,(.mapset false none),[.t 28,.t 29,.c (.pv none (.int .i64 1))],none⟩]
def c108r9 : List AOper := [
 ⟨some 30,(.load (some 4)),[.t 7],none⟩,
 ⟨some 31,.call,[.c (.pv none (.func (.func 49))),.t 30],none⟩,
 ⟨some 32,.len,[.t 31],none⟩,
 ⟨some 33,.mv,[.c (.pv none (.int .i64 0))],none⟩]
def c108r10 : List AOper := [
 ⟨some 34,(.bin .lss),[.t 33,.t 32],none⟩]
def c108k11 : ACode := (.cond (.t 34) .skip (.exit 0))
def c108r12 : List AOper := [
 ⟨some 35,(.iaddr none),[.t 31,.t 33],none⟩,
 ⟨some 36,(.load none),[.t 35],none⟩,
 ⟨some 10,.mv,[.t 36],none⟩]
def c108r13 : List AOper := [
 ⟨some 37,.mv,[.t 0],none⟩,
 ⟨some 38,.mv,[.t 10],none⟩,
 ⟨some 39,.mv,[.t 2],none⟩,
 ⟨some 40,.call,[.c (.pv none (.func (.func 108))),.t 37,.t 38,.t 39],none⟩]
def c108r14 : List AOper := [
 ⟨some 6,.mv,[.c (.pv none (.bool true))],none⟩]
def c108k15 : ACode := (.cond (.t 40) (.seq (.region true c108r14 [6]) .ret) .skip)
def c108k16 : ACode := (.block 1 (.seq (.region true c108r12 [0,1,2,10,31,32,33]) (.seq (.region true c108r13 [0,1,2,31,32,33,40]) c108k15)))
def c108r17 : List AOper := [
 ⟨some 41,(.bin .add),[.t 33,.c (.pv none (.int .i64 1))],none⟩,
 ⟨some 33,.mv,[.t 41],none⟩]
def c108b18 : ACode := (.seq (.region true c108r10 [0,1,2,31,32,33,34]) (.seq c108k11 (.seq c108k16 (.region true c108r17 [0,1,2,31,32,33]))))
def c108k19 : ACode := (.block 0 (.loop [0,1,2,31,32,33] c108b18))
def c108r20 : List AOper := [
 ⟨some 42,.mv,[.t 2],none⟩,
 ⟨some 43,.mv,[.t 1],none⟩,
 ⟨none,(.mapset false none),[.t 42,.t 43,.c (.pv none (.int .i64 2))],none⟩]
def c108r21 : List AOper := [
 ⟨some 6,.mv,[.c (.pv none (.bool false))],none⟩]
def c108 : ACode := (.seq (.region true c108r0 [0,1,2]) (.seq (.seq (.region true c108r1 [0,1,2,14]) c108k3) (.seq (.region true c108r4 [0,1,2,7,8]) (.seq (.seq (.region true c108r5 [0,1,2,7,27]) c108k7) (.seq (.region true c108r8 [0,1,2,7]) (.seq (.seq (.region true c108r9 [0,1,2,31,32,33]) c108k19) (.seq (.region true c108r20 []) (.seq (.region true c108r21 [6]) .ret))))))))
def g108 : AFn := ⟨3,[(6,none)],c108,false,[],[],none⟩
theorem tr108 : trFn Tryz.prog false 108 Tryz.f108 = some g108 := by kernel_rfl
def c109r0 : List AOper := [
 ⟨some 3,(.box (some 4)),[.t 1],none⟩,
 ⟨some 4,(.alloc (some 4) (.agg [(none,(.pv none (.int .i64 0))),(none,(.pv none (.int .i64 0))),(none,(.pv none (.str []))),(none,(.tsl (some 4) []))])),[],none⟩]
def c109r1 : List AOper := [
 ⟨some 8,.mv,[.t 0],none⟩,
 ⟨some 9,(.load (some 4)),[.t 3],none⟩,
 ⟨some 10,.call,[.c (.pv none (.func (.func 133))),.t 8,.t 9],none⟩,
 ⟨some 7,.mv,[.t 10],none⟩,
 ⟨some 11,(.extract 0),[.t 7],none⟩,
 ⟨some 12,(.extract 1),[.t 7],none⟩,
 ⟨some 5,(.alloc (some 4) (.agg [(none,(.pv none (.int .i64 0))),(none,(.pv none (.int .i64 0))),(none,(.pv none (.str []))),(none,(.tsl (some 4) []))])),[],none⟩,
 ⟨none,(.store (some 4)),[.t 5,.t 11],none⟩,
 ⟨some 6,.mv,[.t 12],none⟩]
def c109r2 : List AOper := [
 ⟨some 13,.mv,[.t 6],none⟩,
 ⟨some 14,.not,[.t 13],none⟩]
def c109r3 : List AOper := [
 ⟨some 15,(.load (some 4)),[.t 3],none⟩,
 ⟨none,(.store (some 4)),[.t 4,.t 15],none⟩]
def c109k4 : ACode := (.cond (.t 14) (.seq (.region true c109r3 [4]) .ret) .skip)
def c109r5 : List AOper := [
 ⟨some 16,(.load (some 4)),[.t 5],none⟩,
 ⟨none,(.store (some 4)),[.t 3,.t 16],none⟩]
def c109k6 : ACode := (.block 1 (.seq (.region true c109r1 [0,3,4,5,6]) (.seq (.seq (.region true c109r2 [0,3,4,5,14]) c109k4) (.region true c109r5 [0,3,4]))))
def c109b7 : ACode := c109k6
def c109k8 : ACode := (.block 0 (.loop [0,3,4] c109b7))
def c109 : ACode := (.seq (.region true c109r0 [0,3,4]) c109k8)
def g109 : AFn := ⟨2,[(4,some (some 4))],c109,false,[],[],none⟩
theorem tr109 : trFn Tryz.prog false 109 Tryz.f109 = some g109 := by kernel_rfl
def c110r0 : List AOper := [
 ⟨some 4,(.box (some 4)),[.t 1],none⟩,
 ⟨some 5,(.box (some 4)),[.t 2],none⟩,
 ⟨some 6,.mv,[.c (.pv none (.bool false))],none⟩]
def c110r1 : List AOper := [
 ⟨some 8,(.faddr 0),[.t 4],none⟩,
 ⟨some 9,(.load none),[.t 8],none⟩,
 ⟨some 10,(.bin .eql),[.t 9,.c (.pv none (.int .i64 0))],none⟩,
 ⟨some 11,.mv,[.t 10],none⟩,
 ⟨some 12,(.faddr 0),[.t 5],some (11,true)⟩,
 ⟨some 13,(.load none),[.t 12],some (11,true)⟩,
 ⟨some 14,(.bin .eql),[.t 13,.c (.pv none (.int .i64 0))],some (11,true)⟩,
 ⟨some 15,.pick,[.t 11,.t 14,.c (.pv none (.bool false))],none⟩,
 ⟨some 7,.mv,[.t 15],none⟩]
def c110r2 : List AOper := [
 ⟨some 16,(.faddr 1),[.t 4],none⟩,
 ⟨some 17,(.load none),[.t 16],none⟩,
 ⟨some 18,(.faddr 1),[.t 5],none⟩,
 ⟨some 19,(.load none),[.t 18],none⟩,
 ⟨some 20,(.bin .neq),[.t 17,.t 19],none⟩]
def c110r3 : List AOper := [
 ⟨some 21,.mv,[.t 0],none⟩,
 ⟨some 22,(.faddr 1),[.t 4],none⟩,
 ⟨some 23,(.load none),[.t 22],none⟩,
 ⟨some 24,(.faddr 1),[.t 5],none⟩,
 ⟨some 25,(.load none),[.t 24],none⟩,
 ⟨some 26,.max,[.t 23,.t 25],none⟩,
 ⟨some 27,(.faddr 1),[.t 4],none⟩,
 ⟨some 28,(.load none),[.t 27],none⟩,
 ⟨some 29,(.faddr 1),[.t 5],none⟩,
 ⟨some 30,(.load none),[.t 29],none⟩,
 ⟨some 31,.min,[.t 28,.t 30],none⟩,
 ⟨some 32,(.build [(none,(.pv none (.int .i64 0))),(none,(.pv none (.int .i64 0))),(none,(.pv none (.str []))),(none,(.tsl (some 4) []))] [1]),[.t 31],none⟩,
 ⟨some 33,.call,[.c (.pv none (.func (.func 134))),.t 21,.t 26,.t 32],none⟩]
def c110k4 : ACode := (.cond (.t 20) (.region true c110r3 []) .skip)
def c110r5 : List AOper := [
 ⟨some 35,(.faddr 0),[.t 4],none⟩,
 ⟨some 36,(.load none),[.t 35],none⟩,
 ⟨some 37,(.bin .eql),[.t 36,.c (.pv none (.int .i64 0))],none⟩,
 ⟨some 34,.mv,[.t 37],none⟩]
def c110r6 : List AOper := [
 ⟨some 38,.mv,[.t 0],none⟩,
 ⟨some 39,(.faddr 1),[.t 4],none⟩,
 ⟨some 40,(.load none),[.t 39],none⟩,
 ⟨some 41,(.load (some 4)),[.t 5],none⟩,
 ⟨some 42,.call,[.c (.pv none (.func (.func 134))),.t 38,.t 40,.t 41],none⟩]
def c110r7 : List AOper := [
 ⟨some 44,(.faddr 0),[.t 5],none⟩,
 ⟨some 45,(.load none),[.t 44],none⟩,
 ⟨some 46,(.bin .eql),[.t 45,.c (.pv none (.int .i64 0))],none⟩,
 ⟨some 43,.mv,[.t 46],none⟩]
def c110r8 : List AOper := [
 ⟨some 47,.mv,[.t 0],none⟩,
 ⟨some 48,(.faddr 1),[.t 5],none⟩,
 ⟨some 49,(.load none),[.t 48],none⟩,
 ⟨some 50,(.load (some 4)),[.t 4],none⟩,
 ⟨some 51,.call,[.c (.pv none (.func (.func 134))),.t 47,.t 49,.t 50],none⟩]
def c110r9 : List AOper := [
 ⟨some 53,(.faddr 0),[.t 4],none⟩,
 ⟨some 54,(.load none),[.t 53],none⟩,
 ⟨some 55,(.faddr 0),[.t 5],none⟩,
 ⟨some 56,(.load none),[.t 55],none⟩,
 ⟨some 57,(.bin .neq),[.t 54,.t 56],none⟩,
 ⟨some 58,.mv,[.t 57],none⟩,
 ⟨some 59,(.faddr 1),[.t 4],some (58,false)⟩,
 ⟨some 60,(.load none),[.t 59],some (58,false)⟩,
 ⟨some 61,(.faddr 1),[.t 5],some (58,false)⟩,
 ⟨some 62,(.load none),[.t 61],some (58,false)⟩,
 ⟨some 63,(.bin .neq),[.t 60,.t 62],some (58,false)⟩,
 ⟨some 64,.pick,[.t 58,.c (.pv none (.bool true)),.t 63],none⟩,
 ⟨some 65,.mv,[.t 64],none⟩,
 ⟨some 66,(.faddr 2),[.t 4],some (65,false)⟩,
 ⟨some 67,(.load none),[.t 66],some (65,false)⟩,
 ⟨some 68,(.faddr 2),[.t 5],some (65,false)⟩,
 ⟨some 69,(.load none),[.t 68],some (65,false)⟩,
 ⟨some 70,(.bin .neq),[.t 67,.t 69],some (65,false)⟩,
 ⟨some 71,.pick,[.t 65,.c (.pv none (.bool true)),.t 70],none⟩,
 ⟨some 72,.mv,[.t 71],none⟩,
 ⟨some 73,(.faddr 3),[.t 4],some (72,false)⟩,
 ⟨some 74,(.load none),[.t 73],some (72,false)⟩,
 ⟨some 75,.len,[.t 74],some (72,false)⟩,
 ⟨some 76,(.faddr 3),[.t 5],some (72,false)⟩,
 ⟨some 77,(.load none),[.t 76],some (72,false)⟩,
 ⟨some 78,.len,[.t 77],some (72,false)⟩,
 ⟨some 79,(.bin .neq),[.t 75,.t 78],some (72,false)⟩,
 ⟨some 80,.pick,[.t 72,.c (.pv none (.bool true)),.t 79],none⟩,
 ⟨some 52,.mv,[.t 80],none⟩]
def c110r10 : List AOper := [
 ⟨some 81,(.build [(none,(.pv none (.int .i64 0)))] [0]),[.c (.pv none (.int .i64 4))],none⟩,
 ⟨some 82,(.mkiface 82),[.t 81],none⟩,
 ⟨none,.panic,[.t 82],none⟩]
def c110r11 : List AOper := [
 ⟨some 6,.mv,[.c (.pv none (.bool true))],none⟩]
def c110k12 : ACode := (.cond (.t 52) (.region true c110r10 []) (.seq (.region true c110r11 [6]) .ret))
def c110k13 : ACode := (.cond (.t 43) (.region true c110r8 []) (.seq (.region true c110r9 [52]) c110k12))
def c110k14 : ACode := (.cond (.t 34) (.region true c110r6 []) (.seq (.region true c110r7 [0,4,5,43]) c110k13))
def c110k15 : ACode := (.cond (.t 7) (.seq (.region true c110r2 [0,4,5,20]) c110k4) (.seq (.region true c110r5 [0,4,5,34]) c110k14))
def c110k16 : ACode := (.block 0 (.seq (.region true c110r1 [0,4,5,7]) c110k15))
def c110r17 : List AOper := [
 ⟨some 6,.mv,[.c (.pv none (.bool false))],none⟩]
def c110 : ACode := (.seq (.region true c110r0 [0,4,5]) (.seq c110k16 (.seq (.region true c110r17 [6]) .ret)))
def g110 : AFn := ⟨3,[(6,none)],c110,false,[],[],none⟩
theorem tr110 : trFn Tryz.prog false 110 Tryz.f110 = some g110 := by kernel_rfl
def c111r0 : List AOper := [
 ⟨some 1,(.box (some 4)),[.t 0],none⟩,
 ⟨some 2,.mv,[.c (.pv none (.bool false))],none⟩]
def c111r1 : List AOper := [
 ⟨some 3,(.faddr 0),[.t 1],none⟩,
 ⟨some 4,(.load none),[.t 3],none⟩]
def c111r2 : List AOper := [
 ⟨some 6,(.bin .eql),[.t 4,.c (.pv none (.int .i64 0))],none⟩,
 ⟨some 5,.mv,[.t 6],none⟩]
def c111r3 : List AOper := [
 ⟨some 7,(.faddr 1),[.t 1],none⟩,
 ⟨some 8,(.load none),[.t 7],none⟩,
 ⟨some 9,(.bin .geq),[.t 8,.c (.pv none (.int .i64 0))],none⟩,
 ⟨some 10,.mv,[.t 9],none⟩,
 ⟨some 11,(.faddr 1),[.t 1],some (10,true)⟩,
 ⟨some 12,(.load none),[.t 11],some (10,true)⟩,
 ⟨some 13,(.bin .leq),[.t 12,.c (.pv none (.int .i64 1099511627776))],some (10,true)⟩,
 ⟨some 14,.pick,[.t 10,.t 13,.c (.pv none (.bool false))],none⟩,
 ⟨some 15,.mv,[.t 14],none⟩,
 ⟨some 16,(.faddr 2),[.t 1],some (15,true)⟩,
 ⟨some 17,(.load none),[.t 16],some (15,true)⟩,
 ⟨some 18,(.bin .eql),[.t 17,.c (.pv none (.str []))],some (15,true)⟩,
 ⟨some 19,.pick,[.t 15,.t 18,.c (.pv none (.bool false))],none⟩,
 ⟨some 20,.mv,[.t 19],none⟩,
 ⟨some 21,(.faddr 3),[.t 1],some (20,true)⟩,
 ⟨some 22,(.load none),[.t 21],some (20,true)⟩,
 ⟨some 23,.len,[.t 22],some (20,true)⟩,
 ⟨some 24,(.bin .eql),[.t 23,.c (.pv none (.int .i64 0))],some (20,true)⟩,
 ⟨some 25,.pick,[.t 20,.t 24,.c (.pv none (.bool false))],none⟩,
 ⟨some 2,.mv,[.t 25],none⟩]
def c111r4 : List AOper := [
 ⟨some 27,(.bin .eql),[.t 4,.c (.pv none (.int .i64 1))],none⟩,
 ⟨some 26,.mv,[.t 27],none⟩]
def c111r5 : List AOper := [
 ⟨some 28,(.faddr 2),[.t 1],none⟩,
 ⟨some 29,(.load none),[.t 28],none⟩,
 ⟨some 30,(.bin .eql),[.t 29,.c (.pv none (.str []))],none⟩,
 ⟨some 31,.mv,[.t 30],none⟩,
 ⟨some 32,(.faddr 3),[.t 1],some (31,true)⟩,
 ⟨some 33,(.load none),[.t 32],some (31,true)⟩,
 ⟨some 34,.len,[.t 33],some (31,true)⟩,
 ⟨some 35,(.bin .eql),[.t 34,.c (.pv none (.int .i64 0))],some (31,true)⟩,
 ⟨some 36,.pick,[.t 31,.t 35,.c (.pv none (.bool false))],none⟩,
 ⟨some 2,.mv,[.t 36],none⟩]
def c111r6 : List AOper := [
 ⟨some 38,(.bin .eql),[.t 4,.c (.pv none (.int .i64 2))],none⟩,
 ⟨some 37,.mv,[.t 38],none⟩]
def c111r7 : List AOper := [
 ⟨some 39,(.faddr 1),[.t 1],none⟩,
 ⟨some 40,(.load none),[.t 39],none⟩,
 ⟨some 41,(.bin .eql),[.t 40,.c (.pv none (.int .i64 0))],none⟩,
 ⟨some 42,.mv,[.t 41],none⟩,
 ⟨some 43,(.faddr 2),[.t 1],some (42,true)⟩,
 ⟨some 44,(.load none),[.t 43],some (42,true)⟩,
 ⟨some 45,.slen,[.t 44],some (42,true)⟩,
 ⟨some 46,(.bin .leq),[.t 45,.c (.pv none (.int .i64 100))],some (42,true)⟩,
 ⟨some 47,.pick,[.t 42,.t 46,.c (.pv none (.bool false))],none⟩,
 ⟨some 48,.mv,[.t 47],none⟩,
 ⟨some 49,(.faddr 3),[.t 1],some (48,true)⟩,
 ⟨some 50,(.load none),[.t 49],some (48,true)⟩,
 ⟨some 51,.len,[.t 50],some (48,true)⟩,
 ⟨some 52,(.bin .eql),[.t 51,.c (.pv none (.int .i64 0))],some (48,true)⟩,
 ⟨some 53,.pick,[.t 48,.t 52,.c (.pv none (.bool false))],none⟩,
 ⟨some 2,.mv,[.t 53],none⟩]
def c111r8 : List AOper := [
 ⟨some 55,(.bin .eql),[.t 4,.c (.pv none (.int .i64 3))],none⟩,
 ⟨some 54,.mv,[.t 55],none⟩]
def c111r9 : List AOper := [
 ⟨some 56,(.faddr 1),[.t 1],none⟩,
 ⟨some 57,(.load none),[.t 56],none⟩,
 ⟨some 58,(.bin .eql),[.t 57,.c (.pv none (.int .i64 0))],none⟩,
 ⟨some 59,.mv,[.t 58],none⟩,
 ⟨some 60,(.faddr 2),[.t 1],some (59,true)⟩,
 ⟨some 61,(.load none),[.t 60],some (59,true)⟩,
 ⟨some 62,.slen,[.t 61],some (59,true)⟩,
 ⟨some 63,(.bin .leq),[.t 62,.c (.pv none (.int .i64 100))],some (59,true)⟩,
 ⟨some 64,.pick,[.t 59,.t 63,.c (.pv none (.bool false))],none⟩,
 ⟨some 65,.mv,[.t 64],none⟩,
 ⟨some 66,(.faddr 3),[.t 1],some (65,true)⟩,
 ⟨some 67,(.load none),[.t 66],some (65,true)⟩,
 ⟨some 68,.len,[.t 67],some (65,true)⟩,
 ⟨some 69,(.bin .geq),[.t 68,.c (.pv none (.int .i64 1))],some (65,true)⟩,
 ⟨some 70,.pick,[.t 65,.t 69,.c (.pv none (.bool false))],none⟩,
 ⟨some 71,.mv,[.t 70],none⟩,
 ⟨some 72,(.faddr 3),[.t 1],some (71,true)⟩,
 ⟨some 73,(.load none),[.t 72],some (71,true)⟩,
 ⟨some 74,.len,[.t 73],some (71,true)⟩,
 ⟨some 75,(.bin .leq),[.t 74,.c (.pv none (.int .i64 8))],some (71,true)⟩,
 ⟨some 76,.pick,[.t 71,.t 75,.c (.pv none (.bool false))],none⟩,
 ⟨some 2,.mv,[.t 76],none⟩]
def c111k10 : ACode := (.cond (.t 54) (.seq (.region true c111r9 [2]) .ret) .skip)
def c111k11 : ACode := (.cond (.t 37) (.seq (.region true c111r7 [2]) .ret) (.seq (.region true c111r8 [1,54]) c111k10))
def c111k12 : ACode := (.cond (.t 26) (.seq (.region true c111r5 [2]) .ret) (.seq (.region true c111r6 [1,4,37]) c111k11))
def c111k13 : ACode := (.cond (.t 5) (.seq (.region true c111r3 [2]) .ret) (.seq (.region true c111r4 [1,4,26]) c111k12))
def c111k14 : ACode := (.block 0 (.seq (.region true c111r2 [1,4,5]) c111k13))
def c111r15 : List AOper := [
 ⟨some 2,.mv,[.c (.pv none (.bool false))],none⟩]
def c111 : ACode := (.seq (.region true c111r0 [1]) (.seq (.seq (.region true c111r1 [1,4]) c111k14) (.seq (.region true c111r15 [2]) .ret)))
def g111 : AFn := ⟨1,[(2,none)],c111,false,[],[],none⟩
theorem tr111 : trFn Tryz.prog false 111 Tryz.f111 = some g111 := by kernel_rfl
def c113r0 : List AOper := [
 ⟨some 4,.mv,[.t 0],none⟩,
 ⟨some 5,.mv,[.t 0],none⟩,
 ⟨some 6,.len,[.t 5],none⟩,
 ⟨some 7,.mv,[.t 1],none⟩,
 ⟨some 8,.call,[.c (.pv none (.func (.func 135))),.t 4,.t 6,.t 7],none⟩]
def c113 : ACode := (.region true c113r0 [])
def g113 : AFn := ⟨2,[],c113,true,[],[],none⟩
theorem tr113 : trFn Tryz.prog true 113 Tryz.f113 = some g113 := by kernel_rfl
def c114r0 : List AOper := [
 ⟨some 4,(.alloc (some 4) (.agg [(none,(.pv none (.int .i64 0))),(none,(.pv none (.int .i64 0))),(none,(.pv none (.str []))),(none,(.tsl (some 4) []))])),[],none⟩]
def c114r1 : List AOper := [
 ⟨some 5,.mv,[.t 0],none⟩,
 ⟨some 6,.mv,[.t 1],none⟩,
 ⟨some 7,.call,[.c (.pv none (.func (.func 136))),.t 5,.t 6],none⟩,
 ⟨some 8,.call,[.c (.pv none (.func (.func 137))),.c (.pv none (.str [91,93]))],none⟩,
 ⟨some 9,(.bslice (some 4)),[.t 7,.t 8],none⟩,
 ⟨some 10,.call,[.c (.pv none (.func (.func 136))),.c (.pv none (.str [101,114,114,111,114])),.t 9],none⟩,
 ⟨none,(.store (some 4)),[.t 4,.t 10],none⟩]
def c114 : ACode := (.seq (.region true c114r0 [0,1,4]) (.seq (.region true c114r1 [4]) .ret))
def g114 : AFn := ⟨2,[(4,some (some 4))],c114,false,[],[],none⟩
theorem tr114 : trFn Tryz.prog false 114 Tryz.f114 = some g114 := by kernel_rfl
def c115r0 : List AOper := [
 ⟨some 3,(.box (some 4)),[.t 0],none⟩,
 ⟨some 6,(.alloc (some 4) (.agg [(none,(.pv none (.int .i64 0))),(none,(.pv none (.int .i64 0))),(none,(.pv none (.str []))),(none,(.tsl (some 4) []))])),[],none⟩]
def c115r1 : List AOper := [
 ⟨some 10,(.load (some 4)),[.t 3],none⟩,
 ⟨some 11,.call,[.c (.pv none (.func (.func 43))),.t 10],none⟩,
 ⟨some 12,.not,[.t 11],none⟩]
def c115r2 : List AOper := [
 ⟨some 13,(.build [(none,(.pv none (.int .i64 0))),(none,(.pv none (.int .i64 0))),(none,(.pv none (.str []))),(none,(.tsl (some 4) []))] []),[],none⟩,
 ⟨none,(.store (some 4)),[.t 6,.t 13],none⟩]
def c115k3 : ACode := (.cond (.t 12) (.seq (.region true c115r2 [6]) .ret) .skip)
def c115r4 : List AOper := [
 ⟨some 7,(.nilsl (some 4)),[],none⟩]
def c115r5 : List AOper := [
 ⟨some 14,.mv,[.t 2],none⟩,
 ⟨some 15,.len,[.t 14],none⟩,
 ⟨some 16,.mv,[.c (.pv none (.int .i64 0))],none⟩]
def c115r6 : List AOper := [
 ⟨some 17,(.bin .lss),[.t 16,.t 15],none⟩]
def c115k7 : ACode := (.cond (.t 17) .skip (.exit 0))
def c115r8 : List AOper := [
 ⟨some 18,(.iaddr none),[.t 14,.t 16],none⟩,
 ⟨some 19,(.load none),[.t 18],none⟩,
 ⟨some 9,.mv,[.t 19],none⟩]
def c115r9 : List AOper := [
 ⟨some 20,.mv,[.t 9],none⟩,
 ⟨some 21,.slen,[.t 20],none⟩,
 ⟨some 22,(.bin .gtr),[.t 21,.c (.pv none (.int .i64 100))],none⟩]
def c115r10 : List AOper := [
 ⟨some 23,(.build [(none,(.pv none (.int .i64 0))),(none,(.pv none (.int .i64 0))),(none,(.pv none (.str []))),(none,(.tsl (some 4) []))] []),[],none⟩,
 ⟨none,(.store (some 4)),[.t 6,.t 23],none⟩]
def c115k11 : ACode := (.cond (.t 22) (.seq (.region true c115r10 [6]) .ret) .skip)
def c115r12 : List AOper := [
 ⟨some 24,.mv,[.t 7],none⟩,
 ⟨some 25,.mv,[.t 9],none⟩,
 ⟨some 26,.call,[.c (.pv none (.func (.func 137))),.t 25],none⟩,
 ⟨some 27,(.bslice (some 4)),[.t 26],none⟩,
 ⟨some 28,(.append (some 4)),[.t 24,.t 27],none⟩,
 ⟨some 7,.mv,[.t 28],none⟩]
def c115k13 : ACode := (.block 1 (.seq (.region true c115r8 [1,2,3,6,7,9,14,15,16]) (.seq (.seq (.region true c115r9 [1,2,3,6,7,9,14,15,16,22]) c115k11) (.region true c115r12 [1,2,3,6,7,14,15,16]))))
def c115r14 : List AOper := [
 ⟨some 29,(.bin .add),[.t 16,.c (.pv none (.int .i64 1))],none⟩,
 ⟨some 16,.mv,[.t 29],none⟩]
def c115b15 : ACode := (.seq (.region true c115r6 [1,2,3,6,7,14,15,16,17]) (.seq c115k7 (.seq c115k13 (.region true c115r14 [1,2,3,6,7,14,15,16]))))
def c115k16 : ACode := (.block 0 (.loop [1,2,3,6,7,14,15,16] c115b15))
def c115r17 : List AOper := [
 ⟨some 30,.mv,[.t 2],none⟩,
 ⟨some 31,.len,[.t 30],none⟩,
 ⟨some 32,(.bin .add),[.c (.pv none (.int .i64 3)),.t 31],none⟩,
 ⟨some 33,(.load (some 4)),[.t 3],none⟩,
 ⟨some 34,.call,[.c (.pv none (.func (.func 86))),.t 33],none⟩,
 ⟨some 35,(.bin .add),[.t 32,.t 34],none⟩,
 ⟨some 36,(.bin .gtr),[.t 35,.c (.pv none (.int .i64 2000))],none⟩]
def c115r18 : List AOper := [
 ⟨some 37,.call,[.c (.pv none (.func (.func 137))),.c (.pv none (.str [46,46,46]))],none⟩,
 ⟨none,(.store (some 4)),[.t 3,.t 37],none⟩]
def c115k19 : ACode := (.cond (.t 36) (.region true c115r18 [1,3,6,7]) .skip)
def c115r20 : List AOper := [
 ⟨some 38,.mv,[.t 1],none⟩,
 ⟨some 39,.mv,[.t 7],none⟩,
 ⟨some 40,(.load (some 4)),[.t 3],none⟩,
 ⟨some 41,(.bslice (some 4)),[.t 40],none⟩,
 ⟨some 42,(.append (some 4)),[.t 39,.t 41],none⟩,
 ⟨some 43,.call,[.c (.pv none (.func (.func 114))),.t 38,.t 42],none⟩,
 ⟨none,(.store (some 4)),[.t 6,.t 43],none⟩]
def c115 : ACode := (.seq (.region true c115r0 [1,2,3,6]) (.seq (.seq (.region true c115r1 [1,2,3,6,12]) c115k3) (.seq (.region true c115r4 [1,2,3,6,7]) (.seq (.seq (.region true c115r5 [1,2,3,6,7,14,15,16]) c115k16) (.seq (.seq (.region true c115r17 [1,3,6,7,36]) c115k19) (.seq (.region true c115r20 [6]) .ret))))))
def g115 : AFn := ⟨3,[(6,some (some 4))],c115,false,[],[],none⟩
theorem tr115 : trFn Tryz.prog false 115 Tryz.f115 = some g115 := by kernel_rfl
def c116r0 : List AOper := [
 ⟨some 1,(.box (some 4)),[.t 0],none⟩,
 ⟨some 2,(.nilsl (some 4)),[],none⟩,
 ⟨some 3,(.alloc (some 4) (.agg [(none,(.pv none (.int .i64 0))),(none,(.pv none (.int .i64 0))),(none,(.pv none (.str []))),(none,(.tsl (some 4) []))])),[],none⟩]
def c116r1 : List AOper := [
 ⟨some 5,(.load (some 4)),[.t 1],none⟩,
 ⟨some 6,.call,[.c (.pv none (.func (.func 43))),.t 5],none⟩,
 ⟨some 7,.not,[.t 6],none⟩]
def c116r2 : List AOper := [
 ⟨some 8,(.build [(none,(.pv none (.int .i64 0))),(none,(.pv none (.int .i64 0))),(none,(.pv none (.str []))),(none,(.tsl (some 4) []))] []),[],none⟩,
 ⟨some 2,(.nilsl (some 4)),[],none⟩,
 ⟨none,(.store (some 4)),[.t 3,.t 8],none⟩]
def c116k3 : ACode := (.cond (.t 7) (.seq (.region true c116r2 [2,3]) .ret) .skip)
def c116r4 : List AOper := [
 ⟨some 4,(.nilsl (some 4)),[],none⟩]
def c116r5 : List AOper := [
 ⟨some 9,(.faddr 0),[.t 1],none⟩,
 ⟨some 10,(.load none),[.t 9],none⟩,
 ⟨some 11,(.bin .eql),[.t 10,.c (.pv none (.int .i64 3))],none⟩,
 ⟨some 12,.mv,[.t 11],none⟩,
 ⟨some 13,(.faddr 2),[.t 1],some (12,true)⟩,
 ⟨some 14,(.load none),[.t 13],some (12,true)⟩,
 ⟨some 15,(.bin .eql),[.t 14,.c (.pv none (.str [46]))],some (12,true)⟩,
 ⟨some 16,.pick,[.t 12,.t 15,.c (.pv none (.bool false))],none⟩,
 ⟨some 17,.mv,[.t 16],none⟩,
 ⟨some 18,(.faddr 3),[.t 1],some (17,true)⟩,
 ⟨some 19,(.load none),[.t 18],some (17,true)⟩,
 ⟨some 20,.len,[.t 19],some (17,true)⟩,
 ⟨some 21,(.bin .eql),[.t 20,.c (.pv none (.int .i64 2))],some (17,true)⟩,
 ⟨some 22,.pick,[.t 17,.t 21,.c (.pv none (.bool false))],none⟩]
def c116k6 : ACode := (.cond (.t 22) .skip (.exit 0))
def c116r7 : List AOper := [
 ⟨some 23,.mv,[.t 4],none⟩,
 ⟨some 24,(.faddr 3),[.t 1],none⟩,
 ⟨some 25,(.load none),[.t 24],none⟩,
 ⟨some 26,(.iaddr (some 4)),[.t 25,.c (.pv none (.int .i64 0))],none⟩,
 ⟨some 27,(.load (some 4)),[.t 26],none⟩,
 ⟨some 28,.call,[.c (.pv none (.func (.func 51))),.t 27],none⟩,
 ⟨some 29,(.bslice (some 4)),[.t 28],none⟩,
 ⟨some 30,(.append (some 4)),[.t 23,.t 29],none⟩,
 ⟨some 4,.mv,[.t 30],none⟩]
def c116r8 : List AOper := [
 ⟨some 31,(.faddr 3),[.t 1],none⟩,
 ⟨some 32,(.load none),[.t 31],none⟩,
 ⟨some 33,(.iaddr (some 4)),[.t 32,.c (.pv none (.int .i64 1))],none⟩,
 ⟨some 34,(.load (some 4)),[.t 33],none⟩,
 ⟨none,(.store (some 4)),[.t 1,.t 34],none⟩]
def c116k9 : ACode := (.block 1 (.seq (.region true c116r7 [1,3,4]) (.region true c116r8 [1,3,4])))
def c116b10 : ACode := (.seq (.seq (.region true c116r5 [1,3,4,22]) c116k6) c116k9)
def c116k11 : ACode := (.block 0 (.loop [1,3,4] c116b10))
def c116r12 : List AOper := [
 ⟨some 35,.mv,[.t 4],none⟩,
 ⟨some 36,(.load (some 4)),[.t 1],none⟩,
 ⟨some 37,.call,[.c (.pv none (.func (.func 51))),.t 36],none⟩,
 ⟨some 2,.mv,[.t 35],none⟩,
 ⟨none,(.store (some 4)),[.t 3,.t 37],none⟩]
def c116 : ACode := (.seq (.region true c116r0 [1,3]) (.seq (.seq (.region true c116r1 [1,3,7]) c116k3) (.seq (.region true c116r4 [1,3,4]) (.seq c116k11 (.seq (.region true c116r12 [2,3]) .ret)))))
def g116 : AFn := ⟨1,[(2,none),(3,some (some 4))],c116,false,[],[],none⟩
theorem tr116 : trFn Tryz.prog false 116 Tryz.f116 = some g116 := by kernel_rfl
def c117r0 : List AOper := [
 ⟨some 1,(.box (some 4)),[.t 0],none⟩,
 ⟨some 2,.mv,[.c (.pv none (.bool false))],none⟩]
def c117r1 : List AOper := [
 ⟨some 3,(.load (some 4)),[.t 1],none⟩,
 ⟨some 4,.call,[.c (.pv none (.func (.func 73))),.t 3],none⟩,
 ⟨some 5,.mv,[.t 4],none⟩,
 ⟨some 6,(.faddr 2),[.t 1],some (5,true)⟩,
 ⟨some 7,(.load none),[.t 6],some (5,true)⟩,
 ⟨some 8,(.bin .eql),[.t 7,.c (.pv none (.str [91,93]))],some (5,true)⟩,
 ⟨some 9,.pick,[.t 5,.t 8,.c (.pv none (.bool false))],none⟩,
 ⟨some 2,.mv,[.t 9],none⟩]
def c117 : ACode := (.seq (.region true c117r0 [1]) (.seq (.region true c117r1 [2]) .ret))
def g117 : AFn := ⟨1,[(2,none)],c117,false,[],[],none⟩
theorem tr117 : trFn Tryz.prog false 117 Tryz.f117 = some g117 := by kernel_rfl
def c118r0 : List AOper := [
 ⟨some 3,(.box (some 4)),[.t 0],none⟩]
def c118r1 : List AOper := [
 ⟨some 5,(.load none),[.t 1],none⟩,
 ⟨some 6,(.bin .sub),[.t 5,.c (.pv none (.int .i64 1))],none⟩,
 ⟨none,(.store none),[.t 1,.t 6],none⟩]
def c118r2 : List AOper := [
 ⟨some 4,.mv,[.c (.pv none (.int .i64 0))],none⟩]
def c118r3 : List AOper := [
 ⟨some 7,.mv,[.t 4],none⟩,
 ⟨some 8,(.faddr 3),[.t 3],none⟩,
 ⟨some 9,(.load none),[.t 8],none⟩,
 ⟨some 10,.len,[.t 9],none⟩,
 ⟨some 11,(.bin .lss),[.t 7,.t 10],none⟩,
 ⟨some 12,.mv,[.t 11],none⟩,
 ⟨some 13,(.load none),[.t 1],some (12,true)⟩,
 ⟨some 14,(.bin .gtr),[.t 13,.c (.pv none (.int .i64 0))],some (12,true)⟩,
 ⟨some 15,.pick,[.t 12,.t 14,.c (.pv none (.bool false))],none⟩]
def c118k4 : ACode := (.cond (.t 15) .skip (.exit 0))
def c118r5 : List AOper := [
 ⟨some 18,(.load none),[.t 2],none⟩,
 ⟨some 19,(.faddr 3),[.t 3],none⟩,
 ⟨some 20,(.load none),[.t 19],none⟩,
 ⟨some 21,.mv,[.t 4],none⟩,
 ⟨some 22,(.iaddr (some 4)),[.t 20,.t 21],none⟩,
 ⟨some 23,(.load (some 4)),[.t 22],none⟩,
 ⟨some 24,.call,[.t 18,.t 23],none⟩]
def c118k6 : ACode := (.block 1 (.region true c118r5 [1,2,3,4]))
def c118r7 : List AOper := [
 ⟨some 16,.mv,[.t 4],none⟩,
 ⟨some 17,(.bin .add),[.t 16,.c (.pv none (.int .i64 1))],none⟩,
 ⟨some 4,.mv,[.t 17],none⟩]
def c118b8 : ACode := (.seq (.seq (.region true c118r3 [1,2,3,4,15]) c118k4) (.seq c118k6 (.region true c118r7 [1,2,3,4])))
def c118k9 : ACode := (.block 0 (.loop [1,2,3,4] c118b8))
def c118 : ACode := (.seq (.region true c118r0 [1,2,3]) (.seq (.region true c118r1 [1,2,3]) (.seq (.region true c118r2 [1,2,3,4]) c118k9)))
def g118 : AFn := ⟨3,[],c118,true,[],[],none⟩
theorem tr118 : trFn Tryz.prog true 118 Tryz.f118 = some g118 := by kernel_rfl
def c119r0 : List AOper := [
 ⟨some 2,.mv,[.c (.pv none (.bool false))],none⟩]
def c119r1 : List AOper := [
 ⟨some 3,.mv,[.t 0],none⟩,
 ⟨some 4,.mv,[.t 0],none⟩,
 ⟨some 5,(.bin .neq),[.t 3,.t 4],none⟩,
 ⟨some 2,.mv,[.t 5],none⟩]
def c119 : ACode := (.seq (.region true c119r0 [0]) (.seq (.region true c119r1 [2]) .ret))
def g119 : AFn := ⟨1,[(2,none)],c119,false,[],[],none⟩
theorem tr119 : trFn Tryz.prog false 119 Tryz.f119 = some g119 := by kernel_rfl
def c120r0 : List AOper := [
 ⟨some 2,.mv,[.c (.pv none (.bool false))],none⟩]
def c120r1 : List AOper := [
 ⟨some 3,.mv,[.t 0],none⟩,
 ⟨some 4,.mv,[.t 0],none⟩,
 ⟨some 5,(.bin .neq),[.t 3,.t 4],none⟩,
 ⟨some 2,.mv,[.t 5],none⟩]
def c120 : ACode := (.seq (.region true c120r0 [0]) (.seq (.region true c120r1 [2]) .ret))
def g120 : AFn := ⟨1,[(2,none)],c120,false,[],[],none⟩
theorem tr120 : trFn Tryz.prog false 120 Tryz.f120 = some g120 := by kernel_rfl
def c121r0 : List AOper := [
 ⟨some 4,.mv,[.c (.pv none (.int .i64 0))],none⟩]
def c121r1 : List AOper := [
 ⟨some 5,.mv,[.t 0],none⟩,
 ⟨some 6,.mv,[.t 1],none⟩,
 ⟨some 7,.call,[.c (.pv none (.func (.func 138))),.t 5,.t 6],none⟩,
 ⟨some 4,.mv,[.t 7],none⟩]
def c121 : ACode := (.seq (.region true c121r0 [0,1]) (.seq (.region true c121r1 [4]) .ret))
def g121 : AFn := ⟨2,[(4,none)],c121,false,[],[],none⟩
theorem tr121 : trFn Tryz.prog false 121 Tryz.f121 = some g121 := by kernel_rfl
def c122r0 : List AOper := [
 ⟨some 4,.mv,[.t 0],none⟩]
def c122r1 : List AOper := [
 ⟨some 5,.mv,[.t 1],none⟩,
 ⟨some 6,.call,[.t 5],none⟩,
 ⟨some 7,(.build [((some 4),(.agg [(none,(.pv none (.int .i64 0))),(none,(.pv none (.int .i64 0))),(none,(.pv none (.str []))),(none,(.tsl (some 4) []))]))] [0]),[.t 6],none⟩,
 ⟨some 8,(.mkiface 74),[.t 7],none⟩,
 ⟨none,.panic,[.t 8],none⟩]
def c122k2 : ACode := (.cond (.t 4) (.region true c122r1 []) .skip)
def c122 : ACode := (.seq (.region true c122r0 [1,4]) c122k2)
def g122 : AFn := ⟨2,[],c122,true,[],[],none⟩
theorem tr122 : trFn Tryz.prog true 122 Tryz.f122 = some g122 := by kernel_rfl
def c123r0 : List AOper := [
 ⟨some 2,(.box none),[.t 0],none⟩,
 ⟨some 3,(.box (some 4)),[.t 1],none⟩,
 ⟨some 4,.mv,[.c (.pv none .nilfunc)],none⟩]
def c123r1 : List AOper := [
 ⟨some 5,(.mkfunc (.func 139) 0),[.t 2,.t 3],none⟩,
 ⟨some 4,.mv,[.t 5],none⟩]
def c123 : ACode := (.seq (.region true c123r0 [2,3]) (.seq (.region true c123r1 [4]) .ret))
def g123 : AFn := ⟨2,[(4,none)],c123,true,[],[],none⟩
theorem tr123 : trFn Tryz.prog true 123 Tryz.f123 = some g123 := by kernel_rfl
def c124r0 : List AOper := [
 ⟨some 2,(.box none),[.t 0],none⟩,
 ⟨some 3,(.box (some 4)),[.t 1],none⟩,
 ⟨some 4,.mv,[.c (.pv none .nilfunc)],none⟩]
def c124r1 : List AOper := [
 ⟨some 5,(.mkfunc (.func 140) 0),[.t 2,.t 3],none⟩,
 ⟨some 4,.mv,[.t 5],none⟩]
def c124 : ACode := (.seq (.region true c124r0 [2,3]) (.seq (.region true c124r1 [4]) .ret))
def g124 : AFn := ⟨2,[(4,none)],c124,true,[],[],none⟩
theorem tr124 : trFn Tryz.prog true 124 Tryz.f124 = some g124 := by kernel_rfl
def c125r0 : List AOper := [
 ⟨some 2,(.alloc (some 4) (.agg [(none,(.pv none (.int .i64 0))),(none,(.pv none (.int .i64 0))),(none,(.pv none (.str []))),(none,(.tsl (some 4) []))])),[],none⟩]
def c125r1 : List AOper := [
 ⟨some 3,.mv,[.t 0],none⟩,
 ⟨some 4,(.build [(none,(.pv none (.int .i64 0))),(none,(.pv none (.int .i64 0))),(none,(.pv none (.str []))),(none,(.tsl (some 4) []))] [0,2]),[.c (.pv none (.int .i64 2)),.t 3],none⟩,
 ⟨none,(.store (some 4)),[.t 2,.t 4],none⟩]
def c125 : ACode := (.seq (.region true c125r0 [0,2]) (.seq (.region true c125r1 [2]) .ret))
def g125 : AFn := ⟨1,[(2,some (some 4))],c125,false,[],[],none⟩
theorem tr125 : trFn Tryz.prog false 125 Tryz.f125 = some g125 := by kernel_rfl
def c126r0 : List AOper := [
 ⟨some 2,(.alloc (some 4) (.agg [(none,(.pv none (.int .i64 0))),(none,(.pv none (.int .i64 0))),(none,(.pv none (.str []))),(none,(.tsl (some 4) []))])),[],none⟩]
def c126r1 : List AOper := [
 ⟨some 3,.mv,[.t 0],none⟩,
 ⟨some 4,(.build [(none,(.pv none (.int .i64 0))),(none,(.pv none (.int .i64 0))),(none,(.pv none (.str []))),(none,(.tsl (some 4) []))] [0,1]),[.c (.pv none (.int .i64 1)),.t 3],none⟩,
 ⟨none,(.store (some 4)),[.t 2,.t 4],none⟩]
def c126 : ACode := (.seq (.region true c126r0 [0,2]) (.seq (.region true c126r1 [2]) .ret))
def g126 : AFn := ⟨1,[(2,some (some 4))],c126,false,[],[],none⟩
theorem tr126 : trFn Tryz.prog false 126 Tryz.f126 = some g126 := by kernel_rfl
def c127r0 : List AOper := [
 ⟨some 0,(.alloc (some 4) (.agg [(none,(.pv none (.int .i64 0))),(none,(.pv none (.int .i64 0))),(none,(.pv none (.str []))),(none,(.tsl (some 4) []))])),[],none⟩]
def c127r1 : List AOper := [
 ⟨some 1,.call,[.c (.pv none (.func (.func 142))),.c (.pv none (.str [109,97,120,95,97,114,105,116,121]))],none⟩,
 ⟨none,(.store (some 4)),[.t 0,.t 1],none⟩]
def c127 : ACode := (.seq (.region true c127r0 [0]) (.seq (.region true c127r1 [0]) .ret))
def g127 : AFn := ⟨0,[(0,some (some 4))],c127,false,[],[],none⟩
theorem tr127 : trFn Tryz.prog false 127 Tryz.f127 = some g127 := by kernel_rfl
def c128r0 : List AOper := [
 ⟨some 2,(.alloc (some 4) (.agg [(none,(.pv none (.int .i64 0))),(none,(.pv none (.int .i64 0))),(none,(.pv none (.str []))),(none,(.tsl (some 4) []))])),[],none⟩]
def c128r1 : List AOper := [
 ⟨some 3,.mv,[.t 0],none⟩,
 ⟨some 4,.nilcheck,[.t 3],none⟩,
 ⟨some 5,(.faddr 4),[.t 4],none⟩,
 ⟨some 6,(.load none),[.t 5],none⟩,
 ⟨some 7,(.bin .add),[.t 6,.c (.pv none (.int .i64 1))],none⟩,
 ⟨some 8,.nilcheck,[.t 3],none⟩,
 ⟨some 9,(.faddr 4),[.t 8],none⟩,
 ⟨none,(.store none),[.t 9,.t 7],none⟩]
def c128r2 : List AOper := [
 ⟨some 10,.mv,[.t 0],none⟩,
 ⟨some 11,.nilcheck,[.t 10],none⟩,
 ⟨some 12,(.faddr 4),[.t 11],none⟩,
 ⟨some 13,(.load none),[.t 12],none⟩,
 ⟨some 14,(.bin .sub),[.t 13,.c (.pv none (.int .i64 1))],none⟩,
 ⟨some 15,(.build [(none,(.pv none (.int .i64 0))),(none,(.pv none (.int .i64 0))),(none,(.pv none (.str []))),(none,(.tsl (some 4) []))] [0,1]),[.c (.pv none (.int .i64 0)),.t 14],none⟩,
 ⟨none,(.store (some 4)),[.t 2,.t 15],none⟩]
def c128 : ACode := (.seq (.region true c128r0 [0,2]) (.seq (.region true c128r1 [0,2]) (.seq (.region true c128r2 [2]) .ret)))
def g128 : AFn := ⟨1,[(2,some (some 4))],c128,true,[],[],none⟩
theorem tr128 : trFn Tryz.prog true 128 Tryz.f128 = some g128 := by kernel_rfl
def c129r0 : List AOper := [
 ⟨some 4,(.alloc (some 4) (.agg [(none,(.pv none (.int .i64 0))),(none,(.pv none (.int .i64 0))),(none,(.pv none (.str []))),(none,(.tsl (some 4) []))])),[],none⟩]
def c129r1 : List AOper := [
 ⟨some 5,.mv,[.t 0],none⟩,
 ⟨some 6,.mv,[.t 1],none⟩,
 ⟨some 7,(.build [(none,(.pv none (.int .i64 0))),(none,(.pv none (.int .i64 0))),(none,(.pv none (.str []))),(none,(.tsl (some 4) []))] [0,2,3]),[.c (.pv none (.int .i64 3)),.t 5,.t 6],none⟩,
 ⟨none,(.store (some 4)),[.t 4,.t 7],none⟩]
def c129 : ACode := (.seq (.region true c129r0 [0,1,4]) (.seq (.region true c129r1 [4]) .ret))
def g129 : AFn := ⟨2,[(4,some (some 4))],c129,false,[],[],none⟩
theorem tr129 : trFn Tryz.prog false 129 Tryz.f129 = some g129 := by kernel_rfl
def c130r0 : List AOper := [
 ⟨some 1,(.box (some 4)),[.t 0],none⟩,
 ⟨some 2,.mv,[.c (.pv none (.bool false))],none⟩]
def c130r1 : List AOper := [
 ⟨some 3,(.load (some 4)),[.t 1],none⟩,
 ⟨some 4,.call,[.c (.pv none (.func (.func 77))),.t 3],none⟩,
 ⟨some 5,.mv,[.t 4],none⟩,
 ⟨some 6,(.load (some 4)),[.t 1],some (5,false)⟩,
 ⟨some 7,.call,[.c (.pv none (.func (.func 132))),.t 6],some (5,false)⟩,
 ⟨some 8,.pick,[.t 5,.c (.pv none (.bool true)),.t 7],none⟩,
 ⟨some 2,.mv,[.t 8],none⟩]
def c130 : ACode := (.seq (.region true c130r0 [1]) (.seq (.region true c130r1 [2]) .ret))
def g130 : AFn := ⟨1,[(2,none)],c130,false,[],[],none⟩
theorem tr130 : trFn Tryz.prog false 130 Tryz.f130 = some g130 := by kernel_rfl
def c131r0 : List AOper := [
 ⟨some 3,(.box (some 4)),[.t 1],none⟩,
 ⟨some 4,(.alloc (some 4) (.agg [(none,(.pv none (.int .i64 0))),(none,(.pv none (.int .i64 0))),(none,(.pv none (.str []))),(none,(.tsl (some 4) []))])),[],none⟩]
def c131r1 : List AOper := [
 ⟨some 7,.mv,[.t 0],none⟩,
 ⟨some 8,.call,[.c (.pv none (.func (.func 143))),.t 7],none⟩]
def c131r2 : List AOper := [
 ⟨some 15,(.load (some 4)),[.t 3],none⟩,
 ⟨none,(.store (some 4)),[.t 4,.t 15],none⟩]
def c131p3 : ACode := (.seq (.region true c131r2 [4]) (.seq .ret .skip))
def c131r4 : List AOper := [
 ⟨some 6,(.alloc (some 4) (.agg [(none,(.pv none (.int .i64 0))),(none,(.pv none (.int .i64 0))),(none,(.pv none (.str []))),(none,(.tsl (some 4) []))])),[],none⟩,
 ⟨none,(.store (some 4)),[.t 6,.t 10],none⟩]
def c131r5 : List AOper := [
 ⟨some 11,(.load (some 4)),[.t 6],none⟩,
 ⟨some 12,(.load (some 4)),[.t 3],none⟩,
 ⟨some 13,(.bslice (some 4)),[.t 11,.t 12],none⟩,
 ⟨some 14,(.build [(none,(.pv none (.int .i64 0))),(none,(.pv none (.int .i64 0))),(none,(.pv none (.str []))),(none,(.tsl (some 4) []))] [0,2,3]),[.c (.pv none (.int .i64 3)),.c (.pv none (.str [46])),.t 13],none⟩,
 ⟨none,(.store (some 4)),[.t 3,.t 14],none⟩]
def c131k6 : ACode := (.block 1 (.region true c131r5 []))
def c131q7 : ACode := c131k6
def c131 : ACode := (.seq (.region true c131r0 [0,3,4]) (.seq (.region true c131r1 [3,4,8]) .skip))
def g131 : AFn := ⟨2,[(4,some (some 4))],c131,false,[(.range 131 (.t 8) [9,10] [3],c131p3)],[⟨[9,10],(.region true c131r4 [3,6]),c131q7⟩],none⟩
theorem tr131 : trFn Tryz.prog false 131 Tryz.f131 = some g131 := by kernel_rfl
def c132r0 : List AOper := [
 ⟨some 1,(.box (some 4)),[.t 0],none⟩,
 ⟨some 2,.mv,[.c (.pv none (.bool false))],none⟩]
def c132r1 : List AOper := [
 ⟨some 6,(.load (some 4)),[.t 1],none⟩,
 ⟨some 7,.call,[.c (.pv none (.func (.func 116))),.t 6],none⟩,
 ⟨some 5,.mv,[.t 7],none⟩,
 ⟨some 8,(.extract 0),[.t 5],none⟩,
 ⟨some 9,(.extract 1),[.t 5],none⟩,
 ⟨some 4,(.alloc (some 4) (.agg [(none,(.pv none (.int .i64 0))),(none,(.pv none (.int .i64 0))),(none,(.pv none (.str []))),(none,(.tsl (some 4) []))])),[],none⟩,
 ⟨some 3,.mv,[.t 8],none⟩,
 ⟨none,(.store (some 4)),[.t 4,.t 9],none⟩]
def c132r2 : List AOper := [
 ⟨some 10,(.load (some 4)),[.t 4],none⟩,
 ⟨some 11,.call,[.c (.pv none (.func (.func 71))),.t 10],none⟩,
 ⟨some 2,.mv,[.t 11],none⟩]
def c132 : ACode := (.seq (.region true c132r0 [1]) (.seq (.region true c132r1 [4]) (.seq (.region true c132r2 [2]) .ret)))
def g132 : AFn := ⟨1,[(2,none)],c132,false,[],[],none⟩
theorem tr132 : trFn Tryz.prog false 132 Tryz.f132 = some g132 := by kernel_rfl
def c133r0 : List AOper := [
 ⟨some 3,(.box (some 4)),[.t 1],none⟩,
 ⟨some 4,(.alloc (some 4) (.agg [(none,(.pv none (.int .i64 0))),(none,(.pv none (.int .i64 0))),(none,(.pv none (.str []))),(none,(.tsl (some 4) []))])),[],none⟩,
 ⟨some 5,.mv,[.c (.pv none (.bool false))],none⟩]
def c133r1 : List AOper := [
 ⟨some 8,(.faddr 0),[.t 3],none⟩,
 ⟨some 9,(.load none),[.t 8],none⟩,
 ⟨some 10,(.bin .neq),[.t 9,.c (.pv none (.int .i64 0))],none⟩]
def c133r2 : List AOper := [
 ⟨some 11,(.build [(none,(.pv none (.int .i64 0))),(none,(.pv none (.int .i64 0))),(none,(.pv none (.str []))),(none,(.tsl (some 4) []))] []),[],none⟩,
 ⟨none,(.store (some 4)),[.t 4,.t 11],none⟩,
 ⟨some 5,.mv,[.c (.pv none (.bool false))],none⟩]
def c133k3 : ACode := (.cond (.t 10) (.seq (.region true c133r2 [4,5]) .ret) .skip)
def c133r4 : List AOper := [
 ⟨some 13,.mv,[.t 0],none⟩,
 ⟨some 14,(.faddr 1),[.t 3],none⟩,
 ⟨some 15,(.load none),[.t 14],none⟩,
 ⟨some 16,.call,[.c (.pv none (.func (.func 144))),.t 13,.t 15],none⟩,
 ⟨some 12,.mv,[.t 16],none⟩,
 ⟨some 17,(.extract 0),[.t 12],none⟩,
 ⟨some 18,(.extract 1),[.t 12],none⟩,
 ⟨some 6,.mv,[.t 17],none⟩,
 ⟨some 7,.mv,[.t 18],none⟩]
def c133r5 : List AOper := [
 ⟨some 19,.mv,[.t 7],none⟩,
 ⟨some 20,.not,[.t 19],none⟩]
def c133r6 : List AOper := [
 ⟨some 21,(.build [(none,(.pv none (.int .i64 0))),(none,(.pv none (.int .i64 0))),(none,(.pv none (.str []))),(none,(.tsl (some 4) []))] []),[],none⟩,
 ⟨none,(.store (some 4)),[.t 4,.t 21],none⟩,
 ⟨some 5,.mv,[.c (.pv none (.bool false))],none⟩]
def c133k7 : ACode := (.cond (.t 20) (.seq (.region true c133r6 [4,5]) .ret) .skip)
def c133r8 : List AOper := [
 ⟨some 22,.mv,[.t 0],none⟩,
 ⟨some 23,.mv,[.t 6],none⟩,
 ⟨some 24,(.iaddr (some 5)),[.t 22,.t 23],none⟩,
 ⟨some 25,(.faddr 1),[.t 24],none⟩,
 ⟨some 26,(.load (some 4)),[.t 25],none⟩,
 ⟨none,(.store (some 4)),[.t 4,.t 26],none⟩,
 ⟨some 5,.mv,[.c (.pv none (.bool true))],none⟩]
def c133 : ACode := (.seq (.region true c133r0 [0,3,4]) (.seq (.seq (.region true c133r1 [0,3,4,10]) c133k3) (.seq (.region true c133r4 [0,4,6,7]) (.seq (.seq (.region true c133r5 [0,4,6,20]) c133k7) (.seq (.region true c133r8 [4,5]) .ret)))))
def g133 : AFn := ⟨2,[(4,some (some 4)),(5,none)],c133,false,[],[],none⟩
theorem tr133 : trFn Tryz.prog false 133 Tryz.f133 = some g133 := by kernel_rfl
def c134r0 : List AOper := [
 ⟨some 5,(.box (some 4)),[.t 2],none⟩]
def c134r1 : List AOper := [
 ⟨some 8,.mv,[.t 0],none⟩,
 ⟨some 9,.nilcheck,[.t 8],none⟩,
 ⟨some 10,(.faddr 0),[.t 9],none⟩,
 ⟨some 11,(.load none),[.t 10],none⟩,
 ⟨some 12,.mv,[.t 1],none⟩,
 ⟨some 13,(.load (some 4)),[.t 5],none⟩,
 ⟨some 14,(.mkmap none),[],none⟩,
 ⟨some 15,.call,[.c (.pv none (.func (.func 145))),.t 11,.t 12,.t 13,.t 14],none⟩]
def c134r2 : List AOper := [
 ⟨some 16,(.build [(none,(.pv none (.int .i64 0)))] [0]),[.c (.pv none (.int .i64 9))],none⟩,
 ⟨some 17,(.mkiface 82),[.t 16],none⟩,
 ⟨none,.panic,[.t 17],none⟩]
def c134k3 : ACode := (.cond (.t 15) (.region true c134r2 [0,1,5]) .skip)
def c134r4 : List AOper := [
 ⟨some 19,.mv,[.t 0],none⟩,
 ⟨some 20,.nilcheck,[.t 19],none⟩,
 ⟨some 21,(.faddr 0),[.t 20],none⟩,
 ⟨some 22,(.load none),[.t 21],none⟩,
 ⟨some 23,.mv,[.t 1],none⟩,
 ⟨some 24,.call,[.c (.pv none (.func (.func 144))),.t 22,.t 23],none⟩,
 ⟨some 18,.mv,[.t 24],none⟩,
 ⟨some 25,(.extract 0),[.t 18],none⟩,
 ⟨some 26,(.extract 1),[.t 18],none⟩,
 ⟨some 6,.mv,[.t 25],none⟩,
 ⟨some 7,.mv,[.t 26],none⟩]
def c134r5 : List AOper := [
 ⟨some 27,.mv,[.t 0],none⟩,
 ⟨some 28,.mv,[.t 0],none⟩,
 ⟨some 29,.nilcheck,[.t 28],none⟩,
 ⟨some 30,(.faddr 0),[.t 29],none⟩,
 ⟨some 31,(.load none),[.t 30],none⟩,
 ⟨some 32,.mv,[.t 6],none⟩,
 ⟨some 33,.mv,[.t 1],none⟩,
 ⟨some 34,(.load (some 4)),[.t 5],none⟩,
 ⟨some 35,.callp,[.c (.pv none (.func (.func 51))),.t 34],none⟩,
 ⟨some 36,(.build [(none,(.pv none (.int .i64 0))),((some 4),(.agg [(none,(.pv none (.int .i64 0))),(none,(.pv none (.int .i64 0))),(none,(.pv none (.str []))),(none,(.tsl (some 4) []))]))] [0,1]),[.t 33,.t 35],none⟩,
 ⟨some 37,(.bslicep (some 5)),[.t 36],none⟩,
 ⟨some 38,.callp,[.c (.pv none (.func (.func 146))),.t 31,.t 32,.t 37],none⟩,
 ⟨some 39,.nilcheck,[.t 27],none⟩,
 ⟨some 40,(.faddr 0),[.t 39],none⟩,
 ⟨none,(.store none),[.t 40,.t 38],none⟩]
def c134 : ACode := (.seq (.region true c134r0 [0,1,5]) (.seq (.seq (.region true c134r1 [0,1,5,15]) c134k3) (.seq (.region true c134r4 [0,1,5,6]) (.seq (.settle [5,6]) (.region true c134r5 [])))))
def g134 : AFn := ⟨3,[],c134,false,[],[],none⟩
theorem tr134 : trFn Tryz.prog false 134 Tryz.f134 = some g134 := by kernel_rfl
def c135r0 : List AOper := [
 ⟨some 6,.mv,[.c (.pv none (.int .i64 20))],none⟩]
def c135r1 : List AOper := [
 ⟨some 10,.mv,[.t 6],none⟩,
 ⟨some 7,.mv,[.c (.pv none (.int .i64 0))],none⟩,
 ⟨some 8,.mv,[.t 10],none⟩]
def c135r2 : List AOper := [
 ⟨some 11,.mv,[.t 8],none⟩,
 ⟨some 12,.mv,[.t 1],none⟩,
 ⟨some 13,(.bin .leq),[.t 11,.t 12],none⟩]
def c135k3 : ACode := (.cond (.t 13) .skip (.exit 0))
def c135r4 : List AOper := [
 ⟨some 14,.mv,[.t 0],none⟩,
 ⟨some 15,.mv,[.t 7],none⟩,
 ⟨some 16,.mv,[.t 8],none⟩,
 ⟨some 17,.mv,[.t 2],none⟩,
 ⟨some 18,.call,[.c (.pv none (.func (.func 147))),.t 14,.t 15,.t 16,.t 17],none⟩]
def c135r5 : List AOper := [
 ⟨some 19,.mv,[.t 8],none⟩,
 ⟨some 7,.mv,[.t 19],none⟩]
def c135r6 : List AOper := [
 ⟨some 20,.mv,[.t 8],none⟩,
 ⟨some 21,.mv,[.t 6],none⟩,
 ⟨some 22,(.bin .add),[.t 20,.t 21],none⟩,
 ⟨some 8,.mv,[.t 22],none⟩]
def c135k7 : ACode := (.block 1 (.seq (.region true c135r4 [0,1,2,6,8]) (.seq (.region true c135r5 [0,1,2,6,7,8]) (.region true c135r6 [0,1,2,6,7,8]))))
def c135b8 : ACode := (.seq (.seq (.region true c135r2 [0,1,2,6,7,8,13]) c135k3) c135k7)
def c135k9 : ACode := (.block 0 (.loop [0,1,2,6,7,8] c135b8))
def c135r10 : List AOper := [
 ⟨some 23,.mv,[.t 0],none⟩,
 ⟨some 24,.mv,[.t 7],none⟩,
 ⟨some 25,.mv,[.t 1],none⟩,
 ⟨some 26,.mv,[.t 2],none⟩,
 ⟨some 27,.call,[.c (.pv none (.func (.func 147))),.t 23,.t 24,.t 25,.t 26],none⟩]
def c135r11 : List AOper := [
 ⟨some 28,.mv,[.t 6],none⟩,
 ⟨some 29,.mv,[.t 1],none⟩,
 ⟨some 30,(.bin .lss),[.t 28,.t 29],none⟩]
def c135k12 : ACode := (.cond (.t 30) .skip (.exit 2))
def c135r13 : List AOper := [
 ⟨some 31,.mv,[.t 6],none⟩,
 ⟨some 32,(.bin .mul),[.c (.pv none (.int .i64 2)),.t 31],none⟩,
 ⟨some 7,.mv,[.c (.pv none (.int .i64 0))],none⟩,
 ⟨some 8,.mv,[.t 32],none⟩]
def c135r14 : List AOper := [
 ⟨some 33,.mv,[.t 8],none⟩,
 ⟨some 34,.mv,[.t 1],none⟩,
 ⟨some 35,(.bin .leq),[.t 33,.t 34],none⟩]
def c135k15 : ACode := (.cond (.t 35) .skip (.exit 4))
def c135r16 : List AOper := [
 ⟨some 36,.mv,[.t 0],none⟩,
 ⟨some 37,.mv,[.t 7],none⟩,
 ⟨some 38,.mv,[.t 7],none⟩,
 ⟨some 39,.mv,[.t 6],none⟩,
 ⟨some 40,(.bin .add),[.t 38,.t 39],none⟩,
 ⟨some 41,.mv,[.t 8],none⟩,
 ⟨some 42,.mv,[.t 2],none⟩,
 ⟨some 43,.call,[.c (.pv none (.func (.func 148))),.t 36,.t 37,.t 40,.t 41,.t 42],none⟩]
def c135r17 : List AOper := [
 ⟨some 44,.mv,[.t 8],none⟩,
 ⟨some 7,.mv,[.t 44],none⟩]
def c135r18 : List AOper := [
 ⟨some 45,.mv,[.t 8],none⟩,
 ⟨some 46,.mv,[.t 6],none⟩,
 ⟨some 47,(.bin .mul),[.c (.pv none (.int .i64 2)),.t 46],none⟩,
 ⟨some 48,(.bin .add),[.t 45,.t 47],none⟩,
 ⟨some 8,.mv,[.t 48],none⟩]
def c135k19 : ACode := (.block 5 (.seq (.region true c135r16 [0,1,2,6,8]) (.seq (.region true c135r17 [0,1,2,6,7,8]) (.region true c135r18 [0,1,2,6,7,8]))))
def c135b20 : ACode := (.seq (.seq (.region true c135r14 [0,1,2,6,7,8,35]) c135k15) c135k19)
def c135k21 : ACode := (.block 4 (.loop [0,1,2,6,7,8] c135b20))
def c135r22 : List AOper := [
 ⟨some 49,.mv,[.t 7],none⟩,
 ⟨some 50,.mv,[.t 6],none⟩,
 ⟨some 51,(.bin .add),[.t 49,.t 50],none⟩,
 ⟨some 9,.mv,[.t 51],none⟩]
def c135r23 : List AOper := [
 ⟨some 52,.mv,[.t 9],none⟩,
 ⟨some 53,.mv,[.t 1],none⟩,
 ⟨some 54,(.bin .lss),[.t 52,.t 53],none⟩]
def c135r24 : List AOper := [
 ⟨some 55,.mv,[.t 0],none⟩,
 ⟨some 56,.mv,[.t 7],none⟩,
 ⟨some 57,.mv,[.t 9],none⟩,
 ⟨some 58,.mv,[.t 1],none⟩,
 ⟨some 59,.mv,[.t 2],none⟩,
 ⟨some 60,.call,[.c (.pv none (.func (.func 148))),.t 55,.t 56,.t 57,.t 58,.t 59],none⟩]
def c135k25 : ACode := (.cond (.t 54) (.region true c135r24 [0,1,2,6]) .skip)
def c135r26 : List AOper := [
 ⟨some 61,.mv,[.t 6],none⟩,
 ⟨some 62,(.bin .mul),[.t 61,.c (.pv none (.int .i64 2))],none⟩,
 ⟨some 6,.mv,[.t 62],none⟩]
def c135k27 : ACode := (.block 3 (.seq (.region true c135r13 [0,1,2,6,7,8]) (.seq c135k21 (.seq (.seq (.region true c135r22 [0,1,2,6,7,9]) (.seq (.region true c135r23 [0,1,2,6,7,9,54]) c135k25)) (.region true c135r26 [0,1,2,6])))))
def c135b28 : ACode := (.seq (.seq (.region true c135r11 [0,1,2,6,30]) c135k12) c135k27)
def c135k29 : ACode := (.block 2 (.loop [0,1,2,6] c135b28))
def c135 : ACode := (.seq (.region true c135r0 [0,1,2,6]) (.seq (.region true c135r1 [0,1,2,6,7,8]) (.seq c135k9 (.seq (.region true c135r10 [0,1,2,6]) c135k29))))
def g135 : AFn := ⟨3,[],c135,true,[],[],none⟩
theorem tr135 : trFn Tryz.prog true 135 Tryz.f135 = some g135 := by kernel_rfl
def c136r0 : List AOper := [
 ⟨some 4,(.alloc (some 4) (.agg [(none,(.pv none (.int .i64 0))),(none,(.pv none (.int .i64 0))),(none,(.pv none (.str []))),(none,(.tsl (some 4) []))])),[],none⟩]
def c136r1 : List AOper := [
 ⟨some 5,.mv,[.t 1],none⟩,
 ⟨some 6,.len,[.t 5],none⟩,
 ⟨some 7,(.bin .eql),[.t 6,.c (.pv none (.int .i64 0))],none⟩]
def c136r2 : List AOper := [
 ⟨some 8,.mv,[.t 0],none⟩,
 ⟨some 9,.call,[.c (.pv none (.func (.func 137))),.t 8],none⟩,
 ⟨none,(.store (some 4)),[.t 4,.t 9],none⟩]
def c136k3 : ACode := (.cond (.t 7) (.seq (.region true c136r2 [4]) .ret) .skip)
def c136r4 : List AOper := [
 ⟨some 10,.mv,[.t 0],none⟩,
 ⟨some 11,.mv,[.t 1],none⟩,
 ⟨some 12,(.build [(none,(.pv none (.int .i64 0))),(none,(.pv none (.int .i64 0))),(none,(.pv none (.str []))),(none,(.tsl (some 4) []))] [0,2,3]),[.c (.pv none (.int .i64 3)),.t 10,.t 11],none⟩,
 ⟨some 13,.call,[.c (.pv none (.func (.func 51))),.t 12],none⟩,
 ⟨none,(.store (some 4)),[.t 4,.t 13],none⟩]
def c136 : ACode := (.seq (.region true c136r0 [0,1,4]) (.seq (.seq (.region true c136r1 [0,1,4,7]) c136k3) (.seq (.region true c136r4 [4]) .ret)))
def g136 : AFn := ⟨2,[(4,some (some 4))],c136,false,[],[],none⟩
theorem tr136 : trFn Tryz.prog false 136 Tryz.f136 = some g136 := by kernel_rfl
def c137r0 : List AOper := [
 ⟨some 2,(.alloc (some 4) (.agg [(none,(.pv none (.int .i64 0))),(none,(.pv none (.int .i64 0))),(none,(.pv none (.str []))),(none,(.tsl (some 4) []))])),[],none⟩]
def c137r1 : List AOper := [
 ⟨some 3,.mv,[.t 0],none⟩,
 ⟨some 4,(.build [(none,(.pv none (.int .i64 0))),(none,(.pv none (.int .i64 0))),(none,(.pv none (.str []))),(none,(.tsl (some 4) []))] [0,2]),[.c (.pv none (.int .i64 2)),.t 3],none⟩,
 ⟨some 5,.call,[.c (.pv none (.func (.func 51))),.t 4],none⟩,
 ⟨none,(.store (some 4)),[.t 2,.t 5],none⟩]
def c137 : ACode := (.seq (.region true c137r0 [0,2]) (.seq (.region true c137r1 [2]) .ret))
def g137 : AFn := ⟨1,[(2,some (some 4))],c137,false,[],[],none⟩
theorem tr137 : trFn Tryz.prog false 137 Tryz.f137 = some g137 := by kernel_rfl
def c139r0 : List AOper := [
 ⟨some 2,(.alloc (some 4) (.agg [(none,(.pv none (.int .i64 0))),(none,(.pv none (.int .i64 0))),(none,(.pv none (.str []))),(none,(.tsl (some 4) []))])),[],none⟩]
def c139r1 : List AOper := [
 ⟨some 3,(.load none),[.t 0],none⟩,
 ⟨some 4,(.load (some 4)),[.t 1],none⟩,
 ⟨some 5,.call,[.c (.pv none (.func (.func 70))),.t 3,.t 4],none⟩,
 ⟨none,(.store (some 4)),[.t 2,.t 5],none⟩]
def c139 : ACode := (.seq (.region true c139r0 [0,1,2]) (.seq (.region true c139r1 [2]) .ret))
def g139 : AFn := ⟨2,[(2,some (some 4))],c139,true,[],[],none⟩
theorem tr139 : trFn Tryz.prog true 139 Tryz.f139 = some g139 := by kernel_rfl
def c140r0 : List AOper := [
 ⟨some 2,(.alloc (some 4) (.agg [(none,(.pv none (.int .i64 0))),(none,(.pv none (.int .i64 0))),(none,(.pv none (.str []))),(none,(.tsl (some 4) []))])),[],none⟩]
def c140r1 : List AOper := [
 ⟨some 3,(.load none),[.t 0],none⟩,
 ⟨some 4,(.load (some 4)),[.t 1],none⟩,
 ⟨some 5,.call,[.c (.pv none (.func (.func 141))),.t 3,.t 4],none⟩,
 ⟨none,(.store (some 4)),[.t 2,.t 5],none⟩]
def c140 : ACode := (.seq (.region true c140r0 [0,1,2]) (.seq (.region true c140r1 [2]) .ret))
def g140 : AFn := ⟨2,[(2,some (some 4))],c140,true,[],[],none⟩
theorem tr140 : trFn Tryz.prog true 140 Tryz.f140 = some g140 := by kernel_rfl
def c141r0 : List AOper := [
 ⟨some 3,(.box (some 4)),[.t 1],none⟩,
 ⟨some 4,(.alloc (some 4) (.agg [(none,(.pv none (.int .i64 0))),(none,(.pv none (.int .i64 0))),(none,(.pv none (.str []))),(none,(.tsl (some 4) []))])),[],none⟩]
def c141r1 : List AOper := [
 ⟨some 5,(.load (some 4)),[.t 3],none⟩,
 ⟨some 6,.mv,[.t 0],none⟩,
 ⟨some 7,(.bslice none),[.t 6],none⟩,
 ⟨some 8,.call,[.c (.pv none (.func (.func 115))),.t 5,.c (.pv none (.str [100,111,109,97,105,110,95,101,114,114,111,114])),.t 7],none⟩,
 ⟨none,(.store (some 4)),[.t 4,.t 8],none⟩]
def c141 : ACode := (.seq (.region true c141r0 [0,3,4]) (.seq (.region true c141r1 [4]) .ret))
def g141 : AFn := ⟨2,[(4,some (some 4))],c141,false,[],[],none⟩
theorem tr141 : trFn Tryz.prog false 141 Tryz.f141 = some g141 := by kernel_rfl
def c142r0 : List AOper := [
 ⟨some 2,(.alloc (some 4) (.agg [(none,(.pv none (.int .i64 0))),(none,(.pv none (.int .i64 0))),(none,(.pv none (.str []))),(none,(.tsl (some 4) []))])),[],none⟩]
def c142r1 : List AOper := [
 ⟨some 3,.mv,[.t 0],none⟩,
 ⟨some 4,.call,[.c (.pv none (.func (.func 149))),.c (.pv none (.str [114,101,112,114,101,115,101,110,116,97,116,105,111,110,95,101,114,114,111,114])),.t 3],none⟩,
 ⟨none,(.store (some 4)),[.t 2,.t 4],none⟩]
def c142 : ACode := (.seq (.region true c142r0 [0,2]) (.seq (.region true c142r1 [2]) .ret))
def g142 : AFn := ⟨1,[(2,some (some 4))],c142,false,[],[],none⟩
theorem tr142 : trFn Tryz.prog false 142 Tryz.f142 = some g142 := by kernel_rfl
def c143r0 : List AOper := [
 ⟨some 1,(.box none),[.t 0],none⟩,
 ⟨some 2,.mv,[.c (.pv none .nilfunc)],none⟩]
def c143r1 : List AOper := [
 ⟨some 3,(.mkfunc (.func 150) 0),[.t 1],none⟩,
 ⟨some 2,.mv,[.t 3],none⟩]
def c143 : ACode := (.seq (.region true c143r0 [1]) (.seq (.region true c143r1 [2]) .ret))
def g143 : AFn := ⟨1,[(2,none)],c143,true,[],[],none⟩
theorem tr143 : trFn Tryz.prog true 143 Tryz.f143 = some g143 := by kernel_rfl
def c144r0 : List AOper := [
 ⟨some 4,.mv,[.c (.pv none (.int .i64 0))],none⟩,
 ⟨some 5,.mv,[.c (.pv none (.bool false))],none⟩]
def c144r1 : List AOper := [
 ⟨some 6,.mv,[.t 0],none⟩,
 ⟨some 7,.mv,[.t 1],none⟩,
 ⟨some 8,.call,[.c (.pv none (.func (.func 151))),.t 6,.t 7,.c (.pv none (.func (.func 152)))],none⟩,
 ⟨some 9,(.extract 0),[.t 8],none⟩,
 ⟨some 10,(.extract 1),[.t 8],none⟩,
 ⟨some 4,.mv,[.t 9],none⟩,
 ⟨some 5,.mv,[.t 10],none⟩]
def c144 : ACode := (.seq (.region true c144r0 [0,1]) (.seq (.region true c144r1 [4,5]) .ret))
def g144 : AFn := ⟨2,[(4,none),(5,none)],c144,false,[],[],none⟩
theorem tr144 : trFn Tryz.prog false 144 Tryz.f144 = some g144 := by kernel_rfl
def c145r0 : List AOper := [
 ⟨some 6,(.box (some 4)),[.t 2],none⟩,
 ⟨some 8,.mv,[.c (.pv none (.bool false))],none⟩]
def c145r1 : List AOper := [
 ⟨some 13,(.faddr 0),[.t 6],none⟩,
 ⟨some 14,(.load none),[.t 13],none⟩,
 ⟨some 15,(.bin .eql),[.t 14,.c (.pv none (.int .i64 0))],none⟩]
def c145r2 : List AOper := [
 ⟨some 17,.mv,[.t 0],none⟩,
 ⟨some 18,(.load (some 4)),[.t 6],none⟩,
 ⟨some 19,.call,[.c (.pv none (.func (.func 133))),.t 17,.t 18],none⟩,
 ⟨some 16,.mv,[.t 19],none⟩,
 ⟨some 20,(.extract 0),[.t 16],none⟩,
 ⟨some 21,(.extract 1),[.t 16],none⟩,
 ⟨some 9,(.alloc (some 4) (.agg [(none,(.pv none (.int .i64 0))),(none,(.pv none (.int .i64 0))),(none,(.pv none (.str []))),(none,(.tsl (some 4) []))])),[],none⟩,
 ⟨none,(.store (some 4)),[.t 9,.t 20],none⟩,
 ⟨some 10,.mv,[.t 21],none⟩]
def c145r3 : List AOper := [
 ⟨some 22,.mv,[.t 10],none⟩,
 ⟨some 23,.not,[.t 22],none⟩]
def c145r4 : List AOper := [
 ⟨some 24,(.faddr 1),[.t 6],none⟩,
 ⟨some 25,(.load none),[.t 24],none⟩,
 ⟨some 26,.mv,[.t 1],none⟩,
 ⟨some 27,(.bin .eql),[.t 25,.t 26],none⟩,
 ⟨some 8,.mv,[.t 27],none⟩]
def c145k5 : ACode := (.cond (.t 23) (.seq (.region true c145r4 [8]) .ret) .skip)
def c145r6 : List AOper := [
 ⟨some 28,.mv,[.t 3],none⟩,
 ⟨some 29,(.faddr 1),[.t 6],none⟩,
 ⟨some 30,(.load none),[.t 29],none⟩,
 ⟨some 31,(.lookup false none (.pv none (.int .i64 0)) false),[.t 28,.t 30],none⟩,
 ⟨some 32,(.bin .add),[.t 31,.c (.pv none (.int .i64 1))],none⟩,
 ⟨none,(.mapset false none),[.t 28,.t 30,.t 32],none⟩]
def c145r7 : List AOper := [
 ⟨some 33,.mv,[.t 3],none⟩,
 ⟨some 34,(.faddr 1),[.t 6],none⟩,
 ⟨some 35,(.load none),[.t 34],none⟩,
 ⟨some 36,(.lookup false none (.pv none (.int .i64 0)) false),[.t 33,.t 35],none⟩,
 ⟨some 37,(.bin .eql),[.t 36,.c (.pv none (.int .i64 1))],none⟩,
 ⟨some 38,.mv,[.t 37],none⟩,
 ⟨some 39,.mv,[.t 0],some (38,true)⟩,
 ⟨some 40,.mv,[.t 1],some (38,true)⟩,
 ⟨some 41,(.load (some 4)),[.t 9],some (38,true)⟩,
 ⟨some 42,.mv,[.t 3],some (38,true)⟩,
 ⟨some 43,.call,[.c (.pv none (.func (.func 145))),.t 39,.t 40,.t 41,.t 42],some (38,true)⟩,
 ⟨some 44,.pick,[.t 38,.t 43,.c (.pv none (.bool false))],none⟩,
 ⟨some 8,.mv,[.t 44],none⟩]
def c145k8 : ACode := (.cond (.t 15) (.seq (.region true c145r2 [0,1,3,6,9,10]) (.seq (.seq (.region true c145r3 [0,1,3,6,9,23]) c145k5) (.seq (.region true c145r6 [0,1,3,6,9]) (.seq (.region true c145r7 [8]) .ret)))) .skip)
def c145r9 : List AOper := [
 ⟨some 45,(.faddr 3),[.t 6],none⟩,
 ⟨some 46,(.load none),[.t 45],none⟩,
 ⟨some 47,.len,[.t 46],none⟩,
 ⟨some 48,.mv,[.c (.pv none (.int .i64 0))],none⟩]
def c145r10 : List AOper := [
 ⟨some 49,(.bin .lss),[.t 48,.t 47],none⟩]
def c145k11 : ACode := (.cond (.t 49) .skip (.exit 0))
def c145r12 : List AOper := [
 ⟨some 50,(.iaddr (some 4)),[.t 46,.t 48],none⟩,
 ⟨some 51,(.load (some 4)),[.t 50],none⟩,
 ⟨some 12,(.alloc (some 4) (.agg [(none,(.pv none (.int .i64 0))),(none,(.pv none (.int .i64 0))),(none,(.pv none (.str []))),(none,(.tsl (some 4) []))])),[],none⟩,
 ⟨none,(.store (some 4)),[.t 12,.t 51],none⟩]
def c145r13 : List AOper := [
 ⟨some 52,.mv,[.t 0],none⟩,
 ⟨some 53,.mv,[.t 1],none⟩,
 ⟨some 54,(.load (some 4)),[.t 12],none⟩,
 ⟨some 55,.mv,[.t 3],none⟩,
 ⟨some 56,.call,[.c (.pv none (.func (.func 145))),.t 52,.t 53,.t 54,.t 55],none⟩]
def c145r14 : List AOper := [
 ⟨some 8,.mv,[.c (.pv none (.bool true))],none⟩]
def c145k15 : ACode := (.cond (.t 56) (.seq (.region true c145r14 [8]) .ret) .skip)
def c145k16 : ACode := (.block 1 (.seq (.region true c145r12 [0,1,3,12,46,47,48]) (.seq (.region true c145r13 [0,1,3,46,47,48,56]) c145k15)))
def c145r17 : List AOper := [
 ⟨some 57,(.bin .add),[.t 48,.c (.pv none (.int .i64 1))],none⟩,
 ⟨some 48,.mv,[.t 57],none⟩]
def c145b18 : ACode := (.seq (.region true c145r10 [0,1,3,46,47,48,49]) (.seq c145k11 (.seq c145k16 (.region true c145r17 [0,1,3,46,47,48]))))
def c145k19 : ACode := (.block 0 (.loop [0,1,3,46,47,48] c145b18))
def c145r20 : List AOper := [
 ⟨some 8,.mv,[.c (.pv none (.bool false))],none⟩]
def c145 : ACode := (.seq (.region true c145r0 [0,1,3,6]) (.seq (.seq (.region true c145r1 [0,1,3,6,15]) c145k8) (.seq (.seq (.region true c145r9 [0,1,3,46,47,48]) c145k19) (.seq (.region true c145r20 [8]) .ret))))
def g145 : AFn := ⟨4,[(8,none)],c145,false,[],[],none⟩
theorem tr145 : trFn Tryz.prog false 145 Tryz.f145 = some g145 := by kernel_rfl
def c147r0 : List AOper := [
 ⟨some 10,.mv,[.t 1],none⟩,
 ⟨some 11,(.bin .add),[.t 10,.c (.pv none (.int .i64 1))],none⟩,
 ⟨some 8,.mv,[.t 11],none⟩]
def c147r1 : List AOper := [
 ⟨some 12,.mv,[.t 8],none⟩,
 ⟨some 13,.mv,[.t 2],none⟩,
 ⟨some 14,(.bin .lss),[.t 12,.t 13],none⟩]
def c147k2 : ACode := (.cond (.t 14) .skip (.exit 0))
def c147r3 : List AOper := [
 ⟨some 17,.mv,[.t 8],none⟩,
 ⟨some 9,.mv,[.t 17],none⟩]
def c147r4 : List AOper := [
 ⟨some 18,.mv,[.t 9],none⟩,
 ⟨some 19,.mv,[.t 1],none⟩,
 ⟨some 20,(.bin .gtr),[.t 18,.t 19],none⟩,
 ⟨some 21,.mv,[.t 20],none⟩,
 ⟨some 22,.mv,[.t 3],some (21,true)⟩,
 ⟨some 23,.mv,[.t 0],some (21,true)⟩,
 ⟨some 24,.mv,[.t 9],some (21,true)⟩,
 ⟨some 25,(.iaddr (some 4)),[.t 23,.t 24],some (21,true)⟩,
 ⟨some 26,(.load (some 4)),[.t 25],some (21,true)⟩,
 ⟨some 27,.mv,[.t 0],some (21,true)⟩,
 ⟨some 28,.mv,[.t 9],some (21,true)⟩,
 ⟨some 29,(.bin .sub),[.t 28,.c (.pv none (.int .i64 1))],some (21,true)⟩,
 ⟨some 30,(.iaddr (some 4)),[.t 27,.t 29],some (21,true)⟩,
 ⟨some 31,(.load (some 4)),[.t 30],some (21,true)⟩,
 ⟨some 32,.call,[.t 22,.t 26,.t 31],some (21,true)⟩,
 ⟨some 33,(.bin .lss),[.t 32,.c (.pv none (.int .i64 0))],some (21,true)⟩,
 ⟨some 34,.pick,[.t 21,.t 33,.c (.pv none (.bool false))],none⟩]
def c147k5 : ACode := (.cond (.t 34) .skip (.exit 2))
def c147r6 : List AOper := [
 ⟨some 37,.mv,[.t 0],none⟩,
 ⟨some 38,.mv,[.t 9],none⟩,
 ⟨some 39,.mv,[.t 0],none⟩,
 ⟨some 40,.mv,[.t 9],none⟩,
 ⟨some 41,(.bin .sub),[.t 40,.c (.pv none (.int .i64 1))],none⟩,
 ⟨some 42,.mv,[.t 0],none⟩,
 ⟨some 43,.mv,[.t 9],none⟩,
 ⟨some 44,(.bin .sub),[.t 43,.c (.pv none (.int .i64 1))],none⟩,
 ⟨some 45,(.iaddr (some 4)),[.t 42,.t 44],none⟩,
 ⟨some 46,(.load (some 4)),[.t 45],none⟩,
 ⟨some 47,.mv,[.t 0],none⟩,
 ⟨some 48,.mv,[.t 9],none⟩,
 ⟨some 49,(.iaddr (some 4)),[.t 47,.t 48],none⟩,
 ⟨some 50,(.load (some 4)),[.t 49],none⟩,
 ⟨some 51,(.iaddr (some 4)),[.t 37,.t 38],none⟩,
 ⟨none,(.store (some 4)),[.t 51,.t 46],none⟩,
 ⟨some 52,(.iaddr (some 4)),[.t 39,.t 41],none⟩,
 ⟨none,(.store (some 4)),[.t 52,.t 50],none⟩]
def c147k7 : ACode := (.block 3 (.region true c147r6 [0,1,2,3,8,9]))
def c147r8 : List AOper := [
 ⟨some 35,.mv,[.t 9],none⟩,
 ⟨some 36,(.bin .sub),[.t 35,.c (.pv none (.int .i64 1))],none⟩,
 ⟨some 9,.mv,[.t 36],none⟩]
def c147b9 : ACode := (.seq (.seq (.region true c147r4 [0,1,2,3,8,9,34]) c147k5) (.seq c147k7 (.region true c147r8 [0,1,2,3,8,9])))
def c147k10 : ACode := (.block 2 (.loop [0,1,2,3,8,9] c147b9))
def c147k11 : ACode := (.block 1 (.seq (.region true c147r3 [0,1,2,3,8,9]) c147k10))
def c147r12 : List AOper := [
 ⟨some 15,.mv,[.t 8],none⟩,
 ⟨some 16,(.bin .add),[.t 15,.c (.pv none (.int .i64 1))],none⟩,
 ⟨some 8,.mv,[.t 16],none⟩]
def c147b13 : ACode := (.seq (.seq (.region true c147r1 [0,1,2,3,8,14]) c147k2) (.seq c147k11 (.region true c147r12 [0,1,2,3,8])))
def c147k14 : ACode := (.block 0 (.loop [0,1,2,3,8] c147b13))
def c147 : ACode := (.seq (.region true c147r0 [0,1,2,3,8]) c147k14)
def g147 : AFn := ⟨4,[],c147,true,[],[],none⟩
theorem tr147 : trFn Tryz.prog true 147 Tryz.f147 = some g147 := by kernel_rfl
def c148r0 : List AOper := [
 ⟨some 25,.mv,[.t 2],none⟩,
 ⟨some 26,.mv,[.t 1],none⟩,
 ⟨some 27,(.bin .sub),[.t 25,.t 26],none⟩,
 ⟨some 28,(.bin .eql),[.t 27,.c (.pv none (.int .i64 1))],none⟩]
def c148r1 : List AOper := [
 ⟨some 29,.mv,[.t 2],none⟩,
 ⟨some 10,.mv,[.t 29],none⟩]
def c148r2 : List AOper := [
 ⟨some 30,.mv,[.t 3],none⟩,
 ⟨some 11,.mv,[.t 30],none⟩]
def c148r3 : List AOper := [
 ⟨some 31,.mv,[.t 10],none⟩,
 ⟨some 32,.mv,[.t 11],none⟩,
 ⟨some 33,(.bin .lss),[.t 31,.t 32],none⟩]
def c148k4 : ACode := (.cond (.t 33) .skip (.exit 0))
def c148r5 : List AOper := [
 ⟨some 34,.mv,[.t 10],none⟩,
 ⟨some 35,.mv,[.t 11],none⟩,
 ⟨some 36,(.bin .add),[.t 34,.t 35],none⟩,
 ⟨some 37,(.conv .u64),[.t 36],none⟩,
 ⟨some 38,(.bin .shr),[.t 37,.c (.pv none (.int .u64 1))],none⟩,
 ⟨some 39,(.conv .i64),[.t 38],none⟩,
 ⟨some 12,.mv,[.t 39],none⟩]
def c148r6 : List AOper := [
 ⟨some 40,.mv,[.t 4],none⟩,
 ⟨some 41,.mv,[.t 0],none⟩,
 ⟨some 42,.mv,[.t 12],none⟩,
 ⟨some 43,(.iaddr (some 4)),[.t 41,.t 42],none⟩,
 ⟨some 44,(.load (some 4)),[.t 43],none⟩,
 ⟨some 45,.mv,[.t 0],none⟩,
 ⟨some 46,.mv,[.t 1],none⟩,
 ⟨some 47,(.iaddr (some 4)),[.t 45,.t 46],none⟩,
 ⟨some 48,(.load (some 4)),[.t 47],none⟩,
 ⟨some 49,.call,[.t 40,.t 44,.t 48],none⟩,
 ⟨some 50,(.bin .lss),[.t 49,.c (.pv none (.int .i64 0))],none⟩]
def c148r7 : List AOper := [
 ⟨some 51,.mv,[.t 12],none⟩,
 ⟨some 52,(.bin .add),[.t 51,.c (.pv none (.int .i64 1))],none⟩,
 ⟨some 10,.mv,[.t 52],none⟩]
def c148r8 : List AOper := [
 ⟨some 53,.mv,[.t 12],none⟩,
 ⟨some 11,.mv,[.t 53],none⟩]
def c148k9 : ACode := (.cond (.t 50) (.region true c148r7 [0,1,4,10,11]) (.region true c148r8 [0,1,4,10,11]))
def c148k10 : ACode := (.block 1 (.seq (.region true c148r5 [0,1,4,10,11,12]) (.seq (.region true c148r6 [0,1,4,10,11,12,50]) c148k9)))
def c148b11 : ACode := (.seq (.seq (.region true c148r3 [0,1,4,10,11,33]) c148k4) c148k10)
def c148k12 : ACode := (.block 0 (.loop [0,1,4,10,11] c148b11))
def c148r13 : List AOper := [
 ⟨some 54,.mv,[.t 1],none⟩,
 ⟨some 13,.mv,[.t 54],none⟩]
def c148r14 : List AOper := [
 ⟨some 55,.mv,[.t 13],none⟩,
 ⟨some 56,.mv,[.t 10],none⟩,
 ⟨some 57,(.bin .sub),[.t 56,.c (.pv none (.int .i64 1))],none⟩,
 ⟨some 58,(.bin .lss),[.t 55,.t 57],none⟩]
def c148k15 : ACode := (.cond (.t 58) .skip (.exit 2))
def c148r16 : List AOper := [
 ⟨some 61,.mv,[.t 0],none⟩,
 ⟨some 62,.mv,[.t 13],none⟩,
 ⟨some 63,.mv,[.t 0],none⟩,
 ⟨some 64,.mv,[.t 13],none⟩,
 ⟨some 65,(.bin .add),[.t 64,.c (.pv none (.int .i64 1))],none⟩,
 ⟨some 66,.mv,[.t 0],none⟩,
 ⟨some 67,.mv,[.t 13],none⟩,
 ⟨some 68,(.bin .add),[.t 67,.c (.pv none (.int .i64 1))],none⟩,
 ⟨some 69,(.iaddr (some 4)),[.t 66,.t 68],none⟩,
 ⟨some 70,(.load (some 4)),[.t 69],none⟩,
 ⟨some 71,.mv,[.t 0],none⟩,
 ⟨some 72,.mv,[.t 13],none⟩,
 ⟨some 73,(.iaddr (some 4)),[.t 71,.t 72],none⟩,
 ⟨some 74,(.load (some 4)),[.t 73],none⟩,
 ⟨some 75,(.iaddr (some 4)),[.t 61,.t 62],none⟩,
 ⟨none,(.store (some 4)),[.t 75,.t 70],none⟩,
 ⟨some 76,(.iaddr (some 4)),[.t 63,.t 65],none⟩,
 ⟨none,(.store (some 4)),[.t 76,.t 74],none⟩]
def c148k17 : ACode := (.block 3 (.region true c148r16 [0,10,13]))
def c148r18 : List AOper := [
 ⟨some 59,.mv,[.t 13],none⟩,
 ⟨some 60,(.bin .add),[.t 59,.c (.pv none (.int .i64 1))],none⟩,
 ⟨some 13,.mv,[.t 60],none⟩]
def c148b19 : ACode := (.seq (.seq (.region true c148r14 [0,10,13,58]) c148k15) (.seq c148k17 (.region true c148r18 [0,10,13])))
def c148k20 : ACode := (.block 2 (.loop [0,10,13] c148b19))
def c148k21 : ACode := (.cond (.t 28) (.seq (.region true c148r1 [0,1,3,4,10]) (.seq (.region true c148r2 [0,1,4,10,11]) (.seq c148k12 (.seq (.seq (.region true c148r13 [0,10,13]) c148k20) .ret)))) .skip)
def c148r22 : List AOper := [
 ⟨some 77,.mv,[.t 3],none⟩,
 ⟨some 78,.mv,[.t 2],none⟩,
 ⟨some 79,(.bin .sub),[.t 77,.t 78],none⟩,
 ⟨some 80,(.bin .eql),[.t 79,.c (.pv none (.int .i64 1))],none⟩]
def c148r23 : List AOper := [
 ⟨some 81,.mv,[.t 1],none⟩,
 ⟨some 14,.mv,[.t 81],none⟩]
def c148r24 : List AOper := [
 ⟨some 82,.mv,[.t 2],none⟩,
 ⟨some 15,.mv,[.t 82],none⟩]
def c148r25 : List AOper := [
 ⟨some 83,.mv,[.t 14],none⟩,
 ⟨some 84,.mv,[.t 15],none⟩,
 ⟨some 85,(.bin .lss),[.t 83,.t 84],none⟩]
def c148k26 : ACode := (.cond (.t 85) .skip (.exit 4))
def c148r27 : List AOper := [
 ⟨some 86,.mv,[.t 14],none⟩,
 ⟨some 87,.mv,[.t 15],none⟩,
 ⟨some 88,(.bin .add),[.t 86,.t 87],none⟩,
 ⟨some 89,(.conv .u64),[.t 88],none⟩,
 ⟨some 90,(.bin .shr),[.t 89,.c (.pv none (.int .u64 1))],none⟩,
 ⟨some 91,(.conv .i64),[.t 90],none⟩,
 ⟨some 16,.mv,[.t 91],none⟩]
def c148r28 : List AOper := [
 ⟨some 92,.mv,[.t 4],none⟩,
 ⟨some 93,.mv,[.t 0],none⟩,
 ⟨some 94,.mv,[.t 2],none⟩,
 ⟨some 95,(.iaddr (some 4)),[.t 93,.t 94],none⟩,
 ⟨some 96,(.load (some 4)),[.t 95],none⟩,
 ⟨some 97,.mv,[.t 0],none⟩,
 ⟨some 98,.mv,[.t 16],none⟩,
 ⟨some 99,(.iaddr (some 4)),[.t 97,.t 98],none⟩,
 ⟨some 100,(.load (some 4)),[.t 99],none⟩,
 ⟨some 101,.call,[.t 92,.t 96,.t 100],none⟩,
 ⟨some 102,(.bin .lss),[.t 101,.c (.pv none (.int .i64 0))],none⟩,
 ⟨some 103,.not,[.t 102],none⟩]
def c148r29 : List AOper := [
 ⟨some 104,.mv,[.t 16],none⟩,
 ⟨some 105,(.bin .add),[.t 104,.c (.pv none (.int .i64 1))],none⟩,
 ⟨some 14,.mv,[.t 105],none⟩]
def c148r30 : List AOper := [
 ⟨some 106,.mv,[.t 16],none⟩,
 ⟨some 15,.mv,[.t 106],none⟩]
def c148k31 : ACode := (.cond (.t 103) (.region true c148r29 [0,2,4,14,15]) (.region true c148r30 [0,2,4,14,15]))
def c148k32 : ACode := (.block 5 (.seq (.region true c148r27 [0,2,4,14,15,16]) (.seq (.region true c148r28 [0,2,4,14,15,16,103]) c148k31)))
def c148b33 : ACode := (.seq (.seq (.region true c148r25 [0,2,4,14,15,85]) c148k26) c148k32)
def c148k34 : ACode := (.block 4 (.loop [0,2,4,14,15] c148b33))
def c148r35 : List AOper := [
 ⟨some 107,.mv,[.t 2],none⟩,
 ⟨some 17,.mv,[.t 107],none⟩]
def c148r36 : List AOper := [
 ⟨some 108,.mv,[.t 17],none⟩,
 ⟨some 109,.mv,[.t 14],none⟩,
 ⟨some 110,(.bin .gtr),[.t 108,.t 109],none⟩]
def c148k37 : ACode := (.cond (.t 110) .skip (.exit 6))
def c148r38 : List AOper := [
 ⟨some 113,.mv,[.t 0],none⟩,
 ⟨some 114,.mv,[.t 17],none⟩,
 ⟨some 115,.mv,[.t 0],none⟩,
 ⟨some 116,.mv,[.t 17],none⟩,
 ⟨some 117,(.bin .sub),[.t 116,.c (.pv none (.int .i64 1))],none⟩,
 ⟨some 118,.mv,[.t 0],none⟩,
 ⟨some 119,.mv,[.t 17],none⟩,
 ⟨some 120,(.bin .sub),[.t 119,.c (.pv none (.int .i64 1))],none⟩,
 ⟨some 121,(.iaddr (some 4)),[.t 118,.t 120],none⟩,
 ⟨some 122,(.load (some 4)),[.t 121],none⟩,
 ⟨some 123,.mv,[.t 0],none⟩,
 ⟨some 124,.mv,[.t 17],none⟩,
 ⟨some 125,(.iaddr (some 4)),[.t 123,.t 124],none⟩,
 ⟨some 126,(.load (some 4)),[.t 125],none⟩,
 ⟨some 127,(.iaddr (some 4)),[.t 113,.t 114],none⟩,
 ⟨none,(.store (some 4)),[.t 127,.t 122],none⟩,
 ⟨some 128,(.iaddr (some 4)),[.t 115,.t 117],none⟩,
 ⟨none,(.store (some 4)),[.t 128,.t 126],none⟩]
def c148k39 : ACode := (.block 7 (.region true c148r38 [0,14,17]))
def c148r40 : List AOper := [
 ⟨some 111,.mv,[.t 17],none⟩,
 ⟨some 112,(.bin .sub),[.t 111,.c (.pv none (.int .i64 1))],none⟩,
 ⟨some 17,.mv,[.t 112],none⟩]
def c148b41 : ACode := (.seq (.seq (.region true c148r36 [0,14,17,110]) c148k37) (.seq c148k39 (.region true c148r40 [0,14,17])))
def c148k42 : ACode := (.block 6 (.loop [0,14,17] c148b41))
def c148k43 : ACode := (.cond (.t 80) (.seq (.region true c148r23 [0,2,4,14]) (.seq (.region true c148r24 [0,2,4,14,15]) (.seq c148k34 (.seq (.seq (.region true c148r35 [0,14,17]) c148k42) .ret)))) .skip)
def c148r44 : List AOper := [
 ⟨some 129,.mv,[.t 1],none⟩,
 ⟨some 130,.mv,[.t 3],none⟩,
 ⟨some 131,(.bin .add),[.t 129,.t 130],none⟩,
 ⟨some 132,(.conv .u64),[.t 131],none⟩,
 ⟨some 133,(.bin .shr),[.t 132,.c (.pv none (.int .u64 1))],none⟩,
 ⟨some 134,(.conv .i64),[.t 133],none⟩,
 ⟨some 18,.mv,[.t 134],none⟩]
def c148r45 : List AOper := [
 ⟨some 135,.mv,[.t 18],none⟩,
 ⟨some 136,.mv,[.t 2],none⟩,
 ⟨some 137,(.bin .add),[.t 135,.t 136],none⟩,
 ⟨some 19,.mv,[.t 137],none⟩]
def c148r46 : List AOper := [
 ⟨some 20,.mv,[.c (.pv none (.int .i64 0))],none⟩,
 ⟨some 21,.mv,[.c (.pv none (.int .i64 0))],none⟩]
def c148r47 : List AOper := [
 ⟨some 138,.mv,[.t 2],none⟩,
 ⟨some 139,.mv,[.t 18],none⟩,
 ⟨some 140,(.bin .gtr),[.t 138,.t 139],none⟩]
def c148r48 : List AOper := [
 ⟨some 141,.mv,[.t 19],none⟩,
 ⟨some 142,.mv,[.t 3],none⟩,
 ⟨some 143,(.bin .sub),[.t 141,.t 142],none⟩,
 ⟨some 20,.mv,[.t 143],none⟩]
def c148r49 : List AOper := [
 ⟨some 144,.mv,[.t 18],none⟩,
 ⟨some 21,.mv,[.t 144],none⟩]
def c148r50 : List AOper := [
 ⟨some 145,.mv,[.t 1],none⟩,
 ⟨some 20,.mv,[.t 145],none⟩]
def c148r51 : List AOper := [
 ⟨some 146,.mv,[.t 2],none⟩,
 ⟨some 21,.mv,[.t 146],none⟩]
def c148k52 : ACode := (.cond (.t 140) (.seq (.region true c148r48 [0,1,2,3,4,18,19,20]) (.region true c148r49 [0,1,2,3,4,18,19,20,21])) (.seq (.region true c148r50 [0,1,2,3,4,18,19,20]) (.region true c148r51 [0,1,2,3,4,18,19,20,21])))
def c148r53 : List AOper := [
 ⟨some 147,.mv,[.t 19],none⟩,
 ⟨some 148,(.bin .sub),[.t 147,.c (.pv none (.int .i64 1))],none⟩,
 ⟨some 22,.mv,[.t 148],none⟩]
def c148r54 : List AOper := [
 ⟨some 149,.mv,[.t 20],none⟩,
 ⟨some 150,.mv,[.t 21],none⟩,
 ⟨some 151,(.bin .lss),[.t 149,.t 150],none⟩]
def c148k55 : ACode := (.cond (.t 151) .skip (.exit 8))
def c148r56 : List AOper := [
 ⟨some 152,.mv,[.t 20],none⟩,
 ⟨some 153,.mv,[.t 21],none⟩,
 ⟨some 154,(.bin .add),[.t 152,.t 153],none⟩,
 ⟨some 155,(.conv .u64),[.t 154],none⟩,
 ⟨some 156,(.bin .shr),[.t 155,.c (.pv none (.int .u64 1))],none⟩,
 ⟨some 157,(.conv .i64),[.t 156],none⟩,
 ⟨some 23,.mv,[.t 157],none⟩]
def c148r57 : List AOper := [
 ⟨some 158,.mv,[.t 4],none⟩,
 ⟨some 159,.mv,[.t 0],none⟩,
 ⟨some 160,.mv,[.t 22],none⟩,
 ⟨some 161,.mv,[.t 23],none⟩,
 ⟨some 162,(.bin .sub),[.t 160,.t 161],none⟩,
 ⟨some 163,(.iaddr (some 4)),[.t 159,.t 162],none⟩,
 ⟨some 164,(.load (some 4)),[.t 163],none⟩,
 ⟨some 165,.mv,[.t 0],none⟩,
 ⟨some 166,.mv,[.t 23],none⟩,
 ⟨some 167,(.iaddr (some 4)),[.t 165,.t 166],none⟩,
 ⟨some 168,(.load (some 4)),[.t 167],none⟩,
 ⟨some 169,.call,[.t 158,.t 164,.t 168],none⟩,
 ⟨some 170,(.bin .lss),[.t 169,.c (.pv none (.int .i64 0))],none⟩,
 ⟨some 171,.not,[.t 170],none⟩]
def c148r58 : List AOper := [
 ⟨some 172,.mv,[.t 23],none⟩,
 ⟨some 173,(.bin .add),[.t 172,.c (.pv none (.int .i64 1))],none⟩,
 ⟨some 20,.mv,[.t 173],none⟩]
def c148r59 : List AOper := [
 ⟨some 174,.mv,[.t 23],none⟩,
 ⟨some 21,.mv,[.t 174],none⟩]
def c148k60 : ACode := (.cond (.t 171) (.region true c148r58 [0,1,2,3,4,18,19,20,21,22]) (.region true c148r59 [0,1,2,3,4,18,19,20,21,22]))
def c148k61 : ACode := (.block 9 (.seq (.region true c148r56 [0,1,2,3,4,18,19,20,21,22,23]) (.seq (.region true c148r57 [0,1,2,3,4,18,19,20,21,22,23,171]) c148k60)))
def c148b62 : ACode := (.seq (.seq (.region true c148r54 [0,1,2,3,4,18,19,20,21,22,151]) c148k55) c148k61)
def c148k63 : ACode := (.block 8 (.loop [0,1,2,3,4,18,19,20,21,22] c148b62))
def c148r64 : List AOper := [
 ⟨some 175,.mv,[.t 19],none⟩,
 ⟨some 176,.mv,[.t 20],none⟩,
 ⟨some 177,(.bin .sub),[.t 175,.t 176],none⟩,
 ⟨some 24,.mv,[.t 177],none⟩]
def c148r65 : List AOper := [
 ⟨some 178,.mv,[.t 20],none⟩,
 ⟨some 179,.mv,[.t 2],none⟩,
 ⟨some 180,(.bin .lss),[.t 178,.t 179],none⟩,
 ⟨some 181,.mv,[.t 180],none⟩,
 ⟨some 182,.mv,[.t 2],some (181,true)⟩,
 ⟨some 183,.mv,[.t 24],some (181,true)⟩,
 ⟨some 184,(.bin .lss),[.t 182,.t 183],some (181,true)⟩,
 ⟨some 185,.pick,[.t 181,.t 184,.c (.pv none (.bool false))],none⟩]
def c148r66 : List AOper := [
 ⟨some 186,.mv,[.t 0],none⟩,
 ⟨some 187,.mv,[.t 20],none⟩,
 ⟨some 188,.mv,[.t 2],none⟩,
 ⟨some 189,.mv,[.t 24],none⟩,
 ⟨some 190,.mv,[.t 4],none⟩,
 ⟨some 191,.call,[.c (.pv none (.func (.func 155))),.t 186,.t 187,.t 188,.t 189,.t 190],none⟩]
def c148k67 : ACode := (.cond (.t 185) (.region true c148r66 [0,1,3,4,18,20,24]) .skip)
def c148r68 : List AOper := [
 ⟨some 192,.mv,[.t 1],none⟩,
 ⟨some 193,.mv,[.t 20],none⟩,
 ⟨some 194,(.bin .lss),[.t 192,.t 193],none⟩,
 ⟨some 195,.mv,[.t 194],none⟩,
 ⟨some 196,.mv,[.t 20],some (195,true)⟩,
 ⟨some 197,.mv,[.t 18],some (195,true)⟩,
 ⟨some 198,(.bin .lss),[.t 196,.t 197],some (195,true)⟩,
 ⟨some 199,.pick,[.t 195,.t 198,.c (.pv none (.bool false))],none⟩]
def c148r69 : List AOper := [
 ⟨some 200,.mv,[.t 0],none⟩,
 ⟨some 201,.mv,[.t 1],none⟩,
 ⟨some 202,.mv,[.t 20],none⟩,
 ⟨some 203,.mv,[.t 18],none⟩,
 ⟨some 204,.mv,[.t 4],none⟩,
 ⟨some 205,.call,[.c (.pv none (.func (.func 148))),.t 200,.t 201,.t 202,.t 203,.t 204],none⟩]
def c148k70 : ACode := (.cond (.t 199) (.region true c148r69 [0,3,4,18,24]) .skip)
def c148r71 : List AOper := [
 ⟨some 206,.mv,[.t 18],none⟩,
 ⟨some 207,.mv,[.t 24],none⟩,
 ⟨some 208,(.bin .lss),[.t 206,.t 207],none⟩,
 ⟨some 209,.mv,[.t 208],none⟩,
 ⟨some 210,.mv,[.t 24],some (209,true)⟩,
 ⟨some 211,.mv,[.t 3],some (209,true)⟩,
 ⟨some 212,(.bin .lss),[.t 210,.t 211],some (209,true)⟩,
 ⟨some 213,.pick,[.t 209,.t 212,.c (.pv none (.bool false))],none⟩]
def c148r72 : List AOper := [
 ⟨some 214,.mv,[.t 0],none⟩,
 ⟨some 215,.mv,[.t 18],none⟩,
 ⟨some 216,.mv,[.t 24],none⟩,
 ⟨some 217,.mv,[.t 3],none⟩,
 ⟨some 218,.mv,[.t 4],none⟩,
 ⟨some 219,.call,[.c (.pv none (.func (.func 148))),.t 214,.t 215,.t 216,.t 217,.t 218],none⟩]
def c148k73 : ACode := (.cond (.t 213) (.region true c148r72 []) .skip)
def c148 : ACode := (.seq (.seq (.region true c148r0 [0,1,2,3,4,28]) c148k21) (.seq (.seq (.region true c148r22 [0,1,2,3,4,80]) c148k43) (.seq (.region true c148r44 [0,1,2,3,4,18]) (.seq (.region true c148r45 [0,1,2,3,4,18,19]) (.seq (.region true c148r46 [0,1,2,3,4,18,19]) (.seq (.seq (.region true c148r47 [0,1,2,3,4,18,19,140]) c148k52) (.seq (.region true c148r53 [0,1,2,3,4,18,19,20,21,22]) (.seq c148k63 (.seq (.region true c148r64 [0,1,2,3,4,18,20,24]) (.seq (.seq (.region true c148r65 [0,1,2,3,4,18,20,24,185]) c148k67) (.seq (.seq (.region true c148r68 [0,1,3,4,18,20,24,199]) c148k70) (.seq (.region true c148r71 [0,3,4,18,24,213]) c148k73))))))))))))
def g148 : AFn := ⟨5,[],c148,true,[],[],none⟩
theorem tr148 : trFn Tryz.prog true 148 Tryz.f148 = some g148 := by kernel_rfl
def c149r0 : List AOper := [
 ⟨some 4,(.alloc (some 4) (.agg [(none,(.pv none (.int .i64 0))),(none,(.pv none (.int .i64 0))),(none,(.pv none (.str []))),(none,(.tsl (some 4) []))])),[],none⟩]
def c149r1 : List AOper := [
 ⟨some 5,.mv,[.t 1],none⟩,
 ⟨some 6,.slen,[.t 5],none⟩,
 ⟨some 7,(.bin .gtr),[.t 6,.c (.pv none (.int .i64 100))],none⟩]
def c149r2 : List AOper := [
 ⟨some 8,(.build [(none,(.pv none (.int .i64 0))),(none,(.pv none (.int .i64 0))),(none,(.pv none (.str []))),(none,(.tsl (some 4) []))] []),[],none⟩,
 ⟨none,(.store (some 4)),[.t 4,.t 8],none⟩]
def c149k3 : ACode := (.cond (.t 7) (.seq (.region true c149r2 [4]) .ret) .skip)
def c149r4 : List AOper := [
 ⟨some 9,.mv,[.t 0],none⟩,
 ⟨some 10,.mv,[.t 1],none⟩,
 ⟨some 11,.call,[.c (.pv none (.func (.func 137))),.t 10],none⟩,
 ⟨some 12,(.bslice (some 4)),[.t 11],none⟩,
 ⟨some 13,.call,[.c (.pv none (.func (.func 114))),.t 9,.t 12],none⟩,
 ⟨none,(.store (some 4)),[.t 4,.t 13],none⟩]
def c149 : ACode := (.seq (.region true c149r0 [0,1,4]) (.seq (.seq (.region true c149r1 [0,1,4,7]) c149k3) (.seq (.region true c149r4 [4]) .ret)))
def g149 : AFn := ⟨2,[(4,some (some 4))],c149,false,[],[],none⟩
theorem tr149 : trFn Tryz.prog false 149 Tryz.f149 = some g149 := by kernel_rfl
def c150r0 : List AOper := [
 ⟨some 4,(.load none),[.t 1],none⟩,
 ⟨some 5,.len,[.t 4],none⟩,
 ⟨some 6,(.bin .sub),[.t 5,.c (.pv none (.int .i64 1))],none⟩,
 ⟨some 3,.mv,[.t 6],none⟩]
def c150r1 : List AOper := [
 ⟨some 7,.mv,[.t 3],none⟩,
 ⟨some 8,(.bin .geq),[.t 7,.c (.pv none (.int .i64 0))],none⟩]
def c150k2 : ACode := (.cond (.t 8) .skip (.exit 0))
def c150r3 : List AOper := [
 ⟨some 11,.mv,[.t 0],none⟩,
 ⟨some 12,.mv,[.t 3],none⟩,
 ⟨some 13,(.load none),[.t 1],none⟩,
 ⟨some 14,.mv,[.t 3],none⟩,
 ⟨some 15,(.iaddr (some 4)),[.t 13,.t 14],none⟩,
 ⟨some 16,(.load (some 4)),[.t 15],none⟩,
 ⟨some 17,.call,[.t 11,.t 12,.t 16],none⟩,
 ⟨some 18,.not,[.t 17],none⟩]
def c150k4 : ACode := (.cond (.t 18) .ret .skip)
def c150k5 : ACode := (.block 1 (.seq (.region true c150r3 [0,1,3,18]) c150k4))
def c150r6 : List AOper := [
 ⟨some 9,.mv,[.t 3],none⟩,
 ⟨some 10,(.bin .sub),[.t 9,.c (.pv none (.int .i64 1))],none⟩,
 ⟨some 3,.mv,[.t 10],none⟩]
def c150b7 : ACode := (.seq (.seq (.region true c150r1 [0,1,3,8]) c150k2) (.seq c150k5 (.region true c150r6 [0,1,3])))
def c150k8 : ACode := (.block 0 (.loop [0,1,3] c150b7))
def c150 : ACode := (.seq (.region true c150r0 [0,1,3]) c150k8)
def g150 : AFn := ⟨2,[],c150,true,[],[],none⟩
theorem tr150 : trFn Tryz.prog true 150 Tryz.f150 = some g150 := by kernel_rfl
def c151r0 : List AOper := [
 ⟨some 6,.mv,[.c (.pv none (.int .i64 0))],none⟩,
 ⟨some 7,.mv,[.c (.pv none (.bool false))],none⟩]
def c151r1 : List AOper := [
 ⟨some 12,.mv,[.t 0],none⟩,
 ⟨some 13,.len,[.t 12],none⟩,
 ⟨some 8,.mv,[.t 13],none⟩]
def c151r2 : List AOper := [
 ⟨some 14,.mv,[.t 8],none⟩,
 ⟨some 9,.mv,[.c (.pv none (.int .i64 0))],none⟩,
 ⟨some 10,.mv,[.t 14],none⟩]
def c151r3 : List AOper := [
 ⟨some 15,.mv,[.t 9],none⟩,
 ⟨some 16,.mv,[.t 10],none⟩,
 ⟨some 17,(.bin .lss),[.t 15,.t 16],none⟩]
def c151k4 : ACode := (.cond (.t 17) .skip (.exit 0))
def c151r5 : List AOper := [
 ⟨some 18,.mv,[.t 9],none⟩,
 ⟨some 19,.mv,[.t 10],none⟩,
 ⟨some 20,(.bin .add),[.t 18,.t 19],none⟩,
 ⟨some 21,(.conv .u64),[.t 20],none⟩,
 ⟨some 22,(.bin .shr),[.t 21,.c (.pv none (.int .u64 1))],none⟩,
 ⟨some 23,(.conv .i64),[.t 22],none⟩,
 ⟨some 11,.mv,[.t 23],none⟩]
def c151r6 : List AOper := [
 ⟨some 24,.mv,[.t 2],none⟩,
 ⟨some 25,.mv,[.t 0],none⟩,
 ⟨some 26,.mv,[.t 11],none⟩,
 ⟨some 27,(.iaddr (some 5)),[.t 25,.t 26],none⟩,
 ⟨some 28,(.load (some 5)),[.t 27],none⟩,
 ⟨some 29,.mv,[.t 1],none⟩,
 ⟨some 30,.call,[.t 24,.t 28,.t 29],none⟩,
 ⟨some 31,(.bin .lss),[.t 30,.c (.pv none (.int .i64 0))],none⟩]
def c151r7 : List AOper := [
 ⟨some 32,.mv,[.t 11],none⟩,
 ⟨some 33,(.bin .add),[.t 32,.c (.pv none (.int .i64 1))],none⟩,
 ⟨some 9,.mv,[.t 33],none⟩]
def c151r8 : List AOper := [
 ⟨some 34,.mv,[.t 11],none⟩,
 ⟨some 10,.mv,[.t 34],none⟩]
def c151k9 : ACode := (.cond (.t 31) (.region true c151r7 [0,1,2,8,9,10]) (.region true c151r8 [0,1,2,8,9,10]))
def c151k10 : ACode := (.block 1 (.seq (.region true c151r5 [0,1,2,8,9,10,11]) (.seq (.region true c151r6 [0,1,2,8,9,10,11,31]) c151k9)))
def c151b11 : ACode := (.seq (.seq (.region true c151r3 [0,1,2,8,9,10,17]) c151k4) c151k10)
def c151k12 : ACode := (.block 0 (.loop [0,1,2,8,9,10] c151b11))
def c151r13 : List AOper := [
 ⟨some 35,.mv,[.t 9],none⟩,
 ⟨some 36,.mv,[.t 9],none⟩,
 ⟨some 37,.mv,[.t 8],none⟩,
 ⟨some 38,(.bin .lss),[.t 36,.t 37],none⟩,
 ⟨some 39,.mv,[.t 38],none⟩,
 ⟨some 40,.mv,[.t 2],some (39,true)⟩,
 ⟨some 41,.mv,[.t 0],some (39,true)⟩,
 ⟨some 42,.mv,[.t 9],some (39,true)⟩,
 ⟨some 43,(.iaddr (some 5)),[.t 41,.t 42],some (39,true)⟩,
 ⟨some 44,(.load (some 5)),[.t 43],some (39,true)⟩,
 ⟨some 45,.mv,[.t 1],some (39,true)⟩,
 ⟨some 46,.call,[.t 40,.t 44,.t 45],some (39,true)⟩,
 ⟨some 47,(.bin .eql),[.t 46,.c (.pv none (.int .i64 0))],some (39,true)⟩,
 ⟨some 48,.pick,[.t 39,.t 47,.c (.pv none (.bool false))],none⟩,
 ⟨some 6,.mv,[.t 35],none⟩,
 ⟨some 7,.mv,[.t 48],none⟩]
def c151 : ACode := (.seq (.region true c151r0 [0,1,2]) (.seq (.region true c151r1 [0,1,2,8]) (.seq (.region true c151r2 [0,1,2,8,9,10]) (.seq c151k12 (.seq (.region true c151r13 [6,7]) .ret)))))
def g151 : AFn := ⟨3,[(6,none),(7,none)],c151,false,[],[],none⟩
theorem tr151 : trFn Tryz.prog false 151 Tryz.f151 = some g151 := by kernel_rfl
def c152r0 : List AOper := [
 ⟨some 2,(.box (some 5)),[.t 0],none⟩,
 ⟨some 4,.mv,[.c (.pv none (.int .i64 0))],none⟩]
def c152r1 : List AOper := [
 ⟨some 5,(.faddr 0),[.t 2],none⟩,
 ⟨some 6,(.load none),[.t 5],none⟩,
 ⟨some 7,.mv,[.t 1],none⟩,
 ⟨some 8,.call,[.c (.pv none (.func (.func 89))),.t 6,.t 7],none⟩,
 ⟨some 4,.mv,[.t 8],none⟩]
def c152 : ACode := (.seq (.region true c152r0 [1,2]) (.seq (.region true c152r1 [4]) .ret))
def g152 : AFn := ⟨2,[(4,none)],c152,false,[],[],none⟩
theorem tr152 : trFn Tryz.prog false 152 Tryz.f152 = some g152 := by kernel_rfl
def c155r0 : List AOper := [
 ⟨some 12,.mv,[.t 2],none⟩,
 ⟨some 13,.mv,[.t 1],none⟩,
 ⟨some 14,(.bin .sub),[.t 12,.t 13],none⟩,
 ⟨some 10,.mv,[.t 14],none⟩]
def c155r1 : List AOper := [
 ⟨some 15,.mv,[.t 3],none⟩,
 ⟨some 16,.mv,[.t 2],none⟩,
 ⟨some 17,(.bin .sub),[.t 15,.t 16],none⟩,
 ⟨some 11,.mv,[.t 17],none⟩]
def c155r2 : List AOper := [
 ⟨some 18,.mv,[.t 10],none⟩,
 ⟨some 19,.mv,[.t 11],none⟩,
 ⟨some 20,(.bin .neq),[.t 18,.t 19],none⟩]
def c155k3 : ACode := (.cond (.t 20) .skip (.exit 0))
def c155r4 : List AOper := [
 ⟨some 21,.mv,[.t 10],none⟩,
 ⟨some 22,.mv,[.t 11],none⟩,
 ⟨some 23,(.bin .gtr),[.t 21,.t 22],none⟩]
def c155r5 : List AOper := [
 ⟨some 24,.mv,[.t 0],none⟩,
 ⟨some 25,.mv,[.t 2],none⟩,
 ⟨some 26,.mv,[.t 10],none⟩,
 ⟨some 27,(.bin .sub),[.t 25,.t 26],none⟩,
 ⟨some 28,.mv,[.t 2],none⟩,
 ⟨some 29,.mv,[.t 11],none⟩,
 ⟨some 30,.mv,[.t 4],none⟩,
 ⟨some 31,.call,[.c (.pv none (.func (.func 157))),.t 24,.t 27,.t 28,.t 29,.t 30],none⟩]
def c155r6 : List AOper := [
 ⟨some 32,.mv,[.t 10],none⟩,
 ⟨some 33,.mv,[.t 11],none⟩,
 ⟨some 34,(.bin .sub),[.t 32,.t 33],none⟩,
 ⟨some 10,.mv,[.t 34],none⟩]
def c155r7 : List AOper := [
 ⟨some 35,.mv,[.t 0],none⟩,
 ⟨some 36,.mv,[.t 2],none⟩,
 ⟨some 37,.mv,[.t 10],none⟩,
 ⟨some 38,(.bin .sub),[.t 36,.t 37],none⟩,
 ⟨some 39,.mv,[.t 2],none⟩,
 ⟨some 40,.mv,[.t 11],none⟩,
 ⟨some 41,(.bin .add),[.t 39,.t 40],none⟩,
 ⟨some 42,.mv,[.t 10],none⟩,
 ⟨some 43,(.bin .sub),[.t 41,.t 42],none⟩,
 ⟨some 44,.mv,[.t 10],none⟩,
 ⟨some 45,.mv,[.t 4],none⟩,
 ⟨some 46,.call,[.c (.pv none (.func (.func 157))),.t 35,.t 38,.t 43,.t 44,.t 45],none⟩]
def c155r8 : List AOper := [
 ⟨some 47,.mv,[.t 11],none⟩,
 ⟨some 48,.mv,[.t 10],none⟩,
 ⟨some 49,(.bin .sub),[.t 47,.t 48],none⟩,
 ⟨some 11,.mv,[.t 49],none⟩]
def c155k9 : ACode := (.cond (.t 23) (.seq (.region true c155r5 [0,2,4,10,11]) (.region true c155r6 [0,2,4,10,11])) (.seq (.region true c155r7 [0,2,4,10,11]) (.region true c155r8 [0,2,4,10,11])))
def c155k10 : ACode := (.block 1 (.seq (.region true c155r4 [0,2,4,10,11,23]) c155k9))
def c155b11 : ACode := (.seq (.seq (.region true c155r2 [0,2,4,10,11,20]) c155k3) c155k10)
def c155k12 : ACode := (.block 0 (.loop [0,2,4,10,11] c155b11))
def c155r13 : List AOper := [
 ⟨some 50,.mv,[.t 0],none⟩,
 ⟨some 51,.mv,[.t 2],none⟩,
 ⟨some 52,.mv,[.t 10],none⟩,
 ⟨some 53,(.bin .sub),[.t 51,.t 52],none⟩,
 ⟨some 54,.mv,[.t 2],none⟩,
 ⟨some 55,.mv,[.t 10],none⟩,
 ⟨some 56,.mv,[.t 4],none⟩,
 ⟨some 57,.call,[.c (.pv none (.func (.func 157))),.t 50,.t 53,.t 54,.t 55,.t 56],none⟩]
def c155 : ACode := (.seq (.region true c155r0 [0,2,3,4,10]) (.seq (.region true c155r1 [0,2,4,10,11]) (.seq c155k12 (.region true c155r13 []))))
def g155 : AFn := ⟨5,[],c155,true,[],[],none⟩
theorem tr155 : trFn Tryz.prog true 155 Tryz.f155 = some g155 := by kernel_rfl
def c157r0 : List AOper := [
 ⟨some 10,.mv,[.c (.pv none (.int .i64 0))],none⟩]
def c157r1 : List AOper := [
 ⟨some 11,.mv,[.t 10],none⟩,
 ⟨some 12,.mv,[.t 3],none⟩,
 ⟨some 13,(.bin .lss),[.t 11,.t 12],none⟩]
def c157k2 : ACode := (.cond (.t 13) .skip (.exit 0))
def c157r3 : List AOper := [
 ⟨some 16,.mv,[.t 0],none⟩,
 ⟨some 17,.mv,[.t 1],none⟩,
 ⟨some 18,.mv,[.t 10],none⟩,
 ⟨some 19,(.bin .add),[.t 17,.t 18],none⟩,
 ⟨some 20,.mv,[.t 0],none⟩,
 ⟨some 21,.mv,[.t 2],none⟩,
 ⟨some 22,.mv,[.t 10],none⟩,
 ⟨some 23,(.bin .add),[.t 21,.t 22],none⟩,
 ⟨some 24,.mv,[.t 0],none⟩,
 ⟨some 25,.mv,[.t 2],none⟩,
 ⟨some 26,.mv,[.t 10],none⟩,
 ⟨some 27,(.bin .add),[.t 25,.t 26],none⟩,
 ⟨some 28,(.iaddr (some 4)),[.t 24,.t 27],none⟩,
 ⟨some 29,(.load (some 4)),[.t 28],none⟩,
 ⟨some 30,.mv,[.t 0],none⟩,
 ⟨some 31,.mv,[.t 1],none⟩,
 ⟨some 32,.mv,[.t 10],none⟩,
 ⟨some 33,(.bin .add),[.t 31,.t 32],none⟩,
 ⟨some 34,(.iaddr (some 4)),[.t 30,.t 33],none⟩,
 ⟨some 35,(.load (some 4)),[.t 34],none⟩,
 ⟨some 36,(.iaddr (some 4)),[.t 16,.t 19],none⟩,
 ⟨none,(.store (some 4)),[.t 36,.t 29],none⟩,
 ⟨some 37,(.iaddr (some 4)),[.t 20,.t 23],none⟩,
 ⟨none,(.store (some 4)),[.t 37,.t 35],none⟩]
def c157k4 : ACode := (.block 1 (.region true c157r3 [0,1,2,3,10]))
def c157r5 : List AOper := [
 ⟨some 14,.mv,[.t 10],none⟩,
 ⟨some 15,(.bin .add),[.t 14,.c (.pv none (.int .i64 1))],none⟩,
 ⟨some 10,.mv,[.t 15],none⟩]
def c157b6 : ACode := (.seq (.seq (.region true c157r1 [0,1,2,3,10,13]) c157k2) (.seq c157k4 (.region true c157r5 [0,1,2,3,10])))
def c157k7 : ACode := (.block 0 (.loop [0,1,2,3,10] c157b6))
def c157 : ACode := (.seq (.region true c157r0 [0,1,2,3,10]) c157k7)
def g157 : AFn := ⟨5,[],c157,true,[],[],none⟩
theorem tr157 : trFn Tryz.prog true 157 Tryz.f157 = some g157 := by kernel_rfl
def tab : List (Nat × AFn) := [(3,g3),(11,g11),(12,g12),(13,g13),(15,g15),(17,g17),(18,g18),(19,g19),(20,g20),(21,g21),(22,g22),(23,g23),(24,g24),(27,g27),(28,g28),(30,g30),(31,g31),(34,g34),(35,g35),(36,g36),(37,g37),(39,g39),(40,g40),(41,g41),(42,g42),(43,g43),(44,g44),(45,g45),(46,g46),(47,g47),(48,g48),(49,g49),(50,g50),(51,g51),(52,g52),(53,g53),(54,g54),(55,g55),(56,g56),(57,g57),(58,g58),(61,g61),(64,g64),(65,g65),(66,g66),(67,g67),(68,g68),(69,g69),(70,g70),(71,g71),(72,g72),(73,g73),(74,g74),(75,g75),(76,g76),(77,g77),(78,g78),(79,g79),(80,g80),(81,g81),(82,g82),(83,g83),(84,g84),(85,g85),(86,g86),(87,g87),(88,g88),(89,g89),(90,g90),(91,g91),(92,g92),(93,g93),(94,g94),(95,g95),(96,g96),(97,g97),(98,g98),(99,g99),(100,g100),(101,g101),(102,g102),(103,g103),(104,g104),(105,g105),(106,g106),(107,g107),(108,g108),(109,g109),(110,g110),(111,g111),(113,g113),(114,g114),(115,g115),(116,g116),(117,g117),(118,g118),(119,g119),(120,g120),(121,g121),(122,g122),(123,g123),(124,g124),(125,g125),(126,g126),(127,g127),(128,g128),(129,g129),(130,g130),(131,g131),(132,g132),(133,g133),(134,g134),(135,g135),(136,g136),(137,g137),(139,g139),(140,g140),(141,g141),(142,g142),(143,g143),(144,g144),(145,g145),(147,g147),(148,g148),(149,g149),(150,g150),(151,g151),(152,g152),(155,g155),(157,g157)]
theorem tab_ok : TabOk Tryz.prog tab :=
  (tabOk_cons Tryz.func3 tr3
  (tabOk_cons Tryz.func11 tr11
  (tabOk_cons Tryz.func12 tr12
  (tabOk_cons Tryz.func13 tr13
  (tabOk_cons Tryz.func15 tr15
  (tabOk_cons Tryz.func17 tr17
  (tabOk_cons Tryz.func18 tr18
  (tabOk_cons Tryz.func19 tr19
  (tabOk_cons Tryz.func20 tr20
  (tabOk_cons Tryz.func21 tr21
  (tabOk_cons Tryz.func22 tr22
  (tabOk_cons Tryz.func23 tr23
  (tabOk_cons Tryz.func24 tr24
  (tabOk_cons Tryz.func27 tr27
  (tabOk_cons Tryz.func28 tr28
  (tabOk_cons Tryz.func30 tr30
  (tabOk_cons Tryz.func31 tr31
  (tabOk_cons Tryz.func34 tr34
  (tabOk_cons Tryz.func35 tr35
  (tabOk_cons Tryz.func36 tr36
  (tabOk_cons Tryz.func37 tr37
  (tabOk_cons Tryz.func39 tr39
  (tabOk_cons Tryz.func40 tr40
  (tabOk_cons Tryz.func41 tr41
  (tabOk_cons Tryz.func42 tr42
  (tabOk_cons Tryz.func43 tr43
  (tabOk_cons Tryz.func44 tr44
  (tabOk_cons Tryz.func45 tr45
  (tabOk_cons Tryz.func46 tr46
  (tabOk_cons Tryz.func47 tr47
  (tabOk_cons Tryz.func48 tr48
  (tabOk_cons Tryz.func49 tr49
  (tabOk_cons Tryz.func50 tr50
  (tabOk_cons Tryz.func51 tr51
  (tabOk_cons Tryz.func52 tr52
  (tabOk_cons Tryz.func53 tr53
  (tabOk_cons Tryz.func54 tr54
  (tabOk_cons Tryz.func55 tr55
  (tabOk_cons Tryz.func56 tr56
  (tabOk_cons Tryz.func57 tr57
  (tabOk_cons Tryz.func58 tr58
  (tabOk_cons Tryz.func61 tr61
  (tabOk_cons Tryz.func64 tr64
  (tabOk_cons Tryz.func65 tr65
  (tabOk_cons Tryz.func66 tr66
  (tabOk_cons Tryz.func67 tr67
  (tabOk_cons Tryz.func68 tr68
  (tabOk_cons Tryz.func69 tr69
  (tabOk_cons Tryz.func70 tr70
  (tabOk_cons Tryz.func71 tr71
  (tabOk_cons Tryz.func72 tr72
  (tabOk_cons Tryz.func73 tr73
  (tabOk_cons Tryz.func74 tr74
  (tabOk_cons Tryz.func75 tr75
  (tabOk_cons Tryz.func76 tr76
  (tabOk_cons Tryz.func77 tr77
  (tabOk_cons Tryz.func78 tr78
  (tabOk_cons Tryz.func79 tr79
  (tabOk_cons Tryz.func80 tr80
  (tabOk_cons Tryz.func81 tr81
  (tabOk_cons Tryz.func82 tr82
  (tabOk_cons Tryz.func83 tr83
  (tabOk_cons Tryz.func84 tr84
  (tabOk_cons Tryz.func85 tr85
  (tabOk_cons Tryz.func86 tr86
  (tabOk_cons Tryz.func87 tr87
  (tabOk_cons Tryz.func88 tr88
  (tabOk_cons Tryz.func89 tr89
  (tabOk_cons Tryz.func90 tr90
  (tabOk_cons Tryz.func91 tr91
  (tabOk_cons Tryz.func92 tr92
  (tabOk_cons Tryz.func93 tr93
  (tabOk_cons Tryz.func94 tr94
  (tabOk_cons Tryz.func95 tr95
  (tabOk_cons Tryz.func96 tr96
  (tabOk_cons Tryz.func97 tr97
  (tabOk_cons Tryz.func98 tr98
  (tabOk_cons Tryz.func99 tr99
  (tabOk_cons Tryz.func100 tr100
  (tabOk_cons Tryz.func101 tr101
  (tabOk_cons Tryz.func102 tr102
  (tabOk_cons Tryz.func103 tr103
  (tabOk_cons Tryz.func104 tr104
  (tabOk_cons Tryz.func105 tr105
  (tabOk_cons Tryz.func106 tr106
  (tabOk_cons Tryz.func107 tr107
  (tabOk_cons Tryz.func108 tr108
  (tabOk_cons Tryz.func109 tr109
  (tabOk_cons Tryz.func110 tr110
  (tabOk_cons Tryz.func111 tr111
  (tabOk_cons Tryz.func113 tr113
  (tabOk_cons Tryz.func114 tr114
  (tabOk_cons Tryz.func115 tr115
  (tabOk_cons Tryz.func116 tr116
  (tabOk_cons Tryz.func117 tr117
  (tabOk_cons Tryz.func118 tr118
  (tabOk_cons Tryz.func119 tr119
  (tabOk_cons Tryz.func120 tr120
  (tabOk_cons Tryz.func121 tr121
  (tabOk_cons Tryz.func122 tr122
  (tabOk_cons Tryz.func123 tr123
  (tabOk_cons Tryz.func124 tr124
  (tabOk_cons Tryz.func125 tr125
  (tabOk_cons Tryz.func126 tr126
  (tabOk_cons Tryz.func127 tr127
  (tabOk_cons Tryz.func128 tr128
  (tabOk_cons Tryz.func129 tr129
  (tabOk_cons Tryz.func130 tr130
  (tabOk_cons Tryz.func131 tr131
  (tabOk_cons Tryz.func132 tr132
  (tabOk_cons Tryz.func133 tr133
  (tabOk_cons Tryz.func134 tr134
  (tabOk_cons Tryz.func135 tr135
  (tabOk_cons Tryz.func136 tr136
  (tabOk_cons Tryz.func137 tr137
  (tabOk_cons Tryz.func139 tr139
  (tabOk_cons Tryz.func140 tr140
  (tabOk_cons Tryz.func141 tr141
  (tabOk_cons Tryz.func142 tr142
  (tabOk_cons Tryz.func143 tr143
  (tabOk_cons Tryz.func144 tr144
  (tabOk_cons Tryz.func145 tr145
  (tabOk_cons Tryz.func147 tr147
  (tabOk_cons Tryz.func148 tr148
  (tabOk_cons Tryz.func149 tr149
  (tabOk_cons Tryz.func150 tr150
  (tabOk_cons Tryz.func151 tr151
  (tabOk_cons Tryz.func152 tr152
  (tabOk_cons Tryz.func155 tr155
  (tabOk_cons Tryz.func157 tr157 tabOk_nil))))))))))))))))))))))))))))))))))))))))))))))))))))))))))))))))))))))))))))))))))))))))))))))))))))))))))))))))))))))))))))))))))
end Go.Proofs.YtiifblpdlphchaaGreatRR
