/- The functions as the abstract machine has them,each proved to be what the translation gives. -/
import Derived.Test.YtffecaafklpmhaaGreatAm4
import Derived.Test.YtffecaafklpmhaaGreatProg
import Derived.KernelRfl
namespace Go.Proofs.YtffecaafklpmhaaGreat
open Go.Am
def c5r0 : List AOper := [
 ⟨some 2,.mv,[.c (.pv none (.bool false))],none⟩]
def c5r1 : List AOper := [
 ⟨some 9,.mv,[.t 0],none⟩,
 ⟨some 10,.len,[.t 9],none⟩,
 ⟨some 11,(.bin .gtr),[.t 10,.c (.pv none (.int .i64 60))],none⟩]
def c5r2 : List AOper := [
 ⟨some 12,.call,[.c (.pv none (.func (.func 9)))],none⟩,
 ⟨some 2,.mv,[.t 12],none⟩]
def c5k3 : ACode := (.cond (.t 11) (.seq (.region true c5r2 [2]) .ret) .skip)
def c5r4 : List AOper := [
 ⟨some 14,.mv,[.t 0],none⟩,
 ⟨some 15,.call,[.c (.pv none (.func (.func 18))),.t 14],none⟩,
 ⟨some 13,.mv,[.t 15],none⟩,
 ⟨some 16,(.extract 0),[.t 13],none⟩,
 ⟨some 17,(.extract 1),[.t 13],none⟩,
 ⟨some 3,.mv,[.t 16],none⟩,
 ⟨some 4,.mv,[.t 17],none⟩]
def c5r5 : List AOper := [
 ⟨some 19,.mv,[.t 0],none⟩,
 ⟨some 20,.call,[.c (.pv none (.func (.func 10))),.t 19],none⟩,
 ⟨some 18,.mv,[.t 20],none⟩,
 ⟨some 21,(.extract 0),[.t 18],none⟩,
 ⟨some 22,(.extract 1),[.t 18],none⟩,
 ⟨some 5,.mv,[.t 21],none⟩,
 ⟨some 6,.mv,[.t 22],none⟩]
def c5r6 : List AOper := [
 ⟨some 23,.mv,[.t 4],none⟩,
 ⟨some 24,(.bin .neq),[.t 23,.c (.pv none (.int .i64 0))],none⟩]
def c5r7 : List AOper := [
 ⟨some 25,.mv,[.t 6],none⟩,
 ⟨some 26,.mv,[.t 4],none⟩,
 ⟨some 27,(.bin .eql),[.t 25,.t 26],none⟩,
 ⟨some 28,.mv,[.t 27],none⟩,
 ⟨some 29,.mv,[.t 5],some (28,true)⟩,
 ⟨some 30,.len,[.t 29],some (28,true)⟩,
 ⟨some 31,(.bin .eql),[.t 30,.c (.pv none (.int .i64 0))],some (28,true)⟩,
 ⟨some 32,.pick,[.t 28,.t 31,.c (.pv none (.bool false))],none⟩,
 ⟨some 33,.mv,[.t 32],none⟩,
 ⟨some 34,.call,[.c (.pv none (.func (.func 9)))],some (33,true)⟩,
 ⟨some 35,.pick,[.t 33,.t 34,.c (.pv none (.bool false))],none⟩,
 ⟨some 2,.mv,[.t 35],none⟩]
def c5k8 : ACode := (.cond (.t 24) (.seq (.region true c5r7 [2]) .ret) .skip)
def c5r9 : List AOper := [
 ⟨some 37,.mv,[.t 3],none⟩,
 ⟨some 38,.call,[.c (.pv none (.func (.func 10))),.t 37],none⟩,
 ⟨some 36,.mv,[.t 38],none⟩,
 ⟨some 39,(.extract 0),[.t 36],none⟩,
 ⟨some 40,(.extract 1),[.t 36],none⟩,
 ⟨some 7,.mv,[.t 39],none⟩,
 ⟨some 8,.mv,[.t 40],none⟩]
def c5r10 : List AOper := [
 ⟨some 41,.mv,[.t 6],none⟩,
 ⟨some 42,.mv,[.t 8],none⟩,
 ⟨some 43,(.bin .eql),[.t 41,.t 42],none⟩,
 ⟨some 44,.mv,[.t 43],none⟩,
 ⟨some 45,.mv,[.t 5],some (44,true)⟩,
 ⟨some 46,.mv,[.t 7],some (44,true)⟩,
 ⟨some 47,.call,[.c (.pv none (.func (.func 12))),.t 45,.t 46],some (44,true)⟩,
 ⟨some 48,.pick,[.t 44,.t 47,.c (.pv none (.bool false))],none⟩,
 ⟨some 49,.mv,[.t 48],none⟩,
 ⟨some 50,.call,[.c (.pv none (.func (.func 9)))],some (49,true)⟩,
 ⟨some 51,.pick,[.t 49,.t 50,.c (.pv none (.bool false))],none⟩,
 ⟨some 2,.mv,[.t 51],none⟩]
def c5 : ACode := (.seq (.region true c5r0 [0]) (.seq (.seq (.region true c5r1 [0,11]) c5k3) (.seq (.region true c5r4 [0,3,4]) (.seq (.region true c5r5 [3,4,5,6]) (.seq (.seq (.region true c5r6 [3,4,5,6,24]) c5k8) (.seq (.region true c5r9 [5,6,7,8]) (.seq (.region true c5r10 [2]) .ret)))))))
def g5 : AFn := ⟨1,[(2,none)],c5,false,[],[],none⟩
theorem tr5 : trFn Tryz.prog false 5 Tryz.f5 = some g5 := by kernel_rfl
def c6r0 : List AOper := [
 ⟨some 2,(.box (some 4)),[.t 0],none⟩,
 ⟨some 3,(.box (some 4)),[.t 1],none⟩,
 ⟨some 4,.mv,[.c (.pv none (.bool false))],none⟩]
def c6r1 : List AOper := [
 ⟨some 5,(.load (some 4)),[.t 3],none⟩,
 ⟨some 6,.callp,[.c (.pv none (.func (.func 19))),.t 5],none⟩,
 ⟨some 7,(.load (some 4)),[.t 3],none⟩,
 ⟨some 8,.callp,[.c (.pv none (.func (.func 20))),.t 7],none⟩,
 ⟨some 9,.callp,[.c (.pv none (.func (.func 15))),.t 6,.t 8],none⟩,
 ⟨some 10,.mv,[.t 9],none⟩,
 ⟨some 11,(.load (some 4)),[.t 2],some (10,true)⟩,
 ⟨some 12,(.load (some 4)),[.t 3],some (10,true)⟩,
 ⟨some 13,.callp,[.c (.pv none (.func (.func 21))),.t 11,.t 12],some (10,true)⟩,
 ⟨some 14,(.load (some 4)),[.t 2],some (10,true)⟩,
 ⟨some 15,(.load (some 4)),[.t 3],some (10,true)⟩,
 ⟨some 16,.callp,[.c (.pv none (.func (.func 22))),.t 14,.t 15],some (10,true)⟩,
 ⟨some 17,.callp,[.c (.pv none (.func (.func 15))),.t 13,.t 16],some (10,true)⟩,
 ⟨some 18,.pick,[.t 10,.t 17,.c (.pv none (.bool false))],none⟩,
 ⟨some 19,.mv,[.t 18],none⟩,
 ⟨some 20,.callp,[.c (.pv none (.func (.func 9)))],some (19,true)⟩,
 ⟨some 21,.pick,[.t 19,.t 20,.c (.pv none (.bool false))],none⟩,
 ⟨some 4,.mv,[.t 21],none⟩]
def c6 : ACode := (.seq (.region true c6r0 [2,3]) (.seq (.seq (.settle [2,3]) (.region true c6r1 [4])) .ret))
def g6 : AFn := ⟨2,[(4,none)],c6,false,[],[],none⟩
theorem tr6 : trFn Tryz.prog false 6 Tryz.f6 = some g6 := by kernel_rfl
def c8r0 : List AOper := [
 ⟨some 0,.mv,[.c (.pv none (.bool false))],none⟩]
def c8r1 : List AOper := [
 ⟨some 34,.call,[.c (.pv none (.func (.func 9)))],none⟩,
 ⟨some 35,.not,[.t 34],none⟩]
def c8r2 : List AOper := [
 ⟨some 0,.mv,[.c (.pv none (.bool false))],none⟩]
def c8k3 : ACode := (.cond (.t 35) (.seq (.region true c8r2 [0]) .ret) .skip)
def c8r4 : List AOper := [
 ⟨some 36,.call,[.c (.pv none (.func (.func 25))),.c (.pv none (.int .i64 0))],none⟩,
 ⟨some 37,.call,[.c (.pv none (.func (.func 25))),.c (.pv none (.int .i64 1))],none⟩,
 ⟨some 38,.call,[.c (.pv none (.func (.func 25))),.c (.pv none (.int .i64 2))],none⟩,
 ⟨some 1,(.alloc (some 4) (.agg [(none,(.pv none (.int .i64 0))),(none,(.pv none (.int .i64 0))),(none,(.pv none (.str []))),(none,(.tsl (some 4) []))])),[],none⟩,
 ⟨some 2,(.alloc (some 4) (.agg [(none,(.pv none (.int .i64 0))),(none,(.pv none (.int .i64 0))),(none,(.pv none (.str []))),(none,(.tsl (some 4) []))])),[],none⟩,
 ⟨some 3,(.alloc (some 4) (.agg [(none,(.pv none (.int .i64 0))),(none,(.pv none (.int .i64 0))),(none,(.pv none (.str []))),(none,(.tsl (some 4) []))])),[],none⟩,
 ⟨none,(.store (some 4)),[.t 1,.t 36],none⟩,
 ⟨none,(.store (some 4)),[.t 2,.t 37],none⟩,
 ⟨none,(.store (some 4)),[.t 3,.t 38],none⟩]
def c8r5 : List AOper := [
 ⟨some 39,(.load (some 4)),[.t 1],none⟩,
 ⟨some 40,(.bslice (some 4)),[.t 39],none⟩,
 ⟨some 41,.call,[.c (.pv none (.func (.func 26))),.c (.pv none (.str [112])),.t 40],none⟩,
 ⟨some 4,(.alloc (some 4) (.agg [(none,(.pv none (.int .i64 0))),(none,(.pv none (.int .i64 0))),(none,(.pv none (.str []))),(none,(.tsl (some 4) []))])),[],none⟩,
 ⟨none,(.store (some 4)),[.t 4,.t 41],none⟩]
def c8r6 : List AOper := [
 ⟨some 42,(.load (some 4)),[.t 1],none⟩,
 ⟨some 43,(.load (some 4)),[.t 2],none⟩,
 ⟨some 44,(.load (some 4)),[.t 4],none⟩,
 ⟨some 45,(.bslicep (some 4)),[.t 43,.t 44],none⟩,
 ⟨some 46,.callp,[.c (.pv none (.func (.func 26))),.c (.pv none (.str [94])),.t 45],none⟩,
 ⟨some 47,(.bslicep (some 4)),[.t 42,.t 46],none⟩,
 ⟨some 48,.callp,[.c (.pv none (.func (.func 26))),.c (.pv none (.str [94])),.t 47],none⟩,
 ⟨some 49,.callp,[.c (.pv none (.func (.func 19))),.t 48],none⟩,
 ⟨some 50,(.load (some 4)),[.t 4],none⟩,
 ⟨some 51,.callp,[.c (.pv none (.func (.func 27))),.t 49,.t 50],none⟩,
 ⟨some 52,.mv,[.t 51],none⟩,
 ⟨some 53,.callp,[.c (.pv none (.func (.func 28))),.c (.pv none (.str [97]))],some (52,true)⟩,
 ⟨some 54,.callp,[.c (.pv none (.func (.func 19))),.t 53],some (52,true)⟩,
 ⟨some 55,.callp,[.c (.pv none (.func (.func 28))),.c (.pv none (.str [97]))],some (52,true)⟩,
 ⟨some 56,.callp,[.c (.pv none (.func (.func 27))),.t 54,.t 55],some (52,true)⟩,
 ⟨some 57,.pick,[.t 52,.t 56,.c (.pv none (.bool false))],none⟩,
 ⟨some 5,.mv,[.t 57],none⟩]
def c8r7 : List AOper := [
 ⟨some 59,(.load (some 4)),[.t 1],none⟩,
 ⟨some 60,(.bslicep (some 4)),[.t 59],none⟩,
 ⟨some 61,.callp,[.c (.pv none (.func (.func 26))),.c (.pv none (.str [102])),.t 60],none⟩,
 ⟨some 62,(.load (some 4)),[.t 1],none⟩,
 ⟨some 63,.callp,[.c (.pv none (.func (.func 29))),.t 61,.t 62],none⟩,
 ⟨some 64,(.load (some 4)),[.t 2],none⟩,
 ⟨some 65,(.bslicep (some 4)),[.t 64],none⟩,
 ⟨some 66,.callp,[.c (.pv none (.func (.func 26))),.c (.pv none (.str [102])),.t 65],none⟩,
 ⟨some 67,(.load (some 4)),[.t 2],none⟩,
 ⟨some 68,.callp,[.c (.pv none (.func (.func 29))),.t 66,.t 67],none⟩,
 ⟨some 69,(.bslicep (some 4)),[.t 63,.t 68],none⟩,
 ⟨some 70,.callp,[.c (.pv none (.func (.func 10))),.t 69],none⟩,
 ⟨some 58,.mv,[.t 70],none⟩,
 ⟨some 71,(.extract 0),[.t 58],none⟩,
 ⟨some 72,(.extract 1),[.t 58],none⟩,
 ⟨some 6,.mv,[.t 71],none⟩,
 ⟨some 7,.mv,[.t 72],none⟩]
def c8r8 : List AOper := [
 ⟨some 74,.call,[.c (.pv none (.func (.func 28))),.c (.pv none (.str [97]))],none⟩,
 ⟨some 75,.call,[.c (.pv none (.func (.func 30))),.c (.pv none (.int .i64 1))],none⟩,
 ⟨some 76,.call,[.c (.pv none (.func (.func 29))),.t 74,.t 75],none⟩,
 ⟨some 77,.call,[.c (.pv none (.func (.func 28))),.c (.pv none (.str [98]))],none⟩,
 ⟨some 78,(.bslice (some 4)),[.t 76,.t 77],none⟩,
 ⟨some 79,.call,[.c (.pv none (.func (.func 10))),.t 78],none⟩,
 ⟨some 73,.mv,[.t 79],none⟩,
 ⟨some 80,(.extract 0),[.t 73],none⟩,
 ⟨some 81,(.extract 1),[.t 73],none⟩,
 ⟨some 8,.mv,[.t 80],none⟩,
 ⟨some 9,.mv,[.t 81],none⟩]
def c8r9 : List AOper := [
 ⟨some 83,(.load (some 4)),[.t 1],none⟩,
 ⟨some 84,(.load (some 4)),[.t 2],none⟩,
 ⟨some 85,(.load (some 4)),[.t 3],none⟩,
 ⟨some 86,(.bslice (some 4)),[.t 83,.t 84,.t 85],none⟩,
 ⟨some 87,.call,[.c (.pv none (.func (.func 26))),.c (.pv none (.str [98,97,103,111,102])),.t 86],none⟩,
 ⟨some 88,.call,[.c (.pv none (.func (.func 23))),.t 87],none⟩,
 ⟨some 82,.mv,[.t 88],none⟩,
 ⟨some 89,(.extract 0),[.t 82],none⟩,
 ⟨some 90,(.extract 1),[.t 82],none⟩,
 ⟨some 91,(.extract 2),[.t 82],none⟩,
 ⟨some 10,(.alloc (some 4) (.agg [(none,(.pv none (.int .i64 0))),(none,(.pv none (.int .i64 0))),(none,(.pv none (.str []))),(none,(.tsl (some 4) []))])),[],none⟩,
 ⟨some 11,(.alloc (some 4) (.agg [(none,(.pv none (.int .i64 0))),(none,(.pv none (.int .i64 0))),(none,(.pv none (.str []))),(none,(.tsl (some 4) []))])),[],none⟩,
 ⟨none,(.store (some 4)),[.t 10,.t 89],none⟩,
 ⟨none,(.store (some 4)),[.t 11,.t 90],none⟩,
 ⟨some 12,.mv,[.t 91],none⟩]
def c8r10 : List AOper := [
 ⟨some 93,(.load (some 4)),[.t 1],none⟩,
 ⟨some 94,.callp,[.c (.pv none (.func (.func 28))),.c (.pv none (.str [112]))],none⟩,
 ⟨some 95,.callp,[.c (.pv none (.func (.func 28))),.c (.pv none (.str [97]))],none⟩,
 ⟨some 96,(.bslicep (some 4)),[.t 93,.t 94,.t 95],none⟩,
 ⟨some 97,.callp,[.c (.pv none (.func (.func 26))),.c (.pv none (.str [115,101,116,111,102])),.t 96],none⟩,
 ⟨some 98,.callp,[.c (.pv none (.func (.func 23))),.t 97],none⟩,
 ⟨some 92,.mv,[.t 98],none⟩,
 ⟨some 99,(.extract 0),[.t 92],none⟩,
 ⟨some 100,(.extract 1),[.t 92],none⟩,
 ⟨some 101,(.extract 2),[.t 92],none⟩,
 ⟨some 13,(.alloc (some 4) (.agg [(none,(.pv none (.int .i64 0))),(none,(.pv none (.int .i64 0))),(none,(.pv none (.str []))),(none,(.tsl (some 4) []))])),[],none⟩,
 ⟨some 14,(.alloc (some 4) (.agg [(none,(.pv none (.int .i64 0))),(none,(.pv none (.int .i64 0))),(none,(.pv none (.str []))),(none,(.tsl (some 4) []))])),[],none⟩,
 ⟨none,(.store (some 4)),[.t 13,.t 99],none⟩,
 ⟨none,(.store (some 4)),[.t 14,.t 100],none⟩,
 ⟨some 15,.mv,[.t 101],none⟩]
def c8r11 : List AOper := [
 ⟨some 103,.call,[.c (.pv none (.func (.func 28))),.c (.pv none (.str [112]))],none⟩,
 ⟨some 104,.call,[.c (.pv none (.func (.func 23))),.t 103],none⟩,
 ⟨some 102,.mv,[.t 104],none⟩,
 ⟨some 105,(.extract 0),[.t 102],none⟩,
 ⟨some 106,(.extract 1),[.t 102],none⟩,
 ⟨some 107,(.extract 2),[.t 102],none⟩,
 ⟨some 16,(.alloc (some 4) (.agg [(none,(.pv none (.int .i64 0))),(none,(.pv none (.int .i64 0))),(none,(.pv none (.str []))),(none,(.tsl (some 4) []))])),[],none⟩,
 ⟨some 17,(.alloc (some 4) (.agg [(none,(.pv none (.int .i64 0))),(none,(.pv none (.int .i64 0))),(none,(.pv none (.str []))),(none,(.tsl (some 4) []))])),[],none⟩,
 ⟨none,(.store (some 4)),[.t 16,.t 105],none⟩,
 ⟨none,(.store (some 4)),[.t 17,.t 106],none⟩,
 ⟨some 18,.mv,[.t 107],none⟩]
def c8r12 : List AOper := [
 ⟨some 108,(.load (some 4)),[.t 1],none⟩,
 ⟨some 109,(.load (some 4)),[.t 2],none⟩,
 ⟨some 110,(.bslice (some 4)),[.t 108,.t 109],none⟩,
 ⟨some 111,.call,[.c (.pv none (.func (.func 26))),.c (.pv none (.str [112])),.t 110],none⟩,
 ⟨some 19,(.alloc (some 4) (.agg [(none,(.pv none (.int .i64 0))),(none,(.pv none (.int .i64 0))),(none,(.pv none (.str []))),(none,(.tsl (some 4) []))])),[],none⟩,
 ⟨none,(.store (some 4)),[.t 19,.t 111],none⟩]
def c8r13 : List AOper := [
 ⟨some 113,(.load (some 4)),[.t 1],none⟩,
 ⟨some 114,(.load (some 4)),[.t 19],none⟩,
 ⟨some 115,(.load (some 4)),[.t 3],none⟩,
 ⟨some 116,(.bslice (some 4)),[.t 113,.t 114,.t 115],none⟩,
 ⟨some 117,.call,[.c (.pv none (.func (.func 26))),.c (.pv none (.str [98,97,103,111,102])),.t 116],none⟩,
 ⟨some 118,.call,[.c (.pv none (.func (.func 23))),.t 117],none⟩,
 ⟨some 112,.mv,[.t 118],none⟩,
 ⟨some 119,(.extract 0),[.t 112],none⟩,
 ⟨some 120,(.extract 1),[.t 112],none⟩,
 ⟨some 121,(.extract 2),[.t 112],none⟩,
 ⟨some 20,(.alloc (some 4) (.agg [(none,(.pv none (.int .i64 0))),(none,(.pv none (.int .i64 0))),(none,(.pv none (.str []))),(none,(.tsl (some 4) []))])),[],none⟩,
 ⟨some 21,(.alloc (some 4) (.agg [(none,(.pv none (.int .i64 0))),(none,(.pv none (.int .i64 0))),(none,(.pv none (.str []))),(none,(.tsl (some 4) []))])),[],none⟩,
 ⟨none,(.store (some 4)),[.t 20,.t 119],none⟩,
 ⟨none,(.store (some 4)),[.t 21,.t 120],none⟩,
 ⟨some 22,.mv,[.t 121],none⟩]
def c8r14 : List AOper := [
 ⟨some 122,(.load (some 4)),[.t 2],none⟩,
 ⟨some 123,(.bslice (some 4)),[.t 122],none⟩,
 ⟨some 124,.call,[.c (.pv none (.func (.func 31))),.t 123],none⟩,
 ⟨some 125,.call,[.c (.pv none (.func (.func 25))),.c (.pv none (.int .i64 3))],none⟩,
 ⟨some 23,(.alloc (some 4) (.agg [(none,(.pv none (.int .i64 0))),(none,(.pv none (.int .i64 0))),(none,(.pv none (.str []))),(none,(.tsl (some 4) []))])),[],none⟩,
 ⟨some 24,(.alloc (some 4) (.agg [(none,(.pv none (.int .i64 0))),(none,(.pv none (.int .i64 0))),(none,(.pv none (.str []))),(none,(.tsl (some 4) []))])),[],none⟩,
 ⟨none,(.store (some 4)),[.t 23,.t 124],none⟩,
 ⟨none,(.store (some 4)),[.t 24,.t 125],none⟩]
def c8r15 : List AOper := [
 ⟨some 126,(.load (some 4)),[.t 23],none⟩,
 ⟨some 127,(.load (some 4)),[.t 1],none⟩,
 ⟨some 128,.callp,[.c (.pv none (.func (.func 29))),.t 126,.t 127],none⟩,
 ⟨some 129,(.load (some 4)),[.t 19],none⟩,
 ⟨some 130,(.load (some 4)),[.t 24],none⟩,
 ⟨some 131,(.bslicep (some 4)),[.t 128,.t 129,.t 130],none⟩,
 ⟨some 132,.callp,[.c (.pv none (.func (.func 26))),.c (.pv none (.str [102,105,110,100,97,108,108])),.t 131],none⟩,
 ⟨some 133,(.load (some 4)),[.t 23],none⟩,
 ⟨some 134,(.load (some 4)),[.t 24],none⟩,
 ⟨some 135,(.load (some 4)),[.t 3],none⟩,
 ⟨some 136,(.bslicep (some 4)),[.t 133,.t 134,.t 135],none⟩,
 ⟨some 137,.callp,[.c (.pv none (.func (.func 26))),.c (.pv none (.str [36,98,97,103])),.t 136],none⟩,
 ⟨some 138,(.bslicep (some 4)),[.t 132,.t 137],none⟩,
 ⟨some 139,.callp,[.c (.pv none (.func (.func 26))),.c (.pv none (.str [44])),.t 138],none⟩,
 ⟨some 25,(.alloc (some 4) (.agg [(none,(.pv none (.int .i64 0))),(none,(.pv none (.int .i64 0))),(none,(.pv none (.str []))),(none,(.tsl (some 4) []))])),[],none⟩,
 ⟨none,(.store (some 4)),[.t 25,.t 139],none⟩]
def c8r16 : List AOper := [
 ⟨some 141,(.load (some 4)),[.t 1],none⟩,
 ⟨some 142,.callp,[.c (.pv none (.func (.func 28))),.c (.pv none (.str [91,93]))],none⟩,
 ⟨some 143,(.load (some 4)),[.t 2],none⟩,
 ⟨some 144,(.bslicep (some 4)),[.t 141,.t 142,.t 143],none⟩,
 ⟨some 145,.callp,[.c (.pv none (.func (.func 26))),.c (.pv none (.str [36,98,97,103])),.t 144],none⟩,
 ⟨some 146,.callp,[.c (.pv none (.func (.func 13))),.t 145],none⟩,
 ⟨some 140,.mv,[.t 146],none⟩,
 ⟨some 147,(.extract 0),[.t 140],none⟩,
 ⟨some 148,(.extract 1),[.t 140],none⟩,
 ⟨some 149,(.extract 2),[.t 140],none⟩,
 ⟨some 27,(.alloc (some 4) (.agg [(none,(.pv none (.int .i64 0))),(none,(.pv none (.int .i64 0))),(none,(.pv none (.str []))),(none,(.tsl (some 4) []))])),[],none⟩,
 ⟨some 26,.mv,[.t 147],none⟩,
 ⟨none,(.store (some 4)),[.t 27,.t 148],none⟩,
 ⟨some 28,.mv,[.t 149],none⟩]
def c8r17 : List AOper := [
 ⟨some 151,(.load (some 4)),[.t 1],none⟩,
 ⟨some 152,(.load (some 4)),[.t 2],none⟩,
 ⟨some 153,(.load (some 4)),[.t 3],none⟩,
 ⟨some 154,(.bslice (some 4)),[.t 151,.t 152,.t 153],none⟩,
 ⟨some 155,.call,[.c (.pv none (.func (.func 26))),.c (.pv none (.str [36,98,97,103])),.t 154],none⟩,
 ⟨some 156,.call,[.c (.pv none (.func (.func 13))),.t 155],none⟩,
 ⟨some 150,.mv,[.t 156],none⟩,
 ⟨some 157,(.extract 0),[.t 150],none⟩,
 ⟨some 158,(.extract 1),[.t 150],none⟩,
 ⟨some 159,(.extract 2),[.t 150],none⟩,
 ⟨some 30,(.alloc (some 4) (.agg [(none,(.pv none (.int .i64 0))),(none,(.pv none (.int .i64 0))),(none,(.pv none (.str []))),(none,(.tsl (some 4) []))])),[],none⟩,
 ⟨some 29,.mv,[.t 157],none⟩,
 ⟨none,(.store (some 4)),[.t 30,.t 158],none⟩,
 ⟨some 31,.mv,[.t 159],none⟩]
def c8r18 : List AOper := [
 ⟨some 160,.mv,[.t 7],none⟩,
 ⟨some 161,(.bin .neq),[.t 160,.c (.pv none (.int .i64 0))],none⟩,
 ⟨some 162,.mv,[.t 161],none⟩,
 ⟨some 163,.mv,[.t 6],some (162,false)⟩,
 ⟨some 164,.len,[.t 163],some (162,false)⟩,
 ⟨some 165,(.bin .neq),[.t 164,.c (.pv none (.int .i64 1))],some (162,false)⟩,
 ⟨some 166,.pick,[.t 162,.c (.pv none (.bool true)),.t 165],none⟩]
def c8r19 : List AOper := [
 ⟨some 0,.mv,[.c (.pv none (.bool false))],none⟩]
def c8k20 : ACode := (.cond (.t 166) (.seq (.region true c8r19 [0]) .ret) .skip)
def c8r21 : List AOper := [
 ⟨some 167,.mv,[.t 5],none⟩,
 ⟨some 168,.mv,[.t 167],none⟩,
 ⟨some 169,.mv,[.t 6],some (168,true)⟩,
 ⟨some 170,(.iaddr (some 4)),[.t 169,.c (.pv none (.int .i64 0))],some (168,true)⟩,
 ⟨some 171,(.load (some 4)),[.t 170],some (168,true)⟩,
 ⟨some 172,(.load (some 4)),[.t 1],some (168,true)⟩,
 ⟨some 173,(.bslicep (some 4)),[.t 172],some (168,true)⟩,
 ⟨some 174,.callp,[.c (.pv none (.func (.func 26))),.c (.pv none (.str [102])),.t 173],some (168,true)⟩,
 ⟨some 175,(.load (some 4)),[.t 1],some (168,true)⟩,
 ⟨some 176,(.load (some 4)),[.t 1],some (168,true)⟩,
 ⟨some 177,(.bslicep (some 4)),[.t 175,.t 176],some (168,true)⟩,
 ⟨some 178,.callp,[.c (.pv none (.func (.func 31))),.t 177],some (168,true)⟩,
 ⟨some 179,.callp,[.c (.pv none (.func (.func 29))),.t 174,.t 178],some (168,true)⟩,
 ⟨some 180,.callp,[.c (.pv none (.func (.func 27))),.t 171,.t 179],some (168,true)⟩,
 ⟨some 181,.pick,[.t 168,.t 180,.c (.pv none (.bool false))],none⟩,
 ⟨some 182,.mv,[.t 181],none⟩,
 ⟨some 183,.mv,[.t 9],some (182,true)⟩,
 ⟨some 184,(.bin .eql),[.t 183,.c (.pv none (.int .i64 3))],some (182,true)⟩,
 ⟨some 185,.pick,[.t 182,.t 184,.c (.pv none (.bool false))],none⟩,
 ⟨some 186,.mv,[.t 185],none⟩,
 ⟨some 187,.mv,[.t 12],some (186,true)⟩,
 ⟨some 188,(.bin .eql),[.t 187,.c (.pv none (.int .i64 8))],some (186,true)⟩,
 ⟨some 189,.pick,[.t 186,.t 188,.c (.pv none (.bool false))],none⟩,
 ⟨some 190,.mv,[.t 189],none⟩,
 ⟨some 191,(.load (some 4)),[.t 11],some (190,true)⟩,
 ⟨some 192,.callp,[.c (.pv none (.func (.func 32)))],some (190,true)⟩,
 ⟨some 193,.callp,[.c (.pv none (.func (.func 27))),.t 191,.t 192],some (190,true)⟩,
 ⟨some 194,.pick,[.t 190,.t 193,.c (.pv none (.bool false))],none⟩,
 ⟨some 32,.mv,[.t 194],none⟩]
def c8r22 : List AOper := [
 ⟨some 195,.mv,[.t 15],none⟩,
 ⟨some 196,(.bin .eql),[.t 195,.c (.pv none (.int .i64 8))],none⟩,
 ⟨some 197,.mv,[.t 196],none⟩,
 ⟨some 198,(.load (some 4)),[.t 14],some (197,true)⟩,
 ⟨some 199,.callp,[.c (.pv none (.func (.func 28))),.c (.pv none (.str [97]))],some (197,true)⟩,
 ⟨some 200,.callp,[.c (.pv none (.func (.func 33))),.c (.pv none (.str [108,105,115,116])),.t 199],some (197,true)⟩,
 ⟨some 201,.callp,[.c (.pv none (.func (.func 27))),.t 198,.t 200],some (197,true)⟩,
 ⟨some 202,.pick,[.t 197,.t 201,.c (.pv none (.bool false))],none⟩,
 ⟨some 203,.mv,[.t 202],none⟩,
 ⟨some 204,.mv,[.t 18],some (203,true)⟩,
 ⟨some 205,(.bin .eql),[.t 204,.c (.pv none (.int .i64 4))],some (203,true)⟩,
 ⟨some 206,.pick,[.t 203,.t 205,.c (.pv none (.bool false))],none⟩,
 ⟨some 207,.mv,[.t 206],none⟩,
 ⟨some 208,.mv,[.t 22],some (207,true)⟩,
 ⟨some 209,(.bin .eql),[.t 208,.c (.pv none (.int .i64 0))],some (207,true)⟩,
 ⟨some 210,.pick,[.t 207,.t 209,.c (.pv none (.bool false))],none⟩,
 ⟨some 211,.mv,[.t 210],none⟩,
 ⟨some 212,(.load (some 4)),[.t 20],some (211,true)⟩,
 ⟨some 213,(.load (some 4)),[.t 25],some (211,true)⟩,
 ⟨some 214,.callp,[.c (.pv none (.func (.func 27))),.t 212,.t 213],some (211,true)⟩,
 ⟨some 215,.pick,[.t 211,.t 214,.c (.pv none (.bool false))],none⟩,
 ⟨some 33,.mv,[.t 215],none⟩]
def c8r23 : List AOper := [
 ⟨some 216,.mv,[.t 32],none⟩,
 ⟨some 217,.mv,[.t 216],none⟩,
 ⟨some 218,.mv,[.t 33],some (217,true)⟩,
 ⟨some 219,.pick,[.t 217,.t 218,.c (.pv none (.bool false))],none⟩,
 ⟨some 220,.mv,[.t 219],none⟩,
 ⟨some 221,.mv,[.t 28],some (220,true)⟩,
 ⟨some 222,(.bin .eql),[.t 221,.c (.pv none (.int .i64 0))],some (220,true)⟩,
 ⟨some 223,.pick,[.t 220,.t 222,.c (.pv none (.bool false))],none⟩,
 ⟨some 224,.mv,[.t 223],none⟩,
 ⟨some 225,.mv,[.t 26],some (224,true)⟩,
 ⟨some 226,.len,[.t 225],some (224,true)⟩,
 ⟨some 227,(.bin .eql),[.t 226,.c (.pv none (.int .i64 0))],some (224,true)⟩,
 ⟨some 228,.pick,[.t 224,.t 227,.c (.pv none (.bool false))],none⟩,
 ⟨some 229,.mv,[.t 228],none⟩,
 ⟨some 230,.mv,[.t 31],some (229,true)⟩,
 ⟨some 231,(.bin .eql),[.t 230,.c (.pv none (.int .i64 8))],some (229,true)⟩,
 ⟨some 232,.pick,[.t 229,.t 231,.c (.pv none (.bool false))],none⟩,
 ⟨some 233,.mv,[.t 232],none⟩,
 ⟨some 234,(.load (some 4)),[.t 30],some (233,true)⟩,
 ⟨some 235,.callp,[.c (.pv none (.func (.func 32)))],some (233,true)⟩,
 ⟨some 236,.callp,[.c (.pv none (.func (.func 27))),.t 234,.t 235],some (233,true)⟩,
 ⟨some 237,.pick,[.t 233,.t 236,.c (.pv none (.bool false))],none⟩,
 ⟨some 238,.mv,[.t 237],none⟩,
 ⟨some 239,(.load (some 4)),[.t 1],some (238,true)⟩,
 ⟨some 240,(.bslicep (some 4)),[.t 239],some (238,true)⟩,
 ⟨some 241,.callp,[.c (.pv none (.func (.func 26))),.c (.pv none (.str [102])),.t 240],some (238,true)⟩,
 ⟨some 242,(.load (some 4)),[.t 4],some (238,true)⟩,
 ⟨some 243,.callp,[.c (.pv none (.func (.func 21))),.t 241,.t 242],some (238,true)⟩,
 ⟨some 244,.callp,[.c (.pv none (.func (.func 28))),.c (.pv none (.str [91,93]))],some (238,true)⟩,
 ⟨some 245,.callp,[.c (.pv none (.func (.func 27))),.t 243,.t 244],some (238,true)⟩,
 ⟨some 246,.pick,[.t 238,.t 245,.c (.pv none (.bool false))],none⟩,
 ⟨some 0,.mv,[.t 246],none⟩]
def c8 : ACode := (.seq (.region true c8r0 []) (.seq (.seq (.region true c8r1 [35]) c8k3) (.seq (.region true c8r4 [1,2,3]) (.seq (.region true c8r5 [1,2,3,4]) (.seq (.seq (.settle [4]) (.region true c8r6 [1,2,3,4,5])) (.seq (.seq (.settle [1,2]) (.region true c8r7 [1,2,3,4,5,6,7])) (.seq (.region true c8r8 [1,2,3,4,5,6,7,9]) (.seq (.region true c8r9 [1,2,3,4,5,6,7,9,11,12]) (.seq (.seq (.settle []) (.region true c8r10 [1,2,3,4,5,6,7,9,11,12,14,15])) (.seq (.region true c8r11 [1,2,3,4,5,6,7,9,11,12,14,15,18]) (.seq (.region true c8r12 [1,2,3,4,5,6,7,9,11,12,14,15,18,19]) (.seq (.region true c8r13 [1,2,3,4,5,6,7,9,11,12,14,15,18,19,20,22]) (.seq (.region true c8r14 [1,2,3,4,5,6,7,9,11,12,14,15,18,19,20,22,23,24]) (.seq (.seq (.settle [1,23]) (.region true c8r15 [1,2,3,4,5,6,7,9,11,12,14,15,18,20,22,25])) (.seq (.seq (.settle []) (.region true c8r16 [1,2,3,4,5,6,7,9,11,12,14,15,18,20,22,25,26,28])) (.seq (.region true c8r17 [1,4,5,6,7,9,11,12,14,15,18,20,22,25,26,28,30,31]) (.seq (.seq (.region true c8r18 [1,4,5,6,9,11,12,14,15,18,20,22,25,26,28,30,31,166]) c8k20) (.seq (.seq (.settle [11]) (.region true c8r21 [1,4,14,15,18,20,22,25,26,28,30,31,32])) (.seq (.seq (.settle [14,20,25]) (.region true c8r22 [1,4,26,28,30,31,32,33])) (.seq (.seq (.settle [4,30]) (.region true c8r23 [0])) .ret))))))))))))))))))))
def g8 : AFn := ⟨0,[(0,none)],c8,false,[],[],none⟩
theorem tr8 : trFn Tryz.prog false 8 Tryz.f8 = some g8 := by kernel_rfl
def c9r0 : List AOper := [
 ⟨some 0,.mv,[.c (.pv none (.bool false))],none⟩]
def c9r1 : List AOper := [
 ⟨some 10,.call,[.c (.pv none (.func (.func 25))),.c (.pv none (.int .i64 0))],none⟩,
 ⟨some 11,.call,[.c (.pv none (.func (.func 25))),.c (.pv none (.int .i64 1))],none⟩,
 ⟨some 12,.call,[.c (.pv none (.func (.func 25))),.c (.pv none (.int .i64 2))],none⟩,
 ⟨some 13,(.bslice (some 4)),[.t 10,.t 11,.t 12],none⟩,
 ⟨some 14,.call,[.c (.pv none (.func (.func 26))),.c (.pv none (.str [112])),.t 13],none⟩,
 ⟨some 1,(.alloc (some 4) (.agg [(none,(.pv none (.int .i64 0))),(none,(.pv none (.int .i64 0))),(none,(.pv none (.str []))),(none,(.tsl (some 4) []))])),[],none⟩,
 ⟨none,(.store (some 4)),[.t 1,.t 14],none⟩]
def c9r2 : List AOper := [
 ⟨some 16,.call,[.c (.pv none (.func (.func 28))),.c (.pv none (.str [98]))],none⟩,
 ⟨some 17,.call,[.c (.pv none (.func (.func 30))),.c (.pv none (.int .i64 1))],none⟩,
 ⟨some 18,.call,[.c (.pv none (.func (.func 29))),.t 16,.t 17],none⟩,
 ⟨some 19,.call,[.c (.pv none (.func (.func 28))),.c (.pv none (.str [97]))],none⟩,
 ⟨some 20,.call,[.c (.pv none (.func (.func 30))),.c (.pv none (.int .i64 2))],none⟩,
 ⟨some 21,.call,[.c (.pv none (.func (.func 29))),.t 19,.t 20],none⟩,
 ⟨some 22,.call,[.c (.pv none (.func (.func 28))),.c (.pv none (.str [98]))],none⟩,
 ⟨some 23,.call,[.c (.pv none (.func (.func 30))),.c (.pv none (.int .i64 3))],none⟩,
 ⟨some 24,.call,[.c (.pv none (.func (.func 29))),.t 22,.t 23],none⟩,
 ⟨some 25,(.bslice (some 4)),[.t 18,.t 21,.t 24],none⟩,
 ⟨some 26,.call,[.c (.pv none (.func (.func 10))),.t 25],none⟩,
 ⟨some 15,.mv,[.t 26],none⟩,
 ⟨some 27,(.extract 0),[.t 15],none⟩,
 ⟨some 28,(.extract 1),[.t 15],none⟩,
 ⟨some 2,.mv,[.t 27],none⟩,
 ⟨some 3,.mv,[.t 28],none⟩]
def c9r3 : List AOper := [
 ⟨some 29,.call,[.c (.pv none (.func (.func 28))),.c (.pv none (.str [97]))],none⟩,
 ⟨some 30,.call,[.c (.pv none (.func (.func 30))),.c (.pv none (.int .i64 2))],none⟩,
 ⟨some 31,.call,[.c (.pv none (.func (.func 29))),.t 29,.t 30],none⟩,
 ⟨some 32,.call,[.c (.pv none (.func (.func 28))),.c (.pv none (.str [97]))],none⟩,
 ⟨some 33,.call,[.c (.pv none (.func (.func 30))),.c (.pv none (.int .i64 1))],none⟩,
 ⟨some 34,.call,[.c (.pv none (.func (.func 29))),.t 32,.t 33],none⟩,
 ⟨some 35,.call,[.c (.pv none (.func (.func 28))),.c (.pv none (.str [97]))],none⟩,
 ⟨some 36,.call,[.c (.pv none (.func (.func 30))),.c (.pv none (.int .i64 2))],none⟩,
 ⟨some 37,.call,[.c (.pv none (.func (.func 29))),.t 35,.t 36],none⟩,
 ⟨some 38,(.bslice (some 4)),[.t 31,.t 34,.t 37],none⟩,
 ⟨some 39,.call,[.c (.pv none (.func (.func 31))),.t 38],none⟩,
 ⟨some 4,(.alloc (some 4) (.agg [(none,(.pv none (.int .i64 0))),(none,(.pv none (.int .i64 0))),(none,(.pv none (.str []))),(none,(.tsl (some 4) []))])),[],none⟩,
 ⟨none,(.store (some 4)),[.t 4,.t 39],none⟩]
def c9r4 : List AOper := [
 ⟨some 41,.callp,[.c (.pv none (.func (.func 25))),.c (.pv none (.int .i64 0))],none⟩,
 ⟨some 42,(.load (some 4)),[.t 4],none⟩,
 ⟨some 43,.callp,[.c (.pv none (.func (.func 25))),.c (.pv none (.int .i64 1))],none⟩,
 ⟨some 44,(.bslicep (some 4)),[.t 41,.t 42,.t 43],none⟩,
 ⟨some 45,.callp,[.c (.pv none (.func (.func 26))),.c (.pv none (.str [36,115,101,116])),.t 44],none⟩,
 ⟨some 46,.callp,[.c (.pv none (.func (.func 13))),.t 45],none⟩,
 ⟨some 40,.mv,[.t 46],none⟩,
 ⟨some 47,(.extract 0),[.t 40],none⟩,
 ⟨some 48,(.extract 1),[.t 40],none⟩,
 ⟨some 49,(.extract 2),[.t 40],none⟩,
 ⟨some 6,(.alloc (some 4) (.agg [(none,(.pv none (.int .i64 0))),(none,(.pv none (.int .i64 0))),(none,(.pv none (.str []))),(none,(.tsl (some 4) []))])),[],none⟩,
 ⟨some 5,.mv,[.t 47],none⟩,
 ⟨none,(.store (some 4)),[.t 6,.t 48],none⟩,
 ⟨some 7,.mv,[.t 49],none⟩]
def c9r5 : List AOper := [
 ⟨some 50,.mv,[.t 3],none⟩,
 ⟨some 51,(.bin .neq),[.t 50,.c (.pv none (.int .i64 0))],none⟩,
 ⟨some 52,.mv,[.t 51],none⟩,
 ⟨some 53,.mv,[.t 2],some (52,false)⟩,
 ⟨some 54,.len,[.t 53],some (52,false)⟩,
 ⟨some 55,(.bin .neq),[.t 54,.c (.pv none (.int .i64 2))],some (52,false)⟩,
 ⟨some 56,.pick,[.t 52,.c (.pv none (.bool true)),.t 55],none⟩,
 ⟨some 57,.mv,[.t 56],none⟩,
 ⟨some 58,.mv,[.t 7],some (57,false)⟩,
 ⟨some 59,(.bin .neq),[.t 58,.c (.pv none (.int .i64 0))],some (57,false)⟩,
 ⟨some 60,.pick,[.t 57,.c (.pv none (.bool true)),.t 59],none⟩,
 ⟨some 61,.mv,[.t 60],none⟩,
 ⟨some 62,.mv,[.t 5],some (61,false)⟩,
 ⟨some 63,.len,[.t 62],some (61,false)⟩,
 ⟨some 64,(.bin .neq),[.t 63,.c (.pv none (.int .i64 1))],some (61,false)⟩,
 ⟨some 65,.pick,[.t 61,.c (.pv none (.bool true)),.t 64],none⟩]
def c9r6 : List AOper := [
 ⟨some 0,.mv,[.c (.pv none (.bool false))],none⟩]
def c9k7 : ACode := (.cond (.t 65) (.seq (.region true c9r6 [0]) .ret) .skip)
def c9r8 : List AOper := [
 ⟨some 66,.mv,[.t 2],none⟩,
 ⟨some 67,(.iaddr (some 4)),[.t 66,.c (.pv none (.int .i64 0))],none⟩,
 ⟨some 68,(.load (some 4)),[.t 67],none⟩,
 ⟨some 69,.callp,[.c (.pv none (.func (.func 28))),.c (.pv none (.str [97]))],none⟩,
 ⟨some 70,.callp,[.c (.pv none (.func (.func 30))),.c (.pv none (.int .i64 2))],none⟩,
 ⟨some 71,(.bslicep (some 4)),[.t 70],none⟩,
 ⟨some 72,.callp,[.c (.pv none (.func (.func 31))),.t 71],none⟩,
 ⟨some 73,.callp,[.c (.pv none (.func (.func 29))),.t 69,.t 72],none⟩,
 ⟨some 74,.callp,[.c (.pv none (.func (.func 27))),.t 68,.t 73],none⟩,
 ⟨some 75,.mv,[.t 74],none⟩,
 ⟨some 76,.mv,[.t 2],some (75,true)⟩,
 ⟨some 77,(.iaddr (some 4)),[.t 76,.c (.pv none (.int .i64 1))],some (75,true)⟩,
 ⟨some 78,(.load (some 4)),[.t 77],some (75,true)⟩,
 ⟨some 79,.callp,[.c (.pv none (.func (.func 28))),.c (.pv none (.str [98]))],some (75,true)⟩,
 ⟨some 80,.callp,[.c (.pv none (.func (.func 30))),.c (.pv none (.int .i64 1))],some (75,true)⟩,
 ⟨some 81,.callp,[.c (.pv none (.func (.func 30))),.c (.pv none (.int .i64 3))],some (75,true)⟩,
 ⟨some 82,(.bslicep (some 4)),[.t 80,.t 81],some (75,true)⟩,
 ⟨some 83,.callp,[.c (.pv none (.func (.func 31))),.t 82],some (75,true)⟩,
 ⟨some 84,.callp,[.c (.pv none (.func (.func 29))),.t 79,.t 83],some (75,true)⟩,
 ⟨some 85,.callp,[.c (.pv none (.func (.func 27))),.t 78,.t 84],some (75,true)⟩,
 ⟨some 86,.pick,[.t 75,.t 85,.c (.pv none (.bool false))],none⟩,
 ⟨some 8,.mv,[.t 86],none⟩]
def c9r9 : List AOper := [
 ⟨some 87,.mv,[.t 5],none⟩,
 ⟨some 88,(.iaddr (some 4)),[.t 87,.c (.pv none (.int .i64 0))],none⟩,
 ⟨some 89,(.load (some 4)),[.t 88],none⟩,
 ⟨some 90,.callp,[.c (.pv none (.func (.func 28))),.c (.pv none (.str [97]))],none⟩,
 ⟨some 91,(.load (some 4)),[.t 4],none⟩,
 ⟨some 92,.callp,[.c (.pv none (.func (.func 30))),.c (.pv none (.int .i64 1))],none⟩,
 ⟨some 93,.callp,[.c (.pv none (.func (.func 30))),.c (.pv none (.int .i64 2))],none⟩,
 ⟨some 94,(.bslicep (some 4)),[.t 92,.t 93],none⟩,
 ⟨some 95,.callp,[.c (.pv none (.func (.func 31))),.t 94],none⟩,
 ⟨some 96,(.bslicep (some 4)),[.t 90,.t 91,.t 95],none⟩,
 ⟨some 97,.callp,[.c (.pv none (.func (.func 26))),.c (.pv none (.str [36,115,101,116])),.t 96],none⟩,
 ⟨some 98,.callp,[.c (.pv none (.func (.func 27))),.t 89,.t 97],none⟩,
 ⟨some 9,.mv,[.t 98],none⟩]
def c9r10 : List AOper := [
 ⟨some 99,.mv,[.t 8],none⟩,
 ⟨some 100,.mv,[.t 99],none⟩,
 ⟨some 101,.mv,[.t 9],some (100,true)⟩,
 ⟨some 102,.pick,[.t 100,.t 101,.c (.pv none (.bool false))],none⟩,
 ⟨some 103,.mv,[.t 102],none⟩,
 ⟨some 104,.callp,[.c (.pv none (.func (.func 25))),.c (.pv none (.int .i64 0))],some (103,true)⟩,
 ⟨some 105,.callp,[.c (.pv none (.func (.func 25))),.c (.pv none (.int .i64 1))],some (103,true)⟩,
 ⟨some 106,(.load (some 4)),[.t 1],some (103,true)⟩,
 ⟨some 107,(.bslicep (some 4)),[.t 105,.t 106],some (103,true)⟩,
 ⟨some 108,.callp,[.c (.pv none (.func (.func 26))),.c (.pv none (.str [94])),.t 107],some (103,true)⟩,
 ⟨some 109,.callp,[.c (.pv none (.func (.func 21))),.t 104,.t 108],some (103,true)⟩,
 ⟨some 110,.callp,[.c (.pv none (.func (.func 25))),.c (.pv none (.int .i64 2))],some (103,true)⟩,
 ⟨some 111,(.bslicep (some 4)),[.t 110],some (103,true)⟩,
 ⟨some 112,.callp,[.c (.pv none (.func (.func 31))),.t 111],some (103,true)⟩,
 ⟨some 113,.callp,[.c (.pv none (.func (.func 27))),.t 109,.t 112],some (103,true)⟩,
 ⟨some 114,.pick,[.t 103,.t 113,.c (.pv none (.bool false))],none⟩,
 ⟨some 0,.mv,[.t 114],none⟩]
def c9 : ACode := (.seq (.region true c9r0 []) (.seq (.region true c9r1 [1]) (.seq (.region true c9r2 [1,2,3]) (.seq (.region true c9r3 [1,2,3,4]) (.seq (.seq (.settle []) (.region true c9r4 [1,2,3,4,5,7])) (.seq (.seq (.region true c9r5 [1,2,4,5,65]) c9k7) (.seq (.seq (.settle []) (.region true c9r8 [1,4,5,8])) (.seq (.seq (.settle []) (.region true c9r9 [1,8,9])) (.seq (.seq (.settle []) (.region true c9r10 [0])) .ret)))))))))
def g9 : AFn := ⟨0,[(0,none)],c9,false,[],[],none⟩
theorem tr9 : trFn Tryz.prog false 9 Tryz.f9 = some g9 := by kernel_rfl
def c10r0 : List AOper := [
 ⟨some 2,(.nilsl (some 4)),[],none⟩,
 ⟨some 3,.mv,[.c (.pv none (.int .i64 0))],none⟩]
def c10r1 : List AOper := [
 ⟨some 14,.mv,[.t 0],none⟩,
 ⟨some 15,.call,[.c (.pv none (.func (.func 34))),.t 14],none⟩,
 ⟨some 13,.mv,[.t 15],none⟩,
 ⟨some 16,(.extract 0),[.t 13],none⟩,
 ⟨some 17,(.extract 1),[.t 13],none⟩,
 ⟨some 4,.mv,[.t 16],none⟩,
 ⟨some 3,.mv,[.t 17],none⟩]
def c10r2 : List AOper := [
 ⟨some 18,.mv,[.t 3],none⟩,
 ⟨some 19,(.bin .neq),[.t 18,.c (.pv none (.int .i64 0))],none⟩]
def c10r3 : List AOper := [
 ⟨some 20,.mv,[.t 3],none⟩,
 ⟨some 2,(.nilsl (some 4)),[],none⟩,
 ⟨some 3,.mv,[.t 20],none⟩]
def c10k4 : ACode := (.cond (.t 19) (.seq (.region true c10r3 [2,3]) .ret) .skip)
def c10r5 : List AOper := [
 ⟨some 21,.mv,[.t 4],none⟩,
 ⟨some 22,.len,[.t 21],none⟩,
 ⟨some 23,(.bin .gtr),[.t 22,.c (.pv none (.int .i64 0))],none⟩]
def c10k6 : ACode := (.cond (.t 23) .skip (.exit 0))
def c10r7 : List AOper := [
 ⟨some 24,.mv,[.t 4],none⟩,
 ⟨some 25,(.iaddr (some 4)),[.t 24,.c (.pv none (.int .i64 0))],none⟩,
 ⟨some 26,(.faddr 3),[.t 25],none⟩,
 ⟨some 27,(.load none),[.t 26],none⟩,
 ⟨some 28,(.iaddr (some 4)),[.t 27,.c (.pv none (.int .i64 0))],none⟩,
 ⟨some 29,(.load (some 4)),[.t 28],none⟩,
 ⟨some 5,(.alloc (some 4) (.agg [(none,(.pv none (.int .i64 0))),(none,(.pv none (.int .i64 0))),(none,(.pv none (.str []))),(none,(.tsl (some 4) []))])),[],none⟩,
 ⟨none,(.store (some 4)),[.t 5,.t 29],none⟩]
def c10r8 : List AOper := [
 ⟨some 30,(.mkfunc (.func 35) 0),[.t 5],none⟩,
 ⟨some 6,.mv,[.t 30],none⟩]
def c10r9 : List AOper := [
 ⟨some 7,(.nilsl (some 4)),[],none⟩,
 ⟨some 8,(.nilsl (some 4)),[],none⟩]
def c10r10 : List AOper := [
 ⟨some 31,.mv,[.t 4],none⟩,
 ⟨some 32,.len,[.t 31],none⟩,
 ⟨some 33,.mv,[.c (.pv none (.int .i64 0))],none⟩]
def c10r11 : List AOper := [
 ⟨some 34,(.bin .lss),[.t 33,.t 32],none⟩]
def c10k12 : ACode := (.cond (.t 34) .skip (.exit 2))
def c10r13 : List AOper := [
 ⟨some 35,(.iaddr (some 4)),[.t 31,.t 33],none⟩,
 ⟨some 36,(.load (some 4)),[.t 35],none⟩,
 ⟨some 10,(.alloc (some 4) (.agg [(none,(.pv none (.int .i64 0))),(none,(.pv none (.int .i64 0))),(none,(.pv none (.str []))),(none,(.tsl (some 4) []))])),[],none⟩,
 ⟨none,(.store (some 4)),[.t 10,.t 36],none⟩]
def c10r14 : List AOper := [
 ⟨some 37,.mv,[.t 6],none⟩,
 ⟨some 38,(.load (some 4)),[.t 10],none⟩,
 ⟨some 39,.call,[.t 37,.t 38],none⟩]
def c10r15 : List AOper := [
 ⟨some 40,.mv,[.t 7],none⟩,
 ⟨some 41,(.load (some 4)),[.t 10],none⟩,
 ⟨some 42,(.bslice (some 4)),[.t 41],none⟩,
 ⟨some 43,(.append (some 4)),[.t 40,.t 42],none⟩,
 ⟨some 7,.mv,[.t 43],none⟩]
def c10r16 : List AOper := [
 ⟨some 44,.mv,[.t 8],none⟩,
 ⟨some 45,(.load (some 4)),[.t 10],none⟩,
 ⟨some 46,(.bslice (some 4)),[.t 45],none⟩,
 ⟨some 47,(.append (some 4)),[.t 44,.t 46],none⟩,
 ⟨some 8,.mv,[.t 47],none⟩]
def c10k17 : ACode := (.cond (.t 39) (.region true c10r15 [2,6,7,8,31,32,33]) (.region true c10r16 [2,6,7,8,31,32,33]))
def c10k18 : ACode := (.block 3 (.seq (.region true c10r13 [2,6,7,8,10,31,32,33]) (.seq (.region true c10r14 [2,6,7,8,10,31,32,33,39]) c10k17)))
def c10r19 : List AOper := [
 ⟨some 48,(.bin .add),[.t 33,.c (.pv none (.int .i64 1))],none⟩,
 ⟨some 33,.mv,[.t 48],none⟩]
def c10b20 : ACode := (.seq (.region true c10r11 [2,6,7,8,31,32,33,34]) (.seq c10k12 (.seq c10k18 (.region true c10r19 [2,6,7,8,31,32,33]))))
def c10k21 : ACode := (.block 2 (.loop [2,6,7,8,31,32,33] c10b20))
def c10r22 : List AOper := [
 ⟨some 50,.mv,[.t 7],none⟩,
 ⟨some 51,.call,[.c (.pv none (.func (.func 37))),.t 50],none⟩,
 ⟨some 49,.mv,[.t 51],none⟩,
 ⟨some 52,(.extract 0),[.t 49],none⟩,
 ⟨some 53,(.extract 1),[.t 49],none⟩,
 ⟨some 11,(.alloc (some 4) (.agg [(none,(.pv none (.int .i64 0))),(none,(.pv none (.int .i64 0))),(none,(.pv none (.str []))),(none,(.tsl (some 4) []))])),[],none⟩,
 ⟨none,(.store (some 4)),[.t 11,.t 52],none⟩,
 ⟨some 12,.mv,[.t 53],none⟩]
def c10r23 : List AOper := [
 ⟨some 54,.mv,[.t 12],none⟩,
 ⟨some 55,(.bin .neq),[.t 54,.c (.pv none (.int .i64 0))],none⟩]
def c10r24 : List AOper := [
 ⟨some 2,(.nilsl (some 4)),[],none⟩,
 ⟨some 3,.mv,[.c (.pv none (.int .i64 2))],none⟩]
def c10k25 : ACode := (.cond (.t 55) (.seq (.region true c10r24 [2,3]) .ret) .skip)
def c10r26 : List AOper := [
 ⟨some 56,.mv,[.t 2],none⟩,
 ⟨some 57,(.load (some 4)),[.t 11],none⟩,
 ⟨some 58,.call,[.c (.pv none (.func (.func 38))),.t 57],none⟩,
 ⟨some 59,(.bslice (some 4)),[.t 58],none⟩,
 ⟨some 60,(.append (some 4)),[.t 56,.t 59],none⟩,
 ⟨some 2,.mv,[.t 60],none⟩]
def c10r27 : List AOper := [
 ⟨some 61,.mv,[.t 8],none⟩,
 ⟨some 4,.mv,[.t 61],none⟩]
def c10k28 : ACode := (.block 1 (.seq (.region true c10r7 [2,4,5]) (.seq (.region true c10r8 [2,4,6]) (.seq (.region true c10r9 [2,4,6,7,8]) (.seq (.seq (.region true c10r10 [2,6,7,8,31,32,33]) c10k21) (.seq (.region true c10r22 [2,8,11,12]) (.seq (.seq (.region true c10r23 [2,8,11,55]) c10k25) (.seq (.region true c10r26 [2,8]) (.region true c10r27 [2,4])))))))))
def c10b29 : ACode := (.seq (.seq (.region true c10r5 [2,4,23]) c10k6) c10k28)
def c10k30 : ACode := (.block 0 (.loop [2,4] c10b29))
def c10r31 : List AOper := [
 ⟨some 62,.mv,[.t 2],none⟩,
 ⟨some 2,.mv,[.t 62],none⟩,
 ⟨some 3,.mv,[.c (.pv none (.int .i64 0))],none⟩]
def c10 : ACode := (.seq (.region true c10r0 [0,2]) (.seq (.region true c10r1 [2,3,4]) (.seq (.seq (.region true c10r2 [2,3,4,19]) c10k4) (.seq c10k30 (.seq (.region true c10r31 [2,3]) .ret)))))
def g10 : AFn := ⟨1,[(2,none),(3,none)],c10,false,[],[],none⟩
theorem tr10 : trFn Tryz.prog false 10 Tryz.f10 = some g10 := by kernel_rfl
def c12r0 : List AOper := [
 ⟨some 4,.mv,[.c (.pv none (.bool false))],none⟩]
def c12r1 : List AOper := [
 ⟨some 6,.mv,[.t 0],none⟩,
 ⟨some 7,.len,[.t 6],none⟩,
 ⟨some 8,.mv,[.t 1],none⟩,
 ⟨some 9,.len,[.t 8],none⟩,
 ⟨some 10,(.bin .neq),[.t 7,.t 9],none⟩]
def c12r2 : List AOper := [
 ⟨some 4,.mv,[.c (.pv none (.bool false))],none⟩]
def c12k3 : ACode := (.cond (.t 10) (.seq (.region true c12r2 [4]) .ret) .skip)
def c12r4 : List AOper := [
 ⟨some 5,.mv,[.c (.pv none (.int .i64 0))],none⟩]
def c12r5 : List AOper := [
 ⟨some 11,.mv,[.t 5],none⟩,
 ⟨some 12,.mv,[.t 0],none⟩,
 ⟨some 13,.len,[.t 12],none⟩,
 ⟨some 14,(.bin .lss),[.t 11,.t 13],none⟩]
def c12k6 : ACode := (.cond (.t 14) .skip (.exit 0))
def c12r7 : List AOper := [
 ⟨some 17,.mv,[.t 0],none⟩,
 ⟨some 18,.mv,[.t 5],none⟩,
 ⟨some 19,(.iaddr (some 4)),[.t 17,.t 18],none⟩,
 ⟨some 20,(.load (some 4)),[.t 19],none⟩,
 ⟨some 21,.mv,[.t 1],none⟩,
 ⟨some 22,.mv,[.t 5],none⟩,
 ⟨some 23,(.iaddr (some 4)),[.t 21,.t 22],none⟩,
 ⟨some 24,(.load (some 4)),[.t 23],none⟩,
 ⟨some 25,.call,[.c (.pv none (.func (.func 27))),.t 20,.t 24],none⟩,
 ⟨some 26,.not,[.t 25],none⟩]
def c12r8 : List AOper := [
 ⟨some 4,.mv,[.c (.pv none (.bool false))],none⟩]
def c12k9 : ACode := (.cond (.t 26) (.seq (.region true c12r8 [4]) .ret) .skip)
def c12k10 : ACode := (.block 1 (.seq (.region true c12r7 [0,1,5,26]) c12k9))
def c12r11 : List AOper := [
 ⟨some 15,.mv,[.t 5],none⟩,
 ⟨some 16,(.bin .add),[.t 15,.c (.pv none (.int .i64 1))],none⟩,
 ⟨some 5,.mv,[.t 16],none⟩]
def c12b12 : ACode := (.seq (.seq (.region true c12r5 [0,1,5,14]) c12k6) (.seq c12k10 (.region true c12r11 [0,1,5])))
def c12k13 : ACode := (.block 0 (.loop [0,1,5] c12b12))
def c12r14 : List AOper := [
 ⟨some 4,.mv,[.c (.pv none (.bool true))],none⟩]
def c12 : ACode := (.seq (.region true c12r0 [0,1]) (.seq (.seq (.region true c12r1 [0,1,10]) c12k3) (.seq (.seq (.region true c12r4 [0,1,5]) c12k13) (.seq (.region true c12r14 [4]) .ret))))
def g12 : AFn := ⟨2,[(4,none)],c12,false,[],[],none⟩
theorem tr12 : trFn Tryz.prog false 12 Tryz.f12 = some g12 := by kernel_rfl
def c13r0 : List AOper := [
 ⟨some 1,(.box (some 4)),[.t 0],none⟩,
 ⟨some 2,(.nilsl (some 4)),[],none⟩,
 ⟨some 3,(.alloc (some 4) (.agg [(none,(.pv none (.int .i64 0))),(none,(.pv none (.int .i64 0))),(none,(.pv none (.str []))),(none,(.tsl (some 4) []))])),[],none⟩,
 ⟨some 4,.mv,[.c (.pv none (.int .i64 0))],none⟩]
def c13r1 : List AOper := [
 ⟨some 15,(.load (some 4)),[.t 1],none⟩,
 ⟨some 16,.callp,[.c (.pv none (.func (.func 45))),.t 15],none⟩,
 ⟨some 17,.not,[.t 16],none⟩,
 ⟨some 18,.mv,[.t 17],none⟩,
 ⟨some 19,(.load (some 4)),[.t 1],some (18,false)⟩,
 ⟨some 20,(.load (some 4)),[.t 1],some (18,false)⟩,
 ⟨some 21,.callp,[.c (.pv none (.func (.func 47))),.t 20],some (18,false)⟩,
 ⟨some 22,.callp,[.c (.pv none (.func (.func 46))),.t 19,.t 21],some (18,false)⟩,
 ⟨some 23,.not,[.t 22],some (18,false)⟩,
 ⟨some 24,.pick,[.t 18,.c (.pv none (.bool true)),.t 23],none⟩]
def c13r2 : List AOper := [
 ⟨some 25,(.build [(none,(.pv none (.int .i64 0))),(none,(.pv none (.int .i64 0))),(none,(.pv none (.str []))),(none,(.tsl (some 4) []))] []),[],none⟩,
 ⟨some 2,(.nilsl (some 4)),[],none⟩,
 ⟨none,(.store (some 4)),[.t 3,.t 25],none⟩,
 ⟨some 4,.mv,[.c (.pv none (.int .i64 1))],none⟩]
def c13k3 : ACode := (.cond (.t 24) (.seq (.region true c13r2 [2,3,4]) .ret) .skip)
def c13r4 : List AOper := [
 ⟨some 26,(.faddr 0),[.t 1],none⟩,
 ⟨some 27,(.load none),[.t 26],none⟩,
 ⟨some 28,(.bin .neq),[.t 27,.c (.pv none (.int .i64 3))],none⟩,
 ⟨some 29,.mv,[.t 28],none⟩,
 ⟨some 30,(.faddr 2),[.t 1],some (29,false)⟩,
 ⟨some 31,(.load none),[.t 30],some (29,false)⟩,
 ⟨some 32,(.faddr 3),[.t 1],some (29,false)⟩,
 ⟨some 33,(.load none),[.t 32],some (29,false)⟩,
 ⟨some 34,.len,[.t 33],some (29,false)⟩,
 ⟨some 35,.call,[.c (.pv none (.func (.func 16))),.t 31,.t 34],some (29,false)⟩,
 ⟨some 36,.not,[.t 35],some (29,false)⟩,
 ⟨some 37,.pick,[.t 29,.c (.pv none (.bool true)),.t 36],none⟩]
def c13r5 : List AOper := [
 ⟨some 38,(.build [(none,(.pv none (.int .i64 0))),(none,(.pv none (.int .i64 0))),(none,(.pv none (.str []))),(none,(.tsl (some 4) []))] []),[],none⟩,
 ⟨some 2,(.nilsl (some 4)),[],none⟩,
 ⟨none,(.store (some 4)),[.t 3,.t 38],none⟩,
 ⟨some 4,.mv,[.c (.pv none (.int .i64 4))],none⟩]
def c13k6 : ACode := (.cond (.t 37) (.seq (.region true c13r5 [2,3,4]) .ret) .skip)
def c13r7 : List AOper := [
 ⟨some 40,(.faddr 3),[.t 1],none⟩,
 ⟨some 41,(.load none),[.t 40],none⟩,
 ⟨some 42,(.iaddr (some 4)),[.t 41,.c (.pv none (.int .i64 1))],none⟩,
 ⟨some 43,(.load (some 4)),[.t 42],none⟩,
 ⟨some 44,.call,[.c (.pv none (.func (.func 48))),.t 43],none⟩,
 ⟨some 39,.mv,[.t 44],none⟩,
 ⟨some 45,(.extract 0),[.t 39],none⟩,
 ⟨some 46,(.extract 1),[.t 39],none⟩,
 ⟨some 47,(.extract 2),[.t 39],none⟩,
 ⟨some 5,.mv,[.t 45],none⟩,
 ⟨none,(.store (some 4)),[.t 3,.t 46],none⟩,
 ⟨some 6,.mv,[.t 47],none⟩]
def c13r8 : List AOper := [
 ⟨some 48,.mv,[.t 6],none⟩,
 ⟨some 49,.not,[.t 48],none⟩]
def c13r9 : List AOper := [
 ⟨some 50,(.load (some 4)),[.t 3],none⟩,
 ⟨some 2,(.nilsl (some 4)),[],none⟩,
 ⟨none,(.store (some 4)),[.t 3,.t 50],none⟩,
 ⟨some 4,.mv,[.c (.pv none (.int .i64 8))],none⟩]
def c13k10 : ACode := (.cond (.t 49) (.seq (.region true c13r9 [2,3,4]) .ret) .skip)
def c13r11 : List AOper := [
 ⟨some 52,.mv,[.t 5],none⟩,
 ⟨some 53,.call,[.c (.pv none (.func (.func 10))),.t 52],none⟩,
 ⟨some 51,.mv,[.t 53],none⟩,
 ⟨some 54,(.extract 0),[.t 51],none⟩,
 ⟨some 55,(.extract 1),[.t 51],none⟩,
 ⟨some 7,.mv,[.t 54],none⟩,
 ⟨some 4,.mv,[.t 55],none⟩]
def c13r12 : List AOper := [
 ⟨some 56,.mv,[.t 4],none⟩,
 ⟨some 57,(.bin .neq),[.t 56,.c (.pv none (.int .i64 0))],none⟩]
def c13r13 : List AOper := [
 ⟨some 58,(.build [(none,(.pv none (.int .i64 0))),(none,(.pv none (.int .i64 0))),(none,(.pv none (.str []))),(none,(.tsl (some 4) []))] []),[],none⟩,
 ⟨some 59,.mv,[.t 4],none⟩,
 ⟨some 2,(.nilsl (some 4)),[],none⟩,
 ⟨none,(.store (some 4)),[.t 3,.t 58],none⟩,
 ⟨some 4,.mv,[.t 59],none⟩]
def c13k14 : ACode := (.cond (.t 57) (.seq (.region true c13r13 [2,3,4]) .ret) .skip)
def c13r15 : List AOper := [
 ⟨some 60,.call,[.c (.pv none (.func (.func 49)))],none⟩,
 ⟨some 61,.len,[.t 60],none⟩,
 ⟨some 62,.mv,[.c (.pv none (.int .i64 0))],none⟩]
def c13r16 : List AOper := [
 ⟨some 63,(.bin .lss),[.t 62,.t 61],none⟩]
def c13k17 : ACode := (.cond (.t 63) .skip (.exit 0))
def c13r18 : List AOper := [
 ⟨some 64,(.iaddr (some 2)),[.t 60,.t 62],none⟩,
 ⟨some 65,(.load (some 2)),[.t 64],none⟩,
 ⟨some 9,(.alloc (some 2) (.pv (some 2) (.agg [(none,(.str [])),(none,.nilfunc)]))),[],none⟩,
 ⟨none,(.store (some 2)),[.t 9,.t 65],none⟩]
def c13r19 : List AOper := [
 ⟨some 66,(.faddr 0),[.t 9],none⟩,
 ⟨some 67,(.load none),[.t 66],none⟩,
 ⟨some 68,(.faddr 2),[.t 1],none⟩,
 ⟨some 69,(.load none),[.t 68],none⟩,
 ⟨some 70,(.bin .neq),[.t 67,.t 69],none⟩]
def c13k20 : ACode := (.cond (.t 70) (.exit 1) .skip)
def c13r21 : List AOper := [
 ⟨some 71,.mv,[.t 7],none⟩,
 ⟨some 72,.len,[.t 71],none⟩,
 ⟨some 73,.mv,[.c (.pv none (.int .i64 0))],none⟩]
def c13r22 : List AOper := [
 ⟨some 74,(.bin .lss),[.t 73,.t 72],none⟩]
def c13k23 : ACode := (.cond (.t 74) .skip (.exit 2))
def c13r24 : List AOper := [
 ⟨some 75,(.iaddr (some 4)),[.t 71,.t 73],none⟩,
 ⟨some 76,(.load (some 4)),[.t 75],none⟩,
 ⟨some 11,(.alloc (some 4) (.agg [(none,(.pv none (.int .i64 0))),(none,(.pv none (.int .i64 0))),(none,(.pv none (.str []))),(none,(.tsl (some 4) []))])),[],none⟩,
 ⟨none,(.store (some 4)),[.t 11,.t 76],none⟩]
def c13r25 : List AOper := [
 ⟨some 78,(.faddr 3),[.t 11],none⟩,
 ⟨some 79,(.load none),[.t 78],none⟩,
 ⟨some 80,(.iaddr (some 4)),[.t 79,.c (.pv none (.int .i64 1))],none⟩,
 ⟨some 81,(.load (some 4)),[.t 80],none⟩,
 ⟨some 82,.call,[.c (.pv none (.func (.func 50))),.t 81],none⟩,
 ⟨some 77,.mv,[.t 82],none⟩,
 ⟨some 83,(.extract 0),[.t 77],none⟩,
 ⟨some 84,(.extract 1),[.t 77],none⟩,
 ⟨some 13,(.alloc (some 4) (.agg [(none,(.pv none (.int .i64 0))),(none,(.pv none (.int .i64 0))),(none,(.pv none (.str []))),(none,(.tsl (some 4) []))])),[],none⟩,
 ⟨some 12,.mv,[.t 83],none⟩,
 ⟨none,(.store (some 4)),[.t 13,.t 84],none⟩]
def c13r26 : List AOper := [
 ⟨some 85,(.faddr 2),[.t 1],none⟩,
 ⟨some 86,(.load none),[.t 85],none⟩,
 ⟨some 87,(.faddr 3),[.t 11],none⟩,
 ⟨some 88,(.load none),[.t 87],none⟩,
 ⟨some 89,(.iaddr (some 4)),[.t 88,.c (.pv none (.int .i64 0))],none⟩,
 ⟨some 90,(.load (some 4)),[.t 89],none⟩,
 ⟨some 91,(.faddr 3),[.t 1],none⟩,
 ⟨some 92,(.load none),[.t 91],none⟩,
 ⟨some 93,(.iaddr (some 4)),[.t 92,.c (.pv none (.int .i64 1))],none⟩,
 ⟨some 94,(.load (some 4)),[.t 93],none⟩,
 ⟨some 95,(.faddr 1),[.t 9],none⟩,
 ⟨some 96,(.load none),[.t 95],none⟩,
 ⟨some 97,.mv,[.t 12],none⟩,
 ⟨some 98,.callp,[.t 96,.t 97],none⟩,
 ⟨some 99,.callp,[.c (.pv none (.func (.func 52))),.t 98],none⟩,
 ⟨some 100,(.bslicep (some 4)),[.t 90,.t 94,.t 99],none⟩,
 ⟨some 101,.callp,[.c (.pv none (.func (.func 51))),.t 86,.t 100],none⟩,
 ⟨some 14,(.alloc (some 4) (.agg [(none,(.pv none (.int .i64 0))),(none,(.pv none (.int .i64 0))),(none,(.pv none (.str []))),(none,(.tsl (some 4) []))])),[],none⟩,
 ⟨none,(.store (some 4)),[.t 14,.t 101],none⟩]
def c13r27 : List AOper := [
 ⟨some 102,(.load (some 4)),[.t 14],none⟩,
 ⟨some 103,.call,[.c (.pv none (.func (.func 45))),.t 102],none⟩,
 ⟨some 104,.not,[.t 103],none⟩]
def c13r28 : List AOper := [
 ⟨some 105,(.build [(none,(.pv none (.int .i64 0))),(none,(.pv none (.int .i64 0))),(none,(.pv none (.str []))),(none,(.tsl (some 4) []))] []),[],none⟩,
 ⟨some 2,(.nilsl (some 4)),[],none⟩,
 ⟨none,(.store (some 4)),[.t 3,.t 105],none⟩,
 ⟨some 4,.mv,[.c (.pv none (.int .i64 2))],none⟩]
def c13k29 : ACode := (.cond (.t 104) (.seq (.region true c13r28 [2,3,4]) .ret) .skip)
def c13r30 : List AOper := [
 ⟨some 106,.mv,[.t 2],none⟩,
 ⟨some 107,(.load (some 4)),[.t 14],none⟩,
 ⟨some 108,.call,[.c (.pv none (.func (.func 38))),.t 107],none⟩,
 ⟨some 109,(.bslice (some 4)),[.t 108],none⟩,
 ⟨some 110,(.append (some 4)),[.t 106,.t 109],none⟩,
 ⟨some 2,.mv,[.t 110],none⟩]
def c13k31 : ACode := (.block 3 (.seq (.region true c13r24 [1,2,3,7,9,11,60,61,62,71,72,73]) (.seq (.region true c13r25 [1,2,3,7,9,11,12,60,61,62,71,72,73]) (.seq (.seq (.settle [12]) (.region true c13r26 [1,2,3,7,9,14,60,61,62,71,72,73])) (.seq (.seq (.region true c13r27 [1,2,3,7,9,14,60,61,62,71,72,73,104]) c13k29) (.region true c13r30 [1,2,3,7,9,60,61,62,71,72,73]))))))
def c13r32 : List AOper := [
 ⟨some 111,(.bin .add),[.t 73,.c (.pv none (.int .i64 1))],none⟩,
 ⟨some 73,.mv,[.t 111],none⟩]
def c13b33 : ACode := (.seq (.region true c13r22 [1,2,3,7,9,60,61,62,71,72,73,74]) (.seq c13k23 (.seq c13k31 (.region true c13r32 [1,2,3,7,9,60,61,62,71,72,73]))))
def c13k34 : ACode := (.block 2 (.loop [1,2,3,7,9,60,61,62,71,72,73] c13b33))
def c13k35 : ACode := (.block 1 (.seq (.region true c13r18 [1,2,3,7,9,60,61,62]) (.seq (.seq (.region true c13r19 [1,2,3,7,9,60,61,62,70]) c13k20) (.seq (.region true c13r21 [1,2,3,7,9,60,61,62,71,72,73]) c13k34))))
def c13r36 : List AOper := [
 ⟨some 112,(.bin .add),[.t 62,.c (.pv none (.int .i64 1))],none⟩,
 ⟨some 62,.mv,[.t 112],none⟩]
def c13b37 : ACode := (.seq (.region true c13r16 [1,2,3,7,60,61,62,63]) (.seq c13k17 (.seq c13k35 (.region true c13r36 [1,2,3,7,60,61,62]))))
def c13k38 : ACode := (.block 0 (.loop [1,2,3,7,60,61,62] c13b37))
def c13r39 : List AOper := [
 ⟨some 113,.mv,[.t 2],none⟩,
 ⟨some 114,(.build [(none,(.pv none (.int .i64 0))),(none,(.pv none (.int .i64 0))),(none,(.pv none (.str []))),(none,(.tsl (some 4) []))] []),[],none⟩,
 ⟨some 2,.mv,[.t 113],none⟩,
 ⟨none,(.store (some 4)),[.t 3,.t 114],none⟩,
 ⟨some 4,.mv,[.c (.pv none (.int .i64 0))],none⟩]
def c13 : ACode := (.seq (.region true c13r0 [1,2,3]) (.seq (.seq (.seq (.settle [1]) (.region true c13r1 [1,2,3,24])) c13k3) (.seq (.seq (.region true c13r4 [1,2,3,37]) c13k6) (.seq (.region true c13r7 [1,2,3,5,6]) (.seq (.seq (.region true c13r8 [1,2,3,5,49]) c13k10) (.seq (.region true c13r11 [1,2,3,4,7]) (.seq (.seq (.region true c13r12 [1,2,3,4,7,57]) c13k14) (.seq (.seq (.region true c13r15 [1,2,3,7,60,61,62]) c13k38) (.seq (.region true c13r39 [2,3,4]) .ret)))))))))
def g13 : AFn := ⟨1,[(2,none),(3,some (some 4)),(4,none)],c13,false,[],[],none⟩
theorem tr13 : trFn Tryz.prog false 13 Tryz.f13 = some g13 := by kernel_rfl
def c15r0 : List AOper := [
 ⟨some 2,(.box (some 4)),[.t 0],none⟩,
 ⟨some 3,(.box (some 4)),[.t 1],none⟩,
 ⟨some 4,.mv,[.c (.pv none (.bool false))],none⟩]
def c15r1 : List AOper := [
 ⟨some 5,(.load (some 4)),[.t 2],none⟩,
 ⟨some 6,(.load (some 4)),[.t 3],none⟩,
 ⟨some 7,.call,[.c (.pv none (.func (.func 27))),.t 5,.t 6],none⟩,
 ⟨some 4,.mv,[.t 7],none⟩]
def c15 : ACode := (.seq (.region true c15r0 [2,3]) (.seq (.region true c15r1 [4]) .ret))
def g15 : AFn := ⟨2,[(4,none)],c15,false,[],[],none⟩
theorem tr15 : trFn Tryz.prog false 15 Tryz.f15 = some g15 := by kernel_rfl
def c16r0 : List AOper := [
 ⟨some 4,.mv,[.c (.pv none (.bool false))],none⟩]
def c16r1 : List AOper := [
 ⟨some 5,.mv,[.t 1],none⟩,
 ⟨some 6,(.bin .eql),[.t 5,.c (.pv none (.int .i64 3))],none⟩,
 ⟨some 7,.mv,[.t 6],none⟩,
 ⟨some 8,.mv,[.t 0],some (7,true)⟩,
 ⟨some 9,(.bin .eql),[.t 8,.c (.pv none (.str [36,98,97,103]))],some (7,true)⟩,
 ⟨some 10,.mv,[.t 9],some (7,true)⟩,
 ⟨some 11,.mv,[.t 0],some (10,false)⟩,
 ⟨some 12,(.bin .eql),[.t 11,.c (.pv none (.str [36,115,101,116]))],some (10,false)⟩,
 ⟨some 13,.pick,[.t 10,.c (.pv none (.bool true)),.t 12],some (7,true)⟩,
 ⟨some 14,.pick,[.t 7,.t 13,.c (.pv none (.bool false))],none⟩,
 ⟨some 4,.mv,[.t 14],none⟩]
def c16 : ACode := (.seq (.region true c16r0 [0,1]) (.seq (.region true c16r1 [4]) .ret))
def g16 : AFn := ⟨2,[(4,none)],c16,false,[],[],none⟩
theorem tr16 : trFn Tryz.prog false 16 Tryz.f16 = some g16 := by kernel_rfl
def c18r0 : List AOper := [
 ⟨some 2,(.nilsl (some 4)),[],none⟩,
 ⟨some 3,.mv,[.c (.pv none (.int .i64 0))],none⟩]
def c18r1 : List AOper := [
 ⟨some 7,.mv,[.t 0],none⟩,
 ⟨some 8,.call,[.c (.pv none (.func (.func 59))),.t 7],none⟩,
 ⟨some 9,.not,[.t 8],none⟩]
def c18r2 : List AOper := [
 ⟨some 2,(.nilsl (some 4)),[],none⟩,
 ⟨some 3,.mv,[.c (.pv none (.int .i64 1))],none⟩]
def c18k3 : ACode := (.cond (.t 9) (.seq (.region true c18r2 [2,3]) .ret) .skip)
def c18r4 : List AOper := [
 ⟨some 4,.mv,[.c (.pv none (.int .i64 0))],none⟩]
def c18r5 : List AOper := [
 ⟨some 10,.mv,[.t 4],none⟩,
 ⟨some 11,.mv,[.t 0],none⟩,
 ⟨some 12,.len,[.t 11],none⟩,
 ⟨some 13,(.bin .lss),[.t 10,.t 12],none⟩]
def c18k6 : ACode := (.cond (.t 13) .skip (.exit 0))
def c18r7 : List AOper := [
 ⟨some 16,.mv,[.t 0],none⟩,
 ⟨some 17,.mv,[.t 4],none⟩,
 ⟨some 18,(.iaddr (some 4)),[.t 16,.t 17],none⟩,
 ⟨some 19,(.load (some 4)),[.t 18],none⟩,
 ⟨some 20,.call,[.c (.pv none (.func (.func 55))),.t 19],none⟩,
 ⟨some 21,.not,[.t 20],none⟩]
def c18r8 : List AOper := [
 ⟨some 2,(.nilsl (some 4)),[],none⟩,
 ⟨some 3,.mv,[.c (.pv none (.int .i64 3))],none⟩]
def c18k9 : ACode := (.cond (.t 21) (.seq (.region true c18r8 [2,3]) .ret) .skip)
def c18k10 : ACode := (.block 1 (.seq (.region true c18r7 [0,4,21]) c18k9))
def c18r11 : List AOper := [
 ⟨some 14,.mv,[.t 4],none⟩,
 ⟨some 15,(.bin .add),[.t 14,.c (.pv none (.int .i64 1))],none⟩,
 ⟨some 4,.mv,[.t 15],none⟩]
def c18b12 : ACode := (.seq (.seq (.region true c18r5 [0,4,13]) c18k6) (.seq c18k10 (.region true c18r11 [0,4])))
def c18k13 : ACode := (.block 0 (.loop [0,4] c18b12))
def c18r14 : List AOper := [
 ⟨some 5,(.nilsl (some 4)),[],none⟩]
def c18r15 : List AOper := [
 ⟨some 6,.mv,[.c (.pv none (.int .i64 0))],none⟩]
def c18r16 : List AOper := [
 ⟨some 22,.mv,[.t 6],none⟩,
 ⟨some 23,.mv,[.t 0],none⟩,
 ⟨some 24,.len,[.t 23],none⟩,
 ⟨some 25,(.bin .lss),[.t 22,.t 24],none⟩]
def c18k17 : ACode := (.cond (.t 25) .skip (.exit 2))
def c18r18 : List AOper := [
 ⟨some 28,.mv,[.t 5],none⟩,
 ⟨some 29,.mv,[.t 0],none⟩,
 ⟨some 30,.mv,[.t 6],none⟩,
 ⟨some 31,(.iaddr (some 4)),[.t 29,.t 30],none⟩,
 ⟨some 32,(.load (some 4)),[.t 31],none⟩,
 ⟨some 33,.call,[.c (.pv none (.func (.func 60))),.t 28,.t 32,.c (.pv none (.bool true))],none⟩,
 ⟨some 5,.mv,[.t 33],none⟩]
def c18k19 : ACode := (.block 3 (.region true c18r18 [0,5,6]))
def c18r20 : List AOper := [
 ⟨some 26,.mv,[.t 6],none⟩,
 ⟨some 27,(.bin .add),[.t 26,.c (.pv none (.int .i64 1))],none⟩,
 ⟨some 6,.mv,[.t 27],none⟩]
def c18b21 : ACode := (.seq (.seq (.region true c18r16 [0,5,6,25]) c18k17) (.seq c18k19 (.region true c18r20 [0,5,6])))
def c18k22 : ACode := (.block 2 (.loop [0,5,6] c18b21))
def c18r23 : List AOper := [
 ⟨some 34,.mv,[.t 5],none⟩,
 ⟨some 2,.mv,[.t 34],none⟩,
 ⟨some 3,.mv,[.c (.pv none (.int .i64 0))],none⟩]
def c18 : ACode := (.seq (.region true c18r0 [0]) (.seq (.seq (.region true c18r1 [0,9]) c18k3) (.seq (.seq (.region true c18r4 [0,4]) c18k13) (.seq (.region true c18r14 [0,5]) (.seq (.seq (.region true c18r15 [0,5,6]) c18k22) (.seq (.region true c18r23 [2,3]) .ret))))))
def g18 : AFn := ⟨1,[(2,none),(3,none)],c18,false,[],[],none⟩
theorem tr18 : trFn Tryz.prog false 18 Tryz.f18 = some g18 := by kernel_rfl
def c19r0 : List AOper := [
 ⟨some 1,(.box (some 4)),[.t 0],none⟩,
 ⟨some 2,(.alloc (some 4) (.agg [(none,(.pv none (.int .i64 0))),(none,(.pv none (.int .i64 0))),(none,(.pv none (.str []))),(none,(.tsl (some 4) []))])),[],none⟩]
def c19r1 : List AOper := [
 ⟨some 3,(.load (some 4)),[.t 1],none⟩,
 ⟨some 4,.call,[.c (.pv none (.func (.func 45))),.t 3],none⟩,
 ⟨some 5,.not,[.t 4],none⟩]
def c19r2 : List AOper := [
 ⟨some 6,(.build [(none,(.pv none (.int .i64 0))),(none,(.pv none (.int .i64 0))),(none,(.pv none (.str []))),(none,(.tsl (some 4) []))] []),[],none⟩,
 ⟨none,(.store (some 4)),[.t 2,.t 6],none⟩]
def c19k3 : ACode := (.cond (.t 5) (.seq (.region true c19r2 [2]) .ret) .skip)
def c19r4 : List AOper := [
 ⟨some 7,(.load (some 4)),[.t 1],none⟩,
 ⟨some 8,.call,[.c (.pv none (.func (.func 61))),.t 7],none⟩,
 ⟨some 9,.call,[.c (.pv none (.func (.func 38))),.t 8],none⟩,
 ⟨none,(.store (some 4)),[.t 2,.t 9],none⟩]
def c19 : ACode := (.seq (.region true c19r0 [1,2]) (.seq (.seq (.region true c19r1 [1,2,5]) c19k3) (.seq (.region true c19r4 [2]) .ret)))
def g19 : AFn := ⟨1,[(2,some (some 4))],c19,false,[],[],none⟩
theorem tr19 : trFn Tryz.prog false 19 Tryz.f19 = some g19 := by kernel_rfl
def c20r0 : List AOper := [
 ⟨some 1,(.box (some 4)),[.t 0],none⟩,
 ⟨some 2,(.alloc (some 4) (.agg [(none,(.pv none (.int .i64 0))),(none,(.pv none (.int .i64 0))),(none,(.pv none (.str []))),(none,(.tsl (some 4) []))])),[],none⟩]
def c20r1 : List AOper := [
 ⟨some 3,(.load (some 4)),[.t 1],none⟩,
 ⟨some 4,.call,[.c (.pv none (.func (.func 43))),.t 3],none⟩,
 ⟨some 5,.not,[.t 4],none⟩]
def c20r2 : List AOper := [
 ⟨some 6,(.build [(none,(.pv none (.int .i64 0))),(none,(.pv none (.int .i64 0))),(none,(.pv none (.str []))),(none,(.tsl (some 4) []))] []),[],none⟩,
 ⟨none,(.store (some 4)),[.t 2,.t 6],none⟩]
def c20k3 : ACode := (.cond (.t 5) (.seq (.region true c20r2 [2]) .ret) .skip)
def c20r4 : List AOper := [
 ⟨some 7,(.load (some 4)),[.t 1],none⟩,
 ⟨some 8,.call,[.c (.pv none (.func (.func 62))),.t 7],none⟩,
 ⟨some 9,.call,[.c (.pv none (.func (.func 58))),.t 8],none⟩,
 ⟨none,(.store (some 4)),[.t 2,.t 9],none⟩]
def c20 : ACode := (.seq (.region true c20r0 [1,2]) (.seq (.seq (.region true c20r1 [1,2,5]) c20k3) (.seq (.region true c20r4 [2]) .ret)))
def g20 : AFn := ⟨1,[(2,some (some 4))],c20,false,[],[],none⟩
theorem tr20 : trFn Tryz.prog false 20 Tryz.f20 = some g20 := by kernel_rfl
def c21r0 : List AOper := [
 ⟨some 2,(.box (some 4)),[.t 0],none⟩,
 ⟨some 3,(.box (some 4)),[.t 1],none⟩,
 ⟨some 4,(.alloc (some 4) (.agg [(none,(.pv none (.int .i64 0))),(none,(.pv none (.int .i64 0))),(none,(.pv none (.str []))),(none,(.tsl (some 4) []))])),[],none⟩]
def c21r1 : List AOper := [
 ⟨some 11,(.load (some 4)),[.t 2],none⟩,
 ⟨some 12,.call,[.c (.pv none (.func (.func 45))),.t 11],none⟩,
 ⟨some 13,.not,[.t 12],none⟩,
 ⟨some 14,.mv,[.t 13],none⟩,
 ⟨some 15,(.load (some 4)),[.t 3],some (14,false)⟩,
 ⟨some 16,.call,[.c (.pv none (.func (.func 45))),.t 15],some (14,false)⟩,
 ⟨some 17,.not,[.t 16],some (14,false)⟩,
 ⟨some 18,.pick,[.t 14,.c (.pv none (.bool true)),.t 17],none⟩]
def c21r2 : List AOper := [
 ⟨some 19,(.build [(none,(.pv none (.int .i64 0))),(none,(.pv none (.int .i64 0))),(none,(.pv none (.str []))),(none,(.tsl (some 4) []))] []),[],none⟩,
 ⟨none,(.store (some 4)),[.t 4,.t 19],none⟩]
def c21k3 : ACode := (.cond (.t 18) (.seq (.region true c21r2 [4]) .ret) .skip)
def c21r4 : List AOper := [
 ⟨some 20,(.mkmap none),[],none⟩,
 ⟨some 5,(.alloc none (.pv none .nilmap)),[],none⟩,
 ⟨none,(.store none),[.t 5,.t 20],none⟩]
def c21r5 : List AOper := [
 ⟨some 21,(.mkfunc (.func 63) 0),[.t 5],none⟩,
 ⟨some 6,(.alloc none (.pv none .nilfunc)),[],none⟩,
 ⟨none,(.store none),[.t 6,.t 21],none⟩]
def c21r6 : List AOper := [
 ⟨some 22,(.load none),[.t 6],none⟩,
 ⟨some 23,(.load (some 4)),[.t 2],none⟩,
 ⟨some 24,.call,[.t 22,.t 23],none⟩]
def c21r7 : List AOper := [
 ⟨some 25,(.load (some 4)),[.t 3],none⟩,
 ⟨some 26,.call,[.c (.pv none (.func (.func 65))),.t 25],none⟩]
def c21r8 : List AOper := [
 ⟨some 8,(.nilsl (some 4)),[],none⟩]
def c21r9 : List AOper := [
 ⟨some 32,(.load (some 4)),[.t 3],none⟩,
 ⟨some 33,.call,[.c (.pv none (.func (.func 64))),.t 32],none⟩,
 ⟨some 34,.len,[.t 33],none⟩,
 ⟨some 35,.mv,[.c (.pv none (.int .i64 0))],none⟩]
def c21r10 : List AOper := [
 ⟨some 36,(.bin .lss),[.t 35,.t 34],none⟩]
def c21k11 : ACode := (.cond (.t 36) .skip (.exit 2))
def c21r12 : List AOper := [
 ⟨some 37,(.iaddr none),[.t 33,.t 35],none⟩,
 ⟨some 38,(.load none),[.t 37],none⟩,
 ⟨some 10,.mv,[.t 38],none⟩]
def c21r13 : List AOper := [
 ⟨some 39,(.load none),[.t 5],none⟩,
 ⟨some 40,.mv,[.t 10],none⟩,
 ⟨some 41,(.lookup false none (.pv none (.bool false)) false),[.t 39,.t 40],none⟩,
 ⟨some 42,.not,[.t 41],none⟩]
def c21r14 : List AOper := [
 ⟨some 43,.mv,[.t 8],none⟩,
 ⟨some 44,.mv,[.t 10],none⟩,
 ⟨some 45,.call,[.c (.pv none (.func (.func 25))),.t 44],none⟩,
 ⟨some 46,(.bslice (some 4)),[.t 45],none⟩,
 ⟨some 47,(.append (some 4)),[.t 43,.t 46],none⟩,
 ⟨some 8,.mv,[.t 47],none⟩]
def c21k15 : ACode := (.cond (.t 42) (.region true c21r14 [4,5,8,33,34,35]) .skip)
def c21k16 : ACode := (.block 3 (.seq (.region true c21r12 [4,5,8,10,33,34,35]) (.seq (.region true c21r13 [4,5,8,10,33,34,35,42]) c21k15)))
def c21r17 : List AOper := [
 ⟨some 48,(.bin .add),[.t 35,.c (.pv none (.int .i64 1))],none⟩,
 ⟨some 35,.mv,[.t 48],none⟩]
def c21b18 : ACode := (.seq (.region true c21r10 [4,5,8,33,34,35,36]) (.seq c21k11 (.seq c21k16 (.region true c21r17 [4,5,8,33,34,35]))))
def c21k19 : ACode := (.block 2 (.loop [4,5,8,33,34,35] c21b18))
def c21r20 : List AOper := [
 ⟨some 49,.mv,[.t 8],none⟩,
 ⟨some 50,.call,[.c (.pv none (.func (.func 52))),.t 49],none⟩,
 ⟨none,(.store (some 4)),[.t 4,.t 50],none⟩]
def c21r21 : List AOper := [
 ⟨some 51,(.load (some 4)),[.t 4],none⟩,
 ⟨some 52,.call,[.c (.pv none (.func (.func 45))),.t 51],none⟩,
 ⟨some 53,.not,[.t 52],none⟩]
def c21r22 : List AOper := [
 ⟨some 54,(.build [(none,(.pv none (.int .i64 0))),(none,(.pv none (.int .i64 0))),(none,(.pv none (.str []))),(none,(.tsl (some 4) []))] []),[],none⟩,
 ⟨none,(.store (some 4)),[.t 4,.t 54],none⟩]
def c21k23 : ACode := (.cond (.t 53) (.seq (.region true c21r22 [4]) .ret) .skip)
def c21r24 : List AOper := [
 ⟨some 55,(.load (some 4)),[.t 4],none⟩,
 ⟨none,(.store (some 4)),[.t 4,.t 55],none⟩]
def c21p25 : ACode := (.seq (.region true c21r8 [3,4,5,8]) (.seq (.region true c21r9 [4,5,8,33,34,35]) (.seq c21k19 (.seq (.region true c21r20 [4]) (.seq (.region true c21r21 [4,53]) (.seq c21k23 (.seq (.region true c21r24 [4]) (.seq .ret .skip))))))))
def c21r26 : List AOper := [
 ⟨some 7,(.alloc (some 4) (.agg [(none,(.pv none (.int .i64 0))),(none,(.pv none (.int .i64 0))),(none,(.pv none (.str []))),(none,(.tsl (some 4) []))])),[],none⟩,
 ⟨none,(.store (some 4)),[.t 7,.t 27],none⟩]
def c21r27 : List AOper := [
 ⟨some 29,(.load none),[.t 6],none⟩,
 ⟨some 30,(.load (some 4)),[.t 7],none⟩,
 ⟨some 31,.call,[.t 29,.t 30],none⟩]
def c21k28 : ACode := (.block 1 (.region true c21r27 []))
def c21q29 : ACode := c21k28
def c21 : ACode := (.seq (.region true c21r0 [2,3,4]) (.seq (.region true c21r1 [2,3,4,18]) (.seq c21k3 (.seq (.region true c21r4 [2,3,4,5]) (.seq (.region true c21r5 [2,3,4,5,6]) (.seq (.region true c21r6 [3,4,5,6]) (.seq (.region true c21r7 [3,4,5,6,26]) .skip)))))))
def g21 : AFn := ⟨2,[(4,some (some 4))],c21,false,[(.range 21 (.t 26) [27,28] [6],c21p25)],[⟨[27,28],(.region true c21r26 [6,7]),c21q29⟩],none⟩
theorem tr21 : trFn Tryz.prog false 21 Tryz.f21 = some g21 := by kernel_rfl
def c22r0 : List AOper := [
 ⟨some 2,(.box (some 4)),[.t 0],none⟩,
 ⟨some 3,(.box (some 4)),[.t 1],none⟩,
 ⟨some 4,(.alloc (some 4) (.agg [(none,(.pv none (.int .i64 0))),(none,(.pv none (.int .i64 0))),(none,(.pv none (.str []))),(none,(.tsl (some 4) []))])),[],none⟩]
def c22r1 : List AOper := [
 ⟨some 5,(.load (some 4)),[.t 2],none⟩,
 ⟨some 6,.call,[.c (.pv none (.func (.func 43))),.t 5],none⟩,
 ⟨some 7,.not,[.t 6],none⟩,
 ⟨some 8,.mv,[.t 7],none⟩,
 ⟨some 9,(.load (some 4)),[.t 3],some (8,false)⟩,
 ⟨some 10,.call,[.c (.pv none (.func (.func 43))),.t 9],some (8,false)⟩,
 ⟨some 11,.not,[.t 10],some (8,false)⟩,
 ⟨some 12,.pick,[.t 8,.c (.pv none (.bool true)),.t 11],none⟩]
def c22r2 : List AOper := [
 ⟨some 13,(.build [(none,(.pv none (.int .i64 0))),(none,(.pv none (.int .i64 0))),(none,(.pv none (.str []))),(none,(.tsl (some 4) []))] []),[],none⟩,
 ⟨none,(.store (some 4)),[.t 4,.t 13],none⟩]
def c22k3 : ACode := (.cond (.t 12) (.seq (.region true c22r2 [4]) .ret) .skip)
def c22r4 : List AOper := [
 ⟨some 14,(.load (some 4)),[.t 2],none⟩,
 ⟨some 15,(.load (some 4)),[.t 3],none⟩,
 ⟨some 16,.call,[.c (.pv none (.func (.func 66))),.t 14,.t 15],none⟩,
 ⟨some 17,.call,[.c (.pv none (.func (.func 42))),.t 16],none⟩,
 ⟨some 18,.call,[.c (.pv none (.func (.func 58))),.t 17],none⟩,
 ⟨none,(.store (some 4)),[.t 4,.t 18],none⟩]
def c22 : ACode := (.seq (.region true c22r0 [2,3,4]) (.seq (.seq (.region true c22r1 [2,3,4,12]) c22k3) (.seq (.region true c22r4 [4]) .ret)))
def g22 : AFn := ⟨2,[(4,some (some 4))],c22,false,[],[],none⟩
theorem tr22 : trFn Tryz.prog false 22 Tryz.f22 = some g22 := by kernel_rfl
def c23r0 : List AOper := [
 ⟨some 1,(.box (some 4)),[.t 0],none⟩,
 ⟨some 2,(.alloc (some 4) (.agg [(none,(.pv none (.int .i64 0))),(none,(.pv none (.int .i64 0))),(none,(.pv none (.str []))),(none,(.tsl (some 4) []))])),[],none⟩,
 ⟨some 3,(.alloc (some 4) (.agg [(none,(.pv none (.int .i64 0))),(none,(.pv none (.int .i64 0))),(none,(.pv none (.str []))),(none,(.tsl (some 4) []))])),[],none⟩,
 ⟨some 4,.mv,[.c (.pv none (.int .i64 0))],none⟩]
def c23r1 : List AOper := [
 ⟨some 14,(.load (some 4)),[.t 1],none⟩,
 ⟨some 15,.call,[.c (.pv none (.func (.func 45))),.t 14],none⟩,
 ⟨some 16,.not,[.t 15],none⟩]
def c23r2 : List AOper := [
 ⟨some 17,(.build [(none,(.pv none (.int .i64 0))),(none,(.pv none (.int .i64 0))),(none,(.pv none (.str []))),(none,(.tsl (some 4) []))] []),[],none⟩,
 ⟨some 18,(.build [(none,(.pv none (.int .i64 0))),(none,(.pv none (.int .i64 0))),(none,(.pv none (.str []))),(none,(.tsl (some 4) []))] []),[],none⟩,
 ⟨none,(.store (some 4)),[.t 2,.t 17],none⟩,
 ⟨none,(.store (some 4)),[.t 3,.t 18],none⟩,
 ⟨some 4,.mv,[.c (.pv none (.int .i64 1))],none⟩]
def c23k3 : ACode := (.cond (.t 16) (.seq (.region true c23r2 [2,3,4]) .ret) .skip)
def c23r4 : List AOper := [
 ⟨some 5,.mv,[.c (.pv none (.str [36,98,97,103]))],none⟩]
def c23r5 : List AOper := [
 ⟨some 20,(.load (some 4)),[.t 1],none⟩,
 ⟨some 21,.call,[.c (.pv none (.func (.func 67))),.t 20,.c (.pv none (.str [115,101,116,111,102])),.c (.pv none (.int .i64 3))],none⟩,
 ⟨some 19,.mv,[.t 21],none⟩]
def c23r6 : List AOper := [
 ⟨some 5,.mv,[.c (.pv none (.str [36,115,101,116]))],none⟩]
def c23r7 : List AOper := [
 ⟨some 23,(.load (some 4)),[.t 1],none⟩,
 ⟨some 24,.call,[.c (.pv none (.func (.func 67))),.t 23,.c (.pv none (.str [98,97,103,111,102])),.c (.pv none (.int .i64 3))],none⟩,
 ⟨some 25,.not,[.t 24],none⟩,
 ⟨some 22,.mv,[.t 25],none⟩]
def c23r8 : List AOper := [
 ⟨some 26,(.build [(none,(.pv none (.int .i64 0))),(none,(.pv none (.int .i64 0))),(none,(.pv none (.str []))),(none,(.tsl (some 4) []))] []),[],none⟩,
 ⟨some 27,(.build [(none,(.pv none (.int .i64 0))),(none,(.pv none (.int .i64 0))),(none,(.pv none (.str []))),(none,(.tsl (some 4) []))] []),[],none⟩,
 ⟨none,(.store (some 4)),[.t 2,.t 26],none⟩,
 ⟨none,(.store (some 4)),[.t 3,.t 27],none⟩,
 ⟨some 4,.mv,[.c (.pv none (.int .i64 4))],none⟩]
def c23k9 : ACode := (.cond (.t 22) (.seq (.region true c23r8 [2,3,4]) .ret) .skip)
def c23k10 : ACode := (.cond (.t 19) (.region true c23r6 [1,2,3,5]) (.seq (.region true c23r7 [1,2,3,5,22]) c23k9))
def c23k11 : ACode := (.block 0 (.seq (.region true c23r5 [1,2,3,5,19]) c23k10))
def c23r12 : List AOper := [
 ⟨some 28,(.faddr 3),[.t 1],none⟩,
 ⟨some 29,(.load none),[.t 28],none⟩,
 ⟨some 30,(.iaddr (some 4)),[.t 29,.c (.pv none (.int .i64 0))],none⟩,
 ⟨some 31,(.load (some 4)),[.t 30],none⟩,
 ⟨some 32,(.faddr 3),[.t 1],none⟩,
 ⟨some 33,(.load none),[.t 32],none⟩,
 ⟨some 34,(.iaddr (some 4)),[.t 33,.c (.pv none (.int .i64 1))],none⟩,
 ⟨some 35,(.load (some 4)),[.t 34],none⟩,
 ⟨some 36,(.faddr 3),[.t 1],none⟩,
 ⟨some 37,(.load none),[.t 36],none⟩,
 ⟨some 38,(.iaddr (some 4)),[.t 37,.c (.pv none (.int .i64 2))],none⟩,
 ⟨some 39,(.load (some 4)),[.t 38],none⟩,
 ⟨some 6,(.alloc (some 4) (.agg [(none,(.pv none (.int .i64 0))),(none,(.pv none (.int .i64 0))),(none,(.pv none (.str []))),(none,(.tsl (some 4) []))])),[],none⟩,
 ⟨some 7,(.alloc (some 4) (.agg [(none,(.pv none (.int .i64 0))),(none,(.pv none (.int .i64 0))),(none,(.pv none (.str []))),(none,(.tsl (some 4) []))])),[],none⟩,
 ⟨some 8,(.alloc (some 4) (.agg [(none,(.pv none (.int .i64 0))),(none,(.pv none (.int .i64 0))),(none,(.pv none (.str []))),(none,(.tsl (some 4) []))])),[],none⟩,
 ⟨none,(.storen (some 4)),[.t 6,.t 31,.t 32,.t 34,.t 36,.t 38],none⟩,
 ⟨none,(.storen (some 4)),[.t 7,.t 35,.t 36,.t 38],none⟩,
 ⟨none,(.store (some 4)),[.t 8,.t 39],none⟩]
def c23r13 : List AOper := [
 ⟨some 40,(.load (some 4)),[.t 7],none⟩,
 ⟨some 41,.call,[.c (.pv none (.func (.func 61))),.t 40],none⟩,
 ⟨some 9,(.alloc (some 4) (.agg [(none,(.pv none (.int .i64 0))),(none,(.pv none (.int .i64 0))),(none,(.pv none (.str []))),(none,(.tsl (some 4) []))])),[],none⟩,
 ⟨none,(.store (some 4)),[.t 9,.t 41],none⟩]
def c23r14 : List AOper := [
 ⟨some 43,(.faddr 0),[.t 9],none⟩,
 ⟨some 44,(.load none),[.t 43],none⟩,
 ⟨some 45,(.bin .eql),[.t 44,.c (.pv none (.int .i64 0))],none⟩,
 ⟨some 42,.mv,[.t 45],none⟩]
def c23r15 : List AOper := [
 ⟨some 46,(.build [(none,(.pv none (.int .i64 0))),(none,(.pv none (.int .i64 0))),(none,(.pv none (.str []))),(none,(.tsl (some 4) []))] []),[],none⟩,
 ⟨some 47,.call,[.c (.pv none (.func (.func 68)))],none⟩,
 ⟨none,(.store (some 4)),[.t 2,.t 46],none⟩,
 ⟨none,(.store (some 4)),[.t 3,.t 47],none⟩,
 ⟨some 4,.mv,[.c (.pv none (.int .i64 8))],none⟩]
def c23r16 : List AOper := [
 ⟨some 49,(.faddr 0),[.t 9],none⟩,
 ⟨some 50,(.load none),[.t 49],none⟩,
 ⟨some 51,(.bin .eql),[.t 50,.c (.pv none (.int .i64 1))],none⟩,
 ⟨some 48,.mv,[.t 51],none⟩]
def c23r17 : List AOper := [
 ⟨some 52,(.build [(none,(.pv none (.int .i64 0))),(none,(.pv none (.int .i64 0))),(none,(.pv none (.str []))),(none,(.tsl (some 4) []))] []),[],none⟩,
 ⟨some 53,(.load (some 4)),[.t 9],none⟩,
 ⟨some 54,.call,[.c (.pv none (.func (.func 69))),.c (.pv none (.str [99,97,108,108,97,98,108,101])),.t 53],none⟩,
 ⟨none,(.store (some 4)),[.t 2,.t 52],none⟩,
 ⟨none,(.store (some 4)),[.t 3,.t 54],none⟩,
 ⟨some 4,.mv,[.c (.pv none (.int .i64 8))],none⟩]
def c23r18 : List AOper := [
 ⟨some 56,(.load (some 4)),[.t 8],none⟩,
 ⟨some 57,.call,[.c (.pv none (.func (.func 70))),.t 56],none⟩,
 ⟨some 58,.not,[.t 57],none⟩,
 ⟨some 55,.mv,[.t 58],none⟩]
def c23r19 : List AOper := [
 ⟨some 59,(.build [(none,(.pv none (.int .i64 0))),(none,(.pv none (.int .i64 0))),(none,(.pv none (.str []))),(none,(.tsl (some 4) []))] []),[],none⟩,
 ⟨some 60,(.load (some 4)),[.t 8],none⟩,
 ⟨some 61,.call,[.c (.pv none (.func (.func 69))),.c (.pv none (.str [108,105,115,116])),.t 60],none⟩,
 ⟨none,(.store (some 4)),[.t 2,.t 59],none⟩,
 ⟨none,(.store (some 4)),[.t 3,.t 61],none⟩,
 ⟨some 4,.mv,[.c (.pv none (.int .i64 8))],none⟩]
def c23k20 : ACode := (.cond (.t 55) (.seq (.region true c23r19 [2,3,4]) .ret) .skip)
def c23k21 : ACode := (.cond (.t 48) (.seq (.region true c23r17 [2,3,4]) .ret) (.seq (.region true c23r18 [1,2,3,5,6,7,8,9,55]) c23k20))
def c23k22 : ACode := (.cond (.t 42) (.seq (.region true c23r15 [2,3,4]) .ret) (.seq (.region true c23r16 [1,2,3,5,6,7,8,9,48]) c23k21))
def c23k23 : ACode := (.block 1 (.seq (.region true c23r14 [1,2,3,5,6,7,8,9,42]) c23k22))
def c23r24 : List AOper := [
 ⟨some 62,(.load (some 4)),[.t 6],none⟩,
 ⟨some 63,(.load (some 4)),[.t 7],none⟩,
 ⟨some 64,.call,[.c (.pv none (.func (.func 21))),.t 62,.t 63],none⟩,
 ⟨some 10,(.alloc (some 4) (.agg [(none,(.pv none (.int .i64 0))),(none,(.pv none (.int .i64 0))),(none,(.pv none (.str []))),(none,(.tsl (some 4) []))])),[],none⟩,
 ⟨none,(.store (some 4)),[.t 10,.t 64],none⟩]
def c23r25 : List AOper := [
 ⟨some 65,(.load (some 4)),[.t 1],none⟩,
 ⟨some 66,.call,[.c (.pv none (.func (.func 71))),.t 65],none⟩,
 ⟨some 11,.mv,[.t 66],none⟩]
def c23r26 : List AOper := [
 ⟨some 67,.mv,[.t 11],none⟩,
 ⟨some 68,(.bin .gtr),[.t 67,.c (.pv none (.int .i64 1099511627776))],none⟩,
 ⟨some 69,.mv,[.t 68],none⟩,
 ⟨some 70,(.faddr 0),[.t 10],some (69,false)⟩,
 ⟨some 71,(.load none),[.t 70],some (69,false)⟩,
 ⟨some 72,(.bin .eql),[.t 71,.c (.pv none (.int .i64 0))],some (69,false)⟩,
 ⟨some 73,.pick,[.t 69,.c (.pv none (.bool true)),.t 72],none⟩]
def c23r27 : List AOper := [
 ⟨some 74,(.build [(none,(.pv none (.int .i64 0))),(none,(.pv none (.int .i64 0))),(none,(.pv none (.str []))),(none,(.tsl (some 4) []))] []),[],none⟩,
 ⟨some 75,(.build [(none,(.pv none (.int .i64 0))),(none,(.pv none (.int .i64 0))),(none,(.pv none (.str []))),(none,(.tsl (some 4) []))] []),[],none⟩,
 ⟨none,(.store (some 4)),[.t 2,.t 74],none⟩,
 ⟨none,(.store (some 4)),[.t 3,.t 75],none⟩,
 ⟨some 4,.mv,[.c (.pv none (.int .i64 2))],none⟩]
def c23k28 : ACode := (.cond (.t 73) (.seq (.region true c23r27 [2,3,4]) .ret) .skip)
def c23r29 : List AOper := [
 ⟨some 76,.mv,[.t 11],none⟩,
 ⟨some 77,.call,[.c (.pv none (.func (.func 25))),.t 76],none⟩,
 ⟨some 12,(.alloc (some 4) (.agg [(none,(.pv none (.int .i64 0))),(none,(.pv none (.int .i64 0))),(none,(.pv none (.str []))),(none,(.tsl (some 4) []))])),[],none⟩,
 ⟨none,(.store (some 4)),[.t 12,.t 77],none⟩]
def c23r30 : List AOper := [
 ⟨some 78,(.load (some 4)),[.t 10],none⟩,
 ⟨some 79,(.load (some 4)),[.t 6],none⟩,
 ⟨some 80,(.bslicep (some 4)),[.t 78,.t 79],none⟩,
 ⟨some 81,.callp,[.c (.pv none (.func (.func 51))),.c (.pv none (.str [45])),.t 80],none⟩,
 ⟨some 82,(.load (some 4)),[.t 9],none⟩,
 ⟨some 83,(.load (some 4)),[.t 12],none⟩,
 ⟨some 84,(.bslicep (some 4)),[.t 81,.t 82,.t 83],none⟩,
 ⟨some 85,.callp,[.c (.pv none (.func (.func 51))),.c (.pv none (.str [102,105,110,100,97,108,108])),.t 84],none⟩,
 ⟨some 13,(.alloc (some 4) (.agg [(none,(.pv none (.int .i64 0))),(none,(.pv none (.int .i64 0))),(none,(.pv none (.str []))),(none,(.tsl (some 4) []))])),[],none⟩,
 ⟨none,(.store (some 4)),[.t 13,.t 85],none⟩]
def c23r31 : List AOper := [
 ⟨some 86,(.load (some 4)),[.t 13],none⟩,
 ⟨some 87,.mv,[.t 5],none⟩,
 ⟨some 88,(.load (some 4)),[.t 10],none⟩,
 ⟨some 89,(.load (some 4)),[.t 12],none⟩,
 ⟨some 90,(.load (some 4)),[.t 8],none⟩,
 ⟨some 91,(.bslicep (some 4)),[.t 88,.t 89,.t 90],none⟩,
 ⟨some 92,.callp,[.c (.pv none (.func (.func 51))),.t 87,.t 91],none⟩,
 ⟨some 93,(.bslicep (some 4)),[.t 86,.t 92],none⟩,
 ⟨some 94,.callp,[.c (.pv none (.func (.func 51))),.c (.pv none (.str [44])),.t 93],none⟩,
 ⟨none,(.store (some 4)),[.t 2,.t 94],none⟩]
def c23r32 : List AOper := [
 ⟨some 95,(.load (some 4)),[.t 2],none⟩,
 ⟨some 96,.call,[.c (.pv none (.func (.func 45))),.t 95],none⟩,
 ⟨some 97,.not,[.t 96],none⟩]
def c23r33 : List AOper := [
 ⟨some 98,(.build [(none,(.pv none (.int .i64 0))),(none,(.pv none (.int .i64 0))),(none,(.pv none (.str []))),(none,(.tsl (some 4) []))] []),[],none⟩,
 ⟨some 99,(.build [(none,(.pv none (.int .i64 0))),(none,(.pv none (.int .i64 0))),(none,(.pv none (.str []))),(none,(.tsl (some 4) []))] []),[],none⟩,
 ⟨none,(.store (some 4)),[.t 2,.t 98],none⟩,
 ⟨none,(.store (some 4)),[.t 3,.t 99],none⟩,
 ⟨some 4,.mv,[.c (.pv none (.int .i64 2))],none⟩]
def c23k34 : ACode := (.cond (.t 97) (.seq (.region true c23r33 [2,3,4]) .ret) .skip)
def c23r35 : List AOper := [
 ⟨some 100,(.load (some 4)),[.t 2],none⟩,
 ⟨some 101,.call,[.c (.pv none (.func (.func 38))),.t 100],none⟩,
 ⟨some 102,(.build [(none,(.pv none (.int .i64 0))),(none,(.pv none (.int .i64 0))),(none,(.pv none (.str []))),(none,(.tsl (some 4) []))] []),[],none⟩,
 ⟨none,(.store (some 4)),[.t 2,.t 101],none⟩,
 ⟨none,(.store (some 4)),[.t 3,.t 102],none⟩,
 ⟨some 4,.mv,[.c (.pv none (.int .i64 0))],none⟩]
def c23 : ACode := (.seq (.region true c23r0 [1,2,3]) (.seq (.seq (.region true c23r1 [1,2,3,16]) c23k3) (.seq (.region true c23r4 [1,2,3,5]) (.seq c23k11 (.seq (.region true c23r12 [1,2,3,5,6,7,8]) (.seq (.region true c23r13 [1,2,3,5,6,7,8,9]) (.seq c23k23 (.seq (.region true c23r24 [1,2,3,5,6,8,9,10]) (.seq (.region true c23r25 [2,3,5,6,8,9,10,11]) (.seq (.seq (.region true c23r26 [2,3,5,6,8,9,10,11,73]) c23k28) (.seq (.region true c23r29 [2,3,5,6,8,9,10,12]) (.seq (.seq (.settle []) (.region true c23r30 [2,3,5,8,10,12,13])) (.seq (.seq (.settle [5]) (.region true c23r31 [2,3])) (.seq (.seq (.region true c23r32 [2,3,97]) c23k34) (.seq (.region true c23r35 [2,3,4]) .ret)))))))))))))))
def g23 : AFn := ⟨1,[(2,some (some 4)),(3,some (some 4)),(4,none)],c23,false,[],[],none⟩
theorem tr23 : trFn Tryz.prog false 23 Tryz.f23 = some g23 := by kernel_rfl
def c25r0 : List AOper := [
 ⟨some 2,(.alloc (some 4) (.agg [(none,(.pv none (.int .i64 0))),(none,(.pv none (.int .i64 0))),(none,(.pv none (.str []))),(none,(.tsl (some 4) []))])),[],none⟩]
def c25r1 : List AOper := [
 ⟨some 3,.mv,[.t 0],none⟩,
 ⟨some 4,.call,[.c (.pv none (.func (.func 74))),.t 3],none⟩,
 ⟨some 5,.not,[.t 4],none⟩]
def c25r2 : List AOper := [
 ⟨some 6,(.build [(none,(.pv none (.int .i64 0))),(none,(.pv none (.int .i64 0))),(none,(.pv none (.str []))),(none,(.tsl (some 4) []))] []),[],none⟩,
 ⟨none,(.store (some 4)),[.t 2,.t 6],none⟩]
def c25k3 : ACode := (.cond (.t 5) (.seq (.region true c25r2 [2]) .ret) .skip)
def c25r4 : List AOper := [
 ⟨some 7,.mv,[.t 0],none⟩,
 ⟨some 8,(.build [(none,(.pv none (.int .i64 0))),(none,(.pv none (.int .i64 0))),(none,(.pv none (.str []))),(none,(.tsl (some 4) []))] [1]),[.t 7],none⟩,
 ⟨none,(.store (some 4)),[.t 2,.t 8],none⟩]
def c25 : ACode := (.seq (.region true c25r0 [0,2]) (.seq (.seq (.region true c25r1 [0,2,5]) c25k3) (.seq (.region true c25r4 [2]) .ret)))
def g25 : AFn := ⟨1,[(2,some (some 4))],c25,false,[],[],none⟩
theorem tr25 : trFn Tryz.prog false 25 Tryz.f25 = some g25 := by kernel_rfl
def c26r0 : List AOper := [
 ⟨some 4,(.alloc (some 4) (.agg [(none,(.pv none (.int .i64 0))),(none,(.pv none (.int .i64 0))),(none,(.pv none (.str []))),(none,(.tsl (some 4) []))])),[],none⟩]
def c26r1 : List AOper := [
 ⟨some 5,.mv,[.t 1],none⟩,
 ⟨some 6,.len,[.t 5],none⟩,
 ⟨some 7,(.bin .eql),[.t 6,.c (.pv none (.int .i64 0))],none⟩]
def c26r2 : List AOper := [
 ⟨some 8,.mv,[.t 0],none⟩,
 ⟨some 9,.call,[.c (.pv none (.func (.func 28))),.t 8],none⟩,
 ⟨none,(.store (some 4)),[.t 4,.t 9],none⟩]
def c26k3 : ACode := (.cond (.t 7) (.seq (.region true c26r2 [4]) .ret) .skip)
def c26r4 : List AOper := [
 ⟨some 10,.mv,[.t 0],none⟩,
 ⟨some 11,.mv,[.t 1],none⟩,
 ⟨some 12,(.build [(none,(.pv none (.int .i64 0))),(none,(.pv none (.int .i64 0))),(none,(.pv none (.str []))),(none,(.tsl (some 4) []))] [0,2,3]),[.c (.pv none (.int .i64 3)),.t 10,.t 11],none⟩,
 ⟨some 13,.call,[.c (.pv none (.func (.func 38))),.t 12],none⟩,
 ⟨none,(.store (some 4)),[.t 4,.t 13],none⟩]
def c26 : ACode := (.seq (.region true c26r0 [0,1,4]) (.seq (.seq (.region true c26r1 [0,1,4,7]) c26k3) (.seq (.region true c26r4 [4]) .ret)))
def g26 : AFn := ⟨2,[(4,some (some 4))],c26,false,[],[],none⟩
theorem tr26 : trFn Tryz.prog false 26 Tryz.f26 = some g26 := by kernel_rfl
def c27r0 : List AOper := [
 ⟨some 2,(.box (some 4)),[.t 0],none⟩,
 ⟨some 3,(.box (some 4)),[.t 1],none⟩,
 ⟨some 4,.mv,[.c (.pv none (.bool false))],none⟩]
def c27r1 : List AOper := [
 ⟨some 5,(.load (some 4)),[.t 2],none⟩,
 ⟨some 6,.call,[.c (.pv none (.func (.func 43))),.t 5],none⟩,
 ⟨some 7,.mv,[.t 6],none⟩,
 ⟨some 8,(.load (some 4)),[.t 3],some (7,true)⟩,
 ⟨some 9,.call,[.c (.pv none (.func (.func 43))),.t 8],some (7,true)⟩,
 ⟨some 10,.pick,[.t 7,.t 9,.c (.pv none (.bool false))],none⟩,
 ⟨some 11,.mv,[.t 10],none⟩,
 ⟨some 12,(.load (some 4)),[.t 2],some (11,true)⟩,
 ⟨some 13,(.load (some 4)),[.t 3],some (11,true)⟩,
 ⟨some 14,.call,[.c (.pv none (.func (.func 75))),.t 12,.t 13],some (11,true)⟩,
 ⟨some 15,.pick,[.t 11,.t 14,.c (.pv none (.bool false))],none⟩,
 ⟨some 4,.mv,[.t 15],none⟩]
def c27 : ACode := (.seq (.region true c27r0 [2,3]) (.seq (.region true c27r1 [4]) .ret))
def g27 : AFn := ⟨2,[(4,none)],c27,false,[],[],none⟩
theorem tr27 : trFn Tryz.prog false 27 Tryz.f27 = some g27 := by kernel_rfl
def c28r0 : List AOper := [
 ⟨some 2,(.alloc (some 4) (.agg [(none,(.pv none (.int .i64 0))),(none,(.pv none (.int .i64 0))),(none,(.pv none (.str []))),(none,(.tsl (some 4) []))])),[],none⟩]
def c28r1 : List AOper := [
 ⟨some 3,.mv,[.t 0],none⟩,
 ⟨some 4,(.build [(none,(.pv none (.int .i64 0))),(none,(.pv none (.int .i64 0))),(none,(.pv none (.str []))),(none,(.tsl (some 4) []))] [0,2]),[.c (.pv none (.int .i64 2)),.t 3],none⟩,
 ⟨some 5,.call,[.c (.pv none (.func (.func 38))),.t 4],none⟩,
 ⟨none,(.store (some 4)),[.t 2,.t 5],none⟩]
def c28 : ACode := (.seq (.region true c28r0 [0,2]) (.seq (.region true c28r1 [2]) .ret))
def g28 : AFn := ⟨1,[(2,some (some 4))],c28,false,[],[],none⟩
theorem tr28 : trFn Tryz.prog false 28 Tryz.f28 = some g28 := by kernel_rfl
def c29r0 : List AOper := [
 ⟨some 2,(.box (some 4)),[.t 0],none⟩,
 ⟨some 3,(.box (some 4)),[.t 1],none⟩,
 ⟨some 4,(.alloc (some 4) (.agg [(none,(.pv none (.int .i64 0))),(none,(.pv none (.int .i64 0))),(none,(.pv none (.str []))),(none,(.tsl (some 4) []))])),[],none⟩]
def c29r1 : List AOper := [
 ⟨some 5,(.load (some 4)),[.t 2],none⟩,
 ⟨some 6,(.load (some 4)),[.t 3],none⟩,
 ⟨some 7,(.bslice (some 4)),[.t 5,.t 6],none⟩,
 ⟨some 8,.call,[.c (.pv none (.func (.func 26))),.c (.pv none (.str [45])),.t 7],none⟩,
 ⟨none,(.store (some 4)),[.t 4,.t 8],none⟩]
def c29 : ACode := (.seq (.region true c29r0 [2,3,4]) (.seq (.region true c29r1 [4]) .ret))
def g29 : AFn := ⟨2,[(4,some (some 4))],c29,false,[],[],none⟩
theorem tr29 : trFn Tryz.prog false 29 Tryz.f29 = some g29 := by kernel_rfl
def c30r0 : List AOper := [
 ⟨some 2,(.alloc (some 4) (.agg [(none,(.pv none (.int .i64 0))),(none,(.pv none (.int .i64 0))),(none,(.pv none (.str []))),(none,(.tsl (some 4) []))])),[],none⟩]
def c30r1 : List AOper := [
 ⟨some 3,.mv,[.t 0],none⟩,
 ⟨some 4,(.build [(none,(.pv none (.int .i64 0))),(none,(.pv none (.int .i64 0))),(none,(.pv none (.str []))),(none,(.tsl (some 4) []))] [0,1]),[.c (.pv none (.int .i64 1)),.t 3],none⟩,
 ⟨none,(.store (some 4)),[.t 2,.t 4],none⟩]
def c30 : ACode := (.seq (.region true c30r0 [0,2]) (.seq (.region true c30r1 [2]) .ret))
def g30 : AFn := ⟨1,[(2,some (some 4))],c30,false,[],[],none⟩
theorem tr30 : trFn Tryz.prog false 30 Tryz.f30 = some g30 := by kernel_rfl
def c31r0 : List AOper := [
 ⟨some 2,(.alloc (some 4) (.agg [(none,(.pv none (.int .i64 0))),(none,(.pv none (.int .i64 0))),(none,(.pv none (.str []))),(none,(.tsl (some 4) []))])),[],none⟩]
def c31r1 : List AOper := [
 ⟨some 3,.mv,[.t 0],none⟩,
 ⟨some 4,.call,[.c (.pv none (.func (.func 28))),.c (.pv none (.str [91,93]))],none⟩,
 ⟨some 5,.call,[.c (.pv none (.func (.func 76))),.t 3,.t 4],none⟩,
 ⟨none,(.store (some 4)),[.t 2,.t 5],none⟩]
def c31 : ACode := (.seq (.region true c31r0 [0,2]) (.seq (.region true c31r1 [2]) .ret))
def g31 : AFn := ⟨1,[(2,some (some 4))],c31,false,[],[],none⟩
theorem tr31 : trFn Tryz.prog false 31 Tryz.f31 = some g31 := by kernel_rfl
def c32r0 : List AOper := [
 ⟨some 0,(.alloc (some 4) (.agg [(none,(.pv none (.int .i64 0))),(none,(.pv none (.int .i64 0))),(none,(.pv none (.str []))),(none,(.tsl (some 4) []))])),[],none⟩]
def c32r1 : List AOper := [
 ⟨some 1,.call,[.c (.pv none (.func (.func 78))),.c (.pv none (.str [105,110,115,116,97,110,116,105,97,116,105,111,110,95,101,114,114,111,114]))],none⟩,
 ⟨some 2,.call,[.c (.pv none (.func (.func 77))),.t 1],none⟩,
 ⟨none,(.store (some 4)),[.t 0,.t 2],none⟩]
def c32 : ACode := (.seq (.region true c32r0 [0]) (.seq (.region true c32r1 [0]) .ret))
def g32 : AFn := ⟨0,[(0,some (some 4))],c32,false,[],[],none⟩
theorem tr32 : trFn Tryz.prog false 32 Tryz.f32 = some g32 := by kernel_rfl
def c33r0 : List AOper := [
 ⟨some 3,(.box (some 4)),[.t 1],none⟩,
 ⟨some 4,(.alloc (some 4) (.agg [(none,(.pv none (.int .i64 0))),(none,(.pv none (.int .i64 0))),(none,(.pv none (.str []))),(none,(.tsl (some 4) []))])),[],none⟩]
def c33r1 : List AOper := [
 ⟨some 5,(.load (some 4)),[.t 3],none⟩,
 ⟨some 6,.mv,[.t 0],none⟩,
 ⟨some 7,(.bslice none),[.t 6],none⟩,
 ⟨some 8,.call,[.c (.pv none (.func (.func 79))),.t 5,.c (.pv none (.str [116,121,112,101,95,101,114,114,111,114])),.t 7],none⟩,
 ⟨none,(.store (some 4)),[.t 4,.t 8],none⟩]
def c33 : ACode := (.seq (.region true c33r0 [0,3,4]) (.seq (.region true c33r1 [4]) .ret))
def g33 : AFn := ⟨2,[(4,some (some 4))],c33,false,[],[],none⟩
theorem tr33 : trFn Tryz.prog false 33 Tryz.f33 = some g33 := by kernel_rfl
def c34r0 : List AOper := [
 ⟨some 2,(.nilsl (some 4)),[],none⟩,
 ⟨some 3,.mv,[.c (.pv none (.int .i64 0))],none⟩]
def c34r1 : List AOper := [
 ⟨some 6,.mv,[.t 0],none⟩,
 ⟨some 7,.call,[.c (.pv none (.func (.func 80))),.t 6],none⟩,
 ⟨some 8,.not,[.t 7],none⟩]
def c34r2 : List AOper := [
 ⟨some 2,(.nilsl (some 4)),[],none⟩,
 ⟨some 3,.mv,[.c (.pv none (.int .i64 1))],none⟩]
def c34k3 : ACode := (.cond (.t 8) (.seq (.region true c34r2 [2,3]) .ret) .skip)
def c34r4 : List AOper := [
 ⟨some 9,.mv,[.t 0],none⟩,
 ⟨some 10,.len,[.t 9],none⟩,
 ⟨some 11,.mv,[.c (.pv none (.int .i64 0))],none⟩]
def c34r5 : List AOper := [
 ⟨some 12,(.bin .lss),[.t 11,.t 10],none⟩]
def c34k6 : ACode := (.cond (.t 12) .skip (.exit 0))
def c34r7 : List AOper := [
 ⟨some 13,(.iaddr (some 4)),[.t 9,.t 11],none⟩,
 ⟨some 14,(.load (some 4)),[.t 13],none⟩,
 ⟨some 5,(.alloc (some 4) (.agg [(none,(.pv none (.int .i64 0))),(none,(.pv none (.int .i64 0))),(none,(.pv none (.str []))),(none,(.tsl (some 4) []))])),[],none⟩,
 ⟨none,(.store (some 4)),[.t 5,.t 14],none⟩]
def c34r8 : List AOper := [
 ⟨some 15,(.faddr 0),[.t 5],none⟩,
 ⟨some 16,(.load none),[.t 15],none⟩,
 ⟨some 17,(.bin .neq),[.t 16,.c (.pv none (.int .i64 3))],none⟩,
 ⟨some 18,.mv,[.t 17],none⟩,
 ⟨some 19,(.faddr 2),[.t 5],some (18,false)⟩,
 ⟨some 20,(.load none),[.t 19],some (18,false)⟩,
 ⟨some 21,(.bin .neq),[.t 20,.c (.pv none (.str [45]))],some (18,false)⟩,
 ⟨some 22,.pick,[.t 18,.c (.pv none (.bool true)),.t 21],none⟩,
 ⟨some 23,.mv,[.t 22],none⟩,
 ⟨some 24,(.faddr 3),[.t 5],some (23,false)⟩,
 ⟨some 25,(.load none),[.t 24],some (23,false)⟩,
 ⟨some 26,.len,[.t 25],some (23,false)⟩,
 ⟨some 27,(.bin .neq),[.t 26,.c (.pv none (.int .i64 2))],some (23,false)⟩,
 ⟨some 28,.pick,[.t 23,.c (.pv none (.bool true)),.t 27],none⟩]
def c34r9 : List AOper := [
 ⟨some 2,(.nilsl (some 4)),[],none⟩,
 ⟨some 3,.mv,[.c (.pv none (.int .i64 3))],none⟩]
def c34k10 : ACode := (.cond (.t 28) (.seq (.region true c34r9 [2,3]) .ret) .skip)
def c34k11 : ACode := (.block 1 (.seq (.region true c34r7 [0,5,9,10,11]) (.seq (.region true c34r8 [0,9,10,11,28]) c34k10)))
def c34r12 : List AOper := [
 ⟨some 29,(.bin .add),[.t 11,.c (.pv none (.int .i64 1))],none⟩,
 ⟨some 11,.mv,[.t 29],none⟩]
def c34b13 : ACode := (.seq (.region true c34r5 [0,9,10,11,12]) (.seq c34k6 (.seq c34k11 (.region true c34r12 [0,9,10,11]))))
def c34k14 : ACode := (.block 0 (.loop [0,9,10,11] c34b13))
def c34r15 : List AOper := [
 ⟨some 30,.mv,[.t 0],none⟩,
 ⟨some 31,.call,[.c (.pv none (.func (.func 81))),.t 30,.c (.pv none (.func (.func 82)))],none⟩,
 ⟨some 2,.mv,[.t 31],none⟩,
 ⟨some 3,.mv,[.c (.pv none (.int .i64 0))],none⟩]
def c34 : ACode := (.seq (.region true c34r0 [0]) (.seq (.seq (.region true c34r1 [0,8]) c34k3) (.seq (.seq (.region true c34r4 [0,9,10,11]) c34k14) (.seq (.region true c34r15 [2,3]) .ret))))
def g34 : AFn := ⟨1,[(2,none),(3,none)],c34,true,[],[],none⟩
theorem tr34 : trFn Tryz.prog true 34 Tryz.f34 = some g34 := by kernel_rfl
def c35r0 : List AOper := [
 ⟨some 2,(.box (some 4)),[.t 0],none⟩,
 ⟨some 3,.mv,[.c (.pv none (.bool false))],none⟩]
def c35r1 : List AOper := [
 ⟨some 4,(.faddr 3),[.t 2],none⟩,
 ⟨some 5,(.load none),[.t 4],none⟩,
 ⟨some 6,(.iaddr (some 4)),[.t 5,.c (.pv none (.int .i64 0))],none⟩,
 ⟨some 7,(.load (some 4)),[.t 6],none⟩,
 ⟨some 8,(.load (some 4)),[.t 1],none⟩,
 ⟨some 9,.call,[.c (.pv none (.func (.func 36))),.t 7,.t 8],none⟩,
 ⟨some 3,.mv,[.t 9],none⟩]
def c35 : ACode := (.seq (.region true c35r0 [1,2]) (.seq (.region true c35r1 [3]) .ret))
def g35 : AFn := ⟨2,[(3,none)],c35,true,[],[],none⟩
theorem tr35 : trFn Tryz.prog true 35 Tryz.f35 = some g35 := by kernel_rfl
def c36r0 : List AOper := [
 ⟨some 2,(.box (some 4)),[.t 0],none⟩,
 ⟨some 3,(.box (some 4)),[.t 1],none⟩,
 ⟨some 4,.mv,[.c (.pv none (.bool false))],none⟩]
def c36r1 : List AOper := [
 ⟨some 5,(.load (some 4)),[.t 2],none⟩,
 ⟨some 6,.callp,[.c (.pv none (.func (.func 45))),.t 5],none⟩,
 ⟨some 7,.mv,[.t 6],none⟩,
 ⟨some 8,(.load (some 4)),[.t 3],some (7,true)⟩,
 ⟨some 9,.callp,[.c (.pv none (.func (.func 45))),.t 8],some (7,true)⟩,
 ⟨some 10,.pick,[.t 7,.t 9,.c (.pv none (.bool false))],none⟩,
 ⟨some 11,.mv,[.t 10],none⟩,
 ⟨some 12,(.load (some 4)),[.t 2],some (11,true)⟩,
 ⟨some 13,.callp,[.c (.pv none (.func (.func 47))),.t 12],some (11,true)⟩,
 ⟨some 14,(.load (some 4)),[.t 3],some (11,true)⟩,
 ⟨some 15,.callp,[.c (.pv none (.func (.func 47))),.t 14],some (11,true)⟩,
 ⟨some 16,.callp,[.c (.pv none (.func (.func 84))),.t 13,.t 15],some (11,true)⟩,
 ⟨some 17,.pick,[.t 11,.t 16,.c (.pv none (.bool false))],none⟩,
 ⟨some 4,.mv,[.t 17],none⟩]
def c36 : ACode := (.seq (.region true c36r0 [2,3]) (.seq (.seq (.settle [2,3]) (.region true c36r1 [4])) .ret))
def g36 : AFn := ⟨2,[(4,none)],c36,false,[],[],none⟩
theorem tr36 : trFn Tryz.prog false 36 Tryz.f36 = some g36 := by kernel_rfl
def c37r0 : List AOper := [
 ⟨some 2,(.alloc (some 4) (.agg [(none,(.pv none (.int .i64 0))),(none,(.pv none (.int .i64 0))),(none,(.pv none (.str []))),(none,(.tsl (some 4) []))])),[],none⟩,
 ⟨some 3,.mv,[.c (.pv none (.int .i64 0))],none⟩]
def c37r1 : List AOper := [
 ⟨some 19,.mv,[.t 0],none⟩,
 ⟨some 20,(.iaddr (some 4)),[.t 19,.c (.pv none (.int .i64 0))],none⟩,
 ⟨some 21,(.faddr 3),[.t 20],none⟩,
 ⟨some 22,(.load none),[.t 21],none⟩,
 ⟨some 23,(.iaddr (some 4)),[.t 22,.c (.pv none (.int .i64 0))],none⟩,
 ⟨some 24,(.load (some 4)),[.t 23],none⟩,
 ⟨some 4,(.alloc (some 4) (.agg [(none,(.pv none (.int .i64 0))),(none,(.pv none (.int .i64 0))),(none,(.pv none (.str []))),(none,(.tsl (some 4) []))])),[],none⟩,
 ⟨none,(.store (some 4)),[.t 4,.t 24],none⟩]
def c37r2 : List AOper := [
 ⟨some 5,(.nilsl (some 5)),[],none⟩]
def c37r3 : List AOper := [
 ⟨some 6,(.nilsl (some 4)),[],none⟩]
def c37r4 : List AOper := [
 ⟨some 25,.mv,[.t 0],none⟩,
 ⟨some 26,.len,[.t 25],none⟩,
 ⟨some 27,.mv,[.c (.pv none (.int .i64 0))],none⟩]
def c37r5 : List AOper := [
 ⟨some 28,(.bin .lss),[.t 27,.t 26],none⟩]
def c37k6 : ACode := (.cond (.t 28) .skip (.exit 0))
def c37r7 : List AOper := [
 ⟨some 29,.mv,[.t 27],none⟩,
 ⟨some 30,(.iaddr (some 4)),[.t 25,.t 27],none⟩,
 ⟨some 31,(.load (some 4)),[.t 30],none⟩,
 ⟨some 8,(.alloc (some 4) (.agg [(none,(.pv none (.int .i64 0))),(none,(.pv none (.int .i64 0))),(none,(.pv none (.str []))),(none,(.tsl (some 4) []))])),[],none⟩,
 ⟨some 7,.mv,[.t 29],none⟩,
 ⟨none,(.store (some 4)),[.t 8,.t 31],none⟩]
def c37r8 : List AOper := [
 ⟨some 32,.mv,[.t 6],none⟩,
 ⟨some 33,(.faddr 3),[.t 8],none⟩,
 ⟨some 34,(.load none),[.t 33],none⟩,
 ⟨some 35,(.iaddr (some 4)),[.t 34,.c (.pv none (.int .i64 1))],none⟩,
 ⟨some 36,(.load (some 4)),[.t 35],none⟩,
 ⟨some 37,(.bslice (some 4)),[.t 36],none⟩,
 ⟨some 38,(.append (some 4)),[.t 32,.t 37],none⟩,
 ⟨some 6,.mv,[.t 38],none⟩]
def c37r9 : List AOper := [
 ⟨some 39,.mv,[.t 7],none⟩,
 ⟨some 40,(.bin .eql),[.t 39,.c (.pv none (.int .i64 0))],none⟩]
def c37k10 : ACode := (.cond (.t 40) (.exit 1) .skip)
def c37r11 : List AOper := [
 ⟨some 42,.mv,[.t 5],none⟩,
 ⟨some 43,(.faddr 3),[.t 8],none⟩,
 ⟨some 44,(.load none),[.t 43],none⟩,
 ⟨some 45,(.iaddr (some 4)),[.t 44,.c (.pv none (.int .i64 0))],none⟩,
 ⟨some 46,(.load (some 4)),[.t 45],none⟩,
 ⟨some 47,(.load (some 4)),[.t 4],none⟩,
 ⟨some 48,.call,[.c (.pv none (.func (.func 85))),.t 42,.t 46,.t 47],none⟩,
 ⟨some 41,.mv,[.t 48],none⟩,
 ⟨some 49,(.extract 0),[.t 41],none⟩,
 ⟨some 50,(.extract 1),[.t 41],none⟩,
 ⟨some 9,.mv,[.t 49],none⟩,
 ⟨some 10,.mv,[.t 50],none⟩]
def c37r12 : List AOper := [
 ⟨some 51,.mv,[.t 10],none⟩,
 ⟨some 52,(.bin .neq),[.t 51,.c (.pv none (.int .i64 0))],none⟩]
def c37r13 : List AOper := [
 ⟨some 53,(.build [(none,(.pv none (.int .i64 0))),(none,(.pv none (.int .i64 0))),(none,(.pv none (.str []))),(none,(.tsl (some 4) []))] []),[],none⟩,
 ⟨some 54,.mv,[.t 10],none⟩,
 ⟨none,(.store (some 4)),[.t 2,.t 53],none⟩,
 ⟨some 3,.mv,[.t 54],none⟩]
def c37k14 : ACode := (.cond (.t 52) (.seq (.region true c37r13 [2,3]) .ret) .skip)
def c37r15 : List AOper := [
 ⟨some 55,.mv,[.t 9],none⟩,
 ⟨some 5,.mv,[.t 55],none⟩]
def c37k16 : ACode := (.block 1 (.seq (.region true c37r7 [2,4,5,6,7,8,25,26,27]) (.seq (.region true c37r8 [2,4,5,6,7,8,25,26,27]) (.seq (.seq (.region true c37r9 [2,4,5,6,8,25,26,27,40]) c37k10) (.seq (.region true c37r11 [2,4,6,9,10,25,26,27]) (.seq (.seq (.region true c37r12 [2,4,6,9,10,25,26,27,52]) c37k14) (.region true c37r15 [2,4,5,6,25,26,27])))))))
def c37r17 : List AOper := [
 ⟨some 56,(.bin .add),[.t 27,.c (.pv none (.int .i64 1))],none⟩,
 ⟨some 27,.mv,[.t 56],none⟩]
def c37b18 : ACode := (.seq (.region true c37r5 [2,4,5,6,25,26,27,28]) (.seq c37k6 (.seq c37k16 (.region true c37r17 [2,4,5,6,25,26,27]))))
def c37k19 : ACode := (.block 0 (.loop [2,4,5,6,25,26,27] c37b18))
def c37r20 : List AOper := [
 ⟨some 58,.mv,[.t 5],none⟩,
 ⟨some 59,(.load (some 4)),[.t 4],none⟩,
 ⟨some 60,.call,[.c (.pv none (.func (.func 86))),.t 58,.t 59],none⟩,
 ⟨some 57,.mv,[.t 60],none⟩,
 ⟨some 61,(.extract 0),[.t 57],none⟩,
 ⟨some 62,(.extract 1),[.t 57],none⟩,
 ⟨some 11,(.alloc (some 4) (.agg [(none,(.pv none (.int .i64 0))),(none,(.pv none (.int .i64 0))),(none,(.pv none (.str []))),(none,(.tsl (some 4) []))])),[],none⟩,
 ⟨none,(.store (some 4)),[.t 11,.t 61],none⟩,
 ⟨some 12,.mv,[.t 62],none⟩]
def c37r21 : List AOper := [
 ⟨some 63,.mv,[.t 12],none⟩,
 ⟨some 64,(.bin .neq),[.t 63,.c (.pv none (.int .i64 0))],none⟩]
def c37r22 : List AOper := [
 ⟨some 65,(.build [(none,(.pv none (.int .i64 0))),(none,(.pv none (.int .i64 0))),(none,(.pv none (.str []))),(none,(.tsl (some 4) []))] []),[],none⟩,
 ⟨some 66,.mv,[.t 12],none⟩,
 ⟨none,(.store (some 4)),[.t 2,.t 65],none⟩,
 ⟨some 3,.mv,[.t 66],none⟩]
def c37k23 : ACode := (.cond (.t 64) (.seq (.region true c37r22 [2,3]) .ret) .skip)
def c37r24 : List AOper := [
 ⟨some 13,(.nilsl (some 4)),[],none⟩]
def c37r25 : List AOper := [
 ⟨some 67,.mv,[.t 6],none⟩,
 ⟨some 68,.len,[.t 67],none⟩,
 ⟨some 69,.mv,[.c (.pv none (.int .i64 0))],none⟩]
def c37r26 : List AOper := [
 ⟨some 70,(.bin .lss),[.t 69,.t 68],none⟩]
def c37k27 : ACode := (.cond (.t 70) .skip (.exit 2))
def c37r28 : List AOper := [
 ⟨some 71,(.iaddr (some 4)),[.t 67,.t 69],none⟩,
 ⟨some 72,(.load (some 4)),[.t 71],none⟩,
 ⟨some 15,(.alloc (some 4) (.agg [(none,(.pv none (.int .i64 0))),(none,(.pv none (.int .i64 0))),(none,(.pv none (.str []))),(none,(.tsl (some 4) []))])),[],none⟩,
 ⟨none,(.store (some 4)),[.t 15,.t 72],none⟩]
def c37r29 : List AOper := [
 ⟨some 74,.mv,[.t 5],none⟩,
 ⟨some 75,(.load (some 4)),[.t 15],none⟩,
 ⟨some 76,.call,[.c (.pv none (.func (.func 86))),.t 74,.t 75],none⟩,
 ⟨some 73,.mv,[.t 76],none⟩,
 ⟨some 77,(.extract 0),[.t 73],none⟩,
 ⟨some 78,(.extract 1),[.t 73],none⟩,
 ⟨some 16,(.alloc (some 4) (.agg [(none,(.pv none (.int .i64 0))),(none,(.pv none (.int .i64 0))),(none,(.pv none (.str []))),(none,(.tsl (some 4) []))])),[],none⟩,
 ⟨none,(.store (some 4)),[.t 16,.t 77],none⟩,
 ⟨some 17,.mv,[.t 78],none⟩]
def c37r30 : List AOper := [
 ⟨some 79,.mv,[.t 17],none⟩,
 ⟨some 80,(.bin .neq),[.t 79,.c (.pv none (.int .i64 0))],none⟩]
def c37r31 : List AOper := [
 ⟨some 81,(.build [(none,(.pv none (.int .i64 0))),(none,(.pv none (.int .i64 0))),(none,(.pv none (.str []))),(none,(.tsl (some 4) []))] []),[],none⟩,
 ⟨some 82,.mv,[.t 17],none⟩,
 ⟨none,(.store (some 4)),[.t 2,.t 81],none⟩,
 ⟨some 3,.mv,[.t 82],none⟩]
def c37k32 : ACode := (.cond (.t 80) (.seq (.region true c37r31 [2,3]) .ret) .skip)
def c37r33 : List AOper := [
 ⟨some 83,.mv,[.t 13],none⟩,
 ⟨some 84,(.load (some 4)),[.t 16],none⟩,
 ⟨some 85,(.bslice (some 4)),[.t 84],none⟩,
 ⟨some 86,(.append (some 4)),[.t 83,.t 85],none⟩,
 ⟨some 13,.mv,[.t 86],none⟩]
def c37k34 : ACode := (.block 3 (.seq (.region true c37r28 [2,5,11,13,15,67,68,69]) (.seq (.region true c37r29 [2,5,11,13,16,17,67,68,69]) (.seq (.seq (.region true c37r30 [2,5,11,13,16,17,67,68,69,80]) c37k32) (.region true c37r33 [2,5,11,13,67,68,69])))))
def c37r35 : List AOper := [
 ⟨some 87,(.bin .add),[.t 69,.c (.pv none (.int .i64 1))],none⟩,
 ⟨some 69,.mv,[.t 87],none⟩]
def c37b36 : ACode := (.seq (.region true c37r26 [2,5,11,13,67,68,69,70]) (.seq c37k27 (.seq c37k34 (.region true c37r35 [2,5,11,13,67,68,69]))))
def c37k37 : ACode := (.block 2 (.loop [2,5,11,13,67,68,69] c37b36))
def c37r38 : List AOper := [
 ⟨some 88,(.load (some 4)),[.t 11],none⟩,
 ⟨some 89,.mv,[.t 13],none⟩,
 ⟨some 90,.callp,[.c (.pv none (.func (.func 52))),.t 89],none⟩,
 ⟨some 91,(.bslicep (some 4)),[.t 88,.t 90],none⟩,
 ⟨some 92,.callp,[.c (.pv none (.func (.func 51))),.c (.pv none (.str [45])),.t 91],none⟩,
 ⟨some 18,(.alloc (some 4) (.agg [(none,(.pv none (.int .i64 0))),(none,(.pv none (.int .i64 0))),(none,(.pv none (.str []))),(none,(.tsl (some 4) []))])),[],none⟩,
 ⟨none,(.store (some 4)),[.t 18,.t 92],none⟩]
def c37r39 : List AOper := [
 ⟨some 93,(.load (some 4)),[.t 18],none⟩,
 ⟨some 94,.call,[.c (.pv none (.func (.func 87))),.t 93],none⟩,
 ⟨some 95,(.bin .gtr),[.t 94,.c (.pv none (.int .i64 2000))],none⟩]
def c37r40 : List AOper := [
 ⟨some 96,(.build [(none,(.pv none (.int .i64 0))),(none,(.pv none (.int .i64 0))),(none,(.pv none (.str []))),(none,(.tsl (some 4) []))] []),[],none⟩,
 ⟨none,(.store (some 4)),[.t 2,.t 96],none⟩,
 ⟨some 3,.mv,[.c (.pv none (.int .i64 2))],none⟩]
def c37k41 : ACode := (.cond (.t 95) (.seq (.region true c37r40 [2,3]) .ret) .skip)
def c37r42 : List AOper := [
 ⟨some 97,(.load (some 4)),[.t 18],none⟩,
 ⟨none,(.store (some 4)),[.t 2,.t 97],none⟩,
 ⟨some 3,.mv,[.c (.pv none (.int .i64 0))],none⟩]
def c37 : ACode := (.seq (.region true c37r0 [0,2]) (.seq (.region true c37r1 [0,2,4]) (.seq (.region true c37r2 [0,2,4,5]) (.seq (.region true c37r3 [0,2,4,5,6]) (.seq (.seq (.region true c37r4 [2,4,5,6,25,26,27]) c37k19) (.seq (.region true c37r20 [2,5,6,11,12]) (.seq (.seq (.region true c37r21 [2,5,6,11,12,64]) c37k23) (.seq (.region true c37r24 [2,5,6,11,13]) (.seq (.seq (.region true c37r25 [2,5,11,13,67,68,69]) c37k37) (.seq (.seq (.settle [13]) (.region true c37r38 [2,18])) (.seq (.seq (.region true c37r39 [2,18,95]) c37k41) (.seq (.region true c37r42 [2,3]) .ret))))))))))))
def g37 : AFn := ⟨1,[(2,some (some 4)),(3,none)],c37,false,[],[],none⟩
theorem tr37 : trFn Tryz.prog false 37 Tryz.f37 = some g37 := by kernel_rfl
def c38r0 : List AOper := [
 ⟨some 1,(.box (some 4)),[.t 0],none⟩,
 ⟨some 2,(.alloc (some 4) (.agg [(none,(.pv none (.int .i64 0))),(none,(.pv none (.int .i64 0))),(none,(.pv none (.str []))),(none,(.tsl (some 4) []))])),[],none⟩]
def c38r1 : List AOper := [
 ⟨some 3,(.load (some 4)),[.t 1],none⟩,
 ⟨some 4,.call,[.c (.pv none (.func (.func 45))),.t 3],none⟩,
 ⟨some 5,.not,[.t 4],none⟩]
def c38r2 : List AOper := [
 ⟨some 6,(.build [(none,(.pv none (.int .i64 0))),(none,(.pv none (.int .i64 0))),(none,(.pv none (.str []))),(none,(.tsl (some 4) []))] []),[],none⟩,
 ⟨none,(.store (some 4)),[.t 2,.t 6],none⟩]
def c38k3 : ACode := (.cond (.t 5) (.seq (.region true c38r2 [2]) .ret) .skip)
def c38r4 : List AOper := [
 ⟨some 7,(.load (some 4)),[.t 1],none⟩,
 ⟨some 8,.call,[.c (.pv none (.func (.func 88))),.t 7,.c (.pv none (.func (.func 89)))],none⟩,
 ⟨none,(.store (some 4)),[.t 2,.t 8],none⟩]
def c38 : ACode := (.seq (.region true c38r0 [1,2]) (.seq (.seq (.region true c38r1 [1,2,5]) c38k3) (.seq (.region true c38r4 [2]) .ret)))
def g38 : AFn := ⟨1,[(2,some (some 4))],c38,false,[],[],none⟩
theorem tr38 : trFn Tryz.prog false 38 Tryz.f38 = some g38 := by kernel_rfl
def c41r0 : List AOper := [
 ⟨some 4,(.alloc (some 4) (.agg [(none,(.pv none (.int .i64 0))),(none,(.pv none (.int .i64 0))),(none,(.pv none (.str []))),(none,(.tsl (some 4) []))])),[],none⟩]
def c41r1 : List AOper := [
 ⟨some 5,.mv,[.t 0],none⟩,
 ⟨some 6,.mv,[.t 1],none⟩,
 ⟨some 7,(.build [(none,(.pv none (.int .i64 0))),(none,(.pv none (.int .i64 0))),(none,(.pv none (.str []))),(none,(.tsl (some 4) []))] [0,2,3]),[.c (.pv none (.int .i64 3)),.t 5,.t 6],none⟩,
 ⟨none,(.store (some 4)),[.t 4,.t 7],none⟩]
def c41 : ACode := (.seq (.region true c41r0 [0,1,4]) (.seq (.region true c41r1 [4]) .ret))
def g41 : AFn := ⟨2,[(4,some (some 4))],c41,false,[],[],none⟩
theorem tr41 : trFn Tryz.prog false 41 Tryz.f41 = some g41 := by kernel_rfl
def c42r0 : List AOper := [
 ⟨some 2,(.alloc (some 4) (.agg [(none,(.pv none (.int .i64 0))),(none,(.pv none (.int .i64 0))),(none,(.pv none (.str []))),(none,(.tsl (some 4) []))])),[],none⟩]
def c42r1 : List AOper := [
 ⟨some 5,(.build [(none,(.pv none (.int .i64 0))),(none,(.pv none (.int .i64 0))),(none,(.pv none (.str []))),(none,(.tsl (some 4) []))] [0,2]),[.c (.pv none (.int .i64 2)),.c (.pv none (.str [91,93]))],none⟩,
 ⟨some 3,(.alloc (some 4) (.agg [(none,(.pv none (.int .i64 0))),(none,(.pv none (.int .i64 0))),(none,(.pv none (.str []))),(none,(.tsl (some 4) []))])),[],none⟩,
 ⟨none,(.store (some 4)),[.t 3,.t 5],none⟩]
def c42r2 : List AOper := [
 ⟨some 6,.mv,[.t 0],none⟩,
 ⟨some 7,.len,[.t 6],none⟩,
 ⟨some 8,(.bin .sub),[.t 7,.c (.pv none (.int .i64 1))],none⟩,
 ⟨some 4,.mv,[.t 8],none⟩]
def c42r3 : List AOper := [
 ⟨some 9,.mv,[.t 4],none⟩,
 ⟨some 10,(.bin .geq),[.t 9,.c (.pv none (.int .i64 0))],none⟩]
def c42k4 : ACode := (.cond (.t 10) .skip (.exit 0))
def c42r5 : List AOper := [
 ⟨some 13,.mv,[.t 0],none⟩,
 ⟨some 14,.mv,[.t 4],none⟩,
 ⟨some 15,(.iaddr (some 4)),[.t 13,.t 14],none⟩,
 ⟨some 16,(.load (some 4)),[.t 15],none⟩,
 ⟨some 17,(.load (some 4)),[.t 3],none⟩,
 ⟨some 18,(.bslice (some 4)),[.t 16,.t 17],none⟩,
 ⟨some 19,.call,[.c (.pv none (.func (.func 41))),.c (.pv none (.str [46])),.t 18],none⟩,
 ⟨none,(.store (some 4)),[.t 3,.t 19],none⟩]
def c42k6 : ACode := (.block 1 (.region true c42r5 [0,2,3,4]))
def c42r7 : List AOper := [
 ⟨some 11,.mv,[.t 4],none⟩,
 ⟨some 12,(.bin .sub),[.t 11,.c (.pv none (.int .i64 1))],none⟩,
 ⟨some 4,.mv,[.t 12],none⟩]
def c42b8 : ACode := (.seq (.seq (.region true c42r3 [0,2,3,4,10]) c42k4) (.seq c42k6 (.region true c42r7 [0,2,3,4])))
def c42k9 : ACode := (.block 0 (.loop [0,2,3,4] c42b8))
def c42r10 : List AOper := [
 ⟨some 20,(.load (some 4)),[.t 3],none⟩,
 ⟨none,(.store (some 4)),[.t 2,.t 20],none⟩]
def c42 : ACode := (.seq (.region true c42r0 [0,2]) (.seq (.region true c42r1 [0,2,3]) (.seq (.seq (.region true c42r2 [0,2,3,4]) c42k9) (.seq (.region true c42r10 [2]) .ret))))
def g42 : AFn := ⟨1,[(2,some (some 4))],c42,false,[],[],none⟩
theorem tr42 : trFn Tryz.prog false 42 Tryz.f42 = some g42 := by kernel_rfl
def c43r0 : List AOper := [
 ⟨some 1,(.box (some 4)),[.t 0],none⟩,
 ⟨some 2,.mv,[.c (.pv none (.bool false))],none⟩]
def c43r1 : List AOper := [
 ⟨some 3,(.load (some 4)),[.t 1],none⟩,
 ⟨some 4,.call,[.c (.pv none (.func (.func 93))),.t 3],none⟩,
 ⟨some 5,(.bin .leq),[.t 4,.c (.pv none (.int .i64 2000))],none⟩,
 ⟨some 6,.mv,[.t 5],none⟩,
 ⟨some 7,(.load (some 4)),[.t 1],some (6,true)⟩,
 ⟨some 8,.call,[.c (.pv none (.func (.func 94))),.t 7],some (6,true)⟩,
 ⟨some 9,.pick,[.t 6,.t 8,.c (.pv none (.bool false))],none⟩,
 ⟨some 2,.mv,[.t 9],none⟩]
def c43 : ACode := (.seq (.region true c43r0 [1]) (.seq (.region true c43r1 [2]) .ret))
def g43 : AFn := ⟨1,[(2,none)],c43,false,[],[],none⟩
theorem tr43 : trFn Tryz.prog false 43 Tryz.f43 = some g43 := by kernel_rfl
def c45r0 : List AOper := [
 ⟨some 1,(.box (some 4)),[.t 0],none⟩,
 ⟨some 2,.mv,[.c (.pv none (.bool false))],none⟩]
def c45r1 : List AOper := [
 ⟨some 3,(.load (some 4)),[.t 1],none⟩,
 ⟨some 4,.call,[.c (.pv none (.func (.func 87))),.t 3],none⟩,
 ⟨some 5,(.bin .leq),[.t 4,.c (.pv none (.int .i64 2000))],none⟩,
 ⟨some 6,.mv,[.t 5],none⟩,
 ⟨some 7,(.load (some 4)),[.t 1],some (6,true)⟩,
 ⟨some 8,.call,[.c (.pv none (.func (.func 96))),.t 7],some (6,true)⟩,
 ⟨some 9,.pick,[.t 6,.t 8,.c (.pv none (.bool false))],none⟩,
 ⟨some 2,.mv,[.t 9],none⟩]
def c45 : ACode := (.seq (.region true c45r0 [1]) (.seq (.region true c45r1 [2]) .ret))
def g45 : AFn := ⟨1,[(2,none)],c45,false,[],[],none⟩
theorem tr45 : trFn Tryz.prog false 45 Tryz.f45 = some g45 := by kernel_rfl
def c46r0 : List AOper := [
 ⟨some 2,(.box (some 4)),[.t 0],none⟩,
 ⟨some 3,(.box (some 4)),[.t 1],none⟩,
 ⟨some 4,.mv,[.c (.pv none (.bool false))],none⟩]
def c46r1 : List AOper := [
 ⟨some 5,(.load (some 4)),[.t 2],none⟩,
 ⟨some 6,.call,[.c (.pv none (.func (.func 45))),.t 5],none⟩,
 ⟨some 7,.mv,[.t 6],none⟩,
 ⟨some 8,(.load (some 4)),[.t 3],some (7,true)⟩,
 ⟨some 9,.call,[.c (.pv none (.func (.func 45))),.t 8],some (7,true)⟩,
 ⟨some 10,.pick,[.t 7,.t 9,.c (.pv none (.bool false))],none⟩,
 ⟨some 11,.mv,[.t 10],none⟩,
 ⟨some 12,(.load (some 4)),[.t 2],some (11,true)⟩,
 ⟨some 13,(.load (some 4)),[.t 3],some (11,true)⟩,
 ⟨some 14,.call,[.c (.pv none (.func (.func 84))),.t 12,.t 13],some (11,true)⟩,
 ⟨some 15,.pick,[.t 11,.t 14,.c (.pv none (.bool false))],none⟩,
 ⟨some 4,.mv,[.t 15],none⟩]
def c46 : ACode := (.seq (.region true c46r0 [2,3]) (.seq (.region true c46r1 [4]) .ret))
def g46 : AFn := ⟨2,[(4,none)],c46,false,[],[],none⟩
theorem tr46 : trFn Tryz.prog false 46 Tryz.f46 = some g46 := by kernel_rfl
def c47r0 : List AOper := [
 ⟨some 1,(.box (some 4)),[.t 0],none⟩,
 ⟨some 2,(.alloc (some 4) (.agg [(none,(.pv none (.int .i64 0))),(none,(.pv none (.int .i64 0))),(none,(.pv none (.str []))),(none,(.tsl (some 4) []))])),[],none⟩]
def c47r1 : List AOper := [
 ⟨some 4,(.load (some 4)),[.t 1],none⟩,
 ⟨some 5,.call,[.c (.pv none (.func (.func 45))),.t 4],none⟩,
 ⟨some 6,.not,[.t 5],none⟩]
def c47r2 : List AOper := [
 ⟨some 7,(.build [(none,(.pv none (.int .i64 0))),(none,(.pv none (.int .i64 0))),(none,(.pv none (.str []))),(none,(.tsl (some 4) []))] []),[],none⟩,
 ⟨none,(.store (some 4)),[.t 2,.t 7],none⟩]
def c47k3 : ACode := (.cond (.t 6) (.seq (.region true c47r2 [2]) .ret) .skip)
def c47r4 : List AOper := [
 ⟨some 8,(.mkmap none),[],none⟩,
 ⟨some 3,(.alloc none (.pv none .nilmap)),[],none⟩,
 ⟨none,(.store none),[.t 3,.t 8],none⟩]
def c47r5 : List AOper := [
 ⟨some 9,(.load (some 4)),[.t 1],none⟩,
 ⟨some 10,(.mkfunc (.func 97) 0),[.t 3],none⟩,
 ⟨some 11,.call,[.c (.pv none (.func (.func 88))),.t 9,.t 10],none⟩,
 ⟨none,(.store (some 4)),[.t 2,.t 11],none⟩]
def c47 : ACode := (.seq (.region true c47r0 [1,2]) (.seq (.seq (.region true c47r1 [1,2,6]) c47k3) (.seq (.region true c47r4 [1,2,3]) (.seq (.region true c47r5 [2]) .ret))))
def g47 : AFn := ⟨1,[(2,some (some 4))],c47,false,[],[],none⟩
theorem tr47 : trFn Tryz.prog false 47 Tryz.f47 = some g47 := by kernel_rfl
def c48r0 : List AOper := [
 ⟨some 1,(.box (some 4)),[.t 0],none⟩,
 ⟨some 2,(.nilsl (some 4)),[],none⟩,
 ⟨some 3,(.alloc (some 4) (.agg [(none,(.pv none (.int .i64 0))),(none,(.pv none (.int .i64 0))),(none,(.pv none (.str []))),(none,(.tsl (some 4) []))])),[],none⟩,
 ⟨some 4,.mv,[.c (.pv none (.bool false))],none⟩]
def c48r1 : List AOper := [
 ⟨some 8,(.load (some 4)),[.t 1],none⟩,
 ⟨some 9,.call,[.c (.pv none (.func (.func 98))),.t 8],none⟩,
 ⟨some 7,.mv,[.t 9],none⟩,
 ⟨some 10,(.extract 0),[.t 7],none⟩,
 ⟨some 11,(.extract 1),[.t 7],none⟩,
 ⟨some 12,(.extract 2),[.t 7],none⟩,
 ⟨some 2,.mv,[.t 10],none⟩,
 ⟨none,(.store (some 4)),[.t 3,.t 11],none⟩,
 ⟨some 4,.mv,[.t 12],none⟩]
def c48r2 : List AOper := [
 ⟨some 13,.mv,[.t 4],none⟩,
 ⟨some 14,.not,[.t 13],none⟩]
def c48r3 : List AOper := [
 ⟨some 15,(.load (some 4)),[.t 3],none⟩,
 ⟨some 2,(.nilsl (some 4)),[],none⟩,
 ⟨none,(.store (some 4)),[.t 3,.t 15],none⟩,
 ⟨some 4,.mv,[.c (.pv none (.bool false))],none⟩]
def c48k4 : ACode := (.cond (.t 14) (.seq (.region true c48r3 [2,3,4]) .ret) .skip)
def c48r5 : List AOper := [
 ⟨some 16,.mv,[.t 2],none⟩,
 ⟨some 17,.len,[.t 16],none⟩,
 ⟨some 18,.mv,[.c (.pv none (.int .i64 0))],none⟩]
def c48r6 : List AOper := [
 ⟨some 19,(.bin .lss),[.t 18,.t 17],none⟩]
def c48k7 : ACode := (.cond (.t 19) .skip (.exit 0))
def c48r8 : List AOper := [
 ⟨some 20,(.iaddr (some 4)),[.t 16,.t 18],none⟩,
 ⟨some 21,(.load (some 4)),[.t 20],none⟩,
 ⟨some 6,(.alloc (some 4) (.agg [(none,(.pv none (.int .i64 0))),(none,(.pv none (.int .i64 0))),(none,(.pv none (.str []))),(none,(.tsl (some 4) []))])),[],none⟩,
 ⟨none,(.store (some 4)),[.t 6,.t 21],none⟩]
def c48r9 : List AOper := [
 ⟨some 22,(.faddr 0),[.t 6],none⟩,
 ⟨some 23,(.load none),[.t 22],none⟩,
 ⟨some 24,(.bin .eql),[.t 23,.c (.pv none (.int .i64 0))],none⟩]
def c48r10 : List AOper := [
 ⟨some 25,.call,[.c (.pv none (.func (.func 68)))],none⟩,
 ⟨some 2,(.nilsl (some 4)),[],none⟩,
 ⟨none,(.store (some 4)),[.t 3,.t 25],none⟩,
 ⟨some 4,.mv,[.c (.pv none (.bool false))],none⟩]
def c48k11 : ACode := (.cond (.t 24) (.seq (.region true c48r10 [2,3,4]) .ret) .skip)
def c48r12 : List AOper := [
 ⟨some 26,(.load (some 4)),[.t 6],none⟩,
 ⟨some 27,.call,[.c (.pv none (.func (.func 67))),.t 26,.c (.pv none (.str [45])),.c (.pv none (.int .i64 2))],none⟩,
 ⟨some 28,.not,[.t 27],none⟩]
def c48r13 : List AOper := [
 ⟨some 29,(.load (some 4)),[.t 6],none⟩,
 ⟨some 30,.call,[.c (.pv none (.func (.func 69))),.c (.pv none (.str [112,97,105,114])),.t 29],none⟩,
 ⟨some 2,(.nilsl (some 4)),[],none⟩,
 ⟨none,(.store (some 4)),[.t 3,.t 30],none⟩,
 ⟨some 4,.mv,[.c (.pv none (.bool false))],none⟩]
def c48k14 : ACode := (.cond (.t 28) (.seq (.region true c48r13 [2,3,4]) .ret) .skip)
def c48k15 : ACode := (.block 1 (.seq (.region true c48r8 [2,3,6,16,17,18]) (.seq (.seq (.region true c48r9 [2,3,6,16,17,18,24]) c48k11) (.seq (.region true c48r12 [2,3,6,16,17,18,28]) c48k14))))
def c48r16 : List AOper := [
 ⟨some 31,(.bin .add),[.t 18,.c (.pv none (.int .i64 1))],none⟩,
 ⟨some 18,.mv,[.t 31],none⟩]
def c48b17 : ACode := (.seq (.region true c48r6 [2,3,16,17,18,19]) (.seq c48k7 (.seq c48k15 (.region true c48r16 [2,3,16,17,18]))))
def c48k18 : ACode := (.block 0 (.loop [2,3,16,17,18] c48b17))
def c48r19 : List AOper := [
 ⟨some 32,.mv,[.t 2],none⟩,
 ⟨some 33,(.build [(none,(.pv none (.int .i64 0))),(none,(.pv none (.int .i64 0))),(none,(.pv none (.str []))),(none,(.tsl (some 4) []))] []),[],none⟩,
 ⟨some 2,.mv,[.t 32],none⟩,
 ⟨none,(.store (some 4)),[.t 3,.t 33],none⟩,
 ⟨some 4,.mv,[.c (.pv none (.bool true))],none⟩]
def c48 : ACode := (.seq (.region true c48r0 [1,3]) (.seq (.region true c48r1 [2,3,4]) (.seq (.seq (.region true c48r2 [2,3,14]) c48k4) (.seq (.seq (.region true c48r5 [2,3,16,17,18]) c48k18) (.seq (.region true c48r19 [2,3,4]) .ret)))))
def g48 : AFn := ⟨1,[(2,none),(3,some (some 4)),(4,none)],c48,false,[],[],none⟩
theorem tr48 : trFn Tryz.prog false 48 Tryz.f48 = some g48 := by kernel_rfl
def c49r0 : List AOper := [
 ⟨some 0,(.nilsl (some 2)),[],none⟩]
def c49r1 : List AOper := [
 ⟨some 1,(.build [(none,(.pv none (.str []))),(none,(.pv none .nilfunc))] [0,1]),[.c (.pv none (.str [36,98,97,103])),.c (.pv none (.func (.func 99)))],none⟩,
 ⟨some 2,(.build [(none,(.pv none (.str []))),(none,(.pv none .nilfunc))] [0,1]),[.c (.pv none (.str [36,115,101,116])),.c (.pv none (.func (.func 100)))],none⟩,
 ⟨some 3,(.bslice (some 2)),[.t 1,.t 2],none⟩,
 ⟨some 0,.mv,[.t 3],none⟩]
def c49 : ACode := (.seq (.region true c49r0 []) (.seq (.region true c49r1 [0]) .ret))
def g49 : AFn := ⟨0,[(0,none)],c49,false,[],[],none⟩
theorem tr49 : trFn Tryz.prog false 49 Tryz.f49 = some g49 := by kernel_rfl
def c50r0 : List AOper := [
 ⟨some 1,(.box (some 4)),[.t 0],none⟩,
 ⟨some 2,(.nilsl (some 4)),[],none⟩,
 ⟨some 3,(.alloc (some 4) (.agg [(none,(.pv none (.int .i64 0))),(none,(.pv none (.int .i64 0))),(none,(.pv none (.str []))),(none,(.tsl (some 4) []))])),[],none⟩]
def c50r1 : List AOper := [
 ⟨some 5,(.load (some 4)),[.t 1],none⟩,
 ⟨some 6,.call,[.c (.pv none (.func (.func 45))),.t 5],none⟩,
 ⟨some 7,.not,[.t 6],none⟩]
def c50r2 : List AOper := [
 ⟨some 8,(.build [(none,(.pv none (.int .i64 0))),(none,(.pv none (.int .i64 0))),(none,(.pv none (.str []))),(none,(.tsl (some 4) []))] []),[],none⟩,
 ⟨some 2,(.nilsl (some 4)),[],none⟩,
 ⟨none,(.store (some 4)),[.t 3,.t 8],none⟩]
def c50k3 : ACode := (.cond (.t 7) (.seq (.region true c50r2 [2,3]) .ret) .skip)
def c50r4 : List AOper := [
 ⟨some 4,(.nilsl (some 4)),[],none⟩]
def c50r5 : List AOper := [
 ⟨some 9,(.faddr 0),[.t 1],none⟩,
 ⟨some 10,(.load none),[.t 9],none⟩,
 ⟨some 11,(.bin .eql),[.t 10,.c (.pv none (.int .i64 3))],none⟩,
 ⟨some 12,.mv,[.t 11],none⟩,
 ⟨some 13,(.faddr 2),[.t 1],some (12,true)⟩,
 ⟨some 14,(.load none),[.t 13],some (12,true)⟩,
 ⟨some 15,(.bin .eql),[.t 14,.c (.pv none (.str [46]))],some (12,true)⟩,
 ⟨some 16,.pick,[.t 12,.t 15,.c (.pv none (.bool false))],none⟩,
 ⟨some 17,.mv,[.t 16],none⟩,
 ⟨some 18,(.faddr 3),[.t 1],some (17,true)⟩,
 ⟨some 19,(.load none),[.t 18],some (17,true)⟩,
 ⟨some 20,.len,[.t 19],some (17,true)⟩,
 ⟨some 21,(.bin .eql),[.t 20,.c (.pv none (.int .i64 2))],some (17,true)⟩,
 ⟨some 22,.pick,[.t 17,.t 21,.c (.pv none (.bool false))],none⟩]
def c50k6 : ACode := (.cond (.t 22) .skip (.exit 0))
def c50r7 : List AOper := [
 ⟨some 23,.mv,[.t 4],none⟩,
 ⟨some 24,(.faddr 3),[.t 1],none⟩,
 ⟨some 25,(.load none),[.t 24],none⟩,
 ⟨some 26,(.iaddr (some 4)),[.t 25,.c (.pv none (.int .i64 0))],none⟩,
 ⟨some 27,(.load (some 4)),[.t 26],none⟩,
 ⟨some 28,.call,[.c (.pv none (.func (.func 38))),.t 27],none⟩,
 ⟨some 29,(.bslice (some 4)),[.t 28],none⟩,
 ⟨some 30,(.append (some 4)),[.t 23,.t 29],none⟩,
 ⟨some 4,.mv,[.t 30],none⟩]
def c50r8 : List AOper := [
 ⟨some 31,(.faddr 3),[.t 1],none⟩,
 ⟨some 32,(.load none),[.t 31],none⟩,
 ⟨some 33,(.iaddr (some 4)),[.t 32,.c (.pv none (.int .i64 1))],none⟩,
 ⟨some 34,(.load (some 4)),[.t 33],none⟩,
 ⟨none,(.store (some 4)),[.t 1,.t 34],none⟩]
def c50k9 : ACode := (.block 1 (.seq (.region true c50r7 [1,3,4]) (.region true c50r8 [1,3,4])))
def c50b10 : ACode := (.seq (.seq (.region true c50r5 [1,3,4,22]) c50k6) c50k9)
def c50k11 : ACode := (.block 0 (.loop [1,3,4] c50b10))
def c50r12 : List AOper := [
 ⟨some 35,.mv,[.t 4],none⟩,
 ⟨some 36,(.load (some 4)),[.t 1],none⟩,
 ⟨some 37,.call,[.c (.pv none (.func (.func 38))),.t 36],none⟩,
 ⟨some 2,.mv,[.t 35],none⟩,
 ⟨none,(.store (some 4)),[.t 3,.t 37],none⟩]
def c50 : ACode := (.seq (.region true c50r0 [1,3]) (.seq (.seq (.region true c50r1 [1,3,7]) c50k3) (.seq (.region true c50r4 [1,3,4]) (.seq c50k11 (.seq (.region true c50r12 [2,3]) .ret)))))
def g50 : AFn := ⟨1,[(2,none),(3,some (some 4))],c50,false,[],[],none⟩
theorem tr50 : trFn Tryz.prog false 50 Tryz.f50 = some g50 := by kernel_rfl
def c51r0 : List AOper := [
 ⟨some 4,(.alloc (some 4) (.agg [(none,(.pv none (.int .i64 0))),(none,(.pv none (.int .i64 0))),(none,(.pv none (.str []))),(none,(.tsl (some 4) []))])),[],none⟩]
def c51r1 : List AOper := [
 ⟨some 5,.mv,[.t 0],none⟩,
 ⟨some 6,.mv,[.t 1],none⟩,
 ⟨some 7,(.build [(none,(.pv none (.int .i64 0))),(none,(.pv none (.int .i64 0))),(none,(.pv none (.str []))),(none,(.tsl (some 4) []))] [0,2,3]),[.c (.pv none (.int .i64 3)),.t 5,.t 6],none⟩,
 ⟨none,(.store (some 4)),[.t 4,.t 7],none⟩]
def c51 : ACode := (.seq (.region true c51r0 [0,1,4]) (.seq (.region true c51r1 [4]) .ret))
def g51 : AFn := ⟨2,[(4,some (some 4))],c51,false,[],[],none⟩
theorem tr51 : trFn Tryz.prog false 51 Tryz.f51 = some g51 := by kernel_rfl
def c52r0 : List AOper := [
 ⟨some 2,(.alloc (some 4) (.agg [(none,(.pv none (.int .i64 0))),(none,(.pv none (.int .i64 0))),(none,(.pv none (.str []))),(none,(.tsl (some 4) []))])),[],none⟩]
def c52r1 : List AOper := [
 ⟨some 5,(.build [(none,(.pv none (.int .i64 0))),(none,(.pv none (.int .i64 0))),(none,(.pv none (.str []))),(none,(.tsl (some 4) []))] [0,2]),[.c (.pv none (.int .i64 2)),.c (.pv none (.str [91,93]))],none⟩,
 ⟨some 3,(.alloc (some 4) (.agg [(none,(.pv none (.int .i64 0))),(none,(.pv none (.int .i64 0))),(none,(.pv none (.str []))),(none,(.tsl (some 4) []))])),[],none⟩,
 ⟨none,(.store (some 4)),[.t 3,.t 5],none⟩]
def c52r2 : List AOper := [
 ⟨some 6,.mv,[.t 0],none⟩,
 ⟨some 7,.len,[.t 6],none⟩,
 ⟨some 8,(.bin .sub),[.t 7,.c (.pv none (.int .i64 1))],none⟩,
 ⟨some 4,.mv,[.t 8],none⟩]
def c52r3 : List AOper := [
 ⟨some 9,.mv,[.t 4],none⟩,
 ⟨some 10,(.bin .geq),[.t 9,.c (.pv none (.int .i64 0))],none⟩]
def c52k4 : ACode := (.cond (.t 10) .skip (.exit 0))
def c52r5 : List AOper := [
 ⟨some 13,.mv,[.t 0],none⟩,
 ⟨some 14,.mv,[.t 4],none⟩,
 ⟨some 15,(.iaddr (some 4)),[.t 13,.t 14],none⟩,
 ⟨some 16,(.load (some 4)),[.t 15],none⟩,
 ⟨some 17,(.load (some 4)),[.t 3],none⟩,
 ⟨some 18,(.bslice (some 4)),[.t 16,.t 17],none⟩,
 ⟨some 19,.call,[.c (.pv none (.func (.func 51))),.c (.pv none (.str [46])),.t 18],none⟩,
 ⟨none,(.store (some 4)),[.t 3,.t 19],none⟩]
def c52k6 : ACode := (.block 1 (.region true c52r5 [0,2,3,4]))
def c52r7 : List AOper := [
 ⟨some 11,.mv,[.t 4],none⟩,
 ⟨some 12,(.bin .sub),[.t 11,.c (.pv none (.int .i64 1))],none⟩,
 ⟨some 4,.mv,[.t 12],none⟩]
def c52b8 : ACode := (.seq (.seq (.region true c52r3 [0,2,3,4,10]) c52k4) (.seq c52k6 (.region true c52r7 [0,2,3,4])))
def c52k9 : ACode := (.block 0 (.loop [0,2,3,4] c52b8))
def c52r10 : List AOper := [
 ⟨some 20,(.load (some 4)),[.t 3],none⟩,
 ⟨none,(.store (some 4)),[.t 2,.t 20],none⟩]
def c52 : ACode := (.seq (.region true c52r0 [0,2]) (.seq (.region true c52r1 [0,2,3]) (.seq (.seq (.region true c52r2 [0,2,3,4]) c52k9) (.seq (.region true c52r10 [2]) .ret))))
def g52 : AFn := ⟨1,[(2,some (some 4))],c52,false,[],[],none⟩
theorem tr52 : trFn Tryz.prog false 52 Tryz.f52 = some g52 := by kernel_rfl
def c55r0 : List AOper := [
 ⟨some 1,(.box (some 4)),[.t 0],none⟩,
 ⟨some 2,.mv,[.c (.pv none (.bool false))],none⟩]
def c55r1 : List AOper := [
 ⟨some 3,(.faddr 0),[.t 1],none⟩,
 ⟨some 4,(.load none),[.t 3],none⟩,
 ⟨some 5,(.bin .eql),[.t 4,.c (.pv none (.int .i64 3))],none⟩,
 ⟨some 6,.mv,[.t 5],none⟩,
 ⟨some 7,(.faddr 2),[.t 1],some (6,true)⟩,
 ⟨some 8,(.load none),[.t 7],some (6,true)⟩,
 ⟨some 9,(.bin .eql),[.t 8,.c (.pv none (.str [45]))],some (6,true)⟩,
 ⟨some 10,.pick,[.t 6,.t 9,.c (.pv none (.bool false))],none⟩,
 ⟨some 11,.mv,[.t 10],none⟩,
 ⟨some 12,(.faddr 3),[.t 1],some (11,true)⟩,
 ⟨some 13,(.load none),[.t 12],some (11,true)⟩,
 ⟨some 14,.len,[.t 13],some (11,true)⟩,
 ⟨some 15,(.bin .eql),[.t 14,.c (.pv none (.int .i64 2))],some (11,true)⟩,
 ⟨some 16,.pick,[.t 11,.t 15,.c (.pv none (.bool false))],none⟩,
 ⟨some 2,.mv,[.t 16],none⟩]
def c55 : ACode := (.seq (.region true c55r0 [1]) (.seq (.region true c55r1 [2]) .ret))
def g55 : AFn := ⟨1,[(2,none)],c55,false,[],[],none⟩
theorem tr55 : trFn Tryz.prog false 55 Tryz.f55 = some g55 := by kernel_rfl
def c58r0 : List AOper := [
 ⟨some 1,(.box (some 4)),[.t 0],none⟩,
 ⟨some 2,(.alloc (some 4) (.agg [(none,(.pv none (.int .i64 0))),(none,(.pv none (.int .i64 0))),(none,(.pv none (.str []))),(none,(.tsl (some 4) []))])),[],none⟩]
def c58r1 : List AOper := [
 ⟨some 3,(.load (some 4)),[.t 1],none⟩,
 ⟨some 4,.call,[.c (.pv none (.func (.func 43))),.t 3],none⟩,
 ⟨some 5,.not,[.t 4],none⟩]
def c58r2 : List AOper := [
 ⟨some 6,(.build [(none,(.pv none (.int .i64 0))),(none,(.pv none (.int .i64 0))),(none,(.pv none (.str []))),(none,(.tsl (some 4) []))] []),[],none⟩,
 ⟨none,(.store (some 4)),[.t 2,.t 6],none⟩]
def c58k3 : ACode := (.cond (.t 5) (.seq (.region true c58r2 [2]) .ret) .skip)
def c58r4 : List AOper := [
 ⟨some 7,(.load (some 4)),[.t 1],none⟩,
 ⟨some 8,.call,[.c (.pv none (.func (.func 103))),.t 7],none⟩,
 ⟨none,(.store (some 4)),[.t 2,.t 8],none⟩]
def c58 : ACode := (.seq (.region true c58r0 [1,2]) (.seq (.seq (.region true c58r1 [1,2,5]) c58k3) (.seq (.region true c58r4 [2]) .ret)))
def g58 : AFn := ⟨1,[(2,some (some 4))],c58,false,[],[],none⟩
theorem tr58 : trFn Tryz.prog false 58 Tryz.f58 = some g58 := by kernel_rfl
def c59r0 : List AOper := [
 ⟨some 2,.mv,[.c (.pv none (.bool false))],none⟩]
def c59r1 : List AOper := [
 ⟨some 3,.mv,[.c (.pv none (.int .i64 0))],none⟩]
def c59r2 : List AOper := [
 ⟨some 4,.mv,[.t 3],none⟩,
 ⟨some 5,.mv,[.t 0],none⟩,
 ⟨some 6,.len,[.t 5],none⟩,
 ⟨some 7,(.bin .lss),[.t 4,.t 6],none⟩]
def c59k3 : ACode := (.cond (.t 7) .skip (.exit 0))
def c59r4 : List AOper := [
 ⟨some 10,.mv,[.t 0],none⟩,
 ⟨some 11,.mv,[.t 3],none⟩,
 ⟨some 12,(.iaddr (some 4)),[.t 10,.t 11],none⟩,
 ⟨some 13,(.load (some 4)),[.t 12],none⟩,
 ⟨some 14,.call,[.c (.pv none (.func (.func 43))),.t 13],none⟩,
 ⟨some 15,.not,[.t 14],none⟩]
def c59r5 : List AOper := [
 ⟨some 2,.mv,[.c (.pv none (.bool false))],none⟩]
def c59k6 : ACode := (.cond (.t 15) (.seq (.region true c59r5 [2]) .ret) .skip)
def c59k7 : ACode := (.block 1 (.seq (.region true c59r4 [0,3,15]) c59k6))
def c59r8 : List AOper := [
 ⟨some 8,.mv,[.t 3],none⟩,
 ⟨some 9,(.bin .add),[.t 8,.c (.pv none (.int .i64 1))],none⟩,
 ⟨some 3,.mv,[.t 9],none⟩]
def c59b9 : ACode := (.seq (.seq (.region true c59r2 [0,3,7]) c59k3) (.seq c59k7 (.region true c59r8 [0,3])))
def c59k10 : ACode := (.block 0 (.loop [0,3] c59b9))
def c59r11 : List AOper := [
 ⟨some 2,.mv,[.c (.pv none (.bool true))],none⟩]
def c59 : ACode := (.seq (.region true c59r0 [0]) (.seq (.seq (.region true c59r1 [0,3]) c59k10) (.seq (.region true c59r11 [2]) .ret)))
def g59 : AFn := ⟨1,[(2,none)],c59,false,[],[],none⟩
theorem tr59 : trFn Tryz.prog false 59 Tryz.f59 = some g59 := by kernel_rfl
def c60r0 : List AOper := [
 ⟨some 4,(.box (some 4)),[.t 1],none⟩,
 ⟨some 6,(.nilsl (some 4)),[],none⟩]
def c60r1 : List AOper := [
 ⟨some 9,.mv,[.t 0],none⟩,
 ⟨some 10,.len,[.t 9],none⟩,
 ⟨some 7,.mv,[.t 10],none⟩]
def c60r2 : List AOper := [
 ⟨some 11,.mv,[.t 7],none⟩,
 ⟨some 12,(.bin .gtr),[.t 11,.c (.pv none (.int .i64 0))],none⟩,
 ⟨some 13,.mv,[.t 12],none⟩,
 ⟨some 14,.mv,[.t 0],some (13,true)⟩,
 ⟨some 15,.mv,[.t 7],some (13,true)⟩,
 ⟨some 16,(.bin .sub),[.t 15,.c (.pv none (.int .i64 1))],some (13,true)⟩,
 ⟨some 17,(.iaddr (some 4)),[.t 14,.t 16],some (13,true)⟩,
 ⟨some 18,(.load (some 4)),[.t 17],some (13,true)⟩,
 ⟨some 19,.mv,[.t 2],some (13,true)⟩,
 ⟨some 20,.callp,[.c (.pv none (.func (.func 106))),.t 18,.t 19],some (13,true)⟩,
 ⟨some 21,(.load (some 4)),[.t 4],some (13,true)⟩,
 ⟨some 22,.mv,[.t 2],some (13,true)⟩,
 ⟨some 23,.callp,[.c (.pv none (.func (.func 106))),.t 21,.t 22],some (13,true)⟩,
 ⟨some 24,.callp,[.c (.pv none (.func (.func 105))),.t 20,.t 23],some (13,true)⟩,
 ⟨some 25,(.bin .gtr),[.t 24,.c (.pv none (.int .i64 0))],some (13,true)⟩,
 ⟨some 26,.pick,[.t 13,.t 25,.c (.pv none (.bool false))],none⟩]
def c60k3 : ACode := (.cond (.t 26) .skip (.exit 0))
def c60r4 : List AOper := [
 ⟨some 27,.mv,[.t 7],none⟩,
 ⟨some 28,(.bin .sub),[.t 27,.c (.pv none (.int .i64 1))],none⟩,
 ⟨some 7,.mv,[.t 28],none⟩]
def c60k5 : ACode := (.block 1 (.region true c60r4 [0,2,4,7]))
def c60b6 : ACode := (.seq (.seq (.seq (.settle [2,4]) (.region true c60r2 [0,2,4,7,26])) c60k3) c60k5)
def c60k7 : ACode := (.block 0 (.loop [0,2,4,7] c60b6))
def c60r8 : List AOper := [
 ⟨some 8,(.nilsl (some 4)),[],none⟩]
def c60r9 : List AOper := [
 ⟨some 29,.mv,[.t 8],none⟩,
 ⟨some 30,.mv,[.t 0],none⟩,
 ⟨some 31,.mv,[.t 7],none⟩,
 ⟨some 32,(.slice (some 4) false true),[.t 30,.t 31],none⟩,
 ⟨some 33,(.append (some 4)),[.t 29,.t 32],none⟩,
 ⟨some 8,.mv,[.t 33],none⟩]
def c60r10 : List AOper := [
 ⟨some 34,.mv,[.t 8],none⟩,
 ⟨some 35,(.load (some 4)),[.t 4],none⟩,
 ⟨some 36,(.bslice (some 4)),[.t 35],none⟩,
 ⟨some 37,(.append (some 4)),[.t 34,.t 36],none⟩,
 ⟨some 8,.mv,[.t 37],none⟩]
def c60r11 : List AOper := [
 ⟨some 38,.mv,[.t 8],none⟩,
 ⟨some 39,.mv,[.t 0],none⟩,
 ⟨some 40,.mv,[.t 7],none⟩,
 ⟨some 41,(.slice (some 4) true false),[.t 39,.t 40],none⟩,
 ⟨some 42,(.append (some 4)),[.t 38,.t 41],none⟩,
 ⟨some 6,.mv,[.t 42],none⟩]
def c60 : ACode := (.seq (.region true c60r0 [0,2,4]) (.seq (.region true c60r1 [0,2,4,7]) (.seq c60k7 (.seq (.region true c60r8 [0,4,7,8]) (.seq (.region true c60r9 [0,4,7,8]) (.seq (.region true c60r10 [0,7,8]) (.seq (.region true c60r11 [6]) .ret)))))))
def g60 : AFn := ⟨3,[(6,none)],c60,false,[],[],none⟩
theorem tr60 : trFn Tryz.prog false 60 Tryz.f60 = some g60 := by kernel_rfl
def c61r0 : List AOper := [
 ⟨some 1,(.box (some 4)),[.t 0],none⟩,
 ⟨some 2,(.alloc (some 4) (.agg [(none,(.pv none (.int .i64 0))),(none,(.pv none (.int .i64 0))),(none,(.pv none (.str []))),(none,(.tsl (some 4) []))])),[],none⟩]
def c61r1 : List AOper := [
 ⟨some 6,(.load (some 4)),[.t 1],none⟩,
 ⟨some 3,(.alloc (some 4) (.agg [(none,(.pv none (.int .i64 0))),(none,(.pv none (.int .i64 0))),(none,(.pv none (.str []))),(none,(.tsl (some 4) []))])),[],none⟩,
 ⟨none,(.store (some 4)),[.t 3,.t 6],none⟩]
def c61r2 : List AOper := [
 ⟨some 7,(.load (some 4)),[.t 1],none⟩,
 ⟨some 8,.call,[.c (.pv none (.func (.func 65))),.t 7],none⟩]
def c61r3 : List AOper := [
 ⟨some 12,(.load (some 4)),[.t 3],none⟩,
 ⟨none,(.store (some 4)),[.t 2,.t 12],none⟩]
def c61p4 : ACode := (.seq (.region true c61r3 [2]) (.seq .ret .skip))
def c61r5 : List AOper := [
 ⟨some 5,(.alloc (some 4) (.agg [(none,(.pv none (.int .i64 0))),(none,(.pv none (.int .i64 0))),(none,(.pv none (.str []))),(none,(.tsl (some 4) []))])),[],none⟩,
 ⟨none,(.store (some 4)),[.t 5,.t 10],none⟩]
def c61r6 : List AOper := [
 ⟨some 11,(.load (some 4)),[.t 5],none⟩,
 ⟨none,(.store (some 4)),[.t 3,.t 11],none⟩]
def c61k7 : ACode := (.block 1 (.region true c61r6 []))
def c61q8 : ACode := c61k7
def c61 : ACode := (.seq (.region true c61r0 [1,2]) (.seq (.region true c61r1 [1,2,3]) (.seq (.region true c61r2 [2,3,8]) .skip)))
def g61 : AFn := ⟨1,[(2,some (some 4))],c61,false,[(.range 61 (.t 8) [9,10] [3],c61p4)],[⟨[9,10],(.region true c61r5 [3,5]),c61q8⟩],none⟩
theorem tr61 : trFn Tryz.prog false 61 Tryz.f61 = some g61 := by kernel_rfl
def c62r0 : List AOper := [
 ⟨some 1,(.box (some 4)),[.t 0],none⟩,
 ⟨some 2,(.alloc (some 4) (.agg [(none,(.pv none (.int .i64 0))),(none,(.pv none (.int .i64 0))),(none,(.pv none (.str []))),(none,(.tsl (some 4) []))])),[],none⟩]
def c62r1 : List AOper := [
 ⟨some 3,(.load (some 4)),[.t 1],none⟩,
 ⟨some 4,.call,[.c (.pv none (.func (.func 107))),.t 3],none⟩]
def c62k2 : ACode := (.cond (.t 4) .skip (.exit 0))
def c62r3 : List AOper := [
 ⟨some 5,(.faddr 3),[.t 1],none⟩,
 ⟨some 6,(.load none),[.t 5],none⟩,
 ⟨some 7,(.iaddr (some 4)),[.t 6,.c (.pv none (.int .i64 1))],none⟩,
 ⟨some 8,(.load (some 4)),[.t 7],none⟩,
 ⟨none,(.store (some 4)),[.t 1,.t 8],none⟩]
def c62k4 : ACode := (.block 1 (.region true c62r3 [1,2]))
def c62b5 : ACode := (.seq (.seq (.region true c62r1 [1,2,4]) c62k2) c62k4)
def c62k6 : ACode := (.block 0 (.loop [1,2] c62b5))
def c62r7 : List AOper := [
 ⟨some 9,(.load (some 4)),[.t 1],none⟩,
 ⟨none,(.store (some 4)),[.t 2,.t 9],none⟩]
def c62 : ACode := (.seq (.region true c62r0 [1,2]) (.seq c62k6 (.seq (.region true c62r7 [2]) .ret)))
def g62 : AFn := ⟨1,[(2,some (some 4))],c62,false,[],[],none⟩
theorem tr62 : trFn Tryz.prog false 62 Tryz.f62 = some g62 := by kernel_rfl
def c63r0 : List AOper := [
 ⟨some 2,(.box (some 4)),[.t 0],none⟩]
def c63r1 : List AOper := [
 ⟨some 5,(.load (some 4)),[.t 2],none⟩,
 ⟨some 6,.call,[.c (.pv none (.func (.func 64))),.t 5],none⟩,
 ⟨some 7,.len,[.t 6],none⟩,
 ⟨some 8,.mv,[.c (.pv none (.int .i64 0))],none⟩]
def c63r2 : List AOper := [
 ⟨some 9,(.bin .lss),[.t 8,.t 7],none⟩]
def c63k3 : ACode := (.cond (.t 9) .skip (.exit 0))
def c63r4 : List AOper := [
 ⟨some 10,(.iaddr none),[.t 6,.t 8],none⟩,
 ⟨some 11,(.load none),[.t 10],none⟩,
 ⟨some 4,.mv,[.t 11],none⟩]
def c63r5 : List AOper := [
 ⟨some 12,(.load none),[.t 1],none⟩,
 ⟨some 13,.mv,[.t 4],none⟩,
 ⟨none,(.mapset false none),[.t 12,.t 13,.c (.pv none (.bool true))],none⟩]
def c63k6 : ACode := (.block 1 (.seq (.region true c63r4 [1,4,6,7,8]) (.region true c63r5 [1,6,7,8])))
def c63r7 : List AOper := [
 ⟨some 14,(.bin .add),[.t 8,.c (.pv none (.int .i64 1))],none⟩,
 ⟨some 8,.mv,[.t 14],none⟩]
def c63b8 : ACode := (.seq (.region true c63r2 [1,6,7,8,9]) (.seq c63k3 (.seq c63k6 (.region true c63r7 [1,6,7,8]))))
def c63k9 : ACode := (.block 0 (.loop [1,6,7,8] c63b8))
def c63 : ACode := (.seq (.region true c63r0 [1,2]) (.seq (.region true c63r1 [1,6,7,8]) c63k9))
def g63 : AFn := ⟨2,[],c63,true,[],[],none⟩
theorem tr63 : trFn Tryz.prog true 63 Tryz.f63 = some g63 := by kernel_rfl
def c64r0 : List AOper := [
 ⟨some 1,(.box (some 4)),[.t 0],none⟩,
 ⟨some 2,(.nilsl none),[],none⟩]
def c64r1 : List AOper := [
 ⟨some 5,(.load (some 4)),[.t 1],none⟩,
 ⟨some 6,.call,[.c (.pv none (.func (.func 45))),.t 5],none⟩,
 ⟨some 7,.not,[.t 6],none⟩]
def c64r2 : List AOper := [
 ⟨some 2,(.nilsl none),[],none⟩]
def c64k3 : ACode := (.cond (.t 7) (.seq (.region true c64r2 [2]) .ret) .skip)
def c64r4 : List AOper := [
 ⟨some 3,(.alloc none (.tsl none [])),[],none⟩]
def c64r5 : List AOper := [
 ⟨some 8,(.mkmap none),[],none⟩,
 ⟨some 4,(.alloc none (.pv none .nilmap)),[],none⟩,
 ⟨none,(.store none),[.t 4,.t 8],none⟩]
def c64r6 : List AOper := [
 ⟨some 9,(.load (some 4)),[.t 1],none⟩,
 ⟨some 10,(.mkfunc (.func 108) 0),[.t 4,.t 3],none⟩,
 ⟨some 11,.call,[.c (.pv none (.func (.func 88))),.t 9,.t 10],none⟩]
def c64r7 : List AOper := [
 ⟨some 12,(.load none),[.t 3],none⟩,
 ⟨some 2,.mv,[.t 12],none⟩]
def c64 : ACode := (.seq (.region true c64r0 [1]) (.seq (.seq (.region true c64r1 [1,7]) c64k3) (.seq (.region true c64r4 [1,3]) (.seq (.region true c64r5 [1,3,4]) (.seq (.region true c64r6 [3]) (.seq (.region true c64r7 [2]) .ret))))))
def g64 : AFn := ⟨1,[(2,none)],c64,false,[],[],none⟩
theorem tr64 : trFn Tryz.prog false 64 Tryz.f64 = some g64 := by kernel_rfl
def c65r0 : List AOper := [
 ⟨some 1,(.box (some 4)),[.t 0],none⟩,
 ⟨some 2,.mv,[.c (.pv none .nilfunc)],none⟩]
def c65r1 : List AOper := [
 ⟨some 3,(.mkfunc (.func 109) 0),[.t 1],none⟩,
 ⟨some 2,.mv,[.t 3],none⟩]
def c65 : ACode := (.seq (.region true c65r0 [1]) (.seq (.region true c65r1 [2]) .ret))
def g65 : AFn := ⟨1,[(2,none)],c65,true,[],[],none⟩
theorem tr65 : trFn Tryz.prog true 65 Tryz.f65 = some g65 := by kernel_rfl
def c66r0 : List AOper := [
 ⟨some 2,(.box (some 4)),[.t 0],none⟩,
 ⟨some 3,(.box (some 4)),[.t 1],none⟩,
 ⟨some 4,(.nilsl (some 4)),[],none⟩]
def c66r1 : List AOper := [
 ⟨some 10,(.load (some 4)),[.t 2],none⟩,
 ⟨some 11,.call,[.c (.pv none (.func (.func 73))),.t 10],none⟩,
 ⟨some 5,.mv,[.t 11],none⟩]
def c66r2 : List AOper := [
 ⟨some 12,(.load (some 4)),[.t 3],none⟩,
 ⟨some 6,(.alloc (some 4) (.agg [(none,(.pv none (.int .i64 0))),(none,(.pv none (.int .i64 0))),(none,(.pv none (.str []))),(none,(.tsl (some 4) []))])),[],none⟩,
 ⟨none,(.store (some 4)),[.t 6,.t 12],none⟩]
def c66r3 : List AOper := [
 ⟨some 13,(.load (some 4)),[.t 6],none⟩,
 ⟨some 14,.call,[.c (.pv none (.func (.func 107))),.t 13],none⟩]
def c66k4 : ACode := (.cond (.t 14) .skip (.exit 0))
def c66r5 : List AOper := [
 ⟨some 19,.mv,[.t 5],none⟩,
 ⟨some 20,(.faddr 3),[.t 6],none⟩,
 ⟨some 21,(.load none),[.t 20],none⟩,
 ⟨some 22,(.iaddr (some 4)),[.t 21,.c (.pv none (.int .i64 0))],none⟩,
 ⟨some 23,(.load (some 4)),[.t 22],none⟩,
 ⟨some 24,.call,[.c (.pv none (.func (.func 73))),.t 23],none⟩,
 ⟨some 25,(.append none),[.t 19,.t 24],none⟩,
 ⟨some 5,.mv,[.t 25],none⟩]
def c66k6 : ACode := (.block 1 (.region true c66r5 [3,5,6]))
def c66r7 : List AOper := [
 ⟨some 26,(.load (some 4)),[.t 6],none⟩]
def c66r8 : List AOper := [
 ⟨some 6,(.alloc (some 4) (.agg [(none,(.pv none (.int .i64 0))),(none,(.pv none (.int .i64 0))),(none,(.pv none (.str []))),(none,(.tsl (some 4) []))])),[],none⟩,
 ⟨none,(.store (some 4)),[.t 6,.t 26],none⟩]
def c66r9 : List AOper := [
 ⟨some 15,(.faddr 3),[.t 6],none⟩,
 ⟨some 16,(.load none),[.t 15],none⟩,
 ⟨some 17,(.iaddr (some 4)),[.t 16,.c (.pv none (.int .i64 1))],none⟩,
 ⟨some 18,(.load (some 4)),[.t 17],none⟩,
 ⟨none,(.store (some 4)),[.t 6,.t 18],none⟩]
def c66b10 : ACode := (.seq (.seq (.region true c66r3 [3,5,6,14]) c66k4) (.seq c66k6 (.seq (.seq (.region true c66r7 [3,5,26]) (.region true c66r8 [3,5,6])) (.region true c66r9 [3,5,6]))))
def c66k11 : ACode := (.block 0 (.loop [3,5,6] c66b10))
def c66r12 : List AOper := [
 ⟨some 7,(.nilsl (some 4)),[],none⟩]
def c66r13 : List AOper := [
 ⟨some 27,(.load (some 4)),[.t 3],none⟩,
 ⟨some 28,.call,[.c (.pv none (.func (.func 73))),.t 27],none⟩,
 ⟨some 8,.mv,[.t 28],none⟩]
def c66r14 : List AOper := [
 ⟨some 9,.mv,[.c (.pv none (.int .i64 0))],none⟩]
def c66r15 : List AOper := [
 ⟨some 29,.mv,[.t 9],none⟩,
 ⟨some 30,.mv,[.t 8],none⟩,
 ⟨some 31,.len,[.t 30],none⟩,
 ⟨some 32,(.bin .lss),[.t 29,.t 31],none⟩]
def c66k16 : ACode := (.cond (.t 32) .skip (.exit 2))
def c66r17 : List AOper := [
 ⟨some 35,.mv,[.t 5],none⟩,
 ⟨some 36,.mv,[.t 8],none⟩,
 ⟨some 37,.mv,[.t 9],none⟩,
 ⟨some 38,(.iaddr none),[.t 36,.t 37],none⟩,
 ⟨some 39,(.load none),[.t 38],none⟩,
 ⟨some 40,.call,[.c (.pv none (.func (.func 110))),.t 35,.t 39],none⟩,
 ⟨some 41,.not,[.t 40],none⟩]
def c66r18 : List AOper := [
 ⟨some 42,.mv,[.t 7],none⟩,
 ⟨some 43,.mv,[.t 8],none⟩,
 ⟨some 44,.mv,[.t 9],none⟩,
 ⟨some 45,(.iaddr none),[.t 43,.t 44],none⟩,
 ⟨some 46,(.load none),[.t 45],none⟩,
 ⟨some 47,(.build [(none,(.pv none (.int .i64 0))),(none,(.pv none (.int .i64 0))),(none,(.pv none (.str []))),(none,(.tsl (some 4) []))] [0,1]),[.c (.pv none (.int .i64 0)),.t 46],none⟩,
 ⟨some 48,(.bslice (some 4)),[.t 47],none⟩,
 ⟨some 49,(.append (some 4)),[.t 42,.t 48],none⟩,
 ⟨some 7,.mv,[.t 49],none⟩]
def c66k19 : ACode := (.cond (.t 41) (.region true c66r18 [5,7,8,9]) .skip)
def c66k20 : ACode := (.block 3 (.seq (.region true c66r17 [5,7,8,9,41]) c66k19))
def c66r21 : List AOper := [
 ⟨some 33,.mv,[.t 9],none⟩,
 ⟨some 34,(.bin .add),[.t 33,.c (.pv none (.int .i64 1))],none⟩,
 ⟨some 9,.mv,[.t 34],none⟩]
def c66b22 : ACode := (.seq (.seq (.region true c66r15 [5,7,8,9,32]) c66k16) (.seq c66k20 (.region true c66r21 [5,7,8,9])))
def c66k23 : ACode := (.block 2 (.loop [5,7,8,9] c66b22))
def c66r24 : List AOper := [
 ⟨some 50,.mv,[.t 7],none⟩,
 ⟨some 4,.mv,[.t 50],none⟩]
def c66 : ACode := (.seq (.region true c66r0 [2,3]) (.seq (.region true c66r1 [3,5]) (.seq (.seq (.region true c66r2 [3,5,6]) c66k11) (.seq (.region true c66r12 [3,5,7]) (.seq (.region true c66r13 [5,7,8]) (.seq (.seq (.region true c66r14 [5,7,8,9]) c66k23) (.seq (.region true c66r24 [4]) .ret)))))))
def g66 : AFn := ⟨2,[(4,none)],c66,false,[],[],none⟩
theorem tr66 : trFn Tryz.prog false 66 Tryz.f66 = some g66 := by kernel_rfl
def c67r0 : List AOper := [
 ⟨some 3,(.box (some 4)),[.t 0],none⟩,
 ⟨some 6,.mv,[.c (.pv none (.bool false))],none⟩]
def c67r1 : List AOper := [
 ⟨some 7,(.faddr 0),[.t 3],none⟩,
 ⟨some 8,(.load none),[.t 7],none⟩,
 ⟨some 9,(.bin .eql),[.t 8,.c (.pv none (.int .i64 3))],none⟩,
 ⟨some 10,.mv,[.t 9],none⟩,
 ⟨some 11,(.faddr 2),[.t 3],some (10,true)⟩,
 ⟨some 12,(.load none),[.t 11],some (10,true)⟩,
 ⟨some 13,.mv,[.t 1],some (10,true)⟩,
 ⟨some 14,(.bin .eql),[.t 12,.t 13],some (10,true)⟩,
 ⟨some 15,.pick,[.t 10,.t 14,.c (.pv none (.bool false))],none⟩,
 ⟨some 16,.mv,[.t 15],none⟩,
 ⟨some 17,(.faddr 3),[.t 3],some (16,true)⟩,
 ⟨some 18,(.load none),[.t 17],some (16,true)⟩,
 ⟨some 19,.len,[.t 18],some (16,true)⟩,
 ⟨some 20,.mv,[.t 2],some (16,true)⟩,
 ⟨some 21,(.bin .eql),[.t 19,.t 20],some (16,true)⟩,
 ⟨some 22,.pick,[.t 16,.t 21,.c (.pv none (.bool false))],none⟩,
 ⟨some 6,.mv,[.t 22],none⟩]
def c67 : ACode := (.seq (.region true c67r0 [1,2,3]) (.seq (.region true c67r1 [6]) .ret))
def g67 : AFn := ⟨3,[(6,none)],c67,false,[],[],none⟩
theorem tr67 : trFn Tryz.prog false 67 Tryz.f67 = some g67 := by kernel_rfl
def c68r0 : List AOper := [
 ⟨some 0,(.alloc (some 4) (.agg [(none,(.pv none (.int .i64 0))),(none,(.pv none (.int .i64 0))),(none,(.pv none (.str []))),(none,(.tsl (some 4) []))])),[],none⟩]
def c68r1 : List AOper := [
 ⟨some 1,.call,[.c (.pv none (.func (.func 111))),.c (.pv none (.str [105,110,115,116,97,110,116,105,97,116,105,111,110,95,101,114,114,111,114])),.c (.tsl (some 4) [])],none⟩,
 ⟨none,(.store (some 4)),[.t 0,.t 1],none⟩]
def c68 : ACode := (.seq (.region true c68r0 [0]) (.seq (.region true c68r1 [0]) .ret))
def g68 : AFn := ⟨0,[(0,some (some 4))],c68,false,[],[],none⟩
theorem tr68 : trFn Tryz.prog false 68 Tryz.f68 = some g68 := by kernel_rfl
def c69r0 : List AOper := [
 ⟨some 3,(.box (some 4)),[.t 1],none⟩,
 ⟨some 4,(.alloc (some 4) (.agg [(none,(.pv none (.int .i64 0))),(none,(.pv none (.int .i64 0))),(none,(.pv none (.str []))),(none,(.tsl (some 4) []))])),[],none⟩]
def c69r1 : List AOper := [
 ⟨some 5,(.load (some 4)),[.t 3],none⟩,
 ⟨some 6,.mv,[.t 0],none⟩,
 ⟨some 7,(.bslice none),[.t 6],none⟩,
 ⟨some 8,.call,[.c (.pv none (.func (.func 112))),.t 5,.c (.pv none (.str [116,121,112,101,95,101,114,114,111,114])),.t 7],none⟩,
 ⟨none,(.store (some 4)),[.t 4,.t 8],none⟩]
def c69 : ACode := (.seq (.region true c69r0 [0,3,4]) (.seq (.region true c69r1 [4]) .ret))
def g69 : AFn := ⟨2,[(4,some (some 4))],c69,false,[],[],none⟩
theorem tr69 : trFn Tryz.prog false 69 Tryz.f69 = some g69 := by kernel_rfl
def c70r0 : List AOper := [
 ⟨some 1,(.box (some 4)),[.t 0],none⟩,
 ⟨some 2,.mv,[.c (.pv none (.bool false))],none⟩]
def c70r1 : List AOper := [
 ⟨some 6,(.load (some 4)),[.t 1],none⟩,
 ⟨some 7,.call,[.c (.pv none (.func (.func 50))),.t 6],none⟩,
 ⟨some 5,.mv,[.t 7],none⟩,
 ⟨some 8,(.extract 0),[.t 5],none⟩,
 ⟨some 9,(.extract 1),[.t 5],none⟩,
 ⟨some 4,(.alloc (some 4) (.agg [(none,(.pv none (.int .i64 0))),(none,(.pv none (.int .i64 0))),(none,(.pv none (.str []))),(none,(.tsl (some 4) []))])),[],none⟩,
 ⟨some 3,.mv,[.t 8],none⟩,
 ⟨none,(.store (some 4)),[.t 4,.t 9],none⟩]
def c70r2 : List AOper := [
 ⟨some 10,(.faddr 0),[.t 4],none⟩,
 ⟨some 11,(.load none),[.t 10],none⟩,
 ⟨some 12,(.bin .eql),[.t 11,.c (.pv none (.int .i64 0))],none⟩,
 ⟨some 13,.mv,[.t 12],none⟩,
 ⟨some 14,(.faddr 0),[.t 4],some (13,false)⟩,
 ⟨some 15,(.load none),[.t 14],some (13,false)⟩,
 ⟨some 16,(.bin .eql),[.t 15,.c (.pv none (.int .i64 2))],some (13,false)⟩,
 ⟨some 17,.mv,[.t 16],some (13,false)⟩,
 ⟨some 18,(.faddr 2),[.t 4],some (17,true)⟩,
 ⟨some 19,(.load none),[.t 18],some (17,true)⟩,
 ⟨some 20,(.bin .eql),[.t 19,.c (.pv none (.str [91,93]))],some (17,true)⟩,
 ⟨some 21,.pick,[.t 17,.t 20,.c (.pv none (.bool false))],some (13,false)⟩,
 ⟨some 22,.pick,[.t 13,.c (.pv none (.bool true)),.t 21],none⟩,
 ⟨some 2,.mv,[.t 22],none⟩]
def c70 : ACode := (.seq (.region true c70r0 [1]) (.seq (.region true c70r1 [4]) (.seq (.region true c70r2 [2]) .ret)))
def g70 : AFn := ⟨1,[(2,none)],c70,false,[],[],none⟩
theorem tr70 : trFn Tryz.prog false 70 Tryz.f70 = some g70 := by kernel_rfl
def c71r0 : List AOper := [
 ⟨some 1,(.box (some 4)),[.t 0],none⟩,
 ⟨some 2,.mv,[.c (.pv none (.int .i64 0))],none⟩]
def c71r1 : List AOper := [
 ⟨some 3,.mv,[.c (.pv none (.int .i64 0))],none⟩]
def c71r2 : List AOper := [
 ⟨some 6,(.load (some 4)),[.t 1],none⟩,
 ⟨some 7,.call,[.c (.pv none (.func (.func 64))),.t 6],none⟩,
 ⟨some 8,.len,[.t 7],none⟩,
 ⟨some 9,.mv,[.c (.pv none (.int .i64 0))],none⟩]
def c71r3 : List AOper := [
 ⟨some 10,(.bin .lss),[.t 9,.t 8],none⟩]
def c71k4 : ACode := (.cond (.t 10) .skip (.exit 0))
def c71r5 : List AOper := [
 ⟨some 11,(.iaddr none),[.t 7,.t 9],none⟩,
 ⟨some 12,(.load none),[.t 11],none⟩,
 ⟨some 5,.mv,[.t 12],none⟩]
def c71r6 : List AOper := [
 ⟨some 13,.mv,[.t 3],none⟩,
 ⟨some 14,.mv,[.t 5],none⟩,
 ⟨some 15,(.bin .add),[.t 14,.c (.pv none (.int .i64 1))],none⟩,
 ⟨some 16,.max,[.t 13,.t 15],none⟩,
 ⟨some 3,.mv,[.t 16],none⟩]
def c71k7 : ACode := (.block 1 (.seq (.region true c71r5 [3,5,7,8,9]) (.region true c71r6 [3,7,8,9])))
def c71r8 : List AOper := [
 ⟨some 17,(.bin .add),[.t 9,.c (.pv none (.int .i64 1))],none⟩,
 ⟨some 9,.mv,[.t 17],none⟩]
def c71b9 : ACode := (.seq (.region true c71r3 [3,7,8,9,10]) (.seq c71k4 (.seq c71k7 (.region true c71r8 [3,7,8,9]))))
def c71k10 : ACode := (.block 0 (.loop [3,7,8,9] c71b9))
def c71r11 : List AOper := [
 ⟨some 18,.mv,[.t 3],none⟩,
 ⟨some 2,.mv,[.t 18],none⟩]
def c71 : ACode := (.seq (.region true c71r0 [1]) (.seq (.region true c71r1 [1,3]) (.seq (.seq (.region true c71r2 [3,7,8,9]) c71k10) (.seq (.region true c71r11 [2]) .ret))))
def g71 : AFn := ⟨1,[(2,none)],c71,false,[],[],none⟩
theorem tr71 : trFn Tryz.prog false 71 Tryz.f71 = some g71 := by kernel_rfl
def c73r0 : List AOper := [
 ⟨some 1,(.box (some 4)),[.t 0],none⟩,
 ⟨some 2,(.nilsl none),[],none⟩]
def c73r1 : List AOper := [
 ⟨some 3,(.load (some 4)),[.t 1],none⟩,
 ⟨some 4,.call,[.c (.pv none (.func (.func 43))),.t 3],none⟩,
 ⟨some 5,.not,[.t 4],none⟩]
def c73r2 : List AOper := [
 ⟨some 2,(.nilsl none),[],none⟩]
def c73k3 : ACode := (.cond (.t 5) (.seq (.region true c73r2 [2]) .ret) .skip)
def c73r4 : List AOper := [
 ⟨some 6,(.load (some 4)),[.t 1],none⟩,
 ⟨some 7,.call,[.c (.pv none (.func (.func 113))),.c (.tsl none []),.t 6],none⟩,
 ⟨some 2,.mv,[.t 7],none⟩]
def c73 : ACode := (.seq (.region true c73r0 [1]) (.seq (.seq (.region true c73r1 [1,5]) c73k3) (.seq (.region true c73r4 [2]) .ret)))
def g73 : AFn := ⟨1,[(2,none)],c73,true,[],[],none⟩
theorem tr73 : trFn Tryz.prog true 73 Tryz.f73 = some g73 := by kernel_rfl
def c74r0 : List AOper := [
 ⟨some 2,.mv,[.c (.pv none (.bool false))],none⟩]
def c74r1 : List AOper := [
 ⟨some 3,.mv,[.t 0],none⟩,
 ⟨some 4,(.bin .geq),[.t 3,.c (.pv none (.int .i64 0))],none⟩,
 ⟨some 5,.mv,[.t 4],none⟩,
 ⟨some 6,.mv,[.t 0],some (5,true)⟩,
 ⟨some 7,(.bin .leq),[.t 6,.c (.pv none (.int .i64 1099511627776))],some (5,true)⟩,
 ⟨some 8,.pick,[.t 5,.t 7,.c (.pv none (.bool false))],none⟩,
 ⟨some 2,.mv,[.t 8],none⟩]
def c74 : ACode := (.seq (.region true c74r0 [0]) (.seq (.region true c74r1 [2]) .ret))
def g74 : AFn := ⟨1,[(2,none)],c74,false,[],[],none⟩
theorem tr74 : trFn Tryz.prog false 74 Tryz.f74 = some g74 := by kernel_rfl
def c75r0 : List AOper := [
 ⟨some 2,(.box (some 4)),[.t 0],none⟩,
 ⟨some 3,(.box (some 4)),[.t 1],none⟩,
 ⟨some 4,.mv,[.c (.pv none (.bool false))],none⟩]
def c75r1 : List AOper := [
 ⟨some 6,(.faddr 0),[.t 2],none⟩,
 ⟨some 7,(.load none),[.t 6],none⟩,
 ⟨some 8,(.faddr 0),[.t 3],none⟩,
 ⟨some 9,(.load none),[.t 8],none⟩,
 ⟨some 10,(.bin .neq),[.t 7,.t 9],none⟩,
 ⟨some 11,.mv,[.t 10],none⟩,
 ⟨some 12,(.faddr 1),[.t 2],some (11,false)⟩,
 ⟨some 13,(.load none),[.t 12],some (11,false)⟩,
 ⟨some 14,(.faddr 1),[.t 3],some (11,false)⟩,
 ⟨some 15,(.load none),[.t 14],some (11,false)⟩,
 ⟨some 16,(.bin .neq),[.t 13,.t 15],some (11,false)⟩,
 ⟨some 17,.pick,[.t 11,.c (.pv none (.bool true)),.t 16],none⟩,
 ⟨some 18,.mv,[.t 17],none⟩,
 ⟨some 19,(.faddr 2),[.t 2],some (18,false)⟩,
 ⟨some 20,(.load none),[.t 19],some (18,false)⟩,
 ⟨some 21,(.faddr 2),[.t 3],some (18,false)⟩,
 ⟨some 22,(.load none),[.t 21],some (18,false)⟩,
 ⟨some 23,(.bin .neq),[.t 20,.t 22],some (18,false)⟩,
 ⟨some 24,.pick,[.t 18,.c (.pv none (.bool true)),.t 23],none⟩,
 ⟨some 25,.mv,[.t 24],none⟩,
 ⟨some 26,(.faddr 3),[.t 2],some (25,false)⟩,
 ⟨some 27,(.load none),[.t 26],some (25,false)⟩,
 ⟨some 28,.len,[.t 27],some (25,false)⟩,
 ⟨some 29,(.faddr 3),[.t 3],some (25,false)⟩,
 ⟨some 30,(.load none),[.t 29],some (25,false)⟩,
 ⟨some 31,.len,[.t 30],some (25,false)⟩,
 ⟨some 32,(.bin .neq),[.t 28,.t 31],some (25,false)⟩,
 ⟨some 33,.pick,[.t 25,.c (.pv none (.bool true)),.t 32],none⟩]
def c75r2 : List AOper := [
 ⟨some 4,.mv,[.c (.pv none (.bool false))],none⟩]
def c75k3 : ACode := (.cond (.t 33) (.seq (.region true c75r2 [4]) .ret) .skip)
def c75r4 : List AOper := [
 ⟨some 5,.mv,[.c (.pv none (.int .i64 0))],none⟩]
def c75r5 : List AOper := [
 ⟨some 34,.mv,[.t 5],none⟩,
 ⟨some 35,(.faddr 3),[.t 2],none⟩,
 ⟨some 36,(.load none),[.t 35],none⟩,
 ⟨some 37,.len,[.t 36],none⟩,
 ⟨some 38,(.bin .lss),[.t 34,.t 37],none⟩]
def c75k6 : ACode := (.cond (.t 38) .skip (.exit 0))
def c75r7 : List AOper := [
 ⟨some 41,(.faddr 3),[.t 2],none⟩,
 ⟨some 42,(.load none),[.t 41],none⟩,
 ⟨some 43,.mv,[.t 5],none⟩,
 ⟨some 44,(.iaddr (some 4)),[.t 42,.t 43],none⟩,
 ⟨some 45,(.load (some 4)),[.t 44],none⟩,
 ⟨some 46,(.faddr 3),[.t 3],none⟩,
 ⟨some 47,(.load none),[.t 46],none⟩,
 ⟨some 48,.mv,[.t 5],none⟩,
 ⟨some 49,(.iaddr (some 4)),[.t 47,.t 48],none⟩,
 ⟨some 50,(.load (some 4)),[.t 49],none⟩,
 ⟨some 51,.call,[.c (.pv none (.func (.func 75))),.t 45,.t 50],none⟩,
 ⟨some 52,.not,[.t 51],none⟩]
def c75r8 : List AOper := [
 ⟨some 4,.mv,[.c (.pv none (.bool false))],none⟩]
def c75k9 : ACode := (.cond (.t 52) (.seq (.region true c75r8 [4]) .ret) .skip)
def c75k10 : ACode := (.block 1 (.seq (.region true c75r7 [2,3,5,52]) c75k9))
def c75r11 : List AOper := [
 ⟨some 39,.mv,[.t 5],none⟩,
 ⟨some 40,(.bin .add),[.t 39,.c (.pv none (.int .i64 1))],none⟩,
 ⟨some 5,.mv,[.t 40],none⟩]
def c75b12 : ACode := (.seq (.seq (.region true c75r5 [2,3,5,38]) c75k6) (.seq c75k10 (.region true c75r11 [2,3,5])))
def c75k13 : ACode := (.block 0 (.loop [2,3,5] c75b12))
def c75r14 : List AOper := [
 ⟨some 4,.mv,[.c (.pv none (.bool true))],none⟩]
def c75 : ACode := (.seq (.region true c75r0 [2,3]) (.seq (.seq (.region true c75r1 [2,3,33]) c75k3) (.seq (.seq (.region true c75r4 [2,3,5]) c75k13) (.seq (.region true c75r14 [4]) .ret))))
def g75 : AFn := ⟨2,[(4,none)],c75,false,[],[],none⟩
theorem tr75 : trFn Tryz.prog false 75 Tryz.f75 = some g75 := by kernel_rfl
def c76r0 : List AOper := [
 ⟨some 3,(.box (some 4)),[.t 1],none⟩,
 ⟨some 4,(.alloc (some 4) (.agg [(none,(.pv none (.int .i64 0))),(none,(.pv none (.int .i64 0))),(none,(.pv none (.str []))),(none,(.tsl (some 4) []))])),[],none⟩]
def c76r1 : List AOper := [
 ⟨some 10,.mv,[.t 0],none⟩,
 ⟨some 11,.len,[.t 10],none⟩,
 ⟨some 12,(.bin .gtr),[.t 11,.c (.pv none (.int .i64 2000))],none⟩,
 ⟨some 13,.mv,[.t 12],none⟩,
 ⟨some 14,(.load (some 4)),[.t 3],some (13,false)⟩,
 ⟨some 15,.call,[.c (.pv none (.func (.func 45))),.t 14],some (13,false)⟩,
 ⟨some 16,.not,[.t 15],some (13,false)⟩,
 ⟨some 17,.pick,[.t 13,.c (.pv none (.bool true)),.t 16],none⟩]
def c76r2 : List AOper := [
 ⟨some 18,(.build [(none,(.pv none (.int .i64 0))),(none,(.pv none (.int .i64 0))),(none,(.pv none (.str []))),(none,(.tsl (some 4) []))] []),[],none⟩,
 ⟨none,(.store (some 4)),[.t 4,.t 18],none⟩]
def c76k3 : ACode := (.cond (.t 17) (.seq (.region true c76r2 [4]) .ret) .skip)
def c76r4 : List AOper := [
 ⟨some 19,(.load (some 4)),[.t 3],none⟩,
 ⟨some 20,.call,[.c (.pv none (.func (.func 87))),.t 19],none⟩,
 ⟨some 5,.mv,[.t 20],none⟩]
def c76r5 : List AOper := [
 ⟨some 21,.mv,[.t 0],none⟩,
 ⟨some 22,.len,[.t 21],none⟩,
 ⟨some 23,.mv,[.c (.pv none (.int .i64 0))],none⟩]
def c76r6 : List AOper := [
 ⟨some 24,(.bin .lss),[.t 23,.t 22],none⟩]
def c76k7 : ACode := (.cond (.t 24) .skip (.exit 0))
def c76r8 : List AOper := [
 ⟨some 25,(.iaddr (some 4)),[.t 21,.t 23],none⟩,
 ⟨some 26,(.load (some 4)),[.t 25],none⟩,
 ⟨some 7,(.alloc (some 4) (.agg [(none,(.pv none (.int .i64 0))),(none,(.pv none (.int .i64 0))),(none,(.pv none (.str []))),(none,(.tsl (some 4) []))])),[],none⟩,
 ⟨none,(.store (some 4)),[.t 7,.t 26],none⟩]
def c76r9 : List AOper := [
 ⟨some 27,.mv,[.t 5],none⟩,
 ⟨some 28,(.load (some 4)),[.t 7],none⟩,
 ⟨some 29,.call,[.c (.pv none (.func (.func 87))),.t 28],none⟩,
 ⟨some 30,(.bin .add),[.c (.pv none (.int .i64 1)),.t 29],none⟩,
 ⟨some 31,(.bin .add),[.t 27,.t 30],none⟩,
 ⟨some 5,.mv,[.t 31],none⟩]
def c76r10 : List AOper := [
 ⟨some 32,.mv,[.t 5],none⟩,
 ⟨some 33,(.bin .gtr),[.t 32,.c (.pv none (.int .i64 2000))],none⟩,
 ⟨some 34,.mv,[.t 33],none⟩,
 ⟨some 35,(.load (some 4)),[.t 7],some (34,false)⟩,
 ⟨some 36,.call,[.c (.pv none (.func (.func 96))),.t 35],some (34,false)⟩,
 ⟨some 37,.not,[.t 36],some (34,false)⟩,
 ⟨some 38,.pick,[.t 34,.c (.pv none (.bool true)),.t 37],none⟩]
def c76r11 : List AOper := [
 ⟨some 39,(.build [(none,(.pv none (.int .i64 0))),(none,(.pv none (.int .i64 0))),(none,(.pv none (.str []))),(none,(.tsl (some 4) []))] []),[],none⟩,
 ⟨none,(.store (some 4)),[.t 4,.t 39],none⟩]
def c76k12 : ACode := (.cond (.t 38) (.seq (.region true c76r11 [4]) .ret) .skip)
def c76k13 : ACode := (.block 1 (.seq (.region true c76r8 [0,3,4,5,7,21,22,23]) (.seq (.region true c76r9 [0,3,4,5,7,21,22,23]) (.seq (.region true c76r10 [0,3,4,5,21,22,23,38]) c76k12))))
def c76r14 : List AOper := [
 ⟨some 40,(.bin .add),[.t 23,.c (.pv none (.int .i64 1))],none⟩,
 ⟨some 23,.mv,[.t 40],none⟩]
def c76b15 : ACode := (.seq (.region true c76r6 [0,3,4,5,21,22,23,24]) (.seq c76k7 (.seq c76k13 (.region true c76r14 [0,3,4,5,21,22,23]))))
def c76k16 : ACode := (.block 0 (.loop [0,3,4,5,21,22,23] c76b15))
def c76r17 : List AOper := [
 ⟨some 41,(.load (some 4)),[.t 3],none⟩,
 ⟨some 42,.call,[.c (.pv none (.func (.func 38))),.t 41],none⟩,
 ⟨some 8,(.alloc (some 4) (.agg [(none,(.pv none (.int .i64 0))),(none,(.pv none (.int .i64 0))),(none,(.pv none (.str []))),(none,(.tsl (some 4) []))])),[],none⟩,
 ⟨none,(.store (some 4)),[.t 8,.t 42],none⟩]
def c76r18 : List AOper := [
 ⟨some 43,.mv,[.t 0],none⟩,
 ⟨some 44,.len,[.t 43],none⟩,
 ⟨some 45,(.bin .sub),[.t 44,.c (.pv none (.int .i64 1))],none⟩,
 ⟨some 9,.mv,[.t 45],none⟩]
def c76r19 : List AOper := [
 ⟨some 46,.mv,[.t 9],none⟩,
 ⟨some 47,(.bin .geq),[.t 46,.c (.pv none (.int .i64 0))],none⟩]
def c76k20 : ACode := (.cond (.t 47) .skip (.exit 2))
def c76r21 : List AOper := [
 ⟨some 50,.mv,[.t 0],none⟩,
 ⟨some 51,.mv,[.t 9],none⟩,
 ⟨some 52,(.iaddr (some 4)),[.t 50,.t 51],none⟩,
 ⟨some 53,(.load (some 4)),[.t 52],none⟩,
 ⟨some 54,.callp,[.c (.pv none (.func (.func 38))),.t 53],none⟩,
 ⟨some 55,(.load (some 4)),[.t 8],none⟩,
 ⟨some 56,(.bslicep (some 4)),[.t 54,.t 55],none⟩,
 ⟨some 57,(.build [(none,(.pv none (.int .i64 0))),(none,(.pv none (.int .i64 0))),(none,(.pv none (.str []))),(none,(.tsl (some 4) []))] [0,2,3]),[.c (.pv none (.int .i64 3)),.c (.pv none (.str [46])),.t 56],none⟩,
 ⟨none,(.store (some 4)),[.t 8,.t 57],none⟩]
def c76k22 : ACode := (.block 3 (.seq (.settle []) (.region true c76r21 [0,4,8,9])))
def c76r23 : List AOper := [
 ⟨some 48,.mv,[.t 9],none⟩,
 ⟨some 49,(.bin .sub),[.t 48,.c (.pv none (.int .i64 1))],none⟩,
 ⟨some 9,.mv,[.t 49],none⟩]
def c76b24 : ACode := (.seq (.seq (.region true c76r19 [0,4,8,9,47]) c76k20) (.seq c76k22 (.region true c76r23 [0,4,8,9])))
def c76k25 : ACode := (.block 2 (.loop [0,4,8,9] c76b24))
def c76r26 : List AOper := [
 ⟨some 58,(.load (some 4)),[.t 8],none⟩,
 ⟨none,(.store (some 4)),[.t 4,.t 58],none⟩]
def c76 : ACode := (.seq (.region true c76r0 [0,3,4]) (.seq (.seq (.region true c76r1 [0,3,4,17]) c76k3) (.seq (.region true c76r4 [0,3,4,5]) (.seq (.seq (.region true c76r5 [0,3,4,5,21,22,23]) c76k16) (.seq (.region true c76r17 [0,4,8]) (.seq (.seq (.region true c76r18 [0,4,8,9]) c76k25) (.seq (.region true c76r26 [4]) .ret)))))))
def g76 : AFn := ⟨2,[(4,some (some 4))],c76,false,[],[],none⟩
theorem tr76 : trFn Tryz.prog false 76 Tryz.f76 = some g76 := by kernel_rfl
def c77r0 : List AOper := [
 ⟨some 1,(.box (some 4)),[.t 0],none⟩,
 ⟨some 2,(.alloc (some 4) (.agg [(none,(.pv none (.int .i64 0))),(none,(.pv none (.int .i64 0))),(none,(.pv none (.str []))),(none,(.tsl (some 4) []))])),[],none⟩]
def c77r1 : List AOper := [
 ⟨some 3,(.load (some 4)),[.t 1],none⟩,
 ⟨some 4,.callp,[.c (.pv none (.func (.func 78))),.c (.pv none (.str [91,93]))],none⟩,
 ⟨some 5,(.bslicep (some 4)),[.t 3,.t 4],none⟩,
 ⟨some 6,.callp,[.c (.pv none (.func (.func 114))),.c (.pv none (.str [101,114,114,111,114])),.t 5],none⟩,
 ⟨some 7,.callp,[.c (.pv none (.func (.func 58))),.t 6],none⟩,
 ⟨none,(.store (some 4)),[.t 2,.t 7],none⟩]
def c77 : ACode := (.seq (.region true c77r0 [1,2]) (.seq (.seq (.settle []) (.region true c77r1 [2])) .ret))
def g77 : AFn := ⟨1,[(2,some (some 4))],c77,false,[],[],none⟩
theorem tr77 : trFn Tryz.prog false 77 Tryz.f77 = some g77 := by kernel_rfl
def c78r0 : List AOper := [
 ⟨some 2,(.alloc (some 4) (.agg [(none,(.pv none (.int .i64 0))),(none,(.pv none (.int .i64 0))),(none,(.pv none (.str []))),(none,(.tsl (some 4) []))])),[],none⟩]
def c78r1 : List AOper := [
 ⟨some 3,.mv,[.t 0],none⟩,
 ⟨some 4,(.build [(none,(.pv none (.int .i64 0))),(none,(.pv none (.int .i64 0))),(none,(.pv none (.str []))),(none,(.tsl (some 4) []))] [0,2]),[.c (.pv none (.int .i64 2)),.t 3],none⟩,
 ⟨none,(.store (some 4)),[.t 2,.t 4],none⟩]
def c78 : ACode := (.seq (.region true c78r0 [0,2]) (.seq (.region true c78r1 [2]) .ret))
def g78 : AFn := ⟨1,[(2,some (some 4))],c78,false,[],[],none⟩
theorem tr78 : trFn Tryz.prog false 78 Tryz.f78 = some g78 := by kernel_rfl
def c79r0 : List AOper := [
 ⟨some 3,(.box (some 4)),[.t 0],none⟩,
 ⟨some 6,(.alloc (some 4) (.agg [(none,(.pv none (.int .i64 0))),(none,(.pv none (.int .i64 0))),(none,(.pv none (.str []))),(none,(.tsl (some 4) []))])),[],none⟩]
def c79r1 : List AOper := [
 ⟨some 9,(.load (some 4)),[.t 3],none⟩,
 ⟨some 10,.call,[.c (.pv none (.func (.func 43))),.t 9],none⟩,
 ⟨some 11,.not,[.t 10],none⟩]
def c79r2 : List AOper := [
 ⟨some 12,(.build [(none,(.pv none (.int .i64 0))),(none,(.pv none (.int .i64 0))),(none,(.pv none (.str []))),(none,(.tsl (some 4) []))] []),[],none⟩,
 ⟨none,(.store (some 4)),[.t 6,.t 12],none⟩]
def c79k3 : ACode := (.cond (.t 11) (.seq (.region true c79r2 [6]) .ret) .skip)
def c79r4 : List AOper := [
 ⟨some 7,(.nilsl (some 4)),[],none⟩]
def c79r5 : List AOper := [
 ⟨some 8,.mv,[.c (.pv none (.int .i64 0))],none⟩]
def c79r6 : List AOper := [
 ⟨some 13,.mv,[.t 8],none⟩,
 ⟨some 14,.mv,[.t 2],none⟩,
 ⟨some 15,.len,[.t 14],none⟩,
 ⟨some 16,(.bin .lss),[.t 13,.t 15],none⟩]
def c79k7 : ACode := (.cond (.t 16) .skip (.exit 0))
def c79r8 : List AOper := [
 ⟨some 19,.mv,[.t 7],none⟩,
 ⟨some 20,.mv,[.t 2],none⟩,
 ⟨some 21,.mv,[.t 8],none⟩,
 ⟨some 22,(.iaddr none),[.t 20,.t 21],none⟩,
 ⟨some 23,(.load none),[.t 22],none⟩,
 ⟨some 24,.call,[.c (.pv none (.func (.func 78))),.t 23],none⟩,
 ⟨some 25,(.bslice (some 4)),[.t 24],none⟩,
 ⟨some 26,(.append (some 4)),[.t 19,.t 25],none⟩,
 ⟨some 7,.mv,[.t 26],none⟩]
def c79k9 : ACode := (.block 1 (.region true c79r8 [1,2,3,6,7,8]))
def c79r10 : List AOper := [
 ⟨some 17,.mv,[.t 8],none⟩,
 ⟨some 18,(.bin .add),[.t 17,.c (.pv none (.int .i64 1))],none⟩,
 ⟨some 8,.mv,[.t 18],none⟩]
def c79b11 : ACode := (.seq (.seq (.region true c79r6 [1,2,3,6,7,8,16]) c79k7) (.seq c79k9 (.region true c79r10 [1,2,3,6,7,8])))
def c79k12 : ACode := (.block 0 (.loop [1,2,3,6,7,8] c79b11))
def c79r13 : List AOper := [
 ⟨some 27,.mv,[.t 2],none⟩,
 ⟨some 28,.len,[.t 27],none⟩,
 ⟨some 29,(.bin .add),[.c (.pv none (.int .i64 2)),.t 28],none⟩,
 ⟨some 30,(.load (some 4)),[.t 3],none⟩,
 ⟨some 31,.call,[.c (.pv none (.func (.func 93))),.t 30],none⟩,
 ⟨some 32,(.bin .add),[.t 29,.t 31],none⟩,
 ⟨some 33,(.bin .add),[.t 32,.c (.pv none (.int .i64 1))],none⟩,
 ⟨some 34,(.bin .gtr),[.t 33,.c (.pv none (.int .i64 2000))],none⟩]
def c79r14 : List AOper := [
 ⟨some 35,.call,[.c (.pv none (.func (.func 78))),.c (.pv none (.str [46,46,46]))],none⟩,
 ⟨none,(.store (some 4)),[.t 3,.t 35],none⟩]
def c79k15 : ACode := (.cond (.t 34) (.region true c79r14 [1,3,6,7]) .skip)
def c79r16 : List AOper := [
 ⟨some 36,.mv,[.t 1],none⟩,
 ⟨some 37,.mv,[.t 7],none⟩,
 ⟨some 38,(.load (some 4)),[.t 3],none⟩,
 ⟨some 39,(.bslice (some 4)),[.t 38],none⟩,
 ⟨some 40,(.append (some 4)),[.t 37,.t 39],none⟩,
 ⟨some 41,.call,[.c (.pv none (.func (.func 114))),.t 36,.t 40],none⟩,
 ⟨some 42,.call,[.c (.pv none (.func (.func 77))),.t 41],none⟩,
 ⟨none,(.store (some 4)),[.t 6,.t 42],none⟩]
def c79 : ACode := (.seq (.region true c79r0 [1,2,3,6]) (.seq (.seq (.region true c79r1 [1,2,3,6,11]) c79k3) (.seq (.region true c79r4 [1,2,3,6,7]) (.seq (.seq (.region true c79r5 [1,2,3,6,7,8]) c79k12) (.seq (.seq (.region true c79r13 [1,3,6,7,34]) c79k15) (.seq (.region true c79r16 [6]) .ret))))))
def g79 : AFn := ⟨3,[(6,some (some 4))],c79,false,[],[],none⟩
theorem tr79 : trFn Tryz.prog false 79 Tryz.f79 = some g79 := by kernel_rfl
def c80r0 : List AOper := [
 ⟨some 2,.mv,[.c (.pv none (.bool false))],none⟩]
def c80r1 : List AOper := [
 ⟨some 5,.mv,[.t 0],none⟩,
 ⟨some 6,.len,[.t 5],none⟩,
 ⟨some 7,.mv,[.c (.pv none (.int .i64 0))],none⟩]
def c80r2 : List AOper := [
 ⟨some 8,(.bin .lss),[.t 7,.t 6],none⟩]
def c80k3 : ACode := (.cond (.t 8) .skip (.exit 0))
def c80r4 : List AOper := [
 ⟨some 9,(.iaddr (some 4)),[.t 5,.t 7],none⟩,
 ⟨some 10,(.load (some 4)),[.t 9],none⟩,
 ⟨some 4,(.alloc (some 4) (.agg [(none,(.pv none (.int .i64 0))),(none,(.pv none (.int .i64 0))),(none,(.pv none (.str []))),(none,(.tsl (some 4) []))])),[],none⟩,
 ⟨none,(.store (some 4)),[.t 4,.t 10],none⟩]
def c80r5 : List AOper := [
 ⟨some 11,(.load (some 4)),[.t 4],none⟩,
 ⟨some 12,.call,[.c (.pv none (.func (.func 45))),.t 11],none⟩,
 ⟨some 13,.not,[.t 12],none⟩]
def c80r6 : List AOper := [
 ⟨some 2,.mv,[.c (.pv none (.bool false))],none⟩]
def c80k7 : ACode := (.cond (.t 13) (.seq (.region true c80r6 [2]) .ret) .skip)
def c80k8 : ACode := (.block 1 (.seq (.region true c80r4 [4,5,6,7]) (.seq (.region true c80r5 [5,6,7,13]) c80k7)))
def c80r9 : List AOper := [
 ⟨some 14,(.bin .add),[.t 7,.c (.pv none (.int .i64 1))],none⟩,
 ⟨some 7,.mv,[.t 14],none⟩]
def c80b10 : ACode := (.seq (.region true c80r2 [5,6,7,8]) (.seq c80k3 (.seq c80k8 (.region true c80r9 [5,6,7]))))
def c80k11 : ACode := (.block 0 (.loop [5,6,7] c80b10))
def c80r12 : List AOper := [
 ⟨some 2,.mv,[.c (.pv none (.bool true))],none⟩]
def c80 : ACode := (.seq (.region true c80r0 [0]) (.seq (.seq (.region true c80r1 [5,6,7]) c80k11) (.seq (.region true c80r12 [2]) .ret)))
def g80 : AFn := ⟨1,[(2,none)],c80,false,[],[],none⟩
theorem tr80 : trFn Tryz.prog false 80 Tryz.f80 = some g80 := by kernel_rfl
def c81r0 : List AOper := [
 ⟨some 4,(.nilsl (some 4)),[],none⟩]
def c81r1 : List AOper := [
 ⟨some 8,.mv,[.t 0],none⟩,
 ⟨some 9,.len,[.t 8],none⟩,
 ⟨some 10,(.mkslice (some 4) (.agg [(none,(.int .i64 0)),(none,(.int .i64 0)),(none,(.str [])),(none,(.sl (some 4) []))])),[.c (.pv none (.int .i64 0)),.t 9],none⟩,
 ⟨some 5,.mv,[.t 10],none⟩]
def c81r2 : List AOper := [
 ⟨some 11,.mv,[.t 0],none⟩,
 ⟨some 12,.len,[.t 11],none⟩,
 ⟨some 13,.mv,[.c (.pv none (.int .i64 0))],none⟩]
def c81r3 : List AOper := [
 ⟨some 14,(.bin .lss),[.t 13,.t 12],none⟩]
def c81k4 : ACode := (.cond (.t 14) .skip (.exit 0))
def c81r5 : List AOper := [
 ⟨some 15,(.iaddr (some 4)),[.t 11,.t 13],none⟩,
 ⟨some 16,(.load (some 4)),[.t 15],none⟩,
 ⟨some 7,(.alloc (some 4) (.agg [(none,(.pv none (.int .i64 0))),(none,(.pv none (.int .i64 0))),(none,(.pv none (.str []))),(none,(.tsl (some 4) []))])),[],none⟩,
 ⟨none,(.store (some 4)),[.t 7,.t 16],none⟩]
def c81r6 : List AOper := [
 ⟨some 17,.mv,[.t 5],none⟩,
 ⟨some 18,(.load (some 4)),[.t 7],none⟩,
 ⟨some 19,.call,[.c (.pv none (.func (.func 38))),.t 18],none⟩,
 ⟨some 20,(.bslice (some 4)),[.t 19],none⟩,
 ⟨some 21,(.append (some 4)),[.t 17,.t 20],none⟩,
 ⟨some 5,.mv,[.t 21],none⟩]
def c81k7 : ACode := (.block 1 (.seq (.region true c81r5 [1,5,7,11,12,13]) (.region true c81r6 [1,5,11,12,13])))
def c81r8 : List AOper := [
 ⟨some 22,(.bin .add),[.t 13,.c (.pv none (.int .i64 1))],none⟩,
 ⟨some 13,.mv,[.t 22],none⟩]
def c81b9 : ACode := (.seq (.region true c81r3 [1,5,11,12,13,14]) (.seq c81k4 (.seq c81k7 (.region true c81r8 [1,5,11,12,13]))))
def c81k10 : ACode := (.block 0 (.loop [1,5,11,12,13] c81b9))
def c81r11 : List AOper := [
 ⟨some 23,.mv,[.t 5],none⟩,
 ⟨some 24,.mv,[.t 1],none⟩,
 ⟨some 25,.call,[.c (.pv none (.func (.func 115))),.t 23,.t 24],none⟩]
def c81r12 : List AOper := [
 ⟨some 26,.mv,[.t 5],none⟩,
 ⟨some 4,.mv,[.t 26],none⟩]
def c81 : ACode := (.seq (.region true c81r0 [0,1]) (.seq (.region true c81r1 [0,1,5]) (.seq (.seq (.region true c81r2 [1,5,11,12,13]) c81k10) (.seq (.region true c81r11 [5]) (.seq (.region true c81r12 [4]) .ret)))))
def g81 : AFn := ⟨2,[(4,none)],c81,true,[],[],none⟩
theorem tr81 : trFn Tryz.prog true 81 Tryz.f81 = some g81 := by kernel_rfl
def c82r0 : List AOper := [
 ⟨some 2,(.box (some 4)),[.t 0],none⟩,
 ⟨some 3,(.box (some 4)),[.t 1],none⟩,
 ⟨some 4,.mv,[.c (.pv none (.int .i64 0))],none⟩]
def c82r1 : List AOper := [
 ⟨some 5,(.faddr 3),[.t 2],none⟩,
 ⟨some 6,(.load none),[.t 5],none⟩,
 ⟨some 7,(.iaddr (some 4)),[.t 6,.c (.pv none (.int .i64 0))],none⟩,
 ⟨some 8,(.load (some 4)),[.t 7],none⟩,
 ⟨some 9,(.faddr 3),[.t 3],none⟩,
 ⟨some 10,(.load none),[.t 9],none⟩,
 ⟨some 11,(.iaddr (some 4)),[.t 10,.c (.pv none (.int .i64 0))],none⟩,
 ⟨some 12,(.load (some 4)),[.t 11],none⟩,
 ⟨some 13,.call,[.c (.pv none (.func (.func 83))),.t 8,.t 12],none⟩,
 ⟨some 4,.mv,[.t 13],none⟩]
def c82 : ACode := (.seq (.region true c82r0 [2,3]) (.seq (.region true c82r1 [4]) .ret))
def g82 : AFn := ⟨2,[(4,none)],c82,false,[],[],none⟩
theorem tr82 : trFn Tryz.prog false 82 Tryz.f82 = some g82 := by kernel_rfl
end Go.Proofs.YtffecaafklpmhaaGreat
