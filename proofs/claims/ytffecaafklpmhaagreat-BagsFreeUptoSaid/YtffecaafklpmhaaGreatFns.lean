/- The functions as the abstract machine has them,each proved to be what the translation gives. -/
import Derived.Test.YtffecaafklpmhaaGreatAm4
import Derived.Test.YtffecaafklpmhaaGreatProg
import Derived.KernelRfl
import Derived.Test.YtffecaafklpmhaaGreatFnsA
namespace Go.Proofs.YtffecaafklpmhaaGreat
open Go.Am
def c83r0 : List AOper := [
 ⟨some 2,(.box (some 4)),[.t 0],none⟩,
 ⟨some 3,(.box (some 4)),[.t 1],none⟩,
 ⟨some 4,.mv,[.c (.pv none (.int .i64 0))],none⟩]
def c83r1 : List AOper := [
 ⟨some 12,(.build [(none,(.pv none (.int .i64 0))),(none,(.pv none (.int .i64 0))),(none,(.pv none (.int .i64 0))),(none,(.pv none (.int .i64 0)))] [0,1,2,3]),[.c (.pv none (.int .i64 0)),.c (.pv none (.int .i64 1)),.c (.pv none (.int .i64 2)),.c (.pv none (.int .i64 3))],none⟩,
 ⟨some 5,(.alloc (some 4) (.pv (some 4) (.agg [(none,(.int .i64 0)),(none,(.int .i64 0)),(none,(.int .i64 0)),(none,(.int .i64 0))]))),[],none⟩,
 ⟨none,(.store (some 4)),[.t 5,.t 12],none⟩]
def c83r2 : List AOper := [
 ⟨some 13,(.faddr 0),[.t 2],none⟩,
 ⟨some 14,(.load none),[.t 13],none⟩,
 ⟨some 15,(.iaddrA none 4),[.t 5,.t 14],none⟩,
 ⟨some 16,(.load none),[.t 15],none⟩,
 ⟨some 17,(.faddr 0),[.t 3],none⟩,
 ⟨some 18,(.load none),[.t 17],none⟩,
 ⟨some 19,(.iaddrA none 4),[.t 5,.t 18],none⟩,
 ⟨some 20,(.load none),[.t 19],none⟩,
 ⟨some 21,.call,[.c (.pv none (.func (.func 116))),.t 16,.t 20],none⟩,
 ⟨some 6,.mv,[.t 21],none⟩]
def c83r3 : List AOper := [
 ⟨some 22,.mv,[.t 6],none⟩,
 ⟨some 23,(.bin .neq),[.t 22,.c (.pv none (.int .i64 0))],none⟩]
def c83r4 : List AOper := [
 ⟨some 24,.mv,[.t 6],none⟩,
 ⟨some 4,.mv,[.t 24],none⟩]
def c83k5 : ACode := (.cond (.t 23) (.seq (.region true c83r4 [4]) .ret) .skip)
def c83r6 : List AOper := [
 ⟨some 25,(.faddr 0),[.t 2],none⟩,
 ⟨some 26,(.load none),[.t 25],none⟩,
 ⟨some 27,(.bin .eql),[.t 26,.c (.pv none (.int .i64 0))],none⟩,
 ⟨some 28,.mv,[.t 27],none⟩,
 ⟨some 29,(.faddr 0),[.t 2],some (28,false)⟩,
 ⟨some 30,(.load none),[.t 29],some (28,false)⟩,
 ⟨some 31,(.bin .eql),[.t 30,.c (.pv none (.int .i64 1))],some (28,false)⟩,
 ⟨some 32,.pick,[.t 28,.c (.pv none (.bool true)),.t 31],none⟩]
def c83r7 : List AOper := [
 ⟨some 33,(.faddr 1),[.t 2],none⟩,
 ⟨some 34,(.load none),[.t 33],none⟩,
 ⟨some 35,(.faddr 1),[.t 3],none⟩,
 ⟨some 36,(.load none),[.t 35],none⟩,
 ⟨some 37,.call,[.c (.pv none (.func (.func 117))),.t 34,.t 36],none⟩,
 ⟨some 4,.mv,[.t 37],none⟩]
def c83k8 : ACode := (.cond (.t 32) (.seq (.region true c83r7 [4]) .ret) .skip)
def c83r9 : List AOper := [
 ⟨some 38,(.faddr 3),[.t 2],none⟩,
 ⟨some 39,(.load none),[.t 38],none⟩,
 ⟨some 40,.len,[.t 39],none⟩,
 ⟨some 41,(.faddr 3),[.t 3],none⟩,
 ⟨some 42,(.load none),[.t 41],none⟩,
 ⟨some 43,.len,[.t 42],none⟩,
 ⟨some 44,.call,[.c (.pv none (.func (.func 116))),.t 40,.t 43],none⟩,
 ⟨some 7,.mv,[.t 44],none⟩]
def c83r10 : List AOper := [
 ⟨some 45,.mv,[.t 7],none⟩,
 ⟨some 46,(.bin .neq),[.t 45,.c (.pv none (.int .i64 0))],none⟩]
def c83r11 : List AOper := [
 ⟨some 47,.mv,[.t 7],none⟩,
 ⟨some 4,.mv,[.t 47],none⟩]
def c83k12 : ACode := (.cond (.t 46) (.seq (.region true c83r11 [4]) .ret) .skip)
def c83r13 : List AOper := [
 ⟨some 48,(.faddr 2),[.t 2],none⟩,
 ⟨some 49,(.load none),[.t 48],none⟩,
 ⟨some 50,(.faddr 2),[.t 3],none⟩,
 ⟨some 51,(.load none),[.t 50],none⟩,
 ⟨some 52,.call,[.c (.pv none (.func (.func 118))),.t 49,.t 51],none⟩,
 ⟨some 8,.mv,[.t 52],none⟩]
def c83r14 : List AOper := [
 ⟨some 53,.mv,[.t 8],none⟩,
 ⟨some 54,(.bin .neq),[.t 53,.c (.pv none (.int .i64 0))],none⟩]
def c83r15 : List AOper := [
 ⟨some 55,.mv,[.t 8],none⟩,
 ⟨some 4,.mv,[.t 55],none⟩]
def c83k16 : ACode := (.cond (.t 54) (.seq (.region true c83r15 [4]) .ret) .skip)
def c83r17 : List AOper := [
 ⟨some 56,(.faddr 3),[.t 2],none⟩,
 ⟨some 57,(.load none),[.t 56],none⟩,
 ⟨some 58,.len,[.t 57],none⟩,
 ⟨some 59,.mv,[.c (.pv none (.int .i64 0))],none⟩]
def c83r18 : List AOper := [
 ⟨some 60,(.bin .lss),[.t 59,.t 58],none⟩]
def c83k19 : ACode := (.cond (.t 60) .skip (.exit 0))
def c83r20 : List AOper := [
 ⟨some 61,.mv,[.t 59],none⟩,
 ⟨some 62,(.iaddr (some 4)),[.t 57,.t 59],none⟩,
 ⟨some 63,(.load (some 4)),[.t 62],none⟩,
 ⟨some 10,(.alloc (some 4) (.agg [(none,(.pv none (.int .i64 0))),(none,(.pv none (.int .i64 0))),(none,(.pv none (.str []))),(none,(.tsl (some 4) []))])),[],none⟩,
 ⟨some 9,.mv,[.t 61],none⟩,
 ⟨none,(.store (some 4)),[.t 10,.t 63],none⟩]
def c83r21 : List AOper := [
 ⟨some 64,(.load (some 4)),[.t 10],none⟩,
 ⟨some 65,(.faddr 3),[.t 3],none⟩,
 ⟨some 66,(.load none),[.t 65],none⟩,
 ⟨some 67,.mv,[.t 9],none⟩,
 ⟨some 68,(.iaddr (some 4)),[.t 66,.t 67],none⟩,
 ⟨some 69,(.load (some 4)),[.t 68],none⟩,
 ⟨some 70,.call,[.c (.pv none (.func (.func 83))),.t 64,.t 69],none⟩,
 ⟨some 11,.mv,[.t 70],none⟩]
def c83r22 : List AOper := [
 ⟨some 71,.mv,[.t 11],none⟩,
 ⟨some 72,(.bin .neq),[.t 71,.c (.pv none (.int .i64 0))],none⟩]
def c83r23 : List AOper := [
 ⟨some 73,.mv,[.t 11],none⟩,
 ⟨some 4,.mv,[.t 73],none⟩]
def c83k24 : ACode := (.cond (.t 72) (.seq (.region true c83r23 [4]) .ret) .skip)
def c83k25 : ACode := (.block 1 (.seq (.region true c83r20 [3,9,10,57,58,59]) (.seq (.region true c83r21 [3,11,57,58,59]) (.seq (.region true c83r22 [3,11,57,58,59,72]) c83k24))))
def c83r26 : List AOper := [
 ⟨some 74,(.bin .add),[.t 59,.c (.pv none (.int .i64 1))],none⟩,
 ⟨some 59,.mv,[.t 74],none⟩]
def c83b27 : ACode := (.seq (.region true c83r18 [3,57,58,59,60]) (.seq c83k19 (.seq c83k25 (.region true c83r26 [3,57,58,59]))))
def c83k28 : ACode := (.block 0 (.loop [3,57,58,59] c83b27))
def c83r29 : List AOper := [
 ⟨some 4,.mv,[.c (.pv none (.int .i64 0))],none⟩]
def c83 : ACode := (.seq (.region true c83r0 [2,3]) (.seq (.region true c83r1 [2,3,5]) (.seq (.seq (.region true c83r2 [2,3,6]) (.seq (.region true c83r3 [2,3,6,23]) c83k5)) (.seq (.seq (.region true c83r6 [2,3,32]) c83k8) (.seq (.seq (.region true c83r9 [2,3,7]) (.seq (.region true c83r10 [2,3,7,46]) c83k12)) (.seq (.seq (.region true c83r13 [2,3,8]) (.seq (.region true c83r14 [2,3,8,54]) c83k16)) (.seq (.seq (.region true c83r17 [3,57,58,59]) c83k28) (.seq (.region true c83r29 [4]) .ret))))))))
def g83 : AFn := ⟨2,[(4,none)],c83,false,[],[],none⟩
theorem tr83 : trFn Tryz.prog false 83 Tryz.f83 = some g83 := by kernel_rfl
def c84r0 : List AOper := [
 ⟨some 2,(.box (some 4)),[.t 0],none⟩,
 ⟨some 3,(.box (some 4)),[.t 1],none⟩,
 ⟨some 4,.mv,[.c (.pv none (.bool false))],none⟩]
def c84r1 : List AOper := [
 ⟨some 7,(.faddr 0),[.t 2],none⟩,
 ⟨some 8,(.load none),[.t 7],none⟩,
 ⟨some 9,(.faddr 0),[.t 3],none⟩,
 ⟨some 10,(.load none),[.t 9],none⟩,
 ⟨some 11,(.bin .neq),[.t 8,.t 10],none⟩,
 ⟨some 12,.mv,[.t 11],none⟩,
 ⟨some 13,(.faddr 1),[.t 2],some (12,false)⟩,
 ⟨some 14,(.load none),[.t 13],some (12,false)⟩,
 ⟨some 15,(.faddr 1),[.t 3],some (12,false)⟩,
 ⟨some 16,(.load none),[.t 15],some (12,false)⟩,
 ⟨some 17,(.bin .neq),[.t 14,.t 16],some (12,false)⟩,
 ⟨some 18,.pick,[.t 12,.c (.pv none (.bool true)),.t 17],none⟩,
 ⟨some 19,.mv,[.t 18],none⟩,
 ⟨some 20,(.faddr 2),[.t 2],some (19,false)⟩,
 ⟨some 21,(.load none),[.t 20],some (19,false)⟩,
 ⟨some 22,(.faddr 2),[.t 3],some (19,false)⟩,
 ⟨some 23,(.load none),[.t 22],some (19,false)⟩,
 ⟨some 24,(.bin .neq),[.t 21,.t 23],some (19,false)⟩,
 ⟨some 25,.pick,[.t 19,.c (.pv none (.bool true)),.t 24],none⟩,
 ⟨some 26,.mv,[.t 25],none⟩,
 ⟨some 27,(.faddr 3),[.t 2],some (26,false)⟩,
 ⟨some 28,(.load none),[.t 27],some (26,false)⟩,
 ⟨some 29,.len,[.t 28],some (26,false)⟩,
 ⟨some 30,(.faddr 3),[.t 3],some (26,false)⟩,
 ⟨some 31,(.load none),[.t 30],some (26,false)⟩,
 ⟨some 32,.len,[.t 31],some (26,false)⟩,
 ⟨some 33,(.bin .neq),[.t 29,.t 32],some (26,false)⟩,
 ⟨some 34,.pick,[.t 26,.c (.pv none (.bool true)),.t 33],none⟩]
def c84r2 : List AOper := [
 ⟨some 4,.mv,[.c (.pv none (.bool false))],none⟩]
def c84k3 : ACode := (.cond (.t 34) (.seq (.region true c84r2 [4]) .ret) .skip)
def c84r4 : List AOper := [
 ⟨some 35,(.faddr 3),[.t 2],none⟩,
 ⟨some 36,(.load none),[.t 35],none⟩,
 ⟨some 37,.len,[.t 36],none⟩,
 ⟨some 38,.mv,[.c (.pv none (.int .i64 0))],none⟩]
def c84r5 : List AOper := [
 ⟨some 39,(.bin .lss),[.t 38,.t 37],none⟩]
def c84k6 : ACode := (.cond (.t 39) .skip (.exit 0))
def c84r7 : List AOper := [
 ⟨some 40,.mv,[.t 38],none⟩,
 ⟨some 41,(.iaddr (some 4)),[.t 36,.t 38],none⟩,
 ⟨some 42,(.load (some 4)),[.t 41],none⟩,
 ⟨some 6,(.alloc (some 4) (.agg [(none,(.pv none (.int .i64 0))),(none,(.pv none (.int .i64 0))),(none,(.pv none (.str []))),(none,(.tsl (some 4) []))])),[],none⟩,
 ⟨some 5,.mv,[.t 40],none⟩,
 ⟨none,(.store (some 4)),[.t 6,.t 42],none⟩]
def c84r8 : List AOper := [
 ⟨some 43,(.load (some 4)),[.t 6],none⟩,
 ⟨some 44,(.faddr 3),[.t 3],none⟩,
 ⟨some 45,(.load none),[.t 44],none⟩,
 ⟨some 46,.mv,[.t 5],none⟩,
 ⟨some 47,(.iaddr (some 4)),[.t 45,.t 46],none⟩,
 ⟨some 48,(.load (some 4)),[.t 47],none⟩,
 ⟨some 49,.call,[.c (.pv none (.func (.func 84))),.t 43,.t 48],none⟩,
 ⟨some 50,.not,[.t 49],none⟩]
def c84r9 : List AOper := [
 ⟨some 4,.mv,[.c (.pv none (.bool false))],none⟩]
def c84k10 : ACode := (.cond (.t 50) (.seq (.region true c84r9 [4]) .ret) .skip)
def c84k11 : ACode := (.block 1 (.seq (.region true c84r7 [3,5,6,36,37,38]) (.seq (.region true c84r8 [3,36,37,38,50]) c84k10)))
def c84r12 : List AOper := [
 ⟨some 51,(.bin .add),[.t 38,.c (.pv none (.int .i64 1))],none⟩,
 ⟨some 38,.mv,[.t 51],none⟩]
def c84b13 : ACode := (.seq (.region true c84r5 [3,36,37,38,39]) (.seq c84k6 (.seq c84k11 (.region true c84r12 [3,36,37,38]))))
def c84k14 : ACode := (.block 0 (.loop [3,36,37,38] c84b13))
def c84r15 : List AOper := [
 ⟨some 4,.mv,[.c (.pv none (.bool true))],none⟩]
def c84 : ACode := (.seq (.region true c84r0 [2,3]) (.seq (.seq (.region true c84r1 [2,3,34]) c84k3) (.seq (.seq (.region true c84r4 [3,36,37,38]) c84k14) (.seq (.region true c84r15 [4]) .ret))))
def g84 : AFn := ⟨2,[(4,none)],c84,false,[],[],none⟩
theorem tr84 : trFn Tryz.prog false 84 Tryz.f84 = some g84 := by kernel_rfl
def c85r0 : List AOper := [
 ⟨some 4,(.box (some 4)),[.t 1],none⟩,
 ⟨some 5,(.box (some 4)),[.t 2],none⟩,
 ⟨some 6,(.alloc none (.tsl (some 5) [])),[],none⟩,
 ⟨some 7,(.alloc none (.pv none (.int .i64 0))),[],none⟩]
def c85r1 : List AOper := [
 ⟨some 9,.mv,[.t 0],none⟩,
 ⟨some 10,.call,[.c (.pv none (.func (.func 119))),.t 9],none⟩,
 ⟨some 11,.not,[.t 10],none⟩,
 ⟨some 12,.mv,[.t 11],none⟩,
 ⟨some 13,(.load (some 4)),[.t 4],some (12,false)⟩,
 ⟨some 14,.call,[.c (.pv none (.func (.func 45))),.t 13],some (12,false)⟩,
 ⟨some 15,.not,[.t 14],some (12,false)⟩,
 ⟨some 16,.pick,[.t 12,.c (.pv none (.bool true)),.t 15],none⟩,
 ⟨some 17,.mv,[.t 16],none⟩,
 ⟨some 18,(.load (some 4)),[.t 5],some (17,false)⟩,
 ⟨some 19,.call,[.c (.pv none (.func (.func 45))),.t 18],some (17,false)⟩,
 ⟨some 20,.not,[.t 19],some (17,false)⟩,
 ⟨some 21,.pick,[.t 17,.c (.pv none (.bool true)),.t 20],none⟩]
def c85r2 : List AOper := [
 ⟨none,(.store none),[.t 6,.c (.tsl (some 5) [])],none⟩,
 ⟨none,(.store none),[.t 7,.c (.pv none (.int .i64 1))],none⟩]
def c85k3 : ACode := (.cond (.t 21) (.seq (.region true c85r2 [6,7]) .ret) .skip)
def c85r4 : List AOper := [
 ⟨some 22,(.mkfunc (.func 120) 0),[.t 6,.t 7],none⟩]
def c85r5 : List AOper := [
 ⟨some 23,.mv,[.t 0],none⟩,
 ⟨some 24,.call,[.c (.pv none (.func (.func 121))),.t 23],none⟩,
 ⟨some 25,(.build [(none,(.tsl (some 5) []))] [0]),[.t 24],none⟩,
 ⟨some 26,(.box (some 1)),[.t 25],none⟩,
 ⟨some 8,.mv,[.t 26],none⟩]
def c85r6 : List AOper := [
 ⟨some 27,.mv,[.t 8],none⟩,
 ⟨some 28,(.load (some 4)),[.t 4],none⟩,
 ⟨some 29,(.load (some 4)),[.t 5],none⟩,
 ⟨some 30,.call,[.c (.pv none (.func (.func 122))),.t 27,.t 28,.t 29],none⟩]
def c85r7 : List AOper := [
 ⟨some 31,.mv,[.t 8],none⟩,
 ⟨some 32,.nilcheck,[.t 31],none⟩,
 ⟨some 33,(.faddr 0),[.t 32],none⟩,
 ⟨some 34,(.load none),[.t 33],none⟩,
 ⟨none,(.store none),[.t 6,.t 34],none⟩,
 ⟨none,(.store none),[.t 7,.c (.pv none (.int .i64 0))],none⟩]
def c85p8 : ACode := (.seq (.region true c85r5 [4,5,6,7,8]) (.seq (.region true c85r6 [6,7,8]) (.seq (.region true c85r7 [6,7]) (.seq .ret .skip))))
def c85 : ACode := (.seq (.region true c85r0 [0,4,5,6,7]) (.seq (.region true c85r1 [0,4,5,6,7,21]) (.seq c85k3 (.region true c85r4 [0,4,5,6,7,22]))))
def g85 : AFn := ⟨3,[(6,some none),(7,some none)],c85,false,[(.dfr 22,c85p8)],[],none⟩
theorem tr85 : trFn Tryz.prog false 85 Tryz.f85 = some g85 := by kernel_rfl
def c86r0 : List AOper := [
 ⟨some 3,(.box (some 4)),[.t 1],none⟩,
 ⟨some 4,(.alloc (some 4) (.agg [(none,(.pv none (.int .i64 0))),(none,(.pv none (.int .i64 0))),(none,(.pv none (.str []))),(none,(.tsl (some 4) []))])),[],none⟩,
 ⟨some 5,.mv,[.c (.pv none (.int .i64 0))],none⟩]
def c86r1 : List AOper := [
 ⟨some 6,.mv,[.t 0],none⟩,
 ⟨some 7,.call,[.c (.pv none (.func (.func 119))),.t 6],none⟩,
 ⟨some 8,.not,[.t 7],none⟩,
 ⟨some 9,.mv,[.t 8],none⟩,
 ⟨some 10,(.load (some 4)),[.t 3],some (9,false)⟩,
 ⟨some 11,.call,[.c (.pv none (.func (.func 45))),.t 10],some (9,false)⟩,
 ⟨some 12,.not,[.t 11],some (9,false)⟩,
 ⟨some 13,.pick,[.t 9,.c (.pv none (.bool true)),.t 12],none⟩]
def c86r2 : List AOper := [
 ⟨some 14,(.build [(none,(.pv none (.int .i64 0))),(none,(.pv none (.int .i64 0))),(none,(.pv none (.str []))),(none,(.tsl (some 4) []))] []),[],none⟩,
 ⟨none,(.store (some 4)),[.t 4,.t 14],none⟩,
 ⟨some 5,.mv,[.c (.pv none (.int .i64 1))],none⟩]
def c86k3 : ACode := (.cond (.t 13) (.seq (.region true c86r2 [4,5]) .ret) .skip)
def c86r4 : List AOper := [
 ⟨some 15,.mv,[.t 0],none⟩,
 ⟨some 16,(.load (some 4)),[.t 3],none⟩,
 ⟨some 17,(.mkmap none),[],none⟩,
 ⟨some 18,.call,[.c (.pv none (.func (.func 123))),.t 15,.t 16,.t 17],none⟩,
 ⟨some 19,(.bin .gtr),[.t 18,.c (.pv none (.int .i64 2000))],none⟩]
def c86r5 : List AOper := [
 ⟨some 20,(.build [(none,(.pv none (.int .i64 0))),(none,(.pv none (.int .i64 0))),(none,(.pv none (.str []))),(none,(.tsl (some 4) []))] []),[],none⟩,
 ⟨none,(.store (some 4)),[.t 4,.t 20],none⟩,
 ⟨some 5,.mv,[.c (.pv none (.int .i64 2))],none⟩]
def c86k6 : ACode := (.cond (.t 19) (.seq (.region true c86r5 [4,5]) .ret) .skip)
def c86r7 : List AOper := [
 ⟨some 21,.mv,[.t 0],none⟩,
 ⟨some 22,(.load (some 4)),[.t 3],none⟩,
 ⟨some 23,.call,[.c (.pv none (.func (.func 124))),.t 21,.t 22],none⟩,
 ⟨none,(.store (some 4)),[.t 4,.t 23],none⟩,
 ⟨some 5,.mv,[.c (.pv none (.int .i64 0))],none⟩]
def c86 : ACode := (.seq (.region true c86r0 [0,3,4]) (.seq (.seq (.region true c86r1 [0,3,4,13]) c86k3) (.seq (.seq (.region true c86r4 [0,3,4,19]) c86k6) (.seq (.region true c86r7 [4,5]) .ret))))
def g86 : AFn := ⟨2,[(4,some (some 4)),(5,none)],c86,false,[],[],none⟩
theorem tr86 : trFn Tryz.prog false 86 Tryz.f86 = some g86 := by kernel_rfl
def c87r0 : List AOper := [
 ⟨some 1,(.box (some 4)),[.t 0],none⟩,
 ⟨some 2,.mv,[.c (.pv none (.int .i64 0))],none⟩]
def c87r1 : List AOper := [
 ⟨some 3,(.alloc none (.pv none (.int .i64 0))),[],none⟩,
 ⟨none,(.store none),[.t 3,.c (.pv none (.int .i64 2001))],none⟩]
def c87r2 : List AOper := [
 ⟨some 4,(.alloc none (.pv none .nilfunc)),[],none⟩]
def c87r3 : List AOper := [
 ⟨some 5,(.mkfunc (.func 125) 0),[.t 3,.t 4],none⟩,
 ⟨none,(.store none),[.t 4,.t 5],none⟩]
def c87r4 : List AOper := [
 ⟨some 6,(.load none),[.t 4],none⟩,
 ⟨some 7,(.load (some 4)),[.t 1],none⟩,
 ⟨some 8,.call,[.t 6,.t 7],none⟩]
def c87r5 : List AOper := [
 ⟨some 9,(.load none),[.t 3],none⟩,
 ⟨some 10,(.bin .sub),[.c (.pv none (.int .i64 2001)),.t 9],none⟩,
 ⟨some 2,.mv,[.t 10],none⟩]
def c87 : ACode := (.seq (.region true c87r0 [1]) (.seq (.region true c87r1 [1,3]) (.seq (.region true c87r2 [1,3,4]) (.seq (.region true c87r3 [1,3,4]) (.seq (.region true c87r4 [3]) (.seq (.region true c87r5 [2]) .ret))))))
def g87 : AFn := ⟨1,[(2,none)],c87,false,[],[],none⟩
theorem tr87 : trFn Tryz.prog false 87 Tryz.f87 = some g87 := by kernel_rfl
def c88r0 : List AOper := [
 ⟨some 2,(.box (some 4)),[.t 0],none⟩,
 ⟨some 4,(.alloc (some 4) (.agg [(none,(.pv none (.int .i64 0))),(none,(.pv none (.int .i64 0))),(none,(.pv none (.str []))),(none,(.tsl (some 4) []))])),[],none⟩]
def c88r1 : List AOper := [
 ⟨some 8,(.faddr 0),[.t 2],none⟩,
 ⟨some 9,(.load none),[.t 8],none⟩,
 ⟨some 10,(.bin .eql),[.t 9,.c (.pv none (.int .i64 0))],none⟩]
def c88r2 : List AOper := [
 ⟨some 11,.mv,[.t 1],none⟩,
 ⟨some 12,(.load (some 4)),[.t 2],none⟩,
 ⟨some 13,.call,[.t 11,.t 12],none⟩,
 ⟨none,(.store (some 4)),[.t 4,.t 13],none⟩]
def c88k3 : ACode := (.cond (.t 10) (.seq (.region true c88r2 [4]) .ret) .skip)
def c88r4 : List AOper := [
 ⟨some 14,(.faddr 0),[.t 2],none⟩,
 ⟨some 15,(.load none),[.t 14],none⟩,
 ⟨some 16,(.faddr 1),[.t 2],none⟩,
 ⟨some 17,(.load none),[.t 16],none⟩,
 ⟨some 18,(.faddr 2),[.t 2],none⟩,
 ⟨some 19,(.load none),[.t 18],none⟩,
 ⟨some 20,(.build [(none,(.pv none (.int .i64 0))),(none,(.pv none (.int .i64 0))),(none,(.pv none (.str []))),(none,(.tsl (some 4) []))] [0,1,2]),[.t 15,.t 17,.t 19],none⟩,
 ⟨some 5,(.alloc (some 4) (.agg [(none,(.pv none (.int .i64 0))),(none,(.pv none (.int .i64 0))),(none,(.pv none (.str []))),(none,(.tsl (some 4) []))])),[],none⟩,
 ⟨none,(.store (some 4)),[.t 5,.t 20],none⟩]
def c88r5 : List AOper := [
 ⟨some 21,(.faddr 3),[.t 2],none⟩,
 ⟨some 22,(.load none),[.t 21],none⟩,
 ⟨some 23,.len,[.t 22],none⟩,
 ⟨some 24,.mv,[.c (.pv none (.int .i64 0))],none⟩]
def c88r6 : List AOper := [
 ⟨some 25,(.bin .lss),[.t 24,.t 23],none⟩]
def c88k7 : ACode := (.cond (.t 25) .skip (.exit 0))
def c88r8 : List AOper := [
 ⟨some 26,(.iaddr (some 4)),[.t 22,.t 24],none⟩,
 ⟨some 27,(.load (some 4)),[.t 26],none⟩,
 ⟨some 7,(.alloc (some 4) (.agg [(none,(.pv none (.int .i64 0))),(none,(.pv none (.int .i64 0))),(none,(.pv none (.str []))),(none,(.tsl (some 4) []))])),[],none⟩,
 ⟨none,(.store (some 4)),[.t 7,.t 27],none⟩]
def c88r9 : List AOper := [
 ⟨some 28,(.faddr 3),[.t 5],none⟩,
 ⟨some 29,(.load none),[.t 28],none⟩,
 ⟨some 30,(.load (some 4)),[.t 7],none⟩,
 ⟨some 31,.mv,[.t 1],none⟩,
 ⟨some 32,(.calln 1),[.t 28,.c (.pv none (.func (.func 88))),.t 30,.t 31],none⟩,
 ⟨some 33,(.bslicen (some 4) 1),[.t 28,.t 32],none⟩,
 ⟨some 34,(.append (some 4)),[.t 29,.t 33],none⟩,
 ⟨some 35,(.faddr 3),[.t 5],none⟩,
 ⟨none,(.store none),[.t 35,.t 34],none⟩]
def c88k10 : ACode := (.block 1 (.seq (.region true c88r8 [1,4,5,7,22,23,24]) (.region false c88r9 [1,4,5,22,23,24])))
def c88r11 : List AOper := [
 ⟨some 36,(.bin .add),[.t 24,.c (.pv none (.int .i64 1))],none⟩,
 ⟨some 24,.mv,[.t 36],none⟩]
def c88b12 : ACode := (.seq (.region true c88r6 [1,4,5,22,23,24,25]) (.seq c88k7 (.seq c88k10 (.region true c88r11 [1,4,5,22,23,24]))))
def c88k13 : ACode := (.block 0 (.loop [1,4,5,22,23,24] c88b12))
def c88r14 : List AOper := [
 ⟨some 37,(.load (some 4)),[.t 5],none⟩,
 ⟨none,(.store (some 4)),[.t 4,.t 37],none⟩]
def c88 : ACode := (.seq (.region true c88r0 [1,2,4]) (.seq (.seq (.region true c88r1 [1,2,4,10]) c88k3) (.seq (.region true c88r4 [1,2,4,5]) (.seq (.seq (.region true c88r5 [1,4,5,22,23,24]) c88k13) (.seq (.region true c88r14 [4]) .ret)))))
def g88 : AFn := ⟨2,[(4,some (some 4))],c88,true,[],[],none⟩
theorem tr88 : trFn Tryz.prog true 88 Tryz.f88 = some g88 := by kernel_rfl
def c89r0 : List AOper := [
 ⟨some 1,(.box (some 4)),[.t 0],none⟩,
 ⟨some 2,(.alloc (some 4) (.agg [(none,(.pv none (.int .i64 0))),(none,(.pv none (.int .i64 0))),(none,(.pv none (.str []))),(none,(.tsl (some 4) []))])),[],none⟩]
def c89r1 : List AOper := [
 ⟨some 3,(.load (some 4)),[.t 1],none⟩,
 ⟨none,(.store (some 4)),[.t 2,.t 3],none⟩]
def c89 : ACode := (.seq (.region true c89r0 [1,2]) (.seq (.region true c89r1 [2]) .ret))
def g89 : AFn := ⟨1,[(2,some (some 4))],c89,false,[],[],none⟩
theorem tr89 : trFn Tryz.prog false 89 Tryz.f89 = some g89 := by kernel_rfl
def c93r0 : List AOper := [
 ⟨some 1,(.box (some 4)),[.t 0],none⟩,
 ⟨some 2,.mv,[.c (.pv none (.int .i64 0))],none⟩]
def c93r1 : List AOper := [
 ⟨some 3,(.load (some 4)),[.t 1],none⟩,
 ⟨some 4,.call,[.c (.pv none (.func (.func 129))),.t 3,.c (.pv none (.int .i64 2001))],none⟩,
 ⟨some 2,.mv,[.t 4],none⟩]
def c93 : ACode := (.seq (.region true c93r0 [1]) (.seq (.region true c93r1 [2]) .ret))
def g93 : AFn := ⟨1,[(2,none)],c93,false,[],[],none⟩
theorem tr93 : trFn Tryz.prog false 93 Tryz.f93 = some g93 := by kernel_rfl
def c94r0 : List AOper := [
 ⟨some 1,(.box (some 4)),[.t 0],none⟩,
 ⟨some 2,.mv,[.c (.pv none (.bool false))],none⟩]
def c94r1 : List AOper := [
 ⟨some 4,(.load (some 4)),[.t 1],none⟩,
 ⟨some 5,.call,[.c (.pv none (.func (.func 130))),.t 4],none⟩,
 ⟨some 6,.not,[.t 5],none⟩]
def c94r2 : List AOper := [
 ⟨some 2,.mv,[.c (.pv none (.bool false))],none⟩]
def c94k3 : ACode := (.cond (.t 6) (.seq (.region true c94r2 [2]) .ret) .skip)
def c94r4 : List AOper := [
 ⟨some 3,.mv,[.c (.pv none (.int .i64 0))],none⟩]
def c94r5 : List AOper := [
 ⟨some 7,.mv,[.t 3],none⟩,
 ⟨some 8,(.faddr 3),[.t 1],none⟩,
 ⟨some 9,(.load none),[.t 8],none⟩,
 ⟨some 10,.len,[.t 9],none⟩,
 ⟨some 11,(.bin .lss),[.t 7,.t 10],none⟩]
def c94k6 : ACode := (.cond (.t 11) .skip (.exit 0))
def c94r7 : List AOper := [
 ⟨some 14,(.faddr 3),[.t 1],none⟩,
 ⟨some 15,(.load none),[.t 14],none⟩,
 ⟨some 16,.mv,[.t 3],none⟩,
 ⟨some 17,(.iaddr (some 4)),[.t 15,.t 16],none⟩,
 ⟨some 18,(.load (some 4)),[.t 17],none⟩,
 ⟨some 19,.call,[.c (.pv none (.func (.func 94))),.t 18],none⟩,
 ⟨some 20,.not,[.t 19],none⟩]
def c94r8 : List AOper := [
 ⟨some 2,.mv,[.c (.pv none (.bool false))],none⟩]
def c94k9 : ACode := (.cond (.t 20) (.seq (.region true c94r8 [2]) .ret) .skip)
def c94k10 : ACode := (.block 1 (.seq (.region true c94r7 [1,3,20]) c94k9))
def c94r11 : List AOper := [
 ⟨some 12,.mv,[.t 3],none⟩,
 ⟨some 13,(.bin .add),[.t 12,.c (.pv none (.int .i64 1))],none⟩,
 ⟨some 3,.mv,[.t 13],none⟩]
def c94b12 : ACode := (.seq (.seq (.region true c94r5 [1,3,11]) c94k6) (.seq c94k10 (.region true c94r11 [1,3])))
def c94k13 : ACode := (.block 0 (.loop [1,3] c94b12))
def c94r14 : List AOper := [
 ⟨some 2,.mv,[.c (.pv none (.bool true))],none⟩]
def c94 : ACode := (.seq (.region true c94r0 [1]) (.seq (.seq (.region true c94r1 [1,6]) c94k3) (.seq (.seq (.region true c94r4 [1,3]) c94k13) (.seq (.region true c94r14 [2]) .ret))))
def g94 : AFn := ⟨1,[(2,none)],c94,false,[],[],none⟩
theorem tr94 : trFn Tryz.prog false 94 Tryz.f94 = some g94 := by kernel_rfl
def c96r0 : List AOper := [
 ⟨some 1,(.box (some 4)),[.t 0],none⟩,
 ⟨some 2,.mv,[.c (.pv none (.bool false))],none⟩]
def c96r1 : List AOper := [
 ⟨some 3,.mv,[.c (.pv none (.bool false))],none⟩]
def c96r2 : List AOper := [
 ⟨some 5,(.faddr 0),[.t 1],none⟩,
 ⟨some 6,(.load none),[.t 5],none⟩]
def c96r3 : List AOper := [
 ⟨some 8,(.bin .eql),[.t 6,.c (.pv none (.int .i64 0))],none⟩,
 ⟨some 7,.mv,[.t 8],none⟩]
def c96r4 : List AOper := [
 ⟨some 9,(.faddr 1),[.t 1],none⟩,
 ⟨some 10,(.load none),[.t 9],none⟩,
 ⟨some 11,(.bin .geq),[.t 10,.c (.pv none (.int .i64 0))],none⟩,
 ⟨some 12,.mv,[.t 11],none⟩,
 ⟨some 13,(.faddr 1),[.t 1],some (12,true)⟩,
 ⟨some 14,(.load none),[.t 13],some (12,true)⟩,
 ⟨some 15,(.bin .leq),[.t 14,.c (.pv none (.int .i64 1099511627776))],some (12,true)⟩,
 ⟨some 16,.pick,[.t 12,.t 15,.c (.pv none (.bool false))],none⟩,
 ⟨some 17,.mv,[.t 16],none⟩,
 ⟨some 18,(.faddr 2),[.t 1],some (17,true)⟩,
 ⟨some 19,(.load none),[.t 18],some (17,true)⟩,
 ⟨some 20,(.bin .eql),[.t 19,.c (.pv none (.str []))],some (17,true)⟩,
 ⟨some 21,.pick,[.t 17,.t 20,.c (.pv none (.bool false))],none⟩,
 ⟨some 22,.mv,[.t 21],none⟩,
 ⟨some 23,(.faddr 3),[.t 1],some (22,true)⟩,
 ⟨some 24,(.load none),[.t 23],some (22,true)⟩,
 ⟨some 25,.len,[.t 24],some (22,true)⟩,
 ⟨some 26,(.bin .eql),[.t 25,.c (.pv none (.int .i64 0))],some (22,true)⟩,
 ⟨some 27,.pick,[.t 22,.t 26,.c (.pv none (.bool false))],none⟩,
 ⟨some 3,.mv,[.t 27],none⟩]
def c96r5 : List AOper := [
 ⟨some 29,(.bin .eql),[.t 6,.c (.pv none (.int .i64 1))],none⟩,
 ⟨some 28,.mv,[.t 29],none⟩]
def c96r6 : List AOper := [
 ⟨some 30,(.faddr 2),[.t 1],none⟩,
 ⟨some 31,(.load none),[.t 30],none⟩,
 ⟨some 32,(.bin .eql),[.t 31,.c (.pv none (.str []))],none⟩,
 ⟨some 33,.mv,[.t 32],none⟩,
 ⟨some 34,(.faddr 3),[.t 1],some (33,true)⟩,
 ⟨some 35,(.load none),[.t 34],some (33,true)⟩,
 ⟨some 36,.len,[.t 35],some (33,true)⟩,
 ⟨some 37,(.bin .eql),[.t 36,.c (.pv none (.int .i64 0))],some (33,true)⟩,
 ⟨some 38,.pick,[.t 33,.t 37,.c (.pv none (.bool false))],none⟩,
 ⟨some 3,.mv,[.t 38],none⟩]
def c96r7 : List AOper := [
 ⟨some 40,(.bin .eql),[.t 6,.c (.pv none (.int .i64 2))],none⟩,
 ⟨some 39,.mv,[.t 40],none⟩]
def c96r8 : List AOper := [
 ⟨some 41,(.faddr 1),[.t 1],none⟩,
 ⟨some 42,(.load none),[.t 41],none⟩,
 ⟨some 43,(.bin .eql),[.t 42,.c (.pv none (.int .i64 0))],none⟩,
 ⟨some 44,.mv,[.t 43],none⟩,
 ⟨some 45,(.faddr 2),[.t 1],some (44,true)⟩,
 ⟨some 46,(.load none),[.t 45],some (44,true)⟩,
 ⟨some 47,.slen,[.t 46],some (44,true)⟩,
 ⟨some 48,(.bin .leq),[.t 47,.c (.pv none (.int .i64 100))],some (44,true)⟩,
 ⟨some 49,.pick,[.t 44,.t 48,.c (.pv none (.bool false))],none⟩,
 ⟨some 50,.mv,[.t 49],none⟩,
 ⟨some 51,(.faddr 3),[.t 1],some (50,true)⟩,
 ⟨some 52,(.load none),[.t 51],some (50,true)⟩,
 ⟨some 53,.len,[.t 52],some (50,true)⟩,
 ⟨some 54,(.bin .eql),[.t 53,.c (.pv none (.int .i64 0))],some (50,true)⟩,
 ⟨some 55,.pick,[.t 50,.t 54,.c (.pv none (.bool false))],none⟩,
 ⟨some 3,.mv,[.t 55],none⟩]
def c96r9 : List AOper := [
 ⟨some 57,(.bin .eql),[.t 6,.c (.pv none (.int .i64 3))],none⟩,
 ⟨some 56,.mv,[.t 57],none⟩]
def c96r10 : List AOper := [
 ⟨some 58,(.faddr 1),[.t 1],none⟩,
 ⟨some 59,(.load none),[.t 58],none⟩,
 ⟨some 60,(.bin .eql),[.t 59,.c (.pv none (.int .i64 0))],none⟩,
 ⟨some 61,.mv,[.t 60],none⟩,
 ⟨some 62,(.faddr 2),[.t 1],some (61,true)⟩,
 ⟨some 63,(.load none),[.t 62],some (61,true)⟩,
 ⟨some 64,.slen,[.t 63],some (61,true)⟩,
 ⟨some 65,(.bin .leq),[.t 64,.c (.pv none (.int .i64 100))],some (61,true)⟩,
 ⟨some 66,.pick,[.t 61,.t 65,.c (.pv none (.bool false))],none⟩,
 ⟨some 67,.mv,[.t 66],none⟩,
 ⟨some 68,(.faddr 3),[.t 1],some (67,true)⟩,
 ⟨some 69,(.load none),[.t 68],some (67,true)⟩,
 ⟨some 70,.len,[.t 69],some (67,true)⟩,
 ⟨some 71,(.bin .gtr),[.t 70,.c (.pv none (.int .i64 0))],some (67,true)⟩,
 ⟨some 72,.pick,[.t 67,.t 71,.c (.pv none (.bool false))],none⟩,
 ⟨some 73,.mv,[.t 72],none⟩,
 ⟨some 74,(.faddr 3),[.t 1],some (73,true)⟩,
 ⟨some 75,(.load none),[.t 74],some (73,true)⟩,
 ⟨some 76,.len,[.t 75],some (73,true)⟩,
 ⟨some 77,(.bin .leq),[.t 76,.c (.pv none (.int .i64 8))],some (73,true)⟩,
 ⟨some 78,.pick,[.t 73,.t 77,.c (.pv none (.bool false))],none⟩,
 ⟨some 3,.mv,[.t 78],none⟩]
def c96k11 : ACode := (.cond (.t 56) (.region true c96r10 [1,3]) .skip)
def c96k12 : ACode := (.cond (.t 39) (.region true c96r8 [1,3]) (.seq (.region true c96r9 [1,3,56]) c96k11))
def c96k13 : ACode := (.cond (.t 28) (.region true c96r6 [1,3]) (.seq (.region true c96r7 [1,3,6,39]) c96k12))
def c96k14 : ACode := (.cond (.t 7) (.region true c96r4 [1,3]) (.seq (.region true c96r5 [1,3,6,28]) c96k13))
def c96k15 : ACode := (.block 0 (.seq (.region true c96r3 [1,3,6,7]) c96k14))
def c96r16 : List AOper := [
 ⟨some 4,.mv,[.c (.pv none (.int .i64 0))],none⟩]
def c96r17 : List AOper := [
 ⟨some 79,.mv,[.t 4],none⟩,
 ⟨some 80,(.faddr 3),[.t 1],none⟩,
 ⟨some 81,(.load none),[.t 80],none⟩,
 ⟨some 82,.len,[.t 81],none⟩,
 ⟨some 83,(.bin .lss),[.t 79,.t 82],none⟩,
 ⟨some 84,.mv,[.t 83],none⟩,
 ⟨some 85,.mv,[.t 3],some (84,true)⟩,
 ⟨some 86,.pick,[.t 84,.t 85,.c (.pv none (.bool false))],none⟩]
def c96k18 : ACode := (.cond (.t 86) .skip (.exit 1))
def c96r19 : List AOper := [
 ⟨some 89,(.faddr 3),[.t 1],none⟩,
 ⟨some 90,(.load none),[.t 89],none⟩,
 ⟨some 91,.mv,[.t 4],none⟩,
 ⟨some 92,(.iaddr (some 4)),[.t 90,.t 91],none⟩,
 ⟨some 93,(.load (some 4)),[.t 92],none⟩,
 ⟨some 94,.call,[.c (.pv none (.func (.func 96))),.t 93],none⟩,
 ⟨some 3,.mv,[.t 94],none⟩]
def c96k20 : ACode := (.block 2 (.region true c96r19 [1,3,4]))
def c96r21 : List AOper := [
 ⟨some 87,.mv,[.t 4],none⟩,
 ⟨some 88,(.bin .add),[.t 87,.c (.pv none (.int .i64 1))],none⟩,
 ⟨some 4,.mv,[.t 88],none⟩]
def c96b22 : ACode := (.seq (.seq (.region true c96r17 [1,3,4,86]) c96k18) (.seq c96k20 (.region true c96r21 [1,3,4])))
def c96k23 : ACode := (.block 1 (.loop [1,3,4] c96b22))
def c96r24 : List AOper := [
 ⟨some 95,.mv,[.t 3],none⟩,
 ⟨some 2,.mv,[.t 95],none⟩]
def c96 : ACode := (.seq (.region true c96r0 [1]) (.seq (.region true c96r1 [1,3]) (.seq (.seq (.region true c96r2 [1,3,6]) c96k15) (.seq (.seq (.region true c96r16 [1,3,4]) c96k23) (.seq (.region true c96r24 [2]) .ret)))))
def g96 : AFn := ⟨1,[(2,none)],c96,false,[],[],none⟩
theorem tr96 : trFn Tryz.prog false 96 Tryz.f96 = some g96 := by kernel_rfl
def c97r0 : List AOper := [
 ⟨some 2,(.box (some 4)),[.t 0],none⟩,
 ⟨some 3,(.alloc (some 4) (.agg [(none,(.pv none (.int .i64 0))),(none,(.pv none (.int .i64 0))),(none,(.pv none (.str []))),(none,(.tsl (some 4) []))])),[],none⟩]
def c97r1 : List AOper := [
 ⟨some 7,(.load none),[.t 1],none⟩,
 ⟨some 8,(.faddr 1),[.t 2],none⟩,
 ⟨some 9,(.load none),[.t 8],none⟩,
 ⟨some 10,(.lookup false none (.pv none (.int .i64 0)) true),[.t 7,.t 9],none⟩,
 ⟨some 6,.mv,[.t 10],none⟩,
 ⟨some 11,(.extract 0),[.t 6],none⟩,
 ⟨some 12,(.extract 1),[.t 6],none⟩,
 ⟨some 4,.mv,[.t 11],none⟩,
 ⟨some 5,.mv,[.t 12],none⟩]
def c97r2 : List AOper := [
 ⟨some 13,.mv,[.t 5],none⟩,
 ⟨some 14,.not,[.t 13],none⟩]
def c97r3 : List AOper := [
 ⟨some 15,(.load none),[.t 1],none⟩,
 ⟨some 16,.mlen,[.t 15],none⟩,
 ⟨some 4,.mv,[.t 16],none⟩]
def c97r4 : List AOper := [
 ⟨some 17,(.load none),[.t 1],none⟩,
 ⟨some 18,(.faddr 1),[.t 2],none⟩,
 ⟨some 19,(.load none),[.t 18],none⟩,
 ⟨some 20,.mv,[.t 4],none⟩,
 ⟨none,(.mapset false none),[.t 17,.t 19,.t 20],none⟩]
def c97k5 : ACode := (.cond (.t 14) (.seq (.region true c97r3 [1,2,3,4]) (.region true c97r4 [3,4])) .skip)
def c97r6 : List AOper := [
 ⟨some 21,.mv,[.t 4],none⟩,
 ⟨some 22,(.build [(none,(.pv none (.int .i64 0))),(none,(.pv none (.int .i64 0))),(none,(.pv none (.str []))),(none,(.tsl (some 4) []))] [1]),[.t 21],none⟩,
 ⟨none,(.store (some 4)),[.t 3,.t 22],none⟩]
def c97 : ACode := (.seq (.region true c97r0 [1,2,3]) (.seq (.region true c97r1 [1,2,3,4,5]) (.seq (.seq (.region true c97r2 [1,2,3,4,14]) c97k5) (.seq (.region true c97r6 [3]) .ret))))
def g97 : AFn := ⟨2,[(3,some (some 4))],c97,true,[],[],none⟩
theorem tr97 : trFn Tryz.prog true 97 Tryz.f97 = some g97 := by kernel_rfl
def c98r0 : List AOper := [
 ⟨some 1,(.box (some 4)),[.t 0],none⟩,
 ⟨some 2,(.nilsl (some 4)),[],none⟩,
 ⟨some 3,(.alloc (some 4) (.agg [(none,(.pv none (.int .i64 0))),(none,(.pv none (.int .i64 0))),(none,(.pv none (.str []))),(none,(.tsl (some 4) []))])),[],none⟩,
 ⟨some 4,.mv,[.c (.pv none (.bool false))],none⟩]
def c98r1 : List AOper := [
 ⟨some 6,(.load (some 4)),[.t 1],none⟩,
 ⟨some 7,.call,[.c (.pv none (.func (.func 45))),.t 6],none⟩,
 ⟨some 8,.not,[.t 7],none⟩]
def c98r2 : List AOper := [
 ⟨some 9,(.build [(none,(.pv none (.int .i64 0))),(none,(.pv none (.int .i64 0))),(none,(.pv none (.str []))),(none,(.tsl (some 4) []))] []),[],none⟩,
 ⟨some 2,(.nilsl (some 4)),[],none⟩,
 ⟨none,(.store (some 4)),[.t 3,.t 9],none⟩,
 ⟨some 4,.mv,[.c (.pv none (.bool false))],none⟩]
def c98k3 : ACode := (.cond (.t 8) (.seq (.region true c98r2 [2,3,4]) .ret) .skip)
def c98r4 : List AOper := [
 ⟨some 10,(.load (some 4)),[.t 1],none⟩,
 ⟨some 5,(.alloc (some 4) (.agg [(none,(.pv none (.int .i64 0))),(none,(.pv none (.int .i64 0))),(none,(.pv none (.str []))),(none,(.tsl (some 4) []))])),[],none⟩,
 ⟨none,(.store (some 4)),[.t 5,.t 10],none⟩]
def c98r5 : List AOper := [
 ⟨some 12,(.faddr 0),[.t 5],none⟩,
 ⟨some 13,(.load none),[.t 12],none⟩,
 ⟨some 14,(.bin .eql),[.t 13,.c (.pv none (.int .i64 3))],none⟩,
 ⟨some 15,.mv,[.t 14],none⟩,
 ⟨some 16,(.faddr 2),[.t 5],some (15,true)⟩,
 ⟨some 17,(.load none),[.t 16],some (15,true)⟩,
 ⟨some 18,(.bin .eql),[.t 17,.c (.pv none (.str [46]))],some (15,true)⟩,
 ⟨some 19,.pick,[.t 15,.t 18,.c (.pv none (.bool false))],none⟩,
 ⟨some 20,.mv,[.t 19],none⟩,
 ⟨some 21,(.faddr 3),[.t 5],some (20,true)⟩,
 ⟨some 22,(.load none),[.t 21],some (20,true)⟩,
 ⟨some 23,.len,[.t 22],some (20,true)⟩,
 ⟨some 24,(.bin .eql),[.t 23,.c (.pv none (.int .i64 2))],some (20,true)⟩,
 ⟨some 25,.pick,[.t 20,.t 24,.c (.pv none (.bool false))],none⟩,
 ⟨some 11,.mv,[.t 25],none⟩]
def c98r6 : List AOper := [
 ⟨some 26,.mv,[.t 2],none⟩,
 ⟨some 27,(.faddr 3),[.t 5],none⟩,
 ⟨some 28,(.load none),[.t 27],none⟩,
 ⟨some 29,(.iaddr (some 4)),[.t 28,.c (.pv none (.int .i64 0))],none⟩,
 ⟨some 30,(.load (some 4)),[.t 29],none⟩,
 ⟨some 31,.call,[.c (.pv none (.func (.func 38))),.t 30],none⟩,
 ⟨some 32,(.bslice (some 4)),[.t 31],none⟩,
 ⟨some 33,(.append (some 4)),[.t 26,.t 32],none⟩,
 ⟨some 2,.mv,[.t 33],none⟩]
def c98r7 : List AOper := [
 ⟨some 34,(.faddr 3),[.t 5],none⟩,
 ⟨some 35,(.load none),[.t 34],none⟩,
 ⟨some 36,(.iaddr (some 4)),[.t 35,.c (.pv none (.int .i64 1))],none⟩,
 ⟨some 37,(.load (some 4)),[.t 36],none⟩,
 ⟨none,(.store (some 4)),[.t 5,.t 37],none⟩]
def c98k8 : ACode := (.cond (.t 11) (.seq (.region true c98r6 [1,2,3,5]) (.region true c98r7 [1,2,3,5])) (.exit 0))
def c98k9 : ACode := (.block 2 (.seq (.region true c98r5 [1,2,3,5,11]) c98k8))
def c98k10 : ACode := (.block 1 c98k9)
def c98b11 : ACode := c98k10
def c98k12 : ACode := (.block 0 (.loop [1,2,3,5] c98b11))
def c98r13 : List AOper := [
 ⟨some 39,(.faddr 0),[.t 5],none⟩,
 ⟨some 40,(.load none),[.t 39],none⟩,
 ⟨some 41,(.bin .eql),[.t 40,.c (.pv none (.int .i64 0))],none⟩,
 ⟨some 38,.mv,[.t 41],none⟩]
def c98r14 : List AOper := [
 ⟨some 42,.call,[.c (.pv none (.func (.func 68)))],none⟩,
 ⟨some 2,(.nilsl (some 4)),[],none⟩,
 ⟨none,(.store (some 4)),[.t 3,.t 42],none⟩,
 ⟨some 4,.mv,[.c (.pv none (.bool false))],none⟩]
def c98r15 : List AOper := [
 ⟨some 44,(.faddr 0),[.t 5],none⟩,
 ⟨some 45,(.load none),[.t 44],none⟩,
 ⟨some 46,(.bin .eql),[.t 45,.c (.pv none (.int .i64 2))],none⟩,
 ⟨some 47,.mv,[.t 46],none⟩,
 ⟨some 48,(.faddr 2),[.t 5],some (47,true)⟩,
 ⟨some 49,(.load none),[.t 48],some (47,true)⟩,
 ⟨some 50,(.bin .eql),[.t 49,.c (.pv none (.str [91,93]))],some (47,true)⟩,
 ⟨some 51,.pick,[.t 47,.t 50,.c (.pv none (.bool false))],none⟩,
 ⟨some 43,.mv,[.t 51],none⟩]
def c98r16 : List AOper := [
 ⟨some 52,.mv,[.t 2],none⟩,
 ⟨some 53,(.build [(none,(.pv none (.int .i64 0))),(none,(.pv none (.int .i64 0))),(none,(.pv none (.str []))),(none,(.tsl (some 4) []))] []),[],none⟩,
 ⟨some 2,.mv,[.t 52],none⟩,
 ⟨none,(.store (some 4)),[.t 3,.t 53],none⟩,
 ⟨some 4,.mv,[.c (.pv none (.bool true))],none⟩]
def c98k17 : ACode := (.cond (.t 43) (.seq (.region true c98r16 [2,3,4]) .ret) .skip)
def c98k18 : ACode := (.cond (.t 38) (.seq (.region true c98r14 [2,3,4]) .ret) (.seq (.region true c98r15 [1,2,3,43]) c98k17))
def c98k19 : ACode := (.block 3 (.seq (.region true c98r13 [1,2,3,5,38]) c98k18))
def c98r20 : List AOper := [
 ⟨some 54,(.load (some 4)),[.t 1],none⟩,
 ⟨some 55,.call,[.c (.pv none (.func (.func 69))),.c (.pv none (.str [108,105,115,116])),.t 54],none⟩,
 ⟨some 2,(.nilsl (some 4)),[],none⟩,
 ⟨none,(.store (some 4)),[.t 3,.t 55],none⟩,
 ⟨some 4,.mv,[.c (.pv none (.bool false))],none⟩]
def c98 : ACode := (.seq (.region true c98r0 [1,2,3]) (.seq (.seq (.region true c98r1 [1,2,3,8]) c98k3) (.seq (.region true c98r4 [1,2,3,5]) (.seq .skip (.seq c98k12 (.seq c98k19 (.seq (.region true c98r20 [2,3,4]) .ret)))))))
def g98 : AFn := ⟨1,[(2,none),(3,some (some 4)),(4,none)],c98,false,[],[],none⟩
theorem tr98 : trFn Tryz.prog false 98 Tryz.f98 = some g98 := by kernel_rfl
def c99r0 : List AOper := [
 ⟨some 2,(.nilsl (some 4)),[],none⟩]
def c99r1 : List AOper := [
 ⟨some 3,.mv,[.t 0],none⟩,
 ⟨some 2,.mv,[.t 3],none⟩]
def c99 : ACode := (.seq (.region true c99r0 [0]) (.seq (.region true c99r1 [2]) .ret))
def g99 : AFn := ⟨1,[(2,none)],c99,false,[],[],none⟩
theorem tr99 : trFn Tryz.prog false 99 Tryz.f99 = some g99 := by kernel_rfl
def c100r0 : List AOper := [
 ⟨some 2,(.nilsl (some 4)),[],none⟩]
def c100r1 : List AOper := [
 ⟨some 6,.mv,[.t 0],none⟩,
 ⟨some 7,.call,[.c (.pv none (.func (.func 101))),.t 6],none⟩,
 ⟨some 5,.mv,[.t 7],none⟩,
 ⟨some 8,(.extract 0),[.t 5],none⟩,
 ⟨some 9,(.extract 1),[.t 5],none⟩,
 ⟨some 3,.mv,[.t 8],none⟩,
 ⟨some 4,.mv,[.t 9],none⟩]
def c100r2 : List AOper := [
 ⟨some 10,.mv,[.t 3],none⟩,
 ⟨some 2,.mv,[.t 10],none⟩]
def c100 : ACode := (.seq (.region true c100r0 [0]) (.seq (.region true c100r1 [3]) (.seq (.region true c100r2 [2]) .ret)))
def g100 : AFn := ⟨1,[(2,none)],c100,false,[],[],none⟩
theorem tr100 : trFn Tryz.prog false 100 Tryz.f100 = some g100 := by kernel_rfl
def c101r0 : List AOper := [
 ⟨some 2,(.nilsl (some 4)),[],none⟩,
 ⟨some 3,.mv,[.c (.pv none (.int .i64 0))],none⟩]
def c101r1 : List AOper := [
 ⟨some 5,.mv,[.t 0],none⟩,
 ⟨some 6,.call,[.c (.pv none (.func (.func 132))),.t 5],none⟩,
 ⟨some 4,.mv,[.t 6],none⟩,
 ⟨some 7,(.extract 0),[.t 4],none⟩,
 ⟨some 8,(.extract 1),[.t 4],none⟩,
 ⟨some 2,.mv,[.t 7],none⟩,
 ⟨some 3,.mv,[.t 8],none⟩]
def c101r2 : List AOper := [
 ⟨some 9,.mv,[.t 3],none⟩,
 ⟨some 10,(.bin .neq),[.t 9,.c (.pv none (.int .i64 0))],none⟩]
def c101r3 : List AOper := [
 ⟨some 11,.mv,[.t 3],none⟩,
 ⟨some 2,(.nilsl (some 4)),[],none⟩,
 ⟨some 3,.mv,[.t 11],none⟩]
def c101k4 : ACode := (.cond (.t 10) (.seq (.region true c101r3 [2,3]) .ret) .skip)
def c101r5 : List AOper := [
 ⟨some 12,.mv,[.t 2],none⟩,
 ⟨some 13,.call,[.c (.pv none (.func (.func 133))),.t 12,.c (.pv none (.func (.func 134)))],none⟩,
 ⟨some 2,.mv,[.t 13],none⟩,
 ⟨some 3,.mv,[.c (.pv none (.int .i64 0))],none⟩]
def c101 : ACode := (.seq (.region true c101r0 [0]) (.seq (.region true c101r1 [2,3]) (.seq (.seq (.region true c101r2 [2,3,10]) c101k4) (.seq (.region true c101r5 [2,3]) .ret))))
def g101 : AFn := ⟨1,[(2,none),(3,none)],c101,true,[],[],none⟩
theorem tr101 : trFn Tryz.prog true 101 Tryz.f101 = some g101 := by kernel_rfl
def c103r0 : List AOper := [
 ⟨some 1,(.box (some 4)),[.t 0],none⟩,
 ⟨some 2,(.alloc (some 4) (.agg [(none,(.pv none (.int .i64 0))),(none,(.pv none (.int .i64 0))),(none,(.pv none (.str []))),(none,(.tsl (some 4) []))])),[],none⟩]
def c103r1 : List AOper := [
 ⟨some 5,(.faddr 0),[.t 1],none⟩,
 ⟨some 6,(.load none),[.t 5],none⟩,
 ⟨some 7,(.faddr 1),[.t 1],none⟩,
 ⟨some 8,(.load none),[.t 7],none⟩,
 ⟨some 9,(.faddr 2),[.t 1],none⟩,
 ⟨some 10,(.load none),[.t 9],none⟩,
 ⟨some 11,(.build [(none,(.pv none (.int .i64 0))),(none,(.pv none (.int .i64 0))),(none,(.pv none (.str []))),(none,(.tsl (some 4) []))] [0,1,2]),[.t 6,.t 8,.t 10],none⟩,
 ⟨some 3,(.alloc (some 4) (.agg [(none,(.pv none (.int .i64 0))),(none,(.pv none (.int .i64 0))),(none,(.pv none (.str []))),(none,(.tsl (some 4) []))])),[],none⟩,
 ⟨none,(.store (some 4)),[.t 3,.t 11],none⟩]
def c103r2 : List AOper := [
 ⟨some 4,.mv,[.c (.pv none (.int .i64 0))],none⟩]
def c103r3 : List AOper := [
 ⟨some 12,.mv,[.t 4],none⟩,
 ⟨some 13,(.faddr 3),[.t 1],none⟩,
 ⟨some 14,(.load none),[.t 13],none⟩,
 ⟨some 15,.len,[.t 14],none⟩,
 ⟨some 16,(.bin .lss),[.t 12,.t 15],none⟩]
def c103k4 : ACode := (.cond (.t 16) .skip (.exit 0))
def c103r5 : List AOper := [
 ⟨some 19,(.faddr 3),[.t 3],none⟩,
 ⟨some 20,(.load none),[.t 19],none⟩,
 ⟨some 21,(.faddr 3),[.t 1],none⟩,
 ⟨some 22,(.load none),[.t 21],none⟩,
 ⟨some 23,.mv,[.t 4],none⟩,
 ⟨some 24,(.iaddr (some 4)),[.t 22,.t 23],none⟩,
 ⟨some 25,(.load (some 4)),[.t 24],none⟩,
 ⟨some 26,.callp,[.c (.pv none (.func (.func 103))),.t 25],none⟩,
 ⟨some 27,(.bslicep (some 4)),[.t 26],none⟩,
 ⟨some 28,(.append (some 4)),[.t 20,.t 27],none⟩,
 ⟨some 29,(.faddr 3),[.t 3],none⟩,
 ⟨none,(.store none),[.t 29,.t 28],none⟩]
def c103k6 : ACode := (.block 1 (.seq (.settle []) (.region true c103r5 [1,2,3,4])))
def c103r7 : List AOper := [
 ⟨some 17,.mv,[.t 4],none⟩,
 ⟨some 18,(.bin .add),[.t 17,.c (.pv none (.int .i64 1))],none⟩,
 ⟨some 4,.mv,[.t 18],none⟩]
def c103b8 : ACode := (.seq (.seq (.region true c103r3 [1,2,3,4,16]) c103k4) (.seq c103k6 (.region true c103r7 [1,2,3,4])))
def c103k9 : ACode := (.block 0 (.loop [1,2,3,4] c103b8))
def c103r10 : List AOper := [
 ⟨some 30,(.load (some 4)),[.t 3],none⟩,
 ⟨none,(.store (some 4)),[.t 2,.t 30],none⟩]
def c103 : ACode := (.seq (.region true c103r0 [1,2]) (.seq (.region true c103r1 [1,2,3]) (.seq (.seq (.region true c103r2 [1,2,3,4]) c103k9) (.seq (.region true c103r10 [2]) .ret))))
def g103 : AFn := ⟨1,[(2,some (some 4))],c103,false,[],[],none⟩
theorem tr103 : trFn Tryz.prog false 103 Tryz.f103 = some g103 := by kernel_rfl
def c105r0 : List AOper := [
 ⟨some 2,(.box (some 4)),[.t 0],none⟩,
 ⟨some 3,(.box (some 4)),[.t 1],none⟩,
 ⟨some 4,.mv,[.c (.pv none (.int .i64 0))],none⟩]
def c105r1 : List AOper := [
 ⟨some 7,(.faddr 0),[.t 2],none⟩,
 ⟨some 8,(.load none),[.t 7],none⟩,
 ⟨some 9,(.faddr 0),[.t 3],none⟩,
 ⟨some 10,(.load none),[.t 9],none⟩,
 ⟨some 11,(.bin .neq),[.t 8,.t 10],none⟩]
def c105r2 : List AOper := [
 ⟨some 12,(.faddr 0),[.t 2],none⟩,
 ⟨some 13,(.load none),[.t 12],none⟩,
 ⟨some 14,(.faddr 0),[.t 3],none⟩,
 ⟨some 15,(.load none),[.t 14],none⟩,
 ⟨some 16,.call,[.c (.pv none (.func (.func 135))),.t 13,.t 15],none⟩,
 ⟨some 4,.mv,[.t 16],none⟩]
def c105k3 : ACode := (.cond (.t 11) (.seq (.region true c105r2 [4]) .ret) .skip)
def c105r4 : List AOper := [
 ⟨some 17,(.faddr 1),[.t 2],none⟩,
 ⟨some 18,(.load none),[.t 17],none⟩,
 ⟨some 19,(.faddr 1),[.t 3],none⟩,
 ⟨some 20,(.load none),[.t 19],none⟩,
 ⟨some 21,.call,[.c (.pv none (.func (.func 135))),.t 18,.t 20],none⟩,
 ⟨some 5,.mv,[.t 21],none⟩]
def c105r5 : List AOper := [
 ⟨some 22,.mv,[.t 5],none⟩,
 ⟨some 23,(.bin .eql),[.t 22,.c (.pv none (.int .i64 0))],none⟩]
def c105r6 : List AOper := [
 ⟨some 24,(.faddr 3),[.t 2],none⟩,
 ⟨some 25,(.load none),[.t 24],none⟩,
 ⟨some 26,.len,[.t 25],none⟩,
 ⟨some 27,(.faddr 3),[.t 3],none⟩,
 ⟨some 28,(.load none),[.t 27],none⟩,
 ⟨some 29,.len,[.t 28],none⟩,
 ⟨some 30,.call,[.c (.pv none (.func (.func 135))),.t 26,.t 29],none⟩,
 ⟨some 5,.mv,[.t 30],none⟩]
def c105k7 : ACode := (.cond (.t 23) (.region true c105r6 [2,3,5]) .skip)
def c105r8 : List AOper := [
 ⟨some 31,.mv,[.t 5],none⟩,
 ⟨some 32,(.bin .eql),[.t 31,.c (.pv none (.int .i64 0))],none⟩]
def c105r9 : List AOper := [
 ⟨some 33,(.faddr 2),[.t 2],none⟩,
 ⟨some 34,(.load none),[.t 33],none⟩,
 ⟨some 35,(.faddr 2),[.t 3],none⟩,
 ⟨some 36,(.load none),[.t 35],none⟩,
 ⟨some 37,.call,[.c (.pv none (.func (.func 136))),.t 34,.t 36],none⟩,
 ⟨some 5,.mv,[.t 37],none⟩]
def c105k10 : ACode := (.cond (.t 32) (.region true c105r9 [2,3,5]) .skip)
def c105r11 : List AOper := [
 ⟨some 6,.mv,[.c (.pv none (.int .i64 0))],none⟩]
def c105r12 : List AOper := [
 ⟨some 38,.mv,[.t 6],none⟩,
 ⟨some 39,(.faddr 3),[.t 2],none⟩,
 ⟨some 40,(.load none),[.t 39],none⟩,
 ⟨some 41,.len,[.t 40],none⟩,
 ⟨some 42,(.bin .lss),[.t 38,.t 41],none⟩,
 ⟨some 43,.mv,[.t 42],none⟩,
 ⟨some 44,.mv,[.t 5],some (43,true)⟩,
 ⟨some 45,(.bin .eql),[.t 44,.c (.pv none (.int .i64 0))],some (43,true)⟩,
 ⟨some 46,.pick,[.t 43,.t 45,.c (.pv none (.bool false))],none⟩]
def c105k13 : ACode := (.cond (.t 46) .skip (.exit 0))
def c105r14 : List AOper := [
 ⟨some 49,(.faddr 3),[.t 2],none⟩,
 ⟨some 50,(.load none),[.t 49],none⟩,
 ⟨some 51,.mv,[.t 6],none⟩,
 ⟨some 52,(.iaddr (some 4)),[.t 50,.t 51],none⟩,
 ⟨some 53,(.load (some 4)),[.t 52],none⟩,
 ⟨some 54,(.faddr 3),[.t 3],none⟩,
 ⟨some 55,(.load none),[.t 54],none⟩,
 ⟨some 56,.mv,[.t 6],none⟩,
 ⟨some 57,(.iaddr (some 4)),[.t 55,.t 56],none⟩,
 ⟨some 58,(.load (some 4)),[.t 57],none⟩,
 ⟨some 59,.call,[.c (.pv none (.func (.func 105))),.t 53,.t 58],none⟩,
 ⟨some 5,.mv,[.t 59],none⟩]
def c105k15 : ACode := (.block 1 (.region true c105r14 [2,3,5,6]))
def c105r16 : List AOper := [
 ⟨some 47,.mv,[.t 6],none⟩,
 ⟨some 48,(.bin .add),[.t 47,.c (.pv none (.int .i64 1))],none⟩,
 ⟨some 6,.mv,[.t 48],none⟩]
def c105b17 : ACode := (.seq (.seq (.region true c105r12 [2,3,5,6,46]) c105k13) (.seq c105k15 (.region true c105r16 [2,3,5,6])))
def c105k18 : ACode := (.block 0 (.loop [2,3,5,6] c105b17))
def c105r19 : List AOper := [
 ⟨some 60,.mv,[.t 5],none⟩,
 ⟨some 4,.mv,[.t 60],none⟩]
def c105 : ACode := (.seq (.region true c105r0 [2,3]) (.seq (.seq (.region true c105r1 [2,3,11]) c105k3) (.seq (.region true c105r4 [2,3,5]) (.seq (.seq (.region true c105r5 [2,3,5,23]) c105k7) (.seq (.seq (.region true c105r8 [2,3,5,32]) c105k10) (.seq (.seq (.region true c105r11 [2,3,5,6]) c105k18) (.seq (.region true c105r19 [4]) .ret)))))))
def g105 : AFn := ⟨2,[(4,none)],c105,false,[],[],none⟩
theorem tr105 : trFn Tryz.prog false 105 Tryz.f105 = some g105 := by kernel_rfl
def c106r0 : List AOper := [
 ⟨some 2,(.box (some 4)),[.t 0],none⟩,
 ⟨some 4,(.alloc (some 4) (.agg [(none,(.pv none (.int .i64 0))),(none,(.pv none (.int .i64 0))),(none,(.pv none (.str []))),(none,(.tsl (some 4) []))])),[],none⟩]
def c106r1 : List AOper := [
 ⟨some 5,.mv,[.t 1],none⟩]
def c106r2 : List AOper := [
 ⟨some 6,(.faddr 3),[.t 2],none⟩,
 ⟨some 7,(.load none),[.t 6],none⟩,
 ⟨some 8,(.iaddr (some 4)),[.t 7,.c (.pv none (.int .i64 0))],none⟩,
 ⟨some 9,(.load (some 4)),[.t 8],none⟩,
 ⟨none,(.store (some 4)),[.t 4,.t 9],none⟩]
def c106k3 : ACode := (.cond (.t 5) (.seq (.region true c106r2 [4]) .ret) .skip)
def c106r4 : List AOper := [
 ⟨some 10,(.load (some 4)),[.t 2],none⟩,
 ⟨none,(.store (some 4)),[.t 4,.t 10],none⟩]
def c106 : ACode := (.seq (.region true c106r0 [1,2,4]) (.seq (.seq (.region true c106r1 [2,4,5]) c106k3) (.seq (.region true c106r4 [4]) .ret)))
def g106 : AFn := ⟨2,[(4,some (some 4))],c106,false,[],[],none⟩
theorem tr106 : trFn Tryz.prog false 106 Tryz.f106 = some g106 := by kernel_rfl
def c107r0 : List AOper := [
 ⟨some 1,(.box (some 4)),[.t 0],none⟩,
 ⟨some 2,.mv,[.c (.pv none (.bool false))],none⟩]
def c107r1 : List AOper := [
 ⟨some 3,(.faddr 0),[.t 1],none⟩,
 ⟨some 4,(.load none),[.t 3],none⟩,
 ⟨some 5,(.bin .eql),[.t 4,.c (.pv none (.int .i64 3))],none⟩,
 ⟨some 6,.mv,[.t 5],none⟩,
 ⟨some 7,(.faddr 2),[.t 1],some (6,true)⟩,
 ⟨some 8,(.load none),[.t 7],some (6,true)⟩,
 ⟨some 9,(.bin .eql),[.t 8,.c (.pv none (.str [94]))],some (6,true)⟩,
 ⟨some 10,.pick,[.t 6,.t 9,.c (.pv none (.bool false))],none⟩,
 ⟨some 11,.mv,[.t 10],none⟩,
 ⟨some 12,(.faddr 3),[.t 1],some (11,true)⟩,
 ⟨some 13,(.load none),[.t 12],some (11,true)⟩,
 ⟨some 14,.len,[.t 13],some (11,true)⟩,
 ⟨some 15,(.bin .eql),[.t 14,.c (.pv none (.int .i64 2))],some (11,true)⟩,
 ⟨some 16,.pick,[.t 11,.t 15,.c (.pv none (.bool false))],none⟩,
 ⟨some 2,.mv,[.t 16],none⟩]
def c107 : ACode := (.seq (.region true c107r0 [1]) (.seq (.region true c107r1 [2]) .ret))
def g107 : AFn := ⟨1,[(2,none)],c107,false,[],[],none⟩
theorem tr107 : trFn Tryz.prog false 107 Tryz.f107 = some g107 := by kernel_rfl
def c108r0 : List AOper := [
 ⟨some 3,(.box (some 4)),[.t 0],none⟩,
 ⟨some 4,(.alloc (some 4) (.agg [(none,(.pv none (.int .i64 0))),(none,(.pv none (.int .i64 0))),(none,(.pv none (.str []))),(none,(.tsl (some 4) []))])),[],none⟩]
def c108r1 : List AOper := [
 ⟨some 5,(.load none),[.t 1],none⟩,
 ⟨some 6,(.faddr 1),[.t 3],none⟩,
 ⟨some 7,(.load none),[.t 6],none⟩,
 ⟨some 8,(.lookup false none (.pv none (.int .i64 0)) false),[.t 5,.t 7],none⟩,
 ⟨some 9,(.bin .eql),[.t 8,.c (.pv none (.int .i64 0))],none⟩]
def c108r2 : List AOper := [
 ⟨some 10,(.load none),[.t 1],none⟩,
 ⟨some 11,(.faddr 1),[.t 3],none⟩,
 ⟨some 12,(.load none),[.t 11],none⟩,
 ⟨none,(.mapset false none),[.t 10,.t 12,.c (.pv none (.int .i64 1))],none⟩]
def c108r3 : List AOper := [
 ⟨some 13,(.load none),[.t 2],none⟩,
 ⟨some 14,(.faddr 1),[.t 3],none⟩,
 ⟨some 15,(.load none),[.t 14],none⟩,
 ⟨some 16,(.bslice none),[.t 15],none⟩,
 ⟨some 17,(.append none),[.t 13,.t 16],none⟩,
 ⟨none,(.store none),[.t 2,.t 17],none⟩]
def c108k4 : ACode := (.cond (.t 9) (.seq (.region true c108r2 [2,3,4]) (.region true c108r3 [3,4])) .skip)
def c108r5 : List AOper := [
 ⟨some 18,(.load (some 4)),[.t 3],none⟩,
 ⟨none,(.store (some 4)),[.t 4,.t 18],none⟩]
def c108 : ACode := (.seq (.region true c108r0 [1,2,3,4]) (.seq (.seq (.region true c108r1 [1,2,3,4,9]) c108k4) (.seq (.region true c108r5 [4]) .ret)))
def g108 : AFn := ⟨3,[(4,some (some 4))],c108,true,[],[],none⟩
theorem tr108 : trFn Tryz.prog true 108 Tryz.f108 = some g108 := by kernel_rfl
def c109r0 : List AOper := [
 ⟨some 4,(.load (some 4)),[.t 1],none⟩,
 ⟨some 5,.call,[.c (.pv none (.func (.func 67))),.t 4,.c (.pv none (.str [94])),.c (.pv none (.int .i64 2))],none⟩]
def c109k1 : ACode := (.cond (.t 5) .skip (.exit 0))
def c109r2 : List AOper := [
 ⟨some 6,(.faddr 3),[.t 1],none⟩,
 ⟨some 7,(.load none),[.t 6],none⟩,
 ⟨some 8,(.iaddr (some 4)),[.t 7,.c (.pv none (.int .i64 0))],none⟩,
 ⟨some 9,(.load (some 4)),[.t 8],none⟩,
 ⟨some 3,(.alloc (some 4) (.agg [(none,(.pv none (.int .i64 0))),(none,(.pv none (.int .i64 0))),(none,(.pv none (.str []))),(none,(.tsl (some 4) []))])),[],none⟩,
 ⟨none,(.store (some 4)),[.t 3,.t 9],none⟩]
def c109r3 : List AOper := [
 ⟨some 10,(.faddr 3),[.t 1],none⟩,
 ⟨some 11,(.load none),[.t 10],none⟩,
 ⟨some 12,(.iaddr (some 4)),[.t 11,.c (.pv none (.int .i64 1))],none⟩,
 ⟨some 13,(.load (some 4)),[.t 12],none⟩,
 ⟨none,(.store (some 4)),[.t 1,.t 13],none⟩]
def c109r4 : List AOper := [
 ⟨some 14,.mv,[.t 0],none⟩,
 ⟨some 15,(.load (some 4)),[.t 3],none⟩,
 ⟨some 16,(.load (some 4)),[.t 1],none⟩,
 ⟨some 17,.call,[.t 14,.t 15,.t 16],none⟩,
 ⟨some 18,.not,[.t 17],none⟩]
def c109k5 : ACode := (.cond (.t 18) .ret .skip)
def c109k6 : ACode := (.block 1 (.seq (.region true c109r2 [0,1,3]) (.seq (.region true c109r3 [0,1,3]) (.seq (.region true c109r4 [0,1,18]) c109k5))))
def c109b7 : ACode := (.seq (.seq (.region true c109r0 [0,1,5]) c109k1) c109k6)
def c109k8 : ACode := (.block 0 (.loop [0,1] c109b7))
def c109 : ACode := c109k8
def g109 : AFn := ⟨2,[],c109,true,[],[],none⟩
theorem tr109 : trFn Tryz.prog true 109 Tryz.f109 = some g109 := by kernel_rfl
def c110r0 : List AOper := [
 ⟨some 4,.mv,[.c (.pv none (.bool false))],none⟩]
def c110r1 : List AOper := [
 ⟨some 5,.mv,[.c (.pv none (.int .i64 0))],none⟩]
def c110r2 : List AOper := [
 ⟨some 6,.mv,[.t 5],none⟩,
 ⟨some 7,.mv,[.t 0],none⟩,
 ⟨some 8,.len,[.t 7],none⟩,
 ⟨some 9,(.bin .lss),[.t 6,.t 8],none⟩]
def c110k3 : ACode := (.cond (.t 9) .skip (.exit 0))
def c110r4 : List AOper := [
 ⟨some 12,.mv,[.t 0],none⟩,
 ⟨some 13,.mv,[.t 5],none⟩,
 ⟨some 14,(.iaddr none),[.t 12,.t 13],none⟩,
 ⟨some 15,(.load none),[.t 14],none⟩,
 ⟨some 16,.mv,[.t 1],none⟩,
 ⟨some 17,(.bin .eql),[.t 15,.t 16],none⟩]
def c110r5 : List AOper := [
 ⟨some 4,.mv,[.c (.pv none (.bool true))],none⟩]
def c110k6 : ACode := (.cond (.t 17) (.seq (.region true c110r5 [4]) .ret) .skip)
def c110k7 : ACode := (.block 1 (.seq (.region true c110r4 [0,1,5,17]) c110k6))
def c110r8 : List AOper := [
 ⟨some 10,.mv,[.t 5],none⟩,
 ⟨some 11,(.bin .add),[.t 10,.c (.pv none (.int .i64 1))],none⟩,
 ⟨some 5,.mv,[.t 11],none⟩]
def c110b9 : ACode := (.seq (.seq (.region true c110r2 [0,1,5,9]) c110k3) (.seq c110k7 (.region true c110r8 [0,1,5])))
def c110k10 : ACode := (.block 0 (.loop [0,1,5] c110b9))
def c110r11 : List AOper := [
 ⟨some 4,.mv,[.c (.pv none (.bool false))],none⟩]
def c110 : ACode := (.seq (.region true c110r0 [0,1]) (.seq (.seq (.region true c110r1 [0,1,5]) c110k10) (.seq (.region true c110r11 [4]) .ret)))
def g110 : AFn := ⟨2,[(4,none)],c110,false,[],[],none⟩
theorem tr110 : trFn Tryz.prog false 110 Tryz.f110 = some g110 := by kernel_rfl
def c111r0 : List AOper := [
 ⟨some 4,(.alloc (some 4) (.agg [(none,(.pv none (.int .i64 0))),(none,(.pv none (.int .i64 0))),(none,(.pv none (.str []))),(none,(.tsl (some 4) []))])),[],none⟩]
def c111r1 : List AOper := [
 ⟨some 5,.mv,[.t 0],none⟩,
 ⟨some 6,.mv,[.t 1],none⟩,
 ⟨some 7,.call,[.c (.pv none (.func (.func 26))),.t 5,.t 6],none⟩,
 ⟨some 8,.call,[.c (.pv none (.func (.func 28))),.c (.pv none (.str [91,93]))],none⟩,
 ⟨some 9,(.bslice (some 4)),[.t 7,.t 8],none⟩,
 ⟨some 10,.call,[.c (.pv none (.func (.func 26))),.c (.pv none (.str [101,114,114,111,114])),.t 9],none⟩,
 ⟨none,(.store (some 4)),[.t 4,.t 10],none⟩]
def c111 : ACode := (.seq (.region true c111r0 [0,1,4]) (.seq (.region true c111r1 [4]) .ret))
def g111 : AFn := ⟨2,[(4,some (some 4))],c111,false,[],[],none⟩
theorem tr111 : trFn Tryz.prog false 111 Tryz.f111 = some g111 := by kernel_rfl
def c112r0 : List AOper := [
 ⟨some 3,(.box (some 4)),[.t 0],none⟩,
 ⟨some 6,(.alloc (some 4) (.agg [(none,(.pv none (.int .i64 0))),(none,(.pv none (.int .i64 0))),(none,(.pv none (.str []))),(none,(.tsl (some 4) []))])),[],none⟩]
def c112r1 : List AOper := [
 ⟨some 10,(.load (some 4)),[.t 3],none⟩,
 ⟨some 11,.call,[.c (.pv none (.func (.func 45))),.t 10],none⟩,
 ⟨some 12,.not,[.t 11],none⟩]
def c112r2 : List AOper := [
 ⟨some 13,(.build [(none,(.pv none (.int .i64 0))),(none,(.pv none (.int .i64 0))),(none,(.pv none (.str []))),(none,(.tsl (some 4) []))] []),[],none⟩,
 ⟨none,(.store (some 4)),[.t 6,.t 13],none⟩]
def c112k3 : ACode := (.cond (.t 12) (.seq (.region true c112r2 [6]) .ret) .skip)
def c112r4 : List AOper := [
 ⟨some 7,(.nilsl (some 4)),[],none⟩]
def c112r5 : List AOper := [
 ⟨some 14,.mv,[.t 2],none⟩,
 ⟨some 15,.len,[.t 14],none⟩,
 ⟨some 16,.mv,[.c (.pv none (.int .i64 0))],none⟩]
def c112r6 : List AOper := [
 ⟨some 17,(.bin .lss),[.t 16,.t 15],none⟩]
def c112k7 : ACode := (.cond (.t 17) .skip (.exit 0))
def c112r8 : List AOper := [
 ⟨some 18,(.iaddr none),[.t 14,.t 16],none⟩,
 ⟨some 19,(.load none),[.t 18],none⟩,
 ⟨some 9,.mv,[.t 19],none⟩]
def c112r9 : List AOper := [
 ⟨some 20,.mv,[.t 9],none⟩,
 ⟨some 21,.slen,[.t 20],none⟩,
 ⟨some 22,(.bin .gtr),[.t 21,.c (.pv none (.int .i64 100))],none⟩]
def c112r10 : List AOper := [
 ⟨some 23,(.build [(none,(.pv none (.int .i64 0))),(none,(.pv none (.int .i64 0))),(none,(.pv none (.str []))),(none,(.tsl (some 4) []))] []),[],none⟩,
 ⟨none,(.store (some 4)),[.t 6,.t 23],none⟩]
def c112k11 : ACode := (.cond (.t 22) (.seq (.region true c112r10 [6]) .ret) .skip)
def c112r12 : List AOper := [
 ⟨some 24,.mv,[.t 7],none⟩,
 ⟨some 25,.mv,[.t 9],none⟩,
 ⟨some 26,.call,[.c (.pv none (.func (.func 28))),.t 25],none⟩,
 ⟨some 27,(.bslice (some 4)),[.t 26],none⟩,
 ⟨some 28,(.append (some 4)),[.t 24,.t 27],none⟩,
 ⟨some 7,.mv,[.t 28],none⟩]
def c112k13 : ACode := (.block 1 (.seq (.region true c112r8 [1,2,3,6,7,9,14,15,16]) (.seq (.seq (.region true c112r9 [1,2,3,6,7,9,14,15,16,22]) c112k11) (.region true c112r12 [1,2,3,6,7,14,15,16]))))
def c112r14 : List AOper := [
 ⟨some 29,(.bin .add),[.t 16,.c (.pv none (.int .i64 1))],none⟩,
 ⟨some 16,.mv,[.t 29],none⟩]
def c112b15 : ACode := (.seq (.region true c112r6 [1,2,3,6,7,14,15,16,17]) (.seq c112k7 (.seq c112k13 (.region true c112r14 [1,2,3,6,7,14,15,16]))))
def c112k16 : ACode := (.block 0 (.loop [1,2,3,6,7,14,15,16] c112b15))
def c112r17 : List AOper := [
 ⟨some 30,.mv,[.t 2],none⟩,
 ⟨some 31,.len,[.t 30],none⟩,
 ⟨some 32,(.bin .add),[.c (.pv none (.int .i64 3)),.t 31],none⟩,
 ⟨some 33,(.load (some 4)),[.t 3],none⟩,
 ⟨some 34,.call,[.c (.pv none (.func (.func 87))),.t 33],none⟩,
 ⟨some 35,(.bin .add),[.t 32,.t 34],none⟩,
 ⟨some 36,(.bin .gtr),[.t 35,.c (.pv none (.int .i64 2000))],none⟩]
def c112r18 : List AOper := [
 ⟨some 37,.call,[.c (.pv none (.func (.func 28))),.c (.pv none (.str [46,46,46]))],none⟩,
 ⟨none,(.store (some 4)),[.t 3,.t 37],none⟩]
def c112k19 : ACode := (.cond (.t 36) (.region true c112r18 [1,3,6,7]) .skip)
def c112r20 : List AOper := [
 ⟨some 38,.mv,[.t 1],none⟩,
 ⟨some 39,.mv,[.t 7],none⟩,
 ⟨some 40,(.load (some 4)),[.t 3],none⟩,
 ⟨some 41,(.bslice (some 4)),[.t 40],none⟩,
 ⟨some 42,(.append (some 4)),[.t 39,.t 41],none⟩,
 ⟨some 43,.call,[.c (.pv none (.func (.func 111))),.t 38,.t 42],none⟩,
 ⟨none,(.store (some 4)),[.t 6,.t 43],none⟩]
def c112 : ACode := (.seq (.region true c112r0 [1,2,3,6]) (.seq (.seq (.region true c112r1 [1,2,3,6,12]) c112k3) (.seq (.region true c112r4 [1,2,3,6,7]) (.seq (.seq (.region true c112r5 [1,2,3,6,7,14,15,16]) c112k16) (.seq (.seq (.region true c112r17 [1,3,6,7,36]) c112k19) (.seq (.region true c112r20 [6]) .ret))))))
def g112 : AFn := ⟨3,[(6,some (some 4))],c112,false,[],[],none⟩
theorem tr112 : trFn Tryz.prog false 112 Tryz.f112 = some g112 := by kernel_rfl
def c113r0 : List AOper := [
 ⟨some 3,(.box (some 4)),[.t 1],none⟩,
 ⟨some 4,(.nilsl none),[],none⟩]
def c113r1 : List AOper := [
 ⟨some 6,(.faddr 0),[.t 3],none⟩,
 ⟨some 7,(.load none),[.t 6],none⟩,
 ⟨some 8,(.bin .eql),[.t 7,.c (.pv none (.int .i64 0))],none⟩,
 ⟨some 9,.mv,[.t 8],none⟩,
 ⟨some 10,.mv,[.t 0],some (9,true)⟩,
 ⟨some 11,(.faddr 1),[.t 3],some (9,true)⟩,
 ⟨some 12,(.load none),[.t 11],some (9,true)⟩,
 ⟨some 13,.call,[.c (.pv none (.func (.func 137))),.t 10,.t 12],some (9,true)⟩,
 ⟨some 14,(.bin .lss),[.t 13,.c (.pv none (.int .i64 0))],some (9,true)⟩,
 ⟨some 15,.pick,[.t 9,.t 14,.c (.pv none (.bool false))],none⟩]
def c113r2 : List AOper := [
 ⟨some 16,.mv,[.t 0],none⟩,
 ⟨some 17,(.faddr 1),[.t 3],none⟩,
 ⟨some 18,(.load none),[.t 17],none⟩,
 ⟨some 19,(.bslice none),[.t 18],none⟩,
 ⟨some 20,(.append none),[.t 16,.t 19],none⟩,
 ⟨some 0,.mv,[.t 20],none⟩]
def c113k3 : ACode := (.cond (.t 15) (.region true c113r2 [0,3]) .skip)
def c113r4 : List AOper := [
 ⟨some 5,.mv,[.c (.pv none (.int .i64 0))],none⟩]
def c113r5 : List AOper := [
 ⟨some 21,.mv,[.t 5],none⟩,
 ⟨some 22,(.faddr 3),[.t 3],none⟩,
 ⟨some 23,(.load none),[.t 22],none⟩,
 ⟨some 24,.len,[.t 23],none⟩,
 ⟨some 25,(.bin .lss),[.t 21,.t 24],none⟩]
def c113k6 : ACode := (.cond (.t 25) .skip (.exit 0))
def c113r7 : List AOper := [
 ⟨some 28,.mv,[.t 0],none⟩,
 ⟨some 29,(.faddr 3),[.t 3],none⟩,
 ⟨some 30,(.load none),[.t 29],none⟩,
 ⟨some 31,.mv,[.t 5],none⟩,
 ⟨some 32,(.iaddr (some 4)),[.t 30,.t 31],none⟩,
 ⟨some 33,(.load (some 4)),[.t 32],none⟩,
 ⟨some 34,.call,[.c (.pv none (.func (.func 113))),.t 28,.t 33],none⟩,
 ⟨some 0,.mv,[.t 34],none⟩]
def c113k8 : ACode := (.block 1 (.region true c113r7 [0,3,5]))
def c113r9 : List AOper := [
 ⟨some 26,.mv,[.t 5],none⟩,
 ⟨some 27,(.bin .add),[.t 26,.c (.pv none (.int .i64 1))],none⟩,
 ⟨some 5,.mv,[.t 27],none⟩]
def c113b10 : ACode := (.seq (.seq (.region true c113r5 [0,3,5,25]) c113k6) (.seq c113k8 (.region true c113r9 [0,3,5])))
def c113k11 : ACode := (.block 0 (.loop [0,3,5] c113b10))
def c113r12 : List AOper := [
 ⟨some 35,.mv,[.t 0],none⟩,
 ⟨some 4,.mv,[.t 35],none⟩]
def c113 : ACode := (.seq (.region true c113r0 [0,3]) (.seq (.seq (.region true c113r1 [0,3,15]) c113k3) (.seq (.seq (.region true c113r4 [0,3,5]) c113k11) (.seq (.region true c113r12 [4]) .ret))))
def g113 : AFn := ⟨2,[(4,none)],c113,true,[],[],none⟩
theorem tr113 : trFn Tryz.prog true 113 Tryz.f113 = some g113 := by kernel_rfl
def c114r0 : List AOper := [
 ⟨some 4,(.alloc (some 4) (.agg [(none,(.pv none (.int .i64 0))),(none,(.pv none (.int .i64 0))),(none,(.pv none (.str []))),(none,(.tsl (some 4) []))])),[],none⟩]
def c114r1 : List AOper := [
 ⟨some 5,.mv,[.t 0],none⟩,
 ⟨some 6,.mv,[.t 1],none⟩,
 ⟨some 7,(.build [(none,(.pv none (.int .i64 0))),(none,(.pv none (.int .i64 0))),(none,(.pv none (.str []))),(none,(.tsl (some 4) []))] [0,2,3]),[.c (.pv none (.int .i64 3)),.t 5,.t 6],none⟩,
 ⟨none,(.store (some 4)),[.t 4,.t 7],none⟩]
def c114 : ACode := (.seq (.region true c114r0 [0,1,4]) (.seq (.region true c114r1 [4]) .ret))
def g114 : AFn := ⟨2,[(4,some (some 4))],c114,false,[],[],none⟩
theorem tr114 : trFn Tryz.prog false 114 Tryz.f114 = some g114 := by kernel_rfl
def c115r0 : List AOper := [
 ⟨some 4,.mv,[.t 0],none⟩,
 ⟨some 5,.mv,[.t 0],none⟩,
 ⟨some 6,.len,[.t 5],none⟩,
 ⟨some 7,.mv,[.t 1],none⟩,
 ⟨some 8,.call,[.c (.pv none (.func (.func 138))),.t 4,.t 6,.t 7],none⟩]
def c115 : ACode := (.region true c115r0 [])
def g115 : AFn := ⟨2,[],c115,true,[],[],none⟩
theorem tr115 : trFn Tryz.prog true 115 Tryz.f115 = some g115 := by kernel_rfl
def c116r0 : List AOper := [
 ⟨some 4,.mv,[.c (.pv none (.int .i64 0))],none⟩]
def c116r1 : List AOper := [
 ⟨some 7,.mv,[.t 0],none⟩,
 ⟨some 8,.call,[.c (.pv none (.func (.func 139))),.t 7],none⟩,
 ⟨some 5,.mv,[.t 8],none⟩]
def c116r2 : List AOper := [
 ⟨some 9,.mv,[.t 1],none⟩,
 ⟨some 10,.call,[.c (.pv none (.func (.func 139))),.t 9],none⟩,
 ⟨some 6,.mv,[.t 10],none⟩]
def c116r3 : List AOper := [
 ⟨some 11,.mv,[.t 5],none⟩]
def c116r4 : List AOper := [
 ⟨some 12,.mv,[.t 6],none⟩]
def c116r5 : List AOper := [
 ⟨some 4,.mv,[.c (.pv none (.int .i64 0))],none⟩]
def c116k6 : ACode := (.cond (.t 12) (.seq (.region true c116r5 [4]) .ret) .skip)
def c116r7 : List AOper := [
 ⟨some 4,.mv,[.c (.pv none (.int .i64 (-1)))],none⟩]
def c116k8 : ACode := (.cond (.t 11) (.seq (.seq (.region true c116r4 [12]) c116k6) (.seq (.region true c116r7 [4]) .ret)) .skip)
def c116r9 : List AOper := [
 ⟨some 13,.mv,[.t 6],none⟩]
def c116r10 : List AOper := [
 ⟨some 4,.mv,[.c (.pv none (.int .i64 1))],none⟩]
def c116k11 : ACode := (.cond (.t 13) (.seq (.region true c116r10 [4]) .ret) .skip)
def c116r12 : List AOper := [
 ⟨some 14,.mv,[.t 0],none⟩,
 ⟨some 15,.mv,[.t 1],none⟩,
 ⟨some 16,(.bin .lss),[.t 14,.t 15],none⟩]
def c116r13 : List AOper := [
 ⟨some 4,.mv,[.c (.pv none (.int .i64 (-1)))],none⟩]
def c116k14 : ACode := (.cond (.t 16) (.seq (.region true c116r13 [4]) .ret) .skip)
def c116r15 : List AOper := [
 ⟨some 17,.mv,[.t 0],none⟩,
 ⟨some 18,.mv,[.t 1],none⟩,
 ⟨some 19,(.bin .gtr),[.t 17,.t 18],none⟩]
def c116r16 : List AOper := [
 ⟨some 4,.mv,[.c (.pv none (.int .i64 1))],none⟩]
def c116k17 : ACode := (.cond (.t 19) (.seq (.region true c116r16 [4]) .ret) .skip)
def c116r18 : List AOper := [
 ⟨some 4,.mv,[.c (.pv none (.int .i64 0))],none⟩]
def c116 : ACode := (.seq (.region true c116r0 [0,1]) (.seq (.region true c116r1 [0,1,5]) (.seq (.region true c116r2 [0,1,5,6]) (.seq (.seq (.region true c116r3 [0,1,6,11]) c116k8) (.seq (.seq (.region true c116r9 [0,1,13]) c116k11) (.seq (.seq (.region true c116r12 [0,1,16]) c116k14) (.seq (.seq (.region true c116r15 [19]) c116k17) (.seq (.region true c116r18 [4]) .ret))))))))
def g116 : AFn := ⟨2,[(4,none)],c116,false,[],[],none⟩
theorem tr116 : trFn Tryz.prog false 116 Tryz.f116 = some g116 := by kernel_rfl
def c117r0 : List AOper := [
 ⟨some 4,.mv,[.c (.pv none (.int .i64 0))],none⟩]
def c117r1 : List AOper := [
 ⟨some 7,.mv,[.t 0],none⟩,
 ⟨some 8,.call,[.c (.pv none (.func (.func 140))),.t 7],none⟩,
 ⟨some 5,.mv,[.t 8],none⟩]
def c117r2 : List AOper := [
 ⟨some 9,.mv,[.t 1],none⟩,
 ⟨some 10,.call,[.c (.pv none (.func (.func 140))),.t 9],none⟩,
 ⟨some 6,.mv,[.t 10],none⟩]
def c117r3 : List AOper := [
 ⟨some 11,.mv,[.t 5],none⟩]
def c117r4 : List AOper := [
 ⟨some 12,.mv,[.t 6],none⟩]
def c117r5 : List AOper := [
 ⟨some 4,.mv,[.c (.pv none (.int .i64 0))],none⟩]
def c117k6 : ACode := (.cond (.t 12) (.seq (.region true c117r5 [4]) .ret) .skip)
def c117r7 : List AOper := [
 ⟨some 4,.mv,[.c (.pv none (.int .i64 (-1)))],none⟩]
def c117k8 : ACode := (.cond (.t 11) (.seq (.seq (.region true c117r4 [12]) c117k6) (.seq (.region true c117r7 [4]) .ret)) .skip)
def c117r9 : List AOper := [
 ⟨some 13,.mv,[.t 6],none⟩]
def c117r10 : List AOper := [
 ⟨some 4,.mv,[.c (.pv none (.int .i64 1))],none⟩]
def c117k11 : ACode := (.cond (.t 13) (.seq (.region true c117r10 [4]) .ret) .skip)
def c117r12 : List AOper := [
 ⟨some 14,.mv,[.t 0],none⟩,
 ⟨some 15,.mv,[.t 1],none⟩,
 ⟨some 16,(.bin .lss),[.t 14,.t 15],none⟩]
def c117r13 : List AOper := [
 ⟨some 4,.mv,[.c (.pv none (.int .i64 (-1)))],none⟩]
def c117k14 : ACode := (.cond (.t 16) (.seq (.region true c117r13 [4]) .ret) .skip)
def c117r15 : List AOper := [
 ⟨some 17,.mv,[.t 0],none⟩,
 ⟨some 18,.mv,[.t 1],none⟩,
 ⟨some 19,(.bin .gtr),[.t 17,.t 18],none⟩]
def c117r16 : List AOper := [
 ⟨some 4,.mv,[.c (.pv none (.int .i64 1))],none⟩]
def c117k17 : ACode := (.cond (.t 19) (.seq (.region true c117r16 [4]) .ret) .skip)
def c117r18 : List AOper := [
 ⟨some 4,.mv,[.c (.pv none (.int .i64 0))],none⟩]
def c117 : ACode := (.seq (.region true c117r0 [0,1]) (.seq (.region true c117r1 [0,1,5]) (.seq (.region true c117r2 [0,1,5,6]) (.seq (.seq (.region true c117r3 [0,1,6,11]) c117k8) (.seq (.seq (.region true c117r9 [0,1,13]) c117k11) (.seq (.seq (.region true c117r12 [0,1,16]) c117k14) (.seq (.seq (.region true c117r15 [19]) c117k17) (.seq (.region true c117r18 [4]) .ret))))))))
def g117 : AFn := ⟨2,[(4,none)],c117,false,[],[],none⟩
theorem tr117 : trFn Tryz.prog false 117 Tryz.f117 = some g117 := by kernel_rfl
def c118r0 : List AOper := [
 ⟨some 4,.mv,[.c (.pv none (.int .i64 0))],none⟩]
def c118r1 : List AOper := [
 ⟨some 5,.mv,[.t 0],none⟩,
 ⟨some 6,.mv,[.t 1],none⟩,
 ⟨some 7,.call,[.c (.pv none (.func (.func 141))),.t 5,.t 6],none⟩,
 ⟨some 4,.mv,[.t 7],none⟩]
def c118 : ACode := (.seq (.region true c118r0 [0,1]) (.seq (.region true c118r1 [4]) .ret))
def g118 : AFn := ⟨2,[(4,none)],c118,false,[],[],none⟩
theorem tr118 : trFn Tryz.prog false 118 Tryz.f118 = some g118 := by kernel_rfl
def c119r0 : List AOper := [
 ⟨some 2,.mv,[.c (.pv none (.bool false))],none⟩]
def c119r1 : List AOper := [
 ⟨some 8,.mv,[.t 0],none⟩,
 ⟨some 9,.len,[.t 8],none⟩,
 ⟨some 10,.mv,[.c (.pv none (.int .i64 0))],none⟩]
def c119r2 : List AOper := [
 ⟨some 11,(.bin .lss),[.t 10,.t 9],none⟩]
def c119k3 : ACode := (.cond (.t 11) .skip (.exit 0))
def c119r4 : List AOper := [
 ⟨some 12,.mv,[.t 10],none⟩,
 ⟨some 13,(.iaddr (some 5)),[.t 8,.t 10],none⟩,
 ⟨some 14,(.load (some 5)),[.t 13],none⟩,
 ⟨some 4,(.alloc (some 5) (.agg [(none,(.pv none (.int .i64 0))),((some 4),(.agg [(none,(.pv none (.int .i64 0))),(none,(.pv none (.int .i64 0))),(none,(.pv none (.str []))),(none,(.tsl (some 4) []))]))])),[],none⟩,
 ⟨some 3,.mv,[.t 12],none⟩,
 ⟨none,(.store (some 5)),[.t 4,.t 14],none⟩]
def c119r5 : List AOper := [
 ⟨some 15,(.faddr 0),[.t 4],none⟩,
 ⟨some 16,(.load none),[.t 15],none⟩,
 ⟨some 17,(.bin .lss),[.t 16,.c (.pv none (.int .i64 0))],none⟩,
 ⟨some 18,.mv,[.t 17],none⟩,
 ⟨some 19,(.faddr 0),[.t 4],some (18,false)⟩,
 ⟨some 20,(.load none),[.t 19],some (18,false)⟩,
 ⟨some 21,(.bin .gtr),[.t 20,.c (.pv none (.int .i64 1099511627776))],some (18,false)⟩,
 ⟨some 22,.pick,[.t 18,.c (.pv none (.bool true)),.t 21],none⟩,
 ⟨some 23,.mv,[.t 22],none⟩,
 ⟨some 24,.mv,[.t 3],some (23,false)⟩,
 ⟨some 25,(.bin .gtr),[.t 24,.c (.pv none (.int .i64 0))],some (23,false)⟩,
 ⟨some 26,.mv,[.t 25],some (23,false)⟩,
 ⟨some 27,.mv,[.t 0],some (26,true)⟩,
 ⟨some 28,.mv,[.t 3],some (26,true)⟩,
 ⟨some 29,(.bin .sub),[.t 28,.c (.pv none (.int .i64 1))],some (26,true)⟩,
 ⟨some 30,(.iaddr (some 5)),[.t 27,.t 29],some (26,true)⟩,
 ⟨some 31,(.faddr 0),[.t 30],some (26,true)⟩,
 ⟨some 32,(.load none),[.t 31],some (26,true)⟩,
 ⟨some 33,(.faddr 0),[.t 4],some (26,true)⟩,
 ⟨some 34,(.load none),[.t 33],some (26,true)⟩,
 ⟨some 35,(.bin .geq),[.t 32,.t 34],some (26,true)⟩,
 ⟨some 36,.pick,[.t 26,.t 35,.c (.pv none (.bool false))],some (23,false)⟩,
 ⟨some 37,.pick,[.t 23,.c (.pv none (.bool true)),.t 36],none⟩,
 ⟨some 38,.mv,[.t 37],none⟩,
 ⟨some 39,(.faddr 1),[.t 4],some (38,false)⟩,
 ⟨some 40,(.load (some 4)),[.t 39],some (38,false)⟩,
 ⟨some 41,.call,[.c (.pv none (.func (.func 45))),.t 40],some (38,false)⟩,
 ⟨some 42,.not,[.t 41],some (38,false)⟩,
 ⟨some 43,.pick,[.t 38,.c (.pv none (.bool true)),.t 42],none⟩]
def c119r6 : List AOper := [
 ⟨some 2,.mv,[.c (.pv none (.bool false))],none⟩]
def c119k7 : ACode := (.cond (.t 43) (.seq (.region true c119r6 [2]) .ret) .skip)
def c119k8 : ACode := (.block 1 (.seq (.region true c119r4 [0,3,4,8,9,10]) (.seq (.region true c119r5 [0,8,9,10,43]) c119k7)))
def c119r9 : List AOper := [
 ⟨some 44,(.bin .add),[.t 10,.c (.pv none (.int .i64 1))],none⟩,
 ⟨some 10,.mv,[.t 44],none⟩]
def c119b10 : ACode := (.seq (.region true c119r2 [0,8,9,10,11]) (.seq c119k3 (.seq c119k8 (.region true c119r9 [0,8,9,10]))))
def c119k11 : ACode := (.block 0 (.loop [0,8,9,10] c119b10))
def c119r12 : List AOper := [
 ⟨some 45,(.mkmap none),[],none⟩,
 ⟨some 5,.mv,[.t 45],none⟩]
def c119r13 : List AOper := [
 ⟨some 46,.mv,[.t 0],none⟩,
 ⟨some 47,.len,[.t 46],none⟩,
 ⟨some 48,.mv,[.c (.pv none (.int .i64 0))],none⟩]
def c119r14 : List AOper := [
 ⟨some 49,(.bin .lss),[.t 48,.t 47],none⟩]
def c119k15 : ACode := (.cond (.t 49) .skip (.exit 2))
def c119r16 : List AOper := [
 ⟨some 50,(.iaddr (some 5)),[.t 46,.t 48],none⟩,
 ⟨some 51,(.load (some 5)),[.t 50],none⟩,
 ⟨some 7,(.alloc (some 5) (.agg [(none,(.pv none (.int .i64 0))),((some 4),(.agg [(none,(.pv none (.int .i64 0))),(none,(.pv none (.int .i64 0))),(none,(.pv none (.str []))),(none,(.tsl (some 4) []))]))])),[],none⟩,
 ⟨none,(.store (some 5)),[.t 7,.t 51],none⟩]
def c119r17 : List AOper := [
 ⟨some 52,.mv,[.t 0],none⟩,
 ⟨some 53,(.faddr 0),[.t 7],none⟩,
 ⟨some 54,(.load none),[.t 53],none⟩,
 ⟨some 55,.mv,[.t 5],none⟩,
 ⟨some 56,.call,[.c (.pv none (.func (.func 142))),.t 52,.t 54,.t 55],none⟩]
def c119r18 : List AOper := [
 ⟨some 2,.mv,[.c (.pv none (.bool false))],none⟩]
def c119k19 : ACode := (.cond (.t 56) (.seq (.region true c119r18 [2]) .ret) .skip)
def c119k20 : ACode := (.block 3 (.seq (.region true c119r16 [0,5,7,46,47,48]) (.seq (.region true c119r17 [0,5,46,47,48,56]) c119k19)))
def c119r21 : List AOper := [
 ⟨some 57,(.bin .add),[.t 48,.c (.pv none (.int .i64 1))],none⟩,
 ⟨some 48,.mv,[.t 57],none⟩]
def c119b22 : ACode := (.seq (.region true c119r14 [0,5,46,47,48,49]) (.seq c119k15 (.seq c119k20 (.region true c119r21 [0,5,46,47,48]))))
def c119k23 : ACode := (.block 2 (.loop [0,5,46,47,48] c119b22))
def c119r24 : List AOper := [
 ⟨some 2,.mv,[.c (.pv none (.bool true))],none⟩]
def c119 : ACode := (.seq (.region true c119r0 [0]) (.seq (.seq (.region true c119r1 [0,8,9,10]) c119k11) (.seq (.region true c119r12 [0,5]) (.seq (.seq (.region true c119r13 [0,5,46,47,48]) c119k23) (.seq (.region true c119r24 [2]) .ret)))))
def g119 : AFn := ⟨1,[(2,none)],c119,false,[],[],none⟩
theorem tr119 : trFn Tryz.prog false 119 Tryz.f119 = some g119 := by kernel_rfl
def c120r0 : List AOper := [
 ⟨some 2,.mv,[.t 5],none⟩]
def c120r1 : List AOper := [
 ⟨some 7,.mv,[.t 2],none⟩,
 ⟨some 8,(.assert 100 (some 1) (.pv (some 1) (.agg [(none,(.int .i64 0))])) true),[.t 7],none⟩,
 ⟨some 6,.mv,[.t 8],none⟩,
 ⟨some 9,(.extract 0),[.t 6],none⟩,
 ⟨some 10,(.extract 1),[.t 6],none⟩,
 ⟨some 3,(.alloc (some 1) (.pv (some 1) (.agg [(none,(.int .i64 0))]))),[],none⟩,
 ⟨none,(.store (some 1)),[.t 3,.t 9],none⟩,
 ⟨some 4,.mv,[.t 10],none⟩]
def c120r2 : List AOper := [
 ⟨some 11,.mv,[.t 4],none⟩]
def c120r3 : List AOper := [
 ⟨some 12,(.faddr 0),[.t 3],none⟩,
 ⟨some 13,(.load none),[.t 12],none⟩,
 ⟨none,(.storen none),[.t 0,.c (.tsl (some 5) []),.t 12],none⟩,
 ⟨none,(.store none),[.t 1,.t 13],none⟩]
def c120r4 : List AOper := [
 ⟨some 14,.mv,[.t 2],none⟩,
 ⟨some 15,(.isnil true),[.t 14],none⟩]
def c120r5 : List AOper := [
 ⟨some 16,.mv,[.t 2],none⟩,
 ⟨none,.panic,[.t 16],none⟩]
def c120k6 : ACode := (.cond (.t 15) (.region true c120r5 []) .skip)
def c120k7 : ACode := (.cond (.t 11) (.region true c120r3 []) (.seq (.region true c120r4 [2,15]) c120k6))
def c120 : ACode := (.seq (.region true c120r0 [0,1,2]) (.seq (.region true c120r1 [0,1,2,3,4]) (.seq (.region true c120r2 [0,1,2,3,11]) (.seq c120k7 .skip))))
def g120 : AFn := ⟨2,[],c120,true,[],[],some 5⟩
theorem tr120 : trFn Tryz.prog true 120 Tryz.f120 = some g120 := by kernel_rfl
def c121r0 : List AOper := [
 ⟨some 2,(.nilsl (some 5)),[],none⟩]
def c121r1 : List AOper := [
 ⟨some 3,(.nilsl (some 5)),[],none⟩]
def c121r2 : List AOper := [
 ⟨some 6,.mv,[.t 0],none⟩,
 ⟨some 7,.len,[.t 6],none⟩,
 ⟨some 8,.mv,[.c (.pv none (.int .i64 0))],none⟩]
def c121r3 : List AOper := [
 ⟨some 9,(.bin .lss),[.t 8,.t 7],none⟩]
def c121k4 : ACode := (.cond (.t 9) .skip (.exit 0))
def c121r5 : List AOper := [
 ⟨some 10,(.iaddr (some 5)),[.t 6,.t 8],none⟩,
 ⟨some 11,(.load (some 5)),[.t 10],none⟩,
 ⟨some 5,(.alloc (some 5) (.agg [(none,(.pv none (.int .i64 0))),((some 4),(.agg [(none,(.pv none (.int .i64 0))),(none,(.pv none (.int .i64 0))),(none,(.pv none (.str []))),(none,(.tsl (some 4) []))]))])),[],none⟩,
 ⟨none,(.store (some 5)),[.t 5,.t 11],none⟩]
def c121r6 : List AOper := [
 ⟨some 12,.mv,[.t 3],none⟩,
 ⟨some 13,(.faddr 0),[.t 5],none⟩,
 ⟨some 14,(.load none),[.t 13],none⟩,
 ⟨some 15,(.faddr 1),[.t 5],none⟩,
 ⟨some 16,(.load (some 4)),[.t 15],none⟩,
 ⟨some 17,.callh,[.c (.pv none (.func (.func 38))),.t 16],none⟩,
 ⟨some 18,(.build [(none,(.pv none (.int .i64 0))),((some 4),(.agg [(none,(.pv none (.int .i64 0))),(none,(.pv none (.int .i64 0))),(none,(.pv none (.str []))),(none,(.tsl (some 4) []))]))] [0,1]),[.t 14,.t 17],none⟩,
 ⟨some 19,(.bslice (some 5)),[.t 18],none⟩,
 ⟨some 20,(.append (some 5)),[.t 12,.t 19],none⟩,
 ⟨some 3,.mv,[.t 20],none⟩]
def c121k7 : ACode := (.block 1 (.seq (.region true c121r5 [3,5,6,7,8]) (.region true c121r6 [3,6,7,8])))
def c121r8 : List AOper := [
 ⟨some 21,(.bin .add),[.t 8,.c (.pv none (.int .i64 1))],none⟩,
 ⟨some 8,.mv,[.t 21],none⟩]
def c121b9 : ACode := (.seq (.region true c121r3 [3,6,7,8,9]) (.seq c121k4 (.seq c121k7 (.region true c121r8 [3,6,7,8]))))
def c121k10 : ACode := (.block 0 (.loop [3,6,7,8] c121b9))
def c121r11 : List AOper := [
 ⟨some 22,.mv,[.t 3],none⟩,
 ⟨some 2,.mv,[.t 22],none⟩]
def c121 : ACode := (.seq (.region true c121r0 [0]) (.seq (.region true c121r1 [0,3]) (.seq (.seq (.region true c121r2 [3,6,7,8]) c121k10) (.seq (.region true c121r11 [2]) .ret))))
def g121 : AFn := ⟨1,[(2,none)],c121,true,[],[],none⟩
theorem tr121 : trFn Tryz.prog true 121 Tryz.f121 = some g121 := by kernel_rfl
def c122r0 : List AOper := [
 ⟨some 4,(.box (some 4)),[.t 1],none⟩,
 ⟨some 5,(.box (some 4)),[.t 2],none⟩]
def c122r1 : List AOper := [
 ⟨some 12,(.load (some 4)),[.t 4],none⟩,
 ⟨some 13,(.load (some 4)),[.t 5],none⟩,
 ⟨some 14,(.build [((some 4),(.agg [(none,(.pv none (.int .i64 0))),(none,(.pv none (.int .i64 0))),(none,(.pv none (.str []))),(none,(.tsl (some 4) []))])),((some 4),(.agg [(none,(.pv none (.int .i64 0))),(none,(.pv none (.int .i64 0))),(none,(.pv none (.str []))),(none,(.tsl (some 4) []))]))] [0,1]),[.t 12,.t 13],none⟩,
 ⟨some 15,(.bslo (some 8)),[.t 14],none⟩,
 ⟨some 6,.mv,[.t 15],none⟩]
def c122r2 : List AOper := [
 ⟨some 7,.mv,[.c (.pv none (.int .i64 0))],none⟩]
def c122r3 : List AOper := [
 ⟨some 16,.mv,[.t 6],none⟩,
 ⟨some 17,.len,[.t 16],none⟩,
 ⟨some 18,(.bin .gtr),[.t 17,.c (.pv none (.int .i64 0))],none⟩]
def c122k4 : ACode := (.cond (.t 18) .skip (.exit 0))
def c122r5 : List AOper := [
 ⟨some 21,.mv,[.t 7],none⟩,
 ⟨some 22,(.bin .eql),[.t 21,.c (.pv none (.int .i64 1048576))],none⟩]
def c122r6 : List AOper := [
 ⟨some 23,(.build [(none,(.pv none (.int .i64 0)))] [0]),[.c (.pv none (.int .i64 2))],none⟩,
 ⟨some 24,(.mkiface 100),[.t 23],none⟩,
 ⟨none,.panic,[.t 24],none⟩]
def c122k7 : ACode := (.cond (.t 22) (.region true c122r6 [0,6,7]) .skip)
def c122r8 : List AOper := [
 ⟨some 25,.mv,[.t 6],none⟩,
 ⟨some 26,.mv,[.t 6],none⟩,
 ⟨some 27,.len,[.t 26],none⟩,
 ⟨some 28,(.bin .sub),[.t 27,.c (.pv none (.int .i64 1))],none⟩,
 ⟨some 29,(.iaddr (some 8)),[.t 25,.t 28],none⟩,
 ⟨some 30,(.load (some 8)),[.t 29],none⟩,
 ⟨some 8,(.alloc (some 8) (.agg [((some 4),(.agg [(none,(.pv none (.int .i64 0))),(none,(.pv none (.int .i64 0))),(none,(.pv none (.str []))),(none,(.tsl (some 4) []))])),((some 4),(.agg [(none,(.pv none (.int .i64 0))),(none,(.pv none (.int .i64 0))),(none,(.pv none (.str []))),(none,(.tsl (some 4) []))]))])),[],none⟩,
 ⟨none,(.store (some 8)),[.t 8,.t 30],none⟩]
def c122r9 : List AOper := [
 ⟨some 31,.mv,[.t 6],none⟩,
 ⟨some 32,.mv,[.t 6],none⟩,
 ⟨some 33,.len,[.t 32],none⟩,
 ⟨some 34,(.bin .sub),[.t 33,.c (.pv none (.int .i64 1))],none⟩,
 ⟨some 35,(.slice (some 8) false true),[.t 31,.t 34],none⟩,
 ⟨some 6,.mv,[.t 35],none⟩]
def c122r10 : List AOper := [
 ⟨some 36,.mv,[.t 0],none⟩,
 ⟨some 37,.nilcheck,[.t 36],none⟩,
 ⟨some 38,(.faddr 0),[.t 37],none⟩,
 ⟨some 39,(.load none),[.t 38],none⟩,
 ⟨some 40,(.iaddrA (some 4) 2),[.t 8,.c (.pv none (.int .i64 0))],none⟩,
 ⟨some 41,(.load (some 4)),[.t 40],none⟩,
 ⟨some 42,.callg,[.c (.pv none (.func (.func 143))),.t 39,.t 41],none⟩,
 ⟨some 43,.mv,[.t 0],none⟩,
 ⟨some 44,.nilcheck,[.t 43],none⟩,
 ⟨some 45,(.faddr 0),[.t 44],none⟩,
 ⟨some 46,(.load none),[.t 45],none⟩,
 ⟨some 47,(.iaddrA (some 4) 2),[.t 8,.c (.pv none (.int .i64 1))],none⟩,
 ⟨some 48,(.load (some 4)),[.t 47],none⟩,
 ⟨some 49,.call,[.c (.pv none (.func (.func 143))),.t 46,.t 48],none⟩,
 ⟨some 9,(.alloc (some 4) (.agg [(none,(.pv none (.int .i64 0))),(none,(.pv none (.int .i64 0))),(none,(.pv none (.str []))),(none,(.tsl (some 4) []))])),[],none⟩,
 ⟨some 10,(.alloc (some 4) (.agg [(none,(.pv none (.int .i64 0))),(none,(.pv none (.int .i64 0))),(none,(.pv none (.str []))),(none,(.tsl (some 4) []))])),[],none⟩,
 ⟨none,(.store (some 4)),[.t 9,.t 42],none⟩,
 ⟨none,(.store (some 4)),[.t 10,.t 49],none⟩]
def c122r11 : List AOper := [
 ⟨some 50,.mv,[.t 0],none⟩,
 ⟨some 51,(.load (some 4)),[.t 9],none⟩,
 ⟨some 52,(.load (some 4)),[.t 10],none⟩,
 ⟨some 53,.call,[.c (.pv none (.func (.func 144))),.t 50,.t 51,.t 52],none⟩]
def c122r12 : List AOper := [
 ⟨some 54,(.faddr 3),[.t 9],none⟩,
 ⟨some 55,(.load none),[.t 54],none⟩,
 ⟨some 56,.len,[.t 55],none⟩,
 ⟨some 57,(.bin .sub),[.t 56,.c (.pv none (.int .i64 1))],none⟩,
 ⟨some 11,.mv,[.t 57],none⟩]
def c122r13 : List AOper := [
 ⟨some 58,.mv,[.t 11],none⟩,
 ⟨some 59,(.bin .geq),[.t 58,.c (.pv none (.int .i64 0))],none⟩]
def c122k14 : ACode := (.cond (.t 59) .skip (.exit 2))
def c122r15 : List AOper := [
 ⟨some 62,.mv,[.t 6],none⟩,
 ⟨some 63,(.faddr 3),[.t 9],none⟩,
 ⟨some 64,(.load none),[.t 63],none⟩,
 ⟨some 65,.mv,[.t 11],none⟩,
 ⟨some 66,(.iaddr (some 4)),[.t 64,.t 65],none⟩,
 ⟨some 67,(.load (some 4)),[.t 66],none⟩,
 ⟨some 68,(.faddr 3),[.t 10],none⟩,
 ⟨some 69,(.load none),[.t 68],none⟩,
 ⟨some 70,.mv,[.t 11],none⟩,
 ⟨some 71,(.iaddr (some 4)),[.t 69,.t 70],none⟩,
 ⟨some 72,(.load (some 4)),[.t 71],none⟩,
 ⟨some 73,(.build [((some 4),(.agg [(none,(.pv none (.int .i64 0))),(none,(.pv none (.int .i64 0))),(none,(.pv none (.str []))),(none,(.tsl (some 4) []))])),((some 4),(.agg [(none,(.pv none (.int .i64 0))),(none,(.pv none (.int .i64 0))),(none,(.pv none (.str []))),(none,(.tsl (some 4) []))]))] [0,1]),[.t 67,.t 72],none⟩,
 ⟨some 74,(.bslice (some 8)),[.t 73],none⟩,
 ⟨some 75,(.append (some 8)),[.t 62,.t 74],none⟩,
 ⟨some 6,.mv,[.t 75],none⟩]
def c122k16 : ACode := (.block 3 (.region true c122r15 [0,6,7,9,10,11]))
def c122r17 : List AOper := [
 ⟨some 60,.mv,[.t 11],none⟩,
 ⟨some 61,(.bin .sub),[.t 60,.c (.pv none (.int .i64 1))],none⟩,
 ⟨some 11,.mv,[.t 61],none⟩]
def c122b18 : ACode := (.seq (.seq (.region true c122r13 [0,6,7,9,10,11,59]) c122k14) (.seq c122k16 (.region true c122r17 [0,6,7,9,10,11])))
def c122k19 : ACode := (.block 2 (.loop [0,6,7,9,10,11] c122b18))
def c122k20 : ACode := (.cond (.t 53) (.seq (.region true c122r12 [0,6,7,9,10,11]) c122k19) .skip)
def c122k21 : ACode := (.block 1 (.seq (.seq (.region true c122r5 [0,6,7,22]) c122k7) (.seq (.region true c122r8 [0,6,7,8]) (.seq (.region true c122r9 [0,6,7,8]) (.seq (.region false c122r10 [0,6,7,9,10]) (.seq (.region true c122r11 [0,6,7,9,10,53]) c122k20))))))
def c122r22 : List AOper := [
 ⟨some 19,.mv,[.t 7],none⟩,
 ⟨some 20,(.bin .add),[.t 19,.c (.pv none (.int .i64 1))],none⟩,
 ⟨some 7,.mv,[.t 20],none⟩]
def c122b23 : ACode := (.seq (.seq (.region true c122r3 [0,6,7,18]) c122k4) (.seq c122k21 (.region true c122r22 [0,6,7])))
def c122k24 : ACode := (.block 0 (.loop [0,6,7] c122b23))
def c122 : ACode := (.seq (.region true c122r0 [0,4,5]) (.seq (.region true c122r1 [0,6]) (.seq (.region true c122r2 [0,6,7]) c122k24)))
def g122 : AFn := ⟨3,[],c122,true,[],[],none⟩
theorem tr122 : trFn Tryz.prog true 122 Tryz.f122 = some g122 := by kernel_rfl
def c123r0 : List AOper := [
 ⟨some 4,(.box (some 4)),[.t 1],none⟩,
 ⟨some 6,.mv,[.c (.pv none (.int .i64 0))],none⟩]
def c123r1 : List AOper := [
 ⟨some 13,.mv,[.t 0],none⟩,
 ⟨some 14,(.load (some 4)),[.t 4],none⟩,
 ⟨some 15,.call,[.c (.pv none (.func (.func 145))),.t 13,.t 14],none⟩,
 ⟨some 12,.mv,[.t 15],none⟩,
 ⟨some 16,(.extract 0),[.t 12],none⟩,
 ⟨some 17,(.extract 1),[.t 12],none⟩,
 ⟨some 7,(.alloc (some 4) (.agg [(none,(.pv none (.int .i64 0))),(none,(.pv none (.int .i64 0))),(none,(.pv none (.str []))),(none,(.tsl (some 4) []))])),[],none⟩,
 ⟨none,(.store (some 4)),[.t 7,.t 16],none⟩,
 ⟨some 8,.mv,[.t 17],none⟩]
def c123r2 : List AOper := [
 ⟨some 18,.mv,[.t 8],none⟩]
def c123r3 : List AOper := [
 ⟨some 19,.mv,[.t 2],none⟩,
 ⟨some 20,(.faddr 1),[.t 4],none⟩,
 ⟨some 21,(.load none),[.t 20],none⟩,
 ⟨some 22,(.lookup false none (.pv none (.int .i64 0)) false),[.t 19,.t 21],none⟩,
 ⟨some 23,(.bin .eql),[.t 22,.c (.pv none (.int .i64 0))],none⟩]
def c123r4 : List AOper := [
 ⟨some 24,.mv,[.t 2],none⟩,
 ⟨some 25,(.faddr 1),[.t 4],none⟩,
 ⟨some 26,(.load none),[.t 25],none⟩,
 ⟨some 27,.mv,[.t 0],none⟩,
 ⟨some 28,(.load (some 4)),[.t 7],none⟩,
 ⟨some 29,.mv,[.t 2],none⟩,
 ⟨some 30,(.calln 1),[.t 25,.c (.pv none (.func (.func 123))),.t 27,.t 28,.t 29],none⟩,
 ⟨none,(.mapset false none),[.t 24,.t 26,.t 30],none⟩]
def c123k5 : ACode := (.cond (.t 23) (.region false c123r4 [2,4]) .skip)
def c123r6 : List AOper := [
 ⟨some 31,.mv,[.t 2],none⟩,
 ⟨some 32,(.faddr 1),[.t 4],none⟩,
 ⟨some 33,(.load none),[.t 32],none⟩,
 ⟨some 34,(.lookup false none (.pv none (.int .i64 0)) false),[.t 31,.t 33],none⟩,
 ⟨some 6,.mv,[.t 34],none⟩]
def c123k7 : ACode := (.cond (.t 18) (.seq (.seq (.region true c123r3 [0,2,4,7,23]) c123k5) (.seq (.region true c123r6 [6]) .ret)) .skip)
def c123r8 : List AOper := [
 ⟨some 9,.mv,[.c (.pv none (.int .i64 1))],none⟩]
def c123r9 : List AOper := [
 ⟨some 35,(.faddr 3),[.t 4],none⟩,
 ⟨some 36,(.load none),[.t 35],none⟩,
 ⟨some 37,.len,[.t 36],none⟩,
 ⟨some 38,.mv,[.c (.pv none (.int .i64 0))],none⟩]
def c123r10 : List AOper := [
 ⟨some 39,(.bin .lss),[.t 38,.t 37],none⟩]
def c123k11 : ACode := (.cond (.t 39) .skip (.exit 0))
def c123r12 : List AOper := [
 ⟨some 40,(.iaddr (some 4)),[.t 36,.t 38],none⟩,
 ⟨some 41,(.load (some 4)),[.t 40],none⟩,
 ⟨some 11,(.alloc (some 4) (.agg [(none,(.pv none (.int .i64 0))),(none,(.pv none (.int .i64 0))),(none,(.pv none (.str []))),(none,(.tsl (some 4) []))])),[],none⟩,
 ⟨none,(.store (some 4)),[.t 11,.t 41],none⟩]
def c123r13 : List AOper := [
 ⟨some 42,.mv,[.t 9],none⟩,
 ⟨some 43,.mv,[.t 0],none⟩,
 ⟨some 44,(.load (some 4)),[.t 11],none⟩,
 ⟨some 45,.mv,[.t 2],none⟩,
 ⟨some 46,.call,[.c (.pv none (.func (.func 123))),.t 43,.t 44,.t 45],none⟩,
 ⟨some 47,(.bin .add),[.t 42,.t 46],none⟩,
 ⟨some 48,.min,[.t 47,.c (.pv none (.int .i64 2001))],none⟩,
 ⟨some 9,.mv,[.t 48],none⟩]
def c123k14 : ACode := (.block 1 (.seq (.region true c123r12 [0,2,9,11,36,37,38]) (.region true c123r13 [0,2,9,36,37,38])))
def c123r15 : List AOper := [
 ⟨some 49,(.bin .add),[.t 38,.c (.pv none (.int .i64 1))],none⟩,
 ⟨some 38,.mv,[.t 49],none⟩]
def c123b16 : ACode := (.seq (.region true c123r10 [0,2,9,36,37,38,39]) (.seq c123k11 (.seq c123k14 (.region true c123r15 [0,2,9,36,37,38]))))
def c123k17 : ACode := (.block 0 (.loop [0,2,9,36,37,38] c123b16))
def c123r18 : List AOper := [
 ⟨some 50,.mv,[.t 9],none⟩,
 ⟨some 6,.mv,[.t 50],none⟩]
def c123 : ACode := (.seq (.region true c123r0 [0,2,4]) (.seq (.seq (.region true c123r1 [0,2,4,7,8]) (.seq (.region true c123r2 [0,2,4,7,18]) c123k7)) (.seq (.region true c123r8 [0,2,4,9]) (.seq (.seq (.region true c123r9 [0,2,9,36,37,38]) c123k17) (.seq (.region true c123r18 [6]) .ret)))))
def g123 : AFn := ⟨3,[(6,none)],c123,true,[],[],none⟩
theorem tr123 : trFn Tryz.prog true 123 Tryz.f123 = some g123 := by kernel_rfl
def c124r0 : List AOper := [
 ⟨some 3,(.box (some 4)),[.t 1],none⟩,
 ⟨some 4,(.alloc (some 4) (.agg [(none,(.pv none (.int .i64 0))),(none,(.pv none (.int .i64 0))),(none,(.pv none (.str []))),(none,(.tsl (some 4) []))])),[],none⟩]
def c124r1 : List AOper := [
 ⟨some 11,.mv,[.t 0],none⟩,
 ⟨some 12,(.load (some 4)),[.t 3],none⟩,
 ⟨some 13,.call,[.c (.pv none (.func (.func 145))),.t 11,.t 12],none⟩,
 ⟨some 10,.mv,[.t 13],none⟩,
 ⟨some 14,(.extract 0),[.t 10],none⟩,
 ⟨some 15,(.extract 1),[.t 10],none⟩,
 ⟨some 5,(.alloc (some 4) (.agg [(none,(.pv none (.int .i64 0))),(none,(.pv none (.int .i64 0))),(none,(.pv none (.str []))),(none,(.tsl (some 4) []))])),[],none⟩,
 ⟨none,(.store (some 4)),[.t 5,.t 14],none⟩,
 ⟨some 6,.mv,[.t 15],none⟩]
def c124r2 : List AOper := [
 ⟨some 16,.mv,[.t 6],none⟩]
def c124r3 : List AOper := [
 ⟨some 17,.mv,[.t 0],none⟩,
 ⟨some 18,(.load (some 4)),[.t 5],none⟩,
 ⟨some 19,.call,[.c (.pv none (.func (.func 124))),.t 17,.t 18],none⟩,
 ⟨none,(.store (some 4)),[.t 4,.t 19],none⟩]
def c124k4 : ACode := (.cond (.t 16) (.seq (.region true c124r3 [4]) .ret) .skip)
def c124r5 : List AOper := [
 ⟨some 20,(.faddr 0),[.t 3],none⟩,
 ⟨some 21,(.load none),[.t 20],none⟩,
 ⟨some 22,(.faddr 1),[.t 3],none⟩,
 ⟨some 23,(.load none),[.t 22],none⟩,
 ⟨some 24,(.faddr 2),[.t 3],none⟩,
 ⟨some 25,(.load none),[.t 24],none⟩,
 ⟨some 26,(.build [(none,(.pv none (.int .i64 0))),(none,(.pv none (.int .i64 0))),(none,(.pv none (.str []))),(none,(.tsl (some 4) []))] [0,1,2]),[.t 21,.t 23,.t 25],none⟩,
 ⟨some 7,(.alloc (some 4) (.agg [(none,(.pv none (.int .i64 0))),(none,(.pv none (.int .i64 0))),(none,(.pv none (.str []))),(none,(.tsl (some 4) []))])),[],none⟩,
 ⟨none,(.store (some 4)),[.t 7,.t 26],none⟩]
def c124r6 : List AOper := [
 ⟨some 27,(.faddr 3),[.t 3],none⟩,
 ⟨some 28,(.load none),[.t 27],none⟩,
 ⟨some 29,.len,[.t 28],none⟩,
 ⟨some 30,.mv,[.c (.pv none (.int .i64 0))],none⟩]
def c124r7 : List AOper := [
 ⟨some 31,(.bin .lss),[.t 30,.t 29],none⟩]
def c124k8 : ACode := (.cond (.t 31) .skip (.exit 0))
def c124r9 : List AOper := [
 ⟨some 32,(.iaddr (some 4)),[.t 28,.t 30],none⟩,
 ⟨some 33,(.load (some 4)),[.t 32],none⟩,
 ⟨some 9,(.alloc (some 4) (.agg [(none,(.pv none (.int .i64 0))),(none,(.pv none (.int .i64 0))),(none,(.pv none (.str []))),(none,(.tsl (some 4) []))])),[],none⟩,
 ⟨none,(.store (some 4)),[.t 9,.t 33],none⟩]
def c124r10 : List AOper := [
 ⟨some 34,(.faddr 3),[.t 7],none⟩,
 ⟨some 35,(.load none),[.t 34],none⟩,
 ⟨some 36,.mv,[.t 0],none⟩,
 ⟨some 37,(.load (some 4)),[.t 9],none⟩,
 ⟨some 38,.callp,[.c (.pv none (.func (.func 124))),.t 36,.t 37],none⟩,
 ⟨some 39,(.bslicep (some 4)),[.t 38],none⟩,
 ⟨some 40,(.append (some 4)),[.t 35,.t 39],none⟩,
 ⟨some 41,(.faddr 3),[.t 7],none⟩,
 ⟨none,(.store none),[.t 41,.t 40],none⟩]
def c124k11 : ACode := (.block 1 (.seq (.region true c124r9 [0,4,7,9,28,29,30]) (.seq (.settle [0,9]) (.region true c124r10 [0,4,7,28,29,30]))))
def c124r12 : List AOper := [
 ⟨some 42,(.bin .add),[.t 30,.c (.pv none (.int .i64 1))],none⟩,
 ⟨some 30,.mv,[.t 42],none⟩]
def c124b13 : ACode := (.seq (.region true c124r7 [0,4,7,28,29,30,31]) (.seq c124k8 (.seq c124k11 (.region true c124r12 [0,4,7,28,29,30]))))
def c124k14 : ACode := (.block 0 (.loop [0,4,7,28,29,30] c124b13))
def c124r15 : List AOper := [
 ⟨some 43,(.load (some 4)),[.t 7],none⟩,
 ⟨none,(.store (some 4)),[.t 4,.t 43],none⟩]
def c124 : ACode := (.seq (.region true c124r0 [0,3,4]) (.seq (.seq (.region true c124r1 [0,3,4,5,6]) (.seq (.region true c124r2 [0,3,4,5,16]) c124k4)) (.seq (.region true c124r5 [0,3,4,7]) (.seq (.seq (.region true c124r6 [0,4,7,28,29,30]) c124k14) (.seq (.region true c124r15 [4]) .ret)))))
def g124 : AFn := ⟨2,[(4,some (some 4))],c124,false,[],[],none⟩
theorem tr124 : trFn Tryz.prog false 124 Tryz.f124 = some g124 := by kernel_rfl
def c125r0 : List AOper := [
 ⟨some 3,(.box (some 4)),[.t 0],none⟩]
def c125r1 : List AOper := [
 ⟨some 5,(.load none),[.t 1],none⟩,
 ⟨some 6,(.bin .sub),[.t 5,.c (.pv none (.int .i64 1))],none⟩,
 ⟨none,(.store none),[.t 1,.t 6],none⟩]
def c125r2 : List AOper := [
 ⟨some 4,.mv,[.c (.pv none (.int .i64 0))],none⟩]
def c125r3 : List AOper := [
 ⟨some 7,.mv,[.t 4],none⟩,
 ⟨some 8,(.faddr 3),[.t 3],none⟩,
 ⟨some 9,(.load none),[.t 8],none⟩,
 ⟨some 10,.len,[.t 9],none⟩,
 ⟨some 11,(.bin .lss),[.t 7,.t 10],none⟩,
 ⟨some 12,.mv,[.t 11],none⟩,
 ⟨some 13,(.load none),[.t 1],some (12,true)⟩,
 ⟨some 14,(.bin .gtr),[.t 13,.c (.pv none (.int .i64 0))],some (12,true)⟩,
 ⟨some 15,.pick,[.t 12,.t 14,.c (.pv none (.bool false))],none⟩]
def c125k4 : ACode := (.cond (.t 15) .skip (.exit 0))
def c125r5 : List AOper := [
 ⟨some 18,(.load none),[.t 2],none⟩,
 ⟨some 19,(.faddr 3),[.t 3],none⟩,
 ⟨some 20,(.load none),[.t 19],none⟩,
 ⟨some 21,.mv,[.t 4],none⟩,
 ⟨some 22,(.iaddr (some 4)),[.t 20,.t 21],none⟩,
 ⟨some 23,(.load (some 4)),[.t 22],none⟩,
 ⟨some 24,.call,[.t 18,.t 23],none⟩]
def c125k6 : ACode := (.block 1 (.region true c125r5 [1,2,3,4]))
def c125r7 : List AOper := [
 ⟨some 16,.mv,[.t 4],none⟩,
 ⟨some 17,(.bin .add),[.t 16,.c (.pv none (.int .i64 1))],none⟩,
 ⟨some 4,.mv,[.t 17],none⟩]
def c125b8 : ACode := (.seq (.seq (.region true c125r3 [1,2,3,4,15]) c125k4) (.seq c125k6 (.region true c125r7 [1,2,3,4])))
def c125k9 : ACode := (.block 0 (.loop [1,2,3,4] c125b8))
def c125 : ACode := (.seq (.region true c125r0 [1,2,3]) (.seq (.region true c125r1 [1,2,3]) (.seq (.region true c125r2 [1,2,3,4]) c125k9)))
def g125 : AFn := ⟨3,[],c125,true,[],[],none⟩
theorem tr125 : trFn Tryz.prog true 125 Tryz.f125 = some g125 := by kernel_rfl
def c129r0 : List AOper := [
 ⟨some 2,(.box (some 4)),[.t 0],none⟩,
 ⟨some 4,.mv,[.c (.pv none (.int .i64 0))],none⟩]
def c129r1 : List AOper := [
 ⟨some 5,.mv,[.c (.pv none (.int .i64 1))],none⟩]
def c129r2 : List AOper := [
 ⟨some 6,.mv,[.c (.pv none (.int .i64 0))],none⟩]
def c129r3 : List AOper := [
 ⟨some 7,.mv,[.t 6],none⟩,
 ⟨some 8,(.faddr 3),[.t 2],none⟩,
 ⟨some 9,(.load none),[.t 8],none⟩,
 ⟨some 10,.len,[.t 9],none⟩,
 ⟨some 11,(.bin .lss),[.t 7,.t 10],none⟩,
 ⟨some 12,.mv,[.t 11],none⟩,
 ⟨some 13,.mv,[.t 5],some (12,true)⟩,
 ⟨some 14,.mv,[.t 1],some (12,true)⟩,
 ⟨some 15,(.bin .lss),[.t 13,.t 14],some (12,true)⟩,
 ⟨some 16,.pick,[.t 12,.t 15,.c (.pv none (.bool false))],none⟩]
def c129k4 : ACode := (.cond (.t 16) .skip (.exit 0))
def c129r5 : List AOper := [
 ⟨some 19,.mv,[.t 5],none⟩,
 ⟨some 20,(.faddr 3),[.t 2],none⟩,
 ⟨some 21,(.load none),[.t 20],none⟩,
 ⟨some 22,.mv,[.t 6],none⟩,
 ⟨some 23,(.iaddr (some 4)),[.t 21,.t 22],none⟩,
 ⟨some 24,(.load (some 4)),[.t 23],none⟩,
 ⟨some 25,.mv,[.t 1],none⟩,
 ⟨some 26,.mv,[.t 5],none⟩,
 ⟨some 27,(.bin .sub),[.t 25,.t 26],none⟩,
 ⟨some 28,.call,[.c (.pv none (.func (.func 129))),.t 24,.t 27],none⟩,
 ⟨some 29,(.bin .add),[.t 19,.t 28],none⟩,
 ⟨some 5,.mv,[.t 29],none⟩]
def c129k6 : ACode := (.block 1 (.region true c129r5 [1,2,5,6]))
def c129r7 : List AOper := [
 ⟨some 17,.mv,[.t 6],none⟩,
 ⟨some 18,(.bin .add),[.t 17,.c (.pv none (.int .i64 1))],none⟩,
 ⟨some 6,.mv,[.t 18],none⟩]
def c129b8 : ACode := (.seq (.seq (.region true c129r3 [1,2,5,6,16]) c129k4) (.seq c129k6 (.region true c129r7 [1,2,5,6])))
def c129k9 : ACode := (.block 0 (.loop [1,2,5,6] c129b8))
def c129r10 : List AOper := [
 ⟨some 30,.mv,[.t 5],none⟩,
 ⟨some 4,.mv,[.t 30],none⟩]
def c129 : ACode := (.seq (.region true c129r0 [1,2]) (.seq (.region true c129r1 [1,2,5]) (.seq (.seq (.region true c129r2 [1,2,5,6]) c129k9) (.seq (.region true c129r10 [4]) .ret))))
def g129 : AFn := ⟨2,[(4,none)],c129,false,[],[],none⟩
theorem tr129 : trFn Tryz.prog false 129 Tryz.f129 = some g129 := by kernel_rfl
def c130r0 : List AOper := [
 ⟨some 1,(.box (some 4)),[.t 0],none⟩,
 ⟨some 2,.mv,[.c (.pv none (.bool false))],none⟩]
def c130r1 : List AOper := [
 ⟨some 3,(.faddr 0),[.t 1],none⟩,
 ⟨some 4,(.load none),[.t 3],none⟩]
def c130r2 : List AOper := [
 ⟨some 6,(.bin .eql),[.t 4,.c (.pv none (.int .i64 0))],none⟩,
 ⟨some 5,.mv,[.t 6],none⟩]
def c130r3 : List AOper := [
 ⟨some 7,(.faddr 1),[.t 1],none⟩,
 ⟨some 8,(.load none),[.t 7],none⟩,
 ⟨some 9,(.bin .geq),[.t 8,.c (.pv none (.int .i64 0))],none⟩,
 ⟨some 10,.mv,[.t 9],none⟩,
 ⟨some 11,(.faddr 1),[.t 1],some (10,true)⟩,
 ⟨some 12,(.load none),[.t 11],some (10,true)⟩,
 ⟨some 13,(.bin .leq),[.t 12,.c (.pv none (.int .i64 1099511627776))],some (10,true)⟩,
 ⟨some 14,.pick,[.t 10,.t 13,.c (.pv none (.bool false))],none⟩,
 ⟨some 15,.mv,[.t 14],none⟩,
 ⟨some 16,(.faddr 2),[.t 1],some (15,true)⟩,
 ⟨some 17,(.load none),[.t 16],some (15,true)⟩,
 ⟨some 18,(.bin .eql),[.t 17,.c (.pv none (.str []))],some (15,true)⟩,
 ⟨some 19,.pick,[.t 15,.t 18,.c (.pv none (.bool false))],none⟩,
 ⟨some 20,.mv,[.t 19],none⟩,
 ⟨some 21,(.faddr 3),[.t 1],some (20,true)⟩,
 ⟨some 22,(.load none),[.t 21],some (20,true)⟩,
 ⟨some 23,.len,[.t 22],some (20,true)⟩,
 ⟨some 24,(.bin .eql),[.t 23,.c (.pv none (.int .i64 0))],some (20,true)⟩,
 ⟨some 25,.pick,[.t 20,.t 24,.c (.pv none (.bool false))],none⟩,
 ⟨some 2,.mv,[.t 25],none⟩]
def c130r4 : List AOper := [
 ⟨some 27,(.bin .eql),[.t 4,.c (.pv none (.int .i64 1))],none⟩,
 ⟨some 26,.mv,[.t 27],none⟩]
def c130r5 : List AOper := [
 ⟨some 28,(.faddr 2),[.t 1],none⟩,
 ⟨some 29,(.load none),[.t 28],none⟩,
 ⟨some 30,(.bin .eql),[.t 29,.c (.pv none (.str []))],none⟩,
 ⟨some 31,.mv,[.t 30],none⟩,
 ⟨some 32,(.faddr 3),[.t 1],some (31,true)⟩,
 ⟨some 33,(.load none),[.t 32],some (31,true)⟩,
 ⟨some 34,.len,[.t 33],some (31,true)⟩,
 ⟨some 35,(.bin .eql),[.t 34,.c (.pv none (.int .i64 0))],some (31,true)⟩,
 ⟨some 36,.pick,[.t 31,.t 35,.c (.pv none (.bool false))],none⟩,
 ⟨some 2,.mv,[.t 36],none⟩]
def c130r6 : List AOper := [
 ⟨some 38,(.bin .eql),[.t 4,.c (.pv none (.int .i64 2))],none⟩,
 ⟨some 37,.mv,[.t 38],none⟩]
def c130r7 : List AOper := [
 ⟨some 39,(.faddr 1),[.t 1],none⟩,
 ⟨some 40,(.load none),[.t 39],none⟩,
 ⟨some 41,(.bin .eql),[.t 40,.c (.pv none (.int .i64 0))],none⟩,
 ⟨some 42,.mv,[.t 41],none⟩,
 ⟨some 43,(.faddr 2),[.t 1],some (42,true)⟩,
 ⟨some 44,(.load none),[.t 43],some (42,true)⟩,
 ⟨some 45,.slen,[.t 44],some (42,true)⟩,
 ⟨some 46,(.bin .leq),[.t 45,.c (.pv none (.int .i64 100))],some (42,true)⟩,
 ⟨some 47,.pick,[.t 42,.t 46,.c (.pv none (.bool false))],none⟩,
 ⟨some 48,.mv,[.t 47],none⟩,
 ⟨some 49,(.faddr 3),[.t 1],some (48,true)⟩,
 ⟨some 50,(.load none),[.t 49],some (48,true)⟩,
 ⟨some 51,.len,[.t 50],some (48,true)⟩,
 ⟨some 52,(.bin .eql),[.t 51,.c (.pv none (.int .i64 0))],some (48,true)⟩,
 ⟨some 53,.pick,[.t 48,.t 52,.c (.pv none (.bool false))],none⟩,
 ⟨some 2,.mv,[.t 53],none⟩]
def c130r8 : List AOper := [
 ⟨some 55,(.bin .eql),[.t 4,.c (.pv none (.int .i64 3))],none⟩,
 ⟨some 54,.mv,[.t 55],none⟩]
def c130r9 : List AOper := [
 ⟨some 56,(.faddr 1),[.t 1],none⟩,
 ⟨some 57,(.load none),[.t 56],none⟩,
 ⟨some 58,(.bin .eql),[.t 57,.c (.pv none (.int .i64 0))],none⟩,
 ⟨some 59,.mv,[.t 58],none⟩,
 ⟨some 60,(.faddr 2),[.t 1],some (59,true)⟩,
 ⟨some 61,(.load none),[.t 60],some (59,true)⟩,
 ⟨some 62,.slen,[.t 61],some (59,true)⟩,
 ⟨some 63,(.bin .leq),[.t 62,.c (.pv none (.int .i64 100))],some (59,true)⟩,
 ⟨some 64,.pick,[.t 59,.t 63,.c (.pv none (.bool false))],none⟩,
 ⟨some 65,.mv,[.t 64],none⟩,
 ⟨some 66,(.faddr 3),[.t 1],some (65,true)⟩,
 ⟨some 67,(.load none),[.t 66],some (65,true)⟩,
 ⟨some 68,.len,[.t 67],some (65,true)⟩,
 ⟨some 69,(.bin .geq),[.t 68,.c (.pv none (.int .i64 1))],some (65,true)⟩,
 ⟨some 70,.pick,[.t 65,.t 69,.c (.pv none (.bool false))],none⟩,
 ⟨some 71,.mv,[.t 70],none⟩,
 ⟨some 72,(.faddr 3),[.t 1],some (71,true)⟩,
 ⟨some 73,(.load none),[.t 72],some (71,true)⟩,
 ⟨some 74,.len,[.t 73],some (71,true)⟩,
 ⟨some 75,(.bin .leq),[.t 74,.c (.pv none (.int .i64 8))],some (71,true)⟩,
 ⟨some 76,.pick,[.t 71,.t 75,.c (.pv none (.bool false))],none⟩,
 ⟨some 2,.mv,[.t 76],none⟩]
def c130k10 : ACode := (.cond (.t 54) (.seq (.region true c130r9 [2]) .ret) .skip)
def c130k11 : ACode := (.cond (.t 37) (.seq (.region true c130r7 [2]) .ret) (.seq (.region true c130r8 [1,54]) c130k10))
def c130k12 : ACode := (.cond (.t 26) (.seq (.region true c130r5 [2]) .ret) (.seq (.region true c130r6 [1,4,37]) c130k11))
def c130k13 : ACode := (.cond (.t 5) (.seq (.region true c130r3 [2]) .ret) (.seq (.region true c130r4 [1,4,26]) c130k12))
def c130k14 : ACode := (.block 0 (.seq (.region true c130r2 [1,4,5]) c130k13))
def c130r15 : List AOper := [
 ⟨some 2,.mv,[.c (.pv none (.bool false))],none⟩]
def c130 : ACode := (.seq (.region true c130r0 [1]) (.seq (.seq (.region true c130r1 [1,4]) c130k14) (.seq (.region true c130r15 [2]) .ret)))
def g130 : AFn := ⟨1,[(2,none)],c130,false,[],[],none⟩
theorem tr130 : trFn Tryz.prog false 130 Tryz.f130 = some g130 := by kernel_rfl
def c132r0 : List AOper := [
 ⟨some 2,(.nilsl (some 4)),[],none⟩,
 ⟨some 3,.mv,[.c (.pv none (.int .i64 0))],none⟩]
def c132r1 : List AOper := [
 ⟨some 4,.mv,[.t 0],none⟩,
 ⟨some 5,.call,[.c (.pv none (.func (.func 80))),.t 4],none⟩,
 ⟨some 6,.not,[.t 5],none⟩]
def c132r2 : List AOper := [
 ⟨some 2,(.nilsl (some 4)),[],none⟩,
 ⟨some 3,.mv,[.c (.pv none (.int .i64 1))],none⟩]
def c132k3 : ACode := (.cond (.t 6) (.seq (.region true c132r2 [2,3]) .ret) .skip)
def c132r4 : List AOper := [
 ⟨some 7,.mv,[.t 0],none⟩,
 ⟨some 8,.call,[.c (.pv none (.func (.func 81))),.t 7,.c (.pv none (.func (.func 83)))],none⟩,
 ⟨some 2,.mv,[.t 8],none⟩,
 ⟨some 3,.mv,[.c (.pv none (.int .i64 0))],none⟩]
def c132 : ACode := (.seq (.region true c132r0 [0]) (.seq (.seq (.region true c132r1 [0,6]) c132k3) (.seq (.region true c132r4 [2,3]) .ret)))
def g132 : AFn := ⟨1,[(2,none),(3,none)],c132,true,[],[],none⟩
theorem tr132 : trFn Tryz.prog true 132 Tryz.f132 = some g132 := by kernel_rfl
def c133r0 : List AOper := [
 ⟨some 4,(.nilsl (some 4)),[],none⟩]
def c133r1 : List AOper := [
 ⟨some 8,.mv,[.t 0],none⟩,
 ⟨some 9,.len,[.t 8],none⟩,
 ⟨some 10,(.bin .lss),[.t 9,.c (.pv none (.int .i64 2))],none⟩]
def c133r2 : List AOper := [
 ⟨some 11,.mv,[.t 0],none⟩,
 ⟨some 4,.mv,[.t 11],none⟩]
def c133k3 : ACode := (.cond (.t 10) (.seq (.region true c133r2 [4]) .ret) .skip)
def c133r4 : List AOper := [
 ⟨some 5,.mv,[.c (.pv none (.int .i64 1))],none⟩]
def c133r5 : List AOper := [
 ⟨some 12,.mv,[.t 5],none⟩,
 ⟨some 13,.mv,[.t 0],none⟩,
 ⟨some 14,.len,[.t 13],none⟩,
 ⟨some 15,(.bin .lss),[.t 12,.t 14],none⟩]
def c133k6 : ACode := (.cond (.t 15) .skip (.exit 0))
def c133r7 : List AOper := [
 ⟨some 18,.mv,[.t 1],none⟩,
 ⟨some 19,.mv,[.t 0],none⟩,
 ⟨some 20,.mv,[.t 5],none⟩,
 ⟨some 21,(.iaddr (some 4)),[.t 19,.t 20],none⟩,
 ⟨some 22,(.load (some 4)),[.t 21],none⟩,
 ⟨some 23,.mv,[.t 0],none⟩,
 ⟨some 24,.mv,[.t 5],none⟩,
 ⟨some 25,(.bin .sub),[.t 24,.c (.pv none (.int .i64 1))],none⟩,
 ⟨some 26,(.iaddr (some 4)),[.t 23,.t 25],none⟩,
 ⟨some 27,(.load (some 4)),[.t 26],none⟩,
 ⟨some 28,.call,[.t 18,.t 22,.t 27],none⟩]
def c133r8 : List AOper := [
 ⟨some 29,.mv,[.t 0],none⟩,
 ⟨some 30,.mv,[.t 5],none⟩,
 ⟨some 31,(.slice (some 4) true false),[.t 29,.t 30],none⟩,
 ⟨some 6,.mv,[.t 31],none⟩]
def c133r9 : List AOper := [
 ⟨some 7,.mv,[.c (.pv none (.int .i64 1))],none⟩]
def c133r10 : List AOper := [
 ⟨some 32,.mv,[.t 7],none⟩,
 ⟨some 33,.mv,[.t 6],none⟩,
 ⟨some 34,.len,[.t 33],none⟩,
 ⟨some 35,(.bin .lss),[.t 32,.t 34],none⟩]
def c133k11 : ACode := (.cond (.t 35) .skip (.exit 2))
def c133r12 : List AOper := [
 ⟨some 38,.mv,[.t 1],none⟩,
 ⟨some 39,.mv,[.t 6],none⟩,
 ⟨some 40,.mv,[.t 7],none⟩,
 ⟨some 41,(.iaddr (some 4)),[.t 39,.t 40],none⟩,
 ⟨some 42,(.load (some 4)),[.t 41],none⟩,
 ⟨some 43,.mv,[.t 6],none⟩,
 ⟨some 44,.mv,[.t 7],none⟩,
 ⟨some 45,(.bin .sub),[.t 44,.c (.pv none (.int .i64 1))],none⟩,
 ⟨some 46,(.iaddr (some 4)),[.t 43,.t 45],none⟩,
 ⟨some 47,(.load (some 4)),[.t 46],none⟩,
 ⟨some 48,.call,[.t 38,.t 42,.t 47],none⟩,
 ⟨some 49,.not,[.t 48],none⟩]
def c133r13 : List AOper := [
 ⟨some 50,.mv,[.t 0],none⟩,
 ⟨some 51,.mv,[.t 5],none⟩,
 ⟨some 52,.mv,[.t 6],none⟩,
 ⟨some 53,.mv,[.t 7],none⟩,
 ⟨some 54,(.iaddr (some 4)),[.t 52,.t 53],none⟩,
 ⟨some 55,(.load (some 4)),[.t 54],none⟩,
 ⟨some 56,(.iaddr (some 4)),[.t 50,.t 51],none⟩,
 ⟨none,(.store (some 4)),[.t 56,.t 55],none⟩]
def c133r14 : List AOper := [
 ⟨some 57,.mv,[.t 5],none⟩,
 ⟨some 58,(.bin .add),[.t 57,.c (.pv none (.int .i64 1))],none⟩,
 ⟨some 5,.mv,[.t 58],none⟩]
def c133k15 : ACode := (.cond (.t 49) (.seq (.region true c133r13 [0,1,5,6,7]) (.region true c133r14 [0,1,5,6,7])) .skip)
def c133k16 : ACode := (.block 3 (.seq (.region true c133r12 [0,1,5,6,7,49]) c133k15))
def c133r17 : List AOper := [
 ⟨some 36,.mv,[.t 7],none⟩,
 ⟨some 37,(.bin .add),[.t 36,.c (.pv none (.int .i64 1))],none⟩,
 ⟨some 7,.mv,[.t 37],none⟩]
def c133b18 : ACode := (.seq (.seq (.region true c133r10 [0,1,5,6,7,35]) c133k11) (.seq c133k16 (.region true c133r17 [0,1,5,6,7])))
def c133k19 : ACode := (.block 2 (.loop [0,1,5,6,7] c133b18))
def c133r20 : List AOper := [
 ⟨some 59,.mv,[.t 0],none⟩,
 ⟨some 60,.mv,[.t 5],none⟩,
 ⟨some 61,(.slice (some 4) true false),[.t 59,.t 60],none⟩,
 ⟨none,(.clear (some 4) (.agg [(none,(.int .i64 0)),(none,(.int .i64 0)),(none,(.str [])),(none,(.sl (some 4) []))])),[.t 61],none⟩]
def c133r21 : List AOper := [
 ⟨some 62,.mv,[.t 0],none⟩,
 ⟨some 63,.mv,[.t 5],none⟩,
 ⟨some 64,(.slice (some 4) false true),[.t 62,.t 63],none⟩,
 ⟨some 4,.mv,[.t 64],none⟩]
def c133k22 : ACode := (.cond (.t 28) (.seq (.region true c133r8 [0,1,5,6]) (.seq (.seq (.region true c133r9 [0,1,5,6,7]) c133k19) (.seq (.region true c133r20 [0,5]) (.seq (.region true c133r21 [4]) .ret)))) .skip)
def c133k23 : ACode := (.block 1 (.seq (.region true c133r7 [0,1,5,28]) c133k22))
def c133r24 : List AOper := [
 ⟨some 16,.mv,[.t 5],none⟩,
 ⟨some 17,(.bin .add),[.t 16,.c (.pv none (.int .i64 1))],none⟩,
 ⟨some 5,.mv,[.t 17],none⟩]
def c133b25 : ACode := (.seq (.seq (.region true c133r5 [0,1,5,15]) c133k6) (.seq c133k23 (.region true c133r24 [0,1,5])))
def c133k26 : ACode := (.block 0 (.loop [0,1,5] c133b25))
def c133r27 : List AOper := [
 ⟨some 65,.mv,[.t 0],none⟩,
 ⟨some 4,.mv,[.t 65],none⟩]
def c133 : ACode := (.seq (.region true c133r0 [0,1]) (.seq (.seq (.region true c133r1 [0,1,10]) c133k3) (.seq (.seq (.region true c133r4 [0,1,5]) c133k26) (.seq (.region true c133r27 [4]) .ret))))
def g133 : AFn := ⟨2,[(4,none)],c133,true,[],[],none⟩
theorem tr133 : trFn Tryz.prog true 133 Tryz.f133 = some g133 := by kernel_rfl
def c134r0 : List AOper := [
 ⟨some 2,(.box (some 4)),[.t 0],none⟩,
 ⟨some 3,(.box (some 4)),[.t 1],none⟩,
 ⟨some 4,.mv,[.c (.pv none (.bool false))],none⟩]
def c134r1 : List AOper := [
 ⟨some 5,(.load (some 4)),[.t 2],none⟩,
 ⟨some 6,(.load (some 4)),[.t 3],none⟩,
 ⟨some 7,.call,[.c (.pv none (.func (.func 83))),.t 5,.t 6],none⟩,
 ⟨some 8,(.bin .eql),[.t 7,.c (.pv none (.int .i64 0))],none⟩,
 ⟨some 4,.mv,[.t 8],none⟩]
def c134 : ACode := (.seq (.region true c134r0 [2,3]) (.seq (.region true c134r1 [4]) .ret))
def g134 : AFn := ⟨2,[(4,none)],c134,false,[],[],none⟩
theorem tr134 : trFn Tryz.prog false 134 Tryz.f134 = some g134 := by kernel_rfl
def c135r0 : List AOper := [
 ⟨some 4,.mv,[.c (.pv none (.int .i64 0))],none⟩]
def c135r1 : List AOper := [
 ⟨some 5,.mv,[.t 0],none⟩,
 ⟨some 6,.mv,[.t 1],none⟩,
 ⟨some 7,(.bin .lss),[.t 5,.t 6],none⟩]
def c135r2 : List AOper := [
 ⟨some 4,.mv,[.c (.pv none (.int .i64 (-1)))],none⟩]
def c135k3 : ACode := (.cond (.t 7) (.seq (.region true c135r2 [4]) .ret) .skip)
def c135r4 : List AOper := [
 ⟨some 8,.mv,[.t 0],none⟩,
 ⟨some 9,.mv,[.t 1],none⟩,
 ⟨some 10,(.bin .gtr),[.t 8,.t 9],none⟩]
def c135r5 : List AOper := [
 ⟨some 4,.mv,[.c (.pv none (.int .i64 1))],none⟩]
def c135k6 : ACode := (.cond (.t 10) (.seq (.region true c135r5 [4]) .ret) .skip)
def c135r7 : List AOper := [
 ⟨some 4,.mv,[.c (.pv none (.int .i64 0))],none⟩]
def c135 : ACode := (.seq (.region true c135r0 [0,1]) (.seq (.seq (.region true c135r1 [0,1,7]) c135k3) (.seq (.seq (.region true c135r4 [10]) c135k6) (.seq (.region true c135r7 [4]) .ret))))
def g135 : AFn := ⟨2,[(4,none)],c135,false,[],[],none⟩
theorem tr135 : trFn Tryz.prog false 135 Tryz.f135 = some g135 := by kernel_rfl
def c136r0 : List AOper := [
 ⟨some 4,.mv,[.c (.pv none (.int .i64 0))],none⟩]
def c136r1 : List AOper := [
 ⟨some 5,.mv,[.c (.pv none (.int .i64 0))],none⟩]
def c136r2 : List AOper := [
 ⟨some 6,.mv,[.t 5],none⟩,
 ⟨some 7,.mv,[.t 0],none⟩,
 ⟨some 8,.slen,[.t 7],none⟩,
 ⟨some 9,(.bin .lss),[.t 6,.t 8],none⟩,
 ⟨some 10,.mv,[.t 9],none⟩,
 ⟨some 11,.mv,[.t 5],some (10,true)⟩,
 ⟨some 12,.mv,[.t 1],some (10,true)⟩,
 ⟨some 13,.slen,[.t 12],some (10,true)⟩,
 ⟨some 14,(.bin .lss),[.t 11,.t 13],some (10,true)⟩,
 ⟨some 15,.pick,[.t 10,.t 14,.c (.pv none (.bool false))],none⟩]
def c136k3 : ACode := (.cond (.t 15) .skip (.exit 0))
def c136r4 : List AOper := [
 ⟨some 18,.mv,[.t 0],none⟩,
 ⟨some 19,.mv,[.t 5],none⟩,
 ⟨some 20,.sindex,[.t 18,.t 19],none⟩,
 ⟨some 21,.mv,[.t 1],none⟩,
 ⟨some 22,.mv,[.t 5],none⟩,
 ⟨some 23,.sindex,[.t 21,.t 22],none⟩,
 ⟨some 24,(.bin .lss),[.t 20,.t 23],none⟩]
def c136r5 : List AOper := [
 ⟨some 4,.mv,[.c (.pv none (.int .i64 (-1)))],none⟩]
def c136k6 : ACode := (.cond (.t 24) (.seq (.region true c136r5 [4]) .ret) .skip)
def c136r7 : List AOper := [
 ⟨some 25,.mv,[.t 0],none⟩,
 ⟨some 26,.mv,[.t 5],none⟩,
 ⟨some 27,.sindex,[.t 25,.t 26],none⟩,
 ⟨some 28,.mv,[.t 1],none⟩,
 ⟨some 29,.mv,[.t 5],none⟩,
 ⟨some 30,.sindex,[.t 28,.t 29],none⟩,
 ⟨some 31,(.bin .gtr),[.t 27,.t 30],none⟩]
def c136r8 : List AOper := [
 ⟨some 4,.mv,[.c (.pv none (.int .i64 1))],none⟩]
def c136k9 : ACode := (.cond (.t 31) (.seq (.region true c136r8 [4]) .ret) .skip)
def c136k10 : ACode := (.block 1 (.seq (.seq (.region true c136r4 [0,1,5,24]) c136k6) (.seq (.region true c136r7 [0,1,5,31]) c136k9)))
def c136r11 : List AOper := [
 ⟨some 16,.mv,[.t 5],none⟩,
 ⟨some 17,(.bin .add),[.t 16,.c (.pv none (.int .i64 1))],none⟩,
 ⟨some 5,.mv,[.t 17],none⟩]
def c136b12 : ACode := (.seq (.seq (.region true c136r2 [0,1,5,15]) c136k3) (.seq c136k10 (.region true c136r11 [0,1,5])))
def c136k13 : ACode := (.block 0 (.loop [0,1,5] c136b12))
def c136r14 : List AOper := [
 ⟨some 32,.mv,[.t 0],none⟩,
 ⟨some 33,.slen,[.t 32],none⟩,
 ⟨some 34,.mv,[.t 1],none⟩,
 ⟨some 35,.slen,[.t 34],none⟩,
 ⟨some 36,.call,[.c (.pv none (.func (.func 135))),.t 33,.t 35],none⟩,
 ⟨some 4,.mv,[.t 36],none⟩]
def c136 : ACode := (.seq (.region true c136r0 [0,1]) (.seq (.seq (.region true c136r1 [0,1,5]) c136k13) (.seq (.region true c136r14 [4]) .ret)))
def g136 : AFn := ⟨2,[(4,none)],c136,false,[],[],none⟩
theorem tr136 : trFn Tryz.prog false 136 Tryz.f136 = some g136 := by kernel_rfl
def c137r0 : List AOper := [
 ⟨some 4,.mv,[.c (.pv none (.int .i64 0))],none⟩]
def c137r1 : List AOper := [
 ⟨some 5,.mv,[.c (.pv none (.int .i64 0))],none⟩]
def c137r2 : List AOper := [
 ⟨some 6,.mv,[.t 5],none⟩,
 ⟨some 7,.mv,[.t 0],none⟩,
 ⟨some 8,.len,[.t 7],none⟩,
 ⟨some 9,(.bin .lss),[.t 6,.t 8],none⟩]
def c137k3 : ACode := (.cond (.t 9) .skip (.exit 0))
def c137r4 : List AOper := [
 ⟨some 12,.mv,[.t 0],none⟩,
 ⟨some 13,.mv,[.t 5],none⟩,
 ⟨some 14,(.iaddr none),[.t 12,.t 13],none⟩,
 ⟨some 15,(.load none),[.t 14],none⟩,
 ⟨some 16,.mv,[.t 1],none⟩,
 ⟨some 17,(.bin .eql),[.t 15,.t 16],none⟩]
def c137r5 : List AOper := [
 ⟨some 18,.mv,[.t 5],none⟩,
 ⟨some 4,.mv,[.t 18],none⟩]
def c137k6 : ACode := (.cond (.t 17) (.seq (.region true c137r5 [4]) .ret) .skip)
def c137k7 : ACode := (.block 1 (.seq (.region true c137r4 [0,1,5,17]) c137k6))
def c137r8 : List AOper := [
 ⟨some 10,.mv,[.t 5],none⟩,
 ⟨some 11,(.bin .add),[.t 10,.c (.pv none (.int .i64 1))],none⟩,
 ⟨some 5,.mv,[.t 11],none⟩]
def c137b9 : ACode := (.seq (.seq (.region true c137r2 [0,1,5,9]) c137k3) (.seq c137k7 (.region true c137r8 [0,1,5])))
def c137k10 : ACode := (.block 0 (.loop [0,1,5] c137b9))
def c137r11 : List AOper := [
 ⟨some 4,.mv,[.c (.pv none (.int .i64 (-1)))],none⟩]
def c137 : ACode := (.seq (.region true c137r0 [0,1]) (.seq (.seq (.region true c137r1 [0,1,5]) c137k10) (.seq (.region true c137r11 [4]) .ret)))
def g137 : AFn := ⟨2,[(4,none)],c137,false,[],[],none⟩
theorem tr137 : trFn Tryz.prog false 137 Tryz.f137 = some g137 := by kernel_rfl
def c138r0 : List AOper := [
 ⟨some 6,.mv,[.c (.pv none (.int .i64 20))],none⟩]
def c138r1 : List AOper := [
 ⟨some 10,.mv,[.t 6],none⟩,
 ⟨some 7,.mv,[.c (.pv none (.int .i64 0))],none⟩,
 ⟨some 8,.mv,[.t 10],none⟩]
def c138r2 : List AOper := [
 ⟨some 11,.mv,[.t 8],none⟩,
 ⟨some 12,.mv,[.t 1],none⟩,
 ⟨some 13,(.bin .leq),[.t 11,.t 12],none⟩]
def c138k3 : ACode := (.cond (.t 13) .skip (.exit 0))
def c138r4 : List AOper := [
 ⟨some 14,.mv,[.t 0],none⟩,
 ⟨some 15,.mv,[.t 7],none⟩,
 ⟨some 16,.mv,[.t 8],none⟩,
 ⟨some 17,.mv,[.t 2],none⟩,
 ⟨some 18,.call,[.c (.pv none (.func (.func 150))),.t 14,.t 15,.t 16,.t 17],none⟩]
def c138r5 : List AOper := [
 ⟨some 19,.mv,[.t 8],none⟩,
 ⟨some 7,.mv,[.t 19],none⟩]
def c138r6 : List AOper := [
 ⟨some 20,.mv,[.t 8],none⟩,
 ⟨some 21,.mv,[.t 6],none⟩,
 ⟨some 22,(.bin .add),[.t 20,.t 21],none⟩,
 ⟨some 8,.mv,[.t 22],none⟩]
def c138k7 : ACode := (.block 1 (.seq (.region true c138r4 [0,1,2,6,8]) (.seq (.region true c138r5 [0,1,2,6,7,8]) (.region true c138r6 [0,1,2,6,7,8]))))
def c138b8 : ACode := (.seq (.seq (.region true c138r2 [0,1,2,6,7,8,13]) c138k3) c138k7)
def c138k9 : ACode := (.block 0 (.loop [0,1,2,6,7,8] c138b8))
def c138r10 : List AOper := [
 ⟨some 23,.mv,[.t 0],none⟩,
 ⟨some 24,.mv,[.t 7],none⟩,
 ⟨some 25,.mv,[.t 1],none⟩,
 ⟨some 26,.mv,[.t 2],none⟩,
 ⟨some 27,.call,[.c (.pv none (.func (.func 150))),.t 23,.t 24,.t 25,.t 26],none⟩]
def c138r11 : List AOper := [
 ⟨some 28,.mv,[.t 6],none⟩,
 ⟨some 29,.mv,[.t 1],none⟩,
 ⟨some 30,(.bin .lss),[.t 28,.t 29],none⟩]
def c138k12 : ACode := (.cond (.t 30) .skip (.exit 2))
def c138r13 : List AOper := [
 ⟨some 31,.mv,[.t 6],none⟩,
 ⟨some 32,(.bin .mul),[.c (.pv none (.int .i64 2)),.t 31],none⟩,
 ⟨some 7,.mv,[.c (.pv none (.int .i64 0))],none⟩,
 ⟨some 8,.mv,[.t 32],none⟩]
def c138r14 : List AOper := [
 ⟨some 33,.mv,[.t 8],none⟩,
 ⟨some 34,.mv,[.t 1],none⟩,
 ⟨some 35,(.bin .leq),[.t 33,.t 34],none⟩]
def c138k15 : ACode := (.cond (.t 35) .skip (.exit 4))
def c138r16 : List AOper := [
 ⟨some 36,.mv,[.t 0],none⟩,
 ⟨some 37,.mv,[.t 7],none⟩,
 ⟨some 38,.mv,[.t 7],none⟩,
 ⟨some 39,.mv,[.t 6],none⟩,
 ⟨some 40,(.bin .add),[.t 38,.t 39],none⟩,
 ⟨some 41,.mv,[.t 8],none⟩,
 ⟨some 42,.mv,[.t 2],none⟩,
 ⟨some 43,.call,[.c (.pv none (.func (.func 151))),.t 36,.t 37,.t 40,.t 41,.t 42],none⟩]
def c138r17 : List AOper := [
 ⟨some 44,.mv,[.t 8],none⟩,
 ⟨some 7,.mv,[.t 44],none⟩]
def c138r18 : List AOper := [
 ⟨some 45,.mv,[.t 8],none⟩,
 ⟨some 46,.mv,[.t 6],none⟩,
 ⟨some 47,(.bin .mul),[.c (.pv none (.int .i64 2)),.t 46],none⟩,
 ⟨some 48,(.bin .add),[.t 45,.t 47],none⟩,
 ⟨some 8,.mv,[.t 48],none⟩]
def c138k19 : ACode := (.block 5 (.seq (.region true c138r16 [0,1,2,6,8]) (.seq (.region true c138r17 [0,1,2,6,7,8]) (.region true c138r18 [0,1,2,6,7,8]))))
def c138b20 : ACode := (.seq (.seq (.region true c138r14 [0,1,2,6,7,8,35]) c138k15) c138k19)
def c138k21 : ACode := (.block 4 (.loop [0,1,2,6,7,8] c138b20))
def c138r22 : List AOper := [
 ⟨some 49,.mv,[.t 7],none⟩,
 ⟨some 50,.mv,[.t 6],none⟩,
 ⟨some 51,(.bin .add),[.t 49,.t 50],none⟩,
 ⟨some 9,.mv,[.t 51],none⟩]
def c138r23 : List AOper := [
 ⟨some 52,.mv,[.t 9],none⟩,
 ⟨some 53,.mv,[.t 1],none⟩,
 ⟨some 54,(.bin .lss),[.t 52,.t 53],none⟩]
def c138r24 : List AOper := [
 ⟨some 55,.mv,[.t 0],none⟩,
 ⟨some 56,.mv,[.t 7],none⟩,
 ⟨some 57,.mv,[.t 9],none⟩,
 ⟨some 58,.mv,[.t 1],none⟩,
 ⟨some 59,.mv,[.t 2],none⟩,
 ⟨some 60,.call,[.c (.pv none (.func (.func 151))),.t 55,.t 56,.t 57,.t 58,.t 59],none⟩]
def c138k25 : ACode := (.cond (.t 54) (.region true c138r24 [0,1,2,6]) .skip)
def c138r26 : List AOper := [
 ⟨some 61,.mv,[.t 6],none⟩,
 ⟨some 62,(.bin .mul),[.t 61,.c (.pv none (.int .i64 2))],none⟩,
 ⟨some 6,.mv,[.t 62],none⟩]
def c138k27 : ACode := (.block 3 (.seq (.region true c138r13 [0,1,2,6,7,8]) (.seq c138k21 (.seq (.seq (.region true c138r22 [0,1,2,6,7,9]) (.seq (.region true c138r23 [0,1,2,6,7,9,54]) c138k25)) (.region true c138r26 [0,1,2,6])))))
def c138b28 : ACode := (.seq (.seq (.region true c138r11 [0,1,2,6,30]) c138k12) c138k27)
def c138k29 : ACode := (.block 2 (.loop [0,1,2,6] c138b28))
def c138 : ACode := (.seq (.region true c138r0 [0,1,2,6]) (.seq (.region true c138r1 [0,1,2,6,7,8]) (.seq c138k9 (.seq (.region true c138r10 [0,1,2,6]) c138k29))))
def g138 : AFn := ⟨3,[],c138,true,[],[],none⟩
theorem tr138 : trFn Tryz.prog true 138 Tryz.f138 = some g138 := by kernel_rfl
def c139r0 : List AOper := [
 ⟨some 2,.mv,[.c (.pv none (.bool false))],none⟩]
def c139r1 : List AOper := [
 ⟨some 3,.mv,[.t 0],none⟩,
 ⟨some 4,.mv,[.t 0],none⟩,
 ⟨some 5,(.bin .neq),[.t 3,.t 4],none⟩,
 ⟨some 2,.mv,[.t 5],none⟩]
def c139 : ACode := (.seq (.region true c139r0 [0]) (.seq (.region true c139r1 [2]) .ret))
def g139 : AFn := ⟨1,[(2,none)],c139,false,[],[],none⟩
theorem tr139 : trFn Tryz.prog false 139 Tryz.f139 = some g139 := by kernel_rfl
def c140r0 : List AOper := [
 ⟨some 2,.mv,[.c (.pv none (.bool false))],none⟩]
def c140r1 : List AOper := [
 ⟨some 3,.mv,[.t 0],none⟩,
 ⟨some 4,.mv,[.t 0],none⟩,
 ⟨some 5,(.bin .neq),[.t 3,.t 4],none⟩,
 ⟨some 2,.mv,[.t 5],none⟩]
def c140 : ACode := (.seq (.region true c140r0 [0]) (.seq (.region true c140r1 [2]) .ret))
def g140 : AFn := ⟨1,[(2,none)],c140,false,[],[],none⟩
theorem tr140 : trFn Tryz.prog false 140 Tryz.f140 = some g140 := by kernel_rfl
def c141r0 : List AOper := [
 ⟨some 4,.mv,[.c (.pv none (.int .i64 0))],none⟩]
def c141r1 : List AOper := [
 ⟨some 5,.mv,[.t 0],none⟩,
 ⟨some 6,.mv,[.t 1],none⟩,
 ⟨some 7,.call,[.c (.pv none (.func (.func 152))),.t 5,.t 6],none⟩,
 ⟨some 4,.mv,[.t 7],none⟩]
def c141 : ACode := (.seq (.region true c141r0 [0,1]) (.seq (.region true c141r1 [4]) .ret))
def g141 : AFn := ⟨2,[(4,none)],c141,false,[],[],none⟩
theorem tr141 : trFn Tryz.prog false 141 Tryz.f141 = some g141 := by kernel_rfl
def c142r0 : List AOper := [
 ⟨some 6,.mv,[.c (.pv none (.bool false))],none⟩]
def c142r1 : List AOper := [
 ⟨some 11,.mv,[.t 2],none⟩,
 ⟨some 12,.mv,[.t 1],none⟩,
 ⟨some 13,(.lookup false none (.pv none (.int .i64 0)) false),[.t 11,.t 12],none⟩,
 ⟨some 14,(.bin .neq),[.t 13,.c (.pv none (.int .i64 0))],none⟩]
def c142r2 : List AOper := [
 ⟨some 15,.mv,[.t 2],none⟩,
 ⟨some 16,.mv,[.t 1],none⟩,
 ⟨some 17,(.lookup false none (.pv none (.int .i64 0)) false),[.t 15,.t 16],none⟩,
 ⟨some 18,(.bin .eql),[.t 17,.c (.pv none (.int .i64 1))],none⟩,
 ⟨some 6,.mv,[.t 18],none⟩]
def c142k3 : ACode := (.cond (.t 14) (.seq (.region true c142r2 [6]) .ret) .skip)
def c142r4 : List AOper := [
 ⟨some 20,.mv,[.t 0],none⟩,
 ⟨some 21,.mv,[.t 1],none⟩,
 ⟨some 22,(.build [(none,(.pv none (.int .i64 0))),(none,(.pv none (.int .i64 0))),(none,(.pv none (.str []))),(none,(.tsl (some 4) []))] [1]),[.t 21],none⟩,
 ⟨some 23,.call,[.c (.pv none (.func (.func 145))),.t 20,.t 22],none⟩,
 ⟨some 19,.mv,[.t 23],none⟩,
 ⟨some 24,(.extract 0),[.t 19],none⟩,
 ⟨some 25,(.extract 1),[.t 19],none⟩,
 ⟨some 7,(.alloc (some 4) (.agg [(none,(.pv none (.int .i64 0))),(none,(.pv none (.int .i64 0))),(none,(.pv none (.str []))),(none,(.tsl (some 4) []))])),[],none⟩,
 ⟨none,(.store (some 4)),[.t 7,.t 24],none⟩,
 ⟨some 8,.mv,[.t 25],none⟩]
def c142r5 : List AOper := [
 ⟨some 26,.mv,[.t 8],none⟩,
 ⟨some 27,.not,[.t 26],none⟩]
def c142r6 : List AOper := [
 ⟨some 6,.mv,[.c (.pv none (.bool false))],none⟩]
def c142k7 : ACode := (.cond (.t 27) (.seq (.region true c142r6 [6]) .ret) .skip)
def c142r8 : List AOper := [
 ⟨some 28,.mv,[.t 2],none⟩,
 ⟨some 29,.mv,[.t 1],none⟩,
 ⟨none,(.mapset false none),[.t 28,.t 29,.c (.pv none (.int .i64 1))],none⟩]
def c142r9 : List AOper := [
 ⟨some 30,(.load (some 4)),[.t 7],none⟩,
 ⟨some 31,.call,[.c (.pv none (.func (.func 64))),.t 30],none⟩,
 ⟨some 32,.len,[.t 31],none⟩,
 ⟨some 33,.mv,[.c (.pv none (.int .i64 0))],none⟩]
def c142r10 : List AOper := [
 ⟨some 34,(.bin .lss),[.t 33,.t 32],none⟩]
def c142k11 : ACode := (.cond (.t 34) .skip (.exit 0))
def c142r12 : List AOper := [
 ⟨some 35,(.iaddr none),[.t 31,.t 33],none⟩,
 ⟨some 36,(.load none),[.t 35],none⟩,
 ⟨some 10,.mv,[.t 36],none⟩]
def c142r13 : List AOper := [
 ⟨some 37,.mv,[.t 0],none⟩,
 ⟨some 38,.mv,[.t 10],none⟩,
 ⟨some 39,.mv,[.t 2],none⟩,
 ⟨some 40,.call,[.c (.pv none (.func (.func 142))),.t 37,.t 38,.t 39],none⟩]
def c142r14 : List AOper := [
 ⟨some 6,.mv,[.c (.pv none (.bool true))],none⟩]
def c142k15 : ACode := (.cond (.t 40) (.seq (.region true c142r14 [6]) .ret) .skip)
def c142k16 : ACode := (.block 1 (.seq (.region true c142r12 [0,1,2,10,31,32,33]) (.seq (.region true c142r13 [0,1,2,31,32,33,40]) c142k15)))
def c142r17 : List AOper := [
 ⟨some 41,(.bin .add),[.t 33,.c (.pv none (.int .i64 1))],none⟩,
 ⟨some 33,.mv,[.t 41],none⟩]
def c142b18 : ACode := (.seq (.region true c142r10 [0,1,2,31,32,33,34]) (.seq c142k11 (.seq c142k16 (.region true c142r17 [0,1,2,31,32,33]))))
def c142k19 : ACode := (.block 0 (.loop [0,1,2,31,32,33] c142b18))
def c142r20 : List AOper := [
 ⟨some 42,.mv,[.t 2],none⟩,
 ⟨some 43,.mv,[.t 1],none⟩,
 ⟨none,(.mapset false none),[.t 42,.t 43,.c (.pv none (.int .i64 2))],none⟩]
def c142r21 : List AOper := [
 ⟨some 6,.mv,[.c (.pv none (.bool false))],none⟩]
def c142 : ACode := (.seq (.region true c142r0 [0,1,2]) (.seq (.seq (.region true c142r1 [0,1,2,14]) c142k3) (.seq (.region true c142r4 [0,1,2,7,8]) (.seq (.seq (.region true c142r5 [0,1,2,7,27]) c142k7) (.seq (.region true c142r8 [0,1,2,7]) (.seq (.seq (.region true c142r9 [0,1,2,31,32,33]) c142k19) (.seq (.region true c142r20 []) (.seq (.region true c142r21 [6]) .ret))))))))
def g142 : AFn := ⟨3,[(6,none)],c142,true,[],[],none⟩
theorem tr142 : trFn Tryz.prog true 142 Tryz.f142 = some g142 := by kernel_rfl
def c143r0 : List AOper := [
 ⟨some 3,(.box (some 4)),[.t 1],none⟩,
 ⟨some 4,(.alloc (some 4) (.agg [(none,(.pv none (.int .i64 0))),(none,(.pv none (.int .i64 0))),(none,(.pv none (.str []))),(none,(.tsl (some 4) []))])),[],none⟩]
def c143r1 : List AOper := [
 ⟨some 8,.mv,[.t 0],none⟩,
 ⟨some 9,(.load (some 4)),[.t 3],none⟩,
 ⟨some 10,.call,[.c (.pv none (.func (.func 145))),.t 8,.t 9],none⟩,
 ⟨some 7,.mv,[.t 10],none⟩,
 ⟨some 11,(.extract 0),[.t 7],none⟩,
 ⟨some 12,(.extract 1),[.t 7],none⟩,
 ⟨some 5,(.alloc (some 4) (.agg [(none,(.pv none (.int .i64 0))),(none,(.pv none (.int .i64 0))),(none,(.pv none (.str []))),(none,(.tsl (some 4) []))])),[],none⟩,
 ⟨none,(.store (some 4)),[.t 5,.t 11],none⟩,
 ⟨some 6,.mv,[.t 12],none⟩]
def c143r2 : List AOper := [
 ⟨some 13,.mv,[.t 6],none⟩,
 ⟨some 14,.not,[.t 13],none⟩]
def c143r3 : List AOper := [
 ⟨some 15,(.load (some 4)),[.t 3],none⟩,
 ⟨none,(.store (some 4)),[.t 4,.t 15],none⟩]
def c143k4 : ACode := (.cond (.t 14) (.seq (.region true c143r3 [4]) .ret) .skip)
def c143r5 : List AOper := [
 ⟨some 16,(.load (some 4)),[.t 5],none⟩,
 ⟨none,(.store (some 4)),[.t 3,.t 16],none⟩]
def c143k6 : ACode := (.block 1 (.seq (.region true c143r1 [0,3,4,5,6]) (.seq (.seq (.region true c143r2 [0,3,4,5,14]) c143k4) (.region true c143r5 [0,3,4]))))
def c143b7 : ACode := c143k6
def c143k8 : ACode := (.block 0 (.loop [0,3,4] c143b7))
def c143 : ACode := (.seq (.region true c143r0 [0,3,4]) c143k8)
def g143 : AFn := ⟨2,[(4,some (some 4))],c143,true,[],[],none⟩
theorem tr143 : trFn Tryz.prog true 143 Tryz.f143 = some g143 := by kernel_rfl
def c144r0 : List AOper := [
 ⟨some 4,(.box (some 4)),[.t 1],none⟩,
 ⟨some 5,(.box (some 4)),[.t 2],none⟩,
 ⟨some 6,.mv,[.c (.pv none (.bool false))],none⟩]
def c144r1 : List AOper := [
 ⟨some 8,(.faddr 0),[.t 4],none⟩,
 ⟨some 9,(.load none),[.t 8],none⟩,
 ⟨some 10,(.bin .eql),[.t 9,.c (.pv none (.int .i64 0))],none⟩,
 ⟨some 11,.mv,[.t 10],none⟩,
 ⟨some 12,(.faddr 0),[.t 5],some (11,true)⟩,
 ⟨some 13,(.load none),[.t 12],some (11,true)⟩,
 ⟨some 14,(.bin .eql),[.t 13,.c (.pv none (.int .i64 0))],some (11,true)⟩,
 ⟨some 15,.pick,[.t 11,.t 14,.c (.pv none (.bool false))],none⟩,
 ⟨some 7,.mv,[.t 15],none⟩]
def c144r2 : List AOper := [
 ⟨some 16,(.faddr 1),[.t 4],none⟩,
 ⟨some 17,(.load none),[.t 16],none⟩,
 ⟨some 18,(.faddr 1),[.t 5],none⟩,
 ⟨some 19,(.load none),[.t 18],none⟩,
 ⟨some 20,(.bin .neq),[.t 17,.t 19],none⟩]
def c144r3 : List AOper := [
 ⟨some 21,.mv,[.t 0],none⟩,
 ⟨some 22,(.faddr 1),[.t 4],none⟩,
 ⟨some 23,(.load none),[.t 22],none⟩,
 ⟨some 24,(.faddr 1),[.t 5],none⟩,
 ⟨some 25,(.load none),[.t 24],none⟩,
 ⟨some 26,.max,[.t 23,.t 25],none⟩,
 ⟨some 27,(.faddr 1),[.t 4],none⟩,
 ⟨some 28,(.load none),[.t 27],none⟩,
 ⟨some 29,(.faddr 1),[.t 5],none⟩,
 ⟨some 30,(.load none),[.t 29],none⟩,
 ⟨some 31,.min,[.t 28,.t 30],none⟩,
 ⟨some 32,(.build [(none,(.pv none (.int .i64 0))),(none,(.pv none (.int .i64 0))),(none,(.pv none (.str []))),(none,(.tsl (some 4) []))] [1]),[.t 31],none⟩,
 ⟨some 33,.call,[.c (.pv none (.func (.func 153))),.t 21,.t 26,.t 32],none⟩]
def c144k4 : ACode := (.cond (.t 20) (.region true c144r3 []) .skip)
def c144r5 : List AOper := [
 ⟨some 35,(.faddr 0),[.t 4],none⟩,
 ⟨some 36,(.load none),[.t 35],none⟩,
 ⟨some 37,(.bin .eql),[.t 36,.c (.pv none (.int .i64 0))],none⟩,
 ⟨some 34,.mv,[.t 37],none⟩]
def c144r6 : List AOper := [
 ⟨some 38,.mv,[.t 0],none⟩,
 ⟨some 39,(.faddr 1),[.t 4],none⟩,
 ⟨some 40,(.load none),[.t 39],none⟩,
 ⟨some 41,(.load (some 4)),[.t 5],none⟩,
 ⟨some 42,.call,[.c (.pv none (.func (.func 153))),.t 38,.t 40,.t 41],none⟩]
def c144r7 : List AOper := [
 ⟨some 44,(.faddr 0),[.t 5],none⟩,
 ⟨some 45,(.load none),[.t 44],none⟩,
 ⟨some 46,(.bin .eql),[.t 45,.c (.pv none (.int .i64 0))],none⟩,
 ⟨some 43,.mv,[.t 46],none⟩]
def c144r8 : List AOper := [
 ⟨some 47,.mv,[.t 0],none⟩,
 ⟨some 48,(.faddr 1),[.t 5],none⟩,
 ⟨some 49,(.load none),[.t 48],none⟩,
 ⟨some 50,(.load (some 4)),[.t 4],none⟩,
 ⟨some 51,.call,[.c (.pv none (.func (.func 153))),.t 47,.t 49,.t 50],none⟩]
def c144r9 : List AOper := [
 ⟨some 53,(.faddr 0),[.t 4],none⟩,
 ⟨some 54,(.load none),[.t 53],none⟩,
 ⟨some 55,(.faddr 0),[.t 5],none⟩,
 ⟨some 56,(.load none),[.t 55],none⟩,
 ⟨some 57,(.bin .neq),[.t 54,.t 56],none⟩,
 ⟨some 58,.mv,[.t 57],none⟩,
 ⟨some 59,(.faddr 1),[.t 4],some (58,false)⟩,
 ⟨some 60,(.load none),[.t 59],some (58,false)⟩,
 ⟨some 61,(.faddr 1),[.t 5],some (58,false)⟩,
 ⟨some 62,(.load none),[.t 61],some (58,false)⟩,
 ⟨some 63,(.bin .neq),[.t 60,.t 62],some (58,false)⟩,
 ⟨some 64,.pick,[.t 58,.c (.pv none (.bool true)),.t 63],none⟩,
 ⟨some 65,.mv,[.t 64],none⟩,
 ⟨some 66,(.faddr 2),[.t 4],some (65,false)⟩,
 ⟨some 67,(.load none),[.t 66],some (65,false)⟩,
 ⟨some 68,(.faddr 2),[.t 5],some (65,false)⟩,
 ⟨some 69,(.load none),[.t 68],some (65,false)⟩,
 ⟨some 70,(.bin .neq),[.t 67,.t 69],some (65,false)⟩,
 ⟨some 71,.pick,[.t 65,.c (.pv none (.bool true)),.t 70],none⟩,
 ⟨some 72,.mv,[.t 71],none⟩,
 ⟨some 73,(.faddr 3),[.t 4],some (72,false)⟩,
 ⟨some 74,(.load none),[.t 73],some (72,false)⟩,
 ⟨some 75,.len,[.t 74],some (72,false)⟩,
 ⟨some 76,(.faddr 3),[.t 5],some (72,false)⟩,
 ⟨some 77,(.load none),[.t 76],some (72,false)⟩,
 ⟨some 78,.len,[.t 77],some (72,false)⟩,
 ⟨some 79,(.bin .neq),[.t 75,.t 78],some (72,false)⟩,
 ⟨some 80,.pick,[.t 72,.c (.pv none (.bool true)),.t 79],none⟩,
 ⟨some 52,.mv,[.t 80],none⟩]
def c144r10 : List AOper := [
 ⟨some 81,(.build [(none,(.pv none (.int .i64 0)))] [0]),[.c (.pv none (.int .i64 4))],none⟩,
 ⟨some 82,(.mkiface 100),[.t 81],none⟩,
 ⟨none,.panic,[.t 82],none⟩]
def c144r11 : List AOper := [
 ⟨some 6,.mv,[.c (.pv none (.bool true))],none⟩]
def c144k12 : ACode := (.cond (.t 52) (.region true c144r10 []) (.seq (.region true c144r11 [6]) .ret))
def c144k13 : ACode := (.cond (.t 43) (.region true c144r8 []) (.seq (.region true c144r9 [52]) c144k12))
def c144k14 : ACode := (.cond (.t 34) (.region true c144r6 []) (.seq (.region true c144r7 [0,4,5,43]) c144k13))
def c144k15 : ACode := (.cond (.t 7) (.seq (.region true c144r2 [0,4,5,20]) c144k4) (.seq (.region true c144r5 [0,4,5,34]) c144k14))
def c144k16 : ACode := (.block 0 (.seq (.region true c144r1 [0,4,5,7]) c144k15))
def c144r17 : List AOper := [
 ⟨some 6,.mv,[.c (.pv none (.bool false))],none⟩]
def c144 : ACode := (.seq (.region true c144r0 [0,4,5]) (.seq c144k16 (.seq (.region true c144r17 [6]) .ret)))
def g144 : AFn := ⟨3,[(6,none)],c144,true,[],[],none⟩
theorem tr144 : trFn Tryz.prog true 144 Tryz.f144 = some g144 := by kernel_rfl
def c145r0 : List AOper := [
 ⟨some 3,(.box (some 4)),[.t 1],none⟩,
 ⟨some 4,(.alloc (some 4) (.agg [(none,(.pv none (.int .i64 0))),(none,(.pv none (.int .i64 0))),(none,(.pv none (.str []))),(none,(.tsl (some 4) []))])),[],none⟩,
 ⟨some 5,.mv,[.c (.pv none (.bool false))],none⟩]
def c145r1 : List AOper := [
 ⟨some 8,(.faddr 0),[.t 3],none⟩,
 ⟨some 9,(.load none),[.t 8],none⟩,
 ⟨some 10,(.bin .neq),[.t 9,.c (.pv none (.int .i64 0))],none⟩]
def c145r2 : List AOper := [
 ⟨some 11,(.build [(none,(.pv none (.int .i64 0))),(none,(.pv none (.int .i64 0))),(none,(.pv none (.str []))),(none,(.tsl (some 4) []))] []),[],none⟩,
 ⟨none,(.store (some 4)),[.t 4,.t 11],none⟩,
 ⟨some 5,.mv,[.c (.pv none (.bool false))],none⟩]
def c145k3 : ACode := (.cond (.t 10) (.seq (.region true c145r2 [4,5]) .ret) .skip)
def c145r4 : List AOper := [
 ⟨some 13,.mv,[.t 0],none⟩,
 ⟨some 14,(.faddr 1),[.t 3],none⟩,
 ⟨some 15,(.load none),[.t 14],none⟩,
 ⟨some 16,.call,[.c (.pv none (.func (.func 154))),.t 13,.t 15],none⟩,
 ⟨some 12,.mv,[.t 16],none⟩,
 ⟨some 17,(.extract 0),[.t 12],none⟩,
 ⟨some 18,(.extract 1),[.t 12],none⟩,
 ⟨some 6,.mv,[.t 17],none⟩,
 ⟨some 7,.mv,[.t 18],none⟩]
def c145r5 : List AOper := [
 ⟨some 19,.mv,[.t 7],none⟩,
 ⟨some 20,.not,[.t 19],none⟩]
def c145r6 : List AOper := [
 ⟨some 21,(.build [(none,(.pv none (.int .i64 0))),(none,(.pv none (.int .i64 0))),(none,(.pv none (.str []))),(none,(.tsl (some 4) []))] []),[],none⟩,
 ⟨none,(.store (some 4)),[.t 4,.t 21],none⟩,
 ⟨some 5,.mv,[.c (.pv none (.bool false))],none⟩]
def c145k7 : ACode := (.cond (.t 20) (.seq (.region true c145r6 [4,5]) .ret) .skip)
def c145r8 : List AOper := [
 ⟨some 22,.mv,[.t 0],none⟩,
 ⟨some 23,.mv,[.t 6],none⟩,
 ⟨some 24,(.iaddr (some 5)),[.t 22,.t 23],none⟩,
 ⟨some 25,(.faddr 1),[.t 24],none⟩,
 ⟨some 26,(.load (some 4)),[.t 25],none⟩,
 ⟨none,(.store (some 4)),[.t 4,.t 26],none⟩,
 ⟨some 5,.mv,[.c (.pv none (.bool true))],none⟩]
def c145 : ACode := (.seq (.region true c145r0 [0,3,4]) (.seq (.seq (.region true c145r1 [0,3,4,10]) c145k3) (.seq (.region true c145r4 [0,4,6,7]) (.seq (.seq (.region true c145r5 [0,4,6,20]) c145k7) (.seq (.region true c145r8 [4,5]) .ret)))))
def g145 : AFn := ⟨2,[(4,some (some 4)),(5,none)],c145,true,[],[],none⟩
theorem tr145 : trFn Tryz.prog true 145 Tryz.f145 = some g145 := by kernel_rfl
def c150r0 : List AOper := [
 ⟨some 10,.mv,[.t 1],none⟩,
 ⟨some 11,(.bin .add),[.t 10,.c (.pv none (.int .i64 1))],none⟩,
 ⟨some 8,.mv,[.t 11],none⟩]
def c150r1 : List AOper := [
 ⟨some 12,.mv,[.t 8],none⟩,
 ⟨some 13,.mv,[.t 2],none⟩,
 ⟨some 14,(.bin .lss),[.t 12,.t 13],none⟩]
def c150k2 : ACode := (.cond (.t 14) .skip (.exit 0))
def c150r3 : List AOper := [
 ⟨some 17,.mv,[.t 8],none⟩,
 ⟨some 9,.mv,[.t 17],none⟩]
def c150r4 : List AOper := [
 ⟨some 18,.mv,[.t 9],none⟩,
 ⟨some 19,.mv,[.t 1],none⟩,
 ⟨some 20,(.bin .gtr),[.t 18,.t 19],none⟩,
 ⟨some 21,.mv,[.t 20],none⟩,
 ⟨some 22,.mv,[.t 3],some (21,true)⟩,
 ⟨some 23,.mv,[.t 0],some (21,true)⟩,
 ⟨some 24,.mv,[.t 9],some (21,true)⟩,
 ⟨some 25,(.iaddr (some 4)),[.t 23,.t 24],some (21,true)⟩,
 ⟨some 26,(.load (some 4)),[.t 25],some (21,true)⟩,
 ⟨some 27,.mv,[.t 0],some (21,true)⟩,
 ⟨some 28,.mv,[.t 9],some (21,true)⟩,
 ⟨some 29,(.bin .sub),[.t 28,.c (.pv none (.int .i64 1))],some (21,true)⟩,
 ⟨some 30,(.iaddr (some 4)),[.t 27,.t 29],some (21,true)⟩,
 ⟨some 31,(.load (some 4)),[.t 30],some (21,true)⟩,
 ⟨some 32,.call,[.t 22,.t 26,.t 31],some (21,true)⟩,
 ⟨some 33,(.bin .lss),[.t 32,.c (.pv none (.int .i64 0))],some (21,true)⟩,
 ⟨some 34,.pick,[.t 21,.t 33,.c (.pv none (.bool false))],none⟩]
def c150k5 : ACode := (.cond (.t 34) .skip (.exit 2))
def c150r6 : List AOper := [
 ⟨some 37,.mv,[.t 0],none⟩,
 ⟨some 38,.mv,[.t 9],none⟩,
 ⟨some 39,.mv,[.t 0],none⟩,
 ⟨some 40,.mv,[.t 9],none⟩,
 ⟨some 41,(.bin .sub),[.t 40,.c (.pv none (.int .i64 1))],none⟩,
 ⟨some 42,.mv,[.t 0],none⟩,
 ⟨some 43,.mv,[.t 9],none⟩,
 ⟨some 44,(.bin .sub),[.t 43,.c (.pv none (.int .i64 1))],none⟩,
 ⟨some 45,(.iaddr (some 4)),[.t 42,.t 44],none⟩,
 ⟨some 46,(.load (some 4)),[.t 45],none⟩,
 ⟨some 47,.mv,[.t 0],none⟩,
 ⟨some 48,.mv,[.t 9],none⟩,
 ⟨some 49,(.iaddr (some 4)),[.t 47,.t 48],none⟩,
 ⟨some 50,(.load (some 4)),[.t 49],none⟩,
 ⟨some 51,(.iaddr (some 4)),[.t 37,.t 38],none⟩,
 ⟨none,(.store (some 4)),[.t 51,.t 46],none⟩,
 ⟨some 52,(.iaddr (some 4)),[.t 39,.t 41],none⟩,
 ⟨none,(.store (some 4)),[.t 52,.t 50],none⟩]
def c150k7 : ACode := (.block 3 (.region true c150r6 [0,1,2,3,8,9]))
def c150r8 : List AOper := [
 ⟨some 35,.mv,[.t 9],none⟩,
 ⟨some 36,(.bin .sub),[.t 35,.c (.pv none (.int .i64 1))],none⟩,
 ⟨some 9,.mv,[.t 36],none⟩]
def c150b9 : ACode := (.seq (.seq (.region true c150r4 [0,1,2,3,8,9,34]) c150k5) (.seq c150k7 (.region true c150r8 [0,1,2,3,8,9])))
def c150k10 : ACode := (.block 2 (.loop [0,1,2,3,8,9] c150b9))
def c150k11 : ACode := (.block 1 (.seq (.region true c150r3 [0,1,2,3,8,9]) c150k10))
def c150r12 : List AOper := [
 ⟨some 15,.mv,[.t 8],none⟩,
 ⟨some 16,(.bin .add),[.t 15,.c (.pv none (.int .i64 1))],none⟩,
 ⟨some 8,.mv,[.t 16],none⟩]
def c150b13 : ACode := (.seq (.seq (.region true c150r1 [0,1,2,3,8,14]) c150k2) (.seq c150k11 (.region true c150r12 [0,1,2,3,8])))
def c150k14 : ACode := (.block 0 (.loop [0,1,2,3,8] c150b13))
def c150 : ACode := (.seq (.region true c150r0 [0,1,2,3,8]) c150k14)
def g150 : AFn := ⟨4,[],c150,true,[],[],none⟩
theorem tr150 : trFn Tryz.prog true 150 Tryz.f150 = some g150 := by kernel_rfl
def c151r0 : List AOper := [
 ⟨some 25,.mv,[.t 2],none⟩,
 ⟨some 26,.mv,[.t 1],none⟩,
 ⟨some 27,(.bin .sub),[.t 25,.t 26],none⟩,
 ⟨some 28,(.bin .eql),[.t 27,.c (.pv none (.int .i64 1))],none⟩]
def c151r1 : List AOper := [
 ⟨some 29,.mv,[.t 2],none⟩,
 ⟨some 10,.mv,[.t 29],none⟩]
def c151r2 : List AOper := [
 ⟨some 30,.mv,[.t 3],none⟩,
 ⟨some 11,.mv,[.t 30],none⟩]
def c151r3 : List AOper := [
 ⟨some 31,.mv,[.t 10],none⟩,
 ⟨some 32,.mv,[.t 11],none⟩,
 ⟨some 33,(.bin .lss),[.t 31,.t 32],none⟩]
def c151k4 : ACode := (.cond (.t 33) .skip (.exit 0))
def c151r5 : List AOper := [
 ⟨some 34,.mv,[.t 10],none⟩,
 ⟨some 35,.mv,[.t 11],none⟩,
 ⟨some 36,(.bin .add),[.t 34,.t 35],none⟩,
 ⟨some 37,(.conv .u64),[.t 36],none⟩,
 ⟨some 38,(.bin .shr),[.t 37,.c (.pv none (.int .u64 1))],none⟩,
 ⟨some 39,(.conv .i64),[.t 38],none⟩,
 ⟨some 12,.mv,[.t 39],none⟩]
def c151r6 : List AOper := [
 ⟨some 40,.mv,[.t 4],none⟩,
 ⟨some 41,.mv,[.t 0],none⟩,
 ⟨some 42,.mv,[.t 12],none⟩,
 ⟨some 43,(.iaddr (some 4)),[.t 41,.t 42],none⟩,
 ⟨some 44,(.load (some 4)),[.t 43],none⟩,
 ⟨some 45,.mv,[.t 0],none⟩,
 ⟨some 46,.mv,[.t 1],none⟩,
 ⟨some 47,(.iaddr (some 4)),[.t 45,.t 46],none⟩,
 ⟨some 48,(.load (some 4)),[.t 47],none⟩,
 ⟨some 49,.call,[.t 40,.t 44,.t 48],none⟩,
 ⟨some 50,(.bin .lss),[.t 49,.c (.pv none (.int .i64 0))],none⟩]
def c151r7 : List AOper := [
 ⟨some 51,.mv,[.t 12],none⟩,
 ⟨some 52,(.bin .add),[.t 51,.c (.pv none (.int .i64 1))],none⟩,
 ⟨some 10,.mv,[.t 52],none⟩]
def c151r8 : List AOper := [
 ⟨some 53,.mv,[.t 12],none⟩,
 ⟨some 11,.mv,[.t 53],none⟩]
def c151k9 : ACode := (.cond (.t 50) (.region true c151r7 [0,1,4,10,11]) (.region true c151r8 [0,1,4,10,11]))
def c151k10 : ACode := (.block 1 (.seq (.region true c151r5 [0,1,4,10,11,12]) (.seq (.region true c151r6 [0,1,4,10,11,12,50]) c151k9)))
def c151b11 : ACode := (.seq (.seq (.region true c151r3 [0,1,4,10,11,33]) c151k4) c151k10)
def c151k12 : ACode := (.block 0 (.loop [0,1,4,10,11] c151b11))
def c151r13 : List AOper := [
 ⟨some 54,.mv,[.t 1],none⟩,
 ⟨some 13,.mv,[.t 54],none⟩]
def c151r14 : List AOper := [
 ⟨some 55,.mv,[.t 13],none⟩,
 ⟨some 56,.mv,[.t 10],none⟩,
 ⟨some 57,(.bin .sub),[.t 56,.c (.pv none (.int .i64 1))],none⟩,
 ⟨some 58,(.bin .lss),[.t 55,.t 57],none⟩]
def c151k15 : ACode := (.cond (.t 58) .skip (.exit 2))
def c151r16 : List AOper := [
 ⟨some 61,.mv,[.t 0],none⟩,
 ⟨some 62,.mv,[.t 13],none⟩,
 ⟨some 63,.mv,[.t 0],none⟩,
 ⟨some 64,.mv,[.t 13],none⟩,
 ⟨some 65,(.bin .add),[.t 64,.c (.pv none (.int .i64 1))],none⟩,
 ⟨some 66,.mv,[.t 0],none⟩,
 ⟨some 67,.mv,[.t 13],none⟩,
 ⟨some 68,(.bin .add),[.t 67,.c (.pv none (.int .i64 1))],none⟩,
 ⟨some 69,(.iaddr (some 4)),[.t 66,.t 68],none⟩,
 ⟨some 70,(.load (some 4)),[.t 69],none⟩,
 ⟨some 71,.mv,[.t 0],none⟩,
 ⟨some 72,.mv,[.t 13],none⟩,
 ⟨some 73,(.iaddr (some 4)),[.t 71,.t 72],none⟩,
 ⟨some 74,(.load (some 4)),[.t 73],none⟩,
 ⟨some 75,(.iaddr (some 4)),[.t 61,.t 62],none⟩,
 ⟨none,(.store (some 4)),[.t 75,.t 70],none⟩,
 ⟨some 76,(.iaddr (some 4)),[.t 63,.t 65],none⟩,
 ⟨none,(.store (some 4)),[.t 76,.t 74],none⟩]
def c151k17 : ACode := (.block 3 (.region true c151r16 [0,10,13]))
def c151r18 : List AOper := [
 ⟨some 59,.mv,[.t 13],none⟩,
 ⟨some 60,(.bin .add),[.t 59,.c (.pv none (.int .i64 1))],none⟩,
 ⟨some 13,.mv,[.t 60],none⟩]
def c151b19 : ACode := (.seq (.seq (.region true c151r14 [0,10,13,58]) c151k15) (.seq c151k17 (.region true c151r18 [0,10,13])))
def c151k20 : ACode := (.block 2 (.loop [0,10,13] c151b19))
def c151k21 : ACode := (.cond (.t 28) (.seq (.region true c151r1 [0,1,3,4,10]) (.seq (.region true c151r2 [0,1,4,10,11]) (.seq c151k12 (.seq (.seq (.region true c151r13 [0,10,13]) c151k20) .ret)))) .skip)
def c151r22 : List AOper := [
 ⟨some 77,.mv,[.t 3],none⟩,
 ⟨some 78,.mv,[.t 2],none⟩,
 ⟨some 79,(.bin .sub),[.t 77,.t 78],none⟩,
 ⟨some 80,(.bin .eql),[.t 79,.c (.pv none (.int .i64 1))],none⟩]
def c151r23 : List AOper := [
 ⟨some 81,.mv,[.t 1],none⟩,
 ⟨some 14,.mv,[.t 81],none⟩]
def c151r24 : List AOper := [
 ⟨some 82,.mv,[.t 2],none⟩,
 ⟨some 15,.mv,[.t 82],none⟩]
def c151r25 : List AOper := [
 ⟨some 83,.mv,[.t 14],none⟩,
 ⟨some 84,.mv,[.t 15],none⟩,
 ⟨some 85,(.bin .lss),[.t 83,.t 84],none⟩]
def c151k26 : ACode := (.cond (.t 85) .skip (.exit 4))
def c151r27 : List AOper := [
 ⟨some 86,.mv,[.t 14],none⟩,
 ⟨some 87,.mv,[.t 15],none⟩,
 ⟨some 88,(.bin .add),[.t 86,.t 87],none⟩,
 ⟨some 89,(.conv .u64),[.t 88],none⟩,
 ⟨some 90,(.bin .shr),[.t 89,.c (.pv none (.int .u64 1))],none⟩,
 ⟨some 91,(.conv .i64),[.t 90],none⟩,
 ⟨some 16,.mv,[.t 91],none⟩]
def c151r28 : List AOper := [
 ⟨some 92,.mv,[.t 4],none⟩,
 ⟨some 93,.mv,[.t 0],none⟩,
 ⟨some 94,.mv,[.t 2],none⟩,
 ⟨some 95,(.iaddr (some 4)),[.t 93,.t 94],none⟩,
 ⟨some 96,(.load (some 4)),[.t 95],none⟩,
 ⟨some 97,.mv,[.t 0],none⟩,
 ⟨some 98,.mv,[.t 16],none⟩,
 ⟨some 99,(.iaddr (some 4)),[.t 97,.t 98],none⟩,
 ⟨some 100,(.load (some 4)),[.t 99],none⟩,
 ⟨some 101,.call,[.t 92,.t 96,.t 100],none⟩,
 ⟨some 102,(.bin .lss),[.t 101,.c (.pv none (.int .i64 0))],none⟩,
 ⟨some 103,.not,[.t 102],none⟩]
def c151r29 : List AOper := [
 ⟨some 104,.mv,[.t 16],none⟩,
 ⟨some 105,(.bin .add),[.t 104,.c (.pv none (.int .i64 1))],none⟩,
 ⟨some 14,.mv,[.t 105],none⟩]
def c151r30 : List AOper := [
 ⟨some 106,.mv,[.t 16],none⟩,
 ⟨some 15,.mv,[.t 106],none⟩]
def c151k31 : ACode := (.cond (.t 103) (.region true c151r29 [0,2,4,14,15]) (.region true c151r30 [0,2,4,14,15]))
def c151k32 : ACode := (.block 5 (.seq (.region true c151r27 [0,2,4,14,15,16]) (.seq (.region true c151r28 [0,2,4,14,15,16,103]) c151k31)))
def c151b33 : ACode := (.seq (.seq (.region true c151r25 [0,2,4,14,15,85]) c151k26) c151k32)
def c151k34 : ACode := (.block 4 (.loop [0,2,4,14,15] c151b33))
def c151r35 : List AOper := [
 ⟨some 107,.mv,[.t 2],none⟩,
 ⟨some 17,.mv,[.t 107],none⟩]
def c151r36 : List AOper := [
 ⟨some 108,.mv,[.t 17],none⟩,
 ⟨some 109,.mv,[.t 14],none⟩,
 ⟨some 110,(.bin .gtr),[.t 108,.t 109],none⟩]
def c151k37 : ACode := (.cond (.t 110) .skip (.exit 6))
def c151r38 : List AOper := [
 ⟨some 113,.mv,[.t 0],none⟩,
 ⟨some 114,.mv,[.t 17],none⟩,
 ⟨some 115,.mv,[.t 0],none⟩,
 ⟨some 116,.mv,[.t 17],none⟩,
 ⟨some 117,(.bin .sub),[.t 116,.c (.pv none (.int .i64 1))],none⟩,
 ⟨some 118,.mv,[.t 0],none⟩,
 ⟨some 119,.mv,[.t 17],none⟩,
 ⟨some 120,(.bin .sub),[.t 119,.c (.pv none (.int .i64 1))],none⟩,
 ⟨some 121,(.iaddr (some 4)),[.t 118,.t 120],none⟩,
 ⟨some 122,(.load (some 4)),[.t 121],none⟩,
 ⟨some 123,.mv,[.t 0],none⟩,
 ⟨some 124,.mv,[.t 17],none⟩,
 ⟨some 125,(.iaddr (some 4)),[.t 123,.t 124],none⟩,
 ⟨some 126,(.load (some 4)),[.t 125],none⟩,
 ⟨some 127,(.iaddr (some 4)),[.t 113,.t 114],none⟩,
 ⟨none,(.store (some 4)),[.t 127,.t 122],none⟩,
 ⟨some 128,(.iaddr (some 4)),[.t 115,.t 117],none⟩,
 ⟨none,(.store (some 4)),[.t 128,.t 126],none⟩]
def c151k39 : ACode := (.block 7 (.region true c151r38 [0,14,17]))
def c151r40 : List AOper := [
 ⟨some 111,.mv,[.t 17],none⟩,
 ⟨some 112,(.bin .sub),[.t 111,.c (.pv none (.int .i64 1))],none⟩,
 ⟨some 17,.mv,[.t 112],none⟩]
def c151b41 : ACode := (.seq (.seq (.region true c151r36 [0,14,17,110]) c151k37) (.seq c151k39 (.region true c151r40 [0,14,17])))
def c151k42 : ACode := (.block 6 (.loop [0,14,17] c151b41))
def c151k43 : ACode := (.cond (.t 80) (.seq (.region true c151r23 [0,2,4,14]) (.seq (.region true c151r24 [0,2,4,14,15]) (.seq c151k34 (.seq (.seq (.region true c151r35 [0,14,17]) c151k42) .ret)))) .skip)
def c151r44 : List AOper := [
 ⟨some 129,.mv,[.t 1],none⟩,
 ⟨some 130,.mv,[.t 3],none⟩,
 ⟨some 131,(.bin .add),[.t 129,.t 130],none⟩,
 ⟨some 132,(.conv .u64),[.t 131],none⟩,
 ⟨some 133,(.bin .shr),[.t 132,.c (.pv none (.int .u64 1))],none⟩,
 ⟨some 134,(.conv .i64),[.t 133],none⟩,
 ⟨some 18,.mv,[.t 134],none⟩]
def c151r45 : List AOper := [
 ⟨some 135,.mv,[.t 18],none⟩,
 ⟨some 136,.mv,[.t 2],none⟩,
 ⟨some 137,(.bin .add),[.t 135,.t 136],none⟩,
 ⟨some 19,.mv,[.t 137],none⟩]
def c151r46 : List AOper := [
 ⟨some 20,.mv,[.c (.pv none (.int .i64 0))],none⟩,
 ⟨some 21,.mv,[.c (.pv none (.int .i64 0))],none⟩]
def c151r47 : List AOper := [
 ⟨some 138,.mv,[.t 2],none⟩,
 ⟨some 139,.mv,[.t 18],none⟩,
 ⟨some 140,(.bin .gtr),[.t 138,.t 139],none⟩]
def c151r48 : List AOper := [
 ⟨some 141,.mv,[.t 19],none⟩,
 ⟨some 142,.mv,[.t 3],none⟩,
 ⟨some 143,(.bin .sub),[.t 141,.t 142],none⟩,
 ⟨some 20,.mv,[.t 143],none⟩]
def c151r49 : List AOper := [
 ⟨some 144,.mv,[.t 18],none⟩,
 ⟨some 21,.mv,[.t 144],none⟩]
def c151r50 : List AOper := [
 ⟨some 145,.mv,[.t 1],none⟩,
 ⟨some 20,.mv,[.t 145],none⟩]
def c151r51 : List AOper := [
 ⟨some 146,.mv,[.t 2],none⟩,
 ⟨some 21,.mv,[.t 146],none⟩]
def c151k52 : ACode := (.cond (.t 140) (.seq (.region true c151r48 [0,1,2,3,4,18,19,20]) (.region true c151r49 [0,1,2,3,4,18,19,20,21])) (.seq (.region true c151r50 [0,1,2,3,4,18,19,20]) (.region true c151r51 [0,1,2,3,4,18,19,20,21])))
def c151r53 : List AOper := [
 ⟨some 147,.mv,[.t 19],none⟩,
 ⟨some 148,(.bin .sub),[.t 147,.c (.pv none (.int .i64 1))],none⟩,
 ⟨some 22,.mv,[.t 148],none⟩]
def c151r54 : List AOper := [
 ⟨some 149,.mv,[.t 20],none⟩,
 ⟨some 150,.mv,[.t 21],none⟩,
 ⟨some 151,(.bin .lss),[.t 149,.t 150],none⟩]
def c151k55 : ACode := (.cond (.t 151) .skip (.exit 8))
def c151r56 : List AOper := [
 ⟨some 152,.mv,[.t 20],none⟩,
 ⟨some 153,.mv,[.t 21],none⟩,
 ⟨some 154,(.bin .add),[.t 152,.t 153],none⟩,
 ⟨some 155,(.conv .u64),[.t 154],none⟩,
 ⟨some 156,(.bin .shr),[.t 155,.c (.pv none (.int .u64 1))],none⟩,
 ⟨some 157,(.conv .i64),[.t 156],none⟩,
 ⟨some 23,.mv,[.t 157],none⟩]
def c151r57 : List AOper := [
 ⟨some 158,.mv,[.t 4],none⟩,
 ⟨some 159,.mv,[.t 0],none⟩,
 ⟨some 160,.mv,[.t 22],none⟩,
 ⟨some 161,.mv,[.t 23],none⟩,
 ⟨some 162,(.bin .sub),[.t 160,.t 161],none⟩,
 ⟨some 163,(.iaddr (some 4)),[.t 159,.t 162],none⟩,
 ⟨some 164,(.load (some 4)),[.t 163],none⟩,
 ⟨some 165,.mv,[.t 0],none⟩,
 ⟨some 166,.mv,[.t 23],none⟩,
 ⟨some 167,(.iaddr (some 4)),[.t 165,.t 166],none⟩,
 ⟨some 168,(.load (some 4)),[.t 167],none⟩,
 ⟨some 169,.call,[.t 158,.t 164,.t 168],none⟩,
 ⟨some 170,(.bin .lss),[.t 169,.c (.pv none (.int .i64 0))],none⟩,
 ⟨some 171,.not,[.t 170],none⟩]
def c151r58 : List AOper := [
 ⟨some 172,.mv,[.t 23],none⟩,
 ⟨some 173,(.bin .add),[.t 172,.c (.pv none (.int .i64 1))],none⟩,
 ⟨some 20,.mv,[.t 173],none⟩]
def c151r59 : List AOper := [
 ⟨some 174,.mv,[.t 23],none⟩,
 ⟨some 21,.mv,[.t 174],none⟩]
def c151k60 : ACode := (.cond (.t 171) (.region true c151r58 [0,1,2,3,4,18,19,20,21,22]) (.region true c151r59 [0,1,2,3,4,18,19,20,21,22]))
def c151k61 : ACode := (.block 9 (.seq (.region true c151r56 [0,1,2,3,4,18,19,20,21,22,23]) (.seq (.region true c151r57 [0,1,2,3,4,18,19,20,21,22,23,171]) c151k60)))
def c151b62 : ACode := (.seq (.seq (.region true c151r54 [0,1,2,3,4,18,19,20,21,22,151]) c151k55) c151k61)
def c151k63 : ACode := (.block 8 (.loop [0,1,2,3,4,18,19,20,21,22] c151b62))
def c151r64 : List AOper := [
 ⟨some 175,.mv,[.t 19],none⟩,
 ⟨some 176,.mv,[.t 20],none⟩,
 ⟨some 177,(.bin .sub),[.t 175,.t 176],none⟩,
 ⟨some 24,.mv,[.t 177],none⟩]
def c151r65 : List AOper := [
 ⟨some 178,.mv,[.t 20],none⟩,
 ⟨some 179,.mv,[.t 2],none⟩,
 ⟨some 180,(.bin .lss),[.t 178,.t 179],none⟩,
 ⟨some 181,.mv,[.t 180],none⟩,
 ⟨some 182,.mv,[.t 2],some (181,true)⟩,
 ⟨some 183,.mv,[.t 24],some (181,true)⟩,
 ⟨some 184,(.bin .lss),[.t 182,.t 183],some (181,true)⟩,
 ⟨some 185,.pick,[.t 181,.t 184,.c (.pv none (.bool false))],none⟩]
def c151r66 : List AOper := [
 ⟨some 186,.mv,[.t 0],none⟩,
 ⟨some 187,.mv,[.t 20],none⟩,
 ⟨some 188,.mv,[.t 2],none⟩,
 ⟨some 189,.mv,[.t 24],none⟩,
 ⟨some 190,.mv,[.t 4],none⟩,
 ⟨some 191,.call,[.c (.pv none (.func (.func 156))),.t 186,.t 187,.t 188,.t 189,.t 190],none⟩]
def c151k67 : ACode := (.cond (.t 185) (.region true c151r66 [0,1,3,4,18,20,24]) .skip)
def c151r68 : List AOper := [
 ⟨some 192,.mv,[.t 1],none⟩,
 ⟨some 193,.mv,[.t 20],none⟩,
 ⟨some 194,(.bin .lss),[.t 192,.t 193],none⟩,
 ⟨some 195,.mv,[.t 194],none⟩,
 ⟨some 196,.mv,[.t 20],some (195,true)⟩,
 ⟨some 197,.mv,[.t 18],some (195,true)⟩,
 ⟨some 198,(.bin .lss),[.t 196,.t 197],some (195,true)⟩,
 ⟨some 199,.pick,[.t 195,.t 198,.c (.pv none (.bool false))],none⟩]
def c151r69 : List AOper := [
 ⟨some 200,.mv,[.t 0],none⟩,
 ⟨some 201,.mv,[.t 1],none⟩,
 ⟨some 202,.mv,[.t 20],none⟩,
 ⟨some 203,.mv,[.t 18],none⟩,
 ⟨some 204,.mv,[.t 4],none⟩,
 ⟨some 205,.call,[.c (.pv none (.func (.func 151))),.t 200,.t 201,.t 202,.t 203,.t 204],none⟩]
def c151k70 : ACode := (.cond (.t 199) (.region true c151r69 [0,3,4,18,24]) .skip)
def c151r71 : List AOper := [
 ⟨some 206,.mv,[.t 18],none⟩,
 ⟨some 207,.mv,[.t 24],none⟩,
 ⟨some 208,(.bin .lss),[.t 206,.t 207],none⟩,
 ⟨some 209,.mv,[.t 208],none⟩,
 ⟨some 210,.mv,[.t 24],some (209,true)⟩,
 ⟨some 211,.mv,[.t 3],some (209,true)⟩,
 ⟨some 212,(.bin .lss),[.t 210,.t 211],some (209,true)⟩,
 ⟨some 213,.pick,[.t 209,.t 212,.c (.pv none (.bool false))],none⟩]
def c151r72 : List AOper := [
 ⟨some 214,.mv,[.t 0],none⟩,
 ⟨some 215,.mv,[.t 18],none⟩,
 ⟨some 216,.mv,[.t 24],none⟩,
 ⟨some 217,.mv,[.t 3],none⟩,
 ⟨some 218,.mv,[.t 4],none⟩,
 ⟨some 219,.call,[.c (.pv none (.func (.func 151))),.t 214,.t 215,.t 216,.t 217,.t 218],none⟩]
def c151k73 : ACode := (.cond (.t 213) (.region true c151r72 []) .skip)
def c151 : ACode := (.seq (.seq (.region true c151r0 [0,1,2,3,4,28]) c151k21) (.seq (.seq (.region true c151r22 [0,1,2,3,4,80]) c151k43) (.seq (.region true c151r44 [0,1,2,3,4,18]) (.seq (.region true c151r45 [0,1,2,3,4,18,19]) (.seq (.region true c151r46 [0,1,2,3,4,18,19]) (.seq (.seq (.region true c151r47 [0,1,2,3,4,18,19,140]) c151k52) (.seq (.region true c151r53 [0,1,2,3,4,18,19,20,21,22]) (.seq c151k63 (.seq (.region true c151r64 [0,1,2,3,4,18,20,24]) (.seq (.seq (.region true c151r65 [0,1,2,3,4,18,20,24,185]) c151k67) (.seq (.seq (.region true c151r68 [0,1,3,4,18,20,24,199]) c151k70) (.seq (.region true c151r71 [0,3,4,18,24,213]) c151k73))))))))))))
def g151 : AFn := ⟨5,[],c151,true,[],[],none⟩
theorem tr151 : trFn Tryz.prog true 151 Tryz.f151 = some g151 := by kernel_rfl
def c153r0 : List AOper := [
 ⟨some 5,(.box (some 4)),[.t 2],none⟩]
def c153r1 : List AOper := [
 ⟨some 8,.mv,[.t 0],none⟩,
 ⟨some 9,.nilcheck,[.t 8],none⟩,
 ⟨some 10,(.faddr 0),[.t 9],none⟩,
 ⟨some 11,(.load none),[.t 10],none⟩,
 ⟨some 12,.mv,[.t 1],none⟩,
 ⟨some 13,(.load (some 4)),[.t 5],none⟩,
 ⟨some 14,(.mkmap none),[],none⟩,
 ⟨some 15,.call,[.c (.pv none (.func (.func 157))),.t 11,.t 12,.t 13,.t 14],none⟩]
def c153r2 : List AOper := [
 ⟨some 16,(.build [(none,(.pv none (.int .i64 0)))] [0]),[.c (.pv none (.int .i64 9))],none⟩,
 ⟨some 17,(.mkiface 100),[.t 16],none⟩,
 ⟨none,.panic,[.t 17],none⟩]
def c153k3 : ACode := (.cond (.t 15) (.region true c153r2 [0,1,5]) .skip)
def c153r4 : List AOper := [
 ⟨some 19,.mv,[.t 0],none⟩,
 ⟨some 20,.nilcheck,[.t 19],none⟩,
 ⟨some 21,(.faddr 0),[.t 20],none⟩,
 ⟨some 22,(.load none),[.t 21],none⟩,
 ⟨some 23,.mv,[.t 1],none⟩,
 ⟨some 24,.call,[.c (.pv none (.func (.func 154))),.t 22,.t 23],none⟩,
 ⟨some 18,.mv,[.t 24],none⟩,
 ⟨some 25,(.extract 0),[.t 18],none⟩,
 ⟨some 26,(.extract 1),[.t 18],none⟩,
 ⟨some 6,.mv,[.t 25],none⟩,
 ⟨some 7,.mv,[.t 26],none⟩]
def c153r5 : List AOper := [
 ⟨some 27,.mv,[.t 0],none⟩,
 ⟨some 28,.mv,[.t 0],none⟩,
 ⟨some 29,.nilcheck,[.t 28],none⟩,
 ⟨some 30,(.faddr 0),[.t 29],none⟩,
 ⟨some 31,(.load none),[.t 30],none⟩,
 ⟨some 32,.mv,[.t 6],none⟩,
 ⟨some 33,.mv,[.t 1],none⟩,
 ⟨some 34,(.load (some 4)),[.t 5],none⟩,
 ⟨some 35,(.calln 1),[.t 30,.c (.pv none (.func (.func 38))),.t 34],none⟩,
 ⟨some 36,(.build [(none,(.pv none (.int .i64 0))),((some 4),(.agg [(none,(.pv none (.int .i64 0))),(none,(.pv none (.int .i64 0))),(none,(.pv none (.str []))),(none,(.tsl (some 4) []))]))] [0,1]),[.t 33,.t 35],none⟩,
 ⟨some 37,(.bslicen (some 5) 1),[.t 30,.t 36],none⟩,
 ⟨some 38,.call,[.c (.pv none (.func (.func 158))),.t 31,.t 32,.t 37],none⟩,
 ⟨some 39,.nilcheck,[.t 27],none⟩,
 ⟨some 40,(.faddr 0),[.t 39],none⟩,
 ⟨none,(.store none),[.t 40,.t 38],none⟩]
def c153 : ACode := (.seq (.region true c153r0 [0,1,5]) (.seq (.seq (.region true c153r1 [0,1,5,15]) c153k3) (.seq (.region true c153r4 [0,1,5,6]) (.region false c153r5 []))))
def g153 : AFn := ⟨3,[],c153,true,[],[],none⟩
theorem tr153 : trFn Tryz.prog true 153 Tryz.f153 = some g153 := by kernel_rfl
def c154r0 : List AOper := [
 ⟨some 4,.mv,[.c (.pv none (.int .i64 0))],none⟩,
 ⟨some 5,.mv,[.c (.pv none (.bool false))],none⟩]
def c154r1 : List AOper := [
 ⟨some 6,.mv,[.t 0],none⟩,
 ⟨some 7,.mv,[.t 1],none⟩,
 ⟨some 8,.call,[.c (.pv none (.func (.func 159))),.t 6,.t 7,.c (.pv none (.func (.func 160)))],none⟩,
 ⟨some 9,(.extract 0),[.t 8],none⟩,
 ⟨some 10,(.extract 1),[.t 8],none⟩,
 ⟨some 4,.mv,[.t 9],none⟩,
 ⟨some 5,.mv,[.t 10],none⟩]
def c154 : ACode := (.seq (.region true c154r0 [0,1]) (.seq (.region true c154r1 [4,5]) .ret))
def g154 : AFn := ⟨2,[(4,none),(5,none)],c154,false,[],[],none⟩
theorem tr154 : trFn Tryz.prog false 154 Tryz.f154 = some g154 := by kernel_rfl
def c156r0 : List AOper := [
 ⟨some 12,.mv,[.t 2],none⟩,
 ⟨some 13,.mv,[.t 1],none⟩,
 ⟨some 14,(.bin .sub),[.t 12,.t 13],none⟩,
 ⟨some 10,.mv,[.t 14],none⟩]
def c156r1 : List AOper := [
 ⟨some 15,.mv,[.t 3],none⟩,
 ⟨some 16,.mv,[.t 2],none⟩,
 ⟨some 17,(.bin .sub),[.t 15,.t 16],none⟩,
 ⟨some 11,.mv,[.t 17],none⟩]
def c156r2 : List AOper := [
 ⟨some 18,.mv,[.t 10],none⟩,
 ⟨some 19,.mv,[.t 11],none⟩,
 ⟨some 20,(.bin .neq),[.t 18,.t 19],none⟩]
def c156k3 : ACode := (.cond (.t 20) .skip (.exit 0))
def c156r4 : List AOper := [
 ⟨some 21,.mv,[.t 10],none⟩,
 ⟨some 22,.mv,[.t 11],none⟩,
 ⟨some 23,(.bin .gtr),[.t 21,.t 22],none⟩]
def c156r5 : List AOper := [
 ⟨some 24,.mv,[.t 0],none⟩,
 ⟨some 25,.mv,[.t 2],none⟩,
 ⟨some 26,.mv,[.t 10],none⟩,
 ⟨some 27,(.bin .sub),[.t 25,.t 26],none⟩,
 ⟨some 28,.mv,[.t 2],none⟩,
 ⟨some 29,.mv,[.t 11],none⟩,
 ⟨some 30,.mv,[.t 4],none⟩,
 ⟨some 31,.call,[.c (.pv none (.func (.func 161))),.t 24,.t 27,.t 28,.t 29,.t 30],none⟩]
def c156r6 : List AOper := [
 ⟨some 32,.mv,[.t 10],none⟩,
 ⟨some 33,.mv,[.t 11],none⟩,
 ⟨some 34,(.bin .sub),[.t 32,.t 33],none⟩,
 ⟨some 10,.mv,[.t 34],none⟩]
def c156r7 : List AOper := [
 ⟨some 35,.mv,[.t 0],none⟩,
 ⟨some 36,.mv,[.t 2],none⟩,
 ⟨some 37,.mv,[.t 10],none⟩,
 ⟨some 38,(.bin .sub),[.t 36,.t 37],none⟩,
 ⟨some 39,.mv,[.t 2],none⟩,
 ⟨some 40,.mv,[.t 11],none⟩,
 ⟨some 41,(.bin .add),[.t 39,.t 40],none⟩,
 ⟨some 42,.mv,[.t 10],none⟩,
 ⟨some 43,(.bin .sub),[.t 41,.t 42],none⟩,
 ⟨some 44,.mv,[.t 10],none⟩,
 ⟨some 45,.mv,[.t 4],none⟩,
 ⟨some 46,.call,[.c (.pv none (.func (.func 161))),.t 35,.t 38,.t 43,.t 44,.t 45],none⟩]
def c156r8 : List AOper := [
 ⟨some 47,.mv,[.t 11],none⟩,
 ⟨some 48,.mv,[.t 10],none⟩,
 ⟨some 49,(.bin .sub),[.t 47,.t 48],none⟩,
 ⟨some 11,.mv,[.t 49],none⟩]
def c156k9 : ACode := (.cond (.t 23) (.seq (.region true c156r5 [0,2,4,10,11]) (.region true c156r6 [0,2,4,10,11])) (.seq (.region true c156r7 [0,2,4,10,11]) (.region true c156r8 [0,2,4,10,11])))
def c156k10 : ACode := (.block 1 (.seq (.region true c156r4 [0,2,4,10,11,23]) c156k9))
def c156b11 : ACode := (.seq (.seq (.region true c156r2 [0,2,4,10,11,20]) c156k3) c156k10)
def c156k12 : ACode := (.block 0 (.loop [0,2,4,10,11] c156b11))
def c156r13 : List AOper := [
 ⟨some 50,.mv,[.t 0],none⟩,
 ⟨some 51,.mv,[.t 2],none⟩,
 ⟨some 52,.mv,[.t 10],none⟩,
 ⟨some 53,(.bin .sub),[.t 51,.t 52],none⟩,
 ⟨some 54,.mv,[.t 2],none⟩,
 ⟨some 55,.mv,[.t 10],none⟩,
 ⟨some 56,.mv,[.t 4],none⟩,
 ⟨some 57,.call,[.c (.pv none (.func (.func 161))),.t 50,.t 53,.t 54,.t 55,.t 56],none⟩]
def c156 : ACode := (.seq (.region true c156r0 [0,2,3,4,10]) (.seq (.region true c156r1 [0,2,4,10,11]) (.seq c156k12 (.region true c156r13 []))))
def g156 : AFn := ⟨5,[],c156,true,[],[],none⟩
theorem tr156 : trFn Tryz.prog true 156 Tryz.f156 = some g156 := by kernel_rfl
def c157r0 : List AOper := [
 ⟨some 6,(.box (some 4)),[.t 2],none⟩,
 ⟨some 8,.mv,[.c (.pv none (.bool false))],none⟩]
def c157r1 : List AOper := [
 ⟨some 13,(.faddr 0),[.t 6],none⟩,
 ⟨some 14,(.load none),[.t 13],none⟩,
 ⟨some 15,(.bin .eql),[.t 14,.c (.pv none (.int .i64 0))],none⟩]
def c157r2 : List AOper := [
 ⟨some 17,.mv,[.t 0],none⟩,
 ⟨some 18,(.load (some 4)),[.t 6],none⟩,
 ⟨some 19,.call,[.c (.pv none (.func (.func 145))),.t 17,.t 18],none⟩,
 ⟨some 16,.mv,[.t 19],none⟩,
 ⟨some 20,(.extract 0),[.t 16],none⟩,
 ⟨some 21,(.extract 1),[.t 16],none⟩,
 ⟨some 9,(.alloc (some 4) (.agg [(none,(.pv none (.int .i64 0))),(none,(.pv none (.int .i64 0))),(none,(.pv none (.str []))),(none,(.tsl (some 4) []))])),[],none⟩,
 ⟨none,(.store (some 4)),[.t 9,.t 20],none⟩,
 ⟨some 10,.mv,[.t 21],none⟩]
def c157r3 : List AOper := [
 ⟨some 22,.mv,[.t 10],none⟩,
 ⟨some 23,.not,[.t 22],none⟩]
def c157r4 : List AOper := [
 ⟨some 24,(.faddr 1),[.t 6],none⟩,
 ⟨some 25,(.load none),[.t 24],none⟩,
 ⟨some 26,.mv,[.t 1],none⟩,
 ⟨some 27,(.bin .eql),[.t 25,.t 26],none⟩,
 ⟨some 8,.mv,[.t 27],none⟩]
def c157k5 : ACode := (.cond (.t 23) (.seq (.region true c157r4 [8]) .ret) .skip)
def c157r6 : List AOper := [
 ⟨some 28,.mv,[.t 3],none⟩,
 ⟨some 29,(.faddr 1),[.t 6],none⟩,
 ⟨some 30,(.load none),[.t 29],none⟩,
 ⟨some 31,(.lookup false none (.pv none (.int .i64 0)) false),[.t 28,.t 30],none⟩,
 ⟨some 32,(.bin .add),[.t 31,.c (.pv none (.int .i64 1))],none⟩,
 ⟨none,(.mapset false none),[.t 28,.t 30,.t 32],none⟩]
def c157r7 : List AOper := [
 ⟨some 33,.mv,[.t 3],none⟩,
 ⟨some 34,(.faddr 1),[.t 6],none⟩,
 ⟨some 35,(.load none),[.t 34],none⟩,
 ⟨some 36,(.lookup false none (.pv none (.int .i64 0)) false),[.t 33,.t 35],none⟩,
 ⟨some 37,(.bin .eql),[.t 36,.c (.pv none (.int .i64 1))],none⟩,
 ⟨some 38,.mv,[.t 37],none⟩,
 ⟨some 39,.mv,[.t 0],some (38,true)⟩,
 ⟨some 40,.mv,[.t 1],some (38,true)⟩,
 ⟨some 41,(.load (some 4)),[.t 9],some (38,true)⟩,
 ⟨some 42,.mv,[.t 3],some (38,true)⟩,
 ⟨some 43,.call,[.c (.pv none (.func (.func 157))),.t 39,.t 40,.t 41,.t 42],some (38,true)⟩,
 ⟨some 44,.pick,[.t 38,.t 43,.c (.pv none (.bool false))],none⟩,
 ⟨some 8,.mv,[.t 44],none⟩]
def c157k8 : ACode := (.cond (.t 15) (.seq (.region true c157r2 [0,1,3,6,9,10]) (.seq (.seq (.region true c157r3 [0,1,3,6,9,23]) c157k5) (.seq (.region true c157r6 [0,1,3,6,9]) (.seq (.region true c157r7 [8]) .ret)))) .skip)
def c157r9 : List AOper := [
 ⟨some 45,(.faddr 3),[.t 6],none⟩,
 ⟨some 46,(.load none),[.t 45],none⟩,
 ⟨some 47,.len,[.t 46],none⟩,
 ⟨some 48,.mv,[.c (.pv none (.int .i64 0))],none⟩]
def c157r10 : List AOper := [
 ⟨some 49,(.bin .lss),[.t 48,.t 47],none⟩]
def c157k11 : ACode := (.cond (.t 49) .skip (.exit 0))
def c157r12 : List AOper := [
 ⟨some 50,(.iaddr (some 4)),[.t 46,.t 48],none⟩,
 ⟨some 51,(.load (some 4)),[.t 50],none⟩,
 ⟨some 12,(.alloc (some 4) (.agg [(none,(.pv none (.int .i64 0))),(none,(.pv none (.int .i64 0))),(none,(.pv none (.str []))),(none,(.tsl (some 4) []))])),[],none⟩,
 ⟨none,(.store (some 4)),[.t 12,.t 51],none⟩]
def c157r13 : List AOper := [
 ⟨some 52,.mv,[.t 0],none⟩,
 ⟨some 53,.mv,[.t 1],none⟩,
 ⟨some 54,(.load (some 4)),[.t 12],none⟩,
 ⟨some 55,.mv,[.t 3],none⟩,
 ⟨some 56,.call,[.c (.pv none (.func (.func 157))),.t 52,.t 53,.t 54,.t 55],none⟩]
def c157r14 : List AOper := [
 ⟨some 8,.mv,[.c (.pv none (.bool true))],none⟩]
def c157k15 : ACode := (.cond (.t 56) (.seq (.region true c157r14 [8]) .ret) .skip)
def c157k16 : ACode := (.block 1 (.seq (.region true c157r12 [0,1,3,12,46,47,48]) (.seq (.region true c157r13 [0,1,3,46,47,48,56]) c157k15)))
def c157r17 : List AOper := [
 ⟨some 57,(.bin .add),[.t 48,.c (.pv none (.int .i64 1))],none⟩,
 ⟨some 48,.mv,[.t 57],none⟩]
def c157b18 : ACode := (.seq (.region true c157r10 [0,1,3,46,47,48,49]) (.seq c157k11 (.seq c157k16 (.region true c157r17 [0,1,3,46,47,48]))))
def c157k19 : ACode := (.block 0 (.loop [0,1,3,46,47,48] c157b18))
def c157r20 : List AOper := [
 ⟨some 8,.mv,[.c (.pv none (.bool false))],none⟩]
def c157 : ACode := (.seq (.region true c157r0 [0,1,3,6]) (.seq (.seq (.region true c157r1 [0,1,3,6,15]) c157k8) (.seq (.seq (.region true c157r9 [0,1,3,46,47,48]) c157k19) (.seq (.region true c157r20 [8]) .ret))))
def g157 : AFn := ⟨4,[(8,none)],c157,true,[],[],none⟩
theorem tr157 : trFn Tryz.prog true 157 Tryz.f157 = some g157 := by kernel_rfl
def c159r0 : List AOper := [
 ⟨some 6,.mv,[.c (.pv none (.int .i64 0))],none⟩,
 ⟨some 7,.mv,[.c (.pv none (.bool false))],none⟩]
def c159r1 : List AOper := [
 ⟨some 12,.mv,[.t 0],none⟩,
 ⟨some 13,.len,[.t 12],none⟩,
 ⟨some 8,.mv,[.t 13],none⟩]
def c159r2 : List AOper := [
 ⟨some 14,.mv,[.t 8],none⟩,
 ⟨some 9,.mv,[.c (.pv none (.int .i64 0))],none⟩,
 ⟨some 10,.mv,[.t 14],none⟩]
def c159r3 : List AOper := [
 ⟨some 15,.mv,[.t 9],none⟩,
 ⟨some 16,.mv,[.t 10],none⟩,
 ⟨some 17,(.bin .lss),[.t 15,.t 16],none⟩]
def c159k4 : ACode := (.cond (.t 17) .skip (.exit 0))
def c159r5 : List AOper := [
 ⟨some 18,.mv,[.t 9],none⟩,
 ⟨some 19,.mv,[.t 10],none⟩,
 ⟨some 20,(.bin .add),[.t 18,.t 19],none⟩,
 ⟨some 21,(.conv .u64),[.t 20],none⟩,
 ⟨some 22,(.bin .shr),[.t 21,.c (.pv none (.int .u64 1))],none⟩,
 ⟨some 23,(.conv .i64),[.t 22],none⟩,
 ⟨some 11,.mv,[.t 23],none⟩]
def c159r6 : List AOper := [
 ⟨some 24,.mv,[.t 2],none⟩,
 ⟨some 25,.mv,[.t 0],none⟩,
 ⟨some 26,.mv,[.t 11],none⟩,
 ⟨some 27,(.iaddr (some 5)),[.t 25,.t 26],none⟩,
 ⟨some 28,(.load (some 5)),[.t 27],none⟩,
 ⟨some 29,.mv,[.t 1],none⟩,
 ⟨some 30,.call,[.t 24,.t 28,.t 29],none⟩,
 ⟨some 31,(.bin .lss),[.t 30,.c (.pv none (.int .i64 0))],none⟩]
def c159r7 : List AOper := [
 ⟨some 32,.mv,[.t 11],none⟩,
 ⟨some 33,(.bin .add),[.t 32,.c (.pv none (.int .i64 1))],none⟩,
 ⟨some 9,.mv,[.t 33],none⟩]
def c159r8 : List AOper := [
 ⟨some 34,.mv,[.t 11],none⟩,
 ⟨some 10,.mv,[.t 34],none⟩]
def c159k9 : ACode := (.cond (.t 31) (.region true c159r7 [0,1,2,8,9,10]) (.region true c159r8 [0,1,2,8,9,10]))
def c159k10 : ACode := (.block 1 (.seq (.region true c159r5 [0,1,2,8,9,10,11]) (.seq (.region true c159r6 [0,1,2,8,9,10,11,31]) c159k9)))
def c159b11 : ACode := (.seq (.seq (.region true c159r3 [0,1,2,8,9,10,17]) c159k4) c159k10)
def c159k12 : ACode := (.block 0 (.loop [0,1,2,8,9,10] c159b11))
def c159r13 : List AOper := [
 ⟨some 35,.mv,[.t 9],none⟩,
 ⟨some 36,.mv,[.t 9],none⟩,
 ⟨some 37,.mv,[.t 8],none⟩,
 ⟨some 38,(.bin .lss),[.t 36,.t 37],none⟩,
 ⟨some 39,.mv,[.t 38],none⟩,
 ⟨some 40,.mv,[.t 2],some (39,true)⟩,
 ⟨some 41,.mv,[.t 0],some (39,true)⟩,
 ⟨some 42,.mv,[.t 9],some (39,true)⟩,
 ⟨some 43,(.iaddr (some 5)),[.t 41,.t 42],some (39,true)⟩,
 ⟨some 44,(.load (some 5)),[.t 43],some (39,true)⟩,
 ⟨some 45,.mv,[.t 1],some (39,true)⟩,
 ⟨some 46,.call,[.t 40,.t 44,.t 45],some (39,true)⟩,
 ⟨some 47,(.bin .eql),[.t 46,.c (.pv none (.int .i64 0))],some (39,true)⟩,
 ⟨some 48,.pick,[.t 39,.t 47,.c (.pv none (.bool false))],none⟩,
 ⟨some 6,.mv,[.t 35],none⟩,
 ⟨some 7,.mv,[.t 48],none⟩]
def c159 : ACode := (.seq (.region true c159r0 [0,1,2]) (.seq (.region true c159r1 [0,1,2,8]) (.seq (.region true c159r2 [0,1,2,8,9,10]) (.seq c159k12 (.seq (.region true c159r13 [6,7]) .ret)))))
def g159 : AFn := ⟨3,[(6,none),(7,none)],c159,false,[],[],none⟩
theorem tr159 : trFn Tryz.prog false 159 Tryz.f159 = some g159 := by kernel_rfl
def c160r0 : List AOper := [
 ⟨some 2,(.box (some 5)),[.t 0],none⟩,
 ⟨some 4,.mv,[.c (.pv none (.int .i64 0))],none⟩]
def c160r1 : List AOper := [
 ⟨some 5,(.faddr 0),[.t 2],none⟩,
 ⟨some 6,(.load none),[.t 5],none⟩,
 ⟨some 7,.mv,[.t 1],none⟩,
 ⟨some 8,.call,[.c (.pv none (.func (.func 117))),.t 6,.t 7],none⟩,
 ⟨some 4,.mv,[.t 8],none⟩]
def c160 : ACode := (.seq (.region true c160r0 [1,2]) (.seq (.region true c160r1 [4]) .ret))
def g160 : AFn := ⟨2,[(4,none)],c160,false,[],[],none⟩
theorem tr160 : trFn Tryz.prog false 160 Tryz.f160 = some g160 := by kernel_rfl
def c161r0 : List AOper := [
 ⟨some 10,.mv,[.c (.pv none (.int .i64 0))],none⟩]
def c161r1 : List AOper := [
 ⟨some 11,.mv,[.t 10],none⟩,
 ⟨some 12,.mv,[.t 3],none⟩,
 ⟨some 13,(.bin .lss),[.t 11,.t 12],none⟩]
def c161k2 : ACode := (.cond (.t 13) .skip (.exit 0))
def c161r3 : List AOper := [
 ⟨some 16,.mv,[.t 0],none⟩,
 ⟨some 17,.mv,[.t 1],none⟩,
 ⟨some 18,.mv,[.t 10],none⟩,
 ⟨some 19,(.bin .add),[.t 17,.t 18],none⟩,
 ⟨some 20,.mv,[.t 0],none⟩,
 ⟨some 21,.mv,[.t 2],none⟩,
 ⟨some 22,.mv,[.t 10],none⟩,
 ⟨some 23,(.bin .add),[.t 21,.t 22],none⟩,
 ⟨some 24,.mv,[.t 0],none⟩,
 ⟨some 25,.mv,[.t 2],none⟩,
 ⟨some 26,.mv,[.t 10],none⟩,
 ⟨some 27,(.bin .add),[.t 25,.t 26],none⟩,
 ⟨some 28,(.iaddr (some 4)),[.t 24,.t 27],none⟩,
 ⟨some 29,(.load (some 4)),[.t 28],none⟩,
 ⟨some 30,.mv,[.t 0],none⟩,
 ⟨some 31,.mv,[.t 1],none⟩,
 ⟨some 32,.mv,[.t 10],none⟩,
 ⟨some 33,(.bin .add),[.t 31,.t 32],none⟩,
 ⟨some 34,(.iaddr (some 4)),[.t 30,.t 33],none⟩,
 ⟨some 35,(.load (some 4)),[.t 34],none⟩,
 ⟨some 36,(.iaddr (some 4)),[.t 16,.t 19],none⟩,
 ⟨none,(.store (some 4)),[.t 36,.t 29],none⟩,
 ⟨some 37,(.iaddr (some 4)),[.t 20,.t 23],none⟩,
 ⟨none,(.store (some 4)),[.t 37,.t 35],none⟩]
def c161k4 : ACode := (.block 1 (.region true c161r3 [0,1,2,3,10]))
def c161r5 : List AOper := [
 ⟨some 14,.mv,[.t 10],none⟩,
 ⟨some 15,(.bin .add),[.t 14,.c (.pv none (.int .i64 1))],none⟩,
 ⟨some 10,.mv,[.t 15],none⟩]
def c161b6 : ACode := (.seq (.seq (.region true c161r1 [0,1,2,3,10,13]) c161k2) (.seq c161k4 (.region true c161r5 [0,1,2,3,10])))
def c161k7 : ACode := (.block 0 (.loop [0,1,2,3,10] c161b6))
def c161 : ACode := (.seq (.region true c161r0 [0,1,2,3,10]) c161k7)
def g161 : AFn := ⟨5,[],c161,true,[],[],none⟩
theorem tr161 : trFn Tryz.prog true 161 Tryz.f161 = some g161 := by kernel_rfl
def tab : List (Nat × AFn) := [(5,g5),(6,g6),(8,g8),(9,g9),(10,g10),(12,g12),(13,g13),(15,g15),(16,g16),(18,g18),(19,g19),(20,g20),(21,g21),(22,g22),(23,g23),(25,g25),(26,g26),(27,g27),(28,g28),(29,g29),(30,g30),(31,g31),(32,g32),(33,g33),(34,g34),(35,g35),(36,g36),(37,g37),(38,g38),(41,g41),(42,g42),(43,g43),(45,g45),(46,g46),(47,g47),(48,g48),(49,g49),(50,g50),(51,g51),(52,g52),(55,g55),(58,g58),(59,g59),(60,g60),(61,g61),(62,g62),(63,g63),(64,g64),(65,g65),(66,g66),(67,g67),(68,g68),(69,g69),(70,g70),(71,g71),(73,g73),(74,g74),(75,g75),(76,g76),(77,g77),(78,g78),(79,g79),(80,g80),(81,g81),(82,g82),(83,g83),(84,g84),(85,g85),(86,g86),(87,g87),(88,g88),(89,g89),(93,g93),(94,g94),(96,g96),(97,g97),(98,g98),(99,g99),(100,g100),(101,g101),(103,g103),(105,g105),(106,g106),(107,g107),(108,g108),(109,g109),(110,g110),(111,g111),(112,g112),(113,g113),(114,g114),(115,g115),(116,g116),(117,g117),(118,g118),(119,g119),(120,g120),(121,g121),(122,g122),(123,g123),(124,g124),(125,g125),(129,g129),(130,g130),(132,g132),(133,g133),(134,g134),(135,g135),(136,g136),(137,g137),(138,g138),(139,g139),(140,g140),(141,g141),(142,g142),(143,g143),(144,g144),(145,g145),(150,g150),(151,g151),(153,g153),(154,g154),(156,g156),(157,g157),(159,g159),(160,g160),(161,g161)]
theorem tab_ok : TabOk Tryz.prog tab :=
 (tabOk_cons Tryz.func5 tr5
 (tabOk_cons Tryz.func6 tr6
 (tabOk_cons Tryz.func8 tr8
 (tabOk_cons Tryz.func9 tr9
 (tabOk_cons Tryz.func10 tr10
 (tabOk_cons Tryz.func12 tr12
 (tabOk_cons Tryz.func13 tr13
 (tabOk_cons Tryz.func15 tr15
 (tabOk_cons Tryz.func16 tr16
 (tabOk_cons Tryz.func18 tr18
 (tabOk_cons Tryz.func19 tr19
 (tabOk_cons Tryz.func20 tr20
 (tabOk_cons Tryz.func21 tr21
 (tabOk_cons Tryz.func22 tr22
 (tabOk_cons Tryz.func23 tr23
 (tabOk_cons Tryz.func25 tr25
 (tabOk_cons Tryz.func26 tr26
 (tabOk_cons Tryz.func27 tr27
 (tabOk_cons Tryz.func28 tr28
 (tabOk_cons Tryz.func29 tr29
 (tabOk_cons Tryz.func30 tr30
 (tabOk_cons Tryz.func31 tr31
 (tabOk_cons Tryz.func32 tr32
 (tabOk_cons Tryz.func33 tr33
 (tabOk_cons Tryz.func34 tr34
 (tabOk_cons Tryz.func35 tr35
 (tabOk_cons Tryz.func36 tr36
 (tabOk_cons Tryz.func37 tr37
 (tabOk_cons Tryz.func38 tr38
 (tabOk_cons Tryz.func41 tr41
 (tabOk_cons Tryz.func42 tr42
 (tabOk_cons Tryz.func43 tr43
 (tabOk_cons Tryz.func45 tr45
 (tabOk_cons Tryz.func46 tr46
 (tabOk_cons Tryz.func47 tr47
 (tabOk_cons Tryz.func48 tr48
 (tabOk_cons Tryz.func49 tr49
 (tabOk_cons Tryz.func50 tr50
 (tabOk_cons Tryz.func51 tr51
 (tabOk_cons Tryz.func52 tr52
 (tabOk_cons Tryz.func55 tr55
 (tabOk_cons Tryz.func58 tr58
 (tabOk_cons Tryz.func59 tr59
 (tabOk_cons Tryz.func60 tr60
 (tabOk_cons Tryz.func61 tr61
 (tabOk_cons Tryz.func62 tr62
 (tabOk_cons Tryz.func63 tr63
 (tabOk_cons Tryz.func64 tr64
 (tabOk_cons Tryz.func65 tr65
 (tabOk_cons Tryz.func66 tr66
 (tabOk_cons Tryz.func67 tr67
 (tabOk_cons Tryz.func68 tr68
 (tabOk_cons Tryz.func69 tr69
 (tabOk_cons Tryz.func70 tr70
 (tabOk_cons Tryz.func71 tr71
 (tabOk_cons Tryz.func73 tr73
 (tabOk_cons Tryz.func74 tr74
 (tabOk_cons Tryz.func75 tr75
 (tabOk_cons Tryz.func76 tr76
 (tabOk_cons Tryz.func77 tr77
 (tabOk_cons Tryz.func78 tr78
 (tabOk_cons Tryz.func79 tr79
 (tabOk_cons Tryz.func80 tr80
 (tabOk_cons Tryz.func81 tr81
 (tabOk_cons Tryz.func82 tr82
 (tabOk_cons Tryz.func83 tr83
 (tabOk_cons Tryz.func84 tr84
 (tabOk_cons Tryz.func85 tr85
 (tabOk_cons Tryz.func86 tr86
 (tabOk_cons Tryz.func87 tr87
 (tabOk_cons Tryz.func88 tr88
 (tabOk_cons Tryz.func89 tr89
 (tabOk_cons Tryz.func93 tr93
 (tabOk_cons Tryz.func94 tr94
 (tabOk_cons Tryz.func96 tr96
 (tabOk_cons Tryz.func97 tr97
 (tabOk_cons Tryz.func98 tr98
 (tabOk_cons Tryz.func99 tr99
 (tabOk_cons Tryz.func100 tr100
 (tabOk_cons Tryz.func101 tr101
 (tabOk_cons Tryz.func103 tr103
 (tabOk_cons Tryz.func105 tr105
 (tabOk_cons Tryz.func106 tr106
 (tabOk_cons Tryz.func107 tr107
 (tabOk_cons Tryz.func108 tr108
 (tabOk_cons Tryz.func109 tr109
 (tabOk_cons Tryz.func110 tr110
 (tabOk_cons Tryz.func111 tr111
 (tabOk_cons Tryz.func112 tr112
 (tabOk_cons Tryz.func113 tr113
 (tabOk_cons Tryz.func114 tr114
 (tabOk_cons Tryz.func115 tr115
 (tabOk_cons Tryz.func116 tr116
 (tabOk_cons Tryz.func117 tr117
 (tabOk_cons Tryz.func118 tr118
 (tabOk_cons Tryz.func119 tr119
 (tabOk_cons Tryz.func120 tr120
 (tabOk_cons Tryz.func121 tr121
 (tabOk_cons Tryz.func122 tr122
 (tabOk_cons Tryz.func123 tr123
 (tabOk_cons Tryz.func124 tr124
 (tabOk_cons Tryz.func125 tr125
 (tabOk_cons Tryz.func129 tr129
 (tabOk_cons Tryz.func130 tr130
 (tabOk_cons Tryz.func132 tr132
 (tabOk_cons Tryz.func133 tr133
 (tabOk_cons Tryz.func134 tr134
 (tabOk_cons Tryz.func135 tr135
 (tabOk_cons Tryz.func136 tr136
 (tabOk_cons Tryz.func137 tr137
 (tabOk_cons Tryz.func138 tr138
 (tabOk_cons Tryz.func139 tr139
 (tabOk_cons Tryz.func140 tr140
 (tabOk_cons Tryz.func141 tr141
 (tabOk_cons Tryz.func142 tr142
 (tabOk_cons Tryz.func143 tr143
 (tabOk_cons Tryz.func144 tr144
 (tabOk_cons Tryz.func145 tr145
 (tabOk_cons Tryz.func150 tr150
 (tabOk_cons Tryz.func151 tr151
 (tabOk_cons Tryz.func153 tr153
 (tabOk_cons Tryz.func154 tr154
 (tabOk_cons Tryz.func156 tr156
 (tabOk_cons Tryz.func157 tr157
 (tabOk_cons Tryz.func159 tr159
 (tabOk_cons Tryz.func160 tr160
 (tabOk_cons Tryz.func161 tr161 tabOk_nil)))))))))))))))))))))))))))))))))))))))))))))))))))))))))))))))))))))))))))))))))))))))))))))))))))))))))))))))))))))))))))))))
end Go.Proofs.YtffecaafklpmhaaGreat
