/- The functions as the abstract machine has them, each proved to be what the translation gives. -/
import Derived.Test.YteaehiceghhajaaAm2
import Derived.Test.YteaehiceghhajaaProg
import Derived.KernelRfl
namespace Go.Proofs.Yteaehiceghhajaa
open Go.Am
/- hornbeam/hornbeamlaw04.OrderCompares -/
def c3r0 : List AOper := [
  ⟨some 2, (.box (some 4)), [.t 0], none⟩,
  ⟨some 3, (.box (some 4)), [.t 1], none⟩,
  ⟨some 4, .mv, [.c (.pv none (.bool false))], none⟩]
def c3r1 : List AOper := [
  ⟨some 5, (.load (some 4)), [.t 2], none⟩,
  ⟨some 6, (.load (some 4)), [.t 3], none⟩,
  ⟨some 7, .callp, [.c (.pv none (.func (.func 12))), .t 5, .t 6], none⟩,
  ⟨some 8, (.load (some 4)), [.t 2], none⟩,
  ⟨some 9, (.load (some 4)), [.t 3], none⟩,
  ⟨some 10, .callp, [.c (.pv none (.func (.func 13))), .t 8, .t 9], none⟩,
  ⟨some 11, (.bin .eql), [.t 7, .t 10], none⟩,
  ⟨some 12, .mv, [.t 11], none⟩,
  ⟨some 13, .callp, [.c (.pv none (.func (.func 14)))], some (12, true)⟩,
  ⟨some 14, .pick, [.t 12, .t 13, .c (.pv none (.bool false))], none⟩,
  ⟨some 4, .mv, [.t 14], none⟩]
def c3 : ACode := (.seq (.region true c3r0 [2, 3]) (.seq (.seq (.settle [2, 3]) (.region true c3r1 [4])) .ret))
def g3 : AFn := ⟨2, [(4, none)], c3, false⟩
theorem tr3 : trFn Try.prog false Try.f3 = some g3 := by kernel_rfl
/- hornbeam/hornbeamlaw04.OrderSorts -/
def c4r0 : List AOper := [
  ⟨some 2, .mv, [.c (.pv none (.bool false))], none⟩]
def c4r1 : List AOper := [
  ⟨some 17, .mv, [.t 0], none⟩,
  ⟨some 18, .call, [.c (.pv none (.func (.func 15))), .t 17], none⟩,
  ⟨some 0, .mv, [.t 18], none⟩]
def c4r2 : List AOper := [
  ⟨some 20, .mv, [.t 0], none⟩,
  ⟨some 21, .call, [.c (.pv none (.func (.func 16))), .t 20], none⟩,
  ⟨some 19, .mv, [.t 21], none⟩,
  ⟨some 22, (.extract 0), [.t 19], none⟩,
  ⟨some 23, (.extract 1), [.t 19], none⟩,
  ⟨some 3, .mv, [.t 22], none⟩,
  ⟨some 4, .mv, [.t 23], none⟩]
def c4r3 : List AOper := [
  ⟨some 25, .mv, [.t 0], none⟩,
  ⟨some 26, .call, [.c (.pv none (.func (.func 17))), .t 25], none⟩,
  ⟨some 24, .mv, [.t 26], none⟩,
  ⟨some 27, (.extract 0), [.t 24], none⟩,
  ⟨some 28, (.extract 1), [.t 24], none⟩,
  ⟨some 5, .mv, [.t 27], none⟩,
  ⟨some 6, .mv, [.t 28], none⟩]
def c4r4 : List AOper := [
  ⟨some 30, .mv, [.t 0], none⟩,
  ⟨some 31, .call, [.c (.pv none (.func (.func 18))), .t 30], none⟩,
  ⟨some 29, .mv, [.t 31], none⟩,
  ⟨some 32, (.extract 0), [.t 29], none⟩,
  ⟨some 33, (.extract 1), [.t 29], none⟩,
  ⟨some 7, .mv, [.t 32], none⟩,
  ⟨some 8, .mv, [.t 33], none⟩]
def c4r5 : List AOper := [
  ⟨some 35, .mv, [.t 0], none⟩,
  ⟨some 36, .call, [.c (.pv none (.func (.func 19))), .t 35], none⟩,
  ⟨some 34, .mv, [.t 36], none⟩,
  ⟨some 37, (.extract 0), [.t 34], none⟩,
  ⟨some 38, (.extract 1), [.t 34], none⟩,
  ⟨some 9, .mv, [.t 37], none⟩,
  ⟨some 10, .mv, [.t 38], none⟩]
def c4r6 : List AOper := [
  ⟨some 40, .mv, [.t 0], none⟩,
  ⟨some 41, .call, [.c (.pv none (.func (.func 20))), .t 40], none⟩,
  ⟨some 39, .mv, [.t 41], none⟩,
  ⟨some 42, (.extract 0), [.t 39], none⟩,
  ⟨some 43, (.extract 1), [.t 39], none⟩,
  ⟨some 11, .mv, [.t 42], none⟩,
  ⟨some 12, .mv, [.t 43], none⟩]
def c4r7 : List AOper := [
  ⟨some 45, .mv, [.t 0], none⟩,
  ⟨some 46, .call, [.c (.pv none (.func (.func 21))), .t 45], none⟩,
  ⟨some 44, .mv, [.t 46], none⟩,
  ⟨some 47, (.extract 0), [.t 44], none⟩,
  ⟨some 48, (.extract 1), [.t 44], none⟩,
  ⟨some 13, .mv, [.t 47], none⟩,
  ⟨some 14, .mv, [.t 48], none⟩]
def c4r8 : List AOper := [
  ⟨some 49, .mv, [.t 4], none⟩,
  ⟨some 50, .mv, [.t 10], none⟩,
  ⟨some 51, (.bin .neq), [.t 49, .t 50], none⟩,
  ⟨some 52, .mv, [.t 51], none⟩,
  ⟨some 53, .mv, [.t 6], some (52, false)⟩,
  ⟨some 54, .mv, [.t 12], some (52, false)⟩,
  ⟨some 55, (.bin .neq), [.t 53, .t 54], some (52, false)⟩,
  ⟨some 56, .pick, [.t 52, .c (.pv none (.bool true)), .t 55], none⟩,
  ⟨some 57, .mv, [.t 56], none⟩,
  ⟨some 58, .mv, [.t 8], some (57, false)⟩,
  ⟨some 59, .mv, [.t 14], some (57, false)⟩,
  ⟨some 60, (.bin .neq), [.t 58, .t 59], some (57, false)⟩,
  ⟨some 61, .pick, [.t 57, .c (.pv none (.bool true)), .t 60], none⟩,
  ⟨some 62, .mv, [.t 61], none⟩,
  ⟨some 63, .mv, [.t 3], some (62, false)⟩,
  ⟨some 64, .mv, [.t 9], some (62, false)⟩,
  ⟨some 65, .call, [.c (.pv none (.func (.func 22))), .t 63, .t 64], some (62, false)⟩,
  ⟨some 66, .not, [.t 65], some (62, false)⟩,
  ⟨some 67, .pick, [.t 62, .c (.pv none (.bool true)), .t 66], none⟩,
  ⟨some 68, .mv, [.t 67], none⟩,
  ⟨some 69, .mv, [.t 5], some (68, false)⟩,
  ⟨some 70, .mv, [.t 11], some (68, false)⟩,
  ⟨some 71, .call, [.c (.pv none (.func (.func 22))), .t 69, .t 70], some (68, false)⟩,
  ⟨some 72, .not, [.t 71], some (68, false)⟩,
  ⟨some 73, .pick, [.t 68, .c (.pv none (.bool true)), .t 72], none⟩,
  ⟨some 74, .mv, [.t 73], none⟩,
  ⟨some 75, .mv, [.t 7], some (74, false)⟩,
  ⟨some 76, .mv, [.t 13], some (74, false)⟩,
  ⟨some 77, .call, [.c (.pv none (.func (.func 22))), .t 75, .t 76], some (74, false)⟩,
  ⟨some 78, .not, [.t 77], some (74, false)⟩,
  ⟨some 79, .pick, [.t 74, .c (.pv none (.bool true)), .t 78], none⟩]
def c4r9 : List AOper := [
  ⟨some 2, .mv, [.c (.pv none (.bool false))], none⟩]
def c4k10 : ACode := (.cond (.t 79) (.seq (.region true c4r9 [2]) .ret) .skip)
def c4r11 : List AOper := [
  ⟨some 80, .mv, [.t 0], none⟩,
  ⟨some 81, .call, [.c (.pv none (.func (.func 23))), .t 80], none⟩,
  ⟨some 82, .not, [.t 81], none⟩]
def c4r12 : List AOper := [
  ⟨some 83, .call, [.c (.pv none (.func (.func 14)))], none⟩,
  ⟨some 2, .mv, [.t 83], none⟩]
def c4k13 : ACode := (.cond (.t 82) (.seq (.region true c4r12 [2]) .ret) .skip)
def c4r14 : List AOper := [
  ⟨some 15, (.nilsl (some 4)), [], none⟩]
def c4r15 : List AOper := [
  ⟨some 16, .mv, [.c (.pv none (.int .i64 (0)))], none⟩]
def c4r16 : List AOper := [
  ⟨some 84, .mv, [.t 16], none⟩,
  ⟨some 85, .mv, [.t 0], none⟩,
  ⟨some 86, .len, [.t 85], none⟩,
  ⟨some 87, (.bin .lss), [.t 84, .t 86], none⟩]
def c4k17 : ACode := (.cond (.t 87) .skip (.exit 0))
def c4r18 : List AOper := [
  ⟨some 90, .mv, [.t 15], none⟩,
  ⟨some 91, .mv, [.t 0], none⟩,
  ⟨some 92, .mv, [.t 16], none⟩,
  ⟨some 93, (.iaddr (some 4)), [.t 91, .t 92], none⟩,
  ⟨some 94, (.load (some 4)), [.t 93], none⟩,
  ⟨some 95, .call, [.c (.pv none (.func (.func 24))), .t 94], none⟩,
  ⟨some 96, (.bslice (some 4)), [.t 95], none⟩,
  ⟨some 97, (.append (some 4)), [.t 90, .t 96], none⟩,
  ⟨some 15, .mv, [.t 97], none⟩]
def c4k19 : ACode := (.block 1 (.region true c4r18 [0, 3, 5, 7, 15, 16]))
def c4r20 : List AOper := [
  ⟨some 88, .mv, [.t 16], none⟩,
  ⟨some 89, (.bin .add), [.t 88, .c (.pv none (.int .i64 (1)))], none⟩,
  ⟨some 16, .mv, [.t 89], none⟩]
def c4b21 : ACode := (.seq (.seq (.region true c4r16 [0, 3, 5, 7, 15, 16, 87]) c4k17) (.seq c4k19 (.region true c4r20 [0, 3, 5, 7, 15, 16])))
def c4k22 : ACode := (.block 0 (.loop [0, 3, 5, 7, 15, 16] c4b21))
def c4r23 : List AOper := [
  ⟨some 98, .mv, [.t 3], none⟩,
  ⟨some 99, .call, [.c (.pv none (.func (.func 25))), .t 98], none⟩]
def c4r24 : List AOper := [
  ⟨some 100, .mv, [.t 5], none⟩,
  ⟨some 101, .call, [.c (.pv none (.func (.func 25))), .t 100], none⟩]
def c4r25 : List AOper := [
  ⟨some 102, .mv, [.t 7], none⟩,
  ⟨some 103, .call, [.c (.pv none (.func (.func 25))), .t 102], none⟩]
def c4r26 : List AOper := [
  ⟨some 104, .mv, [.t 0], none⟩,
  ⟨some 105, .mv, [.t 15], none⟩,
  ⟨some 106, .call, [.c (.pv none (.func (.func 22))), .t 104, .t 105], none⟩,
  ⟨some 107, .mv, [.t 106], none⟩,
  ⟨some 108, .call, [.c (.pv none (.func (.func 14)))], some (107, true)⟩,
  ⟨some 109, .pick, [.t 107, .t 108, .c (.pv none (.bool false))], none⟩,
  ⟨some 2, .mv, [.t 109], none⟩]
def c4 : ACode := (.seq (.region true c4r0 [0]) (.seq (.region true c4r1 [0]) (.seq (.region true c4r2 [0, 3, 4]) (.seq (.region true c4r3 [0, 3, 4, 5, 6]) (.seq (.region true c4r4 [0, 3, 4, 5, 6, 7, 8]) (.seq (.region true c4r5 [0, 3, 4, 5, 6, 7, 8, 9, 10]) (.seq (.region true c4r6 [0, 3, 4, 5, 6, 7, 8, 9, 10, 11, 12]) (.seq (.region true c4r7 [0, 3, 4, 5, 6, 7, 8, 9, 10, 11, 12, 13, 14]) (.seq (.seq (.region true c4r8 [0, 3, 5, 7, 79]) c4k10) (.seq (.seq (.region true c4r11 [0, 3, 5, 7, 82]) c4k13) (.seq (.region true c4r14 [0, 3, 5, 7, 15]) (.seq (.seq (.region true c4r15 [0, 3, 5, 7, 15, 16]) c4k22) (.seq (.region true c4r23 [0, 5, 7, 15]) (.seq (.region true c4r24 [0, 7, 15]) (.seq (.region true c4r25 [0, 15]) (.seq (.region true c4r26 [2]) .ret))))))))))))))))
def g4 : AFn := ⟨1, [(2, none)], c4, false⟩
theorem tr4 : trFn Try.prog false Try.f4 = some g4 := by kernel_rfl
/- hornbeam/hornbeamlaw04.OrderRanks -/
def c5r0 : List AOper := [
  ⟨some 3, (.box (some 4)), [.t 1], none⟩,
  ⟨some 4, .mv, [.c (.pv none (.bool false))], none⟩]
def c5r1 : List AOper := [
  ⟨some 15, .mv, [.t 0], none⟩,
  ⟨some 16, .call, [.c (.pv none (.func (.func 15))), .t 15], none⟩,
  ⟨some 0, .mv, [.t 16], none⟩]
def c5r2 : List AOper := [
  ⟨some 18, .mv, [.t 0], none⟩,
  ⟨some 19, (.load (some 4)), [.t 3], none⟩,
  ⟨some 20, .call, [.c (.pv none (.func (.func 26))), .t 18, .t 19], none⟩,
  ⟨some 17, .mv, [.t 20], none⟩,
  ⟨some 21, (.extract 0), [.t 17], none⟩,
  ⟨some 22, (.extract 1), [.t 17], none⟩,
  ⟨some 5, .mv, [.t 21], none⟩,
  ⟨some 6, .mv, [.t 22], none⟩]
def c5r3 : List AOper := [
  ⟨some 24, .mv, [.t 0], none⟩,
  ⟨some 25, (.load (some 4)), [.t 3], none⟩,
  ⟨some 26, .call, [.c (.pv none (.func (.func 27))), .t 24, .t 25], none⟩,
  ⟨some 23, .mv, [.t 26], none⟩,
  ⟨some 27, (.extract 0), [.t 23], none⟩,
  ⟨some 28, (.extract 1), [.t 23], none⟩,
  ⟨some 7, .mv, [.t 27], none⟩,
  ⟨some 8, .mv, [.t 28], none⟩]
def c5r4 : List AOper := [
  ⟨some 30, .mv, [.t 0], none⟩,
  ⟨some 31, .call, [.c (.pv none (.func (.func 19))), .t 30], none⟩,
  ⟨some 29, .mv, [.t 31], none⟩,
  ⟨some 32, (.extract 0), [.t 29], none⟩,
  ⟨some 33, (.extract 1), [.t 29], none⟩,
  ⟨some 9, .mv, [.t 32], none⟩,
  ⟨some 10, .mv, [.t 33], none⟩]
def c5r5 : List AOper := [
  ⟨some 35, .mv, [.t 9], none⟩,
  ⟨some 36, (.load (some 4)), [.t 3], none⟩,
  ⟨some 37, .call, [.c (.pv none (.func (.func 26))), .t 35, .t 36], none⟩,
  ⟨some 34, .mv, [.t 37], none⟩,
  ⟨some 38, (.extract 0), [.t 34], none⟩,
  ⟨some 39, (.extract 1), [.t 34], none⟩,
  ⟨some 11, .mv, [.t 38], none⟩,
  ⟨some 12, .mv, [.t 39], none⟩]
def c5r6 : List AOper := [
  ⟨some 41, .mv, [.t 9], none⟩,
  ⟨some 42, (.load (some 4)), [.t 3], none⟩,
  ⟨some 43, .call, [.c (.pv none (.func (.func 27))), .t 41, .t 42], none⟩,
  ⟨some 40, .mv, [.t 43], none⟩,
  ⟨some 44, (.extract 0), [.t 40], none⟩,
  ⟨some 45, (.extract 1), [.t 40], none⟩,
  ⟨some 13, .mv, [.t 44], none⟩,
  ⟨some 14, .mv, [.t 45], none⟩]
def c5r7 : List AOper := [
  ⟨some 46, .mv, [.t 5], none⟩,
  ⟨some 47, .mv, [.t 7], none⟩,
  ⟨some 48, (.bin .eql), [.t 46, .t 47], none⟩,
  ⟨some 49, .mv, [.t 48], none⟩,
  ⟨some 50, .mv, [.t 6], some (49, true)⟩,
  ⟨some 51, .mv, [.t 8], some (49, true)⟩,
  ⟨some 52, (.binb .eql), [.t 50, .t 51], some (49, true)⟩,
  ⟨some 53, .pick, [.t 49, .t 52, .c (.pv none (.bool false))], none⟩,
  ⟨some 54, .mv, [.t 53], none⟩,
  ⟨some 55, .mv, [.t 10], some (54, true)⟩,
  ⟨some 56, (.bin .neq), [.t 55, .c (.pv none (.int .i64 (0)))], some (54, true)⟩,
  ⟨some 57, .mv, [.t 56], some (54, true)⟩,
  ⟨some 58, .mv, [.t 11], some (57, false)⟩,
  ⟨some 59, .mv, [.t 13], some (57, false)⟩,
  ⟨some 60, (.bin .eql), [.t 58, .t 59], some (57, false)⟩,
  ⟨some 61, .mv, [.t 60], some (57, false)⟩,
  ⟨some 62, .mv, [.t 12], some (61, true)⟩,
  ⟨some 63, .mv, [.t 14], some (61, true)⟩,
  ⟨some 64, (.binb .eql), [.t 62, .t 63], some (61, true)⟩,
  ⟨some 65, .pick, [.t 61, .t 64, .c (.pv none (.bool false))], some (57, false)⟩,
  ⟨some 66, .pick, [.t 57, .c (.pv none (.bool true)), .t 65], some (54, true)⟩,
  ⟨some 67, .pick, [.t 54, .t 66, .c (.pv none (.bool false))], none⟩,
  ⟨some 68, .mv, [.t 67], none⟩,
  ⟨some 69, .call, [.c (.pv none (.func (.func 14)))], some (68, true)⟩,
  ⟨some 70, .pick, [.t 68, .t 69, .c (.pv none (.bool false))], none⟩,
  ⟨some 4, .mv, [.t 70], none⟩]
def c5 : ACode := (.seq (.region true c5r0 [0, 3]) (.seq (.region true c5r1 [0, 3]) (.seq (.region true c5r2 [0, 3, 5, 6]) (.seq (.region true c5r3 [0, 3, 5, 6, 7, 8]) (.seq (.region true c5r4 [3, 5, 6, 7, 8, 9, 10]) (.seq (.region true c5r5 [3, 5, 6, 7, 8, 9, 10, 11, 12]) (.seq (.region true c5r6 [5, 6, 7, 8, 10, 11, 12, 13, 14]) (.seq (.region true c5r7 [4]) .ret))))))))
def g5 : AFn := ⟨2, [(4, none)], c5, false⟩
theorem tr5 : trFn Try.prog false Try.f5 = some g5 := by kernel_rfl
/- hornbeam/hornbeamlaw04.OrderTotal -/
def c6r0 : List AOper := [
  ⟨some 3, (.box (some 4)), [.t 0], none⟩,
  ⟨some 4, (.box (some 4)), [.t 1], none⟩,
  ⟨some 5, (.box (some 4)), [.t 2], none⟩,
  ⟨some 6, .mv, [.c (.pv none (.bool false))], none⟩]
def c6r1 : List AOper := [
  ⟨some 7, (.load (some 4)), [.t 3], none⟩,
  ⟨some 8, (.load (some 4)), [.t 4], none⟩,
  ⟨some 9, .callp, [.c (.pv none (.func (.func 12))), .t 7, .t 8], none⟩,
  ⟨some 10, (.load (some 4)), [.t 4], none⟩,
  ⟨some 11, (.load (some 4)), [.t 3], none⟩,
  ⟨some 12, .callp, [.c (.pv none (.func (.func 12))), .t 10, .t 11], none⟩,
  ⟨some 13, .neg, [.t 12], none⟩,
  ⟨some 14, (.bin .neq), [.t 9, .t 13], none⟩]
def c6r2 : List AOper := [
  ⟨some 6, .mv, [.c (.pv none (.bool false))], none⟩]
def c6k3 : ACode := (.cond (.t 14) (.seq (.region true c6r2 [6]) .ret) .skip)
def c6r4 : List AOper := [
  ⟨some 15, (.load (some 4)), [.t 3], none⟩,
  ⟨some 16, (.load (some 4)), [.t 4], none⟩,
  ⟨some 17, (.load (some 4)), [.t 5], none⟩,
  ⟨some 18, (.bslice (some 4)), [.t 15, .t 16, .t 17], none⟩,
  ⟨some 19, .call, [.c (.pv none (.func (.func 23))), .t 18], none⟩,
  ⟨some 20, .not, [.t 19], none⟩]
def c6r5 : List AOper := [
  ⟨some 21, .call, [.c (.pv none (.func (.func 14)))], none⟩,
  ⟨some 6, .mv, [.t 21], none⟩]
def c6k6 : ACode := (.cond (.t 20) (.seq (.region true c6r5 [6]) .ret) .skip)
def c6r7 : List AOper := [
  ⟨some 22, (.load (some 4)), [.t 3], none⟩,
  ⟨some 23, (.load (some 4)), [.t 4], none⟩,
  ⟨some 24, .callp, [.c (.pv none (.func (.func 12))), .t 22, .t 23], none⟩,
  ⟨some 25, (.bin .eql), [.t 24, .c (.pv none (.int .i64 (0)))], none⟩,
  ⟨some 26, (.load (some 4)), [.t 3], none⟩,
  ⟨some 27, (.load (some 4)), [.t 4], none⟩,
  ⟨some 28, .callp, [.c (.pv none (.func (.func 28))), .t 26, .t 27], none⟩,
  ⟨some 29, (.binb .neq), [.t 25, .t 28], none⟩]
def c6r8 : List AOper := [
  ⟨some 6, .mv, [.c (.pv none (.bool false))], none⟩]
def c6k9 : ACode := (.cond (.t 29) (.seq (.region true c6r8 [6]) .ret) .skip)
def c6r10 : List AOper := [
  ⟨some 30, (.load (some 4)), [.t 3], none⟩,
  ⟨some 31, (.load (some 4)), [.t 4], none⟩,
  ⟨some 32, .call, [.c (.pv none (.func (.func 12))), .t 30, .t 31], none⟩,
  ⟨some 33, (.bin .leq), [.t 32, .c (.pv none (.int .i64 (0)))], none⟩,
  ⟨some 34, .mv, [.t 33], none⟩,
  ⟨some 35, (.load (some 4)), [.t 4], some (34, true)⟩,
  ⟨some 36, (.load (some 4)), [.t 5], some (34, true)⟩,
  ⟨some 37, .call, [.c (.pv none (.func (.func 12))), .t 35, .t 36], some (34, true)⟩,
  ⟨some 38, (.bin .leq), [.t 37, .c (.pv none (.int .i64 (0)))], some (34, true)⟩,
  ⟨some 39, .pick, [.t 34, .t 38, .c (.pv none (.bool false))], none⟩,
  ⟨some 40, .mv, [.t 39], none⟩,
  ⟨some 41, (.load (some 4)), [.t 3], some (40, true)⟩,
  ⟨some 42, (.load (some 4)), [.t 5], some (40, true)⟩,
  ⟨some 43, .call, [.c (.pv none (.func (.func 12))), .t 41, .t 42], some (40, true)⟩,
  ⟨some 44, (.bin .gtr), [.t 43, .c (.pv none (.int .i64 (0)))], some (40, true)⟩,
  ⟨some 45, .pick, [.t 40, .t 44, .c (.pv none (.bool false))], none⟩]
def c6r11 : List AOper := [
  ⟨some 6, .mv, [.c (.pv none (.bool false))], none⟩]
def c6k12 : ACode := (.cond (.t 45) (.seq (.region true c6r11 [6]) .ret) .skip)
def c6r13 : List AOper := [
  ⟨some 46, .call, [.c (.pv none (.func (.func 14)))], none⟩,
  ⟨some 6, .mv, [.t 46], none⟩]
def c6 : ACode := (.seq (.region true c6r0 [3, 4, 5]) (.seq (.seq (.seq (.settle [3, 4]) (.region true c6r1 [3, 4, 5, 14])) c6k3) (.seq (.seq (.region true c6r4 [3, 4, 5, 20]) c6k6) (.seq (.seq (.seq (.settle [3, 4]) (.region true c6r7 [3, 4, 5, 29])) c6k9) (.seq (.seq (.region true c6r10 [45]) c6k12) (.seq (.region true c6r13 [6]) .ret))))))
def g6 : AFn := ⟨3, [(6, none)], c6, false⟩
theorem tr6 : trFn Try.prog false Try.f6 = some g6 := by kernel_rfl
/- hornbeam/hornbeamlaw04.OrderSorted -/
def c8r0 : List AOper := [
  ⟨some 4, .mv, [.c (.pv none (.bool false))], none⟩]
def c8r1 : List AOper := [
  ⟨some 24, .mv, [.t 0], none⟩,
  ⟨some 25, .call, [.c (.pv none (.func (.func 15))), .t 24], none⟩,
  ⟨some 0, .mv, [.t 25], none⟩]
def c8r2 : List AOper := [
  ⟨some 26, .mv, [.t 0], none⟩,
  ⟨some 27, .call, [.c (.pv none (.func (.func 23))), .t 26], none⟩,
  ⟨some 28, .not, [.t 27], none⟩]
def c8r3 : List AOper := [
  ⟨some 29, .call, [.c (.pv none (.func (.func 14)))], none⟩,
  ⟨some 4, .mv, [.t 29], none⟩]
def c8k4 : ACode := (.cond (.t 28) (.seq (.region true c8r3 [4]) .ret) .skip)
def c8r5 : List AOper := [
  ⟨some 30, .mv, [.t 0], none⟩,
  ⟨some 31, .call, [.c (.pv none (.func (.func 15))), .t 30], none⟩,
  ⟨some 5, .mv, [.t 31], none⟩]
def c8r6 : List AOper := [
  ⟨some 6, .mv, [.c (.pv none (.int .i64 (0)))], none⟩]
def c8r7 : List AOper := [
  ⟨some 32, .mv, [.t 6], none⟩,
  ⟨some 33, .mv, [.t 1], none⟩,
  ⟨some 34, .len, [.t 33], none⟩,
  ⟨some 35, (.bin .lss), [.t 32, .t 34], none⟩,
  ⟨some 36, .mv, [.t 35], none⟩,
  ⟨some 37, .mv, [.t 6], some (36, true)⟩,
  ⟨some 38, (.bin .lss), [.t 37, .c (.pv none (.int .i64 (60)))], some (36, true)⟩,
  ⟨some 39, .pick, [.t 36, .t 38, .c (.pv none (.bool false))], none⟩,
  ⟨some 40, .mv, [.t 39], none⟩,
  ⟨some 41, .mv, [.t 5], some (40, true)⟩,
  ⟨some 42, .len, [.t 41], some (40, true)⟩,
  ⟨some 43, (.bin .gtr), [.t 42, .c (.pv none (.int .i64 (0)))], some (40, true)⟩,
  ⟨some 44, .pick, [.t 40, .t 43, .c (.pv none (.bool false))], none⟩]
def c8k8 : ACode := (.cond (.t 44) .skip (.exit 0))
def c8r9 : List AOper := [
  ⟨some 47, .mv, [.t 6], none⟩,
  ⟨some 48, .mv, [.t 5], none⟩,
  ⟨some 49, .len, [.t 48], none⟩,
  ⟨some 50, (.bin .rem), [.t 47, .t 49], none⟩,
  ⟨some 51, .mv, [.t 1], none⟩,
  ⟨some 52, .mv, [.t 6], none⟩,
  ⟨some 53, (.iaddr none), [.t 51, .t 52], none⟩,
  ⟨some 54, (.load none), [.t 53], none⟩,
  ⟨some 55, (.conv .i64), [.t 54], none⟩,
  ⟨some 56, .mv, [.t 5], none⟩,
  ⟨some 57, .len, [.t 56], none⟩,
  ⟨some 58, (.bin .rem), [.t 55, .t 57], none⟩,
  ⟨some 7, .mv, [.t 50], none⟩,
  ⟨some 8, .mv, [.t 58], none⟩]
def c8r10 : List AOper := [
  ⟨some 59, .mv, [.t 5], none⟩,
  ⟨some 60, .mv, [.t 7], none⟩,
  ⟨some 61, .mv, [.t 5], none⟩,
  ⟨some 62, .mv, [.t 8], none⟩,
  ⟨some 63, .mv, [.t 5], none⟩,
  ⟨some 64, .mv, [.t 8], none⟩,
  ⟨some 65, (.iaddr (some 4)), [.t 63, .t 64], none⟩,
  ⟨some 66, (.load (some 4)), [.t 65], none⟩,
  ⟨some 67, .mv, [.t 5], none⟩,
  ⟨some 68, .mv, [.t 7], none⟩,
  ⟨some 69, (.iaddr (some 4)), [.t 67, .t 68], none⟩,
  ⟨some 70, (.load (some 4)), [.t 69], none⟩,
  ⟨some 71, (.iaddr (some 4)), [.t 59, .t 60], none⟩,
  ⟨none, (.store (some 4)), [.t 71, .t 66], none⟩,
  ⟨some 72, (.iaddr (some 4)), [.t 61, .t 62], none⟩,
  ⟨none, (.store (some 4)), [.t 72, .t 70], none⟩]
def c8k11 : ACode := (.block 1 (.seq (.region true c8r9 [0, 1, 5, 6, 7, 8]) (.region true c8r10 [0, 1, 5, 6])))
def c8r12 : List AOper := [
  ⟨some 45, .mv, [.t 6], none⟩,
  ⟨some 46, (.bin .add), [.t 45, .c (.pv none (.int .i64 (1)))], none⟩,
  ⟨some 6, .mv, [.t 46], none⟩]
def c8b13 : ACode := (.seq (.seq (.region true c8r7 [0, 1, 5, 6, 44]) c8k8) (.seq c8k11 (.region true c8r12 [0, 1, 5, 6])))
def c8k14 : ACode := (.block 0 (.loop [0, 1, 5, 6] c8b13))
def c8r15 : List AOper := [
  ⟨some 74, .mv, [.t 0], none⟩,
  ⟨some 75, .call, [.c (.pv none (.func (.func 16))), .t 74], none⟩,
  ⟨some 73, .mv, [.t 75], none⟩,
  ⟨some 76, (.extract 0), [.t 73], none⟩,
  ⟨some 77, (.extract 1), [.t 73], none⟩,
  ⟨some 9, .mv, [.t 76], none⟩,
  ⟨some 10, .mv, [.t 77], none⟩]
def c8r16 : List AOper := [
  ⟨some 79, .mv, [.t 0], none⟩,
  ⟨some 80, .call, [.c (.pv none (.func (.func 17))), .t 79], none⟩,
  ⟨some 78, .mv, [.t 80], none⟩,
  ⟨some 81, (.extract 0), [.t 78], none⟩,
  ⟨some 82, (.extract 1), [.t 78], none⟩,
  ⟨some 11, .mv, [.t 81], none⟩,
  ⟨some 12, .mv, [.t 82], none⟩]
def c8r17 : List AOper := [
  ⟨some 84, .mv, [.t 5], none⟩,
  ⟨some 85, .call, [.c (.pv none (.func (.func 16))), .t 84], none⟩,
  ⟨some 83, .mv, [.t 85], none⟩,
  ⟨some 86, (.extract 0), [.t 83], none⟩,
  ⟨some 87, (.extract 1), [.t 83], none⟩,
  ⟨some 13, .mv, [.t 86], none⟩,
  ⟨some 14, .mv, [.t 87], none⟩]
def c8r18 : List AOper := [
  ⟨some 89, .mv, [.t 5], none⟩,
  ⟨some 90, .call, [.c (.pv none (.func (.func 17))), .t 89], none⟩,
  ⟨some 88, .mv, [.t 90], none⟩,
  ⟨some 91, (.extract 0), [.t 88], none⟩,
  ⟨some 92, (.extract 1), [.t 88], none⟩,
  ⟨some 15, .mv, [.t 91], none⟩,
  ⟨some 16, .mv, [.t 92], none⟩]
def c8r19 : List AOper := [
  ⟨some 94, .mv, [.t 11], none⟩,
  ⟨some 95, .call, [.c (.pv none (.func (.func 16))), .t 94], none⟩,
  ⟨some 93, .mv, [.t 95], none⟩,
  ⟨some 96, (.extract 0), [.t 93], none⟩,
  ⟨some 97, (.extract 1), [.t 93], none⟩,
  ⟨some 17, .mv, [.t 96], none⟩,
  ⟨some 18, .mv, [.t 97], none⟩]
def c8r20 : List AOper := [
  ⟨some 98, .mv, [.t 10], none⟩,
  ⟨some 99, (.bin .neq), [.t 98, .c (.pv none (.int .i64 (0)))], none⟩,
  ⟨some 100, .mv, [.t 99], none⟩,
  ⟨some 101, .mv, [.t 12], some (100, false)⟩,
  ⟨some 102, (.bin .neq), [.t 101, .c (.pv none (.int .i64 (0)))], some (100, false)⟩,
  ⟨some 103, .pick, [.t 100, .c (.pv none (.bool true)), .t 102], none⟩,
  ⟨some 104, .mv, [.t 103], none⟩,
  ⟨some 105, .mv, [.t 14], some (104, false)⟩,
  ⟨some 106, (.bin .neq), [.t 105, .c (.pv none (.int .i64 (0)))], some (104, false)⟩,
  ⟨some 107, .pick, [.t 104, .c (.pv none (.bool true)), .t 106], none⟩,
  ⟨some 108, .mv, [.t 107], none⟩,
  ⟨some 109, .mv, [.t 16], some (108, false)⟩,
  ⟨some 110, (.bin .neq), [.t 109, .c (.pv none (.int .i64 (0)))], some (108, false)⟩,
  ⟨some 111, .pick, [.t 108, .c (.pv none (.bool true)), .t 110], none⟩,
  ⟨some 112, .mv, [.t 111], none⟩,
  ⟨some 113, .mv, [.t 18], some (112, false)⟩,
  ⟨some 114, (.bin .neq), [.t 113, .c (.pv none (.int .i64 (0)))], some (112, false)⟩,
  ⟨some 115, .pick, [.t 112, .c (.pv none (.bool true)), .t 114], none⟩,
  ⟨some 116, .mv, [.t 115], none⟩,
  ⟨some 117, .mv, [.t 11], some (116, false)⟩,
  ⟨some 118, .len, [.t 117], some (116, false)⟩,
  ⟨some 119, .mv, [.t 0], some (116, false)⟩,
  ⟨some 120, .len, [.t 119], some (116, false)⟩,
  ⟨some 121, (.bin .neq), [.t 118, .t 120], some (116, false)⟩,
  ⟨some 122, .pick, [.t 116, .c (.pv none (.bool true)), .t 121], none⟩]
def c8r21 : List AOper := [
  ⟨some 4, .mv, [.c (.pv none (.bool false))], none⟩]
def c8k22 : ACode := (.cond (.t 122) (.seq (.region true c8r21 [4]) .ret) .skip)
def c8r23 : List AOper := [
  ⟨some 123, .mv, [.t 9], none⟩,
  ⟨some 124, .mv, [.t 13], none⟩,
  ⟨some 125, .call, [.c (.pv none (.func (.func 22))), .t 123, .t 124], none⟩,
  ⟨some 126, .not, [.t 125], none⟩,
  ⟨some 127, .mv, [.t 126], none⟩,
  ⟨some 128, .mv, [.t 11], some (127, false)⟩,
  ⟨some 129, .mv, [.t 15], some (127, false)⟩,
  ⟨some 130, .call, [.c (.pv none (.func (.func 22))), .t 128, .t 129], some (127, false)⟩,
  ⟨some 131, .not, [.t 130], some (127, false)⟩,
  ⟨some 132, .pick, [.t 127, .c (.pv none (.bool true)), .t 131], none⟩,
  ⟨some 133, .mv, [.t 132], none⟩,
  ⟨some 134, .mv, [.t 9], some (133, false)⟩,
  ⟨some 135, .mv, [.t 17], some (133, false)⟩,
  ⟨some 136, .call, [.c (.pv none (.func (.func 22))), .t 134, .t 135], some (133, false)⟩,
  ⟨some 137, .not, [.t 136], some (133, false)⟩,
  ⟨some 138, .pick, [.t 133, .c (.pv none (.bool true)), .t 137], none⟩]
def c8r24 : List AOper := [
  ⟨some 4, .mv, [.c (.pv none (.bool false))], none⟩]
def c8k25 : ACode := (.cond (.t 138) (.seq (.region true c8r24 [4]) .ret) .skip)
def c8r26 : List AOper := [
  ⟨some 19, .mv, [.c (.pv none (.int .i64 (0)))], none⟩]
def c8r27 : List AOper := [
  ⟨some 139, .mv, [.t 19], none⟩,
  ⟨some 140, .mv, [.t 0], none⟩,
  ⟨some 141, .len, [.t 140], none⟩,
  ⟨some 142, (.bin .lss), [.t 139, .t 141], none⟩]
def c8k28 : ACode := (.cond (.t 142) .skip (.exit 2))
def c8r29 : List AOper := [
  ⟨some 145, .mv, [.t 11], none⟩,
  ⟨some 146, .mv, [.t 0], none⟩,
  ⟨some 147, .mv, [.t 19], none⟩,
  ⟨some 148, (.iaddr (some 4)), [.t 146, .t 147], none⟩,
  ⟨some 149, (.load (some 4)), [.t 148], none⟩,
  ⟨some 150, .callp, [.c (.pv none (.func (.func 32))), .t 145, .t 149], none⟩,
  ⟨some 151, .mv, [.t 0], none⟩,
  ⟨some 152, .mv, [.t 0], none⟩,
  ⟨some 153, .mv, [.t 19], none⟩,
  ⟨some 154, (.iaddr (some 4)), [.t 152, .t 153], none⟩,
  ⟨some 155, (.load (some 4)), [.t 154], none⟩,
  ⟨some 156, .callp, [.c (.pv none (.func (.func 32))), .t 151, .t 155], none⟩,
  ⟨some 157, (.bin .neq), [.t 150, .t 156], none⟩,
  ⟨some 158, .mv, [.t 157], none⟩,
  ⟨some 159, .mv, [.t 9], some (158, false)⟩,
  ⟨some 160, .mv, [.t 0], some (158, false)⟩,
  ⟨some 161, .mv, [.t 19], some (158, false)⟩,
  ⟨some 162, (.iaddr (some 4)), [.t 160, .t 161], some (158, false)⟩,
  ⟨some 163, (.load (some 4)), [.t 162], some (158, false)⟩,
  ⟨some 164, .callp, [.c (.pv none (.func (.func 32))), .t 159, .t 163], some (158, false)⟩,
  ⟨some 165, (.bin .neq), [.t 164, .c (.pv none (.int .i64 (1)))], some (158, false)⟩,
  ⟨some 166, .pick, [.t 158, .c (.pv none (.bool true)), .t 165], none⟩]
def c8r30 : List AOper := [
  ⟨some 4, .mv, [.c (.pv none (.bool false))], none⟩]
def c8k31 : ACode := (.cond (.t 166) (.seq (.region true c8r30 [4]) .ret) .skip)
def c8k32 : ACode := (.block 3 (.seq (.seq (.settle [0, 9, 11]) (.region true c8r29 [0, 9, 11, 19, 166])) c8k31))
def c8r33 : List AOper := [
  ⟨some 143, .mv, [.t 19], none⟩,
  ⟨some 144, (.bin .add), [.t 143, .c (.pv none (.int .i64 (1)))], none⟩,
  ⟨some 19, .mv, [.t 144], none⟩]
def c8b34 : ACode := (.seq (.seq (.region true c8r27 [0, 9, 11, 19, 142]) c8k28) (.seq c8k32 (.region true c8r33 [0, 9, 11, 19])))
def c8k35 : ACode := (.block 2 (.loop [0, 9, 11, 19] c8b34))
def c8r36 : List AOper := [
  ⟨some 20, .mv, [.c (.pv none (.int .i64 (0)))], none⟩]
def c8r37 : List AOper := [
  ⟨some 167, .mv, [.t 20], none⟩,
  ⟨some 168, .mv, [.t 11], none⟩,
  ⟨some 169, .len, [.t 168], none⟩,
  ⟨some 170, (.bin .lss), [.t 167, .t 169], none⟩]
def c8k38 : ACode := (.cond (.t 170) .skip (.exit 4))
def c8r39 : List AOper := [
  ⟨some 173, .mv, [.t 20], none⟩,
  ⟨some 174, (.bin .gtr), [.t 173, .c (.pv none (.int .i64 (0)))], none⟩,
  ⟨some 175, .mv, [.t 174], none⟩,
  ⟨some 176, .mv, [.t 11], some (175, true)⟩,
  ⟨some 177, .mv, [.t 20], some (175, true)⟩,
  ⟨some 178, (.bin .sub), [.t 177, .c (.pv none (.int .i64 (1)))], some (175, true)⟩,
  ⟨some 179, (.iaddr (some 4)), [.t 176, .t 178], some (175, true)⟩,
  ⟨some 180, (.load (some 4)), [.t 179], some (175, true)⟩,
  ⟨some 181, .mv, [.t 11], some (175, true)⟩,
  ⟨some 182, .mv, [.t 20], some (175, true)⟩,
  ⟨some 183, (.iaddr (some 4)), [.t 181, .t 182], some (175, true)⟩,
  ⟨some 184, (.load (some 4)), [.t 183], some (175, true)⟩,
  ⟨some 185, .call, [.c (.pv none (.func (.func 12))), .t 180, .t 184], some (175, true)⟩,
  ⟨some 186, (.bin .gtr), [.t 185, .c (.pv none (.int .i64 (0)))], some (175, true)⟩,
  ⟨some 187, .pick, [.t 175, .t 186, .c (.pv none (.bool false))], none⟩]
def c8r40 : List AOper := [
  ⟨some 4, .mv, [.c (.pv none (.bool false))], none⟩]
def c8k41 : ACode := (.cond (.t 187) (.seq (.region true c8r40 [4]) .ret) .skip)
def c8k42 : ACode := (.block 5 (.seq (.region true c8r39 [0, 9, 11, 20, 187]) c8k41))
def c8r43 : List AOper := [
  ⟨some 171, .mv, [.t 20], none⟩,
  ⟨some 172, (.bin .add), [.t 171, .c (.pv none (.int .i64 (1)))], none⟩,
  ⟨some 20, .mv, [.t 172], none⟩]
def c8b44 : ACode := (.seq (.seq (.region true c8r37 [0, 9, 11, 20, 170]) c8k38) (.seq c8k42 (.region true c8r43 [0, 9, 11, 20])))
def c8k45 : ACode := (.block 4 (.loop [0, 9, 11, 20] c8b44))
def c8r46 : List AOper := [
  ⟨some 21, .mv, [.c (.pv none (.int .i64 (0)))], none⟩]
def c8r47 : List AOper := [
  ⟨some 188, .mv, [.t 21], none⟩,
  ⟨some 189, .mv, [.t 9], none⟩,
  ⟨some 190, .len, [.t 189], none⟩,
  ⟨some 191, (.bin .lss), [.t 188, .t 190], none⟩]
def c8k48 : ACode := (.cond (.t 191) .skip (.exit 6))
def c8r49 : List AOper := [
  ⟨some 194, .mv, [.t 21], none⟩,
  ⟨some 195, (.bin .gtr), [.t 194, .c (.pv none (.int .i64 (0)))], none⟩,
  ⟨some 196, .mv, [.t 195], none⟩,
  ⟨some 197, .mv, [.t 9], some (196, true)⟩,
  ⟨some 198, .mv, [.t 21], some (196, true)⟩,
  ⟨some 199, (.bin .sub), [.t 198, .c (.pv none (.int .i64 (1)))], some (196, true)⟩,
  ⟨some 200, (.iaddr (some 4)), [.t 197, .t 199], some (196, true)⟩,
  ⟨some 201, (.load (some 4)), [.t 200], some (196, true)⟩,
  ⟨some 202, .mv, [.t 9], some (196, true)⟩,
  ⟨some 203, .mv, [.t 21], some (196, true)⟩,
  ⟨some 204, (.iaddr (some 4)), [.t 202, .t 203], some (196, true)⟩,
  ⟨some 205, (.load (some 4)), [.t 204], some (196, true)⟩,
  ⟨some 206, .call, [.c (.pv none (.func (.func 12))), .t 201, .t 205], some (196, true)⟩,
  ⟨some 207, (.bin .geq), [.t 206, .c (.pv none (.int .i64 (0)))], some (196, true)⟩,
  ⟨some 208, .pick, [.t 196, .t 207, .c (.pv none (.bool false))], none⟩]
def c8r50 : List AOper := [
  ⟨some 4, .mv, [.c (.pv none (.bool false))], none⟩]
def c8k51 : ACode := (.cond (.t 208) (.seq (.region true c8r50 [4]) .ret) .skip)
def c8r52 : List AOper := [
  ⟨some 210, .mv, [.t 9], none⟩,
  ⟨some 211, .mv, [.t 9], none⟩,
  ⟨some 212, .mv, [.t 21], none⟩,
  ⟨some 213, (.iaddr (some 4)), [.t 211, .t 212], none⟩,
  ⟨some 214, (.load (some 4)), [.t 213], none⟩,
  ⟨some 215, .call, [.c (.pv none (.func (.func 26))), .t 210, .t 214], none⟩,
  ⟨some 209, .mv, [.t 215], none⟩,
  ⟨some 216, (.extract 0), [.t 209], none⟩,
  ⟨some 217, (.extract 1), [.t 209], none⟩,
  ⟨some 22, .mv, [.t 216], none⟩,
  ⟨some 23, .mv, [.t 217], none⟩]
def c8r53 : List AOper := [
  ⟨some 218, .mv, [.t 22], none⟩,
  ⟨some 219, .mv, [.t 21], none⟩,
  ⟨some 220, (.bin .neq), [.t 218, .t 219], none⟩,
  ⟨some 221, .mv, [.t 220], none⟩,
  ⟨some 222, .mv, [.t 23], some (221, false)⟩,
  ⟨some 223, .not, [.t 222], some (221, false)⟩,
  ⟨some 224, .pick, [.t 221, .c (.pv none (.bool true)), .t 223], none⟩,
  ⟨some 225, .mv, [.t 224], none⟩,
  ⟨some 226, .mv, [.t 0], some (225, false)⟩,
  ⟨some 227, .mv, [.t 9], some (225, false)⟩,
  ⟨some 228, .mv, [.t 21], some (225, false)⟩,
  ⟨some 229, (.iaddr (some 4)), [.t 227, .t 228], some (225, false)⟩,
  ⟨some 230, (.load (some 4)), [.t 229], some (225, false)⟩,
  ⟨some 231, .call, [.c (.pv none (.func (.func 32))), .t 226, .t 230], some (225, false)⟩,
  ⟨some 232, (.bin .eql), [.t 231, .c (.pv none (.int .i64 (0)))], some (225, false)⟩,
  ⟨some 233, .pick, [.t 225, .c (.pv none (.bool true)), .t 232], none⟩]
def c8r54 : List AOper := [
  ⟨some 4, .mv, [.c (.pv none (.bool false))], none⟩]
def c8k55 : ACode := (.cond (.t 233) (.seq (.region true c8r54 [4]) .ret) .skip)
def c8k56 : ACode := (.block 7 (.seq (.seq (.region true c8r49 [0, 9, 21, 208]) c8k51) (.seq (.region true c8r52 [0, 9, 21, 22, 23]) (.seq (.region true c8r53 [0, 9, 21, 233]) c8k55))))
def c8r57 : List AOper := [
  ⟨some 192, .mv, [.t 21], none⟩,
  ⟨some 193, (.bin .add), [.t 192, .c (.pv none (.int .i64 (1)))], none⟩,
  ⟨some 21, .mv, [.t 193], none⟩]
def c8b58 : ACode := (.seq (.seq (.region true c8r47 [0, 9, 21, 191]) c8k48) (.seq c8k56 (.region true c8r57 [0, 9, 21])))
def c8k59 : ACode := (.block 6 (.loop [0, 9, 21] c8b58))
def c8r60 : List AOper := [
  ⟨some 234, .call, [.c (.pv none (.func (.func 14)))], none⟩,
  ⟨some 4, .mv, [.t 234], none⟩]
def c8 : ACode := (.seq (.region true c8r0 [0, 1]) (.seq (.region true c8r1 [0, 1]) (.seq (.seq (.region true c8r2 [0, 1, 28]) c8k4) (.seq (.region true c8r5 [0, 1, 5]) (.seq (.seq (.region true c8r6 [0, 1, 5, 6]) c8k14) (.seq (.region true c8r15 [0, 5, 9, 10]) (.seq (.region true c8r16 [0, 5, 9, 10, 11, 12]) (.seq (.region true c8r17 [0, 5, 9, 10, 11, 12, 13, 14]) (.seq (.region true c8r18 [0, 9, 10, 11, 12, 13, 14, 15, 16]) (.seq (.region true c8r19 [0, 9, 10, 11, 12, 13, 14, 15, 16, 17, 18]) (.seq (.seq (.region true c8r20 [0, 9, 11, 13, 15, 17, 122]) c8k22) (.seq (.seq (.region true c8r23 [0, 9, 11, 138]) c8k25) (.seq (.seq (.region true c8r26 [0, 9, 11, 19]) c8k35) (.seq (.seq (.region true c8r36 [0, 9, 11, 20]) c8k45) (.seq (.seq (.region true c8r46 [0, 9, 21]) c8k59) (.seq (.region true c8r60 [4]) .ret))))))))))))))))
def g8 : AFn := ⟨2, [(4, none)], c8, false⟩
theorem tr8 : trFn Try.prog false Try.f8 = some g8 := by kernel_rfl
/- hornbeam/hornbeamlaw04.OrderKeyed -/
def c9r0 : List AOper := [
  ⟨some 2, .mv, [.c (.pv none (.bool false))], none⟩]
def c9r1 : List AOper := [
  ⟨some 11, .mv, [.t 0], none⟩,
  ⟨some 12, .call, [.c (.pv none (.func (.func 15))), .t 11], none⟩,
  ⟨some 0, .mv, [.t 12], none⟩]
def c9r2 : List AOper := [
  ⟨some 3, (.nilsl (some 4)), [], none⟩]
def c9r3 : List AOper := [
  ⟨some 4, .mv, [.c (.pv none (.int .i64 (0)))], none⟩]
def c9r4 : List AOper := [
  ⟨some 13, .mv, [.t 4], none⟩,
  ⟨some 14, .mv, [.t 0], none⟩,
  ⟨some 15, .len, [.t 14], none⟩,
  ⟨some 16, (.bin .lss), [.t 13, .t 15], none⟩]
def c9k5 : ACode := (.cond (.t 16) .skip (.exit 0))
def c9r6 : List AOper := [
  ⟨some 19, .mv, [.t 3], none⟩,
  ⟨some 20, .mv, [.t 0], none⟩,
  ⟨some 21, .mv, [.t 4], none⟩,
  ⟨some 22, (.iaddr (some 4)), [.t 20, .t 21], none⟩,
  ⟨some 23, (.load (some 4)), [.t 22], none⟩,
  ⟨some 24, .mv, [.t 4], none⟩,
  ⟨some 25, .callp, [.c (.pv none (.func (.func 34))), .t 24], none⟩,
  ⟨some 26, (.bslicep (some 4)), [.t 23, .t 25], none⟩,
  ⟨some 27, .callp, [.c (.pv none (.func (.func 33))), .c (.pv none (.str [45])), .t 26], none⟩,
  ⟨some 28, (.bslicep (some 4)), [.t 27], none⟩,
  ⟨some 29, (.append (some 4)), [.t 19, .t 28], none⟩,
  ⟨some 3, .mv, [.t 29], none⟩]
def c9k7 : ACode := (.block 1 (.seq (.settle [4]) (.region true c9r6 [0, 3, 4])))
def c9r8 : List AOper := [
  ⟨some 17, .mv, [.t 4], none⟩,
  ⟨some 18, (.bin .add), [.t 17, .c (.pv none (.int .i64 (1)))], none⟩,
  ⟨some 4, .mv, [.t 18], none⟩]
def c9b9 : ACode := (.seq (.seq (.region true c9r4 [0, 3, 4, 16]) c9k5) (.seq c9k7 (.region true c9r8 [0, 3, 4])))
def c9k10 : ACode := (.block 0 (.loop [0, 3, 4] c9b9))
def c9r11 : List AOper := [
  ⟨some 30, .mv, [.t 3], none⟩,
  ⟨some 31, .call, [.c (.pv none (.func (.func 23))), .t 30], none⟩,
  ⟨some 32, .not, [.t 31], none⟩]
def c9r12 : List AOper := [
  ⟨some 34, .mv, [.t 3], none⟩,
  ⟨some 35, .call, [.c (.pv none (.func (.func 18))), .t 34], none⟩,
  ⟨some 33, .mv, [.t 35], none⟩,
  ⟨some 36, (.extract 0), [.t 33], none⟩,
  ⟨some 37, (.extract 1), [.t 33], none⟩,
  ⟨some 5, .mv, [.t 36], none⟩,
  ⟨some 6, .mv, [.t 37], none⟩]
def c9r13 : List AOper := [
  ⟨some 38, .mv, [.t 6], none⟩,
  ⟨some 39, (.bin .eql), [.t 38, .c (.pv none (.int .i64 (1)))], none⟩,
  ⟨some 40, .mv, [.t 39], none⟩,
  ⟨some 41, .call, [.c (.pv none (.func (.func 14)))], some (40, true)⟩,
  ⟨some 42, .pick, [.t 40, .t 41, .c (.pv none (.bool false))], none⟩,
  ⟨some 2, .mv, [.t 42], none⟩]
def c9k14 : ACode := (.cond (.t 32) (.seq (.region true c9r12 [6]) (.seq (.region true c9r13 [2]) .ret)) .skip)
def c9r15 : List AOper := [
  ⟨some 44, .mv, [.t 3], none⟩,
  ⟨some 45, .call, [.c (.pv none (.func (.func 18))), .t 44], none⟩,
  ⟨some 43, .mv, [.t 45], none⟩,
  ⟨some 46, (.extract 0), [.t 43], none⟩,
  ⟨some 47, (.extract 1), [.t 43], none⟩,
  ⟨some 7, .mv, [.t 46], none⟩,
  ⟨some 8, .mv, [.t 47], none⟩]
def c9r16 : List AOper := [
  ⟨some 48, .mv, [.t 8], none⟩,
  ⟨some 49, (.bin .neq), [.t 48, .c (.pv none (.int .i64 (0)))], none⟩,
  ⟨some 50, .mv, [.t 49], none⟩,
  ⟨some 51, .mv, [.t 7], some (50, false)⟩,
  ⟨some 52, .len, [.t 51], some (50, false)⟩,
  ⟨some 53, .mv, [.t 3], some (50, false)⟩,
  ⟨some 54, .len, [.t 53], some (50, false)⟩,
  ⟨some 55, (.bin .neq), [.t 52, .t 54], some (50, false)⟩,
  ⟨some 56, .pick, [.t 50, .c (.pv none (.bool true)), .t 55], none⟩]
def c9r17 : List AOper := [
  ⟨some 2, .mv, [.c (.pv none (.bool false))], none⟩]
def c9k18 : ACode := (.cond (.t 56) (.seq (.region true c9r17 [2]) .ret) .skip)
def c9r19 : List AOper := [
  ⟨some 9, .mv, [.c (.pv none (.int .i64 (0)))], none⟩]
def c9r20 : List AOper := [
  ⟨some 57, .mv, [.t 9], none⟩,
  ⟨some 58, .mv, [.t 7], none⟩,
  ⟨some 59, .len, [.t 58], none⟩,
  ⟨some 60, (.bin .lss), [.t 57, .t 59], none⟩]
def c9k21 : ACode := (.cond (.t 60) .skip (.exit 2))
def c9r22 : List AOper := [
  ⟨some 63, .mv, [.t 7], none⟩,
  ⟨some 64, .mv, [.t 9], none⟩,
  ⟨some 65, (.iaddr (some 4)), [.t 63, .t 64], none⟩,
  ⟨some 66, (.faddr 3), [.t 65], none⟩,
  ⟨some 67, (.load none), [.t 66], none⟩,
  ⟨some 68, .len, [.t 67], none⟩,
  ⟨some 69, (.bin .neq), [.t 68, .c (.pv none (.int .i64 (2)))], none⟩,
  ⟨some 70, .mv, [.t 69], none⟩,
  ⟨some 71, .mv, [.t 7], some (70, false)⟩,
  ⟨some 72, .mv, [.t 7], some (70, false)⟩,
  ⟨some 73, .mv, [.t 9], some (70, false)⟩,
  ⟨some 74, (.iaddr (some 4)), [.t 72, .t 73], some (70, false)⟩,
  ⟨some 75, (.load (some 4)), [.t 74], some (70, false)⟩,
  ⟨some 76, .call, [.c (.pv none (.func (.func 32))), .t 71, .t 75], some (70, false)⟩,
  ⟨some 77, (.bin .neq), [.t 76, .c (.pv none (.int .i64 (1)))], some (70, false)⟩,
  ⟨some 78, .pick, [.t 70, .c (.pv none (.bool true)), .t 77], none⟩,
  ⟨some 79, .mv, [.t 78], none⟩,
  ⟨some 80, .mv, [.t 3], some (79, false)⟩,
  ⟨some 81, .mv, [.t 7], some (79, false)⟩,
  ⟨some 82, .mv, [.t 9], some (79, false)⟩,
  ⟨some 83, (.iaddr (some 4)), [.t 81, .t 82], some (79, false)⟩,
  ⟨some 84, (.load (some 4)), [.t 83], some (79, false)⟩,
  ⟨some 85, .call, [.c (.pv none (.func (.func 32))), .t 80, .t 84], some (79, false)⟩,
  ⟨some 86, (.bin .neq), [.t 85, .c (.pv none (.int .i64 (1)))], some (79, false)⟩,
  ⟨some 87, .pick, [.t 79, .c (.pv none (.bool true)), .t 86], none⟩]
def c9r23 : List AOper := [
  ⟨some 2, .mv, [.c (.pv none (.bool false))], none⟩]
def c9k24 : ACode := (.cond (.t 87) (.seq (.region true c9r23 [2]) .ret) .skip)
def c9r25 : List AOper := [
  ⟨some 88, .mv, [.t 9], none⟩,
  ⟨some 89, (.bin .eql), [.t 88, .c (.pv none (.int .i64 (0)))], none⟩]
def c9k26 : ACode := (.cond (.t 89) (.exit 3) .skip)
def c9r27 : List AOper := [
  ⟨some 90, .mv, [.t 7], none⟩,
  ⟨some 91, .mv, [.t 9], none⟩,
  ⟨some 92, (.bin .sub), [.t 91, .c (.pv none (.int .i64 (1)))], none⟩,
  ⟨some 93, (.iaddr (some 4)), [.t 90, .t 92], none⟩,
  ⟨some 94, (.faddr 3), [.t 93], none⟩,
  ⟨some 95, (.load none), [.t 94], none⟩,
  ⟨some 96, (.iaddr (some 4)), [.t 95, .c (.pv none (.int .i64 (0)))], none⟩,
  ⟨some 97, (.load (some 4)), [.t 96], none⟩,
  ⟨some 98, .mv, [.t 7], none⟩,
  ⟨some 99, .mv, [.t 9], none⟩,
  ⟨some 100, (.iaddr (some 4)), [.t 98, .t 99], none⟩,
  ⟨some 101, (.faddr 3), [.t 100], none⟩,
  ⟨some 102, (.load none), [.t 101], none⟩,
  ⟨some 103, (.iaddr (some 4)), [.t 102, .c (.pv none (.int .i64 (0)))], none⟩,
  ⟨some 104, (.load (some 4)), [.t 103], none⟩,
  ⟨some 105, .call, [.c (.pv none (.func (.func 12))), .t 97, .t 104], none⟩,
  ⟨some 10, .mv, [.t 105], none⟩]
def c9r28 : List AOper := [
  ⟨some 106, .mv, [.t 10], none⟩,
  ⟨some 107, (.bin .gtr), [.t 106, .c (.pv none (.int .i64 (0)))], none⟩,
  ⟨some 108, .mv, [.t 107], none⟩,
  ⟨some 109, .mv, [.t 10], some (108, false)⟩,
  ⟨some 110, (.bin .eql), [.t 109, .c (.pv none (.int .i64 (0)))], some (108, false)⟩,
  ⟨some 111, .mv, [.t 110], some (108, false)⟩,
  ⟨some 112, .mv, [.t 7], some (111, true)⟩,
  ⟨some 113, .mv, [.t 9], some (111, true)⟩,
  ⟨some 114, (.bin .sub), [.t 113, .c (.pv none (.int .i64 (1)))], some (111, true)⟩,
  ⟨some 115, (.iaddr (some 4)), [.t 112, .t 114], some (111, true)⟩,
  ⟨some 116, (.faddr 3), [.t 115], some (111, true)⟩,
  ⟨some 117, (.load none), [.t 116], some (111, true)⟩,
  ⟨some 118, (.iaddr (some 4)), [.t 117, .c (.pv none (.int .i64 (1)))], some (111, true)⟩,
  ⟨some 119, (.faddr 1), [.t 118], some (111, true)⟩,
  ⟨some 120, (.load none), [.t 119], some (111, true)⟩,
  ⟨some 121, .mv, [.t 7], some (111, true)⟩,
  ⟨some 122, .mv, [.t 9], some (111, true)⟩,
  ⟨some 123, (.iaddr (some 4)), [.t 121, .t 122], some (111, true)⟩,
  ⟨some 124, (.faddr 3), [.t 123], some (111, true)⟩,
  ⟨some 125, (.load none), [.t 124], some (111, true)⟩,
  ⟨some 126, (.iaddr (some 4)), [.t 125, .c (.pv none (.int .i64 (1)))], some (111, true)⟩,
  ⟨some 127, (.faddr 1), [.t 126], some (111, true)⟩,
  ⟨some 128, (.load none), [.t 127], some (111, true)⟩,
  ⟨some 129, (.bin .geq), [.t 120, .t 128], some (111, true)⟩,
  ⟨some 130, .pick, [.t 111, .t 129, .c (.pv none (.bool false))], some (108, false)⟩,
  ⟨some 131, .pick, [.t 108, .c (.pv none (.bool true)), .t 130], none⟩]
def c9r29 : List AOper := [
  ⟨some 2, .mv, [.c (.pv none (.bool false))], none⟩]
def c9k30 : ACode := (.cond (.t 131) (.seq (.region true c9r29 [2]) .ret) .skip)
def c9k31 : ACode := (.block 3 (.seq (.seq (.region true c9r22 [3, 7, 9, 87]) c9k24) (.seq (.seq (.region true c9r25 [3, 7, 9, 89]) c9k26) (.seq (.region true c9r27 [3, 7, 9, 10]) (.seq (.region true c9r28 [3, 7, 9, 131]) c9k30)))))
def c9r32 : List AOper := [
  ⟨some 61, .mv, [.t 9], none⟩,
  ⟨some 62, (.bin .add), [.t 61, .c (.pv none (.int .i64 (1)))], none⟩,
  ⟨some 9, .mv, [.t 62], none⟩]
def c9b33 : ACode := (.seq (.seq (.region true c9r20 [3, 7, 9, 60]) c9k21) (.seq c9k31 (.region true c9r32 [3, 7, 9])))
def c9k34 : ACode := (.block 2 (.loop [3, 7, 9] c9b33))
def c9r35 : List AOper := [
  ⟨some 132, .call, [.c (.pv none (.func (.func 14)))], none⟩,
  ⟨some 2, .mv, [.t 132], none⟩]
def c9 : ACode := (.seq (.region true c9r0 [0]) (.seq (.region true c9r1 [0]) (.seq (.region true c9r2 [0, 3]) (.seq (.seq (.region true c9r3 [0, 3, 4]) c9k10) (.seq (.seq (.region true c9r11 [3, 32]) c9k14) (.seq (.region true c9r15 [3, 7, 8]) (.seq (.seq (.region true c9r16 [3, 7, 56]) c9k18) (.seq (.seq (.region true c9r19 [3, 7, 9]) c9k34) (.seq (.region true c9r35 [2]) .ret)))))))))
def g9 : AFn := ⟨1, [(2, none)], c9, false⟩
theorem tr9 : trFn Try.prog false Try.f9 = some g9 := by kernel_rfl
/- hornbeam/hornbeamlaw04.OrderRanked -/
def c10r0 : List AOper := [
  ⟨some 3, (.box (some 4)), [.t 1], none⟩,
  ⟨some 4, .mv, [.c (.pv none (.bool false))], none⟩]
def c10r1 : List AOper := [
  ⟨some 14, .mv, [.t 0], none⟩,
  ⟨some 15, .call, [.c (.pv none (.func (.func 15))), .t 14], none⟩,
  ⟨some 0, .mv, [.t 15], none⟩]
def c10r2 : List AOper := [
  ⟨some 16, .mv, [.t 0], none⟩,
  ⟨some 17, .call, [.c (.pv none (.func (.func 23))), .t 16], none⟩,
  ⟨some 18, .not, [.t 17], none⟩,
  ⟨some 19, .mv, [.t 18], none⟩,
  ⟨some 20, (.load (some 4)), [.t 3], some (19, false)⟩,
  ⟨some 21, .call, [.c (.pv none (.func (.func 31))), .t 20], some (19, false)⟩,
  ⟨some 22, .not, [.t 21], some (19, false)⟩,
  ⟨some 23, .pick, [.t 19, .c (.pv none (.bool true)), .t 22], none⟩]
def c10r3 : List AOper := [
  ⟨some 25, .mv, [.t 0], none⟩,
  ⟨some 26, (.load (some 4)), [.t 3], none⟩,
  ⟨some 27, .call, [.c (.pv none (.func (.func 26))), .t 25, .t 26], none⟩,
  ⟨some 24, .mv, [.t 27], none⟩,
  ⟨some 28, (.extract 0), [.t 24], none⟩,
  ⟨some 29, (.extract 1), [.t 24], none⟩,
  ⟨some 5, .mv, [.t 28], none⟩,
  ⟨some 6, .mv, [.t 29], none⟩]
def c10r4 : List AOper := [
  ⟨some 30, .mv, [.t 5], none⟩,
  ⟨some 31, (.bin .eql), [.t 30, .c (.pv none (.int .i64 (0)))], none⟩,
  ⟨some 32, .mv, [.t 31], none⟩,
  ⟨some 33, .mv, [.t 6], some (32, true)⟩,
  ⟨some 34, .not, [.t 33], some (32, true)⟩,
  ⟨some 35, .pick, [.t 32, .t 34, .c (.pv none (.bool false))], none⟩,
  ⟨some 36, .mv, [.t 35], none⟩,
  ⟨some 37, .call, [.c (.pv none (.func (.func 14)))], some (36, true)⟩,
  ⟨some 38, .pick, [.t 36, .t 37, .c (.pv none (.bool false))], none⟩,
  ⟨some 4, .mv, [.t 38], none⟩]
def c10k5 : ACode := (.cond (.t 23) (.seq (.region true c10r3 [5, 6]) (.seq (.region true c10r4 [4]) .ret)) .skip)
def c10r6 : List AOper := [
  ⟨some 40, .mv, [.t 0], none⟩,
  ⟨some 41, .call, [.c (.pv none (.func (.func 16))), .t 40], none⟩,
  ⟨some 39, .mv, [.t 41], none⟩,
  ⟨some 42, (.extract 0), [.t 39], none⟩,
  ⟨some 43, (.extract 1), [.t 39], none⟩,
  ⟨some 7, .mv, [.t 42], none⟩,
  ⟨some 8, .mv, [.t 43], none⟩]
def c10r7 : List AOper := [
  ⟨some 45, .mv, [.t 7], none⟩,
  ⟨some 46, (.load (some 4)), [.t 3], none⟩,
  ⟨some 47, .call, [.c (.pv none (.func (.func 26))), .t 45, .t 46], none⟩,
  ⟨some 44, .mv, [.t 47], none⟩,
  ⟨some 48, (.extract 0), [.t 44], none⟩,
  ⟨some 49, (.extract 1), [.t 44], none⟩,
  ⟨some 9, .mv, [.t 48], none⟩,
  ⟨some 10, .mv, [.t 49], none⟩]
def c10r8 : List AOper := [
  ⟨some 50, .mv, [.t 9], none⟩,
  ⟨some 51, (.bin .lss), [.t 50, .c (.pv none (.int .i64 (0)))], none⟩,
  ⟨some 52, .mv, [.t 51], none⟩,
  ⟨some 53, .mv, [.t 9], some (52, false)⟩,
  ⟨some 54, .mv, [.t 7], some (52, false)⟩,
  ⟨some 55, .len, [.t 54], some (52, false)⟩,
  ⟨some 56, (.bin .gtr), [.t 53, .t 55], some (52, false)⟩,
  ⟨some 57, .pick, [.t 52, .c (.pv none (.bool true)), .t 56], none⟩,
  ⟨some 58, .mv, [.t 57], none⟩,
  ⟨some 59, .mv, [.t 10], some (58, false)⟩,
  ⟨some 60, .mv, [.t 7], some (58, false)⟩,
  ⟨some 61, (.load (some 4)), [.t 3], some (58, false)⟩,
  ⟨some 62, .call, [.c (.pv none (.func (.func 32))), .t 60, .t 61], some (58, false)⟩,
  ⟨some 63, (.bin .eql), [.t 62, .c (.pv none (.int .i64 (1)))], some (58, false)⟩,
  ⟨some 64, (.binb .neq), [.t 59, .t 63], some (58, false)⟩,
  ⟨some 65, .pick, [.t 58, .c (.pv none (.bool true)), .t 64], none⟩]
def c10r9 : List AOper := [
  ⟨some 4, .mv, [.c (.pv none (.bool false))], none⟩]
def c10k10 : ACode := (.cond (.t 65) (.seq (.region true c10r9 [4]) .ret) .skip)
def c10r11 : List AOper := [
  ⟨some 11, .mv, [.c (.pv none (.int .i64 (0)))], none⟩]
def c10r12 : List AOper := [
  ⟨some 66, .mv, [.t 11], none⟩,
  ⟨some 67, .mv, [.t 7], none⟩,
  ⟨some 68, .len, [.t 67], none⟩,
  ⟨some 69, (.bin .lss), [.t 66, .t 68], none⟩]
def c10k13 : ACode := (.cond (.t 69) .skip (.exit 0))
def c10r14 : List AOper := [
  ⟨some 72, .mv, [.t 7], none⟩,
  ⟨some 73, .mv, [.t 11], none⟩,
  ⟨some 74, (.iaddr (some 4)), [.t 72, .t 73], none⟩,
  ⟨some 75, (.load (some 4)), [.t 74], none⟩,
  ⟨some 76, (.load (some 4)), [.t 3], none⟩,
  ⟨some 77, .call, [.c (.pv none (.func (.func 12))), .t 75, .t 76], none⟩,
  ⟨some 78, (.bin .lss), [.t 77, .c (.pv none (.int .i64 (0)))], none⟩,
  ⟨some 79, .mv, [.t 11], none⟩,
  ⟨some 80, .mv, [.t 9], none⟩,
  ⟨some 81, (.bin .lss), [.t 79, .t 80], none⟩,
  ⟨some 82, (.binb .neq), [.t 78, .t 81], none⟩]
def c10r15 : List AOper := [
  ⟨some 4, .mv, [.c (.pv none (.bool false))], none⟩]
def c10k16 : ACode := (.cond (.t 82) (.seq (.region true c10r15 [4]) .ret) .skip)
def c10k17 : ACode := (.block 1 (.seq (.region false c10r14 [3, 7, 9, 11, 82]) c10k16))
def c10r18 : List AOper := [
  ⟨some 70, .mv, [.t 11], none⟩,
  ⟨some 71, (.bin .add), [.t 70, .c (.pv none (.int .i64 (1)))], none⟩,
  ⟨some 11, .mv, [.t 71], none⟩]
def c10b19 : ACode := (.seq (.seq (.region true c10r12 [3, 7, 9, 11, 69]) c10k13) (.seq c10k17 (.region true c10r18 [3, 7, 9, 11])))
def c10k20 : ACode := (.block 0 (.loop [3, 7, 9, 11] c10b19))
def c10r21 : List AOper := [
  ⟨some 83, .mv, [.t 7], none⟩,
  ⟨some 84, .len, [.t 83], none⟩,
  ⟨some 85, (.bin .gtr), [.t 84, .c (.pv none (.int .i64 (1)))], none⟩]
def c10r22 : List AOper := [
  ⟨some 86, .mv, [.t 7], none⟩,
  ⟨some 87, .mv, [.t 7], none⟩,
  ⟨some 88, .mv, [.t 7], none⟩,
  ⟨some 89, (.iaddr (some 4)), [.t 88, .c (.pv none (.int .i64 (1)))], none⟩,
  ⟨some 90, (.load (some 4)), [.t 89], none⟩,
  ⟨some 91, .mv, [.t 7], none⟩,
  ⟨some 92, (.iaddr (some 4)), [.t 91, .c (.pv none (.int .i64 (0)))], none⟩,
  ⟨some 93, (.load (some 4)), [.t 92], none⟩,
  ⟨some 94, (.iaddr (some 4)), [.t 86, .c (.pv none (.int .i64 (0)))], none⟩,
  ⟨none, (.store (some 4)), [.t 94, .t 90], none⟩,
  ⟨some 95, (.iaddr (some 4)), [.t 87, .c (.pv none (.int .i64 (1)))], none⟩,
  ⟨none, (.store (some 4)), [.t 95, .t 93], none⟩]
def c10r23 : List AOper := [
  ⟨some 97, .mv, [.t 7], none⟩,
  ⟨some 98, (.load (some 4)), [.t 3], none⟩,
  ⟨some 99, .call, [.c (.pv none (.func (.func 26))), .t 97, .t 98], none⟩,
  ⟨some 96, .mv, [.t 99], none⟩,
  ⟨some 100, (.extract 0), [.t 96], none⟩,
  ⟨some 101, (.extract 1), [.t 96], none⟩,
  ⟨some 12, .mv, [.t 100], none⟩,
  ⟨some 13, .mv, [.t 101], none⟩]
def c10r24 : List AOper := [
  ⟨some 102, .mv, [.t 12], none⟩,
  ⟨some 103, (.bin .eql), [.t 102, .c (.pv none (.int .i64 (0)))], none⟩,
  ⟨some 104, .mv, [.t 103], none⟩,
  ⟨some 105, .mv, [.t 13], some (104, true)⟩,
  ⟨some 106, .not, [.t 105], some (104, true)⟩,
  ⟨some 107, .pick, [.t 104, .t 106, .c (.pv none (.bool false))], none⟩,
  ⟨some 108, .mv, [.t 107], none⟩,
  ⟨some 109, .call, [.c (.pv none (.func (.func 14)))], some (108, true)⟩,
  ⟨some 110, .pick, [.t 108, .t 109, .c (.pv none (.bool false))], none⟩,
  ⟨some 4, .mv, [.t 110], none⟩]
def c10k25 : ACode := (.cond (.t 85) (.seq (.region true c10r22 [3, 7]) (.seq (.region true c10r23 [12, 13]) (.seq (.region true c10r24 [4]) .ret))) .skip)
def c10r26 : List AOper := [
  ⟨some 111, .call, [.c (.pv none (.func (.func 14)))], none⟩,
  ⟨some 4, .mv, [.t 111], none⟩]
def c10 : ACode := (.seq (.region true c10r0 [0, 3]) (.seq (.region true c10r1 [0, 3]) (.seq (.seq (.region true c10r2 [0, 3, 23]) c10k5) (.seq (.region true c10r6 [3, 7]) (.seq (.region true c10r7 [3, 7, 9, 10]) (.seq (.seq (.region true c10r8 [3, 7, 9, 65]) c10k10) (.seq (.seq (.region true c10r11 [3, 7, 9, 11]) c10k20) (.seq (.seq (.region true c10r21 [3, 7, 85]) c10k25) (.seq (.region true c10r26 [4]) .ret)))))))))
def g10 : AFn := ⟨2, [(4, none)], c10, false⟩
theorem tr10 : trFn Try.prog false Try.f10 = some g10 := by kernel_rfl
/- hornbeam/hornbeamlaw04.OrderKnown -/
def c11r0 : List AOper := [
  ⟨some 0, .mv, [.c (.pv none (.bool false))], none⟩]
def c11r1 : List AOper := [
  ⟨some 23, .call, [.c (.pv none (.func (.func 34))), .c (.pv none (.int .i64 (-9223372036854775808)))], none⟩,
  ⟨some 24, .call, [.c (.pv none (.func (.func 34))), .c (.pv none (.int .i64 (9223372036854775807)))], none⟩,
  ⟨some 1, (.alloc (some 4) (.agg [(none, (.pv none (.int .i64 (0)))), (none, (.pv none (.int .i64 (0)))), (none, (.pv none (.str []))), (none, (.tsl (some 4) []))])), [], none⟩,
  ⟨some 2, (.alloc (some 4) (.agg [(none, (.pv none (.int .i64 (0)))), (none, (.pv none (.int .i64 (0)))), (none, (.pv none (.str []))), (none, (.tsl (some 4) []))])), [], none⟩,
  ⟨none, (.store (some 4)), [.t 1, .t 23], none⟩,
  ⟨none, (.store (some 4)), [.t 2, .t 24], none⟩]
def c11r2 : List AOper := [
  ⟨some 25, .callp, [.c (.pv none (.func (.func 30))), .c (.pv none (.int .i64 (0)))], none⟩,
  ⟨some 26, .callp, [.c (.pv none (.func (.func 30))), .c (.pv none (.int .i64 (1)))], none⟩,
  ⟨some 27, .callp, [.c (.pv none (.func (.func 30))), .c (.pv none (.int .i64 (1099511627776)))], none⟩,
  ⟨some 28, (.load (some 4)), [.t 1], none⟩,
  ⟨some 29, .callp, [.c (.pv none (.func (.func 34))), .c (.pv none (.int .i64 (-1)))], none⟩,
  ⟨some 30, .callp, [.c (.pv none (.func (.func 34))), .c (.pv none (.int .i64 (0)))], none⟩,
  ⟨some 31, .callp, [.c (.pv none (.func (.func 34))), .c (.pv none (.int .i64 (1)))], none⟩,
  ⟨some 32, (.load (some 4)), [.t 2], none⟩,
  ⟨some 33, .callp, [.c (.pv none (.func (.func 35))), .c (.pv none (.str []))], none⟩,
  ⟨some 34, .callp, [.c (.pv none (.func (.func 35))), .c (.pv none (.str [65]))], none⟩,
  ⟨some 35, .callp, [.c (.pv none (.func (.func 35))), .c (.pv none (.str [97]))], none⟩,
  ⟨some 36, .callp, [.c (.pv none (.func (.func 35))), .c (.pv none (.str [97, 0]))], none⟩,
  ⟨some 37, .callp, [.c (.pv none (.func (.func 35))), .c (.pv none (.str [97, 98]))], none⟩,
  ⟨some 38, .callp, [.c (.pv none (.func (.func 35))), .c (.pv none (.str [98]))], none⟩,
  ⟨some 39, .callp, [.c (.pv none (.func (.func 35))), .c (.pv none (.str [128]))], none⟩,
  ⟨some 40, .callp, [.c (.pv none (.func (.func 30))), .c (.pv none (.int .i64 (0)))], none⟩,
  ⟨some 41, (.bslicep (some 4)), [.t 40], none⟩,
  ⟨some 42, .callp, [.c (.pv none (.func (.func 33))), .c (.pv none (.str [])), .t 41], none⟩,
  ⟨some 43, .callp, [.c (.pv none (.func (.func 30))), .c (.pv none (.int .i64 (0)))], none⟩,
  ⟨some 44, (.bslicep (some 4)), [.t 43], none⟩,
  ⟨some 45, .callp, [.c (.pv none (.func (.func 33))), .c (.pv none (.str [97])), .t 44], none⟩,
  ⟨some 46, .callp, [.c (.pv none (.func (.func 35))), .c (.pv none (.str [122]))], none⟩,
  ⟨some 47, (.bslicep (some 4)), [.t 46], none⟩,
  ⟨some 48, .callp, [.c (.pv none (.func (.func 33))), .c (.pv none (.str [97])), .t 47], none⟩,
  ⟨some 49, .callp, [.c (.pv none (.func (.func 30))), .c (.pv none (.int .i64 (0)))], none⟩,
  ⟨some 50, (.bslicep (some 4)), [.t 49], none⟩,
  ⟨some 51, .callp, [.c (.pv none (.func (.func 33))), .c (.pv none (.str [98])), .t 50], none⟩,
  ⟨some 52, .callp, [.c (.pv none (.func (.func 30))), .c (.pv none (.int .i64 (0)))], none⟩,
  ⟨some 53, .callp, [.c (.pv none (.func (.func 30))), .c (.pv none (.int .i64 (0)))], none⟩,
  ⟨some 54, (.bslicep (some 4)), [.t 52, .t 53], none⟩,
  ⟨some 55, .callp, [.c (.pv none (.func (.func 33))), .c (.pv none (.str [])), .t 54], none⟩,
  ⟨some 56, .callp, [.c (.pv none (.func (.func 30))), .c (.pv none (.int .i64 (0)))], none⟩,
  ⟨some 57, .callp, [.c (.pv none (.func (.func 30))), .c (.pv none (.int .i64 (1)))], none⟩,
  ⟨some 58, (.bslicep (some 4)), [.t 56, .t 57], none⟩,
  ⟨some 59, .callp, [.c (.pv none (.func (.func 33))), .c (.pv none (.str [97])), .t 58], none⟩,
  ⟨some 60, .callp, [.c (.pv none (.func (.func 30))), .c (.pv none (.int .i64 (1)))], none⟩,
  ⟨some 61, .callp, [.c (.pv none (.func (.func 30))), .c (.pv none (.int .i64 (0)))], none⟩,
  ⟨some 62, (.bslicep (some 4)), [.t 60, .t 61], none⟩,
  ⟨some 63, .callp, [.c (.pv none (.func (.func 33))), .c (.pv none (.str [97])), .t 62], none⟩,
  ⟨some 64, (.bslicep (some 4)), [.t 25, .t 26, .t 27, .t 28, .t 29, .t 30, .t 31, .t 32, .t 33, .t 34, .t 35, .t 36, .t 37, .t 38, .t 39, .t 42, .t 45, .t 48, .t 51, .t 55, .t 59, .t 63], none⟩,
  ⟨some 3, .mv, [.t 64], none⟩]
def c11r3 : List AOper := [
  ⟨some 4, .mv, [.c (.pv none (.int .i64 (0)))], none⟩]
def c11r4 : List AOper := [
  ⟨some 65, .mv, [.t 4], none⟩,
  ⟨some 66, .mv, [.t 3], none⟩,
  ⟨some 67, .len, [.t 66], none⟩,
  ⟨some 68, (.bin .lss), [.t 65, .t 67], none⟩]
def c11k5 : ACode := (.cond (.t 68) .skip (.exit 0))
def c11r6 : List AOper := [
  ⟨some 5, .mv, [.c (.pv none (.int .i64 (0)))], none⟩]
def c11r7 : List AOper := [
  ⟨some 71, .mv, [.t 5], none⟩,
  ⟨some 72, .mv, [.t 3], none⟩,
  ⟨some 73, .len, [.t 72], none⟩,
  ⟨some 74, (.bin .lss), [.t 71, .t 73], none⟩]
def c11k8 : ACode := (.cond (.t 74) .skip (.exit 2))
def c11r9 : List AOper := [
  ⟨some 6, .mv, [.c (.pv none (.int .i64 (0)))], none⟩]
def c11r10 : List AOper := [
  ⟨some 77, .mv, [.t 4], none⟩,
  ⟨some 78, .mv, [.t 5], none⟩,
  ⟨some 79, (.bin .lss), [.t 77, .t 78], none⟩]
def c11r11 : List AOper := [
  ⟨some 6, .mv, [.c (.pv none (.int .i64 (-1)))], none⟩]
def c11k12 : ACode := (.cond (.t 79) (.region true c11r11 [3, 4, 5, 6]) .skip)
def c11r13 : List AOper := [
  ⟨some 80, .mv, [.t 4], none⟩,
  ⟨some 81, .mv, [.t 5], none⟩,
  ⟨some 82, (.bin .gtr), [.t 80, .t 81], none⟩]
def c11r14 : List AOper := [
  ⟨some 6, .mv, [.c (.pv none (.int .i64 (1)))], none⟩]
def c11k15 : ACode := (.cond (.t 82) (.region true c11r14 [3, 4, 5, 6]) .skip)
def c11r16 : List AOper := [
  ⟨some 83, .mv, [.t 3], none⟩,
  ⟨some 84, .mv, [.t 4], none⟩,
  ⟨some 85, (.iaddr (some 4)), [.t 83, .t 84], none⟩,
  ⟨some 86, (.load (some 4)), [.t 85], none⟩,
  ⟨some 87, .mv, [.t 3], none⟩,
  ⟨some 88, .mv, [.t 5], none⟩,
  ⟨some 89, (.iaddr (some 4)), [.t 87, .t 88], none⟩,
  ⟨some 90, (.load (some 4)), [.t 89], none⟩,
  ⟨some 91, .call, [.c (.pv none (.func (.func 12))), .t 86, .t 90], none⟩,
  ⟨some 92, .mv, [.t 6], none⟩,
  ⟨some 93, (.bin .neq), [.t 91, .t 92], none⟩]
def c11r17 : List AOper := [
  ⟨some 0, .mv, [.c (.pv none (.bool false))], none⟩]
def c11k18 : ACode := (.cond (.t 93) (.seq (.region true c11r17 [0]) .ret) .skip)
def c11k19 : ACode := (.block 3 (.seq (.region true c11r9 [3, 4, 5, 6]) (.seq (.seq (.region true c11r10 [3, 4, 5, 6, 79]) c11k12) (.seq (.seq (.region true c11r13 [3, 4, 5, 6, 82]) c11k15) (.seq (.region false c11r16 [3, 4, 5, 93]) c11k18)))))
def c11r20 : List AOper := [
  ⟨some 75, .mv, [.t 5], none⟩,
  ⟨some 76, (.bin .add), [.t 75, .c (.pv none (.int .i64 (1)))], none⟩,
  ⟨some 5, .mv, [.t 76], none⟩]
def c11b21 : ACode := (.seq (.seq (.region true c11r7 [3, 4, 5, 74]) c11k8) (.seq c11k19 (.region true c11r20 [3, 4, 5])))
def c11k22 : ACode := (.block 2 (.loop [3, 4, 5] c11b21))
def c11k23 : ACode := (.block 1 (.seq (.region true c11r6 [3, 4, 5]) c11k22))
def c11r24 : List AOper := [
  ⟨some 69, .mv, [.t 4], none⟩,
  ⟨some 70, (.bin .add), [.t 69, .c (.pv none (.int .i64 (1)))], none⟩,
  ⟨some 4, .mv, [.t 70], none⟩]
def c11b25 : ACode := (.seq (.seq (.region true c11r4 [3, 4, 68]) c11k5) (.seq c11k23 (.region true c11r24 [3, 4])))
def c11k26 : ACode := (.block 0 (.loop [3, 4] c11b25))
def c11r27 : List AOper := [
  ⟨some 95, .call, [.c (.pv none (.func (.func 35))), .c (.pv none (.str [98]))], none⟩,
  ⟨some 96, .call, [.c (.pv none (.func (.func 34))), .c (.pv none (.int .i64 (1)))], none⟩,
  ⟨some 97, (.bslice (some 4)), [.t 95, .t 96], none⟩,
  ⟨some 98, .call, [.c (.pv none (.func (.func 33))), .c (.pv none (.str [45])), .t 97], none⟩,
  ⟨some 99, .call, [.c (.pv none (.func (.func 35))), .c (.pv none (.str [97]))], none⟩,
  ⟨some 100, (.bslice (some 4)), [.t 98, .t 99], none⟩,
  ⟨some 101, .call, [.c (.pv none (.func (.func 18))), .t 100], none⟩,
  ⟨some 94, .mv, [.t 101], none⟩,
  ⟨some 102, (.extract 0), [.t 94], none⟩,
  ⟨some 103, (.extract 1), [.t 94], none⟩,
  ⟨some 7, .mv, [.t 102], none⟩,
  ⟨some 8, .mv, [.t 103], none⟩]
def c11r28 : List AOper := [
  ⟨some 105, .call, [.c (.pv none (.func (.func 35))), .c (.pv none (.str [97]))], none⟩,
  ⟨some 106, .call, [.c (.pv none (.func (.func 30))), .c (.pv none (.int .i64 (-1)))], none⟩,
  ⟨some 107, (.bslice (some 4)), [.t 105, .t 106], none⟩,
  ⟨some 108, .call, [.c (.pv none (.func (.func 18))), .t 107], none⟩,
  ⟨some 104, .mv, [.t 108], none⟩,
  ⟨some 109, (.extract 0), [.t 104], none⟩,
  ⟨some 110, (.extract 1), [.t 104], none⟩,
  ⟨some 9, .mv, [.t 109], none⟩,
  ⟨some 10, .mv, [.t 110], none⟩]
def c11r29 : List AOper := [
  ⟨some 112, .call, [.c (.pv none (.func (.func 30))), .c (.pv none (.int .i64 (-1)))], none⟩,
  ⟨some 113, (.bslice (some 4)), [.t 112], none⟩,
  ⟨some 114, .call, [.c (.pv none (.func (.func 16))), .t 113], none⟩,
  ⟨some 111, .mv, [.t 114], none⟩,
  ⟨some 115, (.extract 0), [.t 111], none⟩,
  ⟨some 116, (.extract 1), [.t 111], none⟩,
  ⟨some 11, .mv, [.t 115], none⟩,
  ⟨some 12, .mv, [.t 116], none⟩]
def c11r30 : List AOper := [
  ⟨some 118, .call, [.c (.pv none (.func (.func 33))), .c (.pv none (.str [102])), .c (.tsl (some 4) [])], none⟩,
  ⟨some 119, (.bslice (some 4)), [.t 118], none⟩,
  ⟨some 120, .call, [.c (.pv none (.func (.func 17))), .t 119], none⟩,
  ⟨some 117, .mv, [.t 120], none⟩,
  ⟨some 121, (.extract 0), [.t 117], none⟩,
  ⟨some 122, (.extract 1), [.t 117], none⟩,
  ⟨some 13, .mv, [.t 121], none⟩,
  ⟨some 14, .mv, [.t 122], none⟩]
def c11r31 : List AOper := [
  ⟨some 124, .call, [.c (.pv none (.func (.func 16))), .c (.tsl (some 4) [])], none⟩,
  ⟨some 123, .mv, [.t 124], none⟩,
  ⟨some 125, (.extract 0), [.t 123], none⟩,
  ⟨some 126, (.extract 1), [.t 123], none⟩,
  ⟨some 15, .mv, [.t 125], none⟩,
  ⟨some 16, .mv, [.t 126], none⟩]
def c11r32 : List AOper := [
  ⟨some 128, .call, [.c (.pv none (.func (.func 35))), .c (.pv none (.str [100]))], none⟩,
  ⟨some 129, .call, [.c (.pv none (.func (.func 26))), .c (.tsl (some 4) []), .t 128], none⟩,
  ⟨some 127, .mv, [.t 129], none⟩,
  ⟨some 130, (.extract 0), [.t 127], none⟩,
  ⟨some 131, (.extract 1), [.t 127], none⟩,
  ⟨some 17, .mv, [.t 130], none⟩,
  ⟨some 18, .mv, [.t 131], none⟩]
def c11r33 : List AOper := [
  ⟨some 133, .call, [.c (.pv none (.func (.func 35))), .c (.pv none (.str [99]))], none⟩,
  ⟨some 134, .call, [.c (.pv none (.func (.func 35))), .c (.pv none (.str [97]))], none⟩,
  ⟨some 135, (.bslice (some 4)), [.t 133, .t 134], none⟩,
  ⟨some 136, .call, [.c (.pv none (.func (.func 35))), .c (.pv none (.str [99]))], none⟩,
  ⟨some 137, .call, [.c (.pv none (.func (.func 26))), .t 135, .t 136], none⟩,
  ⟨some 132, .mv, [.t 137], none⟩,
  ⟨some 138, (.extract 0), [.t 132], none⟩,
  ⟨some 139, (.extract 1), [.t 132], none⟩,
  ⟨some 19, .mv, [.t 138], none⟩,
  ⟨some 20, .mv, [.t 139], none⟩]
def c11r34 : List AOper := [
  ⟨some 141, .call, [.c (.pv none (.func (.func 35))), .c (.pv none (.str [97]))], none⟩,
  ⟨some 142, .call, [.c (.pv none (.func (.func 35))), .c (.pv none (.str [98]))], none⟩,
  ⟨some 143, .call, [.c (.pv none (.func (.func 35))), .c (.pv none (.str [99]))], none⟩,
  ⟨some 144, (.bslice (some 4)), [.t 141, .t 142, .t 143], none⟩,
  ⟨some 145, .call, [.c (.pv none (.func (.func 35))), .c (.pv none (.str [98]))], none⟩,
  ⟨some 146, .call, [.c (.pv none (.func (.func 26))), .t 144, .t 145], none⟩,
  ⟨some 140, .mv, [.t 146], none⟩,
  ⟨some 147, (.extract 0), [.t 140], none⟩,
  ⟨some 148, (.extract 1), [.t 140], none⟩,
  ⟨some 21, .mv, [.t 147], none⟩,
  ⟨some 22, .mv, [.t 148], none⟩]
def c11r35 : List AOper := [
  ⟨some 149, .mv, [.t 8], none⟩,
  ⟨some 150, (.bin .eql), [.t 149, .c (.pv none (.int .i64 (3)))], none⟩,
  ⟨some 151, .mv, [.t 150], none⟩,
  ⟨some 152, .mv, [.t 10], some (151, true)⟩,
  ⟨some 153, (.bin .eql), [.t 152, .c (.pv none (.int .i64 (1)))], some (151, true)⟩,
  ⟨some 154, .pick, [.t 151, .t 153, .c (.pv none (.bool false))], none⟩,
  ⟨some 155, .mv, [.t 154], none⟩,
  ⟨some 156, .mv, [.t 12], some (155, true)⟩,
  ⟨some 157, (.bin .eql), [.t 156, .c (.pv none (.int .i64 (1)))], some (155, true)⟩,
  ⟨some 158, .pick, [.t 155, .t 157, .c (.pv none (.bool false))], none⟩,
  ⟨some 159, .mv, [.t 158], none⟩,
  ⟨some 160, .mv, [.t 14], some (159, true)⟩,
  ⟨some 161, (.bin .eql), [.t 160, .c (.pv none (.int .i64 (1)))], some (159, true)⟩,
  ⟨some 162, .pick, [.t 159, .t 161, .c (.pv none (.bool false))], none⟩,
  ⟨some 163, .mv, [.t 162], none⟩,
  ⟨some 164, .mv, [.t 16], some (163, true)⟩,
  ⟨some 165, (.bin .eql), [.t 164, .c (.pv none (.int .i64 (0)))], some (163, true)⟩,
  ⟨some 166, .pick, [.t 163, .t 165, .c (.pv none (.bool false))], none⟩,
  ⟨some 167, .mv, [.t 166], none⟩,
  ⟨some 168, .mv, [.t 15], some (167, true)⟩,
  ⟨some 169, .len, [.t 168], some (167, true)⟩,
  ⟨some 170, (.bin .eql), [.t 169, .c (.pv none (.int .i64 (0)))], some (167, true)⟩,
  ⟨some 171, .pick, [.t 167, .t 170, .c (.pv none (.bool false))], none⟩,
  ⟨some 172, .mv, [.t 171], none⟩,
  ⟨some 173, .mv, [.t 17], some (172, true)⟩,
  ⟨some 174, (.bin .eql), [.t 173, .c (.pv none (.int .i64 (0)))], some (172, true)⟩,
  ⟨some 175, .pick, [.t 172, .t 174, .c (.pv none (.bool false))], none⟩,
  ⟨some 176, .mv, [.t 175], none⟩,
  ⟨some 177, .mv, [.t 18], some (176, true)⟩,
  ⟨some 178, .not, [.t 177], some (176, true)⟩,
  ⟨some 179, .pick, [.t 176, .t 178, .c (.pv none (.bool false))], none⟩,
  ⟨some 180, .mv, [.t 179], none⟩,
  ⟨some 181, .mv, [.t 19], some (180, true)⟩,
  ⟨some 182, (.bin .eql), [.t 181, .c (.pv none (.int .i64 (0)))], some (180, true)⟩,
  ⟨some 183, .pick, [.t 180, .t 182, .c (.pv none (.bool false))], none⟩,
  ⟨some 184, .mv, [.t 183], none⟩,
  ⟨some 185, .mv, [.t 20], some (184, true)⟩,
  ⟨some 186, .not, [.t 185], some (184, true)⟩,
  ⟨some 187, .pick, [.t 184, .t 186, .c (.pv none (.bool false))], none⟩,
  ⟨some 188, .mv, [.t 187], none⟩,
  ⟨some 189, .mv, [.t 21], some (188, true)⟩,
  ⟨some 190, (.bin .eql), [.t 189, .c (.pv none (.int .i64 (1)))], some (188, true)⟩,
  ⟨some 191, .pick, [.t 188, .t 190, .c (.pv none (.bool false))], none⟩,
  ⟨some 192, .mv, [.t 191], none⟩,
  ⟨some 193, .mv, [.t 22], some (192, true)⟩,
  ⟨some 194, .pick, [.t 192, .t 193, .c (.pv none (.bool false))], none⟩,
  ⟨some 195, .mv, [.t 194], none⟩,
  ⟨some 196, .call, [.c (.pv none (.func (.func 30))), .c (.pv none (.int .i64 (-1)))], some (195, true)⟩,
  ⟨some 197, .call, [.c (.pv none (.func (.func 35))), .c (.pv none (.str [97]))], some (195, true)⟩,
  ⟨some 198, .call, [.c (.pv none (.func (.func 12))), .t 196, .t 197], some (195, true)⟩,
  ⟨some 199, (.bin .eql), [.t 198, .c (.pv none (.int .i64 (0)))], some (195, true)⟩,
  ⟨some 200, .pick, [.t 195, .t 199, .c (.pv none (.bool false))], none⟩,
  ⟨some 201, .mv, [.t 200], none⟩,
  ⟨some 202, .call, [.c (.pv none (.func (.func 30))), .c (.pv none (.int .i64 (-1)))], some (201, true)⟩,
  ⟨some 203, .call, [.c (.pv none (.func (.func 30))), .c (.pv none (.int .i64 (-1)))], some (201, true)⟩,
  ⟨some 204, .call, [.c (.pv none (.func (.func 12))), .t 202, .t 203], some (201, true)⟩,
  ⟨some 205, (.bin .eql), [.t 204, .c (.pv none (.int .i64 (0)))], some (201, true)⟩,
  ⟨some 206, .pick, [.t 201, .t 205, .c (.pv none (.bool false))], none⟩,
  ⟨some 207, .mv, [.t 206], none⟩,
  ⟨some 208, .call, [.c (.pv none (.func (.func 14)))], some (207, true)⟩,
  ⟨some 209, .pick, [.t 207, .t 208, .c (.pv none (.bool false))], none⟩,
  ⟨some 0, .mv, [.t 209], none⟩]
def c11 : ACode := (.seq (.region true c11r0 []) (.seq (.region true c11r1 [1, 2]) (.seq (.seq (.settle []) (.region true c11r2 [3])) (.seq (.seq (.region true c11r3 [3, 4]) c11k26) (.seq (.region true c11r27 [8]) (.seq (.region true c11r28 [8, 10]) (.seq (.region true c11r29 [8, 10, 12]) (.seq (.region true c11r30 [8, 10, 12, 14]) (.seq (.region true c11r31 [8, 10, 12, 14, 15, 16]) (.seq (.region true c11r32 [8, 10, 12, 14, 15, 16, 17, 18]) (.seq (.region true c11r33 [8, 10, 12, 14, 15, 16, 17, 18, 19, 20]) (.seq (.region true c11r34 [8, 10, 12, 14, 15, 16, 17, 18, 19, 20, 21, 22]) (.seq (.region true c11r35 [0]) .ret)))))))))))))
def g11 : AFn := ⟨0, [(0, none)], c11, false⟩
theorem tr11 : trFn Try.prog false Try.f11 = some g11 := by kernel_rfl
/- hornbeam/order.Cmp -/
def c12r0 : List AOper := [
  ⟨some 2, (.box (some 4)), [.t 0], none⟩,
  ⟨some 3, (.box (some 4)), [.t 1], none⟩,
  ⟨some 4, .mv, [.c (.pv none (.int .i64 (0)))], none⟩]
def c12r1 : List AOper := [
  ⟨some 5, (.load (some 4)), [.t 2], none⟩,
  ⟨some 6, .call, [.c (.pv none (.func (.func 36))), .t 5], none⟩,
  ⟨some 7, .not, [.t 6], none⟩,
  ⟨some 8, .mv, [.t 7], none⟩,
  ⟨some 9, (.load (some 4)), [.t 3], some (8, false)⟩,
  ⟨some 10, .call, [.c (.pv none (.func (.func 36))), .t 9], some (8, false)⟩,
  ⟨some 11, .not, [.t 10], some (8, false)⟩,
  ⟨some 12, .pick, [.t 8, .c (.pv none (.bool true)), .t 11], none⟩]
def c12r2 : List AOper := [
  ⟨some 4, .mv, [.c (.pv none (.int .i64 (0)))], none⟩]
def c12k3 : ACode := (.cond (.t 12) (.seq (.region true c12r2 [4]) .ret) .skip)
def c12r4 : List AOper := [
  ⟨some 13, (.load (some 4)), [.t 2], none⟩,
  ⟨some 14, (.load (some 4)), [.t 3], none⟩,
  ⟨some 15, .call, [.c (.pv none (.func (.func 37))), .t 13, .t 14], none⟩,
  ⟨some 4, .mv, [.t 15], none⟩]
def c12 : ACode := (.seq (.region true c12r0 [2, 3]) (.seq (.seq (.region true c12r1 [2, 3, 12]) c12k3) (.seq (.region true c12r4 [4]) .ret)))
def g12 : AFn := ⟨2, [(4, none)], c12, false⟩
theorem tr12 : trFn Try.prog false Try.f12 = some g12 := by kernel_rfl
/- hornbeam/hornbeamref04.Cmp -/
def c13r0 : List AOper := [
  ⟨some 2, (.box (some 4)), [.t 0], none⟩,
  ⟨some 3, (.box (some 4)), [.t 1], none⟩,
  ⟨some 4, .mv, [.c (.pv none (.int .i64 (0)))], none⟩]
def c13r1 : List AOper := [
  ⟨some 5, (.load (some 4)), [.t 2], none⟩,
  ⟨some 6, .call, [.c (.pv none (.func (.func 31))), .t 5], none⟩,
  ⟨some 7, .not, [.t 6], none⟩,
  ⟨some 8, .mv, [.t 7], none⟩,
  ⟨some 9, (.load (some 4)), [.t 3], some (8, false)⟩,
  ⟨some 10, .call, [.c (.pv none (.func (.func 31))), .t 9], some (8, false)⟩,
  ⟨some 11, .not, [.t 10], some (8, false)⟩,
  ⟨some 12, .pick, [.t 8, .c (.pv none (.bool true)), .t 11], none⟩]
def c13r2 : List AOper := [
  ⟨some 4, .mv, [.c (.pv none (.int .i64 (0)))], none⟩]
def c13k3 : ACode := (.cond (.t 12) (.seq (.region true c13r2 [4]) .ret) .skip)
def c13r4 : List AOper := [
  ⟨some 13, (.load (some 4)), [.t 2], none⟩,
  ⟨some 14, (.load (some 4)), [.t 3], none⟩,
  ⟨some 15, .call, [.c (.pv none (.func (.func 38))), .t 13, .t 14], none⟩,
  ⟨some 4, .mv, [.t 15], none⟩]
def c13 : ACode := (.seq (.region true c13r0 [2, 3]) (.seq (.seq (.region true c13r1 [2, 3, 12]) c13k3) (.seq (.region true c13r4 [4]) .ret)))
def g13 : AFn := ⟨2, [(4, none)], c13, false⟩
theorem tr13 : trFn Try.prog false Try.f13 = some g13 := by kernel_rfl
/- hornbeam/hornbeamlaw04.awake -/
def c14r0 : List AOper := [
  ⟨some 0, .mv, [.c (.pv none (.bool false))], none⟩]
def c14r1 : List AOper := [
  ⟨some 10, .call, [.c (.pv none (.func (.func 35))), .c (.pv none (.str [99]))], none⟩,
  ⟨some 11, .call, [.c (.pv none (.func (.func 34))), .c (.pv none (.int .i64 (1)))], none⟩,
  ⟨some 12, .call, [.c (.pv none (.func (.func 35))), .c (.pv none (.str [98]))], none⟩,
  ⟨some 13, .call, [.c (.pv none (.func (.func 34))), .c (.pv none (.int .i64 (1)))], none⟩,
  ⟨some 14, (.bslice (some 4)), [.t 10, .t 11, .t 12, .t 13], none⟩,
  ⟨some 15, .call, [.c (.pv none (.func (.func 16))), .t 14], none⟩,
  ⟨some 9, .mv, [.t 15], none⟩,
  ⟨some 16, (.extract 0), [.t 9], none⟩,
  ⟨some 17, (.extract 1), [.t 9], none⟩,
  ⟨some 1, .mv, [.t 16], none⟩,
  ⟨some 2, .mv, [.t 17], none⟩]
def c14r2 : List AOper := [
  ⟨some 19, .call, [.c (.pv none (.func (.func 35))), .c (.pv none (.str [99]))], none⟩,
  ⟨some 20, .call, [.c (.pv none (.func (.func 34))), .c (.pv none (.int .i64 (1)))], none⟩,
  ⟨some 21, .call, [.c (.pv none (.func (.func 35))), .c (.pv none (.str [98]))], none⟩,
  ⟨some 22, .call, [.c (.pv none (.func (.func 34))), .c (.pv none (.int .i64 (1)))], none⟩,
  ⟨some 23, (.bslice (some 4)), [.t 19, .t 20, .t 21, .t 22], none⟩,
  ⟨some 24, .call, [.c (.pv none (.func (.func 17))), .t 23], none⟩,
  ⟨some 18, .mv, [.t 24], none⟩,
  ⟨some 25, (.extract 0), [.t 18], none⟩,
  ⟨some 26, (.extract 1), [.t 18], none⟩,
  ⟨some 3, .mv, [.t 25], none⟩,
  ⟨some 4, .mv, [.t 26], none⟩]
def c14r3 : List AOper := [
  ⟨some 28, .call, [.c (.pv none (.func (.func 35))), .c (.pv none (.str [98]))], none⟩,
  ⟨some 29, .call, [.c (.pv none (.func (.func 34))), .c (.pv none (.int .i64 (1)))], none⟩,
  ⟨some 30, (.bslice (some 4)), [.t 28, .t 29], none⟩,
  ⟨some 31, .call, [.c (.pv none (.func (.func 33))), .c (.pv none (.str [45])), .t 30], none⟩,
  ⟨some 32, .call, [.c (.pv none (.func (.func 35))), .c (.pv none (.str [97]))], none⟩,
  ⟨some 33, .call, [.c (.pv none (.func (.func 34))), .c (.pv none (.int .i64 (2)))], none⟩,
  ⟨some 34, (.bslice (some 4)), [.t 32, .t 33], none⟩,
  ⟨some 35, .call, [.c (.pv none (.func (.func 33))), .c (.pv none (.str [45])), .t 34], none⟩,
  ⟨some 36, .call, [.c (.pv none (.func (.func 35))), .c (.pv none (.str [98]))], none⟩,
  ⟨some 37, .call, [.c (.pv none (.func (.func 34))), .c (.pv none (.int .i64 (0)))], none⟩,
  ⟨some 38, (.bslice (some 4)), [.t 36, .t 37], none⟩,
  ⟨some 39, .call, [.c (.pv none (.func (.func 33))), .c (.pv none (.str [45])), .t 38], none⟩,
  ⟨some 40, (.bslice (some 4)), [.t 31, .t 35, .t 39], none⟩,
  ⟨some 41, .call, [.c (.pv none (.func (.func 18))), .t 40], none⟩,
  ⟨some 27, .mv, [.t 41], none⟩,
  ⟨some 42, (.extract 0), [.t 27], none⟩,
  ⟨some 43, (.extract 1), [.t 27], none⟩,
  ⟨some 5, .mv, [.t 42], none⟩,
  ⟨some 6, .mv, [.t 43], none⟩]
def c14r4 : List AOper := [
  ⟨some 45, .call, [.c (.pv none (.func (.func 35))), .c (.pv none (.str [97]))], none⟩,
  ⟨some 46, .call, [.c (.pv none (.func (.func 35))), .c (.pv none (.str [99]))], none⟩,
  ⟨some 47, (.bslice (some 4)), [.t 45, .t 46], none⟩,
  ⟨some 48, .call, [.c (.pv none (.func (.func 35))), .c (.pv none (.str [98]))], none⟩,
  ⟨some 49, .call, [.c (.pv none (.func (.func 26))), .t 47, .t 48], none⟩,
  ⟨some 44, .mv, [.t 49], none⟩,
  ⟨some 50, (.extract 0), [.t 44], none⟩,
  ⟨some 51, (.extract 1), [.t 44], none⟩,
  ⟨some 7, .mv, [.t 50], none⟩,
  ⟨some 8, .mv, [.t 51], none⟩]
def c14r5 : List AOper := [
  ⟨some 52, .call, [.c (.pv none (.func (.func 30))), .c (.pv none (.int .i64 (5)))], none⟩,
  ⟨some 53, .call, [.c (.pv none (.func (.func 34))), .c (.pv none (.int .i64 (3)))], none⟩,
  ⟨some 54, .call, [.c (.pv none (.func (.func 12))), .t 52, .t 53], none⟩,
  ⟨some 55, (.bin .eql), [.t 54, .c (.pv none (.int .i64 (-1)))], none⟩,
  ⟨some 56, .mv, [.t 55], none⟩,
  ⟨some 57, .call, [.c (.pv none (.func (.func 34))), .c (.pv none (.int .i64 (3)))], some (56, true)⟩,
  ⟨some 58, .call, [.c (.pv none (.func (.func 35))), .c (.pv none (.str [97]))], some (56, true)⟩,
  ⟨some 59, .call, [.c (.pv none (.func (.func 12))), .t 57, .t 58], some (56, true)⟩,
  ⟨some 60, (.bin .eql), [.t 59, .c (.pv none (.int .i64 (-1)))], some (56, true)⟩,
  ⟨some 61, .pick, [.t 56, .t 60, .c (.pv none (.bool false))], none⟩,
  ⟨some 62, .mv, [.t 61], none⟩,
  ⟨some 63, .call, [.c (.pv none (.func (.func 35))), .c (.pv none (.str [122, 122, 122]))], some (62, true)⟩,
  ⟨some 64, .call, [.c (.pv none (.func (.func 35))), .c (.pv none (.str [97]))], some (62, true)⟩,
  ⟨some 65, (.bslice (some 4)), [.t 64], some (62, true)⟩,
  ⟨some 66, .call, [.c (.pv none (.func (.func 33))), .c (.pv none (.str [102])), .t 65], some (62, true)⟩,
  ⟨some 67, .call, [.c (.pv none (.func (.func 12))), .t 63, .t 66], some (62, true)⟩,
  ⟨some 68, (.bin .eql), [.t 67, .c (.pv none (.int .i64 (-1)))], some (62, true)⟩,
  ⟨some 69, .pick, [.t 62, .t 68, .c (.pv none (.bool false))], none⟩,
  ⟨some 70, .mv, [.t 69], none⟩,
  ⟨some 71, .call, [.c (.pv none (.func (.func 35))), .c (.pv none (.str [98]))], some (70, true)⟩,
  ⟨some 72, .call, [.c (.pv none (.func (.func 35))), .c (.pv none (.str [97]))], some (70, true)⟩,
  ⟨some 73, (.bslice (some 4)), [.t 71, .t 72], some (70, true)⟩,
  ⟨some 74, .call, [.c (.pv none (.func (.func 33))), .c (.pv none (.str [102])), .t 73], some (70, true)⟩,
  ⟨some 75, .call, [.c (.pv none (.func (.func 35))), .c (.pv none (.str [97]))], some (70, true)⟩,
  ⟨some 76, (.bslice (some 4)), [.t 75], some (70, true)⟩,
  ⟨some 77, .call, [.c (.pv none (.func (.func 33))), .c (.pv none (.str [103])), .t 76], some (70, true)⟩,
  ⟨some 78, .call, [.c (.pv none (.func (.func 12))), .t 74, .t 77], some (70, true)⟩,
  ⟨some 79, (.bin .eql), [.t 78, .c (.pv none (.int .i64 (1)))], some (70, true)⟩,
  ⟨some 80, .pick, [.t 70, .t 79, .c (.pv none (.bool false))], none⟩,
  ⟨some 81, .mv, [.t 80], none⟩,
  ⟨some 82, .call, [.c (.pv none (.func (.func 35))), .c (.pv none (.str [97, 98]))], some (81, true)⟩,
  ⟨some 83, .call, [.c (.pv none (.func (.func 35))), .c (.pv none (.str [97]))], some (81, true)⟩,
  ⟨some 84, .call, [.c (.pv none (.func (.func 12))), .t 82, .t 83], some (81, true)⟩,
  ⟨some 85, (.bin .eql), [.t 84, .c (.pv none (.int .i64 (1)))], some (81, true)⟩,
  ⟨some 86, .pick, [.t 81, .t 85, .c (.pv none (.bool false))], none⟩,
  ⟨some 87, .mv, [.t 86], none⟩,
  ⟨some 88, .mv, [.t 2], some (87, true)⟩,
  ⟨some 89, (.bin .eql), [.t 88, .c (.pv none (.int .i64 (0)))], some (87, true)⟩,
  ⟨some 90, .pick, [.t 87, .t 89, .c (.pv none (.bool false))], none⟩,
  ⟨some 91, .mv, [.t 90], none⟩,
  ⟨some 92, .mv, [.t 1], some (91, true)⟩,
  ⟨some 93, .call, [.c (.pv none (.func (.func 34))), .c (.pv none (.int .i64 (1)))], some (91, true)⟩,
  ⟨some 94, .call, [.c (.pv none (.func (.func 35))), .c (.pv none (.str [98]))], some (91, true)⟩,
  ⟨some 95, .call, [.c (.pv none (.func (.func 35))), .c (.pv none (.str [99]))], some (91, true)⟩,
  ⟨some 96, (.bslice (some 4)), [.t 93, .t 94, .t 95], some (91, true)⟩,
  ⟨some 97, .call, [.c (.pv none (.func (.func 22))), .t 92, .t 96], some (91, true)⟩,
  ⟨some 98, .pick, [.t 91, .t 97, .c (.pv none (.bool false))], none⟩,
  ⟨some 99, .mv, [.t 98], none⟩,
  ⟨some 100, .mv, [.t 4], some (99, true)⟩,
  ⟨some 101, (.bin .eql), [.t 100, .c (.pv none (.int .i64 (0)))], some (99, true)⟩,
  ⟨some 102, .pick, [.t 99, .t 101, .c (.pv none (.bool false))], none⟩,
  ⟨some 103, .mv, [.t 102], none⟩,
  ⟨some 104, .mv, [.t 3], some (103, true)⟩,
  ⟨some 105, .call, [.c (.pv none (.func (.func 34))), .c (.pv none (.int .i64 (1)))], some (103, true)⟩,
  ⟨some 106, .call, [.c (.pv none (.func (.func 34))), .c (.pv none (.int .i64 (1)))], some (103, true)⟩,
  ⟨some 107, .call, [.c (.pv none (.func (.func 35))), .c (.pv none (.str [98]))], some (103, true)⟩,
  ⟨some 108, .call, [.c (.pv none (.func (.func 35))), .c (.pv none (.str [99]))], some (103, true)⟩,
  ⟨some 109, (.bslice (some 4)), [.t 105, .t 106, .t 107, .t 108], some (103, true)⟩,
  ⟨some 110, .call, [.c (.pv none (.func (.func 22))), .t 104, .t 109], some (103, true)⟩,
  ⟨some 111, .pick, [.t 103, .t 110, .c (.pv none (.bool false))], none⟩,
  ⟨some 112, .mv, [.t 111], none⟩,
  ⟨some 113, .mv, [.t 6], some (112, true)⟩,
  ⟨some 114, (.bin .eql), [.t 113, .c (.pv none (.int .i64 (0)))], some (112, true)⟩,
  ⟨some 115, .pick, [.t 112, .t 114, .c (.pv none (.bool false))], none⟩,
  ⟨some 116, .mv, [.t 115], none⟩,
  ⟨some 117, .mv, [.t 5], some (116, true)⟩,
  ⟨some 118, .call, [.c (.pv none (.func (.func 35))), .c (.pv none (.str [97]))], some (116, true)⟩,
  ⟨some 119, .call, [.c (.pv none (.func (.func 34))), .c (.pv none (.int .i64 (2)))], some (116, true)⟩,
  ⟨some 120, (.bslice (some 4)), [.t 118, .t 119], some (116, true)⟩,
  ⟨some 121, .call, [.c (.pv none (.func (.func 33))), .c (.pv none (.str [45])), .t 120], some (116, true)⟩,
  ⟨some 122, .call, [.c (.pv none (.func (.func 35))), .c (.pv none (.str [98]))], some (116, true)⟩,
  ⟨some 123, .call, [.c (.pv none (.func (.func 34))), .c (.pv none (.int .i64 (1)))], some (116, true)⟩,
  ⟨some 124, (.bslice (some 4)), [.t 122, .t 123], some (116, true)⟩,
  ⟨some 125, .call, [.c (.pv none (.func (.func 33))), .c (.pv none (.str [45])), .t 124], some (116, true)⟩,
  ⟨some 126, .call, [.c (.pv none (.func (.func 35))), .c (.pv none (.str [98]))], some (116, true)⟩,
  ⟨some 127, .call, [.c (.pv none (.func (.func 34))), .c (.pv none (.int .i64 (0)))], some (116, true)⟩,
  ⟨some 128, (.bslice (some 4)), [.t 126, .t 127], some (116, true)⟩,
  ⟨some 129, .call, [.c (.pv none (.func (.func 33))), .c (.pv none (.str [45])), .t 128], some (116, true)⟩,
  ⟨some 130, (.bslice (some 4)), [.t 121, .t 125, .t 129], some (116, true)⟩,
  ⟨some 131, .call, [.c (.pv none (.func (.func 22))), .t 117, .t 130], some (116, true)⟩,
  ⟨some 132, .pick, [.t 116, .t 131, .c (.pv none (.bool false))], none⟩,
  ⟨some 133, .mv, [.t 132], none⟩,
  ⟨some 134, .mv, [.t 7], some (133, true)⟩,
  ⟨some 135, (.bin .eql), [.t 134, .c (.pv none (.int .i64 (1)))], some (133, true)⟩,
  ⟨some 136, .pick, [.t 133, .t 135, .c (.pv none (.bool false))], none⟩,
  ⟨some 137, .mv, [.t 136], none⟩,
  ⟨some 138, .mv, [.t 8], some (137, true)⟩,
  ⟨some 139, .not, [.t 138], some (137, true)⟩,
  ⟨some 140, .pick, [.t 137, .t 139, .c (.pv none (.bool false))], none⟩,
  ⟨some 0, .mv, [.t 140], none⟩]
def c14 : ACode := (.seq (.region true c14r0 []) (.seq (.region true c14r1 [1, 2]) (.seq (.region true c14r2 [1, 2, 3, 4]) (.seq (.region true c14r3 [1, 2, 3, 4, 5, 6]) (.seq (.region true c14r4 [1, 2, 3, 4, 5, 6, 7, 8]) (.seq (.region true c14r5 [0]) .ret))))))
def g14 : AFn := ⟨0, [(0, none)], c14, false⟩
theorem tr14 : trFn Try.prog false Try.f14 = some g14 := by kernel_rfl
/- hornbeam/hornbeamlaw04.few -/
def c15r0 : List AOper := [
  ⟨some 2, (.nilsl (some 4)), [], none⟩]
def c15r1 : List AOper := [
  ⟨some 3, (.nilsl (some 4)), [], none⟩]
def c15r2 : List AOper := [
  ⟨some 4, .mv, [.c (.pv none (.int .i64 (0)))], none⟩]
def c15r3 : List AOper := [
  ⟨some 5, .mv, [.t 4], none⟩,
  ⟨some 6, .mv, [.t 0], none⟩,
  ⟨some 7, .len, [.t 6], none⟩,
  ⟨some 8, (.bin .lss), [.t 5, .t 7], none⟩,
  ⟨some 9, .mv, [.t 8], none⟩,
  ⟨some 10, .mv, [.t 4], some (9, true)⟩,
  ⟨some 11, (.bin .lss), [.t 10, .c (.pv none (.int .i64 (40)))], some (9, true)⟩,
  ⟨some 12, .pick, [.t 9, .t 11, .c (.pv none (.bool false))], none⟩]
def c15k4 : ACode := (.cond (.t 12) .skip (.exit 0))
def c15r5 : List AOper := [
  ⟨some 15, .mv, [.t 3], none⟩,
  ⟨some 16, .mv, [.t 0], none⟩,
  ⟨some 17, .mv, [.t 4], none⟩,
  ⟨some 18, (.iaddr (some 4)), [.t 16, .t 17], none⟩,
  ⟨some 19, (.load (some 4)), [.t 18], none⟩,
  ⟨some 20, (.bslice (some 4)), [.t 19], none⟩,
  ⟨some 21, (.append (some 4)), [.t 15, .t 20], none⟩,
  ⟨some 3, .mv, [.t 21], none⟩]
def c15k6 : ACode := (.block 1 (.region true c15r5 [0, 3, 4]))
def c15r7 : List AOper := [
  ⟨some 13, .mv, [.t 4], none⟩,
  ⟨some 14, (.bin .add), [.t 13, .c (.pv none (.int .i64 (1)))], none⟩,
  ⟨some 4, .mv, [.t 14], none⟩]
def c15b8 : ACode := (.seq (.seq (.region true c15r3 [0, 3, 4, 12]) c15k4) (.seq c15k6 (.region true c15r7 [0, 3, 4])))
def c15k9 : ACode := (.block 0 (.loop [0, 3, 4] c15b8))
def c15r10 : List AOper := [
  ⟨some 22, .mv, [.t 3], none⟩,
  ⟨some 2, .mv, [.t 22], none⟩]
def c15 : ACode := (.seq (.region true c15r0 [0]) (.seq (.region true c15r1 [0, 3]) (.seq (.seq (.region true c15r2 [0, 3, 4]) c15k9) (.seq (.region true c15r10 [2]) .ret))))
def g15 : AFn := ⟨1, [(2, none)], c15, true⟩
theorem tr15 : trFn Try.prog true Try.f15 = some g15 := by kernel_rfl
/- hornbeam/order.Sort -/
def c16r0 : List AOper := [
  ⟨some 2, (.nilsl (some 4)), [], none⟩,
  ⟨some 3, .mv, [.c (.pv none (.int .i64 (0)))], none⟩]
def c16r1 : List AOper := [
  ⟨some 5, .mv, [.t 0], none⟩,
  ⟨some 6, .call, [.c (.pv none (.func (.func 17))), .t 5], none⟩,
  ⟨some 4, .mv, [.t 6], none⟩,
  ⟨some 7, (.extract 0), [.t 4], none⟩,
  ⟨some 8, (.extract 1), [.t 4], none⟩,
  ⟨some 2, .mv, [.t 7], none⟩,
  ⟨some 3, .mv, [.t 8], none⟩]
def c16r2 : List AOper := [
  ⟨some 9, .mv, [.t 3], none⟩,
  ⟨some 10, (.bin .neq), [.t 9, .c (.pv none (.int .i64 (0)))], none⟩]
def c16r3 : List AOper := [
  ⟨some 11, .mv, [.t 3], none⟩,
  ⟨some 2, (.nilsl (some 4)), [], none⟩,
  ⟨some 3, .mv, [.t 11], none⟩]
def c16k4 : ACode := (.cond (.t 10) (.seq (.region true c16r3 [2, 3]) .ret) .skip)
def c16r5 : List AOper := [
  ⟨some 12, .mv, [.t 2], none⟩,
  ⟨some 13, .call, [.c (.pv none (.func (.func 39))), .t 12, .c (.pv none (.func (.func 40)))], none⟩,
  ⟨some 2, .mv, [.t 13], none⟩,
  ⟨some 3, .mv, [.c (.pv none (.int .i64 (0)))], none⟩]
def c16 : ACode := (.seq (.region true c16r0 [0]) (.seq (.region true c16r1 [2, 3]) (.seq (.seq (.region true c16r2 [2, 3, 10]) c16k4) (.seq (.region true c16r5 [2, 3]) .ret))))
def g16 : AFn := ⟨1, [(2, none), (3, none)], c16, true⟩
theorem tr16 : trFn Try.prog true Try.f16 = some g16 := by kernel_rfl
/- hornbeam/order.Stable -/
def c17r0 : List AOper := [
  ⟨some 2, (.nilsl (some 4)), [], none⟩,
  ⟨some 3, .mv, [.c (.pv none (.int .i64 (0)))], none⟩]
def c17r1 : List AOper := [
  ⟨some 4, .mv, [.t 0], none⟩,
  ⟨some 5, .call, [.c (.pv none (.func (.func 41))), .t 4], none⟩,
  ⟨some 6, .not, [.t 5], none⟩]
def c17r2 : List AOper := [
  ⟨some 2, (.nilsl (some 4)), [], none⟩,
  ⟨some 3, .mv, [.c (.pv none (.int .i64 (1)))], none⟩]
def c17k3 : ACode := (.cond (.t 6) (.seq (.region true c17r2 [2, 3]) .ret) .skip)
def c17r4 : List AOper := [
  ⟨some 7, .mv, [.t 0], none⟩,
  ⟨some 8, .call, [.c (.pv none (.func (.func 42))), .t 7, .c (.pv none (.func (.func 37)))], none⟩,
  ⟨some 2, .mv, [.t 8], none⟩,
  ⟨some 3, .mv, [.c (.pv none (.int .i64 (0)))], none⟩]
def c17 : ACode := (.seq (.region true c17r0 [0]) (.seq (.seq (.region true c17r1 [0, 6]) c17k3) (.seq (.region true c17r4 [2, 3]) .ret)))
def g17 : AFn := ⟨1, [(2, none), (3, none)], c17, true⟩
theorem tr17 : trFn Try.prog true Try.f17 = some g17 := by kernel_rfl
/- hornbeam/order.Keys -/
def c18r0 : List AOper := [
  ⟨some 2, (.nilsl (some 4)), [], none⟩,
  ⟨some 3, .mv, [.c (.pv none (.int .i64 (0)))], none⟩]
def c18r1 : List AOper := [
  ⟨some 6, .mv, [.t 0], none⟩,
  ⟨some 7, .call, [.c (.pv none (.func (.func 41))), .t 6], none⟩,
  ⟨some 8, .not, [.t 7], none⟩]
def c18r2 : List AOper := [
  ⟨some 2, (.nilsl (some 4)), [], none⟩,
  ⟨some 3, .mv, [.c (.pv none (.int .i64 (1)))], none⟩]
def c18k3 : ACode := (.cond (.t 8) (.seq (.region true c18r2 [2, 3]) .ret) .skip)
def c18r4 : List AOper := [
  ⟨some 9, .mv, [.t 0], none⟩,
  ⟨some 10, .len, [.t 9], none⟩,
  ⟨some 11, .mv, [.c (.pv none (.int .i64 (0)))], none⟩]
def c18r5 : List AOper := [
  ⟨some 12, (.bin .lss), [.t 11, .t 10], none⟩]
def c18k6 : ACode := (.cond (.t 12) .skip (.exit 0))
def c18r7 : List AOper := [
  ⟨some 13, (.iaddr (some 4)), [.t 9, .t 11], none⟩,
  ⟨some 14, (.load (some 4)), [.t 13], none⟩,
  ⟨some 5, (.alloc (some 4) (.agg [(none, (.pv none (.int .i64 (0)))), (none, (.pv none (.int .i64 (0)))), (none, (.pv none (.str []))), (none, (.tsl (some 4) []))])), [], none⟩,
  ⟨none, (.store (some 4)), [.t 5, .t 14], none⟩]
def c18r8 : List AOper := [
  ⟨some 15, (.faddr 0), [.t 5], none⟩,
  ⟨some 16, (.load none), [.t 15], none⟩,
  ⟨some 17, (.bin .neq), [.t 16, .c (.pv none (.int .i64 (3)))], none⟩,
  ⟨some 18, .mv, [.t 17], none⟩,
  ⟨some 19, (.faddr 2), [.t 5], some (18, false)⟩,
  ⟨some 20, (.load none), [.t 19], some (18, false)⟩,
  ⟨some 21, (.bin .neq), [.t 20, .c (.pv none (.str [45]))], some (18, false)⟩,
  ⟨some 22, .pick, [.t 18, .c (.pv none (.bool true)), .t 21], none⟩,
  ⟨some 23, .mv, [.t 22], none⟩,
  ⟨some 24, (.faddr 3), [.t 5], some (23, false)⟩,
  ⟨some 25, (.load none), [.t 24], some (23, false)⟩,
  ⟨some 26, .len, [.t 25], some (23, false)⟩,
  ⟨some 27, (.bin .neq), [.t 26, .c (.pv none (.int .i64 (2)))], some (23, false)⟩,
  ⟨some 28, .pick, [.t 23, .c (.pv none (.bool true)), .t 27], none⟩]
def c18r9 : List AOper := [
  ⟨some 2, (.nilsl (some 4)), [], none⟩,
  ⟨some 3, .mv, [.c (.pv none (.int .i64 (3)))], none⟩]
def c18k10 : ACode := (.cond (.t 28) (.seq (.region true c18r9 [2, 3]) .ret) .skip)
def c18k11 : ACode := (.block 1 (.seq (.region true c18r7 [0, 5, 9, 10, 11]) (.seq (.region true c18r8 [0, 9, 10, 11, 28]) c18k10)))
def c18r12 : List AOper := [
  ⟨some 29, (.bin .add), [.t 11, .c (.pv none (.int .i64 (1)))], none⟩,
  ⟨some 11, .mv, [.t 29], none⟩]
def c18b13 : ACode := (.seq (.region true c18r5 [0, 9, 10, 11, 12]) (.seq c18k6 (.seq c18k11 (.region true c18r12 [0, 9, 10, 11]))))
def c18k14 : ACode := (.block 0 (.loop [0, 9, 10, 11] c18b13))
def c18r15 : List AOper := [
  ⟨some 30, .mv, [.t 0], none⟩,
  ⟨some 31, .call, [.c (.pv none (.func (.func 42))), .t 30, .c (.pv none (.func (.func 43)))], none⟩,
  ⟨some 2, .mv, [.t 31], none⟩,
  ⟨some 3, .mv, [.c (.pv none (.int .i64 (0)))], none⟩]
def c18 : ACode := (.seq (.region true c18r0 [0]) (.seq (.seq (.region true c18r1 [0, 8]) c18k3) (.seq (.seq (.region true c18r4 [0, 9, 10, 11]) c18k14) (.seq (.region true c18r15 [2, 3]) .ret))))
def g18 : AFn := ⟨1, [(2, none), (3, none)], c18, false⟩
theorem tr18 : trFn Try.prog false Try.f18 = some g18 := by kernel_rfl
/- hornbeam/hornbeamref04.Sort -/
def c19r0 : List AOper := [
  ⟨some 2, (.nilsl (some 4)), [], none⟩,
  ⟨some 3, .mv, [.c (.pv none (.int .i64 (0)))], none⟩]
def c19r1 : List AOper := [
  ⟨some 9, .mv, [.t 0], none⟩,
  ⟨some 10, .call, [.c (.pv none (.func (.func 20))), .t 9], none⟩,
  ⟨some 8, .mv, [.t 10], none⟩,
  ⟨some 11, (.extract 0), [.t 8], none⟩,
  ⟨some 12, (.extract 1), [.t 8], none⟩,
  ⟨some 4, .mv, [.t 11], none⟩,
  ⟨some 5, .mv, [.t 12], none⟩]
def c19r2 : List AOper := [
  ⟨some 6, (.nilsl (some 4)), [], none⟩]
def c19r3 : List AOper := [
  ⟨some 7, .mv, [.c (.pv none (.int .i64 (0)))], none⟩]
def c19r4 : List AOper := [
  ⟨some 13, .mv, [.t 7], none⟩,
  ⟨some 14, .mv, [.t 4], none⟩,
  ⟨some 15, .len, [.t 14], none⟩,
  ⟨some 16, (.bin .lss), [.t 13, .t 15], none⟩]
def c19k5 : ACode := (.cond (.t 16) .skip (.exit 0))
def c19r6 : List AOper := [
  ⟨some 19, .mv, [.t 7], none⟩,
  ⟨some 20, (.bin .eql), [.t 19, .c (.pv none (.int .i64 (0)))], none⟩,
  ⟨some 21, .mv, [.t 20], none⟩,
  ⟨some 22, .mv, [.t 4], some (21, false)⟩,
  ⟨some 23, .mv, [.t 7], some (21, false)⟩,
  ⟨some 24, (.bin .sub), [.t 23, .c (.pv none (.int .i64 (1)))], some (21, false)⟩,
  ⟨some 25, (.iaddr (some 4)), [.t 22, .t 24], some (21, false)⟩,
  ⟨some 26, (.load (some 4)), [.t 25], some (21, false)⟩,
  ⟨some 27, .mv, [.t 4], some (21, false)⟩,
  ⟨some 28, .mv, [.t 7], some (21, false)⟩,
  ⟨some 29, (.iaddr (some 4)), [.t 27, .t 28], some (21, false)⟩,
  ⟨some 30, (.load (some 4)), [.t 29], some (21, false)⟩,
  ⟨some 31, .call, [.c (.pv none (.func (.func 38))), .t 26, .t 30], some (21, false)⟩,
  ⟨some 32, (.bin .neq), [.t 31, .c (.pv none (.int .i64 (0)))], some (21, false)⟩,
  ⟨some 33, .pick, [.t 21, .c (.pv none (.bool true)), .t 32], none⟩]
def c19r7 : List AOper := [
  ⟨some 34, .mv, [.t 6], none⟩,
  ⟨some 35, .mv, [.t 4], none⟩,
  ⟨some 36, .mv, [.t 7], none⟩,
  ⟨some 37, (.iaddr (some 4)), [.t 35, .t 36], none⟩,
  ⟨some 38, (.load (some 4)), [.t 37], none⟩,
  ⟨some 39, (.bslice (some 4)), [.t 38], none⟩,
  ⟨some 40, (.append (some 4)), [.t 34, .t 39], none⟩,
  ⟨some 6, .mv, [.t 40], none⟩]
def c19k8 : ACode := (.cond (.t 33) (.region true c19r7 [4, 5, 6, 7]) .skip)
def c19k9 : ACode := (.block 1 (.seq (.region true c19r6 [4, 5, 6, 7, 33]) c19k8))
def c19r10 : List AOper := [
  ⟨some 17, .mv, [.t 7], none⟩,
  ⟨some 18, (.bin .add), [.t 17, .c (.pv none (.int .i64 (1)))], none⟩,
  ⟨some 7, .mv, [.t 18], none⟩]
def c19b11 : ACode := (.seq (.seq (.region true c19r4 [4, 5, 6, 7, 16]) c19k5) (.seq c19k9 (.region true c19r10 [4, 5, 6, 7])))
def c19k12 : ACode := (.block 0 (.loop [4, 5, 6, 7] c19b11))
def c19r13 : List AOper := [
  ⟨some 41, .mv, [.t 6], none⟩,
  ⟨some 42, .mv, [.t 5], none⟩,
  ⟨some 2, .mv, [.t 41], none⟩,
  ⟨some 3, .mv, [.t 42], none⟩]
def c19 : ACode := (.seq (.region true c19r0 [0]) (.seq (.region true c19r1 [4, 5]) (.seq (.region true c19r2 [4, 5, 6]) (.seq (.seq (.region true c19r3 [4, 5, 6, 7]) c19k12) (.seq (.region true c19r13 [2, 3]) .ret)))))
def g19 : AFn := ⟨1, [(2, none), (3, none)], c19, false⟩
theorem tr19 : trFn Try.prog false Try.f19 = some g19 := by kernel_rfl
/- hornbeam/hornbeamref04.Stable -/
def c20r0 : List AOper := [
  ⟨some 2, (.nilsl (some 4)), [], none⟩,
  ⟨some 3, .mv, [.c (.pv none (.int .i64 (0)))], none⟩]
def c20r1 : List AOper := [
  ⟨some 6, .mv, [.t 0], none⟩,
  ⟨some 7, .call, [.c (.pv none (.func (.func 44))), .t 6], none⟩,
  ⟨some 8, .not, [.t 7], none⟩]
def c20r2 : List AOper := [
  ⟨some 2, (.nilsl (some 4)), [], none⟩,
  ⟨some 3, .mv, [.c (.pv none (.int .i64 (1)))], none⟩]
def c20k3 : ACode := (.cond (.t 8) (.seq (.region true c20r2 [2, 3]) .ret) .skip)
def c20r4 : List AOper := [
  ⟨some 4, (.nilsl (some 4)), [], none⟩]
def c20r5 : List AOper := [
  ⟨some 5, .mv, [.c (.pv none (.int .i64 (0)))], none⟩]
def c20r6 : List AOper := [
  ⟨some 9, .mv, [.t 5], none⟩,
  ⟨some 10, .mv, [.t 0], none⟩,
  ⟨some 11, .len, [.t 10], none⟩,
  ⟨some 12, (.bin .lss), [.t 9, .t 11], none⟩]
def c20k7 : ACode := (.cond (.t 12) .skip (.exit 0))
def c20r8 : List AOper := [
  ⟨some 15, .mv, [.t 4], none⟩,
  ⟨some 16, .mv, [.t 0], none⟩,
  ⟨some 17, .mv, [.t 5], none⟩,
  ⟨some 18, (.iaddr (some 4)), [.t 16, .t 17], none⟩,
  ⟨some 19, (.load (some 4)), [.t 18], none⟩,
  ⟨some 20, .call, [.c (.pv none (.func (.func 45))), .t 15, .t 19, .c (.pv none (.bool false))], none⟩,
  ⟨some 4, .mv, [.t 20], none⟩]
def c20k9 : ACode := (.block 1 (.region true c20r8 [0, 4, 5]))
def c20r10 : List AOper := [
  ⟨some 13, .mv, [.t 5], none⟩,
  ⟨some 14, (.bin .add), [.t 13, .c (.pv none (.int .i64 (1)))], none⟩,
  ⟨some 5, .mv, [.t 14], none⟩]
def c20b11 : ACode := (.seq (.seq (.region true c20r6 [0, 4, 5, 12]) c20k7) (.seq c20k9 (.region true c20r10 [0, 4, 5])))
def c20k12 : ACode := (.block 0 (.loop [0, 4, 5] c20b11))
def c20r13 : List AOper := [
  ⟨some 21, .mv, [.t 4], none⟩,
  ⟨some 2, .mv, [.t 21], none⟩,
  ⟨some 3, .mv, [.c (.pv none (.int .i64 (0)))], none⟩]
def c20 : ACode := (.seq (.region true c20r0 [0]) (.seq (.seq (.region true c20r1 [0, 8]) c20k3) (.seq (.region true c20r4 [0, 4]) (.seq (.seq (.region true c20r5 [0, 4, 5]) c20k12) (.seq (.region true c20r13 [2, 3]) .ret)))))
def g20 : AFn := ⟨1, [(2, none), (3, none)], c20, false⟩
theorem tr20 : trFn Try.prog false Try.f20 = some g20 := by kernel_rfl
/- hornbeam/hornbeamref04.Keys -/
def c21r0 : List AOper := [
  ⟨some 2, (.nilsl (some 4)), [], none⟩,
  ⟨some 3, .mv, [.c (.pv none (.int .i64 (0)))], none⟩]
def c21r1 : List AOper := [
  ⟨some 7, .mv, [.t 0], none⟩,
  ⟨some 8, .call, [.c (.pv none (.func (.func 44))), .t 7], none⟩,
  ⟨some 9, .not, [.t 8], none⟩]
def c21r2 : List AOper := [
  ⟨some 2, (.nilsl (some 4)), [], none⟩,
  ⟨some 3, .mv, [.c (.pv none (.int .i64 (1)))], none⟩]
def c21k3 : ACode := (.cond (.t 9) (.seq (.region true c21r2 [2, 3]) .ret) .skip)
def c21r4 : List AOper := [
  ⟨some 4, .mv, [.c (.pv none (.int .i64 (0)))], none⟩]
def c21r5 : List AOper := [
  ⟨some 10, .mv, [.t 4], none⟩,
  ⟨some 11, .mv, [.t 0], none⟩,
  ⟨some 12, .len, [.t 11], none⟩,
  ⟨some 13, (.bin .lss), [.t 10, .t 12], none⟩]
def c21k6 : ACode := (.cond (.t 13) .skip (.exit 0))
def c21r7 : List AOper := [
  ⟨some 16, .mv, [.t 0], none⟩,
  ⟨some 17, .mv, [.t 4], none⟩,
  ⟨some 18, (.iaddr (some 4)), [.t 16, .t 17], none⟩,
  ⟨some 19, (.load (some 4)), [.t 18], none⟩,
  ⟨some 20, .call, [.c (.pv none (.func (.func 46))), .t 19], none⟩,
  ⟨some 21, .not, [.t 20], none⟩]
def c21r8 : List AOper := [
  ⟨some 2, (.nilsl (some 4)), [], none⟩,
  ⟨some 3, .mv, [.c (.pv none (.int .i64 (3)))], none⟩]
def c21k9 : ACode := (.cond (.t 21) (.seq (.region true c21r8 [2, 3]) .ret) .skip)
def c21k10 : ACode := (.block 1 (.seq (.region true c21r7 [0, 4, 21]) c21k9))
def c21r11 : List AOper := [
  ⟨some 14, .mv, [.t 4], none⟩,
  ⟨some 15, (.bin .add), [.t 14, .c (.pv none (.int .i64 (1)))], none⟩,
  ⟨some 4, .mv, [.t 15], none⟩]
def c21b12 : ACode := (.seq (.seq (.region true c21r5 [0, 4, 13]) c21k6) (.seq c21k10 (.region true c21r11 [0, 4])))
def c21k13 : ACode := (.block 0 (.loop [0, 4] c21b12))
def c21r14 : List AOper := [
  ⟨some 5, (.nilsl (some 4)), [], none⟩]
def c21r15 : List AOper := [
  ⟨some 6, .mv, [.c (.pv none (.int .i64 (0)))], none⟩]
def c21r16 : List AOper := [
  ⟨some 22, .mv, [.t 6], none⟩,
  ⟨some 23, .mv, [.t 0], none⟩,
  ⟨some 24, .len, [.t 23], none⟩,
  ⟨some 25, (.bin .lss), [.t 22, .t 24], none⟩]
def c21k17 : ACode := (.cond (.t 25) .skip (.exit 2))
def c21r18 : List AOper := [
  ⟨some 28, .mv, [.t 5], none⟩,
  ⟨some 29, .mv, [.t 0], none⟩,
  ⟨some 30, .mv, [.t 6], none⟩,
  ⟨some 31, (.iaddr (some 4)), [.t 29, .t 30], none⟩,
  ⟨some 32, (.load (some 4)), [.t 31], none⟩,
  ⟨some 33, .call, [.c (.pv none (.func (.func 45))), .t 28, .t 32, .c (.pv none (.bool true))], none⟩,
  ⟨some 5, .mv, [.t 33], none⟩]
def c21k19 : ACode := (.block 3 (.region true c21r18 [0, 5, 6]))
def c21r20 : List AOper := [
  ⟨some 26, .mv, [.t 6], none⟩,
  ⟨some 27, (.bin .add), [.t 26, .c (.pv none (.int .i64 (1)))], none⟩,
  ⟨some 6, .mv, [.t 27], none⟩]
def c21b21 : ACode := (.seq (.seq (.region true c21r16 [0, 5, 6, 25]) c21k17) (.seq c21k19 (.region true c21r20 [0, 5, 6])))
def c21k22 : ACode := (.block 2 (.loop [0, 5, 6] c21b21))
def c21r23 : List AOper := [
  ⟨some 34, .mv, [.t 5], none⟩,
  ⟨some 2, .mv, [.t 34], none⟩,
  ⟨some 3, .mv, [.c (.pv none (.int .i64 (0)))], none⟩]
def c21 : ACode := (.seq (.region true c21r0 [0]) (.seq (.seq (.region true c21r1 [0, 9]) c21k3) (.seq (.seq (.region true c21r4 [0, 4]) c21k13) (.seq (.region true c21r14 [0, 5]) (.seq (.seq (.region true c21r15 [0, 5, 6]) c21k22) (.seq (.region true c21r23 [2, 3]) .ret))))))
def g21 : AFn := ⟨1, [(2, none), (3, none)], c21, false⟩
theorem tr21 : trFn Try.prog false Try.f21 = some g21 := by kernel_rfl
/- hornbeam/hornbeamref03.SameAll -/
def c22r0 : List AOper := [
  ⟨some 4, .mv, [.c (.pv none (.bool false))], none⟩]
def c22r1 : List AOper := [
  ⟨some 6, .mv, [.t 0], none⟩,
  ⟨some 7, .len, [.t 6], none⟩,
  ⟨some 8, .mv, [.t 1], none⟩,
  ⟨some 9, .len, [.t 8], none⟩,
  ⟨some 10, (.bin .neq), [.t 7, .t 9], none⟩]
def c22r2 : List AOper := [
  ⟨some 4, .mv, [.c (.pv none (.bool false))], none⟩]
def c22k3 : ACode := (.cond (.t 10) (.seq (.region true c22r2 [4]) .ret) .skip)
def c22r4 : List AOper := [
  ⟨some 5, .mv, [.c (.pv none (.int .i64 (0)))], none⟩]
def c22r5 : List AOper := [
  ⟨some 11, .mv, [.t 5], none⟩,
  ⟨some 12, .mv, [.t 0], none⟩,
  ⟨some 13, .len, [.t 12], none⟩,
  ⟨some 14, (.bin .lss), [.t 11, .t 13], none⟩]
def c22k6 : ACode := (.cond (.t 14) .skip (.exit 0))
def c22r7 : List AOper := [
  ⟨some 17, .mv, [.t 0], none⟩,
  ⟨some 18, .mv, [.t 5], none⟩,
  ⟨some 19, (.iaddr (some 4)), [.t 17, .t 18], none⟩,
  ⟨some 20, (.load (some 4)), [.t 19], none⟩,
  ⟨some 21, .mv, [.t 1], none⟩,
  ⟨some 22, .mv, [.t 5], none⟩,
  ⟨some 23, (.iaddr (some 4)), [.t 21, .t 22], none⟩,
  ⟨some 24, (.load (some 4)), [.t 23], none⟩,
  ⟨some 25, .call, [.c (.pv none (.func (.func 28))), .t 20, .t 24], none⟩,
  ⟨some 26, .not, [.t 25], none⟩]
def c22r8 : List AOper := [
  ⟨some 4, .mv, [.c (.pv none (.bool false))], none⟩]
def c22k9 : ACode := (.cond (.t 26) (.seq (.region true c22r8 [4]) .ret) .skip)
def c22k10 : ACode := (.block 1 (.seq (.region true c22r7 [0, 1, 5, 26]) c22k9))
def c22r11 : List AOper := [
  ⟨some 15, .mv, [.t 5], none⟩,
  ⟨some 16, (.bin .add), [.t 15, .c (.pv none (.int .i64 (1)))], none⟩,
  ⟨some 5, .mv, [.t 16], none⟩]
def c22b12 : ACode := (.seq (.seq (.region true c22r5 [0, 1, 5, 14]) c22k6) (.seq c22k10 (.region true c22r11 [0, 1, 5])))
def c22k13 : ACode := (.block 0 (.loop [0, 1, 5] c22b12))
def c22r14 : List AOper := [
  ⟨some 4, .mv, [.c (.pv none (.bool true))], none⟩]
def c22 : ACode := (.seq (.region true c22r0 [0, 1]) (.seq (.seq (.region true c22r1 [0, 1, 10]) c22k3) (.seq (.seq (.region true c22r4 [0, 1, 5]) c22k13) (.seq (.region true c22r14 [4]) .ret))))
def g22 : AFn := ⟨2, [(4, none)], c22, false⟩
theorem tr22 : trFn Try.prog false Try.f22 = some g22 := by kernel_rfl
/- hornbeam/hornbeamlaw04.valid -/
def c23r0 : List AOper := [
  ⟨some 2, .mv, [.c (.pv none (.bool false))], none⟩]
def c23r1 : List AOper := [
  ⟨some 3, .mv, [.c (.pv none (.int .i64 (0)))], none⟩]
def c23r2 : List AOper := [
  ⟨some 4, .mv, [.t 3], none⟩,
  ⟨some 5, .mv, [.t 0], none⟩,
  ⟨some 6, .len, [.t 5], none⟩,
  ⟨some 7, (.bin .lss), [.t 4, .t 6], none⟩]
def c23k3 : ACode := (.cond (.t 7) .skip (.exit 0))
def c23r4 : List AOper := [
  ⟨some 10, .mv, [.t 0], none⟩,
  ⟨some 11, .mv, [.t 3], none⟩,
  ⟨some 12, (.iaddr (some 4)), [.t 10, .t 11], none⟩,
  ⟨some 13, (.load (some 4)), [.t 12], none⟩,
  ⟨some 14, .call, [.c (.pv none (.func (.func 31))), .t 13], none⟩,
  ⟨some 15, .not, [.t 14], none⟩]
def c23r5 : List AOper := [
  ⟨some 2, .mv, [.c (.pv none (.bool false))], none⟩]
def c23k6 : ACode := (.cond (.t 15) (.seq (.region true c23r5 [2]) .ret) .skip)
def c23k7 : ACode := (.block 1 (.seq (.region true c23r4 [0, 3, 15]) c23k6))
def c23r8 : List AOper := [
  ⟨some 8, .mv, [.t 3], none⟩,
  ⟨some 9, (.bin .add), [.t 8, .c (.pv none (.int .i64 (1)))], none⟩,
  ⟨some 3, .mv, [.t 9], none⟩]
def c23b9 : ACode := (.seq (.seq (.region true c23r2 [0, 3, 7]) c23k3) (.seq c23k7 (.region true c23r8 [0, 3])))
def c23k10 : ACode := (.block 0 (.loop [0, 3] c23b9))
def c23r11 : List AOper := [
  ⟨some 2, .mv, [.c (.pv none (.bool true))], none⟩]
def c23 : ACode := (.seq (.region true c23r0 [0]) (.seq (.seq (.region true c23r1 [0, 3]) c23k10) (.seq (.region true c23r11 [2]) .ret)))
def g23 : AFn := ⟨1, [(2, none)], c23, false⟩
theorem tr23 : trFn Try.prog false Try.f23 = some g23 := by kernel_rfl
/- hornbeam/hornbeamref03.Clone -/
def c24r0 : List AOper := [
  ⟨some 1, (.box (some 4)), [.t 0], none⟩,
  ⟨some 2, (.alloc (some 4) (.agg [(none, (.pv none (.int .i64 (0)))), (none, (.pv none (.int .i64 (0)))), (none, (.pv none (.str []))), (none, (.tsl (some 4) []))])), [], none⟩]
def c24r1 : List AOper := [
  ⟨some 3, (.load (some 4)), [.t 1], none⟩,
  ⟨some 4, .call, [.c (.pv none (.func (.func 31))), .t 3], none⟩,
  ⟨some 5, .not, [.t 4], none⟩]
def c24r2 : List AOper := [
  ⟨some 6, (.build [(none, (.pv none (.int .i64 (0)))), (none, (.pv none (.int .i64 (0)))), (none, (.pv none (.str []))), (none, (.tsl (some 4) []))] []), [], none⟩,
  ⟨none, (.store (some 4)), [.t 2, .t 6], none⟩]
def c24k3 : ACode := (.cond (.t 5) (.seq (.region true c24r2 [2]) .ret) .skip)
def c24r4 : List AOper := [
  ⟨some 7, (.load (some 4)), [.t 1], none⟩,
  ⟨some 8, .call, [.c (.pv none (.func (.func 47))), .t 7], none⟩,
  ⟨none, (.store (some 4)), [.t 2, .t 8], none⟩]
def c24 : ACode := (.seq (.region true c24r0 [1, 2]) (.seq (.seq (.region true c24r1 [1, 2, 5]) c24k3) (.seq (.region true c24r4 [2]) .ret)))
def g24 : AFn := ⟨1, [(2, some (some 4))], c24, false⟩
theorem tr24 : trFn Try.prog false Try.f24 = some g24 := by kernel_rfl
/- hornbeam/hornbeamlaw04.spoil -/
def c25r0 : List AOper := [
  ⟨some 2, .mv, [.c (.pv none (.int .i64 (0)))], none⟩]
def c25r1 : List AOper := [
  ⟨some 4, .mv, [.t 2], none⟩,
  ⟨some 5, .mv, [.t 0], none⟩,
  ⟨some 6, .len, [.t 5], none⟩,
  ⟨some 7, (.bin .lss), [.t 4, .t 6], none⟩]
def c25k2 : ACode := (.cond (.t 7) .skip (.exit 0))
def c25r3 : List AOper := [
  ⟨some 3, .mv, [.c (.pv none (.int .i64 (0)))], none⟩]
def c25r4 : List AOper := [
  ⟨some 10, .mv, [.t 3], none⟩,
  ⟨some 11, .mv, [.t 0], none⟩,
  ⟨some 12, .mv, [.t 2], none⟩,
  ⟨some 13, (.iaddr (some 4)), [.t 11, .t 12], none⟩,
  ⟨some 14, (.faddr 3), [.t 13], none⟩,
  ⟨some 15, (.load none), [.t 14], none⟩,
  ⟨some 16, .len, [.t 15], none⟩,
  ⟨some 17, (.bin .lss), [.t 10, .t 16], none⟩]
def c25k5 : ACode := (.cond (.t 17) .skip (.exit 2))
def c25r6 : List AOper := [
  ⟨some 20, .mv, [.t 0], none⟩,
  ⟨some 21, .mv, [.t 2], none⟩,
  ⟨some 22, (.iaddr (some 4)), [.t 20, .t 21], none⟩,
  ⟨some 23, (.faddr 3), [.t 22], none⟩,
  ⟨some 24, (.load none), [.t 23], none⟩,
  ⟨some 25, .mv, [.t 3], none⟩,
  ⟨some 26, (.build [(none, (.pv none (.int .i64 (0)))), (none, (.pv none (.int .i64 (0)))), (none, (.pv none (.str []))), (none, (.tsl (some 4) []))] [0]), [.c (.pv none (.int .i64 (7)))], none⟩,
  ⟨some 27, (.iaddr (some 4)), [.t 24, .t 25], none⟩,
  ⟨none, (.store (some 4)), [.t 27, .t 26], none⟩]
def c25k7 : ACode := (.block 3 (.region true c25r6 [0, 2, 3]))
def c25r8 : List AOper := [
  ⟨some 18, .mv, [.t 3], none⟩,
  ⟨some 19, (.bin .add), [.t 18, .c (.pv none (.int .i64 (1)))], none⟩,
  ⟨some 3, .mv, [.t 19], none⟩]
def c25b9 : ACode := (.seq (.seq (.region true c25r4 [0, 2, 3, 17]) c25k5) (.seq c25k7 (.region true c25r8 [0, 2, 3])))
def c25k10 : ACode := (.block 2 (.loop [0, 2, 3] c25b9))
def c25r11 : List AOper := [
  ⟨some 28, .mv, [.t 0], none⟩,
  ⟨some 29, .mv, [.t 2], none⟩,
  ⟨some 30, (.build [(none, (.pv none (.int .i64 (0)))), (none, (.pv none (.int .i64 (0)))), (none, (.pv none (.str []))), (none, (.tsl (some 4) []))] [0]), [.c (.pv none (.int .i64 (7)))], none⟩,
  ⟨some 31, (.iaddr (some 4)), [.t 28, .t 29], none⟩,
  ⟨none, (.store (some 4)), [.t 31, .t 30], none⟩]
def c25k12 : ACode := (.block 1 (.seq (.seq (.region true c25r3 [0, 2, 3]) c25k10) (.region true c25r11 [0, 2])))
def c25r13 : List AOper := [
  ⟨some 8, .mv, [.t 2], none⟩,
  ⟨some 9, (.bin .add), [.t 8, .c (.pv none (.int .i64 (1)))], none⟩,
  ⟨some 2, .mv, [.t 9], none⟩]
def c25b14 : ACode := (.seq (.seq (.region true c25r1 [0, 2, 7]) c25k2) (.seq c25k12 (.region true c25r13 [0, 2])))
def c25k15 : ACode := (.block 0 (.loop [0, 2] c25b14))
def c25 : ACode := (.seq (.region true c25r0 [0, 2]) c25k15)
def g25 : AFn := ⟨1, [], c25, false⟩
theorem tr25 : trFn Try.prog false Try.f25 = some g25 := by kernel_rfl
/- hornbeam/order.Rank -/
def c26r0 : List AOper := [
  ⟨some 3, (.box (some 4)), [.t 1], none⟩,
  ⟨some 4, .mv, [.c (.pv none (.int .i64 (0)))], none⟩,
  ⟨some 5, .mv, [.c (.pv none (.bool false))], none⟩]
def c26r1 : List AOper := [
  ⟨some 7, (.load (some 4)), [.t 3], none⟩,
  ⟨some 8, .call, [.c (.pv none (.func (.func 36))), .t 7], none⟩,
  ⟨some 9, .not, [.t 8], none⟩,
  ⟨some 10, .mv, [.t 9], none⟩,
  ⟨some 11, .mv, [.t 0], some (10, false)⟩,
  ⟨some 12, .call, [.c (.pv none (.func (.func 41))), .t 11], some (10, false)⟩,
  ⟨some 13, .not, [.t 12], some (10, false)⟩,
  ⟨some 14, .pick, [.t 10, .c (.pv none (.bool true)), .t 13], none⟩]
def c26r2 : List AOper := [
  ⟨some 4, .mv, [.c (.pv none (.int .i64 (0)))], none⟩,
  ⟨some 5, .mv, [.c (.pv none (.bool false))], none⟩]
def c26k3 : ACode := (.cond (.t 14) (.seq (.region true c26r2 [4, 5]) .ret) .skip)
def c26r4 : List AOper := [
  ⟨some 6, .mv, [.c (.pv none (.int .i64 (1)))], none⟩]
def c26r5 : List AOper := [
  ⟨some 15, .mv, [.t 6], none⟩,
  ⟨some 16, .mv, [.t 0], none⟩,
  ⟨some 17, .len, [.t 16], none⟩,
  ⟨some 18, (.bin .lss), [.t 15, .t 17], none⟩]
def c26k6 : ACode := (.cond (.t 18) .skip (.exit 0))
def c26r7 : List AOper := [
  ⟨some 21, .mv, [.t 0], none⟩,
  ⟨some 22, .mv, [.t 6], none⟩,
  ⟨some 23, (.bin .sub), [.t 22, .c (.pv none (.int .i64 (1)))], none⟩,
  ⟨some 24, (.iaddr (some 4)), [.t 21, .t 23], none⟩,
  ⟨some 25, (.load (some 4)), [.t 24], none⟩,
  ⟨some 26, .mv, [.t 0], none⟩,
  ⟨some 27, .mv, [.t 6], none⟩,
  ⟨some 28, (.iaddr (some 4)), [.t 26, .t 27], none⟩,
  ⟨some 29, (.load (some 4)), [.t 28], none⟩,
  ⟨some 30, .call, [.c (.pv none (.func (.func 37))), .t 25, .t 29], none⟩,
  ⟨some 31, (.bin .geq), [.t 30, .c (.pv none (.int .i64 (0)))], none⟩]
def c26r8 : List AOper := [
  ⟨some 4, .mv, [.c (.pv none (.int .i64 (0)))], none⟩,
  ⟨some 5, .mv, [.c (.pv none (.bool false))], none⟩]
def c26k9 : ACode := (.cond (.t 31) (.seq (.region true c26r8 [4, 5]) .ret) .skip)
def c26k10 : ACode := (.block 1 (.seq (.region true c26r7 [0, 3, 6, 31]) c26k9))
def c26r11 : List AOper := [
  ⟨some 19, .mv, [.t 6], none⟩,
  ⟨some 20, (.bin .add), [.t 19, .c (.pv none (.int .i64 (1)))], none⟩,
  ⟨some 6, .mv, [.t 20], none⟩]
def c26b12 : ACode := (.seq (.seq (.region true c26r5 [0, 3, 6, 18]) c26k6) (.seq c26k10 (.region true c26r11 [0, 3, 6])))
def c26k13 : ACode := (.block 0 (.loop [0, 3, 6] c26b12))
def c26r14 : List AOper := [
  ⟨some 32, .mv, [.t 0], none⟩,
  ⟨some 33, (.load (some 4)), [.t 3], none⟩,
  ⟨some 34, .call, [.c (.pv none (.func (.func 48))), .t 32, .t 33, .c (.pv none (.func (.func 37)))], none⟩,
  ⟨some 35, (.extract 0), [.t 34], none⟩,
  ⟨some 36, (.extract 1), [.t 34], none⟩,
  ⟨some 4, .mv, [.t 35], none⟩,
  ⟨some 5, .mv, [.t 36], none⟩]
def c26 : ACode := (.seq (.region true c26r0 [0, 3]) (.seq (.seq (.region true c26r1 [0, 3, 14]) c26k3) (.seq (.seq (.region true c26r4 [0, 3, 6]) c26k13) (.seq (.region true c26r14 [4, 5]) .ret))))
def g26 : AFn := ⟨2, [(4, none), (5, none)], c26, false⟩
theorem tr26 : trFn Try.prog false Try.f26 = some g26 := by kernel_rfl
/- hornbeam/hornbeamref04.Rank -/
def c27r0 : List AOper := [
  ⟨some 3, (.box (some 4)), [.t 1], none⟩,
  ⟨some 4, .mv, [.c (.pv none (.int .i64 (0)))], none⟩,
  ⟨some 5, .mv, [.c (.pv none (.bool false))], none⟩]
def c27r1 : List AOper := [
  ⟨some 8, (.load (some 4)), [.t 3], none⟩,
  ⟨some 9, .call, [.c (.pv none (.func (.func 31))), .t 8], none⟩,
  ⟨some 10, .not, [.t 9], none⟩,
  ⟨some 11, .mv, [.t 10], none⟩,
  ⟨some 12, .mv, [.t 0], some (11, false)⟩,
  ⟨some 13, .call, [.c (.pv none (.func (.func 44))), .t 12], some (11, false)⟩,
  ⟨some 14, .not, [.t 13], some (11, false)⟩,
  ⟨some 15, .pick, [.t 11, .c (.pv none (.bool true)), .t 14], none⟩]
def c27r2 : List AOper := [
  ⟨some 4, .mv, [.c (.pv none (.int .i64 (0)))], none⟩,
  ⟨some 5, .mv, [.c (.pv none (.bool false))], none⟩]
def c27k3 : ACode := (.cond (.t 15) (.seq (.region true c27r2 [4, 5]) .ret) .skip)
def c27r4 : List AOper := [
  ⟨some 6, .mv, [.c (.pv none (.int .i64 (1)))], none⟩]
def c27r5 : List AOper := [
  ⟨some 16, .mv, [.t 6], none⟩,
  ⟨some 17, .mv, [.t 0], none⟩,
  ⟨some 18, .len, [.t 17], none⟩,
  ⟨some 19, (.bin .lss), [.t 16, .t 18], none⟩]
def c27k6 : ACode := (.cond (.t 19) .skip (.exit 0))
def c27r7 : List AOper := [
  ⟨some 22, .mv, [.t 0], none⟩,
  ⟨some 23, .mv, [.t 6], none⟩,
  ⟨some 24, (.bin .sub), [.t 23, .c (.pv none (.int .i64 (1)))], none⟩,
  ⟨some 25, (.iaddr (some 4)), [.t 22, .t 24], none⟩,
  ⟨some 26, (.load (some 4)), [.t 25], none⟩,
  ⟨some 27, .mv, [.t 0], none⟩,
  ⟨some 28, .mv, [.t 6], none⟩,
  ⟨some 29, (.iaddr (some 4)), [.t 27, .t 28], none⟩,
  ⟨some 30, (.load (some 4)), [.t 29], none⟩,
  ⟨some 31, .call, [.c (.pv none (.func (.func 38))), .t 26, .t 30], none⟩,
  ⟨some 32, (.bin .geq), [.t 31, .c (.pv none (.int .i64 (0)))], none⟩]
def c27r8 : List AOper := [
  ⟨some 4, .mv, [.c (.pv none (.int .i64 (0)))], none⟩,
  ⟨some 5, .mv, [.c (.pv none (.bool false))], none⟩]
def c27k9 : ACode := (.cond (.t 32) (.seq (.region true c27r8 [4, 5]) .ret) .skip)
def c27k10 : ACode := (.block 1 (.seq (.region true c27r7 [0, 3, 6, 32]) c27k9))
def c27r11 : List AOper := [
  ⟨some 20, .mv, [.t 6], none⟩,
  ⟨some 21, (.bin .add), [.t 20, .c (.pv none (.int .i64 (1)))], none⟩,
  ⟨some 6, .mv, [.t 21], none⟩]
def c27b12 : ACode := (.seq (.seq (.region true c27r5 [0, 3, 6, 19]) c27k6) (.seq c27k10 (.region true c27r11 [0, 3, 6])))
def c27k13 : ACode := (.block 0 (.loop [0, 3, 6] c27b12))
def c27r14 : List AOper := [
  ⟨some 7, .mv, [.c (.pv none (.int .i64 (0)))], none⟩]
def c27r15 : List AOper := [
  ⟨some 33, .mv, [.t 7], none⟩,
  ⟨some 34, .mv, [.t 0], none⟩,
  ⟨some 35, .len, [.t 34], none⟩,
  ⟨some 36, (.bin .lss), [.t 33, .t 35], none⟩,
  ⟨some 37, .mv, [.t 36], none⟩,
  ⟨some 38, .mv, [.t 0], some (37, true)⟩,
  ⟨some 39, .mv, [.t 7], some (37, true)⟩,
  ⟨some 40, (.iaddr (some 4)), [.t 38, .t 39], some (37, true)⟩,
  ⟨some 41, (.load (some 4)), [.t 40], some (37, true)⟩,
  ⟨some 42, (.load (some 4)), [.t 3], some (37, true)⟩,
  ⟨some 43, .call, [.c (.pv none (.func (.func 38))), .t 41, .t 42], some (37, true)⟩,
  ⟨some 44, (.bin .lss), [.t 43, .c (.pv none (.int .i64 (0)))], some (37, true)⟩,
  ⟨some 45, .pick, [.t 37, .t 44, .c (.pv none (.bool false))], none⟩]
def c27k16 : ACode := (.cond (.t 45) .skip (.exit 2))
def c27r17 : List AOper := [
  ⟨some 46, .mv, [.t 7], none⟩,
  ⟨some 47, (.bin .add), [.t 46, .c (.pv none (.int .i64 (1)))], none⟩,
  ⟨some 7, .mv, [.t 47], none⟩]
def c27k18 : ACode := (.block 3 (.region true c27r17 [0, 3, 7]))
def c27b19 : ACode := (.seq (.seq (.region true c27r15 [0, 3, 7, 45]) c27k16) c27k18)
def c27k20 : ACode := (.block 2 (.loop [0, 3, 7] c27b19))
def c27r21 : List AOper := [
  ⟨some 48, .mv, [.t 7], none⟩,
  ⟨some 49, .mv, [.t 7], none⟩,
  ⟨some 50, .mv, [.t 0], none⟩,
  ⟨some 51, .len, [.t 50], none⟩,
  ⟨some 52, (.bin .lss), [.t 49, .t 51], none⟩,
  ⟨some 53, .mv, [.t 52], none⟩,
  ⟨some 54, .mv, [.t 0], some (53, true)⟩,
  ⟨some 55, .mv, [.t 7], some (53, true)⟩,
  ⟨some 56, (.iaddr (some 4)), [.t 54, .t 55], some (53, true)⟩,
  ⟨some 57, (.load (some 4)), [.t 56], some (53, true)⟩,
  ⟨some 58, (.load (some 4)), [.t 3], some (53, true)⟩,
  ⟨some 59, .call, [.c (.pv none (.func (.func 38))), .t 57, .t 58], some (53, true)⟩,
  ⟨some 60, (.bin .eql), [.t 59, .c (.pv none (.int .i64 (0)))], some (53, true)⟩,
  ⟨some 61, .pick, [.t 53, .t 60, .c (.pv none (.bool false))], none⟩,
  ⟨some 4, .mv, [.t 48], none⟩,
  ⟨some 5, .mv, [.t 61], none⟩]
def c27 : ACode := (.seq (.region true c27r0 [0, 3]) (.seq (.seq (.region true c27r1 [0, 3, 15]) c27k3) (.seq (.seq (.region true c27r4 [0, 3, 6]) c27k13) (.seq (.region true c27r14 [0, 3, 7]) (.seq c27k20 (.seq (.region false c27r21 [4, 5]) .ret))))))
def g27 : AFn := ⟨2, [(4, none), (5, none)], c27, false⟩
theorem tr27 : trFn Try.prog false Try.f27 = some g27 := by kernel_rfl
/- hornbeam/hornbeamref03.Same -/
def c28r0 : List AOper := [
  ⟨some 2, (.box (some 4)), [.t 0], none⟩,
  ⟨some 3, (.box (some 4)), [.t 1], none⟩,
  ⟨some 4, .mv, [.c (.pv none (.bool false))], none⟩]
def c28r1 : List AOper := [
  ⟨some 5, (.load (some 4)), [.t 2], none⟩,
  ⟨some 6, .call, [.c (.pv none (.func (.func 31))), .t 5], none⟩,
  ⟨some 7, .mv, [.t 6], none⟩,
  ⟨some 8, (.load (some 4)), [.t 3], some (7, true)⟩,
  ⟨some 9, .call, [.c (.pv none (.func (.func 31))), .t 8], some (7, true)⟩,
  ⟨some 10, .pick, [.t 7, .t 9, .c (.pv none (.bool false))], none⟩,
  ⟨some 11, .mv, [.t 10], none⟩,
  ⟨some 12, (.load (some 4)), [.t 2], some (11, true)⟩,
  ⟨some 13, (.load (some 4)), [.t 3], some (11, true)⟩,
  ⟨some 14, .call, [.c (.pv none (.func (.func 49))), .t 12, .t 13], some (11, true)⟩,
  ⟨some 15, .pick, [.t 11, .t 14, .c (.pv none (.bool false))], none⟩,
  ⟨some 4, .mv, [.t 15], none⟩]
def c28 : ACode := (.seq (.region true c28r0 [2, 3]) (.seq (.region true c28r1 [4]) .ret))
def g28 : AFn := ⟨2, [(4, none)], c28, false⟩
theorem tr28 : trFn Try.prog false Try.f28 = some g28 := by kernel_rfl
/- hornbeam/hornbeamlaw04.x -/
def c30r0 : List AOper := [
  ⟨some 2, (.alloc (some 4) (.agg [(none, (.pv none (.int .i64 (0)))), (none, (.pv none (.int .i64 (0)))), (none, (.pv none (.str []))), (none, (.tsl (some 4) []))])), [], none⟩]
def c30r1 : List AOper := [
  ⟨some 3, .mv, [.t 0], none⟩,
  ⟨some 4, (.build [(none, (.pv none (.int .i64 (0)))), (none, (.pv none (.int .i64 (0)))), (none, (.pv none (.str []))), (none, (.tsl (some 4) []))] [1]), [.t 3], none⟩,
  ⟨none, (.store (some 4)), [.t 2, .t 4], none⟩]
def c30 : ACode := (.seq (.region true c30r0 [0, 2]) (.seq (.region true c30r1 [2]) .ret))
def g30 : AFn := ⟨1, [(2, some (some 4))], c30, false⟩
theorem tr30 : trFn Try.prog false Try.f30 = some g30 := by kernel_rfl
/- hornbeam/hornbeamref03.Valid -/
def c31r0 : List AOper := [
  ⟨some 1, (.box (some 4)), [.t 0], none⟩,
  ⟨some 2, .mv, [.c (.pv none (.bool false))], none⟩]
def c31r1 : List AOper := [
  ⟨some 3, (.load (some 4)), [.t 1], none⟩,
  ⟨some 4, .call, [.c (.pv none (.func (.func 50))), .t 3], none⟩,
  ⟨some 5, (.bin .leq), [.t 4, .c (.pv none (.int .i64 (2000)))], none⟩,
  ⟨some 6, .mv, [.t 5], none⟩,
  ⟨some 7, (.load (some 4)), [.t 1], some (6, true)⟩,
  ⟨some 8, .call, [.c (.pv none (.func (.func 51))), .t 7], some (6, true)⟩,
  ⟨some 9, .pick, [.t 6, .t 8, .c (.pv none (.bool false))], none⟩,
  ⟨some 2, .mv, [.t 9], none⟩]
def c31 : ACode := (.seq (.region true c31r0 [1]) (.seq (.region true c31r1 [2]) .ret))
def g31 : AFn := ⟨1, [(2, none)], c31, false⟩
theorem tr31 : trFn Try.prog false Try.f31 = some g31 := by kernel_rfl
/- hornbeam/hornbeamlaw04.count -/
def c32r0 : List AOper := [
  ⟨some 3, (.box (some 4)), [.t 1], none⟩,
  ⟨some 4, .mv, [.c (.pv none (.int .i64 (0)))], none⟩]
def c32r1 : List AOper := [
  ⟨some 5, .mv, [.c (.pv none (.int .i64 (0)))], none⟩]
def c32r2 : List AOper := [
  ⟨some 6, .mv, [.c (.pv none (.int .i64 (0)))], none⟩]
def c32r3 : List AOper := [
  ⟨some 7, .mv, [.t 6], none⟩,
  ⟨some 8, .mv, [.t 0], none⟩,
  ⟨some 9, .len, [.t 8], none⟩,
  ⟨some 10, (.bin .lss), [.t 7, .t 9], none⟩]
def c32k4 : ACode := (.cond (.t 10) .skip (.exit 0))
def c32r5 : List AOper := [
  ⟨some 13, .mv, [.t 0], none⟩,
  ⟨some 14, .mv, [.t 6], none⟩,
  ⟨some 15, (.iaddr (some 4)), [.t 13, .t 14], none⟩,
  ⟨some 16, (.load (some 4)), [.t 15], none⟩,
  ⟨some 17, (.load (some 4)), [.t 3], none⟩,
  ⟨some 18, .call, [.c (.pv none (.func (.func 28))), .t 16, .t 17], none⟩]
def c32r6 : List AOper := [
  ⟨some 19, .mv, [.t 5], none⟩,
  ⟨some 20, (.bin .add), [.t 19, .c (.pv none (.int .i64 (1)))], none⟩,
  ⟨some 5, .mv, [.t 20], none⟩]
def c32k7 : ACode := (.cond (.t 18) (.region true c32r6 [0, 3, 5, 6]) .skip)
def c32k8 : ACode := (.block 1 (.seq (.region true c32r5 [0, 3, 5, 6, 18]) c32k7))
def c32r9 : List AOper := [
  ⟨some 11, .mv, [.t 6], none⟩,
  ⟨some 12, (.bin .add), [.t 11, .c (.pv none (.int .i64 (1)))], none⟩,
  ⟨some 6, .mv, [.t 12], none⟩]
def c32b10 : ACode := (.seq (.seq (.region true c32r3 [0, 3, 5, 6, 10]) c32k4) (.seq c32k8 (.region true c32r9 [0, 3, 5, 6])))
def c32k11 : ACode := (.block 0 (.loop [0, 3, 5, 6] c32b10))
def c32r12 : List AOper := [
  ⟨some 21, .mv, [.t 5], none⟩,
  ⟨some 4, .mv, [.t 21], none⟩]
def c32 : ACode := (.seq (.region true c32r0 [0, 3]) (.seq (.region true c32r1 [0, 3, 5]) (.seq (.seq (.region true c32r2 [0, 3, 5, 6]) c32k11) (.seq (.region true c32r12 [4]) .ret))))
def g32 : AFn := ⟨2, [(4, none)], c32, false⟩
theorem tr32 : trFn Try.prog false Try.f32 = some g32 := by kernel_rfl
/- hornbeam/hornbeamlaw04.f -/
def c33r0 : List AOper := [
  ⟨some 4, (.alloc (some 4) (.agg [(none, (.pv none (.int .i64 (0)))), (none, (.pv none (.int .i64 (0)))), (none, (.pv none (.str []))), (none, (.tsl (some 4) []))])), [], none⟩]
def c33r1 : List AOper := [
  ⟨some 5, .mv, [.t 0], none⟩,
  ⟨some 6, .mv, [.t 1], none⟩,
  ⟨some 7, (.build [(none, (.pv none (.int .i64 (0)))), (none, (.pv none (.int .i64 (0)))), (none, (.pv none (.str []))), (none, (.tsl (some 4) []))] [0, 2, 3]), [.c (.pv none (.int .i64 (3))), .t 5, .t 6], none⟩,
  ⟨none, (.store (some 4)), [.t 4, .t 7], none⟩]
def c33 : ACode := (.seq (.region true c33r0 [0, 1, 4]) (.seq (.region true c33r1 [4]) .ret))
def g33 : AFn := ⟨2, [(4, some (some 4))], c33, false⟩
theorem tr33 : trFn Try.prog false Try.f33 = some g33 := by kernel_rfl
/- hornbeam/hornbeamlaw04.n -/
def c34r0 : List AOper := [
  ⟨some 2, (.alloc (some 4) (.agg [(none, (.pv none (.int .i64 (0)))), (none, (.pv none (.int .i64 (0)))), (none, (.pv none (.str []))), (none, (.tsl (some 4) []))])), [], none⟩]
def c34r1 : List AOper := [
  ⟨some 3, .mv, [.t 0], none⟩,
  ⟨some 4, (.build [(none, (.pv none (.int .i64 (0)))), (none, (.pv none (.int .i64 (0)))), (none, (.pv none (.str []))), (none, (.tsl (some 4) []))] [0, 1]), [.c (.pv none (.int .i64 (1))), .t 3], none⟩,
  ⟨none, (.store (some 4)), [.t 2, .t 4], none⟩]
def c34 : ACode := (.seq (.region true c34r0 [0, 2]) (.seq (.region true c34r1 [2]) .ret))
def g34 : AFn := ⟨1, [(2, some (some 4))], c34, false⟩
theorem tr34 : trFn Try.prog false Try.f34 = some g34 := by kernel_rfl
/- hornbeam/hornbeamlaw04.a -/
def c35r0 : List AOper := [
  ⟨some 2, (.alloc (some 4) (.agg [(none, (.pv none (.int .i64 (0)))), (none, (.pv none (.int .i64 (0)))), (none, (.pv none (.str []))), (none, (.tsl (some 4) []))])), [], none⟩]
def c35r1 : List AOper := [
  ⟨some 3, .mv, [.t 0], none⟩,
  ⟨some 4, (.build [(none, (.pv none (.int .i64 (0)))), (none, (.pv none (.int .i64 (0)))), (none, (.pv none (.str []))), (none, (.tsl (some 4) []))] [0, 2]), [.c (.pv none (.int .i64 (2))), .t 3], none⟩,
  ⟨none, (.store (some 4)), [.t 2, .t 4], none⟩]
def c35 : ACode := (.seq (.region true c35r0 [0, 2]) (.seq (.region true c35r1 [2]) .ret))
def g35 : AFn := ⟨1, [(2, some (some 4))], c35, false⟩
theorem tr35 : trFn Try.prog false Try.f35 = some g35 := by kernel_rfl
/- hornbeam/term.Valid -/
def c36r0 : List AOper := [
  ⟨some 1, (.box (some 4)), [.t 0], none⟩,
  ⟨some 2, .mv, [.c (.pv none (.bool false))], none⟩]
def c36r1 : List AOper := [
  ⟨some 3, (.load (some 4)), [.t 1], none⟩,
  ⟨some 4, .call, [.c (.pv none (.func (.func 52))), .t 3], none⟩,
  ⟨some 5, (.bin .leq), [.t 4, .c (.pv none (.int .i64 (2000)))], none⟩,
  ⟨some 6, .mv, [.t 5], none⟩,
  ⟨some 7, (.load (some 4)), [.t 1], some (6, true)⟩,
  ⟨some 8, .call, [.c (.pv none (.func (.func 53))), .t 7], some (6, true)⟩,
  ⟨some 9, .pick, [.t 6, .t 8, .c (.pv none (.bool false))], none⟩,
  ⟨some 2, .mv, [.t 9], none⟩]
def c36 : ACode := (.seq (.region true c36r0 [1]) (.seq (.region true c36r1 [2]) .ret))
def g36 : AFn := ⟨1, [(2, none)], c36, false⟩
theorem tr36 : trFn Try.prog false Try.f36 = some g36 := by kernel_rfl
/- hornbeam/order.compare -/
def c37r0 : List AOper := [
  ⟨some 2, (.box (some 4)), [.t 0], none⟩,
  ⟨some 3, (.box (some 4)), [.t 1], none⟩,
  ⟨some 4, .mv, [.c (.pv none (.int .i64 (0)))], none⟩]
def c37r1 : List AOper := [
  ⟨some 12, (.build [(none, (.pv none (.int .i64 (0)))), (none, (.pv none (.int .i64 (0)))), (none, (.pv none (.int .i64 (0)))), (none, (.pv none (.int .i64 (0))))] [0, 1, 2, 3]), [.c (.pv none (.int .i64 (0))), .c (.pv none (.int .i64 (1))), .c (.pv none (.int .i64 (2))), .c (.pv none (.int .i64 (3)))], none⟩,
  ⟨some 5, (.alloc (some 4) (.pv (some 4) (.agg [(none, (.int .i64 (0))), (none, (.int .i64 (0))), (none, (.int .i64 (0))), (none, (.int .i64 (0)))]))), [], none⟩,
  ⟨none, (.store (some 4)), [.t 5, .t 12], none⟩]
def c37r2 : List AOper := [
  ⟨some 13, (.faddr 0), [.t 2], none⟩,
  ⟨some 14, (.load none), [.t 13], none⟩,
  ⟨some 15, (.iaddrA none 4), [.t 5, .t 14], none⟩,
  ⟨some 16, (.load none), [.t 15], none⟩,
  ⟨some 17, (.faddr 0), [.t 3], none⟩,
  ⟨some 18, (.load none), [.t 17], none⟩,
  ⟨some 19, (.iaddrA none 4), [.t 5, .t 18], none⟩,
  ⟨some 20, (.load none), [.t 19], none⟩,
  ⟨some 21, .call, [.c (.pv none (.func (.func 54))), .t 16, .t 20], none⟩,
  ⟨some 6, .mv, [.t 21], none⟩]
def c37r3 : List AOper := [
  ⟨some 22, .mv, [.t 6], none⟩,
  ⟨some 23, (.bin .neq), [.t 22, .c (.pv none (.int .i64 (0)))], none⟩]
def c37r4 : List AOper := [
  ⟨some 24, .mv, [.t 6], none⟩,
  ⟨some 4, .mv, [.t 24], none⟩]
def c37k5 : ACode := (.cond (.t 23) (.seq (.region true c37r4 [4]) .ret) .skip)
def c37r6 : List AOper := [
  ⟨some 25, (.faddr 0), [.t 2], none⟩,
  ⟨some 26, (.load none), [.t 25], none⟩,
  ⟨some 27, (.bin .eql), [.t 26, .c (.pv none (.int .i64 (0)))], none⟩,
  ⟨some 28, .mv, [.t 27], none⟩,
  ⟨some 29, (.faddr 0), [.t 2], some (28, false)⟩,
  ⟨some 30, (.load none), [.t 29], some (28, false)⟩,
  ⟨some 31, (.bin .eql), [.t 30, .c (.pv none (.int .i64 (1)))], some (28, false)⟩,
  ⟨some 32, .pick, [.t 28, .c (.pv none (.bool true)), .t 31], none⟩]
def c37r7 : List AOper := [
  ⟨some 33, (.faddr 1), [.t 2], none⟩,
  ⟨some 34, (.load none), [.t 33], none⟩,
  ⟨some 35, (.faddr 1), [.t 3], none⟩,
  ⟨some 36, (.load none), [.t 35], none⟩,
  ⟨some 37, .call, [.c (.pv none (.func (.func 55))), .t 34, .t 36], none⟩,
  ⟨some 4, .mv, [.t 37], none⟩]
def c37k8 : ACode := (.cond (.t 32) (.seq (.region true c37r7 [4]) .ret) .skip)
def c37r9 : List AOper := [
  ⟨some 38, (.faddr 3), [.t 2], none⟩,
  ⟨some 39, (.load none), [.t 38], none⟩,
  ⟨some 40, .len, [.t 39], none⟩,
  ⟨some 41, (.faddr 3), [.t 3], none⟩,
  ⟨some 42, (.load none), [.t 41], none⟩,
  ⟨some 43, .len, [.t 42], none⟩,
  ⟨some 44, .call, [.c (.pv none (.func (.func 54))), .t 40, .t 43], none⟩,
  ⟨some 7, .mv, [.t 44], none⟩]
def c37r10 : List AOper := [
  ⟨some 45, .mv, [.t 7], none⟩,
  ⟨some 46, (.bin .neq), [.t 45, .c (.pv none (.int .i64 (0)))], none⟩]
def c37r11 : List AOper := [
  ⟨some 47, .mv, [.t 7], none⟩,
  ⟨some 4, .mv, [.t 47], none⟩]
def c37k12 : ACode := (.cond (.t 46) (.seq (.region true c37r11 [4]) .ret) .skip)
def c37r13 : List AOper := [
  ⟨some 48, (.faddr 2), [.t 2], none⟩,
  ⟨some 49, (.load none), [.t 48], none⟩,
  ⟨some 50, (.faddr 2), [.t 3], none⟩,
  ⟨some 51, (.load none), [.t 50], none⟩,
  ⟨some 52, .call, [.c (.pv none (.func (.func 56))), .t 49, .t 51], none⟩,
  ⟨some 8, .mv, [.t 52], none⟩]
def c37r14 : List AOper := [
  ⟨some 53, .mv, [.t 8], none⟩,
  ⟨some 54, (.bin .neq), [.t 53, .c (.pv none (.int .i64 (0)))], none⟩]
def c37r15 : List AOper := [
  ⟨some 55, .mv, [.t 8], none⟩,
  ⟨some 4, .mv, [.t 55], none⟩]
def c37k16 : ACode := (.cond (.t 54) (.seq (.region true c37r15 [4]) .ret) .skip)
def c37r17 : List AOper := [
  ⟨some 56, (.faddr 3), [.t 2], none⟩,
  ⟨some 57, (.load none), [.t 56], none⟩,
  ⟨some 58, .len, [.t 57], none⟩,
  ⟨some 59, .mv, [.c (.pv none (.int .i64 (0)))], none⟩]
def c37r18 : List AOper := [
  ⟨some 60, (.bin .lss), [.t 59, .t 58], none⟩]
def c37k19 : ACode := (.cond (.t 60) .skip (.exit 0))
def c37r20 : List AOper := [
  ⟨some 61, .mv, [.t 59], none⟩,
  ⟨some 62, (.iaddr (some 4)), [.t 57, .t 59], none⟩,
  ⟨some 63, (.load (some 4)), [.t 62], none⟩,
  ⟨some 10, (.alloc (some 4) (.agg [(none, (.pv none (.int .i64 (0)))), (none, (.pv none (.int .i64 (0)))), (none, (.pv none (.str []))), (none, (.tsl (some 4) []))])), [], none⟩,
  ⟨some 9, .mv, [.t 61], none⟩,
  ⟨none, (.store (some 4)), [.t 10, .t 63], none⟩]
def c37r21 : List AOper := [
  ⟨some 64, (.load (some 4)), [.t 10], none⟩,
  ⟨some 65, (.faddr 3), [.t 3], none⟩,
  ⟨some 66, (.load none), [.t 65], none⟩,
  ⟨some 67, .mv, [.t 9], none⟩,
  ⟨some 68, (.iaddr (some 4)), [.t 66, .t 67], none⟩,
  ⟨some 69, (.load (some 4)), [.t 68], none⟩,
  ⟨some 70, .call, [.c (.pv none (.func (.func 37))), .t 64, .t 69], none⟩,
  ⟨some 11, .mv, [.t 70], none⟩]
def c37r22 : List AOper := [
  ⟨some 71, .mv, [.t 11], none⟩,
  ⟨some 72, (.bin .neq), [.t 71, .c (.pv none (.int .i64 (0)))], none⟩]
def c37r23 : List AOper := [
  ⟨some 73, .mv, [.t 11], none⟩,
  ⟨some 4, .mv, [.t 73], none⟩]
def c37k24 : ACode := (.cond (.t 72) (.seq (.region true c37r23 [4]) .ret) .skip)
def c37k25 : ACode := (.block 1 (.seq (.region true c37r20 [3, 9, 10, 57, 58, 59]) (.seq (.region true c37r21 [3, 11, 57, 58, 59]) (.seq (.region true c37r22 [3, 11, 57, 58, 59, 72]) c37k24))))
def c37r26 : List AOper := [
  ⟨some 74, (.bin .add), [.t 59, .c (.pv none (.int .i64 (1)))], none⟩,
  ⟨some 59, .mv, [.t 74], none⟩]
def c37b27 : ACode := (.seq (.region true c37r18 [3, 57, 58, 59, 60]) (.seq c37k19 (.seq c37k25 (.region true c37r26 [3, 57, 58, 59]))))
def c37k28 : ACode := (.block 0 (.loop [3, 57, 58, 59] c37b27))
def c37r29 : List AOper := [
  ⟨some 4, .mv, [.c (.pv none (.int .i64 (0)))], none⟩]
def c37 : ACode := (.seq (.region true c37r0 [2, 3]) (.seq (.region true c37r1 [2, 3, 5]) (.seq (.seq (.region true c37r2 [2, 3, 6]) (.seq (.region true c37r3 [2, 3, 6, 23]) c37k5)) (.seq (.seq (.region true c37r6 [2, 3, 32]) c37k8) (.seq (.seq (.region true c37r9 [2, 3, 7]) (.seq (.region true c37r10 [2, 3, 7, 46]) c37k12)) (.seq (.seq (.region true c37r13 [2, 3, 8]) (.seq (.region true c37r14 [2, 3, 8, 54]) c37k16)) (.seq (.seq (.region true c37r17 [3, 57, 58, 59]) c37k28) (.seq (.region true c37r29 [4]) .ret))))))))
def g37 : AFn := ⟨2, [(4, none)], c37, false⟩
theorem tr37 : trFn Try.prog false Try.f37 = some g37 := by kernel_rfl
/- hornbeam/hornbeamref04.compare -/
def c38r0 : List AOper := [
  ⟨some 2, (.box (some 4)), [.t 0], none⟩,
  ⟨some 3, (.box (some 4)), [.t 1], none⟩,
  ⟨some 4, .mv, [.c (.pv none (.int .i64 (0)))], none⟩]
def c38r1 : List AOper := [
  ⟨some 7, (.faddr 0), [.t 2], none⟩,
  ⟨some 8, (.load none), [.t 7], none⟩,
  ⟨some 9, (.faddr 0), [.t 3], none⟩,
  ⟨some 10, (.load none), [.t 9], none⟩,
  ⟨some 11, (.bin .neq), [.t 8, .t 10], none⟩]
def c38r2 : List AOper := [
  ⟨some 12, (.faddr 0), [.t 2], none⟩,
  ⟨some 13, (.load none), [.t 12], none⟩,
  ⟨some 14, (.faddr 0), [.t 3], none⟩,
  ⟨some 15, (.load none), [.t 14], none⟩,
  ⟨some 16, .call, [.c (.pv none (.func (.func 57))), .t 13, .t 15], none⟩,
  ⟨some 4, .mv, [.t 16], none⟩]
def c38k3 : ACode := (.cond (.t 11) (.seq (.region true c38r2 [4]) .ret) .skip)
def c38r4 : List AOper := [
  ⟨some 17, (.faddr 1), [.t 2], none⟩,
  ⟨some 18, (.load none), [.t 17], none⟩,
  ⟨some 19, (.faddr 1), [.t 3], none⟩,
  ⟨some 20, (.load none), [.t 19], none⟩,
  ⟨some 21, .call, [.c (.pv none (.func (.func 57))), .t 18, .t 20], none⟩,
  ⟨some 5, .mv, [.t 21], none⟩]
def c38r5 : List AOper := [
  ⟨some 22, .mv, [.t 5], none⟩,
  ⟨some 23, (.bin .eql), [.t 22, .c (.pv none (.int .i64 (0)))], none⟩]
def c38r6 : List AOper := [
  ⟨some 24, (.faddr 3), [.t 2], none⟩,
  ⟨some 25, (.load none), [.t 24], none⟩,
  ⟨some 26, .len, [.t 25], none⟩,
  ⟨some 27, (.faddr 3), [.t 3], none⟩,
  ⟨some 28, (.load none), [.t 27], none⟩,
  ⟨some 29, .len, [.t 28], none⟩,
  ⟨some 30, .call, [.c (.pv none (.func (.func 57))), .t 26, .t 29], none⟩,
  ⟨some 5, .mv, [.t 30], none⟩]
def c38k7 : ACode := (.cond (.t 23) (.region true c38r6 [2, 3, 5]) .skip)
def c38r8 : List AOper := [
  ⟨some 31, .mv, [.t 5], none⟩,
  ⟨some 32, (.bin .eql), [.t 31, .c (.pv none (.int .i64 (0)))], none⟩]
def c38r9 : List AOper := [
  ⟨some 33, (.faddr 2), [.t 2], none⟩,
  ⟨some 34, (.load none), [.t 33], none⟩,
  ⟨some 35, (.faddr 2), [.t 3], none⟩,
  ⟨some 36, (.load none), [.t 35], none⟩,
  ⟨some 37, .call, [.c (.pv none (.func (.func 58))), .t 34, .t 36], none⟩,
  ⟨some 5, .mv, [.t 37], none⟩]
def c38k10 : ACode := (.cond (.t 32) (.region true c38r9 [2, 3, 5]) .skip)
def c38r11 : List AOper := [
  ⟨some 6, .mv, [.c (.pv none (.int .i64 (0)))], none⟩]
def c38r12 : List AOper := [
  ⟨some 38, .mv, [.t 6], none⟩,
  ⟨some 39, (.faddr 3), [.t 2], none⟩,
  ⟨some 40, (.load none), [.t 39], none⟩,
  ⟨some 41, .len, [.t 40], none⟩,
  ⟨some 42, (.bin .lss), [.t 38, .t 41], none⟩,
  ⟨some 43, .mv, [.t 42], none⟩,
  ⟨some 44, .mv, [.t 5], some (43, true)⟩,
  ⟨some 45, (.bin .eql), [.t 44, .c (.pv none (.int .i64 (0)))], some (43, true)⟩,
  ⟨some 46, .pick, [.t 43, .t 45, .c (.pv none (.bool false))], none⟩]
def c38k13 : ACode := (.cond (.t 46) .skip (.exit 0))
def c38r14 : List AOper := [
  ⟨some 49, (.faddr 3), [.t 2], none⟩,
  ⟨some 50, (.load none), [.t 49], none⟩,
  ⟨some 51, .mv, [.t 6], none⟩,
  ⟨some 52, (.iaddr (some 4)), [.t 50, .t 51], none⟩,
  ⟨some 53, (.load (some 4)), [.t 52], none⟩,
  ⟨some 54, (.faddr 3), [.t 3], none⟩,
  ⟨some 55, (.load none), [.t 54], none⟩,
  ⟨some 56, .mv, [.t 6], none⟩,
  ⟨some 57, (.iaddr (some 4)), [.t 55, .t 56], none⟩,
  ⟨some 58, (.load (some 4)), [.t 57], none⟩,
  ⟨some 59, .call, [.c (.pv none (.func (.func 38))), .t 53, .t 58], none⟩,
  ⟨some 5, .mv, [.t 59], none⟩]
def c38k15 : ACode := (.block 1 (.region true c38r14 [2, 3, 5, 6]))
def c38r16 : List AOper := [
  ⟨some 47, .mv, [.t 6], none⟩,
  ⟨some 48, (.bin .add), [.t 47, .c (.pv none (.int .i64 (1)))], none⟩,
  ⟨some 6, .mv, [.t 48], none⟩]
def c38b17 : ACode := (.seq (.seq (.region true c38r12 [2, 3, 5, 6, 46]) c38k13) (.seq c38k15 (.region true c38r16 [2, 3, 5, 6])))
def c38k18 : ACode := (.block 0 (.loop [2, 3, 5, 6] c38b17))
def c38r19 : List AOper := [
  ⟨some 60, .mv, [.t 5], none⟩,
  ⟨some 4, .mv, [.t 60], none⟩]
def c38 : ACode := (.seq (.region true c38r0 [2, 3]) (.seq (.seq (.region true c38r1 [2, 3, 11]) c38k3) (.seq (.region true c38r4 [2, 3, 5]) (.seq (.seq (.region true c38r5 [2, 3, 5, 23]) c38k7) (.seq (.seq (.region true c38r8 [2, 3, 5, 32]) c38k10) (.seq (.seq (.region true c38r11 [2, 3, 5, 6]) c38k18) (.seq (.region true c38r19 [4]) .ret)))))))
def g38 : AFn := ⟨2, [(4, none)], c38, false⟩
theorem tr38 : trFn Try.prog false Try.f38 = some g38 := by kernel_rfl
/- slices.CompactFunc[[]hornbeam/api.Term,hornbeam/api.Term] -/
def c39r0 : List AOper := [
  ⟨some 4, (.nilsl (some 4)), [], none⟩]
def c39r1 : List AOper := [
  ⟨some 8, .mv, [.t 0], none⟩,
  ⟨some 9, .len, [.t 8], none⟩,
  ⟨some 10, (.bin .lss), [.t 9, .c (.pv none (.int .i64 (2)))], none⟩]
def c39r2 : List AOper := [
  ⟨some 11, .mv, [.t 0], none⟩,
  ⟨some 4, .mv, [.t 11], none⟩]
def c39k3 : ACode := (.cond (.t 10) (.seq (.region true c39r2 [4]) .ret) .skip)
def c39r4 : List AOper := [
  ⟨some 5, .mv, [.c (.pv none (.int .i64 (1)))], none⟩]
def c39r5 : List AOper := [
  ⟨some 12, .mv, [.t 5], none⟩,
  ⟨some 13, .mv, [.t 0], none⟩,
  ⟨some 14, .len, [.t 13], none⟩,
  ⟨some 15, (.bin .lss), [.t 12, .t 14], none⟩]
def c39k6 : ACode := (.cond (.t 15) .skip (.exit 0))
def c39r7 : List AOper := [
  ⟨some 18, .mv, [.t 1], none⟩,
  ⟨some 19, .mv, [.t 0], none⟩,
  ⟨some 20, .mv, [.t 5], none⟩,
  ⟨some 21, (.iaddr (some 4)), [.t 19, .t 20], none⟩,
  ⟨some 22, (.load (some 4)), [.t 21], none⟩,
  ⟨some 23, .mv, [.t 0], none⟩,
  ⟨some 24, .mv, [.t 5], none⟩,
  ⟨some 25, (.bin .sub), [.t 24, .c (.pv none (.int .i64 (1)))], none⟩,
  ⟨some 26, (.iaddr (some 4)), [.t 23, .t 25], none⟩,
  ⟨some 27, (.load (some 4)), [.t 26], none⟩,
  ⟨some 28, .call, [.t 18, .t 22, .t 27], none⟩]
def c39r8 : List AOper := [
  ⟨some 29, .mv, [.t 0], none⟩,
  ⟨some 30, .mv, [.t 5], none⟩,
  ⟨some 31, (.slice (some 4) true false), [.t 29, .t 30], none⟩,
  ⟨some 6, .mv, [.t 31], none⟩]
def c39r9 : List AOper := [
  ⟨some 7, .mv, [.c (.pv none (.int .i64 (1)))], none⟩]
def c39r10 : List AOper := [
  ⟨some 32, .mv, [.t 7], none⟩,
  ⟨some 33, .mv, [.t 6], none⟩,
  ⟨some 34, .len, [.t 33], none⟩,
  ⟨some 35, (.bin .lss), [.t 32, .t 34], none⟩]
def c39k11 : ACode := (.cond (.t 35) .skip (.exit 2))
def c39r12 : List AOper := [
  ⟨some 38, .mv, [.t 1], none⟩,
  ⟨some 39, .mv, [.t 6], none⟩,
  ⟨some 40, .mv, [.t 7], none⟩,
  ⟨some 41, (.iaddr (some 4)), [.t 39, .t 40], none⟩,
  ⟨some 42, (.load (some 4)), [.t 41], none⟩,
  ⟨some 43, .mv, [.t 6], none⟩,
  ⟨some 44, .mv, [.t 7], none⟩,
  ⟨some 45, (.bin .sub), [.t 44, .c (.pv none (.int .i64 (1)))], none⟩,
  ⟨some 46, (.iaddr (some 4)), [.t 43, .t 45], none⟩,
  ⟨some 47, (.load (some 4)), [.t 46], none⟩,
  ⟨some 48, .call, [.t 38, .t 42, .t 47], none⟩,
  ⟨some 49, .not, [.t 48], none⟩]
def c39r13 : List AOper := [
  ⟨some 50, .mv, [.t 0], none⟩,
  ⟨some 51, .mv, [.t 5], none⟩,
  ⟨some 52, .mv, [.t 6], none⟩,
  ⟨some 53, .mv, [.t 7], none⟩,
  ⟨some 54, (.iaddr (some 4)), [.t 52, .t 53], none⟩,
  ⟨some 55, (.load (some 4)), [.t 54], none⟩,
  ⟨some 56, (.iaddr (some 4)), [.t 50, .t 51], none⟩,
  ⟨none, (.store (some 4)), [.t 56, .t 55], none⟩]
def c39r14 : List AOper := [
  ⟨some 57, .mv, [.t 5], none⟩,
  ⟨some 58, (.bin .add), [.t 57, .c (.pv none (.int .i64 (1)))], none⟩,
  ⟨some 5, .mv, [.t 58], none⟩]
def c39k15 : ACode := (.cond (.t 49) (.seq (.region true c39r13 [0, 1, 5, 6, 7]) (.region true c39r14 [0, 1, 5, 6, 7])) .skip)
def c39k16 : ACode := (.block 3 (.seq (.region true c39r12 [0, 1, 5, 6, 7, 49]) c39k15))
def c39r17 : List AOper := [
  ⟨some 36, .mv, [.t 7], none⟩,
  ⟨some 37, (.bin .add), [.t 36, .c (.pv none (.int .i64 (1)))], none⟩,
  ⟨some 7, .mv, [.t 37], none⟩]
def c39b18 : ACode := (.seq (.seq (.region true c39r10 [0, 1, 5, 6, 7, 35]) c39k11) (.seq c39k16 (.region true c39r17 [0, 1, 5, 6, 7])))
def c39k19 : ACode := (.block 2 (.loop [0, 1, 5, 6, 7] c39b18))
def c39r20 : List AOper := [
  ⟨some 59, .mv, [.t 0], none⟩,
  ⟨some 60, .mv, [.t 5], none⟩,
  ⟨some 61, (.slice (some 4) true false), [.t 59, .t 60], none⟩,
  ⟨none, (.clear (some 4) (.agg [(none, (.int .i64 (0))), (none, (.int .i64 (0))), (none, (.str [])), (none, (.sl (some 4) []))])), [.t 61], none⟩]
def c39r21 : List AOper := [
  ⟨some 62, .mv, [.t 0], none⟩,
  ⟨some 63, .mv, [.t 5], none⟩,
  ⟨some 64, (.slice (some 4) false true), [.t 62, .t 63], none⟩,
  ⟨some 4, .mv, [.t 64], none⟩]
def c39k22 : ACode := (.cond (.t 28) (.seq (.region true c39r8 [0, 1, 5, 6]) (.seq (.seq (.region true c39r9 [0, 1, 5, 6, 7]) c39k19) (.seq (.region true c39r20 [0, 5]) (.seq (.region true c39r21 [4]) .ret)))) .skip)
def c39k23 : ACode := (.block 1 (.seq (.region true c39r7 [0, 1, 5, 28]) c39k22))
def c39r24 : List AOper := [
  ⟨some 16, .mv, [.t 5], none⟩,
  ⟨some 17, (.bin .add), [.t 16, .c (.pv none (.int .i64 (1)))], none⟩,
  ⟨some 5, .mv, [.t 17], none⟩]
def c39b25 : ACode := (.seq (.seq (.region true c39r5 [0, 1, 5, 15]) c39k6) (.seq c39k23 (.region true c39r24 [0, 1, 5])))
def c39k26 : ACode := (.block 0 (.loop [0, 1, 5] c39b25))
def c39r27 : List AOper := [
  ⟨some 65, .mv, [.t 0], none⟩,
  ⟨some 4, .mv, [.t 65], none⟩]
def c39 : ACode := (.seq (.region true c39r0 [0, 1]) (.seq (.seq (.region true c39r1 [0, 1, 10]) c39k3) (.seq (.seq (.region true c39r4 [0, 1, 5]) c39k26) (.seq (.region true c39r27 [4]) .ret))))
def g39 : AFn := ⟨2, [(4, none)], c39, true⟩
theorem tr39 : trFn Try.prog true Try.f39 = some g39 := by kernel_rfl
/- hornbeam/order.Sort$1 -/
def c40r0 : List AOper := [
  ⟨some 2, (.box (some 4)), [.t 0], none⟩,
  ⟨some 3, (.box (some 4)), [.t 1], none⟩,
  ⟨some 4, .mv, [.c (.pv none (.bool false))], none⟩]
def c40r1 : List AOper := [
  ⟨some 5, (.load (some 4)), [.t 2], none⟩,
  ⟨some 6, (.load (some 4)), [.t 3], none⟩,
  ⟨some 7, .call, [.c (.pv none (.func (.func 37))), .t 5, .t 6], none⟩,
  ⟨some 8, (.bin .eql), [.t 7, .c (.pv none (.int .i64 (0)))], none⟩,
  ⟨some 4, .mv, [.t 8], none⟩]
def c40 : ACode := (.seq (.region true c40r0 [2, 3]) (.seq (.region true c40r1 [4]) .ret))
def g40 : AFn := ⟨2, [(4, none)], c40, false⟩
theorem tr40 : trFn Try.prog false Try.f40 = some g40 := by kernel_rfl
/- hornbeam/order.valid -/
def c41r0 : List AOper := [
  ⟨some 2, .mv, [.c (.pv none (.bool false))], none⟩]
def c41r1 : List AOper := [
  ⟨some 5, .mv, [.t 0], none⟩,
  ⟨some 6, .len, [.t 5], none⟩,
  ⟨some 7, .mv, [.c (.pv none (.int .i64 (0)))], none⟩]
def c41r2 : List AOper := [
  ⟨some 8, (.bin .lss), [.t 7, .t 6], none⟩]
def c41k3 : ACode := (.cond (.t 8) .skip (.exit 0))
def c41r4 : List AOper := [
  ⟨some 9, (.iaddr (some 4)), [.t 5, .t 7], none⟩,
  ⟨some 10, (.load (some 4)), [.t 9], none⟩,
  ⟨some 4, (.alloc (some 4) (.agg [(none, (.pv none (.int .i64 (0)))), (none, (.pv none (.int .i64 (0)))), (none, (.pv none (.str []))), (none, (.tsl (some 4) []))])), [], none⟩,
  ⟨none, (.store (some 4)), [.t 4, .t 10], none⟩]
def c41r5 : List AOper := [
  ⟨some 11, (.load (some 4)), [.t 4], none⟩,
  ⟨some 12, .call, [.c (.pv none (.func (.func 36))), .t 11], none⟩,
  ⟨some 13, .not, [.t 12], none⟩]
def c41r6 : List AOper := [
  ⟨some 2, .mv, [.c (.pv none (.bool false))], none⟩]
def c41k7 : ACode := (.cond (.t 13) (.seq (.region true c41r6 [2]) .ret) .skip)
def c41k8 : ACode := (.block 1 (.seq (.region true c41r4 [4, 5, 6, 7]) (.seq (.region true c41r5 [5, 6, 7, 13]) c41k7)))
def c41r9 : List AOper := [
  ⟨some 14, (.bin .add), [.t 7, .c (.pv none (.int .i64 (1)))], none⟩,
  ⟨some 7, .mv, [.t 14], none⟩]
def c41b10 : ACode := (.seq (.region true c41r2 [5, 6, 7, 8]) (.seq c41k3 (.seq c41k8 (.region true c41r9 [5, 6, 7]))))
def c41k11 : ACode := (.block 0 (.loop [5, 6, 7] c41b10))
def c41r12 : List AOper := [
  ⟨some 2, .mv, [.c (.pv none (.bool true))], none⟩]
def c41 : ACode := (.seq (.region true c41r0 [0]) (.seq (.seq (.region true c41r1 [5, 6, 7]) c41k11) (.seq (.region true c41r12 [2]) .ret)))
def g41 : AFn := ⟨1, [(2, none)], c41, false⟩
theorem tr41 : trFn Try.prog false Try.f41 = some g41 := by kernel_rfl
/- hornbeam/order.sorted -/
def c42r0 : List AOper := [
  ⟨some 4, (.nilsl (some 4)), [], none⟩]
def c42r1 : List AOper := [
  ⟨some 8, .mv, [.t 0], none⟩,
  ⟨some 9, .len, [.t 8], none⟩,
  ⟨some 10, (.mkslice (some 4) (.agg [(none, (.int .i64 (0))), (none, (.int .i64 (0))), (none, (.str [])), (none, (.sl (some 4) []))])), [.c (.pv none (.int .i64 (0))), .t 9], none⟩,
  ⟨some 5, .mv, [.t 10], none⟩]
def c42r2 : List AOper := [
  ⟨some 11, .mv, [.t 0], none⟩,
  ⟨some 12, .len, [.t 11], none⟩,
  ⟨some 13, .mv, [.c (.pv none (.int .i64 (0)))], none⟩]
def c42r3 : List AOper := [
  ⟨some 14, (.bin .lss), [.t 13, .t 12], none⟩]
def c42k4 : ACode := (.cond (.t 14) .skip (.exit 0))
def c42r5 : List AOper := [
  ⟨some 15, (.iaddr (some 4)), [.t 11, .t 13], none⟩,
  ⟨some 16, (.load (some 4)), [.t 15], none⟩,
  ⟨some 7, (.alloc (some 4) (.agg [(none, (.pv none (.int .i64 (0)))), (none, (.pv none (.int .i64 (0)))), (none, (.pv none (.str []))), (none, (.tsl (some 4) []))])), [], none⟩,
  ⟨none, (.store (some 4)), [.t 7, .t 16], none⟩]
def c42r6 : List AOper := [
  ⟨some 17, .mv, [.t 5], none⟩,
  ⟨some 18, (.load (some 4)), [.t 7], none⟩,
  ⟨some 19, .call, [.c (.pv none (.func (.func 59))), .t 18], none⟩,
  ⟨some 20, (.bslice (some 4)), [.t 19], none⟩,
  ⟨some 21, (.append (some 4)), [.t 17, .t 20], none⟩,
  ⟨some 5, .mv, [.t 21], none⟩]
def c42k7 : ACode := (.block 1 (.seq (.region true c42r5 [1, 5, 7, 11, 12, 13]) (.region true c42r6 [1, 5, 11, 12, 13])))
def c42r8 : List AOper := [
  ⟨some 22, (.bin .add), [.t 13, .c (.pv none (.int .i64 (1)))], none⟩,
  ⟨some 13, .mv, [.t 22], none⟩]
def c42b9 : ACode := (.seq (.region true c42r3 [1, 5, 11, 12, 13, 14]) (.seq c42k4 (.seq c42k7 (.region true c42r8 [1, 5, 11, 12, 13]))))
def c42k10 : ACode := (.block 0 (.loop [1, 5, 11, 12, 13] c42b9))
def c42r11 : List AOper := [
  ⟨some 23, .mv, [.t 5], none⟩,
  ⟨some 24, .mv, [.t 1], none⟩,
  ⟨some 25, .call, [.c (.pv none (.func (.func 60))), .t 23, .t 24], none⟩]
def c42r12 : List AOper := [
  ⟨some 26, .mv, [.t 5], none⟩,
  ⟨some 4, .mv, [.t 26], none⟩]
def c42 : ACode := (.seq (.region true c42r0 [0, 1]) (.seq (.region true c42r1 [0, 1, 5]) (.seq (.seq (.region true c42r2 [1, 5, 11, 12, 13]) c42k10) (.seq (.region true c42r11 [5]) (.seq (.region true c42r12 [4]) .ret)))))
def g42 : AFn := ⟨2, [(4, none)], c42, true⟩
theorem tr42 : trFn Try.prog true Try.f42 = some g42 := by kernel_rfl
/- hornbeam/order.Keys$1 -/
def c43r0 : List AOper := [
  ⟨some 2, (.box (some 4)), [.t 0], none⟩,
  ⟨some 3, (.box (some 4)), [.t 1], none⟩,
  ⟨some 4, .mv, [.c (.pv none (.int .i64 (0)))], none⟩]
def c43r1 : List AOper := [
  ⟨some 5, (.faddr 3), [.t 2], none⟩,
  ⟨some 6, (.load none), [.t 5], none⟩,
  ⟨some 7, (.iaddr (some 4)), [.t 6, .c (.pv none (.int .i64 (0)))], none⟩,
  ⟨some 8, (.load (some 4)), [.t 7], none⟩,
  ⟨some 9, (.faddr 3), [.t 3], none⟩,
  ⟨some 10, (.load none), [.t 9], none⟩,
  ⟨some 11, (.iaddr (some 4)), [.t 10, .c (.pv none (.int .i64 (0)))], none⟩,
  ⟨some 12, (.load (some 4)), [.t 11], none⟩,
  ⟨some 13, .call, [.c (.pv none (.func (.func 37))), .t 8, .t 12], none⟩,
  ⟨some 4, .mv, [.t 13], none⟩]
def c43 : ACode := (.seq (.region true c43r0 [2, 3]) (.seq (.region true c43r1 [4]) .ret))
def g43 : AFn := ⟨2, [(4, none)], c43, false⟩
theorem tr43 : trFn Try.prog false Try.f43 = some g43 := by kernel_rfl
/- hornbeam/hornbeamref04.valid -/
def c44r0 : List AOper := [
  ⟨some 2, .mv, [.c (.pv none (.bool false))], none⟩]
def c44r1 : List AOper := [
  ⟨some 3, .mv, [.c (.pv none (.int .i64 (0)))], none⟩]
def c44r2 : List AOper := [
  ⟨some 4, .mv, [.t 3], none⟩,
  ⟨some 5, .mv, [.t 0], none⟩,
  ⟨some 6, .len, [.t 5], none⟩,
  ⟨some 7, (.bin .lss), [.t 4, .t 6], none⟩]
def c44k3 : ACode := (.cond (.t 7) .skip (.exit 0))
def c44r4 : List AOper := [
  ⟨some 10, .mv, [.t 0], none⟩,
  ⟨some 11, .mv, [.t 3], none⟩,
  ⟨some 12, (.iaddr (some 4)), [.t 10, .t 11], none⟩,
  ⟨some 13, (.load (some 4)), [.t 12], none⟩,
  ⟨some 14, .call, [.c (.pv none (.func (.func 31))), .t 13], none⟩,
  ⟨some 15, .not, [.t 14], none⟩]
def c44r5 : List AOper := [
  ⟨some 2, .mv, [.c (.pv none (.bool false))], none⟩]
def c44k6 : ACode := (.cond (.t 15) (.seq (.region true c44r5 [2]) .ret) .skip)
def c44k7 : ACode := (.block 1 (.seq (.region true c44r4 [0, 3, 15]) c44k6))
def c44r8 : List AOper := [
  ⟨some 8, .mv, [.t 3], none⟩,
  ⟨some 9, (.bin .add), [.t 8, .c (.pv none (.int .i64 (1)))], none⟩,
  ⟨some 3, .mv, [.t 9], none⟩]
def c44b9 : ACode := (.seq (.seq (.region true c44r2 [0, 3, 7]) c44k3) (.seq c44k7 (.region true c44r8 [0, 3])))
def c44k10 : ACode := (.block 0 (.loop [0, 3] c44b9))
def c44r11 : List AOper := [
  ⟨some 2, .mv, [.c (.pv none (.bool true))], none⟩]
def c44 : ACode := (.seq (.region true c44r0 [0]) (.seq (.seq (.region true c44r1 [0, 3]) c44k10) (.seq (.region true c44r11 [2]) .ret)))
def g44 : AFn := ⟨1, [(2, none)], c44, false⟩
theorem tr44 : trFn Try.prog false Try.f44 = some g44 := by kernel_rfl
/- hornbeam/hornbeamref04.insert -/
def c45r0 : List AOper := [
  ⟨some 4, (.box (some 4)), [.t 1], none⟩,
  ⟨some 6, (.nilsl (some 4)), [], none⟩]
def c45r1 : List AOper := [
  ⟨some 9, .mv, [.t 0], none⟩,
  ⟨some 10, .len, [.t 9], none⟩,
  ⟨some 7, .mv, [.t 10], none⟩]
def c45r2 : List AOper := [
  ⟨some 11, .mv, [.t 7], none⟩,
  ⟨some 12, (.bin .gtr), [.t 11, .c (.pv none (.int .i64 (0)))], none⟩,
  ⟨some 13, .mv, [.t 12], none⟩,
  ⟨some 14, .mv, [.t 0], some (13, true)⟩,
  ⟨some 15, .mv, [.t 7], some (13, true)⟩,
  ⟨some 16, (.bin .sub), [.t 15, .c (.pv none (.int .i64 (1)))], some (13, true)⟩,
  ⟨some 17, (.iaddr (some 4)), [.t 14, .t 16], some (13, true)⟩,
  ⟨some 18, (.load (some 4)), [.t 17], some (13, true)⟩,
  ⟨some 19, .mv, [.t 2], some (13, true)⟩,
  ⟨some 20, .callp, [.c (.pv none (.func (.func 61))), .t 18, .t 19], some (13, true)⟩,
  ⟨some 21, (.load (some 4)), [.t 4], some (13, true)⟩,
  ⟨some 22, .mv, [.t 2], some (13, true)⟩,
  ⟨some 23, .callp, [.c (.pv none (.func (.func 61))), .t 21, .t 22], some (13, true)⟩,
  ⟨some 24, .callp, [.c (.pv none (.func (.func 38))), .t 20, .t 23], some (13, true)⟩,
  ⟨some 25, (.bin .gtr), [.t 24, .c (.pv none (.int .i64 (0)))], some (13, true)⟩,
  ⟨some 26, .pick, [.t 13, .t 25, .c (.pv none (.bool false))], none⟩]
def c45k3 : ACode := (.cond (.t 26) .skip (.exit 0))
def c45r4 : List AOper := [
  ⟨some 27, .mv, [.t 7], none⟩,
  ⟨some 28, (.bin .sub), [.t 27, .c (.pv none (.int .i64 (1)))], none⟩,
  ⟨some 7, .mv, [.t 28], none⟩]
def c45k5 : ACode := (.block 1 (.region true c45r4 [0, 2, 4, 7]))
def c45b6 : ACode := (.seq (.seq (.seq (.settle [2, 4]) (.region true c45r2 [0, 2, 4, 7, 26])) c45k3) c45k5)
def c45k7 : ACode := (.block 0 (.loop [0, 2, 4, 7] c45b6))
def c45r8 : List AOper := [
  ⟨some 8, (.nilsl (some 4)), [], none⟩]
def c45r9 : List AOper := [
  ⟨some 29, .mv, [.t 8], none⟩,
  ⟨some 30, .mv, [.t 0], none⟩,
  ⟨some 31, .mv, [.t 7], none⟩,
  ⟨some 32, (.slice (some 4) false true), [.t 30, .t 31], none⟩,
  ⟨some 33, (.append (some 4)), [.t 29, .t 32], none⟩,
  ⟨some 8, .mv, [.t 33], none⟩]
def c45r10 : List AOper := [
  ⟨some 34, .mv, [.t 8], none⟩,
  ⟨some 35, (.load (some 4)), [.t 4], none⟩,
  ⟨some 36, (.bslice (some 4)), [.t 35], none⟩,
  ⟨some 37, (.append (some 4)), [.t 34, .t 36], none⟩,
  ⟨some 8, .mv, [.t 37], none⟩]
def c45r11 : List AOper := [
  ⟨some 38, .mv, [.t 8], none⟩,
  ⟨some 39, .mv, [.t 0], none⟩,
  ⟨some 40, .mv, [.t 7], none⟩,
  ⟨some 41, (.slice (some 4) true false), [.t 39, .t 40], none⟩,
  ⟨some 42, (.append (some 4)), [.t 38, .t 41], none⟩,
  ⟨some 6, .mv, [.t 42], none⟩]
def c45 : ACode := (.seq (.region true c45r0 [0, 2, 4]) (.seq (.region true c45r1 [0, 2, 4, 7]) (.seq c45k7 (.seq (.region true c45r8 [0, 4, 7, 8]) (.seq (.region true c45r9 [0, 4, 7, 8]) (.seq (.region true c45r10 [0, 7, 8]) (.seq (.region true c45r11 [6]) .ret)))))))
def g45 : AFn := ⟨3, [(6, none)], c45, false⟩
theorem tr45 : trFn Try.prog false Try.f45 = some g45 := by kernel_rfl
/- hornbeam/hornbeamref04.Pair -/
def c46r0 : List AOper := [
  ⟨some 1, (.box (some 4)), [.t 0], none⟩,
  ⟨some 2, .mv, [.c (.pv none (.bool false))], none⟩]
def c46r1 : List AOper := [
  ⟨some 3, (.faddr 0), [.t 1], none⟩,
  ⟨some 4, (.load none), [.t 3], none⟩,
  ⟨some 5, (.bin .eql), [.t 4, .c (.pv none (.int .i64 (3)))], none⟩,
  ⟨some 6, .mv, [.t 5], none⟩,
  ⟨some 7, (.faddr 2), [.t 1], some (6, true)⟩,
  ⟨some 8, (.load none), [.t 7], some (6, true)⟩,
  ⟨some 9, (.bin .eql), [.t 8, .c (.pv none (.str [45]))], some (6, true)⟩,
  ⟨some 10, .pick, [.t 6, .t 9, .c (.pv none (.bool false))], none⟩,
  ⟨some 11, .mv, [.t 10], none⟩,
  ⟨some 12, (.faddr 3), [.t 1], some (11, true)⟩,
  ⟨some 13, (.load none), [.t 12], some (11, true)⟩,
  ⟨some 14, .len, [.t 13], some (11, true)⟩,
  ⟨some 15, (.bin .eql), [.t 14, .c (.pv none (.int .i64 (2)))], some (11, true)⟩,
  ⟨some 16, .pick, [.t 11, .t 15, .c (.pv none (.bool false))], none⟩,
  ⟨some 2, .mv, [.t 16], none⟩]
def c46 : ACode := (.seq (.region true c46r0 [1]) (.seq (.region true c46r1 [2]) .ret))
def g46 : AFn := ⟨1, [(2, none)], c46, false⟩
theorem tr46 : trFn Try.prog false Try.f46 = some g46 := by kernel_rfl
/- hornbeam/hornbeamref03.copied -/
def c47r0 : List AOper := [
  ⟨some 1, (.box (some 4)), [.t 0], none⟩,
  ⟨some 2, (.alloc (some 4) (.agg [(none, (.pv none (.int .i64 (0)))), (none, (.pv none (.int .i64 (0)))), (none, (.pv none (.str []))), (none, (.tsl (some 4) []))])), [], none⟩]
def c47r1 : List AOper := [
  ⟨some 5, (.faddr 0), [.t 1], none⟩,
  ⟨some 6, (.load none), [.t 5], none⟩,
  ⟨some 7, (.faddr 1), [.t 1], none⟩,
  ⟨some 8, (.load none), [.t 7], none⟩,
  ⟨some 9, (.faddr 2), [.t 1], none⟩,
  ⟨some 10, (.load none), [.t 9], none⟩,
  ⟨some 11, (.build [(none, (.pv none (.int .i64 (0)))), (none, (.pv none (.int .i64 (0)))), (none, (.pv none (.str []))), (none, (.tsl (some 4) []))] [0, 1, 2]), [.t 6, .t 8, .t 10], none⟩,
  ⟨some 3, (.alloc (some 4) (.agg [(none, (.pv none (.int .i64 (0)))), (none, (.pv none (.int .i64 (0)))), (none, (.pv none (.str []))), (none, (.tsl (some 4) []))])), [], none⟩,
  ⟨none, (.store (some 4)), [.t 3, .t 11], none⟩]
def c47r2 : List AOper := [
  ⟨some 4, .mv, [.c (.pv none (.int .i64 (0)))], none⟩]
def c47r3 : List AOper := [
  ⟨some 12, .mv, [.t 4], none⟩,
  ⟨some 13, (.faddr 3), [.t 1], none⟩,
  ⟨some 14, (.load none), [.t 13], none⟩,
  ⟨some 15, .len, [.t 14], none⟩,
  ⟨some 16, (.bin .lss), [.t 12, .t 15], none⟩]
def c47k4 : ACode := (.cond (.t 16) .skip (.exit 0))
def c47r5 : List AOper := [
  ⟨some 19, (.faddr 3), [.t 3], none⟩,
  ⟨some 20, (.load none), [.t 19], none⟩,
  ⟨some 21, (.faddr 3), [.t 1], none⟩,
  ⟨some 22, (.load none), [.t 21], none⟩,
  ⟨some 23, .mv, [.t 4], none⟩,
  ⟨some 24, (.iaddr (some 4)), [.t 22, .t 23], none⟩,
  ⟨some 25, (.load (some 4)), [.t 24], none⟩,
  ⟨some 26, .callp, [.c (.pv none (.func (.func 47))), .t 25], none⟩,
  ⟨some 27, (.bslicep (some 4)), [.t 26], none⟩,
  ⟨some 28, (.append (some 4)), [.t 20, .t 27], none⟩,
  ⟨some 29, (.faddr 3), [.t 3], none⟩,
  ⟨none, (.store none), [.t 29, .t 28], none⟩]
def c47k6 : ACode := (.block 1 (.seq (.settle []) (.region true c47r5 [1, 2, 3, 4])))
def c47r7 : List AOper := [
  ⟨some 17, .mv, [.t 4], none⟩,
  ⟨some 18, (.bin .add), [.t 17, .c (.pv none (.int .i64 (1)))], none⟩,
  ⟨some 4, .mv, [.t 18], none⟩]
def c47b8 : ACode := (.seq (.seq (.region true c47r3 [1, 2, 3, 4, 16]) c47k4) (.seq c47k6 (.region true c47r7 [1, 2, 3, 4])))
def c47k9 : ACode := (.block 0 (.loop [1, 2, 3, 4] c47b8))
def c47r10 : List AOper := [
  ⟨some 30, (.load (some 4)), [.t 3], none⟩,
  ⟨none, (.store (some 4)), [.t 2, .t 30], none⟩]
def c47 : ACode := (.seq (.region true c47r0 [1, 2]) (.seq (.region true c47r1 [1, 2, 3]) (.seq (.seq (.region true c47r2 [1, 2, 3, 4]) c47k9) (.seq (.region true c47r10 [2]) .ret))))
def g47 : AFn := ⟨1, [(2, some (some 4))], c47, false⟩
theorem tr47 : trFn Try.prog false Try.f47 = some g47 := by kernel_rfl
/- slices.BinarySearchFunc[[]hornbeam/api.Term,hornbeam/api.Term,hornbeam/api.Term] -/
def c48r0 : List AOper := [
  ⟨some 4, (.box (some 4)), [.t 1], none⟩,
  ⟨some 6, .mv, [.c (.pv none (.int .i64 (0)))], none⟩,
  ⟨some 7, .mv, [.c (.pv none (.bool false))], none⟩]
def c48r1 : List AOper := [
  ⟨some 12, .mv, [.t 0], none⟩,
  ⟨some 13, .len, [.t 12], none⟩,
  ⟨some 8, .mv, [.t 13], none⟩]
def c48r2 : List AOper := [
  ⟨some 14, .mv, [.t 8], none⟩,
  ⟨some 9, .mv, [.c (.pv none (.int .i64 (0)))], none⟩,
  ⟨some 10, .mv, [.t 14], none⟩]
def c48r3 : List AOper := [
  ⟨some 15, .mv, [.t 9], none⟩,
  ⟨some 16, .mv, [.t 10], none⟩,
  ⟨some 17, (.bin .lss), [.t 15, .t 16], none⟩]
def c48k4 : ACode := (.cond (.t 17) .skip (.exit 0))
def c48r5 : List AOper := [
  ⟨some 18, .mv, [.t 9], none⟩,
  ⟨some 19, .mv, [.t 10], none⟩,
  ⟨some 20, (.bin .add), [.t 18, .t 19], none⟩,
  ⟨some 21, (.conv .u64), [.t 20], none⟩,
  ⟨some 22, (.bin .shr), [.t 21, .c (.pv none (.int .u64 (1)))], none⟩,
  ⟨some 23, (.conv .i64), [.t 22], none⟩,
  ⟨some 11, .mv, [.t 23], none⟩]
def c48r6 : List AOper := [
  ⟨some 24, .mv, [.t 2], none⟩,
  ⟨some 25, .mv, [.t 0], none⟩,
  ⟨some 26, .mv, [.t 11], none⟩,
  ⟨some 27, (.iaddr (some 4)), [.t 25, .t 26], none⟩,
  ⟨some 28, (.load (some 4)), [.t 27], none⟩,
  ⟨some 29, (.load (some 4)), [.t 4], none⟩,
  ⟨some 30, .call, [.t 24, .t 28, .t 29], none⟩,
  ⟨some 31, (.bin .lss), [.t 30, .c (.pv none (.int .i64 (0)))], none⟩]
def c48r7 : List AOper := [
  ⟨some 32, .mv, [.t 11], none⟩,
  ⟨some 33, (.bin .add), [.t 32, .c (.pv none (.int .i64 (1)))], none⟩,
  ⟨some 9, .mv, [.t 33], none⟩]
def c48r8 : List AOper := [
  ⟨some 34, .mv, [.t 11], none⟩,
  ⟨some 10, .mv, [.t 34], none⟩]
def c48k9 : ACode := (.cond (.t 31) (.region true c48r7 [0, 2, 4, 8, 9, 10]) (.region true c48r8 [0, 2, 4, 8, 9, 10]))
def c48k10 : ACode := (.block 1 (.seq (.region true c48r5 [0, 2, 4, 8, 9, 10, 11]) (.seq (.region true c48r6 [0, 2, 4, 8, 9, 10, 11, 31]) c48k9)))
def c48b11 : ACode := (.seq (.seq (.region true c48r3 [0, 2, 4, 8, 9, 10, 17]) c48k4) c48k10)
def c48k12 : ACode := (.block 0 (.loop [0, 2, 4, 8, 9, 10] c48b11))
def c48r13 : List AOper := [
  ⟨some 35, .mv, [.t 9], none⟩,
  ⟨some 36, .mv, [.t 9], none⟩,
  ⟨some 37, .mv, [.t 8], none⟩,
  ⟨some 38, (.bin .lss), [.t 36, .t 37], none⟩,
  ⟨some 39, .mv, [.t 38], none⟩,
  ⟨some 40, .mv, [.t 2], some (39, true)⟩,
  ⟨some 41, .mv, [.t 0], some (39, true)⟩,
  ⟨some 42, .mv, [.t 9], some (39, true)⟩,
  ⟨some 43, (.iaddr (some 4)), [.t 41, .t 42], some (39, true)⟩,
  ⟨some 44, (.load (some 4)), [.t 43], some (39, true)⟩,
  ⟨some 45, (.load (some 4)), [.t 4], some (39, true)⟩,
  ⟨some 46, .call, [.t 40, .t 44, .t 45], some (39, true)⟩,
  ⟨some 47, (.bin .eql), [.t 46, .c (.pv none (.int .i64 (0)))], some (39, true)⟩,
  ⟨some 48, .pick, [.t 39, .t 47, .c (.pv none (.bool false))], none⟩,
  ⟨some 6, .mv, [.t 35], none⟩,
  ⟨some 7, .mv, [.t 48], none⟩]
def c48 : ACode := (.seq (.region true c48r0 [0, 2, 4]) (.seq (.region true c48r1 [0, 2, 4, 8]) (.seq (.region true c48r2 [0, 2, 4, 8, 9, 10]) (.seq c48k12 (.seq (.region false c48r13 [6, 7]) .ret)))))
def g48 : AFn := ⟨3, [(6, none), (7, none)], c48, false⟩
theorem tr48 : trFn Try.prog false Try.f48 = some g48 := by kernel_rfl
/- hornbeam/hornbeamref03.identical -/
def c49r0 : List AOper := [
  ⟨some 2, (.box (some 4)), [.t 0], none⟩,
  ⟨some 3, (.box (some 4)), [.t 1], none⟩,
  ⟨some 4, .mv, [.c (.pv none (.bool false))], none⟩]
def c49r1 : List AOper := [
  ⟨some 6, (.faddr 0), [.t 2], none⟩,
  ⟨some 7, (.load none), [.t 6], none⟩,
  ⟨some 8, (.faddr 0), [.t 3], none⟩,
  ⟨some 9, (.load none), [.t 8], none⟩,
  ⟨some 10, (.bin .neq), [.t 7, .t 9], none⟩,
  ⟨some 11, .mv, [.t 10], none⟩,
  ⟨some 12, (.faddr 1), [.t 2], some (11, false)⟩,
  ⟨some 13, (.load none), [.t 12], some (11, false)⟩,
  ⟨some 14, (.faddr 1), [.t 3], some (11, false)⟩,
  ⟨some 15, (.load none), [.t 14], some (11, false)⟩,
  ⟨some 16, (.bin .neq), [.t 13, .t 15], some (11, false)⟩,
  ⟨some 17, .pick, [.t 11, .c (.pv none (.bool true)), .t 16], none⟩,
  ⟨some 18, .mv, [.t 17], none⟩,
  ⟨some 19, (.faddr 2), [.t 2], some (18, false)⟩,
  ⟨some 20, (.load none), [.t 19], some (18, false)⟩,
  ⟨some 21, (.faddr 2), [.t 3], some (18, false)⟩,
  ⟨some 22, (.load none), [.t 21], some (18, false)⟩,
  ⟨some 23, (.bin .neq), [.t 20, .t 22], some (18, false)⟩,
  ⟨some 24, .pick, [.t 18, .c (.pv none (.bool true)), .t 23], none⟩,
  ⟨some 25, .mv, [.t 24], none⟩,
  ⟨some 26, (.faddr 3), [.t 2], some (25, false)⟩,
  ⟨some 27, (.load none), [.t 26], some (25, false)⟩,
  ⟨some 28, .len, [.t 27], some (25, false)⟩,
  ⟨some 29, (.faddr 3), [.t 3], some (25, false)⟩,
  ⟨some 30, (.load none), [.t 29], some (25, false)⟩,
  ⟨some 31, .len, [.t 30], some (25, false)⟩,
  ⟨some 32, (.bin .neq), [.t 28, .t 31], some (25, false)⟩,
  ⟨some 33, .pick, [.t 25, .c (.pv none (.bool true)), .t 32], none⟩]
def c49r2 : List AOper := [
  ⟨some 4, .mv, [.c (.pv none (.bool false))], none⟩]
def c49k3 : ACode := (.cond (.t 33) (.seq (.region true c49r2 [4]) .ret) .skip)
def c49r4 : List AOper := [
  ⟨some 5, .mv, [.c (.pv none (.int .i64 (0)))], none⟩]
def c49r5 : List AOper := [
  ⟨some 34, .mv, [.t 5], none⟩,
  ⟨some 35, (.faddr 3), [.t 2], none⟩,
  ⟨some 36, (.load none), [.t 35], none⟩,
  ⟨some 37, .len, [.t 36], none⟩,
  ⟨some 38, (.bin .lss), [.t 34, .t 37], none⟩]
def c49k6 : ACode := (.cond (.t 38) .skip (.exit 0))
def c49r7 : List AOper := [
  ⟨some 41, (.faddr 3), [.t 2], none⟩,
  ⟨some 42, (.load none), [.t 41], none⟩,
  ⟨some 43, .mv, [.t 5], none⟩,
  ⟨some 44, (.iaddr (some 4)), [.t 42, .t 43], none⟩,
  ⟨some 45, (.load (some 4)), [.t 44], none⟩,
  ⟨some 46, (.faddr 3), [.t 3], none⟩,
  ⟨some 47, (.load none), [.t 46], none⟩,
  ⟨some 48, .mv, [.t 5], none⟩,
  ⟨some 49, (.iaddr (some 4)), [.t 47, .t 48], none⟩,
  ⟨some 50, (.load (some 4)), [.t 49], none⟩,
  ⟨some 51, .call, [.c (.pv none (.func (.func 49))), .t 45, .t 50], none⟩,
  ⟨some 52, .not, [.t 51], none⟩]
def c49r8 : List AOper := [
  ⟨some 4, .mv, [.c (.pv none (.bool false))], none⟩]
def c49k9 : ACode := (.cond (.t 52) (.seq (.region true c49r8 [4]) .ret) .skip)
def c49k10 : ACode := (.block 1 (.seq (.region true c49r7 [2, 3, 5, 52]) c49k9))
def c49r11 : List AOper := [
  ⟨some 39, .mv, [.t 5], none⟩,
  ⟨some 40, (.bin .add), [.t 39, .c (.pv none (.int .i64 (1)))], none⟩,
  ⟨some 5, .mv, [.t 40], none⟩]
def c49b12 : ACode := (.seq (.seq (.region true c49r5 [2, 3, 5, 38]) c49k6) (.seq c49k10 (.region true c49r11 [2, 3, 5])))
def c49k13 : ACode := (.block 0 (.loop [2, 3, 5] c49b12))
def c49r14 : List AOper := [
  ⟨some 4, .mv, [.c (.pv none (.bool true))], none⟩]
def c49 : ACode := (.seq (.region true c49r0 [2, 3]) (.seq (.seq (.region true c49r1 [2, 3, 33]) c49k3) (.seq (.seq (.region true c49r4 [2, 3, 5]) c49k13) (.seq (.region true c49r14 [4]) .ret))))
def g49 : AFn := ⟨2, [(4, none)], c49, false⟩
theorem tr49 : trFn Try.prog false Try.f49 = some g49 := by kernel_rfl
/- hornbeam/hornbeamref03.Size -/
def c50r0 : List AOper := [
  ⟨some 1, (.box (some 4)), [.t 0], none⟩,
  ⟨some 2, .mv, [.c (.pv none (.int .i64 (0)))], none⟩]
def c50r1 : List AOper := [
  ⟨some 3, (.load (some 4)), [.t 1], none⟩,
  ⟨some 4, .call, [.c (.pv none (.func (.func 62))), .t 3, .c (.pv none (.int .i64 (2001)))], none⟩,
  ⟨some 2, .mv, [.t 4], none⟩]
def c50 : ACode := (.seq (.region true c50r0 [1]) (.seq (.region true c50r1 [2]) .ret))
def g50 : AFn := ⟨1, [(2, none)], c50, false⟩
theorem tr50 : trFn Try.prog false Try.f50 = some g50 := by kernel_rfl
/- hornbeam/hornbeamref03.nodes -/
def c51r0 : List AOper := [
  ⟨some 1, (.box (some 4)), [.t 0], none⟩,
  ⟨some 2, .mv, [.c (.pv none (.bool false))], none⟩]
def c51r1 : List AOper := [
  ⟨some 4, (.load (some 4)), [.t 1], none⟩,
  ⟨some 5, .call, [.c (.pv none (.func (.func 63))), .t 4], none⟩,
  ⟨some 6, .not, [.t 5], none⟩]
def c51r2 : List AOper := [
  ⟨some 2, .mv, [.c (.pv none (.bool false))], none⟩]
def c51k3 : ACode := (.cond (.t 6) (.seq (.region true c51r2 [2]) .ret) .skip)
def c51r4 : List AOper := [
  ⟨some 3, .mv, [.c (.pv none (.int .i64 (0)))], none⟩]
def c51r5 : List AOper := [
  ⟨some 7, .mv, [.t 3], none⟩,
  ⟨some 8, (.faddr 3), [.t 1], none⟩,
  ⟨some 9, (.load none), [.t 8], none⟩,
  ⟨some 10, .len, [.t 9], none⟩,
  ⟨some 11, (.bin .lss), [.t 7, .t 10], none⟩]
def c51k6 : ACode := (.cond (.t 11) .skip (.exit 0))
def c51r7 : List AOper := [
  ⟨some 14, (.faddr 3), [.t 1], none⟩,
  ⟨some 15, (.load none), [.t 14], none⟩,
  ⟨some 16, .mv, [.t 3], none⟩,
  ⟨some 17, (.iaddr (some 4)), [.t 15, .t 16], none⟩,
  ⟨some 18, (.load (some 4)), [.t 17], none⟩,
  ⟨some 19, .call, [.c (.pv none (.func (.func 51))), .t 18], none⟩,
  ⟨some 20, .not, [.t 19], none⟩]
def c51r8 : List AOper := [
  ⟨some 2, .mv, [.c (.pv none (.bool false))], none⟩]
def c51k9 : ACode := (.cond (.t 20) (.seq (.region true c51r8 [2]) .ret) .skip)
def c51k10 : ACode := (.block 1 (.seq (.region true c51r7 [1, 3, 20]) c51k9))
def c51r11 : List AOper := [
  ⟨some 12, .mv, [.t 3], none⟩,
  ⟨some 13, (.bin .add), [.t 12, .c (.pv none (.int .i64 (1)))], none⟩,
  ⟨some 3, .mv, [.t 13], none⟩]
def c51b12 : ACode := (.seq (.seq (.region true c51r5 [1, 3, 11]) c51k6) (.seq c51k10 (.region true c51r11 [1, 3])))
def c51k13 : ACode := (.block 0 (.loop [1, 3] c51b12))
def c51r14 : List AOper := [
  ⟨some 2, .mv, [.c (.pv none (.bool true))], none⟩]
def c51 : ACode := (.seq (.region true c51r0 [1]) (.seq (.seq (.region true c51r1 [1, 6]) c51k3) (.seq (.seq (.region true c51r4 [1, 3]) c51k13) (.seq (.region true c51r14 [2]) .ret))))
def g51 : AFn := ⟨1, [(2, none)], c51, false⟩
theorem tr51 : trFn Try.prog false Try.f51 = some g51 := by kernel_rfl
/- hornbeam/term.Size -/
def c52r0 : List AOper := [
  ⟨some 1, (.box (some 4)), [.t 0], none⟩,
  ⟨some 2, .mv, [.c (.pv none (.int .i64 (0)))], none⟩]
def c52r1 : List AOper := [
  ⟨some 3, (.alloc none (.pv none (.int .i64 (0)))), [], none⟩,
  ⟨none, (.store none), [.t 3, .c (.pv none (.int .i64 (2001)))], none⟩]
def c52r2 : List AOper := [
  ⟨some 4, (.alloc none (.pv none .nilfunc)), [], none⟩]
def c52r3 : List AOper := [
  ⟨some 5, (.mkfunc (.func 64) 0), [.t 3, .t 4], none⟩,
  ⟨none, (.store none), [.t 4, .t 5], none⟩]
def c52r4 : List AOper := [
  ⟨some 6, (.load none), [.t 4], none⟩,
  ⟨some 7, (.load (some 4)), [.t 1], none⟩,
  ⟨some 8, .call, [.t 6, .t 7], none⟩]
def c52r5 : List AOper := [
  ⟨some 9, (.load none), [.t 3], none⟩,
  ⟨some 10, (.bin .sub), [.c (.pv none (.int .i64 (2001))), .t 9], none⟩,
  ⟨some 2, .mv, [.t 10], none⟩]
def c52 : ACode := (.seq (.region true c52r0 [1]) (.seq (.region true c52r1 [1, 3]) (.seq (.region true c52r2 [1, 3, 4]) (.seq (.region true c52r3 [1, 3, 4]) (.seq (.region true c52r4 [3]) (.seq (.region true c52r5 [2]) .ret))))))
def g52 : AFn := ⟨1, [(2, none)], c52, false⟩
theorem tr52 : trFn Try.prog false Try.f52 = some g52 := by kernel_rfl
/- hornbeam/term.fits -/
def c53r0 : List AOper := [
  ⟨some 1, (.box (some 4)), [.t 0], none⟩,
  ⟨some 2, .mv, [.c (.pv none (.bool false))], none⟩]
def c53r1 : List AOper := [
  ⟨some 3, .mv, [.c (.pv none (.bool false))], none⟩]
def c53r2 : List AOper := [
  ⟨some 5, (.faddr 0), [.t 1], none⟩,
  ⟨some 6, (.load none), [.t 5], none⟩]
def c53r3 : List AOper := [
  ⟨some 8, (.bin .eql), [.t 6, .c (.pv none (.int .i64 (0)))], none⟩,
  ⟨some 7, .mv, [.t 8], none⟩]
def c53r4 : List AOper := [
  ⟨some 9, (.faddr 1), [.t 1], none⟩,
  ⟨some 10, (.load none), [.t 9], none⟩,
  ⟨some 11, (.bin .geq), [.t 10, .c (.pv none (.int .i64 (0)))], none⟩,
  ⟨some 12, .mv, [.t 11], none⟩,
  ⟨some 13, (.faddr 1), [.t 1], some (12, true)⟩,
  ⟨some 14, (.load none), [.t 13], some (12, true)⟩,
  ⟨some 15, (.bin .leq), [.t 14, .c (.pv none (.int .i64 (1099511627776)))], some (12, true)⟩,
  ⟨some 16, .pick, [.t 12, .t 15, .c (.pv none (.bool false))], none⟩,
  ⟨some 17, .mv, [.t 16], none⟩,
  ⟨some 18, (.faddr 2), [.t 1], some (17, true)⟩,
  ⟨some 19, (.load none), [.t 18], some (17, true)⟩,
  ⟨some 20, (.bin .eql), [.t 19, .c (.pv none (.str []))], some (17, true)⟩,
  ⟨some 21, .pick, [.t 17, .t 20, .c (.pv none (.bool false))], none⟩,
  ⟨some 22, .mv, [.t 21], none⟩,
  ⟨some 23, (.faddr 3), [.t 1], some (22, true)⟩,
  ⟨some 24, (.load none), [.t 23], some (22, true)⟩,
  ⟨some 25, .len, [.t 24], some (22, true)⟩,
  ⟨some 26, (.bin .eql), [.t 25, .c (.pv none (.int .i64 (0)))], some (22, true)⟩,
  ⟨some 27, .pick, [.t 22, .t 26, .c (.pv none (.bool false))], none⟩,
  ⟨some 3, .mv, [.t 27], none⟩]
def c53r5 : List AOper := [
  ⟨some 29, (.bin .eql), [.t 6, .c (.pv none (.int .i64 (1)))], none⟩,
  ⟨some 28, .mv, [.t 29], none⟩]
def c53r6 : List AOper := [
  ⟨some 30, (.faddr 2), [.t 1], none⟩,
  ⟨some 31, (.load none), [.t 30], none⟩,
  ⟨some 32, (.bin .eql), [.t 31, .c (.pv none (.str []))], none⟩,
  ⟨some 33, .mv, [.t 32], none⟩,
  ⟨some 34, (.faddr 3), [.t 1], some (33, true)⟩,
  ⟨some 35, (.load none), [.t 34], some (33, true)⟩,
  ⟨some 36, .len, [.t 35], some (33, true)⟩,
  ⟨some 37, (.bin .eql), [.t 36, .c (.pv none (.int .i64 (0)))], some (33, true)⟩,
  ⟨some 38, .pick, [.t 33, .t 37, .c (.pv none (.bool false))], none⟩,
  ⟨some 3, .mv, [.t 38], none⟩]
def c53r7 : List AOper := [
  ⟨some 40, (.bin .eql), [.t 6, .c (.pv none (.int .i64 (2)))], none⟩,
  ⟨some 39, .mv, [.t 40], none⟩]
def c53r8 : List AOper := [
  ⟨some 41, (.faddr 1), [.t 1], none⟩,
  ⟨some 42, (.load none), [.t 41], none⟩,
  ⟨some 43, (.bin .eql), [.t 42, .c (.pv none (.int .i64 (0)))], none⟩,
  ⟨some 44, .mv, [.t 43], none⟩,
  ⟨some 45, (.faddr 2), [.t 1], some (44, true)⟩,
  ⟨some 46, (.load none), [.t 45], some (44, true)⟩,
  ⟨some 47, .slen, [.t 46], some (44, true)⟩,
  ⟨some 48, (.bin .leq), [.t 47, .c (.pv none (.int .i64 (100)))], some (44, true)⟩,
  ⟨some 49, .pick, [.t 44, .t 48, .c (.pv none (.bool false))], none⟩,
  ⟨some 50, .mv, [.t 49], none⟩,
  ⟨some 51, (.faddr 3), [.t 1], some (50, true)⟩,
  ⟨some 52, (.load none), [.t 51], some (50, true)⟩,
  ⟨some 53, .len, [.t 52], some (50, true)⟩,
  ⟨some 54, (.bin .eql), [.t 53, .c (.pv none (.int .i64 (0)))], some (50, true)⟩,
  ⟨some 55, .pick, [.t 50, .t 54, .c (.pv none (.bool false))], none⟩,
  ⟨some 3, .mv, [.t 55], none⟩]
def c53r9 : List AOper := [
  ⟨some 57, (.bin .eql), [.t 6, .c (.pv none (.int .i64 (3)))], none⟩,
  ⟨some 56, .mv, [.t 57], none⟩]
def c53r10 : List AOper := [
  ⟨some 58, (.faddr 1), [.t 1], none⟩,
  ⟨some 59, (.load none), [.t 58], none⟩,
  ⟨some 60, (.bin .eql), [.t 59, .c (.pv none (.int .i64 (0)))], none⟩,
  ⟨some 61, .mv, [.t 60], none⟩,
  ⟨some 62, (.faddr 2), [.t 1], some (61, true)⟩,
  ⟨some 63, (.load none), [.t 62], some (61, true)⟩,
  ⟨some 64, .slen, [.t 63], some (61, true)⟩,
  ⟨some 65, (.bin .leq), [.t 64, .c (.pv none (.int .i64 (100)))], some (61, true)⟩,
  ⟨some 66, .pick, [.t 61, .t 65, .c (.pv none (.bool false))], none⟩,
  ⟨some 67, .mv, [.t 66], none⟩,
  ⟨some 68, (.faddr 3), [.t 1], some (67, true)⟩,
  ⟨some 69, (.load none), [.t 68], some (67, true)⟩,
  ⟨some 70, .len, [.t 69], some (67, true)⟩,
  ⟨some 71, (.bin .gtr), [.t 70, .c (.pv none (.int .i64 (0)))], some (67, true)⟩,
  ⟨some 72, .pick, [.t 67, .t 71, .c (.pv none (.bool false))], none⟩,
  ⟨some 73, .mv, [.t 72], none⟩,
  ⟨some 74, (.faddr 3), [.t 1], some (73, true)⟩,
  ⟨some 75, (.load none), [.t 74], some (73, true)⟩,
  ⟨some 76, .len, [.t 75], some (73, true)⟩,
  ⟨some 77, (.bin .leq), [.t 76, .c (.pv none (.int .i64 (8)))], some (73, true)⟩,
  ⟨some 78, .pick, [.t 73, .t 77, .c (.pv none (.bool false))], none⟩,
  ⟨some 3, .mv, [.t 78], none⟩]
def c53k11 : ACode := (.cond (.t 56) (.region true c53r10 [1, 3]) .skip)
def c53k12 : ACode := (.cond (.t 39) (.region true c53r8 [1, 3]) (.seq (.region true c53r9 [1, 3, 56]) c53k11))
def c53k13 : ACode := (.cond (.t 28) (.region true c53r6 [1, 3]) (.seq (.region true c53r7 [1, 3, 6, 39]) c53k12))
def c53k14 : ACode := (.cond (.t 7) (.region true c53r4 [1, 3]) (.seq (.region true c53r5 [1, 3, 6, 28]) c53k13))
def c53k15 : ACode := (.block 0 (.seq (.region true c53r3 [1, 3, 6, 7]) c53k14))
def c53r16 : List AOper := [
  ⟨some 4, .mv, [.c (.pv none (.int .i64 (0)))], none⟩]
def c53r17 : List AOper := [
  ⟨some 79, .mv, [.t 4], none⟩,
  ⟨some 80, (.faddr 3), [.t 1], none⟩,
  ⟨some 81, (.load none), [.t 80], none⟩,
  ⟨some 82, .len, [.t 81], none⟩,
  ⟨some 83, (.bin .lss), [.t 79, .t 82], none⟩,
  ⟨some 84, .mv, [.t 83], none⟩,
  ⟨some 85, .mv, [.t 3], some (84, true)⟩,
  ⟨some 86, .pick, [.t 84, .t 85, .c (.pv none (.bool false))], none⟩]
def c53k18 : ACode := (.cond (.t 86) .skip (.exit 1))
def c53r19 : List AOper := [
  ⟨some 89, (.faddr 3), [.t 1], none⟩,
  ⟨some 90, (.load none), [.t 89], none⟩,
  ⟨some 91, .mv, [.t 4], none⟩,
  ⟨some 92, (.iaddr (some 4)), [.t 90, .t 91], none⟩,
  ⟨some 93, (.load (some 4)), [.t 92], none⟩,
  ⟨some 94, .call, [.c (.pv none (.func (.func 53))), .t 93], none⟩,
  ⟨some 3, .mv, [.t 94], none⟩]
def c53k20 : ACode := (.block 2 (.region true c53r19 [1, 3, 4]))
def c53r21 : List AOper := [
  ⟨some 87, .mv, [.t 4], none⟩,
  ⟨some 88, (.bin .add), [.t 87, .c (.pv none (.int .i64 (1)))], none⟩,
  ⟨some 4, .mv, [.t 88], none⟩]
def c53b22 : ACode := (.seq (.seq (.region true c53r17 [1, 3, 4, 86]) c53k18) (.seq c53k20 (.region true c53r21 [1, 3, 4])))
def c53k23 : ACode := (.block 1 (.loop [1, 3, 4] c53b22))
def c53r24 : List AOper := [
  ⟨some 95, .mv, [.t 3], none⟩,
  ⟨some 2, .mv, [.t 95], none⟩]
def c53 : ACode := (.seq (.region true c53r0 [1]) (.seq (.region true c53r1 [1, 3]) (.seq (.seq (.region true c53r2 [1, 3, 6]) c53k15) (.seq (.seq (.region true c53r16 [1, 3, 4]) c53k23) (.seq (.region true c53r24 [2]) .ret)))))
def g53 : AFn := ⟨1, [(2, none)], c53, false⟩
theorem tr53 : trFn Try.prog false Try.f53 = some g53 := by kernel_rfl
/- cmp.Compare[int] -/
def c54r0 : List AOper := [
  ⟨some 4, .mv, [.c (.pv none (.int .i64 (0)))], none⟩]
def c54r1 : List AOper := [
  ⟨some 7, .mv, [.t 0], none⟩,
  ⟨some 8, .call, [.c (.pv none (.func (.func 65))), .t 7], none⟩,
  ⟨some 5, .mv, [.t 8], none⟩]
def c54r2 : List AOper := [
  ⟨some 9, .mv, [.t 1], none⟩,
  ⟨some 10, .call, [.c (.pv none (.func (.func 65))), .t 9], none⟩,
  ⟨some 6, .mv, [.t 10], none⟩]
def c54r3 : List AOper := [
  ⟨some 11, .mv, [.t 5], none⟩]
def c54r4 : List AOper := [
  ⟨some 12, .mv, [.t 6], none⟩]
def c54r5 : List AOper := [
  ⟨some 4, .mv, [.c (.pv none (.int .i64 (0)))], none⟩]
def c54k6 : ACode := (.cond (.t 12) (.seq (.region true c54r5 [4]) .ret) .skip)
def c54r7 : List AOper := [
  ⟨some 4, .mv, [.c (.pv none (.int .i64 (-1)))], none⟩]
def c54k8 : ACode := (.cond (.t 11) (.seq (.seq (.region true c54r4 [12]) c54k6) (.seq (.region true c54r7 [4]) .ret)) .skip)
def c54r9 : List AOper := [
  ⟨some 13, .mv, [.t 6], none⟩]
def c54r10 : List AOper := [
  ⟨some 4, .mv, [.c (.pv none (.int .i64 (1)))], none⟩]
def c54k11 : ACode := (.cond (.t 13) (.seq (.region true c54r10 [4]) .ret) .skip)
def c54r12 : List AOper := [
  ⟨some 14, .mv, [.t 0], none⟩,
  ⟨some 15, .mv, [.t 1], none⟩,
  ⟨some 16, (.bin .lss), [.t 14, .t 15], none⟩]
def c54r13 : List AOper := [
  ⟨some 4, .mv, [.c (.pv none (.int .i64 (-1)))], none⟩]
def c54k14 : ACode := (.cond (.t 16) (.seq (.region true c54r13 [4]) .ret) .skip)
def c54r15 : List AOper := [
  ⟨some 17, .mv, [.t 0], none⟩,
  ⟨some 18, .mv, [.t 1], none⟩,
  ⟨some 19, (.bin .gtr), [.t 17, .t 18], none⟩]
def c54r16 : List AOper := [
  ⟨some 4, .mv, [.c (.pv none (.int .i64 (1)))], none⟩]
def c54k17 : ACode := (.cond (.t 19) (.seq (.region true c54r16 [4]) .ret) .skip)
def c54r18 : List AOper := [
  ⟨some 4, .mv, [.c (.pv none (.int .i64 (0)))], none⟩]
def c54 : ACode := (.seq (.region true c54r0 [0, 1]) (.seq (.region true c54r1 [0, 1, 5]) (.seq (.region true c54r2 [0, 1, 5, 6]) (.seq (.seq (.region true c54r3 [0, 1, 6, 11]) c54k8) (.seq (.seq (.region true c54r9 [0, 1, 13]) c54k11) (.seq (.seq (.region true c54r12 [0, 1, 16]) c54k14) (.seq (.seq (.region true c54r15 [19]) c54k17) (.seq (.region true c54r18 [4]) .ret))))))))
def g54 : AFn := ⟨2, [(4, none)], c54, false⟩
theorem tr54 : trFn Try.prog false Try.f54 = some g54 := by kernel_rfl
/- cmp.Compare[int64] -/
def c55r0 : List AOper := [
  ⟨some 4, .mv, [.c (.pv none (.int .i64 (0)))], none⟩]
def c55r1 : List AOper := [
  ⟨some 7, .mv, [.t 0], none⟩,
  ⟨some 8, .call, [.c (.pv none (.func (.func 66))), .t 7], none⟩,
  ⟨some 5, .mv, [.t 8], none⟩]
def c55r2 : List AOper := [
  ⟨some 9, .mv, [.t 1], none⟩,
  ⟨some 10, .call, [.c (.pv none (.func (.func 66))), .t 9], none⟩,
  ⟨some 6, .mv, [.t 10], none⟩]
def c55r3 : List AOper := [
  ⟨some 11, .mv, [.t 5], none⟩]
def c55r4 : List AOper := [
  ⟨some 12, .mv, [.t 6], none⟩]
def c55r5 : List AOper := [
  ⟨some 4, .mv, [.c (.pv none (.int .i64 (0)))], none⟩]
def c55k6 : ACode := (.cond (.t 12) (.seq (.region true c55r5 [4]) .ret) .skip)
def c55r7 : List AOper := [
  ⟨some 4, .mv, [.c (.pv none (.int .i64 (-1)))], none⟩]
def c55k8 : ACode := (.cond (.t 11) (.seq (.seq (.region true c55r4 [12]) c55k6) (.seq (.region true c55r7 [4]) .ret)) .skip)
def c55r9 : List AOper := [
  ⟨some 13, .mv, [.t 6], none⟩]
def c55r10 : List AOper := [
  ⟨some 4, .mv, [.c (.pv none (.int .i64 (1)))], none⟩]
def c55k11 : ACode := (.cond (.t 13) (.seq (.region true c55r10 [4]) .ret) .skip)
def c55r12 : List AOper := [
  ⟨some 14, .mv, [.t 0], none⟩,
  ⟨some 15, .mv, [.t 1], none⟩,
  ⟨some 16, (.bin .lss), [.t 14, .t 15], none⟩]
def c55r13 : List AOper := [
  ⟨some 4, .mv, [.c (.pv none (.int .i64 (-1)))], none⟩]
def c55k14 : ACode := (.cond (.t 16) (.seq (.region true c55r13 [4]) .ret) .skip)
def c55r15 : List AOper := [
  ⟨some 17, .mv, [.t 0], none⟩,
  ⟨some 18, .mv, [.t 1], none⟩,
  ⟨some 19, (.bin .gtr), [.t 17, .t 18], none⟩]
def c55r16 : List AOper := [
  ⟨some 4, .mv, [.c (.pv none (.int .i64 (1)))], none⟩]
def c55k17 : ACode := (.cond (.t 19) (.seq (.region true c55r16 [4]) .ret) .skip)
def c55r18 : List AOper := [
  ⟨some 4, .mv, [.c (.pv none (.int .i64 (0)))], none⟩]
def c55 : ACode := (.seq (.region true c55r0 [0, 1]) (.seq (.region true c55r1 [0, 1, 5]) (.seq (.region true c55r2 [0, 1, 5, 6]) (.seq (.seq (.region true c55r3 [0, 1, 6, 11]) c55k8) (.seq (.seq (.region true c55r9 [0, 1, 13]) c55k11) (.seq (.seq (.region true c55r12 [0, 1, 16]) c55k14) (.seq (.seq (.region true c55r15 [19]) c55k17) (.seq (.region true c55r18 [4]) .ret))))))))
def g55 : AFn := ⟨2, [(4, none)], c55, false⟩
theorem tr55 : trFn Try.prog false Try.f55 = some g55 := by kernel_rfl
/- strings.Compare -/
def c56r0 : List AOper := [
  ⟨some 4, .mv, [.c (.pv none (.int .i64 (0)))], none⟩]
def c56r1 : List AOper := [
  ⟨some 5, .mv, [.t 0], none⟩,
  ⟨some 6, .mv, [.t 1], none⟩,
  ⟨some 7, .call, [.c (.pv none (.func (.func 67))), .t 5, .t 6], none⟩,
  ⟨some 4, .mv, [.t 7], none⟩]
def c56 : ACode := (.seq (.region true c56r0 [0, 1]) (.seq (.region true c56r1 [4]) .ret))
def g56 : AFn := ⟨2, [(4, none)], c56, false⟩
theorem tr56 : trFn Try.prog false Try.f56 = some g56 := by kernel_rfl
/- hornbeam/hornbeamref04.number -/
def c57r0 : List AOper := [
  ⟨some 4, .mv, [.c (.pv none (.int .i64 (0)))], none⟩]
def c57r1 : List AOper := [
  ⟨some 5, .mv, [.t 0], none⟩,
  ⟨some 6, .mv, [.t 1], none⟩,
  ⟨some 7, (.bin .lss), [.t 5, .t 6], none⟩]
def c57r2 : List AOper := [
  ⟨some 4, .mv, [.c (.pv none (.int .i64 (-1)))], none⟩]
def c57k3 : ACode := (.cond (.t 7) (.seq (.region true c57r2 [4]) .ret) .skip)
def c57r4 : List AOper := [
  ⟨some 8, .mv, [.t 0], none⟩,
  ⟨some 9, .mv, [.t 1], none⟩,
  ⟨some 10, (.bin .gtr), [.t 8, .t 9], none⟩]
def c57r5 : List AOper := [
  ⟨some 4, .mv, [.c (.pv none (.int .i64 (1)))], none⟩]
def c57k6 : ACode := (.cond (.t 10) (.seq (.region true c57r5 [4]) .ret) .skip)
def c57r7 : List AOper := [
  ⟨some 4, .mv, [.c (.pv none (.int .i64 (0)))], none⟩]
def c57 : ACode := (.seq (.region true c57r0 [0, 1]) (.seq (.seq (.region true c57r1 [0, 1, 7]) c57k3) (.seq (.seq (.region true c57r4 [10]) c57k6) (.seq (.region true c57r7 [4]) .ret))))
def g57 : AFn := ⟨2, [(4, none)], c57, false⟩
theorem tr57 : trFn Try.prog false Try.f57 = some g57 := by kernel_rfl
/- hornbeam/hornbeamref04.Names -/
def c58r0 : List AOper := [
  ⟨some 4, .mv, [.c (.pv none (.int .i64 (0)))], none⟩]
def c58r1 : List AOper := [
  ⟨some 5, .mv, [.c (.pv none (.int .i64 (0)))], none⟩]
def c58r2 : List AOper := [
  ⟨some 6, .mv, [.t 5], none⟩,
  ⟨some 7, .mv, [.t 0], none⟩,
  ⟨some 8, .slen, [.t 7], none⟩,
  ⟨some 9, (.bin .lss), [.t 6, .t 8], none⟩,
  ⟨some 10, .mv, [.t 9], none⟩,
  ⟨some 11, .mv, [.t 5], some (10, true)⟩,
  ⟨some 12, .mv, [.t 1], some (10, true)⟩,
  ⟨some 13, .slen, [.t 12], some (10, true)⟩,
  ⟨some 14, (.bin .lss), [.t 11, .t 13], some (10, true)⟩,
  ⟨some 15, .pick, [.t 10, .t 14, .c (.pv none (.bool false))], none⟩]
def c58k3 : ACode := (.cond (.t 15) .skip (.exit 0))
def c58r4 : List AOper := [
  ⟨some 18, .mv, [.t 0], none⟩,
  ⟨some 19, .mv, [.t 5], none⟩,
  ⟨some 20, .sindex, [.t 18, .t 19], none⟩,
  ⟨some 21, .mv, [.t 1], none⟩,
  ⟨some 22, .mv, [.t 5], none⟩,
  ⟨some 23, .sindex, [.t 21, .t 22], none⟩,
  ⟨some 24, (.bin .lss), [.t 20, .t 23], none⟩]
def c58r5 : List AOper := [
  ⟨some 4, .mv, [.c (.pv none (.int .i64 (-1)))], none⟩]
def c58k6 : ACode := (.cond (.t 24) (.seq (.region true c58r5 [4]) .ret) .skip)
def c58r7 : List AOper := [
  ⟨some 25, .mv, [.t 0], none⟩,
  ⟨some 26, .mv, [.t 5], none⟩,
  ⟨some 27, .sindex, [.t 25, .t 26], none⟩,
  ⟨some 28, .mv, [.t 1], none⟩,
  ⟨some 29, .mv, [.t 5], none⟩,
  ⟨some 30, .sindex, [.t 28, .t 29], none⟩,
  ⟨some 31, (.bin .gtr), [.t 27, .t 30], none⟩]
def c58r8 : List AOper := [
  ⟨some 4, .mv, [.c (.pv none (.int .i64 (1)))], none⟩]
def c58k9 : ACode := (.cond (.t 31) (.seq (.region true c58r8 [4]) .ret) .skip)
def c58k10 : ACode := (.block 1 (.seq (.seq (.region true c58r4 [0, 1, 5, 24]) c58k6) (.seq (.region true c58r7 [0, 1, 5, 31]) c58k9)))
def c58r11 : List AOper := [
  ⟨some 16, .mv, [.t 5], none⟩,
  ⟨some 17, (.bin .add), [.t 16, .c (.pv none (.int .i64 (1)))], none⟩,
  ⟨some 5, .mv, [.t 17], none⟩]
def c58b12 : ACode := (.seq (.seq (.region true c58r2 [0, 1, 5, 15]) c58k3) (.seq c58k10 (.region true c58r11 [0, 1, 5])))
def c58k13 : ACode := (.block 0 (.loop [0, 1, 5] c58b12))
def c58r14 : List AOper := [
  ⟨some 32, .mv, [.t 0], none⟩,
  ⟨some 33, .slen, [.t 32], none⟩,
  ⟨some 34, .mv, [.t 1], none⟩,
  ⟨some 35, .slen, [.t 34], none⟩,
  ⟨some 36, .call, [.c (.pv none (.func (.func 57))), .t 33, .t 35], none⟩,
  ⟨some 4, .mv, [.t 36], none⟩]
def c58 : ACode := (.seq (.region true c58r0 [0, 1]) (.seq (.seq (.region true c58r1 [0, 1, 5]) c58k13) (.seq (.region true c58r14 [4]) .ret)))
def g58 : AFn := ⟨2, [(4, none)], c58, false⟩
theorem tr58 : trFn Try.prog false Try.f58 = some g58 := by kernel_rfl
/- hornbeam/term.Clone -/
def c59r0 : List AOper := [
  ⟨some 1, (.box (some 4)), [.t 0], none⟩,
  ⟨some 2, (.alloc (some 4) (.agg [(none, (.pv none (.int .i64 (0)))), (none, (.pv none (.int .i64 (0)))), (none, (.pv none (.str []))), (none, (.tsl (some 4) []))])), [], none⟩]
def c59r1 : List AOper := [
  ⟨some 3, (.load (some 4)), [.t 1], none⟩,
  ⟨some 4, .call, [.c (.pv none (.func (.func 36))), .t 3], none⟩,
  ⟨some 5, .not, [.t 4], none⟩]
def c59r2 : List AOper := [
  ⟨some 6, (.build [(none, (.pv none (.int .i64 (0)))), (none, (.pv none (.int .i64 (0)))), (none, (.pv none (.str []))), (none, (.tsl (some 4) []))] []), [], none⟩,
  ⟨none, (.store (some 4)), [.t 2, .t 6], none⟩]
def c59k3 : ACode := (.cond (.t 5) (.seq (.region true c59r2 [2]) .ret) .skip)
def c59r4 : List AOper := [
  ⟨some 7, (.load (some 4)), [.t 1], none⟩,
  ⟨some 8, .call, [.c (.pv none (.func (.func 68))), .t 7, .c (.pv none (.func (.func 69)))], none⟩,
  ⟨none, (.store (some 4)), [.t 2, .t 8], none⟩]
def c59 : ACode := (.seq (.region true c59r0 [1, 2]) (.seq (.seq (.region true c59r1 [1, 2, 5]) c59k3) (.seq (.region true c59r4 [2]) .ret)))
def g59 : AFn := ⟨1, [(2, some (some 4))], c59, false⟩
theorem tr59 : trFn Try.prog false Try.f59 = some g59 := by kernel_rfl
/- slices.SortStableFunc[[]hornbeam/api.Term,hornbeam/api.Term] -/
def c60r0 : List AOper := [
  ⟨some 4, .mv, [.t 0], none⟩,
  ⟨some 5, .mv, [.t 0], none⟩,
  ⟨some 6, .len, [.t 5], none⟩,
  ⟨some 7, .mv, [.t 1], none⟩,
  ⟨some 8, .call, [.c (.pv none (.func (.func 70))), .t 4, .t 6, .t 7], none⟩]
def c60 : ACode := (.region true c60r0 [])
def g60 : AFn := ⟨2, [], c60, true⟩
theorem tr60 : trFn Try.prog true Try.f60 = some g60 := by kernel_rfl
/- hornbeam/hornbeamref04.key -/
def c61r0 : List AOper := [
  ⟨some 2, (.box (some 4)), [.t 0], none⟩,
  ⟨some 4, (.alloc (some 4) (.agg [(none, (.pv none (.int .i64 (0)))), (none, (.pv none (.int .i64 (0)))), (none, (.pv none (.str []))), (none, (.tsl (some 4) []))])), [], none⟩]
def c61r1 : List AOper := [
  ⟨some 5, .mv, [.t 1], none⟩]
def c61r2 : List AOper := [
  ⟨some 6, (.faddr 3), [.t 2], none⟩,
  ⟨some 7, (.load none), [.t 6], none⟩,
  ⟨some 8, (.iaddr (some 4)), [.t 7, .c (.pv none (.int .i64 (0)))], none⟩,
  ⟨some 9, (.load (some 4)), [.t 8], none⟩,
  ⟨none, (.store (some 4)), [.t 4, .t 9], none⟩]
def c61k3 : ACode := (.cond (.t 5) (.seq (.region true c61r2 [4]) .ret) .skip)
def c61r4 : List AOper := [
  ⟨some 10, (.load (some 4)), [.t 2], none⟩,
  ⟨none, (.store (some 4)), [.t 4, .t 10], none⟩]
def c61 : ACode := (.seq (.region true c61r0 [1, 2, 4]) (.seq (.seq (.region true c61r1 [2, 4, 5]) c61k3) (.seq (.region true c61r4 [4]) .ret)))
def g61 : AFn := ⟨2, [(4, some (some 4))], c61, false⟩
theorem tr61 : trFn Try.prog false Try.f61 = some g61 := by kernel_rfl
/- hornbeam/hornbeamref03.Count -/
def c62r0 : List AOper := [
  ⟨some 2, (.box (some 4)), [.t 0], none⟩,
  ⟨some 4, .mv, [.c (.pv none (.int .i64 (0)))], none⟩]
def c62r1 : List AOper := [
  ⟨some 5, .mv, [.c (.pv none (.int .i64 (1)))], none⟩]
def c62r2 : List AOper := [
  ⟨some 6, .mv, [.c (.pv none (.int .i64 (0)))], none⟩]
def c62r3 : List AOper := [
  ⟨some 7, .mv, [.t 6], none⟩,
  ⟨some 8, (.faddr 3), [.t 2], none⟩,
  ⟨some 9, (.load none), [.t 8], none⟩,
  ⟨some 10, .len, [.t 9], none⟩,
  ⟨some 11, (.bin .lss), [.t 7, .t 10], none⟩,
  ⟨some 12, .mv, [.t 11], none⟩,
  ⟨some 13, .mv, [.t 5], some (12, true)⟩,
  ⟨some 14, .mv, [.t 1], some (12, true)⟩,
  ⟨some 15, (.bin .lss), [.t 13, .t 14], some (12, true)⟩,
  ⟨some 16, .pick, [.t 12, .t 15, .c (.pv none (.bool false))], none⟩]
def c62k4 : ACode := (.cond (.t 16) .skip (.exit 0))
def c62r5 : List AOper := [
  ⟨some 19, .mv, [.t 5], none⟩,
  ⟨some 20, (.faddr 3), [.t 2], none⟩,
  ⟨some 21, (.load none), [.t 20], none⟩,
  ⟨some 22, .mv, [.t 6], none⟩,
  ⟨some 23, (.iaddr (some 4)), [.t 21, .t 22], none⟩,
  ⟨some 24, (.load (some 4)), [.t 23], none⟩,
  ⟨some 25, .mv, [.t 1], none⟩,
  ⟨some 26, .mv, [.t 5], none⟩,
  ⟨some 27, (.bin .sub), [.t 25, .t 26], none⟩,
  ⟨some 28, .call, [.c (.pv none (.func (.func 62))), .t 24, .t 27], none⟩,
  ⟨some 29, (.bin .add), [.t 19, .t 28], none⟩,
  ⟨some 5, .mv, [.t 29], none⟩]
def c62k6 : ACode := (.block 1 (.region true c62r5 [1, 2, 5, 6]))
def c62r7 : List AOper := [
  ⟨some 17, .mv, [.t 6], none⟩,
  ⟨some 18, (.bin .add), [.t 17, .c (.pv none (.int .i64 (1)))], none⟩,
  ⟨some 6, .mv, [.t 18], none⟩]
def c62b8 : ACode := (.seq (.seq (.region true c62r3 [1, 2, 5, 6, 16]) c62k4) (.seq c62k6 (.region true c62r7 [1, 2, 5, 6])))
def c62k9 : ACode := (.block 0 (.loop [1, 2, 5, 6] c62b8))
def c62r10 : List AOper := [
  ⟨some 30, .mv, [.t 5], none⟩,
  ⟨some 4, .mv, [.t 30], none⟩]
def c62 : ACode := (.seq (.region true c62r0 [1, 2]) (.seq (.region true c62r1 [1, 2, 5]) (.seq (.seq (.region true c62r2 [1, 2, 5, 6]) c62k9) (.seq (.region true c62r10 [4]) .ret))))
def g62 : AFn := ⟨2, [(4, none)], c62, false⟩
theorem tr62 : trFn Try.prog false Try.f62 = some g62 := by kernel_rfl
/- hornbeam/hornbeamref03.node -/
def c63r0 : List AOper := [
  ⟨some 1, (.box (some 4)), [.t 0], none⟩,
  ⟨some 2, .mv, [.c (.pv none (.bool false))], none⟩]
def c63r1 : List AOper := [
  ⟨some 3, (.faddr 0), [.t 1], none⟩,
  ⟨some 4, (.load none), [.t 3], none⟩]
def c63r2 : List AOper := [
  ⟨some 6, (.bin .eql), [.t 4, .c (.pv none (.int .i64 (0)))], none⟩,
  ⟨some 5, .mv, [.t 6], none⟩]
def c63r3 : List AOper := [
  ⟨some 7, (.faddr 1), [.t 1], none⟩,
  ⟨some 8, (.load none), [.t 7], none⟩,
  ⟨some 9, (.bin .geq), [.t 8, .c (.pv none (.int .i64 (0)))], none⟩,
  ⟨some 10, .mv, [.t 9], none⟩,
  ⟨some 11, (.faddr 1), [.t 1], some (10, true)⟩,
  ⟨some 12, (.load none), [.t 11], some (10, true)⟩,
  ⟨some 13, (.bin .leq), [.t 12, .c (.pv none (.int .i64 (1099511627776)))], some (10, true)⟩,
  ⟨some 14, .pick, [.t 10, .t 13, .c (.pv none (.bool false))], none⟩,
  ⟨some 15, .mv, [.t 14], none⟩,
  ⟨some 16, (.faddr 2), [.t 1], some (15, true)⟩,
  ⟨some 17, (.load none), [.t 16], some (15, true)⟩,
  ⟨some 18, (.bin .eql), [.t 17, .c (.pv none (.str []))], some (15, true)⟩,
  ⟨some 19, .pick, [.t 15, .t 18, .c (.pv none (.bool false))], none⟩,
  ⟨some 20, .mv, [.t 19], none⟩,
  ⟨some 21, (.faddr 3), [.t 1], some (20, true)⟩,
  ⟨some 22, (.load none), [.t 21], some (20, true)⟩,
  ⟨some 23, .len, [.t 22], some (20, true)⟩,
  ⟨some 24, (.bin .eql), [.t 23, .c (.pv none (.int .i64 (0)))], some (20, true)⟩,
  ⟨some 25, .pick, [.t 20, .t 24, .c (.pv none (.bool false))], none⟩,
  ⟨some 2, .mv, [.t 25], none⟩]
def c63r4 : List AOper := [
  ⟨some 27, (.bin .eql), [.t 4, .c (.pv none (.int .i64 (1)))], none⟩,
  ⟨some 26, .mv, [.t 27], none⟩]
def c63r5 : List AOper := [
  ⟨some 28, (.faddr 2), [.t 1], none⟩,
  ⟨some 29, (.load none), [.t 28], none⟩,
  ⟨some 30, (.bin .eql), [.t 29, .c (.pv none (.str []))], none⟩,
  ⟨some 31, .mv, [.t 30], none⟩,
  ⟨some 32, (.faddr 3), [.t 1], some (31, true)⟩,
  ⟨some 33, (.load none), [.t 32], some (31, true)⟩,
  ⟨some 34, .len, [.t 33], some (31, true)⟩,
  ⟨some 35, (.bin .eql), [.t 34, .c (.pv none (.int .i64 (0)))], some (31, true)⟩,
  ⟨some 36, .pick, [.t 31, .t 35, .c (.pv none (.bool false))], none⟩,
  ⟨some 2, .mv, [.t 36], none⟩]
def c63r6 : List AOper := [
  ⟨some 38, (.bin .eql), [.t 4, .c (.pv none (.int .i64 (2)))], none⟩,
  ⟨some 37, .mv, [.t 38], none⟩]
def c63r7 : List AOper := [
  ⟨some 39, (.faddr 1), [.t 1], none⟩,
  ⟨some 40, (.load none), [.t 39], none⟩,
  ⟨some 41, (.bin .eql), [.t 40, .c (.pv none (.int .i64 (0)))], none⟩,
  ⟨some 42, .mv, [.t 41], none⟩,
  ⟨some 43, (.faddr 2), [.t 1], some (42, true)⟩,
  ⟨some 44, (.load none), [.t 43], some (42, true)⟩,
  ⟨some 45, .slen, [.t 44], some (42, true)⟩,
  ⟨some 46, (.bin .leq), [.t 45, .c (.pv none (.int .i64 (100)))], some (42, true)⟩,
  ⟨some 47, .pick, [.t 42, .t 46, .c (.pv none (.bool false))], none⟩,
  ⟨some 48, .mv, [.t 47], none⟩,
  ⟨some 49, (.faddr 3), [.t 1], some (48, true)⟩,
  ⟨some 50, (.load none), [.t 49], some (48, true)⟩,
  ⟨some 51, .len, [.t 50], some (48, true)⟩,
  ⟨some 52, (.bin .eql), [.t 51, .c (.pv none (.int .i64 (0)))], some (48, true)⟩,
  ⟨some 53, .pick, [.t 48, .t 52, .c (.pv none (.bool false))], none⟩,
  ⟨some 2, .mv, [.t 53], none⟩]
def c63r8 : List AOper := [
  ⟨some 55, (.bin .eql), [.t 4, .c (.pv none (.int .i64 (3)))], none⟩,
  ⟨some 54, .mv, [.t 55], none⟩]
def c63r9 : List AOper := [
  ⟨some 56, (.faddr 1), [.t 1], none⟩,
  ⟨some 57, (.load none), [.t 56], none⟩,
  ⟨some 58, (.bin .eql), [.t 57, .c (.pv none (.int .i64 (0)))], none⟩,
  ⟨some 59, .mv, [.t 58], none⟩,
  ⟨some 60, (.faddr 2), [.t 1], some (59, true)⟩,
  ⟨some 61, (.load none), [.t 60], some (59, true)⟩,
  ⟨some 62, .slen, [.t 61], some (59, true)⟩,
  ⟨some 63, (.bin .leq), [.t 62, .c (.pv none (.int .i64 (100)))], some (59, true)⟩,
  ⟨some 64, .pick, [.t 59, .t 63, .c (.pv none (.bool false))], none⟩,
  ⟨some 65, .mv, [.t 64], none⟩,
  ⟨some 66, (.faddr 3), [.t 1], some (65, true)⟩,
  ⟨some 67, (.load none), [.t 66], some (65, true)⟩,
  ⟨some 68, .len, [.t 67], some (65, true)⟩,
  ⟨some 69, (.bin .geq), [.t 68, .c (.pv none (.int .i64 (1)))], some (65, true)⟩,
  ⟨some 70, .pick, [.t 65, .t 69, .c (.pv none (.bool false))], none⟩,
  ⟨some 71, .mv, [.t 70], none⟩,
  ⟨some 72, (.faddr 3), [.t 1], some (71, true)⟩,
  ⟨some 73, (.load none), [.t 72], some (71, true)⟩,
  ⟨some 74, .len, [.t 73], some (71, true)⟩,
  ⟨some 75, (.bin .leq), [.t 74, .c (.pv none (.int .i64 (8)))], some (71, true)⟩,
  ⟨some 76, .pick, [.t 71, .t 75, .c (.pv none (.bool false))], none⟩,
  ⟨some 2, .mv, [.t 76], none⟩]
def c63k10 : ACode := (.cond (.t 54) (.seq (.region true c63r9 [2]) .ret) .skip)
def c63k11 : ACode := (.cond (.t 37) (.seq (.region true c63r7 [2]) .ret) (.seq (.region true c63r8 [1, 54]) c63k10))
def c63k12 : ACode := (.cond (.t 26) (.seq (.region true c63r5 [2]) .ret) (.seq (.region true c63r6 [1, 4, 37]) c63k11))
def c63k13 : ACode := (.cond (.t 5) (.seq (.region true c63r3 [2]) .ret) (.seq (.region true c63r4 [1, 4, 26]) c63k12))
def c63k14 : ACode := (.block 0 (.seq (.region true c63r2 [1, 4, 5]) c63k13))
def c63r15 : List AOper := [
  ⟨some 2, .mv, [.c (.pv none (.bool false))], none⟩]
def c63 : ACode := (.seq (.region true c63r0 [1]) (.seq (.seq (.region true c63r1 [1, 4]) c63k14) (.seq (.region true c63r15 [2]) .ret)))
def g63 : AFn := ⟨1, [(2, none)], c63, false⟩
theorem tr63 : trFn Try.prog false Try.f63 = some g63 := by kernel_rfl
/- hornbeam/term.Size$1 -/
def c64r0 : List AOper := [
  ⟨some 3, (.box (some 4)), [.t 0], none⟩]
def c64r1 : List AOper := [
  ⟨some 5, (.load none), [.t 1], none⟩,
  ⟨some 6, (.bin .sub), [.t 5, .c (.pv none (.int .i64 (1)))], none⟩,
  ⟨none, (.store none), [.t 1, .t 6], none⟩]
def c64r2 : List AOper := [
  ⟨some 4, .mv, [.c (.pv none (.int .i64 (0)))], none⟩]
def c64r3 : List AOper := [
  ⟨some 7, .mv, [.t 4], none⟩,
  ⟨some 8, (.faddr 3), [.t 3], none⟩,
  ⟨some 9, (.load none), [.t 8], none⟩,
  ⟨some 10, .len, [.t 9], none⟩,
  ⟨some 11, (.bin .lss), [.t 7, .t 10], none⟩,
  ⟨some 12, .mv, [.t 11], none⟩,
  ⟨some 13, (.load none), [.t 1], some (12, true)⟩,
  ⟨some 14, (.bin .gtr), [.t 13, .c (.pv none (.int .i64 (0)))], some (12, true)⟩,
  ⟨some 15, .pick, [.t 12, .t 14, .c (.pv none (.bool false))], none⟩]
def c64k4 : ACode := (.cond (.t 15) .skip (.exit 0))
def c64r5 : List AOper := [
  ⟨some 18, (.load none), [.t 2], none⟩,
  ⟨some 19, (.faddr 3), [.t 3], none⟩,
  ⟨some 20, (.load none), [.t 19], none⟩,
  ⟨some 21, .mv, [.t 4], none⟩,
  ⟨some 22, (.iaddr (some 4)), [.t 20, .t 21], none⟩,
  ⟨some 23, (.load (some 4)), [.t 22], none⟩,
  ⟨some 24, .call, [.t 18, .t 23], none⟩]
def c64k6 : ACode := (.block 1 (.region true c64r5 [1, 2, 3, 4]))
def c64r7 : List AOper := [
  ⟨some 16, .mv, [.t 4], none⟩,
  ⟨some 17, (.bin .add), [.t 16, .c (.pv none (.int .i64 (1)))], none⟩,
  ⟨some 4, .mv, [.t 17], none⟩]
def c64b8 : ACode := (.seq (.seq (.region true c64r3 [1, 2, 3, 4, 15]) c64k4) (.seq c64k6 (.region true c64r7 [1, 2, 3, 4])))
def c64k9 : ACode := (.block 0 (.loop [1, 2, 3, 4] c64b8))
def c64 : ACode := (.seq (.region true c64r0 [1, 2, 3]) (.seq (.region true c64r1 [1, 2, 3]) (.seq (.region true c64r2 [1, 2, 3, 4]) c64k9)))
def g64 : AFn := ⟨3, [], c64, true⟩
theorem tr64 : trFn Try.prog true Try.f64 = some g64 := by kernel_rfl
/- cmp.isNaN[int] -/
def c65r0 : List AOper := [
  ⟨some 2, .mv, [.c (.pv none (.bool false))], none⟩]
def c65r1 : List AOper := [
  ⟨some 3, .mv, [.t 0], none⟩,
  ⟨some 4, .mv, [.t 0], none⟩,
  ⟨some 5, (.bin .neq), [.t 3, .t 4], none⟩,
  ⟨some 2, .mv, [.t 5], none⟩]
def c65 : ACode := (.seq (.region true c65r0 [0]) (.seq (.region true c65r1 [2]) .ret))
def g65 : AFn := ⟨1, [(2, none)], c65, false⟩
theorem tr65 : trFn Try.prog false Try.f65 = some g65 := by kernel_rfl
/- cmp.isNaN[int64] -/
def c66r0 : List AOper := [
  ⟨some 2, .mv, [.c (.pv none (.bool false))], none⟩]
def c66r1 : List AOper := [
  ⟨some 3, .mv, [.t 0], none⟩,
  ⟨some 4, .mv, [.t 0], none⟩,
  ⟨some 5, (.bin .neq), [.t 3, .t 4], none⟩,
  ⟨some 2, .mv, [.t 5], none⟩]
def c66 : ACode := (.seq (.region true c66r0 [0]) (.seq (.region true c66r1 [2]) .ret))
def g66 : AFn := ⟨1, [(2, none)], c66, false⟩
theorem tr66 : trFn Try.prog false Try.f66 = some g66 := by kernel_rfl
/- internal/bytealg.CompareString -/
def c67r0 : List AOper := [
  ⟨some 4, .mv, [.c (.pv none (.int .i64 (0)))], none⟩]
def c67r1 : List AOper := [
  ⟨some 5, .mv, [.t 0], none⟩,
  ⟨some 6, .mv, [.t 1], none⟩,
  ⟨some 7, .call, [.c (.pv none (.func (.func 71))), .t 5, .t 6], none⟩,
  ⟨some 4, .mv, [.t 7], none⟩]
def c67 : ACode := (.seq (.region true c67r0 [0, 1]) (.seq (.region true c67r1 [4]) .ret))
def g67 : AFn := ⟨2, [(4, none)], c67, false⟩
theorem tr67 : trFn Try.prog false Try.f67 = some g67 := by kernel_rfl
/- hornbeam/term.apply -/
def c68r0 : List AOper := [
  ⟨some 2, (.box (some 4)), [.t 0], none⟩,
  ⟨some 4, (.alloc (some 4) (.agg [(none, (.pv none (.int .i64 (0)))), (none, (.pv none (.int .i64 (0)))), (none, (.pv none (.str []))), (none, (.tsl (some 4) []))])), [], none⟩]
def c68r1 : List AOper := [
  ⟨some 8, (.faddr 0), [.t 2], none⟩,
  ⟨some 9, (.load none), [.t 8], none⟩,
  ⟨some 10, (.bin .eql), [.t 9, .c (.pv none (.int .i64 (0)))], none⟩]
def c68r2 : List AOper := [
  ⟨some 11, .mv, [.t 1], none⟩,
  ⟨some 12, (.load (some 4)), [.t 2], none⟩,
  ⟨some 13, .call, [.t 11, .t 12], none⟩,
  ⟨none, (.store (some 4)), [.t 4, .t 13], none⟩]
def c68k3 : ACode := (.cond (.t 10) (.seq (.region true c68r2 [4]) .ret) .skip)
def c68r4 : List AOper := [
  ⟨some 14, (.faddr 0), [.t 2], none⟩,
  ⟨some 15, (.load none), [.t 14], none⟩,
  ⟨some 16, (.faddr 1), [.t 2], none⟩,
  ⟨some 17, (.load none), [.t 16], none⟩,
  ⟨some 18, (.faddr 2), [.t 2], none⟩,
  ⟨some 19, (.load none), [.t 18], none⟩,
  ⟨some 20, (.build [(none, (.pv none (.int .i64 (0)))), (none, (.pv none (.int .i64 (0)))), (none, (.pv none (.str []))), (none, (.tsl (some 4) []))] [0, 1, 2]), [.t 15, .t 17, .t 19], none⟩,
  ⟨some 5, (.alloc (some 4) (.agg [(none, (.pv none (.int .i64 (0)))), (none, (.pv none (.int .i64 (0)))), (none, (.pv none (.str []))), (none, (.tsl (some 4) []))])), [], none⟩,
  ⟨none, (.store (some 4)), [.t 5, .t 20], none⟩]
def c68r5 : List AOper := [
  ⟨some 21, (.faddr 3), [.t 2], none⟩,
  ⟨some 22, (.load none), [.t 21], none⟩,
  ⟨some 23, .len, [.t 22], none⟩,
  ⟨some 24, .mv, [.c (.pv none (.int .i64 (0)))], none⟩]
def c68r6 : List AOper := [
  ⟨some 25, (.bin .lss), [.t 24, .t 23], none⟩]
def c68k7 : ACode := (.cond (.t 25) .skip (.exit 0))
def c68r8 : List AOper := [
  ⟨some 26, (.iaddr (some 4)), [.t 22, .t 24], none⟩,
  ⟨some 27, (.load (some 4)), [.t 26], none⟩,
  ⟨some 7, (.alloc (some 4) (.agg [(none, (.pv none (.int .i64 (0)))), (none, (.pv none (.int .i64 (0)))), (none, (.pv none (.str []))), (none, (.tsl (some 4) []))])), [], none⟩,
  ⟨none, (.store (some 4)), [.t 7, .t 27], none⟩]
def c68r9 : List AOper := [
  ⟨some 28, (.faddr 3), [.t 5], none⟩,
  ⟨some 29, (.load none), [.t 28], none⟩,
  ⟨some 30, (.load (some 4)), [.t 7], none⟩,
  ⟨some 31, .mv, [.t 1], none⟩,
  ⟨some 32, .callp, [.c (.pv none (.func (.func 68))), .t 30, .t 31], none⟩,
  ⟨some 33, (.bslicep (some 4)), [.t 32], none⟩,
  ⟨some 34, (.append (some 4)), [.t 29, .t 33], none⟩,
  ⟨some 35, (.faddr 3), [.t 5], none⟩,
  ⟨none, (.store none), [.t 35, .t 34], none⟩]
def c68k10 : ACode := (.block 1 (.seq (.region true c68r8 [1, 4, 5, 7, 22, 23, 24]) (.seq (.settle [1, 7]) (.region true c68r9 [1, 4, 5, 22, 23, 24]))))
def c68r11 : List AOper := [
  ⟨some 36, (.bin .add), [.t 24, .c (.pv none (.int .i64 (1)))], none⟩,
  ⟨some 24, .mv, [.t 36], none⟩]
def c68b12 : ACode := (.seq (.region true c68r6 [1, 4, 5, 22, 23, 24, 25]) (.seq c68k7 (.seq c68k10 (.region true c68r11 [1, 4, 5, 22, 23, 24]))))
def c68k13 : ACode := (.block 0 (.loop [1, 4, 5, 22, 23, 24] c68b12))
def c68r14 : List AOper := [
  ⟨some 37, (.load (some 4)), [.t 5], none⟩,
  ⟨none, (.store (some 4)), [.t 4, .t 37], none⟩]
def c68 : ACode := (.seq (.region true c68r0 [1, 2, 4]) (.seq (.seq (.region true c68r1 [1, 2, 4, 10]) c68k3) (.seq (.region true c68r4 [1, 2, 4, 5]) (.seq (.seq (.region true c68r5 [1, 4, 5, 22, 23, 24]) c68k13) (.seq (.region true c68r14 [4]) .ret)))))
def g68 : AFn := ⟨2, [(4, some (some 4))], c68, false⟩
theorem tr68 : trFn Try.prog false Try.f68 = some g68 := by kernel_rfl
/- hornbeam/term.Clone$1 -/
def c69r0 : List AOper := [
  ⟨some 1, (.box (some 4)), [.t 0], none⟩,
  ⟨some 2, (.alloc (some 4) (.agg [(none, (.pv none (.int .i64 (0)))), (none, (.pv none (.int .i64 (0)))), (none, (.pv none (.str []))), (none, (.tsl (some 4) []))])), [], none⟩]
def c69r1 : List AOper := [
  ⟨some 3, (.load (some 4)), [.t 1], none⟩,
  ⟨none, (.store (some 4)), [.t 2, .t 3], none⟩]
def c69 : ACode := (.seq (.region true c69r0 [1, 2]) (.seq (.region true c69r1 [2]) .ret))
def g69 : AFn := ⟨1, [(2, some (some 4))], c69, false⟩
theorem tr69 : trFn Try.prog false Try.f69 = some g69 := by kernel_rfl
/- slices.stableCmpFunc[hornbeam/api.Term] -/
def c70r0 : List AOper := [
  ⟨some 6, .mv, [.c (.pv none (.int .i64 (20)))], none⟩]
def c70r1 : List AOper := [
  ⟨some 10, .mv, [.t 6], none⟩,
  ⟨some 7, .mv, [.c (.pv none (.int .i64 (0)))], none⟩,
  ⟨some 8, .mv, [.t 10], none⟩]
def c70r2 : List AOper := [
  ⟨some 11, .mv, [.t 8], none⟩,
  ⟨some 12, .mv, [.t 1], none⟩,
  ⟨some 13, (.bin .leq), [.t 11, .t 12], none⟩]
def c70k3 : ACode := (.cond (.t 13) .skip (.exit 0))
def c70r4 : List AOper := [
  ⟨some 14, .mv, [.t 0], none⟩,
  ⟨some 15, .mv, [.t 7], none⟩,
  ⟨some 16, .mv, [.t 8], none⟩,
  ⟨some 17, .mv, [.t 2], none⟩,
  ⟨some 18, .call, [.c (.pv none (.func (.func 72))), .t 14, .t 15, .t 16, .t 17], none⟩]
def c70r5 : List AOper := [
  ⟨some 19, .mv, [.t 8], none⟩,
  ⟨some 7, .mv, [.t 19], none⟩]
def c70r6 : List AOper := [
  ⟨some 20, .mv, [.t 8], none⟩,
  ⟨some 21, .mv, [.t 6], none⟩,
  ⟨some 22, (.bin .add), [.t 20, .t 21], none⟩,
  ⟨some 8, .mv, [.t 22], none⟩]
def c70k7 : ACode := (.block 1 (.seq (.region true c70r4 [0, 1, 2, 6, 8]) (.seq (.region true c70r5 [0, 1, 2, 6, 7, 8]) (.region true c70r6 [0, 1, 2, 6, 7, 8]))))
def c70b8 : ACode := (.seq (.seq (.region true c70r2 [0, 1, 2, 6, 7, 8, 13]) c70k3) c70k7)
def c70k9 : ACode := (.block 0 (.loop [0, 1, 2, 6, 7, 8] c70b8))
def c70r10 : List AOper := [
  ⟨some 23, .mv, [.t 0], none⟩,
  ⟨some 24, .mv, [.t 7], none⟩,
  ⟨some 25, .mv, [.t 1], none⟩,
  ⟨some 26, .mv, [.t 2], none⟩,
  ⟨some 27, .call, [.c (.pv none (.func (.func 72))), .t 23, .t 24, .t 25, .t 26], none⟩]
def c70r11 : List AOper := [
  ⟨some 28, .mv, [.t 6], none⟩,
  ⟨some 29, .mv, [.t 1], none⟩,
  ⟨some 30, (.bin .lss), [.t 28, .t 29], none⟩]
def c70k12 : ACode := (.cond (.t 30) .skip (.exit 2))
def c70r13 : List AOper := [
  ⟨some 31, .mv, [.t 6], none⟩,
  ⟨some 32, (.bin .mul), [.c (.pv none (.int .i64 (2))), .t 31], none⟩,
  ⟨some 7, .mv, [.c (.pv none (.int .i64 (0)))], none⟩,
  ⟨some 8, .mv, [.t 32], none⟩]
def c70r14 : List AOper := [
  ⟨some 33, .mv, [.t 8], none⟩,
  ⟨some 34, .mv, [.t 1], none⟩,
  ⟨some 35, (.bin .leq), [.t 33, .t 34], none⟩]
def c70k15 : ACode := (.cond (.t 35) .skip (.exit 4))
def c70r16 : List AOper := [
  ⟨some 36, .mv, [.t 0], none⟩,
  ⟨some 37, .mv, [.t 7], none⟩,
  ⟨some 38, .mv, [.t 7], none⟩,
  ⟨some 39, .mv, [.t 6], none⟩,
  ⟨some 40, (.bin .add), [.t 38, .t 39], none⟩,
  ⟨some 41, .mv, [.t 8], none⟩,
  ⟨some 42, .mv, [.t 2], none⟩,
  ⟨some 43, .call, [.c (.pv none (.func (.func 73))), .t 36, .t 37, .t 40, .t 41, .t 42], none⟩]
def c70r17 : List AOper := [
  ⟨some 44, .mv, [.t 8], none⟩,
  ⟨some 7, .mv, [.t 44], none⟩]
def c70r18 : List AOper := [
  ⟨some 45, .mv, [.t 8], none⟩,
  ⟨some 46, .mv, [.t 6], none⟩,
  ⟨some 47, (.bin .mul), [.c (.pv none (.int .i64 (2))), .t 46], none⟩,
  ⟨some 48, (.bin .add), [.t 45, .t 47], none⟩,
  ⟨some 8, .mv, [.t 48], none⟩]
def c70k19 : ACode := (.block 5 (.seq (.region true c70r16 [0, 1, 2, 6, 8]) (.seq (.region true c70r17 [0, 1, 2, 6, 7, 8]) (.region true c70r18 [0, 1, 2, 6, 7, 8]))))
def c70b20 : ACode := (.seq (.seq (.region true c70r14 [0, 1, 2, 6, 7, 8, 35]) c70k15) c70k19)
def c70k21 : ACode := (.block 4 (.loop [0, 1, 2, 6, 7, 8] c70b20))
def c70r22 : List AOper := [
  ⟨some 49, .mv, [.t 7], none⟩,
  ⟨some 50, .mv, [.t 6], none⟩,
  ⟨some 51, (.bin .add), [.t 49, .t 50], none⟩,
  ⟨some 9, .mv, [.t 51], none⟩]
def c70r23 : List AOper := [
  ⟨some 52, .mv, [.t 9], none⟩,
  ⟨some 53, .mv, [.t 1], none⟩,
  ⟨some 54, (.bin .lss), [.t 52, .t 53], none⟩]
def c70r24 : List AOper := [
  ⟨some 55, .mv, [.t 0], none⟩,
  ⟨some 56, .mv, [.t 7], none⟩,
  ⟨some 57, .mv, [.t 9], none⟩,
  ⟨some 58, .mv, [.t 1], none⟩,
  ⟨some 59, .mv, [.t 2], none⟩,
  ⟨some 60, .call, [.c (.pv none (.func (.func 73))), .t 55, .t 56, .t 57, .t 58, .t 59], none⟩]
def c70k25 : ACode := (.cond (.t 54) (.region true c70r24 [0, 1, 2, 6]) .skip)
def c70r26 : List AOper := [
  ⟨some 61, .mv, [.t 6], none⟩,
  ⟨some 62, (.bin .mul), [.t 61, .c (.pv none (.int .i64 (2)))], none⟩,
  ⟨some 6, .mv, [.t 62], none⟩]
def c70k27 : ACode := (.block 3 (.seq (.region true c70r13 [0, 1, 2, 6, 7, 8]) (.seq c70k21 (.seq (.seq (.region true c70r22 [0, 1, 2, 6, 7, 9]) (.seq (.region true c70r23 [0, 1, 2, 6, 7, 9, 54]) c70k25)) (.region true c70r26 [0, 1, 2, 6])))))
def c70b28 : ACode := (.seq (.seq (.region true c70r11 [0, 1, 2, 6, 30]) c70k12) c70k27)
def c70k29 : ACode := (.block 2 (.loop [0, 1, 2, 6] c70b28))
def c70 : ACode := (.seq (.region true c70r0 [0, 1, 2, 6]) (.seq (.region true c70r1 [0, 1, 2, 6, 7, 8]) (.seq c70k9 (.seq (.region true c70r10 [0, 1, 2, 6]) c70k29))))
def g70 : AFn := ⟨3, [], c70, true⟩
theorem tr70 : trFn Try.prog true Try.f70 = some g70 := by kernel_rfl
/- slices.insertionSortCmpFunc[hornbeam/api.Term] -/
def c72r0 : List AOper := [
  ⟨some 10, .mv, [.t 1], none⟩,
  ⟨some 11, (.bin .add), [.t 10, .c (.pv none (.int .i64 (1)))], none⟩,
  ⟨some 8, .mv, [.t 11], none⟩]
def c72r1 : List AOper := [
  ⟨some 12, .mv, [.t 8], none⟩,
  ⟨some 13, .mv, [.t 2], none⟩,
  ⟨some 14, (.bin .lss), [.t 12, .t 13], none⟩]
def c72k2 : ACode := (.cond (.t 14) .skip (.exit 0))
def c72r3 : List AOper := [
  ⟨some 17, .mv, [.t 8], none⟩,
  ⟨some 9, .mv, [.t 17], none⟩]
def c72r4 : List AOper := [
  ⟨some 18, .mv, [.t 9], none⟩,
  ⟨some 19, .mv, [.t 1], none⟩,
  ⟨some 20, (.bin .gtr), [.t 18, .t 19], none⟩,
  ⟨some 21, .mv, [.t 20], none⟩,
  ⟨some 22, .mv, [.t 3], some (21, true)⟩,
  ⟨some 23, .mv, [.t 0], some (21, true)⟩,
  ⟨some 24, .mv, [.t 9], some (21, true)⟩,
  ⟨some 25, (.iaddr (some 4)), [.t 23, .t 24], some (21, true)⟩,
  ⟨some 26, (.load (some 4)), [.t 25], some (21, true)⟩,
  ⟨some 27, .mv, [.t 0], some (21, true)⟩,
  ⟨some 28, .mv, [.t 9], some (21, true)⟩,
  ⟨some 29, (.bin .sub), [.t 28, .c (.pv none (.int .i64 (1)))], some (21, true)⟩,
  ⟨some 30, (.iaddr (some 4)), [.t 27, .t 29], some (21, true)⟩,
  ⟨some 31, (.load (some 4)), [.t 30], some (21, true)⟩,
  ⟨some 32, .call, [.t 22, .t 26, .t 31], some (21, true)⟩,
  ⟨some 33, (.bin .lss), [.t 32, .c (.pv none (.int .i64 (0)))], some (21, true)⟩,
  ⟨some 34, .pick, [.t 21, .t 33, .c (.pv none (.bool false))], none⟩]
def c72k5 : ACode := (.cond (.t 34) .skip (.exit 2))
def c72r6 : List AOper := [
  ⟨some 37, .mv, [.t 0], none⟩,
  ⟨some 38, .mv, [.t 9], none⟩,
  ⟨some 39, .mv, [.t 0], none⟩,
  ⟨some 40, .mv, [.t 9], none⟩,
  ⟨some 41, (.bin .sub), [.t 40, .c (.pv none (.int .i64 (1)))], none⟩,
  ⟨some 42, .mv, [.t 0], none⟩,
  ⟨some 43, .mv, [.t 9], none⟩,
  ⟨some 44, (.bin .sub), [.t 43, .c (.pv none (.int .i64 (1)))], none⟩,
  ⟨some 45, (.iaddr (some 4)), [.t 42, .t 44], none⟩,
  ⟨some 46, (.load (some 4)), [.t 45], none⟩,
  ⟨some 47, .mv, [.t 0], none⟩,
  ⟨some 48, .mv, [.t 9], none⟩,
  ⟨some 49, (.iaddr (some 4)), [.t 47, .t 48], none⟩,
  ⟨some 50, (.load (some 4)), [.t 49], none⟩,
  ⟨some 51, (.iaddr (some 4)), [.t 37, .t 38], none⟩,
  ⟨none, (.store (some 4)), [.t 51, .t 46], none⟩,
  ⟨some 52, (.iaddr (some 4)), [.t 39, .t 41], none⟩,
  ⟨none, (.store (some 4)), [.t 52, .t 50], none⟩]
def c72k7 : ACode := (.block 3 (.region true c72r6 [0, 1, 2, 3, 8, 9]))
def c72r8 : List AOper := [
  ⟨some 35, .mv, [.t 9], none⟩,
  ⟨some 36, (.bin .sub), [.t 35, .c (.pv none (.int .i64 (1)))], none⟩,
  ⟨some 9, .mv, [.t 36], none⟩]
def c72b9 : ACode := (.seq (.seq (.region true c72r4 [0, 1, 2, 3, 8, 9, 34]) c72k5) (.seq c72k7 (.region true c72r8 [0, 1, 2, 3, 8, 9])))
def c72k10 : ACode := (.block 2 (.loop [0, 1, 2, 3, 8, 9] c72b9))
def c72k11 : ACode := (.block 1 (.seq (.region true c72r3 [0, 1, 2, 3, 8, 9]) c72k10))
def c72r12 : List AOper := [
  ⟨some 15, .mv, [.t 8], none⟩,
  ⟨some 16, (.bin .add), [.t 15, .c (.pv none (.int .i64 (1)))], none⟩,
  ⟨some 8, .mv, [.t 16], none⟩]
def c72b13 : ACode := (.seq (.seq (.region true c72r1 [0, 1, 2, 3, 8, 14]) c72k2) (.seq c72k11 (.region true c72r12 [0, 1, 2, 3, 8])))
def c72k14 : ACode := (.block 0 (.loop [0, 1, 2, 3, 8] c72b13))
def c72 : ACode := (.seq (.region true c72r0 [0, 1, 2, 3, 8]) c72k14)
def g72 : AFn := ⟨4, [], c72, true⟩
theorem tr72 : trFn Try.prog true Try.f72 = some g72 := by kernel_rfl
/- slices.symMergeCmpFunc[hornbeam/api.Term] -/
def c73r0 : List AOper := [
  ⟨some 25, .mv, [.t 2], none⟩,
  ⟨some 26, .mv, [.t 1], none⟩,
  ⟨some 27, (.bin .sub), [.t 25, .t 26], none⟩,
  ⟨some 28, (.bin .eql), [.t 27, .c (.pv none (.int .i64 (1)))], none⟩]
def c73r1 : List AOper := [
  ⟨some 29, .mv, [.t 2], none⟩,
  ⟨some 10, .mv, [.t 29], none⟩]
def c73r2 : List AOper := [
  ⟨some 30, .mv, [.t 3], none⟩,
  ⟨some 11, .mv, [.t 30], none⟩]
def c73r3 : List AOper := [
  ⟨some 31, .mv, [.t 10], none⟩,
  ⟨some 32, .mv, [.t 11], none⟩,
  ⟨some 33, (.bin .lss), [.t 31, .t 32], none⟩]
def c73k4 : ACode := (.cond (.t 33) .skip (.exit 0))
def c73r5 : List AOper := [
  ⟨some 34, .mv, [.t 10], none⟩,
  ⟨some 35, .mv, [.t 11], none⟩,
  ⟨some 36, (.bin .add), [.t 34, .t 35], none⟩,
  ⟨some 37, (.conv .u64), [.t 36], none⟩,
  ⟨some 38, (.bin .shr), [.t 37, .c (.pv none (.int .u64 (1)))], none⟩,
  ⟨some 39, (.conv .i64), [.t 38], none⟩,
  ⟨some 12, .mv, [.t 39], none⟩]
def c73r6 : List AOper := [
  ⟨some 40, .mv, [.t 4], none⟩,
  ⟨some 41, .mv, [.t 0], none⟩,
  ⟨some 42, .mv, [.t 12], none⟩,
  ⟨some 43, (.iaddr (some 4)), [.t 41, .t 42], none⟩,
  ⟨some 44, (.load (some 4)), [.t 43], none⟩,
  ⟨some 45, .mv, [.t 0], none⟩,
  ⟨some 46, .mv, [.t 1], none⟩,
  ⟨some 47, (.iaddr (some 4)), [.t 45, .t 46], none⟩,
  ⟨some 48, (.load (some 4)), [.t 47], none⟩,
  ⟨some 49, .call, [.t 40, .t 44, .t 48], none⟩,
  ⟨some 50, (.bin .lss), [.t 49, .c (.pv none (.int .i64 (0)))], none⟩]
def c73r7 : List AOper := [
  ⟨some 51, .mv, [.t 12], none⟩,
  ⟨some 52, (.bin .add), [.t 51, .c (.pv none (.int .i64 (1)))], none⟩,
  ⟨some 10, .mv, [.t 52], none⟩]
def c73r8 : List AOper := [
  ⟨some 53, .mv, [.t 12], none⟩,
  ⟨some 11, .mv, [.t 53], none⟩]
def c73k9 : ACode := (.cond (.t 50) (.region true c73r7 [0, 1, 4, 10, 11]) (.region true c73r8 [0, 1, 4, 10, 11]))
def c73k10 : ACode := (.block 1 (.seq (.region true c73r5 [0, 1, 4, 10, 11, 12]) (.seq (.region true c73r6 [0, 1, 4, 10, 11, 12, 50]) c73k9)))
def c73b11 : ACode := (.seq (.seq (.region true c73r3 [0, 1, 4, 10, 11, 33]) c73k4) c73k10)
def c73k12 : ACode := (.block 0 (.loop [0, 1, 4, 10, 11] c73b11))
def c73r13 : List AOper := [
  ⟨some 54, .mv, [.t 1], none⟩,
  ⟨some 13, .mv, [.t 54], none⟩]
def c73r14 : List AOper := [
  ⟨some 55, .mv, [.t 13], none⟩,
  ⟨some 56, .mv, [.t 10], none⟩,
  ⟨some 57, (.bin .sub), [.t 56, .c (.pv none (.int .i64 (1)))], none⟩,
  ⟨some 58, (.bin .lss), [.t 55, .t 57], none⟩]
def c73k15 : ACode := (.cond (.t 58) .skip (.exit 2))
def c73r16 : List AOper := [
  ⟨some 61, .mv, [.t 0], none⟩,
  ⟨some 62, .mv, [.t 13], none⟩,
  ⟨some 63, .mv, [.t 0], none⟩,
  ⟨some 64, .mv, [.t 13], none⟩,
  ⟨some 65, (.bin .add), [.t 64, .c (.pv none (.int .i64 (1)))], none⟩,
  ⟨some 66, .mv, [.t 0], none⟩,
  ⟨some 67, .mv, [.t 13], none⟩,
  ⟨some 68, (.bin .add), [.t 67, .c (.pv none (.int .i64 (1)))], none⟩,
  ⟨some 69, (.iaddr (some 4)), [.t 66, .t 68], none⟩,
  ⟨some 70, (.load (some 4)), [.t 69], none⟩,
  ⟨some 71, .mv, [.t 0], none⟩,
  ⟨some 72, .mv, [.t 13], none⟩,
  ⟨some 73, (.iaddr (some 4)), [.t 71, .t 72], none⟩,
  ⟨some 74, (.load (some 4)), [.t 73], none⟩,
  ⟨some 75, (.iaddr (some 4)), [.t 61, .t 62], none⟩,
  ⟨none, (.store (some 4)), [.t 75, .t 70], none⟩,
  ⟨some 76, (.iaddr (some 4)), [.t 63, .t 65], none⟩,
  ⟨none, (.store (some 4)), [.t 76, .t 74], none⟩]
def c73k17 : ACode := (.block 3 (.region true c73r16 [0, 10, 13]))
def c73r18 : List AOper := [
  ⟨some 59, .mv, [.t 13], none⟩,
  ⟨some 60, (.bin .add), [.t 59, .c (.pv none (.int .i64 (1)))], none⟩,
  ⟨some 13, .mv, [.t 60], none⟩]
def c73b19 : ACode := (.seq (.seq (.region true c73r14 [0, 10, 13, 58]) c73k15) (.seq c73k17 (.region true c73r18 [0, 10, 13])))
def c73k20 : ACode := (.block 2 (.loop [0, 10, 13] c73b19))
def c73k21 : ACode := (.cond (.t 28) (.seq (.region true c73r1 [0, 1, 3, 4, 10]) (.seq (.region true c73r2 [0, 1, 4, 10, 11]) (.seq c73k12 (.seq (.seq (.region true c73r13 [0, 10, 13]) c73k20) .ret)))) .skip)
def c73r22 : List AOper := [
  ⟨some 77, .mv, [.t 3], none⟩,
  ⟨some 78, .mv, [.t 2], none⟩,
  ⟨some 79, (.bin .sub), [.t 77, .t 78], none⟩,
  ⟨some 80, (.bin .eql), [.t 79, .c (.pv none (.int .i64 (1)))], none⟩]
def c73r23 : List AOper := [
  ⟨some 81, .mv, [.t 1], none⟩,
  ⟨some 14, .mv, [.t 81], none⟩]
def c73r24 : List AOper := [
  ⟨some 82, .mv, [.t 2], none⟩,
  ⟨some 15, .mv, [.t 82], none⟩]
def c73r25 : List AOper := [
  ⟨some 83, .mv, [.t 14], none⟩,
  ⟨some 84, .mv, [.t 15], none⟩,
  ⟨some 85, (.bin .lss), [.t 83, .t 84], none⟩]
def c73k26 : ACode := (.cond (.t 85) .skip (.exit 4))
def c73r27 : List AOper := [
  ⟨some 86, .mv, [.t 14], none⟩,
  ⟨some 87, .mv, [.t 15], none⟩,
  ⟨some 88, (.bin .add), [.t 86, .t 87], none⟩,
  ⟨some 89, (.conv .u64), [.t 88], none⟩,
  ⟨some 90, (.bin .shr), [.t 89, .c (.pv none (.int .u64 (1)))], none⟩,
  ⟨some 91, (.conv .i64), [.t 90], none⟩,
  ⟨some 16, .mv, [.t 91], none⟩]
def c73r28 : List AOper := [
  ⟨some 92, .mv, [.t 4], none⟩,
  ⟨some 93, .mv, [.t 0], none⟩,
  ⟨some 94, .mv, [.t 2], none⟩,
  ⟨some 95, (.iaddr (some 4)), [.t 93, .t 94], none⟩,
  ⟨some 96, (.load (some 4)), [.t 95], none⟩,
  ⟨some 97, .mv, [.t 0], none⟩,
  ⟨some 98, .mv, [.t 16], none⟩,
  ⟨some 99, (.iaddr (some 4)), [.t 97, .t 98], none⟩,
  ⟨some 100, (.load (some 4)), [.t 99], none⟩,
  ⟨some 101, .call, [.t 92, .t 96, .t 100], none⟩,
  ⟨some 102, (.bin .lss), [.t 101, .c (.pv none (.int .i64 (0)))], none⟩,
  ⟨some 103, .not, [.t 102], none⟩]
def c73r29 : List AOper := [
  ⟨some 104, .mv, [.t 16], none⟩,
  ⟨some 105, (.bin .add), [.t 104, .c (.pv none (.int .i64 (1)))], none⟩,
  ⟨some 14, .mv, [.t 105], none⟩]
def c73r30 : List AOper := [
  ⟨some 106, .mv, [.t 16], none⟩,
  ⟨some 15, .mv, [.t 106], none⟩]
def c73k31 : ACode := (.cond (.t 103) (.region true c73r29 [0, 2, 4, 14, 15]) (.region true c73r30 [0, 2, 4, 14, 15]))
def c73k32 : ACode := (.block 5 (.seq (.region true c73r27 [0, 2, 4, 14, 15, 16]) (.seq (.region true c73r28 [0, 2, 4, 14, 15, 16, 103]) c73k31)))
def c73b33 : ACode := (.seq (.seq (.region true c73r25 [0, 2, 4, 14, 15, 85]) c73k26) c73k32)
def c73k34 : ACode := (.block 4 (.loop [0, 2, 4, 14, 15] c73b33))
def c73r35 : List AOper := [
  ⟨some 107, .mv, [.t 2], none⟩,
  ⟨some 17, .mv, [.t 107], none⟩]
def c73r36 : List AOper := [
  ⟨some 108, .mv, [.t 17], none⟩,
  ⟨some 109, .mv, [.t 14], none⟩,
  ⟨some 110, (.bin .gtr), [.t 108, .t 109], none⟩]
def c73k37 : ACode := (.cond (.t 110) .skip (.exit 6))
def c73r38 : List AOper := [
  ⟨some 113, .mv, [.t 0], none⟩,
  ⟨some 114, .mv, [.t 17], none⟩,
  ⟨some 115, .mv, [.t 0], none⟩,
  ⟨some 116, .mv, [.t 17], none⟩,
  ⟨some 117, (.bin .sub), [.t 116, .c (.pv none (.int .i64 (1)))], none⟩,
  ⟨some 118, .mv, [.t 0], none⟩,
  ⟨some 119, .mv, [.t 17], none⟩,
  ⟨some 120, (.bin .sub), [.t 119, .c (.pv none (.int .i64 (1)))], none⟩,
  ⟨some 121, (.iaddr (some 4)), [.t 118, .t 120], none⟩,
  ⟨some 122, (.load (some 4)), [.t 121], none⟩,
  ⟨some 123, .mv, [.t 0], none⟩,
  ⟨some 124, .mv, [.t 17], none⟩,
  ⟨some 125, (.iaddr (some 4)), [.t 123, .t 124], none⟩,
  ⟨some 126, (.load (some 4)), [.t 125], none⟩,
  ⟨some 127, (.iaddr (some 4)), [.t 113, .t 114], none⟩,
  ⟨none, (.store (some 4)), [.t 127, .t 122], none⟩,
  ⟨some 128, (.iaddr (some 4)), [.t 115, .t 117], none⟩,
  ⟨none, (.store (some 4)), [.t 128, .t 126], none⟩]
def c73k39 : ACode := (.block 7 (.region true c73r38 [0, 14, 17]))
def c73r40 : List AOper := [
  ⟨some 111, .mv, [.t 17], none⟩,
  ⟨some 112, (.bin .sub), [.t 111, .c (.pv none (.int .i64 (1)))], none⟩,
  ⟨some 17, .mv, [.t 112], none⟩]
def c73b41 : ACode := (.seq (.seq (.region true c73r36 [0, 14, 17, 110]) c73k37) (.seq c73k39 (.region true c73r40 [0, 14, 17])))
def c73k42 : ACode := (.block 6 (.loop [0, 14, 17] c73b41))
def c73k43 : ACode := (.cond (.t 80) (.seq (.region true c73r23 [0, 2, 4, 14]) (.seq (.region true c73r24 [0, 2, 4, 14, 15]) (.seq c73k34 (.seq (.seq (.region true c73r35 [0, 14, 17]) c73k42) .ret)))) .skip)
def c73r44 : List AOper := [
  ⟨some 129, .mv, [.t 1], none⟩,
  ⟨some 130, .mv, [.t 3], none⟩,
  ⟨some 131, (.bin .add), [.t 129, .t 130], none⟩,
  ⟨some 132, (.conv .u64), [.t 131], none⟩,
  ⟨some 133, (.bin .shr), [.t 132, .c (.pv none (.int .u64 (1)))], none⟩,
  ⟨some 134, (.conv .i64), [.t 133], none⟩,
  ⟨some 18, .mv, [.t 134], none⟩]
def c73r45 : List AOper := [
  ⟨some 135, .mv, [.t 18], none⟩,
  ⟨some 136, .mv, [.t 2], none⟩,
  ⟨some 137, (.bin .add), [.t 135, .t 136], none⟩,
  ⟨some 19, .mv, [.t 137], none⟩]
def c73r46 : List AOper := [
  ⟨some 20, .mv, [.c (.pv none (.int .i64 (0)))], none⟩,
  ⟨some 21, .mv, [.c (.pv none (.int .i64 (0)))], none⟩]
def c73r47 : List AOper := [
  ⟨some 138, .mv, [.t 2], none⟩,
  ⟨some 139, .mv, [.t 18], none⟩,
  ⟨some 140, (.bin .gtr), [.t 138, .t 139], none⟩]
def c73r48 : List AOper := [
  ⟨some 141, .mv, [.t 19], none⟩,
  ⟨some 142, .mv, [.t 3], none⟩,
  ⟨some 143, (.bin .sub), [.t 141, .t 142], none⟩,
  ⟨some 20, .mv, [.t 143], none⟩]
def c73r49 : List AOper := [
  ⟨some 144, .mv, [.t 18], none⟩,
  ⟨some 21, .mv, [.t 144], none⟩]
def c73r50 : List AOper := [
  ⟨some 145, .mv, [.t 1], none⟩,
  ⟨some 20, .mv, [.t 145], none⟩]
def c73r51 : List AOper := [
  ⟨some 146, .mv, [.t 2], none⟩,
  ⟨some 21, .mv, [.t 146], none⟩]
def c73k52 : ACode := (.cond (.t 140) (.seq (.region true c73r48 [0, 1, 2, 3, 4, 18, 19, 20]) (.region true c73r49 [0, 1, 2, 3, 4, 18, 19, 20, 21])) (.seq (.region true c73r50 [0, 1, 2, 3, 4, 18, 19, 20]) (.region true c73r51 [0, 1, 2, 3, 4, 18, 19, 20, 21])))
def c73r53 : List AOper := [
  ⟨some 147, .mv, [.t 19], none⟩,
  ⟨some 148, (.bin .sub), [.t 147, .c (.pv none (.int .i64 (1)))], none⟩,
  ⟨some 22, .mv, [.t 148], none⟩]
def c73r54 : List AOper := [
  ⟨some 149, .mv, [.t 20], none⟩,
  ⟨some 150, .mv, [.t 21], none⟩,
  ⟨some 151, (.bin .lss), [.t 149, .t 150], none⟩]
def c73k55 : ACode := (.cond (.t 151) .skip (.exit 8))
def c73r56 : List AOper := [
  ⟨some 152, .mv, [.t 20], none⟩,
  ⟨some 153, .mv, [.t 21], none⟩,
  ⟨some 154, (.bin .add), [.t 152, .t 153], none⟩,
  ⟨some 155, (.conv .u64), [.t 154], none⟩,
  ⟨some 156, (.bin .shr), [.t 155, .c (.pv none (.int .u64 (1)))], none⟩,
  ⟨some 157, (.conv .i64), [.t 156], none⟩,
  ⟨some 23, .mv, [.t 157], none⟩]
def c73r57 : List AOper := [
  ⟨some 158, .mv, [.t 4], none⟩,
  ⟨some 159, .mv, [.t 0], none⟩,
  ⟨some 160, .mv, [.t 22], none⟩,
  ⟨some 161, .mv, [.t 23], none⟩,
  ⟨some 162, (.bin .sub), [.t 160, .t 161], none⟩,
  ⟨some 163, (.iaddr (some 4)), [.t 159, .t 162], none⟩,
  ⟨some 164, (.load (some 4)), [.t 163], none⟩,
  ⟨some 165, .mv, [.t 0], none⟩,
  ⟨some 166, .mv, [.t 23], none⟩,
  ⟨some 167, (.iaddr (some 4)), [.t 165, .t 166], none⟩,
  ⟨some 168, (.load (some 4)), [.t 167], none⟩,
  ⟨some 169, .call, [.t 158, .t 164, .t 168], none⟩,
  ⟨some 170, (.bin .lss), [.t 169, .c (.pv none (.int .i64 (0)))], none⟩,
  ⟨some 171, .not, [.t 170], none⟩]
def c73r58 : List AOper := [
  ⟨some 172, .mv, [.t 23], none⟩,
  ⟨some 173, (.bin .add), [.t 172, .c (.pv none (.int .i64 (1)))], none⟩,
  ⟨some 20, .mv, [.t 173], none⟩]
def c73r59 : List AOper := [
  ⟨some 174, .mv, [.t 23], none⟩,
  ⟨some 21, .mv, [.t 174], none⟩]
def c73k60 : ACode := (.cond (.t 171) (.region true c73r58 [0, 1, 2, 3, 4, 18, 19, 20, 21, 22]) (.region true c73r59 [0, 1, 2, 3, 4, 18, 19, 20, 21, 22]))
def c73k61 : ACode := (.block 9 (.seq (.region true c73r56 [0, 1, 2, 3, 4, 18, 19, 20, 21, 22, 23]) (.seq (.region true c73r57 [0, 1, 2, 3, 4, 18, 19, 20, 21, 22, 23, 171]) c73k60)))
def c73b62 : ACode := (.seq (.seq (.region true c73r54 [0, 1, 2, 3, 4, 18, 19, 20, 21, 22, 151]) c73k55) c73k61)
def c73k63 : ACode := (.block 8 (.loop [0, 1, 2, 3, 4, 18, 19, 20, 21, 22] c73b62))
def c73r64 : List AOper := [
  ⟨some 175, .mv, [.t 19], none⟩,
  ⟨some 176, .mv, [.t 20], none⟩,
  ⟨some 177, (.bin .sub), [.t 175, .t 176], none⟩,
  ⟨some 24, .mv, [.t 177], none⟩]
def c73r65 : List AOper := [
  ⟨some 178, .mv, [.t 20], none⟩,
  ⟨some 179, .mv, [.t 2], none⟩,
  ⟨some 180, (.bin .lss), [.t 178, .t 179], none⟩,
  ⟨some 181, .mv, [.t 180], none⟩,
  ⟨some 182, .mv, [.t 2], some (181, true)⟩,
  ⟨some 183, .mv, [.t 24], some (181, true)⟩,
  ⟨some 184, (.bin .lss), [.t 182, .t 183], some (181, true)⟩,
  ⟨some 185, .pick, [.t 181, .t 184, .c (.pv none (.bool false))], none⟩]
def c73r66 : List AOper := [
  ⟨some 186, .mv, [.t 0], none⟩,
  ⟨some 187, .mv, [.t 20], none⟩,
  ⟨some 188, .mv, [.t 2], none⟩,
  ⟨some 189, .mv, [.t 24], none⟩,
  ⟨some 190, .mv, [.t 4], none⟩,
  ⟨some 191, .call, [.c (.pv none (.func (.func 74))), .t 186, .t 187, .t 188, .t 189, .t 190], none⟩]
def c73k67 : ACode := (.cond (.t 185) (.region true c73r66 [0, 1, 3, 4, 18, 20, 24]) .skip)
def c73r68 : List AOper := [
  ⟨some 192, .mv, [.t 1], none⟩,
  ⟨some 193, .mv, [.t 20], none⟩,
  ⟨some 194, (.bin .lss), [.t 192, .t 193], none⟩,
  ⟨some 195, .mv, [.t 194], none⟩,
  ⟨some 196, .mv, [.t 20], some (195, true)⟩,
  ⟨some 197, .mv, [.t 18], some (195, true)⟩,
  ⟨some 198, (.bin .lss), [.t 196, .t 197], some (195, true)⟩,
  ⟨some 199, .pick, [.t 195, .t 198, .c (.pv none (.bool false))], none⟩]
def c73r69 : List AOper := [
  ⟨some 200, .mv, [.t 0], none⟩,
  ⟨some 201, .mv, [.t 1], none⟩,
  ⟨some 202, .mv, [.t 20], none⟩,
  ⟨some 203, .mv, [.t 18], none⟩,
  ⟨some 204, .mv, [.t 4], none⟩,
  ⟨some 205, .call, [.c (.pv none (.func (.func 73))), .t 200, .t 201, .t 202, .t 203, .t 204], none⟩]
def c73k70 : ACode := (.cond (.t 199) (.region true c73r69 [0, 3, 4, 18, 24]) .skip)
def c73r71 : List AOper := [
  ⟨some 206, .mv, [.t 18], none⟩,
  ⟨some 207, .mv, [.t 24], none⟩,
  ⟨some 208, (.bin .lss), [.t 206, .t 207], none⟩,
  ⟨some 209, .mv, [.t 208], none⟩,
  ⟨some 210, .mv, [.t 24], some (209, true)⟩,
  ⟨some 211, .mv, [.t 3], some (209, true)⟩,
  ⟨some 212, (.bin .lss), [.t 210, .t 211], some (209, true)⟩,
  ⟨some 213, .pick, [.t 209, .t 212, .c (.pv none (.bool false))], none⟩]
def c73r72 : List AOper := [
  ⟨some 214, .mv, [.t 0], none⟩,
  ⟨some 215, .mv, [.t 18], none⟩,
  ⟨some 216, .mv, [.t 24], none⟩,
  ⟨some 217, .mv, [.t 3], none⟩,
  ⟨some 218, .mv, [.t 4], none⟩,
  ⟨some 219, .call, [.c (.pv none (.func (.func 73))), .t 214, .t 215, .t 216, .t 217, .t 218], none⟩]
def c73k73 : ACode := (.cond (.t 213) (.region true c73r72 []) .skip)
def c73 : ACode := (.seq (.seq (.region true c73r0 [0, 1, 2, 3, 4, 28]) c73k21) (.seq (.seq (.region true c73r22 [0, 1, 2, 3, 4, 80]) c73k43) (.seq (.region true c73r44 [0, 1, 2, 3, 4, 18]) (.seq (.region true c73r45 [0, 1, 2, 3, 4, 18, 19]) (.seq (.region true c73r46 [0, 1, 2, 3, 4, 18, 19]) (.seq (.seq (.region true c73r47 [0, 1, 2, 3, 4, 18, 19, 140]) c73k52) (.seq (.region true c73r53 [0, 1, 2, 3, 4, 18, 19, 20, 21, 22]) (.seq c73k63 (.seq (.region true c73r64 [0, 1, 2, 3, 4, 18, 20, 24]) (.seq (.seq (.region true c73r65 [0, 1, 2, 3, 4, 18, 20, 24, 185]) c73k67) (.seq (.seq (.region true c73r68 [0, 1, 3, 4, 18, 20, 24, 199]) c73k70) (.seq (.region true c73r71 [0, 3, 4, 18, 24, 213]) c73k73))))))))))))
def g73 : AFn := ⟨5, [], c73, true⟩
theorem tr73 : trFn Try.prog true Try.f73 = some g73 := by kernel_rfl
/- slices.rotateCmpFunc[hornbeam/api.Term] -/
def c74r0 : List AOper := [
  ⟨some 12, .mv, [.t 2], none⟩,
  ⟨some 13, .mv, [.t 1], none⟩,
  ⟨some 14, (.bin .sub), [.t 12, .t 13], none⟩,
  ⟨some 10, .mv, [.t 14], none⟩]
def c74r1 : List AOper := [
  ⟨some 15, .mv, [.t 3], none⟩,
  ⟨some 16, .mv, [.t 2], none⟩,
  ⟨some 17, (.bin .sub), [.t 15, .t 16], none⟩,
  ⟨some 11, .mv, [.t 17], none⟩]
def c74r2 : List AOper := [
  ⟨some 18, .mv, [.t 10], none⟩,
  ⟨some 19, .mv, [.t 11], none⟩,
  ⟨some 20, (.bin .neq), [.t 18, .t 19], none⟩]
def c74k3 : ACode := (.cond (.t 20) .skip (.exit 0))
def c74r4 : List AOper := [
  ⟨some 21, .mv, [.t 10], none⟩,
  ⟨some 22, .mv, [.t 11], none⟩,
  ⟨some 23, (.bin .gtr), [.t 21, .t 22], none⟩]
def c74r5 : List AOper := [
  ⟨some 24, .mv, [.t 0], none⟩,
  ⟨some 25, .mv, [.t 2], none⟩,
  ⟨some 26, .mv, [.t 10], none⟩,
  ⟨some 27, (.bin .sub), [.t 25, .t 26], none⟩,
  ⟨some 28, .mv, [.t 2], none⟩,
  ⟨some 29, .mv, [.t 11], none⟩,
  ⟨some 30, .mv, [.t 4], none⟩,
  ⟨some 31, .call, [.c (.pv none (.func (.func 75))), .t 24, .t 27, .t 28, .t 29, .t 30], none⟩]
def c74r6 : List AOper := [
  ⟨some 32, .mv, [.t 10], none⟩,
  ⟨some 33, .mv, [.t 11], none⟩,
  ⟨some 34, (.bin .sub), [.t 32, .t 33], none⟩,
  ⟨some 10, .mv, [.t 34], none⟩]
def c74r7 : List AOper := [
  ⟨some 35, .mv, [.t 0], none⟩,
  ⟨some 36, .mv, [.t 2], none⟩,
  ⟨some 37, .mv, [.t 10], none⟩,
  ⟨some 38, (.bin .sub), [.t 36, .t 37], none⟩,
  ⟨some 39, .mv, [.t 2], none⟩,
  ⟨some 40, .mv, [.t 11], none⟩,
  ⟨some 41, (.bin .add), [.t 39, .t 40], none⟩,
  ⟨some 42, .mv, [.t 10], none⟩,
  ⟨some 43, (.bin .sub), [.t 41, .t 42], none⟩,
  ⟨some 44, .mv, [.t 10], none⟩,
  ⟨some 45, .mv, [.t 4], none⟩,
  ⟨some 46, .call, [.c (.pv none (.func (.func 75))), .t 35, .t 38, .t 43, .t 44, .t 45], none⟩]
def c74r8 : List AOper := [
  ⟨some 47, .mv, [.t 11], none⟩,
  ⟨some 48, .mv, [.t 10], none⟩,
  ⟨some 49, (.bin .sub), [.t 47, .t 48], none⟩,
  ⟨some 11, .mv, [.t 49], none⟩]
def c74k9 : ACode := (.cond (.t 23) (.seq (.region true c74r5 [0, 2, 4, 10, 11]) (.region true c74r6 [0, 2, 4, 10, 11])) (.seq (.region true c74r7 [0, 2, 4, 10, 11]) (.region true c74r8 [0, 2, 4, 10, 11])))
def c74k10 : ACode := (.block 1 (.seq (.region true c74r4 [0, 2, 4, 10, 11, 23]) c74k9))
def c74b11 : ACode := (.seq (.seq (.region true c74r2 [0, 2, 4, 10, 11, 20]) c74k3) c74k10)
def c74k12 : ACode := (.block 0 (.loop [0, 2, 4, 10, 11] c74b11))
def c74r13 : List AOper := [
  ⟨some 50, .mv, [.t 0], none⟩,
  ⟨some 51, .mv, [.t 2], none⟩,
  ⟨some 52, .mv, [.t 10], none⟩,
  ⟨some 53, (.bin .sub), [.t 51, .t 52], none⟩,
  ⟨some 54, .mv, [.t 2], none⟩,
  ⟨some 55, .mv, [.t 10], none⟩,
  ⟨some 56, .mv, [.t 4], none⟩,
  ⟨some 57, .call, [.c (.pv none (.func (.func 75))), .t 50, .t 53, .t 54, .t 55, .t 56], none⟩]
def c74 : ACode := (.seq (.region true c74r0 [0, 2, 3, 4, 10]) (.seq (.region true c74r1 [0, 2, 4, 10, 11]) (.seq c74k12 (.region true c74r13 []))))
def g74 : AFn := ⟨5, [], c74, true⟩
theorem tr74 : trFn Try.prog true Try.f74 = some g74 := by kernel_rfl
/- slices.swapRangeCmpFunc[hornbeam/api.Term] -/
def c75r0 : List AOper := [
  ⟨some 10, .mv, [.c (.pv none (.int .i64 (0)))], none⟩]
def c75r1 : List AOper := [
  ⟨some 11, .mv, [.t 10], none⟩,
  ⟨some 12, .mv, [.t 3], none⟩,
  ⟨some 13, (.bin .lss), [.t 11, .t 12], none⟩]
def c75k2 : ACode := (.cond (.t 13) .skip (.exit 0))
def c75r3 : List AOper := [
  ⟨some 16, .mv, [.t 0], none⟩,
  ⟨some 17, .mv, [.t 1], none⟩,
  ⟨some 18, .mv, [.t 10], none⟩,
  ⟨some 19, (.bin .add), [.t 17, .t 18], none⟩,
  ⟨some 20, .mv, [.t 0], none⟩,
  ⟨some 21, .mv, [.t 2], none⟩,
  ⟨some 22, .mv, [.t 10], none⟩,
  ⟨some 23, (.bin .add), [.t 21, .t 22], none⟩,
  ⟨some 24, .mv, [.t 0], none⟩,
  ⟨some 25, .mv, [.t 2], none⟩,
  ⟨some 26, .mv, [.t 10], none⟩,
  ⟨some 27, (.bin .add), [.t 25, .t 26], none⟩,
  ⟨some 28, (.iaddr (some 4)), [.t 24, .t 27], none⟩,
  ⟨some 29, (.load (some 4)), [.t 28], none⟩,
  ⟨some 30, .mv, [.t 0], none⟩,
  ⟨some 31, .mv, [.t 1], none⟩,
  ⟨some 32, .mv, [.t 10], none⟩,
  ⟨some 33, (.bin .add), [.t 31, .t 32], none⟩,
  ⟨some 34, (.iaddr (some 4)), [.t 30, .t 33], none⟩,
  ⟨some 35, (.load (some 4)), [.t 34], none⟩,
  ⟨some 36, (.iaddr (some 4)), [.t 16, .t 19], none⟩,
  ⟨none, (.store (some 4)), [.t 36, .t 29], none⟩,
  ⟨some 37, (.iaddr (some 4)), [.t 20, .t 23], none⟩,
  ⟨none, (.store (some 4)), [.t 37, .t 35], none⟩]
def c75k4 : ACode := (.block 1 (.region true c75r3 [0, 1, 2, 3, 10]))
def c75r5 : List AOper := [
  ⟨some 14, .mv, [.t 10], none⟩,
  ⟨some 15, (.bin .add), [.t 14, .c (.pv none (.int .i64 (1)))], none⟩,
  ⟨some 10, .mv, [.t 15], none⟩]
def c75b6 : ACode := (.seq (.seq (.region true c75r1 [0, 1, 2, 3, 10, 13]) c75k2) (.seq c75k4 (.region true c75r5 [0, 1, 2, 3, 10])))
def c75k7 : ACode := (.block 0 (.loop [0, 1, 2, 3, 10] c75b6))
def c75 : ACode := (.seq (.region true c75r0 [0, 1, 2, 3, 10]) c75k7)
def g75 : AFn := ⟨5, [], c75, true⟩
theorem tr75 : trFn Try.prog true Try.f75 = some g75 := by kernel_rfl
def tab : List (Nat × AFn) := [(3, g3), (4, g4), (5, g5), (6, g6), (8, g8), (9, g9), (10, g10), (11, g11), (12, g12), (13, g13), (14, g14), (15, g15), (16, g16), (17, g17), (18, g18), (19, g19), (20, g20), (21, g21), (22, g22), (23, g23), (24, g24), (25, g25), (26, g26), (27, g27), (28, g28), (30, g30), (31, g31), (32, g32), (33, g33), (34, g34), (35, g35), (36, g36), (37, g37), (38, g38), (39, g39), (40, g40), (41, g41), (42, g42), (43, g43), (44, g44), (45, g45), (46, g46), (47, g47), (48, g48), (49, g49), (50, g50), (51, g51), (52, g52), (53, g53), (54, g54), (55, g55), (56, g56), (57, g57), (58, g58), (59, g59), (60, g60), (61, g61), (62, g62), (63, g63), (64, g64), (65, g65), (66, g66), (67, g67), (68, g68), (69, g69), (70, g70), (72, g72), (73, g73), (74, g74), (75, g75)]
theorem tab_ok : TabOk Try.prog tab :=
  (tabOk_cons Try.func3 tr3 
  (tabOk_cons Try.func4 tr4 
  (tabOk_cons Try.func5 tr5 
  (tabOk_cons Try.func6 tr6 
  (tabOk_cons Try.func8 tr8 
  (tabOk_cons Try.func9 tr9 
  (tabOk_cons Try.func10 tr10 
  (tabOk_cons Try.func11 tr11 
  (tabOk_cons Try.func12 tr12 
  (tabOk_cons Try.func13 tr13 
  (tabOk_cons Try.func14 tr14 
  (tabOk_cons Try.func15 tr15 
  (tabOk_cons Try.func16 tr16 
  (tabOk_cons Try.func17 tr17 
  (tabOk_cons Try.func18 tr18 
  (tabOk_cons Try.func19 tr19 
  (tabOk_cons Try.func20 tr20 
  (tabOk_cons Try.func21 tr21 
  (tabOk_cons Try.func22 tr22 
  (tabOk_cons Try.func23 tr23 
  (tabOk_cons Try.func24 tr24 
  (tabOk_cons Try.func25 tr25 
  (tabOk_cons Try.func26 tr26 
  (tabOk_cons Try.func27 tr27 
  (tabOk_cons Try.func28 tr28 
  (tabOk_cons Try.func30 tr30 
  (tabOk_cons Try.func31 tr31 
  (tabOk_cons Try.func32 tr32 
  (tabOk_cons Try.func33 tr33 
  (tabOk_cons Try.func34 tr34 
  (tabOk_cons Try.func35 tr35 
  (tabOk_cons Try.func36 tr36 
  (tabOk_cons Try.func37 tr37 
  (tabOk_cons Try.func38 tr38 
  (tabOk_cons Try.func39 tr39 
  (tabOk_cons Try.func40 tr40 
  (tabOk_cons Try.func41 tr41 
  (tabOk_cons Try.func42 tr42 
  (tabOk_cons Try.func43 tr43 
  (tabOk_cons Try.func44 tr44 
  (tabOk_cons Try.func45 tr45 
  (tabOk_cons Try.func46 tr46 
  (tabOk_cons Try.func47 tr47 
  (tabOk_cons Try.func48 tr48 
  (tabOk_cons Try.func49 tr49 
  (tabOk_cons Try.func50 tr50 
  (tabOk_cons Try.func51 tr51 
  (tabOk_cons Try.func52 tr52 
  (tabOk_cons Try.func53 tr53 
  (tabOk_cons Try.func54 tr54 
  (tabOk_cons Try.func55 tr55 
  (tabOk_cons Try.func56 tr56 
  (tabOk_cons Try.func57 tr57 
  (tabOk_cons Try.func58 tr58 
  (tabOk_cons Try.func59 tr59 
  (tabOk_cons Try.func60 tr60 
  (tabOk_cons Try.func61 tr61 
  (tabOk_cons Try.func62 tr62 
  (tabOk_cons Try.func63 tr63 
  (tabOk_cons Try.func64 tr64 
  (tabOk_cons Try.func65 tr65 
  (tabOk_cons Try.func66 tr66 
  (tabOk_cons Try.func67 tr67 
  (tabOk_cons Try.func68 tr68 
  (tabOk_cons Try.func69 tr69 
  (tabOk_cons Try.func70 tr70 
  (tabOk_cons Try.func72 tr72 
  (tabOk_cons Try.func73 tr73 
  (tabOk_cons Try.func74 tr74 
  (tabOk_cons Try.func75 tr75  tabOk_nil))))))))))))))))))))))))))))))))))))))))))))))))))))))))))))))))))))))
end Go.Proofs.Yteaehiceghhajaa
