/- The code of the functions, in the form of our laws; each is the program's own, by the kernel. Written by a program of ours. -/
import Derived.Test.YtbgnlnlgjmipfaaB0
import Derived.KernelRfl
namespace Go.Proofs.Ytbgnlnlgjmipfaa
open Go.Abs

/-- laws.heldSecurityS -/
def C32 : CC :=
 (.seq (.ops [⟨some 4, none, .mv (.const (.int .i64 0))⟩])
 (.seq (.seq (.ops [⟨some 5, none, .mv (.const (.int .i64 0))⟩])
  (.block 0 (.loop (.seq (.seq (.ops [⟨some 6, none, .mv (.tmp 5)⟩,
       ⟨some 7, none, .mv (.tmp 0)⟩,
       ⟨some 8, none, .len false (.tmp 7)⟩,
       ⟨some 9, none, .bin .lss 0 (.tmp 6) (.tmp 8)⟩])
     (.cond (.tmp 9) .skip
     (.exit 0)))
    (.seq (.block 1 (.seq (.seq (.draw 8 [⟨some 12, none, .mv (.tmp 0)⟩,
         ⟨some 13, none, .mv (.tmp 5)⟩,
         ⟨some 14, none, .ia 3 (.tmp 12) (.tmp 13)⟩,
         ⟨some 15, none, .fa 0 (.tmp 14)⟩,
         ⟨some 16, none, .load false 1 (.tmp 15)⟩,
         ⟨some 17, none, .mv (.tmp 1)⟩,
         ⟨some 18, none, .call (.func 85) [(.tmp 17)]⟩,
         ⟨some 19, none, .bin .neq 0 (.tmp 16) (.tmp 18)⟩])
       (.cond (.tmp 19) (.seq (.ops [⟨some 4, none, .mv (.const (.int .i64 (-1)))⟩])
        .ret)
       .skip))
      (.seq (.ops [⟨some 20, none, .mv (.tmp 1)⟩,
        ⟨some 21, none, .bin .add 0 (.tmp 20) (.const (.int .i64 1))⟩,
        ⟨some 1, none, .mv (.tmp 21)⟩])
      (.seq (.seq (.ops [⟨some 22, none, .mv (.tmp 0)⟩,
         ⟨some 23, none, .mv (.tmp 5)⟩,
         ⟨some 24, none, .ia 3 (.tmp 22) (.tmp 23)⟩,
         ⟨some 25, none, .fa 1 (.tmp 24)⟩,
         ⟨some 26, none, .load false 1 (.tmp 25)⟩,
         ⟨some 27, none, .mv (.tmp 1)⟩,
         ⟨some 28, none, .bin .neq 0 (.tmp 26) (.tmp 27)⟩])
       (.cond (.tmp 28) (.seq (.ops [⟨some 4, none, .mv (.const (.int .i64 (-1)))⟩])
        .ret)
       .skip))
      (.seq (.ops [⟨some 29, none, .mv (.tmp 1)⟩,
        ⟨some 30, none, .bin .add 0 (.tmp 29) (.const (.int .i64 1))⟩,
        ⟨some 1, none, .mv (.tmp 30)⟩])
      (.seq (.seq (.ops [⟨some 31, none, .mv (.tmp 0)⟩,
         ⟨some 32, none, .mv (.tmp 5)⟩,
         ⟨some 33, none, .ia 3 (.tmp 31) (.tmp 32)⟩,
         ⟨some 34, none, .fa 2 (.tmp 33)⟩,
         ⟨some 35, none, .load false 1 (.tmp 34)⟩,
         ⟨some 36, none, .mv (.tmp 1)⟩,
         ⟨some 37, none, .bin .neq 0 (.tmp 35) (.tmp 36)⟩])
       (.cond (.tmp 37) (.seq (.ops [⟨some 4, none, .mv (.const (.int .i64 (-1)))⟩])
        .ret)
       .skip))
      (.ops [⟨some 38, none, .mv (.tmp 1)⟩,
       ⟨some 39, none, .bin .add 0 (.tmp 38) (.const (.int .i64 1))⟩,
       ⟨some 1, none, .mv (.tmp 39)⟩])))))))
    (.ops [⟨some 10, none, .mv (.tmp 5)⟩,
     ⟨some 11, none, .bin .add 0 (.tmp 10) (.const (.int .i64 1))⟩,
     ⟨some 5, none, .mv (.tmp 11)⟩]))))))
 (.seq (.ops [⟨some 40, none, .mv (.tmp 1)⟩,
   ⟨some 4, none, .mv (.tmp 40)⟩])
 .ret)))
theorem C32_ok : Try.f32.body.bind (comp Try.prog) = some C32 := by kernel_rfl
theorem C32_res : compRs Try.prog Try.f32.results.toList = some [.tmp 4] := by kernel_rfl
theorem C32_nm : (Try.f32.name == "runtime.NumGoroutine") = false := by kernel_rfl
theorem C32_fn {a0 a1 : AV} {H : Heap} {Q : AV → Heap → Prop} (h : vc Try.prog C32 (vcEnd [.tmp 4] Q) H [a0, a1, .any, .any, .any, .any, .any, .any, .any, .any, .any, .any, .any, .any, .any, .any, .any, .any, .any, .any, .any, .any, .any, .any, .any, .any, .any, .any, .any, .any, .any, .any, .any, .any, .any, .any, .any, .any, .any, .any, .any]) : Runs Try.prog 32 [a0, a1] H Q :=
  @fn_go Try.prog mixed 32 Try.f32 C32 [.tmp 4] Try.func32 C32_ok C32_res C32_nm 41 Try.ntmps32 [a0, a1] [a0, a1, .any, .any, .any, .any, .any, .any, .any, .any, .any, .any, .any, .any, .any, .any, .any, .any, .any, .any, .any, .any, .any, .any, .any, .any, .any, .any, .any, .any, .any, .any, .any, .any, .any, .any, .any, .any, .any, .any, .any] H Q h 39 (by kernel_rfl) (by kernel_rfl)

/-- laws.FnExactRemainingSecurities -/
def C5 : CC :=
 (.seq (.ops [⟨some 4, none, .mv (.const (.bool false))⟩])
 (.seq (.seq (.ops [⟨some 17, none, .mv (.tmp 1)⟩,
    ⟨some 18, none, .len false (.tmp 17)⟩,
    ⟨some 19, none, .bin .gtr 0 (.tmp 18) (.const (.int .i64 1048576))⟩])
  (.cond (.tmp 19) (.seq (.ops [⟨some 4, none, .mv (.const (.bool true))⟩])
   .ret)
  .skip))
 (.seq (.ops [⟨some 5, none, .mv (.const (.int .i64 1048576))⟩])
 (.seq (.ops [⟨some 20, none, .mv (.tmp 0)⟩,
   ⟨some 21, none, .mv (.tmp 5)⟩,
   ⟨some 22, none, .call (.func 20) [(.tmp 20), (.tmp 21)]⟩,
   ⟨some 5, none, .mv (.tmp 22)⟩])
 (.seq (.seq (.ops [⟨some 23, none, .mv (.tmp 5)⟩,
    ⟨some 24, none, .bin .lss 0 (.tmp 23) (.const (.int .i64 0))⟩])
  (.cond (.tmp 24) (.seq (.ops [⟨some 4, none, .mv (.const (.bool true))⟩])
   .ret)
  .skip))
 (.seq (.ops [⟨some 26, none, .mv (.tmp 0)⟩,
   ⟨some 27, none, .call (.func 22) [(.tmp 26)]⟩,
   ⟨some 28, none, .mv (.tmp 1)⟩,
   ⟨some 29, none, .call (.func 30) [(.tmp 28)]⟩,
   ⟨some 30, none, .call (.func 29) [(.tmp 27), (.tmp 29)]⟩,
   ⟨some 25, none, .mv (.tmp 30)⟩,
   ⟨some 31, none, .ext (.tmp 25) 0⟩,
   ⟨some 32, none, .ext (.tmp 25) 1⟩,
   ⟨some 6, none, .mv (.tmp 31)⟩,
   ⟨some 7, none, .mv (.tmp 32)⟩])
 (.seq (.ops [⟨some 33, none, .mv (.tmp 0)⟩,
   ⟨some 34, none, .call (.func 22) [(.tmp 33)]⟩,
   ⟨some 8, none, .mv (.tmp 34)⟩])
 (.seq (.ops [⟨some 35, none, .mv (.tmp 1)⟩,
   ⟨some 36, none, .call (.func 30) [(.tmp 35)]⟩,
   ⟨some 9, none, .mv (.tmp 36)⟩])
 (.seq (.ops [⟨some 38, none, .mv (.tmp 8)⟩,
   ⟨some 39, none, .mv (.tmp 9)⟩,
   ⟨some 40, none, .call (.func 31) [(.tmp 38), (.tmp 39)]⟩,
   ⟨some 37, none, .mv (.tmp 40)⟩,
   ⟨some 41, none, .ext (.tmp 37) 0⟩,
   ⟨some 42, none, .ext (.tmp 37) 1⟩,
   ⟨some 10, none, .mv (.tmp 41)⟩,
   ⟨some 11, none, .mv (.tmp 42)⟩])
 (.seq (.seq (.ops [⟨some 43, none, .mv (.tmp 10)⟩,
    ⟨some 44, none, .mv (.tmp 6)⟩,
    ⟨some 45, none, .call (.func 25) [(.tmp 43), (.tmp 44)]⟩,
    ⟨some 46, none, .not (.tmp 45)⟩,
    ⟨some 47, none, .mv (.tmp 46)⟩,
    ⟨some 48, some (47, false), .mv (.tmp 11)⟩,
    ⟨some 49, some (47, false), .mv (.tmp 7)⟩,
    ⟨some 50, some (47, false), .bin .neq 0 (.tmp 48) (.tmp 49)⟩,
    ⟨some 51, none, .pick (.tmp 47) (.const (.bool true)) (.tmp 50)⟩])
  (.cond (.tmp 51) (.seq (.ops [⟨some 4, none, .mv (.const (.bool false))⟩])
   .ret)
  .skip))
 (.seq (.seq (.ops [⟨some 52, none, .mv (.tmp 8)⟩,
    ⟨some 53, none, .mv (.tmp 0)⟩,
    ⟨some 54, none, .call (.func 22) [(.tmp 53)]⟩,
    ⟨some 55, none, .call (.func 25) [(.tmp 52), (.tmp 54)]⟩,
    ⟨some 56, none, .not (.tmp 55)⟩])
  (.cond (.tmp 56) (.seq (.ops [⟨some 4, none, .mv (.const (.bool false))⟩])
   .ret)
  .skip))
 (.seq (.seq (.ops [⟨some 57, none, .mv (.tmp 9)⟩,
    ⟨some 58, none, .mv (.tmp 1)⟩,
    ⟨some 59, none, .call (.func 30) [(.tmp 58)]⟩,
    ⟨some 60, none, .call (.func 24) [(.tmp 57), (.tmp 59)]⟩,
    ⟨some 61, none, .not (.tmp 60)⟩])
  (.cond (.tmp 61) (.seq (.ops [⟨some 4, none, .mv (.const (.bool false))⟩])
   .ret)
  .skip))
 (.seq (.ops [⟨some 12, none, .mv (.const (.int .i64 1))⟩])
 (.seq (.ops [⟨some 62, none, .mv (.tmp 8)⟩,
   ⟨some 63, none, .mv (.tmp 12)⟩,
   ⟨some 64, none, .call (.func 26) [(.tmp 62), (.tmp 63)]⟩,
   ⟨some 12, none, .mv (.tmp 64)⟩])
 (.seq (.ops [⟨some 65, none, .mv (.tmp 9)⟩,
   ⟨some 66, none, .mv (.tmp 12)⟩,
   ⟨some 67, none, .call (.func 27) [(.tmp 65), (.tmp 66)]⟩,
   ⟨some 12, none, .mv (.tmp 67)⟩])
 (.seq (.seq (.ops [⟨some 68, none, .mv (.tmp 12)⟩,
    ⟨some 69, none, .bin .lss 0 (.tmp 68) (.const (.int .i64 0))⟩,
    ⟨some 70, none, .mv (.tmp 69)⟩,
    ⟨some 71, some (70, false), .mv (.tmp 10)⟩,
    ⟨some 72, some (70, false), .mv (.tmp 6)⟩,
    ⟨some 73, some (70, false), .call (.func 25) [(.tmp 71), (.tmp 72)]⟩,
    ⟨some 74, some (70, false), .not (.tmp 73)⟩,
    ⟨some 75, none, .pick (.tmp 70) (.const (.bool true)) (.tmp 74)⟩,
    ⟨some 76, none, .mv (.tmp 75)⟩,
    ⟨some 77, some (76, false), .mv (.tmp 11)⟩,
    ⟨some 78, some (76, false), .mv (.tmp 7)⟩,
    ⟨some 79, some (76, false), .bin .neq 0 (.tmp 77) (.tmp 78)⟩,
    ⟨some 80, none, .pick (.tmp 76) (.const (.bool true)) (.tmp 79)⟩])
  (.cond (.tmp 80) (.seq (.ops [⟨some 4, none, .mv (.const (.bool false))⟩])
   .ret)
  .skip))
 (.seq (.ops [⟨some 13, none, .mv (.const (.int .i64 1))⟩])
 (.seq (.ops [⟨some 81, none, .mv (.tmp 10)⟩,
   ⟨some 82, none, .mv (.tmp 13)⟩,
   ⟨some 83, none, .call (.func 26) [(.tmp 81), (.tmp 82)]⟩,
   ⟨some 13, none, .mv (.tmp 83)⟩])
 (.seq (.ops [⟨some 14, none, .mv (.const (.int .i64 1))⟩])
 (.seq (.ops [⟨some 84, none, .mv (.tmp 10)⟩,
   ⟨some 85, none, .mv (.tmp 14)⟩,
   ⟨some 86, none, .call (.func 32) [(.tmp 84), (.tmp 85)]⟩,
   ⟨some 14, none, .mv (.tmp 86)⟩])
 (.seq (.seq (.ops [⟨some 87, none, .mv (.tmp 14)⟩,
    ⟨some 88, none, .bin .lss 0 (.tmp 87) (.const (.int .i64 0))⟩])
  (.cond (.tmp 88) (.seq (.ops [⟨some 4, none, .mv (.const (.bool false))⟩])
   .ret)
  .skip))
 (.seq (.seq (.ops [⟨some 89, none, .mv (.tmp 14)⟩,
    ⟨some 90, none, .mv (.tmp 13)⟩,
    ⟨some 91, none, .bin .neq 0 (.tmp 89) (.tmp 90)⟩])
  (.cond (.tmp 91) (.seq (.ops [⟨some 4, none, .mv (.const (.bool false))⟩])
   .ret)
  .skip))
 (.seq (.ops [⟨some 93, none, .mv (.tmp 0)⟩,
   ⟨some 94, none, .call (.func 22) [(.tmp 93)]⟩,
   ⟨some 95, none, .mv (.tmp 1)⟩,
   ⟨some 96, none, .call (.func 30) [(.tmp 95)]⟩,
   ⟨some 97, none, .call (.func 31) [(.tmp 94), (.tmp 96)]⟩,
   ⟨some 92, none, .mv (.tmp 97)⟩,
   ⟨some 98, none, .ext (.tmp 92) 0⟩,
   ⟨some 99, none, .ext (.tmp 92) 1⟩,
   ⟨some 15, none, .mv (.tmp 98)⟩,
   ⟨some 16, none, .mv (.tmp 99)⟩])
 (.seq (.seq (.ops [⟨some 100, none, .mv (.tmp 15)⟩,
    ⟨some 101, none, .mv (.tmp 6)⟩,
    ⟨some 102, none, .call (.func 25) [(.tmp 100), (.tmp 101)]⟩,
    ⟨some 103, none, .not (.tmp 102)⟩,
    ⟨some 104, none, .mv (.tmp 103)⟩,
    ⟨some 105, some (104, false), .mv (.tmp 16)⟩,
    ⟨some 106, some (104, false), .mv (.tmp 7)⟩,
    ⟨some 107, some (104, false), .bin .neq 0 (.tmp 105) (.tmp 106)⟩,
    ⟨some 108, none, .pick (.tmp 104) (.const (.bool true)) (.tmp 107)⟩])
  (.cond (.tmp 108) (.seq (.ops [⟨some 4, none, .mv (.const (.bool false))⟩])
   .ret)
  .skip))
 (.seq (.ops [⟨some 14, none, .mv (.const (.int .i64 1))⟩])
 (.seq (.ops [⟨some 109, none, .mv (.tmp 10)⟩,
   ⟨some 110, none, .mv (.tmp 14)⟩,
   ⟨some 111, none, .call (.func 32) [(.tmp 109), (.tmp 110)]⟩,
   ⟨some 14, none, .mv (.tmp 111)⟩])
 (.seq (.seq (.ops [⟨some 112, none, .mv (.tmp 14)⟩,
    ⟨some 113, none, .bin .lss 0 (.tmp 112) (.const (.int .i64 0))⟩])
  (.cond (.tmp 113) (.seq (.ops [⟨some 4, none, .mv (.const (.bool false))⟩])
   .ret)
  .skip))
 (.seq (.seq (.ops [⟨some 114, none, .mv (.tmp 14)⟩,
    ⟨some 115, none, .mv (.tmp 13)⟩,
    ⟨some 116, none, .bin .neq 0 (.tmp 114) (.tmp 115)⟩])
  (.cond (.tmp 116) (.seq (.ops [⟨some 4, none, .mv (.const (.bool false))⟩])
   .ret)
  .skip))
 (.seq (.ops [⟨some 4, none, .mv (.const (.bool true))⟩])
 .ret)))))))))))))))))))))))))))))
theorem C5_ok : Try.f5.body.bind (comp Try.prog) = some C5 := by kernel_rfl
theorem C5_res : compRs Try.prog Try.f5.results.toList = some [.tmp 4] := by kernel_rfl
theorem C5_nm : (Try.f5.name == "runtime.NumGoroutine") = false := by kernel_rfl
theorem C5_fn {a0 a1 : AV} {H : Heap} {Q : AV → Heap → Prop} (h : vc Try.prog C5 (vcEnd [.tmp 4] Q) H [a0, a1, .any, .any, .any, .any, .any, .any, .any, .any, .any, .any, .any, .any, .any, .any, .any, .any, .any, .any, .any, .any, .any, .any, .any, .any, .any, .any, .any, .any, .any, .any, .any, .any, .any, .any, .any, .any, .any, .any, .any, .any, .any, .any, .any, .any, .any, .any, .any, .any, .any, .any, .any, .any, .any, .any, .any, .any, .any, .any, .any, .any, .any, .any, .any, .any, .any, .any, .any, .any, .any, .any, .any, .any, .any, .any, .any, .any, .any, .any, .any, .any, .any, .any, .any, .any, .any, .any, .any, .any, .any, .any, .any, .any, .any, .any, .any, .any, .any, .any, .any, .any, .any, .any, .any, .any, .any, .any, .any, .any, .any, .any, .any, .any, .any, .any, .any]) : Runs Try.prog 5 [a0, a1] H Q :=
  @fn_go Try.prog mixed 5 Try.f5 C5 [.tmp 4] Try.func5 C5_ok C5_res C5_nm 117 Try.ntmps5 [a0, a1] [a0, a1, .any, .any, .any, .any, .any, .any, .any, .any, .any, .any, .any, .any, .any, .any, .any, .any, .any, .any, .any, .any, .any, .any, .any, .any, .any, .any, .any, .any, .any, .any, .any, .any, .any, .any, .any, .any, .any, .any, .any, .any, .any, .any, .any, .any, .any, .any, .any, .any, .any, .any, .any, .any, .any, .any, .any, .any, .any, .any, .any, .any, .any, .any, .any, .any, .any, .any, .any, .any, .any, .any, .any, .any, .any, .any, .any, .any, .any, .any, .any, .any, .any, .any, .any, .any, .any, .any, .any, .any, .any, .any, .any, .any, .any, .any, .any, .any, .any, .any, .any, .any, .any, .any, .any, .any, .any, .any, .any, .any, .any, .any, .any, .any, .any, .any, .any] H Q h 115 (by kernel_rfl) (by kernel_rfl)

/-- laws.szDemand -/
def C88 : CC :=
 (.seq (.ops [⟨some 2, none, .box (.tmp 0)⟩,
   ⟨some 4, none, .mv (.const (.int .i64 0))⟩])
 (.seq (.ops [⟨some 5, none, .mv (.tmp 1)⟩,
   ⟨some 6, none, .fa 0 (.tmp 2)⟩,
   ⟨some 7, none, .load false 1 (.tmp 6)⟩,
   ⟨some 8, none, .len true (.tmp 7)⟩,
   ⟨some 9, none, .bin .sub 0 (.tmp 5) (.tmp 8)⟩,
   ⟨some 1, none, .mv (.tmp 9)⟩])
 (.seq (.seq (.ops [⟨some 10, none, .mv (.tmp 1)⟩,
    ⟨some 11, none, .bin .lss 0 (.tmp 10) (.const (.int .i64 0))⟩])
  (.cond (.tmp 11) (.seq (.ops [⟨some 4, none, .mv (.const (.int .i64 (-1)))⟩])
   .ret)
  .skip))
 (.seq (.ops [⟨some 12, none, .mv (.tmp 1)⟩,
   ⟨some 4, none, .mv (.tmp 12)⟩])
 .ret))))
theorem C88_ok : Try.f88.body.bind (comp Try.prog) = some C88 := by kernel_rfl
theorem C88_res : compRs Try.prog Try.f88.results.toList = some [.tmp 4] := by kernel_rfl
theorem C88_nm : (Try.f88.name == "runtime.NumGoroutine") = false := by kernel_rfl
theorem C88_fn {a0 a1 : AV} {H : Heap} {Q : AV → Heap → Prop} (h : vc Try.prog C88 (vcEnd [.tmp 4] Q) H [a0, a1, .any, .any, .any, .any, .any, .any, .any, .any, .any, .any, .any]) : Runs Try.prog 88 [a0, a1] H Q :=
  @fn_go Try.prog mixed 88 Try.f88 C88 [.tmp 4] Try.func88 C88_ok C88_res C88_nm 13 Try.ntmps88 [a0, a1] [a0, a1, .any, .any, .any, .any, .any, .any, .any, .any, .any, .any, .any] H Q h 11 (by kernel_rfl) (by kernel_rfl)

/-- laws.szDemandS -/
def C33 : CC :=
 (.seq (.ops [⟨some 4, none, .mv (.const (.int .i64 0))⟩])
 (.seq (.ops [⟨some 6, none, .mv (.tmp 1)⟩,
   ⟨some 7, none, .mv (.tmp 0)⟩,
   ⟨some 8, none, .len false (.tmp 7)⟩,
   ⟨some 9, none, .bin .sub 0 (.tmp 6) (.tmp 8)⟩,
   ⟨some 1, none, .mv (.tmp 9)⟩])
 (.seq (.seq (.ops [⟨some 10, none, .mv (.tmp 1)⟩,
    ⟨some 11, none, .bin .lss 0 (.tmp 10) (.const (.int .i64 0))⟩])
  (.cond (.tmp 11) (.seq (.ops [⟨some 4, none, .mv (.const (.int .i64 (-1)))⟩])
   .ret)
  .skip))
 (.seq (.seq (.ops [⟨some 5, none, .mv (.const (.int .i64 0))⟩])
  (.block 0 (.loop (.seq (.seq (.ops [⟨some 12, none, .mv (.tmp 5)⟩,
       ⟨some 13, none, .mv (.tmp 0)⟩,
       ⟨some 14, none, .len false (.tmp 13)⟩,
       ⟨some 15, none, .bin .lss 0 (.tmp 12) (.tmp 14)⟩])
     (.cond (.tmp 15) .skip
     (.exit 0)))
    (.seq (.block 1 (.seq (.ops [⟨some 18, none, .mv (.tmp 0)⟩,
        ⟨some 19, none, .mv (.tmp 5)⟩,
        ⟨some 20, none, .ia 3 (.tmp 18) (.tmp 19)⟩,
        ⟨some 21, none, .load true 3 (.tmp 20)⟩,
        ⟨some 22, none, .mv (.tmp 1)⟩,
        ⟨some 23, none, .call (.func 88) [(.tmp 21), (.tmp 22)]⟩,
        ⟨some 1, none, .mv (.tmp 23)⟩])
      (.seq (.ops [⟨some 24, none, .mv (.tmp 1)⟩,
        ⟨some 25, none, .bin .lss 0 (.tmp 24) (.const (.int .i64 0))⟩])
      (.cond (.tmp 25) (.seq (.ops [⟨some 4, none, .mv (.const (.int .i64 (-1)))⟩])
       .ret)
      .skip))))
    (.ops [⟨some 16, none, .mv (.tmp 5)⟩,
     ⟨some 17, none, .bin .add 0 (.tmp 16) (.const (.int .i64 1))⟩,
     ⟨some 5, none, .mv (.tmp 17)⟩]))))))
 (.seq (.ops [⟨some 26, none, .mv (.tmp 1)⟩,
   ⟨some 4, none, .mv (.tmp 26)⟩])
 .ret)))))
theorem C33_ok : Try.f33.body.bind (comp Try.prog) = some C33 := by kernel_rfl
theorem C33_res : compRs Try.prog Try.f33.results.toList = some [.tmp 4] := by kernel_rfl
theorem C33_nm : (Try.f33.name == "runtime.NumGoroutine") = false := by kernel_rfl
theorem C33_fn {a0 a1 : AV} {H : Heap} {Q : AV → Heap → Prop} (h : vc Try.prog C33 (vcEnd [.tmp 4] Q) H [a0, a1, .any, .any, .any, .any, .any, .any, .any, .any, .any, .any, .any, .any, .any, .any, .any, .any, .any, .any, .any, .any, .any, .any, .any, .any, .any]) : Runs Try.prog 33 [a0, a1] H Q :=
  @fn_go Try.prog mixed 33 Try.f33 C33 [.tmp 4] Try.func33 C33_ok C33_res C33_nm 27 Try.ntmps33 [a0, a1] [a0, a1, .any, .any, .any, .any, .any, .any, .any, .any, .any, .any, .any, .any, .any, .any, .any, .any, .any, .any, .any, .any, .any, .any, .any, .any, .any] H Q h 25 (by kernel_rfl) (by kernel_rfl)

/-- spec.l23Rank -/
def C90 : CC :=
 (.seq (.ops [⟨some 2, none, .mv (.const (.bool false))⟩])
 (.seq (.ops [⟨some 3, none, .mv (.tmp 0)⟩,
   ⟨some 4, none, .call (.func 86) [(.tmp 3), (.const (.int .i64 1)), (.const (.int .i64 5))]⟩,
   ⟨some 2, none, .mv (.tmp 4)⟩])
 .ret))
theorem C90_ok : Try.f90.body.bind (comp Try.prog) = some C90 := by kernel_rfl
theorem C90_res : compRs Try.prog Try.f90.results.toList = some [.tmp 2] := by kernel_rfl
theorem C90_nm : (Try.f90.name == "runtime.NumGoroutine") = false := by kernel_rfl
theorem C90_fn {a0 : AV} {H : Heap} {Q : AV → Heap → Prop} (h : vc Try.prog C90 (vcEnd [.tmp 2] Q) H [a0, .any, .any, .any, .any]) : Runs Try.prog 90 [a0] H Q :=
  @fn_go Try.prog mixed 90 Try.f90 C90 [.tmp 2] Try.func90 C90_ok C90_res C90_nm 5 Try.ntmps90 [a0] [a0, .any, .any, .any, .any] H Q h 4 (by kernel_rfl) (by kernel_rfl)

/-- spec.AreDemands -/
def C89 : CC :=
 (.seq (.ops [⟨some 2, none, .mv (.const (.bool false))⟩])
 (.seq (.seq (.ops [⟨some 3, none, .mv (.const (.int .i64 0))⟩])
  (.block 0 (.loop (.seq (.seq (.ops [⟨some 5, none, .mv (.tmp 3)⟩,
       ⟨some 6, none, .mv (.tmp 0)⟩,
       ⟨some 7, none, .len false (.tmp 6)⟩,
       ⟨some 8, none, .bin .lss 0 (.tmp 5) (.tmp 7)⟩])
     (.cond (.tmp 8) .skip
     (.exit 0)))
    (.seq (.block 1 (.seq (.ops [⟨some 11, none, .mv (.tmp 0)⟩,
        ⟨some 12, none, .mv (.tmp 3)⟩,
        ⟨some 13, none, .ia 3 (.tmp 11) (.tmp 12)⟩,
        ⟨some 14, none, .load true 3 (.tmp 13)⟩,
        ⟨some 4, none, .alloc [.string ⟨#[]⟩, .int .i64 0, .int .i64 0]⟩,
        ⟨none, none, .store 3 (.tmp 4) (.tmp 14)⟩])
      (.seq (.draw 31 [⟨some 15, none, .fa 0 (.tmp 4)⟩,
        ⟨some 16, none, .load false 1 (.tmp 15)⟩,
        ⟨some 17, none, .call (.func 133) [(.tmp 16)]⟩,
        ⟨some 18, none, .not (.tmp 17)⟩,
        ⟨some 19, none, .mv (.tmp 18)⟩,
        ⟨some 20, some (19, false), .fa 1 (.tmp 4)⟩,
        ⟨some 21, some (19, false), .load false 1 (.tmp 20)⟩,
        ⟨some 22, some (19, false), .call (.func 90) [(.tmp 21)]⟩,
        ⟨some 23, some (19, false), .not (.tmp 22)⟩,
        ⟨some 24, none, .pick (.tmp 19) (.const (.bool true)) (.tmp 23)⟩,
        ⟨some 25, none, .mv (.tmp 24)⟩,
        ⟨some 26, some (25, false), .fa 2 (.tmp 4)⟩,
        ⟨some 27, some (25, false), .load false 1 (.tmp 26)⟩,
        ⟨some 28, some (25, false), .call (.func 98) [(.tmp 27)]⟩,
        ⟨some 29, some (25, false), .not (.tmp 28)⟩,
        ⟨some 30, none, .pick (.tmp 25) (.const (.bool true)) (.tmp 29)⟩,
        ⟨some 31, none, .mv (.tmp 30)⟩,
        ⟨some 32, some (31, false), .mv (.tmp 3)⟩,
        ⟨some 33, some (31, false), .bin .gtr 0 (.tmp 32) (.const (.int .i64 0))⟩,
        ⟨some 34, some (31, false), .mv (.tmp 33)⟩,
        ⟨some 35, some (34, true), .mv (.tmp 0)⟩,
        ⟨some 36, some (34, true), .mv (.tmp 3)⟩,
        ⟨some 37, some (34, true), .bin .sub 0 (.tmp 36) (.const (.int .i64 1))⟩,
        ⟨some 38, some (34, true), .ia 3 (.tmp 35) (.tmp 37)⟩,
        ⟨some 39, some (34, true), .fa 0 (.tmp 38)⟩,
        ⟨some 40, some (34, true), .load false 1 (.tmp 39)⟩,
        ⟨some 41, some (34, true), .fa 0 (.tmp 4)⟩,
        ⟨some 42, some (34, true), .load false 1 (.tmp 41)⟩,
        ⟨some 43, some (34, true), .bin .geq 0 (.tmp 40) (.tmp 42)⟩,
        ⟨some 44, some (31, false), .pick (.tmp 34) (.tmp 43) (.const (.bool false))⟩,
        ⟨some 45, none, .pick (.tmp 31) (.const (.bool true)) (.tmp 44)⟩])
      (.cond (.tmp 45) (.seq (.ops [⟨some 2, none, .mv (.const (.bool false))⟩])
       .ret)
      .skip))))
    (.ops [⟨some 9, none, .mv (.tmp 3)⟩,
     ⟨some 10, none, .bin .add 0 (.tmp 9) (.const (.int .i64 1))⟩,
     ⟨some 3, none, .mv (.tmp 10)⟩]))))))
 (.seq (.ops [⟨some 46, none, .mv (.tmp 0)⟩,
   ⟨some 47, none, .len false (.tmp 46)⟩,
   ⟨some 48, none, .bin .leq 0 (.tmp 47) (.const (.int .i64 12))⟩,
   ⟨some 2, none, .mv (.tmp 48)⟩])
 .ret)))
theorem C89_ok : Try.f89.body.bind (comp Try.prog) = some C89 := by kernel_rfl
theorem C89_res : compRs Try.prog Try.f89.results.toList = some [.tmp 2] := by kernel_rfl
theorem C89_nm : (Try.f89.name == "runtime.NumGoroutine") = false := by kernel_rfl
theorem C89_fn {a0 : AV} {H : Heap} {Q : AV → Heap → Prop} (h : vc Try.prog C89 (vcEnd [.tmp 2] Q) H [a0, .any, .any, .any, .any, .any, .any, .any, .any, .any, .any, .any, .any, .any, .any, .any, .any, .any, .any, .any, .any, .any, .any, .any, .any, .any, .any, .any, .any, .any, .any, .any, .any, .any, .any, .any, .any, .any, .any, .any, .any, .any, .any, .any, .any, .any, .any, .any, .any]) : Runs Try.prog 89 [a0] H Q :=
  @fn_go Try.prog mixed 89 Try.f89 C89 [.tmp 2] Try.func89 C89_ok C89_res C89_nm 49 Try.ntmps89 [a0] [a0, .any, .any, .any, .any, .any, .any, .any, .any, .any, .any, .any, .any, .any, .any, .any, .any, .any, .any, .any, .any, .any, .any, .any, .any, .any, .any, .any, .any, .any, .any, .any, .any, .any, .any, .any, .any, .any, .any, .any, .any, .any, .any, .any, .any, .any, .any, .any, .any] H Q h 48 (by kernel_rfl) (by kernel_rfl)

/-- spec.l23Find -/
def C91 : CC :=
 (.seq (.ops [⟨some 4, none, .mv (.const (.int .i64 0))⟩])
 (.seq (.seq (.ops [⟨some 5, none, .mv (.const (.int .i64 0))⟩])
  (.block 0 (.loop (.seq (.seq (.ops [⟨some 6, none, .mv (.tmp 5)⟩,
       ⟨some 7, none, .mv (.tmp 0)⟩,
       ⟨some 8, none, .len false (.tmp 7)⟩,
       ⟨some 9, none, .bin .lss 0 (.tmp 6) (.tmp 8)⟩])
     (.cond (.tmp 9) .skip
     (.exit 0)))
    (.seq (.block 1 (.seq (.ops [⟨some 12, none, .mv (.tmp 0)⟩,
        ⟨some 13, none, .mv (.tmp 5)⟩,
        ⟨some 14, none, .ia 3 (.tmp 12) (.tmp 13)⟩,
        ⟨some 15, none, .fa 0 (.tmp 14)⟩,
        ⟨some 16, none, .load false 1 (.tmp 15)⟩,
        ⟨some 17, none, .mv (.tmp 1)⟩,
        ⟨some 18, none, .bin .eql 0 (.tmp 16) (.tmp 17)⟩])
      (.cond (.tmp 18) (.seq (.ops [⟨some 19, none, .mv (.tmp 5)⟩,
         ⟨some 4, none, .mv (.tmp 19)⟩])
       .ret)
      .skip)))
    (.ops [⟨some 10, none, .mv (.tmp 5)⟩,
     ⟨some 11, none, .bin .add 0 (.tmp 10) (.const (.int .i64 1))⟩,
     ⟨some 5, none, .mv (.tmp 11)⟩]))))))
 (.seq (.ops [⟨some 4, none, .mv (.const (.int .i64 (-1)))⟩])
 .ret)))
theorem C91_ok : Try.f91.body.bind (comp Try.prog) = some C91 := by kernel_rfl
theorem C91_res : compRs Try.prog Try.f91.results.toList = some [.tmp 4] := by kernel_rfl
theorem C91_nm : (Try.f91.name == "runtime.NumGoroutine") = false := by kernel_rfl
theorem C91_fn {a0 a1 : AV} {H : Heap} {Q : AV → Heap → Prop} (h : vc Try.prog C91 (vcEnd [.tmp 4] Q) H [a0, a1, .any, .any, .any, .any, .any, .any, .any, .any, .any, .any, .any, .any, .any, .any, .any, .any, .any, .any]) : Runs Try.prog 91 [a0, a1] H Q :=
  @fn_go Try.prog mixed 91 Try.f91 C91 [.tmp 4] Try.func91 C91_ok C91_res C91_nm 20 Try.ntmps91 [a0, a1] [a0, a1, .any, .any, .any, .any, .any, .any, .any, .any, .any, .any, .any, .any, .any, .any, .any, .any, .any, .any] H Q h 18 (by kernel_rfl) (by kernel_rfl)

/-- spec.ChangeRank -/
def C34 : CC :=
 (.seq (.ops [⟨some 6, none, .mv (.const (.slice none 0 0))⟩,
   ⟨some 7, none, .mv (.const (.int .i64 0))⟩])
 (.seq (.seq (.ops [⟨some 10, none, .mv (.tmp 0)⟩,
    ⟨some 11, none, .call (.func 89) [(.tmp 10)]⟩,
    ⟨some 12, none, .not (.tmp 11)⟩])
  (.cond (.tmp 12) (.seq (.ops [⟨some 6, none, .mv (.const (.slice none 0 0))⟩,
     ⟨some 7, none, .mv (.const (.int .i64 1))⟩])
   .ret)
  .skip))
 (.seq (.seq (.ops [⟨some 13, none, .mv (.tmp 2)⟩,
    ⟨some 14, none, .call (.func 90) [(.tmp 13)]⟩,
    ⟨some 15, none, .not (.tmp 14)⟩])
  (.cond (.tmp 15) (.seq (.ops [⟨some 6, none, .mv (.const (.slice none 0 0))⟩,
     ⟨some 7, none, .mv (.const (.int .i64 2))⟩])
   .ret)
  .skip))
 (.seq (.ops [⟨some 16, none, .mv (.tmp 0)⟩,
   ⟨some 17, none, .mv (.tmp 1)⟩,
   ⟨some 18, none, .call (.func 91) [(.tmp 16), (.tmp 17)]⟩,
   ⟨some 8, none, .mv (.tmp 18)⟩])
 (.seq (.seq (.ops [⟨some 19, none, .mv (.tmp 8)⟩,
    ⟨some 20, none, .bin .lss 0 (.tmp 19) (.const (.int .i64 0))⟩])
  (.cond (.tmp 20) (.seq (.ops [⟨some 6, none, .mv (.const (.slice none 0 0))⟩,
     ⟨some 7, none, .mv (.const (.int .i64 4))⟩])
   .ret)
  .skip))
 (.seq (.ops [⟨some 21, none, .lit 3 []⟩,
   ⟨some 22, none, .mv (.tmp 0)⟩,
   ⟨some 23, none, .app 3 32 (.tmp 21) (.tmp 22)⟩,
   ⟨some 9, none, .mv (.tmp 23)⟩])
 (.seq (.ops [⟨some 24, none, .mv (.tmp 9)⟩,
   ⟨some 25, none, .mv (.tmp 8)⟩,
   ⟨some 26, none, .mv (.tmp 2)⟩,
   ⟨some 27, none, .ia 3 (.tmp 24) (.tmp 25)⟩,
   ⟨some 28, none, .fa 1 (.tmp 27)⟩,
   ⟨none, none, .store 1 (.tmp 28) (.tmp 26)⟩])
 (.seq (.ops [⟨some 29, none, .mv (.tmp 9)⟩,
   ⟨some 6, none, .mv (.tmp 29)⟩,
   ⟨some 7, none, .mv (.const (.int .i64 0))⟩])
 .ret))))))))
theorem C34_ok : Try.f34.body.bind (comp Try.prog) = some C34 := by kernel_rfl
theorem C34_res : compRs Try.prog Try.f34.results.toList = some [.tmp 6, .tmp 7] := by kernel_rfl
theorem C34_nm : (Try.f34.name == "runtime.NumGoroutine") = false := by kernel_rfl
theorem C34_fn {a0 a1 a2 : AV} {H : Heap} {Q : AV → Heap → Prop} (h : vc Try.prog C34 (vcEnd [.tmp 6, .tmp 7] Q) H [a0, a1, a2, .any, .any, .any, .any, .any, .any, .any, .any, .any, .any, .any, .any, .any, .any, .any, .any, .any, .any, .any, .any, .any, .any, .any, .any, .any, .any, .any]) : Runs Try.prog 34 [a0, a1, a2] H Q :=
  @fn_go Try.prog mixed 34 Try.f34 C34 [.tmp 6, .tmp 7] Try.func34 C34_ok C34_res C34_nm 30 Try.ntmps34 [a0, a1, a2] [a0, a1, a2, .any, .any, .any, .any, .any, .any, .any, .any, .any, .any, .any, .any, .any, .any, .any, .any, .any, .any, .any, .any, .any, .any, .any, .any, .any, .any, .any] H Q h 27 (by kernel_rfl) (by kernel_rfl)

/-- laws.toDemand -/
def C92 : CC :=
 (.seq (.ops [⟨some 1, none, .box (.tmp 0)⟩,
   ⟨some 2, none, .alloc [.string ⟨#[]⟩, .int .i64 0, .int .i64 0]⟩])
 (.seq (.ops [⟨some 3, none, .alloc [.string ⟨#[]⟩, .int .i64 0, .int .i64 0]⟩])
 (.seq (.ops [⟨some 4, none, .fa 0 (.tmp 1)⟩,
   ⟨some 5, none, .load false 1 (.tmp 4)⟩,
   ⟨some 6, none, .fa 0 (.tmp 3)⟩,
   ⟨none, none, .store 1 (.tmp 6) (.tmp 5)⟩])
 (.seq (.ops [⟨some 7, none, .fa 1 (.tmp 1)⟩,
   ⟨some 8, none, .load false 1 (.tmp 7)⟩,
   ⟨some 9, none, .fa 1 (.tmp 3)⟩,
   ⟨none, none, .store 1 (.tmp 9) (.tmp 8)⟩])
 (.seq (.ops [⟨some 10, none, .fa 2 (.tmp 1)⟩,
   ⟨some 11, none, .load false 1 (.tmp 10)⟩,
   ⟨some 12, none, .fa 2 (.tmp 3)⟩,
   ⟨none, none, .store 1 (.tmp 12) (.tmp 11)⟩])
 (.seq (.ops [⟨some 13, none, .load true 3 (.tmp 3)⟩,
   ⟨none, none, .store 3 (.tmp 2) (.tmp 13)⟩])
 .ret))))))
theorem C92_ok : Try.f92.body.bind (comp Try.prog) = some C92 := by kernel_rfl
theorem C92_res : compRs Try.prog Try.f92.results.toList = some [.cell true 3 2] := by kernel_rfl
theorem C92_nm : (Try.f92.name == "runtime.NumGoroutine") = false := by kernel_rfl
theorem C92_fn {a0 : AV} {H : Heap} {Q : AV → Heap → Prop} (h : vc Try.prog C92 (vcEnd [.cell true 3 2] Q) H [a0, .any, .any, .any, .any, .any, .any, .any, .any, .any, .any, .any, .any, .any]) : Runs Try.prog 92 [a0] H Q :=
  @fn_go Try.prog mixed 92 Try.f92 C92 [.cell true 3 2] Try.func92 C92_ok C92_res C92_nm 14 Try.ntmps92 [a0] [a0, .any, .any, .any, .any, .any, .any, .any, .any, .any, .any, .any, .any, .any] H Q h 13 (by kernel_rfl) (by kernel_rfl)

/-- laws.toDemandS -/
def C35 : CC :=
 (.seq (.ops [⟨some 2, none, .mv (.const (.slice none 0 0))⟩])
 (.seq (.ops [⟨some 5, none, .mv (.tmp 0)⟩,
   ⟨some 6, none, .len false (.tmp 5)⟩,
   ⟨some 7, none, .mks [.string ⟨#[]⟩, .int .i64 0, .int .i64 0] 32 (.tmp 6)⟩,
   ⟨some 3, none, .mv (.tmp 7)⟩])
 (.seq (.seq (.ops [⟨some 4, none, .mv (.const (.int .i64 0))⟩])
  (.block 0 (.loop (.seq (.seq (.ops [⟨some 8, none, .mv (.tmp 4)⟩,
       ⟨some 9, none, .mv (.tmp 0)⟩,
       ⟨some 10, none, .len false (.tmp 9)⟩,
       ⟨some 11, none, .bin .lss 0 (.tmp 8) (.tmp 10)⟩])
     (.cond (.tmp 11) .skip
     (.exit 0)))
    (.seq (.block 1 (.ops [⟨some 14, none, .mv (.tmp 3)⟩,
       ⟨some 15, none, .mv (.tmp 4)⟩,
       ⟨some 16, none, .mv (.tmp 0)⟩,
       ⟨some 17, none, .mv (.tmp 4)⟩,
       ⟨some 18, none, .ia 3 (.tmp 16) (.tmp 17)⟩,
       ⟨some 19, none, .load true 3 (.tmp 18)⟩,
       ⟨some 20, none, .call (.func 92) [(.tmp 19)]⟩,
       ⟨some 21, none, .ia 3 (.tmp 14) (.tmp 15)⟩,
       ⟨none, none, .store 3 (.tmp 21) (.tmp 20)⟩]))
    (.ops [⟨some 12, none, .mv (.tmp 4)⟩,
     ⟨some 13, none, .bin .add 0 (.tmp 12) (.const (.int .i64 1))⟩,
     ⟨some 4, none, .mv (.tmp 13)⟩]))))))
 (.seq (.ops [⟨some 22, none, .mv (.tmp 3)⟩,
   ⟨some 2, none, .mv (.tmp 22)⟩])
 .ret))))
theorem C35_ok : Try.f35.body.bind (comp Try.prog) = some C35 := by kernel_rfl
theorem C35_res : compRs Try.prog Try.f35.results.toList = some [.tmp 2] := by kernel_rfl
theorem C35_nm : (Try.f35.name == "runtime.NumGoroutine") = false := by kernel_rfl
theorem C35_fn {a0 : AV} {H : Heap} {Q : AV → Heap → Prop} (h : vc Try.prog C35 (vcEnd [.tmp 2] Q) H [a0, .any, .any, .any, .any, .any, .any, .any, .any, .any, .any, .any, .any, .any, .any, .any, .any, .any, .any, .any, .any, .any, .any]) : Runs Try.prog 35 [a0] H Q :=
  @fn_go Try.prog mixed 35 Try.f35 C35 [.tmp 2] Try.func35 C35_ok C35_res C35_nm 23 Try.ntmps35 [a0] [a0, .any, .any, .any, .any, .any, .any, .any, .any, .any, .any, .any, .any, .any, .any, .any, .any, .any, .any, .any, .any, .any, .any] H Q h 22 (by kernel_rfl) (by kernel_rfl)

/-- slices.IndexFunc[[]impl.Demand,impl.Demand] -/
def C163 : CC :=
 (.seq (.ops [⟨some 4, none, .mv (.const (.int .i64 0))⟩])
 (.seq (.seq (.ops [⟨some 6, none, .mv (.tmp 0)⟩,
    ⟨some 7, none, .len false (.tmp 6)⟩,
    ⟨some 8, none, .mv (.const (.int .i64 0))⟩])
  (.block 0 (.loop (.seq (.ops [⟨some 9, none, .bin .lss 0 (.tmp 8) (.tmp 7)⟩])
    (.seq (.cond (.tmp 9) .skip
     (.exit 0))
    (.seq (.block 1 (.seq (.ops [⟨some 10, none, .mv (.tmp 8)⟩,
        ⟨some 5, none, .mv (.tmp 10)⟩])
      (.seq (.ops [⟨some 11, none, .mv (.tmp 1)⟩,
        ⟨some 12, none, .mv (.tmp 0)⟩,
        ⟨some 13, none, .mv (.tmp 5)⟩,
        ⟨some 14, none, .ia 3 (.tmp 12) (.tmp 13)⟩,
        ⟨some 15, none, .load true 3 (.tmp 14)⟩,
        ⟨some 16, none, .call (.tmp 11) [(.tmp 15)]⟩])
      (.cond (.tmp 16) (.seq (.ops [⟨some 17, none, .mv (.tmp 5)⟩,
         ⟨some 4, none, .mv (.tmp 17)⟩])
       .ret)
      .skip))))
    (.ops [⟨some 18, none, .bin .add 0 (.tmp 8) (.const (.int .i64 1))⟩,
     ⟨some 8, none, .mv (.tmp 18)⟩])))))))
 (.seq (.ops [⟨some 4, none, .mv (.const (.int .i64 (-1)))⟩])
 .ret)))
theorem C163_ok : Try.f163.body.bind (comp Try.prog) = some C163 := by kernel_rfl
theorem C163_res : compRs Try.prog Try.f163.results.toList = some [.tmp 4] := by kernel_rfl
theorem C163_nm : (Try.f163.name == "runtime.NumGoroutine") = false := by kernel_rfl
theorem C163_fn {a0 a1 : AV} {H : Heap} {Q : AV → Heap → Prop} (h : vc Try.prog C163 (vcEnd [.tmp 4] Q) H [a0, a1, .any, .any, .any, .any, .any, .any, .any, .any, .any, .any, .any, .any, .any, .any, .any, .any, .any]) : Runs Try.prog 163 [a0, a1] H Q :=
  @fn_go Try.prog mixed 163 Try.f163 C163 [.tmp 4] Try.func163 C163_ok C163_res C163_nm 19 Try.ntmps163 [a0, a1] [a0, a1, .any, .any, .any, .any, .any, .any, .any, .any, .any, .any, .any, .any, .any, .any, .any, .any, .any] H Q h 17 (by kernel_rfl) (by kernel_rfl)

/-- slices.ContainsFunc[[]impl.Demand,impl.Demand] -/
def C160 : CC :=
 (.seq (.ops [⟨some 4, none, .mv (.const (.bool false))⟩])
 (.seq (.ops [⟨some 5, none, .mv (.tmp 0)⟩,
   ⟨some 6, none, .mv (.tmp 1)⟩,
   ⟨some 7, none, .call (.func 163) [(.tmp 5), (.tmp 6)]⟩,
   ⟨some 8, none, .bin .geq 0 (.tmp 7) (.const (.int .i64 0))⟩,
   ⟨some 4, none, .mv (.tmp 8)⟩])
 .ret))
theorem C160_ok : Try.f160.body.bind (comp Try.prog) = some C160 := by kernel_rfl
theorem C160_res : compRs Try.prog Try.f160.results.toList = some [.tmp 4] := by kernel_rfl
theorem C160_nm : (Try.f160.name == "runtime.NumGoroutine") = false := by kernel_rfl
theorem C160_fn {a0 a1 : AV} {H : Heap} {Q : AV → Heap → Prop} (h : vc Try.prog C160 (vcEnd [.tmp 4] Q) H [a0, a1, .any, .any, .any, .any, .any, .any, .any]) : Runs Try.prog 160 [a0, a1] H Q :=
  @fn_go Try.prog mixed 160 Try.f160 C160 [.tmp 4] Try.func160 C160_ok C160_res C160_nm 9 Try.ntmps160 [a0, a1] [a0, a1, .any, .any, .any, .any, .any, .any, .any] H Q h 7 (by kernel_rfl) (by kernel_rfl)

/-- impl.all[impl.Demand]$1 -/
def C161 : CC :=
 (.seq (.ops [⟨some 2, none, .box (.tmp 0)⟩,
   ⟨some 3, none, .mv (.const (.bool false))⟩])
 (.seq (.ops [⟨some 4, none, .load false 1 (.tmp 1)⟩,
   ⟨some 5, none, .load true 3 (.tmp 2)⟩,
   ⟨some 6, none, .call (.tmp 4) [(.tmp 5)]⟩,
   ⟨some 7, none, .not (.tmp 6)⟩,
   ⟨some 3, none, .mv (.tmp 7)⟩])
 .ret))
theorem C161_ok : Try.f161.body.bind (comp Try.prog) = some C161 := by kernel_rfl
theorem C161_res : compRs Try.prog Try.f161.results.toList = some [.tmp 3] := by kernel_rfl
theorem C161_nm : (Try.f161.name == "runtime.NumGoroutine") = false := by kernel_rfl
theorem C161_fn {a0 a1 : AV} {H : Heap} {Q : AV → Heap → Prop} (h : vc Try.prog C161 (vcEnd [.tmp 3] Q) H [a0, a1, .any, .any, .any, .any, .any, .any]) : Runs Try.prog 161 [a0, a1] H Q :=
  @fn_go Try.prog mixed 161 Try.f161 C161 [.tmp 3] Try.func161 C161_ok C161_res C161_nm 8 Try.ntmps161 [a0, a1] [a0, a1, .any, .any, .any, .any, .any, .any] H Q h 6 (by kernel_rfl) (by kernel_rfl)

/-- impl.all[impl.Demand] -/
def C140 : CC :=
 (.seq (.ops [⟨some 3, none, .box (.tmp 1)⟩,
   ⟨some 4, none, .mv (.const (.bool false))⟩])
 (.seq (.ops [⟨some 5, none, .mv (.tmp 0)⟩,
   ⟨some 6, none, .mkf 161 [(.tmp 3)]⟩,
   ⟨some 7, none, .call (.func 160) [(.tmp 5), (.tmp 6)]⟩,
   ⟨some 8, none, .not (.tmp 7)⟩,
   ⟨some 4, none, .mv (.tmp 8)⟩])
 .ret))
theorem C140_ok : Try.f140.body.bind (comp Try.prog) = some C140 := by kernel_rfl
theorem C140_res : compRs Try.prog Try.f140.results.toList = some [.tmp 4] := by kernel_rfl
theorem C140_nm : (Try.f140.name == "runtime.NumGoroutine") = false := by kernel_rfl
theorem C140_fn {a0 a1 : AV} {H : Heap} {Q : AV → Heap → Prop} (h : vc Try.prog C140 (vcEnd [.tmp 4] Q) H [a0, a1, .any, .any, .any, .any, .any, .any, .any]) : Runs Try.prog 140 [a0, a1] H Q :=
  @fn_go Try.prog mixed 140 Try.f140 C140 [.tmp 4] Try.func140 C140_ok C140_res C140_nm 9 Try.ntmps140 [a0, a1] [a0, a1, .any, .any, .any, .any, .any, .any, .any] H Q h 7 (by kernel_rfl) (by kernel_rfl)

/-- impl.isRank -/
def C94 : CC :=
 (.seq (.ops [⟨some 2, none, .mv (.const (.bool false))⟩])
 (.seq (.ops [⟨some 3, none, .mv (.tmp 0)⟩,
   ⟨some 4, none, .call (.func 87) [(.tmp 3), (.const (.int .i64 1)), (.const (.int .i64 5))]⟩,
   ⟨some 2, none, .mv (.tmp 4)⟩])
 .ret))
theorem C94_ok : Try.f94.body.bind (comp Try.prog) = some C94 := by kernel_rfl
theorem C94_res : compRs Try.prog Try.f94.results.toList = some [.tmp 2] := by kernel_rfl
theorem C94_nm : (Try.f94.name == "runtime.NumGoroutine") = false := by kernel_rfl
theorem C94_fn {a0 : AV} {H : Heap} {Q : AV → Heap → Prop} (h : vc Try.prog C94 (vcEnd [.tmp 2] Q) H [a0, .any, .any, .any, .any]) : Runs Try.prog 94 [a0] H Q :=
  @fn_go Try.prog mixed 94 Try.f94 C94 [.tmp 2] Try.func94 C94_ok C94_res C94_nm 5 Try.ntmps94 [a0] [a0, .any, .any, .any, .any] H Q h 4 (by kernel_rfl) (by kernel_rfl)

/-- impl.AreDemands$1 -/
def C141 : CC :=
 (.seq (.ops [⟨some 1, none, .box (.tmp 0)⟩,
   ⟨some 2, none, .mv (.const (.bool false))⟩])
 (.seq (.ops [⟨some 3, none, .fa 0 (.tmp 1)⟩,
   ⟨some 4, none, .load false 1 (.tmp 3)⟩,
   ⟨some 5, none, .call (.func 139) [(.tmp 4)]⟩,
   ⟨some 6, none, .mv (.tmp 5)⟩,
   ⟨some 7, some (6, true), .fa 1 (.tmp 1)⟩,
   ⟨some 8, some (6, true), .load false 1 (.tmp 7)⟩,
   ⟨some 9, some (6, true), .call (.func 94) [(.tmp 8)]⟩,
   ⟨some 10, none, .pick (.tmp 6) (.tmp 9) (.const (.bool false))⟩,
   ⟨some 11, none, .mv (.tmp 10)⟩,
   ⟨some 12, some (11, true), .fa 2 (.tmp 1)⟩,
   ⟨some 13, some (11, true), .load false 1 (.tmp 12)⟩,
   ⟨some 14, some (11, true), .call (.func 100) [(.tmp 13)]⟩,
   ⟨some 15, none, .pick (.tmp 11) (.tmp 14) (.const (.bool false))⟩,
   ⟨some 2, none, .mv (.tmp 15)⟩])
 .ret))
theorem C141_ok : Try.f141.body.bind (comp Try.prog) = some C141 := by kernel_rfl
theorem C141_res : compRs Try.prog Try.f141.results.toList = some [.tmp 2] := by kernel_rfl
theorem C141_nm : (Try.f141.name == "runtime.NumGoroutine") = false := by kernel_rfl
theorem C141_fn {a0 : AV} {H : Heap} {Q : AV → Heap → Prop} (h : vc Try.prog C141 (vcEnd [.tmp 2] Q) H [a0, .any, .any, .any, .any, .any, .any, .any, .any, .any, .any, .any, .any, .any, .any, .any]) : Runs Try.prog 141 [a0] H Q :=
  @fn_go Try.prog mixed 141 Try.f141 C141 [.tmp 2] Try.func141 C141_ok C141_res C141_nm 16 Try.ntmps141 [a0] [a0, .any, .any, .any, .any, .any, .any, .any, .any, .any, .any, .any, .any, .any, .any, .any] H Q h 15 (by kernel_rfl) (by kernel_rfl)

/-- impl.rising[impl.Demand] -/
def C142 : CC :=
 (.seq (.ops [⟨some 4, none, .mv (.const (.bool false))⟩])
 (.seq (.seq (.ops [⟨some 5, none, .mv (.const (.int .i64 1))⟩])
  (.block 0 (.loop (.seq (.seq (.ops [⟨some 6, none, .mv (.tmp 5)⟩,
       ⟨some 7, none, .mv (.tmp 0)⟩,
       ⟨some 8, none, .len false (.tmp 7)⟩,
       ⟨some 9, none, .bin .lss 0 (.tmp 6) (.tmp 8)⟩])
     (.cond (.tmp 9) .skip
     (.exit 0)))
    (.seq (.block 1 (.seq (.draw 12 [⟨some 12, none, .mv (.tmp 1)⟩,
        ⟨some 13, none, .mv (.tmp 0)⟩,
        ⟨some 14, none, .mv (.tmp 5)⟩,
        ⟨some 15, none, .bin .sub 0 (.tmp 14) (.const (.int .i64 1))⟩,
        ⟨some 16, none, .ia 3 (.tmp 13) (.tmp 15)⟩,
        ⟨some 17, none, .load true 3 (.tmp 16)⟩,
        ⟨some 18, none, .mv (.tmp 0)⟩,
        ⟨some 19, none, .mv (.tmp 5)⟩,
        ⟨some 20, none, .ia 3 (.tmp 18) (.tmp 19)⟩,
        ⟨some 21, none, .load true 3 (.tmp 20)⟩,
        ⟨some 22, none, .call (.tmp 12) [(.tmp 17), (.tmp 21)]⟩,
        ⟨some 23, none, .bin .geq 0 (.tmp 22) (.const (.int .i64 0))⟩])
      (.cond (.tmp 23) (.seq (.ops [⟨some 4, none, .mv (.const (.bool false))⟩])
       .ret)
      .skip)))
    (.ops [⟨some 10, none, .mv (.tmp 5)⟩,
     ⟨some 11, none, .bin .add 0 (.tmp 10) (.const (.int .i64 1))⟩,
     ⟨some 5, none, .mv (.tmp 11)⟩]))))))
 (.seq (.ops [⟨some 4, none, .mv (.const (.bool true))⟩])
 .ret)))
theorem C142_ok : Try.f142.body.bind (comp Try.prog) = some C142 := by kernel_rfl
theorem C142_res : compRs Try.prog Try.f142.results.toList = some [.tmp 4] := by kernel_rfl
theorem C142_nm : (Try.f142.name == "runtime.NumGoroutine") = false := by kernel_rfl
theorem C142_fn {a0 a1 : AV} {H : Heap} {Q : AV → Heap → Prop} (h : vc Try.prog C142 (vcEnd [.tmp 4] Q) H [a0, a1, .any, .any, .any, .any, .any, .any, .any, .any, .any, .any, .any, .any, .any, .any, .any, .any, .any, .any, .any, .any, .any, .any]) : Runs Try.prog 142 [a0, a1] H Q :=
  @fn_go Try.prog mixed 142 Try.f142 C142 [.tmp 4] Try.func142 C142_ok C142_res C142_nm 24 Try.ntmps142 [a0, a1] [a0, a1, .any, .any, .any, .any, .any, .any, .any, .any, .any, .any, .any, .any, .any, .any, .any, .any, .any, .any, .any, .any, .any, .any] H Q h 22 (by kernel_rfl) (by kernel_rfl)

/-- impl.AreDemands$2 -/
def C143 : CC :=
 (.seq (.ops [⟨some 2, none, .box (.tmp 0)⟩,
   ⟨some 3, none, .box (.tmp 1)⟩,
   ⟨some 4, none, .mv (.const (.int .i64 0))⟩])
 (.seq (.ops [⟨some 5, none, .fa 0 (.tmp 2)⟩,
   ⟨some 6, none, .load false 1 (.tmp 5)⟩,
   ⟨some 7, none, .fa 0 (.tmp 3)⟩,
   ⟨some 8, none, .load false 1 (.tmp 7)⟩,
   ⟨some 9, none, .call (.func 144) [(.tmp 6), (.tmp 8)]⟩,
   ⟨some 4, none, .mv (.tmp 9)⟩])
 .ret))
theorem C143_ok : Try.f143.body.bind (comp Try.prog) = some C143 := by kernel_rfl
theorem C143_res : compRs Try.prog Try.f143.results.toList = some [.tmp 4] := by kernel_rfl
theorem C143_nm : (Try.f143.name == "runtime.NumGoroutine") = false := by kernel_rfl
theorem C143_fn {a0 a1 : AV} {H : Heap} {Q : AV → Heap → Prop} (h : vc Try.prog C143 (vcEnd [.tmp 4] Q) H [a0, a1, .any, .any, .any, .any, .any, .any, .any, .any]) : Runs Try.prog 143 [a0, a1] H Q :=
  @fn_go Try.prog mixed 143 Try.f143 C143 [.tmp 4] Try.func143 C143_ok C143_res C143_nm 10 Try.ntmps143 [a0, a1] [a0, a1, .any, .any, .any, .any, .any, .any, .any, .any] H Q h 8 (by kernel_rfl) (by kernel_rfl)

/-- impl.AreDemands -/
def C93 : CC :=
 (.seq (.ops [⟨some 2, none, .mv (.const (.bool false))⟩])
 (.seq (.ops [⟨some 4, none, .mv (.tmp 0)⟩,
   ⟨some 5, none, .call (.func 140) [(.tmp 4), (.func 141)]⟩,
   ⟨some 3, none, .mv (.tmp 5)⟩])
 (.seq (.ops [⟨some 6, none, .mv (.tmp 0)⟩,
   ⟨some 7, none, .len false (.tmp 6)⟩,
   ⟨some 8, none, .bin .leq 0 (.tmp 7) (.const (.int .i64 12))⟩,
   ⟨some 9, none, .mv (.tmp 8)⟩,
   ⟨some 10, some (9, true), .mv (.tmp 3)⟩,
   ⟨some 11, none, .pick (.tmp 9) (.tmp 10) (.const (.bool false))⟩,
   ⟨some 12, none, .mv (.tmp 11)⟩,
   ⟨some 13, some (12, true), .mv (.tmp 0)⟩,
   ⟨some 14, some (12, true), .call (.func 142) [(.tmp 13), (.func 143)]⟩,
   ⟨some 15, none, .pick (.tmp 12) (.tmp 14) (.const (.bool false))⟩,
   ⟨some 2, none, .mv (.tmp 15)⟩])
 .ret)))
theorem C93_ok : Try.f93.body.bind (comp Try.prog) = some C93 := by kernel_rfl
theorem C93_res : compRs Try.prog Try.f93.results.toList = some [.tmp 2] := by kernel_rfl
theorem C93_nm : (Try.f93.name == "runtime.NumGoroutine") = false := by kernel_rfl
theorem C93_fn {a0 : AV} {H : Heap} {Q : AV → Heap → Prop} (h : vc Try.prog C93 (vcEnd [.tmp 2] Q) H [a0, .any, .any, .any, .any, .any, .any, .any, .any, .any, .any, .any, .any, .any, .any, .any]) : Runs Try.prog 93 [a0] H Q :=
  @fn_go Try.prog mixed 93 Try.f93 C93 [.tmp 2] Try.func93 C93_ok C93_res C93_nm 16 Try.ntmps93 [a0] [a0, .any, .any, .any, .any, .any, .any, .any, .any, .any, .any, .any, .any, .any, .any, .any] H Q h 15 (by kernel_rfl) (by kernel_rfl)

/-- impl.indexOf[impl.Demand] -/
def C145 : CC :=
 (.seq (.ops [⟨some 4, none, .mv (.const (.int .i64 0))⟩,
   ⟨some 5, none, .mv (.const (.int .i64 0))⟩])
 (.seq (.ops [⟨some 7, none, .mv (.tmp 0)⟩,
   ⟨some 8, none, .mv (.tmp 1)⟩,
   ⟨some 9, none, .call (.func 163) [(.tmp 7), (.tmp 8)]⟩,
   ⟨some 6, none, .mv (.tmp 9)⟩])
 (.seq (.seq (.ops [⟨some 10, none, .mv (.tmp 6)⟩,
    ⟨some 11, none, .bin .lss 0 (.tmp 10) (.const (.int .i64 0))⟩])
  (.cond (.tmp 11) (.seq (.ops [⟨some 4, none, .mv (.const (.int .i64 0))⟩,
     ⟨some 5, none, .mv (.const (.int .i64 4))⟩])
   .ret)
  .skip))
 (.seq (.ops [⟨some 12, none, .mv (.tmp 6)⟩,
   ⟨some 4, none, .mv (.tmp 12)⟩,
   ⟨some 5, none, .mv (.const (.int .i64 0))⟩])
 .ret))))
theorem C145_ok : Try.f145.body.bind (comp Try.prog) = some C145 := by kernel_rfl
theorem C145_res : compRs Try.prog Try.f145.results.toList = some [.tmp 4, .tmp 5] := by kernel_rfl
theorem C145_nm : (Try.f145.name == "runtime.NumGoroutine") = false := by kernel_rfl
theorem C145_fn {a0 a1 : AV} {H : Heap} {Q : AV → Heap → Prop} (h : vc Try.prog C145 (vcEnd [.tmp 4, .tmp 5] Q) H [a0, a1, .any, .any, .any, .any, .any, .any, .any, .any, .any, .any, .any]) : Runs Try.prog 145 [a0, a1] H Q :=
  @fn_go Try.prog mixed 145 Try.f145 C145 [.tmp 4, .tmp 5] Try.func145 C145_ok C145_res C145_nm 13 Try.ntmps145 [a0, a1] [a0, a1, .any, .any, .any, .any, .any, .any, .any, .any, .any, .any, .any] H Q h 11 (by kernel_rfl) (by kernel_rfl)

/-- impl.findDemand$1 -/
def C146 : CC :=
 (.seq (.ops [⟨some 2, none, .box (.tmp 0)⟩,
   ⟨some 3, none, .mv (.const (.bool false))⟩])
 (.seq (.ops [⟨some 4, none, .fa 0 (.tmp 2)⟩,
   ⟨some 5, none, .load false 1 (.tmp 4)⟩,
   ⟨some 6, none, .load false 1 (.tmp 1)⟩,
   ⟨some 7, none, .bin .eql 0 (.tmp 5) (.tmp 6)⟩,
   ⟨some 3, none, .mv (.tmp 7)⟩])
 .ret))
theorem C146_ok : Try.f146.body.bind (comp Try.prog) = some C146 := by kernel_rfl
theorem C146_res : compRs Try.prog Try.f146.results.toList = some [.tmp 3] := by kernel_rfl
theorem C146_nm : (Try.f146.name == "runtime.NumGoroutine") = false := by kernel_rfl
theorem C146_fn {a0 a1 : AV} {H : Heap} {Q : AV → Heap → Prop} (h : vc Try.prog C146 (vcEnd [.tmp 3] Q) H [a0, a1, .any, .any, .any, .any, .any, .any]) : Runs Try.prog 146 [a0, a1] H Q :=
  @fn_go Try.prog mixed 146 Try.f146 C146 [.tmp 3] Try.func146 C146_ok C146_res C146_nm 8 Try.ntmps146 [a0, a1] [a0, a1, .any, .any, .any, .any, .any, .any] H Q h 6 (by kernel_rfl) (by kernel_rfl)

/-- impl.findDemand -/
def C95 : CC :=
 (.seq (.ops [⟨some 3, none, .box (.tmp 1)⟩,
   ⟨some 4, none, .mv (.const (.int .i64 0))⟩,
   ⟨some 5, none, .mv (.const (.int .i64 0))⟩])
 (.seq (.ops [⟨some 6, none, .mv (.tmp 0)⟩,
   ⟨some 7, none, .mkf 146 [(.tmp 3)]⟩,
   ⟨some 8, none, .call (.func 145) [(.tmp 6), (.tmp 7)]⟩,
   ⟨some 9, none, .ext (.tmp 8) 0⟩,
   ⟨some 10, none, .ext (.tmp 8) 1⟩,
   ⟨some 4, none, .mv (.tmp 9)⟩,
   ⟨some 5, none, .mv (.tmp 10)⟩])
 .ret))
theorem C95_ok : Try.f95.body.bind (comp Try.prog) = some C95 := by kernel_rfl
theorem C95_res : compRs Try.prog Try.f95.results.toList = some [.tmp 4, .tmp 5] := by kernel_rfl
theorem C95_nm : (Try.f95.name == "runtime.NumGoroutine") = false := by kernel_rfl
theorem C95_fn {a0 a1 : AV} {H : Heap} {Q : AV → Heap → Prop} (h : vc Try.prog C95 (vcEnd [.tmp 4, .tmp 5] Q) H [a0, a1, .any, .any, .any, .any, .any, .any, .any, .any, .any]) : Runs Try.prog 95 [a0, a1] H Q :=
  @fn_go Try.prog mixed 95 Try.f95 C95 [.tmp 4, .tmp 5] Try.func95 C95_ok C95_res C95_nm 11 Try.ntmps95 [a0, a1] [a0, a1, .any, .any, .any, .any, .any, .any, .any, .any, .any] H Q h 9 (by kernel_rfl) (by kernel_rfl)

/-- impl.copyOf[impl.Demand] -/
def C96 : CC :=
 (.seq (.ops [⟨some 2, none, .mv (.const (.slice none 0 0))⟩])
 (.seq (.ops [⟨some 3, none, .lit 3 []⟩,
   ⟨some 4, none, .mv (.tmp 0)⟩,
   ⟨some 5, none, .app 3 32 (.tmp 3) (.tmp 4)⟩,
   ⟨some 2, none, .mv (.tmp 5)⟩])
 .ret))
theorem C96_ok : Try.f96.body.bind (comp Try.prog) = some C96 := by kernel_rfl
theorem C96_res : compRs Try.prog Try.f96.results.toList = some [.tmp 2] := by kernel_rfl
theorem C96_nm : (Try.f96.name == "runtime.NumGoroutine") = false := by kernel_rfl
theorem C96_fn {a0 : AV} {H : Heap} {Q : AV → Heap → Prop} (h : vc Try.prog C96 (vcEnd [.tmp 2] Q) H [a0, .any, .any, .any, .any, .any]) : Runs Try.prog 96 [a0] H Q :=
  @fn_go Try.prog mixed 96 Try.f96 C96 [.tmp 2] Try.func96 C96_ok C96_res C96_nm 6 Try.ntmps96 [a0] [a0, .any, .any, .any, .any, .any] H Q h 5 (by kernel_rfl) (by kernel_rfl)

/-- impl.ChangeRank -/
def C36 : CC :=
 (.seq (.ops [⟨some 6, none, .mv (.const (.slice none 0 0))⟩,
   ⟨some 7, none, .mv (.const (.int .i64 0))⟩])
 (.seq (.block 0 (.seq (.ops [⟨some 12, none, .mv (.tmp 0)⟩,
     ⟨some 13, none, .call (.func 93) [(.tmp 12)]⟩,
     ⟨some 14, none, .not (.tmp 13)⟩,
     ⟨some 11, none, .mv (.tmp 14)⟩])
   (.cond (.tmp 11) (.seq (.ops [⟨some 6, none, .mv (.const (.slice none 0 0))⟩,
      ⟨some 7, none, .mv (.const (.int .i64 1))⟩])
    .ret)
   (.seq (.ops [⟨some 16, none, .mv (.tmp 2)⟩,
      ⟨some 17, none, .call (.func 94) [(.tmp 16)]⟩,
      ⟨some 18, none, .not (.tmp 17)⟩,
      ⟨some 15, none, .mv (.tmp 18)⟩])
    (.cond (.tmp 15) (.seq (.ops [⟨some 6, none, .mv (.const (.slice none 0 0))⟩,
       ⟨some 7, none, .mv (.const (.int .i64 2))⟩])
     .ret)
    .skip)))))
 (.seq (.ops [⟨some 20, none, .mv (.tmp 0)⟩,
   ⟨some 21, none, .mv (.tmp 1)⟩,
   ⟨some 22, none, .call (.func 95) [(.tmp 20), (.tmp 21)]⟩,
   ⟨some 19, none, .mv (.tmp 22)⟩,
   ⟨some 23, none, .ext (.tmp 19) 0⟩,
   ⟨some 24, none, .ext (.tmp 19) 1⟩,
   ⟨some 8, none, .mv (.tmp 23)⟩,
   ⟨some 9, none, .mv (.tmp 24)⟩])
 (.seq (.seq (.ops [⟨some 25, none, .mv (.tmp 9)⟩,
    ⟨some 26, none, .bin .neq 0 (.tmp 25) (.const (.int .i64 0))⟩])
  (.cond (.tmp 26) (.seq (.ops [⟨some 27, none, .mv (.tmp 9)⟩,
     ⟨some 6, none, .mv (.const (.slice none 0 0))⟩,
     ⟨some 7, none, .mv (.tmp 27)⟩])
   .ret)
  .skip))
 (.seq (.ops [⟨some 28, none, .mv (.tmp 0)⟩,
   ⟨some 29, none, .call (.func 96) [(.tmp 28)]⟩,
   ⟨some 10, none, .mv (.tmp 29)⟩])
 (.seq (.ops [⟨some 30, none, .mv (.tmp 10)⟩,
   ⟨some 31, none, .mv (.tmp 8)⟩,
   ⟨some 32, none, .mv (.tmp 2)⟩,
   ⟨some 33, none, .ia 3 (.tmp 30) (.tmp 31)⟩,
   ⟨some 34, none, .fa 1 (.tmp 33)⟩,
   ⟨none, none, .store 1 (.tmp 34) (.tmp 32)⟩])
 (.seq (.ops [⟨some 35, none, .mv (.tmp 10)⟩,
   ⟨some 6, none, .mv (.tmp 35)⟩,
   ⟨some 7, none, .mv (.const (.int .i64 0))⟩])
 .ret)))))))
theorem C36_ok : Try.f36.body.bind (comp Try.prog) = some C36 := by kernel_rfl
theorem C36_res : compRs Try.prog Try.f36.results.toList = some [.tmp 6, .tmp 7] := by kernel_rfl
theorem C36_nm : (Try.f36.name == "runtime.NumGoroutine") = false := by kernel_rfl
theorem C36_fn {a0 a1 a2 : AV} {H : Heap} {Q : AV → Heap → Prop} (h : vc Try.prog C36 (vcEnd [.tmp 6, .tmp 7] Q) H [a0, a1, a2, .any, .any, .any, .any, .any, .any, .any, .any, .any, .any, .any, .any, .any, .any, .any, .any, .any, .any, .any, .any, .any, .any, .any, .any, .any, .any, .any, .any, .any, .any, .any, .any, .any]) : Runs Try.prog 36 [a0, a1, a2] H Q :=
  @fn_go Try.prog mixed 36 Try.f36 C36 [.tmp 6, .tmp 7] Try.func36 C36_ok C36_res C36_nm 36 Try.ntmps36 [a0, a1, a2] [a0, a1, a2, .any, .any, .any, .any, .any, .any, .any, .any, .any, .any, .any, .any, .any, .any, .any, .any, .any, .any, .any, .any, .any, .any, .any, .any, .any, .any, .any, .any, .any, .any, .any, .any, .any] H Q h 33 (by kernel_rfl) (by kernel_rfl)

/-- laws.eqDemand -/
def C97 : CC :=
 (.seq (.ops [⟨some 2, none, .box (.tmp 0)⟩,
   ⟨some 3, none, .box (.tmp 1)⟩,
   ⟨some 4, none, .mv (.const (.bool false))⟩])
 (.seq (.seq (.ops [⟨some 5, none, .fa 0 (.tmp 2)⟩,
    ⟨some 6, none, .load false 1 (.tmp 5)⟩,
    ⟨some 7, none, .fa 0 (.tmp 3)⟩,
    ⟨some 8, none, .load false 1 (.tmp 7)⟩,
    ⟨some 9, none, .bin .neq 0 (.tmp 6) (.tmp 8)⟩])
  (.cond (.tmp 9) (.seq (.ops [⟨some 4, none, .mv (.const (.bool false))⟩])
   .ret)
  .skip))
 (.seq (.seq (.ops [⟨some 10, none, .fa 1 (.tmp 2)⟩,
    ⟨some 11, none, .load false 1 (.tmp 10)⟩,
    ⟨some 12, none, .fa 1 (.tmp 3)⟩,
    ⟨some 13, none, .load false 1 (.tmp 12)⟩,
    ⟨some 14, none, .bin .neq 0 (.tmp 11) (.tmp 13)⟩])
  (.cond (.tmp 14) (.seq (.ops [⟨some 4, none, .mv (.const (.bool false))⟩])
   .ret)
  .skip))
 (.seq (.seq (.ops [⟨some 15, none, .fa 2 (.tmp 2)⟩,
    ⟨some 16, none, .load false 1 (.tmp 15)⟩,
    ⟨some 17, none, .fa 2 (.tmp 3)⟩,
    ⟨some 18, none, .load false 1 (.tmp 17)⟩,
    ⟨some 19, none, .bin .neq 0 (.tmp 16) (.tmp 18)⟩])
  (.cond (.tmp 19) (.seq (.ops [⟨some 4, none, .mv (.const (.bool false))⟩])
   .ret)
  .skip))
 (.seq (.ops [⟨some 4, none, .mv (.const (.bool true))⟩])
 .ret)))))
theorem C97_ok : Try.f97.body.bind (comp Try.prog) = some C97 := by kernel_rfl
theorem C97_res : compRs Try.prog Try.f97.results.toList = some [.tmp 4] := by kernel_rfl
theorem C97_nm : (Try.f97.name == "runtime.NumGoroutine") = false := by kernel_rfl
theorem C97_fn {a0 a1 : AV} {H : Heap} {Q : AV → Heap → Prop} (h : vc Try.prog C97 (vcEnd [.tmp 4] Q) H [a0, a1, .any, .any, .any, .any, .any, .any, .any, .any, .any, .any, .any, .any, .any, .any, .any, .any, .any, .any]) : Runs Try.prog 97 [a0, a1] H Q :=
  @fn_go Try.prog mixed 97 Try.f97 C97 [.tmp 4] Try.func97 C97_ok C97_res C97_nm 20 Try.ntmps97 [a0, a1] [a0, a1, .any, .any, .any, .any, .any, .any, .any, .any, .any, .any, .any, .any, .any, .any, .any, .any, .any, .any] H Q h 18 (by kernel_rfl) (by kernel_rfl)

/-- laws.eqDemandS -/
def C37 : CC :=
 (.seq (.ops [⟨some 4, none, .mv (.const (.bool false))⟩])
 (.seq (.seq (.ops [⟨some 6, none, .mv (.tmp 0)⟩,
    ⟨some 7, none, .len false (.tmp 6)⟩,
    ⟨some 8, none, .mv (.tmp 1)⟩,
    ⟨some 9, none, .len false (.tmp 8)⟩,
    ⟨some 10, none, .bin .neq 0 (.tmp 7) (.tmp 9)⟩])
  (.cond (.tmp 10) (.seq (.ops [⟨some 4, none, .mv (.const (.bool false))⟩])
   .ret)
  .skip))
 (.seq (.seq (.ops [⟨some 5, none, .mv (.const (.int .i64 0))⟩])
  (.block 0 (.loop (.seq (.seq (.ops [⟨some 11, none, .mv (.tmp 5)⟩,
       ⟨some 12, none, .mv (.tmp 0)⟩,
       ⟨some 13, none, .len false (.tmp 12)⟩,
       ⟨some 14, none, .bin .lss 0 (.tmp 11) (.tmp 13)⟩])
     (.cond (.tmp 14) .skip
     (.exit 0)))
    (.seq (.block 1 (.seq (.draw 10 [⟨some 17, none, .mv (.tmp 0)⟩,
        ⟨some 18, none, .mv (.tmp 5)⟩,
        ⟨some 19, none, .ia 3 (.tmp 17) (.tmp 18)⟩,
        ⟨some 20, none, .load true 3 (.tmp 19)⟩,
        ⟨some 21, none, .mv (.tmp 1)⟩,
        ⟨some 22, none, .mv (.tmp 5)⟩,
        ⟨some 23, none, .ia 3 (.tmp 21) (.tmp 22)⟩,
        ⟨some 24, none, .load true 3 (.tmp 23)⟩,
        ⟨some 25, none, .call (.func 97) [(.tmp 20), (.tmp 24)]⟩,
        ⟨some 26, none, .not (.tmp 25)⟩])
      (.cond (.tmp 26) (.seq (.ops [⟨some 4, none, .mv (.const (.bool false))⟩])
       .ret)
      .skip)))
    (.ops [⟨some 15, none, .mv (.tmp 5)⟩,
     ⟨some 16, none, .bin .add 0 (.tmp 15) (.const (.int .i64 1))⟩,
     ⟨some 5, none, .mv (.tmp 16)⟩]))))))
 (.seq (.ops [⟨some 4, none, .mv (.const (.bool true))⟩])
 .ret))))
theorem C37_ok : Try.f37.body.bind (comp Try.prog) = some C37 := by kernel_rfl
theorem C37_res : compRs Try.prog Try.f37.results.toList = some [.tmp 4] := by kernel_rfl
theorem C37_nm : (Try.f37.name == "runtime.NumGoroutine") = false := by kernel_rfl
theorem C37_fn {a0 a1 : AV} {H : Heap} {Q : AV → Heap → Prop} (h : vc Try.prog C37 (vcEnd [.tmp 4] Q) H [a0, a1, .any, .any, .any, .any, .any, .any, .any, .any, .any, .any, .any, .any, .any, .any, .any, .any, .any, .any, .any, .any, .any, .any, .any, .any, .any]) : Runs Try.prog 37 [a0, a1] H Q :=
  @fn_go Try.prog mixed 37 Try.f37 C37 [.tmp 4] Try.func37 C37_ok C37_res C37_nm 27 Try.ntmps37 [a0, a1] [a0, a1, .any, .any, .any, .any, .any, .any, .any, .any, .any, .any, .any, .any, .any, .any, .any, .any, .any, .any, .any, .any, .any, .any, .any, .any, .any] H Q h 25 (by kernel_rfl) (by kernel_rfl)

/-- laws.markDemandS -/
def C38 : CC :=
 (.seq (.ops [⟨some 4, none, .mv (.const (.int .i64 0))⟩])
 (.seq (.seq (.ops [⟨some 5, none, .mv (.const (.int .i64 0))⟩])
  (.block 0 (.loop (.seq (.seq (.ops [⟨some 6, none, .mv (.tmp 5)⟩,
       ⟨some 7, none, .mv (.tmp 0)⟩,
       ⟨some 8, none, .len false (.tmp 7)⟩,
       ⟨some 9, none, .bin .lss 0 (.tmp 6) (.tmp 8)⟩])
     (.cond (.tmp 9) .skip
     (.exit 0)))
    (.seq (.block 1 (.seq (.ops [⟨some 12, none, .mv (.tmp 0)⟩,
        ⟨some 13, none, .mv (.tmp 5)⟩,
        ⟨some 14, none, .mv (.tmp 1)⟩,
        ⟨some 15, none, .call (.func 85) [(.tmp 14)]⟩,
        ⟨some 16, none, .ia 3 (.tmp 12) (.tmp 13)⟩,
        ⟨some 17, none, .fa 0 (.tmp 16)⟩,
        ⟨none, none, .store 1 (.tmp 17) (.tmp 15)⟩])
      (.seq (.ops [⟨some 18, none, .mv (.tmp 1)⟩,
        ⟨some 19, none, .bin .add 0 (.tmp 18) (.const (.int .i64 1))⟩,
        ⟨some 1, none, .mv (.tmp 19)⟩])
      (.seq (.ops [⟨some 20, none, .mv (.tmp 0)⟩,
        ⟨some 21, none, .mv (.tmp 5)⟩,
        ⟨some 22, none, .mv (.tmp 1)⟩,
        ⟨some 23, none, .ia 3 (.tmp 20) (.tmp 21)⟩,
        ⟨some 24, none, .fa 1 (.tmp 23)⟩,
        ⟨none, none, .store 1 (.tmp 24) (.tmp 22)⟩])
      (.seq (.ops [⟨some 25, none, .mv (.tmp 1)⟩,
        ⟨some 26, none, .bin .add 0 (.tmp 25) (.const (.int .i64 1))⟩,
        ⟨some 1, none, .mv (.tmp 26)⟩])
      (.seq (.ops [⟨some 27, none, .mv (.tmp 0)⟩,
        ⟨some 28, none, .mv (.tmp 5)⟩,
        ⟨some 29, none, .mv (.tmp 1)⟩,
        ⟨some 30, none, .ia 3 (.tmp 27) (.tmp 28)⟩,
        ⟨some 31, none, .fa 2 (.tmp 30)⟩,
        ⟨none, none, .store 1 (.tmp 31) (.tmp 29)⟩])
      (.ops [⟨some 32, none, .mv (.tmp 1)⟩,
       ⟨some 33, none, .bin .add 0 (.tmp 32) (.const (.int .i64 1))⟩,
       ⟨some 1, none, .mv (.tmp 33)⟩])))))))
    (.ops [⟨some 10, none, .mv (.tmp 5)⟩,
     ⟨some 11, none, .bin .add 0 (.tmp 10) (.const (.int .i64 1))⟩,
     ⟨some 5, none, .mv (.tmp 11)⟩]))))))
 (.seq (.ops [⟨some 34, none, .mv (.tmp 1)⟩,
   ⟨some 4, none, .mv (.tmp 34)⟩])
 .ret)))
theorem C38_ok : Try.f38.body.bind (comp Try.prog) = some C38 := by kernel_rfl
theorem C38_res : compRs Try.prog Try.f38.results.toList = some [.tmp 4] := by kernel_rfl
theorem C38_nm : (Try.f38.name == "runtime.NumGoroutine") = false := by kernel_rfl
theorem C38_fn {a0 a1 : AV} {H : Heap} {Q : AV → Heap → Prop} (h : vc Try.prog C38 (vcEnd [.tmp 4] Q) H [a0, a1, .any, .any, .any, .any, .any, .any, .any, .any, .any, .any, .any, .any, .any, .any, .any, .any, .any, .any, .any, .any, .any, .any, .any, .any, .any, .any, .any, .any, .any, .any, .any, .any, .any]) : Runs Try.prog 38 [a0, a1] H Q :=
  @fn_go Try.prog mixed 38 Try.f38 C38 [.tmp 4] Try.func38 C38_ok C38_res C38_nm 35 Try.ntmps38 [a0, a1] [a0, a1, .any, .any, .any, .any, .any, .any, .any, .any, .any, .any, .any, .any, .any, .any, .any, .any, .any, .any, .any, .any, .any, .any, .any, .any, .any, .any, .any, .any, .any, .any, .any, .any, .any] H Q h 33 (by kernel_rfl) (by kernel_rfl)

end Go.Proofs.Ytbgnlnlgjmipfaa
