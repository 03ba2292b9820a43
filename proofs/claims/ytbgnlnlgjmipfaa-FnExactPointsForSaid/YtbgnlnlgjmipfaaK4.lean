/- The code of the functions, in the form of our laws; each is the program's own, by the kernel. Written by a program of ours. -/
import Derived.Test.YtbgnlnlgjmipfaaB0
import Derived.KernelRfl
namespace Go.Proofs.Ytbgnlnlgjmipfaa
open Go.Abs

/-- impl.SafeFund -/
def C43 : CC :=
 (.seq (.ops [⟨some 6, none, .mv (.const (.int .i64 0))⟩,
   ⟨some 7, none, .mv (.const (.int .i64 0))⟩])
 (.seq (.seq (.ops [⟨some 13, none, .mv (.tmp 0)⟩,
    ⟨some 14, none, .mv (.tmp 2)⟩,
    ⟨some 15, none, .call (.func 107) [(.tmp 13), (.tmp 14)]⟩,
    ⟨some 8, none, .mv (.tmp 15)⟩])
  (.seq (.ops [⟨some 16, none, .mv (.tmp 8)⟩,
    ⟨some 17, none, .bin .neq 0 (.tmp 16) (.const (.int .i64 0))⟩])
  (.cond (.tmp 17) (.seq (.ops [⟨some 18, none, .mv (.tmp 8)⟩,
     ⟨some 6, none, .mv (.const (.int .i64 0))⟩,
     ⟨some 7, none, .mv (.tmp 18)⟩])
   .ret)
  .skip)))
 (.seq (.ops [⟨some 20, none, .mv (.tmp 0)⟩,
   ⟨some 21, none, .mv (.tmp 1)⟩,
   ⟨some 22, none, .call (.func 95) [(.tmp 20), (.tmp 21)]⟩,
   ⟨some 19, none, .mv (.tmp 22)⟩,
   ⟨some 23, none, .ext (.tmp 19) 0⟩,
   ⟨some 24, none, .ext (.tmp 19) 1⟩,
   ⟨some 9, none, .mv (.tmp 23)⟩,
   ⟨some 10, none, .mv (.tmp 24)⟩])
 (.seq (.seq (.ops [⟨some 25, none, .mv (.tmp 10)⟩,
    ⟨some 26, none, .bin .neq 0 (.tmp 25) (.const (.int .i64 0))⟩])
  (.cond (.tmp 26) (.seq (.ops [⟨some 27, none, .mv (.tmp 10)⟩,
     ⟨some 6, none, .mv (.const (.int .i64 0))⟩,
     ⟨some 7, none, .mv (.tmp 27)⟩])
   .ret)
  .skip))
 (.seq (.ops [⟨some 28, none, .mv (.tmp 0)⟩,
   ⟨some 29, none, .mv (.tmp 9)⟩,
   ⟨some 30, none, .ia 3 (.tmp 28) (.tmp 29)⟩,
   ⟨some 31, none, .load true 3 (.tmp 30)⟩,
   ⟨some 11, none, .alloc [.string ⟨#[]⟩, .int .i64 0, .int .i64 0]⟩,
   ⟨none, none, .store 3 (.tmp 11) (.tmp 31)⟩])
 (.seq (.ops [⟨some 32, none, .mv (.tmp 0)⟩,
   ⟨some 33, none, .fa 1 (.tmp 11)⟩,
   ⟨some 34, none, .load false 1 (.tmp 33)⟩,
   ⟨some 35, none, .fa 1 (.tmp 11)⟩,
   ⟨some 36, none, .load false 1 (.tmp 35)⟩,
   ⟨some 37, none, .call (.func 108) [(.tmp 32), (.tmp 34), (.tmp 36)]⟩,
   ⟨some 12, none, .mv (.tmp 37)⟩])
 (.seq (.block 0 (.seq (.ops [⟨some 39, none, .fa 2 (.tmp 11)⟩,
     ⟨some 40, none, .load false 1 (.tmp 39)⟩,
     ⟨some 41, none, .mv (.tmp 2)⟩,
     ⟨some 42, none, .bin .lss 0 (.tmp 40) (.tmp 41)⟩,
     ⟨some 38, none, .mv (.tmp 42)⟩])
   (.cond (.tmp 38) (.seq (.ops [⟨some 6, none, .mv (.const (.int .i64 0))⟩,
      ⟨some 7, none, .mv (.const (.int .i64 5))⟩])
    .ret)
   (.seq (.ops [⟨some 44, none, .mv (.tmp 12)⟩,
      ⟨some 45, none, .call (.func 100) [(.tmp 44)]⟩,
      ⟨some 46, none, .not (.tmp 45)⟩,
      ⟨some 43, none, .mv (.tmp 46)⟩])
    (.cond (.tmp 43) (.seq (.ops [⟨some 6, none, .mv (.const (.int .i64 0))⟩,
       ⟨some 7, none, .mv (.const (.int .i64 3))⟩])
     .ret)
    (.seq (.ops [⟨some 48, none, .mv (.tmp 2)⟩,
       ⟨some 49, none, .bin .eql 0 (.tmp 48) (.const (.int .i64 0))⟩,
       ⟨some 47, none, .mv (.tmp 49)⟩])
     (.cond (.tmp 47) (.seq (.ops [⟨some 6, none, .mv (.const (.int .i64 0))⟩,
        ⟨some 7, none, .mv (.const (.int .i64 0))⟩])
      .ret)
     .skip)))))))
 (.seq (.draw 19 [⟨some 50, none, .mv (.tmp 0)⟩,
   ⟨some 51, none, .fa 1 (.tmp 11)⟩,
   ⟨some 52, none, .load false 1 (.tmp 51)⟩,
   ⟨some 53, none, .bin .sub 0 (.tmp 52) (.const (.int .i64 1))⟩,
   ⟨some 54, none, .call (.func 108) [(.tmp 50), (.const (.int .i64 1)), (.tmp 53)]⟩,
   ⟨some 55, none, .mv (.tmp 2)⟩,
   ⟨some 56, none, .mv (.tmp 12)⟩,
   ⟨some 57, none, .bin .mul 0 (.tmp 55) (.tmp 56)⟩,
   ⟨some 58, none, .fa 2 (.tmp 11)⟩,
   ⟨some 59, none, .load false 1 (.tmp 58)⟩,
   ⟨some 60, none, .bin .add 0 (.tmp 57) (.tmp 59)⟩,
   ⟨some 61, none, .bin .sub 0 (.tmp 60) (.const (.int .i64 1))⟩,
   ⟨some 62, none, .fa 2 (.tmp 11)⟩,
   ⟨some 63, none, .load false 1 (.tmp 62)⟩,
   ⟨some 64, none, .bin .quo 0 (.tmp 61) (.tmp 63)⟩,
   ⟨some 65, none, .bin .add 0 (.tmp 54) (.tmp 64)⟩,
   ⟨some 66, none, .call (.func 109) [(.tmp 65)]⟩,
   ⟨some 67, none, .ext (.tmp 66) 0⟩,
   ⟨some 68, none, .ext (.tmp 66) 1⟩,
   ⟨some 6, none, .mv (.tmp 67)⟩,
   ⟨some 7, none, .mv (.tmp 68)⟩])
 .ret))))))))
theorem C43_ok : Try.f43.body.bind (comp Try.prog) = some C43 := by kernel_rfl
theorem C43_res : compRs Try.prog Try.f43.results.toList = some [.tmp 6, .tmp 7] := by kernel_rfl
theorem C43_nm : (Try.f43.name == "runtime.NumGoroutine") = false := by kernel_rfl
theorem C43_fn {a0 a1 a2 : AV} {H : Heap} {Q : AV → Heap → Prop} (h : vc Try.prog C43 (vcEnd [.tmp 6, .tmp 7] Q) H [a0, a1, a2, .any, .any, .any, .any, .any, .any, .any, .any, .any, .any, .any, .any, .any, .any, .any, .any, .any, .any, .any, .any, .any, .any, .any, .any, .any, .any, .any, .any, .any, .any, .any, .any, .any, .any, .any, .any, .any, .any, .any, .any, .any, .any, .any, .any, .any, .any, .any, .any, .any, .any, .any, .any, .any, .any, .any, .any, .any, .any, .any, .any, .any, .any, .any, .any, .any, .any]) : Runs Try.prog 43 [a0, a1, a2] H Q :=
  @fn_go Try.prog mixed 43 Try.f43 C43 [.tmp 6, .tmp 7] Try.func43 C43_ok C43_res C43_nm 69 Try.ntmps43 [a0, a1, a2] [a0, a1, a2, .any, .any, .any, .any, .any, .any, .any, .any, .any, .any, .any, .any, .any, .any, .any, .any, .any, .any, .any, .any, .any, .any, .any, .any, .any, .any, .any, .any, .any, .any, .any, .any, .any, .any, .any, .any, .any, .any, .any, .any, .any, .any, .any, .any, .any, .any, .any, .any, .any, .any, .any, .any, .any, .any, .any, .any, .any, .any, .any, .any, .any, .any, .any, .any, .any, .any] H Q h 66 (by kernel_rfl) (by kernel_rfl)

/-- laws.FnExactSafeFund -/
def C8 : CC :=
 (.seq (.ops [⟨some 6, none, .mv (.const (.bool false))⟩])
 (.seq (.seq (.ops [⟨some 13, none, .mv (.tmp 1)⟩,
    ⟨some 14, none, .len true (.tmp 13)⟩,
    ⟨some 15, none, .bin .gtr 0 (.tmp 14) (.const (.int .i64 1048576))⟩])
  (.cond (.tmp 15) (.seq (.ops [⟨some 6, none, .mv (.const (.bool true))⟩])
   .ret)
  .skip))
 (.seq (.ops [⟨some 7, none, .mv (.const (.int .i64 1048576))⟩])
 (.seq (.ops [⟨some 16, none, .mv (.tmp 0)⟩,
   ⟨some 17, none, .mv (.tmp 7)⟩,
   ⟨some 18, none, .call (.func 33) [(.tmp 16), (.tmp 17)]⟩,
   ⟨some 7, none, .mv (.tmp 18)⟩])
 (.seq (.seq (.ops [⟨some 19, none, .mv (.tmp 7)⟩,
    ⟨some 20, none, .bin .lss 0 (.tmp 19) (.const (.int .i64 0))⟩])
  (.cond (.tmp 20) (.seq (.ops [⟨some 6, none, .mv (.const (.bool true))⟩])
   .ret)
  .skip))
 (.seq (.ops [⟨some 22, none, .mv (.tmp 0)⟩,
   ⟨some 23, none, .call (.func 35) [(.tmp 22)]⟩,
   ⟨some 24, none, .mv (.tmp 1)⟩,
   ⟨some 25, none, .mv (.tmp 2)⟩,
   ⟨some 26, none, .call (.func 42) [(.tmp 23), (.tmp 24), (.tmp 25)]⟩,
   ⟨some 21, none, .mv (.tmp 26)⟩,
   ⟨some 27, none, .ext (.tmp 21) 0⟩,
   ⟨some 28, none, .ext (.tmp 21) 1⟩,
   ⟨some 8, none, .mv (.tmp 27)⟩,
   ⟨some 9, none, .mv (.tmp 28)⟩])
 (.seq (.ops [⟨some 29, none, .mv (.tmp 0)⟩,
   ⟨some 30, none, .call (.func 35) [(.tmp 29)]⟩,
   ⟨some 10, none, .mv (.tmp 30)⟩])
 (.seq (.ops [⟨some 32, none, .mv (.tmp 10)⟩,
   ⟨some 33, none, .mv (.tmp 1)⟩,
   ⟨some 34, none, .mv (.tmp 2)⟩,
   ⟨some 35, none, .call (.func 43) [(.tmp 32), (.tmp 33), (.tmp 34)]⟩,
   ⟨some 31, none, .mv (.tmp 35)⟩,
   ⟨some 36, none, .ext (.tmp 31) 0⟩,
   ⟨some 37, none, .ext (.tmp 31) 1⟩,
   ⟨some 11, none, .mv (.tmp 36)⟩,
   ⟨some 12, none, .mv (.tmp 37)⟩])
 (.seq (.seq (.ops [⟨some 38, none, .mv (.tmp 11)⟩,
    ⟨some 39, none, .mv (.tmp 8)⟩,
    ⟨some 40, none, .bin .neq 0 (.tmp 38) (.tmp 39)⟩,
    ⟨some 41, none, .mv (.tmp 40)⟩,
    ⟨some 42, some (41, false), .mv (.tmp 12)⟩,
    ⟨some 43, some (41, false), .mv (.tmp 9)⟩,
    ⟨some 44, some (41, false), .bin .neq 0 (.tmp 42) (.tmp 43)⟩,
    ⟨some 45, none, .pick (.tmp 41) (.const (.bool true)) (.tmp 44)⟩])
  (.cond (.tmp 45) (.seq (.ops [⟨some 6, none, .mv (.const (.bool false))⟩])
   .ret)
  .skip))
 (.seq (.seq (.ops [⟨some 46, none, .mv (.tmp 10)⟩,
    ⟨some 47, none, .mv (.tmp 0)⟩,
    ⟨some 48, none, .call (.func 35) [(.tmp 47)]⟩,
    ⟨some 49, none, .call (.func 37) [(.tmp 46), (.tmp 48)]⟩,
    ⟨some 50, none, .not (.tmp 49)⟩])
  (.cond (.tmp 50) (.seq (.ops [⟨some 6, none, .mv (.const (.bool false))⟩])
   .ret)
  .skip))
 (.seq (.ops [⟨some 6, none, .mv (.const (.bool true))⟩])
 .ret)))))))))))
theorem C8_ok : Try.f8.body.bind (comp Try.prog) = some C8 := by kernel_rfl
theorem C8_res : compRs Try.prog Try.f8.results.toList = some [.tmp 6] := by kernel_rfl
theorem C8_nm : (Try.f8.name == "runtime.NumGoroutine") = false := by kernel_rfl
theorem C8_fn {a0 a1 a2 : AV} {H : Heap} {Q : AV → Heap → Prop} (h : vc Try.prog C8 (vcEnd [.tmp 6] Q) H [a0, a1, a2, .any, .any, .any, .any, .any, .any, .any, .any, .any, .any, .any, .any, .any, .any, .any, .any, .any, .any, .any, .any, .any, .any, .any, .any, .any, .any, .any, .any, .any, .any, .any, .any, .any, .any, .any, .any, .any, .any, .any, .any, .any, .any, .any, .any, .any, .any, .any, .any]) : Runs Try.prog 8 [a0, a1, a2] H Q :=
  @fn_go Try.prog mixed 8 Try.f8 C8 [.tmp 6] Try.func8 C8_ok C8_res C8_nm 51 Try.ntmps8 [a0, a1, a2] [a0, a1, a2, .any, .any, .any, .any, .any, .any, .any, .any, .any, .any, .any, .any, .any, .any, .any, .any, .any, .any, .any, .any, .any, .any, .any, .any, .any, .any, .any, .any, .any, .any, .any, .any, .any, .any, .any, .any, .any, .any, .any, .any, .any, .any, .any, .any, .any, .any, .any, .any] H Q h 48 (by kernel_rfl) (by kernel_rfl)

/-- spec.l22Code -/
def C115 : CC :=
 (.seq (.ops [⟨some 4, none, .mv (.const (.int .i64 0))⟩])
 (.seq (.seq (.ops [⟨some 5, none, .mv (.tmp 0)⟩,
    ⟨some 6, none, .call (.func 68) [(.tmp 5)]⟩,
    ⟨some 7, none, .not (.tmp 6)⟩])
  (.cond (.tmp 7) (.seq (.ops [⟨some 4, none, .mv (.const (.int .i64 1))⟩])
   .ret)
  .skip))
 (.seq (.seq (.ops [⟨some 8, none, .mv (.tmp 1)⟩,
    ⟨some 9, none, .call (.func 98) [(.tmp 8)]⟩,
    ⟨some 10, none, .not (.tmp 9)⟩])
  (.cond (.tmp 10) (.seq (.ops [⟨some 4, none, .mv (.const (.int .i64 2))⟩])
   .ret)
  .skip))
 (.seq (.ops [⟨some 4, none, .mv (.const (.int .i64 0))⟩])
 .ret))))
theorem C115_ok : Try.f115.body.bind (comp Try.prog) = some C115 := by kernel_rfl
theorem C115_res : compRs Try.prog Try.f115.results.toList = some [.tmp 4] := by kernel_rfl
theorem C115_nm : (Try.f115.name == "runtime.NumGoroutine") = false := by kernel_rfl
theorem C115_fn {a0 a1 : AV} {H : Heap} {Q : AV → Heap → Prop} (h : vc Try.prog C115 (vcEnd [.tmp 4] Q) H [a0, a1, .any, .any, .any, .any, .any, .any, .any, .any, .any]) : Runs Try.prog 115 [a0, a1] H Q :=
  @fn_go Try.prog mixed 115 Try.f115 C115 [.tmp 4] Try.func115 C115_ok C115_res C115_nm 11 Try.ntmps115 [a0, a1] [a0, a1, .any, .any, .any, .any, .any, .any, .any, .any, .any] H Q h 9 (by kernel_rfl) (by kernel_rfl)

/-- spec.l01Share -/
def C149 : CC :=
 (.seq (.ops [⟨some 4, none, .mv (.const (.slice none 0 0))⟩])
 (.seq (.ops [⟨some 12, none, .mv (.tmp 1)⟩,
   ⟨some 13, none, .call (.func 103) [(.tmp 12)]⟩,
   ⟨some 5, none, .mv (.tmp 13)⟩])
 (.seq (.ops [⟨some 14, none, .lit 1 []⟩,
   ⟨some 6, none, .mv (.tmp 14)⟩])
 (.seq (.ops [⟨some 15, none, .lit 1 []⟩,
   ⟨some 7, none, .mv (.tmp 15)⟩])
 (.seq (.ops [⟨some 16, none, .mv (.tmp 0)⟩,
   ⟨some 8, none, .mv (.tmp 16)⟩])
 (.seq (.seq (.ops [⟨some 9, none, .mv (.const (.int .i64 0))⟩])
  (.block 0 (.loop (.seq (.seq (.ops [⟨some 17, none, .mv (.tmp 9)⟩,
       ⟨some 18, none, .mv (.tmp 1)⟩,
       ⟨some 19, none, .len false (.tmp 18)⟩,
       ⟨some 20, none, .bin .lss 0 (.tmp 17) (.tmp 19)⟩])
     (.cond (.tmp 20) .skip
     (.exit 0)))
    (.seq (.block 1 (.seq (.ops [⟨some 23, none, .mv (.tmp 6)⟩,
        ⟨some 24, none, .mv (.tmp 0)⟩,
        ⟨some 25, none, .mv (.tmp 1)⟩,
        ⟨some 26, none, .mv (.tmp 9)⟩,
        ⟨some 27, none, .ia 1 (.tmp 25) (.tmp 26)⟩,
        ⟨some 28, none, .load false 1 (.tmp 27)⟩,
        ⟨some 29, none, .bin .mul 0 (.tmp 24) (.tmp 28)⟩,
        ⟨some 30, none, .mv (.tmp 5)⟩,
        ⟨some 31, none, .bin .quo 0 (.tmp 29) (.tmp 30)⟩,
        ⟨some 32, none, .lit 1 [(.tmp 31)]⟩,
        ⟨some 33, none, .app 1 8 (.tmp 23) (.tmp 32)⟩,
        ⟨some 6, none, .mv (.tmp 33)⟩])
      (.seq (.ops [⟨some 34, none, .mv (.tmp 7)⟩,
        ⟨some 35, none, .mv (.tmp 0)⟩,
        ⟨some 36, none, .mv (.tmp 1)⟩,
        ⟨some 37, none, .mv (.tmp 9)⟩,
        ⟨some 38, none, .ia 1 (.tmp 36) (.tmp 37)⟩,
        ⟨some 39, none, .load false 1 (.tmp 38)⟩,
        ⟨some 40, none, .bin .mul 0 (.tmp 35) (.tmp 39)⟩,
        ⟨some 41, none, .mv (.tmp 5)⟩,
        ⟨some 42, none, .bin .rem 0 (.tmp 40) (.tmp 41)⟩,
        ⟨some 43, none, .lit 1 [(.tmp 42)]⟩,
        ⟨some 44, none, .app 1 8 (.tmp 34) (.tmp 43)⟩,
        ⟨some 7, none, .mv (.tmp 44)⟩])
      (.ops [⟨some 45, none, .mv (.tmp 8)⟩,
       ⟨some 46, none, .mv (.tmp 6)⟩,
       ⟨some 47, none, .mv (.tmp 9)⟩,
       ⟨some 48, none, .ia 1 (.tmp 46) (.tmp 47)⟩,
       ⟨some 49, none, .load false 1 (.tmp 48)⟩,
       ⟨some 50, none, .bin .sub 0 (.tmp 45) (.tmp 49)⟩,
       ⟨some 8, none, .mv (.tmp 50)⟩]))))
    (.ops [⟨some 21, none, .mv (.tmp 9)⟩,
     ⟨some 22, none, .bin .add 0 (.tmp 21) (.const (.int .i64 1))⟩,
     ⟨some 9, none, .mv (.tmp 22)⟩]))))))
 (.seq (.block 2 (.loop (.seq (.seq (.ops [⟨some 51, none, .mv (.tmp 8)⟩,
       ⟨some 52, none, .bin .gtr 0 (.tmp 51) (.const (.int .i64 0))⟩])
     (.cond (.tmp 52) .skip
     (.exit 2)))
    (.seq (.block 3 (.seq (.ops [⟨some 10, none, .mv (.const (.int .i64 0))⟩])
      (.seq (.seq (.ops [⟨some 11, none, .mv (.const (.int .i64 0))⟩])
       (.block 4 (.loop (.seq (.seq (.ops [⟨some 55, none, .mv (.tmp 11)⟩,
            ⟨some 56, none, .mv (.tmp 7)⟩,
            ⟨some 57, none, .len false (.tmp 56)⟩,
            ⟨some 58, none, .bin .lss 0 (.tmp 55) (.tmp 57)⟩])
          (.cond (.tmp 58) .skip
          (.exit 4)))
         (.seq (.block 5 (.seq (.draw 9 [⟨some 61, none, .mv (.tmp 7)⟩,
             ⟨some 62, none, .mv (.tmp 11)⟩,
             ⟨some 63, none, .ia 1 (.tmp 61) (.tmp 62)⟩,
             ⟨some 64, none, .load false 1 (.tmp 63)⟩,
             ⟨some 65, none, .mv (.tmp 7)⟩,
             ⟨some 66, none, .mv (.tmp 10)⟩,
             ⟨some 67, none, .ia 1 (.tmp 65) (.tmp 66)⟩,
             ⟨some 68, none, .load false 1 (.tmp 67)⟩,
             ⟨some 69, none, .bin .gtr 0 (.tmp 64) (.tmp 68)⟩])
           (.cond (.tmp 69) (.ops [⟨some 70, none, .mv (.tmp 11)⟩,
             ⟨some 10, none, .mv (.tmp 70)⟩])
           .skip)))
         (.ops [⟨some 59, none, .mv (.tmp 11)⟩,
          ⟨some 60, none, .bin .add 0 (.tmp 59) (.const (.int .i64 1))⟩,
          ⟨some 11, none, .mv (.tmp 60)⟩]))))))
      (.seq (.ops [⟨some 71, none, .mv (.tmp 6)⟩,
        ⟨some 72, none, .mv (.tmp 10)⟩,
        ⟨some 73, none, .ia 1 (.tmp 71) (.tmp 72)⟩,
        ⟨some 74, none, .load false 1 (.tmp 73)⟩,
        ⟨some 75, none, .bin .add 0 (.tmp 74) (.const (.int .i64 1))⟩,
        ⟨some 76, none, .ia 1 (.tmp 71) (.tmp 72)⟩,
        ⟨none, none, .store 1 (.tmp 76) (.tmp 75)⟩])
      (.ops [⟨some 77, none, .mv (.tmp 7)⟩,
       ⟨some 78, none, .mv (.tmp 10)⟩,
       ⟨some 79, none, .ia 1 (.tmp 77) (.tmp 78)⟩,
       ⟨none, none, .store 1 (.tmp 79) (.const (.int .i64 (-1)))⟩])))))
    (.ops [⟨some 53, none, .mv (.tmp 8)⟩,
     ⟨some 54, none, .bin .sub 0 (.tmp 53) (.const (.int .i64 1))⟩,
     ⟨some 8, none, .mv (.tmp 54)⟩])))))
 (.seq (.ops [⟨some 80, none, .mv (.tmp 6)⟩,
   ⟨some 4, none, .mv (.tmp 80)⟩])
 .ret))))))))
theorem C149_ok : Try.f149.body.bind (comp Try.prog) = some C149 := by kernel_rfl
theorem C149_res : compRs Try.prog Try.f149.results.toList = some [.tmp 4] := by kernel_rfl
theorem C149_nm : (Try.f149.name == "runtime.NumGoroutine") = false := by kernel_rfl
theorem C149_fn {a0 a1 : AV} {H : Heap} {Q : AV → Heap → Prop} (h : vc Try.prog C149 (vcEnd [.tmp 4] Q) H [a0, a1, .any, .any, .any, .any, .any, .any, .any, .any, .any, .any, .any, .any, .any, .any, .any, .any, .any, .any, .any, .any, .any, .any, .any, .any, .any, .any, .any, .any, .any, .any, .any, .any, .any, .any, .any, .any, .any, .any, .any, .any, .any, .any, .any, .any, .any, .any, .any, .any, .any, .any, .any, .any, .any, .any, .any, .any, .any, .any, .any, .any, .any, .any, .any, .any, .any, .any, .any, .any, .any, .any, .any, .any, .any, .any, .any, .any, .any, .any, .any]) : Runs Try.prog 149 [a0, a1] H Q :=
  @fn_go Try.prog mixed 149 Try.f149 C149 [.tmp 4] Try.func149 C149_ok C149_res C149_nm 81 Try.ntmps149 [a0, a1] [a0, a1, .any, .any, .any, .any, .any, .any, .any, .any, .any, .any, .any, .any, .any, .any, .any, .any, .any, .any, .any, .any, .any, .any, .any, .any, .any, .any, .any, .any, .any, .any, .any, .any, .any, .any, .any, .any, .any, .any, .any, .any, .any, .any, .any, .any, .any, .any, .any, .any, .any, .any, .any, .any, .any, .any, .any, .any, .any, .any, .any, .any, .any, .any, .any, .any, .any, .any, .any, .any, .any, .any, .any, .any, .any, .any, .any, .any, .any, .any, .any] H Q h 79 (by kernel_rfl) (by kernel_rfl)

/-- spec.l22Award -/
def C116 : CC :=
 (.seq (.ops [⟨some 4, none, .mv (.const (.slice none 0 0))⟩])
 (.seq (.ops [⟨some 12, none, .lit 1 []⟩,
   ⟨some 13, none, .lit 1 []⟩,
   ⟨some 5, none, .mv (.tmp 12)⟩,
   ⟨some 6, none, .mv (.tmp 13)⟩])
 (.seq (.seq (.ops [⟨some 7, none, .mv (.const (.int .i64 0))⟩])
  (.block 0 (.loop (.seq (.seq (.ops [⟨some 14, none, .mv (.tmp 7)⟩,
       ⟨some 15, none, .mv (.tmp 0)⟩,
       ⟨some 16, none, .len false (.tmp 15)⟩,
       ⟨some 17, none, .bin .lss 0 (.tmp 14) (.tmp 16)⟩])
     (.cond (.tmp 17) .skip
     (.exit 0)))
    (.seq (.block 1 (.seq (.ops [⟨some 20, none, .mv (.tmp 5)⟩,
        ⟨some 21, none, .mv (.tmp 0)⟩,
        ⟨some 22, none, .mv (.tmp 7)⟩,
        ⟨some 23, none, .ia 5 (.tmp 21) (.tmp 22)⟩,
        ⟨some 24, none, .fa 4 (.tmp 23)⟩,
        ⟨some 25, none, .load false 1 (.tmp 24)⟩,
        ⟨some 26, none, .lit 1 [(.tmp 25)]⟩,
        ⟨some 27, none, .app 1 8 (.tmp 20) (.tmp 26)⟩,
        ⟨some 5, none, .mv (.tmp 27)⟩])
      (.ops [⟨some 28, none, .mv (.tmp 6)⟩,
       ⟨some 29, none, .mv (.tmp 0)⟩,
       ⟨some 30, none, .mv (.tmp 7)⟩,
       ⟨some 31, none, .ia 5 (.tmp 29) (.tmp 30)⟩,
       ⟨some 32, none, .load true 5 (.tmp 31)⟩,
       ⟨some 33, none, .call (.func 76) [(.tmp 32)]⟩,
       ⟨some 34, none, .lit 1 [(.tmp 33)]⟩,
       ⟨some 35, none, .app 1 8 (.tmp 28) (.tmp 34)⟩,
       ⟨some 6, none, .mv (.tmp 35)⟩])))
    (.ops [⟨some 18, none, .mv (.tmp 7)⟩,
     ⟨some 19, none, .bin .add 0 (.tmp 18) (.const (.int .i64 1))⟩,
     ⟨some 7, none, .mv (.tmp 19)⟩]))))))
 (.seq (.ops [⟨some 36, none, .mv (.tmp 5)⟩,
   ⟨some 37, none, .call (.func 103) [(.tmp 36)]⟩,
   ⟨some 8, none, .mv (.tmp 37)⟩])
 (.seq (.seq (.ops [⟨some 38, none, .mv (.tmp 8)⟩,
    ⟨some 39, none, .mv (.tmp 1)⟩,
    ⟨some 40, none, .bin .gtr 0 (.tmp 38) (.tmp 39)⟩])
  (.cond (.tmp 40) (.seq (.ops [⟨some 41, none, .mv (.tmp 1)⟩,
     ⟨some 42, none, .mv (.tmp 5)⟩,
     ⟨some 43, none, .call (.func 149) [(.tmp 41), (.tmp 42)]⟩,
     ⟨some 4, none, .mv (.tmp 43)⟩])
   .ret)
  .skip))
 (.seq (.seq (.ops [⟨some 44, none, .mv (.tmp 6)⟩,
    ⟨some 45, none, .call (.func 103) [(.tmp 44)]⟩,
    ⟨some 46, none, .bin .eql 0 (.tmp 45) (.const (.int .i64 0))⟩])
  (.cond (.tmp 46) (.seq (.ops [⟨some 47, none, .mv (.tmp 5)⟩,
     ⟨some 4, none, .mv (.tmp 47)⟩])
   .ret)
  .skip))
 (.seq (.ops [⟨some 48, none, .mv (.tmp 1)⟩,
   ⟨some 49, none, .mv (.tmp 8)⟩,
   ⟨some 50, none, .bin .sub 0 (.tmp 48) (.tmp 49)⟩,
   ⟨some 51, none, .mv (.tmp 6)⟩,
   ⟨some 52, none, .call (.func 149) [(.tmp 50), (.tmp 51)]⟩,
   ⟨some 9, none, .mv (.tmp 52)⟩])
 (.seq (.ops [⟨some 53, none, .lit 1 []⟩,
   ⟨some 10, none, .mv (.tmp 53)⟩])
 (.seq (.seq (.ops [⟨some 11, none, .mv (.const (.int .i64 0))⟩])
  (.block 2 (.loop (.seq (.seq (.ops [⟨some 54, none, .mv (.tmp 11)⟩,
       ⟨some 55, none, .mv (.tmp 0)⟩,
       ⟨some 56, none, .len false (.tmp 55)⟩,
       ⟨some 57, none, .bin .lss 0 (.tmp 54) (.tmp 56)⟩])
     (.cond (.tmp 57) .skip
     (.exit 2)))
    (.seq (.block 3 (.loud 12 (.step ⟨some 70, none, .lit 1 [(.tmp 69)]⟩ (.step ⟨some 71, none, .app 1 8 (.tmp 60) (.tmp 70)⟩ .leaf))
       [⟨some 60, none, .mv (.tmp 10)⟩, 
      ⟨some 61, none, .mv (.tmp 5)⟩, 
      ⟨some 62, none, .mv (.tmp 11)⟩, 
      ⟨some 63, none, .ia 1 (.tmp 61) (.tmp 62)⟩, 
      ⟨some 64, none, .load false 1 (.tmp 63)⟩, 
      ⟨some 65, none, .mv (.tmp 9)⟩, 
      ⟨some 66, none, .mv (.tmp 11)⟩, 
      ⟨some 67, none, .ia 1 (.tmp 65) (.tmp 66)⟩, 
      ⟨some 68, none, .load false 1 (.tmp 67)⟩, 
      ⟨some 69, none, .bin .add 0 (.tmp 64) (.tmp 68)⟩, 
      ⟨none, none, .mv (.const undef)⟩, 
      ⟨none, none, .mv (.const undef)⟩]
       [⟨some 10, none, .mv (.tmp 71)⟩]))
    (.ops [⟨some 58, none, .mv (.tmp 11)⟩,
     ⟨some 59, none, .bin .add 0 (.tmp 58) (.const (.int .i64 1))⟩,
     ⟨some 11, none, .mv (.tmp 59)⟩]))))))
 (.seq (.ops [⟨some 72, none, .mv (.tmp 10)⟩,
   ⟨some 4, none, .mv (.tmp 72)⟩])
 .ret))))))))))
theorem C116_ok : Try.f116.body.bind (comp Try.prog) = some C116 := by kernel_rfl
theorem C116_res : compRs Try.prog Try.f116.results.toList = some [.tmp 4] := by kernel_rfl
theorem C116_nm : (Try.f116.name == "runtime.NumGoroutine") = false := by kernel_rfl
theorem C116_fn {a0 a1 : AV} {H : Heap} {Q : AV → Heap → Prop} (h : vc Try.prog C116 (vcEnd [.tmp 4] Q) H [a0, a1, .any, .any, .any, .any, .any, .any, .any, .any, .any, .any, .any, .any, .any, .any, .any, .any, .any, .any, .any, .any, .any, .any, .any, .any, .any, .any, .any, .any, .any, .any, .any, .any, .any, .any, .any, .any, .any, .any, .any, .any, .any, .any, .any, .any, .any, .any, .any, .any, .any, .any, .any, .any, .any, .any, .any, .any, .any, .any, .any, .any, .any, .any, .any, .any, .any, .any, .any, .any, .any, .any, .any]) : Runs Try.prog 116 [a0, a1] H Q :=
  @fn_go Try.prog mixed 116 Try.f116 C116 [.tmp 4] Try.func116 C116_ok C116_res C116_nm 73 Try.ntmps116 [a0, a1] [a0, a1, .any, .any, .any, .any, .any, .any, .any, .any, .any, .any, .any, .any, .any, .any, .any, .any, .any, .any, .any, .any, .any, .any, .any, .any, .any, .any, .any, .any, .any, .any, .any, .any, .any, .any, .any, .any, .any, .any, .any, .any, .any, .any, .any, .any, .any, .any, .any, .any, .any, .any, .any, .any, .any, .any, .any, .any, .any, .any, .any, .any, .any, .any, .any, .any, .any, .any, .any, .any, .any, .any, .any] H Q h 71 (by kernel_rfl) (by kernel_rfl)

/-- spec.PointsFor -/
def C51 : CC :=
 (.seq (.ops [⟨some 6, none, .mv (.const (.int .i64 0))⟩,
   ⟨some 7, none, .mv (.const (.int .i64 0))⟩])
 (.seq (.ops [⟨some 12, none, .mv (.tmp 0)⟩,
   ⟨some 13, none, .mv (.tmp 1)⟩,
   ⟨some 14, none, .call (.func 115) [(.tmp 12), (.tmp 13)]⟩,
   ⟨some 8, none, .mv (.tmp 14)⟩])
 (.seq (.seq (.ops [⟨some 15, none, .mv (.tmp 8)⟩,
    ⟨some 16, none, .bin .eql 0 (.tmp 15) (.const (.int .i64 0))⟩,
    ⟨some 17, none, .mv (.tmp 16)⟩,
    ⟨some 18, some (17, true), .mv (.tmp 2)⟩,
    ⟨some 19, some (17, true), .call (.func 98) [(.tmp 18)]⟩,
    ⟨some 20, some (17, true), .not (.tmp 19)⟩,
    ⟨some 21, none, .pick (.tmp 17) (.tmp 20) (.const (.bool false))⟩])
  (.cond (.tmp 21) (.ops [⟨some 8, none, .mv (.const (.int .i64 2))⟩])
  .skip))
 (.seq (.seq (.ops [⟨some 22, none, .mv (.tmp 8)⟩,
    ⟨some 23, none, .bin .neq 0 (.tmp 22) (.const (.int .i64 0))⟩])
  (.cond (.tmp 23) (.seq (.ops [⟨some 24, none, .mv (.tmp 8)⟩,
     ⟨some 6, none, .mv (.const (.int .i64 0))⟩,
     ⟨some 7, none, .mv (.tmp 24)⟩])
   .ret)
  .skip))
 (.seq (.ops [⟨some 9, none, .mv (.const (.int .i64 (-1)))⟩,
   ⟨some 10, none, .mv (.const (.int .i64 10001))⟩])
 (.seq (.block 0 (.loop (.seq (.seq (.ops [⟨some 25, none, .mv (.tmp 10)⟩,
       ⟨some 26, none, .mv (.tmp 9)⟩,
       ⟨some 27, none, .bin .sub 0 (.tmp 25) (.tmp 26)⟩,
       ⟨some 28, none, .bin .gtr 0 (.tmp 27) (.const (.int .i64 1))⟩])
     (.cond (.tmp 28) .skip
     (.exit 0)))
    (.block 1 (.seq (.ops [⟨some 29, none, .mv (.tmp 9)⟩,
       ⟨some 30, none, .mv (.tmp 10)⟩,
       ⟨some 31, none, .bin .add 0 (.tmp 29) (.tmp 30)⟩,
       ⟨some 32, none, .bin .quo 0 (.tmp 31) (.const (.int .i64 2))⟩,
       ⟨some 11, none, .mv (.tmp 32)⟩])
     (.seq (.ops [⟨some 33, none, .mv (.tmp 0)⟩,
       ⟨some 34, none, .mv (.tmp 1)⟩,
       ⟨some 35, none, .mv (.tmp 11)⟩,
       ⟨some 36, none, .bin .mul 0 (.tmp 34) (.tmp 35)⟩,
       ⟨some 37, none, .bin .quo 0 (.tmp 36) (.const (.int .i64 10000))⟩,
       ⟨some 38, none, .call (.func 116) [(.tmp 33), (.tmp 37)]⟩,
       ⟨some 39, none, .call (.func 103) [(.tmp 38)]⟩,
       ⟨some 40, none, .mv (.tmp 2)⟩,
       ⟨some 41, none, .bin .geq 0 (.tmp 39) (.tmp 40)⟩])
     (.cond (.tmp 41) (.ops [⟨some 42, none, .mv (.tmp 11)⟩,
       ⟨some 10, none, .mv (.tmp 42)⟩])
     (.ops [⟨some 43, none, .mv (.tmp 11)⟩,
       ⟨some 9, none, .mv (.tmp 43)⟩]))))))))
 (.seq (.seq (.ops [⟨some 44, none, .mv (.tmp 10)⟩,
    ⟨some 45, none, .bin .gtr 0 (.tmp 44) (.const (.int .i64 10000))⟩])
  (.cond (.tmp 45) (.seq (.ops [⟨some 6, none, .mv (.const (.int .i64 0))⟩,
     ⟨some 7, none, .mv (.const (.int .i64 4))⟩])
   .ret)
  .skip))
 (.seq (.ops [⟨some 46, none, .mv (.tmp 10)⟩,
   ⟨some 6, none, .mv (.tmp 46)⟩,
   ⟨some 7, none, .mv (.const (.int .i64 0))⟩])
 .ret))))))))
theorem C51_ok : Try.f51.body.bind (comp Try.prog) = some C51 := by kernel_rfl
theorem C51_res : compRs Try.prog Try.f51.results.toList = some [.tmp 6, .tmp 7] := by kernel_rfl
theorem C51_nm : (Try.f51.name == "runtime.NumGoroutine") = false := by kernel_rfl
theorem C51_fn {a0 a1 a2 : AV} {H : Heap} {Q : AV → Heap → Prop} (h : vc Try.prog C51 (vcEnd [.tmp 6, .tmp 7] Q) H [a0, a1, a2, .any, .any, .any, .any, .any, .any, .any, .any, .any, .any, .any, .any, .any, .any, .any, .any, .any, .any, .any, .any, .any, .any, .any, .any, .any, .any, .any, .any, .any, .any, .any, .any, .any, .any, .any, .any, .any, .any, .any, .any, .any, .any, .any, .any]) : Runs Try.prog 51 [a0, a1, a2] H Q :=
  @fn_go Try.prog mixed 51 Try.f51 C51 [.tmp 6, .tmp 7] Try.func51 C51_ok C51_res C51_nm 47 Try.ntmps51 [a0, a1, a2] [a0, a1, a2, .any, .any, .any, .any, .any, .any, .any, .any, .any, .any, .any, .any, .any, .any, .any, .any, .any, .any, .any, .any, .any, .any, .any, .any, .any, .any, .any, .any, .any, .any, .any, .any, .any, .any, .any, .any, .any, .any, .any, .any, .any, .any, .any, .any] H Q h 44 (by kernel_rfl) (by kernel_rfl)

/-- impl.claimed -/
def C117 : CC :=
 (.seq (.ops [⟨some 4, none, .mv (.const (.int .i64 0))⟩])
 (.seq (.block 0 (.seq (.ops [⟨some 6, none, .mv (.tmp 0)⟩,
     ⟨some 7, none, .call (.func 67) [(.tmp 6)]⟩,
     ⟨some 8, none, .not (.tmp 7)⟩,
     ⟨some 5, none, .mv (.tmp 8)⟩])
   (.cond (.tmp 5) (.seq (.ops [⟨some 4, none, .mv (.const (.int .i64 1))⟩])
    .ret)
   (.seq (.ops [⟨some 10, none, .mv (.tmp 1)⟩,
      ⟨some 11, none, .call (.func 100) [(.tmp 10)]⟩,
      ⟨some 12, none, .not (.tmp 11)⟩,
      ⟨some 9, none, .mv (.tmp 12)⟩])
    (.cond (.tmp 9) (.seq (.ops [⟨some 4, none, .mv (.const (.int .i64 2))⟩])
     .ret)
    .skip)))))
 (.seq (.ops [⟨some 4, none, .mv (.const (.int .i64 0))⟩])
 .ret)))
theorem C117_ok : Try.f117.body.bind (comp Try.prog) = some C117 := by kernel_rfl
theorem C117_res : compRs Try.prog Try.f117.results.toList = some [.tmp 4] := by kernel_rfl
theorem C117_nm : (Try.f117.name == "runtime.NumGoroutine") = false := by kernel_rfl
theorem C117_fn {a0 a1 : AV} {H : Heap} {Q : AV → Heap → Prop} (h : vc Try.prog C117 (vcEnd [.tmp 4] Q) H [a0, a1, .any, .any, .any, .any, .any, .any, .any, .any, .any, .any, .any]) : Runs Try.prog 117 [a0, a1] H Q :=
  @fn_go Try.prog mixed 117 Try.f117 C117 [.tmp 4] Try.func117 C117_ok C117_res C117_nm 13 Try.ntmps117 [a0, a1] [a0, a1, .any, .any, .any, .any, .any, .any, .any, .any, .any, .any, .any] H Q h 11 (by kernel_rfl) (by kernel_rfl)

/-- impl.sum -/
def C118 : CC :=
 (.seq (.ops [⟨some 2, none, .mv (.const (.int .i64 0))⟩])
 (.seq (.ops [⟨some 3, none, .mv (.const (.int .i64 0))⟩])
 (.seq (.seq (.ops [⟨some 6, none, .mv (.tmp 0)⟩,
    ⟨some 7, none, .len false (.tmp 6)⟩,
    ⟨some 8, none, .mv (.const (.int .i64 0))⟩])
  (.block 0 (.loop (.seq (.ops [⟨some 9, none, .bin .lss 0 (.tmp 8) (.tmp 7)⟩])
    (.seq (.cond (.tmp 9) .skip
     (.exit 0))
    (.seq (.block 1 (.seq (.ops [⟨some 10, none, .ia 1 (.tmp 6) (.tmp 8)⟩,
        ⟨some 11, none, .load false 1 (.tmp 10)⟩,
        ⟨some 5, none, .mv (.tmp 11)⟩])
      (.ops [⟨some 12, none, .mv (.tmp 3)⟩,
       ⟨some 13, none, .mv (.tmp 5)⟩,
       ⟨some 14, none, .bin .add 0 (.tmp 12) (.tmp 13)⟩,
       ⟨some 3, none, .mv (.tmp 14)⟩])))
    (.ops [⟨some 15, none, .bin .add 0 (.tmp 8) (.const (.int .i64 1))⟩,
     ⟨some 8, none, .mv (.tmp 15)⟩])))))))
 (.seq (.ops [⟨some 16, none, .mv (.tmp 3)⟩,
   ⟨some 2, none, .mv (.tmp 16)⟩])
 .ret))))
theorem C118_ok : Try.f118.body.bind (comp Try.prog) = some C118 := by kernel_rfl
theorem C118_res : compRs Try.prog Try.f118.results.toList = some [.tmp 2] := by kernel_rfl
theorem C118_nm : (Try.f118.name == "runtime.NumGoroutine") = false := by kernel_rfl
theorem C118_fn {a0 : AV} {H : Heap} {Q : AV → Heap → Prop} (h : vc Try.prog C118 (vcEnd [.tmp 2] Q) H [a0, .any, .any, .any, .any, .any, .any, .any, .any, .any, .any, .any, .any, .any, .any, .any, .any]) : Runs Try.prog 118 [a0] H Q :=
  @fn_go Try.prog mixed 118 Try.f118 C118 [.tmp 2] Try.func118 C118_ok C118_res C118_nm 17 Try.ntmps118 [a0] [a0, .any, .any, .any, .any, .any, .any, .any, .any, .any, .any, .any, .any, .any, .any, .any, .any] H Q h 16 (by kernel_rfl) (by kernel_rfl)

/-- impl.costsOf -/
def C119 : CC :=
 (.seq (.ops [⟨some 2, none, .mv (.const (.slice none 0 0))⟩])
 (.seq (.ops [⟨some 6, none, .lit 1 []⟩,
   ⟨some 3, none, .mv (.tmp 6)⟩])
 (.seq (.seq (.ops [⟨some 7, none, .mv (.tmp 0)⟩,
    ⟨some 8, none, .len false (.tmp 7)⟩,
    ⟨some 9, none, .mv (.const (.int .i64 0))⟩])
  (.block 0 (.loop (.seq (.ops [⟨some 10, none, .bin .lss 0 (.tmp 9) (.tmp 8)⟩])
    (.seq (.cond (.tmp 10) .skip
     (.exit 0))
    (.seq (.block 1 (.seq (.ops [⟨some 11, none, .ia 5 (.tmp 7) (.tmp 9)⟩,
        ⟨some 12, none, .load true 5 (.tmp 11)⟩,
        ⟨some 5, none, .alloc [.string ⟨#[]⟩, .int .i64 0, .int .i64 0, .int .i64 0, .int .i64 0]⟩,
        ⟨none, none, .store 5 (.tmp 5) (.tmp 12)⟩])
      (.ops [⟨some 13, none, .mv (.tmp 3)⟩,
       ⟨some 14, none, .fa 4 (.tmp 5)⟩,
       ⟨some 15, none, .load false 1 (.tmp 14)⟩,
       ⟨some 16, none, .lit 1 [(.tmp 15)]⟩,
       ⟨some 17, none, .app 1 8 (.tmp 13) (.tmp 16)⟩,
       ⟨some 3, none, .mv (.tmp 17)⟩])))
    (.ops [⟨some 18, none, .bin .add 0 (.tmp 9) (.const (.int .i64 1))⟩,
     ⟨some 9, none, .mv (.tmp 18)⟩])))))))
 (.seq (.ops [⟨some 19, none, .mv (.tmp 3)⟩,
   ⟨some 2, none, .mv (.tmp 19)⟩])
 .ret))))
theorem C119_ok : Try.f119.body.bind (comp Try.prog) = some C119 := by kernel_rfl
theorem C119_res : compRs Try.prog Try.f119.results.toList = some [.tmp 2] := by kernel_rfl
theorem C119_nm : (Try.f119.name == "runtime.NumGoroutine") = false := by kernel_rfl
theorem C119_fn {a0 : AV} {H : Heap} {Q : AV → Heap → Prop} (h : vc Try.prog C119 (vcEnd [.tmp 2] Q) H [a0, .any, .any, .any, .any, .any, .any, .any, .any, .any, .any, .any, .any, .any, .any, .any, .any, .any, .any, .any]) : Runs Try.prog 119 [a0] H Q :=
  @fn_go Try.prog mixed 119 Try.f119 C119 [.tmp 2] Try.func119 C119_ok C119_res C119_nm 20 Try.ntmps119 [a0] [a0, .any, .any, .any, .any, .any, .any, .any, .any, .any, .any, .any, .any, .any, .any, .any, .any, .any, .any, .any] H Q h 19 (by kernel_rfl) (by kernel_rfl)

/-- impl.meritsOf -/
def C120 : CC :=
 (.seq (.ops [⟨some 2, none, .mv (.const (.slice none 0 0))⟩])
 (.seq (.ops [⟨some 6, none, .lit 1 []⟩,
   ⟨some 3, none, .mv (.tmp 6)⟩])
 (.seq (.seq (.ops [⟨some 7, none, .mv (.tmp 0)⟩,
    ⟨some 8, none, .len false (.tmp 7)⟩,
    ⟨some 9, none, .mv (.const (.int .i64 0))⟩])
  (.block 0 (.loop (.seq (.ops [⟨some 10, none, .bin .lss 0 (.tmp 9) (.tmp 8)⟩])
    (.seq (.cond (.tmp 10) .skip
     (.exit 0))
    (.seq (.block 1 (.seq (.ops [⟨some 11, none, .ia 5 (.tmp 7) (.tmp 9)⟩,
        ⟨some 12, none, .load true 5 (.tmp 11)⟩,
        ⟨some 5, none, .alloc [.string ⟨#[]⟩, .int .i64 0, .int .i64 0, .int .i64 0, .int .i64 0]⟩,
        ⟨none, none, .store 5 (.tmp 5) (.tmp 12)⟩])
      (.ops [⟨some 13, none, .mv (.tmp 3)⟩,
       ⟨some 14, none, .load true 5 (.tmp 5)⟩,
       ⟨some 15, none, .call (.func 78) [(.tmp 14)]⟩,
       ⟨some 16, none, .lit 1 [(.tmp 15)]⟩,
       ⟨some 17, none, .app 1 8 (.tmp 13) (.tmp 16)⟩,
       ⟨some 3, none, .mv (.tmp 17)⟩])))
    (.ops [⟨some 18, none, .bin .add 0 (.tmp 9) (.const (.int .i64 1))⟩,
     ⟨some 9, none, .mv (.tmp 18)⟩])))))))
 (.seq (.ops [⟨some 19, none, .mv (.tmp 3)⟩,
   ⟨some 2, none, .mv (.tmp 19)⟩])
 .ret))))
theorem C120_ok : Try.f120.body.bind (comp Try.prog) = some C120 := by kernel_rfl
theorem C120_res : compRs Try.prog Try.f120.results.toList = some [.tmp 2] := by kernel_rfl
theorem C120_nm : (Try.f120.name == "runtime.NumGoroutine") = false := by kernel_rfl
theorem C120_fn {a0 : AV} {H : Heap} {Q : AV → Heap → Prop} (h : vc Try.prog C120 (vcEnd [.tmp 2] Q) H [a0, .any, .any, .any, .any, .any, .any, .any, .any, .any, .any, .any, .any, .any, .any, .any, .any, .any, .any, .any]) : Runs Try.prog 120 [a0] H Q :=
  @fn_go Try.prog mixed 120 Try.f120 C120 [.tmp 2] Try.func120 C120_ok C120_res C120_nm 20 Try.ntmps120 [a0] [a0, .any, .any, .any, .any, .any, .any, .any, .any, .any, .any, .any, .any, .any, .any, .any, .any, .any, .any, .any] H Q h 19 (by kernel_rfl) (by kernel_rfl)

/-- impl.PointsFor -/
def C52 : CC :=
 (.seq (.ops [⟨some 6, none, .mv (.const (.int .i64 0))⟩,
   ⟨some 7, none, .mv (.const (.int .i64 0))⟩])
 (.seq (.seq (.ops [⟨some 11, none, .mv (.tmp 0)⟩,
    ⟨some 12, none, .mv (.tmp 1)⟩,
    ⟨some 13, none, .call (.func 117) [(.tmp 11), (.tmp 12)]⟩,
    ⟨some 8, none, .mv (.tmp 13)⟩])
  (.seq (.ops [⟨some 14, none, .mv (.tmp 8)⟩,
    ⟨some 15, none, .bin .neq 0 (.tmp 14) (.const (.int .i64 0))⟩])
  (.cond (.tmp 15) (.seq (.ops [⟨some 16, none, .mv (.tmp 8)⟩,
     ⟨some 6, none, .mv (.const (.int .i64 0))⟩,
     ⟨some 7, none, .mv (.tmp 16)⟩])
   .ret)
  .skip)))
 (.seq (.seq (.ops [⟨some 17, none, .mv (.tmp 2)⟩,
    ⟨some 18, none, .call (.func 100) [(.tmp 17)]⟩,
    ⟨some 19, none, .not (.tmp 18)⟩])
  (.cond (.tmp 19) (.seq (.ops [⟨some 6, none, .mv (.const (.int .i64 0))⟩,
     ⟨some 7, none, .mv (.const (.int .i64 2))⟩])
   .ret)
  .skip))
 (.seq (.ops [⟨some 20, none, .mv (.tmp 0)⟩,
   ⟨some 21, none, .call (.func 119) [(.tmp 20)]⟩,
   ⟨some 22, none, .call (.func 118) [(.tmp 21)]⟩,
   ⟨some 9, none, .mv (.tmp 22)⟩])
 (.seq (.seq (.ops [⟨some 23, none, .mv (.tmp 0)⟩,
    ⟨some 24, none, .call (.func 120) [(.tmp 23)]⟩,
    ⟨some 25, none, .call (.func 118) [(.tmp 24)]⟩,
    ⟨some 26, none, .bin .gtr 0 (.tmp 25) (.const (.int .i64 0))⟩])
  (.cond (.tmp 26) (.ops [⟨some 9, none, .mv (.const (.int .i64 1000000000))⟩])
  .skip))
 (.seq (.seq (.ops [⟨some 10, none, .mv (.const (.int .i64 0))⟩])
  (.block 0 (.loop (.seq (.seq (.ops [⟨some 27, none, .mv (.tmp 10)⟩,
       ⟨some 28, none, .bin .leq 0 (.tmp 27) (.const (.int .i64 10000))⟩])
     (.cond (.tmp 28) .skip
     (.exit 0)))
    (.seq (.block 1 (.seq (.ops [⟨some 31, none, .mv (.tmp 1)⟩,
        ⟨some 32, none, .mv (.tmp 10)⟩,
        ⟨some 33, none, .bin .mul 0 (.tmp 31) (.tmp 32)⟩,
        ⟨some 34, none, .bin .quo 0 (.tmp 33) (.const (.int .i64 10000))⟩,
        ⟨some 35, none, .mv (.tmp 9)⟩,
        ⟨some 36, none, .mn (.tmp 34) (.tmp 35)⟩,
        ⟨some 37, none, .mv (.tmp 2)⟩,
        ⟨some 38, none, .bin .geq 0 (.tmp 36) (.tmp 37)⟩])
      (.cond (.tmp 38) (.seq (.ops [⟨some 39, none, .mv (.tmp 10)⟩,
         ⟨some 6, none, .mv (.tmp 39)⟩,
         ⟨some 7, none, .mv (.const (.int .i64 0))⟩])
       .ret)
      .skip)))
    (.ops [⟨some 29, none, .mv (.tmp 10)⟩,
     ⟨some 30, none, .bin .add 0 (.tmp 29) (.const (.int .i64 1))⟩,
     ⟨some 10, none, .mv (.tmp 30)⟩]))))))
 (.seq (.ops [⟨some 6, none, .mv (.const (.int .i64 0))⟩,
   ⟨some 7, none, .mv (.const (.int .i64 4))⟩])
 .ret)))))))
theorem C52_ok : Try.f52.body.bind (comp Try.prog) = some C52 := by kernel_rfl
theorem C52_res : compRs Try.prog Try.f52.results.toList = some [.tmp 6, .tmp 7] := by kernel_rfl
theorem C52_nm : (Try.f52.name == "runtime.NumGoroutine") = false := by kernel_rfl
theorem C52_fn {a0 a1 a2 : AV} {H : Heap} {Q : AV → Heap → Prop} (h : vc Try.prog C52 (vcEnd [.tmp 6, .tmp 7] Q) H [a0, a1, a2, .any, .any, .any, .any, .any, .any, .any, .any, .any, .any, .any, .any, .any, .any, .any, .any, .any, .any, .any, .any, .any, .any, .any, .any, .any, .any, .any, .any, .any, .any, .any, .any, .any, .any, .any, .any, .any]) : Runs Try.prog 52 [a0, a1, a2] H Q :=
  @fn_go Try.prog mixed 52 Try.f52 C52 [.tmp 6, .tmp 7] Try.func52 C52_ok C52_res C52_nm 40 Try.ntmps52 [a0, a1, a2] [a0, a1, a2, .any, .any, .any, .any, .any, .any, .any, .any, .any, .any, .any, .any, .any, .any, .any, .any, .any, .any, .any, .any, .any, .any, .any, .any, .any, .any, .any, .any, .any, .any, .any, .any, .any, .any, .any, .any, .any] H Q h 37 (by kernel_rfl) (by kernel_rfl)

/-- laws.FnExactPointsFor -/
def C10 : CC :=
 (.seq (.ops [⟨some 6, none, .mv (.const (.bool false))⟩])
 (.seq (.ops [⟨some 7, none, .mv (.const (.int .i64 1048576))⟩])
 (.seq (.ops [⟨some 13, none, .mv (.tmp 0)⟩,
   ⟨some 14, none, .mv (.tmp 7)⟩,
   ⟨some 15, none, .call (.func 15) [(.tmp 13), (.tmp 14)]⟩,
   ⟨some 7, none, .mv (.tmp 15)⟩])
 (.seq (.seq (.ops [⟨some 16, none, .mv (.tmp 7)⟩,
    ⟨some 17, none, .bin .lss 0 (.tmp 16) (.const (.int .i64 0))⟩])
  (.cond (.tmp 17) (.seq (.ops [⟨some 6, none, .mv (.const (.bool true))⟩])
   .ret)
  .skip))
 (.seq (.ops [⟨some 19, none, .mv (.tmp 0)⟩,
   ⟨some 20, none, .call (.func 17) [(.tmp 19)]⟩,
   ⟨some 21, none, .mv (.tmp 1)⟩,
   ⟨some 22, none, .mv (.tmp 2)⟩,
   ⟨some 23, none, .call (.func 51) [(.tmp 20), (.tmp 21), (.tmp 22)]⟩,
   ⟨some 18, none, .mv (.tmp 23)⟩,
   ⟨some 24, none, .ext (.tmp 18) 0⟩,
   ⟨some 25, none, .ext (.tmp 18) 1⟩,
   ⟨some 8, none, .mv (.tmp 24)⟩,
   ⟨some 9, none, .mv (.tmp 25)⟩])
 (.seq (.ops [⟨some 26, none, .mv (.tmp 0)⟩,
   ⟨some 27, none, .call (.func 17) [(.tmp 26)]⟩,
   ⟨some 10, none, .mv (.tmp 27)⟩])
 (.seq (.ops [⟨some 29, none, .mv (.tmp 10)⟩,
   ⟨some 30, none, .mv (.tmp 1)⟩,
   ⟨some 31, none, .mv (.tmp 2)⟩,
   ⟨some 32, none, .call (.func 52) [(.tmp 29), (.tmp 30), (.tmp 31)]⟩,
   ⟨some 28, none, .mv (.tmp 32)⟩,
   ⟨some 33, none, .ext (.tmp 28) 0⟩,
   ⟨some 34, none, .ext (.tmp 28) 1⟩,
   ⟨some 11, none, .mv (.tmp 33)⟩,
   ⟨some 12, none, .mv (.tmp 34)⟩])
 (.seq (.seq (.ops [⟨some 35, none, .mv (.tmp 11)⟩,
    ⟨some 36, none, .mv (.tmp 8)⟩,
    ⟨some 37, none, .bin .neq 0 (.tmp 35) (.tmp 36)⟩,
    ⟨some 38, none, .mv (.tmp 37)⟩,
    ⟨some 39, some (38, false), .mv (.tmp 12)⟩,
    ⟨some 40, some (38, false), .mv (.tmp 9)⟩,
    ⟨some 41, some (38, false), .bin .neq 0 (.tmp 39) (.tmp 40)⟩,
    ⟨some 42, none, .pick (.tmp 38) (.const (.bool true)) (.tmp 41)⟩])
  (.cond (.tmp 42) (.seq (.ops [⟨some 6, none, .mv (.const (.bool false))⟩])
   .ret)
  .skip))
 (.seq (.seq (.ops [⟨some 43, none, .mv (.tmp 10)⟩,
    ⟨some 44, none, .mv (.tmp 0)⟩,
    ⟨some 45, none, .call (.func 17) [(.tmp 44)]⟩,
    ⟨some 46, none, .call (.func 19) [(.tmp 43), (.tmp 45)]⟩,
    ⟨some 47, none, .not (.tmp 46)⟩])
  (.cond (.tmp 47) (.seq (.ops [⟨some 6, none, .mv (.const (.bool false))⟩])
   .ret)
  .skip))
 (.seq (.ops [⟨some 6, none, .mv (.const (.bool true))⟩])
 .ret))))))))))
theorem C10_ok : Try.f10.body.bind (comp Try.prog) = some C10 := by kernel_rfl
theorem C10_res : compRs Try.prog Try.f10.results.toList = some [.tmp 6] := by kernel_rfl
theorem C10_nm : (Try.f10.name == "runtime.NumGoroutine") = false := by kernel_rfl
theorem C10_fn {a0 a1 a2 : AV} {H : Heap} {Q : AV → Heap → Prop} (h : vc Try.prog C10 (vcEnd [.tmp 6] Q) H [a0, a1, a2, .any, .any, .any, .any, .any, .any, .any, .any, .any, .any, .any, .any, .any, .any, .any, .any, .any, .any, .any, .any, .any, .any, .any, .any, .any, .any, .any, .any, .any, .any, .any, .any, .any, .any, .any, .any, .any, .any, .any, .any, .any, .any, .any, .any, .any]) : Runs Try.prog 10 [a0, a1, a2] H Q :=
  @fn_go Try.prog mixed 10 Try.f10 C10 [.tmp 6] Try.func10 C10_ok C10_res C10_nm 48 Try.ntmps10 [a0, a1, a2] [a0, a1, a2, .any, .any, .any, .any, .any, .any, .any, .any, .any, .any, .any, .any, .any, .any, .any, .any, .any, .any, .any, .any, .any, .any, .any, .any, .any, .any, .any, .any, .any, .any, .any, .any, .any, .any, .any, .any, .any, .any, .any, .any, .any, .any, .any, .any, .any] H Q h 45 (by kernel_rfl) (by kernel_rfl)

/-- spec.UnawardedOf -/
def C53 : CC :=
 (.seq (.ops [⟨some 4, none, .mv (.const (.int .i64 0))⟩,
   ⟨some 5, none, .mv (.const (.int .i64 0))⟩])
 (.seq (.ops [⟨some 7, none, .mv (.tmp 0)⟩,
   ⟨some 8, none, .mv (.tmp 1)⟩,
   ⟨some 9, none, .call (.func 115) [(.tmp 7), (.tmp 8)]⟩,
   ⟨some 6, none, .mv (.tmp 9)⟩])
 (.seq (.seq (.ops [⟨some 10, none, .mv (.tmp 6)⟩,
    ⟨some 11, none, .bin .neq 0 (.tmp 10) (.const (.int .i64 0))⟩])
  (.cond (.tmp 11) (.seq (.ops [⟨some 12, none, .mv (.tmp 6)⟩,
     ⟨some 4, none, .mv (.const (.int .i64 0))⟩,
     ⟨some 5, none, .mv (.tmp 12)⟩])
   .ret)
  .skip))
 (.seq (.ops [⟨some 13, none, .mv (.tmp 1)⟩,
   ⟨some 14, none, .mv (.tmp 0)⟩,
   ⟨some 15, none, .mv (.tmp 1)⟩,
   ⟨some 16, none, .call (.func 116) [(.tmp 14), (.tmp 15)]⟩,
   ⟨some 17, none, .call (.func 103) [(.tmp 16)]⟩,
   ⟨some 18, none, .bin .sub 0 (.tmp 13) (.tmp 17)⟩,
   ⟨some 4, none, .mv (.tmp 18)⟩,
   ⟨some 5, none, .mv (.const (.int .i64 0))⟩])
 .ret))))
theorem C53_ok : Try.f53.body.bind (comp Try.prog) = some C53 := by kernel_rfl
theorem C53_res : compRs Try.prog Try.f53.results.toList = some [.tmp 4, .tmp 5] := by kernel_rfl
theorem C53_nm : (Try.f53.name == "runtime.NumGoroutine") = false := by kernel_rfl
theorem C53_fn {a0 a1 : AV} {H : Heap} {Q : AV → Heap → Prop} (h : vc Try.prog C53 (vcEnd [.tmp 4, .tmp 5] Q) H [a0, a1, .any, .any, .any, .any, .any, .any, .any, .any, .any, .any, .any, .any, .any, .any, .any, .any, .any]) : Runs Try.prog 53 [a0, a1] H Q :=
  @fn_go Try.prog mixed 53 Try.f53 C53 [.tmp 4, .tmp 5] Try.func53 C53_ok C53_res C53_nm 19 Try.ntmps53 [a0, a1] [a0, a1, .any, .any, .any, .any, .any, .any, .any, .any, .any, .any, .any, .any, .any, .any, .any, .any, .any] H Q h 17 (by kernel_rfl) (by kernel_rfl)

/-- slices.Index[[]int64,int64] -/
def C164 : CC :=
 (.seq (.ops [⟨some 4, none, .mv (.const (.int .i64 0))⟩])
 (.seq (.seq (.ops [⟨some 6, none, .mv (.tmp 0)⟩,
    ⟨some 7, none, .len false (.tmp 6)⟩,
    ⟨some 8, none, .mv (.const (.int .i64 0))⟩])
  (.block 0 (.loop (.seq (.ops [⟨some 9, none, .bin .lss 0 (.tmp 8) (.tmp 7)⟩])
    (.seq (.cond (.tmp 9) .skip
     (.exit 0))
    (.seq (.block 1 (.seq (.ops [⟨some 10, none, .mv (.tmp 8)⟩,
        ⟨some 5, none, .mv (.tmp 10)⟩])
      (.seq (.ops [⟨some 11, none, .mv (.tmp 1)⟩,
        ⟨some 12, none, .mv (.tmp 0)⟩,
        ⟨some 13, none, .mv (.tmp 5)⟩,
        ⟨some 14, none, .ia 1 (.tmp 12) (.tmp 13)⟩,
        ⟨some 15, none, .load false 1 (.tmp 14)⟩,
        ⟨some 16, none, .bin .eql 0 (.tmp 11) (.tmp 15)⟩])
      (.cond (.tmp 16) (.seq (.ops [⟨some 17, none, .mv (.tmp 5)⟩,
         ⟨some 4, none, .mv (.tmp 17)⟩])
       .ret)
      .skip))))
    (.ops [⟨some 18, none, .bin .add 0 (.tmp 8) (.const (.int .i64 1))⟩,
     ⟨some 8, none, .mv (.tmp 18)⟩])))))))
 (.seq (.ops [⟨some 4, none, .mv (.const (.int .i64 (-1)))⟩])
 .ret)))
theorem C164_ok : Try.f164.body.bind (comp Try.prog) = some C164 := by kernel_rfl
theorem C164_res : compRs Try.prog Try.f164.results.toList = some [.tmp 4] := by kernel_rfl
theorem C164_nm : (Try.f164.name == "runtime.NumGoroutine") = false := by kernel_rfl
theorem C164_fn {a0 a1 : AV} {H : Heap} {Q : AV → Heap → Prop} (h : vc Try.prog C164 (vcEnd [.tmp 4] Q) H [a0, a1, .any, .any, .any, .any, .any, .any, .any, .any, .any, .any, .any, .any, .any, .any, .any, .any, .any]) : Runs Try.prog 164 [a0, a1] H Q :=
  @fn_go Try.prog mixed 164 Try.f164 C164 [.tmp 4] Try.func164 C164_ok C164_res C164_nm 19 Try.ntmps164 [a0, a1] [a0, a1, .any, .any, .any, .any, .any, .any, .any, .any, .any, .any, .any, .any, .any, .any, .any, .any, .any] H Q h 17 (by kernel_rfl) (by kernel_rfl)

/-- slices.Max[[]int64,int64] -/
def C165 : CC :=
 (.seq (.ops [⟨some 2, none, .mv (.const (.int .i64 0))⟩])
 (.seq (.seq (.ops [⟨some 5, none, .mv (.tmp 0)⟩,
    ⟨some 6, none, .len false (.tmp 5)⟩,
    ⟨some 7, none, .bin .lss 0 (.tmp 6) (.const (.int .i64 1))⟩])
  (.cond (.tmp 7) .dead
  .skip))
 (.seq (.ops [⟨some 9, none, .mv (.tmp 0)⟩,
   ⟨some 10, none, .ia 1 (.tmp 9) (.const (.int .i64 0))⟩,
   ⟨some 11, none, .load false 1 (.tmp 10)⟩,
   ⟨some 3, none, .mv (.tmp 11)⟩])
 (.seq (.seq (.ops [⟨some 4, none, .mv (.const (.int .i64 1))⟩])
  (.block 0 (.loop (.seq (.seq (.ops [⟨some 12, none, .mv (.tmp 4)⟩,
       ⟨some 13, none, .mv (.tmp 0)⟩,
       ⟨some 14, none, .len false (.tmp 13)⟩,
       ⟨some 15, none, .bin .lss 0 (.tmp 12) (.tmp 14)⟩])
     (.cond (.tmp 15) .skip
     (.exit 0)))
    (.seq (.block 1 (.ops [⟨some 18, none, .mv (.tmp 3)⟩,
       ⟨some 19, none, .mv (.tmp 0)⟩,
       ⟨some 20, none, .mv (.tmp 4)⟩,
       ⟨some 21, none, .ia 1 (.tmp 19) (.tmp 20)⟩,
       ⟨some 22, none, .load false 1 (.tmp 21)⟩,
       ⟨some 23, none, .mx (.tmp 18) (.tmp 22)⟩,
       ⟨some 3, none, .mv (.tmp 23)⟩]))
    (.ops [⟨some 16, none, .mv (.tmp 4)⟩,
     ⟨some 17, none, .bin .add 0 (.tmp 16) (.const (.int .i64 1))⟩,
     ⟨some 4, none, .mv (.tmp 17)⟩]))))))
 (.seq (.ops [⟨some 24, none, .mv (.tmp 3)⟩,
   ⟨some 2, none, .mv (.tmp 24)⟩])
 .ret)))))
theorem C165_ok : Try.f165.body.bind (comp Try.prog) = some C165 := by kernel_rfl
theorem C165_res : compRs Try.prog Try.f165.results.toList = some [.tmp 2] := by kernel_rfl
theorem C165_nm : (Try.f165.name == "runtime.NumGoroutine") = false := by kernel_rfl
theorem C165_fn {a0 : AV} {H : Heap} {Q : AV → Heap → Prop} (h : vc Try.prog C165 (vcEnd [.tmp 2] Q) H [a0, .any, .any, .any, .any, .any, .any, .any, .any, .any, .any, .any, .any, .any, .any, .any, .any, .any, .any, .any, .any, .any, .any, .any, .any]) : Runs Try.prog 165 [a0] H Q :=
  @fn_go Try.prog mixed 165 Try.f165 C165 [.tmp 2] Try.func165 C165_ok C165_res C165_nm 25 Try.ntmps165 [a0] [a0, .any, .any, .any, .any, .any, .any, .any, .any, .any, .any, .any, .any, .any, .any, .any, .any, .any, .any, .any, .any, .any, .any, .any, .any] H Q h 24 (by kernel_rfl) (by kernel_rfl)

/-- impl.shareOut -/
def C150 : CC :=
 (.seq (.ops [⟨some 4, none, .mv (.const (.slice none 0 0))⟩])
 (.seq (.ops [⟨some 12, none, .mv (.tmp 1)⟩,
   ⟨some 13, none, .call (.func 118) [(.tmp 12)]⟩,
   ⟨some 14, none, .lit 1 []⟩,
   ⟨some 15, none, .lit 1 []⟩,
   ⟨some 5, none, .mv (.tmp 13)⟩,
   ⟨some 6, none, .mv (.tmp 14)⟩,
   ⟨some 7, none, .mv (.tmp 15)⟩])
 (.seq (.seq (.ops [⟨some 16, none, .mv (.tmp 1)⟩,
    ⟨some 17, none, .len false (.tmp 16)⟩,
    ⟨some 18, none, .mv (.const (.int .i64 0))⟩])
  (.block 0 (.loop (.seq (.ops [⟨some 19, none, .bin .lss 0 (.tmp 18) (.tmp 17)⟩])
    (.seq (.cond (.tmp 19) .skip
     (.exit 0))
    (.seq (.block 1 (.seq (.ops [⟨some 20, none, .ia 1 (.tmp 16) (.tmp 18)⟩,
        ⟨some 21, none, .load false 1 (.tmp 20)⟩,
        ⟨some 9, none, .mv (.tmp 21)⟩])
      (.loud 17 (.alt (.step ⟨some 28, none, .lit 1 [(.tmp 27)]⟩ (.alt (.step ⟨some 29, none, .app 1 8 (.tmp 22) (.tmp 28)⟩ (.step ⟨some 36, none, .lit 1 [(.tmp 35)]⟩ (.step ⟨some 37, none, .app 1 8 (.tmp 30) (.tmp 36)⟩ (.step ⟨some 6, none, .mv (.tmp 29)⟩ .leaf))))
       (.step ⟨some 36, none, .lit 1 [(.tmp 35)]⟩ (.step ⟨some 29, none, .app 1 8 (.tmp 22) (.tmp 28)⟩ (.step ⟨some 37, none, .app 1 8 (.tmp 30) (.tmp 36)⟩ (.step ⟨some 6, none, .mv (.tmp 29)⟩ .leaf))))))
       (.step ⟨some 36, none, .lit 1 [(.tmp 35)]⟩ (.step ⟨some 28, none, .lit 1 [(.tmp 27)]⟩ (.step ⟨some 29, none, .app 1 8 (.tmp 22) (.tmp 28)⟩ (.step ⟨some 37, none, .app 1 8 (.tmp 30) (.tmp 36)⟩ (.step ⟨some 6, none, .mv (.tmp 29)⟩ .leaf))))))
       [⟨some 22, none, .mv (.tmp 6)⟩, 
      ⟨some 23, none, .mv (.tmp 0)⟩, 
      ⟨some 24, none, .mv (.tmp 9)⟩, 
      ⟨some 25, none, .bin .mul 0 (.tmp 23) (.tmp 24)⟩, 
      ⟨some 26, none, .mv (.tmp 5)⟩, 
      ⟨some 27, none, .bin .quo 0 (.tmp 25) (.tmp 26)⟩, 
      ⟨none, none, .mv (.const undef)⟩, 
      ⟨none, none, .mv (.const undef)⟩, 
      ⟨some 30, none, .mv (.tmp 7)⟩, 
      ⟨some 31, none, .mv (.tmp 0)⟩, 
      ⟨some 32, none, .mv (.tmp 9)⟩, 
      ⟨some 33, none, .bin .mul 0 (.tmp 31) (.tmp 32)⟩, 
      ⟨some 34, none, .mv (.tmp 5)⟩, 
      ⟨some 35, none, .bin .rem 0 (.tmp 33) (.tmp 34)⟩, 
      ⟨none, none, .mv (.const undef)⟩, 
      ⟨none, none, .mv (.const undef)⟩, 
      ⟨none, none, .mv (.const undef)⟩]
       [⟨some 7, none, .mv (.tmp 37)⟩])))
    (.ops [⟨some 38, none, .bin .add 0 (.tmp 18) (.const (.int .i64 1))⟩,
     ⟨some 18, none, .mv (.tmp 38)⟩])))))))
 (.seq (.seq (.ops [⟨some 39, none, .mv (.tmp 0)⟩,
    ⟨some 40, none, .mv (.tmp 6)⟩,
    ⟨some 41, none, .call (.func 118) [(.tmp 40)]⟩,
    ⟨some 42, none, .bin .sub 0 (.tmp 39) (.tmp 41)⟩,
    ⟨some 10, none, .mv (.tmp 42)⟩])
  (.block 2 (.loop (.seq (.seq (.ops [⟨some 43, none, .mv (.tmp 10)⟩,
       ⟨some 44, none, .bin .gtr 0 (.tmp 43) (.const (.int .i64 0))⟩])
     (.cond (.tmp 44) .skip
     (.exit 2)))
    (.seq (.block 3 (.seq (.ops [⟨some 47, none, .mv (.tmp 7)⟩,
        ⟨some 48, none, .mv (.tmp 7)⟩,
        ⟨some 49, none, .call (.func 165) [(.tmp 48)]⟩,
        ⟨some 50, none, .call (.func 164) [(.tmp 47), (.tmp 49)]⟩,
        ⟨some 11, none, .mv (.tmp 50)⟩])
      (.seq (.ops [⟨some 51, none, .mv (.tmp 6)⟩,
        ⟨some 52, none, .mv (.tmp 11)⟩,
        ⟨some 53, none, .ia 1 (.tmp 51) (.tmp 52)⟩,
        ⟨some 54, none, .load false 1 (.tmp 53)⟩,
        ⟨some 55, none, .bin .add 0 (.tmp 54) (.const (.int .i64 1))⟩,
        ⟨some 56, none, .ia 1 (.tmp 51) (.tmp 52)⟩,
        ⟨none, none, .store 1 (.tmp 56) (.tmp 55)⟩])
      (.ops [⟨some 57, none, .mv (.tmp 7)⟩,
       ⟨some 58, none, .mv (.tmp 11)⟩,
       ⟨some 59, none, .ia 1 (.tmp 57) (.tmp 58)⟩,
       ⟨none, none, .store 1 (.tmp 59) (.const (.int .i64 (-1)))⟩]))))
    (.ops [⟨some 45, none, .mv (.tmp 10)⟩,
     ⟨some 46, none, .bin .sub 0 (.tmp 45) (.const (.int .i64 1))⟩,
     ⟨some 10, none, .mv (.tmp 46)⟩]))))))
 (.seq (.ops [⟨some 60, none, .mv (.tmp 6)⟩,
   ⟨some 4, none, .mv (.tmp 60)⟩])
 .ret)))))
theorem C150_ok : Try.f150.body.bind (comp Try.prog) = some C150 := by kernel_rfl
theorem C150_res : compRs Try.prog Try.f150.results.toList = some [.tmp 4] := by kernel_rfl
theorem C150_nm : (Try.f150.name == "runtime.NumGoroutine") = false := by kernel_rfl
theorem C150_fn {a0 a1 : AV} {H : Heap} {Q : AV → Heap → Prop} (h : vc Try.prog C150 (vcEnd [.tmp 4] Q) H [a0, a1, .any, .any, .any, .any, .any, .any, .any, .any, .any, .any, .any, .any, .any, .any, .any, .any, .any, .any, .any, .any, .any, .any, .any, .any, .any, .any, .any, .any, .any, .any, .any, .any, .any, .any, .any, .any, .any, .any, .any, .any, .any, .any, .any, .any, .any, .any, .any, .any, .any, .any, .any, .any, .any, .any, .any, .any, .any, .any, .any]) : Runs Try.prog 150 [a0, a1] H Q :=
  @fn_go Try.prog mixed 150 Try.f150 C150 [.tmp 4] Try.func150 C150_ok C150_res C150_nm 61 Try.ntmps150 [a0, a1] [a0, a1, .any, .any, .any, .any, .any, .any, .any, .any, .any, .any, .any, .any, .any, .any, .any, .any, .any, .any, .any, .any, .any, .any, .any, .any, .any, .any, .any, .any, .any, .any, .any, .any, .any, .any, .any, .any, .any, .any, .any, .any, .any, .any, .any, .any, .any, .any, .any, .any, .any, .any, .any, .any, .any, .any, .any, .any, .any, .any, .any] H Q h 59 (by kernel_rfl) (by kernel_rfl)

/-- impl.award -/
def C121 : CC :=
 (.seq (.ops [⟨some 4, none, .mv (.const (.slice none 0 0))⟩])
 (.seq (.ops [⟨some 9, none, .mv (.tmp 0)⟩,
   ⟨some 10, none, .call (.func 119) [(.tmp 9)]⟩,
   ⟨some 11, none, .mv (.tmp 0)⟩,
   ⟨some 12, none, .call (.func 120) [(.tmp 11)]⟩,
   ⟨some 5, none, .mv (.tmp 10)⟩,
   ⟨some 6, none, .mv (.tmp 12)⟩])
 (.seq (.seq (.ops [⟨some 13, none, .mv (.tmp 1)⟩,
    ⟨some 14, none, .mv (.tmp 5)⟩,
    ⟨some 15, none, .call (.func 118) [(.tmp 14)]⟩,
    ⟨some 16, none, .bin .lss 0 (.tmp 13) (.tmp 15)⟩])
  (.cond (.tmp 16) (.seq (.ops [⟨some 17, none, .mv (.tmp 1)⟩,
     ⟨some 18, none, .mv (.tmp 5)⟩,
     ⟨some 19, none, .call (.func 150) [(.tmp 17), (.tmp 18)]⟩,
     ⟨some 4, none, .mv (.tmp 19)⟩])
   .ret)
  .skip))
 (.seq (.seq (.ops [⟨some 20, none, .mv (.tmp 6)⟩,
    ⟨some 21, none, .call (.func 118) [(.tmp 20)]⟩,
    ⟨some 22, none, .bin .eql 0 (.tmp 21) (.const (.int .i64 0))⟩])
  (.cond (.tmp 22) (.seq (.ops [⟨some 23, none, .mv (.tmp 5)⟩,
     ⟨some 4, none, .mv (.tmp 23)⟩])
   .ret)
  .skip))
 (.seq (.seq (.ops [⟨some 24, none, .mv (.tmp 1)⟩,
    ⟨some 25, none, .mv (.tmp 5)⟩,
    ⟨some 26, none, .call (.func 118) [(.tmp 25)]⟩,
    ⟨some 27, none, .bin .sub 0 (.tmp 24) (.tmp 26)⟩,
    ⟨some 28, none, .mv (.tmp 6)⟩,
    ⟨some 29, none, .call (.func 150) [(.tmp 27), (.tmp 28)]⟩,
    ⟨some 30, none, .len false (.tmp 29)⟩,
    ⟨some 31, none, .mv (.const (.int .i64 0))⟩])
  (.block 0 (.loop (.seq (.ops [⟨some 32, none, .bin .lss 0 (.tmp 31) (.tmp 30)⟩])
    (.seq (.cond (.tmp 32) .skip
     (.exit 0))
    (.seq (.block 1 (.seq (.ops [⟨some 33, none, .mv (.tmp 31)⟩,
        ⟨some 34, none, .ia 1 (.tmp 29) (.tmp 31)⟩,
        ⟨some 35, none, .load false 1 (.tmp 34)⟩,
        ⟨some 7, none, .mv (.tmp 33)⟩,
        ⟨some 8, none, .mv (.tmp 35)⟩])
      (.ops [⟨some 36, none, .mv (.tmp 5)⟩,
       ⟨some 37, none, .mv (.tmp 7)⟩,
       ⟨some 38, none, .ia 1 (.tmp 36) (.tmp 37)⟩,
       ⟨some 39, none, .load false 1 (.tmp 38)⟩,
       ⟨some 40, none, .mv (.tmp 8)⟩,
       ⟨some 41, none, .bin .add 0 (.tmp 39) (.tmp 40)⟩,
       ⟨some 42, none, .ia 1 (.tmp 36) (.tmp 37)⟩,
       ⟨none, none, .store 1 (.tmp 42) (.tmp 41)⟩])))
    (.ops [⟨some 43, none, .bin .add 0 (.tmp 31) (.const (.int .i64 1))⟩,
     ⟨some 31, none, .mv (.tmp 43)⟩])))))))
 (.seq (.ops [⟨some 44, none, .mv (.tmp 5)⟩,
   ⟨some 4, none, .mv (.tmp 44)⟩])
 .ret))))))
theorem C121_ok : Try.f121.body.bind (comp Try.prog) = some C121 := by kernel_rfl
theorem C121_res : compRs Try.prog Try.f121.results.toList = some [.tmp 4] := by kernel_rfl
theorem C121_nm : (Try.f121.name == "runtime.NumGoroutine") = false := by kernel_rfl
theorem C121_fn {a0 a1 : AV} {H : Heap} {Q : AV → Heap → Prop} (h : vc Try.prog C121 (vcEnd [.tmp 4] Q) H [a0, a1, .any, .any, .any, .any, .any, .any, .any, .any, .any, .any, .any, .any, .any, .any, .any, .any, .any, .any, .any, .any, .any, .any, .any, .any, .any, .any, .any, .any, .any, .any, .any, .any, .any, .any, .any, .any, .any, .any, .any, .any, .any, .any, .any]) : Runs Try.prog 121 [a0, a1] H Q :=
  @fn_go Try.prog mixed 121 Try.f121 C121 [.tmp 4] Try.func121 C121_ok C121_res C121_nm 45 Try.ntmps121 [a0, a1] [a0, a1, .any, .any, .any, .any, .any, .any, .any, .any, .any, .any, .any, .any, .any, .any, .any, .any, .any, .any, .any, .any, .any, .any, .any, .any, .any, .any, .any, .any, .any, .any, .any, .any, .any, .any, .any, .any, .any, .any, .any, .any, .any, .any, .any] H Q h 43 (by kernel_rfl) (by kernel_rfl)

/-- impl.UnawardedOf -/
def C54 : CC :=
 (.seq (.ops [⟨some 4, none, .mv (.const (.int .i64 0))⟩,
   ⟨some 5, none, .mv (.const (.int .i64 0))⟩])
 (.seq (.seq (.ops [⟨some 7, none, .mv (.tmp 0)⟩,
    ⟨some 8, none, .mv (.tmp 1)⟩,
    ⟨some 9, none, .call (.func 117) [(.tmp 7), (.tmp 8)]⟩,
    ⟨some 6, none, .mv (.tmp 9)⟩])
  (.seq (.ops [⟨some 10, none, .mv (.tmp 6)⟩,
    ⟨some 11, none, .bin .neq 0 (.tmp 10) (.const (.int .i64 0))⟩])
  (.cond (.tmp 11) (.seq (.ops [⟨some 12, none, .mv (.tmp 6)⟩,
     ⟨some 4, none, .mv (.const (.int .i64 0))⟩,
     ⟨some 5, none, .mv (.tmp 12)⟩])
   .ret)
  .skip)))
 (.seq (.ops [⟨some 13, none, .mv (.tmp 1)⟩,
   ⟨some 14, none, .mv (.tmp 0)⟩,
   ⟨some 15, none, .mv (.tmp 1)⟩,
   ⟨some 16, none, .call (.func 121) [(.tmp 14), (.tmp 15)]⟩,
   ⟨some 17, none, .call (.func 118) [(.tmp 16)]⟩,
   ⟨some 18, none, .bin .sub 0 (.tmp 13) (.tmp 17)⟩,
   ⟨some 4, none, .mv (.tmp 18)⟩,
   ⟨some 5, none, .mv (.const (.int .i64 0))⟩])
 .ret)))
theorem C54_ok : Try.f54.body.bind (comp Try.prog) = some C54 := by kernel_rfl
theorem C54_res : compRs Try.prog Try.f54.results.toList = some [.tmp 4, .tmp 5] := by kernel_rfl
theorem C54_nm : (Try.f54.name == "runtime.NumGoroutine") = false := by kernel_rfl
theorem C54_fn {a0 a1 : AV} {H : Heap} {Q : AV → Heap → Prop} (h : vc Try.prog C54 (vcEnd [.tmp 4, .tmp 5] Q) H [a0, a1, .any, .any, .any, .any, .any, .any, .any, .any, .any, .any, .any, .any, .any, .any, .any, .any, .any]) : Runs Try.prog 54 [a0, a1] H Q :=
  @fn_go Try.prog mixed 54 Try.f54 C54 [.tmp 4, .tmp 5] Try.func54 C54_ok C54_res C54_nm 19 Try.ntmps54 [a0, a1] [a0, a1, .any, .any, .any, .any, .any, .any, .any, .any, .any, .any, .any, .any, .any, .any, .any, .any, .any] H Q h 17 (by kernel_rfl) (by kernel_rfl)

end Go.Proofs.Ytbgnlnlgjmipfaa
