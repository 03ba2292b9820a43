/- The code of the functions, in the form of our laws; each is the program's own, by the kernel. Written by a program of ours. -/
import Derived.Test.YtbgnlnlgjmipfaaB0
import Derived.KernelRfl
namespace Go.Proofs.Ytbgnlnlgjmipfaa
open Go.Abs

/-- laws.FnExactUnawardedOf -/
def C11 : CC :=
 (.seq (.ops [⟨some 4, none, .mv (.const (.bool false))⟩])
 (.seq (.ops [⟨some 5, none, .mv (.const (.int .i64 1048576))⟩])
 (.seq (.ops [⟨some 11, none, .mv (.tmp 0)⟩,
   ⟨some 12, none, .mv (.tmp 5)⟩,
   ⟨some 13, none, .call (.func 15) [(.tmp 11), (.tmp 12)]⟩,
   ⟨some 5, none, .mv (.tmp 13)⟩])
 (.seq (.seq (.ops [⟨some 14, none, .mv (.tmp 5)⟩,
    ⟨some 15, none, .bin .lss 0 (.tmp 14) (.const (.int .i64 0))⟩])
  (.cond (.tmp 15) (.seq (.ops [⟨some 4, none, .mv (.const (.bool true))⟩])
   .ret)
  .skip))
 (.seq (.ops [⟨some 17, none, .mv (.tmp 0)⟩,
   ⟨some 18, none, .call (.func 17) [(.tmp 17)]⟩,
   ⟨some 19, none, .mv (.tmp 1)⟩,
   ⟨some 20, none, .call (.func 53) [(.tmp 18), (.tmp 19)]⟩,
   ⟨some 16, none, .mv (.tmp 20)⟩,
   ⟨some 21, none, .ext (.tmp 16) 0⟩,
   ⟨some 22, none, .ext (.tmp 16) 1⟩,
   ⟨some 6, none, .mv (.tmp 21)⟩,
   ⟨some 7, none, .mv (.tmp 22)⟩])
 (.seq (.ops [⟨some 23, none, .mv (.tmp 0)⟩,
   ⟨some 24, none, .call (.func 17) [(.tmp 23)]⟩,
   ⟨some 8, none, .mv (.tmp 24)⟩])
 (.seq (.ops [⟨some 26, none, .mv (.tmp 8)⟩,
   ⟨some 27, none, .mv (.tmp 1)⟩,
   ⟨some 28, none, .call (.func 54) [(.tmp 26), (.tmp 27)]⟩,
   ⟨some 25, none, .mv (.tmp 28)⟩,
   ⟨some 29, none, .ext (.tmp 25) 0⟩,
   ⟨some 30, none, .ext (.tmp 25) 1⟩,
   ⟨some 9, none, .mv (.tmp 29)⟩,
   ⟨some 10, none, .mv (.tmp 30)⟩])
 (.seq (.seq (.ops [⟨some 31, none, .mv (.tmp 9)⟩,
    ⟨some 32, none, .mv (.tmp 6)⟩,
    ⟨some 33, none, .bin .neq 0 (.tmp 31) (.tmp 32)⟩,
    ⟨some 34, none, .mv (.tmp 33)⟩,
    ⟨some 35, some (34, false), .mv (.tmp 10)⟩,
    ⟨some 36, some (34, false), .mv (.tmp 7)⟩,
    ⟨some 37, some (34, false), .bin .neq 0 (.tmp 35) (.tmp 36)⟩,
    ⟨some 38, none, .pick (.tmp 34) (.const (.bool true)) (.tmp 37)⟩])
  (.cond (.tmp 38) (.seq (.ops [⟨some 4, none, .mv (.const (.bool false))⟩])
   .ret)
  .skip))
 (.seq (.seq (.ops [⟨some 39, none, .mv (.tmp 8)⟩,
    ⟨some 40, none, .mv (.tmp 0)⟩,
    ⟨some 41, none, .call (.func 17) [(.tmp 40)]⟩,
    ⟨some 42, none, .call (.func 19) [(.tmp 39), (.tmp 41)]⟩,
    ⟨some 43, none, .not (.tmp 42)⟩])
  (.cond (.tmp 43) (.seq (.ops [⟨some 4, none, .mv (.const (.bool false))⟩])
   .ret)
  .skip))
 (.seq (.ops [⟨some 4, none, .mv (.const (.bool true))⟩])
 .ret))))))))))
theorem C11_ok : Try.f11.body.bind (comp Try.prog) = some C11 := by kernel_rfl
theorem C11_res : compRs Try.prog Try.f11.results.toList = some [.tmp 4] := by kernel_rfl
theorem C11_nm : (Try.f11.name == "runtime.NumGoroutine") = false := by kernel_rfl
theorem C11_fn {a0 a1 : AV} {H : Heap} {Q : AV → Heap → Prop} (h : vc Try.prog C11 (vcEnd [.tmp 4] Q) H [a0, a1, .any, .any, .any, .any, .any, .any, .any, .any, .any, .any, .any, .any, .any, .any, .any, .any, .any, .any, .any, .any, .any, .any, .any, .any, .any, .any, .any, .any, .any, .any, .any, .any, .any, .any, .any, .any, .any, .any, .any, .any, .any, .any]) : Runs Try.prog 11 [a0, a1] H Q :=
  @fn_go Try.prog mixed 11 Try.f11 C11 [.tmp 4] Try.func11 C11_ok C11_res C11_nm 44 Try.ntmps11 [a0, a1] [a0, a1, .any, .any, .any, .any, .any, .any, .any, .any, .any, .any, .any, .any, .any, .any, .any, .any, .any, .any, .any, .any, .any, .any, .any, .any, .any, .any, .any, .any, .any, .any, .any, .any, .any, .any, .any, .any, .any, .any, .any, .any, .any, .any] H Q h 42 (by kernel_rfl) (by kernel_rfl)

/-- spec.AwardFund -/
def C55 : CC :=
 (.seq (.ops [⟨some 4, none, .mv (.const (.slice none 0 0))⟩,
   ⟨some 5, none, .mv (.const (.int .i64 0))⟩])
 (.seq (.ops [⟨some 7, none, .mv (.tmp 0)⟩,
   ⟨some 8, none, .mv (.tmp 1)⟩,
   ⟨some 9, none, .call (.func 115) [(.tmp 7), (.tmp 8)]⟩,
   ⟨some 6, none, .mv (.tmp 9)⟩])
 (.seq (.seq (.ops [⟨some 10, none, .mv (.tmp 6)⟩,
    ⟨some 11, none, .bin .neq 0 (.tmp 10) (.const (.int .i64 0))⟩])
  (.cond (.tmp 11) (.seq (.ops [⟨some 12, none, .mv (.tmp 6)⟩,
     ⟨some 4, none, .mv (.const (.slice none 0 0))⟩,
     ⟨some 5, none, .mv (.tmp 12)⟩])
   .ret)
  .skip))
 (.seq (.ops [⟨some 13, none, .mv (.tmp 0)⟩,
   ⟨some 14, none, .mv (.tmp 1)⟩,
   ⟨some 15, none, .call (.func 116) [(.tmp 13), (.tmp 14)]⟩,
   ⟨some 4, none, .mv (.tmp 15)⟩,
   ⟨some 5, none, .mv (.const (.int .i64 0))⟩])
 .ret))))
theorem C55_ok : Try.f55.body.bind (comp Try.prog) = some C55 := by kernel_rfl
theorem C55_res : compRs Try.prog Try.f55.results.toList = some [.tmp 4, .tmp 5] := by kernel_rfl
theorem C55_nm : (Try.f55.name == "runtime.NumGoroutine") = false := by kernel_rfl
theorem C55_fn {a0 a1 : AV} {H : Heap} {Q : AV → Heap → Prop} (h : vc Try.prog C55 (vcEnd [.tmp 4, .tmp 5] Q) H [a0, a1, .any, .any, .any, .any, .any, .any, .any, .any, .any, .any, .any, .any, .any, .any]) : Runs Try.prog 55 [a0, a1] H Q :=
  @fn_go Try.prog mixed 55 Try.f55 C55 [.tmp 4, .tmp 5] Try.func55 C55_ok C55_res C55_nm 16 Try.ntmps55 [a0, a1] [a0, a1, .any, .any, .any, .any, .any, .any, .any, .any, .any, .any, .any, .any, .any, .any] H Q h 14 (by kernel_rfl) (by kernel_rfl)

/-- impl.AwardFund -/
def C56 : CC :=
 (.seq (.ops [⟨some 4, none, .mv (.const (.slice none 0 0))⟩,
   ⟨some 5, none, .mv (.const (.int .i64 0))⟩])
 (.seq (.seq (.ops [⟨some 7, none, .mv (.tmp 0)⟩,
    ⟨some 8, none, .mv (.tmp 1)⟩,
    ⟨some 9, none, .call (.func 117) [(.tmp 7), (.tmp 8)]⟩,
    ⟨some 6, none, .mv (.tmp 9)⟩])
  (.seq (.ops [⟨some 10, none, .mv (.tmp 6)⟩,
    ⟨some 11, none, .bin .neq 0 (.tmp 10) (.const (.int .i64 0))⟩])
  (.cond (.tmp 11) (.seq (.ops [⟨some 12, none, .mv (.tmp 6)⟩,
     ⟨some 4, none, .mv (.const (.slice none 0 0))⟩,
     ⟨some 5, none, .mv (.tmp 12)⟩])
   .ret)
  .skip)))
 (.seq (.ops [⟨some 13, none, .mv (.tmp 0)⟩,
   ⟨some 14, none, .mv (.tmp 1)⟩,
   ⟨some 15, none, .call (.func 121) [(.tmp 13), (.tmp 14)]⟩,
   ⟨some 4, none, .mv (.tmp 15)⟩,
   ⟨some 5, none, .mv (.const (.int .i64 0))⟩])
 .ret)))
theorem C56_ok : Try.f56.body.bind (comp Try.prog) = some C56 := by kernel_rfl
theorem C56_res : compRs Try.prog Try.f56.results.toList = some [.tmp 4, .tmp 5] := by kernel_rfl
theorem C56_nm : (Try.f56.name == "runtime.NumGoroutine") = false := by kernel_rfl
theorem C56_fn {a0 a1 : AV} {H : Heap} {Q : AV → Heap → Prop} (h : vc Try.prog C56 (vcEnd [.tmp 4, .tmp 5] Q) H [a0, a1, .any, .any, .any, .any, .any, .any, .any, .any, .any, .any, .any, .any, .any, .any]) : Runs Try.prog 56 [a0, a1] H Q :=
  @fn_go Try.prog mixed 56 Try.f56 C56 [.tmp 4, .tmp 5] Try.func56 C56_ok C56_res C56_nm 16 Try.ntmps56 [a0, a1] [a0, a1, .any, .any, .any, .any, .any, .any, .any, .any, .any, .any, .any, .any, .any, .any] H Q h 14 (by kernel_rfl) (by kernel_rfl)

/-- laws.markClaimS -/
def C57 : CC :=
 (.seq (.ops [⟨some 4, none, .mv (.const (.int .i64 0))⟩])
 (.seq (.seq (.ops [⟨some 5, none, .mv (.const (.int .i64 0))⟩])
  (.block 0 (.loop (.seq (.seq (.ops [⟨some 6, none, .mv (.tmp 5)⟩,
       ⟨some 7, none, .mv (.tmp 0)⟩,
       ⟨some 8, none, .len false (.tmp 7)⟩,
       ⟨some 9, none, .bin .lss 0 (.tmp 6) (.tmp 8)⟩])
     (.cond (.tmp 9) .skip
     (.exit 0)))
    (.seq (.block 1 (.seq (.ops [⟨some 12, none, .mv (.tmp 0)⟩,
        ⟨some 13, none, .mv (.tmp 5)⟩,
        ⟨some 14, none, .mv (.tmp 1)⟩,
        ⟨some 15, none, .call (.func 85) [(.tmp 14)]⟩,
        ⟨some 16, none, .ia 5 (.tmp 12) (.tmp 13)⟩,
        ⟨some 17, none, .fa 0 (.tmp 16)⟩,
        ⟨none, none, .store 1 (.tmp 17) (.tmp 15)⟩])
      (.seq (.ops [⟨some 18, none, .mv (.tmp 1)⟩,
        ⟨some 19, none, .bin .add 0 (.tmp 18) (.const (.int .i64 1))⟩,
        ⟨some 1, none, .mv (.tmp 19)⟩])
      (.seq (.ops [⟨some 20, none, .mv (.tmp 0)⟩,
        ⟨some 21, none, .mv (.tmp 5)⟩,
        ⟨some 22, none, .mv (.tmp 1)⟩,
        ⟨some 23, none, .ia 5 (.tmp 20) (.tmp 21)⟩,
        ⟨some 24, none, .fa 1 (.tmp 23)⟩,
        ⟨none, none, .store 1 (.tmp 24) (.tmp 22)⟩])
      (.seq (.ops [⟨some 25, none, .mv (.tmp 1)⟩,
        ⟨some 26, none, .bin .add 0 (.tmp 25) (.const (.int .i64 1))⟩,
        ⟨some 1, none, .mv (.tmp 26)⟩])
      (.seq (.ops [⟨some 27, none, .mv (.tmp 0)⟩,
        ⟨some 28, none, .mv (.tmp 5)⟩,
        ⟨some 29, none, .mv (.tmp 1)⟩,
        ⟨some 30, none, .ia 5 (.tmp 27) (.tmp 28)⟩,
        ⟨some 31, none, .fa 2 (.tmp 30)⟩,
        ⟨none, none, .store 1 (.tmp 31) (.tmp 29)⟩])
      (.seq (.ops [⟨some 32, none, .mv (.tmp 1)⟩,
        ⟨some 33, none, .bin .add 0 (.tmp 32) (.const (.int .i64 1))⟩,
        ⟨some 1, none, .mv (.tmp 33)⟩])
      (.seq (.ops [⟨some 34, none, .mv (.tmp 0)⟩,
        ⟨some 35, none, .mv (.tmp 5)⟩,
        ⟨some 36, none, .mv (.tmp 1)⟩,
        ⟨some 37, none, .ia 5 (.tmp 34) (.tmp 35)⟩,
        ⟨some 38, none, .fa 3 (.tmp 37)⟩,
        ⟨none, none, .store 1 (.tmp 38) (.tmp 36)⟩])
      (.seq (.ops [⟨some 39, none, .mv (.tmp 1)⟩,
        ⟨some 40, none, .bin .add 0 (.tmp 39) (.const (.int .i64 1))⟩,
        ⟨some 1, none, .mv (.tmp 40)⟩])
      (.seq (.ops [⟨some 41, none, .mv (.tmp 0)⟩,
        ⟨some 42, none, .mv (.tmp 5)⟩,
        ⟨some 43, none, .mv (.tmp 1)⟩,
        ⟨some 44, none, .ia 5 (.tmp 41) (.tmp 42)⟩,
        ⟨some 45, none, .fa 4 (.tmp 44)⟩,
        ⟨none, none, .store 1 (.tmp 45) (.tmp 43)⟩])
      (.ops [⟨some 46, none, .mv (.tmp 1)⟩,
       ⟨some 47, none, .bin .add 0 (.tmp 46) (.const (.int .i64 1))⟩,
       ⟨some 1, none, .mv (.tmp 47)⟩])))))))))))
    (.ops [⟨some 10, none, .mv (.tmp 5)⟩,
     ⟨some 11, none, .bin .add 0 (.tmp 10) (.const (.int .i64 1))⟩,
     ⟨some 5, none, .mv (.tmp 11)⟩]))))))
 (.seq (.ops [⟨some 48, none, .mv (.tmp 1)⟩,
   ⟨some 4, none, .mv (.tmp 48)⟩])
 .ret)))
theorem C57_ok : Try.f57.body.bind (comp Try.prog) = some C57 := by kernel_rfl
theorem C57_res : compRs Try.prog Try.f57.results.toList = some [.tmp 4] := by kernel_rfl
theorem C57_nm : (Try.f57.name == "runtime.NumGoroutine") = false := by kernel_rfl
theorem C57_fn {a0 a1 : AV} {H : Heap} {Q : AV → Heap → Prop} (h : vc Try.prog C57 (vcEnd [.tmp 4] Q) H [a0, a1, .any, .any, .any, .any, .any, .any, .any, .any, .any, .any, .any, .any, .any, .any, .any, .any, .any, .any, .any, .any, .any, .any, .any, .any, .any, .any, .any, .any, .any, .any, .any, .any, .any, .any, .any, .any, .any, .any, .any, .any, .any, .any, .any, .any, .any, .any, .any]) : Runs Try.prog 57 [a0, a1] H Q :=
  @fn_go Try.prog mixed 57 Try.f57 C57 [.tmp 4] Try.func57 C57_ok C57_res C57_nm 49 Try.ntmps57 [a0, a1] [a0, a1, .any, .any, .any, .any, .any, .any, .any, .any, .any, .any, .any, .any, .any, .any, .any, .any, .any, .any, .any, .any, .any, .any, .any, .any, .any, .any, .any, .any, .any, .any, .any, .any, .any, .any, .any, .any, .any, .any, .any, .any, .any, .any, .any, .any, .any, .any, .any] H Q h 47 (by kernel_rfl) (by kernel_rfl)

/-- laws.FnExactAwardFund -/
def C12 : CC :=
 (.seq (.ops [⟨some 4, none, .mv (.const (.bool false))⟩])
 (.seq (.ops [⟨some 5, none, .mv (.const (.int .i64 1048576))⟩])
 (.seq (.ops [⟨some 16, none, .mv (.tmp 0)⟩,
   ⟨some 17, none, .mv (.tmp 5)⟩,
   ⟨some 18, none, .call (.func 15) [(.tmp 16), (.tmp 17)]⟩,
   ⟨some 5, none, .mv (.tmp 18)⟩])
 (.seq (.seq (.ops [⟨some 19, none, .mv (.tmp 5)⟩,
    ⟨some 20, none, .bin .lss 0 (.tmp 19) (.const (.int .i64 0))⟩])
  (.cond (.tmp 20) (.seq (.ops [⟨some 4, none, .mv (.const (.bool true))⟩])
   .ret)
  .skip))
 (.seq (.ops [⟨some 22, none, .mv (.tmp 0)⟩,
   ⟨some 23, none, .call (.func 17) [(.tmp 22)]⟩,
   ⟨some 24, none, .mv (.tmp 1)⟩,
   ⟨some 25, none, .call (.func 55) [(.tmp 23), (.tmp 24)]⟩,
   ⟨some 21, none, .mv (.tmp 25)⟩,
   ⟨some 26, none, .ext (.tmp 21) 0⟩,
   ⟨some 27, none, .ext (.tmp 21) 1⟩,
   ⟨some 6, none, .mv (.tmp 26)⟩,
   ⟨some 7, none, .mv (.tmp 27)⟩])
 (.seq (.ops [⟨some 28, none, .mv (.tmp 0)⟩,
   ⟨some 29, none, .call (.func 17) [(.tmp 28)]⟩,
   ⟨some 8, none, .mv (.tmp 29)⟩])
 (.seq (.ops [⟨some 31, none, .mv (.tmp 8)⟩,
   ⟨some 32, none, .mv (.tmp 1)⟩,
   ⟨some 33, none, .call (.func 56) [(.tmp 31), (.tmp 32)]⟩,
   ⟨some 30, none, .mv (.tmp 33)⟩,
   ⟨some 34, none, .ext (.tmp 30) 0⟩,
   ⟨some 35, none, .ext (.tmp 30) 1⟩,
   ⟨some 9, none, .mv (.tmp 34)⟩,
   ⟨some 10, none, .mv (.tmp 35)⟩])
 (.seq (.seq (.ops [⟨some 36, none, .mv (.tmp 9)⟩,
    ⟨some 37, none, .mv (.tmp 6)⟩,
    ⟨some 38, none, .call (.func 24) [(.tmp 36), (.tmp 37)]⟩,
    ⟨some 39, none, .not (.tmp 38)⟩,
    ⟨some 40, none, .mv (.tmp 39)⟩,
    ⟨some 41, some (40, false), .mv (.tmp 10)⟩,
    ⟨some 42, some (40, false), .mv (.tmp 7)⟩,
    ⟨some 43, some (40, false), .bin .neq 0 (.tmp 41) (.tmp 42)⟩,
    ⟨some 44, none, .pick (.tmp 40) (.const (.bool true)) (.tmp 43)⟩])
  (.cond (.tmp 44) (.seq (.ops [⟨some 4, none, .mv (.const (.bool false))⟩])
   .ret)
  .skip))
 (.seq (.seq (.ops [⟨some 45, none, .mv (.tmp 8)⟩,
    ⟨some 46, none, .mv (.tmp 0)⟩,
    ⟨some 47, none, .call (.func 17) [(.tmp 46)]⟩,
    ⟨some 48, none, .call (.func 19) [(.tmp 45), (.tmp 47)]⟩,
    ⟨some 49, none, .not (.tmp 48)⟩])
  (.cond (.tmp 49) (.seq (.ops [⟨some 4, none, .mv (.const (.bool false))⟩])
   .ret)
  .skip))
 (.seq (.ops [⟨some 11, none, .mv (.const (.int .i64 1))⟩])
 (.seq (.ops [⟨some 50, none, .mv (.tmp 8)⟩,
   ⟨some 51, none, .mv (.tmp 11)⟩,
   ⟨some 52, none, .call (.func 57) [(.tmp 50), (.tmp 51)]⟩,
   ⟨some 11, none, .mv (.tmp 52)⟩])
 (.seq (.seq (.ops [⟨some 53, none, .mv (.tmp 11)⟩,
    ⟨some 54, none, .bin .lss 0 (.tmp 53) (.const (.int .i64 0))⟩,
    ⟨some 55, none, .mv (.tmp 54)⟩,
    ⟨some 56, some (55, false), .mv (.tmp 9)⟩,
    ⟨some 57, some (55, false), .mv (.tmp 6)⟩,
    ⟨some 58, some (55, false), .call (.func 24) [(.tmp 56), (.tmp 57)]⟩,
    ⟨some 59, some (55, false), .not (.tmp 58)⟩,
    ⟨some 60, none, .pick (.tmp 55) (.const (.bool true)) (.tmp 59)⟩,
    ⟨some 61, none, .mv (.tmp 60)⟩,
    ⟨some 62, some (61, false), .mv (.tmp 10)⟩,
    ⟨some 63, some (61, false), .mv (.tmp 7)⟩,
    ⟨some 64, some (61, false), .bin .neq 0 (.tmp 62) (.tmp 63)⟩,
    ⟨some 65, none, .pick (.tmp 61) (.const (.bool true)) (.tmp 64)⟩])
  (.cond (.tmp 65) (.seq (.ops [⟨some 4, none, .mv (.const (.bool false))⟩])
   .ret)
  .skip))
 (.seq (.ops [⟨some 12, none, .mv (.const (.int .i64 1))⟩])
 (.seq (.ops [⟨some 66, none, .mv (.tmp 9)⟩,
   ⟨some 67, none, .mv (.tmp 12)⟩,
   ⟨some 68, none, .call (.func 27) [(.tmp 66), (.tmp 67)]⟩,
   ⟨some 12, none, .mv (.tmp 68)⟩])
 (.seq (.ops [⟨some 13, none, .mv (.const (.int .i64 1))⟩])
 (.seq (.ops [⟨some 69, none, .mv (.tmp 9)⟩,
   ⟨some 70, none, .mv (.tmp 13)⟩,
   ⟨some 71, none, .call (.func 28) [(.tmp 69), (.tmp 70)]⟩,
   ⟨some 13, none, .mv (.tmp 71)⟩])
 (.seq (.seq (.ops [⟨some 72, none, .mv (.tmp 13)⟩,
    ⟨some 73, none, .bin .lss 0 (.tmp 72) (.const (.int .i64 0))⟩])
  (.cond (.tmp 73) (.seq (.ops [⟨some 4, none, .mv (.const (.bool false))⟩])
   .ret)
  .skip))
 (.seq (.seq (.ops [⟨some 74, none, .mv (.tmp 13)⟩,
    ⟨some 75, none, .mv (.tmp 12)⟩,
    ⟨some 76, none, .bin .neq 0 (.tmp 74) (.tmp 75)⟩])
  (.cond (.tmp 76) (.seq (.ops [⟨some 4, none, .mv (.const (.bool false))⟩])
   .ret)
  .skip))
 (.seq (.ops [⟨some 78, none, .mv (.tmp 0)⟩,
   ⟨some 79, none, .call (.func 17) [(.tmp 78)]⟩,
   ⟨some 80, none, .mv (.tmp 1)⟩,
   ⟨some 81, none, .call (.func 56) [(.tmp 79), (.tmp 80)]⟩,
   ⟨some 77, none, .mv (.tmp 81)⟩,
   ⟨some 82, none, .ext (.tmp 77) 0⟩,
   ⟨some 83, none, .ext (.tmp 77) 1⟩,
   ⟨some 14, none, .mv (.tmp 82)⟩,
   ⟨some 15, none, .mv (.tmp 83)⟩])
 (.seq (.seq (.ops [⟨some 84, none, .mv (.tmp 14)⟩,
    ⟨some 85, none, .mv (.tmp 6)⟩,
    ⟨some 86, none, .call (.func 24) [(.tmp 84), (.tmp 85)]⟩,
    ⟨some 87, none, .not (.tmp 86)⟩,
    ⟨some 88, none, .mv (.tmp 87)⟩,
    ⟨some 89, some (88, false), .mv (.tmp 15)⟩,
    ⟨some 90, some (88, false), .mv (.tmp 7)⟩,
    ⟨some 91, some (88, false), .bin .neq 0 (.tmp 89) (.tmp 90)⟩,
    ⟨some 92, none, .pick (.tmp 88) (.const (.bool true)) (.tmp 91)⟩])
  (.cond (.tmp 92) (.seq (.ops [⟨some 4, none, .mv (.const (.bool false))⟩])
   .ret)
  .skip))
 (.seq (.ops [⟨some 13, none, .mv (.const (.int .i64 1))⟩])
 (.seq (.ops [⟨some 93, none, .mv (.tmp 9)⟩,
   ⟨some 94, none, .mv (.tmp 13)⟩,
   ⟨some 95, none, .call (.func 28) [(.tmp 93), (.tmp 94)]⟩,
   ⟨some 13, none, .mv (.tmp 95)⟩])
 (.seq (.seq (.ops [⟨some 96, none, .mv (.tmp 13)⟩,
    ⟨some 97, none, .bin .lss 0 (.tmp 96) (.const (.int .i64 0))⟩])
  (.cond (.tmp 97) (.seq (.ops [⟨some 4, none, .mv (.const (.bool false))⟩])
   .ret)
  .skip))
 (.seq (.seq (.ops [⟨some 98, none, .mv (.tmp 13)⟩,
    ⟨some 99, none, .mv (.tmp 12)⟩,
    ⟨some 100, none, .bin .neq 0 (.tmp 98) (.tmp 99)⟩])
  (.cond (.tmp 100) (.seq (.ops [⟨some 4, none, .mv (.const (.bool false))⟩])
   .ret)
  .skip))
 (.seq (.ops [⟨some 4, none, .mv (.const (.bool true))⟩])
 .ret)))))))))))))))))))))))))
theorem C12_ok : Try.f12.body.bind (comp Try.prog) = some C12 := by kernel_rfl
theorem C12_res : compRs Try.prog Try.f12.results.toList = some [.tmp 4] := by kernel_rfl
theorem C12_nm : (Try.f12.name == "runtime.NumGoroutine") = false := by kernel_rfl
theorem C12_fn {a0 a1 : AV} {H : Heap} {Q : AV → Heap → Prop} (h : vc Try.prog C12 (vcEnd [.tmp 4] Q) H [a0, a1, .any, .any, .any, .any, .any, .any, .any, .any, .any, .any, .any, .any, .any, .any, .any, .any, .any, .any, .any, .any, .any, .any, .any, .any, .any, .any, .any, .any, .any, .any, .any, .any, .any, .any, .any, .any, .any, .any, .any, .any, .any, .any, .any, .any, .any, .any, .any, .any, .any, .any, .any, .any, .any, .any, .any, .any, .any, .any, .any, .any, .any, .any, .any, .any, .any, .any, .any, .any, .any, .any, .any, .any, .any, .any, .any, .any, .any, .any, .any, .any, .any, .any, .any, .any, .any, .any, .any, .any, .any, .any, .any, .any, .any, .any, .any, .any, .any, .any, .any]) : Runs Try.prog 12 [a0, a1] H Q :=
  @fn_go Try.prog mixed 12 Try.f12 C12 [.tmp 4] Try.func12 C12_ok C12_res C12_nm 101 Try.ntmps12 [a0, a1] [a0, a1, .any, .any, .any, .any, .any, .any, .any, .any, .any, .any, .any, .any, .any, .any, .any, .any, .any, .any, .any, .any, .any, .any, .any, .any, .any, .any, .any, .any, .any, .any, .any, .any, .any, .any, .any, .any, .any, .any, .any, .any, .any, .any, .any, .any, .any, .any, .any, .any, .any, .any, .any, .any, .any, .any, .any, .any, .any, .any, .any, .any, .any, .any, .any, .any, .any, .any, .any, .any, .any, .any, .any, .any, .any, .any, .any, .any, .any, .any, .any, .any, .any, .any, .any, .any, .any, .any, .any, .any, .any, .any, .any, .any, .any, .any, .any, .any, .any, .any, .any] H Q h 99 (by kernel_rfl) (by kernel_rfl)

/-- laws.big -/
def C44 : CC :=
 (.seq (.ops [⟨some 2, none, .mv (.const (.bool false))⟩])
 (.seq (.ops [⟨some 3, none, .mv (.tmp 0)⟩,
   ⟨some 4, none, .len false (.tmp 3)⟩,
   ⟨some 5, none, .bin .gtr 0 (.tmp 4) (.const (.int .i64 4096))⟩,
   ⟨some 2, none, .mv (.tmp 5)⟩])
 .ret))
theorem C44_ok : Try.f44.body.bind (comp Try.prog) = some C44 := by kernel_rfl
theorem C44_res : compRs Try.prog Try.f44.results.toList = some [.tmp 2] := by kernel_rfl
theorem C44_nm : (Try.f44.name == "runtime.NumGoroutine") = false := by kernel_rfl
theorem C44_fn {a0 : AV} {H : Heap} {Q : AV → Heap → Prop} (h : vc Try.prog C44 (vcEnd [.tmp 2] Q) H [a0, .any, .any, .any, .any, .any]) : Runs Try.prog 44 [a0] H Q :=
  @fn_go Try.prog mixed 44 Try.f44 C44 [.tmp 2] Try.func44 C44_ok C44_res C44_nm 6 Try.ntmps44 [a0] [a0, .any, .any, .any, .any, .any] H Q h 5 (by kernel_rfl) (by kernel_rfl)

/-- spec.l01From -/
def C110 : CC :=
 (.seq (.ops [⟨some 2, none, .mv (.const (.pointer none))⟩])
 (.seq (.ops [⟨some 5, none, .mv (.tmp 0)⟩,
   ⟨some 6, none, .build [.slice none 0 0, .int .i64 0, .int .i64 0] [(0, 1, (.tmp 5)), (2, 1, (.const (.int .i64 41017)))]⟩,
   ⟨some 7, none, .box (.tmp 6)⟩,
   ⟨some 3, none, .mv (.tmp 7)⟩])
 (.seq (.seq (.ops [⟨some 4, none, .mv (.const (.int .i64 0))⟩])
  (.block 0 (.loop (.seq (.seq (.ops [⟨some 8, none, .mv (.tmp 4)⟩,
       ⟨some 9, none, .mv (.tmp 0)⟩,
       ⟨some 10, none, .len false (.tmp 9)⟩,
       ⟨some 11, none, .bin .lss 0 (.tmp 8) (.tmp 10)⟩,
       ⟨some 12, none, .mv (.tmp 11)⟩,
       ⟨some 13, some (12, true), .mv (.tmp 4)⟩,
       ⟨some 14, some (12, true), .bin .lss 0 (.tmp 13) (.const (.int .i64 64))⟩,
       ⟨some 15, none, .pick (.tmp 12) (.tmp 14) (.const (.bool false))⟩])
     (.cond (.tmp 15) .skip
     (.exit 0)))
    (.seq (.block 1 (.loud 16 (.alt (.step ⟨some 22, none, .load false 1 (.tmp 21)⟩ (.alt (.step ⟨some 23, none, .bin .mul 0 (.tmp 22) (.const (.int .i64 67))⟩ (.step ⟨some 26, none, .ia 1 (.tmp 24) (.tmp 25)⟩ (.step ⟨some 27, none, .load false 1 (.tmp 26)⟩ (.step ⟨some 28, none, .conv .i64 (.tmp 27)⟩ (.step ⟨some 29, none, .bin .add 0 (.tmp 23) (.tmp 28)⟩ (.step ⟨some 30, none, .bin .rem 0 (.tmp 29) (.const (.int .i64 2147483647))⟩ (.step ⟨none, none, .store 1 (.tmp 32) (.tmp 30)⟩ .leaf)))))))
       (.step ⟨some 26, none, .ia 1 (.tmp 24) (.tmp 25)⟩ (.alt (.step ⟨some 23, none, .bin .mul 0 (.tmp 22) (.const (.int .i64 67))⟩ (.step ⟨some 27, none, .load false 1 (.tmp 26)⟩ (.step ⟨some 28, none, .conv .i64 (.tmp 27)⟩ (.step ⟨some 29, none, .bin .add 0 (.tmp 23) (.tmp 28)⟩ (.step ⟨some 30, none, .bin .rem 0 (.tmp 29) (.const (.int .i64 2147483647))⟩ (.step ⟨none, none, .store 1 (.tmp 32) (.tmp 30)⟩ .leaf))))))
       (.step ⟨some 27, none, .load false 1 (.tmp 26)⟩ (.alt (.step ⟨some 23, none, .bin .mul 0 (.tmp 22) (.const (.int .i64 67))⟩ (.step ⟨some 28, none, .conv .i64 (.tmp 27)⟩ (.step ⟨some 29, none, .bin .add 0 (.tmp 23) (.tmp 28)⟩ (.step ⟨some 30, none, .bin .rem 0 (.tmp 29) (.const (.int .i64 2147483647))⟩ (.step ⟨none, none, .store 1 (.tmp 32) (.tmp 30)⟩ .leaf)))))
       (.step ⟨some 28, none, .conv .i64 (.tmp 27)⟩ (.step ⟨some 23, none, .bin .mul 0 (.tmp 22) (.const (.int .i64 67))⟩ (.step ⟨some 29, none, .bin .add 0 (.tmp 23) (.tmp 28)⟩ (.step ⟨some 30, none, .bin .rem 0 (.tmp 29) (.const (.int .i64 2147483647))⟩ (.step ⟨none, none, .store 1 (.tmp 32) (.tmp 30)⟩ .leaf)))))))))))
       (.step ⟨some 26, none, .ia 1 (.tmp 24) (.tmp 25)⟩ (.alt (.step ⟨some 22, none, .load false 1 (.tmp 21)⟩ (.alt (.step ⟨some 23, none, .bin .mul 0 (.tmp 22) (.const (.int .i64 67))⟩ (.step ⟨some 27, none, .load false 1 (.tmp 26)⟩ (.step ⟨some 28, none, .conv .i64 (.tmp 27)⟩ (.step ⟨some 29, none, .bin .add 0 (.tmp 23) (.tmp 28)⟩ (.step ⟨some 30, none, .bin .rem 0 (.tmp 29) (.const (.int .i64 2147483647))⟩ (.step ⟨none, none, .store 1 (.tmp 32) (.tmp 30)⟩ .leaf))))))
       (.step ⟨some 27, none, .load false 1 (.tmp 26)⟩ (.alt (.step ⟨some 23, none, .bin .mul 0 (.tmp 22) (.const (.int .i64 67))⟩ (.step ⟨some 28, none, .conv .i64 (.tmp 27)⟩ (.step ⟨some 29, none, .bin .add 0 (.tmp 23) (.tmp 28)⟩ (.step ⟨some 30, none, .bin .rem 0 (.tmp 29) (.const (.int .i64 2147483647))⟩ (.step ⟨none, none, .store 1 (.tmp 32) (.tmp 30)⟩ .leaf)))))
       (.step ⟨some 28, none, .conv .i64 (.tmp 27)⟩ (.step ⟨some 23, none, .bin .mul 0 (.tmp 22) (.const (.int .i64 67))⟩ (.step ⟨some 29, none, .bin .add 0 (.tmp 23) (.tmp 28)⟩ (.step ⟨some 30, none, .bin .rem 0 (.tmp 29) (.const (.int .i64 2147483647))⟩ (.step ⟨none, none, .store 1 (.tmp 32) (.tmp 30)⟩ .leaf)))))))))
       (.step ⟨some 27, none, .load false 1 (.tmp 26)⟩ (.alt (.step ⟨some 22, none, .load false 1 (.tmp 21)⟩ (.alt (.step ⟨some 23, none, .bin .mul 0 (.tmp 22) (.const (.int .i64 67))⟩ (.step ⟨some 28, none, .conv .i64 (.tmp 27)⟩ (.step ⟨some 29, none, .bin .add 0 (.tmp 23) (.tmp 28)⟩ (.step ⟨some 30, none, .bin .rem 0 (.tmp 29) (.const (.int .i64 2147483647))⟩ (.step ⟨none, none, .store 1 (.tmp 32) (.tmp 30)⟩ .leaf)))))
       (.step ⟨some 28, none, .conv .i64 (.tmp 27)⟩ (.step ⟨some 23, none, .bin .mul 0 (.tmp 22) (.const (.int .i64 67))⟩ (.step ⟨some 29, none, .bin .add 0 (.tmp 23) (.tmp 28)⟩ (.step ⟨some 30, none, .bin .rem 0 (.tmp 29) (.const (.int .i64 2147483647))⟩ (.step ⟨none, none, .store 1 (.tmp 32) (.tmp 30)⟩ .leaf)))))))
       (.step ⟨some 28, none, .conv .i64 (.tmp 27)⟩ (.step ⟨some 22, none, .load false 1 (.tmp 21)⟩ (.step ⟨some 23, none, .bin .mul 0 (.tmp 22) (.const (.int .i64 67))⟩ (.step ⟨some 29, none, .bin .add 0 (.tmp 23) (.tmp 28)⟩ (.step ⟨some 30, none, .bin .rem 0 (.tmp 29) (.const (.int .i64 2147483647))⟩ (.step ⟨none, none, .store 1 (.tmp 32) (.tmp 30)⟩ .leaf)))))))))))
       [⟨some 18, none, .mv (.tmp 3)⟩, 
      ⟨some 19, none, .mv (.tmp 3)⟩, 
      ⟨some 20, none, .nilck (.tmp 19)⟩, 
      ⟨some 21, none, .fa 2 (.tmp 20)⟩, 
      ⟨none, none, .mv (.const undef)⟩, 
      ⟨none, none, .mv (.const undef)⟩, 
      ⟨some 24, none, .mv (.tmp 0)⟩, 
      ⟨some 25, none, .mv (.tmp 4)⟩, 
      ⟨none, none, .mv (.const undef)⟩, 
      ⟨none, none, .mv (.const undef)⟩, 
      ⟨none, none, .mv (.const undef)⟩, 
      ⟨none, none, .mv (.const undef)⟩, 
      ⟨none, none, .mv (.const undef)⟩, 
      ⟨some 31, none, .nilck (.tmp 18)⟩, 
      ⟨some 32, none, .fa 2 (.tmp 31)⟩, 
      ⟨none, none, .mv (.const undef)⟩]
       []))
    (.ops [⟨some 16, none, .mv (.tmp 4)⟩,
     ⟨some 17, none, .bin .add 0 (.tmp 16) (.const (.int .i64 1))⟩,
     ⟨some 4, none, .mv (.tmp 17)⟩]))))))
 (.seq (.ops [⟨some 33, none, .mv (.tmp 3)⟩,
   ⟨some 2, none, .mv (.tmp 33)⟩])
 .ret))))
theorem C110_ok : Try.f110.body.bind (comp Try.prog) = some C110 := by kernel_rfl
theorem C110_res : compRs Try.prog Try.f110.results.toList = some [.tmp 2] := by kernel_rfl
theorem C110_nm : (Try.f110.name == "runtime.NumGoroutine") = false := by kernel_rfl
theorem C110_fn {a0 : AV} {H : Heap} {Q : AV → Heap → Prop} (h : vc Try.prog C110 (vcEnd [.tmp 2] Q) H [a0, .any, .any, .any, .any, .any, .any, .any, .any, .any, .any, .any, .any, .any, .any, .any, .any, .any, .any, .any, .any, .any, .any, .any, .any, .any, .any, .any, .any, .any, .any, .any, .any, .any]) : Runs Try.prog 110 [a0] H Q :=
  @fn_go Try.prog mixed 110 Try.f110 C110 [.tmp 2] Try.func110 C110_ok C110_res C110_nm 34 Try.ntmps110 [a0] [a0, .any, .any, .any, .any, .any, .any, .any, .any, .any, .any, .any, .any, .any, .any, .any, .any, .any, .any, .any, .any, .any, .any, .any, .any, .any, .any, .any, .any, .any, .any, .any, .any, .any] H Q h 33 (by kernel_rfl) (by kernel_rfl)

/-- spec.l01Next -/
def C112 : CC :=
 (.seq (.ops [⟨some 4, none, .mv (.const (.int .i64 0))⟩])
 (.seq (.seq (.ops [⟨some 6, none, .mv (.tmp 1)⟩,
    ⟨some 7, none, .bin .leq 0 (.tmp 6) (.const (.int .i64 1))⟩])
  (.cond (.tmp 7) (.seq (.ops [⟨some 4, none, .mv (.const (.int .i64 0))⟩])
   .ret)
  .skip))
 (.seq (.ops [⟨some 8, none, .mv (.tmp 0)⟩,
   ⟨some 9, none, .mv (.tmp 0)⟩,
   ⟨some 10, none, .nilck (.tmp 9)⟩,
   ⟨some 11, none, .fa 2 (.tmp 10)⟩,
   ⟨some 12, none, .load false 1 (.tmp 11)⟩,
   ⟨some 13, none, .bin .mul 0 (.tmp 12) (.const (.int .i64 48271))⟩,
   ⟨some 14, none, .bin .add 0 (.tmp 13) (.const (.int .i64 29))⟩,
   ⟨some 15, none, .bin .rem 0 (.tmp 14) (.const (.int .i64 2147483647))⟩,
   ⟨some 16, none, .nilck (.tmp 8)⟩,
   ⟨some 17, none, .fa 2 (.tmp 16)⟩,
   ⟨none, none, .store 1 (.tmp 17) (.tmp 15)⟩])
 (.seq (.ops [⟨some 18, none, .mv (.tmp 0)⟩,
   ⟨some 19, none, .nilck (.tmp 18)⟩,
   ⟨some 20, none, .fa 2 (.tmp 19)⟩,
   ⟨some 21, none, .load false 1 (.tmp 20)⟩,
   ⟨some 22, none, .bin .quo 0 (.tmp 21) (.const (.int .i64 31))⟩,
   ⟨some 5, none, .mv (.tmp 22)⟩])
 (.seq (.seq (.draw 10 [⟨some 23, none, .mv (.tmp 0)⟩,
    ⟨some 24, none, .nilck (.tmp 23)⟩,
    ⟨some 25, none, .fa 1 (.tmp 24)⟩,
    ⟨some 26, none, .load false 1 (.tmp 25)⟩,
    ⟨some 27, none, .mv (.tmp 0)⟩,
    ⟨some 28, none, .nilck (.tmp 27)⟩,
    ⟨some 29, none, .fa 0 (.tmp 28)⟩,
    ⟨some 30, none, .load false 1 (.tmp 29)⟩,
    ⟨some 31, none, .len false (.tmp 30)⟩,
    ⟨some 32, none, .bin .lss 0 (.tmp 26) (.tmp 31)⟩])
  (.cond (.tmp 32) (.seq (.draw 13 [⟨some 33, none, .mv (.tmp 5)⟩,
     ⟨some 34, none, .mv (.tmp 0)⟩,
     ⟨some 35, none, .nilck (.tmp 34)⟩,
     ⟨some 36, none, .fa 0 (.tmp 35)⟩,
     ⟨some 37, none, .load false 1 (.tmp 36)⟩,
     ⟨some 38, none, .mv (.tmp 0)⟩,
     ⟨some 39, none, .nilck (.tmp 38)⟩,
     ⟨some 40, none, .fa 1 (.tmp 39)⟩,
     ⟨some 41, none, .load false 1 (.tmp 40)⟩,
     ⟨some 42, none, .ia 1 (.tmp 37) (.tmp 41)⟩,
     ⟨some 43, none, .load false 1 (.tmp 42)⟩,
     ⟨some 44, none, .conv .i64 (.tmp 43)⟩,
     ⟨some 45, none, .bin .add 0 (.tmp 33) (.tmp 44)⟩,
     ⟨some 5, none, .mv (.tmp 45)⟩])
   (.seq (.ops [⟨some 46, none, .mv (.tmp 0)⟩,
     ⟨some 47, none, .nilck (.tmp 46)⟩,
     ⟨some 48, none, .fa 1 (.tmp 47)⟩,
     ⟨some 49, none, .load false 1 (.tmp 48)⟩,
     ⟨some 50, none, .bin .add 0 (.tmp 49) (.const (.int .i64 1))⟩,
     ⟨some 51, none, .nilck (.tmp 46)⟩,
     ⟨some 52, none, .fa 1 (.tmp 51)⟩,
     ⟨none, none, .store 1 (.tmp 52) (.tmp 50)⟩])
   (.seq (.ops [⟨some 53, none, .mv (.tmp 1)⟩,
     ⟨some 54, none, .bin .leq 0 (.tmp 53) (.const (.int .i64 256))⟩,
     ⟨some 55, none, .mv (.tmp 54)⟩,
     ⟨some 56, some (55, true), .mv (.tmp 0)⟩,
     ⟨some 57, some (55, true), .nilck (.tmp 56)⟩,
     ⟨some 58, some (55, true), .fa 1 (.tmp 57)⟩,
     ⟨some 59, some (55, true), .load false 1 (.tmp 58)⟩,
     ⟨some 60, some (55, true), .bin .rem 0 (.tmp 59) (.const (.int .i64 2))⟩,
     ⟨some 61, some (55, true), .bin .eql 0 (.tmp 60) (.const (.int .i64 0))⟩,
     ⟨some 62, none, .pick (.tmp 55) (.tmp 61) (.const (.bool false))⟩])
   (.cond (.tmp 62) (.draw 12 [⟨some 63, none, .mv (.tmp 0)⟩,
     ⟨some 64, none, .nilck (.tmp 63)⟩,
     ⟨some 65, none, .fa 0 (.tmp 64)⟩,
     ⟨some 66, none, .load false 1 (.tmp 65)⟩,
     ⟨some 67, none, .mv (.tmp 0)⟩,
     ⟨some 68, none, .nilck (.tmp 67)⟩,
     ⟨some 69, none, .fa 1 (.tmp 68)⟩,
     ⟨some 70, none, .load false 1 (.tmp 69)⟩,
     ⟨some 71, none, .bin .sub 0 (.tmp 70) (.const (.int .i64 1))⟩,
     ⟨some 72, none, .ia 1 (.tmp 66) (.tmp 71)⟩,
     ⟨some 73, none, .load false 1 (.tmp 72)⟩,
     ⟨some 74, none, .conv .i64 (.tmp 73)⟩,
     ⟨some 5, none, .mv (.tmp 74)⟩])
   .skip))))
  .skip))
 (.seq (.ops [⟨some 75, none, .mv (.tmp 5)⟩,
   ⟨some 76, none, .mv (.tmp 1)⟩,
   ⟨some 77, none, .bin .rem 0 (.tmp 75) (.tmp 76)⟩,
   ⟨some 4, none, .mv (.tmp 77)⟩])
 .ret))))))
theorem C112_ok : Try.f112.body.bind (comp Try.prog) = some C112 := by kernel_rfl
theorem C112_res : compRs Try.prog Try.f112.results.toList = some [.tmp 4] := by kernel_rfl
theorem C112_nm : (Try.f112.name == "runtime.NumGoroutine") = false := by kernel_rfl
theorem C112_fn {a0 a1 : AV} {H : Heap} {Q : AV → Heap → Prop} (h : vc Try.prog C112 (vcEnd [.tmp 4] Q) H [a0, a1, .any, .any, .any, .any, .any, .any, .any, .any, .any, .any, .any, .any, .any, .any, .any, .any, .any, .any, .any, .any, .any, .any, .any, .any, .any, .any, .any, .any, .any, .any, .any, .any, .any, .any, .any, .any, .any, .any, .any, .any, .any, .any, .any, .any, .any, .any, .any, .any, .any, .any, .any, .any, .any, .any, .any, .any, .any, .any, .any, .any, .any, .any, .any, .any, .any, .any, .any, .any, .any, .any, .any, .any, .any, .any, .any, .any]) : Runs Try.prog 112 [a0, a1] H Q :=
  @fn_go Try.prog mixed 112 Try.f112 C112 [.tmp 4] Try.func112 C112_ok C112_res C112_nm 78 Try.ntmps112 [a0, a1] [a0, a1, .any, .any, .any, .any, .any, .any, .any, .any, .any, .any, .any, .any, .any, .any, .any, .any, .any, .any, .any, .any, .any, .any, .any, .any, .any, .any, .any, .any, .any, .any, .any, .any, .any, .any, .any, .any, .any, .any, .any, .any, .any, .any, .any, .any, .any, .any, .any, .any, .any, .any, .any, .any, .any, .any, .any, .any, .any, .any, .any, .any, .any, .any, .any, .any, .any, .any, .any, .any, .any, .any, .any, .any, .any, .any, .any, .any] H Q h 76 (by kernel_rfl) (by kernel_rfl)

/-- spec.l01Pick -/
def C114 : CC :=
 (.seq (.ops [⟨some 4, none, .mv (.const (.int .i64 0))⟩])
 (.seq (.ops [⟨some 5, none, .mv (.tmp 1)⟩,
   ⟨some 6, none, .mv (.tmp 0)⟩,
   ⟨some 7, none, .mv (.tmp 1)⟩,
   ⟨some 8, none, .len false (.tmp 7)⟩,
   ⟨some 9, none, .call (.func 112) [(.tmp 6), (.tmp 8)]⟩,
   ⟨some 10, none, .ia 1 (.tmp 5) (.tmp 9)⟩,
   ⟨some 11, none, .load false 1 (.tmp 10)⟩,
   ⟨some 4, none, .mv (.tmp 11)⟩])
 .ret))
theorem C114_ok : Try.f114.body.bind (comp Try.prog) = some C114 := by kernel_rfl
theorem C114_res : compRs Try.prog Try.f114.results.toList = some [.tmp 4] := by kernel_rfl
theorem C114_nm : (Try.f114.name == "runtime.NumGoroutine") = false := by kernel_rfl
theorem C114_fn {a0 a1 : AV} {H : Heap} {Q : AV → Heap → Prop} (h : vc Try.prog C114 (vcEnd [.tmp 4] Q) H [a0, a1, .any, .any, .any, .any, .any, .any, .any, .any, .any, .any]) : Runs Try.prog 114 [a0, a1] H Q :=
  @fn_go Try.prog mixed 114 Try.f114 C114 [.tmp 4] Try.func114 C114_ok C114_res C114_nm 12 Try.ntmps114 [a0, a1] [a0, a1, .any, .any, .any, .any, .any, .any, .any, .any, .any, .any] H Q h 10 (by kernel_rfl) (by kernel_rfl)

/-- spec.l01DrawAmount -/
def C113 : CC :=
 (.seq (.ops [⟨some 2, none, .mv (.const (.int .i64 0))⟩])
 (.seq (.ops [⟨some 3, none, .mv (.tmp 0)⟩,
   ⟨some 4, none, .mv (.tmp 0)⟩,
   ⟨some 5, none, .call (.func 112) [(.tmp 4), (.const (.int .i64 1000))]⟩,
   ⟨some 6, none, .mv (.tmp 0)⟩,
   ⟨some 7, none, .call (.func 112) [(.tmp 6), (.const (.int .i64 100000))]⟩,
   ⟨some 8, none, .mv (.tmp 0)⟩,
   ⟨some 9, none, .call (.func 112) [(.tmp 8), (.const (.int .i64 10000000))]⟩,
   ⟨some 10, none, .mv (.tmp 0)⟩,
   ⟨some 11, none, .call (.func 112) [(.tmp 10), (.const (.int .i64 10000))]⟩,
   ⟨some 12, none, .bin .mul 0 (.const (.int .i64 100)) (.tmp 11)⟩,
   ⟨some 13, none, .mv (.tmp 0)⟩,
   ⟨some 14, none, .call (.func 112) [(.tmp 13), (.const (.int .i64 100000))]⟩,
   ⟨some 15, none, .mv (.tmp 0)⟩,
   ⟨some 16, none, .call (.func 112) [(.tmp 15), (.const (.int .i64 2000000))]⟩,
   ⟨some 17, none, .bin .sub 0 (.tmp 16) (.const (.int .i64 1))⟩,
   ⟨some 18, none, .lit 1 [(.tmp 5), (.tmp 7), (.tmp 9), (.tmp 12), (.const (.int .i64 0)), (.const (.int .i64 1)), (.tmp 14), (.const (.int .i64 1000000000)), (.tmp 17), (.const (.int .i64 1000000001))]⟩,
   ⟨some 19, none, .call (.func 114) [(.tmp 3), (.tmp 18)]⟩,
   ⟨some 2, none, .mv (.tmp 19)⟩])
 .ret))
theorem C113_ok : Try.f113.body.bind (comp Try.prog) = some C113 := by kernel_rfl
theorem C113_res : compRs Try.prog Try.f113.results.toList = some [.tmp 2] := by kernel_rfl
theorem C113_nm : (Try.f113.name == "runtime.NumGoroutine") = false := by kernel_rfl
theorem C113_fn {a0 : AV} {H : Heap} {Q : AV → Heap → Prop} (h : vc Try.prog C113 (vcEnd [.tmp 2] Q) H [a0, .any, .any, .any, .any, .any, .any, .any, .any, .any, .any, .any, .any, .any, .any, .any, .any, .any, .any, .any]) : Runs Try.prog 113 [a0] H Q :=
  @fn_go Try.prog mixed 113 Try.f113 C113 [.tmp 2] Try.func113 C113_ok C113_res C113_nm 20 Try.ntmps113 [a0] [a0, .any, .any, .any, .any, .any, .any, .any, .any, .any, .any, .any, .any, .any, .any, .any, .any, .any, .any, .any] H Q h 19 (by kernel_rfl) (by kernel_rfl)

/-- spec.l01DrawGood -/
def C136 : CC :=
 (.seq (.ops [⟨some 2, none, .mv (.const (.int .i64 0))⟩])
 (.seq (.ops [⟨some 3, none, .mv (.tmp 0)⟩,
   ⟨some 4, none, .mv (.tmp 0)⟩,
   ⟨some 5, none, .call (.func 112) [(.tmp 4), (.const (.int .i64 1000))]⟩,
   ⟨some 6, none, .mv (.tmp 0)⟩,
   ⟨some 7, none, .call (.func 112) [(.tmp 6), (.const (.int .i64 100000))]⟩,
   ⟨some 8, none, .mv (.tmp 0)⟩,
   ⟨some 9, none, .call (.func 112) [(.tmp 8), (.const (.int .i64 1000000))]⟩,
   ⟨some 10, none, .mv (.tmp 0)⟩,
   ⟨some 11, none, .call (.func 112) [(.tmp 10), (.const (.int .i64 10000))]⟩,
   ⟨some 12, none, .bin .mul 0 (.const (.int .i64 100)) (.tmp 11)⟩,
   ⟨some 13, none, .lit 1 [(.tmp 5), (.tmp 7), (.tmp 9), (.tmp 12), (.const (.int .i64 0))]⟩,
   ⟨some 14, none, .call (.func 114) [(.tmp 3), (.tmp 13)]⟩,
   ⟨some 2, none, .mv (.tmp 14)⟩])
 .ret))
theorem C136_ok : Try.f136.body.bind (comp Try.prog) = some C136 := by kernel_rfl
theorem C136_res : compRs Try.prog Try.f136.results.toList = some [.tmp 2] := by kernel_rfl
theorem C136_nm : (Try.f136.name == "runtime.NumGoroutine") = false := by kernel_rfl
theorem C136_fn {a0 : AV} {H : Heap} {Q : AV → Heap → Prop} (h : vc Try.prog C136 (vcEnd [.tmp 2] Q) H [a0, .any, .any, .any, .any, .any, .any, .any, .any, .any, .any, .any, .any, .any, .any]) : Runs Try.prog 136 [a0] H Q :=
  @fn_go Try.prog mixed 136 Try.f136 C136 [.tmp 2] Try.func136 C136_ok C136_res C136_nm 15 Try.ntmps136 [a0] [a0, .any, .any, .any, .any, .any, .any, .any, .any, .any, .any, .any, .any, .any, .any] H Q h 14 (by kernel_rfl) (by kernel_rfl)

/-- spec.l05DrawCode -/
def C148 : CC :=
 (.seq (.ops [⟨some 2, none, .mv (.const (.string ⟨#[]⟩))⟩])
 (.seq (.ops [⟨some 3, none, .lit 1 [(.const (.string ⟨#[97, 108, 98, 97]⟩)), (.const (.string ⟨#[98, 111, 114, 111]⟩)), (.const (.string ⟨#[99, 97, 112, 101]⟩)), (.const (.string ⟨#[100, 111, 114, 97]⟩)), (.const (.string ⟨#[101, 108, 105, 110]⟩)), (.const (.string ⟨#[97, 108, 98, 97]⟩)), (.const (.string ⟨#[98, 111, 114, 111]⟩)), (.const (.string ⟨#[99, 97, 112, 101]⟩)), (.const (.string ⟨#[100, 111, 114, 97]⟩)), (.const (.string ⟨#[]⟩)), (.const (.string ⟨#[65, 108, 98, 97]⟩)), (.const (.string ⟨#[116, 111, 111, 108, 111, 110, 103]⟩))]⟩,
   ⟨some 4, none, .mv (.tmp 0)⟩,
   ⟨some 5, none, .call (.func 112) [(.tmp 4), (.const (.int .i64 12))]⟩,
   ⟨some 6, none, .ia 1 (.tmp 3) (.tmp 5)⟩,
   ⟨some 7, none, .load false 1 (.tmp 6)⟩,
   ⟨some 2, none, .mv (.tmp 7)⟩])
 .ret))
theorem C148_ok : Try.f148.body.bind (comp Try.prog) = some C148 := by kernel_rfl
theorem C148_res : compRs Try.prog Try.f148.results.toList = some [.tmp 2] := by kernel_rfl
theorem C148_nm : (Try.f148.name == "runtime.NumGoroutine") = false := by kernel_rfl
theorem C148_fn {a0 : AV} {H : Heap} {Q : AV → Heap → Prop} (h : vc Try.prog C148 (vcEnd [.tmp 2] Q) H [a0, .any, .any, .any, .any, .any, .any, .any]) : Runs Try.prog 148 [a0] H Q :=
  @fn_go Try.prog mixed 148 Try.f148 C148 [.tmp 2] Try.func148 C148_ok C148_res C148_nm 8 Try.ntmps148 [a0] [a0, .any, .any, .any, .any, .any, .any, .any] H Q h 7 (by kernel_rfl) (by kernel_rfl)

/-- spec.l20Draw -/
def C111 : CC :=
 (.seq (.ops [⟨some 2, none, .mv (.const (.slice none 0 0))⟩])
 (.seq (.ops [⟨some 5, none, .lit 3 []⟩,
   ⟨some 3, none, .mv (.tmp 5)⟩])
 (.seq (.seq (.ops [⟨some 6, none, .mv (.tmp 0)⟩,
    ⟨some 7, none, .call (.func 112) [(.tmp 6), (.const (.int .i64 7))]⟩,
    ⟨some 4, none, .mv (.tmp 7)⟩])
  (.block 0 (.loop (.seq (.seq (.ops [⟨some 8, none, .mv (.tmp 4)⟩,
       ⟨some 9, none, .bin .gtr 0 (.tmp 8) (.const (.int .i64 0))⟩])
     (.cond (.tmp 9) .skip
     (.exit 0)))
    (.seq (.block 1 (.loud 13 (.alt (.step ⟨some 13, none, .lit 1 [(.const (.string ⟨#[97, 108, 98, 97]⟩)), (.const (.string ⟨#[98, 111, 114, 111]⟩)), (.const (.string ⟨#[99, 97, 112, 101]⟩)), (.const (.string ⟨#[100, 111, 114, 97]⟩))]⟩ (.alt (.step ⟨some 16, none, .ia 1 (.tmp 13) (.tmp 15)⟩ (.alt (.step ⟨some 17, none, .load false 1 (.tmp 16)⟩ (.step ⟨some 21, none, .call (.func 136) [(.tmp 20)]⟩ (.step ⟨some 22, none, .build [.string ⟨#[]⟩, .int .i64 0, .int .i64 0] [(0, 1, (.tmp 17)), (1, 1, (.tmp 19)), (2, 1, (.tmp 21))]⟩ (.step ⟨some 23, none, .lit 3 [(.tmp 22)]⟩ (.step ⟨some 24, none, .app 3 32 (.tmp 12) (.tmp 23)⟩ .leaf)))))
       (.step ⟨some 21, none, .call (.func 136) [(.tmp 20)]⟩ (.step ⟨some 17, none, .load false 1 (.tmp 16)⟩ (.step ⟨some 22, none, .build [.string ⟨#[]⟩, .int .i64 0, .int .i64 0] [(0, 1, (.tmp 17)), (1, 1, (.tmp 19)), (2, 1, (.tmp 21))]⟩ (.step ⟨some 23, none, .lit 3 [(.tmp 22)]⟩ (.step ⟨some 24, none, .app 3 32 (.tmp 12) (.tmp 23)⟩ .leaf)))))))
       (.step ⟨some 21, none, .call (.func 136) [(.tmp 20)]⟩ (.step ⟨some 16, none, .ia 1 (.tmp 13) (.tmp 15)⟩ (.step ⟨some 17, none, .load false 1 (.tmp 16)⟩ (.step ⟨some 22, none, .build [.string ⟨#[]⟩, .int .i64 0, .int .i64 0] [(0, 1, (.tmp 17)), (1, 1, (.tmp 19)), (2, 1, (.tmp 21))]⟩ (.step ⟨some 23, none, .lit 3 [(.tmp 22)]⟩ (.step ⟨some 24, none, .app 3 32 (.tmp 12) (.tmp 23)⟩ .leaf))))))))
       (.step ⟨some 21, none, .call (.func 136) [(.tmp 20)]⟩ (.step ⟨some 13, none, .lit 1 [(.const (.string ⟨#[97, 108, 98, 97]⟩)), (.const (.string ⟨#[98, 111, 114, 111]⟩)), (.const (.string ⟨#[99, 97, 112, 101]⟩)), (.const (.string ⟨#[100, 111, 114, 97]⟩))]⟩ (.step ⟨some 16, none, .ia 1 (.tmp 13) (.tmp 15)⟩ (.step ⟨some 17, none, .load false 1 (.tmp 16)⟩ (.step ⟨some 22, none, .build [.string ⟨#[]⟩, .int .i64 0, .int .i64 0] [(0, 1, (.tmp 17)), (1, 1, (.tmp 19)), (2, 1, (.tmp 21))]⟩ (.step ⟨some 23, none, .lit 3 [(.tmp 22)]⟩ (.step ⟨some 24, none, .app 3 32 (.tmp 12) (.tmp 23)⟩ .leaf))))))))
       [⟨some 12, none, .mv (.tmp 3)⟩, 
      ⟨none, none, .mv (.const undef)⟩, 
      ⟨some 14, none, .mv (.tmp 0)⟩, 
      ⟨some 15, none, .call (.func 112) [(.tmp 14), (.const (.int .i64 4))]⟩, 
      ⟨none, none, .mv (.const undef)⟩, 
      ⟨none, none, .mv (.const undef)⟩, 
      ⟨some 18, none, .mv (.tmp 0)⟩, 
      ⟨some 19, none, .call (.func 112) [(.tmp 18), (.const (.int .i64 3))]⟩, 
      ⟨some 20, none, .mv (.tmp 0)⟩, 
      ⟨none, none, .mv (.const undef)⟩, 
      ⟨none, none, .mv (.const undef)⟩, 
      ⟨none, none, .mv (.const undef)⟩, 
      ⟨none, none, .mv (.const undef)⟩]
       [⟨some 3, none, .mv (.tmp 24)⟩]))
    (.ops [⟨some 10, none, .mv (.tmp 4)⟩,
     ⟨some 11, none, .bin .sub 0 (.tmp 10) (.const (.int .i64 1))⟩,
     ⟨some 4, none, .mv (.tmp 11)⟩]))))))
 (.seq (.seq (.ops [⟨some 25, none, .mv (.tmp 0)⟩,
    ⟨some 26, none, .call (.func 112) [(.tmp 25), (.const (.int .i64 24))]⟩])
  (.block 2 (.seq (.ops [⟨some 28, none, .bin .eql 0 (.tmp 26) (.const (.int .i64 0))⟩,
     ⟨some 27, none, .mv (.tmp 28)⟩])
   (.cond (.tmp 27) (.ops [⟨some 29, none, .mv (.tmp 3)⟩,
     ⟨some 30, none, .mv (.tmp 0)⟩,
     ⟨some 31, none, .call (.func 148) [(.tmp 30)]⟩,
     ⟨some 32, none, .mv (.tmp 0)⟩,
     ⟨some 33, none, .call (.func 112) [(.tmp 32), (.const (.int .i64 5))]⟩,
     ⟨some 34, none, .bin .sub 0 (.tmp 33) (.const (.int .i64 1))⟩,
     ⟨some 35, none, .mv (.tmp 0)⟩,
     ⟨some 36, none, .call (.func 113) [(.tmp 35)]⟩,
     ⟨some 37, none, .build [.string ⟨#[]⟩, .int .i64 0, .int .i64 0] [(0, 1, (.tmp 31)), (1, 1, (.tmp 34)), (2, 1, (.tmp 36))]⟩,
     ⟨some 38, none, .lit 3 [(.tmp 37)]⟩,
     ⟨some 39, none, .app 3 32 (.tmp 29) (.tmp 38)⟩,
     ⟨some 3, none, .mv (.tmp 39)⟩])
   (.seq (.ops [⟨some 41, none, .bin .eql 0 (.tmp 26) (.const (.int .i64 1))⟩,
      ⟨some 40, none, .mv (.tmp 41)⟩])
    (.cond (.tmp 40) (.block 3 (.loop (.seq (.seq (.ops [⟨some 42, none, .mv (.tmp 3)⟩,
          ⟨some 43, none, .len false (.tmp 42)⟩,
          ⟨some 44, none, .mv (.tmp 0)⟩,
          ⟨some 45, none, .call (.func 112) [(.tmp 44), (.const (.int .i64 2))]⟩,
          ⟨some 46, none, .bin .add 0 (.const (.int .i64 15)) (.tmp 45)⟩,
          ⟨some 47, none, .bin .lss 0 (.tmp 43) (.tmp 46)⟩])
        (.cond (.tmp 47) .skip
        (.exit 3)))
       (.block 4 (.ops [⟨some 48, none, .mv (.tmp 3)⟩,
         ⟨some 49, none, .build [.string ⟨#[]⟩, .int .i64 0, .int .i64 0] [(0, 1, (.const (.string ⟨#[97, 108, 98, 97]⟩))), (2, 1, (.const (.int .i64 100)))]⟩,
         ⟨some 50, none, .lit 3 [(.tmp 49)]⟩,
         ⟨some 51, none, .app 3 32 (.tmp 48) (.tmp 50)⟩,
         ⟨some 3, none, .mv (.tmp 51)⟩])))))
    .skip))))))
 (.seq (.ops [⟨some 52, none, .mv (.tmp 3)⟩,
   ⟨some 2, none, .mv (.tmp 52)⟩])
 .ret)))))
theorem C111_ok : Try.f111.body.bind (comp Try.prog) = some C111 := by kernel_rfl
theorem C111_res : compRs Try.prog Try.f111.results.toList = some [.tmp 2] := by kernel_rfl
theorem C111_nm : (Try.f111.name == "runtime.NumGoroutine") = false := by kernel_rfl
theorem C111_fn {a0 : AV} {H : Heap} {Q : AV → Heap → Prop} (h : vc Try.prog C111 (vcEnd [.tmp 2] Q) H [a0, .any, .any, .any, .any, .any, .any, .any, .any, .any, .any, .any, .any, .any, .any, .any, .any, .any, .any, .any, .any, .any, .any, .any, .any, .any, .any, .any, .any, .any, .any, .any, .any, .any, .any, .any, .any, .any, .any, .any, .any, .any, .any, .any, .any, .any, .any, .any, .any, .any, .any, .any, .any]) : Runs Try.prog 111 [a0] H Q :=
  @fn_go Try.prog mixed 111 Try.f111 C111 [.tmp 2] Try.func111 C111_ok C111_res C111_nm 53 Try.ntmps111 [a0] [a0, .any, .any, .any, .any, .any, .any, .any, .any, .any, .any, .any, .any, .any, .any, .any, .any, .any, .any, .any, .any, .any, .any, .any, .any, .any, .any, .any, .any, .any, .any, .any, .any, .any, .any, .any, .any, .any, .any, .any, .any, .any, .any, .any, .any, .any, .any, .any, .any, .any, .any, .any, .any] H Q h 52 (by kernel_rfl) (by kernel_rfl)

/-- spec.DrawPayFromSecurities -/
def C45 : CC :=
 (.seq (.ops [⟨some 2, none, .mv (.const (.slice none 0 0))⟩,
   ⟨some 3, none, .mv (.const (.string ⟨#[]⟩))⟩,
   ⟨some 4, none, .mv (.const (.int .i64 0))⟩])
 (.seq (.ops [⟨some 9, none, .mv (.tmp 0)⟩,
   ⟨some 10, none, .call (.func 110) [(.tmp 9)]⟩,
   ⟨some 5, none, .mv (.tmp 10)⟩])
 (.seq (.ops [⟨some 11, none, .mv (.tmp 5)⟩,
   ⟨some 12, none, .call (.func 111) [(.tmp 11)]⟩,
   ⟨some 6, none, .mv (.tmp 12)⟩])
 (.seq (.ops [⟨some 13, none, .lit 1 [(.const (.string ⟨#[97, 108, 98, 97]⟩)), (.const (.string ⟨#[98, 111, 114, 111]⟩)), (.const (.string ⟨#[99, 97, 112, 101]⟩)), (.const (.string ⟨#[122, 101, 116, 97]⟩))]⟩,
   ⟨some 14, none, .mv (.tmp 5)⟩,
   ⟨some 15, none, .call (.func 112) [(.tmp 14), (.const (.int .i64 4))]⟩,
   ⟨some 16, none, .ia 1 (.tmp 13) (.tmp 15)⟩,
   ⟨some 17, none, .load false 1 (.tmp 16)⟩,
   ⟨some 7, none, .mv (.tmp 17)⟩])
 (.seq (.ops [⟨some 18, none, .mv (.tmp 6)⟩,
   ⟨some 19, none, .mv (.tmp 7)⟩,
   ⟨some 20, none, .call (.func 99) [(.tmp 18), (.tmp 19)]⟩,
   ⟨some 8, none, .mv (.tmp 20)⟩])
 (.seq (.seq (.ops [⟨some 21, none, .mv (.tmp 8)⟩,
    ⟨some 22, none, .bin .gtr 0 (.tmp 21) (.const (.int .i64 0))⟩,
    ⟨some 23, none, .mv (.tmp 22)⟩,
    ⟨some 24, some (23, true), .mv (.tmp 8)⟩,
    ⟨some 25, some (23, true), .bin .lss 0 (.tmp 24) (.const (.int .i64 1000000000))⟩,
    ⟨some 26, none, .pick (.tmp 23) (.tmp 25) (.const (.bool false))⟩,
    ⟨some 27, none, .mv (.tmp 26)⟩,
    ⟨some 28, some (27, true), .mv (.tmp 5)⟩,
    ⟨some 29, some (27, true), .call (.func 112) [(.tmp 28), (.const (.int .i64 4))]⟩,
    ⟨some 30, some (27, true), .bin .gtr 0 (.tmp 29) (.const (.int .i64 0))⟩,
    ⟨some 31, none, .pick (.tmp 27) (.tmp 30) (.const (.bool false))⟩])
  (.cond (.tmp 31) (.seq (.ops [⟨some 32, none, .mv (.tmp 6)⟩,
     ⟨some 33, none, .mv (.tmp 7)⟩,
     ⟨some 34, none, .mv (.tmp 5)⟩,
     ⟨some 35, none, .mv (.tmp 8)⟩,
     ⟨some 36, none, .bin .add 0 (.tmp 35) (.const (.int .i64 1))⟩,
     ⟨some 37, none, .call (.func 112) [(.tmp 34), (.tmp 36)]⟩,
     ⟨some 2, none, .mv (.tmp 32)⟩,
     ⟨some 3, none, .mv (.tmp 33)⟩,
     ⟨some 4, none, .mv (.tmp 37)⟩])
   .ret)
  .skip))
 (.seq (.ops [⟨some 38, none, .mv (.tmp 6)⟩,
   ⟨some 39, none, .mv (.tmp 7)⟩,
   ⟨some 40, none, .mv (.tmp 5)⟩,
   ⟨some 41, none, .call (.func 113) [(.tmp 40)]⟩,
   ⟨some 2, none, .mv (.tmp 38)⟩,
   ⟨some 3, none, .mv (.tmp 39)⟩,
   ⟨some 4, none, .mv (.tmp 41)⟩])
 .ret)))))))
theorem C45_ok : Try.f45.body.bind (comp Try.prog) = some C45 := by kernel_rfl
theorem C45_res : compRs Try.prog Try.f45.results.toList = some [.tmp 2, .tmp 3, .tmp 4] := by kernel_rfl
theorem C45_nm : (Try.f45.name == "runtime.NumGoroutine") = false := by kernel_rfl
theorem C45_fn {a0 : AV} {H : Heap} {Q : AV → Heap → Prop} (h : vc Try.prog C45 (vcEnd [.tmp 2, .tmp 3, .tmp 4] Q) H [a0, .any, .any, .any, .any, .any, .any, .any, .any, .any, .any, .any, .any, .any, .any, .any, .any, .any, .any, .any, .any, .any, .any, .any, .any, .any, .any, .any, .any, .any, .any, .any, .any, .any, .any, .any, .any, .any, .any, .any, .any, .any]) : Runs Try.prog 45 [a0] H Q :=
  @fn_go Try.prog mixed 45 Try.f45 C45 [.tmp 2, .tmp 3, .tmp 4] Try.func45 C45_ok C45_res C45_nm 42 Try.ntmps45 [a0] [a0, .any, .any, .any, .any, .any, .any, .any, .any, .any, .any, .any, .any, .any, .any, .any, .any, .any, .any, .any, .any, .any, .any, .any, .any, .any, .any, .any, .any, .any, .any, .any, .any, .any, .any, .any, .any, .any, .any, .any, .any, .any] H Q h 41 (by kernel_rfl) (by kernel_rfl)

/-- spec.DrawRemainingSecurities -/
def C46 : CC :=
 (.seq (.ops [⟨some 2, none, .mv (.const (.slice none 0 0))⟩,
   ⟨some 3, none, .mv (.const (.slice none 0 0))⟩])
 (.seq (.ops [⟨some 10, none, .mv (.tmp 0)⟩,
   ⟨some 11, none, .call (.func 110) [(.tmp 10)]⟩,
   ⟨some 4, none, .mv (.tmp 11)⟩])
 (.seq (.ops [⟨some 13, none, .mv (.tmp 0)⟩,
   ⟨some 14, none, .call (.func 45) [(.tmp 13)]⟩,
   ⟨some 12, none, .mv (.tmp 14)⟩,
   ⟨some 15, none, .ext (.tmp 12) 0⟩,
   ⟨some 16, none, .ext (.tmp 12) 1⟩,
   ⟨some 17, none, .ext (.tmp 12) 2⟩,
   ⟨some 5, none, .mv (.tmp 15)⟩,
   ⟨some 6, none, .mv (.tmp 16)⟩,
   ⟨some 7, none, .mv (.tmp 17)⟩])
 (.seq (.ops [⟨some 19, none, .mv (.tmp 5)⟩,
   ⟨some 20, none, .mv (.tmp 6)⟩,
   ⟨some 21, none, .mv (.tmp 7)⟩,
   ⟨some 22, none, .call (.func 40) [(.tmp 19), (.tmp 20), (.tmp 21)]⟩,
   ⟨some 18, none, .mv (.tmp 22)⟩,
   ⟨some 23, none, .ext (.tmp 18) 0⟩,
   ⟨some 24, none, .ext (.tmp 18) 1⟩,
   ⟨some 8, none, .mv (.tmp 23)⟩,
   ⟨some 9, none, .mv (.tmp 24)⟩])
 (.seq (.seq (.ops [⟨some 25, none, .mv (.tmp 9)⟩,
    ⟨some 26, none, .bin .neq 0 (.tmp 25) (.const (.int .i64 0))⟩])
  (.cond (.tmp 26) (.ops [⟨some 27, none, .mv (.tmp 5)⟩,
    ⟨some 28, none, .len false (.tmp 27)⟩,
    ⟨some 29, none, .mks [.int .i64 0] 8 (.tmp 28)⟩,
    ⟨some 8, none, .mv (.tmp 29)⟩])
  .skip))
 (.seq (.seq (.ops [⟨some 30, none, .mv (.tmp 4)⟩,
    ⟨some 31, none, .call (.func 112) [(.tmp 30), (.const (.int .i64 16))]⟩])
  (.block 0 (.seq (.ops [⟨some 33, none, .bin .eql 0 (.tmp 31) (.const (.int .i64 0))⟩,
     ⟨some 32, none, .mv (.tmp 33)⟩])
   (.cond (.tmp 32) (.ops [⟨some 34, none, .mv (.tmp 8)⟩,
     ⟨some 35, none, .lit 1 [(.const (.int .i64 0))]⟩,
     ⟨some 36, none, .app 1 8 (.tmp 34) (.tmp 35)⟩,
     ⟨some 8, none, .mv (.tmp 36)⟩])
   (.seq (.ops [⟨some 38, none, .bin .eql 0 (.tmp 31) (.const (.int .i64 1))⟩,
      ⟨some 37, none, .mv (.tmp 38)⟩])
    (.cond (.tmp 37) (.seq (.ops [⟨some 39, none, .mv (.tmp 8)⟩,
       ⟨some 40, none, .len false (.tmp 39)⟩,
       ⟨some 41, none, .bin .gtr 0 (.tmp 40) (.const (.int .i64 0))⟩])
     (.cond (.tmp 41) (.ops [⟨some 42, none, .mv (.tmp 8)⟩,
       ⟨some 43, none, .mv (.tmp 4)⟩,
       ⟨some 44, none, .lit 1 [(.const (.int .i64 (-1))), (.const (.int .i64 1)), (.const (.int .i64 500))]⟩,
       ⟨some 45, none, .call (.func 114) [(.tmp 43), (.tmp 44)]⟩,
       ⟨some 46, none, .ia 1 (.tmp 42) (.const (.int .i64 0))⟩,
       ⟨none, none, .store 1 (.tmp 46) (.tmp 45)⟩])
     .skip))
    .skip))))))
 (.seq (.ops [⟨some 47, none, .mv (.tmp 5)⟩,
   ⟨some 48, none, .mv (.tmp 8)⟩,
   ⟨some 2, none, .mv (.tmp 47)⟩,
   ⟨some 3, none, .mv (.tmp 48)⟩])
 .ret)))))))
theorem C46_ok : Try.f46.body.bind (comp Try.prog) = some C46 := by kernel_rfl
theorem C46_res : compRs Try.prog Try.f46.results.toList = some [.tmp 2, .tmp 3] := by kernel_rfl
theorem C46_nm : (Try.f46.name == "runtime.NumGoroutine") = false := by kernel_rfl
theorem C46_fn {a0 : AV} {H : Heap} {Q : AV → Heap → Prop} (h : vc Try.prog C46 (vcEnd [.tmp 2, .tmp 3] Q) H [a0, .any, .any, .any, .any, .any, .any, .any, .any, .any, .any, .any, .any, .any, .any, .any, .any, .any, .any, .any, .any, .any, .any, .any, .any, .any, .any, .any, .any, .any, .any, .any, .any, .any, .any, .any, .any, .any, .any, .any, .any, .any, .any, .any, .any, .any, .any, .any, .any]) : Runs Try.prog 46 [a0] H Q :=
  @fn_go Try.prog mixed 46 Try.f46 C46 [.tmp 2, .tmp 3] Try.func46 C46_ok C46_res C46_nm 49 Try.ntmps46 [a0] [a0, .any, .any, .any, .any, .any, .any, .any, .any, .any, .any, .any, .any, .any, .any, .any, .any, .any, .any, .any, .any, .any, .any, .any, .any, .any, .any, .any, .any, .any, .any, .any, .any, .any, .any, .any, .any, .any, .any, .any, .any, .any, .any, .any, .any, .any, .any, .any, .any] H Q h 48 (by kernel_rfl) (by kernel_rfl)

/-- spec.DrawTotalsByKind -/
def C47 : CC :=
 (.seq (.ops [⟨some 2, none, .mv (.const (.slice none 0 0))⟩])
 (.seq (.ops [⟨some 3, none, .mv (.tmp 0)⟩,
   ⟨some 4, none, .call (.func 110) [(.tmp 3)]⟩,
   ⟨some 5, none, .call (.func 111) [(.tmp 4)]⟩,
   ⟨some 2, none, .mv (.tmp 5)⟩])
 .ret))
theorem C47_ok : Try.f47.body.bind (comp Try.prog) = some C47 := by kernel_rfl
theorem C47_res : compRs Try.prog Try.f47.results.toList = some [.tmp 2] := by kernel_rfl
theorem C47_nm : (Try.f47.name == "runtime.NumGoroutine") = false := by kernel_rfl
theorem C47_fn {a0 : AV} {H : Heap} {Q : AV → Heap → Prop} (h : vc Try.prog C47 (vcEnd [.tmp 2] Q) H [a0, .any, .any, .any, .any, .any]) : Runs Try.prog 47 [a0] H Q :=
  @fn_go Try.prog mixed 47 Try.f47 C47 [.tmp 2] Try.func47 C47_ok C47_res C47_nm 6 Try.ntmps47 [a0] [a0, .any, .any, .any, .any, .any] H Q h 5 (by kernel_rfl) (by kernel_rfl)

/-- laws.likeInts -/
def C48 : CC :=
 (.seq (.ops [⟨some 4, none, .mv (.const (.bool false))⟩])
 (.seq (.seq (.ops [⟨some 6, none, .mv (.tmp 0)⟩,
    ⟨some 7, none, .len false (.tmp 6)⟩,
    ⟨some 8, none, .mv (.tmp 1)⟩,
    ⟨some 9, none, .len false (.tmp 8)⟩,
    ⟨some 10, none, .bin .neq 0 (.tmp 7) (.tmp 9)⟩])
  (.cond (.tmp 10) (.seq (.ops [⟨some 4, none, .mv (.const (.bool false))⟩])
   .ret)
  .skip))
 (.seq (.seq (.ops [⟨some 5, none, .mv (.const (.int .i64 0))⟩])
  (.block 0 (.loop (.seq (.seq (.ops [⟨some 11, none, .mv (.tmp 5)⟩,
       ⟨some 12, none, .mv (.tmp 0)⟩,
       ⟨some 13, none, .len false (.tmp 12)⟩,
       ⟨some 14, none, .bin .lss 0 (.tmp 11) (.tmp 13)⟩])
     (.cond (.tmp 14) .skip
     (.exit 0)))
    (.seq (.block 1 (.seq (.draw 9 [⟨some 17, none, .mv (.tmp 0)⟩,
        ⟨some 18, none, .mv (.tmp 5)⟩,
        ⟨some 19, none, .ia 1 (.tmp 17) (.tmp 18)⟩,
        ⟨some 20, none, .load false 1 (.tmp 19)⟩,
        ⟨some 21, none, .mv (.tmp 1)⟩,
        ⟨some 22, none, .mv (.tmp 5)⟩,
        ⟨some 23, none, .ia 1 (.tmp 21) (.tmp 22)⟩,
        ⟨some 24, none, .load false 1 (.tmp 23)⟩,
        ⟨some 25, none, .bin .neq 0 (.tmp 20) (.tmp 24)⟩])
      (.cond (.tmp 25) (.seq (.ops [⟨some 4, none, .mv (.const (.bool false))⟩])
       .ret)
      .skip)))
    (.ops [⟨some 15, none, .mv (.tmp 5)⟩,
     ⟨some 16, none, .bin .add 0 (.tmp 15) (.const (.int .i64 1))⟩,
     ⟨some 5, none, .mv (.tmp 16)⟩]))))))
 (.seq (.ops [⟨some 4, none, .mv (.const (.bool true))⟩])
 .ret))))
theorem C48_ok : Try.f48.body.bind (comp Try.prog) = some C48 := by kernel_rfl
theorem C48_res : compRs Try.prog Try.f48.results.toList = some [.tmp 4] := by kernel_rfl
theorem C48_nm : (Try.f48.name == "runtime.NumGoroutine") = false := by kernel_rfl
theorem C48_fn {a0 a1 : AV} {H : Heap} {Q : AV → Heap → Prop} (h : vc Try.prog C48 (vcEnd [.tmp 4] Q) H [a0, a1, .any, .any, .any, .any, .any, .any, .any, .any, .any, .any, .any, .any, .any, .any, .any, .any, .any, .any, .any, .any, .any, .any, .any, .any]) : Runs Try.prog 48 [a0, a1] H Q :=
  @fn_go Try.prog mixed 48 Try.f48 C48 [.tmp 4] Try.func48 C48_ok C48_res C48_nm 26 Try.ntmps48 [a0, a1] [a0, a1, .any, .any, .any, .any, .any, .any, .any, .any, .any, .any, .any, .any, .any, .any, .any, .any, .any, .any, .any, .any, .any, .any, .any, .any] H Q h 24 (by kernel_rfl) (by kernel_rfl)

/-- laws.likeSecurities -/
def C49 : CC :=
 (.seq (.ops [⟨some 4, none, .mv (.const (.bool false))⟩])
 (.seq (.seq (.ops [⟨some 6, none, .mv (.tmp 0)⟩,
    ⟨some 7, none, .len false (.tmp 6)⟩,
    ⟨some 8, none, .mv (.tmp 1)⟩,
    ⟨some 9, none, .len false (.tmp 8)⟩,
    ⟨some 10, none, .bin .neq 0 (.tmp 7) (.tmp 9)⟩])
  (.cond (.tmp 10) (.seq (.ops [⟨some 4, none, .mv (.const (.bool false))⟩])
   .ret)
  .skip))
 (.seq (.seq (.ops [⟨some 5, none, .mv (.const (.int .i64 0))⟩])
  (.block 0 (.loop (.seq (.seq (.ops [⟨some 11, none, .mv (.tmp 5)⟩,
       ⟨some 12, none, .mv (.tmp 0)⟩,
       ⟨some 13, none, .len false (.tmp 12)⟩,
       ⟨some 14, none, .bin .lss 0 (.tmp 11) (.tmp 13)⟩])
     (.cond (.tmp 14) .skip
     (.exit 0)))
    (.seq (.block 1 (.seq (.draw 9 [⟨some 17, none, .mv (.tmp 0)⟩,
        ⟨some 18, none, .mv (.tmp 5)⟩,
        ⟨some 19, none, .ia 3 (.tmp 17) (.tmp 18)⟩,
        ⟨some 20, none, .load true 3 (.tmp 19)⟩,
        ⟨some 21, none, .mv (.tmp 1)⟩,
        ⟨some 22, none, .mv (.tmp 5)⟩,
        ⟨some 23, none, .ia 3 (.tmp 21) (.tmp 22)⟩,
        ⟨some 24, none, .load true 3 (.tmp 23)⟩,
        ⟨some 25, none, .bin .neq 0 (.tmp 20) (.tmp 24)⟩])
      (.cond (.tmp 25) (.seq (.ops [⟨some 4, none, .mv (.const (.bool false))⟩])
       .ret)
      .skip)))
    (.ops [⟨some 15, none, .mv (.tmp 5)⟩,
     ⟨some 16, none, .bin .add 0 (.tmp 15) (.const (.int .i64 1))⟩,
     ⟨some 5, none, .mv (.tmp 16)⟩]))))))
 (.seq (.ops [⟨some 4, none, .mv (.const (.bool true))⟩])
 .ret))))
theorem C49_ok : Try.f49.body.bind (comp Try.prog) = some C49 := by kernel_rfl
theorem C49_res : compRs Try.prog Try.f49.results.toList = some [.tmp 4] := by kernel_rfl
theorem C49_nm : (Try.f49.name == "runtime.NumGoroutine") = false := by kernel_rfl
theorem C49_fn {a0 a1 : AV} {H : Heap} {Q : AV → Heap → Prop} (h : vc Try.prog C49 (vcEnd [.tmp 4] Q) H [a0, a1, .any, .any, .any, .any, .any, .any, .any, .any, .any, .any, .any, .any, .any, .any, .any, .any, .any, .any, .any, .any, .any, .any, .any, .any]) : Runs Try.prog 49 [a0, a1] H Q :=
  @fn_go Try.prog mixed 49 Try.f49 C49 [.tmp 4] Try.func49 C49_ok C49_res C49_nm 26 Try.ntmps49 [a0, a1] [a0, a1, .any, .any, .any, .any, .any, .any, .any, .any, .any, .any, .any, .any, .any, .any, .any, .any, .any, .any, .any, .any, .any, .any, .any, .any] H Q h 24 (by kernel_rfl) (by kernel_rfl)

end Go.Proofs.Ytbgnlnlgjmipfaa
