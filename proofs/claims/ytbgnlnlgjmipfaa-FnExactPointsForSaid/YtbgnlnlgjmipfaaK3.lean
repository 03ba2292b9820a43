/- The code of the functions, in the form of our laws; each is the program's own, by the kernel. Written by a program of ours. -/
import Derived.Test.YtbgnlnlgjmipfaaB0
import Derived.KernelRfl
namespace Go.Proofs.Ytbgnlnlgjmipfaa
open Go.Abs

/-- laws.heldDemandS -/
def C39 : CC :=
 (.seq (.ops [⟨some 4, none, .mv (.const (.int .i64 0))⟩])
 (.seq (.seq (.ops [⟨some 5, none, .mv (.const (.int .i64 0))⟩])
  (.block 0 (.loop (.seq (.seq (.ops [⟨some 6, none, .mv (.tmp 5)⟩,
       ⟨some 7, none, .mv (.tmp 0)⟩,
       ⟨some 8, none, .len false (.tmp 7)⟩,
       ⟨some 9, none, .bin .lss 0 (.tmp 6) (.tmp 8)⟩])
     (.cond (.tmp 9) .skip
     (.exit 0)))
    (.seq (.block 1 (.seq (.seq (.draw 8 [⟨some 12, none, .mv (.tmp 0)⟩,
         ⟨some 13, none, .mv (.tmp 5)⟩,
         ⟨some 14, none, .ia 3 (.tmp 12) (.tmp 13)⟩,
         ⟨some 15, none, .fa 0 (.tmp 14)⟩,
         ⟨some 16, none, .load false 1 (.tmp 15)⟩,
         ⟨some 17, none, .mv (.tmp 1)⟩,
         ⟨some 18, none, .call (.func 85) [(.tmp 17)]⟩,
         ⟨some 19, none, .bin .neq 0 (.tmp 16) (.tmp 18)⟩])
       (.cond (.tmp 19) (.seq (.ops [⟨some 4, none, .mv (.const (.int .i64 (-1)))⟩])
        .ret)
       .skip))
      (.seq (.ops [⟨some 20, none, .mv (.tmp 1)⟩,
        ⟨some 21, none, .bin .add 0 (.tmp 20) (.const (.int .i64 1))⟩,
        ⟨some 1, none, .mv (.tmp 21)⟩])
      (.seq (.seq (.ops [⟨some 22, none, .mv (.tmp 0)⟩,
         ⟨some 23, none, .mv (.tmp 5)⟩,
         ⟨some 24, none, .ia 3 (.tmp 22) (.tmp 23)⟩,
         ⟨some 25, none, .fa 1 (.tmp 24)⟩,
         ⟨some 26, none, .load false 1 (.tmp 25)⟩,
         ⟨some 27, none, .mv (.tmp 1)⟩,
         ⟨some 28, none, .bin .neq 0 (.tmp 26) (.tmp 27)⟩])
       (.cond (.tmp 28) (.seq (.ops [⟨some 4, none, .mv (.const (.int .i64 (-1)))⟩])
        .ret)
       .skip))
      (.seq (.ops [⟨some 29, none, .mv (.tmp 1)⟩,
        ⟨some 30, none, .bin .add 0 (.tmp 29) (.const (.int .i64 1))⟩,
        ⟨some 1, none, .mv (.tmp 30)⟩])
      (.seq (.seq (.ops [⟨some 31, none, .mv (.tmp 0)⟩,
         ⟨some 32, none, .mv (.tmp 5)⟩,
         ⟨some 33, none, .ia 3 (.tmp 31) (.tmp 32)⟩,
         ⟨some 34, none, .fa 2 (.tmp 33)⟩,
         ⟨some 35, none, .load false 1 (.tmp 34)⟩,
         ⟨some 36, none, .mv (.tmp 1)⟩,
         ⟨some 37, none, .bin .neq 0 (.tmp 35) (.tmp 36)⟩])
       (.cond (.tmp 37) (.seq (.ops [⟨some 4, none, .mv (.const (.int .i64 (-1)))⟩])
        .ret)
       .skip))
      (.ops [⟨some 38, none, .mv (.tmp 1)⟩,
       ⟨some 39, none, .bin .add 0 (.tmp 38) (.const (.int .i64 1))⟩,
       ⟨some 1, none, .mv (.tmp 39)⟩])))))))
    (.ops [⟨some 10, none, .mv (.tmp 5)⟩,
     ⟨some 11, none, .bin .add 0 (.tmp 10) (.const (.int .i64 1))⟩,
     ⟨some 5, none, .mv (.tmp 11)⟩]))))))
 (.seq (.ops [⟨some 40, none, .mv (.tmp 1)⟩,
   ⟨some 4, none, .mv (.tmp 40)⟩])
 .ret)))
theorem C39_ok : Try.f39.body.bind (comp Try.prog) = some C39 := by kernel_rfl
theorem C39_res : compRs Try.prog Try.f39.results.toList = some [.tmp 4] := by kernel_rfl
theorem C39_nm : (Try.f39.name == "runtime.NumGoroutine") = false := by kernel_rfl
theorem C39_fn {a0 a1 : AV} {H : Heap} {Q : AV → Heap → Prop} (h : vc Try.prog C39 (vcEnd [.tmp 4] Q) H [a0, a1, .any, .any, .any, .any, .any, .any, .any, .any, .any, .any, .any, .any, .any, .any, .any, .any, .any, .any, .any, .any, .any, .any, .any, .any, .any, .any, .any, .any, .any, .any, .any, .any, .any, .any, .any, .any, .any, .any, .any]) : Runs Try.prog 39 [a0, a1] H Q :=
  @fn_go Try.prog mixed 39 Try.f39 C39 [.tmp 4] Try.func39 C39_ok C39_res C39_nm 41 Try.ntmps39 [a0, a1] [a0, a1, .any, .any, .any, .any, .any, .any, .any, .any, .any, .any, .any, .any, .any, .any, .any, .any, .any, .any, .any, .any, .any, .any, .any, .any, .any, .any, .any, .any, .any, .any, .any, .any, .any, .any, .any, .any, .any, .any, .any] H Q h 39 (by kernel_rfl) (by kernel_rfl)

/-- laws.FnExactChangeRank -/
def C6 : CC :=
 (.seq (.ops [⟨some 6, none, .mv (.const (.bool false))⟩])
 (.seq (.seq (.ops [⟨some 18, none, .mv (.tmp 1)⟩,
    ⟨some 19, none, .len true (.tmp 18)⟩,
    ⟨some 20, none, .bin .gtr 0 (.tmp 19) (.const (.int .i64 1048576))⟩])
  (.cond (.tmp 20) (.seq (.ops [⟨some 6, none, .mv (.const (.bool true))⟩])
   .ret)
  .skip))
 (.seq (.ops [⟨some 7, none, .mv (.const (.int .i64 1048576))⟩])
 (.seq (.ops [⟨some 21, none, .mv (.tmp 0)⟩,
   ⟨some 22, none, .mv (.tmp 7)⟩,
   ⟨some 23, none, .call (.func 33) [(.tmp 21), (.tmp 22)]⟩,
   ⟨some 7, none, .mv (.tmp 23)⟩])
 (.seq (.seq (.ops [⟨some 24, none, .mv (.tmp 7)⟩,
    ⟨some 25, none, .bin .lss 0 (.tmp 24) (.const (.int .i64 0))⟩])
  (.cond (.tmp 25) (.seq (.ops [⟨some 6, none, .mv (.const (.bool true))⟩])
   .ret)
  .skip))
 (.seq (.ops [⟨some 27, none, .mv (.tmp 0)⟩,
   ⟨some 28, none, .call (.func 35) [(.tmp 27)]⟩,
   ⟨some 29, none, .mv (.tmp 1)⟩,
   ⟨some 30, none, .mv (.tmp 2)⟩,
   ⟨some 31, none, .call (.func 34) [(.tmp 28), (.tmp 29), (.tmp 30)]⟩,
   ⟨some 26, none, .mv (.tmp 31)⟩,
   ⟨some 32, none, .ext (.tmp 26) 0⟩,
   ⟨some 33, none, .ext (.tmp 26) 1⟩,
   ⟨some 8, none, .mv (.tmp 32)⟩,
   ⟨some 9, none, .mv (.tmp 33)⟩])
 (.seq (.ops [⟨some 34, none, .mv (.tmp 0)⟩,
   ⟨some 35, none, .call (.func 35) [(.tmp 34)]⟩,
   ⟨some 10, none, .mv (.tmp 35)⟩])
 (.seq (.ops [⟨some 37, none, .mv (.tmp 10)⟩,
   ⟨some 38, none, .mv (.tmp 1)⟩,
   ⟨some 39, none, .mv (.tmp 2)⟩,
   ⟨some 40, none, .call (.func 36) [(.tmp 37), (.tmp 38), (.tmp 39)]⟩,
   ⟨some 36, none, .mv (.tmp 40)⟩,
   ⟨some 41, none, .ext (.tmp 36) 0⟩,
   ⟨some 42, none, .ext (.tmp 36) 1⟩,
   ⟨some 11, none, .mv (.tmp 41)⟩,
   ⟨some 12, none, .mv (.tmp 42)⟩])
 (.seq (.seq (.ops [⟨some 43, none, .mv (.tmp 11)⟩,
    ⟨some 44, none, .mv (.tmp 8)⟩,
    ⟨some 45, none, .call (.func 37) [(.tmp 43), (.tmp 44)]⟩,
    ⟨some 46, none, .not (.tmp 45)⟩,
    ⟨some 47, none, .mv (.tmp 46)⟩,
    ⟨some 48, some (47, false), .mv (.tmp 12)⟩,
    ⟨some 49, some (47, false), .mv (.tmp 9)⟩,
    ⟨some 50, some (47, false), .bin .neq 0 (.tmp 48) (.tmp 49)⟩,
    ⟨some 51, none, .pick (.tmp 47) (.const (.bool true)) (.tmp 50)⟩])
  (.cond (.tmp 51) (.seq (.ops [⟨some 6, none, .mv (.const (.bool false))⟩])
   .ret)
  .skip))
 (.seq (.seq (.ops [⟨some 52, none, .mv (.tmp 10)⟩,
    ⟨some 53, none, .mv (.tmp 0)⟩,
    ⟨some 54, none, .call (.func 35) [(.tmp 53)]⟩,
    ⟨some 55, none, .call (.func 37) [(.tmp 52), (.tmp 54)]⟩,
    ⟨some 56, none, .not (.tmp 55)⟩])
  (.cond (.tmp 56) (.seq (.ops [⟨some 6, none, .mv (.const (.bool false))⟩])
   .ret)
  .skip))
 (.seq (.ops [⟨some 13, none, .mv (.const (.int .i64 1))⟩])
 (.seq (.ops [⟨some 57, none, .mv (.tmp 10)⟩,
   ⟨some 58, none, .mv (.tmp 13)⟩,
   ⟨some 59, none, .call (.func 38) [(.tmp 57), (.tmp 58)]⟩,
   ⟨some 13, none, .mv (.tmp 59)⟩])
 (.seq (.seq (.ops [⟨some 60, none, .mv (.tmp 13)⟩,
    ⟨some 61, none, .bin .lss 0 (.tmp 60) (.const (.int .i64 0))⟩,
    ⟨some 62, none, .mv (.tmp 61)⟩,
    ⟨some 63, some (62, false), .mv (.tmp 11)⟩,
    ⟨some 64, some (62, false), .mv (.tmp 8)⟩,
    ⟨some 65, some (62, false), .call (.func 37) [(.tmp 63), (.tmp 64)]⟩,
    ⟨some 66, some (62, false), .not (.tmp 65)⟩,
    ⟨some 67, none, .pick (.tmp 62) (.const (.bool true)) (.tmp 66)⟩,
    ⟨some 68, none, .mv (.tmp 67)⟩,
    ⟨some 69, some (68, false), .mv (.tmp 12)⟩,
    ⟨some 70, some (68, false), .mv (.tmp 9)⟩,
    ⟨some 71, some (68, false), .bin .neq 0 (.tmp 69) (.tmp 70)⟩,
    ⟨some 72, none, .pick (.tmp 68) (.const (.bool true)) (.tmp 71)⟩])
  (.cond (.tmp 72) (.seq (.ops [⟨some 6, none, .mv (.const (.bool false))⟩])
   .ret)
  .skip))
 (.seq (.ops [⟨some 14, none, .mv (.const (.int .i64 1))⟩])
 (.seq (.ops [⟨some 73, none, .mv (.tmp 11)⟩,
   ⟨some 74, none, .mv (.tmp 14)⟩,
   ⟨some 75, none, .call (.func 38) [(.tmp 73), (.tmp 74)]⟩,
   ⟨some 14, none, .mv (.tmp 75)⟩])
 (.seq (.ops [⟨some 15, none, .mv (.const (.int .i64 1))⟩])
 (.seq (.ops [⟨some 76, none, .mv (.tmp 11)⟩,
   ⟨some 77, none, .mv (.tmp 15)⟩,
   ⟨some 78, none, .call (.func 39) [(.tmp 76), (.tmp 77)]⟩,
   ⟨some 15, none, .mv (.tmp 78)⟩])
 (.seq (.seq (.ops [⟨some 79, none, .mv (.tmp 15)⟩,
    ⟨some 80, none, .bin .lss 0 (.tmp 79) (.const (.int .i64 0))⟩])
  (.cond (.tmp 80) (.seq (.ops [⟨some 6, none, .mv (.const (.bool false))⟩])
   .ret)
  .skip))
 (.seq (.seq (.ops [⟨some 81, none, .mv (.tmp 15)⟩,
    ⟨some 82, none, .mv (.tmp 14)⟩,
    ⟨some 83, none, .bin .neq 0 (.tmp 81) (.tmp 82)⟩])
  (.cond (.tmp 83) (.seq (.ops [⟨some 6, none, .mv (.const (.bool false))⟩])
   .ret)
  .skip))
 (.seq (.ops [⟨some 85, none, .mv (.tmp 0)⟩,
   ⟨some 86, none, .call (.func 35) [(.tmp 85)]⟩,
   ⟨some 87, none, .mv (.tmp 1)⟩,
   ⟨some 88, none, .mv (.tmp 2)⟩,
   ⟨some 89, none, .call (.func 36) [(.tmp 86), (.tmp 87), (.tmp 88)]⟩,
   ⟨some 84, none, .mv (.tmp 89)⟩,
   ⟨some 90, none, .ext (.tmp 84) 0⟩,
   ⟨some 91, none, .ext (.tmp 84) 1⟩,
   ⟨some 16, none, .mv (.tmp 90)⟩,
   ⟨some 17, none, .mv (.tmp 91)⟩])
 (.seq (.seq (.ops [⟨some 92, none, .mv (.tmp 16)⟩,
    ⟨some 93, none, .mv (.tmp 8)⟩,
    ⟨some 94, none, .call (.func 37) [(.tmp 92), (.tmp 93)]⟩,
    ⟨some 95, none, .not (.tmp 94)⟩,
    ⟨some 96, none, .mv (.tmp 95)⟩,
    ⟨some 97, some (96, false), .mv (.tmp 17)⟩,
    ⟨some 98, some (96, false), .mv (.tmp 9)⟩,
    ⟨some 99, some (96, false), .bin .neq 0 (.tmp 97) (.tmp 98)⟩,
    ⟨some 100, none, .pick (.tmp 96) (.const (.bool true)) (.tmp 99)⟩])
  (.cond (.tmp 100) (.seq (.ops [⟨some 6, none, .mv (.const (.bool false))⟩])
   .ret)
  .skip))
 (.seq (.ops [⟨some 15, none, .mv (.const (.int .i64 1))⟩])
 (.seq (.ops [⟨some 101, none, .mv (.tmp 11)⟩,
   ⟨some 102, none, .mv (.tmp 15)⟩,
   ⟨some 103, none, .call (.func 39) [(.tmp 101), (.tmp 102)]⟩,
   ⟨some 15, none, .mv (.tmp 103)⟩])
 (.seq (.seq (.ops [⟨some 104, none, .mv (.tmp 15)⟩,
    ⟨some 105, none, .bin .lss 0 (.tmp 104) (.const (.int .i64 0))⟩])
  (.cond (.tmp 105) (.seq (.ops [⟨some 6, none, .mv (.const (.bool false))⟩])
   .ret)
  .skip))
 (.seq (.seq (.ops [⟨some 106, none, .mv (.tmp 15)⟩,
    ⟨some 107, none, .mv (.tmp 14)⟩,
    ⟨some 108, none, .bin .neq 0 (.tmp 106) (.tmp 107)⟩])
  (.cond (.tmp 108) (.seq (.ops [⟨some 6, none, .mv (.const (.bool false))⟩])
   .ret)
  .skip))
 (.seq (.ops [⟨some 6, none, .mv (.const (.bool true))⟩])
 .ret))))))))))))))))))))))))))
theorem C6_ok : Try.f6.body.bind (comp Try.prog) = some C6 := by kernel_rfl
theorem C6_res : compRs Try.prog Try.f6.results.toList = some [.tmp 6] := by kernel_rfl
theorem C6_nm : (Try.f6.name == "runtime.NumGoroutine") = false := by kernel_rfl
theorem C6_fn {a0 a1 a2 : AV} {H : Heap} {Q : AV → Heap → Prop} (h : vc Try.prog C6 (vcEnd [.tmp 6] Q) H [a0, a1, a2, .any, .any, .any, .any, .any, .any, .any, .any, .any, .any, .any, .any, .any, .any, .any, .any, .any, .any, .any, .any, .any, .any, .any, .any, .any, .any, .any, .any, .any, .any, .any, .any, .any, .any, .any, .any, .any, .any, .any, .any, .any, .any, .any, .any, .any, .any, .any, .any, .any, .any, .any, .any, .any, .any, .any, .any, .any, .any, .any, .any, .any, .any, .any, .any, .any, .any, .any, .any, .any, .any, .any, .any, .any, .any, .any, .any, .any, .any, .any, .any, .any, .any, .any, .any, .any, .any, .any, .any, .any, .any, .any, .any, .any, .any, .any, .any, .any, .any, .any, .any, .any, .any, .any, .any, .any, .any]) : Runs Try.prog 6 [a0, a1, a2] H Q :=
  @fn_go Try.prog mixed 6 Try.f6 C6 [.tmp 6] Try.func6 C6_ok C6_res C6_nm 109 Try.ntmps6 [a0, a1, a2] [a0, a1, a2, .any, .any, .any, .any, .any, .any, .any, .any, .any, .any, .any, .any, .any, .any, .any, .any, .any, .any, .any, .any, .any, .any, .any, .any, .any, .any, .any, .any, .any, .any, .any, .any, .any, .any, .any, .any, .any, .any, .any, .any, .any, .any, .any, .any, .any, .any, .any, .any, .any, .any, .any, .any, .any, .any, .any, .any, .any, .any, .any, .any, .any, .any, .any, .any, .any, .any, .any, .any, .any, .any, .any, .any, .any, .any, .any, .any, .any, .any, .any, .any, .any, .any, .any, .any, .any, .any, .any, .any, .any, .any, .any, .any, .any, .any, .any, .any, .any, .any, .any, .any, .any, .any, .any, .any, .any, .any] H Q h 106 (by kernel_rfl) (by kernel_rfl)

/-- spec.l20Given -/
def C99 : CC :=
 (.seq (.ops [⟨some 4, none, .mv (.const (.int .i64 0))⟩])
 (.seq (.ops [⟨some 5, none, .mv (.const (.int .i64 0))⟩])
 (.seq (.seq (.ops [⟨some 6, none, .mv (.const (.int .i64 0))⟩])
  (.block 0 (.loop (.seq (.seq (.ops [⟨some 7, none, .mv (.tmp 6)⟩,
       ⟨some 8, none, .mv (.tmp 0)⟩,
       ⟨some 9, none, .len false (.tmp 8)⟩,
       ⟨some 10, none, .bin .lss 0 (.tmp 7) (.tmp 9)⟩])
     (.cond (.tmp 10) .skip
     (.exit 0)))
    (.seq (.block 1 (.seq (.ops [⟨some 13, none, .mv (.tmp 0)⟩,
        ⟨some 14, none, .mv (.tmp 6)⟩,
        ⟨some 15, none, .ia 3 (.tmp 13) (.tmp 14)⟩,
        ⟨some 16, none, .fa 0 (.tmp 15)⟩,
        ⟨some 17, none, .load false 1 (.tmp 16)⟩,
        ⟨some 18, none, .mv (.tmp 1)⟩,
        ⟨some 19, none, .bin .eql 0 (.tmp 17) (.tmp 18)⟩])
      (.cond (.tmp 19) (.ops [⟨some 20, none, .mv (.tmp 5)⟩,
        ⟨some 21, none, .mv (.tmp 0)⟩,
        ⟨some 22, none, .mv (.tmp 6)⟩,
        ⟨some 23, none, .ia 3 (.tmp 21) (.tmp 22)⟩,
        ⟨some 24, none, .fa 2 (.tmp 23)⟩,
        ⟨some 25, none, .load false 1 (.tmp 24)⟩,
        ⟨some 26, none, .bin .add 0 (.tmp 20) (.tmp 25)⟩,
        ⟨some 5, none, .mv (.tmp 26)⟩])
      .skip)))
    (.ops [⟨some 11, none, .mv (.tmp 6)⟩,
     ⟨some 12, none, .bin .add 0 (.tmp 11) (.const (.int .i64 1))⟩,
     ⟨some 6, none, .mv (.tmp 12)⟩]))))))
 (.seq (.ops [⟨some 27, none, .mv (.tmp 5)⟩,
   ⟨some 4, none, .mv (.tmp 27)⟩])
 .ret))))
theorem C99_ok : Try.f99.body.bind (comp Try.prog) = some C99 := by kernel_rfl
theorem C99_res : compRs Try.prog Try.f99.results.toList = some [.tmp 4] := by kernel_rfl
theorem C99_nm : (Try.f99.name == "runtime.NumGoroutine") = false := by kernel_rfl
theorem C99_fn {a0 a1 : AV} {H : Heap} {Q : AV → Heap → Prop} (h : vc Try.prog C99 (vcEnd [.tmp 4] Q) H [a0, a1, .any, .any, .any, .any, .any, .any, .any, .any, .any, .any, .any, .any, .any, .any, .any, .any, .any, .any, .any, .any, .any, .any, .any, .any, .any, .any]) : Runs Try.prog 99 [a0, a1] H Q :=
  @fn_go Try.prog mixed 99 Try.f99 C99 [.tmp 4] Try.func99 C99_ok C99_res C99_nm 28 Try.ntmps99 [a0, a1] [a0, a1, .any, .any, .any, .any, .any, .any, .any, .any, .any, .any, .any, .any, .any, .any, .any, .any, .any, .any, .any, .any, .any, .any, .any, .any, .any, .any] H Q h 26 (by kernel_rfl) (by kernel_rfl)

/-- spec.PayFromSecurities -/
def C40 : CC :=
 (.seq (.ops [⟨some 6, none, .mv (.const (.slice none 0 0))⟩,
   ⟨some 7, none, .mv (.const (.int .i64 0))⟩])
 (.seq (.seq (.ops [⟨some 11, none, .mv (.tmp 0)⟩,
    ⟨some 12, none, .call (.func 81) [(.tmp 11)]⟩,
    ⟨some 13, none, .not (.tmp 12)⟩])
  (.cond (.tmp 13) (.seq (.ops [⟨some 6, none, .mv (.const (.slice none 0 0))⟩,
     ⟨some 7, none, .mv (.const (.int .i64 1))⟩])
   .ret)
  .skip))
 (.seq (.seq (.ops [⟨some 14, none, .mv (.tmp 2)⟩,
    ⟨some 15, none, .call (.func 98) [(.tmp 14)]⟩,
    ⟨some 16, none, .not (.tmp 15)⟩])
  (.cond (.tmp 16) (.seq (.ops [⟨some 6, none, .mv (.const (.slice none 0 0))⟩,
     ⟨some 7, none, .mv (.const (.int .i64 2))⟩])
   .ret)
  .skip))
 (.seq (.seq (.ops [⟨some 17, none, .mv (.tmp 0)⟩,
    ⟨some 18, none, .mv (.tmp 1)⟩,
    ⟨some 19, none, .call (.func 99) [(.tmp 17), (.tmp 18)]⟩,
    ⟨some 20, none, .mv (.tmp 2)⟩,
    ⟨some 21, none, .bin .lss 0 (.tmp 19) (.tmp 20)⟩])
  (.cond (.tmp 21) (.seq (.ops [⟨some 6, none, .mv (.const (.slice none 0 0))⟩,
     ⟨some 7, none, .mv (.const (.int .i64 5))⟩])
   .ret)
  .skip))
 (.seq (.ops [⟨some 22, none, .mv (.tmp 0)⟩,
   ⟨some 23, none, .len false (.tmp 22)⟩,
   ⟨some 24, none, .mks [.int .i64 0] 8 (.tmp 23)⟩,
   ⟨some 8, none, .mv (.tmp 24)⟩])
 (.seq (.seq (.ops [⟨some 9, none, .mv (.const (.int .i64 0))⟩])
  (.block 0 (.loop (.seq (.seq (.ops [⟨some 25, none, .mv (.tmp 9)⟩,
       ⟨some 26, none, .bin .leq 0 (.tmp 25) (.const (.int .i64 2))⟩])
     (.cond (.tmp 26) .skip
     (.exit 0)))
    (.seq (.block 1 (.seq (.ops [⟨some 10, none, .mv (.const (.int .i64 0))⟩])
      (.block 2 (.loop (.seq (.seq (.ops [⟨some 29, none, .mv (.tmp 10)⟩,
           ⟨some 30, none, .mv (.tmp 0)⟩,
           ⟨some 31, none, .len false (.tmp 30)⟩,
           ⟨some 32, none, .bin .lss 0 (.tmp 29) (.tmp 31)⟩])
         (.cond (.tmp 32) .skip
         (.exit 2)))
        (.seq (.block 3 (.seq (.ops [⟨some 35, none, .mv (.tmp 0)⟩,
            ⟨some 36, none, .mv (.tmp 10)⟩,
            ⟨some 37, none, .ia 3 (.tmp 35) (.tmp 36)⟩,
            ⟨some 38, none, .fa 0 (.tmp 37)⟩,
            ⟨some 39, none, .load false 1 (.tmp 38)⟩,
            ⟨some 40, none, .mv (.tmp 1)⟩,
            ⟨some 41, none, .bin .eql 0 (.tmp 39) (.tmp 40)⟩,
            ⟨some 42, none, .mv (.tmp 41)⟩,
            ⟨some 43, some (42, true), .mv (.tmp 0)⟩,
            ⟨some 44, some (42, true), .mv (.tmp 10)⟩,
            ⟨some 45, some (42, true), .ia 3 (.tmp 43) (.tmp 44)⟩,
            ⟨some 46, some (42, true), .fa 1 (.tmp 45)⟩,
            ⟨some 47, some (42, true), .load false 1 (.tmp 46)⟩,
            ⟨some 48, some (42, true), .mv (.tmp 9)⟩,
            ⟨some 49, some (42, true), .bin .eql 0 (.tmp 47) (.tmp 48)⟩,
            ⟨some 50, none, .pick (.tmp 42) (.tmp 49) (.const (.bool false))⟩])
          (.cond (.tmp 50) (.seq (.ops [⟨some 51, none, .mv (.tmp 8)⟩,
             ⟨some 52, none, .mv (.tmp 10)⟩,
             ⟨some 53, none, .mv (.tmp 2)⟩,
             ⟨some 54, none, .mv (.tmp 0)⟩,
             ⟨some 55, none, .mv (.tmp 10)⟩,
             ⟨some 56, none, .ia 3 (.tmp 54) (.tmp 55)⟩,
             ⟨some 57, none, .fa 2 (.tmp 56)⟩,
             ⟨some 58, none, .load false 1 (.tmp 57)⟩,
             ⟨some 59, none, .mn (.tmp 53) (.tmp 58)⟩,
             ⟨some 60, none, .ia 1 (.tmp 51) (.tmp 52)⟩,
             ⟨none, none, .store 1 (.tmp 60) (.tmp 59)⟩])
           (.ops [⟨some 61, none, .mv (.tmp 2)⟩,
            ⟨some 62, none, .mv (.tmp 8)⟩,
            ⟨some 63, none, .mv (.tmp 10)⟩,
            ⟨some 64, none, .ia 1 (.tmp 62) (.tmp 63)⟩,
            ⟨some 65, none, .load false 1 (.tmp 64)⟩,
            ⟨some 66, none, .bin .sub 0 (.tmp 61) (.tmp 65)⟩,
            ⟨some 2, none, .mv (.tmp 66)⟩]))
          .skip)))
        (.ops [⟨some 33, none, .mv (.tmp 10)⟩,
         ⟨some 34, none, .bin .add 0 (.tmp 33) (.const (.int .i64 1))⟩,
         ⟨some 10, none, .mv (.tmp 34)⟩])))))))
    (.ops [⟨some 27, none, .mv (.tmp 9)⟩,
     ⟨some 28, none, .bin .add 0 (.tmp 27) (.const (.int .i64 1))⟩,
     ⟨some 9, none, .mv (.tmp 28)⟩]))))))
 (.seq (.ops [⟨some 67, none, .mv (.tmp 8)⟩,
   ⟨some 6, none, .mv (.tmp 67)⟩,
   ⟨some 7, none, .mv (.const (.int .i64 0))⟩])
 .ret)))))))
theorem C40_ok : Try.f40.body.bind (comp Try.prog) = some C40 := by kernel_rfl
theorem C40_res : compRs Try.prog Try.f40.results.toList = some [.tmp 6, .tmp 7] := by kernel_rfl
theorem C40_nm : (Try.f40.name == "runtime.NumGoroutine") = false := by kernel_rfl
theorem C40_fn {a0 a1 a2 : AV} {H : Heap} {Q : AV → Heap → Prop} (h : vc Try.prog C40 (vcEnd [.tmp 6, .tmp 7] Q) H [a0, a1, a2, .any, .any, .any, .any, .any, .any, .any, .any, .any, .any, .any, .any, .any, .any, .any, .any, .any, .any, .any, .any, .any, .any, .any, .any, .any, .any, .any, .any, .any, .any, .any, .any, .any, .any, .any, .any, .any, .any, .any, .any, .any, .any, .any, .any, .any, .any, .any, .any, .any, .any, .any, .any, .any, .any, .any, .any, .any, .any, .any, .any, .any, .any, .any, .any, .any]) : Runs Try.prog 40 [a0, a1, a2] H Q :=
  @fn_go Try.prog mixed 40 Try.f40 C40 [.tmp 6, .tmp 7] Try.func40 C40_ok C40_res C40_nm 68 Try.ntmps40 [a0, a1, a2] [a0, a1, a2, .any, .any, .any, .any, .any, .any, .any, .any, .any, .any, .any, .any, .any, .any, .any, .any, .any, .any, .any, .any, .any, .any, .any, .any, .any, .any, .any, .any, .any, .any, .any, .any, .any, .any, .any, .any, .any, .any, .any, .any, .any, .any, .any, .any, .any, .any, .any, .any, .any, .any, .any, .any, .any, .any, .any, .any, .any, .any, .any, .any, .any, .any, .any, .any, .any] H Q h 65 (by kernel_rfl) (by kernel_rfl)

/-- impl.given -/
def C101 : CC :=
 (.seq (.ops [⟨some 4, none, .mv (.const (.int .i64 0))⟩])
 (.seq (.ops [⟨some 5, none, .mv (.const (.int .i64 0))⟩])
 (.seq (.seq (.ops [⟨some 8, none, .mv (.tmp 0)⟩,
    ⟨some 9, none, .len false (.tmp 8)⟩,
    ⟨some 10, none, .mv (.const (.int .i64 0))⟩])
  (.block 0 (.loop (.seq (.ops [⟨some 11, none, .bin .lss 0 (.tmp 10) (.tmp 9)⟩])
    (.seq (.cond (.tmp 11) .skip
     (.exit 0))
    (.seq (.block 1 (.seq (.ops [⟨some 12, none, .ia 3 (.tmp 8) (.tmp 10)⟩,
        ⟨some 13, none, .load true 3 (.tmp 12)⟩,
        ⟨some 7, none, .alloc [.string ⟨#[]⟩, .int .i64 0, .int .i64 0]⟩,
        ⟨none, none, .store 3 (.tmp 7) (.tmp 13)⟩])
      (.seq (.ops [⟨some 14, none, .fa 0 (.tmp 7)⟩,
        ⟨some 15, none, .load false 1 (.tmp 14)⟩,
        ⟨some 16, none, .mv (.tmp 1)⟩,
        ⟨some 17, none, .bin .eql 0 (.tmp 15) (.tmp 16)⟩])
      (.cond (.tmp 17) (.ops [⟨some 18, none, .mv (.tmp 5)⟩,
        ⟨some 19, none, .fa 2 (.tmp 7)⟩,
        ⟨some 20, none, .load false 1 (.tmp 19)⟩,
        ⟨some 21, none, .bin .add 0 (.tmp 18) (.tmp 20)⟩,
        ⟨some 5, none, .mv (.tmp 21)⟩])
      .skip))))
    (.ops [⟨some 22, none, .bin .add 0 (.tmp 10) (.const (.int .i64 1))⟩,
     ⟨some 10, none, .mv (.tmp 22)⟩])))))))
 (.seq (.ops [⟨some 23, none, .mv (.tmp 5)⟩,
   ⟨some 4, none, .mv (.tmp 23)⟩])
 .ret))))
theorem C101_ok : Try.f101.body.bind (comp Try.prog) = some C101 := by kernel_rfl
theorem C101_res : compRs Try.prog Try.f101.results.toList = some [.tmp 4] := by kernel_rfl
theorem C101_nm : (Try.f101.name == "runtime.NumGoroutine") = false := by kernel_rfl
theorem C101_fn {a0 a1 : AV} {H : Heap} {Q : AV → Heap → Prop} (h : vc Try.prog C101 (vcEnd [.tmp 4] Q) H [a0, a1, .any, .any, .any, .any, .any, .any, .any, .any, .any, .any, .any, .any, .any, .any, .any, .any, .any, .any, .any, .any, .any, .any]) : Runs Try.prog 101 [a0, a1] H Q :=
  @fn_go Try.prog mixed 101 Try.f101 C101 [.tmp 4] Try.func101 C101_ok C101_res C101_nm 24 Try.ntmps101 [a0, a1] [a0, a1, .any, .any, .any, .any, .any, .any, .any, .any, .any, .any, .any, .any, .any, .any, .any, .any, .any, .any, .any, .any, .any, .any] H Q h 22 (by kernel_rfl) (by kernel_rfl)

/-- impl.PayFromSecurities -/
def C41 : CC :=
 (.seq (.ops [⟨some 6, none, .mv (.const (.slice none 0 0))⟩,
   ⟨some 7, none, .mv (.const (.int .i64 0))⟩])
 (.seq (.block 0 (.seq (.ops [⟨some 13, none, .mv (.tmp 0)⟩,
     ⟨some 14, none, .call (.func 83) [(.tmp 13)]⟩,
     ⟨some 15, none, .not (.tmp 14)⟩,
     ⟨some 12, none, .mv (.tmp 15)⟩])
   (.cond (.tmp 12) (.seq (.ops [⟨some 6, none, .mv (.const (.slice none 0 0))⟩,
      ⟨some 7, none, .mv (.const (.int .i64 1))⟩])
    .ret)
   (.seq (.ops [⟨some 17, none, .mv (.tmp 2)⟩,
      ⟨some 18, none, .call (.func 100) [(.tmp 17)]⟩,
      ⟨some 19, none, .not (.tmp 18)⟩,
      ⟨some 16, none, .mv (.tmp 19)⟩])
    (.cond (.tmp 16) (.seq (.ops [⟨some 6, none, .mv (.const (.slice none 0 0))⟩,
       ⟨some 7, none, .mv (.const (.int .i64 2))⟩])
     .ret)
    (.seq (.ops [⟨some 21, none, .mv (.tmp 0)⟩,
       ⟨some 22, none, .mv (.tmp 1)⟩,
       ⟨some 23, none, .call (.func 101) [(.tmp 21), (.tmp 22)]⟩,
       ⟨some 24, none, .mv (.tmp 2)⟩,
       ⟨some 25, none, .bin .lss 0 (.tmp 23) (.tmp 24)⟩,
       ⟨some 20, none, .mv (.tmp 25)⟩])
     (.cond (.tmp 20) (.seq (.ops [⟨some 6, none, .mv (.const (.slice none 0 0))⟩,
        ⟨some 7, none, .mv (.const (.int .i64 5))⟩])
      .ret)
     .skip)))))))
 (.seq (.ops [⟨some 26, none, .mv (.tmp 0)⟩,
   ⟨some 27, none, .len false (.tmp 26)⟩,
   ⟨some 28, none, .mks [.int .i64 0] 8 (.tmp 27)⟩,
   ⟨some 8, none, .mv (.tmp 28)⟩])
 (.seq (.seq (.ops [⟨some 9, none, .mv (.const (.int .i64 0))⟩])
  (.block 1 (.loop (.seq (.seq (.ops [⟨some 29, none, .mv (.tmp 9)⟩,
       ⟨some 30, none, .bin .leq 0 (.tmp 29) (.const (.int .i64 2))⟩])
     (.cond (.tmp 30) .skip
     (.exit 1)))
    (.seq (.block 2 (.seq (.ops [⟨some 33, none, .mv (.tmp 0)⟩,
        ⟨some 34, none, .len false (.tmp 33)⟩,
        ⟨some 35, none, .mv (.const (.int .i64 0))⟩])
      (.block 3 (.loop (.seq (.ops [⟨some 36, none, .bin .lss 0 (.tmp 35) (.tmp 34)⟩])
        (.seq (.cond (.tmp 36) .skip
         (.exit 3))
        (.seq (.block 4 (.seq (.ops [⟨some 37, none, .mv (.tmp 35)⟩,
            ⟨some 38, none, .ia 3 (.tmp 33) (.tmp 35)⟩,
            ⟨some 39, none, .load true 3 (.tmp 38)⟩,
            ⟨some 11, none, .alloc [.string ⟨#[]⟩, .int .i64 0, .int .i64 0]⟩,
            ⟨some 10, none, .mv (.tmp 37)⟩,
            ⟨none, none, .store 3 (.tmp 11) (.tmp 39)⟩])
          (.seq (.ops [⟨some 40, none, .fa 0 (.tmp 11)⟩,
            ⟨some 41, none, .load false 1 (.tmp 40)⟩,
            ⟨some 42, none, .mv (.tmp 1)⟩,
            ⟨some 43, none, .bin .eql 0 (.tmp 41) (.tmp 42)⟩,
            ⟨some 44, none, .mv (.tmp 43)⟩,
            ⟨some 45, some (44, true), .fa 1 (.tmp 11)⟩,
            ⟨some 46, some (44, true), .load false 1 (.tmp 45)⟩,
            ⟨some 47, some (44, true), .mv (.tmp 9)⟩,
            ⟨some 48, some (44, true), .bin .eql 0 (.tmp 46) (.tmp 47)⟩,
            ⟨some 49, none, .pick (.tmp 44) (.tmp 48) (.const (.bool false))⟩])
          (.cond (.tmp 49) (.seq (.ops [⟨some 50, none, .mv (.tmp 8)⟩,
             ⟨some 51, none, .mv (.tmp 10)⟩,
             ⟨some 52, none, .fa 2 (.tmp 11)⟩,
             ⟨some 53, none, .load false 1 (.tmp 52)⟩,
             ⟨some 54, none, .mv (.tmp 2)⟩,
             ⟨some 55, none, .mn (.tmp 53) (.tmp 54)⟩,
             ⟨some 56, none, .ia 1 (.tmp 50) (.tmp 51)⟩,
             ⟨none, none, .store 1 (.tmp 56) (.tmp 55)⟩])
           (.ops [⟨some 57, none, .mv (.tmp 2)⟩,
            ⟨some 58, none, .mv (.tmp 8)⟩,
            ⟨some 59, none, .mv (.tmp 10)⟩,
            ⟨some 60, none, .ia 1 (.tmp 58) (.tmp 59)⟩,
            ⟨some 61, none, .load false 1 (.tmp 60)⟩,
            ⟨some 62, none, .bin .sub 0 (.tmp 57) (.tmp 61)⟩,
            ⟨some 2, none, .mv (.tmp 62)⟩]))
          .skip))))
        (.ops [⟨some 63, none, .bin .add 0 (.tmp 35) (.const (.int .i64 1))⟩,
         ⟨some 35, none, .mv (.tmp 63)⟩]))))))))
    (.ops [⟨some 31, none, .mv (.tmp 9)⟩,
     ⟨some 32, none, .bin .add 0 (.tmp 31) (.const (.int .i64 1))⟩,
     ⟨some 9, none, .mv (.tmp 32)⟩]))))))
 (.seq (.ops [⟨some 64, none, .mv (.tmp 8)⟩,
   ⟨some 6, none, .mv (.tmp 64)⟩,
   ⟨some 7, none, .mv (.const (.int .i64 0))⟩])
 .ret)))))
theorem C41_ok : Try.f41.body.bind (comp Try.prog) = some C41 := by kernel_rfl
theorem C41_res : compRs Try.prog Try.f41.results.toList = some [.tmp 6, .tmp 7] := by kernel_rfl
theorem C41_nm : (Try.f41.name == "runtime.NumGoroutine") = false := by kernel_rfl
theorem C41_fn {a0 a1 a2 : AV} {H : Heap} {Q : AV → Heap → Prop} (h : vc Try.prog C41 (vcEnd [.tmp 6, .tmp 7] Q) H [a0, a1, a2, .any, .any, .any, .any, .any, .any, .any, .any, .any, .any, .any, .any, .any, .any, .any, .any, .any, .any, .any, .any, .any, .any, .any, .any, .any, .any, .any, .any, .any, .any, .any, .any, .any, .any, .any, .any, .any, .any, .any, .any, .any, .any, .any, .any, .any, .any, .any, .any, .any, .any, .any, .any, .any, .any, .any, .any, .any, .any, .any, .any, .any, .any]) : Runs Try.prog 41 [a0, a1, a2] H Q :=
  @fn_go Try.prog mixed 41 Try.f41 C41 [.tmp 6, .tmp 7] Try.func41 C41_ok C41_res C41_nm 65 Try.ntmps41 [a0, a1, a2] [a0, a1, a2, .any, .any, .any, .any, .any, .any, .any, .any, .any, .any, .any, .any, .any, .any, .any, .any, .any, .any, .any, .any, .any, .any, .any, .any, .any, .any, .any, .any, .any, .any, .any, .any, .any, .any, .any, .any, .any, .any, .any, .any, .any, .any, .any, .any, .any, .any, .any, .any, .any, .any, .any, .any, .any, .any, .any, .any, .any, .any, .any, .any, .any, .any] H Q h 62 (by kernel_rfl) (by kernel_rfl)

/-- laws.FnExactPayFromSecurities -/
def C7 : CC :=
 (.seq (.ops [⟨some 6, none, .mv (.const (.bool false))⟩])
 (.seq (.seq (.ops [⟨some 18, none, .mv (.tmp 1)⟩,
    ⟨some 19, none, .len true (.tmp 18)⟩,
    ⟨some 20, none, .bin .gtr 0 (.tmp 19) (.const (.int .i64 1048576))⟩])
  (.cond (.tmp 20) (.seq (.ops [⟨some 6, none, .mv (.const (.bool true))⟩])
   .ret)
  .skip))
 (.seq (.ops [⟨some 7, none, .mv (.const (.int .i64 1048576))⟩])
 (.seq (.ops [⟨some 21, none, .mv (.tmp 0)⟩,
   ⟨some 22, none, .mv (.tmp 7)⟩,
   ⟨some 23, none, .call (.func 20) [(.tmp 21), (.tmp 22)]⟩,
   ⟨some 7, none, .mv (.tmp 23)⟩])
 (.seq (.seq (.ops [⟨some 24, none, .mv (.tmp 7)⟩,
    ⟨some 25, none, .bin .lss 0 (.tmp 24) (.const (.int .i64 0))⟩])
  (.cond (.tmp 25) (.seq (.ops [⟨some 6, none, .mv (.const (.bool true))⟩])
   .ret)
  .skip))
 (.seq (.ops [⟨some 27, none, .mv (.tmp 0)⟩,
   ⟨some 28, none, .call (.func 22) [(.tmp 27)]⟩,
   ⟨some 29, none, .mv (.tmp 1)⟩,
   ⟨some 30, none, .mv (.tmp 2)⟩,
   ⟨some 31, none, .call (.func 40) [(.tmp 28), (.tmp 29), (.tmp 30)]⟩,
   ⟨some 26, none, .mv (.tmp 31)⟩,
   ⟨some 32, none, .ext (.tmp 26) 0⟩,
   ⟨some 33, none, .ext (.tmp 26) 1⟩,
   ⟨some 8, none, .mv (.tmp 32)⟩,
   ⟨some 9, none, .mv (.tmp 33)⟩])
 (.seq (.ops [⟨some 34, none, .mv (.tmp 0)⟩,
   ⟨some 35, none, .call (.func 22) [(.tmp 34)]⟩,
   ⟨some 10, none, .mv (.tmp 35)⟩])
 (.seq (.ops [⟨some 37, none, .mv (.tmp 10)⟩,
   ⟨some 38, none, .mv (.tmp 1)⟩,
   ⟨some 39, none, .mv (.tmp 2)⟩,
   ⟨some 40, none, .call (.func 41) [(.tmp 37), (.tmp 38), (.tmp 39)]⟩,
   ⟨some 36, none, .mv (.tmp 40)⟩,
   ⟨some 41, none, .ext (.tmp 36) 0⟩,
   ⟨some 42, none, .ext (.tmp 36) 1⟩,
   ⟨some 11, none, .mv (.tmp 41)⟩,
   ⟨some 12, none, .mv (.tmp 42)⟩])
 (.seq (.seq (.ops [⟨some 43, none, .mv (.tmp 11)⟩,
    ⟨some 44, none, .mv (.tmp 8)⟩,
    ⟨some 45, none, .call (.func 24) [(.tmp 43), (.tmp 44)]⟩,
    ⟨some 46, none, .not (.tmp 45)⟩,
    ⟨some 47, none, .mv (.tmp 46)⟩,
    ⟨some 48, some (47, false), .mv (.tmp 12)⟩,
    ⟨some 49, some (47, false), .mv (.tmp 9)⟩,
    ⟨some 50, some (47, false), .bin .neq 0 (.tmp 48) (.tmp 49)⟩,
    ⟨some 51, none, .pick (.tmp 47) (.const (.bool true)) (.tmp 50)⟩])
  (.cond (.tmp 51) (.seq (.ops [⟨some 6, none, .mv (.const (.bool false))⟩])
   .ret)
  .skip))
 (.seq (.seq (.ops [⟨some 52, none, .mv (.tmp 10)⟩,
    ⟨some 53, none, .mv (.tmp 0)⟩,
    ⟨some 54, none, .call (.func 22) [(.tmp 53)]⟩,
    ⟨some 55, none, .call (.func 25) [(.tmp 52), (.tmp 54)]⟩,
    ⟨some 56, none, .not (.tmp 55)⟩])
  (.cond (.tmp 56) (.seq (.ops [⟨some 6, none, .mv (.const (.bool false))⟩])
   .ret)
  .skip))
 (.seq (.ops [⟨some 13, none, .mv (.const (.int .i64 1))⟩])
 (.seq (.ops [⟨some 57, none, .mv (.tmp 10)⟩,
   ⟨some 58, none, .mv (.tmp 13)⟩,
   ⟨some 59, none, .call (.func 26) [(.tmp 57), (.tmp 58)]⟩,
   ⟨some 13, none, .mv (.tmp 59)⟩])
 (.seq (.seq (.ops [⟨some 60, none, .mv (.tmp 13)⟩,
    ⟨some 61, none, .bin .lss 0 (.tmp 60) (.const (.int .i64 0))⟩,
    ⟨some 62, none, .mv (.tmp 61)⟩,
    ⟨some 63, some (62, false), .mv (.tmp 11)⟩,
    ⟨some 64, some (62, false), .mv (.tmp 8)⟩,
    ⟨some 65, some (62, false), .call (.func 24) [(.tmp 63), (.tmp 64)]⟩,
    ⟨some 66, some (62, false), .not (.tmp 65)⟩,
    ⟨some 67, none, .pick (.tmp 62) (.const (.bool true)) (.tmp 66)⟩,
    ⟨some 68, none, .mv (.tmp 67)⟩,
    ⟨some 69, some (68, false), .mv (.tmp 12)⟩,
    ⟨some 70, some (68, false), .mv (.tmp 9)⟩,
    ⟨some 71, some (68, false), .bin .neq 0 (.tmp 69) (.tmp 70)⟩,
    ⟨some 72, none, .pick (.tmp 68) (.const (.bool true)) (.tmp 71)⟩])
  (.cond (.tmp 72) (.seq (.ops [⟨some 6, none, .mv (.const (.bool false))⟩])
   .ret)
  .skip))
 (.seq (.ops [⟨some 14, none, .mv (.const (.int .i64 1))⟩])
 (.seq (.ops [⟨some 73, none, .mv (.tmp 11)⟩,
   ⟨some 74, none, .mv (.tmp 14)⟩,
   ⟨some 75, none, .call (.func 27) [(.tmp 73), (.tmp 74)]⟩,
   ⟨some 14, none, .mv (.tmp 75)⟩])
 (.seq (.ops [⟨some 15, none, .mv (.const (.int .i64 1))⟩])
 (.seq (.ops [⟨some 76, none, .mv (.tmp 11)⟩,
   ⟨some 77, none, .mv (.tmp 15)⟩,
   ⟨some 78, none, .call (.func 28) [(.tmp 76), (.tmp 77)]⟩,
   ⟨some 15, none, .mv (.tmp 78)⟩])
 (.seq (.seq (.ops [⟨some 79, none, .mv (.tmp 15)⟩,
    ⟨some 80, none, .bin .lss 0 (.tmp 79) (.const (.int .i64 0))⟩])
  (.cond (.tmp 80) (.seq (.ops [⟨some 6, none, .mv (.const (.bool false))⟩])
   .ret)
  .skip))
 (.seq (.seq (.ops [⟨some 81, none, .mv (.tmp 15)⟩,
    ⟨some 82, none, .mv (.tmp 14)⟩,
    ⟨some 83, none, .bin .neq 0 (.tmp 81) (.tmp 82)⟩])
  (.cond (.tmp 83) (.seq (.ops [⟨some 6, none, .mv (.const (.bool false))⟩])
   .ret)
  .skip))
 (.seq (.ops [⟨some 85, none, .mv (.tmp 0)⟩,
   ⟨some 86, none, .call (.func 22) [(.tmp 85)]⟩,
   ⟨some 87, none, .mv (.tmp 1)⟩,
   ⟨some 88, none, .mv (.tmp 2)⟩,
   ⟨some 89, none, .call (.func 41) [(.tmp 86), (.tmp 87), (.tmp 88)]⟩,
   ⟨some 84, none, .mv (.tmp 89)⟩,
   ⟨some 90, none, .ext (.tmp 84) 0⟩,
   ⟨some 91, none, .ext (.tmp 84) 1⟩,
   ⟨some 16, none, .mv (.tmp 90)⟩,
   ⟨some 17, none, .mv (.tmp 91)⟩])
 (.seq (.seq (.ops [⟨some 92, none, .mv (.tmp 16)⟩,
    ⟨some 93, none, .mv (.tmp 8)⟩,
    ⟨some 94, none, .call (.func 24) [(.tmp 92), (.tmp 93)]⟩,
    ⟨some 95, none, .not (.tmp 94)⟩,
    ⟨some 96, none, .mv (.tmp 95)⟩,
    ⟨some 97, some (96, false), .mv (.tmp 17)⟩,
    ⟨some 98, some (96, false), .mv (.tmp 9)⟩,
    ⟨some 99, some (96, false), .bin .neq 0 (.tmp 97) (.tmp 98)⟩,
    ⟨some 100, none, .pick (.tmp 96) (.const (.bool true)) (.tmp 99)⟩])
  (.cond (.tmp 100) (.seq (.ops [⟨some 6, none, .mv (.const (.bool false))⟩])
   .ret)
  .skip))
 (.seq (.ops [⟨some 15, none, .mv (.const (.int .i64 1))⟩])
 (.seq (.ops [⟨some 101, none, .mv (.tmp 11)⟩,
   ⟨some 102, none, .mv (.tmp 15)⟩,
   ⟨some 103, none, .call (.func 28) [(.tmp 101), (.tmp 102)]⟩,
   ⟨some 15, none, .mv (.tmp 103)⟩])
 (.seq (.seq (.ops [⟨some 104, none, .mv (.tmp 15)⟩,
    ⟨some 105, none, .bin .lss 0 (.tmp 104) (.const (.int .i64 0))⟩])
  (.cond (.tmp 105) (.seq (.ops [⟨some 6, none, .mv (.const (.bool false))⟩])
   .ret)
  .skip))
 (.seq (.seq (.ops [⟨some 106, none, .mv (.tmp 15)⟩,
    ⟨some 107, none, .mv (.tmp 14)⟩,
    ⟨some 108, none, .bin .neq 0 (.tmp 106) (.tmp 107)⟩])
  (.cond (.tmp 108) (.seq (.ops [⟨some 6, none, .mv (.const (.bool false))⟩])
   .ret)
  .skip))
 (.seq (.ops [⟨some 6, none, .mv (.const (.bool true))⟩])
 .ret))))))))))))))))))))))))))
theorem C7_ok : Try.f7.body.bind (comp Try.prog) = some C7 := by kernel_rfl
theorem C7_res : compRs Try.prog Try.f7.results.toList = some [.tmp 6] := by kernel_rfl
theorem C7_nm : (Try.f7.name == "runtime.NumGoroutine") = false := by kernel_rfl
theorem C7_fn {a0 a1 a2 : AV} {H : Heap} {Q : AV → Heap → Prop} (h : vc Try.prog C7 (vcEnd [.tmp 6] Q) H [a0, a1, a2, .any, .any, .any, .any, .any, .any, .any, .any, .any, .any, .any, .any, .any, .any, .any, .any, .any, .any, .any, .any, .any, .any, .any, .any, .any, .any, .any, .any, .any, .any, .any, .any, .any, .any, .any, .any, .any, .any, .any, .any, .any, .any, .any, .any, .any, .any, .any, .any, .any, .any, .any, .any, .any, .any, .any, .any, .any, .any, .any, .any, .any, .any, .any, .any, .any, .any, .any, .any, .any, .any, .any, .any, .any, .any, .any, .any, .any, .any, .any, .any, .any, .any, .any, .any, .any, .any, .any, .any, .any, .any, .any, .any, .any, .any, .any, .any, .any, .any, .any, .any, .any, .any, .any, .any, .any, .any]) : Runs Try.prog 7 [a0, a1, a2] H Q :=
  @fn_go Try.prog mixed 7 Try.f7 C7 [.tmp 6] Try.func7 C7_ok C7_res C7_nm 109 Try.ntmps7 [a0, a1, a2] [a0, a1, a2, .any, .any, .any, .any, .any, .any, .any, .any, .any, .any, .any, .any, .any, .any, .any, .any, .any, .any, .any, .any, .any, .any, .any, .any, .any, .any, .any, .any, .any, .any, .any, .any, .any, .any, .any, .any, .any, .any, .any, .any, .any, .any, .any, .any, .any, .any, .any, .any, .any, .any, .any, .any, .any, .any, .any, .any, .any, .any, .any, .any, .any, .any, .any, .any, .any, .any, .any, .any, .any, .any, .any, .any, .any, .any, .any, .any, .any, .any, .any, .any, .any, .any, .any, .any, .any, .any, .any, .any, .any, .any, .any, .any, .any, .any, .any, .any, .any, .any, .any, .any, .any, .any, .any, .any, .any, .any] H Q h 106 (by kernel_rfl) (by kernel_rfl)

/-- spec.l23Code -/
def C102 : CC :=
 (.seq (.ops [⟨some 4, none, .mv (.const (.int .i64 0))⟩])
 (.seq (.seq (.ops [⟨some 5, none, .mv (.tmp 0)⟩,
    ⟨some 6, none, .call (.func 89) [(.tmp 5)]⟩,
    ⟨some 7, none, .not (.tmp 6)⟩])
  (.cond (.tmp 7) (.seq (.ops [⟨some 4, none, .mv (.const (.int .i64 1))⟩])
   .ret)
  .skip))
 (.seq (.seq (.ops [⟨some 8, none, .mv (.tmp 1)⟩,
    ⟨some 9, none, .call (.func 98) [(.tmp 8)]⟩,
    ⟨some 10, none, .not (.tmp 9)⟩])
  (.cond (.tmp 10) (.seq (.ops [⟨some 4, none, .mv (.const (.int .i64 2))⟩])
   .ret)
  .skip))
 (.seq (.ops [⟨some 4, none, .mv (.const (.int .i64 0))⟩])
 .ret))))
theorem C102_ok : Try.f102.body.bind (comp Try.prog) = some C102 := by kernel_rfl
theorem C102_res : compRs Try.prog Try.f102.results.toList = some [.tmp 4] := by kernel_rfl
theorem C102_nm : (Try.f102.name == "runtime.NumGoroutine") = false := by kernel_rfl
theorem C102_fn {a0 a1 : AV} {H : Heap} {Q : AV → Heap → Prop} (h : vc Try.prog C102 (vcEnd [.tmp 4] Q) H [a0, a1, .any, .any, .any, .any, .any, .any, .any, .any, .any]) : Runs Try.prog 102 [a0, a1] H Q :=
  @fn_go Try.prog mixed 102 Try.f102 C102 [.tmp 4] Try.func102 C102_ok C102_res C102_nm 11 Try.ntmps102 [a0, a1] [a0, a1, .any, .any, .any, .any, .any, .any, .any, .any, .any] H Q h 9 (by kernel_rfl) (by kernel_rfl)

/-- spec.l01Sum -/
def C103 : CC :=
 (.seq (.ops [⟨some 2, none, .mv (.const (.int .i64 0))⟩])
 (.seq (.ops [⟨some 3, none, .mv (.const (.int .i64 0))⟩])
 (.seq (.seq (.ops [⟨some 4, none, .mv (.const (.int .i64 0))⟩])
  (.block 0 (.loop (.seq (.seq (.ops [⟨some 5, none, .mv (.tmp 4)⟩,
       ⟨some 6, none, .mv (.tmp 0)⟩,
       ⟨some 7, none, .len false (.tmp 6)⟩,
       ⟨some 8, none, .bin .lss 0 (.tmp 5) (.tmp 7)⟩])
     (.cond (.tmp 8) .skip
     (.exit 0)))
    (.seq (.block 1 (.ops [⟨some 11, none, .mv (.tmp 3)⟩,
       ⟨some 12, none, .mv (.tmp 0)⟩,
       ⟨some 13, none, .mv (.tmp 4)⟩,
       ⟨some 14, none, .ia 1 (.tmp 12) (.tmp 13)⟩,
       ⟨some 15, none, .load false 1 (.tmp 14)⟩,
       ⟨some 16, none, .bin .add 0 (.tmp 11) (.tmp 15)⟩,
       ⟨some 3, none, .mv (.tmp 16)⟩]))
    (.ops [⟨some 9, none, .mv (.tmp 4)⟩,
     ⟨some 10, none, .bin .add 0 (.tmp 9) (.const (.int .i64 1))⟩,
     ⟨some 4, none, .mv (.tmp 10)⟩]))))))
 (.seq (.ops [⟨some 17, none, .mv (.tmp 3)⟩,
   ⟨some 2, none, .mv (.tmp 17)⟩])
 .ret))))
theorem C103_ok : Try.f103.body.bind (comp Try.prog) = some C103 := by kernel_rfl
theorem C103_res : compRs Try.prog Try.f103.results.toList = some [.tmp 2] := by kernel_rfl
theorem C103_nm : (Try.f103.name == "runtime.NumGoroutine") = false := by kernel_rfl
theorem C103_fn {a0 : AV} {H : Heap} {Q : AV → Heap → Prop} (h : vc Try.prog C103 (vcEnd [.tmp 2] Q) H [a0, .any, .any, .any, .any, .any, .any, .any, .any, .any, .any, .any, .any, .any, .any, .any, .any, .any]) : Runs Try.prog 103 [a0] H Q :=
  @fn_go Try.prog mixed 103 Try.f103 C103 [.tmp 2] Try.func103 C103_ok C103_res C103_nm 18 Try.ntmps103 [a0] [a0, .any, .any, .any, .any, .any, .any, .any, .any, .any, .any, .any, .any, .any, .any, .any, .any, .any] H Q h 17 (by kernel_rfl) (by kernel_rfl)

/-- spec.l23Asked -/
def C104 : CC :=
 (.seq (.ops [⟨some 4, none, .mv (.const (.slice none 0 0))⟩])
 (.seq (.ops [⟨some 8, none, .lit 1 []⟩,
   ⟨some 5, none, .mv (.tmp 8)⟩])
 (.seq (.seq (.ops [⟨some 6, none, .mv (.const (.int .i64 0))⟩])
  (.block 0 (.loop (.seq (.seq (.ops [⟨some 9, none, .mv (.tmp 6)⟩,
       ⟨some 10, none, .mv (.tmp 0)⟩,
       ⟨some 11, none, .len false (.tmp 10)⟩,
       ⟨some 12, none, .bin .lss 0 (.tmp 9) (.tmp 11)⟩])
     (.cond (.tmp 12) .skip
     (.exit 0)))
    (.seq (.block 1 (.seq (.ops [⟨some 7, none, .mv (.const (.int .i64 0))⟩])
      (.seq (.seq (.ops [⟨some 15, none, .mv (.tmp 0)⟩,
         ⟨some 16, none, .mv (.tmp 6)⟩,
         ⟨some 17, none, .ia 3 (.tmp 15) (.tmp 16)⟩,
         ⟨some 18, none, .fa 1 (.tmp 17)⟩,
         ⟨some 19, none, .load false 1 (.tmp 18)⟩,
         ⟨some 20, none, .mv (.tmp 1)⟩,
         ⟨some 21, none, .bin .eql 0 (.tmp 19) (.tmp 20)⟩])
       (.cond (.tmp 21) (.ops [⟨some 22, none, .mv (.tmp 0)⟩,
         ⟨some 23, none, .mv (.tmp 6)⟩,
         ⟨some 24, none, .ia 3 (.tmp 22) (.tmp 23)⟩,
         ⟨some 25, none, .fa 2 (.tmp 24)⟩,
         ⟨some 26, none, .load false 1 (.tmp 25)⟩,
         ⟨some 7, none, .mv (.tmp 26)⟩])
       .skip))
      (.ops [⟨some 27, none, .mv (.tmp 5)⟩,
       ⟨some 28, none, .mv (.tmp 7)⟩,
       ⟨some 29, none, .lit 1 [(.tmp 28)]⟩,
       ⟨some 30, none, .app 1 8 (.tmp 27) (.tmp 29)⟩,
       ⟨some 5, none, .mv (.tmp 30)⟩]))))
    (.ops [⟨some 13, none, .mv (.tmp 6)⟩,
     ⟨some 14, none, .bin .add 0 (.tmp 13) (.const (.int .i64 1))⟩,
     ⟨some 6, none, .mv (.tmp 14)⟩]))))))
 (.seq (.ops [⟨some 31, none, .mv (.tmp 5)⟩,
   ⟨some 4, none, .mv (.tmp 31)⟩])
 .ret))))
theorem C104_ok : Try.f104.body.bind (comp Try.prog) = some C104 := by kernel_rfl
theorem C104_res : compRs Try.prog Try.f104.results.toList = some [.tmp 4] := by kernel_rfl
theorem C104_nm : (Try.f104.name == "runtime.NumGoroutine") = false := by kernel_rfl
theorem C104_fn {a0 a1 : AV} {H : Heap} {Q : AV → Heap → Prop} (h : vc Try.prog C104 (vcEnd [.tmp 4] Q) H [a0, a1, .any, .any, .any, .any, .any, .any, .any, .any, .any, .any, .any, .any, .any, .any, .any, .any, .any, .any, .any, .any, .any, .any, .any, .any, .any, .any, .any, .any, .any, .any]) : Runs Try.prog 104 [a0, a1] H Q :=
  @fn_go Try.prog mixed 104 Try.f104 C104 [.tmp 4] Try.func104 C104_ok C104_res C104_nm 32 Try.ntmps104 [a0, a1] [a0, a1, .any, .any, .any, .any, .any, .any, .any, .any, .any, .any, .any, .any, .any, .any, .any, .any, .any, .any, .any, .any, .any, .any, .any, .any, .any, .any, .any, .any, .any, .any] H Q h 30 (by kernel_rfl) (by kernel_rfl)

/-- spec.l04Result -/
def C105 : CC :=
 (.seq (.ops [⟨some 2, none, .mv (.const (.int .i64 0))⟩,
   ⟨some 3, none, .mv (.const (.int .i64 0))⟩])
 (.seq (.seq (.ops [⟨some 4, none, .mv (.tmp 0)⟩,
    ⟨some 5, none, .call (.func 98) [(.tmp 4)]⟩,
    ⟨some 6, none, .not (.tmp 5)⟩])
  (.cond (.tmp 6) (.seq (.ops [⟨some 2, none, .mv (.const (.int .i64 0))⟩,
     ⟨some 3, none, .mv (.const (.int .i64 3))⟩])
   .ret)
  .skip))
 (.seq (.ops [⟨some 7, none, .mv (.tmp 0)⟩,
   ⟨some 2, none, .mv (.tmp 7)⟩,
   ⟨some 3, none, .mv (.const (.int .i64 0))⟩])
 .ret)))
theorem C105_ok : Try.f105.body.bind (comp Try.prog) = some C105 := by kernel_rfl
theorem C105_res : compRs Try.prog Try.f105.results.toList = some [.tmp 2, .tmp 3] := by kernel_rfl
theorem C105_nm : (Try.f105.name == "runtime.NumGoroutine") = false := by kernel_rfl
theorem C105_fn {a0 : AV} {H : Heap} {Q : AV → Heap → Prop} (h : vc Try.prog C105 (vcEnd [.tmp 2, .tmp 3] Q) H [a0, .any, .any, .any, .any, .any, .any, .any]) : Runs Try.prog 105 [a0] H Q :=
  @fn_go Try.prog mixed 105 Try.f105 C105 [.tmp 2, .tmp 3] Try.func105 C105_ok C105_res C105_nm 8 Try.ntmps105 [a0] [a0, .any, .any, .any, .any, .any, .any, .any] H Q h 7 (by kernel_rfl) (by kernel_rfl)

/-- spec.l01Floor -/
def C147 : CC :=
 (.seq (.ops [⟨some 4, none, .mv (.const (.int .i64 0))⟩])
 (.seq (.seq (.ops [⟨some 6, none, .mv (.tmp 1)⟩,
    ⟨some 7, none, .bin .lss 0 (.tmp 6) (.const (.int .i64 0))⟩])
  (.cond (.tmp 7) (.ops [⟨some 8, none, .mv (.tmp 0)⟩,
    ⟨some 9, none, .neg (.tmp 8)⟩,
    ⟨some 10, none, .mv (.tmp 1)⟩,
    ⟨some 11, none, .neg (.tmp 10)⟩,
    ⟨some 0, none, .mv (.tmp 9)⟩,
    ⟨some 1, none, .mv (.tmp 11)⟩])
  .skip))
 (.seq (.ops [⟨some 12, none, .mv (.tmp 0)⟩,
   ⟨some 13, none, .mv (.tmp 1)⟩,
   ⟨some 14, none, .bin .quo 0 (.tmp 12) (.tmp 13)⟩,
   ⟨some 5, none, .mv (.tmp 14)⟩])
 (.seq (.seq (.ops [⟨some 15, none, .mv (.tmp 0)⟩,
    ⟨some 16, none, .mv (.tmp 1)⟩,
    ⟨some 17, none, .bin .rem 0 (.tmp 15) (.tmp 16)⟩,
    ⟨some 18, none, .bin .lss 0 (.tmp 17) (.const (.int .i64 0))⟩])
  (.cond (.tmp 18) (.ops [⟨some 19, none, .mv (.tmp 5)⟩,
    ⟨some 20, none, .bin .sub 0 (.tmp 19) (.const (.int .i64 1))⟩,
    ⟨some 5, none, .mv (.tmp 20)⟩])
  .skip))
 (.seq (.ops [⟨some 21, none, .mv (.tmp 5)⟩,
   ⟨some 4, none, .mv (.tmp 21)⟩])
 .ret)))))
theorem C147_ok : Try.f147.body.bind (comp Try.prog) = some C147 := by kernel_rfl
theorem C147_res : compRs Try.prog Try.f147.results.toList = some [.tmp 4] := by kernel_rfl
theorem C147_nm : (Try.f147.name == "runtime.NumGoroutine") = false := by kernel_rfl
theorem C147_fn {a0 a1 : AV} {H : Heap} {Q : AV → Heap → Prop} (h : vc Try.prog C147 (vcEnd [.tmp 4] Q) H [a0, a1, .any, .any, .any, .any, .any, .any, .any, .any, .any, .any, .any, .any, .any, .any, .any, .any, .any, .any, .any, .any]) : Runs Try.prog 147 [a0, a1] H Q :=
  @fn_go Try.prog mixed 147 Try.f147 C147 [.tmp 4] Try.func147 C147_ok C147_res C147_nm 22 Try.ntmps147 [a0, a1] [a0, a1, .any, .any, .any, .any, .any, .any, .any, .any, .any, .any, .any, .any, .any, .any, .any, .any, .any, .any, .any, .any] H Q h 20 (by kernel_rfl) (by kernel_rfl)

/-- spec.l01Ceil -/
def C106 : CC :=
 (.seq (.ops [⟨some 4, none, .mv (.const (.int .i64 0))⟩])
 (.seq (.ops [⟨some 5, none, .mv (.tmp 0)⟩,
   ⟨some 6, none, .neg (.tmp 5)⟩,
   ⟨some 7, none, .mv (.tmp 1)⟩,
   ⟨some 8, none, .call (.func 147) [(.tmp 6), (.tmp 7)]⟩,
   ⟨some 9, none, .neg (.tmp 8)⟩,
   ⟨some 4, none, .mv (.tmp 9)⟩])
 .ret))
theorem C106_ok : Try.f106.body.bind (comp Try.prog) = some C106 := by kernel_rfl
theorem C106_res : compRs Try.prog Try.f106.results.toList = some [.tmp 4] := by kernel_rfl
theorem C106_nm : (Try.f106.name == "runtime.NumGoroutine") = false := by kernel_rfl
theorem C106_fn {a0 a1 : AV} {H : Heap} {Q : AV → Heap → Prop} (h : vc Try.prog C106 (vcEnd [.tmp 4] Q) H [a0, a1, .any, .any, .any, .any, .any, .any, .any, .any]) : Runs Try.prog 106 [a0, a1] H Q :=
  @fn_go Try.prog mixed 106 Try.f106 C106 [.tmp 4] Try.func106 C106_ok C106_res C106_nm 10 Try.ntmps106 [a0, a1] [a0, a1, .any, .any, .any, .any, .any, .any, .any, .any] H Q h 8 (by kernel_rfl) (by kernel_rfl)

/-- spec.SafeFund -/
def C42 : CC :=
 (.seq (.ops [⟨some 6, none, .mv (.const (.int .i64 0))⟩,
   ⟨some 7, none, .mv (.const (.int .i64 0))⟩])
 (.seq (.ops [⟨some 13, none, .mv (.tmp 0)⟩,
   ⟨some 14, none, .mv (.tmp 2)⟩,
   ⟨some 15, none, .call (.func 102) [(.tmp 13), (.tmp 14)]⟩,
   ⟨some 8, none, .mv (.tmp 15)⟩])
 (.seq (.seq (.ops [⟨some 16, none, .mv (.tmp 8)⟩,
    ⟨some 17, none, .bin .neq 0 (.tmp 16) (.const (.int .i64 0))⟩])
  (.cond (.tmp 17) (.seq (.ops [⟨some 18, none, .mv (.tmp 8)⟩,
     ⟨some 6, none, .mv (.const (.int .i64 0))⟩,
     ⟨some 7, none, .mv (.tmp 18)⟩])
   .ret)
  .skip))
 (.seq (.ops [⟨some 19, none, .mv (.tmp 0)⟩,
   ⟨some 20, none, .mv (.tmp 1)⟩,
   ⟨some 21, none, .call (.func 91) [(.tmp 19), (.tmp 20)]⟩,
   ⟨some 9, none, .mv (.tmp 21)⟩])
 (.seq (.seq (.ops [⟨some 22, none, .mv (.tmp 9)⟩,
    ⟨some 23, none, .bin .lss 0 (.tmp 22) (.const (.int .i64 0))⟩])
  (.cond (.tmp 23) (.seq (.ops [⟨some 6, none, .mv (.const (.int .i64 0))⟩,
     ⟨some 7, none, .mv (.const (.int .i64 4))⟩])
   .ret)
  .skip))
 (.seq (.seq (.ops [⟨some 24, none, .mv (.tmp 0)⟩,
    ⟨some 25, none, .mv (.tmp 9)⟩,
    ⟨some 26, none, .ia 3 (.tmp 24) (.tmp 25)⟩,
    ⟨some 27, none, .fa 2 (.tmp 26)⟩,
    ⟨some 28, none, .load false 1 (.tmp 27)⟩,
    ⟨some 29, none, .mv (.tmp 2)⟩,
    ⟨some 30, none, .bin .lss 0 (.tmp 28) (.tmp 29)⟩])
  (.cond (.tmp 30) (.seq (.ops [⟨some 6, none, .mv (.const (.int .i64 0))⟩,
     ⟨some 7, none, .mv (.const (.int .i64 5))⟩])
   .ret)
  .skip))
 (.seq (.ops [⟨some 10, none, .mv (.const (.int .i64 0))⟩])
 (.seq (.seq (.ops [⟨some 11, none, .mv (.const (.int .i64 0))⟩])
  (.block 0 (.loop (.seq (.seq (.ops [⟨some 31, none, .mv (.tmp 11)⟩,
       ⟨some 32, none, .mv (.tmp 0)⟩,
       ⟨some 33, none, .len false (.tmp 32)⟩,
       ⟨some 34, none, .bin .lss 0 (.tmp 31) (.tmp 33)⟩])
     (.cond (.tmp 34) .skip
     (.exit 0)))
    (.seq (.block 1 (.seq (.draw 11 [⟨some 37, none, .mv (.tmp 0)⟩,
        ⟨some 38, none, .mv (.tmp 11)⟩,
        ⟨some 39, none, .ia 3 (.tmp 37) (.tmp 38)⟩,
        ⟨some 40, none, .fa 1 (.tmp 39)⟩,
        ⟨some 41, none, .load false 1 (.tmp 40)⟩,
        ⟨some 42, none, .mv (.tmp 0)⟩,
        ⟨some 43, none, .mv (.tmp 9)⟩,
        ⟨some 44, none, .ia 3 (.tmp 42) (.tmp 43)⟩,
        ⟨some 45, none, .fa 1 (.tmp 44)⟩,
        ⟨some 46, none, .load false 1 (.tmp 45)⟩,
        ⟨some 47, none, .bin .lss 0 (.tmp 41) (.tmp 46)⟩])
      (.cond (.tmp 47) (.ops [⟨some 48, none, .mv (.tmp 10)⟩,
        ⟨some 49, none, .mv (.tmp 0)⟩,
        ⟨some 50, none, .mv (.tmp 11)⟩,
        ⟨some 51, none, .ia 3 (.tmp 49) (.tmp 50)⟩,
        ⟨some 52, none, .fa 2 (.tmp 51)⟩,
        ⟨some 53, none, .load false 1 (.tmp 52)⟩,
        ⟨some 54, none, .bin .add 0 (.tmp 48) (.tmp 53)⟩,
        ⟨some 10, none, .mv (.tmp 54)⟩])
      .skip)))
    (.ops [⟨some 35, none, .mv (.tmp 11)⟩,
     ⟨some 36, none, .bin .add 0 (.tmp 35) (.const (.int .i64 1))⟩,
     ⟨some 11, none, .mv (.tmp 36)⟩]))))))
 (.seq (.ops [⟨some 55, none, .mv (.tmp 0)⟩,
   ⟨some 56, none, .mv (.tmp 0)⟩,
   ⟨some 57, none, .mv (.tmp 9)⟩,
   ⟨some 58, none, .ia 3 (.tmp 56) (.tmp 57)⟩,
   ⟨some 59, none, .fa 1 (.tmp 58)⟩,
   ⟨some 60, none, .load false 1 (.tmp 59)⟩,
   ⟨some 61, none, .call (.func 104) [(.tmp 55), (.tmp 60)]⟩,
   ⟨some 62, none, .call (.func 103) [(.tmp 61)]⟩,
   ⟨some 12, none, .mv (.tmp 62)⟩])
 (.seq (.seq (.ops [⟨some 63, none, .mv (.tmp 12)⟩,
    ⟨some 64, none, .call (.func 98) [(.tmp 63)]⟩,
    ⟨some 65, none, .not (.tmp 64)⟩])
  (.cond (.tmp 65) (.seq (.ops [⟨some 6, none, .mv (.const (.int .i64 0))⟩,
     ⟨some 7, none, .mv (.const (.int .i64 3))⟩])
   .ret)
  .skip))
 (.seq (.seq (.ops [⟨some 66, none, .mv (.tmp 2)⟩,
    ⟨some 67, none, .bin .eql 0 (.tmp 66) (.const (.int .i64 0))⟩])
  (.cond (.tmp 67) (.seq (.ops [⟨some 6, none, .mv (.const (.int .i64 0))⟩,
     ⟨some 7, none, .mv (.const (.int .i64 0))⟩])
   .ret)
  .skip))
 (.seq (.ops [⟨some 68, none, .mv (.tmp 10)⟩,
   ⟨some 69, none, .mv (.tmp 2)⟩,
   ⟨some 70, none, .mv (.tmp 12)⟩,
   ⟨some 71, none, .bin .mul 0 (.tmp 69) (.tmp 70)⟩,
   ⟨some 72, none, .mv (.tmp 0)⟩,
   ⟨some 73, none, .mv (.tmp 9)⟩,
   ⟨some 74, none, .ia 3 (.tmp 72) (.tmp 73)⟩,
   ⟨some 75, none, .fa 2 (.tmp 74)⟩,
   ⟨some 76, none, .load false 1 (.tmp 75)⟩,
   ⟨some 77, none, .call (.func 106) [(.tmp 71), (.tmp 76)]⟩,
   ⟨some 78, none, .bin .add 0 (.tmp 68) (.tmp 77)⟩,
   ⟨some 79, none, .call (.func 105) [(.tmp 78)]⟩,
   ⟨some 80, none, .ext (.tmp 79) 0⟩,
   ⟨some 81, none, .ext (.tmp 79) 1⟩,
   ⟨some 6, none, .mv (.tmp 80)⟩,
   ⟨some 7, none, .mv (.tmp 81)⟩])
 .ret))))))))))))
theorem C42_ok : Try.f42.body.bind (comp Try.prog) = some C42 := by kernel_rfl
theorem C42_res : compRs Try.prog Try.f42.results.toList = some [.tmp 6, .tmp 7] := by kernel_rfl
theorem C42_nm : (Try.f42.name == "runtime.NumGoroutine") = false := by kernel_rfl
theorem C42_fn {a0 a1 a2 : AV} {H : Heap} {Q : AV → Heap → Prop} (h : vc Try.prog C42 (vcEnd [.tmp 6, .tmp 7] Q) H [a0, a1, a2, .any, .any, .any, .any, .any, .any, .any, .any, .any, .any, .any, .any, .any, .any, .any, .any, .any, .any, .any, .any, .any, .any, .any, .any, .any, .any, .any, .any, .any, .any, .any, .any, .any, .any, .any, .any, .any, .any, .any, .any, .any, .any, .any, .any, .any, .any, .any, .any, .any, .any, .any, .any, .any, .any, .any, .any, .any, .any, .any, .any, .any, .any, .any, .any, .any, .any, .any, .any, .any, .any, .any, .any, .any, .any, .any, .any, .any, .any, .any]) : Runs Try.prog 42 [a0, a1, a2] H Q :=
  @fn_go Try.prog mixed 42 Try.f42 C42 [.tmp 6, .tmp 7] Try.func42 C42_ok C42_res C42_nm 82 Try.ntmps42 [a0, a1, a2] [a0, a1, a2, .any, .any, .any, .any, .any, .any, .any, .any, .any, .any, .any, .any, .any, .any, .any, .any, .any, .any, .any, .any, .any, .any, .any, .any, .any, .any, .any, .any, .any, .any, .any, .any, .any, .any, .any, .any, .any, .any, .any, .any, .any, .any, .any, .any, .any, .any, .any, .any, .any, .any, .any, .any, .any, .any, .any, .any, .any, .any, .any, .any, .any, .any, .any, .any, .any, .any, .any, .any, .any, .any, .any, .any, .any, .any, .any, .any, .any, .any, .any] H Q h 79 (by kernel_rfl) (by kernel_rfl)

/-- impl.demanded -/
def C107 : CC :=
 (.seq (.ops [⟨some 4, none, .mv (.const (.int .i64 0))⟩])
 (.seq (.block 0 (.seq (.ops [⟨some 6, none, .mv (.tmp 0)⟩,
     ⟨some 7, none, .call (.func 93) [(.tmp 6)]⟩,
     ⟨some 8, none, .not (.tmp 7)⟩,
     ⟨some 5, none, .mv (.tmp 8)⟩])
   (.cond (.tmp 5) (.seq (.ops [⟨some 4, none, .mv (.const (.int .i64 1))⟩])
    .ret)
   (.seq (.ops [⟨some 10, none, .mv (.tmp 1)⟩,
      ⟨some 11, none, .call (.func 100) [(.tmp 10)]⟩,
      ⟨some 12, none, .not (.tmp 11)⟩,
      ⟨some 9, none, .mv (.tmp 12)⟩])
    (.cond (.tmp 9) (.seq (.ops [⟨some 4, none, .mv (.const (.int .i64 2))⟩])
     .ret)
    .skip)))))
 (.seq (.ops [⟨some 4, none, .mv (.const (.int .i64 0))⟩])
 .ret)))
theorem C107_ok : Try.f107.body.bind (comp Try.prog) = some C107 := by kernel_rfl
theorem C107_res : compRs Try.prog Try.f107.results.toList = some [.tmp 4] := by kernel_rfl
theorem C107_nm : (Try.f107.name == "runtime.NumGoroutine") = false := by kernel_rfl
theorem C107_fn {a0 a1 : AV} {H : Heap} {Q : AV → Heap → Prop} (h : vc Try.prog C107 (vcEnd [.tmp 4] Q) H [a0, a1, .any, .any, .any, .any, .any, .any, .any, .any, .any, .any, .any]) : Runs Try.prog 107 [a0, a1] H Q :=
  @fn_go Try.prog mixed 107 Try.f107 C107 [.tmp 4] Try.func107 C107_ok C107_res C107_nm 13 Try.ntmps107 [a0, a1] [a0, a1, .any, .any, .any, .any, .any, .any, .any, .any, .any, .any, .any] H Q h 11 (by kernel_rfl) (by kernel_rfl)

/-- impl.asked -/
def C108 : CC :=
 (.seq (.ops [⟨some 6, none, .mv (.const (.int .i64 0))⟩])
 (.seq (.ops [⟨some 7, none, .mv (.const (.int .i64 0))⟩])
 (.seq (.seq (.ops [⟨some 10, none, .mv (.tmp 0)⟩,
    ⟨some 11, none, .len false (.tmp 10)⟩,
    ⟨some 12, none, .mv (.const (.int .i64 0))⟩])
  (.block 0 (.loop (.seq (.ops [⟨some 13, none, .bin .lss 0 (.tmp 12) (.tmp 11)⟩])
    (.seq (.cond (.tmp 13) .skip
     (.exit 0))
    (.seq (.block 1 (.seq (.ops [⟨some 14, none, .ia 3 (.tmp 10) (.tmp 12)⟩,
        ⟨some 15, none, .load true 3 (.tmp 14)⟩,
        ⟨some 9, none, .alloc [.string ⟨#[]⟩, .int .i64 0, .int .i64 0]⟩,
        ⟨none, none, .store 3 (.tmp 9) (.tmp 15)⟩])
      (.seq (.ops [⟨some 16, none, .fa 1 (.tmp 9)⟩,
        ⟨some 17, none, .load false 1 (.tmp 16)⟩,
        ⟨some 18, none, .mv (.tmp 1)⟩,
        ⟨some 19, none, .mv (.tmp 2)⟩,
        ⟨some 20, none, .call (.func 87) [(.tmp 17), (.tmp 18), (.tmp 19)]⟩])
      (.cond (.tmp 20) (.ops [⟨some 21, none, .mv (.tmp 7)⟩,
        ⟨some 22, none, .fa 2 (.tmp 9)⟩,
        ⟨some 23, none, .load false 1 (.tmp 22)⟩,
        ⟨some 24, none, .bin .add 0 (.tmp 21) (.tmp 23)⟩,
        ⟨some 7, none, .mv (.tmp 24)⟩])
      .skip))))
    (.ops [⟨some 25, none, .bin .add 0 (.tmp 12) (.const (.int .i64 1))⟩,
     ⟨some 12, none, .mv (.tmp 25)⟩])))))))
 (.seq (.ops [⟨some 26, none, .mv (.tmp 7)⟩,
   ⟨some 6, none, .mv (.tmp 26)⟩])
 .ret))))
theorem C108_ok : Try.f108.body.bind (comp Try.prog) = some C108 := by kernel_rfl
theorem C108_res : compRs Try.prog Try.f108.results.toList = some [.tmp 6] := by kernel_rfl
theorem C108_nm : (Try.f108.name == "runtime.NumGoroutine") = false := by kernel_rfl
theorem C108_fn {a0 a1 a2 : AV} {H : Heap} {Q : AV → Heap → Prop} (h : vc Try.prog C108 (vcEnd [.tmp 6] Q) H [a0, a1, a2, .any, .any, .any, .any, .any, .any, .any, .any, .any, .any, .any, .any, .any, .any, .any, .any, .any, .any, .any, .any, .any, .any, .any, .any]) : Runs Try.prog 108 [a0, a1, a2] H Q :=
  @fn_go Try.prog mixed 108 Try.f108 C108 [.tmp 6] Try.func108 C108_ok C108_res C108_nm 27 Try.ntmps108 [a0, a1, a2] [a0, a1, a2, .any, .any, .any, .any, .any, .any, .any, .any, .any, .any, .any, .any, .any, .any, .any, .any, .any, .any, .any, .any, .any, .any, .any, .any] H Q h 24 (by kernel_rfl) (by kernel_rfl)

/-- impl.amountOf -/
def C109 : CC :=
 (.seq (.ops [⟨some 2, none, .mv (.const (.int .i64 0))⟩,
   ⟨some 3, none, .mv (.const (.int .i64 0))⟩])
 (.seq (.seq (.ops [⟨some 4, none, .mv (.tmp 0)⟩,
    ⟨some 5, none, .call (.func 100) [(.tmp 4)]⟩,
    ⟨some 6, none, .not (.tmp 5)⟩])
  (.cond (.tmp 6) (.seq (.ops [⟨some 2, none, .mv (.const (.int .i64 0))⟩,
     ⟨some 3, none, .mv (.const (.int .i64 3))⟩])
   .ret)
  .skip))
 (.seq (.ops [⟨some 7, none, .mv (.tmp 0)⟩,
   ⟨some 2, none, .mv (.tmp 7)⟩,
   ⟨some 3, none, .mv (.const (.int .i64 0))⟩])
 .ret)))
theorem C109_ok : Try.f109.body.bind (comp Try.prog) = some C109 := by kernel_rfl
theorem C109_res : compRs Try.prog Try.f109.results.toList = some [.tmp 2, .tmp 3] := by kernel_rfl
theorem C109_nm : (Try.f109.name == "runtime.NumGoroutine") = false := by kernel_rfl
theorem C109_fn {a0 : AV} {H : Heap} {Q : AV → Heap → Prop} (h : vc Try.prog C109 (vcEnd [.tmp 2, .tmp 3] Q) H [a0, .any, .any, .any, .any, .any, .any, .any]) : Runs Try.prog 109 [a0] H Q :=
  @fn_go Try.prog mixed 109 Try.f109 C109 [.tmp 2, .tmp 3] Try.func109 C109_ok C109_res C109_nm 8 Try.ntmps109 [a0] [a0, .any, .any, .any, .any, .any, .any, .any] H Q h 7 (by kernel_rfl) (by kernel_rfl)

end Go.Proofs.Ytbgnlnlgjmipfaa
